/- Texts of this proof, one behind the other. -/
import Derived.Test.YtbeoiejnogdkpaaGreatBBackEdits1
import Derived.Test.YtbeoiejnogdkpaaGreatProg
import Derived.KernelRfl
import Derived.Sort.LotC
import Derived.Sort.AssemblyPlain
set_option linter.unusedSimpArgs false
set_option linter.unusedVariables false
set_option maxRecDepth 4000
namespace Go.Proofs.YtbeoiejnogdkpaaGreat.Sy
section
open Go Go.RowKit
abbrev Aq:Nat:=385
def Ey:Fn1:=⟨7,[.t 2],(.seq (.reg [o 2 (.mov (.k (.int .u64 0)))]) (.seq (.reg [o 3 (.mov (.t 0)),o 4 (.cvi .u64 (.t 3)),o 5 (.call 284 [(.t 4)]),o 6 (.bin .shl (.k (.int .u64 1)) (.t 5)),o 2 (.mov (.t 6))]) .ret))⟩
theorem Ih:A5 Tryz.prog Aq=some Ey:=by kernel_rfl
abbrev Ap:Nat:=386
def Fg:Fn1:=⟨33,[.t 2],(.seq (.reg [o 2 (.mov (.k (.int .u64 0)))]) (.seq (.drw [o 3 (.mov (.t 0)),o 4 (.nck (.t 3)),o 5 (.ld false 1 (.t 4)),o 6 (.mov (.t 0)),o 7 (.nck (.t 6)),o 8 (.ld false 1 (.t 7))] [o 9 (.bin .shl (.t 8) (.k (.int .u64 13))),o 10 (.bin .xor (.t 5) (.t 9)),o 11 (.nck (.t 3)),on (.st 1 (.t 11) (.t 10))]) (.seq (.drw [o 12 (.mov (.t 0)),o 13 (.nck (.t 12)),o 14 (.ld false 1 (.t 13)),o 15 (.mov (.t 0)),o 16 (.nck (.t 15)),o 17 (.ld false 1 (.t 16))] [o 18 (.bin .shr (.t 17) (.k (.int .u64 7))),o 19 (.bin .xor (.t 14) (.t 18)),o 20 (.nck (.t 12)),on (.st 1 (.t 20) (.t 19))]) (.seq (.drw [o 21 (.mov (.t 0)),o 22 (.nck (.t 21)),o 23 (.ld false 1 (.t 22)),o 24 (.mov (.t 0)),o 25 (.nck (.t 24)),o 26 (.ld false 1 (.t 25))] [o 27 (.bin .shl (.t 26) (.k (.int .u64 17))),o 28 (.bin .xor (.t 23) (.t 27)),o 29 (.nck (.t 21)),on (.st 1 (.t 29) (.t 28))]) (.seq (.reg [o 30 (.mov (.t 0)),o 31 (.nck (.t 30)),o 32 (.ld false 1 (.t 31)),o 2 (.mov (.t 32))]) .ret)))))⟩
theorem J9:A5 Tryz.prog Ap=some Fg:=by kernel_rfl
abbrev Ez:Nat:=284
def Ks:Fn1:=⟨8,[.t 2],(.seq (.reg [o 2 (.mov (.k (.int .i64 0)))]) (.seq (.cnd (.k (.bool false)) (.seq (.reg [o 3 (.mov (.t 0)),o 4 (.cvi .u32 (.t 3)),o 5 (.call 358 [(.t 4)]),o 2 (.mov (.t 5))]) .ret) .skip) (.seq (.reg [o 6 (.mov (.t 0)),o 7 (.call 359 [(.t 6)]),o 2 (.mov (.t 7))]) .ret)))⟩
theorem Qj:A5 Tryz.prog Ez=some Ks:=by kernel_rfl
abbrev Ii:Nat:=359
def Bp:Fn1:=⟨25,[.t 2],(.seq (.reg [o 2 (.mov (.k (.int .i64 0)))]) (.seq (.seq (.reg [o 3 (.mov (.t 0)),o 4 (.bin .geq (.t 3) (.k (.int .u64 4294967296)))]) (.cnd (.t 4) (.seq (.reg [o 5 (.mov (.t 0)),o 6 (.bin .shr (.t 5) (.k (.int .u64 32))),o 0 (.mov (.t 6))]) (.reg [o 2 (.mov (.k (.int .i64 32)))])) .skip)) (.seq (.seq (.reg [o 7 (.mov (.t 0)),o 8 (.bin .geq (.t 7) (.k (.int .u64 65536)))]) (.cnd (.t 8) (.seq (.reg [o 9 (.mov (.t 0)),o 10 (.bin .shr (.t 9) (.k (.int .u64 16))),o 0 (.mov (.t 10))]) (.reg [o 11 (.mov (.t 2)),o 12 (.bin .add (.t 11) (.k (.int .i64 16))),o 2 (.mov (.t 12))])) .skip)) (.seq (.seq (.reg [o 13 (.mov (.t 0)),o 14 (.bin .geq (.t 13) (.k (.int .u64 256)))]) (.cnd (.t 14) (.seq (.reg [o 15 (.mov (.t 0)),o 16 (.bin .shr (.t 15) (.k (.int .u64 8))),o 0 (.mov (.t 16))]) (.reg [o 17 (.mov (.t 2)),o 18 (.bin .add (.t 17) (.k (.int .i64 8))),o 2 (.mov (.t 18))])) .skip)) (.seq (.reg [o 19 (.mov (.t 2)),o 20 (.mov (.t 0)),o 21 (.cvi .u8 (.t 20)),o 22 (.idx (.k (.str ⟨#[0,1,2,2,3,3,3,3,4,4,4,4,4,4,4,4,5,5,5,5,5,5,5,5,5,5,5,5,5,5,5,5,6,6,6,6,6,6,6,6,6,6,6,6,6,6,6,6,6,6,6,6,6,6,6,6,6,6,6,6,6,6,6,6,7,7,7,7,7,7,7,7,7,7,7,7,7,7,7,7,7,7,7,7,7,7,7,7,7,7,7,7,7,7,7,7,7,7,7,7,7,7,7,7,7,7,7,7,7,7,7,7,7,7,7,7,7,7,7,7,7,7,7,7,7,7,7,7,8,8,8,8,8,8,8,8,8,8,8,8,8,8,8,8,8,8,8,8,8,8,8,8,8,8,8,8,8,8,8,8,8,8,8,8,8,8,8,8,8,8,8,8,8,8,8,8,8,8,8,8,8,8,8,8,8,8,8,8,8,8,8,8,8,8,8,8,8,8,8,8,8,8,8,8,8,8,8,8,8,8,8,8,8,8,8,8,8,8,8,8,8,8,8,8,8,8,8,8,8,8,8,8,8,8,8,8,8,8,8,8,8,8,8,8,8,8,8,8,8,8,8,8,8,8,8,8]⟩)) (.t 21)),o 23 (.cvi .i64 (.t 22)),o 24 (.bin .add (.t 19) (.t 23)),o 2 (.mov (.t 24))]) .ret)))))⟩
theorem N7:A5 Tryz.prog Ii=some Bp:=by kernel_rfl
structure SN where
 insertionSort:Nat
 siftDown:Nat
 heapSort:Nat
 reverseRange:Nat
 partialInsertionSort:Nat
 partitionEqual:Nat
 partition:Nat
 breakPatterns:Nat
 order2:Nat
 median:Nat
 medianAdjacent:Nat
 choosePivot:Nat
 pdqsort:Nat
 less:Nat
 slices_nextPowerOfTwo:Nat
 slices_xorshift_Next:Nat
def Fn (z:Nat) (g:Bool) (q:SN):Fn1:=⟨67,[],(.seq (.reg [o 13 (.mov (.t 2)),o 14 (.mov (.t 1)),o 15 (.bin .sub (.t 13) (.t 14)),o 8 (.mov (.t 15))]) (.seq (.reg [o 16 (.mov (.t 8)),o 17 (.bin .geq (.t 16) (.k (.int .i64 8)))]) (.cnd (.t 17) (.seq (.reg [o 18 (.mov (.t 8)),o 19 (.cvi .u64 (.t 18)),o 9 (.new [(.int .u64 0)]),on (.st 1 (.t 9) (.t 19))]) (.seq (.reg [o 20 (.mov (.t 8)),o 21 (.call q.slices_nextPowerOfTwo [(.t 20)]),o 10 (.mov (.t 21))]) (.seq (.reg [o 22 (.mov (.t 1)),o 23 (.mov (.t 8)),o 24 (.bin .quo (.t 23) (.k (.int .i64 4))),o 25 (.bin .mul (.t 24) (.k (.int .i64 2))),o 26 (.bin .add (.t 22) (.t 25)),o 27 (.bin .sub (.t 26) (.k (.int .i64 1))),o 11 (.mov (.t 27))]) (.blk 0 (.lop (.seq (.seq (.reg [o 28 (.mov (.t 11)),o 29 (.mov (.t 1)),o 30 (.mov (.t 8)),o 31 (.bin .quo (.t 30) (.k (.int .i64 4))),o 32 (.bin .mul (.t 31) (.k (.int .i64 2))),o 33 (.bin .add (.t 29) (.t 32)),o 34 (.bin .add (.t 33) (.k (.int .i64 1))),o 35 (.bin .leq (.t 28) (.t 34))]) (.cnd (.t 35) .skip (.ext 0))) (.seq (.blk 1 (.seq (.reg [o 38 (.call q.slices_xorshift_Next [(.t 9)]),o 39 (.mov (.t 10)),o 40 (.bin .sub (.t 39) (.k (.int .u64 1))),o 41 (.bin .and (.t 38) (.t 40)),o 42 (.cvi .i64 (.t 41)),o 12 (.mov (.t 42))]) (.seq (.seq (.reg [o 43 (.mov (.t 12)),o 44 (.mov (.t 8)),o 45 (.bin .geq (.t 43) (.t 44))]) (.cnd (.t 45) (.reg [o 46 (.mov (.t 12)),o 47 (.mov (.t 8)),o 48 (.bin .sub (.t 46) (.t 47)),o 12 (.mov (.t 48))]) .skip)) (.drw [o 49 (.mov (.t 0)),o 50 (.mov (.t 11)),o 51 (.mov (.t 0)),o 52 (.mov (.t 1)),o 53 (.mov (.t 12)),o 54 (.bin .add (.t 52) (.t 53)),o 55 (.mov (.t 0)),o 56 (.mov (.t 1)),o 57 (.mov (.t 12)),o 58 (.bin .add (.t 56) (.t 57)),o 59 (.iad z (.t 55) (.t 58)),o 60 (.ld g z (.t 59)),o 61 (.mov (.t 0)),o 62 (.mov (.t 11)),o 63 (.iad z (.t 61) (.t 62)),o 64 (.ld g z (.t 63))] [o 65 (.iad z (.t 49) (.t 50)),on (.st z (.t 65) (.t 60)),o 66 (.iad z (.t 51) (.t 54)),on (.st z (.t 66) (.t 64))])))) (.reg [o 36 (.mov (.t 11)),o 37 (.bin .add (.t 36) (.k (.int .i64 1))),o 11 (.mov (.t 37))])))))))) .skip)))⟩
def Fo (z:Nat) (g:Bool) (q:SN):Fn1:=⟨65,[],(.seq (.reg [o 11 (.mov (.t 2)),o 12 (.mov (.t 1)),o 13 (.bin .sub (.t 11) (.t 12)),o 6 (.mov (.t 13))]) (.seq (.reg [o 14 (.mov (.t 6)),o 15 (.bin .geq (.t 14) (.k (.int .i64 8)))]) (.cnd (.t 15) (.seq (.reg [o 16 (.mov (.t 6)),o 17 (.cvi .u64 (.t 16)),o 7 (.new [(.int .u64 0)]),on (.st 1 (.t 7) (.t 17))]) (.seq (.reg [o 18 (.mov (.t 6)),o 19 (.call q.slices_nextPowerOfTwo [(.t 18)]),o 8 (.mov (.t 19))]) (.seq (.reg [o 20 (.mov (.t 1)),o 21 (.mov (.t 6)),o 22 (.bin .quo (.t 21) (.k (.int .i64 4))),o 23 (.bin .mul (.t 22) (.k (.int .i64 2))),o 24 (.bin .add (.t 20) (.t 23)),o 25 (.bin .sub (.t 24) (.k (.int .i64 1))),o 9 (.mov (.t 25))]) (.blk 0 (.lop (.seq (.seq (.reg [o 26 (.mov (.t 9)),o 27 (.mov (.t 1)),o 28 (.mov (.t 6)),o 29 (.bin .quo (.t 28) (.k (.int .i64 4))),o 30 (.bin .mul (.t 29) (.k (.int .i64 2))),o 31 (.bin .add (.t 27) (.t 30)),o 32 (.bin .add (.t 31) (.k (.int .i64 1))),o 33 (.bin .leq (.t 26) (.t 32))]) (.cnd (.t 33) .skip (.ext 0))) (.seq (.blk 1 (.seq (.reg [o 36 (.call q.slices_xorshift_Next [(.t 7)]),o 37 (.mov (.t 8)),o 38 (.bin .sub (.t 37) (.k (.int .u64 1))),o 39 (.bin .and (.t 36) (.t 38)),o 40 (.cvi .i64 (.t 39)),o 10 (.mov (.t 40))]) (.seq (.seq (.reg [o 41 (.mov (.t 10)),o 42 (.mov (.t 6)),o 43 (.bin .geq (.t 41) (.t 42))]) (.cnd (.t 43) (.reg [o 44 (.mov (.t 10)),o 45 (.mov (.t 6)),o 46 (.bin .sub (.t 44) (.t 45)),o 10 (.mov (.t 46))]) .skip)) (.drw [o 47 (.mov (.t 0)),o 48 (.mov (.t 9)),o 49 (.mov (.t 0)),o 50 (.mov (.t 1)),o 51 (.mov (.t 10)),o 52 (.bin .add (.t 50) (.t 51)),o 53 (.mov (.t 0)),o 54 (.mov (.t 1)),o 55 (.mov (.t 10)),o 56 (.bin .add (.t 54) (.t 55)),o 57 (.iad z (.t 53) (.t 56)),o 58 (.ld g z (.t 57)),o 59 (.mov (.t 0)),o 60 (.mov (.t 9)),o 61 (.iad z (.t 59) (.t 60)),o 62 (.ld g z (.t 61))] [o 63 (.iad z (.t 47) (.t 48)),on (.st z (.t 63) (.t 58)),o 64 (.iad z (.t 49) (.t 52)),on (.st z (.t 64) (.t 62))])))) (.reg [o 34 (.mov (.t 9)),o 35 (.bin .add (.t 34) (.k (.int .i64 1))),o 9 (.mov (.t 35))])))))))) .skip)))⟩
def F0 (z:Nat) (g:Bool) (q:SN):Fn1:=⟨63,[.t 8,.t 9],(.seq (.reg [o 8 (.mov (.k (.int .i64 0))),o 9 (.mov (.k (.int .i64 0)))]) (.seq (.reg [o 15 (.mov (.t 2)),o 16 (.mov (.t 1)),o 17 (.bin .sub (.t 15) (.t 16)),o 10 (.mov (.t 17))]) (.seq (.reg [o 11 (.new [(.int .i64 0)])]) (.seq (.reg [o 18 (.mov (.t 1)),o 19 (.mov (.t 10)),o 20 (.bin .quo (.t 19) (.k (.int .i64 4))),o 21 (.bin .mul (.t 20) (.k (.int .i64 1))),o 22 (.bin .add (.t 18) (.t 21)),o 12 (.mov (.t 22))]) (.seq (.reg [o 23 (.mov (.t 1)),o 24 (.mov (.t 10)),o 25 (.bin .quo (.t 24) (.k (.int .i64 4))),o 26 (.bin .mul (.t 25) (.k (.int .i64 2))),o 27 (.bin .add (.t 23) (.t 26)),o 13 (.mov (.t 27))]) (.seq (.reg [o 28 (.mov (.t 1)),o 29 (.mov (.t 10)),o 30 (.bin .quo (.t 29) (.k (.int .i64 4))),o 31 (.bin .mul (.t 30) (.k (.int .i64 3))),o 32 (.bin .add (.t 28) (.t 31)),o 14 (.mov (.t 32))]) (.seq (.seq (.reg [o 33 (.mov (.t 10)),o 34 (.bin .geq (.t 33) (.k (.int .i64 8)))]) (.cnd (.t 34) (.seq (.seq (.reg [o 35 (.mov (.t 10)),o 36 (.bin .geq (.t 35) (.k (.int .i64 50)))]) (.cnd (.t 36) (.seq (.reg [o 37 (.mov (.t 0)),o 38 (.mov (.t 12)),o 39 (.mov (.t 3)),o 40 (.call q.medianAdjacent [(.t 37),(.t 38),(.t 11),(.t 39)]),o 12 (.mov (.t 40))]) (.seq (.reg [o 41 (.mov (.t 0)),o 42 (.mov (.t 13)),o 43 (.mov (.t 3)),o 44 (.call q.medianAdjacent [(.t 41),(.t 42),(.t 11),(.t 43)]),o 13 (.mov (.t 44))]) (.reg [o 45 (.mov (.t 0)),o 46 (.mov (.t 14)),o 47 (.mov (.t 3)),o 48 (.call q.medianAdjacent [(.t 45),(.t 46),(.t 11),(.t 47)]),o 14 (.mov (.t 48))]))) .skip)) (.reg [o 49 (.mov (.t 0)),o 50 (.mov (.t 12)),o 51 (.mov (.t 13)),o 52 (.mov (.t 14)),o 53 (.mov (.t 3)),o 54 (.call q.median [(.t 49),(.t 50),(.t 51),(.t 52),(.t 11),(.t 53)]),o 13 (.mov (.t 54))])) .skip)) (.seq (.reg [o 55 (.ld false 1 (.t 11))]) (.blk 0 (.seq (.reg [o 58 (.bin .eql (.t 55) (.k (.int .i64 0))),o 57 (.mov (.t 58))]) (.cnd (.t 57) (.seq (.reg [o 59 (.mov (.t 13)),o 8 (.mov (.t 59)),o 9 (.mov (.k (.int .i64 1)))]) .ret) (.seq (.reg [o 61 (.bin .eql (.t 55) (.k (.int .i64 12))),o 60 (.mov (.t 61))]) (.cnd (.t 60) (.seq (.reg [o 62 (.mov (.t 13)),o 8 (.mov (.t 62)),o 9 (.mov (.k (.int .i64 2)))]) .ret) (.seq (.reg [o 56 (.mov (.t 13)),o 8 (.mov (.t 56)),o 9 (.mov (.k (.int .i64 0)))]) .ret))))))))))))))⟩
def F1 (z:Nat) (g:Bool) (q:SN):Fn1:=⟨57,[.t 6,.t 7],(.seq (.reg [o 6 (.mov (.k (.int .i64 0))),o 7 (.mov (.k (.int .i64 0)))]) (.seq (.reg [o 13 (.mov (.t 2)),o 14 (.mov (.t 1)),o 15 (.bin .sub (.t 13) (.t 14)),o 8 (.mov (.t 15))]) (.seq (.reg [o 9 (.new [(.int .i64 0)])]) (.seq (.reg [o 16 (.mov (.t 1)),o 17 (.mov (.t 8)),o 18 (.bin .quo (.t 17) (.k (.int .i64 4))),o 19 (.bin .mul (.t 18) (.k (.int .i64 1))),o 20 (.bin .add (.t 16) (.t 19)),o 10 (.mov (.t 20))]) (.seq (.reg [o 21 (.mov (.t 1)),o 22 (.mov (.t 8)),o 23 (.bin .quo (.t 22) (.k (.int .i64 4))),o 24 (.bin .mul (.t 23) (.k (.int .i64 2))),o 25 (.bin .add (.t 21) (.t 24)),o 11 (.mov (.t 25))]) (.seq (.reg [o 26 (.mov (.t 1)),o 27 (.mov (.t 8)),o 28 (.bin .quo (.t 27) (.k (.int .i64 4))),o 29 (.bin .mul (.t 28) (.k (.int .i64 3))),o 30 (.bin .add (.t 26) (.t 29)),o 12 (.mov (.t 30))]) (.seq (.seq (.reg [o 31 (.mov (.t 8)),o 32 (.bin .geq (.t 31) (.k (.int .i64 8)))]) (.cnd (.t 32) (.seq (.seq (.reg [o 33 (.mov (.t 8)),o 34 (.bin .geq (.t 33) (.k (.int .i64 50)))]) (.cnd (.t 34) (.seq (.reg [o 35 (.mov (.t 0)),o 36 (.mov (.t 10)),o 37 (.call q.medianAdjacent [(.t 35),(.t 36),(.t 9)]),o 10 (.mov (.t 37))]) (.seq (.reg [o 38 (.mov (.t 0)),o 39 (.mov (.t 11)),o 40 (.call q.medianAdjacent [(.t 38),(.t 39),(.t 9)]),o 11 (.mov (.t 40))]) (.reg [o 41 (.mov (.t 0)),o 42 (.mov (.t 12)),o 43 (.call q.medianAdjacent [(.t 41),(.t 42),(.t 9)]),o 12 (.mov (.t 43))]))) .skip)) (.reg [o 44 (.mov (.t 0)),o 45 (.mov (.t 10)),o 46 (.mov (.t 11)),o 47 (.mov (.t 12)),o 48 (.call q.median [(.t 44),(.t 45),(.t 46),(.t 47),(.t 9)]),o 11 (.mov (.t 48))])) .skip)) (.seq (.reg [o 49 (.ld false 1 (.t 9))]) (.blk 0 (.seq (.reg [o 52 (.bin .eql (.t 49) (.k (.int .i64 0))),o 51 (.mov (.t 52))]) (.cnd (.t 51) (.seq (.reg [o 53 (.mov (.t 11)),o 6 (.mov (.t 53)),o 7 (.mov (.k (.int .i64 1)))]) .ret) (.seq (.reg [o 55 (.bin .eql (.t 49) (.k (.int .i64 12))),o 54 (.mov (.t 55))]) (.cnd (.t 54) (.seq (.reg [o 56 (.mov (.t 11)),o 6 (.mov (.t 56)),o 7 (.mov (.k (.int .i64 2)))]) .ret) (.seq (.reg [o 50 (.mov (.t 11)),o 6 (.mov (.t 50)),o 7 (.mov (.k (.int .i64 0)))]) .ret))))))))))))))⟩
def Pk (z:Nat) (g:Bool) (q:SN):Fn1:=⟨60,[],(.seq (.reg [o 13 (.mov (.t 1)),o 8 (.mov (.t 13))]) (.seq (.reg [o 9 (.mov (.k (.int .i64 0)))]) (.seq (.reg [o 14 (.mov (.t 2)),o 15 (.mov (.t 1)),o 16 (.bin .sub (.t 14) (.t 15)),o 10 (.mov (.t 16))]) (.seq (.seq (.reg [o 17 (.mov (.t 10)),o 18 (.bin .sub (.t 17) (.k (.int .i64 1))),o 19 (.bin .quo (.t 18) (.k (.int .i64 2))),o 11 (.mov (.t 19))]) (.blk 0 (.lop (.seq (.seq (.reg [o 20 (.mov (.t 11)),o 21 (.bin .geq (.t 20) (.k (.int .i64 0)))]) (.cnd (.t 21) .skip (.ext 0))) (.seq (.blk 1 (.reg [o 24 (.mov (.t 0)),o 25 (.mov (.t 11)),o 26 (.mov (.t 10)),o 27 (.mov (.t 8)),o 28 (.mov (.t 3)),o 29 (.call q.siftDown [(.t 24),(.t 25),(.t 26),(.t 27),(.t 28)])])) (.reg [o 22 (.mov (.t 11)),o 23 (.bin .sub (.t 22) (.k (.int .i64 1))),o 11 (.mov (.t 23))])))))) (.seq (.reg [o 30 (.mov (.t 10)),o 31 (.bin .sub (.t 30) (.k (.int .i64 1))),o 12 (.mov (.t 31))]) (.blk 2 (.lop (.seq (.seq (.reg [o 32 (.mov (.t 12)),o 33 (.bin .geq (.t 32) (.k (.int .i64 0)))]) (.cnd (.t 33) .skip (.ext 2))) (.seq (.blk 3 (.seq (.drw [o 36 (.mov (.t 0)),o 37 (.mov (.t 8)),o 38 (.mov (.t 0)),o 39 (.mov (.t 8)),o 40 (.mov (.t 12)),o 41 (.bin .add (.t 39) (.t 40)),o 42 (.mov (.t 0)),o 43 (.mov (.t 8)),o 44 (.mov (.t 12)),o 45 (.bin .add (.t 43) (.t 44)),o 46 (.iad z (.t 42) (.t 45)),o 47 (.ld g z (.t 46)),o 48 (.mov (.t 0)),o 49 (.mov (.t 8)),o 50 (.iad z (.t 48) (.t 49)),o 51 (.ld g z (.t 50))] [o 52 (.iad z (.t 36) (.t 37)),on (.st z (.t 52) (.t 47)),o 53 (.iad z (.t 38) (.t 41)),on (.st z (.t 53) (.t 51))]) (.reg [o 54 (.mov (.t 0)),o 55 (.mov (.t 9)),o 56 (.mov (.t 12)),o 57 (.mov (.t 8)),o 58 (.mov (.t 3)),o 59 (.call q.siftDown [(.t 54),(.t 55),(.t 56),(.t 57),(.t 58)])]))) (.reg [o 34 (.mov (.t 12)),o 35 (.bin .sub (.t 34) (.k (.int .i64 1))),o 12 (.mov (.t 35))]))))))))))⟩
def Pm (z:Nat) (g:Bool) (q:SN):Fn1:=⟨56,[],(.seq (.reg [o 11 (.mov (.t 1)),o 6 (.mov (.t 11))]) (.seq (.reg [o 7 (.mov (.k (.int .i64 0)))]) (.seq (.reg [o 12 (.mov (.t 2)),o 13 (.mov (.t 1)),o 14 (.bin .sub (.t 12) (.t 13)),o 8 (.mov (.t 14))]) (.seq (.seq (.reg [o 15 (.mov (.t 8)),o 16 (.bin .sub (.t 15) (.k (.int .i64 1))),o 17 (.bin .quo (.t 16) (.k (.int .i64 2))),o 9 (.mov (.t 17))]) (.blk 0 (.lop (.seq (.seq (.reg [o 18 (.mov (.t 9)),o 19 (.bin .geq (.t 18) (.k (.int .i64 0)))]) (.cnd (.t 19) .skip (.ext 0))) (.seq (.blk 1 (.reg [o 22 (.mov (.t 0)),o 23 (.mov (.t 9)),o 24 (.mov (.t 8)),o 25 (.mov (.t 6)),o 26 (.call q.siftDown [(.t 22),(.t 23),(.t 24),(.t 25)])])) (.reg [o 20 (.mov (.t 9)),o 21 (.bin .sub (.t 20) (.k (.int .i64 1))),o 9 (.mov (.t 21))])))))) (.seq (.reg [o 27 (.mov (.t 8)),o 28 (.bin .sub (.t 27) (.k (.int .i64 1))),o 10 (.mov (.t 28))]) (.blk 2 (.lop (.seq (.seq (.reg [o 29 (.mov (.t 10)),o 30 (.bin .geq (.t 29) (.k (.int .i64 0)))]) (.cnd (.t 30) .skip (.ext 2))) (.seq (.blk 3 (.seq (.drw [o 33 (.mov (.t 0)),o 34 (.mov (.t 6)),o 35 (.mov (.t 0)),o 36 (.mov (.t 6)),o 37 (.mov (.t 10)),o 38 (.bin .add (.t 36) (.t 37)),o 39 (.mov (.t 0)),o 40 (.mov (.t 6)),o 41 (.mov (.t 10)),o 42 (.bin .add (.t 40) (.t 41)),o 43 (.iad z (.t 39) (.t 42)),o 44 (.ld g z (.t 43)),o 45 (.mov (.t 0)),o 46 (.mov (.t 6)),o 47 (.iad z (.t 45) (.t 46)),o 48 (.ld g z (.t 47))] [o 49 (.iad z (.t 33) (.t 34)),on (.st z (.t 49) (.t 44)),o 50 (.iad z (.t 35) (.t 38)),on (.st z (.t 50) (.t 48))]) (.reg [o 51 (.mov (.t 0)),o 52 (.mov (.t 7)),o 53 (.mov (.t 10)),o 54 (.mov (.t 6)),o 55 (.call q.siftDown [(.t 51),(.t 52),(.t 53),(.t 54)])]))) (.reg [o 31 (.mov (.t 10)),o 32 (.bin .sub (.t 31) (.k (.int .i64 1))),o 10 (.mov (.t 32))]))))))))))⟩
def Ij (z:Nat) (g:Bool) (q:SN):Fn1:=⟨53,[],(.seq (.reg [o 10 (.mov (.t 1)),o 11 (.bin .add (.t 10) (.k (.int .i64 1))),o 8 (.mov (.t 11))]) (.blk 0 (.lop (.seq (.seq (.reg [o 12 (.mov (.t 8)),o 13 (.mov (.t 2)),o 14 (.bin .lss (.t 12) (.t 13))]) (.cnd (.t 14) .skip (.ext 0))) (.seq (.blk 1 (.seq (.reg [o 17 (.mov (.t 8)),o 9 (.mov (.t 17))]) (.blk 2 (.lop (.seq (.seq (.drw [o 18 (.mov (.t 9)),o 19 (.mov (.t 1)),o 20 (.bin .gtr (.t 18) (.t 19)),o 21 (.mov (.t 20)),og 22 21 true (.mov (.t 3)),og 23 21 true (.mov (.t 0)),og 24 21 true (.mov (.t 9)),og 25 21 true (.iad z (.t 23) (.t 24)),og 26 21 true (.ld g z (.t 25)),og 27 21 true (.mov (.t 0)),og 28 21 true (.mov (.t 9)),og 29 21 true (.bin .sub (.t 28) (.k (.int .i64 1))),og 30 21 true (.iad z (.t 27) (.t 29)),og 31 21 true (.ld g z (.t 30))] [og 32 21 true (.callv (.t 22) [(.t 26),(.t 31)]),og 33 21 true (.bin .lss (.t 32) (.k (.int .i64 0))),o 34 (.pick (.t 21) (.t 33) (.k (.bool false)))]) (.cnd (.t 34) .skip (.ext 2))) (.seq (.blk 3 (.drw [o 37 (.mov (.t 0)),o 38 (.mov (.t 9)),o 39 (.mov (.t 0)),o 40 (.mov (.t 9)),o 41 (.bin .sub (.t 40) (.k (.int .i64 1))),o 42 (.mov (.t 0)),o 43 (.mov (.t 9)),o 44 (.bin .sub (.t 43) (.k (.int .i64 1))),o 45 (.iad z (.t 42) (.t 44)),o 46 (.ld g z (.t 45)),o 47 (.mov (.t 0)),o 48 (.mov (.t 9)),o 49 (.iad z (.t 47) (.t 48)),o 50 (.ld g z (.t 49))] [o 51 (.iad z (.t 37) (.t 38)),on (.st z (.t 51) (.t 46)),o 52 (.iad z (.t 39) (.t 41)),on (.st z (.t 52) (.t 50))])) (.reg [o 35 (.mov (.t 9)),o 36 (.bin .sub (.t 35) (.k (.int .i64 1))),o 9 (.mov (.t 36))]))))))) (.reg [o 15 (.mov (.t 8)),o 16 (.bin .add (.t 15) (.k (.int .i64 1))),o 8 (.mov (.t 16))]))))))⟩
def Ik (z:Nat) (g:Bool) (q:SN):Fn1:=⟨49,[],(.seq (.reg [o 8 (.mov (.t 1)),o 9 (.bin .add (.t 8) (.k (.int .i64 1))),o 6 (.mov (.t 9))]) (.blk 0 (.lop (.seq (.seq (.reg [o 10 (.mov (.t 6)),o 11 (.mov (.t 2)),o 12 (.bin .lss (.t 10) (.t 11))]) (.cnd (.t 12) .skip (.ext 0))) (.seq (.blk 1 (.seq (.reg [o 15 (.mov (.t 6)),o 7 (.mov (.t 15))]) (.blk 2 (.lop (.seq (.seq (.drw [o 16 (.mov (.t 7)),o 17 (.mov (.t 1)),o 18 (.bin .gtr (.t 16) (.t 17)),o 19 (.mov (.t 18)),og 20 19 true (.mov (.t 0)),og 21 19 true (.mov (.t 7)),og 22 19 true (.iad z (.t 20) (.t 21)),og 23 19 true (.ld g z (.t 22)),og 24 19 true (.mov (.t 0)),og 25 19 true (.mov (.t 7)),og 26 19 true (.bin .sub (.t 25) (.k (.int .i64 1))),og 27 19 true (.iad z (.t 24) (.t 26)),og 28 19 true (.ld g z (.t 27))] [og 29 19 true (.call q.less [(.t 23),(.t 28)]),o 30 (.pick (.t 19) (.t 29) (.k (.bool false)))]) (.cnd (.t 30) .skip (.ext 2))) (.seq (.blk 3 (.drw [o 33 (.mov (.t 0)),o 34 (.mov (.t 7)),o 35 (.mov (.t 0)),o 36 (.mov (.t 7)),o 37 (.bin .sub (.t 36) (.k (.int .i64 1))),o 38 (.mov (.t 0)),o 39 (.mov (.t 7)),o 40 (.bin .sub (.t 39) (.k (.int .i64 1))),o 41 (.iad z (.t 38) (.t 40)),o 42 (.ld g z (.t 41)),o 43 (.mov (.t 0)),o 44 (.mov (.t 7)),o 45 (.iad z (.t 43) (.t 44)),o 46 (.ld g z (.t 45))] [o 47 (.iad z (.t 33) (.t 34)),on (.st z (.t 47) (.t 42)),o 48 (.iad z (.t 35) (.t 37)),on (.st z (.t 48) (.t 46))])) (.reg [o 31 (.mov (.t 7)),o 32 (.bin .sub (.t 31) (.k (.int .i64 1))),o 7 (.mov (.t 32))]))))))) (.reg [o 13 (.mov (.t 6)),o 14 (.bin .add (.t 13) (.k (.int .i64 1))),o 6 (.mov (.t 14))]))))))⟩
def Wq (z:Nat) (g:Bool) (q:SN):Fn1:=⟨41,[.t 12],(.seq (.reg [o 12 (.mov (.k (.int .i64 0)))]) (.seq (.reg [o 14 (.mov (.t 0)),o 15 (.mov (.t 1)),o 16 (.mov (.t 2)),o 17 (.mov (.t 4)),o 18 (.mov (.t 5)),o 19 (.call q.order2 [(.t 14),(.t 15),(.t 16),(.t 17),(.t 18)]),o 13 (.mov (.t 19)),o 20 (.ext 0 (.t 13)),o 21 (.ext 1 (.t 13)),o 1 (.mov (.t 20)),o 2 (.mov (.t 21))]) (.seq (.reg [o 23 (.mov (.t 0)),o 24 (.mov (.t 2)),o 25 (.mov (.t 3)),o 26 (.mov (.t 4)),o 27 (.mov (.t 5)),o 28 (.call q.order2 [(.t 23),(.t 24),(.t 25),(.t 26),(.t 27)]),o 22 (.mov (.t 28)),o 29 (.ext 0 (.t 22)),o 30 (.ext 1 (.t 22)),o 2 (.mov (.t 29)),o 3 (.mov (.t 30))]) (.seq (.reg [o 32 (.mov (.t 0)),o 33 (.mov (.t 1)),o 34 (.mov (.t 2)),o 35 (.mov (.t 4)),o 36 (.mov (.t 5)),o 37 (.call q.order2 [(.t 32),(.t 33),(.t 34),(.t 35),(.t 36)]),o 31 (.mov (.t 37)),o 38 (.ext 0 (.t 31)),o 39 (.ext 1 (.t 31)),o 1 (.mov (.t 38)),o 2 (.mov (.t 39))]) (.seq (.reg [o 40 (.mov (.t 2)),o 12 (.mov (.t 40))]) .ret)))))⟩
def Wr (z:Nat) (g:Bool) (q:SN):Fn1:=⟨36,[.t 10],(.seq (.reg [o 10 (.mov (.k (.int .i64 0)))]) (.seq (.reg [o 12 (.mov (.t 0)),o 13 (.mov (.t 1)),o 14 (.mov (.t 2)),o 15 (.mov (.t 4)),o 16 (.call q.order2 [(.t 12),(.t 13),(.t 14),(.t 15)]),o 11 (.mov (.t 16)),o 17 (.ext 0 (.t 11)),o 18 (.ext 1 (.t 11)),o 1 (.mov (.t 17)),o 2 (.mov (.t 18))]) (.seq (.reg [o 20 (.mov (.t 0)),o 21 (.mov (.t 2)),o 22 (.mov (.t 3)),o 23 (.mov (.t 4)),o 24 (.call q.order2 [(.t 20),(.t 21),(.t 22),(.t 23)]),o 19 (.mov (.t 24)),o 25 (.ext 0 (.t 19)),o 26 (.ext 1 (.t 19)),o 2 (.mov (.t 25)),o 3 (.mov (.t 26))]) (.seq (.reg [o 28 (.mov (.t 0)),o 29 (.mov (.t 1)),o 30 (.mov (.t 2)),o 31 (.mov (.t 4)),o 32 (.call q.order2 [(.t 28),(.t 29),(.t 30),(.t 31)]),o 27 (.mov (.t 32)),o 33 (.ext 0 (.t 27)),o 34 (.ext 1 (.t 27)),o 1 (.mov (.t 33)),o 2 (.mov (.t 34))]) (.seq (.reg [o 35 (.mov (.t 2)),o 10 (.mov (.t 35))]) .ret)))))⟩
def Hv (z:Nat) (g:Bool) (q:SN):Fn1:=⟨18,[.t 8],(.seq (.reg [o 8 (.mov (.k (.int .i64 0)))]) (.seq (.reg [o 9 (.mov (.t 0)),o 10 (.mov (.t 1)),o 11 (.bin .sub (.t 10) (.k (.int .i64 1))),o 12 (.mov (.t 1)),o 13 (.mov (.t 1)),o 14 (.bin .add (.t 13) (.k (.int .i64 1))),o 15 (.mov (.t 2)),o 16 (.mov (.t 3)),o 17 (.call q.median [(.t 9),(.t 11),(.t 12),(.t 14),(.t 15),(.t 16)]),o 8 (.mov (.t 17))]) .ret))⟩
def Hw (z:Nat) (g:Bool) (q:SN):Fn1:=⟨15,[.t 6],(.seq (.reg [o 6 (.mov (.k (.int .i64 0)))]) (.seq (.reg [o 7 (.mov (.t 0)),o 8 (.mov (.t 1)),o 9 (.bin .sub (.t 8) (.k (.int .i64 1))),o 10 (.mov (.t 1)),o 11 (.mov (.t 1)),o 12 (.bin .add (.t 11) (.k (.int .i64 1))),o 13 (.mov (.t 2)),o 14 (.call q.median [(.t 7),(.t 9),(.t 10),(.t 12),(.t 13)]),o 6 (.mov (.t 14))]) .ret))⟩
def Ws (z:Nat) (g:Bool) (q:SN):Fn1:=⟨32,[.t 10,.t 11],(.seq (.reg [o 10 (.mov (.k (.int .i64 0))),o 11 (.mov (.k (.int .i64 0)))]) (.seq (.seq (.drw [o 12 (.mov (.t 4)),o 13 (.mov (.t 0)),o 14 (.mov (.t 2)),o 15 (.iad z (.t 13) (.t 14)),o 16 (.ld g z (.t 15)),o 17 (.mov (.t 0)),o 18 (.mov (.t 1)),o 19 (.iad z (.t 17) (.t 18)),o 20 (.ld g z (.t 19))] [o 21 (.callv (.t 12) [(.t 16),(.t 20)]),o 22 (.bin .lss (.t 21) (.k (.int .i64 0)))]) (.cnd (.t 22) (.seq (.reg [o 23 (.mov (.t 3)),o 24 (.nck (.t 23)),o 25 (.ld false 1 (.t 24)),o 26 (.bin .add (.t 25) (.k (.int .i64 1))),o 27 (.nck (.t 23)),on (.st 1 (.t 27) (.t 26))]) (.seq (.reg [o 28 (.mov (.t 2)),o 29 (.mov (.t 1)),o 10 (.mov (.t 28)),o 11 (.mov (.t 29))]) .ret)) .skip)) (.seq (.reg [o 30 (.mov (.t 1)),o 31 (.mov (.t 2)),o 10 (.mov (.t 30)),o 11 (.mov (.t 31))]) .ret)))⟩
def Wt (z:Nat) (g:Bool) (q:SN):Fn1:=⟨28,[.t 8,.t 9],(.seq (.reg [o 8 (.mov (.k (.int .i64 0))),o 9 (.mov (.k (.int .i64 0)))]) (.seq (.seq (.drw [o 10 (.mov (.t 0)),o 11 (.mov (.t 2)),o 12 (.iad z (.t 10) (.t 11)),o 13 (.ld g z (.t 12)),o 14 (.mov (.t 0)),o 15 (.mov (.t 1)),o 16 (.iad z (.t 14) (.t 15)),o 17 (.ld g z (.t 16))] [o 18 (.call q.less [(.t 13),(.t 17)])]) (.cnd (.t 18) (.seq (.reg [o 19 (.mov (.t 3)),o 20 (.nck (.t 19)),o 21 (.ld false 1 (.t 20)),o 22 (.bin .add (.t 21) (.k (.int .i64 1))),o 23 (.nck (.t 19)),on (.st 1 (.t 23) (.t 22))]) (.seq (.reg [o 24 (.mov (.t 2)),o 25 (.mov (.t 1)),o 8 (.mov (.t 24)),o 9 (.mov (.t 25))]) .ret)) .skip)) (.seq (.reg [o 26 (.mov (.t 1)),o 27 (.mov (.t 2)),o 8 (.mov (.t 26)),o 9 (.mov (.t 27))]) .ret)))⟩
def Em (z:Nat) (g:Bool) (q:SN):Fn1:=⟨141,[.t 8],(.seq (.reg [o 8 (.mov (.k (.bool false)))]) (.seq (.reg [o 13 (.mov (.t 1)),o 14 (.bin .add (.t 13) (.k (.int .i64 1))),o 9 (.mov (.t 14))]) (.seq (.seq (.reg [o 10 (.mov (.k (.int .i64 0)))]) (.blk 0 (.lop (.seq (.seq (.reg [o 15 (.mov (.t 10)),o 16 (.bin .lss (.t 15) (.k (.int .i64 5)))]) (.cnd (.t 16) .skip (.ext 0))) (.seq (.blk 1 (.seq (.blk 2 (.lop (.seq (.seq (.drw [o 19 (.mov (.t 9)),o 20 (.mov (.t 2)),o 21 (.bin .lss (.t 19) (.t 20)),o 22 (.mov (.t 21)),og 23 22 true (.mov (.t 3)),og 24 22 true (.mov (.t 0)),og 25 22 true (.mov (.t 9)),og 26 22 true (.iad z (.t 24) (.t 25)),og 27 22 true (.ld g z (.t 26)),og 28 22 true (.mov (.t 0)),og 29 22 true (.mov (.t 9)),og 30 22 true (.bin .sub (.t 29) (.k (.int .i64 1))),og 31 22 true (.iad z (.t 28) (.t 30)),og 32 22 true (.ld g z (.t 31))] [og 33 22 true (.callv (.t 23) [(.t 27),(.t 32)]),og 34 22 true (.bin .lss (.t 33) (.k (.int .i64 0))),og 35 22 true (.un .not (.t 34)),o 36 (.pick (.t 22) (.t 35) (.k (.bool false)))]) (.cnd (.t 36) .skip (.ext 2))) (.blk 3 (.reg [o 37 (.mov (.t 9)),o 38 (.bin .add (.t 37) (.k (.int .i64 1))),o 9 (.mov (.t 38))]))))) (.seq (.seq (.reg [o 39 (.mov (.t 9)),o 40 (.mov (.t 2)),o 41 (.bin .eql (.t 39) (.t 40))]) (.cnd (.t 41) (.seq (.reg [o 8 (.mov (.k (.bool true)))]) .ret) .skip)) (.seq (.seq (.reg [o 42 (.mov (.t 2)),o 43 (.mov (.t 1)),o 44 (.bin .sub (.t 42) (.t 43)),o 45 (.bin .lss (.t 44) (.k (.int .i64 50)))]) (.cnd (.t 45) (.seq (.reg [o 8 (.mov (.k (.bool false)))]) .ret) .skip)) (.seq (.drw [o 46 (.mov (.t 0)),o 47 (.mov (.t 9)),o 48 (.mov (.t 0)),o 49 (.mov (.t 9)),o 50 (.bin .sub (.t 49) (.k (.int .i64 1))),o 51 (.mov (.t 0)),o 52 (.mov (.t 9)),o 53 (.bin .sub (.t 52) (.k (.int .i64 1))),o 54 (.iad z (.t 51) (.t 53)),o 55 (.ld g z (.t 54)),o 56 (.mov (.t 0)),o 57 (.mov (.t 9)),o 58 (.iad z (.t 56) (.t 57)),o 59 (.ld g z (.t 58))] [o 60 (.iad z (.t 46) (.t 47)),on (.st z (.t 60) (.t 55)),o 61 (.iad z (.t 48) (.t 50)),on (.st z (.t 61) (.t 59))]) (.seq (.seq (.reg [o 62 (.mov (.t 9)),o 63 (.mov (.t 1)),o 64 (.bin .sub (.t 62) (.t 63)),o 65 (.bin .geq (.t 64) (.k (.int .i64 2)))]) (.cnd (.t 65) (.seq (.reg [o 66 (.mov (.t 9)),o 67 (.bin .sub (.t 66) (.k (.int .i64 1))),o 11 (.mov (.t 67))]) (.blk 4 (.lop (.seq (.seq (.reg [o 68 (.mov (.t 11)),o 69 (.bin .geq (.t 68) (.k (.int .i64 1)))]) (.cnd (.t 69) .skip (.ext 4))) (.seq (.blk 5 (.seq (.seq (.drw [o 72 (.mov (.t 3)),o 73 (.mov (.t 0)),o 74 (.mov (.t 11)),o 75 (.iad z (.t 73) (.t 74)),o 76 (.ld g z (.t 75)),o 77 (.mov (.t 0)),o 78 (.mov (.t 11)),o 79 (.bin .sub (.t 78) (.k (.int .i64 1))),o 80 (.iad z (.t 77) (.t 79)),o 81 (.ld g z (.t 80))] [o 82 (.callv (.t 72) [(.t 76),(.t 81)]),o 83 (.bin .lss (.t 82) (.k (.int .i64 0))),o 84 (.un .not (.t 83))]) (.cnd (.t 84) (.ext 4) .skip)) (.drw [o 85 (.mov (.t 0)),o 86 (.mov (.t 11)),o 87 (.mov (.t 0)),o 88 (.mov (.t 11)),o 89 (.bin .sub (.t 88) (.k (.int .i64 1))),o 90 (.mov (.t 0)),o 91 (.mov (.t 11)),o 92 (.bin .sub (.t 91) (.k (.int .i64 1))),o 93 (.iad z (.t 90) (.t 92)),o 94 (.ld g z (.t 93)),o 95 (.mov (.t 0)),o 96 (.mov (.t 11)),o 97 (.iad z (.t 95) (.t 96)),o 98 (.ld g z (.t 97))] [o 99 (.iad z (.t 85) (.t 86)),on (.st z (.t 99) (.t 94)),o 100 (.iad z (.t 87) (.t 89)),on (.st z (.t 100) (.t 98))]))) (.reg [o 70 (.mov (.t 11)),o 71 (.bin .sub (.t 70) (.k (.int .i64 1))),o 11 (.mov (.t 71))])))))) .skip)) (.seq (.reg [o 101 (.mov (.t 2)),o 102 (.mov (.t 9)),o 103 (.bin .sub (.t 101) (.t 102)),o 104 (.bin .geq (.t 103) (.k (.int .i64 2)))]) (.cnd (.t 104) (.seq (.reg [o 105 (.mov (.t 9)),o 106 (.bin .add (.t 105) (.k (.int .i64 1))),o 12 (.mov (.t 106))]) (.blk 6 (.lop (.seq (.seq (.reg [o 107 (.mov (.t 12)),o 108 (.mov (.t 2)),o 109 (.bin .lss (.t 107) (.t 108))]) (.cnd (.t 109) .skip (.ext 6))) (.seq (.blk 7 (.seq (.seq (.drw [o 112 (.mov (.t 3)),o 113 (.mov (.t 0)),o 114 (.mov (.t 12)),o 115 (.iad z (.t 113) (.t 114)),o 116 (.ld g z (.t 115)),o 117 (.mov (.t 0)),o 118 (.mov (.t 12)),o 119 (.bin .sub (.t 118) (.k (.int .i64 1))),o 120 (.iad z (.t 117) (.t 119)),o 121 (.ld g z (.t 120))] [o 122 (.callv (.t 112) [(.t 116),(.t 121)]),o 123 (.bin .lss (.t 122) (.k (.int .i64 0))),o 124 (.un .not (.t 123))]) (.cnd (.t 124) (.ext 6) .skip)) (.drw [o 125 (.mov (.t 0)),o 126 (.mov (.t 12)),o 127 (.mov (.t 0)),o 128 (.mov (.t 12)),o 129 (.bin .sub (.t 128) (.k (.int .i64 1))),o 130 (.mov (.t 0)),o 131 (.mov (.t 12)),o 132 (.bin .sub (.t 131) (.k (.int .i64 1))),o 133 (.iad z (.t 130) (.t 132)),o 134 (.ld g z (.t 133)),o 135 (.mov (.t 0)),o 136 (.mov (.t 12)),o 137 (.iad z (.t 135) (.t 136)),o 138 (.ld g z (.t 137))] [o 139 (.iad z (.t 125) (.t 126)),on (.st z (.t 139) (.t 134)),o 140 (.iad z (.t 127) (.t 129)),on (.st z (.t 140) (.t 138))]))) (.reg [o 110 (.mov (.t 12)),o 111 (.bin .add (.t 110) (.k (.int .i64 1))),o 12 (.mov (.t 111))])))))) .skip)))))))) (.reg [o 17 (.mov (.t 10)),o 18 (.bin .add (.t 17) (.k (.int .i64 1))),o 10 (.mov (.t 18))])))))) (.seq (.reg [o 8 (.mov (.k (.bool false)))]) .ret))))⟩
def Eo (z:Nat) (g:Bool) (q:SN):Fn1:=⟨133,[.t 6],(.seq (.reg [o 6 (.mov (.k (.bool false)))]) (.seq (.reg [o 11 (.mov (.t 1)),o 12 (.bin .add (.t 11) (.k (.int .i64 1))),o 7 (.mov (.t 12))]) (.seq (.seq (.reg [o 8 (.mov (.k (.int .i64 0)))]) (.blk 0 (.lop (.seq (.seq (.reg [o 13 (.mov (.t 8)),o 14 (.bin .lss (.t 13) (.k (.int .i64 5)))]) (.cnd (.t 14) .skip (.ext 0))) (.seq (.blk 1 (.seq (.blk 2 (.lop (.seq (.seq (.drw [o 17 (.mov (.t 7)),o 18 (.mov (.t 2)),o 19 (.bin .lss (.t 17) (.t 18)),o 20 (.mov (.t 19)),og 21 20 true (.mov (.t 0)),og 22 20 true (.mov (.t 7)),og 23 20 true (.iad z (.t 21) (.t 22)),og 24 20 true (.ld g z (.t 23)),og 25 20 true (.mov (.t 0)),og 26 20 true (.mov (.t 7)),og 27 20 true (.bin .sub (.t 26) (.k (.int .i64 1))),og 28 20 true (.iad z (.t 25) (.t 27)),og 29 20 true (.ld g z (.t 28))] [og 30 20 true (.call q.less [(.t 24),(.t 29)]),og 31 20 true (.un .not (.t 30)),o 32 (.pick (.t 20) (.t 31) (.k (.bool false)))]) (.cnd (.t 32) .skip (.ext 2))) (.blk 3 (.reg [o 33 (.mov (.t 7)),o 34 (.bin .add (.t 33) (.k (.int .i64 1))),o 7 (.mov (.t 34))]))))) (.seq (.seq (.reg [o 35 (.mov (.t 7)),o 36 (.mov (.t 2)),o 37 (.bin .eql (.t 35) (.t 36))]) (.cnd (.t 37) (.seq (.reg [o 6 (.mov (.k (.bool true)))]) .ret) .skip)) (.seq (.seq (.reg [o 38 (.mov (.t 2)),o 39 (.mov (.t 1)),o 40 (.bin .sub (.t 38) (.t 39)),o 41 (.bin .lss (.t 40) (.k (.int .i64 50)))]) (.cnd (.t 41) (.seq (.reg [o 6 (.mov (.k (.bool false)))]) .ret) .skip)) (.seq (.drw [o 42 (.mov (.t 0)),o 43 (.mov (.t 7)),o 44 (.mov (.t 0)),o 45 (.mov (.t 7)),o 46 (.bin .sub (.t 45) (.k (.int .i64 1))),o 47 (.mov (.t 0)),o 48 (.mov (.t 7)),o 49 (.bin .sub (.t 48) (.k (.int .i64 1))),o 50 (.iad z (.t 47) (.t 49)),o 51 (.ld g z (.t 50)),o 52 (.mov (.t 0)),o 53 (.mov (.t 7)),o 54 (.iad z (.t 52) (.t 53)),o 55 (.ld g z (.t 54))] [o 56 (.iad z (.t 42) (.t 43)),on (.st z (.t 56) (.t 51)),o 57 (.iad z (.t 44) (.t 46)),on (.st z (.t 57) (.t 55))]) (.seq (.seq (.reg [o 58 (.mov (.t 7)),o 59 (.mov (.t 1)),o 60 (.bin .sub (.t 58) (.t 59)),o 61 (.bin .geq (.t 60) (.k (.int .i64 2)))]) (.cnd (.t 61) (.seq (.reg [o 62 (.mov (.t 7)),o 63 (.bin .sub (.t 62) (.k (.int .i64 1))),o 9 (.mov (.t 63))]) (.blk 4 (.lop (.seq (.seq (.reg [o 64 (.mov (.t 9)),o 65 (.bin .geq (.t 64) (.k (.int .i64 1)))]) (.cnd (.t 65) .skip (.ext 4))) (.seq (.blk 5 (.seq (.seq (.drw [o 68 (.mov (.t 0)),o 69 (.mov (.t 9)),o 70 (.iad z (.t 68) (.t 69)),o 71 (.ld g z (.t 70)),o 72 (.mov (.t 0)),o 73 (.mov (.t 9)),o 74 (.bin .sub (.t 73) (.k (.int .i64 1))),o 75 (.iad z (.t 72) (.t 74)),o 76 (.ld g z (.t 75))] [o 77 (.call q.less [(.t 71),(.t 76)]),o 78 (.un .not (.t 77))]) (.cnd (.t 78) (.ext 4) .skip)) (.drw [o 79 (.mov (.t 0)),o 80 (.mov (.t 9)),o 81 (.mov (.t 0)),o 82 (.mov (.t 9)),o 83 (.bin .sub (.t 82) (.k (.int .i64 1))),o 84 (.mov (.t 0)),o 85 (.mov (.t 9)),o 86 (.bin .sub (.t 85) (.k (.int .i64 1))),o 87 (.iad z (.t 84) (.t 86)),o 88 (.ld g z (.t 87)),o 89 (.mov (.t 0)),o 90 (.mov (.t 9)),o 91 (.iad z (.t 89) (.t 90)),o 92 (.ld g z (.t 91))] [o 93 (.iad z (.t 79) (.t 80)),on (.st z (.t 93) (.t 88)),o 94 (.iad z (.t 81) (.t 83)),on (.st z (.t 94) (.t 92))]))) (.reg [o 66 (.mov (.t 9)),o 67 (.bin .sub (.t 66) (.k (.int .i64 1))),o 9 (.mov (.t 67))])))))) .skip)) (.seq (.reg [o 95 (.mov (.t 2)),o 96 (.mov (.t 7)),o 97 (.bin .sub (.t 95) (.t 96)),o 98 (.bin .geq (.t 97) (.k (.int .i64 2)))]) (.cnd (.t 98) (.seq (.reg [o 99 (.mov (.t 7)),o 100 (.bin .add (.t 99) (.k (.int .i64 1))),o 10 (.mov (.t 100))]) (.blk 6 (.lop (.seq (.seq (.reg [o 101 (.mov (.t 10)),o 102 (.mov (.t 2)),o 103 (.bin .lss (.t 101) (.t 102))]) (.cnd (.t 103) .skip (.ext 6))) (.seq (.blk 7 (.seq (.seq (.drw [o 106 (.mov (.t 0)),o 107 (.mov (.t 10)),o 108 (.iad z (.t 106) (.t 107)),o 109 (.ld g z (.t 108)),o 110 (.mov (.t 0)),o 111 (.mov (.t 10)),o 112 (.bin .sub (.t 111) (.k (.int .i64 1))),o 113 (.iad z (.t 110) (.t 112)),o 114 (.ld g z (.t 113))] [o 115 (.call q.less [(.t 109),(.t 114)]),o 116 (.un .not (.t 115))]) (.cnd (.t 116) (.ext 6) .skip)) (.drw [o 117 (.mov (.t 0)),o 118 (.mov (.t 10)),o 119 (.mov (.t 0)),o 120 (.mov (.t 10)),o 121 (.bin .sub (.t 120) (.k (.int .i64 1))),o 122 (.mov (.t 0)),o 123 (.mov (.t 10)),o 124 (.bin .sub (.t 123) (.k (.int .i64 1))),o 125 (.iad z (.t 122) (.t 124)),o 126 (.ld g z (.t 125)),o 127 (.mov (.t 0)),o 128 (.mov (.t 10)),o 129 (.iad z (.t 127) (.t 128)),o 130 (.ld g z (.t 129))] [o 131 (.iad z (.t 117) (.t 118)),on (.st z (.t 131) (.t 126)),o 132 (.iad z (.t 119) (.t 121)),on (.st z (.t 132) (.t 130))]))) (.reg [o 104 (.mov (.t 10)),o 105 (.bin .add (.t 104) (.k (.int .i64 1))),o 10 (.mov (.t 105))])))))) .skip)))))))) (.reg [o 15 (.mov (.t 8)),o 16 (.bin .add (.t 15) (.k (.int .i64 1))),o 8 (.mov (.t 16))])))))) (.seq (.reg [o 6 (.mov (.k (.bool false)))]) .ret))))⟩
def N8 (z:Nat) (g:Bool) (q:SN):Fn1:=⟨178,[.t 10,.t 11],(.seq (.reg [o 10 (.mov (.k (.int .i64 0))),o 11 (.mov (.k (.bool false)))]) (.seq (.drw [o 14 (.mov (.t 0)),o 15 (.mov (.t 1)),o 16 (.mov (.t 0)),o 17 (.mov (.t 3)),o 18 (.mov (.t 0)),o 19 (.mov (.t 3)),o 20 (.iad z (.t 18) (.t 19)),o 21 (.ld g z (.t 20)),o 22 (.mov (.t 0)),o 23 (.mov (.t 1)),o 24 (.iad z (.t 22) (.t 23)),o 25 (.ld g z (.t 24))] [o 26 (.iad z (.t 14) (.t 15)),on (.st z (.t 26) (.t 21)),o 27 (.iad z (.t 16) (.t 17)),on (.st z (.t 27) (.t 25))]) (.seq (.reg [o 28 (.mov (.t 1)),o 29 (.bin .add (.t 28) (.k (.int .i64 1))),o 30 (.mov (.t 2)),o 31 (.bin .sub (.t 30) (.k (.int .i64 1))),o 12 (.mov (.t 29)),o 13 (.mov (.t 31))]) (.seq (.blk 0 (.lop (.seq (.seq (.drw [o 32 (.mov (.t 12)),o 33 (.mov (.t 13)),o 34 (.bin .leq (.t 32) (.t 33)),o 35 (.mov (.t 34)),og 36 35 true (.mov (.t 4)),og 37 35 true (.mov (.t 0)),og 38 35 true (.mov (.t 12)),og 39 35 true (.iad z (.t 37) (.t 38)),og 40 35 true (.ld g z (.t 39)),og 41 35 true (.mov (.t 0)),og 42 35 true (.mov (.t 1)),og 43 35 true (.iad z (.t 41) (.t 42)),og 44 35 true (.ld g z (.t 43))] [og 45 35 true (.callv (.t 36) [(.t 40),(.t 44)]),og 46 35 true (.bin .lss (.t 45) (.k (.int .i64 0))),o 47 (.pick (.t 35) (.t 46) (.k (.bool false)))]) (.cnd (.t 47) .skip (.ext 0))) (.blk 1 (.reg [o 48 (.mov (.t 12)),o 49 (.bin .add (.t 48) (.k (.int .i64 1))),o 12 (.mov (.t 49))]))))) (.seq (.blk 2 (.lop (.seq (.seq (.drw [o 50 (.mov (.t 12)),o 51 (.mov (.t 13)),o 52 (.bin .leq (.t 50) (.t 51)),o 53 (.mov (.t 52)),og 54 53 true (.mov (.t 4)),og 55 53 true (.mov (.t 0)),og 56 53 true (.mov (.t 13)),og 57 53 true (.iad z (.t 55) (.t 56)),og 58 53 true (.ld g z (.t 57)),og 59 53 true (.mov (.t 0)),og 60 53 true (.mov (.t 1)),og 61 53 true (.iad z (.t 59) (.t 60)),og 62 53 true (.ld g z (.t 61))] [og 63 53 true (.callv (.t 54) [(.t 58),(.t 62)]),og 64 53 true (.bin .lss (.t 63) (.k (.int .i64 0))),og 65 53 true (.un .not (.t 64)),o 66 (.pick (.t 53) (.t 65) (.k (.bool false)))]) (.cnd (.t 66) .skip (.ext 2))) (.blk 3 (.reg [o 67 (.mov (.t 13)),o 68 (.bin .sub (.t 67) (.k (.int .i64 1))),o 13 (.mov (.t 68))]))))) (.seq (.seq (.reg [o 69 (.mov (.t 12)),o 70 (.mov (.t 13)),o 71 (.bin .gtr (.t 69) (.t 70))]) (.cnd (.t 71) (.seq (.drw [o 72 (.mov (.t 0)),o 73 (.mov (.t 13)),o 74 (.mov (.t 0)),o 75 (.mov (.t 1)),o 76 (.mov (.t 0)),o 77 (.mov (.t 1)),o 78 (.iad z (.t 76) (.t 77)),o 79 (.ld g z (.t 78)),o 80 (.mov (.t 0)),o 81 (.mov (.t 13)),o 82 (.iad z (.t 80) (.t 81)),o 83 (.ld g z (.t 82))] [o 84 (.iad z (.t 72) (.t 73)),on (.st z (.t 84) (.t 79)),o 85 (.iad z (.t 74) (.t 75)),on (.st z (.t 85) (.t 83))]) (.seq (.reg [o 86 (.mov (.t 13)),o 10 (.mov (.t 86)),o 11 (.mov (.k (.bool true)))]) .ret)) .skip)) (.seq (.drw [o 87 (.mov (.t 0)),o 88 (.mov (.t 12)),o 89 (.mov (.t 0)),o 90 (.mov (.t 13)),o 91 (.mov (.t 0)),o 92 (.mov (.t 13)),o 93 (.iad z (.t 91) (.t 92)),o 94 (.ld g z (.t 93)),o 95 (.mov (.t 0)),o 96 (.mov (.t 12)),o 97 (.iad z (.t 95) (.t 96)),o 98 (.ld g z (.t 97))] [o 99 (.iad z (.t 87) (.t 88)),on (.st z (.t 99) (.t 94)),o 100 (.iad z (.t 89) (.t 90)),on (.st z (.t 100) (.t 98))]) (.seq (.reg [o 101 (.mov (.t 12)),o 102 (.bin .add (.t 101) (.k (.int .i64 1))),o 12 (.mov (.t 102))]) (.seq (.reg [o 103 (.mov (.t 13)),o 104 (.bin .sub (.t 103) (.k (.int .i64 1))),o 13 (.mov (.t 104))]) (.seq (.blk 4 (.lop (.blk 5 (.seq (.blk 6 (.lop (.seq (.seq (.drw [o 105 (.mov (.t 12)),o 106 (.mov (.t 13)),o 107 (.bin .leq (.t 105) (.t 106)),o 108 (.mov (.t 107)),og 109 108 true (.mov (.t 4)),og 110 108 true (.mov (.t 0)),og 111 108 true (.mov (.t 12)),og 112 108 true (.iad z (.t 110) (.t 111)),og 113 108 true (.ld g z (.t 112)),og 114 108 true (.mov (.t 0)),og 115 108 true (.mov (.t 1)),og 116 108 true (.iad z (.t 114) (.t 115)),og 117 108 true (.ld g z (.t 116))] [og 118 108 true (.callv (.t 109) [(.t 113),(.t 117)]),og 119 108 true (.bin .lss (.t 118) (.k (.int .i64 0))),o 120 (.pick (.t 108) (.t 119) (.k (.bool false)))]) (.cnd (.t 120) .skip (.ext 6))) (.blk 7 (.reg [o 121 (.mov (.t 12)),o 122 (.bin .add (.t 121) (.k (.int .i64 1))),o 12 (.mov (.t 122))]))))) (.seq (.blk 8 (.lop (.seq (.seq (.drw [o 123 (.mov (.t 12)),o 124 (.mov (.t 13)),o 125 (.bin .leq (.t 123) (.t 124)),o 126 (.mov (.t 125)),og 127 126 true (.mov (.t 4)),og 128 126 true (.mov (.t 0)),og 129 126 true (.mov (.t 13)),og 130 126 true (.iad z (.t 128) (.t 129)),og 131 126 true (.ld g z (.t 130)),og 132 126 true (.mov (.t 0)),og 133 126 true (.mov (.t 1)),og 134 126 true (.iad z (.t 132) (.t 133)),og 135 126 true (.ld g z (.t 134))] [og 136 126 true (.callv (.t 127) [(.t 131),(.t 135)]),og 137 126 true (.bin .lss (.t 136) (.k (.int .i64 0))),og 138 126 true (.un .not (.t 137)),o 139 (.pick (.t 126) (.t 138) (.k (.bool false)))]) (.cnd (.t 139) .skip (.ext 8))) (.blk 9 (.reg [o 140 (.mov (.t 13)),o 141 (.bin .sub (.t 140) (.k (.int .i64 1))),o 13 (.mov (.t 141))]))))) (.seq (.seq (.reg [o 142 (.mov (.t 12)),o 143 (.mov (.t 13)),o 144 (.bin .gtr (.t 142) (.t 143))]) (.cnd (.t 144) (.ext 4) .skip)) (.seq (.drw [o 145 (.mov (.t 0)),o 146 (.mov (.t 12)),o 147 (.mov (.t 0)),o 148 (.mov (.t 13)),o 149 (.mov (.t 0)),o 150 (.mov (.t 13)),o 151 (.iad z (.t 149) (.t 150)),o 152 (.ld g z (.t 151)),o 153 (.mov (.t 0)),o 154 (.mov (.t 12)),o 155 (.iad z (.t 153) (.t 154)),o 156 (.ld g z (.t 155))] [o 157 (.iad z (.t 145) (.t 146)),on (.st z (.t 157) (.t 152)),o 158 (.iad z (.t 147) (.t 148)),on (.st z (.t 158) (.t 156))]) (.seq (.reg [o 159 (.mov (.t 12)),o 160 (.bin .add (.t 159) (.k (.int .i64 1))),o 12 (.mov (.t 160))]) (.reg [o 161 (.mov (.t 13)),o 162 (.bin .sub (.t 161) (.k (.int .i64 1))),o 13 (.mov (.t 162))]))))))))) (.seq (.drw [o 163 (.mov (.t 0)),o 164 (.mov (.t 13)),o 165 (.mov (.t 0)),o 166 (.mov (.t 1)),o 167 (.mov (.t 0)),o 168 (.mov (.t 1)),o 169 (.iad z (.t 167) (.t 168)),o 170 (.ld g z (.t 169)),o 171 (.mov (.t 0)),o 172 (.mov (.t 13)),o 173 (.iad z (.t 171) (.t 172)),o 174 (.ld g z (.t 173))] [o 175 (.iad z (.t 163) (.t 164)),on (.st z (.t 175) (.t 170)),o 176 (.iad z (.t 165) (.t 166)),on (.st z (.t 176) (.t 174))]) (.seq (.reg [o 177 (.mov (.t 13)),o 10 (.mov (.t 177)),o 11 (.mov (.k (.bool false)))]) .ret))))))))))))⟩
def N9 (z:Nat) (g:Bool) (q:SN):Fn1:=⟨168,[.t 8,.t 9],(.seq (.reg [o 8 (.mov (.k (.int .i64 0))),o 9 (.mov (.k (.bool false)))]) (.seq (.drw [o 12 (.mov (.t 0)),o 13 (.mov (.t 1)),o 14 (.mov (.t 0)),o 15 (.mov (.t 3)),o 16 (.mov (.t 0)),o 17 (.mov (.t 3)),o 18 (.iad z (.t 16) (.t 17)),o 19 (.ld g z (.t 18)),o 20 (.mov (.t 0)),o 21 (.mov (.t 1)),o 22 (.iad z (.t 20) (.t 21)),o 23 (.ld g z (.t 22))] [o 24 (.iad z (.t 12) (.t 13)),on (.st z (.t 24) (.t 19)),o 25 (.iad z (.t 14) (.t 15)),on (.st z (.t 25) (.t 23))]) (.seq (.reg [o 26 (.mov (.t 1)),o 27 (.bin .add (.t 26) (.k (.int .i64 1))),o 28 (.mov (.t 2)),o 29 (.bin .sub (.t 28) (.k (.int .i64 1))),o 10 (.mov (.t 27)),o 11 (.mov (.t 29))]) (.seq (.blk 0 (.lop (.seq (.seq (.drw [o 30 (.mov (.t 10)),o 31 (.mov (.t 11)),o 32 (.bin .leq (.t 30) (.t 31)),o 33 (.mov (.t 32)),og 34 33 true (.mov (.t 0)),og 35 33 true (.mov (.t 10)),og 36 33 true (.iad z (.t 34) (.t 35)),og 37 33 true (.ld g z (.t 36)),og 38 33 true (.mov (.t 0)),og 39 33 true (.mov (.t 1)),og 40 33 true (.iad z (.t 38) (.t 39)),og 41 33 true (.ld g z (.t 40))] [og 42 33 true (.call q.less [(.t 37),(.t 41)]),o 43 (.pick (.t 33) (.t 42) (.k (.bool false)))]) (.cnd (.t 43) .skip (.ext 0))) (.blk 1 (.reg [o 44 (.mov (.t 10)),o 45 (.bin .add (.t 44) (.k (.int .i64 1))),o 10 (.mov (.t 45))]))))) (.seq (.blk 2 (.lop (.seq (.seq (.drw [o 46 (.mov (.t 10)),o 47 (.mov (.t 11)),o 48 (.bin .leq (.t 46) (.t 47)),o 49 (.mov (.t 48)),og 50 49 true (.mov (.t 0)),og 51 49 true (.mov (.t 11)),og 52 49 true (.iad z (.t 50) (.t 51)),og 53 49 true (.ld g z (.t 52)),og 54 49 true (.mov (.t 0)),og 55 49 true (.mov (.t 1)),og 56 49 true (.iad z (.t 54) (.t 55)),og 57 49 true (.ld g z (.t 56))] [og 58 49 true (.call q.less [(.t 53),(.t 57)]),og 59 49 true (.un .not (.t 58)),o 60 (.pick (.t 49) (.t 59) (.k (.bool false)))]) (.cnd (.t 60) .skip (.ext 2))) (.blk 3 (.reg [o 61 (.mov (.t 11)),o 62 (.bin .sub (.t 61) (.k (.int .i64 1))),o 11 (.mov (.t 62))]))))) (.seq (.seq (.reg [o 63 (.mov (.t 10)),o 64 (.mov (.t 11)),o 65 (.bin .gtr (.t 63) (.t 64))]) (.cnd (.t 65) (.seq (.drw [o 66 (.mov (.t 0)),o 67 (.mov (.t 11)),o 68 (.mov (.t 0)),o 69 (.mov (.t 1)),o 70 (.mov (.t 0)),o 71 (.mov (.t 1)),o 72 (.iad z (.t 70) (.t 71)),o 73 (.ld g z (.t 72)),o 74 (.mov (.t 0)),o 75 (.mov (.t 11)),o 76 (.iad z (.t 74) (.t 75)),o 77 (.ld g z (.t 76))] [o 78 (.iad z (.t 66) (.t 67)),on (.st z (.t 78) (.t 73)),o 79 (.iad z (.t 68) (.t 69)),on (.st z (.t 79) (.t 77))]) (.seq (.reg [o 80 (.mov (.t 11)),o 8 (.mov (.t 80)),o 9 (.mov (.k (.bool true)))]) .ret)) .skip)) (.seq (.drw [o 81 (.mov (.t 0)),o 82 (.mov (.t 10)),o 83 (.mov (.t 0)),o 84 (.mov (.t 11)),o 85 (.mov (.t 0)),o 86 (.mov (.t 11)),o 87 (.iad z (.t 85) (.t 86)),o 88 (.ld g z (.t 87)),o 89 (.mov (.t 0)),o 90 (.mov (.t 10)),o 91 (.iad z (.t 89) (.t 90)),o 92 (.ld g z (.t 91))] [o 93 (.iad z (.t 81) (.t 82)),on (.st z (.t 93) (.t 88)),o 94 (.iad z (.t 83) (.t 84)),on (.st z (.t 94) (.t 92))]) (.seq (.reg [o 95 (.mov (.t 10)),o 96 (.bin .add (.t 95) (.k (.int .i64 1))),o 10 (.mov (.t 96))]) (.seq (.reg [o 97 (.mov (.t 11)),o 98 (.bin .sub (.t 97) (.k (.int .i64 1))),o 11 (.mov (.t 98))]) (.seq (.blk 4 (.lop (.blk 5 (.seq (.blk 6 (.lop (.seq (.seq (.drw [o 99 (.mov (.t 10)),o 100 (.mov (.t 11)),o 101 (.bin .leq (.t 99) (.t 100)),o 102 (.mov (.t 101)),og 103 102 true (.mov (.t 0)),og 104 102 true (.mov (.t 10)),og 105 102 true (.iad z (.t 103) (.t 104)),og 106 102 true (.ld g z (.t 105)),og 107 102 true (.mov (.t 0)),og 108 102 true (.mov (.t 1)),og 109 102 true (.iad z (.t 107) (.t 108)),og 110 102 true (.ld g z (.t 109))] [og 111 102 true (.call q.less [(.t 106),(.t 110)]),o 112 (.pick (.t 102) (.t 111) (.k (.bool false)))]) (.cnd (.t 112) .skip (.ext 6))) (.blk 7 (.reg [o 113 (.mov (.t 10)),o 114 (.bin .add (.t 113) (.k (.int .i64 1))),o 10 (.mov (.t 114))]))))) (.seq (.blk 8 (.lop (.seq (.seq (.drw [o 115 (.mov (.t 10)),o 116 (.mov (.t 11)),o 117 (.bin .leq (.t 115) (.t 116)),o 118 (.mov (.t 117)),og 119 118 true (.mov (.t 0)),og 120 118 true (.mov (.t 11)),og 121 118 true (.iad z (.t 119) (.t 120)),og 122 118 true (.ld g z (.t 121)),og 123 118 true (.mov (.t 0)),og 124 118 true (.mov (.t 1)),og 125 118 true (.iad z (.t 123) (.t 124)),og 126 118 true (.ld g z (.t 125))] [og 127 118 true (.call q.less [(.t 122),(.t 126)]),og 128 118 true (.un .not (.t 127)),o 129 (.pick (.t 118) (.t 128) (.k (.bool false)))]) (.cnd (.t 129) .skip (.ext 8))) (.blk 9 (.reg [o 130 (.mov (.t 11)),o 131 (.bin .sub (.t 130) (.k (.int .i64 1))),o 11 (.mov (.t 131))]))))) (.seq (.seq (.reg [o 132 (.mov (.t 10)),o 133 (.mov (.t 11)),o 134 (.bin .gtr (.t 132) (.t 133))]) (.cnd (.t 134) (.ext 4) .skip)) (.seq (.drw [o 135 (.mov (.t 0)),o 136 (.mov (.t 10)),o 137 (.mov (.t 0)),o 138 (.mov (.t 11)),o 139 (.mov (.t 0)),o 140 (.mov (.t 11)),o 141 (.iad z (.t 139) (.t 140)),o 142 (.ld g z (.t 141)),o 143 (.mov (.t 0)),o 144 (.mov (.t 10)),o 145 (.iad z (.t 143) (.t 144)),o 146 (.ld g z (.t 145))] [o 147 (.iad z (.t 135) (.t 136)),on (.st z (.t 147) (.t 142)),o 148 (.iad z (.t 137) (.t 138)),on (.st z (.t 148) (.t 146))]) (.seq (.reg [o 149 (.mov (.t 10)),o 150 (.bin .add (.t 149) (.k (.int .i64 1))),o 10 (.mov (.t 150))]) (.reg [o 151 (.mov (.t 11)),o 152 (.bin .sub (.t 151) (.k (.int .i64 1))),o 11 (.mov (.t 152))]))))))))) (.seq (.drw [o 153 (.mov (.t 0)),o 154 (.mov (.t 11)),o 155 (.mov (.t 0)),o 156 (.mov (.t 1)),o 157 (.mov (.t 0)),o 158 (.mov (.t 1)),o 159 (.iad z (.t 157) (.t 158)),o 160 (.ld g z (.t 159)),o 161 (.mov (.t 0)),o 162 (.mov (.t 11)),o 163 (.iad z (.t 161) (.t 162)),o 164 (.ld g z (.t 163))] [o 165 (.iad z (.t 153) (.t 154)),on (.st z (.t 165) (.t 160)),o 166 (.iad z (.t 155) (.t 156)),on (.st z (.t 166) (.t 164))]) (.seq (.reg [o 167 (.mov (.t 11)),o 8 (.mov (.t 167)),o 9 (.mov (.k (.bool false)))]) .ret))))))))))))⟩
def Hy (z:Nat) (g:Bool) (q:SN):Fn1:=⟨90,[.t 10],(.seq (.reg [o 10 (.mov (.k (.int .i64 0)))]) (.seq (.drw [o 13 (.mov (.t 0)),o 14 (.mov (.t 1)),o 15 (.mov (.t 0)),o 16 (.mov (.t 3)),o 17 (.mov (.t 0)),o 18 (.mov (.t 3)),o 19 (.iad z (.t 17) (.t 18)),o 20 (.ld g z (.t 19)),o 21 (.mov (.t 0)),o 22 (.mov (.t 1)),o 23 (.iad z (.t 21) (.t 22)),o 24 (.ld g z (.t 23))] [o 25 (.iad z (.t 13) (.t 14)),on (.st z (.t 25) (.t 20)),o 26 (.iad z (.t 15) (.t 16)),on (.st z (.t 26) (.t 24))]) (.seq (.reg [o 27 (.mov (.t 1)),o 28 (.bin .add (.t 27) (.k (.int .i64 1))),o 29 (.mov (.t 2)),o 30 (.bin .sub (.t 29) (.k (.int .i64 1))),o 11 (.mov (.t 28)),o 12 (.mov (.t 30))]) (.seq (.blk 0 (.lop (.blk 1 (.seq (.blk 2 (.lop (.seq (.seq (.drw [o 31 (.mov (.t 11)),o 32 (.mov (.t 12)),o 33 (.bin .leq (.t 31) (.t 32)),o 34 (.mov (.t 33)),og 35 34 true (.mov (.t 4)),og 36 34 true (.mov (.t 0)),og 37 34 true (.mov (.t 1)),og 38 34 true (.iad z (.t 36) (.t 37)),og 39 34 true (.ld g z (.t 38)),og 40 34 true (.mov (.t 0)),og 41 34 true (.mov (.t 11)),og 42 34 true (.iad z (.t 40) (.t 41)),og 43 34 true (.ld g z (.t 42))] [og 44 34 true (.callv (.t 35) [(.t 39),(.t 43)]),og 45 34 true (.bin .lss (.t 44) (.k (.int .i64 0))),og 46 34 true (.un .not (.t 45)),o 47 (.pick (.t 34) (.t 46) (.k (.bool false)))]) (.cnd (.t 47) .skip (.ext 2))) (.blk 3 (.reg [o 48 (.mov (.t 11)),o 49 (.bin .add (.t 48) (.k (.int .i64 1))),o 11 (.mov (.t 49))]))))) (.seq (.blk 4 (.lop (.seq (.seq (.drw [o 50 (.mov (.t 11)),o 51 (.mov (.t 12)),o 52 (.bin .leq (.t 50) (.t 51)),o 53 (.mov (.t 52)),og 54 53 true (.mov (.t 4)),og 55 53 true (.mov (.t 0)),og 56 53 true (.mov (.t 1)),og 57 53 true (.iad z (.t 55) (.t 56)),og 58 53 true (.ld g z (.t 57)),og 59 53 true (.mov (.t 0)),og 60 53 true (.mov (.t 12)),og 61 53 true (.iad z (.t 59) (.t 60)),og 62 53 true (.ld g z (.t 61))] [og 63 53 true (.callv (.t 54) [(.t 58),(.t 62)]),og 64 53 true (.bin .lss (.t 63) (.k (.int .i64 0))),o 65 (.pick (.t 53) (.t 64) (.k (.bool false)))]) (.cnd (.t 65) .skip (.ext 4))) (.blk 5 (.reg [o 66 (.mov (.t 12)),o 67 (.bin .sub (.t 66) (.k (.int .i64 1))),o 12 (.mov (.t 67))]))))) (.seq (.seq (.reg [o 68 (.mov (.t 11)),o 69 (.mov (.t 12)),o 70 (.bin .gtr (.t 68) (.t 69))]) (.cnd (.t 70) (.ext 0) .skip)) (.seq (.drw [o 71 (.mov (.t 0)),o 72 (.mov (.t 11)),o 73 (.mov (.t 0)),o 74 (.mov (.t 12)),o 75 (.mov (.t 0)),o 76 (.mov (.t 12)),o 77 (.iad z (.t 75) (.t 76)),o 78 (.ld g z (.t 77)),o 79 (.mov (.t 0)),o 80 (.mov (.t 11)),o 81 (.iad z (.t 79) (.t 80)),o 82 (.ld g z (.t 81))] [o 83 (.iad z (.t 71) (.t 72)),on (.st z (.t 83) (.t 78)),o 84 (.iad z (.t 73) (.t 74)),on (.st z (.t 84) (.t 82))]) (.seq (.reg [o 85 (.mov (.t 11)),o 86 (.bin .add (.t 85) (.k (.int .i64 1))),o 11 (.mov (.t 86))]) (.reg [o 87 (.mov (.t 12)),o 88 (.bin .sub (.t 87) (.k (.int .i64 1))),o 12 (.mov (.t 88))]))))))))) (.seq (.reg [o 89 (.mov (.t 11)),o 10 (.mov (.t 89))]) .ret)))))⟩
def Hz (z:Nat) (g:Bool) (q:SN):Fn1:=⟨84,[.t 8],(.seq (.reg [o 8 (.mov (.k (.int .i64 0)))]) (.seq (.drw [o 11 (.mov (.t 0)),o 12 (.mov (.t 1)),o 13 (.mov (.t 0)),o 14 (.mov (.t 3)),o 15 (.mov (.t 0)),o 16 (.mov (.t 3)),o 17 (.iad z (.t 15) (.t 16)),o 18 (.ld g z (.t 17)),o 19 (.mov (.t 0)),o 20 (.mov (.t 1)),o 21 (.iad z (.t 19) (.t 20)),o 22 (.ld g z (.t 21))] [o 23 (.iad z (.t 11) (.t 12)),on (.st z (.t 23) (.t 18)),o 24 (.iad z (.t 13) (.t 14)),on (.st z (.t 24) (.t 22))]) (.seq (.reg [o 25 (.mov (.t 1)),o 26 (.bin .add (.t 25) (.k (.int .i64 1))),o 27 (.mov (.t 2)),o 28 (.bin .sub (.t 27) (.k (.int .i64 1))),o 9 (.mov (.t 26)),o 10 (.mov (.t 28))]) (.seq (.blk 0 (.lop (.blk 1 (.seq (.blk 2 (.lop (.seq (.seq (.drw [o 29 (.mov (.t 9)),o 30 (.mov (.t 10)),o 31 (.bin .leq (.t 29) (.t 30)),o 32 (.mov (.t 31)),og 33 32 true (.mov (.t 0)),og 34 32 true (.mov (.t 1)),og 35 32 true (.iad z (.t 33) (.t 34)),og 36 32 true (.ld g z (.t 35)),og 37 32 true (.mov (.t 0)),og 38 32 true (.mov (.t 9)),og 39 32 true (.iad z (.t 37) (.t 38)),og 40 32 true (.ld g z (.t 39))] [og 41 32 true (.call q.less [(.t 36),(.t 40)]),og 42 32 true (.un .not (.t 41)),o 43 (.pick (.t 32) (.t 42) (.k (.bool false)))]) (.cnd (.t 43) .skip (.ext 2))) (.blk 3 (.reg [o 44 (.mov (.t 9)),o 45 (.bin .add (.t 44) (.k (.int .i64 1))),o 9 (.mov (.t 45))]))))) (.seq (.blk 4 (.lop (.seq (.seq (.drw [o 46 (.mov (.t 9)),o 47 (.mov (.t 10)),o 48 (.bin .leq (.t 46) (.t 47)),o 49 (.mov (.t 48)),og 50 49 true (.mov (.t 0)),og 51 49 true (.mov (.t 1)),og 52 49 true (.iad z (.t 50) (.t 51)),og 53 49 true (.ld g z (.t 52)),og 54 49 true (.mov (.t 0)),og 55 49 true (.mov (.t 10)),og 56 49 true (.iad z (.t 54) (.t 55)),og 57 49 true (.ld g z (.t 56))] [og 58 49 true (.call q.less [(.t 53),(.t 57)]),o 59 (.pick (.t 49) (.t 58) (.k (.bool false)))]) (.cnd (.t 59) .skip (.ext 4))) (.blk 5 (.reg [o 60 (.mov (.t 10)),o 61 (.bin .sub (.t 60) (.k (.int .i64 1))),o 10 (.mov (.t 61))]))))) (.seq (.seq (.reg [o 62 (.mov (.t 9)),o 63 (.mov (.t 10)),o 64 (.bin .gtr (.t 62) (.t 63))]) (.cnd (.t 64) (.ext 0) .skip)) (.seq (.drw [o 65 (.mov (.t 0)),o 66 (.mov (.t 9)),o 67 (.mov (.t 0)),o 68 (.mov (.t 10)),o 69 (.mov (.t 0)),o 70 (.mov (.t 10)),o 71 (.iad z (.t 69) (.t 70)),o 72 (.ld g z (.t 71)),o 73 (.mov (.t 0)),o 74 (.mov (.t 9)),o 75 (.iad z (.t 73) (.t 74)),o 76 (.ld g z (.t 75))] [o 77 (.iad z (.t 65) (.t 66)),on (.st z (.t 77) (.t 72)),o 78 (.iad z (.t 67) (.t 68)),on (.st z (.t 78) (.t 76))]) (.seq (.reg [o 79 (.mov (.t 9)),o 80 (.bin .add (.t 79) (.k (.int .i64 1))),o 9 (.mov (.t 80))]) (.reg [o 81 (.mov (.t 10)),o 82 (.bin .sub (.t 81) (.k (.int .i64 1))),o 10 (.mov (.t 82))]))))))))) (.seq (.reg [o 83 (.mov (.t 9)),o 8 (.mov (.t 83))]) .ret)))))⟩
def Ma (z:Nat) (g:Bool) (q:SN):Fn1:=⟨148,[],(.seq (.reg [o 10 (.mov (.k (.bool true)))]) (.seq (.reg [o 11 (.mov (.k (.bool true)))]) (.blk 0 (.lop (.blk 1 (.seq (.reg [o 21 (.mov (.t 2)),o 22 (.mov (.t 1)),o 23 (.bin .sub (.t 21) (.t 22)),o 12 (.mov (.t 23))]) (.seq (.seq (.reg [o 24 (.mov (.t 12)),o 25 (.bin .leq (.t 24) (.k (.int .i64 12)))]) (.cnd (.t 25) (.seq (.reg [o 26 (.mov (.t 0)),o 27 (.mov (.t 1)),o 28 (.mov (.t 2)),o 29 (.mov (.t 4)),o 30 (.call q.insertionSort [(.t 26),(.t 27),(.t 28),(.t 29)])]) .ret) .skip)) (.seq (.seq (.reg [o 31 (.mov (.t 3)),o 32 (.bin .eql (.t 31) (.k (.int .i64 0)))]) (.cnd (.t 32) (.seq (.reg [o 33 (.mov (.t 0)),o 34 (.mov (.t 1)),o 35 (.mov (.t 2)),o 36 (.mov (.t 4)),o 37 (.call q.heapSort [(.t 33),(.t 34),(.t 35),(.t 36)])]) .ret) .skip)) (.seq (.seq (.reg [o 38 (.mov (.t 10)),o 39 (.un .not (.t 38))]) (.cnd (.t 39) (.seq (.reg [o 40 (.mov (.t 0)),o 41 (.mov (.t 1)),o 42 (.mov (.t 2)),o 43 (.mov (.t 4)),o 44 (.call q.breakPatterns [(.t 40),(.t 41),(.t 42),(.t 43)])]) (.reg [o 45 (.mov (.t 3)),o 46 (.bin .sub (.t 45) (.k (.int .i64 1))),o 3 (.mov (.t 46))])) .skip)) (.seq (.reg [o 48 (.mov (.t 0)),o 49 (.mov (.t 1)),o 50 (.mov (.t 2)),o 51 (.mov (.t 4)),o 52 (.call q.choosePivot [(.t 48),(.t 49),(.t 50),(.t 51)]),o 47 (.mov (.t 52)),o 53 (.ext 0 (.t 47)),o 54 (.ext 1 (.t 47)),o 13 (.mov (.t 53)),o 14 (.mov (.t 54))]) (.seq (.seq (.reg [o 55 (.mov (.t 14)),o 56 (.bin .eql (.t 55) (.k (.int .i64 2)))]) (.cnd (.t 56) (.seq (.reg [o 57 (.mov (.t 0)),o 58 (.mov (.t 1)),o 59 (.mov (.t 2)),o 60 (.mov (.t 4)),o 61 (.call q.reverseRange [(.t 57),(.t 58),(.t 59),(.t 60)])]) (.seq (.reg [o 62 (.mov (.t 2)),o 63 (.bin .sub (.t 62) (.k (.int .i64 1))),o 64 (.mov (.t 13)),o 65 (.mov (.t 1)),o 66 (.bin .sub (.t 64) (.t 65)),o 67 (.bin .sub (.t 63) (.t 66)),o 13 (.mov (.t 67))]) (.reg [o 14 (.mov (.k (.int .i64 1)))]))) .skip)) (.seq (.seq (.reg [o 68 (.mov (.t 10)),o 69 (.mov (.t 68)),og 70 69 true (.mov (.t 11)),o 71 (.pick (.t 69) (.t 70) (.k (.bool false))),o 72 (.mov (.t 71)),og 73 72 true (.mov (.t 14)),og 74 72 true (.bin .eql (.t 73) (.k (.int .i64 1))),o 75 (.pick (.t 72) (.t 74) (.k (.bool false)))]) (.cnd (.t 75) (.seq (.reg [o 76 (.mov (.t 0)),o 77 (.mov (.t 1)),o 78 (.mov (.t 2)),o 79 (.mov (.t 4)),o 80 (.call q.partialInsertionSort [(.t 76),(.t 77),(.t 78),(.t 79)])]) (.cnd (.t 80) .ret .skip)) .skip)) (.seq (.seq (.drw [o 81 (.mov (.t 1)),o 82 (.bin .gtr (.t 81) (.k (.int .i64 0))),o 83 (.mov (.t 82)),og 84 83 true (.mov (.t 4)),og 85 83 true (.mov (.t 0)),og 86 83 true (.mov (.t 1)),og 87 83 true (.bin .sub (.t 86) (.k (.int .i64 1))),og 88 83 true (.iad z (.t 85) (.t 87)),og 89 83 true (.ld g z (.t 88)),og 90 83 true (.mov (.t 0)),og 91 83 true (.mov (.t 13)),og 92 83 true (.iad z (.t 90) (.t 91)),og 93 83 true (.ld g z (.t 92))] [og 94 83 true (.callv (.t 84) [(.t 89),(.t 93)]),og 95 83 true (.bin .lss (.t 94) (.k (.int .i64 0))),og 96 83 true (.un .not (.t 95)),o 97 (.pick (.t 83) (.t 96) (.k (.bool false)))]) (.cnd (.t 97) (.seq (.reg [o 98 (.mov (.t 0)),o 99 (.mov (.t 1)),o 100 (.mov (.t 2)),o 101 (.mov (.t 13)),o 102 (.mov (.t 4)),o 103 (.call q.partitionEqual [(.t 98),(.t 99),(.t 100),(.t 101),(.t 102)]),o 15 (.mov (.t 103))]) (.seq (.reg [o 104 (.mov (.t 15)),o 1 (.mov (.t 104))]) (.ext 1))) .skip)) (.seq (.reg [o 106 (.mov (.t 0)),o 107 (.mov (.t 1)),o 108 (.mov (.t 2)),o 109 (.mov (.t 13)),o 110 (.mov (.t 4)),o 111 (.call q.partition [(.t 106),(.t 107),(.t 108),(.t 109),(.t 110)]),o 105 (.mov (.t 111)),o 112 (.ext 0 (.t 105)),o 113 (.ext 1 (.t 105)),o 16 (.mov (.t 112)),o 17 (.mov (.t 113))]) (.seq (.reg [o 114 (.mov (.t 17)),o 11 (.mov (.t 114))]) (.seq (.reg [o 115 (.mov (.t 16)),o 116 (.mov (.t 1)),o 117 (.bin .sub (.t 115) (.t 116)),o 118 (.mov (.t 2)),o 119 (.mov (.t 16)),o 120 (.bin .sub (.t 118) (.t 119)),o 18 (.mov (.t 117)),o 19 (.mov (.t 120))]) (.seq (.reg [o 121 (.mov (.t 12)),o 122 (.bin .quo (.t 121) (.k (.int .i64 8))),o 20 (.mov (.t 122))]) (.seq (.reg [o 123 (.mov (.t 18)),o 124 (.mov (.t 19)),o 125 (.bin .lss (.t 123) (.t 124))]) (.cnd (.t 125) (.seq (.reg [o 126 (.mov (.t 18)),o 127 (.mov (.t 20)),o 128 (.bin .geq (.t 126) (.t 127)),o 10 (.mov (.t 128))]) (.seq (.reg [o 129 (.mov (.t 0)),o 130 (.mov (.t 1)),o 131 (.mov (.t 16)),o 132 (.mov (.t 3)),o 133 (.mov (.t 4)),o 134 (.call q.pdqsort [(.t 129),(.t 130),(.t 131),(.t 132),(.t 133)])]) (.reg [o 135 (.mov (.t 16)),o 136 (.bin .add (.t 135) (.k (.int .i64 1))),o 1 (.mov (.t 136))]))) (.seq (.reg [o 137 (.mov (.t 19)),o 138 (.mov (.t 20)),o 139 (.bin .geq (.t 137) (.t 138)),o 10 (.mov (.t 139))]) (.seq (.reg [o 140 (.mov (.t 0)),o 141 (.mov (.t 16)),o 142 (.bin .add (.t 141) (.k (.int .i64 1))),o 143 (.mov (.t 2)),o 144 (.mov (.t 3)),o 145 (.mov (.t 4)),o 146 (.call q.pdqsort [(.t 140),(.t 142),(.t 143),(.t 144),(.t 145)])]) (.reg [o 147 (.mov (.t 16)),o 2 (.mov (.t 147))]))))))))))))))))))))))⟩
def Mb (z:Nat) (g:Bool) (q:SN):Fn1:=⟨134,[],(.seq (.reg [o 8 (.mov (.k (.bool true)))]) (.seq (.reg [o 9 (.mov (.k (.bool true)))]) (.blk 0 (.lop (.blk 1 (.seq (.reg [o 19 (.mov (.t 2)),o 20 (.mov (.t 1)),o 21 (.bin .sub (.t 19) (.t 20)),o 10 (.mov (.t 21))]) (.seq (.seq (.reg [o 22 (.mov (.t 10)),o 23 (.bin .leq (.t 22) (.k (.int .i64 12)))]) (.cnd (.t 23) (.seq (.reg [o 24 (.mov (.t 0)),o 25 (.mov (.t 1)),o 26 (.mov (.t 2)),o 27 (.call q.insertionSort [(.t 24),(.t 25),(.t 26)])]) .ret) .skip)) (.seq (.seq (.reg [o 28 (.mov (.t 3)),o 29 (.bin .eql (.t 28) (.k (.int .i64 0)))]) (.cnd (.t 29) (.seq (.reg [o 30 (.mov (.t 0)),o 31 (.mov (.t 1)),o 32 (.mov (.t 2)),o 33 (.call q.heapSort [(.t 30),(.t 31),(.t 32)])]) .ret) .skip)) (.seq (.seq (.reg [o 34 (.mov (.t 8)),o 35 (.un .not (.t 34))]) (.cnd (.t 35) (.seq (.reg [o 36 (.mov (.t 0)),o 37 (.mov (.t 1)),o 38 (.mov (.t 2)),o 39 (.call q.breakPatterns [(.t 36),(.t 37),(.t 38)])]) (.reg [o 40 (.mov (.t 3)),o 41 (.bin .sub (.t 40) (.k (.int .i64 1))),o 3 (.mov (.t 41))])) .skip)) (.seq (.reg [o 43 (.mov (.t 0)),o 44 (.mov (.t 1)),o 45 (.mov (.t 2)),o 46 (.call q.choosePivot [(.t 43),(.t 44),(.t 45)]),o 42 (.mov (.t 46)),o 47 (.ext 0 (.t 42)),o 48 (.ext 1 (.t 42)),o 11 (.mov (.t 47)),o 12 (.mov (.t 48))]) (.seq (.seq (.reg [o 49 (.mov (.t 12)),o 50 (.bin .eql (.t 49) (.k (.int .i64 2)))]) (.cnd (.t 50) (.seq (.reg [o 51 (.mov (.t 0)),o 52 (.mov (.t 1)),o 53 (.mov (.t 2)),o 54 (.call q.reverseRange [(.t 51),(.t 52),(.t 53)])]) (.seq (.reg [o 55 (.mov (.t 2)),o 56 (.bin .sub (.t 55) (.k (.int .i64 1))),o 57 (.mov (.t 11)),o 58 (.mov (.t 1)),o 59 (.bin .sub (.t 57) (.t 58)),o 60 (.bin .sub (.t 56) (.t 59)),o 11 (.mov (.t 60))]) (.reg [o 12 (.mov (.k (.int .i64 1)))]))) .skip)) (.seq (.seq (.reg [o 61 (.mov (.t 8)),o 62 (.mov (.t 61)),og 63 62 true (.mov (.t 9)),o 64 (.pick (.t 62) (.t 63) (.k (.bool false))),o 65 (.mov (.t 64)),og 66 65 true (.mov (.t 12)),og 67 65 true (.bin .eql (.t 66) (.k (.int .i64 1))),o 68 (.pick (.t 65) (.t 67) (.k (.bool false)))]) (.cnd (.t 68) (.seq (.reg [o 69 (.mov (.t 0)),o 70 (.mov (.t 1)),o 71 (.mov (.t 2)),o 72 (.call q.partialInsertionSort [(.t 69),(.t 70),(.t 71)])]) (.cnd (.t 72) .ret .skip)) .skip)) (.seq (.seq (.drw [o 73 (.mov (.t 1)),o 74 (.bin .gtr (.t 73) (.k (.int .i64 0))),o 75 (.mov (.t 74)),og 76 75 true (.mov (.t 0)),og 77 75 true (.mov (.t 1)),og 78 75 true (.bin .sub (.t 77) (.k (.int .i64 1))),og 79 75 true (.iad z (.t 76) (.t 78)),og 80 75 true (.ld g z (.t 79)),og 81 75 true (.mov (.t 0)),og 82 75 true (.mov (.t 11)),og 83 75 true (.iad z (.t 81) (.t 82)),og 84 75 true (.ld g z (.t 83))] [og 85 75 true (.call q.less [(.t 80),(.t 84)]),og 86 75 true (.un .not (.t 85)),o 87 (.pick (.t 75) (.t 86) (.k (.bool false)))]) (.cnd (.t 87) (.seq (.reg [o 88 (.mov (.t 0)),o 89 (.mov (.t 1)),o 90 (.mov (.t 2)),o 91 (.mov (.t 11)),o 92 (.call q.partitionEqual [(.t 88),(.t 89),(.t 90),(.t 91)]),o 13 (.mov (.t 92))]) (.seq (.reg [o 93 (.mov (.t 13)),o 1 (.mov (.t 93))]) (.ext 1))) .skip)) (.seq (.reg [o 95 (.mov (.t 0)),o 96 (.mov (.t 1)),o 97 (.mov (.t 2)),o 98 (.mov (.t 11)),o 99 (.call q.partition [(.t 95),(.t 96),(.t 97),(.t 98)]),o 94 (.mov (.t 99)),o 100 (.ext 0 (.t 94)),o 101 (.ext 1 (.t 94)),o 14 (.mov (.t 100)),o 15 (.mov (.t 101))]) (.seq (.reg [o 102 (.mov (.t 15)),o 9 (.mov (.t 102))]) (.seq (.reg [o 103 (.mov (.t 14)),o 104 (.mov (.t 1)),o 105 (.bin .sub (.t 103) (.t 104)),o 106 (.mov (.t 2)),o 107 (.mov (.t 14)),o 108 (.bin .sub (.t 106) (.t 107)),o 16 (.mov (.t 105)),o 17 (.mov (.t 108))]) (.seq (.reg [o 109 (.mov (.t 10)),o 110 (.bin .quo (.t 109) (.k (.int .i64 8))),o 18 (.mov (.t 110))]) (.seq (.reg [o 111 (.mov (.t 16)),o 112 (.mov (.t 17)),o 113 (.bin .lss (.t 111) (.t 112))]) (.cnd (.t 113) (.seq (.reg [o 114 (.mov (.t 16)),o 115 (.mov (.t 18)),o 116 (.bin .geq (.t 114) (.t 115)),o 8 (.mov (.t 116))]) (.seq (.reg [o 117 (.mov (.t 0)),o 118 (.mov (.t 1)),o 119 (.mov (.t 14)),o 120 (.mov (.t 3)),o 121 (.call q.pdqsort [(.t 117),(.t 118),(.t 119),(.t 120)])]) (.reg [o 122 (.mov (.t 14)),o 123 (.bin .add (.t 122) (.k (.int .i64 1))),o 1 (.mov (.t 123))]))) (.seq (.reg [o 124 (.mov (.t 17)),o 125 (.mov (.t 18)),o 126 (.bin .geq (.t 124) (.t 125)),o 8 (.mov (.t 126))]) (.seq (.reg [o 127 (.mov (.t 0)),o 128 (.mov (.t 14)),o 129 (.bin .add (.t 128) (.k (.int .i64 1))),o 130 (.mov (.t 2)),o 131 (.mov (.t 3)),o 132 (.call q.pdqsort [(.t 127),(.t 129),(.t 130),(.t 131)])]) (.reg [o 133 (.mov (.t 14)),o 2 (.mov (.t 133))]))))))))))))))))))))))⟩
def Jl (z:Nat) (g:Bool) (q:SN):Fn1:=⟨34,[],(.seq (.reg [o 10 (.mov (.t 1)),o 8 (.mov (.t 10))]) (.seq (.reg [o 11 (.mov (.t 2)),o 12 (.bin .sub (.t 11) (.k (.int .i64 1))),o 9 (.mov (.t 12))]) (.blk 0 (.lop (.seq (.seq (.reg [o 13 (.mov (.t 8)),o 14 (.mov (.t 9)),o 15 (.bin .lss (.t 13) (.t 14))]) (.cnd (.t 15) .skip (.ext 0))) (.blk 1 (.seq (.drw [o 16 (.mov (.t 0)),o 17 (.mov (.t 8)),o 18 (.mov (.t 0)),o 19 (.mov (.t 9)),o 20 (.mov (.t 0)),o 21 (.mov (.t 9)),o 22 (.iad z (.t 20) (.t 21)),o 23 (.ld g z (.t 22)),o 24 (.mov (.t 0)),o 25 (.mov (.t 8)),o 26 (.iad z (.t 24) (.t 25)),o 27 (.ld g z (.t 26))] [o 28 (.iad z (.t 16) (.t 17)),on (.st z (.t 28) (.t 23)),o 29 (.iad z (.t 18) (.t 19)),on (.st z (.t 29) (.t 27))]) (.seq (.reg [o 30 (.mov (.t 8)),o 31 (.bin .add (.t 30) (.k (.int .i64 1))),o 8 (.mov (.t 31))]) (.reg [o 32 (.mov (.t 9)),o 33 (.bin .sub (.t 32) (.k (.int .i64 1))),o 9 (.mov (.t 33))])))))))))⟩
def Jm (z:Nat) (g:Bool) (q:SN):Fn1:=⟨32,[],(.seq (.reg [o 8 (.mov (.t 1)),o 6 (.mov (.t 8))]) (.seq (.reg [o 9 (.mov (.t 2)),o 10 (.bin .sub (.t 9) (.k (.int .i64 1))),o 7 (.mov (.t 10))]) (.blk 0 (.lop (.seq (.seq (.reg [o 11 (.mov (.t 6)),o 12 (.mov (.t 7)),o 13 (.bin .lss (.t 11) (.t 12))]) (.cnd (.t 13) .skip (.ext 0))) (.blk 1 (.seq (.drw [o 14 (.mov (.t 0)),o 15 (.mov (.t 6)),o 16 (.mov (.t 0)),o 17 (.mov (.t 7)),o 18 (.mov (.t 0)),o 19 (.mov (.t 7)),o 20 (.iad z (.t 18) (.t 19)),o 21 (.ld g z (.t 20)),o 22 (.mov (.t 0)),o 23 (.mov (.t 6)),o 24 (.iad z (.t 22) (.t 23)),o 25 (.ld g z (.t 24))] [o 26 (.iad z (.t 14) (.t 15)),on (.st z (.t 26) (.t 21)),o 27 (.iad z (.t 16) (.t 17)),on (.st z (.t 27) (.t 25))]) (.seq (.reg [o 28 (.mov (.t 6)),o 29 (.bin .add (.t 28) (.k (.int .i64 1))),o 6 (.mov (.t 29))]) (.reg [o 30 (.mov (.t 7)),o 31 (.bin .sub (.t 30) (.k (.int .i64 1))),o 7 (.mov (.t 31))])))))))))⟩
def Pn (z:Nat) (g:Bool) (q:SN):Fn1:=⟨82,[],(.seq (.reg [o 12 (.mov (.t 1)),o 10 (.mov (.t 12))]) (.blk 0 (.lop (.blk 1 (.seq (.reg [o 13 (.mov (.t 10)),o 14 (.bin .mul (.k (.int .i64 2)) (.t 13)),o 15 (.bin .add (.t 14) (.k (.int .i64 1))),o 11 (.mov (.t 15))]) (.seq (.seq (.reg [o 16 (.mov (.t 11)),o 17 (.mov (.t 2)),o 18 (.bin .geq (.t 16) (.t 17))]) (.cnd (.t 18) (.ext 0) .skip)) (.seq (.seq (.drw [o 19 (.mov (.t 11)),o 20 (.bin .add (.t 19) (.k (.int .i64 1))),o 21 (.mov (.t 2)),o 22 (.bin .lss (.t 20) (.t 21)),o 23 (.mov (.t 22)),og 24 23 true (.mov (.t 4)),og 25 23 true (.mov (.t 0)),og 26 23 true (.mov (.t 3)),og 27 23 true (.mov (.t 11)),og 28 23 true (.bin .add (.t 26) (.t 27)),og 29 23 true (.iad z (.t 25) (.t 28)),og 30 23 true (.ld g z (.t 29)),og 31 23 true (.mov (.t 0)),og 32 23 true (.mov (.t 3)),og 33 23 true (.mov (.t 11)),og 34 23 true (.bin .add (.t 32) (.t 33)),og 35 23 true (.bin .add (.t 34) (.k (.int .i64 1))),og 36 23 true (.iad z (.t 31) (.t 35)),og 37 23 true (.ld g z (.t 36))] [og 38 23 true (.callv (.t 24) [(.t 30),(.t 37)]),og 39 23 true (.bin .lss (.t 38) (.k (.int .i64 0))),o 40 (.pick (.t 23) (.t 39) (.k (.bool false)))]) (.cnd (.t 40) (.reg [o 41 (.mov (.t 11)),o 42 (.bin .add (.t 41) (.k (.int .i64 1))),o 11 (.mov (.t 42))]) .skip)) (.seq (.seq (.drw [o 43 (.mov (.t 4)),o 44 (.mov (.t 0)),o 45 (.mov (.t 3)),o 46 (.mov (.t 10)),o 47 (.bin .add (.t 45) (.t 46)),o 48 (.iad z (.t 44) (.t 47)),o 49 (.ld g z (.t 48)),o 50 (.mov (.t 0)),o 51 (.mov (.t 3)),o 52 (.mov (.t 11)),o 53 (.bin .add (.t 51) (.t 52)),o 54 (.iad z (.t 50) (.t 53)),o 55 (.ld g z (.t 54))] [o 56 (.callv (.t 43) [(.t 49),(.t 55)]),o 57 (.bin .lss (.t 56) (.k (.int .i64 0))),o 58 (.un .not (.t 57))]) (.cnd (.t 58) .ret .skip)) (.seq (.drw [o 59 (.mov (.t 0)),o 60 (.mov (.t 3)),o 61 (.mov (.t 10)),o 62 (.bin .add (.t 60) (.t 61)),o 63 (.mov (.t 0)),o 64 (.mov (.t 3)),o 65 (.mov (.t 11)),o 66 (.bin .add (.t 64) (.t 65)),o 67 (.mov (.t 0)),o 68 (.mov (.t 3)),o 69 (.mov (.t 11)),o 70 (.bin .add (.t 68) (.t 69)),o 71 (.iad z (.t 67) (.t 70)),o 72 (.ld g z (.t 71)),o 73 (.mov (.t 0)),o 74 (.mov (.t 3)),o 75 (.mov (.t 10)),o 76 (.bin .add (.t 74) (.t 75)),o 77 (.iad z (.t 73) (.t 76)),o 78 (.ld g z (.t 77))] [o 79 (.iad z (.t 59) (.t 62)),on (.st z (.t 79) (.t 72)),o 80 (.iad z (.t 63) (.t 66)),on (.st z (.t 80) (.t 78))]) (.reg [o 81 (.mov (.t 11)),o 10 (.mov (.t 81))]))))))))))⟩
def Po (z:Nat) (g:Bool) (q:SN):Fn1:=⟨76,[],(.seq (.reg [o 10 (.mov (.t 1)),o 8 (.mov (.t 10))]) (.blk 0 (.lop (.blk 1 (.seq (.reg [o 11 (.mov (.t 8)),o 12 (.bin .mul (.k (.int .i64 2)) (.t 11)),o 13 (.bin .add (.t 12) (.k (.int .i64 1))),o 9 (.mov (.t 13))]) (.seq (.seq (.reg [o 14 (.mov (.t 9)),o 15 (.mov (.t 2)),o 16 (.bin .geq (.t 14) (.t 15))]) (.cnd (.t 16) (.ext 0) .skip)) (.seq (.seq (.drw [o 17 (.mov (.t 9)),o 18 (.bin .add (.t 17) (.k (.int .i64 1))),o 19 (.mov (.t 2)),o 20 (.bin .lss (.t 18) (.t 19)),o 21 (.mov (.t 20)),og 22 21 true (.mov (.t 0)),og 23 21 true (.mov (.t 3)),og 24 21 true (.mov (.t 9)),og 25 21 true (.bin .add (.t 23) (.t 24)),og 26 21 true (.iad z (.t 22) (.t 25)),og 27 21 true (.ld g z (.t 26)),og 28 21 true (.mov (.t 0)),og 29 21 true (.mov (.t 3)),og 30 21 true (.mov (.t 9)),og 31 21 true (.bin .add (.t 29) (.t 30)),og 32 21 true (.bin .add (.t 31) (.k (.int .i64 1))),og 33 21 true (.iad z (.t 28) (.t 32)),og 34 21 true (.ld g z (.t 33))] [og 35 21 true (.call q.less [(.t 27),(.t 34)]),o 36 (.pick (.t 21) (.t 35) (.k (.bool false)))]) (.cnd (.t 36) (.reg [o 37 (.mov (.t 9)),o 38 (.bin .add (.t 37) (.k (.int .i64 1))),o 9 (.mov (.t 38))]) .skip)) (.seq (.seq (.drw [o 39 (.mov (.t 0)),o 40 (.mov (.t 3)),o 41 (.mov (.t 8)),o 42 (.bin .add (.t 40) (.t 41)),o 43 (.iad z (.t 39) (.t 42)),o 44 (.ld g z (.t 43)),o 45 (.mov (.t 0)),o 46 (.mov (.t 3)),o 47 (.mov (.t 9)),o 48 (.bin .add (.t 46) (.t 47)),o 49 (.iad z (.t 45) (.t 48)),o 50 (.ld g z (.t 49))] [o 51 (.call q.less [(.t 44),(.t 50)]),o 52 (.un .not (.t 51))]) (.cnd (.t 52) .ret .skip)) (.seq (.drw [o 53 (.mov (.t 0)),o 54 (.mov (.t 3)),o 55 (.mov (.t 8)),o 56 (.bin .add (.t 54) (.t 55)),o 57 (.mov (.t 0)),o 58 (.mov (.t 3)),o 59 (.mov (.t 9)),o 60 (.bin .add (.t 58) (.t 59)),o 61 (.mov (.t 0)),o 62 (.mov (.t 3)),o 63 (.mov (.t 9)),o 64 (.bin .add (.t 62) (.t 63)),o 65 (.iad z (.t 61) (.t 64)),o 66 (.ld g z (.t 65)),o 67 (.mov (.t 0)),o 68 (.mov (.t 3)),o 69 (.mov (.t 8)),o 70 (.bin .add (.t 68) (.t 69)),o 71 (.iad z (.t 67) (.t 70)),o 72 (.ld g z (.t 71))] [o 73 (.iad z (.t 53) (.t 56)),on (.st z (.t 73) (.t 66)),o 74 (.iad z (.t 57) (.t 60)),on (.st z (.t 74) (.t 72))]) (.reg [o 75 (.mov (.t 9)),o 8 (.mov (.t 75))]))))))))))⟩
def Na (z:Nat) (g:Bool) (ze:List GV):Fn1:=⟨61,[.t 2],(.seq (.reg [o 2 (.mov (.k .nilS))]) (.seq (.seq (.reg [o 6 (.mov (.t 0)),o 7 (.len false (.t 6)),o 8 (.bin .lss (.t 7) (.k (.int .i64 2)))]) (.cnd (.t 8) (.seq (.reg [o 9 (.mov (.t 0)),o 2 (.mov (.t 9))]) .ret) .skip)) (.seq (.seq (.reg [o 3 (.mov (.k (.int .i64 1)))]) (.blk 0 (.lop (.seq (.seq (.reg [o 10 (.mov (.t 3)),o 11 (.mov (.t 0)),o 12 (.len false (.t 11)),o 13 (.bin .lss (.t 10) (.t 12))]) (.cnd (.t 13) .skip (.ext 0))) (.seq (.blk 1 (.seq (.drw [o 16 (.mov (.t 0)),o 17 (.mov (.t 3)),o 18 (.iad z (.t 16) (.t 17)),o 19 (.ld g z (.t 18)),o 20 (.mov (.t 0)),o 21 (.mov (.t 3)),o 22 (.bin .sub (.t 21) (.k (.int .i64 1))),o 23 (.iad z (.t 20) (.t 22)),o 24 (.ld g z (.t 23))] [o 25 (.bin .eql (.t 19) (.t 24))]) (.cnd (.t 25) (.seq (.reg [o 26 (.mov (.t 0)),o 27 (.mov (.t 3)),o 28 (.cut z (.t 26) (some (.t 27)) none),o 4 (.mov (.t 28))]) (.seq (.seq (.reg [o 5 (.mov (.k (.int .i64 1)))]) (.blk 2 (.lop (.seq (.seq (.reg [o 29 (.mov (.t 5)),o 30 (.mov (.t 4)),o 31 (.len false (.t 30)),o 32 (.bin .lss (.t 29) (.t 31))]) (.cnd (.t 32) .skip (.ext 2))) (.seq (.blk 3 (.seq (.drw [o 35 (.mov (.t 4)),o 36 (.mov (.t 5)),o 37 (.iad z (.t 35) (.t 36)),o 38 (.ld g z (.t 37)),o 39 (.mov (.t 4)),o 40 (.mov (.t 5)),o 41 (.bin .sub (.t 40) (.k (.int .i64 1))),o 42 (.iad z (.t 39) (.t 41)),o 43 (.ld g z (.t 42))] [o 44 (.bin .neq (.t 38) (.t 43))]) (.cnd (.t 44) (.seq (.reg [o 45 (.mov (.t 0)),o 46 (.mov (.t 3)),o 47 (.mov (.t 4)),o 48 (.mov (.t 5)),o 49 (.iad z (.t 47) (.t 48)),o 50 (.ld g z (.t 49)),o 51 (.iad z (.t 45) (.t 46)),on (.st z (.t 51) (.t 50))]) (.reg [o 52 (.mov (.t 3)),o 53 (.bin .add (.t 52) (.k (.int .i64 1))),o 3 (.mov (.t 53))])) .skip))) (.reg [o 33 (.mov (.t 5)),o 34 (.bin .add (.t 33) (.k (.int .i64 1))),o 5 (.mov (.t 34))])))))) (.seq (.reg [o 54 (.mov (.t 0)),o 55 (.mov (.t 3)),o 56 (.cut z (.t 54) (some (.t 55)) none),on (.clr z ze (.t 56))]) (.seq (.reg [o 57 (.mov (.t 0)),o 58 (.mov (.t 3)),o 59 (.cut z (.t 57) none (some (.t 58))),o 2 (.mov (.t 59))]) .ret)))) .skip))) (.reg [o 14 (.mov (.t 3)),o 15 (.bin .add (.t 14) (.k (.int .i64 1))),o 3 (.mov (.t 15))])))))) (.seq (.reg [o 60 (.mov (.t 0)),o 2 (.mov (.t 60))]) .ret))))⟩
def A65 (z:Nat) (g:Bool) (q:SN):Fn1:=⟨11,[],(.seq (.reg [o 3 (.mov (.t 0)),o 4 (.len false (.t 3)),o 2 (.mov (.t 4))]) (.reg [o 5 (.mov (.t 0)),o 6 (.mov (.t 2)),o 7 (.mov (.t 2)),o 8 (.cvi .u64 (.t 7)),o 9 (.call Ez [(.t 8)]),o 10 (.call q.pdqsort [(.t 5),(.k (.int .i64 0)),(.t 6),(.t 9)])]))⟩
def A66 (z:Nat) (g:Bool) (q:SN):Fn1:=⟨14,[],(.seq (.reg [o 5 (.mov (.t 0)),o 6 (.len false (.t 5)),o 4 (.mov (.t 6))]) (.reg [o 7 (.mov (.t 0)),o 8 (.mov (.t 4)),o 9 (.mov (.t 4)),o 10 (.cvi .u64 (.t 9)),o 11 (.call Ez [(.t 10)]),o 12 (.mov (.t 1)),o 13 (.call q.pdqsort [(.t 7),(.k (.int .i64 0)),(.t 8),(.t 11),(.t 12)])]))⟩
structure SrtO (α:Type) [Inhabited α] (lt:α→α→Bool) where
 e:El α
 q:SN
 call:∀ σ x y,Ret Tryz.prog q.less [e.val x,e.val y] σ (.bool (lt x y)) σ
 h_insertionSort:A5 Tryz.prog q.insertionSort=some (Ik e.p.z e.g q)
 h_siftDown:A5 Tryz.prog q.siftDown=some (Po e.p.z e.g q)
 h_heapSort:A5 Tryz.prog q.heapSort=some (Pm e.p.z e.g q)
 h_reverseRange:A5 Tryz.prog q.reverseRange=some (Jm e.p.z e.g q)
 h_partialInsertionSort:A5 Tryz.prog q.partialInsertionSort=some (Eo e.p.z e.g q)
 h_partitionEqual:A5 Tryz.prog q.partitionEqual=some (Hz e.p.z e.g q)
 h_partition:A5 Tryz.prog q.partition=some (N9 e.p.z e.g q)
 h_breakPatterns:A5 Tryz.prog q.breakPatterns=some (Fo e.p.z e.g q)
 h_order2:A5 Tryz.prog q.order2=some (Wt e.p.z e.g q)
 h_median:A5 Tryz.prog q.median=some (Wr e.p.z e.g q)
 h_medianAdjacent:A5 Tryz.prog q.medianAdjacent=some (Hw e.p.z e.g q)
 h_choosePivot:A5 Tryz.prog q.choosePivot=some (F1 e.p.z e.g q)
 h_pdqsort:A5 Tryz.prog q.pdqsort=some (Mb e.p.z e.g q)
 nS:Nat
 h_Sort:A5 Tryz.prog nS=some (A65 e.p.z e.g q)
 hnp:q.slices_nextPowerOfTwo=Aq
 hxs:q.slices_xorshift_Next=Ap
structure SrtC (α:Type) [Inhabited α] (lt:α→α→Bool) where
 e:El α
 q:SN
 f:Nat
 k:α→α→Int
 call:∀ σ x y,Ret Tryz.prog f [e.val x,e.val y] σ (gi (k x y)) σ
 klt:∀ x y,decide (k x y<0)=lt x y
 h_insertionSort:A5 Tryz.prog q.insertionSort=some (Ij e.p.z e.g q)
 h_siftDown:A5 Tryz.prog q.siftDown=some (Pn e.p.z e.g q)
 h_heapSort:A5 Tryz.prog q.heapSort=some (Pk e.p.z e.g q)
 h_reverseRange:A5 Tryz.prog q.reverseRange=some (Jl e.p.z e.g q)
 h_partialInsertionSort:A5 Tryz.prog q.partialInsertionSort=some (Em e.p.z e.g q)
 h_partitionEqual:A5 Tryz.prog q.partitionEqual=some (Hy e.p.z e.g q)
 h_partition:A5 Tryz.prog q.partition=some (N8 e.p.z e.g q)
 h_breakPatterns:A5 Tryz.prog q.breakPatterns=some (Fn e.p.z e.g q)
 h_order2:A5 Tryz.prog q.order2=some (Ws e.p.z e.g q)
 h_median:A5 Tryz.prog q.median=some (Wq e.p.z e.g q)
 h_medianAdjacent:A5 Tryz.prog q.medianAdjacent=some (Hv e.p.z e.g q)
 h_choosePivot:A5 Tryz.prog q.choosePivot=some (F0 e.p.z e.g q)
 h_pdqsort:A5 Tryz.prog q.pdqsort=some (Ma e.p.z e.g q)
 nS:Nat
 h_Sort:A5 Tryz.prog nS=some (A66 e.p.z e.g q)
 hnp:q.slices_nextPowerOfTwo=Aq
 hxs:q.slices_xorshift_Next=Ap
end
namespace C
open Go Go.RowKit Go.Proofs.YtbeoiejnogdkpaaGreat.Sy Go.Sort
variable {α:Type} [Inhabited α] {lt:α→α→Bool} {σ0 σ:St} {rs:List Thg} {k:Nat} {v:GV} {d:Array α}
theorem ins_ret (S:SrtC α lt) (H:Holds S.e σ0 σ rs k v d) {a b:Nat} (hab:a≤b) (hb:b≤d.size) (hs:d.size≤1099511627776):∃ τ,Ret Tryz.prog S.q.insertionSort [v,gi a,gi b,.fn S.f []] σ (.tup []) τ∧Holds S.e σ0 τ rs k v (insertionSort lt d a b):=by
 have key:∃ r τ,Ret Tryz.prog S.q.insertionSort [v,gi a,gi b,.fn S.f []] σ r τ∧r= .tup []∧Holds S.e σ0 τ rs k v (insertionSort lt d a b):=by
  refine Ao S.h_insertionSort (Z0z rfl) ?_
  simp +contextual (disch:=omega) only[go_sem,Ij]
  refine C5 (fun n env τ=>∃(i:Nat) (D:Array α),env 0=v∧env 1=gi a∧env 2=gi b∧env 3= .fn S.f []∧env 8=gi i∧b - i=n∧a<i∧D.size=d.size∧σ.length≤τ.length∧Holds S.e σ0 τ rs k v D∧insOuter lt a b i D=insertionSort lt d a b) (b - (a+1)) ⟨a+1,d,rfl,rfl,rfl,rfl,rfl,rfl,by omega,rfl,Nat.le_refl _,H,rfl⟩ ?_
  rintro J hJ n env τ ⟨i,D,e0,e1,e2,e3,ei,hn,hai,hD,hle,hH,hE⟩
  rw[insOuter] at hE
  rcases Nat.lt_or_ge i b with hi|hi
  ·rw[if_pos hi] at hE
   have c0:decide ((i:Int)<b)=true:=by simp;omega
   simp +contextual (disch:=omega) only[go_sem,e0,e1,e2,e3,ei,c0]
   refine C5 (fun n env τ=>∃(j:Nat) (E:Array α),env 0=v∧env 1=gi a∧env 2=gi b∧env 3= .fn S.f []∧env 8=gi i∧env 9=gi j∧j=n∧j≤i∧E.size=d.size∧σ.length≤τ.length∧Holds S.e σ0 τ rs k v E∧insInner lt a j E=insInner lt a i D) i ⟨i,D,by simp +contextual (disch:=omega) only[go_sem,e0],by simp +contextual (disch:=omega) only[go_sem,e1],by simp +contextual (disch:=omega) only[go_sem,e2],by simp +contextual (disch:=omega) only[go_sem,e3],by simp +contextual (disch:=omega) only[go_sem,ei],rfl,rfl,Nat.le_refl _,hD,hle,hH,rfl⟩ ?_
   clear hH hle e0 e1 e2 e3 ei
   rintro J2 hJ2 n2 env τ ⟨j,E,e0,e1,e2,e3,ei,ej,hnj,hji,hE2,hle,hH,hI⟩
   have fin:∀ env',env' 0=v→env' 1=gi a→env' 2=gi b→env' 3= .fn S.f []→env' 8=gi ((i:Int)+1)→insInner lt a i D=E→∃ k',k'<n∧J k' env' τ:=fun env' h0 h1 h2 h3 h6 hEq=>⟨b - (i+1),by omega,hJ _ _ _ ⟨i+1,E,h0,h1,h2,h3,h6,rfl,by omega,hE2,hle,hH,by rw[← hEq];exact hE⟩⟩
   have cj:decide ((a:Int)<j)=decide (a<j):=by simp
   by_cases hc:a<j
   ·obtain⟨m,rfl⟩:∃ m,j=m+1:=⟨j - 1,by omega⟩
    rw[decide_eq_true hc] at cj
    have cj:decide ((a:Int)<(m:Int)+1)=true:=cj
    have n1:Ax (some (.int .i64 ((m:Int)+1)))=some (m+1):=Bb (by simp)
    have m1:(m:Int)+1 - 1=m:=by omega
    obtain⟨τ1,τ2,s1,s2,hH2,hl2⟩:=hH.sw (a:=m+1) (b:=m) (by omega) (by omega)
    rw[insInner] at hI
    simp +contextual (disch:=omega) only[go_sem,e0,e1,e2,e3,ei,ej,cj,n1,m1,A2,hH.iad (j:=m+1) (by omega),hH.ld (j:=m+1) (by omega),hH.iad (j:=m) (by omega),hH.ld (j:=m) (by omega)]
    refine A7 (S.call _ _ _) ?_
    cases hl:lt E[m+1]! E[m]! with
    |true=>
     rw[if_pos (by simp[hl];omega)] at hI
     simp +contextual (disch:=omega) only[go_sem,e0,e1,e2,e3,ei,ej,cj,n1,m1,A2,hl,S.klt,hH.iad (j:=m+1) (by omega),hH.ld (j:=m+1) (by omega),hH.iad (j:=m) (by omega),hH.ld (j:=m) (by omega),s1,s2]
     refine⟨m,by omega,hJ2 _ _ _ ⟨m,swp E (m+1) m,?_,?_,?_,?_,?_,?_,rfl,by omega,by rw[Go.Sort.swp_size];exact hE2,by omega,hH2,hI⟩⟩
     all_goals simp +contextual (disch:=omega) only[go_sem,e0,e1,e2,e3,ei,ej,m1]
    |false=>
     rw[if_neg (by simp[hl])] at hI
     simp +contextual (disch:=omega) only[go_sem,e0,e1,e2,e3,ei,ej,cj,hl,S.klt]
     refine fin _ ?_ ?_ ?_ ?_ ?_ hI.symm
     all_goals simp +contextual (disch:=omega) only[go_sem,e0,e1,e2,e3,ei]
   ·rw[decide_eq_false hc] at cj
    have hI:insInner lt a i D=E:=by
     rw[← hI]
     cases j with
     |zero=>rfl
     |succ j=>rw[insInner,if_neg (by simp;intro h;omega)]
    simp +contextual (disch:=omega) only[go_sem,e0,e1,e2,e3,ei,ej,cj]
    refine fin _ ?_ ?_ ?_ ?_ ?_ hI
    all_goals simp +contextual (disch:=omega) only[go_sem,e0,e1,e2,e3,ei]
  ·rw[if_neg (by omega)] at hE
   have c0:decide ((i:Int)<b)=false:=by simp;omega
   simp +contextual (disch:=omega) only[go_sem,e0,e1,e2,e3,ei,c0]
   exact⟨_,rfl,hle,rfl,by rw[← hE];exact hH⟩
 obtain⟨r,τ,R,rfl,h⟩:=key
 exact⟨τ,R,h⟩
end C
namespace C
open Go Go.RowKit Go.Proofs.YtbeoiejnogdkpaaGreat.Sy Go.Sort
variable {α:Type} [Inhabited α] {lt:α→α→Bool} {σ0 σ:St} {rs:List Thg} {k:Nat} {v:GV} {d:Array α}
theorem siftDown_size (lt:α→α→Bool) (hi F:Nat):∀(n root:Nat) (d:Array α),hi - root≤n→(siftDown lt hi F root d).size=d.size
 |0,root,d,h=>by rw[siftDown,dif_pos (by omega)]
 |n+1,root,d,h=>by
  rw[siftDown]
  split
  ·rfl
  ·split
   ·split
    ·rfl
    ·split
     ·rw[siftDown_size lt hi F n _ _ (by omega),Go.Sort.swp_size]
     ·rfl
   ·split
    ·rfl
    ·rw[siftDown_size lt hi F n _ _ (by omega),Go.Sort.swp_size]
theorem sift_ret (S:SrtC α lt) (H:Holds S.e σ0 σ rs k v d) {lo hi F:Nat} (hb:F+hi≤d.size) (hlo:lo≤d.size) (hs:d.size≤1099511627776):∃ τ,Ret Tryz.prog S.q.siftDown [v,gi lo,gi hi,gi F,.fn S.f []] σ (.tup []) τ∧Holds S.e σ0 τ rs k v (siftDown lt hi F lo d):=by
 have key:∃ r τ,Ret Tryz.prog S.q.siftDown [v,gi lo,gi hi,gi F,.fn S.f []] σ r τ∧r= .tup []∧Holds S.e σ0 τ rs k v (siftDown lt hi F lo d):=by
  refine Ao S.h_siftDown (Z0z rfl) ?_
  simp +contextual (disch:=omega) only[go_sem,Pn]
  refine C5 (fun n env τ=>∃(r:Nat) (D:Array α),env 0=v∧env 1=gi lo∧env 2=gi hi∧env 3=gi F∧env 4= .fn S.f []∧env 10=gi r∧hi - r=n∧r≤d.size∧D.size=d.size∧σ.length≤τ.length∧Holds S.e σ0 τ rs k v D∧siftDown lt hi F r D=siftDown lt hi F lo d) (hi - lo) ⟨lo,d,rfl,rfl,rfl,rfl,rfl,rfl,rfl,hlo,rfl,Nat.le_refl _,H,rfl⟩ ?_
  rintro J hJ n env τ ⟨r,D,e0,e1,e2,e3,e4,er,hn,hr,hD,hle,hH,hE⟩
  rw[siftDown] at hE
  have w2:IntKind.i64.wrap (2*(r:Int))=2*(r:Int):=Bl (by omega) (by omega)
  by_cases h1:2*r+1≥hi
  ·rw[dif_pos h1] at hE
   have c1:decide ((hi:Int)≤2*(r:Int)+1)=true:=by simp;omega
   simp +contextual (disch:=omega) only[go_sem,e0,e1,e2,e3,e4,er,w2,c1]
   exact⟨_,rfl,hle,rfl,by rw[← hE];exact hH⟩
  ·rw[dif_neg h1] at hE
   have c1:decide ((hi:Int)≤2*(r:Int)+1)=false:=by simp;omega
   have nr:Ax (some (.int .i64 ((F:Int)+r)))=some (F+r):=Bb (by simp)
   have ir:=hH.iad (j:=F+r) (by omega)
   have lr:=hH.ld (j:=F+r) (by omega)
   by_cases hA:2*r+2<hi
   ·have cA:decide (2*(r:Int)+1+1<hi)=true:=by simp;omega
    have nc:Ax (some (.int .i64 ((F:Int)+(2*(r:Int)+1))))=some (F+(2*r+1)):=Bb (by simp)
    have nc2:Ax (some (.int .i64 ((F:Int)+(2*(r:Int)+1)+1)))=some (F+(2*r+1)+1):=Bb (by simp)
    have ic:=hH.iad (j:=F+(2*r+1)) (by omega)
    have lc:=hH.ld (j:=F+(2*r+1)) (by omega)
    have ic2:=hH.iad (j:=F+(2*r+1)+1) (by omega)
    have lc2:=hH.ld (j:=F+(2*r+1)+1) (by omega)
    simp +contextual (disch:=omega) only[go_sem,e0,e1,e2,e3,e4,er,w2,c1,cA,nc,nc2,ic,lc,ic2,lc2]
    refine A7 (S.call _ _ _) ?_
    cases hl1:lt D[F+(2*r+1)]! D[F+(2*r+1)+1]! with
    |true=>
     clear nc ic lc
     rw[if_pos (by simp[hl1];omega)] at hE
     rw[dif_pos hA] at hE
     obtain⟨c,hc⟩:∃ c,c=2*r+2:=⟨_,rfl⟩
     rw[← hc] at hE
     have ncI:2*(r:Int)+1+1=c:=by omega
     have nc:Ax (some (.int .i64 ((F:Int)+c)))=some (F+c):=Bb (by simp)
     have ic:=hH.iad (j:=F+c) (by omega)
     have lc:=hH.ld (j:=F+c) (by omega)
     simp +contextual (disch:=omega) only[go_sem,e0,e1,e2,e3,e4,er,w2,cA,nr,nc,ncI,hl1,S.klt,ir,lr,ic,lc]
     obtain⟨τ1,τ2,s1,s2,hH2,hl2⟩:=hH.sw (a:=F+r) (b:=F+c) (by omega) (by omega)
     refine A7 (S.call _ _ _) ?_
     cases hl:lt D[F+r]! D[F+c]! with
     |true=>
      rw[if_neg (by simp[hl])] at hE
      simp +contextual (disch:=omega) only[go_sem,e0,e1,e2,e3,e4,er,w2,c1,cA,nr,nc,ncI,hl,S.klt,ir,lr,ic,lc,s1,s2]
      refine⟨hi - c,by omega,hJ _ _ _ ⟨c,swp D (F+r) (F+c),?_,?_,?_,?_,?_,?_,rfl,by omega,by rw[Go.Sort.swp_size];exact hD,by omega,hH2,hE⟩⟩
      all_goals simp +contextual (disch:=omega) only[go_sem,e0,e1,e2,e3,e4,er,ncI]
     |false=>
      rw[if_pos (by simp[hl])] at hE
      simp +contextual (disch:=omega) only[go_sem,e0,e1,e2,e3,e4,er,hl,S.klt]
      exact⟨_,rfl,hle,rfl,by rw[← hE];exact hH⟩
    |false=>
     rw[if_neg (by simp[hl1])] at hE
     obtain⟨c,hc⟩:∃ c,c=2*r+1:=⟨_,rfl⟩
     rw[← hc] at hE ic lc
     have ncI:2*(r:Int)+1=c:=by omega
     rw[← hc,ncI] at nc
     simp +contextual (disch:=omega) only[go_sem,e0,e1,e2,e3,e4,er,w2,cA,nr,nc,ncI,hl1,S.klt,ir,lr,ic,lc]
     obtain⟨τ1,τ2,s1,s2,hH2,hl2⟩:=hH.sw (a:=F+r) (b:=F+c) (by omega) (by omega)
     refine A7 (S.call _ _ _) ?_
     cases hl:lt D[F+r]! D[F+c]! with
     |true=>
      rw[if_neg (by simp[hl])] at hE
      simp +contextual (disch:=omega) only[go_sem,e0,e1,e2,e3,e4,er,w2,c1,cA,nr,nc,ncI,hl,S.klt,ir,lr,ic,lc,s1,s2]
      refine⟨hi - c,by omega,hJ _ _ _ ⟨c,swp D (F+r) (F+c),?_,?_,?_,?_,?_,?_,rfl,by omega,by rw[Go.Sort.swp_size];exact hD,by omega,hH2,hE⟩⟩
      all_goals simp +contextual (disch:=omega) only[go_sem,e0,e1,e2,e3,e4,er,ncI]
     |false=>
      rw[if_pos (by simp[hl])] at hE
      simp +contextual (disch:=omega) only[go_sem,e0,e1,e2,e3,e4,er,hl,S.klt]
      exact⟨_,rfl,hle,rfl,by rw[← hE];exact hH⟩
   ·have cA:decide (2*(r:Int)+1+1<hi)=false:=by simp;omega
    rw[if_neg (by simp;intro h;omega)] at hE
    obtain⟨c,hc⟩:∃ c,c=2*r+1:=⟨_,rfl⟩
    rw[← hc] at hE
    have ncI:2*(r:Int)+1=c:=by omega
    have nc:Ax (some (.int .i64 ((F:Int)+c)))=some (F+c):=Bb (by simp)
    have ic:=hH.iad (j:=F+c) (by omega)
    have lc:=hH.ld (j:=F+c) (by omega)
    rw[ncI] at c1 cA
    simp +contextual (disch:=omega) only[go_sem,e0,e1,e2,e3,e4,er,w2,c1,cA,nr,nc,ncI,ir,lr,ic,lc]
    obtain⟨τ1,τ2,s1,s2,hH2,hl2⟩:=hH.sw (a:=F+r) (b:=F+c) (by omega) (by omega)
    refine A7 (S.call _ _ _) ?_
    cases hl:lt D[F+r]! D[F+c]! with
    |true=>
     rw[if_neg (by simp[hl])] at hE
     simp +contextual (disch:=omega) only[go_sem,e0,e1,e2,e3,e4,er,w2,c1,cA,nr,nc,ncI,hl,S.klt,ir,lr,ic,lc,s1,s2]
     refine⟨hi - c,by omega,hJ _ _ _ ⟨c,swp D (F+r) (F+c),?_,?_,?_,?_,?_,?_,rfl,by omega,by rw[Go.Sort.swp_size];exact hD,by omega,hH2,hE⟩⟩
     all_goals simp +contextual (disch:=omega) only[go_sem,e0,e1,e2,e3,e4,er,ncI]
    |false=>
     rw[if_pos (by simp[hl])] at hE
     simp +contextual (disch:=omega) only[go_sem,e0,e1,e2,e3,e4,er,hl,S.klt]
     exact⟨_,rfl,hle,rfl,by rw[← hE];exact hH⟩
 obtain⟨r,τ,R,rfl,h⟩:=key
 exact⟨τ,R,h⟩
theorem heap_ret (S:SrtC α lt) (H:Holds S.e σ0 σ rs k v d) {a b:Nat} (hab:a≤b) (hb:b≤d.size) (hs:d.size≤1099511627776):∃ τ,Ret Tryz.prog S.q.heapSort [v,gi a,gi b,.fn S.f []] σ (.tup []) τ∧Holds S.e σ0 τ rs k v (heapSort lt d a b):=by
 have key:∃ r τ,Ret Tryz.prog S.q.heapSort [v,gi a,gi b,.fn S.f []] σ r τ∧r= .tup []∧Holds S.e σ0 τ rs k v (heapSort lt d a b):=by
  refine Ao S.h_heapSort (Z0z rfl) ?_
  obtain⟨h,hh⟩:∃ h,h=b - a:=⟨_,rfl⟩
  have hI:(b:Int) - a=h:=by omega
  have hq:((h:Int) - 1).tdiv 2=(((h - 1) / 2+1:Nat):Int) - 1:=by
   rcases Nat.eq_zero_or_pos h with rfl|hp
   ·rfl
   ·have:(h:Int) - 1=((h - 1:Nat):Int):=by omega
    rw[this]
    have h2:((h - 1:Nat):Int).tdiv 2=(((h - 1) / 2:Nat):Int):=rfl
    rw[h2];omega
  obtain⟨M,hM⟩:∃ M,M=(h - 1) / 2+1:=⟨_,rfl⟩
  rw[← hM] at hq
  have hE:heapSort lt d a b=heapPop lt a h (heapBuild lt h a M d):=by rw[heapSort,hM,hh]
  rw[hE]
  simp +contextual (disch:=omega) only[go_sem,Pk,hI,hq]
  refine C5 (fun n env τ=>∃(m:Nat) (D:Array α),env 0=v∧env 1=gi a∧env 2=gi b∧env 3= .fn S.f []∧env 8=gi a∧env 9=gi 0∧env 10=gi h∧env 11=gi ((m:Int) - 1)∧m=n∧m≤M∧D.size=d.size∧σ.length≤τ.length∧Holds S.e σ0 τ rs k v D∧heapBuild lt h a m D=heapBuild lt h a M d) M ⟨M,d,rfl,rfl,rfl,rfl,rfl,rfl,rfl,rfl,rfl,Nat.le_refl _,rfl,Nat.le_refl _,H,rfl⟩ ?_
  rintro J hJ n env τ ⟨m,D,e0,e1,e2,e3,e6,e7,e8,e9,hn,hm,hD,hle,hH,hE⟩
  cases m with
  |succ j=>
   have e9:env 11=gi (j:Int):=by rw[e9];congr 1;omega
   have c0:decide ((0:Int)≤j)=true:=by simp
   rw[heapBuild] at hE
   simp +contextual (disch:=omega) only[go_sem,e0,e1,e2,e3,e6,e7,e8,e9,c0]
   obtain⟨τ1,R,hH1⟩:=sift_ret S hH (lo:=j) (hi:=h) (F:=a) (by omega) (by omega) (by omega)
   have hl1:=R.2.1
   refine Aj R ?_
   simp +contextual (disch:=omega) only[go_sem,e0,e1,e2,e3,e6,e7,e8,e9]
   refine⟨j,by omega,hJ _ _ _ ⟨j,_,?_,?_,?_,?_,?_,?_,?_,?_,rfl,by omega,?_,by omega,hH1,hE⟩⟩
   all_goals first|(simp +contextual (disch:=omega) only[go_sem,e0,e1,e2,e3,e6,e7,e8,e9];done)|(rw [siftDown_size lt h a _ _ _ (Nat.le_refl _)];exact hD)
  |zero=>
   have e9:env 11=gi (-1):=e9
   rw[heapBuild] at hE
   simp +contextual (disch:=omega) only[go_sem,e0,e1,e2,e3,e6,e7,e8,e9]
   have c0:decide ((0:Int)≤ -1)=false:=rfl
   simp +contextual (disch:=omega) only[go_sem,e0,e1,e2,e3,e6,e7,e8,e9,c0]
   refine C5 (fun n env τ=>∃(m:Nat) (E:Array α),env 0=v∧env 1=gi a∧env 2=gi b∧env 3= .fn S.f []∧env 8=gi a∧env 9=gi 0∧env 10=gi h∧env 12=gi ((m:Int) - 1)∧m=n∧m≤h∧E.size=d.size∧σ.length≤τ.length∧Holds S.e σ0 τ rs k v E∧heapPop lt a m E=heapPop lt a h (heapBuild lt h a M d)) h ⟨h,D,by simp +contextual (disch:=omega) only[go_sem,e0],by simp +contextual (disch:=omega) only[go_sem,e1],by simp +contextual (disch:=omega) only[go_sem,e2],by simp +contextual (disch:=omega) only[go_sem,e3],by simp +contextual (disch:=omega) only[go_sem,e6],by simp +contextual (disch:=omega) only[go_sem,e7],by simp +contextual (disch:=omega) only[go_sem,e8],rfl,rfl,Nat.le_refl _,hD,hle,hH,by rw[hE]⟩ ?_
   clear hH hle e0 e1 e2 e3 e6 e7 e8 e9
   rintro J2 hJ2 n2 env τ ⟨m,E,e0,e1,e2,e3,e6,e7,e8,e9,hn2,hm,hE2,hle,hH,hP⟩
   cases m with
   |succ j=>
    have e9:env 12=gi (j:Int):=by rw[e9];congr 1;omega
    have c0:decide ((0:Int)≤j)=true:=by simp
    rw[heapPop] at hP
    have nr:Ax (some (.int .i64 ((a:Int)+j)))=some (a+j):=Bb (by simp)
    obtain⟨τ1,τ2,s1,s2,hH2,hl2⟩:=hH.sw (a:=a) (b:=a+j) (by omega) (by omega)
    obtain⟨τ3,R,hH3⟩:=sift_ret S hH2 (lo:=0) (hi:=j) (F:=a) (by rw[Go.Sort.swp_size];omega) (by omega) (by rw[Go.Sort.swp_size];omega)
    have hl3:=R.2.1
    simp +contextual (disch:=omega) only[go_sem,e0,e1,e2,e3,e6,e7,e8,e9,c0,nr,A2,hH.iad (j:=a) (by omega),hH.ld (j:=a) (by omega),hH.iad (j:=a+j) (by omega),hH.ld (j:=a+j) (by omega),s1,s2]
    refine Aj R ?_
    simp +contextual (disch:=omega) only[go_sem,e0,e1,e2,e3,e6,e7,e8,e9]
    refine⟨j,by omega,hJ2 _ _ _ ⟨j,_,?_,?_,?_,?_,?_,?_,?_,?_,rfl,by omega,?_,by omega,hH3,hP⟩⟩
    all_goals first|(simp +contextual (disch:=omega) only[go_sem,e0,e1,e2,e3,e6,e7,e8,e9];done)|(rw [siftDown_size lt _ a _ _ _ (Nat.le_refl _),Go.Sort.swp_size];exact hE2)
   |zero=>
    have e9:env 12=gi (-1):=e9
    rw[heapPop] at hP
    simp +contextual (disch:=omega) only[go_sem,e0,e1,e2,e3,e6,e7,e8,e9,c0]
    exact⟨_,rfl,hle,rfl,by rw[← hP];exact hH⟩
 obtain⟨r,τ,R,rfl,h⟩:=key
 exact⟨τ,R,h⟩
theorem rev_ret (S:SrtC α lt) (H:Holds S.e σ0 σ rs k v d) {a b:Nat} (hab:a<b) (hb:b≤d.size) (hs:d.size≤1099511627776):∃ τ,Ret Tryz.prog S.q.reverseRange [v,gi a,gi b,.fn S.f []] σ (.tup []) τ∧Holds S.e σ0 τ rs k v (reverseRange d a b):=by
 have key:∃ r τ,Ret Tryz.prog S.q.reverseRange [v,gi a,gi b,.fn S.f []] σ r τ∧r= .tup []∧Holds S.e σ0 τ rs k v (reverseRange d a b):=by
  refine Ao S.h_reverseRange (Z0z rfl) ?_
  have hbI:(b:Int) - 1=((b - 1:Nat):Int):=by omega
  obtain⟨h,hh⟩:∃ h,h=b - 1:=⟨_,rfl⟩
  have hE:reverseRange d a b=reverseLoop a h d:=by rw[reverseRange,hh]
  rw[hE]
  rw[← hh] at hbI
  simp +contextual (disch:=omega) only[go_sem,Jl,hbI]
  refine C5 (fun n env τ=>∃(i j:Nat) (D:Array α),env 0=v∧env 8=gi i∧env 9=gi j∧j - i=n∧a≤i∧i≤d.size∧j≤h∧D.size=d.size∧σ.length≤τ.length∧Holds S.e σ0 τ rs k v D∧reverseLoop i j D=reverseLoop a h d) (h - a) ⟨a,h,d,rfl,rfl,rfl,rfl,Nat.le_refl _,by omega,Nat.le_refl _,rfl,Nat.le_refl _,H,rfl⟩ ?_
  rintro J hJ n env τ ⟨i,j,D,e0,e6,e7,hn,hi,hi2,hj,hD,hle,hH,hE⟩
  rw[reverseLoop] at hE
  rcases Nat.lt_or_ge i j with hlt|hge
  ·rw[if_pos hlt] at hE
   have c0:decide ((i:Int)<j)=true:=by simp;omega
   obtain⟨τ1,τ2,s1,s2,hH2,hl2⟩:=hH.sw (a:=i) (b:=j) (by omega) (by omega)
   have j1:(j:Int) - 1=((j - 1:Nat):Int):=by omega
   simp +contextual (disch:=omega) only[go_sem,e0,e6,e7,c0,A2,hH.iad (j:=i) (by omega),hH.ld (j:=i) (by omega),hH.iad (j:=j) (by omega),hH.ld (j:=j) (by omega),s1,s2]
   refine⟨(j - 1) - (i+1),by omega,hJ _ _ _ ⟨i+1,j - 1,swp D i j,?_,?_,?_,rfl,by omega,by omega,by omega,by rw[Go.Sort.swp_size];exact hD,by omega,hH2,hE⟩⟩
   all_goals simp +contextual (disch:=omega) only[go_sem,e0,e6,e7,j1]
  ·rw[if_neg (by omega)] at hE
   have c0:decide ((i:Int)<j)=false:=by simp;omega
   simp +contextual (disch:=omega) only[go_sem,e0,e6,e7,c0]
   exact⟨_,rfl,hle,rfl,by rw[← hE];exact hH⟩
 obtain⟨r,τ,R,rfl,h⟩:=key
 exact⟨τ,R,h⟩
end C
namespace C
open Go Go.RowKit Go.Proofs.YtbeoiejnogdkpaaGreat.Sy Go.Sort
variable {α:Type} [Inhabited α] {lt:α→α→Bool} {σ0 σ:St} {rs:List Thg} {k:Nat} {v:GV} {d:Array α}
theorem pe_ret (S:SrtC α lt) (H:Holds S.e σ0 σ rs k v d) {a b p:Nat} (hab:a<b) (hp:p<b) (hb:b≤d.size) (hs:d.size≤1099511627776):∃ τ,Ret Tryz.prog S.q.partitionEqual [v,gi a,gi b,gi p,.fn S.f []] σ (gi (partitionEqual lt d a b p).1) τ∧Holds S.e σ0 τ rs k v (partitionEqual lt d a b p).2:=by
 have key:∃ r τ,Ret Tryz.prog S.q.partitionEqual [v,gi a,gi b,gi p,.fn S.f []] σ r τ∧r=gi (partitionEqual lt d a b p).1∧Holds S.e σ0 τ rs k v (partitionEqual lt d a b p).2:=by
  refine Ao S.h_partitionEqual (Z0z rfl) ?_
  obtain⟨τ1,τ2,s1,s2,hH,hl2⟩:=H.sw (a:=a) (b:=p) (by omega) (by omega)
  obtain⟨h,hh⟩:∃ h,h=b - 1:=⟨_,rfl⟩
  have hbI:(b:Int) - 1=h:=by omega
  have hsz:=Go.Sort.swp_size d a p
  rw[partitionEqual,←hh]
  obtain⟨D0,hD0⟩:∃ D0,D0=swp d a p:=⟨_,rfl⟩
  rw[← hD0] at hH hsz
  simp +contextual (disch:=omega) only[go_sem,Hy,hbI,A2,H.iad (j:=a) (by omega),H.ld (j:=a) (by omega),H.iad (j:=p) (by omega),H.ld (j:=p) (by omega),s1,s2]
  rw[← hD0]
  refine C5 (fun n env τ=>∃(i j:Nat) (D:Array α),env 0=v∧env 1=gi a∧env 4= .fn S.f []∧env 11=gi i∧env 12=gi j∧j+1 - i=n∧1≤i∧i≤j+1∧j<b∧D.size=d.size∧σ.length≤τ.length∧Holds S.e σ0 τ rs k v D∧partEqLoop lt a i j D=partEqLoop lt a (a+1) h D0) (h+1 - (a+1)) ⟨a+1,h,D0,rfl,rfl,rfl,rfl,rfl,rfl,by omega,by omega,by omega,hsz,by omega,hH,rfl⟩ ?_
  clear hH
  rintro J hJ n env τ ⟨i,j,D,e0,e1,e4,e9,e10,hn,hi,hij,hj,hD,hle,hH,hE⟩
  rw[partEqLoop_eq] at hE
  have ia:=hH.iad (j:=a) (by omega)
  have la:=hH.ld (j:=a) (by omega)
  simp +contextual (disch:=omega) only[go_sem]
  refine Cp (fun n env τ'=>∃(x:Nat),env 0=v∧env 1=gi a∧env 4= .fn S.f []∧env 11=gi x∧env 12=gi j∧j+1 - x=n∧i≤x∧x≤j+1∧τ=τ'∧scanUp (fun x=> !lt D[a]! x) D j x=scanUp (fun x=> !lt D[a]! x) D j i) (j+1 - i) 2 (fun env τ'=>env 0=v∧env 1=gi a∧env 4= .fn S.f []∧env 11=gi (scanUp (fun x=> !lt D[a]! x) D j i:Nat)∧env 12=gi j∧τ=τ') ⟨i,e0,e1,e4,e9,e10,rfl,Nat.le_refl _,hij,rfl,rfl⟩ ?_ ?_
  ·clear e0 e1 e4 e9 e10
   rintro J2 Y2 hJ2 hY2 n2 env τ' ⟨x,e0,e1,e4,e9,e10,hn2,hx1,hx2,rfl,hU⟩
   rw[scanUp] at hU
   rcases Nat.lt_or_ge j x with hx|hx
   ·rw[if_neg (by simp;intro h;omega)] at hU
    have c0:decide ((x:Int)≤j)=false:=by simp;omega
    simp +contextual (disch:=omega) only[go_sem,e0,e1,e4,e9,e10,c0]
    refine hY2 _ _ ⟨?_,?_,?_,?_,?_,rfl⟩
    all_goals simp +contextual (disch:=omega) only[go_sem,e0,e1,e4,e9,e10,hU]
   ·have c0:decide ((x:Int)≤j)=true:=by simp;omega
    simp +contextual (disch:=omega) only[go_sem,e0,e1,e4,e9,e10,c0,A2,ia,la,hH.iad (j:=x) (by omega),hH.ld (j:=x) (by omega)]
    refine A7 (S.call _ _ _) ?_
    cases hl:lt D[a]! D[x]! with
    |true=>
     rw[if_neg (by simp[hl])] at hU
     simp +contextual (disch:=omega) only[go_sem,e0,e1,e4,e9,e10,c0,hl,S.klt]
     refine hY2 _ _ ⟨?_,?_,?_,?_,?_,rfl⟩
     all_goals simp +contextual (disch:=omega) only[go_sem,e0,e1,e4,e9,e10,hU]
    |false=>
     rw[if_pos (by simp[hl];omega)] at hU
     simp +contextual (disch:=omega) only[go_sem,e0,e1,e4,e9,e10,c0,hl,S.klt]
     refine⟨j+1 - (x+1),by omega,hJ2 _ _ _ ⟨x+1,?_,?_,?_,?_,?_,rfl,by omega,by omega,rfl,hU⟩⟩
     all_goals simp +contextual (disch:=omega) only[go_sem,e0,e1,e4,e9,e10]
  ·clear e0 e1 e4 e9 e10
   rintro env τ' ⟨e0,e1,e4,e9,e10,rfl⟩
   obtain⟨u1,u2,-,u4⟩:=scanUp_spec (fun x=> !lt D[a]! x) D j _ i rfl
   have u2:=u2 hij
   obtain⟨x,hx⟩:∃ x,x=scanUp (fun x=> !lt D[a]! x) D j i:=⟨_,rfl⟩
   rw[← hx] at hE e9 u1 u2 u4
   simp +contextual (disch:=omega) only[go_sem]
   refine Cp (fun n env τ'=>∃(y:Nat),env 0=v∧env 1=gi a∧env 4= .fn S.f []∧env 11=gi x∧env 12=gi y∧y+1=n∧y≤j∧x≤y+1∧τ=τ'∧scanDown (fun x=>lt D[a]! x) D x y=scanDown (fun x=>lt D[a]! x) D x j) (j+1) 4 (fun env τ'=>env 0=v∧env 1=gi a∧env 4= .fn S.f []∧env 11=gi x∧env 12=gi (scanDown (fun x=>lt D[a]! x) D x j:Nat)∧τ=τ'∧x≤scanDown (fun x=>lt D[a]! x) D x j+1) ⟨j,e0,e1,e4,e9,e10,rfl,Nat.le_refl _,u2,rfl,rfl⟩ ?_ ?_
   ·clear e0 e1 e4 e9 e10
    rintro J2 Y2 hJ2 hY2 n2 env τ' ⟨y,e0,e1,e4,e9,e10,hn2,hy1,hy2,rfl,hU⟩
    rcases Nat.lt_or_ge y x with hlt|hge
    ·have hU:scanDown (fun x=>lt D[a]! x) D x j=y:=by
      rw[← hU]
      cases y with
      |zero=>rfl
      |succ y=>rw[scanDown,if_neg (by simp;intro h;omega)]
     have c0:decide ((x:Int)≤y)=false:=by simp;omega
     simp +contextual (disch:=omega) only[go_sem,e0,e1,e4,e9,e10,c0]
     refine hY2 _ _ ⟨?_,?_,?_,?_,?_,rfl,by omega⟩
     all_goals simp +contextual (disch:=omega) only[go_sem,e0,e1,e4,e9,e10,hU]
    ·have c0:decide ((x:Int)≤y)=true:=by simp;omega
     obtain⟨z,rfl⟩:∃ z,y=z+1:=⟨y - 1,by omega⟩
     rw[scanDown] at hU
     have c0:decide ((x:Int)≤(z:Int)+1)=true:=c0
     have n1:Ax (some (.int .i64 ((z:Int)+1)))=some (z+1):=Bb (by simp)
     have z1:(z:Int)+1 - 1=z:=by omega
     simp +contextual (disch:=omega) only[go_sem,e0,e1,e4,e9,e10,c0,A2,n1,ia,la,hH.iad (j:=z+1) (by omega),hH.ld (j:=z+1) (by omega)]
     refine A7 (S.call _ _ _) ?_
     cases hl:lt D[a]! D[z+1]! with
     |false=>
      rw[if_neg (by simp[hl])] at hU
      simp +contextual (disch:=omega) only[go_sem,e0,e1,e4,e9,e10,c0,hl,S.klt]
      refine hY2 _ _ ⟨?_,?_,?_,?_,?_,rfl,by omega⟩
      all_goals simp +contextual (disch:=omega) only[go_sem,e0,e1,e4,e9,e10,←hU]
     |true=>
      rw[if_pos (by simp[hl];omega)] at hU
      simp +contextual (disch:=omega) only[go_sem,e0,e1,e4,e9,e10,c0,z1,hl,S.klt]
      refine⟨z+1,by omega,hJ2 _ _ _ ⟨z,?_,?_,?_,?_,?_,rfl,by omega,by omega,rfl,hU⟩⟩
      all_goals simp +contextual (disch:=omega) only[go_sem,e0,e1,e4,e9,e10]
   ·clear e0 e1 e4 e9 e10
    rintro env τ' ⟨e0,e1,e4,e9,e10,rfl,hxy⟩
    have w1:=scanDown_le (fun x=>lt D[a]! x) D x j
    have w4:=(scanDown_spec (fun x=>lt D[a]! x) D x j).2.2.2
    obtain⟨y,hy⟩:∃ y,y=scanDown (fun x=>lt D[a]! x) D x j:=⟨_,rfl⟩
    rw[← hy] at hE e10 w1 w4 hxy
    rcases Nat.lt_or_ge y x with hlt|hge
    ·rw[if_pos hlt] at hE
     have c0:decide ((y:Int)<x)=true:=by simp;omega
     simp +contextual (disch:=omega) only[go_sem,e0,e1,e4,e9,e10,c0]
     exact⟨_,rfl,hle,by rw[← hE],by rw[← hE];exact hH⟩
    ·rw[if_neg (by omega)] at hE
     have hne:x≠y:=by
      rintro rfl
      have q1:(!lt D[a]! D[x]!)=false:=u4 w1
      have q2:lt D[a]! D[x]! =false:=w4 (Nat.le_refl _) (by omega)
      rw[q2] at q1;cases q1
     have c0:decide ((y:Int)<x)=false:=by simp;omega
     have y1:(y:Int) - 1=((y - 1:Nat):Int):=by omega
     obtain⟨τ3,τ4,s3,s4,hH4,hl4⟩:=hH.sw (a:=x) (b:=y) (by omega) (by omega)
     simp +contextual (disch:=omega) only[go_sem,e0,e1,e4,e9,e10,c0,A2,hH.iad (j:=x) (by omega),hH.ld (j:=x) (by omega),hH.iad (j:=y) (by omega),hH.ld (j:=y) (by omega),s3,s4]
     refine⟨y - 1+1 - (x+1),by omega,hJ _ _ _ ⟨x+1,y - 1,swp D x y,?_,?_,?_,?_,?_,rfl,by omega,by omega,by omega,by rw[Go.Sort.swp_size];exact hD,by omega,hH4,hE⟩⟩
     all_goals simp +contextual (disch:=omega) only[go_sem,e0,e1,e4,e9,e10,y1]
 obtain⟨r,τ,R,rfl,h⟩:=key
 exact⟨τ,R,h⟩
set_option maxHeartbeats 2000000 in
theorem part_ret (S:SrtC α lt) (H:Holds S.e σ0 σ rs k v d) {a b p:Nat} (hab:a<b) (hp:p<b) (hb:b≤d.size) (hs:d.size≤1099511627776):∃ τ,Ret Tryz.prog S.q.partition [v,gi a,gi b,gi p,.fn S.f []] σ (.tup [gi (partition lt d a b p).1,.bool (partition lt d a b p).2.1]) τ∧Holds S.e σ0 τ rs k v (partition lt d a b p).2.2:=by
 have key:∃ r τ,Ret Tryz.prog S.q.partition [v,gi a,gi b,gi p,.fn S.f []] σ r τ∧r= .tup [gi (partition lt d a b p).1,.bool (partition lt d a b p).2.1]∧Holds S.e σ0 τ rs k v (partition lt d a b p).2.2:=by
  refine Ao S.h_partition (Z0z rfl) ?_
  obtain⟨τ1,τ,s1,s2,hH,hl2⟩:=H.sw (a:=a) (b:=p) (by omega) (by omega)
  obtain⟨j,hh⟩:∃ h,h=b - 1:=⟨_,rfl⟩
  have hbI:(b:Int) - 1=j:=by omega
  have hD:=Go.Sort.swp_size d a p
  obtain⟨P0,hP0⟩:∃ P0,P0=partition lt d a b p:=⟨_,rfl⟩
  rw[← hP0]
  have hE:=hP0.symm
  simp only[partition] at hE
  rw[← hh] at hE
  obtain⟨D,hD0⟩:∃ D0,D0=swp d a p:=⟨_,rfl⟩
  rw[← hD0] at hH hD hE
  simp +contextual (disch:=omega) only[go_sem,N8,hbI,A2,H.iad (j:=a) (by omega),H.ld (j:=a) (by omega),H.iad (j:=p) (by omega),H.ld (j:=p) (by omega),s1,s2]
  have ia:=hH.iad (j:=a) (by omega)
  have la:=hH.ld (j:=a) (by omega)
  obtain⟨i,hi⟩:∃ i,i=a+1:=⟨_,rfl⟩
  rw[← hi] at hE
  have hij:i≤j+1:=by omega
  refine Cp (fun n env τ'=>∃(x:Nat),env 0=v∧env 1=gi a∧env 4= .fn S.f []∧env 12=gi x∧env 13=gi j∧j+1 - x=n∧i≤x∧x≤j+1∧τ=τ'∧scanUp (fun x=>lt x D[a]!) D j x=scanUp (fun x=>lt x D[a]!) D j i) (j+1 - i) 0 (fun env τ'=>env 0=v∧env 1=gi a∧env 4= .fn S.f []∧env 12=gi (scanUp (fun x=>lt x D[a]!) D j i:Nat)∧env 13=gi j∧τ=τ') ⟨i,rfl,rfl,rfl,(by rw[hi];rfl),rfl,rfl,Nat.le_refl _,hij,rfl,rfl⟩ ?_ ?_
  ·skip
   rintro J2 Y2 hJ2 hY2 n2 env τ' ⟨x,e0,e1,e4,e9,e10,hn2,hx1,hx2,rfl,hU⟩
   rw[scanUp] at hU
   rcases Nat.lt_or_ge j x with hx|hx
   ·rw[if_neg (by simp;intro h;omega)] at hU
    have c0:decide ((x:Int)≤j)=false:=by simp;omega
    simp +contextual (disch:=omega) only[go_sem,e0,e1,e4,e9,e10,c0]
    refine hY2 _ _ ⟨?_,?_,?_,?_,?_,rfl⟩
    all_goals simp +contextual (disch:=omega) only[go_sem,e0,e1,e4,e9,e10,hU]
   ·have c0:decide ((x:Int)≤j)=true:=by simp;omega
    simp +contextual (disch:=omega) only[go_sem,e0,e1,e4,e9,e10,c0,A2,ia,la,hH.iad (j:=x) (by omega),hH.ld (j:=x) (by omega)]
    refine A7 (S.call _ _ _) ?_
    cases hl:lt D[x]! D[a]! with
    |false=>
     rw[if_neg (by simp[hl])] at hU
     simp +contextual (disch:=omega) only[go_sem,e0,e1,e4,e9,e10,c0,hl,S.klt]
     refine hY2 _ _ ⟨?_,?_,?_,?_,?_,rfl⟩
     all_goals simp +contextual (disch:=omega) only[go_sem,e0,e1,e4,e9,e10,hU]
    |true=>
     rw[if_pos (by simp[hl];omega)] at hU
     simp +contextual (disch:=omega) only[go_sem,e0,e1,e4,e9,e10,c0,hl,S.klt]
     refine⟨j+1 - (x+1),by omega,hJ2 _ _ _ ⟨x+1,?_,?_,?_,?_,?_,rfl,by omega,by omega,rfl,hU⟩⟩
     all_goals simp +contextual (disch:=omega) only[go_sem,e0,e1,e4,e9,e10]
  skip
  rintro env τ' ⟨e0,e1,e4,e9,e10,rfl⟩
  obtain⟨u1,u2,-,u4⟩:=scanUp_spec (fun x=>lt x D[a]!) D j _ i rfl
  have u2:=u2 hij
  obtain⟨x,hx⟩:∃ x,x=scanUp (fun x=>lt x D[a]!) D j i:=⟨_,rfl⟩
  rw[← hx] at hE e9 u1 u2 u4
  simp +contextual (disch:=omega) only[go_sem]
  refine Cp (fun n env τ'=>∃(y:Nat),env 0=v∧env 1=gi a∧env 4= .fn S.f []∧env 12=gi x∧env 13=gi y∧y+1=n∧y≤j∧x≤y+1∧τ=τ'∧scanDown (fun x=> !lt x D[a]!) D x y=scanDown (fun x=> !lt x D[a]!) D x j) (j+1) 2 (fun env τ'=>env 0=v∧env 1=gi a∧env 4= .fn S.f []∧env 12=gi x∧env 13=gi (scanDown (fun x=> !lt x D[a]!) D x j:Nat)∧τ=τ'∧x≤scanDown (fun x=> !lt x D[a]!) D x j+1) ⟨j,e0,e1,e4,e9,e10,rfl,Nat.le_refl _,u2,rfl,rfl⟩ ?_ ?_
  ·clear e0 e1 e4 e9 e10
   rintro J2 Y2 hJ2 hY2 n2 env τ' ⟨y,e0,e1,e4,e9,e10,hn2,hy1,hy2,rfl,hU⟩
   rcases Nat.lt_or_ge y x with hlt|hge
   ·have hU:scanDown (fun x=> !lt x D[a]!) D x j=y:=by
     rw[← hU]
     cases y with
     |zero=>rfl
     |succ y=>rw[scanDown,if_neg (by simp;intro h;omega)]
    have c0:decide ((x:Int)≤y)=false:=by simp;omega
    simp +contextual (disch:=omega) only[go_sem,e0,e1,e4,e9,e10,c0]
    refine hY2 _ _ ⟨?_,?_,?_,?_,?_,rfl,by omega⟩
    all_goals simp +contextual (disch:=omega) only[go_sem,e0,e1,e4,e9,e10,hU]
   ·obtain⟨z,rfl⟩:∃ z,y=z+1:=⟨y - 1,by omega⟩
    rw[scanDown] at hU
    have c0:decide ((x:Int)≤(z:Int)+1)=true:=by simp;omega
    have n1:Ax (some (.int .i64 ((z:Int)+1)))=some (z+1):=Bb (by simp)
    have z1:(z:Int)+1 - 1=z:=by omega
    simp +contextual (disch:=omega) only[go_sem,e0,e1,e4,e9,e10,c0,A2,n1,ia,la,hH.iad (j:=z+1) (by omega),hH.ld (j:=z+1) (by omega)]
    refine A7 (S.call _ _ _) ?_
    cases hl:lt D[z+1]! D[a]! with
    |true=>
     rw[if_neg (by simp[hl])] at hU
     simp +contextual (disch:=omega) only[go_sem,e0,e1,e4,e9,e10,c0,hl,S.klt]
     refine hY2 _ _ ⟨?_,?_,?_,?_,?_,rfl,by omega⟩
     all_goals simp +contextual (disch:=omega) only[go_sem,e0,e1,e4,e9,e10,←hU]
    |false=>
     rw[if_pos (by simp[hl];omega)] at hU
     simp +contextual (disch:=omega) only[go_sem,e0,e1,e4,e9,e10,c0,z1,hl,S.klt]
     refine⟨z+1,by omega,hJ2 _ _ _ ⟨z,?_,?_,?_,?_,?_,rfl,by omega,by omega,rfl,hU⟩⟩
     all_goals simp +contextual (disch:=omega) only[go_sem,e0,e1,e4,e9,e10]
  clear e0 e1 e4 e9 e10
  rintro env τ' ⟨e0,e1,e4,e9,e10,rfl,hxy⟩
  have w1:=scanDown_le (fun x=> !lt x D[a]!) D x j
  have w4:=(scanDown_spec (fun x=> !lt x D[a]!) D x j).2.2.2
  obtain⟨y,hy⟩:∃ y,y=scanDown (fun x=> !lt x D[a]!) D x j:=⟨_,rfl⟩
  rw[← hy] at hE e10 w1 w4 hxy
  have hne:x≠y:=by
   rintro rfl
   have q1:lt D[x]! D[a]! =false:=u4 w1
   have q2:(!lt D[x]! D[a]!)=false:=w4 (Nat.le_refl _) (by omega)
   rw[q1] at q2;cases q2
  rcases Nat.lt_or_ge y x with hlt|hge
  ·rw[if_pos hlt] at hE
   subst hE
   have c0:decide ((y:Int)<x)=true:=by simp;omega
   obtain⟨τ3,τ4,s3,s4,hH4,hl4⟩:=hH.sw (a:=y) (b:=a) (by omega) (by omega)
   simp +contextual (disch:=omega) only[go_sem,e0,e1,e4,e9,e10,c0,A2,hH.iad (j:=a) (by omega),hH.ld (j:=a) (by omega),hH.iad (j:=y) (by omega),hH.ld (j:=y) (by omega),s3,s4]
   exact⟨_,rfl,by omega,rfl,hH4⟩
  ·rw[if_neg (by omega)] at hE
   subst hE
   have c0:decide ((y:Int)<x)=false:=by simp;omega
   have y1:(y:Int) - 1=((y - 1:Nat):Int):=by omega
   obtain⟨τ3,τ4,s3,s4,hH4,hl4⟩:=hH.sw (a:=x) (b:=y) (by omega) (by omega)
   simp +contextual (disch:=omega) only[go_sem,e0,e1,e4,e9,e10,c0,A2,hH.iad (j:=x) (by omega),hH.ld (j:=x) (by omega),hH.iad (j:=y) (by omega),hH.ld (j:=y) (by omega),s3,s4]
   obtain⟨x0,hx0⟩:∃ x0,x0=x+1:=⟨_,rfl⟩
   obtain⟨y0,hy0⟩:∃ y0,y0=y - 1:=⟨_,rfl⟩
   have hD4:(swp D x y).size=d.size:=by rw[Go.Sort.swp_size];exact hD
   obtain⟨D4,hD40⟩:∃ D4,D4=swp D x y:=⟨_,rfl⟩
   rw[← hx0,←hy0,←hD40]
   rw[← hD40] at hH4 hD4
   obtain⟨R,hR⟩:∃ R,R=partLoop lt a x0 y0 D4:=⟨_,rfl⟩
   rw[← hR]
   refine C5 (fun n env τ=>∃(i j:Nat) (D:Array α),env 0=v∧env 1=gi a∧env 4= .fn S.f []∧env 12=gi i∧env 13=gi j∧j+1 - i=n∧1≤i∧i≤j+1∧j<b∧D.size=d.size∧σ.length≤τ.length∧Holds S.e σ0 τ rs k v D∧partLoop lt a i j D=R) (y0+1 - x0) ⟨x0,y0,D4,by simp +contextual (disch:=omega) only[go_sem,e0],by simp +contextual (disch:=omega) only[go_sem,e1],by simp +contextual (disch:=omega) only[go_sem,e4],by rw[hx0];simp +contextual (disch:=omega) only[go_sem,e9],by rw[hy0];simp +contextual (disch:=omega) only[go_sem,y1],rfl,by omega,by omega,by omega,hD4,by omega,hH4,hR.symm⟩ ?_
   clear hH hH4 hij ia la s1 s2 s3 s4 e0 e1 e4 e9 e10 c0 y1 hi u1 u2 u4 w1 w4 hxy hne hge hx hy hx0 hy0 hD40 hD4 hD hD0 hl2 hl4
   rintro J hJ n env τ ⟨i,j,D,e0,e1,e4,e9,e10,hn,hi,hij,hj,hD,hle,hH,hE⟩
   rw[partLoop_eq] at hE
   have ia:=hH.iad (j:=a) (by omega)
   have la:=hH.ld (j:=a) (by omega)
   simp +contextual (disch:=omega) only[go_sem]
   refine Cp (fun n env τ'=>∃(x:Nat),env 0=v∧env 1=gi a∧env 4= .fn S.f []∧env 12=gi x∧env 13=gi j∧j+1 - x=n∧i≤x∧x≤j+1∧τ=τ'∧scanUp (fun x=>lt x D[a]!) D j x=scanUp (fun x=>lt x D[a]!) D j i) (j+1 - i) 6 (fun env τ'=>env 0=v∧env 1=gi a∧env 4= .fn S.f []∧env 12=gi (scanUp (fun x=>lt x D[a]!) D j i:Nat)∧env 13=gi j∧τ=τ') ⟨i,e0,e1,e4,e9,e10,rfl,Nat.le_refl _,hij,rfl,rfl⟩ ?_ ?_
   ·clear e0 e1 e4 e9 e10
    rintro J2 Y2 hJ2 hY2 n2 env τ' ⟨x,e0,e1,e4,e9,e10,hn2,hx1,hx2,rfl,hU⟩
    rw[scanUp] at hU
    rcases Nat.lt_or_ge j x with hx|hx
    ·rw[if_neg (by simp;intro h;omega)] at hU
     have c0:decide ((x:Int)≤j)=false:=by simp;omega
     simp +contextual (disch:=omega) only[go_sem,e0,e1,e4,e9,e10,c0]
     refine hY2 _ _ ⟨?_,?_,?_,?_,?_,rfl⟩
     all_goals simp +contextual (disch:=omega) only[go_sem,e0,e1,e4,e9,e10,hU]
    ·have c0:decide ((x:Int)≤j)=true:=by simp;omega
     simp +contextual (disch:=omega) only[go_sem,e0,e1,e4,e9,e10,c0,A2,ia,la,hH.iad (j:=x) (by omega),hH.ld (j:=x) (by omega)]
     refine A7 (S.call _ _ _) ?_
     cases hl:lt D[x]! D[a]! with
     |false=>
      rw[if_neg (by simp[hl])] at hU
      simp +contextual (disch:=omega) only[go_sem,e0,e1,e4,e9,e10,c0,hl,S.klt]
      refine hY2 _ _ ⟨?_,?_,?_,?_,?_,rfl⟩
      all_goals simp +contextual (disch:=omega) only[go_sem,e0,e1,e4,e9,e10,hU]
     |true=>
      rw[if_pos (by simp[hl];omega)] at hU
      simp +contextual (disch:=omega) only[go_sem,e0,e1,e4,e9,e10,c0,hl,S.klt]
      refine⟨j+1 - (x+1),by omega,hJ2 _ _ _ ⟨x+1,?_,?_,?_,?_,?_,rfl,by omega,by omega,rfl,hU⟩⟩
      all_goals simp +contextual (disch:=omega) only[go_sem,e0,e1,e4,e9,e10]
   clear e0 e1 e4 e9 e10
   rintro env τ' ⟨e0,e1,e4,e9,e10,rfl⟩
   obtain⟨u1,u2,-,u4⟩:=scanUp_spec (fun x=>lt x D[a]!) D j _ i rfl
   have u2:=u2 hij
   obtain⟨x,hx⟩:∃ x,x=scanUp (fun x=>lt x D[a]!) D j i:=⟨_,rfl⟩
   rw[← hx] at hE e9 u1 u2 u4
   simp +contextual (disch:=omega) only[go_sem]
   refine Cp (fun n env τ'=>∃(y:Nat),env 0=v∧env 1=gi a∧env 4= .fn S.f []∧env 12=gi x∧env 13=gi y∧y+1=n∧y≤j∧x≤y+1∧τ=τ'∧scanDown (fun x=> !lt x D[a]!) D x y=scanDown (fun x=> !lt x D[a]!) D x j) (j+1) 8 (fun env τ'=>env 0=v∧env 1=gi a∧env 4= .fn S.f []∧env 12=gi x∧env 13=gi (scanDown (fun x=> !lt x D[a]!) D x j:Nat)∧τ=τ'∧x≤scanDown (fun x=> !lt x D[a]!) D x j+1) ⟨j,e0,e1,e4,e9,e10,rfl,Nat.le_refl _,u2,rfl,rfl⟩ ?_ ?_
   ·clear e0 e1 e4 e9 e10
    rintro J2 Y2 hJ2 hY2 n2 env τ' ⟨y,e0,e1,e4,e9,e10,hn2,hy1,hy2,rfl,hU⟩
    rcases Nat.lt_or_ge y x with hlt|hge
    ·have hU:scanDown (fun x=> !lt x D[a]!) D x j=y:=by
      rw[← hU]
      cases y with
      |zero=>rfl
      |succ y=>rw[scanDown,if_neg (by simp;intro h;omega)]
     have c0:decide ((x:Int)≤y)=false:=by simp;omega
     simp +contextual (disch:=omega) only[go_sem,e0,e1,e4,e9,e10,c0]
     refine hY2 _ _ ⟨?_,?_,?_,?_,?_,rfl,by omega⟩
     all_goals simp +contextual (disch:=omega) only[go_sem,e0,e1,e4,e9,e10,hU]
    ·obtain⟨z,rfl⟩:∃ z,y=z+1:=⟨y - 1,by omega⟩
     rw[scanDown] at hU
     have c0:decide ((x:Int)≤(z:Int)+1)=true:=by simp;omega
     have n1:Ax (some (.int .i64 ((z:Int)+1)))=some (z+1):=Bb (by simp)
     have z1:(z:Int)+1 - 1=z:=by omega
     simp +contextual (disch:=omega) only[go_sem,e0,e1,e4,e9,e10,c0,A2,n1,ia,la,hH.iad (j:=z+1) (by omega),hH.ld (j:=z+1) (by omega)]
     refine A7 (S.call _ _ _) ?_
     cases hl:lt D[z+1]! D[a]! with
     |true=>
      rw[if_neg (by simp[hl])] at hU
      simp +contextual (disch:=omega) only[go_sem,e0,e1,e4,e9,e10,c0,hl,S.klt]
      refine hY2 _ _ ⟨?_,?_,?_,?_,?_,rfl,by omega⟩
      all_goals simp +contextual (disch:=omega) only[go_sem,e0,e1,e4,e9,e10,←hU]
     |false=>
      rw[if_pos (by simp[hl];omega)] at hU
      simp +contextual (disch:=omega) only[go_sem,e0,e1,e4,e9,e10,c0,z1,hl,S.klt]
      refine⟨z+1,by omega,hJ2 _ _ _ ⟨z,?_,?_,?_,?_,?_,rfl,by omega,by omega,rfl,hU⟩⟩
      all_goals simp +contextual (disch:=omega) only[go_sem,e0,e1,e4,e9,e10]
   clear e0 e1 e4 e9 e10
   rintro env τ' ⟨e0,e1,e4,e9,e10,rfl,hxy⟩
   have w1:=scanDown_le (fun x=> !lt x D[a]!) D x j
   have w4:=(scanDown_spec (fun x=> !lt x D[a]!) D x j).2.2.2
   obtain⟨y,hy⟩:∃ y,y=scanDown (fun x=> !lt x D[a]!) D x j:=⟨_,rfl⟩
   rw[← hy] at hE e10 w1 w4 hxy
   have hne:x≠y:=by
    rintro rfl
    have q1:lt D[x]! D[a]! =false:=u4 w1
    have q2:(!lt D[x]! D[a]!)=false:=w4 (Nat.le_refl _) (by omega)
    rw[q1] at q2;cases q2
   rcases Nat.lt_or_ge y x with hlt|hge
   ·rw[if_pos hlt] at hE
    subst hE
    have c0:decide ((y:Int)<x)=true:=by simp;omega
    obtain⟨τ3,τ4,s3,s4,hH4,hl4⟩:=hH.sw (a:=y) (b:=a) (by omega) (by omega)
    simp +contextual (disch:=omega) only[go_sem,e0,e1,e4,e9,e10,c0,A2,hH.iad (j:=a) (by omega),hH.ld (j:=a) (by omega),hH.iad (j:=y) (by omega),hH.ld (j:=y) (by omega),s3,s4]
    exact⟨_,rfl,by omega,rfl,hH4⟩
   ·rw[if_neg (by omega)] at hE
    have c0:decide ((y:Int)<x)=false:=by simp;omega
    have y1:(y:Int) - 1=((y - 1:Nat):Int):=by omega
    obtain⟨τ3,τ4,s3,s4,hH4,hl4⟩:=hH.sw (a:=x) (b:=y) (by omega) (by omega)
    simp +contextual (disch:=omega) only[go_sem,e0,e1,e4,e9,e10,c0,A2,hH.iad (j:=x) (by omega),hH.ld (j:=x) (by omega),hH.iad (j:=y) (by omega),hH.ld (j:=y) (by omega),s3,s4]
    refine⟨y - 1+1 - (x+1),by omega,hJ _ _ _ ⟨x+1,y - 1,swp D x y,?_,?_,?_,?_,?_,rfl,by omega,by omega,by omega,by rw[Go.Sort.swp_size];exact hD,by omega,hH4,hE⟩⟩
    all_goals simp +contextual (disch:=omega) only[go_sem,e0,e1,e4,e9,e10,y1]
 obtain⟨r,τ,R,rfl,h⟩:=key
 exact⟨τ,R,h⟩
end C
namespace C
open Go Go.RowKit Go.Proofs.YtbeoiejnogdkpaaGreat.Sy Go.Sort
variable {α:Type} [Inhabited α] {lt:α→α→Bool} {σ0 σ:St} {rs:List Thg} {k:Nat} {v:GV} {d:Array α}
theorem scanSorted_ge (lt:α→α→Bool) (d:Array α) (b:Nat):∀(n i:Nat),b - i=n→i≤scanSorted lt d b i∧(i≤b→scanSorted lt d b i≤b):=by
 intro n
 induction n with
 |zero=>
  intro i hn
  rw[scanSorted,if_neg (by simp;intro h;omega)]
  exact⟨Nat.le_refl _,fun h=>h⟩
 |succ n ih=>
  intro i hn
  rw[scanSorted]
  split
  ·have:=ih (i+1) (by omega)
   exact⟨by omega,fun _=>this.2 (by omega)⟩
  ·exact⟨Nat.le_refl _,fun h=>h⟩
theorem shiftDown_size (lt:α→α→Bool):∀(j:Nat) (d:Array α),(shiftDown lt j d).size=d.size
 |0,_=>rfl
 |j+1,d=>by
  rw[shiftDown]
  split
  ·rfl
  ·rw[shiftDown_size lt j,Go.Sort.swp_size]
theorem shiftUp_size (lt:α→α→Bool) (b:Nat):∀(n j:Nat) (d:Array α),b - j=n→(shiftUp lt b j d).size=d.size:=by
 intro n
 induction n with
 |zero=>intro j d h;rw[shiftUp,if_neg (by omega)]
 |succ n ih=>
  intro j d h
  rw[shiftUp,if_pos (by omega)]
  split
  ·rfl
  ·rw[ih _ _ (by omega),Go.Sort.swp_size]
set_option maxHeartbeats 2000000 in
theorem pis_ret (S:SrtC α lt) (H:Holds S.e σ0 σ rs k v d) {a b:Nat} (hab:a<b) (hb:b≤d.size) (hs:d.size≤1099511627776):∃ τ,Ret Tryz.prog S.q.partialInsertionSort [v,gi a,gi b,.fn S.f []] σ (.bool (partialInsertionSort lt d a b).2) τ∧Holds S.e σ0 τ rs k v (partialInsertionSort lt d a b).1:=by
 have key:∃ r τ,Ret Tryz.prog S.q.partialInsertionSort [v,gi a,gi b,.fn S.f []] σ r τ∧r= .bool (partialInsertionSort lt d a b).2∧Holds S.e σ0 τ rs k v (partialInsertionSort lt d a b).1:=by
  refine Ao S.h_partialInsertionSort (Z0z rfl) ?_
  rw[partialInsertionSort]
  obtain⟨R,hR⟩:∃ R,R=partialIns lt a b 5 (a+1) d:=⟨_,rfl⟩
  rw[← hR]
  simp +contextual (maxSteps:=600000) (disch:=omega) only[go_sem,Em]
  refine C5 (fun n env τ=>∃(s i:Nat) (D:Array α),env 0=v∧env 1=gi a∧env 2=gi b∧env 3= .fn S.f []∧env 9=gi i∧env 10=gi s∧5 - s=n∧s≤5∧a<i∧i≤b∧D.size=d.size∧σ.length≤τ.length∧Holds S.e σ0 τ rs k v D∧partialIns lt a b (5 - s) i D=R) 5 ⟨0,a+1,d,rfl,rfl,rfl,rfl,rfl,rfl,rfl,by omega,by omega,by omega,rfl,Nat.le_refl _,H,hR.symm⟩ ?_
  rintro J hJ n env τ ⟨s,i0,D,e0,e1,e2,e3,e7,e8,hn,hs5,hai,hib,hD,hle,hH,hE⟩
  rcases Nat.lt_or_ge s 5 with h5|h5
  ·have c0:decide ((s:Int)<5)=true:=by simp;omega
   obtain⟨m,hm⟩:∃ m,5 - s=m+1:=⟨4 - s,by omega⟩
   rw[hm,partialIns] at hE
   dsimp only at hE
   simp +contextual (maxSteps:=600000) (disch:=omega) only[go_sem,e0,e1,e2,e3,e7,e8,c0]
   refine Cp (fun n env τ'=>∃(x:Nat),env 0=v∧env 1=gi a∧env 2=gi b∧env 3= .fn S.f []∧env 9=gi x∧env 10=gi s∧b - x=n∧i0≤x∧x≤b∧τ=τ'∧scanSorted lt D b x=scanSorted lt D b i0) (b - i0) 2 (fun env τ'=>env 0=v∧env 1=gi a∧env 2=gi b∧env 3= .fn S.f []∧env 9=gi (scanSorted lt D b i0:Nat)∧env 10=gi s∧τ=τ') ⟨i0,by simp +contextual (maxSteps:=600000) (disch:=omega) only[go_sem,e0],by simp +contextual (maxSteps:=600000) (disch:=omega) only[go_sem,e1],by simp +contextual (maxSteps:=600000) (disch:=omega) only[go_sem,e2],by simp +contextual (maxSteps:=600000) (disch:=omega) only[go_sem,e3],by simp +contextual (maxSteps:=600000) (disch:=omega) only[go_sem,e7],by simp +contextual (maxSteps:=600000) (disch:=omega) only[go_sem,e8],rfl,Nat.le_refl _,hib,rfl,rfl⟩ ?_ ?_
   ·clear e0 e1 e2 e3 e7 e8
    rintro J2 Y2 hJ2 hY2 n2 env τ' ⟨x,e0,e1,e2,e3,e7,e8,hn2,hx1,hx2,rfl,hU⟩
    rw[scanSorted] at hU
    rcases Nat.lt_or_ge x b with hx|hx
    ·have c1:decide ((x:Int)<b)=true:=by simp;omega
     have x1:(x:Int) - 1=((x - 1:Nat):Int):=by omega
     simp +contextual (maxSteps:=600000) (disch:=omega) only[go_sem,e0,e1,e2,e3,e7,e8,c1,x1,A2,hH.iad (j:=x) (by omega),hH.ld (j:=x) (by omega),hH.iad (j:=x - 1) (by omega),hH.ld (j:=x - 1) (by omega)]
     refine A7 (S.call _ _ _) ?_
     cases hl:lt D[x]! D[x - 1]! with
     |true=>
      rw[if_neg (by simp[hl])] at hU
      simp +contextual (maxSteps:=600000) (disch:=omega) only[go_sem,e0,e1,e2,e3,e7,e8,c1,hl,S.klt]
      refine hY2 _ _ ⟨?_,?_,?_,?_,?_,?_,rfl⟩
      all_goals simp +contextual (maxSteps:=600000) (disch:=omega) only[go_sem,e0,e1,e2,e3,e7,e8,hU]
     |false=>
      rw[if_pos (by simp[hl];omega)] at hU
      simp +contextual (maxSteps:=600000) (disch:=omega) only[go_sem,e0,e1,e2,e3,e7,e8,c1,hl,S.klt]
      refine⟨b - (x+1),by omega,hJ2 _ _ _ ⟨x+1,?_,?_,?_,?_,?_,?_,rfl,by omega,by omega,rfl,hU⟩⟩
      all_goals simp +contextual (maxSteps:=600000) (disch:=omega) only[go_sem,e0,e1,e2,e3,e7,e8]
    ·rw[if_neg (by simp;intro h;omega)] at hU
     have c1:decide ((x:Int)<b)=false:=by simp;omega
     simp +contextual (maxSteps:=600000) (disch:=omega) only[go_sem,e0,e1,e2,e3,e7,e8,c1]
     refine hY2 _ _ ⟨?_,?_,?_,?_,?_,?_,rfl⟩
     all_goals simp +contextual (maxSteps:=600000) (disch:=omega) only[go_sem,e0,e1,e2,e3,e7,e8,hU]
   clear e0 e1 e2 e3 e7 e8
   rintro env τ' ⟨e0,e1,e2,e3,e7,e8,rfl⟩
   obtain⟨g1,g2⟩:=scanSorted_ge lt D b _ i0 rfl
   have g2:=g2 hib
   obtain⟨i,hi⟩:∃ i,i=scanSorted lt D b i0:=⟨_,rfl⟩
   rw[← hi] at hE e7 g1 g2
   by_cases h1:i=b
   ·rw[if_pos h1] at hE
    subst hE
    have c1:((b:Int)==b)=true:=by simp
    rw[h1] at e7
    simp +contextual (maxSteps:=600000) (disch:=omega) only[go_sem,e0,e1,e2,e3,e7,e8,c1]
    exact⟨_,rfl,hle,rfl,hH⟩
   ·rw[if_neg h1] at hE
    have c1:((i:Int)==b)=false:=by simp;omega
    by_cases h50:b - a<50
    ·rw[if_pos h50] at hE
     subst hE
     have c2:decide ((b:Int) - a<50)=true:=by simp;omega
     simp +contextual (maxSteps:=600000) (disch:=omega) only[go_sem,e0,e1,e2,e3,e7,e8,c1,c2]
     exact⟨_,rfl,hle,rfl,hH⟩
    ·rw[if_neg h50] at hE
     have c2:decide ((b:Int) - a<50)=false:=by simp;omega
     have i1:(i:Int) - 1=((i - 1:Nat):Int):=by omega
     obtain⟨τ1,τ2,s1,s2,hH1,hl1⟩:=hH.sw (a:=i) (b:=i - 1) (by omega) (by omega)
     simp +contextual (maxSteps:=600000) (disch:=omega) only[go_sem,e0,e1,e2,e3,e7,e8,c1,c2,i1,A2,hH.iad (j:=i) (by omega),hH.ld (j:=i) (by omega),hH.iad (j:=i - 1) (by omega),hH.ld (j:=i - 1) (by omega),s1,s2]
     have hD1:(swp D i (i - 1)).size=d.size:=by rw[Go.Sort.swp_size];exact hD
     have hle1:σ.length≤τ2.length:=by omega
     obtain⟨D1,hD10⟩:∃ D1,D1=swp D i (i - 1):=⟨_,rfl⟩
     rw[← hD10] at hE hD1 hH1
     clear hH hle s1 s2
     by_cases hA:i - a≥2
     ·rw[if_pos hA] at hE
      have cA:decide ((2:Int)≤(i:Int) - a)=true:=by simp;omega
      simp +contextual (maxSteps:=600000) (disch:=omega) only[go_sem,e0,e1,e2,e3,e7,e8,cA]
      refine Cp (fun n env τ=>∃(j:Nat) (E:Array α),env 0=v∧env 1=gi a∧env 2=gi b∧env 3= .fn S.f []∧env 9=gi i∧env 10=gi s∧env 11=gi j∧j=n∧j<b∧E.size=d.size∧σ.length≤τ.length∧Holds S.e σ0 τ rs k v E∧shiftDown lt j E=shiftDown lt (i - 1) D1) (i - 1) 4 (fun env τ=>env 0=v∧env 1=gi a∧env 2=gi b∧env 3= .fn S.f []∧env 9=gi i∧env 10=gi s∧σ.length≤τ.length∧Holds S.e σ0 τ rs k v (shiftDown lt (i - 1) D1)) ⟨i - 1,D1,by simp +contextual (maxSteps:=600000) (disch:=omega) only[go_sem,e0],by simp +contextual (maxSteps:=600000) (disch:=omega) only[go_sem,e1],by simp +contextual (maxSteps:=600000) (disch:=omega) only[go_sem,e2],by simp +contextual (maxSteps:=600000) (disch:=omega) only[go_sem,e3],by simp +contextual (maxSteps:=600000) (disch:=omega) only[go_sem,e7],by simp +contextual (maxSteps:=600000) (disch:=omega) only[go_sem,e8],by simp +contextual (maxSteps:=600000) (disch:=omega) only[go_sem,i1],rfl,by omega,hD1,hle1,hH1,rfl⟩ ?_ ?_
      ·clear e0 e1 e2 e3 e7 e8
       rintro J2 Y2 hJ2 hY2 n2 env τ ⟨j,E,e0,e1,e2,e3,e7,e8,e9,hn2,hj,hE2,hle2,hH,hU⟩
       cases j with
       |zero=>
        have c5:decide ((1:Int)≤0)=false:=rfl
        simp +contextual (maxSteps:=600000) (disch:=omega) only[go_sem,e0,e1,e2,e3,e7,e8,e9,c5,Int.natCast_zero]
        refine hY2 _ _ ⟨?_,?_,?_,?_,?_,?_,hle2,by rw[← hU];exact hH⟩
        all_goals simp +contextual (maxSteps:=600000) (disch:=omega) only[go_sem,e0,e1,e2,e3,e7,e8]
       |succ m=>
        have c5:decide ((1:Int)≤(m:Int)+1)=true:=decide_eq_true (by omega)
        have n1:Ax (some (.int .i64 ((m:Int)+1)))=some (m+1):=Bb (by simp)
        have m1:(m:Int)+1 - 1=m:=by omega
        rw[shiftDown] at hU
        simp +contextual (maxSteps:=600000) (disch:=omega) only[go_sem,e0,e1,e2,e3,e7,e8,e9,c5,n1,m1,A2,hH.iad (j:=m+1) (by omega),hH.ld (j:=m+1) (by omega),hH.iad (j:=m) (by omega),hH.ld (j:=m) (by omega)]
        refine A7 (S.call _ _ _) ?_
        cases hl:lt E[m+1]! E[m]! with
        |false=>
         rw[if_pos (by simp[hl])] at hU
         simp +contextual (maxSteps:=600000) (disch:=omega) only[go_sem,e0,e1,e2,e3,e7,e8,e9,hl,S.klt]
         refine hY2 _ _ ⟨?_,?_,?_,?_,?_,?_,hle2,by rw[← hU];exact hH⟩
         all_goals simp +contextual (maxSteps:=600000) (disch:=omega) only[go_sem,e0,e1,e2,e3,e7,e8]
        |true=>
         rw[if_neg (by simp[hl])] at hU
         obtain⟨τ3,τ4,s3,s4,hH4,hl4⟩:=hH.sw (a:=m+1) (b:=m) (by omega) (by omega)
         simp +contextual (maxSteps:=600000) (disch:=omega) only[go_sem,e0,e1,e2,e3,e7,e8,e9,n1,m1,A2,hl,S.klt,hH.iad (j:=m+1) (by omega),hH.ld (j:=m+1) (by omega),hH.iad (j:=m) (by omega),hH.ld (j:=m) (by omega),s3,s4]
         refine⟨m,by omega,hJ2 _ _ _ ⟨m,swp E (m+1) m,?_,?_,?_,?_,?_,?_,?_,rfl,by omega,by rw[Go.Sort.swp_size];exact hE2,by omega,hH4,hU⟩⟩
         all_goals simp +contextual (maxSteps:=600000) (disch:=omega) only[go_sem,e0,e1,e2,e3,e7,e8,m1]
      clear e0 e1 e2 e3 e7 e8 hH1 hle1
      rintro env τ ⟨e0,e1,e2,e3,e7,e8,hle2,hH2⟩
      have hD2:=(shiftDown_size lt (i - 1) D1).trans hD1
      obtain⟨D2,hD20⟩:∃ D2,D2=shiftDown lt (i - 1) D1:=⟨_,rfl⟩
      rw[← hD20] at hE hD2 hH2
      simp +contextual (maxSteps:=600000) (disch:=omega) only[go_sem]
      by_cases hB:b - i≥2
      ·rw[if_pos hB] at hE
       have cB:decide ((2:Int)≤(b:Int) - i)=true:=by simp;omega
       simp +contextual (maxSteps:=600000) (disch:=omega) only[go_sem,e0,e1,e2,e3,e7,e8,cB,cA]
       refine Cp (fun n env τ=>∃(j:Nat) (E:Array α),env 0=v∧env 1=gi a∧env 2=gi b∧env 3= .fn S.f []∧env 9=gi i∧env 10=gi s∧env 12=gi j∧b - j=n∧1≤j∧j≤b∧E.size=d.size∧σ.length≤τ.length∧Holds S.e σ0 τ rs k v E∧shiftUp lt b j E=shiftUp lt b (i+1) D2) (b - (i+1)) 6 (fun env τ=>env 0=v∧env 1=gi a∧env 2=gi b∧env 3= .fn S.f []∧env 9=gi i∧env 10=gi s∧σ.length≤τ.length∧Holds S.e σ0 τ rs k v (shiftUp lt b (i+1) D2)) ⟨i+1,D2,by simp +contextual (maxSteps:=600000) (disch:=omega) only[go_sem,e0],by simp +contextual (maxSteps:=600000) (disch:=omega) only[go_sem,e1],by simp +contextual (maxSteps:=600000) (disch:=omega) only[go_sem,e2],by simp +contextual (maxSteps:=600000) (disch:=omega) only[go_sem,e3],by simp +contextual (maxSteps:=600000) (disch:=omega) only[go_sem,e7],by simp +contextual (maxSteps:=600000) (disch:=omega) only[go_sem,e8],by simp +contextual (maxSteps:=600000) (disch:=omega) only[go_sem,e7],rfl,by omega,by omega,hD2,hle2,hH2,rfl⟩ ?_ ?_
       ·clear e0 e1 e2 e3 e7 e8
        rintro J2 Y2 hJ2 hY2 n2 env τ ⟨j,E,e0,e1,e2,e3,e7,e8,e9,hn2,hj1,hj,hE2,hle3,hH,hU⟩
        rw[shiftUp] at hU
        rcases Nat.lt_or_ge j b with hjb|hjb
        ·rw[if_pos hjb] at hU
         have c5:decide ((j:Int)<b)=true:=by simp;omega
         have j1:(j:Int) - 1=((j - 1:Nat):Int):=by omega
         simp +contextual (maxSteps:=600000) (disch:=omega) only[go_sem,e0,e1,e2,e3,e7,e8,e9,c5,j1,A2,hH.iad (j:=j) (by omega),hH.ld (j:=j) (by omega),hH.iad (j:=j - 1) (by omega),hH.ld (j:=j - 1) (by omega)]
         refine A7 (S.call _ _ _) ?_
         cases hl:lt E[j]! E[j - 1]! with
         |false=>
          rw[if_pos (by simp[hl])] at hU
          simp +contextual (maxSteps:=600000) (disch:=omega) only[go_sem,e0,e1,e2,e3,e7,e8,e9,hl,S.klt]
          refine hY2 _ _ ⟨?_,?_,?_,?_,?_,?_,hle3,by rw[← hU];exact hH⟩
          all_goals simp +contextual (maxSteps:=600000) (disch:=omega) only[go_sem,e0,e1,e2,e3,e7,e8]
         |true=>
          rw[if_neg (by simp[hl])] at hU
          obtain⟨τ3,τ4,s3,s4,hH4,hl4⟩:=hH.sw (a:=j) (b:=j - 1) (by omega) (by omega)
          simp +contextual (maxSteps:=600000) (disch:=omega) only[go_sem,e0,e1,e2,e3,e7,e8,e9,j1,A2,hl,S.klt,hH.iad (j:=j) (by omega),hH.ld (j:=j) (by omega),hH.iad (j:=j - 1) (by omega),hH.ld (j:=j - 1) (by omega),s3,s4]
          refine⟨b - (j+1),by omega,hJ2 _ _ _ ⟨j+1,swp E j (j - 1),?_,?_,?_,?_,?_,?_,?_,rfl,by omega,by omega,by rw[Go.Sort.swp_size];exact hE2,by omega,hH4,hU⟩⟩
          all_goals simp +contextual (maxSteps:=600000) (disch:=omega) only[go_sem,e0,e1,e2,e3,e7,e8,e9]
        ·rw[if_neg (by omega)] at hU
         have c5:decide ((j:Int)<b)=false:=by simp;omega
         simp +contextual (maxSteps:=600000) (disch:=omega) only[go_sem,e0,e1,e2,e3,e7,e8,e9,c5]
         refine hY2 _ _ ⟨?_,?_,?_,?_,?_,?_,hle3,by rw[← hU];exact hH⟩
         all_goals simp +contextual (maxSteps:=600000) (disch:=omega) only[go_sem,e0,e1,e2,e3,e7,e8]
       clear e0 e1 e2 e3 e7 e8 hH2 hle2
       rintro env τ ⟨e0,e1,e2,e3,e7,e8,hle2,hH2⟩
       simp +contextual (maxSteps:=600000) (disch:=omega) only[go_sem,e0,e1,e2,e3,e7,e8]
       refine⟨n - 1,by omega,hJ _ _ _ ⟨s+1,i,_,?_,?_,?_,?_,?_,?_,by omega,by omega,by omega,by omega,(by rw[shiftUp_size lt b _ _ _ rfl];exact hD2),hle2,hH2,by rw[← hE];congr 1;omega⟩⟩
       all_goals simp +contextual (maxSteps:=600000) (disch:=omega) only[go_sem,e0,e1,e2,e3,e7,e8]
      ·rw[if_neg hB] at hE
       have cB:decide ((2:Int)≤(b:Int) - i)=false:=by simp;omega
       simp +contextual (maxSteps:=600000) (disch:=omega) only[go_sem,e0,e1,e2,e3,e7,e8,cB,cA]
       refine⟨n - 1,by omega,hJ _ _ _ ⟨s+1,i,_,?_,?_,?_,?_,?_,?_,by omega,by omega,by omega,by omega,hD2,hle2,hH2,by rw[← hE];congr 1;omega⟩⟩
       all_goals simp +contextual (maxSteps:=600000) (disch:=omega) only[go_sem,e0,e1,e2,e3,e7,e8]
     ·rw[if_neg hA] at hE
      have cA:decide ((2:Int)≤(i:Int) - a)=false:=by simp;omega
      obtain⟨D2,hD20⟩:∃ D2,D2=D1:=⟨_,rfl⟩
      have hD2:=hD1
      have hH2:=hH1
      have hle2:=hle1
      rw[← hD20] at hE hD2 hH2
      by_cases hB:b - i≥2
      ·rw[if_pos hB] at hE
       have cB:decide ((2:Int)≤(b:Int) - i)=true:=by simp;omega
       simp +contextual (maxSteps:=600000) (disch:=omega) only[go_sem,e0,e1,e2,e3,e7,e8,cB,cA]
       refine Cp (fun n env τ=>∃(j:Nat) (E:Array α),env 0=v∧env 1=gi a∧env 2=gi b∧env 3= .fn S.f []∧env 9=gi i∧env 10=gi s∧env 12=gi j∧b - j=n∧1≤j∧j≤b∧E.size=d.size∧σ.length≤τ.length∧Holds S.e σ0 τ rs k v E∧shiftUp lt b j E=shiftUp lt b (i+1) D2) (b - (i+1)) 6 (fun env τ=>env 0=v∧env 1=gi a∧env 2=gi b∧env 3= .fn S.f []∧env 9=gi i∧env 10=gi s∧σ.length≤τ.length∧Holds S.e σ0 τ rs k v (shiftUp lt b (i+1) D2)) ⟨i+1,D2,by simp +contextual (maxSteps:=600000) (disch:=omega) only[go_sem,e0],by simp +contextual (maxSteps:=600000) (disch:=omega) only[go_sem,e1],by simp +contextual (maxSteps:=600000) (disch:=omega) only[go_sem,e2],by simp +contextual (maxSteps:=600000) (disch:=omega) only[go_sem,e3],by simp +contextual (maxSteps:=600000) (disch:=omega) only[go_sem,e7],by simp +contextual (maxSteps:=600000) (disch:=omega) only[go_sem,e8],by simp +contextual (maxSteps:=600000) (disch:=omega) only[go_sem,e7],rfl,by omega,by omega,hD2,hle2,hH2,rfl⟩ ?_ ?_
       ·clear e0 e1 e2 e3 e7 e8
        rintro J2 Y2 hJ2 hY2 n2 env τ ⟨j,E,e0,e1,e2,e3,e7,e8,e9,hn2,hj1,hj,hE2,hle3,hH,hU⟩
        rw[shiftUp] at hU
        rcases Nat.lt_or_ge j b with hjb|hjb
        ·rw[if_pos hjb] at hU
         have c5:decide ((j:Int)<b)=true:=by simp;omega
         have j1:(j:Int) - 1=((j - 1:Nat):Int):=by omega
         simp +contextual (maxSteps:=600000) (disch:=omega) only[go_sem,e0,e1,e2,e3,e7,e8,e9,c5,j1,A2,hH.iad (j:=j) (by omega),hH.ld (j:=j) (by omega),hH.iad (j:=j - 1) (by omega),hH.ld (j:=j - 1) (by omega)]
         refine A7 (S.call _ _ _) ?_
         cases hl:lt E[j]! E[j - 1]! with
         |false=>
          rw[if_pos (by simp[hl])] at hU
          simp +contextual (maxSteps:=600000) (disch:=omega) only[go_sem,e0,e1,e2,e3,e7,e8,e9,hl,S.klt]
          refine hY2 _ _ ⟨?_,?_,?_,?_,?_,?_,hle3,by rw[← hU];exact hH⟩
          all_goals simp +contextual (maxSteps:=600000) (disch:=omega) only[go_sem,e0,e1,e2,e3,e7,e8]
         |true=>
          rw[if_neg (by simp[hl])] at hU
          obtain⟨τ3,τ4,s3,s4,hH4,hl4⟩:=hH.sw (a:=j) (b:=j - 1) (by omega) (by omega)
          simp +contextual (maxSteps:=600000) (disch:=omega) only[go_sem,e0,e1,e2,e3,e7,e8,e9,j1,A2,hl,S.klt,hH.iad (j:=j) (by omega),hH.ld (j:=j) (by omega),hH.iad (j:=j - 1) (by omega),hH.ld (j:=j - 1) (by omega),s3,s4]
          refine⟨b - (j+1),by omega,hJ2 _ _ _ ⟨j+1,swp E j (j - 1),?_,?_,?_,?_,?_,?_,?_,rfl,by omega,by omega,by rw[Go.Sort.swp_size];exact hE2,by omega,hH4,hU⟩⟩
          all_goals simp +contextual (maxSteps:=600000) (disch:=omega) only[go_sem,e0,e1,e2,e3,e7,e8,e9]
        ·rw[if_neg (by omega)] at hU
         have c5:decide ((j:Int)<b)=false:=by simp;omega
         simp +contextual (maxSteps:=600000) (disch:=omega) only[go_sem,e0,e1,e2,e3,e7,e8,e9,c5]
         refine hY2 _ _ ⟨?_,?_,?_,?_,?_,?_,hle3,by rw[← hU];exact hH⟩
         all_goals simp +contextual (maxSteps:=600000) (disch:=omega) only[go_sem,e0,e1,e2,e3,e7,e8]
       clear e0 e1 e2 e3 e7 e8 hH2 hle2
       rintro env τ ⟨e0,e1,e2,e3,e7,e8,hle2,hH2⟩
       simp +contextual (maxSteps:=600000) (disch:=omega) only[go_sem,e0,e1,e2,e3,e7,e8]
       refine⟨n - 1,by omega,hJ _ _ _ ⟨s+1,i,_,?_,?_,?_,?_,?_,?_,by omega,by omega,by omega,by omega,(by rw[shiftUp_size lt b _ _ _ rfl];exact hD2),hle2,hH2,by rw[← hE];congr 1;omega⟩⟩
       all_goals simp +contextual (maxSteps:=600000) (disch:=omega) only[go_sem,e0,e1,e2,e3,e7,e8]
      ·rw[if_neg hB] at hE
       have cB:decide ((2:Int)≤(b:Int) - i)=false:=by simp;omega
       simp +contextual (maxSteps:=600000) (disch:=omega) only[go_sem,e0,e1,e2,e3,e7,e8,cB,cA]
       refine⟨n - 1,by omega,hJ _ _ _ ⟨s+1,i,_,?_,?_,?_,?_,?_,?_,by omega,by omega,by omega,by omega,hD2,hle2,hH2,by rw[← hE];congr 1;omega⟩⟩
       all_goals simp +contextual (maxSteps:=600000) (disch:=omega) only[go_sem,e0,e1,e2,e3,e7,e8]
  ·have c0:decide ((s:Int)<5)=false:=by simp;omega
   have hm:5 - s=0:=by omega
   rw[hm,partialIns] at hE
   subst hE
   simp +contextual (maxSteps:=600000) (disch:=omega) only[go_sem,e0,e1,e2,e3,e7,e8,c0]
   exact⟨_,rfl,hle,rfl,hH⟩
 obtain⟨r,τ,R,rfl,h⟩:=key
 exact⟨τ,R,h⟩
end C
section
open Go Go.RowKit Go.Sort
set_option maxRecDepth 10000
theorem Ja {m:Int} (h:0≤m) (h':m≤18446744073709551615):IntKind.u64.wrap m=m:=by
 show(if (false&&decide (m % 2 ^ 64≥2 ^ 63))=true then m % 2 ^ 64 - 2 ^ 64 else m % 2 ^ 64)=m
 simp only[Bool.false_and,Bool.false_eq_true,if_false]
 omega
theorem Abt {m:Int} (h:0≤m) (h':m≤255):IntKind.u8.wrap m=m:=by
 show(if (false&&decide (m % 2 ^ 8≥2 ^ 7))=true then m % 2 ^ 8 - 2 ^ 8 else m % 2 ^ 8)=m
 simp only[Bool.false_and,Bool.false_eq_true,if_false]
 omega
theorem shrU {x:Nat} {c:Nat} (hc:c≤64):Fb .shr .u64 (x:Int) (c:Int)=some (.int .u64 ((x / 2 ^ c:Nat):Int)):=by
 have h2:(2:Int) ^ c=((2 ^ c:Nat):Int):=by simp
 unfold Fb
 rw[if_neg (by omega)]
 show some (GV.int .u64 (Int.fdiv (x:Int) (2 ^ min ((c:Int).toNat) 64)))=_
 rw[Int.toNat_natCast,Nat.min_eq_left hc,h2,Int.ofNat_fdiv]
theorem Nb {x k:Nat} (h:2 ^ k≤x):bitsLen x=k+bitsLen (x / 2 ^ k):=by rw[A7a h];omega
theorem Yx (σ:St) (x:Nat) (hx:x≤1099511627776):Ret Tryz.prog Ii [.int .u64 x] σ (gi (bitsLen x)) σ:=by
 refine Af N7 (Z0z rfl) trivial ?_
 have s32:Fb .shr .u64 (x:Int) 32=some (.int .u64 ((x / 4294967296:Nat):Int)):=shrU (c:=32) (by decide)
 have key2:∀ y:Nat,y<65536→IntKind.u8.wrap ((y / 256:Nat):Int)=((y / 256:Nat):Int):=fun y hy=>Abt (by omega) (by omega)
 have key3:∀ y:Nat,y<256→IntKind.u8.wrap (y:Int)=(y:Int):=fun y hy=>Abt (by omega) (by omega)
 have i64:∀ y:Nat,y<256→IntKind.i64.wrap ((bitsLen y:Nat):Int)=((bitsLen y:Nat):Int)∧bitsLen y≤8:=fun y hy=>by
  have:bitsLen y≤8:=(bitsLen_le_iff y 8).2 (by omega)
  exact⟨Bl (by omega) (by omega),this⟩
 by_cases h1:4294967296≤x
 ·have c1:decide ((4294967296:Int)≤x)=true:=by simp;omega
  have hE:=Nb (k:=32) (x:=x) h1
  obtain⟨y,hy⟩:∃ y,y=x / 4294967296:=⟨_,rfl⟩
  have hyl:y≤256:=by omega
  rw[show (2:Nat) ^ 32=4294967296 from rfl,←hy] at hE
  rw[← hy] at s32
  have c2:decide ((65536:Int)≤y)=false:=by simp;omega
  by_cases h3:256≤y
  ·have c3:decide ((256:Int)≤y)=true:=by simp;omega
   have s8:Fb .shr .u64 (y:Int) 8=some (.int .u64 ((y / 256:Nat):Int)):=shrU (c:=8) (by decide)
   have hE2:=Nb (k:=8) (x:=y) h3
   obtain⟨z,hz⟩:∃ z,z=y / 256:=⟨_,rfl⟩
   have hzl:z<256:=by omega
   rw[show (2:Nat) ^ 8=256 from rfl,←hz] at hE2
   rw[← hz] at s8
   rw[hE,hE2]
   obtain⟨w1,w2⟩:=i64 z hzl
   simp +contextual (disch:=omega) only[go_sem,Bp,c1,s32,c2,c3,s8,key3 z hzl,A2,Oh hzl,w1]
   simp<;>omega
  ·have c3:decide ((256:Int)≤y)=false:=by simp;omega
   have hzl:y<256:=by omega
   obtain⟨w1,w2⟩:=i64 y hzl
   rw[hE]
   simp +contextual (disch:=omega) only[go_sem,Bp,c1,s32,c2,c3,key3 y hzl,A2,Oh hzl,w1]
 ·have c1:decide ((4294967296:Int)≤x)=false:=by simp;omega
  by_cases h2:65536≤x
  ·have c2:decide ((65536:Int)≤x)=true:=by simp;omega
   have s16:Fb .shr .u64 (x:Int) 16=some (.int .u64 ((x / 65536:Nat):Int)):=shrU (c:=16) (by decide)
   have hE:=Nb (k:=16) (x:=x) h2
   obtain⟨y,hy⟩:∃ y,y=x / 65536:=⟨_,rfl⟩
   have hyl:y<65536:=by omega
   rw[show (2:Nat) ^ 16=65536 from rfl,←hy] at hE
   rw[← hy] at s16
   by_cases h3:256≤y
   ·have c3:decide ((256:Int)≤y)=true:=by simp;omega
    have s8:Fb .shr .u64 (y:Int) 8=some (.int .u64 ((y / 256:Nat):Int)):=shrU (c:=8) (by decide)
    have hE2:=Nb (k:=8) (x:=y) h3
    obtain⟨z,hz⟩:∃ z,z=y / 256:=⟨_,rfl⟩
    have hzl:z<256:=by omega
    rw[show (2:Nat) ^ 8=256 from rfl,←hz] at hE2
    rw[← hz] at s8
    rw[hE,hE2]
    obtain⟨w1,w2⟩:=i64 z hzl
    simp +contextual (disch:=omega) only[go_sem,Bp,c1,s16,c2,c3,s8,key3 z hzl,A2,Oh hzl,w1]
    simp<;>omega
   ·have c3:decide ((256:Int)≤y)=false:=by simp;omega
    have hzl:y<256:=by omega
    obtain⟨w1,w2⟩:=i64 y hzl
    rw[hE]
    simp +contextual (disch:=omega) only[go_sem,Bp,c1,s16,c2,c3,key3 y hzl,A2,Oh hzl,w1]
    simp<;>omega
  ·have c2:decide ((65536:Int)≤x)=false:=by simp;omega
   by_cases h3:256≤x
   ·have c3:decide ((256:Int)≤x)=true:=by simp;omega
    have s8:Fb .shr .u64 (x:Int) 8=some (.int .u64 ((x / 256:Nat):Int)):=shrU (c:=8) (by decide)
    have hE2:=Nb (k:=8) (x:=x) h3
    obtain⟨z,hz⟩:∃ z,z=x / 256:=⟨_,rfl⟩
    have hzl:z<256:=by omega
    rw[show (2:Nat) ^ 8=256 from rfl,←hz] at hE2
    rw[← hz] at s8
    rw[hE2]
    obtain⟨w1,w2⟩:=i64 z hzl
    simp +contextual (disch:=omega) only[go_sem,Bp,c1,c2,c3,s8,key3 z hzl,A2,Oh hzl,w1]
    simp<;>omega
   ·have c3:decide ((256:Int)≤x)=false:=by simp;omega
    have hzl:x<256:=by omega
    obtain⟨w1,w2⟩:=i64 x hzl
    simp +contextual (disch:=omega) only[go_sem,Bp,c1,c2,c3,key3 x hzl,A2,Oh hzl,w1]
    simp<;>omega
theorem Mc (σ:St) (x:Nat) (hx:x≤1099511627776):Ret Tryz.prog Ez [.int .u64 x] σ (gi (bitsLen x)) σ:=by
 refine Af Qj (Z0z rfl) trivial ?_
 simp +contextual (disch:=omega) only[go_sem,Ks]
 refine A7 (Yx σ x hx) ?_
 simp +contextual (disch:=omega) only[go_sem]
theorem A97 (σ:St) (x:Nat) (hx:x≤1099511627776):Ret Tryz.prog Aq [gi x] σ (.int .u64 (2 ^ bitsLen x:Nat)) σ:=by
 refine Af Ih (Z0z rfl) trivial ?_
 have w1:IntKind.u64.wrap (x:Int)=x:=Ja (by omega) (by omega)
 have hb:=A4j hx
 have hp:2 ^ bitsLen x≤2 ^ 41:=Nat.pow_le_pow_right (by omega) hb
 have s1:Fb .shl .u64 1 ((bitsLen x:Nat):Int)=some (.int .u64 (2 ^ bitsLen x:Nat)):=by
  unfold Fb
  rw[if_neg (by omega)]
  show some (GV.int .u64 (IntKind.u64.wrap (1*2 ^ min (((bitsLen x:Nat):Int).toNat) 64)))=_
  rw[Int.toNat_natCast,Nat.min_eq_left (by omega),Int.one_mul]
  have h2:(2:Int) ^ bitsLen x=((2 ^ bitsLen x:Nat):Int):=by simp
  obtain⟨q,hq⟩:∃ q,q=2 ^ bitsLen x:=⟨_,rfl⟩
  rw[← hq] at hp
  rw[h2,←hq,Ja (by omega) (by omega)]
 simp +contextual (disch:=omega) only[go_sem,Ey,w1]
 refine A7 (Mc σ x hx) ?_
 simp +contextual (disch:=omega) only[go_sem,s1]
theorem A98 (c:Int) (hc:0≤c):∃ f:Int→Int,∀ a,Fb .shl .u64 a c=some (.int .u64 (f a)):=⟨fun a=>IntKind.u64.wrap (a*2 ^ min c.toNat IntKind.u64.bits),fun a=>by unfold Fb;rw[if_neg (by omega)]⟩
theorem Adv (c:Int) (hc:0≤c):∃ f:Int→Int,∀ a,Fb .shr .u64 a c=some (.int .u64 (f a)):=⟨fun a=>a.fdiv (2 ^ min c.toNat IntKind.u64.bits),fun a=>by unfold Fb;rw[if_neg (by omega)]⟩
theorem Adw:∃ f:Int→Int→Int,∀ a b,binG .xor (.int .u64 a) (.int .u64 b)=some (.int .u64 (f a b)):=⟨fun a b=>IntKind.u64.wrap (BitVec.ofInt IntKind.u64.bits a ^^^ BitVec.ofInt IntKind.u64.bits b).toNat,fun a b=>rfl⟩
theorem andU {y:Int} {m:Nat} (hm:m<2 ^ 62):∃ w:Nat,w≤m∧binG .and (.int .u64 y) (.int .u64 (m:Int))=some (.int .u64 (w:Int)):=by
 have h1:(BitVec.ofInt IntKind.u64.bits y &&& BitVec.ofInt IntKind.u64.bits (m:Int)).toNat≤m:=by
  rw[BitVec.toNat_and]
  refine Nat.le_trans Nat.and_le_right ?_
  rw[BitVec.toNat_ofInt]
  show((m:Int) % ((2 ^ 64:Nat):Int)).toNat≤m
  omega
 refine⟨_,h1,?_⟩
 show some (GV.int .u64 (IntKind.u64.wrap _))=_
 rw[Ja (by omega) (by omega)]
theorem Abu {σ0 σ:St} {rs:List Thg} {g:Nat} {y:Int} (H:Hp σ0 σ rs) (m:Nat) (hm:rs[m]? =some (pt 1 g [.int .u64 y])):∃(y':Int) (τ:St),Ret Tryz.prog Ap [.ptr g 0] σ (.int .u64 y') τ∧Hp σ0 τ (rs.set m (pt 1 g [.int .u64 y'])):=by
 have key:∃ r τ,Ret Tryz.prog Ap [.ptr g 0] σ r τ∧∃ y':Int,r= .int .u64 y'∧Hp σ0 τ (rs.set m (pt 1 g [.int .u64 y'])):=by
  refine Ao J9 (Z0z rfl) ?_
  obtain⟨f1,hf1⟩:=A98 13 (by decide)
  obtain⟨f2,hf2⟩:=Adv 7 (by decide)
  obtain⟨f3,hf3⟩:=A98 17 (by decide)
  obtain⟨fb,hfb⟩:=Adw
  have e1:∀ z:Int,∀ w:GV,Al [w] 0 [GV.int .u64 z]=[.int .u64 z]:=fun z w=>rfl
  have sg:∀ z:Int,(seg [GV.int .u64 z] 0 1).bind (mkv false)=some (.int .u64 z):=fun z=>rfl
  have hml:=(List.getElem?_eq_some_iff.1 hm).1
  have l1:=A0 (a:=false) (n:=1) (off:=0) (H.pt m hm)
  obtain⟨τ1,st1,H1,hl1⟩:=H.st m hm 1 0 (.int .u64 (fb y (f1 y))) rfl (by decide) (by simp)
  simp only[GV.cells,e1] at H1
  obtain⟨y1,hy1⟩:∃ y1,y1=fb y (f1 y):=⟨_,rfl⟩
  rw[← hy1] at st1 H1
  have l2:=A0 (a:=false) (n:=1) (off:=0) (H1.pt m (List.getElem?_set_self hml))
  obtain⟨τ2,st2,H2,hl2⟩:=H1.st m (List.getElem?_set_self hml) 1 0 (.int .u64 (fb y1 (f2 y1))) rfl (by decide) (by simp)
  simp only[GV.cells,e1] at H2
  obtain⟨y2,hy2⟩:∃ y1',y1'=fb y1 (f2 y1):=⟨_,rfl⟩
  rw[← hy2] at st2 H2
  rw[List.set_set] at H2
  have l3:=A0 (a:=false) (n:=1) (off:=0) (H2.pt m (List.getElem?_set_self hml))
  obtain⟨τ3,st3,H3,hl3⟩:=H2.st m (List.getElem?_set_self hml) 1 0 (.int .u64 (fb y2 (f3 y2))) rfl (by decide) (by simp)
  simp only[GV.cells,e1] at H3
  obtain⟨y3,hy3⟩:∃ y1',y1'=fb y2 (f3 y2):=⟨_,rfl⟩
  rw[← hy3] at st3 H3
  rw[List.set_set] at H3
  have l4:=A0 (a:=false) (n:=1) (off:=0) (H3.pt m (List.getElem?_set_self hml))
  simp only[sg] at l1 l2 l3 l4
  simp +contextual (disch:=omega) only[go_sem,Fg,hf1,hf2,hf3,hfb,l1,←hy1,st1,l2,←hy2,st2,l3,←hy3,st3,l4]
  exact⟨_,rfl,by omega,y3,rfl,H3⟩
 obtain⟨r,τ,R,y',rfl,h⟩:=key
 exact⟨y',τ,R,h⟩
end
namespace C
open Go Go.RowKit Go.Proofs.YtbeoiejnogdkpaaGreat.Sy Go.Sort
variable {α:Type} [Inhabited α] {lt:α→α→Bool} {σ0 σ:St} {rs:List Thg} {k g:Nat} {s:Int} {v:GV} {d:Array α}
theorem order2_ret (S:SrtC α lt) (H:Holds S.e σ0 σ (pt 1 g [gi s]::rs) (k+1) v d) {a b:Nat} (ha:a<d.size) (hb:b<d.size):∃(r1 r2:Nat) (s':Int) (τ:St),Ret Tryz.prog S.q.order2 [v,gi a,gi b,.ptr g 0,.fn S.f []] σ (.tup [gi r1,gi r2]) τ∧Holds S.e σ0 τ (pt 1 g [gi s']::rs) (k+1) v d∧((r1=a∧r2=b)∨(r1=b∧r2=a)):=by
 have key:∃ r τ,Ret Tryz.prog S.q.order2 [v,gi a,gi b,.ptr g 0,.fn S.f []] σ r τ∧∃(r1 r2:Nat) (s':Int),r= .tup [gi r1,gi r2]∧Holds S.e σ0 τ (pt 1 g [gi s']::rs) (k+1) v d∧((r1=a∧r2=b)∨(r1=b∧r2=a)):=by
  refine Ao S.h_order2 (Z0z rfl) ?_
  simp +contextual (disch:=omega) only[go_sem,Ws,A2,H.iad ha,H.ld ha,H.iad hb,H.ld hb]
  refine A7 (S.call _ _ _) ?_
  cases hl:lt d[b]! d[a]! with
  |true=>
   have l1:=A0 (a:=false) (n:=1) (off:=0) (H.2.pt 0 rfl)
   have l1:ldG false 1 σ (.ptr g 0)=some (gi s):=l1
   obtain⟨τ1,st1,H1,hl1⟩:=H.2.st 0 rfl 1 0 (gi (IntKind.i64.wrap (s+1))) rfl (by decide) (by simp)
   simp +contextual (disch:=omega) only[go_sem,hl,S.klt,l1,st1]
   exact⟨_,rfl,by omega,b,a,IntKind.i64.wrap (s+1),rfl,⟨H.1,H1⟩,.inr ⟨rfl,rfl⟩⟩
  |false=>
   simp +contextual (disch:=omega) only[go_sem,hl,S.klt]
   exact⟨_,rfl,a,b,s,rfl,H,.inl ⟨rfl,rfl⟩⟩
 obtain⟨r,τ,R,r1,r2,s',rfl,h1,h2⟩:=key
 exact⟨r1,r2,s',τ,R,h1,h2⟩
theorem median_ret (S:SrtC α lt) (H:Holds S.e σ0 σ (pt 1 g [gi s]::rs) (k+1) v d) {a b c:Nat} (ha:a<d.size) (hb:b<d.size) (hc:c<d.size):∃(r1:Nat) (s':Int) (τ:St),Ret Tryz.prog S.q.median [v,gi a,gi b,gi c,.ptr g 0,.fn S.f []] σ (gi r1) τ∧Holds S.e σ0 τ (pt 1 g [gi s']::rs) (k+1) v d∧(r1=a∨r1=b∨r1=c):=by
 have key:∃ r τ,Ret Tryz.prog S.q.median [v,gi a,gi b,gi c,.ptr g 0,.fn S.f []] σ r τ∧∃(r1:Nat) (s':Int),r=gi r1∧Holds S.e σ0 τ (pt 1 g [gi s']::rs) (k+1) v d∧(r1=a∨r1=b∨r1=c):=by
  refine Ao S.h_median (Z0z rfl) ?_
  simp +contextual (disch:=omega) only[go_sem,Wq]
  obtain⟨a1,b1,s1,τ1,R1,H1,h1⟩:=order2_ret S H ha hb
  refine Aj R1 ?_
  simp +contextual (disch:=omega) only[go_sem]
  obtain⟨b2,c2,s2,τ2,R2,H2,h2⟩:=order2_ret S H1 (a:=b1) (b:=c) (by omega) hc
  refine Aj R2 ?_
  simp +contextual (disch:=omega) only[go_sem]
  obtain⟨a3,b3,s3,τ3,R3,H3,h3⟩:=order2_ret S H2 (a:=a1) (b:=b2) (by omega) (by omega)
  refine Aj R3 ?_
  simp +contextual (disch:=omega) only[go_sem]
  have:=R1.2.1
  have:=R2.2.1
  have:=R3.2.1
  exact⟨_,rfl,by omega,b3,s3,rfl,H3,by omega⟩
 obtain⟨r,τ,R,r1,s',rfl,h1,h2⟩:=key
 exact⟨r1,s',τ,R,h1,h2⟩
theorem medAdj_ret (S:SrtC α lt) (H:Holds S.e σ0 σ (pt 1 g [gi s]::rs) (k+1) v d) {a:Nat} (h0:0<a) (ha:a+1<d.size) (hs:d.size≤1099511627776):∃(r1:Nat) (s':Int) (τ:St),Ret Tryz.prog S.q.medianAdjacent [v,gi a,.ptr g 0,.fn S.f []] σ (gi r1) τ∧Holds S.e σ0 τ (pt 1 g [gi s']::rs) (k+1) v d∧a≤r1+1∧r1≤a+1:=by
 have key:∃ r τ,Ret Tryz.prog S.q.medianAdjacent [v,gi a,.ptr g 0,.fn S.f []] σ r τ∧∃(r1:Nat) (s':Int),r=gi r1∧Holds S.e σ0 τ (pt 1 g [gi s']::rs) (k+1) v d∧a≤r1+1∧r1≤a+1:=by
  refine Ao S.h_medianAdjacent (Z0z rfl) ?_
  obtain⟨p,rfl⟩:∃ p,a=p+1:=⟨a - 1,by omega⟩
  have p1:(p:Int)+1 - 1=p:=by omega
  simp +contextual (disch:=omega) only[go_sem,Hv,p1]
  obtain⟨r1,s1,τ1,R1,H1,h1⟩:=median_ret S H (a:=p) (b:=p+1) (c:=p+1+1) (by omega) (by omega) (by omega)
  refine Aj R1 ?_
  simp +contextual (disch:=omega) only[go_sem]
  have:=R1.2.1
  exact⟨_,rfl,by omega,r1,s1,rfl,H1,by omega,by omega⟩
 obtain⟨r,τ,R,r1,s',rfl,h1,h2⟩:=key
 exact⟨r1,s',τ,R,h1,h2⟩
theorem choose_ret (S:SrtC α lt) (H:Holds S.e σ0 σ rs k v d) {a b:Nat} (hab:a<b) (hb:b≤d.size) (hs:d.size≤1099511627776):∃(p h:Nat) (τ:St),Ret Tryz.prog S.q.choosePivot [v,gi a,gi b,.fn S.f []] σ (.tup [gi p,gi h]) τ∧Holds S.e σ0 τ rs k v d∧a≤p∧p<b∧h≤2:=by
 have key:∃ r τ,Ret Tryz.prog S.q.choosePivot [v,gi a,gi b,.fn S.f []] σ r τ∧∃(p h:Nat),r= .tup [gi p,gi h]∧Holds S.e σ0 τ rs k v d∧a≤p∧p<b∧h≤2:=by
  refine Ao S.h_choosePivot (Z0z rfl) ?_
  obtain⟨l,hl⟩:∃ l,l=b - a:=⟨_,rfl⟩
  have hlI:(b:Int) - a=l:=by omega
  obtain⟨q,hq⟩:∃ q,q=l / 4:=⟨_,rfl⟩
  have hqI:(l:Int).tdiv 4=q:=by rw[hq];rfl
  obtain⟨i,hi⟩:∃ i,i=a+q*1:=⟨_,rfl⟩
  obtain⟨j,hj⟩:∃ i,i=a+q*2:=⟨_,rfl⟩
  obtain⟨m,hm⟩:∃ i,i=a+q*3:=⟨_,rfl⟩
  have hiI:(a:Int)+q*1=i:=by omega
  have hjI:(a:Int)+q*2=j:=by omega
  have hmI:(a:Int)+q*3=m:=by omega
  have H0:Holds S.e σ0 (σ++[some (.row 1 [gi 0])]) (pt 1 σ.length [gi 0]::rs) (k+1) v d:=⟨by simpa using H.1,H.2.new 1 [gi 0]⟩
  have L0:(σ++[some (Blk.row 1 [GV.int IntKind.i64 0])]).length=σ.length+1:=by simp
  have L1:(σ++[some (Blk.row 1 [gi 0])]).length=σ.length+1:=L0
  by_cases h8:8≤l
  ·have c8:decide ((8:Int)≤l)=true:=by simp;omega
   by_cases h50:50≤l
   ·have c50:decide ((50:Int)≤l)=true:=by simp;omega
    simp +contextual (disch:=omega) only[go_sem,F0,hlI,hqI,hiI,hjI,hmI,c8,c50]
    obtain⟨i1,s1,τ1,R1,H1,h1,h1'⟩:=medAdj_ret S H0 (a:=i) (by omega) (by omega) hs
    refine Aj R1 ?_
    simp +contextual (disch:=omega) only[go_sem]
    obtain⟨j1,s2,τ2,R2,H2,h2,h2'⟩:=medAdj_ret S H1 (a:=j) (by omega) (by omega) hs
    refine Aj R2 ?_
    simp +contextual (disch:=omega) only[go_sem]
    obtain⟨m1,s3,τ3,R3,H3,h3,h3'⟩:=medAdj_ret S H2 (a:=m) (by omega) (by omega) hs
    refine Aj R3 ?_
    simp +contextual (disch:=omega) only[go_sem]
    obtain⟨p,s4,τ4,R4,H4,h4⟩:=median_ret S H3 (a:=i1) (b:=j1) (c:=m1) (by omega) (by omega) (by omega)
    refine Aj R4 ?_
    have:=R1.2.1
    have:=R2.2.1
    have:=R3.2.1
    have:=R4.2.1
    have l1:ldG false 1 τ4 (.ptr σ.length 0)=some (gi s4):=A0 (a:=false) (n:=1) (off:=0) ((H4).2.pt 0 rfl)
    simp +contextual (disch:=omega) only[go_sem,l1]
    have hout:Holds S.e σ0 τ4 rs k v d:=⟨H.1,(H4).2.drop1⟩
    have key0:((s4:Int)==0)=decide ((s4:Int)=0):=rfl
    by_cases h0:(s4:Int)=0
    ·have c0:((s4:Int)==0)=true:=by simp[h0]
     simp +contextual (disch:=omega) only[go_sem,c0]
     exact⟨_,rfl,by omega,p,1,rfl,hout,by omega,by omega,by omega⟩
    ·have c0:((s4:Int)==0)=false:=by simp[h0]
     by_cases h12:(s4:Int)=12
     ·have c1:((s4:Int)==12)=true:=by simp[h12]
      simp +contextual (disch:=omega) only[go_sem,c0,c1]
      exact⟨_,rfl,by omega,p,2,rfl,hout,by omega,by omega,by omega⟩
     ·have c1:((s4:Int)==12)=false:=by simp[h12]
      simp +contextual (disch:=omega) only[go_sem,c0,c1]
      exact⟨_,rfl,by omega,p,0,rfl,hout,by omega,by omega,by omega⟩
   ·have c50:decide ((50:Int)≤l)=false:=by simp;omega
    simp +contextual (disch:=omega) only[go_sem,F0,hlI,hqI,hiI,hjI,hmI,c8,c50]
    obtain⟨p,s4,τ4,R4,H4,h4⟩:=median_ret S H0 (a:=i) (b:=j) (c:=m) (by omega) (by omega) (by omega)
    refine Aj R4 ?_
    have:=R4.2.1
    have l1:ldG false 1 τ4 (.ptr σ.length 0)=some (gi s4):=A0 (a:=false) (n:=1) (off:=0) ((H4).2.pt 0 rfl)
    simp +contextual (disch:=omega) only[go_sem,l1]
    have hout:Holds S.e σ0 τ4 rs k v d:=⟨H.1,(H4).2.drop1⟩
    have key0:((s4:Int)==0)=decide ((s4:Int)=0):=rfl
    by_cases h0:(s4:Int)=0
    ·have c0:((s4:Int)==0)=true:=by simp[h0]
     simp +contextual (disch:=omega) only[go_sem,c0]
     exact⟨_,rfl,by omega,p,1,rfl,hout,by omega,by omega,by omega⟩
    ·have c0:((s4:Int)==0)=false:=by simp[h0]
     by_cases h12:(s4:Int)=12
     ·have c1:((s4:Int)==12)=true:=by simp[h12]
      simp +contextual (disch:=omega) only[go_sem,c0,c1]
      exact⟨_,rfl,by omega,p,2,rfl,hout,by omega,by omega,by omega⟩
     ·have c1:((s4:Int)==12)=false:=by simp[h12]
      simp +contextual (disch:=omega) only[go_sem,c0,c1]
      exact⟨_,rfl,by omega,p,0,rfl,hout,by omega,by omega,by omega⟩
  ·have c8:decide ((8:Int)≤l)=false:=by simp;omega
   have l1:ldG false 1 (σ++[some (.row 1 [gi 0])]) (.ptr σ.length 0)=some (gi 0):=A0 (a:=false) (n:=1) (off:=0) (H0.2.pt 0 rfl)
   have c0:((0:Int)==0)=true:=rfl
   simp +contextual (disch:=omega) only[go_sem,F0,hlI,hqI,hiI,hjI,hmI,c8,l1,c0]
   exact⟨_,rfl,by omega,j,1,rfl,⟨H.1,H0.2.drop1⟩,by omega,by omega,by omega⟩
 obtain⟨r,τ,R,p,h,rfl,h1,h2⟩:=key
 exact⟨p,h,τ,R,h1,h2⟩
theorem break_ret (S:SrtC α lt) (H:Holds S.e σ0 σ rs k v d) {a b:Nat} (hab:a≤b) (hb:b≤d.size) (hs:d.size≤1099511627776):∃(d':Array α) (τ:St),Ret Tryz.prog S.q.breakPatterns [v,gi a,gi b,.fn S.f []] σ (.tup []) τ∧Holds S.e σ0 τ rs k v d'∧PermIn a b d d':=by
 have key:∃ r τ,Ret Tryz.prog S.q.breakPatterns [v,gi a,gi b,.fn S.f []] σ r τ∧∃(d':Array α),r= .tup []∧Holds S.e σ0 τ rs k v d'∧PermIn a b d d':=by
  refine Ao S.h_breakPatterns (Z0z rfl) ?_
  obtain⟨h,hh⟩:∃ l,l=b - a:=⟨_,rfl⟩
  have hhI:(b:Int) - a=h:=by omega
  by_cases h8:8≤h
  ·have c8:decide ((8:Int)≤h)=true:=by simp;omega
   have wu:IntKind.u64.wrap (h:Int)=h:=Ja (by omega) (by omega)
   obtain⟨q,hq⟩:∃ q,q=h / 4:=⟨_,rfl⟩
   have hqI:(h:Int).tdiv 4=q:=by rw[hq];rfl
   obtain⟨m,hm⟩:∃ i,i=a+q*2:=⟨_,rfl⟩
   have hmI:(a:Int)+q*2=m:=by omega
   have hmJ:(m:Int) - 1=((m - 1:Nat):Int):=by omega
   have H0:Holds S.e σ0 (σ++[some (.row 1 [.int .u64 h])]) (pt 1 σ.length [.int .u64 h]::rs) (k+1) v d:=⟨by simpa using H.1,H.2.new 1 [.int .u64 h]⟩
   have sp:Al [GV.int .u64 0] 0 [GV.int .u64 (h:Int)]=[.int .u64 h]:=rfl
   simp +contextual (disch:=omega) only[go_sem,Fn,hhI,c8,wu,GV.cells,sp,List.length_cons,List.length_nil,Nat.reduceAdd,Nat.le_refl,Nat.zero_lt_one,and_self,if_true]
   rw[S.hnp]
   have hbl:h≤1099511627776:=by omega
   refine A7 (A97 _ h hbl) ?_
   obtain⟨M,hM⟩:∃ M,M=2 ^ bitsLen h:=⟨_,rfl⟩
   have hM1:=Go.Sort.two_pow_bitsLen_le (n:=h) (by omega)
   have hM2:=Nat.two_pow_pos (bitsLen h)
   rw[← hM] at hM1 hM2
   rw[← hM]
   have M1:(M:Int) - 1=((M - 1:Nat):Int):=by omega
   have wM:IntKind.u64.wrap ((M - 1:Nat):Int)=((M - 1:Nat):Int):=Ja (by omega) (by omega)
   have L0:(σ++[some (Blk.row 1 [GV.int .u64 (h:Int)])]).length=σ.length+1:=by simp
   simp +contextual (disch:=omega) only[go_sem,hqI,hmI,hmJ]
   refine C5 (fun n env τ=>∃(x:Nat) (y:Int) (D:Array α),env 0=v∧env 1=gi a∧env 8=gi h∧env 9= .ptr σ.length 0∧env 10= .int .u64 (M:Nat)∧env 11=gi x∧m+2 - x=n∧m - 1≤x∧x≤m+2∧σ.length≤τ.length∧Holds S.e σ0 τ (pt 1 σ.length [.int .u64 y]::rs) (k+1) v D∧PermIn a b d D) (m+2 - (m - 1)) ⟨m - 1,h,d,rfl,rfl,rfl,rfl,rfl,rfl,rfl,Nat.le_refl _,by omega,by omega,H0,permIn_refl _ _ _⟩ ?_
   rintro J hJ n env τ ⟨x,y,D,e0,e1,e6,e7,e8,e9,hn,hx1,hx2,hle,hH,hP⟩
   have hD:D.size=d.size:=hP.1
   by_cases hx:x≤m+1
   ·have c0:decide ((x:Int)≤(m:Int)+1)=true:=by simp;omega
    simp +contextual (disch:=omega) only[go_sem,e0,e1,e6,e7,e8,e9,hqI,hmI,c0]
    rw[S.hxs]
    obtain⟨y',τ1,R1,H1⟩:=Abu hH.2 0 rfl
    have hle1:=R1.2.1
    have H1:Holds S.e σ0 τ1 (pt 1 σ.length [.int .u64 y']::rs) (k+1) v D:=⟨hH.1,H1⟩
    obtain⟨w,hw,hwE⟩:=andU (y:=y') (m:=M - 1) (by omega)
    have ww:IntKind.i64.wrap (w:Int)=w:=Bl (by omega) (by omega)
    refine Aj R1 ?_
    simp +contextual (disch:=omega) only[go_sem,e0,e1,e6,e7,e8,e9,M1,wM,hwE,ww]
    obtain⟨z,hz,hzI⟩:∃ z:Nat,z<h∧(z:Int)=if h≤w then(w:Int) - h else w:=by
     by_cases hc:h≤w
     ·exact⟨w - h,by omega,by rw[if_pos hc];omega⟩
     ·exact⟨w,by omega,by rw[if_neg hc]⟩
    have nz:Ax (some (.int .i64 ((a:Int)+z)))=some (a+z):=Bb (by simp)
    obtain⟨τ3,τ4,s3,s4,hH4,hl4⟩:=H1.sw (a:=x) (b:=a+z) (by omega) (by omega)
    have hP2:=permIn_trans _ _ _ _ _ hP (swp_permIn D a b x (a+z) (by omega) (by omega) (by omega) (by omega) (by omega))
    by_cases hc:h≤w
    ·rw[if_pos hc] at hzI
     have cc:decide ((h:Int)≤w)=true:=by simp;omega
     simp +contextual (disch:=omega) only[go_sem,e0,e1,e6,e7,e8,e9,cc,←hzI,nz,A2,H1.iad (j:=x) (by omega),H1.ld (j:=x) (by omega),H1.iad (j:=a+z) (by omega),H1.ld (j:=a+z) (by omega),s3,s4]
     refine⟨m+2 - (x+1),by omega,hJ _ _ _ ⟨x+1,y',_,?_,?_,?_,?_,?_,?_,rfl,by omega,by omega,by omega,hH4,hP2⟩⟩
     all_goals simp +contextual (disch:=omega) only[go_sem,e0,e1,e6,e7,e8,e9]
    ·rw[if_neg hc] at hzI
     have hzw:z=w:=by omega
     rw[hzw] at nz s3 s4 hH4 hP2 hz
     have cc:decide ((h:Int)≤w)=false:=by simp;omega
     simp +contextual (disch:=omega) only[go_sem,e0,e1,e6,e7,e8,e9,cc,nz,A2,H1.iad (j:=x) (by omega),H1.ld (j:=x) (by omega),H1.iad (j:=a+w) (by omega),H1.ld (j:=a+w) (by omega),s3,s4]
     refine⟨m+2 - (x+1),by omega,hJ _ _ _ ⟨x+1,y',_,?_,?_,?_,?_,?_,?_,rfl,by omega,by omega,by omega,hH4,hP2⟩⟩
     all_goals simp +contextual (disch:=omega) only[go_sem,e0,e1,e6,e7,e8,e9]
   ·have c0:decide ((x:Int)≤(m:Int)+1)=false:=by simp;omega
    simp +contextual (disch:=omega) only[go_sem,e0,e1,e6,e7,e8,e9,hqI,hmI,c0]
    exact⟨_,rfl,hle,D,rfl,⟨H.1,hH.2.drop1⟩,hP⟩
  ·have c8:decide ((8:Int)≤h)=false:=by simp;omega
   simp +contextual (disch:=omega) only[go_sem,Fn,hhI,c8]
   exact⟨_,rfl,d,rfl,H,permIn_refl _ _ _⟩
 obtain⟨r,τ,R,d',rfl,h⟩:=key
 exact⟨d',τ,R,h⟩
end C
namespace C
open Go Go.RowKit Go.Proofs.YtbeoiejnogdkpaaGreat.Sy Go.Sort
variable {α:Type} [Inhabited α] {lt:α→α→Bool} {σ0:St} {rs:List Thg} {k:Nat} {v:GV}
set_option maxHeartbeats 2000000 in
theorem pdq_ret (S:SrtC α lt) (hS:SWO lt):∀(n:Nat) (d:Array α) (a b l:Nat) (σ:St),b - a≤n→a≤b→b≤d.size→d.size≤1099511627776→l≤1099511627776→Below lt a b d→Holds S.e σ0 σ rs k v d→∃(d':Array α) (τ:St),Ret Tryz.prog S.q.pdqsort [v,gi a,gi b,gi l,.fn S.f []] σ (.tup []) τ∧Holds S.e σ0 τ rs k v d'∧PermIn a b d d'∧SortedIn lt a b d':=by
 intro n
 induction n with
 |zero=>
  intro d a b l σ hn hab hb hs hl hB H
  have key:∃ r τ,Ret Tryz.prog S.q.pdqsort [v,gi a,gi b,gi l,.fn S.f []] σ r τ∧r= .tup []∧Holds S.e σ0 τ rs k v (insertionSort lt d a b):=by
   refine Ao S.h_pdqsort (Z0z rfl) ?_
   obtain rfl:a=b:=by omega
   simp +contextual (disch:=omega) only[go_sem,Ma]
   refine Oz (fun n env τ=>env 0=v∧env 1=gi a∧env 2=gi a∧env 4= .fn S.f []∧τ=σ) 0 ⟨rfl,rfl,rfl,rfl,rfl⟩ ?_
   rintro n env τ ⟨e0,e1,e2,e4,rfl⟩
   have a0:(a:Int) - a=0:=by omega
   have c0:decide ((0:Int)≤12)=true:=rfl
   simp +contextual (disch:=omega) only[go_sem,e0,e1,e2,e4,a0,c0]
   obtain⟨τ1,R,H1⟩:=ins_ret S H (a:=a) (b:=a) (Nat.le_refl _) hb hs
   refine Aj R ?_
   simp +contextual (disch:=omega) only[go_sem]
   exact⟨_,rfl,R.2.1,rfl,H1⟩
  obtain⟨r,τ,R,rfl,H1⟩:=key
  obtain⟨p1,p2⟩:=insertionSort_holds hS d a b hab hb
  exact⟨_,τ,R,H1,p1,p2⟩
 |succ N ih=>
  intro d a b l σ hn hab hb hs hl hB H
  have key:∃ r τ,Ret Tryz.prog S.q.pdqsort [v,gi a,gi b,gi l,.fn S.f []] σ r τ∧∃ d',r= .tup []∧Holds S.e σ0 τ rs k v d'∧PermIn a b d d'∧SortedIn lt a b d':=by
   refine Ao S.h_pdqsort (Z0z rfl) ?_
   simp +contextual (disch:=omega) only[go_sem,Ma]
   refine C5 (fun n env τ=>∃(x y l:Nat) (wb wp:Bool) (D:Array α),env 0=v∧env 1=gi x∧env 2=gi y∧env 3=gi l∧env 4= .fn S.f []∧env 10= .bool wb∧env 11= .bool wp∧y - x=n∧l≤1099511627776∧a≤x∧x≤y∧y≤b∧D.size=d.size∧σ.length≤τ.length∧Holds S.e σ0 τ rs k v D∧Below lt x y D∧∀ R,PermIn x y D R→SortedIn lt x y R→PermIn a b d R∧SortedIn lt a b R) (b - a) ⟨a,b,l,true,true,d,rfl,rfl,rfl,rfl,rfl,rfl,rfl,rfl,hl,Nat.le_refl _,hab,Nat.le_refl _,rfl,Nat.le_refl _,H,hB,fun R h1 h2=>⟨h1,h2⟩⟩ ?_
   clear H hB hl
   rintro J hJ n env τ ⟨x,y,l,wb,wp,D,e0,e1,e2,e3,e4,e8,e9,hn2,hl,hax,hxy,hyb,hD,hle,hH,hB,hfin⟩
   rw[Abl]
   obtain⟨h,hh⟩:∃ h,h=y - x:=⟨_,rfl⟩
   have hhI:(y:Int) - x=h:=by omega
   refine C7 (fun env τ'=>env 0=v∧env 1=gi x∧env 2=gi y∧env 3=gi l∧env 4= .fn S.f []∧env 10= .bool wb∧env 11= .bool wp∧env 12=gi h∧τ=τ') (fun Y hY=>by
    simp +contextual (disch:=omega) only[go_sem,e0,e1,e2,e3,e4,e8,e9,hhI]
    refine hY _ _ ⟨?_,?_,?_,?_,?_,?_,?_,?_,rfl⟩
    all_goals simp +contextual (disch:=omega) only[go_sem,e0,e1,e2,e3,e4,e8,e9,hhI]) ?_
   clear e0 e1 e2 e3 e4 e8 e9
   rintro env τ' ⟨e0,e1,e2,e3,e4,e8,e9,e10,rfl⟩
   refine C7 (fun env τ'=>env 0=v∧env 1=gi x∧env 2=gi y∧env 3=gi l∧env 4= .fn S.f []∧env 10= .bool wb∧env 11= .bool wp∧env 12=gi h∧τ=τ'∧12<h) (fun Y hY=>by
    by_cases h12:h≤12
    ·have c0:decide ((h:Int)≤12)=true:=by simp;omega
     simp +contextual (disch:=omega) only[go_sem,e0,e1,e2,e3,e4,e8,e9,e10,c0]
     obtain⟨τ1,R,H1⟩:=ins_ret S hH (a:=x) (b:=y) hxy (by omega) (by omega)
     refine Aj R ?_
     simp +contextual (disch:=omega) only[go_sem]
     obtain⟨p1,p2⟩:=insertionSort_holds hS D x y hxy (by omega)
     have:=R.2.1
     exact⟨_,rfl,by omega,_,rfl,H1,hfin _ p1 p2⟩
    ·have c0:decide ((h:Int)≤12)=false:=by simp;omega
     simp +contextual (disch:=omega) only[go_sem,e0,e1,e2,e3,e4,e8,e9,e10,c0]
     refine hY _ _ ⟨?_,?_,?_,?_,?_,?_,?_,?_,rfl,by omega⟩
     all_goals simp +contextual (disch:=omega) only[go_sem,e0,e1,e2,e3,e4,e8,e9,e10]) ?_
   clear e0 e1 e2 e3 e4 e8 e9 e10
   rintro env τ' ⟨e0,e1,e2,e3,e4,e8,e9,e10,rfl,h12⟩
   refine C7 (fun env τ'=>env 0=v∧env 1=gi x∧env 2=gi y∧env 3=gi l∧env 4= .fn S.f []∧env 10= .bool wb∧env 11= .bool wp∧env 12=gi h∧τ=τ'∧0<l) (fun Y hY=>by
    by_cases h0:l=0
    ·have c0:((l:Int)==0)=true:=by simp[h0]
     simp +contextual (disch:=omega) only[go_sem,e0,e1,e2,e3,e4,e8,e9,e10,c0]
     obtain⟨τ1,R,H1⟩:=heap_ret S hH (a:=x) (b:=y) hxy (by omega) (by omega)
     refine Aj R ?_
     simp +contextual (disch:=omega) only[go_sem]
     obtain⟨p1,p2⟩:=heapSort_holds hS D x y hxy (by omega)
     have:=R.2.1
     exact⟨_,rfl,by omega,_,rfl,H1,hfin _ p1 p2⟩
    ·have c0:((l:Int)==0)=false:=by simp;omega
     simp +contextual (disch:=omega) only[go_sem,e0,e1,e2,e3,e4,e8,e9,e10,c0]
     refine hY _ _ ⟨?_,?_,?_,?_,?_,?_,?_,?_,rfl,by omega⟩
     all_goals simp +contextual (disch:=omega) only[go_sem,e0,e1,e2,e3,e4,e8,e9,e10]) ?_
   clear e0 e1 e2 e3 e4 e8 e9 e10
   rintro env τ' ⟨e0,e1,e2,e3,e4,e8,e9,e10,rfl,h0⟩
   refine C7 (fun env τ'=>∃(l':Nat) (E:Array α),env 0=v∧env 1=gi x∧env 2=gi y∧env 3=gi l'∧env 4= .fn S.f []∧env 10= .bool wb∧env 11= .bool wp∧env 12=gi h∧l'≤l∧τ.length≤τ'.length∧Holds S.e σ0 τ' rs k v E∧PermIn x y D E) (fun Y hY=>by
    cases hwb:wb with
    |true=>
     rw[hwb] at e8
     simp +contextual (disch:=omega) only[go_sem,e0,e1,e2,e3,e4,e8,e9,e10]
     refine hY _ _ ⟨l,D,?_,?_,?_,?_,?_,?_,?_,?_,Nat.le_refl _,Nat.le_refl _,hH,permIn_refl _ _ _⟩
     all_goals simp +contextual (disch:=omega) only[go_sem,e0,e1,e2,e3,e4,e8,e9,e10,hwb]
    |false=>
     rw[hwb] at e8
     simp +contextual (disch:=omega) only[go_sem,e0,e1,e2,e3,e4,e8,e9,e10]
     obtain⟨E,τ1,R,H1,p1⟩:=break_ret S hH (a:=x) (b:=y) hxy (by omega) (by omega)
     refine Aj R ?_
     have l1:(l:Int) - 1=((l - 1:Nat):Int):=by omega
     simp +contextual (disch:=omega) only[go_sem,e0,e1,e2,e3,e4,e8,e9,e10]
     refine hY _ _ ⟨l - 1,E,?_,?_,?_,?_,?_,?_,?_,?_,by omega,R.2.1,H1,p1⟩
     all_goals simp +contextual (disch:=omega) only[go_sem,e0,e1,e2,e3,e4,e8,e9,e10,l1,hwb]) ?_
   clear e0 e1 e2 e3 e4 e8 e9 e10
   rintro env τ1 ⟨l1,D1,e0,e1,e2,e3,e4,e8,e9,e10,hl1,hle1,hH1,hP1⟩
   have hD1:D1.size=D.size:=hP1.1
   refine C7 (fun env τ'=>∃(p q:Nat),env 0=v∧env 1=gi x∧env 2=gi y∧env 3=gi l1∧env 4= .fn S.f []∧env 10= .bool wb∧env 11= .bool wp∧env 12=gi h∧env 13=gi p∧env 14=gi q∧τ1.length≤τ'.length∧Holds S.e σ0 τ' rs k v D1∧x≤p∧p<y∧q≤2) (fun Y hY=>by
    simp +contextual (disch:=omega) only[go_sem,e0,e1,e2,e3,e4,e8,e9,e10]
    obtain⟨p,q,τ2,R,H2,g1,g2,g3⟩:=choose_ret S hH1 (a:=x) (b:=y) (by omega) (by omega) (by omega)
    refine Aj R ?_
    simp +contextual (disch:=omega) only[go_sem,e0,e1,e2,e3,e4,e8,e9,e10]
    refine hY _ _ ⟨p,q,?_,?_,?_,?_,?_,?_,?_,?_,?_,?_,R.2.1,H2,g1,g2,g3⟩
    all_goals simp +contextual (disch:=omega) only[go_sem,e0,e1,e2,e3,e4,e8,e9,e10]) ?_
   clear e0 e1 e2 e3 e4 e8 e9 e10 hH hH1
   rintro env τ2 ⟨p0,q0,e0,e1,e2,e3,e4,e8,e9,e10,e11,e12,hle2,hH2,g1,g2,g3⟩
   refine C7 (fun env τ'=>∃(p q:Nat) (E:Array α),env 0=v∧env 1=gi x∧env 2=gi y∧env 3=gi l1∧env 4= .fn S.f []∧env 10= .bool wb∧env 11= .bool wp∧env 12=gi h∧env 13=gi p∧env 14=gi q∧τ2.length≤τ'.length∧Holds S.e σ0 τ' rs k v E∧x≤p∧p<y∧PermIn x y D1 E) (fun Y hY=>by
    by_cases hq:q0=2
    ·have c0:((q0:Int)==2)=true:=by simp[hq]
     simp +contextual (disch:=omega) only[go_sem,e0,e1,e2,e3,e4,e8,e9,e10,e11,e12,c0]
     obtain⟨τ3,R,H3⟩:=rev_ret S hH2 (a:=x) (b:=y) (by omega) (by omega) (by omega)
     refine Aj R ?_
     have r1:(y:Int) - 1 - ((p0:Int) - x)=((y - 1 - (p0 - x):Nat):Int):=by omega
     simp +contextual (disch:=omega) only[go_sem,e0,e1,e2,e3,e4,e8,e9,e10,e11,e12,r1]
     refine hY _ _ ⟨y - 1 - (p0 - x),1,_,?_,?_,?_,?_,?_,?_,?_,?_,?_,?_,R.2.1,H3,by omega,by omega,reverseRange_holds D1 x y hxy (by omega)⟩
     all_goals simp +contextual (disch:=omega) only[go_sem,e0,e1,e2,e3,e4,e8,e9,e10,e11,Int.natCast_one]
    ·have c0:((q0:Int)==2)=false:=by simp;omega
     simp +contextual (disch:=omega) only[go_sem,e0,e1,e2,e3,e4,e8,e9,e10,e11,e12,c0]
     refine hY _ _ ⟨p0,q0,D1,?_,?_,?_,?_,?_,?_,?_,?_,?_,?_,Nat.le_refl _,hH2,g1,g2,permIn_refl _ _ _⟩
     all_goals simp +contextual (disch:=omega) only[go_sem,e0,e1,e2,e3,e4,e8,e9,e10,e11,e12]) ?_
   clear e0 e1 e2 e3 e4 e8 e9 e10 e11 e12 hH2 g1 g2 g3
   rintro env τ3 ⟨p,q,D2,e0,e1,e2,e3,e4,e8,e9,e10,e11,e12,hle3,hH3,g1,g2,hP2⟩
   have hD2:D2.size=D1.size:=hP2.1
   have hP02:=permIn_trans _ _ _ _ _ hP1 hP2
   have B2:Below lt x y D2:=hB.perm (by omega) hP02
   refine C7 (fun env τ'=>∃(E:Array α),env 0=v∧env 1=gi x∧env 2=gi y∧env 3=gi l1∧env 4= .fn S.f []∧env 10= .bool wb∧env 11= .bool wp∧env 12=gi h∧env 13=gi p∧τ3.length≤τ'.length∧Holds S.e σ0 τ' rs k v E∧PermIn x y D2 E) (fun Y hY=>by
    have stay:∀ env',env' 0=v→env' 1=gi x→env' 2=gi y→env' 3=gi l1→env' 4= .fn S.f []→env' 10= .bool wb→env' 11= .bool wp→env' 12=gi h→env' 13=gi p→Y env' τ3:=fun env' a0 a1 a2 a3 a4 a8 a9 a10 a11=>hY _ _ ⟨D2,a0,a1,a2,a3,a4,a8,a9,a10,a11,Nat.le_refl _,hH3,permIn_refl _ _ _⟩
    cases hwb:wb with
    |false=>
     rw[hwb] at e8
     simp +contextual (disch:=omega) only[go_sem,e0,e1,e2,e3,e4,e8,e9,e10,e11,e12]
     refine stay _ ?_ ?_ ?_ ?_ ?_ ?_ ?_ ?_ ?_
     all_goals simp +contextual (disch:=omega) only[go_sem,e0,e1,e2,e3,e4,e8,e9,e10,e11,e12,hwb]
    |true=>
     rw[hwb] at e8
     cases hwp:wp with
     |false=>
      rw[hwp] at e9
      simp +contextual (disch:=omega) only[go_sem,e0,e1,e2,e3,e4,e8,e9,e10,e11,e12]
      refine stay _ ?_ ?_ ?_ ?_ ?_ ?_ ?_ ?_ ?_
      all_goals simp +contextual (disch:=omega) only[go_sem,e0,e1,e2,e3,e4,e8,e9,e10,e11,e12,hwb,hwp]
     |true=>
      rw[hwp] at e9
      by_cases hq:q=1
      ·have c0:((q:Int)==1)=true:=by simp[hq]
       simp +contextual (disch:=omega) only[go_sem,e0,e1,e2,e3,e4,e8,e9,e10,e11,e12,c0]
       obtain⟨τ4,R,H4⟩:=pis_ret S hH3 (a:=x) (b:=y) (by omega) (by omega) (by omega)
       obtain⟨p1,p2⟩:=partialInsertionSort_holds hS D2 x y (by omega) (by omega) B2
       have:=R.2.1
       refine Aj R ?_
       cases hr:(partialInsertionSort lt D2 x y).2 with
       |true=>
        simp +contextual (disch:=omega) only[go_sem]
        exact⟨_,rfl,by omega,_,rfl,H4,hfin _ (permIn_trans _ _ _ _ _ hP02 p1) (p2 hr)⟩
       |false=>
        simp +contextual (disch:=omega) only[go_sem,e0,e1,e2,e3,e4,e8,e9,e10,e11,e12]
        refine hY _ _ ⟨_,?_,?_,?_,?_,?_,?_,?_,?_,?_,R.2.1,H4,p1⟩
        all_goals simp +contextual (disch:=omega) only[go_sem,e0,e1,e2,e3,e4,e8,e9,e10,e11,e12,hwb,hwp]
      ·have c0:((q:Int)==1)=false:=by simp;omega
       simp +contextual (disch:=omega) only[go_sem,e0,e1,e2,e3,e4,e8,e9,e10,e11,e12,c0]
       refine stay _ ?_ ?_ ?_ ?_ ?_ ?_ ?_ ?_ ?_
       all_goals simp +contextual (disch:=omega) only[go_sem,e0,e1,e2,e3,e4,e8,e9,e10,e11,e12,hwb,hwp]) ?_
   clear e0 e1 e2 e3 e4 e8 e9 e10 e11 e12 hH3
   rintro env τ4 ⟨D3,e0,e1,e2,e3,e4,e8,e9,e10,e11,hle4,hH4,hP3⟩
   have hD3:D3.size=D2.size:=hP3.1
   have hP03:=permIn_trans _ _ _ _ _ hP02 hP3
   have B3:Below lt x y D3:=B2.perm (by omega) hP3
   refine C7 (fun env τ'=>env 0=v∧env 1=gi x∧env 2=gi y∧env 3=gi l1∧env 4= .fn S.f []∧env 10= .bool wb∧env 11= .bool wp∧env 12=gi h∧env 13=gi p∧τ4=τ') (fun Y hY=>by
    rcases Nat.eq_zero_or_pos x with hx|hx
    ·have c0:decide ((0:Int)<x)=false:=by simp;omega
     simp +contextual (disch:=omega) only[go_sem,e0,e1,e2,e3,e4,e8,e9,e10,e11,c0]
     refine hY _ _ ⟨?_,?_,?_,?_,?_,?_,?_,?_,?_,rfl⟩
     all_goals simp +contextual (disch:=omega) only[go_sem,e0,e1,e2,e3,e4,e8,e9,e10,e11]
    ·have c0:decide ((0:Int)<x)=true:=by simp;omega
     have x1:(x:Int) - 1=((x - 1:Nat):Int):=by omega
     simp +contextual (disch:=omega) only[go_sem,e0,e1,e2,e3,e4,e8,e9,e10,e11,c0,x1,A2,hH4.iad (j:=x - 1) (by omega),hH4.ld (j:=x - 1) (by omega),hH4.iad (j:=p) (by omega),hH4.ld (j:=p) (by omega)]
     refine A7 (S.call _ _ _) ?_
     cases hlt:lt D3[x - 1]! D3[p]! with
     |true=>
      simp +contextual (disch:=omega) only[go_sem,e0,e1,e2,e3,e4,e8,e9,e10,e11,c0,hlt,S.klt]
      refine hY _ _ ⟨?_,?_,?_,?_,?_,?_,?_,?_,?_,rfl⟩
      all_goals simp +contextual (disch:=omega) only[go_sem,e0,e1,e2,e3,e4,e8,e9,e10,e11]
     |false=>
      simp +contextual (disch:=omega) only[go_sem,e0,e1,e2,e3,e4,e8,e9,e10,e11,c0,hlt,S.klt]
      obtain⟨τ5,R,H5⟩:=pe_ret S hH4 (a:=x) (b:=y) (p:=p) (by omega) g2 (by omega) (by omega)
      have:=R.2.1
      refine Aj R ?_
      obtain⟨mid,D4,hX⟩:∃ m D4,partitionEqual lt D3 x y p=(m,D4):=⟨_,_,rfl⟩
      rw[hX] at H5
      rw[hX]
      obtain⟨k1,k2,k3,k4,k5⟩:=round_eq hS (partitionEqual_holds lt) hx g1 g2 (by omega) B3 hlt hX
      simp +contextual (disch:=omega) only[go_sem,e0,e1,e2,e3,e4,e8,e9,e10,e11]
      refine⟨y - mid,by omega,hJ _ _ _ ⟨mid,y,l1,wb,wp,D4,?_,?_,?_,?_,?_,?_,?_,rfl,by omega,by omega,k2,hyb,by omega,by omega,H5,k4,fun R h1 h2=> ?_⟩⟩
      all_goals first|(simp +contextual (disch:=omega) only[go_sem,e0,e1,e2,e3,e4,e8,e9,e10,e11];done)|skip
      obtain⟨m1,m2⟩:=k5 R h1 h2
      exact hfin R (permIn_trans _ _ _ _ _ hP03 m1) m2) ?_
   clear e0 e1 e2 e3 e4 e8 e9 e10 e11
   rintro env τ' ⟨e0,e1,e2,e3,e4,e8,e9,e10,e11,rfl⟩
   obtain⟨τ5,R5,H5⟩:=part_ret S hH4 (a:=x) (b:=y) (p:=p) (by omega) g2 (by omega) (by omega)
   have hle5:=R5.2.1
   obtain⟨mid,ap,D4,hX⟩:∃ m ap D4,partition lt D3 x y p=(m,ap,D4):=⟨_,_,_,rfl⟩
   rw[hX] at H5 R5
   obtain⟨k1,k2,k3,k4,k5,k6,k7⟩:=round_part hS (partition_holds lt) g1 g2 (by omega) B3 hX
   simp +contextual (disch:=omega) only[go_sem,e0,e1,e2,e3,e4,e8,e9,e10,e11]
   refine Aj R5 ?_
   obtain⟨q8,hq8⟩:∃ q,q=h / 8:=⟨_,rfl⟩
   have hqI:(h:Int).tdiv 8=q8:=by rw[hq8];rfl
   have m1:(mid:Int) - x=((mid - x:Nat):Int):=by omega
   have m2:(y:Int) - mid=((y - mid:Nat):Int):=by omega
   by_cases hlr:mid - x<y - mid
   ·have c0:decide (((mid - x:Nat):Int)<((y - mid:Nat):Int))=true:=by simp;omega
    simp +contextual (disch:=omega) only[go_sem,e0,e1,e2,e3,e4,e8,e9,e10,e11,hqI,m1,m2,c0]
    obtain⟨L,τ6,R6,H6,p1,p2⟩:=ih D4 x mid l1 τ5 (by omega) k1 (by omega) (by omega) (by omega) k4 H5
    have hle6:=R6.2.1
    refine Aj R6 ?_
    obtain⟨k8,k9⟩:=k6 L p1 p2
    have hL:L.size=D4.size:=p1.1
    simp +contextual (disch:=omega) only[go_sem,e0,e1,e2,e3,e4,e8,e9,e10,e11]
    refine⟨y - (mid+1),by omega,hJ _ _ _ ⟨mid+1,y,l1,decide ((q8:Int)≤((mid - x:Nat):Int)),ap,L,?_,?_,?_,?_,?_,?_,?_,rfl,by omega,by omega,by omega,hyb,by omega,by omega,H6,k8,fun R h1 h2=> ?_⟩⟩
    all_goals first|(simp +contextual (disch:=omega) only[go_sem,e0,e1,e2,e3,e4,e8,e9,e10,e11];done)|skip
    obtain⟨n1,n2⟩:=k9 R h1 h2
    exact hfin R (permIn_trans _ _ _ _ _ hP03 n1) n2
   ·have c0:decide (((mid - x:Nat):Int)<((y - mid:Nat):Int))=false:=by simp;omega
    simp +contextual (disch:=omega) only[go_sem,e0,e1,e2,e3,e4,e8,e9,e10,e11,hqI,m1,m2,c0]
    obtain⟨L,τ6,R6,H6,p1,p2⟩:=ih D4 (mid+1) y l1 τ5 (by omega) (by omega) (by omega) (by omega) (by omega) k5 H5
    have hle6:=R6.2.1
    refine Aj R6 ?_
    obtain⟨k8,k9⟩:=k7 L p1 p2
    have hL:L.size=D4.size:=p1.1
    simp +contextual (disch:=omega) only[go_sem,e0,e1,e2,e3,e4,e8,e9,e10,e11]
    refine⟨mid - x,by omega,hJ _ _ _ ⟨x,mid,l1,decide ((q8:Int)≤((y - mid:Nat):Int)),ap,L,?_,?_,?_,?_,?_,?_,?_,rfl,by omega,by omega,by omega,by omega,by omega,by omega,H6,k8,fun R h1 h2=> ?_⟩⟩
    all_goals first|(simp +contextual (disch:=omega) only[go_sem,e0,e1,e2,e3,e4,e8,e9,e10,e11];done)|skip
    obtain⟨n1,n2⟩:=k9 R h1 h2
    exact hfin R (permIn_trans _ _ _ _ _ hP03 n1) n2
  obtain⟨r,τ,R,d',rfl,h⟩:=key
  exact⟨d',τ,R,h⟩
end C
namespace C
open Go Go.RowKit Go.Proofs.YtbeoiejnogdkpaaGreat.Sy Go.Sort
variable {α:Type} [Inhabited α] {lt:α→α→Bool} {σ0 σ:St} {rs:List Thg} {v:GV}
theorem sorted_of {d d':Array α} (h:PermIn 0 d.size d d') (h4:SortedIn lt 0 d.size d'):d'.toList.Perm d.toList∧Up lt d'.toList:=by
 obtain⟨h1,h2,h3⟩:=h
 constructor
 ·have e1:d'.extract 0 d.size=d':=by rw[← h1];simp
  have e2:d.extract 0 d.size=d:=by simp
  rw[e1,e2] at h3
  exact h3
 ·rw[Up,List.pairwise_iff_getElem]
  intro i j hi hj hij
  simp only[Array.length_toList] at hi hj
  have:=h4 i j (Nat.zero_le _) hij (by omega)
  rw[getElem!_pos d' j hj,getElem!_pos d' i hi] at this
  simpa using this
theorem sort_ret (S:SrtC α lt) (hS:SWO lt) {l:List α} (H:Hp σ0 σ rs) (k:Nat) (hk:rs[k]? =some (ow S.e.p.kd v l)) (hl:l.length≤1099511627776) (htri:∀ x∈l,∀ y∈l,lt x y=false→lt y x=false→x=y):∃ τ,Ret Tryz.prog S.nS [v,.fn S.f []] σ (.tup []) τ∧Hp σ0 τ (rs.set k (ow S.e.p.kd v (C3 lt l))):=by
 have key:∃ r τ,Ret Tryz.prog S.nS [v,.fn S.f []] σ r τ∧r= .tup []∧Hp σ0 τ (rs.set k (ow S.e.p.kd v (C3 lt l))):=by
  refine Ao S.h_Sort (Z0z rfl) ?_
  have hlen:=(H.sl k hk).len
  have wu:IntKind.u64.wrap (l.length:Int)=l.length:=Ja (by omega) (by omega)
  simp +contextual (disch:=omega) only[go_sem,A66,hlen,wu]
  refine A7 (Mc σ l.length hl) ?_
  simp +contextual (disch:=omega) only[go_sem]
  have HH:Holds S.e σ0 σ rs k v l.toArray:=Holds.of H (by simpa using hk)
  have hb:=A4j hl
  obtain⟨d',τ,R,H1,p1,p2⟩:=pdq_ret S hS l.length l.toArray 0 l.length (bitsLen l.length) σ (by omega) (by omega) (by simp) (by simpa using hl) (by omega) (.inl rfl) HH
  have hz:((0:Nat):Int)=0:=rfl
  rw[hz] at R
  refine Aj R ?_
  simp +contextual (disch:=omega) only[go_sem]
  have hsz:l.length=l.toArray.size:=by simp
  rw[hsz] at p1 p2
  obtain⟨q1,q2⟩:=sorted_of p1 p2
  have hE:d'.toList=C3 lt l:=T0 hS htri (by simpa using q1) q2
  exact⟨_,rfl,R.2.1,rfl,by rw[← hE];exact H1.2⟩
 obtain⟨r,τ,R,rfl,h⟩:=key
 exact⟨τ,R,h⟩
end C
section
open Go Go.RowKit
abbrev D8:Nat:=361
def Jn:Fn1:=⟨17,[.t 4],(.seq (.reg [o 2 (.box (.t 0)),o 3 (.box (.t 1)),o 4 (.mov (.k (.int .i64 0)))]) (.seq (.drw [o 5 (.fad 3 (.t 3)),o 6 (.ld false 1 (.t 5)),o 7 (.fad 3 (.t 2)),o 8 (.ld false 1 (.t 7)),o 9 (.call 106 [(.t 6),(.t 8)]),o 10 (.fad 1 (.t 3)),o 11 (.ld true 2 (.t 10)),o 12 (.fad 1 (.t 2)),o 13 (.ld true 2 (.t 12))] [o 14 (.call 306 [(.t 11),(.t 13)]),o 15 (.lit 1 2 [(.int .i64 0),(.int .i64 0)] [(0,1,(.t 9)),(1,1,(.t 14))]),o 16 (.call 105 [(.t 15)]),o 4 (.mov (.t 16))]) .ret))⟩
theorem Oi:A5 Tryz.prog D8=some Jn:=by kernel_rfl
abbrev C4:Nat:=360
abbrev F2:Nat:=389
abbrev Dp:Nat:=405
abbrev Ep:Nat:=432
abbrev Eq:Nat:=406
abbrev Dt:Nat:=409
abbrev Ck:Nat:=410
abbrev De:Nat:=411
abbrev Ec:Nat:=412
abbrev Dq:Nat:=407
abbrev F6:Nat:=442
abbrev F7:Nat:=434
abbrev Df:Nat:=433
abbrev Dv:Nat:=408
instance:Inhabited Cell:=⟨{obj:=.empty,dot:=⟨0,0⟩,time:=0,ref:=⟨0,0⟩,val:=0,gone:=false}⟩
def A99:El Cell:=⟨Ai,true,fun x=>.agg (Ai.enc x),fun _=>rfl,fun _=>rfl,by decide⟩
def Oj (a b:Cell):Int:=orI (cmpI b.time a.time) (S3 b.dot a.dot)
theorem A7b (a b:Cell):decide (Oj a b<0)=Ea a b:=by
 have key:Oj a b<0↔Ea a b=true:=by
  have h:S3 b.dot a.dot<0↔Au b.dot a.dot=true:=by
   have h:= @Mu b.dot a.dot
   rw[← h];simp
  have h1:= @A5y b.time a.time
  have h2:= @A92 b.time a.time
  simp only[Ea,Bool.or_eq_true,Bool.and_eq_true,decide_eq_true_eq]
  unfold Oj orI
  by_cases hz:cmpI b.time a.time=0
  ·rw[if_pos hz,h]
   have:=h2.1 hz
   constructor
   ·intro h5;exact .inr ⟨this.symm,h5⟩
   ·rintro(h5|h5)
    ·omega
    ·exact h5.2
  ·rw[if_neg hz,h1]
   have:¬ b.time=a.time:=fun e=>hz (h2.2 e)
   constructor
   ·intro h5;exact .inl h5
   ·rintro(h5|h5)
    ·exact h5
    ·exact absurd h5.1.symm this
 rw[Bool.eq_iff_iff,decide_eq_true_eq]
 exact key
theorem Nc (σ:St) (a b:Cell):Ret Tryz.prog D8 [A99.val a,A99.val b] σ (gi (Oj a b)) σ:=by
 show Ret Tryz.prog D8 [.agg (Ai.enc a),.agg (Ai.enc b)] σ (gi (Oj a b)) σ
 simp only[Yf]
 refine Af Oi (Z0z rfl) trivial ?_
 simp +contextual (disch:=omega) only[go_sem,Jn]
 refine A7 (Cz _ _ _) ?_
 simp +contextual (disch:=omega) only[go_sem]
 refine A7 (Cb _ _ _) ?_
 simp +contextual (disch:=omega) only[go_sem]
 refine A7 (I2 _ _ [cmpI b.time a.time,S3 b.dot a.dot] (A8v (p:=pI) _ _ rfl rfl rfl) (by simp)) ?_
 simp +contextual (disch:=omega) only[go_sem,A41]
 rfl
def qCell:SN:=⟨Dp,Ep,Eq,Dt,Ck,De,Ec,Dq,F6,F7,Df,Dv,F2,0,Aq,Ap⟩
def Adx:SrtC Cell Ea where
 e:=A99
 q:=qCell
 f:=D8
 k:=Oj
 call:=Nc
 klt:=A7b
 h_insertionSort:=by kernel_rfl
 h_siftDown:=by kernel_rfl
 h_heapSort:=by kernel_rfl
 h_reverseRange:=by kernel_rfl
 h_partialInsertionSort:=by kernel_rfl
 h_partitionEqual:=by kernel_rfl
 h_partition:=by kernel_rfl
 h_breakPatterns:=by kernel_rfl
 h_order2:=by kernel_rfl
 h_median:=by kernel_rfl
 h_medianAdjacent:=by kernel_rfl
 h_choosePivot:=by kernel_rfl
 h_pdqsort:=by kernel_rfl
 nS:=C4
 h_Sort:=by kernel_rfl
 hnp:=rfl
 hxs:=rfl
theorem Il {σ0 σ:St} {rs:List Thg} {v:GV} {l:List Cell} (H:Hp σ0 σ rs) (k:Nat) (hk:rs[k]? =some (ow Ai.kd v l)) (hl:l.length≤1099511627776) (hn:(l.map (·.dot)).Nodup):∃ τ,Ret Tryz.prog C4 [v,.fn D8 []] σ (.tup []) τ∧Hp σ0 τ (rs.set k (ow Ai.kd v (C3 Ea l))):=
 C.sort_ret Adx T1 H k hk hl fun x hx y hy h1 h2=>T2 hn hx hy (A1a h1 h2)
end
section
open Go Go.RowKit
abbrev Pp:Nat:=323
def I0:Fn1:=⟨36,[.t 4],(.seq (.reg [o 2 (.box (.t 0)),o 3 (.box (.t 1)),o 4 (.mov (.k (.bool false)))]) (.seq (.seq (.reg [o 5 (.fad 3 (.t 2)),o 6 (.ld false 1 (.t 5)),o 7 (.fad 3 (.t 3)),o 8 (.ld false 1 (.t 7)),o 9 (.bin .neq (.t 6) (.t 8))]) (.cnd (.t 9) (.seq (.reg [o 10 (.fad 3 (.t 2)),o 11 (.ld false 1 (.t 10)),o 12 (.fad 3 (.t 3)),o 13 (.ld false 1 (.t 12)),o 14 (.bin .gtr (.t 11) (.t 13)),o 4 (.mov (.t 14))]) .ret) .skip)) (.seq (.seq (.reg [o 15 (.fad 1 (.t 2)),o 16 (.fad 0 (.t 15)),o 17 (.ld false 1 (.t 16)),o 18 (.fad 1 (.t 3)),o 19 (.fad 0 (.t 18)),o 20 (.ld false 1 (.t 19)),o 21 (.bin .neq (.t 17) (.t 20))]) (.cnd (.t 21) (.seq (.reg [o 22 (.fad 1 (.t 2)),o 23 (.fad 0 (.t 22)),o 24 (.ld false 1 (.t 23)),o 25 (.fad 1 (.t 3)),o 26 (.fad 0 (.t 25)),o 27 (.ld false 1 (.t 26)),o 28 (.bin .gtr (.t 24) (.t 27)),o 4 (.mov (.t 28))]) .ret) .skip)) (.seq (.reg [o 29 (.fad 1 (.t 2)),o 30 (.fad 1 (.t 29)),o 31 (.ld false 1 (.t 30)),o 32 (.fad 1 (.t 3)),o 33 (.fad 1 (.t 32)),o 34 (.ld false 1 (.t 33)),o 35 (.bin .gtr (.t 31) (.t 34)),o 4 (.mov (.t 35))]) .ret))))⟩
theorem Yy:A5 Tryz.prog Pp=some I0:=by kernel_rfl
abbrev Ku:Nat:=251
def Pq:Fn1:=⟨97,[.t 8],(.seq (.reg [o 4 (.box (.t 0)),o 6 (.box (.t 2)),o 8 (.mov (.k .nilS))]) (.seq (.reg [o 16 (.lit 8 0 [] []),o 9 (.mov (.t 16))]) (.seq (.seq (.reg [o 10 (.mov (.k (.int .i64 0)))]) (.blk 0 (.lop (.seq (.seq (.reg [o 17 (.mov (.t 10)),o 18 (.fad 3 (.t 4)),o 19 (.ld false 1 (.t 18)),o 20 (.len false (.t 19)),o 21 (.bin .lss (.t 17) (.t 20))]) (.cnd (.t 21) .skip (.ext 0))) (.seq (.blk 1 (.seq (.reg [o 24 (.fad 3 (.t 4)),o 25 (.ld false 1 (.t 24)),o 26 (.mov (.t 10)),o 27 (.iad 8 (.t 25) (.t 26)),o 28 (.ld true 8 (.t 27)),o 11 (.new [(.str ⟨#[]⟩),(.int .i64 0),(.int .i64 0),(.int .i64 0),(.int .i64 0),(.int .i64 0),(.int .i64 0),(.bool false)]),on (.st 8 (.t 11) (.t 28))]) (.seq (.seq (.reg [o 29 (.fad 0 (.t 11)),o 30 (.ld false 1 (.t 29)),o 31 (.mov (.t 1)),o 32 (.bin .neq (.t 30) (.t 31)),o 33 (.mov (.t 32)),og 34 33 false (.fad 4 (.t 11)),og 35 33 false (.ld true 2 (.t 34)),og 36 33 false (.ld true 2 (.t 6)),og 37 33 false (.eqs true [.i .i64,.i .i64] (.t 35) (.t 36)),o 38 (.pick (.t 33) (.k (.bool true)) (.t 37))]) (.cnd (.t 38) (.ext 1) .skip)) (.seq (.reg [o 39 (.lit 8 0 [] []),o 12 (.mov (.t 39))]) (.seq (.reg [o 13 (.mov (.k (.bool false)))]) (.seq (.seq (.reg [o 14 (.mov (.k (.int .i64 0)))]) (.blk 2 (.lop (.seq (.seq (.reg [o 40 (.mov (.t 14)),o 41 (.mov (.t 9)),o 42 (.len false (.t 41)),o 43 (.bin .lss (.t 40) (.t 42))]) (.cnd (.t 43) .skip (.ext 2))) (.seq (.blk 3 (.seq (.seq (.drw [o 46 (.mov (.t 13)),o 47 (.un .not (.t 46)),o 48 (.mov (.t 47)),og 49 48 true (.ld true 8 (.t 11)),og 50 48 true (.mov (.t 9)),og 51 48 true (.mov (.t 14)),og 52 48 true (.iad 8 (.t 50) (.t 51)),og 53 48 true (.ld true 8 (.t 52))] [og 54 48 true (.call 323 [(.t 49),(.t 53)]),o 55 (.pick (.t 48) (.t 54) (.k (.bool false)))]) (.cnd (.t 55) (.seq (.reg [o 56 (.mov (.t 12)),o 57 (.ld true 8 (.t 11)),o 58 (.lit 8 1 [(.str ⟨#[]⟩),(.int .i64 0),(.int .i64 0),(.int .i64 0),(.int .i64 0),(.int .i64 0),(.int .i64 0),(.bool false)] [(0,8,(.t 57))]),o 59 (.app 8 72 [(.str ⟨#[]⟩),(.int .i64 0),(.int .i64 0),(.int .i64 0),(.int .i64 0),(.int .i64 0),(.int .i64 0),(.bool false)] (.t 56) (.t 58)),o 12 (.mov (.t 59))]) (.reg [o 13 (.mov (.k (.bool true)))])) .skip)) (.reg [o 60 (.mov (.t 12)),o 61 (.mov (.t 9)),o 62 (.mov (.t 14)),o 63 (.iad 8 (.t 61) (.t 62)),o 64 (.ld true 8 (.t 63)),o 65 (.lit 8 1 [(.str ⟨#[]⟩),(.int .i64 0),(.int .i64 0),(.int .i64 0),(.int .i64 0),(.int .i64 0),(.int .i64 0),(.bool false)] [(0,8,(.t 64))]),o 66 (.app 8 72 [(.str ⟨#[]⟩),(.int .i64 0),(.int .i64 0),(.int .i64 0),(.int .i64 0),(.int .i64 0),(.int .i64 0),(.bool false)] (.t 60) (.t 65)),o 12 (.mov (.t 66))]))) (.reg [o 44 (.mov (.t 14)),o 45 (.bin .add (.t 44) (.k (.int .i64 1))),o 14 (.mov (.t 45))])))))) (.seq (.seq (.reg [o 67 (.mov (.t 13)),o 68 (.un .not (.t 67))]) (.cnd (.t 68) (.reg [o 69 (.mov (.t 12)),o 70 (.ld true 8 (.t 11)),o 71 (.lit 8 1 [(.str ⟨#[]⟩),(.int .i64 0),(.int .i64 0),(.int .i64 0),(.int .i64 0),(.int .i64 0),(.int .i64 0),(.bool false)] [(0,8,(.t 70))]),o 72 (.app 8 72 [(.str ⟨#[]⟩),(.int .i64 0),(.int .i64 0),(.int .i64 0),(.int .i64 0),(.int .i64 0),(.int .i64 0),(.bool false)] (.t 69) (.t 71)),o 12 (.mov (.t 72))]) .skip)) (.reg [o 73 (.mov (.t 12)),o 9 (.mov (.t 73))])))))))) (.reg [o 22 (.mov (.t 10)),o 23 (.bin .add (.t 22) (.k (.int .i64 1))),o 10 (.mov (.t 23))])))))) (.seq (.seq (.reg [o 15 (.mov (.k (.int .i64 0)))]) (.blk 4 (.lop (.seq (.seq (.reg [o 74 (.mov (.t 15)),o 75 (.mov (.t 9)),o 76 (.len false (.t 75)),o 77 (.bin .lss (.t 74) (.t 76))]) (.cnd (.t 77) .skip (.ext 4))) (.seq (.blk 5 (.seq (.reg [o 80 (.mov (.t 3)),o 81 (.mov (.t 9)),o 82 (.mov (.t 15)),o 83 (.iad 8 (.t 81) (.t 82)),o 84 (.ld true 8 (.t 83)),o 85 (.lit 8 1 [(.str ⟨#[]⟩),(.int .i64 0),(.int .i64 0),(.int .i64 0),(.int .i64 0),(.int .i64 0),(.int .i64 0),(.bool false)] [(0,8,(.t 84))]),o 86 (.app 8 72 [(.str ⟨#[]⟩),(.int .i64 0),(.int .i64 0),(.int .i64 0),(.int .i64 0),(.int .i64 0),(.int .i64 0),(.bool false)] (.t 80) (.t 85)),o 3 (.mov (.t 86))]) (.drw [o 87 (.ld true 4 (.t 4)),o 88 (.mov (.t 1)),o 89 (.mov (.t 9)),o 90 (.mov (.t 15)),o 91 (.iad 8 (.t 89) (.t 90)),o 92 (.fad 1 (.t 91)),o 93 (.ld true 2 (.t 92))] [o 94 (.mov (.t 3)),o 95 (.call 251 [(.t 87),(.t 88),(.t 93),(.t 94)]),o 3 (.mov (.t 95))]))) (.reg [o 78 (.mov (.t 15)),o 79 (.bin .add (.t 78) (.k (.int .i64 1))),o 15 (.mov (.t 79))])))))) (.seq (.reg [o 96 (.mov (.t 3)),o 8 (.mov (.t 96))]) .ret)))))⟩
theorem Yz:A5 Tryz.prog Ku=some Pq:=by kernel_rfl
abbrev Wu:Nat:=145
def Wv:Fn1:=⟨10,[.t 4],(.seq (.reg [o 2 (.box (.t 0)),o 4 (.mov (.k .nilS))]) (.seq (.reg [o 5 (.ld true 4 (.t 2)),o 6 (.mov (.t 1)),o 7 (.build [(.int .i64 0),(.int .i64 0)] []),o 8 (.lit 8 0 [] []),o 9 (.call 251 [(.t 5),(.t 6),(.t 7),(.t 8)]),o 4 (.mov (.t 9))]) .ret))⟩
theorem A4k:A5 Tryz.prog Wu=some Wv:=by kernel_rfl
abbrev Ady:Nat:=206
def Adz:Fn1:=⟨31,[.t 4],(.seq (.reg [o 2 (.box (.t 0)),o 4 (.mov (.k .nilS))]) (.seq (.reg [o 8 (.lit 2 0 [] []),o 5 (.mov (.t 8))]) (.seq (.seq (.reg [o 9 (.ld true 4 (.t 2)),o 10 (.call 199 [(.t 9)]),o 11 (.un .not (.t 10))]) (.cnd (.t 11) (.seq (.reg [o 12 (.mov (.t 5)),o 4 (.mov (.t 12))]) .ret) .skip)) (.seq (.reg [o 13 (.ld true 4 (.t 2)),o 14 (.mov (.t 1)),o 15 (.call 145 [(.t 13),(.t 14)]),o 6 (.mov (.t 15))]) (.seq (.seq (.reg [o 7 (.mov (.k (.int .i64 0)))]) (.blk 0 (.lop (.seq (.seq (.reg [o 16 (.mov (.t 7)),o 17 (.mov (.t 6)),o 18 (.len false (.t 17)),o 19 (.bin .lss (.t 16) (.t 18))]) (.cnd (.t 19) .skip (.ext 0))) (.seq (.blk 1 (.reg [o 22 (.mov (.t 5)),o 23 (.mov (.t 6)),o 24 (.mov (.t 7)),o 25 (.iad 8 (.t 23) (.t 24)),o 26 (.fad 1 (.t 25)),o 27 (.ld true 2 (.t 26)),o 28 (.lit 2 1 [(.int .i64 0),(.int .i64 0)] [(0,2,(.t 27))]),o 29 (.app 2 16 [(.int .i64 0),(.int .i64 0)] (.t 22) (.t 28)),o 5 (.mov (.t 29))])) (.reg [o 20 (.mov (.t 7)),o 21 (.bin .add (.t 20) (.k (.int .i64 1))),o 7 (.mov (.t 21))])))))) (.seq (.reg [o 30 (.mov (.t 5)),o 4 (.mov (.t 30))]) .ret))))))⟩
abbrev Lq (x:Cell):List GV:=[.str x.obj,.int .i64 x.dot.rep,.int .i64 x.dot.seq,.int .i64 x.time,.int .i64 x.ref.rep,.int .i64 x.ref.seq,.int .i64 x.val,.bool x.gone]
theorem Vc (σ:St) (a b:Cell):Ret Tryz.prog Pp [.agg (Lq a),.agg (Lq b)] σ (.bool (Ea a b)) σ:=by
 refine Af Yy (Z0z rfl) trivial ?_
 by_cases h1:a.time=b.time
 ·have c1:(a.time != b.time)=false:=by simp[h1]
  by_cases h2:a.dot.rep=b.dot.rep
  ·have c2:(a.dot.rep != b.dot.rep)=false:=by simp[h2]
   simp +contextual (disch:=omega) only[go_sem,I0,c1,c2]
   simp[Ea,Au,h1,h2]
  ·have c2:(a.dot.rep != b.dot.rep)=true:=by simp[h2]
   have h3:¬ b.dot.rep=a.dot.rep:=fun e=>h2 e.symm
   simp +contextual (disch:=omega) only[go_sem,I0,c1,c2]
   simp[Ea,Au,h1,h2,h3]
 ·have c1:(a.time != b.time)=true:=by simp[h1]
  simp +contextual (disch:=omega) only[go_sem,I0,c1]
  simp[Ea,h1]
def A4l (s:State) (o:ByteArray) (d:Dot):Prop:=∀(σ0 σ:St) (cs:List GV) (rs:List Thg) (k:Nat) (w:GV) (out:List Cell),A8.R σ0 s cs→Hp σ0 σ rs→rs[k]? =some (ow Ai.kd w out)→out.length+(rowA (objC s.cells o) d).length≤1099511627776→
 ∃ w' τ,Ret Tryz.prog Ku [.agg cs,.str o,.agg [gi d.rep,gi d.seq],w] σ w' τ∧Hp σ0 τ (rs.set k (ow Ai.kd w' (out++rowA (objC s.cells o) d)))
def T6 (o:ByteArray) (d:Dot) (c:Cell):Bool:=If o c&&Ce d c
theorem Ae0 {α β:Type} {f:α→List β} {l:List α} {i:Nat} (hi:i<l.length):((l.take i).flatMap f).length+(f l[i]).length≤(l.flatMap f).length:=by
 have h:l.flatMap f=(l.take i).flatMap f++(f l[i]++(l.drop (i+1)).flatMap f):=by
  rw[← List.flatMap_cons,←List.drop_eq_getElem_cons hi,←List.flatMap_append,List.take_append_drop]
 rw[h,List.length_append,List.length_append];omega
theorem A9a {α β:Type} {f:α→List β} {l:List α} {i:Nat} (hi:i<l.length):(l.take (i+1)).flatMap f=(l.take i).flatMap f++f l[i]:=by
 rw[List.take_succ_eq_append_getElem hi,List.flatMap_append,List.flatMap_singleton]
set_option maxHeartbeats 4000000 in
theorem Ww (s:State) (o:ByteArray) (d:Dot) (hn:(s.cells.map (·.dot)).Nodup) (hl:Ac s≤1099511627776) (hf:Adq (objC s.cells o) fuel d) (IH:∀ c∈(objC s.cells o).filter (Ce d),A4l s o c.dot):A4l s o d:=by
 intro σ0 σ cs rs k w out hR0 H hk hbd
 have key:∃ r τ,Ret Tryz.prog Ku [.agg cs,.str o,.agg [gi d.rep,gi d.seq],w] σ r τ∧Hp σ0 τ (rs.set k (ow Ai.kd r (out++rowA (objC s.cells o) d))):=by
  have hR1:=hR0
  obtain⟨a,b,c,v,rfl,_,_,_,hc⟩:=hR1
  obtain⟨l1,l2,l3,l4,_⟩:=Am hl
  have hkl:=(List.getElem?_eq_some_iff.1 hk).1
  refine Cv Yz (Z0z rfl) ?_
  have H:=((H.new 1 [a,b,c,v]).new 1 [gi d.rep,gi d.seq]).nil_Cell
  simp +contextual (disch:=omega) only[go_sem,Pq]
  generalize hn1:σ.length=n1 at*
  generalize hn2:(σ++[some (Blk.row 1 [a,b,c,v])]).length=n2 at*
  refine Fm s.cells.length 10 0 (fun i env τ=>env 1= .str o∧env 3=w∧env 4= .ptr n1 0∧env 6= .ptr n2 0∧∃ u,env 9=u∧Hp σ0 τ (ow Ai.kd u (C3 Ea ((s.cells.take i).filter (T6 o d)))::pt 1 n2 [gi d.rep,gi d.seq]::pt 1 n1 [a,b,c,v]::rs)) (fun env τ=>env 1= .str o∧env 3=w∧env 4= .ptr n1 0∧env 6= .ptr n2 0∧∃ u,env 9=u∧Hp σ0 τ (ow Ai.kd u ((objC s.cells o).filter (Ce d))::pt 1 n2 [gi d.rep,gi d.seq]::pt 1 n1 [a,b,c,v]::rs)) rfl ⟨rfl,rfl,rfl,by simp +contextual (disch:=omega) only[go_sem,hn2],_,rfl,H⟩ ?_ ?_ ?_
  ·clear H
   rintro J Y hJ hY i env τ hi e10 c0 ⟨e1,e3,e4,e6,u,e9,H⟩
   have C1:=A4 (hc.pre H.sub) hi
   have hab:=A96 (lt:=Ea) (l:=s.cells) (p:=T6 o d) (i:=i)
   have hsn:=A4i (lt:=Ea) (p:=T6 o d) hi
   have G:=H.new 1 (Lq s.cells[i])
   generalize hacc:C3 Ea ((s.cells.take i).filter (T6 o d))=acc at*
   cases ho:decide (s.cells[i].obj=o) with
   |false=>
    have hk0:T6 o d s.cells[i]=false:=by simp[T6,If,ho]
    rw[hk0,if_neg (by simp)] at hsn
    simp +contextual (disch:=omega) only[go_sem,c0,e1,e3,e4,e6,e9,e10,C1,A0 (H.pt 2 rfl),hc.len,ho,A0 (H.pt 1 rfl)]
    refine hJ _ _ _ ⟨?_,?_,?_,?_,u,?_,by rw[hsn];exact G.drop1⟩
    all_goals simp +contextual (disch:=omega) only[go_sem,e1,e3,e4,e6,e9,e10]
   |true=>
    cases hr:decide (s.cells[i].ref=d) with
    |false=>
     have hk0:T6 o d s.cells[i]=false:=by simp[T6,Ce,hr]
     rw[hk0,if_neg (by simp)] at hsn
     simp +contextual (disch:=omega) only[go_sem,c0,e1,e3,e4,e6,e9,e10,C1,A0 (H.pt 2 rfl),hc.len,ho,A0 (G.pt 2 rfl),hr]
     refine hJ _ _ _ ⟨?_,?_,?_,?_,u,?_,by rw[hsn];exact G.drop1⟩
     all_goals simp +contextual (disch:=omega) only[go_sem,e1,e3,e4,e6,e9,e10]
    |true=>
     have hk0:T6 o d s.cells[i]=true:=by simp[T6,If,Ce,ho,hr]
     rw[hk0,if_pos rfl] at hsn
     have H1:=G.nil_Cell
     simp +contextual (disch:=omega) only[go_sem,c0,e1,e3,e4,e6,e9,e10,C1,A0 (H.pt 2 rfl),hc.len,ho,A0 (G.pt 2 rfl),hr]
     generalize hnx:τ.length=nx at*
     generalize hx:s.cells[i]=x at*
     refine Fm acc.length 14 2 (fun j env τ=>env 1= .str o∧env 3=w∧env 4= .ptr n1 0∧env 6= .ptr n2 0∧env 10=gi i∧env 9=u∧env 11= .ptr nx 0∧∃(z:GV) (put:Bool) (nxt:List Cell),env 12=z∧env 13= .bool put∧insG Ea x acc nxt j put∧Hp σ0 τ (ow Ai.kd z nxt::pt 1 nx (Lq x)::ow Ai.kd u acc::pt 1 n2 [gi d.rep,gi d.seq]::pt 1 n1 [a,b,c,v]::rs)) (fun env τ=>env 1= .str o∧env 3=w∧env 4= .ptr n1 0∧env 6= .ptr n2 0∧env 10=gi i∧env 9=u∧env 11= .ptr nx 0∧∃(z:GV) (put:Bool) (nxt:List Cell),env 12=z∧env 13= .bool put∧insG Ea x acc nxt acc.length put∧Hp σ0 τ (ow Ai.kd z nxt::pt 1 nx (Lq x)::ow Ai.kd u acc::pt 1 n2 [gi d.rep,gi d.seq]::pt 1 n1 [a,b,c,v]::rs)) rfl ⟨by simp +contextual (disch:=omega) only[go_sem,e1],by simp +contextual (disch:=omega) only[go_sem,e3],by simp +contextual (disch:=omega) only[go_sem,e4],by simp +contextual (disch:=omega) only[go_sem,e6],by simp +contextual (disch:=omega) only[go_sem,e10],by simp +contextual (disch:=omega) only[go_sem,e9],by simp +contextual (disch:=omega) only[go_sem,hnx],_,false,[],by simp +contextual (disch:=omega) only[go_sem],by simp +contextual (disch:=omega) only[go_sem],Lj,H1⟩ ?_ ?_ ?_
     ·clear e1 e3 e4 e6 e9 e10 H H1 G
      rintro J2 Y2 hJ2 hY2 j env τ hj e14 c1 ⟨e1,e3,e4,e6,e10,e9,e11,z,put,nxt,e12,e13,hok,H⟩
      have hnl:=C6 hok
      have i1:=A4 (H.sl 2 rfl) hj
      have hlen:=(H.sl 2 rfl).len
      cases put with
      |true=>
       obtain⟨w',τ3,e5,H3⟩:=H.app_Cell 0 rfl acc[j] (by omega)
       simp +contextual (disch:=omega) only[go_sem,c1,e1,e3,e4,e6,e9,e10,e11,e12,e13,e14,i1,hlen,e5]
       refine hJ2 _ _ _ ⟨?_,?_,?_,?_,?_,?_,?_,w',true,_,?_,?_,Co hok hj (.inl rfl),H3⟩
       all_goals simp +contextual (disch:=omega) only[go_sem,e1,e3,e4,e6,e9,e10,e11,e13]
      |false=>
       have hl:=Vc τ x acc[j]
       simp +contextual (disch:=omega) only[go_sem,c1,e1,e3,e4,e6,e9,e10,e11,e12,e13,e14,i1,hlen,A0 (H.pt 1 rfl)]
       refine A7 hl ?_
       cases hlt:Ea x acc[j] with
       |false=>
        obtain⟨w',τ3,e5,H3⟩:=H.app_Cell 0 rfl acc[j] (by omega)
        simp +contextual (disch:=omega) only[go_sem,c1,e1,e3,e4,e6,e9,e10,e11,e12,e13,e14,i1,hlen,A0 (H.pt 1 rfl),e5]
        refine hJ2 _ _ _ ⟨?_,?_,?_,?_,?_,?_,?_,w',false,_,?_,?_,Co hok hj (.inr hlt),H3⟩
        all_goals simp +contextual (disch:=omega) only[go_sem,e1,e3,e4,e6,e9,e10,e11,e13]
       |true=>
        obtain⟨w',τ3,e5,H3⟩:=H.app_Cell 0 rfl x (by omega)
        have H3:Hp σ0 τ3 (ow Ai.kd w' (nxt++[x])::pt 1 nx (Lq x)::ow Ai.kd u acc::pt 1 n2 [gi d.rep,gi d.seq]::pt 1 n1 [a,b,c,v]::rs):=H3
        have hp:=J8 hok hj hlt
        have hnl2:=C6 hp
        simp only[List.length_append,List.length_cons,List.length_nil] at hnl2
        have i2:=A4 (H3.sl 2 rfl) hj
        obtain⟨w2,τ4,e7,H4⟩:=H3.app_Cell 0 rfl acc[j] (by simp;omega)
        simp +contextual (disch:=omega) only[go_sem,c1,e1,e3,e4,e6,e9,e10,e11,e12,e13,e14,i1,hlen,A0 (H.pt 1 rfl),e5,i2,e7]
        refine hJ2 _ _ _ ⟨?_,?_,?_,?_,?_,?_,?_,w2,true,_,?_,?_,hp,H4⟩
        all_goals simp +contextual (disch:=omega) only[go_sem,e1,e3,e4,e6,e9,e10,e11,e13]
     ·clear e1 e3 e4 e6 e9 e10 H H1 G
      rintro Y2 hY2 env τ e14 c1 ⟨e1,e3,e4,e6,e10,e9,e11,z,put,nxt,e12,e13,hok,H⟩
      have hlen:=(H.sl 2 rfl).len
      simp +contextual (disch:=omega) only[go_sem,c1,e1,e3,e4,e6,e9,e10,e11,e12,e13,e14,hlen]
      refine hY2 _ _ ⟨?_,?_,?_,?_,?_,?_,?_,z,put,nxt,?_,?_,hok,H⟩
      all_goals simp +contextual (disch:=omega) only[go_sem,e1,e3,e4,e6,e9,e10,e11,e12,e13]
     ·clear e1 e3 e4 e6 e9 e10 H H1 G
      rintro env τ ⟨e1,e3,e4,e6,e10,e9,e11,z,put,nxt,e12,e13,hok,H⟩
      have hnl:=C6 hok
      have hend:=Lk hok
      cases put with
      |true=>
       simp +contextual (disch:=omega) only[go_sem,e1,e3,e4,e6,e9,e10,e11,e12,e13]
       refine hJ _ _ _ ⟨?_,?_,?_,?_,z,?_,?_⟩
       all_goals first|(simp +contextual (disch:=omega) only[go_sem,e1,e3,e4,e6,e9,e10,e11,e12,e13];done)|skip
       rw[hsn,←hend]
       exact((H.pick 1 rfl).drop1.pick 1 rfl).drop1
      |false=>
       obtain⟨w',τ3,e5,H3⟩:=H.app_Cell 0 rfl x (by omega)
       simp +contextual (disch:=omega) only[go_sem,e1,e3,e4,e6,e9,e10,e11,e12,e13,A0 (H.pt 1 rfl),e5]
       refine hJ _ _ _ ⟨?_,?_,?_,?_,w',?_,?_⟩
       all_goals first|(simp +contextual (disch:=omega) only[go_sem,e1,e3,e4,e6,e9,e10,e11,e12,e13];done)|skip
       rw[hsn,←hend]
       exact((H3.pick 1 rfl).drop1.pick 1 rfl).drop1
  ·clear H
   rintro Y hY env τ e10 c0 ⟨e1,e3,e4,e6,u,e9,H⟩
   rw[List.take_length] at H
   have hke:C3 Ea (s.cells.filter (T6 o d))=(objC s.cells o).filter (Ce d):=Ads hn o d
   rw[hke] at H
   simp +contextual (disch:=omega) only[go_sem,c0,e1,e3,e4,e6,e9,e10,A0 (H.pt 2 rfl),hc.len]
   refine hY _ _ ⟨?_,?_,?_,?_,u,?_,H⟩
   all_goals simp +contextual (disch:=omega) only[go_sem,e1,e3,e4,e6,e9,e10]
  ·clear H
   rintro env τ ⟨e1,e3,e4,e6,u,e9,H⟩
   rw[A4g hf] at hbd ⊢
   have hkb:((objC s.cells o).filter (Ce d)).length≤s.cells.length:=Nat.le_trans (List.length_filter_le _ _) (Yv _ _)
   generalize hkid:(objC s.cells o).filter (Ce d)=kids at*
   generalize hg:(fun c:Cell=>c::rowA (objC s.cells o) c.dot)=g at*
   have hkl4:k+3<(ow Ai.kd u kids::pt 1 n2 [gi d.rep,gi d.seq]::pt 1 n1 [a,b,c,v]::rs).length:=by simp;omega
   have hkk:(ow Ai.kd u kids::pt 1 n2 [gi d.rep,gi d.seq]::pt 1 n1 [a,b,c,v]::rs)[k+3]? =some (ow Ai.kd w out):=hk
   simp +contextual (disch:=omega) only[go_sem,e1,e3,e4,e6,e9]
   refine Yh kids.length 15 (fun i env τ=>env 1= .str o∧env 4= .ptr n1 0∧env 9=u∧∃ w',env 3=w'∧Hp σ0 τ (ow Ai.kd u kids::pt 1 n2 [gi d.rep,gi d.seq]::pt 1 n1 [a,b,c,v]::rs.set k (ow Ai.kd w' (out++(kids.take i).flatMap g)))) rfl ⟨by simp +contextual (disch:=omega) only[go_sem,e1],by simp +contextual (disch:=omega) only[go_sem,e4],by simp +contextual (disch:=omega) only[go_sem,e9],w,by simp +contextual (disch:=omega) only[go_sem,e3],?_⟩ ?_ ?_
   ·have:rs.set k (ow Ai.kd w (out++(kids.take 0).flatMap g))=rs:=by
     simp only[List.take_zero,List.flatMap_nil,List.append_nil]
     rw[← (List.getElem?_eq_some_iff.1 hk).2,List.set_getElem_self]
    rw[this];exact H
   ·clear H e1 e3 e4 e6 e9
    rintro J hJ i env τ hi e15 c0 ⟨e1,e4,e9,w1,e3,H⟩
    have hfb:=Ae0 (f:=g) hi
    have hgl:(g kids[i]).length=1+(rowA (objC s.cells o) kids[i].dot).length:=by rw[← hg];simp;omega
    have hmem:kids[i]∈kids:=List.getElem_mem hi
    have C1:=A4 (H.sl 0 rfl) hi
    have hlen:=(H.sl 0 rfl).len
    have hsk:(ow Ai.kd u kids::pt 1 n2 [gi d.rep,gi d.seq]::pt 1 n1 [a,b,c,v]::rs.set k (ow Ai.kd w1 (out++(kids.take i).flatMap g)))[k+3]? =some (ow Ai.kd w1 (out++(kids.take i).flatMap g)):=by
     show(rs.set k _)[k]? =_
     rw[List.getElem?_set_self hkl]
    obtain⟨w2,τ3,e5,H3⟩:=H.app_Cell (k+3) hsk kids[i] (by simp only[List.length_append];omega)
    have H3:Hp σ0 τ3 (ow Ai.kd u kids::pt 1 n2 [gi d.rep,gi d.seq]::pt 1 n1 [a,b,c,v]::(rs.set k (ow Ai.kd w1 (out++(kids.take i).flatMap g))).set k (ow Ai.kd w2 (out++(kids.take i).flatMap g++[kids[i]]))):=H3
    rw[List.set_set] at H3
    have C2:=A4 (H3.sl 0 rfl) hi
    have hsk2:(ow Ai.kd u kids::pt 1 n2 [gi d.rep,gi d.seq]::pt 1 n1 [a,b,c,v]::rs.set k (ow Ai.kd w2 (out++(kids.take i).flatMap g++[kids[i]])))[k+3]? =some (ow Ai.kd w2 (out++(kids.take i).flatMap g++[kids[i]])):=by
     show(rs.set k _)[k]? =_
     rw[List.getElem?_set_self hkl]
    obtain⟨w3,τ4,R4,H4⟩:=IH kids[i] hmem σ0 τ3 [a,b,c,v] _ (k+3) w2 _ hR0 H3 hsk2 (by simp only[List.length_append,List.length_cons,List.length_nil];omega)
    have H4:Hp σ0 τ4 (ow Ai.kd u kids::pt 1 n2 [gi d.rep,gi d.seq]::pt 1 n1 [a,b,c,v]::(rs.set k (ow Ai.kd w2 (out++(kids.take i).flatMap g++[kids[i]]))).set k (ow Ai.kd w3 (out++(kids.take i).flatMap g++[kids[i]]++rowA (objC s.cells o) kids[i].dot))):=H4
    rw[List.set_set] at H4
    simp +contextual (disch:=omega) only[go_sem,c0,e1,e3,e4,e9,e15,C1,hlen,e5,C2,A0 (H3.pt 2 rfl),A6 (cs:=[a,b,c,v]) rfl]
    refine Aj R4 ?_
    simp +contextual (disch:=omega) only[go_sem,e1,e3,e4,e9,e15]
    refine hJ _ _ _ ⟨?_,?_,?_,w3,?_,?_⟩
    all_goals first|(simp +contextual (disch:=omega) only[go_sem,e1,e3,e4,e9,e15];done)|skip
    rw[A9a hi]
    have:g kids[i]=[kids[i]]++rowA (objC s.cells o) kids[i].dot:=by rw[← hg];rfl
    rw[this,←List.append_assoc,←List.append_assoc]
    exact H4
   ·clear H e1 e3 e4 e6 e9
    rintro env τ e15 c0 ⟨e1,e4,e9,w1,e3,H⟩
    rw[List.take_length] at H
    have hlen:=(H.sl 0 rfl).len
    simp +contextual (disch:=omega) only[go_sem,c0,e1,e3,e4,e9,e15,hlen]
    exact⟨_,rfl,H.drop1.drop1.drop1⟩
 obtain⟨r,τ,R,h⟩:=key
 exact⟨r,τ,R,h⟩
theorem A1h (s:State) (o:ByteArray) (h:CelR s.cells) (hn:(s.cells.map (·.dot)).Nodup) (hl:Ac s≤1099511627776):∀(f:Nat) (d:Dot),f≤fuel→Adq (objC s.cells o) f d→A4l s o d
 |0,d,hf,ha=>Ww s o d hn hl (ha.le hf) fun c hc=>by
  obtain⟨h1,h2⟩:=List.mem_filter.1 hc
  exact absurd (by simpa [Ce] using h2) (ha c h1)
 |f+1,d,hf,ha=>Ww s o d hn hl (ha.le hf) fun c hc=>by
  obtain⟨h1,h2⟩:=List.mem_filter.1 hc
  exact A1h s o h hn hl f c.dot (by omega) (ha c h1 (by simpa [Ce] using h2))
theorem Pr (σ:St) (cs:List GV) (s:State) (hR:A8.R σ s cs) (o:ByteArray) (hok:B7 s=true) (hl:Ac s≤1099511627776):∃ r τ,Ret Tryz.prog Wu [.agg cs,.str o] σ r τ∧Hp σ τ [ow Ai.kd r (rowC s o)]:=by
 have hc:=Kp hok
 have hn:=hc.nd
 have hb:=Li hc o
 have hlen:=A8.len hR
 have hlen:cs.length=4:=hlen
 refine Cv A4k (Z0z rfl) ?_
 have H:=((Hp.refl σ).new 1 cs).nil_Cell
 simp +contextual (disch:=omega) only[go_sem,Wv,A0j,Rt,A6 hlen]
 obtain⟨w,τ,R,H1⟩:=A1h s o hc hn hl fuel ⟨0,0⟩ (Nat.le_refl _) (Yw hc o).1 σ _ cs _ 0 _ [] hR H rfl (by unfold rowC at hb;simp only[List.length_nil];omega)
 refine Aj R ?_
 simp +contextual (disch:=omega) only[go_sem]
 exact⟨_,rfl,by rw[rowC];exact H1.one⟩
end
section
open Go Go.RowKit
theorem Ps {α:Type} [DecidableEq α] (x:α):∀(a:α) (l:List α),Bd (a::l++[x])=if(a::l).getLast (by simp)=x then Bd (a::l) else Bd (a::l)++[x]
 |a,[]=>by
  by_cases h:a=x
  ·simp[Bd,h]
  ·simp[Bd,h]
 |a,b::r=>by
  have ih:=Ps x b r
  have e:a::b::r++[x]=a::b::(r++[x]):=rfl
  have e2:b::r++[x]=b::(r++[x]):=rfl
  rw[e2] at ih
  rw[e]
  have hc:∀(u v:α) (t:List α),Bd (u::v::t)=if u=v then Bd (v::t) else u::Bd (v::t):=fun u v t=>rfl
  rw[hc a b (r++[x]),hc a b r,ih]
  rw[show (a::b::r).getLast (by simp)=(b::r).getLast (by simp) from rfl]
  by_cases h1:a=b
  ·simp[h1]
  ·rw[if_neg h1,if_neg h1]
   split<;>simp
theorem Pt {α:Type} [DecidableEq α] {l:List α} {i:Nat} (h0:0<i) (hi:i<l.length):Bd (l.take (i+1))=if l[i - 1]=l[i] then Bd (l.take i) else Bd (l.take i)++[l[i]]:=by
 rw[List.take_succ_eq_append_getElem hi]
 cases l with
 |nil=>simp at hi
 |cons a t=>
  obtain⟨j,rfl⟩:∃ j,i=j+1:=⟨i - 1,by omega⟩
  rw[List.take_succ_cons,Ps]
  have:(a::t.take j).getLast (by simp)=(a::t)[j+1 - 1]:=by
   rw[List.getLast_eq_getElem]
   have hl:(a::t.take j).length - 1=j:=by simp at hi ⊢;omega
   simp only[hl,Nat.add_sub_cancel]
   cases j with
   |zero=>rfl
   |succ j=>simp
  rw[this]
structure Eqs {α:Type} [Inhabited α] [DecidableEq α] (e:El α) where
 eq:∀ x y,binG .eql (e.val x) (e.val y)=some (.bool (decide (x=y)))
 ne:∀ x y,binG .neq (e.val x) (e.val y)=some (.bool (!decide (x=y)))
 ze:List GV
 hze:ze.length=e.p.z
section
variable {α:Type} [Inhabited α] {e:El α} {σ0 σ τ:St} {rs:List Thg} {v:GV} {l:List α}
theorem El.atL (e:El α) (H:Hp σ τ rs) (k:Nat) (hk:rs[k]? =some (ow e.p.kd v l)) {j:Nat} (hj:j<l.length):iadG e.p.z v (some j)=some (atz e.p.z v j)∧ldG e.g e.p.z τ (atz e.p.z v j)=some (e.val l[j]):=by
 have h:=e.at (d:=l.toArray) H k (by simpa using hk) (j:=j) (by simpa using hj)
 have e1:l.toArray[j]! =l[j]:=by rw[getElem!_pos l.toArray j (by simpa using hj)];simp
 rw[e1] at h
 exact h
theorem A4m (H:Hp σ τ rs) (k:Nat) (hk:rs[k]? =some (ow e.p.kd v l)) (hl:l≠[]):∃ g off,v= .sl g off l.length∧zOk τ e.p.z v=true:=by
 obtain⟨a,hO,-⟩:=H.see hk
 rcases OS.flat.1 hO with⟨h,_⟩|⟨g,pre,post,rfl,hB,rfl⟩
 ·exact absurd h hl
 ·refine⟨g,pre.length,rfl,?_⟩
  simp[zOk,Bc.1 hB]
theorem clrRow (H:Hp σ τ rs) (k:Nat) {g off:Nat} (hk:rs[k]? =some (ow e.p.kd (.sl g off l.length) l)) (ze:List GV) (hze:ze.length=e.p.z) {m:Nat} (hm:m≤l.length) (hm0:0<m):
  ∃ τ',clrG e.p.z ze τ (.sl g (off+m*e.p.z) (l.length - m))=some (.tup [],τ')∧τ'.length=τ.length∧Hp σ τ' (rs.set k (ow e.p.kd (.sl g off m) (l.take m))):=by
 obtain⟨a,hO,hnd,hbd,ht⟩:=(H.pick k hk).turn
 have hkl:=(List.getElem?_eq_some_iff.1 hk).1
 rcases OS.flat.1 hO with⟨rfl,h2,_⟩|⟨g',pre,post,hv,hB,rfl⟩
 ·cases h2
 ·injection hv with hg ho _
  subst hg ho
  have hcl:e.p.cells l=e.p.cells (l.take m)++e.p.cells (l.drop m):=by
   rw[← Pl.cells_append,List.take_append_drop]
  by_cases h0:l.length - m=0
  ·refine⟨τ,by show(if l.length - m=0 then _ else _)=_;rw[if_pos h0],rfl,?_⟩
   have hml:m=l.length:=by omega
   subst hml
   rw[List.take_length]
   exact Hp.unpick (ht (a':=[g]) ⟨by simp,fun g' h=>.inl h,by simp,fun _ _ _=>rfl⟩ hO) hkl
  ·have hlt:=(hbd g List.mem_cons_self).2
   have hL1:(e.p.cells (l.take m)).length=m*e.p.z:=by rw[Pl.cells_length,List.length_take];congr 1;omega
   have hL2:(e.p.cells (l.drop m)).length=(l.length - m)*e.p.z:=by rw[Pl.cells_length,List.length_drop]
   have hR:(reps (l.length - m) ze).length=(l.length - m)*e.p.z:=by rw[Iu,hze]
   have hsp:Al (pre++e.p.cells l++post) (pre.length+m*e.p.z) (reps (l.length - m) ze)=pre++e.p.cells (l.take m)++(reps (l.length - m) ze++post):=by
    rw[hcl]
    unfold Al
    have t1:(pre++(e.p.cells (l.take m)++e.p.cells (l.drop m))++post).take (pre.length+m*e.p.z)=pre++e.p.cells (l.take m):=by
     have:pre++(e.p.cells (l.take m)++e.p.cells (l.drop m))++post=(pre++e.p.cells (l.take m))++(e.p.cells (l.drop m)++post):=by simp
     rw[this]
     exact List.take_left' (by simp[hL1])
    have t2:(pre++(e.p.cells (l.take m)++e.p.cells (l.drop m))++post).drop (pre.length+m*e.p.z+(reps (l.length - m) ze).length)=post:=by
     exact List.drop_left' (by simp[hL1,hL2,hR];omega)
    rw[t1,t2];simp
   refine⟨τ.set g (some (.row e.p.z (pre++e.p.cells (l.take m)++(reps (l.length - m) ze++post)))),?_,by simp,?_⟩
   ·show(if l.length - m=0 then _ else _)=_
    rw[if_neg h0,Bc.1 hB]
    show(if _ then _ else _)=_
    rw[if_pos ⟨rfl,by simp[hcl,hL1,hL2,hR];omega⟩,hsp]
   ·refine Hp.unpick (ht (a':=[g]) ⟨by simp,fun g' h=>.inl h,by simp,fun g' h h'=>Fv fun e=>h' (by rw[e];exact List.mem_cons_self)⟩ (OS.flat.2 (.inr ⟨g,pre,_,?_,Bc.2 (by rw[List.getElem?_set_self hlt]),rfl⟩))) hkl
    rw[List.length_take,Nat.min_eq_left hm]
theorem cutLo {z g off n k:Nat} (h:k≤n):cutG z (.sl g off n) (some (gi (k:Nat))) none=some (.sl g (off+k*z) (n - k)):=by
 simp[cutG,bndG,A2,h]
theorem cutHi {z g off n k:Nat} (h:k≤n):cutG z (.sl g off n) none (some (gi (k:Nat)))=some (.sl g off k):=by
 simp[cutG,bndG,A2,h]
theorem Abv {z g off n k j:Nat} (h:k+j<n):iadG z (.sl g (off+k*z) (n - k)) (some j)=some (atz z (.sl g off n) (k+j)):=by
 have:j<n - k:=by omega
 simp only[iadG,atz,Nat.add_mul]
 simp[this,Nat.add_assoc]
set_option maxHeartbeats 2000000 in
theorem A4n [DecidableEq α] (E:Eqs e) {nC:Nat} (hC:A5 Tryz.prog nC=some (Na e.p.z e.g E.ze)) (H:Hp σ0 σ rs) (k:Nat) (hk:rs[k]? =some (ow e.p.kd v l)) (hl:l.length≤1099511627776):∃ v' τ,Ret Tryz.prog nC [v] σ v' τ∧Hp σ0 τ (rs.set k (ow e.p.kd v' (Bd l))):=by
 have key:∃ r τ,Ret Tryz.prog nC [v] σ r τ∧Hp σ0 τ (rs.set k (ow e.p.kd r (Bd l))):=by
  refine Ao hC (Z0z rfl) ?_
  have hlen:=(H.sl k hk).len
  have hkl:=(List.getElem?_eq_some_iff.1 hk).1
  rcases Nat.lt_or_ge l.length 2 with h2|h2
  ·have c0:decide ((l.length:Int)<2)=true:=by simp;omega
   simp +contextual (maxSteps:=600000) (disch:=omega) only[go_sem,Na,hlen,c0]
   have hcl:Bd l=l:=by
    match l,h2 with
    |[],_=>rfl
    |[x],_=>rfl
   rw[hcl]
   exact⟨_,rfl,by rw[← (List.getElem?_eq_some_iff.1 hk).2,List.set_getElem_self];exact H⟩
  ·have c0:decide ((l.length:Int)<2)=false:=by simp;omega
   have hne:l≠[]:=fun h=>by rw[h] at h2;simp at h2
   obtain⟨g,off,rfl,hz0⟩:=A4m H k hk hne
   simp +contextual (maxSteps:=600000) (disch:=omega) only[go_sem,Na,hlen,c0]
   have Hs:Hp σ0 σ (rs.set k (ow e.p.kd (.sl g off l.length) l)):=by rw[← (List.getElem?_eq_some_iff.1 hk).2,List.set_getElem_self];exact H
   refine C5 (fun n env τ=>∃ i:Nat,env 0= .sl g off l.length∧env 3=gi i∧l.length - i=n∧0<i∧i≤l.length∧σ=τ∧Bd (l.take i)=l.take i) (l.length - 1) ⟨1,rfl,rfl,rfl,by omega,by omega,rfl,by
    match l,h2 with
    |x::t,_=>simp[Bd]⟩ ?_
   rintro J hJ n env τ ⟨i,e0,e3,hn,hi0,hi,rfl,hT⟩
   rcases Nat.lt_or_ge i l.length with hlt|hge
   ·have c1:decide ((i:Int)<l.length)=true:=by simp;omega
    have i1:(i:Int) - 1=((i - 1:Nat):Int):=by omega
    obtain⟨a1,b1⟩:=e.atL H k hk hlt
    obtain⟨a2,b2⟩:=e.atL H k hk (j:=i - 1) (by omega)
    have hS:=Pt hi0 hlt
    by_cases hE:l[i]=l[i - 1]
    ·rw[if_pos hE.symm] at hS
     have dE:decide (l[i]=l[i - 1])=true:=decide_eq_true hE
     simp +contextual (maxSteps:=600000) (disch:=omega) only[go_sem,e0,e3,hlen,c1,i1,A2,a1,b1,a2,b2,E.eq,dE,hz0,cutLo hi,Option.map_none,Option.map_some]
     refine C5 (fun n env τ=>∃(j m:Nat) (D:List α),env 0= .sl g off l.length∧env 4= .sl g (off+i*e.p.z) (l.length - i)∧env 3=gi m∧env 5=gi j∧l.length - i - j=n∧0<j∧i+j≤l.length∧i≤m∧m+1≤i+j∧D.length=l.length∧(∀ q (h1:q<D.length) (h2:q<l.length),i+j≤q+1→D[q]=l[q])∧Bd (l.take (i+j))=D.take m∧σ.length≤τ.length∧Hp σ0 τ (rs.set k (ow e.p.kd (.sl g off l.length) D))) (l.length - i - 1) ⟨1,i,l,by simp +contextual (maxSteps:=600000) (disch:=omega) only[go_sem,e0],by simp +contextual (maxSteps:=600000) (disch:=omega) only[go_sem,e0],by simp +contextual (maxSteps:=600000) (disch:=omega) only[go_sem,e3],rfl,rfl,by omega,by omega,Nat.le_refl _,by omega,rfl,fun q h1 h2 _=>rfl,by rw[hS,hT],Nat.le_refl _,Hs⟩ ?_
     clear e0 e3
     rintro J2 hJ2 n2 env τ ⟨j,m,D,e0,e4,e3,e5,hn2,hj0,hij,hm1,hm2,hD,hA,hT2,hle,hH⟩
     have hkk:(rs.set k (ow e.p.kd (.sl g off l.length) D))[k]? =some (ow e.p.kd (.sl g off l.length) D):=by rw[List.getElem?_set_self hkl]
     have hlen2:=(hH.sl k hkk).len
     have hlen2:lenG false (.sl g off l.length)=some (l.length:Int):=hlen
     have hlen3:lenG false (.sl g (off+i*e.p.z) (l.length - i))=some ((l.length - i:Nat):Int):=rfl
     have hDne:D≠[]:=fun h=>by rw[h] at hD;simp at hD;omega
     have hz1:zOk τ e.p.z (.sl g off l.length)=true:=by
      obtain⟨g',off',hv,hz⟩:=A4m hH k hkk hDne
      exact hz
     rcases Nat.lt_or_ge (i+j) l.length with hlt2|hge2
     ·have c2:decide ((j:Int)<((l.length - i:Nat):Int))=true:=by simp;omega
      have j1:(j:Int) - 1=((j - 1:Nat):Int):=by omega
      have x1:=Abv (z:=e.p.z) (g:=g) (off:=off) (n:=l.length) (k:=i) (j:=j) hlt2
      have x2:=Abv (z:=e.p.z) (g:=g) (off:=off) (n:=l.length) (k:=i) (j:=j - 1) (by omega)
      obtain⟨-,b1⟩:=e.atL hH k hkk (j:=i+j) (by omega)
      obtain⟨-,b2⟩:=e.atL hH k hkk (j:=i+(j - 1)) (by omega)
      obtain⟨a3,-⟩:=e.atL hH k hkk (j:=m) (by omega)
      rw[hA (i+j) (by omega) hlt2 (by omega)] at b1
      rw[hA (i+(j - 1)) (by omega) (by omega) (by omega)] at b2
      have hS2:=Pt (l:=l) (i:=i+j) (by omega) hlt2
      have hix:i+j - 1=i+(j - 1):=by omega
      by_cases hE2:l[i+j]=l[i+(j - 1)]
      ·rw[if_pos (by simp only[hix];exact hE2.symm),hT2] at hS2
       have dE:decide (l[i+j]=l[i+(j - 1)])=true:=decide_eq_true hE2
       simp +contextual (maxSteps:=600000) (disch:=omega) only[go_sem,e0,e3,e4,e5,hlen3,c2,j1,A2,x1,x2,b1,b2,E.ne,dE]
       refine⟨l.length - i - (j+1),by omega,hJ2 _ _ _ ⟨j+1,m,D,?_,?_,?_,?_,rfl,by omega,by omega,hm1,by omega,hD,fun q h1 h2 h3=>hA q h1 h2 (by omega),hS2,hle,hH⟩⟩
       all_goals simp +contextual (maxSteps:=600000) (disch:=omega) only[go_sem,e0,e3,e4,e5]
      ·rw[if_neg (by simp only[hix];exact fun h=>hE2 h.symm),hT2] at hS2
       have dE:decide (l[i+j]=l[i+(j - 1)])=false:=decide_eq_false hE2
       obtain⟨τ3,s3,H3⟩:=hH.stw k hkk (j:=m) (by omega) e.p.z (e.val l[i+j]) l[i+j] (e.hc _) rfl e.hz
       rw[List.set_set] at H3
       simp +contextual (maxSteps:=600000) (disch:=omega) only[go_sem,e0,e3,e4,e5,hlen3,c2,j1,A2,x1,x2,b1,b2,E.ne,dE,a3,s3]
       have:=Bq s3
       refine⟨l.length - i - (j+1),by omega,hJ2 _ _ _ ⟨j+1,m+1,D.set m l[i+j],?_,?_,?_,?_,rfl,by omega,by omega,by omega,by omega,by simpa using hD,fun q h1 h2 h3=> ?_,?_,by omega,H3⟩⟩
       all_goals first|(simp +contextual (maxSteps:=600000) (disch:=omega) only[go_sem,e0,e3,e4,e5];done)|skip
       ·rw[List.getElem_set_ne (by omega)]
        exact hA q (by simpa using h1) h2 (by omega)
       ·have e9:i+(j+1)=i+j+1:=by omega
        rw[e9,hS2,List.take_succ_eq_append_getElem (by simp;omega),List.getElem_set_self,List.take_set_of_le (Nat.le_refl _)]
     ·have c2:decide ((j:Int)<((l.length - i:Nat):Int))=false:=by simp;omega
      have hfull:i+j=l.length:=by omega
      rw[hfull,List.take_length] at hT2
      rw[← hD] at hkk
      obtain⟨τ3,s3,hl3,H3⟩:=clrRow hH k (by rw[hD];rw[hD] at hkk;exact hkk) E.ze E.hze (m:=m) (by omega) (by omega)
      rw[hD] at s3
      rw[List.set_set,←hT2] at H3
      have hcne:Bd l≠[]:=fun h=>by
       have h9:=congrArg List.length hT2
       rw[h,List.length_take] at h9
       simp at h9;omega
      have hz3:zOk τ3 e.p.z (.sl g off l.length)=true:=by
       obtain⟨g',off',hv,hz⟩:=A4m H3 k (by rw[List.getElem?_set_self hkl]) hcne
       exact hz
      simp +contextual (maxSteps:=600000) (disch:=omega) only[go_sem,e0,e3,e4,e5,hlen3,c2,hz1,hz3,cutLo (show m≤l.length by omega),cutHi (show m≤l.length by omega),s3,Option.map_none,Option.map_some]
      exact⟨_,rfl,by omega,H3⟩
    ·rw[if_neg (fun h=>hE h.symm),hT] at hS
     have dE:decide (l[i]=l[i - 1])=false:=decide_eq_false hE
     simp +contextual (maxSteps:=600000) (disch:=omega) only[go_sem,e0,e3,hlen,c1,i1,A2,a1,b1,a2,b2,E.eq,dE]
     refine⟨l.length - (i+1),by omega,hJ _ _ _ ⟨i+1,?_,?_,rfl,by omega,by omega,rfl,by rw[hS,List.take_succ_eq_append_getElem hlt]⟩⟩
     all_goals simp +contextual (maxSteps:=600000) (disch:=omega) only[go_sem,e0,e3]
   ·have c1:decide ((i:Int)<l.length)=false:=by simp;omega
    simp +contextual (maxSteps:=600000) (disch:=omega) only[go_sem,e0,e3,hlen,c1]
    have:i=l.length:=by omega
    rw[this,List.take_length] at hT
    exact⟨_,rfl,by rw[hT];exact Hs⟩
 obtain⟨r,τ,R,h⟩:=key
 exact⟨r,τ,R,h⟩
end
end
section
open Go Go.RowKit
abbrev T7:Nat:=289
def T8:Fn1:=⟨82,[.t 4],(.seq (.reg [o 2 (.box (.t 0)),o 4 (.mov (.k .nilS))]) (.seq (.reg [o 12 (.lit 2 0 [] []),o 5 (.mov (.t 12))]) (.seq (.seq (.reg [o 13 (.ld true 4 (.t 2)),o 14 (.call 195 [(.t 13)]),o 15 (.un .not (.t 14))]) (.cnd (.t 15) (.seq (.reg [o 16 (.mov (.t 5)),o 4 (.mov (.t 16))]) .ret) .skip)) (.seq (.reg [o 17 (.lit 8 0 [] []),o 6 (.mov (.t 17))]) (.seq (.seq (.reg [o 18 (.fad 3 (.t 2)),o 19 (.ld false 1 (.t 18)),o 20 (.len false (.t 19)),o 21 (.mov (.k (.int .i64 0)))]) (.blk 0 (.lop (.seq (.reg [o 22 (.bin .lss (.t 21) (.t 20))]) (.seq (.cnd (.t 22) .skip (.ext 0)) (.seq (.blk 1 (.seq (.reg [o 23 (.iad 8 (.t 19) (.t 21)),o 24 (.ld true 8 (.t 23)),o 8 (.new [(.str ⟨#[]⟩),(.int .i64 0),(.int .i64 0),(.int .i64 0),(.int .i64 0),(.int .i64 0),(.int .i64 0),(.bool false)]),on (.st 8 (.t 8) (.t 24))]) (.seq (.reg [o 25 (.fad 0 (.t 8)),o 26 (.ld false 1 (.t 25)),o 27 (.mov (.t 1)),o 28 (.bin .eql (.t 26) (.t 27))]) (.cnd (.t 28) (.reg [o 29 (.mov (.t 6)),o 30 (.ld true 8 (.t 8)),o 31 (.lit 8 1 [(.str ⟨#[]⟩),(.int .i64 0),(.int .i64 0),(.int .i64 0),(.int .i64 0),(.int .i64 0),(.int .i64 0),(.bool false)] [(0,8,(.t 30))]),o 32 (.app 8 72 [(.str ⟨#[]⟩),(.int .i64 0),(.int .i64 0),(.int .i64 0),(.int .i64 0),(.int .i64 0),(.int .i64 0),(.bool false)] (.t 29) (.t 31)),o 6 (.mov (.t 32))]) .skip)))) (.reg [o 33 (.bin .add (.t 21) (.k (.int .i64 1))),o 21 (.mov (.t 33))]))))))) (.seq (.reg [o 34 (.mov (.t 6)),o 35 (.call 360 [(.t 34),(.k (.fn 361 []))])]) (.seq (.reg [o 36 (.build [(.int .i64 0),(.int .i64 0)] []),o 37 (.lit 2 1 [(.int .i64 0),(.int .i64 0)] [(0,2,(.t 36))]),o 9 (.mov (.t 37))]) (.seq (.blk 2 (.lop (.seq (.seq (.reg [o 38 (.mov (.t 9)),o 39 (.len false (.t 38)),o 40 (.bin .gtr (.t 39) (.k (.int .i64 0)))]) (.cnd (.t 40) .skip (.ext 2))) (.blk 3 (.seq (.reg [o 41 (.mov (.t 9)),o 42 (.mov (.t 9)),o 43 (.len false (.t 42)),o 44 (.bin .sub (.t 43) (.k (.int .i64 1))),o 45 (.iad 2 (.t 41) (.t 44)),o 46 (.ld true 2 (.t 45)),o 10 (.new [(.int .i64 0),(.int .i64 0)]),on (.st 2 (.t 10) (.t 46))]) (.seq (.reg [o 47 (.mov (.t 9)),o 48 (.mov (.t 9)),o 49 (.len false (.t 48)),o 50 (.bin .sub (.t 49) (.k (.int .i64 1))),o 51 (.cut 2 (.t 47) none (some (.t 50))),o 9 (.mov (.t 51))]) (.seq (.seq (.reg [o 52 (.ld true 2 (.t 10)),o 53 (.build [(.int .i64 0),(.int .i64 0)] []),o 54 (.eqs true [.i .i64,.i .i64] (.t 52) (.t 53))]) (.cnd (.t 54) (.reg [o 55 (.mov (.t 5)),o 56 (.ld true 2 (.t 10)),o 57 (.lit 2 1 [(.int .i64 0),(.int .i64 0)] [(0,2,(.t 56))]),o 58 (.app 2 16 [(.int .i64 0),(.int .i64 0)] (.t 55) (.t 57)),o 5 (.mov (.t 58))]) .skip)) (.seq (.reg [o 59 (.mov (.t 6)),o 60 (.len false (.t 59)),o 61 (.bin .sub (.t 60) (.k (.int .i64 1))),o 11 (.mov (.t 61))]) (.blk 4 (.lop (.seq (.seq (.reg [o 62 (.mov (.t 11)),o 63 (.bin .geq (.t 62) (.k (.int .i64 0)))]) (.cnd (.t 63) .skip (.ext 4))) (.seq (.blk 5 (.seq (.drw [o 66 (.mov (.t 6)),o 67 (.mov (.t 11)),o 68 (.iad 8 (.t 66) (.t 67)),o 69 (.fad 4 (.t 68)),o 70 (.ld true 2 (.t 69)),o 71 (.ld true 2 (.t 10))] [o 72 (.eqs false [.i .i64,.i .i64] (.t 70) (.t 71))]) (.cnd (.t 72) (.reg [o 73 (.mov (.t 9)),o 74 (.mov (.t 6)),o 75 (.mov (.t 11)),o 76 (.iad 8 (.t 74) (.t 75)),o 77 (.fad 1 (.t 76)),o 78 (.ld true 2 (.t 77)),o 79 (.lit 2 1 [(.int .i64 0),(.int .i64 0)] [(0,2,(.t 78))]),o 80 (.app 2 16 [(.int .i64 0),(.int .i64 0)] (.t 73) (.t 79)),o 9 (.mov (.t 80))]) .skip))) (.reg [o 64 (.mov (.t 11)),o 65 (.bin .sub (.t 64) (.k (.int .i64 1))),o 11 (.mov (.t 65))]))))))))))))) (.seq (.reg [o 81 (.mov (.t 5)),o 4 (.mov (.t 81))]) .ret)))))))))⟩
theorem A1i:A5 Tryz.prog T7=some T8:=by kernel_rfl
theorem Aax {l:List Cell} {o:ByteArray} {i:Nat} (hi:i<l.length):(l.take (i+1)).filter (If o)=if If o l[i] then(l.take i).filter (If o)++[l[i]] else(l.take i).filter (If o):=by
 rw[Do hi]
 split<;>simp
theorem A9b {l:List Cell} (d:Dot) {j:Nat} (hj:j<l.length):((l.drop j).filter (Ce d))=if Ce d l[j] then l[j]::(l.drop (j+1)).filter (Ce d) else(l.drop (j+1)).filter (Ce d):=by
 rw[List.drop_eq_getElem_cons hj,List.filter_cons]
theorem Hp.popDot {σ τ:St} {rs:List Thg} {v:GV} {S:List Dot} {d:Dot} (H:Hp σ τ rs) (k:Nat) (hk:rs[k]? =some (ow pDot.kd v (S++[d]))):∃ g off,v= .sl g off (S.length+1)∧zOk τ 2 v=true∧Hp σ τ (rs.set k (ow pDot.kd (.sl g off S.length) S)):=by
 obtain⟨a,hO,hnd,hbd,ht⟩:=(H.pick k hk).turn
 have hkl:=(List.getElem?_eq_some_iff.1 hk).1
 rcases OS.flat.1 hO with⟨h,_⟩|⟨g,pre,post,rfl,hB,rfl⟩
 ·simp at h
 ·refine⟨g,pre.length,by simp,?_,?_⟩
  ·have:zOk τ 2 (.sl g pre.length (S++[d]).length)=true:=by simp[zOk,Bc.1 hB];rfl
   exact this
  ·refine Hp.unpick (ht (a':=[g]) ⟨by simp,fun g' h=>.inl h,by simp,fun _ _ _=>rfl⟩ (OS.flat.2 (.inr ⟨g,pre,pDot.cells [d]++post,rfl,?_,rfl⟩))) hkl
   rw[hB,Pl.cells_append];simp
theorem Ok {P:Program} {a:Cd} {Q:Ex→Env→St→Prop} {env:Env} {σ:St} (I:Nat→Env→St→Prop) (n j0:Nat) (X:Env→St→Prop) (h0:I n env σ)
  (hs:∀(J:Nat→Env→St→Prop) (Y:Env→St→Prop),(∀ k env σ,I k env σ→J k env σ)→(∀ env σ,X env σ→Y env σ)→∀ k env σ,I k env σ→vc P a (fun e env' σ'=>match e with| .nxt=>∃ k',k'<k∧J k' env' σ'| .ext j=>j=j0∧Y env' σ'| .ret=>False) env σ)
  (hx:∀ env σ,X env σ→Q (.ext j0) env σ):vc P (.lop a) Q env σ:=by
 refine Oz I n h0 fun k env σ hI=>Av (hs I X (fun _ _ _ h=>h) (fun _ _ h=>h) k env σ hI) fun e env' σ' he=> ?_
 cases e with
 |nxt=>exact he
 |ret=>exact he.elim
 |ext j=>obtain⟨rfl,he⟩:=he;exact hx _ _ he
set_option maxHeartbeats 4000000 in
theorem Z0 (σ:St) (cs:List GV) (s:State) (hR:A8.R σ s cs) (o:ByteArray) (hl:Ac s≤1099511627776):∃ r τ,Ret Tryz.prog T7 [.agg cs,.str o] σ r τ∧Hp σ τ [ow pDot.kd r (rowD s o)]:=by
 have hR0:=hR
 obtain⟨a,b,c,v,rfl,_,_,_,hc⟩:=hR
 obtain⟨l1,l2,l3,l4,_⟩:=Am hl
 refine Cv A1i (Z0z rfl) ?_
 have H:=((Hp.refl σ).new 1 [a,b,c,v]).nil_Dot
 simp +contextual (disch:=omega) only[go_sem,T8,A0j,Rt,A6 (cs:=[a,b,c,v]) rfl]
 refine A9 (N2 _ _ s (A8.pre hR0 H.sub) hl) (fun hok=> ?_) (fun hok=> ?_)
 rotate_left
 ·have e:rowD s o=[]:=by simp[rowD,hok]
  simp +contextual (disch:=omega) only[go_sem]
  exact⟨_,rfl,by rw[e];exact H.one⟩
 have e:rowD s o=(rowC s o).map (·.dot):=by simp[rowD,hok]
 have hcr:=Kp hok
 have hbd:=Li hcr o
 have hnd:=hcr.nd
 rw[e]
 have H:=H.nil_Cell
 simp +contextual (disch:=omega) only[go_sem,A0 (H.pt 2 rfl),hc.len]
 generalize hn1:σ.length=n1 at*
 refine Fm s.cells.length 21 0 (fun i env τ=>env 1= .str o∧env 19=v∧env 20=gi s.cells.length∧∃ u w,env 5=u∧env 6=w∧Hp σ τ [ow Ai.kd w ((s.cells.take i).filter (If o)),ow pDot.kd u [],pt 1 n1 [a,b,c,v]]) (fun env τ=>∃ u w,env 5=u∧env 6=w∧Hp σ τ [ow Ai.kd w (s.cells.filter (If o)),ow pDot.kd u [],pt 1 n1 [a,b,c,v]]) rfl ⟨rfl,rfl,rfl,_,_,rfl,rfl,H⟩ ?_ ?_ ?_
 ·clear H
  rintro J Y hJ hY i env τ hi e21 c0 ⟨e1,e19,e20,u,w,e5,e6,H⟩
  have C1:=A4 (hc.pre H.sub) hi
  have hfl:=Cc s.cells (If o) i
  have hsn:=Aax (o:=o) hi
  have G:=H.grow (pre1 τ (some (Blk.row 1 (Lq s.cells[i]))))
  cases ho:decide (s.cells[i].obj=o) with
  |false=>
   have hk0:If o s.cells[i]=false:=ho
   rw[hk0,if_neg (by simp)] at hsn
   simp +contextual (disch:=omega) only[go_sem,c0,e1,e5,e6,e19,e20,e21,C1,ho]
   refine hJ _ _ _ ⟨?_,?_,?_,u,w,?_,?_,by rw[hsn];exact G⟩
   all_goals simp +contextual (disch:=omega) only[go_sem,e1,e5,e6,e19,e20,e21]
  |true=>
   have hk0:If o s.cells[i]=true:=ho
   rw[hk0,if_pos rfl] at hsn
   obtain⟨w',τ3,e8,H3⟩:=G.app_Cell 0 rfl s.cells[i] (by omega)
   simp +contextual (disch:=omega) only[go_sem,c0,e1,e5,e6,e19,e20,e21,C1,ho,e8]
   refine hJ _ _ _ ⟨?_,?_,?_,u,w',?_,?_,by rw[hsn];exact H3⟩
   all_goals simp +contextual (disch:=omega) only[go_sem,e1,e5,e6,e19,e20,e21]
 ·clear H
  rintro Y hY env τ e21 c0 ⟨e1,e19,e20,u,w,e5,e6,H⟩
  rw[List.take_length] at H
  simp +contextual (disch:=omega) only[go_sem,c0,e1,e5,e6,e19,e20,e21]
  refine hY _ _ ⟨u,w,?_,?_,H⟩
  all_goals simp +contextual (disch:=omega) only[go_sem,e5,e6]
 clear H
 rintro env τ ⟨u,w,e5,e6,H⟩
 have hfl:=List.length_filter_le (If o) s.cells
 obtain⟨τ1,R1,H⟩:=Il H 0 rfl (by omega) (hnd.sublist ((List.filter_sublist).map _))
 simp +contextual (disch:=omega) only[go_sem,e5,e6]
 refine Aj R1 ?_
 have H:Hp σ τ1 [ow Ai.kd w (objC s.cells o),ow pDot.kd u [],pt 1 n1 [a,b,c,v]]:=H
 have H:=(H.new 2 [gi 0,gi 0]).toRow (p:=pDot) 0 rfl [⟨0,0⟩] rfl rfl 1 rfl
 have H:Hp σ _ [ow pDot.kd (.sl τ1.length 0 1) [⟨0,0⟩],ow Ai.kd w (objC s.cells o),ow pDot.kd u [],pt 1 n1 [a,b,c,v]]:=H
 simp +contextual (disch:=omega) only[go_sem,e5,e6]
 obtain⟨hz1,hz2⟩:=Yw hcr o
 have hnz:∀ c∈objC s.cells o,c.dot≠⟨0,0⟩:=fun c hcm h0=>by
  have:=hcr.dot c (Lh.1 hcm).1
  rw[h0,Wo] at this;cases this
 have hscl:=Yv s.cells o
 have htot:T5 (objC s.cells o) [⟨0,0⟩]=(rowC s o).map (·.dot):=by
  simp[T5,A1g,isZ,rowC]
 have hM0:Pj (objC s.cells o) [⟨0,0⟩]=1+(rowC s o).length:=by simp[Pj,rowC]
 generalize hT:rowC s o=T at*
 generalize hsc:objC s.cells o=sc at*
 refine Ok (fun n env τ=>∃(ws ud:GV) (S D:List Dot),env 5=ud∧env 6=w∧env 9=ws∧Pj sc S=n∧n≤1+T.length∧(∀ d∈S,Adq sc fuel d)∧D++T5 sc S=T.map (·.dot)∧Hp σ τ [ow pDot.kd ws S,ow Ai.kd w sc,ow pDot.kd ud D,pt 1 n1 [a,b,c,v]]) (1+T.length) 2 (fun env τ=>∃ ud,env 5=ud∧Hp σ τ [ow pDot.kd ud (T.map (·.dot))]) ⟨_,u,[⟨0,0⟩],[],by simp +contextual (disch:=omega) only[go_sem,e5],by simp +contextual (disch:=omega) only[go_sem,e6],rfl,hM0,Nat.le_refl _,fun d hd=>by rw[List.mem_singleton.1 hd];exact hz1,by rw[htot];rfl,H⟩ ?_ ?_
 ·clear H e5 e6
  rintro J Y hJ hY n env τ ⟨ws,ud,S,D,e5,e6,e9,hn,hnT,hA,hE,H⟩
  have hSl:=Wp (sc:=sc) S
  have hDl:=congrArg List.length hE
  simp only[List.length_append,List.length_map] at hDl
  rcases List.eq_nil_or_concat S with rfl|⟨S0,d,rfl⟩
  ·have hlenS:lenG false ws=some 0:=(H.sl 0 rfl).len
   have c0:decide ((0:Int)<0)=false:=rfl
   simp +contextual (disch:=omega) only[go_sem,e5,e6,e9,hlenS,c0]
   refine hY _ _ ⟨ud,?_,?_⟩
   ·simp +contextual (disch:=omega) only[go_sem,e5]
   ·have:D=T.map (·.dot):=by rw[← hE];simp[T5]
    rw[← this]
    exact(H.pick 2 rfl).one
  ·rw[List.concat_eq_append] at*
   have hdA:=hA d (by simp)
   have hlenS:lenG false ws=some ((S0.length:Int)+1):=by
    have:=(H.sl 0 rfl).len
    rw[this];simp
   have c0:decide ((0:Int)<(S0.length:Int)+1)=true:=decide_eq_true (by omega)
   have hl1:(S0.length:Int)+1 - 1=(S0.length:Int):=by omega
   have hSl0:S0.length+1≤1+T.length:=by simp only[List.length_append,List.length_cons,List.length_nil] at hSl;omega
   have C1:=Abn (H.sl 0 rfl) (i:=S0.length) (by simp)
   have hgd:(S0++[d])[S0.length]'(by simp)=d:=by simp
   rw[hgd] at C1
   have hpop:=A78 (S:=S0) hdA hnz
   have hmp:=A79 (S:=S0) hdA
   rw[hpop] at hE
   rw[hmp] at hn
   have hA2:∀ x∈S0++((sc.filter (Ce d)).map (·.dot)).reverse,Adq sc fuel x:=fun x hx=>by
    rcases List.mem_append.1 hx with h|h
    ·exact hA x (by simp[h])
    ·obtain⟨y,hy,rfl⟩:=List.mem_map.1 (List.mem_reverse.1 h)
     exact hz2 y (List.mem_filter.1 hy).1
   obtain⟨g,off,rfl,hzk,HN⟩:=(H.new 1 [gi d.rep,gi d.seq]).popDot 1 rfl
   have HN:Hp σ _ [pt 1 τ.length [gi d.rep,gi d.seq],ow pDot.kd (.sl g off S0.length) S0,ow Ai.kd w sc,ow pDot.kd ud D,pt 1 n1 [a,b,c,v]]:=HN
   have hcut:=cutHi (z:=2) (g:=g) (off:=off) (n:=S0.length+1) (k:=S0.length) (by omega)
   have hlenC:=(HN.sl 2 rfl).len
   have hlD:=(HN.pt 0 rfl)
   cases hz:decide (d=⟨0,0⟩) with
   |true=>
    have hse:A1g d=[]:=by unfold A1g;rw[if_pos (show isZ d=true from hz)]
    rw[hse,List.nil_append] at hE
    simp +contextual (disch:=omega) only[go_sem,e5,e6,e9,hlenS,c0,hl1,A2,C1,hzk,hcut,A0 hlD,hz,hlenC,Option.map_none,Option.map_some]
    generalize hnb:τ.length=nb at*
    refine Ok (fun n env τ=>∃(m:Nat) (wz:GV),env 5=ud∧env 6=w∧env 9=wz∧env 10= .ptr nb 0∧env 11=gi ((m:Int) - 1)∧m=n∧m≤sc.length∧Hp σ τ [pt 1 nb [gi d.rep,gi d.seq],ow pDot.kd wz (S0++(((sc.drop m).filter (Ce d)).map (·.dot)).reverse),ow Ai.kd w sc,ow pDot.kd ud D,pt 1 n1 [a,b,c,v]]) sc.length 4 (fun env τ=>∃(wz:GV),env 5=ud∧env 6=w∧env 9=wz∧Hp σ τ [pt 1 nb [gi d.rep,gi d.seq],ow pDot.kd wz (S0++((sc.filter (Ce d)).map (·.dot)).reverse),ow Ai.kd w sc,ow pDot.kd ud D,pt 1 n1 [a,b,c,v]]) ⟨sc.length,.sl g off S0.length,by simp +contextual (disch:=omega) only[go_sem,e5],by simp +contextual (disch:=omega) only[go_sem,e6],by simp +contextual (disch:=omega) only[go_sem],by simp +contextual (disch:=omega) only[go_sem],by simp +contextual (disch:=omega) only[go_sem],rfl,Nat.le_refl _,by simp only[List.drop_length,List.filter_nil,List.map_nil,List.reverse_nil,List.append_nil];exact HN⟩ ?_ ?_
    ·clear H HN e5 e6 e9 hlD hzk
     rintro J2 Y2 hJ2 hY2 n2 env τ ⟨m,wz,e5,e6,e9,e10,e11,hn2,hm,HN⟩
     have hfd:=List.length_filter_le (Ce d) (sc.drop m)
     rw[List.length_drop] at hfd
     cases m with
     |zero=>
      have e11:env 11=gi (-1):=e11
      have c1:decide ((0:Int)≤ -1)=false:=rfl
      rw[List.drop_zero] at HN
      simp +contextual (disch:=omega) only[go_sem,e5,e6,e9,e10,e11,c1]
      refine hY2 _ _ ⟨wz,?_,?_,?_,HN⟩
      all_goals simp +contextual (disch:=omega) only[go_sem,e5,e6,e9]
     |succ j=>
      have e11:env 11=gi (j:Int):=by rw[e11];congr 1;omega
      have c1:decide ((0:Int)≤j)=true:=by simp
      have C2:=A4 (HN.sl 2 rfl) (i:=j) (by omega)
      have hdr:=A9b d (l:=sc) (j:=j) (by omega)
      cases hr:decide (sc[j].ref=d) with
      |false=>
       have hk0:Ce d sc[j]=false:=hr
       rw[hk0,if_neg (by simp)] at hdr
       simp +contextual (disch:=omega) only[go_sem,e5,e6,e9,e10,e11,c1,A2,C2,A0 (HN.pt 0 rfl),hr]
       refine⟨j,by omega,hJ2 _ _ _ ⟨j,wz,?_,?_,?_,?_,?_,rfl,by omega,by rw[hdr];exact HN⟩⟩
       all_goals simp +contextual (disch:=omega) only[go_sem,e5,e6,e9,e10,e11]
      |true=>
       have hk0:Ce d sc[j]=true:=hr
       rw[hk0,if_pos rfl] at hdr
       obtain⟨w2,τ4,e7,H4⟩:=HN.app_Dot 1 rfl sc[j].dot (by simp only[List.length_append,List.length_reverse,List.length_map];omega)
       simp +contextual (disch:=omega) only[go_sem,e5,e6,e9,e10,e11,c1,A2,C2,A0 (HN.pt 0 rfl),hr,e7]
       refine⟨j,by omega,hJ2 _ _ _ ⟨j,w2,?_,?_,?_,?_,?_,rfl,by omega,?_⟩⟩
       all_goals first|(simp +contextual (disch:=omega) only[go_sem,e5,e6,e9,e10,e11];done)|skip
       rw[hdr,List.map_cons,List.reverse_cons,←List.append_assoc]
       exact H4
    ·clear H HN e5 e6 e9 hlD hzk
     rintro env τ ⟨wz,e5,e6,e9,HN⟩
     simp +contextual (disch:=omega) only[go_sem,e5,e6,e9]
     refine⟨n - 1,by omega,hJ _ _ _ ⟨wz,ud,_,D,?_,?_,?_,by omega,?_,hA2,hE,HN.drop1⟩⟩
     all_goals first|(simp +contextual (disch:=omega) only[go_sem,e5,e6,e9];done)|omega
   |false=>
    have hse:A1g d=[d]:=by unfold A1g;rw[if_neg (by rw[isZ,hz];simp)]
    rw[hse,←List.append_assoc] at hE
    obtain⟨ud2,τ3,e8,HN⟩:=HN.app_Dot 3 rfl d (by omega)
    have HN:Hp σ τ3 [pt 1 τ.length [gi d.rep,gi d.seq],ow pDot.kd (.sl g off S0.length) S0,ow Ai.kd w sc,ow pDot.kd ud2 (D++[d]),pt 1 n1 [a,b,c,v]]:=HN
    generalize hDD:D++[d]=D2 at*
    simp +contextual (disch:=omega) only[go_sem,e5,e6,e9,hlenS,c0,hl1,A2,C1,hzk,hcut,A0 hlD,hz,hlenC,e8,Option.map_none,Option.map_some]
    generalize hnb:τ.length=nb at*
    refine Ok (fun n env τ=>∃(m:Nat) (wz:GV),env 5=ud2∧env 6=w∧env 9=wz∧env 10= .ptr nb 0∧env 11=gi ((m:Int) - 1)∧m=n∧m≤sc.length∧Hp σ τ [pt 1 nb [gi d.rep,gi d.seq],ow pDot.kd wz (S0++(((sc.drop m).filter (Ce d)).map (·.dot)).reverse),ow Ai.kd w sc,ow pDot.kd ud2 D2,pt 1 n1 [a,b,c,v]]) sc.length 4 (fun env τ=>∃(wz:GV),env 5=ud2∧env 6=w∧env 9=wz∧Hp σ τ [pt 1 nb [gi d.rep,gi d.seq],ow pDot.kd wz (S0++((sc.filter (Ce d)).map (·.dot)).reverse),ow Ai.kd w sc,ow pDot.kd ud2 D2,pt 1 n1 [a,b,c,v]]) ⟨sc.length,.sl g off S0.length,by simp +contextual (disch:=omega) only[go_sem,e5],by simp +contextual (disch:=omega) only[go_sem,e6],by simp +contextual (disch:=omega) only[go_sem],by simp +contextual (disch:=omega) only[go_sem],by simp +contextual (disch:=omega) only[go_sem],rfl,Nat.le_refl _,by simp only[List.drop_length,List.filter_nil,List.map_nil,List.reverse_nil,List.append_nil];exact HN⟩ ?_ ?_
    ·clear H HN e5 e6 e9 hlD hzk
     rintro J2 Y2 hJ2 hY2 n2 env τ ⟨m,wz,e5,e6,e9,e10,e11,hn2,hm,HN⟩
     have hfd:=List.length_filter_le (Ce d) (sc.drop m)
     rw[List.length_drop] at hfd
     cases m with
     |zero=>
      have e11:env 11=gi (-1):=e11
      have c1:decide ((0:Int)≤ -1)=false:=rfl
      rw[List.drop_zero] at HN
      simp +contextual (disch:=omega) only[go_sem,e5,e6,e9,e10,e11,c1]
      refine hY2 _ _ ⟨wz,?_,?_,?_,HN⟩
      all_goals simp +contextual (disch:=omega) only[go_sem,e5,e6,e9]
     |succ j=>
      have e11:env 11=gi (j:Int):=by rw[e11];congr 1;omega
      have c1:decide ((0:Int)≤j)=true:=by simp
      have C2:=A4 (HN.sl 2 rfl) (i:=j) (by omega)
      have hdr:=A9b d (l:=sc) (j:=j) (by omega)
      cases hr:decide (sc[j].ref=d) with
      |false=>
       have hk0:Ce d sc[j]=false:=hr
       rw[hk0,if_neg (by simp)] at hdr
       simp +contextual (disch:=omega) only[go_sem,e5,e6,e9,e10,e11,c1,A2,C2,A0 (HN.pt 0 rfl),hr]
       refine⟨j,by omega,hJ2 _ _ _ ⟨j,wz,?_,?_,?_,?_,?_,rfl,by omega,by rw[hdr];exact HN⟩⟩
       all_goals simp +contextual (disch:=omega) only[go_sem,e5,e6,e9,e10,e11]
      |true=>
       have hk0:Ce d sc[j]=true:=hr
       rw[hk0,if_pos rfl] at hdr
       obtain⟨w2,τ4,e7,H4⟩:=HN.app_Dot 1 rfl sc[j].dot (by simp only[List.length_append,List.length_reverse,List.length_map];omega)
       simp +contextual (disch:=omega) only[go_sem,e5,e6,e9,e10,e11,c1,A2,C2,A0 (HN.pt 0 rfl),hr,e7]
       refine⟨j,by omega,hJ2 _ _ _ ⟨j,w2,?_,?_,?_,?_,?_,rfl,by omega,?_⟩⟩
       all_goals first|(simp +contextual (disch:=omega) only[go_sem,e5,e6,e9,e10,e11];done)|skip
       rw[hdr,List.map_cons,List.reverse_cons,←List.append_assoc]
       exact H4
    ·clear H HN e5 e6 e9 hlD hzk
     rintro env τ ⟨wz,e5,e6,e9,HN⟩
     simp +contextual (disch:=omega) only[go_sem,e5,e6,e9]
     refine⟨n - 1,by omega,hJ _ _ _ ⟨wz,ud2,_,D2,?_,?_,?_,by omega,?_,hA2,hE,HN.drop1⟩⟩
     all_goals first|(simp +contextual (disch:=omega) only[go_sem,e5,e6,e9];done)|omega
 ·clear H e5 e6
  rintro env τ ⟨ud,e5,H⟩
  simp +contextual (disch:=omega) only[go_sem,e5]
  exact⟨_,rfl,H⟩
end
section
open Go Go.RowKit
def goneIn (l:List Cell) (obj:ByteArray):Nat:=l.countP fun c=>decide (c.obj=obj)&&c.gone
def refsTo (l:List Cell) (d:Dot):Nat:=l.countP fun c=>decide (c.ref=d)&& !decide (d=⟨0,0⟩)
end
section
open Go Go.RowKit
def mayClr (s:State) (d:Dot) (kn:List Int):Bool:=match Cj s.cells d with
 |some k=>(onI s.cells k fun c=>c.gone)&&(B9 kn d&&decide (refsTo s.cells d=0))
 |none=>false
end
section
open Go Go.RowKit
theorem Hp.ownAct {σ τ:St} {rs:List Thg} {x:Act} {v2:GV} (H:Hp σ τ (ow pI.kd v2 x.knew::rs)):Hp σ τ (own kAct ((GV.int .i64 x.dot.rep)::(GV.int .i64 x.dot.seq)::(GV.int .i64 x.time)::v2::(GV.int .i64 x.kind)::(GV.str x.obj)::(GV.str x.key)::(GV.int .i64 x.val)::(GV.int .i64 x.ref.rep)::(GV.int .i64 x.ref.seq)::[]) x::rs):=by
 refine(H).conv ?_
 intro fp h0
 exact⟨v2,fp,rfl,h0,rfl⟩
theorem Hp.splitAct {σ τ:St} {rs:List Thg} {x:Act} {cs:List GV} (H:Hp σ τ (own kAct cs x::rs)):∃ v2,cs=(GV.int .i64 x.dot.rep)::(GV.int .i64 x.dot.seq)::(GV.int .i64 x.time)::v2::(GV.int .i64 x.kind)::(GV.str x.obj)::(GV.str x.key)::(GV.int .i64 x.val)::(GV.int .i64 x.ref.rep)::(GV.int .i64 x.ref.seq)::[]∧Hp σ τ (ow pI.kd v2 x.knew::rs):=by
 obtain⟨h,fp,⟨a,b,⟨v2,f0,rfl,h0,rfl⟩,hs,rfl⟩,hn,hb⟩:=H
 exact⟨v2,rfl,h,_,⟨_,_,h0,hs,rfl⟩,by simpa [List.append_assoc] using hn,by simpa [List.append_assoc] using hb⟩
theorem Hp.ownState {σ τ:St} {rs:List Thg} {x:State} {v0:GV} {v1:GV} {v2:GV} {v3:GV} (H:Hp σ τ (ow pI.kd v0 x.know::ow Ar.kd v1 x.tallies::ow Ay.kd v2 x.lives::ow Ai.kd v3 x.cells::rs)):Hp σ τ (own A8 (v0::v1::v2::v3::[]) x::rs):=by
 refine(H.join.join.join).conv ?_
 rintro fp ⟨_,f3,⟨_,f2,⟨f0,f1,h0,h1,rfl⟩,h2,rfl⟩,h3,rfl⟩
 exact⟨v0,v1,v2,v3,f0,f1,f2,f3,rfl,h0,h1,h2,h3,by simp[List.append_assoc]⟩
theorem Hp.splitState {σ τ:St} {rs:List Thg} {x:State} {cs:List GV} (H:Hp σ τ (own A8 cs x::rs)):∃ v0 v1 v2 v3,cs=v0::v1::v2::v3::[]∧Hp σ τ (ow pI.kd v0 x.know::ow Ar.kd v1 x.tallies::ow Ay.kd v2 x.lives::ow Ai.kd v3 x.cells::rs):=by
 obtain⟨h,fp,⟨a,b,⟨v0,v1,v2,v3,f0,f1,f2,f3,rfl,h0,h1,h2,h3,rfl⟩,hs,rfl⟩,hn,hb⟩:=H
 exact⟨v0,v1,v2,v3,rfl,h,_,⟨_,_,h0,⟨_,_,h1,⟨_,_,h2,⟨_,_,h3,hs,rfl⟩,rfl⟩,rfl⟩,rfl⟩,by simpa [List.append_assoc] using hn,by simpa [List.append_assoc] using hb⟩
end
section
open Go Go.RowKit
theorem Hp.cp {α:Type} {p:Pl α} {by8:Nat} {σ τ:St} {rs:List Thg} {x:GV} {m:List α} (H:Hp σ τ rs) (hx:RS p.kd τ x m) (hz:0<p.z) (hb:m.length*by8≤140737488355328):
  ∃ v' τ',appV p.z by8 (τ++[some (.row p.z [])]) (.sl τ.length 0 0) x=some (v',τ')∧τ++[some (.row p.z [])] <+: τ'∧Hp σ τ' (ow p.kd v' m::rs):=by
 have hx':RdN p.en (τ++[some (.row p.z [])]) x m:=RdN.pre hx (pre1 _ _)
 have ha:appV p.z by8 (τ++[some (.row p.z [])]) (.sl τ.length 0 0) x=appG p.z by8 (τ++[some (.row p.z [])]) (.sl τ.length 0 0) m.length (p.cells m):=by
  have he:=hx'.elems
  unfold appV
  rcases hx' with⟨rfl,rfl|rfl⟩|⟨g,off,cs,rfl,_⟩<;>simp only[he,Option.bind_some]
 rw[ha]
 have H1:=H.newNil p.kd
 by_cases hm:m.length=0
 ·have:m=[]:=List.eq_nil_of_length_eq_zero hm
  subst this
  exact⟨_,_,by simp[appG,isSl],List.prefix_refl _,H1⟩
 ·refine⟨.sl (τ.length+1) 0 m.length,τ++[some (.row p.z [])]++[some (.row p.z (p.cells m))],?_,pre1 _ _,?_⟩
  ·have hB:(τ++[some (Blk.row p.z [])])[τ.length]? =some (some (.row p.z [])):=by simp
   simp only[appG,hB,if_neg hm]
   rw[if_pos ⟨trivial,trivial,trivial,trivial,hb⟩]
   simp
  ·have H2:=(((H.grow (pre1 τ (some (Blk.row p.z [])))).new p.z (p.cells m)).toRow 0 rfl m rfl rfl _ rfl)
   have e:(τ++[some (Blk.row p.z [])]).length=τ.length+1:=by simp
   rw[e] at H2
   exact H2
theorem Hp.cp_int {σ τ:St} {rs:List Thg} {x:GV} {m:List Int} (H:Hp σ τ rs) (hx:RS pI.kd τ x m) (hb:m.length≤1099511627776):∃ v' τ',appV 1 8 (τ++[some (.row 1 [])]) (.sl τ.length 0 0) x=some (v',τ')∧τ++[some (.row 1 [])] <+: τ'∧Hp σ τ' (ow pI.kd v' m::rs):=H.cp hx (by decide) (by omega)
theorem Hp.cp_Tally {σ τ:St} {rs:List Thg} {x:GV} {m:List Tally} (H:Hp σ τ rs) (hx:RS Ar.kd τ x m) (hb:m.length≤1099511627776):∃ v' τ',appV 3 32 (τ++[some (.row 3 [])]) (.sl τ.length 0 0) x=some (v',τ')∧τ++[some (.row 3 [])] <+: τ'∧Hp σ τ' (ow Ar.kd v' m::rs):=H.cp hx (by decide) (by omega)
theorem Hp.cp_Live {σ τ:St} {rs:List Thg} {x:GV} {m:List Live} (H:Hp σ τ rs) (hx:RS Ay.kd τ x m) (hb:m.length≤1099511627776):∃ v' τ',appV 6 64 (τ++[some (.row 6 [])]) (.sl τ.length 0 0) x=some (v',τ')∧τ++[some (.row 6 [])] <+: τ'∧Hp σ τ' (ow Ay.kd v' m::rs):=H.cp hx (by decide) (by omega)
theorem Hp.cp_Cell {σ τ:St} {rs:List Thg} {x:GV} {m:List Cell} (H:Hp σ τ rs) (hx:RS Ai.kd τ x m) (hb:m.length≤1099511627776):∃ v' τ',appV 8 72 (τ++[some (.row 8 [])]) (.sl τ.length 0 0) x=some (v',τ')∧τ++[some (.row 8 [])] <+: τ'∧Hp σ τ' (ow Ai.kd v' m::rs):=H.cp hx (by decide) (by omega)
end
section
open Go Go.RowKit
theorem Gl (σ:St) (cs:List GV) (s:State) (hR:A8.R σ s cs) (hl:Ac s≤1099511627776):∃ ds τ,Ret Tryz.prog M7 [.agg cs] σ (.agg ds) τ∧Hp σ τ [own A8 ds s]:=by
 obtain⟨a,b,c,v,rfl,hk,ht,hv,hc⟩:=hR
 obtain⟨l1,l2,l3,l4,_⟩:=Am hl
 have key:∃ r τ,Ret Tryz.prog M7 [.agg [a,b,c,v]] σ r τ∧∃ ds,r= .agg ds∧Hp σ τ [own A8 ds s]:=by
  refine Cv A17 (Z0z rfl) ?_
  have H:=((Hp.refl σ).new 1 [a,b,c,v]).new 1 [GV.nilS,GV.nilS,GV.nilS,GV.nilS]
  simp +contextual (disch:=omega) only[go_sem,Sq]
  obtain⟨u1,τ1,e1,q1,H1⟩:=H.cp_int (hk.pre H.sub) l1
  have z1:=Ix (H1.pt 2 rfl) [some (Blk.row 3 [])]
  simp +contextual (disch:=omega) only[go_sem,e1,q1,A0 z1]
  obtain⟨u2,τ2,e2,q2,H2⟩:=H1.cp_Tally (ht.pre H1.sub) l2
  have z2:=Ix (H2.pt 3 rfl) [some (Blk.row 6 [])]
  simp +contextual (disch:=omega) only[go_sem,e2,q2,A0 z2]
  obtain⟨u3,τ3,e3,q3,H3⟩:=H2.cp_Live (hv.pre H2.sub) l3
  have z3:=Ix (H3.pt 4 rfl) [some (Blk.row 8 [])]
  simp +contextual (disch:=omega) only[go_sem,e3,q3,A0 z3]
  obtain⟨u4,τ4,e4,q4,H4⟩:=H3.cp_Cell (hc.pre H3.sub) l4
  have c1:=(H4.sl 3 rfl).cell
  have c2:=(H4.sl 2 rfl).cell
  have c3:=(H4.sl 1 rfl).cell
  have c4:=(H4.sl 0 rfl).cell
  obtain⟨τ5,e5,H5,_⟩:=H4.st 4 rfl 4 0 (.agg [u1,u2,u3,u4]) rfl (by decide) (by simp)
  have z5:=H5.pt 4 rfl
  have z5:rdB τ5 (σ++[some (Blk.row 1 [a,b,c,v])]).length=some [u1,u2,u3,u4]:=z5
  simp +contextual (disch:=omega) only[go_sem,e4,q4,c1,c2,c3,c4,e5,A0 z5]
  exact⟨_,rfl,_,rfl,(((((H5.pick 1 rfl).pick 2 rfl).pick 3 rfl).ownState).one)⟩
 obtain⟨r,τ,R,ds,rfl,H⟩:=key
 exact⟨ds,τ,R,H⟩
theorem Kv (σ:St) (cs:List GV) (s:State) (hR:A8.R σ s cs) (hl:Ac s≤1099511627776):∃ ds τ,Ret Tryz.prog J3 [.agg cs] σ (.agg ds) τ∧Hp σ τ [own A8 ds s]:=by
 obtain⟨a,b,c,v,rfl,hk,ht,hv,hc⟩:=hR
 obtain⟨l1,l2,l3,l4,_⟩:=Am hl
 have key:∃ r τ,Ret Tryz.prog J3 [.agg [a,b,c,v]] σ r τ∧∃ ds,r= .agg ds∧Hp σ τ [own A8 ds s]:=by
  refine Cv Va (Z0z rfl) ?_
  have H:=((Hp.refl σ).new 1 [a,b,c,v]).new 1 [GV.nilS,GV.nilS,GV.nilS,GV.nilS]
  simp +contextual (disch:=omega) only[go_sem,N1]
  obtain⟨u1,τ1,R1,K1⟩:=V8 _ a s.know (hk.pre H.sub) l1
  have H1:=H.add K1
  have z1:=Ix (H1.pt 2 rfl) [some (Blk.row 3 [])]
  refine Da R1 K1 ?_
  simp +contextual (disch:=omega) only[go_sem,A0 z1]
  obtain⟨u2,τ2,e2,q2,H2⟩:=H1.cp_Tally (ht.pre H1.sub) l2
  have z2:=Ix (H2.pt 3 rfl) [some (Blk.row 6 [])]
  simp +contextual (disch:=omega) only[go_sem,e2,q2,A0 z2]
  obtain⟨u3,τ3,e3,q3,H3⟩:=H2.cp_Live (hv.pre H2.sub) l3
  have z3:=Ix (H3.pt 4 rfl) [some (Blk.row 8 [])]
  simp +contextual (disch:=omega) only[go_sem,e3,q3,A0 z3]
  obtain⟨u4,τ4,e4,q4,H4⟩:=H3.cp_Cell (hc.pre H3.sub) l4
  have c1:=(H4.sl 3 rfl).cell
  have c2:=(H4.sl 2 rfl).cell
  have c3:=(H4.sl 1 rfl).cell
  have c4:=(H4.sl 0 rfl).cell
  obtain⟨τ5,e5,H5,_⟩:=H4.st 4 rfl 4 0 (.agg [u1,u2,u3,u4]) rfl (by decide) (by simp)
  have z5:=H5.pt 4 rfl
  have z5:rdB τ5 (σ++[some (Blk.row 1 [a,b,c,v])]).length=some [u1,u2,u3,u4]:=z5
  simp +contextual (disch:=omega) only[go_sem,e4,q4,c1,c2,c3,c4,e5,A0 z5]
  exact⟨_,rfl,_,rfl,(((((H5.pick 1 rfl).pick 2 rfl).pick 3 rfl).ownState).one)⟩
 obtain⟨r,τ,R,ds,rfl,H⟩:=key
 exact⟨ds,τ,R,H⟩
end
end Go.Proofs.YtbeoiejnogdkpaaGreat.Sy
