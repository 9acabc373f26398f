/- Texts of this proof, one behind the other. -/
import Derived.Test.YtbeoiejnogdkpaaGreatBChangedBy1
import Derived.Test.YtbeoiejnogdkpaaGreatProg
import Derived.KernelRfl
import Derived.Sort.LotC
import Derived.Sort.AssemblyPlain
set_option linter.unusedSimpArgs false
set_option linter.unusedVariables false
set_option maxRecDepth 4000
namespace Go.Proofs.YtbeoiejnogdkpaaGreat.Sy
section
open Go Go.RowKit
abbrev Av:Nat:=385
def Fn:Fn1:=⟨7,[.t 2],(rg [o 2 (.mov (.k (.int .u64 0)))] (rg [oM 3 0,o 4 (.cvi .u64 (.t 3)),oC 5 284 4,o 6 (.bin .shl (.k (.int .u64 1)) (.t 5)),oM 2 6] .ret))⟩
theorem Ij:A8 Tryz.prog Av=some Fn:=by kernel_rfl
abbrev As:Nat:=386
def G4:Fn1:=⟨33,[.t 2],(rg [o 2 (.mov (.k (.int .u64 0)))] (.seq (.drw [oM 3 0,oK 4 3,oL 5 4,oM 6 0,oK 7 6,oL 8 7] [o 9 (.bin .shl (.t 8) (.k (.int .u64 13))),oB 10 .xor 5 9,oK 11 3,oS 1 11 10]) (.seq (.drw [oM 12 0,oK 13 12,oL 14 13,oM 15 0,oK 16 15,oL 17 16] [o 18 (.bin .shr (.t 17) (.k (.int .u64 7))),oB 19 .xor 14 18,oK 20 12,oS 1 20 19]) (.seq (.drw [oM 21 0,oK 22 21,oL 23 22,oM 24 0,oK 25 24,oL 26 25] [o 27 (.bin .shl (.t 26) (.k (.int .u64 17))),oB 28 .xor 23 27,oK 29 21,oS 1 29 28]) (rg [oM 30 0,oK 31 30,oL 32 31,oM 2 32] .ret)))))⟩
theorem J8:A8 Tryz.prog As=some G4:=by kernel_rfl
abbrev Fo:Nat:=284
def Ko:Fn1:=⟨8,[.t 2],(rg [oV 2 (ki 0)] (.seq (.cnd kf (rg [oM 3 0,o 4 (.cvi .u32 (.t 3)),oC 5 358 4,oM 2 5] .ret) .skip) (rg [oM 6 0,oC 7 359 6,oM 2 7] .ret)))⟩
theorem Sg:A8 Tryz.prog Fo=some Ko:=by kernel_rfl
abbrev Ik:Nat:=359
def Bv:Fn1:=⟨25,[.t 2],(rg [oV 2 (ki 0)] (.seq (rg [oM 3 0,o 4 (.bin .geq (.t 3) (.k (.int .u64 4294967296)))] (.cnd (.t 4) (rg [oM 5 0,o 6 (.bin .shr (.t 5) (.k (.int .u64 32))),oM 0 6] (.reg [oV 2 (ki 32)])) .skip)) (.seq (rg [oM 7 0,o 8 (.bin .geq (.t 7) (.k (.int .u64 65536)))] (.cnd (.t 8) (rg [oM 9 0,o 10 (.bin .shr (.t 9) (.k (.int .u64 16))),oM 0 10] (.reg [oM 11 2,oZ 12 11 16,oM 2 12])) .skip)) (.seq (rg [oM 13 0,o 14 (.bin .geq (.t 13) (.k (.int .u64 256)))] (.cnd (.t 14) (rg [oM 15 0,o 16 (.bin .shr (.t 15) (.k (.int .u64 8))),oM 0 16] (.reg [oM 17 2,oZ 18 17 8,oM 2 18])) .skip)) (rg [oM 19 2,oM 20 0,o 21 (.cvi .u8 (.t 20)),o 22 (.idx (.k (.str ⟨#[0,1,2,2,3,3,3,3,4,4,4,4,4,4,4,4,5,5,5,5,5,5,5,5,5,5,5,5,5,5,5,5,6,6,6,6,6,6,6,6,6,6,6,6,6,6,6,6,6,6,6,6,6,6,6,6,6,6,6,6,6,6,6,6,7,7,7,7,7,7,7,7,7,7,7,7,7,7,7,7,7,7,7,7,7,7,7,7,7,7,7,7,7,7,7,7,7,7,7,7,7,7,7,7,7,7,7,7,7,7,7,7,7,7,7,7,7,7,7,7,7,7,7,7,7,7,7,7,8,8,8,8,8,8,8,8,8,8,8,8,8,8,8,8,8,8,8,8,8,8,8,8,8,8,8,8,8,8,8,8,8,8,8,8,8,8,8,8,8,8,8,8,8,8,8,8,8,8,8,8,8,8,8,8,8,8,8,8,8,8,8,8,8,8,8,8,8,8,8,8,8,8,8,8,8,8,8,8,8,8,8,8,8,8,8,8,8,8,8,8,8,8,8,8,8,8,8,8,8,8,8,8,8,8,8,8,8,8,8,8,8,8,8,8,8,8,8,8,8,8,8,8,8,8,8,8]⟩)) (.t 21)),o 23 (.cvi .i64 (.t 22)),oB 24 .add 19 23,oM 2 24] .ret)))))⟩
theorem Nu:A8 Tryz.prog Ik=some Bv:=by kernel_rfl
structure SN where
 insertionSort:Nat
 siftDown:Nat
 heapSort:Nat
 reverseRange:Nat
 partialInsertionSort:Nat
 partitionEqual:Nat
 partition:Nat
 breakPatterns:Nat
 order2:Nat
 median:Nat
 medianAdjacent:Nat
 choosePivot:Nat
 pdqsort:Nat
 less:Nat
 slices_nextPowerOfTwo:Nat
 slices_xorshift_Next:Nat
def G6 (z:Nat) (g:Bool) (q:SN):Fn1:=⟨67,[],(.seq (.reg [o 13 (.mov (.t 2)),o 14 (.mov (.t 1)),o 15 (.bin .sub (.t 13) (.t 14)),o 8 (.mov (.t 15))]) (.seq (.reg [o 16 (.mov (.t 8)),o 17 (.bin .geq (.t 16) (.k (.int .i64 8)))]) (.cnd (.t 17) (.seq (.reg [o 18 (.mov (.t 8)),o 19 (.cvi .u64 (.t 18)),o 9 (.new [(.int .u64 0)]),on (.st 1 (.t 9) (.t 19))]) (.seq (.reg [o 20 (.mov (.t 8)),o 21 (.call q.slices_nextPowerOfTwo [(.t 20)]),o 10 (.mov (.t 21))]) (.seq (.reg [o 22 (.mov (.t 1)),o 23 (.mov (.t 8)),o 24 (.bin .quo (.t 23) (.k (.int .i64 4))),o 25 (.bin .mul (.t 24) (.k (.int .i64 2))),o 26 (.bin .add (.t 22) (.t 25)),o 27 (.bin .sub (.t 26) (.k (.int .i64 1))),o 11 (.mov (.t 27))]) (.blk 0 (.lop (.seq (.seq (.reg [o 28 (.mov (.t 11)),o 29 (.mov (.t 1)),o 30 (.mov (.t 8)),o 31 (.bin .quo (.t 30) (.k (.int .i64 4))),o 32 (.bin .mul (.t 31) (.k (.int .i64 2))),o 33 (.bin .add (.t 29) (.t 32)),o 34 (.bin .add (.t 33) (.k (.int .i64 1))),o 35 (.bin .leq (.t 28) (.t 34))]) (.cnd (.t 35) .skip (.ext 0))) (.seq (.blk 1 (.seq (.reg [o 38 (.call q.slices_xorshift_Next [(.t 9)]),o 39 (.mov (.t 10)),o 40 (.bin .sub (.t 39) (.k (.int .u64 1))),o 41 (.bin .and (.t 38) (.t 40)),o 42 (.cvi .i64 (.t 41)),o 12 (.mov (.t 42))]) (.seq (.seq (.reg [o 43 (.mov (.t 12)),o 44 (.mov (.t 8)),o 45 (.bin .geq (.t 43) (.t 44))]) (.cnd (.t 45) (.reg [o 46 (.mov (.t 12)),o 47 (.mov (.t 8)),o 48 (.bin .sub (.t 46) (.t 47)),o 12 (.mov (.t 48))]) .skip)) (.drw [o 49 (.mov (.t 0)),o 50 (.mov (.t 11)),o 51 (.mov (.t 0)),o 52 (.mov (.t 1)),o 53 (.mov (.t 12)),o 54 (.bin .add (.t 52) (.t 53)),o 55 (.mov (.t 0)),o 56 (.mov (.t 1)),o 57 (.mov (.t 12)),o 58 (.bin .add (.t 56) (.t 57)),o 59 (.iad z (.t 55) (.t 58)),o 60 (.ld g z (.t 59)),o 61 (.mov (.t 0)),o 62 (.mov (.t 11)),o 63 (.iad z (.t 61) (.t 62)),o 64 (.ld g z (.t 63))] [o 65 (.iad z (.t 49) (.t 50)),on (.st z (.t 65) (.t 60)),o 66 (.iad z (.t 51) (.t 54)),on (.st z (.t 66) (.t 64))])))) (.reg [o 36 (.mov (.t 11)),o 37 (.bin .add (.t 36) (.k (.int .i64 1))),o 11 (.mov (.t 37))])))))))) .skip)))⟩
def Pw (z:Nat) (g:Bool) (q:SN):Fn1:=⟨65,[],(.seq (.reg [o 11 (.mov (.t 2)),o 12 (.mov (.t 1)),o 13 (.bin .sub (.t 11) (.t 12)),o 6 (.mov (.t 13))]) (.seq (.reg [o 14 (.mov (.t 6)),o 15 (.bin .geq (.t 14) (.k (.int .i64 8)))]) (.cnd (.t 15) (.seq (.reg [o 16 (.mov (.t 6)),o 17 (.cvi .u64 (.t 16)),o 7 (.new [(.int .u64 0)]),on (.st 1 (.t 7) (.t 17))]) (.seq (.reg [o 18 (.mov (.t 6)),o 19 (.call q.slices_nextPowerOfTwo [(.t 18)]),o 8 (.mov (.t 19))]) (.seq (.reg [o 20 (.mov (.t 1)),o 21 (.mov (.t 6)),o 22 (.bin .quo (.t 21) (.k (.int .i64 4))),o 23 (.bin .mul (.t 22) (.k (.int .i64 2))),o 24 (.bin .add (.t 20) (.t 23)),o 25 (.bin .sub (.t 24) (.k (.int .i64 1))),o 9 (.mov (.t 25))]) (.blk 0 (.lop (.seq (.seq (.reg [o 26 (.mov (.t 9)),o 27 (.mov (.t 1)),o 28 (.mov (.t 6)),o 29 (.bin .quo (.t 28) (.k (.int .i64 4))),o 30 (.bin .mul (.t 29) (.k (.int .i64 2))),o 31 (.bin .add (.t 27) (.t 30)),o 32 (.bin .add (.t 31) (.k (.int .i64 1))),o 33 (.bin .leq (.t 26) (.t 32))]) (.cnd (.t 33) .skip (.ext 0))) (.seq (.blk 1 (.seq (.reg [o 36 (.call q.slices_xorshift_Next [(.t 7)]),o 37 (.mov (.t 8)),o 38 (.bin .sub (.t 37) (.k (.int .u64 1))),o 39 (.bin .and (.t 36) (.t 38)),o 40 (.cvi .i64 (.t 39)),o 10 (.mov (.t 40))]) (.seq (.seq (.reg [o 41 (.mov (.t 10)),o 42 (.mov (.t 6)),o 43 (.bin .geq (.t 41) (.t 42))]) (.cnd (.t 43) (.reg [o 44 (.mov (.t 10)),o 45 (.mov (.t 6)),o 46 (.bin .sub (.t 44) (.t 45)),o 10 (.mov (.t 46))]) .skip)) (.drw [o 47 (.mov (.t 0)),o 48 (.mov (.t 9)),o 49 (.mov (.t 0)),o 50 (.mov (.t 1)),o 51 (.mov (.t 10)),o 52 (.bin .add (.t 50) (.t 51)),o 53 (.mov (.t 0)),o 54 (.mov (.t 1)),o 55 (.mov (.t 10)),o 56 (.bin .add (.t 54) (.t 55)),o 57 (.iad z (.t 53) (.t 56)),o 58 (.ld g z (.t 57)),o 59 (.mov (.t 0)),o 60 (.mov (.t 9)),o 61 (.iad z (.t 59) (.t 60)),o 62 (.ld g z (.t 61))] [o 63 (.iad z (.t 47) (.t 48)),on (.st z (.t 63) (.t 58)),o 64 (.iad z (.t 49) (.t 52)),on (.st z (.t 64) (.t 62))])))) (.reg [o 34 (.mov (.t 9)),o 35 (.bin .add (.t 34) (.k (.int .i64 1))),o 9 (.mov (.t 35))])))))))) .skip)))⟩
def Fp (z:Nat) (g:Bool) (q:SN):Fn1:=⟨63,[.t 8,.t 9],(.seq (.reg [o 8 (.mov (.k (.int .i64 0))),o 9 (.mov (.k (.int .i64 0)))]) (.seq (.reg [o 15 (.mov (.t 2)),o 16 (.mov (.t 1)),o 17 (.bin .sub (.t 15) (.t 16)),o 10 (.mov (.t 17))]) (.seq (.reg [o 11 (.new [(.int .i64 0)])]) (.seq (.reg [o 18 (.mov (.t 1)),o 19 (.mov (.t 10)),o 20 (.bin .quo (.t 19) (.k (.int .i64 4))),o 21 (.bin .mul (.t 20) (.k (.int .i64 1))),o 22 (.bin .add (.t 18) (.t 21)),o 12 (.mov (.t 22))]) (.seq (.reg [o 23 (.mov (.t 1)),o 24 (.mov (.t 10)),o 25 (.bin .quo (.t 24) (.k (.int .i64 4))),o 26 (.bin .mul (.t 25) (.k (.int .i64 2))),o 27 (.bin .add (.t 23) (.t 26)),o 13 (.mov (.t 27))]) (.seq (.reg [o 28 (.mov (.t 1)),o 29 (.mov (.t 10)),o 30 (.bin .quo (.t 29) (.k (.int .i64 4))),o 31 (.bin .mul (.t 30) (.k (.int .i64 3))),o 32 (.bin .add (.t 28) (.t 31)),o 14 (.mov (.t 32))]) (.seq (.seq (.reg [o 33 (.mov (.t 10)),o 34 (.bin .geq (.t 33) (.k (.int .i64 8)))]) (.cnd (.t 34) (.seq (.seq (.reg [o 35 (.mov (.t 10)),o 36 (.bin .geq (.t 35) (.k (.int .i64 50)))]) (.cnd (.t 36) (.seq (.reg [o 37 (.mov (.t 0)),o 38 (.mov (.t 12)),o 39 (.mov (.t 3)),o 40 (.call q.medianAdjacent [(.t 37),(.t 38),(.t 11),(.t 39)]),o 12 (.mov (.t 40))]) (.seq (.reg [o 41 (.mov (.t 0)),o 42 (.mov (.t 13)),o 43 (.mov (.t 3)),o 44 (.call q.medianAdjacent [(.t 41),(.t 42),(.t 11),(.t 43)]),o 13 (.mov (.t 44))]) (.reg [o 45 (.mov (.t 0)),o 46 (.mov (.t 14)),o 47 (.mov (.t 3)),o 48 (.call q.medianAdjacent [(.t 45),(.t 46),(.t 11),(.t 47)]),o 14 (.mov (.t 48))]))) .skip)) (.reg [o 49 (.mov (.t 0)),o 50 (.mov (.t 12)),o 51 (.mov (.t 13)),o 52 (.mov (.t 14)),o 53 (.mov (.t 3)),o 54 (.call q.median [(.t 49),(.t 50),(.t 51),(.t 52),(.t 11),(.t 53)]),o 13 (.mov (.t 54))])) .skip)) (.seq (.reg [o 55 (.ld false 1 (.t 11))]) (.blk 0 (.seq (.reg [o 58 (.bin .eql (.t 55) (.k (.int .i64 0))),o 57 (.mov (.t 58))]) (.cnd (.t 57) (.seq (.reg [o 59 (.mov (.t 13)),o 8 (.mov (.t 59)),o 9 (.mov (.k (.int .i64 1)))]) .ret) (.seq (.reg [o 61 (.bin .eql (.t 55) (.k (.int .i64 12))),o 60 (.mov (.t 61))]) (.cnd (.t 60) (.seq (.reg [o 62 (.mov (.t 13)),o 8 (.mov (.t 62)),o 9 (.mov (.k (.int .i64 2)))]) .ret) (.seq (.reg [o 56 (.mov (.t 13)),o 8 (.mov (.t 56)),o 9 (.mov (.k (.int .i64 0)))]) .ret))))))))))))))⟩
def Us (z:Nat) (g:Bool) (q:SN):Fn1:=⟨57,[.t 6,.t 7],(.seq (.reg [o 6 (.mov (.k (.int .i64 0))),o 7 (.mov (.k (.int .i64 0)))]) (.seq (.reg [o 13 (.mov (.t 2)),o 14 (.mov (.t 1)),o 15 (.bin .sub (.t 13) (.t 14)),o 8 (.mov (.t 15))]) (.seq (.reg [o 9 (.new [(.int .i64 0)])]) (.seq (.reg [o 16 (.mov (.t 1)),o 17 (.mov (.t 8)),o 18 (.bin .quo (.t 17) (.k (.int .i64 4))),o 19 (.bin .mul (.t 18) (.k (.int .i64 1))),o 20 (.bin .add (.t 16) (.t 19)),o 10 (.mov (.t 20))]) (.seq (.reg [o 21 (.mov (.t 1)),o 22 (.mov (.t 8)),o 23 (.bin .quo (.t 22) (.k (.int .i64 4))),o 24 (.bin .mul (.t 23) (.k (.int .i64 2))),o 25 (.bin .add (.t 21) (.t 24)),o 11 (.mov (.t 25))]) (.seq (.reg [o 26 (.mov (.t 1)),o 27 (.mov (.t 8)),o 28 (.bin .quo (.t 27) (.k (.int .i64 4))),o 29 (.bin .mul (.t 28) (.k (.int .i64 3))),o 30 (.bin .add (.t 26) (.t 29)),o 12 (.mov (.t 30))]) (.seq (.seq (.reg [o 31 (.mov (.t 8)),o 32 (.bin .geq (.t 31) (.k (.int .i64 8)))]) (.cnd (.t 32) (.seq (.seq (.reg [o 33 (.mov (.t 8)),o 34 (.bin .geq (.t 33) (.k (.int .i64 50)))]) (.cnd (.t 34) (.seq (.reg [o 35 (.mov (.t 0)),o 36 (.mov (.t 10)),o 37 (.call q.medianAdjacent [(.t 35),(.t 36),(.t 9)]),o 10 (.mov (.t 37))]) (.seq (.reg [o 38 (.mov (.t 0)),o 39 (.mov (.t 11)),o 40 (.call q.medianAdjacent [(.t 38),(.t 39),(.t 9)]),o 11 (.mov (.t 40))]) (.reg [o 41 (.mov (.t 0)),o 42 (.mov (.t 12)),o 43 (.call q.medianAdjacent [(.t 41),(.t 42),(.t 9)]),o 12 (.mov (.t 43))]))) .skip)) (.reg [o 44 (.mov (.t 0)),o 45 (.mov (.t 10)),o 46 (.mov (.t 11)),o 47 (.mov (.t 12)),o 48 (.call q.median [(.t 44),(.t 45),(.t 46),(.t 47),(.t 9)]),o 11 (.mov (.t 48))])) .skip)) (.seq (.reg [o 49 (.ld false 1 (.t 9))]) (.blk 0 (.seq (.reg [o 52 (.bin .eql (.t 49) (.k (.int .i64 0))),o 51 (.mov (.t 52))]) (.cnd (.t 51) (.seq (.reg [o 53 (.mov (.t 11)),o 6 (.mov (.t 53)),o 7 (.mov (.k (.int .i64 1)))]) .ret) (.seq (.reg [o 55 (.bin .eql (.t 49) (.k (.int .i64 12))),o 54 (.mov (.t 55))]) (.cnd (.t 54) (.seq (.reg [o 56 (.mov (.t 11)),o 6 (.mov (.t 56)),o 7 (.mov (.k (.int .i64 2)))]) .ret) (.seq (.reg [o 50 (.mov (.t 11)),o 6 (.mov (.t 50)),o 7 (.mov (.k (.int .i64 0)))]) .ret))))))))))))))⟩
def Ra (z:Nat) (g:Bool) (q:SN):Fn1:=⟨60,[],(.seq (.reg [o 13 (.mov (.t 1)),o 8 (.mov (.t 13))]) (.seq (.reg [o 9 (.mov (.k (.int .i64 0)))]) (.seq (.reg [o 14 (.mov (.t 2)),o 15 (.mov (.t 1)),o 16 (.bin .sub (.t 14) (.t 15)),o 10 (.mov (.t 16))]) (.seq (.seq (.reg [o 17 (.mov (.t 10)),o 18 (.bin .sub (.t 17) (.k (.int .i64 1))),o 19 (.bin .quo (.t 18) (.k (.int .i64 2))),o 11 (.mov (.t 19))]) (.blk 0 (.lop (.seq (.seq (.reg [o 20 (.mov (.t 11)),o 21 (.bin .geq (.t 20) (.k (.int .i64 0)))]) (.cnd (.t 21) .skip (.ext 0))) (.seq (.blk 1 (.reg [o 24 (.mov (.t 0)),o 25 (.mov (.t 11)),o 26 (.mov (.t 10)),o 27 (.mov (.t 8)),o 28 (.mov (.t 3)),o 29 (.call q.siftDown [(.t 24),(.t 25),(.t 26),(.t 27),(.t 28)])])) (.reg [o 22 (.mov (.t 11)),o 23 (.bin .sub (.t 22) (.k (.int .i64 1))),o 11 (.mov (.t 23))])))))) (.seq (.reg [o 30 (.mov (.t 10)),o 31 (.bin .sub (.t 30) (.k (.int .i64 1))),o 12 (.mov (.t 31))]) (.blk 2 (.lop (.seq (.seq (.reg [o 32 (.mov (.t 12)),o 33 (.bin .geq (.t 32) (.k (.int .i64 0)))]) (.cnd (.t 33) .skip (.ext 2))) (.seq (.blk 3 (.seq (.drw [o 36 (.mov (.t 0)),o 37 (.mov (.t 8)),o 38 (.mov (.t 0)),o 39 (.mov (.t 8)),o 40 (.mov (.t 12)),o 41 (.bin .add (.t 39) (.t 40)),o 42 (.mov (.t 0)),o 43 (.mov (.t 8)),o 44 (.mov (.t 12)),o 45 (.bin .add (.t 43) (.t 44)),o 46 (.iad z (.t 42) (.t 45)),o 47 (.ld g z (.t 46)),o 48 (.mov (.t 0)),o 49 (.mov (.t 8)),o 50 (.iad z (.t 48) (.t 49)),o 51 (.ld g z (.t 50))] [o 52 (.iad z (.t 36) (.t 37)),on (.st z (.t 52) (.t 47)),o 53 (.iad z (.t 38) (.t 41)),on (.st z (.t 53) (.t 51))]) (.reg [o 54 (.mov (.t 0)),o 55 (.mov (.t 9)),o 56 (.mov (.t 12)),o 57 (.mov (.t 8)),o 58 (.mov (.t 3)),o 59 (.call q.siftDown [(.t 54),(.t 55),(.t 56),(.t 57),(.t 58)])]))) (.reg [o 34 (.mov (.t 12)),o 35 (.bin .sub (.t 34) (.k (.int .i64 1))),o 12 (.mov (.t 35))]))))))))))⟩
def A33 (z:Nat) (g:Bool) (q:SN):Fn1:=⟨56,[],(.seq (.reg [o 11 (.mov (.t 1)),o 6 (.mov (.t 11))]) (.seq (.reg [o 7 (.mov (.k (.int .i64 0)))]) (.seq (.reg [o 12 (.mov (.t 2)),o 13 (.mov (.t 1)),o 14 (.bin .sub (.t 12) (.t 13)),o 8 (.mov (.t 14))]) (.seq (.seq (.reg [o 15 (.mov (.t 8)),o 16 (.bin .sub (.t 15) (.k (.int .i64 1))),o 17 (.bin .quo (.t 16) (.k (.int .i64 2))),o 9 (.mov (.t 17))]) (.blk 0 (.lop (.seq (.seq (.reg [o 18 (.mov (.t 9)),o 19 (.bin .geq (.t 18) (.k (.int .i64 0)))]) (.cnd (.t 19) .skip (.ext 0))) (.seq (.blk 1 (.reg [o 22 (.mov (.t 0)),o 23 (.mov (.t 9)),o 24 (.mov (.t 8)),o 25 (.mov (.t 6)),o 26 (.call q.siftDown [(.t 22),(.t 23),(.t 24),(.t 25)])])) (.reg [o 20 (.mov (.t 9)),o 21 (.bin .sub (.t 20) (.k (.int .i64 1))),o 9 (.mov (.t 21))])))))) (.seq (.reg [o 27 (.mov (.t 8)),o 28 (.bin .sub (.t 27) (.k (.int .i64 1))),o 10 (.mov (.t 28))]) (.blk 2 (.lop (.seq (.seq (.reg [o 29 (.mov (.t 10)),o 30 (.bin .geq (.t 29) (.k (.int .i64 0)))]) (.cnd (.t 30) .skip (.ext 2))) (.seq (.blk 3 (.seq (.drw [o 33 (.mov (.t 0)),o 34 (.mov (.t 6)),o 35 (.mov (.t 0)),o 36 (.mov (.t 6)),o 37 (.mov (.t 10)),o 38 (.bin .add (.t 36) (.t 37)),o 39 (.mov (.t 0)),o 40 (.mov (.t 6)),o 41 (.mov (.t 10)),o 42 (.bin .add (.t 40) (.t 41)),o 43 (.iad z (.t 39) (.t 42)),o 44 (.ld g z (.t 43)),o 45 (.mov (.t 0)),o 46 (.mov (.t 6)),o 47 (.iad z (.t 45) (.t 46)),o 48 (.ld g z (.t 47))] [o 49 (.iad z (.t 33) (.t 34)),on (.st z (.t 49) (.t 44)),o 50 (.iad z (.t 35) (.t 38)),on (.st z (.t 50) (.t 48))]) (.reg [o 51 (.mov (.t 0)),o 52 (.mov (.t 7)),o 53 (.mov (.t 10)),o 54 (.mov (.t 6)),o 55 (.call q.siftDown [(.t 51),(.t 52),(.t 53),(.t 54)])]))) (.reg [o 31 (.mov (.t 10)),o 32 (.bin .sub (.t 31) (.k (.int .i64 1))),o 10 (.mov (.t 32))]))))))))))⟩
def Il (z:Nat) (g:Bool) (q:SN):Fn1:=⟨53,[],(.seq (.reg [o 10 (.mov (.t 1)),o 11 (.bin .add (.t 10) (.k (.int .i64 1))),o 8 (.mov (.t 11))]) (.blk 0 (.lop (.seq (.seq (.reg [o 12 (.mov (.t 8)),o 13 (.mov (.t 2)),o 14 (.bin .lss (.t 12) (.t 13))]) (.cnd (.t 14) .skip (.ext 0))) (.seq (.blk 1 (.seq (.reg [o 17 (.mov (.t 8)),o 9 (.mov (.t 17))]) (.blk 2 (.lop (.seq (.seq (.drw [o 18 (.mov (.t 9)),o 19 (.mov (.t 1)),o 20 (.bin .gtr (.t 18) (.t 19)),o 21 (.mov (.t 20)),og 22 21 true (.mov (.t 3)),og 23 21 true (.mov (.t 0)),og 24 21 true (.mov (.t 9)),og 25 21 true (.iad z (.t 23) (.t 24)),og 26 21 true (.ld g z (.t 25)),og 27 21 true (.mov (.t 0)),og 28 21 true (.mov (.t 9)),og 29 21 true (.bin .sub (.t 28) (.k (.int .i64 1))),og 30 21 true (.iad z (.t 27) (.t 29)),og 31 21 true (.ld g z (.t 30))] [og 32 21 true (.callv (.t 22) [(.t 26),(.t 31)]),og 33 21 true (.bin .lss (.t 32) (.k (.int .i64 0))),o 34 (.pick (.t 21) (.t 33) (.k (.bool false)))]) (.cnd (.t 34) .skip (.ext 2))) (.seq (.blk 3 (.drw [o 37 (.mov (.t 0)),o 38 (.mov (.t 9)),o 39 (.mov (.t 0)),o 40 (.mov (.t 9)),o 41 (.bin .sub (.t 40) (.k (.int .i64 1))),o 42 (.mov (.t 0)),o 43 (.mov (.t 9)),o 44 (.bin .sub (.t 43) (.k (.int .i64 1))),o 45 (.iad z (.t 42) (.t 44)),o 46 (.ld g z (.t 45)),o 47 (.mov (.t 0)),o 48 (.mov (.t 9)),o 49 (.iad z (.t 47) (.t 48)),o 50 (.ld g z (.t 49))] [o 51 (.iad z (.t 37) (.t 38)),on (.st z (.t 51) (.t 46)),o 52 (.iad z (.t 39) (.t 41)),on (.st z (.t 52) (.t 50))])) (.reg [o 35 (.mov (.t 9)),o 36 (.bin .sub (.t 35) (.k (.int .i64 1))),o 9 (.mov (.t 36))]))))))) (.reg [o 15 (.mov (.t 8)),o 16 (.bin .add (.t 15) (.k (.int .i64 1))),o 8 (.mov (.t 16))]))))))⟩
def Px (z:Nat) (g:Bool) (q:SN):Fn1:=⟨49,[],(.seq (.reg [o 8 (.mov (.t 1)),o 9 (.bin .add (.t 8) (.k (.int .i64 1))),o 6 (.mov (.t 9))]) (.blk 0 (.lop (.seq (.seq (.reg [o 10 (.mov (.t 6)),o 11 (.mov (.t 2)),o 12 (.bin .lss (.t 10) (.t 11))]) (.cnd (.t 12) .skip (.ext 0))) (.seq (.blk 1 (.seq (.reg [o 15 (.mov (.t 6)),o 7 (.mov (.t 15))]) (.blk 2 (.lop (.seq (.seq (.drw [o 16 (.mov (.t 7)),o 17 (.mov (.t 1)),o 18 (.bin .gtr (.t 16) (.t 17)),o 19 (.mov (.t 18)),og 20 19 true (.mov (.t 0)),og 21 19 true (.mov (.t 7)),og 22 19 true (.iad z (.t 20) (.t 21)),og 23 19 true (.ld g z (.t 22)),og 24 19 true (.mov (.t 0)),og 25 19 true (.mov (.t 7)),og 26 19 true (.bin .sub (.t 25) (.k (.int .i64 1))),og 27 19 true (.iad z (.t 24) (.t 26)),og 28 19 true (.ld g z (.t 27))] [og 29 19 true (.call q.less [(.t 23),(.t 28)]),o 30 (.pick (.t 19) (.t 29) (.k (.bool false)))]) (.cnd (.t 30) .skip (.ext 2))) (.seq (.blk 3 (.drw [o 33 (.mov (.t 0)),o 34 (.mov (.t 7)),o 35 (.mov (.t 0)),o 36 (.mov (.t 7)),o 37 (.bin .sub (.t 36) (.k (.int .i64 1))),o 38 (.mov (.t 0)),o 39 (.mov (.t 7)),o 40 (.bin .sub (.t 39) (.k (.int .i64 1))),o 41 (.iad z (.t 38) (.t 40)),o 42 (.ld g z (.t 41)),o 43 (.mov (.t 0)),o 44 (.mov (.t 7)),o 45 (.iad z (.t 43) (.t 44)),o 46 (.ld g z (.t 45))] [o 47 (.iad z (.t 33) (.t 34)),on (.st z (.t 47) (.t 42)),o 48 (.iad z (.t 35) (.t 37)),on (.st z (.t 48) (.t 46))])) (.reg [o 31 (.mov (.t 7)),o 32 (.bin .sub (.t 31) (.k (.int .i64 1))),o 7 (.mov (.t 32))]))))))) (.reg [o 13 (.mov (.t 6)),o 14 (.bin .add (.t 13) (.k (.int .i64 1))),o 6 (.mov (.t 14))]))))))⟩
def Yf (z:Nat) (g:Bool) (q:SN):Fn1:=⟨41,[.t 12],(.seq (.reg [o 12 (.mov (.k (.int .i64 0)))]) (.seq (.reg [o 14 (.mov (.t 0)),o 15 (.mov (.t 1)),o 16 (.mov (.t 2)),o 17 (.mov (.t 4)),o 18 (.mov (.t 5)),o 19 (.call q.order2 [(.t 14),(.t 15),(.t 16),(.t 17),(.t 18)]),o 13 (.mov (.t 19)),o 20 (.ext 0 (.t 13)),o 21 (.ext 1 (.t 13)),o 1 (.mov (.t 20)),o 2 (.mov (.t 21))]) (.seq (.reg [o 23 (.mov (.t 0)),o 24 (.mov (.t 2)),o 25 (.mov (.t 3)),o 26 (.mov (.t 4)),o 27 (.mov (.t 5)),o 28 (.call q.order2 [(.t 23),(.t 24),(.t 25),(.t 26),(.t 27)]),o 22 (.mov (.t 28)),o 29 (.ext 0 (.t 22)),o 30 (.ext 1 (.t 22)),o 2 (.mov (.t 29)),o 3 (.mov (.t 30))]) (.seq (.reg [o 32 (.mov (.t 0)),o 33 (.mov (.t 1)),o 34 (.mov (.t 2)),o 35 (.mov (.t 4)),o 36 (.mov (.t 5)),o 37 (.call q.order2 [(.t 32),(.t 33),(.t 34),(.t 35),(.t 36)]),o 31 (.mov (.t 37)),o 38 (.ext 0 (.t 31)),o 39 (.ext 1 (.t 31)),o 1 (.mov (.t 38)),o 2 (.mov (.t 39))]) (.seq (.reg [o 40 (.mov (.t 2)),o 12 (.mov (.t 40))]) .ret)))))⟩
def A84 (z:Nat) (g:Bool) (q:SN):Fn1:=⟨36,[.t 10],(.seq (.reg [o 10 (.mov (.k (.int .i64 0)))]) (.seq (.reg [o 12 (.mov (.t 0)),o 13 (.mov (.t 1)),o 14 (.mov (.t 2)),o 15 (.mov (.t 4)),o 16 (.call q.order2 [(.t 12),(.t 13),(.t 14),(.t 15)]),o 11 (.mov (.t 16)),o 17 (.ext 0 (.t 11)),o 18 (.ext 1 (.t 11)),o 1 (.mov (.t 17)),o 2 (.mov (.t 18))]) (.seq (.reg [o 20 (.mov (.t 0)),o 21 (.mov (.t 2)),o 22 (.mov (.t 3)),o 23 (.mov (.t 4)),o 24 (.call q.order2 [(.t 20),(.t 21),(.t 22),(.t 23)]),o 19 (.mov (.t 24)),o 25 (.ext 0 (.t 19)),o 26 (.ext 1 (.t 19)),o 2 (.mov (.t 25)),o 3 (.mov (.t 26))]) (.seq (.reg [o 28 (.mov (.t 0)),o 29 (.mov (.t 1)),o 30 (.mov (.t 2)),o 31 (.mov (.t 4)),o 32 (.call q.order2 [(.t 28),(.t 29),(.t 30),(.t 31)]),o 27 (.mov (.t 32)),o 33 (.ext 0 (.t 27)),o 34 (.ext 1 (.t 27)),o 1 (.mov (.t 33)),o 2 (.mov (.t 34))]) (.seq (.reg [o 35 (.mov (.t 2)),o 10 (.mov (.t 35))]) .ret)))))⟩
def I1 (z:Nat) (g:Bool) (q:SN):Fn1:=⟨18,[.t 8],(.seq (.reg [o 8 (.mov (.k (.int .i64 0)))]) (.seq (.reg [o 9 (.mov (.t 0)),o 10 (.mov (.t 1)),o 11 (.bin .sub (.t 10) (.k (.int .i64 1))),o 12 (.mov (.t 1)),o 13 (.mov (.t 1)),o 14 (.bin .add (.t 13) (.k (.int .i64 1))),o 15 (.mov (.t 2)),o 16 (.mov (.t 3)),o 17 (.call q.median [(.t 9),(.t 11),(.t 12),(.t 14),(.t 15),(.t 16)]),o 8 (.mov (.t 17))]) .ret))⟩
def Nv (z:Nat) (g:Bool) (q:SN):Fn1:=⟨15,[.t 6],(.seq (.reg [o 6 (.mov (.k (.int .i64 0)))]) (.seq (.reg [o 7 (.mov (.t 0)),o 8 (.mov (.t 1)),o 9 (.bin .sub (.t 8) (.k (.int .i64 1))),o 10 (.mov (.t 1)),o 11 (.mov (.t 1)),o 12 (.bin .add (.t 11) (.k (.int .i64 1))),o 13 (.mov (.t 2)),o 14 (.call q.median [(.t 7),(.t 9),(.t 10),(.t 12),(.t 13)]),o 6 (.mov (.t 14))]) .ret))⟩
def Yg (z:Nat) (g:Bool) (q:SN):Fn1:=⟨32,[.t 10,.t 11],(.seq (.reg [o 10 (.mov (.k (.int .i64 0))),o 11 (.mov (.k (.int .i64 0)))]) (.seq (.seq (.drw [o 12 (.mov (.t 4)),o 13 (.mov (.t 0)),o 14 (.mov (.t 2)),o 15 (.iad z (.t 13) (.t 14)),o 16 (.ld g z (.t 15)),o 17 (.mov (.t 0)),o 18 (.mov (.t 1)),o 19 (.iad z (.t 17) (.t 18)),o 20 (.ld g z (.t 19))] [o 21 (.callv (.t 12) [(.t 16),(.t 20)]),o 22 (.bin .lss (.t 21) (.k (.int .i64 0)))]) (.cnd (.t 22) (.seq (.reg [o 23 (.mov (.t 3)),o 24 (.nck (.t 23)),o 25 (.ld false 1 (.t 24)),o 26 (.bin .add (.t 25) (.k (.int .i64 1))),o 27 (.nck (.t 23)),on (.st 1 (.t 27) (.t 26))]) (.seq (.reg [o 28 (.mov (.t 2)),o 29 (.mov (.t 1)),o 10 (.mov (.t 28)),o 11 (.mov (.t 29))]) .ret)) .skip)) (.seq (.reg [o 30 (.mov (.t 1)),o 31 (.mov (.t 2)),o 10 (.mov (.t 30)),o 11 (.mov (.t 31))]) .ret)))⟩
def A85 (z:Nat) (g:Bool) (q:SN):Fn1:=⟨28,[.t 8,.t 9],(.seq (.reg [o 8 (.mov (.k (.int .i64 0))),o 9 (.mov (.k (.int .i64 0)))]) (.seq (.seq (.drw [o 10 (.mov (.t 0)),o 11 (.mov (.t 2)),o 12 (.iad z (.t 10) (.t 11)),o 13 (.ld g z (.t 12)),o 14 (.mov (.t 0)),o 15 (.mov (.t 1)),o 16 (.iad z (.t 14) (.t 15)),o 17 (.ld g z (.t 16))] [o 18 (.call q.less [(.t 13),(.t 17)])]) (.cnd (.t 18) (.seq (.reg [o 19 (.mov (.t 3)),o 20 (.nck (.t 19)),o 21 (.ld false 1 (.t 20)),o 22 (.bin .add (.t 21) (.k (.int .i64 1))),o 23 (.nck (.t 19)),on (.st 1 (.t 23) (.t 22))]) (.seq (.reg [o 24 (.mov (.t 2)),o 25 (.mov (.t 1)),o 8 (.mov (.t 24)),o 9 (.mov (.t 25))]) .ret)) .skip)) (.seq (.reg [o 26 (.mov (.t 1)),o 27 (.mov (.t 2)),o 8 (.mov (.t 26)),o 9 (.mov (.t 27))]) .ret)))⟩
def Fc (z:Nat) (g:Bool) (q:SN):Fn1:=⟨141,[.t 8],(.seq (.reg [o 8 (.mov (.k (.bool false)))]) (.seq (.reg [o 13 (.mov (.t 1)),o 14 (.bin .add (.t 13) (.k (.int .i64 1))),o 9 (.mov (.t 14))]) (.seq (.seq (.reg [o 10 (.mov (.k (.int .i64 0)))]) (.blk 0 (.lop (.seq (.seq (.reg [o 15 (.mov (.t 10)),o 16 (.bin .lss (.t 15) (.k (.int .i64 5)))]) (.cnd (.t 16) .skip (.ext 0))) (.seq (.blk 1 (.seq (.blk 2 (.lop (.seq (.seq (.drw [o 19 (.mov (.t 9)),o 20 (.mov (.t 2)),o 21 (.bin .lss (.t 19) (.t 20)),o 22 (.mov (.t 21)),og 23 22 true (.mov (.t 3)),og 24 22 true (.mov (.t 0)),og 25 22 true (.mov (.t 9)),og 26 22 true (.iad z (.t 24) (.t 25)),og 27 22 true (.ld g z (.t 26)),og 28 22 true (.mov (.t 0)),og 29 22 true (.mov (.t 9)),og 30 22 true (.bin .sub (.t 29) (.k (.int .i64 1))),og 31 22 true (.iad z (.t 28) (.t 30)),og 32 22 true (.ld g z (.t 31))] [og 33 22 true (.callv (.t 23) [(.t 27),(.t 32)]),og 34 22 true (.bin .lss (.t 33) (.k (.int .i64 0))),og 35 22 true (.un .not (.t 34)),o 36 (.pick (.t 22) (.t 35) (.k (.bool false)))]) (.cnd (.t 36) .skip (.ext 2))) (.blk 3 (.reg [o 37 (.mov (.t 9)),o 38 (.bin .add (.t 37) (.k (.int .i64 1))),o 9 (.mov (.t 38))]))))) (.seq (.seq (.reg [o 39 (.mov (.t 9)),o 40 (.mov (.t 2)),o 41 (.bin .eql (.t 39) (.t 40))]) (.cnd (.t 41) (.seq (.reg [o 8 (.mov (.k (.bool true)))]) .ret) .skip)) (.seq (.seq (.reg [o 42 (.mov (.t 2)),o 43 (.mov (.t 1)),o 44 (.bin .sub (.t 42) (.t 43)),o 45 (.bin .lss (.t 44) (.k (.int .i64 50)))]) (.cnd (.t 45) (.seq (.reg [o 8 (.mov (.k (.bool false)))]) .ret) .skip)) (.seq (.drw [o 46 (.mov (.t 0)),o 47 (.mov (.t 9)),o 48 (.mov (.t 0)),o 49 (.mov (.t 9)),o 50 (.bin .sub (.t 49) (.k (.int .i64 1))),o 51 (.mov (.t 0)),o 52 (.mov (.t 9)),o 53 (.bin .sub (.t 52) (.k (.int .i64 1))),o 54 (.iad z (.t 51) (.t 53)),o 55 (.ld g z (.t 54)),o 56 (.mov (.t 0)),o 57 (.mov (.t 9)),o 58 (.iad z (.t 56) (.t 57)),o 59 (.ld g z (.t 58))] [o 60 (.iad z (.t 46) (.t 47)),on (.st z (.t 60) (.t 55)),o 61 (.iad z (.t 48) (.t 50)),on (.st z (.t 61) (.t 59))]) (.seq (.seq (.reg [o 62 (.mov (.t 9)),o 63 (.mov (.t 1)),o 64 (.bin .sub (.t 62) (.t 63)),o 65 (.bin .geq (.t 64) (.k (.int .i64 2)))]) (.cnd (.t 65) (.seq (.reg [o 66 (.mov (.t 9)),o 67 (.bin .sub (.t 66) (.k (.int .i64 1))),o 11 (.mov (.t 67))]) (.blk 4 (.lop (.seq (.seq (.reg [o 68 (.mov (.t 11)),o 69 (.bin .geq (.t 68) (.k (.int .i64 1)))]) (.cnd (.t 69) .skip (.ext 4))) (.seq (.blk 5 (.seq (.seq (.drw [o 72 (.mov (.t 3)),o 73 (.mov (.t 0)),o 74 (.mov (.t 11)),o 75 (.iad z (.t 73) (.t 74)),o 76 (.ld g z (.t 75)),o 77 (.mov (.t 0)),o 78 (.mov (.t 11)),o 79 (.bin .sub (.t 78) (.k (.int .i64 1))),o 80 (.iad z (.t 77) (.t 79)),o 81 (.ld g z (.t 80))] [o 82 (.callv (.t 72) [(.t 76),(.t 81)]),o 83 (.bin .lss (.t 82) (.k (.int .i64 0))),o 84 (.un .not (.t 83))]) (.cnd (.t 84) (.ext 4) .skip)) (.drw [o 85 (.mov (.t 0)),o 86 (.mov (.t 11)),o 87 (.mov (.t 0)),o 88 (.mov (.t 11)),o 89 (.bin .sub (.t 88) (.k (.int .i64 1))),o 90 (.mov (.t 0)),o 91 (.mov (.t 11)),o 92 (.bin .sub (.t 91) (.k (.int .i64 1))),o 93 (.iad z (.t 90) (.t 92)),o 94 (.ld g z (.t 93)),o 95 (.mov (.t 0)),o 96 (.mov (.t 11)),o 97 (.iad z (.t 95) (.t 96)),o 98 (.ld g z (.t 97))] [o 99 (.iad z (.t 85) (.t 86)),on (.st z (.t 99) (.t 94)),o 100 (.iad z (.t 87) (.t 89)),on (.st z (.t 100) (.t 98))]))) (.reg [o 70 (.mov (.t 11)),o 71 (.bin .sub (.t 70) (.k (.int .i64 1))),o 11 (.mov (.t 71))])))))) .skip)) (.seq (.reg [o 101 (.mov (.t 2)),o 102 (.mov (.t 9)),o 103 (.bin .sub (.t 101) (.t 102)),o 104 (.bin .geq (.t 103) (.k (.int .i64 2)))]) (.cnd (.t 104) (.seq (.reg [o 105 (.mov (.t 9)),o 106 (.bin .add (.t 105) (.k (.int .i64 1))),o 12 (.mov (.t 106))]) (.blk 6 (.lop (.seq (.seq (.reg [o 107 (.mov (.t 12)),o 108 (.mov (.t 2)),o 109 (.bin .lss (.t 107) (.t 108))]) (.cnd (.t 109) .skip (.ext 6))) (.seq (.blk 7 (.seq (.seq (.drw [o 112 (.mov (.t 3)),o 113 (.mov (.t 0)),o 114 (.mov (.t 12)),o 115 (.iad z (.t 113) (.t 114)),o 116 (.ld g z (.t 115)),o 117 (.mov (.t 0)),o 118 (.mov (.t 12)),o 119 (.bin .sub (.t 118) (.k (.int .i64 1))),o 120 (.iad z (.t 117) (.t 119)),o 121 (.ld g z (.t 120))] [o 122 (.callv (.t 112) [(.t 116),(.t 121)]),o 123 (.bin .lss (.t 122) (.k (.int .i64 0))),o 124 (.un .not (.t 123))]) (.cnd (.t 124) (.ext 6) .skip)) (.drw [o 125 (.mov (.t 0)),o 126 (.mov (.t 12)),o 127 (.mov (.t 0)),o 128 (.mov (.t 12)),o 129 (.bin .sub (.t 128) (.k (.int .i64 1))),o 130 (.mov (.t 0)),o 131 (.mov (.t 12)),o 132 (.bin .sub (.t 131) (.k (.int .i64 1))),o 133 (.iad z (.t 130) (.t 132)),o 134 (.ld g z (.t 133)),o 135 (.mov (.t 0)),o 136 (.mov (.t 12)),o 137 (.iad z (.t 135) (.t 136)),o 138 (.ld g z (.t 137))] [o 139 (.iad z (.t 125) (.t 126)),on (.st z (.t 139) (.t 134)),o 140 (.iad z (.t 127) (.t 129)),on (.st z (.t 140) (.t 138))]))) (.reg [o 110 (.mov (.t 12)),o 111 (.bin .add (.t 110) (.k (.int .i64 1))),o 12 (.mov (.t 111))])))))) .skip)))))))) (.reg [o 17 (.mov (.t 10)),o 18 (.bin .add (.t 17) (.k (.int .i64 1))),o 10 (.mov (.t 18))])))))) (.seq (.reg [o 8 (.mov (.k (.bool false)))]) .ret))))⟩
def Im (z:Nat) (g:Bool) (q:SN):Fn1:=⟨133,[.t 6],(.seq (.reg [o 6 (.mov (.k (.bool false)))]) (.seq (.reg [o 11 (.mov (.t 1)),o 12 (.bin .add (.t 11) (.k (.int .i64 1))),o 7 (.mov (.t 12))]) (.seq (.seq (.reg [o 8 (.mov (.k (.int .i64 0)))]) (.blk 0 (.lop (.seq (.seq (.reg [o 13 (.mov (.t 8)),o 14 (.bin .lss (.t 13) (.k (.int .i64 5)))]) (.cnd (.t 14) .skip (.ext 0))) (.seq (.blk 1 (.seq (.blk 2 (.lop (.seq (.seq (.drw [o 17 (.mov (.t 7)),o 18 (.mov (.t 2)),o 19 (.bin .lss (.t 17) (.t 18)),o 20 (.mov (.t 19)),og 21 20 true (.mov (.t 0)),og 22 20 true (.mov (.t 7)),og 23 20 true (.iad z (.t 21) (.t 22)),og 24 20 true (.ld g z (.t 23)),og 25 20 true (.mov (.t 0)),og 26 20 true (.mov (.t 7)),og 27 20 true (.bin .sub (.t 26) (.k (.int .i64 1))),og 28 20 true (.iad z (.t 25) (.t 27)),og 29 20 true (.ld g z (.t 28))] [og 30 20 true (.call q.less [(.t 24),(.t 29)]),og 31 20 true (.un .not (.t 30)),o 32 (.pick (.t 20) (.t 31) (.k (.bool false)))]) (.cnd (.t 32) .skip (.ext 2))) (.blk 3 (.reg [o 33 (.mov (.t 7)),o 34 (.bin .add (.t 33) (.k (.int .i64 1))),o 7 (.mov (.t 34))]))))) (.seq (.seq (.reg [o 35 (.mov (.t 7)),o 36 (.mov (.t 2)),o 37 (.bin .eql (.t 35) (.t 36))]) (.cnd (.t 37) (.seq (.reg [o 6 (.mov (.k (.bool true)))]) .ret) .skip)) (.seq (.seq (.reg [o 38 (.mov (.t 2)),o 39 (.mov (.t 1)),o 40 (.bin .sub (.t 38) (.t 39)),o 41 (.bin .lss (.t 40) (.k (.int .i64 50)))]) (.cnd (.t 41) (.seq (.reg [o 6 (.mov (.k (.bool false)))]) .ret) .skip)) (.seq (.drw [o 42 (.mov (.t 0)),o 43 (.mov (.t 7)),o 44 (.mov (.t 0)),o 45 (.mov (.t 7)),o 46 (.bin .sub (.t 45) (.k (.int .i64 1))),o 47 (.mov (.t 0)),o 48 (.mov (.t 7)),o 49 (.bin .sub (.t 48) (.k (.int .i64 1))),o 50 (.iad z (.t 47) (.t 49)),o 51 (.ld g z (.t 50)),o 52 (.mov (.t 0)),o 53 (.mov (.t 7)),o 54 (.iad z (.t 52) (.t 53)),o 55 (.ld g z (.t 54))] [o 56 (.iad z (.t 42) (.t 43)),on (.st z (.t 56) (.t 51)),o 57 (.iad z (.t 44) (.t 46)),on (.st z (.t 57) (.t 55))]) (.seq (.seq (.reg [o 58 (.mov (.t 7)),o 59 (.mov (.t 1)),o 60 (.bin .sub (.t 58) (.t 59)),o 61 (.bin .geq (.t 60) (.k (.int .i64 2)))]) (.cnd (.t 61) (.seq (.reg [o 62 (.mov (.t 7)),o 63 (.bin .sub (.t 62) (.k (.int .i64 1))),o 9 (.mov (.t 63))]) (.blk 4 (.lop (.seq (.seq (.reg [o 64 (.mov (.t 9)),o 65 (.bin .geq (.t 64) (.k (.int .i64 1)))]) (.cnd (.t 65) .skip (.ext 4))) (.seq (.blk 5 (.seq (.seq (.drw [o 68 (.mov (.t 0)),o 69 (.mov (.t 9)),o 70 (.iad z (.t 68) (.t 69)),o 71 (.ld g z (.t 70)),o 72 (.mov (.t 0)),o 73 (.mov (.t 9)),o 74 (.bin .sub (.t 73) (.k (.int .i64 1))),o 75 (.iad z (.t 72) (.t 74)),o 76 (.ld g z (.t 75))] [o 77 (.call q.less [(.t 71),(.t 76)]),o 78 (.un .not (.t 77))]) (.cnd (.t 78) (.ext 4) .skip)) (.drw [o 79 (.mov (.t 0)),o 80 (.mov (.t 9)),o 81 (.mov (.t 0)),o 82 (.mov (.t 9)),o 83 (.bin .sub (.t 82) (.k (.int .i64 1))),o 84 (.mov (.t 0)),o 85 (.mov (.t 9)),o 86 (.bin .sub (.t 85) (.k (.int .i64 1))),o 87 (.iad z (.t 84) (.t 86)),o 88 (.ld g z (.t 87)),o 89 (.mov (.t 0)),o 90 (.mov (.t 9)),o 91 (.iad z (.t 89) (.t 90)),o 92 (.ld g z (.t 91))] [o 93 (.iad z (.t 79) (.t 80)),on (.st z (.t 93) (.t 88)),o 94 (.iad z (.t 81) (.t 83)),on (.st z (.t 94) (.t 92))]))) (.reg [o 66 (.mov (.t 9)),o 67 (.bin .sub (.t 66) (.k (.int .i64 1))),o 9 (.mov (.t 67))])))))) .skip)) (.seq (.reg [o 95 (.mov (.t 2)),o 96 (.mov (.t 7)),o 97 (.bin .sub (.t 95) (.t 96)),o 98 (.bin .geq (.t 97) (.k (.int .i64 2)))]) (.cnd (.t 98) (.seq (.reg [o 99 (.mov (.t 7)),o 100 (.bin .add (.t 99) (.k (.int .i64 1))),o 10 (.mov (.t 100))]) (.blk 6 (.lop (.seq (.seq (.reg [o 101 (.mov (.t 10)),o 102 (.mov (.t 2)),o 103 (.bin .lss (.t 101) (.t 102))]) (.cnd (.t 103) .skip (.ext 6))) (.seq (.blk 7 (.seq (.seq (.drw [o 106 (.mov (.t 0)),o 107 (.mov (.t 10)),o 108 (.iad z (.t 106) (.t 107)),o 109 (.ld g z (.t 108)),o 110 (.mov (.t 0)),o 111 (.mov (.t 10)),o 112 (.bin .sub (.t 111) (.k (.int .i64 1))),o 113 (.iad z (.t 110) (.t 112)),o 114 (.ld g z (.t 113))] [o 115 (.call q.less [(.t 109),(.t 114)]),o 116 (.un .not (.t 115))]) (.cnd (.t 116) (.ext 6) .skip)) (.drw [o 117 (.mov (.t 0)),o 118 (.mov (.t 10)),o 119 (.mov (.t 0)),o 120 (.mov (.t 10)),o 121 (.bin .sub (.t 120) (.k (.int .i64 1))),o 122 (.mov (.t 0)),o 123 (.mov (.t 10)),o 124 (.bin .sub (.t 123) (.k (.int .i64 1))),o 125 (.iad z (.t 122) (.t 124)),o 126 (.ld g z (.t 125)),o 127 (.mov (.t 0)),o 128 (.mov (.t 10)),o 129 (.iad z (.t 127) (.t 128)),o 130 (.ld g z (.t 129))] [o 131 (.iad z (.t 117) (.t 118)),on (.st z (.t 131) (.t 126)),o 132 (.iad z (.t 119) (.t 121)),on (.st z (.t 132) (.t 130))]))) (.reg [o 104 (.mov (.t 10)),o 105 (.bin .add (.t 104) (.k (.int .i64 1))),o 10 (.mov (.t 105))])))))) .skip)))))))) (.reg [o 15 (.mov (.t 8)),o 16 (.bin .add (.t 15) (.k (.int .i64 1))),o 8 (.mov (.t 16))])))))) (.seq (.reg [o 6 (.mov (.k (.bool false)))]) .ret))))⟩
def Nw (z:Nat) (g:Bool) (q:SN):Fn1:=⟨178,[.t 10,.t 11],(.seq (.reg [o 10 (.mov (.k (.int .i64 0))),o 11 (.mov (.k (.bool false)))]) (.seq (.drw [o 14 (.mov (.t 0)),o 15 (.mov (.t 1)),o 16 (.mov (.t 0)),o 17 (.mov (.t 3)),o 18 (.mov (.t 0)),o 19 (.mov (.t 3)),o 20 (.iad z (.t 18) (.t 19)),o 21 (.ld g z (.t 20)),o 22 (.mov (.t 0)),o 23 (.mov (.t 1)),o 24 (.iad z (.t 22) (.t 23)),o 25 (.ld g z (.t 24))] [o 26 (.iad z (.t 14) (.t 15)),on (.st z (.t 26) (.t 21)),o 27 (.iad z (.t 16) (.t 17)),on (.st z (.t 27) (.t 25))]) (.seq (.reg [o 28 (.mov (.t 1)),o 29 (.bin .add (.t 28) (.k (.int .i64 1))),o 30 (.mov (.t 2)),o 31 (.bin .sub (.t 30) (.k (.int .i64 1))),o 12 (.mov (.t 29)),o 13 (.mov (.t 31))]) (.seq (.blk 0 (.lop (.seq (.seq (.drw [o 32 (.mov (.t 12)),o 33 (.mov (.t 13)),o 34 (.bin .leq (.t 32) (.t 33)),o 35 (.mov (.t 34)),og 36 35 true (.mov (.t 4)),og 37 35 true (.mov (.t 0)),og 38 35 true (.mov (.t 12)),og 39 35 true (.iad z (.t 37) (.t 38)),og 40 35 true (.ld g z (.t 39)),og 41 35 true (.mov (.t 0)),og 42 35 true (.mov (.t 1)),og 43 35 true (.iad z (.t 41) (.t 42)),og 44 35 true (.ld g z (.t 43))] [og 45 35 true (.callv (.t 36) [(.t 40),(.t 44)]),og 46 35 true (.bin .lss (.t 45) (.k (.int .i64 0))),o 47 (.pick (.t 35) (.t 46) (.k (.bool false)))]) (.cnd (.t 47) .skip (.ext 0))) (.blk 1 (.reg [o 48 (.mov (.t 12)),o 49 (.bin .add (.t 48) (.k (.int .i64 1))),o 12 (.mov (.t 49))]))))) (.seq (.blk 2 (.lop (.seq (.seq (.drw [o 50 (.mov (.t 12)),o 51 (.mov (.t 13)),o 52 (.bin .leq (.t 50) (.t 51)),o 53 (.mov (.t 52)),og 54 53 true (.mov (.t 4)),og 55 53 true (.mov (.t 0)),og 56 53 true (.mov (.t 13)),og 57 53 true (.iad z (.t 55) (.t 56)),og 58 53 true (.ld g z (.t 57)),og 59 53 true (.mov (.t 0)),og 60 53 true (.mov (.t 1)),og 61 53 true (.iad z (.t 59) (.t 60)),og 62 53 true (.ld g z (.t 61))] [og 63 53 true (.callv (.t 54) [(.t 58),(.t 62)]),og 64 53 true (.bin .lss (.t 63) (.k (.int .i64 0))),og 65 53 true (.un .not (.t 64)),o 66 (.pick (.t 53) (.t 65) (.k (.bool false)))]) (.cnd (.t 66) .skip (.ext 2))) (.blk 3 (.reg [o 67 (.mov (.t 13)),o 68 (.bin .sub (.t 67) (.k (.int .i64 1))),o 13 (.mov (.t 68))]))))) (.seq (.seq (.reg [o 69 (.mov (.t 12)),o 70 (.mov (.t 13)),o 71 (.bin .gtr (.t 69) (.t 70))]) (.cnd (.t 71) (.seq (.drw [o 72 (.mov (.t 0)),o 73 (.mov (.t 13)),o 74 (.mov (.t 0)),o 75 (.mov (.t 1)),o 76 (.mov (.t 0)),o 77 (.mov (.t 1)),o 78 (.iad z (.t 76) (.t 77)),o 79 (.ld g z (.t 78)),o 80 (.mov (.t 0)),o 81 (.mov (.t 13)),o 82 (.iad z (.t 80) (.t 81)),o 83 (.ld g z (.t 82))] [o 84 (.iad z (.t 72) (.t 73)),on (.st z (.t 84) (.t 79)),o 85 (.iad z (.t 74) (.t 75)),on (.st z (.t 85) (.t 83))]) (.seq (.reg [o 86 (.mov (.t 13)),o 10 (.mov (.t 86)),o 11 (.mov (.k (.bool true)))]) .ret)) .skip)) (.seq (.drw [o 87 (.mov (.t 0)),o 88 (.mov (.t 12)),o 89 (.mov (.t 0)),o 90 (.mov (.t 13)),o 91 (.mov (.t 0)),o 92 (.mov (.t 13)),o 93 (.iad z (.t 91) (.t 92)),o 94 (.ld g z (.t 93)),o 95 (.mov (.t 0)),o 96 (.mov (.t 12)),o 97 (.iad z (.t 95) (.t 96)),o 98 (.ld g z (.t 97))] [o 99 (.iad z (.t 87) (.t 88)),on (.st z (.t 99) (.t 94)),o 100 (.iad z (.t 89) (.t 90)),on (.st z (.t 100) (.t 98))]) (.seq (.reg [o 101 (.mov (.t 12)),o 102 (.bin .add (.t 101) (.k (.int .i64 1))),o 12 (.mov (.t 102))]) (.seq (.reg [o 103 (.mov (.t 13)),o 104 (.bin .sub (.t 103) (.k (.int .i64 1))),o 13 (.mov (.t 104))]) (.seq (.blk 4 (.lop (.blk 5 (.seq (.blk 6 (.lop (.seq (.seq (.drw [o 105 (.mov (.t 12)),o 106 (.mov (.t 13)),o 107 (.bin .leq (.t 105) (.t 106)),o 108 (.mov (.t 107)),og 109 108 true (.mov (.t 4)),og 110 108 true (.mov (.t 0)),og 111 108 true (.mov (.t 12)),og 112 108 true (.iad z (.t 110) (.t 111)),og 113 108 true (.ld g z (.t 112)),og 114 108 true (.mov (.t 0)),og 115 108 true (.mov (.t 1)),og 116 108 true (.iad z (.t 114) (.t 115)),og 117 108 true (.ld g z (.t 116))] [og 118 108 true (.callv (.t 109) [(.t 113),(.t 117)]),og 119 108 true (.bin .lss (.t 118) (.k (.int .i64 0))),o 120 (.pick (.t 108) (.t 119) (.k (.bool false)))]) (.cnd (.t 120) .skip (.ext 6))) (.blk 7 (.reg [o 121 (.mov (.t 12)),o 122 (.bin .add (.t 121) (.k (.int .i64 1))),o 12 (.mov (.t 122))]))))) (.seq (.blk 8 (.lop (.seq (.seq (.drw [o 123 (.mov (.t 12)),o 124 (.mov (.t 13)),o 125 (.bin .leq (.t 123) (.t 124)),o 126 (.mov (.t 125)),og 127 126 true (.mov (.t 4)),og 128 126 true (.mov (.t 0)),og 129 126 true (.mov (.t 13)),og 130 126 true (.iad z (.t 128) (.t 129)),og 131 126 true (.ld g z (.t 130)),og 132 126 true (.mov (.t 0)),og 133 126 true (.mov (.t 1)),og 134 126 true (.iad z (.t 132) (.t 133)),og 135 126 true (.ld g z (.t 134))] [og 136 126 true (.callv (.t 127) [(.t 131),(.t 135)]),og 137 126 true (.bin .lss (.t 136) (.k (.int .i64 0))),og 138 126 true (.un .not (.t 137)),o 139 (.pick (.t 126) (.t 138) (.k (.bool false)))]) (.cnd (.t 139) .skip (.ext 8))) (.blk 9 (.reg [o 140 (.mov (.t 13)),o 141 (.bin .sub (.t 140) (.k (.int .i64 1))),o 13 (.mov (.t 141))]))))) (.seq (.seq (.reg [o 142 (.mov (.t 12)),o 143 (.mov (.t 13)),o 144 (.bin .gtr (.t 142) (.t 143))]) (.cnd (.t 144) (.ext 4) .skip)) (.seq (.drw [o 145 (.mov (.t 0)),o 146 (.mov (.t 12)),o 147 (.mov (.t 0)),o 148 (.mov (.t 13)),o 149 (.mov (.t 0)),o 150 (.mov (.t 13)),o 151 (.iad z (.t 149) (.t 150)),o 152 (.ld g z (.t 151)),o 153 (.mov (.t 0)),o 154 (.mov (.t 12)),o 155 (.iad z (.t 153) (.t 154)),o 156 (.ld g z (.t 155))] [o 157 (.iad z (.t 145) (.t 146)),on (.st z (.t 157) (.t 152)),o 158 (.iad z (.t 147) (.t 148)),on (.st z (.t 158) (.t 156))]) (.seq (.reg [o 159 (.mov (.t 12)),o 160 (.bin .add (.t 159) (.k (.int .i64 1))),o 12 (.mov (.t 160))]) (.reg [o 161 (.mov (.t 13)),o 162 (.bin .sub (.t 161) (.k (.int .i64 1))),o 13 (.mov (.t 162))]))))))))) (.seq (.drw [o 163 (.mov (.t 0)),o 164 (.mov (.t 13)),o 165 (.mov (.t 0)),o 166 (.mov (.t 1)),o 167 (.mov (.t 0)),o 168 (.mov (.t 1)),o 169 (.iad z (.t 167) (.t 168)),o 170 (.ld g z (.t 169)),o 171 (.mov (.t 0)),o 172 (.mov (.t 13)),o 173 (.iad z (.t 171) (.t 172)),o 174 (.ld g z (.t 173))] [o 175 (.iad z (.t 163) (.t 164)),on (.st z (.t 175) (.t 170)),o 176 (.iad z (.t 165) (.t 166)),on (.st z (.t 176) (.t 174))]) (.seq (.reg [o 177 (.mov (.t 13)),o 10 (.mov (.t 177)),o 11 (.mov (.k (.bool false)))]) .ret))))))))))))⟩
def A0h (z:Nat) (g:Bool) (q:SN):Fn1:=⟨168,[.t 8,.t 9],(.seq (.reg [o 8 (.mov (.k (.int .i64 0))),o 9 (.mov (.k (.bool false)))]) (.seq (.drw [o 12 (.mov (.t 0)),o 13 (.mov (.t 1)),o 14 (.mov (.t 0)),o 15 (.mov (.t 3)),o 16 (.mov (.t 0)),o 17 (.mov (.t 3)),o 18 (.iad z (.t 16) (.t 17)),o 19 (.ld g z (.t 18)),o 20 (.mov (.t 0)),o 21 (.mov (.t 1)),o 22 (.iad z (.t 20) (.t 21)),o 23 (.ld g z (.t 22))] [o 24 (.iad z (.t 12) (.t 13)),on (.st z (.t 24) (.t 19)),o 25 (.iad z (.t 14) (.t 15)),on (.st z (.t 25) (.t 23))]) (.seq (.reg [o 26 (.mov (.t 1)),o 27 (.bin .add (.t 26) (.k (.int .i64 1))),o 28 (.mov (.t 2)),o 29 (.bin .sub (.t 28) (.k (.int .i64 1))),o 10 (.mov (.t 27)),o 11 (.mov (.t 29))]) (.seq (.blk 0 (.lop (.seq (.seq (.drw [o 30 (.mov (.t 10)),o 31 (.mov (.t 11)),o 32 (.bin .leq (.t 30) (.t 31)),o 33 (.mov (.t 32)),og 34 33 true (.mov (.t 0)),og 35 33 true (.mov (.t 10)),og 36 33 true (.iad z (.t 34) (.t 35)),og 37 33 true (.ld g z (.t 36)),og 38 33 true (.mov (.t 0)),og 39 33 true (.mov (.t 1)),og 40 33 true (.iad z (.t 38) (.t 39)),og 41 33 true (.ld g z (.t 40))] [og 42 33 true (.call q.less [(.t 37),(.t 41)]),o 43 (.pick (.t 33) (.t 42) (.k (.bool false)))]) (.cnd (.t 43) .skip (.ext 0))) (.blk 1 (.reg [o 44 (.mov (.t 10)),o 45 (.bin .add (.t 44) (.k (.int .i64 1))),o 10 (.mov (.t 45))]))))) (.seq (.blk 2 (.lop (.seq (.seq (.drw [o 46 (.mov (.t 10)),o 47 (.mov (.t 11)),o 48 (.bin .leq (.t 46) (.t 47)),o 49 (.mov (.t 48)),og 50 49 true (.mov (.t 0)),og 51 49 true (.mov (.t 11)),og 52 49 true (.iad z (.t 50) (.t 51)),og 53 49 true (.ld g z (.t 52)),og 54 49 true (.mov (.t 0)),og 55 49 true (.mov (.t 1)),og 56 49 true (.iad z (.t 54) (.t 55)),og 57 49 true (.ld g z (.t 56))] [og 58 49 true (.call q.less [(.t 53),(.t 57)]),og 59 49 true (.un .not (.t 58)),o 60 (.pick (.t 49) (.t 59) (.k (.bool false)))]) (.cnd (.t 60) .skip (.ext 2))) (.blk 3 (.reg [o 61 (.mov (.t 11)),o 62 (.bin .sub (.t 61) (.k (.int .i64 1))),o 11 (.mov (.t 62))]))))) (.seq (.seq (.reg [o 63 (.mov (.t 10)),o 64 (.mov (.t 11)),o 65 (.bin .gtr (.t 63) (.t 64))]) (.cnd (.t 65) (.seq (.drw [o 66 (.mov (.t 0)),o 67 (.mov (.t 11)),o 68 (.mov (.t 0)),o 69 (.mov (.t 1)),o 70 (.mov (.t 0)),o 71 (.mov (.t 1)),o 72 (.iad z (.t 70) (.t 71)),o 73 (.ld g z (.t 72)),o 74 (.mov (.t 0)),o 75 (.mov (.t 11)),o 76 (.iad z (.t 74) (.t 75)),o 77 (.ld g z (.t 76))] [o 78 (.iad z (.t 66) (.t 67)),on (.st z (.t 78) (.t 73)),o 79 (.iad z (.t 68) (.t 69)),on (.st z (.t 79) (.t 77))]) (.seq (.reg [o 80 (.mov (.t 11)),o 8 (.mov (.t 80)),o 9 (.mov (.k (.bool true)))]) .ret)) .skip)) (.seq (.drw [o 81 (.mov (.t 0)),o 82 (.mov (.t 10)),o 83 (.mov (.t 0)),o 84 (.mov (.t 11)),o 85 (.mov (.t 0)),o 86 (.mov (.t 11)),o 87 (.iad z (.t 85) (.t 86)),o 88 (.ld g z (.t 87)),o 89 (.mov (.t 0)),o 90 (.mov (.t 10)),o 91 (.iad z (.t 89) (.t 90)),o 92 (.ld g z (.t 91))] [o 93 (.iad z (.t 81) (.t 82)),on (.st z (.t 93) (.t 88)),o 94 (.iad z (.t 83) (.t 84)),on (.st z (.t 94) (.t 92))]) (.seq (.reg [o 95 (.mov (.t 10)),o 96 (.bin .add (.t 95) (.k (.int .i64 1))),o 10 (.mov (.t 96))]) (.seq (.reg [o 97 (.mov (.t 11)),o 98 (.bin .sub (.t 97) (.k (.int .i64 1))),o 11 (.mov (.t 98))]) (.seq (.blk 4 (.lop (.blk 5 (.seq (.blk 6 (.lop (.seq (.seq (.drw [o 99 (.mov (.t 10)),o 100 (.mov (.t 11)),o 101 (.bin .leq (.t 99) (.t 100)),o 102 (.mov (.t 101)),og 103 102 true (.mov (.t 0)),og 104 102 true (.mov (.t 10)),og 105 102 true (.iad z (.t 103) (.t 104)),og 106 102 true (.ld g z (.t 105)),og 107 102 true (.mov (.t 0)),og 108 102 true (.mov (.t 1)),og 109 102 true (.iad z (.t 107) (.t 108)),og 110 102 true (.ld g z (.t 109))] [og 111 102 true (.call q.less [(.t 106),(.t 110)]),o 112 (.pick (.t 102) (.t 111) (.k (.bool false)))]) (.cnd (.t 112) .skip (.ext 6))) (.blk 7 (.reg [o 113 (.mov (.t 10)),o 114 (.bin .add (.t 113) (.k (.int .i64 1))),o 10 (.mov (.t 114))]))))) (.seq (.blk 8 (.lop (.seq (.seq (.drw [o 115 (.mov (.t 10)),o 116 (.mov (.t 11)),o 117 (.bin .leq (.t 115) (.t 116)),o 118 (.mov (.t 117)),og 119 118 true (.mov (.t 0)),og 120 118 true (.mov (.t 11)),og 121 118 true (.iad z (.t 119) (.t 120)),og 122 118 true (.ld g z (.t 121)),og 123 118 true (.mov (.t 0)),og 124 118 true (.mov (.t 1)),og 125 118 true (.iad z (.t 123) (.t 124)),og 126 118 true (.ld g z (.t 125))] [og 127 118 true (.call q.less [(.t 122),(.t 126)]),og 128 118 true (.un .not (.t 127)),o 129 (.pick (.t 118) (.t 128) (.k (.bool false)))]) (.cnd (.t 129) .skip (.ext 8))) (.blk 9 (.reg [o 130 (.mov (.t 11)),o 131 (.bin .sub (.t 130) (.k (.int .i64 1))),o 11 (.mov (.t 131))]))))) (.seq (.seq (.reg [o 132 (.mov (.t 10)),o 133 (.mov (.t 11)),o 134 (.bin .gtr (.t 132) (.t 133))]) (.cnd (.t 134) (.ext 4) .skip)) (.seq (.drw [o 135 (.mov (.t 0)),o 136 (.mov (.t 10)),o 137 (.mov (.t 0)),o 138 (.mov (.t 11)),o 139 (.mov (.t 0)),o 140 (.mov (.t 11)),o 141 (.iad z (.t 139) (.t 140)),o 142 (.ld g z (.t 141)),o 143 (.mov (.t 0)),o 144 (.mov (.t 10)),o 145 (.iad z (.t 143) (.t 144)),o 146 (.ld g z (.t 145))] [o 147 (.iad z (.t 135) (.t 136)),on (.st z (.t 147) (.t 142)),o 148 (.iad z (.t 137) (.t 138)),on (.st z (.t 148) (.t 146))]) (.seq (.reg [o 149 (.mov (.t 10)),o 150 (.bin .add (.t 149) (.k (.int .i64 1))),o 10 (.mov (.t 150))]) (.reg [o 151 (.mov (.t 11)),o 152 (.bin .sub (.t 151) (.k (.int .i64 1))),o 11 (.mov (.t 152))]))))))))) (.seq (.drw [o 153 (.mov (.t 0)),o 154 (.mov (.t 11)),o 155 (.mov (.t 0)),o 156 (.mov (.t 1)),o 157 (.mov (.t 0)),o 158 (.mov (.t 1)),o 159 (.iad z (.t 157) (.t 158)),o 160 (.ld g z (.t 159)),o 161 (.mov (.t 0)),o 162 (.mov (.t 11)),o 163 (.iad z (.t 161) (.t 162)),o 164 (.ld g z (.t 163))] [o 165 (.iad z (.t 153) (.t 154)),on (.st z (.t 165) (.t 160)),o 166 (.iad z (.t 155) (.t 156)),on (.st z (.t 166) (.t 164))]) (.seq (.reg [o 167 (.mov (.t 11)),o 8 (.mov (.t 167)),o 9 (.mov (.k (.bool false)))]) .ret))))))))))))⟩
def I2 (z:Nat) (g:Bool) (q:SN):Fn1:=⟨90,[.t 10],(.seq (.reg [o 10 (.mov (.k (.int .i64 0)))]) (.seq (.drw [o 13 (.mov (.t 0)),o 14 (.mov (.t 1)),o 15 (.mov (.t 0)),o 16 (.mov (.t 3)),o 17 (.mov (.t 0)),o 18 (.mov (.t 3)),o 19 (.iad z (.t 17) (.t 18)),o 20 (.ld g z (.t 19)),o 21 (.mov (.t 0)),o 22 (.mov (.t 1)),o 23 (.iad z (.t 21) (.t 22)),o 24 (.ld g z (.t 23))] [o 25 (.iad z (.t 13) (.t 14)),on (.st z (.t 25) (.t 20)),o 26 (.iad z (.t 15) (.t 16)),on (.st z (.t 26) (.t 24))]) (.seq (.reg [o 27 (.mov (.t 1)),o 28 (.bin .add (.t 27) (.k (.int .i64 1))),o 29 (.mov (.t 2)),o 30 (.bin .sub (.t 29) (.k (.int .i64 1))),o 11 (.mov (.t 28)),o 12 (.mov (.t 30))]) (.seq (.blk 0 (.lop (.blk 1 (.seq (.blk 2 (.lop (.seq (.seq (.drw [o 31 (.mov (.t 11)),o 32 (.mov (.t 12)),o 33 (.bin .leq (.t 31) (.t 32)),o 34 (.mov (.t 33)),og 35 34 true (.mov (.t 4)),og 36 34 true (.mov (.t 0)),og 37 34 true (.mov (.t 1)),og 38 34 true (.iad z (.t 36) (.t 37)),og 39 34 true (.ld g z (.t 38)),og 40 34 true (.mov (.t 0)),og 41 34 true (.mov (.t 11)),og 42 34 true (.iad z (.t 40) (.t 41)),og 43 34 true (.ld g z (.t 42))] [og 44 34 true (.callv (.t 35) [(.t 39),(.t 43)]),og 45 34 true (.bin .lss (.t 44) (.k (.int .i64 0))),og 46 34 true (.un .not (.t 45)),o 47 (.pick (.t 34) (.t 46) (.k (.bool false)))]) (.cnd (.t 47) .skip (.ext 2))) (.blk 3 (.reg [o 48 (.mov (.t 11)),o 49 (.bin .add (.t 48) (.k (.int .i64 1))),o 11 (.mov (.t 49))]))))) (.seq (.blk 4 (.lop (.seq (.seq (.drw [o 50 (.mov (.t 11)),o 51 (.mov (.t 12)),o 52 (.bin .leq (.t 50) (.t 51)),o 53 (.mov (.t 52)),og 54 53 true (.mov (.t 4)),og 55 53 true (.mov (.t 0)),og 56 53 true (.mov (.t 1)),og 57 53 true (.iad z (.t 55) (.t 56)),og 58 53 true (.ld g z (.t 57)),og 59 53 true (.mov (.t 0)),og 60 53 true (.mov (.t 12)),og 61 53 true (.iad z (.t 59) (.t 60)),og 62 53 true (.ld g z (.t 61))] [og 63 53 true (.callv (.t 54) [(.t 58),(.t 62)]),og 64 53 true (.bin .lss (.t 63) (.k (.int .i64 0))),o 65 (.pick (.t 53) (.t 64) (.k (.bool false)))]) (.cnd (.t 65) .skip (.ext 4))) (.blk 5 (.reg [o 66 (.mov (.t 12)),o 67 (.bin .sub (.t 66) (.k (.int .i64 1))),o 12 (.mov (.t 67))]))))) (.seq (.seq (.reg [o 68 (.mov (.t 11)),o 69 (.mov (.t 12)),o 70 (.bin .gtr (.t 68) (.t 69))]) (.cnd (.t 70) (.ext 0) .skip)) (.seq (.drw [o 71 (.mov (.t 0)),o 72 (.mov (.t 11)),o 73 (.mov (.t 0)),o 74 (.mov (.t 12)),o 75 (.mov (.t 0)),o 76 (.mov (.t 12)),o 77 (.iad z (.t 75) (.t 76)),o 78 (.ld g z (.t 77)),o 79 (.mov (.t 0)),o 80 (.mov (.t 11)),o 81 (.iad z (.t 79) (.t 80)),o 82 (.ld g z (.t 81))] [o 83 (.iad z (.t 71) (.t 72)),on (.st z (.t 83) (.t 78)),o 84 (.iad z (.t 73) (.t 74)),on (.st z (.t 84) (.t 82))]) (.seq (.reg [o 85 (.mov (.t 11)),o 86 (.bin .add (.t 85) (.k (.int .i64 1))),o 11 (.mov (.t 86))]) (.reg [o 87 (.mov (.t 12)),o 88 (.bin .sub (.t 87) (.k (.int .i64 1))),o 12 (.mov (.t 88))]))))))))) (.seq (.reg [o 89 (.mov (.t 11)),o 10 (.mov (.t 89))]) .ret)))))⟩
def Nx (z:Nat) (g:Bool) (q:SN):Fn1:=⟨84,[.t 8],(.seq (.reg [o 8 (.mov (.k (.int .i64 0)))]) (.seq (.drw [o 11 (.mov (.t 0)),o 12 (.mov (.t 1)),o 13 (.mov (.t 0)),o 14 (.mov (.t 3)),o 15 (.mov (.t 0)),o 16 (.mov (.t 3)),o 17 (.iad z (.t 15) (.t 16)),o 18 (.ld g z (.t 17)),o 19 (.mov (.t 0)),o 20 (.mov (.t 1)),o 21 (.iad z (.t 19) (.t 20)),o 22 (.ld g z (.t 21))] [o 23 (.iad z (.t 11) (.t 12)),on (.st z (.t 23) (.t 18)),o 24 (.iad z (.t 13) (.t 14)),on (.st z (.t 24) (.t 22))]) (.seq (.reg [o 25 (.mov (.t 1)),o 26 (.bin .add (.t 25) (.k (.int .i64 1))),o 27 (.mov (.t 2)),o 28 (.bin .sub (.t 27) (.k (.int .i64 1))),o 9 (.mov (.t 26)),o 10 (.mov (.t 28))]) (.seq (.blk 0 (.lop (.blk 1 (.seq (.blk 2 (.lop (.seq (.seq (.drw [o 29 (.mov (.t 9)),o 30 (.mov (.t 10)),o 31 (.bin .leq (.t 29) (.t 30)),o 32 (.mov (.t 31)),og 33 32 true (.mov (.t 0)),og 34 32 true (.mov (.t 1)),og 35 32 true (.iad z (.t 33) (.t 34)),og 36 32 true (.ld g z (.t 35)),og 37 32 true (.mov (.t 0)),og 38 32 true (.mov (.t 9)),og 39 32 true (.iad z (.t 37) (.t 38)),og 40 32 true (.ld g z (.t 39))] [og 41 32 true (.call q.less [(.t 36),(.t 40)]),og 42 32 true (.un .not (.t 41)),o 43 (.pick (.t 32) (.t 42) (.k (.bool false)))]) (.cnd (.t 43) .skip (.ext 2))) (.blk 3 (.reg [o 44 (.mov (.t 9)),o 45 (.bin .add (.t 44) (.k (.int .i64 1))),o 9 (.mov (.t 45))]))))) (.seq (.blk 4 (.lop (.seq (.seq (.drw [o 46 (.mov (.t 9)),o 47 (.mov (.t 10)),o 48 (.bin .leq (.t 46) (.t 47)),o 49 (.mov (.t 48)),og 50 49 true (.mov (.t 0)),og 51 49 true (.mov (.t 1)),og 52 49 true (.iad z (.t 50) (.t 51)),og 53 49 true (.ld g z (.t 52)),og 54 49 true (.mov (.t 0)),og 55 49 true (.mov (.t 10)),og 56 49 true (.iad z (.t 54) (.t 55)),og 57 49 true (.ld g z (.t 56))] [og 58 49 true (.call q.less [(.t 53),(.t 57)]),o 59 (.pick (.t 49) (.t 58) (.k (.bool false)))]) (.cnd (.t 59) .skip (.ext 4))) (.blk 5 (.reg [o 60 (.mov (.t 10)),o 61 (.bin .sub (.t 60) (.k (.int .i64 1))),o 10 (.mov (.t 61))]))))) (.seq (.seq (.reg [o 62 (.mov (.t 9)),o 63 (.mov (.t 10)),o 64 (.bin .gtr (.t 62) (.t 63))]) (.cnd (.t 64) (.ext 0) .skip)) (.seq (.drw [o 65 (.mov (.t 0)),o 66 (.mov (.t 9)),o 67 (.mov (.t 0)),o 68 (.mov (.t 10)),o 69 (.mov (.t 0)),o 70 (.mov (.t 10)),o 71 (.iad z (.t 69) (.t 70)),o 72 (.ld g z (.t 71)),o 73 (.mov (.t 0)),o 74 (.mov (.t 9)),o 75 (.iad z (.t 73) (.t 74)),o 76 (.ld g z (.t 75))] [o 77 (.iad z (.t 65) (.t 66)),on (.st z (.t 77) (.t 72)),o 78 (.iad z (.t 67) (.t 68)),on (.st z (.t 78) (.t 76))]) (.seq (.reg [o 79 (.mov (.t 9)),o 80 (.bin .add (.t 79) (.k (.int .i64 1))),o 9 (.mov (.t 80))]) (.reg [o 81 (.mov (.t 10)),o 82 (.bin .sub (.t 81) (.k (.int .i64 1))),o 10 (.mov (.t 82))]))))))))) (.seq (.reg [o 83 (.mov (.t 9)),o 8 (.mov (.t 83))]) .ret)))))⟩
def Mv (z:Nat) (g:Bool) (q:SN):Fn1:=⟨148,[],(.seq (.reg [o 10 (.mov (.k (.bool true)))]) (.seq (.reg [o 11 (.mov (.k (.bool true)))]) (.blk 0 (.lop (.blk 1 (.seq (.reg [o 21 (.mov (.t 2)),o 22 (.mov (.t 1)),o 23 (.bin .sub (.t 21) (.t 22)),o 12 (.mov (.t 23))]) (.seq (.seq (.reg [o 24 (.mov (.t 12)),o 25 (.bin .leq (.t 24) (.k (.int .i64 12)))]) (.cnd (.t 25) (.seq (.reg [o 26 (.mov (.t 0)),o 27 (.mov (.t 1)),o 28 (.mov (.t 2)),o 29 (.mov (.t 4)),o 30 (.call q.insertionSort [(.t 26),(.t 27),(.t 28),(.t 29)])]) .ret) .skip)) (.seq (.seq (.reg [o 31 (.mov (.t 3)),o 32 (.bin .eql (.t 31) (.k (.int .i64 0)))]) (.cnd (.t 32) (.seq (.reg [o 33 (.mov (.t 0)),o 34 (.mov (.t 1)),o 35 (.mov (.t 2)),o 36 (.mov (.t 4)),o 37 (.call q.heapSort [(.t 33),(.t 34),(.t 35),(.t 36)])]) .ret) .skip)) (.seq (.seq (.reg [o 38 (.mov (.t 10)),o 39 (.un .not (.t 38))]) (.cnd (.t 39) (.seq (.reg [o 40 (.mov (.t 0)),o 41 (.mov (.t 1)),o 42 (.mov (.t 2)),o 43 (.mov (.t 4)),o 44 (.call q.breakPatterns [(.t 40),(.t 41),(.t 42),(.t 43)])]) (.reg [o 45 (.mov (.t 3)),o 46 (.bin .sub (.t 45) (.k (.int .i64 1))),o 3 (.mov (.t 46))])) .skip)) (.seq (.reg [o 48 (.mov (.t 0)),o 49 (.mov (.t 1)),o 50 (.mov (.t 2)),o 51 (.mov (.t 4)),o 52 (.call q.choosePivot [(.t 48),(.t 49),(.t 50),(.t 51)]),o 47 (.mov (.t 52)),o 53 (.ext 0 (.t 47)),o 54 (.ext 1 (.t 47)),o 13 (.mov (.t 53)),o 14 (.mov (.t 54))]) (.seq (.seq (.reg [o 55 (.mov (.t 14)),o 56 (.bin .eql (.t 55) (.k (.int .i64 2)))]) (.cnd (.t 56) (.seq (.reg [o 57 (.mov (.t 0)),o 58 (.mov (.t 1)),o 59 (.mov (.t 2)),o 60 (.mov (.t 4)),o 61 (.call q.reverseRange [(.t 57),(.t 58),(.t 59),(.t 60)])]) (.seq (.reg [o 62 (.mov (.t 2)),o 63 (.bin .sub (.t 62) (.k (.int .i64 1))),o 64 (.mov (.t 13)),o 65 (.mov (.t 1)),o 66 (.bin .sub (.t 64) (.t 65)),o 67 (.bin .sub (.t 63) (.t 66)),o 13 (.mov (.t 67))]) (.reg [o 14 (.mov (.k (.int .i64 1)))]))) .skip)) (.seq (.seq (.reg [o 68 (.mov (.t 10)),o 69 (.mov (.t 68)),og 70 69 true (.mov (.t 11)),o 71 (.pick (.t 69) (.t 70) (.k (.bool false))),o 72 (.mov (.t 71)),og 73 72 true (.mov (.t 14)),og 74 72 true (.bin .eql (.t 73) (.k (.int .i64 1))),o 75 (.pick (.t 72) (.t 74) (.k (.bool false)))]) (.cnd (.t 75) (.seq (.reg [o 76 (.mov (.t 0)),o 77 (.mov (.t 1)),o 78 (.mov (.t 2)),o 79 (.mov (.t 4)),o 80 (.call q.partialInsertionSort [(.t 76),(.t 77),(.t 78),(.t 79)])]) (.cnd (.t 80) .ret .skip)) .skip)) (.seq (.seq (.drw [o 81 (.mov (.t 1)),o 82 (.bin .gtr (.t 81) (.k (.int .i64 0))),o 83 (.mov (.t 82)),og 84 83 true (.mov (.t 4)),og 85 83 true (.mov (.t 0)),og 86 83 true (.mov (.t 1)),og 87 83 true (.bin .sub (.t 86) (.k (.int .i64 1))),og 88 83 true (.iad z (.t 85) (.t 87)),og 89 83 true (.ld g z (.t 88)),og 90 83 true (.mov (.t 0)),og 91 83 true (.mov (.t 13)),og 92 83 true (.iad z (.t 90) (.t 91)),og 93 83 true (.ld g z (.t 92))] [og 94 83 true (.callv (.t 84) [(.t 89),(.t 93)]),og 95 83 true (.bin .lss (.t 94) (.k (.int .i64 0))),og 96 83 true (.un .not (.t 95)),o 97 (.pick (.t 83) (.t 96) (.k (.bool false)))]) (.cnd (.t 97) (.seq (.reg [o 98 (.mov (.t 0)),o 99 (.mov (.t 1)),o 100 (.mov (.t 2)),o 101 (.mov (.t 13)),o 102 (.mov (.t 4)),o 103 (.call q.partitionEqual [(.t 98),(.t 99),(.t 100),(.t 101),(.t 102)]),o 15 (.mov (.t 103))]) (.seq (.reg [o 104 (.mov (.t 15)),o 1 (.mov (.t 104))]) (.ext 1))) .skip)) (.seq (.reg [o 106 (.mov (.t 0)),o 107 (.mov (.t 1)),o 108 (.mov (.t 2)),o 109 (.mov (.t 13)),o 110 (.mov (.t 4)),o 111 (.call q.partition [(.t 106),(.t 107),(.t 108),(.t 109),(.t 110)]),o 105 (.mov (.t 111)),o 112 (.ext 0 (.t 105)),o 113 (.ext 1 (.t 105)),o 16 (.mov (.t 112)),o 17 (.mov (.t 113))]) (.seq (.reg [o 114 (.mov (.t 17)),o 11 (.mov (.t 114))]) (.seq (.reg [o 115 (.mov (.t 16)),o 116 (.mov (.t 1)),o 117 (.bin .sub (.t 115) (.t 116)),o 118 (.mov (.t 2)),o 119 (.mov (.t 16)),o 120 (.bin .sub (.t 118) (.t 119)),o 18 (.mov (.t 117)),o 19 (.mov (.t 120))]) (.seq (.reg [o 121 (.mov (.t 12)),o 122 (.bin .quo (.t 121) (.k (.int .i64 8))),o 20 (.mov (.t 122))]) (.seq (.reg [o 123 (.mov (.t 18)),o 124 (.mov (.t 19)),o 125 (.bin .lss (.t 123) (.t 124))]) (.cnd (.t 125) (.seq (.reg [o 126 (.mov (.t 18)),o 127 (.mov (.t 20)),o 128 (.bin .geq (.t 126) (.t 127)),o 10 (.mov (.t 128))]) (.seq (.reg [o 129 (.mov (.t 0)),o 130 (.mov (.t 1)),o 131 (.mov (.t 16)),o 132 (.mov (.t 3)),o 133 (.mov (.t 4)),o 134 (.call q.pdqsort [(.t 129),(.t 130),(.t 131),(.t 132),(.t 133)])]) (.reg [o 135 (.mov (.t 16)),o 136 (.bin .add (.t 135) (.k (.int .i64 1))),o 1 (.mov (.t 136))]))) (.seq (.reg [o 137 (.mov (.t 19)),o 138 (.mov (.t 20)),o 139 (.bin .geq (.t 137) (.t 138)),o 10 (.mov (.t 139))]) (.seq (.reg [o 140 (.mov (.t 0)),o 141 (.mov (.t 16)),o 142 (.bin .add (.t 141) (.k (.int .i64 1))),o 143 (.mov (.t 2)),o 144 (.mov (.t 3)),o 145 (.mov (.t 4)),o 146 (.call q.pdqsort [(.t 140),(.t 142),(.t 143),(.t 144),(.t 145)])]) (.reg [o 147 (.mov (.t 16)),o 2 (.mov (.t 147))]))))))))))))))))))))))⟩
def A5m (z:Nat) (g:Bool) (q:SN):Fn1:=⟨134,[],(.seq (.reg [o 8 (.mov (.k (.bool true)))]) (.seq (.reg [o 9 (.mov (.k (.bool true)))]) (.blk 0 (.lop (.blk 1 (.seq (.reg [o 19 (.mov (.t 2)),o 20 (.mov (.t 1)),o 21 (.bin .sub (.t 19) (.t 20)),o 10 (.mov (.t 21))]) (.seq (.seq (.reg [o 22 (.mov (.t 10)),o 23 (.bin .leq (.t 22) (.k (.int .i64 12)))]) (.cnd (.t 23) (.seq (.reg [o 24 (.mov (.t 0)),o 25 (.mov (.t 1)),o 26 (.mov (.t 2)),o 27 (.call q.insertionSort [(.t 24),(.t 25),(.t 26)])]) .ret) .skip)) (.seq (.seq (.reg [o 28 (.mov (.t 3)),o 29 (.bin .eql (.t 28) (.k (.int .i64 0)))]) (.cnd (.t 29) (.seq (.reg [o 30 (.mov (.t 0)),o 31 (.mov (.t 1)),o 32 (.mov (.t 2)),o 33 (.call q.heapSort [(.t 30),(.t 31),(.t 32)])]) .ret) .skip)) (.seq (.seq (.reg [o 34 (.mov (.t 8)),o 35 (.un .not (.t 34))]) (.cnd (.t 35) (.seq (.reg [o 36 (.mov (.t 0)),o 37 (.mov (.t 1)),o 38 (.mov (.t 2)),o 39 (.call q.breakPatterns [(.t 36),(.t 37),(.t 38)])]) (.reg [o 40 (.mov (.t 3)),o 41 (.bin .sub (.t 40) (.k (.int .i64 1))),o 3 (.mov (.t 41))])) .skip)) (.seq (.reg [o 43 (.mov (.t 0)),o 44 (.mov (.t 1)),o 45 (.mov (.t 2)),o 46 (.call q.choosePivot [(.t 43),(.t 44),(.t 45)]),o 42 (.mov (.t 46)),o 47 (.ext 0 (.t 42)),o 48 (.ext 1 (.t 42)),o 11 (.mov (.t 47)),o 12 (.mov (.t 48))]) (.seq (.seq (.reg [o 49 (.mov (.t 12)),o 50 (.bin .eql (.t 49) (.k (.int .i64 2)))]) (.cnd (.t 50) (.seq (.reg [o 51 (.mov (.t 0)),o 52 (.mov (.t 1)),o 53 (.mov (.t 2)),o 54 (.call q.reverseRange [(.t 51),(.t 52),(.t 53)])]) (.seq (.reg [o 55 (.mov (.t 2)),o 56 (.bin .sub (.t 55) (.k (.int .i64 1))),o 57 (.mov (.t 11)),o 58 (.mov (.t 1)),o 59 (.bin .sub (.t 57) (.t 58)),o 60 (.bin .sub (.t 56) (.t 59)),o 11 (.mov (.t 60))]) (.reg [o 12 (.mov (.k (.int .i64 1)))]))) .skip)) (.seq (.seq (.reg [o 61 (.mov (.t 8)),o 62 (.mov (.t 61)),og 63 62 true (.mov (.t 9)),o 64 (.pick (.t 62) (.t 63) (.k (.bool false))),o 65 (.mov (.t 64)),og 66 65 true (.mov (.t 12)),og 67 65 true (.bin .eql (.t 66) (.k (.int .i64 1))),o 68 (.pick (.t 65) (.t 67) (.k (.bool false)))]) (.cnd (.t 68) (.seq (.reg [o 69 (.mov (.t 0)),o 70 (.mov (.t 1)),o 71 (.mov (.t 2)),o 72 (.call q.partialInsertionSort [(.t 69),(.t 70),(.t 71)])]) (.cnd (.t 72) .ret .skip)) .skip)) (.seq (.seq (.drw [o 73 (.mov (.t 1)),o 74 (.bin .gtr (.t 73) (.k (.int .i64 0))),o 75 (.mov (.t 74)),og 76 75 true (.mov (.t 0)),og 77 75 true (.mov (.t 1)),og 78 75 true (.bin .sub (.t 77) (.k (.int .i64 1))),og 79 75 true (.iad z (.t 76) (.t 78)),og 80 75 true (.ld g z (.t 79)),og 81 75 true (.mov (.t 0)),og 82 75 true (.mov (.t 11)),og 83 75 true (.iad z (.t 81) (.t 82)),og 84 75 true (.ld g z (.t 83))] [og 85 75 true (.call q.less [(.t 80),(.t 84)]),og 86 75 true (.un .not (.t 85)),o 87 (.pick (.t 75) (.t 86) (.k (.bool false)))]) (.cnd (.t 87) (.seq (.reg [o 88 (.mov (.t 0)),o 89 (.mov (.t 1)),o 90 (.mov (.t 2)),o 91 (.mov (.t 11)),o 92 (.call q.partitionEqual [(.t 88),(.t 89),(.t 90),(.t 91)]),o 13 (.mov (.t 92))]) (.seq (.reg [o 93 (.mov (.t 13)),o 1 (.mov (.t 93))]) (.ext 1))) .skip)) (.seq (.reg [o 95 (.mov (.t 0)),o 96 (.mov (.t 1)),o 97 (.mov (.t 2)),o 98 (.mov (.t 11)),o 99 (.call q.partition [(.t 95),(.t 96),(.t 97),(.t 98)]),o 94 (.mov (.t 99)),o 100 (.ext 0 (.t 94)),o 101 (.ext 1 (.t 94)),o 14 (.mov (.t 100)),o 15 (.mov (.t 101))]) (.seq (.reg [o 102 (.mov (.t 15)),o 9 (.mov (.t 102))]) (.seq (.reg [o 103 (.mov (.t 14)),o 104 (.mov (.t 1)),o 105 (.bin .sub (.t 103) (.t 104)),o 106 (.mov (.t 2)),o 107 (.mov (.t 14)),o 108 (.bin .sub (.t 106) (.t 107)),o 16 (.mov (.t 105)),o 17 (.mov (.t 108))]) (.seq (.reg [o 109 (.mov (.t 10)),o 110 (.bin .quo (.t 109) (.k (.int .i64 8))),o 18 (.mov (.t 110))]) (.seq (.reg [o 111 (.mov (.t 16)),o 112 (.mov (.t 17)),o 113 (.bin .lss (.t 111) (.t 112))]) (.cnd (.t 113) (.seq (.reg [o 114 (.mov (.t 16)),o 115 (.mov (.t 18)),o 116 (.bin .geq (.t 114) (.t 115)),o 8 (.mov (.t 116))]) (.seq (.reg [o 117 (.mov (.t 0)),o 118 (.mov (.t 1)),o 119 (.mov (.t 14)),o 120 (.mov (.t 3)),o 121 (.call q.pdqsort [(.t 117),(.t 118),(.t 119),(.t 120)])]) (.reg [o 122 (.mov (.t 14)),o 123 (.bin .add (.t 122) (.k (.int .i64 1))),o 1 (.mov (.t 123))]))) (.seq (.reg [o 124 (.mov (.t 17)),o 125 (.mov (.t 18)),o 126 (.bin .geq (.t 124) (.t 125)),o 8 (.mov (.t 126))]) (.seq (.reg [o 127 (.mov (.t 0)),o 128 (.mov (.t 14)),o 129 (.bin .add (.t 128) (.k (.int .i64 1))),o 130 (.mov (.t 2)),o 131 (.mov (.t 3)),o 132 (.call q.pdqsort [(.t 127),(.t 129),(.t 130),(.t 131)])]) (.reg [o 133 (.mov (.t 14)),o 2 (.mov (.t 133))]))))))))))))))))))))))⟩
def Jl (z:Nat) (g:Bool) (q:SN):Fn1:=⟨34,[],(.seq (.reg [o 10 (.mov (.t 1)),o 8 (.mov (.t 10))]) (.seq (.reg [o 11 (.mov (.t 2)),o 12 (.bin .sub (.t 11) (.k (.int .i64 1))),o 9 (.mov (.t 12))]) (.blk 0 (.lop (.seq (.seq (.reg [o 13 (.mov (.t 8)),o 14 (.mov (.t 9)),o 15 (.bin .lss (.t 13) (.t 14))]) (.cnd (.t 15) .skip (.ext 0))) (.blk 1 (.seq (.drw [o 16 (.mov (.t 0)),o 17 (.mov (.t 8)),o 18 (.mov (.t 0)),o 19 (.mov (.t 9)),o 20 (.mov (.t 0)),o 21 (.mov (.t 9)),o 22 (.iad z (.t 20) (.t 21)),o 23 (.ld g z (.t 22)),o 24 (.mov (.t 0)),o 25 (.mov (.t 8)),o 26 (.iad z (.t 24) (.t 25)),o 27 (.ld g z (.t 26))] [o 28 (.iad z (.t 16) (.t 17)),on (.st z (.t 28) (.t 23)),o 29 (.iad z (.t 18) (.t 19)),on (.st z (.t 29) (.t 27))]) (.seq (.reg [o 30 (.mov (.t 8)),o 31 (.bin .add (.t 30) (.k (.int .i64 1))),o 8 (.mov (.t 31))]) (.reg [o 32 (.mov (.t 9)),o 33 (.bin .sub (.t 32) (.k (.int .i64 1))),o 9 (.mov (.t 33))])))))))))⟩
def Sh (z:Nat) (g:Bool) (q:SN):Fn1:=⟨32,[],(.seq (.reg [o 8 (.mov (.t 1)),o 6 (.mov (.t 8))]) (.seq (.reg [o 9 (.mov (.t 2)),o 10 (.bin .sub (.t 9) (.k (.int .i64 1))),o 7 (.mov (.t 10))]) (.blk 0 (.lop (.seq (.seq (.reg [o 11 (.mov (.t 6)),o 12 (.mov (.t 7)),o 13 (.bin .lss (.t 11) (.t 12))]) (.cnd (.t 13) .skip (.ext 0))) (.blk 1 (.seq (.drw [o 14 (.mov (.t 0)),o 15 (.mov (.t 6)),o 16 (.mov (.t 0)),o 17 (.mov (.t 7)),o 18 (.mov (.t 0)),o 19 (.mov (.t 7)),o 20 (.iad z (.t 18) (.t 19)),o 21 (.ld g z (.t 20)),o 22 (.mov (.t 0)),o 23 (.mov (.t 6)),o 24 (.iad z (.t 22) (.t 23)),o 25 (.ld g z (.t 24))] [o 26 (.iad z (.t 14) (.t 15)),on (.st z (.t 26) (.t 21)),o 27 (.iad z (.t 16) (.t 17)),on (.st z (.t 27) (.t 25))]) (.seq (.reg [o 28 (.mov (.t 6)),o 29 (.bin .add (.t 28) (.k (.int .i64 1))),o 6 (.mov (.t 29))]) (.reg [o 30 (.mov (.t 7)),o 31 (.bin .sub (.t 30) (.k (.int .i64 1))),o 7 (.mov (.t 31))])))))))))⟩
def Rb (z:Nat) (g:Bool) (q:SN):Fn1:=⟨82,[],(.seq (.reg [o 12 (.mov (.t 1)),o 10 (.mov (.t 12))]) (.blk 0 (.lop (.blk 1 (.seq (.reg [o 13 (.mov (.t 10)),o 14 (.bin .mul (.k (.int .i64 2)) (.t 13)),o 15 (.bin .add (.t 14) (.k (.int .i64 1))),o 11 (.mov (.t 15))]) (.seq (.seq (.reg [o 16 (.mov (.t 11)),o 17 (.mov (.t 2)),o 18 (.bin .geq (.t 16) (.t 17))]) (.cnd (.t 18) (.ext 0) .skip)) (.seq (.seq (.drw [o 19 (.mov (.t 11)),o 20 (.bin .add (.t 19) (.k (.int .i64 1))),o 21 (.mov (.t 2)),o 22 (.bin .lss (.t 20) (.t 21)),o 23 (.mov (.t 22)),og 24 23 true (.mov (.t 4)),og 25 23 true (.mov (.t 0)),og 26 23 true (.mov (.t 3)),og 27 23 true (.mov (.t 11)),og 28 23 true (.bin .add (.t 26) (.t 27)),og 29 23 true (.iad z (.t 25) (.t 28)),og 30 23 true (.ld g z (.t 29)),og 31 23 true (.mov (.t 0)),og 32 23 true (.mov (.t 3)),og 33 23 true (.mov (.t 11)),og 34 23 true (.bin .add (.t 32) (.t 33)),og 35 23 true (.bin .add (.t 34) (.k (.int .i64 1))),og 36 23 true (.iad z (.t 31) (.t 35)),og 37 23 true (.ld g z (.t 36))] [og 38 23 true (.callv (.t 24) [(.t 30),(.t 37)]),og 39 23 true (.bin .lss (.t 38) (.k (.int .i64 0))),o 40 (.pick (.t 23) (.t 39) (.k (.bool false)))]) (.cnd (.t 40) (.reg [o 41 (.mov (.t 11)),o 42 (.bin .add (.t 41) (.k (.int .i64 1))),o 11 (.mov (.t 42))]) .skip)) (.seq (.seq (.drw [o 43 (.mov (.t 4)),o 44 (.mov (.t 0)),o 45 (.mov (.t 3)),o 46 (.mov (.t 10)),o 47 (.bin .add (.t 45) (.t 46)),o 48 (.iad z (.t 44) (.t 47)),o 49 (.ld g z (.t 48)),o 50 (.mov (.t 0)),o 51 (.mov (.t 3)),o 52 (.mov (.t 11)),o 53 (.bin .add (.t 51) (.t 52)),o 54 (.iad z (.t 50) (.t 53)),o 55 (.ld g z (.t 54))] [o 56 (.callv (.t 43) [(.t 49),(.t 55)]),o 57 (.bin .lss (.t 56) (.k (.int .i64 0))),o 58 (.un .not (.t 57))]) (.cnd (.t 58) .ret .skip)) (.seq (.drw [o 59 (.mov (.t 0)),o 60 (.mov (.t 3)),o 61 (.mov (.t 10)),o 62 (.bin .add (.t 60) (.t 61)),o 63 (.mov (.t 0)),o 64 (.mov (.t 3)),o 65 (.mov (.t 11)),o 66 (.bin .add (.t 64) (.t 65)),o 67 (.mov (.t 0)),o 68 (.mov (.t 3)),o 69 (.mov (.t 11)),o 70 (.bin .add (.t 68) (.t 69)),o 71 (.iad z (.t 67) (.t 70)),o 72 (.ld g z (.t 71)),o 73 (.mov (.t 0)),o 74 (.mov (.t 3)),o 75 (.mov (.t 10)),o 76 (.bin .add (.t 74) (.t 75)),o 77 (.iad z (.t 73) (.t 76)),o 78 (.ld g z (.t 77))] [o 79 (.iad z (.t 59) (.t 62)),on (.st z (.t 79) (.t 72)),o 80 (.iad z (.t 63) (.t 66)),on (.st z (.t 80) (.t 78))]) (.reg [o 81 (.mov (.t 11)),o 10 (.mov (.t 81))]))))))))))⟩
def A34 (z:Nat) (g:Bool) (q:SN):Fn1:=⟨76,[],(.seq (.reg [o 10 (.mov (.t 1)),o 8 (.mov (.t 10))]) (.blk 0 (.lop (.blk 1 (.seq (.reg [o 11 (.mov (.t 8)),o 12 (.bin .mul (.k (.int .i64 2)) (.t 11)),o 13 (.bin .add (.t 12) (.k (.int .i64 1))),o 9 (.mov (.t 13))]) (.seq (.seq (.reg [o 14 (.mov (.t 9)),o 15 (.mov (.t 2)),o 16 (.bin .geq (.t 14) (.t 15))]) (.cnd (.t 16) (.ext 0) .skip)) (.seq (.seq (.drw [o 17 (.mov (.t 9)),o 18 (.bin .add (.t 17) (.k (.int .i64 1))),o 19 (.mov (.t 2)),o 20 (.bin .lss (.t 18) (.t 19)),o 21 (.mov (.t 20)),og 22 21 true (.mov (.t 0)),og 23 21 true (.mov (.t 3)),og 24 21 true (.mov (.t 9)),og 25 21 true (.bin .add (.t 23) (.t 24)),og 26 21 true (.iad z (.t 22) (.t 25)),og 27 21 true (.ld g z (.t 26)),og 28 21 true (.mov (.t 0)),og 29 21 true (.mov (.t 3)),og 30 21 true (.mov (.t 9)),og 31 21 true (.bin .add (.t 29) (.t 30)),og 32 21 true (.bin .add (.t 31) (.k (.int .i64 1))),og 33 21 true (.iad z (.t 28) (.t 32)),og 34 21 true (.ld g z (.t 33))] [og 35 21 true (.call q.less [(.t 27),(.t 34)]),o 36 (.pick (.t 21) (.t 35) (.k (.bool false)))]) (.cnd (.t 36) (.reg [o 37 (.mov (.t 9)),o 38 (.bin .add (.t 37) (.k (.int .i64 1))),o 9 (.mov (.t 38))]) .skip)) (.seq (.seq (.drw [o 39 (.mov (.t 0)),o 40 (.mov (.t 3)),o 41 (.mov (.t 8)),o 42 (.bin .add (.t 40) (.t 41)),o 43 (.iad z (.t 39) (.t 42)),o 44 (.ld g z (.t 43)),o 45 (.mov (.t 0)),o 46 (.mov (.t 3)),o 47 (.mov (.t 9)),o 48 (.bin .add (.t 46) (.t 47)),o 49 (.iad z (.t 45) (.t 48)),o 50 (.ld g z (.t 49))] [o 51 (.call q.less [(.t 44),(.t 50)]),o 52 (.un .not (.t 51))]) (.cnd (.t 52) .ret .skip)) (.seq (.drw [o 53 (.mov (.t 0)),o 54 (.mov (.t 3)),o 55 (.mov (.t 8)),o 56 (.bin .add (.t 54) (.t 55)),o 57 (.mov (.t 0)),o 58 (.mov (.t 3)),o 59 (.mov (.t 9)),o 60 (.bin .add (.t 58) (.t 59)),o 61 (.mov (.t 0)),o 62 (.mov (.t 3)),o 63 (.mov (.t 9)),o 64 (.bin .add (.t 62) (.t 63)),o 65 (.iad z (.t 61) (.t 64)),o 66 (.ld g z (.t 65)),o 67 (.mov (.t 0)),o 68 (.mov (.t 3)),o 69 (.mov (.t 8)),o 70 (.bin .add (.t 68) (.t 69)),o 71 (.iad z (.t 67) (.t 70)),o 72 (.ld g z (.t 71))] [o 73 (.iad z (.t 53) (.t 56)),on (.st z (.t 73) (.t 66)),o 74 (.iad z (.t 57) (.t 60)),on (.st z (.t 74) (.t 72))]) (.reg [o 75 (.mov (.t 9)),o 8 (.mov (.t 75))]))))))))))⟩
def G_Compact (z:Nat) (g:Bool) (ze:List GV):Fn1:=⟨61,[.t 2],(.seq (.reg [o 2 (.mov (.k .nilS))]) (.seq (.seq (.reg [o 6 (.mov (.t 0)),o 7 (.len false (.t 6)),o 8 (.bin .lss (.t 7) (.k (.int .i64 2)))]) (.cnd (.t 8) (.seq (.reg [o 9 (.mov (.t 0)),o 2 (.mov (.t 9))]) .ret) .skip)) (.seq (.seq (.reg [o 3 (.mov (.k (.int .i64 1)))]) (.blk 0 (.lop (.seq (.seq (.reg [o 10 (.mov (.t 3)),o 11 (.mov (.t 0)),o 12 (.len false (.t 11)),o 13 (.bin .lss (.t 10) (.t 12))]) (.cnd (.t 13) .skip (.ext 0))) (.seq (.blk 1 (.seq (.drw [o 16 (.mov (.t 0)),o 17 (.mov (.t 3)),o 18 (.iad z (.t 16) (.t 17)),o 19 (.ld g z (.t 18)),o 20 (.mov (.t 0)),o 21 (.mov (.t 3)),o 22 (.bin .sub (.t 21) (.k (.int .i64 1))),o 23 (.iad z (.t 20) (.t 22)),o 24 (.ld g z (.t 23))] [o 25 (.bin .eql (.t 19) (.t 24))]) (.cnd (.t 25) (.seq (.reg [o 26 (.mov (.t 0)),o 27 (.mov (.t 3)),o 28 (.cut z (.t 26) (some (.t 27)) none),o 4 (.mov (.t 28))]) (.seq (.seq (.reg [o 5 (.mov (.k (.int .i64 1)))]) (.blk 2 (.lop (.seq (.seq (.reg [o 29 (.mov (.t 5)),o 30 (.mov (.t 4)),o 31 (.len false (.t 30)),o 32 (.bin .lss (.t 29) (.t 31))]) (.cnd (.t 32) .skip (.ext 2))) (.seq (.blk 3 (.seq (.drw [o 35 (.mov (.t 4)),o 36 (.mov (.t 5)),o 37 (.iad z (.t 35) (.t 36)),o 38 (.ld g z (.t 37)),o 39 (.mov (.t 4)),o 40 (.mov (.t 5)),o 41 (.bin .sub (.t 40) (.k (.int .i64 1))),o 42 (.iad z (.t 39) (.t 41)),o 43 (.ld g z (.t 42))] [o 44 (.bin .neq (.t 38) (.t 43))]) (.cnd (.t 44) (.seq (.reg [o 45 (.mov (.t 0)),o 46 (.mov (.t 3)),o 47 (.mov (.t 4)),o 48 (.mov (.t 5)),o 49 (.iad z (.t 47) (.t 48)),o 50 (.ld g z (.t 49)),o 51 (.iad z (.t 45) (.t 46)),on (.st z (.t 51) (.t 50))]) (.reg [o 52 (.mov (.t 3)),o 53 (.bin .add (.t 52) (.k (.int .i64 1))),o 3 (.mov (.t 53))])) .skip))) (.reg [o 33 (.mov (.t 5)),o 34 (.bin .add (.t 33) (.k (.int .i64 1))),o 5 (.mov (.t 34))])))))) (.seq (.reg [o 54 (.mov (.t 0)),o 55 (.mov (.t 3)),o 56 (.cut z (.t 54) (some (.t 55)) none),on (.clr z ze (.t 56))]) (.seq (.reg [o 57 (.mov (.t 0)),o 58 (.mov (.t 3)),o 59 (.cut z (.t 57) none (some (.t 58))),o 2 (.mov (.t 59))]) .ret)))) .skip))) (.reg [o 14 (.mov (.t 3)),o 15 (.bin .add (.t 14) (.k (.int .i64 1))),o 3 (.mov (.t 15))])))))) (.seq (.reg [o 60 (.mov (.t 0)),o 2 (.mov (.t 60))]) .ret))))⟩
def Ad0 (z:Nat) (g:Bool) (q:SN):Fn1:=⟨11,[],(.seq (.reg [o 3 (.mov (.t 0)),o 4 (.len false (.t 3)),o 2 (.mov (.t 4))]) (.reg [o 5 (.mov (.t 0)),o 6 (.mov (.t 2)),o 7 (.mov (.t 2)),o 8 (.cvi .u64 (.t 7)),o 9 (.call Fo [(.t 8)]),o 10 (.call q.pdqsort [(.t 5),(.k (.int .i64 0)),(.t 6),(.t 9)])]))⟩
def A6s (z:Nat) (g:Bool) (q:SN):Fn1:=⟨14,[],(.seq (.reg [o 5 (.mov (.t 0)),o 6 (.len false (.t 5)),o 4 (.mov (.t 6))]) (.reg [o 7 (.mov (.t 0)),o 8 (.mov (.t 4)),o 9 (.mov (.t 4)),o 10 (.cvi .u64 (.t 9)),o 11 (.call Fo [(.t 10)]),o 12 (.mov (.t 1)),o 13 (.call q.pdqsort [(.t 7),(.k (.int .i64 0)),(.t 8),(.t 11),(.t 12)])]))⟩
structure SrtO (α:Type) [Inhabited α] (lt:α→α→Bool) where
 e:El α
 q:SN
 call:∀ σ x y,Ret Tryz.prog q.less [e.val x,e.val y] σ (.bool (lt x y)) σ
 h_insertionSort:A8 Tryz.prog q.insertionSort=some (Px e.p.z e.g q)
 h_siftDown:A8 Tryz.prog q.siftDown=some (A34 e.p.z e.g q)
 h_heapSort:A8 Tryz.prog q.heapSort=some (A33 e.p.z e.g q)
 h_reverseRange:A8 Tryz.prog q.reverseRange=some (Sh e.p.z e.g q)
 h_partialInsertionSort:A8 Tryz.prog q.partialInsertionSort=some (Im e.p.z e.g q)
 h_partitionEqual:A8 Tryz.prog q.partitionEqual=some (Nx e.p.z e.g q)
 h_partition:A8 Tryz.prog q.partition=some (A0h e.p.z e.g q)
 h_breakPatterns:A8 Tryz.prog q.breakPatterns=some (Pw e.p.z e.g q)
 h_order2:A8 Tryz.prog q.order2=some (A85 e.p.z e.g q)
 h_median:A8 Tryz.prog q.median=some (A84 e.p.z e.g q)
 h_medianAdjacent:A8 Tryz.prog q.medianAdjacent=some (Nv e.p.z e.g q)
 h_choosePivot:A8 Tryz.prog q.choosePivot=some (Us e.p.z e.g q)
 h_pdqsort:A8 Tryz.prog q.pdqsort=some (A5m e.p.z e.g q)
 nS:Nat
 h_Sort:A8 Tryz.prog nS=some (Ad0 e.p.z e.g q)
 hnp:q.slices_nextPowerOfTwo=Av
 hxs:q.slices_xorshift_Next=As
structure SrtC (α:Type) [Inhabited α] (lt:α→α→Bool) where
 e:El α
 q:SN
 f:Nat
 k:α→α→Int
 call:∀ σ x y,Ret Tryz.prog f [e.val x,e.val y] σ (gi (k x y)) σ
 klt:∀ x y,decide (k x y<0)=lt x y
 h_insertionSort:A8 Tryz.prog q.insertionSort=some (Il e.p.z e.g q)
 h_siftDown:A8 Tryz.prog q.siftDown=some (Rb e.p.z e.g q)
 h_heapSort:A8 Tryz.prog q.heapSort=some (Ra e.p.z e.g q)
 h_reverseRange:A8 Tryz.prog q.reverseRange=some (Jl e.p.z e.g q)
 h_partialInsertionSort:A8 Tryz.prog q.partialInsertionSort=some (Fc e.p.z e.g q)
 h_partitionEqual:A8 Tryz.prog q.partitionEqual=some (I2 e.p.z e.g q)
 h_partition:A8 Tryz.prog q.partition=some (Nw e.p.z e.g q)
 h_breakPatterns:A8 Tryz.prog q.breakPatterns=some (G6 e.p.z e.g q)
 h_order2:A8 Tryz.prog q.order2=some (Yg e.p.z e.g q)
 h_median:A8 Tryz.prog q.median=some (Yf e.p.z e.g q)
 h_medianAdjacent:A8 Tryz.prog q.medianAdjacent=some (I1 e.p.z e.g q)
 h_choosePivot:A8 Tryz.prog q.choosePivot=some (Fp e.p.z e.g q)
 h_pdqsort:A8 Tryz.prog q.pdqsort=some (Mv e.p.z e.g q)
 nS:Nat
 h_Sort:A8 Tryz.prog nS=some (A6s e.p.z e.g q)
 hnp:q.slices_nextPowerOfTwo=Av
 hxs:q.slices_xorshift_Next=As
end
namespace C
open Go Go.RowKit Go.Proofs.YtbeoiejnogdkpaaGreat.Sy Go.Sort
variable {α:Type} [Inhabited α] {lt:α→α→Bool} {σ0 σ:St} {rs:List Thg} {k:Nat} {v:GV} {d:Array α}
theorem Aab (S:SrtC α lt) (H:Holds S.e σ0 σ rs k v d) {a b:Nat} (hab:a≤b) (hb:b≤d.size) (hs:d.size≤1099511627776):∃ τ,Ret Tryz.prog S.q.insertionSort [v,gi a,gi b,.fn S.f []] σ (.tup []) τ∧Holds S.e σ0 τ rs k v (insertionSort lt d a b):=by
 have key:∃ r τ,Ret Tryz.prog S.q.insertionSort [v,gi a,gi b,.fn S.f []] σ r τ∧r= .tup []∧Holds S.e σ0 τ rs k v (insertionSort lt d a b):=by
  refine Bw S.h_insertionSort (Z0z rfl) ?_
  simp +contextual (disch:=omega) only[go_sem,Il]
  refine He (fun n env τ=>∃(i:Nat) (D:Array α),env 0=v∧env 1=gi a∧env 2=gi b∧env 3= .fn S.f []∧env 8=gi i∧b - i=n∧a<i∧D.size=d.size∧σ.length≤τ.length∧Holds S.e σ0 τ rs k v D∧insOuter lt a b i D=insertionSort lt d a b) (b - (a+1)) ⟨a+1,d,rfl,rfl,rfl,rfl,rfl,rfl,by omega,rfl,Nat.le_refl _,H,rfl⟩ ?_
  rintro J hJ n env τ ⟨i,D,e0,e1,e2,e3,ei,hn,hai,hD,hle,hH,hE⟩
  rw[insOuter] at hE
  rcases Nat.lt_or_ge i b with hi|hi
  ·rw[if_pos hi] at hE
   have c0:decide ((i:Int)<b)=true:=by simp;omega
   simp +contextual (disch:=omega) only[go_sem,e0,e1,e2,e3,ei,c0]
   refine He (fun n env τ=>∃(j:Nat) (E:Array α),env 0=v∧env 1=gi a∧env 2=gi b∧env 3= .fn S.f []∧env 8=gi i∧env 9=gi j∧j=n∧j≤i∧E.size=d.size∧σ.length≤τ.length∧Holds S.e σ0 τ rs k v E∧insInner lt a j E=insInner lt a i D) i ⟨i,D,by simp +contextual (disch:=omega) only[go_sem,e0],by simp +contextual (disch:=omega) only[go_sem,e1],by simp +contextual (disch:=omega) only[go_sem,e2],by simp +contextual (disch:=omega) only[go_sem,e3],by simp +contextual (disch:=omega) only[go_sem,ei],rfl,rfl,Nat.le_refl _,hD,hle,hH,rfl⟩ ?_
   clear hH hle e0 e1 e2 e3 ei
   rintro J2 hJ2 n2 env τ ⟨j,E,e0,e1,e2,e3,ei,ej,hnj,hji,hE2,hle,hH,hI⟩
   have fin:∀ env',env' 0=v→env' 1=gi a→env' 2=gi b→env' 3= .fn S.f []→env' 8=gi ((i:Int)+1)→insInner lt a i D=E→∃ k',k'<n∧J k' env' τ:=fun env' h0 h1 h2 h3 h6 hEq=>⟨b - (i+1),by omega,hJ _ _ _ ⟨i+1,E,h0,h1,h2,h3,h6,rfl,by omega,hE2,hle,hH,by rw[← hEq];exact hE⟩⟩
   have cj:decide ((a:Int)<j)=decide (a<j):=by simp
   by_cases hc:a<j
   ·obtain⟨m,rfl⟩:∃ m,j=m+1:=⟨j - 1,by omega⟩
    rw[decide_eq_true hc] at cj
    have cj:decide ((a:Int)<(m:Int)+1)=true:=cj
    have n1:Bk (some (.int .i64 ((m:Int)+1)))=some (m+1):=C5 (by simp)
    have m1:(m:Int)+1 - 1=m:=by omega
    obtain⟨τ1,τ2,s1,s2,hH2,hl2⟩:=hH.sw (a:=m+1) (b:=m) (by omega) (by omega)
    rw[insInner] at hI
    simp +contextual (disch:=omega) only[go_sem,e0,e1,e2,e3,ei,ej,cj,n1,m1,A4,hH.iad (j:=m+1) (by omega),hH.ld (j:=m+1) (by omega),hH.iad (j:=m) (by omega),hH.ld (j:=m) (by omega)]
    refine Ac (S.call _ _ _) ?_
    cases hl:lt E[m+1]! E[m]! with
    |true=>
     rw[if_pos (by simp[hl];omega)] at hI
     simp +contextual (disch:=omega) only[go_sem,e0,e1,e2,e3,ei,ej,cj,n1,m1,A4,hl,S.klt,hH.iad (j:=m+1) (by omega),hH.ld (j:=m+1) (by omega),hH.iad (j:=m) (by omega),hH.ld (j:=m) (by omega),s1,s2]
     refine⟨m,by omega,hJ2 _ _ _ ⟨m,swp E (m+1) m,?_,?_,?_,?_,?_,?_,rfl,by omega,by rw[Go.Sort.swp_size];exact hE2,by omega,hH2,hI⟩⟩
     all_goals simp +contextual (disch:=omega) only[go_sem,e0,e1,e2,e3,ei,ej,m1]
    |false=>
     rw[if_neg (by simp[hl])] at hI
     simp +contextual (disch:=omega) only[go_sem,e0,e1,e2,e3,ei,ej,cj,hl,S.klt]
     refine fin _ ?_ ?_ ?_ ?_ ?_ hI.symm
     all_goals simp +contextual (disch:=omega) only[go_sem,e0,e1,e2,e3,ei]
   ·rw[decide_eq_false hc] at cj
    have hI:insInner lt a i D=E:=by
     rw[← hI]
     cases j with
     |zero=>rfl
     |succ j=>rw[insInner,if_neg (by simp;intro h;omega)]
    simp +contextual (disch:=omega) only[go_sem,e0,e1,e2,e3,ei,ej,cj]
    refine fin _ ?_ ?_ ?_ ?_ ?_ hI
    all_goals simp +contextual (disch:=omega) only[go_sem,e0,e1,e2,e3,ei]
  ·rw[if_neg (by omega)] at hE
   have c0:decide ((i:Int)<b)=false:=by simp;omega
   simp +contextual (disch:=omega) only[go_sem,e0,e1,e2,e3,ei,c0]
   exact⟨_,rfl,hle,rfl,by rw[← hE];exact hH⟩
 obtain⟨r,τ,R,rfl,h⟩:=key
 exact⟨τ,R,h⟩
end C
namespace C
open Go Go.RowKit Go.Proofs.YtbeoiejnogdkpaaGreat.Sy Go.Sort
variable {α:Type} [Inhabited α] {lt:α→α→Bool} {σ0 σ:St} {rs:List Thg} {k:Nat} {v:GV} {d:Array α}
theorem Gv (lt:α→α→Bool) (hi F:Nat):∀(n root:Nat) (d:Array α),hi - root≤n→(siftDown lt hi F root d).size=d.size
 |0,root,d,h=>by rw[siftDown,dif_pos (by omega)]
 |n+1,root,d,h=>by
  rw[siftDown]
  split
  ·rfl
  ·split
   ·split
    ·rfl
    ·split
     ·rw[Gv lt hi F n _ _ (by omega),Go.Sort.swp_size]
     ·rfl
   ·split
    ·rfl
    ·rw[Gv lt hi F n _ _ (by omega),Go.Sort.swp_size]
theorem A6t (S:SrtC α lt) (H:Holds S.e σ0 σ rs k v d) {lo hi F:Nat} (hb:F+hi≤d.size) (hlo:lo≤d.size) (hs:d.size≤1099511627776):∃ τ,Ret Tryz.prog S.q.siftDown [v,gi lo,gi hi,gi F,.fn S.f []] σ (.tup []) τ∧Holds S.e σ0 τ rs k v (siftDown lt hi F lo d):=by
 have key:∃ r τ,Ret Tryz.prog S.q.siftDown [v,gi lo,gi hi,gi F,.fn S.f []] σ r τ∧r= .tup []∧Holds S.e σ0 τ rs k v (siftDown lt hi F lo d):=by
  refine Bw S.h_siftDown (Z0z rfl) ?_
  simp +contextual (disch:=omega) only[go_sem,Rb]
  refine He (fun n env τ=>∃(r:Nat) (D:Array α),env 0=v∧env 1=gi lo∧env 2=gi hi∧env 3=gi F∧env 4= .fn S.f []∧env 10=gi r∧hi - r=n∧r≤d.size∧D.size=d.size∧σ.length≤τ.length∧Holds S.e σ0 τ rs k v D∧siftDown lt hi F r D=siftDown lt hi F lo d) (hi - lo) ⟨lo,d,rfl,rfl,rfl,rfl,rfl,rfl,rfl,hlo,rfl,Nat.le_refl _,H,rfl⟩ ?_
  rintro J hJ n env τ ⟨r,D,e0,e1,e2,e3,e4,er,hn,hr,hD,hle,hH,hE⟩
  rw[siftDown] at hE
  have w2:IntKind.i64.wrap (2*(r:Int))=2*(r:Int):=D6 (by omega) (by omega)
  by_cases h1:2*r+1≥hi
  ·rw[dif_pos h1] at hE
   have c1:decide ((hi:Int)≤2*(r:Int)+1)=true:=by simp;omega
   simp +contextual (disch:=omega) only[go_sem,e0,e1,e2,e3,e4,er,w2,c1]
   exact⟨_,rfl,hle,rfl,by rw[← hE];exact hH⟩
  ·rw[dif_neg h1] at hE
   have c1:decide ((hi:Int)≤2*(r:Int)+1)=false:=by simp;omega
   have nr:Bk (some (.int .i64 ((F:Int)+r)))=some (F+r):=C5 (by simp)
   have ir:=hH.iad (j:=F+r) (by omega)
   have lr:=hH.ld (j:=F+r) (by omega)
   by_cases hA:2*r+2<hi
   ·have cA:decide (2*(r:Int)+1+1<hi)=true:=by simp;omega
    have nc:Bk (some (.int .i64 ((F:Int)+(2*(r:Int)+1))))=some (F+(2*r+1)):=C5 (by simp)
    have nc2:Bk (some (.int .i64 ((F:Int)+(2*(r:Int)+1)+1)))=some (F+(2*r+1)+1):=C5 (by simp)
    have ic:=hH.iad (j:=F+(2*r+1)) (by omega)
    have lc:=hH.ld (j:=F+(2*r+1)) (by omega)
    have ic2:=hH.iad (j:=F+(2*r+1)+1) (by omega)
    have lc2:=hH.ld (j:=F+(2*r+1)+1) (by omega)
    simp +contextual (disch:=omega) only[go_sem,e0,e1,e2,e3,e4,er,w2,c1,cA,nc,nc2,ic,lc,ic2,lc2]
    refine Ac (S.call _ _ _) ?_
    cases hl1:lt D[F+(2*r+1)]! D[F+(2*r+1)+1]! with
    |true=>
     clear nc ic lc
     rw[if_pos (by simp[hl1];omega)] at hE
     rw[dif_pos hA] at hE
     obtain⟨c,hc⟩:∃ c,c=2*r+2:=⟨_,rfl⟩
     rw[← hc] at hE
     have ncI:2*(r:Int)+1+1=c:=by omega
     have nc:Bk (some (.int .i64 ((F:Int)+c)))=some (F+c):=C5 (by simp)
     have ic:=hH.iad (j:=F+c) (by omega)
     have lc:=hH.ld (j:=F+c) (by omega)
     simp +contextual (disch:=omega) only[go_sem,e0,e1,e2,e3,e4,er,w2,cA,nr,nc,ncI,hl1,S.klt,ir,lr,ic,lc]
     obtain⟨τ1,τ2,s1,s2,hH2,hl2⟩:=hH.sw (a:=F+r) (b:=F+c) (by omega) (by omega)
     refine Ac (S.call _ _ _) ?_
     cases hl:lt D[F+r]! D[F+c]! with
     |true=>
      rw[if_neg (by simp[hl])] at hE
      simp +contextual (disch:=omega) only[go_sem,e0,e1,e2,e3,e4,er,w2,c1,cA,nr,nc,ncI,hl,S.klt,ir,lr,ic,lc,s1,s2]
      refine⟨hi - c,by omega,hJ _ _ _ ⟨c,swp D (F+r) (F+c),?_,?_,?_,?_,?_,?_,rfl,by omega,by rw[Go.Sort.swp_size];exact hD,by omega,hH2,hE⟩⟩
      all_goals simp +contextual (disch:=omega) only[go_sem,e0,e1,e2,e3,e4,er,ncI]
     |false=>
      rw[if_pos (by simp[hl])] at hE
      simp +contextual (disch:=omega) only[go_sem,e0,e1,e2,e3,e4,er,hl,S.klt]
      exact⟨_,rfl,hle,rfl,by rw[← hE];exact hH⟩
    |false=>
     rw[if_neg (by simp[hl1])] at hE
     obtain⟨c,hc⟩:∃ c,c=2*r+1:=⟨_,rfl⟩
     rw[← hc] at hE ic lc
     have ncI:2*(r:Int)+1=c:=by omega
     rw[← hc,ncI] at nc
     simp +contextual (disch:=omega) only[go_sem,e0,e1,e2,e3,e4,er,w2,cA,nr,nc,ncI,hl1,S.klt,ir,lr,ic,lc]
     obtain⟨τ1,τ2,s1,s2,hH2,hl2⟩:=hH.sw (a:=F+r) (b:=F+c) (by omega) (by omega)
     refine Ac (S.call _ _ _) ?_
     cases hl:lt D[F+r]! D[F+c]! with
     |true=>
      rw[if_neg (by simp[hl])] at hE
      simp +contextual (disch:=omega) only[go_sem,e0,e1,e2,e3,e4,er,w2,c1,cA,nr,nc,ncI,hl,S.klt,ir,lr,ic,lc,s1,s2]
      refine⟨hi - c,by omega,hJ _ _ _ ⟨c,swp D (F+r) (F+c),?_,?_,?_,?_,?_,?_,rfl,by omega,by rw[Go.Sort.swp_size];exact hD,by omega,hH2,hE⟩⟩
      all_goals simp +contextual (disch:=omega) only[go_sem,e0,e1,e2,e3,e4,er,ncI]
     |false=>
      rw[if_pos (by simp[hl])] at hE
      simp +contextual (disch:=omega) only[go_sem,e0,e1,e2,e3,e4,er,hl,S.klt]
      exact⟨_,rfl,hle,rfl,by rw[← hE];exact hH⟩
   ·have cA:decide (2*(r:Int)+1+1<hi)=false:=by simp;omega
    rw[if_neg (by simp;intro h;omega)] at hE
    obtain⟨c,hc⟩:∃ c,c=2*r+1:=⟨_,rfl⟩
    rw[← hc] at hE
    have ncI:2*(r:Int)+1=c:=by omega
    have nc:Bk (some (.int .i64 ((F:Int)+c)))=some (F+c):=C5 (by simp)
    have ic:=hH.iad (j:=F+c) (by omega)
    have lc:=hH.ld (j:=F+c) (by omega)
    rw[ncI] at c1 cA
    simp +contextual (disch:=omega) only[go_sem,e0,e1,e2,e3,e4,er,w2,c1,cA,nr,nc,ncI,ir,lr,ic,lc]
    obtain⟨τ1,τ2,s1,s2,hH2,hl2⟩:=hH.sw (a:=F+r) (b:=F+c) (by omega) (by omega)
    refine Ac (S.call _ _ _) ?_
    cases hl:lt D[F+r]! D[F+c]! with
    |true=>
     rw[if_neg (by simp[hl])] at hE
     simp +contextual (disch:=omega) only[go_sem,e0,e1,e2,e3,e4,er,w2,c1,cA,nr,nc,ncI,hl,S.klt,ir,lr,ic,lc,s1,s2]
     refine⟨hi - c,by omega,hJ _ _ _ ⟨c,swp D (F+r) (F+c),?_,?_,?_,?_,?_,?_,rfl,by omega,by rw[Go.Sort.swp_size];exact hD,by omega,hH2,hE⟩⟩
     all_goals simp +contextual (disch:=omega) only[go_sem,e0,e1,e2,e3,e4,er,ncI]
    |false=>
     rw[if_pos (by simp[hl])] at hE
     simp +contextual (disch:=omega) only[go_sem,e0,e1,e2,e3,e4,er,hl,S.klt]
     exact⟨_,rfl,hle,rfl,by rw[← hE];exact hH⟩
 obtain⟨r,τ,R,rfl,h⟩:=key
 exact⟨τ,R,h⟩
theorem Ad1 (S:SrtC α lt) (H:Holds S.e σ0 σ rs k v d) {a b:Nat} (hab:a≤b) (hb:b≤d.size) (hs:d.size≤1099511627776):∃ τ,Ret Tryz.prog S.q.heapSort [v,gi a,gi b,.fn S.f []] σ (.tup []) τ∧Holds S.e σ0 τ rs k v (heapSort lt d a b):=by
 have key:∃ r τ,Ret Tryz.prog S.q.heapSort [v,gi a,gi b,.fn S.f []] σ r τ∧r= .tup []∧Holds S.e σ0 τ rs k v (heapSort lt d a b):=by
  refine Bw S.h_heapSort (Z0z rfl) ?_
  obtain⟨h,hh⟩:∃ h,h=b - a:=⟨_,rfl⟩
  have hI:(b:Int) - a=h:=by omega
  have hq:((h:Int) - 1).tdiv 2=(((h - 1) / 2+1:Nat):Int) - 1:=by
   rcases Nat.eq_zero_or_pos h with rfl|hp
   ·rfl
   ·have:(h:Int) - 1=((h - 1:Nat):Int):=by omega
    rw[this]
    have h2:((h - 1:Nat):Int).tdiv 2=(((h - 1) / 2:Nat):Int):=rfl
    rw[h2];omega
  obtain⟨M,hM⟩:∃ M,M=(h - 1) / 2+1:=⟨_,rfl⟩
  rw[← hM] at hq
  have hE:heapSort lt d a b=heapPop lt a h (heapBuild lt h a M d):=by rw[heapSort,hM,hh]
  rw[hE]
  simp +contextual (disch:=omega) only[go_sem,Ra,hI,hq]
  refine He (fun n env τ=>∃(m:Nat) (D:Array α),env 0=v∧env 1=gi a∧env 2=gi b∧env 3= .fn S.f []∧env 8=gi a∧env 9=gi 0∧env 10=gi h∧env 11=gi ((m:Int) - 1)∧m=n∧m≤M∧D.size=d.size∧σ.length≤τ.length∧Holds S.e σ0 τ rs k v D∧heapBuild lt h a m D=heapBuild lt h a M d) M ⟨M,d,rfl,rfl,rfl,rfl,rfl,rfl,rfl,rfl,rfl,Nat.le_refl _,rfl,Nat.le_refl _,H,rfl⟩ ?_
  rintro J hJ n env τ ⟨m,D,e0,e1,e2,e3,e6,e7,e8,e9,hn,hm,hD,hle,hH,hE⟩
  cases m with
  |succ j=>
   have e9:env 11=gi (j:Int):=by rw[e9];congr 1;omega
   have c0:decide ((0:Int)≤j)=true:=by simp
   rw[heapBuild] at hE
   simp +contextual (disch:=omega) only[go_sem,e0,e1,e2,e3,e6,e7,e8,e9,c0]
   obtain⟨τ1,R,hH1⟩:=A6t S hH (lo:=j) (hi:=h) (F:=a) (by omega) (by omega) (by omega)
   have hl1:=R.2.1
   refine C8 R ?_
   simp +contextual (disch:=omega) only[go_sem,e0,e1,e2,e3,e6,e7,e8,e9]
   refine⟨j,by omega,hJ _ _ _ ⟨j,_,?_,?_,?_,?_,?_,?_,?_,?_,rfl,by omega,?_,by omega,hH1,hE⟩⟩
   all_goals first|(simp +contextual (disch:=omega) only[go_sem,e0,e1,e2,e3,e6,e7,e8,e9];done)|(rw [Gv lt h a _ _ _ (Nat.le_refl _)];exact hD)
  |zero=>
   have e9:env 11=gi (-1):=e9
   rw[heapBuild] at hE
   simp +contextual (disch:=omega) only[go_sem,e0,e1,e2,e3,e6,e7,e8,e9]
   have c0:decide ((0:Int)≤ -1)=false:=rfl
   simp +contextual (disch:=omega) only[go_sem,e0,e1,e2,e3,e6,e7,e8,e9,c0]
   refine He (fun n env τ=>∃(m:Nat) (E:Array α),env 0=v∧env 1=gi a∧env 2=gi b∧env 3= .fn S.f []∧env 8=gi a∧env 9=gi 0∧env 10=gi h∧env 12=gi ((m:Int) - 1)∧m=n∧m≤h∧E.size=d.size∧σ.length≤τ.length∧Holds S.e σ0 τ rs k v E∧heapPop lt a m E=heapPop lt a h (heapBuild lt h a M d)) h ⟨h,D,by simp +contextual (disch:=omega) only[go_sem,e0],by simp +contextual (disch:=omega) only[go_sem,e1],by simp +contextual (disch:=omega) only[go_sem,e2],by simp +contextual (disch:=omega) only[go_sem,e3],by simp +contextual (disch:=omega) only[go_sem,e6],by simp +contextual (disch:=omega) only[go_sem,e7],by simp +contextual (disch:=omega) only[go_sem,e8],rfl,rfl,Nat.le_refl _,hD,hle,hH,by rw[hE]⟩ ?_
   clear hH hle e0 e1 e2 e3 e6 e7 e8 e9
   rintro J2 hJ2 n2 env τ ⟨m,E,e0,e1,e2,e3,e6,e7,e8,e9,hn2,hm,hE2,hle,hH,hP⟩
   cases m with
   |succ j=>
    have e9:env 12=gi (j:Int):=by rw[e9];congr 1;omega
    have c0:decide ((0:Int)≤j)=true:=by simp
    rw[heapPop] at hP
    have nr:Bk (some (.int .i64 ((a:Int)+j)))=some (a+j):=C5 (by simp)
    obtain⟨τ1,τ2,s1,s2,hH2,hl2⟩:=hH.sw (a:=a) (b:=a+j) (by omega) (by omega)
    obtain⟨τ3,R,hH3⟩:=A6t S hH2 (lo:=0) (hi:=j) (F:=a) (by rw[Go.Sort.swp_size];omega) (by omega) (by rw[Go.Sort.swp_size];omega)
    have hl3:=R.2.1
    simp +contextual (disch:=omega) only[go_sem,e0,e1,e2,e3,e6,e7,e8,e9,c0,nr,A4,hH.iad (j:=a) (by omega),hH.ld (j:=a) (by omega),hH.iad (j:=a+j) (by omega),hH.ld (j:=a+j) (by omega),s1,s2]
    refine C8 R ?_
    simp +contextual (disch:=omega) only[go_sem,e0,e1,e2,e3,e6,e7,e8,e9]
    refine⟨j,by omega,hJ2 _ _ _ ⟨j,_,?_,?_,?_,?_,?_,?_,?_,?_,rfl,by omega,?_,by omega,hH3,hP⟩⟩
    all_goals first|(simp +contextual (disch:=omega) only[go_sem,e0,e1,e2,e3,e6,e7,e8,e9];done)|(rw [Gv lt _ a _ _ _ (Nat.le_refl _),Go.Sort.swp_size];exact hE2)
   |zero=>
    have e9:env 12=gi (-1):=e9
    rw[heapPop] at hP
    simp +contextual (disch:=omega) only[go_sem,e0,e1,e2,e3,e6,e7,e8,e9,c0]
    exact⟨_,rfl,hle,rfl,by rw[← hP];exact hH⟩
 obtain⟨r,τ,R,rfl,h⟩:=key
 exact⟨τ,R,h⟩
theorem Ah5 (S:SrtC α lt) (H:Holds S.e σ0 σ rs k v d) {a b:Nat} (hab:a<b) (hb:b≤d.size) (hs:d.size≤1099511627776):∃ τ,Ret Tryz.prog S.q.reverseRange [v,gi a,gi b,.fn S.f []] σ (.tup []) τ∧Holds S.e σ0 τ rs k v (reverseRange d a b):=by
 have key:∃ r τ,Ret Tryz.prog S.q.reverseRange [v,gi a,gi b,.fn S.f []] σ r τ∧r= .tup []∧Holds S.e σ0 τ rs k v (reverseRange d a b):=by
  refine Bw S.h_reverseRange (Z0z rfl) ?_
  have hbI:(b:Int) - 1=((b - 1:Nat):Int):=by omega
  obtain⟨h,hh⟩:∃ h,h=b - 1:=⟨_,rfl⟩
  have hE:reverseRange d a b=reverseLoop a h d:=by rw[reverseRange,hh]
  rw[hE]
  rw[← hh] at hbI
  simp +contextual (disch:=omega) only[go_sem,Jl,hbI]
  refine He (fun n env τ=>∃(i j:Nat) (D:Array α),env 0=v∧env 8=gi i∧env 9=gi j∧j - i=n∧a≤i∧i≤d.size∧j≤h∧D.size=d.size∧σ.length≤τ.length∧Holds S.e σ0 τ rs k v D∧reverseLoop i j D=reverseLoop a h d) (h - a) ⟨a,h,d,rfl,rfl,rfl,rfl,Nat.le_refl _,by omega,Nat.le_refl _,rfl,Nat.le_refl _,H,rfl⟩ ?_
  rintro J hJ n env τ ⟨i,j,D,e0,e6,e7,hn,hi,hi2,hj,hD,hle,hH,hE⟩
  rw[reverseLoop] at hE
  rcases Nat.lt_or_ge i j with hlt|hge
  ·rw[if_pos hlt] at hE
   have c0:decide ((i:Int)<j)=true:=by simp;omega
   obtain⟨τ1,τ2,s1,s2,hH2,hl2⟩:=hH.sw (a:=i) (b:=j) (by omega) (by omega)
   have j1:(j:Int) - 1=((j - 1:Nat):Int):=by omega
   simp +contextual (disch:=omega) only[go_sem,e0,e6,e7,c0,A4,hH.iad (j:=i) (by omega),hH.ld (j:=i) (by omega),hH.iad (j:=j) (by omega),hH.ld (j:=j) (by omega),s1,s2]
   refine⟨(j - 1) - (i+1),by omega,hJ _ _ _ ⟨i+1,j - 1,swp D i j,?_,?_,?_,rfl,by omega,by omega,by omega,by rw[Go.Sort.swp_size];exact hD,by omega,hH2,hE⟩⟩
   all_goals simp +contextual (disch:=omega) only[go_sem,e0,e6,e7,j1]
  ·rw[if_neg (by omega)] at hE
   have c0:decide ((i:Int)<j)=false:=by simp;omega
   simp +contextual (disch:=omega) only[go_sem,e0,e6,e7,c0]
   exact⟨_,rfl,hle,rfl,by rw[← hE];exact hH⟩
 obtain⟨r,τ,R,rfl,h⟩:=key
 exact⟨τ,R,h⟩
end C
namespace C
open Go Go.RowKit Go.Proofs.YtbeoiejnogdkpaaGreat.Sy Go.Sort
variable {α:Type} [Inhabited α] {lt:α→α→Bool} {σ0 σ:St} {rs:List Thg} {k:Nat} {v:GV} {d:Array α}
theorem pe_ret (S:SrtC α lt) (H:Holds S.e σ0 σ rs k v d) {a b p:Nat} (hab:a<b) (hp:p<b) (hb:b≤d.size) (hs:d.size≤1099511627776):∃ τ,Ret Tryz.prog S.q.partitionEqual [v,gi a,gi b,gi p,.fn S.f []] σ (gi (partitionEqual lt d a b p).1) τ∧Holds S.e σ0 τ rs k v (partitionEqual lt d a b p).2:=by
 have key:∃ r τ,Ret Tryz.prog S.q.partitionEqual [v,gi a,gi b,gi p,.fn S.f []] σ r τ∧r=gi (partitionEqual lt d a b p).1∧Holds S.e σ0 τ rs k v (partitionEqual lt d a b p).2:=by
  refine Bw S.h_partitionEqual (Z0z rfl) ?_
  obtain⟨τ1,τ2,s1,s2,hH,hl2⟩:=H.sw (a:=a) (b:=p) (by omega) (by omega)
  obtain⟨h,hh⟩:∃ h,h=b - 1:=⟨_,rfl⟩
  have hbI:(b:Int) - 1=h:=by omega
  have hsz:=Go.Sort.swp_size d a p
  rw[partitionEqual,←hh]
  obtain⟨D0,hD0⟩:∃ D0,D0=swp d a p:=⟨_,rfl⟩
  rw[← hD0] at hH hsz
  simp +contextual (disch:=omega) only[go_sem,I2,hbI,A4,H.iad (j:=a) (by omega),H.ld (j:=a) (by omega),H.iad (j:=p) (by omega),H.ld (j:=p) (by omega),s1,s2]
  rw[← hD0]
  refine He (fun n env τ=>∃(i j:Nat) (D:Array α),env 0=v∧env 1=gi a∧env 4= .fn S.f []∧env 11=gi i∧env 12=gi j∧j+1 - i=n∧1≤i∧i≤j+1∧j<b∧D.size=d.size∧σ.length≤τ.length∧Holds S.e σ0 τ rs k v D∧partEqLoop lt a i j D=partEqLoop lt a (a+1) h D0) (h+1 - (a+1)) ⟨a+1,h,D0,rfl,rfl,rfl,rfl,rfl,rfl,by omega,by omega,by omega,hsz,by omega,hH,rfl⟩ ?_
  clear hH
  rintro J hJ n env τ ⟨i,j,D,e0,e1,e4,e9,e10,hn,hi,hij,hj,hD,hle,hH,hE⟩
  rw[partEqLoop_eq] at hE
  have ia:=hH.iad (j:=a) (by omega)
  have la:=hH.ld (j:=a) (by omega)
  simp +contextual (disch:=omega) only[go_sem]
  refine Ia (fun n env τ'=>∃(x:Nat),env 0=v∧env 1=gi a∧env 4= .fn S.f []∧env 11=gi x∧env 12=gi j∧j+1 - x=n∧i≤x∧x≤j+1∧τ=τ'∧scanUp (fun x=> !lt D[a]! x) D j x=scanUp (fun x=> !lt D[a]! x) D j i) (j+1 - i) 2 (fun env τ'=>env 0=v∧env 1=gi a∧env 4= .fn S.f []∧env 11=gi (scanUp (fun x=> !lt D[a]! x) D j i:Nat)∧env 12=gi j∧τ=τ') ⟨i,e0,e1,e4,e9,e10,rfl,Nat.le_refl _,hij,rfl,rfl⟩ ?_ ?_
  ·clear e0 e1 e4 e9 e10
   rintro J2 Y2 hJ2 hY2 n2 env τ' ⟨x,e0,e1,e4,e9,e10,hn2,hx1,hx2,rfl,hU⟩
   rw[scanUp] at hU
   rcases Nat.lt_or_ge j x with hx|hx
   ·rw[if_neg (by simp;intro h;omega)] at hU
    have c0:decide ((x:Int)≤j)=false:=by simp;omega
    simp +contextual (disch:=omega) only[go_sem,e0,e1,e4,e9,e10,c0]
    refine hY2 _ _ ⟨?_,?_,?_,?_,?_,rfl⟩
    all_goals simp +contextual (disch:=omega) only[go_sem,e0,e1,e4,e9,e10,hU]
   ·have c0:decide ((x:Int)≤j)=true:=by simp;omega
    simp +contextual (disch:=omega) only[go_sem,e0,e1,e4,e9,e10,c0,A4,ia,la,hH.iad (j:=x) (by omega),hH.ld (j:=x) (by omega)]
    refine Ac (S.call _ _ _) ?_
    cases hl:lt D[a]! D[x]! with
    |true=>
     rw[if_neg (by simp[hl])] at hU
     simp +contextual (disch:=omega) only[go_sem,e0,e1,e4,e9,e10,c0,hl,S.klt]
     refine hY2 _ _ ⟨?_,?_,?_,?_,?_,rfl⟩
     all_goals simp +contextual (disch:=omega) only[go_sem,e0,e1,e4,e9,e10,hU]
    |false=>
     rw[if_pos (by simp[hl];omega)] at hU
     simp +contextual (disch:=omega) only[go_sem,e0,e1,e4,e9,e10,c0,hl,S.klt]
     refine⟨j+1 - (x+1),by omega,hJ2 _ _ _ ⟨x+1,?_,?_,?_,?_,?_,rfl,by omega,by omega,rfl,hU⟩⟩
     all_goals simp +contextual (disch:=omega) only[go_sem,e0,e1,e4,e9,e10]
  ·clear e0 e1 e4 e9 e10
   rintro env τ' ⟨e0,e1,e4,e9,e10,rfl⟩
   obtain⟨u1,u2,-,u4⟩:=scanUp_spec (fun x=> !lt D[a]! x) D j _ i rfl
   have u2:=u2 hij
   obtain⟨x,hx⟩:∃ x,x=scanUp (fun x=> !lt D[a]! x) D j i:=⟨_,rfl⟩
   rw[← hx] at hE e9 u1 u2 u4
   simp +contextual (disch:=omega) only[go_sem]
   refine Ia (fun n env τ'=>∃(y:Nat),env 0=v∧env 1=gi a∧env 4= .fn S.f []∧env 11=gi x∧env 12=gi y∧y+1=n∧y≤j∧x≤y+1∧τ=τ'∧scanDown (fun x=>lt D[a]! x) D x y=scanDown (fun x=>lt D[a]! x) D x j) (j+1) 4 (fun env τ'=>env 0=v∧env 1=gi a∧env 4= .fn S.f []∧env 11=gi x∧env 12=gi (scanDown (fun x=>lt D[a]! x) D x j:Nat)∧τ=τ'∧x≤scanDown (fun x=>lt D[a]! x) D x j+1) ⟨j,e0,e1,e4,e9,e10,rfl,Nat.le_refl _,u2,rfl,rfl⟩ ?_ ?_
   ·clear e0 e1 e4 e9 e10
    rintro J2 Y2 hJ2 hY2 n2 env τ' ⟨y,e0,e1,e4,e9,e10,hn2,hy1,hy2,rfl,hU⟩
    rcases Nat.lt_or_ge y x with hlt|hge
    ·have hU:scanDown (fun x=>lt D[a]! x) D x j=y:=by
      rw[← hU]
      cases y with
      |zero=>rfl
      |succ y=>rw[scanDown,if_neg (by simp;intro h;omega)]
     have c0:decide ((x:Int)≤y)=false:=by simp;omega
     simp +contextual (disch:=omega) only[go_sem,e0,e1,e4,e9,e10,c0]
     refine hY2 _ _ ⟨?_,?_,?_,?_,?_,rfl,by omega⟩
     all_goals simp +contextual (disch:=omega) only[go_sem,e0,e1,e4,e9,e10,hU]
    ·have c0:decide ((x:Int)≤y)=true:=by simp;omega
     obtain⟨z,rfl⟩:∃ z,y=z+1:=⟨y - 1,by omega⟩
     rw[scanDown] at hU
     have c0:decide ((x:Int)≤(z:Int)+1)=true:=c0
     have n1:Bk (some (.int .i64 ((z:Int)+1)))=some (z+1):=C5 (by simp)
     have z1:(z:Int)+1 - 1=z:=by omega
     simp +contextual (disch:=omega) only[go_sem,e0,e1,e4,e9,e10,c0,A4,n1,ia,la,hH.iad (j:=z+1) (by omega),hH.ld (j:=z+1) (by omega)]
     refine Ac (S.call _ _ _) ?_
     cases hl:lt D[a]! D[z+1]! with
     |false=>
      rw[if_neg (by simp[hl])] at hU
      simp +contextual (disch:=omega) only[go_sem,e0,e1,e4,e9,e10,c0,hl,S.klt]
      refine hY2 _ _ ⟨?_,?_,?_,?_,?_,rfl,by omega⟩
      all_goals simp +contextual (disch:=omega) only[go_sem,e0,e1,e4,e9,e10,←hU]
     |true=>
      rw[if_pos (by simp[hl];omega)] at hU
      simp +contextual (disch:=omega) only[go_sem,e0,e1,e4,e9,e10,c0,z1,hl,S.klt]
      refine⟨z+1,by omega,hJ2 _ _ _ ⟨z,?_,?_,?_,?_,?_,rfl,by omega,by omega,rfl,hU⟩⟩
      all_goals simp +contextual (disch:=omega) only[go_sem,e0,e1,e4,e9,e10]
   ·clear e0 e1 e4 e9 e10
    rintro env τ' ⟨e0,e1,e4,e9,e10,rfl,hxy⟩
    have w1:=scanDown_le (fun x=>lt D[a]! x) D x j
    have w4:=(scanDown_spec (fun x=>lt D[a]! x) D x j).2.2.2
    obtain⟨y,hy⟩:∃ y,y=scanDown (fun x=>lt D[a]! x) D x j:=⟨_,rfl⟩
    rw[← hy] at hE e10 w1 w4 hxy
    rcases Nat.lt_or_ge y x with hlt|hge
    ·rw[if_pos hlt] at hE
     have c0:decide ((y:Int)<x)=true:=by simp;omega
     simp +contextual (disch:=omega) only[go_sem,e0,e1,e4,e9,e10,c0]
     exact⟨_,rfl,hle,by rw[← hE],by rw[← hE];exact hH⟩
    ·rw[if_neg (by omega)] at hE
     have hne:x≠y:=by
      rintro rfl
      have q1:(!lt D[a]! D[x]!)=false:=u4 w1
      have q2:lt D[a]! D[x]! =false:=w4 (Nat.le_refl _) (by omega)
      rw[q2] at q1;cases q1
     have c0:decide ((y:Int)<x)=false:=by simp;omega
     have y1:(y:Int) - 1=((y - 1:Nat):Int):=by omega
     obtain⟨τ3,τ4,s3,s4,hH4,hl4⟩:=hH.sw (a:=x) (b:=y) (by omega) (by omega)
     simp +contextual (disch:=omega) only[go_sem,e0,e1,e4,e9,e10,c0,A4,hH.iad (j:=x) (by omega),hH.ld (j:=x) (by omega),hH.iad (j:=y) (by omega),hH.ld (j:=y) (by omega),s3,s4]
     refine⟨y - 1+1 - (x+1),by omega,hJ _ _ _ ⟨x+1,y - 1,swp D x y,?_,?_,?_,?_,?_,rfl,by omega,by omega,by omega,by rw[Go.Sort.swp_size];exact hD,by omega,hH4,hE⟩⟩
     all_goals simp +contextual (disch:=omega) only[go_sem,e0,e1,e4,e9,e10,y1]
 obtain⟨r,τ,R,rfl,h⟩:=key
 exact⟨τ,R,h⟩
set_option maxHeartbeats 2000000 in
theorem Ad2 (S:SrtC α lt) (H:Holds S.e σ0 σ rs k v d) {a b p:Nat} (hab:a<b) (hp:p<b) (hb:b≤d.size) (hs:d.size≤1099511627776):∃ τ,Ret Tryz.prog S.q.partition [v,gi a,gi b,gi p,.fn S.f []] σ (.tup [gi (partition lt d a b p).1,.bool (partition lt d a b p).2.1]) τ∧Holds S.e σ0 τ rs k v (partition lt d a b p).2.2:=by
 have key:∃ r τ,Ret Tryz.prog S.q.partition [v,gi a,gi b,gi p,.fn S.f []] σ r τ∧r= .tup [gi (partition lt d a b p).1,.bool (partition lt d a b p).2.1]∧Holds S.e σ0 τ rs k v (partition lt d a b p).2.2:=by
  refine Bw S.h_partition (Z0z rfl) ?_
  obtain⟨τ1,τ,s1,s2,hH,hl2⟩:=H.sw (a:=a) (b:=p) (by omega) (by omega)
  obtain⟨j,hh⟩:∃ h,h=b - 1:=⟨_,rfl⟩
  have hbI:(b:Int) - 1=j:=by omega
  have hD:=Go.Sort.swp_size d a p
  obtain⟨P0,hP0⟩:∃ P0,P0=partition lt d a b p:=⟨_,rfl⟩
  rw[← hP0]
  have hE:=hP0.symm
  simp only[partition] at hE
  rw[← hh] at hE
  obtain⟨D,hD0⟩:∃ D0,D0=swp d a p:=⟨_,rfl⟩
  rw[← hD0] at hH hD hE
  simp +contextual (disch:=omega) only[go_sem,Nw,hbI,A4,H.iad (j:=a) (by omega),H.ld (j:=a) (by omega),H.iad (j:=p) (by omega),H.ld (j:=p) (by omega),s1,s2]
  have ia:=hH.iad (j:=a) (by omega)
  have la:=hH.ld (j:=a) (by omega)
  obtain⟨i,hi⟩:∃ i,i=a+1:=⟨_,rfl⟩
  rw[← hi] at hE
  have hij:i≤j+1:=by omega
  refine Ia (fun n env τ'=>∃(x:Nat),env 0=v∧env 1=gi a∧env 4= .fn S.f []∧env 12=gi x∧env 13=gi j∧j+1 - x=n∧i≤x∧x≤j+1∧τ=τ'∧scanUp (fun x=>lt x D[a]!) D j x=scanUp (fun x=>lt x D[a]!) D j i) (j+1 - i) 0 (fun env τ'=>env 0=v∧env 1=gi a∧env 4= .fn S.f []∧env 12=gi (scanUp (fun x=>lt x D[a]!) D j i:Nat)∧env 13=gi j∧τ=τ') ⟨i,rfl,rfl,rfl,(by rw[hi];rfl),rfl,rfl,Nat.le_refl _,hij,rfl,rfl⟩ ?_ ?_
  ·skip
   rintro J2 Y2 hJ2 hY2 n2 env τ' ⟨x,e0,e1,e4,e9,e10,hn2,hx1,hx2,rfl,hU⟩
   rw[scanUp] at hU
   rcases Nat.lt_or_ge j x with hx|hx
   ·rw[if_neg (by simp;intro h;omega)] at hU
    have c0:decide ((x:Int)≤j)=false:=by simp;omega
    simp +contextual (disch:=omega) only[go_sem,e0,e1,e4,e9,e10,c0]
    refine hY2 _ _ ⟨?_,?_,?_,?_,?_,rfl⟩
    all_goals simp +contextual (disch:=omega) only[go_sem,e0,e1,e4,e9,e10,hU]
   ·have c0:decide ((x:Int)≤j)=true:=by simp;omega
    simp +contextual (disch:=omega) only[go_sem,e0,e1,e4,e9,e10,c0,A4,ia,la,hH.iad (j:=x) (by omega),hH.ld (j:=x) (by omega)]
    refine Ac (S.call _ _ _) ?_
    cases hl:lt D[x]! D[a]! with
    |false=>
     rw[if_neg (by simp[hl])] at hU
     simp +contextual (disch:=omega) only[go_sem,e0,e1,e4,e9,e10,c0,hl,S.klt]
     refine hY2 _ _ ⟨?_,?_,?_,?_,?_,rfl⟩
     all_goals simp +contextual (disch:=omega) only[go_sem,e0,e1,e4,e9,e10,hU]
    |true=>
     rw[if_pos (by simp[hl];omega)] at hU
     simp +contextual (disch:=omega) only[go_sem,e0,e1,e4,e9,e10,c0,hl,S.klt]
     refine⟨j+1 - (x+1),by omega,hJ2 _ _ _ ⟨x+1,?_,?_,?_,?_,?_,rfl,by omega,by omega,rfl,hU⟩⟩
     all_goals simp +contextual (disch:=omega) only[go_sem,e0,e1,e4,e9,e10]
  skip
  rintro env τ' ⟨e0,e1,e4,e9,e10,rfl⟩
  obtain⟨u1,u2,-,u4⟩:=scanUp_spec (fun x=>lt x D[a]!) D j _ i rfl
  have u2:=u2 hij
  obtain⟨x,hx⟩:∃ x,x=scanUp (fun x=>lt x D[a]!) D j i:=⟨_,rfl⟩
  rw[← hx] at hE e9 u1 u2 u4
  simp +contextual (disch:=omega) only[go_sem]
  refine Ia (fun n env τ'=>∃(y:Nat),env 0=v∧env 1=gi a∧env 4= .fn S.f []∧env 12=gi x∧env 13=gi y∧y+1=n∧y≤j∧x≤y+1∧τ=τ'∧scanDown (fun x=> !lt x D[a]!) D x y=scanDown (fun x=> !lt x D[a]!) D x j) (j+1) 2 (fun env τ'=>env 0=v∧env 1=gi a∧env 4= .fn S.f []∧env 12=gi x∧env 13=gi (scanDown (fun x=> !lt x D[a]!) D x j:Nat)∧τ=τ'∧x≤scanDown (fun x=> !lt x D[a]!) D x j+1) ⟨j,e0,e1,e4,e9,e10,rfl,Nat.le_refl _,u2,rfl,rfl⟩ ?_ ?_
  ·clear e0 e1 e4 e9 e10
   rintro J2 Y2 hJ2 hY2 n2 env τ' ⟨y,e0,e1,e4,e9,e10,hn2,hy1,hy2,rfl,hU⟩
   rcases Nat.lt_or_ge y x with hlt|hge
   ·have hU:scanDown (fun x=> !lt x D[a]!) D x j=y:=by
     rw[← hU]
     cases y with
     |zero=>rfl
     |succ y=>rw[scanDown,if_neg (by simp;intro h;omega)]
    have c0:decide ((x:Int)≤y)=false:=by simp;omega
    simp +contextual (disch:=omega) only[go_sem,e0,e1,e4,e9,e10,c0]
    refine hY2 _ _ ⟨?_,?_,?_,?_,?_,rfl,by omega⟩
    all_goals simp +contextual (disch:=omega) only[go_sem,e0,e1,e4,e9,e10,hU]
   ·obtain⟨z,rfl⟩:∃ z,y=z+1:=⟨y - 1,by omega⟩
    rw[scanDown] at hU
    have c0:decide ((x:Int)≤(z:Int)+1)=true:=by simp;omega
    have n1:Bk (some (.int .i64 ((z:Int)+1)))=some (z+1):=C5 (by simp)
    have z1:(z:Int)+1 - 1=z:=by omega
    simp +contextual (disch:=omega) only[go_sem,e0,e1,e4,e9,e10,c0,A4,n1,ia,la,hH.iad (j:=z+1) (by omega),hH.ld (j:=z+1) (by omega)]
    refine Ac (S.call _ _ _) ?_
    cases hl:lt D[z+1]! D[a]! with
    |true=>
     rw[if_neg (by simp[hl])] at hU
     simp +contextual (disch:=omega) only[go_sem,e0,e1,e4,e9,e10,c0,hl,S.klt]
     refine hY2 _ _ ⟨?_,?_,?_,?_,?_,rfl,by omega⟩
     all_goals simp +contextual (disch:=omega) only[go_sem,e0,e1,e4,e9,e10,←hU]
    |false=>
     rw[if_pos (by simp[hl];omega)] at hU
     simp +contextual (disch:=omega) only[go_sem,e0,e1,e4,e9,e10,c0,z1,hl,S.klt]
     refine⟨z+1,by omega,hJ2 _ _ _ ⟨z,?_,?_,?_,?_,?_,rfl,by omega,by omega,rfl,hU⟩⟩
     all_goals simp +contextual (disch:=omega) only[go_sem,e0,e1,e4,e9,e10]
  clear e0 e1 e4 e9 e10
  rintro env τ' ⟨e0,e1,e4,e9,e10,rfl,hxy⟩
  have w1:=scanDown_le (fun x=> !lt x D[a]!) D x j
  have w4:=(scanDown_spec (fun x=> !lt x D[a]!) D x j).2.2.2
  obtain⟨y,hy⟩:∃ y,y=scanDown (fun x=> !lt x D[a]!) D x j:=⟨_,rfl⟩
  rw[← hy] at hE e10 w1 w4 hxy
  have hne:x≠y:=by
   rintro rfl
   have q1:lt D[x]! D[a]! =false:=u4 w1
   have q2:(!lt D[x]! D[a]!)=false:=w4 (Nat.le_refl _) (by omega)
   rw[q1] at q2;cases q2
  rcases Nat.lt_or_ge y x with hlt|hge
  ·rw[if_pos hlt] at hE
   subst hE
   have c0:decide ((y:Int)<x)=true:=by simp;omega
   obtain⟨τ3,τ4,s3,s4,hH4,hl4⟩:=hH.sw (a:=y) (b:=a) (by omega) (by omega)
   simp +contextual (disch:=omega) only[go_sem,e0,e1,e4,e9,e10,c0,A4,hH.iad (j:=a) (by omega),hH.ld (j:=a) (by omega),hH.iad (j:=y) (by omega),hH.ld (j:=y) (by omega),s3,s4]
   exact⟨_,rfl,by omega,rfl,hH4⟩
  ·rw[if_neg (by omega)] at hE
   subst hE
   have c0:decide ((y:Int)<x)=false:=by simp;omega
   have y1:(y:Int) - 1=((y - 1:Nat):Int):=by omega
   obtain⟨τ3,τ4,s3,s4,hH4,hl4⟩:=hH.sw (a:=x) (b:=y) (by omega) (by omega)
   simp +contextual (disch:=omega) only[go_sem,e0,e1,e4,e9,e10,c0,A4,hH.iad (j:=x) (by omega),hH.ld (j:=x) (by omega),hH.iad (j:=y) (by omega),hH.ld (j:=y) (by omega),s3,s4]
   obtain⟨x0,hx0⟩:∃ x0,x0=x+1:=⟨_,rfl⟩
   obtain⟨y0,hy0⟩:∃ y0,y0=y - 1:=⟨_,rfl⟩
   have hD4:(swp D x y).size=d.size:=by rw[Go.Sort.swp_size];exact hD
   obtain⟨D4,hD40⟩:∃ D4,D4=swp D x y:=⟨_,rfl⟩
   rw[← hx0,←hy0,←hD40]
   rw[← hD40] at hH4 hD4
   obtain⟨R,hR⟩:∃ R,R=partLoop lt a x0 y0 D4:=⟨_,rfl⟩
   rw[← hR]
   refine He (fun n env τ=>∃(i j:Nat) (D:Array α),env 0=v∧env 1=gi a∧env 4= .fn S.f []∧env 12=gi i∧env 13=gi j∧j+1 - i=n∧1≤i∧i≤j+1∧j<b∧D.size=d.size∧σ.length≤τ.length∧Holds S.e σ0 τ rs k v D∧partLoop lt a i j D=R) (y0+1 - x0) ⟨x0,y0,D4,by simp +contextual (disch:=omega) only[go_sem,e0],by simp +contextual (disch:=omega) only[go_sem,e1],by simp +contextual (disch:=omega) only[go_sem,e4],by rw[hx0];simp +contextual (disch:=omega) only[go_sem,e9],by rw[hy0];simp +contextual (disch:=omega) only[go_sem,y1],rfl,by omega,by omega,by omega,hD4,by omega,hH4,hR.symm⟩ ?_
   clear hH hH4 hij ia la s1 s2 s3 s4 e0 e1 e4 e9 e10 c0 y1 hi u1 u2 u4 w1 w4 hxy hne hge hx hy hx0 hy0 hD40 hD4 hD hD0 hl2 hl4
   rintro J hJ n env τ ⟨i,j,D,e0,e1,e4,e9,e10,hn,hi,hij,hj,hD,hle,hH,hE⟩
   rw[partLoop_eq] at hE
   have ia:=hH.iad (j:=a) (by omega)
   have la:=hH.ld (j:=a) (by omega)
   simp +contextual (disch:=omega) only[go_sem]
   refine Ia (fun n env τ'=>∃(x:Nat),env 0=v∧env 1=gi a∧env 4= .fn S.f []∧env 12=gi x∧env 13=gi j∧j+1 - x=n∧i≤x∧x≤j+1∧τ=τ'∧scanUp (fun x=>lt x D[a]!) D j x=scanUp (fun x=>lt x D[a]!) D j i) (j+1 - i) 6 (fun env τ'=>env 0=v∧env 1=gi a∧env 4= .fn S.f []∧env 12=gi (scanUp (fun x=>lt x D[a]!) D j i:Nat)∧env 13=gi j∧τ=τ') ⟨i,e0,e1,e4,e9,e10,rfl,Nat.le_refl _,hij,rfl,rfl⟩ ?_ ?_
   ·clear e0 e1 e4 e9 e10
    rintro J2 Y2 hJ2 hY2 n2 env τ' ⟨x,e0,e1,e4,e9,e10,hn2,hx1,hx2,rfl,hU⟩
    rw[scanUp] at hU
    rcases Nat.lt_or_ge j x with hx|hx
    ·rw[if_neg (by simp;intro h;omega)] at hU
     have c0:decide ((x:Int)≤j)=false:=by simp;omega
     simp +contextual (disch:=omega) only[go_sem,e0,e1,e4,e9,e10,c0]
     refine hY2 _ _ ⟨?_,?_,?_,?_,?_,rfl⟩
     all_goals simp +contextual (disch:=omega) only[go_sem,e0,e1,e4,e9,e10,hU]
    ·have c0:decide ((x:Int)≤j)=true:=by simp;omega
     simp +contextual (disch:=omega) only[go_sem,e0,e1,e4,e9,e10,c0,A4,ia,la,hH.iad (j:=x) (by omega),hH.ld (j:=x) (by omega)]
     refine Ac (S.call _ _ _) ?_
     cases hl:lt D[x]! D[a]! with
     |false=>
      rw[if_neg (by simp[hl])] at hU
      simp +contextual (disch:=omega) only[go_sem,e0,e1,e4,e9,e10,c0,hl,S.klt]
      refine hY2 _ _ ⟨?_,?_,?_,?_,?_,rfl⟩
      all_goals simp +contextual (disch:=omega) only[go_sem,e0,e1,e4,e9,e10,hU]
     |true=>
      rw[if_pos (by simp[hl];omega)] at hU
      simp +contextual (disch:=omega) only[go_sem,e0,e1,e4,e9,e10,c0,hl,S.klt]
      refine⟨j+1 - (x+1),by omega,hJ2 _ _ _ ⟨x+1,?_,?_,?_,?_,?_,rfl,by omega,by omega,rfl,hU⟩⟩
      all_goals simp +contextual (disch:=omega) only[go_sem,e0,e1,e4,e9,e10]
   clear e0 e1 e4 e9 e10
   rintro env τ' ⟨e0,e1,e4,e9,e10,rfl⟩
   obtain⟨u1,u2,-,u4⟩:=scanUp_spec (fun x=>lt x D[a]!) D j _ i rfl
   have u2:=u2 hij
   obtain⟨x,hx⟩:∃ x,x=scanUp (fun x=>lt x D[a]!) D j i:=⟨_,rfl⟩
   rw[← hx] at hE e9 u1 u2 u4
   simp +contextual (disch:=omega) only[go_sem]
   refine Ia (fun n env τ'=>∃(y:Nat),env 0=v∧env 1=gi a∧env 4= .fn S.f []∧env 12=gi x∧env 13=gi y∧y+1=n∧y≤j∧x≤y+1∧τ=τ'∧scanDown (fun x=> !lt x D[a]!) D x y=scanDown (fun x=> !lt x D[a]!) D x j) (j+1) 8 (fun env τ'=>env 0=v∧env 1=gi a∧env 4= .fn S.f []∧env 12=gi x∧env 13=gi (scanDown (fun x=> !lt x D[a]!) D x j:Nat)∧τ=τ'∧x≤scanDown (fun x=> !lt x D[a]!) D x j+1) ⟨j,e0,e1,e4,e9,e10,rfl,Nat.le_refl _,u2,rfl,rfl⟩ ?_ ?_
   ·clear e0 e1 e4 e9 e10
    rintro J2 Y2 hJ2 hY2 n2 env τ' ⟨y,e0,e1,e4,e9,e10,hn2,hy1,hy2,rfl,hU⟩
    rcases Nat.lt_or_ge y x with hlt|hge
    ·have hU:scanDown (fun x=> !lt x D[a]!) D x j=y:=by
      rw[← hU]
      cases y with
      |zero=>rfl
      |succ y=>rw[scanDown,if_neg (by simp;intro h;omega)]
     have c0:decide ((x:Int)≤y)=false:=by simp;omega
     simp +contextual (disch:=omega) only[go_sem,e0,e1,e4,e9,e10,c0]
     refine hY2 _ _ ⟨?_,?_,?_,?_,?_,rfl,by omega⟩
     all_goals simp +contextual (disch:=omega) only[go_sem,e0,e1,e4,e9,e10,hU]
    ·obtain⟨z,rfl⟩:∃ z,y=z+1:=⟨y - 1,by omega⟩
     rw[scanDown] at hU
     have c0:decide ((x:Int)≤(z:Int)+1)=true:=by simp;omega
     have n1:Bk (some (.int .i64 ((z:Int)+1)))=some (z+1):=C5 (by simp)
     have z1:(z:Int)+1 - 1=z:=by omega
     simp +contextual (disch:=omega) only[go_sem,e0,e1,e4,e9,e10,c0,A4,n1,ia,la,hH.iad (j:=z+1) (by omega),hH.ld (j:=z+1) (by omega)]
     refine Ac (S.call _ _ _) ?_
     cases hl:lt D[z+1]! D[a]! with
     |true=>
      rw[if_neg (by simp[hl])] at hU
      simp +contextual (disch:=omega) only[go_sem,e0,e1,e4,e9,e10,c0,hl,S.klt]
      refine hY2 _ _ ⟨?_,?_,?_,?_,?_,rfl,by omega⟩
      all_goals simp +contextual (disch:=omega) only[go_sem,e0,e1,e4,e9,e10,←hU]
     |false=>
      rw[if_pos (by simp[hl];omega)] at hU
      simp +contextual (disch:=omega) only[go_sem,e0,e1,e4,e9,e10,c0,z1,hl,S.klt]
      refine⟨z+1,by omega,hJ2 _ _ _ ⟨z,?_,?_,?_,?_,?_,rfl,by omega,by omega,rfl,hU⟩⟩
      all_goals simp +contextual (disch:=omega) only[go_sem,e0,e1,e4,e9,e10]
   clear e0 e1 e4 e9 e10
   rintro env τ' ⟨e0,e1,e4,e9,e10,rfl,hxy⟩
   have w1:=scanDown_le (fun x=> !lt x D[a]!) D x j
   have w4:=(scanDown_spec (fun x=> !lt x D[a]!) D x j).2.2.2
   obtain⟨y,hy⟩:∃ y,y=scanDown (fun x=> !lt x D[a]!) D x j:=⟨_,rfl⟩
   rw[← hy] at hE e10 w1 w4 hxy
   have hne:x≠y:=by
    rintro rfl
    have q1:lt D[x]! D[a]! =false:=u4 w1
    have q2:(!lt D[x]! D[a]!)=false:=w4 (Nat.le_refl _) (by omega)
    rw[q1] at q2;cases q2
   rcases Nat.lt_or_ge y x with hlt|hge
   ·rw[if_pos hlt] at hE
    subst hE
    have c0:decide ((y:Int)<x)=true:=by simp;omega
    obtain⟨τ3,τ4,s3,s4,hH4,hl4⟩:=hH.sw (a:=y) (b:=a) (by omega) (by omega)
    simp +contextual (disch:=omega) only[go_sem,e0,e1,e4,e9,e10,c0,A4,hH.iad (j:=a) (by omega),hH.ld (j:=a) (by omega),hH.iad (j:=y) (by omega),hH.ld (j:=y) (by omega),s3,s4]
    exact⟨_,rfl,by omega,rfl,hH4⟩
   ·rw[if_neg (by omega)] at hE
    have c0:decide ((y:Int)<x)=false:=by simp;omega
    have y1:(y:Int) - 1=((y - 1:Nat):Int):=by omega
    obtain⟨τ3,τ4,s3,s4,hH4,hl4⟩:=hH.sw (a:=x) (b:=y) (by omega) (by omega)
    simp +contextual (disch:=omega) only[go_sem,e0,e1,e4,e9,e10,c0,A4,hH.iad (j:=x) (by omega),hH.ld (j:=x) (by omega),hH.iad (j:=y) (by omega),hH.ld (j:=y) (by omega),s3,s4]
    refine⟨y - 1+1 - (x+1),by omega,hJ _ _ _ ⟨x+1,y - 1,swp D x y,?_,?_,?_,?_,?_,rfl,by omega,by omega,by omega,by rw[Go.Sort.swp_size];exact hD,by omega,hH4,hE⟩⟩
    all_goals simp +contextual (disch:=omega) only[go_sem,e0,e1,e4,e9,e10,y1]
 obtain⟨r,τ,R,rfl,h⟩:=key
 exact⟨τ,R,h⟩
end C
namespace C
open Go Go.RowKit Go.Proofs.YtbeoiejnogdkpaaGreat.Sy Go.Sort
variable {α:Type} [Inhabited α] {lt:α→α→Bool} {σ0 σ:St} {rs:List Thg} {k:Nat} {v:GV} {d:Array α}
theorem A0i (lt:α→α→Bool) (d:Array α) (b:Nat):∀(n i:Nat),b - i=n→i≤scanSorted lt d b i∧(i≤b→scanSorted lt d b i≤b):=by
 intro n
 induction n with
 |zero=>
  intro i hn
  rw[scanSorted,if_neg (by simp;intro h;omega)]
  exact⟨Nat.le_refl _,fun h=>h⟩
 |succ n ih=>
  intro i hn
  rw[scanSorted]
  split
  ·have:=ih (i+1) (by omega)
   exact⟨by omega,fun _=>this.2 (by omega)⟩
  ·exact⟨Nat.le_refl _,fun h=>h⟩
theorem M5 (lt:α→α→Bool):∀(j:Nat) (d:Array α),(shiftDown lt j d).size=d.size
 |0,_=>rfl
 |j+1,d=>by
  rw[shiftDown]
  split
  ·rfl
  ·rw[M5 lt j,Go.Sort.swp_size]
theorem Rc (lt:α→α→Bool) (b:Nat):∀(n j:Nat) (d:Array α),b - j=n→(shiftUp lt b j d).size=d.size:=by
 intro n
 induction n with
 |zero=>intro j d h;rw[shiftUp,if_neg (by omega)]
 |succ n ih=>
  intro j d h
  rw[shiftUp,if_pos (by omega)]
  split
  ·rfl
  ·rw[ih _ _ (by omega),Go.Sort.swp_size]
set_option maxHeartbeats 2000000 in
theorem Ah6 (S:SrtC α lt) (H:Holds S.e σ0 σ rs k v d) {a b:Nat} (hab:a<b) (hb:b≤d.size) (hs:d.size≤1099511627776):∃ τ,Ret Tryz.prog S.q.partialInsertionSort [v,gi a,gi b,.fn S.f []] σ (.bool (partialInsertionSort lt d a b).2) τ∧Holds S.e σ0 τ rs k v (partialInsertionSort lt d a b).1:=by
 have key:∃ r τ,Ret Tryz.prog S.q.partialInsertionSort [v,gi a,gi b,.fn S.f []] σ r τ∧r= .bool (partialInsertionSort lt d a b).2∧Holds S.e σ0 τ rs k v (partialInsertionSort lt d a b).1:=by
  refine Bw S.h_partialInsertionSort (Z0z rfl) ?_
  rw[partialInsertionSort]
  obtain⟨R,hR⟩:∃ R,R=partialIns lt a b 5 (a+1) d:=⟨_,rfl⟩
  rw[← hR]
  simp +contextual (maxSteps:=600000) (disch:=omega) only[go_sem,Fc]
  refine He (fun n env τ=>∃(s i:Nat) (D:Array α),env 0=v∧env 1=gi a∧env 2=gi b∧env 3= .fn S.f []∧env 9=gi i∧env 10=gi s∧5 - s=n∧s≤5∧a<i∧i≤b∧D.size=d.size∧σ.length≤τ.length∧Holds S.e σ0 τ rs k v D∧partialIns lt a b (5 - s) i D=R) 5 ⟨0,a+1,d,rfl,rfl,rfl,rfl,rfl,rfl,rfl,by omega,by omega,by omega,rfl,Nat.le_refl _,H,hR.symm⟩ ?_
  rintro J hJ n env τ ⟨s,i0,D,e0,e1,e2,e3,e7,e8,hn,hs5,hai,hib,hD,hle,hH,hE⟩
  rcases Nat.lt_or_ge s 5 with h5|h5
  ·have c0:decide ((s:Int)<5)=true:=by simp;omega
   obtain⟨m,hm⟩:∃ m,5 - s=m+1:=⟨4 - s,by omega⟩
   rw[hm,partialIns] at hE
   dsimp only at hE
   simp +contextual (maxSteps:=600000) (disch:=omega) only[go_sem,e0,e1,e2,e3,e7,e8,c0]
   refine Ia (fun n env τ'=>∃(x:Nat),env 0=v∧env 1=gi a∧env 2=gi b∧env 3= .fn S.f []∧env 9=gi x∧env 10=gi s∧b - x=n∧i0≤x∧x≤b∧τ=τ'∧scanSorted lt D b x=scanSorted lt D b i0) (b - i0) 2 (fun env τ'=>env 0=v∧env 1=gi a∧env 2=gi b∧env 3= .fn S.f []∧env 9=gi (scanSorted lt D b i0:Nat)∧env 10=gi s∧τ=τ') ⟨i0,by simp +contextual (maxSteps:=600000) (disch:=omega) only[go_sem,e0],by simp +contextual (maxSteps:=600000) (disch:=omega) only[go_sem,e1],by simp +contextual (maxSteps:=600000) (disch:=omega) only[go_sem,e2],by simp +contextual (maxSteps:=600000) (disch:=omega) only[go_sem,e3],by simp +contextual (maxSteps:=600000) (disch:=omega) only[go_sem,e7],by simp +contextual (maxSteps:=600000) (disch:=omega) only[go_sem,e8],rfl,Nat.le_refl _,hib,rfl,rfl⟩ ?_ ?_
   ·clear e0 e1 e2 e3 e7 e8
    rintro J2 Y2 hJ2 hY2 n2 env τ' ⟨x,e0,e1,e2,e3,e7,e8,hn2,hx1,hx2,rfl,hU⟩
    rw[scanSorted] at hU
    rcases Nat.lt_or_ge x b with hx|hx
    ·have c1:decide ((x:Int)<b)=true:=by simp;omega
     have x1:(x:Int) - 1=((x - 1:Nat):Int):=by omega
     simp +contextual (maxSteps:=600000) (disch:=omega) only[go_sem,e0,e1,e2,e3,e7,e8,c1,x1,A4,hH.iad (j:=x) (by omega),hH.ld (j:=x) (by omega),hH.iad (j:=x - 1) (by omega),hH.ld (j:=x - 1) (by omega)]
     refine Ac (S.call _ _ _) ?_
     cases hl:lt D[x]! D[x - 1]! with
     |true=>
      rw[if_neg (by simp[hl])] at hU
      simp +contextual (maxSteps:=600000) (disch:=omega) only[go_sem,e0,e1,e2,e3,e7,e8,c1,hl,S.klt]
      refine hY2 _ _ ⟨?_,?_,?_,?_,?_,?_,rfl⟩
      all_goals simp +contextual (maxSteps:=600000) (disch:=omega) only[go_sem,e0,e1,e2,e3,e7,e8,hU]
     |false=>
      rw[if_pos (by simp[hl];omega)] at hU
      simp +contextual (maxSteps:=600000) (disch:=omega) only[go_sem,e0,e1,e2,e3,e7,e8,c1,hl,S.klt]
      refine⟨b - (x+1),by omega,hJ2 _ _ _ ⟨x+1,?_,?_,?_,?_,?_,?_,rfl,by omega,by omega,rfl,hU⟩⟩
      all_goals simp +contextual (maxSteps:=600000) (disch:=omega) only[go_sem,e0,e1,e2,e3,e7,e8]
    ·rw[if_neg (by simp;intro h;omega)] at hU
     have c1:decide ((x:Int)<b)=false:=by simp;omega
     simp +contextual (maxSteps:=600000) (disch:=omega) only[go_sem,e0,e1,e2,e3,e7,e8,c1]
     refine hY2 _ _ ⟨?_,?_,?_,?_,?_,?_,rfl⟩
     all_goals simp +contextual (maxSteps:=600000) (disch:=omega) only[go_sem,e0,e1,e2,e3,e7,e8,hU]
   clear e0 e1 e2 e3 e7 e8
   rintro env τ' ⟨e0,e1,e2,e3,e7,e8,rfl⟩
   obtain⟨g1,g2⟩:=A0i lt D b _ i0 rfl
   have g2:=g2 hib
   obtain⟨i,hi⟩:∃ i,i=scanSorted lt D b i0:=⟨_,rfl⟩
   rw[← hi] at hE e7 g1 g2
   by_cases h1:i=b
   ·rw[if_pos h1] at hE
    subst hE
    have c1:((b:Int)==b)=true:=by simp
    rw[h1] at e7
    simp +contextual (maxSteps:=600000) (disch:=omega) only[go_sem,e0,e1,e2,e3,e7,e8,c1]
    exact⟨_,rfl,hle,rfl,hH⟩
   ·rw[if_neg h1] at hE
    have c1:((i:Int)==b)=false:=by simp;omega
    by_cases h50:b - a<50
    ·rw[if_pos h50] at hE
     subst hE
     have c2:decide ((b:Int) - a<50)=true:=by simp;omega
     simp +contextual (maxSteps:=600000) (disch:=omega) only[go_sem,e0,e1,e2,e3,e7,e8,c1,c2]
     exact⟨_,rfl,hle,rfl,hH⟩
    ·rw[if_neg h50] at hE
     have c2:decide ((b:Int) - a<50)=false:=by simp;omega
     have i1:(i:Int) - 1=((i - 1:Nat):Int):=by omega
     obtain⟨τ1,τ2,s1,s2,hH1,hl1⟩:=hH.sw (a:=i) (b:=i - 1) (by omega) (by omega)
     simp +contextual (maxSteps:=600000) (disch:=omega) only[go_sem,e0,e1,e2,e3,e7,e8,c1,c2,i1,A4,hH.iad (j:=i) (by omega),hH.ld (j:=i) (by omega),hH.iad (j:=i - 1) (by omega),hH.ld (j:=i - 1) (by omega),s1,s2]
     have hD1:(swp D i (i - 1)).size=d.size:=by rw[Go.Sort.swp_size];exact hD
     have hle1:σ.length≤τ2.length:=by omega
     obtain⟨D1,hD10⟩:∃ D1,D1=swp D i (i - 1):=⟨_,rfl⟩
     rw[← hD10] at hE hD1 hH1
     clear hH hle s1 s2
     by_cases hA:i - a≥2
     ·rw[if_pos hA] at hE
      have cA:decide ((2:Int)≤(i:Int) - a)=true:=by simp;omega
      simp +contextual (maxSteps:=600000) (disch:=omega) only[go_sem,e0,e1,e2,e3,e7,e8,cA]
      refine Ia (fun n env τ=>∃(j:Nat) (E:Array α),env 0=v∧env 1=gi a∧env 2=gi b∧env 3= .fn S.f []∧env 9=gi i∧env 10=gi s∧env 11=gi j∧j=n∧j<b∧E.size=d.size∧σ.length≤τ.length∧Holds S.e σ0 τ rs k v E∧shiftDown lt j E=shiftDown lt (i - 1) D1) (i - 1) 4 (fun env τ=>env 0=v∧env 1=gi a∧env 2=gi b∧env 3= .fn S.f []∧env 9=gi i∧env 10=gi s∧σ.length≤τ.length∧Holds S.e σ0 τ rs k v (shiftDown lt (i - 1) D1)) ⟨i - 1,D1,by simp +contextual (maxSteps:=600000) (disch:=omega) only[go_sem,e0],by simp +contextual (maxSteps:=600000) (disch:=omega) only[go_sem,e1],by simp +contextual (maxSteps:=600000) (disch:=omega) only[go_sem,e2],by simp +contextual (maxSteps:=600000) (disch:=omega) only[go_sem,e3],by simp +contextual (maxSteps:=600000) (disch:=omega) only[go_sem,e7],by simp +contextual (maxSteps:=600000) (disch:=omega) only[go_sem,e8],by simp +contextual (maxSteps:=600000) (disch:=omega) only[go_sem,i1],rfl,by omega,hD1,hle1,hH1,rfl⟩ ?_ ?_
      ·clear e0 e1 e2 e3 e7 e8
       rintro J2 Y2 hJ2 hY2 n2 env τ ⟨j,E,e0,e1,e2,e3,e7,e8,e9,hn2,hj,hE2,hle2,hH,hU⟩
       cases j with
       |zero=>
        have c5:decide ((1:Int)≤0)=false:=rfl
        simp +contextual (maxSteps:=600000) (disch:=omega) only[go_sem,e0,e1,e2,e3,e7,e8,e9,c5,Int.natCast_zero]
        refine hY2 _ _ ⟨?_,?_,?_,?_,?_,?_,hle2,by rw[← hU];exact hH⟩
        all_goals simp +contextual (maxSteps:=600000) (disch:=omega) only[go_sem,e0,e1,e2,e3,e7,e8]
       |succ m=>
        have c5:decide ((1:Int)≤(m:Int)+1)=true:=decide_eq_true (by omega)
        have n1:Bk (some (.int .i64 ((m:Int)+1)))=some (m+1):=C5 (by simp)
        have m1:(m:Int)+1 - 1=m:=by omega
        rw[shiftDown] at hU
        simp +contextual (maxSteps:=600000) (disch:=omega) only[go_sem,e0,e1,e2,e3,e7,e8,e9,c5,n1,m1,A4,hH.iad (j:=m+1) (by omega),hH.ld (j:=m+1) (by omega),hH.iad (j:=m) (by omega),hH.ld (j:=m) (by omega)]
        refine Ac (S.call _ _ _) ?_
        cases hl:lt E[m+1]! E[m]! with
        |false=>
         rw[if_pos (by simp[hl])] at hU
         simp +contextual (maxSteps:=600000) (disch:=omega) only[go_sem,e0,e1,e2,e3,e7,e8,e9,hl,S.klt]
         refine hY2 _ _ ⟨?_,?_,?_,?_,?_,?_,hle2,by rw[← hU];exact hH⟩
         all_goals simp +contextual (maxSteps:=600000) (disch:=omega) only[go_sem,e0,e1,e2,e3,e7,e8]
        |true=>
         rw[if_neg (by simp[hl])] at hU
         obtain⟨τ3,τ4,s3,s4,hH4,hl4⟩:=hH.sw (a:=m+1) (b:=m) (by omega) (by omega)
         simp +contextual (maxSteps:=600000) (disch:=omega) only[go_sem,e0,e1,e2,e3,e7,e8,e9,n1,m1,A4,hl,S.klt,hH.iad (j:=m+1) (by omega),hH.ld (j:=m+1) (by omega),hH.iad (j:=m) (by omega),hH.ld (j:=m) (by omega),s3,s4]
         refine⟨m,by omega,hJ2 _ _ _ ⟨m,swp E (m+1) m,?_,?_,?_,?_,?_,?_,?_,rfl,by omega,by rw[Go.Sort.swp_size];exact hE2,by omega,hH4,hU⟩⟩
         all_goals simp +contextual (maxSteps:=600000) (disch:=omega) only[go_sem,e0,e1,e2,e3,e7,e8,m1]
      clear e0 e1 e2 e3 e7 e8 hH1 hle1
      rintro env τ ⟨e0,e1,e2,e3,e7,e8,hle2,hH2⟩
      have hD2:=(M5 lt (i - 1) D1).trans hD1
      obtain⟨D2,hD20⟩:∃ D2,D2=shiftDown lt (i - 1) D1:=⟨_,rfl⟩
      rw[← hD20] at hE hD2 hH2
      simp +contextual (maxSteps:=600000) (disch:=omega) only[go_sem]
      by_cases hB:b - i≥2
      ·rw[if_pos hB] at hE
       have cB:decide ((2:Int)≤(b:Int) - i)=true:=by simp;omega
       simp +contextual (maxSteps:=600000) (disch:=omega) only[go_sem,e0,e1,e2,e3,e7,e8,cB,cA]
       refine Ia (fun n env τ=>∃(j:Nat) (E:Array α),env 0=v∧env 1=gi a∧env 2=gi b∧env 3= .fn S.f []∧env 9=gi i∧env 10=gi s∧env 12=gi j∧b - j=n∧1≤j∧j≤b∧E.size=d.size∧σ.length≤τ.length∧Holds S.e σ0 τ rs k v E∧shiftUp lt b j E=shiftUp lt b (i+1) D2) (b - (i+1)) 6 (fun env τ=>env 0=v∧env 1=gi a∧env 2=gi b∧env 3= .fn S.f []∧env 9=gi i∧env 10=gi s∧σ.length≤τ.length∧Holds S.e σ0 τ rs k v (shiftUp lt b (i+1) D2)) ⟨i+1,D2,by simp +contextual (maxSteps:=600000) (disch:=omega) only[go_sem,e0],by simp +contextual (maxSteps:=600000) (disch:=omega) only[go_sem,e1],by simp +contextual (maxSteps:=600000) (disch:=omega) only[go_sem,e2],by simp +contextual (maxSteps:=600000) (disch:=omega) only[go_sem,e3],by simp +contextual (maxSteps:=600000) (disch:=omega) only[go_sem,e7],by simp +contextual (maxSteps:=600000) (disch:=omega) only[go_sem,e8],by simp +contextual (maxSteps:=600000) (disch:=omega) only[go_sem,e7],rfl,by omega,by omega,hD2,hle2,hH2,rfl⟩ ?_ ?_
       ·clear e0 e1 e2 e3 e7 e8
        rintro J2 Y2 hJ2 hY2 n2 env τ ⟨j,E,e0,e1,e2,e3,e7,e8,e9,hn2,hj1,hj,hE2,hle3,hH,hU⟩
        rw[shiftUp] at hU
        rcases Nat.lt_or_ge j b with hjb|hjb
        ·rw[if_pos hjb] at hU
         have c5:decide ((j:Int)<b)=true:=by simp;omega
         have j1:(j:Int) - 1=((j - 1:Nat):Int):=by omega
         simp +contextual (maxSteps:=600000) (disch:=omega) only[go_sem,e0,e1,e2,e3,e7,e8,e9,c5,j1,A4,hH.iad (j:=j) (by omega),hH.ld (j:=j) (by omega),hH.iad (j:=j - 1) (by omega),hH.ld (j:=j - 1) (by omega)]
         refine Ac (S.call _ _ _) ?_
         cases hl:lt E[j]! E[j - 1]! with
         |false=>
          rw[if_pos (by simp[hl])] at hU
          simp +contextual (maxSteps:=600000) (disch:=omega) only[go_sem,e0,e1,e2,e3,e7,e8,e9,hl,S.klt]
          refine hY2 _ _ ⟨?_,?_,?_,?_,?_,?_,hle3,by rw[← hU];exact hH⟩
          all_goals simp +contextual (maxSteps:=600000) (disch:=omega) only[go_sem,e0,e1,e2,e3,e7,e8]
         |true=>
          rw[if_neg (by simp[hl])] at hU
          obtain⟨τ3,τ4,s3,s4,hH4,hl4⟩:=hH.sw (a:=j) (b:=j - 1) (by omega) (by omega)
          simp +contextual (maxSteps:=600000) (disch:=omega) only[go_sem,e0,e1,e2,e3,e7,e8,e9,j1,A4,hl,S.klt,hH.iad (j:=j) (by omega),hH.ld (j:=j) (by omega),hH.iad (j:=j - 1) (by omega),hH.ld (j:=j - 1) (by omega),s3,s4]
          refine⟨b - (j+1),by omega,hJ2 _ _ _ ⟨j+1,swp E j (j - 1),?_,?_,?_,?_,?_,?_,?_,rfl,by omega,by omega,by rw[Go.Sort.swp_size];exact hE2,by omega,hH4,hU⟩⟩
          all_goals simp +contextual (maxSteps:=600000) (disch:=omega) only[go_sem,e0,e1,e2,e3,e7,e8,e9]
        ·rw[if_neg (by omega)] at hU
         have c5:decide ((j:Int)<b)=false:=by simp;omega
         simp +contextual (maxSteps:=600000) (disch:=omega) only[go_sem,e0,e1,e2,e3,e7,e8,e9,c5]
         refine hY2 _ _ ⟨?_,?_,?_,?_,?_,?_,hle3,by rw[← hU];exact hH⟩
         all_goals simp +contextual (maxSteps:=600000) (disch:=omega) only[go_sem,e0,e1,e2,e3,e7,e8]
       clear e0 e1 e2 e3 e7 e8 hH2 hle2
       rintro env τ ⟨e0,e1,e2,e3,e7,e8,hle2,hH2⟩
       simp +contextual (maxSteps:=600000) (disch:=omega) only[go_sem,e0,e1,e2,e3,e7,e8]
       refine⟨n - 1,by omega,hJ _ _ _ ⟨s+1,i,_,?_,?_,?_,?_,?_,?_,by omega,by omega,by omega,by omega,(by rw[Rc lt b _ _ _ rfl];exact hD2),hle2,hH2,by rw[← hE];congr 1;omega⟩⟩
       all_goals simp +contextual (maxSteps:=600000) (disch:=omega) only[go_sem,e0,e1,e2,e3,e7,e8]
      ·rw[if_neg hB] at hE
       have cB:decide ((2:Int)≤(b:Int) - i)=false:=by simp;omega
       simp +contextual (maxSteps:=600000) (disch:=omega) only[go_sem,e0,e1,e2,e3,e7,e8,cB,cA]
       refine⟨n - 1,by omega,hJ _ _ _ ⟨s+1,i,_,?_,?_,?_,?_,?_,?_,by omega,by omega,by omega,by omega,hD2,hle2,hH2,by rw[← hE];congr 1;omega⟩⟩
       all_goals simp +contextual (maxSteps:=600000) (disch:=omega) only[go_sem,e0,e1,e2,e3,e7,e8]
     ·rw[if_neg hA] at hE
      have cA:decide ((2:Int)≤(i:Int) - a)=false:=by simp;omega
      obtain⟨D2,hD20⟩:∃ D2,D2=D1:=⟨_,rfl⟩
      have hD2:=hD1
      have hH2:=hH1
      have hle2:=hle1
      rw[← hD20] at hE hD2 hH2
      by_cases hB:b - i≥2
      ·rw[if_pos hB] at hE
       have cB:decide ((2:Int)≤(b:Int) - i)=true:=by simp;omega
       simp +contextual (maxSteps:=600000) (disch:=omega) only[go_sem,e0,e1,e2,e3,e7,e8,cB,cA]
       refine Ia (fun n env τ=>∃(j:Nat) (E:Array α),env 0=v∧env 1=gi a∧env 2=gi b∧env 3= .fn S.f []∧env 9=gi i∧env 10=gi s∧env 12=gi j∧b - j=n∧1≤j∧j≤b∧E.size=d.size∧σ.length≤τ.length∧Holds S.e σ0 τ rs k v E∧shiftUp lt b j E=shiftUp lt b (i+1) D2) (b - (i+1)) 6 (fun env τ=>env 0=v∧env 1=gi a∧env 2=gi b∧env 3= .fn S.f []∧env 9=gi i∧env 10=gi s∧σ.length≤τ.length∧Holds S.e σ0 τ rs k v (shiftUp lt b (i+1) D2)) ⟨i+1,D2,by simp +contextual (maxSteps:=600000) (disch:=omega) only[go_sem,e0],by simp +contextual (maxSteps:=600000) (disch:=omega) only[go_sem,e1],by simp +contextual (maxSteps:=600000) (disch:=omega) only[go_sem,e2],by simp +contextual (maxSteps:=600000) (disch:=omega) only[go_sem,e3],by simp +contextual (maxSteps:=600000) (disch:=omega) only[go_sem,e7],by simp +contextual (maxSteps:=600000) (disch:=omega) only[go_sem,e8],by simp +contextual (maxSteps:=600000) (disch:=omega) only[go_sem,e7],rfl,by omega,by omega,hD2,hle2,hH2,rfl⟩ ?_ ?_
       ·clear e0 e1 e2 e3 e7 e8
        rintro J2 Y2 hJ2 hY2 n2 env τ ⟨j,E,e0,e1,e2,e3,e7,e8,e9,hn2,hj1,hj,hE2,hle3,hH,hU⟩
        rw[shiftUp] at hU
        rcases Nat.lt_or_ge j b with hjb|hjb
        ·rw[if_pos hjb] at hU
         have c5:decide ((j:Int)<b)=true:=by simp;omega
         have j1:(j:Int) - 1=((j - 1:Nat):Int):=by omega
         simp +contextual (maxSteps:=600000) (disch:=omega) only[go_sem,e0,e1,e2,e3,e7,e8,e9,c5,j1,A4,hH.iad (j:=j) (by omega),hH.ld (j:=j) (by omega),hH.iad (j:=j - 1) (by omega),hH.ld (j:=j - 1) (by omega)]
         refine Ac (S.call _ _ _) ?_
         cases hl:lt E[j]! E[j - 1]! with
         |false=>
          rw[if_pos (by simp[hl])] at hU
          simp +contextual (maxSteps:=600000) (disch:=omega) only[go_sem,e0,e1,e2,e3,e7,e8,e9,hl,S.klt]
          refine hY2 _ _ ⟨?_,?_,?_,?_,?_,?_,hle3,by rw[← hU];exact hH⟩
          all_goals simp +contextual (maxSteps:=600000) (disch:=omega) only[go_sem,e0,e1,e2,e3,e7,e8]
         |true=>
          rw[if_neg (by simp[hl])] at hU
          obtain⟨τ3,τ4,s3,s4,hH4,hl4⟩:=hH.sw (a:=j) (b:=j - 1) (by omega) (by omega)
          simp +contextual (maxSteps:=600000) (disch:=omega) only[go_sem,e0,e1,e2,e3,e7,e8,e9,j1,A4,hl,S.klt,hH.iad (j:=j) (by omega),hH.ld (j:=j) (by omega),hH.iad (j:=j - 1) (by omega),hH.ld (j:=j - 1) (by omega),s3,s4]
          refine⟨b - (j+1),by omega,hJ2 _ _ _ ⟨j+1,swp E j (j - 1),?_,?_,?_,?_,?_,?_,?_,rfl,by omega,by omega,by rw[Go.Sort.swp_size];exact hE2,by omega,hH4,hU⟩⟩
          all_goals simp +contextual (maxSteps:=600000) (disch:=omega) only[go_sem,e0,e1,e2,e3,e7,e8,e9]
        ·rw[if_neg (by omega)] at hU
         have c5:decide ((j:Int)<b)=false:=by simp;omega
         simp +contextual (maxSteps:=600000) (disch:=omega) only[go_sem,e0,e1,e2,e3,e7,e8,e9,c5]
         refine hY2 _ _ ⟨?_,?_,?_,?_,?_,?_,hle3,by rw[← hU];exact hH⟩
         all_goals simp +contextual (maxSteps:=600000) (disch:=omega) only[go_sem,e0,e1,e2,e3,e7,e8]
       clear e0 e1 e2 e3 e7 e8 hH2 hle2
       rintro env τ ⟨e0,e1,e2,e3,e7,e8,hle2,hH2⟩
       simp +contextual (maxSteps:=600000) (disch:=omega) only[go_sem,e0,e1,e2,e3,e7,e8]
       refine⟨n - 1,by omega,hJ _ _ _ ⟨s+1,i,_,?_,?_,?_,?_,?_,?_,by omega,by omega,by omega,by omega,(by rw[Rc lt b _ _ _ rfl];exact hD2),hle2,hH2,by rw[← hE];congr 1;omega⟩⟩
       all_goals simp +contextual (maxSteps:=600000) (disch:=omega) only[go_sem,e0,e1,e2,e3,e7,e8]
      ·rw[if_neg hB] at hE
       have cB:decide ((2:Int)≤(b:Int) - i)=false:=by simp;omega
       simp +contextual (maxSteps:=600000) (disch:=omega) only[go_sem,e0,e1,e2,e3,e7,e8,cB,cA]
       refine⟨n - 1,by omega,hJ _ _ _ ⟨s+1,i,_,?_,?_,?_,?_,?_,?_,by omega,by omega,by omega,by omega,hD2,hle2,hH2,by rw[← hE];congr 1;omega⟩⟩
       all_goals simp +contextual (maxSteps:=600000) (disch:=omega) only[go_sem,e0,e1,e2,e3,e7,e8]
  ·have c0:decide ((s:Int)<5)=false:=by simp;omega
   have hm:5 - s=0:=by omega
   rw[hm,partialIns] at hE
   subst hE
   simp +contextual (maxSteps:=600000) (disch:=omega) only[go_sem,e0,e1,e2,e3,e7,e8,c0]
   exact⟨_,rfl,hle,rfl,hH⟩
 obtain⟨r,τ,R,rfl,h⟩:=key
 exact⟨τ,R,h⟩
end C
section
open Go Go.RowKit Go.Sort
set_option maxRecDepth 10000
theorem Py {m:Int} (h:0≤m) (h':m≤18446744073709551615):IntKind.u64.wrap m=m:=by
 show(if (false&&decide (m % 2 ^ 64≥2 ^ 63))=true then m % 2 ^ 64 - 2 ^ 64 else m % 2 ^ 64)=m
 simp only[Bool.false_and,Bool.false_eq_true,if_false]
 omega
theorem Aem {m:Int} (h:0≤m) (h':m≤255):IntKind.u8.wrap m=m:=by
 show(if (false&&decide (m % 2 ^ 8≥2 ^ 7))=true then m % 2 ^ 8 - 2 ^ 8 else m % 2 ^ 8)=m
 simp only[Bool.false_and,Bool.false_eq_true,if_false]
 omega
theorem shrU {x:Nat} {c:Nat} (hc:c≤64):G0 .shr .u64 (x:Int) (c:Int)=some (.int .u64 ((x / 2 ^ c:Nat):Int)):=by
 have h2:(2:Int) ^ c=((2 ^ c:Nat):Int):=by simp
 unfold G0
 rw[if_neg (by omega)]
 show some (GV.int .u64 (Int.fdiv (x:Int) (2 ^ min ((c:Int).toNat) 64)))=_
 rw[Int.toNat_natCast,Nat.min_eq_left hc,h2,Int.ofNat_fdiv]
theorem Ny {x k:Nat} (h:2 ^ k≤x):bitsLen x=k+bitsLen (x / 2 ^ k):=by rw[A83 h];omega
theorem A0j (σ:St) (x:Nat) (hx:x≤1099511627776):Ret Tryz.prog Ik [.int .u64 x] σ (gi (bitsLen x)) σ:=by
 refine Al Nu (Z0z rfl) trivial ?_
 have s32:G0 .shr .u64 (x:Int) 32=some (.int .u64 ((x / 4294967296:Nat):Int)):=shrU (c:=32) (by decide)
 have key2:∀ y:Nat,y<65536→IntKind.u8.wrap ((y / 256:Nat):Int)=((y / 256:Nat):Int):=fun y hy=>Aem (by omega) (by omega)
 have key3:∀ y:Nat,y<256→IntKind.u8.wrap (y:Int)=(y:Int):=fun y hy=>Aem (by omega) (by omega)
 have i64:∀ y:Nat,y<256→IntKind.i64.wrap ((bitsLen y:Nat):Int)=((bitsLen y:Nat):Int)∧bitsLen y≤8:=fun y hy=>by
  have:bitsLen y≤8:=(bitsLen_le_iff y 8).2 (by omega)
  exact⟨D6 (by omega) (by omega),this⟩
 by_cases h1:4294967296≤x
 ·have c1:decide ((4294967296:Int)≤x)=true:=by simp;omega
  have hE:=Ny (k:=32) (x:=x) h1
  obtain⟨y,hy⟩:∃ y,y=x / 4294967296:=⟨_,rfl⟩
  have hyl:y≤256:=by omega
  rw[show (2:Nat) ^ 32=4294967296 from rfl,←hy] at hE
  rw[← hy] at s32
  have c2:decide ((65536:Int)≤y)=false:=by simp;omega
  by_cases h3:256≤y
  ·have c3:decide ((256:Int)≤y)=true:=by simp;omega
   have s8:G0 .shr .u64 (y:Int) 8=some (.int .u64 ((y / 256:Nat):Int)):=shrU (c:=8) (by decide)
   have hE2:=Ny (k:=8) (x:=y) h3
   obtain⟨z,hz⟩:∃ z,z=y / 256:=⟨_,rfl⟩
   have hzl:z<256:=by omega
   rw[show (2:Nat) ^ 8=256 from rfl,←hz] at hE2
   rw[← hz] at s8
   rw[hE,hE2]
   obtain⟨w1,w2⟩:=i64 z hzl
   simp +contextual (disch:=omega) only[go_sem,Bv,c1,s32,c2,c3,s8,key3 z hzl,A4,Pv hzl,w1]
   simp<;>omega
  ·have c3:decide ((256:Int)≤y)=false:=by simp;omega
   have hzl:y<256:=by omega
   obtain⟨w1,w2⟩:=i64 y hzl
   rw[hE]
   simp +contextual (disch:=omega) only[go_sem,Bv,c1,s32,c2,c3,key3 y hzl,A4,Pv hzl,w1]
 ·have c1:decide ((4294967296:Int)≤x)=false:=by simp;omega
  by_cases h2:65536≤x
  ·have c2:decide ((65536:Int)≤x)=true:=by simp;omega
   have s16:G0 .shr .u64 (x:Int) 16=some (.int .u64 ((x / 65536:Nat):Int)):=shrU (c:=16) (by decide)
   have hE:=Ny (k:=16) (x:=x) h2
   obtain⟨y,hy⟩:∃ y,y=x / 65536:=⟨_,rfl⟩
   have hyl:y<65536:=by omega
   rw[show (2:Nat) ^ 16=65536 from rfl,←hy] at hE
   rw[← hy] at s16
   by_cases h3:256≤y
   ·have c3:decide ((256:Int)≤y)=true:=by simp;omega
    have s8:G0 .shr .u64 (y:Int) 8=some (.int .u64 ((y / 256:Nat):Int)):=shrU (c:=8) (by decide)
    have hE2:=Ny (k:=8) (x:=y) h3
    obtain⟨z,hz⟩:∃ z,z=y / 256:=⟨_,rfl⟩
    have hzl:z<256:=by omega
    rw[show (2:Nat) ^ 8=256 from rfl,←hz] at hE2
    rw[← hz] at s8
    rw[hE,hE2]
    obtain⟨w1,w2⟩:=i64 z hzl
    simp +contextual (disch:=omega) only[go_sem,Bv,c1,s16,c2,c3,s8,key3 z hzl,A4,Pv hzl,w1]
    simp<;>omega
   ·have c3:decide ((256:Int)≤y)=false:=by simp;omega
    have hzl:y<256:=by omega
    obtain⟨w1,w2⟩:=i64 y hzl
    rw[hE]
    simp +contextual (disch:=omega) only[go_sem,Bv,c1,s16,c2,c3,key3 y hzl,A4,Pv hzl,w1]
    simp<;>omega
  ·have c2:decide ((65536:Int)≤x)=false:=by simp;omega
   by_cases h3:256≤x
   ·have c3:decide ((256:Int)≤x)=true:=by simp;omega
    have s8:G0 .shr .u64 (x:Int) 8=some (.int .u64 ((x / 256:Nat):Int)):=shrU (c:=8) (by decide)
    have hE2:=Ny (k:=8) (x:=x) h3
    obtain⟨z,hz⟩:∃ z,z=x / 256:=⟨_,rfl⟩
    have hzl:z<256:=by omega
    rw[show (2:Nat) ^ 8=256 from rfl,←hz] at hE2
    rw[← hz] at s8
    rw[hE2]
    obtain⟨w1,w2⟩:=i64 z hzl
    simp +contextual (disch:=omega) only[go_sem,Bv,c1,c2,c3,s8,key3 z hzl,A4,Pv hzl,w1]
    simp<;>omega
   ·have c3:decide ((256:Int)≤x)=false:=by simp;omega
    have hzl:x<256:=by omega
    obtain⟨w1,w2⟩:=i64 x hzl
    simp +contextual (disch:=omega) only[go_sem,Bv,c1,c2,c3,key3 x hzl,A4,Pv hzl,w1]
    simp<;>omega
theorem Ut (σ:St) (x:Nat) (hx:x≤1099511627776):Ret Tryz.prog Fo [.int .u64 x] σ (gi (bitsLen x)) σ:=by
 refine Al Sg (Z0z rfl) trivial ?_
 simp +contextual (disch:=omega) only[go_sem,Ko]
 refine Ac (A0j σ x hx) ?_
 simp +contextual (disch:=omega) only[go_sem]
theorem Ah7 (σ:St) (x:Nat) (hx:x≤1099511627776):Ret Tryz.prog Av [gi x] σ (.int .u64 (2 ^ bitsLen x:Nat)) σ:=by
 refine Al Ij (Z0z rfl) trivial ?_
 have w1:IntKind.u64.wrap (x:Int)=x:=Py (by omega) (by omega)
 have hb:=Aaa hx
 have hp:2 ^ bitsLen x≤2 ^ 41:=Nat.pow_le_pow_right (by omega) hb
 have s1:G0 .shl .u64 1 ((bitsLen x:Nat):Int)=some (.int .u64 (2 ^ bitsLen x:Nat)):=by
  unfold G0
  rw[if_neg (by omega)]
  show some (GV.int .u64 (IntKind.u64.wrap (1*2 ^ min (((bitsLen x:Nat):Int).toNat) 64)))=_
  rw[Int.toNat_natCast,Nat.min_eq_left (by omega),Int.one_mul]
  have h2:(2:Int) ^ bitsLen x=((2 ^ bitsLen x:Nat):Int):=by simp
  obtain⟨q,hq⟩:∃ q,q=2 ^ bitsLen x:=⟨_,rfl⟩
  rw[← hq] at hp
  rw[h2,←hq,Py (by omega) (by omega)]
 simp +contextual (disch:=omega) only[go_sem,Fn,w1]
 refine Ac (Ut σ x hx) ?_
 simp +contextual (disch:=omega) only[go_sem,s1]
theorem Aac (c:Int) (hc:0≤c):∃ f:Int→Int,∀ a,G0 .shl .u64 a c=some (.int .u64 (f a)):=⟨fun a=>IntKind.u64.wrap (a*2 ^ min c.toNat IntKind.u64.bits),fun a=>by unfold G0;rw[if_neg (by omega)]⟩
theorem Ah8 (c:Int) (hc:0≤c):∃ f:Int→Int,∀ a,G0 .shr .u64 a c=some (.int .u64 (f a)):=⟨fun a=>a.fdiv (2 ^ min c.toNat IntKind.u64.bits),fun a=>by unfold G0;rw[if_neg (by omega)]⟩
theorem Ah9:∃ f:Int→Int→Int,∀ a b,binG .xor (.int .u64 a) (.int .u64 b)=some (.int .u64 (f a b)):=⟨fun a b=>IntKind.u64.wrap (BitVec.ofInt IntKind.u64.bits a ^^^ BitVec.ofInt IntKind.u64.bits b).toNat,fun a b=>rfl⟩
theorem andU {y:Int} {m:Nat} (hm:m<2 ^ 62):∃ w:Nat,w≤m∧binG .and (.int .u64 y) (.int .u64 (m:Int))=some (.int .u64 (w:Int)):=by
 have h1:(BitVec.ofInt IntKind.u64.bits y &&& BitVec.ofInt IntKind.u64.bits (m:Int)).toNat≤m:=by
  rw[BitVec.toNat_and]
  refine Nat.le_trans Nat.and_le_right ?_
  rw[BitVec.toNat_ofInt]
  show((m:Int) % ((2 ^ 64:Nat):Int)).toNat≤m
  omega
 refine⟨_,h1,?_⟩
 show some (GV.int .u64 (IntKind.u64.wrap _))=_
 rw[Py (by omega) (by omega)]
theorem xs_ret {σ0 σ:St} {rs:List Thg} {g:Nat} {y:Int} (H:Hp σ0 σ rs) (m:Nat) (hm:rs[m]? =some (pt 1 g [.int .u64 y])):∃(y':Int) (τ:St),Ret Tryz.prog As [.ptr g 0] σ (.int .u64 y') τ∧Hp σ0 τ (rs.set m (pt 1 g [.int .u64 y'])):=by
 have key:∃ r τ,Ret Tryz.prog As [.ptr g 0] σ r τ∧∃ y':Int,r= .int .u64 y'∧Hp σ0 τ (rs.set m (pt 1 g [.int .u64 y'])):=by
  refine Bw J8 (Z0z rfl) ?_
  obtain⟨f1,hf1⟩:=Aac 13 (by decide)
  obtain⟨f2,hf2⟩:=Ah8 7 (by decide)
  obtain⟨f3,hf3⟩:=Aac 17 (by decide)
  obtain⟨fb,hfb⟩:=Ah9
  have e1:∀ z:Int,∀ w:GV,Ao [w] 0 [GV.int .u64 z]=[.int .u64 z]:=fun z w=>rfl
  have sg:∀ z:Int,(seg [GV.int .u64 z] 0 1).bind (mkv false)=some (.int .u64 z):=fun z=>rfl
  have hml:=(List.getElem?_eq_some_iff.1 hm).1
  have l1:=A5 (a:=false) (n:=1) (off:=0) (H.pt m hm)
  obtain⟨τ1,st1,H1,hl1⟩:=H.st m hm 1 0 (.int .u64 (fb y (f1 y))) rfl (by decide) (by simp)
  simp only[GV.cells,e1] at H1
  obtain⟨y1,hy1⟩:∃ y1,y1=fb y (f1 y):=⟨_,rfl⟩
  rw[← hy1] at st1 H1
  have l2:=A5 (a:=false) (n:=1) (off:=0) (H1.pt m (List.getElem?_set_self hml))
  obtain⟨τ2,st2,H2,hl2⟩:=H1.st m (List.getElem?_set_self hml) 1 0 (.int .u64 (fb y1 (f2 y1))) rfl (by decide) (by simp)
  simp only[GV.cells,e1] at H2
  obtain⟨y2,hy2⟩:∃ y1',y1'=fb y1 (f2 y1):=⟨_,rfl⟩
  rw[← hy2] at st2 H2
  rw[List.set_set] at H2
  have l3:=A5 (a:=false) (n:=1) (off:=0) (H2.pt m (List.getElem?_set_self hml))
  obtain⟨τ3,st3,H3,hl3⟩:=H2.st m (List.getElem?_set_self hml) 1 0 (.int .u64 (fb y2 (f3 y2))) rfl (by decide) (by simp)
  simp only[GV.cells,e1] at H3
  obtain⟨y3,hy3⟩:∃ y1',y1'=fb y2 (f3 y2):=⟨_,rfl⟩
  rw[← hy3] at st3 H3
  rw[List.set_set] at H3
  have l4:=A5 (a:=false) (n:=1) (off:=0) (H3.pt m (List.getElem?_set_self hml))
  simp only[sg] at l1 l2 l3 l4
  simp +contextual (disch:=omega) only[go_sem,G4,hf1,hf2,hf3,hfb,l1,←hy1,st1,l2,←hy2,st2,l3,←hy3,st3,l4]
  exact⟨_,rfl,by omega,y3,rfl,H3⟩
 obtain⟨r,τ,R,y',rfl,h⟩:=key
 exact⟨y',τ,R,h⟩
end
namespace C
open Go Go.RowKit Go.Proofs.YtbeoiejnogdkpaaGreat.Sy Go.Sort
variable {α:Type} [Inhabited α] {lt:α→α→Bool} {σ0 σ:St} {rs:List Thg} {k g:Nat} {s:Int} {v:GV} {d:Array α}
theorem Pz (S:SrtC α lt) (H:Holds S.e σ0 σ (pt 1 g [gi s]::rs) (k+1) v d) {a b:Nat} (ha:a<d.size) (hb:b<d.size):∃(r1 r2:Nat) (s':Int) (τ:St),Ret Tryz.prog S.q.order2 [v,gi a,gi b,.ptr g 0,.fn S.f []] σ (.tup [gi r1,gi r2]) τ∧Holds S.e σ0 τ (pt 1 g [gi s']::rs) (k+1) v d∧((r1=a∧r2=b)∨(r1=b∧r2=a)):=by
 have key:∃ r τ,Ret Tryz.prog S.q.order2 [v,gi a,gi b,.ptr g 0,.fn S.f []] σ r τ∧∃(r1 r2:Nat) (s':Int),r= .tup [gi r1,gi r2]∧Holds S.e σ0 τ (pt 1 g [gi s']::rs) (k+1) v d∧((r1=a∧r2=b)∨(r1=b∧r2=a)):=by
  refine Bw S.h_order2 (Z0z rfl) ?_
  simp +contextual (disch:=omega) only[go_sem,Yg,A4,H.iad ha,H.ld ha,H.iad hb,H.ld hb]
  refine Ac (S.call _ _ _) ?_
  cases hl:lt d[b]! d[a]! with
  |true=>
   have l1:=A5 (a:=false) (n:=1) (off:=0) (H.2.pt 0 rfl)
   have l1:ldG false 1 σ (.ptr g 0)=some (gi s):=l1
   obtain⟨τ1,st1,H1,hl1⟩:=H.2.st 0 rfl 1 0 (gi (IntKind.i64.wrap (s+1))) rfl (by decide) (by simp)
   simp +contextual (disch:=omega) only[go_sem,hl,S.klt,l1,st1]
   exact⟨_,rfl,by omega,b,a,IntKind.i64.wrap (s+1),rfl,⟨H.1,H1⟩,.inr ⟨rfl,rfl⟩⟩
  |false=>
   simp +contextual (disch:=omega) only[go_sem,hl,S.klt]
   exact⟨_,rfl,a,b,s,rfl,H,.inl ⟨rfl,rfl⟩⟩
 obtain⟨r,τ,R,r1,r2,s',rfl,h1,h2⟩:=key
 exact⟨r1,r2,s',τ,R,h1,h2⟩
theorem Q0 (S:SrtC α lt) (H:Holds S.e σ0 σ (pt 1 g [gi s]::rs) (k+1) v d) {a b c:Nat} (ha:a<d.size) (hb:b<d.size) (hc:c<d.size):∃(r1:Nat) (s':Int) (τ:St),Ret Tryz.prog S.q.median [v,gi a,gi b,gi c,.ptr g 0,.fn S.f []] σ (gi r1) τ∧Holds S.e σ0 τ (pt 1 g [gi s']::rs) (k+1) v d∧(r1=a∨r1=b∨r1=c):=by
 have key:∃ r τ,Ret Tryz.prog S.q.median [v,gi a,gi b,gi c,.ptr g 0,.fn S.f []] σ r τ∧∃(r1:Nat) (s':Int),r=gi r1∧Holds S.e σ0 τ (pt 1 g [gi s']::rs) (k+1) v d∧(r1=a∨r1=b∨r1=c):=by
  refine Bw S.h_median (Z0z rfl) ?_
  simp +contextual (disch:=omega) only[go_sem,Yf]
  obtain⟨a1,b1,s1,τ1,R1,H1,h1⟩:=Pz S H ha hb
  refine C8 R1 ?_
  simp +contextual (disch:=omega) only[go_sem]
  obtain⟨b2,c2,s2,τ2,R2,H2,h2⟩:=Pz S H1 (a:=b1) (b:=c) (by omega) hc
  refine C8 R2 ?_
  simp +contextual (disch:=omega) only[go_sem]
  obtain⟨a3,b3,s3,τ3,R3,H3,h3⟩:=Pz S H2 (a:=a1) (b:=b2) (by omega) (by omega)
  refine C8 R3 ?_
  simp +contextual (disch:=omega) only[go_sem]
  have:=R1.2.1
  have:=R2.2.1
  have:=R3.2.1
  exact⟨_,rfl,by omega,b3,s3,rfl,H3,by omega⟩
 obtain⟨r,τ,R,r1,s',rfl,h1,h2⟩:=key
 exact⟨r1,s',τ,R,h1,h2⟩
theorem Q1 (S:SrtC α lt) (H:Holds S.e σ0 σ (pt 1 g [gi s]::rs) (k+1) v d) {a:Nat} (h0:0<a) (ha:a+1<d.size) (hs:d.size≤1099511627776):∃(r1:Nat) (s':Int) (τ:St),Ret Tryz.prog S.q.medianAdjacent [v,gi a,.ptr g 0,.fn S.f []] σ (gi r1) τ∧Holds S.e σ0 τ (pt 1 g [gi s']::rs) (k+1) v d∧a≤r1+1∧r1≤a+1:=by
 have key:∃ r τ,Ret Tryz.prog S.q.medianAdjacent [v,gi a,.ptr g 0,.fn S.f []] σ r τ∧∃(r1:Nat) (s':Int),r=gi r1∧Holds S.e σ0 τ (pt 1 g [gi s']::rs) (k+1) v d∧a≤r1+1∧r1≤a+1:=by
  refine Bw S.h_medianAdjacent (Z0z rfl) ?_
  obtain⟨p,rfl⟩:∃ p,a=p+1:=⟨a - 1,by omega⟩
  have p1:(p:Int)+1 - 1=p:=by omega
  simp +contextual (disch:=omega) only[go_sem,I1,p1]
  obtain⟨r1,s1,τ1,R1,H1,h1⟩:=Q0 S H (a:=p) (b:=p+1) (c:=p+1+1) (by omega) (by omega) (by omega)
  refine C8 R1 ?_
  simp +contextual (disch:=omega) only[go_sem]
  have:=R1.2.1
  exact⟨_,rfl,by omega,r1,s1,rfl,H1,by omega,by omega⟩
 obtain⟨r,τ,R,r1,s',rfl,h1,h2⟩:=key
 exact⟨r1,s',τ,R,h1,h2⟩
theorem A86 (S:SrtC α lt) (H:Holds S.e σ0 σ rs k v d) {a b:Nat} (hab:a<b) (hb:b≤d.size) (hs:d.size≤1099511627776):∃(p h:Nat) (τ:St),Ret Tryz.prog S.q.choosePivot [v,gi a,gi b,.fn S.f []] σ (.tup [gi p,gi h]) τ∧Holds S.e σ0 τ rs k v d∧a≤p∧p<b∧h≤2:=by
 have key:∃ r τ,Ret Tryz.prog S.q.choosePivot [v,gi a,gi b,.fn S.f []] σ r τ∧∃(p h:Nat),r= .tup [gi p,gi h]∧Holds S.e σ0 τ rs k v d∧a≤p∧p<b∧h≤2:=by
  refine Bw S.h_choosePivot (Z0z rfl) ?_
  obtain⟨l,hl⟩:∃ l,l=b - a:=⟨_,rfl⟩
  have hlI:(b:Int) - a=l:=by omega
  obtain⟨q,hq⟩:∃ q,q=l / 4:=⟨_,rfl⟩
  have hqI:(l:Int).tdiv 4=q:=by rw[hq];rfl
  obtain⟨i,hi⟩:∃ i,i=a+q*1:=⟨_,rfl⟩
  obtain⟨j,hj⟩:∃ i,i=a+q*2:=⟨_,rfl⟩
  obtain⟨m,hm⟩:∃ i,i=a+q*3:=⟨_,rfl⟩
  have hiI:(a:Int)+q*1=i:=by omega
  have hjI:(a:Int)+q*2=j:=by omega
  have hmI:(a:Int)+q*3=m:=by omega
  have H0:Holds S.e σ0 (σ++[some (.row 1 [gi 0])]) (pt 1 σ.length [gi 0]::rs) (k+1) v d:=⟨by simpa using H.1,H.2.new 1 [gi 0]⟩
  have L0:(σ++[some (Blk.row 1 [GV.int IntKind.i64 0])]).length=σ.length+1:=by simp
  have L1:(σ++[some (Blk.row 1 [gi 0])]).length=σ.length+1:=L0
  by_cases h8:8≤l
  ·have c8:decide ((8:Int)≤l)=true:=by simp;omega
   by_cases h50:50≤l
   ·have c50:decide ((50:Int)≤l)=true:=by simp;omega
    simp +contextual (disch:=omega) only[go_sem,Fp,hlI,hqI,hiI,hjI,hmI,c8,c50]
    obtain⟨i1,s1,τ1,R1,H1,h1,h1'⟩:=Q1 S H0 (a:=i) (by omega) (by omega) hs
    refine C8 R1 ?_
    simp +contextual (disch:=omega) only[go_sem]
    obtain⟨j1,s2,τ2,R2,H2,h2,h2'⟩:=Q1 S H1 (a:=j) (by omega) (by omega) hs
    refine C8 R2 ?_
    simp +contextual (disch:=omega) only[go_sem]
    obtain⟨m1,s3,τ3,R3,H3,h3,h3'⟩:=Q1 S H2 (a:=m) (by omega) (by omega) hs
    refine C8 R3 ?_
    simp +contextual (disch:=omega) only[go_sem]
    obtain⟨p,s4,τ4,R4,H4,h4⟩:=Q0 S H3 (a:=i1) (b:=j1) (c:=m1) (by omega) (by omega) (by omega)
    refine C8 R4 ?_
    have:=R1.2.1
    have:=R2.2.1
    have:=R3.2.1
    have:=R4.2.1
    have l1:ldG false 1 τ4 (.ptr σ.length 0)=some (gi s4):=A5 (a:=false) (n:=1) (off:=0) ((H4).2.pt 0 rfl)
    simp +contextual (disch:=omega) only[go_sem,l1]
    have hout:Holds S.e σ0 τ4 rs k v d:=⟨H.1,(H4).2.drop1⟩
    have key0:((s4:Int)==0)=decide ((s4:Int)=0):=rfl
    by_cases h0:(s4:Int)=0
    ·have c0:((s4:Int)==0)=true:=by simp[h0]
     simp +contextual (disch:=omega) only[go_sem,c0]
     exact⟨_,rfl,by omega,p,1,rfl,hout,by omega,by omega,by omega⟩
    ·have c0:((s4:Int)==0)=false:=by simp[h0]
     by_cases h12:(s4:Int)=12
     ·have c1:((s4:Int)==12)=true:=by simp[h12]
      simp +contextual (disch:=omega) only[go_sem,c0,c1]
      exact⟨_,rfl,by omega,p,2,rfl,hout,by omega,by omega,by omega⟩
     ·have c1:((s4:Int)==12)=false:=by simp[h12]
      simp +contextual (disch:=omega) only[go_sem,c0,c1]
      exact⟨_,rfl,by omega,p,0,rfl,hout,by omega,by omega,by omega⟩
   ·have c50:decide ((50:Int)≤l)=false:=by simp;omega
    simp +contextual (disch:=omega) only[go_sem,Fp,hlI,hqI,hiI,hjI,hmI,c8,c50]
    obtain⟨p,s4,τ4,R4,H4,h4⟩:=Q0 S H0 (a:=i) (b:=j) (c:=m) (by omega) (by omega) (by omega)
    refine C8 R4 ?_
    have:=R4.2.1
    have l1:ldG false 1 τ4 (.ptr σ.length 0)=some (gi s4):=A5 (a:=false) (n:=1) (off:=0) ((H4).2.pt 0 rfl)
    simp +contextual (disch:=omega) only[go_sem,l1]
    have hout:Holds S.e σ0 τ4 rs k v d:=⟨H.1,(H4).2.drop1⟩
    have key0:((s4:Int)==0)=decide ((s4:Int)=0):=rfl
    by_cases h0:(s4:Int)=0
    ·have c0:((s4:Int)==0)=true:=by simp[h0]
     simp +contextual (disch:=omega) only[go_sem,c0]
     exact⟨_,rfl,by omega,p,1,rfl,hout,by omega,by omega,by omega⟩
    ·have c0:((s4:Int)==0)=false:=by simp[h0]
     by_cases h12:(s4:Int)=12
     ·have c1:((s4:Int)==12)=true:=by simp[h12]
      simp +contextual (disch:=omega) only[go_sem,c0,c1]
      exact⟨_,rfl,by omega,p,2,rfl,hout,by omega,by omega,by omega⟩
     ·have c1:((s4:Int)==12)=false:=by simp[h12]
      simp +contextual (disch:=omega) only[go_sem,c0,c1]
      exact⟨_,rfl,by omega,p,0,rfl,hout,by omega,by omega,by omega⟩
  ·have c8:decide ((8:Int)≤l)=false:=by simp;omega
   have l1:ldG false 1 (σ++[some (.row 1 [gi 0])]) (.ptr σ.length 0)=some (gi 0):=A5 (a:=false) (n:=1) (off:=0) (H0.2.pt 0 rfl)
   have c0:((0:Int)==0)=true:=rfl
   simp +contextual (disch:=omega) only[go_sem,Fp,hlI,hqI,hiI,hjI,hmI,c8,l1,c0]
   exact⟨_,rfl,by omega,j,1,rfl,⟨H.1,H0.2.drop1⟩,by omega,by omega,by omega⟩
 obtain⟨r,τ,R,p,h,rfl,h1,h2⟩:=key
 exact⟨p,h,τ,R,h1,h2⟩
theorem Aad (S:SrtC α lt) (H:Holds S.e σ0 σ rs k v d) {a b:Nat} (hab:a≤b) (hb:b≤d.size) (hs:d.size≤1099511627776):∃(d':Array α) (τ:St),Ret Tryz.prog S.q.breakPatterns [v,gi a,gi b,.fn S.f []] σ (.tup []) τ∧Holds S.e σ0 τ rs k v d'∧PermIn a b d d':=by
 have key:∃ r τ,Ret Tryz.prog S.q.breakPatterns [v,gi a,gi b,.fn S.f []] σ r τ∧∃(d':Array α),r= .tup []∧Holds S.e σ0 τ rs k v d'∧PermIn a b d d':=by
  refine Bw S.h_breakPatterns (Z0z rfl) ?_
  obtain⟨h,hh⟩:∃ l,l=b - a:=⟨_,rfl⟩
  have hhI:(b:Int) - a=h:=by omega
  by_cases h8:8≤h
  ·have c8:decide ((8:Int)≤h)=true:=by simp;omega
   have wu:IntKind.u64.wrap (h:Int)=h:=Py (by omega) (by omega)
   obtain⟨q,hq⟩:∃ q,q=h / 4:=⟨_,rfl⟩
   have hqI:(h:Int).tdiv 4=q:=by rw[hq];rfl
   obtain⟨m,hm⟩:∃ i,i=a+q*2:=⟨_,rfl⟩
   have hmI:(a:Int)+q*2=m:=by omega
   have hmJ:(m:Int) - 1=((m - 1:Nat):Int):=by omega
   have H0:Holds S.e σ0 (σ++[some (.row 1 [.int .u64 h])]) (pt 1 σ.length [.int .u64 h]::rs) (k+1) v d:=⟨by simpa using H.1,H.2.new 1 [.int .u64 h]⟩
   have sp:Ao [GV.int .u64 0] 0 [GV.int .u64 (h:Int)]=[.int .u64 h]:=rfl
   simp +contextual (disch:=omega) only[go_sem,G6,hhI,c8,wu,GV.cells,sp,List.length_cons,List.length_nil,Nat.reduceAdd,Nat.le_refl,Nat.zero_lt_one,and_self,if_true]
   rw[S.hnp]
   have hbl:h≤1099511627776:=by omega
   refine Ac (Ah7 _ h hbl) ?_
   obtain⟨M,hM⟩:∃ M,M=2 ^ bitsLen h:=⟨_,rfl⟩
   have hM1:=Go.Sort.two_pow_bitsLen_le (n:=h) (by omega)
   have hM2:=Nat.two_pow_pos (bitsLen h)
   rw[← hM] at hM1 hM2
   rw[← hM]
   have M1:(M:Int) - 1=((M - 1:Nat):Int):=by omega
   have wM:IntKind.u64.wrap ((M - 1:Nat):Int)=((M - 1:Nat):Int):=Py (by omega) (by omega)
   have L0:(σ++[some (Blk.row 1 [GV.int .u64 (h:Int)])]).length=σ.length+1:=by simp
   simp +contextual (disch:=omega) only[go_sem,hqI,hmI,hmJ]
   refine He (fun n env τ=>∃(x:Nat) (y:Int) (D:Array α),env 0=v∧env 1=gi a∧env 8=gi h∧env 9= .ptr σ.length 0∧env 10= .int .u64 (M:Nat)∧env 11=gi x∧m+2 - x=n∧m - 1≤x∧x≤m+2∧σ.length≤τ.length∧Holds S.e σ0 τ (pt 1 σ.length [.int .u64 y]::rs) (k+1) v D∧PermIn a b d D) (m+2 - (m - 1)) ⟨m - 1,h,d,rfl,rfl,rfl,rfl,rfl,rfl,rfl,Nat.le_refl _,by omega,by omega,H0,permIn_refl _ _ _⟩ ?_
   rintro J hJ n env τ ⟨x,y,D,e0,e1,e6,e7,e8,e9,hn,hx1,hx2,hle,hH,hP⟩
   have hD:D.size=d.size:=hP.1
   by_cases hx:x≤m+1
   ·have c0:decide ((x:Int)≤(m:Int)+1)=true:=by simp;omega
    simp +contextual (disch:=omega) only[go_sem,e0,e1,e6,e7,e8,e9,hqI,hmI,c0]
    rw[S.hxs]
    obtain⟨y',τ1,R1,H1⟩:=xs_ret hH.2 0 rfl
    have hle1:=R1.2.1
    have H1:Holds S.e σ0 τ1 (pt 1 σ.length [.int .u64 y']::rs) (k+1) v D:=⟨hH.1,H1⟩
    obtain⟨w,hw,hwE⟩:=andU (y:=y') (m:=M - 1) (by omega)
    have ww:IntKind.i64.wrap (w:Int)=w:=D6 (by omega) (by omega)
    refine C8 R1 ?_
    simp +contextual (disch:=omega) only[go_sem,e0,e1,e6,e7,e8,e9,M1,wM,hwE,ww]
    obtain⟨z,hz,hzI⟩:∃ z:Nat,z<h∧(z:Int)=if h≤w then(w:Int) - h else w:=by
     by_cases hc:h≤w
     ·exact⟨w - h,by omega,by rw[if_pos hc];omega⟩
     ·exact⟨w,by omega,by rw[if_neg hc]⟩
    have nz:Bk (some (.int .i64 ((a:Int)+z)))=some (a+z):=C5 (by simp)
    obtain⟨τ3,τ4,s3,s4,hH4,hl4⟩:=H1.sw (a:=x) (b:=a+z) (by omega) (by omega)
    have hP2:=permIn_trans _ _ _ _ _ hP (swp_permIn D a b x (a+z) (by omega) (by omega) (by omega) (by omega) (by omega))
    by_cases hc:h≤w
    ·rw[if_pos hc] at hzI
     have cc:decide ((h:Int)≤w)=true:=by simp;omega
     simp +contextual (disch:=omega) only[go_sem,e0,e1,e6,e7,e8,e9,cc,←hzI,nz,A4,H1.iad (j:=x) (by omega),H1.ld (j:=x) (by omega),H1.iad (j:=a+z) (by omega),H1.ld (j:=a+z) (by omega),s3,s4]
     refine⟨m+2 - (x+1),by omega,hJ _ _ _ ⟨x+1,y',_,?_,?_,?_,?_,?_,?_,rfl,by omega,by omega,by omega,hH4,hP2⟩⟩
     all_goals simp +contextual (disch:=omega) only[go_sem,e0,e1,e6,e7,e8,e9]
    ·rw[if_neg hc] at hzI
     have hzw:z=w:=by omega
     rw[hzw] at nz s3 s4 hH4 hP2 hz
     have cc:decide ((h:Int)≤w)=false:=by simp;omega
     simp +contextual (disch:=omega) only[go_sem,e0,e1,e6,e7,e8,e9,cc,nz,A4,H1.iad (j:=x) (by omega),H1.ld (j:=x) (by omega),H1.iad (j:=a+w) (by omega),H1.ld (j:=a+w) (by omega),s3,s4]
     refine⟨m+2 - (x+1),by omega,hJ _ _ _ ⟨x+1,y',_,?_,?_,?_,?_,?_,?_,rfl,by omega,by omega,by omega,hH4,hP2⟩⟩
     all_goals simp +contextual (disch:=omega) only[go_sem,e0,e1,e6,e7,e8,e9]
   ·have c0:decide ((x:Int)≤(m:Int)+1)=false:=by simp;omega
    simp +contextual (disch:=omega) only[go_sem,e0,e1,e6,e7,e8,e9,hqI,hmI,c0]
    exact⟨_,rfl,hle,D,rfl,⟨H.1,hH.2.drop1⟩,hP⟩
  ·have c8:decide ((8:Int)≤h)=false:=by simp;omega
   simp +contextual (disch:=omega) only[go_sem,G6,hhI,c8]
   exact⟨_,rfl,d,rfl,H,permIn_refl _ _ _⟩
 obtain⟨r,τ,R,d',rfl,h⟩:=key
 exact⟨d',τ,R,h⟩
end C
namespace C
open Go Go.RowKit Go.Proofs.YtbeoiejnogdkpaaGreat.Sy Go.Sort
variable {α:Type} [Inhabited α] {lt:α→α→Bool} {σ0:St} {rs:List Thg} {k:Nat} {v:GV}
set_option maxHeartbeats 2000000 in
theorem Aha (S:SrtC α lt) (hS:SWO lt):∀(n:Nat) (d:Array α) (a b l:Nat) (σ:St),b - a≤n→a≤b→b≤d.size→d.size≤1099511627776→l≤1099511627776→Below lt a b d→Holds S.e σ0 σ rs k v d→∃(d':Array α) (τ:St),Ret Tryz.prog S.q.pdqsort [v,gi a,gi b,gi l,.fn S.f []] σ (.tup []) τ∧Holds S.e σ0 τ rs k v d'∧PermIn a b d d'∧SortedIn lt a b d':=by
 intro n
 induction n with
 |zero=>
  intro d a b l σ hn hab hb hs hl hB H
  have key:∃ r τ,Ret Tryz.prog S.q.pdqsort [v,gi a,gi b,gi l,.fn S.f []] σ r τ∧r= .tup []∧Holds S.e σ0 τ rs k v (insertionSort lt d a b):=by
   refine Bw S.h_pdqsort (Z0z rfl) ?_
   obtain rfl:a=b:=by omega
   simp +contextual (disch:=omega) only[go_sem,Mv]
   refine Xv (fun n env τ=>env 0=v∧env 1=gi a∧env 2=gi a∧env 4= .fn S.f []∧τ=σ) 0 ⟨rfl,rfl,rfl,rfl,rfl⟩ ?_
   rintro n env τ ⟨e0,e1,e2,e4,rfl⟩
   have a0:(a:Int) - a=0:=by omega
   have c0:decide ((0:Int)≤12)=true:=rfl
   simp +contextual (disch:=omega) only[go_sem,e0,e1,e2,e4,a0,c0]
   obtain⟨τ1,R,H1⟩:=Aab S H (a:=a) (b:=a) (Nat.le_refl _) hb hs
   refine C8 R ?_
   simp +contextual (disch:=omega) only[go_sem]
   exact⟨_,rfl,R.2.1,rfl,H1⟩
  obtain⟨r,τ,R,rfl,H1⟩:=key
  obtain⟨p1,p2⟩:=insertionSort_holds hS d a b hab hb
  exact⟨_,τ,R,H1,p1,p2⟩
 |succ N ih=>
  intro d a b l σ hn hab hb hs hl hB H
  have key:∃ r τ,Ret Tryz.prog S.q.pdqsort [v,gi a,gi b,gi l,.fn S.f []] σ r τ∧∃ d',r= .tup []∧Holds S.e σ0 τ rs k v d'∧PermIn a b d d'∧SortedIn lt a b d':=by
   refine Bw S.h_pdqsort (Z0z rfl) ?_
   simp +contextual (disch:=omega) only[go_sem,Mv]
   refine He (fun n env τ=>∃(x y l:Nat) (wb wp:Bool) (D:Array α),env 0=v∧env 1=gi x∧env 2=gi y∧env 3=gi l∧env 4= .fn S.f []∧env 10= .bool wb∧env 11= .bool wp∧y - x=n∧l≤1099511627776∧a≤x∧x≤y∧y≤b∧D.size=d.size∧σ.length≤τ.length∧Holds S.e σ0 τ rs k v D∧Below lt x y D∧∀ R,PermIn x y D R→SortedIn lt x y R→PermIn a b d R∧SortedIn lt a b R) (b - a) ⟨a,b,l,true,true,d,rfl,rfl,rfl,rfl,rfl,rfl,rfl,rfl,hl,Nat.le_refl _,hab,Nat.le_refl _,rfl,Nat.le_refl _,H,hB,fun R h1 h2=>⟨h1,h2⟩⟩ ?_
   clear H hB hl
   rintro J hJ n env τ ⟨x,y,l,wb,wp,D,e0,e1,e2,e3,e4,e8,e9,hn2,hl,hax,hxy,hyb,hD,hle,hH,hB,hfin⟩
   rw[vc_blk]
   obtain⟨h,hh⟩:∃ h,h=y - x:=⟨_,rfl⟩
   have hhI:(y:Int) - x=h:=by omega
   refine Kn (fun env τ'=>env 0=v∧env 1=gi x∧env 2=gi y∧env 3=gi l∧env 4= .fn S.f []∧env 10= .bool wb∧env 11= .bool wp∧env 12=gi h∧τ=τ') (fun Y hY=>by
    simp +contextual (disch:=omega) only[go_sem,e0,e1,e2,e3,e4,e8,e9,hhI]
    refine hY _ _ ⟨?_,?_,?_,?_,?_,?_,?_,?_,rfl⟩
    all_goals simp +contextual (disch:=omega) only[go_sem,e0,e1,e2,e3,e4,e8,e9,hhI]) ?_
   clear e0 e1 e2 e3 e4 e8 e9
   rintro env τ' ⟨e0,e1,e2,e3,e4,e8,e9,e10,rfl⟩
   refine Kn (fun env τ'=>env 0=v∧env 1=gi x∧env 2=gi y∧env 3=gi l∧env 4= .fn S.f []∧env 10= .bool wb∧env 11= .bool wp∧env 12=gi h∧τ=τ'∧12<h) (fun Y hY=>by
    by_cases h12:h≤12
    ·have c0:decide ((h:Int)≤12)=true:=by simp;omega
     simp +contextual (disch:=omega) only[go_sem,e0,e1,e2,e3,e4,e8,e9,e10,c0]
     obtain⟨τ1,R,H1⟩:=Aab S hH (a:=x) (b:=y) hxy (by omega) (by omega)
     refine C8 R ?_
     simp +contextual (disch:=omega) only[go_sem]
     obtain⟨p1,p2⟩:=insertionSort_holds hS D x y hxy (by omega)
     have:=R.2.1
     exact⟨_,rfl,by omega,_,rfl,H1,hfin _ p1 p2⟩
    ·have c0:decide ((h:Int)≤12)=false:=by simp;omega
     simp +contextual (disch:=omega) only[go_sem,e0,e1,e2,e3,e4,e8,e9,e10,c0]
     refine hY _ _ ⟨?_,?_,?_,?_,?_,?_,?_,?_,rfl,by omega⟩
     all_goals simp +contextual (disch:=omega) only[go_sem,e0,e1,e2,e3,e4,e8,e9,e10]) ?_
   clear e0 e1 e2 e3 e4 e8 e9 e10
   rintro env τ' ⟨e0,e1,e2,e3,e4,e8,e9,e10,rfl,h12⟩
   refine Kn (fun env τ'=>env 0=v∧env 1=gi x∧env 2=gi y∧env 3=gi l∧env 4= .fn S.f []∧env 10= .bool wb∧env 11= .bool wp∧env 12=gi h∧τ=τ'∧0<l) (fun Y hY=>by
    by_cases h0:l=0
    ·have c0:((l:Int)==0)=true:=by simp[h0]
     simp +contextual (disch:=omega) only[go_sem,e0,e1,e2,e3,e4,e8,e9,e10,c0]
     obtain⟨τ1,R,H1⟩:=Ad1 S hH (a:=x) (b:=y) hxy (by omega) (by omega)
     refine C8 R ?_
     simp +contextual (disch:=omega) only[go_sem]
     obtain⟨p1,p2⟩:=heapSort_holds hS D x y hxy (by omega)
     have:=R.2.1
     exact⟨_,rfl,by omega,_,rfl,H1,hfin _ p1 p2⟩
    ·have c0:((l:Int)==0)=false:=by simp;omega
     simp +contextual (disch:=omega) only[go_sem,e0,e1,e2,e3,e4,e8,e9,e10,c0]
     refine hY _ _ ⟨?_,?_,?_,?_,?_,?_,?_,?_,rfl,by omega⟩
     all_goals simp +contextual (disch:=omega) only[go_sem,e0,e1,e2,e3,e4,e8,e9,e10]) ?_
   clear e0 e1 e2 e3 e4 e8 e9 e10
   rintro env τ' ⟨e0,e1,e2,e3,e4,e8,e9,e10,rfl,h0⟩
   refine Kn (fun env τ'=>∃(l':Nat) (E:Array α),env 0=v∧env 1=gi x∧env 2=gi y∧env 3=gi l'∧env 4= .fn S.f []∧env 10= .bool wb∧env 11= .bool wp∧env 12=gi h∧l'≤l∧τ.length≤τ'.length∧Holds S.e σ0 τ' rs k v E∧PermIn x y D E) (fun Y hY=>by
    cases hwb:wb with
    |true=>
     rw[hwb] at e8
     simp +contextual (disch:=omega) only[go_sem,e0,e1,e2,e3,e4,e8,e9,e10]
     refine hY _ _ ⟨l,D,?_,?_,?_,?_,?_,?_,?_,?_,Nat.le_refl _,Nat.le_refl _,hH,permIn_refl _ _ _⟩
     all_goals simp +contextual (disch:=omega) only[go_sem,e0,e1,e2,e3,e4,e8,e9,e10,hwb]
    |false=>
     rw[hwb] at e8
     simp +contextual (disch:=omega) only[go_sem,e0,e1,e2,e3,e4,e8,e9,e10]
     obtain⟨E,τ1,R,H1,p1⟩:=Aad S hH (a:=x) (b:=y) hxy (by omega) (by omega)
     refine C8 R ?_
     have l1:(l:Int) - 1=((l - 1:Nat):Int):=by omega
     simp +contextual (disch:=omega) only[go_sem,e0,e1,e2,e3,e4,e8,e9,e10]
     refine hY _ _ ⟨l - 1,E,?_,?_,?_,?_,?_,?_,?_,?_,by omega,R.2.1,H1,p1⟩
     all_goals simp +contextual (disch:=omega) only[go_sem,e0,e1,e2,e3,e4,e8,e9,e10,l1,hwb]) ?_
   clear e0 e1 e2 e3 e4 e8 e9 e10
   rintro env τ1 ⟨l1,D1,e0,e1,e2,e3,e4,e8,e9,e10,hl1,hle1,hH1,hP1⟩
   have hD1:D1.size=D.size:=hP1.1
   refine Kn (fun env τ'=>∃(p q:Nat),env 0=v∧env 1=gi x∧env 2=gi y∧env 3=gi l1∧env 4= .fn S.f []∧env 10= .bool wb∧env 11= .bool wp∧env 12=gi h∧env 13=gi p∧env 14=gi q∧τ1.length≤τ'.length∧Holds S.e σ0 τ' rs k v D1∧x≤p∧p<y∧q≤2) (fun Y hY=>by
    simp +contextual (disch:=omega) only[go_sem,e0,e1,e2,e3,e4,e8,e9,e10]
    obtain⟨p,q,τ2,R,H2,g1,g2,g3⟩:=A86 S hH1 (a:=x) (b:=y) (by omega) (by omega) (by omega)
    refine C8 R ?_
    simp +contextual (disch:=omega) only[go_sem,e0,e1,e2,e3,e4,e8,e9,e10]
    refine hY _ _ ⟨p,q,?_,?_,?_,?_,?_,?_,?_,?_,?_,?_,R.2.1,H2,g1,g2,g3⟩
    all_goals simp +contextual (disch:=omega) only[go_sem,e0,e1,e2,e3,e4,e8,e9,e10]) ?_
   clear e0 e1 e2 e3 e4 e8 e9 e10 hH hH1
   rintro env τ2 ⟨p0,q0,e0,e1,e2,e3,e4,e8,e9,e10,e11,e12,hle2,hH2,g1,g2,g3⟩
   refine Kn (fun env τ'=>∃(p q:Nat) (E:Array α),env 0=v∧env 1=gi x∧env 2=gi y∧env 3=gi l1∧env 4= .fn S.f []∧env 10= .bool wb∧env 11= .bool wp∧env 12=gi h∧env 13=gi p∧env 14=gi q∧τ2.length≤τ'.length∧Holds S.e σ0 τ' rs k v E∧x≤p∧p<y∧PermIn x y D1 E) (fun Y hY=>by
    by_cases hq:q0=2
    ·have c0:((q0:Int)==2)=true:=by simp[hq]
     simp +contextual (disch:=omega) only[go_sem,e0,e1,e2,e3,e4,e8,e9,e10,e11,e12,c0]
     obtain⟨τ3,R,H3⟩:=Ah5 S hH2 (a:=x) (b:=y) (by omega) (by omega) (by omega)
     refine C8 R ?_
     have r1:(y:Int) - 1 - ((p0:Int) - x)=((y - 1 - (p0 - x):Nat):Int):=by omega
     simp +contextual (disch:=omega) only[go_sem,e0,e1,e2,e3,e4,e8,e9,e10,e11,e12,r1]
     refine hY _ _ ⟨y - 1 - (p0 - x),1,_,?_,?_,?_,?_,?_,?_,?_,?_,?_,?_,R.2.1,H3,by omega,by omega,reverseRange_holds D1 x y hxy (by omega)⟩
     all_goals simp +contextual (disch:=omega) only[go_sem,e0,e1,e2,e3,e4,e8,e9,e10,e11,Int.natCast_one]
    ·have c0:((q0:Int)==2)=false:=by simp;omega
     simp +contextual (disch:=omega) only[go_sem,e0,e1,e2,e3,e4,e8,e9,e10,e11,e12,c0]
     refine hY _ _ ⟨p0,q0,D1,?_,?_,?_,?_,?_,?_,?_,?_,?_,?_,Nat.le_refl _,hH2,g1,g2,permIn_refl _ _ _⟩
     all_goals simp +contextual (disch:=omega) only[go_sem,e0,e1,e2,e3,e4,e8,e9,e10,e11,e12]) ?_
   clear e0 e1 e2 e3 e4 e8 e9 e10 e11 e12 hH2 g1 g2 g3
   rintro env τ3 ⟨p,q,D2,e0,e1,e2,e3,e4,e8,e9,e10,e11,e12,hle3,hH3,g1,g2,hP2⟩
   have hD2:D2.size=D1.size:=hP2.1
   have hP02:=permIn_trans _ _ _ _ _ hP1 hP2
   have B2:Below lt x y D2:=hB.perm (by omega) hP02
   refine Kn (fun env τ'=>∃(E:Array α),env 0=v∧env 1=gi x∧env 2=gi y∧env 3=gi l1∧env 4= .fn S.f []∧env 10= .bool wb∧env 11= .bool wp∧env 12=gi h∧env 13=gi p∧τ3.length≤τ'.length∧Holds S.e σ0 τ' rs k v E∧PermIn x y D2 E) (fun Y hY=>by
    have stay:∀ env',env' 0=v→env' 1=gi x→env' 2=gi y→env' 3=gi l1→env' 4= .fn S.f []→env' 10= .bool wb→env' 11= .bool wp→env' 12=gi h→env' 13=gi p→Y env' τ3:=fun env' a0 a1 a2 a3 a4 a8 a9 a10 a11=>hY _ _ ⟨D2,a0,a1,a2,a3,a4,a8,a9,a10,a11,Nat.le_refl _,hH3,permIn_refl _ _ _⟩
    cases hwb:wb with
    |false=>
     rw[hwb] at e8
     simp +contextual (disch:=omega) only[go_sem,e0,e1,e2,e3,e4,e8,e9,e10,e11,e12]
     refine stay _ ?_ ?_ ?_ ?_ ?_ ?_ ?_ ?_ ?_
     all_goals simp +contextual (disch:=omega) only[go_sem,e0,e1,e2,e3,e4,e8,e9,e10,e11,e12,hwb]
    |true=>
     rw[hwb] at e8
     cases hwp:wp with
     |false=>
      rw[hwp] at e9
      simp +contextual (disch:=omega) only[go_sem,e0,e1,e2,e3,e4,e8,e9,e10,e11,e12]
      refine stay _ ?_ ?_ ?_ ?_ ?_ ?_ ?_ ?_ ?_
      all_goals simp +contextual (disch:=omega) only[go_sem,e0,e1,e2,e3,e4,e8,e9,e10,e11,e12,hwb,hwp]
     |true=>
      rw[hwp] at e9
      by_cases hq:q=1
      ·have c0:((q:Int)==1)=true:=by simp[hq]
       simp +contextual (disch:=omega) only[go_sem,e0,e1,e2,e3,e4,e8,e9,e10,e11,e12,c0]
       obtain⟨τ4,R,H4⟩:=Ah6 S hH3 (a:=x) (b:=y) (by omega) (by omega) (by omega)
       obtain⟨p1,p2⟩:=partialInsertionSort_holds hS D2 x y (by omega) (by omega) B2
       have:=R.2.1
       refine C8 R ?_
       cases hr:(partialInsertionSort lt D2 x y).2 with
       |true=>
        simp +contextual (disch:=omega) only[go_sem]
        exact⟨_,rfl,by omega,_,rfl,H4,hfin _ (permIn_trans _ _ _ _ _ hP02 p1) (p2 hr)⟩
       |false=>
        simp +contextual (disch:=omega) only[go_sem,e0,e1,e2,e3,e4,e8,e9,e10,e11,e12]
        refine hY _ _ ⟨_,?_,?_,?_,?_,?_,?_,?_,?_,?_,R.2.1,H4,p1⟩
        all_goals simp +contextual (disch:=omega) only[go_sem,e0,e1,e2,e3,e4,e8,e9,e10,e11,e12,hwb,hwp]
      ·have c0:((q:Int)==1)=false:=by simp;omega
       simp +contextual (disch:=omega) only[go_sem,e0,e1,e2,e3,e4,e8,e9,e10,e11,e12,c0]
       refine stay _ ?_ ?_ ?_ ?_ ?_ ?_ ?_ ?_ ?_
       all_goals simp +contextual (disch:=omega) only[go_sem,e0,e1,e2,e3,e4,e8,e9,e10,e11,e12,hwb,hwp]) ?_
   clear e0 e1 e2 e3 e4 e8 e9 e10 e11 e12 hH3
   rintro env τ4 ⟨D3,e0,e1,e2,e3,e4,e8,e9,e10,e11,hle4,hH4,hP3⟩
   have hD3:D3.size=D2.size:=hP3.1
   have hP03:=permIn_trans _ _ _ _ _ hP02 hP3
   have B3:Below lt x y D3:=B2.perm (by omega) hP3
   refine Kn (fun env τ'=>env 0=v∧env 1=gi x∧env 2=gi y∧env 3=gi l1∧env 4= .fn S.f []∧env 10= .bool wb∧env 11= .bool wp∧env 12=gi h∧env 13=gi p∧τ4=τ') (fun Y hY=>by
    rcases Nat.eq_zero_or_pos x with hx|hx
    ·have c0:decide ((0:Int)<x)=false:=by simp;omega
     simp +contextual (disch:=omega) only[go_sem,e0,e1,e2,e3,e4,e8,e9,e10,e11,c0]
     refine hY _ _ ⟨?_,?_,?_,?_,?_,?_,?_,?_,?_,rfl⟩
     all_goals simp +contextual (disch:=omega) only[go_sem,e0,e1,e2,e3,e4,e8,e9,e10,e11]
    ·have c0:decide ((0:Int)<x)=true:=by simp;omega
     have x1:(x:Int) - 1=((x - 1:Nat):Int):=by omega
     simp +contextual (disch:=omega) only[go_sem,e0,e1,e2,e3,e4,e8,e9,e10,e11,c0,x1,A4,hH4.iad (j:=x - 1) (by omega),hH4.ld (j:=x - 1) (by omega),hH4.iad (j:=p) (by omega),hH4.ld (j:=p) (by omega)]
     refine Ac (S.call _ _ _) ?_
     cases hlt:lt D3[x - 1]! D3[p]! with
     |true=>
      simp +contextual (disch:=omega) only[go_sem,e0,e1,e2,e3,e4,e8,e9,e10,e11,c0,hlt,S.klt]
      refine hY _ _ ⟨?_,?_,?_,?_,?_,?_,?_,?_,?_,rfl⟩
      all_goals simp +contextual (disch:=omega) only[go_sem,e0,e1,e2,e3,e4,e8,e9,e10,e11]
     |false=>
      simp +contextual (disch:=omega) only[go_sem,e0,e1,e2,e3,e4,e8,e9,e10,e11,c0,hlt,S.klt]
      obtain⟨τ5,R,H5⟩:=pe_ret S hH4 (a:=x) (b:=y) (p:=p) (by omega) g2 (by omega) (by omega)
      have:=R.2.1
      refine C8 R ?_
      obtain⟨mid,D4,hX⟩:∃ m D4,partitionEqual lt D3 x y p=(m,D4):=⟨_,_,rfl⟩
      rw[hX] at H5
      rw[hX]
      obtain⟨k1,k2,k3,k4,k5⟩:=round_eq hS (partitionEqual_holds lt) hx g1 g2 (by omega) B3 hlt hX
      simp +contextual (disch:=omega) only[go_sem,e0,e1,e2,e3,e4,e8,e9,e10,e11]
      refine⟨y - mid,by omega,hJ _ _ _ ⟨mid,y,l1,wb,wp,D4,?_,?_,?_,?_,?_,?_,?_,rfl,by omega,by omega,k2,hyb,by omega,by omega,H5,k4,fun R h1 h2=> ?_⟩⟩
      all_goals first|(simp +contextual (disch:=omega) only[go_sem,e0,e1,e2,e3,e4,e8,e9,e10,e11];done)|skip
      obtain⟨m1,m2⟩:=k5 R h1 h2
      exact hfin R (permIn_trans _ _ _ _ _ hP03 m1) m2) ?_
   clear e0 e1 e2 e3 e4 e8 e9 e10 e11
   rintro env τ' ⟨e0,e1,e2,e3,e4,e8,e9,e10,e11,rfl⟩
   obtain⟨τ5,R5,H5⟩:=Ad2 S hH4 (a:=x) (b:=y) (p:=p) (by omega) g2 (by omega) (by omega)
   have hle5:=R5.2.1
   obtain⟨mid,ap,D4,hX⟩:∃ m ap D4,partition lt D3 x y p=(m,ap,D4):=⟨_,_,_,rfl⟩
   rw[hX] at H5 R5
   obtain⟨k1,k2,k3,k4,k5,k6,k7⟩:=round_part hS (partition_holds lt) g1 g2 (by omega) B3 hX
   simp +contextual (disch:=omega) only[go_sem,e0,e1,e2,e3,e4,e8,e9,e10,e11]
   refine C8 R5 ?_
   obtain⟨q8,hq8⟩:∃ q,q=h / 8:=⟨_,rfl⟩
   have hqI:(h:Int).tdiv 8=q8:=by rw[hq8];rfl
   have m1:(mid:Int) - x=((mid - x:Nat):Int):=by omega
   have m2:(y:Int) - mid=((y - mid:Nat):Int):=by omega
   by_cases hlr:mid - x<y - mid
   ·have c0:decide (((mid - x:Nat):Int)<((y - mid:Nat):Int))=true:=by simp;omega
    simp +contextual (disch:=omega) only[go_sem,e0,e1,e2,e3,e4,e8,e9,e10,e11,hqI,m1,m2,c0]
    obtain⟨L,τ6,R6,H6,p1,p2⟩:=ih D4 x mid l1 τ5 (by omega) k1 (by omega) (by omega) (by omega) k4 H5
    have hle6:=R6.2.1
    refine C8 R6 ?_
    obtain⟨k8,k9⟩:=k6 L p1 p2
    have hL:L.size=D4.size:=p1.1
    simp +contextual (disch:=omega) only[go_sem,e0,e1,e2,e3,e4,e8,e9,e10,e11]
    refine⟨y - (mid+1),by omega,hJ _ _ _ ⟨mid+1,y,l1,decide ((q8:Int)≤((mid - x:Nat):Int)),ap,L,?_,?_,?_,?_,?_,?_,?_,rfl,by omega,by omega,by omega,hyb,by omega,by omega,H6,k8,fun R h1 h2=> ?_⟩⟩
    all_goals first|(simp +contextual (disch:=omega) only[go_sem,e0,e1,e2,e3,e4,e8,e9,e10,e11];done)|skip
    obtain⟨n1,n2⟩:=k9 R h1 h2
    exact hfin R (permIn_trans _ _ _ _ _ hP03 n1) n2
   ·have c0:decide (((mid - x:Nat):Int)<((y - mid:Nat):Int))=false:=by simp;omega
    simp +contextual (disch:=omega) only[go_sem,e0,e1,e2,e3,e4,e8,e9,e10,e11,hqI,m1,m2,c0]
    obtain⟨L,τ6,R6,H6,p1,p2⟩:=ih D4 (mid+1) y l1 τ5 (by omega) (by omega) (by omega) (by omega) (by omega) k5 H5
    have hle6:=R6.2.1
    refine C8 R6 ?_
    obtain⟨k8,k9⟩:=k7 L p1 p2
    have hL:L.size=D4.size:=p1.1
    simp +contextual (disch:=omega) only[go_sem,e0,e1,e2,e3,e4,e8,e9,e10,e11]
    refine⟨mid - x,by omega,hJ _ _ _ ⟨x,mid,l1,decide ((q8:Int)≤((y - mid:Nat):Int)),ap,L,?_,?_,?_,?_,?_,?_,?_,rfl,by omega,by omega,by omega,by omega,by omega,by omega,H6,k8,fun R h1 h2=> ?_⟩⟩
    all_goals first|(simp +contextual (disch:=omega) only[go_sem,e0,e1,e2,e3,e4,e8,e9,e10,e11];done)|skip
    obtain⟨n1,n2⟩:=k9 R h1 h2
    exact hfin R (permIn_trans _ _ _ _ _ hP03 n1) n2
  obtain⟨r,τ,R,d',rfl,h⟩:=key
  exact⟨d',τ,R,h⟩
end C
namespace C
open Go Go.RowKit Go.Proofs.YtbeoiejnogdkpaaGreat.Sy Go.Sort
variable {α:Type} [Inhabited α] {lt:α→α→Bool} {σ0 σ:St} {rs:List Thg} {v:GV}
theorem Aae {d d':Array α} (h:PermIn 0 d.size d d') (h4:SortedIn lt 0 d.size d'):d'.toList.Perm d.toList∧Up lt d'.toList:=by
 obtain⟨h1,h2,h3⟩:=h
 constructor
 ·have e1:d'.extract 0 d.size=d':=by rw[← h1];simp
  have e2:d.extract 0 d.size=d:=by simp
  rw[e1,e2] at h3
  exact h3
 ·rw[Up,List.pairwise_iff_getElem]
  intro i j hi hj hij
  simp only[Array.length_toList] at hi hj
  have:=h4 i j (Nat.zero_le _) hij (by omega)
  rw[getElem!_pos d' j hj,getElem!_pos d' i hi] at this
  simpa using this
theorem sort_ret (S:SrtC α lt) (hS:SWO lt) {l:List α} (H:Hp σ0 σ rs) (k:Nat) (hk:rs[k]? =some (ow S.e.p.kd v l)) (hl:l.length≤1099511627776) (htri:∀ x∈l,∀ y∈l,lt x y=false→lt y x=false→x=y):∃ τ,Ret Tryz.prog S.nS [v,.fn S.f []] σ (.tup []) τ∧Hp σ0 τ (rs.set k (ow S.e.p.kd v (Bc lt l))):=by
 have key:∃ r τ,Ret Tryz.prog S.nS [v,.fn S.f []] σ r τ∧r= .tup []∧Hp σ0 τ (rs.set k (ow S.e.p.kd v (Bc lt l))):=by
  refine Bw S.h_Sort (Z0z rfl) ?_
  have hlen:=(H.sl k hk).len
  have wu:IntKind.u64.wrap (l.length:Int)=l.length:=Py (by omega) (by omega)
  simp +contextual (disch:=omega) only[go_sem,A6s,hlen,wu]
  refine Ac (Ut σ l.length hl) ?_
  simp +contextual (disch:=omega) only[go_sem]
  have HH:Holds S.e σ0 σ rs k v l.toArray:=Holds.of H (by simpa using hk)
  have hb:=Aaa hl
  obtain⟨d',τ,R,H1,p1,p2⟩:=Aha S hS l.length l.toArray 0 l.length (bitsLen l.length) σ (by omega) (by omega) (by simp) (by simpa using hl) (by omega) (.inl rfl) HH
  have hz:((0:Nat):Int)=0:=rfl
  rw[hz] at R
  refine C8 R ?_
  simp +contextual (disch:=omega) only[go_sem]
  have hsz:l.length=l.toArray.size:=by simp
  rw[hsz] at p1 p2
  obtain⟨q1,q2⟩:=Aae p1 p2
  have hE:d'.toList=Bc lt l:=Ur hS htri (by simpa using q1) q2
  exact⟨_,rfl,R.2.1,rfl,by rw[← hE];exact H1.2⟩
 obtain⟨r,τ,R,rfl,h⟩:=key
 exact⟨τ,R,h⟩
end C
section
open Go Go.RowKit
abbrev Ez:Nat:=361
def Jm:Fn1:=⟨17,[.t 4],(rg [oX 2 0,oX 3 1,oV 4 (ki 0)] (.seq (.drw [oF 5 3 3,oL 6 5,oF 7 3 2,oL 8 7,oD 9 106 6 8,oF 10 1 3,oW 11 2 10,oF 12 1 2,oW 13 2 12] [oD 14 306 11 13,o 15 (.lit 1 2 [z0,z0] [(0,1,(.t 9)),(1,1,(.t 14))]),oC 16 105 15,oM 4 16]) .ret))⟩
theorem Q2:A8 Tryz.prog Ez=some Jm:=by kernel_rfl
abbrev B8:Nat:=360
abbrev Fq:Nat:=389
abbrev E5:Nat:=405
abbrev Fe:Nat:=432
abbrev Ff:Nat:=406
abbrev Ee:Nat:=409
abbrev Cz:Nat:=410
abbrev Ds:Nat:=411
abbrev F4:Nat:=412
abbrev E6:Nat:=407
abbrev Fw:Nat:=442
abbrev Fx:Nat:=434
abbrev Dt:Nat:=433
abbrev Eo:Nat:=408
instance:Inhabited Cell:=⟨{obj:=.empty,dot:=⟨0,0⟩,time:=0,ref:=⟨0,0⟩,val:=0,gone:=false}⟩
def Yh:El Cell:=⟨Ae,true,fun x=>.agg (Ae.enc x),fun _=>rfl,fun _=>rfl,by decide⟩
def Q3 (a b:Cell):Int:=orI (cmpI b.time a.time) (If b.dot a.dot)
theorem A87 (a b:Cell):decide (Q3 a b<0)=A82 a b:=by
 have key:Q3 a b<0↔A82 a b=true:=by
  have h:If b.dot a.dot<0↔Bq b.dot a.dot=true:=by
   have h:= @Nj b.dot a.dot
   rw[← h];simp
  have h1:= @A6p b.time a.time
  have h2:= @Agx b.time a.time
  simp only[A82,Bool.or_eq_true,Bool.and_eq_true,decide_eq_true_eq]
  unfold Q3 orI
  by_cases hz:cmpI b.time a.time=0
  ·rw[if_pos hz,h]
   have:=h2.1 hz
   constructor
   ·intro h5;exact .inr ⟨this.symm,h5⟩
   ·rintro(h5|h5)
    ·omega
    ·exact h5.2
  ·rw[if_neg hz,h1]
   have:¬ b.time=a.time:=fun e=>hz (h2.2 e)
   constructor
   ·intro h5;exact .inl h5
   ·rintro(h5|h5)
    ·exact h5
    ·exact absurd h5.1.symm this
 rw[Bool.eq_iff_iff,decide_eq_true_eq]
 exact key
theorem Nz (σ:St) (a b:Cell):Ret Tryz.prog Ez [Yh.val a,Yh.val b] σ (gi (Q3 a b)) σ:=by
 show Ret Tryz.prog Ez [.agg (Ae.enc a),.agg (Ae.enc b)] σ (gi (Q3 a b)) σ
 simp only[Nc]
 refine Al Q2 (Z0z rfl) trivial ?_
 simp +contextual (disch:=omega) only[go_sem,Jm]
 refine Ac (Dg _ _ _) ?_
 simp +contextual (disch:=omega) only[go_sem]
 refine Ac (Cg _ _ _) ?_
 simp +contextual (disch:=omega) only[go_sem]
 refine Ac (I8 _ _ [cmpI b.time a.time,If b.dot a.dot] (A9u (p:=pI) _ _ rfl rfl rfl) (by simp)) ?_
 simp +contextual (disch:=omega) only[go_sem,A5d]
 rfl
def qCell:SN:=⟨E5,Fe,Ff,Ee,Cz,Ds,F4,E6,Fw,Fx,Dt,Eo,Fq,0,Av,As⟩
def srtCell:SrtC Cell A82 where
 e:=Yh
 q:=qCell
 f:=Ez
 k:=Q3
 call:=Nz
 klt:=A87
 h_insertionSort:=by kernel_rfl
 h_siftDown:=by kernel_rfl
 h_heapSort:=by kernel_rfl
 h_reverseRange:=by kernel_rfl
 h_partialInsertionSort:=by kernel_rfl
 h_partitionEqual:=by kernel_rfl
 h_partition:=by kernel_rfl
 h_breakPatterns:=by kernel_rfl
 h_order2:=by kernel_rfl
 h_median:=by kernel_rfl
 h_medianAdjacent:=by kernel_rfl
 h_choosePivot:=by kernel_rfl
 h_pdqsort:=by kernel_rfl
 nS:=B8
 h_Sort:=by kernel_rfl
 hnp:=rfl
 hxs:=rfl
end
section
open Go Go.RowKit
abbrev Aen:Nat:=323
def Aeo:Fn1:=⟨36,[.t 4],(rg [oX 2 0,oX 3 1,oV 4 kf] (.seq (rg [oF 5 3 2,oL 6 5,oF 7 3 3,oL 8 7,oB 9 .neq 6 8] (.cnd (.t 9) (rg [oF 10 3 2,oL 11 10,oF 12 3 3,oL 13 12,oB 14 .gtr 11 13,oM 4 14] .ret) .skip)) (.seq (rg [oF 15 1 2,oF 16 0 15,oL 17 16,oF 18 1 3,oF 19 0 18,oL 20 19,oB 21 .neq 17 20] (.cnd (.t 21) (rg [oF 22 1 2,oF 23 0 22,oL 24 23,oF 25 1 3,oF 26 0 25,oL 27 26,oB 28 .gtr 24 27,oM 4 28] .ret) .skip)) (rg [oF 29 1 2,oF 30 1 29,oL 31 30,oF 32 1 3,oF 33 1 32,oL 34 33,oB 35 .gtr 31 34,oM 4 35] .ret))))⟩
abbrev A35:Nat:=251
def Aep:Fn1:=⟨97,[.t 8],(rg [oX 4 0,oX 6 2,o 8 (.mov (.k .nilS))] (rg [o 16 (.lit 8 0 [] []),oM 9 16] (.seq (rg [oV 10 (ki 0)] (.blk 0 (.lop (.seq (rg [oM 17 10,oF 18 3 4,oL 19 18,oN 20 19,oB 21 .lss 17 20] (.cnd (.t 21) .skip (.ext 0))) (.seq (.blk 1 (rg [oF 24 3 4,oL 25 24,oM 26 10,oI 27 8 25 26,oW 28 8 27,o 11 (.new [(.str ⟨#[]⟩),z0,z0,z0,z0,z0,z0,(.bool false)]),oS 8 11 28] (.seq (rg [oF 29 0 11,oL 30 29,oM 31 1,oB 32 .neq 30 31,oM 33 32,og 34 33 false (.fad 4 (.t 11)),og 35 33 false (.ld true 2 (.t 34)),og 36 33 false (.ld true 2 (.t 6)),og 37 33 false (.eqs true [.i .i64,.i .i64] (.t 35) (.t 36)),o 38 (.pick (.t 33) kt (.t 37))] (.cnd (.t 38) (.ext 1) .skip)) (rg [o 39 (.lit 8 0 [] []),oM 12 39] (rg [oV 13 kf] (.seq (rg [oV 14 (ki 0)] (.blk 2 (.lop (.seq (rg [oM 40 14,oM 41 9,oN 42 41,oB 43 .lss 40 42] (.cnd (.t 43) .skip (.ext 2))) (.seq (.blk 3 (.seq (.seq (.drw [oM 46 13,oU 47 46,oM 48 47,og 49 48 true (.ld true 8 (.t 11)),og 50 48 true (.mov (.t 9)),og 51 48 true (.mov (.t 14)),og 52 48 true (.iad 8 (.t 50) (.t 51)),og 53 48 true (.ld true 8 (.t 52))] [og 54 48 true (.call 323 [(.t 49),(.t 53)]),o 55 (.pick (.t 48) (.t 54) kf)]) (.cnd (.t 55) (rg [oM 56 12,oW 57 8 11,o 58 (.lit 8 1 [(.str ⟨#[]⟩),z0,z0,z0,z0,z0,z0,(.bool false)] [(0,8,(.t 57))]),o 59 (.app 8 72 [(.str ⟨#[]⟩),z0,z0,z0,z0,z0,z0,(.bool false)] (.t 56) (.t 58)),oM 12 59] (.reg [oV 13 kt])) .skip)) (.reg [oM 60 12,oM 61 9,oM 62 14,oI 63 8 61 62,oW 64 8 63,o 65 (.lit 8 1 [(.str ⟨#[]⟩),z0,z0,z0,z0,z0,z0,(.bool false)] [(0,8,(.t 64))]),o 66 (.app 8 72 [(.str ⟨#[]⟩),z0,z0,z0,z0,z0,z0,(.bool false)] (.t 60) (.t 65)),oM 12 66]))) (.reg [oM 44 14,oZ 45 44 1,oM 14 45])))))) (.seq (rg [oM 67 13,oU 68 67] (.cnd (.t 68) (.reg [oM 69 12,oW 70 8 11,o 71 (.lit 8 1 [(.str ⟨#[]⟩),z0,z0,z0,z0,z0,z0,(.bool false)] [(0,8,(.t 70))]),o 72 (.app 8 72 [(.str ⟨#[]⟩),z0,z0,z0,z0,z0,z0,(.bool false)] (.t 69) (.t 71)),oM 12 72]) .skip)) (.reg [oM 73 12,oM 9 73])))))))) (.reg [oM 22 10,oZ 23 22 1,oM 10 23])))))) (.seq (rg [oV 15 (ki 0)] (.blk 4 (.lop (.seq (rg [oM 74 15,oM 75 9,oN 76 75,oB 77 .lss 74 76] (.cnd (.t 77) .skip (.ext 4))) (.seq (.blk 5 (rg [oM 80 3,oM 81 9,oM 82 15,oI 83 8 81 82,oW 84 8 83,o 85 (.lit 8 1 [(.str ⟨#[]⟩),z0,z0,z0,z0,z0,z0,(.bool false)] [(0,8,(.t 84))]),o 86 (.app 8 72 [(.str ⟨#[]⟩),z0,z0,z0,z0,z0,z0,(.bool false)] (.t 80) (.t 85)),oM 3 86] (.drw [oW 87 4 4,oM 88 1,oM 89 9,oM 90 15,oI 91 8 89 90,oF 92 1 91,oW 93 2 92] [oM 94 3,o 95 (.call 251 [(.t 87),(.t 88),(.t 93),(.t 94)]),oM 3 95]))) (.reg [oM 78 15,oZ 79 78 1,oM 15 79])))))) (rg [oM 96 3,oM 8 96] .ret)))))⟩
abbrev n_s_l08Row:Nat:=145
def F_s_l08Row:Fn1:=⟨10,[.t 4],(rg [oX 2 0,o 4 (.mov (.k .nilS))] (rg [oW 5 4 2,oM 6 1,o 7 (.build [z0,z0] []),o 8 (.lit 8 0 [] []),o 9 (.call 251 [(.t 5),(.t 6),(.t 7),(.t 8)]),oM 4 9] .ret))⟩
abbrev Ahb:Nat:=206
def Ahc:Fn1:=⟨31,[.t 4],(rg [oX 2 0,o 4 (.mov (.k .nilS))] (rg [o 8 (.lit 2 0 [] []),oM 5 8] (.seq (rg [oW 9 4 2,oC 10 199 9,oU 11 10] (.cnd (.t 11) (rg [oM 12 5,oM 4 12] .ret) .skip)) (rg [oW 13 4 2,oM 14 1,oD 15 145 13 14,oM 6 15] (.seq (rg [oV 7 (ki 0)] (.blk 0 (.lop (.seq (rg [oM 16 7,oM 17 6,oN 18 17,oB 19 .lss 16 18] (.cnd (.t 19) .skip (.ext 0))) (.seq (.blk 1 (.reg [oM 22 5,oM 23 6,oM 24 7,oI 25 8 23 24,oF 26 1 25,oW 27 2 26,o 28 (.lit 2 1 [z0,z0] [(0,2,(.t 27))]),o 29 (.app 2 16 [z0,z0] (.t 22) (.t 28)),oM 5 29])) (.reg [oM 20 7,oZ 21 20 1,oM 7 21])))))) (rg [oM 30 5,oM 4 30] .ret))))))⟩
abbrev Aaf (x:Cell):List GV:=[.str x.obj,.int .i64 x.dot.rep,.int .i64 x.dot.seq,.int .i64 x.time,.int .i64 x.ref.rep,.int .i64 x.ref.seq,.int .i64 x.val,.bool x.gone]
def BelowOk (s:State) (o:ByteArray) (d:Dot):Prop:=∀(σ0 σ:St) (cs:List GV) (rs:List Thg) (k:Nat) (w:GV) (out:List Cell),A9.R σ0 s cs→Hp σ0 σ rs→rs[k]? =some (ow Ae.kd w out)→out.length+(rowA (objC s.cells o) d).length≤1099511627776→
 ∃ w' τ,Ret Tryz.prog A35 [.agg cs,.str o,.agg [gi d.rep,gi d.seq],w] σ w' τ∧Hp σ0 τ (rs.set k (ow Ae.kd w' (out++rowA (objC s.cells o) d)))
def isKid (o:ByteArray) (d:Dot) (c:Cell):Bool:=isObj o c&&isRef d c
end
section
open Go Go.RowKit
structure Eqs {α:Type} [Inhabited α] [DecidableEq α] (e:El α) where
 eq:∀ x y,binG .eql (e.val x) (e.val y)=some (.bool (decide (x=y)))
 ne:∀ x y,binG .neq (e.val x) (e.val y)=some (.bool (!decide (x=y)))
 ze:List GV
 hze:ze.length=e.p.z
section
variable {α:Type} [Inhabited α] {e:El α} {σ0 σ τ:St} {rs:List Thg} {v:GV} {l:List α}
end
end
section
open Go Go.RowKit
abbrev Ahd:Nat:=289
def Ahe:Fn1:=⟨82,[.t 4],(rg [oX 2 0,o 4 (.mov (.k .nilS))] (rg [o 12 (.lit 2 0 [] []),oM 5 12] (.seq (rg [oW 13 4 2,oC 14 195 13,oU 15 14] (.cnd (.t 15) (rg [oM 16 5,oM 4 16] .ret) .skip)) (rg [o 17 (.lit 8 0 [] []),oM 6 17] (.seq (rg [oF 18 3 2,oL 19 18,oN 20 19,oV 21 (ki 0)] (.blk 0 (.lop (rg [oB 22 .lss 21 20] (.seq (.cnd (.t 22) .skip (.ext 0)) (.seq (.blk 1 (rg [oI 23 8 19 21,oW 24 8 23,o 8 (.new [(.str ⟨#[]⟩),z0,z0,z0,z0,z0,z0,(.bool false)]),oS 8 8 24] (rg [oF 25 0 8,oL 26 25,oM 27 1,oB 28 .eql 26 27] (.cnd (.t 28) (.reg [oM 29 6,oW 30 8 8,o 31 (.lit 8 1 [(.str ⟨#[]⟩),z0,z0,z0,z0,z0,z0,(.bool false)] [(0,8,(.t 30))]),o 32 (.app 8 72 [(.str ⟨#[]⟩),z0,z0,z0,z0,z0,z0,(.bool false)] (.t 29) (.t 31)),oM 6 32]) .skip)))) (.reg [oZ 33 21 1,oM 21 33]))))))) (rg [oM 34 6,o 35 (.call 360 [(.t 34),(.k (.fn 361 []))])] (rg [o 36 (.build [z0,z0] []),o 37 (.lit 2 1 [z0,z0] [(0,2,(.t 36))]),oM 9 37] (.seq (.blk 2 (.lop (.seq (rg [oM 38 9,oN 39 38,o 40 (.bin .gtr (.t 39) (ki 0))] (.cnd (.t 40) .skip (.ext 2))) (.blk 3 (rg [oM 41 9,oM 42 9,oN 43 42,o 44 (.bin .sub (.t 43) (ki 1)),oI 45 2 41 44,oW 46 2 45,o 10 (.new [z0,z0]),oS 2 10 46] (rg [oM 47 9,oM 48 9,oN 49 48,o 50 (.bin .sub (.t 49) (ki 1)),o 51 (.cut 2 (.t 47) none (some (.t 50))),oM 9 51] (.seq (rg [oW 52 2 10,o 53 (.build [z0,z0] []),o 54 (.eqs true [.i .i64,.i .i64] (.t 52) (.t 53))] (.cnd (.t 54) (.reg [oM 55 5,oW 56 2 10,o 57 (.lit 2 1 [z0,z0] [(0,2,(.t 56))]),o 58 (.app 2 16 [z0,z0] (.t 55) (.t 57)),oM 5 58]) .skip)) (rg [oM 59 6,oN 60 59,o 61 (.bin .sub (.t 60) (ki 1)),oM 11 61] (.blk 4 (.lop (.seq (rg [oM 62 11,o 63 (.bin .geq (.t 62) (ki 0))] (.cnd (.t 63) .skip (.ext 4))) (.seq (.blk 5 (.seq (.drw [oM 66 6,oM 67 11,oI 68 8 66 67,oF 69 4 68,oW 70 2 69,oW 71 2 10] [o 72 (.eqs false [.i .i64,.i .i64] (.t 70) (.t 71))]) (.cnd (.t 72) (.reg [oM 73 9,oM 74 6,oM 75 11,oI 76 8 74 75,oF 77 1 76,oW 78 2 77,o 79 (.lit 2 1 [z0,z0] [(0,2,(.t 78))]),o 80 (.app 2 16 [z0,z0] (.t 73) (.t 79)),oM 9 80]) .skip))) (.reg [oM 64 11,o 65 (.bin .sub (.t 64) (ki 1)),oM 11 65]))))))))))))) (rg [oM 81 5,oM 4 81] .ret)))))))))⟩
end
section
open Go Go.RowKit
def goneIn (l:List Cell) (obj:ByteArray):Nat:=l.countP fun c=>decide (c.obj=obj)&&c.gone
def refsTo (l:List Cell) (d:Dot):Nat:=l.countP fun c=>decide (c.ref=d)&& !decide (d=⟨0,0⟩)
end
section
open Go Go.RowKit
def mayClr (s:State) (d:Dot) (kn:List Int):Bool:=match Cm s.cells d with
 |some k=>(onI s.cells k fun c=>c.gone)&&(B5 kn d&&decide (refsTo s.cells d=0))
 |none=>false
end
section
open Go Go.RowKit
theorem Hp.ownState {σ τ:St} {rs:List Thg} {x:State} {v0:GV} {v1:GV} {v2:GV} {v3:GV} (H:Hp σ τ (ow pI.kd v0 x.know::ow Ab.kd v1 x.tallies::ow Ai.kd v2 x.lives::ow Ae.kd v3 x.cells::rs)):Hp σ τ (own A9 (v0::v1::v2::v3::[]) x::rs):=by
 refine(H.join.join.join).conv ?_
 rintro fp ⟨_,f3,⟨_,f2,⟨f0,f1,h0,h1,rfl⟩,h2,rfl⟩,h3,rfl⟩
 exact⟨v0,v1,v2,v3,f0,f1,f2,f3,rfl,h0,h1,h2,h3,by simp[List.append_assoc]⟩
theorem Hp.splitState {σ τ:St} {rs:List Thg} {x:State} {cs:List GV} (H:Hp σ τ (own A9 cs x::rs)):∃ v0 v1 v2 v3,cs=v0::v1::v2::v3::[]∧Hp σ τ (ow pI.kd v0 x.know::ow Ab.kd v1 x.tallies::ow Ai.kd v2 x.lives::ow Ae.kd v3 x.cells::rs):=by
 obtain⟨h,fp,⟨a,b,⟨v0,v1,v2,v3,f0,f1,f2,f3,rfl,h0,h1,h2,h3,rfl⟩,hs,rfl⟩,hn,hb⟩:=H
 exact⟨v0,v1,v2,v3,rfl,h,_,⟨_,_,h0,⟨_,_,h1,⟨_,_,h2,⟨_,_,h3,hs,rfl⟩,rfl⟩,rfl⟩,rfl⟩,by simpa [List.append_assoc] using hn,by simpa [List.append_assoc] using hb⟩
theorem Hp.ownDelta {σ τ:St} {rs:List Thg} {x:Delta} {v0:GV} {v1:GV} {v2:GV} {v3:GV} {v4:GV} {v5:GV} (H:Hp σ τ (ow pI.kd v0 x.base::ow pI.kd v1 x.know::ow Ab.kd v2 x.tallies::ow Ai.kd v3 x.lives::ow pDot.kd v4 x.dead::ow Ae.kd v5 x.cells::rs)):Hp σ τ (own Ch (v0::v1::v2::v3::v4::v5::[]) x::rs):=by
 refine(H.join.join.join.join.join).conv ?_
 rintro fp ⟨_,f5,⟨_,f4,⟨_,f3,⟨_,f2,⟨f0,f1,h0,h1,rfl⟩,h2,rfl⟩,h3,rfl⟩,h4,rfl⟩,h5,rfl⟩
 exact⟨v0,v1,v2,v3,v4,v5,f0,f1,f2,f3,f4,f5,rfl,h0,h1,h2,h3,h4,h5,by simp[List.append_assoc]⟩
theorem Hp.splitDelta {σ τ:St} {rs:List Thg} {x:Delta} {cs:List GV} (H:Hp σ τ (own Ch cs x::rs)):∃ v0 v1 v2 v3 v4 v5,cs=v0::v1::v2::v3::v4::v5::[]∧Hp σ τ (ow pI.kd v0 x.base::ow pI.kd v1 x.know::ow Ab.kd v2 x.tallies::ow Ai.kd v3 x.lives::ow pDot.kd v4 x.dead::ow Ae.kd v5 x.cells::rs):=by
 obtain⟨h,fp,⟨a,b,⟨v0,v1,v2,v3,v4,v5,f0,f1,f2,f3,f4,f5,rfl,h0,h1,h2,h3,h4,h5,rfl⟩,hs,rfl⟩,hn,hb⟩:=H
 exact⟨v0,v1,v2,v3,v4,v5,rfl,h,_,⟨_,_,h0,⟨_,_,h1,⟨_,_,h2,⟨_,_,h3,⟨_,_,h4,⟨_,_,h5,hs,rfl⟩,rfl⟩,rfl⟩,rfl⟩,rfl⟩,rfl⟩,by simpa [List.append_assoc] using hn,by simpa [List.append_assoc] using hb⟩
theorem Hp.ownCommit {σ τ:St} {rs:List Thg} {x:Commit} {v1:GV} {v2:List GV} (H:Hp σ τ (ow pI.kd v1 x.ups::own A9 v2 x.state::rs)):Hp σ τ (own Am ((GV.int .i64 x.id.rep)::(GV.int .i64 x.id.seq)::v1::v2++([])) x::rs):=by
 refine(H.join).conv ?_
 rintro fp ⟨f0,f1,h0,h1,rfl⟩
 exact⟨v1,v2,f0,f1,rfl,h0,h1,by simp[List.append_assoc]⟩
theorem Hp.splitCommit {σ τ:St} {rs:List Thg} {x:Commit} {cs:List GV} (H:Hp σ τ (own Am cs x::rs)):∃ v1 v2,cs=(GV.int .i64 x.id.rep)::(GV.int .i64 x.id.seq)::v1::v2++([])∧Hp σ τ (ow pI.kd v1 x.ups::own A9 v2 x.state::rs):=by
 obtain⟨h,fp,⟨a,b,⟨v1,v2,f0,f1,rfl,h0,h1,rfl⟩,hs,rfl⟩,hn,hb⟩:=H
 exact⟨v1,v2,rfl,h,_,⟨_,_,h0,⟨_,_,h1,hs,rfl⟩,rfl⟩,by simpa [List.append_assoc] using hn,by simpa [List.append_assoc] using hb⟩
theorem Hp.ownGraph {σ τ:St} {rs:List Thg} {x:Graph} {v0:GV} (H:Hp σ τ (ow Am v0 x.commits::rs)):Hp σ τ (own Ay (v0::(GV.int .i64 x.head)::[]) x::rs):=by
 refine(H).conv ?_
 intro fp h0
 exact⟨v0,fp,rfl,h0,rfl⟩
theorem Hp.splitGraph {σ τ:St} {rs:List Thg} {x:Graph} {cs:List GV} (H:Hp σ τ (own Ay cs x::rs)):∃ v0,cs=v0::(GV.int .i64 x.head)::[]∧Hp σ τ (ow Am v0 x.commits::rs):=by
 obtain⟨h,fp,⟨a,b,⟨v0,f0,rfl,h0,rfl⟩,hs,rfl⟩,hn,hb⟩:=H
 exact⟨v0,rfl,h,_,⟨_,_,h0,hs,rfl⟩,by simpa [List.append_assoc] using hn,by simpa [List.append_assoc] using hb⟩
end
section
open Go Go.RowKit
theorem Hp.cp {α:Type} {p:Pl α} {by8:Nat} {σ τ:St} {rs:List Thg} {x:GV} {m:List α} (H:Hp σ τ rs) (hx:RS p.kd τ x m) (hz:0<p.z) (hb:m.length*by8≤140737488355328):
  ∃ v' τ',appV p.z by8 (τ++[some (.row p.z [])]) (.sl τ.length 0 0) x=some (v',τ')∧τ++[some (.row p.z [])] <+: τ'∧Hp σ τ' (ow p.kd v' m::rs):=by
 have hx':RdN p.en (τ++[some (.row p.z [])]) x m:=RdN.pre hx (pre1 _ _)
 have ha:appV p.z by8 (τ++[some (.row p.z [])]) (.sl τ.length 0 0) x=appG p.z by8 (τ++[some (.row p.z [])]) (.sl τ.length 0 0) m.length (p.cells m):=by
  have he:=hx'.elems
  unfold appV
  rcases hx' with⟨rfl,rfl|rfl⟩|⟨g,off,cs,rfl,_⟩<;>simp only[he,Option.bind_some]
 rw[ha]
 have H1:=H.newNil p.kd
 by_cases hm:m.length=0
 ·have:m=[]:=List.eq_nil_of_length_eq_zero hm
  subst this
  exact⟨_,_,by simp[appG,isSl],List.prefix_refl _,H1⟩
 ·refine⟨.sl (τ.length+1) 0 m.length,τ++[some (.row p.z [])]++[some (.row p.z (p.cells m))],?_,pre1 _ _,?_⟩
  ·have hB:(τ++[some (Blk.row p.z [])])[τ.length]? =some (some (.row p.z [])):=by simp
   simp only[appG,hB,if_neg hm]
   rw[if_pos ⟨trivial,trivial,trivial,trivial,hb⟩]
   simp
  ·have H2:=(((H.grow (pre1 τ (some (Blk.row p.z [])))).new p.z (p.cells m)).toRow 0 rfl m rfl rfl _ rfl)
   have e:(τ++[some (Blk.row p.z [])]).length=τ.length+1:=by simp
   rw[e] at H2
   exact H2
theorem Hp.cp_int {σ τ:St} {rs:List Thg} {x:GV} {m:List Int} (H:Hp σ τ rs) (hx:RS pI.kd τ x m) (hb:m.length≤1099511627776):∃ v' τ',appV 1 8 (τ++[some (.row 1 [])]) (.sl τ.length 0 0) x=some (v',τ')∧τ++[some (.row 1 [])] <+: τ'∧Hp σ τ' (ow pI.kd v' m::rs):=H.cp hx (by decide) (by omega)
theorem Hp.cp_Tally {σ τ:St} {rs:List Thg} {x:GV} {m:List Tally} (H:Hp σ τ rs) (hx:RS Ab.kd τ x m) (hb:m.length≤1099511627776):∃ v' τ',appV 3 32 (τ++[some (.row 3 [])]) (.sl τ.length 0 0) x=some (v',τ')∧τ++[some (.row 3 [])] <+: τ'∧Hp σ τ' (ow Ab.kd v' m::rs):=H.cp hx (by decide) (by omega)
theorem Hp.cp_Live {σ τ:St} {rs:List Thg} {x:GV} {m:List Live} (H:Hp σ τ rs) (hx:RS Ai.kd τ x m) (hb:m.length≤1099511627776):∃ v' τ',appV 6 64 (τ++[some (.row 6 [])]) (.sl τ.length 0 0) x=some (v',τ')∧τ++[some (.row 6 [])] <+: τ'∧Hp σ τ' (ow Ai.kd v' m::rs):=H.cp hx (by decide) (by omega)
theorem Hp.cp_Cell {σ τ:St} {rs:List Thg} {x:GV} {m:List Cell} (H:Hp σ τ rs) (hx:RS Ae.kd τ x m) (hb:m.length≤1099511627776):∃ v' τ',appV 8 72 (τ++[some (.row 8 [])]) (.sl τ.length 0 0) x=some (v',τ')∧τ++[some (.row 8 [])] <+: τ'∧Hp σ τ' (ow Ae.kd v' m::rs):=H.cp hx (by decide) (by omega)
end
section
open Go Go.RowKit
theorem J9 (σ:St) (cs:List GV) (s:State) (hR:A9.R σ s cs) (hl:Ad s≤1099511627776):∃ ds τ,Ret Tryz.prog Mr [.agg cs] σ (.agg ds) τ∧Hp σ τ [own A9 ds s]:=by
 obtain⟨a,b,c,v,rfl,hk,ht,hv,hc⟩:=hR
 obtain⟨l1,l2,l3,l4,_⟩:=F3 hl
 have key:∃ r τ,Ret Tryz.prog Mr [.agg [a,b,c,v]] σ r τ∧∃ ds,r= .agg ds∧Hp σ τ [own A9 ds s]:=by
  refine A2l A2v (Z0z rfl) ?_
  have H:=((Hp.refl σ).new 1 [a,b,c,v]).new 1 [GV.nilS,GV.nilS,GV.nilS,GV.nilS]
  simp +contextual (disch:=omega) only[go_sem,Un]
  obtain⟨u1,τ1,e1,q1,H1⟩:=H.cp_int (hk.pre H.sub) l1
  have z1:=Ka (H1.pt 2 rfl) [some (Blk.row 3 [])]
  simp +contextual (disch:=omega) only[go_sem,e1,q1,A5 z1]
  obtain⟨u2,τ2,e2,q2,H2⟩:=H1.cp_Tally (ht.pre H1.sub) l2
  have z2:=Ka (H2.pt 3 rfl) [some (Blk.row 6 [])]
  simp +contextual (disch:=omega) only[go_sem,e2,q2,A5 z2]
  obtain⟨u3,τ3,e3,q3,H3⟩:=H2.cp_Live (hv.pre H2.sub) l3
  have z3:=Ka (H3.pt 4 rfl) [some (Blk.row 8 [])]
  simp +contextual (disch:=omega) only[go_sem,e3,q3,A5 z3]
  obtain⟨u4,τ4,e4,q4,H4⟩:=H3.cp_Cell (hc.pre H3.sub) l4
  have c1:=(H4.sl 3 rfl).cell
  have c2:=(H4.sl 2 rfl).cell
  have c3:=(H4.sl 1 rfl).cell
  have c4:=(H4.sl 0 rfl).cell
  obtain⟨τ5,e5,H5,_⟩:=H4.st 4 rfl 4 0 (.agg [u1,u2,u3,u4]) rfl (by decide) (by simp)
  have z5:=H5.pt 4 rfl
  have z5:rdB τ5 (σ++[some (Blk.row 1 [a,b,c,v])]).length=some [u1,u2,u3,u4]:=z5
  simp +contextual (disch:=omega) only[go_sem,e4,q4,c1,c2,c3,c4,e5,A5 z5]
  exact⟨_,rfl,_,rfl,(((((H5.pick 1 rfl).pick 2 rfl).pick 3 rfl).ownState).one)⟩
 obtain⟨r,τ,R,ds,rfl,H⟩:=key
 exact⟨ds,τ,R,H⟩
theorem Hl (σ:St) (cs:List GV) (s:State) (hR:A9.R σ s cs) (hl:Ad s≤1099511627776):∃ ds τ,Ret Tryz.prog J7 [.agg cs] σ (.agg ds) τ∧Hp σ τ [own A9 ds s]:=by
 obtain⟨a,b,c,v,rfl,hk,ht,hv,hc⟩:=hR
 obtain⟨l1,l2,l3,l4,_⟩:=F3 hl
 have key:∃ r τ,Ret Tryz.prog J7 [.agg [a,b,c,v]] σ r τ∧∃ ds,r= .agg ds∧Hp σ τ [own A9 ds s]:=by
  refine A2l X1 (Z0z rfl) ?_
  have H:=((Hp.refl σ).new 1 [a,b,c,v]).new 1 [GV.nilS,GV.nilS,GV.nilS,GV.nilS]
  simp +contextual (disch:=omega) only[go_sem,Ns]
  obtain⟨u1,τ1,R1,K1⟩:=G9 _ a s.know (hk.pre H.sub) l1
  have H1:=H.add K1
  have z1:=Ka (H1.pt 2 rfl) [some (Blk.row 3 [])]
  refine Pq R1 K1 ?_
  simp +contextual (disch:=omega) only[go_sem,A5 z1]
  obtain⟨u2,τ2,e2,q2,H2⟩:=H1.cp_Tally (ht.pre H1.sub) l2
  have z2:=Ka (H2.pt 3 rfl) [some (Blk.row 6 [])]
  simp +contextual (disch:=omega) only[go_sem,e2,q2,A5 z2]
  obtain⟨u3,τ3,e3,q3,H3⟩:=H2.cp_Live (hv.pre H2.sub) l3
  have z3:=Ka (H3.pt 4 rfl) [some (Blk.row 8 [])]
  simp +contextual (disch:=omega) only[go_sem,e3,q3,A5 z3]
  obtain⟨u4,τ4,e4,q4,H4⟩:=H3.cp_Cell (hc.pre H3.sub) l4
  have c1:=(H4.sl 3 rfl).cell
  have c2:=(H4.sl 2 rfl).cell
  have c3:=(H4.sl 1 rfl).cell
  have c4:=(H4.sl 0 rfl).cell
  obtain⟨τ5,e5,H5,_⟩:=H4.st 4 rfl 4 0 (.agg [u1,u2,u3,u4]) rfl (by decide) (by simp)
  have z5:=H5.pt 4 rfl
  have z5:rdB τ5 (σ++[some (Blk.row 1 [a,b,c,v])]).length=some [u1,u2,u3,u4]:=z5
  simp +contextual (disch:=omega) only[go_sem,e4,q4,c1,c2,c3,c4,e5,A5 z5]
  exact⟨_,rfl,_,rfl,(((((H5.pick 1 rfl).pick 2 rfl).pick 3 rfl).ownState).one)⟩
 obtain⟨r,τ,R,ds,rfl,H⟩:=key
 exact⟨ds,τ,R,H⟩
end
section
open Go Go.RowKit
abbrev Aeq:Nat:=257
def Aer:Fn1:=⟨37,[.t 4],(rg [oX 3 1,o 4 (.mov (.k .nilS))] (rg [oV 5 (ki 0)] (.seq (.blk 0 (.lop (.seq (.seq (.drw [oM 7 5,oM 8 0,oN 9 8,oB 10 .lss 7 9,oM 11 10,og 12 11 true (.mov (.t 0)),og 13 11 true (.mov (.t 5)),og 14 11 true (.iad 6 (.t 12) (.t 13)),og 15 11 true (.fad 4 (.t 14)),og 16 11 true (.ld true 2 (.t 15)),og 17 11 true (.fad 4 (.t 3)),og 18 11 true (.ld true 2 (.t 17))] [og 19 11 true (.call 306 [(.t 16),(.t 18)]),og 20 11 true (.bin .lss (.t 19) (ki 0)),o 21 (.pick (.t 11) (.t 20) kf)]) (.cnd (.t 21) .skip (.ext 0))) (.blk 1 (.reg [oM 22 5,oZ 23 22 1,oM 5 23]))))) (.seq (.drw [o 24 (.lit 6 0 [] []),oM 25 0,oM 26 5,o 27 (.cut 6 (.t 25) none (some (.t 26))),o 28 (.app 6 64 [(.bool false),(.str ⟨#[]⟩),(.str ⟨#[]⟩),z0,z0,z0] (.t 24) (.t 27)),oW 29 6 3,o 30 (.lit 6 1 [(.bool false),(.str ⟨#[]⟩),(.str ⟨#[]⟩),z0,z0,z0] [(0,6,(.t 29))])] [o 31 (.app 6 64 [(.bool false),(.str ⟨#[]⟩),(.str ⟨#[]⟩),z0,z0,z0] (.t 28) (.t 30)),oM 6 31]) (rg [oM 32 6,oM 33 0,oM 34 5,o 35 (.cut 6 (.t 33) (some (.t 34)) none),o 36 (.app 6 64 [(.bool false),(.str ⟨#[]⟩),(.str ⟨#[]⟩),z0,z0,z0] (.t 32) (.t 35)),oM 4 36] .ret)))))⟩
abbrev Aes:Nat:=259
def Aet:Fn1:=⟨37,[.t 4],(rg [oX 3 1,o 4 (.mov (.k .nilS))] (rg [oV 5 (ki 0)] (.seq (.blk 0 (.lop (.seq (.seq (.drw [oM 7 5,oM 8 0,oN 9 8,oB 10 .lss 7 9,oM 11 10,og 12 11 true (.mov (.t 0)),og 13 11 true (.mov (.t 5)),og 14 11 true (.iad 8 (.t 12) (.t 13)),og 15 11 true (.fad 1 (.t 14)),og 16 11 true (.ld true 2 (.t 15)),og 17 11 true (.fad 1 (.t 3)),og 18 11 true (.ld true 2 (.t 17))] [og 19 11 true (.call 306 [(.t 16),(.t 18)]),og 20 11 true (.bin .lss (.t 19) (ki 0)),o 21 (.pick (.t 11) (.t 20) kf)]) (.cnd (.t 21) .skip (.ext 0))) (.blk 1 (.reg [oM 22 5,oZ 23 22 1,oM 5 23]))))) (.seq (.drw [o 24 (.lit 8 0 [] []),oM 25 0,oM 26 5,o 27 (.cut 8 (.t 25) none (some (.t 26))),o 28 (.app 8 72 [(.str ⟨#[]⟩),z0,z0,z0,z0,z0,z0,(.bool false)] (.t 24) (.t 27)),oW 29 8 3,o 30 (.lit 8 1 [(.str ⟨#[]⟩),z0,z0,z0,z0,z0,z0,(.bool false)] [(0,8,(.t 29))])] [o 31 (.app 8 72 [(.str ⟨#[]⟩),z0,z0,z0,z0,z0,z0,(.bool false)] (.t 28) (.t 30)),oM 6 31]) (rg [oM 32 6,oM 33 0,oM 34 5,o 35 (.cut 8 (.t 33) (some (.t 34)) none),o 36 (.app 8 72 [(.str ⟨#[]⟩),z0,z0,z0,z0,z0,z0,(.bool false)] (.t 32) (.t 35)),oM 4 36] .ret)))))⟩
abbrev A8t:Nat:=258
def A8u:Fn1:=⟨49,[.t 6],(rg [oX 5 2,o 6 (.mov (.k .nilS))] (rg [o 10 (.lit 6 0 [] []),oM 7 10] (.seq (rg [oM 11 0,oN 12 11,oV 13 (ki 0)] (.blk 0 (.lop (rg [oB 14 .lss 13 12] (.seq (.cnd (.t 14) .skip (.ext 0)) (.seq (.blk 1 (rg [oI 15 6 11 13,oW 16 6 15,o 9 (.new [(.bool false),(.str ⟨#[]⟩),(.str ⟨#[]⟩),z0,z0,z0]),oS 6 9 16] (rg [oF 17 0 9,oL 18 17,oM 19 1,o 20 (.eqb true (.t 18) (.t 19)),oM 21 20,og 22 21 false (.fad 1 (.t 9)),og 23 21 false (.ld false 1 (.t 22)),og 24 21 false (.fad 5 (.t 5)),og 25 21 false (.ld false 1 (.t 24)),og 26 21 false (.bin .neq (.t 23) (.t 25)),o 27 (.pick (.t 21) kt (.t 26)),oM 28 27,og 29 28 false (.fad 2 (.t 9)),og 30 28 false (.ld false 1 (.t 29)),og 31 28 false (.fad 6 (.t 5)),og 32 28 false (.ld false 1 (.t 31)),og 33 28 false (.bin .neq (.t 30) (.t 32)),o 34 (.pick (.t 28) kt (.t 33)),oM 35 34,og 36 35 false (.fad 3 (.t 5)),og 37 35 false (.ld false 1 (.t 36)),og 38 35 false (.fad 4 (.t 9)),og 39 35 false (.ld true 2 (.t 38)),og 40 35 false (.call 170 [(.t 37),(.t 39)]),og 41 35 false (.un .not (.t 40)),o 42 (.pick (.t 35) kt (.t 41))] (.cnd (.t 42) (.reg [oM 43 7,oW 44 6 9,o 45 (.lit 6 1 [(.bool false),(.str ⟨#[]⟩),(.str ⟨#[]⟩),z0,z0,z0] [(0,6,(.t 44))]),o 46 (.app 6 64 [(.bool false),(.str ⟨#[]⟩),(.str ⟨#[]⟩),z0,z0,z0] (.t 43) (.t 45)),oM 7 46]) .skip)))) (.reg [oZ 47 13 1,oM 13 47]))))))) (rg [oM 48 7,oM 6 48] .ret))))⟩
abbrev Ahf:Nat:=260
def Ahg:Fn1:=⟨19,[.t 2],(rg [oX 1 0,oV 2 kf] (rg [oF 3 1 1,oL 4 3,oN 5 4,o 6 (.bin .gtr (.t 5) (ki 120)),oM 7 6,og 8 7 false (.fad 2 (.t 1)),og 9 7 false (.ld false 1 (.t 8)),og 10 7 false (.len false (.t 9)),og 11 7 false (.bin .gtr (.t 10) (ki 120)),o 12 (.pick (.t 7) kt (.t 11)),oM 13 12,og 14 13 false (.fad 3 (.t 1)),og 15 13 false (.ld false 1 (.t 14)),og 16 13 false (.len false (.t 15)),og 17 13 false (.bin .gtr (.t 16) (ki 120)),o 18 (.pick (.t 13) kt (.t 17)),oM 2 18] .ret))⟩
section
variable {α:Type} {d:En α} {σ τ:St} {v:GV} {l:List α}
end
abbrev Uu (x:Live):List GV:=[.bool x.map,.str x.obj,.str x.key,.int .i64 x.val,.int .i64 x.dot.rep,.int .i64 x.dot.seq]
end
section
open Go Go.RowKit
abbrev Ad3:Nat:=256
def Ad4:Fn1:=⟨69,[.t 8],(rg [o 8 (.mov (.k .nilS))] (rg [oV 9 (ki 0)] (rg [oM 13 1,oM 14 2,o 15 (.build [(.str ⟨#[]⟩),z0,z0] [(0,1,(.t 13)),(1,1,(.t 14))]),o 10 (.new [(.str ⟨#[]⟩),z0,z0]),oS 3 10 15] (.seq (.blk 0 (.lop (.seq (.seq (.drw [oM 16 9,oM 17 0,oN 18 17,oB 19 .lss 16 18,oM 20 19,og 21 20 true (.mov (.t 0)),og 22 20 true (.mov (.t 9)),og 23 20 true (.iad 3 (.t 21) (.t 22)),og 24 20 true (.ld true 3 (.t 23)),og 25 20 true (.ld true 3 (.t 10))] [og 26 20 true (.call 324 [(.t 24),(.t 25)]),og 27 20 true (.bin .lss (.t 26) (ki 0)),o 28 (.pick (.t 20) (.t 27) kf)]) (.cnd (.t 28) .skip (.ext 0))) (.blk 1 (.reg [oM 29 9,oZ 30 29 1,oM 9 30]))))) (rg [oM 31 0,oM 32 9,o 33 (.cut 3 (.t 31) (some (.t 32)) none),oM 11 33] (.seq (.seq (.drw [oM 34 11,oN 35 34,o 36 (.bin .gtr (.t 35) (ki 0)),oM 37 36,og 38 37 true (.mov (.t 11)),og 39 37 true (.iad 3 (.t 38) (ki 0)),og 40 37 true (.ld true 3 (.t 39)),og 41 37 true (.ld true 3 (.t 10))] [og 42 37 true (.call 324 [(.t 40),(.t 41)]),og 43 37 true (.bin .eql (.t 42) (ki 0)),o 44 (.pick (.t 37) (.t 43) kf)]) (.cnd (.t 44) (rg [oM 45 11,o 46 (.iad 3 (.t 45) (ki 0)),oF 47 2 46,oL 48 47,oF 49 2 10,oS 1 49 48] (.reg [oM 50 11,o 51 (.cut 3 (.t 50) (some (ki 1)) none),oM 11 51])) .skip)) (rg [oF 52 2 10,oL 53 52,oM 54 3,oB 55 .add 53 54,o 56 (.bin .rem (.t 55) (ki 1000000)),oF 57 2 10,oS 1 57 56] (.seq (.drw [o 58 (.lit 3 0 [] []),oM 59 0,oM 60 9,o 61 (.cut 3 (.t 59) none (some (.t 60))),o 62 (.app 3 32 [(.str ⟨#[]⟩),z0,z0] (.t 58) (.t 61)),oW 63 3 10,o 64 (.lit 3 1 [(.str ⟨#[]⟩),z0,z0] [(0,3,(.t 63))])] [o 65 (.app 3 32 [(.str ⟨#[]⟩),z0,z0] (.t 62) (.t 64)),oM 12 65]) (rg [oM 66 12,oM 67 11,o 68 (.app 3 32 [(.str ⟨#[]⟩),z0,z0] (.t 66) (.t 67)),oM 8 68] .ret)))))))))⟩
abbrev A36 (x:Tally):List GV:=[.str x.obj,.int .i64 x.rep,.int .i64 x.sum]
end
section
open Go Go.RowKit
abbrev Uv:Nat:=320
def Uw:Fn1:=⟨45,[.t 4],(rg [oX 3 1,o 4 (.mov (.k .nilS))] (rg [o 8 (.lit 6 0 [] []),oM 5 8] (rg [oV 6 kf] (.seq (rg [oV 7 (ki 0)] (.blk 0 (.lop (.seq (rg [oM 9 7,oM 10 0,oN 11 10,oB 12 .lss 9 11] (.cnd (.t 12) .skip (.ext 0))) (.seq (.blk 1 (.seq (.seq (.drw [oM 15 6,oU 16 15,oM 17 16,og 18 17 true (.fad 4 (.t 3)),og 19 17 true (.ld true 2 (.t 18)),og 20 17 true (.mov (.t 0)),og 21 17 true (.mov (.t 7)),og 22 17 true (.iad 6 (.t 20) (.t 21)),og 23 17 true (.fad 4 (.t 22)),og 24 17 true (.ld true 2 (.t 23))] [og 25 17 true (.call 362 [(.t 19),(.t 24)]),o 26 (.pick (.t 17) (.t 25) kf)]) (.cnd (.t 26) (rg [oM 27 5,oW 28 6 3,o 29 (.lit 6 1 [(.bool false),(.str ⟨#[]⟩),(.str ⟨#[]⟩),z0,z0,z0] [(0,6,(.t 28))]),o 30 (.app 6 64 [(.bool false),(.str ⟨#[]⟩),(.str ⟨#[]⟩),z0,z0,z0] (.t 27) (.t 29)),oM 5 30] (.reg [oV 6 kt])) .skip)) (.reg [oM 31 5,oM 32 0,oM 33 7,oI 34 6 32 33,oW 35 6 34,o 36 (.lit 6 1 [(.bool false),(.str ⟨#[]⟩),(.str ⟨#[]⟩),z0,z0,z0] [(0,6,(.t 35))]),o 37 (.app 6 64 [(.bool false),(.str ⟨#[]⟩),(.str ⟨#[]⟩),z0,z0,z0] (.t 31) (.t 36)),oM 5 37]))) (.reg [oM 13 7,oZ 14 13 1,oM 7 14])))))) (.seq (rg [oM 38 6,oU 39 38] (.cnd (.t 39) (.reg [oM 40 5,oW 41 6 3,o 42 (.lit 6 1 [(.bool false),(.str ⟨#[]⟩),(.str ⟨#[]⟩),z0,z0,z0] [(0,6,(.t 41))]),o 43 (.app 6 64 [(.bool false),(.str ⟨#[]⟩),(.str ⟨#[]⟩),z0,z0,z0] (.t 40) (.t 42)),oM 5 43]) .skip)) (rg [oM 44 5,oM 4 44] .ret))))))⟩
theorem A37:A8 Tryz.prog Uv=some Uw:=by kernel_rfl
abbrev Ux:Nat:=322
def Uy:Fn1:=⟨45,[.t 4],(rg [oX 3 1,o 4 (.mov (.k .nilS))] (rg [o 8 (.lit 8 0 [] []),oM 5 8] (rg [oV 6 kf] (.seq (rg [oV 7 (ki 0)] (.blk 0 (.lop (.seq (rg [oM 9 7,oM 10 0,oN 11 10,oB 12 .lss 9 11] (.cnd (.t 12) .skip (.ext 0))) (.seq (.blk 1 (.seq (.seq (.drw [oM 15 6,oU 16 15,oM 17 16,og 18 17 true (.fad 1 (.t 3)),og 19 17 true (.ld true 2 (.t 18)),og 20 17 true (.mov (.t 0)),og 21 17 true (.mov (.t 7)),og 22 17 true (.iad 8 (.t 20) (.t 21)),og 23 17 true (.fad 1 (.t 22)),og 24 17 true (.ld true 2 (.t 23))] [og 25 17 true (.call 362 [(.t 19),(.t 24)]),o 26 (.pick (.t 17) (.t 25) kf)]) (.cnd (.t 26) (rg [oM 27 5,oW 28 8 3,o 29 (.lit 8 1 [(.str ⟨#[]⟩),z0,z0,z0,z0,z0,z0,(.bool false)] [(0,8,(.t 28))]),o 30 (.app 8 72 [(.str ⟨#[]⟩),z0,z0,z0,z0,z0,z0,(.bool false)] (.t 27) (.t 29)),oM 5 30] (.reg [oV 6 kt])) .skip)) (.reg [oM 31 5,oM 32 0,oM 33 7,oI 34 8 32 33,oW 35 8 34,o 36 (.lit 8 1 [(.str ⟨#[]⟩),z0,z0,z0,z0,z0,z0,(.bool false)] [(0,8,(.t 35))]),o 37 (.app 8 72 [(.str ⟨#[]⟩),z0,z0,z0,z0,z0,z0,(.bool false)] (.t 31) (.t 36)),oM 5 37]))) (.reg [oM 13 7,oZ 14 13 1,oM 7 14])))))) (.seq (rg [oM 38 6,oU 39 38] (.cnd (.t 39) (.reg [oM 40 5,oW 41 8 3,o 42 (.lit 8 1 [(.str ⟨#[]⟩),z0,z0,z0,z0,z0,z0,(.bool false)] [(0,8,(.t 41))]),o 43 (.app 8 72 [(.str ⟨#[]⟩),z0,z0,z0,z0,z0,z0,(.bool false)] (.t 40) (.t 42)),oM 5 43]) .skip)) (rg [oM 44 5,oM 4 44] .ret))))))⟩
theorem A38:A8 Tryz.prog Ux=some Uy:=by kernel_rfl
abbrev n_s_l07Ref:Nat:=248
def F_s_l07Ref:Fn1:=⟨53,[.t 4],(rg [oX 2 0,oX 3 1,oV 4 kf] (.seq (rg [oF 6 4 3,oL 7 6,o 8 (.bin .neq (.t 7) (ki 7)),oM 9 8,og 10 9 true (.fad 4 (.t 3)),og 11 9 true (.ld false 1 (.t 10)),og 12 9 true (.bin .neq (.t 11) (ki 6)),og 13 9 true (.mov (.t 12)),og 14 13 false (.fad 8 (.t 3)),og 15 13 false (.ld true 2 (.t 14)),og 16 13 false (.build [z0,z0] []),og 17 13 false (.eqs false [.i .i64,.i .i64] (.t 15) (.t 16)),og 18 9 true (.pick (.t 13) kt (.t 17)),o 19 (.pick (.t 9) (.t 18) kf)] (.cnd (.t 19) (rg [oV 4 kt] .ret) .skip)) (rg [oW 20 4 2,oF 21 8 3,oW 22 2 21,oD 23 146 20 22,oM 5 23] (.seq (.drw [oM 24 5,o 25 (.bin .geq (.t 24) (ki 0)),oM 26 25,og 27 26 true (.fad 3 (.t 2)),og 28 26 true (.ld false 1 (.t 27)),og 29 26 true (.mov (.t 5)),og 30 26 true (.iad 8 (.t 28) (.t 29)),og 31 26 true (.fad 0 (.t 30)),og 32 26 true (.ld false 1 (.t 31)),og 33 26 true (.fad 5 (.t 3)),og 34 26 true (.ld false 1 (.t 33)),og 35 26 true (.bin .eql (.t 32) (.t 34)),o 36 (.pick (.t 26) (.t 35) kf),oM 37 36,og 38 37 true (.fad 4 (.t 3)),og 39 37 true (.ld false 1 (.t 38)),og 40 37 true (.bin .eql (.t 39) (ki 7)),og 41 37 true (.mov (.t 40)),og 42 41 false (.fad 3 (.t 2)),og 43 41 false (.ld false 1 (.t 42)),og 44 41 false (.mov (.t 5)),og 45 41 false (.iad 8 (.t 43) (.t 44)),og 46 41 false (.fad 3 (.t 45)),og 47 41 false (.ld false 1 (.t 46)),og 48 41 false (.fad 2 (.t 3)),og 49 41 false (.ld false 1 (.t 48))] [og 50 41 false (.bin .lss (.t 47) (.t 49)),og 51 37 true (.pick (.t 41) kt (.t 50)),o 52 (.pick (.t 37) (.t 51) kf),oM 4 52]) .ret))))⟩
set_option maxHeartbeats 2000000 in
theorem A0k (σ:St) (v:GV) (l:List Live) (h:RS Ai.kd σ v l) (x:Live) (hl:l.length≤1099511627776):∃ r τ,Ret Tryz.prog Uv [v,.agg (Uu x)] σ r τ∧Hp σ τ [ow Ai.kd r (Mt x l)]:=by
 refine A2l A37 (Z0z rfl) ?_
 have H:=((Hp.refl σ).new 1 (Uu x)).nil_Live
 simp +contextual (disch:=omega) only[go_sem,Uw]
 generalize hn1:σ.length=n1 at*
 refine A5l l.length 7 0 (fun i env τ=>env 0=v∧env 3= .ptr n1 0∧∃(u:GV) (put:Bool) (nxt:List Live),env 5=u∧env 6= .bool put∧insG Br x l nxt i put∧Hp σ τ [ow Ai.kd u nxt,pt 1 n1 (Uu x)]) (fun env τ=>env 3= .ptr n1 0∧∃(u:GV) (put:Bool) (nxt:List Live),env 5=u∧env 6= .bool put∧insG Br x l nxt l.length put∧Hp σ τ [ow Ai.kd u nxt,pt 1 n1 (Uu x)]) rfl ⟨rfl,rfl,_,false,[],rfl,rfl,A0f,H⟩ ?_ ?_ ?_
 ·clear H
  rintro J Y hJ hY i env τ hi e7 c0 ⟨e0,e3,u,put,nxt,e5,e6,hok,H⟩
  have hnl:=Ga hok
  have hln:=(h.pre H.sub).len
  have C1:=A6 (h.pre H.sub) hi
  cases put with
  |true=>
   obtain⟨w',τ3,e8,H3⟩:=H.app_Live 0 rfl l[i] (by omega)
   simp +contextual (disch:=omega) only[go_sem,c0,e0,e3,e5,e6,e7,hln,C1,e8]
   refine hJ _ _ _ ⟨?_,?_,w',true,_,?_,?_,Hk hok hi (.inl rfl),H3⟩
   all_goals simp +contextual (disch:=omega) only[go_sem,e0,e3,e6]
  |false=>
   simp +contextual (disch:=omega) only[go_sem,c0,e0,e3,e5,e6,e7,hln,C1,A5 (H.pt 1 rfl)]
   refine Ac (D9 _ _ _) ?_
   cases hq:Bq x.dot l[i].dot with
   |false=>
    have hq2:Br x l[i]=false:=hq
    obtain⟨w',τ3,e8,H3⟩:=H.app_Live 0 rfl l[i] (by omega)
    simp +contextual (disch:=omega) only[go_sem,c0,e0,e3,e5,e6,e7,hln,C1,e8]
    refine hJ _ _ _ ⟨?_,?_,w',false,_,?_,?_,Hk hok hi (.inr hq2),H3⟩
    all_goals simp +contextual (disch:=omega) only[go_sem,e0,e3,e6]
   |true=>
    have hq2:Br x l[i]=true:=hq
    obtain⟨w',τ3,e8,H3⟩:=H.app_Live 0 rfl x (by omega)
    have H3:Hp σ τ3 [ow Ai.kd w' (nxt++[x]),pt 1 n1 (Uu x)]:=H3
    have hp:=Tb hok hi hq2
    have hnl2:=Ga hp
    simp only[List.length_append,List.length_cons,List.length_nil] at hnl2
    have C2:=A6 (h.pre H3.sub) hi
    obtain⟨w2,τ4,e9,H4⟩:=H3.app_Live 0 rfl l[i] (by simp;omega)
    simp +contextual (disch:=omega) only[go_sem,c0,e0,e3,e5,e6,e7,hln,C1,A5 (H.pt 1 rfl),e8,C2,e9]
    refine hJ _ _ _ ⟨?_,?_,w2,true,_,?_,?_,hp,H4⟩
    all_goals simp +contextual (disch:=omega) only[go_sem,e0,e3,e6]
 ·clear H
  rintro Y hY env τ e7 c0 ⟨e0,e3,u,put,nxt,e5,e6,hok,H⟩
  have hln:=(h.pre H.sub).len
  simp +contextual (disch:=omega) only[go_sem,c0,e0,e3,e5,e6,e7,hln]
  refine hY _ _ ⟨?_,u,put,nxt,?_,?_,hok,H⟩
  all_goals simp +contextual (disch:=omega) only[go_sem,e3,e5,e6]
 ·clear H
  rintro env τ ⟨e3,u,put,nxt,e5,e6,hok,H⟩
  have hnl:=Ga hok
  have hend:=A0g hok
  cases put with
  |true=>
   simp +contextual (disch:=omega) only[go_sem,e3,e5,e6]
   refine⟨_,rfl,?_⟩
   rw[Mt,←hend]
   exact H.one
  |false=>
   obtain⟨w',τ3,e8,H3⟩:=H.app_Live 0 rfl x (by omega)
   simp +contextual (disch:=omega) only[go_sem,e3,e5,e6,A5 (H.pt 1 rfl),e8]
   refine⟨_,rfl,?_⟩
   rw[Mt,←hend]
   exact H3.one
set_option maxHeartbeats 2000000 in
theorem A0l (σ:St) (v:GV) (l:List Cell) (h:RS Ae.kd σ v l) (x:Cell) (hl:l.length≤1099511627776):∃ r τ,Ret Tryz.prog Ux [v,.agg (Aaf x)] σ r τ∧Hp σ τ [ow Ae.kd r (Mu x l)]:=by
 refine A2l A38 (Z0z rfl) ?_
 have H:=((Hp.refl σ).new 1 (Aaf x)).nil_Cell
 simp +contextual (disch:=omega) only[go_sem,Uy]
 generalize hn1:σ.length=n1 at*
 refine A5l l.length 7 0 (fun i env τ=>env 0=v∧env 3= .ptr n1 0∧∃(u:GV) (put:Bool) (nxt:List Cell),env 5=u∧env 6= .bool put∧insG Cl x l nxt i put∧Hp σ τ [ow Ae.kd u nxt,pt 1 n1 (Aaf x)]) (fun env τ=>env 3= .ptr n1 0∧∃(u:GV) (put:Bool) (nxt:List Cell),env 5=u∧env 6= .bool put∧insG Cl x l nxt l.length put∧Hp σ τ [ow Ae.kd u nxt,pt 1 n1 (Aaf x)]) rfl ⟨rfl,rfl,_,false,[],rfl,rfl,A0f,H⟩ ?_ ?_ ?_
 ·clear H
  rintro J Y hJ hY i env τ hi e7 c0 ⟨e0,e3,u,put,nxt,e5,e6,hok,H⟩
  have hnl:=Ga hok
  have hln:=(h.pre H.sub).len
  have C1:=A7 (h.pre H.sub) hi
  cases put with
  |true=>
   obtain⟨w',τ3,e8,H3⟩:=H.app_Cell 0 rfl l[i] (by omega)
   simp +contextual (disch:=omega) only[go_sem,c0,e0,e3,e5,e6,e7,hln,C1,e8]
   refine hJ _ _ _ ⟨?_,?_,w',true,_,?_,?_,Hk hok hi (.inl rfl),H3⟩
   all_goals simp +contextual (disch:=omega) only[go_sem,e0,e3,e6]
  |false=>
   simp +contextual (disch:=omega) only[go_sem,c0,e0,e3,e5,e6,e7,hln,C1,A5 (H.pt 1 rfl)]
   refine Ac (D9 _ _ _) ?_
   cases hq:Bq x.dot l[i].dot with
   |false=>
    have hq2:Cl x l[i]=false:=hq
    obtain⟨w',τ3,e8,H3⟩:=H.app_Cell 0 rfl l[i] (by omega)
    simp +contextual (disch:=omega) only[go_sem,c0,e0,e3,e5,e6,e7,hln,C1,e8]
    refine hJ _ _ _ ⟨?_,?_,w',false,_,?_,?_,Hk hok hi (.inr hq2),H3⟩
    all_goals simp +contextual (disch:=omega) only[go_sem,e0,e3,e6]
   |true=>
    have hq2:Cl x l[i]=true:=hq
    obtain⟨w',τ3,e8,H3⟩:=H.app_Cell 0 rfl x (by omega)
    have H3:Hp σ τ3 [ow Ae.kd w' (nxt++[x]),pt 1 n1 (Aaf x)]:=H3
    have hp:=Tb hok hi hq2
    have hnl2:=Ga hp
    simp only[List.length_append,List.length_cons,List.length_nil] at hnl2
    have C2:=A7 (h.pre H3.sub) hi
    obtain⟨w2,τ4,e9,H4⟩:=H3.app_Cell 0 rfl l[i] (by simp;omega)
    simp +contextual (disch:=omega) only[go_sem,c0,e0,e3,e5,e6,e7,hln,C1,A5 (H.pt 1 rfl),e8,C2,e9]
    refine hJ _ _ _ ⟨?_,?_,w2,true,_,?_,?_,hp,H4⟩
    all_goals simp +contextual (disch:=omega) only[go_sem,e0,e3,e6]
 ·clear H
  rintro Y hY env τ e7 c0 ⟨e0,e3,u,put,nxt,e5,e6,hok,H⟩
  have hln:=(h.pre H.sub).len
  simp +contextual (disch:=omega) only[go_sem,c0,e0,e3,e5,e6,e7,hln]
  refine hY _ _ ⟨?_,u,put,nxt,?_,?_,hok,H⟩
  all_goals simp +contextual (disch:=omega) only[go_sem,e3,e5,e6]
 ·clear H
  rintro env τ ⟨e3,u,put,nxt,e5,e6,hok,H⟩
  have hnl:=Ga hok
  have hend:=A0g hok
  cases put with
  |true=>
   simp +contextual (disch:=omega) only[go_sem,e3,e5,e6]
   refine⟨_,rfl,?_⟩
   rw[Mu,←hend]
   exact H.one
  |false=>
   obtain⟨w',τ3,e8,H3⟩:=H.app_Cell 0 rfl x (by omega)
   simp +contextual (disch:=omega) only[go_sem,e3,e5,e6,A5 (H.pt 1 rfl),e8]
   refine⟨_,rfl,?_⟩
   rw[Mu,←hend]
   exact H3.one
end
section
open Go Go.RowKit
theorem Hp.moveTo {σ τ:St} {r r':Thg} {rs:List Thg} (H:Hp σ τ (r::rs)) (k:Nat) (hk:rs[k]? =some r'):Hp σ τ (rs.set k r):=by
 have hkl:=(List.getElem?_eq_some_iff.1 hk).1
 have h1:=(H.pick (k+1) hk).drop1
 exact Hp.unpick h1 hkl
theorem Ahh {P:Program} {a:Cd} {Q:Ex→Env→St→Prop} {env:Env} {σ:St} (n ri j0:Nat) (I:Nat→Env→St→Prop) (X Z:Env→St→Prop) (hr:env ri=gi 0) (h0:I 0 env σ)
  (hs:∀(J:Nat→Env→St→Prop) (Y W:Env→St→Prop),(∀ i env σ,I i env σ→J i env σ)→(∀ env σ,X env σ→Y env σ)→(∀ env σ,Z env σ→W env σ)→∀ i env σ,i<n→env ri=gi i→decide ((i:Int)<n)=true→I i env σ→vc P a (fun e env' σ'=>match e with| .nxt=>env' ri=gi ((i:Int)+1)∧J (i+1) env' σ'| .ext j=>j=j0∧Y env' σ'| .ret=>W env' σ') env σ)
  (he:∀(Y:Env→St→Prop),(∀ env σ,X env σ→Y env σ)→∀ env σ,env ri=gi n→decide ((n:Int)<n)=false→I n env σ→vc P a (fun e env' σ'=>match e with| .nxt=>False| .ext j=>j=j0∧Y env' σ'| .ret=>False) env σ)
  (hx:∀ env σ,X env σ→Q (.ext j0) env σ) (hz:∀ env σ,Z env σ→Q .ret env σ):vc P (.lop a) Q env σ:=by
 refine B4 n ri I hr h0 (fun i env σ h1 h2 h3 h4=>B6 (hs I X Z (fun _ _ _ h=>h) (fun _ _ h=>h) (fun _ _ h=>h) i env σ h1 h2 h3 h4) fun e env' σ' hq=> ?_) (fun env σ h1 h2 h3=>B6 (he X (fun _ _ h=>h) env σ h1 h2 h3) fun e env' σ' hq=> ?_)
 ·cases e with
  |nxt=>exact hq
  |ret=>exact hz _ _ hq
  |ext j=>obtain⟨rfl,hq⟩:=hq;exact hx _ _ hq
 ·cases e with
  |nxt=>exact hq
  |ret=>exact hq.elim
  |ext j=>obtain⟨rfl,hq⟩:=hq;exact hx _ _ hq
end
section
open Go Go.RowKit
abbrev Aeu:Nat:=321
def Aev:Fn1:=⟨61,[],(rg [o 13 (.lit 6 0 [] []),oM 10 13] (.seq (rg [oV 11 (ki 0)] (.blk 0 (.lop (.seq (rg [oM 14 11,oM 15 0,oK 16 15,oF 17 2 16,oL 18 17,oN 19 18,oB 20 .lss 14 19] (.cnd (.t 20) .skip (.ext 0))) (.seq (.blk 1 (rg [oM 23 0,oK 24 23,oF 25 2 24,oL 26 25,oM 27 11,oI 28 6 26 27,oW 29 6 28,o 12 (.new [(.bool false),(.str ⟨#[]⟩),(.str ⟨#[]⟩),z0,z0,z0]),oS 6 12 29] (rg [oF 30 0 12,oL 31 30,oM 32 1,o 33 (.eqb true (.t 31) (.t 32)),oM 34 33,og 35 34 false (.fad 1 (.t 12)),og 36 34 false (.ld false 1 (.t 35)),og 37 34 false (.mov (.t 2)),og 38 34 false (.bin .neq (.t 36) (.t 37)),o 39 (.pick (.t 34) kt (.t 38)),oM 40 39,og 41 40 false (.fad 2 (.t 12)),og 42 40 false (.ld false 1 (.t 41)),og 43 40 false (.mov (.t 3)),og 44 40 false (.bin .neq (.t 42) (.t 43)),o 45 (.pick (.t 40) kt (.t 44)),oM 46 45,og 47 46 false (.mov (.t 4)),og 48 46 false (.fad 4 (.t 12)),og 49 46 false (.ld true 2 (.t 48)),og 50 46 false (.call 45 [(.t 47),(.t 49)]),og 51 46 false (.un .not (.t 50)),o 52 (.pick (.t 46) kt (.t 51))] (.cnd (.t 52) (.reg [oM 53 10,oW 54 6 12,o 55 (.lit 6 1 [(.bool false),(.str ⟨#[]⟩),(.str ⟨#[]⟩),z0,z0,z0] [(0,6,(.t 54))]),o 56 (.app 6 64 [(.bool false),(.str ⟨#[]⟩),(.str ⟨#[]⟩),z0,z0,z0] (.t 53) (.t 55)),oM 10 56]) .skip)))) (.reg [oM 21 11,oZ 22 21 1,oM 11 22])))))) (.reg [oM 57 0,oM 58 10,oK 59 57,oF 60 2 59,oS 1 60 58])))⟩
abbrev Kp:Nat:=319
def Re:Fn1:=⟨113,[],(.seq (rg [oV 8 (ki 0)] (.blk 0 (.lop (.seq (rg [oM 14 8,oM 15 0,oK 16 15,oF 17 1 16,oL 18 17,oN 19 18,oB 20 .lss 14 19] (.cnd (.t 20) .skip (.ext 0))) (.seq (.blk 1 (rg [oM 23 0,oK 24 23,oF 25 1 24,oL 26 25,oM 27 8,oI 28 3 26 27,oW 29 3 28,o 9 (.new [(.str ⟨#[]⟩),z0,z0]),oS 3 9 29] (rg [oF 30 0 9,oL 31 30,oM 32 1,oB 33 .eql 31 32,oM 34 33,og 35 34 true (.fad 1 (.t 9)),og 36 34 true (.ld false 1 (.t 35)),og 37 34 true (.mov (.t 2)),og 38 34 true (.bin .eql (.t 36) (.t 37)),o 39 (.pick (.t 34) (.t 38) kf)] (.cnd (.t 39) (.seq (.drw [oM 40 0,oK 41 40,oF 42 1 41,oL 43 42,oM 44 8,oF 45 2 9,oL 46 45] [oM 47 3,oB 48 .add 46 47,o 49 (.bin .rem (.t 48) (ki 1000000)),oI 50 3 43 44,oF 51 2 50,oS 1 51 49]) .ret) .skip)))) (.reg [oM 21 8,oZ 22 21 1,oM 8 22])))))) (rg [o 52 (.lit 3 0 [] []),oM 10 52] (rg [oV 11 kf] (.seq (rg [oV 12 (ki 0)] (.blk 2 (.lop (.seq (rg [oM 53 12,oM 54 0,oK 55 54,oF 56 1 55,oL 57 56,oN 58 57,oB 59 .lss 53 58] (.cnd (.t 59) .skip (.ext 2))) (.seq (.blk 3 (rg [oM 62 0,oK 63 62,oF 64 1 63,oL 65 64,oM 66 12,oI 67 3 65 66,oW 68 3 67,o 13 (.new [(.str ⟨#[]⟩),z0,z0]),oS 3 13 68] (.seq (rg [oM 69 11,oU 70 69,oM 71 70,og 72 71 true (.fad 0 (.t 13)),og 73 71 true (.ld false 1 (.t 72)),og 74 71 true (.mov (.t 1)),og 75 71 true (.bin .gtr (.t 73) (.t 74)),og 76 71 true (.mov (.t 75)),og 77 76 false (.fad 0 (.t 13)),og 78 76 false (.ld false 1 (.t 77)),og 79 76 false (.mov (.t 1)),og 80 76 false (.bin .eql (.t 78) (.t 79)),og 81 76 false (.mov (.t 80)),og 82 81 true (.fad 1 (.t 13)),og 83 81 true (.ld false 1 (.t 82)),og 84 81 true (.mov (.t 2)),og 85 81 true (.bin .gtr (.t 83) (.t 84)),og 86 76 false (.pick (.t 81) (.t 85) kf),og 87 71 true (.pick (.t 76) kt (.t 86)),o 88 (.pick (.t 71) (.t 87) kf)] (.cnd (.t 88) (rg [oM 89 10,oM 90 1,oM 91 2,oM 92 3,o 93 (.build [(.str ⟨#[]⟩),z0,z0] [(0,1,(.t 90)),(1,1,(.t 91)),(2,1,(.t 92))]),o 94 (.lit 3 1 [(.str ⟨#[]⟩),z0,z0] [(0,3,(.t 93))]),o 95 (.app 3 32 [(.str ⟨#[]⟩),z0,z0] (.t 89) (.t 94)),oM 10 95] (.reg [oV 11 kt])) .skip)) (.reg [oM 96 10,oW 97 3 13,o 98 (.lit 3 1 [(.str ⟨#[]⟩),z0,z0] [(0,3,(.t 97))]),o 99 (.app 3 32 [(.str ⟨#[]⟩),z0,z0] (.t 96) (.t 98)),oM 10 99])))) (.reg [oM 60 12,oZ 61 60 1,oM 12 61])))))) (.seq (rg [oM 100 11,oU 101 100] (.cnd (.t 101) (.reg [oM 102 10,oM 103 1,oM 104 2,oM 105 3,o 106 (.build [(.str ⟨#[]⟩),z0,z0] [(0,1,(.t 103)),(1,1,(.t 104)),(2,1,(.t 105))]),o 107 (.lit 3 1 [(.str ⟨#[]⟩),z0,z0] [(0,3,(.t 106))]),o 108 (.app 3 32 [(.str ⟨#[]⟩),z0,z0] (.t 102) (.t 107)),oM 10 108]) .skip)) (.reg [oM 109 0,oM 110 10,oK 111 109,oF 112 1 111,oS 1 112 110]))))))⟩
theorem A0m:A8 Tryz.prog Kp=some Re:=by kernel_rfl
def SPtr (σ0 τ:St) (g:Nat) (s:State) (rest:List Thg):Prop:=∃ v0 v1 v2 v3,Hp σ0 τ (ow pI.kd v0 s.know::ow Ab.kd v1 s.tallies::ow Ai.kd v2 s.lives::ow Ae.kd v3 s.cells::pt 1 g [v0,v1,v2,v3]::rest)
theorem Q4 {α:Type} (f:α→α):∀ {l:List α} {i:Nat} (hi:i<l.length),l.modify i f=l.set i (f l[i])
 |x::l,0,_=>by simp
 |x::l,i+1,hi=>by
  rw[List.modify_succ_cons,Q4 f (by simpa using hi)]
  simp
theorem A88 {l:List Tally} {o:ByteArray} {r:Int} {i:Nat} (hi:i<l.length) (ha:∀ j (hj:j<l.length),j<i→Jr o r l[j]=false) (h:Jr o r l[i]=true):l.findIdx? (Jr o r)=some i:=by
 rw[List.findIdx?_eq_some_iff_getElem]
 exact⟨hi,h,fun j hj=>by rw[ha j (by omega) hj];simp⟩
set_option maxHeartbeats 2000000 in
theorem M6 {σ0 σ:St} {g:Nat} {s:State} {rest:List Thg} (H:SPtr σ0 σ g s rest) (o:ByteArray) (rep val:Int) (hl:Ad s≤1099511627776) (hv: -1000000≤val∧val≤1000000) (hs:∀ t∈s.tallies,-1000000≤t.sum∧t.sum≤1000000):∃ τ,Ret Tryz.prog Kp [.ptr g 0,.str o,gi rep,gi val] σ (.tup []) τ∧SPtr σ0 τ g {s with tallies:=Gf s.tallies o rep val} rest:=by
 obtain⟨v0,v1,v2,v3,H⟩:=H
 obtain⟨l1,l2,l3,l4,_⟩:=F3 hl
 have key:∃ r τ,Ret Tryz.prog Kp [.ptr g 0,.str o,gi rep,gi val] σ r τ∧r= .tup []∧SPtr σ0 τ g {s with tallies:=Gf s.tallies o rep val} rest:=by
  refine A2l A0m (Z0z rfl) ?_
  simp +contextual (disch:=omega) only[go_sem,Re]
  refine Ahh s.tallies.length 8 0 (fun i env τ=>env 0= .ptr g 0∧env 1= .str o∧env 2=gi rep∧env 3=gi val∧(∀ j (hj:j<s.tallies.length),j<i→Jr o rep s.tallies[j]=false)∧Hp σ0 τ (ow pI.kd v0 s.know::ow Ab.kd v1 s.tallies::ow Ai.kd v2 s.lives::ow Ae.kd v3 s.cells::pt 1 g [v0,v1,v2,v3]::rest)) (fun env τ=>env 0= .ptr g 0∧env 1= .str o∧env 2=gi rep∧env 3=gi val∧s.tallies.findIdx? (Jr o rep)=none∧Hp σ0 τ (ow pI.kd v0 s.know::ow Ab.kd v1 s.tallies::ow Ai.kd v2 s.lives::ow Ae.kd v3 s.cells::pt 1 g [v0,v1,v2,v3]::rest)) (fun env τ=>SPtr σ0 τ g {s with tallies:=Gf s.tallies o rep val} rest) rfl ⟨rfl,rfl,rfl,rfl,fun j _ hj=>by omega,H⟩ ?_ ?_ ?_ ?_
  ·clear H
   rintro J Y W hJ hY hW i env τ hi e8 c0 ⟨e0,e1,e2,e3,ha,H⟩
   have C1:=Aa (H.sl 1 rfl) hi
   have hln:=(H.sl 1 rfl).len
   have zb:=H.pt 4 rfl
   have G:=H.grow (pre1 τ (some (Blk.row 1 (A36 s.tallies[i]))))
   have hno:Jr o rep s.tallies[i]=false→∀ j (hj:j<s.tallies.length),j<i+1→Jr o rep s.tallies[j]=false:=fun h j hj hji=>by
    rcases Nat.lt_or_ge j i with h2|h2
    ·exact ha j hj h2
    ·have:j=i:=by omega
     subst this;exact h
   cases h1:decide (s.tallies[i].obj=o) with
   |false=>
    simp +contextual (disch:=omega) only[go_sem,c0,e0,e1,e2,e3,e8,A5 zb,hln,C1,h1]
    refine hJ _ _ _ ⟨?_,?_,?_,?_,hno (by simp[Jr,h1]),G⟩
    all_goals simp +contextual (disch:=omega) only[go_sem,e0,e1,e2,e3]
   |true=>
    have o1:s.tallies[i].obj=o:=by simpa using h1
    cases h2:decide (s.tallies[i].rep=rep) with
    |false=>
     have b2:(s.tallies[i].rep==rep)=false:=h2
     simp +contextual (disch:=omega) only[go_sem,c0,e0,e1,e2,e3,e8,A5 zb,hln,C1,h1,b2]
     refine hJ _ _ _ ⟨?_,?_,?_,?_,hno (by simp[Jr,h2]),G⟩
     all_goals simp +contextual (disch:=omega) only[go_sem,e0,e1,e2,e3]
    |true=>
     have b2:(s.tallies[i].rep==rep)=true:=h2
     have hf:=A88 hi ha (by simp only[Jr,h1,h2];rfl)
     have hsb:=hs _ (List.getElem_mem hi)
     have w1:IntKind.i64.wrap (s.tallies[i].sum+val)=s.tallies[i].sum+val:=D6 (by omega) (by omega)
     have C2:=Aa (G.sl 1 rfl) hi
     obtain⟨τ1,s1,H1⟩:=G.ste 1 rfl hi 1 2 (gi (addM s.tallies[i].sum val)) {s.tallies[i] with sum:=addM s.tallies[i].sum val} rfl (by decide) (by decide) rfl
     have s1:stG 1 _ (fld 2 (atz 3 v1 i)) (.int .i64 ((s.tallies[i].sum+val).tmod 1000000))=some (.tup [],τ1):=s1
     have zc:=G.pt 4 rfl
     simp +contextual (disch:=omega) only[go_sem,c0,e0,e1,e2,e3,e8,A5 zb,A5 zc,hln,C1,C2,h1,b2,A4,w1,s1]
     refine hW _ _ ⟨v0,v1,v2,v3,?_⟩
     have hE:Gf s.tallies o rep val=s.tallies.set i {s.tallies[i] with sum:=addM s.tallies[i].sum val}:=by
      unfold Gf
      rw[hf]
      simp only[]
      rw[Q4 _ hi]
     show Hp σ0 τ1 (ow pI.kd v0 s.know::ow Ab.kd v1 (Gf s.tallies o rep val)::ow Ai.kd v2 s.lives::ow Ae.kd v3 s.cells::pt 1 g [v0,v1,v2,v3]::rest)
     rw[hE]
     exact H1
  ·clear H
   rintro Y hY env τ e8 c0 ⟨e0,e1,e2,e3,ha,H⟩
   have hln:=(H.sl 1 rfl).len
   have hnf:s.tallies.findIdx? (Jr o rep)=none:=by
    rw[List.findIdx?_eq_none_iff]
    intro t ht
    obtain⟨j,hj,rfl⟩:=List.getElem_of_mem ht
    exact ha j hj hj
   simp +contextual (disch:=omega) only[go_sem,c0,e0,e1,e2,e3,e8,A5 (H.pt 4 rfl),hln]
   refine hY _ _ ⟨?_,?_,?_,?_,hnf,H⟩
   all_goals simp +contextual (disch:=omega) only[go_sem,e0,e1,e2,e3]
  ·clear H
   rintro env τ ⟨e0,e1,e2,e3,hnf,H⟩
   have hE:Gf s.tallies o rep val=insB Ah ⟨o,rep,val⟩ s.tallies:=by unfold Gf;rw[hnf]
   rw[hE]
   have H:=H.nil_Tally
   simp +contextual (disch:=omega) only[go_sem,e0,e1,e2,e3]
   refine A5l s.tallies.length 12 2 (fun i env τ=>env 0= .ptr g 0∧env 1= .str o∧env 2=gi rep∧env 3=gi val∧∃(u:GV) (put:Bool) (nxt:List Tally),env 10=u∧env 11= .bool put∧insG Ah ⟨o,rep,val⟩ s.tallies nxt i put∧Hp σ0 τ (ow Ab.kd u nxt::ow pI.kd v0 s.know::ow Ab.kd v1 s.tallies::ow Ai.kd v2 s.lives::ow Ae.kd v3 s.cells::pt 1 g [v0,v1,v2,v3]::rest)) (fun env τ=>env 0= .ptr g 0∧env 1= .str o∧env 2=gi rep∧env 3=gi val∧∃(u:GV) (put:Bool) (nxt:List Tally),env 10=u∧env 11= .bool put∧insG Ah ⟨o,rep,val⟩ s.tallies nxt s.tallies.length put∧Hp σ0 τ (ow Ab.kd u nxt::ow pI.kd v0 s.know::ow Ab.kd v1 s.tallies::ow Ai.kd v2 s.lives::ow Ae.kd v3 s.cells::pt 1 g [v0,v1,v2,v3]::rest)) rfl ⟨by simp +contextual (disch:=omega) only[go_sem,e0],by simp +contextual (disch:=omega) only[go_sem,e1],by simp +contextual (disch:=omega) only[go_sem,e2],by simp +contextual (disch:=omega) only[go_sem,e3],_,false,[],by simp +contextual (disch:=omega) only[go_sem],by simp +contextual (disch:=omega) only[go_sem],A0f,H⟩ ?_ ?_ ?_
   ·clear H e0 e1 e2 e3
    rintro J Y hJ hY i env τ hi e12 c0 ⟨e0,e1,e2,e3,u,put,nxt,e10,e11,hok,H⟩
    have hnl:=Ga hok
    have C1:=Aa (H.sl 2 rfl) hi
    have hln:=(H.sl 2 rfl).len
    have zb:=H.pt 5 rfl
    have G:=H.grow (pre1 τ (some (Blk.row 1 (A36 s.tallies[i]))))
    have hlt:Ah ⟨o,rep,val⟩ s.tallies[i]=(txLt o s.tallies[i].obj||(decide (s.tallies[i].obj=o)&&decide (rep<s.tallies[i].rep))):=by
     unfold Ah
     have:decide (o=s.tallies[i].obj)=decide (s.tallies[i].obj=o):=by rw[decide_eq_decide];exact eq_comm
     rw[this]
    have HN:=H.new 1 (A36 s.tallies[i])
    cases put with
    |true=>
     obtain⟨w',τ3,e8,H3⟩:=G.app_Tally 0 rfl s.tallies[i] (by omega)
     simp +contextual (disch:=omega) only[go_sem,c0,e0,e1,e2,e3,e10,e11,e12,A5 zb,hln,C1,Bool.not_true,e8]
     refine hJ _ _ _ ⟨?_,?_,?_,?_,w',true,_,?_,?_,Hk hok hi (.inl rfl),H3⟩
     all_goals simp +contextual (disch:=omega) only[go_sem,e0,e1,e2,e3,e11]
    |false=>
     cases h1:txLt o s.tallies[i].obj with
     |true=>
      have hq:Ah ⟨o,rep,val⟩ s.tallies[i]=true:=by rw[hlt,h1];rfl
      have hp:=Tb hok hi hq
      have hnl2:=Ga hp
      simp only[List.length_append,List.length_cons,List.length_nil] at hnl2
      obtain⟨w4,τ4,e9,H4⟩:=HN.app_Tally 1 rfl ⟨o,rep,val⟩ (by omega)
      have H4:Hp σ0 τ4 (pt 1 τ.length (A36 s.tallies[i])::ow Ab.kd w4 (nxt++[⟨o,rep,val⟩])::ow pI.kd v0 s.know::ow Ab.kd v1 s.tallies::ow Ai.kd v2 s.lives::ow Ae.kd v3 s.cells::pt 1 g [v0,v1,v2,v3]::rest):=H4
      have zx:=A5 (a:=true) (n:=3) (off:=0) (H4.pt 0 rfl)
      obtain⟨w5,τ5,e13,H5⟩:=H4.app_Tally 1 rfl s.tallies[i] (by simp;omega)
      simp +contextual (disch:=omega) only[go_sem,c0,e0,e1,e2,e3,e10,e11,e12,A5 zb,hln,C1,Bool.not_false,h1,e9,zx,e13]
      refine hJ _ _ _ ⟨?_,?_,?_,?_,w5,true,_,?_,?_,hp,H5.drop1⟩
      all_goals simp +contextual (disch:=omega) only[go_sem,e0,e1,e2,e3,e11]
     |false=>
      cases h2:decide (s.tallies[i].obj=o) with
      |false=>
       obtain⟨w',τ3,e8,H3⟩:=G.app_Tally 0 rfl s.tallies[i] (by omega)
       simp +contextual (disch:=omega) only[go_sem,c0,e0,e1,e2,e3,e10,e11,e12,A5 zb,hln,C1,Bool.not_false,h1,h2,e8]
       refine hJ _ _ _ ⟨?_,?_,?_,?_,w',false,_,?_,?_,Hk hok hi (.inr (by rw[hlt,h1,h2];rfl)),H3⟩
       all_goals simp +contextual (disch:=omega) only[go_sem,e0,e1,e2,e3,e11]
      |true=>
       cases h3:decide (rep<s.tallies[i].rep) with
       |true=>
        have hq:Ah ⟨o,rep,val⟩ s.tallies[i]=true:=by rw[hlt,h1,h2,h3];rfl
        have hp:=Tb hok hi hq
        have hnl2:=Ga hp
        simp only[List.length_append,List.length_cons,List.length_nil] at hnl2
        obtain⟨w4,τ4,e9,H4⟩:=HN.app_Tally 1 rfl ⟨o,rep,val⟩ (by omega)
        have H4:Hp σ0 τ4 (pt 1 τ.length (A36 s.tallies[i])::ow Ab.kd w4 (nxt++[⟨o,rep,val⟩])::ow pI.kd v0 s.know::ow Ab.kd v1 s.tallies::ow Ai.kd v2 s.lives::ow Ae.kd v3 s.cells::pt 1 g [v0,v1,v2,v3]::rest):=H4
        have zx:=A5 (a:=true) (n:=3) (off:=0) (H4.pt 0 rfl)
        obtain⟨w5,τ5,e13,H5⟩:=H4.app_Tally 1 rfl s.tallies[i] (by simp;omega)
        simp +contextual (disch:=omega) only[go_sem,c0,e0,e1,e2,e3,e10,e11,e12,A5 zb,hln,C1,Bool.not_false,h1,h2,h3,e9,zx,e13]
        refine hJ _ _ _ ⟨?_,?_,?_,?_,w5,true,_,?_,?_,hp,H5.drop1⟩
        all_goals simp +contextual (disch:=omega) only[go_sem,e0,e1,e2,e3,e11]
       |false=>
        obtain⟨w',τ3,e8,H3⟩:=G.app_Tally 0 rfl s.tallies[i] (by omega)
        simp +contextual (disch:=omega) only[go_sem,c0,e0,e1,e2,e3,e10,e11,e12,A5 zb,hln,C1,Bool.not_false,h1,h2,h3,e8]
        refine hJ _ _ _ ⟨?_,?_,?_,?_,w',false,_,?_,?_,Hk hok hi (.inr (by rw[hlt,h1,h2,h3];rfl)),H3⟩
        all_goals simp +contextual (disch:=omega) only[go_sem,e0,e1,e2,e3,e11]
   ·clear H e0 e1 e2 e3
    rintro Y hY env τ e12 c0 ⟨e0,e1,e2,e3,u,put,nxt,e10,e11,hok,H⟩
    have hln:=(H.sl 2 rfl).len
    simp +contextual (disch:=omega) only[go_sem,c0,e0,e1,e2,e3,e10,e11,e12,A5 (H.pt 5 rfl),hln]
    refine hY _ _ ⟨?_,?_,?_,?_,u,put,nxt,?_,?_,hok,H⟩
    all_goals simp +contextual (disch:=omega) only[go_sem,e0,e1,e2,e3,e10,e11]
   ·clear H e0 e1 e2 e3
    rintro env τ ⟨e0,e1,e2,e3,u,put,nxt,e10,e11,hok,H⟩
    have hnl:=Ga hok
    have hend:=A0g hok
    cases put with
    |true=>
     have c1:=(H.sl 0 rfl).cell
     obtain⟨τ1,s1,H1,_⟩:=H.st 5 rfl 1 1 u (by rw[c1];rfl) (by decide) (by simp)
     simp +contextual (disch:=omega) only[go_sem,e0,e1,e2,e3,e10,e11,Bool.not_true,s1]
     refine⟨_,rfl,rfl,v0,u,v2,v3,?_⟩
     simp only[c1,List.set_cons_zero,List.set_cons_succ,Ts,Tr,Xx] at H1
     rw[← hend]
     exact Hp.moveTo H1 1 rfl
    |false=>
     obtain⟨w',τ3,e8,H3⟩:=H.app_Tally 0 rfl ⟨o,rep,val⟩ (by omega)
     have H3:Hp σ0 τ3 (ow Ab.kd w' (nxt++[⟨o,rep,val⟩])::ow pI.kd v0 s.know::ow Ab.kd v1 s.tallies::ow Ai.kd v2 s.lives::ow Ae.kd v3 s.cells::pt 1 g [v0,v1,v2,v3]::rest):=H3
     have c1:=(H3.sl 0 rfl).cell
     obtain⟨τ1,s1,H1,_⟩:=H3.st 5 rfl 1 1 w' (by rw[c1];rfl) (by decide) (by simp)
     simp +contextual (disch:=omega) only[go_sem,e0,e1,e2,e3,e10,e11,Bool.not_false,e8,s1]
     refine⟨_,rfl,rfl,v0,w',v2,v3,?_⟩
     simp only[c1,List.set_cons_zero,List.set_cons_succ,Ts,Tr,Xx] at H1
     rw[← hend]
     exact Hp.moveTo H1 1 rfl
  ·clear H
   rintro env τ h
   simp +contextual (disch:=omega) only[go_sem]
   exact⟨_,rfl,rfl,h⟩
 obtain⟨r,τ,R,rfl,h⟩:=key
 exact⟨τ,R,h⟩
end
end Go.Proofs.YtbeoiejnogdkpaaGreat.Sy
