/- Texts of this proof, one behind the other. -/
import Derived.Test.YtckobfochhjmdaaGreatDoorBShowWorld2
import Derived.Test.YtckobfochhjmdaaGreatDoorProg
import Derived.KernelRfl
import Derived.Sort.LotC
import Derived.Sort.AssemblyPlain
set_option linter.unusedSimpArgs false
set_option linter.unusedVariables false
set_option maxRecDepth 4000
set_option maxHeartbeats 4000000
open Nat renaming le_refl→Zaa,lt_or_ge→Zad,min_eq_left→Zat,eq_zero_or_pos→Zaz
open List renaming getElem?_set_self→Zab,getElem?_eq_some_iff→Zac,length_append→Zae,take_succ_eq_append_getElem→Zaf,take_length→Zag,length_filter_le→Zah,append_assoc→Zai,length_nil→Zaj,set_set→Zak,set_getElem_self→Zal,length_cons→Zam,length_map→Zap,drop_eq_getElem_cons→Zaq,length_take→Zar,length_drop→Zas,take_append_drop→Zau,append_nil→Zav,mem_filter→Zaw,flatMap_append→Zax,length_reverse→Zay,mem_cons_self→Za1,reverse_cons→Za3,getElem_mem→Za4,drop_length→Za5,reverse_nil→Za6,nil_append→Za7,filter_nil→Za8,drop_zero→Zba,map_cons→Zbb
open Option renaming map_none→Zan,map_some→Zao
open Bool renaming false_eq_true→Za0,false_and→Za9
open Int renaming toNat_natCast→Za2
namespace Go.Proofs.YtckobfochhjmdaaGreatDoor.Sy
open Go Go.RowKit
def Eq:Fn1:=⟨7,[.t 2],(rg [o 2 (.mov (.k (.int .u64 0)))] (rg [oM 3 0,o 4 (.cvi .u64 (.t 3)),oC 5 130 4,o 6 (.bin .shl (.k (.int .u64 1)) (.t 5)),oM 2 6] .ret))⟩
theorem Ie:A2 Tryz.prog 257=some Eq:=by kernel_rfl
def F9:Fn1:=⟨33,[.t 2],(rg [o 2 (.mov (.k (.int .u64 0)))] (dw [oM 3 0,oK 4 3,oL 5 4,oM 6 0,oK 7 6,oL 8 7] [o 9 (.bin .shl (.t 8) (.k (.int .u64 13))),oB 10 .xor 5 9,oK 11 3,oS 1 11 10] (dw [oM 12 0,oK 13 12,oL 14 13,oM 15 0,oK 16 15,oL 17 16] [o 18 (.bin .shr (.t 17) (.k (.int .u64 7))),oB 19 .xor 14 18,oK 20 12,oS 1 20 19] (dw [oM 21 0,oK 22 21,oL 23 22,oM 24 0,oK 25 24,oL 26 25] [o 27 (.bin .shl (.t 26) (.k (.int .u64 17))),oB 28 .xor 23 27,oK 29 21,oS 1 29 28] (rg [oM 30 0,oK 31 30,oL 32 31,oM 2 32] .ret)))))⟩
theorem J3:A2 Tryz.prog 258=some F9:=by kernel_rfl
def Jy:Fn1:=⟨8,[.t 2],(rg [oV 2 (ki 0)] (.seq (.cnd kf (rg [oM 3 0,o 4 (.cvi .u32 (.t 3)),oC 5 185 4,oM 2 5] .ret) .skip) (rg [oM 6 0,oC 7 186 6,oM 2 7] .ret)))⟩
theorem Sv:A2 Tryz.prog 130=some Jy:=by kernel_rfl
def Bg:Fn1:=⟨25,[.t 2],(rg [oV 2 (ki 0)] (.seq (rg [oM 3 0,o 4 (.bin .geq (.t 3) (.k (.int .u64 4294967296)))] (oG 4 (rg [oM 5 0,o 6 (.bin .shr (.t 5) (.k (.int .u64 32))),oM 0 6] (.reg [oV 2 (ki 32)])))) (.seq (rg [oM 7 0,o 8 (.bin .geq (.t 7) (.k (.int .u64 65536)))] (oG 8 (rg [oM 9 0,o 10 (.bin .shr (.t 9) (.k (.int .u64 16))),oM 0 10] (.reg [oM 11 2,oZ 12 11 16,oM 2 12])))) (.seq (rg [oM 13 0,o 14 (.bin .geq (.t 13) (.k (.int .u64 256)))] (oG 14 (rg [oM 15 0,o 16 (.bin .shr (.t 15) (.k (.int .u64 8))),oM 0 16] (.reg [oM 17 2,oZ 18 17 8,oM 2 18])))) (rg [oM 19 2,oM 20 0,o 21 (.cvi .u8 (.t 20)),o 22 (.idx (.k (.str ⟨#[0,1,2,2,3,3,3,3,4,4,4,4,4,4,4,4,5,5,5,5,5,5,5,5,5,5,5,5,5,5,5,5,6,6,6,6,6,6,6,6,6,6,6,6,6,6,6,6,6,6,6,6,6,6,6,6,6,6,6,6,6,6,6,6,7,7,7,7,7,7,7,7,7,7,7,7,7,7,7,7,7,7,7,7,7,7,7,7,7,7,7,7,7,7,7,7,7,7,7,7,7,7,7,7,7,7,7,7,7,7,7,7,7,7,7,7,7,7,7,7,7,7,7,7,7,7,7,7,8,8,8,8,8,8,8,8,8,8,8,8,8,8,8,8,8,8,8,8,8,8,8,8,8,8,8,8,8,8,8,8,8,8,8,8,8,8,8,8,8,8,8,8,8,8,8,8,8,8,8,8,8,8,8,8,8,8,8,8,8,8,8,8,8,8,8,8,8,8,8,8,8,8,8,8,8,8,8,8,8,8,8,8,8,8,8,8,8,8,8,8,8,8,8,8,8,8,8,8,8,8,8,8,8,8,8,8,8,8,8,8,8,8,8,8,8,8,8,8,8,8,8,8,8,8,8,8]⟩)) (.t 21)),o 23 (.cvi .i64 (.t 22)),oB 24 .add 19 23,oM 2 24] .ret)))))⟩
theorem Ox:A2 Tryz.prog 186=some Bg:=by kernel_rfl
structure SN where
 insertionSort:Nat
 siftDown:Nat
 heapSort:Nat
 reverseRange:Nat
 partialInsertionSort:Nat
 partitionEqual:Nat
 partition:Nat
 breakPatterns:Nat
 order2:Nat
 median:Nat
 medianAdjacent:Nat
 choosePivot:Nat
 pdqsort:Nat
 less:Nat
 slices_nextPowerOfTwo:Nat
 slices_xorshift_Next:Nat
def Fe (z:Nat) (g:Bool) (q:SN):Fn1:=⟨67,[],(rg [oM 13 2,oM 14 1,oB 15 .sub 13 14,oM 8 15] (rg [oM 16 8,oE 17 .geq 16 8] (oG 17 (rg [oM 18 8,o 19 (.cvi .u64 (.t 18)),o 9 (.new [(.int .u64 0)]),oS 1 9 19] (rg [oM 20 8,o 21 (.call q.slices_nextPowerOfTwo [(.t 20)]),oM 10 21] (rg [oM 22 1,oM 23 8,oE 24 .quo 23 4,oE 25 .mul 24 2,oB 26 .add 22 25,oE 27 .sub 26 1,oM 11 27] (oH 0 (.seq (rg [oM 28 11,oM 29 1,oM 30 8,oE 31 .quo 30 4,oE 32 .mul 31 2,oB 33 .add 29 32,oZ 34 33 1,oB 35 .leq 28 34] (oJ 35 0)) (.seq (.blk 1 (rg [o 38 (.call q.slices_xorshift_Next [(.t 9)]),oM 39 10,o 40 (.bin .sub (.t 39) (.k (.int .u64 1))),oB 41 .and 38 40,o 42 (.cvi .i64 (.t 41)),oM 12 42] (.seq (rg [oM 43 12,oM 44 8,oB 45 .geq 43 44] (oG 45 (.reg [oM 46 12,oM 47 8,oB 48 .sub 46 47,oM 12 48]))) (.drw [oM 49 0,oM 50 11,oM 51 0,oM 52 1,oM 53 12,oB 54 .add 52 53,oM 55 0,oM 56 1,oM 57 12,oB 58 .add 56 57,o 59 (.iad z (.t 55) (.t 58)),o 60 (.ld g z (.t 59)),oM 61 0,oM 62 11,o 63 (.iad z (.t 61) (.t 62)),o 64 (.ld g z (.t 63))] [o 65 (.iad z (.t 49) (.t 50)),on (.st z (.t 65) (.t 60)),o 66 (.iad z (.t 51) (.t 54)),on (.st z (.t 66) (.t 64))])))) (.reg [oM 36 11,oZ 37 36 1,oM 11 37]))))))))))⟩
def Ff (z:Nat) (g:Bool) (q:SN):Fn1:=⟨65,[],(rg [oM 11 2,oM 12 1,oB 13 .sub 11 12,oM 6 13] (rg [oM 14 6,oE 15 .geq 14 8] (oG 15 (rg [oM 16 6,o 17 (.cvi .u64 (.t 16)),o 7 (.new [(.int .u64 0)]),oS 1 7 17] (rg [oM 18 6,o 19 (.call q.slices_nextPowerOfTwo [(.t 18)]),oM 8 19] (rg [oM 20 1,oM 21 6,oE 22 .quo 21 4,oE 23 .mul 22 2,oB 24 .add 20 23,oE 25 .sub 24 1,oM 9 25] (oH 0 (.seq (rg [oM 26 9,oM 27 1,oM 28 6,oE 29 .quo 28 4,oE 30 .mul 29 2,oB 31 .add 27 30,oZ 32 31 1,oB 33 .leq 26 32] (oJ 33 0)) (.seq (.blk 1 (rg [o 36 (.call q.slices_xorshift_Next [(.t 7)]),oM 37 8,o 38 (.bin .sub (.t 37) (.k (.int .u64 1))),oB 39 .and 36 38,o 40 (.cvi .i64 (.t 39)),oM 10 40] (.seq (rg [oM 41 10,oM 42 6,oB 43 .geq 41 42] (oG 43 (.reg [oM 44 10,oM 45 6,oB 46 .sub 44 45,oM 10 46]))) (.drw [oM 47 0,oM 48 9,oM 49 0,oM 50 1,oM 51 10,oB 52 .add 50 51,oM 53 0,oM 54 1,oM 55 10,oB 56 .add 54 55,o 57 (.iad z (.t 53) (.t 56)),o 58 (.ld g z (.t 57)),oM 59 0,oM 60 9,o 61 (.iad z (.t 59) (.t 60)),o 62 (.ld g z (.t 61))] [o 63 (.iad z (.t 47) (.t 48)),on (.st z (.t 63) (.t 58)),o 64 (.iad z (.t 49) (.t 52)),on (.st z (.t 64) (.t 62))])))) (.reg [oM 34 9,oZ 35 34 1,oM 9 35]))))))))))⟩
def Es (z:Nat) (g:Bool) (q:SN):Fn1:=⟨63,[.t 8,.t 9],(rg [oV 8 (ki 0),oV 9 (ki 0)] (rg [oM 15 2,oM 16 1,oB 17 .sub 15 16,oM 10 17] (rg [o 11 (.new [z0])] (rg [oM 18 1,oM 19 10,oE 20 .quo 19 4,oE 21 .mul 20 1,oB 22 .add 18 21,oM 12 22] (rg [oM 23 1,oM 24 10,oE 25 .quo 24 4,oE 26 .mul 25 2,oB 27 .add 23 26,oM 13 27] (rg [oM 28 1,oM 29 10,oE 30 .quo 29 4,oE 31 .mul 30 3,oB 32 .add 28 31,oM 14 32] (.seq (rg [oM 33 10,oE 34 .geq 33 8] (oG 34 (.seq (rg [oM 35 10,oE 36 .geq 35 50] (oG 36 (rg [oM 37 0,oM 38 12,oM 39 3,o 40 (.call q.medianAdjacent (oT [37,38,11,39])),oM 12 40] (rg [oM 41 0,oM 42 13,oM 43 3,o 44 (.call q.medianAdjacent (oT [41,42,11,43])),oM 13 44] (.reg [oM 45 0,oM 46 14,oM 47 3,o 48 (.call q.medianAdjacent (oT [45,46,11,47])),oM 14 48]))))) (.reg [oM 49 0,oM 50 12,oM 51 13,oM 52 14,oM 53 3,o 54 (.call q.median (oT [49,50,51,52,11,53])),oM 13 54])))) (rg [oL 55 11] (.blk 0 (rg [oE 58 .eql 55 0,oM 57 58] (cn 57 (rg [oM 59 13,oM 8 59,oV 9 (ki 1)] .ret) (rg [oE 61 .eql 55 12,oM 60 61] (cn 60 (rg [oM 62 13,oM 8 62,oV 9 (ki 2)] .ret) (rg [oM 56 13,oM 8 56,oV 9 (ki 0)] .ret))))))))))))))⟩
def Et (z:Nat) (g:Bool) (q:SN):Fn1:=⟨57,[.t 6,.t 7],(rg [oV 6 (ki 0),oV 7 (ki 0)] (rg [oM 13 2,oM 14 1,oB 15 .sub 13 14,oM 8 15] (rg [o 9 (.new [z0])] (rg [oM 16 1,oM 17 8,oE 18 .quo 17 4,oE 19 .mul 18 1,oB 20 .add 16 19,oM 10 20] (rg [oM 21 1,oM 22 8,oE 23 .quo 22 4,oE 24 .mul 23 2,oB 25 .add 21 24,oM 11 25] (rg [oM 26 1,oM 27 8,oE 28 .quo 27 4,oE 29 .mul 28 3,oB 30 .add 26 29,oM 12 30] (.seq (rg [oM 31 8,oE 32 .geq 31 8] (oG 32 (.seq (rg [oM 33 8,oE 34 .geq 33 50] (oG 34 (rg [oM 35 0,oM 36 10,o 37 (.call q.medianAdjacent (oT [35,36,9])),oM 10 37] (rg [oM 38 0,oM 39 11,o 40 (.call q.medianAdjacent (oT [38,39,9])),oM 11 40] (.reg [oM 41 0,oM 42 12,o 43 (.call q.medianAdjacent (oT [41,42,9])),oM 12 43]))))) (.reg [oM 44 0,oM 45 10,oM 46 11,oM 47 12,o 48 (.call q.median (oT [44,45,46,47,9])),oM 11 48])))) (rg [oL 49 9] (.blk 0 (rg [oE 52 .eql 49 0,oM 51 52] (cn 51 (rg [oM 53 11,oM 6 53,oV 7 (ki 1)] .ret) (rg [oE 55 .eql 49 12,oM 54 55] (cn 54 (rg [oM 56 11,oM 6 56,oV 7 (ki 2)] .ret) (rg [oM 50 11,oM 6 50,oV 7 (ki 0)] .ret))))))))))))))⟩
def S5 (z:Nat) (g:Bool) (q:SN):Fn1:=⟨60,[],(rg [oM 13 1,oM 8 13] (rg [oV 9 (ki 0)] (rg [oM 14 2,oM 15 1,oB 16 .sub 14 15,oM 10 16] (.seq (rg [oM 17 10,oE 18 .sub 17 1,oE 19 .quo 18 2,oM 11 19] (oH 0 (.seq (rg [oM 20 11,oE 21 .geq 20 0] (oJ 21 0)) (.seq (.blk 1 (.reg [oM 24 0,oM 25 11,oM 26 10,oM 27 8,oM 28 3,o 29 (.call q.siftDown (oT [24,25,26,27,28]))])) (.reg [oM 22 11,oE 23 .sub 22 1,oM 11 23]))))) (rg [oM 30 10,oE 31 .sub 30 1,oM 12 31] (oH 2 (.seq (rg [oM 32 12,oE 33 .geq 32 0] (oJ 33 2)) (.seq (.blk 3 (dw [oM 36 0,oM 37 8,oM 38 0,oM 39 8,oM 40 12,oB 41 .add 39 40,oM 42 0,oM 43 8,oM 44 12,oB 45 .add 43 44,o 46 (.iad z (.t 42) (.t 45)),o 47 (.ld g z (.t 46)),oM 48 0,oM 49 8,o 50 (.iad z (.t 48) (.t 49)),o 51 (.ld g z (.t 50))] [o 52 (.iad z (.t 36) (.t 37)),on (.st z (.t 52) (.t 47)),o 53 (.iad z (.t 38) (.t 41)),on (.st z (.t 53) (.t 51))] (.reg [oM 54 0,oM 55 9,oM 56 12,oM 57 8,oM 58 3,o 59 (.call q.siftDown (oT [54,55,56,57,58]))]))) (.reg [oM 34 12,oE 35 .sub 34 1,oM 12 35])))))))))⟩
def S6 (z:Nat) (g:Bool) (q:SN):Fn1:=⟨56,[],(rg [oM 11 1,oM 6 11] (rg [oV 7 (ki 0)] (rg [oM 12 2,oM 13 1,oB 14 .sub 12 13,oM 8 14] (.seq (rg [oM 15 8,oE 16 .sub 15 1,oE 17 .quo 16 2,oM 9 17] (oH 0 (.seq (rg [oM 18 9,oE 19 .geq 18 0] (oJ 19 0)) (.seq (.blk 1 (.reg [oM 22 0,oM 23 9,oM 24 8,oM 25 6,o 26 (.call q.siftDown (oT [22,23,24,25]))])) (.reg [oM 20 9,oE 21 .sub 20 1,oM 9 21]))))) (rg [oM 27 8,oE 28 .sub 27 1,oM 10 28] (oH 2 (.seq (rg [oM 29 10,oE 30 .geq 29 0] (oJ 30 2)) (.seq (.blk 3 (dw [oM 33 0,oM 34 6,oM 35 0,oM 36 6,oM 37 10,oB 38 .add 36 37,oM 39 0,oM 40 6,oM 41 10,oB 42 .add 40 41,o 43 (.iad z (.t 39) (.t 42)),o 44 (.ld g z (.t 43)),oM 45 0,oM 46 6,o 47 (.iad z (.t 45) (.t 46)),o 48 (.ld g z (.t 47))] [o 49 (.iad z (.t 33) (.t 34)),on (.st z (.t 49) (.t 44)),o 50 (.iad z (.t 35) (.t 38)),on (.st z (.t 50) (.t 48))] (.reg [oM 51 0,oM 52 7,oM 53 10,oM 54 6,o 55 (.call q.siftDown (oT [51,52,53,54]))]))) (.reg [oM 31 10,oE 32 .sub 31 1,oM 10 32])))))))))⟩
def Ig (z:Nat) (g:Bool) (q:SN):Fn1:=⟨53,[],(rg [oM 10 1,oZ 11 10 1,oM 8 11] (oH 0 (.seq (rg [oM 12 8,oM 13 2,oB 14 .lss 12 13] (oJ 14 0)) (.seq (.blk 1 (rg [oM 17 8,oM 9 17] (oH 2 (.seq (dw [oM 18 9,oM 19 1,oB 20 .gtr 18 19,oM 21 20,jM 22 21 3,jM 23 21 0,jM 24 21 9,og 25 21 true (.iad z (.t 23) (.t 24)),og 26 21 true (.ld g z (.t 25)),jM 27 21 0,jM 28 21 9,jE 29 21 .sub 28 1,og 30 21 true (.iad z (.t 27) (.t 29)),og 31 21 true (.ld g z (.t 30))] [og 32 21 true (.callv (.t 22) (oT [26,31])),jE 33 21 .lss 32 0,oQ 34 21 33] (oJ 34 2)) (.seq (.blk 3 (.drw [oM 37 0,oM 38 9,oM 39 0,oM 40 9,oE 41 .sub 40 1,oM 42 0,oM 43 9,oE 44 .sub 43 1,o 45 (.iad z (.t 42) (.t 44)),o 46 (.ld g z (.t 45)),oM 47 0,oM 48 9,o 49 (.iad z (.t 47) (.t 48)),o 50 (.ld g z (.t 49))] [o 51 (.iad z (.t 37) (.t 38)),on (.st z (.t 51) (.t 46)),o 52 (.iad z (.t 39) (.t 41)),on (.st z (.t 52) (.t 50))])) (.reg [oM 35 9,oE 36 .sub 35 1,oM 9 36])))))) (.reg [oM 15 8,oZ 16 15 1,oM 8 16])))))⟩
def Ih (z:Nat) (g:Bool) (q:SN):Fn1:=⟨49,[],(rg [oM 8 1,oZ 9 8 1,oM 6 9] (oH 0 (.seq (rg [oM 10 6,oM 11 2,oB 12 .lss 10 11] (oJ 12 0)) (.seq (.blk 1 (rg [oM 15 6,oM 7 15] (oH 2 (.seq (dw [oM 16 7,oM 17 1,oB 18 .gtr 16 17,oM 19 18,jM 20 19 0,jM 21 19 7,og 22 19 true (.iad z (.t 20) (.t 21)),og 23 19 true (.ld g z (.t 22)),jM 24 19 0,jM 25 19 7,jE 26 19 .sub 25 1,og 27 19 true (.iad z (.t 24) (.t 26)),og 28 19 true (.ld g z (.t 27))] [og 29 19 true (.call q.less (oT [23,28])),oQ 30 19 29] (oJ 30 2)) (.seq (.blk 3 (.drw [oM 33 0,oM 34 7,oM 35 0,oM 36 7,oE 37 .sub 36 1,oM 38 0,oM 39 7,oE 40 .sub 39 1,o 41 (.iad z (.t 38) (.t 40)),o 42 (.ld g z (.t 41)),oM 43 0,oM 44 7,o 45 (.iad z (.t 43) (.t 44)),o 46 (.ld g z (.t 45))] [o 47 (.iad z (.t 33) (.t 34)),on (.st z (.t 47) (.t 42)),o 48 (.iad z (.t 35) (.t 37)),on (.st z (.t 48) (.t 46))])) (.reg [oM 31 7,oE 32 .sub 31 1,oM 7 32])))))) (.reg [oM 13 6,oZ 14 13 1,oM 6 14])))))⟩
def A3e (z:Nat) (g:Bool) (q:SN):Fn1:=⟨41,[.t 12],(rg [oV 12 (ki 0)] (rg [oM 14 0,oM 15 1,oM 16 2,oM 17 4,oM 18 5,o 19 (.call q.order2 (oT [14,15,16,17,18])),oM 13 19,o 20 (.ext 0 (.t 13)),o 21 (.ext 1 (.t 13)),oM 1 20,oM 2 21] (rg [oM 23 0,oM 24 2,oM 25 3,oM 26 4,oM 27 5,o 28 (.call q.order2 (oT [23,24,25,26,27])),oM 22 28,o 29 (.ext 0 (.t 22)),o 30 (.ext 1 (.t 22)),oM 2 29,oM 3 30] (rg [oM 32 0,oM 33 1,oM 34 2,oM 35 4,oM 36 5,o 37 (.call q.order2 (oT [32,33,34,35,36])),oM 31 37,o 38 (.ext 0 (.t 31)),o 39 (.ext 1 (.t 31)),oM 1 38,oM 2 39] (rg [oM 40 2,oM 12 40] .ret)))))⟩
def A3f (z:Nat) (g:Bool) (q:SN):Fn1:=⟨36,[.t 10],(rg [oV 10 (ki 0)] (rg [oM 12 0,oM 13 1,oM 14 2,oM 15 4,o 16 (.call q.order2 (oT [12,13,14,15])),oM 11 16,o 17 (.ext 0 (.t 11)),o 18 (.ext 1 (.t 11)),oM 1 17,oM 2 18] (rg [oM 20 0,oM 21 2,oM 22 3,oM 23 4,o 24 (.call q.order2 (oT [20,21,22,23])),oM 19 24,o 25 (.ext 0 (.t 19)),o 26 (.ext 1 (.t 19)),oM 2 25,oM 3 26] (rg [oM 28 0,oM 29 1,oM 30 2,oM 31 4,o 32 (.call q.order2 (oT [28,29,30,31])),oM 27 32,o 33 (.ext 0 (.t 27)),o 34 (.ext 1 (.t 27)),oM 1 33,oM 2 34] (rg [oM 35 2,oM 10 35] .ret)))))⟩
def Hf (z:Nat) (g:Bool) (q:SN):Fn1:=⟨18,[.t 8],(rg [oV 8 (ki 0)] (rg [oM 9 0,oM 10 1,oE 11 .sub 10 1,oM 12 1,oM 13 1,oZ 14 13 1,oM 15 2,oM 16 3,o 17 (.call q.median (oT [9,11,12,14,15,16])),oM 8 17] .ret))⟩
def Hg (z:Nat) (g:Bool) (q:SN):Fn1:=⟨15,[.t 6],(rg [oV 6 (ki 0)] (rg [oM 7 0,oM 8 1,oE 9 .sub 8 1,oM 10 1,oM 11 1,oZ 12 11 1,oM 13 2,o 14 (.call q.median (oT [7,9,10,12,13])),oM 6 14] .ret))⟩
def A3g (z:Nat) (g:Bool) (q:SN):Fn1:=⟨32,[.t 10,.t 11],(rg [oV 10 (ki 0),oV 11 (ki 0)] (.seq (dw [oM 12 4,oM 13 0,oM 14 2,o 15 (.iad z (.t 13) (.t 14)),o 16 (.ld g z (.t 15)),oM 17 0,oM 18 1,o 19 (.iad z (.t 17) (.t 18)),o 20 (.ld g z (.t 19))] [o 21 (.callv (.t 12) (oT [16,20])),oE 22 .lss 21 0] (oG 22 (rg [oM 23 3,oK 24 23,oL 25 24,oZ 26 25 1,oK 27 23,oS 1 27 26] (rg [oM 28 2,oM 29 1,oM 10 28,oM 11 29] .ret)))) (rg [oM 30 1,oM 31 2,oM 10 30,oM 11 31] .ret)))⟩
def A3h (z:Nat) (g:Bool) (q:SN):Fn1:=⟨28,[.t 8,.t 9],(rg [oV 8 (ki 0),oV 9 (ki 0)] (.seq (dw [oM 10 0,oM 11 2,o 12 (.iad z (.t 10) (.t 11)),o 13 (.ld g z (.t 12)),oM 14 0,oM 15 1,o 16 (.iad z (.t 14) (.t 15)),o 17 (.ld g z (.t 16))] [o 18 (.call q.less (oT [13,17]))] (oG 18 (rg [oM 19 3,oK 20 19,oL 21 20,oZ 22 21 1,oK 23 19,oS 1 23 22] (rg [oM 24 2,oM 25 1,oM 8 24,oM 9 25] .ret)))) (rg [oM 26 1,oM 27 2,oM 8 26,oM 9 27] .ret)))⟩
def E9 (z:Nat) (g:Bool) (q:SN):Fn1:=⟨141,[.t 8],(rg [oV 8 kf] (rg [oM 13 1,oZ 14 13 1,oM 9 14] (.seq (rg [oV 10 (ki 0)] (oH 0 (.seq (rg [oM 15 10,oE 16 .lss 15 5] (oJ 16 0)) (.seq (.blk 1 (.seq (oH 2 (.seq (dw [oM 19 9,oM 20 2,oB 21 .lss 19 20,oM 22 21,jM 23 22 3,jM 24 22 0,jM 25 22 9,og 26 22 true (.iad z (.t 24) (.t 25)),og 27 22 true (.ld g z (.t 26)),jM 28 22 0,jM 29 22 9,jE 30 22 .sub 29 1,og 31 22 true (.iad z (.t 28) (.t 30)),og 32 22 true (.ld g z (.t 31))] [og 33 22 true (.callv (.t 23) (oT [27,32])),jE 34 22 .lss 33 0,jU 35 22 34,oQ 36 22 35] (oJ 36 2)) (.blk 3 (.reg [oM 37 9,oZ 38 37 1,oM 9 38])))) (.seq (rg [oM 39 9,oM 40 2,oB 41 .eql 39 40] (oG 41 (oR 8 kt))) (.seq (rg [oM 42 2,oM 43 1,oB 44 .sub 42 43,oE 45 .lss 44 50] (oG 45 (oR 8 kf))) (dw [oM 46 0,oM 47 9,oM 48 0,oM 49 9,oE 50 .sub 49 1,oM 51 0,oM 52 9,oE 53 .sub 52 1,o 54 (.iad z (.t 51) (.t 53)),o 55 (.ld g z (.t 54)),oM 56 0,oM 57 9,o 58 (.iad z (.t 56) (.t 57)),o 59 (.ld g z (.t 58))] [o 60 (.iad z (.t 46) (.t 47)),on (.st z (.t 60) (.t 55)),o 61 (.iad z (.t 48) (.t 50)),on (.st z (.t 61) (.t 59))] (.seq (rg [oM 62 9,oM 63 1,oB 64 .sub 62 63,oE 65 .geq 64 2] (oG 65 (rg [oM 66 9,oE 67 .sub 66 1,oM 11 67] (oH 4 (.seq (rg [oM 68 11,oE 69 .geq 68 1] (oJ 69 4)) (.seq (.blk 5 (.seq (dw [oM 72 3,oM 73 0,oM 74 11,o 75 (.iad z (.t 73) (.t 74)),o 76 (.ld g z (.t 75)),oM 77 0,oM 78 11,oE 79 .sub 78 1,o 80 (.iad z (.t 77) (.t 79)),o 81 (.ld g z (.t 80))] [o 82 (.callv (.t 72) (oT [76,81])),oE 83 .lss 82 0,oU 84 83] (oG 84 (.ext 4))) (.drw [oM 85 0,oM 86 11,oM 87 0,oM 88 11,oE 89 .sub 88 1,oM 90 0,oM 91 11,oE 92 .sub 91 1,o 93 (.iad z (.t 90) (.t 92)),o 94 (.ld g z (.t 93)),oM 95 0,oM 96 11,o 97 (.iad z (.t 95) (.t 96)),o 98 (.ld g z (.t 97))] [o 99 (.iad z (.t 85) (.t 86)),on (.st z (.t 99) (.t 94)),o 100 (.iad z (.t 87) (.t 89)),on (.st z (.t 100) (.t 98))]))) (.reg [oM 70 11,oE 71 .sub 70 1,oM 11 71]))))))) (rg [oM 101 2,oM 102 9,oB 103 .sub 101 102,oE 104 .geq 103 2] (oG 104 (rg [oM 105 9,oZ 106 105 1,oM 12 106] (oH 6 (.seq (rg [oM 107 12,oM 108 2,oB 109 .lss 107 108] (oJ 109 6)) (.seq (.blk 7 (.seq (dw [oM 112 3,oM 113 0,oM 114 12,o 115 (.iad z (.t 113) (.t 114)),o 116 (.ld g z (.t 115)),oM 117 0,oM 118 12,oE 119 .sub 118 1,o 120 (.iad z (.t 117) (.t 119)),o 121 (.ld g z (.t 120))] [o 122 (.callv (.t 112) (oT [116,121])),oE 123 .lss 122 0,oU 124 123] (oG 124 (.ext 6))) (.drw [oM 125 0,oM 126 12,oM 127 0,oM 128 12,oE 129 .sub 128 1,oM 130 0,oM 131 12,oE 132 .sub 131 1,o 133 (.iad z (.t 130) (.t 132)),o 134 (.ld g z (.t 133)),oM 135 0,oM 136 12,o 137 (.iad z (.t 135) (.t 136)),o 138 (.ld g z (.t 137))] [o 139 (.iad z (.t 125) (.t 126)),on (.st z (.t 139) (.t 134)),o 140 (.iad z (.t 127) (.t 129)),on (.st z (.t 140) (.t 138))]))) (.reg [oM 110 12,oZ 111 110 1,oM 12 111]))))))))))))) (.reg [oM 17 10,oZ 18 17 1,oM 10 18]))))) (oR 8 kf))))⟩
def Ea (z:Nat) (g:Bool) (q:SN):Fn1:=⟨133,[.t 6],(rg [oV 6 kf] (rg [oM 11 1,oZ 12 11 1,oM 7 12] (.seq (rg [oV 8 (ki 0)] (oH 0 (.seq (rg [oM 13 8,oE 14 .lss 13 5] (oJ 14 0)) (.seq (.blk 1 (.seq (oH 2 (.seq (dw [oM 17 7,oM 18 2,oB 19 .lss 17 18,oM 20 19,jM 21 20 0,jM 22 20 7,og 23 20 true (.iad z (.t 21) (.t 22)),og 24 20 true (.ld g z (.t 23)),jM 25 20 0,jM 26 20 7,jE 27 20 .sub 26 1,og 28 20 true (.iad z (.t 25) (.t 27)),og 29 20 true (.ld g z (.t 28))] [og 30 20 true (.call q.less (oT [24,29])),jU 31 20 30,oQ 32 20 31] (oJ 32 2)) (.blk 3 (.reg [oM 33 7,oZ 34 33 1,oM 7 34])))) (.seq (rg [oM 35 7,oM 36 2,oB 37 .eql 35 36] (oG 37 (oR 6 kt))) (.seq (rg [oM 38 2,oM 39 1,oB 40 .sub 38 39,oE 41 .lss 40 50] (oG 41 (oR 6 kf))) (dw [oM 42 0,oM 43 7,oM 44 0,oM 45 7,oE 46 .sub 45 1,oM 47 0,oM 48 7,oE 49 .sub 48 1,o 50 (.iad z (.t 47) (.t 49)),o 51 (.ld g z (.t 50)),oM 52 0,oM 53 7,o 54 (.iad z (.t 52) (.t 53)),o 55 (.ld g z (.t 54))] [o 56 (.iad z (.t 42) (.t 43)),on (.st z (.t 56) (.t 51)),o 57 (.iad z (.t 44) (.t 46)),on (.st z (.t 57) (.t 55))] (.seq (rg [oM 58 7,oM 59 1,oB 60 .sub 58 59,oE 61 .geq 60 2] (oG 61 (rg [oM 62 7,oE 63 .sub 62 1,oM 9 63] (oH 4 (.seq (rg [oM 64 9,oE 65 .geq 64 1] (oJ 65 4)) (.seq (.blk 5 (.seq (dw [oM 68 0,oM 69 9,o 70 (.iad z (.t 68) (.t 69)),o 71 (.ld g z (.t 70)),oM 72 0,oM 73 9,oE 74 .sub 73 1,o 75 (.iad z (.t 72) (.t 74)),o 76 (.ld g z (.t 75))] [o 77 (.call q.less (oT [71,76])),oU 78 77] (oG 78 (.ext 4))) (.drw [oM 79 0,oM 80 9,oM 81 0,oM 82 9,oE 83 .sub 82 1,oM 84 0,oM 85 9,oE 86 .sub 85 1,o 87 (.iad z (.t 84) (.t 86)),o 88 (.ld g z (.t 87)),oM 89 0,oM 90 9,o 91 (.iad z (.t 89) (.t 90)),o 92 (.ld g z (.t 91))] [o 93 (.iad z (.t 79) (.t 80)),on (.st z (.t 93) (.t 88)),o 94 (.iad z (.t 81) (.t 83)),on (.st z (.t 94) (.t 92))]))) (.reg [oM 66 9,oE 67 .sub 66 1,oM 9 67]))))))) (rg [oM 95 2,oM 96 7,oB 97 .sub 95 96,oE 98 .geq 97 2] (oG 98 (rg [oM 99 7,oZ 100 99 1,oM 10 100] (oH 6 (.seq (rg [oM 101 10,oM 102 2,oB 103 .lss 101 102] (oJ 103 6)) (.seq (.blk 7 (.seq (dw [oM 106 0,oM 107 10,o 108 (.iad z (.t 106) (.t 107)),o 109 (.ld g z (.t 108)),oM 110 0,oM 111 10,oE 112 .sub 111 1,o 113 (.iad z (.t 110) (.t 112)),o 114 (.ld g z (.t 113))] [o 115 (.call q.less (oT [109,114])),oU 116 115] (oG 116 (.ext 6))) (.drw [oM 117 0,oM 118 10,oM 119 0,oM 120 10,oE 121 .sub 120 1,oM 122 0,oM 123 10,oE 124 .sub 123 1,o 125 (.iad z (.t 122) (.t 124)),o 126 (.ld g z (.t 125)),oM 127 0,oM 128 10,o 129 (.iad z (.t 127) (.t 128)),o 130 (.ld g z (.t 129))] [o 131 (.iad z (.t 117) (.t 118)),on (.st z (.t 131) (.t 126)),o 132 (.iad z (.t 119) (.t 121)),on (.st z (.t 132) (.t 130))]))) (.reg [oM 104 10,oZ 105 104 1,oM 10 105]))))))))))))) (.reg [oM 15 8,oZ 16 15 1,oM 8 16]))))) (oR 6 kf))))⟩
def Oy (z:Nat) (g:Bool) (q:SN):Fn1:=⟨178,[.t 10,.t 11],(rg [oV 10 (ki 0),oV 11 kf] (dw [oM 14 0,oM 15 1,oM 16 0,oM 17 3,oM 18 0,oM 19 3,o 20 (.iad z (.t 18) (.t 19)),o 21 (.ld g z (.t 20)),oM 22 0,oM 23 1,o 24 (.iad z (.t 22) (.t 23)),o 25 (.ld g z (.t 24))] [o 26 (.iad z (.t 14) (.t 15)),on (.st z (.t 26) (.t 21)),o 27 (.iad z (.t 16) (.t 17)),on (.st z (.t 27) (.t 25))] (rg [oM 28 1,oZ 29 28 1,oM 30 2,oE 31 .sub 30 1,oM 12 29,oM 13 31] (.seq (oH 0 (.seq (dw [oM 32 12,oM 33 13,oB 34 .leq 32 33,oM 35 34,jM 36 35 4,jM 37 35 0,jM 38 35 12,og 39 35 true (.iad z (.t 37) (.t 38)),og 40 35 true (.ld g z (.t 39)),jM 41 35 0,jM 42 35 1,og 43 35 true (.iad z (.t 41) (.t 42)),og 44 35 true (.ld g z (.t 43))] [og 45 35 true (.callv (.t 36) (oT [40,44])),jE 46 35 .lss 45 0,oQ 47 35 46] (oJ 47 0)) (.blk 1 (.reg [oM 48 12,oZ 49 48 1,oM 12 49])))) (.seq (oH 2 (.seq (dw [oM 50 12,oM 51 13,oB 52 .leq 50 51,oM 53 52,jM 54 53 4,jM 55 53 0,jM 56 53 13,og 57 53 true (.iad z (.t 55) (.t 56)),og 58 53 true (.ld g z (.t 57)),jM 59 53 0,jM 60 53 1,og 61 53 true (.iad z (.t 59) (.t 60)),og 62 53 true (.ld g z (.t 61))] [og 63 53 true (.callv (.t 54) (oT [58,62])),jE 64 53 .lss 63 0,jU 65 53 64,oQ 66 53 65] (oJ 66 2)) (.blk 3 (.reg [oM 67 13,oE 68 .sub 67 1,oM 13 68])))) (.seq (rg [oM 69 12,oM 70 13,oB 71 .gtr 69 70] (oG 71 (dw [oM 72 0,oM 73 13,oM 74 0,oM 75 1,oM 76 0,oM 77 1,o 78 (.iad z (.t 76) (.t 77)),o 79 (.ld g z (.t 78)),oM 80 0,oM 81 13,o 82 (.iad z (.t 80) (.t 81)),o 83 (.ld g z (.t 82))] [o 84 (.iad z (.t 72) (.t 73)),on (.st z (.t 84) (.t 79)),o 85 (.iad z (.t 74) (.t 75)),on (.st z (.t 85) (.t 83))] (rg [oM 86 13,oM 10 86,oV 11 kt] .ret)))) (dw [oM 87 0,oM 88 12,oM 89 0,oM 90 13,oM 91 0,oM 92 13,o 93 (.iad z (.t 91) (.t 92)),o 94 (.ld g z (.t 93)),oM 95 0,oM 96 12,o 97 (.iad z (.t 95) (.t 96)),o 98 (.ld g z (.t 97))] [o 99 (.iad z (.t 87) (.t 88)),on (.st z (.t 99) (.t 94)),o 100 (.iad z (.t 89) (.t 90)),on (.st z (.t 100) (.t 98))] (rg [oM 101 12,oZ 102 101 1,oM 12 102] (rg [oM 103 13,oE 104 .sub 103 1,oM 13 104] (.seq (oH 4 (.blk 5 (.seq (oH 6 (.seq (dw [oM 105 12,oM 106 13,oB 107 .leq 105 106,oM 108 107,jM 109 108 4,jM 110 108 0,jM 111 108 12,og 112 108 true (.iad z (.t 110) (.t 111)),og 113 108 true (.ld g z (.t 112)),jM 114 108 0,jM 115 108 1,og 116 108 true (.iad z (.t 114) (.t 115)),og 117 108 true (.ld g z (.t 116))] [og 118 108 true (.callv (.t 109) (oT [113,117])),jE 119 108 .lss 118 0,oQ 120 108 119] (oJ 120 6)) (.blk 7 (.reg [oM 121 12,oZ 122 121 1,oM 12 122])))) (.seq (oH 8 (.seq (dw [oM 123 12,oM 124 13,oB 125 .leq 123 124,oM 126 125,jM 127 126 4,jM 128 126 0,jM 129 126 13,og 130 126 true (.iad z (.t 128) (.t 129)),og 131 126 true (.ld g z (.t 130)),jM 132 126 0,jM 133 126 1,og 134 126 true (.iad z (.t 132) (.t 133)),og 135 126 true (.ld g z (.t 134))] [og 136 126 true (.callv (.t 127) (oT [131,135])),jE 137 126 .lss 136 0,jU 138 126 137,oQ 139 126 138] (oJ 139 8)) (.blk 9 (.reg [oM 140 13,oE 141 .sub 140 1,oM 13 141])))) (.seq (rg [oM 142 12,oM 143 13,oB 144 .gtr 142 143] (oG 144 (.ext 4))) (dw [oM 145 0,oM 146 12,oM 147 0,oM 148 13,oM 149 0,oM 150 13,o 151 (.iad z (.t 149) (.t 150)),o 152 (.ld g z (.t 151)),oM 153 0,oM 154 12,o 155 (.iad z (.t 153) (.t 154)),o 156 (.ld g z (.t 155))] [o 157 (.iad z (.t 145) (.t 146)),on (.st z (.t 157) (.t 152)),o 158 (.iad z (.t 147) (.t 148)),on (.st z (.t 158) (.t 156))] (rg [oM 159 12,oZ 160 159 1,oM 12 160] (.reg [oM 161 13,oE 162 .sub 161 1,oM 13 162])))))))) (dw [oM 163 0,oM 164 13,oM 165 0,oM 166 1,oM 167 0,oM 168 1,o 169 (.iad z (.t 167) (.t 168)),o 170 (.ld g z (.t 169)),oM 171 0,oM 172 13,o 173 (.iad z (.t 171) (.t 172)),o 174 (.ld g z (.t 173))] [o 175 (.iad z (.t 163) (.t 164)),on (.st z (.t 175) (.t 170)),o 176 (.iad z (.t 165) (.t 166)),on (.st z (.t 176) (.t 174))] (rg [oM 177 13,oM 10 177,oV 11 kf] .ret))))))))))))⟩
def Oz (z:Nat) (g:Bool) (q:SN):Fn1:=⟨168,[.t 8,.t 9],(rg [oV 8 (ki 0),oV 9 kf] (dw [oM 12 0,oM 13 1,oM 14 0,oM 15 3,oM 16 0,oM 17 3,o 18 (.iad z (.t 16) (.t 17)),o 19 (.ld g z (.t 18)),oM 20 0,oM 21 1,o 22 (.iad z (.t 20) (.t 21)),o 23 (.ld g z (.t 22))] [o 24 (.iad z (.t 12) (.t 13)),on (.st z (.t 24) (.t 19)),o 25 (.iad z (.t 14) (.t 15)),on (.st z (.t 25) (.t 23))] (rg [oM 26 1,oZ 27 26 1,oM 28 2,oE 29 .sub 28 1,oM 10 27,oM 11 29] (.seq (oH 0 (.seq (dw [oM 30 10,oM 31 11,oB 32 .leq 30 31,oM 33 32,jM 34 33 0,jM 35 33 10,og 36 33 true (.iad z (.t 34) (.t 35)),og 37 33 true (.ld g z (.t 36)),jM 38 33 0,jM 39 33 1,og 40 33 true (.iad z (.t 38) (.t 39)),og 41 33 true (.ld g z (.t 40))] [og 42 33 true (.call q.less (oT [37,41])),oQ 43 33 42] (oJ 43 0)) (.blk 1 (.reg [oM 44 10,oZ 45 44 1,oM 10 45])))) (.seq (oH 2 (.seq (dw [oM 46 10,oM 47 11,oB 48 .leq 46 47,oM 49 48,jM 50 49 0,jM 51 49 11,og 52 49 true (.iad z (.t 50) (.t 51)),og 53 49 true (.ld g z (.t 52)),jM 54 49 0,jM 55 49 1,og 56 49 true (.iad z (.t 54) (.t 55)),og 57 49 true (.ld g z (.t 56))] [og 58 49 true (.call q.less (oT [53,57])),jU 59 49 58,oQ 60 49 59] (oJ 60 2)) (.blk 3 (.reg [oM 61 11,oE 62 .sub 61 1,oM 11 62])))) (.seq (rg [oM 63 10,oM 64 11,oB 65 .gtr 63 64] (oG 65 (dw [oM 66 0,oM 67 11,oM 68 0,oM 69 1,oM 70 0,oM 71 1,o 72 (.iad z (.t 70) (.t 71)),o 73 (.ld g z (.t 72)),oM 74 0,oM 75 11,o 76 (.iad z (.t 74) (.t 75)),o 77 (.ld g z (.t 76))] [o 78 (.iad z (.t 66) (.t 67)),on (.st z (.t 78) (.t 73)),o 79 (.iad z (.t 68) (.t 69)),on (.st z (.t 79) (.t 77))] (rg [oM 80 11,oM 8 80,oV 9 kt] .ret)))) (dw [oM 81 0,oM 82 10,oM 83 0,oM 84 11,oM 85 0,oM 86 11,o 87 (.iad z (.t 85) (.t 86)),o 88 (.ld g z (.t 87)),oM 89 0,oM 90 10,o 91 (.iad z (.t 89) (.t 90)),o 92 (.ld g z (.t 91))] [o 93 (.iad z (.t 81) (.t 82)),on (.st z (.t 93) (.t 88)),o 94 (.iad z (.t 83) (.t 84)),on (.st z (.t 94) (.t 92))] (rg [oM 95 10,oZ 96 95 1,oM 10 96] (rg [oM 97 11,oE 98 .sub 97 1,oM 11 98] (.seq (oH 4 (.blk 5 (.seq (oH 6 (.seq (dw [oM 99 10,oM 100 11,oB 101 .leq 99 100,oM 102 101,jM 103 102 0,jM 104 102 10,og 105 102 true (.iad z (.t 103) (.t 104)),og 106 102 true (.ld g z (.t 105)),jM 107 102 0,jM 108 102 1,og 109 102 true (.iad z (.t 107) (.t 108)),og 110 102 true (.ld g z (.t 109))] [og 111 102 true (.call q.less (oT [106,110])),oQ 112 102 111] (oJ 112 6)) (.blk 7 (.reg [oM 113 10,oZ 114 113 1,oM 10 114])))) (.seq (oH 8 (.seq (dw [oM 115 10,oM 116 11,oB 117 .leq 115 116,oM 118 117,jM 119 118 0,jM 120 118 11,og 121 118 true (.iad z (.t 119) (.t 120)),og 122 118 true (.ld g z (.t 121)),jM 123 118 0,jM 124 118 1,og 125 118 true (.iad z (.t 123) (.t 124)),og 126 118 true (.ld g z (.t 125))] [og 127 118 true (.call q.less (oT [122,126])),jU 128 118 127,oQ 129 118 128] (oJ 129 8)) (.blk 9 (.reg [oM 130 11,oE 131 .sub 130 1,oM 11 131])))) (.seq (rg [oM 132 10,oM 133 11,oB 134 .gtr 132 133] (oG 134 (.ext 4))) (dw [oM 135 0,oM 136 10,oM 137 0,oM 138 11,oM 139 0,oM 140 11,o 141 (.iad z (.t 139) (.t 140)),o 142 (.ld g z (.t 141)),oM 143 0,oM 144 10,o 145 (.iad z (.t 143) (.t 144)),o 146 (.ld g z (.t 145))] [o 147 (.iad z (.t 135) (.t 136)),on (.st z (.t 147) (.t 142)),o 148 (.iad z (.t 137) (.t 138)),on (.st z (.t 148) (.t 146))] (rg [oM 149 10,oZ 150 149 1,oM 10 150] (.reg [oM 151 11,oE 152 .sub 151 1,oM 11 152])))))))) (dw [oM 153 0,oM 154 11,oM 155 0,oM 156 1,oM 157 0,oM 158 1,o 159 (.iad z (.t 157) (.t 158)),o 160 (.ld g z (.t 159)),oM 161 0,oM 162 11,o 163 (.iad z (.t 161) (.t 162)),o 164 (.ld g z (.t 163))] [o 165 (.iad z (.t 153) (.t 154)),on (.st z (.t 165) (.t 160)),o 166 (.iad z (.t 155) (.t 156)),on (.st z (.t 166) (.t 164))] (rg [oM 167 11,oM 8 167,oV 9 kf] .ret))))))))))))⟩
def Hh (z:Nat) (g:Bool) (q:SN):Fn1:=⟨90,[.t 10],(rg [oV 10 (ki 0)] (dw [oM 13 0,oM 14 1,oM 15 0,oM 16 3,oM 17 0,oM 18 3,o 19 (.iad z (.t 17) (.t 18)),o 20 (.ld g z (.t 19)),oM 21 0,oM 22 1,o 23 (.iad z (.t 21) (.t 22)),o 24 (.ld g z (.t 23))] [o 25 (.iad z (.t 13) (.t 14)),on (.st z (.t 25) (.t 20)),o 26 (.iad z (.t 15) (.t 16)),on (.st z (.t 26) (.t 24))] (rg [oM 27 1,oZ 28 27 1,oM 29 2,oE 30 .sub 29 1,oM 11 28,oM 12 30] (.seq (oH 0 (.blk 1 (.seq (oH 2 (.seq (dw [oM 31 11,oM 32 12,oB 33 .leq 31 32,oM 34 33,jM 35 34 4,jM 36 34 0,jM 37 34 1,og 38 34 true (.iad z (.t 36) (.t 37)),og 39 34 true (.ld g z (.t 38)),jM 40 34 0,jM 41 34 11,og 42 34 true (.iad z (.t 40) (.t 41)),og 43 34 true (.ld g z (.t 42))] [og 44 34 true (.callv (.t 35) (oT [39,43])),jE 45 34 .lss 44 0,jU 46 34 45,oQ 47 34 46] (oJ 47 2)) (.blk 3 (.reg [oM 48 11,oZ 49 48 1,oM 11 49])))) (.seq (oH 4 (.seq (dw [oM 50 11,oM 51 12,oB 52 .leq 50 51,oM 53 52,jM 54 53 4,jM 55 53 0,jM 56 53 1,og 57 53 true (.iad z (.t 55) (.t 56)),og 58 53 true (.ld g z (.t 57)),jM 59 53 0,jM 60 53 12,og 61 53 true (.iad z (.t 59) (.t 60)),og 62 53 true (.ld g z (.t 61))] [og 63 53 true (.callv (.t 54) (oT [58,62])),jE 64 53 .lss 63 0,oQ 65 53 64] (oJ 65 4)) (.blk 5 (.reg [oM 66 12,oE 67 .sub 66 1,oM 12 67])))) (.seq (rg [oM 68 11,oM 69 12,oB 70 .gtr 68 69] (oG 70 (.ext 0))) (dw [oM 71 0,oM 72 11,oM 73 0,oM 74 12,oM 75 0,oM 76 12,o 77 (.iad z (.t 75) (.t 76)),o 78 (.ld g z (.t 77)),oM 79 0,oM 80 11,o 81 (.iad z (.t 79) (.t 80)),o 82 (.ld g z (.t 81))] [o 83 (.iad z (.t 71) (.t 72)),on (.st z (.t 83) (.t 78)),o 84 (.iad z (.t 73) (.t 74)),on (.st z (.t 84) (.t 82))] (rg [oM 85 11,oZ 86 85 1,oM 11 86] (.reg [oM 87 12,oE 88 .sub 87 1,oM 12 88])))))))) (rg [oM 89 11,oM 10 89] .ret)))))⟩
def Hi (z:Nat) (g:Bool) (q:SN):Fn1:=⟨84,[.t 8],(rg [oV 8 (ki 0)] (dw [oM 11 0,oM 12 1,oM 13 0,oM 14 3,oM 15 0,oM 16 3,o 17 (.iad z (.t 15) (.t 16)),o 18 (.ld g z (.t 17)),oM 19 0,oM 20 1,o 21 (.iad z (.t 19) (.t 20)),o 22 (.ld g z (.t 21))] [o 23 (.iad z (.t 11) (.t 12)),on (.st z (.t 23) (.t 18)),o 24 (.iad z (.t 13) (.t 14)),on (.st z (.t 24) (.t 22))] (rg [oM 25 1,oZ 26 25 1,oM 27 2,oE 28 .sub 27 1,oM 9 26,oM 10 28] (.seq (oH 0 (.blk 1 (.seq (oH 2 (.seq (dw [oM 29 9,oM 30 10,oB 31 .leq 29 30,oM 32 31,jM 33 32 0,jM 34 32 1,og 35 32 true (.iad z (.t 33) (.t 34)),og 36 32 true (.ld g z (.t 35)),jM 37 32 0,jM 38 32 9,og 39 32 true (.iad z (.t 37) (.t 38)),og 40 32 true (.ld g z (.t 39))] [og 41 32 true (.call q.less (oT [36,40])),jU 42 32 41,oQ 43 32 42] (oJ 43 2)) (.blk 3 (.reg [oM 44 9,oZ 45 44 1,oM 9 45])))) (.seq (oH 4 (.seq (dw [oM 46 9,oM 47 10,oB 48 .leq 46 47,oM 49 48,jM 50 49 0,jM 51 49 1,og 52 49 true (.iad z (.t 50) (.t 51)),og 53 49 true (.ld g z (.t 52)),jM 54 49 0,jM 55 49 10,og 56 49 true (.iad z (.t 54) (.t 55)),og 57 49 true (.ld g z (.t 56))] [og 58 49 true (.call q.less (oT [53,57])),oQ 59 49 58] (oJ 59 4)) (.blk 5 (.reg [oM 60 10,oE 61 .sub 60 1,oM 10 61])))) (.seq (rg [oM 62 9,oM 63 10,oB 64 .gtr 62 63] (oG 64 (.ext 0))) (dw [oM 65 0,oM 66 9,oM 67 0,oM 68 10,oM 69 0,oM 70 10,o 71 (.iad z (.t 69) (.t 70)),o 72 (.ld g z (.t 71)),oM 73 0,oM 74 9,o 75 (.iad z (.t 73) (.t 74)),o 76 (.ld g z (.t 75))] [o 77 (.iad z (.t 65) (.t 66)),on (.st z (.t 77) (.t 72)),o 78 (.iad z (.t 67) (.t 68)),on (.st z (.t 78) (.t 76))] (rg [oM 79 9,oZ 80 79 1,oM 9 80] (.reg [oM 81 10,oE 82 .sub 81 1,oM 10 82])))))))) (rg [oM 83 9,oM 8 83] .ret)))))⟩
def M5 (z:Nat) (g:Bool) (q:SN):Fn1:=⟨148,[],(rg [oV 10 kt] (rg [oV 11 kt] (oH 0 (.blk 1 (rg [oM 21 2,oM 22 1,oB 23 .sub 21 22,oM 12 23] (.seq (rg [oM 24 12,oE 25 .leq 24 12] (oG 25 (rg [oM 26 0,oM 27 1,oM 28 2,oM 29 4,o 30 (.call q.insertionSort (oT [26,27,28,29]))] .ret))) (.seq (rg [oM 31 3,oE 32 .eql 31 0] (oG 32 (rg [oM 33 0,oM 34 1,oM 35 2,oM 36 4,o 37 (.call q.heapSort (oT [33,34,35,36]))] .ret))) (.seq (rg [oM 38 10,oU 39 38] (oG 39 (rg [oM 40 0,oM 41 1,oM 42 2,oM 43 4,o 44 (.call q.breakPatterns (oT [40,41,42,43]))] (.reg [oM 45 3,oE 46 .sub 45 1,oM 3 46])))) (rg [oM 48 0,oM 49 1,oM 50 2,oM 51 4,o 52 (.call q.choosePivot (oT [48,49,50,51])),oM 47 52,o 53 (.ext 0 (.t 47)),o 54 (.ext 1 (.t 47)),oM 13 53,oM 14 54] (.seq (rg [oM 55 14,oE 56 .eql 55 2] (oG 56 (rg [oM 57 0,oM 58 1,oM 59 2,oM 60 4,o 61 (.call q.reverseRange (oT [57,58,59,60]))] (rg [oM 62 2,oE 63 .sub 62 1,oM 64 13,oM 65 1,oB 66 .sub 64 65,oB 67 .sub 63 66,oM 13 67] (.reg [oV 14 (ki 1)]))))) (.seq (rg [oM 68 10,oM 69 68,jM 70 69 11,oQ 71 69 70,oM 72 71,jM 73 72 14,jE 74 72 .eql 73 1,oQ 75 72 74] (oG 75 (rg [oM 76 0,oM 77 1,oM 78 2,oM 79 4,o 80 (.call q.partialInsertionSort (oT [76,77,78,79]))] (oG 80 .ret)))) (.seq (dw [oM 81 1,oE 82 .gtr 81 0,oM 83 82,jM 84 83 4,jM 85 83 0,jM 86 83 1,jE 87 83 .sub 86 1,og 88 83 true (.iad z (.t 85) (.t 87)),og 89 83 true (.ld g z (.t 88)),jM 90 83 0,jM 91 83 13,og 92 83 true (.iad z (.t 90) (.t 91)),og 93 83 true (.ld g z (.t 92))] [og 94 83 true (.callv (.t 84) (oT [89,93])),jE 95 83 .lss 94 0,jU 96 83 95,oQ 97 83 96] (oG 97 (rg [oM 98 0,oM 99 1,oM 100 2,oM 101 13,oM 102 4,o 103 (.call q.partitionEqual (oT [98,99,100,101,102])),oM 15 103] (rg [oM 104 15,oM 1 104] (.ext 1))))) (rg [oM 106 0,oM 107 1,oM 108 2,oM 109 13,oM 110 4,o 111 (.call q.partition (oT [106,107,108,109,110])),oM 105 111,o 112 (.ext 0 (.t 105)),o 113 (.ext 1 (.t 105)),oM 16 112,oM 17 113] (rg [oM 114 17,oM 11 114] (rg [oM 115 16,oM 116 1,oB 117 .sub 115 116,oM 118 2,oM 119 16,oB 120 .sub 118 119,oM 18 117,oM 19 120] (rg [oM 121 12,oE 122 .quo 121 8,oM 20 122] (rg [oM 123 18,oM 124 19,oB 125 .lss 123 124] (cn 125 (rg [oM 126 18,oM 127 20,oB 128 .geq 126 127,oM 10 128] (rg [oM 129 0,oM 130 1,oM 131 16,oM 132 3,oM 133 4,o 134 (.call q.pdqsort (oT [129,130,131,132,133]))] (.reg [oM 135 16,oZ 136 135 1,oM 1 136]))) (rg [oM 137 19,oM 138 20,oB 139 .geq 137 138,oM 10 139] (rg [oM 140 0,oM 141 16,oZ 142 141 1,oM 143 2,oM 144 3,oM 145 4,o 146 (.call q.pdqsort (oT [140,142,143,144,145]))] (.reg [oM 147 16,oM 2 147])))))))))))))))))))))⟩
def M6 (z:Nat) (g:Bool) (q:SN):Fn1:=⟨134,[],(rg [oV 8 kt] (rg [oV 9 kt] (oH 0 (.blk 1 (rg [oM 19 2,oM 20 1,oB 21 .sub 19 20,oM 10 21] (.seq (rg [oM 22 10,oE 23 .leq 22 12] (oG 23 (rg [oM 24 0,oM 25 1,oM 26 2,o 27 (.call q.insertionSort (oT [24,25,26]))] .ret))) (.seq (rg [oM 28 3,oE 29 .eql 28 0] (oG 29 (rg [oM 30 0,oM 31 1,oM 32 2,o 33 (.call q.heapSort (oT [30,31,32]))] .ret))) (.seq (rg [oM 34 8,oU 35 34] (oG 35 (rg [oM 36 0,oM 37 1,oM 38 2,o 39 (.call q.breakPatterns (oT [36,37,38]))] (.reg [oM 40 3,oE 41 .sub 40 1,oM 3 41])))) (rg [oM 43 0,oM 44 1,oM 45 2,o 46 (.call q.choosePivot (oT [43,44,45])),oM 42 46,o 47 (.ext 0 (.t 42)),o 48 (.ext 1 (.t 42)),oM 11 47,oM 12 48] (.seq (rg [oM 49 12,oE 50 .eql 49 2] (oG 50 (rg [oM 51 0,oM 52 1,oM 53 2,o 54 (.call q.reverseRange (oT [51,52,53]))] (rg [oM 55 2,oE 56 .sub 55 1,oM 57 11,oM 58 1,oB 59 .sub 57 58,oB 60 .sub 56 59,oM 11 60] (.reg [oV 12 (ki 1)]))))) (.seq (rg [oM 61 8,oM 62 61,jM 63 62 9,oQ 64 62 63,oM 65 64,jM 66 65 12,jE 67 65 .eql 66 1,oQ 68 65 67] (oG 68 (rg [oM 69 0,oM 70 1,oM 71 2,o 72 (.call q.partialInsertionSort (oT [69,70,71]))] (oG 72 .ret)))) (.seq (dw [oM 73 1,oE 74 .gtr 73 0,oM 75 74,jM 76 75 0,jM 77 75 1,jE 78 75 .sub 77 1,og 79 75 true (.iad z (.t 76) (.t 78)),og 80 75 true (.ld g z (.t 79)),jM 81 75 0,jM 82 75 11,og 83 75 true (.iad z (.t 81) (.t 82)),og 84 75 true (.ld g z (.t 83))] [og 85 75 true (.call q.less (oT [80,84])),jU 86 75 85,oQ 87 75 86] (oG 87 (rg [oM 88 0,oM 89 1,oM 90 2,oM 91 11,o 92 (.call q.partitionEqual (oT [88,89,90,91])),oM 13 92] (rg [oM 93 13,oM 1 93] (.ext 1))))) (rg [oM 95 0,oM 96 1,oM 97 2,oM 98 11,o 99 (.call q.partition (oT [95,96,97,98])),oM 94 99,o 100 (.ext 0 (.t 94)),o 101 (.ext 1 (.t 94)),oM 14 100,oM 15 101] (rg [oM 102 15,oM 9 102] (rg [oM 103 14,oM 104 1,oB 105 .sub 103 104,oM 106 2,oM 107 14,oB 108 .sub 106 107,oM 16 105,oM 17 108] (rg [oM 109 10,oE 110 .quo 109 8,oM 18 110] (rg [oM 111 16,oM 112 17,oB 113 .lss 111 112] (cn 113 (rg [oM 114 16,oM 115 18,oB 116 .geq 114 115,oM 8 116] (rg [oM 117 0,oM 118 1,oM 119 14,oM 120 3,o 121 (.call q.pdqsort (oT [117,118,119,120]))] (.reg [oM 122 14,oZ 123 122 1,oM 1 123]))) (rg [oM 124 17,oM 125 18,oB 126 .geq 124 125,oM 8 126] (rg [oM 127 0,oM 128 14,oZ 129 128 1,oM 130 2,oM 131 3,o 132 (.call q.pdqsort (oT [127,129,130,131]))] (.reg [oM 133 14,oM 2 133])))))))))))))))))))))⟩
def J8 (z:Nat) (g:Bool) (q:SN):Fn1:=⟨34,[],(rg [oM 10 1,oM 8 10] (rg [oM 11 2,oE 12 .sub 11 1,oM 9 12] (oH 0 (.seq (rg [oM 13 8,oM 14 9,oB 15 .lss 13 14] (oJ 15 0)) (.blk 1 (dw [oM 16 0,oM 17 8,oM 18 0,oM 19 9,oM 20 0,oM 21 9,o 22 (.iad z (.t 20) (.t 21)),o 23 (.ld g z (.t 22)),oM 24 0,oM 25 8,o 26 (.iad z (.t 24) (.t 25)),o 27 (.ld g z (.t 26))] [o 28 (.iad z (.t 16) (.t 17)),on (.st z (.t 28) (.t 23)),o 29 (.iad z (.t 18) (.t 19)),on (.st z (.t 29) (.t 27))] (rg [oM 30 8,oZ 31 30 1,oM 8 31] (.reg [oM 32 9,oE 33 .sub 32 1,oM 9 33]))))))))⟩
def J9 (z:Nat) (g:Bool) (q:SN):Fn1:=⟨32,[],(rg [oM 8 1,oM 6 8] (rg [oM 9 2,oE 10 .sub 9 1,oM 7 10] (oH 0 (.seq (rg [oM 11 6,oM 12 7,oB 13 .lss 11 12] (oJ 13 0)) (.blk 1 (dw [oM 14 0,oM 15 6,oM 16 0,oM 17 7,oM 18 0,oM 19 7,o 20 (.iad z (.t 18) (.t 19)),o 21 (.ld g z (.t 20)),oM 22 0,oM 23 6,o 24 (.iad z (.t 22) (.t 23)),o 25 (.ld g z (.t 24))] [o 26 (.iad z (.t 14) (.t 15)),on (.st z (.t 26) (.t 21)),o 27 (.iad z (.t 16) (.t 17)),on (.st z (.t 27) (.t 25))] (rg [oM 28 6,oZ 29 28 1,oM 6 29] (.reg [oM 30 7,oE 31 .sub 30 1,oM 7 31]))))))))⟩
def S7 (z:Nat) (g:Bool) (q:SN):Fn1:=⟨82,[],(rg [oM 12 1,oM 10 12] (oH 0 (.blk 1 (rg [oM 13 10,o 14 (.bin .mul (ki 2) (.t 13)),oZ 15 14 1,oM 11 15] (.seq (rg [oM 16 11,oM 17 2,oB 18 .geq 16 17] (oG 18 (.ext 0))) (.seq (dw [oM 19 11,oZ 20 19 1,oM 21 2,oB 22 .lss 20 21,oM 23 22,jM 24 23 4,jM 25 23 0,jM 26 23 3,jM 27 23 11,jB 28 23 .add 26 27,og 29 23 true (.iad z (.t 25) (.t 28)),og 30 23 true (.ld g z (.t 29)),jM 31 23 0,jM 32 23 3,jM 33 23 11,jB 34 23 .add 32 33,jE 35 23 .add 34 1,og 36 23 true (.iad z (.t 31) (.t 35)),og 37 23 true (.ld g z (.t 36))] [og 38 23 true (.callv (.t 24) (oT [30,37])),jE 39 23 .lss 38 0,oQ 40 23 39] (oG 40 (.reg [oM 41 11,oZ 42 41 1,oM 11 42]))) (.seq (dw [oM 43 4,oM 44 0,oM 45 3,oM 46 10,oB 47 .add 45 46,o 48 (.iad z (.t 44) (.t 47)),o 49 (.ld g z (.t 48)),oM 50 0,oM 51 3,oM 52 11,oB 53 .add 51 52,o 54 (.iad z (.t 50) (.t 53)),o 55 (.ld g z (.t 54))] [o 56 (.callv (.t 43) (oT [49,55])),oE 57 .lss 56 0,oU 58 57] (oG 58 .ret)) (dw [oM 59 0,oM 60 3,oM 61 10,oB 62 .add 60 61,oM 63 0,oM 64 3,oM 65 11,oB 66 .add 64 65,oM 67 0,oM 68 3,oM 69 11,oB 70 .add 68 69,o 71 (.iad z (.t 67) (.t 70)),o 72 (.ld g z (.t 71)),oM 73 0,oM 74 3,oM 75 10,oB 76 .add 74 75,o 77 (.iad z (.t 73) (.t 76)),o 78 (.ld g z (.t 77))] [o 79 (.iad z (.t 59) (.t 62)),on (.st z (.t 79) (.t 72)),o 80 (.iad z (.t 63) (.t 66)),on (.st z (.t 80) (.t 78))] (.reg [oM 81 11,oM 10 81])))))))))⟩
def S8 (z:Nat) (g:Bool) (q:SN):Fn1:=⟨76,[],(rg [oM 10 1,oM 8 10] (oH 0 (.blk 1 (rg [oM 11 8,o 12 (.bin .mul (ki 2) (.t 11)),oZ 13 12 1,oM 9 13] (.seq (rg [oM 14 9,oM 15 2,oB 16 .geq 14 15] (oG 16 (.ext 0))) (.seq (dw [oM 17 9,oZ 18 17 1,oM 19 2,oB 20 .lss 18 19,oM 21 20,jM 22 21 0,jM 23 21 3,jM 24 21 9,jB 25 21 .add 23 24,og 26 21 true (.iad z (.t 22) (.t 25)),og 27 21 true (.ld g z (.t 26)),jM 28 21 0,jM 29 21 3,jM 30 21 9,jB 31 21 .add 29 30,jE 32 21 .add 31 1,og 33 21 true (.iad z (.t 28) (.t 32)),og 34 21 true (.ld g z (.t 33))] [og 35 21 true (.call q.less (oT [27,34])),oQ 36 21 35] (oG 36 (.reg [oM 37 9,oZ 38 37 1,oM 9 38]))) (.seq (dw [oM 39 0,oM 40 3,oM 41 8,oB 42 .add 40 41,o 43 (.iad z (.t 39) (.t 42)),o 44 (.ld g z (.t 43)),oM 45 0,oM 46 3,oM 47 9,oB 48 .add 46 47,o 49 (.iad z (.t 45) (.t 48)),o 50 (.ld g z (.t 49))] [o 51 (.call q.less (oT [44,50])),oU 52 51] (oG 52 .ret)) (dw [oM 53 0,oM 54 3,oM 55 8,oB 56 .add 54 55,oM 57 0,oM 58 3,oM 59 9,oB 60 .add 58 59,oM 61 0,oM 62 3,oM 63 9,oB 64 .add 62 63,o 65 (.iad z (.t 61) (.t 64)),o 66 (.ld g z (.t 65)),oM 67 0,oM 68 3,oM 69 8,oB 70 .add 68 69,o 71 (.iad z (.t 67) (.t 70)),o 72 (.ld g z (.t 71))] [o 73 (.iad z (.t 53) (.t 56)),on (.st z (.t 73) (.t 66)),o 74 (.iad z (.t 57) (.t 60)),on (.st z (.t 74) (.t 72))] (.reg [oM 75 9,oM 8 75])))))))))⟩
def P1 (z:Nat) (g:Bool) (ze:List GV):Fn1:=⟨61,[.t 2],(rg [o 2 (.mov (.k .nilS))] (.seq (rg [oM 6 0,oN 7 6,oE 8 .lss 7 2] (oG 8 (rg [oM 9 0,oM 2 9] .ret))) (.seq (rg [oV 3 (ki 1)] (oH 0 (.seq (rg [oM 10 3,oM 11 0,oN 12 11,oB 13 .lss 10 12] (oJ 13 0)) (.seq (.blk 1 (dw [oM 16 0,oM 17 3,o 18 (.iad z (.t 16) (.t 17)),o 19 (.ld g z (.t 18)),oM 20 0,oM 21 3,oE 22 .sub 21 1,o 23 (.iad z (.t 20) (.t 22)),o 24 (.ld g z (.t 23))] [oB 25 .eql 19 24] (oG 25 (rg [oM 26 0,oM 27 3,o 28 (.cut z (.t 26) (some (.t 27)) none),oM 4 28] (.seq (rg [oV 5 (ki 1)] (oH 2 (.seq (rg [oM 29 5,oM 30 4,oN 31 30,oB 32 .lss 29 31] (oJ 32 2)) (.seq (.blk 3 (dw [oM 35 4,oM 36 5,o 37 (.iad z (.t 35) (.t 36)),o 38 (.ld g z (.t 37)),oM 39 4,oM 40 5,oE 41 .sub 40 1,o 42 (.iad z (.t 39) (.t 41)),o 43 (.ld g z (.t 42))] [oB 44 .neq 38 43] (oG 44 (rg [oM 45 0,oM 46 3,oM 47 4,oM 48 5,o 49 (.iad z (.t 47) (.t 48)),o 50 (.ld g z (.t 49)),o 51 (.iad z (.t 45) (.t 46)),on (.st z (.t 51) (.t 50))] (.reg [oM 52 3,oZ 53 52 1,oM 3 53]))))) (.reg [oM 33 5,oZ 34 33 1,oM 5 34]))))) (rg [oM 54 0,oM 55 3,o 56 (.cut z (.t 54) (some (.t 55)) none),on (.clr z ze (.t 56))] (rg [oM 57 0,oM 58 3,o 59 (.cut z (.t 57) none (some (.t 58))),oM 2 59] .ret))))))) (.reg [oM 14 3,oZ 15 14 1,oM 3 15]))))) (rg [oM 60 0,oM 2 60] .ret))))⟩
def Ad9 (z:Nat) (g:Bool) (q:SN):Fn1:=⟨11,[],(rg [oM 3 0,oN 4 3,oM 2 4] (.reg [oM 5 0,oM 6 2,oM 7 2,o 8 (.cvi .u64 (.t 7)),o 9 (.call 130 [(.t 8)]),o 10 (.call q.pdqsort [(.t 5),(ki 0),(.t 6),(.t 9)])]))⟩
def Ada (z:Nat) (g:Bool) (q:SN):Fn1:=⟨14,[],(rg [oM 5 0,oN 6 5,oM 4 6] (.reg [oM 7 0,oM 8 4,oM 9 4,o 10 (.cvi .u64 (.t 9)),o 11 (.call 130 [(.t 10)]),oM 12 1,o 13 (.call q.pdqsort [(.t 7),(ki 0),(.t 8),(.t 11),(.t 12)])]))⟩
structure SrtO (Y:Type) [Inhabited Y] (lt:Y->Y->Bool) where
 e:El Y
 q:SN
 call:∀ U x y,Ret Tryz.prog q.less [e.val x,e.val y] U (.bool (lt x y)) U
 h_insertionSort:A2 Tryz.prog q.insertionSort=some (Ih e.p.z e.g q)
 h_siftDown:A2 Tryz.prog q.siftDown=some (S8 e.p.z e.g q)
 h_heapSort:A2 Tryz.prog q.heapSort=some (S6 e.p.z e.g q)
 h_reverseRange:A2 Tryz.prog q.reverseRange=some (J9 e.p.z e.g q)
 h_partialInsertionSort:A2 Tryz.prog q.partialInsertionSort=some (Ea e.p.z e.g q)
 h_partitionEqual:A2 Tryz.prog q.partitionEqual=some (Hi e.p.z e.g q)
 h_partition:A2 Tryz.prog q.partition=some (Oz e.p.z e.g q)
 h_breakPatterns:A2 Tryz.prog q.breakPatterns=some (Ff e.p.z e.g q)
 h_order2:A2 Tryz.prog q.order2=some (A3h e.p.z e.g q)
 h_median:A2 Tryz.prog q.median=some (A3f e.p.z e.g q)
 h_medianAdjacent:A2 Tryz.prog q.medianAdjacent=some (Hg e.p.z e.g q)
 h_choosePivot:A2 Tryz.prog q.choosePivot=some (Et e.p.z e.g q)
 h_pdqsort:A2 Tryz.prog q.pdqsort=some (M6 e.p.z e.g q)
 nS:Nat
 h_Sort:A2 Tryz.prog nS=some (Ad9 e.p.z e.g q)
 hnp:q.slices_nextPowerOfTwo=257
 hxs:q.slices_xorshift_Next=258
structure SrtC (Y:Type) [Inhabited Y] (lt:Y->Y->Bool) where
 e:El Y
 q:SN
 f:Nat
 k:Y->Y->Int
 call:∀ U x y,Ret Tryz.prog f [e.val x,e.val y] U (gi (k x y)) U
 klt:∀ x y,decide (k x y<0)=lt x y
 h_insertionSort:A2 Tryz.prog q.insertionSort=some (Ig e.p.z e.g q)
 h_siftDown:A2 Tryz.prog q.siftDown=some (S7 e.p.z e.g q)
 h_heapSort:A2 Tryz.prog q.heapSort=some (S5 e.p.z e.g q)
 h_reverseRange:A2 Tryz.prog q.reverseRange=some (J8 e.p.z e.g q)
 h_partialInsertionSort:A2 Tryz.prog q.partialInsertionSort=some (E9 e.p.z e.g q)
 h_partitionEqual:A2 Tryz.prog q.partitionEqual=some (Hh e.p.z e.g q)
 h_partition:A2 Tryz.prog q.partition=some (Oy e.p.z e.g q)
 h_breakPatterns:A2 Tryz.prog q.breakPatterns=some (Fe e.p.z e.g q)
 h_order2:A2 Tryz.prog q.order2=some (A3g e.p.z e.g q)
 h_median:A2 Tryz.prog q.median=some (A3e e.p.z e.g q)
 h_medianAdjacent:A2 Tryz.prog q.medianAdjacent=some (Hf e.p.z e.g q)
 h_choosePivot:A2 Tryz.prog q.choosePivot=some (Es e.p.z e.g q)
 h_pdqsort:A2 Tryz.prog q.pdqsort=some (M5 e.p.z e.g q)
 nS:Nat
 h_Sort:A2 Tryz.prog nS=some (Ada e.p.z e.g q)
 hnp:q.slices_nextPowerOfTwo=257
 hxs:q.slices_xorshift_Next=258
namespace C
open Go Go.RowKit Go.Proofs.YtckobfochhjmdaaGreatDoor.Sy Go.Sort
variable {Y:Type} [Inhabited Y] {lt:Y->Y->Bool} {U0 U:St} {rs:List Thg} {k:Nat} {v:GV} {d:Array Y}
theorem ins_ret (S:SrtC Y lt) (H:Holds S.e U0 U rs k v d) {a b:Nat} (hab:a<=b) (hb:b<=d.size) (hs:d.size<=1099511627776):∃ N,Ret Tryz.prog S.q.insertionSort [v,gi a,gi b,.fn S.f []] U (.tup []) N/\Holds S.e U0 N rs k v (insertionSort lt d a b):=by
 have key:∃ r N,Ret Tryz.prog S.q.insertionSort [v,gi a,gi b,.fn S.f []] U r N/\r= .tup []/\Holds S.e U0 N rs k v (insertionSort lt d a b):=by
  refine Au S.h_insertionSort (Z0z rfl) ?_
  simp +contextual (disch:=omega) only[go_sem,Ig]
  refine Br (fun n env N=>∃(i:Nat) (D:Array Y),env 0=v/\env 1=gi a/\env 2=gi b/\env 3= .fn S.f []/\env 8=gi i/\b - i=n/\a<i/\D.size=d.size/\U.length<=N.length/\Holds S.e U0 N rs k v D/\insOuter lt a b i D=insertionSort lt d a b) (b - (a+1)) ⟨a+1,d,rfl,rfl,rfl,rfl,rfl,rfl,by omega,rfl,Zaa _,H,rfl⟩ ?_
  rintro J hJ n env N ⟨i,D,e0,e1,e2,e3,ei,hn,hai,hD,hle,hH,hE⟩
  rw[insOuter] at hE
  rcases Zad i b with hi|hi
  ·rw[if_pos hi] at hE
   have c0:decide ((i:Int)<b)=true:=by simp;omega
   simp +contextual (disch:=omega) only[go_sem,e0,e1,e2,e3,ei,c0]
   refine Br (fun n env N=>∃(j:Nat) (E:Array Y),env 0=v/\env 1=gi a/\env 2=gi b/\env 3= .fn S.f []/\env 8=gi i/\env 9=gi j/\j=n/\j<=i/\E.size=d.size/\U.length<=N.length/\Holds S.e U0 N rs k v E/\insInner lt a j E=insInner lt a i D) i ⟨i,D,by simp +contextual (disch:=omega) only[go_sem,e0],by simp +contextual (disch:=omega) only[go_sem,e1],by simp +contextual (disch:=omega) only[go_sem,e2],by simp +contextual (disch:=omega) only[go_sem,e3],by simp +contextual (disch:=omega) only[go_sem,ei],rfl,rfl,Zaa _,hD,hle,hH,rfl⟩ ?_
   clear hH hle e0 e1 e2 e3 ei
   rintro J2 hJ2 n2 env N ⟨j,E,e0,e1,e2,e3,ei,ej,hnj,hji,hE2,hle,hH,hI⟩
   have fin:∀ env',env' 0=v->env' 1=gi a->env' 2=gi b->env' 3= .fn S.f []->env' 8=gi ((i:Int)+1)->insInner lt a i D=E->∃ k',k'<n/\J k' env' N:=fun env' h0 h1 h2 h3 h6 hEq=>⟨b - (i+1),by omega,hJ _ _ _ ⟨i+1,E,h0,h1,h2,h3,h6,rfl,by omega,hE2,hle,hH,by rw[<- hEq];exact hE⟩⟩
   have cj:decide ((a:Int)<j)=decide (a<j):=by simp
   by_cases hc:a<j
   ·obtain⟨m,rfl⟩:∃ m,j=m+1:=⟨j - 1,by omega⟩
    rw[decide_eq_true hc] at cj
    have cj:decide ((a:Int)<(m:Int)+1)=true:=cj
    have n1:Bb (some (.int .i64 ((m:Int)+1)))=some (m+1):=B6 (by simp)
    have m1:(m:Int)+1 - 1=m:=by omega
    obtain⟨N1,N2,s1,s2,hH2,hl2⟩:=hH.sw (a:=m+1) (b:=m) (by omega) (by omega)
    rw[insInner] at hI
    simp +contextual (disch:=omega) only[go_sem,e0,e1,e2,e3,ei,ej,cj,n1,m1,A1,hH.iad (j:=m+1) (by omega),hH.ld (j:=m+1) (by omega),hH.iad (j:=m) (by omega),hH.ld (j:=m) (by omega)]
    refine A5 (S.call _ _ _) ?_
    cases hl:lt E[m+1]! E[m]! with
    |true=>
     rw[if_pos (by simp[hl];omega)] at hI
     simp +contextual (disch:=omega) only[go_sem,e0,e1,e2,e3,ei,ej,cj,n1,m1,A1,hl,S.klt,hH.iad (j:=m+1) (by omega),hH.ld (j:=m+1) (by omega),hH.iad (j:=m) (by omega),hH.ld (j:=m) (by omega),s1,s2]
     refine⟨m,by omega,hJ2 _ _ _ ⟨m,swp E (m+1) m,?_,?_,?_,?_,?_,?_,rfl,by omega,by rw[Go.Sort.swp_size];exact hE2,by omega,hH2,hI⟩⟩
     all_goals simp +contextual (disch:=omega) only[go_sem,e0,e1,e2,e3,ei,ej,m1]
    |false=>
     rw[if_neg (by simp[hl])] at hI
     simp +contextual (disch:=omega) only[go_sem,e0,e1,e2,e3,ei,ej,cj,hl,S.klt]
     refine fin _ ?_ ?_ ?_ ?_ ?_ hI.symm
     all_goals simp +contextual (disch:=omega) only[go_sem,e0,e1,e2,e3,ei]
   ·rw[decide_eq_false hc] at cj
    have hI:insInner lt a i D=E:=by
     rw[<- hI]
     cases j with
     |zero=>rfl
     |succ j=>rw[insInner,if_neg (by simp;intro h;omega)]
    simp +contextual (disch:=omega) only[go_sem,e0,e1,e2,e3,ei,ej,cj]
    refine fin _ ?_ ?_ ?_ ?_ ?_ hI
    all_goals simp +contextual (disch:=omega) only[go_sem,e0,e1,e2,e3,ei]
  ·rw[if_neg (by omega)] at hE
   have c0:decide ((i:Int)<b)=false:=by simp;omega
   simp +contextual (disch:=omega) only[go_sem,e0,e1,e2,e3,ei,c0]
   exact⟨_,rfl,hle,rfl,by rw[<- hE];exact hH⟩
 obtain⟨r,N,R,rfl,h⟩:=key
 exact⟨N,R,h⟩
end C
namespace C
open Go Go.RowKit Go.Proofs.YtckobfochhjmdaaGreatDoor.Sy Go.Sort
variable {Y:Type} [Inhabited Y] {lt:Y->Y->Bool} {U0 U:St} {rs:List Thg} {k:Nat} {v:GV} {d:Array Y}
theorem siftDown_size (lt:Y->Y->Bool) (hi F:Nat):∀(n root:Nat) (d:Array Y),hi - root<=n->(siftDown lt hi F root d).size=d.size
 |0,root,d,h=>by rw[siftDown,dif_pos (by omega)]
 |n+1,root,d,h=>by
  rw[siftDown]
  split
  ·rfl
  ·split
   ·split
    ·rfl
    ·split
     ·rw[siftDown_size lt hi F n _ _ (by omega),Go.Sort.swp_size]
     ·rfl
   ·split
    ·rfl
    ·rw[siftDown_size lt hi F n _ _ (by omega),Go.Sort.swp_size]
theorem sift_ret (S:SrtC Y lt) (H:Holds S.e U0 U rs k v d) {lo hi F:Nat} (hb:F+hi<=d.size) (hlo:lo<=d.size) (hs:d.size<=1099511627776):∃ N,Ret Tryz.prog S.q.siftDown [v,gi lo,gi hi,gi F,.fn S.f []] U (.tup []) N/\Holds S.e U0 N rs k v (siftDown lt hi F lo d):=by
 have key:∃ r N,Ret Tryz.prog S.q.siftDown [v,gi lo,gi hi,gi F,.fn S.f []] U r N/\r= .tup []/\Holds S.e U0 N rs k v (siftDown lt hi F lo d):=by
  refine Au S.h_siftDown (Z0z rfl) ?_
  simp +contextual (disch:=omega) only[go_sem,S7]
  refine Br (fun n env N=>∃(r:Nat) (D:Array Y),env 0=v/\env 1=gi lo/\env 2=gi hi/\env 3=gi F/\env 4= .fn S.f []/\env 10=gi r/\hi - r=n/\r<=d.size/\D.size=d.size/\U.length<=N.length/\Holds S.e U0 N rs k v D/\siftDown lt hi F r D=siftDown lt hi F lo d) (hi - lo) ⟨lo,d,rfl,rfl,rfl,rfl,rfl,rfl,rfl,hlo,rfl,Zaa _,H,rfl⟩ ?_
  rintro J hJ n env N ⟨r,D,e0,e1,e2,e3,e4,er,hn,hr,hD,hle,hH,hE⟩
  rw[siftDown] at hE
  have w2:IntKind.i64.wrap (2*(r:Int))=2*(r:Int):=Ag (by omega) (by omega)
  by_cases h1:2*r+1≥hi
  ·rw[dif_pos h1] at hE
   have c1:decide ((hi:Int)<=2*(r:Int)+1)=true:=by simp;omega
   simp +contextual (disch:=omega) only[go_sem,e0,e1,e2,e3,e4,er,w2,c1]
   exact⟨_,rfl,hle,rfl,by rw[<- hE];exact hH⟩
  ·rw[dif_neg h1] at hE
   have c1:decide ((hi:Int)<=2*(r:Int)+1)=false:=by simp;omega
   have nr:Bb (some (.int .i64 ((F:Int)+r)))=some (F+r):=B6 (by simp)
   have ir:=hH.iad (j:=F+r) (by omega)
   have lr:=hH.ld (j:=F+r) (by omega)
   by_cases hA:2*r+2<hi
   ·have cA:decide (2*(r:Int)+1+1<hi)=true:=by simp;omega
    have nc:Bb (some (.int .i64 ((F:Int)+(2*(r:Int)+1))))=some (F+(2*r+1)):=B6 (by simp)
    have nc2:Bb (some (.int .i64 ((F:Int)+(2*(r:Int)+1)+1)))=some (F+(2*r+1)+1):=B6 (by simp)
    have ic:=hH.iad (j:=F+(2*r+1)) (by omega)
    have lc:=hH.ld (j:=F+(2*r+1)) (by omega)
    have ic2:=hH.iad (j:=F+(2*r+1)+1) (by omega)
    have lc2:=hH.ld (j:=F+(2*r+1)+1) (by omega)
    simp +contextual (disch:=omega) only[go_sem,e0,e1,e2,e3,e4,er,w2,c1,cA,nc,nc2,ic,lc,ic2,lc2]
    refine A5 (S.call _ _ _) ?_
    cases hl1:lt D[F+(2*r+1)]! D[F+(2*r+1)+1]! with
    |true=>
     clear nc ic lc
     rw[if_pos (by simp[hl1];omega)] at hE
     rw[dif_pos hA] at hE
     obtain⟨c,hc⟩:∃ c,c=2*r+2:=⟨_,rfl⟩
     rw[<- hc] at hE
     have ncI:2*(r:Int)+1+1=c:=by omega
     have nc:Bb (some (.int .i64 ((F:Int)+c)))=some (F+c):=B6 (by simp)
     have ic:=hH.iad (j:=F+c) (by omega)
     have lc:=hH.ld (j:=F+c) (by omega)
     simp +contextual (disch:=omega) only[go_sem,e0,e1,e2,e3,e4,er,w2,cA,nr,nc,ncI,hl1,S.klt,ir,lr,ic,lc]
     obtain⟨N1,N2,s1,s2,hH2,hl2⟩:=hH.sw (a:=F+r) (b:=F+c) (by omega) (by omega)
     refine A5 (S.call _ _ _) ?_
     cases hl:lt D[F+r]! D[F+c]! with
     |true=>
      rw[if_neg (by simp[hl])] at hE
      simp +contextual (disch:=omega) only[go_sem,e0,e1,e2,e3,e4,er,w2,c1,cA,nr,nc,ncI,hl,S.klt,ir,lr,ic,lc,s1,s2]
      refine⟨hi - c,by omega,hJ _ _ _ ⟨c,swp D (F+r) (F+c),?_,?_,?_,?_,?_,?_,rfl,by omega,by rw[Go.Sort.swp_size];exact hD,by omega,hH2,hE⟩⟩
      all_goals simp +contextual (disch:=omega) only[go_sem,e0,e1,e2,e3,e4,er,ncI]
     |false=>
      rw[if_pos (by simp[hl])] at hE
      simp +contextual (disch:=omega) only[go_sem,e0,e1,e2,e3,e4,er,hl,S.klt]
      exact⟨_,rfl,hle,rfl,by rw[<- hE];exact hH⟩
    |false=>
     rw[if_neg (by simp[hl1])] at hE
     obtain⟨c,hc⟩:∃ c,c=2*r+1:=⟨_,rfl⟩
     rw[<- hc] at hE ic lc
     have ncI:2*(r:Int)+1=c:=by omega
     rw[<- hc,ncI] at nc
     simp +contextual (disch:=omega) only[go_sem,e0,e1,e2,e3,e4,er,w2,cA,nr,nc,ncI,hl1,S.klt,ir,lr,ic,lc]
     obtain⟨N1,N2,s1,s2,hH2,hl2⟩:=hH.sw (a:=F+r) (b:=F+c) (by omega) (by omega)
     refine A5 (S.call _ _ _) ?_
     cases hl:lt D[F+r]! D[F+c]! with
     |true=>
      rw[if_neg (by simp[hl])] at hE
      simp +contextual (disch:=omega) only[go_sem,e0,e1,e2,e3,e4,er,w2,c1,cA,nr,nc,ncI,hl,S.klt,ir,lr,ic,lc,s1,s2]
      refine⟨hi - c,by omega,hJ _ _ _ ⟨c,swp D (F+r) (F+c),?_,?_,?_,?_,?_,?_,rfl,by omega,by rw[Go.Sort.swp_size];exact hD,by omega,hH2,hE⟩⟩
      all_goals simp +contextual (disch:=omega) only[go_sem,e0,e1,e2,e3,e4,er,ncI]
     |false=>
      rw[if_pos (by simp[hl])] at hE
      simp +contextual (disch:=omega) only[go_sem,e0,e1,e2,e3,e4,er,hl,S.klt]
      exact⟨_,rfl,hle,rfl,by rw[<- hE];exact hH⟩
   ·have cA:decide (2*(r:Int)+1+1<hi)=false:=by simp;omega
    rw[if_neg (by simp;intro h;omega)] at hE
    obtain⟨c,hc⟩:∃ c,c=2*r+1:=⟨_,rfl⟩
    rw[<- hc] at hE
    have ncI:2*(r:Int)+1=c:=by omega
    have nc:Bb (some (.int .i64 ((F:Int)+c)))=some (F+c):=B6 (by simp)
    have ic:=hH.iad (j:=F+c) (by omega)
    have lc:=hH.ld (j:=F+c) (by omega)
    rw[ncI] at c1 cA
    simp +contextual (disch:=omega) only[go_sem,e0,e1,e2,e3,e4,er,w2,c1,cA,nr,nc,ncI,ir,lr,ic,lc]
    obtain⟨N1,N2,s1,s2,hH2,hl2⟩:=hH.sw (a:=F+r) (b:=F+c) (by omega) (by omega)
    refine A5 (S.call _ _ _) ?_
    cases hl:lt D[F+r]! D[F+c]! with
    |true=>
     rw[if_neg (by simp[hl])] at hE
     simp +contextual (disch:=omega) only[go_sem,e0,e1,e2,e3,e4,er,w2,c1,cA,nr,nc,ncI,hl,S.klt,ir,lr,ic,lc,s1,s2]
     refine⟨hi - c,by omega,hJ _ _ _ ⟨c,swp D (F+r) (F+c),?_,?_,?_,?_,?_,?_,rfl,by omega,by rw[Go.Sort.swp_size];exact hD,by omega,hH2,hE⟩⟩
     all_goals simp +contextual (disch:=omega) only[go_sem,e0,e1,e2,e3,e4,er,ncI]
    |false=>
     rw[if_pos (by simp[hl])] at hE
     simp +contextual (disch:=omega) only[go_sem,e0,e1,e2,e3,e4,er,hl,S.klt]
     exact⟨_,rfl,hle,rfl,by rw[<- hE];exact hH⟩
 obtain⟨r,N,R,rfl,h⟩:=key
 exact⟨N,R,h⟩
theorem heap_ret (S:SrtC Y lt) (H:Holds S.e U0 U rs k v d) {a b:Nat} (hab:a<=b) (hb:b<=d.size) (hs:d.size<=1099511627776):∃ N,Ret Tryz.prog S.q.heapSort [v,gi a,gi b,.fn S.f []] U (.tup []) N/\Holds S.e U0 N rs k v (heapSort lt d a b):=by
 have key:∃ r N,Ret Tryz.prog S.q.heapSort [v,gi a,gi b,.fn S.f []] U r N/\r= .tup []/\Holds S.e U0 N rs k v (heapSort lt d a b):=by
  refine Au S.h_heapSort (Z0z rfl) ?_
  obtain⟨h,hh⟩:∃ h,h=b - a:=⟨_,rfl⟩
  have hI:(b:Int) - a=h:=by omega
  have hq:((h:Int) - 1).tdiv 2=(((h - 1) / 2+1:Nat):Int) - 1:=by
   rcases Zaz h with rfl|hp
   ·rfl
   ·have:(h:Int) - 1=((h - 1:Nat):Int):=by omega
    rw[this]
    have h2:((h - 1:Nat):Int).tdiv 2=(((h - 1) / 2:Nat):Int):=rfl
    rw[h2];omega
  obtain⟨M,hM⟩:∃ M,M=(h - 1) / 2+1:=⟨_,rfl⟩
  rw[<- hM] at hq
  have hE:heapSort lt d a b=heapPop lt a h (heapBuild lt h a M d):=by rw[heapSort,hM,hh]
  rw[hE]
  simp +contextual (disch:=omega) only[go_sem,S5,hI,hq]
  refine Br (fun n env N=>∃(m:Nat) (D:Array Y),env 0=v/\env 1=gi a/\env 2=gi b/\env 3= .fn S.f []/\env 8=gi a/\env 9=gi 0/\env 10=gi h/\env 11=gi ((m:Int) - 1)/\m=n/\m<=M/\D.size=d.size/\U.length<=N.length/\Holds S.e U0 N rs k v D/\heapBuild lt h a m D=heapBuild lt h a M d) M ⟨M,d,rfl,rfl,rfl,rfl,rfl,rfl,rfl,rfl,rfl,Zaa _,rfl,Zaa _,H,rfl⟩ ?_
  rintro J hJ n env N ⟨m,D,e0,e1,e2,e3,e6,e7,e8,e9,hn,hm,hD,hle,hH,hE⟩
  cases m with
  |succ j=>
   have e9:env 11=gi (j:Int):=by rw[e9];congr 1;omega
   have c0:decide ((0:Int)<=j)=true:=by simp
   rw[heapBuild] at hE
   simp +contextual (disch:=omega) only[go_sem,e0,e1,e2,e3,e6,e7,e8,e9,c0]
   obtain⟨N1,R,hH1⟩:=sift_ret S hH (lo:=j) (hi:=h) (F:=a) (by omega) (by omega) (by omega)
   have hl1:=R.2.1
   refine Ak R ?_
   simp +contextual (disch:=omega) only[go_sem,e0,e1,e2,e3,e6,e7,e8,e9]
   refine⟨j,by omega,hJ _ _ _ ⟨j,_,?_,?_,?_,?_,?_,?_,?_,?_,rfl,by omega,?_,by omega,hH1,hE⟩⟩
   all_goals first|(simp +contextual (disch:=omega) only[go_sem,e0,e1,e2,e3,e6,e7,e8,e9];done)|(rw [siftDown_size lt h a _ _ _ (Zaa _)];exact hD)
  |zero=>
   have e9:env 11=gi (-1):=e9
   rw[heapBuild] at hE
   simp +contextual (disch:=omega) only[go_sem,e0,e1,e2,e3,e6,e7,e8,e9]
   have c0:decide ((0:Int)<= -1)=false:=rfl
   simp +contextual (disch:=omega) only[go_sem,e0,e1,e2,e3,e6,e7,e8,e9,c0]
   refine Br (fun n env N=>∃(m:Nat) (E:Array Y),env 0=v/\env 1=gi a/\env 2=gi b/\env 3= .fn S.f []/\env 8=gi a/\env 9=gi 0/\env 10=gi h/\env 12=gi ((m:Int) - 1)/\m=n/\m<=h/\E.size=d.size/\U.length<=N.length/\Holds S.e U0 N rs k v E/\heapPop lt a m E=heapPop lt a h (heapBuild lt h a M d)) h ⟨h,D,by simp +contextual (disch:=omega) only[go_sem,e0],by simp +contextual (disch:=omega) only[go_sem,e1],by simp +contextual (disch:=omega) only[go_sem,e2],by simp +contextual (disch:=omega) only[go_sem,e3],by simp +contextual (disch:=omega) only[go_sem,e6],by simp +contextual (disch:=omega) only[go_sem,e7],by simp +contextual (disch:=omega) only[go_sem,e8],rfl,rfl,Zaa _,hD,hle,hH,by rw[hE]⟩ ?_
   clear hH hle e0 e1 e2 e3 e6 e7 e8 e9
   rintro J2 hJ2 n2 env N ⟨m,E,e0,e1,e2,e3,e6,e7,e8,e9,hn2,hm,hE2,hle,hH,hP⟩
   cases m with
   |succ j=>
    have e9:env 12=gi (j:Int):=by rw[e9];congr 1;omega
    have c0:decide ((0:Int)<=j)=true:=by simp
    rw[heapPop] at hP
    have nr:Bb (some (.int .i64 ((a:Int)+j)))=some (a+j):=B6 (by simp)
    obtain⟨N1,N2,s1,s2,hH2,hl2⟩:=hH.sw (a:=a) (b:=a+j) (by omega) (by omega)
    obtain⟨N3,R,hH3⟩:=sift_ret S hH2 (lo:=0) (hi:=j) (F:=a) (by rw[Go.Sort.swp_size];omega) (by omega) (by rw[Go.Sort.swp_size];omega)
    have hl3:=R.2.1
    simp +contextual (disch:=omega) only[go_sem,e0,e1,e2,e3,e6,e7,e8,e9,c0,nr,A1,hH.iad (j:=a) (by omega),hH.ld (j:=a) (by omega),hH.iad (j:=a+j) (by omega),hH.ld (j:=a+j) (by omega),s1,s2]
    refine Ak R ?_
    simp +contextual (disch:=omega) only[go_sem,e0,e1,e2,e3,e6,e7,e8,e9]
    refine⟨j,by omega,hJ2 _ _ _ ⟨j,_,?_,?_,?_,?_,?_,?_,?_,?_,rfl,by omega,?_,by omega,hH3,hP⟩⟩
    all_goals first|(simp +contextual (disch:=omega) only[go_sem,e0,e1,e2,e3,e6,e7,e8,e9];done)|(rw [siftDown_size lt _ a _ _ _ (Zaa _),Go.Sort.swp_size];exact hE2)
   |zero=>
    have e9:env 12=gi (-1):=e9
    rw[heapPop] at hP
    simp +contextual (disch:=omega) only[go_sem,e0,e1,e2,e3,e6,e7,e8,e9,c0]
    exact⟨_,rfl,hle,rfl,by rw[<- hP];exact hH⟩
 obtain⟨r,N,R,rfl,h⟩:=key
 exact⟨N,R,h⟩
theorem rev_ret (S:SrtC Y lt) (H:Holds S.e U0 U rs k v d) {a b:Nat} (hab:a<b) (hb:b<=d.size) (hs:d.size<=1099511627776):∃ N,Ret Tryz.prog S.q.reverseRange [v,gi a,gi b,.fn S.f []] U (.tup []) N/\Holds S.e U0 N rs k v (reverseRange d a b):=by
 have key:∃ r N,Ret Tryz.prog S.q.reverseRange [v,gi a,gi b,.fn S.f []] U r N/\r= .tup []/\Holds S.e U0 N rs k v (reverseRange d a b):=by
  refine Au S.h_reverseRange (Z0z rfl) ?_
  have hbI:(b:Int) - 1=((b - 1:Nat):Int):=by omega
  obtain⟨h,hh⟩:∃ h,h=b - 1:=⟨_,rfl⟩
  have hE:reverseRange d a b=reverseLoop a h d:=by rw[reverseRange,hh]
  rw[hE]
  rw[<- hh] at hbI
  simp +contextual (disch:=omega) only[go_sem,J8,hbI]
  refine Br (fun n env N=>∃(i j:Nat) (D:Array Y),env 0=v/\env 8=gi i/\env 9=gi j/\j - i=n/\a<=i/\i<=d.size/\j<=h/\D.size=d.size/\U.length<=N.length/\Holds S.e U0 N rs k v D/\reverseLoop i j D=reverseLoop a h d) (h - a) ⟨a,h,d,rfl,rfl,rfl,rfl,Zaa _,by omega,Zaa _,rfl,Zaa _,H,rfl⟩ ?_
  rintro J hJ n env N ⟨i,j,D,e0,e6,e7,hn,hi,hi2,hj,hD,hle,hH,hE⟩
  rw[reverseLoop] at hE
  rcases Zad i j with hlt|hge
  ·rw[if_pos hlt] at hE
   have c0:decide ((i:Int)<j)=true:=by simp;omega
   obtain⟨N1,N2,s1,s2,hH2,hl2⟩:=hH.sw (a:=i) (b:=j) (by omega) (by omega)
   have j1:(j:Int) - 1=((j - 1:Nat):Int):=by omega
   simp +contextual (disch:=omega) only[go_sem,e0,e6,e7,c0,A1,hH.iad (j:=i) (by omega),hH.ld (j:=i) (by omega),hH.iad (j:=j) (by omega),hH.ld (j:=j) (by omega),s1,s2]
   refine⟨(j - 1) - (i+1),by omega,hJ _ _ _ ⟨i+1,j - 1,swp D i j,?_,?_,?_,rfl,by omega,by omega,by omega,by rw[Go.Sort.swp_size];exact hD,by omega,hH2,hE⟩⟩
   all_goals simp +contextual (disch:=omega) only[go_sem,e0,e6,e7,j1]
  ·rw[if_neg (by omega)] at hE
   have c0:decide ((i:Int)<j)=false:=by simp;omega
   simp +contextual (disch:=omega) only[go_sem,e0,e6,e7,c0]
   exact⟨_,rfl,hle,rfl,by rw[<- hE];exact hH⟩
 obtain⟨r,N,R,rfl,h⟩:=key
 exact⟨N,R,h⟩
end C
namespace C
open Go Go.RowKit Go.Proofs.YtckobfochhjmdaaGreatDoor.Sy Go.Sort
variable {Y:Type} [Inhabited Y] {lt:Y->Y->Bool} {U0 U:St} {rs:List Thg} {k:Nat} {v:GV} {d:Array Y}
theorem pe_ret (S:SrtC Y lt) (H:Holds S.e U0 U rs k v d) {a b p:Nat} (hab:a<b) (hp:p<b) (hb:b<=d.size) (hs:d.size<=1099511627776):∃ N,Ret Tryz.prog S.q.partitionEqual [v,gi a,gi b,gi p,.fn S.f []] U (gi (partitionEqual lt d a b p).1) N/\Holds S.e U0 N rs k v (partitionEqual lt d a b p).2:=by
 have key:∃ r N,Ret Tryz.prog S.q.partitionEqual [v,gi a,gi b,gi p,.fn S.f []] U r N/\r=gi (partitionEqual lt d a b p).1/\Holds S.e U0 N rs k v (partitionEqual lt d a b p).2:=by
  refine Au S.h_partitionEqual (Z0z rfl) ?_
  obtain⟨N1,N2,s1,s2,hH,hl2⟩:=H.sw (a:=a) (b:=p) (by omega) (by omega)
  obtain⟨h,hh⟩:∃ h,h=b - 1:=⟨_,rfl⟩
  have hbI:(b:Int) - 1=h:=by omega
  have hsz:=Go.Sort.swp_size d a p
  rw[partitionEqual,<-hh]
  obtain⟨D0,hD0⟩:∃ D0,D0=swp d a p:=⟨_,rfl⟩
  rw[<- hD0] at hH hsz
  simp +contextual (disch:=omega) only[go_sem,Hh,hbI,A1,H.iad (j:=a) (by omega),H.ld (j:=a) (by omega),H.iad (j:=p) (by omega),H.ld (j:=p) (by omega),s1,s2]
  rw[<- hD0]
  refine Br (fun n env N=>∃(i j:Nat) (D:Array Y),env 0=v/\env 1=gi a/\env 4= .fn S.f []/\env 11=gi i/\env 12=gi j/\j+1 - i=n/\1<=i/\i<=j+1/\j<b/\D.size=d.size/\U.length<=N.length/\Holds S.e U0 N rs k v D/\partEqLoop lt a i j D=partEqLoop lt a (a+1) h D0) (h+1 - (a+1)) ⟨a+1,h,D0,rfl,rfl,rfl,rfl,rfl,rfl,by omega,by omega,by omega,hsz,by omega,hH,rfl⟩ ?_
  clear hH
  rintro J hJ n env N ⟨i,j,D,e0,e1,e4,e9,e10,hn,hi,hij,hj,hD,hle,hH,hE⟩
  rw[partEqLoop_eq] at hE
  have ia:=hH.iad (j:=a) (by omega)
  have la:=hH.ld (j:=a) (by omega)
  simp +contextual (disch:=omega) only[go_sem]
  refine C8 (fun n env N'=>∃(x:Nat),env 0=v/\env 1=gi a/\env 4= .fn S.f []/\env 11=gi x/\env 12=gi j/\j+1 - x=n/\i<=x/\x<=j+1/\N=N'/\scanUp (fun x=> !lt D[a]! x) D j x=scanUp (fun x=> !lt D[a]! x) D j i) (j+1 - i) 2 (fun env N'=>env 0=v/\env 1=gi a/\env 4= .fn S.f []/\env 11=gi (scanUp (fun x=> !lt D[a]! x) D j i:Nat)/\env 12=gi j/\N=N') ⟨i,e0,e1,e4,e9,e10,rfl,Zaa _,hij,rfl,rfl⟩ ?_ ?_
  ·clear e0 e1 e4 e9 e10
   rintro J2 Yq2 hJ2 hY2 n2 env N' ⟨x,e0,e1,e4,e9,e10,hn2,hx1,hx2,rfl,hU⟩
   rw[scanUp] at hU
   rcases Zad j x with hx|hx
   ·rw[if_neg (by simp;intro h;omega)] at hU
    have c0:decide ((x:Int)<=j)=false:=by simp;omega
    simp +contextual (disch:=omega) only[go_sem,e0,e1,e4,e9,e10,c0]
    refine hY2 _ _ ⟨?_,?_,?_,?_,?_,rfl⟩
    all_goals simp +contextual (disch:=omega) only[go_sem,e0,e1,e4,e9,e10,hU]
   ·have c0:decide ((x:Int)<=j)=true:=by simp;omega
    simp +contextual (disch:=omega) only[go_sem,e0,e1,e4,e9,e10,c0,A1,ia,la,hH.iad (j:=x) (by omega),hH.ld (j:=x) (by omega)]
    refine A5 (S.call _ _ _) ?_
    cases hl:lt D[a]! D[x]! with
    |true=>
     rw[if_neg (by simp[hl])] at hU
     simp +contextual (disch:=omega) only[go_sem,e0,e1,e4,e9,e10,c0,hl,S.klt]
     refine hY2 _ _ ⟨?_,?_,?_,?_,?_,rfl⟩
     all_goals simp +contextual (disch:=omega) only[go_sem,e0,e1,e4,e9,e10,hU]
    |false=>
     rw[if_pos (by simp[hl];omega)] at hU
     simp +contextual (disch:=omega) only[go_sem,e0,e1,e4,e9,e10,c0,hl,S.klt]
     refine⟨j+1 - (x+1),by omega,hJ2 _ _ _ ⟨x+1,?_,?_,?_,?_,?_,rfl,by omega,by omega,rfl,hU⟩⟩
     all_goals simp +contextual (disch:=omega) only[go_sem,e0,e1,e4,e9,e10]
  ·clear e0 e1 e4 e9 e10
   rintro env N' ⟨e0,e1,e4,e9,e10,rfl⟩
   obtain⟨u1,u2,-,u4⟩:=scanUp_spec (fun x=> !lt D[a]! x) D j _ i rfl
   have u2:=u2 hij
   obtain⟨x,hx⟩:∃ x,x=scanUp (fun x=> !lt D[a]! x) D j i:=⟨_,rfl⟩
   rw[<- hx] at hE e9 u1 u2 u4
   simp +contextual (disch:=omega) only[go_sem]
   refine C8 (fun n env N'=>∃(y:Nat),env 0=v/\env 1=gi a/\env 4= .fn S.f []/\env 11=gi x/\env 12=gi y/\y+1=n/\y<=j/\x<=y+1/\N=N'/\scanDown (fun x=>lt D[a]! x) D x y=scanDown (fun x=>lt D[a]! x) D x j) (j+1) 4 (fun env N'=>env 0=v/\env 1=gi a/\env 4= .fn S.f []/\env 11=gi x/\env 12=gi (scanDown (fun x=>lt D[a]! x) D x j:Nat)/\N=N'/\x<=scanDown (fun x=>lt D[a]! x) D x j+1) ⟨j,e0,e1,e4,e9,e10,rfl,Zaa _,u2,rfl,rfl⟩ ?_ ?_
   ·clear e0 e1 e4 e9 e10
    rintro J2 Yq2 hJ2 hY2 n2 env N' ⟨y,e0,e1,e4,e9,e10,hn2,hy1,hy2,rfl,hU⟩
    rcases Zad y x with hlt|hge
    ·have hU:scanDown (fun x=>lt D[a]! x) D x j=y:=by
      rw[<- hU]
      cases y with
      |zero=>rfl
      |succ y=>rw[scanDown,if_neg (by simp;intro h;omega)]
     have c0:decide ((x:Int)<=y)=false:=by simp;omega
     simp +contextual (disch:=omega) only[go_sem,e0,e1,e4,e9,e10,c0]
     refine hY2 _ _ ⟨?_,?_,?_,?_,?_,rfl,by omega⟩
     all_goals simp +contextual (disch:=omega) only[go_sem,e0,e1,e4,e9,e10,hU]
    ·have c0:decide ((x:Int)<=y)=true:=by simp;omega
     obtain⟨z,rfl⟩:∃ z,y=z+1:=⟨y - 1,by omega⟩
     rw[scanDown] at hU
     have c0:decide ((x:Int)<=(z:Int)+1)=true:=c0
     have n1:Bb (some (.int .i64 ((z:Int)+1)))=some (z+1):=B6 (by simp)
     have z1:(z:Int)+1 - 1=z:=by omega
     simp +contextual (disch:=omega) only[go_sem,e0,e1,e4,e9,e10,c0,A1,n1,ia,la,hH.iad (j:=z+1) (by omega),hH.ld (j:=z+1) (by omega)]
     refine A5 (S.call _ _ _) ?_
     cases hl:lt D[a]! D[z+1]! with
     |false=>
      rw[if_neg (by simp[hl])] at hU
      simp +contextual (disch:=omega) only[go_sem,e0,e1,e4,e9,e10,c0,hl,S.klt]
      refine hY2 _ _ ⟨?_,?_,?_,?_,?_,rfl,by omega⟩
      all_goals simp +contextual (disch:=omega) only[go_sem,e0,e1,e4,e9,e10,<-hU]
     |true=>
      rw[if_pos (by simp[hl];omega)] at hU
      simp +contextual (disch:=omega) only[go_sem,e0,e1,e4,e9,e10,c0,z1,hl,S.klt]
      refine⟨z+1,by omega,hJ2 _ _ _ ⟨z,?_,?_,?_,?_,?_,rfl,by omega,by omega,rfl,hU⟩⟩
      all_goals simp +contextual (disch:=omega) only[go_sem,e0,e1,e4,e9,e10]
   ·clear e0 e1 e4 e9 e10
    rintro env N' ⟨e0,e1,e4,e9,e10,rfl,hxy⟩
    have w1:=scanDown_le (fun x=>lt D[a]! x) D x j
    have w4:=(scanDown_spec (fun x=>lt D[a]! x) D x j).2.2.2
    obtain⟨y,hy⟩:∃ y,y=scanDown (fun x=>lt D[a]! x) D x j:=⟨_,rfl⟩
    rw[<- hy] at hE e10 w1 w4 hxy
    rcases Zad y x with hlt|hge
    ·rw[if_pos hlt] at hE
     have c0:decide ((y:Int)<x)=true:=by simp;omega
     simp +contextual (disch:=omega) only[go_sem,e0,e1,e4,e9,e10,c0]
     exact⟨_,rfl,hle,by rw[<- hE],by rw[<- hE];exact hH⟩
    ·rw[if_neg (by omega)] at hE
     have hne:x≠y:=by
      rintro rfl
      have q1:(!lt D[a]! D[x]!)=false:=u4 w1
      have q2:lt D[a]! D[x]! =false:=w4 (Zaa _) (by omega)
      rw[q2] at q1;cases q1
     have c0:decide ((y:Int)<x)=false:=by simp;omega
     have y1:(y:Int) - 1=((y - 1:Nat):Int):=by omega
     obtain⟨N3,N4,s3,s4,hH4,hl4⟩:=hH.sw (a:=x) (b:=y) (by omega) (by omega)
     simp +contextual (disch:=omega) only[go_sem,e0,e1,e4,e9,e10,c0,A1,hH.iad (j:=x) (by omega),hH.ld (j:=x) (by omega),hH.iad (j:=y) (by omega),hH.ld (j:=y) (by omega),s3,s4]
     refine⟨y - 1+1 - (x+1),by omega,hJ _ _ _ ⟨x+1,y - 1,swp D x y,?_,?_,?_,?_,?_,rfl,by omega,by omega,by omega,by rw[Go.Sort.swp_size];exact hD,by omega,hH4,hE⟩⟩
     all_goals simp +contextual (disch:=omega) only[go_sem,e0,e1,e4,e9,e10,y1]
 obtain⟨r,N,R,rfl,h⟩:=key
 exact⟨N,R,h⟩
theorem part_ret (S:SrtC Y lt) (H:Holds S.e U0 U rs k v d) {a b p:Nat} (hab:a<b) (hp:p<b) (hb:b<=d.size) (hs:d.size<=1099511627776):∃ N,Ret Tryz.prog S.q.partition [v,gi a,gi b,gi p,.fn S.f []] U (.tup [gi (partition lt d a b p).1,.bool (partition lt d a b p).2.1]) N/\Holds S.e U0 N rs k v (partition lt d a b p).2.2:=by
 have key:∃ r N,Ret Tryz.prog S.q.partition [v,gi a,gi b,gi p,.fn S.f []] U r N/\r= .tup [gi (partition lt d a b p).1,.bool (partition lt d a b p).2.1]/\Holds S.e U0 N rs k v (partition lt d a b p).2.2:=by
  refine Au S.h_partition (Z0z rfl) ?_
  obtain⟨N1,N,s1,s2,hH,hl2⟩:=H.sw (a:=a) (b:=p) (by omega) (by omega)
  obtain⟨j,hh⟩:∃ h,h=b - 1:=⟨_,rfl⟩
  have hbI:(b:Int) - 1=j:=by omega
  have hD:=Go.Sort.swp_size d a p
  obtain⟨P0,hP0⟩:∃ P0,P0=partition lt d a b p:=⟨_,rfl⟩
  rw[<- hP0]
  have hE:=hP0.symm
  simp only[partition] at hE
  rw[<- hh] at hE
  obtain⟨D,hD0⟩:∃ D0,D0=swp d a p:=⟨_,rfl⟩
  rw[<- hD0] at hH hD hE
  simp +contextual (disch:=omega) only[go_sem,Oy,hbI,A1,H.iad (j:=a) (by omega),H.ld (j:=a) (by omega),H.iad (j:=p) (by omega),H.ld (j:=p) (by omega),s1,s2]
  have ia:=hH.iad (j:=a) (by omega)
  have la:=hH.ld (j:=a) (by omega)
  obtain⟨i,hi⟩:∃ i,i=a+1:=⟨_,rfl⟩
  rw[<- hi] at hE
  have hij:i<=j+1:=by omega
  refine C8 (fun n env N'=>∃(x:Nat),env 0=v/\env 1=gi a/\env 4= .fn S.f []/\env 12=gi x/\env 13=gi j/\j+1 - x=n/\i<=x/\x<=j+1/\N=N'/\scanUp (fun x=>lt x D[a]!) D j x=scanUp (fun x=>lt x D[a]!) D j i) (j+1 - i) 0 (fun env N'=>env 0=v/\env 1=gi a/\env 4= .fn S.f []/\env 12=gi (scanUp (fun x=>lt x D[a]!) D j i:Nat)/\env 13=gi j/\N=N') ⟨i,rfl,rfl,rfl,(by rw[hi];rfl),rfl,rfl,Zaa _,hij,rfl,rfl⟩ ?_ ?_
  ·skip
   rintro J2 Yq2 hJ2 hY2 n2 env N' ⟨x,e0,e1,e4,e9,e10,hn2,hx1,hx2,rfl,hU⟩
   rw[scanUp] at hU
   rcases Zad j x with hx|hx
   ·rw[if_neg (by simp;intro h;omega)] at hU
    have c0:decide ((x:Int)<=j)=false:=by simp;omega
    simp +contextual (disch:=omega) only[go_sem,e0,e1,e4,e9,e10,c0]
    refine hY2 _ _ ⟨?_,?_,?_,?_,?_,rfl⟩
    all_goals simp +contextual (disch:=omega) only[go_sem,e0,e1,e4,e9,e10,hU]
   ·have c0:decide ((x:Int)<=j)=true:=by simp;omega
    simp +contextual (disch:=omega) only[go_sem,e0,e1,e4,e9,e10,c0,A1,ia,la,hH.iad (j:=x) (by omega),hH.ld (j:=x) (by omega)]
    refine A5 (S.call _ _ _) ?_
    cases hl:lt D[x]! D[a]! with
    |false=>
     rw[if_neg (by simp[hl])] at hU
     simp +contextual (disch:=omega) only[go_sem,e0,e1,e4,e9,e10,c0,hl,S.klt]
     refine hY2 _ _ ⟨?_,?_,?_,?_,?_,rfl⟩
     all_goals simp +contextual (disch:=omega) only[go_sem,e0,e1,e4,e9,e10,hU]
    |true=>
     rw[if_pos (by simp[hl];omega)] at hU
     simp +contextual (disch:=omega) only[go_sem,e0,e1,e4,e9,e10,c0,hl,S.klt]
     refine⟨j+1 - (x+1),by omega,hJ2 _ _ _ ⟨x+1,?_,?_,?_,?_,?_,rfl,by omega,by omega,rfl,hU⟩⟩
     all_goals simp +contextual (disch:=omega) only[go_sem,e0,e1,e4,e9,e10]
  skip
  rintro env N' ⟨e0,e1,e4,e9,e10,rfl⟩
  obtain⟨u1,u2,-,u4⟩:=scanUp_spec (fun x=>lt x D[a]!) D j _ i rfl
  have u2:=u2 hij
  obtain⟨x,hx⟩:∃ x,x=scanUp (fun x=>lt x D[a]!) D j i:=⟨_,rfl⟩
  rw[<- hx] at hE e9 u1 u2 u4
  simp +contextual (disch:=omega) only[go_sem]
  refine C8 (fun n env N'=>∃(y:Nat),env 0=v/\env 1=gi a/\env 4= .fn S.f []/\env 12=gi x/\env 13=gi y/\y+1=n/\y<=j/\x<=y+1/\N=N'/\scanDown (fun x=> !lt x D[a]!) D x y=scanDown (fun x=> !lt x D[a]!) D x j) (j+1) 2 (fun env N'=>env 0=v/\env 1=gi a/\env 4= .fn S.f []/\env 12=gi x/\env 13=gi (scanDown (fun x=> !lt x D[a]!) D x j:Nat)/\N=N'/\x<=scanDown (fun x=> !lt x D[a]!) D x j+1) ⟨j,e0,e1,e4,e9,e10,rfl,Zaa _,u2,rfl,rfl⟩ ?_ ?_
  ·clear e0 e1 e4 e9 e10
   rintro J2 Yq2 hJ2 hY2 n2 env N' ⟨y,e0,e1,e4,e9,e10,hn2,hy1,hy2,rfl,hU⟩
   rcases Zad y x with hlt|hge
   ·have hU:scanDown (fun x=> !lt x D[a]!) D x j=y:=by
     rw[<- hU]
     cases y with
     |zero=>rfl
     |succ y=>rw[scanDown,if_neg (by simp;intro h;omega)]
    have c0:decide ((x:Int)<=y)=false:=by simp;omega
    simp +contextual (disch:=omega) only[go_sem,e0,e1,e4,e9,e10,c0]
    refine hY2 _ _ ⟨?_,?_,?_,?_,?_,rfl,by omega⟩
    all_goals simp +contextual (disch:=omega) only[go_sem,e0,e1,e4,e9,e10,hU]
   ·obtain⟨z,rfl⟩:∃ z,y=z+1:=⟨y - 1,by omega⟩
    rw[scanDown] at hU
    have c0:decide ((x:Int)<=(z:Int)+1)=true:=by simp;omega
    have n1:Bb (some (.int .i64 ((z:Int)+1)))=some (z+1):=B6 (by simp)
    have z1:(z:Int)+1 - 1=z:=by omega
    simp +contextual (disch:=omega) only[go_sem,e0,e1,e4,e9,e10,c0,A1,n1,ia,la,hH.iad (j:=z+1) (by omega),hH.ld (j:=z+1) (by omega)]
    refine A5 (S.call _ _ _) ?_
    cases hl:lt D[z+1]! D[a]! with
    |true=>
     rw[if_neg (by simp[hl])] at hU
     simp +contextual (disch:=omega) only[go_sem,e0,e1,e4,e9,e10,c0,hl,S.klt]
     refine hY2 _ _ ⟨?_,?_,?_,?_,?_,rfl,by omega⟩
     all_goals simp +contextual (disch:=omega) only[go_sem,e0,e1,e4,e9,e10,<-hU]
    |false=>
     rw[if_pos (by simp[hl];omega)] at hU
     simp +contextual (disch:=omega) only[go_sem,e0,e1,e4,e9,e10,c0,z1,hl,S.klt]
     refine⟨z+1,by omega,hJ2 _ _ _ ⟨z,?_,?_,?_,?_,?_,rfl,by omega,by omega,rfl,hU⟩⟩
     all_goals simp +contextual (disch:=omega) only[go_sem,e0,e1,e4,e9,e10]
  clear e0 e1 e4 e9 e10
  rintro env N' ⟨e0,e1,e4,e9,e10,rfl,hxy⟩
  have w1:=scanDown_le (fun x=> !lt x D[a]!) D x j
  have w4:=(scanDown_spec (fun x=> !lt x D[a]!) D x j).2.2.2
  obtain⟨y,hy⟩:∃ y,y=scanDown (fun x=> !lt x D[a]!) D x j:=⟨_,rfl⟩
  rw[<- hy] at hE e10 w1 w4 hxy
  have hne:x≠y:=by
   rintro rfl
   have q1:lt D[x]! D[a]! =false:=u4 w1
   have q2:(!lt D[x]! D[a]!)=false:=w4 (Zaa _) (by omega)
   rw[q1] at q2;cases q2
  rcases Zad y x with hlt|hge
  ·rw[if_pos hlt] at hE
   subst hE
   have c0:decide ((y:Int)<x)=true:=by simp;omega
   obtain⟨N3,N4,s3,s4,hH4,hl4⟩:=hH.sw (a:=y) (b:=a) (by omega) (by omega)
   simp +contextual (disch:=omega) only[go_sem,e0,e1,e4,e9,e10,c0,A1,hH.iad (j:=a) (by omega),hH.ld (j:=a) (by omega),hH.iad (j:=y) (by omega),hH.ld (j:=y) (by omega),s3,s4]
   exact⟨_,rfl,by omega,rfl,hH4⟩
  ·rw[if_neg (by omega)] at hE
   subst hE
   have c0:decide ((y:Int)<x)=false:=by simp;omega
   have y1:(y:Int) - 1=((y - 1:Nat):Int):=by omega
   obtain⟨N3,N4,s3,s4,hH4,hl4⟩:=hH.sw (a:=x) (b:=y) (by omega) (by omega)
   simp +contextual (disch:=omega) only[go_sem,e0,e1,e4,e9,e10,c0,A1,hH.iad (j:=x) (by omega),hH.ld (j:=x) (by omega),hH.iad (j:=y) (by omega),hH.ld (j:=y) (by omega),s3,s4]
   obtain⟨x0,hx0⟩:∃ x0,x0=x+1:=⟨_,rfl⟩
   obtain⟨y0,hy0⟩:∃ y0,y0=y - 1:=⟨_,rfl⟩
   have hD4:(swp D x y).size=d.size:=by rw[Go.Sort.swp_size];exact hD
   obtain⟨D4,hD40⟩:∃ D4,D4=swp D x y:=⟨_,rfl⟩
   rw[<- hx0,<-hy0,<-hD40]
   rw[<- hD40] at hH4 hD4
   obtain⟨R,hR⟩:∃ R,R=partLoop lt a x0 y0 D4:=⟨_,rfl⟩
   rw[<- hR]
   refine Br (fun n env N=>∃(i j:Nat) (D:Array Y),env 0=v/\env 1=gi a/\env 4= .fn S.f []/\env 12=gi i/\env 13=gi j/\j+1 - i=n/\1<=i/\i<=j+1/\j<b/\D.size=d.size/\U.length<=N.length/\Holds S.e U0 N rs k v D/\partLoop lt a i j D=R) (y0+1 - x0) ⟨x0,y0,D4,by simp +contextual (disch:=omega) only[go_sem,e0],by simp +contextual (disch:=omega) only[go_sem,e1],by simp +contextual (disch:=omega) only[go_sem,e4],by rw[hx0];simp +contextual (disch:=omega) only[go_sem,e9],by rw[hy0];simp +contextual (disch:=omega) only[go_sem,y1],rfl,by omega,by omega,by omega,hD4,by omega,hH4,hR.symm⟩ ?_
   clear hH hH4 hij ia la s1 s2 s3 s4 e0 e1 e4 e9 e10 c0 y1 hi u1 u2 u4 w1 w4 hxy hne hge hx hy hx0 hy0 hD40 hD4 hD hD0 hl2 hl4
   rintro J hJ n env N ⟨i,j,D,e0,e1,e4,e9,e10,hn,hi,hij,hj,hD,hle,hH,hE⟩
   rw[partLoop_eq] at hE
   have ia:=hH.iad (j:=a) (by omega)
   have la:=hH.ld (j:=a) (by omega)
   simp +contextual (disch:=omega) only[go_sem]
   refine C8 (fun n env N'=>∃(x:Nat),env 0=v/\env 1=gi a/\env 4= .fn S.f []/\env 12=gi x/\env 13=gi j/\j+1 - x=n/\i<=x/\x<=j+1/\N=N'/\scanUp (fun x=>lt x D[a]!) D j x=scanUp (fun x=>lt x D[a]!) D j i) (j+1 - i) 6 (fun env N'=>env 0=v/\env 1=gi a/\env 4= .fn S.f []/\env 12=gi (scanUp (fun x=>lt x D[a]!) D j i:Nat)/\env 13=gi j/\N=N') ⟨i,e0,e1,e4,e9,e10,rfl,Zaa _,hij,rfl,rfl⟩ ?_ ?_
   ·clear e0 e1 e4 e9 e10
    rintro J2 Yq2 hJ2 hY2 n2 env N' ⟨x,e0,e1,e4,e9,e10,hn2,hx1,hx2,rfl,hU⟩
    rw[scanUp] at hU
    rcases Zad j x with hx|hx
    ·rw[if_neg (by simp;intro h;omega)] at hU
     have c0:decide ((x:Int)<=j)=false:=by simp;omega
     simp +contextual (disch:=omega) only[go_sem,e0,e1,e4,e9,e10,c0]
     refine hY2 _ _ ⟨?_,?_,?_,?_,?_,rfl⟩
     all_goals simp +contextual (disch:=omega) only[go_sem,e0,e1,e4,e9,e10,hU]
    ·have c0:decide ((x:Int)<=j)=true:=by simp;omega
     simp +contextual (disch:=omega) only[go_sem,e0,e1,e4,e9,e10,c0,A1,ia,la,hH.iad (j:=x) (by omega),hH.ld (j:=x) (by omega)]
     refine A5 (S.call _ _ _) ?_
     cases hl:lt D[x]! D[a]! with
     |false=>
      rw[if_neg (by simp[hl])] at hU
      simp +contextual (disch:=omega) only[go_sem,e0,e1,e4,e9,e10,c0,hl,S.klt]
      refine hY2 _ _ ⟨?_,?_,?_,?_,?_,rfl⟩
      all_goals simp +contextual (disch:=omega) only[go_sem,e0,e1,e4,e9,e10,hU]
     |true=>
      rw[if_pos (by simp[hl];omega)] at hU
      simp +contextual (disch:=omega) only[go_sem,e0,e1,e4,e9,e10,c0,hl,S.klt]
      refine⟨j+1 - (x+1),by omega,hJ2 _ _ _ ⟨x+1,?_,?_,?_,?_,?_,rfl,by omega,by omega,rfl,hU⟩⟩
      all_goals simp +contextual (disch:=omega) only[go_sem,e0,e1,e4,e9,e10]
   clear e0 e1 e4 e9 e10
   rintro env N' ⟨e0,e1,e4,e9,e10,rfl⟩
   obtain⟨u1,u2,-,u4⟩:=scanUp_spec (fun x=>lt x D[a]!) D j _ i rfl
   have u2:=u2 hij
   obtain⟨x,hx⟩:∃ x,x=scanUp (fun x=>lt x D[a]!) D j i:=⟨_,rfl⟩
   rw[<- hx] at hE e9 u1 u2 u4
   simp +contextual (disch:=omega) only[go_sem]
   refine C8 (fun n env N'=>∃(y:Nat),env 0=v/\env 1=gi a/\env 4= .fn S.f []/\env 12=gi x/\env 13=gi y/\y+1=n/\y<=j/\x<=y+1/\N=N'/\scanDown (fun x=> !lt x D[a]!) D x y=scanDown (fun x=> !lt x D[a]!) D x j) (j+1) 8 (fun env N'=>env 0=v/\env 1=gi a/\env 4= .fn S.f []/\env 12=gi x/\env 13=gi (scanDown (fun x=> !lt x D[a]!) D x j:Nat)/\N=N'/\x<=scanDown (fun x=> !lt x D[a]!) D x j+1) ⟨j,e0,e1,e4,e9,e10,rfl,Zaa _,u2,rfl,rfl⟩ ?_ ?_
   ·clear e0 e1 e4 e9 e10
    rintro J2 Yq2 hJ2 hY2 n2 env N' ⟨y,e0,e1,e4,e9,e10,hn2,hy1,hy2,rfl,hU⟩
    rcases Zad y x with hlt|hge
    ·have hU:scanDown (fun x=> !lt x D[a]!) D x j=y:=by
      rw[<- hU]
      cases y with
      |zero=>rfl
      |succ y=>rw[scanDown,if_neg (by simp;intro h;omega)]
     have c0:decide ((x:Int)<=y)=false:=by simp;omega
     simp +contextual (disch:=omega) only[go_sem,e0,e1,e4,e9,e10,c0]
     refine hY2 _ _ ⟨?_,?_,?_,?_,?_,rfl,by omega⟩
     all_goals simp +contextual (disch:=omega) only[go_sem,e0,e1,e4,e9,e10,hU]
    ·obtain⟨z,rfl⟩:∃ z,y=z+1:=⟨y - 1,by omega⟩
     rw[scanDown] at hU
     have c0:decide ((x:Int)<=(z:Int)+1)=true:=by simp;omega
     have n1:Bb (some (.int .i64 ((z:Int)+1)))=some (z+1):=B6 (by simp)
     have z1:(z:Int)+1 - 1=z:=by omega
     simp +contextual (disch:=omega) only[go_sem,e0,e1,e4,e9,e10,c0,A1,n1,ia,la,hH.iad (j:=z+1) (by omega),hH.ld (j:=z+1) (by omega)]
     refine A5 (S.call _ _ _) ?_
     cases hl:lt D[z+1]! D[a]! with
     |true=>
      rw[if_neg (by simp[hl])] at hU
      simp +contextual (disch:=omega) only[go_sem,e0,e1,e4,e9,e10,c0,hl,S.klt]
      refine hY2 _ _ ⟨?_,?_,?_,?_,?_,rfl,by omega⟩
      all_goals simp +contextual (disch:=omega) only[go_sem,e0,e1,e4,e9,e10,<-hU]
     |false=>
      rw[if_pos (by simp[hl];omega)] at hU
      simp +contextual (disch:=omega) only[go_sem,e0,e1,e4,e9,e10,c0,z1,hl,S.klt]
      refine⟨z+1,by omega,hJ2 _ _ _ ⟨z,?_,?_,?_,?_,?_,rfl,by omega,by omega,rfl,hU⟩⟩
      all_goals simp +contextual (disch:=omega) only[go_sem,e0,e1,e4,e9,e10]
   clear e0 e1 e4 e9 e10
   rintro env N' ⟨e0,e1,e4,e9,e10,rfl,hxy⟩
   have w1:=scanDown_le (fun x=> !lt x D[a]!) D x j
   have w4:=(scanDown_spec (fun x=> !lt x D[a]!) D x j).2.2.2
   obtain⟨y,hy⟩:∃ y,y=scanDown (fun x=> !lt x D[a]!) D x j:=⟨_,rfl⟩
   rw[<- hy] at hE e10 w1 w4 hxy
   have hne:x≠y:=by
    rintro rfl
    have q1:lt D[x]! D[a]! =false:=u4 w1
    have q2:(!lt D[x]! D[a]!)=false:=w4 (Zaa _) (by omega)
    rw[q1] at q2;cases q2
   rcases Zad y x with hlt|hge
   ·rw[if_pos hlt] at hE
    subst hE
    have c0:decide ((y:Int)<x)=true:=by simp;omega
    obtain⟨N3,N4,s3,s4,hH4,hl4⟩:=hH.sw (a:=y) (b:=a) (by omega) (by omega)
    simp +contextual (disch:=omega) only[go_sem,e0,e1,e4,e9,e10,c0,A1,hH.iad (j:=a) (by omega),hH.ld (j:=a) (by omega),hH.iad (j:=y) (by omega),hH.ld (j:=y) (by omega),s3,s4]
    exact⟨_,rfl,by omega,rfl,hH4⟩
   ·rw[if_neg (by omega)] at hE
    have c0:decide ((y:Int)<x)=false:=by simp;omega
    have y1:(y:Int) - 1=((y - 1:Nat):Int):=by omega
    obtain⟨N3,N4,s3,s4,hH4,hl4⟩:=hH.sw (a:=x) (b:=y) (by omega) (by omega)
    simp +contextual (disch:=omega) only[go_sem,e0,e1,e4,e9,e10,c0,A1,hH.iad (j:=x) (by omega),hH.ld (j:=x) (by omega),hH.iad (j:=y) (by omega),hH.ld (j:=y) (by omega),s3,s4]
    refine⟨y - 1+1 - (x+1),by omega,hJ _ _ _ ⟨x+1,y - 1,swp D x y,?_,?_,?_,?_,?_,rfl,by omega,by omega,by omega,by rw[Go.Sort.swp_size];exact hD,by omega,hH4,hE⟩⟩
    all_goals simp +contextual (disch:=omega) only[go_sem,e0,e1,e4,e9,e10,y1]
 obtain⟨r,N,R,rfl,h⟩:=key
 exact⟨N,R,h⟩
end C
namespace C
open Go Go.RowKit Go.Proofs.YtckobfochhjmdaaGreatDoor.Sy Go.Sort
variable {Y:Type} [Inhabited Y] {lt:Y->Y->Bool} {U0 U:St} {rs:List Thg} {k:Nat} {v:GV} {d:Array Y}
theorem scanSorted_ge (lt:Y->Y->Bool) (d:Array Y) (b:Nat):∀(n i:Nat),b - i=n->i<=scanSorted lt d b i/\(i<=b->scanSorted lt d b i<=b):=by
 intro n
 induction n with
 |zero=>
  intro i hn
  rw[scanSorted,if_neg (by simp;intro h;omega)]
  exact⟨Zaa _,fun h=>h⟩
 |succ n ih=>
  intro i hn
  rw[scanSorted]
  split
  ·have:=ih (i+1) (by omega)
   exact⟨by omega,fun _=>this.2 (by omega)⟩
  ·exact⟨Zaa _,fun h=>h⟩
theorem shiftDown_size (lt:Y->Y->Bool):∀(j:Nat) (d:Array Y),(shiftDown lt j d).size=d.size
 |0,_=>rfl
 |j+1,d=>by
  rw[shiftDown]
  split
  ·rfl
  ·rw[shiftDown_size lt j,Go.Sort.swp_size]
theorem shiftUp_size (lt:Y->Y->Bool) (b:Nat):∀(n j:Nat) (d:Array Y),b - j=n->(shiftUp lt b j d).size=d.size:=by
 intro n
 induction n with
 |zero=>intro j d h;rw[shiftUp,if_neg (by omega)]
 |succ n ih=>
  intro j d h
  rw[shiftUp,if_pos (by omega)]
  split
  ·rfl
  ·rw[ih _ _ (by omega),Go.Sort.swp_size]
theorem pis_ret (S:SrtC Y lt) (H:Holds S.e U0 U rs k v d) {a b:Nat} (hab:a<b) (hb:b<=d.size) (hs:d.size<=1099511627776):∃ N,Ret Tryz.prog S.q.partialInsertionSort [v,gi a,gi b,.fn S.f []] U (.bool (partialInsertionSort lt d a b).2) N/\Holds S.e U0 N rs k v (partialInsertionSort lt d a b).1:=by
 have key:∃ r N,Ret Tryz.prog S.q.partialInsertionSort [v,gi a,gi b,.fn S.f []] U r N/\r= .bool (partialInsertionSort lt d a b).2/\Holds S.e U0 N rs k v (partialInsertionSort lt d a b).1:=by
  refine Au S.h_partialInsertionSort (Z0z rfl) ?_
  rw[partialInsertionSort]
  obtain⟨R,hR⟩:∃ R,R=partialIns lt a b 5 (a+1) d:=⟨_,rfl⟩
  rw[<- hR]
  simp +contextual (maxSteps:=600000) (disch:=omega) only[go_sem,E9]
  refine Br (fun n env N=>∃(s i:Nat) (D:Array Y),env 0=v/\env 1=gi a/\env 2=gi b/\env 3= .fn S.f []/\env 9=gi i/\env 10=gi s/\5 - s=n/\s<=5/\a<i/\i<=b/\D.size=d.size/\U.length<=N.length/\Holds S.e U0 N rs k v D/\partialIns lt a b (5 - s) i D=R) 5 ⟨0,a+1,d,rfl,rfl,rfl,rfl,rfl,rfl,rfl,by omega,by omega,by omega,rfl,Zaa _,H,hR.symm⟩ ?_
  rintro J hJ n env N ⟨s,i0,D,e0,e1,e2,e3,e7,e8,hn,hs5,hai,hib,hD,hle,hH,hE⟩
  rcases Zad s 5 with h5|h5
  ·have c0:decide ((s:Int)<5)=true:=by simp;omega
   obtain⟨m,hm⟩:∃ m,5 - s=m+1:=⟨4 - s,by omega⟩
   rw[hm,partialIns] at hE
   dsimp only at hE
   simp +contextual (maxSteps:=600000) (disch:=omega) only[go_sem,e0,e1,e2,e3,e7,e8,c0]
   refine C8 (fun n env N'=>∃(x:Nat),env 0=v/\env 1=gi a/\env 2=gi b/\env 3= .fn S.f []/\env 9=gi x/\env 10=gi s/\b - x=n/\i0<=x/\x<=b/\N=N'/\scanSorted lt D b x=scanSorted lt D b i0) (b - i0) 2 (fun env N'=>env 0=v/\env 1=gi a/\env 2=gi b/\env 3= .fn S.f []/\env 9=gi (scanSorted lt D b i0:Nat)/\env 10=gi s/\N=N') ⟨i0,by simp +contextual (maxSteps:=600000) (disch:=omega) only[go_sem,e0],by simp +contextual (maxSteps:=600000) (disch:=omega) only[go_sem,e1],by simp +contextual (maxSteps:=600000) (disch:=omega) only[go_sem,e2],by simp +contextual (maxSteps:=600000) (disch:=omega) only[go_sem,e3],by simp +contextual (maxSteps:=600000) (disch:=omega) only[go_sem,e7],by simp +contextual (maxSteps:=600000) (disch:=omega) only[go_sem,e8],rfl,Zaa _,hib,rfl,rfl⟩ ?_ ?_
   ·clear e0 e1 e2 e3 e7 e8
    rintro J2 Yq2 hJ2 hY2 n2 env N' ⟨x,e0,e1,e2,e3,e7,e8,hn2,hx1,hx2,rfl,hU⟩
    rw[scanSorted] at hU
    rcases Zad x b with hx|hx
    ·have c1:decide ((x:Int)<b)=true:=by simp;omega
     have x1:(x:Int) - 1=((x - 1:Nat):Int):=by omega
     simp +contextual (maxSteps:=600000) (disch:=omega) only[go_sem,e0,e1,e2,e3,e7,e8,c1,x1,A1,hH.iad (j:=x) (by omega),hH.ld (j:=x) (by omega),hH.iad (j:=x - 1) (by omega),hH.ld (j:=x - 1) (by omega)]
     refine A5 (S.call _ _ _) ?_
     cases hl:lt D[x]! D[x - 1]! with
     |true=>
      rw[if_neg (by simp[hl])] at hU
      simp +contextual (maxSteps:=600000) (disch:=omega) only[go_sem,e0,e1,e2,e3,e7,e8,c1,hl,S.klt]
      refine hY2 _ _ ⟨?_,?_,?_,?_,?_,?_,rfl⟩
      all_goals simp +contextual (maxSteps:=600000) (disch:=omega) only[go_sem,e0,e1,e2,e3,e7,e8,hU]
     |false=>
      rw[if_pos (by simp[hl];omega)] at hU
      simp +contextual (maxSteps:=600000) (disch:=omega) only[go_sem,e0,e1,e2,e3,e7,e8,c1,hl,S.klt]
      refine⟨b - (x+1),by omega,hJ2 _ _ _ ⟨x+1,?_,?_,?_,?_,?_,?_,rfl,by omega,by omega,rfl,hU⟩⟩
      all_goals simp +contextual (maxSteps:=600000) (disch:=omega) only[go_sem,e0,e1,e2,e3,e7,e8]
    ·rw[if_neg (by simp;intro h;omega)] at hU
     have c1:decide ((x:Int)<b)=false:=by simp;omega
     simp +contextual (maxSteps:=600000) (disch:=omega) only[go_sem,e0,e1,e2,e3,e7,e8,c1]
     refine hY2 _ _ ⟨?_,?_,?_,?_,?_,?_,rfl⟩
     all_goals simp +contextual (maxSteps:=600000) (disch:=omega) only[go_sem,e0,e1,e2,e3,e7,e8,hU]
   clear e0 e1 e2 e3 e7 e8
   rintro env N' ⟨e0,e1,e2,e3,e7,e8,rfl⟩
   obtain⟨g1,g2⟩:=scanSorted_ge lt D b _ i0 rfl
   have g2:=g2 hib
   obtain⟨i,hi⟩:∃ i,i=scanSorted lt D b i0:=⟨_,rfl⟩
   rw[<- hi] at hE e7 g1 g2
   by_cases h1:i=b
   ·rw[if_pos h1] at hE
    subst hE
    have c1:((b:Int)==b)=true:=by simp
    rw[h1] at e7
    simp +contextual (maxSteps:=600000) (disch:=omega) only[go_sem,e0,e1,e2,e3,e7,e8,c1]
    exact⟨_,rfl,hle,rfl,hH⟩
   ·rw[if_neg h1] at hE
    have c1:((i:Int)==b)=false:=by simp;omega
    by_cases h50:b - a<50
    ·rw[if_pos h50] at hE
     subst hE
     have c2:decide ((b:Int) - a<50)=true:=by simp;omega
     simp +contextual (maxSteps:=600000) (disch:=omega) only[go_sem,e0,e1,e2,e3,e7,e8,c1,c2]
     exact⟨_,rfl,hle,rfl,hH⟩
    ·rw[if_neg h50] at hE
     have c2:decide ((b:Int) - a<50)=false:=by simp;omega
     have i1:(i:Int) - 1=((i - 1:Nat):Int):=by omega
     obtain⟨N1,N2,s1,s2,hH1,hl1⟩:=hH.sw (a:=i) (b:=i - 1) (by omega) (by omega)
     simp +contextual (maxSteps:=600000) (disch:=omega) only[go_sem,e0,e1,e2,e3,e7,e8,c1,c2,i1,A1,hH.iad (j:=i) (by omega),hH.ld (j:=i) (by omega),hH.iad (j:=i - 1) (by omega),hH.ld (j:=i - 1) (by omega),s1,s2]
     have hD1:(swp D i (i - 1)).size=d.size:=by rw[Go.Sort.swp_size];exact hD
     have hle1:U.length<=N2.length:=by omega
     obtain⟨D1,hD10⟩:∃ D1,D1=swp D i (i - 1):=⟨_,rfl⟩
     rw[<- hD10] at hE hD1 hH1
     clear hH hle s1 s2
     by_cases hA:i - a≥2
     ·rw[if_pos hA] at hE
      have cA:decide ((2:Int)<=(i:Int) - a)=true:=by simp;omega
      simp +contextual (maxSteps:=600000) (disch:=omega) only[go_sem,e0,e1,e2,e3,e7,e8,cA]
      refine C8 (fun n env N=>∃(j:Nat) (E:Array Y),env 0=v/\env 1=gi a/\env 2=gi b/\env 3= .fn S.f []/\env 9=gi i/\env 10=gi s/\env 11=gi j/\j=n/\j<b/\E.size=d.size/\U.length<=N.length/\Holds S.e U0 N rs k v E/\shiftDown lt j E=shiftDown lt (i - 1) D1) (i - 1) 4 (fun env N=>env 0=v/\env 1=gi a/\env 2=gi b/\env 3= .fn S.f []/\env 9=gi i/\env 10=gi s/\U.length<=N.length/\Holds S.e U0 N rs k v (shiftDown lt (i - 1) D1)) ⟨i - 1,D1,by simp +contextual (maxSteps:=600000) (disch:=omega) only[go_sem,e0],by simp +contextual (maxSteps:=600000) (disch:=omega) only[go_sem,e1],by simp +contextual (maxSteps:=600000) (disch:=omega) only[go_sem,e2],by simp +contextual (maxSteps:=600000) (disch:=omega) only[go_sem,e3],by simp +contextual (maxSteps:=600000) (disch:=omega) only[go_sem,e7],by simp +contextual (maxSteps:=600000) (disch:=omega) only[go_sem,e8],by simp +contextual (maxSteps:=600000) (disch:=omega) only[go_sem,i1],rfl,by omega,hD1,hle1,hH1,rfl⟩ ?_ ?_
      ·clear e0 e1 e2 e3 e7 e8
       rintro J2 Yq2 hJ2 hY2 n2 env N ⟨j,E,e0,e1,e2,e3,e7,e8,e9,hn2,hj,hE2,hle2,hH,hU⟩
       cases j with
       |zero=>
        have c5:decide ((1:Int)<=0)=false:=rfl
        simp +contextual (maxSteps:=600000) (disch:=omega) only[go_sem,e0,e1,e2,e3,e7,e8,e9,c5,Int.natCast_zero]
        refine hY2 _ _ ⟨?_,?_,?_,?_,?_,?_,hle2,by rw[<- hU];exact hH⟩
        all_goals simp +contextual (maxSteps:=600000) (disch:=omega) only[go_sem,e0,e1,e2,e3,e7,e8]
       |succ m=>
        have c5:decide ((1:Int)<=(m:Int)+1)=true:=decide_eq_true (by omega)
        have n1:Bb (some (.int .i64 ((m:Int)+1)))=some (m+1):=B6 (by simp)
        have m1:(m:Int)+1 - 1=m:=by omega
        rw[shiftDown] at hU
        simp +contextual (maxSteps:=600000) (disch:=omega) only[go_sem,e0,e1,e2,e3,e7,e8,e9,c5,n1,m1,A1,hH.iad (j:=m+1) (by omega),hH.ld (j:=m+1) (by omega),hH.iad (j:=m) (by omega),hH.ld (j:=m) (by omega)]
        refine A5 (S.call _ _ _) ?_
        cases hl:lt E[m+1]! E[m]! with
        |false=>
         rw[if_pos (by simp[hl])] at hU
         simp +contextual (maxSteps:=600000) (disch:=omega) only[go_sem,e0,e1,e2,e3,e7,e8,e9,hl,S.klt]
         refine hY2 _ _ ⟨?_,?_,?_,?_,?_,?_,hle2,by rw[<- hU];exact hH⟩
         all_goals simp +contextual (maxSteps:=600000) (disch:=omega) only[go_sem,e0,e1,e2,e3,e7,e8]
        |true=>
         rw[if_neg (by simp[hl])] at hU
         obtain⟨N3,N4,s3,s4,hH4,hl4⟩:=hH.sw (a:=m+1) (b:=m) (by omega) (by omega)
         simp +contextual (maxSteps:=600000) (disch:=omega) only[go_sem,e0,e1,e2,e3,e7,e8,e9,n1,m1,A1,hl,S.klt,hH.iad (j:=m+1) (by omega),hH.ld (j:=m+1) (by omega),hH.iad (j:=m) (by omega),hH.ld (j:=m) (by omega),s3,s4]
         refine⟨m,by omega,hJ2 _ _ _ ⟨m,swp E (m+1) m,?_,?_,?_,?_,?_,?_,?_,rfl,by omega,by rw[Go.Sort.swp_size];exact hE2,by omega,hH4,hU⟩⟩
         all_goals simp +contextual (maxSteps:=600000) (disch:=omega) only[go_sem,e0,e1,e2,e3,e7,e8,m1]
      clear e0 e1 e2 e3 e7 e8 hH1 hle1
      rintro env N ⟨e0,e1,e2,e3,e7,e8,hle2,hH2⟩
      have hD2:=(shiftDown_size lt (i - 1) D1).trans hD1
      obtain⟨D2,hD20⟩:∃ D2,D2=shiftDown lt (i - 1) D1:=⟨_,rfl⟩
      rw[<- hD20] at hE hD2 hH2
      simp +contextual (maxSteps:=600000) (disch:=omega) only[go_sem]
      by_cases hB:b - i≥2
      ·rw[if_pos hB] at hE
       have cB:decide ((2:Int)<=(b:Int) - i)=true:=by simp;omega
       simp +contextual (maxSteps:=600000) (disch:=omega) only[go_sem,e0,e1,e2,e3,e7,e8,cB,cA]
       refine C8 (fun n env N=>∃(j:Nat) (E:Array Y),env 0=v/\env 1=gi a/\env 2=gi b/\env 3= .fn S.f []/\env 9=gi i/\env 10=gi s/\env 12=gi j/\b - j=n/\1<=j/\j<=b/\E.size=d.size/\U.length<=N.length/\Holds S.e U0 N rs k v E/\shiftUp lt b j E=shiftUp lt b (i+1) D2) (b - (i+1)) 6 (fun env N=>env 0=v/\env 1=gi a/\env 2=gi b/\env 3= .fn S.f []/\env 9=gi i/\env 10=gi s/\U.length<=N.length/\Holds S.e U0 N rs k v (shiftUp lt b (i+1) D2)) ⟨i+1,D2,by simp +contextual (maxSteps:=600000) (disch:=omega) only[go_sem,e0],by simp +contextual (maxSteps:=600000) (disch:=omega) only[go_sem,e1],by simp +contextual (maxSteps:=600000) (disch:=omega) only[go_sem,e2],by simp +contextual (maxSteps:=600000) (disch:=omega) only[go_sem,e3],by simp +contextual (maxSteps:=600000) (disch:=omega) only[go_sem,e7],by simp +contextual (maxSteps:=600000) (disch:=omega) only[go_sem,e8],by simp +contextual (maxSteps:=600000) (disch:=omega) only[go_sem,e7],rfl,by omega,by omega,hD2,hle2,hH2,rfl⟩ ?_ ?_
       ·clear e0 e1 e2 e3 e7 e8
        rintro J2 Yq2 hJ2 hY2 n2 env N ⟨j,E,e0,e1,e2,e3,e7,e8,e9,hn2,hj1,hj,hE2,hle3,hH,hU⟩
        rw[shiftUp] at hU
        rcases Zad j b with hjb|hjb
        ·rw[if_pos hjb] at hU
         have c5:decide ((j:Int)<b)=true:=by simp;omega
         have j1:(j:Int) - 1=((j - 1:Nat):Int):=by omega
         simp +contextual (maxSteps:=600000) (disch:=omega) only[go_sem,e0,e1,e2,e3,e7,e8,e9,c5,j1,A1,hH.iad (j:=j) (by omega),hH.ld (j:=j) (by omega),hH.iad (j:=j - 1) (by omega),hH.ld (j:=j - 1) (by omega)]
         refine A5 (S.call _ _ _) ?_
         cases hl:lt E[j]! E[j - 1]! with
         |false=>
          rw[if_pos (by simp[hl])] at hU
          simp +contextual (maxSteps:=600000) (disch:=omega) only[go_sem,e0,e1,e2,e3,e7,e8,e9,hl,S.klt]
          refine hY2 _ _ ⟨?_,?_,?_,?_,?_,?_,hle3,by rw[<- hU];exact hH⟩
          all_goals simp +contextual (maxSteps:=600000) (disch:=omega) only[go_sem,e0,e1,e2,e3,e7,e8]
         |true=>
          rw[if_neg (by simp[hl])] at hU
          obtain⟨N3,N4,s3,s4,hH4,hl4⟩:=hH.sw (a:=j) (b:=j - 1) (by omega) (by omega)
          simp +contextual (maxSteps:=600000) (disch:=omega) only[go_sem,e0,e1,e2,e3,e7,e8,e9,j1,A1,hl,S.klt,hH.iad (j:=j) (by omega),hH.ld (j:=j) (by omega),hH.iad (j:=j - 1) (by omega),hH.ld (j:=j - 1) (by omega),s3,s4]
          refine⟨b - (j+1),by omega,hJ2 _ _ _ ⟨j+1,swp E j (j - 1),?_,?_,?_,?_,?_,?_,?_,rfl,by omega,by omega,by rw[Go.Sort.swp_size];exact hE2,by omega,hH4,hU⟩⟩
          all_goals simp +contextual (maxSteps:=600000) (disch:=omega) only[go_sem,e0,e1,e2,e3,e7,e8,e9]
        ·rw[if_neg (by omega)] at hU
         have c5:decide ((j:Int)<b)=false:=by simp;omega
         simp +contextual (maxSteps:=600000) (disch:=omega) only[go_sem,e0,e1,e2,e3,e7,e8,e9,c5]
         refine hY2 _ _ ⟨?_,?_,?_,?_,?_,?_,hle3,by rw[<- hU];exact hH⟩
         all_goals simp +contextual (maxSteps:=600000) (disch:=omega) only[go_sem,e0,e1,e2,e3,e7,e8]
       clear e0 e1 e2 e3 e7 e8 hH2 hle2
       rintro env N ⟨e0,e1,e2,e3,e7,e8,hle2,hH2⟩
       simp +contextual (maxSteps:=600000) (disch:=omega) only[go_sem,e0,e1,e2,e3,e7,e8]
       refine⟨n - 1,by omega,hJ _ _ _ ⟨s+1,i,_,?_,?_,?_,?_,?_,?_,by omega,by omega,by omega,by omega,(by rw[shiftUp_size lt b _ _ _ rfl];exact hD2),hle2,hH2,by rw[<- hE];congr 1;omega⟩⟩
       all_goals simp +contextual (maxSteps:=600000) (disch:=omega) only[go_sem,e0,e1,e2,e3,e7,e8]
      ·rw[if_neg hB] at hE
       have cB:decide ((2:Int)<=(b:Int) - i)=false:=by simp;omega
       simp +contextual (maxSteps:=600000) (disch:=omega) only[go_sem,e0,e1,e2,e3,e7,e8,cB,cA]
       refine⟨n - 1,by omega,hJ _ _ _ ⟨s+1,i,_,?_,?_,?_,?_,?_,?_,by omega,by omega,by omega,by omega,hD2,hle2,hH2,by rw[<- hE];congr 1;omega⟩⟩
       all_goals simp +contextual (maxSteps:=600000) (disch:=omega) only[go_sem,e0,e1,e2,e3,e7,e8]
     ·rw[if_neg hA] at hE
      have cA:decide ((2:Int)<=(i:Int) - a)=false:=by simp;omega
      obtain⟨D2,hD20⟩:∃ D2,D2=D1:=⟨_,rfl⟩
      have hD2:=hD1
      have hH2:=hH1
      have hle2:=hle1
      rw[<- hD20] at hE hD2 hH2
      by_cases hB:b - i≥2
      ·rw[if_pos hB] at hE
       have cB:decide ((2:Int)<=(b:Int) - i)=true:=by simp;omega
       simp +contextual (maxSteps:=600000) (disch:=omega) only[go_sem,e0,e1,e2,e3,e7,e8,cB,cA]
       refine C8 (fun n env N=>∃(j:Nat) (E:Array Y),env 0=v/\env 1=gi a/\env 2=gi b/\env 3= .fn S.f []/\env 9=gi i/\env 10=gi s/\env 12=gi j/\b - j=n/\1<=j/\j<=b/\E.size=d.size/\U.length<=N.length/\Holds S.e U0 N rs k v E/\shiftUp lt b j E=shiftUp lt b (i+1) D2) (b - (i+1)) 6 (fun env N=>env 0=v/\env 1=gi a/\env 2=gi b/\env 3= .fn S.f []/\env 9=gi i/\env 10=gi s/\U.length<=N.length/\Holds S.e U0 N rs k v (shiftUp lt b (i+1) D2)) ⟨i+1,D2,by simp +contextual (maxSteps:=600000) (disch:=omega) only[go_sem,e0],by simp +contextual (maxSteps:=600000) (disch:=omega) only[go_sem,e1],by simp +contextual (maxSteps:=600000) (disch:=omega) only[go_sem,e2],by simp +contextual (maxSteps:=600000) (disch:=omega) only[go_sem,e3],by simp +contextual (maxSteps:=600000) (disch:=omega) only[go_sem,e7],by simp +contextual (maxSteps:=600000) (disch:=omega) only[go_sem,e8],by simp +contextual (maxSteps:=600000) (disch:=omega) only[go_sem,e7],rfl,by omega,by omega,hD2,hle2,hH2,rfl⟩ ?_ ?_
       ·clear e0 e1 e2 e3 e7 e8
        rintro J2 Yq2 hJ2 hY2 n2 env N ⟨j,E,e0,e1,e2,e3,e7,e8,e9,hn2,hj1,hj,hE2,hle3,hH,hU⟩
        rw[shiftUp] at hU
        rcases Zad j b with hjb|hjb
        ·rw[if_pos hjb] at hU
         have c5:decide ((j:Int)<b)=true:=by simp;omega
         have j1:(j:Int) - 1=((j - 1:Nat):Int):=by omega
         simp +contextual (maxSteps:=600000) (disch:=omega) only[go_sem,e0,e1,e2,e3,e7,e8,e9,c5,j1,A1,hH.iad (j:=j) (by omega),hH.ld (j:=j) (by omega),hH.iad (j:=j - 1) (by omega),hH.ld (j:=j - 1) (by omega)]
         refine A5 (S.call _ _ _) ?_
         cases hl:lt E[j]! E[j - 1]! with
         |false=>
          rw[if_pos (by simp[hl])] at hU
          simp +contextual (maxSteps:=600000) (disch:=omega) only[go_sem,e0,e1,e2,e3,e7,e8,e9,hl,S.klt]
          refine hY2 _ _ ⟨?_,?_,?_,?_,?_,?_,hle3,by rw[<- hU];exact hH⟩
          all_goals simp +contextual (maxSteps:=600000) (disch:=omega) only[go_sem,e0,e1,e2,e3,e7,e8]
         |true=>
          rw[if_neg (by simp[hl])] at hU
          obtain⟨N3,N4,s3,s4,hH4,hl4⟩:=hH.sw (a:=j) (b:=j - 1) (by omega) (by omega)
          simp +contextual (maxSteps:=600000) (disch:=omega) only[go_sem,e0,e1,e2,e3,e7,e8,e9,j1,A1,hl,S.klt,hH.iad (j:=j) (by omega),hH.ld (j:=j) (by omega),hH.iad (j:=j - 1) (by omega),hH.ld (j:=j - 1) (by omega),s3,s4]
          refine⟨b - (j+1),by omega,hJ2 _ _ _ ⟨j+1,swp E j (j - 1),?_,?_,?_,?_,?_,?_,?_,rfl,by omega,by omega,by rw[Go.Sort.swp_size];exact hE2,by omega,hH4,hU⟩⟩
          all_goals simp +contextual (maxSteps:=600000) (disch:=omega) only[go_sem,e0,e1,e2,e3,e7,e8,e9]
        ·rw[if_neg (by omega)] at hU
         have c5:decide ((j:Int)<b)=false:=by simp;omega
         simp +contextual (maxSteps:=600000) (disch:=omega) only[go_sem,e0,e1,e2,e3,e7,e8,e9,c5]
         refine hY2 _ _ ⟨?_,?_,?_,?_,?_,?_,hle3,by rw[<- hU];exact hH⟩
         all_goals simp +contextual (maxSteps:=600000) (disch:=omega) only[go_sem,e0,e1,e2,e3,e7,e8]
       clear e0 e1 e2 e3 e7 e8 hH2 hle2
       rintro env N ⟨e0,e1,e2,e3,e7,e8,hle2,hH2⟩
       simp +contextual (maxSteps:=600000) (disch:=omega) only[go_sem,e0,e1,e2,e3,e7,e8]
       refine⟨n - 1,by omega,hJ _ _ _ ⟨s+1,i,_,?_,?_,?_,?_,?_,?_,by omega,by omega,by omega,by omega,(by rw[shiftUp_size lt b _ _ _ rfl];exact hD2),hle2,hH2,by rw[<- hE];congr 1;omega⟩⟩
       all_goals simp +contextual (maxSteps:=600000) (disch:=omega) only[go_sem,e0,e1,e2,e3,e7,e8]
      ·rw[if_neg hB] at hE
       have cB:decide ((2:Int)<=(b:Int) - i)=false:=by simp;omega
       simp +contextual (maxSteps:=600000) (disch:=omega) only[go_sem,e0,e1,e2,e3,e7,e8,cB,cA]
       refine⟨n - 1,by omega,hJ _ _ _ ⟨s+1,i,_,?_,?_,?_,?_,?_,?_,by omega,by omega,by omega,by omega,hD2,hle2,hH2,by rw[<- hE];congr 1;omega⟩⟩
       all_goals simp +contextual (maxSteps:=600000) (disch:=omega) only[go_sem,e0,e1,e2,e3,e7,e8]
  ·have c0:decide ((s:Int)<5)=false:=by simp;omega
   have hm:5 - s=0:=by omega
   rw[hm,partialIns] at hE
   subst hE
   simp +contextual (maxSteps:=600000) (disch:=omega) only[go_sem,e0,e1,e2,e3,e7,e8,c0]
   exact⟨_,rfl,hle,rfl,hH⟩
 obtain⟨r,N,R,rfl,h⟩:=key
 exact⟨N,R,h⟩
end C
section
open Go Go.RowKit Go.Sort
set_option maxRecDepth 10000
theorem J4 {m:Int} (h:0<=m) (h':m<=18446744073709551615):IntKind.u64.wrap m=m:=by
 show(if (false&&decide (m % 2 ^ 64≥2 ^ 63))=true then m % 2 ^ 64 - 2 ^ 64 else m % 2 ^ 64)=m
 simp only[Za9,Za0,if_false]
 omega
theorem Aie {m:Int} (h:0<=m) (h':m<=255):IntKind.u8.wrap m=m:=by
 show(if (false&&decide (m % 2 ^ 8≥2 ^ 7))=true then m % 2 ^ 8 - 2 ^ 8 else m % 2 ^ 8)=m
 simp only[Za9,Za0,if_false]
 omega
theorem shrU {x:Nat} {c:Nat} (hc:c<=64):F4 .shr .u64 (x:Int) (c:Int)=some (.int .u64 ((x / 2 ^ c:Nat):Int)):=by
 have h2:(2:Int) ^ c=((2 ^ c:Nat):Int):=by simp
 unfold F4
 rw[if_neg (by omega)]
 show some (GV.int .u64 (Int.fdiv (x:Int) (2 ^ min ((c:Int).toNat) 64)))=_
 rw[Za2,Zat hc,h2,Int.ofNat_fdiv]
theorem P2 {x k:Nat} (h:2 ^ k<=x):bitsLen x=k+bitsLen (x / 2 ^ k):=by rw[Aen h];omega
theorem A5m (U:St) (x:Nat) (hx:x<=1099511627776):Ret Tryz.prog 186 [.int .u64 x] U (gi (bitsLen x)) U:=by
 refine Ac Ox (Z0z rfl) trivial ?_
 have s32:F4 .shr .u64 (x:Int) 32=some (.int .u64 ((x / 4294967296:Nat):Int)):=shrU (c:=32) (by decide)
 have key2:∀ y:Nat,y<65536->IntKind.u8.wrap ((y / 256:Nat):Int)=((y / 256:Nat):Int):=fun y hy=>Aie (by omega) (by omega)
 have key3:∀ y:Nat,y<256->IntKind.u8.wrap (y:Int)=(y:Int):=fun y hy=>Aie (by omega) (by omega)
 have i64:∀ y:Nat,y<256->IntKind.i64.wrap ((bitsLen y:Nat):Int)=((bitsLen y:Nat):Int)/\bitsLen y<=8:=fun y hy=>by
  have:bitsLen y<=8:=(bitsLen_le_iff y 8).2 (by omega)
  exact⟨Ag (by omega) (by omega),this⟩
 by_cases h1:4294967296<=x
 ·have c1:decide ((4294967296:Int)<=x)=true:=by simp;omega
  have hE:=P2 (k:=32) (x:=x) h1
  obtain⟨y,hy⟩:∃ y,y=x / 4294967296:=⟨_,rfl⟩
  have hyl:y<=256:=by omega
  rw[show (2:Nat) ^ 32=4294967296 from rfl,<-hy] at hE
  rw[<- hy] at s32
  have c2:decide ((65536:Int)<=y)=false:=by simp;omega
  by_cases h3:256<=y
  ·have c3:decide ((256:Int)<=y)=true:=by simp;omega
   have s8:F4 .shr .u64 (y:Int) 8=some (.int .u64 ((y / 256:Nat):Int)):=shrU (c:=8) (by decide)
   have hE2:=P2 (k:=8) (x:=y) h3
   obtain⟨z,hz⟩:∃ z,z=y / 256:=⟨_,rfl⟩
   have hzl:z<256:=by omega
   rw[show (2:Nat) ^ 8=256 from rfl,<-hz] at hE2
   rw[<- hz] at s8
   rw[hE,hE2]
   obtain⟨w1,w2⟩:=i64 z hzl
   simp +contextual (disch:=omega) only[go_sem,Bg,c1,s32,c2,c3,s8,key3 z hzl,A1,(show idxG (GV.str Lib.len8tab) _=_ from Qi hzl),w1]
   simp<;>omega
  ·have c3:decide ((256:Int)<=y)=false:=by simp;omega
   have hzl:y<256:=by omega
   obtain⟨w1,w2⟩:=i64 y hzl
   rw[hE]
   simp +contextual (disch:=omega) only[go_sem,Bg,c1,s32,c2,c3,key3 y hzl,A1,(show idxG (GV.str Lib.len8tab) _=_ from Qi hzl),w1]
 ·have c1:decide ((4294967296:Int)<=x)=false:=by simp;omega
  by_cases h2:65536<=x
  ·have c2:decide ((65536:Int)<=x)=true:=by simp;omega
   have s16:F4 .shr .u64 (x:Int) 16=some (.int .u64 ((x / 65536:Nat):Int)):=shrU (c:=16) (by decide)
   have hE:=P2 (k:=16) (x:=x) h2
   obtain⟨y,hy⟩:∃ y,y=x / 65536:=⟨_,rfl⟩
   have hyl:y<65536:=by omega
   rw[show (2:Nat) ^ 16=65536 from rfl,<-hy] at hE
   rw[<- hy] at s16
   by_cases h3:256<=y
   ·have c3:decide ((256:Int)<=y)=true:=by simp;omega
    have s8:F4 .shr .u64 (y:Int) 8=some (.int .u64 ((y / 256:Nat):Int)):=shrU (c:=8) (by decide)
    have hE2:=P2 (k:=8) (x:=y) h3
    obtain⟨z,hz⟩:∃ z,z=y / 256:=⟨_,rfl⟩
    have hzl:z<256:=by omega
    rw[show (2:Nat) ^ 8=256 from rfl,<-hz] at hE2
    rw[<- hz] at s8
    rw[hE,hE2]
    obtain⟨w1,w2⟩:=i64 z hzl
    simp +contextual (disch:=omega) only[go_sem,Bg,c1,s16,c2,c3,s8,key3 z hzl,A1,(show idxG (GV.str Lib.len8tab) _=_ from Qi hzl),w1]
    simp<;>omega
   ·have c3:decide ((256:Int)<=y)=false:=by simp;omega
    have hzl:y<256:=by omega
    obtain⟨w1,w2⟩:=i64 y hzl
    rw[hE]
    simp +contextual (disch:=omega) only[go_sem,Bg,c1,s16,c2,c3,key3 y hzl,A1,(show idxG (GV.str Lib.len8tab) _=_ from Qi hzl),w1]
    simp<;>omega
  ·have c2:decide ((65536:Int)<=x)=false:=by simp;omega
   by_cases h3:256<=x
   ·have c3:decide ((256:Int)<=x)=true:=by simp;omega
    have s8:F4 .shr .u64 (x:Int) 8=some (.int .u64 ((x / 256:Nat):Int)):=shrU (c:=8) (by decide)
    have hE2:=P2 (k:=8) (x:=x) h3
    obtain⟨z,hz⟩:∃ z,z=x / 256:=⟨_,rfl⟩
    have hzl:z<256:=by omega
    rw[show (2:Nat) ^ 8=256 from rfl,<-hz] at hE2
    rw[<- hz] at s8
    rw[hE2]
    obtain⟨w1,w2⟩:=i64 z hzl
    simp +contextual (disch:=omega) only[go_sem,Bg,c1,c2,c3,s8,key3 z hzl,A1,(show idxG (GV.str Lib.len8tab) _=_ from Qi hzl),w1]
    simp<;>omega
   ·have c3:decide ((256:Int)<=x)=false:=by simp;omega
    have hzl:x<256:=by omega
    obtain⟨w1,w2⟩:=i64 x hzl
    simp +contextual (disch:=omega) only[go_sem,Bg,c1,c2,c3,key3 x hzl,A1,(show idxG (GV.str Lib.len8tab) _=_ from Qi hzl),w1]
    simp<;>omega
theorem M7 (U:St) (x:Nat) (hx:x<=1099511627776):Ret Tryz.prog 130 [.int .u64 x] U (gi (bitsLen x)) U:=by
 refine Ac Sv (Z0z rfl) trivial ?_
 simp +contextual (disch:=omega) only[go_sem,Jy]
 refine A5 (A5m U x hx) ?_
 simp +contextual (disch:=omega) only[go_sem]
theorem Agg (U:St) (x:Nat) (hx:x<=1099511627776):Ret Tryz.prog 257 [gi x] U (.int .u64 (2 ^ bitsLen x:Nat)) U:=by
 refine Ac Ie (Z0z rfl) trivial ?_
 have w1:IntKind.u64.wrap (x:Int)=x:=J4 (by omega) (by omega)
 have hb:=Abv hx
 have hp:2 ^ bitsLen x<=2 ^ 41:=Nat.pow_le_pow_right (by omega) hb
 have s1:F4 .shl .u64 1 ((bitsLen x:Nat):Int)=some (.int .u64 (2 ^ bitsLen x:Nat)):=by
  unfold F4
  rw[if_neg (by omega)]
  show some (GV.int .u64 (IntKind.u64.wrap (1*2 ^ min (((bitsLen x:Nat):Int).toNat) 64)))=_
  rw[Za2,Zat (by omega),Int.one_mul]
  have h2:(2:Int) ^ bitsLen x=((2 ^ bitsLen x:Nat):Int):=by simp
  obtain⟨q,hq⟩:∃ q,q=2 ^ bitsLen x:=⟨_,rfl⟩
  rw[<- hq] at hp
  rw[h2,<-hq,J4 (by omega) (by omega)]
 simp +contextual (disch:=omega) only[go_sem,Eq,w1]
 refine A5 (M7 U x hx) ?_
 simp +contextual (disch:=omega) only[go_sem,s1]
theorem Agh (c:Int) (hc:0<=c):∃ f:Int->Int,∀ a,F4 .shl .u64 a c=some (.int .u64 (f a)):=⟨fun a=>IntKind.u64.wrap (a*2 ^ min c.toNat IntKind.u64.bits),fun a=>by unfold F4;rw[if_neg (by omega)]⟩
theorem Ak0 (c:Int) (hc:0<=c):∃ f:Int->Int,∀ a,F4 .shr .u64 a c=some (.int .u64 (f a)):=⟨fun a=>a.fdiv (2 ^ min c.toNat IntKind.u64.bits),fun a=>by unfold F4;rw[if_neg (by omega)]⟩
theorem Ak1:∃ f:Int->Int->Int,∀ a b,binG .xor (.int .u64 a) (.int .u64 b)=some (.int .u64 (f a b)):=⟨fun a b=>IntKind.u64.wrap (BitVec.ofInt IntKind.u64.bits a ^^^ BitVec.ofInt IntKind.u64.bits b).toNat,fun a b=>rfl⟩
theorem andU {y:Int} {m:Nat} (hm:m<2 ^ 62):∃ w:Nat,w≤m/\binG .and (.int .u64 y) (.int .u64 (m:Int))=some (.int .u64 (w:Int)):=by
 have h1:(BitVec.ofInt IntKind.u64.bits y &&& BitVec.ofInt IntKind.u64.bits (m:Int)).toNat<=m:=by
  rw[BitVec.toNat_and]
  refine Nat.le_trans Nat.and_le_right ?_
  rw[BitVec.toNat_ofInt]
  show((m:Int) % ((2 ^ 64:Nat):Int)).toNat<=m
  omega
 refine⟨_,h1,?_⟩
 show some (GV.int .u64 (IntKind.u64.wrap _))=_
 rw[J4 (by omega) (by omega)]
theorem Aif {U0 U:St} {rs:List Thg} {g:Nat} {y:Int} (H:Hp U0 U rs) (m:Nat) (hm:rs[m]? =some (pt 1 g [.int .u64 y])):∃(y':Int) (N:St),Ret Tryz.prog 258 [.ptr g 0] U (.int .u64 y') N/\Hp U0 N (rs.set m (pt 1 g [.int .u64 y'])):=by
 have key:∃ r N,Ret Tryz.prog 258 [.ptr g 0] U r N/\∃ y':Int,r= .int .u64 y'/\Hp U0 N (rs.set m (pt 1 g [.int .u64 y'])):=by
  refine Au J3 (Z0z rfl) ?_
  obtain⟨f1,hf1⟩:=Agh 13 (by decide)
  obtain⟨f2,hf2⟩:=Ak0 7 (by decide)
  obtain⟨f3,hf3⟩:=Agh 17 (by decide)
  obtain⟨fb,hfb⟩:=Ak1
  have e1:∀ z:Int,∀ w:GV,Ao [w] 0 [GV.int .u64 z]=[.int .u64 z]:=fun z w=>rfl
  have sg:∀ z:Int,(seg [GV.int .u64 z] 0 1).bind (mkv false)=some (.int .u64 z):=fun z=>rfl
  have hml:=(Zac.1 hm).1
  have l1:=A4 (a:=false) (n:=1) (off:=0) (H.pt m hm)
  obtain⟨N1,st1,H1,hl1⟩:=H.st m hm 1 0 (.int .u64 (fb y (f1 y))) rfl (by decide) (by simp)
  simp only[GV.cells,e1] at H1
  obtain⟨y1,hy1⟩:∃ y1,y1=fb y (f1 y):=⟨_,rfl⟩
  rw[<- hy1] at st1 H1
  have l2:=A4 (a:=false) (n:=1) (off:=0) (H1.pt m (Zab hml))
  obtain⟨N2,st2,H2,hl2⟩:=H1.st m (Zab hml) 1 0 (.int .u64 (fb y1 (f2 y1))) rfl (by decide) (by simp)
  simp only[GV.cells,e1] at H2
  obtain⟨y2,hy2⟩:∃ y1',y1'=fb y1 (f2 y1):=⟨_,rfl⟩
  rw[<- hy2] at st2 H2
  rw[Zak] at H2
  have l3:=A4 (a:=false) (n:=1) (off:=0) (H2.pt m (Zab hml))
  obtain⟨N3,st3,H3,hl3⟩:=H2.st m (Zab hml) 1 0 (.int .u64 (fb y2 (f3 y2))) rfl (by decide) (by simp)
  simp only[GV.cells,e1] at H3
  obtain⟨y3,hy3⟩:∃ y1',y1'=fb y2 (f3 y2):=⟨_,rfl⟩
  rw[<- hy3] at st3 H3
  rw[Zak] at H3
  have l4:=A4 (a:=false) (n:=1) (off:=0) (H3.pt m (Zab hml))
  simp only[sg] at l1 l2 l3 l4
  simp +contextual (disch:=omega) only[go_sem,F9,hf1,hf2,hf3,hfb,l1,<-hy1,st1,l2,<-hy2,st2,l3,<-hy3,st3,l4]
  exact⟨_,rfl,by omega,y3,rfl,H3⟩
 obtain⟨r,N,R,y',rfl,h⟩:=key
 exact⟨y',N,R,h⟩
end
namespace C
open Go Go.RowKit Go.Proofs.YtckobfochhjmdaaGreatDoor.Sy Go.Sort
variable {Y:Type} [Inhabited Y] {lt:Y->Y->Bool} {U0 U:St} {rs:List Thg} {k g:Nat} {s:Int} {v:GV} {d:Array Y}
theorem order2_ret (S:SrtC Y lt) (H:Holds S.e U0 U (pt 1 g [gi s]::rs) (k+1) v d) {a b:Nat} (ha:a<d.size) (hb:b<d.size):∃(r1 r2:Nat) (s':Int) (N:St),Ret Tryz.prog S.q.order2 [v,gi a,gi b,.ptr g 0,.fn S.f []] U (.tup [gi r1,gi r2]) N/\Holds S.e U0 N (pt 1 g [gi s']::rs) (k+1) v d/\((r1=a/\r2=b)∨(r1=b/\r2=a)):=by
 have key:∃ r N,Ret Tryz.prog S.q.order2 [v,gi a,gi b,.ptr g 0,.fn S.f []] U r N/\∃(r1 r2:Nat) (s':Int),r= .tup [gi r1,gi r2]/\Holds S.e U0 N (pt 1 g [gi s']::rs) (k+1) v d/\((r1=a/\r2=b)∨(r1=b/\r2=a)):=by
  refine Au S.h_order2 (Z0z rfl) ?_
  simp +contextual (disch:=omega) only[go_sem,A3g,A1,H.iad ha,H.ld ha,H.iad hb,H.ld hb]
  refine A5 (S.call _ _ _) ?_
  cases hl:lt d[b]! d[a]! with
  |true=>
   have l1:=A4 (a:=false) (n:=1) (off:=0) (H.2.pt 0 rfl)
   have l1:ldG false 1 U (.ptr g 0)=some (gi s):=l1
   obtain⟨N1,st1,H1,hl1⟩:=H.2.st 0 rfl 1 0 (gi (IntKind.i64.wrap (s+1))) rfl (by decide) (by simp)
   simp +contextual (disch:=omega) only[go_sem,hl,S.klt,l1,st1]
   exact⟨_,rfl,by omega,b,a,IntKind.i64.wrap (s+1),rfl,⟨H.1,H1⟩,.inr ⟨rfl,rfl⟩⟩
  |false=>
   simp +contextual (disch:=omega) only[go_sem,hl,S.klt]
   exact⟨_,rfl,a,b,s,rfl,H,.inl ⟨rfl,rfl⟩⟩
 obtain⟨r,N,R,r1,r2,s',rfl,h1,h2⟩:=key
 exact⟨r1,r2,s',N,R,h1,h2⟩
theorem median_ret (S:SrtC Y lt) (H:Holds S.e U0 U (pt 1 g [gi s]::rs) (k+1) v d) {a b c:Nat} (ha:a<d.size) (hb:b<d.size) (hc:c<d.size):∃(r1:Nat) (s':Int) (N:St),Ret Tryz.prog S.q.median [v,gi a,gi b,gi c,.ptr g 0,.fn S.f []] U (gi r1) N/\Holds S.e U0 N (pt 1 g [gi s']::rs) (k+1) v d/\(r1=a∨r1=b∨r1=c):=by
 have key:∃ r N,Ret Tryz.prog S.q.median [v,gi a,gi b,gi c,.ptr g 0,.fn S.f []] U r N/\∃(r1:Nat) (s':Int),r=gi r1/\Holds S.e U0 N (pt 1 g [gi s']::rs) (k+1) v d/\(r1=a∨r1=b∨r1=c):=by
  refine Au S.h_median (Z0z rfl) ?_
  simp +contextual (disch:=omega) only[go_sem,A3e]
  obtain⟨a1,b1,s1,N1,R1,H1,h1⟩:=order2_ret S H ha hb
  refine Ak R1 ?_
  simp +contextual (disch:=omega) only[go_sem]
  obtain⟨b2,c2,s2,N2,R2,H2,h2⟩:=order2_ret S H1 (a:=b1) (b:=c) (by omega) hc
  refine Ak R2 ?_
  simp +contextual (disch:=omega) only[go_sem]
  obtain⟨a3,b3,s3,N3,R3,H3,h3⟩:=order2_ret S H2 (a:=a1) (b:=b2) (by omega) (by omega)
  refine Ak R3 ?_
  simp +contextual (disch:=omega) only[go_sem]
  have:=R1.2.1
  have:=R2.2.1
  have:=R3.2.1
  exact⟨_,rfl,by omega,b3,s3,rfl,H3,by omega⟩
 obtain⟨r,N,R,r1,s',rfl,h1,h2⟩:=key
 exact⟨r1,s',N,R,h1,h2⟩
theorem medAdj_ret (S:SrtC Y lt) (H:Holds S.e U0 U (pt 1 g [gi s]::rs) (k+1) v d) {a:Nat} (h0:0<a) (ha:a+1<d.size) (hs:d.size<=1099511627776):∃(r1:Nat) (s':Int) (N:St),Ret Tryz.prog S.q.medianAdjacent [v,gi a,.ptr g 0,.fn S.f []] U (gi r1) N/\Holds S.e U0 N (pt 1 g [gi s']::rs) (k+1) v d/\a<=r1+1/\r1<=a+1:=by
 have key:∃ r N,Ret Tryz.prog S.q.medianAdjacent [v,gi a,.ptr g 0,.fn S.f []] U r N/\∃(r1:Nat) (s':Int),r=gi r1/\Holds S.e U0 N (pt 1 g [gi s']::rs) (k+1) v d/\a<=r1+1/\r1<=a+1:=by
  refine Au S.h_medianAdjacent (Z0z rfl) ?_
  obtain⟨p,rfl⟩:∃ p,a=p+1:=⟨a - 1,by omega⟩
  have p1:(p:Int)+1 - 1=p:=by omega
  simp +contextual (disch:=omega) only[go_sem,Hf,p1]
  obtain⟨r1,s1,N1,R1,H1,h1⟩:=median_ret S H (a:=p) (b:=p+1) (c:=p+1+1) (by omega) (by omega) (by omega)
  refine Ak R1 ?_
  simp +contextual (disch:=omega) only[go_sem]
  have:=R1.2.1
  exact⟨_,rfl,by omega,r1,s1,rfl,H1,by omega,by omega⟩
 obtain⟨r,N,R,r1,s',rfl,h1,h2⟩:=key
 exact⟨r1,s',N,R,h1,h2⟩
theorem choose_ret (S:SrtC Y lt) (H:Holds S.e U0 U rs k v d) {a b:Nat} (hab:a<b) (hb:b<=d.size) (hs:d.size<=1099511627776):∃(p h:Nat) (N:St),Ret Tryz.prog S.q.choosePivot [v,gi a,gi b,.fn S.f []] U (.tup [gi p,gi h]) N/\Holds S.e U0 N rs k v d/\a<=p/\p<b/\h<=2:=by
 have key:∃ r N,Ret Tryz.prog S.q.choosePivot [v,gi a,gi b,.fn S.f []] U r N/\∃(p h:Nat),r= .tup [gi p,gi h]/\Holds S.e U0 N rs k v d/\a<=p/\p<b/\h<=2:=by
  refine Au S.h_choosePivot (Z0z rfl) ?_
  obtain⟨l,hl⟩:∃ l,l=b - a:=⟨_,rfl⟩
  have hlI:(b:Int) - a=l:=by omega
  obtain⟨q,hq⟩:∃ q,q=l / 4:=⟨_,rfl⟩
  have hqI:(l:Int).tdiv 4=q:=by rw[hq];rfl
  obtain⟨i,hi⟩:∃ i,i=a+q*1:=⟨_,rfl⟩
  obtain⟨j,hj⟩:∃ i,i=a+q*2:=⟨_,rfl⟩
  obtain⟨m,hm⟩:∃ i,i=a+q*3:=⟨_,rfl⟩
  have hiI:(a:Int)+q*1=i:=by omega
  have hjI:(a:Int)+q*2=j:=by omega
  have hmI:(a:Int)+q*3=m:=by omega
  have H0:Holds S.e U0 (U++[some (.row 1 [gi 0])]) (pt 1 U.length [gi 0]::rs) (k+1) v d:=⟨by simpa using H.1,H.2.new 1 [gi 0]⟩
  have L0:(U++[some (Blk.row 1 [GV.int IntKind.i64 0])]).length=U.length+1:=by simp
  have L1:(U++[some (Blk.row 1 [gi 0])]).length=U.length+1:=L0
  by_cases h8:8<=l
  ·have c8:decide ((8:Int)<=l)=true:=by simp;omega
   by_cases h50:50<=l
   ·have c50:decide ((50:Int)<=l)=true:=by simp;omega
    simp +contextual (disch:=omega) only[go_sem,Es,hlI,hqI,hiI,hjI,hmI,c8,c50]
    obtain⟨i1,s1,N1,R1,H1,h1,h1'⟩:=medAdj_ret S H0 (a:=i) (by omega) (by omega) hs
    refine Ak R1 ?_
    simp +contextual (disch:=omega) only[go_sem]
    obtain⟨j1,s2,N2,R2,H2,h2,h2'⟩:=medAdj_ret S H1 (a:=j) (by omega) (by omega) hs
    refine Ak R2 ?_
    simp +contextual (disch:=omega) only[go_sem]
    obtain⟨m1,s3,N3,R3,H3,h3,h3'⟩:=medAdj_ret S H2 (a:=m) (by omega) (by omega) hs
    refine Ak R3 ?_
    simp +contextual (disch:=omega) only[go_sem]
    obtain⟨p,s4,N4,R4,H4,h4⟩:=median_ret S H3 (a:=i1) (b:=j1) (c:=m1) (by omega) (by omega) (by omega)
    refine Ak R4 ?_
    have:=R1.2.1
    have:=R2.2.1
    have:=R3.2.1
    have:=R4.2.1
    have l1:ldG false 1 N4 (.ptr U.length 0)=some (gi s4):=A4 (a:=false) (n:=1) (off:=0) ((H4).2.pt 0 rfl)
    simp +contextual (disch:=omega) only[go_sem,l1]
    have hout:Holds S.e U0 N4 rs k v d:=⟨H.1,(H4).2.drop1⟩
    have key0:((s4:Int)==0)=decide ((s4:Int)=0):=rfl
    by_cases h0:(s4:Int)=0
    ·have c0:((s4:Int)==0)=true:=by simp[h0]
     simp +contextual (disch:=omega) only[go_sem,c0]
     exact⟨_,rfl,by omega,p,1,rfl,hout,by omega,by omega,by omega⟩
    ·have c0:((s4:Int)==0)=false:=by simp[h0]
     by_cases h12:(s4:Int)=12
     ·have c1:((s4:Int)==12)=true:=by simp[h12]
      simp +contextual (disch:=omega) only[go_sem,c0,c1]
      exact⟨_,rfl,by omega,p,2,rfl,hout,by omega,by omega,by omega⟩
     ·have c1:((s4:Int)==12)=false:=by simp[h12]
      simp +contextual (disch:=omega) only[go_sem,c0,c1]
      exact⟨_,rfl,by omega,p,0,rfl,hout,by omega,by omega,by omega⟩
   ·have c50:decide ((50:Int)<=l)=false:=by simp;omega
    simp +contextual (disch:=omega) only[go_sem,Es,hlI,hqI,hiI,hjI,hmI,c8,c50]
    obtain⟨p,s4,N4,R4,H4,h4⟩:=median_ret S H0 (a:=i) (b:=j) (c:=m) (by omega) (by omega) (by omega)
    refine Ak R4 ?_
    have:=R4.2.1
    have l1:ldG false 1 N4 (.ptr U.length 0)=some (gi s4):=A4 (a:=false) (n:=1) (off:=0) ((H4).2.pt 0 rfl)
    simp +contextual (disch:=omega) only[go_sem,l1]
    have hout:Holds S.e U0 N4 rs k v d:=⟨H.1,(H4).2.drop1⟩
    have key0:((s4:Int)==0)=decide ((s4:Int)=0):=rfl
    by_cases h0:(s4:Int)=0
    ·have c0:((s4:Int)==0)=true:=by simp[h0]
     simp +contextual (disch:=omega) only[go_sem,c0]
     exact⟨_,rfl,by omega,p,1,rfl,hout,by omega,by omega,by omega⟩
    ·have c0:((s4:Int)==0)=false:=by simp[h0]
     by_cases h12:(s4:Int)=12
     ·have c1:((s4:Int)==12)=true:=by simp[h12]
      simp +contextual (disch:=omega) only[go_sem,c0,c1]
      exact⟨_,rfl,by omega,p,2,rfl,hout,by omega,by omega,by omega⟩
     ·have c1:((s4:Int)==12)=false:=by simp[h12]
      simp +contextual (disch:=omega) only[go_sem,c0,c1]
      exact⟨_,rfl,by omega,p,0,rfl,hout,by omega,by omega,by omega⟩
  ·have c8:decide ((8:Int)<=l)=false:=by simp;omega
   have l1:ldG false 1 (U++[some (.row 1 [gi 0])]) (.ptr U.length 0)=some (gi 0):=A4 (a:=false) (n:=1) (off:=0) (H0.2.pt 0 rfl)
   have c0:((0:Int)==0)=true:=rfl
   simp +contextual (disch:=omega) only[go_sem,Es,hlI,hqI,hiI,hjI,hmI,c8,l1,c0]
   exact⟨_,rfl,by omega,j,1,rfl,⟨H.1,H0.2.drop1⟩,by omega,by omega,by omega⟩
 obtain⟨r,N,R,p,h,rfl,h1,h2⟩:=key
 exact⟨p,h,N,R,h1,h2⟩
theorem break_ret (S:SrtC Y lt) (H:Holds S.e U0 U rs k v d) {a b:Nat} (hab:a<=b) (hb:b<=d.size) (hs:d.size<=1099511627776):∃(d':Array Y) (N:St),Ret Tryz.prog S.q.breakPatterns [v,gi a,gi b,.fn S.f []] U (.tup []) N/\Holds S.e U0 N rs k v d'/\PermIn a b d d':=by
 have key:∃ r N,Ret Tryz.prog S.q.breakPatterns [v,gi a,gi b,.fn S.f []] U r N/\∃(d':Array Y),r= .tup []/\Holds S.e U0 N rs k v d'/\PermIn a b d d':=by
  refine Au S.h_breakPatterns (Z0z rfl) ?_
  obtain⟨h,hh⟩:∃ l,l=b - a:=⟨_,rfl⟩
  have hhI:(b:Int) - a=h:=by omega
  by_cases h8:8<=h
  ·have c8:decide ((8:Int)<=h)=true:=by simp;omega
   have wu:IntKind.u64.wrap (h:Int)=h:=J4 (by omega) (by omega)
   obtain⟨q,hq⟩:∃ q,q=h / 4:=⟨_,rfl⟩
   have hqI:(h:Int).tdiv 4=q:=by rw[hq];rfl
   obtain⟨m,hm⟩:∃ i,i=a+q*2:=⟨_,rfl⟩
   have hmI:(a:Int)+q*2=m:=by omega
   have hmJ:(m:Int) - 1=((m - 1:Nat):Int):=by omega
   have H0:Holds S.e U0 (U++[some (.row 1 [.int .u64 h])]) (pt 1 U.length [.int .u64 h]::rs) (k+1) v d:=⟨by simpa using H.1,H.2.new 1 [.int .u64 h]⟩
   have sp:Ao [GV.int .u64 0] 0 [GV.int .u64 (h:Int)]=[.int .u64 h]:=rfl
   simp +contextual (disch:=omega) only[go_sem,Fe,hhI,c8,wu,GV.cells,sp,Zam,Zaj,Nat.reduceAdd,Zaa,Nat.zero_lt_one,and_self,if_true]
   rw[S.hnp]
   have hbl:h<=1099511627776:=by omega
   refine A5 (Agg _ h hbl) ?_
   obtain⟨M,hM⟩:∃ M,M=2 ^ bitsLen h:=⟨_,rfl⟩
   have hM1:=Go.Sort.two_pow_bitsLen_le (n:=h) (by omega)
   have hM2:=Nat.two_pow_pos (bitsLen h)
   rw[<- hM] at hM1 hM2
   rw[<- hM]
   have M1:(M:Int) - 1=((M - 1:Nat):Int):=by omega
   have wM:IntKind.u64.wrap ((M - 1:Nat):Int)=((M - 1:Nat):Int):=J4 (by omega) (by omega)
   have L0:(U++[some (Blk.row 1 [GV.int .u64 (h:Int)])]).length=U.length+1:=by simp
   simp +contextual (disch:=omega) only[go_sem,hqI,hmI,hmJ]
   refine Br (fun n env N=>∃(x:Nat) (y:Int) (D:Array Y),env 0=v/\env 1=gi a/\env 8=gi h/\env 9= .ptr U.length 0/\env 10= .int .u64 (M:Nat)/\env 11=gi x/\m+2 - x=n/\m - 1<=x/\x<=m+2/\U.length<=N.length/\Holds S.e U0 N (pt 1 U.length [.int .u64 y]::rs) (k+1) v D/\PermIn a b d D) (m+2 - (m - 1)) ⟨m - 1,h,d,rfl,rfl,rfl,rfl,rfl,rfl,rfl,Zaa _,by omega,by omega,H0,permIn_refl _ _ _⟩ ?_
   rintro J hJ n env N ⟨x,y,D,e0,e1,e6,e7,e8,e9,hn,hx1,hx2,hle,hH,hP⟩
   have hD:D.size=d.size:=hP.1
   by_cases hx:x<=m+1
   ·have c0:decide ((x:Int)<=(m:Int)+1)=true:=by simp;omega
    simp +contextual (disch:=omega) only[go_sem,e0,e1,e6,e7,e8,e9,hqI,hmI,c0]
    rw[S.hxs]
    obtain⟨y',N1,R1,H1⟩:=Aif hH.2 0 rfl
    have hle1:=R1.2.1
    have H1:Holds S.e U0 N1 (pt 1 U.length [.int .u64 y']::rs) (k+1) v D:=⟨hH.1,H1⟩
    obtain⟨w,hw,hwE⟩:=andU (y:=y') (m:=M - 1) (by omega)
    have ww:IntKind.i64.wrap (w:Int)=w:=Ag (by omega) (by omega)
    refine Ak R1 ?_
    simp +contextual (disch:=omega) only[go_sem,e0,e1,e6,e7,e8,e9,M1,wM,hwE,ww]
    obtain⟨z,hz,hzI⟩:∃ z:Nat,z<h/\(z:Int)=if h<=w then(w:Int) - h else w:=by
     by_cases hc:h<=w
     ·exact⟨w - h,by omega,by rw[if_pos hc];omega⟩
     ·exact⟨w,by omega,by rw[if_neg hc]⟩
    have nz:Bb (some (.int .i64 ((a:Int)+z)))=some (a+z):=B6 (by simp)
    obtain⟨N3,N4,s3,s4,hH4,hl4⟩:=H1.sw (a:=x) (b:=a+z) (by omega) (by omega)
    have hP2:=permIn_trans _ _ _ _ _ hP (swp_permIn D a b x (a+z) (by omega) (by omega) (by omega) (by omega) (by omega))
    by_cases hc:h<=w
    ·rw[if_pos hc] at hzI
     have cc:decide ((h:Int)<=w)=true:=by simp;omega
     simp +contextual (disch:=omega) only[go_sem,e0,e1,e6,e7,e8,e9,cc,<-hzI,nz,A1,H1.iad (j:=x) (by omega),H1.ld (j:=x) (by omega),H1.iad (j:=a+z) (by omega),H1.ld (j:=a+z) (by omega),s3,s4]
     refine⟨m+2 - (x+1),by omega,hJ _ _ _ ⟨x+1,y',_,?_,?_,?_,?_,?_,?_,rfl,by omega,by omega,by omega,hH4,hP2⟩⟩
     all_goals simp +contextual (disch:=omega) only[go_sem,e0,e1,e6,e7,e8,e9]
    ·rw[if_neg hc] at hzI
     have hzw:z=w:=by omega
     rw[hzw] at nz s3 s4 hH4 hP2 hz
     have cc:decide ((h:Int)<=w)=false:=by simp;omega
     simp +contextual (disch:=omega) only[go_sem,e0,e1,e6,e7,e8,e9,cc,nz,A1,H1.iad (j:=x) (by omega),H1.ld (j:=x) (by omega),H1.iad (j:=a+w) (by omega),H1.ld (j:=a+w) (by omega),s3,s4]
     refine⟨m+2 - (x+1),by omega,hJ _ _ _ ⟨x+1,y',_,?_,?_,?_,?_,?_,?_,rfl,by omega,by omega,by omega,hH4,hP2⟩⟩
     all_goals simp +contextual (disch:=omega) only[go_sem,e0,e1,e6,e7,e8,e9]
   ·have c0:decide ((x:Int)<=(m:Int)+1)=false:=by simp;omega
    simp +contextual (disch:=omega) only[go_sem,e0,e1,e6,e7,e8,e9,hqI,hmI,c0]
    exact⟨_,rfl,hle,D,rfl,⟨H.1,hH.2.drop1⟩,hP⟩
  ·have c8:decide ((8:Int)<=h)=false:=by simp;omega
   simp +contextual (disch:=omega) only[go_sem,Fe,hhI,c8]
   exact⟨_,rfl,d,rfl,H,permIn_refl _ _ _⟩
 obtain⟨r,N,R,d',rfl,h⟩:=key
 exact⟨d',N,R,h⟩
end C
namespace C
open Go Go.RowKit Go.Proofs.YtckobfochhjmdaaGreatDoor.Sy Go.Sort
variable {Y:Type} [Inhabited Y] {lt:Y->Y->Bool} {U0:St} {rs:List Thg} {k:Nat} {v:GV}
theorem pdq_ret (S:SrtC Y lt) (hS:SWO lt):∀(n:Nat) (d:Array Y) (a b l:Nat) (U:St),b - a<=n->a<=b->b<=d.size->d.size<=1099511627776->l<=1099511627776->Below lt a b d->Holds S.e U0 U rs k v d->∃(d':Array Y) (N:St),Ret Tryz.prog S.q.pdqsort [v,gi a,gi b,gi l,.fn S.f []] U (.tup []) N/\Holds S.e U0 N rs k v d'/\PermIn a b d d'/\SortedIn lt a b d':=by
 intro n
 induction n with
 |zero=>
  intro d a b l U hn hab hb hs hl hB H
  have key:∃ r N,Ret Tryz.prog S.q.pdqsort [v,gi a,gi b,gi l,.fn S.f []] U r N/\r= .tup []/\Holds S.e U0 N rs k v (insertionSort lt d a b):=by
   refine Au S.h_pdqsort (Z0z rfl) ?_
   obtain rfl:a=b:=by omega
   simp +contextual (disch:=omega) only[go_sem,M5]
   refine Tm (fun n env N=>env 0=v/\env 1=gi a/\env 2=gi a/\env 4= .fn S.f []/\N=U) 0 ⟨rfl,rfl,rfl,rfl,rfl⟩ ?_
   rintro n env N ⟨e0,e1,e2,e4,rfl⟩
   have a0:(a:Int) - a=0:=by omega
   have c0:decide ((0:Int)<=12)=true:=rfl
   simp +contextual (disch:=omega) only[go_sem,e0,e1,e2,e4,a0,c0]
   obtain⟨N1,R,H1⟩:=ins_ret S H (a:=a) (b:=a) (Zaa _) hb hs
   refine Ak R ?_
   simp +contextual (disch:=omega) only[go_sem]
   exact⟨_,rfl,R.2.1,rfl,H1⟩
  obtain⟨r,N,R,rfl,H1⟩:=key
  obtain⟨p1,p2⟩:=insertionSort_holds hS d a b hab hb
  exact⟨_,N,R,H1,p1,p2⟩
 |succ Nq ih=>
  intro d a b l U hn hab hb hs hl hB H
  have key:∃ r N,Ret Tryz.prog S.q.pdqsort [v,gi a,gi b,gi l,.fn S.f []] U r N/\∃ d',r= .tup []/\Holds S.e U0 N rs k v d'/\PermIn a b d d'/\SortedIn lt a b d':=by
   refine Au S.h_pdqsort (Z0z rfl) ?_
   simp +contextual (disch:=omega) only[go_sem,M5]
   refine Br (fun n env N=>∃(x y l:Nat) (wb wp:Bool) (D:Array Y),env 0=v/\env 1=gi x/\env 2=gi y/\env 3=gi l/\env 4= .fn S.f []/\env 10= .bool wb/\env 11= .bool wp/\y - x=n/\l<=1099511627776/\a<=x/\x<=y/\y<=b/\D.size=d.size/\U.length<=N.length/\Holds S.e U0 N rs k v D/\Below lt x y D/\∀ R,PermIn x y D R->SortedIn lt x y R->PermIn a b d R/\SortedIn lt a b R) (b - a) ⟨a,b,l,true,true,d,rfl,rfl,rfl,rfl,rfl,rfl,rfl,rfl,hl,Zaa _,hab,Zaa _,rfl,Zaa _,H,hB,fun R h1 h2=>⟨h1,h2⟩⟩ ?_
   clear H hB hl
   rintro J hJ n env N ⟨x,y,l,wb,wp,D,e0,e1,e2,e3,e4,e8,e9,hn2,hl,hax,hxy,hyb,hD,hle,hH,hB,hfin⟩
   rw[Ai7]
   obtain⟨h,hh⟩:∃ h,h=y - x:=⟨_,rfl⟩
   have hhI:(y:Int) - x=h:=by omega
   refine Dk (fun env N'=>env 0=v/\env 1=gi x/\env 2=gi y/\env 3=gi l/\env 4= .fn S.f []/\env 10= .bool wb/\env 11= .bool wp/\env 12=gi h/\N=N') (fun Yq hY=>by
    simp +contextual (disch:=omega) only[go_sem,e0,e1,e2,e3,e4,e8,e9,hhI]
    refine hY _ _ ⟨?_,?_,?_,?_,?_,?_,?_,?_,rfl⟩
    all_goals simp +contextual (disch:=omega) only[go_sem,e0,e1,e2,e3,e4,e8,e9,hhI]) ?_
   clear e0 e1 e2 e3 e4 e8 e9
   rintro env N' ⟨e0,e1,e2,e3,e4,e8,e9,e10,rfl⟩
   refine Dk (fun env N'=>env 0=v/\env 1=gi x/\env 2=gi y/\env 3=gi l/\env 4= .fn S.f []/\env 10= .bool wb/\env 11= .bool wp/\env 12=gi h/\N=N'/\12<h) (fun Yq hY=>by
    by_cases h12:h<=12
    ·have c0:decide ((h:Int)<=12)=true:=by simp;omega
     simp +contextual (disch:=omega) only[go_sem,e0,e1,e2,e3,e4,e8,e9,e10,c0]
     obtain⟨N1,R,H1⟩:=ins_ret S hH (a:=x) (b:=y) hxy (by omega) (by omega)
     refine Ak R ?_
     simp +contextual (disch:=omega) only[go_sem]
     obtain⟨p1,p2⟩:=insertionSort_holds hS D x y hxy (by omega)
     have:=R.2.1
     exact⟨_,rfl,by omega,_,rfl,H1,hfin _ p1 p2⟩
    ·have c0:decide ((h:Int)<=12)=false:=by simp;omega
     simp +contextual (disch:=omega) only[go_sem,e0,e1,e2,e3,e4,e8,e9,e10,c0]
     refine hY _ _ ⟨?_,?_,?_,?_,?_,?_,?_,?_,rfl,by omega⟩
     all_goals simp +contextual (disch:=omega) only[go_sem,e0,e1,e2,e3,e4,e8,e9,e10]) ?_
   clear e0 e1 e2 e3 e4 e8 e9 e10
   rintro env N' ⟨e0,e1,e2,e3,e4,e8,e9,e10,rfl,h12⟩
   refine Dk (fun env N'=>env 0=v/\env 1=gi x/\env 2=gi y/\env 3=gi l/\env 4= .fn S.f []/\env 10= .bool wb/\env 11= .bool wp/\env 12=gi h/\N=N'/\0<l) (fun Yq hY=>by
    by_cases h0:l=0
    ·have c0:((l:Int)==0)=true:=by simp[h0]
     simp +contextual (disch:=omega) only[go_sem,e0,e1,e2,e3,e4,e8,e9,e10,c0]
     obtain⟨N1,R,H1⟩:=heap_ret S hH (a:=x) (b:=y) hxy (by omega) (by omega)
     refine Ak R ?_
     simp +contextual (disch:=omega) only[go_sem]
     obtain⟨p1,p2⟩:=heapSort_holds hS D x y hxy (by omega)
     have:=R.2.1
     exact⟨_,rfl,by omega,_,rfl,H1,hfin _ p1 p2⟩
    ·have c0:((l:Int)==0)=false:=by simp;omega
     simp +contextual (disch:=omega) only[go_sem,e0,e1,e2,e3,e4,e8,e9,e10,c0]
     refine hY _ _ ⟨?_,?_,?_,?_,?_,?_,?_,?_,rfl,by omega⟩
     all_goals simp +contextual (disch:=omega) only[go_sem,e0,e1,e2,e3,e4,e8,e9,e10]) ?_
   clear e0 e1 e2 e3 e4 e8 e9 e10
   rintro env N' ⟨e0,e1,e2,e3,e4,e8,e9,e10,rfl,h0⟩
   refine Dk (fun env N'=>∃(l':Nat) (E:Array Y),env 0=v/\env 1=gi x/\env 2=gi y/\env 3=gi l'/\env 4= .fn S.f []/\env 10= .bool wb/\env 11= .bool wp/\env 12=gi h/\l'<=l/\N.length<=N'.length/\Holds S.e U0 N' rs k v E/\PermIn x y D E) (fun Yq hY=>by
    cases hwb:wb with
    |true=>
     rw[hwb] at e8
     simp +contextual (disch:=omega) only[go_sem,e0,e1,e2,e3,e4,e8,e9,e10]
     refine hY _ _ ⟨l,D,?_,?_,?_,?_,?_,?_,?_,?_,Zaa _,Zaa _,hH,permIn_refl _ _ _⟩
     all_goals simp +contextual (disch:=omega) only[go_sem,e0,e1,e2,e3,e4,e8,e9,e10,hwb]
    |false=>
     rw[hwb] at e8
     simp +contextual (disch:=omega) only[go_sem,e0,e1,e2,e3,e4,e8,e9,e10]
     obtain⟨E,N1,R,H1,p1⟩:=break_ret S hH (a:=x) (b:=y) hxy (by omega) (by omega)
     refine Ak R ?_
     have l1:(l:Int) - 1=((l - 1:Nat):Int):=by omega
     simp +contextual (disch:=omega) only[go_sem,e0,e1,e2,e3,e4,e8,e9,e10]
     refine hY _ _ ⟨l - 1,E,?_,?_,?_,?_,?_,?_,?_,?_,by omega,R.2.1,H1,p1⟩
     all_goals simp +contextual (disch:=omega) only[go_sem,e0,e1,e2,e3,e4,e8,e9,e10,l1,hwb]) ?_
   clear e0 e1 e2 e3 e4 e8 e9 e10
   rintro env N1 ⟨l1,D1,e0,e1,e2,e3,e4,e8,e9,e10,hl1,hle1,hH1,hP1⟩
   have hD1:D1.size=D.size:=hP1.1
   refine Dk (fun env N'=>∃(p q:Nat),env 0=v/\env 1=gi x/\env 2=gi y/\env 3=gi l1/\env 4= .fn S.f []/\env 10= .bool wb/\env 11= .bool wp/\env 12=gi h/\env 13=gi p/\env 14=gi q/\N1.length<=N'.length/\Holds S.e U0 N' rs k v D1/\x<=p/\p<y/\q<=2) (fun Yq hY=>by
    simp +contextual (disch:=omega) only[go_sem,e0,e1,e2,e3,e4,e8,e9,e10]
    obtain⟨p,q,N2,R,H2,g1,g2,g3⟩:=choose_ret S hH1 (a:=x) (b:=y) (by omega) (by omega) (by omega)
    refine Ak R ?_
    simp +contextual (disch:=omega) only[go_sem,e0,e1,e2,e3,e4,e8,e9,e10]
    refine hY _ _ ⟨p,q,?_,?_,?_,?_,?_,?_,?_,?_,?_,?_,R.2.1,H2,g1,g2,g3⟩
    all_goals simp +contextual (disch:=omega) only[go_sem,e0,e1,e2,e3,e4,e8,e9,e10]) ?_
   clear e0 e1 e2 e3 e4 e8 e9 e10 hH hH1
   rintro env N2 ⟨p0,q0,e0,e1,e2,e3,e4,e8,e9,e10,e11,e12,hle2,hH2,g1,g2,g3⟩
   refine Dk (fun env N'=>∃(p q:Nat) (E:Array Y),env 0=v/\env 1=gi x/\env 2=gi y/\env 3=gi l1/\env 4= .fn S.f []/\env 10= .bool wb/\env 11= .bool wp/\env 12=gi h/\env 13=gi p/\env 14=gi q/\N2.length<=N'.length/\Holds S.e U0 N' rs k v E/\x<=p/\p<y/\PermIn x y D1 E) (fun Yq hY=>by
    by_cases hq:q0=2
    ·have c0:((q0:Int)==2)=true:=by simp[hq]
     simp +contextual (disch:=omega) only[go_sem,e0,e1,e2,e3,e4,e8,e9,e10,e11,e12,c0]
     obtain⟨N3,R,H3⟩:=rev_ret S hH2 (a:=x) (b:=y) (by omega) (by omega) (by omega)
     refine Ak R ?_
     have r1:(y:Int) - 1 - ((p0:Int) - x)=((y - 1 - (p0 - x):Nat):Int):=by omega
     simp +contextual (disch:=omega) only[go_sem,e0,e1,e2,e3,e4,e8,e9,e10,e11,e12,r1]
     refine hY _ _ ⟨y - 1 - (p0 - x),1,_,?_,?_,?_,?_,?_,?_,?_,?_,?_,?_,R.2.1,H3,by omega,by omega,reverseRange_holds D1 x y hxy (by omega)⟩
     all_goals simp +contextual (disch:=omega) only[go_sem,e0,e1,e2,e3,e4,e8,e9,e10,e11,Int.natCast_one]
    ·have c0:((q0:Int)==2)=false:=by simp;omega
     simp +contextual (disch:=omega) only[go_sem,e0,e1,e2,e3,e4,e8,e9,e10,e11,e12,c0]
     refine hY _ _ ⟨p0,q0,D1,?_,?_,?_,?_,?_,?_,?_,?_,?_,?_,Zaa _,hH2,g1,g2,permIn_refl _ _ _⟩
     all_goals simp +contextual (disch:=omega) only[go_sem,e0,e1,e2,e3,e4,e8,e9,e10,e11,e12]) ?_
   clear e0 e1 e2 e3 e4 e8 e9 e10 e11 e12 hH2 g1 g2 g3
   rintro env N3 ⟨p,q,D2,e0,e1,e2,e3,e4,e8,e9,e10,e11,e12,hle3,hH3,g1,g2,hP2⟩
   have hD2:D2.size=D1.size:=hP2.1
   have hP02:=permIn_trans _ _ _ _ _ hP1 hP2
   have B2:Below lt x y D2:=hB.perm (by omega) hP02
   refine Dk (fun env N'=>∃(E:Array Y),env 0=v/\env 1=gi x/\env 2=gi y/\env 3=gi l1/\env 4= .fn S.f []/\env 10= .bool wb/\env 11= .bool wp/\env 12=gi h/\env 13=gi p/\N3.length<=N'.length/\Holds S.e U0 N' rs k v E/\PermIn x y D2 E) (fun Yq hY=>by
    have stay:∀ env',env' 0=v->env' 1=gi x->env' 2=gi y->env' 3=gi l1->env' 4= .fn S.f []->env' 10= .bool wb->env' 11= .bool wp->env' 12=gi h->env' 13=gi p->Yq env' N3:=fun env' a0 a1 a2 a3 a4 a8 a9 a10 a11=>hY _ _ ⟨D2,a0,a1,a2,a3,a4,a8,a9,a10,a11,Zaa _,hH3,permIn_refl _ _ _⟩
    cases hwb:wb with
    |false=>
     rw[hwb] at e8
     simp +contextual (disch:=omega) only[go_sem,e0,e1,e2,e3,e4,e8,e9,e10,e11,e12]
     refine stay _ ?_ ?_ ?_ ?_ ?_ ?_ ?_ ?_ ?_
     all_goals simp +contextual (disch:=omega) only[go_sem,e0,e1,e2,e3,e4,e8,e9,e10,e11,e12,hwb]
    |true=>
     rw[hwb] at e8
     cases hwp:wp with
     |false=>
      rw[hwp] at e9
      simp +contextual (disch:=omega) only[go_sem,e0,e1,e2,e3,e4,e8,e9,e10,e11,e12]
      refine stay _ ?_ ?_ ?_ ?_ ?_ ?_ ?_ ?_ ?_
      all_goals simp +contextual (disch:=omega) only[go_sem,e0,e1,e2,e3,e4,e8,e9,e10,e11,e12,hwb,hwp]
     |true=>
      rw[hwp] at e9
      by_cases hq:q=1
      ·have c0:((q:Int)==1)=true:=by simp[hq]
       simp +contextual (disch:=omega) only[go_sem,e0,e1,e2,e3,e4,e8,e9,e10,e11,e12,c0]
       obtain⟨N4,R,H4⟩:=pis_ret S hH3 (a:=x) (b:=y) (by omega) (by omega) (by omega)
       obtain⟨p1,p2⟩:=partialInsertionSort_holds hS D2 x y (by omega) (by omega) B2
       have:=R.2.1
       refine Ak R ?_
       cases hr:(partialInsertionSort lt D2 x y).2 with
       |true=>
        simp +contextual (disch:=omega) only[go_sem]
        exact⟨_,rfl,by omega,_,rfl,H4,hfin _ (permIn_trans _ _ _ _ _ hP02 p1) (p2 hr)⟩
       |false=>
        simp +contextual (disch:=omega) only[go_sem,e0,e1,e2,e3,e4,e8,e9,e10,e11,e12]
        refine hY _ _ ⟨_,?_,?_,?_,?_,?_,?_,?_,?_,?_,R.2.1,H4,p1⟩
        all_goals simp +contextual (disch:=omega) only[go_sem,e0,e1,e2,e3,e4,e8,e9,e10,e11,e12,hwb,hwp]
      ·have c0:((q:Int)==1)=false:=by simp;omega
       simp +contextual (disch:=omega) only[go_sem,e0,e1,e2,e3,e4,e8,e9,e10,e11,e12,c0]
       refine stay _ ?_ ?_ ?_ ?_ ?_ ?_ ?_ ?_ ?_
       all_goals simp +contextual (disch:=omega) only[go_sem,e0,e1,e2,e3,e4,e8,e9,e10,e11,e12,hwb,hwp]) ?_
   clear e0 e1 e2 e3 e4 e8 e9 e10 e11 e12 hH3
   rintro env N4 ⟨D3,e0,e1,e2,e3,e4,e8,e9,e10,e11,hle4,hH4,hP3⟩
   have hD3:D3.size=D2.size:=hP3.1
   have hP03:=permIn_trans _ _ _ _ _ hP02 hP3
   have B3:Below lt x y D3:=B2.perm (by omega) hP3
   refine Dk (fun env N'=>env 0=v/\env 1=gi x/\env 2=gi y/\env 3=gi l1/\env 4= .fn S.f []/\env 10= .bool wb/\env 11= .bool wp/\env 12=gi h/\env 13=gi p/\N4=N') (fun Yq hY=>by
    rcases Zaz x with hx|hx
    ·have c0:decide ((0:Int)<x)=false:=by simp;omega
     simp +contextual (disch:=omega) only[go_sem,e0,e1,e2,e3,e4,e8,e9,e10,e11,c0]
     refine hY _ _ ⟨?_,?_,?_,?_,?_,?_,?_,?_,?_,rfl⟩
     all_goals simp +contextual (disch:=omega) only[go_sem,e0,e1,e2,e3,e4,e8,e9,e10,e11]
    ·have c0:decide ((0:Int)<x)=true:=by simp;omega
     have x1:(x:Int) - 1=((x - 1:Nat):Int):=by omega
     simp +contextual (disch:=omega) only[go_sem,e0,e1,e2,e3,e4,e8,e9,e10,e11,c0,x1,A1,hH4.iad (j:=x - 1) (by omega),hH4.ld (j:=x - 1) (by omega),hH4.iad (j:=p) (by omega),hH4.ld (j:=p) (by omega)]
     refine A5 (S.call _ _ _) ?_
     cases hlt:lt D3[x - 1]! D3[p]! with
     |true=>
      simp +contextual (disch:=omega) only[go_sem,e0,e1,e2,e3,e4,e8,e9,e10,e11,c0,hlt,S.klt]
      refine hY _ _ ⟨?_,?_,?_,?_,?_,?_,?_,?_,?_,rfl⟩
      all_goals simp +contextual (disch:=omega) only[go_sem,e0,e1,e2,e3,e4,e8,e9,e10,e11]
     |false=>
      simp +contextual (disch:=omega) only[go_sem,e0,e1,e2,e3,e4,e8,e9,e10,e11,c0,hlt,S.klt]
      obtain⟨N5,R,H5⟩:=pe_ret S hH4 (a:=x) (b:=y) (p:=p) (by omega) g2 (by omega) (by omega)
      have:=R.2.1
      refine Ak R ?_
      obtain⟨mid,D4,hX⟩:∃ m D4,partitionEqual lt D3 x y p=(m,D4):=⟨_,_,rfl⟩
      rw[hX] at H5
      rw[hX]
      obtain⟨k1,k2,k3,k4,k5⟩:=round_eq hS (partitionEqual_holds lt) hx g1 g2 (by omega) B3 hlt hX
      simp +contextual (disch:=omega) only[go_sem,e0,e1,e2,e3,e4,e8,e9,e10,e11]
      refine⟨y - mid,by omega,hJ _ _ _ ⟨mid,y,l1,wb,wp,D4,?_,?_,?_,?_,?_,?_,?_,rfl,by omega,by omega,k2,hyb,by omega,by omega,H5,k4,fun R h1 h2=> ?_⟩⟩
      all_goals first|(simp +contextual (disch:=omega) only[go_sem,e0,e1,e2,e3,e4,e8,e9,e10,e11];done)|skip
      obtain⟨m1,m2⟩:=k5 R h1 h2
      exact hfin R (permIn_trans _ _ _ _ _ hP03 m1) m2) ?_
   clear e0 e1 e2 e3 e4 e8 e9 e10 e11
   rintro env N' ⟨e0,e1,e2,e3,e4,e8,e9,e10,e11,rfl⟩
   obtain⟨N5,R5,H5⟩:=part_ret S hH4 (a:=x) (b:=y) (p:=p) (by omega) g2 (by omega) (by omega)
   have hle5:=R5.2.1
   obtain⟨mid,ap,D4,hX⟩:∃ m ap D4,partition lt D3 x y p=(m,ap,D4):=⟨_,_,_,rfl⟩
   rw[hX] at H5 R5
   obtain⟨k1,k2,k3,k4,k5,k6,k7⟩:=round_part hS (partition_holds lt) g1 g2 (by omega) B3 hX
   simp +contextual (disch:=omega) only[go_sem,e0,e1,e2,e3,e4,e8,e9,e10,e11]
   refine Ak R5 ?_
   obtain⟨q8,hq8⟩:∃ q,q=h / 8:=⟨_,rfl⟩
   have hqI:(h:Int).tdiv 8=q8:=by rw[hq8];rfl
   have m1:(mid:Int) - x=((mid - x:Nat):Int):=by omega
   have m2:(y:Int) - mid=((y - mid:Nat):Int):=by omega
   by_cases hlr:mid - x<y - mid
   ·have c0:decide (((mid - x:Nat):Int)<((y - mid:Nat):Int))=true:=by simp;omega
    simp +contextual (disch:=omega) only[go_sem,e0,e1,e2,e3,e4,e8,e9,e10,e11,hqI,m1,m2,c0]
    obtain⟨L,N6,R6,H6,p1,p2⟩:=ih D4 x mid l1 N5 (by omega) k1 (by omega) (by omega) (by omega) k4 H5
    have hle6:=R6.2.1
    refine Ak R6 ?_
    obtain⟨k8,k9⟩:=k6 L p1 p2
    have hL:L.size=D4.size:=p1.1
    simp +contextual (disch:=omega) only[go_sem,e0,e1,e2,e3,e4,e8,e9,e10,e11]
    refine⟨y - (mid+1),by omega,hJ _ _ _ ⟨mid+1,y,l1,decide ((q8:Int)<=((mid - x:Nat):Int)),ap,L,?_,?_,?_,?_,?_,?_,?_,rfl,by omega,by omega,by omega,hyb,by omega,by omega,H6,k8,fun R h1 h2=> ?_⟩⟩
    all_goals first|(simp +contextual (disch:=omega) only[go_sem,e0,e1,e2,e3,e4,e8,e9,e10,e11];done)|skip
    obtain⟨n1,n2⟩:=k9 R h1 h2
    exact hfin R (permIn_trans _ _ _ _ _ hP03 n1) n2
   ·have c0:decide (((mid - x:Nat):Int)<((y - mid:Nat):Int))=false:=by simp;omega
    simp +contextual (disch:=omega) only[go_sem,e0,e1,e2,e3,e4,e8,e9,e10,e11,hqI,m1,m2,c0]
    obtain⟨L,N6,R6,H6,p1,p2⟩:=ih D4 (mid+1) y l1 N5 (by omega) (by omega) (by omega) (by omega) (by omega) k5 H5
    have hle6:=R6.2.1
    refine Ak R6 ?_
    obtain⟨k8,k9⟩:=k7 L p1 p2
    have hL:L.size=D4.size:=p1.1
    simp +contextual (disch:=omega) only[go_sem,e0,e1,e2,e3,e4,e8,e9,e10,e11]
    refine⟨mid - x,by omega,hJ _ _ _ ⟨x,mid,l1,decide ((q8:Int)<=((y - mid:Nat):Int)),ap,L,?_,?_,?_,?_,?_,?_,?_,rfl,by omega,by omega,by omega,by omega,by omega,by omega,H6,k8,fun R h1 h2=> ?_⟩⟩
    all_goals first|(simp +contextual (disch:=omega) only[go_sem,e0,e1,e2,e3,e4,e8,e9,e10,e11];done)|skip
    obtain⟨n1,n2⟩:=k9 R h1 h2
    exact hfin R (permIn_trans _ _ _ _ _ hP03 n1) n2
  obtain⟨r,N,R,d',rfl,h⟩:=key
  exact⟨d',N,R,h⟩
end C
namespace C
open Go Go.RowKit Go.Proofs.YtckobfochhjmdaaGreatDoor.Sy Go.Sort
variable {Y:Type} [Inhabited Y] {lt:Y->Y->Bool} {U0 U:St} {rs:List Thg} {v:GV}
theorem sorted_of {d d':Array Y} (h:PermIn 0 d.size d d') (h4:SortedIn lt 0 d.size d'):d'.toList.Perm d.toList/\Up lt d'.toList:=by
 obtain⟨h1,h2,h3⟩:=h
 constructor
 ·have e1:d'.extract 0 d.size=d':=by rw[<- h1];simp
  have e2:d.extract 0 d.size=d:=by simp
  rw[e1,e2] at h3
  exact h3
 ·rw[Up,List.pairwise_iff_getElem]
  intro i j hi hj hij
  simp only[Array.length_toList] at hi hj
  have:=h4 i j (Nat.zero_le _) hij (by omega)
  rw[getElem!_pos d' j hj,getElem!_pos d' i hi] at this
  simpa using this
theorem sort_ret (S:SrtC Y lt) (hS:SWO lt) {l:List Y} (H:Hp U0 U rs) (k:Nat) (hk:rs[k]? =some (ow S.e.p.kd v l)) (hl:l.length<=1099511627776) (htri:∀ x∈l,∀ y∈l,lt x y=false->lt y x=false->x=y):∃ N,Ret Tryz.prog S.nS [v,.fn S.f []] U (.tup []) N/\Hp U0 N (rs.set k (ow S.e.p.kd v (Bh lt l))):=by
 have key:∃ r N,Ret Tryz.prog S.nS [v,.fn S.f []] U r N/\r= .tup []/\Hp U0 N (rs.set k (ow S.e.p.kd v (Bh lt l))):=by
  refine Au S.h_Sort (Z0z rfl) ?_
  have hlen:=(H.sl k hk).len
  have wu:IntKind.u64.wrap (l.length:Int)=l.length:=J4 (by omega) (by omega)
  simp +contextual (disch:=omega) only[go_sem,Ada,hlen,wu]
  refine A5 (M7 U l.length hl) ?_
  simp +contextual (disch:=omega) only[go_sem]
  have HH:Holds S.e U0 U rs k v l.toArray:=Holds.of H (by simpa using hk)
  have hb:=Abv hl
  obtain⟨d',N,R,H1,p1,p2⟩:=pdq_ret S hS l.length l.toArray 0 l.length (bitsLen l.length) U (by omega) (by omega) (by simp) (by simpa using hl) (by omega) (.inl rfl) HH
  have hz:((0:Nat):Int)=0:=rfl
  rw[hz] at R
  refine Ak R ?_
  simp +contextual (disch:=omega) only[go_sem]
  have hsz:l.length=l.toArray.size:=by simp
  rw[hsz] at p1 p2
  obtain⟨q1,q2⟩:=sorted_of p1 p2
  have hE:d'.toList=Bh lt l:=Zk hS htri (by simpa using q1) q2
  exact⟨_,rfl,R.2.1,rfl,by rw[<- hE];exact H1.2⟩
 obtain⟨r,N,R,rfl,h⟩:=key
 exact⟨N,R,h⟩
end C
def Ja:Fn1:=⟨17,[.t 4],(rg [oX 2 0,oX 3 1,oV 4 (ki 0)] (dw [oF 5 3 3,oL 6 5,oF 7 3 2,oL 8 7,oD 9 174 6 8,oF 10 1 3,oW 11 2 10,oF 12 1 2,oW 13 2 12] [oD 14 128 11 13,o 15 (.lit 1 2 [z0,z0] [(0,1,(.t 9)),(1,1,(.t 14))]),oC 16 172 15,oM 4 16] .ret))⟩
theorem Qj:A2 Tryz.prog 197=some Ja:=by kernel_rfl
instance:Inhabited Cell:=⟨{obj:=.empty,dot:=⟨0,0⟩,time:=0,ref:=⟨0,0⟩,val:=0,gone:=false}⟩
def Agi:El Cell:=⟨Al,true,fun x=>.agg (Al.enc x),fun _=>rfl,fun _=>rfl,by decide⟩
def Qk (a b:Cell):Int:=orI (cmpI b.time a.time) (Z0 b.dot a.dot)
theorem Aeo (a b:Cell):decide (Qk a b<0)=E2 a b:=by
 have key:Qk a b<0↔E2 a b=true:=by
  have h:Z0 b.dot a.dot<0↔Cp b.dot a.dot=true:=by
   have h:= @A8m b.dot a.dot
   rw[<- h];simp
  have h1:= @Ad2 b.time a.time
  have h2:= @Ajr b.time a.time
  simp only[E2,Bool.or_eq_true,Bool.and_eq_true,decide_eq_true_eq]
  unfold Qk orI
  by_cases hz:cmpI b.time a.time=0
  ·rw[if_pos hz,h]
   have:=h2.1 hz
   constructor
   ·intro h5;exact .inr ⟨this.symm,h5⟩
   ·rintro(h5|h5)
    ·omega
    ·exact h5.2
  ·rw[if_neg hz,h1]
   have:¬ b.time=a.time:=fun e=>hz (h2.2 e)
   constructor
   ·intro h5;exact .inl h5
   ·rintro(h5|h5)
    ·exact h5
    ·exact absurd h5.1.symm this
 rw[Bool.eq_iff_iff,decide_eq_true_eq]
 exact key
theorem P3 (U:St) (a b:Cell):Ret Tryz.prog 197 [Agi.val a,Agi.val b] U (gi (Qk a b)) U:=by
 show Ret Tryz.prog 197 [.agg (Al.enc a),.agg (Al.enc b)] U (gi (Qk a b)) U
 simp only[Acw]
 refine Ac Qj (Z0z rfl) trivial ?_
 simp +contextual (disch:=omega) only[go_sem,Ja]
 refine A5 (Cg _ _ _) ?_
 simp +contextual (disch:=omega) only[go_sem]
 refine A5 (Dd _ _ _) ?_
 simp +contextual (disch:=omega) only[go_sem]
 refine A5 (Hn _ _ [cmpI b.time a.time,Z0 b.dot a.dot] (Afv (p:=pI) _ _ rfl rfl rfl) (by simp)) ?_
 simp +contextual (disch:=omega) only[go_sem,Abi]
 rfl
def qCell:SN:=⟨310,341,311,314,315,316,317,312,370,343,342,313,264,0,257,258⟩
def Ak2:SrtC Cell E2 where
 e:=Agi
 q:=qCell
 f:=197
 k:=Qk
 call:=P3
 klt:=Aeo
 h_insertionSort:=by kernel_rfl
 h_siftDown:=by kernel_rfl
 h_heapSort:=by kernel_rfl
 h_reverseRange:=by kernel_rfl
 h_partialInsertionSort:=by kernel_rfl
 h_partitionEqual:=by kernel_rfl
 h_partition:=by kernel_rfl
 h_breakPatterns:=by kernel_rfl
 h_order2:=by kernel_rfl
 h_median:=by kernel_rfl
 h_medianAdjacent:=by kernel_rfl
 h_choosePivot:=by kernel_rfl
 h_pdqsort:=by kernel_rfl
 nS:=196
 h_Sort:=by kernel_rfl
 hnp:=rfl
 hxs:=rfl
theorem Ii {U0 U:St} {rs:List Thg} {v:GV} {l:List Cell} (H:Hp U0 U rs) (k:Nat) (hk:rs[k]? =some (ow Al.kd v l)) (hl:l.length<=1099511627776) (hn:(l.map (·.dot)).Nodup):∃ N,Ret Tryz.prog 196 [v,.fn 197 []] U (.tup []) N/\Hp U0 N (rs.set k (ow Al.kd v (Bh E2 l))):=
 C.sort_ret Ak2 Zl H k hk hl fun x hx y hy h1 h2=>Zm hn hx hy (A8t h1 h2)
def Hj:Fn1:=⟨36,[.t 4],(rg [oX 2 0,oX 3 1,oV 4 kf] (.seq (rg [oF 5 3 2,oL 6 5,oF 7 3 3,oL 8 7,oB 9 .neq 6 8] (oG 9 (rg [oF 10 3 2,oL 11 10,oF 12 3 3,oL 13 12,oB 14 .gtr 11 13,oM 4 14] .ret))) (.seq (rg [oF 15 1 2,oF 16 0 15,oL 17 16,oF 18 1 3,oF 19 0 18,oL 20 19,oB 21 .neq 17 20] (oG 21 (rg [oF 22 1 2,oF 23 0 22,oL 24 23,oF 25 1 3,oF 26 0 25,oL 27 26,oB 28 .gtr 24 27,oM 4 28] .ret))) (rg [oF 29 1 2,oF 30 1 29,oL 31 30,oF 32 1 3,oF 33 1 32,oL 34 33,oB 35 .gtr 31 34,oM 4 35] .ret))))⟩
theorem A5n:A2 Tryz.prog 217=some Hj:=by kernel_rfl
def Sa:Fn1:=⟨97,[.t 8],(rg [oX 4 0,oX 6 2,o 8 (.mov (.k .nilS))] (rg [o 16 (.lit 8 0 [] []),oM 9 16] (.seq (rg [oV 10 (ki 0)] (oH 0 (.seq (rg [oM 17 10,oF 18 3 4,oL 19 18,oN 20 19,oB 21 .lss 17 20] (oJ 21 0)) (.seq (.blk 1 (rg [oF 24 3 4,oL 25 24,oM 26 10,oI 27 8 25 26,oW 28 8 27,o 11 (.new [s0,z0,z0,z0,z0,z0,z0,(.bool false)]),oS 8 11 28] (.seq (rg [oF 29 0 11,oL 30 29,oM 31 1,oB 32 .neq 30 31,oM 33 32,vF 34 33 4 11,vW 35 33 2 34,vW 36 33 2 6,og 37 33 false (.eqs true [.i .i64,.i .i64] (.t 35) (.t 36)),oP 38 33 37] (oG 38 (.ext 1))) (rg [o 39 (.lit 8 0 [] []),oM 12 39] (rg [oV 13 kf] (.seq (rg [oV 14 (ki 0)] (oH 2 (.seq (rg [oM 40 14,oM 41 9,oN 42 41,oB 43 .lss 40 42] (oJ 43 2)) (.seq (.blk 3 (.seq (dw [oM 46 13,oU 47 46,oM 48 47,jW 49 48 8 11,jM 50 48 9,jM 51 48 14,jI 52 48 8 50 51,jW 53 48 8 52] [jD 54 48 217 49 53,oQ 55 48 54] (oG 55 (rg [oM 56 12,oW 57 8 11,o 58 (.lit 8 1 [s0,z0,z0,z0,z0,z0,z0,(.bool false)] [(0,8,(.t 57))]),o 59 (.app 8 72 [s0,z0,z0,z0,z0,z0,z0,(.bool false)] (.t 56) (.t 58)),oM 12 59] (.reg [oV 13 kt])))) (.reg [oM 60 12,oM 61 9,oM 62 14,oI 63 8 61 62,oW 64 8 63,o 65 (.lit 8 1 [s0,z0,z0,z0,z0,z0,z0,(.bool false)] [(0,8,(.t 64))]),o 66 (.app 8 72 [s0,z0,z0,z0,z0,z0,z0,(.bool false)] (.t 60) (.t 65)),oM 12 66]))) (.reg [oM 44 14,oZ 45 44 1,oM 14 45]))))) (.seq (rg [oM 67 13,oU 68 67] (oG 68 (.reg [oM 69 12,oW 70 8 11,o 71 (.lit 8 1 [s0,z0,z0,z0,z0,z0,z0,(.bool false)] [(0,8,(.t 70))]),o 72 (.app 8 72 [s0,z0,z0,z0,z0,z0,z0,(.bool false)] (.t 69) (.t 71)),oM 12 72]))) (.reg [oM 73 12,oM 9 73])))))))) (.reg [oM 22 10,oZ 23 22 1,oM 10 23]))))) (.seq (rg [oV 15 (ki 0)] (oH 4 (.seq (rg [oM 74 15,oM 75 9,oN 76 75,oB 77 .lss 74 76] (oJ 77 4)) (.seq (.blk 5 (rg [oM 80 3,oM 81 9,oM 82 15,oI 83 8 81 82,oW 84 8 83,o 85 (.lit 8 1 [s0,z0,z0,z0,z0,z0,z0,(.bool false)] [(0,8,(.t 84))]),o 86 (.app 8 72 [s0,z0,z0,z0,z0,z0,z0,(.bool false)] (.t 80) (.t 85)),oM 3 86] (.drw [oW 87 4 4,oM 88 1,oM 89 9,oM 90 15,oI 91 8 89 90,oF 92 1 91,oW 93 2 92] [oM 94 3,o 95 (.call 145 (oT [87,88,93,94])),oM 3 95]))) (.reg [oM 78 15,oZ 79 78 1,oM 15 79]))))) (rg [oM 96 3,oM 8 96] .ret)))))⟩
theorem A5o:A2 Tryz.prog 145=some Sa:=by kernel_rfl
def A3j:Fn1:=⟨10,[.t 4],(rg [oX 2 0,o 4 (.mov (.k .nilS))] (rg [oW 5 4 2,oM 6 1,o 7 (.build [z0,z0] []),o 8 (.lit 8 0 [] []),o 9 (.call 145 (oT [5,6,7,8])),oM 4 9] .ret))⟩
theorem Abw:A2 Tryz.prog 97=some A3j:=by kernel_rfl
abbrev A8x (x:Cell):List GV:=[.str x.obj,.int .i64 x.dot.rep,.int .i64 x.dot.seq,.int .i64 x.time,.int .i64 x.ref.rep,.int .i64 x.ref.seq,.int .i64 x.val,.bool x.gone]
theorem A1c (U:St) (a b:Cell):Ret Tryz.prog 217 [.agg (A8x a),.agg (A8x b)] U (.bool (E2 a b)) U:=by
 refine Ac A5n (Z0z rfl) trivial ?_
 by_cases h1:a.time=b.time
 ·have c1:(a.time != b.time)=false:=by simp[h1]
  by_cases h2:a.dot.rep=b.dot.rep
  ·have c2:(a.dot.rep != b.dot.rep)=false:=by simp[h2]
   simp +contextual (disch:=omega) only[go_sem,Hj,c1,c2]
   simp[E2,Cp,h1,h2]
  ·have c2:(a.dot.rep != b.dot.rep)=true:=by simp[h2]
   have h3:¬ b.dot.rep=a.dot.rep:=fun e=>h2 e.symm
   simp +contextual (disch:=omega) only[go_sem,Hj,c1,c2]
   simp[E2,Cp,h1,h2,h3]
 ·have c1:(a.time != b.time)=true:=by simp[h1]
  simp +contextual (disch:=omega) only[go_sem,Hj,c1]
  simp[E2,h1]
def Abx (s:State) (o:ByteArray) (d:Dot):Prop:=∀(U0 U:St) (cs:List GV) (rs:List Thg) (k:Nat) (w:GV) (out:List Cell),Ab.R U0 s cs->Hp U0 U rs->rs[k]? =some (ow Al.kd w out)->out.length+(rowA (objC s.cells o) d).length<=1099511627776->
 ∃ w' N,Ret Tryz.prog 145 [.agg cs,.str o,.agg [gi d.rep,gi d.seq],w] U w' N/\Hp U0 N (rs.set k (ow Al.kd w' (out++rowA (objC s.cells o) d)))
def Zq (o:ByteArray) (d:Dot) (c:Cell):Bool:=Ic o c&&Bx d c
theorem Ak3 {Y β:Type} {f:Y->List β} {l:List Y} {i:Nat} (hi:i<l.length):((l.take i).flatMap f).length+(f l[i]).length<=(l.flatMap f).length:=by
 have h:l.flatMap f=(l.take i).flatMap f++(f l[i]++(l.drop (i+1)).flatMap f):=by
  rw[<- List.flatMap_cons,<-Zaq hi,<-Zax,Zau]
 rw[h,Zae,Zae];omega
theorem Agj {Y β:Type} {f:Y->List β} {l:List Y} {i:Nat} (hi:i<l.length):(l.take (i+1)).flatMap f=(l.take i).flatMap f++f l[i]:=by
 rw[Zaf hi,Zax,List.flatMap_singleton]
theorem A3k (s:State) (o:ByteArray) (d:Dot) (hn:(s.cells.map (·.dot)).Nodup) (hl:A7 s<=1099511627776) (hf:Adq (objC s.cells o) fuel d) (IH:∀ c∈(objC s.cells o).filter (Bx d),Abx s o c.dot):Abx s o d:=by
 intro U0 U cs rs k w out hR0 H hk hbd
 have key:∃ r N,Ret Tryz.prog 145 [.agg cs,.str o,.agg [gi d.rep,gi d.seq],w] U r N/\Hp U0 N (rs.set k (ow Al.kd r (out++rowA (objC s.cells o) d))):=by
  have hR1:=hR0
  obtain⟨a,b,c,v,rfl,_,_,_,hc⟩:=hR1
  obtain⟨l1,l2,l3,l4,_⟩:=Aq hl
  have hkl:=(Zac.1 hk).1
  refine Fp A5o (Z0z rfl) ?_
  have H:=((H.new 1 [a,b,c,v]).new 1 [gi d.rep,gi d.seq]).nil_Cell
  simp +contextual (disch:=omega) only[go_sem,Sa]
  generalize hn1:U.length=n1 at*
  generalize hn2:(U++[some (Blk.row 1 [a,b,c,v])]).length=n2 at*
  refine Ht s.cells.length 10 0 (fun i env N=>env 1= .str o/\env 3=w/\env 4= .ptr n1 0/\env 6= .ptr n2 0/\∃ u,env 9=u/\Hp U0 N (ow Al.kd u (Bh E2 ((s.cells.take i).filter (Zq o d)))::pt 1 n2 [gi d.rep,gi d.seq]::pt 1 n1 [a,b,c,v]::rs)) (fun env N=>env 1= .str o/\env 3=w/\env 4= .ptr n1 0/\env 6= .ptr n2 0/\∃ u,env 9=u/\Hp U0 N (ow Al.kd u ((objC s.cells o).filter (Bx d))::pt 1 n2 [gi d.rep,gi d.seq]::pt 1 n1 [a,b,c,v]::rs)) rfl ⟨rfl,rfl,rfl,by simp +contextual (disch:=omega) only[go_sem,hn2],_,rfl,H⟩ ?_ ?_ ?_
  ·clear H
   rintro J Yq hJ hY i env N hi e10 c0 ⟨e1,e3,e4,e6,u,e9,H⟩
   have C1:=A6 (hc.pre H.sub) hi
   have hab:=Agf (lt:=E2) (l:=s.cells) (p:=Zq o d) (i:=i)
   have hsn:=Abu (lt:=E2) (p:=Zq o d) hi
   have G:=H.new 1 (A8x s.cells[i])
   generalize hacc:Bh E2 ((s.cells.take i).filter (Zq o d))=acc at*
   cases ho:decide (s.cells[i].obj=o) with
   |false=>
    have hk0:Zq o d s.cells[i]=false:=by simp[Zq,Ic,ho]
    rw[hk0,if_neg (by simp)] at hsn
    simp +contextual (disch:=omega) only[go_sem,c0,e1,e3,e4,e6,e9,e10,C1,A4 (H.pt 2 rfl),hc.len,ho,A4 (H.pt 1 rfl)]
    refine hJ _ _ _ ⟨?_,?_,?_,?_,u,?_,by rw[hsn];exact G.drop1⟩
    all_goals simp +contextual (disch:=omega) only[go_sem,e1,e3,e4,e6,e9,e10]
   |true=>
    cases hr:decide (s.cells[i].ref=d) with
    |false=>
     have hk0:Zq o d s.cells[i]=false:=by simp[Zq,Bx,hr]
     rw[hk0,if_neg (by simp)] at hsn
     simp +contextual (disch:=omega) only[go_sem,c0,e1,e3,e4,e6,e9,e10,C1,A4 (H.pt 2 rfl),hc.len,ho,A4 (G.pt 2 rfl),hr]
     refine hJ _ _ _ ⟨?_,?_,?_,?_,u,?_,by rw[hsn];exact G.drop1⟩
     all_goals simp +contextual (disch:=omega) only[go_sem,e1,e3,e4,e6,e9,e10]
    |true=>
     have hk0:Zq o d s.cells[i]=true:=by simp[Zq,Ic,Bx,ho,hr]
     rw[hk0,if_pos rfl] at hsn
     have H1:=G.nil_Cell
     simp +contextual (disch:=omega) only[go_sem,c0,e1,e3,e4,e6,e9,e10,C1,A4 (H.pt 2 rfl),hc.len,ho,A4 (G.pt 2 rfl),hr]
     generalize hnx:N.length=nx at*
     generalize hx:s.cells[i]=x at*
     refine Ht acc.length 14 2 (fun j env N=>env 1= .str o/\env 3=w/\env 4= .ptr n1 0/\env 6= .ptr n2 0/\env 10=gi i/\env 9=u/\env 11= .ptr nx 0/\∃(z:GV) (put:Bool) (nxt:List Cell),env 12=z/\env 13= .bool put/\insG E2 x acc nxt j put/\Hp U0 N (ow Al.kd z nxt::pt 1 nx (A8x x)::ow Al.kd u acc::pt 1 n2 [gi d.rep,gi d.seq]::pt 1 n1 [a,b,c,v]::rs)) (fun env N=>env 1= .str o/\env 3=w/\env 4= .ptr n1 0/\env 6= .ptr n2 0/\env 10=gi i/\env 9=u/\env 11= .ptr nx 0/\∃(z:GV) (put:Bool) (nxt:List Cell),env 12=z/\env 13= .bool put/\insG E2 x acc nxt acc.length put/\Hp U0 N (ow Al.kd z nxt::pt 1 nx (A8x x)::ow Al.kd u acc::pt 1 n2 [gi d.rep,gi d.seq]::pt 1 n1 [a,b,c,v]::rs)) rfl ⟨by simp +contextual (disch:=omega) only[go_sem,e1],by simp +contextual (disch:=omega) only[go_sem,e3],by simp +contextual (disch:=omega) only[go_sem,e4],by simp +contextual (disch:=omega) only[go_sem,e6],by simp +contextual (disch:=omega) only[go_sem,e10],by simp +contextual (disch:=omega) only[go_sem,e9],by simp +contextual (disch:=omega) only[go_sem,hnx],_,false,[],by simp +contextual (disch:=omega) only[go_sem],by simp +contextual (disch:=omega) only[go_sem],A5j,H1⟩ ?_ ?_ ?_
     ·clear e1 e3 e4 e6 e9 e10 H H1 G
      rintro J2 Yq2 hJ2 hY2 j env N hj e14 c1 ⟨e1,e3,e4,e6,e10,e9,e11,z,put,nxt,e12,e13,hok,H⟩
      have hnl:=G9 hok
      have i1:=A6 (H.sl 2 rfl) hj
      have hlen:=(H.sl 2 rfl).len
      cases put with
      |true=>
       obtain⟨w',N3,e5,H3⟩:=H.app_Cell 0 rfl acc[j] (by omega)
       simp +contextual (disch:=omega) only[go_sem,c1,e1,e3,e4,e6,e9,e10,e11,e12,e13,e14,i1,hlen,e5]
       refine hJ2 _ _ _ ⟨?_,?_,?_,?_,?_,?_,?_,w',true,_,?_,?_,Id hok hj (.inl rfl),H3⟩
       all_goals simp +contextual (disch:=omega) only[go_sem,e1,e3,e4,e6,e9,e10,e11,e13]
      |false=>
       have hl:=A1c N x acc[j]
       simp +contextual (disch:=omega) only[go_sem,c1,e1,e3,e4,e6,e9,e10,e11,e12,e13,e14,i1,hlen,A4 (H.pt 1 rfl)]
       refine A5 hl ?_
       cases hlt:E2 x acc[j] with
       |false=>
        obtain⟨w',N3,e5,H3⟩:=H.app_Cell 0 rfl acc[j] (by omega)
        simp +contextual (disch:=omega) only[go_sem,c1,e1,e3,e4,e6,e9,e10,e11,e12,e13,e14,i1,hlen,A4 (H.pt 1 rfl),e5]
        refine hJ2 _ _ _ ⟨?_,?_,?_,?_,?_,?_,?_,w',false,_,?_,?_,Id hok hj (.inr hlt),H3⟩
        all_goals simp +contextual (disch:=omega) only[go_sem,e1,e3,e4,e6,e9,e10,e11,e13]
       |true=>
        obtain⟨w',N3,e5,H3⟩:=H.app_Cell 0 rfl x (by omega)
        have H3:Hp U0 N3 (ow Al.kd w' (nxt++[x])::pt 1 nx (A8x x)::ow Al.kd u acc::pt 1 n2 [gi d.rep,gi d.seq]::pt 1 n1 [a,b,c,v]::rs):=H3
        have hp:=A5k hok hj hlt
        have hnl2:=G9 hp
        simp only[Zae,Zam,Zaj] at hnl2
        have i2:=A6 (H3.sl 2 rfl) hj
        obtain⟨w2,N4,e7,H4⟩:=H3.app_Cell 0 rfl acc[j] (by simp;omega)
        simp +contextual (disch:=omega) only[go_sem,c1,e1,e3,e4,e6,e9,e10,e11,e12,e13,e14,i1,hlen,A4 (H.pt 1 rfl),e5,i2,e7]
        refine hJ2 _ _ _ ⟨?_,?_,?_,?_,?_,?_,?_,w2,true,_,?_,?_,hp,H4⟩
        all_goals simp +contextual (disch:=omega) only[go_sem,e1,e3,e4,e6,e9,e10,e11,e13]
     ·clear e1 e3 e4 e6 e9 e10 H H1 G
      rintro Yq2 hY2 env N e14 c1 ⟨e1,e3,e4,e6,e10,e9,e11,z,put,nxt,e12,e13,hok,H⟩
      have hlen:=(H.sl 2 rfl).len
      simp +contextual (disch:=omega) only[go_sem,c1,e1,e3,e4,e6,e9,e10,e11,e12,e13,e14,hlen]
      refine hY2 _ _ ⟨?_,?_,?_,?_,?_,?_,?_,z,put,nxt,?_,?_,hok,H⟩
      all_goals simp +contextual (disch:=omega) only[go_sem,e1,e3,e4,e6,e9,e10,e11,e12,e13]
     ·clear e1 e3 e4 e6 e9 e10 H H1 G
      rintro env N ⟨e1,e3,e4,e6,e10,e9,e11,z,put,nxt,e12,e13,hok,H⟩
      have hnl:=G9 hok
      have hend:=A5l hok
      cases put with
      |true=>
       simp +contextual (disch:=omega) only[go_sem,e1,e3,e4,e6,e9,e10,e11,e12,e13]
       refine hJ _ _ _ ⟨?_,?_,?_,?_,z,?_,?_⟩
       all_goals first|(simp +contextual (disch:=omega) only[go_sem,e1,e3,e4,e6,e9,e10,e11,e12,e13];done)|skip
       rw[hsn,<-hend]
       exact((H.pick 1 rfl).drop1.pick 1 rfl).drop1
      |false=>
       obtain⟨w',N3,e5,H3⟩:=H.app_Cell 0 rfl x (by omega)
       simp +contextual (disch:=omega) only[go_sem,e1,e3,e4,e6,e9,e10,e11,e12,e13,A4 (H.pt 1 rfl),e5]
       refine hJ _ _ _ ⟨?_,?_,?_,?_,w',?_,?_⟩
       all_goals first|(simp +contextual (disch:=omega) only[go_sem,e1,e3,e4,e6,e9,e10,e11,e12,e13];done)|skip
       rw[hsn,<-hend]
       exact((H3.pick 1 rfl).drop1.pick 1 rfl).drop1
  ·clear H
   rintro Yq hY env N e10 c0 ⟨e1,e3,e4,e6,u,e9,H⟩
   rw[Zag] at H
   have hke:Bh E2 (s.cells.filter (Zq o d))=(objC s.cells o).filter (Bx d):=Ajx hn o d
   rw[hke] at H
   simp +contextual (disch:=omega) only[go_sem,c0,e1,e3,e4,e6,e9,e10,A4 (H.pt 2 rfl),hc.len]
   refine hY _ _ ⟨?_,?_,?_,?_,u,?_,H⟩
   all_goals simp +contextual (disch:=omega) only[go_sem,e1,e3,e4,e6,e9,e10]
  ·clear H
   rintro env N ⟨e1,e3,e4,e6,u,e9,H⟩
   rw[Abr hf] at hbd ⊢
   have hkb:((objC s.cells o).filter (Bx d)).length<=s.cells.length:=Nat.le_trans (Zah _ _) (A5i _ _)
   generalize hkid:(objC s.cells o).filter (Bx d)=kids at*
   generalize hg:(fun c:Cell=>c::rowA (objC s.cells o) c.dot)=g at*
   have hkl4:k+3<(ow Al.kd u kids::pt 1 n2 [gi d.rep,gi d.seq]::pt 1 n1 [a,b,c,v]::rs).length:=by simp;omega
   have hkk:(ow Al.kd u kids::pt 1 n2 [gi d.rep,gi d.seq]::pt 1 n1 [a,b,c,v]::rs)[k+3]? =some (ow Al.kd w out):=hk
   simp +contextual (disch:=omega) only[go_sem,e1,e3,e4,e6,e9]
   refine Q5 kids.length 15 (fun i env N=>env 1= .str o/\env 4= .ptr n1 0/\env 9=u/\∃ w',env 3=w'/\Hp U0 N (ow Al.kd u kids::pt 1 n2 [gi d.rep,gi d.seq]::pt 1 n1 [a,b,c,v]::rs.set k (ow Al.kd w' (out++(kids.take i).flatMap g)))) rfl ⟨by simp +contextual (disch:=omega) only[go_sem,e1],by simp +contextual (disch:=omega) only[go_sem,e4],by simp +contextual (disch:=omega) only[go_sem,e9],w,by simp +contextual (disch:=omega) only[go_sem,e3],?_⟩ ?_ ?_
   ·have:rs.set k (ow Al.kd w (out++(kids.take 0).flatMap g))=rs:=by
     simp only[List.take_zero,List.flatMap_nil,Zav]
     rw[<- (Zac.1 hk).2,Zal]
    rw[this];exact H
   ·clear H e1 e3 e4 e6 e9
    rintro J hJ i env N hi e15 c0 ⟨e1,e4,e9,w1,e3,H⟩
    have hfb:=Ak3 (f:=g) hi
    have hgl:(g kids[i]).length=1+(rowA (objC s.cells o) kids[i].dot).length:=by rw[<- hg];simp;omega
    have hmem:kids[i]∈kids:=Za4 hi
    have C1:=A6 (H.sl 0 rfl) hi
    have hlen:=(H.sl 0 rfl).len
    have hsk:(ow Al.kd u kids::pt 1 n2 [gi d.rep,gi d.seq]::pt 1 n1 [a,b,c,v]::rs.set k (ow Al.kd w1 (out++(kids.take i).flatMap g)))[k+3]? =some (ow Al.kd w1 (out++(kids.take i).flatMap g)):=by
     show(rs.set k _)[k]? =_
     rw[Zab hkl]
    obtain⟨w2,N3,e5,H3⟩:=H.app_Cell (k+3) hsk kids[i] (by simp only[Zae];omega)
    have H3:Hp U0 N3 (ow Al.kd u kids::pt 1 n2 [gi d.rep,gi d.seq]::pt 1 n1 [a,b,c,v]::(rs.set k (ow Al.kd w1 (out++(kids.take i).flatMap g))).set k (ow Al.kd w2 (out++(kids.take i).flatMap g++[kids[i]]))):=H3
    rw[Zak] at H3
    have C2:=A6 (H3.sl 0 rfl) hi
    have hsk2:(ow Al.kd u kids::pt 1 n2 [gi d.rep,gi d.seq]::pt 1 n1 [a,b,c,v]::rs.set k (ow Al.kd w2 (out++(kids.take i).flatMap g++[kids[i]])))[k+3]? =some (ow Al.kd w2 (out++(kids.take i).flatMap g++[kids[i]])):=by
     show(rs.set k _)[k]? =_
     rw[Zab hkl]
    obtain⟨w3,N4,R4,H4⟩:=IH kids[i] hmem U0 N3 [a,b,c,v] _ (k+3) w2 _ hR0 H3 hsk2 (by simp only[Zae,Zam,Zaj];omega)
    have H4:Hp U0 N4 (ow Al.kd u kids::pt 1 n2 [gi d.rep,gi d.seq]::pt 1 n1 [a,b,c,v]::(rs.set k (ow Al.kd w2 (out++(kids.take i).flatMap g++[kids[i]]))).set k (ow Al.kd w3 (out++(kids.take i).flatMap g++[kids[i]]++rowA (objC s.cells o) kids[i].dot))):=H4
    rw[Zak] at H4
    simp +contextual (disch:=omega) only[go_sem,c0,e1,e3,e4,e9,e15,C1,hlen,e5,C2,A4 (H3.pt 2 rfl),Bk (cs:=[a,b,c,v]) rfl]
    refine Ak R4 ?_
    simp +contextual (disch:=omega) only[go_sem,e1,e3,e4,e9,e15]
    refine hJ _ _ _ ⟨?_,?_,?_,w3,?_,?_⟩
    all_goals first|(simp +contextual (disch:=omega) only[go_sem,e1,e3,e4,e9,e15];done)|skip
    rw[Agj hi]
    have:g kids[i]=[kids[i]]++rowA (objC s.cells o) kids[i].dot:=by rw[<- hg];rfl
    rw[this,<-Zai,<-Zai]
    exact H4
   ·clear H e1 e3 e4 e6 e9
    rintro env N e15 c0 ⟨e1,e4,e9,w1,e3,H⟩
    rw[Zag] at H
    have hlen:=(H.sl 0 rfl).len
    simp +contextual (disch:=omega) only[go_sem,c0,e1,e3,e4,e9,e15,hlen]
    exact⟨_,rfl,H.drop1.drop1.drop1⟩
 obtain⟨r,N,R,h⟩:=key
 exact⟨r,N,R,h⟩
theorem A8y (s:State) (o:ByteArray) (h:CelR s.cells) (hn:(s.cells.map (·.dot)).Nodup) (hl:A7 s<=1099511627776):∀(f:Nat) (d:Dot),f≤fuel->Adq (objC s.cells o) f d->Abx s o d
 |0,d,hf,ha=>A3k s o d hn hl (ha.le hf) fun c hc=>by
  obtain⟨h1,h2⟩:=Zaw.1 hc
  exact absurd (by simpa [Bx] using h2) (ha c h1)
 |f+1,d,hf,ha=>A3k s o d hn hl (ha.le hf) fun c hc=>by
  obtain⟨h1,h2⟩:=Zaw.1 hc
  exact A8y s o h hn hl f c.dot (by omega) (ha c h1 (by simpa [Bx] using h2))
theorem A8z (U:St) (cs:List GV) (s:State) (hR:Ab.R U s cs) (o:ByteArray) (hok:Cf s=true) (hl:A7 s<=1099511627776):∃ r N,Ret Tryz.prog 97 [.agg cs,.str o] U r N/\Hp U N [ow Al.kd r (rowC s o)]:=by
 have hc:=Qg hok
 have hn:=hc.nd
 have hb:=Ow hc o
 have hlen:=Ab.len hR
 have hlen:cs.length=4:=hlen
 refine Fp Abw (Z0z rfl) ?_
 have H:=((Hp.refl U).new 1 cs).nil_Cell
 simp +contextual (disch:=omega) only[go_sem,A3j,Lf,Ji,Bk hlen]
 obtain⟨w,N,R,H1⟩:=A8y s o hc hn hl fuel ⟨0,0⟩ (Zaa _) (Ad7 hc o).1 U _ cs _ 0 _ [] hR H rfl (by unfold rowC at hb;simp only[Zaj];omega)
 refine Ak R ?_
 simp +contextual (disch:=omega) only[go_sem]
 exact⟨_,rfl,by rw[rowC];exact H1.one⟩
theorem Sb {Y:Type} [DecidableEq Y] (x:Y):∀(a:Y) (l:List Y),B5 (a::l++[x])=if(a::l).getLast (by simp)=x then B5 (a::l) else B5 (a::l)++[x]
 |a,[]=>by
  by_cases h:a=x
  ·simp[B5,h]
  ·simp[B5,h]
 |a,b::r=>by
  have ih:=Sb x b r
  have e:a::b::r++[x]=a::b::(r++[x]):=rfl
  have e2:b::r++[x]=b::(r++[x]):=rfl
  rw[e2] at ih
  rw[e]
  have hc:∀(u v:Y) (t:List Y),B5 (u::v::t)=if u=v then B5 (v::t) else u::B5 (v::t):=fun u v t=>rfl
  rw[hc a b (r++[x]),hc a b r,ih]
  rw[show (a::b::r).getLast (by simp)=(b::r).getLast (by simp) from rfl]
  by_cases h1:a=b
  ·simp[h1]
  ·rw[if_neg h1,if_neg h1]
   split<;>simp
theorem Sd {Y:Type} [DecidableEq Y] {l:List Y} {i:Nat} (h0:0<i) (hi:i<l.length):B5 (l.take (i+1))=if l[i - 1]=l[i] then B5 (l.take i) else B5 (l.take i)++[l[i]]:=by
 rw[Zaf hi]
 cases l with
 |nil=>simp at hi
 |cons a t=>
  obtain⟨j,rfl⟩:∃ j,i=j+1:=⟨i - 1,by omega⟩
  rw[List.take_succ_cons,Sb]
  have:(a::t.take j).getLast (by simp)=(a::t)[j+1 - 1]:=by
   rw[List.getLast_eq_getElem]
   have hl:(a::t.take j).length - 1=j:=by simp at hi ⊢;omega
   simp only[hl,Nat.add_sub_cancel]
   cases j with
   |zero=>rfl
   |succ j=>simp
  rw[this]
structure Eqs {Y:Type} [Inhabited Y] [DecidableEq Y] (e:El Y) where
 eq:∀ x y,binG .eql (e.val x) (e.val y)=some (.bool (decide (x=y)))
 ne:∀ x y,binG .neq (e.val x) (e.val y)=some (.bool (!decide (x=y)))
 ze:List GV
 hze:ze.length=e.p.z
section
variable {Y:Type} [Inhabited Y] {e:El Y} {U0 U N:St} {rs:List Thg} {v:GV} {l:List Y}
theorem El.atL (e:El Y) (H:Hp U N rs) (k:Nat) (hk:rs[k]? =some (ow e.p.kd v l)) {j:Nat} (hj:j<l.length):iadG e.p.z v (some j)=some (atz e.p.z v j)/\ldG e.g e.p.z N (atz e.p.z v j)=some (e.val l[j]):=by
 have h:=e.at (d:=l.toArray) H k (by simpa using hk) (j:=j) (by simpa using hj)
 have e1:l.toArray[j]! =l[j]:=by rw[getElem!_pos l.toArray j (by simpa using hj)];simp
 rw[e1] at h
 exact h
theorem Aby (H:Hp U N rs) (k:Nat) (hk:rs[k]? =some (ow e.p.kd v l)) (hl:l≠[]):∃ g off,v= .sl g off l.length/\zOk N e.p.z v=true:=by
 obtain⟨a,hO,-⟩:=H.see hk
 rcases OS.flat.1 hO with⟨h,_⟩|⟨g,pre,post,rfl,hB,rfl⟩
 ·exact absurd h hl
 ·refine⟨g,pre.length,rfl,?_⟩
  simp[zOk,Bt.1 hB]
theorem clrRow (H:Hp U N rs) (k:Nat) {g off:Nat} (hk:rs[k]? =some (ow e.p.kd (.sl g off l.length) l)) (ze:List GV) (hze:ze.length=e.p.z) {m:Nat} (hm:m<=l.length) (hm0:0<m):
  ∃ N',clrG e.p.z ze N (.sl g (off+m*e.p.z) (l.length - m))=some (.tup [],N')/\N'.length=N.length/\Hp U N' (rs.set k (ow e.p.kd (.sl g off m) (l.take m))):=by
 obtain⟨a,hO,hnd,hbd,ht⟩:=(H.pick k hk).turn
 have hkl:=(Zac.1 hk).1
 rcases OS.flat.1 hO with⟨rfl,h2,_⟩|⟨g',pre,post,hv,hB,rfl⟩
 ·cases h2
 ·injection hv with hg ho _
  subst hg ho
  have hcl:e.p.cells l=e.p.cells (l.take m)++e.p.cells (l.drop m):=by
   rw[<- Pl.cells_append,Zau]
  by_cases h0:l.length - m=0
  ·refine⟨N,by show(if l.length - m=0 then _ else _)=_;rw[if_pos h0],rfl,?_⟩
   have hml:m=l.length:=by omega
   subst hml
   rw[Zag]
   exact Hp.unpick (ht (a':=[g]) ⟨by simp,fun g' h=>.inl h,by simp,fun _ _ _=>rfl⟩ hO) hkl
  ·have hlt:=(hbd g Za1).2
   have hL1:(e.p.cells (l.take m)).length=m*e.p.z:=by rw[Pl.cells_length,Zar];congr 1;omega
   have hL2:(e.p.cells (l.drop m)).length=(l.length - m)*e.p.z:=by rw[Pl.cells_length,Zas]
   have hR:(reps (l.length - m) ze).length=(l.length - m)*e.p.z:=by rw[In,hze]
   have hsp:Ao (pre++e.p.cells l++post) (pre.length+m*e.p.z) (reps (l.length - m) ze)=pre++e.p.cells (l.take m)++(reps (l.length - m) ze++post):=by
    rw[hcl]
    unfold Ao
    have t1:(pre++(e.p.cells (l.take m)++e.p.cells (l.drop m))++post).take (pre.length+m*e.p.z)=pre++e.p.cells (l.take m):=by
     have:pre++(e.p.cells (l.take m)++e.p.cells (l.drop m))++post=(pre++e.p.cells (l.take m))++(e.p.cells (l.drop m)++post):=by simp
     rw[this]
     exact List.take_left' (by simp[hL1])
    have t2:(pre++(e.p.cells (l.take m)++e.p.cells (l.drop m))++post).drop (pre.length+m*e.p.z+(reps (l.length - m) ze).length)=post:=by
     exact List.drop_left' (by simp[hL1,hL2,hR];omega)
    rw[t1,t2];simp
   refine⟨N.set g (some (.row e.p.z (pre++e.p.cells (l.take m)++(reps (l.length - m) ze++post)))),?_,by simp,?_⟩
   ·show(if l.length - m=0 then _ else _)=_
    rw[if_neg h0,Bt.1 hB]
    show(if _ then _ else _)=_
    rw[if_pos ⟨rfl,by simp[hcl,hL1,hL2,hR];omega⟩,hsp]
   ·refine Hp.unpick (ht (a':=[g]) ⟨by simp,fun g' h=>.inl h,by simp,fun g' h h'=>Gl fun e=>h' (by rw[e];exact Za1)⟩ (OS.flat.2 (.inr ⟨g,pre,_,?_,Bt.2 (by rw[Zab hlt]),rfl⟩))) hkl
    rw[Zar,Zat hm]
theorem cutLo {z g off n k:Nat} (h:k<=n):cutG z (.sl g off n) (some (gi (k:Nat))) none=some (.sl g (off+k*z) (n - k)):=by
 simp[cutG,bndG,A1,h]
theorem cutHi {z g off n k:Nat} (h:k<=n):cutG z (.sl g off n) none (some (gi (k:Nat)))=some (.sl g off k):=by
 simp[cutG,bndG,A1,h]
theorem Aig {z g off n k j:Nat} (h:k+j<n):iadG z (.sl g (off+k*z) (n - k)) (some j)=some (atz z (.sl g off n) (k+j)):=by
 have:j<n - k:=by omega
 simp only[iadG,atz,Nat.add_mul]
 simp[this,Nat.add_assoc]
theorem Abz [DecidableEq Y] (E:Eqs e) {nC:Nat} (hC:A2 Tryz.prog nC=some (P1 e.p.z e.g E.ze)) (H:Hp U0 U rs) (k:Nat) (hk:rs[k]? =some (ow e.p.kd v l)) (hl:l.length<=1099511627776):∃ v' N,Ret Tryz.prog nC [v] U v' N/\Hp U0 N (rs.set k (ow e.p.kd v' (B5 l))):=by
 have key:∃ r N,Ret Tryz.prog nC [v] U r N/\Hp U0 N (rs.set k (ow e.p.kd r (B5 l))):=by
  refine Au hC (Z0z rfl) ?_
  have hlen:=(H.sl k hk).len
  have hkl:=(Zac.1 hk).1
  rcases Zad l.length 2 with h2|h2
  ·have c0:decide ((l.length:Int)<2)=true:=by simp;omega
   simp +contextual (maxSteps:=600000) (disch:=omega) only[go_sem,P1,hlen,c0]
   have hcl:B5 l=l:=by
    match l,h2 with
    |[],_=>rfl
    |[x],_=>rfl
   rw[hcl]
   exact⟨_,rfl,by rw[<- (Zac.1 hk).2,Zal];exact H⟩
  ·have c0:decide ((l.length:Int)<2)=false:=by simp;omega
   have hne:l≠[]:=fun h=>by rw[h] at h2;simp at h2
   obtain⟨g,off,rfl,hz0⟩:=Aby H k hk hne
   simp +contextual (maxSteps:=600000) (disch:=omega) only[go_sem,P1,hlen,c0]
   have Hs:Hp U0 U (rs.set k (ow e.p.kd (.sl g off l.length) l)):=by rw[<- (Zac.1 hk).2,Zal];exact H
   refine Br (fun n env N=>∃ i:Nat,env 0= .sl g off l.length/\env 3=gi i/\l.length - i=n/\0<i/\i<=l.length/\U=N/\B5 (l.take i)=l.take i) (l.length - 1) ⟨1,rfl,rfl,rfl,by omega,by omega,rfl,by
    match l,h2 with
    |x::t,_=>simp[B5]⟩ ?_
   rintro J hJ n env N ⟨i,e0,e3,hn,hi0,hi,rfl,hT⟩
   rcases Zad i l.length with hlt|hge
   ·have c1:decide ((i:Int)<l.length)=true:=by simp;omega
    have i1:(i:Int) - 1=((i - 1:Nat):Int):=by omega
    obtain⟨a1,b1⟩:=e.atL H k hk hlt
    obtain⟨a2,b2⟩:=e.atL H k hk (j:=i - 1) (by omega)
    have hS:=Sd hi0 hlt
    by_cases hE:l[i]=l[i - 1]
    ·rw[if_pos hE.symm] at hS
     have dE:decide (l[i]=l[i - 1])=true:=decide_eq_true hE
     simp +contextual (maxSteps:=600000) (disch:=omega) only[go_sem,e0,e3,hlen,c1,i1,A1,a1,b1,a2,b2,E.eq,dE,hz0,cutLo hi,Zan,Zao]
     refine Br (fun n env N=>∃(j m:Nat) (D:List Y),env 0= .sl g off l.length/\env 4= .sl g (off+i*e.p.z) (l.length - i)/\env 3=gi m/\env 5=gi j/\l.length - i - j=n/\0<j/\i+j<=l.length/\i<=m/\m+1<=i+j/\D.length=l.length/\(∀ q (h1:q<D.length) (h2:q<l.length),i+j<=q+1->D[q]=l[q])/\B5 (l.take (i+j))=D.take m/\U.length<=N.length/\Hp U0 N (rs.set k (ow e.p.kd (.sl g off l.length) D))) (l.length - i - 1) ⟨1,i,l,by simp +contextual (maxSteps:=600000) (disch:=omega) only[go_sem,e0],by simp +contextual (maxSteps:=600000) (disch:=omega) only[go_sem,e0],by simp +contextual (maxSteps:=600000) (disch:=omega) only[go_sem,e3],rfl,rfl,by omega,by omega,Zaa _,by omega,rfl,fun q h1 h2 _=>rfl,by rw[hS,hT],Zaa _,Hs⟩ ?_
     clear e0 e3
     rintro J2 hJ2 n2 env N ⟨j,m,D,e0,e4,e3,e5,hn2,hj0,hij,hm1,hm2,hD,hA,hT2,hle,hH⟩
     have hkk:(rs.set k (ow e.p.kd (.sl g off l.length) D))[k]? =some (ow e.p.kd (.sl g off l.length) D):=by rw[Zab hkl]
     have hlen2:=(hH.sl k hkk).len
     have hlen2:lenG false (.sl g off l.length)=some (l.length:Int):=hlen
     have hlen3:lenG false (.sl g (off+i*e.p.z) (l.length - i))=some ((l.length - i:Nat):Int):=rfl
     have hDne:D≠[]:=fun h=>by rw[h] at hD;simp at hD;omega
     have hz1:zOk N e.p.z (.sl g off l.length)=true:=by
      obtain⟨g',off',hv,hz⟩:=Aby hH k hkk hDne
      exact hz
     rcases Zad (i+j) l.length with hlt2|hge2
     ·have c2:decide ((j:Int)<((l.length - i:Nat):Int))=true:=by simp;omega
      have j1:(j:Int) - 1=((j - 1:Nat):Int):=by omega
      have x1:=Aig (z:=e.p.z) (g:=g) (off:=off) (n:=l.length) (k:=i) (j:=j) hlt2
      have x2:=Aig (z:=e.p.z) (g:=g) (off:=off) (n:=l.length) (k:=i) (j:=j - 1) (by omega)
      obtain⟨-,b1⟩:=e.atL hH k hkk (j:=i+j) (by omega)
      obtain⟨-,b2⟩:=e.atL hH k hkk (j:=i+(j - 1)) (by omega)
      obtain⟨a3,-⟩:=e.atL hH k hkk (j:=m) (by omega)
      rw[hA (i+j) (by omega) hlt2 (by omega)] at b1
      rw[hA (i+(j - 1)) (by omega) (by omega) (by omega)] at b2
      have hS2:=Sd (l:=l) (i:=i+j) (by omega) hlt2
      have hix:i+j - 1=i+(j - 1):=by omega
      by_cases hE2:l[i+j]=l[i+(j - 1)]
      ·rw[if_pos (by simp only[hix];exact hE2.symm),hT2] at hS2
       have dE:decide (l[i+j]=l[i+(j - 1)])=true:=decide_eq_true hE2
       simp +contextual (maxSteps:=600000) (disch:=omega) only[go_sem,e0,e3,e4,e5,hlen3,c2,j1,A1,x1,x2,b1,b2,E.ne,dE]
       refine⟨l.length - i - (j+1),by omega,hJ2 _ _ _ ⟨j+1,m,D,?_,?_,?_,?_,rfl,by omega,by omega,hm1,by omega,hD,fun q h1 h2 h3=>hA q h1 h2 (by omega),hS2,hle,hH⟩⟩
       all_goals simp +contextual (maxSteps:=600000) (disch:=omega) only[go_sem,e0,e3,e4,e5]
      ·rw[if_neg (by simp only[hix];exact fun h=>hE2 h.symm),hT2] at hS2
       have dE:decide (l[i+j]=l[i+(j - 1)])=false:=decide_eq_false hE2
       obtain⟨N3,s3,H3⟩:=hH.stw k hkk (j:=m) (by omega) e.p.z (e.val l[i+j]) l[i+j] (e.hc _) rfl e.hz
       rw[Zak] at H3
       simp +contextual (maxSteps:=600000) (disch:=omega) only[go_sem,e0,e3,e4,e5,hlen3,c2,j1,A1,x1,x2,b1,b2,E.ne,dE,a3,s3]
       have:=Aab s3
       refine⟨l.length - i - (j+1),by omega,hJ2 _ _ _ ⟨j+1,m+1,D.set m l[i+j],?_,?_,?_,?_,rfl,by omega,by omega,by omega,by omega,by simpa using hD,fun q h1 h2 h3=> ?_,?_,by omega,H3⟩⟩
       all_goals first|(simp +contextual (maxSteps:=600000) (disch:=omega) only[go_sem,e0,e3,e4,e5];done)|skip
       ·rw[List.getElem_set_ne (by omega)]
        exact hA q (by simpa using h1) h2 (by omega)
       ·have e9:i+(j+1)=i+j+1:=by omega
        rw[e9,hS2,Zaf (by simp;omega),List.getElem_set_self,List.take_set_of_le (Zaa _)]
     ·have c2:decide ((j:Int)<((l.length - i:Nat):Int))=false:=by simp;omega
      have hfull:i+j=l.length:=by omega
      rw[hfull,Zag] at hT2
      rw[<- hD] at hkk
      obtain⟨N3,s3,hl3,H3⟩:=clrRow hH k (by rw[hD];rw[hD] at hkk;exact hkk) E.ze E.hze (m:=m) (by omega) (by omega)
      rw[hD] at s3
      rw[Zak,<-hT2] at H3
      have hcne:B5 l≠[]:=fun h=>by
       have h9:=congrArg List.length hT2
       rw[h,Zar] at h9
       simp at h9;omega
      have hz3:zOk N3 e.p.z (.sl g off l.length)=true:=by
       obtain⟨g',off',hv,hz⟩:=Aby H3 k (by rw[Zab hkl]) hcne
       exact hz
      simp +contextual (maxSteps:=600000) (disch:=omega) only[go_sem,e0,e3,e4,e5,hlen3,c2,hz1,hz3,cutLo (show m<=l.length by omega),cutHi (show m<=l.length by omega),s3,Zan,Zao]
      exact⟨_,rfl,by omega,H3⟩
    ·rw[if_neg (fun h=>hE h.symm),hT] at hS
     have dE:decide (l[i]=l[i - 1])=false:=decide_eq_false hE
     simp +contextual (maxSteps:=600000) (disch:=omega) only[go_sem,e0,e3,hlen,c1,i1,A1,a1,b1,a2,b2,E.eq,dE]
     refine⟨l.length - (i+1),by omega,hJ _ _ _ ⟨i+1,?_,?_,rfl,by omega,by omega,rfl,by rw[hS,Zaf hlt]⟩⟩
     all_goals simp +contextual (maxSteps:=600000) (disch:=omega) only[go_sem,e0,e3]
   ·have c1:decide ((i:Int)<l.length)=false:=by simp;omega
    simp +contextual (maxSteps:=600000) (disch:=omega) only[go_sem,e0,e3,hlen,c1]
    have:i=l.length:=by omega
    rw[this,Zag] at hT
    exact⟨_,rfl,by rw[hT];exact Hs⟩
 obtain⟨r,N,R,h⟩:=key
 exact⟨r,N,R,h⟩
end
def Zs:Fn1:=⟨82,[.t 4],(rg [oX 2 0,o 4 (.mov (.k .nilS))] (rg [o 12 (.lit 2 0 [] []),oM 5 12] (.seq (rg [oW 13 4 2,oC 14 38 13,oU 15 14] (oG 15 (rg [oM 16 5,oM 4 16] .ret))) (rg [o 17 (.lit 8 0 [] []),oM 6 17] (.seq (rg [oF 18 3 2,oL 19 18,oN 20 19,oV 21 (ki 0)] (oH 0 (rg [oB 22 .lss 21 20] (.seq (oJ 22 0) (.seq (.blk 1 (rg [oI 23 8 19 21,oW 24 8 23,o 8 (.new [s0,z0,z0,z0,z0,z0,z0,(.bool false)]),oS 8 8 24] (rg [oF 25 0 8,oL 26 25,oM 27 1,oB 28 .eql 26 27] (oG 28 (.reg [oM 29 6,oW 30 8 8,o 31 (.lit 8 1 [s0,z0,z0,z0,z0,z0,z0,(.bool false)] [(0,8,(.t 30))]),o 32 (.app 8 72 [s0,z0,z0,z0,z0,z0,z0,(.bool false)] (.t 29) (.t 31)),oM 6 32]))))) (.reg [oZ 33 21 1,oM 21 33])))))) (rg [oM 34 6,o 35 (.call 196 [(.t 34),(.k (.fn 197 []))])] (rg [o 36 (.build [z0,z0] []),o 37 (.lit 2 1 [z0,z0] [(0,2,(.t 36))]),oM 9 37] (.seq (oH 2 (.seq (rg [oM 38 9,oN 39 38,oE 40 .gtr 39 0] (oJ 40 2)) (.blk 3 (rg [oM 41 9,oM 42 9,oN 43 42,oE 44 .sub 43 1,oI 45 2 41 44,oW 46 2 45,o 10 (.new [z0,z0]),oS 2 10 46] (rg [oM 47 9,oM 48 9,oN 49 48,oE 50 .sub 49 1,o 51 (.cut 2 (.t 47) none (some (.t 50))),oM 9 51] (.seq (rg [oW 52 2 10,o 53 (.build [z0,z0] []),o 54 (.eqs true [.i .i64,.i .i64] (.t 52) (.t 53))] (oG 54 (.reg [oM 55 5,oW 56 2 10,o 57 (.lit 2 1 [z0,z0] [(0,2,(.t 56))]),o 58 (.app 2 16 [z0,z0] (.t 55) (.t 57)),oM 5 58]))) (rg [oM 59 6,oN 60 59,oE 61 .sub 60 1,oM 11 61] (oH 4 (.seq (rg [oM 62 11,oE 63 .geq 62 0] (oJ 63 4)) (.seq (.blk 5 (dw [oM 66 6,oM 67 11,oI 68 8 66 67,oF 69 4 68,oW 70 2 69,oW 71 2 10] [o 72 (.eqs false [.i .i64,.i .i64] (.t 70) (.t 71))] (oG 72 (.reg [oM 73 9,oM 74 6,oM 75 11,oI 76 8 74 75,oF 77 1 76,oW 78 2 77,o 79 (.lit 2 1 [z0,z0] [(0,2,(.t 78))]),o 80 (.app 2 16 [z0,z0] (.t 73) (.t 79)),oM 9 80])))) (.reg [oM 64 11,oE 65 .sub 64 1,oM 11 65]))))))))))) (rg [oM 81 5,oM 4 81] .ret)))))))))⟩
theorem A90:A2 Tryz.prog 132=some Zs:=by kernel_rfl
theorem Ahs {l:List Cell} {o:ByteArray} {i:Nat} (hi:i<l.length):(l.take (i+1)).filter (Ic o)=if Ic o l[i] then(l.take i).filter (Ic o)++[l[i]] else(l.take i).filter (Ic o):=by
 rw[Fq hi]
 split<;>simp
theorem Agk {l:List Cell} (d:Dot) {j:Nat} (hj:j<l.length):((l.drop j).filter (Bx d))=if Bx d l[j] then l[j]::(l.drop (j+1)).filter (Bx d) else(l.drop (j+1)).filter (Bx d):=by
 rw[Zaq hj,List.filter_cons]
theorem Hp.popDot {U N:St} {rs:List Thg} {v:GV} {S:List Dot} {d:Dot} (H:Hp U N rs) (k:Nat) (hk:rs[k]? =some (ow pDot.kd v (S++[d]))):∃ g off,v= .sl g off (S.length+1)/\zOk N 2 v=true/\Hp U N (rs.set k (ow pDot.kd (.sl g off S.length) S)):=by
 obtain⟨a,hO,hnd,hbd,ht⟩:=(H.pick k hk).turn
 have hkl:=(Zac.1 hk).1
 rcases OS.flat.1 hO with⟨h,_⟩|⟨g,pre,post,rfl,hB,rfl⟩
 ·simp at h
 ·refine⟨g,pre.length,by simp,?_,?_⟩
  ·have:zOk N 2 (.sl g pre.length (S++[d]).length)=true:=by simp[zOk,Bt.1 hB];rfl
   exact this
  ·refine Hp.unpick (ht (a':=[g]) ⟨by simp,fun g' h=>.inl h,by simp,fun _ _ _=>rfl⟩ (OS.flat.2 (.inr ⟨g,pre,pDot.cells [d]++post,rfl,?_,rfl⟩))) hkl
   rw[hB,Pl.cells_append];simp
theorem Ac0 {P:Program} {a:Cd} {Q:Ex->Env->St->Prop} {env:Env} {U:St} (I:Nat->Env->St->Prop) (n j0:Nat) (X:Env->St->Prop) (h0:I n env U)
  (hs:∀(J:Nat->Env->St->Prop) (Yq:Env->St->Prop),(∀ k env U,I k env U->J k env U)->(∀ env U,X env U->Yq env U)->∀ k env U,I k env U->vc P a (fun e env' U'=>match e with| .nxt=>∃ k',k'<k/\J k' env' U'| .ext j=>j=j0/\Yq env' U'| .ret=>False) env U)
  (hx:∀ env U,X env U->Q (.ext j0) env U):vc P (.lop a) Q env U:=by
 refine Tm I n h0 fun k env U hI=>As (hs I X (fun _ _ _ h=>h) (fun _ _ h=>h) k env U hI) fun e env' U' he=> ?_
 cases e with
 |nxt=>exact he
 |ret=>exact he.elim
 |ext j=>obtain⟨rfl,he⟩:=he;exact hx _ _ he
theorem A5p (U:St) (cs:List GV) (s:State) (hR:Ab.R U s cs) (o:ByteArray) (hl:A7 s<=1099511627776):∃ r N,Ret Tryz.prog 132 [.agg cs,.str o] U r N/\Hp U N [ow pDot.kd r (rowD s o)]:=by
 have hR0:=hR
 obtain⟨a,b,c,v,rfl,_,_,_,hc⟩:=hR
 obtain⟨l1,l2,l3,l4,_⟩:=Aq hl
 refine Fp A90 (Z0z rfl) ?_
 have H:=((Hp.refl U).new 1 [a,b,c,v]).nil_Dot
 simp +contextual (disch:=omega) only[go_sem,Zs,Lf,Ji,Bk (cs:=[a,b,c,v]) rfl]
 refine Ah (Oo _ _ s (Ab.pre hR0 H.sub) hl) (fun hok=> ?_) (fun hok=> ?_)
 rotate_left
 ·have e:rowD s o=[]:=by simp[rowD,hok]
  simp +contextual (disch:=omega) only[go_sem]
  exact⟨_,rfl,by rw[e];exact H.one⟩
 have e:rowD s o=(rowC s o).map (·.dot):=by simp[rowD,hok]
 have hcr:=Qg hok
 have hbd:=Ow hcr o
 have hnd:=hcr.nd
 rw[e]
 have H:=H.nil_Cell
 simp +contextual (disch:=omega) only[go_sem,A4 (H.pt 2 rfl),hc.len]
 generalize hn1:U.length=n1 at*
 refine Ht s.cells.length 21 0 (fun i env N=>env 1= .str o/\env 19=v/\env 20=gi s.cells.length/\∃ u w,env 5=u/\env 6=w/\Hp U N [ow Al.kd w ((s.cells.take i).filter (Ic o)),ow pDot.kd u [],pt 1 n1 [a,b,c,v]]) (fun env N=>∃ u w,env 5=u/\env 6=w/\Hp U N [ow Al.kd w (s.cells.filter (Ic o)),ow pDot.kd u [],pt 1 n1 [a,b,c,v]]) rfl ⟨rfl,rfl,rfl,_,_,rfl,rfl,H⟩ ?_ ?_ ?_
 ·clear H
  rintro J Yq hJ hY i env N hi e21 c0 ⟨e1,e19,e20,u,w,e5,e6,H⟩
  have C1:=A6 (hc.pre H.sub) hi
  have hfl:=C7 s.cells (Ic o) i
  have hsn:=Ahs (o:=o) hi
  have G:=H.grow (pre1 N (some (Blk.row 1 (A8x s.cells[i]))))
  cases ho:decide (s.cells[i].obj=o) with
  |false=>
   have hk0:Ic o s.cells[i]=false:=ho
   rw[hk0,if_neg (by simp)] at hsn
   simp +contextual (disch:=omega) only[go_sem,c0,e1,e5,e6,e19,e20,e21,C1,ho]
   refine hJ _ _ _ ⟨?_,?_,?_,u,w,?_,?_,by rw[hsn];exact G⟩
   all_goals simp +contextual (disch:=omega) only[go_sem,e1,e5,e6,e19,e20,e21]
  |true=>
   have hk0:Ic o s.cells[i]=true:=ho
   rw[hk0,if_pos rfl] at hsn
   obtain⟨w',N3,e8,H3⟩:=G.app_Cell 0 rfl s.cells[i] (by omega)
   simp +contextual (disch:=omega) only[go_sem,c0,e1,e5,e6,e19,e20,e21,C1,ho,e8]
   refine hJ _ _ _ ⟨?_,?_,?_,u,w',?_,?_,by rw[hsn];exact H3⟩
   all_goals simp +contextual (disch:=omega) only[go_sem,e1,e5,e6,e19,e20,e21]
 ·clear H
  rintro Yq hY env N e21 c0 ⟨e1,e19,e20,u,w,e5,e6,H⟩
  rw[Zag] at H
  simp +contextual (disch:=omega) only[go_sem,c0,e1,e5,e6,e19,e20,e21]
  refine hY _ _ ⟨u,w,?_,?_,H⟩
  all_goals simp +contextual (disch:=omega) only[go_sem,e5,e6]
 clear H
 rintro env N ⟨u,w,e5,e6,H⟩
 have hfl:=Zah (Ic o) s.cells
 obtain⟨N1,R1,H⟩:=Ii H 0 rfl (by omega) (hnd.sublist ((List.filter_sublist).map _))
 simp +contextual (disch:=omega) only[go_sem,e5,e6]
 refine Ak R1 ?_
 have H:Hp U N1 [ow Al.kd w (objC s.cells o),ow pDot.kd u [],pt 1 n1 [a,b,c,v]]:=H
 have H:=(H.new 2 [gi 0,gi 0]).toRow (p:=pDot) 0 rfl [⟨0,0⟩] rfl rfl 1 rfl
 have H:Hp U _ [ow pDot.kd (.sl N1.length 0 1) [⟨0,0⟩],ow Al.kd w (objC s.cells o),ow pDot.kd u [],pt 1 n1 [a,b,c,v]]:=H
 simp +contextual (disch:=omega) only[go_sem,e5,e6]
 obtain⟨hz1,hz2⟩:=Ad7 hcr o
 have hnz:∀ c∈objC s.cells o,c.dot≠⟨0,0⟩:=fun c hcm h0=>by
  have:=hcr.dot c (Ov.1 hcm).1
  rw[h0,A3c] at this;cases this
 have hscl:=A5i s.cells o
 have htot:Zp (objC s.cells o) [⟨0,0⟩]=(rowC s o).map (·.dot):=by
  simp[Zp,A8w,isZ,rowC]
 have hM0:S4 (objC s.cells o) [⟨0,0⟩]=1+(rowC s o).length:=by simp[S4,rowC]
 generalize hT:rowC s o=T at*
 generalize hsc:objC s.cells o=sc at*
 refine Ac0 (fun n env N=>∃(ws ud:GV) (S D:List Dot),env 5=ud/\env 6=w/\env 9=ws/\S4 sc S=n/\n<=1+T.length/\(∀ d∈S,Adq sc fuel d)/\D++Zp sc S=T.map (·.dot)/\Hp U N [ow pDot.kd ws S,ow Al.kd w sc,ow pDot.kd ud D,pt 1 n1 [a,b,c,v]]) (1+T.length) 2 (fun env N=>∃ ud,env 5=ud/\Hp U N [ow pDot.kd ud (T.map (·.dot))]) ⟨_,u,[⟨0,0⟩],[],by simp +contextual (disch:=omega) only[go_sem,e5],by simp +contextual (disch:=omega) only[go_sem,e6],rfl,hM0,Zaa _,fun d hd=>by rw[List.mem_singleton.1 hd];exact hz1,by rw[htot];rfl,H⟩ ?_ ?_
 ·clear H e5 e6
  rintro J Yq hJ hY n env N ⟨ws,ud,S,D,e5,e6,e9,hn,hnT,hA,hE,H⟩
  have hSl:=A3d (sc:=sc) S
  have hDl:=congrArg List.length hE
  simp only[Zae,Zap] at hDl
  rcases List.eq_nil_or_concat S with rfl|⟨S0,d,rfl⟩
  ·have hlenS:lenG false ws=some 0:=(H.sl 0 rfl).len
   have c0:decide ((0:Int)<0)=false:=rfl
   simp +contextual (disch:=omega) only[go_sem,e5,e6,e9,hlenS,c0]
   refine hY _ _ ⟨ud,?_,?_⟩
   ·simp +contextual (disch:=omega) only[go_sem,e5]
   ·have:D=T.map (·.dot):=by rw[<- hE];simp[Zp]
    rw[<- this]
    exact(H.pick 2 rfl).one
  ·rw[List.concat_eq_append] at*
   have hdA:=hA d (by simp)
   have hlenS:lenG false ws=some ((S0.length:Int)+1):=by
    have:=(H.sl 0 rfl).len
    rw[this];simp
   have c0:decide ((0:Int)<(S0.length:Int)+1)=true:=decide_eq_true (by omega)
   have hl1:(S0.length:Int)+1 - 1=(S0.length:Int):=by omega
   have hSl0:S0.length+1<=1+T.length:=by simp only[Zae,Zam,Zaj] at hSl;omega
   have C1:=Tq (H.sl 0 rfl) (i:=S0.length) (by simp)
   have hgd:(S0++[d])[S0.length]'(by simp)=d:=by simp
   rw[hgd] at C1
   have hpop:=Ael (S:=S0) hdA hnz
   have hmp:=Aem (S:=S0) hdA
   rw[hpop] at hE
   rw[hmp] at hn
   have hA2:∀ x∈S0++((sc.filter (Bx d)).map (·.dot)).reverse,Adq sc fuel x:=fun x hx=>by
    rcases List.mem_append.1 hx with h|h
    ·exact hA x (by simp[h])
    ·obtain⟨y,hy,rfl⟩:=List.mem_map.1 (List.mem_reverse.1 h)
     exact hz2 y (Zaw.1 hy).1
   obtain⟨g,off,rfl,hzk,HN⟩:=(H.new 1 [gi d.rep,gi d.seq]).popDot 1 rfl
   have HN:Hp U _ [pt 1 N.length [gi d.rep,gi d.seq],ow pDot.kd (.sl g off S0.length) S0,ow Al.kd w sc,ow pDot.kd ud D,pt 1 n1 [a,b,c,v]]:=HN
   have hcut:=cutHi (z:=2) (g:=g) (off:=off) (n:=S0.length+1) (k:=S0.length) (by omega)
   have hlenC:=(HN.sl 2 rfl).len
   have hlD:=(HN.pt 0 rfl)
   cases hz:decide (d=⟨0,0⟩) with
   |true=>
    have hse:A8w d=[]:=by unfold A8w;rw[if_pos (show isZ d=true from hz)]
    rw[hse,Za7] at hE
    simp +contextual (disch:=omega) only[go_sem,e5,e6,e9,hlenS,c0,hl1,A1,C1,hzk,hcut,A4 hlD,hz,hlenC,Zan,Zao]
    generalize hnb:N.length=nb at*
    refine Ac0 (fun n env N=>∃(m:Nat) (wz:GV),env 5=ud/\env 6=w/\env 9=wz/\env 10= .ptr nb 0/\env 11=gi ((m:Int) - 1)/\m=n/\m<=sc.length/\Hp U N [pt 1 nb [gi d.rep,gi d.seq],ow pDot.kd wz (S0++(((sc.drop m).filter (Bx d)).map (·.dot)).reverse),ow Al.kd w sc,ow pDot.kd ud D,pt 1 n1 [a,b,c,v]]) sc.length 4 (fun env N=>∃(wz:GV),env 5=ud/\env 6=w/\env 9=wz/\Hp U N [pt 1 nb [gi d.rep,gi d.seq],ow pDot.kd wz (S0++((sc.filter (Bx d)).map (·.dot)).reverse),ow Al.kd w sc,ow pDot.kd ud D,pt 1 n1 [a,b,c,v]]) ⟨sc.length,.sl g off S0.length,by simp +contextual (disch:=omega) only[go_sem,e5],by simp +contextual (disch:=omega) only[go_sem,e6],by simp +contextual (disch:=omega) only[go_sem],by simp +contextual (disch:=omega) only[go_sem],by simp +contextual (disch:=omega) only[go_sem],rfl,Zaa _,by simp only[Za5,Za8,List.map_nil,Za6,Zav];exact HN⟩ ?_ ?_
    ·clear H HN e5 e6 e9 hlD hzk
     rintro J2 Yq2 hJ2 hY2 n2 env N ⟨m,wz,e5,e6,e9,e10,e11,hn2,hm,HN⟩
     have hfd:=Zah (Bx d) (sc.drop m)
     rw[Zas] at hfd
     cases m with
     |zero=>
      have e11:env 11=gi (-1):=e11
      have c1:decide ((0:Int)<= -1)=false:=rfl
      rw[Zba] at HN
      simp +contextual (disch:=omega) only[go_sem,e5,e6,e9,e10,e11,c1]
      refine hY2 _ _ ⟨wz,?_,?_,?_,HN⟩
      all_goals simp +contextual (disch:=omega) only[go_sem,e5,e6,e9]
     |succ j=>
      have e11:env 11=gi (j:Int):=by rw[e11];congr 1;omega
      have c1:decide ((0:Int)<=j)=true:=by simp
      have C2:=A6 (HN.sl 2 rfl) (i:=j) (by omega)
      have hdr:=Agk d (l:=sc) (j:=j) (by omega)
      cases hr:decide (sc[j].ref=d) with
      |false=>
       have hk0:Bx d sc[j]=false:=hr
       rw[hk0,if_neg (by simp)] at hdr
       simp +contextual (disch:=omega) only[go_sem,e5,e6,e9,e10,e11,c1,A1,C2,A4 (HN.pt 0 rfl),hr]
       refine⟨j,by omega,hJ2 _ _ _ ⟨j,wz,?_,?_,?_,?_,?_,rfl,by omega,by rw[hdr];exact HN⟩⟩
       all_goals simp +contextual (disch:=omega) only[go_sem,e5,e6,e9,e10,e11]
      |true=>
       have hk0:Bx d sc[j]=true:=hr
       rw[hk0,if_pos rfl] at hdr
       obtain⟨w2,N4,e7,H4⟩:=HN.app_Dot 1 rfl sc[j].dot (by simp only[Zae,Zay,Zap];omega)
       simp +contextual (disch:=omega) only[go_sem,e5,e6,e9,e10,e11,c1,A1,C2,A4 (HN.pt 0 rfl),hr,e7]
       refine⟨j,by omega,hJ2 _ _ _ ⟨j,w2,?_,?_,?_,?_,?_,rfl,by omega,?_⟩⟩
       all_goals first|(simp +contextual (disch:=omega) only[go_sem,e5,e6,e9,e10,e11];done)|skip
       rw[hdr,Zbb,Za3,<-Zai]
       exact H4
    ·clear H HN e5 e6 e9 hlD hzk
     rintro env N ⟨wz,e5,e6,e9,HN⟩
     simp +contextual (disch:=omega) only[go_sem,e5,e6,e9]
     refine⟨n - 1,by omega,hJ _ _ _ ⟨wz,ud,_,D,?_,?_,?_,by omega,?_,hA2,hE,HN.drop1⟩⟩
     all_goals first|(simp +contextual (disch:=omega) only[go_sem,e5,e6,e9];done)|omega
   |false=>
    have hse:A8w d=[d]:=by unfold A8w;rw[if_neg (by rw[isZ,hz];simp)]
    rw[hse,<-Zai] at hE
    obtain⟨ud2,N3,e8,HN⟩:=HN.app_Dot 3 rfl d (by omega)
    have HN:Hp U N3 [pt 1 N.length [gi d.rep,gi d.seq],ow pDot.kd (.sl g off S0.length) S0,ow Al.kd w sc,ow pDot.kd ud2 (D++[d]),pt 1 n1 [a,b,c,v]]:=HN
    generalize hDD:D++[d]=D2 at*
    simp +contextual (disch:=omega) only[go_sem,e5,e6,e9,hlenS,c0,hl1,A1,C1,hzk,hcut,A4 hlD,hz,hlenC,e8,Zan,Zao]
    generalize hnb:N.length=nb at*
    refine Ac0 (fun n env N=>∃(m:Nat) (wz:GV),env 5=ud2/\env 6=w/\env 9=wz/\env 10= .ptr nb 0/\env 11=gi ((m:Int) - 1)/\m=n/\m<=sc.length/\Hp U N [pt 1 nb [gi d.rep,gi d.seq],ow pDot.kd wz (S0++(((sc.drop m).filter (Bx d)).map (·.dot)).reverse),ow Al.kd w sc,ow pDot.kd ud2 D2,pt 1 n1 [a,b,c,v]]) sc.length 4 (fun env N=>∃(wz:GV),env 5=ud2/\env 6=w/\env 9=wz/\Hp U N [pt 1 nb [gi d.rep,gi d.seq],ow pDot.kd wz (S0++((sc.filter (Bx d)).map (·.dot)).reverse),ow Al.kd w sc,ow pDot.kd ud2 D2,pt 1 n1 [a,b,c,v]]) ⟨sc.length,.sl g off S0.length,by simp +contextual (disch:=omega) only[go_sem,e5],by simp +contextual (disch:=omega) only[go_sem,e6],by simp +contextual (disch:=omega) only[go_sem],by simp +contextual (disch:=omega) only[go_sem],by simp +contextual (disch:=omega) only[go_sem],rfl,Zaa _,by simp only[Za5,Za8,List.map_nil,Za6,Zav];exact HN⟩ ?_ ?_
    ·clear H HN e5 e6 e9 hlD hzk
     rintro J2 Yq2 hJ2 hY2 n2 env N ⟨m,wz,e5,e6,e9,e10,e11,hn2,hm,HN⟩
     have hfd:=Zah (Bx d) (sc.drop m)
     rw[Zas] at hfd
     cases m with
     |zero=>
      have e11:env 11=gi (-1):=e11
      have c1:decide ((0:Int)<= -1)=false:=rfl
      rw[Zba] at HN
      simp +contextual (disch:=omega) only[go_sem,e5,e6,e9,e10,e11,c1]
      refine hY2 _ _ ⟨wz,?_,?_,?_,HN⟩
      all_goals simp +contextual (disch:=omega) only[go_sem,e5,e6,e9]
     |succ j=>
      have e11:env 11=gi (j:Int):=by rw[e11];congr 1;omega
      have c1:decide ((0:Int)<=j)=true:=by simp
      have C2:=A6 (HN.sl 2 rfl) (i:=j) (by omega)
      have hdr:=Agk d (l:=sc) (j:=j) (by omega)
      cases hr:decide (sc[j].ref=d) with
      |false=>
       have hk0:Bx d sc[j]=false:=hr
       rw[hk0,if_neg (by simp)] at hdr
       simp +contextual (disch:=omega) only[go_sem,e5,e6,e9,e10,e11,c1,A1,C2,A4 (HN.pt 0 rfl),hr]
       refine⟨j,by omega,hJ2 _ _ _ ⟨j,wz,?_,?_,?_,?_,?_,rfl,by omega,by rw[hdr];exact HN⟩⟩
       all_goals simp +contextual (disch:=omega) only[go_sem,e5,e6,e9,e10,e11]
      |true=>
       have hk0:Bx d sc[j]=true:=hr
       rw[hk0,if_pos rfl] at hdr
       obtain⟨w2,N4,e7,H4⟩:=HN.app_Dot 1 rfl sc[j].dot (by simp only[Zae,Zay,Zap];omega)
       simp +contextual (disch:=omega) only[go_sem,e5,e6,e9,e10,e11,c1,A1,C2,A4 (HN.pt 0 rfl),hr,e7]
       refine⟨j,by omega,hJ2 _ _ _ ⟨j,w2,?_,?_,?_,?_,?_,rfl,by omega,?_⟩⟩
       all_goals first|(simp +contextual (disch:=omega) only[go_sem,e5,e6,e9,e10,e11];done)|skip
       rw[hdr,Zbb,Za3,<-Zai]
       exact H4
    ·clear H HN e5 e6 e9 hlD hzk
     rintro env N ⟨wz,e5,e6,e9,HN⟩
     simp +contextual (disch:=omega) only[go_sem,e5,e6,e9]
     refine⟨n - 1,by omega,hJ _ _ _ ⟨wz,ud2,_,D2,?_,?_,?_,by omega,?_,hA2,hE,HN.drop1⟩⟩
     all_goals first|(simp +contextual (disch:=omega) only[go_sem,e5,e6,e9];done)|omega
 ·clear H e5 e6
  rintro env N ⟨ud,e5,H⟩
  simp +contextual (disch:=omega) only[go_sem,e5]
  exact⟨_,rfl,H⟩
def Sf:Fn1:=⟨34,[.t 4],(rg [oX 2 0,o 4 (.mov (.k .nilS))] (rg [o 9 (.lit 8 0 [] []),oM 5 9] (.seq (rg [oW 10 4 2,oM 11 1,oD 12 132 10 11,oN 13 12,oV 14 (ki 0)] (oH 0 (rg [oB 15 .lss 14 13] (.seq (oJ 15 0) (.seq (.blk 1 (rg [oI 16 2 12 14,oW 17 2 16,o 7 (.new [z0,z0]),oS 2 7 17] (dw [oF 18 3 2,oL 19 18,oW 20 4 2,oW 21 2 7,oD 22 133 20 21,oI 23 8 19 22,oW 24 8 23,o 8 (.new [s0,z0,z0,z0,z0,z0,z0,(.bool false)])] [oS 8 8 24] (rg [oF 25 7 8,oL 26 25,oU 27 26] (oG 27 (.reg [oM 28 5,oW 29 8 8,o 30 (.lit 8 1 [s0,z0,z0,z0,z0,z0,z0,(.bool false)] [(0,8,(.t 29))]),o 31 (.app 8 72 [s0,z0,z0,z0,z0,z0,z0,(.bool false)] (.t 28) (.t 30)),oM 5 31])))))) (.reg [oZ 32 14 1,oM 14 32])))))) (rg [oM 33 5,oM 4 33] .ret))))⟩
theorem A5q:A2 Tryz.prog 81=some Sf:=by kernel_rfl
def Cn (c:Cell):Bool:= !c.gone
theorem rowT (s:State) (o:ByteArray):∃ T:List Cell,rowD s o=T.map (·.dot)/\rowL s o=T.filter Cn/\T.length<=1200120/\∀ c∈T,∃ k,∃ hk:k<s.cells.length,I8 s.cells c.dot=k/\s.cells[k]=c:=by
 cases h:Cf s with
 |true=>
  refine⟨rowC s o,by simp[rowD,h],by simp only[rowL,h,if_true];rfl,Ow (Qg h) o,fun c hc=> ?_⟩
  obtain⟨k,hk,h1,h2⟩:=Agd h hc
  exact⟨k,hk,by simp[I8,h1],h2⟩
 |false=>exact⟨[],by simp[rowD,h],by simp[rowL,h],by simp,fun c hc=>by simp at hc⟩
theorem A91 {l:List Cell} {i:Nat} (hi:i<l.length):(l.take (i+1)).filter Cn=if Cn l[i] then(l.take i).filter Cn++[l[i]] else(l.take i).filter Cn:=by
 rw[Fq hi]
 split<;>simp
theorem A1d (U:St) (cs:List GV) (s:State) (hR:Ab.R U s cs) (o:ByteArray) (hl:A7 s<=1099511627776):∃ r N,Ret Tryz.prog 81 [.agg cs,.str o] U r N/\Hp U N [ow Al.kd r (rowL s o)]:=by
 have hR0:=hR
 obtain⟨a,b,c,v,rfl,_,_,_,hc⟩:=hR
 obtain⟨l1,l2,l3,l4,_⟩:=Aq hl
 refine Fp A5q (Z0z rfl) ?_
 have H:=((Hp.refl U).new 1 [a,b,c,v]).nil_Cell
 simp +contextual (disch:=omega) only[go_sem,Sf,Lf,Ji,Bk (cs:=[a,b,c,v]) rfl]
 obtain⟨r1,N1,R1,K1⟩:=A5p _ _ s (Ab.pre hR0 H.sub) o hl
 obtain⟨T,hT1,hT2,hT3,hT4⟩:=rowT s o
 rw[hT1] at K1
 rw[hT2]
 refine Ez R1 K1 ?_
 have H:=H.add K1
 simp only[List.cons_append,Za7] at H
 have hlen0:=(H.sl 0 rfl).len
 rw[Zap] at hlen0
 simp +contextual (disch:=omega) only[go_sem,hlen0]
 generalize hn1:U.length=n1 at*
 refine Q5 T.length 14 (fun i env N=>env 2= .ptr n1 0/\env 12=r1/\env 13=gi T.length/\∃ u,env 5=u/\Hp U N [ow Al.kd u ((T.take i).filter Cn),ow pDot.kd r1 (T.map fun x:Cell=>x.dot),pt 1 n1 [a,b,c,v]]) rfl ⟨rfl,rfl,rfl,_,rfl,H.pick 1 rfl⟩ ?_ ?_
 ·clear H
  rintro J hJ i env N hi e14 c0 ⟨e2,e12,e13,u,e5,H⟩
  have hfl:=C7 T Cn i
  have hsn:=A91 hi
  have C1:=Tq (H.sl 1 rfl) (i:=i) (by simpa using hi)
  rw[List.getElem_map] at C1
  obtain⟨k,hk,hk1,hk2⟩:=hT4 T[i] (Za4 hi)
  have G:=H.grow (pre1 N (some (Blk.row 1 [gi T[i].dot.rep,gi T[i].dot.seq])))
  have CA:=A8s _ _ s (Ab.pre hR0 G.sub) T[i].dot hl
  rw[hk1] at CA
  have C2:=A6 (hc.pre G.sub) hk
  rw[hk2] at C2
  simp +contextual (disch:=omega) only[go_sem,c0,e2,e5,e12,e13,e14,C1,A4 (G.pt 2 rfl),Bk (cs:=[a,b,c,v]) rfl]
  refine A5 CA ?_
  cases hg:T[i].gone with
  |true=>
   have hk0:Cn T[i]=false:=by simp[Cn,hg]
   rw[hk0,if_neg (by simp)] at hsn
   have G2:=G.grow (pre1 _ (some (Blk.row 1 [.str T[i].obj,gi T[i].dot.rep,gi T[i].dot.seq,gi T[i].time,gi T[i].ref.rep,gi T[i].ref.seq,gi T[i].val,.bool true])))
   simp +contextual (disch:=omega) only[go_sem,c0,e2,e5,e12,e13,e14,A1,C2,hg]
   refine hJ _ _ _ ⟨?_,?_,?_,u,?_,by rw[hsn];exact G2⟩
   all_goals simp +contextual (disch:=omega) only[go_sem,e2,e5,e12,e13,e14]
  |false=>
   have hk0:Cn T[i]=true:=by simp[Cn,hg]
   rw[hk0,if_pos rfl] at hsn
   have G2:=G.grow (pre1 _ (some (Blk.row 1 [.str T[i].obj,gi T[i].dot.rep,gi T[i].dot.seq,gi T[i].time,gi T[i].ref.rep,gi T[i].ref.seq,gi T[i].val,.bool false])))
   obtain⟨w',N3,e8,H3⟩:=G2.app_Cell 0 rfl T[i] (by omega)
   simp only[hg] at e8
   simp +contextual (disch:=omega) only[go_sem,c0,e2,e5,e12,e13,e14,A1,C2,hg,e8]
   refine hJ _ _ _ ⟨?_,?_,?_,w',?_,by rw[hsn];exact H3⟩
   all_goals simp +contextual (disch:=omega) only[go_sem,e2,e5,e12,e13,e14]
 ·clear H
  rintro env N e14 c0 ⟨e2,e12,e13,u,e5,H⟩
  rw[Zag] at H
  simp +contextual (disch:=omega) only[go_sem,c0,e2,e5,e12,e13,e14]
  exact⟨_,rfl,H.one⟩
namespace O
open Go Go.RowKit Go.Proofs.YtckobfochhjmdaaGreatDoor.Sy Go.Sort
variable {Y:Type} [Inhabited Y] {lt:Y->Y->Bool} {U0 U:St} {rs:List Thg} {k:Nat} {v:GV} {d:Array Y}
theorem ins_ret (S:SrtO Y lt) (H:Holds S.e U0 U rs k v d) {a b:Nat} (hab:a<=b) (hb:b<=d.size) (hs:d.size<=1099511627776):∃ N,Ret Tryz.prog S.q.insertionSort [v,gi a,gi b] U (.tup []) N/\Holds S.e U0 N rs k v (insertionSort lt d a b):=by
 have key:∃ r N,Ret Tryz.prog S.q.insertionSort [v,gi a,gi b] U r N/\r= .tup []/\Holds S.e U0 N rs k v (insertionSort lt d a b):=by
  refine Au S.h_insertionSort (Z0z rfl) ?_
  simp +contextual (disch:=omega) only[go_sem,Ih]
  refine Br (fun n env N=>∃(i:Nat) (D:Array Y),env 0=v/\env 1=gi a/\env 2=gi b/\env 6=gi i/\b - i=n/\a<i/\D.size=d.size/\U.length<=N.length/\Holds S.e U0 N rs k v D/\insOuter lt a b i D=insertionSort lt d a b) (b - (a+1)) ⟨a+1,d,rfl,rfl,rfl,rfl,rfl,by omega,rfl,Zaa _,H,rfl⟩ ?_
  rintro J hJ n env N ⟨i,D,e0,e1,e2,ei,hn,hai,hD,hle,hH,hE⟩
  rw[insOuter] at hE
  rcases Zad i b with hi|hi
  ·rw[if_pos hi] at hE
   have c0:decide ((i:Int)<b)=true:=by simp;omega
   simp +contextual (disch:=omega) only[go_sem,e0,e1,e2,ei,c0]
   refine Br (fun n env N=>∃(j:Nat) (E:Array Y),env 0=v/\env 1=gi a/\env 2=gi b/\env 6=gi i/\env 7=gi j/\j=n/\j<=i/\E.size=d.size/\U.length<=N.length/\Holds S.e U0 N rs k v E/\insInner lt a j E=insInner lt a i D) i ⟨i,D,by simp +contextual (disch:=omega) only[go_sem,e0],by simp +contextual (disch:=omega) only[go_sem,e1],by simp +contextual (disch:=omega) only[go_sem,e2],by simp +contextual (disch:=omega) only[go_sem,ei],rfl,rfl,Zaa _,hD,hle,hH,rfl⟩ ?_
   clear hH hle e0 e1 e2 ei
   rintro J2 hJ2 n2 env N ⟨j,E,e0,e1,e2,ei,ej,hnj,hji,hE2,hle,hH,hI⟩
   have fin:∀ env',env' 0=v->env' 1=gi a->env' 2=gi b->env' 6=gi ((i:Int)+1)->insInner lt a i D=E->∃ k',k'<n/\J k' env' N:=fun env' h0 h1 h2 h6 hEq=>⟨b - (i+1),by omega,hJ _ _ _ ⟨i+1,E,h0,h1,h2,h6,rfl,by omega,hE2,hle,hH,by rw[<- hEq];exact hE⟩⟩
   have cj:decide ((a:Int)<j)=decide (a<j):=by simp
   by_cases hc:a<j
   ·obtain⟨m,rfl⟩:∃ m,j=m+1:=⟨j - 1,by omega⟩
    rw[decide_eq_true hc] at cj
    have cj:decide ((a:Int)<(m:Int)+1)=true:=cj
    have n1:Bb (some (.int .i64 ((m:Int)+1)))=some (m+1):=B6 (by simp)
    have m1:(m:Int)+1 - 1=m:=by omega
    obtain⟨N1,N2,s1,s2,hH2,hl2⟩:=hH.sw (a:=m+1) (b:=m) (by omega) (by omega)
    rw[insInner] at hI
    simp +contextual (disch:=omega) only[go_sem,e0,e1,e2,ei,ej,cj,n1,m1,A1,hH.iad (j:=m+1) (by omega),hH.ld (j:=m+1) (by omega),hH.iad (j:=m) (by omega),hH.ld (j:=m) (by omega)]
    refine A5 (S.call _ _ _) ?_
    cases hl:lt E[m+1]! E[m]! with
    |true=>
     rw[if_pos (by simp[hl];omega)] at hI
     simp +contextual (disch:=omega) only[go_sem,e0,e1,e2,ei,ej,cj,n1,m1,A1,hl,hH.iad (j:=m+1) (by omega),hH.ld (j:=m+1) (by omega),hH.iad (j:=m) (by omega),hH.ld (j:=m) (by omega),s1,s2]
     refine⟨m,by omega,hJ2 _ _ _ ⟨m,swp E (m+1) m,?_,?_,?_,?_,?_,rfl,by omega,by rw[Go.Sort.swp_size];exact hE2,by omega,hH2,hI⟩⟩
     all_goals simp +contextual (disch:=omega) only[go_sem,e0,e1,e2,ei,ej,m1]
    |false=>
     rw[if_neg (by simp[hl])] at hI
     simp +contextual (disch:=omega) only[go_sem,e0,e1,e2,ei,ej,cj,hl,]
     refine fin _ ?_ ?_ ?_ ?_ hI.symm
     all_goals simp +contextual (disch:=omega) only[go_sem,e0,e1,e2,ei]
   ·rw[decide_eq_false hc] at cj
    have hI:insInner lt a i D=E:=by
     rw[<- hI]
     cases j with
     |zero=>rfl
     |succ j=>rw[insInner,if_neg (by simp;intro h;omega)]
    simp +contextual (disch:=omega) only[go_sem,e0,e1,e2,ei,ej,cj]
    refine fin _ ?_ ?_ ?_ ?_ hI
    all_goals simp +contextual (disch:=omega) only[go_sem,e0,e1,e2,ei]
  ·rw[if_neg (by omega)] at hE
   have c0:decide ((i:Int)<b)=false:=by simp;omega
   simp +contextual (disch:=omega) only[go_sem,e0,e1,e2,ei,c0]
   exact⟨_,rfl,hle,rfl,by rw[<- hE];exact hH⟩
 obtain⟨r,N,R,rfl,h⟩:=key
 exact⟨N,R,h⟩
end O
end Go.Proofs.YtckobfochhjmdaaGreatDoor.Sy
