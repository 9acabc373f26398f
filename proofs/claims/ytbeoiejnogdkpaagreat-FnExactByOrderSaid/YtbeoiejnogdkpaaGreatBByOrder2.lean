/- Texts of this proof, one behind the other. -/
import Derived.Test.YtbeoiejnogdkpaaGreatBByOrder1
import Derived.Test.YtbeoiejnogdkpaaGreatProg
import Derived.KernelRfl
import Derived.Sort.AssemblyPlain
import Derived.Sort.LotD3
import Derived.Sort.LotD1
import Derived.Sort.LotC
namespace Go.Proofs.YtbeoiejnogdkpaaGreat.Sy
open Go Go.RowKit
set_option linter.unusedSimpArgs false
set_option linter.unusedVariables false
abbrev n_s_l06Tallies:Nat:=290
def F_s_l06Tallies:Fn1:=⟨69,[.t 2],(.seq (.reg [o 2 (.mov (.k (.bool false)))]) (.seq (.seq (.reg [o 3 (.mov (.k (.int .i64 0)))]) (.blk 0 (.lop (.seq (.seq (.reg [o 5 (.mov (.t 3)),o 6 (.mov (.t 0)),o 7 (.len false (.t 6)),o 8 (.bin .lss (.t 5) (.t 7))]) (.cnd (.t 8) .skip (.ext 0))) (.seq (.blk 1 (.seq (.reg [o 11 (.mov (.t 0)),o 12 (.mov (.t 3)),o 13 (.iad 3 (.t 11) (.t 12)),o 14 (.ld true 3 (.t 13)),o 4 (.new [(.str ⟨#[]⟩),(.int .i64 0),(.int .i64 0)]),on (.st 3 (.t 4) (.t 14))]) (.seq (.seq (.reg [o 15 (.fad 0 (.t 4)),o 16 (.ld false 1 (.t 15)),o 17 (.call 348 [(.t 16)]),o 18 (.un .not (.t 17)),o 19 (.mov (.t 18)),og 20 19 false (.fad 1 (.t 4)),og 21 19 false (.ld false 1 (.t 20)),og 22 19 false (.call 122 [(.t 21),(.k (.int .i64 0)),(.k (.int .i64 2))]),og 23 19 false (.un .not (.t 22)),o 24 (.pick (.t 19) (.k (.bool true)) (.t 23)),o 25 (.mov (.t 24)),og 26 25 false (.fad 2 (.t 4)),og 27 25 false (.ld false 1 (.t 26)),og 28 25 false (.call 122 [(.t 27),(.k (.int .i64 0)),(.k (.int .i64 999999))]),og 29 25 false (.un .not (.t 28)),o 30 (.pick (.t 25) (.k (.bool true)) (.t 29))]) (.cnd (.t 30) (.seq (.reg [o 2 (.mov (.k (.bool false)))]) .ret) .skip)) (.seq (.drw [o 31 (.mov (.t 3)),o 32 (.bin .gtr (.t 31) (.k (.int .i64 0))),o 33 (.mov (.t 32)),og 34 33 true (.mov (.t 0)),og 35 33 true (.mov (.t 3)),og 36 33 true (.bin .sub (.t 35) (.k (.int .i64 1))),og 37 33 true (.iad 3 (.t 34) (.t 36)),og 38 33 true (.fad 0 (.t 37)),og 39 33 true (.ld false 1 (.t 38)),og 40 33 true (.fad 0 (.t 4)),og 41 33 true (.ld false 1 (.t 40)),og 42 33 true (.bin .gtr (.t 39) (.t 41)),og 43 33 true (.mov (.t 42)),og 44 43 false (.mov (.t 0)),og 45 43 false (.mov (.t 3)),og 46 43 false (.bin .sub (.t 45) (.k (.int .i64 1))),og 47 43 false (.iad 3 (.t 44) (.t 46)),og 48 43 false (.fad 0 (.t 47)),og 49 43 false (.ld false 1 (.t 48)),og 50 43 false (.fad 0 (.t 4)),og 51 43 false (.ld false 1 (.t 50)),og 52 43 false (.bin .eql (.t 49) (.t 51)),og 53 43 false (.mov (.t 52)),og 54 53 true (.mov (.t 0)),og 55 53 true (.mov (.t 3)),og 56 53 true (.bin .sub (.t 55) (.k (.int .i64 1))),og 57 53 true (.iad 3 (.t 54) (.t 56)),og 58 53 true (.fad 1 (.t 57)),og 59 53 true (.ld false 1 (.t 58)),og 60 53 true (.fad 1 (.t 4)),og 61 53 true (.ld false 1 (.t 60))] [og 62 53 true (.bin .geq (.t 59) (.t 61)),og 63 43 false (.pick (.t 53) (.t 62) (.k (.bool false))),og 64 33 true (.pick (.t 43) (.k (.bool true)) (.t 63)),o 65 (.pick (.t 33) (.t 64) (.k (.bool false)))]) (.cnd (.t 65) (.seq (.reg [o 2 (.mov (.k (.bool false)))]) .ret) .skip))))) (.reg [o 9 (.mov (.t 3)),o 10 (.bin .add (.t 9) (.k (.int .i64 1))),o 3 (.mov (.t 10))])))))) (.seq (.reg [o 66 (.mov (.t 0)),o 67 (.len false (.t 66)),o 68 (.bin .leq (.t 67) (.k (.int .i64 120))),o 2 (.mov (.t 68))]) .ret)))⟩
theorem ir_s_l06Tallies:compFn Tryz.prog n_s_l06Tallies=some F_s_l06Tallies:=by kernel_rfl
abbrev n_i_talliesOk:Nat:=285
def F_i_talliesOk:Fn1:=⟨46,[.t 2],(.seq (.reg [o 2 (.mov (.k (.bool false)))]) (.seq (.seq (.reg [o 5 (.mov (.t 0)),o 6 (.len false (.t 5)),o 7 (.mov (.k (.int .i64 0)))]) (.blk 0 (.lop (.seq (.reg [o 8 (.bin .lss (.t 7) (.t 6))]) (.seq (.cnd (.t 8) .skip (.ext 0)) (.seq (.blk 1 (.seq (.reg [o 9 (.mov (.t 7)),o 10 (.iad 3 (.t 5) (.t 7)),o 11 (.ld true 3 (.t 10)),o 4 (.new [(.str ⟨#[]⟩),(.int .i64 0),(.int .i64 0)]),o 3 (.mov (.t 9)),on (.st 3 (.t 4) (.t 11))]) (.seq (.drw [o 12 (.fad 0 (.t 4)),o 13 (.ld false 1 (.t 12)),o 14 (.call 341 [(.t 13)]),o 15 (.un .not (.t 14)),o 16 (.mov (.t 15)),og 17 16 false (.fad 1 (.t 4)),og 18 16 false (.ld false 1 (.t 17)),og 19 16 false (.call 236 [(.t 18),(.k (.int .i64 0)),(.k (.int .i64 2))]),og 20 16 false (.un .not (.t 19)),o 21 (.pick (.t 16) (.k (.bool true)) (.t 20)),o 22 (.mov (.t 21)),og 23 22 false (.fad 2 (.t 4)),og 24 22 false (.ld false 1 (.t 23)),og 25 22 false (.call 236 [(.t 24),(.k (.int .i64 0)),(.k (.int .i64 999999))]),og 26 22 false (.un .not (.t 25)),o 27 (.pick (.t 22) (.k (.bool true)) (.t 26)),o 28 (.mov (.t 27)),og 29 28 false (.mov (.t 3)),og 30 28 false (.bin .gtr (.t 29) (.k (.int .i64 0))),og 31 28 false (.mov (.t 30)),og 32 31 true (.mov (.t 0)),og 33 31 true (.mov (.t 3)),og 34 31 true (.bin .sub (.t 33) (.k (.int .i64 1))),og 35 31 true (.iad 3 (.t 32) (.t 34)),og 36 31 true (.ld true 3 (.t 35)),og 37 31 true (.ld true 3 (.t 4))] [og 38 31 true (.call 324 [(.t 36),(.t 37)]),og 39 31 true (.bin .geq (.t 38) (.k (.int .i64 0))),og 40 28 false (.pick (.t 31) (.t 39) (.k (.bool false))),o 41 (.pick (.t 28) (.k (.bool true)) (.t 40))]) (.cnd (.t 41) (.seq (.reg [o 2 (.mov (.k (.bool false)))]) .ret) .skip)))) (.reg [o 42 (.bin .add (.t 7) (.k (.int .i64 1))),o 7 (.mov (.t 42))]))))))) (.seq (.reg [o 43 (.mov (.t 0)),o 44 (.len false (.t 43)),o 45 (.bin .leq (.t 44) (.k (.int .i64 120))),o 2 (.mov (.t 45))]) .ret)))⟩
theorem ir_i_talliesOk:compFn Tryz.prog n_i_talliesOk=some F_i_talliesOk:=by kernel_rfl
abbrev n_s_l06Lives:Nat:=291
def F_s_l06Lives:Fn1:=⟨66,[.t 2],(.seq (.reg [o 2 (.mov (.k (.bool false)))]) (.seq (.seq (.reg [o 3 (.mov (.k (.int .i64 0)))]) (.blk 0 (.lop (.seq (.seq (.reg [o 5 (.mov (.t 3)),o 6 (.mov (.t 0)),o 7 (.len false (.t 6)),o 8 (.bin .lss (.t 5) (.t 7))]) (.cnd (.t 8) .skip (.ext 0))) (.seq (.blk 1 (.seq (.reg [o 11 (.mov (.t 0)),o 12 (.mov (.t 3)),o 13 (.iad 6 (.t 11) (.t 12)),o 14 (.ld true 6 (.t 13)),o 4 (.new [(.bool false),(.str ⟨#[]⟩),(.str ⟨#[]⟩),(.int .i64 0),(.int .i64 0),(.int .i64 0)]),on (.st 6 (.t 4) (.t 14))]) (.seq (.drw [o 15 (.fad 4 (.t 4)),o 16 (.ld true 2 (.t 15)),o 17 (.call 168 [(.t 16)]),o 18 (.un .not (.t 17)),o 19 (.mov (.t 18)),og 20 19 false (.fad 1 (.t 4)),og 21 19 false (.ld false 1 (.t 20)),og 22 19 false (.call 348 [(.t 21)]),og 23 19 false (.un .not (.t 22)),o 24 (.pick (.t 19) (.k (.bool true)) (.t 23)),o 25 (.mov (.t 24)),og 26 25 false (.fad 2 (.t 4)),og 27 25 false (.ld false 1 (.t 26)),og 28 25 false (.call 348 [(.t 27)]),og 29 25 false (.un .not (.t 28)),o 30 (.pick (.t 25) (.k (.bool true)) (.t 29)),o 31 (.mov (.t 30)),og 32 31 false (.fad 3 (.t 4)),og 33 31 false (.ld false 1 (.t 32)),og 34 31 false (.call 122 [(.t 33),(.k (.int .i64 0)),(.k (.int .i64 999999))]),og 35 31 false (.un .not (.t 34)),o 36 (.pick (.t 31) (.k (.bool true)) (.t 35)),o 37 (.mov (.t 36)),og 38 37 false (.fad 0 (.t 4)),og 39 37 false (.ld false 1 (.t 38)),og 40 37 false (.un .not (.t 39)),og 41 37 false (.mov (.t 40)),og 42 41 true (.fad 3 (.t 4)),og 43 41 true (.ld false 1 (.t 42)),og 44 41 true (.bin .neq (.t 43) (.k (.int .i64 0))),og 45 37 false (.pick (.t 41) (.t 44) (.k (.bool false))),o 46 (.pick (.t 37) (.k (.bool true)) (.t 45)),o 47 (.mov (.t 46)),og 48 47 false (.mov (.t 3)),og 49 47 false (.bin .gtr (.t 48) (.k (.int .i64 0))),og 50 47 false (.mov (.t 49)),og 51 50 true (.mov (.t 0)),og 52 50 true (.mov (.t 3)),og 53 50 true (.bin .sub (.t 52) (.k (.int .i64 1))),og 54 50 true (.iad 6 (.t 51) (.t 53)),og 55 50 true (.fad 4 (.t 54)),og 56 50 true (.ld true 2 (.t 55)),og 57 50 true (.fad 4 (.t 4)),og 58 50 true (.ld true 2 (.t 57))] [og 59 50 true (.call 362 [(.t 56),(.t 58)]),og 60 50 true (.un .not (.t 59)),og 61 47 false (.pick (.t 50) (.t 60) (.k (.bool false))),o 62 (.pick (.t 47) (.k (.bool true)) (.t 61))]) (.cnd (.t 62) (.seq (.reg [o 2 (.mov (.k (.bool false)))]) .ret) .skip)))) (.reg [o 9 (.mov (.t 3)),o 10 (.bin .add (.t 9) (.k (.int .i64 1))),o 3 (.mov (.t 10))])))))) (.seq (.reg [o 63 (.mov (.t 0)),o 64 (.len false (.t 63)),o 65 (.bin .leq (.t 64) (.k (.int .i64 120))),o 2 (.mov (.t 65))]) .ret)))⟩
theorem ir_s_l06Lives:compFn Tryz.prog n_s_l06Lives=some F_s_l06Lives:=by kernel_rfl
abbrev n_i_livesOk:Nat:=286
def F_i_livesOk:Fn1:=⟨65,[.t 4],(.seq (.reg [o 4 (.mov (.k (.bool false)))]) (.seq (.seq (.reg [o 7 (.mov (.t 0)),o 8 (.len false (.t 7)),o 9 (.mov (.k (.int .i64 0)))]) (.blk 0 (.lop (.seq (.reg [o 10 (.bin .lss (.t 9) (.t 8))]) (.seq (.cnd (.t 10) .skip (.ext 0)) (.seq (.blk 1 (.seq (.reg [o 11 (.mov (.t 9)),o 12 (.iad 6 (.t 7) (.t 9)),o 13 (.ld true 6 (.t 12)),o 6 (.new [(.bool false),(.str ⟨#[]⟩),(.str ⟨#[]⟩),(.int .i64 0),(.int .i64 0),(.int .i64 0)]),o 5 (.mov (.t 11)),on (.st 6 (.t 6) (.t 13))]) (.seq (.seq (.reg [o 14 (.mov (.t 1)),o 15 (.fad 4 (.t 6)),o 16 (.ld true 2 (.t 15)),o 17 (.call 170 [(.t 14),(.t 16)]),o 18 (.un .not (.t 17)),o 19 (.mov (.t 18)),og 20 19 false (.fad 1 (.t 6)),og 21 19 false (.ld false 1 (.t 20)),og 22 19 false (.call 341 [(.t 21)]),og 23 19 false (.un .not (.t 22)),o 24 (.pick (.t 19) (.k (.bool true)) (.t 23)),o 25 (.mov (.t 24)),og 26 25 false (.fad 2 (.t 6)),og 27 25 false (.ld false 1 (.t 26)),og 28 25 false (.call 341 [(.t 27)]),og 29 25 false (.un .not (.t 28)),o 30 (.pick (.t 25) (.k (.bool true)) (.t 29)),o 31 (.mov (.t 30)),og 32 31 false (.fad 3 (.t 6)),og 33 31 false (.ld false 1 (.t 32)),og 34 31 false (.call 236 [(.t 33),(.k (.int .i64 0)),(.k (.int .i64 999999))]),og 35 31 false (.un .not (.t 34)),o 36 (.pick (.t 31) (.k (.bool true)) (.t 35)),o 37 (.mov (.t 36)),og 38 37 false (.fad 0 (.t 6)),og 39 37 false (.ld false 1 (.t 38)),og 40 37 false (.un .not (.t 39)),og 41 37 false (.mov (.t 40)),og 42 41 true (.fad 3 (.t 6)),og 43 41 true (.ld false 1 (.t 42)),og 44 41 true (.bin .neq (.t 43) (.k (.int .i64 0))),og 45 37 false (.pick (.t 41) (.t 44) (.k (.bool false))),o 46 (.pick (.t 37) (.k (.bool true)) (.t 45))]) (.cnd (.t 46) (.seq (.reg [o 4 (.mov (.k (.bool false)))]) .ret) .skip)) (.seq (.drw [o 47 (.mov (.t 5)),o 48 (.bin .gtr (.t 47) (.k (.int .i64 0))),o 49 (.mov (.t 48)),og 50 49 true (.mov (.t 0)),og 51 49 true (.mov (.t 5)),og 52 49 true (.bin .sub (.t 51) (.k (.int .i64 1))),og 53 49 true (.iad 6 (.t 50) (.t 52)),og 54 49 true (.fad 4 (.t 53)),og 55 49 true (.ld true 2 (.t 54)),og 56 49 true (.fad 4 (.t 6)),og 57 49 true (.ld true 2 (.t 56))] [og 58 49 true (.call 306 [(.t 55),(.t 57)]),og 59 49 true (.bin .geq (.t 58) (.k (.int .i64 0))),o 60 (.pick (.t 49) (.t 59) (.k (.bool false)))]) (.cnd (.t 60) (.seq (.reg [o 4 (.mov (.k (.bool false)))]) .ret) .skip))))) (.reg [o 61 (.bin .add (.t 9) (.k (.int .i64 1))),o 9 (.mov (.t 61))]))))))) (.seq (.reg [o 62 (.mov (.t 0)),o 63 (.len false (.t 62)),o 64 (.bin .leq (.t 63) (.k (.int .i64 120))),o 4 (.mov (.t 64))]) .ret)))⟩
theorem ir_i_livesOk:compFn Tryz.prog n_i_livesOk=some F_i_livesOk:=by kernel_rfl
abbrev n_s_l06Cells:Nat:=292
def F_s_l06Cells:Fn1:=⟨68,[.t 2],(.seq (.reg [o 2 (.mov (.k (.bool false)))]) (.seq (.seq (.reg [o 3 (.mov (.k (.int .i64 0)))]) (.blk 0 (.lop (.seq (.seq (.reg [o 5 (.mov (.t 3)),o 6 (.mov (.t 0)),o 7 (.len false (.t 6)),o 8 (.bin .lss (.t 5) (.t 7))]) (.cnd (.t 8) .skip (.ext 0))) (.seq (.blk 1 (.seq (.reg [o 11 (.mov (.t 0)),o 12 (.mov (.t 3)),o 13 (.iad 8 (.t 11) (.t 12)),o 14 (.ld true 8 (.t 13)),o 4 (.new [(.str ⟨#[]⟩),(.int .i64 0),(.int .i64 0),(.int .i64 0),(.int .i64 0),(.int .i64 0),(.int .i64 0),(.bool false)]),on (.st 8 (.t 4) (.t 14))]) (.seq (.drw [o 15 (.fad 1 (.t 4)),o 16 (.ld true 2 (.t 15)),o 17 (.call 168 [(.t 16)]),o 18 (.un .not (.t 17)),o 19 (.mov (.t 18)),og 20 19 false (.fad 0 (.t 4)),og 21 19 false (.ld false 1 (.t 20)),og 22 19 false (.call 348 [(.t 21)]),og 23 19 false (.un .not (.t 22)),o 24 (.pick (.t 19) (.k (.bool true)) (.t 23)),o 25 (.mov (.t 24)),og 26 25 false (.fad 3 (.t 4)),og 27 25 false (.ld false 1 (.t 26)),og 28 25 false (.call 122 [(.t 27),(.k (.int .i64 1)),(.k (.int .i64 10000))]),og 29 25 false (.un .not (.t 28)),o 30 (.pick (.t 25) (.k (.bool true)) (.t 29)),o 31 (.mov (.t 30)),og 32 31 false (.fad 6 (.t 4)),og 33 31 false (.ld false 1 (.t 32)),og 34 31 false (.call 122 [(.t 33),(.k (.int .i64 0)),(.k (.int .i64 999999))]),og 35 31 false (.un .not (.t 34)),o 36 (.pick (.t 31) (.k (.bool true)) (.t 35)),o 37 (.mov (.t 36)),og 38 37 false (.fad 4 (.t 4)),og 39 37 false (.ld true 2 (.t 38)),og 40 37 false (.build [(.int .i64 0),(.int .i64 0)] []),og 41 37 false (.eqs true [.i .i64,.i .i64] (.t 39) (.t 40)),og 42 37 false (.mov (.t 41)),og 43 42 true (.fad 4 (.t 4)),og 44 42 true (.ld true 2 (.t 43)),og 45 42 true (.call 168 [(.t 44)]),og 46 42 true (.un .not (.t 45)),og 47 37 false (.pick (.t 42) (.t 46) (.k (.bool false))),o 48 (.pick (.t 37) (.k (.bool true)) (.t 47)),o 49 (.mov (.t 48)),og 50 49 false (.mov (.t 3)),og 51 49 false (.bin .gtr (.t 50) (.k (.int .i64 0))),og 52 49 false (.mov (.t 51)),og 53 52 true (.mov (.t 0)),og 54 52 true (.mov (.t 3)),og 55 52 true (.bin .sub (.t 54) (.k (.int .i64 1))),og 56 52 true (.iad 8 (.t 53) (.t 55)),og 57 52 true (.fad 1 (.t 56)),og 58 52 true (.ld true 2 (.t 57)),og 59 52 true (.fad 1 (.t 4)),og 60 52 true (.ld true 2 (.t 59))] [og 61 52 true (.call 362 [(.t 58),(.t 60)]),og 62 52 true (.un .not (.t 61)),og 63 49 false (.pick (.t 52) (.t 62) (.k (.bool false))),o 64 (.pick (.t 49) (.k (.bool true)) (.t 63))]) (.cnd (.t 64) (.seq (.reg [o 2 (.mov (.k (.bool false)))]) .ret) .skip)))) (.reg [o 9 (.mov (.t 3)),o 10 (.bin .add (.t 9) (.k (.int .i64 1))),o 3 (.mov (.t 10))])))))) (.seq (.reg [o 65 (.mov (.t 0)),o 66 (.len false (.t 65)),o 67 (.bin .leq (.t 66) (.k (.int .i64 120))),o 2 (.mov (.t 67))]) .ret)))⟩
theorem ir_s_l06Cells:compFn Tryz.prog n_s_l06Cells=some F_s_l06Cells:=by kernel_rfl
abbrev n_i_cellsOk:Nat:=287
def F_i_cellsOk:Fn1:=⟨55,[.t 4],(.seq (.reg [o 4 (.mov (.k (.bool false)))]) (.seq (.seq (.reg [o 7 (.mov (.t 0)),o 8 (.len false (.t 7)),o 9 (.mov (.k (.int .i64 0)))]) (.blk 0 (.lop (.seq (.reg [o 10 (.bin .lss (.t 9) (.t 8))]) (.seq (.cnd (.t 10) .skip (.ext 0)) (.seq (.blk 1 (.seq (.reg [o 11 (.mov (.t 9)),o 12 (.iad 8 (.t 7) (.t 9)),o 13 (.ld true 8 (.t 12)),o 6 (.new [(.str ⟨#[]⟩),(.int .i64 0),(.int .i64 0),(.int .i64 0),(.int .i64 0),(.int .i64 0),(.int .i64 0),(.bool false)]),o 5 (.mov (.t 11)),on (.st 8 (.t 6) (.t 13))]) (.seq (.seq (.reg [o 14 (.mov (.t 1)),o 15 (.fad 1 (.t 6)),o 16 (.ld true 2 (.t 15)),o 17 (.call 170 [(.t 14),(.t 16)]),o 18 (.un .not (.t 17)),o 19 (.mov (.t 18)),og 20 19 false (.fad 0 (.t 6)),og 21 19 false (.ld false 1 (.t 20)),og 22 19 false (.call 341 [(.t 21)]),og 23 19 false (.un .not (.t 22)),o 24 (.pick (.t 19) (.k (.bool true)) (.t 23)),o 25 (.mov (.t 24)),og 26 25 false (.fad 6 (.t 6)),og 27 25 false (.ld false 1 (.t 26)),og 28 25 false (.call 236 [(.t 27),(.k (.int .i64 0)),(.k (.int .i64 999999))]),og 29 25 false (.un .not (.t 28)),o 30 (.pick (.t 25) (.k (.bool true)) (.t 29)),o 31 (.mov (.t 30)),og 32 31 false (.fad 3 (.t 6)),og 33 31 false (.ld false 1 (.t 32)),og 34 31 false (.call 236 [(.t 33),(.k (.int .i64 1)),(.k (.int .i64 10000))]),og 35 31 false (.un .not (.t 34)),o 36 (.pick (.t 31) (.k (.bool true)) (.t 35))]) (.cnd (.t 36) (.seq (.reg [o 4 (.mov (.k (.bool false)))]) .ret) .skip)) (.seq (.drw [o 37 (.mov (.t 5)),o 38 (.bin .gtr (.t 37) (.k (.int .i64 0))),o 39 (.mov (.t 38)),og 40 39 true (.mov (.t 0)),og 41 39 true (.mov (.t 5)),og 42 39 true (.bin .sub (.t 41) (.k (.int .i64 1))),og 43 39 true (.iad 8 (.t 40) (.t 42)),og 44 39 true (.fad 1 (.t 43)),og 45 39 true (.ld true 2 (.t 44)),og 46 39 true (.fad 1 (.t 6)),og 47 39 true (.ld true 2 (.t 46))] [og 48 39 true (.call 306 [(.t 45),(.t 47)]),og 49 39 true (.bin .geq (.t 48) (.k (.int .i64 0))),o 50 (.pick (.t 39) (.t 49) (.k (.bool false)))]) (.cnd (.t 50) (.seq (.reg [o 4 (.mov (.k (.bool false)))]) .ret) .skip))))) (.reg [o 51 (.bin .add (.t 9) (.k (.int .i64 1))),o 9 (.mov (.t 51))]))))))) (.seq (.reg [o 52 (.mov (.t 0)),o 53 (.len false (.t 52)),o 54 (.bin .leq (.t 53) (.k (.int .i64 120))),o 4 (.mov (.t 54))]) .ret)))⟩
theorem ir_i_cellsOk:compFn Tryz.prog n_i_cellsOk=some F_i_cellsOk:=by kernel_rfl
theorem len_le {α:Type} {l:List α} {n:Nat}:decide ((l.length:Int)≤(n:Nat))=decide (l.length≤n):=by
 rw[Bool.eq_iff_iff];simp only[decide_eq_true_eq];omega
theorem sub1 {i:Nat} (h:0<i):(i:Int) - 1=((i - 1:Nat):Int):=by omega
theorem tallyLt_alt (a b:Tally):tallyLt a b= !(txLt b.obj a.obj||decide (a.obj=b.obj)&&decide (b.rep≤a.rep)):=by
 unfold tallyLt
 by_cases h:a.obj=b.obj
 ·rw[h,txLt_irr];rw[Bool.eq_iff_iff];simp
 ·cases h1:txLt a.obj b.obj with
  |true=>simp[h,txLt_asym h1]
  |false=>
   cases h2:txLt b.obj a.obj with
   |true=>simp[h]
   |false=>exact absurd (txLt_tri h1 h2) h
theorem mv_cases (m:Bool) (n:Int):m=true∨(m=false∧(n != 0)=false∧n=0)∨(m=false∧(n != 0)=true∧n≠0):=by
 cases m
 ·by_cases h:n=0
  ·exact .inr (.inl ⟨rfl,by simp[h],h⟩)
  ·exact .inr (.inr ⟨rfl,by simp[h],h⟩)
 ·exact .inl rfl
theorem s_l06Tallies_ret (σ:St) (v:GV) (l:List Tally) (h:RS pTally.kd σ v l) (hl:l.length≤1099511627776) (hsz:∀ x∈l,x.obj.size≤1099511627776):Ret Tryz.prog n_s_l06Tallies [v] σ (.bool (talsOk l)) σ:=by
 refine ret_eq ir_s_l06Tallies (Nat.le_of_ble_eq_true rfl) trivial ?_
 simp +contextual (disch:=omega) only[go_sem,F_s_l06Tallies,h.len]
 refine vc_for l.length 3 (fun i env τ=>env 0=v∧(∀ j,j<i→talP l j=true)∧σ <+: τ) rfl ⟨rfl,fun j hj=>by omega,List.prefix_refl _⟩ ?_ ?_
 ·rintro i env τ hi ei c0 ⟨e0,ha,hp⟩
  have hno:talP l i=false→talsOk l=false:=fun hh=>by simp[talsOk,allR_no hi hh]
  have hat:talP l i=((nameOk l[i].obj&&(inB l[i].rep 0 2&&inB l[i].sum 0 999999))&&upI tallyLt l i):=by simp only[talP,tal1,onI_at hi]
  simp +contextual (disch:=omega) only[go_sem,c0,e0,ei,Tally_at (h.pre hp) hi,fun r=>Tally_at (h.pre (pre_app hp r)) hi,h.len,pre_app hp _,hp]
  refine by_bool (s_NameOk_ret _ l[i].obj (hsz _ (List.getElem_mem hi))) (fun h0=> ?_) (fun h0=> ?_)
  rotate_left
  ·simp +contextual (disch:=omega) only[go_sem,c0,e0,ei,Tally_at (h.pre hp) hi,fun r=>Tally_at (h.pre (pre_app hp r)) hi,h.len,pre_app hp _,hp]
   simp[hno (by rw[hat];simp[h0])]
  simp +contextual (disch:=omega) only[go_sem,c0,e0,ei,Tally_at (h.pre hp) hi,fun r=>Tally_at (h.pre (pre_app hp r)) hi,h.len,pre_app hp _,hp]
  refine by_bool (s_l01In_ret _ _ _ _) (fun h1=> ?_) (fun h1=> ?_)
  rotate_left
  ·simp +contextual (disch:=omega) only[go_sem,c0,e0,ei,Tally_at (h.pre hp) hi,fun r=>Tally_at (h.pre (pre_app hp r)) hi,h.len,pre_app hp _,hp]
   simp[hno (by rw[hat];simp[h1])]
  simp +contextual (disch:=omega) only[go_sem,c0,e0,ei,Tally_at (h.pre hp) hi,fun r=>Tally_at (h.pre (pre_app hp r)) hi,h.len,pre_app hp _,hp]
  refine by_bool (s_l01In_ret _ _ _ _) (fun h2=> ?_) (fun h2=> ?_)
  rotate_left
  ·simp +contextual (disch:=omega) only[go_sem,c0,e0,ei,Tally_at (h.pre hp) hi,fun r=>Tally_at (h.pre (pre_app hp r)) hi,h.len,pre_app hp _,hp]
   simp[hno (by rw[hat];simp[h2])]
  simp +contextual (disch:=omega) only[go_sem,c0,e0,ei,Tally_at (h.pre hp) hi,fun r=>Tally_at (h.pre (pre_app hp r)) hi,h.len,pre_app hp _,hp]
  rcases Nat.eq_zero_or_pos i with hz|hz
  ·subst hz
   simp +contextual (disch:=omega) only[go_sem,Int.ofNat_zero,decide_false,Int.lt_irrefl,c0,e0,ei,Tally_at (h.pre hp) hi,fun r=>Tally_at (h.pre (pre_app hp r)) hi,h.len,pre_app hp _,hp]
   refine lt_snoc ha (by rw[hat];simp[h0,h1,h2,upI])
  ·have c1:decide ((0:Int)<i)=true:=by simp;omega
   have hj:i - 1<l.length:=by omega
   have hz':i≠0:=by omega
   simp only[upI_at hz' hi hj] at hat
   simp +contextual (disch:=omega) only[go_sem,c1,sub1 hz,Tally_at (h.pre hp) hj,fun r=>Tally_at (h.pre (pre_app hp r)) hj,c0,e0,ei,Tally_at (h.pre hp) hi,fun r=>Tally_at (h.pre (pre_app hp r)) hi,h.len,pre_app hp _,hp]
   rw[tallyLt_alt] at hat
   generalize txLt l[i].obj l[i-1].obj=b1 at*
   generalize decide (l[i-1].obj=l[i].obj)=b2 at*
   grind
 ·rintro env τ ei c0 ⟨e0,ha,hp⟩
  simp +contextual (disch:=omega) only[go_sem,c0,e0,ei,h.len,hp]
  simp only[talsOk,allR_yes ha,Bool.true_and]
  exact len_le
theorem i_talliesOk_ret (σ:St) (v:GV) (l:List Tally) (h:RS pTally.kd σ v l) (hl:l.length≤1099511627776) (hsz:∀ x∈l,x.obj.size≤1099511627776):Ret Tryz.prog n_i_talliesOk [v] σ (.bool (talsOk l)) σ:=by
 refine ret_eq ir_i_talliesOk (Nat.le_of_ble_eq_true rfl) trivial ?_
 simp +contextual (disch:=omega) only[go_sem,F_i_talliesOk,h.len]
 refine vc_for l.length 7 (fun i env τ=>env 0=v∧env 5=v∧env 6=gi l.length∧(∀ j,j<i→talP l j=true)∧σ <+: τ) rfl ⟨rfl,rfl,rfl,fun j hj=>by omega,List.prefix_refl _⟩ ?_ ?_
 ·rintro i env τ hi ei c0 ⟨e0,e5,e6,ha,hp⟩
  have hno:talP l i=false→talsOk l=false:=fun hh=>by simp[talsOk,allR_no hi hh]
  have hat:talP l i=((nameOk l[i].obj&&(inB l[i].rep 0 2&&inB l[i].sum 0 999999))&&upI tallyLt l i):=by simp only[talP,tal1,onI_at hi]
  simp +contextual (disch:=omega) only[go_sem,c0,e0,e5,e6,ei,Tally_at (h.pre hp) hi,fun r=>Tally_at (h.pre (pre_app hp r)) hi,h.len,pre_app hp _,hp]
  refine by_bool (i_NameOk_ret _ l[i].obj (hsz _ (List.getElem_mem hi))) (fun h0=> ?_) (fun h0=> ?_)
  rotate_left
  ·simp +contextual (disch:=omega) only[go_sem,c0,e0,e5,e6,ei,Tally_at (h.pre hp) hi,fun r=>Tally_at (h.pre (pre_app hp r)) hi,h.len,pre_app hp _,hp]
   simp[hno (by rw[hat];simp[h0])]
  simp +contextual (disch:=omega) only[go_sem,c0,e0,e5,e6,ei,Tally_at (h.pre hp) hi,fun r=>Tally_at (h.pre (pre_app hp r)) hi,h.len,pre_app hp _,hp]
  refine by_bool (i_within_ret _ _ _ _) (fun h1=> ?_) (fun h1=> ?_)
  rotate_left
  ·simp +contextual (disch:=omega) only[go_sem,c0,e0,e5,e6,ei,Tally_at (h.pre hp) hi,fun r=>Tally_at (h.pre (pre_app hp r)) hi,h.len,pre_app hp _,hp]
   simp[hno (by rw[hat];simp[h1])]
  simp +contextual (disch:=omega) only[go_sem,c0,e0,e5,e6,ei,Tally_at (h.pre hp) hi,fun r=>Tally_at (h.pre (pre_app hp r)) hi,h.len,pre_app hp _,hp]
  refine by_bool (i_within_ret _ _ _ _) (fun h2=> ?_) (fun h2=> ?_)
  rotate_left
  ·simp +contextual (disch:=omega) only[go_sem,c0,e0,e5,e6,ei,Tally_at (h.pre hp) hi,fun r=>Tally_at (h.pre (pre_app hp r)) hi,h.len,pre_app hp _,hp]
   simp[hno (by rw[hat];simp[h2])]
  simp +contextual (disch:=omega) only[go_sem,c0,e0,e5,e6,ei,Tally_at (h.pre hp) hi,fun r=>Tally_at (h.pre (pre_app hp r)) hi,h.len,pre_app hp _,hp]
  rcases Nat.eq_zero_or_pos i with hz|hz
  ·subst hz
   simp +contextual (disch:=omega) only[go_sem,Int.ofNat_zero,decide_false,Int.lt_irrefl,c0,e0,e5,e6,ei,Tally_at (h.pre hp) hi,fun r=>Tally_at (h.pre (pre_app hp r)) hi,h.len,pre_app hp _,hp]
   refine lt_snoc ha (by rw[hat];simp[h0,h1,h2,upI])
  ·have c1:decide ((0:Int)<i)=true:=by simp;omega
   have hj:i - 1<l.length:=by omega
   have hz':i≠0:=by omega
   simp only[upI_at hz' hi hj] at hat
   simp +contextual (disch:=omega) only[go_sem,c1,sub1 hz,Tally_at (h.pre hp) hj,fun r=>Tally_at (h.pre (pre_app hp r)) hj,c0,e0,e5,e6,ei,Tally_at (h.pre hp) hi,fun r=>Tally_at (h.pre (pre_app hp r)) hi,h.len,pre_app hp _,hp]
   refine by_ret (i_compareTallies_ret _ l[i-1] l[i]) ?_
   simp +contextual (disch:=omega) only[go_sem,cmpTally_ge,c1,sub1 hz,Tally_at (h.pre hp) hj,fun r=>Tally_at (h.pre (pre_app hp r)) hj,c0,e0,e5,e6,ei,Tally_at (h.pre hp) hi,fun r=>Tally_at (h.pre (pre_app hp r)) hi,h.len,pre_app hp _,hp]
   cases ho:tallyLt l[i-1] l[i] with
   |true=>
    simp +contextual (disch:=omega) only[go_sem,c1,sub1 hz,Tally_at (h.pre hp) hj,fun r=>Tally_at (h.pre (pre_app hp r)) hj,c0,e0,e5,e6,ei,Tally_at (h.pre hp) hi,fun r=>Tally_at (h.pre (pre_app hp r)) hi,h.len,pre_app hp _,hp]
    exact lt_snoc ha (by rw[hat];simp[h0,h1,h2,ho])
   |false=>
    simp +contextual (disch:=omega) only[go_sem,c1,sub1 hz,Tally_at (h.pre hp) hj,fun r=>Tally_at (h.pre (pre_app hp r)) hj,c0,e0,e5,e6,ei,Tally_at (h.pre hp) hi,fun r=>Tally_at (h.pre (pre_app hp r)) hi,h.len,pre_app hp _,hp]
    simp[hno (by rw[hat];simp[ho])]
 ·rintro env τ ei c0 ⟨e0,e5,e6,ha,hp⟩
  simp +contextual (disch:=omega) only[go_sem,c0,e0,e5,e6,ei,h.len,hp]
  simp only[talsOk,allR_yes ha,Bool.true_and]
  exact len_le
theorem s_l06Lives_ret (σ:St) (v:GV) (l:List Live) (h:RS pLive.kd σ v l) (hl:l.length≤1099511627776) (hsz:∀ x∈l,x.obj.size≤1099511627776∧x.key.size≤1099511627776):Ret Tryz.prog n_s_l06Lives [v] σ (.bool (livsS l)) σ:=by
 refine ret_eq ir_s_l06Lives (Nat.le_of_ble_eq_true rfl) trivial ?_
 simp +contextual (disch:=omega) only[go_sem,F_s_l06Lives,h.len]
 refine vc_for l.length 3 (fun i env τ=>env 0=v∧(∀ j,j<i→livSP l j=true)∧σ <+: τ) rfl ⟨rfl,fun j hj=>by omega,List.prefix_refl _⟩ ?_ ?_
 ·rintro i env τ hi ei c0 ⟨e0,ha,hp⟩
  have hno:livSP l i=false→livsS l=false:=fun hh=>by simp[livsS,allR_no hi hh]
  have hat:livSP l i=(dotOk l[i].dot&&((nameOk l[i].obj&&(nameOk l[i].key&&(inB l[i].val 0 999999&&(l[i].map||decide (l[i].val=0)))))&&upI liveLt l i)):=by simp only[livSP,liv1,onI_at hi]
  simp +contextual (disch:=omega) only[go_sem,c0,e0,ei,Live_at (h.pre hp) hi,fun r=>Live_at (h.pre (pre_app hp r)) hi,h.len,pre_app hp _,hp]
  refine by_bool (s_DotOk_ret _ l[i].dot) (fun h0=> ?_) (fun h0=> ?_)
  rotate_left
  ·simp +contextual (disch:=omega) only[go_sem,c0,e0,ei,Live_at (h.pre hp) hi,fun r=>Live_at (h.pre (pre_app hp r)) hi,h.len,pre_app hp _,hp]
   simp[hno (by rw[hat];simp[h0])]
  simp +contextual (disch:=omega) only[go_sem,c0,e0,ei,Live_at (h.pre hp) hi,fun r=>Live_at (h.pre (pre_app hp r)) hi,h.len,pre_app hp _,hp]
  refine by_bool (s_NameOk_ret _ l[i].obj (hsz _ (List.getElem_mem hi)).1) (fun h1=> ?_) (fun h1=> ?_)
  rotate_left
  ·simp +contextual (disch:=omega) only[go_sem,c0,e0,ei,Live_at (h.pre hp) hi,fun r=>Live_at (h.pre (pre_app hp r)) hi,h.len,pre_app hp _,hp]
   simp[hno (by rw[hat];simp[h1])]
  simp +contextual (disch:=omega) only[go_sem,c0,e0,ei,Live_at (h.pre hp) hi,fun r=>Live_at (h.pre (pre_app hp r)) hi,h.len,pre_app hp _,hp]
  refine by_bool (s_NameOk_ret _ l[i].key (hsz _ (List.getElem_mem hi)).2) (fun h2=> ?_) (fun h2=> ?_)
  rotate_left
  ·simp +contextual (disch:=omega) only[go_sem,c0,e0,ei,Live_at (h.pre hp) hi,fun r=>Live_at (h.pre (pre_app hp r)) hi,h.len,pre_app hp _,hp]
   simp[hno (by rw[hat];simp[h2])]
  simp +contextual (disch:=omega) only[go_sem,c0,e0,ei,Live_at (h.pre hp) hi,fun r=>Live_at (h.pre (pre_app hp r)) hi,h.len,pre_app hp _,hp]
  refine by_bool (s_l01In_ret _ _ _ _) (fun h3=> ?_) (fun h3=> ?_)
  rotate_left
  ·simp +contextual (disch:=omega) only[go_sem,c0,e0,ei,Live_at (h.pre hp) hi,fun r=>Live_at (h.pre (pre_app hp r)) hi,h.len,pre_app hp _,hp]
   simp[hno (by rw[hat];simp[h3])]
  simp +contextual (disch:=omega) only[go_sem,c0,e0,ei,Live_at (h.pre hp) hi,fun r=>Live_at (h.pre (pre_app hp r)) hi,h.len,pre_app hp _,hp]
  rcases mv_cases l[i].map l[i].val with hm|⟨hm,hv,hv'⟩|⟨hm,hv,hv'⟩
  rotate_left 2
  ·simp +contextual (disch:=omega) only[go_sem,hm,hv,c0,e0,ei,Live_at (h.pre hp) hi,fun r=>Live_at (h.pre (pre_app hp r)) hi,h.len,pre_app hp _,hp]
   simp[hno (by rw[hat];simp[hm,hv'])]
  ·simp +contextual (disch:=omega) only[go_sem,hm,c0,e0,ei,Live_at (h.pre hp) hi,fun r=>Live_at (h.pre (pre_app hp r)) hi,h.len,pre_app hp _,hp]
   rcases Nat.eq_zero_or_pos i with hz|hz
   ·subst hz
    simp +contextual (disch:=omega) only[go_sem,Int.ofNat_zero,decide_false,Int.lt_irrefl,hm,c0,e0,ei,Live_at (h.pre hp) hi,fun r=>Live_at (h.pre (pre_app hp r)) hi,h.len,pre_app hp _,hp]
    refine lt_snoc ha (by rw[hat];simp[h0,h1,h2,h3,hm,upI])
   ·have c1:decide ((0:Int)<i)=true:=by simp;omega
    have hj:i - 1<l.length:=by omega
    have hz':i≠0:=by omega
    simp only[upI_at hz' hi hj] at hat
    simp +contextual (disch:=omega) only[go_sem,c1,sub1 hz,Live_at (h.pre hp) hj,fun r=>Live_at (h.pre (pre_app hp r)) hj,hm,c0,e0,ei,Live_at (h.pre hp) hi,fun r=>Live_at (h.pre (pre_app hp r)) hi,h.len,pre_app hp _,hp]
    refine by_ret (s_l06Before_ret _ l[i-1].dot l[i].dot) ?_
    cases ho:dotLt l[i-1].dot l[i].dot with
    |true=>
     simp +contextual (disch:=omega) only[go_sem,c1,sub1 hz,Live_at (h.pre hp) hj,fun r=>Live_at (h.pre (pre_app hp r)) hj,hm,c0,e0,ei,Live_at (h.pre hp) hi,fun r=>Live_at (h.pre (pre_app hp r)) hi,h.len,pre_app hp _,hp]
     exact lt_snoc ha (by rw[hat];simp[h0,h1,h2,h3,hm,ho,liveLt])
    |false=>
     simp +contextual (disch:=omega) only[go_sem,c1,sub1 hz,Live_at (h.pre hp) hj,fun r=>Live_at (h.pre (pre_app hp r)) hj,hm,c0,e0,ei,Live_at (h.pre hp) hi,fun r=>Live_at (h.pre (pre_app hp r)) hi,h.len,pre_app hp _,hp]
     simp[hno (by rw[hat];simp[ho,liveLt])]
  ·simp +contextual (disch:=omega) only[go_sem,hm,hv,c0,e0,ei,Live_at (h.pre hp) hi,fun r=>Live_at (h.pre (pre_app hp r)) hi,h.len,pre_app hp _,hp]
   rcases Nat.eq_zero_or_pos i with hz|hz
   ·subst hz
    simp +contextual (disch:=omega) only[go_sem,Int.ofNat_zero,decide_false,Int.lt_irrefl,hm,hv,c0,e0,ei,Live_at (h.pre hp) hi,fun r=>Live_at (h.pre (pre_app hp r)) hi,h.len,pre_app hp _,hp]
    refine lt_snoc ha (by rw[hat];simp[h0,h1,h2,h3,hm,decide_eq_true hv',upI])
   ·have c1:decide ((0:Int)<i)=true:=by simp;omega
    have hj:i - 1<l.length:=by omega
    have hz':i≠0:=by omega
    simp only[upI_at hz' hi hj] at hat
    simp +contextual (disch:=omega) only[go_sem,c1,sub1 hz,Live_at (h.pre hp) hj,fun r=>Live_at (h.pre (pre_app hp r)) hj,hm,hv,c0,e0,ei,Live_at (h.pre hp) hi,fun r=>Live_at (h.pre (pre_app hp r)) hi,h.len,pre_app hp _,hp]
    refine by_ret (s_l06Before_ret _ l[i-1].dot l[i].dot) ?_
    cases ho:dotLt l[i-1].dot l[i].dot with
    |true=>
     simp +contextual (disch:=omega) only[go_sem,c1,sub1 hz,Live_at (h.pre hp) hj,fun r=>Live_at (h.pre (pre_app hp r)) hj,hm,hv,c0,e0,ei,Live_at (h.pre hp) hi,fun r=>Live_at (h.pre (pre_app hp r)) hi,h.len,pre_app hp _,hp]
     exact lt_snoc ha (by rw[hat];simp[h0,h1,h2,h3,hm,decide_eq_true hv',ho,liveLt])
    |false=>
     simp +contextual (disch:=omega) only[go_sem,c1,sub1 hz,Live_at (h.pre hp) hj,fun r=>Live_at (h.pre (pre_app hp r)) hj,hm,hv,c0,e0,ei,Live_at (h.pre hp) hi,fun r=>Live_at (h.pre (pre_app hp r)) hi,h.len,pre_app hp _,hp]
     simp[hno (by rw[hat];simp[ho,liveLt])]
 ·rintro env τ ei c0 ⟨e0,ha,hp⟩
  simp +contextual (disch:=omega) only[go_sem,c0,e0,ei,h.len,hp]
  simp only[livsS,allR_yes ha,Bool.true_and]
  exact len_le
theorem i_livesOk_ret (σ:St) (v:GV) (l:List Live) (h:RS pLive.kd σ v l) (u:GV) (k:List Int) (hk:RS pI.kd σ u k) (hlk:k.length≤1099511627776) (hl:l.length≤1099511627776) (hsz:∀ x∈l,x.obj.size≤1099511627776∧x.key.size≤1099511627776):Ret Tryz.prog n_i_livesOk [v,u] σ (.bool (livsOk l k)) σ:=by
 refine ret_eq ir_i_livesOk (Nat.le_of_ble_eq_true rfl) trivial ?_
 simp +contextual (disch:=omega) only[go_sem,F_i_livesOk,h.len]
 refine vc_for l.length 9 (fun i env τ=>env 0=v∧env 1=u∧env 7=v∧env 8=gi l.length∧(∀ j,j<i→livP l k j=true)∧σ <+: τ) rfl ⟨rfl,rfl,rfl,rfl,fun j hj=>by omega,List.prefix_refl _⟩ ?_ ?_
 ·rintro i env τ hi ei c0 ⟨e0,e1,e7,e8,ha,hp⟩
  have hno:livP l k i=false→livsOk l k=false:=fun hh=>by simp[livsOk,allR_no hi hh]
  have hat:livP l k i=(knows k l[i].dot&&((nameOk l[i].obj&&(nameOk l[i].key&&(inB l[i].val 0 999999&&(l[i].map||decide (l[i].val=0)))))&&upI liveLt l i)):=by simp only[livP,liv1,onI_at hi]
  simp +contextual (disch:=omega) only[go_sem,c0,e0,e1,e7,e8,ei,Live_at (h.pre hp) hi,fun r=>Live_at (h.pre (pre_app hp r)) hi,h.len,pre_app hp _,hp]
  refine by_bool (i_Knows_ret _ u k l[i].dot (hk.pre (pre_app hp _)) hlk) (fun h0=> ?_) (fun h0=> ?_)
  rotate_left
  ·simp +contextual (disch:=omega) only[go_sem,c0,e0,e1,e7,e8,ei,Live_at (h.pre hp) hi,fun r=>Live_at (h.pre (pre_app hp r)) hi,h.len,pre_app hp _,hp]
   simp[hno (by rw[hat];simp[h0])]
  simp +contextual (disch:=omega) only[go_sem,c0,e0,e1,e7,e8,ei,Live_at (h.pre hp) hi,fun r=>Live_at (h.pre (pre_app hp r)) hi,h.len,pre_app hp _,hp]
  refine by_bool (i_NameOk_ret _ l[i].obj (hsz _ (List.getElem_mem hi)).1) (fun h1=> ?_) (fun h1=> ?_)
  rotate_left
  ·simp +contextual (disch:=omega) only[go_sem,c0,e0,e1,e7,e8,ei,Live_at (h.pre hp) hi,fun r=>Live_at (h.pre (pre_app hp r)) hi,h.len,pre_app hp _,hp]
   simp[hno (by rw[hat];simp[h1])]
  simp +contextual (disch:=omega) only[go_sem,c0,e0,e1,e7,e8,ei,Live_at (h.pre hp) hi,fun r=>Live_at (h.pre (pre_app hp r)) hi,h.len,pre_app hp _,hp]
  refine by_bool (i_NameOk_ret _ l[i].key (hsz _ (List.getElem_mem hi)).2) (fun h2=> ?_) (fun h2=> ?_)
  rotate_left
  ·simp +contextual (disch:=omega) only[go_sem,c0,e0,e1,e7,e8,ei,Live_at (h.pre hp) hi,fun r=>Live_at (h.pre (pre_app hp r)) hi,h.len,pre_app hp _,hp]
   simp[hno (by rw[hat];simp[h2])]
  simp +contextual (disch:=omega) only[go_sem,c0,e0,e1,e7,e8,ei,Live_at (h.pre hp) hi,fun r=>Live_at (h.pre (pre_app hp r)) hi,h.len,pre_app hp _,hp]
  refine by_bool (i_within_ret _ _ _ _) (fun h3=> ?_) (fun h3=> ?_)
  rotate_left
  ·simp +contextual (disch:=omega) only[go_sem,c0,e0,e1,e7,e8,ei,Live_at (h.pre hp) hi,fun r=>Live_at (h.pre (pre_app hp r)) hi,h.len,pre_app hp _,hp]
   simp[hno (by rw[hat];simp[h3])]
  simp +contextual (disch:=omega) only[go_sem,c0,e0,e1,e7,e8,ei,Live_at (h.pre hp) hi,fun r=>Live_at (h.pre (pre_app hp r)) hi,h.len,pre_app hp _,hp]
  rcases mv_cases l[i].map l[i].val with hm|⟨hm,hv,hv'⟩|⟨hm,hv,hv'⟩
  rotate_left 2
  ·simp +contextual (disch:=omega) only[go_sem,hm,hv,c0,e0,e1,e7,e8,ei,Live_at (h.pre hp) hi,fun r=>Live_at (h.pre (pre_app hp r)) hi,h.len,pre_app hp _,hp]
   simp[hno (by rw[hat];simp[hm,hv'])]
  ·simp +contextual (disch:=omega) only[go_sem,hm,c0,e0,e1,e7,e8,ei,Live_at (h.pre hp) hi,fun r=>Live_at (h.pre (pre_app hp r)) hi,h.len,pre_app hp _,hp]
   rcases Nat.eq_zero_or_pos i with hz|hz
   ·subst hz
    simp +contextual (disch:=omega) only[go_sem,Int.ofNat_zero,decide_false,Int.lt_irrefl,hm,c0,e0,e1,e7,e8,ei,Live_at (h.pre hp) hi,fun r=>Live_at (h.pre (pre_app hp r)) hi,h.len,pre_app hp _,hp]
    refine lt_snoc ha (by rw[hat];simp[h0,h1,h2,h3,hm,upI])
   ·have c1:decide ((0:Int)<i)=true:=by simp;omega
    have hj:i - 1<l.length:=by omega
    have hz':i≠0:=by omega
    simp only[upI_at hz' hi hj] at hat
    simp +contextual (disch:=omega) only[go_sem,c1,sub1 hz,Live_at (h.pre hp) hj,fun r=>Live_at (h.pre (pre_app hp r)) hj,hm,c0,e0,e1,e7,e8,ei,Live_at (h.pre hp) hi,fun r=>Live_at (h.pre (pre_app hp r)) hi,h.len,pre_app hp _,hp]
    refine by_ret (i_compareDots_ret _ l[i-1].dot l[i].dot) ?_
    simp +contextual (disch:=omega) only[go_sem,cmpDot_ge,c1,sub1 hz,Live_at (h.pre hp) hj,fun r=>Live_at (h.pre (pre_app hp r)) hj,hm,c0,e0,e1,e7,e8,ei,Live_at (h.pre hp) hi,fun r=>Live_at (h.pre (pre_app hp r)) hi,h.len,pre_app hp _,hp]
    cases ho:dotLt l[i-1].dot l[i].dot with
    |true=>
     simp +contextual (disch:=omega) only[go_sem,c1,sub1 hz,Live_at (h.pre hp) hj,fun r=>Live_at (h.pre (pre_app hp r)) hj,hm,c0,e0,e1,e7,e8,ei,Live_at (h.pre hp) hi,fun r=>Live_at (h.pre (pre_app hp r)) hi,h.len,pre_app hp _,hp]
     exact lt_snoc ha (by rw[hat];simp[h0,h1,h2,h3,hm,ho,liveLt])
    |false=>
     simp +contextual (disch:=omega) only[go_sem,c1,sub1 hz,Live_at (h.pre hp) hj,fun r=>Live_at (h.pre (pre_app hp r)) hj,hm,c0,e0,e1,e7,e8,ei,Live_at (h.pre hp) hi,fun r=>Live_at (h.pre (pre_app hp r)) hi,h.len,pre_app hp _,hp]
     simp[hno (by rw[hat];simp[ho,liveLt])]
  ·simp +contextual (disch:=omega) only[go_sem,hm,hv,c0,e0,e1,e7,e8,ei,Live_at (h.pre hp) hi,fun r=>Live_at (h.pre (pre_app hp r)) hi,h.len,pre_app hp _,hp]
   rcases Nat.eq_zero_or_pos i with hz|hz
   ·subst hz
    simp +contextual (disch:=omega) only[go_sem,Int.ofNat_zero,decide_false,Int.lt_irrefl,hm,hv,c0,e0,e1,e7,e8,ei,Live_at (h.pre hp) hi,fun r=>Live_at (h.pre (pre_app hp r)) hi,h.len,pre_app hp _,hp]
    refine lt_snoc ha (by rw[hat];simp[h0,h1,h2,h3,hm,decide_eq_true hv',upI])
   ·have c1:decide ((0:Int)<i)=true:=by simp;omega
    have hj:i - 1<l.length:=by omega
    have hz':i≠0:=by omega
    simp only[upI_at hz' hi hj] at hat
    simp +contextual (disch:=omega) only[go_sem,c1,sub1 hz,Live_at (h.pre hp) hj,fun r=>Live_at (h.pre (pre_app hp r)) hj,hm,hv,c0,e0,e1,e7,e8,ei,Live_at (h.pre hp) hi,fun r=>Live_at (h.pre (pre_app hp r)) hi,h.len,pre_app hp _,hp]
    refine by_ret (i_compareDots_ret _ l[i-1].dot l[i].dot) ?_
    simp +contextual (disch:=omega) only[go_sem,cmpDot_ge,c1,sub1 hz,Live_at (h.pre hp) hj,fun r=>Live_at (h.pre (pre_app hp r)) hj,hm,hv,c0,e0,e1,e7,e8,ei,Live_at (h.pre hp) hi,fun r=>Live_at (h.pre (pre_app hp r)) hi,h.len,pre_app hp _,hp]
    cases ho:dotLt l[i-1].dot l[i].dot with
    |true=>
     simp +contextual (disch:=omega) only[go_sem,c1,sub1 hz,Live_at (h.pre hp) hj,fun r=>Live_at (h.pre (pre_app hp r)) hj,hm,hv,c0,e0,e1,e7,e8,ei,Live_at (h.pre hp) hi,fun r=>Live_at (h.pre (pre_app hp r)) hi,h.len,pre_app hp _,hp]
     exact lt_snoc ha (by rw[hat];simp[h0,h1,h2,h3,hm,decide_eq_true hv',ho,liveLt])
    |false=>
     simp +contextual (disch:=omega) only[go_sem,c1,sub1 hz,Live_at (h.pre hp) hj,fun r=>Live_at (h.pre (pre_app hp r)) hj,hm,hv,c0,e0,e1,e7,e8,ei,Live_at (h.pre hp) hi,fun r=>Live_at (h.pre (pre_app hp r)) hi,h.len,pre_app hp _,hp]
     simp[hno (by rw[hat];simp[ho,liveLt])]
 ·rintro env τ ei c0 ⟨e0,e1,e7,e8,ha,hp⟩
  simp +contextual (disch:=omega) only[go_sem,c0,e0,e1,e7,e8,ei,h.len,hp]
  simp only[livsOk,allR_yes ha,Bool.true_and]
  exact len_le
theorem s_l06Cells_ret (σ:St) (v:GV) (l:List Cell) (h:RS pCell.kd σ v l) (hl:l.length≤1099511627776) (hsz:∀ x∈l,x.obj.size≤1099511627776):Ret Tryz.prog n_s_l06Cells [v] σ (.bool (celsS l)) σ:=by
 refine ret_eq ir_s_l06Cells (Nat.le_of_ble_eq_true rfl) trivial ?_
 simp +contextual (disch:=omega) only[go_sem,F_s_l06Cells,h.len]
 refine vc_for l.length 3 (fun i env τ=>env 0=v∧(∀ j,j<i→celSP l j=true)∧σ <+: τ) rfl ⟨rfl,fun j hj=>by omega,List.prefix_refl _⟩ ?_ ?_
 ·rintro i env τ hi ei c0 ⟨e0,ha,hp⟩
  have hno:celSP l i=false→celsS l=false:=fun hh=>by simp[celsS,allR_no hi hh]
  have hat:celSP l i=(dotOk l[i].dot&&((nameOk l[i].obj&&(inB l[i].val 0 999999&&inB l[i].time 1 10000))&&((decide (l[i].ref=⟨0,0⟩)||dotOk l[i].ref)&&upI cellLt l i))):=by simp only[celSP,cel1,refD,onI_at hi]
  simp +contextual (disch:=omega) only[go_sem,c0,e0,ei,Cell_at (h.pre hp) hi,fun r=>Cell_at (h.pre (pre_app hp r)) hi,h.len,pre_app hp _,hp]
  refine by_bool (s_DotOk_ret _ l[i].dot) (fun h0=> ?_) (fun h0=> ?_)
  rotate_left
  ·simp +contextual (disch:=omega) only[go_sem,c0,e0,ei,Cell_at (h.pre hp) hi,fun r=>Cell_at (h.pre (pre_app hp r)) hi,h.len,pre_app hp _,hp]
   simp[hno (by rw[hat];simp[h0])]
  simp +contextual (disch:=omega) only[go_sem,c0,e0,ei,Cell_at (h.pre hp) hi,fun r=>Cell_at (h.pre (pre_app hp r)) hi,h.len,pre_app hp _,hp]
  refine by_bool (s_NameOk_ret _ l[i].obj (hsz _ (List.getElem_mem hi))) (fun h1=> ?_) (fun h1=> ?_)
  rotate_left
  ·simp +contextual (disch:=omega) only[go_sem,c0,e0,ei,Cell_at (h.pre hp) hi,fun r=>Cell_at (h.pre (pre_app hp r)) hi,h.len,pre_app hp _,hp]
   simp[hno (by rw[hat];simp[h1])]
  simp +contextual (disch:=omega) only[go_sem,c0,e0,ei,Cell_at (h.pre hp) hi,fun r=>Cell_at (h.pre (pre_app hp r)) hi,h.len,pre_app hp _,hp]
  refine by_bool (s_l01In_ret _ _ _ _) (fun h2=> ?_) (fun h2=> ?_)
  rotate_left
  ·simp +contextual (disch:=omega) only[go_sem,c0,e0,ei,Cell_at (h.pre hp) hi,fun r=>Cell_at (h.pre (pre_app hp r)) hi,h.len,pre_app hp _,hp]
   simp[hno (by rw[hat];simp[h2])]
  simp +contextual (disch:=omega) only[go_sem,c0,e0,ei,Cell_at (h.pre hp) hi,fun r=>Cell_at (h.pre (pre_app hp r)) hi,h.len,pre_app hp _,hp]
  refine by_bool (s_l01In_ret _ _ _ _) (fun h3=> ?_) (fun h3=> ?_)
  rotate_left
  ·simp +contextual (disch:=omega) only[go_sem,c0,e0,ei,Cell_at (h.pre hp) hi,fun r=>Cell_at (h.pre (pre_app hp r)) hi,h.len,pre_app hp _,hp]
   simp[hno (by rw[hat];simp[h3])]
  simp +contextual (disch:=omega) only[go_sem,c0,e0,ei,Cell_at (h.pre hp) hi,fun r=>Cell_at (h.pre (pre_app hp r)) hi,h.len,pre_app hp _,hp]
  by_cases hr:l[i].ref=⟨0,0⟩
  ·have hrd:=decide_eq_true hr
   simp +contextual (disch:=omega) only[go_sem,hrd,c0,e0,ei,Cell_at (h.pre hp) hi,fun r=>Cell_at (h.pre (pre_app hp r)) hi,h.len,pre_app hp _,hp]
   rcases Nat.eq_zero_or_pos i with hz|hz
   ·subst hz
    simp +contextual (disch:=omega) only[go_sem,Int.ofNat_zero,decide_false,Int.lt_irrefl,hrd,c0,e0,ei,Cell_at (h.pre hp) hi,fun r=>Cell_at (h.pre (pre_app hp r)) hi,h.len,pre_app hp _,hp]
    refine lt_snoc ha (by rw[hat];simp[h0,h1,h2,h3,hrd,upI])
   ·have c1:decide ((0:Int)<i)=true:=by simp;omega
    have hj:i - 1<l.length:=by omega
    have hz':i≠0:=by omega
    simp only[upI_at hz' hi hj] at hat
    simp +contextual (disch:=omega) only[go_sem,c1,sub1 hz,Cell_at (h.pre hp) hj,fun r=>Cell_at (h.pre (pre_app hp r)) hj,hrd,c0,e0,ei,Cell_at (h.pre hp) hi,fun r=>Cell_at (h.pre (pre_app hp r)) hi,h.len,pre_app hp _,hp]
    refine by_ret (s_l06Before_ret _ l[i-1].dot l[i].dot) ?_
    cases ho:dotLt l[i-1].dot l[i].dot with
    |true=>
     simp +contextual (disch:=omega) only[go_sem,c1,sub1 hz,Cell_at (h.pre hp) hj,fun r=>Cell_at (h.pre (pre_app hp r)) hj,hrd,c0,e0,ei,Cell_at (h.pre hp) hi,fun r=>Cell_at (h.pre (pre_app hp r)) hi,h.len,pre_app hp _,hp]
     exact lt_snoc ha (by rw[hat];simp[h0,h1,h2,h3,hrd,ho,cellLt])
    |false=>
     simp +contextual (disch:=omega) only[go_sem,c1,sub1 hz,Cell_at (h.pre hp) hj,fun r=>Cell_at (h.pre (pre_app hp r)) hj,hrd,c0,e0,ei,Cell_at (h.pre hp) hi,fun r=>Cell_at (h.pre (pre_app hp r)) hi,h.len,pre_app hp _,hp]
     simp[hno (by rw[hat];simp[ho,cellLt])]
  ·have hrd:=decide_eq_false hr
   simp +contextual (disch:=omega) only[go_sem,hrd,c0,e0,ei,Cell_at (h.pre hp) hi,fun r=>Cell_at (h.pre (pre_app hp r)) hi,h.len,pre_app hp _,hp]
   refine by_bool (s_DotOk_ret _ l[i].ref) (fun hq=> ?_) (fun hq=> ?_)
   rotate_left
   ·simp +contextual (disch:=omega) only[go_sem,hrd,c0,e0,ei,Cell_at (h.pre hp) hi,fun r=>Cell_at (h.pre (pre_app hp r)) hi,h.len,pre_app hp _,hp]
    simp[hno (by rw[hat];simp[hrd,hq])]
   simp +contextual (disch:=omega) only[go_sem,hrd,c0,e0,ei,Cell_at (h.pre hp) hi,fun r=>Cell_at (h.pre (pre_app hp r)) hi,h.len,pre_app hp _,hp]
   rcases Nat.eq_zero_or_pos i with hz|hz
   ·subst hz
    simp +contextual (disch:=omega) only[go_sem,Int.ofNat_zero,decide_false,Int.lt_irrefl,hrd,c0,e0,ei,Cell_at (h.pre hp) hi,fun r=>Cell_at (h.pre (pre_app hp r)) hi,h.len,pre_app hp _,hp]
    refine lt_snoc ha (by rw[hat];simp[h0,h1,h2,h3,hrd,hq,upI])
   ·have c1:decide ((0:Int)<i)=true:=by simp;omega
    have hj:i - 1<l.length:=by omega
    have hz':i≠0:=by omega
    simp only[upI_at hz' hi hj] at hat
    simp +contextual (disch:=omega) only[go_sem,c1,sub1 hz,Cell_at (h.pre hp) hj,fun r=>Cell_at (h.pre (pre_app hp r)) hj,hrd,c0,e0,ei,Cell_at (h.pre hp) hi,fun r=>Cell_at (h.pre (pre_app hp r)) hi,h.len,pre_app hp _,hp]
    refine by_ret (s_l06Before_ret _ l[i-1].dot l[i].dot) ?_
    cases ho:dotLt l[i-1].dot l[i].dot with
    |true=>
     simp +contextual (disch:=omega) only[go_sem,c1,sub1 hz,Cell_at (h.pre hp) hj,fun r=>Cell_at (h.pre (pre_app hp r)) hj,hrd,c0,e0,ei,Cell_at (h.pre hp) hi,fun r=>Cell_at (h.pre (pre_app hp r)) hi,h.len,pre_app hp _,hp]
     exact lt_snoc ha (by rw[hat];simp[h0,h1,h2,h3,hrd,hq,ho,cellLt])
    |false=>
     simp +contextual (disch:=omega) only[go_sem,c1,sub1 hz,Cell_at (h.pre hp) hj,fun r=>Cell_at (h.pre (pre_app hp r)) hj,hrd,c0,e0,ei,Cell_at (h.pre hp) hi,fun r=>Cell_at (h.pre (pre_app hp r)) hi,h.len,pre_app hp _,hp]
     simp[hno (by rw[hat];simp[ho,cellLt])]
 ·rintro env τ ei c0 ⟨e0,ha,hp⟩
  simp +contextual (disch:=omega) only[go_sem,c0,e0,ei,h.len,hp]
  simp only[celsS,allR_yes ha,Bool.true_and]
  exact len_le
theorem i_cellsOk_ret (σ:St) (v:GV) (l:List Cell) (h:RS pCell.kd σ v l) (u:GV) (k:List Int) (hk:RS pI.kd σ u k) (hlk:k.length≤1099511627776) (hl:l.length≤1099511627776) (hsz:∀ x∈l,x.obj.size≤1099511627776):Ret Tryz.prog n_i_cellsOk [v,u] σ (.bool (celsOk l k)) σ:=by
 refine ret_eq ir_i_cellsOk (Nat.le_of_ble_eq_true rfl) trivial ?_
 simp +contextual (disch:=omega) only[go_sem,F_i_cellsOk,h.len]
 refine vc_for l.length 9 (fun i env τ=>env 0=v∧env 1=u∧env 7=v∧env 8=gi l.length∧(∀ j,j<i→celP l k j=true)∧σ <+: τ) rfl ⟨rfl,rfl,rfl,rfl,fun j hj=>by omega,List.prefix_refl _⟩ ?_ ?_
 ·rintro i env τ hi ei c0 ⟨e0,e1,e7,e8,ha,hp⟩
  have hno:celP l k i=false→celsOk l k=false:=fun hh=>by simp[celsOk,allR_no hi hh]
  have hat:celP l k i=(knows k l[i].dot&&((nameOk l[i].obj&&(inB l[i].val 0 999999&&inB l[i].time 1 10000))&&upI cellLt l i)):=by simp only[celP,cel1,onI_at hi]
  simp +contextual (disch:=omega) only[go_sem,c0,e0,e1,e7,e8,ei,Cell_at (h.pre hp) hi,fun r=>Cell_at (h.pre (pre_app hp r)) hi,h.len,pre_app hp _,hp]
  refine by_bool (i_Knows_ret _ u k l[i].dot (hk.pre (pre_app hp _)) hlk) (fun h0=> ?_) (fun h0=> ?_)
  rotate_left
  ·simp +contextual (disch:=omega) only[go_sem,c0,e0,e1,e7,e8,ei,Cell_at (h.pre hp) hi,fun r=>Cell_at (h.pre (pre_app hp r)) hi,h.len,pre_app hp _,hp]
   simp[hno (by rw[hat];simp[h0])]
  simp +contextual (disch:=omega) only[go_sem,c0,e0,e1,e7,e8,ei,Cell_at (h.pre hp) hi,fun r=>Cell_at (h.pre (pre_app hp r)) hi,h.len,pre_app hp _,hp]
  refine by_bool (i_NameOk_ret _ l[i].obj (hsz _ (List.getElem_mem hi))) (fun h1=> ?_) (fun h1=> ?_)
  rotate_left
  ·simp +contextual (disch:=omega) only[go_sem,c0,e0,e1,e7,e8,ei,Cell_at (h.pre hp) hi,fun r=>Cell_at (h.pre (pre_app hp r)) hi,h.len,pre_app hp _,hp]
   simp[hno (by rw[hat];simp[h1])]
  simp +contextual (disch:=omega) only[go_sem,c0,e0,e1,e7,e8,ei,Cell_at (h.pre hp) hi,fun r=>Cell_at (h.pre (pre_app hp r)) hi,h.len,pre_app hp _,hp]
  refine by_bool (i_within_ret _ _ _ _) (fun h2=> ?_) (fun h2=> ?_)
  rotate_left
  ·simp +contextual (disch:=omega) only[go_sem,c0,e0,e1,e7,e8,ei,Cell_at (h.pre hp) hi,fun r=>Cell_at (h.pre (pre_app hp r)) hi,h.len,pre_app hp _,hp]
   simp[hno (by rw[hat];simp[h2])]
  simp +contextual (disch:=omega) only[go_sem,c0,e0,e1,e7,e8,ei,Cell_at (h.pre hp) hi,fun r=>Cell_at (h.pre (pre_app hp r)) hi,h.len,pre_app hp _,hp]
  refine by_bool (i_within_ret _ _ _ _) (fun h3=> ?_) (fun h3=> ?_)
  rotate_left
  ·simp +contextual (disch:=omega) only[go_sem,c0,e0,e1,e7,e8,ei,Cell_at (h.pre hp) hi,fun r=>Cell_at (h.pre (pre_app hp r)) hi,h.len,pre_app hp _,hp]
   simp[hno (by rw[hat];simp[h3])]
  simp +contextual (disch:=omega) only[go_sem,c0,e0,e1,e7,e8,ei,Cell_at (h.pre hp) hi,fun r=>Cell_at (h.pre (pre_app hp r)) hi,h.len,pre_app hp _,hp]
  rcases Nat.eq_zero_or_pos i with hz|hz
  ·subst hz
   simp +contextual (disch:=omega) only[go_sem,Int.ofNat_zero,decide_false,Int.lt_irrefl,c0,e0,e1,e7,e8,ei,Cell_at (h.pre hp) hi,fun r=>Cell_at (h.pre (pre_app hp r)) hi,h.len,pre_app hp _,hp]
   refine lt_snoc ha (by rw[hat];simp[h0,h1,h2,h3,upI])
  ·have c1:decide ((0:Int)<i)=true:=by simp;omega
   have hj:i - 1<l.length:=by omega
   have hz':i≠0:=by omega
   simp only[upI_at hz' hi hj] at hat
   simp +contextual (disch:=omega) only[go_sem,c1,sub1 hz,Cell_at (h.pre hp) hj,fun r=>Cell_at (h.pre (pre_app hp r)) hj,c0,e0,e1,e7,e8,ei,Cell_at (h.pre hp) hi,fun r=>Cell_at (h.pre (pre_app hp r)) hi,h.len,pre_app hp _,hp]
   refine by_ret (i_compareDots_ret _ l[i-1].dot l[i].dot) ?_
   simp +contextual (disch:=omega) only[go_sem,cmpDot_ge,c1,sub1 hz,Cell_at (h.pre hp) hj,fun r=>Cell_at (h.pre (pre_app hp r)) hj,c0,e0,e1,e7,e8,ei,Cell_at (h.pre hp) hi,fun r=>Cell_at (h.pre (pre_app hp r)) hi,h.len,pre_app hp _,hp]
   cases ho:dotLt l[i-1].dot l[i].dot with
   |true=>
    simp +contextual (disch:=omega) only[go_sem,c1,sub1 hz,Cell_at (h.pre hp) hj,fun r=>Cell_at (h.pre (pre_app hp r)) hj,c0,e0,e1,e7,e8,ei,Cell_at (h.pre hp) hi,fun r=>Cell_at (h.pre (pre_app hp r)) hi,h.len,pre_app hp _,hp]
    exact lt_snoc ha (by rw[hat];simp[h0,h1,h2,h3,ho,cellLt])
   |false=>
    simp +contextual (disch:=omega) only[go_sem,c1,sub1 hz,Cell_at (h.pre hp) hj,fun r=>Cell_at (h.pre (pre_app hp r)) hj,c0,e0,e1,e7,e8,ei,Cell_at (h.pre hp) hi,fun r=>Cell_at (h.pre (pre_app hp r)) hi,h.len,pre_app hp _,hp]
    simp[hno (by rw[hat];simp[ho,cellLt])]
 ·rintro env τ ei c0 ⟨e0,e1,e7,e8,ha,hp⟩
  simp +contextual (disch:=omega) only[go_sem,c0,e0,e1,e7,e8,ei,h.len,hp]
  simp only[celsOk,allR_yes ha,Bool.true_and]
  exact len_le
end Go.Proofs.YtbeoiejnogdkpaaGreat.Sy
namespace Go.Proofs.YtbeoiejnogdkpaaGreat.Sy
open Go Go.RowKit
set_option linter.unusedSimpArgs false
set_option linter.unusedVariables false
abbrev n_s_KnowNew:Nat:=165
def F_s_KnowNew:Fn1:=⟨2,[.t 0],(.seq (.reg [o 0 (.mov (.k .nilS))]) (.seq (.reg [o 1 (.mks 1 8 [(.int .i64 0)] (.k (.int .i64 3)) (.k (.int .i64 3))),o 0 (.mov (.t 1))]) .ret))⟩
abbrev n_i_KnowNew:Nat:=179
def F_i_KnowNew:Fn1:=⟨2,[.t 0],(.seq (.reg [o 0 (.mov (.k .nilS))]) (.seq (.reg [o 1 (.mks 1 8 [(.int .i64 0)] (.k (.int .i64 3)) (.k (.int .i64 3))),o 0 (.mov (.t 1))]) .ret))⟩
abbrev n_i_copyInts:Nat:=182
def F_i_copyInts:Fn1:=⟨6,[.t 2],(.seq (.reg [o 2 (.mov (.k .nilS))]) (.seq (.reg [o 3 (.lit 1 0 [] []),o 4 (.mov (.t 0)),o 5 (.app 1 8 [(.int .i64 0)] (.t 3) (.t 4)),o 2 (.mov (.t 5))]) .ret))⟩
theorem ir_i_copyInts:compFn Tryz.prog n_i_copyInts=some F_i_copyInts:=by kernel_rfl
abbrev n_s_KnowMax:Nat:=181
def F_s_KnowMax:Fn1:=⟨43,[.t 4],(.seq (.reg [o 4 (.mov (.k .nilS))]) (.seq (.reg [o 8 (.lit 1 0 [] []),o 5 (.mov (.t 8))]) (.seq (.seq (.reg [o 9 (.mov (.t 0)),o 10 (.call 167 [(.t 9)]),o 11 (.un .not (.t 10)),o 12 (.mov (.t 11)),og 13 12 false (.mov (.t 1)),og 14 12 false (.call 167 [(.t 13)]),og 15 12 false (.un .not (.t 14)),o 16 (.pick (.t 12) (.k (.bool true)) (.t 15))]) (.cnd (.t 16) (.seq (.reg [o 17 (.mov (.t 5)),o 4 (.mov (.t 17))]) .ret) .skip)) (.seq (.seq (.reg [o 6 (.mov (.k (.int .i64 0)))]) (.blk 0 (.lop (.seq (.seq (.reg [o 18 (.mov (.t 6)),o 19 (.mov (.t 0)),o 20 (.len false (.t 19)),o 21 (.bin .lss (.t 18) (.t 20))]) (.cnd (.t 21) .skip (.ext 0))) (.seq (.blk 1 (.seq (.reg [o 24 (.mov (.t 0)),o 25 (.mov (.t 6)),o 26 (.iad 1 (.t 24) (.t 25)),o 27 (.ld false 1 (.t 26)),o 7 (.mov (.t 27))]) (.seq (.seq (.reg [o 28 (.mov (.t 1)),o 29 (.mov (.t 6)),o 30 (.iad 1 (.t 28) (.t 29)),o 31 (.ld false 1 (.t 30)),o 32 (.mov (.t 7)),o 33 (.bin .gtr (.t 31) (.t 32))]) (.cnd (.t 33) (.reg [o 34 (.mov (.t 1)),o 35 (.mov (.t 6)),o 36 (.iad 1 (.t 34) (.t 35)),o 37 (.ld false 1 (.t 36)),o 7 (.mov (.t 37))]) .skip)) (.reg [o 38 (.mov (.t 5)),o 39 (.mov (.t 7)),o 40 (.lit 1 1 [(.int .i64 0)] [(0,1,(.t 39))]),o 41 (.app 1 8 [(.int .i64 0)] (.t 38) (.t 40)),o 5 (.mov (.t 41))])))) (.reg [o 22 (.mov (.t 6)),o 23 (.bin .add (.t 22) (.k (.int .i64 1))),o 6 (.mov (.t 23))])))))) (.seq (.reg [o 42 (.mov (.t 5)),o 4 (.mov (.t 42))]) .ret)))))⟩
abbrev n_i_KnowMax:Nat:=180
def F_i_KnowMax:Fn1:=⟨36,[.t 4],(.seq (.reg [o 4 (.mov (.k .nilS))]) (.seq (.seq (.reg [o 8 (.mov (.t 0)),o 9 (.call 176 [(.t 8)]),o 10 (.un .not (.t 9)),o 11 (.mov (.t 10)),og 12 11 false (.mov (.t 1)),og 13 11 false (.call 176 [(.t 12)]),og 14 11 false (.un .not (.t 13)),o 15 (.pick (.t 11) (.k (.bool true)) (.t 14))]) (.cnd (.t 15) (.seq (.reg [o 4 (.mov (.k .nilS))]) .ret) .skip)) (.seq (.reg [o 16 (.mov (.t 0)),o 17 (.call 182 [(.t 16)]),o 5 (.mov (.t 17))]) (.seq (.seq (.reg [o 18 (.mov (.t 1)),o 19 (.len false (.t 18)),o 20 (.mov (.k (.int .i64 0)))]) (.blk 0 (.lop (.seq (.reg [o 21 (.bin .lss (.t 20) (.t 19))]) (.seq (.cnd (.t 21) .skip (.ext 0)) (.seq (.blk 1 (.seq (.reg [o 22 (.mov (.t 20)),o 23 (.iad 1 (.t 18) (.t 20)),o 24 (.ld false 1 (.t 23)),o 6 (.mov (.t 22)),o 7 (.mov (.t 24))]) (.reg [o 25 (.mov (.t 5)),o 26 (.mov (.t 6)),o 27 (.mov (.t 5)),o 28 (.mov (.t 6)),o 29 (.iad 1 (.t 27) (.t 28)),o 30 (.ld false 1 (.t 29)),o 31 (.mov (.t 7)),o 32 (.mm true (.t 30) (.t 31)),o 33 (.iad 1 (.t 25) (.t 26)),on (.st 1 (.t 33) (.t 32))]))) (.reg [o 34 (.bin .add (.t 20) (.k (.int .i64 1))),o 20 (.mov (.t 34))]))))))) (.seq (.reg [o 35 (.mov (.t 5)),o 4 (.mov (.t 35))]) .ret)))))⟩
abbrev n_s_KnowIn:Nat:=178
def F_s_KnowIn:Fn1:=⟨29,[.t 4],(.seq (.reg [o 4 (.mov (.k (.bool false)))]) (.seq (.seq (.reg [o 6 (.mov (.t 0)),o 7 (.call 167 [(.t 6)]),o 8 (.un .not (.t 7)),o 9 (.mov (.t 8)),og 10 9 false (.mov (.t 1)),og 11 9 false (.call 167 [(.t 10)]),og 12 9 false (.un .not (.t 11)),o 13 (.pick (.t 9) (.k (.bool true)) (.t 12))]) (.cnd (.t 13) (.seq (.reg [o 4 (.mov (.k (.bool false)))]) .ret) .skip)) (.seq (.seq (.reg [o 5 (.mov (.k (.int .i64 0)))]) (.blk 0 (.lop (.seq (.seq (.reg [o 14 (.mov (.t 5)),o 15 (.mov (.t 0)),o 16 (.len false (.t 15)),o 17 (.bin .lss (.t 14) (.t 16))]) (.cnd (.t 17) .skip (.ext 0))) (.seq (.blk 1 (.seq (.drw [o 20 (.mov (.t 0)),o 21 (.mov (.t 5)),o 22 (.iad 1 (.t 20) (.t 21)),o 23 (.ld false 1 (.t 22)),o 24 (.mov (.t 1)),o 25 (.mov (.t 5)),o 26 (.iad 1 (.t 24) (.t 25)),o 27 (.ld false 1 (.t 26))] [o 28 (.bin .gtr (.t 23) (.t 27))]) (.cnd (.t 28) (.seq (.reg [o 4 (.mov (.k (.bool false)))]) .ret) .skip))) (.reg [o 18 (.mov (.t 5)),o 19 (.bin .add (.t 18) (.k (.int .i64 1))),o 5 (.mov (.t 19))])))))) (.seq (.reg [o 4 (.mov (.k (.bool true)))]) .ret))))⟩
theorem ir_s_KnowIn:compFn Tryz.prog n_s_KnowIn=some F_s_KnowIn:=by kernel_rfl
abbrev n_i_KnowIn:Nat:=177
def F_i_KnowIn:Fn1:=⟨29,[.t 4],(.seq (.reg [o 4 (.mov (.k (.bool false)))]) (.seq (.seq (.reg [o 7 (.mov (.t 0)),o 8 (.call 176 [(.t 7)]),o 9 (.un .not (.t 8)),o 10 (.mov (.t 9)),og 11 10 false (.mov (.t 1)),og 12 10 false (.call 176 [(.t 11)]),og 13 10 false (.un .not (.t 12)),o 14 (.pick (.t 10) (.k (.bool true)) (.t 13))]) (.cnd (.t 14) (.seq (.reg [o 4 (.mov (.k (.bool false)))]) .ret) .skip)) (.seq (.seq (.reg [o 15 (.mov (.t 0)),o 16 (.len false (.t 15)),o 17 (.mov (.k (.int .i64 0)))]) (.blk 0 (.lop (.seq (.reg [o 18 (.bin .lss (.t 17) (.t 16))]) (.seq (.cnd (.t 18) .skip (.ext 0)) (.seq (.blk 1 (.seq (.reg [o 19 (.mov (.t 17)),o 20 (.iad 1 (.t 15) (.t 17)),o 21 (.ld false 1 (.t 20)),o 5 (.mov (.t 19)),o 6 (.mov (.t 21))]) (.seq (.reg [o 22 (.mov (.t 6)),o 23 (.mov (.t 1)),o 24 (.mov (.t 5)),o 25 (.iad 1 (.t 23) (.t 24)),o 26 (.ld false 1 (.t 25)),o 27 (.bin .gtr (.t 22) (.t 26))]) (.cnd (.t 27) (.seq (.reg [o 4 (.mov (.k (.bool false)))]) .ret) .skip)))) (.reg [o 28 (.bin .add (.t 17) (.k (.int .i64 1))),o 17 (.mov (.t 28))]))))))) (.seq (.reg [o 4 (.mov (.k (.bool true)))]) .ret))))⟩
theorem ir_i_KnowIn:compFn Tryz.prog n_i_KnowIn=some F_i_KnowIn:=by kernel_rfl
abbrev n_s_l05Same:Nat:=171
def F_s_l05Same:Fn1:=⟨26,[.t 4],(.seq (.reg [o 4 (.mov (.k (.bool false)))]) (.seq (.seq (.reg [o 6 (.mov (.t 0)),o 7 (.len false (.t 6)),o 8 (.mov (.t 1)),o 9 (.len false (.t 8)),o 10 (.bin .neq (.t 7) (.t 9))]) (.cnd (.t 10) (.seq (.reg [o 4 (.mov (.k (.bool false)))]) .ret) .skip)) (.seq (.seq (.reg [o 5 (.mov (.k (.int .i64 0)))]) (.blk 0 (.lop (.seq (.seq (.reg [o 11 (.mov (.t 5)),o 12 (.mov (.t 0)),o 13 (.len false (.t 12)),o 14 (.bin .lss (.t 11) (.t 13))]) (.cnd (.t 14) .skip (.ext 0))) (.seq (.blk 1 (.seq (.drw [o 17 (.mov (.t 0)),o 18 (.mov (.t 5)),o 19 (.iad 1 (.t 17) (.t 18)),o 20 (.ld false 1 (.t 19)),o 21 (.mov (.t 1)),o 22 (.mov (.t 5)),o 23 (.iad 1 (.t 21) (.t 22)),o 24 (.ld false 1 (.t 23))] [o 25 (.bin .neq (.t 20) (.t 24))]) (.cnd (.t 25) (.seq (.reg [o 4 (.mov (.k (.bool false)))]) .ret) .skip))) (.reg [o 15 (.mov (.t 5)),o 16 (.bin .add (.t 15) (.k (.int .i64 1))),o 5 (.mov (.t 16))])))))) (.seq (.reg [o 4 (.mov (.k (.bool true)))]) .ret))))⟩
abbrev n_slices_Equal_int_int:Nat:=156
def F_slices_Equal_int_int:Fn1:=⟨26,[.t 4],(.seq (.reg [o 4 (.mov (.k (.bool false)))]) (.seq (.seq (.reg [o 6 (.mov (.t 0)),o 7 (.len false (.t 6)),o 8 (.mov (.t 1)),o 9 (.len false (.t 8)),o 10 (.bin .neq (.t 7) (.t 9))]) (.cnd (.t 10) (.seq (.reg [o 4 (.mov (.k (.bool false)))]) .ret) .skip)) (.seq (.seq (.reg [o 11 (.mov (.t 0)),o 12 (.len false (.t 11)),o 13 (.mov (.k (.int .i64 0)))]) (.blk 0 (.lop (.seq (.reg [o 14 (.bin .lss (.t 13) (.t 12))]) (.seq (.cnd (.t 14) .skip (.ext 0)) (.seq (.blk 1 (.seq (.reg [o 15 (.mov (.t 13)),o 5 (.mov (.t 15))]) (.seq (.drw [o 16 (.mov (.t 0)),o 17 (.mov (.t 5)),o 18 (.iad 1 (.t 16) (.t 17)),o 19 (.ld false 1 (.t 18)),o 20 (.mov (.t 1)),o 21 (.mov (.t 5)),o 22 (.iad 1 (.t 20) (.t 21)),o 23 (.ld false 1 (.t 22))] [o 24 (.bin .neq (.t 19) (.t 23))]) (.cnd (.t 24) (.seq (.reg [o 4 (.mov (.k (.bool false)))]) .ret) .skip)))) (.reg [o 25 (.bin .add (.t 13) (.k (.int .i64 1))),o 13 (.mov (.t 25))]))))))) (.seq (.reg [o 4 (.mov (.k (.bool true)))]) .ret))))⟩
theorem ir_slices_Equal_int_int:compFn Tryz.prog n_slices_Equal_int_int=some F_slices_Equal_int_int:=by kernel_rfl
theorem i_copyInts_ret (σ:St) (v:GV) (l:List Int) (h:RS pI.kd σ v l) (hl:l.length≤1099511627776):∃ r τ,Ret Tryz.prog n_i_copyInts [v] σ r τ∧Hp σ τ [ow pI.kd r l]:=by
 refine ret_hp (rs:=fun r=>[ow pI.kd r l]) ir_i_copyInts (Nat.le_of_ble_eq_true rfl) ?_
 obtain⟨v',τ',e,H⟩:=(Hp.refl σ).nil_int.apps_int 0 rfl (h.pre (pre1 _ _)) (by simp;omega)
 simp +contextual (disch:=omega) only[go_sem,F_i_copyInts,e]
 exact⟨_,rfl,H⟩
def zipK (f:Int→Int→Int) (a b:List Int):List Int:=if okK a&&okK b then List.zipWith f a b else[]
def mx (x y:Int):Int:=if y>x then y else x
def mn (x y:Int):Int:=if y<x then y else x
def kMax (a b:List Int):List Int:=zipK mx a b
def kLe:List Int→List Int→Bool
 |x::xs,y::ys=>decide (x≤y)&&kLe xs ys
 |_,_=>true
theorem kLe_drop {a b:List Int} {i:Nat} (hi:i<a.length) (hj:i<b.length):kLe (a.drop i) (b.drop i)=(decide (a[i]≤b[i])&&kLe (a.drop (i+1)) (b.drop (i+1))):=by
 rw[List.drop_eq_getElem_cons hi,List.drop_eq_getElem_cons hj];rfl
def knowIn (a b:List Int):Bool:=okK a&&(okK b&&kLe a b)
theorem s_KnowIn_ret (σ:St) (v u:GV) (a b:List Int) (ha:RS pI.kd σ v a) (hb:RS pI.kd σ u b) (hla:a.length≤1099511627776) (hlb:b.length≤1099511627776):Ret Tryz.prog n_s_KnowIn [v,u] σ (.bool (knowIn a b)) σ:=by
 refine ret_eq ir_s_KnowIn (Nat.le_of_ble_eq_true rfl) trivial ?_
 simp +contextual (disch:=omega) only[go_sem,F_s_KnowIn]
 refine by_bool (s_KnowOk_ret _ v a ha hla) (fun h1=> ?_) (fun h1=> ?_)
 ·simp +contextual (disch:=omega) only[go_sem]
  refine by_bool (s_KnowOk_ret _ u b hb hlb) (fun h2=> ?_) (fun h2=> ?_)
  ·have la:=okK_len h1
   have lb:=okK_len h2
   simp +contextual (disch:=omega) only[go_sem,knowIn,h1,h2]
   refine vc_for a.length 5 (fun i env τ=>env 0=v∧env 1=u∧kLe (a.drop i) (b.drop i)=kLe a b∧σ <+: τ) rfl ⟨rfl,rfl,rfl,List.prefix_refl _⟩ ?_ ?_
   ·rintro i env τ hi e5 c0 ⟨e0,e1,hk,hp⟩
    have hj:i<b.length:=by omega
    rw[kLe_drop hi hj] at hk
    simp +contextual (disch:=omega) only[go_sem,c0,e0,e1,e5,ha.len,int_at (ha.pre hp) hi,int_at (hb.pre hp) hj,hp]
    grind
   ·rintro env τ e5 c0 ⟨e0,e1,hk,hp⟩
    rw[List.drop_length] at hk
    simp +contextual (disch:=omega) only[go_sem,c0,e0,e1,e5,ha.len,hp]
    rw[← hk];rfl
  ·simp +contextual (disch:=omega) only[go_sem,knowIn,h1,h2]
 ·simp +contextual (disch:=omega) only[go_sem,knowIn,h1]
theorem i_KnowIn_ret (σ:St) (v u:GV) (a b:List Int) (ha:RS pI.kd σ v a) (hb:RS pI.kd σ u b) (hla:a.length≤1099511627776) (hlb:b.length≤1099511627776):Ret Tryz.prog n_i_KnowIn [v,u] σ (.bool (knowIn a b)) σ:=by
 refine ret_eq ir_i_KnowIn (Nat.le_of_ble_eq_true rfl) trivial ?_
 simp +contextual (disch:=omega) only[go_sem,F_i_KnowIn]
 refine by_bool (i_KnowOk_ret _ v a ha hla) (fun h1=> ?_) (fun h1=> ?_)
 ·simp +contextual (disch:=omega) only[go_sem]
  refine by_bool (i_KnowOk_ret _ u b hb hlb) (fun h2=> ?_) (fun h2=> ?_)
  ·have la:=okK_len h1
   have lb:=okK_len h2
   simp +contextual (disch:=omega) only[go_sem,knowIn,h1,h2,ha.len]
   refine vc_for a.length 17 (fun i env τ=>env 1=u∧env 15=v∧env 16=gi a.length∧kLe (a.drop i) (b.drop i)=kLe a b∧σ <+: τ) rfl ⟨rfl,rfl,rfl,rfl,List.prefix_refl _⟩ ?_ ?_
   ·rintro i env τ hi e17 c0 ⟨e1,e15,e16,hk,hp⟩
    have hj:i<b.length:=by omega
    rw[kLe_drop hi hj] at hk
    simp +contextual (disch:=omega) only[go_sem,c0,e1,e15,e16,e17,int_at (ha.pre hp) hi,int_at (hb.pre hp) hj,hp]
    grind
   ·rintro env τ e17 c0 ⟨e1,e15,e16,hk,hp⟩
    rw[List.drop_length] at hk
    simp +contextual (disch:=omega) only[go_sem,c0,e1,e15,e16,e17,hp]
    rw[← hk];rfl
  ·simp +contextual (disch:=omega) only[go_sem,knowIn,h1,h2]
 ·simp +contextual (disch:=omega) only[go_sem,knowIn,h1]
theorem slices_Equal_int_ret (σ:St) (v u:GV) (a b:List Int) (ha:RS pI.kd σ v a) (hb:RS pI.kd σ u b) (hla:a.length≤1099511627776):Ret Tryz.prog n_slices_Equal_int_int [v,u] σ (.bool (decide (a=b))) σ:=by
 refine ret_eq ir_slices_Equal_int_int (Nat.le_of_ble_eq_true rfl) trivial ?_
 simp +contextual (disch:=omega) only[go_sem,F_slices_Equal_int_int,ha.len,hb.len]
 refine⟨fun hn=> ?_,fun hn=> ?_⟩
 ·have:a≠b:=fun h=>by subst h;simp at hn
  simp[this]
 ·have hlm:a.length=b.length:=by
                     have h2:(a.length:Int)=b.length:=by simpa using hn
                     omega
  refine vc_for a.length 13 (fun i env τ=>env 0=v∧env 1=u∧env 12=gi a.length∧a.take i=b.take i∧σ <+: τ) rfl ⟨rfl,rfl,rfl,rfl,List.prefix_refl _⟩ ?_ ?_
  ·rintro i env τ hi e13 c0 ⟨e0,e1,e12,he,hp⟩
   have hj:i<b.length:=by omega
   have hne:a[i]≠b[i]→a≠b:=fun h h'=>h (by subst h';rfl)
   have hst:a[i]=b[i]→a.take (i+1)=b.take (i+1):=fun h=>by rw[take_snoc hi,take_snoc hj,he,h]
   simp +contextual (disch:=omega) only[go_sem,c0,e0,e1,e12,e13,int_at (ha.pre hp) hi,int_at (hb.pre hp) hj,hp]
   refine⟨fun h=> ?_,fun h=> ?_⟩
   ·simp[hne (by simpa using h)]
   ·simpa using hst (by simpa using h)
  ·rintro env τ e13 c0 ⟨e0,e1,e12,he,hp⟩
   rw[List.take_length,hlm,List.take_length] at he
   simp +contextual (disch:=omega) only[go_sem,c0,e0,e1,e12,e13,hp]
   simp[he]
end Go.Proofs.YtbeoiejnogdkpaaGreat.Sy
namespace Go.Proofs.YtbeoiejnogdkpaaGreat.Sy
open Go Go.RowKit
set_option linter.unusedSimpArgs false
set_option linter.unusedVariables false
set_option maxRecDepth 4000
abbrev n_s_CellAt:Nat:=146
def F_s_CellAt:Fn1:=⟨22,[.t 4],(.seq (.reg [o 2 (.box (.t 0)),o 3 (.box (.t 1)),o 4 (.mov (.k (.int .i64 0)))]) (.seq (.seq (.reg [o 5 (.mov (.k (.int .i64 0)))]) (.blk 0 (.lop (.seq (.seq (.reg [o 6 (.mov (.t 5)),o 7 (.fad 3 (.t 2)),o 8 (.ld false 1 (.t 7)),o 9 (.len false (.t 8)),o 10 (.bin .lss (.t 6) (.t 9))]) (.cnd (.t 10) .skip (.ext 0))) (.seq (.blk 1 (.seq (.drw [o 13 (.fad 3 (.t 2)),o 14 (.ld false 1 (.t 13)),o 15 (.mov (.t 5)),o 16 (.iad 8 (.t 14) (.t 15)),o 17 (.fad 1 (.t 16)),o 18 (.ld true 2 (.t 17)),o 19 (.ld true 2 (.t 3))] [o 20 (.eqs false [.i .i64,.i .i64] (.t 18) (.t 19))]) (.cnd (.t 20) (.seq (.reg [o 21 (.mov (.t 5)),o 4 (.mov (.t 21))]) .ret) .skip))) (.reg [o 11 (.mov (.t 5)),o 12 (.bin .add (.t 11) (.k (.int .i64 1))),o 5 (.mov (.t 12))])))))) (.seq (.reg [o 4 (.mov (.k (.int .i64 (-1))))]) .ret)))⟩
abbrev n_i_CellAt:Nat:=158
def F_i_CellAt:Fn1:=⟨9,[.t 4],(.seq (.reg [o 2 (.box (.t 0)),o 3 (.box (.t 1)),o 4 (.mov (.k (.int .i64 0)))]) (.seq (.reg [o 5 (.fad 3 (.t 2)),o 6 (.ld false 1 (.t 5)),o 7 (.mkf 265 [(.t 3)]),o 8 (.call 263 [(.t 6),(.t 7)]),o 4 (.mov (.t 8))]) .ret))⟩
abbrev n_i_CellAt_f1:Nat:=265
def F_i_CellAt_f1:Fn1:=⟨8,[.t 3],(.seq (.reg [o 2 (.box (.t 0)),o 3 (.mov (.k (.bool false)))]) (.seq (.reg [o 4 (.fad 1 (.t 2)),o 5 (.ld true 2 (.t 4)),o 6 (.ld true 2 (.t 1)),o 7 (.eqs false [.i .i64,.i .i64] (.t 5) (.t 6)),o 3 (.mov (.t 7))]) .ret))⟩
abbrev n_slices_IndexFunc_impl_Cell_impl_Cell:Nat:=263
def F_slices_IndexFunc_impl_Cell_impl_Cell:Fn1:=⟨19,[.t 4],(.seq (.reg [o 4 (.mov (.k (.int .i64 0)))]) (.seq (.seq (.reg [o 6 (.mov (.t 0)),o 7 (.len false (.t 6)),o 8 (.mov (.k (.int .i64 0)))]) (.blk 0 (.lop (.seq (.reg [o 9 (.bin .lss (.t 8) (.t 7))]) (.seq (.cnd (.t 9) .skip (.ext 0)) (.seq (.blk 1 (.seq (.reg [o 10 (.mov (.t 8)),o 5 (.mov (.t 10))]) (.seq (.reg [o 11 (.mov (.t 1)),o 12 (.mov (.t 0)),o 13 (.mov (.t 5)),o 14 (.iad 8 (.t 12) (.t 13)),o 15 (.ld true 8 (.t 14)),o 16 (.callv (.t 11) [(.t 15)])]) (.cnd (.t 16) (.seq (.reg [o 17 (.mov (.t 5)),o 4 (.mov (.t 17))]) .ret) .skip)))) (.reg [o 18 (.bin .add (.t 8) (.k (.int .i64 1))),o 8 (.mov (.t 18))]))))))) (.seq (.reg [o 4 (.mov (.k (.int .i64 (-1))))]) .ret)))⟩
abbrev n_i_refsOk:Nat:=288
def F_i_refsOk:Fn1:=⟨63,[.t 2],(.seq (.reg [o 2 (.mov (.k (.bool false)))]) (.seq (.reg [o 10 (.mkm),o 3 (.mov (.t 10))]) (.seq (.seq (.reg [o 11 (.mov (.t 0)),o 12 (.len false (.t 11)),o 13 (.mov (.k (.int .i64 0)))]) (.blk 0 (.lop (.seq (.reg [o 14 (.bin .lss (.t 13) (.t 12))]) (.seq (.cnd (.t 14) .skip (.ext 0)) (.seq (.blk 1 (.seq (.reg [o 15 (.mov (.t 13)),o 16 (.iad 8 (.t 11) (.t 13)),o 17 (.ld true 8 (.t 16)),o 5 (.new [(.str ⟨#[]⟩),(.int .i64 0),(.int .i64 0),(.int .i64 0),(.int .i64 0),(.int .i64 0),(.int .i64 0),(.bool false)]),o 4 (.mov (.t 15)),on (.st 8 (.t 5) (.t 17))]) (.reg [o 18 (.mov (.t 3)),o 19 (.fad 1 (.t 5)),o 20 (.ld true 2 (.t 19)),o 21 (.mov (.t 4)),on (.mup [.i .i64,.i .i64] (.t 18) (.t 20) (.t 21))]))) (.reg [o 22 (.bin .add (.t 13) (.k (.int .i64 1))),o 13 (.mov (.t 22))]))))))) (.seq (.seq (.reg [o 23 (.mov (.t 0)),o 24 (.len false (.t 23)),o 25 (.mov (.k (.int .i64 0)))]) (.blk 2 (.lop (.seq (.reg [o 26 (.bin .lss (.t 25) (.t 24))]) (.seq (.cnd (.t 26) .skip (.ext 2)) (.seq (.blk 3 (.seq (.reg [o 27 (.iad 8 (.t 23) (.t 25)),o 28 (.ld true 8 (.t 27)),o 7 (.new [(.str ⟨#[]⟩),(.int .i64 0),(.int .i64 0),(.int .i64 0),(.int .i64 0),(.int .i64 0),(.int .i64 0),(.bool false)]),on (.st 8 (.t 7) (.t 28))]) (.seq (.seq (.reg [o 29 (.fad 4 (.t 7)),o 30 (.ld true 2 (.t 29)),o 31 (.build [(.int .i64 0),(.int .i64 0)] []),o 32 (.eqs false [.i .i64,.i .i64] (.t 30) (.t 31))]) (.cnd (.t 32) (.ext 3) .skip)) (.seq (.reg [o 34 (.mov (.t 3)),o 35 (.fad 4 (.t 7)),o 36 (.ld true 2 (.t 35)),o 37 (.mlk [.i .i64,.i .i64] (.int .i64 0) true (.t 34) (.t 36)),o 33 (.mov (.t 37)),o 38 (.ext 0 (.t 33)),o 39 (.ext 1 (.t 33)),o 8 (.mov (.t 38)),o 9 (.mov (.t 39))]) (.seq (.drw [o 40 (.mov (.t 9)),o 41 (.un .not (.t 40)),o 42 (.mov (.t 41)),og 43 42 false (.mov (.t 0)),og 44 42 false (.mov (.t 8)),og 45 42 false (.iad 8 (.t 43) (.t 44)),og 46 42 false (.fad 0 (.t 45)),og 47 42 false (.ld false 1 (.t 46)),og 48 42 false (.fad 0 (.t 7)),og 49 42 false (.ld false 1 (.t 48)),og 50 42 false (.bin .neq (.t 47) (.t 49)),o 51 (.pick (.t 42) (.k (.bool true)) (.t 50)),o 52 (.mov (.t 51)),og 53 52 false (.mov (.t 0)),og 54 52 false (.mov (.t 8)),og 55 52 false (.iad 8 (.t 53) (.t 54)),og 56 52 false (.fad 3 (.t 55)),og 57 52 false (.ld false 1 (.t 56)),og 58 52 false (.fad 3 (.t 7)),og 59 52 false (.ld false 1 (.t 58))] [og 60 52 false (.bin .geq (.t 57) (.t 59)),o 61 (.pick (.t 52) (.k (.bool true)) (.t 60))]) (.cnd (.t 61) (.seq (.reg [o 2 (.mov (.k (.bool false)))]) .ret) .skip)))))) (.reg [o 62 (.bin .add (.t 25) (.k (.int .i64 1))),o 25 (.mov (.t 62))]))))))) (.seq (.reg [o 2 (.mov (.k (.bool true)))]) .ret)))))⟩
abbrev n_s_StateOk:Nat:=199
def F_s_StateOk:Fn1:=⟨96,[.t 2],(.seq (.reg [o 1 (.box (.t 0)),o 2 (.mov (.k (.bool false)))]) (.seq (.seq (.reg [o 7 (.fad 0 (.t 1)),o 8 (.ld false 1 (.t 7)),o 9 (.call 167 [(.t 8)]),o 10 (.un .not (.t 9)),o 11 (.mov (.t 10)),og 12 11 false (.fad 1 (.t 1)),og 13 11 false (.ld false 1 (.t 12)),og 14 11 false (.call 290 [(.t 13)]),og 15 11 false (.un .not (.t 14)),o 16 (.pick (.t 11) (.k (.bool true)) (.t 15)),o 17 (.mov (.t 16)),og 18 17 false (.fad 2 (.t 1)),og 19 17 false (.ld false 1 (.t 18)),og 20 17 false (.call 291 [(.t 19)]),og 21 17 false (.un .not (.t 20)),o 22 (.pick (.t 17) (.k (.bool true)) (.t 21)),o 23 (.mov (.t 22)),og 24 23 false (.fad 3 (.t 1)),og 25 23 false (.ld false 1 (.t 24)),og 26 23 false (.call 292 [(.t 25)]),og 27 23 false (.un .not (.t 26)),o 28 (.pick (.t 23) (.k (.bool true)) (.t 27))]) (.cnd (.t 28) (.seq (.reg [o 2 (.mov (.k (.bool false)))]) .ret) .skip)) (.seq (.seq (.reg [o 3 (.mov (.k (.int .i64 0)))]) (.blk 0 (.lop (.seq (.seq (.reg [o 29 (.mov (.t 3)),o 30 (.fad 2 (.t 1)),o 31 (.ld false 1 (.t 30)),o 32 (.len false (.t 31)),o 33 (.bin .lss (.t 29) (.t 32))]) (.cnd (.t 33) .skip (.ext 0))) (.seq (.blk 1 (.seq (.drw [o 36 (.fad 0 (.t 1)),o 37 (.ld false 1 (.t 36)),o 38 (.fad 2 (.t 1)),o 39 (.ld false 1 (.t 38)),o 40 (.mov (.t 3)),o 41 (.iad 6 (.t 39) (.t 40)),o 42 (.fad 4 (.t 41)),o 43 (.ld true 2 (.t 42))] [o 44 (.call 45 [(.t 37),(.t 43)]),o 45 (.un .not (.t 44))]) (.cnd (.t 45) (.seq (.reg [o 2 (.mov (.k (.bool false)))]) .ret) .skip))) (.reg [o 34 (.mov (.t 3)),o 35 (.bin .add (.t 34) (.k (.int .i64 1))),o 3 (.mov (.t 35))])))))) (.seq (.seq (.reg [o 4 (.mov (.k (.int .i64 0)))]) (.blk 2 (.lop (.seq (.seq (.reg [o 46 (.mov (.t 4)),o 47 (.fad 3 (.t 1)),o 48 (.ld false 1 (.t 47)),o 49 (.len false (.t 48)),o 50 (.bin .lss (.t 46) (.t 49))]) (.cnd (.t 50) .skip (.ext 2))) (.seq (.blk 3 (.seq (.reg [o 53 (.fad 3 (.t 1)),o 54 (.ld false 1 (.t 53)),o 55 (.mov (.t 4)),o 56 (.iad 8 (.t 54) (.t 55)),o 57 (.ld true 8 (.t 56)),o 5 (.new [(.str ⟨#[]⟩),(.int .i64 0),(.int .i64 0),(.int .i64 0),(.int .i64 0),(.int .i64 0),(.int .i64 0),(.bool false)]),on (.st 8 (.t 5) (.t 57))]) (.seq (.seq (.reg [o 58 (.fad 0 (.t 1)),o 59 (.ld false 1 (.t 58)),o 60 (.fad 1 (.t 5)),o 61 (.ld true 2 (.t 60)),o 62 (.call 45 [(.t 59),(.t 61)]),o 63 (.un .not (.t 62))]) (.cnd (.t 63) (.seq (.reg [o 2 (.mov (.k (.bool false)))]) .ret) .skip)) (.seq (.seq (.reg [o 64 (.fad 4 (.t 5)),o 65 (.ld true 2 (.t 64)),o 66 (.build [(.int .i64 0),(.int .i64 0)] []),o 67 (.eqs false [.i .i64,.i .i64] (.t 65) (.t 66))]) (.cnd (.t 67) (.ext 3) .skip)) (.seq (.reg [o 68 (.ld true 4 (.t 1)),o 69 (.fad 4 (.t 5)),o 70 (.ld true 2 (.t 69)),o 71 (.call 146 [(.t 68),(.t 70)]),o 6 (.mov (.t 71))]) (.seq (.drw [o 72 (.mov (.t 6)),o 73 (.bin .lss (.t 72) (.k (.int .i64 0))),o 74 (.mov (.t 73)),og 75 74 false (.fad 3 (.t 1)),og 76 74 false (.ld false 1 (.t 75)),og 77 74 false (.mov (.t 6)),og 78 74 false (.iad 8 (.t 76) (.t 77)),og 79 74 false (.fad 0 (.t 78)),og 80 74 false (.ld false 1 (.t 79)),og 81 74 false (.fad 0 (.t 5)),og 82 74 false (.ld false 1 (.t 81)),og 83 74 false (.bin .neq (.t 80) (.t 82)),o 84 (.pick (.t 74) (.k (.bool true)) (.t 83)),o 85 (.mov (.t 84)),og 86 85 false (.fad 3 (.t 1)),og 87 85 false (.ld false 1 (.t 86)),og 88 85 false (.mov (.t 6)),og 89 85 false (.iad 8 (.t 87) (.t 88)),og 90 85 false (.fad 3 (.t 89)),og 91 85 false (.ld false 1 (.t 90)),og 92 85 false (.fad 3 (.t 5)),og 93 85 false (.ld false 1 (.t 92))] [og 94 85 false (.bin .geq (.t 91) (.t 93)),o 95 (.pick (.t 85) (.k (.bool true)) (.t 94))]) (.cnd (.t 95) (.seq (.reg [o 2 (.mov (.k (.bool false)))]) .ret) .skip))))))) (.reg [o 51 (.mov (.t 4)),o 52 (.bin .add (.t 51) (.k (.int .i64 1))),o 4 (.mov (.t 52))])))))) (.seq (.reg [o 2 (.mov (.k (.bool true)))]) .ret)))))⟩
abbrev n_i_StateOk:Nat:=195
def F_i_StateOk:Fn1:=⟨30,[.t 2],(.seq (.reg [o 1 (.box (.t 0)),o 2 (.mov (.k (.bool false)))]) (.seq (.reg [o 3 (.fad 0 (.t 1)),o 4 (.ld false 1 (.t 3)),o 5 (.call 176 [(.t 4)]),o 6 (.mov (.t 5)),og 7 6 true (.fad 1 (.t 1)),og 8 6 true (.ld false 1 (.t 7)),og 9 6 true (.call 285 [(.t 8)]),o 10 (.pick (.t 6) (.t 9) (.k (.bool false))),o 11 (.mov (.t 10)),og 12 11 true (.fad 2 (.t 1)),og 13 11 true (.ld false 1 (.t 12)),og 14 11 true (.fad 0 (.t 1)),og 15 11 true (.ld false 1 (.t 14)),og 16 11 true (.call 286 [(.t 13),(.t 15)]),o 17 (.pick (.t 11) (.t 16) (.k (.bool false))),o 18 (.mov (.t 17)),og 19 18 true (.fad 3 (.t 1)),og 20 18 true (.ld false 1 (.t 19)),og 21 18 true (.fad 0 (.t 1)),og 22 18 true (.ld false 1 (.t 21)),og 23 18 true (.call 287 [(.t 20),(.t 22)]),o 24 (.pick (.t 18) (.t 23) (.k (.bool false))),o 25 (.mov (.t 24)),og 26 25 true (.fad 3 (.t 1)),og 27 25 true (.ld false 1 (.t 26)),og 28 25 true (.call 288 [(.t 27)]),o 29 (.pick (.t 25) (.t 28) (.k (.bool false))),o 2 (.mov (.t 29))]) .ret))⟩
abbrev n_s_l06Copy:Nat:=247
def F_s_l06Copy:Fn1:=⟨20,[.c 2 true 4],(.seq (.reg [o 1 (.box (.t 0)),o 2 (.new [.nilS,.nilS,.nilS,.nilS])]) (.seq (.drw [o 3 (.lit 1 0 [] []),o 4 (.fad 0 (.t 1)),o 5 (.ld false 1 (.t 4)),o 6 (.app 1 8 [(.int .i64 0)] (.t 3) (.t 5)),o 7 (.lit 3 0 [] []),o 8 (.fad 1 (.t 1)),o 9 (.ld false 1 (.t 8)),o 10 (.app 3 32 [(.str ⟨#[]⟩),(.int .i64 0),(.int .i64 0)] (.t 7) (.t 9)),o 11 (.lit 6 0 [] []),o 12 (.fad 2 (.t 1)),o 13 (.ld false 1 (.t 12)),o 14 (.app 6 64 [(.bool false),(.str ⟨#[]⟩),(.str ⟨#[]⟩),(.int .i64 0),(.int .i64 0),(.int .i64 0)] (.t 11) (.t 13)),o 15 (.lit 8 0 [] []),o 16 (.fad 3 (.t 1)),o 17 (.ld false 1 (.t 16))] [o 18 (.app 8 72 [(.str ⟨#[]⟩),(.int .i64 0),(.int .i64 0),(.int .i64 0),(.int .i64 0),(.int .i64 0),(.int .i64 0),(.bool false)] (.t 15) (.t 17)),o 19 (.build [.nilS,.nilS,.nilS,.nilS] [(0,1,(.t 6)),(1,1,(.t 10)),(2,1,(.t 14)),(3,1,(.t 18))]),on (.st 4 (.t 2) (.t 19))]) .ret))⟩
abbrev n_i_copyState:Nat:=255
def F_i_copyState:Fn1:=⟨19,[.c 2 true 4],(.seq (.reg [o 1 (.box (.t 0)),o 2 (.new [.nilS,.nilS,.nilS,.nilS])]) (.seq (.drw [o 3 (.fad 0 (.t 1)),o 4 (.ld false 1 (.t 3)),o 5 (.call 182 [(.t 4)]),o 6 (.lit 3 0 [] []),o 7 (.fad 1 (.t 1)),o 8 (.ld false 1 (.t 7)),o 9 (.app 3 32 [(.str ⟨#[]⟩),(.int .i64 0),(.int .i64 0)] (.t 6) (.t 8)),o 10 (.lit 6 0 [] []),o 11 (.fad 2 (.t 1)),o 12 (.ld false 1 (.t 11)),o 13 (.app 6 64 [(.bool false),(.str ⟨#[]⟩),(.str ⟨#[]⟩),(.int .i64 0),(.int .i64 0),(.int .i64 0)] (.t 10) (.t 12)),o 14 (.lit 8 0 [] []),o 15 (.fad 3 (.t 1)),o 16 (.ld false 1 (.t 15))] [o 17 (.app 8 72 [(.str ⟨#[]⟩),(.int .i64 0),(.int .i64 0),(.int .i64 0),(.int .i64 0),(.int .i64 0),(.int .i64 0),(.bool false)] (.t 14) (.t 16)),o 18 (.build [.nilS,.nilS,.nilS,.nilS] [(0,1,(.t 5)),(1,1,(.t 9)),(2,1,(.t 13)),(3,1,(.t 17))]),on (.st 4 (.t 2) (.t 18))]) .ret))⟩
end Go.Proofs.YtbeoiejnogdkpaaGreat.Sy
namespace Go.Proofs.YtbeoiejnogdkpaaGreat.Sy
open Go Go.RowKit
set_option linter.unusedSimpArgs false
set_option linter.unusedVariables false
set_option maxRecDepth 4000
end Go.Proofs.YtbeoiejnogdkpaaGreat.Sy
namespace Go.Proofs.YtbeoiejnogdkpaaGreat.Sy
open Go Go.RowKit
set_option linter.unusedSimpArgs false
set_option linter.unusedVariables false
@[go_sem] theorem bit_tup {vs:List GV}:(GV.tup vs).bit=none:=(rfl)
def keyed (k:Int):Bool:=inB k 2 5
def valued (k:Int):Bool:=k==1||k==4||k==6
def noS:ByteArray:=⟨#[]⟩
theorem s_Keyed_ret (σ:St) (k:Int):Ret Tryz.prog n_s_l05Keyed [gi k] σ (.bool (keyed k)) σ:=by
 refine ret_eq ir_s_l05Keyed (Nat.le_of_ble_eq_true rfl) trivial ?_
 simp +contextual (disch:=omega) only[go_sem,F_s_l05Keyed]
 refine by_ret (s_l01In_ret _ _ _ _) ?_
 simp +contextual (disch:=omega) only[go_sem,keyed]
theorem i_hasKey_ret (σ:St) (k:Int):Ret Tryz.prog n_i_hasKey [gi k] σ (.bool (keyed k)) σ:=by
 refine ret_eq ir_i_hasKey (Nat.le_of_ble_eq_true rfl) trivial ?_
 simp +contextual (disch:=omega) only[go_sem,F_i_hasKey]
 refine by_ret (i_within_ret _ _ _ _) ?_
 simp +contextual (disch:=omega) only[go_sem,keyed]
theorem s_Valued_ret (σ:St) (k:Int):Ret Tryz.prog n_s_l05Valued [gi k] σ (.bool (valued k)) σ:=by
 refine ret_eq ir_s_l05Valued (Nat.le_of_ble_eq_true rfl) trivial ?_
 simp +contextual (disch:=omega) only[go_sem,F_s_l05Valued,valued]
 grind
theorem i_hasVal_ret (σ:St) (k:Int):Ret Tryz.prog n_i_hasVal [gi k] σ (.bool (valued k)) σ:=by
 refine ret_eq ir_i_hasVal (Nat.le_of_ble_eq_true rfl) trivial ?_
 simp +contextual (disch:=omega) only[go_sem,F_i_hasVal,valued]
 grind
def valOk (kind val:Int):Bool:=val==0||valued kind&&inB val 0 999999
def plainOk (kind:Int) (obj key:ByteArray) (val:Int):Bool:=inB kind 1 7&&(nameOk obj&&((if keyed kind then nameOk key else decide (key=noS))&&valOk kind val))
theorem s_Plain_ret (σ:St) (kind:Int) (obj key:ByteArray) (val:Int) (ho:obj.size≤1099511627776) (hk:key.size≤1099511627776):Ret Tryz.prog n_s_l05Plain [gi kind,.str obj,.str key,gi val] σ (.bool (plainOk kind obj key val)) σ:=by
 refine ret_eq ir_s_l05Plain (Nat.le_of_ble_eq_true rfl) trivial ?_
 simp +contextual (disch:=omega) only[go_sem,F_s_l05Plain]
 refine by_bool (s_l01In_ret _ _ _ _) (fun h1=> ?_) (fun h1=> ?_)
 ·simp +contextual (disch:=omega) only[go_sem]
  refine by_bool (s_NameOk_ret _ obj ho) (fun h2=> ?_) (fun h2=> ?_)
  ·simp +contextual (disch:=omega) only[go_sem]
   refine by_bool (s_Keyed_ret _ _) (fun h3=> ?_) (fun h3=> ?_)
   ·simp +contextual (disch:=omega) only[go_sem]
    refine by_bool (s_NameOk_ret _ key hk) (fun h4=> ?_) (fun h4=> ?_)
    ·simp +contextual (disch:=omega) only[go_sem]
     refine by_bool (s_Keyed_ret _ _) (fun h3=> ?_) (fun h3'=>by rw[h3] at h3';cases h3')
     simp +contextual (disch:=omega) only[go_sem]
     cases hv:(val==0) with
     |true=>simp +contextual (disch:=omega) only[go_sem,plainOk,h1,h2,h3,h4,valOk,hv,Bool.true_or]
     |false=>
      simp +contextual (disch:=omega) only[go_sem,hv]
      refine by_bool (s_Valued_ret _ _) (fun h5=> ?_) (fun h5=> ?_)
      ·simp +contextual (disch:=omega) only[go_sem]
       refine by_ret (s_l01In_ret _ _ _ _) ?_
       simp +contextual (disch:=omega) only[go_sem,plainOk,h1,h2,h3,h4,h5,valOk,hv,Bool.false_or]
      ·simp +contextual (disch:=omega) only[go_sem,plainOk,h1,h2,h3,h4,h5,valOk,hv,Bool.false_or]
    ·simp +contextual (disch:=omega) only[go_sem,plainOk,h1,h2,h3,h4]
   ·simp +contextual (disch:=omega) only[go_sem]
    refine by_bool (s_Keyed_ret _ _) (fun h3'=>by rw[h3] at h3';cases h3') (fun h3=> ?_)
    simp +contextual (disch:=omega) only[go_sem]
    cases hq:decide (key=noS) with
    |false=>
     have hq':decide (key={data:= #[]})=false:=hq
     simp +contextual (disch:=omega) only[go_sem,hq',plainOk,h1,h2,h3,hq]
    |true=>
     have hq':decide (key={data:= #[]})=true:=hq
     simp +contextual (disch:=omega) only[go_sem,hq']
     cases hv:(val==0) with
     |true=>simp +contextual (disch:=omega) only[go_sem,plainOk,h1,h2,h3,hq,valOk,hv,Bool.true_or]
     |false=>
      simp +contextual (disch:=omega) only[go_sem,hv]
      refine by_bool (s_Valued_ret _ _) (fun h5=> ?_) (fun h5=> ?_)
      ·simp +contextual (disch:=omega) only[go_sem]
       refine by_ret (s_l01In_ret _ _ _ _) ?_
       simp +contextual (disch:=omega) only[go_sem,plainOk,h1,h2,h3,hq,h5,valOk,hv,Bool.false_or]
      ·simp +contextual (disch:=omega) only[go_sem,plainOk,h1,h2,h3,hq,h5,valOk,hv,Bool.false_or]
  ·simp +contextual (disch:=omega) only[go_sem,plainOk,h1,h2]
 ·simp +contextual (disch:=omega) only[go_sem,plainOk,h1]
theorem i_wordsOk_ret (σ:St) (kind:Int) (obj key:ByteArray) (val:Int) (ho:obj.size≤1099511627776) (hk:key.size≤1099511627776):Ret Tryz.prog n_i_wordsOk [gi kind,.str obj,.str key,gi val] σ (.bool (plainOk kind obj key val)) σ:=by
 have ne:nameOk noS=false:=by decide
 refine ret_eq ir_i_wordsOk (Nat.le_of_ble_eq_true rfl) trivial ?_
 simp +contextual (disch:=omega) only[go_sem,F_i_wordsOk]
 refine by_bool (i_within_ret _ _ _ _) (fun h1=> ?_) (fun h1=> ?_)
 ·simp +contextual (disch:=omega) only[go_sem]
  refine by_bool (i_NameOk_ret _ obj ho) (fun h2=> ?_) (fun h2=> ?_)
  ·simp +contextual (disch:=omega) only[go_sem]
   cases hq:decide (key=noS) with
   |true=>
    have hq':decide (key={data:= #[]})=true:=hq
    have hkn:nameOk key=false:=by rw[of_decide_eq_true hq];exact ne
    simp +contextual (disch:=omega) only[go_sem,hq']
    refine by_bool (i_hasKey_ret _ _) (fun h3=> ?_) (fun h3=> ?_)
    ·simp +contextual (disch:=omega) only[go_sem]
     refine by_bool (i_NameOk_ret _ key hk) (fun h4=>by rw[hkn] at h4;cases h4) (fun h4=> ?_)
     simp +contextual (disch:=omega) only[go_sem,plainOk,h1,h2,h3,h4]
    ·simp +contextual (disch:=omega) only[go_sem]
     cases hv:(val==0) with
     |true=>simp +contextual (disch:=omega) only[go_sem,plainOk,h1,h2,h3,hq,valOk,hv,Bool.true_or]
     |false=>
      simp +contextual (disch:=omega) only[go_sem,hv]
      refine by_bool (i_hasVal_ret _ _) (fun h5=> ?_) (fun h5=> ?_)
      ·simp +contextual (disch:=omega) only[go_sem]
       refine by_ret (i_within_ret _ _ _ _) ?_
       simp +contextual (disch:=omega) only[go_sem,plainOk,h1,h2,h3,hq,h5,valOk,hv,Bool.false_or]
      ·simp +contextual (disch:=omega) only[go_sem,plainOk,h1,h2,h3,hq,h5,valOk,hv,Bool.false_or]
   |false=>
    have hq':decide (key={data:= #[]})=false:=hq
    simp +contextual (disch:=omega) only[go_sem,hq']
    refine by_bool (i_NameOk_ret _ key hk) (fun h4=> ?_) (fun h4=> ?_)
    ·simp +contextual (disch:=omega) only[go_sem]
     refine by_bool (i_hasKey_ret _ _) (fun h3=> ?_) (fun h3=> ?_)
     ·simp +contextual (disch:=omega) only[go_sem]
      cases hv:(val==0) with
      |true=>simp +contextual (disch:=omega) only[go_sem,plainOk,h1,h2,h3,h4,valOk,hv,Bool.true_or]
      |false=>
       simp +contextual (disch:=omega) only[go_sem,hv]
       refine by_bool (i_hasVal_ret _ _) (fun h5=> ?_) (fun h5=> ?_)
       ·simp +contextual (disch:=omega) only[go_sem]
        refine by_ret (i_within_ret _ _ _ _) ?_
        simp +contextual (disch:=omega) only[go_sem,plainOk,h1,h2,h3,h4,h5,valOk,hv,Bool.false_or]
       ·simp +contextual (disch:=omega) only[go_sem,plainOk,h1,h2,h3,h4,h5,valOk,hv,Bool.false_or]
     ·simp +contextual (disch:=omega) only[go_sem,plainOk,h1,h2,h3,hq]
    ·simp +contextual (disch:=omega) only[go_sem]
     cases h3:keyed kind<;>simp +contextual (disch:=omega) only[go_sem,plainOk,h1,h2,h3,h4,hq]
  ·simp +contextual (disch:=omega) only[go_sem,plainOk,h1,h2]
 ·simp +contextual (disch:=omega) only[go_sem,plainOk,h1]
def d0:Dot:=⟨0,0⟩
def refOk (a:Act):Bool:=if a.kind==7 then knows a.knew a.ref else if a.kind==6 then decide (a.ref=d0)||knows a.knew a.ref else decide (a.ref=d0)
def actHead (a:Act):Bool:=dotOk a.dot&&(okK a.knew&&(decide (at0 a.knew a.dot.rep=a.dot.seq - 1)&&inB a.time 1 10000))
def actOk (a:Act):Bool:=actHead a&&(plainOk a.kind a.obj a.key a.val&&refOk a)
theorem s_ActOk_ret (σ:St) (cs:List GV) (a:Act) (hR:kAct.R σ a cs) (hl:msAct a≤1099511627776):Ret Tryz.prog n_s_ActOk [.agg cs] σ (.bool (actOk a)) σ:=by
 obtain⟨v,rfl,h⟩:=hR
 unfold msAct at hl
 have h1:=h.pre (pre1 σ (some (Blk.row 1 [.int .i64 a.dot.rep,.int .i64 a.dot.seq,.int .i64 a.time,v,.int .i64 a.kind,.str a.obj,.str a.key,.int .i64 a.val,.int .i64 a.ref.rep,.int .i64 a.ref.seq])))
 refine ret_eq ir_s_ActOk (Nat.le_of_ble_eq_true rfl) trivial ?_
 simp +contextual (disch:=omega) only[go_sem,F_s_ActOk]
 refine by_bool (s_DotOk_ret _ a.dot) (fun hd=> ?_) (fun hd=> ?_)
 ·simp +contextual (disch:=omega) only[go_sem]
  refine by_bool (s_KnowOk_ret _ v a.knew h1 (by omega)) (fun hk=> ?_) (fun hk=> ?_)
  ·have hd':=dotOk_iff.1 hd
   have hr:=rep_at h1 hk hd'.1.1 hd'.1.2
   cases he:(at0 a.knew a.dot.rep==a.dot.seq - 1) with
   |false=>
    have he':decide (at0 a.knew a.dot.rep=a.dot.seq - 1)=false:=he
    simp +contextual (disch:=omega) only[go_sem,hr,bne,he,actOk,actHead,hd,hk,he']
   |true=>
    have he':decide (at0 a.knew a.dot.rep=a.dot.seq - 1)=true:=he
    simp +contextual (disch:=omega) only[go_sem,hr,bne,he]
    refine by_bool (s_l01In_ret _ _ _ _) (fun ht=> ?_) (fun ht=> ?_)
    ·have hh:actHead a=true:=by simp only[actHead,hd,hk,he',ht,Bool.and_self]
     simp +contextual (disch:=omega) only[go_sem]
     refine by_bool (s_Plain_ret _ _ _ _ _ (by omega) (by omega)) (fun hp=> ?_) (fun hp=> ?_)
     ·simp +contextual (disch:=omega) only[go_sem]
      cases h7:(a.kind==7) with
      |true=>
       simp +contextual (disch:=omega) only[go_sem,h7]
       refine by_ret (s_Knows_ret _ v a.knew a.ref h1 (by omega)) ?_
       simp +contextual (disch:=omega) only[go_sem,actOk,hh,hp,refOk,h7]
      |false=>
       cases h6:(a.kind==6) with
       |false=>
        simp +contextual (disch:=omega) only[go_sem,h7,h6,actOk,hh,hp,refOk,d0]
        rfl
       |true=>
        simp +contextual (disch:=omega) only[go_sem,h7,h6]
        cases hz:decide (a.ref=d0) with
        |true=>
         have hz':decide (a.ref={rep:=0,seq:=0})=true:=hz
         simp +contextual (disch:=omega) only[go_sem,hz',actOk,hh,hp,refOk,h7,h6,hz,Bool.true_or]
        |false=>
         have hz':decide (a.ref={rep:=0,seq:=0})=false:=hz
         simp +contextual (disch:=omega) only[go_sem,hz']
         refine by_ret (s_Knows_ret _ v a.knew a.ref h1 (by omega)) ?_
         simp +contextual (disch:=omega) only[go_sem,actOk,hh,hp,refOk,h7,h6,hz,Bool.false_or]
     ·simp +contextual (disch:=omega) only[go_sem,actOk,hh,hp]
    ·simp +contextual (disch:=omega) only[go_sem,actOk,actHead,hd,hk,he',ht]
  ·simp +contextual (disch:=omega) only[go_sem,actOk,actHead,hd,hk]
 ·simp +contextual (disch:=omega) only[go_sem,actOk,actHead,hd]
theorem i_ActOk_ret (σ:St) (cs:List GV) (a:Act) (hR:kAct.R σ a cs) (hl:msAct a≤1099511627776):Ret Tryz.prog n_i_ActOk [.agg cs] σ (.bool (actOk a)) σ:=by
 obtain⟨v,rfl,h⟩:=hR
 unfold msAct at hl
 have h1:=h.pre (pre1 σ (some (Blk.row 1 [.int .i64 a.dot.rep,.int .i64 a.dot.seq,.int .i64 a.time,v,.int .i64 a.kind,.str a.obj,.str a.key,.int .i64 a.val,.int .i64 a.ref.rep,.int .i64 a.ref.seq])))
 refine ret_eq ir_i_ActOk (Nat.le_of_ble_eq_true rfl) trivial ?_
 simp +contextual (disch:=omega) only[go_sem,F_i_ActOk]
 refine by_bool (i_DotOk_ret _ a.dot) (fun hd=> ?_) (fun hd=> ?_)
 ·simp +contextual (disch:=omega) only[go_sem]
  refine by_bool (i_KnowOk_ret _ v a.knew h1 (by omega)) (fun hk=> ?_) (fun hk=> ?_)
  ·have hd':=dotOk_iff.1 hd
   have hr:=rep_at h1 hk hd'.1.1 hd'.1.2
   cases he:(at0 a.knew a.dot.rep==a.dot.seq - 1) with
   |false=>
    have he':decide (at0 a.knew a.dot.rep=a.dot.seq - 1)=false:=he
    simp +contextual (disch:=omega) only[go_sem,hr,bne,he,actOk,actHead,hd,hk,he']
   |true=>
    have he':decide (at0 a.knew a.dot.rep=a.dot.seq - 1)=true:=he
    simp +contextual (disch:=omega) only[go_sem,hr,bne,he]
    refine by_bool (i_within_ret _ _ _ _) (fun ht=> ?_) (fun ht=> ?_)
    ·have hh:actHead a=true:=by simp only[actHead,hd,hk,he',ht,Bool.and_self]
     have fin:∀ b:Bool,refOk a=b→actOk a=(plainOk a.kind a.obj a.key a.val&&b):=fun b hb=>by rw[actOk,hh,hb];rfl
     cases h7:(a.kind==7) with
     |true=>
      simp +contextual (disch:=omega) only[go_sem,h7]
      refine by_bool (i_Knows_ret _ v a.knew a.ref h1 (by omega)) (fun hq=> ?_) (fun hq=> ?_)
      ·simp +contextual (disch:=omega) only[go_sem]
       refine by_ret (i_wordsOk_ret _ _ _ _ _ (by omega) (by omega)) ?_
       simp +contextual (disch:=omega) only[go_sem,fin true (by simp[refOk,h7,hq])]
      ·simp +contextual (disch:=omega) only[go_sem,fin false (by simp[refOk,h7,hq])]
     |false=>
      cases h6:(a.kind==6) with
      |false=>
       cases hz:decide (a.ref=d0) with
       |true=>
        have hz':decide (a.ref={rep:=0,seq:=0})=true:=hz
        simp +contextual (disch:=omega) only[go_sem,h7,h6,hz']
        refine by_ret (i_wordsOk_ret _ _ _ _ _ (by omega) (by omega)) ?_
        simp +contextual (disch:=omega) only[go_sem,fin true (by simp[refOk,h7,h6,hz])]
       |false=>
        have hz':decide (a.ref={rep:=0,seq:=0})=false:=hz
        simp +contextual (disch:=omega) only[go_sem,h7,h6,hz',fin false (by simp[refOk,h7,h6,hz])]
      |true=>
       cases hz:decide (a.ref=d0) with
       |true=>
        have hz':decide (a.ref={rep:=0,seq:=0})=true:=hz
        simp +contextual (disch:=omega) only[go_sem,h7,h6,hz']
        refine by_ret (i_wordsOk_ret _ _ _ _ _ (by omega) (by omega)) ?_
        simp +contextual (disch:=omega) only[go_sem,fin true (by simp[refOk,h7,h6,hz])]
       |false=>
        have hz':decide (a.ref={rep:=0,seq:=0})=false:=hz
        simp +contextual (disch:=omega) only[go_sem,h7,h6,hz']
        refine by_bool (i_Knows_ret _ v a.knew a.ref h1 (by omega)) (fun hq=> ?_) (fun hq=> ?_)
        ·simp +contextual (disch:=omega) only[go_sem]
         refine by_ret (i_wordsOk_ret _ _ _ _ _ (by omega) (by omega)) ?_
         simp +contextual (disch:=omega) only[go_sem,fin true (by simp[refOk,h7,h6,hz,hq])]
        ·simp +contextual (disch:=omega) only[go_sem,fin false (by simp[refOk,h7,h6,hz,hq])]
    ·simp +contextual (disch:=omega) only[go_sem,actOk,actHead,hd,hk,he',ht]
  ·simp +contextual (disch:=omega) only[go_sem,actOk,actHead,hd,hk]
 ·simp +contextual (disch:=omega) only[go_sem,actOk,actHead,hd]
end Go.Proofs.YtbeoiejnogdkpaaGreat.Sy
namespace Go.Proofs.YtbeoiejnogdkpaaGreat.Sy
open Go Go.RowKit
set_option linter.unusedSimpArgs false
set_option linter.unusedVariables false
abbrev n_s_Together:Nat:=60
def F_s_Together:Fn1:=⟨34,[.t 4],(.seq (.reg [o 2 (.box (.t 0)),o 3 (.box (.t 1)),o 4 (.mov (.k (.bool false)))]) (.seq (.reg [o 5 (.ld true 10 (.t 2)),o 6 (.call 185 [(.t 5)]),o 7 (.mov (.t 6)),og 8 7 true (.ld true 10 (.t 3)),og 9 7 true (.call 185 [(.t 8)]),o 10 (.pick (.t 7) (.t 9) (.k (.bool false))),o 11 (.mov (.t 10)),og 12 11 true (.fad 0 (.t 2)),og 13 11 true (.ld true 2 (.t 12)),og 14 11 true (.fad 0 (.t 3)),og 15 11 true (.ld true 2 (.t 14)),og 16 11 true (.eqs true [.i .i64,.i .i64] (.t 13) (.t 15)),o 17 (.pick (.t 11) (.t 16) (.k (.bool false))),o 18 (.mov (.t 17)),og 19 18 true (.fad 3 (.t 2)),og 20 18 true (.ld false 1 (.t 19)),og 21 18 true (.fad 0 (.t 3)),og 22 18 true (.ld true 2 (.t 21)),og 23 18 true (.call 45 [(.t 20),(.t 22)]),og 24 18 true (.un .not (.t 23)),o 25 (.pick (.t 18) (.t 24) (.k (.bool false))),o 26 (.mov (.t 25)),og 27 26 true (.fad 3 (.t 3)),og 28 26 true (.ld false 1 (.t 27)),og 29 26 true (.fad 0 (.t 2)),og 30 26 true (.ld true 2 (.t 29)),og 31 26 true (.call 45 [(.t 28),(.t 30)]),og 32 26 true (.un .not (.t 31)),o 33 (.pick (.t 26) (.t 32) (.k (.bool false))),o 4 (.mov (.t 33))]) .ret))⟩
abbrev n_i_Together:Nat:=46
def F_i_Together:Fn1:=⟨34,[.t 4],(.seq (.reg [o 2 (.box (.t 0)),o 3 (.box (.t 1)),o 4 (.mov (.k (.bool false)))]) (.seq (.reg [o 5 (.ld true 10 (.t 2)),o 6 (.call 169 [(.t 5)]),o 7 (.mov (.t 6)),og 8 7 true (.ld true 10 (.t 3)),og 9 7 true (.call 169 [(.t 8)]),o 10 (.pick (.t 7) (.t 9) (.k (.bool false))),o 11 (.mov (.t 10)),og 12 11 true (.fad 0 (.t 2)),og 13 11 true (.ld true 2 (.t 12)),og 14 11 true (.fad 0 (.t 3)),og 15 11 true (.ld true 2 (.t 14)),og 16 11 true (.eqs true [.i .i64,.i .i64] (.t 13) (.t 15)),o 17 (.pick (.t 11) (.t 16) (.k (.bool false))),o 18 (.mov (.t 17)),og 19 18 true (.fad 3 (.t 2)),og 20 18 true (.ld false 1 (.t 19)),og 21 18 true (.fad 0 (.t 3)),og 22 18 true (.ld true 2 (.t 21)),og 23 18 true (.call 170 [(.t 20),(.t 22)]),og 24 18 true (.un .not (.t 23)),o 25 (.pick (.t 18) (.t 24) (.k (.bool false))),o 26 (.mov (.t 25)),og 27 26 true (.fad 3 (.t 3)),og 28 26 true (.ld false 1 (.t 27)),og 29 26 true (.fad 0 (.t 2)),og 30 26 true (.ld true 2 (.t 29)),og 31 26 true (.call 170 [(.t 28),(.t 30)]),og 32 26 true (.un .not (.t 31)),o 33 (.pick (.t 26) (.t 32) (.k (.bool false))),o 4 (.mov (.t 33))]) .ret))⟩
def together (a b:Act):Bool:=actOk a&&(actOk b&&(!decide (a.dot=b.dot)&&(!knows a.knew b.dot&& !knows b.knew a.dot)))
end Go.Proofs.YtbeoiejnogdkpaaGreat.Sy
namespace Go.Proofs.YtbeoiejnogdkpaaGreat.Sy
open Go Go.RowKit
set_option linter.unusedSimpArgs false
set_option linter.unusedVariables false
section
variable {α:Type}
def insB (lt:α→α→Bool) (x:α):List α→List α
 |[]=>[x]
 |k::r=>if lt x k then x::k::r else k::insB lt x r
def insAll (lt:α→α→Bool) (l:List α):List α:=l.foldl (fun acc x=>insB lt x acc) []
theorem insAll_snoc {lt:α→α→Bool} {l:List α} {x:α}:insAll lt (l++[x])=insB lt x (insAll lt l):=by simp[insAll]
theorem insB_perm (lt:α→α→Bool) (x:α):∀ l:List α,(insB lt x l).Perm (x::l)
 |[]=>.refl _
 |k::r=>by
  unfold insB
  split
  ·exact .refl _
  ·exact((insB_perm lt x r).cons k).trans (.swap x k r)
theorem insAll_perm (lt:α→α→Bool) (l:List α):(insAll lt l).Perm l:=by
 have key:∀(l acc:List α),(l.foldl (fun acc x=>insB lt x acc) acc).Perm (acc++l):=by
  intro l
  induction l with
  |nil=>intro acc;simp
  |cons x l ih=>
   intro acc
   simp only[List.foldl_cons]
   refine(ih _).trans ?_
   refine((insB_perm lt x acc).append_right l).trans ?_
   rw[List.cons_append]
   exact List.perm_middle.symm
 have:=key l []
 unfold insAll
 simpa using this
theorem insB_length (lt:α→α→Bool) (x:α) (l:List α):(insB lt x l).length=l.length+1:=(insB_perm lt x l).length_eq
theorem insAll_length (lt:α→α→Bool) (l:List α):(insAll lt l).length=l.length:=(insAll_perm lt l).length_eq
abbrev Up (lt:α→α→Bool) (l:List α):Prop:=l.Pairwise fun a b=>lt b a=false
open Go.Sort (SWO) in
theorem SWO.asym {lt:α→α→Bool} (h:SWO lt) {x y:α} (hxy:lt x y=true):lt y x=false:=by
 cases e:lt y x with
 |false=>rfl
 |true=>have:=h.trans _ _ _ hxy e;rw[h.irrefl] at this;cases this
theorem insB_up {lt:α→α→Bool} (h:Go.Sort.SWO lt) {x:α}:∀ {l:List α},Up lt l→Up lt (insB lt x l)
 |[],_=>by simp[insB]
 |k::r,hl=>by
  obtain⟨h1,h2⟩:=List.pairwise_cons.1 hl
  unfold insB
  split
  ·rename_i hx
   refine List.pairwise_cons.2 ⟨fun y hy=> ?_,hl⟩
   rcases List.mem_cons.1 hy with rfl|hy
   ·exact SWO.asym h hx
   ·have:=h1 y hy
    cases e:lt y x with
    |false=>rfl
    |true=>rw[h.trans _ _ _ e hx] at this;cases this
  ·rename_i hx
   refine List.pairwise_cons.2 ⟨fun y hy=> ?_,insB_up h h2⟩
   rcases List.mem_cons.1 ((insB_perm lt x r).mem_iff.1 hy) with rfl|hy
   ·simpa using hx
   ·exact h1 y hy
theorem insAll_up {lt:α→α→Bool} (h:Go.Sort.SWO lt) (l:List α):Up lt (insAll lt l):=by
 have key:∀(l acc:List α),Up lt acc→Up lt (l.foldl (fun acc x=>insB lt x acc) acc):=by
  intro l
  induction l with
  |nil=>intro acc h;exact h
  |cons x l ih=>intro acc ha;exact ih _ (insB_up h ha)
 exact key l [] .nil
def putU [DecidableEq α] (lt:α→α→Bool) (x:α) (l:List α):List α:=if x∈l then l else insB lt x l
def putAll [DecidableEq α] (lt:α→α→Bool) (l:List α):List α:=l.foldl (fun acc x=>putU lt x acc) []
def compact [DecidableEq α]:List α→List α
 |[]=>[]
 |[x]=>[x]
 |x::y::r=>if x=y then compact (y::r) else x::compact (y::r)
end
def ltI (a b:Int):Bool:=decide (a<b)
end Go.Proofs.YtbeoiejnogdkpaaGreat.Sy
namespace Go.Proofs.YtbeoiejnogdkpaaGreat.Sy
open Go Go.RowKit
set_option linter.unusedSimpArgs false
set_option linter.unusedVariables false
def later (a b:Cell):Bool:=decide (b.time<a.time)||decide (a.time=b.time)&&dotLt b.dot a.dot
def isRef (d:Dot) (c:Cell):Bool:=decide (c.ref=d)
def isObj (o:ByteArray) (c:Cell):Bool:=decide (c.obj=o)
def rowF (sc:List Cell):Nat→Dot→List Cell
 |0,_=>[]
 |f+1,d=>(sc.filter (isRef d)).flatMap fun c=>c::rowF sc f c.dot
def Adq (sc:List Cell):Nat→Dot→Prop
 |0,d=>∀ c∈sc,c.ref≠d
 |f+1,d=>∀ c∈sc,c.ref=d→Adq sc f c.dot
theorem Adq.up {sc:List Cell}:∀ {f:Nat} {d:Dot},Adq sc f d→Adq sc (f+1) d
 |0,d,h=>fun c hc e=>absurd e (h c hc)
 |f+1,d,h=>fun c hc e=>(h c hc e).up
def fuel:Nat:=10001
def rowA (sc:List Cell) (d:Dot):List Cell:=rowF sc fuel d
structure CelR (l:List Cell):Prop where
 nd:(l.map (·.dot)).Nodup
 time:∀ c∈l,1≤c.time∧c.time≤10000
 dot:∀ c∈l,dotOk c.dot=true
 ref:∀ c∈l,c.ref=⟨0,0⟩∨∃ y∈l,y.dot=c.ref∧y.obj=c.obj∧y.time<c.time
 len:l.length≤120
def objC (l:List Cell) (o:ByteArray):List Cell:=insAll later (l.filter (isObj o))
def rowC (s:State) (o:ByteArray):List Cell:=rowA (objC s.cells o) ⟨0,0⟩
def rowL (s:State) (o:ByteArray):List Cell:=if stateOk s then(rowC s o).filter (fun c=> !c.gone) else[]
def rowD (s:State) (o:ByteArray):List Dot:=if stateOk s then(rowC s o).map (·.dot) else[]
end Go.Proofs.YtbeoiejnogdkpaaGreat.Sy
namespace Go.Proofs.YtbeoiejnogdkpaaGreat.Sy
open Go Go.RowKit
set_option linter.unusedSimpArgs false
set_option linter.unusedVariables false
def addM (a b:Int):Int:=(a+b).tmod 1000000
def isTal (obj:ByteArray) (rep:Int) (t:Tally):Bool:=decide (t.obj=obj)&&decide (t.rep=rep)
def talPut (l:List Tally) (obj:ByteArray) (rep val:Int):List Tally:=match l.findIdx? (isTal obj rep) with
 |some i=>l.modify i fun t=>{t with sum:=addM t.sum val}
 |none=>insB tallyLt ⟨obj,rep,val⟩ l
def talPutI (l:List Tally) (obj:ByteArray) (rep val:Int):List Tally:=
 let p:=fun t=>tallyLt t ⟨obj,rep,0⟩
 match l.dropWhile p with
 |[]=>l.takeWhile p++[⟨obj,rep,addM 0 val⟩]
 |r::rr=>if isTal obj rep r then l.takeWhile p++⟨obj,rep,addM r.sum val⟩::rr else l.takeWhile p++⟨obj,rep,addM 0 val⟩::r::rr
def insW {α:Type} (p:α→Bool) (x:α) (l:List α):List α:=l.takeWhile p++x::l.dropWhile p
def insLive (x:Live) (l:List Live):List Live:=insB liveLt x l
def insCell (x:Cell) (l:List Cell):List Cell:=insB cellLt x l
def keepL (m:Bool) (obj key:ByteArray) (knew:List Int) (x:Live):Bool:= !(x.map==m)||(!decide (x.obj=obj)||(!decide (x.key=key)|| !knows knew x.dot))
def goneAt (l:List Cell) (d:Dot):List Cell:=match cellIx l d with
 |some k=>l.modify k fun c=>{c with gone:=true}
 |none=>l
def doKind (s:State) (a:Act):State:=
 if a.kind=1 then {s with tallies:=talPut s.tallies a.obj a.dot.rep a.val}
 else if a.kind=2 then {s with lives:=insLive ⟨false,a.obj,a.key,0,a.dot⟩ s.lives}
 else if a.kind=3 then {s with lives:=s.lives.filter (keepL false a.obj a.key a.knew)}
 else if a.kind=4 then {s with lives:=insLive ⟨true,a.obj,a.key,a.val,a.dot⟩ (s.lives.filter (keepL true a.obj a.key a.knew))}
 else if a.kind=5 then {s with lives:=s.lives.filter (keepL true a.obj a.key a.knew)}
 else if a.kind=6 then {s with cells:=insCell ⟨a.obj,a.dot,a.time,a.ref,a.val,false⟩ s.cells}
 else {s with cells:=goneAt s.cells a.ref}
def doOne (s:State) (a:Act):State:=doKind {s with know:=s.know.set a.dot.rep.toNat a.dot.seq} a
def tooMany (s:State):Bool:=decide (120<s.tallies.length)||(decide (120<s.lives.length)||decide (120<s.cells.length))
def refIn (s:State) (a:Act):Bool:=if a.kind=7∨(a.kind=6∧a.ref≠d0) then(match cellIx s.cells a.ref with
 |some k=>onI s.cells k fun c=>decide (c.obj=a.obj)&&(decide (a.kind=7)||decide (c.time<a.time))
 |none=>false) else true
def doAct (s:State) (a:Act):State×Int:=
 if !(stateOk s&&actOk a) then(s,3) else if knows s.know a.dot then(s,1) else if !knowIn a.knew s.know then(s,2) else if !refIn s a then(s,3) else
 if tooMany (doOne s a) then(s,4) else(doOne s a,0)
end Go.Proofs.YtbeoiejnogdkpaaGreat.Sy
namespace Go.Proofs.YtbeoiejnogdkpaaGreat.Sy
open Go Go.RowKit
set_option linter.unusedSimpArgs false
set_option linter.unusedVariables false
def countF (o:ByteArray) (n:Int) (t:Tally):Int:=if t.obj=o then addM n (t.sum.tmod 1000000) else n
def countOf (s:State) (o:ByteArray):Int:=s.tallies.foldl (countF o) 0
def isLive (m:Bool) (o k:ByteArray) (l:Live):Bool:=(l.map==m)&&(decide (l.obj=o)&&decide (l.key=k))
def livesOf (s:State) (m:Bool) (o k:ByteArray):List Live:=s.lives.filter (isLive m o k)
def isLiveO (m:Bool) (o:ByteArray) (l:Live):Bool:=(l.map==m)&&decide (l.obj=o)
def keysOf (s:State) (m:Bool) (o:ByteArray):List ByteArray:=putAll txLt ((s.lives.filter (isLiveO m o)).map (·.key))
def mapOf (s:State) (o k:ByteArray):List Int:=insAll ltI ((livesOf s true o k).map (·.val))
def rowOf (s:State) (o:ByteArray):List Int:=(rowL s o).map (·.val)
def rowWhose (s:State) (o:ByteArray):List Int:=(rowL s o).map (·.dot.rep)
def livesWhose (s:State) (m:Bool) (o k:ByteArray):List Int:=putAll ltI ((livesOf s m o k).map (·.dot.rep))
theorem filter_snoc' {α:Type} {l:List α} {p:α→Bool} {i:Nat} (hi:i<l.length):(l.take (i+1)).filter p=(l.take i).filter p++(if p l[i] then[l[i]] else[]):=by
 rw[take_snoc hi,List.filter_append]
 congr 1
 cases h:p l[i]<;>simp[h]
theorem filter_take_len {α:Type} (l:List α) (p:α→Bool) (i:Nat):((l.take i).filter p).length≤l.length:=by
 have:=List.length_filter_le p (l.take i)
 rw[List.length_take] at this
 omega
end Go.Proofs.YtbeoiejnogdkpaaGreat.Sy
namespace Go.Proofs.YtbeoiejnogdkpaaGreat.Sy
open Go Go.RowKit
set_option linter.unusedSimpArgs false
set_option linter.unusedVariables false
section
variable {α:Type} {lt:α→α→Bool} {x:α} {acc nxt:List α} {j:Nat} {put:Bool}
def insG (lt:α→α→Bool) (x:α) (acc nxt:List α) (j:Nat) (put:Bool):Prop:=if put then nxt++acc.drop j=insB lt x acc else nxt++insB lt x (acc.drop j)=insB lt x acc
theorem insG_nil:insG lt x acc [] 0 false:=by simp[insG]
theorem insG_len (h:insG lt x acc nxt j put):nxt.length≤acc.length+1:=by
 unfold insG at h
 have:(insB lt x acc).length=acc.length+1:=insB_length lt x acc
 split at h
 ·rw[← this,←h];simp
 ·rw[← this,←h];simp
theorem insG_put (h:insG lt x acc nxt j false) (hj:j<acc.length) (hl:lt x acc[j]=true):insG lt x acc (nxt++[x]++[acc[j]]) (j+1) true:=by
 simp only[insG,Bool.false_eq_true,if_false,if_true] at h ⊢
 rw[List.drop_eq_getElem_cons hj,insB,if_pos hl] at h
 rw[← h];simp
theorem insG_step (h:insG lt x acc nxt j put) (hj:j<acc.length) (hl:put=true∨lt x acc[j]=false):insG lt x acc (nxt++[acc[j]]) (j+1) put:=by
 cases put with
 |true=>
  simp only[insG,if_true] at h ⊢
  rw[List.drop_eq_getElem_cons hj] at h
  rw[← h];simp
 |false=>
  have hl:lt x acc[j]=false:=hl.resolve_left (by intro h;cases h)
  simp only[insG,Bool.false_eq_true,if_false] at h ⊢
  rw[List.drop_eq_getElem_cons hj,insB,if_neg (by rw[hl];simp)] at h
  rw[← h];simp
theorem insG_end (h:insG lt x acc nxt acc.length put):(if put then nxt else nxt++[x])=insB lt x acc:=by
 unfold insG at h
 split
 ·rename_i hp;rw[if_pos hp] at h;simpa using h
 ·rename_i hp;rw[if_neg hp] at h;simpa [insB] using h
theorem insAll_take {l:List α} {p:α→Bool} {i:Nat} (hi:i<l.length):insAll lt ((l.take (i+1)).filter p)=if p l[i] then insB lt l[i] (insAll lt ((l.take i).filter p)) else insAll lt ((l.take i).filter p):=by
 rw[filter_snoc' hi]
 split
 ·rw[insAll_snoc]
 ·simp
theorem insAll_bd {l:List α} {p:α→Bool} {i:Nat}:(insAll lt ((l.take i).filter p)).length≤l.length:=by
 rw[insAll_length];exact filter_take_len l p i
end
def isZ (d:Dot):Bool:=decide (d=⟨0,0⟩)
def selfD (d:Dot):List Dot:=if isZ d then[] else[d]
def stackD (sc:List Cell) (S:List Dot):List Dot:=S.reverse.flatMap fun d=>selfD d++(rowA sc d).map (·.dot)
def stackM (sc:List Cell) (S:List Dot):Nat:=(S.map fun d=>1+(rowA sc d).length).sum
end Go.Proofs.YtbeoiejnogdkpaaGreat.Sy
namespace Go.Proofs.YtbeoiejnogdkpaaGreat.Sy
open Go Go.RowKit
set_option linter.unusedSimpArgs false
set_option linter.unusedVariables false
structure El (α:Type) [Inhabited α] where
 p:Pl α
 g:Bool
 val:α→GV
 hv:∀ x,mkv g (p.enc x)=some (val x)
 hc:∀ x,(val x).cells=p.enc x
 hz:0<p.z
section
variable {α:Type} [Inhabited α] {e:El α} {σ τ:St} {rs:List Thg} {v:GV} {d:Array α}
open Go.Sort (swp)
theorem getBang {j:Nat} (hj:j<d.size):d.toList[j]? =some d[j]! :=by
 rw[getElem!_pos d j hj];simp
theorem El.at (e:El α) (H:Hp σ τ rs) (k:Nat) (hk:rs[k]? =some (ow e.p.kd v d.toList)) {j:Nat} (hj:j<d.size):iadG e.p.z v (some j)=some (atz e.p.z v j)∧ldG e.g e.p.z τ (atz e.p.z v j)=some (e.val d[j]!):=by
 have h:=H.sl k hk
 have hl:j<d.toList.length:=by simpa using hj
 refine⟨RdN.iad h hl,?_⟩
 obtain⟨cs,hR,hs⟩:=RdN.cells h hl
 have e1:cs=e.p.enc d.toList[j]:=hR
 have e2:d.toList[j]=d[j]! :=by
  have:=getBang hj
  rw[List.getElem?_eq_getElem hl] at this
  injection this
 have hlen:=e.p.len d.toList[j]
 have:=hs 0 e.p.z cs (by unfold seg;rw[if_pos (by rw[e1,hlen];omega),List.drop_zero,List.take_of_length_le (by rw[e1,hlen];exact Nat.le_refl _)]) e.g
 rw[fld_zero] at this
 have this:ldG e.g e.p.z τ (atz e.p.z v j)=mkv e.g cs:=this
 rw[this,e1,e.hv,e2]
def Holds (e:El α) (σ0 τ:St) (rs:List Thg) (k:Nat) (v:GV) (d:Array α):Prop:=k<rs.length∧Hp σ0 τ (rs.set k (ow e.p.kd v d.toList))
theorem Holds.of {σ0:St} (H:Hp σ0 τ rs) {k:Nat} (hk:rs[k]? =some (ow e.p.kd v d.toList)):Holds e σ0 τ rs k v d:=by
 obtain⟨h1,h2⟩:=List.getElem?_eq_some_iff.1 hk
 refine⟨h1,?_⟩
 rw[← h2,List.set_getElem_self];exact H
theorem Holds.at {σ0:St} {k:Nat} (h:Holds e σ0 τ rs k v d) {j:Nat} (hj:j<d.size):iadG e.p.z v (some j)=some (atz e.p.z v j)∧ldG e.g e.p.z τ (atz e.p.z v j)=some (e.val d[j]!):=e.at h.2 k (List.getElem?_set_self h.1) hj
theorem Holds.iad {σ0:St} {k:Nat} (h:Holds e σ0 τ rs k v d) {j:Nat} (hj:j<d.size):iadG e.p.z v (some j)=some (atz e.p.z v j):=(h.at hj).1
theorem Holds.ld {σ0:St} {k:Nat} (h:Holds e σ0 τ rs k v d) {j:Nat} (hj:j<d.size):ldG e.g e.p.z τ (atz e.p.z v j)=some (e.val d[j]!):=(h.at hj).2
theorem natOf_of {k:IntKind} {x:Int} {j:Nat} (h:x=(j:Int)):natOf (some (.int k x))=some j:=by rw[h];exact natOf_nat
end
open Go.Sort (bitsLen bitsLen_le_iff)
abbrev len8:ByteArray:=⟨#[0,1,2,2,3,3,3,3,4,4,4,4,4,4,4,4,5,5,5,5,5,5,5,5,5,5,5,5,5,5,5,5,6,6,6,6,6,6,6,6,6,6,6,6,6,6,6,6,6,6,6,6,6,6,6,6,6,6,6,6,6,6,6,6,7,7,7,7,7,7,7,7,7,7,7,7,7,7,7,7,7,7,7,7,7,7,7,7,7,7,7,7,7,7,7,7,7,7,7,7,7,7,7,7,7,7,7,7,7,7,7,7,7,7,7,7,7,7,7,7,7,7,7,7,7,7,7,7,8,8,8,8,8,8,8,8,8,8,8,8,8,8,8,8,8,8,8,8,8,8,8,8,8,8,8,8,8,8,8,8,8,8,8,8,8,8,8,8,8,8,8,8,8,8,8,8,8,8,8,8,8,8,8,8,8,8,8,8,8,8,8,8,8,8,8,8,8,8,8,8,8,8,8,8,8,8,8,8,8,8,8,8,8,8,8,8,8,8,8,8,8,8,8,8,8,8,8,8,8,8,8,8,8,8,8,8,8,8,8,8,8,8,8,8,8,8,8,8,8,8,8,8,8,8,8,8]⟩
end Go.Proofs.YtbeoiejnogdkpaaGreat.Sy
namespace Go.Proofs.YtbeoiejnogdkpaaGreat.Sy
open Go Go.RowKit
set_option linter.unusedVariables false
set_option maxRecDepth 4000
abbrev n_slices_nextPowerOfTwo:Nat:=385
def F_slices_nextPowerOfTwo:Fn1:=⟨7,[.t 2],(.seq (.reg [o 2 (.mov (.k (.int .u64 0)))]) (.seq (.reg [o 3 (.mov (.t 0)),o 4 (.cvi .u64 (.t 3)),o 5 (.call 284 [(.t 4)]),o 6 (.bin .shl (.k (.int .u64 1)) (.t 5)),o 2 (.mov (.t 6))]) .ret))⟩
abbrev n_slices_xorshift_Next:Nat:=386
def F_slices_xorshift_Next:Fn1:=⟨33,[.t 2],(.seq (.reg [o 2 (.mov (.k (.int .u64 0)))]) (.seq (.drw [o 3 (.mov (.t 0)),o 4 (.nck (.t 3)),o 5 (.ld false 1 (.t 4)),o 6 (.mov (.t 0)),o 7 (.nck (.t 6)),o 8 (.ld false 1 (.t 7))] [o 9 (.bin .shl (.t 8) (.k (.int .u64 13))),o 10 (.bin .xor (.t 5) (.t 9)),o 11 (.nck (.t 3)),on (.st 1 (.t 11) (.t 10))]) (.seq (.drw [o 12 (.mov (.t 0)),o 13 (.nck (.t 12)),o 14 (.ld false 1 (.t 13)),o 15 (.mov (.t 0)),o 16 (.nck (.t 15)),o 17 (.ld false 1 (.t 16))] [o 18 (.bin .shr (.t 17) (.k (.int .u64 7))),o 19 (.bin .xor (.t 14) (.t 18)),o 20 (.nck (.t 12)),on (.st 1 (.t 20) (.t 19))]) (.seq (.drw [o 21 (.mov (.t 0)),o 22 (.nck (.t 21)),o 23 (.ld false 1 (.t 22)),o 24 (.mov (.t 0)),o 25 (.nck (.t 24)),o 26 (.ld false 1 (.t 25))] [o 27 (.bin .shl (.t 26) (.k (.int .u64 17))),o 28 (.bin .xor (.t 23) (.t 27)),o 29 (.nck (.t 21)),on (.st 1 (.t 29) (.t 28))]) (.seq (.reg [o 30 (.mov (.t 0)),o 31 (.nck (.t 30)),o 32 (.ld false 1 (.t 31)),o 2 (.mov (.t 32))]) .ret)))))⟩
abbrev n_math_bits_Len:Nat:=284
def F_math_bits_Len:Fn1:=⟨8,[.t 2],(.seq (.reg [o 2 (.mov (.k (.int .i64 0)))]) (.seq (.cnd (.k (.bool false)) (.seq (.reg [o 3 (.mov (.t 0)),o 4 (.cvi .u32 (.t 3)),o 5 (.call 358 [(.t 4)]),o 2 (.mov (.t 5))]) .ret) .skip) (.seq (.reg [o 6 (.mov (.t 0)),o 7 (.call 359 [(.t 6)]),o 2 (.mov (.t 7))]) .ret)))⟩
abbrev n_math_bits_Len64:Nat:=359
def F_math_bits_Len64:Fn1:=⟨25,[.t 2],(.seq (.reg [o 2 (.mov (.k (.int .i64 0)))]) (.seq (.seq (.reg [o 3 (.mov (.t 0)),o 4 (.bin .geq (.t 3) (.k (.int .u64 4294967296)))]) (.cnd (.t 4) (.seq (.reg [o 5 (.mov (.t 0)),o 6 (.bin .shr (.t 5) (.k (.int .u64 32))),o 0 (.mov (.t 6))]) (.reg [o 2 (.mov (.k (.int .i64 32)))])) .skip)) (.seq (.seq (.reg [o 7 (.mov (.t 0)),o 8 (.bin .geq (.t 7) (.k (.int .u64 65536)))]) (.cnd (.t 8) (.seq (.reg [o 9 (.mov (.t 0)),o 10 (.bin .shr (.t 9) (.k (.int .u64 16))),o 0 (.mov (.t 10))]) (.reg [o 11 (.mov (.t 2)),o 12 (.bin .add (.t 11) (.k (.int .i64 16))),o 2 (.mov (.t 12))])) .skip)) (.seq (.seq (.reg [o 13 (.mov (.t 0)),o 14 (.bin .geq (.t 13) (.k (.int .u64 256)))]) (.cnd (.t 14) (.seq (.reg [o 15 (.mov (.t 0)),o 16 (.bin .shr (.t 15) (.k (.int .u64 8))),o 0 (.mov (.t 16))]) (.reg [o 17 (.mov (.t 2)),o 18 (.bin .add (.t 17) (.k (.int .i64 8))),o 2 (.mov (.t 18))])) .skip)) (.seq (.reg [o 19 (.mov (.t 2)),o 20 (.mov (.t 0)),o 21 (.cvi .u8 (.t 20)),o 22 (.idx (.k (.str ⟨#[0,1,2,2,3,3,3,3,4,4,4,4,4,4,4,4,5,5,5,5,5,5,5,5,5,5,5,5,5,5,5,5,6,6,6,6,6,6,6,6,6,6,6,6,6,6,6,6,6,6,6,6,6,6,6,6,6,6,6,6,6,6,6,6,7,7,7,7,7,7,7,7,7,7,7,7,7,7,7,7,7,7,7,7,7,7,7,7,7,7,7,7,7,7,7,7,7,7,7,7,7,7,7,7,7,7,7,7,7,7,7,7,7,7,7,7,7,7,7,7,7,7,7,7,7,7,7,7,8,8,8,8,8,8,8,8,8,8,8,8,8,8,8,8,8,8,8,8,8,8,8,8,8,8,8,8,8,8,8,8,8,8,8,8,8,8,8,8,8,8,8,8,8,8,8,8,8,8,8,8,8,8,8,8,8,8,8,8,8,8,8,8,8,8,8,8,8,8,8,8,8,8,8,8,8,8,8,8,8,8,8,8,8,8,8,8,8,8,8,8,8,8,8,8,8,8,8,8,8,8,8,8,8,8,8,8,8,8,8,8,8,8,8,8,8,8,8,8,8,8,8,8,8,8,8,8]⟩)) (.t 21)),o 23 (.cvi .i64 (.t 22)),o 24 (.bin .add (.t 19) (.t 23)),o 2 (.mov (.t 24))]) .ret)))))⟩
structure SN where
 insertionSort:Nat
 siftDown:Nat
 heapSort:Nat
 reverseRange:Nat
 partialInsertionSort:Nat
 partitionEqual:Nat
 partition:Nat
 breakPatterns:Nat
 order2:Nat
 median:Nat
 medianAdjacent:Nat
 choosePivot:Nat
 pdqsort:Nat
 less:Nat
 slices_nextPowerOfTwo:Nat
 slices_xorshift_Next:Nat
def G_breakPatterns_c (z:Nat) (g:Bool) (q:SN):Fn1:=⟨67,[],(.seq (.reg [o 13 (.mov (.t 2)),o 14 (.mov (.t 1)),o 15 (.bin .sub (.t 13) (.t 14)),o 8 (.mov (.t 15))]) (.seq (.reg [o 16 (.mov (.t 8)),o 17 (.bin .geq (.t 16) (.k (.int .i64 8)))]) (.cnd (.t 17) (.seq (.reg [o 18 (.mov (.t 8)),o 19 (.cvi .u64 (.t 18)),o 9 (.new [(.int .u64 0)]),on (.st 1 (.t 9) (.t 19))]) (.seq (.reg [o 20 (.mov (.t 8)),o 21 (.call q.slices_nextPowerOfTwo [(.t 20)]),o 10 (.mov (.t 21))]) (.seq (.reg [o 22 (.mov (.t 1)),o 23 (.mov (.t 8)),o 24 (.bin .quo (.t 23) (.k (.int .i64 4))),o 25 (.bin .mul (.t 24) (.k (.int .i64 2))),o 26 (.bin .add (.t 22) (.t 25)),o 27 (.bin .sub (.t 26) (.k (.int .i64 1))),o 11 (.mov (.t 27))]) (.blk 0 (.lop (.seq (.seq (.reg [o 28 (.mov (.t 11)),o 29 (.mov (.t 1)),o 30 (.mov (.t 8)),o 31 (.bin .quo (.t 30) (.k (.int .i64 4))),o 32 (.bin .mul (.t 31) (.k (.int .i64 2))),o 33 (.bin .add (.t 29) (.t 32)),o 34 (.bin .add (.t 33) (.k (.int .i64 1))),o 35 (.bin .leq (.t 28) (.t 34))]) (.cnd (.t 35) .skip (.ext 0))) (.seq (.blk 1 (.seq (.reg [o 38 (.call q.slices_xorshift_Next [(.t 9)]),o 39 (.mov (.t 10)),o 40 (.bin .sub (.t 39) (.k (.int .u64 1))),o 41 (.bin .and (.t 38) (.t 40)),o 42 (.cvi .i64 (.t 41)),o 12 (.mov (.t 42))]) (.seq (.seq (.reg [o 43 (.mov (.t 12)),o 44 (.mov (.t 8)),o 45 (.bin .geq (.t 43) (.t 44))]) (.cnd (.t 45) (.reg [o 46 (.mov (.t 12)),o 47 (.mov (.t 8)),o 48 (.bin .sub (.t 46) (.t 47)),o 12 (.mov (.t 48))]) .skip)) (.drw [o 49 (.mov (.t 0)),o 50 (.mov (.t 11)),o 51 (.mov (.t 0)),o 52 (.mov (.t 1)),o 53 (.mov (.t 12)),o 54 (.bin .add (.t 52) (.t 53)),o 55 (.mov (.t 0)),o 56 (.mov (.t 1)),o 57 (.mov (.t 12)),o 58 (.bin .add (.t 56) (.t 57)),o 59 (.iad z (.t 55) (.t 58)),o 60 (.ld g z (.t 59)),o 61 (.mov (.t 0)),o 62 (.mov (.t 11)),o 63 (.iad z (.t 61) (.t 62)),o 64 (.ld g z (.t 63))] [o 65 (.iad z (.t 49) (.t 50)),on (.st z (.t 65) (.t 60)),o 66 (.iad z (.t 51) (.t 54)),on (.st z (.t 66) (.t 64))])))) (.reg [o 36 (.mov (.t 11)),o 37 (.bin .add (.t 36) (.k (.int .i64 1))),o 11 (.mov (.t 37))])))))))) .skip)))⟩
def G_breakPatterns_o (z:Nat) (g:Bool) (q:SN):Fn1:=⟨65,[],(.seq (.reg [o 11 (.mov (.t 2)),o 12 (.mov (.t 1)),o 13 (.bin .sub (.t 11) (.t 12)),o 6 (.mov (.t 13))]) (.seq (.reg [o 14 (.mov (.t 6)),o 15 (.bin .geq (.t 14) (.k (.int .i64 8)))]) (.cnd (.t 15) (.seq (.reg [o 16 (.mov (.t 6)),o 17 (.cvi .u64 (.t 16)),o 7 (.new [(.int .u64 0)]),on (.st 1 (.t 7) (.t 17))]) (.seq (.reg [o 18 (.mov (.t 6)),o 19 (.call q.slices_nextPowerOfTwo [(.t 18)]),o 8 (.mov (.t 19))]) (.seq (.reg [o 20 (.mov (.t 1)),o 21 (.mov (.t 6)),o 22 (.bin .quo (.t 21) (.k (.int .i64 4))),o 23 (.bin .mul (.t 22) (.k (.int .i64 2))),o 24 (.bin .add (.t 20) (.t 23)),o 25 (.bin .sub (.t 24) (.k (.int .i64 1))),o 9 (.mov (.t 25))]) (.blk 0 (.lop (.seq (.seq (.reg [o 26 (.mov (.t 9)),o 27 (.mov (.t 1)),o 28 (.mov (.t 6)),o 29 (.bin .quo (.t 28) (.k (.int .i64 4))),o 30 (.bin .mul (.t 29) (.k (.int .i64 2))),o 31 (.bin .add (.t 27) (.t 30)),o 32 (.bin .add (.t 31) (.k (.int .i64 1))),o 33 (.bin .leq (.t 26) (.t 32))]) (.cnd (.t 33) .skip (.ext 0))) (.seq (.blk 1 (.seq (.reg [o 36 (.call q.slices_xorshift_Next [(.t 7)]),o 37 (.mov (.t 8)),o 38 (.bin .sub (.t 37) (.k (.int .u64 1))),o 39 (.bin .and (.t 36) (.t 38)),o 40 (.cvi .i64 (.t 39)),o 10 (.mov (.t 40))]) (.seq (.seq (.reg [o 41 (.mov (.t 10)),o 42 (.mov (.t 6)),o 43 (.bin .geq (.t 41) (.t 42))]) (.cnd (.t 43) (.reg [o 44 (.mov (.t 10)),o 45 (.mov (.t 6)),o 46 (.bin .sub (.t 44) (.t 45)),o 10 (.mov (.t 46))]) .skip)) (.drw [o 47 (.mov (.t 0)),o 48 (.mov (.t 9)),o 49 (.mov (.t 0)),o 50 (.mov (.t 1)),o 51 (.mov (.t 10)),o 52 (.bin .add (.t 50) (.t 51)),o 53 (.mov (.t 0)),o 54 (.mov (.t 1)),o 55 (.mov (.t 10)),o 56 (.bin .add (.t 54) (.t 55)),o 57 (.iad z (.t 53) (.t 56)),o 58 (.ld g z (.t 57)),o 59 (.mov (.t 0)),o 60 (.mov (.t 9)),o 61 (.iad z (.t 59) (.t 60)),o 62 (.ld g z (.t 61))] [o 63 (.iad z (.t 47) (.t 48)),on (.st z (.t 63) (.t 58)),o 64 (.iad z (.t 49) (.t 52)),on (.st z (.t 64) (.t 62))])))) (.reg [o 34 (.mov (.t 9)),o 35 (.bin .add (.t 34) (.k (.int .i64 1))),o 9 (.mov (.t 35))])))))))) .skip)))⟩
def G_choosePivot_c (z:Nat) (g:Bool) (q:SN):Fn1:=⟨63,[.t 8,.t 9],(.seq (.reg [o 8 (.mov (.k (.int .i64 0))),o 9 (.mov (.k (.int .i64 0)))]) (.seq (.reg [o 15 (.mov (.t 2)),o 16 (.mov (.t 1)),o 17 (.bin .sub (.t 15) (.t 16)),o 10 (.mov (.t 17))]) (.seq (.reg [o 11 (.new [(.int .i64 0)])]) (.seq (.reg [o 18 (.mov (.t 1)),o 19 (.mov (.t 10)),o 20 (.bin .quo (.t 19) (.k (.int .i64 4))),o 21 (.bin .mul (.t 20) (.k (.int .i64 1))),o 22 (.bin .add (.t 18) (.t 21)),o 12 (.mov (.t 22))]) (.seq (.reg [o 23 (.mov (.t 1)),o 24 (.mov (.t 10)),o 25 (.bin .quo (.t 24) (.k (.int .i64 4))),o 26 (.bin .mul (.t 25) (.k (.int .i64 2))),o 27 (.bin .add (.t 23) (.t 26)),o 13 (.mov (.t 27))]) (.seq (.reg [o 28 (.mov (.t 1)),o 29 (.mov (.t 10)),o 30 (.bin .quo (.t 29) (.k (.int .i64 4))),o 31 (.bin .mul (.t 30) (.k (.int .i64 3))),o 32 (.bin .add (.t 28) (.t 31)),o 14 (.mov (.t 32))]) (.seq (.seq (.reg [o 33 (.mov (.t 10)),o 34 (.bin .geq (.t 33) (.k (.int .i64 8)))]) (.cnd (.t 34) (.seq (.seq (.reg [o 35 (.mov (.t 10)),o 36 (.bin .geq (.t 35) (.k (.int .i64 50)))]) (.cnd (.t 36) (.seq (.reg [o 37 (.mov (.t 0)),o 38 (.mov (.t 12)),o 39 (.mov (.t 3)),o 40 (.call q.medianAdjacent [(.t 37),(.t 38),(.t 11),(.t 39)]),o 12 (.mov (.t 40))]) (.seq (.reg [o 41 (.mov (.t 0)),o 42 (.mov (.t 13)),o 43 (.mov (.t 3)),o 44 (.call q.medianAdjacent [(.t 41),(.t 42),(.t 11),(.t 43)]),o 13 (.mov (.t 44))]) (.reg [o 45 (.mov (.t 0)),o 46 (.mov (.t 14)),o 47 (.mov (.t 3)),o 48 (.call q.medianAdjacent [(.t 45),(.t 46),(.t 11),(.t 47)]),o 14 (.mov (.t 48))]))) .skip)) (.reg [o 49 (.mov (.t 0)),o 50 (.mov (.t 12)),o 51 (.mov (.t 13)),o 52 (.mov (.t 14)),o 53 (.mov (.t 3)),o 54 (.call q.median [(.t 49),(.t 50),(.t 51),(.t 52),(.t 11),(.t 53)]),o 13 (.mov (.t 54))])) .skip)) (.seq (.reg [o 55 (.ld false 1 (.t 11))]) (.blk 0 (.seq (.reg [o 58 (.bin .eql (.t 55) (.k (.int .i64 0))),o 57 (.mov (.t 58))]) (.cnd (.t 57) (.seq (.reg [o 59 (.mov (.t 13)),o 8 (.mov (.t 59)),o 9 (.mov (.k (.int .i64 1)))]) .ret) (.seq (.reg [o 61 (.bin .eql (.t 55) (.k (.int .i64 12))),o 60 (.mov (.t 61))]) (.cnd (.t 60) (.seq (.reg [o 62 (.mov (.t 13)),o 8 (.mov (.t 62)),o 9 (.mov (.k (.int .i64 2)))]) .ret) (.seq (.reg [o 56 (.mov (.t 13)),o 8 (.mov (.t 56)),o 9 (.mov (.k (.int .i64 0)))]) .ret))))))))))))))⟩
def G_choosePivot_o (z:Nat) (g:Bool) (q:SN):Fn1:=⟨57,[.t 6,.t 7],(.seq (.reg [o 6 (.mov (.k (.int .i64 0))),o 7 (.mov (.k (.int .i64 0)))]) (.seq (.reg [o 13 (.mov (.t 2)),o 14 (.mov (.t 1)),o 15 (.bin .sub (.t 13) (.t 14)),o 8 (.mov (.t 15))]) (.seq (.reg [o 9 (.new [(.int .i64 0)])]) (.seq (.reg [o 16 (.mov (.t 1)),o 17 (.mov (.t 8)),o 18 (.bin .quo (.t 17) (.k (.int .i64 4))),o 19 (.bin .mul (.t 18) (.k (.int .i64 1))),o 20 (.bin .add (.t 16) (.t 19)),o 10 (.mov (.t 20))]) (.seq (.reg [o 21 (.mov (.t 1)),o 22 (.mov (.t 8)),o 23 (.bin .quo (.t 22) (.k (.int .i64 4))),o 24 (.bin .mul (.t 23) (.k (.int .i64 2))),o 25 (.bin .add (.t 21) (.t 24)),o 11 (.mov (.t 25))]) (.seq (.reg [o 26 (.mov (.t 1)),o 27 (.mov (.t 8)),o 28 (.bin .quo (.t 27) (.k (.int .i64 4))),o 29 (.bin .mul (.t 28) (.k (.int .i64 3))),o 30 (.bin .add (.t 26) (.t 29)),o 12 (.mov (.t 30))]) (.seq (.seq (.reg [o 31 (.mov (.t 8)),o 32 (.bin .geq (.t 31) (.k (.int .i64 8)))]) (.cnd (.t 32) (.seq (.seq (.reg [o 33 (.mov (.t 8)),o 34 (.bin .geq (.t 33) (.k (.int .i64 50)))]) (.cnd (.t 34) (.seq (.reg [o 35 (.mov (.t 0)),o 36 (.mov (.t 10)),o 37 (.call q.medianAdjacent [(.t 35),(.t 36),(.t 9)]),o 10 (.mov (.t 37))]) (.seq (.reg [o 38 (.mov (.t 0)),o 39 (.mov (.t 11)),o 40 (.call q.medianAdjacent [(.t 38),(.t 39),(.t 9)]),o 11 (.mov (.t 40))]) (.reg [o 41 (.mov (.t 0)),o 42 (.mov (.t 12)),o 43 (.call q.medianAdjacent [(.t 41),(.t 42),(.t 9)]),o 12 (.mov (.t 43))]))) .skip)) (.reg [o 44 (.mov (.t 0)),o 45 (.mov (.t 10)),o 46 (.mov (.t 11)),o 47 (.mov (.t 12)),o 48 (.call q.median [(.t 44),(.t 45),(.t 46),(.t 47),(.t 9)]),o 11 (.mov (.t 48))])) .skip)) (.seq (.reg [o 49 (.ld false 1 (.t 9))]) (.blk 0 (.seq (.reg [o 52 (.bin .eql (.t 49) (.k (.int .i64 0))),o 51 (.mov (.t 52))]) (.cnd (.t 51) (.seq (.reg [o 53 (.mov (.t 11)),o 6 (.mov (.t 53)),o 7 (.mov (.k (.int .i64 1)))]) .ret) (.seq (.reg [o 55 (.bin .eql (.t 49) (.k (.int .i64 12))),o 54 (.mov (.t 55))]) (.cnd (.t 54) (.seq (.reg [o 56 (.mov (.t 11)),o 6 (.mov (.t 56)),o 7 (.mov (.k (.int .i64 2)))]) .ret) (.seq (.reg [o 50 (.mov (.t 11)),o 6 (.mov (.t 50)),o 7 (.mov (.k (.int .i64 0)))]) .ret))))))))))))))⟩
def G_heapSort_c (z:Nat) (g:Bool) (q:SN):Fn1:=⟨60,[],(.seq (.reg [o 13 (.mov (.t 1)),o 8 (.mov (.t 13))]) (.seq (.reg [o 9 (.mov (.k (.int .i64 0)))]) (.seq (.reg [o 14 (.mov (.t 2)),o 15 (.mov (.t 1)),o 16 (.bin .sub (.t 14) (.t 15)),o 10 (.mov (.t 16))]) (.seq (.seq (.reg [o 17 (.mov (.t 10)),o 18 (.bin .sub (.t 17) (.k (.int .i64 1))),o 19 (.bin .quo (.t 18) (.k (.int .i64 2))),o 11 (.mov (.t 19))]) (.blk 0 (.lop (.seq (.seq (.reg [o 20 (.mov (.t 11)),o 21 (.bin .geq (.t 20) (.k (.int .i64 0)))]) (.cnd (.t 21) .skip (.ext 0))) (.seq (.blk 1 (.reg [o 24 (.mov (.t 0)),o 25 (.mov (.t 11)),o 26 (.mov (.t 10)),o 27 (.mov (.t 8)),o 28 (.mov (.t 3)),o 29 (.call q.siftDown [(.t 24),(.t 25),(.t 26),(.t 27),(.t 28)])])) (.reg [o 22 (.mov (.t 11)),o 23 (.bin .sub (.t 22) (.k (.int .i64 1))),o 11 (.mov (.t 23))])))))) (.seq (.reg [o 30 (.mov (.t 10)),o 31 (.bin .sub (.t 30) (.k (.int .i64 1))),o 12 (.mov (.t 31))]) (.blk 2 (.lop (.seq (.seq (.reg [o 32 (.mov (.t 12)),o 33 (.bin .geq (.t 32) (.k (.int .i64 0)))]) (.cnd (.t 33) .skip (.ext 2))) (.seq (.blk 3 (.seq (.drw [o 36 (.mov (.t 0)),o 37 (.mov (.t 8)),o 38 (.mov (.t 0)),o 39 (.mov (.t 8)),o 40 (.mov (.t 12)),o 41 (.bin .add (.t 39) (.t 40)),o 42 (.mov (.t 0)),o 43 (.mov (.t 8)),o 44 (.mov (.t 12)),o 45 (.bin .add (.t 43) (.t 44)),o 46 (.iad z (.t 42) (.t 45)),o 47 (.ld g z (.t 46)),o 48 (.mov (.t 0)),o 49 (.mov (.t 8)),o 50 (.iad z (.t 48) (.t 49)),o 51 (.ld g z (.t 50))] [o 52 (.iad z (.t 36) (.t 37)),on (.st z (.t 52) (.t 47)),o 53 (.iad z (.t 38) (.t 41)),on (.st z (.t 53) (.t 51))]) (.reg [o 54 (.mov (.t 0)),o 55 (.mov (.t 9)),o 56 (.mov (.t 12)),o 57 (.mov (.t 8)),o 58 (.mov (.t 3)),o 59 (.call q.siftDown [(.t 54),(.t 55),(.t 56),(.t 57),(.t 58)])]))) (.reg [o 34 (.mov (.t 12)),o 35 (.bin .sub (.t 34) (.k (.int .i64 1))),o 12 (.mov (.t 35))]))))))))))⟩
def G_heapSort_o (z:Nat) (g:Bool) (q:SN):Fn1:=⟨56,[],(.seq (.reg [o 11 (.mov (.t 1)),o 6 (.mov (.t 11))]) (.seq (.reg [o 7 (.mov (.k (.int .i64 0)))]) (.seq (.reg [o 12 (.mov (.t 2)),o 13 (.mov (.t 1)),o 14 (.bin .sub (.t 12) (.t 13)),o 8 (.mov (.t 14))]) (.seq (.seq (.reg [o 15 (.mov (.t 8)),o 16 (.bin .sub (.t 15) (.k (.int .i64 1))),o 17 (.bin .quo (.t 16) (.k (.int .i64 2))),o 9 (.mov (.t 17))]) (.blk 0 (.lop (.seq (.seq (.reg [o 18 (.mov (.t 9)),o 19 (.bin .geq (.t 18) (.k (.int .i64 0)))]) (.cnd (.t 19) .skip (.ext 0))) (.seq (.blk 1 (.reg [o 22 (.mov (.t 0)),o 23 (.mov (.t 9)),o 24 (.mov (.t 8)),o 25 (.mov (.t 6)),o 26 (.call q.siftDown [(.t 22),(.t 23),(.t 24),(.t 25)])])) (.reg [o 20 (.mov (.t 9)),o 21 (.bin .sub (.t 20) (.k (.int .i64 1))),o 9 (.mov (.t 21))])))))) (.seq (.reg [o 27 (.mov (.t 8)),o 28 (.bin .sub (.t 27) (.k (.int .i64 1))),o 10 (.mov (.t 28))]) (.blk 2 (.lop (.seq (.seq (.reg [o 29 (.mov (.t 10)),o 30 (.bin .geq (.t 29) (.k (.int .i64 0)))]) (.cnd (.t 30) .skip (.ext 2))) (.seq (.blk 3 (.seq (.drw [o 33 (.mov (.t 0)),o 34 (.mov (.t 6)),o 35 (.mov (.t 0)),o 36 (.mov (.t 6)),o 37 (.mov (.t 10)),o 38 (.bin .add (.t 36) (.t 37)),o 39 (.mov (.t 0)),o 40 (.mov (.t 6)),o 41 (.mov (.t 10)),o 42 (.bin .add (.t 40) (.t 41)),o 43 (.iad z (.t 39) (.t 42)),o 44 (.ld g z (.t 43)),o 45 (.mov (.t 0)),o 46 (.mov (.t 6)),o 47 (.iad z (.t 45) (.t 46)),o 48 (.ld g z (.t 47))] [o 49 (.iad z (.t 33) (.t 34)),on (.st z (.t 49) (.t 44)),o 50 (.iad z (.t 35) (.t 38)),on (.st z (.t 50) (.t 48))]) (.reg [o 51 (.mov (.t 0)),o 52 (.mov (.t 7)),o 53 (.mov (.t 10)),o 54 (.mov (.t 6)),o 55 (.call q.siftDown [(.t 51),(.t 52),(.t 53),(.t 54)])]))) (.reg [o 31 (.mov (.t 10)),o 32 (.bin .sub (.t 31) (.k (.int .i64 1))),o 10 (.mov (.t 32))]))))))))))⟩
def G_insertionSort_c (z:Nat) (g:Bool) (q:SN):Fn1:=⟨53,[],(.seq (.reg [o 10 (.mov (.t 1)),o 11 (.bin .add (.t 10) (.k (.int .i64 1))),o 8 (.mov (.t 11))]) (.blk 0 (.lop (.seq (.seq (.reg [o 12 (.mov (.t 8)),o 13 (.mov (.t 2)),o 14 (.bin .lss (.t 12) (.t 13))]) (.cnd (.t 14) .skip (.ext 0))) (.seq (.blk 1 (.seq (.reg [o 17 (.mov (.t 8)),o 9 (.mov (.t 17))]) (.blk 2 (.lop (.seq (.seq (.drw [o 18 (.mov (.t 9)),o 19 (.mov (.t 1)),o 20 (.bin .gtr (.t 18) (.t 19)),o 21 (.mov (.t 20)),og 22 21 true (.mov (.t 3)),og 23 21 true (.mov (.t 0)),og 24 21 true (.mov (.t 9)),og 25 21 true (.iad z (.t 23) (.t 24)),og 26 21 true (.ld g z (.t 25)),og 27 21 true (.mov (.t 0)),og 28 21 true (.mov (.t 9)),og 29 21 true (.bin .sub (.t 28) (.k (.int .i64 1))),og 30 21 true (.iad z (.t 27) (.t 29)),og 31 21 true (.ld g z (.t 30))] [og 32 21 true (.callv (.t 22) [(.t 26),(.t 31)]),og 33 21 true (.bin .lss (.t 32) (.k (.int .i64 0))),o 34 (.pick (.t 21) (.t 33) (.k (.bool false)))]) (.cnd (.t 34) .skip (.ext 2))) (.seq (.blk 3 (.drw [o 37 (.mov (.t 0)),o 38 (.mov (.t 9)),o 39 (.mov (.t 0)),o 40 (.mov (.t 9)),o 41 (.bin .sub (.t 40) (.k (.int .i64 1))),o 42 (.mov (.t 0)),o 43 (.mov (.t 9)),o 44 (.bin .sub (.t 43) (.k (.int .i64 1))),o 45 (.iad z (.t 42) (.t 44)),o 46 (.ld g z (.t 45)),o 47 (.mov (.t 0)),o 48 (.mov (.t 9)),o 49 (.iad z (.t 47) (.t 48)),o 50 (.ld g z (.t 49))] [o 51 (.iad z (.t 37) (.t 38)),on (.st z (.t 51) (.t 46)),o 52 (.iad z (.t 39) (.t 41)),on (.st z (.t 52) (.t 50))])) (.reg [o 35 (.mov (.t 9)),o 36 (.bin .sub (.t 35) (.k (.int .i64 1))),o 9 (.mov (.t 36))]))))))) (.reg [o 15 (.mov (.t 8)),o 16 (.bin .add (.t 15) (.k (.int .i64 1))),o 8 (.mov (.t 16))]))))))⟩
def G_insertionSort_o (z:Nat) (g:Bool) (q:SN):Fn1:=⟨49,[],(.seq (.reg [o 8 (.mov (.t 1)),o 9 (.bin .add (.t 8) (.k (.int .i64 1))),o 6 (.mov (.t 9))]) (.blk 0 (.lop (.seq (.seq (.reg [o 10 (.mov (.t 6)),o 11 (.mov (.t 2)),o 12 (.bin .lss (.t 10) (.t 11))]) (.cnd (.t 12) .skip (.ext 0))) (.seq (.blk 1 (.seq (.reg [o 15 (.mov (.t 6)),o 7 (.mov (.t 15))]) (.blk 2 (.lop (.seq (.seq (.drw [o 16 (.mov (.t 7)),o 17 (.mov (.t 1)),o 18 (.bin .gtr (.t 16) (.t 17)),o 19 (.mov (.t 18)),og 20 19 true (.mov (.t 0)),og 21 19 true (.mov (.t 7)),og 22 19 true (.iad z (.t 20) (.t 21)),og 23 19 true (.ld g z (.t 22)),og 24 19 true (.mov (.t 0)),og 25 19 true (.mov (.t 7)),og 26 19 true (.bin .sub (.t 25) (.k (.int .i64 1))),og 27 19 true (.iad z (.t 24) (.t 26)),og 28 19 true (.ld g z (.t 27))] [og 29 19 true (.call q.less [(.t 23),(.t 28)]),o 30 (.pick (.t 19) (.t 29) (.k (.bool false)))]) (.cnd (.t 30) .skip (.ext 2))) (.seq (.blk 3 (.drw [o 33 (.mov (.t 0)),o 34 (.mov (.t 7)),o 35 (.mov (.t 0)),o 36 (.mov (.t 7)),o 37 (.bin .sub (.t 36) (.k (.int .i64 1))),o 38 (.mov (.t 0)),o 39 (.mov (.t 7)),o 40 (.bin .sub (.t 39) (.k (.int .i64 1))),o 41 (.iad z (.t 38) (.t 40)),o 42 (.ld g z (.t 41)),o 43 (.mov (.t 0)),o 44 (.mov (.t 7)),o 45 (.iad z (.t 43) (.t 44)),o 46 (.ld g z (.t 45))] [o 47 (.iad z (.t 33) (.t 34)),on (.st z (.t 47) (.t 42)),o 48 (.iad z (.t 35) (.t 37)),on (.st z (.t 48) (.t 46))])) (.reg [o 31 (.mov (.t 7)),o 32 (.bin .sub (.t 31) (.k (.int .i64 1))),o 7 (.mov (.t 32))]))))))) (.reg [o 13 (.mov (.t 6)),o 14 (.bin .add (.t 13) (.k (.int .i64 1))),o 6 (.mov (.t 14))]))))))⟩
def G_median_c (z:Nat) (g:Bool) (q:SN):Fn1:=⟨41,[.t 12],(.seq (.reg [o 12 (.mov (.k (.int .i64 0)))]) (.seq (.reg [o 14 (.mov (.t 0)),o 15 (.mov (.t 1)),o 16 (.mov (.t 2)),o 17 (.mov (.t 4)),o 18 (.mov (.t 5)),o 19 (.call q.order2 [(.t 14),(.t 15),(.t 16),(.t 17),(.t 18)]),o 13 (.mov (.t 19)),o 20 (.ext 0 (.t 13)),o 21 (.ext 1 (.t 13)),o 1 (.mov (.t 20)),o 2 (.mov (.t 21))]) (.seq (.reg [o 23 (.mov (.t 0)),o 24 (.mov (.t 2)),o 25 (.mov (.t 3)),o 26 (.mov (.t 4)),o 27 (.mov (.t 5)),o 28 (.call q.order2 [(.t 23),(.t 24),(.t 25),(.t 26),(.t 27)]),o 22 (.mov (.t 28)),o 29 (.ext 0 (.t 22)),o 30 (.ext 1 (.t 22)),o 2 (.mov (.t 29)),o 3 (.mov (.t 30))]) (.seq (.reg [o 32 (.mov (.t 0)),o 33 (.mov (.t 1)),o 34 (.mov (.t 2)),o 35 (.mov (.t 4)),o 36 (.mov (.t 5)),o 37 (.call q.order2 [(.t 32),(.t 33),(.t 34),(.t 35),(.t 36)]),o 31 (.mov (.t 37)),o 38 (.ext 0 (.t 31)),o 39 (.ext 1 (.t 31)),o 1 (.mov (.t 38)),o 2 (.mov (.t 39))]) (.seq (.reg [o 40 (.mov (.t 2)),o 12 (.mov (.t 40))]) .ret)))))⟩
def G_median_o (z:Nat) (g:Bool) (q:SN):Fn1:=⟨36,[.t 10],(.seq (.reg [o 10 (.mov (.k (.int .i64 0)))]) (.seq (.reg [o 12 (.mov (.t 0)),o 13 (.mov (.t 1)),o 14 (.mov (.t 2)),o 15 (.mov (.t 4)),o 16 (.call q.order2 [(.t 12),(.t 13),(.t 14),(.t 15)]),o 11 (.mov (.t 16)),o 17 (.ext 0 (.t 11)),o 18 (.ext 1 (.t 11)),o 1 (.mov (.t 17)),o 2 (.mov (.t 18))]) (.seq (.reg [o 20 (.mov (.t 0)),o 21 (.mov (.t 2)),o 22 (.mov (.t 3)),o 23 (.mov (.t 4)),o 24 (.call q.order2 [(.t 20),(.t 21),(.t 22),(.t 23)]),o 19 (.mov (.t 24)),o 25 (.ext 0 (.t 19)),o 26 (.ext 1 (.t 19)),o 2 (.mov (.t 25)),o 3 (.mov (.t 26))]) (.seq (.reg [o 28 (.mov (.t 0)),o 29 (.mov (.t 1)),o 30 (.mov (.t 2)),o 31 (.mov (.t 4)),o 32 (.call q.order2 [(.t 28),(.t 29),(.t 30),(.t 31)]),o 27 (.mov (.t 32)),o 33 (.ext 0 (.t 27)),o 34 (.ext 1 (.t 27)),o 1 (.mov (.t 33)),o 2 (.mov (.t 34))]) (.seq (.reg [o 35 (.mov (.t 2)),o 10 (.mov (.t 35))]) .ret)))))⟩
def G_medianAdjacent_c (z:Nat) (g:Bool) (q:SN):Fn1:=⟨18,[.t 8],(.seq (.reg [o 8 (.mov (.k (.int .i64 0)))]) (.seq (.reg [o 9 (.mov (.t 0)),o 10 (.mov (.t 1)),o 11 (.bin .sub (.t 10) (.k (.int .i64 1))),o 12 (.mov (.t 1)),o 13 (.mov (.t 1)),o 14 (.bin .add (.t 13) (.k (.int .i64 1))),o 15 (.mov (.t 2)),o 16 (.mov (.t 3)),o 17 (.call q.median [(.t 9),(.t 11),(.t 12),(.t 14),(.t 15),(.t 16)]),o 8 (.mov (.t 17))]) .ret))⟩
def G_medianAdjacent_o (z:Nat) (g:Bool) (q:SN):Fn1:=⟨15,[.t 6],(.seq (.reg [o 6 (.mov (.k (.int .i64 0)))]) (.seq (.reg [o 7 (.mov (.t 0)),o 8 (.mov (.t 1)),o 9 (.bin .sub (.t 8) (.k (.int .i64 1))),o 10 (.mov (.t 1)),o 11 (.mov (.t 1)),o 12 (.bin .add (.t 11) (.k (.int .i64 1))),o 13 (.mov (.t 2)),o 14 (.call q.median [(.t 7),(.t 9),(.t 10),(.t 12),(.t 13)]),o 6 (.mov (.t 14))]) .ret))⟩
def G_order2_c (z:Nat) (g:Bool) (q:SN):Fn1:=⟨32,[.t 10,.t 11],(.seq (.reg [o 10 (.mov (.k (.int .i64 0))),o 11 (.mov (.k (.int .i64 0)))]) (.seq (.seq (.drw [o 12 (.mov (.t 4)),o 13 (.mov (.t 0)),o 14 (.mov (.t 2)),o 15 (.iad z (.t 13) (.t 14)),o 16 (.ld g z (.t 15)),o 17 (.mov (.t 0)),o 18 (.mov (.t 1)),o 19 (.iad z (.t 17) (.t 18)),o 20 (.ld g z (.t 19))] [o 21 (.callv (.t 12) [(.t 16),(.t 20)]),o 22 (.bin .lss (.t 21) (.k (.int .i64 0)))]) (.cnd (.t 22) (.seq (.reg [o 23 (.mov (.t 3)),o 24 (.nck (.t 23)),o 25 (.ld false 1 (.t 24)),o 26 (.bin .add (.t 25) (.k (.int .i64 1))),o 27 (.nck (.t 23)),on (.st 1 (.t 27) (.t 26))]) (.seq (.reg [o 28 (.mov (.t 2)),o 29 (.mov (.t 1)),o 10 (.mov (.t 28)),o 11 (.mov (.t 29))]) .ret)) .skip)) (.seq (.reg [o 30 (.mov (.t 1)),o 31 (.mov (.t 2)),o 10 (.mov (.t 30)),o 11 (.mov (.t 31))]) .ret)))⟩
def G_order2_o (z:Nat) (g:Bool) (q:SN):Fn1:=⟨28,[.t 8,.t 9],(.seq (.reg [o 8 (.mov (.k (.int .i64 0))),o 9 (.mov (.k (.int .i64 0)))]) (.seq (.seq (.drw [o 10 (.mov (.t 0)),o 11 (.mov (.t 2)),o 12 (.iad z (.t 10) (.t 11)),o 13 (.ld g z (.t 12)),o 14 (.mov (.t 0)),o 15 (.mov (.t 1)),o 16 (.iad z (.t 14) (.t 15)),o 17 (.ld g z (.t 16))] [o 18 (.call q.less [(.t 13),(.t 17)])]) (.cnd (.t 18) (.seq (.reg [o 19 (.mov (.t 3)),o 20 (.nck (.t 19)),o 21 (.ld false 1 (.t 20)),o 22 (.bin .add (.t 21) (.k (.int .i64 1))),o 23 (.nck (.t 19)),on (.st 1 (.t 23) (.t 22))]) (.seq (.reg [o 24 (.mov (.t 2)),o 25 (.mov (.t 1)),o 8 (.mov (.t 24)),o 9 (.mov (.t 25))]) .ret)) .skip)) (.seq (.reg [o 26 (.mov (.t 1)),o 27 (.mov (.t 2)),o 8 (.mov (.t 26)),o 9 (.mov (.t 27))]) .ret)))⟩
def G_partialInsertionSort_c (z:Nat) (g:Bool) (q:SN):Fn1:=⟨141,[.t 8],(.seq (.reg [o 8 (.mov (.k (.bool false)))]) (.seq (.reg [o 13 (.mov (.t 1)),o 14 (.bin .add (.t 13) (.k (.int .i64 1))),o 9 (.mov (.t 14))]) (.seq (.seq (.reg [o 10 (.mov (.k (.int .i64 0)))]) (.blk 0 (.lop (.seq (.seq (.reg [o 15 (.mov (.t 10)),o 16 (.bin .lss (.t 15) (.k (.int .i64 5)))]) (.cnd (.t 16) .skip (.ext 0))) (.seq (.blk 1 (.seq (.blk 2 (.lop (.seq (.seq (.drw [o 19 (.mov (.t 9)),o 20 (.mov (.t 2)),o 21 (.bin .lss (.t 19) (.t 20)),o 22 (.mov (.t 21)),og 23 22 true (.mov (.t 3)),og 24 22 true (.mov (.t 0)),og 25 22 true (.mov (.t 9)),og 26 22 true (.iad z (.t 24) (.t 25)),og 27 22 true (.ld g z (.t 26)),og 28 22 true (.mov (.t 0)),og 29 22 true (.mov (.t 9)),og 30 22 true (.bin .sub (.t 29) (.k (.int .i64 1))),og 31 22 true (.iad z (.t 28) (.t 30)),og 32 22 true (.ld g z (.t 31))] [og 33 22 true (.callv (.t 23) [(.t 27),(.t 32)]),og 34 22 true (.bin .lss (.t 33) (.k (.int .i64 0))),og 35 22 true (.un .not (.t 34)),o 36 (.pick (.t 22) (.t 35) (.k (.bool false)))]) (.cnd (.t 36) .skip (.ext 2))) (.blk 3 (.reg [o 37 (.mov (.t 9)),o 38 (.bin .add (.t 37) (.k (.int .i64 1))),o 9 (.mov (.t 38))]))))) (.seq (.seq (.reg [o 39 (.mov (.t 9)),o 40 (.mov (.t 2)),o 41 (.bin .eql (.t 39) (.t 40))]) (.cnd (.t 41) (.seq (.reg [o 8 (.mov (.k (.bool true)))]) .ret) .skip)) (.seq (.seq (.reg [o 42 (.mov (.t 2)),o 43 (.mov (.t 1)),o 44 (.bin .sub (.t 42) (.t 43)),o 45 (.bin .lss (.t 44) (.k (.int .i64 50)))]) (.cnd (.t 45) (.seq (.reg [o 8 (.mov (.k (.bool false)))]) .ret) .skip)) (.seq (.drw [o 46 (.mov (.t 0)),o 47 (.mov (.t 9)),o 48 (.mov (.t 0)),o 49 (.mov (.t 9)),o 50 (.bin .sub (.t 49) (.k (.int .i64 1))),o 51 (.mov (.t 0)),o 52 (.mov (.t 9)),o 53 (.bin .sub (.t 52) (.k (.int .i64 1))),o 54 (.iad z (.t 51) (.t 53)),o 55 (.ld g z (.t 54)),o 56 (.mov (.t 0)),o 57 (.mov (.t 9)),o 58 (.iad z (.t 56) (.t 57)),o 59 (.ld g z (.t 58))] [o 60 (.iad z (.t 46) (.t 47)),on (.st z (.t 60) (.t 55)),o 61 (.iad z (.t 48) (.t 50)),on (.st z (.t 61) (.t 59))]) (.seq (.seq (.reg [o 62 (.mov (.t 9)),o 63 (.mov (.t 1)),o 64 (.bin .sub (.t 62) (.t 63)),o 65 (.bin .geq (.t 64) (.k (.int .i64 2)))]) (.cnd (.t 65) (.seq (.reg [o 66 (.mov (.t 9)),o 67 (.bin .sub (.t 66) (.k (.int .i64 1))),o 11 (.mov (.t 67))]) (.blk 4 (.lop (.seq (.seq (.reg [o 68 (.mov (.t 11)),o 69 (.bin .geq (.t 68) (.k (.int .i64 1)))]) (.cnd (.t 69) .skip (.ext 4))) (.seq (.blk 5 (.seq (.seq (.drw [o 72 (.mov (.t 3)),o 73 (.mov (.t 0)),o 74 (.mov (.t 11)),o 75 (.iad z (.t 73) (.t 74)),o 76 (.ld g z (.t 75)),o 77 (.mov (.t 0)),o 78 (.mov (.t 11)),o 79 (.bin .sub (.t 78) (.k (.int .i64 1))),o 80 (.iad z (.t 77) (.t 79)),o 81 (.ld g z (.t 80))] [o 82 (.callv (.t 72) [(.t 76),(.t 81)]),o 83 (.bin .lss (.t 82) (.k (.int .i64 0))),o 84 (.un .not (.t 83))]) (.cnd (.t 84) (.ext 4) .skip)) (.drw [o 85 (.mov (.t 0)),o 86 (.mov (.t 11)),o 87 (.mov (.t 0)),o 88 (.mov (.t 11)),o 89 (.bin .sub (.t 88) (.k (.int .i64 1))),o 90 (.mov (.t 0)),o 91 (.mov (.t 11)),o 92 (.bin .sub (.t 91) (.k (.int .i64 1))),o 93 (.iad z (.t 90) (.t 92)),o 94 (.ld g z (.t 93)),o 95 (.mov (.t 0)),o 96 (.mov (.t 11)),o 97 (.iad z (.t 95) (.t 96)),o 98 (.ld g z (.t 97))] [o 99 (.iad z (.t 85) (.t 86)),on (.st z (.t 99) (.t 94)),o 100 (.iad z (.t 87) (.t 89)),on (.st z (.t 100) (.t 98))]))) (.reg [o 70 (.mov (.t 11)),o 71 (.bin .sub (.t 70) (.k (.int .i64 1))),o 11 (.mov (.t 71))])))))) .skip)) (.seq (.reg [o 101 (.mov (.t 2)),o 102 (.mov (.t 9)),o 103 (.bin .sub (.t 101) (.t 102)),o 104 (.bin .geq (.t 103) (.k (.int .i64 2)))]) (.cnd (.t 104) (.seq (.reg [o 105 (.mov (.t 9)),o 106 (.bin .add (.t 105) (.k (.int .i64 1))),o 12 (.mov (.t 106))]) (.blk 6 (.lop (.seq (.seq (.reg [o 107 (.mov (.t 12)),o 108 (.mov (.t 2)),o 109 (.bin .lss (.t 107) (.t 108))]) (.cnd (.t 109) .skip (.ext 6))) (.seq (.blk 7 (.seq (.seq (.drw [o 112 (.mov (.t 3)),o 113 (.mov (.t 0)),o 114 (.mov (.t 12)),o 115 (.iad z (.t 113) (.t 114)),o 116 (.ld g z (.t 115)),o 117 (.mov (.t 0)),o 118 (.mov (.t 12)),o 119 (.bin .sub (.t 118) (.k (.int .i64 1))),o 120 (.iad z (.t 117) (.t 119)),o 121 (.ld g z (.t 120))] [o 122 (.callv (.t 112) [(.t 116),(.t 121)]),o 123 (.bin .lss (.t 122) (.k (.int .i64 0))),o 124 (.un .not (.t 123))]) (.cnd (.t 124) (.ext 6) .skip)) (.drw [o 125 (.mov (.t 0)),o 126 (.mov (.t 12)),o 127 (.mov (.t 0)),o 128 (.mov (.t 12)),o 129 (.bin .sub (.t 128) (.k (.int .i64 1))),o 130 (.mov (.t 0)),o 131 (.mov (.t 12)),o 132 (.bin .sub (.t 131) (.k (.int .i64 1))),o 133 (.iad z (.t 130) (.t 132)),o 134 (.ld g z (.t 133)),o 135 (.mov (.t 0)),o 136 (.mov (.t 12)),o 137 (.iad z (.t 135) (.t 136)),o 138 (.ld g z (.t 137))] [o 139 (.iad z (.t 125) (.t 126)),on (.st z (.t 139) (.t 134)),o 140 (.iad z (.t 127) (.t 129)),on (.st z (.t 140) (.t 138))]))) (.reg [o 110 (.mov (.t 12)),o 111 (.bin .add (.t 110) (.k (.int .i64 1))),o 12 (.mov (.t 111))])))))) .skip)))))))) (.reg [o 17 (.mov (.t 10)),o 18 (.bin .add (.t 17) (.k (.int .i64 1))),o 10 (.mov (.t 18))])))))) (.seq (.reg [o 8 (.mov (.k (.bool false)))]) .ret))))⟩
def G_partialInsertionSort_o (z:Nat) (g:Bool) (q:SN):Fn1:=⟨133,[.t 6],(.seq (.reg [o 6 (.mov (.k (.bool false)))]) (.seq (.reg [o 11 (.mov (.t 1)),o 12 (.bin .add (.t 11) (.k (.int .i64 1))),o 7 (.mov (.t 12))]) (.seq (.seq (.reg [o 8 (.mov (.k (.int .i64 0)))]) (.blk 0 (.lop (.seq (.seq (.reg [o 13 (.mov (.t 8)),o 14 (.bin .lss (.t 13) (.k (.int .i64 5)))]) (.cnd (.t 14) .skip (.ext 0))) (.seq (.blk 1 (.seq (.blk 2 (.lop (.seq (.seq (.drw [o 17 (.mov (.t 7)),o 18 (.mov (.t 2)),o 19 (.bin .lss (.t 17) (.t 18)),o 20 (.mov (.t 19)),og 21 20 true (.mov (.t 0)),og 22 20 true (.mov (.t 7)),og 23 20 true (.iad z (.t 21) (.t 22)),og 24 20 true (.ld g z (.t 23)),og 25 20 true (.mov (.t 0)),og 26 20 true (.mov (.t 7)),og 27 20 true (.bin .sub (.t 26) (.k (.int .i64 1))),og 28 20 true (.iad z (.t 25) (.t 27)),og 29 20 true (.ld g z (.t 28))] [og 30 20 true (.call q.less [(.t 24),(.t 29)]),og 31 20 true (.un .not (.t 30)),o 32 (.pick (.t 20) (.t 31) (.k (.bool false)))]) (.cnd (.t 32) .skip (.ext 2))) (.blk 3 (.reg [o 33 (.mov (.t 7)),o 34 (.bin .add (.t 33) (.k (.int .i64 1))),o 7 (.mov (.t 34))]))))) (.seq (.seq (.reg [o 35 (.mov (.t 7)),o 36 (.mov (.t 2)),o 37 (.bin .eql (.t 35) (.t 36))]) (.cnd (.t 37) (.seq (.reg [o 6 (.mov (.k (.bool true)))]) .ret) .skip)) (.seq (.seq (.reg [o 38 (.mov (.t 2)),o 39 (.mov (.t 1)),o 40 (.bin .sub (.t 38) (.t 39)),o 41 (.bin .lss (.t 40) (.k (.int .i64 50)))]) (.cnd (.t 41) (.seq (.reg [o 6 (.mov (.k (.bool false)))]) .ret) .skip)) (.seq (.drw [o 42 (.mov (.t 0)),o 43 (.mov (.t 7)),o 44 (.mov (.t 0)),o 45 (.mov (.t 7)),o 46 (.bin .sub (.t 45) (.k (.int .i64 1))),o 47 (.mov (.t 0)),o 48 (.mov (.t 7)),o 49 (.bin .sub (.t 48) (.k (.int .i64 1))),o 50 (.iad z (.t 47) (.t 49)),o 51 (.ld g z (.t 50)),o 52 (.mov (.t 0)),o 53 (.mov (.t 7)),o 54 (.iad z (.t 52) (.t 53)),o 55 (.ld g z (.t 54))] [o 56 (.iad z (.t 42) (.t 43)),on (.st z (.t 56) (.t 51)),o 57 (.iad z (.t 44) (.t 46)),on (.st z (.t 57) (.t 55))]) (.seq (.seq (.reg [o 58 (.mov (.t 7)),o 59 (.mov (.t 1)),o 60 (.bin .sub (.t 58) (.t 59)),o 61 (.bin .geq (.t 60) (.k (.int .i64 2)))]) (.cnd (.t 61) (.seq (.reg [o 62 (.mov (.t 7)),o 63 (.bin .sub (.t 62) (.k (.int .i64 1))),o 9 (.mov (.t 63))]) (.blk 4 (.lop (.seq (.seq (.reg [o 64 (.mov (.t 9)),o 65 (.bin .geq (.t 64) (.k (.int .i64 1)))]) (.cnd (.t 65) .skip (.ext 4))) (.seq (.blk 5 (.seq (.seq (.drw [o 68 (.mov (.t 0)),o 69 (.mov (.t 9)),o 70 (.iad z (.t 68) (.t 69)),o 71 (.ld g z (.t 70)),o 72 (.mov (.t 0)),o 73 (.mov (.t 9)),o 74 (.bin .sub (.t 73) (.k (.int .i64 1))),o 75 (.iad z (.t 72) (.t 74)),o 76 (.ld g z (.t 75))] [o 77 (.call q.less [(.t 71),(.t 76)]),o 78 (.un .not (.t 77))]) (.cnd (.t 78) (.ext 4) .skip)) (.drw [o 79 (.mov (.t 0)),o 80 (.mov (.t 9)),o 81 (.mov (.t 0)),o 82 (.mov (.t 9)),o 83 (.bin .sub (.t 82) (.k (.int .i64 1))),o 84 (.mov (.t 0)),o 85 (.mov (.t 9)),o 86 (.bin .sub (.t 85) (.k (.int .i64 1))),o 87 (.iad z (.t 84) (.t 86)),o 88 (.ld g z (.t 87)),o 89 (.mov (.t 0)),o 90 (.mov (.t 9)),o 91 (.iad z (.t 89) (.t 90)),o 92 (.ld g z (.t 91))] [o 93 (.iad z (.t 79) (.t 80)),on (.st z (.t 93) (.t 88)),o 94 (.iad z (.t 81) (.t 83)),on (.st z (.t 94) (.t 92))]))) (.reg [o 66 (.mov (.t 9)),o 67 (.bin .sub (.t 66) (.k (.int .i64 1))),o 9 (.mov (.t 67))])))))) .skip)) (.seq (.reg [o 95 (.mov (.t 2)),o 96 (.mov (.t 7)),o 97 (.bin .sub (.t 95) (.t 96)),o 98 (.bin .geq (.t 97) (.k (.int .i64 2)))]) (.cnd (.t 98) (.seq (.reg [o 99 (.mov (.t 7)),o 100 (.bin .add (.t 99) (.k (.int .i64 1))),o 10 (.mov (.t 100))]) (.blk 6 (.lop (.seq (.seq (.reg [o 101 (.mov (.t 10)),o 102 (.mov (.t 2)),o 103 (.bin .lss (.t 101) (.t 102))]) (.cnd (.t 103) .skip (.ext 6))) (.seq (.blk 7 (.seq (.seq (.drw [o 106 (.mov (.t 0)),o 107 (.mov (.t 10)),o 108 (.iad z (.t 106) (.t 107)),o 109 (.ld g z (.t 108)),o 110 (.mov (.t 0)),o 111 (.mov (.t 10)),o 112 (.bin .sub (.t 111) (.k (.int .i64 1))),o 113 (.iad z (.t 110) (.t 112)),o 114 (.ld g z (.t 113))] [o 115 (.call q.less [(.t 109),(.t 114)]),o 116 (.un .not (.t 115))]) (.cnd (.t 116) (.ext 6) .skip)) (.drw [o 117 (.mov (.t 0)),o 118 (.mov (.t 10)),o 119 (.mov (.t 0)),o 120 (.mov (.t 10)),o 121 (.bin .sub (.t 120) (.k (.int .i64 1))),o 122 (.mov (.t 0)),o 123 (.mov (.t 10)),o 124 (.bin .sub (.t 123) (.k (.int .i64 1))),o 125 (.iad z (.t 122) (.t 124)),o 126 (.ld g z (.t 125)),o 127 (.mov (.t 0)),o 128 (.mov (.t 10)),o 129 (.iad z (.t 127) (.t 128)),o 130 (.ld g z (.t 129))] [o 131 (.iad z (.t 117) (.t 118)),on (.st z (.t 131) (.t 126)),o 132 (.iad z (.t 119) (.t 121)),on (.st z (.t 132) (.t 130))]))) (.reg [o 104 (.mov (.t 10)),o 105 (.bin .add (.t 104) (.k (.int .i64 1))),o 10 (.mov (.t 105))])))))) .skip)))))))) (.reg [o 15 (.mov (.t 8)),o 16 (.bin .add (.t 15) (.k (.int .i64 1))),o 8 (.mov (.t 16))])))))) (.seq (.reg [o 6 (.mov (.k (.bool false)))]) .ret))))⟩
def G_partition_c (z:Nat) (g:Bool) (q:SN):Fn1:=⟨178,[.t 10,.t 11],(.seq (.reg [o 10 (.mov (.k (.int .i64 0))),o 11 (.mov (.k (.bool false)))]) (.seq (.drw [o 14 (.mov (.t 0)),o 15 (.mov (.t 1)),o 16 (.mov (.t 0)),o 17 (.mov (.t 3)),o 18 (.mov (.t 0)),o 19 (.mov (.t 3)),o 20 (.iad z (.t 18) (.t 19)),o 21 (.ld g z (.t 20)),o 22 (.mov (.t 0)),o 23 (.mov (.t 1)),o 24 (.iad z (.t 22) (.t 23)),o 25 (.ld g z (.t 24))] [o 26 (.iad z (.t 14) (.t 15)),on (.st z (.t 26) (.t 21)),o 27 (.iad z (.t 16) (.t 17)),on (.st z (.t 27) (.t 25))]) (.seq (.reg [o 28 (.mov (.t 1)),o 29 (.bin .add (.t 28) (.k (.int .i64 1))),o 30 (.mov (.t 2)),o 31 (.bin .sub (.t 30) (.k (.int .i64 1))),o 12 (.mov (.t 29)),o 13 (.mov (.t 31))]) (.seq (.blk 0 (.lop (.seq (.seq (.drw [o 32 (.mov (.t 12)),o 33 (.mov (.t 13)),o 34 (.bin .leq (.t 32) (.t 33)),o 35 (.mov (.t 34)),og 36 35 true (.mov (.t 4)),og 37 35 true (.mov (.t 0)),og 38 35 true (.mov (.t 12)),og 39 35 true (.iad z (.t 37) (.t 38)),og 40 35 true (.ld g z (.t 39)),og 41 35 true (.mov (.t 0)),og 42 35 true (.mov (.t 1)),og 43 35 true (.iad z (.t 41) (.t 42)),og 44 35 true (.ld g z (.t 43))] [og 45 35 true (.callv (.t 36) [(.t 40),(.t 44)]),og 46 35 true (.bin .lss (.t 45) (.k (.int .i64 0))),o 47 (.pick (.t 35) (.t 46) (.k (.bool false)))]) (.cnd (.t 47) .skip (.ext 0))) (.blk 1 (.reg [o 48 (.mov (.t 12)),o 49 (.bin .add (.t 48) (.k (.int .i64 1))),o 12 (.mov (.t 49))]))))) (.seq (.blk 2 (.lop (.seq (.seq (.drw [o 50 (.mov (.t 12)),o 51 (.mov (.t 13)),o 52 (.bin .leq (.t 50) (.t 51)),o 53 (.mov (.t 52)),og 54 53 true (.mov (.t 4)),og 55 53 true (.mov (.t 0)),og 56 53 true (.mov (.t 13)),og 57 53 true (.iad z (.t 55) (.t 56)),og 58 53 true (.ld g z (.t 57)),og 59 53 true (.mov (.t 0)),og 60 53 true (.mov (.t 1)),og 61 53 true (.iad z (.t 59) (.t 60)),og 62 53 true (.ld g z (.t 61))] [og 63 53 true (.callv (.t 54) [(.t 58),(.t 62)]),og 64 53 true (.bin .lss (.t 63) (.k (.int .i64 0))),og 65 53 true (.un .not (.t 64)),o 66 (.pick (.t 53) (.t 65) (.k (.bool false)))]) (.cnd (.t 66) .skip (.ext 2))) (.blk 3 (.reg [o 67 (.mov (.t 13)),o 68 (.bin .sub (.t 67) (.k (.int .i64 1))),o 13 (.mov (.t 68))]))))) (.seq (.seq (.reg [o 69 (.mov (.t 12)),o 70 (.mov (.t 13)),o 71 (.bin .gtr (.t 69) (.t 70))]) (.cnd (.t 71) (.seq (.drw [o 72 (.mov (.t 0)),o 73 (.mov (.t 13)),o 74 (.mov (.t 0)),o 75 (.mov (.t 1)),o 76 (.mov (.t 0)),o 77 (.mov (.t 1)),o 78 (.iad z (.t 76) (.t 77)),o 79 (.ld g z (.t 78)),o 80 (.mov (.t 0)),o 81 (.mov (.t 13)),o 82 (.iad z (.t 80) (.t 81)),o 83 (.ld g z (.t 82))] [o 84 (.iad z (.t 72) (.t 73)),on (.st z (.t 84) (.t 79)),o 85 (.iad z (.t 74) (.t 75)),on (.st z (.t 85) (.t 83))]) (.seq (.reg [o 86 (.mov (.t 13)),o 10 (.mov (.t 86)),o 11 (.mov (.k (.bool true)))]) .ret)) .skip)) (.seq (.drw [o 87 (.mov (.t 0)),o 88 (.mov (.t 12)),o 89 (.mov (.t 0)),o 90 (.mov (.t 13)),o 91 (.mov (.t 0)),o 92 (.mov (.t 13)),o 93 (.iad z (.t 91) (.t 92)),o 94 (.ld g z (.t 93)),o 95 (.mov (.t 0)),o 96 (.mov (.t 12)),o 97 (.iad z (.t 95) (.t 96)),o 98 (.ld g z (.t 97))] [o 99 (.iad z (.t 87) (.t 88)),on (.st z (.t 99) (.t 94)),o 100 (.iad z (.t 89) (.t 90)),on (.st z (.t 100) (.t 98))]) (.seq (.reg [o 101 (.mov (.t 12)),o 102 (.bin .add (.t 101) (.k (.int .i64 1))),o 12 (.mov (.t 102))]) (.seq (.reg [o 103 (.mov (.t 13)),o 104 (.bin .sub (.t 103) (.k (.int .i64 1))),o 13 (.mov (.t 104))]) (.seq (.blk 4 (.lop (.blk 5 (.seq (.blk 6 (.lop (.seq (.seq (.drw [o 105 (.mov (.t 12)),o 106 (.mov (.t 13)),o 107 (.bin .leq (.t 105) (.t 106)),o 108 (.mov (.t 107)),og 109 108 true (.mov (.t 4)),og 110 108 true (.mov (.t 0)),og 111 108 true (.mov (.t 12)),og 112 108 true (.iad z (.t 110) (.t 111)),og 113 108 true (.ld g z (.t 112)),og 114 108 true (.mov (.t 0)),og 115 108 true (.mov (.t 1)),og 116 108 true (.iad z (.t 114) (.t 115)),og 117 108 true (.ld g z (.t 116))] [og 118 108 true (.callv (.t 109) [(.t 113),(.t 117)]),og 119 108 true (.bin .lss (.t 118) (.k (.int .i64 0))),o 120 (.pick (.t 108) (.t 119) (.k (.bool false)))]) (.cnd (.t 120) .skip (.ext 6))) (.blk 7 (.reg [o 121 (.mov (.t 12)),o 122 (.bin .add (.t 121) (.k (.int .i64 1))),o 12 (.mov (.t 122))]))))) (.seq (.blk 8 (.lop (.seq (.seq (.drw [o 123 (.mov (.t 12)),o 124 (.mov (.t 13)),o 125 (.bin .leq (.t 123) (.t 124)),o 126 (.mov (.t 125)),og 127 126 true (.mov (.t 4)),og 128 126 true (.mov (.t 0)),og 129 126 true (.mov (.t 13)),og 130 126 true (.iad z (.t 128) (.t 129)),og 131 126 true (.ld g z (.t 130)),og 132 126 true (.mov (.t 0)),og 133 126 true (.mov (.t 1)),og 134 126 true (.iad z (.t 132) (.t 133)),og 135 126 true (.ld g z (.t 134))] [og 136 126 true (.callv (.t 127) [(.t 131),(.t 135)]),og 137 126 true (.bin .lss (.t 136) (.k (.int .i64 0))),og 138 126 true (.un .not (.t 137)),o 139 (.pick (.t 126) (.t 138) (.k (.bool false)))]) (.cnd (.t 139) .skip (.ext 8))) (.blk 9 (.reg [o 140 (.mov (.t 13)),o 141 (.bin .sub (.t 140) (.k (.int .i64 1))),o 13 (.mov (.t 141))]))))) (.seq (.seq (.reg [o 142 (.mov (.t 12)),o 143 (.mov (.t 13)),o 144 (.bin .gtr (.t 142) (.t 143))]) (.cnd (.t 144) (.ext 4) .skip)) (.seq (.drw [o 145 (.mov (.t 0)),o 146 (.mov (.t 12)),o 147 (.mov (.t 0)),o 148 (.mov (.t 13)),o 149 (.mov (.t 0)),o 150 (.mov (.t 13)),o 151 (.iad z (.t 149) (.t 150)),o 152 (.ld g z (.t 151)),o 153 (.mov (.t 0)),o 154 (.mov (.t 12)),o 155 (.iad z (.t 153) (.t 154)),o 156 (.ld g z (.t 155))] [o 157 (.iad z (.t 145) (.t 146)),on (.st z (.t 157) (.t 152)),o 158 (.iad z (.t 147) (.t 148)),on (.st z (.t 158) (.t 156))]) (.seq (.reg [o 159 (.mov (.t 12)),o 160 (.bin .add (.t 159) (.k (.int .i64 1))),o 12 (.mov (.t 160))]) (.reg [o 161 (.mov (.t 13)),o 162 (.bin .sub (.t 161) (.k (.int .i64 1))),o 13 (.mov (.t 162))]))))))))) (.seq (.drw [o 163 (.mov (.t 0)),o 164 (.mov (.t 13)),o 165 (.mov (.t 0)),o 166 (.mov (.t 1)),o 167 (.mov (.t 0)),o 168 (.mov (.t 1)),o 169 (.iad z (.t 167) (.t 168)),o 170 (.ld g z (.t 169)),o 171 (.mov (.t 0)),o 172 (.mov (.t 13)),o 173 (.iad z (.t 171) (.t 172)),o 174 (.ld g z (.t 173))] [o 175 (.iad z (.t 163) (.t 164)),on (.st z (.t 175) (.t 170)),o 176 (.iad z (.t 165) (.t 166)),on (.st z (.t 176) (.t 174))]) (.seq (.reg [o 177 (.mov (.t 13)),o 10 (.mov (.t 177)),o 11 (.mov (.k (.bool false)))]) .ret))))))))))))⟩
def G_partition_o (z:Nat) (g:Bool) (q:SN):Fn1:=⟨168,[.t 8,.t 9],(.seq (.reg [o 8 (.mov (.k (.int .i64 0))),o 9 (.mov (.k (.bool false)))]) (.seq (.drw [o 12 (.mov (.t 0)),o 13 (.mov (.t 1)),o 14 (.mov (.t 0)),o 15 (.mov (.t 3)),o 16 (.mov (.t 0)),o 17 (.mov (.t 3)),o 18 (.iad z (.t 16) (.t 17)),o 19 (.ld g z (.t 18)),o 20 (.mov (.t 0)),o 21 (.mov (.t 1)),o 22 (.iad z (.t 20) (.t 21)),o 23 (.ld g z (.t 22))] [o 24 (.iad z (.t 12) (.t 13)),on (.st z (.t 24) (.t 19)),o 25 (.iad z (.t 14) (.t 15)),on (.st z (.t 25) (.t 23))]) (.seq (.reg [o 26 (.mov (.t 1)),o 27 (.bin .add (.t 26) (.k (.int .i64 1))),o 28 (.mov (.t 2)),o 29 (.bin .sub (.t 28) (.k (.int .i64 1))),o 10 (.mov (.t 27)),o 11 (.mov (.t 29))]) (.seq (.blk 0 (.lop (.seq (.seq (.drw [o 30 (.mov (.t 10)),o 31 (.mov (.t 11)),o 32 (.bin .leq (.t 30) (.t 31)),o 33 (.mov (.t 32)),og 34 33 true (.mov (.t 0)),og 35 33 true (.mov (.t 10)),og 36 33 true (.iad z (.t 34) (.t 35)),og 37 33 true (.ld g z (.t 36)),og 38 33 true (.mov (.t 0)),og 39 33 true (.mov (.t 1)),og 40 33 true (.iad z (.t 38) (.t 39)),og 41 33 true (.ld g z (.t 40))] [og 42 33 true (.call q.less [(.t 37),(.t 41)]),o 43 (.pick (.t 33) (.t 42) (.k (.bool false)))]) (.cnd (.t 43) .skip (.ext 0))) (.blk 1 (.reg [o 44 (.mov (.t 10)),o 45 (.bin .add (.t 44) (.k (.int .i64 1))),o 10 (.mov (.t 45))]))))) (.seq (.blk 2 (.lop (.seq (.seq (.drw [o 46 (.mov (.t 10)),o 47 (.mov (.t 11)),o 48 (.bin .leq (.t 46) (.t 47)),o 49 (.mov (.t 48)),og 50 49 true (.mov (.t 0)),og 51 49 true (.mov (.t 11)),og 52 49 true (.iad z (.t 50) (.t 51)),og 53 49 true (.ld g z (.t 52)),og 54 49 true (.mov (.t 0)),og 55 49 true (.mov (.t 1)),og 56 49 true (.iad z (.t 54) (.t 55)),og 57 49 true (.ld g z (.t 56))] [og 58 49 true (.call q.less [(.t 53),(.t 57)]),og 59 49 true (.un .not (.t 58)),o 60 (.pick (.t 49) (.t 59) (.k (.bool false)))]) (.cnd (.t 60) .skip (.ext 2))) (.blk 3 (.reg [o 61 (.mov (.t 11)),o 62 (.bin .sub (.t 61) (.k (.int .i64 1))),o 11 (.mov (.t 62))]))))) (.seq (.seq (.reg [o 63 (.mov (.t 10)),o 64 (.mov (.t 11)),o 65 (.bin .gtr (.t 63) (.t 64))]) (.cnd (.t 65) (.seq (.drw [o 66 (.mov (.t 0)),o 67 (.mov (.t 11)),o 68 (.mov (.t 0)),o 69 (.mov (.t 1)),o 70 (.mov (.t 0)),o 71 (.mov (.t 1)),o 72 (.iad z (.t 70) (.t 71)),o 73 (.ld g z (.t 72)),o 74 (.mov (.t 0)),o 75 (.mov (.t 11)),o 76 (.iad z (.t 74) (.t 75)),o 77 (.ld g z (.t 76))] [o 78 (.iad z (.t 66) (.t 67)),on (.st z (.t 78) (.t 73)),o 79 (.iad z (.t 68) (.t 69)),on (.st z (.t 79) (.t 77))]) (.seq (.reg [o 80 (.mov (.t 11)),o 8 (.mov (.t 80)),o 9 (.mov (.k (.bool true)))]) .ret)) .skip)) (.seq (.drw [o 81 (.mov (.t 0)),o 82 (.mov (.t 10)),o 83 (.mov (.t 0)),o 84 (.mov (.t 11)),o 85 (.mov (.t 0)),o 86 (.mov (.t 11)),o 87 (.iad z (.t 85) (.t 86)),o 88 (.ld g z (.t 87)),o 89 (.mov (.t 0)),o 90 (.mov (.t 10)),o 91 (.iad z (.t 89) (.t 90)),o 92 (.ld g z (.t 91))] [o 93 (.iad z (.t 81) (.t 82)),on (.st z (.t 93) (.t 88)),o 94 (.iad z (.t 83) (.t 84)),on (.st z (.t 94) (.t 92))]) (.seq (.reg [o 95 (.mov (.t 10)),o 96 (.bin .add (.t 95) (.k (.int .i64 1))),o 10 (.mov (.t 96))]) (.seq (.reg [o 97 (.mov (.t 11)),o 98 (.bin .sub (.t 97) (.k (.int .i64 1))),o 11 (.mov (.t 98))]) (.seq (.blk 4 (.lop (.blk 5 (.seq (.blk 6 (.lop (.seq (.seq (.drw [o 99 (.mov (.t 10)),o 100 (.mov (.t 11)),o 101 (.bin .leq (.t 99) (.t 100)),o 102 (.mov (.t 101)),og 103 102 true (.mov (.t 0)),og 104 102 true (.mov (.t 10)),og 105 102 true (.iad z (.t 103) (.t 104)),og 106 102 true (.ld g z (.t 105)),og 107 102 true (.mov (.t 0)),og 108 102 true (.mov (.t 1)),og 109 102 true (.iad z (.t 107) (.t 108)),og 110 102 true (.ld g z (.t 109))] [og 111 102 true (.call q.less [(.t 106),(.t 110)]),o 112 (.pick (.t 102) (.t 111) (.k (.bool false)))]) (.cnd (.t 112) .skip (.ext 6))) (.blk 7 (.reg [o 113 (.mov (.t 10)),o 114 (.bin .add (.t 113) (.k (.int .i64 1))),o 10 (.mov (.t 114))]))))) (.seq (.blk 8 (.lop (.seq (.seq (.drw [o 115 (.mov (.t 10)),o 116 (.mov (.t 11)),o 117 (.bin .leq (.t 115) (.t 116)),o 118 (.mov (.t 117)),og 119 118 true (.mov (.t 0)),og 120 118 true (.mov (.t 11)),og 121 118 true (.iad z (.t 119) (.t 120)),og 122 118 true (.ld g z (.t 121)),og 123 118 true (.mov (.t 0)),og 124 118 true (.mov (.t 1)),og 125 118 true (.iad z (.t 123) (.t 124)),og 126 118 true (.ld g z (.t 125))] [og 127 118 true (.call q.less [(.t 122),(.t 126)]),og 128 118 true (.un .not (.t 127)),o 129 (.pick (.t 118) (.t 128) (.k (.bool false)))]) (.cnd (.t 129) .skip (.ext 8))) (.blk 9 (.reg [o 130 (.mov (.t 11)),o 131 (.bin .sub (.t 130) (.k (.int .i64 1))),o 11 (.mov (.t 131))]))))) (.seq (.seq (.reg [o 132 (.mov (.t 10)),o 133 (.mov (.t 11)),o 134 (.bin .gtr (.t 132) (.t 133))]) (.cnd (.t 134) (.ext 4) .skip)) (.seq (.drw [o 135 (.mov (.t 0)),o 136 (.mov (.t 10)),o 137 (.mov (.t 0)),o 138 (.mov (.t 11)),o 139 (.mov (.t 0)),o 140 (.mov (.t 11)),o 141 (.iad z (.t 139) (.t 140)),o 142 (.ld g z (.t 141)),o 143 (.mov (.t 0)),o 144 (.mov (.t 10)),o 145 (.iad z (.t 143) (.t 144)),o 146 (.ld g z (.t 145))] [o 147 (.iad z (.t 135) (.t 136)),on (.st z (.t 147) (.t 142)),o 148 (.iad z (.t 137) (.t 138)),on (.st z (.t 148) (.t 146))]) (.seq (.reg [o 149 (.mov (.t 10)),o 150 (.bin .add (.t 149) (.k (.int .i64 1))),o 10 (.mov (.t 150))]) (.reg [o 151 (.mov (.t 11)),o 152 (.bin .sub (.t 151) (.k (.int .i64 1))),o 11 (.mov (.t 152))]))))))))) (.seq (.drw [o 153 (.mov (.t 0)),o 154 (.mov (.t 11)),o 155 (.mov (.t 0)),o 156 (.mov (.t 1)),o 157 (.mov (.t 0)),o 158 (.mov (.t 1)),o 159 (.iad z (.t 157) (.t 158)),o 160 (.ld g z (.t 159)),o 161 (.mov (.t 0)),o 162 (.mov (.t 11)),o 163 (.iad z (.t 161) (.t 162)),o 164 (.ld g z (.t 163))] [o 165 (.iad z (.t 153) (.t 154)),on (.st z (.t 165) (.t 160)),o 166 (.iad z (.t 155) (.t 156)),on (.st z (.t 166) (.t 164))]) (.seq (.reg [o 167 (.mov (.t 11)),o 8 (.mov (.t 167)),o 9 (.mov (.k (.bool false)))]) .ret))))))))))))⟩
def G_partitionEqual_c (z:Nat) (g:Bool) (q:SN):Fn1:=⟨90,[.t 10],(.seq (.reg [o 10 (.mov (.k (.int .i64 0)))]) (.seq (.drw [o 13 (.mov (.t 0)),o 14 (.mov (.t 1)),o 15 (.mov (.t 0)),o 16 (.mov (.t 3)),o 17 (.mov (.t 0)),o 18 (.mov (.t 3)),o 19 (.iad z (.t 17) (.t 18)),o 20 (.ld g z (.t 19)),o 21 (.mov (.t 0)),o 22 (.mov (.t 1)),o 23 (.iad z (.t 21) (.t 22)),o 24 (.ld g z (.t 23))] [o 25 (.iad z (.t 13) (.t 14)),on (.st z (.t 25) (.t 20)),o 26 (.iad z (.t 15) (.t 16)),on (.st z (.t 26) (.t 24))]) (.seq (.reg [o 27 (.mov (.t 1)),o 28 (.bin .add (.t 27) (.k (.int .i64 1))),o 29 (.mov (.t 2)),o 30 (.bin .sub (.t 29) (.k (.int .i64 1))),o 11 (.mov (.t 28)),o 12 (.mov (.t 30))]) (.seq (.blk 0 (.lop (.blk 1 (.seq (.blk 2 (.lop (.seq (.seq (.drw [o 31 (.mov (.t 11)),o 32 (.mov (.t 12)),o 33 (.bin .leq (.t 31) (.t 32)),o 34 (.mov (.t 33)),og 35 34 true (.mov (.t 4)),og 36 34 true (.mov (.t 0)),og 37 34 true (.mov (.t 1)),og 38 34 true (.iad z (.t 36) (.t 37)),og 39 34 true (.ld g z (.t 38)),og 40 34 true (.mov (.t 0)),og 41 34 true (.mov (.t 11)),og 42 34 true (.iad z (.t 40) (.t 41)),og 43 34 true (.ld g z (.t 42))] [og 44 34 true (.callv (.t 35) [(.t 39),(.t 43)]),og 45 34 true (.bin .lss (.t 44) (.k (.int .i64 0))),og 46 34 true (.un .not (.t 45)),o 47 (.pick (.t 34) (.t 46) (.k (.bool false)))]) (.cnd (.t 47) .skip (.ext 2))) (.blk 3 (.reg [o 48 (.mov (.t 11)),o 49 (.bin .add (.t 48) (.k (.int .i64 1))),o 11 (.mov (.t 49))]))))) (.seq (.blk 4 (.lop (.seq (.seq (.drw [o 50 (.mov (.t 11)),o 51 (.mov (.t 12)),o 52 (.bin .leq (.t 50) (.t 51)),o 53 (.mov (.t 52)),og 54 53 true (.mov (.t 4)),og 55 53 true (.mov (.t 0)),og 56 53 true (.mov (.t 1)),og 57 53 true (.iad z (.t 55) (.t 56)),og 58 53 true (.ld g z (.t 57)),og 59 53 true (.mov (.t 0)),og 60 53 true (.mov (.t 12)),og 61 53 true (.iad z (.t 59) (.t 60)),og 62 53 true (.ld g z (.t 61))] [og 63 53 true (.callv (.t 54) [(.t 58),(.t 62)]),og 64 53 true (.bin .lss (.t 63) (.k (.int .i64 0))),o 65 (.pick (.t 53) (.t 64) (.k (.bool false)))]) (.cnd (.t 65) .skip (.ext 4))) (.blk 5 (.reg [o 66 (.mov (.t 12)),o 67 (.bin .sub (.t 66) (.k (.int .i64 1))),o 12 (.mov (.t 67))]))))) (.seq (.seq (.reg [o 68 (.mov (.t 11)),o 69 (.mov (.t 12)),o 70 (.bin .gtr (.t 68) (.t 69))]) (.cnd (.t 70) (.ext 0) .skip)) (.seq (.drw [o 71 (.mov (.t 0)),o 72 (.mov (.t 11)),o 73 (.mov (.t 0)),o 74 (.mov (.t 12)),o 75 (.mov (.t 0)),o 76 (.mov (.t 12)),o 77 (.iad z (.t 75) (.t 76)),o 78 (.ld g z (.t 77)),o 79 (.mov (.t 0)),o 80 (.mov (.t 11)),o 81 (.iad z (.t 79) (.t 80)),o 82 (.ld g z (.t 81))] [o 83 (.iad z (.t 71) (.t 72)),on (.st z (.t 83) (.t 78)),o 84 (.iad z (.t 73) (.t 74)),on (.st z (.t 84) (.t 82))]) (.seq (.reg [o 85 (.mov (.t 11)),o 86 (.bin .add (.t 85) (.k (.int .i64 1))),o 11 (.mov (.t 86))]) (.reg [o 87 (.mov (.t 12)),o 88 (.bin .sub (.t 87) (.k (.int .i64 1))),o 12 (.mov (.t 88))]))))))))) (.seq (.reg [o 89 (.mov (.t 11)),o 10 (.mov (.t 89))]) .ret)))))⟩
def G_partitionEqual_o (z:Nat) (g:Bool) (q:SN):Fn1:=⟨84,[.t 8],(.seq (.reg [o 8 (.mov (.k (.int .i64 0)))]) (.seq (.drw [o 11 (.mov (.t 0)),o 12 (.mov (.t 1)),o 13 (.mov (.t 0)),o 14 (.mov (.t 3)),o 15 (.mov (.t 0)),o 16 (.mov (.t 3)),o 17 (.iad z (.t 15) (.t 16)),o 18 (.ld g z (.t 17)),o 19 (.mov (.t 0)),o 20 (.mov (.t 1)),o 21 (.iad z (.t 19) (.t 20)),o 22 (.ld g z (.t 21))] [o 23 (.iad z (.t 11) (.t 12)),on (.st z (.t 23) (.t 18)),o 24 (.iad z (.t 13) (.t 14)),on (.st z (.t 24) (.t 22))]) (.seq (.reg [o 25 (.mov (.t 1)),o 26 (.bin .add (.t 25) (.k (.int .i64 1))),o 27 (.mov (.t 2)),o 28 (.bin .sub (.t 27) (.k (.int .i64 1))),o 9 (.mov (.t 26)),o 10 (.mov (.t 28))]) (.seq (.blk 0 (.lop (.blk 1 (.seq (.blk 2 (.lop (.seq (.seq (.drw [o 29 (.mov (.t 9)),o 30 (.mov (.t 10)),o 31 (.bin .leq (.t 29) (.t 30)),o 32 (.mov (.t 31)),og 33 32 true (.mov (.t 0)),og 34 32 true (.mov (.t 1)),og 35 32 true (.iad z (.t 33) (.t 34)),og 36 32 true (.ld g z (.t 35)),og 37 32 true (.mov (.t 0)),og 38 32 true (.mov (.t 9)),og 39 32 true (.iad z (.t 37) (.t 38)),og 40 32 true (.ld g z (.t 39))] [og 41 32 true (.call q.less [(.t 36),(.t 40)]),og 42 32 true (.un .not (.t 41)),o 43 (.pick (.t 32) (.t 42) (.k (.bool false)))]) (.cnd (.t 43) .skip (.ext 2))) (.blk 3 (.reg [o 44 (.mov (.t 9)),o 45 (.bin .add (.t 44) (.k (.int .i64 1))),o 9 (.mov (.t 45))]))))) (.seq (.blk 4 (.lop (.seq (.seq (.drw [o 46 (.mov (.t 9)),o 47 (.mov (.t 10)),o 48 (.bin .leq (.t 46) (.t 47)),o 49 (.mov (.t 48)),og 50 49 true (.mov (.t 0)),og 51 49 true (.mov (.t 1)),og 52 49 true (.iad z (.t 50) (.t 51)),og 53 49 true (.ld g z (.t 52)),og 54 49 true (.mov (.t 0)),og 55 49 true (.mov (.t 10)),og 56 49 true (.iad z (.t 54) (.t 55)),og 57 49 true (.ld g z (.t 56))] [og 58 49 true (.call q.less [(.t 53),(.t 57)]),o 59 (.pick (.t 49) (.t 58) (.k (.bool false)))]) (.cnd (.t 59) .skip (.ext 4))) (.blk 5 (.reg [o 60 (.mov (.t 10)),o 61 (.bin .sub (.t 60) (.k (.int .i64 1))),o 10 (.mov (.t 61))]))))) (.seq (.seq (.reg [o 62 (.mov (.t 9)),o 63 (.mov (.t 10)),o 64 (.bin .gtr (.t 62) (.t 63))]) (.cnd (.t 64) (.ext 0) .skip)) (.seq (.drw [o 65 (.mov (.t 0)),o 66 (.mov (.t 9)),o 67 (.mov (.t 0)),o 68 (.mov (.t 10)),o 69 (.mov (.t 0)),o 70 (.mov (.t 10)),o 71 (.iad z (.t 69) (.t 70)),o 72 (.ld g z (.t 71)),o 73 (.mov (.t 0)),o 74 (.mov (.t 9)),o 75 (.iad z (.t 73) (.t 74)),o 76 (.ld g z (.t 75))] [o 77 (.iad z (.t 65) (.t 66)),on (.st z (.t 77) (.t 72)),o 78 (.iad z (.t 67) (.t 68)),on (.st z (.t 78) (.t 76))]) (.seq (.reg [o 79 (.mov (.t 9)),o 80 (.bin .add (.t 79) (.k (.int .i64 1))),o 9 (.mov (.t 80))]) (.reg [o 81 (.mov (.t 10)),o 82 (.bin .sub (.t 81) (.k (.int .i64 1))),o 10 (.mov (.t 82))]))))))))) (.seq (.reg [o 83 (.mov (.t 9)),o 8 (.mov (.t 83))]) .ret)))))⟩
def G_pdqsort_c (z:Nat) (g:Bool) (q:SN):Fn1:=⟨148,[],(.seq (.reg [o 10 (.mov (.k (.bool true)))]) (.seq (.reg [o 11 (.mov (.k (.bool true)))]) (.blk 0 (.lop (.blk 1 (.seq (.reg [o 21 (.mov (.t 2)),o 22 (.mov (.t 1)),o 23 (.bin .sub (.t 21) (.t 22)),o 12 (.mov (.t 23))]) (.seq (.seq (.reg [o 24 (.mov (.t 12)),o 25 (.bin .leq (.t 24) (.k (.int .i64 12)))]) (.cnd (.t 25) (.seq (.reg [o 26 (.mov (.t 0)),o 27 (.mov (.t 1)),o 28 (.mov (.t 2)),o 29 (.mov (.t 4)),o 30 (.call q.insertionSort [(.t 26),(.t 27),(.t 28),(.t 29)])]) .ret) .skip)) (.seq (.seq (.reg [o 31 (.mov (.t 3)),o 32 (.bin .eql (.t 31) (.k (.int .i64 0)))]) (.cnd (.t 32) (.seq (.reg [o 33 (.mov (.t 0)),o 34 (.mov (.t 1)),o 35 (.mov (.t 2)),o 36 (.mov (.t 4)),o 37 (.call q.heapSort [(.t 33),(.t 34),(.t 35),(.t 36)])]) .ret) .skip)) (.seq (.seq (.reg [o 38 (.mov (.t 10)),o 39 (.un .not (.t 38))]) (.cnd (.t 39) (.seq (.reg [o 40 (.mov (.t 0)),o 41 (.mov (.t 1)),o 42 (.mov (.t 2)),o 43 (.mov (.t 4)),o 44 (.call q.breakPatterns [(.t 40),(.t 41),(.t 42),(.t 43)])]) (.reg [o 45 (.mov (.t 3)),o 46 (.bin .sub (.t 45) (.k (.int .i64 1))),o 3 (.mov (.t 46))])) .skip)) (.seq (.reg [o 48 (.mov (.t 0)),o 49 (.mov (.t 1)),o 50 (.mov (.t 2)),o 51 (.mov (.t 4)),o 52 (.call q.choosePivot [(.t 48),(.t 49),(.t 50),(.t 51)]),o 47 (.mov (.t 52)),o 53 (.ext 0 (.t 47)),o 54 (.ext 1 (.t 47)),o 13 (.mov (.t 53)),o 14 (.mov (.t 54))]) (.seq (.seq (.reg [o 55 (.mov (.t 14)),o 56 (.bin .eql (.t 55) (.k (.int .i64 2)))]) (.cnd (.t 56) (.seq (.reg [o 57 (.mov (.t 0)),o 58 (.mov (.t 1)),o 59 (.mov (.t 2)),o 60 (.mov (.t 4)),o 61 (.call q.reverseRange [(.t 57),(.t 58),(.t 59),(.t 60)])]) (.seq (.reg [o 62 (.mov (.t 2)),o 63 (.bin .sub (.t 62) (.k (.int .i64 1))),o 64 (.mov (.t 13)),o 65 (.mov (.t 1)),o 66 (.bin .sub (.t 64) (.t 65)),o 67 (.bin .sub (.t 63) (.t 66)),o 13 (.mov (.t 67))]) (.reg [o 14 (.mov (.k (.int .i64 1)))]))) .skip)) (.seq (.seq (.reg [o 68 (.mov (.t 10)),o 69 (.mov (.t 68)),og 70 69 true (.mov (.t 11)),o 71 (.pick (.t 69) (.t 70) (.k (.bool false))),o 72 (.mov (.t 71)),og 73 72 true (.mov (.t 14)),og 74 72 true (.bin .eql (.t 73) (.k (.int .i64 1))),o 75 (.pick (.t 72) (.t 74) (.k (.bool false)))]) (.cnd (.t 75) (.seq (.reg [o 76 (.mov (.t 0)),o 77 (.mov (.t 1)),o 78 (.mov (.t 2)),o 79 (.mov (.t 4)),o 80 (.call q.partialInsertionSort [(.t 76),(.t 77),(.t 78),(.t 79)])]) (.cnd (.t 80) .ret .skip)) .skip)) (.seq (.seq (.drw [o 81 (.mov (.t 1)),o 82 (.bin .gtr (.t 81) (.k (.int .i64 0))),o 83 (.mov (.t 82)),og 84 83 true (.mov (.t 4)),og 85 83 true (.mov (.t 0)),og 86 83 true (.mov (.t 1)),og 87 83 true (.bin .sub (.t 86) (.k (.int .i64 1))),og 88 83 true (.iad z (.t 85) (.t 87)),og 89 83 true (.ld g z (.t 88)),og 90 83 true (.mov (.t 0)),og 91 83 true (.mov (.t 13)),og 92 83 true (.iad z (.t 90) (.t 91)),og 93 83 true (.ld g z (.t 92))] [og 94 83 true (.callv (.t 84) [(.t 89),(.t 93)]),og 95 83 true (.bin .lss (.t 94) (.k (.int .i64 0))),og 96 83 true (.un .not (.t 95)),o 97 (.pick (.t 83) (.t 96) (.k (.bool false)))]) (.cnd (.t 97) (.seq (.reg [o 98 (.mov (.t 0)),o 99 (.mov (.t 1)),o 100 (.mov (.t 2)),o 101 (.mov (.t 13)),o 102 (.mov (.t 4)),o 103 (.call q.partitionEqual [(.t 98),(.t 99),(.t 100),(.t 101),(.t 102)]),o 15 (.mov (.t 103))]) (.seq (.reg [o 104 (.mov (.t 15)),o 1 (.mov (.t 104))]) (.ext 1))) .skip)) (.seq (.reg [o 106 (.mov (.t 0)),o 107 (.mov (.t 1)),o 108 (.mov (.t 2)),o 109 (.mov (.t 13)),o 110 (.mov (.t 4)),o 111 (.call q.partition [(.t 106),(.t 107),(.t 108),(.t 109),(.t 110)]),o 105 (.mov (.t 111)),o 112 (.ext 0 (.t 105)),o 113 (.ext 1 (.t 105)),o 16 (.mov (.t 112)),o 17 (.mov (.t 113))]) (.seq (.reg [o 114 (.mov (.t 17)),o 11 (.mov (.t 114))]) (.seq (.reg [o 115 (.mov (.t 16)),o 116 (.mov (.t 1)),o 117 (.bin .sub (.t 115) (.t 116)),o 118 (.mov (.t 2)),o 119 (.mov (.t 16)),o 120 (.bin .sub (.t 118) (.t 119)),o 18 (.mov (.t 117)),o 19 (.mov (.t 120))]) (.seq (.reg [o 121 (.mov (.t 12)),o 122 (.bin .quo (.t 121) (.k (.int .i64 8))),o 20 (.mov (.t 122))]) (.seq (.reg [o 123 (.mov (.t 18)),o 124 (.mov (.t 19)),o 125 (.bin .lss (.t 123) (.t 124))]) (.cnd (.t 125) (.seq (.reg [o 126 (.mov (.t 18)),o 127 (.mov (.t 20)),o 128 (.bin .geq (.t 126) (.t 127)),o 10 (.mov (.t 128))]) (.seq (.reg [o 129 (.mov (.t 0)),o 130 (.mov (.t 1)),o 131 (.mov (.t 16)),o 132 (.mov (.t 3)),o 133 (.mov (.t 4)),o 134 (.call q.pdqsort [(.t 129),(.t 130),(.t 131),(.t 132),(.t 133)])]) (.reg [o 135 (.mov (.t 16)),o 136 (.bin .add (.t 135) (.k (.int .i64 1))),o 1 (.mov (.t 136))]))) (.seq (.reg [o 137 (.mov (.t 19)),o 138 (.mov (.t 20)),o 139 (.bin .geq (.t 137) (.t 138)),o 10 (.mov (.t 139))]) (.seq (.reg [o 140 (.mov (.t 0)),o 141 (.mov (.t 16)),o 142 (.bin .add (.t 141) (.k (.int .i64 1))),o 143 (.mov (.t 2)),o 144 (.mov (.t 3)),o 145 (.mov (.t 4)),o 146 (.call q.pdqsort [(.t 140),(.t 142),(.t 143),(.t 144),(.t 145)])]) (.reg [o 147 (.mov (.t 16)),o 2 (.mov (.t 147))]))))))))))))))))))))))⟩
def G_pdqsort_o (z:Nat) (g:Bool) (q:SN):Fn1:=⟨134,[],(.seq (.reg [o 8 (.mov (.k (.bool true)))]) (.seq (.reg [o 9 (.mov (.k (.bool true)))]) (.blk 0 (.lop (.blk 1 (.seq (.reg [o 19 (.mov (.t 2)),o 20 (.mov (.t 1)),o 21 (.bin .sub (.t 19) (.t 20)),o 10 (.mov (.t 21))]) (.seq (.seq (.reg [o 22 (.mov (.t 10)),o 23 (.bin .leq (.t 22) (.k (.int .i64 12)))]) (.cnd (.t 23) (.seq (.reg [o 24 (.mov (.t 0)),o 25 (.mov (.t 1)),o 26 (.mov (.t 2)),o 27 (.call q.insertionSort [(.t 24),(.t 25),(.t 26)])]) .ret) .skip)) (.seq (.seq (.reg [o 28 (.mov (.t 3)),o 29 (.bin .eql (.t 28) (.k (.int .i64 0)))]) (.cnd (.t 29) (.seq (.reg [o 30 (.mov (.t 0)),o 31 (.mov (.t 1)),o 32 (.mov (.t 2)),o 33 (.call q.heapSort [(.t 30),(.t 31),(.t 32)])]) .ret) .skip)) (.seq (.seq (.reg [o 34 (.mov (.t 8)),o 35 (.un .not (.t 34))]) (.cnd (.t 35) (.seq (.reg [o 36 (.mov (.t 0)),o 37 (.mov (.t 1)),o 38 (.mov (.t 2)),o 39 (.call q.breakPatterns [(.t 36),(.t 37),(.t 38)])]) (.reg [o 40 (.mov (.t 3)),o 41 (.bin .sub (.t 40) (.k (.int .i64 1))),o 3 (.mov (.t 41))])) .skip)) (.seq (.reg [o 43 (.mov (.t 0)),o 44 (.mov (.t 1)),o 45 (.mov (.t 2)),o 46 (.call q.choosePivot [(.t 43),(.t 44),(.t 45)]),o 42 (.mov (.t 46)),o 47 (.ext 0 (.t 42)),o 48 (.ext 1 (.t 42)),o 11 (.mov (.t 47)),o 12 (.mov (.t 48))]) (.seq (.seq (.reg [o 49 (.mov (.t 12)),o 50 (.bin .eql (.t 49) (.k (.int .i64 2)))]) (.cnd (.t 50) (.seq (.reg [o 51 (.mov (.t 0)),o 52 (.mov (.t 1)),o 53 (.mov (.t 2)),o 54 (.call q.reverseRange [(.t 51),(.t 52),(.t 53)])]) (.seq (.reg [o 55 (.mov (.t 2)),o 56 (.bin .sub (.t 55) (.k (.int .i64 1))),o 57 (.mov (.t 11)),o 58 (.mov (.t 1)),o 59 (.bin .sub (.t 57) (.t 58)),o 60 (.bin .sub (.t 56) (.t 59)),o 11 (.mov (.t 60))]) (.reg [o 12 (.mov (.k (.int .i64 1)))]))) .skip)) (.seq (.seq (.reg [o 61 (.mov (.t 8)),o 62 (.mov (.t 61)),og 63 62 true (.mov (.t 9)),o 64 (.pick (.t 62) (.t 63) (.k (.bool false))),o 65 (.mov (.t 64)),og 66 65 true (.mov (.t 12)),og 67 65 true (.bin .eql (.t 66) (.k (.int .i64 1))),o 68 (.pick (.t 65) (.t 67) (.k (.bool false)))]) (.cnd (.t 68) (.seq (.reg [o 69 (.mov (.t 0)),o 70 (.mov (.t 1)),o 71 (.mov (.t 2)),o 72 (.call q.partialInsertionSort [(.t 69),(.t 70),(.t 71)])]) (.cnd (.t 72) .ret .skip)) .skip)) (.seq (.seq (.drw [o 73 (.mov (.t 1)),o 74 (.bin .gtr (.t 73) (.k (.int .i64 0))),o 75 (.mov (.t 74)),og 76 75 true (.mov (.t 0)),og 77 75 true (.mov (.t 1)),og 78 75 true (.bin .sub (.t 77) (.k (.int .i64 1))),og 79 75 true (.iad z (.t 76) (.t 78)),og 80 75 true (.ld g z (.t 79)),og 81 75 true (.mov (.t 0)),og 82 75 true (.mov (.t 11)),og 83 75 true (.iad z (.t 81) (.t 82)),og 84 75 true (.ld g z (.t 83))] [og 85 75 true (.call q.less [(.t 80),(.t 84)]),og 86 75 true (.un .not (.t 85)),o 87 (.pick (.t 75) (.t 86) (.k (.bool false)))]) (.cnd (.t 87) (.seq (.reg [o 88 (.mov (.t 0)),o 89 (.mov (.t 1)),o 90 (.mov (.t 2)),o 91 (.mov (.t 11)),o 92 (.call q.partitionEqual [(.t 88),(.t 89),(.t 90),(.t 91)]),o 13 (.mov (.t 92))]) (.seq (.reg [o 93 (.mov (.t 13)),o 1 (.mov (.t 93))]) (.ext 1))) .skip)) (.seq (.reg [o 95 (.mov (.t 0)),o 96 (.mov (.t 1)),o 97 (.mov (.t 2)),o 98 (.mov (.t 11)),o 99 (.call q.partition [(.t 95),(.t 96),(.t 97),(.t 98)]),o 94 (.mov (.t 99)),o 100 (.ext 0 (.t 94)),o 101 (.ext 1 (.t 94)),o 14 (.mov (.t 100)),o 15 (.mov (.t 101))]) (.seq (.reg [o 102 (.mov (.t 15)),o 9 (.mov (.t 102))]) (.seq (.reg [o 103 (.mov (.t 14)),o 104 (.mov (.t 1)),o 105 (.bin .sub (.t 103) (.t 104)),o 106 (.mov (.t 2)),o 107 (.mov (.t 14)),o 108 (.bin .sub (.t 106) (.t 107)),o 16 (.mov (.t 105)),o 17 (.mov (.t 108))]) (.seq (.reg [o 109 (.mov (.t 10)),o 110 (.bin .quo (.t 109) (.k (.int .i64 8))),o 18 (.mov (.t 110))]) (.seq (.reg [o 111 (.mov (.t 16)),o 112 (.mov (.t 17)),o 113 (.bin .lss (.t 111) (.t 112))]) (.cnd (.t 113) (.seq (.reg [o 114 (.mov (.t 16)),o 115 (.mov (.t 18)),o 116 (.bin .geq (.t 114) (.t 115)),o 8 (.mov (.t 116))]) (.seq (.reg [o 117 (.mov (.t 0)),o 118 (.mov (.t 1)),o 119 (.mov (.t 14)),o 120 (.mov (.t 3)),o 121 (.call q.pdqsort [(.t 117),(.t 118),(.t 119),(.t 120)])]) (.reg [o 122 (.mov (.t 14)),o 123 (.bin .add (.t 122) (.k (.int .i64 1))),o 1 (.mov (.t 123))]))) (.seq (.reg [o 124 (.mov (.t 17)),o 125 (.mov (.t 18)),o 126 (.bin .geq (.t 124) (.t 125)),o 8 (.mov (.t 126))]) (.seq (.reg [o 127 (.mov (.t 0)),o 128 (.mov (.t 14)),o 129 (.bin .add (.t 128) (.k (.int .i64 1))),o 130 (.mov (.t 2)),o 131 (.mov (.t 3)),o 132 (.call q.pdqsort [(.t 127),(.t 129),(.t 130),(.t 131)])]) (.reg [o 133 (.mov (.t 14)),o 2 (.mov (.t 133))]))))))))))))))))))))))⟩
def G_reverseRange_c (z:Nat) (g:Bool) (q:SN):Fn1:=⟨34,[],(.seq (.reg [o 10 (.mov (.t 1)),o 8 (.mov (.t 10))]) (.seq (.reg [o 11 (.mov (.t 2)),o 12 (.bin .sub (.t 11) (.k (.int .i64 1))),o 9 (.mov (.t 12))]) (.blk 0 (.lop (.seq (.seq (.reg [o 13 (.mov (.t 8)),o 14 (.mov (.t 9)),o 15 (.bin .lss (.t 13) (.t 14))]) (.cnd (.t 15) .skip (.ext 0))) (.blk 1 (.seq (.drw [o 16 (.mov (.t 0)),o 17 (.mov (.t 8)),o 18 (.mov (.t 0)),o 19 (.mov (.t 9)),o 20 (.mov (.t 0)),o 21 (.mov (.t 9)),o 22 (.iad z (.t 20) (.t 21)),o 23 (.ld g z (.t 22)),o 24 (.mov (.t 0)),o 25 (.mov (.t 8)),o 26 (.iad z (.t 24) (.t 25)),o 27 (.ld g z (.t 26))] [o 28 (.iad z (.t 16) (.t 17)),on (.st z (.t 28) (.t 23)),o 29 (.iad z (.t 18) (.t 19)),on (.st z (.t 29) (.t 27))]) (.seq (.reg [o 30 (.mov (.t 8)),o 31 (.bin .add (.t 30) (.k (.int .i64 1))),o 8 (.mov (.t 31))]) (.reg [o 32 (.mov (.t 9)),o 33 (.bin .sub (.t 32) (.k (.int .i64 1))),o 9 (.mov (.t 33))])))))))))⟩
def G_reverseRange_o (z:Nat) (g:Bool) (q:SN):Fn1:=⟨32,[],(.seq (.reg [o 8 (.mov (.t 1)),o 6 (.mov (.t 8))]) (.seq (.reg [o 9 (.mov (.t 2)),o 10 (.bin .sub (.t 9) (.k (.int .i64 1))),o 7 (.mov (.t 10))]) (.blk 0 (.lop (.seq (.seq (.reg [o 11 (.mov (.t 6)),o 12 (.mov (.t 7)),o 13 (.bin .lss (.t 11) (.t 12))]) (.cnd (.t 13) .skip (.ext 0))) (.blk 1 (.seq (.drw [o 14 (.mov (.t 0)),o 15 (.mov (.t 6)),o 16 (.mov (.t 0)),o 17 (.mov (.t 7)),o 18 (.mov (.t 0)),o 19 (.mov (.t 7)),o 20 (.iad z (.t 18) (.t 19)),o 21 (.ld g z (.t 20)),o 22 (.mov (.t 0)),o 23 (.mov (.t 6)),o 24 (.iad z (.t 22) (.t 23)),o 25 (.ld g z (.t 24))] [o 26 (.iad z (.t 14) (.t 15)),on (.st z (.t 26) (.t 21)),o 27 (.iad z (.t 16) (.t 17)),on (.st z (.t 27) (.t 25))]) (.seq (.reg [o 28 (.mov (.t 6)),o 29 (.bin .add (.t 28) (.k (.int .i64 1))),o 6 (.mov (.t 29))]) (.reg [o 30 (.mov (.t 7)),o 31 (.bin .sub (.t 30) (.k (.int .i64 1))),o 7 (.mov (.t 31))])))))))))⟩
def G_siftDown_c (z:Nat) (g:Bool) (q:SN):Fn1:=⟨82,[],(.seq (.reg [o 12 (.mov (.t 1)),o 10 (.mov (.t 12))]) (.blk 0 (.lop (.blk 1 (.seq (.reg [o 13 (.mov (.t 10)),o 14 (.bin .mul (.k (.int .i64 2)) (.t 13)),o 15 (.bin .add (.t 14) (.k (.int .i64 1))),o 11 (.mov (.t 15))]) (.seq (.seq (.reg [o 16 (.mov (.t 11)),o 17 (.mov (.t 2)),o 18 (.bin .geq (.t 16) (.t 17))]) (.cnd (.t 18) (.ext 0) .skip)) (.seq (.seq (.drw [o 19 (.mov (.t 11)),o 20 (.bin .add (.t 19) (.k (.int .i64 1))),o 21 (.mov (.t 2)),o 22 (.bin .lss (.t 20) (.t 21)),o 23 (.mov (.t 22)),og 24 23 true (.mov (.t 4)),og 25 23 true (.mov (.t 0)),og 26 23 true (.mov (.t 3)),og 27 23 true (.mov (.t 11)),og 28 23 true (.bin .add (.t 26) (.t 27)),og 29 23 true (.iad z (.t 25) (.t 28)),og 30 23 true (.ld g z (.t 29)),og 31 23 true (.mov (.t 0)),og 32 23 true (.mov (.t 3)),og 33 23 true (.mov (.t 11)),og 34 23 true (.bin .add (.t 32) (.t 33)),og 35 23 true (.bin .add (.t 34) (.k (.int .i64 1))),og 36 23 true (.iad z (.t 31) (.t 35)),og 37 23 true (.ld g z (.t 36))] [og 38 23 true (.callv (.t 24) [(.t 30),(.t 37)]),og 39 23 true (.bin .lss (.t 38) (.k (.int .i64 0))),o 40 (.pick (.t 23) (.t 39) (.k (.bool false)))]) (.cnd (.t 40) (.reg [o 41 (.mov (.t 11)),o 42 (.bin .add (.t 41) (.k (.int .i64 1))),o 11 (.mov (.t 42))]) .skip)) (.seq (.seq (.drw [o 43 (.mov (.t 4)),o 44 (.mov (.t 0)),o 45 (.mov (.t 3)),o 46 (.mov (.t 10)),o 47 (.bin .add (.t 45) (.t 46)),o 48 (.iad z (.t 44) (.t 47)),o 49 (.ld g z (.t 48)),o 50 (.mov (.t 0)),o 51 (.mov (.t 3)),o 52 (.mov (.t 11)),o 53 (.bin .add (.t 51) (.t 52)),o 54 (.iad z (.t 50) (.t 53)),o 55 (.ld g z (.t 54))] [o 56 (.callv (.t 43) [(.t 49),(.t 55)]),o 57 (.bin .lss (.t 56) (.k (.int .i64 0))),o 58 (.un .not (.t 57))]) (.cnd (.t 58) .ret .skip)) (.seq (.drw [o 59 (.mov (.t 0)),o 60 (.mov (.t 3)),o 61 (.mov (.t 10)),o 62 (.bin .add (.t 60) (.t 61)),o 63 (.mov (.t 0)),o 64 (.mov (.t 3)),o 65 (.mov (.t 11)),o 66 (.bin .add (.t 64) (.t 65)),o 67 (.mov (.t 0)),o 68 (.mov (.t 3)),o 69 (.mov (.t 11)),o 70 (.bin .add (.t 68) (.t 69)),o 71 (.iad z (.t 67) (.t 70)),o 72 (.ld g z (.t 71)),o 73 (.mov (.t 0)),o 74 (.mov (.t 3)),o 75 (.mov (.t 10)),o 76 (.bin .add (.t 74) (.t 75)),o 77 (.iad z (.t 73) (.t 76)),o 78 (.ld g z (.t 77))] [o 79 (.iad z (.t 59) (.t 62)),on (.st z (.t 79) (.t 72)),o 80 (.iad z (.t 63) (.t 66)),on (.st z (.t 80) (.t 78))]) (.reg [o 81 (.mov (.t 11)),o 10 (.mov (.t 81))]))))))))))⟩
def G_siftDown_o (z:Nat) (g:Bool) (q:SN):Fn1:=⟨76,[],(.seq (.reg [o 10 (.mov (.t 1)),o 8 (.mov (.t 10))]) (.blk 0 (.lop (.blk 1 (.seq (.reg [o 11 (.mov (.t 8)),o 12 (.bin .mul (.k (.int .i64 2)) (.t 11)),o 13 (.bin .add (.t 12) (.k (.int .i64 1))),o 9 (.mov (.t 13))]) (.seq (.seq (.reg [o 14 (.mov (.t 9)),o 15 (.mov (.t 2)),o 16 (.bin .geq (.t 14) (.t 15))]) (.cnd (.t 16) (.ext 0) .skip)) (.seq (.seq (.drw [o 17 (.mov (.t 9)),o 18 (.bin .add (.t 17) (.k (.int .i64 1))),o 19 (.mov (.t 2)),o 20 (.bin .lss (.t 18) (.t 19)),o 21 (.mov (.t 20)),og 22 21 true (.mov (.t 0)),og 23 21 true (.mov (.t 3)),og 24 21 true (.mov (.t 9)),og 25 21 true (.bin .add (.t 23) (.t 24)),og 26 21 true (.iad z (.t 22) (.t 25)),og 27 21 true (.ld g z (.t 26)),og 28 21 true (.mov (.t 0)),og 29 21 true (.mov (.t 3)),og 30 21 true (.mov (.t 9)),og 31 21 true (.bin .add (.t 29) (.t 30)),og 32 21 true (.bin .add (.t 31) (.k (.int .i64 1))),og 33 21 true (.iad z (.t 28) (.t 32)),og 34 21 true (.ld g z (.t 33))] [og 35 21 true (.call q.less [(.t 27),(.t 34)]),o 36 (.pick (.t 21) (.t 35) (.k (.bool false)))]) (.cnd (.t 36) (.reg [o 37 (.mov (.t 9)),o 38 (.bin .add (.t 37) (.k (.int .i64 1))),o 9 (.mov (.t 38))]) .skip)) (.seq (.seq (.drw [o 39 (.mov (.t 0)),o 40 (.mov (.t 3)),o 41 (.mov (.t 8)),o 42 (.bin .add (.t 40) (.t 41)),o 43 (.iad z (.t 39) (.t 42)),o 44 (.ld g z (.t 43)),o 45 (.mov (.t 0)),o 46 (.mov (.t 3)),o 47 (.mov (.t 9)),o 48 (.bin .add (.t 46) (.t 47)),o 49 (.iad z (.t 45) (.t 48)),o 50 (.ld g z (.t 49))] [o 51 (.call q.less [(.t 44),(.t 50)]),o 52 (.un .not (.t 51))]) (.cnd (.t 52) .ret .skip)) (.seq (.drw [o 53 (.mov (.t 0)),o 54 (.mov (.t 3)),o 55 (.mov (.t 8)),o 56 (.bin .add (.t 54) (.t 55)),o 57 (.mov (.t 0)),o 58 (.mov (.t 3)),o 59 (.mov (.t 9)),o 60 (.bin .add (.t 58) (.t 59)),o 61 (.mov (.t 0)),o 62 (.mov (.t 3)),o 63 (.mov (.t 9)),o 64 (.bin .add (.t 62) (.t 63)),o 65 (.iad z (.t 61) (.t 64)),o 66 (.ld g z (.t 65)),o 67 (.mov (.t 0)),o 68 (.mov (.t 3)),o 69 (.mov (.t 8)),o 70 (.bin .add (.t 68) (.t 69)),o 71 (.iad z (.t 67) (.t 70)),o 72 (.ld g z (.t 71))] [o 73 (.iad z (.t 53) (.t 56)),on (.st z (.t 73) (.t 66)),o 74 (.iad z (.t 57) (.t 60)),on (.st z (.t 74) (.t 72))]) (.reg [o 75 (.mov (.t 9)),o 8 (.mov (.t 75))]))))))))))⟩
def G_Compact (z:Nat) (g:Bool) (ze:List GV):Fn1:=⟨61,[.t 2],(.seq (.reg [o 2 (.mov (.k .nilS))]) (.seq (.seq (.reg [o 6 (.mov (.t 0)),o 7 (.len false (.t 6)),o 8 (.bin .lss (.t 7) (.k (.int .i64 2)))]) (.cnd (.t 8) (.seq (.reg [o 9 (.mov (.t 0)),o 2 (.mov (.t 9))]) .ret) .skip)) (.seq (.seq (.reg [o 3 (.mov (.k (.int .i64 1)))]) (.blk 0 (.lop (.seq (.seq (.reg [o 10 (.mov (.t 3)),o 11 (.mov (.t 0)),o 12 (.len false (.t 11)),o 13 (.bin .lss (.t 10) (.t 12))]) (.cnd (.t 13) .skip (.ext 0))) (.seq (.blk 1 (.seq (.drw [o 16 (.mov (.t 0)),o 17 (.mov (.t 3)),o 18 (.iad z (.t 16) (.t 17)),o 19 (.ld g z (.t 18)),o 20 (.mov (.t 0)),o 21 (.mov (.t 3)),o 22 (.bin .sub (.t 21) (.k (.int .i64 1))),o 23 (.iad z (.t 20) (.t 22)),o 24 (.ld g z (.t 23))] [o 25 (.bin .eql (.t 19) (.t 24))]) (.cnd (.t 25) (.seq (.reg [o 26 (.mov (.t 0)),o 27 (.mov (.t 3)),o 28 (.cut z (.t 26) (some (.t 27)) none),o 4 (.mov (.t 28))]) (.seq (.seq (.reg [o 5 (.mov (.k (.int .i64 1)))]) (.blk 2 (.lop (.seq (.seq (.reg [o 29 (.mov (.t 5)),o 30 (.mov (.t 4)),o 31 (.len false (.t 30)),o 32 (.bin .lss (.t 29) (.t 31))]) (.cnd (.t 32) .skip (.ext 2))) (.seq (.blk 3 (.seq (.drw [o 35 (.mov (.t 4)),o 36 (.mov (.t 5)),o 37 (.iad z (.t 35) (.t 36)),o 38 (.ld g z (.t 37)),o 39 (.mov (.t 4)),o 40 (.mov (.t 5)),o 41 (.bin .sub (.t 40) (.k (.int .i64 1))),o 42 (.iad z (.t 39) (.t 41)),o 43 (.ld g z (.t 42))] [o 44 (.bin .neq (.t 38) (.t 43))]) (.cnd (.t 44) (.seq (.reg [o 45 (.mov (.t 0)),o 46 (.mov (.t 3)),o 47 (.mov (.t 4)),o 48 (.mov (.t 5)),o 49 (.iad z (.t 47) (.t 48)),o 50 (.ld g z (.t 49)),o 51 (.iad z (.t 45) (.t 46)),on (.st z (.t 51) (.t 50))]) (.reg [o 52 (.mov (.t 3)),o 53 (.bin .add (.t 52) (.k (.int .i64 1))),o 3 (.mov (.t 53))])) .skip))) (.reg [o 33 (.mov (.t 5)),o 34 (.bin .add (.t 33) (.k (.int .i64 1))),o 5 (.mov (.t 34))])))))) (.seq (.reg [o 54 (.mov (.t 0)),o 55 (.mov (.t 3)),o 56 (.cut z (.t 54) (some (.t 55)) none),on (.clr z ze (.t 56))]) (.seq (.reg [o 57 (.mov (.t 0)),o 58 (.mov (.t 3)),o 59 (.cut z (.t 57) none (some (.t 58))),o 2 (.mov (.t 59))]) .ret)))) .skip))) (.reg [o 14 (.mov (.t 3)),o 15 (.bin .add (.t 14) (.k (.int .i64 1))),o 3 (.mov (.t 15))])))))) (.seq (.reg [o 60 (.mov (.t 0)),o 2 (.mov (.t 60))]) .ret))))⟩
def G_Sort_o (z:Nat) (g:Bool) (q:SN):Fn1:=⟨11,[],(.seq (.reg [o 3 (.mov (.t 0)),o 4 (.len false (.t 3)),o 2 (.mov (.t 4))]) (.reg [o 5 (.mov (.t 0)),o 6 (.mov (.t 2)),o 7 (.mov (.t 2)),o 8 (.cvi .u64 (.t 7)),o 9 (.call n_math_bits_Len [(.t 8)]),o 10 (.call q.pdqsort [(.t 5),(.k (.int .i64 0)),(.t 6),(.t 9)])]))⟩
def G_Sort_c (z:Nat) (g:Bool) (q:SN):Fn1:=⟨14,[],(.seq (.reg [o 5 (.mov (.t 0)),o 6 (.len false (.t 5)),o 4 (.mov (.t 6))]) (.reg [o 7 (.mov (.t 0)),o 8 (.mov (.t 4)),o 9 (.mov (.t 4)),o 10 (.cvi .u64 (.t 9)),o 11 (.call n_math_bits_Len [(.t 10)]),o 12 (.mov (.t 1)),o 13 (.call q.pdqsort [(.t 7),(.k (.int .i64 0)),(.t 8),(.t 11),(.t 12)])]))⟩
structure SrtO (α:Type) [Inhabited α] (lt:α→α→Bool) where
 e:El α
 q:SN
 call:∀ σ x y,Ret Tryz.prog q.less [e.val x,e.val y] σ (.bool (lt x y)) σ
 h_insertionSort:compFn Tryz.prog q.insertionSort=some (G_insertionSort_o e.p.z e.g q)
 h_siftDown:compFn Tryz.prog q.siftDown=some (G_siftDown_o e.p.z e.g q)
 h_heapSort:compFn Tryz.prog q.heapSort=some (G_heapSort_o e.p.z e.g q)
 h_reverseRange:compFn Tryz.prog q.reverseRange=some (G_reverseRange_o e.p.z e.g q)
 h_partialInsertionSort:compFn Tryz.prog q.partialInsertionSort=some (G_partialInsertionSort_o e.p.z e.g q)
 h_partitionEqual:compFn Tryz.prog q.partitionEqual=some (G_partitionEqual_o e.p.z e.g q)
 h_partition:compFn Tryz.prog q.partition=some (G_partition_o e.p.z e.g q)
 h_breakPatterns:compFn Tryz.prog q.breakPatterns=some (G_breakPatterns_o e.p.z e.g q)
 h_order2:compFn Tryz.prog q.order2=some (G_order2_o e.p.z e.g q)
 h_median:compFn Tryz.prog q.median=some (G_median_o e.p.z e.g q)
 h_medianAdjacent:compFn Tryz.prog q.medianAdjacent=some (G_medianAdjacent_o e.p.z e.g q)
 h_choosePivot:compFn Tryz.prog q.choosePivot=some (G_choosePivot_o e.p.z e.g q)
 h_pdqsort:compFn Tryz.prog q.pdqsort=some (G_pdqsort_o e.p.z e.g q)
 nS:Nat
 h_Sort:compFn Tryz.prog nS=some (G_Sort_o e.p.z e.g q)
 hnp:q.slices_nextPowerOfTwo=n_slices_nextPowerOfTwo
 hxs:q.slices_xorshift_Next=n_slices_xorshift_Next
structure SrtC (α:Type) [Inhabited α] (lt:α→α→Bool) where
 e:El α
 q:SN
 f:Nat
 k:α→α→Int
 call:∀ σ x y,Ret Tryz.prog f [e.val x,e.val y] σ (gi (k x y)) σ
 klt:∀ x y,decide (k x y<0)=lt x y
 h_insertionSort:compFn Tryz.prog q.insertionSort=some (G_insertionSort_c e.p.z e.g q)
 h_siftDown:compFn Tryz.prog q.siftDown=some (G_siftDown_c e.p.z e.g q)
 h_heapSort:compFn Tryz.prog q.heapSort=some (G_heapSort_c e.p.z e.g q)
 h_reverseRange:compFn Tryz.prog q.reverseRange=some (G_reverseRange_c e.p.z e.g q)
 h_partialInsertionSort:compFn Tryz.prog q.partialInsertionSort=some (G_partialInsertionSort_c e.p.z e.g q)
 h_partitionEqual:compFn Tryz.prog q.partitionEqual=some (G_partitionEqual_c e.p.z e.g q)
 h_partition:compFn Tryz.prog q.partition=some (G_partition_c e.p.z e.g q)
 h_breakPatterns:compFn Tryz.prog q.breakPatterns=some (G_breakPatterns_c e.p.z e.g q)
 h_order2:compFn Tryz.prog q.order2=some (G_order2_c e.p.z e.g q)
 h_median:compFn Tryz.prog q.median=some (G_median_c e.p.z e.g q)
 h_medianAdjacent:compFn Tryz.prog q.medianAdjacent=some (G_medianAdjacent_c e.p.z e.g q)
 h_choosePivot:compFn Tryz.prog q.choosePivot=some (G_choosePivot_c e.p.z e.g q)
 h_pdqsort:compFn Tryz.prog q.pdqsort=some (G_pdqsort_c e.p.z e.g q)
 nS:Nat
 h_Sort:compFn Tryz.prog nS=some (G_Sort_c e.p.z e.g q)
 hnp:q.slices_nextPowerOfTwo=n_slices_nextPowerOfTwo
 hxs:q.slices_xorshift_Next=n_slices_xorshift_Next
end Go.Proofs.YtbeoiejnogdkpaaGreat.Sy
namespace Go.Proofs.YtbeoiejnogdkpaaGreat.Sy.C
open Go Go.RowKit Go.Proofs.YtbeoiejnogdkpaaGreat.Sy Go.Sort
set_option linter.unusedSimpArgs false
set_option linter.unusedVariables false
set_option maxRecDepth 4000
variable {α:Type} [Inhabited α] {lt:α→α→Bool} {σ0 σ:St} {rs:List Thg} {k:Nat} {v:GV} {d:Array α}
end Go.Proofs.YtbeoiejnogdkpaaGreat.Sy.C
namespace Go.Proofs.YtbeoiejnogdkpaaGreat.Sy.C
open Go Go.RowKit Go.Proofs.YtbeoiejnogdkpaaGreat.Sy Go.Sort
set_option linter.unusedSimpArgs false
set_option linter.unusedVariables false
set_option maxRecDepth 4000
variable {α:Type} [Inhabited α] {lt:α→α→Bool} {σ0 σ:St} {rs:List Thg} {k:Nat} {v:GV} {d:Array α}
end Go.Proofs.YtbeoiejnogdkpaaGreat.Sy.C
namespace Go.Proofs.YtbeoiejnogdkpaaGreat.Sy.C
open Go Go.RowKit Go.Proofs.YtbeoiejnogdkpaaGreat.Sy Go.Sort
set_option linter.unusedSimpArgs false
set_option linter.unusedVariables false
set_option maxRecDepth 4000
variable {α:Type} [Inhabited α] {lt:α→α→Bool} {σ0 σ:St} {rs:List Thg} {k:Nat} {v:GV} {d:Array α}
end Go.Proofs.YtbeoiejnogdkpaaGreat.Sy.C
namespace Go.Proofs.YtbeoiejnogdkpaaGreat.Sy.C
open Go Go.RowKit Go.Proofs.YtbeoiejnogdkpaaGreat.Sy Go.Sort
set_option linter.unusedSimpArgs false
set_option linter.unusedVariables false
set_option maxRecDepth 4000
variable {α:Type} [Inhabited α] {lt:α→α→Bool} {σ0 σ:St} {rs:List Thg} {k:Nat} {v:GV} {d:Array α}
end Go.Proofs.YtbeoiejnogdkpaaGreat.Sy.C
namespace Go.Proofs.YtbeoiejnogdkpaaGreat.Sy
open Go Go.RowKit Go.Sort
set_option linter.unusedSimpArgs false
set_option linter.unusedVariables false
set_option maxRecDepth 10000
theorem wrapU64 {m:Int} (h:0≤m) (h':m≤18446744073709551615):IntKind.u64.wrap m=m:=by
 show(if (false&&decide (m % 2 ^ 64≥2 ^ 63))=true then m % 2 ^ 64 - 2 ^ 64 else m % 2 ^ 64)=m
 simp only[Bool.false_and,Bool.false_eq_true,if_false]
 omega
theorem shrU {x:Nat} {c:Nat} (hc:c≤64):shiftG .shr .u64 (x:Int) (c:Int)=some (.int .u64 ((x / 2 ^ c:Nat):Int)):=by
 have h2:(2:Int) ^ c=((2 ^ c:Nat):Int):=by simp
 unfold shiftG
 rw[if_neg (by omega)]
 show some (GV.int .u64 (Int.fdiv (x:Int) (2 ^ min ((c:Int).toNat) 64)))=_
 rw[Int.toNat_natCast,Nat.min_eq_left hc,h2,Int.ofNat_fdiv]
end Go.Proofs.YtbeoiejnogdkpaaGreat.Sy
namespace Go.Proofs.YtbeoiejnogdkpaaGreat.Sy.C
open Go Go.RowKit Go.Proofs.YtbeoiejnogdkpaaGreat.Sy Go.Sort
set_option linter.unusedSimpArgs false
set_option linter.unusedVariables false
set_option maxRecDepth 4000
variable {α:Type} [Inhabited α] {lt:α→α→Bool} {σ0 σ:St} {rs:List Thg} {k g:Nat} {s:Int} {v:GV} {d:Array α}
end Go.Proofs.YtbeoiejnogdkpaaGreat.Sy.C
namespace Go.Proofs.YtbeoiejnogdkpaaGreat.Sy.C
open Go Go.RowKit Go.Proofs.YtbeoiejnogdkpaaGreat.Sy Go.Sort
set_option linter.unusedSimpArgs false
set_option linter.unusedVariables false
set_option maxRecDepth 4000
variable {α:Type} [Inhabited α] {lt:α→α→Bool} {σ0:St} {rs:List Thg} {k:Nat} {v:GV}
end Go.Proofs.YtbeoiejnogdkpaaGreat.Sy.C
namespace Go.Proofs.YtbeoiejnogdkpaaGreat.Sy.C
open Go Go.RowKit Go.Proofs.YtbeoiejnogdkpaaGreat.Sy Go.Sort
set_option linter.unusedSimpArgs false
set_option linter.unusedVariables false
set_option maxRecDepth 4000
variable {α:Type} [Inhabited α] {lt:α→α→Bool} {σ0 σ:St} {rs:List Thg} {v:GV}
end Go.Proofs.YtbeoiejnogdkpaaGreat.Sy.C
namespace Go.Proofs.YtbeoiejnogdkpaaGreat.Sy
open Go Go.RowKit
set_option linter.unusedSimpArgs false
set_option linter.unusedVariables false
set_option maxRecDepth 4000
abbrev n_i_compareCells:Nat:=361
def F_i_compareCells:Fn1:=⟨17,[.t 4],(.seq (.reg [o 2 (.box (.t 0)),o 3 (.box (.t 1)),o 4 (.mov (.k (.int .i64 0)))]) (.seq (.drw [o 5 (.fad 3 (.t 3)),o 6 (.ld false 1 (.t 5)),o 7 (.fad 3 (.t 2)),o 8 (.ld false 1 (.t 7)),o 9 (.call 106 [(.t 6),(.t 8)]),o 10 (.fad 1 (.t 3)),o 11 (.ld true 2 (.t 10)),o 12 (.fad 1 (.t 2)),o 13 (.ld true 2 (.t 12))] [o 14 (.call 306 [(.t 11),(.t 13)]),o 15 (.lit 1 2 [(.int .i64 0),(.int .i64 0)] [(0,1,(.t 9)),(1,1,(.t 14))]),o 16 (.call 105 [(.t 15)]),o 4 (.mov (.t 16))]) .ret))⟩
theorem ir_i_compareCells:compFn Tryz.prog n_i_compareCells=some F_i_compareCells:=by kernel_rfl
abbrev n_slices_SortFunc_impl_Cell_impl_Cell:Nat:=360
abbrev n_slices_pdqsortCmpFunc_impl_Cell:Nat:=389
abbrev n_slices_insertionSortCmpFunc_impl_Cell:Nat:=405
abbrev n_slices_siftDownCmpFunc_impl_Cell:Nat:=432
abbrev n_slices_heapSortCmpFunc_impl_Cell:Nat:=406
abbrev n_slices_reverseRangeCmpFunc_impl_Cell:Nat:=409
abbrev n_slices_partialInsertionSortCmpFunc_impl_Cell:Nat:=410
abbrev n_slices_partitionEqualCmpFunc_impl_Cell:Nat:=411
abbrev n_slices_partitionCmpFunc_impl_Cell:Nat:=412
abbrev n_slices_breakPatternsCmpFunc_impl_Cell:Nat:=407
abbrev n_slices_order2CmpFunc_impl_Cell:Nat:=442
abbrev n_slices_medianCmpFunc_impl_Cell:Nat:=434
abbrev n_slices_medianAdjacentCmpFunc_impl_Cell:Nat:=433
abbrev n_slices_choosePivotCmpFunc_impl_Cell:Nat:=408
instance:Inhabited Cell:=⟨{obj:=.empty,dot:=⟨0,0⟩,time:=0,ref:=⟨0,0⟩,val:=0,gone:=false}⟩
def elCell:El Cell:=⟨pCell,true,fun x=>.agg (pCell.enc x),fun _=>rfl,fun _=>rfl,by decide⟩
def cmpCell (a b:Cell):Int:=orI (cmpI b.time a.time) (cmpDot b.dot a.dot)
theorem cmpCell_lt (a b:Cell):decide (cmpCell a b<0)=later a b:=by
 have key:cmpCell a b<0↔later a b=true:=by
  have h:cmpDot b.dot a.dot<0↔dotLt b.dot a.dot=true:=by
   have h:= @cmpDot_lt b.dot a.dot
   rw[← h];simp
  have h1:= @cmpI_neg b.time a.time
  have h2:= @cmpI_eq b.time a.time
  simp only[later,Bool.or_eq_true,Bool.and_eq_true,decide_eq_true_eq]
  unfold cmpCell orI
  by_cases hz:cmpI b.time a.time=0
  ·rw[if_pos hz,h]
   have:=h2.1 hz
   constructor
   ·intro h5;exact .inr ⟨this.symm,h5⟩
   ·rintro(h5|h5)
    ·omega
    ·exact h5.2
  ·rw[if_neg hz,h1]
   have:¬ b.time=a.time:=fun e=>hz (h2.2 e)
   constructor
   ·intro h5;exact .inl h5
   ·rintro(h5|h5)
    ·exact h5
    ·exact absurd h5.1.symm this
 rw[Bool.eq_iff_iff,decide_eq_true_eq]
 exact key
theorem i_compareCells_ret (σ:St) (a b:Cell):Ret Tryz.prog n_i_compareCells [elCell.val a,elCell.val b] σ (gi (cmpCell a b)) σ:=by
 show Ret Tryz.prog n_i_compareCells [.agg (pCell.enc a),.agg (pCell.enc b)] σ (gi (cmpCell a b)) σ
 simp only[enc_Cell]
 refine ret_eq ir_i_compareCells (Nat.le_of_ble_eq_true rfl) trivial ?_
 simp +contextual (disch:=omega) only[go_sem,F_i_compareCells]
 refine by_ret (cmp_Compare_int_ret _ _ _) ?_
 simp +contextual (disch:=omega) only[go_sem]
 refine by_ret (i_compareDots_ret _ _ _) ?_
 simp +contextual (disch:=omega) only[go_sem]
 refine by_ret (cmp_Or_int_ret _ _ [cmpI b.time a.time,cmpDot b.dot a.dot] (RS_lit (p:=pI) _ _ rfl rfl rfl) (by simp)) ?_
 simp +contextual (disch:=omega) only[go_sem,orL_two]
 rfl
def qCell:SN:=⟨n_slices_insertionSortCmpFunc_impl_Cell,n_slices_siftDownCmpFunc_impl_Cell,n_slices_heapSortCmpFunc_impl_Cell,n_slices_reverseRangeCmpFunc_impl_Cell,n_slices_partialInsertionSortCmpFunc_impl_Cell,n_slices_partitionEqualCmpFunc_impl_Cell,n_slices_partitionCmpFunc_impl_Cell,n_slices_breakPatternsCmpFunc_impl_Cell,n_slices_order2CmpFunc_impl_Cell,n_slices_medianCmpFunc_impl_Cell,n_slices_medianAdjacentCmpFunc_impl_Cell,n_slices_choosePivotCmpFunc_impl_Cell,n_slices_pdqsortCmpFunc_impl_Cell,0,n_slices_nextPowerOfTwo,n_slices_xorshift_Next⟩
def srtCell:SrtC Cell later where
 e:=elCell
 q:=qCell
 f:=n_i_compareCells
 k:=cmpCell
 call:=i_compareCells_ret
 klt:=cmpCell_lt
 h_insertionSort:=by kernel_rfl
 h_siftDown:=by kernel_rfl
 h_heapSort:=by kernel_rfl
 h_reverseRange:=by kernel_rfl
 h_partialInsertionSort:=by kernel_rfl
 h_partitionEqual:=by kernel_rfl
 h_partition:=by kernel_rfl
 h_breakPatterns:=by kernel_rfl
 h_order2:=by kernel_rfl
 h_median:=by kernel_rfl
 h_medianAdjacent:=by kernel_rfl
 h_choosePivot:=by kernel_rfl
 h_pdqsort:=by kernel_rfl
 nS:=n_slices_SortFunc_impl_Cell_impl_Cell
 h_Sort:=by kernel_rfl
 hnp:=rfl
 hxs:=rfl
end Go.Proofs.YtbeoiejnogdkpaaGreat.Sy
namespace Go.Proofs.YtbeoiejnogdkpaaGreat.Sy
open Go Go.RowKit
set_option linter.unusedSimpArgs false
set_option linter.unusedVariables false
set_option maxRecDepth 4000
abbrev n_s_l08Later:Nat:=323
def F_s_l08Later:Fn1:=⟨36,[.t 4],(.seq (.reg [o 2 (.box (.t 0)),o 3 (.box (.t 1)),o 4 (.mov (.k (.bool false)))]) (.seq (.seq (.reg [o 5 (.fad 3 (.t 2)),o 6 (.ld false 1 (.t 5)),o 7 (.fad 3 (.t 3)),o 8 (.ld false 1 (.t 7)),o 9 (.bin .neq (.t 6) (.t 8))]) (.cnd (.t 9) (.seq (.reg [o 10 (.fad 3 (.t 2)),o 11 (.ld false 1 (.t 10)),o 12 (.fad 3 (.t 3)),o 13 (.ld false 1 (.t 12)),o 14 (.bin .gtr (.t 11) (.t 13)),o 4 (.mov (.t 14))]) .ret) .skip)) (.seq (.seq (.reg [o 15 (.fad 1 (.t 2)),o 16 (.fad 0 (.t 15)),o 17 (.ld false 1 (.t 16)),o 18 (.fad 1 (.t 3)),o 19 (.fad 0 (.t 18)),o 20 (.ld false 1 (.t 19)),o 21 (.bin .neq (.t 17) (.t 20))]) (.cnd (.t 21) (.seq (.reg [o 22 (.fad 1 (.t 2)),o 23 (.fad 0 (.t 22)),o 24 (.ld false 1 (.t 23)),o 25 (.fad 1 (.t 3)),o 26 (.fad 0 (.t 25)),o 27 (.ld false 1 (.t 26)),o 28 (.bin .gtr (.t 24) (.t 27)),o 4 (.mov (.t 28))]) .ret) .skip)) (.seq (.reg [o 29 (.fad 1 (.t 2)),o 30 (.fad 1 (.t 29)),o 31 (.ld false 1 (.t 30)),o 32 (.fad 1 (.t 3)),o 33 (.fad 1 (.t 32)),o 34 (.ld false 1 (.t 33)),o 35 (.bin .gtr (.t 31) (.t 34)),o 4 (.mov (.t 35))]) .ret))))⟩
abbrev n_s_l08Below:Nat:=251
def F_s_l08Below:Fn1:=⟨97,[.t 8],(.seq (.reg [o 4 (.box (.t 0)),o 6 (.box (.t 2)),o 8 (.mov (.k .nilS))]) (.seq (.reg [o 16 (.lit 8 0 [] []),o 9 (.mov (.t 16))]) (.seq (.seq (.reg [o 10 (.mov (.k (.int .i64 0)))]) (.blk 0 (.lop (.seq (.seq (.reg [o 17 (.mov (.t 10)),o 18 (.fad 3 (.t 4)),o 19 (.ld false 1 (.t 18)),o 20 (.len false (.t 19)),o 21 (.bin .lss (.t 17) (.t 20))]) (.cnd (.t 21) .skip (.ext 0))) (.seq (.blk 1 (.seq (.reg [o 24 (.fad 3 (.t 4)),o 25 (.ld false 1 (.t 24)),o 26 (.mov (.t 10)),o 27 (.iad 8 (.t 25) (.t 26)),o 28 (.ld true 8 (.t 27)),o 11 (.new [(.str ⟨#[]⟩),(.int .i64 0),(.int .i64 0),(.int .i64 0),(.int .i64 0),(.int .i64 0),(.int .i64 0),(.bool false)]),on (.st 8 (.t 11) (.t 28))]) (.seq (.seq (.reg [o 29 (.fad 0 (.t 11)),o 30 (.ld false 1 (.t 29)),o 31 (.mov (.t 1)),o 32 (.bin .neq (.t 30) (.t 31)),o 33 (.mov (.t 32)),og 34 33 false (.fad 4 (.t 11)),og 35 33 false (.ld true 2 (.t 34)),og 36 33 false (.ld true 2 (.t 6)),og 37 33 false (.eqs true [.i .i64,.i .i64] (.t 35) (.t 36)),o 38 (.pick (.t 33) (.k (.bool true)) (.t 37))]) (.cnd (.t 38) (.ext 1) .skip)) (.seq (.reg [o 39 (.lit 8 0 [] []),o 12 (.mov (.t 39))]) (.seq (.reg [o 13 (.mov (.k (.bool false)))]) (.seq (.seq (.reg [o 14 (.mov (.k (.int .i64 0)))]) (.blk 2 (.lop (.seq (.seq (.reg [o 40 (.mov (.t 14)),o 41 (.mov (.t 9)),o 42 (.len false (.t 41)),o 43 (.bin .lss (.t 40) (.t 42))]) (.cnd (.t 43) .skip (.ext 2))) (.seq (.blk 3 (.seq (.seq (.drw [o 46 (.mov (.t 13)),o 47 (.un .not (.t 46)),o 48 (.mov (.t 47)),og 49 48 true (.ld true 8 (.t 11)),og 50 48 true (.mov (.t 9)),og 51 48 true (.mov (.t 14)),og 52 48 true (.iad 8 (.t 50) (.t 51)),og 53 48 true (.ld true 8 (.t 52))] [og 54 48 true (.call 323 [(.t 49),(.t 53)]),o 55 (.pick (.t 48) (.t 54) (.k (.bool false)))]) (.cnd (.t 55) (.seq (.reg [o 56 (.mov (.t 12)),o 57 (.ld true 8 (.t 11)),o 58 (.lit 8 1 [(.str ⟨#[]⟩),(.int .i64 0),(.int .i64 0),(.int .i64 0),(.int .i64 0),(.int .i64 0),(.int .i64 0),(.bool false)] [(0,8,(.t 57))]),o 59 (.app 8 72 [(.str ⟨#[]⟩),(.int .i64 0),(.int .i64 0),(.int .i64 0),(.int .i64 0),(.int .i64 0),(.int .i64 0),(.bool false)] (.t 56) (.t 58)),o 12 (.mov (.t 59))]) (.reg [o 13 (.mov (.k (.bool true)))])) .skip)) (.reg [o 60 (.mov (.t 12)),o 61 (.mov (.t 9)),o 62 (.mov (.t 14)),o 63 (.iad 8 (.t 61) (.t 62)),o 64 (.ld true 8 (.t 63)),o 65 (.lit 8 1 [(.str ⟨#[]⟩),(.int .i64 0),(.int .i64 0),(.int .i64 0),(.int .i64 0),(.int .i64 0),(.int .i64 0),(.bool false)] [(0,8,(.t 64))]),o 66 (.app 8 72 [(.str ⟨#[]⟩),(.int .i64 0),(.int .i64 0),(.int .i64 0),(.int .i64 0),(.int .i64 0),(.int .i64 0),(.bool false)] (.t 60) (.t 65)),o 12 (.mov (.t 66))]))) (.reg [o 44 (.mov (.t 14)),o 45 (.bin .add (.t 44) (.k (.int .i64 1))),o 14 (.mov (.t 45))])))))) (.seq (.seq (.reg [o 67 (.mov (.t 13)),o 68 (.un .not (.t 67))]) (.cnd (.t 68) (.reg [o 69 (.mov (.t 12)),o 70 (.ld true 8 (.t 11)),o 71 (.lit 8 1 [(.str ⟨#[]⟩),(.int .i64 0),(.int .i64 0),(.int .i64 0),(.int .i64 0),(.int .i64 0),(.int .i64 0),(.bool false)] [(0,8,(.t 70))]),o 72 (.app 8 72 [(.str ⟨#[]⟩),(.int .i64 0),(.int .i64 0),(.int .i64 0),(.int .i64 0),(.int .i64 0),(.int .i64 0),(.bool false)] (.t 69) (.t 71)),o 12 (.mov (.t 72))]) .skip)) (.reg [o 73 (.mov (.t 12)),o 9 (.mov (.t 73))])))))))) (.reg [o 22 (.mov (.t 10)),o 23 (.bin .add (.t 22) (.k (.int .i64 1))),o 10 (.mov (.t 23))])))))) (.seq (.seq (.reg [o 15 (.mov (.k (.int .i64 0)))]) (.blk 4 (.lop (.seq (.seq (.reg [o 74 (.mov (.t 15)),o 75 (.mov (.t 9)),o 76 (.len false (.t 75)),o 77 (.bin .lss (.t 74) (.t 76))]) (.cnd (.t 77) .skip (.ext 4))) (.seq (.blk 5 (.seq (.reg [o 80 (.mov (.t 3)),o 81 (.mov (.t 9)),o 82 (.mov (.t 15)),o 83 (.iad 8 (.t 81) (.t 82)),o 84 (.ld true 8 (.t 83)),o 85 (.lit 8 1 [(.str ⟨#[]⟩),(.int .i64 0),(.int .i64 0),(.int .i64 0),(.int .i64 0),(.int .i64 0),(.int .i64 0),(.bool false)] [(0,8,(.t 84))]),o 86 (.app 8 72 [(.str ⟨#[]⟩),(.int .i64 0),(.int .i64 0),(.int .i64 0),(.int .i64 0),(.int .i64 0),(.int .i64 0),(.bool false)] (.t 80) (.t 85)),o 3 (.mov (.t 86))]) (.drw [o 87 (.ld true 4 (.t 4)),o 88 (.mov (.t 1)),o 89 (.mov (.t 9)),o 90 (.mov (.t 15)),o 91 (.iad 8 (.t 89) (.t 90)),o 92 (.fad 1 (.t 91)),o 93 (.ld true 2 (.t 92))] [o 94 (.mov (.t 3)),o 95 (.call 251 [(.t 87),(.t 88),(.t 93),(.t 94)]),o 3 (.mov (.t 95))]))) (.reg [o 78 (.mov (.t 15)),o 79 (.bin .add (.t 78) (.k (.int .i64 1))),o 15 (.mov (.t 79))])))))) (.seq (.reg [o 96 (.mov (.t 3)),o 8 (.mov (.t 96))]) .ret)))))⟩
abbrev n_s_l08Row:Nat:=145
def F_s_l08Row:Fn1:=⟨10,[.t 4],(.seq (.reg [o 2 (.box (.t 0)),o 4 (.mov (.k .nilS))]) (.seq (.reg [o 5 (.ld true 4 (.t 2)),o 6 (.mov (.t 1)),o 7 (.build [(.int .i64 0),(.int .i64 0)] []),o 8 (.lit 8 0 [] []),o 9 (.call 251 [(.t 5),(.t 6),(.t 7),(.t 8)]),o 4 (.mov (.t 9))]) .ret))⟩
abbrev n_s_RowDots:Nat:=206
def F_s_RowDots:Fn1:=⟨31,[.t 4],(.seq (.reg [o 2 (.box (.t 0)),o 4 (.mov (.k .nilS))]) (.seq (.reg [o 8 (.lit 2 0 [] []),o 5 (.mov (.t 8))]) (.seq (.seq (.reg [o 9 (.ld true 4 (.t 2)),o 10 (.call 199 [(.t 9)]),o 11 (.un .not (.t 10))]) (.cnd (.t 11) (.seq (.reg [o 12 (.mov (.t 5)),o 4 (.mov (.t 12))]) .ret) .skip)) (.seq (.reg [o 13 (.ld true 4 (.t 2)),o 14 (.mov (.t 1)),o 15 (.call 145 [(.t 13),(.t 14)]),o 6 (.mov (.t 15))]) (.seq (.seq (.reg [o 7 (.mov (.k (.int .i64 0)))]) (.blk 0 (.lop (.seq (.seq (.reg [o 16 (.mov (.t 7)),o 17 (.mov (.t 6)),o 18 (.len false (.t 17)),o 19 (.bin .lss (.t 16) (.t 18))]) (.cnd (.t 19) .skip (.ext 0))) (.seq (.blk 1 (.reg [o 22 (.mov (.t 5)),o 23 (.mov (.t 6)),o 24 (.mov (.t 7)),o 25 (.iad 8 (.t 23) (.t 24)),o 26 (.fad 1 (.t 25)),o 27 (.ld true 2 (.t 26)),o 28 (.lit 2 1 [(.int .i64 0),(.int .i64 0)] [(0,2,(.t 27))]),o 29 (.app 2 16 [(.int .i64 0),(.int .i64 0)] (.t 22) (.t 28)),o 5 (.mov (.t 29))])) (.reg [o 20 (.mov (.t 7)),o 21 (.bin .add (.t 20) (.k (.int .i64 1))),o 7 (.mov (.t 21))])))))) (.seq (.reg [o 30 (.mov (.t 5)),o 4 (.mov (.t 30))]) .ret))))))⟩
abbrev cellV (x:Cell):List GV:=[.str x.obj,.int .i64 x.dot.rep,.int .i64 x.dot.seq,.int .i64 x.time,.int .i64 x.ref.rep,.int .i64 x.ref.seq,.int .i64 x.val,.bool x.gone]
def BelowOk (s:State) (o:ByteArray) (d:Dot):Prop:=∀(σ0 σ:St) (cs:List GV) (rs:List Thg) (k:Nat) (w:GV) (out:List Cell),kState.R σ0 s cs→Hp σ0 σ rs→rs[k]? =some (ow pCell.kd w out)→out.length+(rowA (objC s.cells o) d).length≤1099511627776→
 ∃ w' τ,Ret Tryz.prog n_s_l08Below [.agg cs,.str o,.agg [gi d.rep,gi d.seq],w] σ w' τ∧Hp σ0 τ (rs.set k (ow pCell.kd w' (out++rowA (objC s.cells o) d)))
def isKid (o:ByteArray) (d:Dot) (c:Cell):Bool:=isObj o c&&isRef d c
end Go.Proofs.YtbeoiejnogdkpaaGreat.Sy
namespace Go.Proofs.YtbeoiejnogdkpaaGreat.Sy
open Go Go.RowKit
set_option linter.unusedSimpArgs false
set_option linter.unusedVariables false
set_option maxRecDepth 4000
structure Eqs {α:Type} [Inhabited α] [DecidableEq α] (e:El α) where
 eq:∀ x y,binG .eql (e.val x) (e.val y)=some (.bool (decide (x=y)))
 ne:∀ x y,binG .neq (e.val x) (e.val y)=some (.bool (!decide (x=y)))
 ze:List GV
 hze:ze.length=e.p.z
section
variable {α:Type} [Inhabited α] {e:El α} {σ0 σ τ:St} {rs:List Thg} {v:GV} {l:List α}
end
end Go.Proofs.YtbeoiejnogdkpaaGreat.Sy
namespace Go.Proofs.YtbeoiejnogdkpaaGreat.Sy
open Go Go.RowKit
set_option linter.unusedSimpArgs false
set_option linter.unusedVariables false
set_option maxRecDepth 4000
abbrev n_i_RowDots:Nat:=289
def F_i_RowDots:Fn1:=⟨82,[.t 4],(.seq (.reg [o 2 (.box (.t 0)),o 4 (.mov (.k .nilS))]) (.seq (.reg [o 12 (.lit 2 0 [] []),o 5 (.mov (.t 12))]) (.seq (.seq (.reg [o 13 (.ld true 4 (.t 2)),o 14 (.call 195 [(.t 13)]),o 15 (.un .not (.t 14))]) (.cnd (.t 15) (.seq (.reg [o 16 (.mov (.t 5)),o 4 (.mov (.t 16))]) .ret) .skip)) (.seq (.reg [o 17 (.lit 8 0 [] []),o 6 (.mov (.t 17))]) (.seq (.seq (.reg [o 18 (.fad 3 (.t 2)),o 19 (.ld false 1 (.t 18)),o 20 (.len false (.t 19)),o 21 (.mov (.k (.int .i64 0)))]) (.blk 0 (.lop (.seq (.reg [o 22 (.bin .lss (.t 21) (.t 20))]) (.seq (.cnd (.t 22) .skip (.ext 0)) (.seq (.blk 1 (.seq (.reg [o 23 (.iad 8 (.t 19) (.t 21)),o 24 (.ld true 8 (.t 23)),o 8 (.new [(.str ⟨#[]⟩),(.int .i64 0),(.int .i64 0),(.int .i64 0),(.int .i64 0),(.int .i64 0),(.int .i64 0),(.bool false)]),on (.st 8 (.t 8) (.t 24))]) (.seq (.reg [o 25 (.fad 0 (.t 8)),o 26 (.ld false 1 (.t 25)),o 27 (.mov (.t 1)),o 28 (.bin .eql (.t 26) (.t 27))]) (.cnd (.t 28) (.reg [o 29 (.mov (.t 6)),o 30 (.ld true 8 (.t 8)),o 31 (.lit 8 1 [(.str ⟨#[]⟩),(.int .i64 0),(.int .i64 0),(.int .i64 0),(.int .i64 0),(.int .i64 0),(.int .i64 0),(.bool false)] [(0,8,(.t 30))]),o 32 (.app 8 72 [(.str ⟨#[]⟩),(.int .i64 0),(.int .i64 0),(.int .i64 0),(.int .i64 0),(.int .i64 0),(.int .i64 0),(.bool false)] (.t 29) (.t 31)),o 6 (.mov (.t 32))]) .skip)))) (.reg [o 33 (.bin .add (.t 21) (.k (.int .i64 1))),o 21 (.mov (.t 33))]))))))) (.seq (.reg [o 34 (.mov (.t 6)),o 35 (.call 360 [(.t 34),(.k (.fn 361 []))])]) (.seq (.reg [o 36 (.build [(.int .i64 0),(.int .i64 0)] []),o 37 (.lit 2 1 [(.int .i64 0),(.int .i64 0)] [(0,2,(.t 36))]),o 9 (.mov (.t 37))]) (.seq (.blk 2 (.lop (.seq (.seq (.reg [o 38 (.mov (.t 9)),o 39 (.len false (.t 38)),o 40 (.bin .gtr (.t 39) (.k (.int .i64 0)))]) (.cnd (.t 40) .skip (.ext 2))) (.blk 3 (.seq (.reg [o 41 (.mov (.t 9)),o 42 (.mov (.t 9)),o 43 (.len false (.t 42)),o 44 (.bin .sub (.t 43) (.k (.int .i64 1))),o 45 (.iad 2 (.t 41) (.t 44)),o 46 (.ld true 2 (.t 45)),o 10 (.new [(.int .i64 0),(.int .i64 0)]),on (.st 2 (.t 10) (.t 46))]) (.seq (.reg [o 47 (.mov (.t 9)),o 48 (.mov (.t 9)),o 49 (.len false (.t 48)),o 50 (.bin .sub (.t 49) (.k (.int .i64 1))),o 51 (.cut 2 (.t 47) none (some (.t 50))),o 9 (.mov (.t 51))]) (.seq (.seq (.reg [o 52 (.ld true 2 (.t 10)),o 53 (.build [(.int .i64 0),(.int .i64 0)] []),o 54 (.eqs true [.i .i64,.i .i64] (.t 52) (.t 53))]) (.cnd (.t 54) (.reg [o 55 (.mov (.t 5)),o 56 (.ld true 2 (.t 10)),o 57 (.lit 2 1 [(.int .i64 0),(.int .i64 0)] [(0,2,(.t 56))]),o 58 (.app 2 16 [(.int .i64 0),(.int .i64 0)] (.t 55) (.t 57)),o 5 (.mov (.t 58))]) .skip)) (.seq (.reg [o 59 (.mov (.t 6)),o 60 (.len false (.t 59)),o 61 (.bin .sub (.t 60) (.k (.int .i64 1))),o 11 (.mov (.t 61))]) (.blk 4 (.lop (.seq (.seq (.reg [o 62 (.mov (.t 11)),o 63 (.bin .geq (.t 62) (.k (.int .i64 0)))]) (.cnd (.t 63) .skip (.ext 4))) (.seq (.blk 5 (.seq (.drw [o 66 (.mov (.t 6)),o 67 (.mov (.t 11)),o 68 (.iad 8 (.t 66) (.t 67)),o 69 (.fad 4 (.t 68)),o 70 (.ld true 2 (.t 69)),o 71 (.ld true 2 (.t 10))] [o 72 (.eqs false [.i .i64,.i .i64] (.t 70) (.t 71))]) (.cnd (.t 72) (.reg [o 73 (.mov (.t 9)),o 74 (.mov (.t 6)),o 75 (.mov (.t 11)),o 76 (.iad 8 (.t 74) (.t 75)),o 77 (.fad 1 (.t 76)),o 78 (.ld true 2 (.t 77)),o 79 (.lit 2 1 [(.int .i64 0),(.int .i64 0)] [(0,2,(.t 78))]),o 80 (.app 2 16 [(.int .i64 0),(.int .i64 0)] (.t 73) (.t 79)),o 9 (.mov (.t 80))]) .skip))) (.reg [o 64 (.mov (.t 11)),o 65 (.bin .sub (.t 64) (.k (.int .i64 1))),o 11 (.mov (.t 65))]))))))))))))) (.seq (.reg [o 81 (.mov (.t 5)),o 4 (.mov (.t 81))]) .ret)))))))))⟩
end Go.Proofs.YtbeoiejnogdkpaaGreat.Sy
namespace Go.Proofs.YtbeoiejnogdkpaaGreat.Sy
open Go Go.RowKit
set_option linter.unusedSimpArgs false
set_option linter.unusedVariables false
def goneIn (l:List Cell) (obj:ByteArray):Nat:=l.countP fun c=>decide (c.obj=obj)&&c.gone
def refsTo (l:List Cell) (d:Dot):Nat:=l.countP fun c=>decide (c.ref=d)&& !decide (d=⟨0,0⟩)
end Go.Proofs.YtbeoiejnogdkpaaGreat.Sy
namespace Go.Proofs.YtbeoiejnogdkpaaGreat.Sy
open Go Go.RowKit
set_option linter.unusedSimpArgs false
set_option linter.unusedVariables false
set_option maxRecDepth 4000
def mayClr (s:State) (d:Dot) (kn:List Int):Bool:=match cellIx s.cells d with
 |some k=>(onI s.cells k fun c=>c.gone)&&(knows kn d&&decide (refsTo s.cells d=0))
 |none=>false
end Go.Proofs.YtbeoiejnogdkpaaGreat.Sy
namespace Go.Proofs.YtbeoiejnogdkpaaGreat.Sy
open Go Go.RowKit
set_option linter.unusedSimpArgs false
set_option linter.unusedVariables false
end Go.Proofs.YtbeoiejnogdkpaaGreat.Sy
namespace Go.Proofs.YtbeoiejnogdkpaaGreat.Sy
open Go Go.RowKit
set_option linter.unusedSimpArgs false
set_option linter.unusedVariables false
set_option maxRecDepth 4000
end Go.Proofs.YtbeoiejnogdkpaaGreat.Sy
namespace Go.Proofs.YtbeoiejnogdkpaaGreat.Sy
open Go Go.RowKit
set_option linter.unusedSimpArgs false
set_option linter.unusedVariables false
set_option maxRecDepth 4000
abbrev n_i_withLive:Nat:=257
def F_i_withLive:Fn1:=⟨37,[.t 4],(.seq (.reg [o 3 (.box (.t 1)),o 4 (.mov (.k .nilS))]) (.seq (.reg [o 5 (.mov (.k (.int .i64 0)))]) (.seq (.blk 0 (.lop (.seq (.seq (.drw [o 7 (.mov (.t 5)),o 8 (.mov (.t 0)),o 9 (.len false (.t 8)),o 10 (.bin .lss (.t 7) (.t 9)),o 11 (.mov (.t 10)),og 12 11 true (.mov (.t 0)),og 13 11 true (.mov (.t 5)),og 14 11 true (.iad 6 (.t 12) (.t 13)),og 15 11 true (.fad 4 (.t 14)),og 16 11 true (.ld true 2 (.t 15)),og 17 11 true (.fad 4 (.t 3)),og 18 11 true (.ld true 2 (.t 17))] [og 19 11 true (.call 306 [(.t 16),(.t 18)]),og 20 11 true (.bin .lss (.t 19) (.k (.int .i64 0))),o 21 (.pick (.t 11) (.t 20) (.k (.bool false)))]) (.cnd (.t 21) .skip (.ext 0))) (.blk 1 (.reg [o 22 (.mov (.t 5)),o 23 (.bin .add (.t 22) (.k (.int .i64 1))),o 5 (.mov (.t 23))]))))) (.seq (.drw [o 24 (.lit 6 0 [] []),o 25 (.mov (.t 0)),o 26 (.mov (.t 5)),o 27 (.cut 6 (.t 25) none (some (.t 26))),o 28 (.app 6 64 [(.bool false),(.str ⟨#[]⟩),(.str ⟨#[]⟩),(.int .i64 0),(.int .i64 0),(.int .i64 0)] (.t 24) (.t 27)),o 29 (.ld true 6 (.t 3)),o 30 (.lit 6 1 [(.bool false),(.str ⟨#[]⟩),(.str ⟨#[]⟩),(.int .i64 0),(.int .i64 0),(.int .i64 0)] [(0,6,(.t 29))])] [o 31 (.app 6 64 [(.bool false),(.str ⟨#[]⟩),(.str ⟨#[]⟩),(.int .i64 0),(.int .i64 0),(.int .i64 0)] (.t 28) (.t 30)),o 6 (.mov (.t 31))]) (.seq (.reg [o 32 (.mov (.t 6)),o 33 (.mov (.t 0)),o 34 (.mov (.t 5)),o 35 (.cut 6 (.t 33) (some (.t 34)) none),o 36 (.app 6 64 [(.bool false),(.str ⟨#[]⟩),(.str ⟨#[]⟩),(.int .i64 0),(.int .i64 0),(.int .i64 0)] (.t 32) (.t 35)),o 4 (.mov (.t 36))]) .ret)))))⟩
abbrev n_i_withCell:Nat:=259
def F_i_withCell:Fn1:=⟨37,[.t 4],(.seq (.reg [o 3 (.box (.t 1)),o 4 (.mov (.k .nilS))]) (.seq (.reg [o 5 (.mov (.k (.int .i64 0)))]) (.seq (.blk 0 (.lop (.seq (.seq (.drw [o 7 (.mov (.t 5)),o 8 (.mov (.t 0)),o 9 (.len false (.t 8)),o 10 (.bin .lss (.t 7) (.t 9)),o 11 (.mov (.t 10)),og 12 11 true (.mov (.t 0)),og 13 11 true (.mov (.t 5)),og 14 11 true (.iad 8 (.t 12) (.t 13)),og 15 11 true (.fad 1 (.t 14)),og 16 11 true (.ld true 2 (.t 15)),og 17 11 true (.fad 1 (.t 3)),og 18 11 true (.ld true 2 (.t 17))] [og 19 11 true (.call 306 [(.t 16),(.t 18)]),og 20 11 true (.bin .lss (.t 19) (.k (.int .i64 0))),o 21 (.pick (.t 11) (.t 20) (.k (.bool false)))]) (.cnd (.t 21) .skip (.ext 0))) (.blk 1 (.reg [o 22 (.mov (.t 5)),o 23 (.bin .add (.t 22) (.k (.int .i64 1))),o 5 (.mov (.t 23))]))))) (.seq (.drw [o 24 (.lit 8 0 [] []),o 25 (.mov (.t 0)),o 26 (.mov (.t 5)),o 27 (.cut 8 (.t 25) none (some (.t 26))),o 28 (.app 8 72 [(.str ⟨#[]⟩),(.int .i64 0),(.int .i64 0),(.int .i64 0),(.int .i64 0),(.int .i64 0),(.int .i64 0),(.bool false)] (.t 24) (.t 27)),o 29 (.ld true 8 (.t 3)),o 30 (.lit 8 1 [(.str ⟨#[]⟩),(.int .i64 0),(.int .i64 0),(.int .i64 0),(.int .i64 0),(.int .i64 0),(.int .i64 0),(.bool false)] [(0,8,(.t 29))])] [o 31 (.app 8 72 [(.str ⟨#[]⟩),(.int .i64 0),(.int .i64 0),(.int .i64 0),(.int .i64 0),(.int .i64 0),(.int .i64 0),(.bool false)] (.t 28) (.t 30)),o 6 (.mov (.t 31))]) (.seq (.reg [o 32 (.mov (.t 6)),o 33 (.mov (.t 0)),o 34 (.mov (.t 5)),o 35 (.cut 8 (.t 33) (some (.t 34)) none),o 36 (.app 8 72 [(.str ⟨#[]⟩),(.int .i64 0),(.int .i64 0),(.int .i64 0),(.int .i64 0),(.int .i64 0),(.int .i64 0),(.bool false)] (.t 32) (.t 35)),o 4 (.mov (.t 36))]) .ret)))))⟩
abbrev n_i_withoutKnown:Nat:=258
def F_i_withoutKnown:Fn1:=⟨49,[.t 6],(.seq (.reg [o 5 (.box (.t 2)),o 6 (.mov (.k .nilS))]) (.seq (.reg [o 10 (.lit 6 0 [] []),o 7 (.mov (.t 10))]) (.seq (.seq (.reg [o 11 (.mov (.t 0)),o 12 (.len false (.t 11)),o 13 (.mov (.k (.int .i64 0)))]) (.blk 0 (.lop (.seq (.reg [o 14 (.bin .lss (.t 13) (.t 12))]) (.seq (.cnd (.t 14) .skip (.ext 0)) (.seq (.blk 1 (.seq (.reg [o 15 (.iad 6 (.t 11) (.t 13)),o 16 (.ld true 6 (.t 15)),o 9 (.new [(.bool false),(.str ⟨#[]⟩),(.str ⟨#[]⟩),(.int .i64 0),(.int .i64 0),(.int .i64 0)]),on (.st 6 (.t 9) (.t 16))]) (.seq (.reg [o 17 (.fad 0 (.t 9)),o 18 (.ld false 1 (.t 17)),o 19 (.mov (.t 1)),o 20 (.eqb true (.t 18) (.t 19)),o 21 (.mov (.t 20)),og 22 21 false (.fad 1 (.t 9)),og 23 21 false (.ld false 1 (.t 22)),og 24 21 false (.fad 5 (.t 5)),og 25 21 false (.ld false 1 (.t 24)),og 26 21 false (.bin .neq (.t 23) (.t 25)),o 27 (.pick (.t 21) (.k (.bool true)) (.t 26)),o 28 (.mov (.t 27)),og 29 28 false (.fad 2 (.t 9)),og 30 28 false (.ld false 1 (.t 29)),og 31 28 false (.fad 6 (.t 5)),og 32 28 false (.ld false 1 (.t 31)),og 33 28 false (.bin .neq (.t 30) (.t 32)),o 34 (.pick (.t 28) (.k (.bool true)) (.t 33)),o 35 (.mov (.t 34)),og 36 35 false (.fad 3 (.t 5)),og 37 35 false (.ld false 1 (.t 36)),og 38 35 false (.fad 4 (.t 9)),og 39 35 false (.ld true 2 (.t 38)),og 40 35 false (.call 170 [(.t 37),(.t 39)]),og 41 35 false (.un .not (.t 40)),o 42 (.pick (.t 35) (.k (.bool true)) (.t 41))]) (.cnd (.t 42) (.reg [o 43 (.mov (.t 7)),o 44 (.ld true 6 (.t 9)),o 45 (.lit 6 1 [(.bool false),(.str ⟨#[]⟩),(.str ⟨#[]⟩),(.int .i64 0),(.int .i64 0),(.int .i64 0)] [(0,6,(.t 44))]),o 46 (.app 6 64 [(.bool false),(.str ⟨#[]⟩),(.str ⟨#[]⟩),(.int .i64 0),(.int .i64 0),(.int .i64 0)] (.t 43) (.t 45)),o 7 (.mov (.t 46))]) .skip)))) (.reg [o 47 (.bin .add (.t 13) (.k (.int .i64 1))),o 13 (.mov (.t 47))]))))))) (.seq (.reg [o 48 (.mov (.t 7)),o 6 (.mov (.t 48))]) .ret))))⟩
abbrev n_i_tooMany:Nat:=260
def F_i_tooMany:Fn1:=⟨19,[.t 2],(.seq (.reg [o 1 (.box (.t 0)),o 2 (.mov (.k (.bool false)))]) (.seq (.reg [o 3 (.fad 1 (.t 1)),o 4 (.ld false 1 (.t 3)),o 5 (.len false (.t 4)),o 6 (.bin .gtr (.t 5) (.k (.int .i64 120))),o 7 (.mov (.t 6)),og 8 7 false (.fad 2 (.t 1)),og 9 7 false (.ld false 1 (.t 8)),og 10 7 false (.len false (.t 9)),og 11 7 false (.bin .gtr (.t 10) (.k (.int .i64 120))),o 12 (.pick (.t 7) (.k (.bool true)) (.t 11)),o 13 (.mov (.t 12)),og 14 13 false (.fad 3 (.t 1)),og 15 13 false (.ld false 1 (.t 14)),og 16 13 false (.len false (.t 15)),og 17 13 false (.bin .gtr (.t 16) (.k (.int .i64 120))),o 18 (.pick (.t 13) (.k (.bool true)) (.t 17)),o 2 (.mov (.t 18))]) .ret))⟩
section
variable {α:Type} {d:En α} {σ τ:St} {v:GV} {l:List α}
end
abbrev liveV (x:Live):List GV:=[.bool x.map,.str x.obj,.str x.key,.int .i64 x.val,.int .i64 x.dot.rep,.int .i64 x.dot.seq]
theorem gt_cast {n:Nat}:decide ((120:Int)<(n:Int))=decide (120<n):=by rw[decide_eq_decide];omega
end Go.Proofs.YtbeoiejnogdkpaaGreat.Sy
namespace Go.Proofs.YtbeoiejnogdkpaaGreat.Sy
open Go Go.RowKit
set_option linter.unusedSimpArgs false
set_option linter.unusedVariables false
set_option maxRecDepth 4000
abbrev n_i_withTally:Nat:=256
def F_i_withTally:Fn1:=⟨69,[.t 8],(.seq (.reg [o 8 (.mov (.k .nilS))]) (.seq (.reg [o 9 (.mov (.k (.int .i64 0)))]) (.seq (.reg [o 13 (.mov (.t 1)),o 14 (.mov (.t 2)),o 15 (.build [(.str ⟨#[]⟩),(.int .i64 0),(.int .i64 0)] [(0,1,(.t 13)),(1,1,(.t 14))]),o 10 (.new [(.str ⟨#[]⟩),(.int .i64 0),(.int .i64 0)]),on (.st 3 (.t 10) (.t 15))]) (.seq (.blk 0 (.lop (.seq (.seq (.drw [o 16 (.mov (.t 9)),o 17 (.mov (.t 0)),o 18 (.len false (.t 17)),o 19 (.bin .lss (.t 16) (.t 18)),o 20 (.mov (.t 19)),og 21 20 true (.mov (.t 0)),og 22 20 true (.mov (.t 9)),og 23 20 true (.iad 3 (.t 21) (.t 22)),og 24 20 true (.ld true 3 (.t 23)),og 25 20 true (.ld true 3 (.t 10))] [og 26 20 true (.call 324 [(.t 24),(.t 25)]),og 27 20 true (.bin .lss (.t 26) (.k (.int .i64 0))),o 28 (.pick (.t 20) (.t 27) (.k (.bool false)))]) (.cnd (.t 28) .skip (.ext 0))) (.blk 1 (.reg [o 29 (.mov (.t 9)),o 30 (.bin .add (.t 29) (.k (.int .i64 1))),o 9 (.mov (.t 30))]))))) (.seq (.reg [o 31 (.mov (.t 0)),o 32 (.mov (.t 9)),o 33 (.cut 3 (.t 31) (some (.t 32)) none),o 11 (.mov (.t 33))]) (.seq (.seq (.drw [o 34 (.mov (.t 11)),o 35 (.len false (.t 34)),o 36 (.bin .gtr (.t 35) (.k (.int .i64 0))),o 37 (.mov (.t 36)),og 38 37 true (.mov (.t 11)),og 39 37 true (.iad 3 (.t 38) (.k (.int .i64 0))),og 40 37 true (.ld true 3 (.t 39)),og 41 37 true (.ld true 3 (.t 10))] [og 42 37 true (.call 324 [(.t 40),(.t 41)]),og 43 37 true (.bin .eql (.t 42) (.k (.int .i64 0))),o 44 (.pick (.t 37) (.t 43) (.k (.bool false)))]) (.cnd (.t 44) (.seq (.reg [o 45 (.mov (.t 11)),o 46 (.iad 3 (.t 45) (.k (.int .i64 0))),o 47 (.fad 2 (.t 46)),o 48 (.ld false 1 (.t 47)),o 49 (.fad 2 (.t 10)),on (.st 1 (.t 49) (.t 48))]) (.reg [o 50 (.mov (.t 11)),o 51 (.cut 3 (.t 50) (some (.k (.int .i64 1))) none),o 11 (.mov (.t 51))])) .skip)) (.seq (.reg [o 52 (.fad 2 (.t 10)),o 53 (.ld false 1 (.t 52)),o 54 (.mov (.t 3)),o 55 (.bin .add (.t 53) (.t 54)),o 56 (.bin .rem (.t 55) (.k (.int .i64 1000000))),o 57 (.fad 2 (.t 10)),on (.st 1 (.t 57) (.t 56))]) (.seq (.drw [o 58 (.lit 3 0 [] []),o 59 (.mov (.t 0)),o 60 (.mov (.t 9)),o 61 (.cut 3 (.t 59) none (some (.t 60))),o 62 (.app 3 32 [(.str ⟨#[]⟩),(.int .i64 0),(.int .i64 0)] (.t 58) (.t 61)),o 63 (.ld true 3 (.t 10)),o 64 (.lit 3 1 [(.str ⟨#[]⟩),(.int .i64 0),(.int .i64 0)] [(0,3,(.t 63))])] [o 65 (.app 3 32 [(.str ⟨#[]⟩),(.int .i64 0),(.int .i64 0)] (.t 62) (.t 64)),o 12 (.mov (.t 65))]) (.seq (.reg [o 66 (.mov (.t 12)),o 67 (.mov (.t 11)),o 68 (.app 3 32 [(.str ⟨#[]⟩),(.int .i64 0),(.int .i64 0)] (.t 66) (.t 67)),o 8 (.mov (.t 68))]) .ret)))))))))⟩
abbrev tallyV (x:Tally):List GV:=[.str x.obj,.int .i64 x.rep,.int .i64 x.sum]
end Go.Proofs.YtbeoiejnogdkpaaGreat.Sy
namespace Go.Proofs.YtbeoiejnogdkpaaGreat.Sy
open Go Go.RowKit
set_option linter.unusedSimpArgs false
set_option linter.unusedVariables false
set_option maxRecDepth 4000
abbrev n_s_l07Live:Nat:=320
def F_s_l07Live:Fn1:=⟨45,[.t 4],(.seq (.reg [o 3 (.box (.t 1)),o 4 (.mov (.k .nilS))]) (.seq (.reg [o 8 (.lit 6 0 [] []),o 5 (.mov (.t 8))]) (.seq (.reg [o 6 (.mov (.k (.bool false)))]) (.seq (.seq (.reg [o 7 (.mov (.k (.int .i64 0)))]) (.blk 0 (.lop (.seq (.seq (.reg [o 9 (.mov (.t 7)),o 10 (.mov (.t 0)),o 11 (.len false (.t 10)),o 12 (.bin .lss (.t 9) (.t 11))]) (.cnd (.t 12) .skip (.ext 0))) (.seq (.blk 1 (.seq (.seq (.drw [o 15 (.mov (.t 6)),o 16 (.un .not (.t 15)),o 17 (.mov (.t 16)),og 18 17 true (.fad 4 (.t 3)),og 19 17 true (.ld true 2 (.t 18)),og 20 17 true (.mov (.t 0)),og 21 17 true (.mov (.t 7)),og 22 17 true (.iad 6 (.t 20) (.t 21)),og 23 17 true (.fad 4 (.t 22)),og 24 17 true (.ld true 2 (.t 23))] [og 25 17 true (.call 362 [(.t 19),(.t 24)]),o 26 (.pick (.t 17) (.t 25) (.k (.bool false)))]) (.cnd (.t 26) (.seq (.reg [o 27 (.mov (.t 5)),o 28 (.ld true 6 (.t 3)),o 29 (.lit 6 1 [(.bool false),(.str ⟨#[]⟩),(.str ⟨#[]⟩),(.int .i64 0),(.int .i64 0),(.int .i64 0)] [(0,6,(.t 28))]),o 30 (.app 6 64 [(.bool false),(.str ⟨#[]⟩),(.str ⟨#[]⟩),(.int .i64 0),(.int .i64 0),(.int .i64 0)] (.t 27) (.t 29)),o 5 (.mov (.t 30))]) (.reg [o 6 (.mov (.k (.bool true)))])) .skip)) (.reg [o 31 (.mov (.t 5)),o 32 (.mov (.t 0)),o 33 (.mov (.t 7)),o 34 (.iad 6 (.t 32) (.t 33)),o 35 (.ld true 6 (.t 34)),o 36 (.lit 6 1 [(.bool false),(.str ⟨#[]⟩),(.str ⟨#[]⟩),(.int .i64 0),(.int .i64 0),(.int .i64 0)] [(0,6,(.t 35))]),o 37 (.app 6 64 [(.bool false),(.str ⟨#[]⟩),(.str ⟨#[]⟩),(.int .i64 0),(.int .i64 0),(.int .i64 0)] (.t 31) (.t 36)),o 5 (.mov (.t 37))]))) (.reg [o 13 (.mov (.t 7)),o 14 (.bin .add (.t 13) (.k (.int .i64 1))),o 7 (.mov (.t 14))])))))) (.seq (.seq (.reg [o 38 (.mov (.t 6)),o 39 (.un .not (.t 38))]) (.cnd (.t 39) (.reg [o 40 (.mov (.t 5)),o 41 (.ld true 6 (.t 3)),o 42 (.lit 6 1 [(.bool false),(.str ⟨#[]⟩),(.str ⟨#[]⟩),(.int .i64 0),(.int .i64 0),(.int .i64 0)] [(0,6,(.t 41))]),o 43 (.app 6 64 [(.bool false),(.str ⟨#[]⟩),(.str ⟨#[]⟩),(.int .i64 0),(.int .i64 0),(.int .i64 0)] (.t 40) (.t 42)),o 5 (.mov (.t 43))]) .skip)) (.seq (.reg [o 44 (.mov (.t 5)),o 4 (.mov (.t 44))]) .ret))))))⟩
abbrev n_s_l07Cell:Nat:=322
def F_s_l07Cell:Fn1:=⟨45,[.t 4],(.seq (.reg [o 3 (.box (.t 1)),o 4 (.mov (.k .nilS))]) (.seq (.reg [o 8 (.lit 8 0 [] []),o 5 (.mov (.t 8))]) (.seq (.reg [o 6 (.mov (.k (.bool false)))]) (.seq (.seq (.reg [o 7 (.mov (.k (.int .i64 0)))]) (.blk 0 (.lop (.seq (.seq (.reg [o 9 (.mov (.t 7)),o 10 (.mov (.t 0)),o 11 (.len false (.t 10)),o 12 (.bin .lss (.t 9) (.t 11))]) (.cnd (.t 12) .skip (.ext 0))) (.seq (.blk 1 (.seq (.seq (.drw [o 15 (.mov (.t 6)),o 16 (.un .not (.t 15)),o 17 (.mov (.t 16)),og 18 17 true (.fad 1 (.t 3)),og 19 17 true (.ld true 2 (.t 18)),og 20 17 true (.mov (.t 0)),og 21 17 true (.mov (.t 7)),og 22 17 true (.iad 8 (.t 20) (.t 21)),og 23 17 true (.fad 1 (.t 22)),og 24 17 true (.ld true 2 (.t 23))] [og 25 17 true (.call 362 [(.t 19),(.t 24)]),o 26 (.pick (.t 17) (.t 25) (.k (.bool false)))]) (.cnd (.t 26) (.seq (.reg [o 27 (.mov (.t 5)),o 28 (.ld true 8 (.t 3)),o 29 (.lit 8 1 [(.str ⟨#[]⟩),(.int .i64 0),(.int .i64 0),(.int .i64 0),(.int .i64 0),(.int .i64 0),(.int .i64 0),(.bool false)] [(0,8,(.t 28))]),o 30 (.app 8 72 [(.str ⟨#[]⟩),(.int .i64 0),(.int .i64 0),(.int .i64 0),(.int .i64 0),(.int .i64 0),(.int .i64 0),(.bool false)] (.t 27) (.t 29)),o 5 (.mov (.t 30))]) (.reg [o 6 (.mov (.k (.bool true)))])) .skip)) (.reg [o 31 (.mov (.t 5)),o 32 (.mov (.t 0)),o 33 (.mov (.t 7)),o 34 (.iad 8 (.t 32) (.t 33)),o 35 (.ld true 8 (.t 34)),o 36 (.lit 8 1 [(.str ⟨#[]⟩),(.int .i64 0),(.int .i64 0),(.int .i64 0),(.int .i64 0),(.int .i64 0),(.int .i64 0),(.bool false)] [(0,8,(.t 35))]),o 37 (.app 8 72 [(.str ⟨#[]⟩),(.int .i64 0),(.int .i64 0),(.int .i64 0),(.int .i64 0),(.int .i64 0),(.int .i64 0),(.bool false)] (.t 31) (.t 36)),o 5 (.mov (.t 37))]))) (.reg [o 13 (.mov (.t 7)),o 14 (.bin .add (.t 13) (.k (.int .i64 1))),o 7 (.mov (.t 14))])))))) (.seq (.seq (.reg [o 38 (.mov (.t 6)),o 39 (.un .not (.t 38))]) (.cnd (.t 39) (.reg [o 40 (.mov (.t 5)),o 41 (.ld true 8 (.t 3)),o 42 (.lit 8 1 [(.str ⟨#[]⟩),(.int .i64 0),(.int .i64 0),(.int .i64 0),(.int .i64 0),(.int .i64 0),(.int .i64 0),(.bool false)] [(0,8,(.t 41))]),o 43 (.app 8 72 [(.str ⟨#[]⟩),(.int .i64 0),(.int .i64 0),(.int .i64 0),(.int .i64 0),(.int .i64 0),(.int .i64 0),(.bool false)] (.t 40) (.t 42)),o 5 (.mov (.t 43))]) .skip)) (.seq (.reg [o 44 (.mov (.t 5)),o 4 (.mov (.t 44))]) .ret))))))⟩
abbrev n_s_l07Ref:Nat:=248
def F_s_l07Ref:Fn1:=⟨53,[.t 4],(.seq (.reg [o 2 (.box (.t 0)),o 3 (.box (.t 1)),o 4 (.mov (.k (.bool false)))]) (.seq (.seq (.reg [o 6 (.fad 4 (.t 3)),o 7 (.ld false 1 (.t 6)),o 8 (.bin .neq (.t 7) (.k (.int .i64 7))),o 9 (.mov (.t 8)),og 10 9 true (.fad 4 (.t 3)),og 11 9 true (.ld false 1 (.t 10)),og 12 9 true (.bin .neq (.t 11) (.k (.int .i64 6))),og 13 9 true (.mov (.t 12)),og 14 13 false (.fad 8 (.t 3)),og 15 13 false (.ld true 2 (.t 14)),og 16 13 false (.build [(.int .i64 0),(.int .i64 0)] []),og 17 13 false (.eqs false [.i .i64,.i .i64] (.t 15) (.t 16)),og 18 9 true (.pick (.t 13) (.k (.bool true)) (.t 17)),o 19 (.pick (.t 9) (.t 18) (.k (.bool false)))]) (.cnd (.t 19) (.seq (.reg [o 4 (.mov (.k (.bool true)))]) .ret) .skip)) (.seq (.reg [o 20 (.ld true 4 (.t 2)),o 21 (.fad 8 (.t 3)),o 22 (.ld true 2 (.t 21)),o 23 (.call 146 [(.t 20),(.t 22)]),o 5 (.mov (.t 23))]) (.seq (.drw [o 24 (.mov (.t 5)),o 25 (.bin .geq (.t 24) (.k (.int .i64 0))),o 26 (.mov (.t 25)),og 27 26 true (.fad 3 (.t 2)),og 28 26 true (.ld false 1 (.t 27)),og 29 26 true (.mov (.t 5)),og 30 26 true (.iad 8 (.t 28) (.t 29)),og 31 26 true (.fad 0 (.t 30)),og 32 26 true (.ld false 1 (.t 31)),og 33 26 true (.fad 5 (.t 3)),og 34 26 true (.ld false 1 (.t 33)),og 35 26 true (.bin .eql (.t 32) (.t 34)),o 36 (.pick (.t 26) (.t 35) (.k (.bool false))),o 37 (.mov (.t 36)),og 38 37 true (.fad 4 (.t 3)),og 39 37 true (.ld false 1 (.t 38)),og 40 37 true (.bin .eql (.t 39) (.k (.int .i64 7))),og 41 37 true (.mov (.t 40)),og 42 41 false (.fad 3 (.t 2)),og 43 41 false (.ld false 1 (.t 42)),og 44 41 false (.mov (.t 5)),og 45 41 false (.iad 8 (.t 43) (.t 44)),og 46 41 false (.fad 3 (.t 45)),og 47 41 false (.ld false 1 (.t 46)),og 48 41 false (.fad 2 (.t 3)),og 49 41 false (.ld false 1 (.t 48))] [og 50 41 false (.bin .lss (.t 47) (.t 49)),og 51 37 true (.pick (.t 41) (.k (.bool true)) (.t 50)),o 52 (.pick (.t 37) (.t 51) (.k (.bool false))),o 4 (.mov (.t 52))]) .ret))))⟩
end Go.Proofs.YtbeoiejnogdkpaaGreat.Sy
namespace Go.Proofs.YtbeoiejnogdkpaaGreat.Sy
open Go Go.RowKit
set_option linter.unusedSimpArgs false
set_option linter.unusedVariables false
set_option maxRecDepth 4000
abbrev n_s_l07Clear:Nat:=321
def F_s_l07Clear:Fn1:=⟨61,[],(.seq (.reg [o 13 (.lit 6 0 [] []),o 10 (.mov (.t 13))]) (.seq (.seq (.reg [o 11 (.mov (.k (.int .i64 0)))]) (.blk 0 (.lop (.seq (.seq (.reg [o 14 (.mov (.t 11)),o 15 (.mov (.t 0)),o 16 (.nck (.t 15)),o 17 (.fad 2 (.t 16)),o 18 (.ld false 1 (.t 17)),o 19 (.len false (.t 18)),o 20 (.bin .lss (.t 14) (.t 19))]) (.cnd (.t 20) .skip (.ext 0))) (.seq (.blk 1 (.seq (.reg [o 23 (.mov (.t 0)),o 24 (.nck (.t 23)),o 25 (.fad 2 (.t 24)),o 26 (.ld false 1 (.t 25)),o 27 (.mov (.t 11)),o 28 (.iad 6 (.t 26) (.t 27)),o 29 (.ld true 6 (.t 28)),o 12 (.new [(.bool false),(.str ⟨#[]⟩),(.str ⟨#[]⟩),(.int .i64 0),(.int .i64 0),(.int .i64 0)]),on (.st 6 (.t 12) (.t 29))]) (.seq (.reg [o 30 (.fad 0 (.t 12)),o 31 (.ld false 1 (.t 30)),o 32 (.mov (.t 1)),o 33 (.eqb true (.t 31) (.t 32)),o 34 (.mov (.t 33)),og 35 34 false (.fad 1 (.t 12)),og 36 34 false (.ld false 1 (.t 35)),og 37 34 false (.mov (.t 2)),og 38 34 false (.bin .neq (.t 36) (.t 37)),o 39 (.pick (.t 34) (.k (.bool true)) (.t 38)),o 40 (.mov (.t 39)),og 41 40 false (.fad 2 (.t 12)),og 42 40 false (.ld false 1 (.t 41)),og 43 40 false (.mov (.t 3)),og 44 40 false (.bin .neq (.t 42) (.t 43)),o 45 (.pick (.t 40) (.k (.bool true)) (.t 44)),o 46 (.mov (.t 45)),og 47 46 false (.mov (.t 4)),og 48 46 false (.fad 4 (.t 12)),og 49 46 false (.ld true 2 (.t 48)),og 50 46 false (.call 45 [(.t 47),(.t 49)]),og 51 46 false (.un .not (.t 50)),o 52 (.pick (.t 46) (.k (.bool true)) (.t 51))]) (.cnd (.t 52) (.reg [o 53 (.mov (.t 10)),o 54 (.ld true 6 (.t 12)),o 55 (.lit 6 1 [(.bool false),(.str ⟨#[]⟩),(.str ⟨#[]⟩),(.int .i64 0),(.int .i64 0),(.int .i64 0)] [(0,6,(.t 54))]),o 56 (.app 6 64 [(.bool false),(.str ⟨#[]⟩),(.str ⟨#[]⟩),(.int .i64 0),(.int .i64 0),(.int .i64 0)] (.t 53) (.t 55)),o 10 (.mov (.t 56))]) .skip)))) (.reg [o 21 (.mov (.t 11)),o 22 (.bin .add (.t 21) (.k (.int .i64 1))),o 11 (.mov (.t 22))])))))) (.reg [o 57 (.mov (.t 0)),o 58 (.mov (.t 10)),o 59 (.nck (.t 57)),o 60 (.fad 2 (.t 59)),on (.st 1 (.t 60) (.t 58))])))⟩
abbrev n_s_l07Tally:Nat:=319
def F_s_l07Tally:Fn1:=⟨113,[],(.seq (.seq (.reg [o 8 (.mov (.k (.int .i64 0)))]) (.blk 0 (.lop (.seq (.seq (.reg [o 14 (.mov (.t 8)),o 15 (.mov (.t 0)),o 16 (.nck (.t 15)),o 17 (.fad 1 (.t 16)),o 18 (.ld false 1 (.t 17)),o 19 (.len false (.t 18)),o 20 (.bin .lss (.t 14) (.t 19))]) (.cnd (.t 20) .skip (.ext 0))) (.seq (.blk 1 (.seq (.reg [o 23 (.mov (.t 0)),o 24 (.nck (.t 23)),o 25 (.fad 1 (.t 24)),o 26 (.ld false 1 (.t 25)),o 27 (.mov (.t 8)),o 28 (.iad 3 (.t 26) (.t 27)),o 29 (.ld true 3 (.t 28)),o 9 (.new [(.str ⟨#[]⟩),(.int .i64 0),(.int .i64 0)]),on (.st 3 (.t 9) (.t 29))]) (.seq (.reg [o 30 (.fad 0 (.t 9)),o 31 (.ld false 1 (.t 30)),o 32 (.mov (.t 1)),o 33 (.bin .eql (.t 31) (.t 32)),o 34 (.mov (.t 33)),og 35 34 true (.fad 1 (.t 9)),og 36 34 true (.ld false 1 (.t 35)),og 37 34 true (.mov (.t 2)),og 38 34 true (.bin .eql (.t 36) (.t 37)),o 39 (.pick (.t 34) (.t 38) (.k (.bool false)))]) (.cnd (.t 39) (.seq (.drw [o 40 (.mov (.t 0)),o 41 (.nck (.t 40)),o 42 (.fad 1 (.t 41)),o 43 (.ld false 1 (.t 42)),o 44 (.mov (.t 8)),o 45 (.fad 2 (.t 9)),o 46 (.ld false 1 (.t 45))] [o 47 (.mov (.t 3)),o 48 (.bin .add (.t 46) (.t 47)),o 49 (.bin .rem (.t 48) (.k (.int .i64 1000000))),o 50 (.iad 3 (.t 43) (.t 44)),o 51 (.fad 2 (.t 50)),on (.st 1 (.t 51) (.t 49))]) .ret) .skip)))) (.reg [o 21 (.mov (.t 8)),o 22 (.bin .add (.t 21) (.k (.int .i64 1))),o 8 (.mov (.t 22))])))))) (.seq (.reg [o 52 (.lit 3 0 [] []),o 10 (.mov (.t 52))]) (.seq (.reg [o 11 (.mov (.k (.bool false)))]) (.seq (.seq (.reg [o 12 (.mov (.k (.int .i64 0)))]) (.blk 2 (.lop (.seq (.seq (.reg [o 53 (.mov (.t 12)),o 54 (.mov (.t 0)),o 55 (.nck (.t 54)),o 56 (.fad 1 (.t 55)),o 57 (.ld false 1 (.t 56)),o 58 (.len false (.t 57)),o 59 (.bin .lss (.t 53) (.t 58))]) (.cnd (.t 59) .skip (.ext 2))) (.seq (.blk 3 (.seq (.reg [o 62 (.mov (.t 0)),o 63 (.nck (.t 62)),o 64 (.fad 1 (.t 63)),o 65 (.ld false 1 (.t 64)),o 66 (.mov (.t 12)),o 67 (.iad 3 (.t 65) (.t 66)),o 68 (.ld true 3 (.t 67)),o 13 (.new [(.str ⟨#[]⟩),(.int .i64 0),(.int .i64 0)]),on (.st 3 (.t 13) (.t 68))]) (.seq (.seq (.reg [o 69 (.mov (.t 11)),o 70 (.un .not (.t 69)),o 71 (.mov (.t 70)),og 72 71 true (.fad 0 (.t 13)),og 73 71 true (.ld false 1 (.t 72)),og 74 71 true (.mov (.t 1)),og 75 71 true (.bin .gtr (.t 73) (.t 74)),og 76 71 true (.mov (.t 75)),og 77 76 false (.fad 0 (.t 13)),og 78 76 false (.ld false 1 (.t 77)),og 79 76 false (.mov (.t 1)),og 80 76 false (.bin .eql (.t 78) (.t 79)),og 81 76 false (.mov (.t 80)),og 82 81 true (.fad 1 (.t 13)),og 83 81 true (.ld false 1 (.t 82)),og 84 81 true (.mov (.t 2)),og 85 81 true (.bin .gtr (.t 83) (.t 84)),og 86 76 false (.pick (.t 81) (.t 85) (.k (.bool false))),og 87 71 true (.pick (.t 76) (.k (.bool true)) (.t 86)),o 88 (.pick (.t 71) (.t 87) (.k (.bool false)))]) (.cnd (.t 88) (.seq (.reg [o 89 (.mov (.t 10)),o 90 (.mov (.t 1)),o 91 (.mov (.t 2)),o 92 (.mov (.t 3)),o 93 (.build [(.str ⟨#[]⟩),(.int .i64 0),(.int .i64 0)] [(0,1,(.t 90)),(1,1,(.t 91)),(2,1,(.t 92))]),o 94 (.lit 3 1 [(.str ⟨#[]⟩),(.int .i64 0),(.int .i64 0)] [(0,3,(.t 93))]),o 95 (.app 3 32 [(.str ⟨#[]⟩),(.int .i64 0),(.int .i64 0)] (.t 89) (.t 94)),o 10 (.mov (.t 95))]) (.reg [o 11 (.mov (.k (.bool true)))])) .skip)) (.reg [o 96 (.mov (.t 10)),o 97 (.ld true 3 (.t 13)),o 98 (.lit 3 1 [(.str ⟨#[]⟩),(.int .i64 0),(.int .i64 0)] [(0,3,(.t 97))]),o 99 (.app 3 32 [(.str ⟨#[]⟩),(.int .i64 0),(.int .i64 0)] (.t 96) (.t 98)),o 10 (.mov (.t 99))])))) (.reg [o 60 (.mov (.t 12)),o 61 (.bin .add (.t 60) (.k (.int .i64 1))),o 12 (.mov (.t 61))])))))) (.seq (.seq (.reg [o 100 (.mov (.t 11)),o 101 (.un .not (.t 100))]) (.cnd (.t 101) (.reg [o 102 (.mov (.t 10)),o 103 (.mov (.t 1)),o 104 (.mov (.t 2)),o 105 (.mov (.t 3)),o 106 (.build [(.str ⟨#[]⟩),(.int .i64 0),(.int .i64 0)] [(0,1,(.t 103)),(1,1,(.t 104)),(2,1,(.t 105))]),o 107 (.lit 3 1 [(.str ⟨#[]⟩),(.int .i64 0),(.int .i64 0)] [(0,3,(.t 106))]),o 108 (.app 3 32 [(.str ⟨#[]⟩),(.int .i64 0),(.int .i64 0)] (.t 102) (.t 107)),o 10 (.mov (.t 108))]) .skip)) (.reg [o 109 (.mov (.t 0)),o 110 (.mov (.t 10)),o 111 (.nck (.t 109)),o 112 (.fad 1 (.t 111)),on (.st 1 (.t 112) (.t 110))]))))))⟩
def SPtr (σ0 τ:St) (g:Nat) (s:State) (rest:List Thg):Prop:=∃ v0 v1 v2 v3,Hp σ0 τ (ow pI.kd v0 s.know::ow pTally.kd v1 s.tallies::ow pLive.kd v2 s.lives::ow pCell.kd v3 s.cells::pt 1 g [v0,v1,v2,v3]::rest)
end Go.Proofs.YtbeoiejnogdkpaaGreat.Sy
namespace Go.Proofs.YtbeoiejnogdkpaaGreat.Sy
open Go Go.RowKit
set_option linter.unusedSimpArgs false
set_option linter.unusedVariables false
set_option maxRecDepth 4000
abbrev n_s_l07Do:Nat:=249
def F_s_l07Do:Fn1:=⟨127,[],(.seq (.reg [o 3 (.box (.t 1))]) (.seq (.drw [o 4 (.mov (.t 0)),o 5 (.nck (.t 4)),o 6 (.fad 0 (.t 5)),o 7 (.ld false 1 (.t 6)),o 8 (.fad 0 (.t 3)),o 9 (.fad 0 (.t 8)),o 10 (.ld false 1 (.t 9)),o 11 (.fad 0 (.t 3)),o 12 (.fad 1 (.t 11)),o 13 (.ld false 1 (.t 12))] [o 14 (.iad 1 (.t 7) (.t 10)),on (.st 1 (.t 14) (.t 13))]) (.seq (.reg [o 15 (.fad 4 (.t 3)),o 16 (.ld false 1 (.t 15))]) (.blk 0 (.seq (.reg [o 18 (.bin .eql (.t 16) (.k (.int .i64 1))),o 17 (.mov (.t 18))]) (.cnd (.t 17) (.reg [o 19 (.mov (.t 0)),o 20 (.fad 5 (.t 3)),o 21 (.ld false 1 (.t 20)),o 22 (.fad 0 (.t 3)),o 23 (.fad 0 (.t 22)),o 24 (.ld false 1 (.t 23)),o 25 (.fad 7 (.t 3)),o 26 (.ld false 1 (.t 25)),o 27 (.call 319 [(.t 19),(.t 21),(.t 24),(.t 26)])]) (.seq (.reg [o 29 (.bin .eql (.t 16) (.k (.int .i64 2))),o 28 (.mov (.t 29))]) (.cnd (.t 28) (.drw [o 30 (.mov (.t 0)),o 31 (.mov (.t 0)),o 32 (.nck (.t 31)),o 33 (.fad 2 (.t 32)),o 34 (.ld false 1 (.t 33)),o 35 (.fad 5 (.t 3)),o 36 (.ld false 1 (.t 35)),o 37 (.fad 6 (.t 3)),o 38 (.ld false 1 (.t 37)),o 39 (.fad 0 (.t 3)),o 40 (.ld true 2 (.t 39))] [o 41 (.build [(.bool false),(.str ⟨#[]⟩),(.str ⟨#[]⟩),(.int .i64 0),(.int .i64 0),(.int .i64 0)] [(1,1,(.t 36)),(2,1,(.t 38)),(4,2,(.t 40))]),o 42 (.call 320 [(.t 34),(.t 41)]),o 43 (.nck (.t 30)),o 44 (.fad 2 (.t 43)),on (.st 1 (.t 44) (.t 42))]) (.seq (.reg [o 46 (.bin .eql (.t 16) (.k (.int .i64 3))),o 45 (.mov (.t 46))]) (.cnd (.t 45) (.reg [o 47 (.mov (.t 0)),o 48 (.fad 5 (.t 3)),o 49 (.ld false 1 (.t 48)),o 50 (.fad 6 (.t 3)),o 51 (.ld false 1 (.t 50)),o 52 (.fad 3 (.t 3)),o 53 (.ld false 1 (.t 52)),o 54 (.call 321 [(.t 47),(.k (.bool false)),(.t 49),(.t 51),(.t 53)])]) (.seq (.reg [o 56 (.bin .eql (.t 16) (.k (.int .i64 4))),o 55 (.mov (.t 56))]) (.cnd (.t 55) (.seq (.reg [o 57 (.mov (.t 0)),o 58 (.fad 5 (.t 3)),o 59 (.ld false 1 (.t 58)),o 60 (.fad 6 (.t 3)),o 61 (.ld false 1 (.t 60)),o 62 (.fad 3 (.t 3)),o 63 (.ld false 1 (.t 62)),o 64 (.call 321 [(.t 57),(.k (.bool true)),(.t 59),(.t 61),(.t 63)])]) (.drw [o 65 (.mov (.t 0)),o 66 (.mov (.t 0)),o 67 (.nck (.t 66)),o 68 (.fad 2 (.t 67)),o 69 (.ld false 1 (.t 68)),o 70 (.fad 5 (.t 3)),o 71 (.ld false 1 (.t 70)),o 72 (.fad 6 (.t 3)),o 73 (.ld false 1 (.t 72)),o 74 (.fad 7 (.t 3)),o 75 (.ld false 1 (.t 74)),o 76 (.fad 0 (.t 3)),o 77 (.ld true 2 (.t 76))] [o 78 (.build [(.bool false),(.str ⟨#[]⟩),(.str ⟨#[]⟩),(.int .i64 0),(.int .i64 0),(.int .i64 0)] [(0,1,(.k (.bool true))),(1,1,(.t 71)),(2,1,(.t 73)),(3,1,(.t 75)),(4,2,(.t 77))]),o 79 (.call 320 [(.t 69),(.t 78)]),o 80 (.nck (.t 65)),o 81 (.fad 2 (.t 80)),on (.st 1 (.t 81) (.t 79))])) (.seq (.reg [o 83 (.bin .eql (.t 16) (.k (.int .i64 5))),o 82 (.mov (.t 83))]) (.cnd (.t 82) (.reg [o 84 (.mov (.t 0)),o 85 (.fad 5 (.t 3)),o 86 (.ld false 1 (.t 85)),o 87 (.fad 6 (.t 3)),o 88 (.ld false 1 (.t 87)),o 89 (.fad 3 (.t 3)),o 90 (.ld false 1 (.t 89)),o 91 (.call 321 [(.t 84),(.k (.bool true)),(.t 86),(.t 88),(.t 90)])]) (.seq (.reg [o 93 (.bin .eql (.t 16) (.k (.int .i64 6))),o 92 (.mov (.t 93))]) (.cnd (.t 92) (.drw [o 94 (.mov (.t 0)),o 95 (.mov (.t 0)),o 96 (.nck (.t 95)),o 97 (.fad 3 (.t 96)),o 98 (.ld false 1 (.t 97)),o 99 (.fad 5 (.t 3)),o 100 (.ld false 1 (.t 99)),o 101 (.fad 0 (.t 3)),o 102 (.ld true 2 (.t 101)),o 103 (.fad 2 (.t 3)),o 104 (.ld false 1 (.t 103)),o 105 (.fad 8 (.t 3)),o 106 (.ld true 2 (.t 105)),o 107 (.fad 7 (.t 3)),o 108 (.ld false 1 (.t 107))] [o 109 (.build [(.str ⟨#[]⟩),(.int .i64 0),(.int .i64 0),(.int .i64 0),(.int .i64 0),(.int .i64 0),(.int .i64 0),(.bool false)] [(0,1,(.t 100)),(1,2,(.t 102)),(3,1,(.t 104)),(4,2,(.t 106)),(6,1,(.t 108))]),o 110 (.call 322 [(.t 98),(.t 109)]),o 111 (.nck (.t 94)),o 112 (.fad 3 (.t 111)),on (.st 1 (.t 112) (.t 110))]) (.seq (.reg [o 114 (.bin .eql (.t 16) (.k (.int .i64 7))),o 113 (.mov (.t 114))]) (.cnd (.t 113) (.drw [o 115 (.mov (.t 0)),o 116 (.nck (.t 115)),o 117 (.fad 3 (.t 116)),o 118 (.ld false 1 (.t 117)),o 119 (.mov (.t 0)),o 120 (.nck (.t 119)),o 121 (.ld true 4 (.t 120)),o 122 (.fad 8 (.t 3)),o 123 (.ld true 2 (.t 122)),o 124 (.call 146 [(.t 121),(.t 123)])] [o 125 (.iad 8 (.t 118) (.t 124)),o 126 (.fad 7 (.t 125)),on (.st 1 (.t 126) (.k (.bool true)))]) .skip))))))))))))))))))⟩
abbrev n_s_DoAct:Nat:=140
def F_s_DoAct:Fn1:=⟨57,[.c 4 true 4,.t 5],(.seq (.reg [o 2 (.box (.t 0)),o 3 (.box (.t 1)),o 4 (.new [.nilS,.nilS,.nilS,.nilS]),o 5 (.mov (.k (.int .i64 0)))]) (.seq (.reg [o 7 (.ld true 4 (.t 2)),o 8 (.call 247 [(.t 7)]),o 6 (.new [.nilS,.nilS,.nilS,.nilS]),on (.st 4 (.t 6) (.t 8))]) (.seq (.seq (.reg [o 9 (.ld true 4 (.t 2)),o 10 (.call 199 [(.t 9)]),o 11 (.un .not (.t 10)),o 12 (.mov (.t 11)),og 13 12 false (.ld true 10 (.t 3)),og 14 12 false (.call 185 [(.t 13)]),og 15 12 false (.un .not (.t 14)),o 16 (.pick (.t 12) (.k (.bool true)) (.t 15))]) (.cnd (.t 16) (.seq (.reg [o 17 (.ld true 4 (.t 6)),on (.st 4 (.t 4) (.t 17)),o 5 (.mov (.k (.int .i64 3)))]) .ret) .skip)) (.seq (.seq (.reg [o 18 (.fad 0 (.t 2)),o 19 (.ld false 1 (.t 18)),o 20 (.fad 0 (.t 3)),o 21 (.ld true 2 (.t 20)),o 22 (.call 45 [(.t 19),(.t 21)])]) (.cnd (.t 22) (.seq (.reg [o 23 (.ld true 4 (.t 6)),on (.st 4 (.t 4) (.t 23)),o 5 (.mov (.k (.int .i64 1)))]) .ret) .skip)) (.seq (.seq (.reg [o 24 (.fad 3 (.t 3)),o 25 (.ld false 1 (.t 24)),o 26 (.fad 0 (.t 2)),o 27 (.ld false 1 (.t 26)),o 28 (.call 178 [(.t 25),(.t 27)]),o 29 (.un .not (.t 28))]) (.cnd (.t 29) (.seq (.reg [o 30 (.ld true 4 (.t 6)),on (.st 4 (.t 4) (.t 30)),o 5 (.mov (.k (.int .i64 2)))]) .ret) .skip)) (.seq (.seq (.reg [o 31 (.ld true 4 (.t 2)),o 32 (.ld true 10 (.t 3)),o 33 (.call 248 [(.t 31),(.t 32)]),o 34 (.un .not (.t 33))]) (.cnd (.t 34) (.seq (.reg [o 35 (.ld true 4 (.t 6)),on (.st 4 (.t 4) (.t 35)),o 5 (.mov (.k (.int .i64 3)))]) .ret) .skip)) (.seq (.reg [o 36 (.ld true 10 (.t 3)),o 37 (.call 249 [(.t 6),(.t 36)])]) (.seq (.seq (.reg [o 38 (.fad 1 (.t 6)),o 39 (.ld false 1 (.t 38)),o 40 (.len false (.t 39)),o 41 (.bin .gtr (.t 40) (.k (.int .i64 120))),o 42 (.mov (.t 41)),og 43 42 false (.fad 2 (.t 6)),og 44 42 false (.ld false 1 (.t 43)),og 45 42 false (.len false (.t 44)),og 46 42 false (.bin .gtr (.t 45) (.k (.int .i64 120))),o 47 (.pick (.t 42) (.k (.bool true)) (.t 46)),o 48 (.mov (.t 47)),og 49 48 false (.fad 3 (.t 6)),og 50 48 false (.ld false 1 (.t 49)),og 51 48 false (.len false (.t 50)),og 52 48 false (.bin .gtr (.t 51) (.k (.int .i64 120))),o 53 (.pick (.t 48) (.k (.bool true)) (.t 52))]) (.cnd (.t 53) (.seq (.reg [o 54 (.ld true 4 (.t 2)),o 55 (.call 247 [(.t 54)]),on (.st 4 (.t 4) (.t 55)),o 5 (.mov (.k (.int .i64 4)))]) .ret) .skip)) (.seq (.reg [o 56 (.ld true 4 (.t 6)),on (.st 4 (.t 4) (.t 56)),o 5 (.mov (.k (.int .i64 0)))]) .ret)))))))))⟩
theorem SPtr.drop {σ0 τ:St} {g:Nat} {s:State} {x:Thg} {rest:List Thg} (H:SPtr σ0 τ g s (x::rest)):SPtr σ0 τ g s rest:=by
 obtain⟨v0,v1,v2,v3,H⟩:=H
 exact⟨v0,v1,v2,v3,(H.pick 5 rfl).drop1⟩
theorem SPtr.push {σ0 τ:St} {g:Nat} {s:State} {rest:List Thg} (H:SPtr σ0 τ g s rest) (z:Nat) (cs:List GV):SPtr σ0 (τ++[some (.row z cs)]) g s (pt z τ.length cs::rest):=by
 obtain⟨v0,v1,v2,v3,H⟩:=H
 refine⟨v0,v1,v2,v3,?_⟩
 exact(H.new z cs).perm (List.perm_middle (l₁:=[_,_,_,_,_])).symm
abbrev actV (a:Act) (kv:GV):List GV:=[.int .i64 a.dot.rep,.int .i64 a.dot.seq,.int .i64 a.time,kv,.int .i64 a.kind,.str a.obj,.str a.key,.int .i64 a.val,.int .i64 a.ref.rep,.int .i64 a.ref.seq]
theorem SPtr.own {σ τ:St} {rs:List Thg} {x:State} {g:Nat} (H:SPtr σ τ g x rs):∃ v0 v1 v2 v3,rdB τ g=some [v0,v1,v2,v3]∧lenG false v1=some (x.tallies.length:Int)∧lenG false v2=some (x.lives.length:Int)∧lenG false v3=some (x.cells.length:Int)∧Hp σ τ (own kState [v0,v1,v2,v3] x::rs):=by
 obtain⟨v0,v1,v2,v3,H⟩:=H
 refine⟨v0,v1,v2,v3,H.pt 4 rfl,(H.sl 1 rfl).len,(H.sl 2 rfl).len,(H.sl 3 rfl).len,?_⟩
 exact Hp.ownState ((H.pick 4 rfl).drop1)
end Go.Proofs.YtbeoiejnogdkpaaGreat.Sy
namespace Go.Proofs.YtbeoiejnogdkpaaGreat.Sy
open Go Go.RowKit
set_option linter.unusedSimpArgs false
set_option linter.unusedVariables false
set_option maxRecDepth 4000
abbrev n_i_DoAct:Nat:=152
def F_i_DoAct:Fn1:=⟨176,[.c 4 true 4,.t 5],(.seq (.reg [o 2 (.box (.t 0)),o 3 (.box (.t 1)),o 4 (.new [.nilS,.nilS,.nilS,.nilS]),o 5 (.mov (.k (.int .i64 0)))]) (.seq (.reg [o 10 (.ld true 4 (.t 2)),o 11 (.call 255 [(.t 10)]),o 6 (.new [.nilS,.nilS,.nilS,.nilS]),on (.st 4 (.t 6) (.t 11))]) (.seq (.blk 0 (.seq (.reg [o 13 (.ld true 4 (.t 2)),o 14 (.call 195 [(.t 13)]),o 15 (.un .not (.t 14)),o 16 (.mov (.t 15)),og 17 16 false (.ld true 10 (.t 3)),og 18 16 false (.call 169 [(.t 17)]),og 19 16 false (.un .not (.t 18)),o 20 (.pick (.t 16) (.k (.bool true)) (.t 19)),o 12 (.mov (.t 20))]) (.cnd (.t 12) (.seq (.reg [o 21 (.ld true 4 (.t 6)),on (.st 4 (.t 4) (.t 21)),o 5 (.mov (.k (.int .i64 3)))]) .ret) (.seq (.reg [o 23 (.fad 0 (.t 2)),o 24 (.ld false 1 (.t 23)),o 25 (.fad 0 (.t 3)),o 26 (.ld true 2 (.t 25)),o 27 (.call 170 [(.t 24),(.t 26)]),o 22 (.mov (.t 27))]) (.cnd (.t 22) (.seq (.reg [o 28 (.ld true 4 (.t 6)),on (.st 4 (.t 4) (.t 28)),o 5 (.mov (.k (.int .i64 1)))]) .ret) (.seq (.reg [o 30 (.fad 3 (.t 3)),o 31 (.ld false 1 (.t 30)),o 32 (.fad 0 (.t 2)),o 33 (.ld false 1 (.t 32)),o 34 (.call 177 [(.t 31),(.t 33)]),o 35 (.un .not (.t 34)),o 29 (.mov (.t 35))]) (.cnd (.t 29) (.seq (.reg [o 36 (.ld true 4 (.t 6)),on (.st 4 (.t 4) (.t 36)),o 5 (.mov (.k (.int .i64 2)))]) .ret) .skip))))))) (.seq (.reg [o 37 (.ld true 4 (.t 2)),o 38 (.fad 8 (.t 3)),o 39 (.ld true 2 (.t 38)),o 40 (.call 158 [(.t 37),(.t 39)]),o 7 (.mov (.t 40))]) (.seq (.seq (.drw [o 41 (.fad 8 (.t 3)),o 42 (.ld true 2 (.t 41)),o 43 (.build [(.int .i64 0),(.int .i64 0)] []),o 44 (.eqs true [.i .i64,.i .i64] (.t 42) (.t 43)),o 45 (.mov (.t 44)),og 46 45 true (.mov (.t 7)),og 47 45 true (.bin .lss (.t 46) (.k (.int .i64 0))),og 48 45 true (.mov (.t 47)),og 49 48 false (.fad 3 (.t 2)),og 50 48 false (.ld false 1 (.t 49)),og 51 48 false (.mov (.t 7)),og 52 48 false (.iad 8 (.t 50) (.t 51)),og 53 48 false (.fad 0 (.t 52)),og 54 48 false (.ld false 1 (.t 53)),og 55 48 false (.fad 5 (.t 3)),og 56 48 false (.ld false 1 (.t 55)),og 57 48 false (.bin .neq (.t 54) (.t 56)),og 58 45 true (.pick (.t 48) (.k (.bool true)) (.t 57)),og 59 45 true (.mov (.t 58)),og 60 59 false (.fad 4 (.t 3)),og 61 59 false (.ld false 1 (.t 60)),og 62 59 false (.bin .eql (.t 61) (.k (.int .i64 6))),og 63 59 false (.mov (.t 62)),og 64 63 true (.fad 2 (.t 3)),og 65 63 true (.ld false 1 (.t 64)),og 66 63 true (.fad 3 (.t 2)),og 67 63 true (.ld false 1 (.t 66)),og 68 63 true (.mov (.t 7)),og 69 63 true (.iad 8 (.t 67) (.t 68)),og 70 63 true (.fad 3 (.t 69)),og 71 63 true (.ld false 1 (.t 70))] [og 72 63 true (.bin .leq (.t 65) (.t 71)),og 73 59 false (.pick (.t 63) (.t 72) (.k (.bool false))),og 74 45 true (.pick (.t 59) (.k (.bool true)) (.t 73)),o 75 (.pick (.t 45) (.t 74) (.k (.bool false)))]) (.cnd (.t 75) (.seq (.reg [o 76 (.ld true 4 (.t 6)),on (.st 4 (.t 4) (.t 76)),o 5 (.mov (.k (.int .i64 3)))]) .ret) .skip)) (.seq (.reg [o 77 (.ld true 4 (.t 2)),o 78 (.call 255 [(.t 77)]),o 8 (.new [.nilS,.nilS,.nilS,.nilS]),on (.st 4 (.t 8) (.t 78))]) (.seq (.reg [o 79 (.fad 0 (.t 8)),o 80 (.ld false 1 (.t 79)),o 81 (.fad 0 (.t 3)),o 82 (.fad 0 (.t 81)),o 83 (.ld false 1 (.t 82)),o 84 (.fad 0 (.t 3)),o 85 (.fad 1 (.t 84)),o 86 (.ld false 1 (.t 85)),o 87 (.iad 1 (.t 80) (.t 83)),on (.st 1 (.t 87) (.t 86))]) (.seq (.seq (.reg [o 88 (.fad 4 (.t 3)),o 89 (.ld false 1 (.t 88))]) (.blk 1 (.seq (.reg [o 91 (.bin .eql (.t 89) (.k (.int .i64 1))),o 90 (.mov (.t 91))]) (.cnd (.t 90) (.reg [o 92 (.fad 1 (.t 2)),o 93 (.ld false 1 (.t 92)),o 94 (.fad 5 (.t 3)),o 95 (.ld false 1 (.t 94)),o 96 (.fad 0 (.t 3)),o 97 (.fad 0 (.t 96)),o 98 (.ld false 1 (.t 97)),o 99 (.fad 7 (.t 3)),o 100 (.ld false 1 (.t 99)),o 101 (.call 256 [(.t 93),(.t 95),(.t 98),(.t 100)]),o 102 (.fad 1 (.t 8)),on (.st 1 (.t 102) (.t 101))]) (.seq (.reg [o 104 (.bin .eql (.t 89) (.k (.int .i64 2))),o 103 (.mov (.t 104))]) (.cnd (.t 103) (.reg [o 105 (.fad 2 (.t 2)),o 106 (.ld false 1 (.t 105)),o 107 (.fad 5 (.t 3)),o 108 (.ld false 1 (.t 107)),o 109 (.fad 6 (.t 3)),o 110 (.ld false 1 (.t 109)),o 111 (.fad 0 (.t 3)),o 112 (.ld true 2 (.t 111)),o 113 (.build [(.bool false),(.str ⟨#[]⟩),(.str ⟨#[]⟩),(.int .i64 0),(.int .i64 0),(.int .i64 0)] [(1,1,(.t 108)),(2,1,(.t 110)),(4,2,(.t 112))]),o 114 (.call 257 [(.t 106),(.t 113)]),o 115 (.fad 2 (.t 8)),on (.st 1 (.t 115) (.t 114))]) (.seq (.reg [o 117 (.bin .eql (.t 89) (.k (.int .i64 3))),o 116 (.mov (.t 117))]) (.cnd (.t 116) (.reg [o 118 (.fad 2 (.t 2)),o 119 (.ld false 1 (.t 118)),o 120 (.ld true 10 (.t 3)),o 121 (.call 258 [(.t 119),(.k (.bool false)),(.t 120)]),o 122 (.fad 2 (.t 8)),on (.st 1 (.t 122) (.t 121))]) (.seq (.reg [o 124 (.bin .eql (.t 89) (.k (.int .i64 4))),o 123 (.mov (.t 124))]) (.cnd (.t 123) (.seq (.reg [o 125 (.fad 2 (.t 2)),o 126 (.ld false 1 (.t 125)),o 127 (.ld true 10 (.t 3)),o 128 (.call 258 [(.t 126),(.k (.bool true)),(.t 127)]),o 9 (.mov (.t 128))]) (.reg [o 129 (.mov (.t 9)),o 130 (.fad 5 (.t 3)),o 131 (.ld false 1 (.t 130)),o 132 (.fad 6 (.t 3)),o 133 (.ld false 1 (.t 132)),o 134 (.fad 7 (.t 3)),o 135 (.ld false 1 (.t 134)),o 136 (.fad 0 (.t 3)),o 137 (.ld true 2 (.t 136)),o 138 (.build [(.bool false),(.str ⟨#[]⟩),(.str ⟨#[]⟩),(.int .i64 0),(.int .i64 0),(.int .i64 0)] [(0,1,(.k (.bool true))),(1,1,(.t 131)),(2,1,(.t 133)),(3,1,(.t 135)),(4,2,(.t 137))]),o 139 (.call 257 [(.t 129),(.t 138)]),o 140 (.fad 2 (.t 8)),on (.st 1 (.t 140) (.t 139))])) (.seq (.reg [o 142 (.bin .eql (.t 89) (.k (.int .i64 5))),o 141 (.mov (.t 142))]) (.cnd (.t 141) (.reg [o 143 (.fad 2 (.t 2)),o 144 (.ld false 1 (.t 143)),o 145 (.ld true 10 (.t 3)),o 146 (.call 258 [(.t 144),(.k (.bool true)),(.t 145)]),o 147 (.fad 2 (.t 8)),on (.st 1 (.t 147) (.t 146))]) (.seq (.reg [o 149 (.bin .eql (.t 89) (.k (.int .i64 6))),o 148 (.mov (.t 149))]) (.cnd (.t 148) (.reg [o 150 (.fad 3 (.t 2)),o 151 (.ld false 1 (.t 150)),o 152 (.fad 5 (.t 3)),o 153 (.ld false 1 (.t 152)),o 154 (.fad 0 (.t 3)),o 155 (.ld true 2 (.t 154)),o 156 (.fad 2 (.t 3)),o 157 (.ld false 1 (.t 156)),o 158 (.fad 8 (.t 3)),o 159 (.ld true 2 (.t 158)),o 160 (.fad 7 (.t 3)),o 161 (.ld false 1 (.t 160)),o 162 (.build [(.str ⟨#[]⟩),(.int .i64 0),(.int .i64 0),(.int .i64 0),(.int .i64 0),(.int .i64 0),(.int .i64 0),(.bool false)] [(0,1,(.t 153)),(1,2,(.t 155)),(3,1,(.t 157)),(4,2,(.t 159)),(6,1,(.t 161))]),o 163 (.call 259 [(.t 151),(.t 162)]),o 164 (.fad 3 (.t 8)),on (.st 1 (.t 164) (.t 163))]) (.seq (.reg [o 166 (.bin .eql (.t 89) (.k (.int .i64 7))),o 165 (.mov (.t 166))]) (.cnd (.t 165) (.reg [o 167 (.fad 3 (.t 8)),o 168 (.ld false 1 (.t 167)),o 169 (.mov (.t 7)),o 170 (.iad 8 (.t 168) (.t 169)),o 171 (.fad 7 (.t 170)),on (.st 1 (.t 171) (.k (.bool true)))]) .skip)))))))))))))))) (.seq (.seq (.reg [o 172 (.ld true 4 (.t 8)),o 173 (.call 260 [(.t 172)])]) (.cnd (.t 173) (.seq (.reg [o 174 (.ld true 4 (.t 6)),on (.st 4 (.t 4) (.t 174)),o 5 (.mov (.k (.int .i64 4)))]) .ret) .skip)) (.seq (.reg [o 175 (.ld true 4 (.t 8)),on (.st 4 (.t 4) (.t 175)),o 5 (.mov (.k (.int .i64 0)))]) .ret))))))))))⟩
def zSt (σ:St) (cs:List GV):Prop:=∃ a b c v,cs=[a,b,c,v]∧zOk σ 3 b=true∧zOk σ 6 c=true∧zOk σ 8 v=true
end Go.Proofs.YtbeoiejnogdkpaaGreat.Sy
namespace Go.Proofs.YtbeoiejnogdkpaaGreat.Sy
open Go Go.RowKit
set_option linter.unusedSimpArgs false
set_option linter.unusedVariables false
set_option maxRecDepth 4000
abbrev n_i_rowCells:Nat:=198
def F_i_rowCells:Fn1:=⟨34,[.t 4],(.seq (.reg [o 2 (.box (.t 0)),o 4 (.mov (.k .nilS))]) (.seq (.reg [o 9 (.lit 8 0 [] []),o 5 (.mov (.t 9))]) (.seq (.seq (.reg [o 10 (.ld true 4 (.t 2)),o 11 (.mov (.t 1)),o 12 (.call 289 [(.t 10),(.t 11)]),o 13 (.len false (.t 12)),o 14 (.mov (.k (.int .i64 0)))]) (.blk 0 (.lop (.seq (.reg [o 15 (.bin .lss (.t 14) (.t 13))]) (.seq (.cnd (.t 15) .skip (.ext 0)) (.seq (.blk 1 (.seq (.reg [o 16 (.iad 2 (.t 12) (.t 14)),o 17 (.ld true 2 (.t 16)),o 7 (.new [(.int .i64 0),(.int .i64 0)]),on (.st 2 (.t 7) (.t 17))]) (.seq (.drw [o 18 (.fad 3 (.t 2)),o 19 (.ld false 1 (.t 18)),o 20 (.ld true 4 (.t 2)),o 21 (.ld true 2 (.t 7)),o 22 (.call 158 [(.t 20),(.t 21)]),o 23 (.iad 8 (.t 19) (.t 22)),o 24 (.ld true 8 (.t 23)),o 8 (.new [(.str ⟨#[]⟩),(.int .i64 0),(.int .i64 0),(.int .i64 0),(.int .i64 0),(.int .i64 0),(.int .i64 0),(.bool false)])] [on (.st 8 (.t 8) (.t 24))]) (.seq (.reg [o 25 (.fad 7 (.t 8)),o 26 (.ld false 1 (.t 25)),o 27 (.un .not (.t 26))]) (.cnd (.t 27) (.reg [o 28 (.mov (.t 5)),o 29 (.ld true 8 (.t 8)),o 30 (.lit 8 1 [(.str ⟨#[]⟩),(.int .i64 0),(.int .i64 0),(.int .i64 0),(.int .i64 0),(.int .i64 0),(.int .i64 0),(.bool false)] [(0,8,(.t 29))]),o 31 (.app 8 72 [(.str ⟨#[]⟩),(.int .i64 0),(.int .i64 0),(.int .i64 0),(.int .i64 0),(.int .i64 0),(.int .i64 0),(.bool false)] (.t 28) (.t 30)),o 5 (.mov (.t 31))]) .skip))))) (.reg [o 32 (.bin .add (.t 14) (.k (.int .i64 1))),o 14 (.mov (.t 32))]))))))) (.seq (.reg [o 33 (.mov (.t 5)),o 4 (.mov (.t 33))]) .ret))))⟩
abbrev n_s_RowWhose:Nat:=76
def F_s_RowWhose:Fn1:=⟨45,[.t 4],(.seq (.reg [o 2 (.box (.t 0)),o 4 (.mov (.k .nilS))]) (.seq (.reg [o 9 (.lit 1 0 [] []),o 5 (.mov (.t 9))]) (.seq (.reg [o 10 (.ld true 4 (.t 2)),o 11 (.mov (.t 1)),o 12 (.call 206 [(.t 10),(.t 11)]),o 6 (.mov (.t 12))]) (.seq (.seq (.reg [o 7 (.mov (.k (.int .i64 0)))]) (.blk 0 (.lop (.seq (.seq (.reg [o 13 (.mov (.t 7)),o 14 (.mov (.t 6)),o 15 (.len false (.t 14)),o 16 (.bin .lss (.t 13) (.t 15))]) (.cnd (.t 16) .skip (.ext 0))) (.seq (.blk 1 (.seq (.drw [o 19 (.ld true 4 (.t 2)),o 20 (.mov (.t 6)),o 21 (.mov (.t 7)),o 22 (.iad 2 (.t 20) (.t 21)),o 23 (.ld true 2 (.t 22))] [o 24 (.call 146 [(.t 19),(.t 23)]),o 8 (.mov (.t 24))]) (.seq (.reg [o 25 (.mov (.t 8)),o 26 (.bin .geq (.t 25) (.k (.int .i64 0))),o 27 (.mov (.t 26)),og 28 27 true (.fad 3 (.t 2)),og 29 27 true (.ld false 1 (.t 28)),og 30 27 true (.mov (.t 8)),og 31 27 true (.iad 8 (.t 29) (.t 30)),og 32 27 true (.fad 7 (.t 31)),og 33 27 true (.ld false 1 (.t 32)),og 34 27 true (.un .not (.t 33)),o 35 (.pick (.t 27) (.t 34) (.k (.bool false)))]) (.cnd (.t 35) (.reg [o 36 (.mov (.t 5)),o 37 (.mov (.t 6)),o 38 (.mov (.t 7)),o 39 (.iad 2 (.t 37) (.t 38)),o 40 (.fad 0 (.t 39)),o 41 (.ld false 1 (.t 40)),o 42 (.lit 1 1 [(.int .i64 0)] [(0,1,(.t 41))]),o 43 (.app 1 8 [(.int .i64 0)] (.t 36) (.t 42)),o 5 (.mov (.t 43))]) .skip)))) (.reg [o 17 (.mov (.t 7)),o 18 (.bin .add (.t 17) (.k (.int .i64 1))),o 7 (.mov (.t 18))])))))) (.seq (.reg [o 44 (.mov (.t 5)),o 4 (.mov (.t 44))]) .ret)))))⟩
abbrev n_i_RowWhose:Nat:=71
def F_i_RowWhose:Fn1:=⟨25,[.t 4],(.seq (.reg [o 2 (.box (.t 0)),o 4 (.mov (.k .nilS))]) (.seq (.reg [o 8 (.lit 1 0 [] []),o 5 (.mov (.t 8))]) (.seq (.seq (.reg [o 9 (.ld true 4 (.t 2)),o 10 (.mov (.t 1)),o 11 (.call 198 [(.t 9),(.t 10)]),o 12 (.len false (.t 11)),o 13 (.mov (.k (.int .i64 0)))]) (.blk 0 (.lop (.seq (.reg [o 14 (.bin .lss (.t 13) (.t 12))]) (.seq (.cnd (.t 14) .skip (.ext 0)) (.seq (.blk 1 (.seq (.reg [o 15 (.iad 8 (.t 11) (.t 13)),o 16 (.ld true 8 (.t 15)),o 7 (.new [(.str ⟨#[]⟩),(.int .i64 0),(.int .i64 0),(.int .i64 0),(.int .i64 0),(.int .i64 0),(.int .i64 0),(.bool false)]),on (.st 8 (.t 7) (.t 16))]) (.reg [o 17 (.mov (.t 5)),o 18 (.fad 1 (.t 7)),o 19 (.fad 0 (.t 18)),o 20 (.ld false 1 (.t 19)),o 21 (.lit 1 1 [(.int .i64 0)] [(0,1,(.t 20))]),o 22 (.app 1 8 [(.int .i64 0)] (.t 17) (.t 21)),o 5 (.mov (.t 22))]))) (.reg [o 23 (.bin .add (.t 13) (.k (.int .i64 1))),o 13 (.mov (.t 23))]))))))) (.seq (.reg [o 24 (.mov (.t 5)),o 4 (.mov (.t 24))]) .ret))))⟩
def goneNot (c:Cell):Bool:= !c.gone
end Go.Proofs.YtbeoiejnogdkpaaGreat.Sy
namespace Go.Proofs.YtbeoiejnogdkpaaGreat.Sy
open Go Go.RowKit
set_option linter.unusedSimpArgs false
set_option linter.unusedVariables false
set_option maxRecDepth 4000
abbrev n_s_EditOk:Nat:=345
def F_s_EditOk:Fn1:=⟨34,[.t 2],(.seq (.reg [o 1 (.box (.t 0)),o 2 (.mov (.k (.bool false)))]) (.seq (.reg [o 4 (.fad 0 (.t 1)),o 5 (.ld false 1 (.t 4)),o 6 (.bin .eql (.t 5) (.k (.int .i64 6))),o 7 (.mov (.t 6)),og 8 7 false (.fad 0 (.t 1)),og 9 7 false (.ld false 1 (.t 8)),og 10 7 false (.bin .eql (.t 9) (.k (.int .i64 7))),o 11 (.pick (.t 7) (.k (.bool true)) (.t 10)),o 3 (.mov (.t 11))]) (.seq (.reg [o 12 (.fad 0 (.t 1)),o 13 (.ld false 1 (.t 12)),o 14 (.fad 1 (.t 1)),o 15 (.ld false 1 (.t 14)),o 16 (.fad 2 (.t 1)),o 17 (.ld false 1 (.t 16)),o 18 (.fad 3 (.t 1)),o 19 (.ld false 1 (.t 18)),o 20 (.call 279 [(.t 13),(.t 15),(.t 17),(.t 19)]),o 21 (.mov (.t 20)),og 22 21 true (.fad 4 (.t 1)),og 23 21 true (.ld false 1 (.t 22)),og 24 21 true (.bin .geq (.t 23) (.k (.int .i64 0))),o 25 (.pick (.t 21) (.t 24) (.k (.bool false))),o 26 (.mov (.t 25)),og 27 26 true (.mov (.t 3)),og 28 26 true (.mov (.t 27)),og 29 28 false (.fad 4 (.t 1)),og 30 28 false (.ld false 1 (.t 29)),og 31 28 false (.bin .eql (.t 30) (.k (.int .i64 0))),og 32 26 true (.pick (.t 28) (.k (.bool true)) (.t 31)),o 33 (.pick (.t 26) (.t 32) (.k (.bool false))),o 2 (.mov (.t 33))]) .ret)))⟩
abbrev n_s_PlaceIn:Nat:=346
def F_s_PlaceIn:Fn1:=⟨42,[.c 6 true 2,.t 7],(.seq (.reg [o 3 (.box (.t 0)),o 6 (.new [(.int .i64 0),(.int .i64 0)]),o 7 (.mov (.k (.bool false)))]) (.seq (.seq (.reg [o 10 (.ld true 4 (.t 3)),o 11 (.call 199 [(.t 10)]),o 12 (.un .not (.t 11)),o 13 (.mov (.t 12)),og 14 13 false (.mov (.t 2)),og 15 13 false (.bin .lss (.t 14) (.k (.int .i64 0))),o 16 (.pick (.t 13) (.k (.bool true)) (.t 15))]) (.cnd (.t 16) (.seq (.reg [o 17 (.build [(.int .i64 0),(.int .i64 0)] []),on (.st 2 (.t 6) (.t 17)),o 7 (.mov (.k (.bool false)))]) .ret) .skip)) (.seq (.reg [o 18 (.ld true 4 (.t 3)),o 19 (.mov (.t 1)),o 20 (.call 145 [(.t 18),(.t 19)]),o 8 (.mov (.t 20))]) (.seq (.seq (.reg [o 9 (.mov (.k (.int .i64 0)))]) (.blk 0 (.lop (.seq (.seq (.reg [o 21 (.mov (.t 9)),o 22 (.mov (.t 8)),o 23 (.len false (.t 22)),o 24 (.bin .lss (.t 21) (.t 23))]) (.cnd (.t 24) .skip (.ext 0))) (.seq (.blk 1 (.seq (.seq (.reg [o 27 (.mov (.t 8)),o 28 (.mov (.t 9)),o 29 (.iad 8 (.t 27) (.t 28)),o 30 (.fad 7 (.t 29)),o 31 (.ld false 1 (.t 30))]) (.cnd (.t 31) (.ext 1) .skip)) (.seq (.seq (.reg [o 32 (.mov (.t 2)),o 33 (.bin .eql (.t 32) (.k (.int .i64 0)))]) (.cnd (.t 33) (.seq (.reg [o 34 (.mov (.t 8)),o 35 (.mov (.t 9)),o 36 (.iad 8 (.t 34) (.t 35)),o 37 (.fad 1 (.t 36)),o 38 (.ld true 2 (.t 37)),on (.st 2 (.t 6) (.t 38)),o 7 (.mov (.k (.bool true)))]) .ret) .skip)) (.reg [o 39 (.mov (.t 2)),o 40 (.bin .sub (.t 39) (.k (.int .i64 1))),o 2 (.mov (.t 40))])))) (.reg [o 25 (.mov (.t 9)),o 26 (.bin .add (.t 25) (.k (.int .i64 1))),o 9 (.mov (.t 26))])))))) (.seq (.reg [o 41 (.build [(.int .i64 0),(.int .i64 0)] []),on (.st 2 (.t 6) (.t 41)),o 7 (.mov (.k (.bool false)))]) .ret)))))⟩
def editOk (e:Edit):Bool:=plainOk e.kind e.obj e.key e.val&&(decide (0≤e.place)&&((e.kind==6||e.kind==7)||e.place==0))
def placeIn (s:State) (o:ByteArray) (i:Int):Dot×Bool:=if h:0≤i∧i.toNat<(rowL s o).length then((rowL s o)[i.toNat].dot,true) else(⟨0,0⟩,false)
end Go.Proofs.YtbeoiejnogdkpaaGreat.Sy
namespace Go.Proofs.YtbeoiejnogdkpaaGreat.Sy
open Go Go.RowKit
set_option linter.unusedSimpArgs false
set_option linter.unusedVariables false
set_option maxRecDepth 4000
abbrev n_s_ActOf:Nat:=276
def F_s_ActOf:Fn1:=⟨98,[.c 8 true 10,.t 9],(.seq (.reg [o 4 (.box (.t 0)),o 7 (.box (.t 3)),o 8 (.new [(.int .i64 0),(.int .i64 0),(.int .i64 0),.nilS,(.int .i64 0),(.str ⟨#[]⟩),(.str ⟨#[]⟩),(.int .i64 0),(.int .i64 0),(.int .i64 0)]),o 9 (.mov (.k (.int .i64 0)))]) (.seq (.seq (.reg [o 12 (.ld true 4 (.t 4)),o 13 (.call 199 [(.t 12)]),o 14 (.un .not (.t 13)),o 15 (.mov (.t 14)),og 16 15 false (.ld true 5 (.t 7)),og 17 15 false (.call 345 [(.t 16)]),og 18 15 false (.un .not (.t 17)),o 19 (.pick (.t 15) (.k (.bool true)) (.t 18)),o 20 (.mov (.t 19)),og 21 20 false (.mov (.t 1)),og 22 20 false (.call 122 [(.t 21),(.k (.int .i64 0)),(.k (.int .i64 2))]),og 23 20 false (.un .not (.t 22)),o 24 (.pick (.t 20) (.k (.bool true)) (.t 23)),o 25 (.mov (.t 24)),og 26 25 false (.mov (.t 2)),og 27 25 false (.call 122 [(.t 26),(.k (.int .i64 1)),(.k (.int .i64 10000))]),og 28 25 false (.un .not (.t 27)),o 29 (.pick (.t 25) (.k (.bool true)) (.t 28))]) (.cnd (.t 29) (.seq (.reg [o 30 (.build [(.int .i64 0),(.int .i64 0),(.int .i64 0),.nilS,(.int .i64 0),(.str ⟨#[]⟩),(.str ⟨#[]⟩),(.int .i64 0),(.int .i64 0),(.int .i64 0)] []),on (.st 10 (.t 8) (.t 30)),o 9 (.mov (.k (.int .i64 3)))]) .ret) .skip)) (.seq (.drw [o 31 (.mov (.t 1)),o 32 (.fad 0 (.t 4)),o 33 (.ld false 1 (.t 32)),o 34 (.mov (.t 1)),o 35 (.iad 1 (.t 33) (.t 34)),o 36 (.ld false 1 (.t 35)),o 37 (.bin .add (.t 36) (.k (.int .i64 1))),o 38 (.build [(.int .i64 0),(.int .i64 0)] [(0,1,(.t 31)),(1,1,(.t 37))]),o 39 (.mov (.t 2)),o 40 (.lit 1 0 [] []),o 41 (.fad 0 (.t 4)),o 42 (.ld false 1 (.t 41)),o 43 (.app 1 8 [(.int .i64 0)] (.t 40) (.t 42)),o 44 (.fad 0 (.t 7)),o 45 (.ld false 1 (.t 44)),o 46 (.fad 1 (.t 7)),o 47 (.ld false 1 (.t 46)),o 48 (.fad 2 (.t 7)),o 49 (.ld false 1 (.t 48)),o 50 (.fad 3 (.t 7)),o 51 (.ld false 1 (.t 50)),o 52 (.build [(.int .i64 0),(.int .i64 0),(.int .i64 0),.nilS,(.int .i64 0),(.str ⟨#[]⟩),(.str ⟨#[]⟩),(.int .i64 0),(.int .i64 0),(.int .i64 0)] [(0,2,(.t 38)),(2,1,(.t 39)),(3,1,(.t 43)),(4,1,(.t 45)),(5,1,(.t 47)),(6,1,(.t 49)),(7,1,(.t 51))]),o 10 (.new [(.int .i64 0),(.int .i64 0),(.int .i64 0),.nilS,(.int .i64 0),(.str ⟨#[]⟩),(.str ⟨#[]⟩),(.int .i64 0),(.int .i64 0),(.int .i64 0)])] [on (.st 10 (.t 10) (.t 52))]) (.seq (.reg [o 11 (.mov (.k (.bool true)))]) (.seq (.seq (.reg [o 53 (.fad 0 (.t 7)),o 54 (.ld false 1 (.t 53)),o 55 (.bin .eql (.t 54) (.k (.int .i64 7)))]) (.cnd (.t 55) (.reg [o 57 (.ld true 4 (.t 4)),o 58 (.fad 1 (.t 7)),o 59 (.ld false 1 (.t 58)),o 60 (.fad 4 (.t 7)),o 61 (.ld false 1 (.t 60)),o 62 (.call 346 [(.t 57),(.t 59),(.t 61)]),o 56 (.mov (.t 62)),o 63 (.ext 0 (.t 56)),o 64 (.ext 1 (.t 56)),o 65 (.fad 8 (.t 10)),on (.st 2 (.t 65) (.t 63)),o 11 (.mov (.t 64))]) .skip)) (.seq (.seq (.reg [o 66 (.fad 0 (.t 7)),o 67 (.ld false 1 (.t 66)),o 68 (.bin .eql (.t 67) (.k (.int .i64 6))),o 69 (.mov (.t 68)),og 70 69 true (.fad 4 (.t 7)),og 71 69 true (.ld false 1 (.t 70)),og 72 69 true (.bin .gtr (.t 71) (.k (.int .i64 0))),o 73 (.pick (.t 69) (.t 72) (.k (.bool false)))]) (.cnd (.t 73) (.reg [o 75 (.ld true 4 (.t 4)),o 76 (.fad 1 (.t 7)),o 77 (.ld false 1 (.t 76)),o 78 (.fad 4 (.t 7)),o 79 (.ld false 1 (.t 78)),o 80 (.bin .sub (.t 79) (.k (.int .i64 1))),o 81 (.call 346 [(.t 75),(.t 77),(.t 80)]),o 74 (.mov (.t 81)),o 82 (.ext 0 (.t 74)),o 83 (.ext 1 (.t 74)),o 84 (.fad 8 (.t 10)),on (.st 2 (.t 84) (.t 82)),o 11 (.mov (.t 83))]) .skip)) (.seq (.seq (.reg [o 85 (.fad 0 (.t 10)),o 86 (.ld true 2 (.t 85)),o 87 (.call 168 [(.t 86)]),o 88 (.un .not (.t 87))]) (.cnd (.t 88) (.seq (.reg [o 89 (.build [(.int .i64 0),(.int .i64 0),(.int .i64 0),.nilS,(.int .i64 0),(.str ⟨#[]⟩),(.str ⟨#[]⟩),(.int .i64 0),(.int .i64 0),(.int .i64 0)] []),on (.st 10 (.t 8) (.t 89)),o 9 (.mov (.k (.int .i64 3)))]) .ret) .skip)) (.seq (.seq (.reg [o 90 (.mov (.t 11)),o 91 (.un .not (.t 90))]) (.cnd (.t 91) (.seq (.reg [o 92 (.build [(.int .i64 0),(.int .i64 0),(.int .i64 0),.nilS,(.int .i64 0),(.str ⟨#[]⟩),(.str ⟨#[]⟩),(.int .i64 0),(.int .i64 0),(.int .i64 0)] []),on (.st 10 (.t 8) (.t 92)),o 9 (.mov (.k (.int .i64 5)))]) .ret) .skip)) (.seq (.seq (.reg [o 93 (.ld true 10 (.t 10)),o 94 (.call 185 [(.t 93)]),o 95 (.un .not (.t 94))]) (.cnd (.t 95) (.seq (.reg [o 96 (.build [(.int .i64 0),(.int .i64 0),(.int .i64 0),.nilS,(.int .i64 0),(.str ⟨#[]⟩),(.str ⟨#[]⟩),(.int .i64 0),(.int .i64 0),(.int .i64 0)] []),on (.st 10 (.t 8) (.t 96)),o 9 (.mov (.k (.int .i64 3)))]) .ret) .skip)) (.seq (.reg [o 97 (.ld true 10 (.t 10)),on (.st 10 (.t 8) (.t 97)),o 9 (.mov (.k (.int .i64 0)))]) .ret))))))))))⟩
def placeOf (s:State) (e:Edit):Dot×Bool:=if e.kind=7 then placeIn s e.obj e.place else if e.kind=6∧0<e.place then placeIn s e.obj (e.place - 1) else(d0,true)
def act0:Act:=⟨d0,0,[],0,⟨#[]⟩,⟨#[]⟩,0,d0⟩
def actWith (s:State) (rep time:Int) (e:Edit) (d:Dot):Act:=⟨⟨rep,at0 s.know rep+1⟩,time,s.know,e.kind,e.obj,e.key,e.val,d⟩
def actRaw (s:State) (rep time:Int) (e:Edit):Act:=actWith s rep time e (placeOf s e).1
abbrev awV (s:State) (rep time:Int) (e:Edit) (kv:GV) (d:Dot):List GV:=[gi rep,gi (at0 s.know rep+1),gi time,kv,gi e.kind,.str e.obj,.str e.key,gi e.val,gi d.rep,gi d.seq]
def actOf (s:State) (rep time:Int) (e:Edit):Act×Int:=
 if stateOk s&&(editOk e&&(inB rep 0 2&&inB time 1 10000)) then
  if dotOk ⟨rep,at0 s.know rep+1⟩ then
   if(placeOf s e).2 then
    if actOk (actRaw s rep time e) then(actRaw s rep time e,0) else(act0,3)
   else(act0,5)
  else(act0,3)
 else(act0,3)
abbrev edV (e:Edit):List GV:=[gi e.kind,.str e.obj,.str e.key,gi e.val,gi e.place]
abbrev zeV:List GV:=[gi 0,gi 0,gi 0,GV.nilS,gi 0,.str ⟨#[]⟩,.str ⟨#[]⟩,gi 0,gi 0,gi 0]
end Go.Proofs.YtbeoiejnogdkpaaGreat.Sy
namespace Go.Proofs.YtbeoiejnogdkpaaGreat.Sy
open Go Go.RowKit
set_option linter.unusedSimpArgs false
set_option linter.unusedVariables false
set_option maxRecDepth 4000
end Go.Proofs.YtbeoiejnogdkpaaGreat.Sy
namespace Go.Proofs.YtbeoiejnogdkpaaGreat.Sy
open Go Go.RowKit
set_option linter.unusedSimpArgs false
set_option linter.unusedVariables false
set_option maxRecDepth 4000
theorem sumL_perm {α:Type} (f:α→Nat) {l k:List α} (h:l.Perm k):sumL f l=sumL f k:=by
 unfold sumL
 exact(h.map f).sum_nat
def stepE (s:State) (rep t:Int) (e:Edit):State×Int:=if(actOf s rep t e).2=0 then doAct s (actOf s rep t e).1 else(s,(actOf s rep t e).2)
def runE (s:State) (rep t:Int) (es:List Edit):Nat→State×Int
 |0=>(s,0)
 |i+1=>if(runE s rep t es i).2=0 then(if h:i<es.length then stepE (runE s rep t es i).1 rep (IntKind.i64.wrap (t+i)) es[i] else runE s rep t es i) else runE s rep t es i
def doEdits (s:State) (rep t:Int) (es:List Edit):State×Int:=runE s rep t es es.length
end Go.Proofs.YtbeoiejnogdkpaaGreat.Sy
