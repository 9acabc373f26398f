/- Texts of this proof, one behind the other. -/
import Derived.Test.YtffnefmklckngaaGreatBActsBy2
import Derived.Test.YtffnefmklckngaaGreatProg
import Derived.KernelRfl
namespace Go.Proofs.YtffnefmklckngaaGreat.Sy
open Go Go.RowKit
set_option linter.unusedSimpArgs false
set_option linter.unusedVariables false
set_option maxRecDepth 4000
abbrev n_s_l13NoAct:Nat:=104
def F_s_l13NoAct:Fn1:=⟨44,[.t 2],(.seq (.reg [o 1 (.box (.t 0)),o 2 (.mov (.k (.bool false)))]) (.seq (.reg [o 3 (.fad 0 (.t 1)),o 4 (.ld true 2 (.t 3)),o 5 (.build [(.int .i64 0),(.int .i64 0)] []),o 6 (.eqs false [.i .i64,.i .i64] (.t 4) (.t 5)),o 7 (.mov (.t 6)),og 8 7 true (.fad 2 (.t 1)),og 9 7 true (.ld false 1 (.t 8)),og 10 7 true (.bin .eql (.t 9) (.k (.int .i64 0))),o 11 (.pick (.t 7) (.t 10) (.k (.bool false))),o 12 (.mov (.t 11)),og 13 12 true (.fad 3 (.t 1)),og 14 12 true (.ld false 1 (.t 13)),og 15 12 true (.len false (.t 14)),og 16 12 true (.bin .eql (.t 15) (.k (.int .i64 0))),o 17 (.pick (.t 12) (.t 16) (.k (.bool false))),o 18 (.mov (.t 17)),og 19 18 true (.fad 4 (.t 1)),og 20 18 true (.ld false 1 (.t 19)),og 21 18 true (.bin .eql (.t 20) (.k (.int .i64 0))),o 22 (.pick (.t 18) (.t 21) (.k (.bool false))),o 23 (.mov (.t 22)),og 24 23 true (.fad 5 (.t 1)),og 25 23 true (.ld false 1 (.t 24)),og 26 23 true (.bin .eql (.t 25) (.k (.str ⟨#[]⟩))),o 27 (.pick (.t 23) (.t 26) (.k (.bool false))),o 28 (.mov (.t 27)),og 29 28 true (.fad 6 (.t 1)),og 30 28 true (.ld false 1 (.t 29)),og 31 28 true (.bin .eql (.t 30) (.k (.str ⟨#[]⟩))),o 32 (.pick (.t 28) (.t 31) (.k (.bool false))),o 33 (.mov (.t 32)),og 34 33 true (.fad 7 (.t 1)),og 35 33 true (.ld false 1 (.t 34)),og 36 33 true (.bin .eql (.t 35) (.k (.int .i64 0))),o 37 (.pick (.t 33) (.t 36) (.k (.bool false))),o 38 (.mov (.t 37)),og 39 38 true (.fad 8 (.t 1)),og 40 38 true (.ld true 2 (.t 39)),og 41 38 true (.build [(.int .i64 0),(.int .i64 0)] []),og 42 38 true (.eqs false [.i .i64,.i .i64] (.t 40) (.t 41)),o 43 (.pick (.t 38) (.t 42) (.k (.bool false))),o 2 (.mov (.t 43))]) .ret))⟩
theorem ir_s_l13NoAct:compFn Tryz.prog n_s_l13NoAct=some F_s_l13NoAct:=by kernel_rfl
abbrev n_s_l13NoDelta:Nat:=106
def F_s_l13NoDelta:Fn1:=⟨37,[.t 2],(.seq (.reg [o 1 (.box (.t 0)),o 2 (.mov (.k (.bool false)))]) (.seq (.reg [o 3 (.fad 0 (.t 1)),o 4 (.ld false 1 (.t 3)),o 5 (.len false (.t 4)),o 6 (.bin .eql (.t 5) (.k (.int .i64 0))),o 7 (.mov (.t 6)),og 8 7 true (.fad 1 (.t 1)),og 9 7 true (.ld false 1 (.t 8)),og 10 7 true (.len false (.t 9)),og 11 7 true (.bin .eql (.t 10) (.k (.int .i64 0))),o 12 (.pick (.t 7) (.t 11) (.k (.bool false))),o 13 (.mov (.t 12)),og 14 13 true (.fad 2 (.t 1)),og 15 13 true (.ld false 1 (.t 14)),og 16 13 true (.len false (.t 15)),og 17 13 true (.bin .eql (.t 16) (.k (.int .i64 0))),o 18 (.pick (.t 13) (.t 17) (.k (.bool false))),o 19 (.mov (.t 18)),og 20 19 true (.fad 3 (.t 1)),og 21 19 true (.ld false 1 (.t 20)),og 22 19 true (.len false (.t 21)),og 23 19 true (.bin .eql (.t 22) (.k (.int .i64 0))),o 24 (.pick (.t 19) (.t 23) (.k (.bool false))),o 25 (.mov (.t 24)),og 26 25 true (.fad 4 (.t 1)),og 27 25 true (.ld false 1 (.t 26)),og 28 25 true (.len false (.t 27)),og 29 25 true (.bin .eql (.t 28) (.k (.int .i64 0))),o 30 (.pick (.t 25) (.t 29) (.k (.bool false))),o 31 (.mov (.t 30)),og 32 31 true (.fad 5 (.t 1)),og 33 31 true (.ld false 1 (.t 32)),og 34 31 true (.len false (.t 33)),og 35 31 true (.bin .eql (.t 34) (.k (.int .i64 0))),o 36 (.pick (.t 31) (.t 35) (.k (.bool false))),o 2 (.mov (.t 36))]) .ret))⟩
theorem ir_s_l13NoDelta:compFn Tryz.prog n_s_l13NoDelta=some F_s_l13NoDelta:=by kernel_rfl
abbrev n_i_SameAct:Nat:=110
def F_i_SameAct:Fn1:=⟨59,[.t 4],(.seq (.reg [o 2 (.box (.t 0)),o 3 (.box (.t 1)),o 4 (.mov (.k (.bool false)))]) (.seq (.reg [o 5 (.fad 0 (.t 2)),o 6 (.ld true 2 (.t 5)),o 7 (.fad 0 (.t 3)),o 8 (.ld true 2 (.t 7)),o 9 (.eqs false [.i .i64,.i .i64] (.t 6) (.t 8)),o 10 (.mov (.t 9)),og 11 10 true (.fad 2 (.t 2)),og 12 10 true (.ld false 1 (.t 11)),og 13 10 true (.fad 2 (.t 3)),og 14 10 true (.ld false 1 (.t 13)),og 15 10 true (.bin .eql (.t 12) (.t 14)),o 16 (.pick (.t 10) (.t 15) (.k (.bool false))),o 17 (.mov (.t 16)),og 18 17 true (.fad 3 (.t 2)),og 19 17 true (.ld false 1 (.t 18)),og 20 17 true (.fad 3 (.t 3)),og 21 17 true (.ld false 1 (.t 20)),og 22 17 true (.call 81 [(.t 19),(.t 21)]),o 23 (.pick (.t 17) (.t 22) (.k (.bool false))),o 24 (.mov (.t 23)),og 25 24 true (.fad 4 (.t 2)),og 26 24 true (.ld false 1 (.t 25)),og 27 24 true (.fad 4 (.t 3)),og 28 24 true (.ld false 1 (.t 27)),og 29 24 true (.bin .eql (.t 26) (.t 28)),o 30 (.pick (.t 24) (.t 29) (.k (.bool false))),o 31 (.mov (.t 30)),og 32 31 true (.fad 5 (.t 2)),og 33 31 true (.ld false 1 (.t 32)),og 34 31 true (.fad 5 (.t 3)),og 35 31 true (.ld false 1 (.t 34)),og 36 31 true (.bin .eql (.t 33) (.t 35)),o 37 (.pick (.t 31) (.t 36) (.k (.bool false))),o 38 (.mov (.t 37)),og 39 38 true (.fad 6 (.t 2)),og 40 38 true (.ld false 1 (.t 39)),og 41 38 true (.fad 6 (.t 3)),og 42 38 true (.ld false 1 (.t 41)),og 43 38 true (.bin .eql (.t 40) (.t 42)),o 44 (.pick (.t 38) (.t 43) (.k (.bool false))),o 45 (.mov (.t 44)),og 46 45 true (.fad 7 (.t 2)),og 47 45 true (.ld false 1 (.t 46)),og 48 45 true (.fad 7 (.t 3)),og 49 45 true (.ld false 1 (.t 48)),og 50 45 true (.bin .eql (.t 47) (.t 49)),o 51 (.pick (.t 45) (.t 50) (.k (.bool false))),o 52 (.mov (.t 51)),og 53 52 true (.fad 8 (.t 2)),og 54 52 true (.ld true 2 (.t 53)),og 55 52 true (.fad 8 (.t 3)),og 56 52 true (.ld true 2 (.t 55)),og 57 52 true (.eqs false [.i .i64,.i .i64] (.t 54) (.t 56)),o 58 (.pick (.t 52) (.t 57) (.k (.bool false))),o 4 (.mov (.t 58))]) .ret))⟩
theorem ir_i_SameAct:compFn Tryz.prog n_i_SameAct=some F_i_SameAct:=by kernel_rfl
abbrev n_i_sameDelta:Nat:=112
def F_i_sameDelta:Fn1:=⟨45,[.t 4],(.seq (.reg [o 2 (.box (.t 0)),o 3 (.box (.t 1)),o 4 (.mov (.k (.bool false)))]) (.seq (.reg [o 5 (.fad 0 (.t 2)),o 6 (.ld false 1 (.t 5)),o 7 (.fad 0 (.t 3)),o 8 (.ld false 1 (.t 7)),o 9 (.call 81 [(.t 6),(.t 8)]),o 10 (.mov (.t 9)),og 11 10 true (.fad 1 (.t 2)),og 12 10 true (.ld false 1 (.t 11)),og 13 10 true (.fad 1 (.t 3)),og 14 10 true (.ld false 1 (.t 13)),og 15 10 true (.call 81 [(.t 12),(.t 14)]),o 16 (.pick (.t 10) (.t 15) (.k (.bool false))),o 17 (.mov (.t 16)),og 18 17 true (.fad 2 (.t 2)),og 19 17 true (.ld false 1 (.t 18)),og 20 17 true (.fad 2 (.t 3)),og 21 17 true (.ld false 1 (.t 20)),og 22 17 true (.call 178 [(.t 19),(.t 21)]),o 23 (.pick (.t 17) (.t 22) (.k (.bool false))),o 24 (.mov (.t 23)),og 25 24 true (.fad 3 (.t 2)),og 26 24 true (.ld false 1 (.t 25)),og 27 24 true (.fad 3 (.t 3)),og 28 24 true (.ld false 1 (.t 27)),og 29 24 true (.call 179 [(.t 26),(.t 28)]),o 30 (.pick (.t 24) (.t 29) (.k (.bool false))),o 31 (.mov (.t 30)),og 32 31 true (.fad 4 (.t 2)),og 33 31 true (.ld false 1 (.t 32)),og 34 31 true (.fad 4 (.t 3)),og 35 31 true (.ld false 1 (.t 34)),og 36 31 true (.call 180 [(.t 33),(.t 35)]),o 37 (.pick (.t 31) (.t 36) (.k (.bool false))),o 38 (.mov (.t 37)),og 39 38 true (.fad 5 (.t 2)),og 40 38 true (.ld false 1 (.t 39)),og 41 38 true (.fad 5 (.t 3)),og 42 38 true (.ld false 1 (.t 41)),og 43 38 true (.call 181 [(.t 40),(.t 42)]),o 44 (.pick (.t 38) (.t 43) (.k (.bool false))),o 4 (.mov (.t 44))]) .ret))⟩
theorem ir_i_sameDelta:compFn Tryz.prog n_i_sameDelta=some F_i_sameDelta:=by kernel_rfl
abbrev n_s_l13Unit:Nat:=36
def F_s_l13Unit:Fn1:=⟨21,[.t 2],(.seq (.reg [o 1 (.box (.t 0)),o 2 (.mov (.k (.bool false)))]) (.seq (.seq (.reg [o 3 (.fad 0 (.t 1)),o 4 (.ld false 1 (.t 3))]) (.cnd (.t 4) (.seq (.reg [o 5 (.fad 11 (.t 1)),o 6 (.ld true 6 (.t 5)),o 7 (.call 103 [(.t 6)]),o 8 (.mov (.t 7)),og 9 8 true (.fad 1 (.t 1)),og 10 8 true (.ld true 10 (.t 9)),og 11 8 true (.call 104 [(.t 10)]),o 12 (.pick (.t 8) (.t 11) (.k (.bool false))),o 2 (.mov (.t 12))]) .ret) .skip)) (.seq (.reg [o 13 (.fad 1 (.t 1)),o 14 (.ld true 10 (.t 13)),o 15 (.call 105 [(.t 14)]),o 16 (.mov (.t 15)),og 17 16 true (.fad 11 (.t 1)),og 18 16 true (.ld true 6 (.t 17)),og 19 16 true (.call 106 [(.t 18)]),o 20 (.pick (.t 16) (.t 19) (.k (.bool false))),o 2 (.mov (.t 20))]) .ret)))⟩
theorem ir_s_l13Unit:compFn Tryz.prog n_s_l13Unit=some F_s_l13Unit:=by kernel_rfl
abbrev n_i_unitOk:Nat:=39
def F_i_unitOk:Fn1:=⟨23,[.t 2],(.seq (.reg [o 1 (.box (.t 0)),o 2 (.mov (.k (.bool false)))]) (.seq (.seq (.reg [o 3 (.fad 0 (.t 1)),o 4 (.ld false 1 (.t 3))]) (.cnd (.t 4) (.seq (.reg [o 5 (.fad 11 (.t 1)),o 6 (.ld true 6 (.t 5)),o 7 (.call 109 [(.t 6)]),o 8 (.mov (.t 7)),og 9 8 true (.fad 1 (.t 1)),og 10 8 true (.ld true 10 (.t 9)),og 11 8 true (.build [(.int .i64 0),(.int .i64 0),(.int .i64 0),.nilS,(.int .i64 0),(.str ⟨#[]⟩),(.str ⟨#[]⟩),(.int .i64 0),(.int .i64 0),(.int .i64 0)] []),og 12 8 true (.call 110 [(.t 10),(.t 11)]),o 13 (.pick (.t 8) (.t 12) (.k (.bool false))),o 2 (.mov (.t 13))]) .ret) .skip)) (.seq (.reg [o 14 (.fad 1 (.t 1)),o 15 (.ld true 10 (.t 14)),o 16 (.call 111 [(.t 15)]),o 17 (.mov (.t 16)),og 18 17 true (.fad 11 (.t 1)),og 19 17 true (.ld true 6 (.t 18)),og 20 17 true (.build [.nilS,.nilS,.nilS,.nilS,.nilS,.nilS] []),og 21 17 true (.call 112 [(.t 19),(.t 20)]),o 22 (.pick (.t 17) (.t 21) (.k (.bool false))),o 2 (.mov (.t 22))]) .ret)))⟩
theorem ir_i_unitOk:compFn Tryz.prog n_i_unitOk=some F_i_unitOk:=by kernel_rfl
abbrev n_slices_Equal_impl_Tally_impl_Tally:Nat:=178
def F_slices_Equal_impl_Tally_impl_Tally:Fn1:=⟨26,[.t 4],(.seq (.reg [o 4 (.mov (.k (.bool false)))]) (.seq (.seq (.reg [o 6 (.mov (.t 0)),o 7 (.len false (.t 6)),o 8 (.mov (.t 1)),o 9 (.len false (.t 8)),o 10 (.bin .neq (.t 7) (.t 9))]) (.cnd (.t 10) (.seq (.reg [o 4 (.mov (.k (.bool false)))]) .ret) .skip)) (.seq (.seq (.reg [o 11 (.mov (.t 0)),o 12 (.len false (.t 11)),o 13 (.mov (.k (.int .i64 0)))]) (.blk 0 (.lop (.seq (.reg [o 14 (.bin .lss (.t 13) (.t 12))]) (.seq (.cnd (.t 14) .skip (.ext 0)) (.seq (.blk 1 (.seq (.reg [o 15 (.mov (.t 13)),o 5 (.mov (.t 15))]) (.seq (.drw [o 16 (.mov (.t 0)),o 17 (.mov (.t 5)),o 18 (.iad 3 (.t 16) (.t 17)),o 19 (.ld true 3 (.t 18)),o 20 (.mov (.t 1)),o 21 (.mov (.t 5)),o 22 (.iad 3 (.t 20) (.t 21)),o 23 (.ld true 3 (.t 22))] [o 24 (.eqs true [.s,.i .i64,.i .i64] (.t 19) (.t 23))]) (.cnd (.t 24) (.seq (.reg [o 4 (.mov (.k (.bool false)))]) .ret) .skip)))) (.reg [o 25 (.bin .add (.t 13) (.k (.int .i64 1))),o 13 (.mov (.t 25))]))))))) (.seq (.reg [o 4 (.mov (.k (.bool true)))]) .ret))))⟩
theorem ir_slices_Equal_impl_Tally_impl_Tally:compFn Tryz.prog n_slices_Equal_impl_Tally_impl_Tally=some F_slices_Equal_impl_Tally_impl_Tally:=by kernel_rfl
abbrev n_slices_Equal_impl_Live_impl_Live:Nat:=179
def F_slices_Equal_impl_Live_impl_Live:Fn1:=⟨26,[.t 4],(.seq (.reg [o 4 (.mov (.k (.bool false)))]) (.seq (.seq (.reg [o 6 (.mov (.t 0)),o 7 (.len false (.t 6)),o 8 (.mov (.t 1)),o 9 (.len false (.t 8)),o 10 (.bin .neq (.t 7) (.t 9))]) (.cnd (.t 10) (.seq (.reg [o 4 (.mov (.k (.bool false)))]) .ret) .skip)) (.seq (.seq (.reg [o 11 (.mov (.t 0)),o 12 (.len false (.t 11)),o 13 (.mov (.k (.int .i64 0)))]) (.blk 0 (.lop (.seq (.reg [o 14 (.bin .lss (.t 13) (.t 12))]) (.seq (.cnd (.t 14) .skip (.ext 0)) (.seq (.blk 1 (.seq (.reg [o 15 (.mov (.t 13)),o 5 (.mov (.t 15))]) (.seq (.drw [o 16 (.mov (.t 0)),o 17 (.mov (.t 5)),o 18 (.iad 6 (.t 16) (.t 17)),o 19 (.ld true 6 (.t 18)),o 20 (.mov (.t 1)),o 21 (.mov (.t 5)),o 22 (.iad 6 (.t 20) (.t 21)),o 23 (.ld true 6 (.t 22))] [o 24 (.eqs true [.b,.s,.s,.i .i64,.i .i64,.i .i64] (.t 19) (.t 23))]) (.cnd (.t 24) (.seq (.reg [o 4 (.mov (.k (.bool false)))]) .ret) .skip)))) (.reg [o 25 (.bin .add (.t 13) (.k (.int .i64 1))),o 13 (.mov (.t 25))]))))))) (.seq (.reg [o 4 (.mov (.k (.bool true)))]) .ret))))⟩
theorem ir_slices_Equal_impl_Live_impl_Live:compFn Tryz.prog n_slices_Equal_impl_Live_impl_Live=some F_slices_Equal_impl_Live_impl_Live:=by kernel_rfl
abbrev n_slices_Equal_impl_Dot_impl_Dot:Nat:=180
def F_slices_Equal_impl_Dot_impl_Dot:Fn1:=⟨26,[.t 4],(.seq (.reg [o 4 (.mov (.k (.bool false)))]) (.seq (.seq (.reg [o 6 (.mov (.t 0)),o 7 (.len false (.t 6)),o 8 (.mov (.t 1)),o 9 (.len false (.t 8)),o 10 (.bin .neq (.t 7) (.t 9))]) (.cnd (.t 10) (.seq (.reg [o 4 (.mov (.k (.bool false)))]) .ret) .skip)) (.seq (.seq (.reg [o 11 (.mov (.t 0)),o 12 (.len false (.t 11)),o 13 (.mov (.k (.int .i64 0)))]) (.blk 0 (.lop (.seq (.reg [o 14 (.bin .lss (.t 13) (.t 12))]) (.seq (.cnd (.t 14) .skip (.ext 0)) (.seq (.blk 1 (.seq (.reg [o 15 (.mov (.t 13)),o 5 (.mov (.t 15))]) (.seq (.drw [o 16 (.mov (.t 0)),o 17 (.mov (.t 5)),o 18 (.iad 2 (.t 16) (.t 17)),o 19 (.ld true 2 (.t 18)),o 20 (.mov (.t 1)),o 21 (.mov (.t 5)),o 22 (.iad 2 (.t 20) (.t 21)),o 23 (.ld true 2 (.t 22))] [o 24 (.eqs true [.i .i64,.i .i64] (.t 19) (.t 23))]) (.cnd (.t 24) (.seq (.reg [o 4 (.mov (.k (.bool false)))]) .ret) .skip)))) (.reg [o 25 (.bin .add (.t 13) (.k (.int .i64 1))),o 13 (.mov (.t 25))]))))))) (.seq (.reg [o 4 (.mov (.k (.bool true)))]) .ret))))⟩
theorem ir_slices_Equal_impl_Dot_impl_Dot:compFn Tryz.prog n_slices_Equal_impl_Dot_impl_Dot=some F_slices_Equal_impl_Dot_impl_Dot:=by kernel_rfl
abbrev n_slices_Equal_impl_Cell_impl_Cell:Nat:=181
def F_slices_Equal_impl_Cell_impl_Cell:Fn1:=⟨26,[.t 4],(.seq (.reg [o 4 (.mov (.k (.bool false)))]) (.seq (.seq (.reg [o 6 (.mov (.t 0)),o 7 (.len false (.t 6)),o 8 (.mov (.t 1)),o 9 (.len false (.t 8)),o 10 (.bin .neq (.t 7) (.t 9))]) (.cnd (.t 10) (.seq (.reg [o 4 (.mov (.k (.bool false)))]) .ret) .skip)) (.seq (.seq (.reg [o 11 (.mov (.t 0)),o 12 (.len false (.t 11)),o 13 (.mov (.k (.int .i64 0)))]) (.blk 0 (.lop (.seq (.reg [o 14 (.bin .lss (.t 13) (.t 12))]) (.seq (.cnd (.t 14) .skip (.ext 0)) (.seq (.blk 1 (.seq (.reg [o 15 (.mov (.t 13)),o 5 (.mov (.t 15))]) (.seq (.drw [o 16 (.mov (.t 0)),o 17 (.mov (.t 5)),o 18 (.iad 8 (.t 16) (.t 17)),o 19 (.ld true 8 (.t 18)),o 20 (.mov (.t 1)),o 21 (.mov (.t 5)),o 22 (.iad 8 (.t 20) (.t 21)),o 23 (.ld true 8 (.t 22))] [o 24 (.eqs true [.s,.i .i64,.i .i64,.i .i64,.i .i64,.i .i64,.i .i64,.b] (.t 19) (.t 23))]) (.cnd (.t 24) (.seq (.reg [o 4 (.mov (.k (.bool false)))]) .ret) .skip)))) (.reg [o 25 (.bin .add (.t 13) (.k (.int .i64 1))),o 13 (.mov (.t 25))]))))))) (.seq (.reg [o 4 (.mov (.k (.bool true)))]) .ret))))⟩
theorem ir_slices_Equal_impl_Cell_impl_Cell:compFn Tryz.prog n_slices_Equal_impl_Cell_impl_Cell=some F_slices_Equal_impl_Cell_impl_Cell:=by kernel_rfl
theorem slices_Equal_Tally_ret (σ:St) (v u:GV) (l m:List Tally) (hv:RS pTally.kd σ v l) (hu:RS pTally.kd σ u m) (hl:l.length≤1099511627776):Ret Tryz.prog n_slices_Equal_impl_Tally_impl_Tally [v,u] σ (.bool (decide (l=m))) σ:=by
 refine ret_xe ir_slices_Equal_impl_Tally_impl_Tally (Nat.le_of_ble_eq_true rfl) trivial ?_
 by_cases hlm:l.length=m.length
 rotate_left
 ·have b:((l.length:Int) != (m.length:Int))=true:=by simp;omega
  have d:decide (l=m)=false:=decide_eq_false fun h=>hlm (by rw[h])
  simp +contextual (disch:=omega) only[go_sem,F_slices_Equal_impl_Tally_impl_Tally,hv.len,hu.len,b,d]
  try exact fun _=>rfl
 have b:((l.length:Int) != (m.length:Int))=false:=by simp;omega
 simp +contextual (disch:=omega) only[go_sem,F_slices_Equal_impl_Tally_impl_Tally,hv.len,hu.len,b]
 refine sx_for l.length 13 0 (fun i env h=>env 0=v∧env 1=u∧env 12=gi l.length∧l.take i=m.take i∧h=[]) (fun env h=>l=m) (fun env h=>env 4= .bool false∧l≠m) _ (Hx.refl σ) (by simp +contextual (disch:=omega) only[go_sem]) ⟨by simp +contextual (disch:=omega) only[go_sem],by simp +contextual (disch:=omega) only[go_sem],by simp +contextual (disch:=omega) only[go_sem],rfl,rfl⟩ ?_ ?_ ?_ ?_
 ·rintro J Y W hJ hY hW i env h' τ hi ei c0 H ⟨e0,e1,e12,he,rfl⟩
  have hj:i<m.length:=by omega
  have L1:=Tally_at hv hi
  have L2:=Tally_at hu hj
  by_cases hx:l[i]=m[i]
  ·have b:decide (l[i]=m[i])=true:=decide_eq_true hx
   simp +contextual (disch:=omega) only[go_sem,c0,e0,e1,e12,ei,natOf_nat,L1,L2,b]
   exact hJ _ _ _ _ H ⟨by simp +contextual (disch:=omega) only[go_sem,e0],by simp +contextual (disch:=omega) only[go_sem,e1],by simp +contextual (disch:=omega) only[go_sem,e12],by rw[take_snoc hi,take_snoc hj,he,hx],rfl⟩
  ·have b:decide (l[i]=m[i])=false:=decide_eq_false hx
   simp +contextual (disch:=omega) only[go_sem,c0,e0,e1,e12,ei,natOf_nat,L1,L2,b]
   exact hW _ _ _ H ⟨by simp +contextual (disch:=omega) only[go_sem],fun h=>hx (by subst h;rfl)⟩
 ·rintro Y hY env h' τ ei c0 H ⟨e0,e1,e12,he,rfl⟩
  simp +contextual (disch:=omega) only[go_sem,c0,e12,ei]
  rw[List.take_length,hlm,List.take_length] at he
  exact hY _ _ _ H he
 ·rintro env h' τ H hx
  simp +contextual (disch:=omega) only[go_sem,hx,decide_true]
 ·rintro env h' τ H ⟨e4,hx⟩
  simp +contextual (disch:=omega) only[go_sem,e4,hx,decide_false]
theorem slices_Equal_Live_ret (σ:St) (v u:GV) (l m:List Live) (hv:RS pLive.kd σ v l) (hu:RS pLive.kd σ u m) (hl:l.length≤1099511627776):Ret Tryz.prog n_slices_Equal_impl_Live_impl_Live [v,u] σ (.bool (decide (l=m))) σ:=by
 refine ret_xe ir_slices_Equal_impl_Live_impl_Live (Nat.le_of_ble_eq_true rfl) trivial ?_
 by_cases hlm:l.length=m.length
 rotate_left
 ·have b:((l.length:Int) != (m.length:Int))=true:=by simp;omega
  have d:decide (l=m)=false:=decide_eq_false fun h=>hlm (by rw[h])
  simp +contextual (disch:=omega) only[go_sem,F_slices_Equal_impl_Live_impl_Live,hv.len,hu.len,b,d]
  try exact fun _=>rfl
 have b:((l.length:Int) != (m.length:Int))=false:=by simp;omega
 simp +contextual (disch:=omega) only[go_sem,F_slices_Equal_impl_Live_impl_Live,hv.len,hu.len,b]
 refine sx_for l.length 13 0 (fun i env h=>env 0=v∧env 1=u∧env 12=gi l.length∧l.take i=m.take i∧h=[]) (fun env h=>l=m) (fun env h=>env 4= .bool false∧l≠m) _ (Hx.refl σ) (by simp +contextual (disch:=omega) only[go_sem]) ⟨by simp +contextual (disch:=omega) only[go_sem],by simp +contextual (disch:=omega) only[go_sem],by simp +contextual (disch:=omega) only[go_sem],rfl,rfl⟩ ?_ ?_ ?_ ?_
 ·rintro J Y W hJ hY hW i env h' τ hi ei c0 H ⟨e0,e1,e12,he,rfl⟩
  have hj:i<m.length:=by omega
  have L1:=Live_at hv hi
  have L2:=Live_at hu hj
  by_cases hx:l[i]=m[i]
  ·have b:decide (l[i]=m[i])=true:=decide_eq_true hx
   simp +contextual (disch:=omega) only[go_sem,c0,e0,e1,e12,ei,natOf_nat,L1,L2,b]
   exact hJ _ _ _ _ H ⟨by simp +contextual (disch:=omega) only[go_sem,e0],by simp +contextual (disch:=omega) only[go_sem,e1],by simp +contextual (disch:=omega) only[go_sem,e12],by rw[take_snoc hi,take_snoc hj,he,hx],rfl⟩
  ·have b:decide (l[i]=m[i])=false:=decide_eq_false hx
   simp +contextual (disch:=omega) only[go_sem,c0,e0,e1,e12,ei,natOf_nat,L1,L2,b]
   exact hW _ _ _ H ⟨by simp +contextual (disch:=omega) only[go_sem],fun h=>hx (by subst h;rfl)⟩
 ·rintro Y hY env h' τ ei c0 H ⟨e0,e1,e12,he,rfl⟩
  simp +contextual (disch:=omega) only[go_sem,c0,e12,ei]
  rw[List.take_length,hlm,List.take_length] at he
  exact hY _ _ _ H he
 ·rintro env h' τ H hx
  simp +contextual (disch:=omega) only[go_sem,hx,decide_true]
 ·rintro env h' τ H ⟨e4,hx⟩
  simp +contextual (disch:=omega) only[go_sem,e4,hx,decide_false]
theorem slices_Equal_Dot_ret (σ:St) (v u:GV) (l m:List Dot) (hv:RS pDot.kd σ v l) (hu:RS pDot.kd σ u m) (hl:l.length≤1099511627776):Ret Tryz.prog n_slices_Equal_impl_Dot_impl_Dot [v,u] σ (.bool (decide (l=m))) σ:=by
 refine ret_xe ir_slices_Equal_impl_Dot_impl_Dot (Nat.le_of_ble_eq_true rfl) trivial ?_
 by_cases hlm:l.length=m.length
 rotate_left
 ·have b:((l.length:Int) != (m.length:Int))=true:=by simp;omega
  have d:decide (l=m)=false:=decide_eq_false fun h=>hlm (by rw[h])
  simp +contextual (disch:=omega) only[go_sem,F_slices_Equal_impl_Dot_impl_Dot,hv.len,hu.len,b,d]
  try exact fun _=>rfl
 have b:((l.length:Int) != (m.length:Int))=false:=by simp;omega
 simp +contextual (disch:=omega) only[go_sem,F_slices_Equal_impl_Dot_impl_Dot,hv.len,hu.len,b]
 refine sx_for l.length 13 0 (fun i env h=>env 0=v∧env 1=u∧env 12=gi l.length∧l.take i=m.take i∧h=[]) (fun env h=>l=m) (fun env h=>env 4= .bool false∧l≠m) _ (Hx.refl σ) (by simp +contextual (disch:=omega) only[go_sem]) ⟨by simp +contextual (disch:=omega) only[go_sem],by simp +contextual (disch:=omega) only[go_sem],by simp +contextual (disch:=omega) only[go_sem],rfl,rfl⟩ ?_ ?_ ?_ ?_
 ·rintro J Y W hJ hY hW i env h' τ hi ei c0 H ⟨e0,e1,e12,he,rfl⟩
  have hj:i<m.length:=by omega
  have L1:=Dot_at hv hi
  have L2:=Dot_at hu hj
  by_cases hx:l[i]=m[i]
  ·have b:decide (l[i]=m[i])=true:=decide_eq_true hx
   simp +contextual (disch:=omega) only[go_sem,c0,e0,e1,e12,ei,natOf_nat,L1,L2,b]
   exact hJ _ _ _ _ H ⟨by simp +contextual (disch:=omega) only[go_sem,e0],by simp +contextual (disch:=omega) only[go_sem,e1],by simp +contextual (disch:=omega) only[go_sem,e12],by rw[take_snoc hi,take_snoc hj,he,hx],rfl⟩
  ·have b:decide (l[i]=m[i])=false:=decide_eq_false hx
   simp +contextual (disch:=omega) only[go_sem,c0,e0,e1,e12,ei,natOf_nat,L1,L2,b]
   exact hW _ _ _ H ⟨by simp +contextual (disch:=omega) only[go_sem],fun h=>hx (by subst h;rfl)⟩
 ·rintro Y hY env h' τ ei c0 H ⟨e0,e1,e12,he,rfl⟩
  simp +contextual (disch:=omega) only[go_sem,c0,e12,ei]
  rw[List.take_length,hlm,List.take_length] at he
  exact hY _ _ _ H he
 ·rintro env h' τ H hx
  simp +contextual (disch:=omega) only[go_sem,hx,decide_true]
 ·rintro env h' τ H ⟨e4,hx⟩
  simp +contextual (disch:=omega) only[go_sem,e4,hx,decide_false]
theorem slices_Equal_Cell_ret (σ:St) (v u:GV) (l m:List Cell) (hv:RS pCell.kd σ v l) (hu:RS pCell.kd σ u m) (hl:l.length≤1099511627776):Ret Tryz.prog n_slices_Equal_impl_Cell_impl_Cell [v,u] σ (.bool (decide (l=m))) σ:=by
 refine ret_xe ir_slices_Equal_impl_Cell_impl_Cell (Nat.le_of_ble_eq_true rfl) trivial ?_
 by_cases hlm:l.length=m.length
 rotate_left
 ·have b:((l.length:Int) != (m.length:Int))=true:=by simp;omega
  have d:decide (l=m)=false:=decide_eq_false fun h=>hlm (by rw[h])
  simp +contextual (disch:=omega) only[go_sem,F_slices_Equal_impl_Cell_impl_Cell,hv.len,hu.len,b,d]
  try exact fun _=>rfl
 have b:((l.length:Int) != (m.length:Int))=false:=by simp;omega
 simp +contextual (disch:=omega) only[go_sem,F_slices_Equal_impl_Cell_impl_Cell,hv.len,hu.len,b]
 refine sx_for l.length 13 0 (fun i env h=>env 0=v∧env 1=u∧env 12=gi l.length∧l.take i=m.take i∧h=[]) (fun env h=>l=m) (fun env h=>env 4= .bool false∧l≠m) _ (Hx.refl σ) (by simp +contextual (disch:=omega) only[go_sem]) ⟨by simp +contextual (disch:=omega) only[go_sem],by simp +contextual (disch:=omega) only[go_sem],by simp +contextual (disch:=omega) only[go_sem],rfl,rfl⟩ ?_ ?_ ?_ ?_
 ·rintro J Y W hJ hY hW i env h' τ hi ei c0 H ⟨e0,e1,e12,he,rfl⟩
  have hj:i<m.length:=by omega
  have L1:=Cell_at hv hi
  have L2:=Cell_at hu hj
  by_cases hx:l[i]=m[i]
  ·have b:decide (l[i]=m[i])=true:=decide_eq_true hx
   simp +contextual (disch:=omega) only[go_sem,c0,e0,e1,e12,ei,natOf_nat,L1,L2,b]
   exact hJ _ _ _ _ H ⟨by simp +contextual (disch:=omega) only[go_sem,e0],by simp +contextual (disch:=omega) only[go_sem,e1],by simp +contextual (disch:=omega) only[go_sem,e12],by rw[take_snoc hi,take_snoc hj,he,hx],rfl⟩
  ·have b:decide (l[i]=m[i])=false:=decide_eq_false hx
   simp +contextual (disch:=omega) only[go_sem,c0,e0,e1,e12,ei,natOf_nat,L1,L2,b]
   exact hW _ _ _ H ⟨by simp +contextual (disch:=omega) only[go_sem],fun h=>hx (by subst h;rfl)⟩
 ·rintro Y hY env h' τ ei c0 H ⟨e0,e1,e12,he,rfl⟩
  simp +contextual (disch:=omega) only[go_sem,c0,e12,ei]
  rw[List.take_length,hlm,List.take_length] at he
  exact hY _ _ _ H he
 ·rintro env h' τ H hx
  simp +contextual (disch:=omega) only[go_sem,hx,decide_true]
 ·rintro env h' τ H ⟨e4,hx⟩
  simp +contextual (disch:=omega) only[go_sem,e4,hx,decide_false]
def sameAct (a b:Act):Bool:=decide (a.dot=b.dot)&&(a.time==b.time&&(decide (a.knew=b.knew)&&(a.kind==b.kind&&(decide (a.obj=b.obj)&&(decide (a.key=b.key)&&(a.val==b.val&&decide (a.ref=b.ref)))))))
def noAct (a:Act):Bool:=decide (a.dot=⟨0,0⟩)&&(a.time==0&&(a.knew.isEmpty&&(a.kind==0&&(decide (a.obj=⟨#[]⟩)&&(decide (a.key=⟨#[]⟩)&&(a.val==0&&decide (a.ref=⟨0,0⟩)))))))
abbrev delta0:Delta:=⟨[],[],[],[],[],[]⟩
def noDelta (d:Delta):Bool:=d.base.isEmpty&&(d.know.isEmpty&&(d.tallies.isEmpty&&(d.lives.isEmpty&&(d.dead.isEmpty&&d.cells.isEmpty))))
def sameDelta (a b:Delta):Bool:=decide (a.base=b.base)&&(decide (a.know=b.know)&&(decide (a.tallies=b.tallies)&&(decide (a.lives=b.lives)&&(decide (a.dead=b.dead)&&decide (a.cells=b.cells)))))
def unitOk (u:Unit_):Bool:=if u.batch then deltaOk u.delta&&noAct u.act else actOk u.act&&noDelta u.delta
theorem len0 {α:Type} (l:List α):((l.length:Int)==0)=l.isEmpty:=by cases l<;>simp;omega
theorem isE {α:Type} (l:List α) {i:Decidable (l=[])}: @decide (l=[]) i=l.isEmpty:=by cases l<;>simp
theorem noDelta_eq (d:Delta):sameDelta d delta0=noDelta d:=by
 simp only[noDelta,delta0,sameDelta,isE]
theorem s_l13NoDelta_ret (σ:St) (cs:List GV) (d:Delta) (hR:kDelta.R σ d cs):Ret Tryz.prog n_s_l13NoDelta [.agg cs] σ (.bool (noDelta d)) σ:=by
 obtain⟨v0,v1,v2,v3,v4,v5,rfl,q0,q1,q2,q3,q4,q5⟩:=hR
 refine ret_xe ir_s_l13NoDelta (Nat.le_of_ble_eq_true rfl) trivial ?_
 unfold noDelta
 simp +contextual (disch:=omega) only[go_sem,F_s_l13NoDelta]
 intro n f τ H
 simp +contextual (disch:=omega) only[go_sem,q0.len,q1.len,q2.len,q3.len,q4.len,q5.len,len0]
 cases h0:d.base.isEmpty with
 |false=>
  simp +contextual (disch:=omega) only[go_sem,Bool.false_and,q0.len,q1.len,q2.len,q3.len,q4.len,q5.len,len0]
  try exact fun _=>rfl
 |true=>
  simp +contextual (disch:=omega) only[go_sem,Bool.true_and,q0.len,q1.len,q2.len,q3.len,q4.len,q5.len,len0]
  cases h1:d.know.isEmpty with
  |false=>
   simp +contextual (disch:=omega) only[go_sem,Bool.false_and,q0.len,q1.len,q2.len,q3.len,q4.len,q5.len,len0]
   try exact fun _=>rfl
  |true=>
   simp +contextual (disch:=omega) only[go_sem,Bool.true_and,q0.len,q1.len,q2.len,q3.len,q4.len,q5.len,len0]
   cases h2:d.tallies.isEmpty with
   |false=>
    simp +contextual (disch:=omega) only[go_sem,Bool.false_and,q0.len,q1.len,q2.len,q3.len,q4.len,q5.len,len0]
    try exact fun _=>rfl
   |true=>
    simp +contextual (disch:=omega) only[go_sem,Bool.true_and,q0.len,q1.len,q2.len,q3.len,q4.len,q5.len,len0]
    cases h3:d.lives.isEmpty with
    |false=>
     simp +contextual (disch:=omega) only[go_sem,Bool.false_and,q0.len,q1.len,q2.len,q3.len,q4.len,q5.len,len0]
     try exact fun _=>rfl
    |true=>
     simp +contextual (disch:=omega) only[go_sem,Bool.true_and,q0.len,q1.len,q2.len,q3.len,q4.len,q5.len,len0]
     cases h4:d.dead.isEmpty with
     |false=>
      simp +contextual (disch:=omega) only[go_sem,Bool.false_and,q0.len,q1.len,q2.len,q3.len,q4.len,q5.len,len0]
      try exact fun _=>rfl
     |true=>
      simp +contextual (disch:=omega) only[go_sem,Bool.true_and,q0.len,q1.len,q2.len,q3.len,q4.len,q5.len,len0]
theorem i_sameDelta_ret (σ:St) (cs ds:List GV) (d e:Delta) (hR:kDelta.R σ d cs) (hS:kDelta.R σ e ds) (hl:msDelta d≤1099511627776):Ret Tryz.prog n_i_sameDelta [.agg cs,.agg ds] σ (.bool (sameDelta d e)) σ:=by
 obtain⟨v0,v1,v2,v3,v4,v5,rfl,q0,q1,q2,q3,q4,q5⟩:=hR
 obtain⟨u0,u1,u2,u3,u4,u5,rfl,p0,p1,p2,p3,p4,p5⟩:=hS
 obtain⟨l0,l1,l2,l3,l4,l5,t2,t3,t5⟩:=msDelta_all hl
 refine ret_xe ir_i_sameDelta (Nat.le_of_ble_eq_true rfl) trivial ?_
 unfold sameDelta
 simp +contextual (disch:=omega) only[go_sem,F_i_sameDelta]
 intro n f τ0 _ m g τ H
 have S:=H.sub
 refine by_b H (slices_Equal_int_ret _ v0 u0 _ _ (q0.pre S) (p0.pre S) l0) (fun h0=> ?_) (fun h0=> ?_)
 rotate_left
 ·simp +contextual (disch:=omega) only[go_sem,h0,Bool.false_and]
  try exact fun _=>rfl
 simp +contextual (disch:=omega) only[go_sem,h0,Bool.true_and]
 refine by_b H (slices_Equal_int_ret _ v1 u1 _ _ (q1.pre S) (p1.pre S) l1) (fun h1=> ?_) (fun h1=> ?_)
 rotate_left
 ·simp +contextual (disch:=omega) only[go_sem,h1,Bool.false_and]
  try exact fun _=>rfl
 simp +contextual (disch:=omega) only[go_sem,h1,Bool.true_and]
 refine by_b H (slices_Equal_Tally_ret _ v2 u2 _ _ (q2.pre S) (p2.pre S) l2) (fun h2=> ?_) (fun h2=> ?_)
 rotate_left
 ·simp +contextual (disch:=omega) only[go_sem,h2,Bool.false_and]
  try exact fun _=>rfl
 simp +contextual (disch:=omega) only[go_sem,h2,Bool.true_and]
 refine by_b H (slices_Equal_Live_ret _ v3 u3 _ _ (q3.pre S) (p3.pre S) l3) (fun h3=> ?_) (fun h3=> ?_)
 rotate_left
 ·simp +contextual (disch:=omega) only[go_sem,h3,Bool.false_and]
  try exact fun _=>rfl
 simp +contextual (disch:=omega) only[go_sem,h3,Bool.true_and]
 refine by_b H (slices_Equal_Dot_ret _ v4 u4 _ _ (q4.pre S) (p4.pre S) l4) (fun h4=> ?_) (fun h4=> ?_)
 rotate_left
 ·simp +contextual (disch:=omega) only[go_sem,h4,Bool.false_and]
  try exact fun _=>rfl
 simp +contextual (disch:=omega) only[go_sem,h4,Bool.true_and]
 refine by_r H (slices_Equal_Cell_ret _ v5 u5 _ _ (q5.pre S) (p5.pre S) l5) ?_
 simp +contextual (disch:=omega) only[go_sem]
theorem sameAct0 (a:Act):sameAct a act00=noAct a:=by
 show(decide (a.dot=⟨0,0⟩)&&(a.time==0&&(decide (a.knew=[])&&(a.kind==0&&(decide (a.obj=⟨#[]⟩)&&(decide (a.key=⟨#[]⟩)&&(a.val==0&&decide (a.ref=⟨0,0⟩))))))))=_
 simp only[isE,noAct]
theorem s_l13NoAct_ret (σ:St) (cs:List GV) (a:Act) (hR:kAct.R σ a cs):Ret Tryz.prog n_s_l13NoAct [.agg cs] σ (.bool (noAct a)) σ:=by
 obtain⟨v,rfl,q⟩:=hR
 refine ret_xe ir_s_l13NoAct (Nat.le_of_ble_eq_true rfl) trivial ?_
 unfold noAct
 simp +contextual (disch:=omega) only[go_sem,F_s_l13NoAct]
 intro n f τ H
 cases h0:decide (a.dot=⟨0,0⟩) with
 |false=>
  simp +contextual (disch:=omega) only[go_sem,Bool.false_and,q.len,len0]
  try exact fun _=>rfl
 |true=>
  simp +contextual (disch:=omega) only[go_sem,Bool.true_and,q.len,len0]
  cases h1:a.time==0 with
  |false=>
   simp +contextual (disch:=omega) only[go_sem,Bool.false_and,q.len,len0]
   try exact fun _=>rfl
  |true=>
   simp +contextual (disch:=omega) only[go_sem,Bool.true_and,q.len,len0]
   cases h2:a.knew.isEmpty with
   |false=>
    simp +contextual (disch:=omega) only[go_sem,Bool.false_and,q.len,len0]
    try exact fun _=>rfl
   |true=>
    simp +contextual (disch:=omega) only[go_sem,Bool.true_and,q.len,len0]
    cases h3:a.kind==0 with
    |false=>
     simp +contextual (disch:=omega) only[go_sem,Bool.false_and,q.len,len0]
     try exact fun _=>rfl
    |true=>
     simp +contextual (disch:=omega) only[go_sem,Bool.true_and,q.len,len0]
     cases h4:decide (a.obj=⟨#[]⟩) with
     |false=>
      simp +contextual (disch:=omega) only[go_sem,Bool.false_and,q.len,len0]
      try exact fun _=>rfl
     |true=>
      simp +contextual (disch:=omega) only[go_sem,Bool.true_and,q.len,len0]
      cases h5:decide (a.key=⟨#[]⟩) with
      |false=>
       simp +contextual (disch:=omega) only[go_sem,Bool.false_and,q.len,len0]
       try exact fun _=>rfl
      |true=>
       simp +contextual (disch:=omega) only[go_sem,Bool.true_and,q.len,len0]
       cases h6:a.val==0 with
       |false=>
        simp +contextual (disch:=omega) only[go_sem,Bool.false_and,q.len,len0]
        try exact fun _=>rfl
       |true=>
        simp +contextual (disch:=omega) only[go_sem,Bool.true_and,q.len,len0]
set_option maxHeartbeats 1000000 in
theorem i_SameAct_ret (σ:St) (cs ds:List GV) (a b:Act) (hR:kAct.R σ a cs) (hS:kAct.R σ b ds) (hl:a.knew.length≤1099511627776):Ret Tryz.prog n_i_SameAct [.agg cs,.agg ds] σ (.bool (sameAct a b)) σ:=by
 obtain⟨v,rfl,q⟩:=hR
 obtain⟨u,rfl,p⟩:=hS
 refine ret_xe ir_i_SameAct (Nat.le_of_ble_eq_true rfl) trivial ?_
 unfold sameAct
 simp +contextual (disch:=omega) only[go_sem,F_i_SameAct]
 intro n f τ0 _ m g τ H
 have S:=H.sub
 cases h0:decide (a.dot=b.dot) with
 |false=>
  simp +contextual (disch:=omega) only[go_sem,Bool.false_and]
  try exact fun _=>rfl
 |true=>
  simp +contextual (disch:=omega) only[go_sem,Bool.true_and]
  cases h1:a.time==b.time with
  |false=>
   simp +contextual (disch:=omega) only[go_sem,Bool.false_and]
   try exact fun _=>rfl
  |true=>
   simp +contextual (disch:=omega) only[go_sem,Bool.true_and]
   refine by_b H (slices_Equal_int_ret _ v u _ _ (q.pre S) (p.pre S) hl) (fun k1=> ?_) (fun k1=> ?_)
   rotate_left
   ·simp +contextual (disch:=omega) only[go_sem,k1,Bool.false_and]
    try exact fun _=>rfl
   simp +contextual (disch:=omega) only[go_sem,k1,Bool.true_and]
   cases h0:a.kind==b.kind with
   |false=>
    simp +contextual (disch:=omega) only[go_sem,Bool.false_and]
    try exact fun _=>rfl
   |true=>
    simp +contextual (disch:=omega) only[go_sem,Bool.true_and]
    cases h1:decide (a.obj=b.obj) with
    |false=>
     simp +contextual (disch:=omega) only[go_sem,Bool.false_and]
     try exact fun _=>rfl
    |true=>
     simp +contextual (disch:=omega) only[go_sem,Bool.true_and]
     cases h2:decide (a.key=b.key) with
     |false=>
      simp +contextual (disch:=omega) only[go_sem,Bool.false_and]
      try exact fun _=>rfl
     |true=>
      simp +contextual (disch:=omega) only[go_sem,Bool.true_and]
      cases h3:a.val==b.val with
      |false=>
       simp +contextual (disch:=omega) only[go_sem,Bool.false_and]
       try exact fun _=>rfl
      |true=>
       simp +contextual (disch:=omega) only[go_sem,Bool.true_and]
abbrev unV (x:Unit_) (kv d0 d1 d2 d3 d4 d5:GV):List GV:=[.bool x.batch,.int .i64 x.act.dot.rep,.int .i64 x.act.dot.seq,.int .i64 x.act.time,kv,.int .i64 x.act.kind,.str x.act.obj,.str x.act.key,.int .i64 x.act.val,.int .i64 x.act.ref.rep,.int .i64 x.act.ref.seq,d0,d1,d2,d3,d4,d5]
theorem unit_cells {σ:St} {x:Unit_} {cs:List GV} (h:kUnit_.R σ x cs):∃ kv d0 d1 d2 d3 d4 d5,cs=unV x kv d0 d1 d2 d3 d4 d5∧kAct.R σ x.act (actV x.act kv)∧kDelta.R σ x.delta [d0,d1,d2,d3,d4,d5]:=by
 obtain⟨v1,v2,rfl,hA,hD⟩:=h
 have hA0:=hA
 have hD0:=hD
 obtain⟨kv,rfl,_⟩:=hA
 obtain⟨d0,d1,d2,d3,d4,d5,rfl,_⟩:=hD
 exact⟨kv,d0,d1,d2,d3,d4,d5,rfl,hA0,hD0⟩
theorem act0_R (σ:St):kAct.R σ act00 zeA:=kAct.rd (act0_own σ)
theorem delta0_R (σ:St):kDelta.R σ delta0 zeD:=kDelta.rd (delta0_own σ)
theorem s_l13Unit_ret (σ:St) (cs:List GV) (x:Unit_) (hR:kUnit_.R σ x cs) (hl:msUnit x≤1073741824):Ret Tryz.prog n_s_l13Unit [.agg cs] σ (.bool (unitOk x)) σ:=by
 obtain⟨kv,d0,d1,d2,d3,d4,d5,rfl,hA,hD⟩:=unit_cells hR
 have hma:msAct x.act≤1073741824∧msDelta x.delta≤1073741824:=by unfold msUnit at hl;omega
 refine ret_xe ir_s_l13Unit (Nat.le_of_ble_eq_true rfl) trivial ?_
 cases hb:x.batch with
 |true=>
  have hu:unitOk x=(deltaOk x.delta&&noAct x.act):=by unfold unitOk;rw[if_pos hb]
  rw[hu]
  simp +contextual (disch:=omega) only[go_sem,F_s_l13Unit,hb]
  intro n f τ H
  refine by_b H (s_DeltaOk_ret _ _ _ (kDelta.pre hD H.sub) (by omega)) (fun h1=> ?_) (fun h1=> ?_)
  rotate_left
  ·simp +contextual (disch:=omega) only[go_sem,h1,Bool.false_and]
  simp +contextual (disch:=omega) only[go_sem]
  refine by_r H (s_l13NoAct_ret _ _ _ (kAct.pre hA H.sub)) ?_
  simp +contextual (disch:=omega) only[go_sem,h1,Bool.true_and]
 |false=>
  have hu:unitOk x=(actOk x.act&&noDelta x.delta):=by unfold unitOk;rw[if_neg (by simp[hb])]
  rw[hu]
  simp +contextual (disch:=omega) only[go_sem,F_s_l13Unit,hb]
  intro n f τ H
  refine by_b H (s_ActOk_ret _ _ _ (kAct.pre hA H.sub) (by omega)) (fun h1=> ?_) (fun h1=> ?_)
  rotate_left
  ·simp +contextual (disch:=omega) only[go_sem,h1,Bool.false_and]
  simp +contextual (disch:=omega) only[go_sem]
  refine by_r H (s_l13NoDelta_ret _ _ _ (kDelta.pre hD H.sub)) ?_
  simp +contextual (disch:=omega) only[go_sem,h1,Bool.true_and]
theorem i_unitOk_ret (σ:St) (cs:List GV) (x:Unit_) (hR:kUnit_.R σ x cs) (hl:msUnit x≤1073741824):Ret Tryz.prog n_i_unitOk [.agg cs] σ (.bool (unitOk x)) σ:=by
 obtain⟨kv,d0,d1,d2,d3,d4,d5,rfl,hA,hD⟩:=unit_cells hR
 have hma:msAct x.act≤1073741824∧msDelta x.delta≤1073741824:=by unfold msUnit at hl;omega
 refine ret_xe ir_i_unitOk (Nat.le_of_ble_eq_true rfl) trivial ?_
 cases hb:x.batch with
 |true=>
  have hu:unitOk x=(deltaOk x.delta&&noAct x.act):=by unfold unitOk;rw[if_pos hb]
  rw[hu]
  simp +contextual (disch:=omega) only[go_sem,F_i_unitOk,hb]
  intro n f τ H
  refine by_b H (i_DeltaOk_ret _ _ _ (kDelta.pre hD H.sub) (by omega)) (fun h1=> ?_) (fun h1=> ?_)
  rotate_left
  ·simp +contextual (disch:=omega) only[go_sem,h1,Bool.false_and]
  simp +contextual (disch:=omega) only[go_sem]
  refine by_r H (i_SameAct_ret _ _ _ _ _ (kAct.pre hA H.sub) (act0_R _) (by have:=hma.1;unfold msAct at this;omega)) ?_
  simp +contextual (disch:=omega) only[go_sem,h1,Bool.true_and,sameAct0]
 |false=>
  have hu:unitOk x=(actOk x.act&&noDelta x.delta):=by unfold unitOk;rw[if_neg (by simp[hb])]
  rw[hu]
  simp +contextual (disch:=omega) only[go_sem,F_i_unitOk,hb]
  intro n f τ H
  refine by_b H (i_ActOk_ret _ _ _ (kAct.pre hA H.sub) (by omega)) (fun h1=> ?_) (fun h1=> ?_)
  rotate_left
  ·simp +contextual (disch:=omega) only[go_sem,h1,Bool.false_and]
  simp +contextual (disch:=omega) only[go_sem]
  refine by_r H (i_sameDelta_ret _ _ _ _ _ (kDelta.pre hD H.sub) (delta0_R _) (by omega)) ?_
  simp +contextual (disch:=omega) only[go_sem,h1,Bool.true_and,noDelta_eq]
end Go.Proofs.YtffnefmklckngaaGreat.Sy
namespace Go.Proofs.YtffnefmklckngaaGreat.Sy
open Go Go.RowKit
set_option linter.unusedSimpArgs false
set_option linter.unusedVariables false
set_option maxRecDepth 4000
abbrev n_s_l05Copy:Nat:=37
def F_s_l05Copy:Fn1:=⟨11,[.c 2 true 10],(.seq (.reg [o 1 (.box (.t 0)),o 2 (.new [(.int .i64 0),(.int .i64 0),(.int .i64 0),.nilS,(.int .i64 0),(.str ⟨#[]⟩),(.str ⟨#[]⟩),(.int .i64 0),(.int .i64 0),(.int .i64 0)])]) (.seq (.reg [o 4 (.ld true 10 (.t 1)),o 3 (.new [(.int .i64 0),(.int .i64 0),(.int .i64 0),.nilS,(.int .i64 0),(.str ⟨#[]⟩),(.str ⟨#[]⟩),(.int .i64 0),(.int .i64 0),(.int .i64 0)]),on (.st 10 (.t 3) (.t 4))]) (.seq (.reg [o 5 (.lit 1 0 [] []),o 6 (.fad 3 (.t 1)),o 7 (.ld false 1 (.t 6)),o 8 (.app 1 8 [(.int .i64 0)] (.t 5) (.t 7)),o 9 (.fad 3 (.t 3)),on (.st 1 (.t 9) (.t 8))]) (.seq (.reg [o 10 (.ld true 10 (.t 3)),on (.st 10 (.t 2) (.t 10))]) .ret))))⟩
theorem ir_s_l05Copy:compFn Tryz.prog n_s_l05Copy=some F_s_l05Copy:=by kernel_rfl
abbrev n_i_copyAct:Nat:=40
def F_i_copyAct:Fn1:=⟨8,[.c 2 true 10],(.seq (.reg [o 1 (.box (.t 0)),o 2 (.new [(.int .i64 0),(.int .i64 0),(.int .i64 0),.nilS,(.int .i64 0),(.str ⟨#[]⟩),(.str ⟨#[]⟩),(.int .i64 0),(.int .i64 0),(.int .i64 0)])]) (.seq (.reg [o 3 (.fad 3 (.t 1)),o 4 (.ld false 1 (.t 3)),o 5 (.call 113 [(.t 4)]),o 6 (.fad 3 (.t 1)),on (.st 1 (.t 6) (.t 5))]) (.seq (.reg [o 7 (.ld true 10 (.t 1)),on (.st 10 (.t 2) (.t 7))]) .ret)))⟩
theorem ir_i_copyAct:compFn Tryz.prog n_i_copyAct=some F_i_copyAct:=by kernel_rfl
abbrev n_s_ActsBy:Nat:=9
def F_s_ActsBy:Fn1:=⟨48,[.t 4],(.seq (.reg [o 4 (.mov (.k .nilS))]) (.seq (.reg [o 7 (.lit 10 0 [] []),o 5 (.mov (.t 7))]) (.seq (.seq (.reg [o 6 (.mov (.k (.int .i64 0)))]) (.blk 0 (.lop (.seq (.seq (.reg [o 8 (.mov (.t 6)),o 9 (.mov (.t 0)),o 10 (.len false (.t 9)),o 11 (.bin .lss (.t 8) (.t 10))]) (.cnd (.t 11) .skip (.ext 0))) (.seq (.blk 1 (.seq (.reg [o 14 (.mov (.t 0)),o 15 (.mov (.t 6)),o 16 (.iad 17 (.t 14) (.t 15)),o 17 (.fad 0 (.t 16)),o 18 (.ld false 1 (.t 17)),o 19 (.un .not (.t 18)),o 20 (.mov (.t 19)),og 21 20 true (.mov (.t 0)),og 22 20 true (.mov (.t 6)),og 23 20 true (.iad 17 (.t 21) (.t 22)),og 24 20 true (.ld true 17 (.t 23)),og 25 20 true (.call 36 [(.t 24)]),o 26 (.pick (.t 20) (.t 25) (.k (.bool false))),o 27 (.mov (.t 26)),og 28 27 true (.mov (.t 0)),og 29 27 true (.mov (.t 6)),og 30 27 true (.iad 17 (.t 28) (.t 29)),og 31 27 true (.fad 1 (.t 30)),og 32 27 true (.fad 0 (.t 31)),og 33 27 true (.fad 0 (.t 32)),og 34 27 true (.ld false 1 (.t 33)),og 35 27 true (.mov (.t 1)),og 36 27 true (.bin .eql (.t 34) (.t 35)),o 37 (.pick (.t 27) (.t 36) (.k (.bool false)))]) (.cnd (.t 37) (.reg [o 38 (.mov (.t 5)),o 39 (.mov (.t 0)),o 40 (.mov (.t 6)),o 41 (.iad 17 (.t 39) (.t 40)),o 42 (.fad 1 (.t 41)),o 43 (.ld true 10 (.t 42)),o 44 (.call 37 [(.t 43)]),o 45 (.lit 10 1 [(.int .i64 0),(.int .i64 0),(.int .i64 0),.nilS,(.int .i64 0),(.str ⟨#[]⟩),(.str ⟨#[]⟩),(.int .i64 0),(.int .i64 0),(.int .i64 0)] [(0,10,(.t 44))]),o 46 (.app 10 112 [(.int .i64 0),(.int .i64 0),(.int .i64 0),.nilS,(.int .i64 0),(.str ⟨#[]⟩),(.str ⟨#[]⟩),(.int .i64 0),(.int .i64 0),(.int .i64 0)] (.t 38) (.t 45)),o 5 (.mov (.t 46))]) .skip))) (.reg [o 12 (.mov (.t 6)),o 13 (.bin .add (.t 12) (.k (.int .i64 1))),o 6 (.mov (.t 13))])))))) (.seq (.reg [o 47 (.mov (.t 5)),o 4 (.mov (.t 47))]) .ret))))⟩
theorem ir_s_ActsBy:compFn Tryz.prog n_s_ActsBy=some F_s_ActsBy:=by kernel_rfl
abbrev n_i_ActsBy:Nat:=11
def F_i_ActsBy:Fn1:=⟨38,[.t 4],(.seq (.reg [o 4 (.mov (.k .nilS))]) (.seq (.reg [o 8 (.lit 10 0 [] []),o 5 (.mov (.t 8))]) (.seq (.seq (.reg [o 9 (.mov (.t 0)),o 10 (.len false (.t 9)),o 11 (.mov (.k (.int .i64 0)))]) (.blk 0 (.lop (.seq (.reg [o 12 (.bin .lss (.t 11) (.t 10))]) (.seq (.cnd (.t 12) .skip (.ext 0)) (.seq (.blk 1 (.seq (.reg [o 13 (.iad 17 (.t 9) (.t 11)),o 14 (.ld true 17 (.t 13)),o 7 (.new [(.bool false),(.int .i64 0),(.int .i64 0),(.int .i64 0),.nilS,(.int .i64 0),(.str ⟨#[]⟩),(.str ⟨#[]⟩),(.int .i64 0),(.int .i64 0),(.int .i64 0),.nilS,.nilS,.nilS,.nilS,.nilS,.nilS]),on (.st 17 (.t 7) (.t 14))]) (.seq (.reg [o 15 (.ld true 17 (.t 7)),o 16 (.call 39 [(.t 15)]),o 17 (.mov (.t 16)),og 18 17 true (.fad 0 (.t 7)),og 19 17 true (.ld false 1 (.t 18)),og 20 17 true (.un .not (.t 19)),o 21 (.pick (.t 17) (.t 20) (.k (.bool false))),o 22 (.mov (.t 21)),og 23 22 true (.fad 1 (.t 7)),og 24 22 true (.fad 0 (.t 23)),og 25 22 true (.fad 0 (.t 24)),og 26 22 true (.ld false 1 (.t 25)),og 27 22 true (.mov (.t 1)),og 28 22 true (.bin .eql (.t 26) (.t 27)),o 29 (.pick (.t 22) (.t 28) (.k (.bool false)))]) (.cnd (.t 29) (.reg [o 30 (.mov (.t 5)),o 31 (.fad 1 (.t 7)),o 32 (.ld true 10 (.t 31)),o 33 (.call 40 [(.t 32)]),o 34 (.lit 10 1 [(.int .i64 0),(.int .i64 0),(.int .i64 0),.nilS,(.int .i64 0),(.str ⟨#[]⟩),(.str ⟨#[]⟩),(.int .i64 0),(.int .i64 0),(.int .i64 0)] [(0,10,(.t 33))]),o 35 (.app 10 112 [(.int .i64 0),(.int .i64 0),(.int .i64 0),.nilS,(.int .i64 0),(.str ⟨#[]⟩),(.str ⟨#[]⟩),(.int .i64 0),(.int .i64 0),(.int .i64 0)] (.t 30) (.t 34)),o 5 (.mov (.t 35))]) .skip)))) (.reg [o 36 (.bin .add (.t 11) (.k (.int .i64 1))),o 11 (.mov (.t 36))]))))))) (.seq (.reg [o 37 (.mov (.t 5)),o 4 (.mov (.t 37))]) .ret))))⟩
theorem ir_i_ActsBy:compFn Tryz.prog n_i_ActsBy=some F_i_ActsBy:=by kernel_rfl
theorem s_l05Copy_ret (σ:St) (cs:List GV) (x:Act) (hR:kAct.R σ x cs) (hl:x.knew.length≤1099511627776):∃ r τ,Ret Tryz.prog n_s_l05Copy [.agg cs] σ (.agg r) τ∧Hp σ τ [own kAct r x]:=by
 obtain⟨v,rfl,q⟩:=hR
 have key:∃ w τ,Ret Tryz.prog n_s_l05Copy [.agg (actV x v)] σ w τ∧∃ r,w= .agg r∧Hp σ τ [own kAct r x]:=by
  refine ret_x ir_s_l05Copy (Nat.le_of_ble_eq_true rfl) (Hx.refl σ) ?_
  simp +contextual (disch:=omega) only[go_sem,F_s_l05Copy]
  intro n1 f1 τ1 H1 n2 f2 τ2 H2 n3 f3 τ3 _ τ4 _ n4 f4 τ5 H5
  refine by_cp (p:=pI) H5 (q.pre H5.sub) (by decide) (by omega) fun w τ6 H6=> ?_
  have cw:=(H6.hp.sl 0 rfl).cell
  simp +contextual (disch:=omega) only[go_sem,cw]
  intro τ7 _ τ8 H8
  exact⟨_,rfl,_,rfl,Hp.ownAct (x:=x) (H8.sel [0] (by decide))⟩
 obtain⟨q,τ,R,r,rfl,h⟩:=key
 exact⟨r,τ,R,h⟩
theorem i_copyAct_ret (σ:St) (cs:List GV) (x:Act) (hR:kAct.R σ x cs) (hl:x.knew.length≤1099511627776):∃ r τ,Ret Tryz.prog n_i_copyAct [.agg cs] σ (.agg r) τ∧Hp σ τ [own kAct r x]:=by
 obtain⟨v,rfl,q⟩:=hR
 have key:∃ w τ,Ret Tryz.prog n_i_copyAct [.agg (actV x v)] σ w τ∧∃ r,w= .agg r∧Hp σ τ [own kAct r x]:=by
  refine ret_x ir_i_copyAct (Nat.le_of_ble_eq_true rfl) (Hx.refl σ) ?_
  simp +contextual (disch:=omega) only[go_sem,F_i_copyAct]
  intro n1 f1 τ1 H1 n2 f2 τ2 H2
  obtain⟨w,τ3,R3,K3⟩:=i_copyInts_ret τ2 v _ (q.pre H2.sub) hl
  refine by_c H2 R3 K3 fun H3=> ?_
  have cw:=(H3.hp.sl 0 rfl).cell
  simp +contextual (disch:=omega) only[go_sem,cw]
  intro τ4 _ τ5 H5
  exact⟨_,rfl,_,rfl,Hp.ownAct (x:=x) (H5.sel [0] (by decide))⟩
 obtain⟨q,τ,R,r,rfl,h⟩:=key
 exact⟨r,τ,R,h⟩
def byRep (r:Int) (u:Unit_):Bool:=unitOk u&&(!u.batch&&u.act.dot.rep==r)
def actsBy (us:List Unit_) (r:Int):List Act:=(us.filter (byRep r)).map (·.act)
theorem aby_t {l:List Unit_} {r:Int} {i:Nat} (hi:i<l.length) (hp:byRep r l[i]=true):actsBy (l.take (i+1)) r=actsBy (l.take i) r++[l[i].act]:=by
 unfold actsBy;rw[flt_t hi hp,List.map_append];rfl
theorem aby_f {l:List Unit_} {r:Int} {i:Nat} (hi:i<l.length) (hp:byRep r l[i]=false):actsBy (l.take (i+1)) r=actsBy (l.take i) r:=by
 unfold actsBy;rw[flt_f hi hp]
theorem aby_le (l:List Unit_) (r:Int) (i:Nat):(actsBy (l.take i) r).length≤l.length:=by
 unfold actsBy;rw[List.length_map];exact flt_le (Nat.le_refl _)
theorem unit_row {σ:St} {v:GV} {l:List Unit_} (h:RS kUnit_ σ v l) {i:Nat} (hi:i<l.length):∃ kv d0 d1 d2 d3 d4 d5,(iadG 17 v (some i)=some (atz 17 v i)∧(∀ k,fadG k (atz 17 v i)=some (fld k (atz 17 v i)))∧(∀ k m,fadG k (fld m (atz 17 v i))=some (fld (m+k) (atz 17 v i)))∧ldG true 17 σ (atz 17 v i)=some (.agg (unV l[i] kv d0 d1 d2 d3 d4 d5))∧ldG false 1 σ (fld 0 (atz 17 v i))=some (.bool l[i].batch)∧ldG false 1 σ (fld 1 (atz 17 v i))=some (gi l[i].act.dot.rep)∧ldG true 10 σ (fld 1 (atz 17 v i))=some (.agg (actV l[i].act kv)))∧kUnit_.R σ l[i] (unV l[i] kv d0 d1 d2 d3 d4 d5)∧kAct.R σ l[i].act (actV l[i].act kv)∧kDelta.R σ l[i].delta [d0,d1,d2,d3,d4,d5]:=by
 obtain⟨cs,⟨h1,h2,h3,h4,h5⟩,h6⟩:=RdN.cellsN h hi
 obtain⟨kv,d0,d1,d2,d3,d4,d5,rfl,hA,hD⟩:=unit_cells h6
 exact⟨kv,d0,d1,d2,d3,d4,d5,⟨h1,h2,h3,h4,h5 0 1 false (by decide),h5 1 1 false (by decide),h5 1 10 true (by decide)⟩,h6,hA,hD⟩
set_option maxHeartbeats 1000000 in
theorem s_ActsBy_ret (σ:St) (v:GV) (l:List Unit_) (h:RS kUnit_ σ v l) (r:Int) (hl:l.length+sumL msUnit l≤1048576):∃ w τ,Ret Tryz.prog n_s_ActsBy [v,gi r] σ w τ∧Hp σ τ [ow kAct w (actsBy l r)]:=by
 refine ret_x ir_s_ActsBy (Nat.le_of_ble_eq_true rfl) (Hx.refl σ) ?_
 simp +contextual (disch:=omega) only[go_sem,F_s_ActsBy]
 intro n1 f1 τ1 H1
 refine sx_for l.length 6 0 (fun i env h=>env 0=v∧env 1=gi r∧∃ w,env 5=w∧h=[.th (ow kAct w (actsBy (l.take i) r))]) (fun env h=>∃ w,env 5=w∧h=[.th (ow kAct w (actsBy l r))]) (fun _ _=>False) _ (H1.emp kAct rfl) (by simp +contextual (disch:=omega) only[go_sem]) ⟨by simp +contextual (disch:=omega) only[go_sem],by simp +contextual (disch:=omega) only[go_sem],_,by simp +contextual (disch:=omega) only[go_sem],rfl⟩ ?_ ?_ ?_ (fun _ _ _ _ h=>h.elim)
 ·clear H1
  rintro J Y W hJ hY hW i env h' τ hi ei c0 H ⟨e0,e1,w,e5,rfl⟩
  obtain⟨kv,d0,d1,d2,d3,d4,d5,U,hU,hA,hD⟩:=unit_row h hi
  have hmu:msUnit l[i]≤sumL msUnit l:=sumL_mem (f:=msUnit) (List.getElem_mem hi)
  have hkn:l[i].act.knew.length≤msUnit l[i]:=by unfold msUnit msAct;omega
  have hle:=aby_le l r i
  cases hb:l[i].batch with
  |true=>
   have hp:byRep r l[i]=false:=by simp[byRep,hb]
   simp +contextual (disch:=omega) only[go_sem,c0,e0,e1,e5,ei,natOf_nat,h.len,U,hb]
   exact hJ _ _ _ _ H ⟨by simp +contextual (disch:=omega) only[go_sem,e0],by simp +contextual (disch:=omega) only[go_sem,e1],w,by simp +contextual (disch:=omega) only[go_sem,e5],by rw[aby_f hi hp]⟩
  |false=>
   simp +contextual (disch:=omega) only[go_sem,c0,e0,e1,e5,ei,natOf_nat,h.len,U,hb]
   refine by_b H (s_l13Unit_ret _ _ l[i] (kUnit_.pre hU H.sub) (by omega)) (fun h1=> ?_) (fun h1=> ?_)
   rotate_left
   ·have hp:byRep r l[i]=false:=by simp[byRep,hb,h1]
    simp +contextual (disch:=omega) only[go_sem,c0,e0,e1,e5,ei]
    exact hJ _ _ _ _ H ⟨by simp +contextual (disch:=omega) only[go_sem,e0],by simp +contextual (disch:=omega) only[go_sem,e1],w,by simp +contextual (disch:=omega) only[go_sem,e5],by rw[aby_f hi hp]⟩
   cases h2:l[i].act.dot.rep==r with
   |false=>
    have hp:byRep r l[i]=false:=by simp[byRep,hb,h1,h2]
    simp +contextual (disch:=omega) only[go_sem,c0,e0,e1,e5,ei,natOf_nat,U,h2]
    exact hJ _ _ _ _ H ⟨by simp +contextual (disch:=omega) only[go_sem,e0],by simp +contextual (disch:=omega) only[go_sem,e1],w,by simp +contextual (disch:=omega) only[go_sem,e5],by rw[aby_f hi hp]⟩
   |true=>
    have hp:byRep r l[i]=true:=by simp[byRep,hb,h1,h2]
    simp +contextual (disch:=omega) only[go_sem,c0,e0,e1,e5,ei,natOf_nat,U,h2]
    obtain⟨q,τ2,R2,K2⟩:=s_l05Copy_ret τ _ l[i].act (kAct.pre hA H.sub) (by omega)
    have ql:q.length=10:=kAct.len (K2.rd 0 rfl)
    refine by_c H R2 K2 fun H2=> ?_
    simp +contextual (disch:=omega) only[go_sem,splice_full (cs:=zeA) ql rfl,ql,e5]
    intro n3 f3 τ3 H3
    refine by_appc H3 1 1 rfl rfl look_eq (by decide) (by omega) fun w' τ4 H4=> ?_
    simp +contextual (disch:=omega) only[go_sem,ei]
    exact hJ _ _ _ _ (H4.re [1] (by decide)) ⟨by simp +contextual (disch:=omega) only[go_sem,e0],by simp +contextual (disch:=omega) only[go_sem,e1],w',by simp +contextual (disch:=omega) only[go_sem],by rw[aby_t hi hp];rfl⟩
 ·clear H1
  rintro Y hY env h' τ ei c0 H ⟨e0,e1,w,e5,rfl⟩
  simp +contextual (disch:=omega) only[go_sem,c0,e0,ei,h.len]
  exact hY _ _ _ H ⟨w,e5,by rw[List.take_length]⟩
 ·rintro env h' τ H ⟨w,e5,rfl⟩
  simp +contextual (disch:=omega) only[go_sem,e5]
  exact fun _=>⟨_,rfl,H.hp⟩
set_option maxHeartbeats 1000000 in
theorem i_ActsBy_ret (σ:St) (v:GV) (l:List Unit_) (h:RS kUnit_ σ v l) (r:Int) (hl:l.length+sumL msUnit l≤1048576):∃ w τ,Ret Tryz.prog n_i_ActsBy [v,gi r] σ w τ∧Hp σ τ [ow kAct w (actsBy l r)]:=by
 refine ret_x ir_i_ActsBy (Nat.le_of_ble_eq_true rfl) (Hx.refl σ) ?_
 simp +contextual (disch:=omega) only[go_sem,F_i_ActsBy,h.len]
 intro n1 f1 τ1 H1
 refine sx_for l.length 11 0 (fun i env h=>env 9=v∧env 10=gi l.length∧env 1=gi r∧∃ w,env 5=w∧h=[.th (ow kAct w (actsBy (l.take i) r))]) (fun env h=>∃ w,env 5=w∧h=[.th (ow kAct w (actsBy l r))]) (fun _ _=>False) _ (H1.emp kAct rfl) (by simp +contextual (disch:=omega) only[go_sem]) ⟨by simp +contextual (disch:=omega) only[go_sem],by simp +contextual (disch:=omega) only[go_sem],by simp +contextual (disch:=omega) only[go_sem],_,by simp +contextual (disch:=omega) only[go_sem],rfl⟩ ?_ ?_ ?_ (fun _ _ _ _ h=>h.elim)
 ·clear H1
  rintro J Y W hJ hY hW i env h' τ hi ei c0 H ⟨e9,e10,e1,w,e5,rfl⟩
  obtain⟨kv,d0,d1,d2,d3,d4,d5,U,hU,hA,hD⟩:=unit_row h hi
  have hmu:msUnit l[i]≤sumL msUnit l:=sumL_mem (f:=msUnit) (List.getElem_mem hi)
  have hkn:l[i].act.knew.length≤msUnit l[i]:=by unfold msUnit msAct;omega
  have hle:=aby_le l r i
  simp +contextual (disch:=omega) only[go_sem,c0,e9,e10,e1,e5,ei,natOf_nat,U]
  intro n2 f2 τ2 _ τ3 H3
  refine by_b H3 (i_unitOk_ret _ _ l[i] (kUnit_.pre hU H3.sub) (by omega)) (fun h1=> ?_) (fun h1=> ?_)
  rotate_left
  ·have hp:byRep r l[i]=false:=by simp[byRep,h1]
   simp +contextual (disch:=omega) only[go_sem,c0,e9,e10,e1,e5,ei]
   exact hJ _ _ _ _ (H3.re [1] (by decide)) ⟨by simp +contextual (disch:=omega) only[go_sem,e9],by simp +contextual (disch:=omega) only[go_sem,e10],by simp +contextual (disch:=omega) only[go_sem,e1],w,by simp +contextual (disch:=omega) only[go_sem,e5],by rw[aby_f hi hp];rfl⟩
  cases hb:l[i].batch with
  |true=>
   have hp:byRep r l[i]=false:=by simp[byRep,hb]
   simp +contextual (disch:=omega) only[go_sem,e9,e10,e1,e5,ei,hb]
   exact hJ _ _ _ _ (H3.re [1] (by decide)) ⟨by simp +contextual (disch:=omega) only[go_sem,e9],by simp +contextual (disch:=omega) only[go_sem,e10],by simp +contextual (disch:=omega) only[go_sem,e1],w,by simp +contextual (disch:=omega) only[go_sem,e5],by rw[aby_f hi hp];rfl⟩
  |false=>
   cases h2:l[i].act.dot.rep==r with
   |false=>
    have hp:byRep r l[i]=false:=by simp[byRep,hb,h1,h2]
    simp +contextual (disch:=omega) only[go_sem,e9,e10,e1,e5,ei,hb,h2]
    exact hJ _ _ _ _ (H3.re [1] (by decide)) ⟨by simp +contextual (disch:=omega) only[go_sem,e9],by simp +contextual (disch:=omega) only[go_sem,e10],by simp +contextual (disch:=omega) only[go_sem,e1],w,by simp +contextual (disch:=omega) only[go_sem,e5],by rw[aby_f hi hp];rfl⟩
   |true=>
    have hp:byRep r l[i]=true:=by simp[byRep,hb,h1,h2]
    simp +contextual (disch:=omega) only[go_sem,e9,e10,e1,e5,ei,hb,h2]
    obtain⟨q,τ4,R4,K4⟩:=i_copyAct_ret τ3 _ l[i].act (kAct.pre hA H3.sub) (by omega)
    have ql:q.length=10:=kAct.len (K4.rd 0 rfl)
    refine by_c H3 R4 K4 fun H4=> ?_
    simp +contextual (disch:=omega) only[go_sem,splice_full (cs:=zeA) ql rfl,ql,e5]
    intro n3 f3 τ5 H5
    refine by_appc H5 1 2 rfl rfl look_eq (by decide) (by omega) fun w' τ6 H6=> ?_
    simp +contextual (disch:=omega) only[go_sem,ei]
    exact hJ _ _ _ _ (H6.re [2] (by decide)) ⟨by simp +contextual (disch:=omega) only[go_sem,e9],by simp +contextual (disch:=omega) only[go_sem,e10],by simp +contextual (disch:=omega) only[go_sem,e1],w',by simp +contextual (disch:=omega) only[go_sem],by rw[aby_t hi hp];rfl⟩
 ·clear H1
  rintro Y hY env h' τ ei c0 H ⟨e9,e10,e1,w,e5,rfl⟩
  simp +contextual (disch:=omega) only[go_sem,c0,e10,ei]
  exact hY _ _ _ H ⟨w,e5,by rw[List.take_length]⟩
 ·rintro env h' τ H ⟨w,e5,rfl⟩
  simp +contextual (disch:=omega) only[go_sem,e5]
  exact fun _=>⟨_,rfl,H.hp⟩
end Go.Proofs.YtffnefmklckngaaGreat.Sy
namespace Go.Proofs.YtffnefmklckngaaGreat.Sy
open Go Go.RowKit
set_option linter.unusedSimpArgs false
set_option linter.unusedVariables false
abbrev n_l_eqDot:Nat:=114
def F_l_eqDot:Fn1:=⟨15,[.t 4],(.seq (.reg [o 2 (.box (.t 0)),o 3 (.box (.t 1)),o 4 (.mov (.k (.bool false)))]) (.seq (.seq (.reg [o 5 (.fad 0 (.t 2)),o 6 (.ld false 1 (.t 5)),o 7 (.fad 0 (.t 3)),o 8 (.ld false 1 (.t 7)),o 9 (.bin .neq (.t 6) (.t 8))]) (.cnd (.t 9) (.seq (.reg [o 4 (.mov (.k (.bool false)))]) .ret) .skip)) (.seq (.seq (.reg [o 10 (.fad 1 (.t 2)),o 11 (.ld false 1 (.t 10)),o 12 (.fad 1 (.t 3)),o 13 (.ld false 1 (.t 12)),o 14 (.bin .neq (.t 11) (.t 13))]) (.cnd (.t 14) (.seq (.reg [o 4 (.mov (.k (.bool false)))]) .ret) .skip)) (.seq (.reg [o 4 (.mov (.k (.bool true)))]) .ret))))⟩
theorem ir_l_eqDot:compFn Tryz.prog n_l_eqDot=some F_l_eqDot:=by kernel_rfl
theorem l_eqDot_ret (σ:St) (x y:Dot):Ret Tryz.prog n_l_eqDot [.agg [.int .i64 x.rep,.int .i64 x.seq],.agg [.int .i64 y.rep,.int .i64 y.seq]] σ (.bool (decide (x=y))) σ:=by
 refine ret_eq ir_l_eqDot (Nat.le_of_ble_eq_true rfl) trivial ?_
 simp +contextual (disch:=omega) only[go_sem,F_l_eqDot,List.append_nil]
 refine⟨fun hn=> ?_,fun hn=> ?_⟩
 ·simp only[Dot.eq_iff];simp at hn ⊢;simp[hn]
 have q0:x.rep=y.rep:=by simpa using hn
 refine⟨fun hn=> ?_,fun hn=> ?_⟩
 ·simp only[Dot.eq_iff];simp at hn ⊢;simp[hn]
 have q1:x.seq=y.seq:=by simpa using hn
 simp only[Dot.eq_iff,q0,q1,and_self,decide_true]
end Go.Proofs.YtffnefmklckngaaGreat.Sy
namespace Go.Proofs.YtffnefmklckngaaGreat.Sy
open Go Go.RowKit
set_option linter.unusedSimpArgs false
set_option linter.unusedVariables false
abbrev n_l_eqIntS:Nat:=84
def F_l_eqIntS:Fn1:=⟨26,[.t 4],(.seq (.reg [o 4 (.mov (.k (.bool false)))]) (.seq (.seq (.reg [o 6 (.mov (.t 0)),o 7 (.len false (.t 6)),o 8 (.mov (.t 1)),o 9 (.len false (.t 8)),o 10 (.bin .neq (.t 7) (.t 9))]) (.cnd (.t 10) (.seq (.reg [o 4 (.mov (.k (.bool false)))]) .ret) .skip)) (.seq (.seq (.reg [o 5 (.mov (.k (.int .i64 0)))]) (.blk 0 (.lop (.seq (.seq (.reg [o 11 (.mov (.t 5)),o 12 (.mov (.t 0)),o 13 (.len false (.t 12)),o 14 (.bin .lss (.t 11) (.t 13))]) (.cnd (.t 14) .skip (.ext 0))) (.seq (.blk 1 (.seq (.drw [o 17 (.mov (.t 0)),o 18 (.mov (.t 5)),o 19 (.iad 1 (.t 17) (.t 18)),o 20 (.ld false 1 (.t 19)),o 21 (.mov (.t 1)),o 22 (.mov (.t 5)),o 23 (.iad 1 (.t 21) (.t 22)),o 24 (.ld false 1 (.t 23))] [o 25 (.bin .neq (.t 20) (.t 24))]) (.cnd (.t 25) (.seq (.reg [o 4 (.mov (.k (.bool false)))]) .ret) .skip))) (.reg [o 15 (.mov (.t 5)),o 16 (.bin .add (.t 15) (.k (.int .i64 1))),o 5 (.mov (.t 16))])))))) (.seq (.reg [o 4 (.mov (.k (.bool true)))]) .ret))))⟩
theorem ir_l_eqIntS:compFn Tryz.prog n_l_eqIntS=some F_l_eqIntS:=by kernel_rfl
theorem l_eqIntS_ret (σ:St) (v u:GV) (l m:List Int) (hv:RS pI.kd σ v l) (hu:RS pI.kd σ u m) (hl:l.length≤1099511627776):Ret Tryz.prog n_l_eqIntS [v,u] σ (.bool (decide (l=m))) σ:=by
 refine ret_eq ir_l_eqIntS (Nat.le_of_ble_eq_true rfl) trivial ?_
 simp +contextual (disch:=omega) only[go_sem,F_l_eqIntS,hv.len,hu.len]
 refine⟨fun hn=> ?_,fun hn=> ?_⟩
 ·have:l≠m:=fun h=>by subst h;simp at hn
  simp[this]
 have hlm:l.length=m.length:=by
                    have h2:(l.length:Int)=m.length:=by simpa using hn
                    omega
 refine vc_for l.length 5 (fun i env τ=>env 0=v∧env 1=u∧l.take i=m.take i∧σ <+: τ) rfl ⟨rfl,rfl,rfl,List.prefix_refl _⟩ ?_ ?_
 ·rintro i env τ hi e5 c0 ⟨e0,e1,he,hp⟩
  have hj:i<m.length:=by omega
  have h1:=hv.pre hp
  have h2:=hu.pre hp
  have hne:l[i]≠m[i]→l≠m:=fun h h'=>h (by subst h';rfl)
  have hst:l[i]=m[i]→l.take (i+1)=m.take (i+1):=fun h=>by rw[take_snoc hi,take_snoc hj,he,h]
  simp +contextual (disch:=omega) only[go_sem,c0,e0,e1,e5,hv.len,hu.len,int_at h1 hi,int_at h2 hj,hp]
  refine⟨fun h=> ?_,fun h=> ?_⟩
  ·simp[hne (by simpa using h)]
  ·simpa using hst (by simpa using h)
 ·rintro env τ e5 c0 ⟨e0,e1,he,hp⟩
  rw[List.take_length,hlm,List.take_length] at he
  simp +contextual (disch:=omega) only[go_sem,c0,e0,e1,e5,hv.len,hu.len,hp]
  simp[he]
end Go.Proofs.YtffnefmklckngaaGreat.Sy
namespace Go.Proofs.YtffnefmklckngaaGreat.Sy
open Go Go.RowKit
set_option linter.unusedSimpArgs false
set_option linter.unusedVariables false
abbrev n_l_eqAct:Nat:=41
def F_l_eqAct:Fn1:=⟨48,[.t 4],(.seq (.reg [o 2 (.box (.t 0)),o 3 (.box (.t 1)),o 4 (.mov (.k (.bool false)))]) (.seq (.seq (.reg [o 5 (.fad 0 (.t 2)),o 6 (.ld true 2 (.t 5)),o 7 (.fad 0 (.t 3)),o 8 (.ld true 2 (.t 7)),o 9 (.call 114 [(.t 6),(.t 8)]),o 10 (.un .not (.t 9))]) (.cnd (.t 10) (.seq (.reg [o 4 (.mov (.k (.bool false)))]) .ret) .skip)) (.seq (.seq (.reg [o 11 (.fad 2 (.t 2)),o 12 (.ld false 1 (.t 11)),o 13 (.fad 2 (.t 3)),o 14 (.ld false 1 (.t 13)),o 15 (.bin .neq (.t 12) (.t 14))]) (.cnd (.t 15) (.seq (.reg [o 4 (.mov (.k (.bool false)))]) .ret) .skip)) (.seq (.seq (.reg [o 16 (.fad 3 (.t 2)),o 17 (.ld false 1 (.t 16)),o 18 (.fad 3 (.t 3)),o 19 (.ld false 1 (.t 18)),o 20 (.call 84 [(.t 17),(.t 19)]),o 21 (.un .not (.t 20))]) (.cnd (.t 21) (.seq (.reg [o 4 (.mov (.k (.bool false)))]) .ret) .skip)) (.seq (.seq (.reg [o 22 (.fad 4 (.t 2)),o 23 (.ld false 1 (.t 22)),o 24 (.fad 4 (.t 3)),o 25 (.ld false 1 (.t 24)),o 26 (.bin .neq (.t 23) (.t 25))]) (.cnd (.t 26) (.seq (.reg [o 4 (.mov (.k (.bool false)))]) .ret) .skip)) (.seq (.seq (.reg [o 27 (.fad 5 (.t 2)),o 28 (.ld false 1 (.t 27)),o 29 (.fad 5 (.t 3)),o 30 (.ld false 1 (.t 29)),o 31 (.bin .neq (.t 28) (.t 30))]) (.cnd (.t 31) (.seq (.reg [o 4 (.mov (.k (.bool false)))]) .ret) .skip)) (.seq (.seq (.reg [o 32 (.fad 6 (.t 2)),o 33 (.ld false 1 (.t 32)),o 34 (.fad 6 (.t 3)),o 35 (.ld false 1 (.t 34)),o 36 (.bin .neq (.t 33) (.t 35))]) (.cnd (.t 36) (.seq (.reg [o 4 (.mov (.k (.bool false)))]) .ret) .skip)) (.seq (.seq (.reg [o 37 (.fad 7 (.t 2)),o 38 (.ld false 1 (.t 37)),o 39 (.fad 7 (.t 3)),o 40 (.ld false 1 (.t 39)),o 41 (.bin .neq (.t 38) (.t 40))]) (.cnd (.t 41) (.seq (.reg [o 4 (.mov (.k (.bool false)))]) .ret) .skip)) (.seq (.seq (.reg [o 42 (.fad 8 (.t 2)),o 43 (.ld true 2 (.t 42)),o 44 (.fad 8 (.t 3)),o 45 (.ld true 2 (.t 44)),o 46 (.call 114 [(.t 43),(.t 45)]),o 47 (.un .not (.t 46))]) (.cnd (.t 47) (.seq (.reg [o 4 (.mov (.k (.bool false)))]) .ret) .skip)) (.seq (.reg [o 4 (.mov (.k (.bool true)))]) .ret))))))))))⟩
theorem ir_l_eqAct:compFn Tryz.prog n_l_eqAct=some F_l_eqAct:=by kernel_rfl
theorem l_eqAct_ret (σ:St) (cs ds:List GV) (x y:Act) (hx:kAct.R σ x cs) (hy:kAct.R σ y ds) (hl:msAct x≤1099511627776):Ret Tryz.prog n_l_eqAct [.agg cs,.agg ds] σ (.bool (decide (x=y))) σ:=by
 obtain⟨v2,rfl,q2_⟩:=hx
 obtain⟨u2,rfl,p2_⟩:=hy
 unfold msAct at hl
 refine ret_eq ir_l_eqAct (Nat.le_of_ble_eq_true rfl) trivial ?_
 simp +contextual (disch:=omega) only[go_sem,F_l_eqAct,List.append_nil]
 refine by_ret (l_eqDot_ret _ x.dot y.dot) ?_
 simp +contextual (disch:=omega) only[go_sem,List.append_nil]
 refine⟨fun hn=> ?_,fun hn=> ?_⟩
 ·simp only[Act.eq_iff];simp at hn ⊢;simp[hn]
 have q0:x.dot=y.dot:=by simpa using hn
 refine⟨fun hn=> ?_,fun hn=> ?_⟩
 ·simp only[Act.eq_iff];simp at hn ⊢;simp[hn]
 have q1:x.time=y.time:=by simpa using hn
 refine by_ret (l_eqIntS_ret _ v2 u2 x.knew y.knew (q2_.pre pre2) (p2_.pre pre2) (by omega)) ?_
 simp +contextual (disch:=omega) only[go_sem,List.append_nil]
 refine⟨fun hn=> ?_,fun hn=> ?_⟩
 ·simp only[Act.eq_iff];simp at hn ⊢;simp[hn]
 have q2:x.knew=y.knew:=by simpa using hn
 refine⟨fun hn=> ?_,fun hn=> ?_⟩
 ·simp only[Act.eq_iff];simp at hn ⊢;simp[hn]
 have q3:x.kind=y.kind:=by simpa using hn
 refine⟨fun hn=> ?_,fun hn=> ?_⟩
 ·simp only[Act.eq_iff];simp at hn ⊢;simp[hn]
 have q4:x.obj=y.obj:=by simpa using hn
 refine⟨fun hn=> ?_,fun hn=> ?_⟩
 ·simp only[Act.eq_iff];simp at hn ⊢;simp[hn]
 have q5:x.key=y.key:=by simpa using hn
 refine⟨fun hn=> ?_,fun hn=> ?_⟩
 ·simp only[Act.eq_iff];simp at hn ⊢;simp[hn]
 have q6:x.val=y.val:=by simpa using hn
 refine by_ret (l_eqDot_ret _ x.ref y.ref) ?_
 simp +contextual (disch:=omega) only[go_sem,List.append_nil]
 refine⟨fun hn=> ?_,fun hn=> ?_⟩
 ·simp only[Act.eq_iff];simp at hn ⊢;simp[hn]
 have q7:x.ref=y.ref:=by simpa using hn
 simp only[Act.eq_iff,q0,q1,q2,q3,q4,q5,q6,q7,and_self,decide_true]
end Go.Proofs.YtffnefmklckngaaGreat.Sy
namespace Go.Proofs.YtffnefmklckngaaGreat.Sy
open Go Go.RowKit
set_option linter.unusedSimpArgs false
set_option linter.unusedVariables false
abbrev n_l_eqActS:Nat:=12
def F_l_eqActS:Fn1:=⟨27,[.t 4],(.seq (.reg [o 4 (.mov (.k (.bool false)))]) (.seq (.seq (.reg [o 6 (.mov (.t 0)),o 7 (.len false (.t 6)),o 8 (.mov (.t 1)),o 9 (.len false (.t 8)),o 10 (.bin .neq (.t 7) (.t 9))]) (.cnd (.t 10) (.seq (.reg [o 4 (.mov (.k (.bool false)))]) .ret) .skip)) (.seq (.seq (.reg [o 5 (.mov (.k (.int .i64 0)))]) (.blk 0 (.lop (.seq (.seq (.reg [o 11 (.mov (.t 5)),o 12 (.mov (.t 0)),o 13 (.len false (.t 12)),o 14 (.bin .lss (.t 11) (.t 13))]) (.cnd (.t 14) .skip (.ext 0))) (.seq (.blk 1 (.seq (.drw [o 17 (.mov (.t 0)),o 18 (.mov (.t 5)),o 19 (.iad 10 (.t 17) (.t 18)),o 20 (.ld true 10 (.t 19)),o 21 (.mov (.t 1)),o 22 (.mov (.t 5)),o 23 (.iad 10 (.t 21) (.t 22)),o 24 (.ld true 10 (.t 23))] [o 25 (.call 41 [(.t 20),(.t 24)]),o 26 (.un .not (.t 25))]) (.cnd (.t 26) (.seq (.reg [o 4 (.mov (.k (.bool false)))]) .ret) .skip))) (.reg [o 15 (.mov (.t 5)),o 16 (.bin .add (.t 15) (.k (.int .i64 1))),o 5 (.mov (.t 16))])))))) (.seq (.reg [o 4 (.mov (.k (.bool true)))]) .ret))))⟩
theorem ir_l_eqActS:compFn Tryz.prog n_l_eqActS=some F_l_eqActS:=by kernel_rfl
theorem act_at' {σ:St} {v:GV} {l:List Act} (h:RS kAct σ v l) {i:Nat} (hi:i<l.length):∃ cs,(iadG 10 v (some i)=some (atz 10 v i)∧ldG true 10 σ (atz 10 v i)=some (.agg cs))∧kAct.R σ l[i] cs:=by
 obtain⟨cs,⟨h1,_,_,h4,_⟩,h5⟩:=RdN.cellsN h hi
 exact⟨cs,⟨h1,h4⟩,h5⟩
theorem l_eqActS_ret (σ:St) (v u:GV) (l m:List Act) (hv:RS kAct σ v l) (hu:RS kAct σ u m) (hl:(l.length+sumL msAct l)≤1099511627776):Ret Tryz.prog n_l_eqActS [v,u] σ (.bool (decide (l=m))) σ:=by
 refine ret_eq ir_l_eqActS (Nat.le_of_ble_eq_true rfl) trivial ?_
 simp +contextual (disch:=omega) only[go_sem,F_l_eqActS,hv.len,hu.len]
 refine⟨fun hn=> ?_,fun hn=> ?_⟩
 ·have:l≠m:=fun h=>by subst h;simp at hn
  simp[this]
 have hlm:l.length=m.length:=by
                    have h2:(l.length:Int)=m.length:=by simpa using hn
                    omega
 refine vc_for l.length 5 (fun i env τ=>env 0=v∧env 1=u∧l.take i=m.take i∧σ <+: τ) rfl ⟨rfl,rfl,rfl,List.prefix_refl _⟩ ?_ ?_
 ·rintro i env τ hi e5 c0 ⟨e0,e1,he,hp⟩
  have hj:i<m.length:=by omega
  have h1:=hv.pre hp
  have h2:=hu.pre hp
  have hne:l[i]≠m[i]→l≠m:=fun h h'=>h (by subst h';rfl)
  have hst:l[i]=m[i]→l.take (i+1)=m.take (i+1):=fun h=>by rw[take_snoc hi,take_snoc hj,he,h]
  have hms:msAct l[i]≤sumL msAct l:=sumL_mem (List.getElem_mem hi)
  obtain⟨c,hc,hcr⟩:=act_at' h1 hi
  obtain⟨d,hd,hdr⟩:=act_at' h2 hj
  simp +contextual (disch:=omega) only[go_sem,c0,e0,e1,e5,hv.len,hu.len,hc,hd]
  refine by_ret (l_eqAct_ret τ c d l[i] m[i] hcr hdr (by omega)) ?_
  simp +contextual (disch:=omega) only[go_sem,e0,e1,e5,hp]
  refine⟨fun h=> ?_,fun h=> ?_⟩
  ·simp[hne (by simpa using h)]
  ·simpa using hst (by simpa using h)
 ·rintro env τ e5 c0 ⟨e0,e1,he,hp⟩
  rw[List.take_length,hlm,List.take_length] at he
  simp +contextual (disch:=omega) only[go_sem,c0,e0,e1,e5,hv.len,hu.len,hp]
  simp[he]
end Go.Proofs.YtffnefmklckngaaGreat.Sy
namespace Go.Proofs.YtffnefmklckngaaGreat.Sy
open Go Go.RowKit
set_option linter.unusedSimpArgs false
set_option linter.unusedVariables false
abbrev n_l_eqCell:Nat:=137
def F_l_eqCell:Fn1:=⟨37,[.t 4],(.seq (.reg [o 2 (.box (.t 0)),o 3 (.box (.t 1)),o 4 (.mov (.k (.bool false)))]) (.seq (.seq (.reg [o 5 (.fad 0 (.t 2)),o 6 (.ld false 1 (.t 5)),o 7 (.fad 0 (.t 3)),o 8 (.ld false 1 (.t 7)),o 9 (.bin .neq (.t 6) (.t 8))]) (.cnd (.t 9) (.seq (.reg [o 4 (.mov (.k (.bool false)))]) .ret) .skip)) (.seq (.seq (.reg [o 10 (.fad 1 (.t 2)),o 11 (.ld true 2 (.t 10)),o 12 (.fad 1 (.t 3)),o 13 (.ld true 2 (.t 12)),o 14 (.call 114 [(.t 11),(.t 13)]),o 15 (.un .not (.t 14))]) (.cnd (.t 15) (.seq (.reg [o 4 (.mov (.k (.bool false)))]) .ret) .skip)) (.seq (.seq (.reg [o 16 (.fad 3 (.t 2)),o 17 (.ld false 1 (.t 16)),o 18 (.fad 3 (.t 3)),o 19 (.ld false 1 (.t 18)),o 20 (.bin .neq (.t 17) (.t 19))]) (.cnd (.t 20) (.seq (.reg [o 4 (.mov (.k (.bool false)))]) .ret) .skip)) (.seq (.seq (.reg [o 21 (.fad 4 (.t 2)),o 22 (.ld true 2 (.t 21)),o 23 (.fad 4 (.t 3)),o 24 (.ld true 2 (.t 23)),o 25 (.call 114 [(.t 22),(.t 24)]),o 26 (.un .not (.t 25))]) (.cnd (.t 26) (.seq (.reg [o 4 (.mov (.k (.bool false)))]) .ret) .skip)) (.seq (.seq (.reg [o 27 (.fad 6 (.t 2)),o 28 (.ld false 1 (.t 27)),o 29 (.fad 6 (.t 3)),o 30 (.ld false 1 (.t 29)),o 31 (.bin .neq (.t 28) (.t 30))]) (.cnd (.t 31) (.seq (.reg [o 4 (.mov (.k (.bool false)))]) .ret) .skip)) (.seq (.seq (.reg [o 32 (.fad 7 (.t 2)),o 33 (.ld false 1 (.t 32)),o 34 (.fad 7 (.t 3)),o 35 (.ld false 1 (.t 34)),o 36 (.eqb true (.t 33) (.t 35))]) (.cnd (.t 36) (.seq (.reg [o 4 (.mov (.k (.bool false)))]) .ret) .skip)) (.seq (.reg [o 4 (.mov (.k (.bool true)))]) .ret))))))))⟩
theorem ir_l_eqCell:compFn Tryz.prog n_l_eqCell=some F_l_eqCell:=by kernel_rfl
theorem l_eqCell_ret (σ:St) (x y:Cell):Ret Tryz.prog n_l_eqCell [.agg [.str x.obj,.int .i64 x.dot.rep,.int .i64 x.dot.seq,.int .i64 x.time,.int .i64 x.ref.rep,.int .i64 x.ref.seq,.int .i64 x.val,.bool x.gone],.agg [.str y.obj,.int .i64 y.dot.rep,.int .i64 y.dot.seq,.int .i64 y.time,.int .i64 y.ref.rep,.int .i64 y.ref.seq,.int .i64 y.val,.bool y.gone]] σ (.bool (decide (x=y))) σ:=by
 refine ret_eq ir_l_eqCell (Nat.le_of_ble_eq_true rfl) trivial ?_
 simp +contextual (disch:=omega) only[go_sem,F_l_eqCell,List.append_nil]
 refine⟨fun hn=> ?_,fun hn=> ?_⟩
 ·simp only[Cell.eq_iff];simp at hn ⊢;simp[hn]
 have q0:x.obj=y.obj:=by simpa using hn
 refine by_ret (l_eqDot_ret _ x.dot y.dot) ?_
 simp +contextual (disch:=omega) only[go_sem,List.append_nil]
 refine⟨fun hn=> ?_,fun hn=> ?_⟩
 ·simp only[Cell.eq_iff];simp at hn ⊢;simp[hn]
 have q1:x.dot=y.dot:=by simpa using hn
 refine⟨fun hn=> ?_,fun hn=> ?_⟩
 ·simp only[Cell.eq_iff];simp at hn ⊢;simp[hn]
 have q2:x.time=y.time:=by simpa using hn
 refine by_ret (l_eqDot_ret _ x.ref y.ref) ?_
 simp +contextual (disch:=omega) only[go_sem,List.append_nil]
 refine⟨fun hn=> ?_,fun hn=> ?_⟩
 ·simp only[Cell.eq_iff];simp at hn ⊢;simp[hn]
 have q3:x.ref=y.ref:=by simpa using hn
 refine⟨fun hn=> ?_,fun hn=> ?_⟩
 ·simp only[Cell.eq_iff];simp at hn ⊢;simp[hn]
 have q4:x.val=y.val:=by simpa using hn
 refine⟨fun hn=> ?_,fun hn=> ?_⟩
 ·simp only[Cell.eq_iff];simp at hn ⊢;simp[hn]
 have q5:x.gone=y.gone:=by simpa using hn
 simp only[Cell.eq_iff,q0,q1,q2,q3,q4,q5,and_self,decide_true]
end Go.Proofs.YtffnefmklckngaaGreat.Sy
namespace Go.Proofs.YtffnefmklckngaaGreat.Sy
open Go Go.RowKit
set_option linter.unusedSimpArgs false
set_option linter.unusedVariables false
abbrev n_l_eqCellS:Nat:=87
def F_l_eqCellS:Fn1:=⟨27,[.t 4],(.seq (.reg [o 4 (.mov (.k (.bool false)))]) (.seq (.seq (.reg [o 6 (.mov (.t 0)),o 7 (.len false (.t 6)),o 8 (.mov (.t 1)),o 9 (.len false (.t 8)),o 10 (.bin .neq (.t 7) (.t 9))]) (.cnd (.t 10) (.seq (.reg [o 4 (.mov (.k (.bool false)))]) .ret) .skip)) (.seq (.seq (.reg [o 5 (.mov (.k (.int .i64 0)))]) (.blk 0 (.lop (.seq (.seq (.reg [o 11 (.mov (.t 5)),o 12 (.mov (.t 0)),o 13 (.len false (.t 12)),o 14 (.bin .lss (.t 11) (.t 13))]) (.cnd (.t 14) .skip (.ext 0))) (.seq (.blk 1 (.seq (.drw [o 17 (.mov (.t 0)),o 18 (.mov (.t 5)),o 19 (.iad 8 (.t 17) (.t 18)),o 20 (.ld true 8 (.t 19)),o 21 (.mov (.t 1)),o 22 (.mov (.t 5)),o 23 (.iad 8 (.t 21) (.t 22)),o 24 (.ld true 8 (.t 23))] [o 25 (.call 137 [(.t 20),(.t 24)]),o 26 (.un .not (.t 25))]) (.cnd (.t 26) (.seq (.reg [o 4 (.mov (.k (.bool false)))]) .ret) .skip))) (.reg [o 15 (.mov (.t 5)),o 16 (.bin .add (.t 15) (.k (.int .i64 1))),o 5 (.mov (.t 16))])))))) (.seq (.reg [o 4 (.mov (.k (.bool true)))]) .ret))))⟩
theorem ir_l_eqCellS:compFn Tryz.prog n_l_eqCellS=some F_l_eqCellS:=by kernel_rfl
theorem l_eqCellS_ret (σ:St) (v u:GV) (l m:List Cell) (hv:RS pCell.kd σ v l) (hu:RS pCell.kd σ u m) (hl:(l.length+sumL msCell l)≤1099511627776):Ret Tryz.prog n_l_eqCellS [v,u] σ (.bool (decide (l=m))) σ:=by
 refine ret_eq ir_l_eqCellS (Nat.le_of_ble_eq_true rfl) trivial ?_
 simp +contextual (disch:=omega) only[go_sem,F_l_eqCellS,hv.len,hu.len]
 refine⟨fun hn=> ?_,fun hn=> ?_⟩
 ·have:l≠m:=fun h=>by subst h;simp at hn
  simp[this]
 have hlm:l.length=m.length:=by
                    have h2:(l.length:Int)=m.length:=by simpa using hn
                    omega
 refine vc_for l.length 5 (fun i env τ=>env 0=v∧env 1=u∧l.take i=m.take i∧σ <+: τ) rfl ⟨rfl,rfl,rfl,List.prefix_refl _⟩ ?_ ?_
 ·rintro i env τ hi e5 c0 ⟨e0,e1,he,hp⟩
  have hj:i<m.length:=by omega
  have h1:=hv.pre hp
  have h2:=hu.pre hp
  have hne:l[i]≠m[i]→l≠m:=fun h h'=>h (by subst h';rfl)
  have hst:l[i]=m[i]→l.take (i+1)=m.take (i+1):=fun h=>by rw[take_snoc hi,take_snoc hj,he,h]
  have hms:msCell l[i]≤sumL msCell l:=sumL_mem (List.getElem_mem hi)
  simp +contextual (disch:=omega) only[go_sem,c0,e0,e1,e5,hv.len,hu.len,Cell_at h1 hi,Cell_at h2 hj]
  refine by_ret (l_eqCell_ret τ l[i] m[i]) ?_
  simp +contextual (disch:=omega) only[go_sem,e0,e1,e5,hp]
  refine⟨fun h=> ?_,fun h=> ?_⟩
  ·simp[hne (by simpa using h)]
  ·simpa using hst (by simpa using h)
 ·rintro env τ e5 c0 ⟨e0,e1,he,hp⟩
  rw[List.take_length,hlm,List.take_length] at he
  simp +contextual (disch:=omega) only[go_sem,c0,e0,e1,e5,hv.len,hu.len,hp]
  simp[he]
end Go.Proofs.YtffnefmklckngaaGreat.Sy
namespace Go.Proofs.YtffnefmklckngaaGreat.Sy
open Go Go.RowKit
set_option linter.unusedSimpArgs false
set_option linter.unusedVariables false
abbrev n_l_eqDotS:Nat:=182
def F_l_eqDotS:Fn1:=⟨27,[.t 4],(.seq (.reg [o 4 (.mov (.k (.bool false)))]) (.seq (.seq (.reg [o 6 (.mov (.t 0)),o 7 (.len false (.t 6)),o 8 (.mov (.t 1)),o 9 (.len false (.t 8)),o 10 (.bin .neq (.t 7) (.t 9))]) (.cnd (.t 10) (.seq (.reg [o 4 (.mov (.k (.bool false)))]) .ret) .skip)) (.seq (.seq (.reg [o 5 (.mov (.k (.int .i64 0)))]) (.blk 0 (.lop (.seq (.seq (.reg [o 11 (.mov (.t 5)),o 12 (.mov (.t 0)),o 13 (.len false (.t 12)),o 14 (.bin .lss (.t 11) (.t 13))]) (.cnd (.t 14) .skip (.ext 0))) (.seq (.blk 1 (.seq (.drw [o 17 (.mov (.t 0)),o 18 (.mov (.t 5)),o 19 (.iad 2 (.t 17) (.t 18)),o 20 (.ld true 2 (.t 19)),o 21 (.mov (.t 1)),o 22 (.mov (.t 5)),o 23 (.iad 2 (.t 21) (.t 22)),o 24 (.ld true 2 (.t 23))] [o 25 (.call 114 [(.t 20),(.t 24)]),o 26 (.un .not (.t 25))]) (.cnd (.t 26) (.seq (.reg [o 4 (.mov (.k (.bool false)))]) .ret) .skip))) (.reg [o 15 (.mov (.t 5)),o 16 (.bin .add (.t 15) (.k (.int .i64 1))),o 5 (.mov (.t 16))])))))) (.seq (.reg [o 4 (.mov (.k (.bool true)))]) .ret))))⟩
theorem ir_l_eqDotS:compFn Tryz.prog n_l_eqDotS=some F_l_eqDotS:=by kernel_rfl
theorem l_eqDotS_ret (σ:St) (v u:GV) (l m:List Dot) (hv:RS pDot.kd σ v l) (hu:RS pDot.kd σ u m) (hl:l.length≤1099511627776):Ret Tryz.prog n_l_eqDotS [v,u] σ (.bool (decide (l=m))) σ:=by
 refine ret_eq ir_l_eqDotS (Nat.le_of_ble_eq_true rfl) trivial ?_
 simp +contextual (disch:=omega) only[go_sem,F_l_eqDotS,hv.len,hu.len]
 refine⟨fun hn=> ?_,fun hn=> ?_⟩
 ·have:l≠m:=fun h=>by subst h;simp at hn
  simp[this]
 have hlm:l.length=m.length:=by
                    have h2:(l.length:Int)=m.length:=by simpa using hn
                    omega
 refine vc_for l.length 5 (fun i env τ=>env 0=v∧env 1=u∧l.take i=m.take i∧σ <+: τ) rfl ⟨rfl,rfl,rfl,List.prefix_refl _⟩ ?_ ?_
 ·rintro i env τ hi e5 c0 ⟨e0,e1,he,hp⟩
  have hj:i<m.length:=by omega
  have h1:=hv.pre hp
  have h2:=hu.pre hp
  have hne:l[i]≠m[i]→l≠m:=fun h h'=>h (by subst h';rfl)
  have hst:l[i]=m[i]→l.take (i+1)=m.take (i+1):=fun h=>by rw[take_snoc hi,take_snoc hj,he,h]
  simp +contextual (disch:=omega) only[go_sem,c0,e0,e1,e5,hv.len,hu.len,Dot_at h1 hi,Dot_at h2 hj]
  refine by_ret (l_eqDot_ret τ l[i] m[i]) ?_
  simp +contextual (disch:=omega) only[go_sem,e0,e1,e5,hp]
  refine⟨fun h=> ?_,fun h=> ?_⟩
  ·simp[hne (by simpa using h)]
  ·simpa using hst (by simpa using h)
 ·rintro env τ e5 c0 ⟨e0,e1,he,hp⟩
  rw[List.take_length,hlm,List.take_length] at he
  simp +contextual (disch:=omega) only[go_sem,c0,e0,e1,e5,hv.len,hu.len,hp]
  simp[he]
end Go.Proofs.YtffnefmklckngaaGreat.Sy
namespace Go.Proofs.YtffnefmklckngaaGreat.Sy
open Go Go.RowKit
set_option linter.unusedSimpArgs false
set_option linter.unusedVariables false
abbrev n_l_eqLive:Nat:=136
def F_l_eqLive:Fn1:=⟨31,[.t 4],(.seq (.reg [o 2 (.box (.t 0)),o 3 (.box (.t 1)),o 4 (.mov (.k (.bool false)))]) (.seq (.seq (.reg [o 5 (.fad 0 (.t 2)),o 6 (.ld false 1 (.t 5)),o 7 (.fad 0 (.t 3)),o 8 (.ld false 1 (.t 7)),o 9 (.eqb true (.t 6) (.t 8))]) (.cnd (.t 9) (.seq (.reg [o 4 (.mov (.k (.bool false)))]) .ret) .skip)) (.seq (.seq (.reg [o 10 (.fad 1 (.t 2)),o 11 (.ld false 1 (.t 10)),o 12 (.fad 1 (.t 3)),o 13 (.ld false 1 (.t 12)),o 14 (.bin .neq (.t 11) (.t 13))]) (.cnd (.t 14) (.seq (.reg [o 4 (.mov (.k (.bool false)))]) .ret) .skip)) (.seq (.seq (.reg [o 15 (.fad 2 (.t 2)),o 16 (.ld false 1 (.t 15)),o 17 (.fad 2 (.t 3)),o 18 (.ld false 1 (.t 17)),o 19 (.bin .neq (.t 16) (.t 18))]) (.cnd (.t 19) (.seq (.reg [o 4 (.mov (.k (.bool false)))]) .ret) .skip)) (.seq (.seq (.reg [o 20 (.fad 3 (.t 2)),o 21 (.ld false 1 (.t 20)),o 22 (.fad 3 (.t 3)),o 23 (.ld false 1 (.t 22)),o 24 (.bin .neq (.t 21) (.t 23))]) (.cnd (.t 24) (.seq (.reg [o 4 (.mov (.k (.bool false)))]) .ret) .skip)) (.seq (.seq (.reg [o 25 (.fad 4 (.t 2)),o 26 (.ld true 2 (.t 25)),o 27 (.fad 4 (.t 3)),o 28 (.ld true 2 (.t 27)),o 29 (.call 114 [(.t 26),(.t 28)]),o 30 (.un .not (.t 29))]) (.cnd (.t 30) (.seq (.reg [o 4 (.mov (.k (.bool false)))]) .ret) .skip)) (.seq (.reg [o 4 (.mov (.k (.bool true)))]) .ret)))))))⟩
theorem ir_l_eqLive:compFn Tryz.prog n_l_eqLive=some F_l_eqLive:=by kernel_rfl
theorem l_eqLive_ret (σ:St) (x y:Live):Ret Tryz.prog n_l_eqLive [.agg [.bool x.map,.str x.obj,.str x.key,.int .i64 x.val,.int .i64 x.dot.rep,.int .i64 x.dot.seq],.agg [.bool y.map,.str y.obj,.str y.key,.int .i64 y.val,.int .i64 y.dot.rep,.int .i64 y.dot.seq]] σ (.bool (decide (x=y))) σ:=by
 refine ret_eq ir_l_eqLive (Nat.le_of_ble_eq_true rfl) trivial ?_
 simp +contextual (disch:=omega) only[go_sem,F_l_eqLive,List.append_nil]
 refine⟨fun hn=> ?_,fun hn=> ?_⟩
 ·simp only[Live.eq_iff];simp at hn ⊢;simp[hn]
 have q0:x.map=y.map:=by simpa using hn
 refine⟨fun hn=> ?_,fun hn=> ?_⟩
 ·simp only[Live.eq_iff];simp at hn ⊢;simp[hn]
 have q1:x.obj=y.obj:=by simpa using hn
 refine⟨fun hn=> ?_,fun hn=> ?_⟩
 ·simp only[Live.eq_iff];simp at hn ⊢;simp[hn]
 have q2:x.key=y.key:=by simpa using hn
 refine⟨fun hn=> ?_,fun hn=> ?_⟩
 ·simp only[Live.eq_iff];simp at hn ⊢;simp[hn]
 have q3:x.val=y.val:=by simpa using hn
 refine by_ret (l_eqDot_ret _ x.dot y.dot) ?_
 simp +contextual (disch:=omega) only[go_sem,List.append_nil]
 refine⟨fun hn=> ?_,fun hn=> ?_⟩
 ·simp only[Live.eq_iff];simp at hn ⊢;simp[hn]
 have q4:x.dot=y.dot:=by simpa using hn
 simp only[Live.eq_iff,q0,q1,q2,q3,q4,and_self,decide_true]
end Go.Proofs.YtffnefmklckngaaGreat.Sy
namespace Go.Proofs.YtffnefmklckngaaGreat.Sy
open Go Go.RowKit
set_option linter.unusedSimpArgs false
set_option linter.unusedVariables false
abbrev n_l_eqLiveS:Nat:=86
def F_l_eqLiveS:Fn1:=⟨27,[.t 4],(.seq (.reg [o 4 (.mov (.k (.bool false)))]) (.seq (.seq (.reg [o 6 (.mov (.t 0)),o 7 (.len false (.t 6)),o 8 (.mov (.t 1)),o 9 (.len false (.t 8)),o 10 (.bin .neq (.t 7) (.t 9))]) (.cnd (.t 10) (.seq (.reg [o 4 (.mov (.k (.bool false)))]) .ret) .skip)) (.seq (.seq (.reg [o 5 (.mov (.k (.int .i64 0)))]) (.blk 0 (.lop (.seq (.seq (.reg [o 11 (.mov (.t 5)),o 12 (.mov (.t 0)),o 13 (.len false (.t 12)),o 14 (.bin .lss (.t 11) (.t 13))]) (.cnd (.t 14) .skip (.ext 0))) (.seq (.blk 1 (.seq (.drw [o 17 (.mov (.t 0)),o 18 (.mov (.t 5)),o 19 (.iad 6 (.t 17) (.t 18)),o 20 (.ld true 6 (.t 19)),o 21 (.mov (.t 1)),o 22 (.mov (.t 5)),o 23 (.iad 6 (.t 21) (.t 22)),o 24 (.ld true 6 (.t 23))] [o 25 (.call 136 [(.t 20),(.t 24)]),o 26 (.un .not (.t 25))]) (.cnd (.t 26) (.seq (.reg [o 4 (.mov (.k (.bool false)))]) .ret) .skip))) (.reg [o 15 (.mov (.t 5)),o 16 (.bin .add (.t 15) (.k (.int .i64 1))),o 5 (.mov (.t 16))])))))) (.seq (.reg [o 4 (.mov (.k (.bool true)))]) .ret))))⟩
theorem ir_l_eqLiveS:compFn Tryz.prog n_l_eqLiveS=some F_l_eqLiveS:=by kernel_rfl
theorem l_eqLiveS_ret (σ:St) (v u:GV) (l m:List Live) (hv:RS pLive.kd σ v l) (hu:RS pLive.kd σ u m) (hl:(l.length+sumL msLive l)≤1099511627776):Ret Tryz.prog n_l_eqLiveS [v,u] σ (.bool (decide (l=m))) σ:=by
 refine ret_eq ir_l_eqLiveS (Nat.le_of_ble_eq_true rfl) trivial ?_
 simp +contextual (disch:=omega) only[go_sem,F_l_eqLiveS,hv.len,hu.len]
 refine⟨fun hn=> ?_,fun hn=> ?_⟩
 ·have:l≠m:=fun h=>by subst h;simp at hn
  simp[this]
 have hlm:l.length=m.length:=by
                    have h2:(l.length:Int)=m.length:=by simpa using hn
                    omega
 refine vc_for l.length 5 (fun i env τ=>env 0=v∧env 1=u∧l.take i=m.take i∧σ <+: τ) rfl ⟨rfl,rfl,rfl,List.prefix_refl _⟩ ?_ ?_
 ·rintro i env τ hi e5 c0 ⟨e0,e1,he,hp⟩
  have hj:i<m.length:=by omega
  have h1:=hv.pre hp
  have h2:=hu.pre hp
  have hne:l[i]≠m[i]→l≠m:=fun h h'=>h (by subst h';rfl)
  have hst:l[i]=m[i]→l.take (i+1)=m.take (i+1):=fun h=>by rw[take_snoc hi,take_snoc hj,he,h]
  have hms:msLive l[i]≤sumL msLive l:=sumL_mem (List.getElem_mem hi)
  simp +contextual (disch:=omega) only[go_sem,c0,e0,e1,e5,hv.len,hu.len,Live_at h1 hi,Live_at h2 hj]
  refine by_ret (l_eqLive_ret τ l[i] m[i]) ?_
  simp +contextual (disch:=omega) only[go_sem,e0,e1,e5,hp]
  refine⟨fun h=> ?_,fun h=> ?_⟩
  ·simp[hne (by simpa using h)]
  ·simpa using hst (by simpa using h)
 ·rintro env τ e5 c0 ⟨e0,e1,he,hp⟩
  rw[List.take_length,hlm,List.take_length] at he
  simp +contextual (disch:=omega) only[go_sem,c0,e0,e1,e5,hv.len,hu.len,hp]
  simp[he]
end Go.Proofs.YtffnefmklckngaaGreat.Sy
namespace Go.Proofs.YtffnefmklckngaaGreat.Sy
open Go Go.RowKit
set_option linter.unusedSimpArgs false
set_option linter.unusedVariables false
abbrev n_l_eqTally:Nat:=135
def F_l_eqTally:Fn1:=⟨20,[.t 4],(.seq (.reg [o 2 (.box (.t 0)),o 3 (.box (.t 1)),o 4 (.mov (.k (.bool false)))]) (.seq (.seq (.reg [o 5 (.fad 0 (.t 2)),o 6 (.ld false 1 (.t 5)),o 7 (.fad 0 (.t 3)),o 8 (.ld false 1 (.t 7)),o 9 (.bin .neq (.t 6) (.t 8))]) (.cnd (.t 9) (.seq (.reg [o 4 (.mov (.k (.bool false)))]) .ret) .skip)) (.seq (.seq (.reg [o 10 (.fad 1 (.t 2)),o 11 (.ld false 1 (.t 10)),o 12 (.fad 1 (.t 3)),o 13 (.ld false 1 (.t 12)),o 14 (.bin .neq (.t 11) (.t 13))]) (.cnd (.t 14) (.seq (.reg [o 4 (.mov (.k (.bool false)))]) .ret) .skip)) (.seq (.seq (.reg [o 15 (.fad 2 (.t 2)),o 16 (.ld false 1 (.t 15)),o 17 (.fad 2 (.t 3)),o 18 (.ld false 1 (.t 17)),o 19 (.bin .neq (.t 16) (.t 18))]) (.cnd (.t 19) (.seq (.reg [o 4 (.mov (.k (.bool false)))]) .ret) .skip)) (.seq (.reg [o 4 (.mov (.k (.bool true)))]) .ret)))))⟩
theorem ir_l_eqTally:compFn Tryz.prog n_l_eqTally=some F_l_eqTally:=by kernel_rfl
theorem l_eqTally_ret (σ:St) (x y:Tally):Ret Tryz.prog n_l_eqTally [.agg [.str x.obj,.int .i64 x.rep,.int .i64 x.sum],.agg [.str y.obj,.int .i64 y.rep,.int .i64 y.sum]] σ (.bool (decide (x=y))) σ:=by
 refine ret_eq ir_l_eqTally (Nat.le_of_ble_eq_true rfl) trivial ?_
 simp +contextual (disch:=omega) only[go_sem,F_l_eqTally,List.append_nil]
 refine⟨fun hn=> ?_,fun hn=> ?_⟩
 ·simp only[Tally.eq_iff];simp at hn ⊢;simp[hn]
 have q0:x.obj=y.obj:=by simpa using hn
 refine⟨fun hn=> ?_,fun hn=> ?_⟩
 ·simp only[Tally.eq_iff];simp at hn ⊢;simp[hn]
 have q1:x.rep=y.rep:=by simpa using hn
 refine⟨fun hn=> ?_,fun hn=> ?_⟩
 ·simp only[Tally.eq_iff];simp at hn ⊢;simp[hn]
 have q2:x.sum=y.sum:=by simpa using hn
 simp only[Tally.eq_iff,q0,q1,q2,and_self,decide_true]
end Go.Proofs.YtffnefmklckngaaGreat.Sy
namespace Go.Proofs.YtffnefmklckngaaGreat.Sy
open Go Go.RowKit
set_option linter.unusedSimpArgs false
set_option linter.unusedVariables false
abbrev n_l_eqTallyS:Nat:=85
def F_l_eqTallyS:Fn1:=⟨27,[.t 4],(.seq (.reg [o 4 (.mov (.k (.bool false)))]) (.seq (.seq (.reg [o 6 (.mov (.t 0)),o 7 (.len false (.t 6)),o 8 (.mov (.t 1)),o 9 (.len false (.t 8)),o 10 (.bin .neq (.t 7) (.t 9))]) (.cnd (.t 10) (.seq (.reg [o 4 (.mov (.k (.bool false)))]) .ret) .skip)) (.seq (.seq (.reg [o 5 (.mov (.k (.int .i64 0)))]) (.blk 0 (.lop (.seq (.seq (.reg [o 11 (.mov (.t 5)),o 12 (.mov (.t 0)),o 13 (.len false (.t 12)),o 14 (.bin .lss (.t 11) (.t 13))]) (.cnd (.t 14) .skip (.ext 0))) (.seq (.blk 1 (.seq (.drw [o 17 (.mov (.t 0)),o 18 (.mov (.t 5)),o 19 (.iad 3 (.t 17) (.t 18)),o 20 (.ld true 3 (.t 19)),o 21 (.mov (.t 1)),o 22 (.mov (.t 5)),o 23 (.iad 3 (.t 21) (.t 22)),o 24 (.ld true 3 (.t 23))] [o 25 (.call 135 [(.t 20),(.t 24)]),o 26 (.un .not (.t 25))]) (.cnd (.t 26) (.seq (.reg [o 4 (.mov (.k (.bool false)))]) .ret) .skip))) (.reg [o 15 (.mov (.t 5)),o 16 (.bin .add (.t 15) (.k (.int .i64 1))),o 5 (.mov (.t 16))])))))) (.seq (.reg [o 4 (.mov (.k (.bool true)))]) .ret))))⟩
theorem ir_l_eqTallyS:compFn Tryz.prog n_l_eqTallyS=some F_l_eqTallyS:=by kernel_rfl
theorem l_eqTallyS_ret (σ:St) (v u:GV) (l m:List Tally) (hv:RS pTally.kd σ v l) (hu:RS pTally.kd σ u m) (hl:(l.length+sumL msTally l)≤1099511627776):Ret Tryz.prog n_l_eqTallyS [v,u] σ (.bool (decide (l=m))) σ:=by
 refine ret_eq ir_l_eqTallyS (Nat.le_of_ble_eq_true rfl) trivial ?_
 simp +contextual (disch:=omega) only[go_sem,F_l_eqTallyS,hv.len,hu.len]
 refine⟨fun hn=> ?_,fun hn=> ?_⟩
 ·have:l≠m:=fun h=>by subst h;simp at hn
  simp[this]
 have hlm:l.length=m.length:=by
                    have h2:(l.length:Int)=m.length:=by simpa using hn
                    omega
 refine vc_for l.length 5 (fun i env τ=>env 0=v∧env 1=u∧l.take i=m.take i∧σ <+: τ) rfl ⟨rfl,rfl,rfl,List.prefix_refl _⟩ ?_ ?_
 ·rintro i env τ hi e5 c0 ⟨e0,e1,he,hp⟩
  have hj:i<m.length:=by omega
  have h1:=hv.pre hp
  have h2:=hu.pre hp
  have hne:l[i]≠m[i]→l≠m:=fun h h'=>h (by subst h';rfl)
  have hst:l[i]=m[i]→l.take (i+1)=m.take (i+1):=fun h=>by rw[take_snoc hi,take_snoc hj,he,h]
  have hms:msTally l[i]≤sumL msTally l:=sumL_mem (List.getElem_mem hi)
  simp +contextual (disch:=omega) only[go_sem,c0,e0,e1,e5,hv.len,hu.len,Tally_at h1 hi,Tally_at h2 hj]
  refine by_ret (l_eqTally_ret τ l[i] m[i]) ?_
  simp +contextual (disch:=omega) only[go_sem,e0,e1,e5,hp]
  refine⟨fun h=> ?_,fun h=> ?_⟩
  ·simp[hne (by simpa using h)]
  ·simpa using hst (by simpa using h)
 ·rintro env τ e5 c0 ⟨e0,e1,he,hp⟩
  rw[List.take_length,hlm,List.take_length] at he
  simp +contextual (disch:=omega) only[go_sem,c0,e0,e1,e5,hv.len,hu.len,hp]
  simp[he]
end Go.Proofs.YtffnefmklckngaaGreat.Sy
namespace Go.Proofs.YtffnefmklckngaaGreat.Sy
open Go Go.RowKit
set_option linter.unusedSimpArgs false
set_option linter.unusedVariables false
abbrev n_l_eqDelta:Nat:=115
def F_l_eqDelta:Fn1:=⟨41,[.t 4],(.seq (.reg [o 2 (.box (.t 0)),o 3 (.box (.t 1)),o 4 (.mov (.k (.bool false)))]) (.seq (.seq (.reg [o 5 (.fad 0 (.t 2)),o 6 (.ld false 1 (.t 5)),o 7 (.fad 0 (.t 3)),o 8 (.ld false 1 (.t 7)),o 9 (.call 84 [(.t 6),(.t 8)]),o 10 (.un .not (.t 9))]) (.cnd (.t 10) (.seq (.reg [o 4 (.mov (.k (.bool false)))]) .ret) .skip)) (.seq (.seq (.reg [o 11 (.fad 1 (.t 2)),o 12 (.ld false 1 (.t 11)),o 13 (.fad 1 (.t 3)),o 14 (.ld false 1 (.t 13)),o 15 (.call 84 [(.t 12),(.t 14)]),o 16 (.un .not (.t 15))]) (.cnd (.t 16) (.seq (.reg [o 4 (.mov (.k (.bool false)))]) .ret) .skip)) (.seq (.seq (.reg [o 17 (.fad 2 (.t 2)),o 18 (.ld false 1 (.t 17)),o 19 (.fad 2 (.t 3)),o 20 (.ld false 1 (.t 19)),o 21 (.call 85 [(.t 18),(.t 20)]),o 22 (.un .not (.t 21))]) (.cnd (.t 22) (.seq (.reg [o 4 (.mov (.k (.bool false)))]) .ret) .skip)) (.seq (.seq (.reg [o 23 (.fad 3 (.t 2)),o 24 (.ld false 1 (.t 23)),o 25 (.fad 3 (.t 3)),o 26 (.ld false 1 (.t 25)),o 27 (.call 86 [(.t 24),(.t 26)]),o 28 (.un .not (.t 27))]) (.cnd (.t 28) (.seq (.reg [o 4 (.mov (.k (.bool false)))]) .ret) .skip)) (.seq (.seq (.reg [o 29 (.fad 4 (.t 2)),o 30 (.ld false 1 (.t 29)),o 31 (.fad 4 (.t 3)),o 32 (.ld false 1 (.t 31)),o 33 (.call 182 [(.t 30),(.t 32)]),o 34 (.un .not (.t 33))]) (.cnd (.t 34) (.seq (.reg [o 4 (.mov (.k (.bool false)))]) .ret) .skip)) (.seq (.seq (.reg [o 35 (.fad 5 (.t 2)),o 36 (.ld false 1 (.t 35)),o 37 (.fad 5 (.t 3)),o 38 (.ld false 1 (.t 37)),o 39 (.call 87 [(.t 36),(.t 38)]),o 40 (.un .not (.t 39))]) (.cnd (.t 40) (.seq (.reg [o 4 (.mov (.k (.bool false)))]) .ret) .skip)) (.seq (.reg [o 4 (.mov (.k (.bool true)))]) .ret))))))))⟩
theorem ir_l_eqDelta:compFn Tryz.prog n_l_eqDelta=some F_l_eqDelta:=by kernel_rfl
theorem l_eqDelta_ret (σ:St) (cs ds:List GV) (x y:Delta) (hx:kDelta.R σ x cs) (hy:kDelta.R σ y ds) (hl:msDelta x≤1099511627776):Ret Tryz.prog n_l_eqDelta [.agg cs,.agg ds] σ (.bool (decide (x=y))) σ:=by
 obtain⟨v0,v1,v2,v3,v4,v5,rfl,q0_,q1_,q2_,q3_,q4_,q5_⟩:=hx
 obtain⟨u0,u1,u2,u3,u4,u5,rfl,p0_,p1_,p2_,p3_,p4_,p5_⟩:=hy
 unfold msDelta at hl
 refine ret_eq ir_l_eqDelta (Nat.le_of_ble_eq_true rfl) trivial ?_
 simp +contextual (disch:=omega) only[go_sem,F_l_eqDelta,List.append_nil]
 refine by_ret (l_eqIntS_ret _ v0 u0 x.base y.base (q0_.pre pre2) (p0_.pre pre2) (by omega)) ?_
 simp +contextual (disch:=omega) only[go_sem,List.append_nil]
 refine⟨fun hn=> ?_,fun hn=> ?_⟩
 ·simp only[Delta.eq_iff];simp at hn ⊢;simp[hn]
 have q0:x.base=y.base:=by simpa using hn
 refine by_ret (l_eqIntS_ret _ v1 u1 x.know y.know (q1_.pre pre2) (p1_.pre pre2) (by omega)) ?_
 simp +contextual (disch:=omega) only[go_sem,List.append_nil]
 refine⟨fun hn=> ?_,fun hn=> ?_⟩
 ·simp only[Delta.eq_iff];simp at hn ⊢;simp[hn]
 have q1:x.know=y.know:=by simpa using hn
 refine by_ret (l_eqTallyS_ret _ v2 u2 x.tallies y.tallies (q2_.pre pre2) (p2_.pre pre2) (by omega)) ?_
 simp +contextual (disch:=omega) only[go_sem,List.append_nil]
 refine⟨fun hn=> ?_,fun hn=> ?_⟩
 ·simp only[Delta.eq_iff];simp at hn ⊢;simp[hn]
 have q2:x.tallies=y.tallies:=by simpa using hn
 refine by_ret (l_eqLiveS_ret _ v3 u3 x.lives y.lives (q3_.pre pre2) (p3_.pre pre2) (by omega)) ?_
 simp +contextual (disch:=omega) only[go_sem,List.append_nil]
 refine⟨fun hn=> ?_,fun hn=> ?_⟩
 ·simp only[Delta.eq_iff];simp at hn ⊢;simp[hn]
 have q3:x.lives=y.lives:=by simpa using hn
 refine by_ret (l_eqDotS_ret _ v4 u4 x.dead y.dead (q4_.pre pre2) (p4_.pre pre2) (by omega)) ?_
 simp +contextual (disch:=omega) only[go_sem,List.append_nil]
 refine⟨fun hn=> ?_,fun hn=> ?_⟩
 ·simp only[Delta.eq_iff];simp at hn ⊢;simp[hn]
 have q4:x.dead=y.dead:=by simpa using hn
 refine by_ret (l_eqCellS_ret _ v5 u5 x.cells y.cells (q5_.pre pre2) (p5_.pre pre2) (by omega)) ?_
 simp +contextual (disch:=omega) only[go_sem,List.append_nil]
 refine⟨fun hn=> ?_,fun hn=> ?_⟩
 ·simp only[Delta.eq_iff];simp at hn ⊢;simp[hn]
 have q5:x.cells=y.cells:=by simpa using hn
 simp only[Delta.eq_iff,q0,q1,q2,q3,q4,q5,and_self,decide_true]
end Go.Proofs.YtffnefmklckngaaGreat.Sy
namespace Go.Proofs.YtffnefmklckngaaGreat.Sy
open Go Go.RowKit
set_option linter.unusedSimpArgs false
set_option linter.unusedVariables false
abbrev n_l_eqUnit:Nat:=42
def F_l_eqUnit:Fn1:=⟨22,[.t 4],(.seq (.reg [o 2 (.box (.t 0)),o 3 (.box (.t 1)),o 4 (.mov (.k (.bool false)))]) (.seq (.seq (.reg [o 5 (.fad 0 (.t 2)),o 6 (.ld false 1 (.t 5)),o 7 (.fad 0 (.t 3)),o 8 (.ld false 1 (.t 7)),o 9 (.eqb true (.t 6) (.t 8))]) (.cnd (.t 9) (.seq (.reg [o 4 (.mov (.k (.bool false)))]) .ret) .skip)) (.seq (.seq (.reg [o 10 (.fad 1 (.t 2)),o 11 (.ld true 10 (.t 10)),o 12 (.fad 1 (.t 3)),o 13 (.ld true 10 (.t 12)),o 14 (.call 41 [(.t 11),(.t 13)]),o 15 (.un .not (.t 14))]) (.cnd (.t 15) (.seq (.reg [o 4 (.mov (.k (.bool false)))]) .ret) .skip)) (.seq (.seq (.reg [o 16 (.fad 11 (.t 2)),o 17 (.ld true 6 (.t 16)),o 18 (.fad 11 (.t 3)),o 19 (.ld true 6 (.t 18)),o 20 (.call 115 [(.t 17),(.t 19)]),o 21 (.un .not (.t 20))]) (.cnd (.t 21) (.seq (.reg [o 4 (.mov (.k (.bool false)))]) .ret) .skip)) (.seq (.reg [o 4 (.mov (.k (.bool true)))]) .ret)))))⟩
theorem ir_l_eqUnit:compFn Tryz.prog n_l_eqUnit=some F_l_eqUnit:=by kernel_rfl
theorem l_eqUnit_ret (σ:St) (cs ds:List GV) (x y:Unit_) (hx:kUnit_.R σ x cs) (hy:kUnit_.R σ y ds) (hl:msUnit x≤1099511627776):Ret Tryz.prog n_l_eqUnit [.agg cs,.agg ds] σ (.bool (decide (x=y))) σ:=by
 obtain⟨v1,v2,rfl,q1_,q2_⟩:=hx
 obtain⟨u1,u2,rfl,p1_,p2_⟩:=hy
 unfold msUnit at hl
 have a1:=q1_
 have a2:=q2_
 have b1:=p1_
 have b2:=p2_
 obtain⟨kv,rfl,_⟩:=q1_
 obtain⟨d0,d1,d2,d3,d4,d5,rfl,_⟩:=q2_
 obtain⟨ku,rfl,_⟩:=p1_
 obtain⟨e0,e1,e2,e3,e4,e5,rfl,_⟩:=p2_
 suffices key:Ret Tryz.prog n_l_eqUnit [.agg (.bool x.batch::[.int .i64 x.act.dot.rep,.int .i64 x.act.dot.seq,.int .i64 x.act.time,kv,.int .i64 x.act.kind,.str x.act.obj,.str x.act.key,.int .i64 x.act.val,.int .i64 x.act.ref.rep,.int .i64 x.act.ref.seq,d0,d1,d2,d3,d4,d5]),.agg (.bool y.batch::[.int .i64 y.act.dot.rep,.int .i64 y.act.dot.seq,.int .i64 y.act.time,ku,.int .i64 y.act.kind,.str y.act.obj,.str y.act.key,.int .i64 y.act.val,.int .i64 y.act.ref.rep,.int .i64 y.act.ref.seq,e0,e1,e2,e3,e4,e5])] σ (.bool (decide (x=y))) σ from key
 refine ret_eq ir_l_eqUnit (Nat.le_of_ble_eq_true rfl) trivial ?_
 simp +contextual (disch:=omega) only[go_sem,F_l_eqUnit,List.append_nil]
 refine⟨fun hn=> ?_,fun hn=> ?_⟩
 ·simp only[Unit_.eq_iff];simp at hn ⊢;simp[hn]
 have q0:x.batch=y.batch:=by simpa using hn
 refine by_ret (l_eqAct_ret _ _ _ x.act y.act (kAct.pre a1 pre2) (kAct.pre b1 pre2) (by omega)) ?_
 simp +contextual (disch:=omega) only[go_sem,List.append_nil]
 refine⟨fun hn=> ?_,fun hn=> ?_⟩
 ·simp only[Unit_.eq_iff];simp at hn ⊢;simp[hn]
 have q1:x.act=y.act:=by simpa using hn
 refine by_ret (l_eqDelta_ret _ _ _ x.delta y.delta (kDelta.pre a2 pre2) (kDelta.pre b2 pre2) (by omega)) ?_
 simp +contextual (disch:=omega) only[go_sem,List.append_nil]
 refine⟨fun hn=> ?_,fun hn=> ?_⟩
 ·simp only[Unit_.eq_iff];simp at hn ⊢;simp[hn]
 have q2:x.delta=y.delta:=by simpa using hn
 simp only[Unit_.eq_iff,q0,q1,q2,and_self,decide_true]
end Go.Proofs.YtffnefmklckngaaGreat.Sy
namespace Go.Proofs.YtffnefmklckngaaGreat.Sy
open Go Go.RowKit
set_option linter.unusedSimpArgs false
set_option linter.unusedVariables false
abbrev n_l_eqUnitS:Nat:=13
def F_l_eqUnitS:Fn1:=⟨27,[.t 4],(.seq (.reg [o 4 (.mov (.k (.bool false)))]) (.seq (.seq (.reg [o 6 (.mov (.t 0)),o 7 (.len false (.t 6)),o 8 (.mov (.t 1)),o 9 (.len false (.t 8)),o 10 (.bin .neq (.t 7) (.t 9))]) (.cnd (.t 10) (.seq (.reg [o 4 (.mov (.k (.bool false)))]) .ret) .skip)) (.seq (.seq (.reg [o 5 (.mov (.k (.int .i64 0)))]) (.blk 0 (.lop (.seq (.seq (.reg [o 11 (.mov (.t 5)),o 12 (.mov (.t 0)),o 13 (.len false (.t 12)),o 14 (.bin .lss (.t 11) (.t 13))]) (.cnd (.t 14) .skip (.ext 0))) (.seq (.blk 1 (.seq (.drw [o 17 (.mov (.t 0)),o 18 (.mov (.t 5)),o 19 (.iad 17 (.t 17) (.t 18)),o 20 (.ld true 17 (.t 19)),o 21 (.mov (.t 1)),o 22 (.mov (.t 5)),o 23 (.iad 17 (.t 21) (.t 22)),o 24 (.ld true 17 (.t 23))] [o 25 (.call 42 [(.t 20),(.t 24)]),o 26 (.un .not (.t 25))]) (.cnd (.t 26) (.seq (.reg [o 4 (.mov (.k (.bool false)))]) .ret) .skip))) (.reg [o 15 (.mov (.t 5)),o 16 (.bin .add (.t 15) (.k (.int .i64 1))),o 5 (.mov (.t 16))])))))) (.seq (.reg [o 4 (.mov (.k (.bool true)))]) .ret))))⟩
theorem ir_l_eqUnitS:compFn Tryz.prog n_l_eqUnitS=some F_l_eqUnitS:=by kernel_rfl
theorem l_eqUnitS_ret (σ:St) (v u:GV) (l m:List Unit_) (hv:RS kUnit_ σ v l) (hu:RS kUnit_ σ u m) (hl:(l.length+sumL msUnit l)≤1099511627776):Ret Tryz.prog n_l_eqUnitS [v,u] σ (.bool (decide (l=m))) σ:=by
 refine ret_eq ir_l_eqUnitS (Nat.le_of_ble_eq_true rfl) trivial ?_
 simp +contextual (disch:=omega) only[go_sem,F_l_eqUnitS,hv.len,hu.len]
 refine⟨fun hn=> ?_,fun hn=> ?_⟩
 ·have:l≠m:=fun h=>by subst h;simp at hn
  simp[this]
 have hlm:l.length=m.length:=by
                    have h2:(l.length:Int)=m.length:=by simpa using hn
                    omega
 refine vc_for l.length 5 (fun i env τ=>env 0=v∧env 1=u∧l.take i=m.take i∧σ <+: τ) rfl ⟨rfl,rfl,rfl,List.prefix_refl _⟩ ?_ ?_
 ·rintro i env τ hi e5 c0 ⟨e0,e1,he,hp⟩
  have hj:i<m.length:=by omega
  have h1:=hv.pre hp
  have h2:=hu.pre hp
  have hne:l[i]≠m[i]→l≠m:=fun h h'=>h (by subst h';rfl)
  have hst:l[i]=m[i]→l.take (i+1)=m.take (i+1):=fun h=>by rw[take_snoc hi,take_snoc hj,he,h]
  have hms:msUnit l[i]≤sumL msUnit l:=sumL_mem (List.getElem_mem hi)
  obtain⟨c,hc,hcr⟩:=unit_at' h1 hi
  obtain⟨d,hd,hdr⟩:=unit_at' h2 hj
  simp +contextual (disch:=omega) only[go_sem,c0,e0,e1,e5,hv.len,hu.len,hc,hd]
  refine by_ret (l_eqUnit_ret τ c d l[i] m[i] hcr hdr (by omega)) ?_
  simp +contextual (disch:=omega) only[go_sem,e0,e1,e5,hp]
  refine⟨fun h=> ?_,fun h=> ?_⟩
  ·simp[hne (by simpa using h)]
  ·simpa using hst (by simpa using h)
 ·rintro env τ e5 c0 ⟨e0,e1,he,hp⟩
  rw[List.take_length,hlm,List.take_length] at he
  simp +contextual (disch:=omega) only[go_sem,c0,e0,e1,e5,hv.len,hu.len,hp]
  simp[he]
end Go.Proofs.YtffnefmklckngaaGreat.Sy
namespace Go.Proofs.YtffnefmklckngaaGreat.Sy
open Go Go.RowKit
set_option linter.unusedSimpArgs false
set_option linter.unusedVariables false
theorem All3.cut {α β γ:Type} {R:α→β→γ→Prop}:∀ {x y:List α} {bs:List β} {cs:List γ},All3 R (x++y) bs cs→∃ b1 b2 c1 c2,bs=b1++b2∧cs=c1++c2∧All3 R x b1 c1∧All3 R y b2 c2
 |[],y,bs,cs,h=>⟨[],bs,[],cs,rfl,rfl,.nil,h⟩
 |a::x,y,_,_,.cons h t=>by
  obtain⟨b1,b2,c1,c2,rfl,rfl,h1,h2⟩:=All3.cut t
  exact⟨_::b1,b2,_::c1,c2,rfl,rfl,.cons h h1,h2⟩
theorem mid_perm (a b c:List Nat):(a++(b++c)).Perm (b++(a++c)):=by
 rw[← List.append_assoc,←List.append_assoc];exact List.Perm.append_right _ List.perm_append_comm
def holeP {α:Type} (d:Kd α) (v:GV) (l:List α) (j:Nat) (cs:List GV) (τ:St) (fp:List Nat):Prop:=
 ∃ g pre c1 c2 post f1 f2,v= .sl g pre.length l.length∧bk τ g=some (.row d.z (pre++(c1.flatten++(cs++c2.flatten))++post))∧cs.length=d.z∧All3 (d.O τ) (l.take j) c1 f1∧All3 (d.O τ) (l.drop (j+1)) c2 f2∧fp=g::(f1.flatten++f2.flatten)
def hole {α:Type} (d:Kd α) (v:GV) (l:List α) (j:Nat) (cs:List GV):Thg:=⟨holeP d v l j cs,fun {σ τ fp} h hf=>by
 obtain⟨g,pre,c1,c2,post,f1,f2,h1,h2,h3,h4,h5,rfl⟩:=h
 refine⟨g,pre,c1,c2,post,f1,f2,h1,by rw[hf g List.mem_cons_self];exact h2,h3,h4.imp fun a b c hc ho=>d.loc ho fun g' hg'=>hf g' ?_,h5.imp fun a b c hc ho=>d.loc ho fun g' hg'=>hf g' ?_,rfl⟩
 ·exact List.mem_cons_of_mem _ (List.mem_append_left _ (List.mem_flatten.2 ⟨c,hc,hg'⟩))
 ·exact List.mem_cons_of_mem _ (List.mem_append_right _ (List.mem_flatten.2 ⟨c,hc,hg'⟩))⟩
section
variable {σ τ:St} {rs:List Thg} {α:Type} {d:Kd α} {v:GV} {l:List α} {cs:List GV} {j:Nat}
theorem Hp.zoom (H:Hp σ τ (ow d v l::rs)) (hj:j<l.length):∃ cs,Hp σ τ (own d cs l[j]::hole d v l j cs::rs):=by
 obtain⟨h,_,⟨a,b,hr,hs,rfl⟩,hn,hb⟩:=H
 rcases hr with⟨rfl,_,_⟩|⟨g,pre,css,post,fps,hv,hB,hA,rfl⟩
 ·simp at hj
 have el:l=l.take j++(l[j]::l.drop (j+1)):=by rw[List.getElem_cons_drop,List.take_append_drop]
 have hA':All3 (d.O τ) (l.take j++(l[j]::l.drop (j+1))) css fps:=by rw[← el];exact hA
 obtain⟨c1,c2',f1,f2',rfl,rfl,h1,h2⟩:=All3.cut hA'
 cases h2 with
 | @cons _ cs fx _ c2 f2 hx h2=>
  have hp:(g::(f1++fx::f2).flatten++b).Perm (fx++((g::(f1.flatten++f2.flatten))++b)):=by
   have e:g::(f1++fx::f2).flatten++b=(g::f1.flatten)++(fx++(f2.flatten++b)):=by simp
   have e2:fx++((g::(f1.flatten++f2.flatten))++b)=fx++((g::f1.flatten)++(f2.flatten++b)):=by simp
   rw[e,e2];exact mid_perm _ _ _
  refine⟨cs,h,_,⟨fx,_,hx,⟨_,b,⟨g,pre,c1,c2,post,f1,f2,hv,?_,d.len (d.rd hx),h1,h2,rfl⟩,hs,rfl⟩,rfl⟩,hp.nodup_iff.1 hn,fun g' hg'=>hb g' (hp.mem_iff.2 hg')⟩
  rw[hB];simp
theorem Hp.unzoom {y:α} (H:Hp σ τ (own d cs y::hole d v l j cs::rs)) (hj:j<l.length):Hp σ τ (ow d v (l.set j y)::rs):=by
 obtain⟨h,_,⟨fx,_,hx,⟨_,b,⟨g,pre,c1,c2,post,f1,f2,hv,hB,hl,h1,h2,rfl⟩,hs,rfl⟩,rfl⟩,hn,hb⟩:=H
 have hp:(g::(f1++fx::f2).flatten++b).Perm (fx++((g::(f1.flatten++f2.flatten))++b)):=by
  have e:g::(f1++fx::f2).flatten++b=(g::f1.flatten)++(fx++(f2.flatten++b)):=by simp
  have e2:fx++((g::(f1.flatten++f2.flatten))++b)=fx++((g::f1.flatten)++(f2.flatten++b)):=by simp
  rw[e,e2];exact mid_perm _ _ _
 have el:l.set j y=l.take j++(y::l.drop (j+1)):=List.set_eq_take_append_cons_drop.trans (if_pos hj)
 refine⟨h,_,⟨_,b,.inr ⟨g,pre,c1++cs::c2,post,f1++fx::f2,by rw[List.length_set];exact hv,?_,?_,rfl⟩,hs,rfl⟩,hp.nodup_iff.2 hn,fun g' hg'=>hb g' (hp.mem_iff.1 hg')⟩
 ·rw[hB];simp
 ·rw[el]
  exact h1.append (.cons hx h2)
theorem hole_at {fp:List Nat} (h:(hole d v l j cs).P τ fp) (hj:j<l.length):∃ g off,g∈fp∧v= .sl g off l.length∧atz d.z v j= .ptr g (off+j*d.z)∧∃ A B,off+j*d.z=A.length∧cs.length=d.z∧bk τ g=some (.row d.z (A++cs++B))∧∀(τ':St) (cs':List GV),cs'.length=d.z→bk τ' g=some (.row d.z (A++cs'++B))→(∀ g'∈fp,g'≠g→bk τ' g'=bk τ g')→fp.Nodup→(hole d v l j cs').P τ' fp:=by
 obtain⟨g,pre,c1,c2,post,f1,f2,rfl,h2,h3,h4,h5,rfl⟩:=h
 have hc:c1.flatten.length=j*d.z:=by rw[flat_len h4,List.length_take,Nat.min_eq_left (by omega)]
 refine⟨g,pre.length,List.mem_cons_self,rfl,rfl,pre++c1.flatten,c2.flatten++post,by rw[List.length_append,hc],h3,by rw[h2];simp,fun τ' cs' hl hB hk hn=> ?_⟩
 rw[List.nodup_cons] at hn
 refine⟨g,pre,c1,c2,post,f1,f2,rfl,by rw[hB];simp,hl,h4.imp fun a b c hc ho=>d.loc ho fun g' hg'=> ?_,h5.imp fun a b c hc ho=>d.loc ho fun g' hg'=> ?_,rfl⟩
 ·have hm:g'∈f1.flatten++f2.flatten:=List.mem_append_left _ (List.mem_flatten.2 ⟨c,hc,hg'⟩)
  exact hk g' (List.mem_cons_of_mem _ hm) fun e=>hn.1 (e ▸ hm)
 ·have hm:g'∈f1.flatten++f2.flatten:=List.mem_append_right _ (List.mem_flatten.2 ⟨c,hc,hg'⟩)
  exact hk g' (List.mem_cons_of_mem _ hm) fun e=>hn.1 (e ▸ hm)
end
section
variable {P:Program} {σ τ:St} {h:List Item} {K:Kx} {v:GV} {α:Type} {l:List α} {d:Kd α} {cs:List GV} {j:Nat}
theorem Hx.hole_rd (H:Hx σ τ h) (i:Nat) (hi:h[i]? =some (.th (hole d v l j cs))) (hj:j<l.length):iadG d.z v (some j)=some (atz d.z v j)∧(∀ k,fadG k (atz d.z v j)=some (fld k (atz d.z v j)))∧(∀ k m,fadG k (fld m (atz d.z v j))=some (fld (m+k) (atz d.z v j)))∧(∀ k n a,k+n≤d.z→ldG a n τ (fld k (atz d.z v j))=(seg cs k n).bind (mkv a)):=by
 obtain⟨fp,hP,_⟩:=(H.hp.pick i (at_t hi)).turn
 obtain⟨g,off,hg,rfl,e,A,B,h1,h2,h3,_⟩:=hole_at hP hj
 rw[e]
 have hi':iadG d.z (.sl g off l.length) (some j)=some (.ptr g (off+j*d.z)):=by simp only[iadG];rw[if_pos hj]
 refine⟨hi',fun k=>rfl,fun k m=>by simp only[fld,fadG];rw[Nat.add_assoc],fun k n a hk=> ?_⟩
 simp only[fld,ldG]
 have hr:rdB τ g=some (A++cs++B):=by unfold rdB;rw[bk_some.1 h3];rfl
 rw[hr,Option.bind_some,h1]
 congr 1
 unfold seg
 rw[if_pos (by simp only[List.length_append];omega),if_pos (by omega)]
 congr 1
 rw[List.append_assoc,←List.drop_drop,List.drop_left,List.drop_append_of_le_length (by omega),List.take_append_of_le_length (by rw[List.length_drop];omega)]
theorem by_sth (H:Hx σ τ h) (i:Nat) (hi:h[i]? =some (.th (hole d v l j cs))) (hj:j<l.length) {k n:Nat} {x:GV} (hx:x.cells.length=n) (hn:0<n) (hk:k+n≤d.z)
  (kk:∀ τ',Hx σ τ' (h.set i (.th (hole d v l j (splice cs k x.cells))))→K (.tup []) (h.set i (.th (hole d v l j (splice cs k x.cells)))) τ'):stX σ false h τ n K (fld k (atz d.z v j)) x:=by
 obtain⟨fp,hP,hnd,hbd,ht⟩:=(H.hp.pick i (at_t hi)).turn
 obtain⟨g,off,hg,rfl,e,A,B,h1,h2,h3,h4⟩:=hole_at hP hj
 have hgt:=(hbd g hg).2
 have hsl:(splice cs k x.cells).length=d.z:=by unfold splice;simp only[List.length_append,List.length_take,List.length_drop];omega
 have es:splice (A++cs++B) (A.length+k) x.cells=A++splice cs k x.cells++B:=splice_mid (by omega)
 have e2:stG n τ (.ptr g (off+j*d.z+k)) x=some (.tup [],τ.set g (some (.row d.z (A++splice cs k x.cells++B)))):=by
  simp only[stG,bk_some.1 h3]
  rw[if_pos ⟨by simp only[List.length_append];omega,hn,hx⟩,h1,es]
 have hP':(hole d (.sl g off l.length) l j (splice cs k x.cells)).P (τ.set g (some (.row d.z (A++splice cs k x.cells++B)))) fp:=
  h4 _ _ hsl (bk_some.2 (by rw[List.getElem?_set_self hgt])) (fun g' hg' hne=>bk_set_ne (Ne.symm hne)) hnd
 have H':=Hp.unpick (ht (r':=hole d (.sl g off l.length) l j (splice cs k x.cells)) (τ':=τ.set g (some (.row d.z (A++splice cs k x.cells++B)))) ⟨hnd,fun g' hg'=>.inl hg',by simp,fun g' hg' hne=>bk_set_ne fun e=>hne (e ▸ hg)⟩ hP') (List.getElem?_eq_some_iff.1 (at_t hi)).1
 rw[← set_t] at H'
 rw[e]
 have hno:look h g=none:=no_box H hi fun fp'' ho'=>by
  obtain⟨g',pre,c1,c2,post,f1,f2,e',_,_,_,_,rfl⟩:=ho'
  injection e' with e1;rw[e1];exact List.mem_cons_self
 show stB σ false h τ n K g (off+j*d.z+k) x (look h g)
 rw[hno]
 exact⟨_,_,_,e2,(fun h=>by cases h),H',kk _ H'⟩
end
end Go.Proofs.YtffnefmklckngaaGreat.Sy
namespace Go.Proofs.YtffnefmklckngaaGreat.Sy
open Go Go.RowKit
set_option linter.unusedSimpArgs false
set_option linter.unusedVariables false
def mInt (k:Int):Int:=k
def mString (k:Int):ByteArray:=mtx k
def mDot (k:Int):Dot:=⟨k,k+1⟩
def mTally (k:Int):Tally:=⟨mtx (k),k+1,k+1+1⟩
def mLive (k:Int):Live:=⟨((k).tmod 3==0),mtx (k+1),mtx (k+1+1),k+1+1+1,⟨k+1+1+1+1,k+1+1+1+1+1⟩⟩
def mCell (k:Int):Cell:=⟨mtx (k),⟨k+1,k+1+1⟩,k+1+1+1,⟨k+1+1+1+1,k+1+1+1+1+1⟩,k+1+1+1+1+1+1,((k+1+1+1+1+1+1+1).tmod 3==0)⟩
def mEdit (k:Int):Edit:=⟨k,mtx (k+1),mtx (k+1+1),k+1+1+1,k+1+1+1+1⟩
def mWatch (k:Int):Watch:=⟨k,mtx (k+1),mtx (k+1+1)⟩
def mClash (k:Int):Clash:=⟨mtx (k),mtx (k+1)⟩
def mFile (k:Int):File:=⟨mtx (k),k+1⟩
def mLetter (k:Int):Letter:=⟨k,mtx (k+1)⟩
def mEvent (k:Int):Event:=⟨k,k+1,k+1+1,⟨k+1+1+1,mtx (k+1+1+1+1),mtx (k+1+1+1+1+1),k+1+1+1+1+1+1,k+1+1+1+1+1+1+1⟩⟩
end Go.Proofs.YtffnefmklckngaaGreat.Sy
namespace Go.Proofs.YtffnefmklckngaaGreat.Sy
open Go Go.RowKit
set_option linter.unusedSimpArgs false
set_option linter.unusedVariables false
abbrev n_l_markIntS:Nat:=43
def F_l_markIntS:Fn1:=⟨19,[.t 4],(.seq (.reg [o 4 (.mov (.k (.int .i64 0)))]) (.seq (.seq (.reg [o 5 (.mov (.k (.int .i64 0)))]) (.blk 0 (.lop (.seq (.seq (.reg [o 6 (.mov (.t 5)),o 7 (.mov (.t 0)),o 8 (.len false (.t 7)),o 9 (.bin .lss (.t 6) (.t 8))]) (.cnd (.t 9) .skip (.ext 0))) (.seq (.blk 1 (.seq (.reg [o 12 (.mov (.t 0)),o 13 (.mov (.t 5)),o 14 (.mov (.t 1)),o 15 (.iad 1 (.t 12) (.t 13)),on (.st 1 (.t 15) (.t 14))]) (.reg [o 16 (.mov (.t 1)),o 17 (.bin .add (.t 16) (.k (.int .i64 1))),o 1 (.mov (.t 17))]))) (.reg [o 10 (.mov (.t 5)),o 11 (.bin .add (.t 10) (.k (.int .i64 1))),o 5 (.mov (.t 11))])))))) (.seq (.reg [o 18 (.mov (.t 1)),o 4 (.mov (.t 18))]) .ret)))⟩
theorem ir_l_markIntS:compFn Tryz.prog n_l_markIntS=some F_l_markIntS:=by kernel_rfl
theorem l_markIntS_ret {σ τ:St} {rs:List Thg} (i0:Nat) (v:GV) (l:List Int) (k:Int) (H:Hp σ τ rs) (hi0:rs[i0]? =some (ow pI.kd v l)) (h0:0≤k) (hk:k+1*l.length≤4611686018427387904):∃ τ',Ret Tryz.prog n_l_markIntS [v,gi k] τ (gi (k+1*l.length)) τ'∧Hp σ τ' (rs.set i0 (ow pI.kd v (mkF mInt 1 k l.length))):=by
 have H:=H.pick i0 hi0
 have hlt:=(List.getElem?_eq_some_iff.1 hi0).1
 obtain⟨r,τ',hR,rfl,H'⟩:=ret_mut (P:=Tryz.prog) (σ:=τ) (args:=[v,gi k]) (Post:=fun r τ'=>r=gi (k+1*l.length)∧Hp σ τ' (ow pI.kd v (mkF mInt 1 k l.length)::rs.eraseIdx i0)) ir_l_markIntS (Nat.le_of_ble_eq_true rfl) (by
  simp +contextual (disch:=omega) only[go_sem,F_l_markIntS]
  refine vc_for l.length 5 (fun i env τ'=>env 0=v∧env 1=gi (k+1*(i:Int))∧τ.length≤τ'.length∧Hp σ τ' (ow pI.kd v ((mkF mInt 1 k l.length).take i++l.drop i)::rs.eraseIdx i0)) rfl ⟨rfl,(by show gi k=gi (k+1*0);simp),Nat.le_refl _,by simpa using H⟩ ?_ ?_
  ·rintro i env τ' hi e5 c0 ⟨e0,e1,hle,H⟩
   have hL:=mark_len (l:=l) (e:=mInt) (c:=1) (k:=k) (i:=i)
   have hst:=mark_step (e:=mInt) (c:=1) (k:=k) hi
   generalize(mkF mInt 1 k l.length).take i++l.drop i=L at H hL hst
   have hj:i<L.length:=by omega
   have h1:=H.sl 0 rfl
   have hln:=h1.len
   rw[hL] at hln
   have hat:=int_at h1 hj
   simp +contextual (disch:=omega) only[go_sem,c0,e0,e1,e5,hln,hat]
   obtain⟨τ2,es,H2⟩:=H.stw 0 rfl hj 1 (.int .i64 (k+1*(i:Int))) (mInt (k+1*(i:Int))) rfl rfl (by decide)
   have es:stG 1 τ' (atz 1 v i) (.int .i64 (k+1*(i:Int)))=some (.tup [],τ2):=es
   have hlen:=stG_len es
   have H2:Hp σ τ2 (ow pI.kd v (L.set i (mInt (k+(1:Nat)*(i:Int))))::rs.eraseIdx i0):=H2
   rw[hst] at H2
   simp +contextual (disch:=omega) only[go_sem,c0,e0,e1,e5,hln,hat,es]
   exact⟨by omega,by omega,H2⟩
  ·rintro env τ' e5 c0 ⟨e0,e1,hle,H⟩
   rw[mark_end] at H
   have hln:=(H.sl 0 rfl).len
   rw[mkF_length] at hln
   simp +contextual (disch:=omega) only[go_sem,c0,e0,e1,e5,hln]
   exact⟨_,rfl,hle,rfl,H⟩)
 exact⟨τ',hR,H'.unpick hlt⟩
end Go.Proofs.YtffnefmklckngaaGreat.Sy
namespace Go.Proofs.YtffnefmklckngaaGreat.Sy
open Go Go.RowKit
set_option linter.unusedSimpArgs false
set_option linter.unusedVariables false
set_option maxRecDepth 4000
abbrev n_l_markActS:Nat:=15
def F_l_markActS:Fn1:=⟨89,[.t 4],(.seq (.reg [o 4 (.mov (.k (.int .i64 0)))]) (.seq (.seq (.reg [o 5 (.mov (.k (.int .i64 0)))]) (.blk 0 (.lop (.seq (.seq (.reg [o 6 (.mov (.t 5)),o 7 (.mov (.t 0)),o 8 (.len false (.t 7)),o 9 (.bin .lss (.t 6) (.t 8))]) (.cnd (.t 9) .skip (.ext 0))) (.seq (.blk 1 (.seq (.reg [o 12 (.mov (.t 0)),o 13 (.mov (.t 5)),o 14 (.mov (.t 1)),o 15 (.iad 10 (.t 12) (.t 13)),o 16 (.fad 0 (.t 15)),o 17 (.fad 0 (.t 16)),on (.st 1 (.t 17) (.t 14))]) (.seq (.reg [o 18 (.mov (.t 1)),o 19 (.bin .add (.t 18) (.k (.int .i64 1))),o 1 (.mov (.t 19))]) (.seq (.reg [o 20 (.mov (.t 0)),o 21 (.mov (.t 5)),o 22 (.mov (.t 1)),o 23 (.iad 10 (.t 20) (.t 21)),o 24 (.fad 0 (.t 23)),o 25 (.fad 1 (.t 24)),on (.st 1 (.t 25) (.t 22))]) (.seq (.reg [o 26 (.mov (.t 1)),o 27 (.bin .add (.t 26) (.k (.int .i64 1))),o 1 (.mov (.t 27))]) (.seq (.reg [o 28 (.mov (.t 0)),o 29 (.mov (.t 5)),o 30 (.mov (.t 1)),o 31 (.iad 10 (.t 28) (.t 29)),o 32 (.fad 2 (.t 31)),on (.st 1 (.t 32) (.t 30))]) (.seq (.reg [o 33 (.mov (.t 1)),o 34 (.bin .add (.t 33) (.k (.int .i64 1))),o 1 (.mov (.t 34))]) (.seq (.reg [o 35 (.mov (.t 0)),o 36 (.mov (.t 5)),o 37 (.iad 10 (.t 35) (.t 36)),o 38 (.fad 3 (.t 37)),o 39 (.ld false 1 (.t 38)),o 40 (.mov (.t 1)),o 41 (.call 43 [(.t 39),(.t 40)]),o 1 (.mov (.t 41))]) (.seq (.reg [o 42 (.mov (.t 0)),o 43 (.mov (.t 5)),o 44 (.mov (.t 1)),o 45 (.iad 10 (.t 42) (.t 43)),o 46 (.fad 4 (.t 45)),on (.st 1 (.t 46) (.t 44))]) (.seq (.reg [o 47 (.mov (.t 1)),o 48 (.bin .add (.t 47) (.k (.int .i64 1))),o 1 (.mov (.t 48))]) (.seq (.reg [o 49 (.mov (.t 0)),o 50 (.mov (.t 5)),o 51 (.mov (.t 1)),o 52 (.call 44 [(.t 51)]),o 53 (.iad 10 (.t 49) (.t 50)),o 54 (.fad 5 (.t 53)),on (.st 1 (.t 54) (.t 52))]) (.seq (.reg [o 55 (.mov (.t 1)),o 56 (.bin .add (.t 55) (.k (.int .i64 1))),o 1 (.mov (.t 56))]) (.seq (.reg [o 57 (.mov (.t 0)),o 58 (.mov (.t 5)),o 59 (.mov (.t 1)),o 60 (.call 44 [(.t 59)]),o 61 (.iad 10 (.t 57) (.t 58)),o 62 (.fad 6 (.t 61)),on (.st 1 (.t 62) (.t 60))]) (.seq (.reg [o 63 (.mov (.t 1)),o 64 (.bin .add (.t 63) (.k (.int .i64 1))),o 1 (.mov (.t 64))]) (.seq (.reg [o 65 (.mov (.t 0)),o 66 (.mov (.t 5)),o 67 (.mov (.t 1)),o 68 (.iad 10 (.t 65) (.t 66)),o 69 (.fad 7 (.t 68)),on (.st 1 (.t 69) (.t 67))]) (.seq (.reg [o 70 (.mov (.t 1)),o 71 (.bin .add (.t 70) (.k (.int .i64 1))),o 1 (.mov (.t 71))]) (.seq (.reg [o 72 (.mov (.t 0)),o 73 (.mov (.t 5)),o 74 (.mov (.t 1)),o 75 (.iad 10 (.t 72) (.t 73)),o 76 (.fad 8 (.t 75)),o 77 (.fad 0 (.t 76)),on (.st 1 (.t 77) (.t 74))]) (.seq (.reg [o 78 (.mov (.t 1)),o 79 (.bin .add (.t 78) (.k (.int .i64 1))),o 1 (.mov (.t 79))]) (.seq (.reg [o 80 (.mov (.t 0)),o 81 (.mov (.t 5)),o 82 (.mov (.t 1)),o 83 (.iad 10 (.t 80) (.t 81)),o 84 (.fad 8 (.t 83)),o 85 (.fad 1 (.t 84)),on (.st 1 (.t 85) (.t 82))]) (.reg [o 86 (.mov (.t 1)),o 87 (.bin .add (.t 86) (.k (.int .i64 1))),o 1 (.mov (.t 87))])))))))))))))))))))) (.reg [o 10 (.mov (.t 5)),o 11 (.bin .add (.t 10) (.k (.int .i64 1))),o 5 (.mov (.t 11))])))))) (.seq (.reg [o 88 (.mov (.t 1)),o 4 (.mov (.t 88))]) .ret)))⟩
theorem ir_l_markActS:compFn Tryz.prog n_l_markActS=some F_l_markActS:=by kernel_rfl
section
variable {α:Type} {f:Int→α→α} {c:α→Nat}
def mkRow (f:Int→α→α) (c:α→Nat):Int→List α→List α
 |_,[]=>[]
 |k,x::l=>f k x::mkRow f c (k+c x) l
theorem mkRow_len:∀ {l:List α} {k:Int},(mkRow f c k l).length=l.length
 |[],_=>rfl
 |x::l,k=>by rw[mkRow,List.length_cons,List.length_cons,mkRow_len]
theorem mkRow_app:∀ {a b:List α} {k:Int},mkRow f c k (a++b)=mkRow f c k a++mkRow f c (k+(sumL c a:Nat)) b
 |[],b,k=>by simp[mkRow,sumL]
 |x::a,b,k=>by
  rw[List.cons_append,mkRow,mkRow,mkRow_app,List.cons_append]
  have:sumL c (x::a)=c x+sumL c a:=by simp[sumL]
  rw[this,show k+(c x:Int)+(sumL c a:Nat)=k+((c x+sumL c a:Nat):Int) by omega]
theorem mkRow_snoc {l:List α} {i:Nat} {k:Int} (hi:i<l.length):mkRow f c k (l.take (i+1))=mkRow f c k (l.take i)++[f (k+(sumL c (l.take i):Nat)) l[i]]:=by
 rw[take_snoc hi,mkRow_app];rfl
theorem mkRow_set {l:List α} {i:Nat} {k:Int} (hi:i<l.length) {y:α} (hy:y=f (k+(sumL c (l.take i):Nat)) l[i]):(mkRow f c k (l.take i)++l.drop i).set i y=mkRow f c k (l.take (i+1))++l.drop (i+1):=by
 have hl:(mkRow f c k (l.take i)).length=i:=by rw[mkRow_len,List.length_take,Nat.min_eq_left (by omega)]
 rw[mkRow_snoc hi,List.set_append_right _ _ (by omega),hl,Nat.sub_self,←List.getElem_cons_drop hi,List.set_cons_zero,hy,List.append_assoc];rfl
theorem mkRow_at {l:List α} {i:Nat} {k:Int} (hi:i<l.length):∃ h,(mkRow f c k (l.take i)++l.drop i)[i]'h=l[i]:=by
 have hl:(mkRow f c k (l.take i)).length=i:=by rw[mkRow_len,List.length_take,Nat.min_eq_left (by omega)]
 refine⟨by rw[List.length_append,hl,List.length_drop];omega,?_⟩
 rw[List.getElem_append_right (by omega)]
 simp[hl]
theorem mkRow_full {l:List α} {k:Int}:mkRow f c k (l.take l.length)++l.drop l.length=mkRow f c k l:=by
 rw[List.take_length,List.drop_length,List.append_nil]
theorem len_sumL (hc:∀ x,1≤c x):∀ l:List α,l.length≤sumL c l
 |[]=>by simp
 |x::l=>by
  have:=hc x
  have h:=len_sumL hc l
  have:sumL c (x::l)=c x+sumL c l:=by simp[sumL]
  rw[List.length_cons];omega
end
def ctE (x:Act):Nat:=9+x.knew.length
def kE (k:Int) (x:Act):Int:=k+1+1+1+1*(x.knew.length:Int)
def mActE (k:Int) (x:Act):Act:=⟨⟨k,k+1⟩,k+1+1,mkF mInt 1 (k+1+1+1) x.knew.length,kE k x,mtx (kE k x+1),mtx (kE k x+1+1),kE k x+1+1+1,⟨kE k x+1+1+1+1,kE k x+1+1+1+1+1⟩⟩
def zmA (v:GV) (l L:List Act) (i:Nat) (R h:List Item):Prop:=(∃ hi:i<l.length,∃ kv,h= .th (ow pI.kd kv l[i].knew)::.th (hole kAct v L i (actV l[i] kv))::R)∨(i=l.length∧h= .th (ow kAct v L)::R)
theorem zmA_of {σ τ:St} {v:GV} {l L:List Act} {i:Nat} {R:List Item} (H:Hx σ τ (.th (ow kAct v L)::R)) (hle:i≤l.length) (hat:∀ hi:i<l.length,∃ h,L[i]'h=l[i]):∃ h,Hx σ τ h∧zmA v l L i R h:=by
 by_cases hi:i<l.length
 ·obtain⟨hj,e⟩:=hat hi
  obtain⟨cs,Z⟩:=Hp.zoom H.hp hj
  rw[e] at Z
  obtain⟨kv,rfl,Z⟩:=Z.splitAct
  exact⟨.th (ow pI.kd kv l[i].knew)::.th (hole kAct v L i (actV l[i] kv))::R,Z,.inl ⟨hi,kv,rfl⟩⟩
 ·exact⟨_,H,.inr ⟨by omega,rfl⟩⟩
set_option maxHeartbeats 2000000 in
theorem l_markActS_ret {σ τ:St} {rs:List Thg} (i0:Nat) (v:GV) (l:List Act) (k:Int) (H:Hp σ τ rs) (hi0:rs[i0]? =some (ow kAct v l)) (h0:0≤k) (hk:k+(sumL ctE l:Nat)≤4611686018427387904):∃ τ',Ret Tryz.prog n_l_markActS [v,gi k] τ (gi (k+(sumL ctE l:Nat))) τ'∧Hp σ τ' (rs.set i0 (ow kAct v (mkRow mActE ctE k l))):=by
 have hlt:=(List.getElem?_eq_some_iff.1 hi0).1
 obtain⟨R,hR⟩:∃ R:List Item,R=(rs.eraseIdx i0).map Item.th:=⟨_,rfl⟩
 have H1:Hx σ τ (.th (ow kAct v l)::R):=by rw[hR];exact Hx.of (H.pick i0 hi0)
 have key:∃ w τ',Ret Tryz.prog n_l_markActS [v,gi k] τ w τ'∧(w=gi (k+(sumL ctE l:Nat))∧Hx σ τ' (.th (ow kAct v (mkRow mActE ctE k l))::R)):=by
  refine ret_x ir_l_markActS (Nat.le_of_ble_eq_true rfl) H1 ?_
  have hlen:=(H1.hp.sl 0 rfl).len
  simp +contextual (disch:=omega) only[go_sem,F_l_markActS]
  obtain⟨hz,HZ,Z0⟩:=zmA_of (l:=l) (i:=0) H1 (by omega) (fun hi=>⟨hi,rfl⟩)
  refine sx_for l.length 5 0 (fun i env h=>env 0=v∧env 1=gi (k+(sumL ctE (l.take i):Nat))∧zmA v l (mkRow mActE ctE k (l.take i)++l.drop i) i R h) (fun env h=>env 1=gi (k+(sumL ctE l:Nat))∧h= .th (ow kAct v (mkRow mActE ctE k l))::R) (fun _ _=>False) hz HZ (by simp +contextual (disch:=omega) only[go_sem]) ⟨by simp +contextual (disch:=omega) only[go_sem],by simp +contextual (disch:=omega) only[go_sem];simp[sumL],Z0⟩ ?_ ?_ ?_ (fun _ _ _ _ h=>h.elim)
  ·clear H1 HZ Z0 H hi0
   rintro J Y W hJ hY hW i env h' τ hi ei c0 H ⟨e0,e1,hz⟩
   rcases hz with⟨_,kv,rfl⟩|⟨hz,_⟩
   rotate_left
   ·omega
   obtain⟨q,hq⟩:∃ q,q=k+(sumL ctE (l.take i):Nat):=⟨_,rfl⟩
   have hs:=sumL_snoc (f:=ctE) hi
   have hst:=sumL_take_le ctE l (i+1)
   have hce:ctE l[i]=9+l[i].knew.length:=rfl
   have hqb:0≤q∧q+9+(l[i].knew.length:Int)≤4611686018427387904:=by omega
   rw[← hq] at e1
   obtain⟨hj,eL⟩:=mkRow_at (f:=mActE) (c:=ctE) (k:=k) hi
   generalize hLL:mkRow mActE ctE k (l.take i)++l.drop i=L at*
   obtain⟨z1,z2,z3,_⟩:=H.hole_rd 1 rfl hj
   have z1:iadG 10 v (some i)=some (atz 10 v i):=z1
   have z2:∀ k,fadG k (atz 10 v i)=some (fld k (atz 10 v i)):=z2
   have z3:∀ k m,fadG k (fld m (atz 10 v i))=some (fld (m+k) (atz 10 v i)):=z3
   have hln:=len_sumL (c:=ctE) (fun x=>by unfold ctE;omega) l
   have hib:l.length≤4611686018427387904:=by omega
   have hq':q+9+(l[i].knew.length:Int)=k+(sumL ctE (l.take (i+1)):Nat):=by omega
   clear hs hst hce hk hln
   simp +contextual (disch:=omega) only[go_sem,c0,e0,e1,ei,natOf_nat,hlen,z1,z2,z3]
   refine by_sth H 1 rfl hj (d:=kAct) (k:=0) rfl (by decide) (by decide) fun τ1 H1=> ?_
   simp +contextual (disch:=omega) only[go_sem,e0,e1,ei,natOf_nat,z1,z2,z3]
   refine by_sth H1 1 rfl hj (d:=kAct) (k:=1) rfl (by decide) (by decide) fun τ2 H2=> ?_
   simp +contextual (disch:=omega) only[go_sem,e0,e1,ei,natOf_nat,z1,z2,z3]
   refine by_sth H2 1 rfl hj (d:=kAct) (k:=2) rfl (by decide) (by decide) fun τ3 H3=> ?_
   have H3:Hx σ τ3 (.th (ow pI.kd kv l[i].knew)::.th (hole kAct v L i [gi q,gi (q+1),gi (q+1+1),kv,gi l[i].kind,.str l[i].obj,.str l[i].key,gi l[i].val,gi l[i].ref.rep,gi l[i].ref.seq])::R):=H3
   have z4:ldX σ _ τ3 false 1 (fld 3 (atz 10 v i))=some kv:=ldX_own H3 ((H3.hole_rd 1 rfl hj).2.2.2 3 1 false (by decide))
   simp +contextual (disch:=omega) only[go_sem,e0,e1,ei,natOf_nat,z1,z2,z3,z4]
   obtain⟨τ4,R4,K4⟩:=l_markIntS_ret 0 kv l[i].knew (q+1+1+1) H3.hp rfl (by omega) (by omega)
   refine by_mset 0 R4 K4 fun H4=> ?_
   obtain⟨p,hp⟩:∃ p,p=q+1+1+1+1*(l[i].knew.length:Int):=⟨_,rfl⟩
   have hpb:0≤p∧p+6≤4611686018427387904:=by omega
   simp +contextual (disch:=omega) only[go_sem,e0,e1,ei,natOf_nat,z1,z2,z3,←hp]
   refine by_sth H4 1 rfl hj (d:=kAct) (k:=4) rfl (by decide) (by decide) fun τ5 H5=> ?_
   simp +contextual (disch:=omega) only[go_sem,e0,e1,ei,natOf_nat,z1,z2,z3]
   refine by_r H5 (l_markText_ret _ _ (by omega)) ?_
   simp +contextual (disch:=omega) only[go_sem,e0,e1,ei,natOf_nat,z1,z2,z3]
   refine by_sth H5 1 rfl hj (d:=kAct) (k:=5) rfl (by decide) (by decide) fun τ6 H6=> ?_
   simp +contextual (disch:=omega) only[go_sem,e0,e1,ei,natOf_nat,z1,z2,z3]
   refine by_r H6 (l_markText_ret _ _ (by omega)) ?_
   simp +contextual (disch:=omega) only[go_sem,e0,e1,ei,natOf_nat,z1,z2,z3]
   refine by_sth H6 1 rfl hj (d:=kAct) (k:=6) rfl (by decide) (by decide) fun τ7 H7=> ?_
   simp +contextual (disch:=omega) only[go_sem,e0,e1,ei,natOf_nat,z1,z2,z3]
   refine by_sth H7 1 rfl hj (d:=kAct) (k:=7) rfl (by decide) (by decide) fun τ8 H8=> ?_
   simp +contextual (disch:=omega) only[go_sem,e0,e1,ei,natOf_nat,z1,z2,z3]
   refine by_sth H8 1 rfl hj (d:=kAct) (k:=8) rfl (by decide) (by decide) fun τ9 H9=> ?_
   simp +contextual (disch:=omega) only[go_sem,e0,e1,ei,natOf_nat,z1,z2,z3]
   refine by_sth H9 1 rfl hj (d:=kAct) (k:=9) rfl (by decide) (by decide) fun τ10 H10=> ?_
   simp +contextual (disch:=omega) only[go_sem,e0,e1,ei,natOf_nat,z1,z2,z3]
   have e:mActE (k+(sumL ctE (l.take i):Nat)) l[i]=mActE q l[i]:=by rw[hq]
   have HO:Hx σ τ10 (.th (ow kAct v (L.set i (mActE q l[i])))::R):=Hp.unzoom (y:=mActE q l[i]) (Hp.ownAct (x:=mActE q l[i]) (by simp only[mActE,kE,←hp];exact H10)) hj
   obtain⟨hz,HZ,Z0⟩:=zmA_of (l:=l) (L:=L.set i (mActE q l[i])) (i:=i+1) HO (by omega) (fun h2=>by
    rw[← hLL,mkRow_set (y:=mActE q l[i]) hi (by rw[hq])]
    exact mkRow_at h2)
   refine hJ _ _ _ _ HZ ⟨by simp +contextual (disch:=omega) only[go_sem,e0],by simp +contextual (disch:=omega) only[go_sem];first|omega|(congr 1;omega),?_⟩
   rw[← mkRow_set (y:=mActE q l[i]) hi (by rw[hq]),hLL];exact Z0
  ·clear H1 HZ Z0 H hi0
   rintro Y hY env h' τ ei c0 H ⟨e0,e1,hz⟩
   rcases hz with⟨hi,_⟩|⟨_,rfl⟩
   ·omega
   simp +contextual (disch:=omega) only[go_sem,c0,e0,ei,hlen]
   exact hY _ _ _ H ⟨by simp +contextual (disch:=omega) only[go_sem,e1,List.take_length],by rw[mkRow_full]⟩
  ·rintro env h' τ H ⟨e1,rfl⟩
   simp +contextual (disch:=omega) only[go_sem,e1]
   exact fun _=>⟨_,rfl,rfl⟩
 obtain⟨w,τ',R',rfl,h⟩:=key
 refine⟨τ',R',?_⟩
 rw[hR] at h
 have h:=h.hp
 rw[List.map_cons,show((rs.eraseIdx i0).map Item.th).map Item.t=rs.eraseIdx i0 by simp[List.map_map,Function.comp_def,Item.t]] at h
 exact h.unpick hlt
end Go.Proofs.YtffnefmklckngaaGreat.Sy
namespace Go.Proofs.YtffnefmklckngaaGreat.Sy
open Go Go.RowKit
set_option linter.unusedSimpArgs false
set_option linter.unusedVariables false
abbrev n_l_heldIntS:Nat:=49
def F_l_heldIntS:Fn1:=⟨21,[.t 4],(.seq (.reg [o 4 (.mov (.k (.int .i64 0)))]) (.seq (.seq (.reg [o 5 (.mov (.k (.int .i64 0)))]) (.blk 0 (.lop (.seq (.seq (.reg [o 6 (.mov (.t 5)),o 7 (.mov (.t 0)),o 8 (.len false (.t 7)),o 9 (.bin .lss (.t 6) (.t 8))]) (.cnd (.t 9) .skip (.ext 0))) (.seq (.blk 1 (.seq (.seq (.reg [o 12 (.mov (.t 0)),o 13 (.mov (.t 5)),o 14 (.iad 1 (.t 12) (.t 13)),o 15 (.ld false 1 (.t 14)),o 16 (.mov (.t 1)),o 17 (.bin .neq (.t 15) (.t 16))]) (.cnd (.t 17) (.seq (.reg [o 4 (.mov (.k (.int .i64 (-1))))]) .ret) .skip)) (.reg [o 18 (.mov (.t 1)),o 19 (.bin .add (.t 18) (.k (.int .i64 1))),o 1 (.mov (.t 19))]))) (.reg [o 10 (.mov (.t 5)),o 11 (.bin .add (.t 10) (.k (.int .i64 1))),o 5 (.mov (.t 11))])))))) (.seq (.reg [o 20 (.mov (.t 1)),o 4 (.mov (.t 20))]) .ret)))⟩
theorem ir_l_heldIntS:compFn Tryz.prog n_l_heldIntS=some F_l_heldIntS:=by kernel_rfl
theorem l_heldIntS_ret (σ:St) (v:GV) (n:Nat) (k:Int) (hR:RS pI.kd σ v (mkF mInt 1 k n)) (h0:0≤k) (hk:k+1*n≤4611686018427387904):Ret Tryz.prog n_l_heldIntS [v,gi k] σ (gi (k+1*n)) σ:=by
 refine ret_eq ir_l_heldIntS (Nat.le_of_ble_eq_true rfl) trivial ?_
 have hln:=hR.len
 rw[mkF_length] at hln
 simp +contextual (disch:=omega) only[go_sem,F_l_heldIntS]
 refine vc_for n 5 (fun i env τ=>env 0=v∧env 1=gi (k+1*(i:Int))∧σ <+: τ) rfl ⟨rfl,(by show gi k=gi (k+1*0);simp),List.prefix_refl _⟩ ?_ ?_
 ·rintro i env τ hi e5 c0 ⟨e0,e1,hp⟩
  have hj:i<(mkF mInt 1 k n).length:=by rw[mkF_length];exact hi
  have hat:=int_at (hR.pre hp) hj
  simp only[mkF_get,mInt] at hat
  simp +contextual (disch:=omega) only[go_sem,c0,e0,e1,e5,hln,hat,hp,bne_self_eq_false,beq_self_eq_true]
  omega
 ·rintro env τ e5 c0 ⟨e0,e1,hp⟩
  simp +contextual (disch:=omega) only[go_sem,c0,e0,e1,e5,hln,hp]
end Go.Proofs.YtffnefmklckngaaGreat.Sy
namespace Go.Proofs.YtffnefmklckngaaGreat.Sy
open Go Go.RowKit
set_option linter.unusedSimpArgs false
set_option linter.unusedVariables false
set_option maxRecDepth 4000
abbrev n_l_heldActS:Nat:=16
def F_l_heldActS:Fn1:=⟨109,[.t 4],(.seq (.reg [o 4 (.mov (.k (.int .i64 0)))]) (.seq (.seq (.reg [o 5 (.mov (.k (.int .i64 0)))]) (.blk 0 (.lop (.seq (.seq (.reg [o 6 (.mov (.t 5)),o 7 (.mov (.t 0)),o 8 (.len false (.t 7)),o 9 (.bin .lss (.t 6) (.t 8))]) (.cnd (.t 9) .skip (.ext 0))) (.seq (.blk 1 (.seq (.seq (.reg [o 12 (.mov (.t 0)),o 13 (.mov (.t 5)),o 14 (.iad 10 (.t 12) (.t 13)),o 15 (.fad 0 (.t 14)),o 16 (.fad 0 (.t 15)),o 17 (.ld false 1 (.t 16)),o 18 (.mov (.t 1)),o 19 (.bin .neq (.t 17) (.t 18))]) (.cnd (.t 19) (.seq (.reg [o 4 (.mov (.k (.int .i64 (-1))))]) .ret) .skip)) (.seq (.reg [o 20 (.mov (.t 1)),o 21 (.bin .add (.t 20) (.k (.int .i64 1))),o 1 (.mov (.t 21))]) (.seq (.seq (.reg [o 22 (.mov (.t 0)),o 23 (.mov (.t 5)),o 24 (.iad 10 (.t 22) (.t 23)),o 25 (.fad 0 (.t 24)),o 26 (.fad 1 (.t 25)),o 27 (.ld false 1 (.t 26)),o 28 (.mov (.t 1)),o 29 (.bin .neq (.t 27) (.t 28))]) (.cnd (.t 29) (.seq (.reg [o 4 (.mov (.k (.int .i64 (-1))))]) .ret) .skip)) (.seq (.reg [o 30 (.mov (.t 1)),o 31 (.bin .add (.t 30) (.k (.int .i64 1))),o 1 (.mov (.t 31))]) (.seq (.seq (.reg [o 32 (.mov (.t 0)),o 33 (.mov (.t 5)),o 34 (.iad 10 (.t 32) (.t 33)),o 35 (.fad 2 (.t 34)),o 36 (.ld false 1 (.t 35)),o 37 (.mov (.t 1)),o 38 (.bin .neq (.t 36) (.t 37))]) (.cnd (.t 38) (.seq (.reg [o 4 (.mov (.k (.int .i64 (-1))))]) .ret) .skip)) (.seq (.reg [o 39 (.mov (.t 1)),o 40 (.bin .add (.t 39) (.k (.int .i64 1))),o 1 (.mov (.t 40))]) (.seq (.reg [o 41 (.mov (.t 0)),o 42 (.mov (.t 5)),o 43 (.iad 10 (.t 41) (.t 42)),o 44 (.fad 3 (.t 43)),o 45 (.ld false 1 (.t 44)),o 46 (.mov (.t 1)),o 47 (.call 49 [(.t 45),(.t 46)]),o 1 (.mov (.t 47))]) (.seq (.seq (.reg [o 48 (.mov (.t 1)),o 49 (.bin .lss (.t 48) (.k (.int .i64 0)))]) (.cnd (.t 49) (.seq (.reg [o 4 (.mov (.k (.int .i64 (-1))))]) .ret) .skip)) (.seq (.seq (.reg [o 50 (.mov (.t 0)),o 51 (.mov (.t 5)),o 52 (.iad 10 (.t 50) (.t 51)),o 53 (.fad 4 (.t 52)),o 54 (.ld false 1 (.t 53)),o 55 (.mov (.t 1)),o 56 (.bin .neq (.t 54) (.t 55))]) (.cnd (.t 56) (.seq (.reg [o 4 (.mov (.k (.int .i64 (-1))))]) .ret) .skip)) (.seq (.reg [o 57 (.mov (.t 1)),o 58 (.bin .add (.t 57) (.k (.int .i64 1))),o 1 (.mov (.t 58))]) (.seq (.seq (.drw [o 59 (.mov (.t 0)),o 60 (.mov (.t 5)),o 61 (.iad 10 (.t 59) (.t 60)),o 62 (.fad 5 (.t 61)),o 63 (.ld false 1 (.t 62)),o 64 (.mov (.t 1)),o 65 (.call 44 [(.t 64)])] [o 66 (.bin .neq (.t 63) (.t 65))]) (.cnd (.t 66) (.seq (.reg [o 4 (.mov (.k (.int .i64 (-1))))]) .ret) .skip)) (.seq (.reg [o 67 (.mov (.t 1)),o 68 (.bin .add (.t 67) (.k (.int .i64 1))),o 1 (.mov (.t 68))]) (.seq (.seq (.drw [o 69 (.mov (.t 0)),o 70 (.mov (.t 5)),o 71 (.iad 10 (.t 69) (.t 70)),o 72 (.fad 6 (.t 71)),o 73 (.ld false 1 (.t 72)),o 74 (.mov (.t 1)),o 75 (.call 44 [(.t 74)])] [o 76 (.bin .neq (.t 73) (.t 75))]) (.cnd (.t 76) (.seq (.reg [o 4 (.mov (.k (.int .i64 (-1))))]) .ret) .skip)) (.seq (.reg [o 77 (.mov (.t 1)),o 78 (.bin .add (.t 77) (.k (.int .i64 1))),o 1 (.mov (.t 78))]) (.seq (.seq (.reg [o 79 (.mov (.t 0)),o 80 (.mov (.t 5)),o 81 (.iad 10 (.t 79) (.t 80)),o 82 (.fad 7 (.t 81)),o 83 (.ld false 1 (.t 82)),o 84 (.mov (.t 1)),o 85 (.bin .neq (.t 83) (.t 84))]) (.cnd (.t 85) (.seq (.reg [o 4 (.mov (.k (.int .i64 (-1))))]) .ret) .skip)) (.seq (.reg [o 86 (.mov (.t 1)),o 87 (.bin .add (.t 86) (.k (.int .i64 1))),o 1 (.mov (.t 87))]) (.seq (.seq (.reg [o 88 (.mov (.t 0)),o 89 (.mov (.t 5)),o 90 (.iad 10 (.t 88) (.t 89)),o 91 (.fad 8 (.t 90)),o 92 (.fad 0 (.t 91)),o 93 (.ld false 1 (.t 92)),o 94 (.mov (.t 1)),o 95 (.bin .neq (.t 93) (.t 94))]) (.cnd (.t 95) (.seq (.reg [o 4 (.mov (.k (.int .i64 (-1))))]) .ret) .skip)) (.seq (.reg [o 96 (.mov (.t 1)),o 97 (.bin .add (.t 96) (.k (.int .i64 1))),o 1 (.mov (.t 97))]) (.seq (.seq (.reg [o 98 (.mov (.t 0)),o 99 (.mov (.t 5)),o 100 (.iad 10 (.t 98) (.t 99)),o 101 (.fad 8 (.t 100)),o 102 (.fad 1 (.t 101)),o 103 (.ld false 1 (.t 102)),o 104 (.mov (.t 1)),o 105 (.bin .neq (.t 103) (.t 104))]) (.cnd (.t 105) (.seq (.reg [o 4 (.mov (.k (.int .i64 (-1))))]) .ret) .skip)) (.reg [o 106 (.mov (.t 1)),o 107 (.bin .add (.t 106) (.k (.int .i64 1))),o 1 (.mov (.t 107))]))))))))))))))))))))) (.reg [o 10 (.mov (.t 5)),o 11 (.bin .add (.t 10) (.k (.int .i64 1))),o 5 (.mov (.t 11))])))))) (.seq (.reg [o 108 (.mov (.t 1)),o 4 (.mov (.t 108))]) .ret)))⟩
theorem ir_l_heldActS:compFn Tryz.prog n_l_heldActS=some F_l_heldActS:=by kernel_rfl
theorem mkRow_get {α:Type} {f:Int→α→α} {c:α→Nat} {l:List α} {i:Nat} {k:Int} (hi:i<l.length):∃ h,(mkRow f c k l)[i]'h=f (k+(sumL c (l.take i):Nat)) l[i]:=by
 have hl:(mkRow f c k (l.take i)).length=i:=by rw[mkRow_len,List.length_take,Nat.min_eq_left (by omega)]
 have e:mkRow f c k l=mkRow f c k (l.take i)++(f (k+(sumL c (l.take i):Nat)) l[i]::mkRow f c (k+(sumL c (l.take i):Nat)+c l[i]) (l.drop (i+1))):=by
  conv=>lhs;rw[← List.take_append_drop i l,←List.getElem_cons_drop hi,mkRow_app]
  rfl
 refine⟨by rw[mkRow_len];exact hi,?_⟩
 simp only[e]
 rw[List.getElem_append_right (by omega)]
 simp[hl]
theorem act_row {σ:St} {v:GV} {l:List Act} (h:RS kAct σ v l) {i:Nat} (hi:i<l.length):∃ kv,(iadG 10 v (some i)=some (atz 10 v i)∧(∀ k,fadG k (atz 10 v i)=some (fld k (atz 10 v i)))∧(∀ k m,fadG k (fld m (atz 10 v i))=some (fld (m+k) (atz 10 v i)))∧ldG true 10 σ (atz 10 v i)=some (.agg (actV l[i] kv))∧ldG false 1 σ (fld 0 (atz 10 v i))=some (gi l[i].dot.rep)∧ldG false 1 σ (fld 1 (atz 10 v i))=some (gi l[i].dot.seq)∧ldG false 1 σ (fld 2 (atz 10 v i))=some (gi l[i].time)∧ldG false 1 σ (fld 3 (atz 10 v i))=some kv∧ldG false 1 σ (fld 4 (atz 10 v i))=some (gi l[i].kind)∧ldG false 1 σ (fld 5 (atz 10 v i))=some (.str l[i].obj)∧ldG false 1 σ (fld 6 (atz 10 v i))=some (.str l[i].key)∧ldG false 1 σ (fld 7 (atz 10 v i))=some (gi l[i].val)∧ldG false 1 σ (fld 8 (atz 10 v i))=some (gi l[i].ref.rep)∧ldG false 1 σ (fld 9 (atz 10 v i))=some (gi l[i].ref.seq))∧RS pI.kd σ kv l[i].knew:=by
 obtain⟨cs,⟨h1,h2,h3,h4,h5⟩,kv,rfl,h6⟩:=RdN.cellsN h hi
 exact⟨kv,⟨h1,h2,h3,h4,h5 0 1 false (by decide),h5 1 1 false (by decide),h5 2 1 false (by decide),h5 3 1 false (by decide),h5 4 1 false (by decide),h5 5 1 false (by decide),h5 6 1 false (by decide),h5 7 1 false (by decide),h5 8 1 false (by decide),h5 9 1 false (by decide)⟩,h6⟩
set_option maxHeartbeats 2000000 in
theorem l_heldActS_ret (σ:St) (v:GV) (l:List Act) (k:Int) (hR:RS kAct σ v (mkRow mActE ctE k l)) (h0:0≤k) (hk:k+(sumL ctE l:Nat)≤4611686018427387904):Ret Tryz.prog n_l_heldActS [v,gi k] σ (gi (k+(sumL ctE l:Nat))) σ:=by
 refine ret_xe ir_l_heldActS (Nat.le_of_ble_eq_true rfl) trivial ?_
 have hlen:=hR.len
 rw[mkRow_len] at hlen
 simp +contextual (disch:=omega) only[go_sem,F_l_heldActS]
 refine sx_for l.length 5 0 (fun i env h=>env 0=v∧env 1=gi (k+(sumL ctE (l.take i):Nat))∧h=[]) (fun env h=>env 1=gi (k+(sumL ctE l:Nat))) (fun _ _=>False) _ (Hx.refl σ) (by simp +contextual (disch:=omega) only[go_sem]) ⟨by simp +contextual (disch:=omega) only[go_sem],by simp +contextual (disch:=omega) only[go_sem];simp[sumL],rfl⟩ ?_ ?_ ?_ (fun _ _ _ _ h=>h.elim)
 ·rintro J Y W hJ hY hW i env h' τ hi ei c0 H ⟨e0,e1,rfl⟩
  obtain⟨q,hq⟩:∃ q,q=k+(sumL ctE (l.take i):Nat):=⟨_,rfl⟩
  have hs:=sumL_snoc (f:=ctE) hi
  have hst:=sumL_take_le ctE l (i+1)
  have hce:ctE l[i]=9+l[i].knew.length:=rfl
  have hqb:0≤q∧q+9+(l[i].knew.length:Int)≤4611686018427387904:=by omega
  rw[← hq] at e1
  obtain⟨hj,eL⟩:=mkRow_get (f:=mActE) (c:=ctE) (k:=k) hi
  obtain⟨kv,U,hkv⟩:=act_row hR hj
  rw[eL,←hq] at hkv
  simp only[eL,←hq,mActE] at U hkv
  have hln:=len_sumL (c:=ctE) (fun x=>by unfold ctE;omega) l
  have hib:l.length≤4611686018427387904:=by omega
  have hq':q+9+(l[i].knew.length:Int)=k+(sumL ctE (l.take (i+1)):Nat):=by omega
  clear hs hst hce hk hln
  simp +contextual (disch:=omega) only[go_sem,c0,e0,e1,ei,natOf_nat,hlen,U,bne_self_eq_false,beq_self_eq_true]
  refine by_r H (l_heldIntS_ret τ kv l[i].knew.length (q+1+1+1) (hkv.pre H.sub) (by omega) (by omega)) ?_
  obtain⟨p,hp⟩:∃ p,p=q+1+1+1+1*(l[i].knew.length:Int):=⟨_,rfl⟩
  have hpb:0≤p∧p+6≤4611686018427387904:=by omega
  have hpn:decide (p<0)=false:=decide_eq_false (by omega)
  have ekE:kE q l[i]=p:=by rw[hp];rfl
  rw[ekE] at U
  simp +contextual (disch:=omega) only[go_sem,c0,e0,e1,ei,natOf_nat,hlen,U,←hp,hpn,bne_self_eq_false,beq_self_eq_true]
  refine by_r H (l_markText_ret _ _ (by omega)) ?_
  simp +contextual (disch:=omega) only[go_sem,c0,e0,e1,ei,natOf_nat,hlen,U,bne_self_eq_false,beq_self_eq_true]
  refine by_r H (l_markText_ret _ _ (by omega)) ?_
  simp +contextual (disch:=omega) only[go_sem,c0,e0,e1,ei,natOf_nat,hlen,U,bne_self_eq_false,beq_self_eq_true]
  exact hJ _ _ _ _ H ⟨by simp +contextual (disch:=omega) only[go_sem,e0],by simp +contextual (disch:=omega) only[go_sem];first|omega|(congr 1;omega),rfl⟩
 ·rintro Y hY env h' τ ei c0 H ⟨e0,e1,rfl⟩
  simp +contextual (disch:=omega) only[go_sem,c0,e0,ei,hlen]
  exact hY _ _ _ H (by simp +contextual (disch:=omega) only[go_sem,e1,List.take_length])
 ·rintro env h' τ H e1
  simp +contextual (disch:=omega) only[go_sem,e1]
end Go.Proofs.YtffnefmklckngaaGreat.Sy
namespace Go.Proofs.YtffnefmklckngaaGreat.Sy
open Go Go.RowKit
set_option linter.unusedSimpArgs false
set_option linter.unusedVariables false
def ctState (x:State):Nat:=1*x.know.length+3*x.tallies.length+6*x.lives.length+8*x.cells.length
def mkState (k:Int) (x:State):State:={x with know:=(mkF mInt 1 (k) x.know.length),tallies:=(mkF mTally 3 (k+1*(x.know.length:Int)) x.tallies.length),lives:=(mkF mLive 6 (k+1*(x.know.length:Int)+3*(x.tallies.length:Int)) x.lives.length),cells:=(mkF mCell 8 (k+1*(x.know.length:Int)+3*(x.tallies.length:Int)+6*(x.lives.length:Int)) x.cells.length)}
def ctAct (x:Act):Nat:=1*x.knew.length
def mkAct (k:Int) (x:Act):Act:={x with knew:=(mkF mInt 1 (k) x.knew.length)}
def ctDelta (x:Delta):Nat:=1*x.base.length+1*x.know.length+3*x.tallies.length+6*x.lives.length+2*x.dead.length+8*x.cells.length
def mkDelta (k:Int) (x:Delta):Delta:={x with base:=(mkF mInt 1 (k) x.base.length),know:=(mkF mInt 1 (k+1*(x.base.length:Int)) x.know.length),tallies:=(mkF mTally 3 (k+1*(x.base.length:Int)+1*(x.know.length:Int)) x.tallies.length),lives:=(mkF mLive 6 (k+1*(x.base.length:Int)+1*(x.know.length:Int)+3*(x.tallies.length:Int)) x.lives.length),dead:=(mkF mDot 2 (k+1*(x.base.length:Int)+1*(x.know.length:Int)+3*(x.tallies.length:Int)+6*(x.lives.length:Int)) x.dead.length),cells:=(mkF mCell 8 (k+1*(x.base.length:Int)+1*(x.know.length:Int)+3*(x.tallies.length:Int)+6*(x.lives.length:Int)+2*(x.dead.length:Int)) x.cells.length)}
theorem ctDelta_le (x:Delta):ctDelta x≤10*msDelta x:=by
 unfold ctDelta msDelta;omega
end Go.Proofs.YtffnefmklckngaaGreat.Sy
namespace Go.Proofs.YtffnefmklckngaaGreat.Sy
open Go Go.RowKit
set_option linter.unusedSimpArgs false
set_option linter.unusedVariables false
abbrev n_l_markTallyS:Nat:=45
def F_l_markTallyS:Fn1:=⟨35,[.t 4],(.seq (.reg [o 4 (.mov (.k (.int .i64 0)))]) (.seq (.seq (.reg [o 5 (.mov (.k (.int .i64 0)))]) (.blk 0 (.lop (.seq (.seq (.reg [o 6 (.mov (.t 5)),o 7 (.mov (.t 0)),o 8 (.len false (.t 7)),o 9 (.bin .lss (.t 6) (.t 8))]) (.cnd (.t 9) .skip (.ext 0))) (.seq (.blk 1 (.seq (.reg [o 12 (.mov (.t 0)),o 13 (.mov (.t 5)),o 14 (.mov (.t 1)),o 15 (.call 44 [(.t 14)]),o 16 (.iad 3 (.t 12) (.t 13)),o 17 (.fad 0 (.t 16)),on (.st 1 (.t 17) (.t 15))]) (.seq (.reg [o 18 (.mov (.t 1)),o 19 (.bin .add (.t 18) (.k (.int .i64 1))),o 1 (.mov (.t 19))]) (.seq (.reg [o 20 (.mov (.t 0)),o 21 (.mov (.t 5)),o 22 (.mov (.t 1)),o 23 (.iad 3 (.t 20) (.t 21)),o 24 (.fad 1 (.t 23)),on (.st 1 (.t 24) (.t 22))]) (.seq (.reg [o 25 (.mov (.t 1)),o 26 (.bin .add (.t 25) (.k (.int .i64 1))),o 1 (.mov (.t 26))]) (.seq (.reg [o 27 (.mov (.t 0)),o 28 (.mov (.t 5)),o 29 (.mov (.t 1)),o 30 (.iad 3 (.t 27) (.t 28)),o 31 (.fad 2 (.t 30)),on (.st 1 (.t 31) (.t 29))]) (.reg [o 32 (.mov (.t 1)),o 33 (.bin .add (.t 32) (.k (.int .i64 1))),o 1 (.mov (.t 33))]))))))) (.reg [o 10 (.mov (.t 5)),o 11 (.bin .add (.t 10) (.k (.int .i64 1))),o 5 (.mov (.t 11))])))))) (.seq (.reg [o 34 (.mov (.t 1)),o 4 (.mov (.t 34))]) .ret)))⟩
theorem ir_l_markTallyS:compFn Tryz.prog n_l_markTallyS=some F_l_markTallyS:=by kernel_rfl
theorem l_markTallyS_ret {σ τ:St} {rs:List Thg} (i0:Nat) (v:GV) (l:List Tally) (k:Int) (H:Hp σ τ rs) (hi0:rs[i0]? =some (ow pTally.kd v l)) (h0:0≤k) (hk:k+3*l.length≤4611686018427387904):∃ τ',Ret Tryz.prog n_l_markTallyS [v,gi k] τ (gi (k+3*l.length)) τ'∧Hp σ τ' (rs.set i0 (ow pTally.kd v (mkF mTally 3 k l.length))):=by
 have H:=H.pick i0 hi0
 have hlt:=(List.getElem?_eq_some_iff.1 hi0).1
 obtain⟨r,τ',hR,rfl,H'⟩:=ret_mut (P:=Tryz.prog) (σ:=τ) (args:=[v,gi k]) (Post:=fun r τ'=>r=gi (k+3*l.length)∧Hp σ τ' (ow pTally.kd v (mkF mTally 3 k l.length)::rs.eraseIdx i0)) ir_l_markTallyS (Nat.le_of_ble_eq_true rfl) (by
  simp +contextual (disch:=omega) only[go_sem,F_l_markTallyS]
  refine vc_for l.length 5 (fun i env τ'=>env 0=v∧env 1=gi (k+3*(i:Int))∧τ.length≤τ'.length∧Hp σ τ' (ow pTally.kd v ((mkF mTally 3 k l.length).take i++l.drop i)::rs.eraseIdx i0)) rfl ⟨rfl,(by show gi k=gi (k+3*0);simp),Nat.le_refl _,by simpa using H⟩ ?_ ?_
  ·rintro i env τ' hi e5 c0 ⟨e0,e1,hle,H⟩
   have hL:=mark_len (l:=l) (e:=mTally) (c:=3) (k:=k) (i:=i)
   have hst:=mark_step (e:=mTally) (c:=3) (k:=k) hi
   generalize(mkF mTally 3 k l.length).take i++l.drop i=L at H hL hst
   have hj:i<L.length:=by omega
   have h1:=H.sl 0 rfl
   have hln:=h1.len
   rw[hL] at hln
   have hat:=Tally_at h1 hj
   rw[set_self hj] at H
   generalize hy:L[i]=y at H hat
   simp +contextual (disch:=omega) only[go_sem,c0,e0,e1,e5,hln,hat]
   refine by_ret (l_markText_ret _ _ (by omega)) ?_
   simp +contextual (disch:=omega) only[go_sem,e0,e1,hat]
   obtain⟨τ0,es,H⟩:=H.sts hj 1 0 (.str (mtx (k+3*(i:Int)))) (⟨mtx (k+3*(i:Int)),y.rep,y.sum⟩) rfl (by decide) (by decide) rfl
   have es:stG 1 τ' (fld 0 (atz 3 v i)) (.str (mtx (k+3*(i:Int))))=some (.tup [],τ0):=es
   have hl0:=stG_len es
   simp +contextual (disch:=omega) only[go_sem,e0,e1,e5,hat,es]
   obtain⟨τ1,es,H⟩:=H.sts hj 1 1 (.int .i64 (k+3*(i:Int)+1)) (⟨mtx (k+3*(i:Int)),k+3*(i:Int)+1,y.sum⟩) rfl (by decide) (by decide) rfl
   have es:stG 1 τ0 (fld 1 (atz 3 v i)) (.int .i64 (k+3*(i:Int)+1))=some (.tup [],τ1):=es
   have hl1:=stG_len es
   simp +contextual (disch:=omega) only[go_sem,e0,e1,e5,hat,es]
   obtain⟨τ2,es,H⟩:=H.sts hj 1 2 (.int .i64 (k+3*(i:Int)+1+1)) (⟨mtx (k+3*(i:Int)),k+3*(i:Int)+1,k+3*(i:Int)+1+1⟩) rfl (by decide) (by decide) rfl
   have es:stG 1 τ1 (fld 2 (atz 3 v i)) (.int .i64 (k+3*(i:Int)+1+1))=some (.tup [],τ2):=es
   have hl2:=stG_len es
   simp +contextual (disch:=omega) only[go_sem,e0,e1,e5,hat,es]
   have H2:Hp σ τ2 (ow pTally.kd v (L.set i (mTally (k+(3:Nat)*(i:Int))))::rs.eraseIdx i0):=H
   rw[hst] at H2
   exact⟨by omega,by omega,H2⟩
  ·rintro env τ' e5 c0 ⟨e0,e1,hle,H⟩
   rw[mark_end] at H
   have hln:=(H.sl 0 rfl).len
   rw[mkF_length] at hln
   simp +contextual (disch:=omega) only[go_sem,c0,e0,e1,e5,hln]
   exact⟨_,rfl,hle,rfl,H⟩)
 exact⟨τ',hR,H'.unpick hlt⟩
end Go.Proofs.YtffnefmklckngaaGreat.Sy
namespace Go.Proofs.YtffnefmklckngaaGreat.Sy
open Go Go.RowKit
set_option linter.unusedSimpArgs false
set_option linter.unusedVariables false
abbrev n_l_markLiveS:Nat:=46
def F_l_markLiveS:Fn1:=⟨61,[.t 4],(.seq (.reg [o 4 (.mov (.k (.int .i64 0)))]) (.seq (.seq (.reg [o 5 (.mov (.k (.int .i64 0)))]) (.blk 0 (.lop (.seq (.seq (.reg [o 6 (.mov (.t 5)),o 7 (.mov (.t 0)),o 8 (.len false (.t 7)),o 9 (.bin .lss (.t 6) (.t 8))]) (.cnd (.t 9) .skip (.ext 0))) (.seq (.blk 1 (.seq (.reg [o 12 (.mov (.t 0)),o 13 (.mov (.t 5)),o 14 (.mov (.t 1)),o 15 (.bin .rem (.t 14) (.k (.int .i64 3))),o 16 (.bin .eql (.t 15) (.k (.int .i64 0))),o 17 (.iad 6 (.t 12) (.t 13)),o 18 (.fad 0 (.t 17)),on (.st 1 (.t 18) (.t 16))]) (.seq (.reg [o 19 (.mov (.t 1)),o 20 (.bin .add (.t 19) (.k (.int .i64 1))),o 1 (.mov (.t 20))]) (.seq (.reg [o 21 (.mov (.t 0)),o 22 (.mov (.t 5)),o 23 (.mov (.t 1)),o 24 (.call 44 [(.t 23)]),o 25 (.iad 6 (.t 21) (.t 22)),o 26 (.fad 1 (.t 25)),on (.st 1 (.t 26) (.t 24))]) (.seq (.reg [o 27 (.mov (.t 1)),o 28 (.bin .add (.t 27) (.k (.int .i64 1))),o 1 (.mov (.t 28))]) (.seq (.reg [o 29 (.mov (.t 0)),o 30 (.mov (.t 5)),o 31 (.mov (.t 1)),o 32 (.call 44 [(.t 31)]),o 33 (.iad 6 (.t 29) (.t 30)),o 34 (.fad 2 (.t 33)),on (.st 1 (.t 34) (.t 32))]) (.seq (.reg [o 35 (.mov (.t 1)),o 36 (.bin .add (.t 35) (.k (.int .i64 1))),o 1 (.mov (.t 36))]) (.seq (.reg [o 37 (.mov (.t 0)),o 38 (.mov (.t 5)),o 39 (.mov (.t 1)),o 40 (.iad 6 (.t 37) (.t 38)),o 41 (.fad 3 (.t 40)),on (.st 1 (.t 41) (.t 39))]) (.seq (.reg [o 42 (.mov (.t 1)),o 43 (.bin .add (.t 42) (.k (.int .i64 1))),o 1 (.mov (.t 43))]) (.seq (.reg [o 44 (.mov (.t 0)),o 45 (.mov (.t 5)),o 46 (.mov (.t 1)),o 47 (.iad 6 (.t 44) (.t 45)),o 48 (.fad 4 (.t 47)),o 49 (.fad 0 (.t 48)),on (.st 1 (.t 49) (.t 46))]) (.seq (.reg [o 50 (.mov (.t 1)),o 51 (.bin .add (.t 50) (.k (.int .i64 1))),o 1 (.mov (.t 51))]) (.seq (.reg [o 52 (.mov (.t 0)),o 53 (.mov (.t 5)),o 54 (.mov (.t 1)),o 55 (.iad 6 (.t 52) (.t 53)),o 56 (.fad 4 (.t 55)),o 57 (.fad 1 (.t 56)),on (.st 1 (.t 57) (.t 54))]) (.reg [o 58 (.mov (.t 1)),o 59 (.bin .add (.t 58) (.k (.int .i64 1))),o 1 (.mov (.t 59))]))))))))))))) (.reg [o 10 (.mov (.t 5)),o 11 (.bin .add (.t 10) (.k (.int .i64 1))),o 5 (.mov (.t 11))])))))) (.seq (.reg [o 60 (.mov (.t 1)),o 4 (.mov (.t 60))]) .ret)))⟩
theorem ir_l_markLiveS:compFn Tryz.prog n_l_markLiveS=some F_l_markLiveS:=by kernel_rfl
theorem l_markLiveS_ret {σ τ:St} {rs:List Thg} (i0:Nat) (v:GV) (l:List Live) (k:Int) (H:Hp σ τ rs) (hi0:rs[i0]? =some (ow pLive.kd v l)) (h0:0≤k) (hk:k+6*l.length≤4611686018427387904):∃ τ',Ret Tryz.prog n_l_markLiveS [v,gi k] τ (gi (k+6*l.length)) τ'∧Hp σ τ' (rs.set i0 (ow pLive.kd v (mkF mLive 6 k l.length))):=by
 have H:=H.pick i0 hi0
 have hlt:=(List.getElem?_eq_some_iff.1 hi0).1
 obtain⟨r,τ',hR,rfl,H'⟩:=ret_mut (P:=Tryz.prog) (σ:=τ) (args:=[v,gi k]) (Post:=fun r τ'=>r=gi (k+6*l.length)∧Hp σ τ' (ow pLive.kd v (mkF mLive 6 k l.length)::rs.eraseIdx i0)) ir_l_markLiveS (Nat.le_of_ble_eq_true rfl) (by
  simp +contextual (disch:=omega) only[go_sem,F_l_markLiveS]
  refine vc_for l.length 5 (fun i env τ'=>env 0=v∧env 1=gi (k+6*(i:Int))∧τ.length≤τ'.length∧Hp σ τ' (ow pLive.kd v ((mkF mLive 6 k l.length).take i++l.drop i)::rs.eraseIdx i0)) rfl ⟨rfl,(by show gi k=gi (k+6*0);simp),Nat.le_refl _,by simpa using H⟩ ?_ ?_
  ·rintro i env τ' hi e5 c0 ⟨e0,e1,hle,H⟩
   have hL:=mark_len (l:=l) (e:=mLive) (c:=6) (k:=k) (i:=i)
   have hst:=mark_step (e:=mLive) (c:=6) (k:=k) hi
   generalize(mkF mLive 6 k l.length).take i++l.drop i=L at H hL hst
   have hj:i<L.length:=by omega
   have h1:=H.sl 0 rfl
   have hln:=h1.len
   rw[hL] at hln
   have hat:=Live_at h1 hj
   rw[set_self hj] at H
   generalize hy:L[i]=y at H hat
   simp +contextual (disch:=omega) only[go_sem,c0,e0,e1,e5,hln,hat]
   obtain⟨τ0,es,H⟩:=H.sts hj 1 0 (.bool ((k+6*(i:Int)).tmod 3==0)) (⟨((k+6*(i:Int)).tmod 3==0),y.obj,y.key,y.val,⟨y.dot.rep,y.dot.seq⟩⟩) rfl (by decide) (by decide) rfl
   have es:stG 1 τ' (fld 0 (atz 6 v i)) (.bool ((k+6*(i:Int)).tmod 3==0))=some (.tup [],τ0):=es
   have hl0:=stG_len es
   simp +contextual (disch:=omega) only[go_sem,e0,e1,e5,hat,es]
   refine by_ret (l_markText_ret _ _ (by omega)) ?_
   simp +contextual (disch:=omega) only[go_sem,e0,e1,hat]
   obtain⟨τ1,es,H⟩:=H.sts hj 1 1 (.str (mtx (k+6*(i:Int)+1))) (⟨((k+6*(i:Int)).tmod 3==0),mtx (k+6*(i:Int)+1),y.key,y.val,⟨y.dot.rep,y.dot.seq⟩⟩) rfl (by decide) (by decide) rfl
   have es:stG 1 τ0 (fld 1 (atz 6 v i)) (.str (mtx (k+6*(i:Int)+1)))=some (.tup [],τ1):=es
   have hl1:=stG_len es
   simp +contextual (disch:=omega) only[go_sem,e0,e1,e5,hat,es]
   refine by_ret (l_markText_ret _ _ (by omega)) ?_
   simp +contextual (disch:=omega) only[go_sem,e0,e1,hat]
   obtain⟨τ2,es,H⟩:=H.sts hj 1 2 (.str (mtx (k+6*(i:Int)+1+1))) (⟨((k+6*(i:Int)).tmod 3==0),mtx (k+6*(i:Int)+1),mtx (k+6*(i:Int)+1+1),y.val,⟨y.dot.rep,y.dot.seq⟩⟩) rfl (by decide) (by decide) rfl
   have es:stG 1 τ1 (fld 2 (atz 6 v i)) (.str (mtx (k+6*(i:Int)+1+1)))=some (.tup [],τ2):=es
   have hl2:=stG_len es
   simp +contextual (disch:=omega) only[go_sem,e0,e1,e5,hat,es]
   obtain⟨τ3,es,H⟩:=H.sts hj 1 3 (.int .i64 (k+6*(i:Int)+1+1+1)) (⟨((k+6*(i:Int)).tmod 3==0),mtx (k+6*(i:Int)+1),mtx (k+6*(i:Int)+1+1),k+6*(i:Int)+1+1+1,⟨y.dot.rep,y.dot.seq⟩⟩) rfl (by decide) (by decide) rfl
   have es:stG 1 τ2 (fld 3 (atz 6 v i)) (.int .i64 (k+6*(i:Int)+1+1+1))=some (.tup [],τ3):=es
   have hl3:=stG_len es
   simp +contextual (disch:=omega) only[go_sem,e0,e1,e5,hat,es]
   obtain⟨τ4,es,H⟩:=H.sts hj 1 4 (.int .i64 (k+6*(i:Int)+1+1+1+1)) (⟨((k+6*(i:Int)).tmod 3==0),mtx (k+6*(i:Int)+1),mtx (k+6*(i:Int)+1+1),k+6*(i:Int)+1+1+1,⟨k+6*(i:Int)+1+1+1+1,y.dot.seq⟩⟩) rfl (by decide) (by decide) rfl
   have es:stG 1 τ3 (fld 4 (atz 6 v i)) (.int .i64 (k+6*(i:Int)+1+1+1+1))=some (.tup [],τ4):=es
   have hl4:=stG_len es
   simp +contextual (disch:=omega) only[go_sem,e0,e1,e5,hat,es]
   obtain⟨τ5,es,H⟩:=H.sts hj 1 5 (.int .i64 (k+6*(i:Int)+1+1+1+1+1)) (⟨((k+6*(i:Int)).tmod 3==0),mtx (k+6*(i:Int)+1),mtx (k+6*(i:Int)+1+1),k+6*(i:Int)+1+1+1,⟨k+6*(i:Int)+1+1+1+1,k+6*(i:Int)+1+1+1+1+1⟩⟩) rfl (by decide) (by decide) rfl
   have es:stG 1 τ4 (fld 5 (atz 6 v i)) (.int .i64 (k+6*(i:Int)+1+1+1+1+1))=some (.tup [],τ5):=es
   have hl5:=stG_len es
   simp +contextual (disch:=omega) only[go_sem,e0,e1,e5,hat,es]
   have H2:Hp σ τ5 (ow pLive.kd v (L.set i (mLive (k+(6:Nat)*(i:Int))))::rs.eraseIdx i0):=H
   rw[hst] at H2
   exact⟨by omega,by omega,H2⟩
  ·rintro env τ' e5 c0 ⟨e0,e1,hle,H⟩
   rw[mark_end] at H
   have hln:=(H.sl 0 rfl).len
   rw[mkF_length] at hln
   simp +contextual (disch:=omega) only[go_sem,c0,e0,e1,e5,hln]
   exact⟨_,rfl,hle,rfl,H⟩)
 exact⟨τ',hR,H'.unpick hlt⟩
end Go.Proofs.YtffnefmklckngaaGreat.Sy
namespace Go.Proofs.YtffnefmklckngaaGreat.Sy
open Go Go.RowKit
set_option linter.unusedSimpArgs false
set_option linter.unusedVariables false
abbrev n_l_markDotS:Nat:=47
def F_l_markDotS:Fn1:=⟨27,[.t 4],(.seq (.reg [o 4 (.mov (.k (.int .i64 0)))]) (.seq (.seq (.reg [o 5 (.mov (.k (.int .i64 0)))]) (.blk 0 (.lop (.seq (.seq (.reg [o 6 (.mov (.t 5)),o 7 (.mov (.t 0)),o 8 (.len false (.t 7)),o 9 (.bin .lss (.t 6) (.t 8))]) (.cnd (.t 9) .skip (.ext 0))) (.seq (.blk 1 (.seq (.reg [o 12 (.mov (.t 0)),o 13 (.mov (.t 5)),o 14 (.mov (.t 1)),o 15 (.iad 2 (.t 12) (.t 13)),o 16 (.fad 0 (.t 15)),on (.st 1 (.t 16) (.t 14))]) (.seq (.reg [o 17 (.mov (.t 1)),o 18 (.bin .add (.t 17) (.k (.int .i64 1))),o 1 (.mov (.t 18))]) (.seq (.reg [o 19 (.mov (.t 0)),o 20 (.mov (.t 5)),o 21 (.mov (.t 1)),o 22 (.iad 2 (.t 19) (.t 20)),o 23 (.fad 1 (.t 22)),on (.st 1 (.t 23) (.t 21))]) (.reg [o 24 (.mov (.t 1)),o 25 (.bin .add (.t 24) (.k (.int .i64 1))),o 1 (.mov (.t 25))]))))) (.reg [o 10 (.mov (.t 5)),o 11 (.bin .add (.t 10) (.k (.int .i64 1))),o 5 (.mov (.t 11))])))))) (.seq (.reg [o 26 (.mov (.t 1)),o 4 (.mov (.t 26))]) .ret)))⟩
theorem ir_l_markDotS:compFn Tryz.prog n_l_markDotS=some F_l_markDotS:=by kernel_rfl
theorem l_markDotS_ret {σ τ:St} {rs:List Thg} (i0:Nat) (v:GV) (l:List Dot) (k:Int) (H:Hp σ τ rs) (hi0:rs[i0]? =some (ow pDot.kd v l)) (h0:0≤k) (hk:k+2*l.length≤4611686018427387904):∃ τ',Ret Tryz.prog n_l_markDotS [v,gi k] τ (gi (k+2*l.length)) τ'∧Hp σ τ' (rs.set i0 (ow pDot.kd v (mkF mDot 2 k l.length))):=by
 have H:=H.pick i0 hi0
 have hlt:=(List.getElem?_eq_some_iff.1 hi0).1
 obtain⟨r,τ',hR,rfl,H'⟩:=ret_mut (P:=Tryz.prog) (σ:=τ) (args:=[v,gi k]) (Post:=fun r τ'=>r=gi (k+2*l.length)∧Hp σ τ' (ow pDot.kd v (mkF mDot 2 k l.length)::rs.eraseIdx i0)) ir_l_markDotS (Nat.le_of_ble_eq_true rfl) (by
  simp +contextual (disch:=omega) only[go_sem,F_l_markDotS]
  refine vc_for l.length 5 (fun i env τ'=>env 0=v∧env 1=gi (k+2*(i:Int))∧τ.length≤τ'.length∧Hp σ τ' (ow pDot.kd v ((mkF mDot 2 k l.length).take i++l.drop i)::rs.eraseIdx i0)) rfl ⟨rfl,(by show gi k=gi (k+2*0);simp),Nat.le_refl _,by simpa using H⟩ ?_ ?_
  ·rintro i env τ' hi e5 c0 ⟨e0,e1,hle,H⟩
   have hL:=mark_len (l:=l) (e:=mDot) (c:=2) (k:=k) (i:=i)
   have hst:=mark_step (e:=mDot) (c:=2) (k:=k) hi
   generalize(mkF mDot 2 k l.length).take i++l.drop i=L at H hL hst
   have hj:i<L.length:=by omega
   have h1:=H.sl 0 rfl
   have hln:=h1.len
   rw[hL] at hln
   have hat:=Dot_at h1 hj
   rw[set_self hj] at H
   generalize hy:L[i]=y at H hat
   simp +contextual (disch:=omega) only[go_sem,c0,e0,e1,e5,hln,hat]
   obtain⟨τ0,es,H⟩:=H.sts hj 1 0 (.int .i64 (k+2*(i:Int))) (⟨k+2*(i:Int),y.seq⟩) rfl (by decide) (by decide) rfl
   have es:stG 1 τ' (fld 0 (atz 2 v i)) (.int .i64 (k+2*(i:Int)))=some (.tup [],τ0):=es
   have hl0:=stG_len es
   simp +contextual (disch:=omega) only[go_sem,e0,e1,e5,hat,es]
   obtain⟨τ1,es,H⟩:=H.sts hj 1 1 (.int .i64 (k+2*(i:Int)+1)) (⟨k+2*(i:Int),k+2*(i:Int)+1⟩) rfl (by decide) (by decide) rfl
   have es:stG 1 τ0 (fld 1 (atz 2 v i)) (.int .i64 (k+2*(i:Int)+1))=some (.tup [],τ1):=es
   have hl1:=stG_len es
   simp +contextual (disch:=omega) only[go_sem,e0,e1,e5,hat,es]
   have H2:Hp σ τ1 (ow pDot.kd v (L.set i (mDot (k+(2:Nat)*(i:Int))))::rs.eraseIdx i0):=H
   rw[hst] at H2
   exact⟨by omega,by omega,H2⟩
  ·rintro env τ' e5 c0 ⟨e0,e1,hle,H⟩
   rw[mark_end] at H
   have hln:=(H.sl 0 rfl).len
   rw[mkF_length] at hln
   simp +contextual (disch:=omega) only[go_sem,c0,e0,e1,e5,hln]
   exact⟨_,rfl,hle,rfl,H⟩)
 exact⟨τ',hR,H'.unpick hlt⟩
end Go.Proofs.YtffnefmklckngaaGreat.Sy
namespace Go.Proofs.YtffnefmklckngaaGreat.Sy
open Go Go.RowKit
set_option linter.unusedSimpArgs false
set_option linter.unusedVariables false
abbrev n_l_markCellS:Nat:=48
def F_l_markCellS:Fn1:=⟨76,[.t 4],(.seq (.reg [o 4 (.mov (.k (.int .i64 0)))]) (.seq (.seq (.reg [o 5 (.mov (.k (.int .i64 0)))]) (.blk 0 (.lop (.seq (.seq (.reg [o 6 (.mov (.t 5)),o 7 (.mov (.t 0)),o 8 (.len false (.t 7)),o 9 (.bin .lss (.t 6) (.t 8))]) (.cnd (.t 9) .skip (.ext 0))) (.seq (.blk 1 (.seq (.reg [o 12 (.mov (.t 0)),o 13 (.mov (.t 5)),o 14 (.mov (.t 1)),o 15 (.call 44 [(.t 14)]),o 16 (.iad 8 (.t 12) (.t 13)),o 17 (.fad 0 (.t 16)),on (.st 1 (.t 17) (.t 15))]) (.seq (.reg [o 18 (.mov (.t 1)),o 19 (.bin .add (.t 18) (.k (.int .i64 1))),o 1 (.mov (.t 19))]) (.seq (.reg [o 20 (.mov (.t 0)),o 21 (.mov (.t 5)),o 22 (.mov (.t 1)),o 23 (.iad 8 (.t 20) (.t 21)),o 24 (.fad 1 (.t 23)),o 25 (.fad 0 (.t 24)),on (.st 1 (.t 25) (.t 22))]) (.seq (.reg [o 26 (.mov (.t 1)),o 27 (.bin .add (.t 26) (.k (.int .i64 1))),o 1 (.mov (.t 27))]) (.seq (.reg [o 28 (.mov (.t 0)),o 29 (.mov (.t 5)),o 30 (.mov (.t 1)),o 31 (.iad 8 (.t 28) (.t 29)),o 32 (.fad 1 (.t 31)),o 33 (.fad 1 (.t 32)),on (.st 1 (.t 33) (.t 30))]) (.seq (.reg [o 34 (.mov (.t 1)),o 35 (.bin .add (.t 34) (.k (.int .i64 1))),o 1 (.mov (.t 35))]) (.seq (.reg [o 36 (.mov (.t 0)),o 37 (.mov (.t 5)),o 38 (.mov (.t 1)),o 39 (.iad 8 (.t 36) (.t 37)),o 40 (.fad 3 (.t 39)),on (.st 1 (.t 40) (.t 38))]) (.seq (.reg [o 41 (.mov (.t 1)),o 42 (.bin .add (.t 41) (.k (.int .i64 1))),o 1 (.mov (.t 42))]) (.seq (.reg [o 43 (.mov (.t 0)),o 44 (.mov (.t 5)),o 45 (.mov (.t 1)),o 46 (.iad 8 (.t 43) (.t 44)),o 47 (.fad 4 (.t 46)),o 48 (.fad 0 (.t 47)),on (.st 1 (.t 48) (.t 45))]) (.seq (.reg [o 49 (.mov (.t 1)),o 50 (.bin .add (.t 49) (.k (.int .i64 1))),o 1 (.mov (.t 50))]) (.seq (.reg [o 51 (.mov (.t 0)),o 52 (.mov (.t 5)),o 53 (.mov (.t 1)),o 54 (.iad 8 (.t 51) (.t 52)),o 55 (.fad 4 (.t 54)),o 56 (.fad 1 (.t 55)),on (.st 1 (.t 56) (.t 53))]) (.seq (.reg [o 57 (.mov (.t 1)),o 58 (.bin .add (.t 57) (.k (.int .i64 1))),o 1 (.mov (.t 58))]) (.seq (.reg [o 59 (.mov (.t 0)),o 60 (.mov (.t 5)),o 61 (.mov (.t 1)),o 62 (.iad 8 (.t 59) (.t 60)),o 63 (.fad 6 (.t 62)),on (.st 1 (.t 63) (.t 61))]) (.seq (.reg [o 64 (.mov (.t 1)),o 65 (.bin .add (.t 64) (.k (.int .i64 1))),o 1 (.mov (.t 65))]) (.seq (.reg [o 66 (.mov (.t 0)),o 67 (.mov (.t 5)),o 68 (.mov (.t 1)),o 69 (.bin .rem (.t 68) (.k (.int .i64 3))),o 70 (.bin .eql (.t 69) (.k (.int .i64 0))),o 71 (.iad 8 (.t 66) (.t 67)),o 72 (.fad 7 (.t 71)),on (.st 1 (.t 72) (.t 70))]) (.reg [o 73 (.mov (.t 1)),o 74 (.bin .add (.t 73) (.k (.int .i64 1))),o 1 (.mov (.t 74))]))))))))))))))))) (.reg [o 10 (.mov (.t 5)),o 11 (.bin .add (.t 10) (.k (.int .i64 1))),o 5 (.mov (.t 11))])))))) (.seq (.reg [o 75 (.mov (.t 1)),o 4 (.mov (.t 75))]) .ret)))⟩
theorem ir_l_markCellS:compFn Tryz.prog n_l_markCellS=some F_l_markCellS:=by kernel_rfl
theorem l_markCellS_ret {σ τ:St} {rs:List Thg} (i0:Nat) (v:GV) (l:List Cell) (k:Int) (H:Hp σ τ rs) (hi0:rs[i0]? =some (ow pCell.kd v l)) (h0:0≤k) (hk:k+8*l.length≤4611686018427387904):∃ τ',Ret Tryz.prog n_l_markCellS [v,gi k] τ (gi (k+8*l.length)) τ'∧Hp σ τ' (rs.set i0 (ow pCell.kd v (mkF mCell 8 k l.length))):=by
 have H:=H.pick i0 hi0
 have hlt:=(List.getElem?_eq_some_iff.1 hi0).1
 obtain⟨r,τ',hR,rfl,H'⟩:=ret_mut (P:=Tryz.prog) (σ:=τ) (args:=[v,gi k]) (Post:=fun r τ'=>r=gi (k+8*l.length)∧Hp σ τ' (ow pCell.kd v (mkF mCell 8 k l.length)::rs.eraseIdx i0)) ir_l_markCellS (Nat.le_of_ble_eq_true rfl) (by
  simp +contextual (disch:=omega) only[go_sem,F_l_markCellS]
  refine vc_for l.length 5 (fun i env τ'=>env 0=v∧env 1=gi (k+8*(i:Int))∧τ.length≤τ'.length∧Hp σ τ' (ow pCell.kd v ((mkF mCell 8 k l.length).take i++l.drop i)::rs.eraseIdx i0)) rfl ⟨rfl,(by show gi k=gi (k+8*0);simp),Nat.le_refl _,by simpa using H⟩ ?_ ?_
  ·rintro i env τ' hi e5 c0 ⟨e0,e1,hle,H⟩
   have hL:=mark_len (l:=l) (e:=mCell) (c:=8) (k:=k) (i:=i)
   have hst:=mark_step (e:=mCell) (c:=8) (k:=k) hi
   generalize(mkF mCell 8 k l.length).take i++l.drop i=L at H hL hst
   have hj:i<L.length:=by omega
   have h1:=H.sl 0 rfl
   have hln:=h1.len
   rw[hL] at hln
   have hat:=Cell_at h1 hj
   rw[set_self hj] at H
   generalize hy:L[i]=y at H hat
   simp +contextual (disch:=omega) only[go_sem,c0,e0,e1,e5,hln,hat]
   refine by_ret (l_markText_ret _ _ (by omega)) ?_
   simp +contextual (disch:=omega) only[go_sem,e0,e1,hat]
   obtain⟨τ0,es,H⟩:=H.sts hj 1 0 (.str (mtx (k+8*(i:Int)))) (⟨mtx (k+8*(i:Int)),⟨y.dot.rep,y.dot.seq⟩,y.time,⟨y.ref.rep,y.ref.seq⟩,y.val,y.gone⟩) rfl (by decide) (by decide) rfl
   have es:stG 1 τ' (fld 0 (atz 8 v i)) (.str (mtx (k+8*(i:Int))))=some (.tup [],τ0):=es
   have hl0:=stG_len es
   simp +contextual (disch:=omega) only[go_sem,e0,e1,e5,hat,es]
   obtain⟨τ1,es,H⟩:=H.sts hj 1 1 (.int .i64 (k+8*(i:Int)+1)) (⟨mtx (k+8*(i:Int)),⟨k+8*(i:Int)+1,y.dot.seq⟩,y.time,⟨y.ref.rep,y.ref.seq⟩,y.val,y.gone⟩) rfl (by decide) (by decide) rfl
   have es:stG 1 τ0 (fld 1 (atz 8 v i)) (.int .i64 (k+8*(i:Int)+1))=some (.tup [],τ1):=es
   have hl1:=stG_len es
   simp +contextual (disch:=omega) only[go_sem,e0,e1,e5,hat,es]
   obtain⟨τ2,es,H⟩:=H.sts hj 1 2 (.int .i64 (k+8*(i:Int)+1+1)) (⟨mtx (k+8*(i:Int)),⟨k+8*(i:Int)+1,k+8*(i:Int)+1+1⟩,y.time,⟨y.ref.rep,y.ref.seq⟩,y.val,y.gone⟩) rfl (by decide) (by decide) rfl
   have es:stG 1 τ1 (fld 2 (atz 8 v i)) (.int .i64 (k+8*(i:Int)+1+1))=some (.tup [],τ2):=es
   have hl2:=stG_len es
   simp +contextual (disch:=omega) only[go_sem,e0,e1,e5,hat,es]
   obtain⟨τ3,es,H⟩:=H.sts hj 1 3 (.int .i64 (k+8*(i:Int)+1+1+1)) (⟨mtx (k+8*(i:Int)),⟨k+8*(i:Int)+1,k+8*(i:Int)+1+1⟩,k+8*(i:Int)+1+1+1,⟨y.ref.rep,y.ref.seq⟩,y.val,y.gone⟩) rfl (by decide) (by decide) rfl
   have es:stG 1 τ2 (fld 3 (atz 8 v i)) (.int .i64 (k+8*(i:Int)+1+1+1))=some (.tup [],τ3):=es
   have hl3:=stG_len es
   simp +contextual (disch:=omega) only[go_sem,e0,e1,e5,hat,es]
   obtain⟨τ4,es,H⟩:=H.sts hj 1 4 (.int .i64 (k+8*(i:Int)+1+1+1+1)) (⟨mtx (k+8*(i:Int)),⟨k+8*(i:Int)+1,k+8*(i:Int)+1+1⟩,k+8*(i:Int)+1+1+1,⟨k+8*(i:Int)+1+1+1+1,y.ref.seq⟩,y.val,y.gone⟩) rfl (by decide) (by decide) rfl
   have es:stG 1 τ3 (fld 4 (atz 8 v i)) (.int .i64 (k+8*(i:Int)+1+1+1+1))=some (.tup [],τ4):=es
   have hl4:=stG_len es
   simp +contextual (disch:=omega) only[go_sem,e0,e1,e5,hat,es]
   obtain⟨τ5,es,H⟩:=H.sts hj 1 5 (.int .i64 (k+8*(i:Int)+1+1+1+1+1)) (⟨mtx (k+8*(i:Int)),⟨k+8*(i:Int)+1,k+8*(i:Int)+1+1⟩,k+8*(i:Int)+1+1+1,⟨k+8*(i:Int)+1+1+1+1,k+8*(i:Int)+1+1+1+1+1⟩,y.val,y.gone⟩) rfl (by decide) (by decide) rfl
   have es:stG 1 τ4 (fld 5 (atz 8 v i)) (.int .i64 (k+8*(i:Int)+1+1+1+1+1))=some (.tup [],τ5):=es
   have hl5:=stG_len es
   simp +contextual (disch:=omega) only[go_sem,e0,e1,e5,hat,es]
   obtain⟨τ6,es,H⟩:=H.sts hj 1 6 (.int .i64 (k+8*(i:Int)+1+1+1+1+1+1)) (⟨mtx (k+8*(i:Int)),⟨k+8*(i:Int)+1,k+8*(i:Int)+1+1⟩,k+8*(i:Int)+1+1+1,⟨k+8*(i:Int)+1+1+1+1,k+8*(i:Int)+1+1+1+1+1⟩,k+8*(i:Int)+1+1+1+1+1+1,y.gone⟩) rfl (by decide) (by decide) rfl
   have es:stG 1 τ5 (fld 6 (atz 8 v i)) (.int .i64 (k+8*(i:Int)+1+1+1+1+1+1))=some (.tup [],τ6):=es
   have hl6:=stG_len es
   simp +contextual (disch:=omega) only[go_sem,e0,e1,e5,hat,es]
   obtain⟨τ7,es,H⟩:=H.sts hj 1 7 (.bool ((k+8*(i:Int)+1+1+1+1+1+1+1).tmod 3==0)) (⟨mtx (k+8*(i:Int)),⟨k+8*(i:Int)+1,k+8*(i:Int)+1+1⟩,k+8*(i:Int)+1+1+1,⟨k+8*(i:Int)+1+1+1+1,k+8*(i:Int)+1+1+1+1+1⟩,k+8*(i:Int)+1+1+1+1+1+1,((k+8*(i:Int)+1+1+1+1+1+1+1).tmod 3==0)⟩) rfl (by decide) (by decide) rfl
   have es:stG 1 τ6 (fld 7 (atz 8 v i)) (.bool ((k+8*(i:Int)+1+1+1+1+1+1+1).tmod 3==0))=some (.tup [],τ7):=es
   have hl7:=stG_len es
   simp +contextual (disch:=omega) only[go_sem,e0,e1,e5,hat,es]
   have H2:Hp σ τ7 (ow pCell.kd v (L.set i (mCell (k+(8:Nat)*(i:Int))))::rs.eraseIdx i0):=H
   rw[hst] at H2
   exact⟨by omega,by omega,H2⟩
  ·rintro env τ' e5 c0 ⟨e0,e1,hle,H⟩
   rw[mark_end] at H
   have hln:=(H.sl 0 rfl).len
   rw[mkF_length] at hln
   simp +contextual (disch:=omega) only[go_sem,c0,e0,e1,e5,hln]
   exact⟨_,rfl,hle,rfl,H⟩)
 exact⟨τ',hR,H'.unpick hlt⟩
end Go.Proofs.YtffnefmklckngaaGreat.Sy
namespace Go.Proofs.YtffnefmklckngaaGreat.Sy
open Go Go.RowKit
set_option linter.unusedSimpArgs false
set_option linter.unusedVariables false
set_option maxRecDepth 4000
abbrev n_l_markUnitS:Nat:=14
def F_l_markUnitS:Fn1:=⟨156,[.t 4],(.seq (.reg [o 4 (.mov (.k (.int .i64 0)))]) (.seq (.seq (.reg [o 5 (.mov (.k (.int .i64 0)))]) (.blk 0 (.lop (.seq (.seq (.reg [o 6 (.mov (.t 5)),o 7 (.mov (.t 0)),o 8 (.len false (.t 7)),o 9 (.bin .lss (.t 6) (.t 8))]) (.cnd (.t 9) .skip (.ext 0))) (.seq (.blk 1 (.seq (.reg [o 12 (.mov (.t 0)),o 13 (.mov (.t 5)),o 14 (.mov (.t 1)),o 15 (.bin .rem (.t 14) (.k (.int .i64 3))),o 16 (.bin .eql (.t 15) (.k (.int .i64 0))),o 17 (.iad 17 (.t 12) (.t 13)),o 18 (.fad 0 (.t 17)),on (.st 1 (.t 18) (.t 16))]) (.seq (.reg [o 19 (.mov (.t 1)),o 20 (.bin .add (.t 19) (.k (.int .i64 1))),o 1 (.mov (.t 20))]) (.seq (.reg [o 21 (.mov (.t 0)),o 22 (.mov (.t 5)),o 23 (.mov (.t 1)),o 24 (.iad 17 (.t 21) (.t 22)),o 25 (.fad 1 (.t 24)),o 26 (.fad 0 (.t 25)),o 27 (.fad 0 (.t 26)),on (.st 1 (.t 27) (.t 23))]) (.seq (.reg [o 28 (.mov (.t 1)),o 29 (.bin .add (.t 28) (.k (.int .i64 1))),o 1 (.mov (.t 29))]) (.seq (.reg [o 30 (.mov (.t 0)),o 31 (.mov (.t 5)),o 32 (.mov (.t 1)),o 33 (.iad 17 (.t 30) (.t 31)),o 34 (.fad 1 (.t 33)),o 35 (.fad 0 (.t 34)),o 36 (.fad 1 (.t 35)),on (.st 1 (.t 36) (.t 32))]) (.seq (.reg [o 37 (.mov (.t 1)),o 38 (.bin .add (.t 37) (.k (.int .i64 1))),o 1 (.mov (.t 38))]) (.seq (.reg [o 39 (.mov (.t 0)),o 40 (.mov (.t 5)),o 41 (.mov (.t 1)),o 42 (.iad 17 (.t 39) (.t 40)),o 43 (.fad 1 (.t 42)),o 44 (.fad 2 (.t 43)),on (.st 1 (.t 44) (.t 41))]) (.seq (.reg [o 45 (.mov (.t 1)),o 46 (.bin .add (.t 45) (.k (.int .i64 1))),o 1 (.mov (.t 46))]) (.seq (.reg [o 47 (.mov (.t 0)),o 48 (.mov (.t 5)),o 49 (.iad 17 (.t 47) (.t 48)),o 50 (.fad 1 (.t 49)),o 51 (.fad 3 (.t 50)),o 52 (.ld false 1 (.t 51)),o 53 (.mov (.t 1)),o 54 (.call 43 [(.t 52),(.t 53)]),o 1 (.mov (.t 54))]) (.seq (.reg [o 55 (.mov (.t 0)),o 56 (.mov (.t 5)),o 57 (.mov (.t 1)),o 58 (.iad 17 (.t 55) (.t 56)),o 59 (.fad 1 (.t 58)),o 60 (.fad 4 (.t 59)),on (.st 1 (.t 60) (.t 57))]) (.seq (.reg [o 61 (.mov (.t 1)),o 62 (.bin .add (.t 61) (.k (.int .i64 1))),o 1 (.mov (.t 62))]) (.seq (.reg [o 63 (.mov (.t 0)),o 64 (.mov (.t 5)),o 65 (.mov (.t 1)),o 66 (.call 44 [(.t 65)]),o 67 (.iad 17 (.t 63) (.t 64)),o 68 (.fad 1 (.t 67)),o 69 (.fad 5 (.t 68)),on (.st 1 (.t 69) (.t 66))]) (.seq (.reg [o 70 (.mov (.t 1)),o 71 (.bin .add (.t 70) (.k (.int .i64 1))),o 1 (.mov (.t 71))]) (.seq (.reg [o 72 (.mov (.t 0)),o 73 (.mov (.t 5)),o 74 (.mov (.t 1)),o 75 (.call 44 [(.t 74)]),o 76 (.iad 17 (.t 72) (.t 73)),o 77 (.fad 1 (.t 76)),o 78 (.fad 6 (.t 77)),on (.st 1 (.t 78) (.t 75))]) (.seq (.reg [o 79 (.mov (.t 1)),o 80 (.bin .add (.t 79) (.k (.int .i64 1))),o 1 (.mov (.t 80))]) (.seq (.reg [o 81 (.mov (.t 0)),o 82 (.mov (.t 5)),o 83 (.mov (.t 1)),o 84 (.iad 17 (.t 81) (.t 82)),o 85 (.fad 1 (.t 84)),o 86 (.fad 7 (.t 85)),on (.st 1 (.t 86) (.t 83))]) (.seq (.reg [o 87 (.mov (.t 1)),o 88 (.bin .add (.t 87) (.k (.int .i64 1))),o 1 (.mov (.t 88))]) (.seq (.reg [o 89 (.mov (.t 0)),o 90 (.mov (.t 5)),o 91 (.mov (.t 1)),o 92 (.iad 17 (.t 89) (.t 90)),o 93 (.fad 1 (.t 92)),o 94 (.fad 8 (.t 93)),o 95 (.fad 0 (.t 94)),on (.st 1 (.t 95) (.t 91))]) (.seq (.reg [o 96 (.mov (.t 1)),o 97 (.bin .add (.t 96) (.k (.int .i64 1))),o 1 (.mov (.t 97))]) (.seq (.reg [o 98 (.mov (.t 0)),o 99 (.mov (.t 5)),o 100 (.mov (.t 1)),o 101 (.iad 17 (.t 98) (.t 99)),o 102 (.fad 1 (.t 101)),o 103 (.fad 8 (.t 102)),o 104 (.fad 1 (.t 103)),on (.st 1 (.t 104) (.t 100))]) (.seq (.reg [o 105 (.mov (.t 1)),o 106 (.bin .add (.t 105) (.k (.int .i64 1))),o 1 (.mov (.t 106))]) (.seq (.reg [o 107 (.mov (.t 0)),o 108 (.mov (.t 5)),o 109 (.iad 17 (.t 107) (.t 108)),o 110 (.fad 11 (.t 109)),o 111 (.fad 0 (.t 110)),o 112 (.ld false 1 (.t 111)),o 113 (.mov (.t 1)),o 114 (.call 43 [(.t 112),(.t 113)]),o 1 (.mov (.t 114))]) (.seq (.reg [o 115 (.mov (.t 0)),o 116 (.mov (.t 5)),o 117 (.iad 17 (.t 115) (.t 116)),o 118 (.fad 11 (.t 117)),o 119 (.fad 1 (.t 118)),o 120 (.ld false 1 (.t 119)),o 121 (.mov (.t 1)),o 122 (.call 43 [(.t 120),(.t 121)]),o 1 (.mov (.t 122))]) (.seq (.reg [o 123 (.mov (.t 0)),o 124 (.mov (.t 5)),o 125 (.iad 17 (.t 123) (.t 124)),o 126 (.fad 11 (.t 125)),o 127 (.fad 2 (.t 126)),o 128 (.ld false 1 (.t 127)),o 129 (.mov (.t 1)),o 130 (.call 45 [(.t 128),(.t 129)]),o 1 (.mov (.t 130))]) (.seq (.reg [o 131 (.mov (.t 0)),o 132 (.mov (.t 5)),o 133 (.iad 17 (.t 131) (.t 132)),o 134 (.fad 11 (.t 133)),o 135 (.fad 3 (.t 134)),o 136 (.ld false 1 (.t 135)),o 137 (.mov (.t 1)),o 138 (.call 46 [(.t 136),(.t 137)]),o 1 (.mov (.t 138))]) (.seq (.reg [o 139 (.mov (.t 0)),o 140 (.mov (.t 5)),o 141 (.iad 17 (.t 139) (.t 140)),o 142 (.fad 11 (.t 141)),o 143 (.fad 4 (.t 142)),o 144 (.ld false 1 (.t 143)),o 145 (.mov (.t 1)),o 146 (.call 47 [(.t 144),(.t 145)]),o 1 (.mov (.t 146))]) (.reg [o 147 (.mov (.t 0)),o 148 (.mov (.t 5)),o 149 (.iad 17 (.t 147) (.t 148)),o 150 (.fad 11 (.t 149)),o 151 (.fad 5 (.t 150)),o 152 (.ld false 1 (.t 151)),o 153 (.mov (.t 1)),o 154 (.call 48 [(.t 152),(.t 153)]),o 1 (.mov (.t 154))])))))))))))))))))))))))))))) (.reg [o 10 (.mov (.t 5)),o 11 (.bin .add (.t 10) (.k (.int .i64 1))),o 5 (.mov (.t 11))])))))) (.seq (.reg [o 155 (.mov (.t 1)),o 4 (.mov (.t 155))]) .ret)))⟩
theorem ir_l_markUnitS:compFn Tryz.prog n_l_markUnitS=some F_l_markUnitS:=by kernel_rfl
def ctU (x:Unit_):Nat:=1+(ctE x.act+ctDelta x.delta)
def kU (k:Int) (x:Unit_):Int:=kE (k+1) x.act+1+1+1+1+1+1
def mUnitE (k:Int) (x:Unit_):Unit_:=⟨k.tmod 3==0,mActE (k+1) x.act,mkDelta (kU k x) x.delta⟩
abbrev dItems (x:Delta) (d0 d1 d2 d3 d4 d5:GV):List Item:=[.th (ow pI.kd d0 x.base),.th (ow pI.kd d1 x.know),.th (ow pTally.kd d2 x.tallies),.th (ow pLive.kd d3 x.lives),.th (ow pDot.kd d4 x.dead),.th (ow pCell.kd d5 x.cells)]
def zmU (v:GV) (l L:List Unit_) (i:Nat) (R h:List Item):Prop:=(∃ hi:i<l.length,∃ kv d0 d1 d2 d3 d4 d5,h= .th (ow pI.kd d0 l[i].delta.base)::.th (ow pI.kd d1 l[i].delta.know)::.th (ow pTally.kd d2 l[i].delta.tallies)::.th (ow pLive.kd d3 l[i].delta.lives)::.th (ow pDot.kd d4 l[i].delta.dead)::.th (ow pCell.kd d5 l[i].delta.cells)::.th (ow pI.kd kv l[i].act.knew)::.th (hole kUnit_ v L i [.bool l[i].batch,gi l[i].act.dot.rep,gi l[i].act.dot.seq,gi l[i].act.time,kv,gi l[i].act.kind,.str l[i].act.obj,.str l[i].act.key,gi l[i].act.val,gi l[i].act.ref.rep,gi l[i].act.ref.seq,d0,d1,d2,d3,d4,d5])::R)∨(i=l.length∧h= .th (ow kUnit_ v L)::R)
theorem zmU_of {σ τ:St} {v:GV} {l L:List Unit_} {i:Nat} {R:List Item} (H:Hx σ τ (.th (ow kUnit_ v L)::R)) (hle:i≤l.length) (hat:∀ hi:i<l.length,∃ h,L[i]'h=l[i]):∃ h,Hx σ τ h∧zmU v l L i R h:=by
 by_cases hi:i<l.length
 ·obtain⟨hj,e⟩:=hat hi
  obtain⟨cs,Z⟩:=Hp.zoom H.hp hj
  rw[e] at Z
  obtain⟨v1,v2,rfl,Z⟩:=Z.splitUnit_
  obtain⟨kv,rfl,Z⟩:=Z.splitAct
  obtain⟨d0,d1,d2,d3,d4,d5,rfl,Z⟩:=(Z.pick 1 rfl).splitDelta
  refine⟨_,?_,.inl ⟨hi,kv,d0,d1,d2,d3,d4,d5,rfl⟩⟩
  exact Z
 ·exact⟨_,H,.inr ⟨by omega,rfl⟩⟩
set_option maxHeartbeats 4000000 in
theorem l_markUnitS_ret {σ τ:St} {rs:List Thg} (i0:Nat) (v:GV) (l:List Unit_) (k:Int) (H:Hp σ τ rs) (hi0:rs[i0]? =some (ow kUnit_ v l)) (h0:0≤k) (hk:k+(sumL ctU l:Nat)≤4611686018427387904):∃ τ',Ret Tryz.prog n_l_markUnitS [v,gi k] τ (gi (k+(sumL ctU l:Nat))) τ'∧Hp σ τ' (rs.set i0 (ow kUnit_ v (mkRow mUnitE ctU k l))):=by
 have hlt:=(List.getElem?_eq_some_iff.1 hi0).1
 obtain⟨R,hR⟩:∃ R:List Item,R=(rs.eraseIdx i0).map Item.th:=⟨_,rfl⟩
 have H1:Hx σ τ (.th (ow kUnit_ v l)::R):=by rw[hR];exact Hx.of (H.pick i0 hi0)
 have key:∃ w τ',Ret Tryz.prog n_l_markUnitS [v,gi k] τ w τ'∧(w=gi (k+(sumL ctU l:Nat))∧Hx σ τ' (.th (ow kUnit_ v (mkRow mUnitE ctU k l))::R)):=by
  refine ret_x ir_l_markUnitS (Nat.le_of_ble_eq_true rfl) H1 ?_
  have hlen:=(H1.hp.sl 0 rfl).len
  simp +contextual (disch:=omega) only[go_sem,F_l_markUnitS]
  obtain⟨hz,HZ,Z0⟩:=zmU_of (l:=l) (i:=0) H1 (by omega) (fun hi=>⟨hi,rfl⟩)
  refine sx_for l.length 5 0 (fun i env h=>env 0=v∧env 1=gi (k+(sumL ctU (l.take i):Nat))∧zmU v l (mkRow mUnitE ctU k (l.take i)++l.drop i) i R h) (fun env h=>env 1=gi (k+(sumL ctU l:Nat))∧h= .th (ow kUnit_ v (mkRow mUnitE ctU k l))::R) (fun _ _=>False) hz HZ (by simp +contextual (disch:=omega) only[go_sem]) ⟨by simp +contextual (disch:=omega) only[go_sem],by simp +contextual (disch:=omega) only[go_sem];simp[sumL],Z0⟩ ?_ ?_ ?_ (fun _ _ _ _ h=>h.elim)
  ·clear H1 HZ Z0 H hi0
   rintro J Y W hJ hY hW i env h' τ hi ei c0 H ⟨e0,e1,hz⟩
   rcases hz with⟨_,kv,d0,d1,d2,d3,d4,d5,rfl⟩|⟨hz,_⟩
   rotate_left
   ·omega
   obtain⟨q,hq⟩:∃ q,q=k+(sumL ctU (l.take i):Nat):=⟨_,rfl⟩
   have hs:=sumL_snoc (f:=ctU) hi
   have hst:=sumL_take_le ctU l (i+1)
   have hce:ctU l[i]=10+l[i].act.knew.length+ctDelta l[i].delta:=by unfold ctU ctE;omega
   have hqb:0≤q∧q+10+(l[i].act.knew.length:Int)+(ctDelta l[i].delta:Nat)≤4611686018427387904:=by omega
   rw[← hq] at e1
   obtain⟨hj,eL⟩:=mkRow_at (f:=mUnitE) (c:=ctU) (k:=k) hi
   generalize hLL:mkRow mUnitE ctU k (l.take i)++l.drop i=L at*
   obtain⟨z1,z2,z3,_⟩:=H.hole_rd 7 rfl hj
   have z1:iadG 17 v (some i)=some (atz 17 v i):=z1
   have z2:∀ k,fadG k (atz 17 v i)=some (fld k (atz 17 v i)):=z2
   have z3:∀ k m,fadG k (fld m (atz 17 v i))=some (fld (m+k) (atz 17 v i)):=z3
   have hln:=len_sumL (c:=ctU) (fun x=>by unfold ctU;omega) l
   have hib:l.length≤4611686018427387904:=by omega
   have hq':q+10+(l[i].act.knew.length:Int)+(ctDelta l[i].delta:Nat)=k+(sumL ctU (l.take (i+1)):Nat):=by omega
   clear hs hst hce hk hln
   simp +contextual (disch:=omega) only[go_sem,c0,e0,e1,ei,natOf_nat,hlen,z1,z2,z3]
   refine by_sth H 7 rfl hj (d:=kUnit_) (k:=0) rfl (by decide) (by decide) fun τ1 H1=> ?_
   simp +contextual (disch:=omega) only[go_sem,e0,e1,ei,natOf_nat,z1,z2,z3]
   refine by_sth H1 7 rfl hj (d:=kUnit_) (k:=1) rfl (by decide) (by decide) fun τ2 H2=> ?_
   simp +contextual (disch:=omega) only[go_sem,e0,e1,ei,natOf_nat,z1,z2,z3]
   refine by_sth H2 7 rfl hj (d:=kUnit_) (k:=2) rfl (by decide) (by decide) fun τ3 H3=> ?_
   simp +contextual (disch:=omega) only[go_sem,e0,e1,ei,natOf_nat,z1,z2,z3]
   refine by_sth H3 7 rfl hj (d:=kUnit_) (k:=3) rfl (by decide) (by decide) fun τ4 H4=> ?_
   have H4:Hx σ τ4 (.th (ow pI.kd d0 l[i].delta.base)::.th (ow pI.kd d1 l[i].delta.know)::.th (ow pTally.kd d2 l[i].delta.tallies)::.th (ow pLive.kd d3 l[i].delta.lives)::.th (ow pDot.kd d4 l[i].delta.dead)::.th (ow pCell.kd d5 l[i].delta.cells)::.th (ow pI.kd kv l[i].act.knew)::.th (hole kUnit_ v L i [.bool (q.tmod 3==0),gi (q+1),gi (q+1+1),gi (q+1+1+1),kv,gi l[i].act.kind,.str l[i].act.obj,.str l[i].act.key,gi l[i].act.val,gi l[i].act.ref.rep,gi l[i].act.ref.seq,d0,d1,d2,d3,d4,d5])::R):=H4
   have w4:ldX σ _ τ4 false 1 (fld 4 (atz 17 v i))=some kv:=ldX_own H4 ((H4.hole_rd 7 rfl hj).2.2.2 4 1 false (by decide))
   simp +contextual (disch:=omega) only[go_sem,e0,e1,ei,natOf_nat,z1,z2,z3,w4]
   obtain⟨τ5,R5,K5⟩:=l_markIntS_ret 6 kv l[i].act.knew (q+1+1+1+1) H4.hp rfl (by omega) (by omega)
   refine by_mset 6 R5 K5 fun H5=> ?_
   obtain⟨p,hp⟩:∃ p,p=q+1+1+1+1+1*(l[i].act.knew.length:Int):=⟨_,rfl⟩
   have hpb:0≤p∧p+6+(ctDelta l[i].delta:Nat)≤4611686018427387904:=by omega
   have hdl:(ctDelta l[i].delta:Nat)=1*l[i].delta.base.length+1*l[i].delta.know.length+3*l[i].delta.tallies.length+6*l[i].delta.lives.length+2*l[i].delta.dead.length+8*l[i].delta.cells.length:=rfl
   simp +contextual (disch:=omega) only[go_sem,e0,e1,ei,natOf_nat,z1,z2,z3,←hp]
   refine by_sth H5 7 rfl hj (d:=kUnit_) (k:=5) rfl (by decide) (by decide) fun τ6 H6=> ?_
   simp +contextual (disch:=omega) only[go_sem,e0,e1,ei,natOf_nat,z1,z2,z3]
   refine by_r H6 (l_markText_ret _ _ (by omega)) ?_
   simp +contextual (disch:=omega) only[go_sem,e0,e1,ei,natOf_nat,z1,z2,z3]
   refine by_sth H6 7 rfl hj (d:=kUnit_) (k:=6) rfl (by decide) (by decide) fun τ7 H7=> ?_
   simp +contextual (disch:=omega) only[go_sem,e0,e1,ei,natOf_nat,z1,z2,z3]
   refine by_r H7 (l_markText_ret _ _ (by omega)) ?_
   simp +contextual (disch:=omega) only[go_sem,e0,e1,ei,natOf_nat,z1,z2,z3]
   refine by_sth H7 7 rfl hj (d:=kUnit_) (k:=7) rfl (by decide) (by decide) fun τ8 H8=> ?_
   simp +contextual (disch:=omega) only[go_sem,e0,e1,ei,natOf_nat,z1,z2,z3]
   refine by_sth H8 7 rfl hj (d:=kUnit_) (k:=8) rfl (by decide) (by decide) fun τ9 H9=> ?_
   simp +contextual (disch:=omega) only[go_sem,e0,e1,ei,natOf_nat,z1,z2,z3]
   refine by_sth H9 7 rfl hj (d:=kUnit_) (k:=9) rfl (by decide) (by decide) fun τ10 H10=> ?_
   simp +contextual (disch:=omega) only[go_sem,e0,e1,ei,natOf_nat,z1,z2,z3]
   refine by_sth H10 7 rfl hj (d:=kUnit_) (k:=10) rfl (by decide) (by decide) fun τ11 H11=> ?_
   have H11:Hx σ τ11 (.th (ow pI.kd d0 l[i].delta.base)::.th (ow pI.kd d1 l[i].delta.know)::.th (ow pTally.kd d2 l[i].delta.tallies)::.th (ow pLive.kd d3 l[i].delta.lives)::.th (ow pDot.kd d4 l[i].delta.dead)::.th (ow pCell.kd d5 l[i].delta.cells)::.th (ow pI.kd kv (mkF mInt 1 (q+1+1+1+1) l[i].act.knew.length))::.th (hole kUnit_ v L i [.bool (q.tmod 3==0),gi (q+1),gi (q+1+1),gi (q+1+1+1),kv,gi p,.str (mtx (p+1)),.str (mtx (p+1+1)),gi (p+1+1+1),gi (p+1+1+1+1),gi (p+1+1+1+1+1),d0,d1,d2,d3,d4,d5])::R):=H11
   have w11:ldX σ _ τ11 false 1 (fld 11 (atz 17 v i))=some d0:=ldX_own H11 ((H11.hole_rd 7 rfl hj).2.2.2 11 1 false (by decide))
   simp +contextual (disch:=omega) only[go_sem,e0,e1,ei,natOf_nat,z1,z2,z3,w11]
   obtain⟨τ12,R12,K12⟩:=l_markIntS_ret 0 d0 l[i].delta.base (p+1+1+1+1+1+1) H11.hp rfl (by omega) (by omega)
   refine by_mset 0 R12 K12 fun H12=> ?_
   have H12:Hx σ τ12 (.th (ow pI.kd d0 (mkF mInt 1 (p+1+1+1+1+1+1) l[i].delta.base.length))::.th (ow pI.kd d1 l[i].delta.know)::.th (ow pTally.kd d2 l[i].delta.tallies)::.th (ow pLive.kd d3 l[i].delta.lives)::.th (ow pDot.kd d4 l[i].delta.dead)::.th (ow pCell.kd d5 l[i].delta.cells)::.th (ow pI.kd kv (mkF mInt 1 (q+1+1+1+1) l[i].act.knew.length))::.th (hole kUnit_ v L i [.bool (q.tmod 3==0),gi (q+1),gi (q+1+1),gi (q+1+1+1),kv,gi p,.str (mtx (p+1)),.str (mtx (p+1+1)),gi (p+1+1+1),gi (p+1+1+1+1),gi (p+1+1+1+1+1),d0,d1,d2,d3,d4,d5])::R):=H12
   have w12:ldX σ _ τ12 false 1 (fld 12 (atz 17 v i))=some d1:=ldX_own H12 ((H12.hole_rd 7 rfl hj).2.2.2 12 1 false (by decide))
   simp +contextual (disch:=omega) only[go_sem,e0,e1,ei,natOf_nat,z1,z2,z3,w12]
   obtain⟨τ13,R13,K13⟩:=l_markIntS_ret 1 d1 l[i].delta.know (p+1+1+1+1+1+1+1*(l[i].delta.base.length:Int)) H12.hp rfl (by omega) (by omega)
   refine by_mset 1 R13 K13 fun H13=> ?_
   have H13:Hx σ τ13 (.th (ow pI.kd d0 (mkF mInt 1 (p+1+1+1+1+1+1) l[i].delta.base.length))::.th (ow pI.kd d1 (mkF mInt 1 (p+1+1+1+1+1+1+1*(l[i].delta.base.length:Int)) l[i].delta.know.length))::.th (ow pTally.kd d2 l[i].delta.tallies)::.th (ow pLive.kd d3 l[i].delta.lives)::.th (ow pDot.kd d4 l[i].delta.dead)::.th (ow pCell.kd d5 l[i].delta.cells)::.th (ow pI.kd kv (mkF mInt 1 (q+1+1+1+1) l[i].act.knew.length))::.th (hole kUnit_ v L i [.bool (q.tmod 3==0),gi (q+1),gi (q+1+1),gi (q+1+1+1),kv,gi p,.str (mtx (p+1)),.str (mtx (p+1+1)),gi (p+1+1+1),gi (p+1+1+1+1),gi (p+1+1+1+1+1),d0,d1,d2,d3,d4,d5])::R):=H13
   have w13:ldX σ _ τ13 false 1 (fld 13 (atz 17 v i))=some d2:=ldX_own H13 ((H13.hole_rd 7 rfl hj).2.2.2 13 1 false (by decide))
   simp +contextual (disch:=omega) only[go_sem,e0,e1,ei,natOf_nat,z1,z2,z3,w13]
   obtain⟨τ14,R14,K14⟩:=l_markTallyS_ret 2 d2 l[i].delta.tallies (p+1+1+1+1+1+1+1*(l[i].delta.base.length:Int)+1*(l[i].delta.know.length:Int)) H13.hp rfl (by omega) (by omega)
   refine by_mset 2 R14 K14 fun H14=> ?_
   have H14:Hx σ τ14 (.th (ow pI.kd d0 (mkF mInt 1 (p+1+1+1+1+1+1) l[i].delta.base.length))::.th (ow pI.kd d1 (mkF mInt 1 (p+1+1+1+1+1+1+1*(l[i].delta.base.length:Int)) l[i].delta.know.length))::.th (ow pTally.kd d2 (mkF mTally 3 (p+1+1+1+1+1+1+1*(l[i].delta.base.length:Int)+1*(l[i].delta.know.length:Int)) l[i].delta.tallies.length))::.th (ow pLive.kd d3 l[i].delta.lives)::.th (ow pDot.kd d4 l[i].delta.dead)::.th (ow pCell.kd d5 l[i].delta.cells)::.th (ow pI.kd kv (mkF mInt 1 (q+1+1+1+1) l[i].act.knew.length))::.th (hole kUnit_ v L i [.bool (q.tmod 3==0),gi (q+1),gi (q+1+1),gi (q+1+1+1),kv,gi p,.str (mtx (p+1)),.str (mtx (p+1+1)),gi (p+1+1+1),gi (p+1+1+1+1),gi (p+1+1+1+1+1),d0,d1,d2,d3,d4,d5])::R):=H14
   have w14:ldX σ _ τ14 false 1 (fld 14 (atz 17 v i))=some d3:=ldX_own H14 ((H14.hole_rd 7 rfl hj).2.2.2 14 1 false (by decide))
   simp +contextual (disch:=omega) only[go_sem,e0,e1,ei,natOf_nat,z1,z2,z3,w14]
   obtain⟨τ15,R15,K15⟩:=l_markLiveS_ret 3 d3 l[i].delta.lives (p+1+1+1+1+1+1+1*(l[i].delta.base.length:Int)+1*(l[i].delta.know.length:Int)+3*(l[i].delta.tallies.length:Int)) H14.hp rfl (by omega) (by omega)
   refine by_mset 3 R15 K15 fun H15=> ?_
   have H15:Hx σ τ15 (.th (ow pI.kd d0 (mkF mInt 1 (p+1+1+1+1+1+1) l[i].delta.base.length))::.th (ow pI.kd d1 (mkF mInt 1 (p+1+1+1+1+1+1+1*(l[i].delta.base.length:Int)) l[i].delta.know.length))::.th (ow pTally.kd d2 (mkF mTally 3 (p+1+1+1+1+1+1+1*(l[i].delta.base.length:Int)+1*(l[i].delta.know.length:Int)) l[i].delta.tallies.length))::.th (ow pLive.kd d3 (mkF mLive 6 (p+1+1+1+1+1+1+1*(l[i].delta.base.length:Int)+1*(l[i].delta.know.length:Int)+3*(l[i].delta.tallies.length:Int)) l[i].delta.lives.length))::.th (ow pDot.kd d4 l[i].delta.dead)::.th (ow pCell.kd d5 l[i].delta.cells)::.th (ow pI.kd kv (mkF mInt 1 (q+1+1+1+1) l[i].act.knew.length))::.th (hole kUnit_ v L i [.bool (q.tmod 3==0),gi (q+1),gi (q+1+1),gi (q+1+1+1),kv,gi p,.str (mtx (p+1)),.str (mtx (p+1+1)),gi (p+1+1+1),gi (p+1+1+1+1),gi (p+1+1+1+1+1),d0,d1,d2,d3,d4,d5])::R):=H15
   have w15:ldX σ _ τ15 false 1 (fld 15 (atz 17 v i))=some d4:=ldX_own H15 ((H15.hole_rd 7 rfl hj).2.2.2 15 1 false (by decide))
   simp +contextual (disch:=omega) only[go_sem,e0,e1,ei,natOf_nat,z1,z2,z3,w15]
   obtain⟨τ16,R16,K16⟩:=l_markDotS_ret 4 d4 l[i].delta.dead (p+1+1+1+1+1+1+1*(l[i].delta.base.length:Int)+1*(l[i].delta.know.length:Int)+3*(l[i].delta.tallies.length:Int)+6*(l[i].delta.lives.length:Int)) H15.hp rfl (by omega) (by omega)
   refine by_mset 4 R16 K16 fun H16=> ?_
   have H16:Hx σ τ16 (.th (ow pI.kd d0 (mkF mInt 1 (p+1+1+1+1+1+1) l[i].delta.base.length))::.th (ow pI.kd d1 (mkF mInt 1 (p+1+1+1+1+1+1+1*(l[i].delta.base.length:Int)) l[i].delta.know.length))::.th (ow pTally.kd d2 (mkF mTally 3 (p+1+1+1+1+1+1+1*(l[i].delta.base.length:Int)+1*(l[i].delta.know.length:Int)) l[i].delta.tallies.length))::.th (ow pLive.kd d3 (mkF mLive 6 (p+1+1+1+1+1+1+1*(l[i].delta.base.length:Int)+1*(l[i].delta.know.length:Int)+3*(l[i].delta.tallies.length:Int)) l[i].delta.lives.length))::.th (ow pDot.kd d4 (mkF mDot 2 (p+1+1+1+1+1+1+1*(l[i].delta.base.length:Int)+1*(l[i].delta.know.length:Int)+3*(l[i].delta.tallies.length:Int)+6*(l[i].delta.lives.length:Int)) l[i].delta.dead.length))::.th (ow pCell.kd d5 l[i].delta.cells)::.th (ow pI.kd kv (mkF mInt 1 (q+1+1+1+1) l[i].act.knew.length))::.th (hole kUnit_ v L i [.bool (q.tmod 3==0),gi (q+1),gi (q+1+1),gi (q+1+1+1),kv,gi p,.str (mtx (p+1)),.str (mtx (p+1+1)),gi (p+1+1+1),gi (p+1+1+1+1),gi (p+1+1+1+1+1),d0,d1,d2,d3,d4,d5])::R):=H16
   have w16:ldX σ _ τ16 false 1 (fld 16 (atz 17 v i))=some d5:=ldX_own H16 ((H16.hole_rd 7 rfl hj).2.2.2 16 1 false (by decide))
   simp +contextual (disch:=omega) only[go_sem,e0,e1,ei,natOf_nat,z1,z2,z3,w16]
   obtain⟨τ17,R17,K17⟩:=l_markCellS_ret 5 d5 l[i].delta.cells (p+1+1+1+1+1+1+1*(l[i].delta.base.length:Int)+1*(l[i].delta.know.length:Int)+3*(l[i].delta.tallies.length:Int)+6*(l[i].delta.lives.length:Int)+2*(l[i].delta.dead.length:Int)) H16.hp rfl (by omega) (by omega)
   refine by_mset 5 R17 K17 fun H17=> ?_
   simp +contextual (disch:=omega) only[go_sem,e0,e1,ei,natOf_nat,z1,z2,z3]
   have HO:Hx σ τ17 (.th (ow kUnit_ v (L.set i (mUnitE q l[i])))::R):=by
    have A:Hp σ τ17 _:=H17.hp
    have A1:=(Hp.ownDelta (x:=mkDelta (p+1+1+1+1+1+1) l[i].delta) A).pick 1 rfl
    have A2:=Hp.ownAct (x:=mActE (q+1) l[i].act) (v2:=kv) (by simp only[mActE];exact A1)
    have e:mUnitE q l[i]=⟨q.tmod 3==0,mActE (q+1) l[i].act,mkDelta (p+1+1+1+1+1+1) l[i].delta⟩:=by simp only[mUnitE,kU,kE,←hp]
    have A3:=Hp.ownUnit_ (x:=mUnitE q l[i]) (by rw[e];exact A2)
    exact Hp.unzoom (y:=mUnitE q l[i]) (by simp only[mUnitE,mActE,kE,←hp] at A3 ⊢;exact A3) hj
   obtain⟨hz,HZ,Z0⟩:=zmU_of (l:=l) (L:=L.set i (mUnitE q l[i])) (i:=i+1) HO (by omega) (fun h2=>by
    rw[← hLL,mkRow_set (y:=mUnitE q l[i]) hi (by rw[hq])]
    exact mkRow_at h2)
   refine hJ _ _ _ _ HZ ⟨by simp +contextual (disch:=omega) only[go_sem,e0],by simp +contextual (disch:=omega) only[go_sem];first|omega|(congr 1;omega),?_⟩
   rw[← mkRow_set (y:=mUnitE q l[i]) hi (by rw[hq]),hLL];exact Z0
  ·clear H1 HZ Z0 H hi0
   rintro Y hY env h' τ ei c0 H ⟨e0,e1,hz⟩
   rcases hz with⟨hi,_⟩|⟨_,rfl⟩
   ·omega
   simp +contextual (disch:=omega) only[go_sem,c0,e0,ei,hlen]
   exact hY _ _ _ H ⟨by simp +contextual (disch:=omega) only[go_sem,e1,List.take_length],by rw[mkRow_full]⟩
  ·rintro env h' τ H ⟨e1,rfl⟩
   simp +contextual (disch:=omega) only[go_sem,e1]
   exact fun _=>⟨_,rfl,rfl⟩
 obtain⟨w,τ',R',rfl,h⟩:=key
 refine⟨τ',R',?_⟩
 rw[hR] at h
 have h:=h.hp
 rw[List.map_cons,show((rs.eraseIdx i0).map Item.th).map Item.t=rs.eraseIdx i0 by simp[List.map_map,Function.comp_def,Item.t]] at h
 exact h.unpick hlt
end Go.Proofs.YtffnefmklckngaaGreat.Sy
namespace Go.Proofs.YtffnefmklckngaaGreat.Sy
open Go Go.RowKit
set_option linter.unusedSimpArgs false
set_option linter.unusedVariables false
abbrev n_l_szIntS:Nat:=62
def F_l_szIntS:Fn1:=⟨12,[.t 4],(.seq (.reg [o 4 (.mov (.k (.int .i64 0)))]) (.seq (.reg [o 5 (.mov (.t 1)),o 6 (.mov (.t 0)),o 7 (.len false (.t 6)),o 8 (.bin .sub (.t 5) (.t 7)),o 1 (.mov (.t 8))]) (.seq (.seq (.reg [o 9 (.mov (.t 1)),o 10 (.bin .lss (.t 9) (.k (.int .i64 0)))]) (.cnd (.t 10) (.seq (.reg [o 4 (.mov (.k (.int .i64 (-1))))]) .ret) .skip)) (.seq (.reg [o 11 (.mov (.t 1)),o 4 (.mov (.t 11))]) .ret))))⟩
theorem ir_l_szIntS:compFn Tryz.prog n_l_szIntS=some F_l_szIntS:=by kernel_rfl
theorem l_szIntS_ret (σ:St) (v:GV) (l:List Int) (hR:RS pI.kd σ v l) (n:Int) (hw:l.length≤9223372036854775807) (h0:0≤n) (h1:n≤1099511627776):Ret Tryz.prog n_l_szIntS [v,gi n] σ (gi (lf n l.length)) σ:=by
 refine ret_eq ir_l_szIntS (Nat.le_of_ble_eq_true rfl) trivial ?_
 simp +contextual (disch:=omega) only[go_sem,F_l_szIntS,hR.len]
 refine⟨fun h=> ?_,fun h=> ?_⟩
 ·rw[lf,if_pos (of_decide_eq_true h)]
 ·rw[lf,if_neg (of_decide_eq_false h)]
end Go.Proofs.YtffnefmklckngaaGreat.Sy
namespace Go.Proofs.YtffnefmklckngaaGreat.Sy
open Go Go.RowKit
set_option linter.unusedSimpArgs false
set_option linter.unusedVariables false
abbrev n_l_szAct:Nat:=101
def F_l_szAct:Fn1:=⟨26,[.t 4],(.seq (.reg [o 2 (.box (.t 0)),o 4 (.mov (.k (.int .i64 0)))]) (.seq (.reg [o 5 (.fad 3 (.t 2)),o 6 (.ld false 1 (.t 5)),o 7 (.mov (.t 1)),o 8 (.call 62 [(.t 6),(.t 7)]),o 1 (.mov (.t 8))]) (.seq (.seq (.reg [o 9 (.mov (.t 1)),o 10 (.bin .lss (.t 9) (.k (.int .i64 0)))]) (.cnd (.t 10) (.seq (.reg [o 4 (.mov (.k (.int .i64 (-1))))]) .ret) .skip)) (.seq (.reg [o 11 (.mov (.t 1)),o 12 (.fad 5 (.t 2)),o 13 (.ld false 1 (.t 12)),o 14 (.len true (.t 13)),o 15 (.bin .sub (.t 11) (.t 14)),o 1 (.mov (.t 15))]) (.seq (.seq (.reg [o 16 (.mov (.t 1)),o 17 (.bin .lss (.t 16) (.k (.int .i64 0)))]) (.cnd (.t 17) (.seq (.reg [o 4 (.mov (.k (.int .i64 (-1))))]) .ret) .skip)) (.seq (.reg [o 18 (.mov (.t 1)),o 19 (.fad 6 (.t 2)),o 20 (.ld false 1 (.t 19)),o 21 (.len true (.t 20)),o 22 (.bin .sub (.t 18) (.t 21)),o 1 (.mov (.t 22))]) (.seq (.seq (.reg [o 23 (.mov (.t 1)),o 24 (.bin .lss (.t 23) (.k (.int .i64 0)))]) (.cnd (.t 24) (.seq (.reg [o 4 (.mov (.k (.int .i64 (-1))))]) .ret) .skip)) (.seq (.reg [o 25 (.mov (.t 1)),o 4 (.mov (.t 25))]) .ret))))))))⟩
theorem ir_l_szAct:compFn Tryz.prog n_l_szAct=some F_l_szAct:=by kernel_rfl
theorem l_szAct_ret (σ:St) (cs:List GV) (x:Act) (hR:kAct.R σ x cs) (n:Int) (hw:wAct x) (h0:0≤n) (h1:n≤1099511627776):Ret Tryz.prog n_l_szAct [.agg cs,gi n] σ (gi (lf n (msAct x))) σ:=by
 obtain⟨v2,rfl,q2⟩:=hR
 obtain⟨w0,w1,w2⟩:=hw
 refine ret_eq ir_l_szAct (Nat.le_of_ble_eq_true rfl) trivial ?_
 simp +contextual (disch:=omega) only[go_sem,F_l_szAct,List.append_nil]
 refine by_ret (l_szIntS_ret _ v2 x.knew (q2.pre (pre1 _ _)) (n) w0 (by omega) (by omega)) ?_
 simp +contextual (disch:=omega) only[go_sem,List.append_nil]
 have g0:= @lf_le (n) (x.knew.length) (by omega)
 refine⟨fun hn=> ?_,fun hn=> ?_⟩
 ·have hn:=of_decide_eq_true hn
  have hn:=lf_neg.1 hn
  unfold msAct lf;rw[if_pos (by omega)]
 have hn:=of_decide_eq_false hn
 have f0:=lf_some hn
 try simp(disch:=omega) only[wrap_add]
 refine⟨fun hn=> ?_,fun hn=> ?_⟩
 ·have hn:=of_decide_eq_true hn
  unfold msAct lf;rw[if_pos (by omega)]
 have hn:=of_decide_eq_false hn
 try simp(disch:=omega) only[wrap_add]
 refine⟨fun hn=> ?_,fun hn=> ?_⟩
 ·have hn:=of_decide_eq_true hn
  unfold msAct lf;rw[if_pos (by omega)]
 have hn:=of_decide_eq_false hn
 try simp(disch:=omega) only[wrap_add]
 unfold msAct;rw[show lf n (x.knew.length+x.obj.size+x.key.size)=n - ((x.knew.length+x.obj.size+x.key.size:Nat):Int) by unfold lf;rw[if_neg (by omega)]];try omega
end Go.Proofs.YtffnefmklckngaaGreat.Sy
namespace Go.Proofs.YtffnefmklckngaaGreat.Sy
open Go Go.RowKit
set_option linter.unusedSimpArgs false
set_option linter.unusedVariables false
abbrev n_l_szCell:Nat:=123
def F_l_szCell:Fn1:=⟨13,[.t 4],(.seq (.reg [o 2 (.box (.t 0)),o 4 (.mov (.k (.int .i64 0)))]) (.seq (.reg [o 5 (.mov (.t 1)),o 6 (.fad 0 (.t 2)),o 7 (.ld false 1 (.t 6)),o 8 (.len true (.t 7)),o 9 (.bin .sub (.t 5) (.t 8)),o 1 (.mov (.t 9))]) (.seq (.seq (.reg [o 10 (.mov (.t 1)),o 11 (.bin .lss (.t 10) (.k (.int .i64 0)))]) (.cnd (.t 11) (.seq (.reg [o 4 (.mov (.k (.int .i64 (-1))))]) .ret) .skip)) (.seq (.reg [o 12 (.mov (.t 1)),o 4 (.mov (.t 12))]) .ret))))⟩
theorem ir_l_szCell:compFn Tryz.prog n_l_szCell=some F_l_szCell:=by kernel_rfl
theorem l_szCell_ret (σ:St) (x:Cell) (n:Int) (hw:wCell x) (h0:0≤n) (h1:n≤1099511627776):Ret Tryz.prog n_l_szCell [.agg [.str x.obj,.int .i64 x.dot.rep,.int .i64 x.dot.seq,.int .i64 x.time,.int .i64 x.ref.rep,.int .i64 x.ref.seq,.int .i64 x.val,.bool x.gone],gi n] σ (gi (lf n (msCell x))) σ:=by
 have w0:=hw;unfold wCell at w0
 refine ret_eq ir_l_szCell (Nat.le_of_ble_eq_true rfl) trivial ?_
 simp +contextual (disch:=omega) only[go_sem,F_l_szCell,List.append_nil]
 refine⟨fun hn=> ?_,fun hn=> ?_⟩
 ·have hn:=of_decide_eq_true hn
  unfold msCell lf;rw[if_pos (by omega)]
 have hn:=of_decide_eq_false hn
 try simp(disch:=omega) only[wrap_add]
 unfold msCell;rw[show lf n (x.obj.size)=n - ((x.obj.size:Nat):Int) by unfold lf;rw[if_neg (by omega)]];try omega
end Go.Proofs.YtffnefmklckngaaGreat.Sy
namespace Go.Proofs.YtffnefmklckngaaGreat.Sy
open Go Go.RowKit
set_option linter.unusedSimpArgs false
set_option linter.unusedVariables false
abbrev n_l_szCellS:Nat:=65
def F_l_szCellS:Fn1:=⟨27,[.t 4],(.seq (.reg [o 4 (.mov (.k (.int .i64 0)))]) (.seq (.reg [o 6 (.mov (.t 1)),o 7 (.mov (.t 0)),o 8 (.len false (.t 7)),o 9 (.bin .sub (.t 6) (.t 8)),o 1 (.mov (.t 9))]) (.seq (.seq (.reg [o 10 (.mov (.t 1)),o 11 (.bin .lss (.t 10) (.k (.int .i64 0)))]) (.cnd (.t 11) (.seq (.reg [o 4 (.mov (.k (.int .i64 (-1))))]) .ret) .skip)) (.seq (.seq (.reg [o 5 (.mov (.k (.int .i64 0)))]) (.blk 0 (.lop (.seq (.seq (.reg [o 12 (.mov (.t 5)),o 13 (.mov (.t 0)),o 14 (.len false (.t 13)),o 15 (.bin .lss (.t 12) (.t 14))]) (.cnd (.t 15) .skip (.ext 0))) (.seq (.blk 1 (.seq (.reg [o 18 (.mov (.t 0)),o 19 (.mov (.t 5)),o 20 (.iad 8 (.t 18) (.t 19)),o 21 (.ld true 8 (.t 20)),o 22 (.mov (.t 1)),o 23 (.call 123 [(.t 21),(.t 22)]),o 1 (.mov (.t 23))]) (.seq (.reg [o 24 (.mov (.t 1)),o 25 (.bin .lss (.t 24) (.k (.int .i64 0)))]) (.cnd (.t 25) (.seq (.reg [o 4 (.mov (.k (.int .i64 (-1))))]) .ret) .skip)))) (.reg [o 16 (.mov (.t 5)),o 17 (.bin .add (.t 16) (.k (.int .i64 1))),o 5 (.mov (.t 17))])))))) (.seq (.reg [o 26 (.mov (.t 1)),o 4 (.mov (.t 26))]) .ret)))))⟩
theorem ir_l_szCellS:compFn Tryz.prog n_l_szCellS=some F_l_szCellS:=by kernel_rfl
theorem l_szCellS_ret (σ:St) (v:GV) (l:List Cell) (hR:RS pCell.kd σ v l) (n:Int) (hw:l.length≤9223372036854775807∧∀ y∈l,wCell y) (h0:0≤n) (h1:n≤1099511627776):Ret Tryz.prog n_l_szCellS [v,gi n] σ (gi (lf n (l.length+sumL msCell l))) σ:=by
 obtain⟨wl,we⟩:=hw
 refine ret_eq ir_l_szCellS (Nat.le_of_ble_eq_true rfl) trivial ?_
 simp +contextual (disch:=omega) only[go_sem,F_l_szCellS,hR.len]
 refine⟨fun hn=> ?_,fun hn=> ?_⟩
 ·have hn:=of_decide_eq_true hn
  unfold lf;rw[if_pos (by omega)]
 have hn:=of_decide_eq_false hn
 refine vc_for l.length 5 (fun i env τ=>∃ m:Int,env 0=v∧env 1=gi m∧m=n - l.length - sumL msCell (l.take i)∧0≤m∧σ <+: τ) rfl ⟨n - l.length,rfl,rfl,by simp[sumL],by omega,List.prefix_refl _⟩ ?_ ?_
 ·rintro i env τ hi e5 c0 ⟨m,e0,e1,em,hm,hp⟩
  have h1:=hR.pre hp
  have hs:=sumL_snoc (f:=msCell) hi
  have hst:=sumL_take_le msCell l (i+1)
  simp +contextual (disch:=omega) only[go_sem,c0,e0,e1,e5,hR.len,Cell_at h1 hi]
  refine by_ret (l_szCell_ret τ l[i] m (we _ (List.getElem_mem hi)) hm (by omega)) ?_
  simp +contextual (disch:=omega) only[go_sem,c0,e0,e1,e5,hp]
  have g0:= @lf_le m (msCell l[i]) hm
  have g1:= @lf_ge m (msCell l[i])
  refine⟨fun hn=> ?_,fun hn=> ?_⟩
  ·have hn:=lf_neg.1 (of_decide_eq_true hn)
   unfold lf;rw[if_pos (by omega)]
  ·have hn:=of_decide_eq_false hn
   have f:=lf_some hn
   exact⟨_,rfl,by omega,by omega⟩
 ·rintro env τ e5 c0 ⟨m,e0,e1,em,hm,hp⟩
  rw[List.take_length] at em
  simp +contextual (disch:=omega) only[go_sem,c0,e0,e1,e5,hR.len,hp]
  unfold lf;rw[if_neg (by omega)];omega
end Go.Proofs.YtffnefmklckngaaGreat.Sy
namespace Go.Proofs.YtffnefmklckngaaGreat.Sy
open Go Go.RowKit
set_option linter.unusedSimpArgs false
set_option linter.unusedVariables false
abbrev n_l_szDotS:Nat:=162
def F_l_szDotS:Fn1:=⟨12,[.t 4],(.seq (.reg [o 4 (.mov (.k (.int .i64 0)))]) (.seq (.reg [o 5 (.mov (.t 1)),o 6 (.mov (.t 0)),o 7 (.len false (.t 6)),o 8 (.bin .sub (.t 5) (.t 7)),o 1 (.mov (.t 8))]) (.seq (.seq (.reg [o 9 (.mov (.t 1)),o 10 (.bin .lss (.t 9) (.k (.int .i64 0)))]) (.cnd (.t 10) (.seq (.reg [o 4 (.mov (.k (.int .i64 (-1))))]) .ret) .skip)) (.seq (.reg [o 11 (.mov (.t 1)),o 4 (.mov (.t 11))]) .ret))))⟩
theorem ir_l_szDotS:compFn Tryz.prog n_l_szDotS=some F_l_szDotS:=by kernel_rfl
theorem l_szDotS_ret (σ:St) (v:GV) (l:List Dot) (hR:RS pDot.kd σ v l) (n:Int) (hw:l.length≤9223372036854775807) (h0:0≤n) (h1:n≤1099511627776):Ret Tryz.prog n_l_szDotS [v,gi n] σ (gi (lf n l.length)) σ:=by
 refine ret_eq ir_l_szDotS (Nat.le_of_ble_eq_true rfl) trivial ?_
 simp +contextual (disch:=omega) only[go_sem,F_l_szDotS,hR.len]
 refine⟨fun h=> ?_,fun h=> ?_⟩
 ·rw[lf,if_pos (of_decide_eq_true h)]
 ·rw[lf,if_neg (of_decide_eq_false h)]
end Go.Proofs.YtffnefmklckngaaGreat.Sy
namespace Go.Proofs.YtffnefmklckngaaGreat.Sy
open Go Go.RowKit
set_option linter.unusedSimpArgs false
set_option linter.unusedVariables false
abbrev n_l_szLive:Nat:=122
def F_l_szLive:Fn1:=⟨20,[.t 4],(.seq (.reg [o 2 (.box (.t 0)),o 4 (.mov (.k (.int .i64 0)))]) (.seq (.reg [o 5 (.mov (.t 1)),o 6 (.fad 1 (.t 2)),o 7 (.ld false 1 (.t 6)),o 8 (.len true (.t 7)),o 9 (.bin .sub (.t 5) (.t 8)),o 1 (.mov (.t 9))]) (.seq (.seq (.reg [o 10 (.mov (.t 1)),o 11 (.bin .lss (.t 10) (.k (.int .i64 0)))]) (.cnd (.t 11) (.seq (.reg [o 4 (.mov (.k (.int .i64 (-1))))]) .ret) .skip)) (.seq (.reg [o 12 (.mov (.t 1)),o 13 (.fad 2 (.t 2)),o 14 (.ld false 1 (.t 13)),o 15 (.len true (.t 14)),o 16 (.bin .sub (.t 12) (.t 15)),o 1 (.mov (.t 16))]) (.seq (.seq (.reg [o 17 (.mov (.t 1)),o 18 (.bin .lss (.t 17) (.k (.int .i64 0)))]) (.cnd (.t 18) (.seq (.reg [o 4 (.mov (.k (.int .i64 (-1))))]) .ret) .skip)) (.seq (.reg [o 19 (.mov (.t 1)),o 4 (.mov (.t 19))]) .ret))))))⟩
theorem ir_l_szLive:compFn Tryz.prog n_l_szLive=some F_l_szLive:=by kernel_rfl
theorem l_szLive_ret (σ:St) (x:Live) (n:Int) (hw:wLive x) (h0:0≤n) (h1:n≤1099511627776):Ret Tryz.prog n_l_szLive [.agg [.bool x.map,.str x.obj,.str x.key,.int .i64 x.val,.int .i64 x.dot.rep,.int .i64 x.dot.seq],gi n] σ (gi (lf n (msLive x))) σ:=by
 obtain⟨w0,w1⟩:=hw
 refine ret_eq ir_l_szLive (Nat.le_of_ble_eq_true rfl) trivial ?_
 simp +contextual (disch:=omega) only[go_sem,F_l_szLive,List.append_nil]
 refine⟨fun hn=> ?_,fun hn=> ?_⟩
 ·have hn:=of_decide_eq_true hn
  unfold msLive lf;rw[if_pos (by omega)]
 have hn:=of_decide_eq_false hn
 try simp(disch:=omega) only[wrap_add]
 refine⟨fun hn=> ?_,fun hn=> ?_⟩
 ·have hn:=of_decide_eq_true hn
  unfold msLive lf;rw[if_pos (by omega)]
 have hn:=of_decide_eq_false hn
 try simp(disch:=omega) only[wrap_add]
 unfold msLive;rw[show lf n (x.obj.size+x.key.size)=n - ((x.obj.size+x.key.size:Nat):Int) by unfold lf;rw[if_neg (by omega)]];try omega
end Go.Proofs.YtffnefmklckngaaGreat.Sy
namespace Go.Proofs.YtffnefmklckngaaGreat.Sy
open Go Go.RowKit
set_option linter.unusedSimpArgs false
set_option linter.unusedVariables false
abbrev n_l_szLiveS:Nat:=64
def F_l_szLiveS:Fn1:=⟨27,[.t 4],(.seq (.reg [o 4 (.mov (.k (.int .i64 0)))]) (.seq (.reg [o 6 (.mov (.t 1)),o 7 (.mov (.t 0)),o 8 (.len false (.t 7)),o 9 (.bin .sub (.t 6) (.t 8)),o 1 (.mov (.t 9))]) (.seq (.seq (.reg [o 10 (.mov (.t 1)),o 11 (.bin .lss (.t 10) (.k (.int .i64 0)))]) (.cnd (.t 11) (.seq (.reg [o 4 (.mov (.k (.int .i64 (-1))))]) .ret) .skip)) (.seq (.seq (.reg [o 5 (.mov (.k (.int .i64 0)))]) (.blk 0 (.lop (.seq (.seq (.reg [o 12 (.mov (.t 5)),o 13 (.mov (.t 0)),o 14 (.len false (.t 13)),o 15 (.bin .lss (.t 12) (.t 14))]) (.cnd (.t 15) .skip (.ext 0))) (.seq (.blk 1 (.seq (.reg [o 18 (.mov (.t 0)),o 19 (.mov (.t 5)),o 20 (.iad 6 (.t 18) (.t 19)),o 21 (.ld true 6 (.t 20)),o 22 (.mov (.t 1)),o 23 (.call 122 [(.t 21),(.t 22)]),o 1 (.mov (.t 23))]) (.seq (.reg [o 24 (.mov (.t 1)),o 25 (.bin .lss (.t 24) (.k (.int .i64 0)))]) (.cnd (.t 25) (.seq (.reg [o 4 (.mov (.k (.int .i64 (-1))))]) .ret) .skip)))) (.reg [o 16 (.mov (.t 5)),o 17 (.bin .add (.t 16) (.k (.int .i64 1))),o 5 (.mov (.t 17))])))))) (.seq (.reg [o 26 (.mov (.t 1)),o 4 (.mov (.t 26))]) .ret)))))⟩
theorem ir_l_szLiveS:compFn Tryz.prog n_l_szLiveS=some F_l_szLiveS:=by kernel_rfl
theorem l_szLiveS_ret (σ:St) (v:GV) (l:List Live) (hR:RS pLive.kd σ v l) (n:Int) (hw:l.length≤9223372036854775807∧∀ y∈l,wLive y) (h0:0≤n) (h1:n≤1099511627776):Ret Tryz.prog n_l_szLiveS [v,gi n] σ (gi (lf n (l.length+sumL msLive l))) σ:=by
 obtain⟨wl,we⟩:=hw
 refine ret_eq ir_l_szLiveS (Nat.le_of_ble_eq_true rfl) trivial ?_
 simp +contextual (disch:=omega) only[go_sem,F_l_szLiveS,hR.len]
 refine⟨fun hn=> ?_,fun hn=> ?_⟩
 ·have hn:=of_decide_eq_true hn
  unfold lf;rw[if_pos (by omega)]
 have hn:=of_decide_eq_false hn
 refine vc_for l.length 5 (fun i env τ=>∃ m:Int,env 0=v∧env 1=gi m∧m=n - l.length - sumL msLive (l.take i)∧0≤m∧σ <+: τ) rfl ⟨n - l.length,rfl,rfl,by simp[sumL],by omega,List.prefix_refl _⟩ ?_ ?_
 ·rintro i env τ hi e5 c0 ⟨m,e0,e1,em,hm,hp⟩
  have h1:=hR.pre hp
  have hs:=sumL_snoc (f:=msLive) hi
  have hst:=sumL_take_le msLive l (i+1)
  simp +contextual (disch:=omega) only[go_sem,c0,e0,e1,e5,hR.len,Live_at h1 hi]
  refine by_ret (l_szLive_ret τ l[i] m (we _ (List.getElem_mem hi)) hm (by omega)) ?_
  simp +contextual (disch:=omega) only[go_sem,c0,e0,e1,e5,hp]
  have g0:= @lf_le m (msLive l[i]) hm
  have g1:= @lf_ge m (msLive l[i])
  refine⟨fun hn=> ?_,fun hn=> ?_⟩
  ·have hn:=lf_neg.1 (of_decide_eq_true hn)
   unfold lf;rw[if_pos (by omega)]
  ·have hn:=of_decide_eq_false hn
   have f:=lf_some hn
   exact⟨_,rfl,by omega,by omega⟩
 ·rintro env τ e5 c0 ⟨m,e0,e1,em,hm,hp⟩
  rw[List.take_length] at em
  simp +contextual (disch:=omega) only[go_sem,c0,e0,e1,e5,hR.len,hp]
  unfold lf;rw[if_neg (by omega)];omega
end Go.Proofs.YtffnefmklckngaaGreat.Sy
namespace Go.Proofs.YtffnefmklckngaaGreat.Sy
open Go Go.RowKit
set_option linter.unusedSimpArgs false
set_option linter.unusedVariables false
abbrev n_l_szTally:Nat:=121
def F_l_szTally:Fn1:=⟨13,[.t 4],(.seq (.reg [o 2 (.box (.t 0)),o 4 (.mov (.k (.int .i64 0)))]) (.seq (.reg [o 5 (.mov (.t 1)),o 6 (.fad 0 (.t 2)),o 7 (.ld false 1 (.t 6)),o 8 (.len true (.t 7)),o 9 (.bin .sub (.t 5) (.t 8)),o 1 (.mov (.t 9))]) (.seq (.seq (.reg [o 10 (.mov (.t 1)),o 11 (.bin .lss (.t 10) (.k (.int .i64 0)))]) (.cnd (.t 11) (.seq (.reg [o 4 (.mov (.k (.int .i64 (-1))))]) .ret) .skip)) (.seq (.reg [o 12 (.mov (.t 1)),o 4 (.mov (.t 12))]) .ret))))⟩
theorem ir_l_szTally:compFn Tryz.prog n_l_szTally=some F_l_szTally:=by kernel_rfl
theorem l_szTally_ret (σ:St) (x:Tally) (n:Int) (hw:wTally x) (h0:0≤n) (h1:n≤1099511627776):Ret Tryz.prog n_l_szTally [.agg [.str x.obj,.int .i64 x.rep,.int .i64 x.sum],gi n] σ (gi (lf n (msTally x))) σ:=by
 have w0:=hw;unfold wTally at w0
 refine ret_eq ir_l_szTally (Nat.le_of_ble_eq_true rfl) trivial ?_
 simp +contextual (disch:=omega) only[go_sem,F_l_szTally,List.append_nil]
 refine⟨fun hn=> ?_,fun hn=> ?_⟩
 ·have hn:=of_decide_eq_true hn
  unfold msTally lf;rw[if_pos (by omega)]
 have hn:=of_decide_eq_false hn
 try simp(disch:=omega) only[wrap_add]
 unfold msTally;rw[show lf n (x.obj.size)=n - ((x.obj.size:Nat):Int) by unfold lf;rw[if_neg (by omega)]];try omega
end Go.Proofs.YtffnefmklckngaaGreat.Sy
namespace Go.Proofs.YtffnefmklckngaaGreat.Sy
open Go Go.RowKit
set_option linter.unusedSimpArgs false
set_option linter.unusedVariables false
abbrev n_l_szTallyS:Nat:=63
def F_l_szTallyS:Fn1:=⟨27,[.t 4],(.seq (.reg [o 4 (.mov (.k (.int .i64 0)))]) (.seq (.reg [o 6 (.mov (.t 1)),o 7 (.mov (.t 0)),o 8 (.len false (.t 7)),o 9 (.bin .sub (.t 6) (.t 8)),o 1 (.mov (.t 9))]) (.seq (.seq (.reg [o 10 (.mov (.t 1)),o 11 (.bin .lss (.t 10) (.k (.int .i64 0)))]) (.cnd (.t 11) (.seq (.reg [o 4 (.mov (.k (.int .i64 (-1))))]) .ret) .skip)) (.seq (.seq (.reg [o 5 (.mov (.k (.int .i64 0)))]) (.blk 0 (.lop (.seq (.seq (.reg [o 12 (.mov (.t 5)),o 13 (.mov (.t 0)),o 14 (.len false (.t 13)),o 15 (.bin .lss (.t 12) (.t 14))]) (.cnd (.t 15) .skip (.ext 0))) (.seq (.blk 1 (.seq (.reg [o 18 (.mov (.t 0)),o 19 (.mov (.t 5)),o 20 (.iad 3 (.t 18) (.t 19)),o 21 (.ld true 3 (.t 20)),o 22 (.mov (.t 1)),o 23 (.call 121 [(.t 21),(.t 22)]),o 1 (.mov (.t 23))]) (.seq (.reg [o 24 (.mov (.t 1)),o 25 (.bin .lss (.t 24) (.k (.int .i64 0)))]) (.cnd (.t 25) (.seq (.reg [o 4 (.mov (.k (.int .i64 (-1))))]) .ret) .skip)))) (.reg [o 16 (.mov (.t 5)),o 17 (.bin .add (.t 16) (.k (.int .i64 1))),o 5 (.mov (.t 17))])))))) (.seq (.reg [o 26 (.mov (.t 1)),o 4 (.mov (.t 26))]) .ret)))))⟩
theorem ir_l_szTallyS:compFn Tryz.prog n_l_szTallyS=some F_l_szTallyS:=by kernel_rfl
theorem l_szTallyS_ret (σ:St) (v:GV) (l:List Tally) (hR:RS pTally.kd σ v l) (n:Int) (hw:l.length≤9223372036854775807∧∀ y∈l,wTally y) (h0:0≤n) (h1:n≤1099511627776):Ret Tryz.prog n_l_szTallyS [v,gi n] σ (gi (lf n (l.length+sumL msTally l))) σ:=by
 obtain⟨wl,we⟩:=hw
 refine ret_eq ir_l_szTallyS (Nat.le_of_ble_eq_true rfl) trivial ?_
 simp +contextual (disch:=omega) only[go_sem,F_l_szTallyS,hR.len]
 refine⟨fun hn=> ?_,fun hn=> ?_⟩
 ·have hn:=of_decide_eq_true hn
  unfold lf;rw[if_pos (by omega)]
 have hn:=of_decide_eq_false hn
 refine vc_for l.length 5 (fun i env τ=>∃ m:Int,env 0=v∧env 1=gi m∧m=n - l.length - sumL msTally (l.take i)∧0≤m∧σ <+: τ) rfl ⟨n - l.length,rfl,rfl,by simp[sumL],by omega,List.prefix_refl _⟩ ?_ ?_
 ·rintro i env τ hi e5 c0 ⟨m,e0,e1,em,hm,hp⟩
  have h1:=hR.pre hp
  have hs:=sumL_snoc (f:=msTally) hi
  have hst:=sumL_take_le msTally l (i+1)
  simp +contextual (disch:=omega) only[go_sem,c0,e0,e1,e5,hR.len,Tally_at h1 hi]
  refine by_ret (l_szTally_ret τ l[i] m (we _ (List.getElem_mem hi)) hm (by omega)) ?_
  simp +contextual (disch:=omega) only[go_sem,c0,e0,e1,e5,hp]
  have g0:= @lf_le m (msTally l[i]) hm
  have g1:= @lf_ge m (msTally l[i])
  refine⟨fun hn=> ?_,fun hn=> ?_⟩
  ·have hn:=lf_neg.1 (of_decide_eq_true hn)
   unfold lf;rw[if_pos (by omega)]
  ·have hn:=of_decide_eq_false hn
   have f:=lf_some hn
   exact⟨_,rfl,by omega,by omega⟩
 ·rintro env τ e5 c0 ⟨m,e0,e1,em,hm,hp⟩
  rw[List.take_length] at em
  simp +contextual (disch:=omega) only[go_sem,c0,e0,e1,e5,hR.len,hp]
  unfold lf;rw[if_neg (by omega)];omega
end Go.Proofs.YtffnefmklckngaaGreat.Sy
namespace Go.Proofs.YtffnefmklckngaaGreat.Sy
open Go Go.RowKit
set_option linter.unusedSimpArgs false
set_option linter.unusedVariables false
abbrev n_l_szDelta:Nat:=102
def F_l_szDelta:Fn1:=⟨42,[.t 4],(.seq (.reg [o 2 (.box (.t 0)),o 4 (.mov (.k (.int .i64 0)))]) (.seq (.reg [o 5 (.fad 0 (.t 2)),o 6 (.ld false 1 (.t 5)),o 7 (.mov (.t 1)),o 8 (.call 62 [(.t 6),(.t 7)]),o 1 (.mov (.t 8))]) (.seq (.seq (.reg [o 9 (.mov (.t 1)),o 10 (.bin .lss (.t 9) (.k (.int .i64 0)))]) (.cnd (.t 10) (.seq (.reg [o 4 (.mov (.k (.int .i64 (-1))))]) .ret) .skip)) (.seq (.reg [o 11 (.fad 1 (.t 2)),o 12 (.ld false 1 (.t 11)),o 13 (.mov (.t 1)),o 14 (.call 62 [(.t 12),(.t 13)]),o 1 (.mov (.t 14))]) (.seq (.seq (.reg [o 15 (.mov (.t 1)),o 16 (.bin .lss (.t 15) (.k (.int .i64 0)))]) (.cnd (.t 16) (.seq (.reg [o 4 (.mov (.k (.int .i64 (-1))))]) .ret) .skip)) (.seq (.reg [o 17 (.fad 2 (.t 2)),o 18 (.ld false 1 (.t 17)),o 19 (.mov (.t 1)),o 20 (.call 63 [(.t 18),(.t 19)]),o 1 (.mov (.t 20))]) (.seq (.seq (.reg [o 21 (.mov (.t 1)),o 22 (.bin .lss (.t 21) (.k (.int .i64 0)))]) (.cnd (.t 22) (.seq (.reg [o 4 (.mov (.k (.int .i64 (-1))))]) .ret) .skip)) (.seq (.reg [o 23 (.fad 3 (.t 2)),o 24 (.ld false 1 (.t 23)),o 25 (.mov (.t 1)),o 26 (.call 64 [(.t 24),(.t 25)]),o 1 (.mov (.t 26))]) (.seq (.seq (.reg [o 27 (.mov (.t 1)),o 28 (.bin .lss (.t 27) (.k (.int .i64 0)))]) (.cnd (.t 28) (.seq (.reg [o 4 (.mov (.k (.int .i64 (-1))))]) .ret) .skip)) (.seq (.reg [o 29 (.fad 4 (.t 2)),o 30 (.ld false 1 (.t 29)),o 31 (.mov (.t 1)),o 32 (.call 162 [(.t 30),(.t 31)]),o 1 (.mov (.t 32))]) (.seq (.seq (.reg [o 33 (.mov (.t 1)),o 34 (.bin .lss (.t 33) (.k (.int .i64 0)))]) (.cnd (.t 34) (.seq (.reg [o 4 (.mov (.k (.int .i64 (-1))))]) .ret) .skip)) (.seq (.reg [o 35 (.fad 5 (.t 2)),o 36 (.ld false 1 (.t 35)),o 37 (.mov (.t 1)),o 38 (.call 65 [(.t 36),(.t 37)]),o 1 (.mov (.t 38))]) (.seq (.seq (.reg [o 39 (.mov (.t 1)),o 40 (.bin .lss (.t 39) (.k (.int .i64 0)))]) (.cnd (.t 40) (.seq (.reg [o 4 (.mov (.k (.int .i64 (-1))))]) .ret) .skip)) (.seq (.reg [o 41 (.mov (.t 1)),o 4 (.mov (.t 41))]) .ret))))))))))))))⟩
theorem ir_l_szDelta:compFn Tryz.prog n_l_szDelta=some F_l_szDelta:=by kernel_rfl
theorem l_szDelta_ret (σ:St) (cs:List GV) (x:Delta) (hR:kDelta.R σ x cs) (n:Int) (hw:wDelta x) (h0:0≤n) (h1:n≤1099511627776):Ret Tryz.prog n_l_szDelta [.agg cs,gi n] σ (gi (lf n (msDelta x))) σ:=by
 obtain⟨v0,v1,v2,v3,v4,v5,rfl,q0,q1,q2,q3,q4,q5⟩:=hR
 obtain⟨w0,w1,w2,w3,w4,w5⟩:=hw
 refine ret_eq ir_l_szDelta (Nat.le_of_ble_eq_true rfl) trivial ?_
 simp +contextual (disch:=omega) only[go_sem,F_l_szDelta,List.append_nil]
 refine by_ret (l_szIntS_ret _ v0 x.base (q0.pre (pre1 _ _)) (n) w0 (by omega) (by omega)) ?_
 simp +contextual (disch:=omega) only[go_sem,List.append_nil]
 have g0:= @lf_le (n) (x.base.length) (by omega)
 refine⟨fun hn=> ?_,fun hn=> ?_⟩
 ·have hn:=of_decide_eq_true hn
  have hn:=lf_neg.1 hn
  unfold msDelta lf;rw[if_pos (by omega)]
 have hn:=of_decide_eq_false hn
 have f0:=lf_some hn
 try simp(disch:=omega) only[wrap_add]
 refine by_ret (l_szIntS_ret _ v1 x.know (q1.pre (pre1 _ _)) (lf (n) (x.base.length)) w1 (by omega) (by omega)) ?_
 simp +contextual (disch:=omega) only[go_sem,List.append_nil]
 have g1:= @lf_le (lf (n) (x.base.length)) (x.know.length) (by omega)
 refine⟨fun hn=> ?_,fun hn=> ?_⟩
 ·have hn:=of_decide_eq_true hn
  have hn:=lf_neg.1 hn
  unfold msDelta lf;rw[if_pos (by omega)]
 have hn:=of_decide_eq_false hn
 have f1:=lf_some hn
 try simp(disch:=omega) only[wrap_add]
 refine by_ret (l_szTallyS_ret _ v2 x.tallies (q2.pre (pre1 _ _)) (lf (lf (n) (x.base.length)) (x.know.length)) w2 (by omega) (by omega)) ?_
 simp +contextual (disch:=omega) only[go_sem,List.append_nil]
 have g2:= @lf_le (lf (lf (n) (x.base.length)) (x.know.length)) ((x.tallies.length+sumL msTally x.tallies)) (by omega)
 refine⟨fun hn=> ?_,fun hn=> ?_⟩
 ·have hn:=of_decide_eq_true hn
  have hn:=lf_neg.1 hn
  unfold msDelta lf;rw[if_pos (by omega)]
 have hn:=of_decide_eq_false hn
 have f2:=lf_some hn
 try simp(disch:=omega) only[wrap_add]
 refine by_ret (l_szLiveS_ret _ v3 x.lives (q3.pre (pre1 _ _)) (lf (lf (lf (n) (x.base.length)) (x.know.length)) ((x.tallies.length+sumL msTally x.tallies))) w3 (by omega) (by omega)) ?_
 simp +contextual (disch:=omega) only[go_sem,List.append_nil]
 have g3:= @lf_le (lf (lf (lf (n) (x.base.length)) (x.know.length)) ((x.tallies.length+sumL msTally x.tallies))) ((x.lives.length+sumL msLive x.lives)) (by omega)
 refine⟨fun hn=> ?_,fun hn=> ?_⟩
 ·have hn:=of_decide_eq_true hn
  have hn:=lf_neg.1 hn
  unfold msDelta lf;rw[if_pos (by omega)]
 have hn:=of_decide_eq_false hn
 have f3:=lf_some hn
 try simp(disch:=omega) only[wrap_add]
 refine by_ret (l_szDotS_ret _ v4 x.dead (q4.pre (pre1 _ _)) (lf (lf (lf (lf (n) (x.base.length)) (x.know.length)) ((x.tallies.length+sumL msTally x.tallies))) ((x.lives.length+sumL msLive x.lives))) w4 (by omega) (by omega)) ?_
 simp +contextual (disch:=omega) only[go_sem,List.append_nil]
 have g4:= @lf_le (lf (lf (lf (lf (n) (x.base.length)) (x.know.length)) ((x.tallies.length+sumL msTally x.tallies))) ((x.lives.length+sumL msLive x.lives))) (x.dead.length) (by omega)
 refine⟨fun hn=> ?_,fun hn=> ?_⟩
 ·have hn:=of_decide_eq_true hn
  have hn:=lf_neg.1 hn
  unfold msDelta lf;rw[if_pos (by omega)]
 have hn:=of_decide_eq_false hn
 have f4:=lf_some hn
 try simp(disch:=omega) only[wrap_add]
 refine by_ret (l_szCellS_ret _ v5 x.cells (q5.pre (pre1 _ _)) (lf (lf (lf (lf (lf (n) (x.base.length)) (x.know.length)) ((x.tallies.length+sumL msTally x.tallies))) ((x.lives.length+sumL msLive x.lives))) (x.dead.length)) w5 (by omega) (by omega)) ?_
 simp +contextual (disch:=omega) only[go_sem,List.append_nil]
 have g5:= @lf_le (lf (lf (lf (lf (lf (n) (x.base.length)) (x.know.length)) ((x.tallies.length+sumL msTally x.tallies))) ((x.lives.length+sumL msLive x.lives))) (x.dead.length)) ((x.cells.length+sumL msCell x.cells)) (by omega)
 refine⟨fun hn=> ?_,fun hn=> ?_⟩
 ·have hn:=of_decide_eq_true hn
  have hn:=lf_neg.1 hn
  unfold msDelta lf;rw[if_pos (by omega)]
 have hn:=of_decide_eq_false hn
 have f5:=lf_some hn
 try simp(disch:=omega) only[wrap_add]
 unfold msDelta;rw[show lf n (x.base.length+x.know.length+(x.tallies.length+sumL msTally x.tallies)+(x.lives.length+sumL msLive x.lives)+x.dead.length+(x.cells.length+sumL msCell x.cells))=n - ((x.base.length+x.know.length+(x.tallies.length+sumL msTally x.tallies)+(x.lives.length+sumL msLive x.lives)+x.dead.length+(x.cells.length+sumL msCell x.cells):Nat):Int) by unfold lf;rw[if_neg (by omega)]];try omega
end Go.Proofs.YtffnefmklckngaaGreat.Sy
namespace Go.Proofs.YtffnefmklckngaaGreat.Sy
open Go Go.RowKit
set_option linter.unusedSimpArgs false
set_option linter.unusedVariables false
abbrev n_l_szUnit:Nat:=35
def F_l_szUnit:Fn1:=⟨18,[.t 4],(.seq (.reg [o 2 (.box (.t 0)),o 4 (.mov (.k (.int .i64 0)))]) (.seq (.reg [o 5 (.fad 1 (.t 2)),o 6 (.ld true 10 (.t 5)),o 7 (.mov (.t 1)),o 8 (.call 101 [(.t 6),(.t 7)]),o 1 (.mov (.t 8))]) (.seq (.seq (.reg [o 9 (.mov (.t 1)),o 10 (.bin .lss (.t 9) (.k (.int .i64 0)))]) (.cnd (.t 10) (.seq (.reg [o 4 (.mov (.k (.int .i64 (-1))))]) .ret) .skip)) (.seq (.reg [o 11 (.fad 11 (.t 2)),o 12 (.ld true 6 (.t 11)),o 13 (.mov (.t 1)),o 14 (.call 102 [(.t 12),(.t 13)]),o 1 (.mov (.t 14))]) (.seq (.seq (.reg [o 15 (.mov (.t 1)),o 16 (.bin .lss (.t 15) (.k (.int .i64 0)))]) (.cnd (.t 16) (.seq (.reg [o 4 (.mov (.k (.int .i64 (-1))))]) .ret) .skip)) (.seq (.reg [o 17 (.mov (.t 1)),o 4 (.mov (.t 17))]) .ret))))))⟩
theorem ir_l_szUnit:compFn Tryz.prog n_l_szUnit=some F_l_szUnit:=by kernel_rfl
theorem l_szUnit_ret (σ:St) (cs:List GV) (x:Unit_) (hR:kUnit_.R σ x cs) (n:Int) (hw:wUnit x) (h0:0≤n) (h1:n≤1099511627776):Ret Tryz.prog n_l_szUnit [.agg cs,gi n] σ (gi (lf n (msUnit x))) σ:=by
 obtain⟨v1,v2,rfl,q1,q2⟩:=hR
 obtain⟨w0,w1⟩:=hw
 have a1:=q1
 have a2:=q2
 obtain⟨kv,rfl,_⟩:=q1
 obtain⟨d0,d1,d2,d3,d4,d5,rfl,_⟩:=q2
 suffices key:Ret Tryz.prog n_l_szUnit [.agg (.bool x.batch::[.int .i64 x.act.dot.rep,.int .i64 x.act.dot.seq,.int .i64 x.act.time,kv,.int .i64 x.act.kind,.str x.act.obj,.str x.act.key,.int .i64 x.act.val,.int .i64 x.act.ref.rep,.int .i64 x.act.ref.seq,d0,d1,d2,d3,d4,d5]),gi n] σ (gi (lf n (msUnit x))) σ from key
 refine ret_eq ir_l_szUnit (Nat.le_of_ble_eq_true rfl) trivial ?_
 simp +contextual (disch:=omega) only[go_sem,F_l_szUnit,List.append_nil]
 refine by_ret (l_szAct_ret _ _ x.act (kAct.pre a1 (pre1 _ _)) (n) w0 (by omega) (by omega)) ?_
 simp +contextual (disch:=omega) only[go_sem,List.append_nil]
 have g0:= @lf_le (n) (msAct x.act) (by omega)
 refine⟨fun hn=> ?_,fun hn=> ?_⟩
 ·have hn:=of_decide_eq_true hn
  have hn:=lf_neg.1 hn
  unfold msUnit lf;rw[if_pos (by omega)]
 have hn:=of_decide_eq_false hn
 have f0:=lf_some hn
 try simp(disch:=omega) only[wrap_add]
 refine by_ret (l_szDelta_ret _ _ x.delta (kDelta.pre a2 (pre1 _ _)) (lf (n) (msAct x.act)) w1 (by omega) (by omega)) ?_
 simp +contextual (disch:=omega) only[go_sem,List.append_nil]
 have g1:= @lf_le (lf (n) (msAct x.act)) (msDelta x.delta) (by omega)
 refine⟨fun hn=> ?_,fun hn=> ?_⟩
 ·have hn:=of_decide_eq_true hn
  have hn:=lf_neg.1 hn
  unfold msUnit lf;rw[if_pos (by omega)]
 have hn:=of_decide_eq_false hn
 have f1:=lf_some hn
 try simp(disch:=omega) only[wrap_add]
 unfold msUnit;rw[show lf n (msAct x.act+msDelta x.delta)=n - ((msAct x.act+msDelta x.delta:Nat):Int) by unfold lf;rw[if_neg (by omega)]];try omega
end Go.Proofs.YtffnefmklckngaaGreat.Sy
namespace Go.Proofs.YtffnefmklckngaaGreat.Sy
open Go Go.RowKit
set_option linter.unusedSimpArgs false
set_option linter.unusedVariables false
abbrev n_l_szUnitS:Nat:=8
def F_l_szUnitS:Fn1:=⟨27,[.t 4],(.seq (.reg [o 4 (.mov (.k (.int .i64 0)))]) (.seq (.reg [o 6 (.mov (.t 1)),o 7 (.mov (.t 0)),o 8 (.len false (.t 7)),o 9 (.bin .sub (.t 6) (.t 8)),o 1 (.mov (.t 9))]) (.seq (.seq (.reg [o 10 (.mov (.t 1)),o 11 (.bin .lss (.t 10) (.k (.int .i64 0)))]) (.cnd (.t 11) (.seq (.reg [o 4 (.mov (.k (.int .i64 (-1))))]) .ret) .skip)) (.seq (.seq (.reg [o 5 (.mov (.k (.int .i64 0)))]) (.blk 0 (.lop (.seq (.seq (.reg [o 12 (.mov (.t 5)),o 13 (.mov (.t 0)),o 14 (.len false (.t 13)),o 15 (.bin .lss (.t 12) (.t 14))]) (.cnd (.t 15) .skip (.ext 0))) (.seq (.blk 1 (.seq (.reg [o 18 (.mov (.t 0)),o 19 (.mov (.t 5)),o 20 (.iad 17 (.t 18) (.t 19)),o 21 (.ld true 17 (.t 20)),o 22 (.mov (.t 1)),o 23 (.call 35 [(.t 21),(.t 22)]),o 1 (.mov (.t 23))]) (.seq (.reg [o 24 (.mov (.t 1)),o 25 (.bin .lss (.t 24) (.k (.int .i64 0)))]) (.cnd (.t 25) (.seq (.reg [o 4 (.mov (.k (.int .i64 (-1))))]) .ret) .skip)))) (.reg [o 16 (.mov (.t 5)),o 17 (.bin .add (.t 16) (.k (.int .i64 1))),o 5 (.mov (.t 17))])))))) (.seq (.reg [o 26 (.mov (.t 1)),o 4 (.mov (.t 26))]) .ret)))))⟩
theorem ir_l_szUnitS:compFn Tryz.prog n_l_szUnitS=some F_l_szUnitS:=by kernel_rfl
theorem l_szUnitS_ret (σ:St) (v:GV) (l:List Unit_) (hR:RS kUnit_ σ v l) (n:Int) (hw:l.length≤9223372036854775807∧∀ y∈l,wUnit y) (h0:0≤n) (h1:n≤1099511627776):Ret Tryz.prog n_l_szUnitS [v,gi n] σ (gi (lf n (l.length+sumL msUnit l))) σ:=by
 obtain⟨wl,we⟩:=hw
 refine ret_eq ir_l_szUnitS (Nat.le_of_ble_eq_true rfl) trivial ?_
 simp +contextual (disch:=omega) only[go_sem,F_l_szUnitS,hR.len]
 refine⟨fun hn=> ?_,fun hn=> ?_⟩
 ·have hn:=of_decide_eq_true hn
  unfold lf;rw[if_pos (by omega)]
 have hn:=of_decide_eq_false hn
 refine vc_for l.length 5 (fun i env τ=>∃ m:Int,env 0=v∧env 1=gi m∧m=n - l.length - sumL msUnit (l.take i)∧0≤m∧σ <+: τ) rfl ⟨n - l.length,rfl,rfl,by simp[sumL],by omega,List.prefix_refl _⟩ ?_ ?_
 ·rintro i env τ hi e5 c0 ⟨m,e0,e1,em,hm,hp⟩
  have h1:=hR.pre hp
  have hs:=sumL_snoc (f:=msUnit) hi
  have hst:=sumL_take_le msUnit l (i+1)
  obtain⟨cs,hc,hcr⟩:=unit_at' h1 hi
  simp +contextual (disch:=omega) only[go_sem,c0,e0,e1,e5,hR.len,hc]
  refine by_ret (l_szUnit_ret τ cs l[i] hcr m (we _ (List.getElem_mem hi)) hm (by omega)) ?_
  simp +contextual (disch:=omega) only[go_sem,c0,e0,e1,e5,hp]
  have g0:= @lf_le m (msUnit l[i]) hm
  have g1:= @lf_ge m (msUnit l[i])
  refine⟨fun hn=> ?_,fun hn=> ?_⟩
  ·have hn:=lf_neg.1 (of_decide_eq_true hn)
   unfold lf;rw[if_pos (by omega)]
  ·have hn:=of_decide_eq_false hn
   have f:=lf_some hn
   exact⟨_,rfl,by omega,by omega⟩
 ·rintro env τ e5 c0 ⟨m,e0,e1,em,hm,hp⟩
  rw[List.take_length] at em
  simp +contextual (disch:=omega) only[go_sem,c0,e0,e1,e5,hR.len,hp]
  unfold lf;rw[if_neg (by omega)];omega
end Go.Proofs.YtffnefmklckngaaGreat.Sy
namespace Go.Proofs.YtffnefmklckngaaGreat.Sy
open Go Go.RowKit
theorem zTally_w {x:Tally} (h:zTally x):wTally x:=h.1
theorem zTallyS_w {x:List Tally} (h:((x).length≤9223372036854775807∧∀ y6∈x,zTally (y6))):x.length≤9223372036854775807∧∀ y∈x,wTally y:=⟨h.1,fun y hy=>zTally_w (h.2 y hy)⟩
theorem zLive_w {x:Live} (h:zLive x):wLive x:=⟨h.2.1,h.2.2.1⟩
theorem zLiveS_w {x:List Live} (h:((x).length≤9223372036854775807∧∀ y5∈x,zLive (y5))):x.length≤9223372036854775807∧∀ y∈x,wLive y:=⟨h.1,fun y hy=>zLive_w (h.2 y hy)⟩
theorem zCell_w {x:Cell} (h:zCell x):wCell x:=h.1
theorem zCellS_w {x:List Cell} (h:((x).length≤9223372036854775807∧∀ y5∈x,zCell (y5))):x.length≤9223372036854775807∧∀ y∈x,wCell y:=⟨h.1,fun y hy=>zCell_w (h.2 y hy)⟩
theorem zAct_w {x:Act} (h:zAct x):wAct x:=⟨h.2.2.1.1,h.2.2.2.2.1,h.2.2.2.2.2.1⟩
theorem zDelta_w {x:Delta} (h:zDelta x):wDelta x:=⟨h.1.1,h.2.1.1,zTallyS_w h.2.2.1,zLiveS_w h.2.2.2.1,h.2.2.2.2.1.1,zCellS_w h.2.2.2.2.2⟩
theorem zUnit__w {x:Unit_} (h:zUnit_ x):wUnit x:=⟨zAct_w h.2.1,zDelta_w h.2.2⟩
theorem zUnitS_w {x:List Unit_} (h:((x).length≤9223372036854775807∧∀ y6∈x,zUnit_ (y6))):x.length≤9223372036854775807∧∀ y∈x,wUnit y:=⟨h.1,fun y hy=>zUnit__w (h.2 y hy)⟩
end Go.Proofs.YtffnefmklckngaaGreat.Sy
namespace Go.Proofs.YtffnefmklckngaaGreat.Sy
open Go Go.RowKit
set_option linter.unusedSimpArgs false
set_option linter.unusedVariables false
set_option maxRecDepth 4000
theorem ctU_le:∀ l:List Unit_,sumL ctU l≤10*(l.length+sumL msUnit l)
 |[]=>by simp[sumL]
 |x::l=>by
  have h:=ctU_le l
  have h1:sumL ctU (x::l)=ctU x+sumL ctU l:=by simp[sumL]
  have h2:sumL msUnit (x::l)=msUnit x+sumL msUnit l:=by simp[sumL]
  have h3:ctU x≤10+10*msUnit x:=by
   have:=ctDelta_le x.delta
   unfold ctU ctE msUnit msAct;omega
  rw[h1,h2,List.length_cons];omega
theorem actsBy_ms:∀(l:List Unit_) (r:Int),(actsBy l r).length+sumL msAct (actsBy l r)≤l.length+sumL msUnit l
 |[],r=>by simp[actsBy,sumL]
 |x::l,r=>by
  have h:=actsBy_ms l r
  have h2:sumL msUnit (x::l)=msUnit x+sumL msUnit l:=by simp[sumL]
  have h4:msAct x.act≤msUnit x:=by unfold msUnit;omega
  unfold actsBy at h ⊢
  rw[List.filter_cons]
  split
  ·rw[List.map_cons,h2,List.length_cons,List.length_cons]
   have h3:sumL msAct (x.act::(l.filter (byRep r)).map (·.act))=msAct x.act+sumL msAct ((l.filter (byRep r)).map (·.act)):=by simp[sumL]
   rw[h3];omega
  ·rw[h2,List.length_cons];omega
theorem actsBy_ct (l:List Unit_) (r:Int):sumL ctE (actsBy l r)≤10*((actsBy l r).length+sumL msAct (actsBy l r)):=by
 generalize actsBy l r=m
 induction m with
 |nil=>simp[sumL]
 |cons x m ih=>
  have h1:sumL ctE (x::m)=ctE x+sumL ctE m:=by simp[sumL]
  have h2:sumL msAct (x::m)=msAct x+sumL msAct m:=by simp[sumL]
  have h3:ctE x≤9+msAct x:=by unfold ctE msAct;omega
  rw[h1,h2,List.length_cons];omega
abbrev n_l_FnExactActsBy:Nat:=3
def F_l_FnExactActsBy:Fn1:=⟨74,[.t 4],(.seq (.reg [o 4 (.mov (.k (.bool false)))]) (.seq (.reg [o 5 (.mov (.k (.int .i64 1048576)))]) (.seq (.reg [o 13 (.mov (.t 0)),o 14 (.mov (.t 5)),o 15 (.call 8 [(.t 13),(.t 14)]),o 5 (.mov (.t 15))]) (.seq (.seq (.reg [o 16 (.mov (.t 5)),o 17 (.bin .lss (.t 16) (.k (.int .i64 0)))]) (.cnd (.t 17) (.seq (.reg [o 4 (.mov (.k (.bool true)))]) .ret) .skip)) (.seq (.reg [o 18 (.mov (.t 0)),o 19 (.call 10 [(.t 18)]),o 20 (.mov (.t 1)),o 21 (.call 9 [(.t 19),(.t 20)]),o 6 (.mov (.t 21))]) (.seq (.reg [o 22 (.mov (.t 0)),o 23 (.call 10 [(.t 22)]),o 7 (.mov (.t 23))]) (.seq (.reg [o 24 (.mov (.t 7)),o 25 (.mov (.t 1)),o 26 (.call 11 [(.t 24),(.t 25)]),o 8 (.mov (.t 26))]) (.seq (.seq (.reg [o 27 (.mov (.t 8)),o 28 (.mov (.t 6)),o 29 (.call 12 [(.t 27),(.t 28)]),o 30 (.un .not (.t 29))]) (.cnd (.t 30) (.seq (.reg [o 4 (.mov (.k (.bool false)))]) .ret) .skip)) (.seq (.seq (.reg [o 31 (.mov (.t 7)),o 32 (.mov (.t 0)),o 33 (.call 10 [(.t 32)]),o 34 (.call 13 [(.t 31),(.t 33)]),o 35 (.un .not (.t 34))]) (.cnd (.t 35) (.seq (.reg [o 4 (.mov (.k (.bool false)))]) .ret) .skip)) (.seq (.reg [o 9 (.mov (.k (.int .i64 1)))]) (.seq (.reg [o 36 (.mov (.t 7)),o 37 (.mov (.t 9)),o 38 (.call 14 [(.t 36),(.t 37)]),o 9 (.mov (.t 38))]) (.seq (.seq (.reg [o 39 (.mov (.t 9)),o 40 (.bin .lss (.t 39) (.k (.int .i64 0))),o 41 (.mov (.t 40)),og 42 41 false (.mov (.t 8)),og 43 41 false (.mov (.t 6)),og 44 41 false (.call 12 [(.t 42),(.t 43)]),og 45 41 false (.un .not (.t 44)),o 46 (.pick (.t 41) (.k (.bool true)) (.t 45))]) (.cnd (.t 46) (.seq (.reg [o 4 (.mov (.k (.bool false)))]) .ret) .skip)) (.seq (.reg [o 10 (.mov (.k (.int .i64 1)))]) (.seq (.reg [o 47 (.mov (.t 8)),o 48 (.mov (.t 10)),o 49 (.call 15 [(.t 47),(.t 48)]),o 10 (.mov (.t 49))]) (.seq (.reg [o 11 (.mov (.k (.int .i64 1)))]) (.seq (.reg [o 50 (.mov (.t 8)),o 51 (.mov (.t 11)),o 52 (.call 16 [(.t 50),(.t 51)]),o 11 (.mov (.t 52))]) (.seq (.seq (.reg [o 53 (.mov (.t 11)),o 54 (.bin .lss (.t 53) (.k (.int .i64 0)))]) (.cnd (.t 54) (.seq (.reg [o 4 (.mov (.k (.bool false)))]) .ret) .skip)) (.seq (.seq (.reg [o 55 (.mov (.t 11)),o 56 (.mov (.t 10)),o 57 (.bin .neq (.t 55) (.t 56))]) (.cnd (.t 57) (.seq (.reg [o 4 (.mov (.k (.bool false)))]) .ret) .skip)) (.seq (.reg [o 58 (.mov (.t 0)),o 59 (.call 10 [(.t 58)]),o 60 (.mov (.t 1)),o 61 (.call 11 [(.t 59),(.t 60)]),o 12 (.mov (.t 61))]) (.seq (.seq (.reg [o 62 (.mov (.t 12)),o 63 (.mov (.t 6)),o 64 (.call 12 [(.t 62),(.t 63)]),o 65 (.un .not (.t 64))]) (.cnd (.t 65) (.seq (.reg [o 4 (.mov (.k (.bool false)))]) .ret) .skip)) (.seq (.reg [o 11 (.mov (.k (.int .i64 1)))]) (.seq (.reg [o 66 (.mov (.t 8)),o 67 (.mov (.t 11)),o 68 (.call 16 [(.t 66),(.t 67)]),o 11 (.mov (.t 68))]) (.seq (.seq (.reg [o 69 (.mov (.t 11)),o 70 (.bin .lss (.t 69) (.k (.int .i64 0)))]) (.cnd (.t 70) (.seq (.reg [o 4 (.mov (.k (.bool false)))]) .ret) .skip)) (.seq (.seq (.reg [o 71 (.mov (.t 11)),o 72 (.mov (.t 10)),o 73 (.bin .neq (.t 71) (.t 72))]) (.cnd (.t 73) (.seq (.reg [o 4 (.mov (.k (.bool false)))]) .ret) .skip)) (.seq (.reg [o 4 (.mov (.k (.bool true)))]) .ret)))))))))))))))))))))))))⟩
theorem ir_l_FnExactActsBy:compFn Tryz.prog n_l_FnExactActsBy=some F_l_FnExactActsBy:=by kernel_rfl
theorem law_ActsBy (σ:St) (v0:GV) (x0:List Unit_) (hR0:Sl eUnit_ σ v0 x0) (hw0:((x0).length≤9223372036854775807∧∀ y6∈x0,zUnit_ (y6))) (x1:Int) (hw1:I64 x1):∃ r τ,Ret Tryz.prog n_l_FnExactActsBy [v0,.int .i64 x1] σ r τ∧r= .bool true:=by
 have hR0:RS kUnit_ σ v0 x0:=hR0.rs rfl (brUnit_)
 have hw0:=zUnitS_w hw0
 refine ret_law ir_l_FnExactActsBy (Nat.le_of_ble_eq_true rfl) ?_
 have hB:σ <+: σ:=List.prefix_refl _
 simp +contextual (disch:=omega) only[go_sem,F_l_FnExactActsBy,F_l_FnExactActsBy]
 refine by_ret (l_szUnitS_ret _ v0 x0 (hR0.pre (hB.trans (List.prefix_refl _))) (1048576) hw0 (by omega) (by omega)) ?_
 have ge0:= @lf_ge (1048576) ((x0.length+sumL msUnit x0))
 have gm0:= @lf_le (1048576) ((x0.length+sumL msUnit x0)) (by omega)
 try simp +contextual (disch:=omega) only[go_sem,List.append_nil,ite_self,ne_eq,not_true_eq_false,bne_self_eq_false,beq_self_eq_true,hR0.len]
 intro hn
 have hn:=of_decide_eq_false hn
 have hf0:=lf_some hn
 try simp +contextual (disch:=omega) only[go_sem,List.append_nil,ite_self,ne_eq,not_true_eq_false,bne_self_eq_false,beq_self_eq_true,hR0.len]
 have H:=Hp.refl (σ)
 try simp +contextual (disch:=omega) only[go_sem,List.append_nil,ite_self,ne_eq,not_true_eq_false,bne_self_eq_false,beq_self_eq_true,hR0.len]
 obtain⟨u1,τ1,R1,K1⟩:=l_toUnitS_ret _ v0 x0 (hR0.pre (hB.trans H.sub)) (by omega)
 refine by_hp R1 K1 ?_
 have H:=H.add K1
 try simp only[List.cons_append,List.nil_append] at H
 try simp +contextual (disch:=omega) only[go_sem,List.append_nil,ite_self,ne_eq,not_true_eq_false,bne_self_eq_false,beq_self_eq_true,hR0.len]
 obtain⟨c2_0,τ2,R2,p2⟩:=s_ActsBy_ret _ u1 x0 (H.sl 0 rfl) x1 (by omega)
 have q2_0:=p2.sl 0 rfl
 have p2:=p2.sub
 refine by_new R2 p2 ?_
 have hpw:=H.sub.trans p2
 have H:=Hp.refl τ2
 have nt2_0:=RdN.notup q2_0
 try simp +contextual (disch:=omega) only[go_sem,List.append_nil,ite_self,ne_eq,not_true_eq_false,bne_self_eq_false,beq_self_eq_true,hR0.len]
 obtain⟨u3,τ3,R3,K3⟩:=l_toUnitS_ret _ v0 x0 (hR0.pre (hB.trans (hpw.trans H.sub))) (by omega)
 refine by_hp R3 K3 ?_
 have H:=H.add K3
 try simp only[List.cons_append,List.nil_append] at H
 try simp +contextual (disch:=omega) only[go_sem,List.append_nil,ite_self,ne_eq,not_true_eq_false,bne_self_eq_false,beq_self_eq_true,hR0.len]
 obtain⟨c4_0,τ4,R4,K4⟩:=i_ActsBy_ret _ u3 x0 (H.sl 0 rfl) x1 (by omega)
 refine by_hp R4 K4 ?_
 have H:=H.add K4
 try simp only[List.cons_append,List.nil_append] at H
 have nt4_0:=RdN.notup (K4.sl 0 rfl)
 try simp +contextual (disch:=omega) only[go_sem,List.append_nil,ite_self,ne_eq,not_true_eq_false,bne_self_eq_false,beq_self_eq_true,hR0.len]
 try simp +contextual (disch:=omega) only[go_sem,List.append_nil,ite_self,ne_eq,not_true_eq_false,bne_self_eq_false,beq_self_eq_true,hR0.len]
 refine by_ret (l_eqActS_ret _ _ _ _ _ (H.sl 0 rfl) (q2_0.pre H.sub) (by have:=actsBy_ms x0 x1;omega)) ?_
 try simp +contextual (disch:=omega) only[go_sem,List.append_nil,ite_self,ne_eq,not_true_eq_false,bne_self_eq_false,beq_self_eq_true,hR0.len,decide_true,eq_self]
 try simp +contextual (disch:=omega) only[go_sem,List.append_nil,ite_self,ne_eq,not_true_eq_false,bne_self_eq_false,beq_self_eq_true,hR0.len]
 obtain⟨u5,τ5,R5,K5⟩:=l_toUnitS_ret _ v0 x0 (hR0.pre (hB.trans (hpw.trans H.sub))) (by omega)
 refine by_hp R5 K5 ?_
 have H:=H.add K5
 try simp only[List.cons_append,List.nil_append] at H
 try simp +contextual (disch:=omega) only[go_sem,List.append_nil,ite_self,ne_eq,not_true_eq_false,bne_self_eq_false,beq_self_eq_true,hR0.len]
 refine by_ret (l_eqUnitS_ret _ _ _ _ _ (H.sl 2 rfl) (H.sl 0 rfl) (by omega)) ?_
 try simp +contextual (disch:=omega) only[go_sem,List.append_nil,ite_self,ne_eq,not_true_eq_false,bne_self_eq_false,beq_self_eq_true,hR0.len,decide_true,eq_self]
 obtain⟨τ6,R6,H⟩:=l_markUnitS_ret 2 u3 x0 (1) H rfl (by omega) (by have:=ctU_le x0;omega)
 refine by_mut R6 ?_
 try simp only[List.set_cons_succ,List.set_cons_zero] at H
 try simp +contextual (disch:=omega) only[go_sem,List.append_nil,ite_self,ne_eq,not_true_eq_false,bne_self_eq_false,beq_self_eq_true,hR0.len]
 have hng:decide ((1:Int)+(sumL ctU x0:Nat)<0)=false:=decide_eq_false (by omega)
 try simp +contextual (disch:=omega) only[go_sem,List.append_nil,ite_self,ne_eq,not_true_eq_false,bne_self_eq_false,beq_self_eq_true,hR0.len,dneg1,dneg2,hng]
 refine by_ret (l_eqActS_ret _ _ _ _ _ (H.sl 1 rfl) (q2_0.pre H.sub) (by have:=actsBy_ms x0 x1;omega)) ?_
 try simp +contextual (disch:=omega) only[go_sem,List.append_nil,ite_self,ne_eq,not_true_eq_false,bne_self_eq_false,beq_self_eq_true,hR0.len,decide_true,eq_self]
 obtain⟨τ7,R7,H⟩:=l_markActS_ret 1 c4_0 _ (1) H rfl (by omega) (by have:=actsBy_ct x0 x1;have:=actsBy_ms x0 x1;omega)
 refine by_mut R7 ?_
 try simp only[List.set_cons_succ,List.set_cons_zero] at H
 try simp +contextual (disch:=omega) only[go_sem,List.append_nil,ite_self,ne_eq,not_true_eq_false,bne_self_eq_false,beq_self_eq_true,hR0.len]
 refine by_ret (l_heldActS_ret _ _ (actsBy x0 x1) 1 (H.sl 1 rfl) (by omega) (by have:=actsBy_ct x0 x1;have:=actsBy_ms x0 x1;omega)) ?_
 try simp +contextual (disch:=omega) only[go_sem,List.append_nil,ite_self,ne_eq,not_true_eq_false,bne_self_eq_false,beq_self_eq_true,hR0.len,dneg1,dneg2]
 try simp +contextual (disch:=omega) only[go_sem,List.append_nil,ite_self,ne_eq,not_true_eq_false,bne_self_eq_false,beq_self_eq_true,hR0.len,dneg1,dneg2]
 try simp +contextual (disch:=omega) only[go_sem,List.append_nil,ite_self,ne_eq,not_true_eq_false,bne_self_eq_false,beq_self_eq_true,hR0.len,dneg1,dneg2]
 obtain⟨u8,τ8,R8,K8⟩:=l_toUnitS_ret _ v0 x0 (hR0.pre (hB.trans (hpw.trans H.sub))) (by omega)
 refine by_hp R8 K8 ?_
 have H:=H.add K8
 try simp only[List.cons_append,List.nil_append] at H
 try simp +contextual (disch:=omega) only[go_sem,List.append_nil,ite_self,ne_eq,not_true_eq_false,bne_self_eq_false,beq_self_eq_true,hR0.len]
 obtain⟨c9_0,τ9,R9,K9⟩:=i_ActsBy_ret _ u8 x0 (H.sl 0 rfl) x1 (by omega)
 refine by_hp R9 K9 ?_
 have H:=H.add K9
 try simp only[List.cons_append,List.nil_append] at H
 have nt9_0:=RdN.notup (K9.sl 0 rfl)
 try simp +contextual (disch:=omega) only[go_sem,List.append_nil,ite_self,ne_eq,not_true_eq_false,bne_self_eq_false,beq_self_eq_true,hR0.len]
 try simp +contextual (disch:=omega) only[go_sem,List.append_nil,ite_self,ne_eq,not_true_eq_false,bne_self_eq_false,beq_self_eq_true,hR0.len]
 refine by_ret (l_eqActS_ret _ _ _ _ _ (H.sl 0 rfl) (q2_0.pre H.sub) (by have:=actsBy_ms x0 x1;omega)) ?_
 try simp +contextual (disch:=omega) only[go_sem,List.append_nil,ite_self,ne_eq,not_true_eq_false,bne_self_eq_false,beq_self_eq_true,hR0.len,decide_true,eq_self]
 refine by_ret (l_heldActS_ret _ _ (actsBy x0 x1) 1 (H.sl 3 rfl) (by omega) (by have:=actsBy_ct x0 x1;have:=actsBy_ms x0 x1;omega)) ?_
 try simp +contextual (disch:=omega) only[go_sem,List.append_nil,ite_self,ne_eq,not_true_eq_false,bne_self_eq_false,beq_self_eq_true,hR0.len,dneg1,dneg2]
 try simp +contextual (disch:=omega) only[go_sem,List.append_nil,ite_self,ne_eq,not_true_eq_false,bne_self_eq_false,beq_self_eq_true,hR0.len,dneg1,dneg2]
 try simp +contextual (disch:=omega) only[go_sem,List.append_nil,ite_self,ne_eq,not_true_eq_false,bne_self_eq_false,beq_self_eq_true,hR0.len,dneg1,dneg2]
 exact(hB.trans (hpw.trans H.sub)).length_le
end Go.Proofs.YtffnefmklckngaaGreat.Sy
