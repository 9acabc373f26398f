/- Texts of this proof, one behind the other. -/
import Derived.Test.YtffnefmklckngaaGreatBActsBy1
import Derived.Test.YtffnefmklckngaaGreatProg
import Derived.KernelRfl
namespace Go.Proofs.YtffnefmklckngaaGreat.Sy
open Go Go.RowKit
set_option linter.unusedSimpArgs false
set_option linter.unusedVariables false
set_option maxRecDepth 4000
abbrev n_i_RowDots:Nat:=193
def F_i_RowDots:Fn1:=⟨82,[.t 4],(.seq (.reg [o 2 (.box (.t 0)),o 4 (.mov (.k .nilS))]) (.seq (.reg [o 12 (.lit 2 0 [] []),o 5 (.mov (.t 12))]) (.seq (.seq (.reg [o 13 (.ld true 4 (.t 2)),o 14 (.call 146 [(.t 13)]),o 15 (.un .not (.t 14))]) (.cnd (.t 15) (.seq (.reg [o 16 (.mov (.t 5)),o 4 (.mov (.t 16))]) .ret) .skip)) (.seq (.reg [o 17 (.lit 8 0 [] []),o 6 (.mov (.t 17))]) (.seq (.seq (.reg [o 18 (.fad 3 (.t 2)),o 19 (.ld false 1 (.t 18)),o 20 (.len false (.t 19)),o 21 (.mov (.k (.int .i64 0)))]) (.blk 0 (.lop (.seq (.reg [o 22 (.bin .lss (.t 21) (.t 20))]) (.seq (.cnd (.t 22) .skip (.ext 0)) (.seq (.blk 1 (.seq (.reg [o 23 (.iad 8 (.t 19) (.t 21)),o 24 (.ld true 8 (.t 23)),o 8 (.new [(.str ⟨#[]⟩),(.int .i64 0),(.int .i64 0),(.int .i64 0),(.int .i64 0),(.int .i64 0),(.int .i64 0),(.bool false)]),on (.st 8 (.t 8) (.t 24))]) (.seq (.reg [o 25 (.fad 0 (.t 8)),o 26 (.ld false 1 (.t 25)),o 27 (.mov (.t 1)),o 28 (.bin .eql (.t 26) (.t 27))]) (.cnd (.t 28) (.reg [o 29 (.mov (.t 6)),o 30 (.ld true 8 (.t 8)),o 31 (.lit 8 1 [(.str ⟨#[]⟩),(.int .i64 0),(.int .i64 0),(.int .i64 0),(.int .i64 0),(.int .i64 0),(.int .i64 0),(.bool false)] [(0,8,(.t 30))]),o 32 (.app 8 72 [(.str ⟨#[]⟩),(.int .i64 0),(.int .i64 0),(.int .i64 0),(.int .i64 0),(.int .i64 0),(.int .i64 0),(.bool false)] (.t 29) (.t 31)),o 6 (.mov (.t 32))]) .skip)))) (.reg [o 33 (.bin .add (.t 21) (.k (.int .i64 1))),o 21 (.mov (.t 33))]))))))) (.seq (.reg [o 34 (.mov (.t 6)),o 35 (.call 231 [(.t 34),(.k (.fn 232 []))])]) (.seq (.reg [o 36 (.build [(.int .i64 0),(.int .i64 0)] []),o 37 (.lit 2 1 [(.int .i64 0),(.int .i64 0)] [(0,2,(.t 36))]),o 9 (.mov (.t 37))]) (.seq (.blk 2 (.lop (.seq (.seq (.reg [o 38 (.mov (.t 9)),o 39 (.len false (.t 38)),o 40 (.bin .gtr (.t 39) (.k (.int .i64 0)))]) (.cnd (.t 40) .skip (.ext 2))) (.blk 3 (.seq (.reg [o 41 (.mov (.t 9)),o 42 (.mov (.t 9)),o 43 (.len false (.t 42)),o 44 (.bin .sub (.t 43) (.k (.int .i64 1))),o 45 (.iad 2 (.t 41) (.t 44)),o 46 (.ld true 2 (.t 45)),o 10 (.new [(.int .i64 0),(.int .i64 0)]),on (.st 2 (.t 10) (.t 46))]) (.seq (.reg [o 47 (.mov (.t 9)),o 48 (.mov (.t 9)),o 49 (.len false (.t 48)),o 50 (.bin .sub (.t 49) (.k (.int .i64 1))),o 51 (.cut 2 (.t 47) none (some (.t 50))),o 9 (.mov (.t 51))]) (.seq (.seq (.reg [o 52 (.ld true 2 (.t 10)),o 53 (.build [(.int .i64 0),(.int .i64 0)] []),o 54 (.eqs true [.i .i64,.i .i64] (.t 52) (.t 53))]) (.cnd (.t 54) (.reg [o 55 (.mov (.t 5)),o 56 (.ld true 2 (.t 10)),o 57 (.lit 2 1 [(.int .i64 0),(.int .i64 0)] [(0,2,(.t 56))]),o 58 (.app 2 16 [(.int .i64 0),(.int .i64 0)] (.t 55) (.t 57)),o 5 (.mov (.t 58))]) .skip)) (.seq (.reg [o 59 (.mov (.t 6)),o 60 (.len false (.t 59)),o 61 (.bin .sub (.t 60) (.k (.int .i64 1))),o 11 (.mov (.t 61))]) (.blk 4 (.lop (.seq (.seq (.reg [o 62 (.mov (.t 11)),o 63 (.bin .geq (.t 62) (.k (.int .i64 0)))]) (.cnd (.t 63) .skip (.ext 4))) (.seq (.blk 5 (.seq (.drw [o 66 (.mov (.t 6)),o 67 (.mov (.t 11)),o 68 (.iad 8 (.t 66) (.t 67)),o 69 (.fad 4 (.t 68)),o 70 (.ld true 2 (.t 69)),o 71 (.ld true 2 (.t 10))] [o 72 (.eqs false [.i .i64,.i .i64] (.t 70) (.t 71))]) (.cnd (.t 72) (.reg [o 73 (.mov (.t 9)),o 74 (.mov (.t 6)),o 75 (.mov (.t 11)),o 76 (.iad 8 (.t 74) (.t 75)),o 77 (.fad 1 (.t 76)),o 78 (.ld true 2 (.t 77)),o 79 (.lit 2 1 [(.int .i64 0),(.int .i64 0)] [(0,2,(.t 78))]),o 80 (.app 2 16 [(.int .i64 0),(.int .i64 0)] (.t 73) (.t 79)),o 9 (.mov (.t 80))]) .skip))) (.reg [o 64 (.mov (.t 11)),o 65 (.bin .sub (.t 64) (.k (.int .i64 1))),o 11 (.mov (.t 65))]))))))))))))) (.seq (.reg [o 81 (.mov (.t 5)),o 4 (.mov (.t 81))]) .ret)))))))))⟩
end Go.Proofs.YtffnefmklckngaaGreat.Sy
namespace Go.Proofs.YtffnefmklckngaaGreat.Sy
open Go Go.RowKit
set_option linter.unusedSimpArgs false
set_option linter.unusedVariables false
def goneIn (l:List Cell) (obj:ByteArray):Nat:=l.countP fun c=>decide (c.obj=obj)&&c.gone
def refsTo (l:List Cell) (d:Dot):Nat:=l.countP fun c=>decide (c.ref=d)&& !decide (d=⟨0,0⟩)
end Go.Proofs.YtffnefmklckngaaGreat.Sy
namespace Go.Proofs.YtffnefmklckngaaGreat.Sy
open Go Go.RowKit
set_option linter.unusedSimpArgs false
set_option linter.unusedVariables false
set_option maxRecDepth 4000
def mayClr (s:State) (d:Dot) (kn:List Int):Bool:=match cellIx s.cells d with
 |some k=>(onI s.cells k fun c=>c.gone)&&(knows kn d&&decide (refsTo s.cells d=0))
 |none=>false
end Go.Proofs.YtffnefmklckngaaGreat.Sy
namespace Go.Proofs.YtffnefmklckngaaGreat.Sy
open Go Go.RowKit
set_option linter.unusedSimpArgs false
set_option linter.unusedVariables false
theorem Hp.ownAct {σ τ:St} {rs:List Thg} {x:Act} {v2:GV} (H:Hp σ τ (ow pI.kd v2 x.knew::rs)):Hp σ τ (own kAct ((GV.int .i64 x.dot.rep)::(GV.int .i64 x.dot.seq)::(GV.int .i64 x.time)::v2::(GV.int .i64 x.kind)::(GV.str x.obj)::(GV.str x.key)::(GV.int .i64 x.val)::(GV.int .i64 x.ref.rep)::(GV.int .i64 x.ref.seq)::[]) x::rs):=by
 refine(H).conv ?_
 intro fp h0
 exact⟨v2,fp,rfl,h0,rfl⟩
theorem Hp.splitAct {σ τ:St} {rs:List Thg} {x:Act} {cs:List GV} (H:Hp σ τ (own kAct cs x::rs)):∃ v2,cs=(GV.int .i64 x.dot.rep)::(GV.int .i64 x.dot.seq)::(GV.int .i64 x.time)::v2::(GV.int .i64 x.kind)::(GV.str x.obj)::(GV.str x.key)::(GV.int .i64 x.val)::(GV.int .i64 x.ref.rep)::(GV.int .i64 x.ref.seq)::[]∧Hp σ τ (ow pI.kd v2 x.knew::rs):=by
 obtain⟨h,fp,⟨a,b,⟨v2,f0,rfl,h0,rfl⟩,hs,rfl⟩,hn,hb⟩:=H
 exact⟨v2,rfl,h,_,⟨_,_,h0,hs,rfl⟩,by simpa [List.append_assoc] using hn,by simpa [List.append_assoc] using hb⟩
theorem Hp.ownState {σ τ:St} {rs:List Thg} {x:State} {v0:GV} {v1:GV} {v2:GV} {v3:GV} (H:Hp σ τ (ow pI.kd v0 x.know::ow pTally.kd v1 x.tallies::ow pLive.kd v2 x.lives::ow pCell.kd v3 x.cells::rs)):Hp σ τ (own kState (v0::v1::v2::v3::[]) x::rs):=by
 refine(H.join.join.join).conv ?_
 rintro fp ⟨_,f3,⟨_,f2,⟨f0,f1,h0,h1,rfl⟩,h2,rfl⟩,h3,rfl⟩
 exact⟨v0,v1,v2,v3,f0,f1,f2,f3,rfl,h0,h1,h2,h3,by simp[List.append_assoc]⟩
theorem Hp.ownDelta {σ τ:St} {rs:List Thg} {x:Delta} {v0:GV} {v1:GV} {v2:GV} {v3:GV} {v4:GV} {v5:GV} (H:Hp σ τ (ow pI.kd v0 x.base::ow pI.kd v1 x.know::ow pTally.kd v2 x.tallies::ow pLive.kd v3 x.lives::ow pDot.kd v4 x.dead::ow pCell.kd v5 x.cells::rs)):Hp σ τ (own kDelta (v0::v1::v2::v3::v4::v5::[]) x::rs):=by
 refine(H.join.join.join.join.join).conv ?_
 rintro fp ⟨_,f5,⟨_,f4,⟨_,f3,⟨_,f2,⟨f0,f1,h0,h1,rfl⟩,h2,rfl⟩,h3,rfl⟩,h4,rfl⟩,h5,rfl⟩
 exact⟨v0,v1,v2,v3,v4,v5,f0,f1,f2,f3,f4,f5,rfl,h0,h1,h2,h3,h4,h5,by simp[List.append_assoc]⟩
theorem Hp.splitDelta {σ τ:St} {rs:List Thg} {x:Delta} {cs:List GV} (H:Hp σ τ (own kDelta cs x::rs)):∃ v0 v1 v2 v3 v4 v5,cs=v0::v1::v2::v3::v4::v5::[]∧Hp σ τ (ow pI.kd v0 x.base::ow pI.kd v1 x.know::ow pTally.kd v2 x.tallies::ow pLive.kd v3 x.lives::ow pDot.kd v4 x.dead::ow pCell.kd v5 x.cells::rs):=by
 obtain⟨h,fp,⟨a,b,⟨v0,v1,v2,v3,v4,v5,f0,f1,f2,f3,f4,f5,rfl,h0,h1,h2,h3,h4,h5,rfl⟩,hs,rfl⟩,hn,hb⟩:=H
 exact⟨v0,v1,v2,v3,v4,v5,rfl,h,_,⟨_,_,h0,⟨_,_,h1,⟨_,_,h2,⟨_,_,h3,⟨_,_,h4,⟨_,_,h5,hs,rfl⟩,rfl⟩,rfl⟩,rfl⟩,rfl⟩,rfl⟩,by simpa [List.append_assoc] using hn,by simpa [List.append_assoc] using hb⟩
theorem Hp.ownUnit_ {σ τ:St} {rs:List Thg} {x:Unit_} {v1:List GV} {v2:List GV} (H:Hp σ τ (own kAct v1 x.act::own kDelta v2 x.delta::rs)):Hp σ τ (own kUnit_ ((GV.bool x.batch)::v1++(v2++([]))) x::rs):=by
 refine(H.join).conv ?_
 rintro fp ⟨f0,f1,h0,h1,rfl⟩
 exact⟨v1,v2,f0,f1,rfl,h0,h1,by simp[List.append_assoc]⟩
theorem Hp.splitUnit_ {σ τ:St} {rs:List Thg} {x:Unit_} {cs:List GV} (H:Hp σ τ (own kUnit_ cs x::rs)):∃ v1 v2,cs=(GV.bool x.batch)::v1++(v2++([]))∧Hp σ τ (own kAct v1 x.act::own kDelta v2 x.delta::rs):=by
 obtain⟨h,fp,⟨a,b,⟨v1,v2,f0,f1,rfl,h0,h1,rfl⟩,hs,rfl⟩,hn,hb⟩:=H
 exact⟨v1,v2,rfl,h,_,⟨_,_,h0,⟨_,_,h1,hs,rfl⟩,rfl⟩,by simpa [List.append_assoc] using hn,by simpa [List.append_assoc] using hb⟩
end Go.Proofs.YtffnefmklckngaaGreat.Sy
namespace Go.Proofs.YtffnefmklckngaaGreat.Sy
open Go Go.RowKit
set_option linter.unusedSimpArgs false
set_option linter.unusedVariables false
end Go.Proofs.YtffnefmklckngaaGreat.Sy
namespace Go.Proofs.YtffnefmklckngaaGreat.Sy
open Go Go.RowKit
set_option linter.unusedSimpArgs false
set_option linter.unusedVariables false
set_option maxRecDepth 4000
end Go.Proofs.YtffnefmklckngaaGreat.Sy
namespace Go.Proofs.YtffnefmklckngaaGreat.Sy
open Go Go.RowKit
set_option linter.unusedSimpArgs false
set_option linter.unusedVariables false
set_option maxRecDepth 4000
abbrev n_i_withLive:Nat:=154
def F_i_withLive:Fn1:=⟨37,[.t 4],(.seq (.reg [o 3 (.box (.t 1)),o 4 (.mov (.k .nilS))]) (.seq (.reg [o 5 (.mov (.k (.int .i64 0)))]) (.seq (.blk 0 (.lop (.seq (.seq (.drw [o 7 (.mov (.t 5)),o 8 (.mov (.t 0)),o 9 (.len false (.t 8)),o 10 (.bin .lss (.t 7) (.t 9)),o 11 (.mov (.t 10)),og 12 11 true (.mov (.t 0)),og 13 11 true (.mov (.t 5)),og 14 11 true (.iad 6 (.t 12) (.t 13)),og 15 11 true (.fad 4 (.t 14)),og 16 11 true (.ld true 2 (.t 15)),og 17 11 true (.fad 4 (.t 3)),og 18 11 true (.ld true 2 (.t 17))] [og 19 11 true (.call 174 [(.t 16),(.t 18)]),og 20 11 true (.bin .lss (.t 19) (.k (.int .i64 0))),o 21 (.pick (.t 11) (.t 20) (.k (.bool false)))]) (.cnd (.t 21) .skip (.ext 0))) (.blk 1 (.reg [o 22 (.mov (.t 5)),o 23 (.bin .add (.t 22) (.k (.int .i64 1))),o 5 (.mov (.t 23))]))))) (.seq (.drw [o 24 (.lit 6 0 [] []),o 25 (.mov (.t 0)),o 26 (.mov (.t 5)),o 27 (.cut 6 (.t 25) none (some (.t 26))),o 28 (.app 6 64 [(.bool false),(.str ⟨#[]⟩),(.str ⟨#[]⟩),(.int .i64 0),(.int .i64 0),(.int .i64 0)] (.t 24) (.t 27)),o 29 (.ld true 6 (.t 3)),o 30 (.lit 6 1 [(.bool false),(.str ⟨#[]⟩),(.str ⟨#[]⟩),(.int .i64 0),(.int .i64 0),(.int .i64 0)] [(0,6,(.t 29))])] [o 31 (.app 6 64 [(.bool false),(.str ⟨#[]⟩),(.str ⟨#[]⟩),(.int .i64 0),(.int .i64 0),(.int .i64 0)] (.t 28) (.t 30)),o 6 (.mov (.t 31))]) (.seq (.reg [o 32 (.mov (.t 6)),o 33 (.mov (.t 0)),o 34 (.mov (.t 5)),o 35 (.cut 6 (.t 33) (some (.t 34)) none),o 36 (.app 6 64 [(.bool false),(.str ⟨#[]⟩),(.str ⟨#[]⟩),(.int .i64 0),(.int .i64 0),(.int .i64 0)] (.t 32) (.t 35)),o 4 (.mov (.t 36))]) .ret)))))⟩
abbrev n_i_withCell:Nat:=156
def F_i_withCell:Fn1:=⟨37,[.t 4],(.seq (.reg [o 3 (.box (.t 1)),o 4 (.mov (.k .nilS))]) (.seq (.reg [o 5 (.mov (.k (.int .i64 0)))]) (.seq (.blk 0 (.lop (.seq (.seq (.drw [o 7 (.mov (.t 5)),o 8 (.mov (.t 0)),o 9 (.len false (.t 8)),o 10 (.bin .lss (.t 7) (.t 9)),o 11 (.mov (.t 10)),og 12 11 true (.mov (.t 0)),og 13 11 true (.mov (.t 5)),og 14 11 true (.iad 8 (.t 12) (.t 13)),og 15 11 true (.fad 1 (.t 14)),og 16 11 true (.ld true 2 (.t 15)),og 17 11 true (.fad 1 (.t 3)),og 18 11 true (.ld true 2 (.t 17))] [og 19 11 true (.call 174 [(.t 16),(.t 18)]),og 20 11 true (.bin .lss (.t 19) (.k (.int .i64 0))),o 21 (.pick (.t 11) (.t 20) (.k (.bool false)))]) (.cnd (.t 21) .skip (.ext 0))) (.blk 1 (.reg [o 22 (.mov (.t 5)),o 23 (.bin .add (.t 22) (.k (.int .i64 1))),o 5 (.mov (.t 23))]))))) (.seq (.drw [o 24 (.lit 8 0 [] []),o 25 (.mov (.t 0)),o 26 (.mov (.t 5)),o 27 (.cut 8 (.t 25) none (some (.t 26))),o 28 (.app 8 72 [(.str ⟨#[]⟩),(.int .i64 0),(.int .i64 0),(.int .i64 0),(.int .i64 0),(.int .i64 0),(.int .i64 0),(.bool false)] (.t 24) (.t 27)),o 29 (.ld true 8 (.t 3)),o 30 (.lit 8 1 [(.str ⟨#[]⟩),(.int .i64 0),(.int .i64 0),(.int .i64 0),(.int .i64 0),(.int .i64 0),(.int .i64 0),(.bool false)] [(0,8,(.t 29))])] [o 31 (.app 8 72 [(.str ⟨#[]⟩),(.int .i64 0),(.int .i64 0),(.int .i64 0),(.int .i64 0),(.int .i64 0),(.int .i64 0),(.bool false)] (.t 28) (.t 30)),o 6 (.mov (.t 31))]) (.seq (.reg [o 32 (.mov (.t 6)),o 33 (.mov (.t 0)),o 34 (.mov (.t 5)),o 35 (.cut 8 (.t 33) (some (.t 34)) none),o 36 (.app 8 72 [(.str ⟨#[]⟩),(.int .i64 0),(.int .i64 0),(.int .i64 0),(.int .i64 0),(.int .i64 0),(.int .i64 0),(.bool false)] (.t 32) (.t 35)),o 4 (.mov (.t 36))]) .ret)))))⟩
abbrev n_i_withoutKnown:Nat:=155
def F_i_withoutKnown:Fn1:=⟨49,[.t 6],(.seq (.reg [o 5 (.box (.t 2)),o 6 (.mov (.k .nilS))]) (.seq (.reg [o 10 (.lit 6 0 [] []),o 7 (.mov (.t 10))]) (.seq (.seq (.reg [o 11 (.mov (.t 0)),o 12 (.len false (.t 11)),o 13 (.mov (.k (.int .i64 0)))]) (.blk 0 (.lop (.seq (.reg [o 14 (.bin .lss (.t 13) (.t 12))]) (.seq (.cnd (.t 14) .skip (.ext 0)) (.seq (.blk 1 (.seq (.reg [o 15 (.iad 6 (.t 11) (.t 13)),o 16 (.ld true 6 (.t 15)),o 9 (.new [(.bool false),(.str ⟨#[]⟩),(.str ⟨#[]⟩),(.int .i64 0),(.int .i64 0),(.int .i64 0)]),on (.st 6 (.t 9) (.t 16))]) (.seq (.reg [o 17 (.fad 0 (.t 9)),o 18 (.ld false 1 (.t 17)),o 19 (.mov (.t 1)),o 20 (.eqb true (.t 18) (.t 19)),o 21 (.mov (.t 20)),og 22 21 false (.fad 1 (.t 9)),og 23 21 false (.ld false 1 (.t 22)),og 24 21 false (.fad 5 (.t 5)),og 25 21 false (.ld false 1 (.t 24)),og 26 21 false (.bin .neq (.t 23) (.t 25)),o 27 (.pick (.t 21) (.k (.bool true)) (.t 26)),o 28 (.mov (.t 27)),og 29 28 false (.fad 2 (.t 9)),og 30 28 false (.ld false 1 (.t 29)),og 31 28 false (.fad 6 (.t 5)),og 32 28 false (.ld false 1 (.t 31)),og 33 28 false (.bin .neq (.t 30) (.t 32)),o 34 (.pick (.t 28) (.k (.bool true)) (.t 33)),o 35 (.mov (.t 34)),og 36 35 false (.fad 3 (.t 5)),og 37 35 false (.ld false 1 (.t 36)),og 38 35 false (.fad 4 (.t 9)),og 39 35 false (.ld true 2 (.t 38)),og 40 35 false (.call 150 [(.t 37),(.t 39)]),og 41 35 false (.un .not (.t 40)),o 42 (.pick (.t 35) (.k (.bool true)) (.t 41))]) (.cnd (.t 42) (.reg [o 43 (.mov (.t 7)),o 44 (.ld true 6 (.t 9)),o 45 (.lit 6 1 [(.bool false),(.str ⟨#[]⟩),(.str ⟨#[]⟩),(.int .i64 0),(.int .i64 0),(.int .i64 0)] [(0,6,(.t 44))]),o 46 (.app 6 64 [(.bool false),(.str ⟨#[]⟩),(.str ⟨#[]⟩),(.int .i64 0),(.int .i64 0),(.int .i64 0)] (.t 43) (.t 45)),o 7 (.mov (.t 46))]) .skip)))) (.reg [o 47 (.bin .add (.t 13) (.k (.int .i64 1))),o 13 (.mov (.t 47))]))))))) (.seq (.reg [o 48 (.mov (.t 7)),o 6 (.mov (.t 48))]) .ret))))⟩
abbrev n_i_tooMany:Nat:=157
def F_i_tooMany:Fn1:=⟨19,[.t 2],(.seq (.reg [o 1 (.box (.t 0)),o 2 (.mov (.k (.bool false)))]) (.seq (.reg [o 3 (.fad 1 (.t 1)),o 4 (.ld false 1 (.t 3)),o 5 (.len false (.t 4)),o 6 (.bin .gtr (.t 5) (.k (.int .i64 120))),o 7 (.mov (.t 6)),og 8 7 false (.fad 2 (.t 1)),og 9 7 false (.ld false 1 (.t 8)),og 10 7 false (.len false (.t 9)),og 11 7 false (.bin .gtr (.t 10) (.k (.int .i64 120))),o 12 (.pick (.t 7) (.k (.bool true)) (.t 11)),o 13 (.mov (.t 12)),og 14 13 false (.fad 3 (.t 1)),og 15 13 false (.ld false 1 (.t 14)),og 16 13 false (.len false (.t 15)),og 17 13 false (.bin .gtr (.t 16) (.k (.int .i64 120))),o 18 (.pick (.t 13) (.k (.bool true)) (.t 17)),o 2 (.mov (.t 18))]) .ret))⟩
section
variable {α:Type} {d:En α} {σ τ:St} {v:GV} {l:List α}
end
abbrev liveV (x:Live):List GV:=[.bool x.map,.str x.obj,.str x.key,.int .i64 x.val,.int .i64 x.dot.rep,.int .i64 x.dot.seq]
theorem gt_cast {n:Nat}:decide ((120:Int)<(n:Int))=decide (120<n):=by rw[decide_eq_decide];omega
end Go.Proofs.YtffnefmklckngaaGreat.Sy
namespace Go.Proofs.YtffnefmklckngaaGreat.Sy
open Go Go.RowKit
set_option linter.unusedSimpArgs false
set_option linter.unusedVariables false
set_option maxRecDepth 4000
abbrev n_i_withTally:Nat:=153
def F_i_withTally:Fn1:=⟨69,[.t 8],(.seq (.reg [o 8 (.mov (.k .nilS))]) (.seq (.reg [o 9 (.mov (.k (.int .i64 0)))]) (.seq (.reg [o 13 (.mov (.t 1)),o 14 (.mov (.t 2)),o 15 (.build [(.str ⟨#[]⟩),(.int .i64 0),(.int .i64 0)] [(0,1,(.t 13)),(1,1,(.t 14))]),o 10 (.new [(.str ⟨#[]⟩),(.int .i64 0),(.int .i64 0)]),on (.st 3 (.t 10) (.t 15))]) (.seq (.blk 0 (.lop (.seq (.seq (.drw [o 16 (.mov (.t 9)),o 17 (.mov (.t 0)),o 18 (.len false (.t 17)),o 19 (.bin .lss (.t 16) (.t 18)),o 20 (.mov (.t 19)),og 21 20 true (.mov (.t 0)),og 22 20 true (.mov (.t 9)),og 23 20 true (.iad 3 (.t 21) (.t 22)),og 24 20 true (.ld true 3 (.t 23)),og 25 20 true (.ld true 3 (.t 10))] [og 26 20 true (.call 201 [(.t 24),(.t 25)]),og 27 20 true (.bin .lss (.t 26) (.k (.int .i64 0))),o 28 (.pick (.t 20) (.t 27) (.k (.bool false)))]) (.cnd (.t 28) .skip (.ext 0))) (.blk 1 (.reg [o 29 (.mov (.t 9)),o 30 (.bin .add (.t 29) (.k (.int .i64 1))),o 9 (.mov (.t 30))]))))) (.seq (.reg [o 31 (.mov (.t 0)),o 32 (.mov (.t 9)),o 33 (.cut 3 (.t 31) (some (.t 32)) none),o 11 (.mov (.t 33))]) (.seq (.seq (.drw [o 34 (.mov (.t 11)),o 35 (.len false (.t 34)),o 36 (.bin .gtr (.t 35) (.k (.int .i64 0))),o 37 (.mov (.t 36)),og 38 37 true (.mov (.t 11)),og 39 37 true (.iad 3 (.t 38) (.k (.int .i64 0))),og 40 37 true (.ld true 3 (.t 39)),og 41 37 true (.ld true 3 (.t 10))] [og 42 37 true (.call 201 [(.t 40),(.t 41)]),og 43 37 true (.bin .eql (.t 42) (.k (.int .i64 0))),o 44 (.pick (.t 37) (.t 43) (.k (.bool false)))]) (.cnd (.t 44) (.seq (.reg [o 45 (.mov (.t 11)),o 46 (.iad 3 (.t 45) (.k (.int .i64 0))),o 47 (.fad 2 (.t 46)),o 48 (.ld false 1 (.t 47)),o 49 (.fad 2 (.t 10)),on (.st 1 (.t 49) (.t 48))]) (.reg [o 50 (.mov (.t 11)),o 51 (.cut 3 (.t 50) (some (.k (.int .i64 1))) none),o 11 (.mov (.t 51))])) .skip)) (.seq (.reg [o 52 (.fad 2 (.t 10)),o 53 (.ld false 1 (.t 52)),o 54 (.mov (.t 3)),o 55 (.bin .add (.t 53) (.t 54)),o 56 (.bin .rem (.t 55) (.k (.int .i64 1000000))),o 57 (.fad 2 (.t 10)),on (.st 1 (.t 57) (.t 56))]) (.seq (.drw [o 58 (.lit 3 0 [] []),o 59 (.mov (.t 0)),o 60 (.mov (.t 9)),o 61 (.cut 3 (.t 59) none (some (.t 60))),o 62 (.app 3 32 [(.str ⟨#[]⟩),(.int .i64 0),(.int .i64 0)] (.t 58) (.t 61)),o 63 (.ld true 3 (.t 10)),o 64 (.lit 3 1 [(.str ⟨#[]⟩),(.int .i64 0),(.int .i64 0)] [(0,3,(.t 63))])] [o 65 (.app 3 32 [(.str ⟨#[]⟩),(.int .i64 0),(.int .i64 0)] (.t 62) (.t 64)),o 12 (.mov (.t 65))]) (.seq (.reg [o 66 (.mov (.t 12)),o 67 (.mov (.t 11)),o 68 (.app 3 32 [(.str ⟨#[]⟩),(.int .i64 0),(.int .i64 0)] (.t 66) (.t 67)),o 8 (.mov (.t 68))]) .ret)))))))))⟩
abbrev tallyV (x:Tally):List GV:=[.str x.obj,.int .i64 x.rep,.int .i64 x.sum]
end Go.Proofs.YtffnefmklckngaaGreat.Sy
namespace Go.Proofs.YtffnefmklckngaaGreat.Sy
open Go Go.RowKit
set_option linter.unusedSimpArgs false
set_option linter.unusedVariables false
set_option maxRecDepth 4000
abbrev n_s_l07Live:Nat:=195
def F_s_l07Live:Fn1:=⟨45,[.t 4],(.seq (.reg [o 3 (.box (.t 1)),o 4 (.mov (.k .nilS))]) (.seq (.reg [o 8 (.lit 6 0 [] []),o 5 (.mov (.t 8))]) (.seq (.reg [o 6 (.mov (.k (.bool false)))]) (.seq (.seq (.reg [o 7 (.mov (.k (.int .i64 0)))]) (.blk 0 (.lop (.seq (.seq (.reg [o 9 (.mov (.t 7)),o 10 (.mov (.t 0)),o 11 (.len false (.t 10)),o 12 (.bin .lss (.t 9) (.t 11))]) (.cnd (.t 12) .skip (.ext 0))) (.seq (.blk 1 (.seq (.seq (.drw [o 15 (.mov (.t 6)),o 16 (.un .not (.t 15)),o 17 (.mov (.t 16)),og 18 17 true (.fad 4 (.t 3)),og 19 17 true (.ld true 2 (.t 18)),og 20 17 true (.mov (.t 0)),og 21 17 true (.mov (.t 7)),og 22 17 true (.iad 6 (.t 20) (.t 21)),og 23 17 true (.fad 4 (.t 22)),og 24 17 true (.ld true 2 (.t 23))] [og 25 17 true (.call 211 [(.t 19),(.t 24)]),o 26 (.pick (.t 17) (.t 25) (.k (.bool false)))]) (.cnd (.t 26) (.seq (.reg [o 27 (.mov (.t 5)),o 28 (.ld true 6 (.t 3)),o 29 (.lit 6 1 [(.bool false),(.str ⟨#[]⟩),(.str ⟨#[]⟩),(.int .i64 0),(.int .i64 0),(.int .i64 0)] [(0,6,(.t 28))]),o 30 (.app 6 64 [(.bool false),(.str ⟨#[]⟩),(.str ⟨#[]⟩),(.int .i64 0),(.int .i64 0),(.int .i64 0)] (.t 27) (.t 29)),o 5 (.mov (.t 30))]) (.reg [o 6 (.mov (.k (.bool true)))])) .skip)) (.reg [o 31 (.mov (.t 5)),o 32 (.mov (.t 0)),o 33 (.mov (.t 7)),o 34 (.iad 6 (.t 32) (.t 33)),o 35 (.ld true 6 (.t 34)),o 36 (.lit 6 1 [(.bool false),(.str ⟨#[]⟩),(.str ⟨#[]⟩),(.int .i64 0),(.int .i64 0),(.int .i64 0)] [(0,6,(.t 35))]),o 37 (.app 6 64 [(.bool false),(.str ⟨#[]⟩),(.str ⟨#[]⟩),(.int .i64 0),(.int .i64 0),(.int .i64 0)] (.t 31) (.t 36)),o 5 (.mov (.t 37))]))) (.reg [o 13 (.mov (.t 7)),o 14 (.bin .add (.t 13) (.k (.int .i64 1))),o 7 (.mov (.t 14))])))))) (.seq (.seq (.reg [o 38 (.mov (.t 6)),o 39 (.un .not (.t 38))]) (.cnd (.t 39) (.reg [o 40 (.mov (.t 5)),o 41 (.ld true 6 (.t 3)),o 42 (.lit 6 1 [(.bool false),(.str ⟨#[]⟩),(.str ⟨#[]⟩),(.int .i64 0),(.int .i64 0),(.int .i64 0)] [(0,6,(.t 41))]),o 43 (.app 6 64 [(.bool false),(.str ⟨#[]⟩),(.str ⟨#[]⟩),(.int .i64 0),(.int .i64 0),(.int .i64 0)] (.t 40) (.t 42)),o 5 (.mov (.t 43))]) .skip)) (.seq (.reg [o 44 (.mov (.t 5)),o 4 (.mov (.t 44))]) .ret))))))⟩
abbrev n_s_l07Cell:Nat:=197
def F_s_l07Cell:Fn1:=⟨45,[.t 4],(.seq (.reg [o 3 (.box (.t 1)),o 4 (.mov (.k .nilS))]) (.seq (.reg [o 8 (.lit 8 0 [] []),o 5 (.mov (.t 8))]) (.seq (.reg [o 6 (.mov (.k (.bool false)))]) (.seq (.seq (.reg [o 7 (.mov (.k (.int .i64 0)))]) (.blk 0 (.lop (.seq (.seq (.reg [o 9 (.mov (.t 7)),o 10 (.mov (.t 0)),o 11 (.len false (.t 10)),o 12 (.bin .lss (.t 9) (.t 11))]) (.cnd (.t 12) .skip (.ext 0))) (.seq (.blk 1 (.seq (.seq (.drw [o 15 (.mov (.t 6)),o 16 (.un .not (.t 15)),o 17 (.mov (.t 16)),og 18 17 true (.fad 1 (.t 3)),og 19 17 true (.ld true 2 (.t 18)),og 20 17 true (.mov (.t 0)),og 21 17 true (.mov (.t 7)),og 22 17 true (.iad 8 (.t 20) (.t 21)),og 23 17 true (.fad 1 (.t 22)),og 24 17 true (.ld true 2 (.t 23))] [og 25 17 true (.call 211 [(.t 19),(.t 24)]),o 26 (.pick (.t 17) (.t 25) (.k (.bool false)))]) (.cnd (.t 26) (.seq (.reg [o 27 (.mov (.t 5)),o 28 (.ld true 8 (.t 3)),o 29 (.lit 8 1 [(.str ⟨#[]⟩),(.int .i64 0),(.int .i64 0),(.int .i64 0),(.int .i64 0),(.int .i64 0),(.int .i64 0),(.bool false)] [(0,8,(.t 28))]),o 30 (.app 8 72 [(.str ⟨#[]⟩),(.int .i64 0),(.int .i64 0),(.int .i64 0),(.int .i64 0),(.int .i64 0),(.int .i64 0),(.bool false)] (.t 27) (.t 29)),o 5 (.mov (.t 30))]) (.reg [o 6 (.mov (.k (.bool true)))])) .skip)) (.reg [o 31 (.mov (.t 5)),o 32 (.mov (.t 0)),o 33 (.mov (.t 7)),o 34 (.iad 8 (.t 32) (.t 33)),o 35 (.ld true 8 (.t 34)),o 36 (.lit 8 1 [(.str ⟨#[]⟩),(.int .i64 0),(.int .i64 0),(.int .i64 0),(.int .i64 0),(.int .i64 0),(.int .i64 0),(.bool false)] [(0,8,(.t 35))]),o 37 (.app 8 72 [(.str ⟨#[]⟩),(.int .i64 0),(.int .i64 0),(.int .i64 0),(.int .i64 0),(.int .i64 0),(.int .i64 0),(.bool false)] (.t 31) (.t 36)),o 5 (.mov (.t 37))]))) (.reg [o 13 (.mov (.t 7)),o 14 (.bin .add (.t 13) (.k (.int .i64 1))),o 7 (.mov (.t 14))])))))) (.seq (.seq (.reg [o 38 (.mov (.t 6)),o 39 (.un .not (.t 38))]) (.cnd (.t 39) (.reg [o 40 (.mov (.t 5)),o 41 (.ld true 8 (.t 3)),o 42 (.lit 8 1 [(.str ⟨#[]⟩),(.int .i64 0),(.int .i64 0),(.int .i64 0),(.int .i64 0),(.int .i64 0),(.int .i64 0),(.bool false)] [(0,8,(.t 41))]),o 43 (.app 8 72 [(.str ⟨#[]⟩),(.int .i64 0),(.int .i64 0),(.int .i64 0),(.int .i64 0),(.int .i64 0),(.int .i64 0),(.bool false)] (.t 40) (.t 42)),o 5 (.mov (.t 43))]) .skip)) (.seq (.reg [o 44 (.mov (.t 5)),o 4 (.mov (.t 44))]) .ret))))))⟩
abbrev n_s_l07Ref:Nat:=144
def F_s_l07Ref:Fn1:=⟨53,[.t 4],(.seq (.reg [o 2 (.box (.t 0)),o 3 (.box (.t 1)),o 4 (.mov (.k (.bool false)))]) (.seq (.seq (.reg [o 6 (.fad 4 (.t 3)),o 7 (.ld false 1 (.t 6)),o 8 (.bin .neq (.t 7) (.k (.int .i64 7))),o 9 (.mov (.t 8)),og 10 9 true (.fad 4 (.t 3)),og 11 9 true (.ld false 1 (.t 10)),og 12 9 true (.bin .neq (.t 11) (.k (.int .i64 6))),og 13 9 true (.mov (.t 12)),og 14 13 false (.fad 8 (.t 3)),og 15 13 false (.ld true 2 (.t 14)),og 16 13 false (.build [(.int .i64 0),(.int .i64 0)] []),og 17 13 false (.eqs false [.i .i64,.i .i64] (.t 15) (.t 16)),og 18 9 true (.pick (.t 13) (.k (.bool true)) (.t 17)),o 19 (.pick (.t 9) (.t 18) (.k (.bool false)))]) (.cnd (.t 19) (.seq (.reg [o 4 (.mov (.k (.bool true)))]) .ret) .skip)) (.seq (.reg [o 20 (.ld true 4 (.t 2)),o 21 (.fad 8 (.t 3)),o 22 (.ld true 2 (.t 21)),o 23 (.call 187 [(.t 20),(.t 22)]),o 5 (.mov (.t 23))]) (.seq (.drw [o 24 (.mov (.t 5)),o 25 (.bin .geq (.t 24) (.k (.int .i64 0))),o 26 (.mov (.t 25)),og 27 26 true (.fad 3 (.t 2)),og 28 26 true (.ld false 1 (.t 27)),og 29 26 true (.mov (.t 5)),og 30 26 true (.iad 8 (.t 28) (.t 29)),og 31 26 true (.fad 0 (.t 30)),og 32 26 true (.ld false 1 (.t 31)),og 33 26 true (.fad 5 (.t 3)),og 34 26 true (.ld false 1 (.t 33)),og 35 26 true (.bin .eql (.t 32) (.t 34)),o 36 (.pick (.t 26) (.t 35) (.k (.bool false))),o 37 (.mov (.t 36)),og 38 37 true (.fad 4 (.t 3)),og 39 37 true (.ld false 1 (.t 38)),og 40 37 true (.bin .eql (.t 39) (.k (.int .i64 7))),og 41 37 true (.mov (.t 40)),og 42 41 false (.fad 3 (.t 2)),og 43 41 false (.ld false 1 (.t 42)),og 44 41 false (.mov (.t 5)),og 45 41 false (.iad 8 (.t 43) (.t 44)),og 46 41 false (.fad 3 (.t 45)),og 47 41 false (.ld false 1 (.t 46)),og 48 41 false (.fad 2 (.t 3)),og 49 41 false (.ld false 1 (.t 48))] [og 50 41 false (.bin .lss (.t 47) (.t 49)),og 51 37 true (.pick (.t 41) (.k (.bool true)) (.t 50)),o 52 (.pick (.t 37) (.t 51) (.k (.bool false))),o 4 (.mov (.t 52))]) .ret))))⟩
end Go.Proofs.YtffnefmklckngaaGreat.Sy
namespace Go.Proofs.YtffnefmklckngaaGreat.Sy
open Go Go.RowKit
set_option linter.unusedSimpArgs false
set_option linter.unusedVariables false
end Go.Proofs.YtffnefmklckngaaGreat.Sy
namespace Go.Proofs.YtffnefmklckngaaGreat.Sy
open Go Go.RowKit
set_option linter.unusedSimpArgs false
set_option linter.unusedVariables false
set_option maxRecDepth 4000
abbrev n_s_l07Clear:Nat:=196
def F_s_l07Clear:Fn1:=⟨61,[],(.seq (.reg [o 13 (.lit 6 0 [] []),o 10 (.mov (.t 13))]) (.seq (.seq (.reg [o 11 (.mov (.k (.int .i64 0)))]) (.blk 0 (.lop (.seq (.seq (.reg [o 14 (.mov (.t 11)),o 15 (.mov (.t 0)),o 16 (.nck (.t 15)),o 17 (.fad 2 (.t 16)),o 18 (.ld false 1 (.t 17)),o 19 (.len false (.t 18)),o 20 (.bin .lss (.t 14) (.t 19))]) (.cnd (.t 20) .skip (.ext 0))) (.seq (.blk 1 (.seq (.reg [o 23 (.mov (.t 0)),o 24 (.nck (.t 23)),o 25 (.fad 2 (.t 24)),o 26 (.ld false 1 (.t 25)),o 27 (.mov (.t 11)),o 28 (.iad 6 (.t 26) (.t 27)),o 29 (.ld true 6 (.t 28)),o 12 (.new [(.bool false),(.str ⟨#[]⟩),(.str ⟨#[]⟩),(.int .i64 0),(.int .i64 0),(.int .i64 0)]),on (.st 6 (.t 12) (.t 29))]) (.seq (.reg [o 30 (.fad 0 (.t 12)),o 31 (.ld false 1 (.t 30)),o 32 (.mov (.t 1)),o 33 (.eqb true (.t 31) (.t 32)),o 34 (.mov (.t 33)),og 35 34 false (.fad 1 (.t 12)),og 36 34 false (.ld false 1 (.t 35)),og 37 34 false (.mov (.t 2)),og 38 34 false (.bin .neq (.t 36) (.t 37)),o 39 (.pick (.t 34) (.k (.bool true)) (.t 38)),o 40 (.mov (.t 39)),og 41 40 false (.fad 2 (.t 12)),og 42 40 false (.ld false 1 (.t 41)),og 43 40 false (.mov (.t 3)),og 44 40 false (.bin .neq (.t 42) (.t 43)),o 45 (.pick (.t 40) (.k (.bool true)) (.t 44)),o 46 (.mov (.t 45)),og 47 46 false (.mov (.t 4)),og 48 46 false (.fad 4 (.t 12)),og 49 46 false (.ld true 2 (.t 48)),og 50 46 false (.call 142 [(.t 47),(.t 49)]),og 51 46 false (.un .not (.t 50)),o 52 (.pick (.t 46) (.k (.bool true)) (.t 51))]) (.cnd (.t 52) (.reg [o 53 (.mov (.t 10)),o 54 (.ld true 6 (.t 12)),o 55 (.lit 6 1 [(.bool false),(.str ⟨#[]⟩),(.str ⟨#[]⟩),(.int .i64 0),(.int .i64 0),(.int .i64 0)] [(0,6,(.t 54))]),o 56 (.app 6 64 [(.bool false),(.str ⟨#[]⟩),(.str ⟨#[]⟩),(.int .i64 0),(.int .i64 0),(.int .i64 0)] (.t 53) (.t 55)),o 10 (.mov (.t 56))]) .skip)))) (.reg [o 21 (.mov (.t 11)),o 22 (.bin .add (.t 21) (.k (.int .i64 1))),o 11 (.mov (.t 22))])))))) (.reg [o 57 (.mov (.t 0)),o 58 (.mov (.t 10)),o 59 (.nck (.t 57)),o 60 (.fad 2 (.t 59)),on (.st 1 (.t 60) (.t 58))])))⟩
abbrev n_s_l07Tally:Nat:=194
def F_s_l07Tally:Fn1:=⟨113,[],(.seq (.seq (.reg [o 8 (.mov (.k (.int .i64 0)))]) (.blk 0 (.lop (.seq (.seq (.reg [o 14 (.mov (.t 8)),o 15 (.mov (.t 0)),o 16 (.nck (.t 15)),o 17 (.fad 1 (.t 16)),o 18 (.ld false 1 (.t 17)),o 19 (.len false (.t 18)),o 20 (.bin .lss (.t 14) (.t 19))]) (.cnd (.t 20) .skip (.ext 0))) (.seq (.blk 1 (.seq (.reg [o 23 (.mov (.t 0)),o 24 (.nck (.t 23)),o 25 (.fad 1 (.t 24)),o 26 (.ld false 1 (.t 25)),o 27 (.mov (.t 8)),o 28 (.iad 3 (.t 26) (.t 27)),o 29 (.ld true 3 (.t 28)),o 9 (.new [(.str ⟨#[]⟩),(.int .i64 0),(.int .i64 0)]),on (.st 3 (.t 9) (.t 29))]) (.seq (.reg [o 30 (.fad 0 (.t 9)),o 31 (.ld false 1 (.t 30)),o 32 (.mov (.t 1)),o 33 (.bin .eql (.t 31) (.t 32)),o 34 (.mov (.t 33)),og 35 34 true (.fad 1 (.t 9)),og 36 34 true (.ld false 1 (.t 35)),og 37 34 true (.mov (.t 2)),og 38 34 true (.bin .eql (.t 36) (.t 37)),o 39 (.pick (.t 34) (.t 38) (.k (.bool false)))]) (.cnd (.t 39) (.seq (.drw [o 40 (.mov (.t 0)),o 41 (.nck (.t 40)),o 42 (.fad 1 (.t 41)),o 43 (.ld false 1 (.t 42)),o 44 (.mov (.t 8)),o 45 (.fad 2 (.t 9)),o 46 (.ld false 1 (.t 45))] [o 47 (.mov (.t 3)),o 48 (.bin .add (.t 46) (.t 47)),o 49 (.bin .rem (.t 48) (.k (.int .i64 1000000))),o 50 (.iad 3 (.t 43) (.t 44)),o 51 (.fad 2 (.t 50)),on (.st 1 (.t 51) (.t 49))]) .ret) .skip)))) (.reg [o 21 (.mov (.t 8)),o 22 (.bin .add (.t 21) (.k (.int .i64 1))),o 8 (.mov (.t 22))])))))) (.seq (.reg [o 52 (.lit 3 0 [] []),o 10 (.mov (.t 52))]) (.seq (.reg [o 11 (.mov (.k (.bool false)))]) (.seq (.seq (.reg [o 12 (.mov (.k (.int .i64 0)))]) (.blk 2 (.lop (.seq (.seq (.reg [o 53 (.mov (.t 12)),o 54 (.mov (.t 0)),o 55 (.nck (.t 54)),o 56 (.fad 1 (.t 55)),o 57 (.ld false 1 (.t 56)),o 58 (.len false (.t 57)),o 59 (.bin .lss (.t 53) (.t 58))]) (.cnd (.t 59) .skip (.ext 2))) (.seq (.blk 3 (.seq (.reg [o 62 (.mov (.t 0)),o 63 (.nck (.t 62)),o 64 (.fad 1 (.t 63)),o 65 (.ld false 1 (.t 64)),o 66 (.mov (.t 12)),o 67 (.iad 3 (.t 65) (.t 66)),o 68 (.ld true 3 (.t 67)),o 13 (.new [(.str ⟨#[]⟩),(.int .i64 0),(.int .i64 0)]),on (.st 3 (.t 13) (.t 68))]) (.seq (.seq (.reg [o 69 (.mov (.t 11)),o 70 (.un .not (.t 69)),o 71 (.mov (.t 70)),og 72 71 true (.fad 0 (.t 13)),og 73 71 true (.ld false 1 (.t 72)),og 74 71 true (.mov (.t 1)),og 75 71 true (.bin .gtr (.t 73) (.t 74)),og 76 71 true (.mov (.t 75)),og 77 76 false (.fad 0 (.t 13)),og 78 76 false (.ld false 1 (.t 77)),og 79 76 false (.mov (.t 1)),og 80 76 false (.bin .eql (.t 78) (.t 79)),og 81 76 false (.mov (.t 80)),og 82 81 true (.fad 1 (.t 13)),og 83 81 true (.ld false 1 (.t 82)),og 84 81 true (.mov (.t 2)),og 85 81 true (.bin .gtr (.t 83) (.t 84)),og 86 76 false (.pick (.t 81) (.t 85) (.k (.bool false))),og 87 71 true (.pick (.t 76) (.k (.bool true)) (.t 86)),o 88 (.pick (.t 71) (.t 87) (.k (.bool false)))]) (.cnd (.t 88) (.seq (.reg [o 89 (.mov (.t 10)),o 90 (.mov (.t 1)),o 91 (.mov (.t 2)),o 92 (.mov (.t 3)),o 93 (.build [(.str ⟨#[]⟩),(.int .i64 0),(.int .i64 0)] [(0,1,(.t 90)),(1,1,(.t 91)),(2,1,(.t 92))]),o 94 (.lit 3 1 [(.str ⟨#[]⟩),(.int .i64 0),(.int .i64 0)] [(0,3,(.t 93))]),o 95 (.app 3 32 [(.str ⟨#[]⟩),(.int .i64 0),(.int .i64 0)] (.t 89) (.t 94)),o 10 (.mov (.t 95))]) (.reg [o 11 (.mov (.k (.bool true)))])) .skip)) (.reg [o 96 (.mov (.t 10)),o 97 (.ld true 3 (.t 13)),o 98 (.lit 3 1 [(.str ⟨#[]⟩),(.int .i64 0),(.int .i64 0)] [(0,3,(.t 97))]),o 99 (.app 3 32 [(.str ⟨#[]⟩),(.int .i64 0),(.int .i64 0)] (.t 96) (.t 98)),o 10 (.mov (.t 99))])))) (.reg [o 60 (.mov (.t 12)),o 61 (.bin .add (.t 60) (.k (.int .i64 1))),o 12 (.mov (.t 61))])))))) (.seq (.seq (.reg [o 100 (.mov (.t 11)),o 101 (.un .not (.t 100))]) (.cnd (.t 101) (.reg [o 102 (.mov (.t 10)),o 103 (.mov (.t 1)),o 104 (.mov (.t 2)),o 105 (.mov (.t 3)),o 106 (.build [(.str ⟨#[]⟩),(.int .i64 0),(.int .i64 0)] [(0,1,(.t 103)),(1,1,(.t 104)),(2,1,(.t 105))]),o 107 (.lit 3 1 [(.str ⟨#[]⟩),(.int .i64 0),(.int .i64 0)] [(0,3,(.t 106))]),o 108 (.app 3 32 [(.str ⟨#[]⟩),(.int .i64 0),(.int .i64 0)] (.t 102) (.t 107)),o 10 (.mov (.t 108))]) .skip)) (.reg [o 109 (.mov (.t 0)),o 110 (.mov (.t 10)),o 111 (.nck (.t 109)),o 112 (.fad 1 (.t 111)),on (.st 1 (.t 112) (.t 110))]))))))⟩
def SPtr (σ0 τ:St) (g:Nat) (s:State) (rest:List Thg):Prop:=∃ v0 v1 v2 v3,Hp σ0 τ (ow pI.kd v0 s.know::ow pTally.kd v1 s.tallies::ow pLive.kd v2 s.lives::ow pCell.kd v3 s.cells::pt 1 g [v0,v1,v2,v3]::rest)
end Go.Proofs.YtffnefmklckngaaGreat.Sy
namespace Go.Proofs.YtffnefmklckngaaGreat.Sy
open Go Go.RowKit
set_option linter.unusedSimpArgs false
set_option linter.unusedVariables false
set_option maxRecDepth 4000
abbrev n_s_l07Do:Nat:=145
def F_s_l07Do:Fn1:=⟨127,[],(.seq (.reg [o 3 (.box (.t 1))]) (.seq (.drw [o 4 (.mov (.t 0)),o 5 (.nck (.t 4)),o 6 (.fad 0 (.t 5)),o 7 (.ld false 1 (.t 6)),o 8 (.fad 0 (.t 3)),o 9 (.fad 0 (.t 8)),o 10 (.ld false 1 (.t 9)),o 11 (.fad 0 (.t 3)),o 12 (.fad 1 (.t 11)),o 13 (.ld false 1 (.t 12))] [o 14 (.iad 1 (.t 7) (.t 10)),on (.st 1 (.t 14) (.t 13))]) (.seq (.reg [o 15 (.fad 4 (.t 3)),o 16 (.ld false 1 (.t 15))]) (.blk 0 (.seq (.reg [o 18 (.bin .eql (.t 16) (.k (.int .i64 1))),o 17 (.mov (.t 18))]) (.cnd (.t 17) (.reg [o 19 (.mov (.t 0)),o 20 (.fad 5 (.t 3)),o 21 (.ld false 1 (.t 20)),o 22 (.fad 0 (.t 3)),o 23 (.fad 0 (.t 22)),o 24 (.ld false 1 (.t 23)),o 25 (.fad 7 (.t 3)),o 26 (.ld false 1 (.t 25)),o 27 (.call 194 [(.t 19),(.t 21),(.t 24),(.t 26)])]) (.seq (.reg [o 29 (.bin .eql (.t 16) (.k (.int .i64 2))),o 28 (.mov (.t 29))]) (.cnd (.t 28) (.drw [o 30 (.mov (.t 0)),o 31 (.mov (.t 0)),o 32 (.nck (.t 31)),o 33 (.fad 2 (.t 32)),o 34 (.ld false 1 (.t 33)),o 35 (.fad 5 (.t 3)),o 36 (.ld false 1 (.t 35)),o 37 (.fad 6 (.t 3)),o 38 (.ld false 1 (.t 37)),o 39 (.fad 0 (.t 3)),o 40 (.ld true 2 (.t 39))] [o 41 (.build [(.bool false),(.str ⟨#[]⟩),(.str ⟨#[]⟩),(.int .i64 0),(.int .i64 0),(.int .i64 0)] [(1,1,(.t 36)),(2,1,(.t 38)),(4,2,(.t 40))]),o 42 (.call 195 [(.t 34),(.t 41)]),o 43 (.nck (.t 30)),o 44 (.fad 2 (.t 43)),on (.st 1 (.t 44) (.t 42))]) (.seq (.reg [o 46 (.bin .eql (.t 16) (.k (.int .i64 3))),o 45 (.mov (.t 46))]) (.cnd (.t 45) (.reg [o 47 (.mov (.t 0)),o 48 (.fad 5 (.t 3)),o 49 (.ld false 1 (.t 48)),o 50 (.fad 6 (.t 3)),o 51 (.ld false 1 (.t 50)),o 52 (.fad 3 (.t 3)),o 53 (.ld false 1 (.t 52)),o 54 (.call 196 [(.t 47),(.k (.bool false)),(.t 49),(.t 51),(.t 53)])]) (.seq (.reg [o 56 (.bin .eql (.t 16) (.k (.int .i64 4))),o 55 (.mov (.t 56))]) (.cnd (.t 55) (.seq (.reg [o 57 (.mov (.t 0)),o 58 (.fad 5 (.t 3)),o 59 (.ld false 1 (.t 58)),o 60 (.fad 6 (.t 3)),o 61 (.ld false 1 (.t 60)),o 62 (.fad 3 (.t 3)),o 63 (.ld false 1 (.t 62)),o 64 (.call 196 [(.t 57),(.k (.bool true)),(.t 59),(.t 61),(.t 63)])]) (.drw [o 65 (.mov (.t 0)),o 66 (.mov (.t 0)),o 67 (.nck (.t 66)),o 68 (.fad 2 (.t 67)),o 69 (.ld false 1 (.t 68)),o 70 (.fad 5 (.t 3)),o 71 (.ld false 1 (.t 70)),o 72 (.fad 6 (.t 3)),o 73 (.ld false 1 (.t 72)),o 74 (.fad 7 (.t 3)),o 75 (.ld false 1 (.t 74)),o 76 (.fad 0 (.t 3)),o 77 (.ld true 2 (.t 76))] [o 78 (.build [(.bool false),(.str ⟨#[]⟩),(.str ⟨#[]⟩),(.int .i64 0),(.int .i64 0),(.int .i64 0)] [(0,1,(.k (.bool true))),(1,1,(.t 71)),(2,1,(.t 73)),(3,1,(.t 75)),(4,2,(.t 77))]),o 79 (.call 195 [(.t 69),(.t 78)]),o 80 (.nck (.t 65)),o 81 (.fad 2 (.t 80)),on (.st 1 (.t 81) (.t 79))])) (.seq (.reg [o 83 (.bin .eql (.t 16) (.k (.int .i64 5))),o 82 (.mov (.t 83))]) (.cnd (.t 82) (.reg [o 84 (.mov (.t 0)),o 85 (.fad 5 (.t 3)),o 86 (.ld false 1 (.t 85)),o 87 (.fad 6 (.t 3)),o 88 (.ld false 1 (.t 87)),o 89 (.fad 3 (.t 3)),o 90 (.ld false 1 (.t 89)),o 91 (.call 196 [(.t 84),(.k (.bool true)),(.t 86),(.t 88),(.t 90)])]) (.seq (.reg [o 93 (.bin .eql (.t 16) (.k (.int .i64 6))),o 92 (.mov (.t 93))]) (.cnd (.t 92) (.drw [o 94 (.mov (.t 0)),o 95 (.mov (.t 0)),o 96 (.nck (.t 95)),o 97 (.fad 3 (.t 96)),o 98 (.ld false 1 (.t 97)),o 99 (.fad 5 (.t 3)),o 100 (.ld false 1 (.t 99)),o 101 (.fad 0 (.t 3)),o 102 (.ld true 2 (.t 101)),o 103 (.fad 2 (.t 3)),o 104 (.ld false 1 (.t 103)),o 105 (.fad 8 (.t 3)),o 106 (.ld true 2 (.t 105)),o 107 (.fad 7 (.t 3)),o 108 (.ld false 1 (.t 107))] [o 109 (.build [(.str ⟨#[]⟩),(.int .i64 0),(.int .i64 0),(.int .i64 0),(.int .i64 0),(.int .i64 0),(.int .i64 0),(.bool false)] [(0,1,(.t 100)),(1,2,(.t 102)),(3,1,(.t 104)),(4,2,(.t 106)),(6,1,(.t 108))]),o 110 (.call 197 [(.t 98),(.t 109)]),o 111 (.nck (.t 94)),o 112 (.fad 3 (.t 111)),on (.st 1 (.t 112) (.t 110))]) (.seq (.reg [o 114 (.bin .eql (.t 16) (.k (.int .i64 7))),o 113 (.mov (.t 114))]) (.cnd (.t 113) (.drw [o 115 (.mov (.t 0)),o 116 (.nck (.t 115)),o 117 (.fad 3 (.t 116)),o 118 (.ld false 1 (.t 117)),o 119 (.mov (.t 0)),o 120 (.nck (.t 119)),o 121 (.ld true 4 (.t 120)),o 122 (.fad 8 (.t 3)),o 123 (.ld true 2 (.t 122)),o 124 (.call 187 [(.t 121),(.t 123)])] [o 125 (.iad 8 (.t 118) (.t 124)),o 126 (.fad 7 (.t 125)),on (.st 1 (.t 126) (.k (.bool true)))]) .skip))))))))))))))))))⟩
abbrev n_s_DoAct:Nat:=91
def F_s_DoAct:Fn1:=⟨57,[.c 4 true 4,.t 5],(.seq (.reg [o 2 (.box (.t 0)),o 3 (.box (.t 1)),o 4 (.new [.nilS,.nilS,.nilS,.nilS]),o 5 (.mov (.k (.int .i64 0)))]) (.seq (.reg [o 7 (.ld true 4 (.t 2)),o 8 (.call 89 [(.t 7)]),o 6 (.new [.nilS,.nilS,.nilS,.nilS]),on (.st 4 (.t 6) (.t 8))]) (.seq (.seq (.reg [o 9 (.ld true 4 (.t 2)),o 10 (.call 125 [(.t 9)]),o 11 (.un .not (.t 10)),o 12 (.mov (.t 11)),og 13 12 false (.ld true 10 (.t 3)),og 14 12 false (.call 105 [(.t 13)]),og 15 12 false (.un .not (.t 14)),o 16 (.pick (.t 12) (.k (.bool true)) (.t 15))]) (.cnd (.t 16) (.seq (.reg [o 17 (.ld true 4 (.t 6)),on (.st 4 (.t 4) (.t 17)),o 5 (.mov (.k (.int .i64 3)))]) .ret) .skip)) (.seq (.seq (.reg [o 18 (.fad 0 (.t 2)),o 19 (.ld false 1 (.t 18)),o 20 (.fad 0 (.t 3)),o 21 (.ld true 2 (.t 20)),o 22 (.call 142 [(.t 19),(.t 21)])]) (.cnd (.t 22) (.seq (.reg [o 23 (.ld true 4 (.t 6)),on (.st 4 (.t 4) (.t 23)),o 5 (.mov (.k (.int .i64 1)))]) .ret) .skip)) (.seq (.seq (.reg [o 24 (.fad 3 (.t 3)),o 25 (.ld false 1 (.t 24)),o 26 (.fad 0 (.t 2)),o 27 (.ld false 1 (.t 26)),o 28 (.call 143 [(.t 25),(.t 27)]),o 29 (.un .not (.t 28))]) (.cnd (.t 29) (.seq (.reg [o 30 (.ld true 4 (.t 6)),on (.st 4 (.t 4) (.t 30)),o 5 (.mov (.k (.int .i64 2)))]) .ret) .skip)) (.seq (.seq (.reg [o 31 (.ld true 4 (.t 2)),o 32 (.ld true 10 (.t 3)),o 33 (.call 144 [(.t 31),(.t 32)]),o 34 (.un .not (.t 33))]) (.cnd (.t 34) (.seq (.reg [o 35 (.ld true 4 (.t 6)),on (.st 4 (.t 4) (.t 35)),o 5 (.mov (.k (.int .i64 3)))]) .ret) .skip)) (.seq (.reg [o 36 (.ld true 10 (.t 3)),o 37 (.call 145 [(.t 6),(.t 36)])]) (.seq (.seq (.reg [o 38 (.fad 1 (.t 6)),o 39 (.ld false 1 (.t 38)),o 40 (.len false (.t 39)),o 41 (.bin .gtr (.t 40) (.k (.int .i64 120))),o 42 (.mov (.t 41)),og 43 42 false (.fad 2 (.t 6)),og 44 42 false (.ld false 1 (.t 43)),og 45 42 false (.len false (.t 44)),og 46 42 false (.bin .gtr (.t 45) (.k (.int .i64 120))),o 47 (.pick (.t 42) (.k (.bool true)) (.t 46)),o 48 (.mov (.t 47)),og 49 48 false (.fad 3 (.t 6)),og 50 48 false (.ld false 1 (.t 49)),og 51 48 false (.len false (.t 50)),og 52 48 false (.bin .gtr (.t 51) (.k (.int .i64 120))),o 53 (.pick (.t 48) (.k (.bool true)) (.t 52))]) (.cnd (.t 53) (.seq (.reg [o 54 (.ld true 4 (.t 2)),o 55 (.call 89 [(.t 54)]),on (.st 4 (.t 4) (.t 55)),o 5 (.mov (.k (.int .i64 4)))]) .ret) .skip)) (.seq (.reg [o 56 (.ld true 4 (.t 6)),on (.st 4 (.t 4) (.t 56)),o 5 (.mov (.k (.int .i64 0)))]) .ret)))))))))⟩
theorem SPtr.drop {σ0 τ:St} {g:Nat} {s:State} {x:Thg} {rest:List Thg} (H:SPtr σ0 τ g s (x::rest)):SPtr σ0 τ g s rest:=by
 obtain⟨v0,v1,v2,v3,H⟩:=H
 exact⟨v0,v1,v2,v3,(H.pick 5 rfl).drop1⟩
theorem SPtr.push {σ0 τ:St} {g:Nat} {s:State} {rest:List Thg} (H:SPtr σ0 τ g s rest) (z:Nat) (cs:List GV):SPtr σ0 (τ++[some (.row z cs)]) g s (pt z τ.length cs::rest):=by
 obtain⟨v0,v1,v2,v3,H⟩:=H
 refine⟨v0,v1,v2,v3,?_⟩
 exact(H.new z cs).perm (List.perm_middle (l₁:=[_,_,_,_,_])).symm
abbrev actV (a:Act) (kv:GV):List GV:=[.int .i64 a.dot.rep,.int .i64 a.dot.seq,.int .i64 a.time,kv,.int .i64 a.kind,.str a.obj,.str a.key,.int .i64 a.val,.int .i64 a.ref.rep,.int .i64 a.ref.seq]
theorem SPtr.own {σ τ:St} {rs:List Thg} {x:State} {g:Nat} (H:SPtr σ τ g x rs):∃ v0 v1 v2 v3,rdB τ g=some [v0,v1,v2,v3]∧lenG false v1=some (x.tallies.length:Int)∧lenG false v2=some (x.lives.length:Int)∧lenG false v3=some (x.cells.length:Int)∧Hp σ τ (own kState [v0,v1,v2,v3] x::rs):=by
 obtain⟨v0,v1,v2,v3,H⟩:=H
 refine⟨v0,v1,v2,v3,H.pt 4 rfl,(H.sl 1 rfl).len,(H.sl 2 rfl).len,(H.sl 3 rfl).len,?_⟩
 exact Hp.ownState ((H.pick 4 rfl).drop1)
end Go.Proofs.YtffnefmklckngaaGreat.Sy
namespace Go.Proofs.YtffnefmklckngaaGreat.Sy
open Go Go.RowKit
set_option linter.unusedSimpArgs false
set_option linter.unusedVariables false
set_option maxRecDepth 4000
abbrev n_i_DoAct:Nat:=95
def F_i_DoAct:Fn1:=⟨176,[.c 4 true 4,.t 5],(.seq (.reg [o 2 (.box (.t 0)),o 3 (.box (.t 1)),o 4 (.new [.nilS,.nilS,.nilS,.nilS]),o 5 (.mov (.k (.int .i64 0)))]) (.seq (.reg [o 10 (.ld true 4 (.t 2)),o 11 (.call 93 [(.t 10)]),o 6 (.new [.nilS,.nilS,.nilS,.nilS]),on (.st 4 (.t 6) (.t 11))]) (.seq (.blk 0 (.seq (.reg [o 13 (.ld true 4 (.t 2)),o 14 (.call 146 [(.t 13)]),o 15 (.un .not (.t 14)),o 16 (.mov (.t 15)),og 17 16 false (.ld true 10 (.t 3)),og 18 16 false (.call 111 [(.t 17)]),og 19 16 false (.un .not (.t 18)),o 20 (.pick (.t 16) (.k (.bool true)) (.t 19)),o 12 (.mov (.t 20))]) (.cnd (.t 12) (.seq (.reg [o 21 (.ld true 4 (.t 6)),on (.st 4 (.t 4) (.t 21)),o 5 (.mov (.k (.int .i64 3)))]) .ret) (.seq (.reg [o 23 (.fad 0 (.t 2)),o 24 (.ld false 1 (.t 23)),o 25 (.fad 0 (.t 3)),o 26 (.ld true 2 (.t 25)),o 27 (.call 150 [(.t 24),(.t 26)]),o 22 (.mov (.t 27))]) (.cnd (.t 22) (.seq (.reg [o 28 (.ld true 4 (.t 6)),on (.st 4 (.t 4) (.t 28)),o 5 (.mov (.k (.int .i64 1)))]) .ret) (.seq (.reg [o 30 (.fad 3 (.t 3)),o 31 (.ld false 1 (.t 30)),o 32 (.fad 0 (.t 2)),o 33 (.ld false 1 (.t 32)),o 34 (.call 151 [(.t 31),(.t 33)]),o 35 (.un .not (.t 34)),o 29 (.mov (.t 35))]) (.cnd (.t 29) (.seq (.reg [o 36 (.ld true 4 (.t 6)),on (.st 4 (.t 4) (.t 36)),o 5 (.mov (.k (.int .i64 2)))]) .ret) .skip))))))) (.seq (.reg [o 37 (.ld true 4 (.t 2)),o 38 (.fad 8 (.t 3)),o 39 (.ld true 2 (.t 38)),o 40 (.call 152 [(.t 37),(.t 39)]),o 7 (.mov (.t 40))]) (.seq (.seq (.drw [o 41 (.fad 8 (.t 3)),o 42 (.ld true 2 (.t 41)),o 43 (.build [(.int .i64 0),(.int .i64 0)] []),o 44 (.eqs true [.i .i64,.i .i64] (.t 42) (.t 43)),o 45 (.mov (.t 44)),og 46 45 true (.mov (.t 7)),og 47 45 true (.bin .lss (.t 46) (.k (.int .i64 0))),og 48 45 true (.mov (.t 47)),og 49 48 false (.fad 3 (.t 2)),og 50 48 false (.ld false 1 (.t 49)),og 51 48 false (.mov (.t 7)),og 52 48 false (.iad 8 (.t 50) (.t 51)),og 53 48 false (.fad 0 (.t 52)),og 54 48 false (.ld false 1 (.t 53)),og 55 48 false (.fad 5 (.t 3)),og 56 48 false (.ld false 1 (.t 55)),og 57 48 false (.bin .neq (.t 54) (.t 56)),og 58 45 true (.pick (.t 48) (.k (.bool true)) (.t 57)),og 59 45 true (.mov (.t 58)),og 60 59 false (.fad 4 (.t 3)),og 61 59 false (.ld false 1 (.t 60)),og 62 59 false (.bin .eql (.t 61) (.k (.int .i64 6))),og 63 59 false (.mov (.t 62)),og 64 63 true (.fad 2 (.t 3)),og 65 63 true (.ld false 1 (.t 64)),og 66 63 true (.fad 3 (.t 2)),og 67 63 true (.ld false 1 (.t 66)),og 68 63 true (.mov (.t 7)),og 69 63 true (.iad 8 (.t 67) (.t 68)),og 70 63 true (.fad 3 (.t 69)),og 71 63 true (.ld false 1 (.t 70))] [og 72 63 true (.bin .leq (.t 65) (.t 71)),og 73 59 false (.pick (.t 63) (.t 72) (.k (.bool false))),og 74 45 true (.pick (.t 59) (.k (.bool true)) (.t 73)),o 75 (.pick (.t 45) (.t 74) (.k (.bool false)))]) (.cnd (.t 75) (.seq (.reg [o 76 (.ld true 4 (.t 6)),on (.st 4 (.t 4) (.t 76)),o 5 (.mov (.k (.int .i64 3)))]) .ret) .skip)) (.seq (.reg [o 77 (.ld true 4 (.t 2)),o 78 (.call 93 [(.t 77)]),o 8 (.new [.nilS,.nilS,.nilS,.nilS]),on (.st 4 (.t 8) (.t 78))]) (.seq (.reg [o 79 (.fad 0 (.t 8)),o 80 (.ld false 1 (.t 79)),o 81 (.fad 0 (.t 3)),o 82 (.fad 0 (.t 81)),o 83 (.ld false 1 (.t 82)),o 84 (.fad 0 (.t 3)),o 85 (.fad 1 (.t 84)),o 86 (.ld false 1 (.t 85)),o 87 (.iad 1 (.t 80) (.t 83)),on (.st 1 (.t 87) (.t 86))]) (.seq (.seq (.reg [o 88 (.fad 4 (.t 3)),o 89 (.ld false 1 (.t 88))]) (.blk 1 (.seq (.reg [o 91 (.bin .eql (.t 89) (.k (.int .i64 1))),o 90 (.mov (.t 91))]) (.cnd (.t 90) (.reg [o 92 (.fad 1 (.t 2)),o 93 (.ld false 1 (.t 92)),o 94 (.fad 5 (.t 3)),o 95 (.ld false 1 (.t 94)),o 96 (.fad 0 (.t 3)),o 97 (.fad 0 (.t 96)),o 98 (.ld false 1 (.t 97)),o 99 (.fad 7 (.t 3)),o 100 (.ld false 1 (.t 99)),o 101 (.call 153 [(.t 93),(.t 95),(.t 98),(.t 100)]),o 102 (.fad 1 (.t 8)),on (.st 1 (.t 102) (.t 101))]) (.seq (.reg [o 104 (.bin .eql (.t 89) (.k (.int .i64 2))),o 103 (.mov (.t 104))]) (.cnd (.t 103) (.reg [o 105 (.fad 2 (.t 2)),o 106 (.ld false 1 (.t 105)),o 107 (.fad 5 (.t 3)),o 108 (.ld false 1 (.t 107)),o 109 (.fad 6 (.t 3)),o 110 (.ld false 1 (.t 109)),o 111 (.fad 0 (.t 3)),o 112 (.ld true 2 (.t 111)),o 113 (.build [(.bool false),(.str ⟨#[]⟩),(.str ⟨#[]⟩),(.int .i64 0),(.int .i64 0),(.int .i64 0)] [(1,1,(.t 108)),(2,1,(.t 110)),(4,2,(.t 112))]),o 114 (.call 154 [(.t 106),(.t 113)]),o 115 (.fad 2 (.t 8)),on (.st 1 (.t 115) (.t 114))]) (.seq (.reg [o 117 (.bin .eql (.t 89) (.k (.int .i64 3))),o 116 (.mov (.t 117))]) (.cnd (.t 116) (.reg [o 118 (.fad 2 (.t 2)),o 119 (.ld false 1 (.t 118)),o 120 (.ld true 10 (.t 3)),o 121 (.call 155 [(.t 119),(.k (.bool false)),(.t 120)]),o 122 (.fad 2 (.t 8)),on (.st 1 (.t 122) (.t 121))]) (.seq (.reg [o 124 (.bin .eql (.t 89) (.k (.int .i64 4))),o 123 (.mov (.t 124))]) (.cnd (.t 123) (.seq (.reg [o 125 (.fad 2 (.t 2)),o 126 (.ld false 1 (.t 125)),o 127 (.ld true 10 (.t 3)),o 128 (.call 155 [(.t 126),(.k (.bool true)),(.t 127)]),o 9 (.mov (.t 128))]) (.reg [o 129 (.mov (.t 9)),o 130 (.fad 5 (.t 3)),o 131 (.ld false 1 (.t 130)),o 132 (.fad 6 (.t 3)),o 133 (.ld false 1 (.t 132)),o 134 (.fad 7 (.t 3)),o 135 (.ld false 1 (.t 134)),o 136 (.fad 0 (.t 3)),o 137 (.ld true 2 (.t 136)),o 138 (.build [(.bool false),(.str ⟨#[]⟩),(.str ⟨#[]⟩),(.int .i64 0),(.int .i64 0),(.int .i64 0)] [(0,1,(.k (.bool true))),(1,1,(.t 131)),(2,1,(.t 133)),(3,1,(.t 135)),(4,2,(.t 137))]),o 139 (.call 154 [(.t 129),(.t 138)]),o 140 (.fad 2 (.t 8)),on (.st 1 (.t 140) (.t 139))])) (.seq (.reg [o 142 (.bin .eql (.t 89) (.k (.int .i64 5))),o 141 (.mov (.t 142))]) (.cnd (.t 141) (.reg [o 143 (.fad 2 (.t 2)),o 144 (.ld false 1 (.t 143)),o 145 (.ld true 10 (.t 3)),o 146 (.call 155 [(.t 144),(.k (.bool true)),(.t 145)]),o 147 (.fad 2 (.t 8)),on (.st 1 (.t 147) (.t 146))]) (.seq (.reg [o 149 (.bin .eql (.t 89) (.k (.int .i64 6))),o 148 (.mov (.t 149))]) (.cnd (.t 148) (.reg [o 150 (.fad 3 (.t 2)),o 151 (.ld false 1 (.t 150)),o 152 (.fad 5 (.t 3)),o 153 (.ld false 1 (.t 152)),o 154 (.fad 0 (.t 3)),o 155 (.ld true 2 (.t 154)),o 156 (.fad 2 (.t 3)),o 157 (.ld false 1 (.t 156)),o 158 (.fad 8 (.t 3)),o 159 (.ld true 2 (.t 158)),o 160 (.fad 7 (.t 3)),o 161 (.ld false 1 (.t 160)),o 162 (.build [(.str ⟨#[]⟩),(.int .i64 0),(.int .i64 0),(.int .i64 0),(.int .i64 0),(.int .i64 0),(.int .i64 0),(.bool false)] [(0,1,(.t 153)),(1,2,(.t 155)),(3,1,(.t 157)),(4,2,(.t 159)),(6,1,(.t 161))]),o 163 (.call 156 [(.t 151),(.t 162)]),o 164 (.fad 3 (.t 8)),on (.st 1 (.t 164) (.t 163))]) (.seq (.reg [o 166 (.bin .eql (.t 89) (.k (.int .i64 7))),o 165 (.mov (.t 166))]) (.cnd (.t 165) (.reg [o 167 (.fad 3 (.t 8)),o 168 (.ld false 1 (.t 167)),o 169 (.mov (.t 7)),o 170 (.iad 8 (.t 168) (.t 169)),o 171 (.fad 7 (.t 170)),on (.st 1 (.t 171) (.k (.bool true)))]) .skip)))))))))))))))) (.seq (.seq (.reg [o 172 (.ld true 4 (.t 8)),o 173 (.call 157 [(.t 172)])]) (.cnd (.t 173) (.seq (.reg [o 174 (.ld true 4 (.t 6)),on (.st 4 (.t 4) (.t 174)),o 5 (.mov (.k (.int .i64 4)))]) .ret) .skip)) (.seq (.reg [o 175 (.ld true 4 (.t 8)),on (.st 4 (.t 4) (.t 175)),o 5 (.mov (.k (.int .i64 0)))]) .ret))))))))))⟩
def zSt (σ:St) (cs:List GV):Prop:=∃ a b c v,cs=[a,b,c,v]∧zOk σ 3 b=true∧zOk σ 6 c=true∧zOk σ 8 v=true
end Go.Proofs.YtffnefmklckngaaGreat.Sy
namespace Go.Proofs.YtffnefmklckngaaGreat.Sy
open Go Go.RowKit
set_option linter.unusedSimpArgs false
set_option linter.unusedVariables false
set_option maxRecDepth 4000
abbrev n_i_rowCells:Nat:=134
def F_i_rowCells:Fn1:=⟨34,[.t 4],(.seq (.reg [o 2 (.box (.t 0)),o 4 (.mov (.k .nilS))]) (.seq (.reg [o 9 (.lit 8 0 [] []),o 5 (.mov (.t 9))]) (.seq (.seq (.reg [o 10 (.ld true 4 (.t 2)),o 11 (.mov (.t 1)),o 12 (.call 193 [(.t 10),(.t 11)]),o 13 (.len false (.t 12)),o 14 (.mov (.k (.int .i64 0)))]) (.blk 0 (.lop (.seq (.reg [o 15 (.bin .lss (.t 14) (.t 13))]) (.seq (.cnd (.t 15) .skip (.ext 0)) (.seq (.blk 1 (.seq (.reg [o 16 (.iad 2 (.t 12) (.t 14)),o 17 (.ld true 2 (.t 16)),o 7 (.new [(.int .i64 0),(.int .i64 0)]),on (.st 2 (.t 7) (.t 17))]) (.seq (.drw [o 18 (.fad 3 (.t 2)),o 19 (.ld false 1 (.t 18)),o 20 (.ld true 4 (.t 2)),o 21 (.ld true 2 (.t 7)),o 22 (.call 152 [(.t 20),(.t 21)]),o 23 (.iad 8 (.t 19) (.t 22)),o 24 (.ld true 8 (.t 23)),o 8 (.new [(.str ⟨#[]⟩),(.int .i64 0),(.int .i64 0),(.int .i64 0),(.int .i64 0),(.int .i64 0),(.int .i64 0),(.bool false)])] [on (.st 8 (.t 8) (.t 24))]) (.seq (.reg [o 25 (.fad 7 (.t 8)),o 26 (.ld false 1 (.t 25)),o 27 (.un .not (.t 26))]) (.cnd (.t 27) (.reg [o 28 (.mov (.t 5)),o 29 (.ld true 8 (.t 8)),o 30 (.lit 8 1 [(.str ⟨#[]⟩),(.int .i64 0),(.int .i64 0),(.int .i64 0),(.int .i64 0),(.int .i64 0),(.int .i64 0),(.bool false)] [(0,8,(.t 29))]),o 31 (.app 8 72 [(.str ⟨#[]⟩),(.int .i64 0),(.int .i64 0),(.int .i64 0),(.int .i64 0),(.int .i64 0),(.int .i64 0),(.bool false)] (.t 28) (.t 30)),o 5 (.mov (.t 31))]) .skip))))) (.reg [o 32 (.bin .add (.t 14) (.k (.int .i64 1))),o 14 (.mov (.t 32))]))))))) (.seq (.reg [o 33 (.mov (.t 5)),o 4 (.mov (.t 33))]) .ret))))⟩
def goneNot (c:Cell):Bool:= !c.gone
end Go.Proofs.YtffnefmklckngaaGreat.Sy
namespace Go.Proofs.YtffnefmklckngaaGreat.Sy
open Go Go.RowKit
set_option linter.unusedSimpArgs false
set_option linter.unusedVariables false
set_option maxRecDepth 4000
abbrev n_s_EditOk:Nat:=138
def F_s_EditOk:Fn1:=⟨34,[.t 2],(.seq (.reg [o 1 (.box (.t 0)),o 2 (.mov (.k (.bool false)))]) (.seq (.reg [o 4 (.fad 0 (.t 1)),o 5 (.ld false 1 (.t 4)),o 6 (.bin .eql (.t 5) (.k (.int .i64 6))),o 7 (.mov (.t 6)),og 8 7 false (.fad 0 (.t 1)),og 9 7 false (.ld false 1 (.t 8)),og 10 7 false (.bin .eql (.t 9) (.k (.int .i64 7))),o 11 (.pick (.t 7) (.k (.bool true)) (.t 10)),o 3 (.mov (.t 11))]) (.seq (.reg [o 12 (.fad 0 (.t 1)),o 13 (.ld false 1 (.t 12)),o 14 (.fad 1 (.t 1)),o 15 (.ld false 1 (.t 14)),o 16 (.fad 2 (.t 1)),o 17 (.ld false 1 (.t 16)),o 18 (.fad 3 (.t 1)),o 19 (.ld false 1 (.t 18)),o 20 (.call 168 [(.t 13),(.t 15),(.t 17),(.t 19)]),o 21 (.mov (.t 20)),og 22 21 true (.fad 4 (.t 1)),og 23 21 true (.ld false 1 (.t 22)),og 24 21 true (.bin .geq (.t 23) (.k (.int .i64 0))),o 25 (.pick (.t 21) (.t 24) (.k (.bool false))),o 26 (.mov (.t 25)),og 27 26 true (.mov (.t 3)),og 28 26 true (.mov (.t 27)),og 29 28 false (.fad 4 (.t 1)),og 30 28 false (.ld false 1 (.t 29)),og 31 28 false (.bin .eql (.t 30) (.k (.int .i64 0))),og 32 26 true (.pick (.t 28) (.k (.bool true)) (.t 31)),o 33 (.pick (.t 26) (.t 32) (.k (.bool false))),o 2 (.mov (.t 33))]) .ret)))⟩
abbrev n_i_EditOk:Nat:=147
def F_i_EditOk:Fn1:=⟨32,[.t 2],(.seq (.reg [o 1 (.box (.t 0)),o 2 (.mov (.k (.bool false)))]) (.seq (.reg [o 3 (.fad 0 (.t 1)),o 4 (.ld false 1 (.t 3)),o 5 (.fad 1 (.t 1)),o 6 (.ld false 1 (.t 5)),o 7 (.fad 2 (.t 1)),o 8 (.ld false 1 (.t 7)),o 9 (.fad 3 (.t 1)),o 10 (.ld false 1 (.t 9)),o 11 (.call 177 [(.t 4),(.t 6),(.t 8),(.t 10)]),o 12 (.mov (.t 11)),og 13 12 true (.fad 4 (.t 1)),og 14 12 true (.ld false 1 (.t 13)),og 15 12 true (.bin .eql (.t 14) (.k (.int .i64 0))),og 16 12 true (.mov (.t 15)),og 17 16 false (.fad 4 (.t 1)),og 18 16 false (.ld false 1 (.t 17)),og 19 16 false (.bin .gtr (.t 18) (.k (.int .i64 0))),og 20 16 false (.mov (.t 19)),og 21 20 true (.fad 0 (.t 1)),og 22 20 true (.ld false 1 (.t 21)),og 23 20 true (.bin .eql (.t 22) (.k (.int .i64 6))),og 24 20 true (.mov (.t 23)),og 25 24 false (.fad 0 (.t 1)),og 26 24 false (.ld false 1 (.t 25)),og 27 24 false (.bin .eql (.t 26) (.k (.int .i64 7))),og 28 20 true (.pick (.t 24) (.k (.bool true)) (.t 27)),og 29 16 false (.pick (.t 20) (.t 28) (.k (.bool false))),og 30 12 true (.pick (.t 16) (.k (.bool true)) (.t 29)),o 31 (.pick (.t 12) (.t 30) (.k (.bool false))),o 2 (.mov (.t 31))]) .ret))⟩
abbrev n_s_PlaceIn:Nat:=140
def F_s_PlaceIn:Fn1:=⟨42,[.c 6 true 2,.t 7],(.seq (.reg [o 3 (.box (.t 0)),o 6 (.new [(.int .i64 0),(.int .i64 0)]),o 7 (.mov (.k (.bool false)))]) (.seq (.seq (.reg [o 10 (.ld true 4 (.t 3)),o 11 (.call 125 [(.t 10)]),o 12 (.un .not (.t 11)),o 13 (.mov (.t 12)),og 14 13 false (.mov (.t 2)),og 15 13 false (.bin .lss (.t 14) (.k (.int .i64 0))),o 16 (.pick (.t 13) (.k (.bool true)) (.t 15))]) (.cnd (.t 16) (.seq (.reg [o 17 (.build [(.int .i64 0),(.int .i64 0)] []),on (.st 2 (.t 6) (.t 17)),o 7 (.mov (.k (.bool false)))]) .ret) .skip)) (.seq (.reg [o 18 (.ld true 4 (.t 3)),o 19 (.mov (.t 1)),o 20 (.call 126 [(.t 18),(.t 19)]),o 8 (.mov (.t 20))]) (.seq (.seq (.reg [o 9 (.mov (.k (.int .i64 0)))]) (.blk 0 (.lop (.seq (.seq (.reg [o 21 (.mov (.t 9)),o 22 (.mov (.t 8)),o 23 (.len false (.t 22)),o 24 (.bin .lss (.t 21) (.t 23))]) (.cnd (.t 24) .skip (.ext 0))) (.seq (.blk 1 (.seq (.seq (.reg [o 27 (.mov (.t 8)),o 28 (.mov (.t 9)),o 29 (.iad 8 (.t 27) (.t 28)),o 30 (.fad 7 (.t 29)),o 31 (.ld false 1 (.t 30))]) (.cnd (.t 31) (.ext 1) .skip)) (.seq (.seq (.reg [o 32 (.mov (.t 2)),o 33 (.bin .eql (.t 32) (.k (.int .i64 0)))]) (.cnd (.t 33) (.seq (.reg [o 34 (.mov (.t 8)),o 35 (.mov (.t 9)),o 36 (.iad 8 (.t 34) (.t 35)),o 37 (.fad 1 (.t 36)),o 38 (.ld true 2 (.t 37)),on (.st 2 (.t 6) (.t 38)),o 7 (.mov (.k (.bool true)))]) .ret) .skip)) (.reg [o 39 (.mov (.t 2)),o 40 (.bin .sub (.t 39) (.k (.int .i64 1))),o 2 (.mov (.t 40))])))) (.reg [o 25 (.mov (.t 9)),o 26 (.bin .add (.t 25) (.k (.int .i64 1))),o 9 (.mov (.t 26))])))))) (.seq (.reg [o 41 (.build [(.int .i64 0),(.int .i64 0)] []),on (.st 2 (.t 6) (.t 41)),o 7 (.mov (.k (.bool false)))]) .ret)))))⟩
abbrev n_i_PlaceIn:Nat:=149
def F_i_PlaceIn:Fn1:=⟨24,[.c 6 true 2,.t 7],(.seq (.reg [o 3 (.box (.t 0)),o 6 (.new [(.int .i64 0),(.int .i64 0)]),o 7 (.mov (.k (.bool false)))]) (.seq (.reg [o 9 (.ld true 4 (.t 3)),o 10 (.mov (.t 1)),o 11 (.call 134 [(.t 9),(.t 10)]),o 8 (.mov (.t 11))]) (.seq (.seq (.reg [o 12 (.mov (.t 2)),o 13 (.mov (.t 8)),o 14 (.len false (.t 13)),o 15 (.bin .sub (.t 14) (.k (.int .i64 1))),o 16 (.call 148 [(.t 12),(.k (.int .i64 0)),(.t 15)]),o 17 (.un .not (.t 16))]) (.cnd (.t 17) (.seq (.reg [o 18 (.build [(.int .i64 0),(.int .i64 0)] []),on (.st 2 (.t 6) (.t 18)),o 7 (.mov (.k (.bool false)))]) .ret) .skip)) (.seq (.reg [o 19 (.mov (.t 8)),o 20 (.mov (.t 2)),o 21 (.iad 8 (.t 19) (.t 20)),o 22 (.fad 1 (.t 21)),o 23 (.ld true 2 (.t 22)),on (.st 2 (.t 6) (.t 23)),o 7 (.mov (.k (.bool true)))]) .ret))))⟩
def editOk (e:Edit):Bool:=plainOk e.kind e.obj e.key e.val&&(decide (0≤e.place)&&((e.kind==6||e.kind==7)||e.place==0))
def placeIn (s:State) (o:ByteArray) (i:Int):Dot×Bool:=if h:0≤i∧i.toNat<(rowL s o).length then((rowL s o)[i.toNat].dot,true) else(⟨0,0⟩,false)
end Go.Proofs.YtffnefmklckngaaGreat.Sy
namespace Go.Proofs.YtffnefmklckngaaGreat.Sy
open Go Go.RowKit
set_option linter.unusedSimpArgs false
set_option linter.unusedVariables false
set_option maxRecDepth 4000
abbrev n_s_ActOf:Nat:=90
def F_s_ActOf:Fn1:=⟨98,[.c 8 true 10,.t 9],(.seq (.reg [o 4 (.box (.t 0)),o 7 (.box (.t 3)),o 8 (.new [(.int .i64 0),(.int .i64 0),(.int .i64 0),.nilS,(.int .i64 0),(.str ⟨#[]⟩),(.str ⟨#[]⟩),(.int .i64 0),(.int .i64 0),(.int .i64 0)]),o 9 (.mov (.k (.int .i64 0)))]) (.seq (.seq (.reg [o 12 (.ld true 4 (.t 4)),o 13 (.call 125 [(.t 12)]),o 14 (.un .not (.t 13)),o 15 (.mov (.t 14)),og 16 15 false (.ld true 5 (.t 7)),og 17 15 false (.call 138 [(.t 16)]),og 18 15 false (.un .not (.t 17)),o 19 (.pick (.t 15) (.k (.bool true)) (.t 18)),o 20 (.mov (.t 19)),og 21 20 false (.mov (.t 1)),og 22 20 false (.call 139 [(.t 21),(.k (.int .i64 0)),(.k (.int .i64 2))]),og 23 20 false (.un .not (.t 22)),o 24 (.pick (.t 20) (.k (.bool true)) (.t 23)),o 25 (.mov (.t 24)),og 26 25 false (.mov (.t 2)),og 27 25 false (.call 139 [(.t 26),(.k (.int .i64 1)),(.k (.int .i64 10000))]),og 28 25 false (.un .not (.t 27)),o 29 (.pick (.t 25) (.k (.bool true)) (.t 28))]) (.cnd (.t 29) (.seq (.reg [o 30 (.build [(.int .i64 0),(.int .i64 0),(.int .i64 0),.nilS,(.int .i64 0),(.str ⟨#[]⟩),(.str ⟨#[]⟩),(.int .i64 0),(.int .i64 0),(.int .i64 0)] []),on (.st 10 (.t 8) (.t 30)),o 9 (.mov (.k (.int .i64 3)))]) .ret) .skip)) (.seq (.drw [o 31 (.mov (.t 1)),o 32 (.fad 0 (.t 4)),o 33 (.ld false 1 (.t 32)),o 34 (.mov (.t 1)),o 35 (.iad 1 (.t 33) (.t 34)),o 36 (.ld false 1 (.t 35)),o 37 (.bin .add (.t 36) (.k (.int .i64 1))),o 38 (.build [(.int .i64 0),(.int .i64 0)] [(0,1,(.t 31)),(1,1,(.t 37))]),o 39 (.mov (.t 2)),o 40 (.lit 1 0 [] []),o 41 (.fad 0 (.t 4)),o 42 (.ld false 1 (.t 41)),o 43 (.app 1 8 [(.int .i64 0)] (.t 40) (.t 42)),o 44 (.fad 0 (.t 7)),o 45 (.ld false 1 (.t 44)),o 46 (.fad 1 (.t 7)),o 47 (.ld false 1 (.t 46)),o 48 (.fad 2 (.t 7)),o 49 (.ld false 1 (.t 48)),o 50 (.fad 3 (.t 7)),o 51 (.ld false 1 (.t 50)),o 52 (.build [(.int .i64 0),(.int .i64 0),(.int .i64 0),.nilS,(.int .i64 0),(.str ⟨#[]⟩),(.str ⟨#[]⟩),(.int .i64 0),(.int .i64 0),(.int .i64 0)] [(0,2,(.t 38)),(2,1,(.t 39)),(3,1,(.t 43)),(4,1,(.t 45)),(5,1,(.t 47)),(6,1,(.t 49)),(7,1,(.t 51))]),o 10 (.new [(.int .i64 0),(.int .i64 0),(.int .i64 0),.nilS,(.int .i64 0),(.str ⟨#[]⟩),(.str ⟨#[]⟩),(.int .i64 0),(.int .i64 0),(.int .i64 0)])] [on (.st 10 (.t 10) (.t 52))]) (.seq (.reg [o 11 (.mov (.k (.bool true)))]) (.seq (.seq (.reg [o 53 (.fad 0 (.t 7)),o 54 (.ld false 1 (.t 53)),o 55 (.bin .eql (.t 54) (.k (.int .i64 7)))]) (.cnd (.t 55) (.reg [o 57 (.ld true 4 (.t 4)),o 58 (.fad 1 (.t 7)),o 59 (.ld false 1 (.t 58)),o 60 (.fad 4 (.t 7)),o 61 (.ld false 1 (.t 60)),o 62 (.call 140 [(.t 57),(.t 59),(.t 61)]),o 56 (.mov (.t 62)),o 63 (.ext 0 (.t 56)),o 64 (.ext 1 (.t 56)),o 65 (.fad 8 (.t 10)),on (.st 2 (.t 65) (.t 63)),o 11 (.mov (.t 64))]) .skip)) (.seq (.seq (.reg [o 66 (.fad 0 (.t 7)),o 67 (.ld false 1 (.t 66)),o 68 (.bin .eql (.t 67) (.k (.int .i64 6))),o 69 (.mov (.t 68)),og 70 69 true (.fad 4 (.t 7)),og 71 69 true (.ld false 1 (.t 70)),og 72 69 true (.bin .gtr (.t 71) (.k (.int .i64 0))),o 73 (.pick (.t 69) (.t 72) (.k (.bool false)))]) (.cnd (.t 73) (.reg [o 75 (.ld true 4 (.t 4)),o 76 (.fad 1 (.t 7)),o 77 (.ld false 1 (.t 76)),o 78 (.fad 4 (.t 7)),o 79 (.ld false 1 (.t 78)),o 80 (.bin .sub (.t 79) (.k (.int .i64 1))),o 81 (.call 140 [(.t 75),(.t 77),(.t 80)]),o 74 (.mov (.t 81)),o 82 (.ext 0 (.t 74)),o 83 (.ext 1 (.t 74)),o 84 (.fad 8 (.t 10)),on (.st 2 (.t 84) (.t 82)),o 11 (.mov (.t 83))]) .skip)) (.seq (.seq (.reg [o 85 (.fad 0 (.t 10)),o 86 (.ld true 2 (.t 85)),o 87 (.call 141 [(.t 86)]),o 88 (.un .not (.t 87))]) (.cnd (.t 88) (.seq (.reg [o 89 (.build [(.int .i64 0),(.int .i64 0),(.int .i64 0),.nilS,(.int .i64 0),(.str ⟨#[]⟩),(.str ⟨#[]⟩),(.int .i64 0),(.int .i64 0),(.int .i64 0)] []),on (.st 10 (.t 8) (.t 89)),o 9 (.mov (.k (.int .i64 3)))]) .ret) .skip)) (.seq (.seq (.reg [o 90 (.mov (.t 11)),o 91 (.un .not (.t 90))]) (.cnd (.t 91) (.seq (.reg [o 92 (.build [(.int .i64 0),(.int .i64 0),(.int .i64 0),.nilS,(.int .i64 0),(.str ⟨#[]⟩),(.str ⟨#[]⟩),(.int .i64 0),(.int .i64 0),(.int .i64 0)] []),on (.st 10 (.t 8) (.t 92)),o 9 (.mov (.k (.int .i64 5)))]) .ret) .skip)) (.seq (.seq (.reg [o 93 (.ld true 10 (.t 10)),o 94 (.call 105 [(.t 93)]),o 95 (.un .not (.t 94))]) (.cnd (.t 95) (.seq (.reg [o 96 (.build [(.int .i64 0),(.int .i64 0),(.int .i64 0),.nilS,(.int .i64 0),(.str ⟨#[]⟩),(.str ⟨#[]⟩),(.int .i64 0),(.int .i64 0),(.int .i64 0)] []),on (.st 10 (.t 8) (.t 96)),o 9 (.mov (.k (.int .i64 3)))]) .ret) .skip)) (.seq (.reg [o 97 (.ld true 10 (.t 10)),on (.st 10 (.t 8) (.t 97)),o 9 (.mov (.k (.int .i64 0)))]) .ret))))))))))⟩
def placeOf (s:State) (e:Edit):Dot×Bool:=if e.kind=7 then placeIn s e.obj e.place else if e.kind=6∧0<e.place then placeIn s e.obj (e.place - 1) else(d0,true)
def act0:Act:=⟨d0,0,[],0,⟨#[]⟩,⟨#[]⟩,0,d0⟩
def actWith (s:State) (rep time:Int) (e:Edit) (d:Dot):Act:=⟨⟨rep,at0 s.know rep+1⟩,time,s.know,e.kind,e.obj,e.key,e.val,d⟩
def actRaw (s:State) (rep time:Int) (e:Edit):Act:=actWith s rep time e (placeOf s e).1
abbrev awV (s:State) (rep time:Int) (e:Edit) (kv:GV) (d:Dot):List GV:=[gi rep,gi (at0 s.know rep+1),gi time,kv,gi e.kind,.str e.obj,.str e.key,gi e.val,gi d.rep,gi d.seq]
def actOf (s:State) (rep time:Int) (e:Edit):Act×Int:=
 if stateOk s&&(editOk e&&(inB rep 0 2&&inB time 1 10000)) then
  if dotOk ⟨rep,at0 s.know rep+1⟩ then
   if(placeOf s e).2 then
    if actOk (actRaw s rep time e) then(actRaw s rep time e,0) else(act0,3)
   else(act0,5)
  else(act0,3)
 else(act0,3)
abbrev edV (e:Edit):List GV:=[gi e.kind,.str e.obj,.str e.key,gi e.val,gi e.place]
abbrev zeV:List GV:=[gi 0,gi 0,gi 0,GV.nilS,gi 0,.str ⟨#[]⟩,.str ⟨#[]⟩,gi 0,gi 0,gi 0]
end Go.Proofs.YtffnefmklckngaaGreat.Sy
namespace Go.Proofs.YtffnefmklckngaaGreat.Sy
open Go Go.RowKit
set_option linter.unusedSimpArgs false
set_option linter.unusedVariables false
set_option maxRecDepth 4000
abbrev n_i_ActOf:Nat:=94
def F_i_ActOf:Fn1:=⟨102,[.c 8 true 10,.t 9],(.seq (.reg [o 4 (.box (.t 0)),o 7 (.box (.t 3)),o 8 (.new [(.int .i64 0),(.int .i64 0),(.int .i64 0),.nilS,(.int .i64 0),(.str ⟨#[]⟩),(.str ⟨#[]⟩),(.int .i64 0),(.int .i64 0),(.int .i64 0)]),o 9 (.mov (.k (.int .i64 0)))]) (.seq (.seq (.reg [o 12 (.ld true 4 (.t 4)),o 13 (.call 146 [(.t 12)]),o 14 (.un .not (.t 13)),o 15 (.mov (.t 14)),og 16 15 false (.ld true 5 (.t 7)),og 17 15 false (.call 147 [(.t 16)]),og 18 15 false (.un .not (.t 17)),o 19 (.pick (.t 15) (.k (.bool true)) (.t 18)),o 20 (.mov (.t 19)),og 21 20 false (.mov (.t 1)),og 22 20 false (.call 148 [(.t 21),(.k (.int .i64 0)),(.k (.int .i64 2))]),og 23 20 false (.un .not (.t 22)),o 24 (.pick (.t 20) (.k (.bool true)) (.t 23)),o 25 (.mov (.t 24)),og 26 25 false (.mov (.t 2)),og 27 25 false (.call 148 [(.t 26),(.k (.int .i64 1)),(.k (.int .i64 10000))]),og 28 25 false (.un .not (.t 27)),o 29 (.pick (.t 25) (.k (.bool true)) (.t 28)),o 30 (.mov (.t 29)),og 31 30 false (.fad 0 (.t 4)),og 32 30 false (.ld false 1 (.t 31)),og 33 30 false (.mov (.t 1)),og 34 30 false (.iad 1 (.t 32) (.t 33)),og 35 30 false (.ld false 1 (.t 34)),og 36 30 false (.bin .geq (.t 35) (.k (.int .i64 1000))),o 37 (.pick (.t 30) (.k (.bool true)) (.t 36))]) (.cnd (.t 37) (.seq (.reg [o 38 (.build [(.int .i64 0),(.int .i64 0),(.int .i64 0),.nilS,(.int .i64 0),(.str ⟨#[]⟩),(.str ⟨#[]⟩),(.int .i64 0),(.int .i64 0),(.int .i64 0)] []),on (.st 10 (.t 8) (.t 38)),o 9 (.mov (.k (.int .i64 3)))]) .ret) .skip)) (.seq (.drw [o 39 (.mov (.t 1)),o 40 (.fad 0 (.t 4)),o 41 (.ld false 1 (.t 40)),o 42 (.mov (.t 1)),o 43 (.iad 1 (.t 41) (.t 42)),o 44 (.ld false 1 (.t 43)),o 45 (.bin .add (.t 44) (.k (.int .i64 1))),o 46 (.build [(.int .i64 0),(.int .i64 0)] [(0,1,(.t 39)),(1,1,(.t 45))]),o 47 (.mov (.t 2)),o 48 (.fad 0 (.t 4)),o 49 (.ld false 1 (.t 48)),o 50 (.call 113 [(.t 49)]),o 51 (.fad 0 (.t 7)),o 52 (.ld false 1 (.t 51)),o 53 (.fad 1 (.t 7)),o 54 (.ld false 1 (.t 53)),o 55 (.fad 2 (.t 7)),o 56 (.ld false 1 (.t 55)),o 57 (.fad 3 (.t 7)),o 58 (.ld false 1 (.t 57)),o 59 (.build [(.int .i64 0),(.int .i64 0),(.int .i64 0),.nilS,(.int .i64 0),(.str ⟨#[]⟩),(.str ⟨#[]⟩),(.int .i64 0),(.int .i64 0),(.int .i64 0)] [(0,2,(.t 46)),(2,1,(.t 47)),(3,1,(.t 50)),(4,1,(.t 52)),(5,1,(.t 54)),(6,1,(.t 56)),(7,1,(.t 58))]),o 10 (.new [(.int .i64 0),(.int .i64 0),(.int .i64 0),.nilS,(.int .i64 0),(.str ⟨#[]⟩),(.str ⟨#[]⟩),(.int .i64 0),(.int .i64 0),(.int .i64 0)])] [on (.st 10 (.t 10) (.t 59))]) (.seq (.reg [o 11 (.mov (.k (.bool true)))]) (.seq (.blk 0 (.seq (.reg [o 61 (.fad 0 (.t 7)),o 62 (.ld false 1 (.t 61)),o 63 (.bin .eql (.t 62) (.k (.int .i64 6))),o 64 (.mov (.t 63)),og 65 64 true (.fad 4 (.t 7)),og 66 64 true (.ld false 1 (.t 65)),og 67 64 true (.bin .gtr (.t 66) (.k (.int .i64 0))),o 68 (.pick (.t 64) (.t 67) (.k (.bool false))),o 60 (.mov (.t 68))]) (.cnd (.t 60) (.reg [o 70 (.ld true 4 (.t 4)),o 71 (.fad 1 (.t 7)),o 72 (.ld false 1 (.t 71)),o 73 (.fad 4 (.t 7)),o 74 (.ld false 1 (.t 73)),o 75 (.bin .sub (.t 74) (.k (.int .i64 1))),o 76 (.call 149 [(.t 70),(.t 72),(.t 75)]),o 69 (.mov (.t 76)),o 77 (.ext 0 (.t 69)),o 78 (.ext 1 (.t 69)),o 79 (.fad 8 (.t 10)),on (.st 2 (.t 79) (.t 77)),o 11 (.mov (.t 78))]) (.seq (.reg [o 81 (.fad 0 (.t 7)),o 82 (.ld false 1 (.t 81)),o 83 (.bin .eql (.t 82) (.k (.int .i64 7))),o 80 (.mov (.t 83))]) (.cnd (.t 80) (.reg [o 85 (.ld true 4 (.t 4)),o 86 (.fad 1 (.t 7)),o 87 (.ld false 1 (.t 86)),o 88 (.fad 4 (.t 7)),o 89 (.ld false 1 (.t 88)),o 90 (.call 149 [(.t 85),(.t 87),(.t 89)]),o 84 (.mov (.t 90)),o 91 (.ext 0 (.t 84)),o 92 (.ext 1 (.t 84)),o 93 (.fad 8 (.t 10)),on (.st 2 (.t 93) (.t 91)),o 11 (.mov (.t 92))]) .skip))))) (.seq (.seq (.reg [o 94 (.mov (.t 11)),o 95 (.un .not (.t 94))]) (.cnd (.t 95) (.seq (.reg [o 96 (.build [(.int .i64 0),(.int .i64 0),(.int .i64 0),.nilS,(.int .i64 0),(.str ⟨#[]⟩),(.str ⟨#[]⟩),(.int .i64 0),(.int .i64 0),(.int .i64 0)] []),on (.st 10 (.t 8) (.t 96)),o 9 (.mov (.k (.int .i64 5)))]) .ret) .skip)) (.seq (.seq (.reg [o 97 (.ld true 10 (.t 10)),o 98 (.call 111 [(.t 97)]),o 99 (.un .not (.t 98))]) (.cnd (.t 99) (.seq (.reg [o 100 (.build [(.int .i64 0),(.int .i64 0),(.int .i64 0),.nilS,(.int .i64 0),(.str ⟨#[]⟩),(.str ⟨#[]⟩),(.int .i64 0),(.int .i64 0),(.int .i64 0)] []),on (.st 10 (.t 8) (.t 100)),o 9 (.mov (.k (.int .i64 3)))]) .ret) .skip)) (.seq (.reg [o 101 (.ld true 10 (.t 10)),on (.st 10 (.t 8) (.t 101)),o 9 (.mov (.k (.int .i64 0)))]) .ret))))))))⟩
end Go.Proofs.YtffnefmklckngaaGreat.Sy
namespace Go.Proofs.YtffnefmklckngaaGreat.Sy
open Go Go.RowKit
set_option linter.unusedSimpArgs false
set_option linter.unusedVariables false
set_option maxRecDepth 4000
def stepE (s:State) (rep t:Int) (e:Edit):State×Int:=if(actOf s rep t e).2=0 then doAct s (actOf s rep t e).1 else(s,(actOf s rep t e).2)
def runE (s:State) (rep t:Int) (es:List Edit):Nat→State×Int
 |0=>(s,0)
 |i+1=>if(runE s rep t es i).2=0 then(if h:i<es.length then stepE (runE s rep t es i).1 rep (IntKind.i64.wrap (t+i)) es[i] else runE s rep t es i) else runE s rep t es i
def doEdits (s:State) (rep t:Int) (es:List Edit):State×Int:=runE s rep t es es.length
end Go.Proofs.YtffnefmklckngaaGreat.Sy
namespace Go.Proofs.YtffnefmklckngaaGreat.Sy
open Go Go.RowKit
set_option linter.unusedSimpArgs false
set_option linter.unusedVariables false
inductive Item where
 |box (z n:Nat) (cs:List GV)
 |th (r:Thg)
def Item.t:Item→Thg
 | .box z n cs=>pt z n cs
 | .th r=>r
def Hx (σ τ:St) (h:List Item):Prop:=Hp σ τ (h.map Item.t)
def look:List Item→Nat→Option (List GV)
 |[],_=>none
 | .box _ m cs::h,n=>if m=n then some cs else look h n
 | .th _::h,n=>look h n
def upd:List Item→Nat→List GV→List Item
 |[],_,_=>[]
 | .box z m cs::h,n,ds=>if m=n then .box z m ds::h else .box z m cs::upd h n ds
 | .th r::h,n,ds=>.th r::upd h n ds
def frX (σ:St):List Item→Nat→Prop
 |[],n=>σ.length≤n
 | .box _ m _::h,n=>m<n∧frX σ h n
 | .th _::h,n=>frX σ h n
abbrev Kx:=GV→List Item→St→Prop
def bindX (v:Option GV) (k:Kx) (h:List Item) (τ:St):Prop:=match v with
 |some v=>k v h τ
 |none=>False
def orX (a b:Option GV):Option GV:=match a with
 |some x=>some x
 |none=>b
def ldB (c:Option (List GV)) (g:Bool) (n off:Nat) (e:Option GV):Option GV:=match c with
 |some cs=>(seg cs off n).bind (mkv g)
 |none=>e
def ldY (h:List Item) (τ:St) (g:Bool) (n:Nat):GV→Option GV
 | .ptr b off=>ldB (look h b) g n off (ldG g n τ (.ptr b off))
 |a=>ldG g n τ a
def ldX (σ:St) (h:List Item) (τ:St) (g:Bool) (n:Nat) (a:GV):Option GV:=orX (ldG g n σ a) (ldY h τ g n a)
def allocX (σ:St) (h:List Item) (z:Nat) (cs:List GV) (v:Nat→GV) (k:Kx):Prop:=∀ n,frX σ h n→∀ τ',Hx σ τ' (.box z n cs::h)→k (v n) (.box z n cs::h) τ'
def genX (σ:St) (D:Bool) (τ:St) (e:Option (GV×St)) (k:Kx):Prop:=∃ v τ' h',e=some (v,τ')∧(D=true→τ <+: τ')∧Hx σ τ' h'∧k v h' τ'
def stB (σ:St) (D:Bool) (h:List Item) (τ:St) (n:Nat) (k:Kx) (b off:Nat) (x:GV) (c:Option (List GV)):Prop:=match c with
 |some cs=>(D=false∧off+n≤cs.length∧0<n∧x.cells.length=n)∧∀ τ',Hx σ τ' (upd h b (splice cs off x.cells))→k (.tup []) (upd h b (splice cs off x.cells)) τ'
 |none=>genX σ D τ (stG n τ (.ptr b off) x) k
def stX (σ:St) (D:Bool) (h:List Item) (τ:St) (n:Nat) (k:Kx) (a x:GV):Prop:=match a with
 | .ptr b off=>stB σ D h τ n k b off x (look h b)
 |a=>genX σ D τ (stG n τ a x) k
def fnX (P:Program) (σ:St) (D:Bool) (τ:St) (args:List GV) (k:Kx):GV→Prop
 | .fn f caps=>∃ v τ' h',Ret P f (args++caps.map fun c=>.ptr c.1 c.2) τ v τ'∧(D=true→τ <+: τ')∧Hx σ τ' h'∧k v h' τ'
 |_=>False
def litX (σ:St) (h:List Item) (z len:Nat) (k:Kx):Option (List GV)→Prop
 |some cs=>allocX σ h z cs (fun n=>.sl n 0 len) k
 |none=>False
def callX (P:Program) (σ:St) (D:Bool) (τ:St) (f:Nat) (args:List GV) (k:Kx):Prop:=∃ v τ' h',Ret P f args τ v τ'∧(D=true→τ <+: τ')∧Hx σ τ' h'∧k v h' τ'
def mksX (σ:St) (h:List Item) (z b:Nat) (ze:List GV) (k:Kx):Option Nat→Option Nat→Prop
 |some n,some c=>n=c∧n*b≤140737488355328∧allocX σ h z (reps n ze) (fun g=>.sl g 0 n) k
 |_,_=>False
def sxI (P:Program) (D:Bool) (σ:St) (env:Env) (h:List Item) (τ:St) (k:Kx):Ins→Prop
 | .new cs=>allocX σ h 1 cs (fun n=>.ptr n 0) k
 | .box x=>notTup (x.ev env)=true∧allocX σ h 1 (x.ev env).cells (fun n=>.ptr n 0) k
 | .lit z len zero parts=>litX σ h z len k (fillG zero (parts.map fun p=>(p.1,p.2.1,p.2.2.ev env)))
 | .mks z b ze n c=>mksX σ h z b ze k (natOf (some (n.ev env))) (natOf (some (c.ev env)))
 | .ld g n a=>bindX (ldX σ h τ g n (a.ev env)) k h τ
 | .st n a x=>stX σ D h τ n k (a.ev env) (x.ev env)
 | .call f xs=>callX P σ D τ f (xs.map (·.ev env)) k
 | .callv x xs=>fnX P σ D τ (xs.map (·.ev env)) k (x.ev env)
 | .chk d (.ld g n (.t t))=>ldX σ h τ g n (env t)=some (env d)∧k (.tup []) h τ
 | .chk _ _=>False
 | .mlk ks z ok m k'=>bindX (mlkG τ ks z ok (m.ev env) (k'.ev env)) k h τ
 | .bts x=>bindX ((elems τ 1 (x.ev env)).bind fun r=>(bytesOf r.2).map fun bs=>.str ⟨bs.toArray⟩) k h τ
 | .cut z x lo hi=>bindX (if zOk τ z (x.ev env) then cutG z (x.ev env) (lo.map (·.ev env)) (hi.map (·.ev env)) else none) k h τ
 | .app z b ze s x=>genX σ D τ (appV z b τ (s.ev env) (x.ev env)) k
 | .clr z ze x=>genX σ D τ (clrG z ze τ (x.ev env)) k
 | .mkm=>genX σ D τ (some (.mp τ.length,τ++[some (.map [])])) k
 | .mup ks m k' v=>genX σ D τ (mupG τ ks (m.ev env) (k'.ev env) (v.ev env)) k
 |i=>bindX ((exec env [] i).map (·.1)) k h τ
def gdX (c:Option (Option Bool×Bool)) (A B:Prop):Prop:=match c with
 |none=>A
 |some (some c,b)=>(c=b→A)∧(c= !b→B)
 |some (none,_)=>B
def sx (P:Program) (D:Bool) (σ:St):List Op1→(Env→List Item→St→Prop)→Env→List Item→St→Prop
 |[],K,env,h,τ=>K env h τ
 |o::r,K,env,h,τ=>gdX (o.g.map fun g=>((env g.1).bit,g.2)) (sxI P D σ env h τ (fun v h' τ'=>sx P D σ r K (upo env o.d v) h' τ') o.i) (sx P D σ r K (upo env o.d (.tup [])) h τ)
def ifX (c:Option Bool) (A B:Prop):Prop:=match c with
 |some c=>(c=true→A)∧(c=false→B)
 |none=>False
abbrev Qx:=Ex→Env→List Item→St→Prop
def sxc (P:Program) (σ:St):Cd→Qx→Env→List Item→St→Prop
 | .skip,Q=>Q .nxt
 | .reg ops,Q=>sx P false σ ops (Q .nxt)
 | .drw a1 bs,Q=>sx P true σ a1 (sx P false σ bs (Q .nxt))
 | .seq a b,Q=>sxc P σ a fun e=>match e with
  | .nxt=>sxc P σ b Q
  |e=>Q e
 | .cnd c a b,Q=>fun env h τ=>ifX (c.ev env).bit (sxc P σ a Q env h τ) (sxc P σ b Q env h τ)
 | .blk id a,Q=>sxc P σ a fun e=>match e with
  | .ext j=>if j=id then Q .nxt else Q (.ext j)
  |e=>Q e
 | .lop a,Q=>fun env h τ=>∃(I:Nat→Env→List Item→St→Prop) (n:Nat) (h0:List Item),Hx σ τ h0∧I n env h0 τ∧∀ k env h τ,Hx σ τ h→I k env h τ→sxc P σ a (fun e env' h' τ'=>match e with
  | .nxt=>∃ k' h1,k'<k∧Hx σ τ' h1∧I k' env' h1 τ'
  |e=>∃ h1,Hx σ τ' h1∧Q e env' h1 τ') env h τ
 | .ext id,Q=>Q (.ext id)
 | .ret,Q=>Q .ret
section sound
variable {P:Program} {σ:St} {D:Bool}
theorem Hx.hp {τ:St} {h:List Item} (H:Hx σ τ h):Hp σ τ (h.map Item.t):=H
theorem Hx.sub {τ:St} {h:List Item} (H:Hx σ τ h):σ <+: τ:=H.hp.sub
theorem Hx.refl (σ:St):Hx σ σ []:=Hp.refl σ
theorem look_at:∀ {h:List Item} {n:Nat} {cs:List GV},look h n=some cs→∃ z,∃ i:Nat,(h.map Item.t)[i]? =some (pt z n cs)∧∀ ds,(upd h n ds).map Item.t=(h.map Item.t).set i (pt z n ds)
 |[],_,_,e=>by cases e
 | .box z m cs'::h,n,cs,e=>by
  simp only[look] at e
  by_cases hm:m=n
  ·rw[if_pos hm] at e
   injection e with e;subst e hm
   exact⟨z,0,rfl,fun ds=>by simp[upd,Item.t]⟩
  ·rw[if_neg hm] at e
   obtain⟨z',i,h1,h2⟩:=look_at e
   exact⟨z',i+1,by simpa using h1,fun ds=>by simp[upd,hm,h2 ds]⟩
 | .th r::h,n,cs,e=>by
  obtain⟨z',i,h1,h2⟩:=look_at (h:=h) (by simpa [look] using e)
  exact⟨z',i+1,by simpa using h1,fun ds=>by simp[upd,h2 ds]⟩
theorem ldG_pre {τ:St} {g:Bool} {n:Nat} {a x:GV} (h:ldG g n σ a=some x) (hp:σ <+: τ):ldG g n τ a=some x:=by
 cases a with
 |ptr b off=>
  simp only[ldG] at h ⊢
  obtain⟨cs,h1,h2⟩:=Option.bind_eq_some_iff.1 h
  rw[rdB_pre hp h1];exact h2
 |_=>cases h
theorem ldX_sound {h:List Item} {τ:St} (H:Hx σ τ h) {g:Bool} {n:Nat} {a x:GV} (e:ldX σ h τ g n a=some x):ldG g n τ a=some x:=by
 unfold ldX orX ldY at e
 split at e
 ·rename_i y hy
  injection e with e;subst e
  exact ldG_pre hy H.sub
 ·cases a with
  |ptr b off=>
   simp only at e
   cases hl:look h b with
   |none=>rw[hl] at e;exact e
   |some cs=>
    rw[hl] at e
    obtain⟨z,i,h1,_⟩:=look_at hl
    have:=H.hp.pt i h1
    simp only[ldG,this,Option.bind_some]
    exact e
  |_=>exact e
theorem fr_use {n:Nat}:∀ {h:List Item},σ.length≤n→(∀ z m cs,Item.box z m cs∈h→m<n)→frX σ h n
 |[],hl,_=>hl
 | .box z m cs::h,hl,hb=>⟨hb z m cs List.mem_cons_self,fr_use (h:=h) hl fun z m cs hm=>hb z m cs (List.mem_cons_of_mem _ hm)⟩
 | .th r::h',hl,hb=>fr_use (h:=h') hl fun z m cs hm=>hb z m cs (List.mem_cons_of_mem _ hm)
theorem box_lt {h:List Item} {τ:St} (H:Hx σ τ h) {z m:Nat} {cs:List GV} (hm:Item.box z m cs∈h):m<τ.length:=by
 obtain⟨i,hi,e⟩:=List.getElem_of_mem hm
 have h1:(h.map Item.t)[i]? =some (pt z m cs):=by
  rw[List.getElem?_map,List.getElem?_eq_getElem hi,e];rfl
 obtain⟨a,ha,_,hb⟩:=H.hp.see h1
 exact(hb m (by rw[ha.1];exact List.mem_cons_self)).2
theorem alloc_sound {h:List Item} {τ:St} {z:Nat} {cs:List GV} {v:Nat→GV} {k:Kx} (H:Hx σ τ h) (e:allocX σ h z cs v k):∃ h',Hx σ (τ++[some (.row z cs)]) h'∧k (v τ.length) h' (τ++[some (.row z cs)]):=
 ⟨.box z τ.length cs::h,H.hp.new z cs,e τ.length (fr_use (h:=h) H.sub.length_le (fun _ _ _ hm=>box_lt H hm)) _ (H.hp.new z cs)⟩
theorem gen_sound {τ:St} {e:Option (GV×St)} {k:Kx} (h:genX σ D τ e k):∃ v τ',e=some (v,τ')∧(D=true→τ <+: τ')∧∃ h',Hx σ τ' h'∧k v h' τ':=by
 obtain⟨v,τ',h',h1,h2,h3,h4⟩:=h
 exact⟨v,τ',h1,h2,h',h3,h4⟩
theorem sxI_sound {env:Env} {h:List Item} {τ:St} {k:Kx} (H:Hx σ τ h):∀ {i:Ins},sxI P D σ env h τ k i→∃ v τ',Step P env τ i v τ'∧(D=true→τ <+: τ')∧∃ h',Hx σ τ' h'∧k v h' τ':=by
 intro i e
 have same:∀ {v:Option GV},bindX v k h τ→(∀ v',v=some v'→Step P env τ i v' τ)→∃ v τ',Step P env τ i v τ'∧(D=true→τ <+: τ')∧∃ h',Hx σ τ' h'∧k v h' τ':=by
  intro v hb hs
  cases v with
  |none=>exact hb.elim
  |some v=>exact⟨v,τ,hs v rfl,fun _=>List.prefix_refl _,h,H,hb⟩
 have pure:pureI i=true→bindX ((exec env [] i).map (·.1)) k h τ→i.isCall=false→(∀ v',exec env τ i=some (v',τ)→Step P env τ i v' τ)→∃ v τ',Step P env τ i v τ'∧(D=true→τ <+: τ')∧∃ h',Hx σ τ' h'∧k v h' τ':=by
  intro hp hb _ hs
  refine same hb fun v' hv=>hs v' ?_
  obtain⟨⟨w,s⟩,hw,rfl⟩:=Option.map_eq_some_iff.1 hv
  exact(exec_pure hp hw).2 τ
 cases i with
 |new cs=>
  obtain⟨h',h1,h2⟩:=alloc_sound H e
  exact⟨_,_,rfl,fun _=>List.prefix_append _ _,h',h1,h2⟩
 |box x=>
  obtain⟨h0,e⟩:=e
  obtain⟨h',h1,h2⟩:=alloc_sound H e
  exact⟨_,_,by show boxG τ _=_;unfold boxG;rw[if_pos h0],fun _=>List.prefix_append _ _,h',h1,h2⟩
 |lit z len zero parts=>
  simp only[sxI] at e
  unfold litX at e
  split at e
  ·rename_i cs hc
   obtain⟨h',h1,h2⟩:=alloc_sound H e
   exact⟨_,_,by show exec env τ _=_;simp only[exec,hc];rfl,fun _=>List.prefix_append _ _,h',h1,h2⟩
  ·exact e.elim
 |mks z b ze n c=>
  simp only[sxI] at e
  unfold mksX at e
  split at e
  ·rename_i n' c' hn hc
   obtain⟨h0,h3,e⟩:=e
   obtain⟨h',h1,h2⟩:=alloc_sound H e
   exact⟨_,_,by show exec env τ _=_;simp only[exec,hn,hc,Option.bind_some,if_pos (And.intro h0 h3)],fun _=>List.prefix_append _ _,h',h1,h2⟩
  ·exact e.elim
 |ld g n a=>
  refine same e fun v' hv=> ?_
  have:=ldX_sound H hv
  show exec env τ _=_
  simp only[exec]
  revert this
  cases a.ev env with
  |ptr b off=>
   intro h1
   simp only[ldG] at h1
   simp only[ptrG,Option.bind_some]
   obtain⟨cs,h2,h3⟩:=Option.bind_eq_some_iff.1 h1
   obtain⟨r,h4,h5⟩:=Option.bind_eq_some_iff.1 h3
   simp only[h2,Option.bind_some,h4,h5,Option.map_some]
  |_=>intro h1;cases h1
 |st n a x=>
  simp only[sxI] at e
  have hst:∀ {y:GV} {τ'},stG n τ (a.ev env) (x.ev env)=some (y,τ')→Step P env τ (.st n a x) y τ':=by
   intro y τ' he
   show exec env τ _=_
   simp only[exec]
   revert he
   cases a.ev env<;>intro he<;>first|cases he;done|exact he
  have gen:genX σ D τ (stG n τ (a.ev env) (x.ev env)) k→∃ v τ',Step P env τ (.st n a x) v τ'∧(D=true→τ <+: τ')∧∃ h',Hx σ τ' h'∧k v h' τ':=fun hg=>by
   obtain⟨v,τ',h1,h2⟩:=gen_sound hg
   exact⟨v,τ',hst h1,h2⟩
  unfold stX at e
  split at e
  ·rename_i b off hb
   unfold stB at e
   split at e
   ·rename_i cs hl
    obtain⟨⟨h0,h1,h2,h3⟩,h4⟩:=e
    obtain⟨z,i,h5,h6⟩:=look_at hl
    obtain⟨τ',s1,s2,_⟩:=H.hp.st i h5 n off (x.ev env) h3 h2 h1
    have s3:Hx σ τ' (upd h b (splice cs off (x.ev env).cells)):=by unfold Hx;rw[h6];exact s2
    exact⟨_,τ',hst (by rw[hb];exact s1),(fun hd=>by rw[hd] at h0;cases h0),_,s3,h4 _ s3⟩
   ·rw[← hb] at e;exact gen e
  ·exact gen e
 |call f xs=>
  obtain⟨v,τ',h',h1,h2,h3,h4⟩:=e
  exact⟨v,τ',h1,h2,h',h3,h4⟩
 |callv x xs=>
  simp only[sxI] at e
  unfold fnX at e
  split at e
  ·rename_i f caps hf
   obtain⟨v,τ',h',h1,h2,h3,h4⟩:=e
   exact⟨v,τ',⟨f,caps,hf,h1⟩,h2,h',h3,h4⟩
  ·exact e.elim
 |chk d x=>
  cases x with
  |ld g n a=>cases a with
   |t t=>
    obtain⟨h1,h2⟩:=e
    refine⟨_,τ,⟨rfl,rfl,?_⟩,fun _=>List.prefix_refl _,h,H,h2⟩
    have h3:=ldX_sound H h1
    simp only[exec,Opd.ev]
    revert h3
    cases env t with
    |ptr b off=>
     intro h1
     simp only[ldG] at h1
     simp only[ptrG,Option.bind_some]
     obtain⟨cs,h2,h3⟩:=Option.bind_eq_some_iff.1 h1
     obtain⟨r,h4,h5⟩:=Option.bind_eq_some_iff.1 h3
     simp only[h2,Option.bind_some,h4,h5,Option.map_some]
    |_=>intro h1;cases h1
   |k v=>exact e.elim
  |_=>exact e.elim
 |mlk ks z ok m k'=>exact same e fun v' hv=>by show exec env τ _=_;simp only[exec,hv,Option.map_some]
 |bts x=>
  refine same e fun v' hv=> ?_
  show exec env τ _=_
  simp only[exec]
  obtain⟨r,h1,h2⟩:=Option.bind_eq_some_iff.1 hv
  obtain⟨bs,h3,rfl⟩:=Option.map_eq_some_iff.1 h2
  rw[h1,Option.bind_some,h3];rfl
 |cut z x lo hi=>
  refine same e fun v' hv=> ?_
  show exec env τ _=_
  simp only[exec]
  split at hv
  ·rename_i hz
   rw[if_pos hz,hv];rfl
  ·cases hv
 |app z b ze s x=>exact gen_sound e
 |clr z ze x=>exact gen_sound e
 |mkm=>exact gen_sound e
 |mup ks m k' v=>exact gen_sound e
 |mkf f caps=>
  refine same e fun v' hv=> ?_
  show exec env τ _=_
  simp only[exec] at hv ⊢
  obtain⟨⟨w,s⟩,hw,rfl⟩:=Option.map_eq_some_iff.1 hv
  obtain⟨cs,h1,h2⟩:=Option.map_eq_some_iff.1 hw
  injection h2 with h2 h3;subst h2
  rw[h1];rfl
 |pan=>exact e.elim
 |_=>exact pure rfl e rfl fun _ h=>h
theorem sx_sound:∀ {os:List Op1} {K:Env→List Item→St→Prop} {env:Env} {h:List Item} {τ:St},Hx σ τ h→sx P D σ os K env h τ→vcOps D P os (fun env' τ'=>τ.length≤τ'.length∧∃ h',Hx σ τ' h'∧K env' h' τ') env τ
 |[],K,env,h,τ,H,e=>⟨Nat.le_refl _,h,H,e⟩
 |o::r,K,env,h,τ,H,e=>by
  have yes:sxI P D σ env h τ (fun v h' τ'=>sx P D σ r K (upo env o.d v) h' τ') o.i→∃ v σ',Step P env τ o.i v σ'∧(D=true→τ <+: σ')∧vcOps D P r (fun env' τ'=>τ.length≤τ'.length∧∃ h',Hx σ τ' h'∧K env' h' τ') (upo env o.d v) σ':=fun e=>by
   obtain⟨v,τ',h1,h2,h',h3,h4⟩:=sxI_sound H e
   have hl:=step_len h1
   exact⟨v,τ',h1,h2,vcOps_mono (sx_sound h3 h4) fun _ _ hk=>⟨Nat.le_trans hl hk.1,hk.2⟩⟩
  have no:sx P D σ r K (upo env o.d (.tup [])) h τ→vcOps D P r (fun env' τ'=>τ.length≤τ'.length∧∃ h',Hx σ τ' h'∧K env' h' τ') (upo env o.d (.tup [])) τ:=fun e=>sx_sound H e
  simp only[vcOps]
  simp only[sx] at e
  cases hg:o.g with
  |none=>
   rw[hg] at e
   rw[if_pos (by simp[wantedG])]
   exact yes e
  |some q=>
   obtain⟨g,b⟩:=q
   rw[hg] at e
   simp only[Option.map_some] at e
   cases hc:(env g).bit with
   |none=>
    rw[hc] at e
    rw[if_neg (by simp[wantedG,hc])]
    exact no e
   |some c=>
    rw[hc] at e
    by_cases hcb:c=b
    ·rw[if_pos (by simp[wantedG,hc,hcb])]
     exact yes (e.1 hcb)
    ·rw[if_neg (by simp[wantedG,hc,hcb])]
     exact no (e.2 (by cases c<;>cases b<;>simp_all))
theorem sxc_sound {d:Cd}:∀ {Q:Qx} {env:Env} {h:List Item} {τ:St},Hx σ τ h→sxc P σ d Q env h τ→vc P d (fun e env' τ'=>τ.length≤τ'.length∧∃ h',Hx σ τ' h'∧Q e env' h' τ') env τ:=by
 induction d with
 |skip=>intro Q env h τ H e;exact⟨Nat.le_refl _,h,H,e⟩
 |reg ops=>intro Q env h τ H e;exact sx_sound H e
 |drw a1 bs=>
  intro Q env h τ H e
  show vcOps true P a1 _ env τ
  refine vcOps_mono (sx_sound H e) fun env' τ' hk=> ?_
  obtain⟨hl,h',H',hk⟩:=hk
  exact vcOps_mono (sx_sound H' hk) fun _ _ hq=>⟨Nat.le_trans hl hq.1,hq.2⟩
 |seq a b iha ihb=>
  intro Q env h τ H e
  show vc P a _ env τ
  refine vc_mono (iha H e) fun e env' τ' hk=> ?_
  obtain⟨hl,h',H',hk⟩:=hk
  cases e with
  |nxt=>exact vc_mono (ihb H' hk) fun _ _ _ hq=>⟨Nat.le_trans hl hq.1,hq.2⟩
  |ext j=>exact⟨hl,h',H',hk⟩
  |ret=>exact⟨hl,h',H',hk⟩
 |cnd c a b iha ihb=>
  intro Q env h τ H e
  simp only[sxc] at e
  unfold ifX at e
  split at e
  ·rename_i t ht
   exact⟨t,ht,fun k=>iha H (e.1 k),fun k=>ihb H (e.2 k)⟩
  ·exact e.elim
 |blk id a ih=>
  intro Q env h τ H e
  show vc P a _ env τ
  refine vc_mono (ih H e) fun e env' τ' hk=> ?_
  obtain⟨hl,h',H',hk⟩:=hk
  cases e with
  |nxt=>exact⟨hl,h',H',hk⟩
  |ext j=>
   simp only at hk ⊢
   split at hk
   ·rename_i hj;rw[if_pos hj];exact⟨hl,h',H',hk⟩
   ·rename_i hj;rw[if_neg hj];exact⟨hl,h',H',hk⟩
  |ret=>exact⟨hl,h',H',hk⟩
 |lop a ih=>
  intro Q env h τ H e
  obtain⟨I,n,h0,H0,hI,hs⟩:=e
  refine vc_lop (fun k env' τ'=>τ.length≤τ'.length∧∃ h,Hx σ τ' h∧I k env' h τ') n ⟨Nat.le_refl _,h0,H0,hI⟩ ?_
  rintro k env1 τ1 ⟨hl,h1,H1,hI1⟩
  refine vc_mono (ih H1 (hs k env1 h1 τ1 H1 hI1)) fun e env' τ' hk=> ?_
  obtain⟨hl2,h',H',hk⟩:=hk
  cases e with
  |nxt=>
   obtain⟨k',h3,h4,h5,h6⟩:=hk
   exact⟨k',h4,Nat.le_trans hl hl2,h3,h5,h6⟩
  |ext j=>exact⟨Nat.le_trans hl hl2,hk⟩
  |ret=>exact⟨Nat.le_trans hl hl2,hk⟩
 |ext id=>intro Q env h τ H e;exact⟨Nat.le_refl _,h,H,e⟩
 |ret=>intro Q env h τ H e;exact⟨Nat.le_refl _,h,H,e⟩
def rsX (σ:St) (h:List Item) (τ:St) (env:Env):Rs→Option GV
 | .t n=>some (env n)
 | .c a g n=>ldX σ h τ g n (env a)
def resX (σ:St) (h:List Item) (τ:St) (env:Env):List Rs→Option GV
 |[r]=>rsX σ h τ env r
 |rs=>(optAll (rsX σ h τ env) rs).bind fun vs=>if vs.all notTup then some (.tup vs) else none
theorem rsX_sound {h:List Item} {τ:St} (H:Hx σ τ h) {env:Env} {r:Rs} {v:GV} (e:rsX σ h τ env r=some v):r.ev env τ=some v:=by
 cases r with
 |t n=>exact e
 |c a g n=>rw[rs_c];exact ldX_sound H e
theorem optAll_imp {α β:Type} {f g:α→Option β} (h:∀ x y,f x=some y→g x=some y):∀ {l:List α} {r:List β},optAll f l=some r→optAll g l=some r
 |[],r,e=>e
 |x::l,r,e=>by
  simp only[optAll,Option.bind_eq_some_iff,Option.map_eq_some_iff] at e ⊢
  obtain⟨y,h1,ys,h2,rfl⟩:=e
  exact⟨y,h _ _ h1,ys,optAll_imp h h2,rfl⟩
theorem resX_sound {h:List Item} {τ:St} (H:Hx σ τ h) {env:Env} {rs:List Rs} {v:GV} (e:resX σ h τ env rs=some v):resG env τ rs=some v:=by
 unfold resX at e
 unfold resG
 split at e
 ·exact rsX_sound H e
 ·rename_i hne
  split
  ·exact absurd rfl (hne _)
  ·obtain⟨vs,h1,h2⟩:=Option.bind_eq_some_iff.1 e
   rw[optAll_imp (fun x y=>rsX_sound H) h1];exact h2
theorem ret_x {f:Nat} {F:Fn1} {args:List GV} {σ1:St} {h0:List Item} {Post:GV→St→Prop} (hF:compFn P f=some F) (hl:args.length≤F.n) (H:Hx σ σ1 h0)
  (hc:sxc P σ F.c (fun e env h τ=>Hx σ τ h→isOut e=true∧∃ r,resX σ h τ env F.rs=some r∧Post r τ) (env0 args) h0 σ1):∃ r τ,Ret P f args σ1 r τ∧Post r τ:=
 ret_mut hF hl (vc_mono (sxc_sound H hc) fun e env τ he=>by
  obtain⟨hl,h,H,hq⟩:=he
  obtain⟨ho,r,hr,hp⟩:=hq H
  exact⟨ho,r,resX_sound H hr,hl,hp⟩)
end sound
end Go.Proofs.YtffnefmklckngaaGreat.Sy
namespace Go.Proofs.YtffnefmklckngaaGreat.Sy
open Go Go.RowKit
set_option linter.unusedSimpArgs false
set_option linter.unusedVariables false
def nextX (P:Program) (D:Bool) (σ:St) (r:List Op1) (K:Env→List Item→St→Prop) (env:Env) (d:Option Nat):Kx:=fun v h' τ'=>sx P D σ r K (upo env d v) h' τ'
def gdS (P:Program) (D:Bool) (σ:St) (env:Env) (h:List Item) (τ:St) (k:Kx) (i:Ins) (b:Bool) (c:Option Bool):Prop:=match c with
 |some c=>(c=b→sxI P D σ env h τ k i)∧(c= !b→k (.tup []) h τ)
 |none=>k (.tup []) h τ
def ifS (P:Program) (σ:St) (a b:Cd) (Q:Qx) (env:Env) (h:List Item) (τ:St) (c:Option Bool):Prop:=match c with
 |some c=>(c=true→sxc P σ a Q env h τ)∧(c=false→sxc P σ b Q env h τ)
 |none=>False
section words
variable {P:Program} {D:Bool} {σ τ:St} {env:Env} {h:List Item} {r:List Op1} {K:Env→List Item→St→Prop} {k:Kx} {d:Option Nat} {Q:Qx}
@[go_sem] theorem nextX_ap {v:GV}:nextX P D σ r K env d v h τ=sx P D σ r K (upo env d v) h τ:=(rfl)
@[go_sem] theorem sx_nil:sx P D σ [] K env h τ=K env h τ:=(rfl)
@[go_sem] theorem sx_one {i:Ins}:sx P D σ (⟨d,none,i⟩::r) K env h τ=sxI P D σ env h τ (nextX P D σ r K env d) i:=(rfl)
@[go_sem] theorem sx_grd {g:Nat} {b:Bool} {i:Ins}:sx P D σ (⟨d,some (g,b),i⟩::r) K env h τ=gdS P D σ env h τ (nextX P D σ r K env d) i b (env g).bit:=by
 show gdX (some ((env g).bit,b)) _ _=_
 cases(env g).bit<;>rfl
@[go_sem] theorem gdS_tt {b:Bool} {i:Ins}:gdS P D σ env h τ k i b (some b)=sxI P D σ env h τ k i:=by cases b<;>simp[gdS]
@[go_sem] theorem gdS_tf {i:Ins}:gdS P D σ env h τ k i false (some true)=k (.tup []) h τ:=by simp[gdS]
@[go_sem] theorem gdS_ft {i:Ins}:gdS P D σ env h τ k i true (some false)=k (.tup []) h τ:=by simp[gdS]
@[go_sem] theorem gdS_n {b:Bool} {i:Ins}:gdS P D σ env h τ k i b none=k (.tup []) h τ:=(rfl)
@[go_sem] theorem bindX_some {v:GV}:bindX (some v) k h τ=k v h τ:=(rfl)
@[go_sem] theorem ifS_t {a b:Cd}:ifS P σ a b Q env h τ (some true)=sxc P σ a Q env h τ:=by simp[ifS]
@[go_sem] theorem ifS_f {a b:Cd}:ifS P σ a b Q env h τ (some false)=sxc P σ b Q env h τ:=by simp[ifS]
theorem mapfst {v:Option GV}:(Option.map (·.1) (v.map fun v=>(v,([]:St))))=v:=by cases v<;>rfl
@[go_sem] theorem xi_mov {x:Opd}:sxI P D σ env h τ k (.mov x)=k (x.ev env) h τ:=(rfl)
@[go_sem] theorem xi_pick {c a b:Opd}:sxI P D σ env h τ k (.pick c a b)=bindX ((c.ev env).bit.map fun t=>if t then a.ev env else b.ev env) k h τ:=by
 simp only[sxI,exec]
 cases(c.ev env).bit<;>rfl
@[go_sem] theorem xi_new {cs:List GV}:sxI P D σ env h τ k (.new cs)=allocX σ h 1 cs (fun n=>.ptr n 0) k:=(rfl)
@[go_sem] theorem xi_box {x:Opd}:sxI P D σ env h τ k (.box x)=(notTup (x.ev env)=true∧allocX σ h 1 (x.ev env).cells (fun n=>.ptr n 0) k):=(rfl)
@[go_sem] theorem xi_build {z:List GV} {ps:List (Nat×Nat×Opd)}:sxI P D σ env h τ k (.build z ps)=bindX ((fillG z (ps.map fun p=>(p.1,p.2.1,p.2.2.ev env))).map .agg) k h τ:=by
 simp only[sxI,exec]
 cases fillG z (ps.map fun p=>(p.1,p.2.1,p.2.2.ev env))<;>rfl
@[go_sem] theorem xi_lit {z l:Nat} {ze:List GV} {ps:List (Nat×Nat×Opd)}:sxI P D σ env h τ k (.lit z l ze ps)=litX σ h z l k (fillG ze (ps.map fun p=>(p.1,p.2.1,p.2.2.ev env))):=(rfl)
@[go_sem] theorem litX_some {z l:Nat} {cs:List GV}:litX σ h z l k (some cs)=allocX σ h z cs (fun n=>.sl n 0 l) k:=(rfl)
@[go_sem] theorem xi_mks {z b:Nat} {ze:List GV} {n c:Opd}:sxI P D σ env h τ k (.mks z b ze n c)=mksX σ h z b ze k (natOf (some (n.ev env))) (natOf (some (c.ev env))):=(rfl)
@[go_sem] theorem mksX_some {z b:Nat} {ze:List GV} {n c:Nat}:mksX σ h z b ze k (some n) (some c)=(n=c∧n*b≤140737488355328∧allocX σ h z (reps n ze) (fun g=>.sl g 0 n) k):=(rfl)
@[go_sem] theorem xi_ld {g:Bool} {n:Nat} {a:Opd}:sxI P D σ env h τ k (.ld g n a)=bindX (ldX σ h τ g n (a.ev env)) k h τ:=(rfl)
@[go_sem] theorem xi_st {n:Nat} {a x:Opd}:sxI P D σ env h τ k (.st n a x)=stX σ D h τ n k (a.ev env) (x.ev env):=(rfl)
@[go_sem] theorem stX_ptr {n b off:Nat} {x:GV}:stX σ D h τ n k (.ptr b off) x=stB σ D h τ n k b off x (look h b):=(rfl)
@[go_sem] theorem stB_some {n b off:Nat} {x:GV} {cs:List GV}:stB σ D h τ n k b off x (some cs)=((D=false∧off+n≤cs.length∧0<n∧x.cells.length=n)∧∀ τ',Hx σ τ' (upd h b (splice cs off x.cells))→k (.tup []) (upd h b (splice cs off x.cells)) τ'):=(rfl)
@[go_sem] theorem xi_nck {x:Opd}:sxI P D σ env h τ k (.nck x)=bindX (nckG (x.ev env)) k h τ:=by simp only[sxI,exec,mapfst]
@[go_sem] theorem xi_bin {op:BinOp} {x y:Opd}:sxI P D σ env h τ k (.bin op x y)=bindX (binG op (x.ev env) (y.ev env)) k h τ:=by simp only[sxI,exec,mapfst]
@[go_sem] theorem xi_eqb {n:Bool} {x y:Opd}:sxI P D σ env h τ k (.eqb n x y)=bindX (eqbG n (x.ev env) (y.ev env)) k h τ:=by
 simp only[sxI,exec,eqbG]
 cases(x.ev env).bit with
 |none=>rfl
 |some a=>cases(y.ev env).bit<;>rfl
@[go_sem] theorem xi_eqn {p n:Bool} {x y:Opd}:sxI P D σ env h τ k (.eqn p n x y)=bindX ((nilG p (x.ev env) (y.ev env)).map fun b=>.bool (n ^^ b)) k h τ:=by
 simp only[sxI,exec]
 cases nilG p (x.ev env) (y.ev env)<;>rfl
@[go_sem] theorem xi_eqs {n:Bool} {ks:List Sc} {x y:Opd}:sxI P D σ env h τ k (.eqs n ks x y)=bindX (eqsG n ks (x.ev env) (y.ev env)) k h τ:=by
 simp only[sxI,exec]
 cases x.ev env<;>first|rfl|skip
 cases y.ev env<;>first|rfl|skip
 simp only[eqsG]
 cases scsEq ks _ _<;>rfl
@[go_sem] theorem xi_un {op:UnOp} {x:Opd}:sxI P D σ env h τ k (.un op x)=bindX (unG op (x.ev env)) k h τ:=by simp only[sxI,exec,mapfst]
@[go_sem] theorem xi_cvi {kd:IntKind} {x:Opd}:sxI P D σ env h τ k (.cvi kd x)=bindX (cviG kd (x.ev env)) k h τ:=by
 simp only[sxI,exec]
 cases x.ev env<;>rfl
@[go_sem] theorem xi_bts {x:Opd}:sxI P D σ env h τ k (.bts x)=bindX ((elems τ 1 (x.ev env)).bind fun r=>(bytesOf r.2).map fun bs=>.str ⟨bs.toArray⟩) k h τ:=(rfl)
@[go_sem] theorem xi_mkf {f:Nat} {cs:List Opd}:sxI P D σ env h τ k (.mkf f cs)=bindX ((cs.mapM fun c=>capOf (c.ev env)).map fun cs=>.fn f cs) k h τ:=by
 simp only[sxI,exec]
 cases cs.mapM fun c=>capOf (c.ev env)<;>rfl
@[go_sem] theorem xi_cutS {x:Opd} {lo hi:Option Opd}:sxI P D σ env h τ k (.cutS x lo hi)=bindX (cutSG (x.ev env) (lo.map (·.ev env)) (hi.map (·.ev env))) k h τ:=by simp only[sxI,exec,mapfst]
@[go_sem] theorem xi_cut {z:Nat} {x:Opd} {lo hi:Option Opd}:sxI P D σ env h τ k (.cut z x lo hi)=bindX (if zOk τ z (x.ev env) then cutG z (x.ev env) (lo.map (·.ev env)) (hi.map (·.ev env)) else none) k h τ:=(rfl)
@[go_sem] theorem xi_fad {n:Nat} {a:Opd}:sxI P D σ env h τ k (.fad n a)=bindX (fadG n (a.ev env)) k h τ:=by
 simp only[sxI,exec]
 cases a.ev env<;>rfl
@[go_sem] theorem xi_part {g:Bool} {off n:Nat} {x:Opd}:sxI P D σ env h τ k (.part g off n x)=bindX (partV g off n (x.ev env)) k h τ:=by
 simp only[sxI,exec]
 cases x.ev env with
 |agg cs=>
  simp only[partV]
  cases seg cs off n with
  |none=>rfl
  |some q=>simp only[Option.bind_some,mapfst]
 |_=>rfl
@[go_sem] theorem xi_iad {z:Nat} {x i:Opd}:sxI P D σ env h τ k (.iad z x i)=bindX (iadG z (x.ev env) (natOf (some (i.ev env)))) k h τ:=by
 simp only[sxI,exec]
 cases x.ev env with
 |sl g off len=>
  simp only
  cases natOf (some (i.ev env)) with
  |none=>rfl
  |some n=>
   simp only[Option.bind_some,iadG]
   split<;>rfl
 |_=>rfl
@[go_sem] theorem xi_idx {x i:Opd}:sxI P D σ env h τ k (.idx x i)=bindX (idxG (x.ev env) (natOf (some (i.ev env)))) k h τ:=by
 simp only[sxI,exec]
 cases x.ev env with
 |str s=>
  simp only
  cases natOf (some (i.ev env)) with
  |none=>rfl
  |some n=>
   simp only[Option.bind_some,idxG]
   cases s[n]? <;>rfl
 |_=>rfl
@[go_sem] theorem xi_ext {i:Nat} {x:Opd}:sxI P D σ env h τ k (.ext i x)=bindX (extG i (x.ev env)) k h τ:=by
 simp only[sxI,exec]
 cases x.ev env with
 |tup vs=>
  simp only[extG]
  cases vs[i]? with
  |none=>rfl
  |some v=>cases v<;>rfl
 |_=>rfl
@[go_sem] theorem xi_len {s:Bool} {x:Opd}:sxI P D σ env h τ k (.len s x)=bindX ((lenG s (x.ev env)).map fun n=>.int .i64 n) k h τ:=by
 simp only[sxI,exec]
 cases lenG s (x.ev env)<;>rfl
@[go_sem] theorem xi_app {z b:Nat} {ze:List GV} {s x:Opd}:sxI P D σ env h τ k (.app z b ze s x)=genX σ D τ (appV z b τ (s.ev env) (x.ev env)) k:=(rfl)
@[go_sem] theorem xi_mm {m:Bool} {x y:Opd}:sxI P D σ env h τ k (.mm m x y)=bindX (mmG m (x.ev env) (y.ev env)) k h τ:=by
 simp only[sxI,exec]
 cases x.ev env<;>first|rfl|skip
 cases y.ev env<;>rfl
@[go_sem] theorem xi_clr {z:Nat} {ze:List GV} {x:Opd}:sxI P D σ env h τ k (.clr z ze x)=genX σ D τ (clrG z ze τ (x.ev env)) k:=(rfl)
@[go_sem] theorem xi_pan:sxI P D σ env h τ k .pan=False:=(rfl)
@[go_sem] theorem xi_mkm:sxI P D σ env h τ k .mkm=genX σ D τ (some (.mp τ.length,τ++[some (.map [])])) k:=(rfl)
@[go_sem] theorem xi_mlk {ks:List Sc} {z:GV} {ok:Bool} {m k':Opd}:sxI P D σ env h τ k (.mlk ks z ok m k')=bindX (mlkG τ ks z ok (m.ev env) (k'.ev env)) k h τ:=(rfl)
@[go_sem] theorem xi_mup {ks:List Sc} {m k' v:Opd}:sxI P D σ env h τ k (.mup ks m k' v)=genX σ D τ (mupG τ ks (m.ev env) (k'.ev env) (v.ev env)) k:=(rfl)
@[go_sem] theorem xi_call {f:Nat} {xs:List Opd}:sxI P D σ env h τ k (.call f xs)=callX P σ D τ f (xs.map (·.ev env)) k:=(rfl)
@[go_sem] theorem xi_callv {x:Opd} {xs:List Opd}:sxI P D σ env h τ k (.callv x xs)=fnX P σ D τ (xs.map (·.ev env)) k (x.ev env):=(rfl)
@[go_sem] theorem fnX_fn {f:Nat} {caps:List (Nat×Nat)} {args:List GV}:fnX P σ D τ args k (.fn f caps)=callX P σ D τ f (args++caps.map fun c=>.ptr c.1 c.2) k:=(rfl)
@[go_sem] theorem xi_chk {d' n t:Nat} {g:Bool}:sxI P D σ env h τ k (.chk d' (.ld g n (.t t)))=(ldX σ h τ g n (env t)=some (env d')∧k (.tup []) h τ):=(rfl)
@[go_sem] theorem allocX_def {z:Nat} {cs:List GV} {v:Nat→GV}:allocX σ h z cs v k=∀ n,frX σ h n→∀ τ',Hx σ τ' (.box z n cs::h)→k (v n) (.box z n cs::h) τ':=(rfl)
@[go_sem] theorem frX_nil {n:Nat}:frX σ [] n=(σ.length≤n):=(rfl)
@[go_sem] theorem frX_box {z m n:Nat} {cs:List GV}:frX σ (.box z m cs::h) n=(m<n∧frX σ h n):=(rfl)
@[go_sem] theorem frX_th {n:Nat} {q:Thg}:frX σ (.th q::h) n=frX σ h n:=(rfl)
@[go_sem] theorem look_eq {z n:Nat} {cs:List GV}:look (.box z n cs::h) n=some cs:=by simp[look]
@[go_sem low] theorem look_ne {z m n:Nat} {cs:List GV} (hn:m≠n):look (.box z m cs::h) n=look h n:=by simp[look,hn]
@[go_sem] theorem look_th {n:Nat} {q:Thg}:look (.th q::h) n=look h n:=(rfl)
@[go_sem] theorem upd_eq {z n:Nat} {cs ds:List GV}:upd (.box z n cs::h) n ds= .box z n ds::h:=by simp[upd]
@[go_sem low] theorem upd_ne {z m n:Nat} {cs ds:List GV} (hn:m≠n):upd (.box z m cs::h) n ds= .box z m cs::upd h n ds:=by simp[upd,hn]
@[go_sem] theorem upd_th {n:Nat} {q:Thg} {ds:List GV}:upd (.th q::h) n ds= .th q::upd h n ds:=(rfl)
@[go_sem] theorem ldX_ptr {g:Bool} {n b off:Nat} (hb:σ.length≤b):ldX σ h τ g n (.ptr b off)=ldB (look h b) g n off (ldG g n τ (.ptr b off)):=by
 have:ldG g n σ (.ptr b off)=none:=by
  simp only[ldG,rdB]
  rw[List.getElem?_eq_none hb];rfl
 simp only[ldX,this,orX,ldY]
@[go_sem] theorem ldX_at {g:Bool} {n z i:Nat} {v:GV}:ldX σ h τ g n (atz z v i)=orX (ldG g n σ (atz z v i)) (ldY h τ g n (atz z v i)):=(rfl)
@[go_sem] theorem ldX_fld {g:Bool} {n z i m:Nat} {v:GV}:ldX σ h τ g n (fld m (atz z v i))=orX (ldG g n σ (fld m (atz z v i))) (ldY h τ g n (fld m (atz z v i))):=(rfl)
@[go_sem] theorem orX_some {x:GV} {b:Option GV}:orX (some x) b=some x:=(rfl)
@[go_sem] theorem orX_none {b:Option GV}:orX none b=b:=(rfl)
@[go_sem] theorem ldB_some {cs:List GV} {g:Bool} {n off:Nat} {e:Option GV}:ldB (some cs) g n off e=(seg cs off n).bind (mkv g):=(rfl)
@[go_sem] theorem cells_i {kd:IntKind} {n:Int}:(GV.int kd n).cells=[.int kd n]:=(rfl)
@[go_sem] theorem cells_s {s:ByteArray}:(GV.str s).cells=[.str s]:=(rfl)
@[go_sem] theorem cells_b {b:Bool}:(GV.bool b).cells=[.bool b]:=(rfl)
@[go_sem] theorem cells_p {n o:Nat}:(GV.ptr n o).cells=[.ptr n o]:=(rfl)
@[go_sem] theorem cells_l {n o l:Nat}:(GV.sl n o l).cells=[.sl n o l]:=(rfl)
@[go_sem] theorem cells_a {cs:List GV}:(GV.agg cs).cells=cs:=(rfl)
@[go_sem] theorem cells_n:(GV.nilS).cells=[.nilS]:=(rfl)
@[go_sem] theorem cells_m {n:Nat}:(GV.mp n).cells=[.mp n]:=(rfl)
@[go_sem] theorem cells_f {f:Nat} {c:List (Nat×Nat)}:(GV.fn f c).cells=[.fn f c]:=(rfl)
@[go_sem] theorem notTup_p {n o:Nat}:notTup (.ptr n o)=true:=(rfl)
@[go_sem] theorem notTup_m {n:Nat}:notTup (.mp n)=true:=(rfl)
@[go_sem] theorem notTup_f {f:Nat} {c:List (Nat×Nat)}:notTup (.fn f c)=true:=(rfl)
@[go_sem] theorem xc_skip:sxc P σ .skip Q env h τ=Q .nxt env h τ:=(rfl)
@[go_sem] theorem xc_reg {os:List Op1}:sxc P σ (.reg os) Q env h τ=sx P false σ os (Q .nxt) env h τ:=(rfl)
@[go_sem] theorem xc_drw {a1 bs:List Op1}:sxc P σ (.drw a1 bs) Q env h τ=sx P true σ a1 (sx P false σ bs (Q .nxt)) env h τ:=(rfl)
@[go_sem] theorem xc_seq {a b:Cd}:sxc P σ (.seq a b) Q env h τ=sxc P σ a (fun e=>match e with
  | .nxt=>sxc P σ b Q
  |e=>Q e) env h τ:=(rfl)
@[go_sem] theorem xc_cnd {c:Opd} {a b:Cd}:sxc P σ (.cnd c a b) Q env h τ=ifS P σ a b Q env h τ (c.ev env).bit:=by
 show ifX _ _ _=_
 cases(c.ev env).bit<;>rfl
@[go_sem] theorem xc_blk {id:Nat} {a:Cd}:sxc P σ (.blk id a) Q env h τ=sxc P σ a (fun e=>match e with
  | .ext j=>if j=id then Q .nxt else Q (.ext j)
  |e=>Q e) env h τ:=(rfl)
@[go_sem] theorem xc_ext {id:Nat}:sxc P σ (.ext id) Q env h τ=Q (.ext id) env h τ:=(rfl)
@[go_sem] theorem xc_ret:sxc P σ .ret Q env h τ=Q .ret env h τ:=(rfl)
@[go_sem] theorem rsX_t {n:Nat}:rsX σ h τ env (.t n)=some (env n):=(rfl)
@[go_sem] theorem rsX_c {a n:Nat} {g:Bool}:rsX σ h τ env (.c a g n)=ldX σ h τ g n (env a):=(rfl)
@[go_sem] theorem resX_1 {x:Rs}:resX σ h τ env [x]=rsX σ h τ env x:=(rfl)
@[go_sem] theorem resX_0:resX σ h τ env []=some (.tup []):=(rfl)
@[go_sem] theorem resX_2 {x y:Rs}:resX σ h τ env [x,y]=tup2 (rsX σ h τ env x) (rsX σ h τ env y):=by
 simp only[resX,optAll,tup2]
 cases rsX σ h τ env x with
 |none=>rfl
 |some u=>cases rsX σ h τ env y<;>simp
@[go_sem] theorem resX_3 {x y z:Rs}:resX σ h τ env [x,y,z]=tup3 (rsX σ h τ env x) (rsX σ h τ env y) (rsX σ h τ env z):=by
 simp only[resX,optAll,tup3]
 cases rsX σ h τ env x with
 |none=>rfl
 |some u=>cases rsX σ h τ env y with
  |none=>rfl
  |some v=>cases rsX σ h τ env z<;>simp
end words
end Go.Proofs.YtffnefmklckngaaGreat.Sy
namespace Go.Proofs.YtffnefmklckngaaGreat.Sy
open Go Go.RowKit
set_option linter.unusedSimpArgs false
set_option linter.unusedVariables false
theorem sat_feet {τ:St}:∀ {rs:List Thg} {fp:List Nat},sat τ rs fp→fp.Nodup→∃ F:Nat→List Nat,(∀ (i:Nat) (r:Thg),rs[i]? =some r→r.P τ (F i))∧(∀ i,(F i).Nodup)∧(∀ i j,i≠j→∀ g∈F i,g∉F j)∧∀ i,∀ g∈F i,g∈fp
 |[],fp,h,hn=>⟨fun _=>[],by simp,by simp,by simp,by simp⟩
 |r::rs,_,⟨a,b,hr,hs,rfl⟩,hn=>by
  rw[List.nodup_append] at hn
  obtain⟨F,h1,h2,h3,h4⟩:=sat_feet hs hn.2.1
  refine⟨fun i=>match i with|0=>a|i+1=>F i,?_,?_,?_,?_⟩
  ·intro i s hi
   cases i with
   |zero=>simp at hi;subst hi;exact hr
   |succ i=>exact h1 i s (by simpa using hi)
  ·intro i;cases i with
   |zero=>exact hn.1
   |succ i=>exact h2 i
  ·intro i j hij g hg
   cases i with
   |zero=>cases j with
    |zero=>exact absurd rfl hij
    |succ j=>exact fun h=>hn.2.2 g hg g (h4 j g h) rfl
   |succ i=>cases j with
    |zero=>exact fun h=>hn.2.2 g h g (h4 i g hg) rfl
    |succ j=>exact h3 i j (by omega) g hg
  ·intro i g hg
   cases i with
   |zero=>exact List.mem_append_left _ hg
   |succ i=>exact List.mem_append_right _ (h4 i g hg)
theorem sat_sel {τ:St} {rs:List Thg} {F:Nat→List Nat} (h1:∀(i:Nat) (r:Thg),rs[i]? =some r→r.P τ (F i)) (h2:∀ i,(F i).Nodup) (h3:∀ i j,i≠j→∀ g∈F i,g∉F j):∀ {is:List Nat},is.Nodup→∃ fp,sat τ (is.filterMap (rs[·]?)) fp∧fp.Nodup∧∀ g∈fp,∃ i∈is,g∈F i
 |[],_=>⟨[],rfl,by simp,by simp⟩
 |i::is,hn=>by
  rw[List.nodup_cons] at hn
  obtain⟨fp,k1,k2,k3⟩:=sat_sel h1 h2 h3 hn.2
  cases hi:rs[i]? with
  |none=>exact⟨fp,by rw[List.filterMap_cons,hi];exact k1,k2,fun g hg=>by obtain⟨j,hj,h⟩:=k3 g hg;exact⟨j,List.mem_cons_of_mem _ hj,h⟩⟩
  |some r=>
   refine⟨F i++fp,by rw[List.filterMap_cons,hi];exact⟨F i,fp,h1 i r hi,k1,rfl⟩,List.nodup_append.2 ⟨h2 i,k2,fun x hx y hy e=> ?_⟩,fun g hg=> ?_⟩
   ·subst e
    obtain⟨j,hj,h⟩:=k3 x hy
    exact h3 i j (fun e=>hn.1 (by rw[e];exact hj)) x hx h
   ·rcases List.mem_append.1 hg with hg|hg
    ·exact⟨i,List.mem_cons_self,hg⟩
    ·obtain⟨j,hj,h⟩:=k3 g hg;exact⟨j,List.mem_cons_of_mem _ hj,h⟩
theorem Hp.sel {σ τ:St} {rs:List Thg} (H:Hp σ τ rs) (is:List Nat) (hn:is.Nodup):Hp σ τ (is.filterMap (rs[·]?)):=by
 obtain⟨h,fp,hs,hnd,hb⟩:=H
 obtain⟨F,h1,h2,h3,h4⟩:=sat_feet hs hnd
 obtain⟨fp',k1,k2,k3⟩:=sat_sel h1 h2 h3 hn
 exact⟨h,fp',k1,k2,fun g hg=>by obtain⟨i,_,hi⟩:=k3 g hg;exact hb g (h4 i g hi)⟩
theorem Hx.sel {σ τ:St} {h:List Item} (H:Hx σ τ h) (is:List Nat) (hn:is.Nodup):Hp σ τ (is.filterMap ((h.map Item.t)[·]?)):=Hp.sel H is hn
theorem Hx.re {σ τ:St} {h:List Item} (H:Hx σ τ h) (is:List Nat) (hn:is.Nodup):Hx σ τ (is.filterMap (h[·]?)):=by
 have e:(is.filterMap (h[·]?)).map Item.t=is.filterMap ((h.map Item.t)[·]?):=by
  induction is with
  |nil=>rfl
  |cons i is ih=>
   have ih:=ih (List.nodup_cons.1 hn).2
   rw[List.filterMap_cons,List.filterMap_cons,List.getElem?_map]
   cases h[i]? with
   |none=>exact ih
   |some x=>simp only[Option.map_some,List.map_cons,ih]
 unfold Hx
 rw[e]
 exact H.sel is hn
section os
variable {α:Type} {d:Kd α} {σ τ:St} {l:List α} {v:GV} {fp:List Nat}
theorem OS.appc {by8:Nat} {x:α} {cs:List GV} {fx:List Nat} (h:OS d τ l v fp) (hx:d.O τ x cs fx) (hn:(fp++fx).Nodup) (hlt:∀ g∈fp++fx,g<τ.length) (hz:0<d.z) (hb:(l.length+1)*by8≤140737488355328):
  ∃ v' τ' fp',appG d.z by8 τ v 1 cs=some (v',τ')∧OS d τ' (l++[x]) v' fp'∧Turn τ τ' (fp++fx) fp':=by
 have hcl:=d.len (d.rd hx)
 rcases h with⟨rfl,rfl,rfl⟩|⟨g,pre,css,post,fps,rfl,hB,hA,rfl⟩
 ·have hb':1*by8≤140737488355328:=by simpa using hb
  refine⟨.sl τ.length 0 1,τ++[some (.row d.z cs)],τ.length::fx,?_,?_,?_⟩
  ·simp only[appG]
   rw[if_neg (by omega),if_pos hb']
  ·refine .inr ⟨τ.length,[],[cs],[],[fx],rfl,?_,.cons (d.loc hx fun g hg=> ?_) .nil,by simp⟩
   ·rw[bk_app_at];simp
   ·rw[bk_app_lt (hlt g (by simpa using hg))]
  ·refine⟨?_,?_,by simp,fun g hg _=>by rw[bk_app_lt hg]⟩
   ·rw[List.nodup_cons]
    exact⟨fun h=>by have:=hlt τ.length (by simpa using h);omega,by simpa using hn⟩
   ·intro g hg
    rcases List.mem_cons.1 hg with rfl|hg
    ·right;simp
    ·left;simpa using hg
 ·rw[List.cons_append,List.nodup_cons] at hn
  have hgt:g<τ.length:=hlt g (by simp)
  have hfl:=flat_len hA
  have e:((pre++css.flatten++post).drop pre.length).take (l.length*d.z)=css.flatten:=by
   rw[List.append_assoc,List.drop_append,List.drop_eq_nil_of_le (Nat.le_refl _),List.nil_append,Nat.sub_self,List.drop_zero,List.take_append_of_le_length (by omega),List.take_of_length_le (by omega)]
  have c1:pre.length+l.length*d.z≤(pre++css.flatten++post).length:=by simp only[List.length_append];omega
  obtain⟨σ1,e1,hs⟩:=appG_sl (bytes:=by8) (n:=1) (new:=cs) (bk_some.1 hB) (by omega) c1 hb
  have hsl:σ1.length=τ.length:=by rcases hs with rfl|rfl<;>simp
  have hbk:∀ g',g≠g'→bk σ1 g'=bk τ g':=fun g' hne=>by
   rcases hs with rfl|rfl
   ·rfl
   ·exact bk_set_ne hne
  rw[e] at e1
  refine⟨.sl τ.length 0 (l.length+1),σ1++[some (.row d.z (css.flatten++cs))],τ.length::(fps.flatten++fx),e1,?_,?_⟩
  ·have keep:∀ g'∈fps.flatten++fx,bk (σ1++[some (.row d.z (css.flatten++cs))]) g'=bk τ g':=fun g' hg'=>by
    have h1:g'<τ.length:=hlt g' (by simp only[List.cons_append];exact List.mem_cons_of_mem _ hg')
    have h2:g≠g':=fun e=>hn.1 (by rw[e];exact hg')
    rw[bk_app_lt (by rw[hsl];omega),hbk g' h2]
   refine .inr ⟨τ.length,[],css++[cs],[],fps++[fx],by simp,?_,(hA.imp fun a b c hc ho=>d.loc ho fun g' hg'=>keep g' (List.mem_append_left _ (List.mem_flatten.2 ⟨c,hc,hg'⟩))).append (.cons (d.loc hx fun g' hg'=>keep g' (List.mem_append_right _ hg')) .nil),by simp⟩
   rw[← hsl,bk_app_at];simp
  ·refine⟨?_,?_,by simp[hsl],fun g' hg' hne=> ?_⟩
   ·rw[List.nodup_cons]
    exact⟨fun h=>by have:=hlt τ.length (by simp only[List.cons_append];exact List.mem_cons_of_mem _ h);omega,hn.2⟩
   ·intro g' hg'
    rcases List.mem_cons.1 hg' with rfl|hg'
    ·right;simp[hsl]
    ·left;simp only[List.cons_append];exact List.mem_cons_of_mem _ hg'
   ·have h2:g≠g':=fun e=>hne (by rw[e];simp)
    rw[bk_app_lt (by rw[hsl];exact hg'),hbk g' h2]
end os
theorem Hp.appc {α:Type} {d:Kd α} {σ τ:St} {rs:List Thg} {v:GV} {l:List α} {by8:Nat} {x:α} {cs:List GV} (H:Hp σ τ (own d cs x::rs)) (i:Nat) (hi:rs[i]? =some (ow d v l)) (hz:0<d.z) (hb:(l.length+1)*by8≤140737488355328):
  ∃ v' τ',appG d.z by8 τ v 1 cs=some (v',τ')∧Hp σ τ' (rs.set i (ow d v' (l++[x]))):=by
 have hp:(own d cs x::rs).Perm (ow d v l::own d cs x::rs.eraseIdx i):=((pick_perm hi).cons _).trans (List.Perm.swap _ _ _)
 obtain⟨a,⟨a1,a2,h1,h2,rfl⟩,hn,hbd,ht⟩:=(H.perm hp).join.turn
 obtain⟨v',τ',fp',e,ho,hT⟩:=OS.appc (by8:=by8) (x:=x) (cs:=cs) (fx:=a2) h1 h2 hn (fun g hg=>(hbd g hg).2) hz hb
 exact⟨v',τ',e,unpick (ht hT ho) (List.getElem?_eq_some_iff.1 hi).1⟩
section rules
variable {P:Program} {D:Bool} {σ τ τ':St} {env:Env} {h:List Item} {k:Kx} {f:Nat} {args:List GV} {v:GV} {α:Type}
theorem map_th {rs:List Thg} {h:List Item}:(rs.map Item.th++h).map Item.t=rs++h.map Item.t:=by
 rw[List.map_append,List.map_map]
 congr 1
 exact List.map_id _
theorem by_cs {rs:List Thg} (H:Hx σ τ h) (R:Ret P f args τ v τ') (K:Hp τ τ' rs) (kk:Hx σ τ' (rs.map Item.th++h)→k v (rs.map Item.th++h) τ'):callX P σ D τ f args k:=by
 have H':Hx σ τ' (rs.map Item.th++h):=by unfold Hx;rw[map_th];exact H.hp.add K
 exact⟨v,τ',_,R,fun _=>K.sub,H',kk H'⟩
theorem by_c {r:Thg} (H:Hx σ τ h) (R:Ret P f args τ v τ') (K:Hp τ τ' [r]) (kk:Hx σ τ' (.th r::h)→k v (.th r::h) τ'):callX P σ D τ f args k:=by_cs H R K kk
theorem by_r (H:Hx σ τ h) (R:Ret P f args τ v τ) (kk:k v h τ):callX P σ D τ f args k:=⟨v,τ,h,R,fun _=>List.prefix_refl _,H,kk⟩
theorem by_b {b:Bool} (H:Hx σ τ h) (R:Ret P f args τ (.bool b) τ) (h1:b=true→k (.bool true) h τ) (h2:b=false→k (.bool false) h τ):callX P σ D τ f args k:=by
 refine by_r H R ?_
 cases b with
 |true=>exact h1 rfl
 |false=>exact h2 rfl
theorem by_m {h':List Item} (R:Ret P f args τ v τ') (H:Hx σ τ' h') (kk:k v h' τ'):callX P σ false τ f args k:=⟨v,τ',h',R,(fun h=>by cases h),H,kk⟩
theorem set_t {h:List Item} {i:Nat} {r:Thg}:(h.set i (.th r)).map Item.t=(h.map Item.t).set i r:=List.map_set ..
theorem at_t {h:List Item} {i:Nat} {r:Thg} (hi:h[i]? =some (.th r)):(h.map Item.t)[i]? =some r:=by rw[List.getElem?_map,hi];rfl
theorem map_era:∀(h:List Item) (j:Nat),(h.map Item.t).eraseIdx j=(h.eraseIdx j).map Item.t
 |[],_=>rfl
 |x::h,0=>rfl
 |x::h,j+1=>by simp only[List.map_cons,List.eraseIdx_cons_succ,map_era h j]
theorem by_appc {d:Kd α} {b8 n:Nat} {l:List α} {x:α} {cs:List GV} (H:Hx σ τ h) (j i:Nat) (hj:h[j]? =some (.th (own d cs x))) (hi:(h.eraseIdx j)[i]? =some (.th (ow d v l))) (hl:look h n=some cs) (hz:0<d.z) (hb:(l.length+1)*b8≤140737488355328)
  (kk:∀ v' τ',Hx σ τ' ((h.eraseIdx j).set i (.th (ow d v' (l++[x]))))→k v' ((h.eraseIdx j).set i (.th (ow d v' (l++[x])))) τ'):genX σ false τ (appV d.z b8 τ v (.sl n 0 1)) k:=by
 obtain⟨z,m,h1,_⟩:=look_at hl
 have hB:=H.hp.pt m h1
 have hcl:cs.length=d.z:=d.len (H.hp.rd j (at_t hj))
 have H1:=H.hp.pick j (at_t hj)
 rw[map_era] at H1
 obtain⟨v',τ',e,H'⟩:=H1.appc (by8:=b8) i (at_t hi) hz hb
 rw[← set_t] at H'
 refine⟨v',τ',_,?_,(fun h=>by cases h),H',kk v' τ' H'⟩
 rw[← e]
 unfold appV
 have el:elems τ d.z (.sl n 0 1)=some (1,cs):=by
  simp only[elems,hB,Option.bind_some,seg]
  rw[if_pos (by omega)]
  simp
  exact List.take_of_length_le (by omega)
 simp only[el,Option.bind_some]
theorem by_cp {p:Pl α} {b8 n:Nat} {m:List α} {u:GV} (H:Hx σ τ (.box p.z n []::h)) (hu:RS p.kd τ u m) (hz:0<p.z) (hb:m.length*b8≤140737488355328)
  (kk:∀ v' τ',Hx σ τ' (.th (ow p.kd v' m)::h)→k v' (.th (ow p.kd v' m)::h) τ'):genX σ D τ (appV p.z b8 τ (.sl n 0 0) u) k:=by
 have hu':RdN p.en τ u m:=hu
 have ha:appV p.z b8 τ (.sl n 0 0) u=appG p.z b8 τ (.sl n 0 0) m.length (p.cells m):=by
  have he:=hu'.elems
  unfold appV
  rcases hu' with⟨rfl,rfl|rfl⟩|⟨g,off,cs,rfl,_⟩<;>simp only[he,Option.bind_some]
 rw[ha]
 by_cases hm:m.length=0
 ·have:m=[]:=List.eq_nil_of_length_eq_zero hm
  subst this
  have H1:Hx σ τ (.th (ow p.kd (.sl n 0 0) [])::h):=H.hp.toNil (d:=p.kd) 0 rfl rfl
  exact⟨.sl n 0 0,τ,_,by simp[appG,isSl],fun _=>List.prefix_refl _,H1,kk _ _ H1⟩
 ·obtain⟨a,ha,_⟩:=H.hp.see (i:=0) rfl
  have hB:=bk_some.1 ha.2
  have H1:Hx σ (τ++[some (.row p.z (p.cells m))]) (.th (ow p.kd (.sl τ.length 0 m.length) m)::h):=(H.hp.drop1.new p.z (p.cells m)).toRow 0 rfl m rfl rfl _ rfl
  refine⟨.sl τ.length 0 m.length,τ++[some (.row p.z (p.cells m))],_,?_,fun _=>pre1 _ _,H1,kk _ _ H1⟩
  simp only[appG,hB,if_neg hm]
  rw[if_pos ⟨trivial,trivial,trivial,trivial,hb⟩]
theorem genX_mono {e:Option (GV×St)} {k k':Kx} (hk:∀ v h τ,k v h τ→k' v h τ):genX σ D τ e k→genX σ D τ e k':=fun⟨v,τ',h',h1,h2,h3,h4⟩=>⟨v,τ',h',h1,h2,h3,hk _ _ _ h4⟩
theorem alloc_mono {z:Nat} {cs:List GV} {w:Nat→GV} {k k':Kx} (hk:∀ v h τ,k v h τ→k' v h τ) (e:allocX σ h z cs w k):allocX σ h z cs w k':=fun n hf τ' H=>hk _ _ _ (e n hf τ' H)
theorem sxI_mono {k k':Kx} (hk:∀ v h τ,k v h τ→k' v h τ):∀ {i:Ins},sxI P D σ env h τ k i→sxI P D σ env h τ k' i:=by
 have bm:∀ {v:Option GV},bindX v k h τ→bindX v k' h τ:=fun {v} e=>by
  cases v with
  |none=>exact e
  |some v=>exact hk _ _ _ e
 intro i e
 cases i with
 |new cs=>exact alloc_mono hk e
 |box x=>exact⟨e.1,alloc_mono hk e.2⟩
 |lit z len zero parts=>
  simp only[sxI] at e ⊢
  revert e
  cases fillG zero (parts.map fun p=>(p.1,p.2.1,p.2.2.ev env)) with
  |none=>exact id
  |some cs=>exact alloc_mono hk
 |mks z b ze n c=>
  simp only[sxI] at e ⊢
  revert e
  cases natOf (some (n.ev env)) with
  |none=>exact id
  |some n=>cases natOf (some (c.ev env)) with
   |none=>exact id
   |some c=>exact fun e=>⟨e.1,e.2.1,alloc_mono hk e.2.2⟩
 |st n a x=>
  simp only[sxI] at e ⊢
  revert e
  cases a.ev env with
  |ptr b off=>
   simp only[stX]
   unfold stB
   cases look h b with
   |none=>exact genX_mono hk
   |some cs=>exact fun e=>⟨e.1,fun τ' H=>hk _ _ _ (e.2 τ' H)⟩
  |_=>exact genX_mono hk
 |call f xs=>
  obtain⟨v,τ',h',h1,h2,h3,h4⟩:=e
  exact⟨v,τ',h',h1,h2,h3,hk _ _ _ h4⟩
 |callv x xs=>
  simp only[sxI] at e ⊢
  revert e
  cases x.ev env with
  |fn f caps=>exact fun⟨v,τ',h',h1,h2,h3,h4⟩=>⟨v,τ',h',h1,h2,h3,hk _ _ _ h4⟩
  |_=>exact id
 |chk d x=>
  cases x with
  |ld g n a=>cases a with
   |t t=>exact⟨e.1,hk _ _ _ e.2⟩
   |k v=>exact e
  |_=>exact e
 |app z b ze s x=>exact genX_mono hk e
 |clr z ze x=>exact genX_mono hk e
 |mkm=>exact genX_mono hk e
 |mup ks m k2 v=>exact genX_mono hk e
 |mov x=>exact hk _ _ _ e
 |pan=>exact e
 |_=>exact bm e
theorem sx_mono:∀ {os:List Op1} {K K':Env→List Item→St→Prop} {env:Env} {h:List Item} {τ:St},(∀ env h τ,K env h τ→K' env h τ)→sx P D σ os K env h τ→sx P D σ os K' env h τ
 |[],K,K',env,h,τ,hk,e=>hk _ _ _ e
 |o::r,K,K',env,h,τ,hk,e=>by
  simp only[sx] at e ⊢
  have y:sxI P D σ env h τ (fun v h' τ'=>sx P D σ r K (upo env o.d v) h' τ') o.i→sxI P D σ env h τ (fun v h' τ'=>sx P D σ r K' (upo env o.d v) h' τ') o.i:=sxI_mono fun v h τ=>sx_mono hk
  have n:sx P D σ r K (upo env o.d (.tup [])) h τ→sx P D σ r K' (upo env o.d (.tup [])) h τ:=sx_mono hk
  revert e
  cases o.g.map fun g=>((env g.1).bit,g.2) with
  |none=>exact y
  |some q=>
   obtain⟨c,b⟩:=q
   cases c with
   |none=>exact n
   |some c=>exact fun e=>⟨fun hc=>y (e.1 hc),fun hc=>n (e.2 hc)⟩
theorem sxc_mono {d:Cd}:∀ {Q Q':Qx} {env:Env} {h:List Item} {τ:St},(∀ e env h τ,Q e env h τ→Q' e env h τ)→sxc P σ d Q env h τ→sxc P σ d Q' env h τ:=by
 induction d with
 |skip=>intro Q Q' env h τ hq e;exact hq _ _ _ _ e
 |reg ops=>intro Q Q' env h τ hq e;exact sx_mono (hq _) e
 |drw a1 bs=>intro Q Q' env h τ hq e;exact sx_mono (fun _ _ _=>sx_mono (hq _)) e
 |seq a b iha ihb=>
  intro Q Q' env h τ hq e
  refine iha (fun e env h τ he=> ?_) e
  cases e with
  |nxt=>exact ihb hq he
  |ext j=>exact hq _ _ _ _ he
  |ret=>exact hq _ _ _ _ he
 |cnd c a b iha ihb=>
  intro Q Q' env h τ hq e
  simp only[sxc] at e ⊢
  unfold ifX at e ⊢
  split
  ·rename_i hc;rw[hc] at e;exact⟨fun k=>iha hq (e.1 k),fun k=>ihb hq (e.2 k)⟩
  ·rename_i hc;rw[hc] at e;exact e
 |blk id a ih=>
  intro Q Q' env h τ hq e
  refine ih (fun e env h τ he=> ?_) e
  cases e with
  |nxt=>exact hq _ _ _ _ he
  |ext j=>
   simp only at he ⊢
   split at he
   ·rename_i hj;rw[if_pos hj];exact hq _ _ _ _ he
   ·rename_i hj;rw[if_neg hj];exact hq _ _ _ _ he
  |ret=>exact hq _ _ _ _ he
 |lop a ih=>
  intro Q Q' env h τ hq e
  obtain⟨I,n,h0,H0,hI,hs⟩:=e
  refine⟨I,n,h0,H0,hI,fun k env h τ H hi=>ih (fun e env' h' τ' he=> ?_) (hs k env h τ H hi)⟩
  cases e with
  |nxt=>exact he
  |ext j=>obtain⟨h1,H1,he⟩:=he;exact⟨h1,H1,hq _ _ _ _ he⟩
  |ret=>obtain⟨h1,H1,he⟩:=he;exact⟨h1,H1,hq _ _ _ _ he⟩
 |ext id=>intro Q Q' env h τ hq e;exact hq _ _ _ _ e
 |ret=>intro Q Q' env h τ hq e;exact hq _ _ _ _ e
variable {a b:Cd} {Q:Qx}
theorem sx_lop (n j0:Nat) (I:Nat→Env→List Item→Prop) (X Z:Env→List Item→Prop) (h0:List Item) (H0:Hx σ τ h0) (hI:I n env h0)
  (hs:∀(J:Nat→Env→St→Prop) (Y W:Env→St→Prop),(∀ i env h τ,Hx σ τ h→I i env h→J i env τ)→(∀ env h τ,Hx σ τ h→X env h→Y env τ)→(∀ env h τ,Hx σ τ h→Z env h→W env τ)→∀ i env h τ,Hx σ τ h→I i env h→sxc P σ a (fun e env' h' τ'=>match e with
   | .nxt=>∃ i',i'<i∧J i' env' τ'
   | .ext j=>j=j0∧Y env' τ'
   | .ret=>W env' τ') env h τ)
  (hx:∀ env h τ,Hx σ τ h→X env h→Q (.ext j0) env h τ) (hz:∀ env h τ,Hx σ τ h→Z env h→Q .ret env h τ):sxc P σ (.lop a) Q env h τ:=by
 refine⟨fun i env h τ=>I i env h,n,h0,H0,hI,fun i env h τ H hi=>sxc_mono (fun e env' h' τ' he=> ?_) (hs (fun i env τ=>∃ h,Hx σ τ h∧I i env h) (fun env τ=>∃ h,Hx σ τ h∧X env h) (fun env τ=>∃ h,Hx σ τ h∧Z env h) (fun _ _ h _ H e=>⟨h,H,e⟩) (fun _ h _ H e=>⟨h,H,e⟩) (fun _ h _ H e=>⟨h,H,e⟩) i env h τ H hi)⟩
 cases e with
 |nxt=>obtain⟨i',h1,h2,h3,h4⟩:=he;exact⟨i',h2,h1,h3,h4⟩
 |ext j=>obtain⟨rfl,h2,h3,h4⟩:=he;exact⟨h2,h3,hx _ _ _ h3 h4⟩
 |ret=>obtain⟨h2,h3,h4⟩:=he;exact⟨h2,h3,hz _ _ _ h3 h4⟩
theorem sx_for (n ri j0:Nat) (I:Nat→Env→List Item→Prop) (X Z:Env→List Item→Prop) (h0:List Item) (H0:Hx σ τ h0) (hr:env ri=gi 0) (hI:I 0 env h0)
  (hs:∀(J:Nat→Env→St→Prop) (Y W:Env→St→Prop),(∀ i env h τ,Hx σ τ h→I i env h→J i env τ)→(∀ env h τ,Hx σ τ h→X env h→Y env τ)→(∀ env h τ,Hx σ τ h→Z env h→W env τ)→∀ i env h τ,i<n→env ri=gi i→decide ((i:Int)<n)=true→Hx σ τ h→I i env h→sxc P σ a (fun e env' h' τ'=>match e with
   | .nxt=>env' ri=gi ((i:Int)+1)∧J (i+1) env' τ'
   | .ext j=>j=j0∧Y env' τ'
   | .ret=>W env' τ') env h τ)
  (he:∀(Y:Env→St→Prop),(∀ env h τ,Hx σ τ h→X env h→Y env τ)→∀ env h τ,env ri=gi n→decide ((n:Int)<n)=false→Hx σ τ h→I n env h→sxc P σ a (fun e env' h' τ'=>match e with
   | .nxt=>False
   | .ext j=>j=j0∧Y env' τ'
   | .ret=>False) env h τ)
  (hx:∀ env h τ,Hx σ τ h→X env h→Q (.ext j0) env h τ) (hz:∀ env h τ,Hx σ τ h→Z env h→Q .ret env h τ):sxc P σ (.lop a) Q env h τ:=by
 refine sx_lop n j0 (fun k env h=>∃ i:Nat,k=n - i∧i≤n∧env ri=gi i∧I i env h) X Z h0 H0 ⟨0,rfl,Nat.zero_le _,hr,hI⟩ (fun J Y W hJ hY hW k env h τ H hi=> ?_) hx hz
 obtain⟨i,rfl,h1,h2,h3⟩:=hi
 rcases Nat.lt_or_ge i n with hlt|hge
 ·refine sxc_mono (fun e env' h' τ' q=> ?_) (hs (fun i' env τ=>i'≤n→env ri=gi i'→J (n - i') env τ) Y W (fun j env h τ H e hj hr=>hJ _ env h τ H ⟨j,rfl,hj,hr,e⟩) hY hW i env h τ hlt h2 (by simp;omega) H h3)
  cases e with
  |nxt=>exact⟨n - (i+1),by omega,q.2 (by omega) q.1⟩
  |ext j=>exact q
  |ret=>exact q
 ·obtain rfl:i=n:=by omega
  refine sxc_mono (fun e env' h' τ' q=> ?_) (he Y hY env h τ h2 (by simp) H h3)
  cases e with
  |nxt=>exact q.elim
  |ext j=>exact q
  |ret=>exact q.elim
theorem ret_xe {F:Fn1} {r:GV} (hF:compFn P f=some F) (hl:args.length≤F.n) (hr:vLt σ.length r)
  (hc:sxc P σ F.c (fun e env h τ=>Hx σ τ h→isOut e=true∧resX σ h τ env F.rs=some r) (env0 args) [] σ):Ret P f args σ r σ:=
 ret_eq hF hl hr (vc_mono (sxc_sound (Hx.refl σ) hc) fun e env τ he=>by
  obtain⟨_,h,H,hq⟩:=he
  exact⟨(hq H).1,resX_sound H (hq H).2,H.sub⟩)
end rules
end Go.Proofs.YtffnefmklckngaaGreat.Sy
namespace Go.Proofs.YtffnefmklckngaaGreat.Sy
open Go Go.RowKit
set_option linter.unusedSimpArgs false
set_option linter.unusedVariables false
set_option maxRecDepth 4000
abbrev n_i_DeltaOk:Nat:=109
def F_i_DeltaOk:Fn1:=⟨103,[.t 2],(.seq (.reg [o 1 (.box (.t 0)),o 2 (.mov (.k (.bool false)))]) (.seq (.seq (.reg [o 9 (.fad 0 (.t 1)),o 10 (.ld false 1 (.t 9)),o 11 (.fad 1 (.t 1)),o 12 (.ld false 1 (.t 11)),o 13 (.call 151 [(.t 10),(.t 12)]),o 14 (.un .not (.t 13)),o 15 (.mov (.t 14)),og 16 15 false (.fad 2 (.t 1)),og 17 15 false (.ld false 1 (.t 16)),og 18 15 false (.call 171 [(.t 17)]),og 19 15 false (.un .not (.t 18)),o 20 (.pick (.t 15) (.k (.bool true)) (.t 19)),o 21 (.mov (.t 20)),og 22 21 false (.fad 3 (.t 1)),og 23 21 false (.ld false 1 (.t 22)),og 24 21 false (.fad 1 (.t 1)),og 25 21 false (.ld false 1 (.t 24)),og 26 21 false (.call 172 [(.t 23),(.t 25)]),og 27 21 false (.un .not (.t 26)),o 28 (.pick (.t 21) (.k (.bool true)) (.t 27)),o 29 (.mov (.t 28)),og 30 29 false (.fad 5 (.t 1)),og 31 29 false (.ld false 1 (.t 30)),og 32 29 false (.fad 1 (.t 1)),og 33 29 false (.ld false 1 (.t 32)),og 34 29 false (.call 173 [(.t 31),(.t 33)]),og 35 29 false (.un .not (.t 34)),o 36 (.pick (.t 29) (.k (.bool true)) (.t 35)),o 37 (.mov (.t 36)),og 38 37 false (.fad 4 (.t 1)),og 39 37 false (.ld false 1 (.t 38)),og 40 37 false (.len false (.t 39)),og 41 37 false (.bin .gtr (.t 40) (.k (.int .i64 120))),o 42 (.pick (.t 37) (.k (.bool true)) (.t 41))]) (.cnd (.t 42) (.seq (.reg [o 2 (.mov (.k (.bool false)))]) .ret) .skip)) (.seq (.seq (.reg [o 43 (.fad 3 (.t 1)),o 44 (.ld false 1 (.t 43)),o 45 (.len false (.t 44)),o 46 (.mov (.k (.int .i64 0)))]) (.blk 0 (.lop (.seq (.reg [o 47 (.bin .lss (.t 46) (.t 45))]) (.seq (.cnd (.t 47) .skip (.ext 0)) (.seq (.blk 1 (.seq (.reg [o 48 (.iad 6 (.t 44) (.t 46)),o 49 (.ld true 6 (.t 48)),o 4 (.new [(.bool false),(.str ⟨#[]⟩),(.str ⟨#[]⟩),(.int .i64 0),(.int .i64 0),(.int .i64 0)]),on (.st 6 (.t 4) (.t 49))]) (.seq (.reg [o 50 (.fad 0 (.t 1)),o 51 (.ld false 1 (.t 50)),o 52 (.fad 4 (.t 4)),o 53 (.ld true 2 (.t 52)),o 54 (.call 150 [(.t 51),(.t 53)])]) (.cnd (.t 54) (.seq (.reg [o 2 (.mov (.k (.bool false)))]) .ret) .skip)))) (.reg [o 55 (.bin .add (.t 46) (.k (.int .i64 1))),o 46 (.mov (.t 55))]))))))) (.seq (.seq (.reg [o 56 (.fad 4 (.t 1)),o 57 (.ld false 1 (.t 56)),o 58 (.len false (.t 57)),o 59 (.mov (.k (.int .i64 0)))]) (.blk 2 (.lop (.seq (.reg [o 60 (.bin .lss (.t 59) (.t 58))]) (.seq (.cnd (.t 60) .skip (.ext 2)) (.seq (.blk 3 (.seq (.reg [o 61 (.mov (.t 59)),o 62 (.iad 2 (.t 57) (.t 59)),o 63 (.ld true 2 (.t 62)),o 6 (.new [(.int .i64 0),(.int .i64 0)]),o 5 (.mov (.t 61)),on (.st 2 (.t 6) (.t 63))]) (.seq (.drw [o 64 (.fad 0 (.t 1)),o 65 (.ld false 1 (.t 64)),o 66 (.ld true 2 (.t 6)),o 67 (.call 150 [(.t 65),(.t 66)]),o 68 (.un .not (.t 67)),o 69 (.mov (.t 68)),og 70 69 false (.mov (.t 5)),og 71 69 false (.bin .gtr (.t 70) (.k (.int .i64 0))),og 72 69 false (.mov (.t 71)),og 73 72 true (.fad 4 (.t 1)),og 74 72 true (.ld false 1 (.t 73)),og 75 72 true (.mov (.t 5)),og 76 72 true (.bin .sub (.t 75) (.k (.int .i64 1))),og 77 72 true (.iad 2 (.t 74) (.t 76)),og 78 72 true (.ld true 2 (.t 77)),og 79 72 true (.ld true 2 (.t 6))] [og 80 72 true (.call 174 [(.t 78),(.t 79)]),og 81 72 true (.bin .geq (.t 80) (.k (.int .i64 0))),og 82 69 false (.pick (.t 72) (.t 81) (.k (.bool false))),o 83 (.pick (.t 69) (.k (.bool true)) (.t 82))]) (.cnd (.t 83) (.seq (.reg [o 2 (.mov (.k (.bool false)))]) .ret) .skip)))) (.reg [o 84 (.bin .add (.t 59) (.k (.int .i64 1))),o 59 (.mov (.t 84))]))))))) (.seq (.seq (.reg [o 85 (.fad 5 (.t 1)),o 86 (.ld false 1 (.t 85)),o 87 (.len false (.t 86)),o 88 (.mov (.k (.int .i64 0)))]) (.blk 4 (.lop (.seq (.reg [o 89 (.bin .lss (.t 88) (.t 87))]) (.seq (.cnd (.t 89) .skip (.ext 4)) (.seq (.blk 5 (.seq (.reg [o 90 (.iad 8 (.t 86) (.t 88)),o 91 (.ld true 8 (.t 90)),o 8 (.new [(.str ⟨#[]⟩),(.int .i64 0),(.int .i64 0),(.int .i64 0),(.int .i64 0),(.int .i64 0),(.int .i64 0),(.bool false)]),on (.st 8 (.t 8) (.t 91))]) (.seq (.reg [o 92 (.fad 4 (.t 8)),o 93 (.ld true 2 (.t 92)),o 94 (.build [(.int .i64 0),(.int .i64 0)] []),o 95 (.eqs true [.i .i64,.i .i64] (.t 93) (.t 94)),o 96 (.mov (.t 95)),og 97 96 true (.fad 4 (.t 8)),og 98 96 true (.ld true 2 (.t 97)),og 99 96 true (.call 175 [(.t 98)]),og 100 96 true (.un .not (.t 99)),o 101 (.pick (.t 96) (.t 100) (.k (.bool false)))]) (.cnd (.t 101) (.seq (.reg [o 2 (.mov (.k (.bool false)))]) .ret) .skip)))) (.reg [o 102 (.bin .add (.t 88) (.k (.int .i64 1))),o 88 (.mov (.t 102))]))))))) (.seq (.reg [o 2 (.mov (.k (.bool true)))]) .ret))))))⟩
theorem ir_i_DeltaOk:compFn Tryz.prog n_i_DeltaOk=some F_i_DeltaOk:=by kernel_rfl
abbrev n_s_l11Dots:Nat:=166
def F_s_l11Dots:Fn1:=⟨36,[.t 2],(.seq (.reg [o 2 (.mov (.k (.bool false)))]) (.seq (.seq (.reg [o 3 (.mov (.k (.int .i64 0)))]) (.blk 0 (.lop (.seq (.seq (.reg [o 4 (.mov (.t 3)),o 5 (.mov (.t 0)),o 6 (.len false (.t 5)),o 7 (.bin .lss (.t 4) (.t 6))]) (.cnd (.t 7) .skip (.ext 0))) (.seq (.blk 1 (.seq (.drw [o 10 (.mov (.t 0)),o 11 (.mov (.t 3)),o 12 (.iad 2 (.t 10) (.t 11)),o 13 (.ld true 2 (.t 12)),o 14 (.call 141 [(.t 13)]),o 15 (.un .not (.t 14)),o 16 (.mov (.t 15)),og 17 16 false (.mov (.t 3)),og 18 16 false (.bin .gtr (.t 17) (.k (.int .i64 0))),og 19 16 false (.mov (.t 18)),og 20 19 true (.mov (.t 0)),og 21 19 true (.mov (.t 3)),og 22 19 true (.bin .sub (.t 21) (.k (.int .i64 1))),og 23 19 true (.iad 2 (.t 20) (.t 22)),og 24 19 true (.ld true 2 (.t 23)),og 25 19 true (.mov (.t 0)),og 26 19 true (.mov (.t 3)),og 27 19 true (.iad 2 (.t 25) (.t 26)),og 28 19 true (.ld true 2 (.t 27))] [og 29 19 true (.call 211 [(.t 24),(.t 28)]),og 30 19 true (.un .not (.t 29)),og 31 16 false (.pick (.t 19) (.t 30) (.k (.bool false))),o 32 (.pick (.t 16) (.k (.bool true)) (.t 31))]) (.cnd (.t 32) (.seq (.reg [o 2 (.mov (.k (.bool false)))]) .ret) .skip))) (.reg [o 8 (.mov (.t 3)),o 9 (.bin .add (.t 8) (.k (.int .i64 1))),o 3 (.mov (.t 9))])))))) (.seq (.reg [o 33 (.mov (.t 0)),o 34 (.len false (.t 33)),o 35 (.bin .leq (.t 34) (.k (.int .i64 120))),o 2 (.mov (.t 35))]) .ret)))⟩
theorem ir_s_l11Dots:compFn Tryz.prog n_s_l11Dots=some F_s_l11Dots:=by kernel_rfl
abbrev n_s_DeltaOk:Nat:=103
def F_s_DeltaOk:Fn1:=⟨97,[.t 2],(.seq (.reg [o 1 (.box (.t 0)),o 2 (.mov (.k (.bool false)))]) (.seq (.seq (.reg [o 6 (.fad 0 (.t 1)),o 7 (.ld false 1 (.t 6)),o 8 (.fad 1 (.t 1)),o 9 (.ld false 1 (.t 8)),o 10 (.call 143 [(.t 7),(.t 9)]),o 11 (.un .not (.t 10)),o 12 (.mov (.t 11)),og 13 12 false (.fad 2 (.t 1)),og 14 12 false (.ld false 1 (.t 13)),og 15 12 false (.call 163 [(.t 14)]),og 16 12 false (.un .not (.t 15)),o 17 (.pick (.t 12) (.k (.bool true)) (.t 16)),o 18 (.mov (.t 17)),og 19 18 false (.fad 3 (.t 1)),og 20 18 false (.ld false 1 (.t 19)),og 21 18 false (.call 164 [(.t 20)]),og 22 18 false (.un .not (.t 21)),o 23 (.pick (.t 18) (.k (.bool true)) (.t 22)),o 24 (.mov (.t 23)),og 25 24 false (.fad 5 (.t 1)),og 26 24 false (.ld false 1 (.t 25)),og 27 24 false (.call 165 [(.t 26)]),og 28 24 false (.un .not (.t 27)),o 29 (.pick (.t 24) (.k (.bool true)) (.t 28)),o 30 (.mov (.t 29)),og 31 30 false (.fad 4 (.t 1)),og 32 30 false (.ld false 1 (.t 31)),og 33 30 false (.call 166 [(.t 32)]),og 34 30 false (.un .not (.t 33)),o 35 (.pick (.t 30) (.k (.bool true)) (.t 34))]) (.cnd (.t 35) (.seq (.reg [o 2 (.mov (.k (.bool false)))]) .ret) .skip)) (.seq (.seq (.reg [o 3 (.mov (.k (.int .i64 0)))]) (.blk 0 (.lop (.seq (.seq (.reg [o 36 (.mov (.t 3)),o 37 (.fad 3 (.t 1)),o 38 (.ld false 1 (.t 37)),o 39 (.len false (.t 38)),o 40 (.bin .lss (.t 36) (.t 39))]) (.cnd (.t 40) .skip (.ext 0))) (.seq (.blk 1 (.seq (.drw [o 43 (.fad 1 (.t 1)),o 44 (.ld false 1 (.t 43)),o 45 (.fad 3 (.t 1)),o 46 (.ld false 1 (.t 45)),o 47 (.mov (.t 3)),o 48 (.iad 6 (.t 46) (.t 47)),o 49 (.fad 4 (.t 48)),o 50 (.ld true 2 (.t 49)),o 51 (.call 142 [(.t 44),(.t 50)]),o 52 (.un .not (.t 51)),o 53 (.mov (.t 52)),og 54 53 false (.fad 0 (.t 1)),og 55 53 false (.ld false 1 (.t 54)),og 56 53 false (.fad 3 (.t 1)),og 57 53 false (.ld false 1 (.t 56)),og 58 53 false (.mov (.t 3)),og 59 53 false (.iad 6 (.t 57) (.t 58)),og 60 53 false (.fad 4 (.t 59)),og 61 53 false (.ld true 2 (.t 60))] [og 62 53 false (.call 142 [(.t 55),(.t 61)]),o 63 (.pick (.t 53) (.k (.bool true)) (.t 62))]) (.cnd (.t 63) (.seq (.reg [o 2 (.mov (.k (.bool false)))]) .ret) .skip))) (.reg [o 41 (.mov (.t 3)),o 42 (.bin .add (.t 41) (.k (.int .i64 1))),o 3 (.mov (.t 42))])))))) (.seq (.seq (.reg [o 4 (.mov (.k (.int .i64 0)))]) (.blk 2 (.lop (.seq (.seq (.reg [o 64 (.mov (.t 4)),o 65 (.fad 4 (.t 1)),o 66 (.ld false 1 (.t 65)),o 67 (.len false (.t 66)),o 68 (.bin .lss (.t 64) (.t 67))]) (.cnd (.t 68) .skip (.ext 2))) (.seq (.blk 3 (.seq (.drw [o 71 (.fad 0 (.t 1)),o 72 (.ld false 1 (.t 71)),o 73 (.fad 4 (.t 1)),o 74 (.ld false 1 (.t 73)),o 75 (.mov (.t 4)),o 76 (.iad 2 (.t 74) (.t 75)),o 77 (.ld true 2 (.t 76))] [o 78 (.call 142 [(.t 72),(.t 77)]),o 79 (.un .not (.t 78))]) (.cnd (.t 79) (.seq (.reg [o 2 (.mov (.k (.bool false)))]) .ret) .skip))) (.reg [o 69 (.mov (.t 4)),o 70 (.bin .add (.t 69) (.k (.int .i64 1))),o 4 (.mov (.t 70))])))))) (.seq (.seq (.reg [o 5 (.mov (.k (.int .i64 0)))]) (.blk 4 (.lop (.seq (.seq (.reg [o 80 (.mov (.t 5)),o 81 (.fad 5 (.t 1)),o 82 (.ld false 1 (.t 81)),o 83 (.len false (.t 82)),o 84 (.bin .lss (.t 80) (.t 83))]) (.cnd (.t 84) .skip (.ext 4))) (.seq (.blk 5 (.seq (.drw [o 87 (.fad 1 (.t 1)),o 88 (.ld false 1 (.t 87)),o 89 (.fad 5 (.t 1)),o 90 (.ld false 1 (.t 89)),o 91 (.mov (.t 5)),o 92 (.iad 8 (.t 90) (.t 91)),o 93 (.fad 1 (.t 92)),o 94 (.ld true 2 (.t 93))] [o 95 (.call 142 [(.t 88),(.t 94)]),o 96 (.un .not (.t 95))]) (.cnd (.t 96) (.seq (.reg [o 2 (.mov (.k (.bool false)))]) .ret) .skip))) (.reg [o 85 (.mov (.t 5)),o 86 (.bin .add (.t 85) (.k (.int .i64 1))),o 5 (.mov (.t 86))])))))) (.seq (.reg [o 2 (.mov (.k (.bool true)))]) .ret))))))⟩
theorem ir_s_DeltaOk:compFn Tryz.prog n_s_DeltaOk=some F_s_DeltaOk:=by kernel_rfl
def newL (k:List Int) (l:List Live) (i:Nat):Bool:=onI l i fun x=> !knows k x.dot
def deadP (k:List Int) (l:List Dot) (i:Nat):Bool:=onI l i (knows k)&&upI dotLt l i
def dotP (l:List Dot) (i:Nat):Bool:=onI l i dotOk&&upI dotLt l i
def dotsOk (l:List Dot):Bool:=allR l.length (dotP l)&&decide (l.length≤120)
def refP (l:List Cell) (i:Nat):Bool:=onI l i refD
def deltaOk (d:Delta):Bool:=knowIn d.base d.know&&(talsOk d.tallies&&(livsOk d.lives d.know&&(celsOk d.cells d.know&&(decide (d.dead.length≤120)&&(allR d.lives.length (newL d.base d.lives)&&(allR d.dead.length (deadP d.base d.dead)&&allR d.cells.length (refP d.cells)))))))
def midL (k b:List Int) (l:List Live) (i:Nat):Bool:=onI l i fun x=>knows k x.dot&& !knows b x.dot
def deltaOkS (d:Delta):Bool:=knowIn d.base d.know&&(talsOk d.tallies&&(livsS d.lives&&(celsS d.cells&&(dotsOk d.dead&&(allR d.lives.length (midL d.know d.base d.lives)&&(allR d.dead.length (fun i=>onI d.dead i (knows d.base))&&allR d.cells.length (fun i=>onI d.cells i fun x=>knows d.know x.dot)))))))
theorem onI_and {α:Type} (l:List α) (i:Nat) (p q:α→Bool):(onI l i fun x=>p x&&q x)=(onI l i p&&onI l i q):=by
 unfold onI
 cases l[i]? <;>rfl
theorem onI_imp {α:Type} {l:List α} {i:Nat} {p q:α→Bool} (h:∀ x,p x=true→q x=true) (hp:onI l i p=true):onI l i q=true:=by
 unfold onI at*
 cases hl:l[i]? with
 |none=>rfl
 |some x=>rw[hl] at hp;exact h x hp
theorem deltaOkS_eq (d:Delta):deltaOkS d=deltaOk d:=by
 rw[Bool.eq_iff_iff]
 simp only[deltaOkS,deltaOk,livsS,livsOk,celsS,celsOk,dotsOk,Bool.and_eq_true,allR_iff,livSP,livP,celSP,celP,dotP,deadP,midL,newL,refP,onI_and,decide_eq_true_eq]
 constructor
 ·rintro⟨h1,h2,⟨h3,h3'⟩,⟨h4,h4'⟩,⟨h5,h5'⟩,h6,h7,h8⟩
  exact⟨h1,h2,⟨fun i hi=>⟨(h6 i hi).1,(h3 i hi).2⟩,h3'⟩,⟨fun i hi=>⟨h8 i hi,(h4 i hi).2.1,(h4 i hi).2.2.2⟩,h4'⟩,h5',fun i hi=>(h6 i hi).2,fun i hi=>⟨h7 i hi,(h5 i hi).2⟩,fun i hi=>(h4 i hi).2.2.1⟩
 ·rintro⟨h1,h2,⟨h3,h3'⟩,⟨h4,h4'⟩,h5,h6,h7,h8⟩
  exact⟨h1,h2,⟨fun i hi=>⟨onI_imp (fun x=>knows_dot) (h3 i hi).1,(h3 i hi).2⟩,h3'⟩,⟨fun i hi=>⟨onI_imp (fun x=>knows_dot) (h4 i hi).1,(h4 i hi).2.1,h8 i hi,(h4 i hi).2.2⟩,h4'⟩,⟨fun i hi=>⟨onI_imp (fun x=>knows_dot) (h7 i hi).1,(h7 i hi).2⟩,h5⟩,fun i hi=>⟨(h3 i hi).1,h6 i hi⟩,fun i hi=>(h7 i hi).1,fun i hi=>(h4 i hi).1⟩
theorem msDelta_all {d:Delta} {n:Nat} (h:msDelta d≤n):d.base.length≤n∧d.know.length≤n∧d.tallies.length≤n∧d.lives.length≤n∧d.dead.length≤n∧d.cells.length≤n∧(∀ x∈d.tallies,x.obj.size≤n)∧(∀ x∈d.lives,x.obj.size≤n∧x.key.size≤n)∧∀ x∈d.cells,x.obj.size≤n:=by
 unfold msDelta at h
 refine⟨by omega,by omega,by omega,by omega,by omega,by omega,fun x hx=> ?_,fun x hx=> ?_,fun x hx=> ?_⟩
 ·have:x.obj.size≤sumL msTally d.tallies:=sumL_mem (f:=msTally) hx
  omega
 ·have:x.obj.size+x.key.size≤sumL msLive d.lives:=sumL_mem (f:=msLive) hx
  omega
 ·have:x.obj.size≤sumL msCell d.cells:=sumL_mem (f:=msCell) hx
  omega
set_option maxHeartbeats 2000000 in
theorem i_DeltaOk_ret (σ:St) (cs:List GV) (d:Delta) (hR:kDelta.R σ d cs) (hl:msDelta d≤1099511627776):Ret Tryz.prog n_i_DeltaOk [.agg cs] σ (.bool (deltaOk d)) σ:=by
 obtain⟨v0,v1,v2,v3,v4,v5,rfl,q0,q1,q2,q3,q4,q5⟩:=hR
 obtain⟨l0,l1,l2,l3,l4,l5,t2,t3,t5⟩:=msDelta_all hl
 refine ret_xe ir_i_DeltaOk (Nat.le_of_ble_eq_true rfl) trivial ?_
 simp +contextual (disch:=omega) only[go_sem,F_i_DeltaOk]
 intro n f τ H
 have S:=H.sub
 refine by_b H (i_KnowIn_ret _ v0 v1 _ _ (q0.pre S) (q1.pre S) l0 l1) (fun h1=> ?_) (fun h1=> ?_)
 rotate_left
 ·simp +contextual (disch:=omega) only[go_sem]
  simp[deltaOk,h1]
 simp +contextual (disch:=omega) only[go_sem]
 refine by_b H (i_talliesOk_ret _ v2 _ (q2.pre S) l2 t2) (fun h2=> ?_) (fun h2=> ?_)
 rotate_left
 ·simp +contextual (disch:=omega) only[go_sem]
  simp[deltaOk,h2]
 simp +contextual (disch:=omega) only[go_sem]
 refine by_b H (i_livesOk_ret _ v3 _ (q3.pre S) v1 _ (q1.pre S) l1 l3 t3) (fun h3=> ?_) (fun h3=> ?_)
 rotate_left
 ·simp +contextual (disch:=omega) only[go_sem]
  simp[deltaOk,h3]
 simp +contextual (disch:=omega) only[go_sem]
 refine by_b H (i_cellsOk_ret _ v5 _ (q5.pre S) v1 _ (q1.pre S) l1 l5 t5) (fun h4=> ?_) (fun h4=> ?_)
 rotate_left
 ·simp +contextual (disch:=omega) only[go_sem]
  simp[deltaOk,h4]
 cases h5:decide (120<d.dead.length) with
 |true=>
  simp +contextual (disch:=omega) only[go_sem,q4.len,gt_cast,h5]
  have h5':=of_decide_eq_true h5
  have:decide (d.dead.length≤120)=false:=decide_eq_false (by omega)
  simp[deltaOk,this]
 |false=>
 have h5':d.dead.length≤120:=by have:=of_decide_eq_false h5;omega
 simp +contextual (disch:=omega) only[go_sem,q3.len,q4.len,gt_cast,h5]
 refine sx_for d.lives.length 46 0 (fun i env h=>env 1= .ptr n 0∧env 44=v3∧env 45=gi d.lives.length∧(∀ j,j<i→newL d.base d.lives j=true)∧h=[.box 1 n [v0,v1,v2,v3,v4,v5]]) (fun env h=>env 1= .ptr n 0∧allR d.lives.length (newL d.base d.lives)=true∧h=[.box 1 n [v0,v1,v2,v3,v4,v5]]) (fun env h=>env 2= .bool (deltaOk d)) _ H (by simp +contextual (disch:=omega) only[go_sem]) ⟨by simp +contextual (disch:=omega) only[go_sem],by simp +contextual (disch:=omega) only[go_sem],by simp +contextual (disch:=omega) only[go_sem],fun j hj=>by omega,rfl⟩ ?_ ?_ ?_ ?_
 ·rintro J Y W hJ hY hW i env h τ hi ei c0 H ⟨e1,e44,e45,ha,rfl⟩
  have L1:=Live_at q3 hi
  have hat:newL d.base d.lives i= !knows d.base d.lives[i].dot:=onI_at hi
  have no:newL d.base d.lives i=false→deltaOk d=false:=fun hh=>by simp[deltaOk,allR_no hi hh]
  simp +contextual (disch:=omega) only[go_sem,c0,e1,e44,e45,ei,natOf_nat,L1]
  intro m fm τ1 _ τ2 H2
  refine by_b H2 (i_Knows_ret _ v0 _ _ (q0.pre H2.sub) l0) (fun k1=> ?_) (fun k1=> ?_)
  ·simp +contextual (disch:=omega) only[go_sem]
   exact hW _ _ _ H2 (by simp +contextual (disch:=omega) only[go_sem,no (by rw[hat,k1];rfl)])
  ·simp +contextual (disch:=omega) only[go_sem,e1,e44,e45,ei]
   exact hJ _ _ _ _ (H2.re [1] (by decide)) ⟨by simp +contextual (disch:=omega) only[go_sem,e1],by simp +contextual (disch:=omega) only[go_sem,e44],by simp +contextual (disch:=omega) only[go_sem,e45],lt_snoc ha (by rw[hat,k1];rfl),rfl⟩
 ·rintro Y hY env h τ ei c0 H ⟨e1,e44,e45,ha,rfl⟩
  simp +contextual (disch:=omega) only[go_sem,c0,e45,ei]
  exact hY _ _ _ H ⟨by simp +contextual (disch:=omega) only[go_sem,e1],allR_yes ha,rfl⟩
 rotate_left
 ·rintro env h τ H e2
  simp +contextual (disch:=omega) only[go_sem,e2]
 clear H S
 rintro env h τ H ⟨e1,h6,rfl⟩
 simp +contextual (disch:=omega) only[go_sem,e1,q4.len]
 refine sx_for d.dead.length 59 2 (fun i env h=>env 1= .ptr n 0∧env 57=v4∧env 58=gi d.dead.length∧(∀ j,j<i→deadP d.base d.dead j=true)∧h=[.box 1 n [v0,v1,v2,v3,v4,v5]]) (fun env h=>env 1= .ptr n 0∧allR d.dead.length (deadP d.base d.dead)=true∧h=[.box 1 n [v0,v1,v2,v3,v4,v5]]) (fun env h=>env 2= .bool (deltaOk d)) _ H (by simp +contextual (disch:=omega) only[go_sem]) ⟨by simp +contextual (disch:=omega) only[go_sem,e1],by simp +contextual (disch:=omega) only[go_sem],by simp +contextual (disch:=omega) only[go_sem],fun j hj=>by omega,rfl⟩ ?_ ?_ ?_ ?_
 ·clear H e1
  rintro J Y W hJ hY hW i env h τ hi ei c0 H ⟨e1,e57,e58,ha,rfl⟩
  have L1:=Dot_at q4 hi
  have hat:deadP d.base d.dead i=(knows d.base d.dead[i]&&upI dotLt d.dead i):=by simp only[deadP,onI_at hi]
  have no:deadP d.base d.dead i=false→deltaOk d=false:=fun hh=>by simp[deltaOk,allR_no hi hh]
  simp +contextual (disch:=omega) only[go_sem,c0,e1,e57,e58,ei,natOf_nat,L1]
  intro m fm τ1 _ τ2 H2
  refine by_b H2 (i_Knows_ret _ v0 _ _ (q0.pre H2.sub) l0) (fun k1=> ?_) (fun k1=> ?_)
  rotate_left
  ·simp +contextual (disch:=omega) only[go_sem]
   exact hW _ _ _ H2 (by simp +contextual (disch:=omega) only[go_sem,no (by rw[hat,k1];rfl)])
  rcases Nat.eq_zero_or_pos i with hz|hz
  ·subst hz
   simp +contextual (disch:=omega) only[go_sem,Int.ofNat_zero,decide_false,Int.lt_irrefl,e1,e57,e58,ei]
   exact hJ _ _ _ _ (H2.re [1] (by decide)) ⟨by simp +contextual (disch:=omega) only[go_sem,e1],by simp +contextual (disch:=omega) only[go_sem,e57],by simp +contextual (disch:=omega) only[go_sem,e58],lt_snoc ha (by rw[hat,k1];rfl),rfl⟩
  ·have c1:decide ((0:Int)<i)=true:=by simp;omega
   have hj:i - 1<d.dead.length:=by omega
   have hu:=upI_at (lt:=dotLt) (by omega) hi hj
   simp +contextual (disch:=omega) only[go_sem,c1,sub1 hz,Dot_at q4 hj,e1,e57,e58,ei]
   refine by_r H2 (i_compareDots_ret _ d.dead[i-1] d.dead[i]) ?_
   cases ho:dotLt d.dead[i-1] d.dead[i] with
   |true=>
    simp +contextual (disch:=omega) only[go_sem,cmpDot_ge,ho,e1,e57,e58,ei]
    exact hJ _ _ _ _ (H2.re [1] (by decide)) ⟨by simp +contextual (disch:=omega) only[go_sem,e1],by simp +contextual (disch:=omega) only[go_sem,e57],by simp +contextual (disch:=omega) only[go_sem,e58],lt_snoc ha (by rw[hat,k1,hu,ho];rfl),rfl⟩
   |false=>
    simp +contextual (disch:=omega) only[go_sem,cmpDot_ge,ho]
    exact hW _ _ _ H2 (by simp +contextual (disch:=omega) only[go_sem,no (by rw[hat,k1,hu,ho];rfl)])
 ·clear H e1
  rintro Y hY env h τ ei c0 H ⟨e1,e57,e58,ha,rfl⟩
  simp +contextual (disch:=omega) only[go_sem,c0,e58,ei]
  exact hY _ _ _ H ⟨by simp +contextual (disch:=omega) only[go_sem,e1],allR_yes ha,rfl⟩
 rotate_left
 ·rintro env h τ H e2
  simp +contextual (disch:=omega) only[go_sem,e2]
 clear H e1
 rintro env h τ H ⟨e1,h7,rfl⟩
 simp +contextual (disch:=omega) only[go_sem,e1,q5.len]
 refine sx_for d.cells.length 88 4 (fun i env h=>env 86=v5∧env 87=gi d.cells.length∧(∀ j,j<i→refP d.cells j=true)∧h=[]) (fun env h=>allR d.cells.length (refP d.cells)=true∧h=[]) (fun env h=>env 2= .bool (deltaOk d)) _ (H.re [] (by decide)) (by simp +contextual (disch:=omega) only[go_sem]) ⟨by simp +contextual (disch:=omega) only[go_sem],by simp +contextual (disch:=omega) only[go_sem],fun j hj=>by omega,rfl⟩ ?_ ?_ ?_ ?_
 ·clear H e1
  rintro J Y W hJ hY hW i env h τ hi ei c0 H ⟨e86,e87,ha,rfl⟩
  have L1:=Cell_at q5 hi
  have hat:refP d.cells i=(decide (d.cells[i].ref=⟨0,0⟩)||dotOk d.cells[i].ref):=onI_at hi
  have no:refP d.cells i=false→deltaOk d=false:=fun hh=>by simp[deltaOk,allR_no hi hh]
  cases k0:decide (d.cells[i].ref=⟨0,0⟩) with
  |true=>
   simp +contextual (disch:=omega) only[go_sem,c0,e86,e87,ei,natOf_nat,L1,k0]
   intro m fm τ1 _ τ2 H2
   exact hJ _ _ _ _ (H2.re [] (by decide)) ⟨by simp +contextual (disch:=omega) only[go_sem,e86],by simp +contextual (disch:=omega) only[go_sem,e87],lt_snoc ha (by rw[hat,k0];rfl),rfl⟩
  |false=>
   simp +contextual (disch:=omega) only[go_sem,c0,e86,e87,ei,natOf_nat,L1,k0]
   intro m fm τ1 _ τ2 H2
   refine by_b H2 (i_DotOk_ret _ d.cells[i].ref) (fun k1=> ?_) (fun k1=> ?_)
   ·simp +contextual (disch:=omega) only[go_sem,e86,e87,ei]
    exact hJ _ _ _ _ (H2.re [] (by decide)) ⟨by simp +contextual (disch:=omega) only[go_sem,e86],by simp +contextual (disch:=omega) only[go_sem,e87],lt_snoc ha (by rw[hat,k0,k1];rfl),rfl⟩
   ·simp +contextual (disch:=omega) only[go_sem]
    exact hW _ _ _ H2 (by simp +contextual (disch:=omega) only[go_sem,no (by rw[hat,k0,k1];rfl)])
 ·clear H e1
  rintro Y hY env h τ ei c0 H ⟨e86,e87,ha,rfl⟩
  simp +contextual (disch:=omega) only[go_sem,c0,e87,ei]
  exact hY _ _ _ H ⟨allR_yes ha,rfl⟩
 ·clear H e1
  rintro env h τ H ⟨h8,rfl⟩
  simp +contextual (disch:=omega) only[go_sem]
  exact fun _=>by simp[deltaOk,h1,h2,h3,h4,h5',h6,h7,h8]
 ·rintro env h τ H e2
  simp +contextual (disch:=omega) only[go_sem,e2]
theorem s_l11Dots_ret (σ:St) (v:GV) (l:List Dot) (h:RS pDot.kd σ v l) (hl:l.length≤1099511627776):Ret Tryz.prog n_s_l11Dots [v] σ (.bool (dotsOk l)) σ:=by
 refine ret_xe ir_s_l11Dots (Nat.le_of_ble_eq_true rfl) trivial ?_
 simp +contextual (disch:=omega) only[go_sem,F_s_l11Dots]
 refine sx_for l.length 3 0 (fun i env h=>env 0=v∧(∀ j,j<i→dotP l j=true)∧h=[]) (fun env h=>env 0=v∧allR l.length (dotP l)=true∧h=[]) (fun env h=>env 2= .bool (dotsOk l)) _ (Hx.refl σ) (by simp +contextual (disch:=omega) only[go_sem]) ⟨by simp +contextual (disch:=omega) only[go_sem],fun j hj=>by omega,rfl⟩ ?_ ?_ ?_ ?_
 ·rintro J Y W hJ hY hW i env h τ hi ei c0 H ⟨e0,ha,rfl⟩
  have L1:=Dot_at h hi
  have hat:dotP l i=(dotOk l[i]&&upI dotLt l i):=by simp only[dotP,onI_at hi]
  have no:dotP l i=false→dotsOk l=false:=fun hh=>by simp[dotsOk,allR_no hi hh]
  simp +contextual (disch:=omega) only[go_sem,c0,e0,ei,natOf_nat,L1,h.len]
  refine by_b H (s_DotOk_ret _ l[i]) (fun k1=> ?_) (fun k1=> ?_)
  rotate_left
  ·simp +contextual (disch:=omega) only[go_sem]
   exact hW _ _ _ H (by simp +contextual (disch:=omega) only[go_sem,no (by rw[hat,k1];rfl)])
  rcases Nat.eq_zero_or_pos i with hz|hz
  ·subst hz
   simp +contextual (disch:=omega) only[go_sem,Int.ofNat_zero,decide_false,Int.lt_irrefl,e0,ei]
   exact hJ _ _ _ _ H ⟨by simp +contextual (disch:=omega) only[go_sem,e0],lt_snoc ha (by rw[hat,k1];rfl),rfl⟩
  ·have c1:decide ((0:Int)<i)=true:=by simp;omega
   have hj:i - 1<l.length:=by omega
   have hu:=upI_at (lt:=dotLt) (by omega) hi hj
   simp +contextual (disch:=omega) only[go_sem,c1,sub1 hz,Dot_at h hj,L1,natOf_nat,e0,ei]
   refine by_r H (s_l06Before_ret _ l[i-1] l[i]) ?_
   cases ho:dotLt l[i-1] l[i] with
   |true=>
    simp +contextual (disch:=omega) only[go_sem,e0,ei]
    exact hJ _ _ _ _ H ⟨by simp +contextual (disch:=omega) only[go_sem,e0],lt_snoc ha (by rw[hat,k1,hu,ho];rfl),rfl⟩
   |false=>
    simp +contextual (disch:=omega) only[go_sem]
    exact hW _ _ _ H (by simp +contextual (disch:=omega) only[go_sem,no (by rw[hat,k1,hu,ho];rfl)])
 ·rintro Y hY env h τ ei c0 H ⟨e0,ha,rfl⟩
  simp +contextual (disch:=omega) only[go_sem,c0,e0,ei,h.len]
  exact hY _ _ _ H ⟨by simp +contextual (disch:=omega) only[go_sem,e0],allR_yes ha,rfl⟩
 ·rintro env h τ H ⟨e0,ha,rfl⟩
  simp +contextual (disch:=omega) only[go_sem,e0,h.len]
  have:decide ((l.length:Int)≤120)=decide (l.length≤120):=by rw[decide_eq_decide];omega
  exact fun _=>by simp[dotsOk,ha,this]
 ·rintro env h τ H e2
  simp +contextual (disch:=omega) only[go_sem,e2]
theorem s_DeltaOk_ret (σ:St) (cs:List GV) (d:Delta) (hR:kDelta.R σ d cs) (hl:msDelta d≤1099511627776):Ret Tryz.prog n_s_DeltaOk [.agg cs] σ (.bool (deltaOk d)) σ:=by
 rw[← deltaOkS_eq]
 obtain⟨v0,v1,v2,v3,v4,v5,rfl,q0,q1,q2,q3,q4,q5⟩:=hR
 obtain⟨l0,l1,l2,l3,l4,l5,t2,t3,t5⟩:=msDelta_all hl
 refine ret_xe ir_s_DeltaOk (Nat.le_of_ble_eq_true rfl) trivial ?_
 simp +contextual (disch:=omega) only[go_sem,F_s_DeltaOk]
 intro n f τ H
 have S:=H.sub
 refine by_b H (s_KnowIn_ret _ v0 v1 _ _ (q0.pre S) (q1.pre S) l0 l1) (fun h1=> ?_) (fun h1=> ?_)
 rotate_left
 ·simp +contextual (disch:=omega) only[go_sem]
  simp[deltaOkS,h1]
 simp +contextual (disch:=omega) only[go_sem]
 refine by_b H (s_l06Tallies_ret _ v2 _ (q2.pre S) l2 t2) (fun h2=> ?_) (fun h2=> ?_)
 rotate_left
 ·simp +contextual (disch:=omega) only[go_sem]
  simp[deltaOkS,h2]
 simp +contextual (disch:=omega) only[go_sem]
 refine by_b H (s_l06Lives_ret _ v3 _ (q3.pre S) l3 t3) (fun h3=> ?_) (fun h3=> ?_)
 rotate_left
 ·simp +contextual (disch:=omega) only[go_sem]
  simp[deltaOkS,h3]
 simp +contextual (disch:=omega) only[go_sem]
 refine by_b H (s_l06Cells_ret _ v5 _ (q5.pre S) l5 t5) (fun h4=> ?_) (fun h4=> ?_)
 rotate_left
 ·simp +contextual (disch:=omega) only[go_sem]
  simp[deltaOkS,h4]
 simp +contextual (disch:=omega) only[go_sem]
 refine by_b H (s_l11Dots_ret _ v4 _ (q4.pre S) l4) (fun h5=> ?_) (fun h5=> ?_)
 rotate_left
 ·simp +contextual (disch:=omega) only[go_sem]
  simp[deltaOkS,h5]
 simp +contextual (disch:=omega) only[go_sem]
 refine sx_for d.lives.length 3 0 (fun i env h=>env 1= .ptr n 0∧(∀ j,j<i→midL d.know d.base d.lives j=true)∧h=[.box 1 n [v0,v1,v2,v3,v4,v5]]) (fun env h=>env 1= .ptr n 0∧allR d.lives.length (midL d.know d.base d.lives)=true∧h=[.box 1 n [v0,v1,v2,v3,v4,v5]]) (fun env h=>env 2= .bool (deltaOkS d)) _ H (by simp +contextual (disch:=omega) only[go_sem]) ⟨by simp +contextual (disch:=omega) only[go_sem],fun j hj=>by omega,rfl⟩ ?_ ?_ ?_ ?_
 ·rintro J Y W hJ hY hW i env h τ hi ei c0 H ⟨e1,ha,rfl⟩
  have L1:=Live_at q3 hi
  have hat:midL d.know d.base d.lives i=(knows d.know d.lives[i].dot&& !knows d.base d.lives[i].dot):=onI_at hi
  have no:midL d.know d.base d.lives i=false→deltaOkS d=false:=fun hh=>by simp[deltaOkS,allR_no hi hh]
  simp +contextual (disch:=omega) only[go_sem,c0,e1,ei,natOf_nat,L1,q3.len]
  refine by_b H (s_Knows_ret _ v1 _ _ (q1.pre H.sub) l1) (fun k1=> ?_) (fun k1=> ?_)
  rotate_left
  ·simp +contextual (disch:=omega) only[go_sem]
   exact hW _ _ _ H (by simp +contextual (disch:=omega) only[go_sem,no (by rw[hat,k1];rfl)])
  simp +contextual (disch:=omega) only[go_sem,e1,ei,natOf_nat,L1]
  refine by_b H (s_Knows_ret _ v0 _ _ (q0.pre H.sub) l0) (fun k2=> ?_) (fun k2=> ?_)
  ·simp +contextual (disch:=omega) only[go_sem]
   exact hW _ _ _ H (by simp +contextual (disch:=omega) only[go_sem,no (by rw[hat,k1,k2];rfl)])
  ·simp +contextual (disch:=omega) only[go_sem,e1,ei]
   exact hJ _ _ _ _ H ⟨by simp +contextual (disch:=omega) only[go_sem,e1],lt_snoc ha (by rw[hat,k1,k2];rfl),rfl⟩
 ·rintro Y hY env h τ ei c0 H ⟨e1,ha,rfl⟩
  simp +contextual (disch:=omega) only[go_sem,c0,e1,ei,q3.len]
  exact hY _ _ _ H ⟨by simp +contextual (disch:=omega) only[go_sem,e1],allR_yes ha,rfl⟩
 rotate_left
 ·rintro env h τ H e2
  simp +contextual (disch:=omega) only[go_sem,e2]
 clear H S
 rintro env h τ H ⟨e1,h6,rfl⟩
 simp +contextual (disch:=omega) only[go_sem,e1]
 refine sx_for d.dead.length 4 2 (fun i env h=>env 1= .ptr n 0∧(∀ j,j<i→onI d.dead j (knows d.base)=true)∧h=[.box 1 n [v0,v1,v2,v3,v4,v5]]) (fun env h=>env 1= .ptr n 0∧allR d.dead.length (fun j=>onI d.dead j (knows d.base))=true∧h=[.box 1 n [v0,v1,v2,v3,v4,v5]]) (fun env h=>env 2= .bool (deltaOkS d)) _ H (by simp +contextual (disch:=omega) only[go_sem]) ⟨by simp +contextual (disch:=omega) only[go_sem,e1],fun j hj=>by omega,rfl⟩ ?_ ?_ ?_ ?_
 ·clear H e1
  rintro J Y W hJ hY hW i env h τ hi ei c0 H ⟨e1,ha,rfl⟩
  have L1:=Dot_at q4 hi
  have hat:onI d.dead i (knows d.base)=knows d.base d.dead[i]:=onI_at hi
  have no:onI d.dead i (knows d.base)=false→deltaOkS d=false:=fun hh=>by simp[deltaOkS,allR_no (p:=fun j=>onI d.dead j (knows d.base)) hi hh]
  simp +contextual (disch:=omega) only[go_sem,c0,e1,ei,natOf_nat,L1,q4.len]
  refine by_b H (s_Knows_ret _ v0 _ _ (q0.pre H.sub) l0) (fun k1=> ?_) (fun k1=> ?_)
  ·simp +contextual (disch:=omega) only[go_sem,e1,ei]
   exact hJ _ _ _ _ H ⟨by simp +contextual (disch:=omega) only[go_sem,e1],lt_snoc ha (by rw[hat,k1]),rfl⟩
  ·simp +contextual (disch:=omega) only[go_sem]
   exact hW _ _ _ H (by simp +contextual (disch:=omega) only[go_sem,no (by rw[hat,k1])])
 ·clear H e1
  rintro Y hY env h τ ei c0 H ⟨e1,ha,rfl⟩
  simp +contextual (disch:=omega) only[go_sem,c0,e1,ei,q4.len]
  exact hY _ _ _ H ⟨by simp +contextual (disch:=omega) only[go_sem,e1],allR_yes ha,rfl⟩
 rotate_left
 ·rintro env h τ H e2
  simp +contextual (disch:=omega) only[go_sem,e2]
 clear H e1
 rintro env h τ H ⟨e1,h7,rfl⟩
 simp +contextual (disch:=omega) only[go_sem,e1]
 refine sx_for d.cells.length 5 4 (fun i env h=>env 1= .ptr n 0∧(∀ j,j<i→(onI d.cells j fun x=>knows d.know x.dot)=true)∧h=[.box 1 n [v0,v1,v2,v3,v4,v5]]) (fun env h=>allR d.cells.length (fun j=>onI d.cells j fun x=>knows d.know x.dot)=true) (fun env h=>env 2= .bool (deltaOkS d)) _ H (by simp +contextual (disch:=omega) only[go_sem]) ⟨by simp +contextual (disch:=omega) only[go_sem,e1],fun j hj=>by omega,rfl⟩ ?_ ?_ ?_ ?_
 ·clear H e1
  rintro J Y W hJ hY hW i env h τ hi ei c0 H ⟨e1,ha,rfl⟩
  have L1:=Cell_at q5 hi
  have hat:(onI d.cells i fun x=>knows d.know x.dot)=knows d.know d.cells[i].dot:=onI_at hi
  have no:(onI d.cells i fun x=>knows d.know x.dot)=false→deltaOkS d=false:=fun hh=>by simp[deltaOkS,allR_no (p:=fun j=>onI d.cells j fun x=>knows d.know x.dot) hi hh]
  simp +contextual (disch:=omega) only[go_sem,c0,e1,ei,natOf_nat,L1,q5.len]
  refine by_b H (s_Knows_ret _ v1 _ _ (q1.pre H.sub) l1) (fun k1=> ?_) (fun k1=> ?_)
  ·simp +contextual (disch:=omega) only[go_sem,e1,ei]
   exact hJ _ _ _ _ H ⟨by simp +contextual (disch:=omega) only[go_sem,e1],lt_snoc ha (by rw[hat,k1]),rfl⟩
  ·simp +contextual (disch:=omega) only[go_sem]
   exact hW _ _ _ H (by simp +contextual (disch:=omega) only[go_sem,no (by rw[hat,k1])])
 ·clear H e1
  rintro Y hY env h τ ei c0 H ⟨e1,ha,rfl⟩
  simp +contextual (disch:=omega) only[go_sem,c0,e1,ei,q5.len]
  exact hY _ _ _ H (allR_yes ha)
 ·clear H e1
  rintro env h τ H h8
  simp +contextual (disch:=omega) only[go_sem]
  exact fun _=>by simp[deltaOkS,h1,h2,h3,h4,h5,h6,h7,h8]
 ·rintro env h τ H e2
  simp +contextual (disch:=omega) only[go_sem,e2]
end Go.Proofs.YtffnefmklckngaaGreat.Sy
namespace Go.Proofs.YtffnefmklckngaaGreat.Sy
open Go Go.RowKit
set_option linter.unusedSimpArgs false
set_option linter.unusedVariables false
set_option maxRecDepth 4000
abbrev n_s_l10Has:Nat:=236
def F_s_l10Has:Fn1:=⟨18,[.t 4],(.seq (.reg [o 3 (.box (.t 1)),o 4 (.mov (.k (.bool false)))]) (.seq (.seq (.reg [o 5 (.mov (.k (.int .i64 0)))]) (.blk 0 (.lop (.seq (.seq (.reg [o 6 (.mov (.t 5)),o 7 (.mov (.t 0)),o 8 (.len false (.t 7)),o 9 (.bin .lss (.t 6) (.t 8))]) (.cnd (.t 9) .skip (.ext 0))) (.seq (.blk 1 (.seq (.drw [o 12 (.mov (.t 0)),o 13 (.mov (.t 5)),o 14 (.iad 6 (.t 12) (.t 13)),o 15 (.ld true 6 (.t 14)),o 16 (.ld true 6 (.t 3))] [o 17 (.eqs false [.b,.s,.s,.i .i64,.i .i64,.i .i64] (.t 15) (.t 16))]) (.cnd (.t 17) (.seq (.reg [o 4 (.mov (.k (.bool true)))]) .ret) .skip))) (.reg [o 10 (.mov (.t 5)),o 11 (.bin .add (.t 10) (.k (.int .i64 1))),o 5 (.mov (.t 11))])))))) (.seq (.reg [o 4 (.mov (.k (.bool false)))]) .ret)))⟩
abbrev n_s_l11Dead:Nat:=237
def F_s_l11Dead:Fn1:=⟨18,[.t 4],(.seq (.reg [o 3 (.box (.t 1)),o 4 (.mov (.k (.bool false)))]) (.seq (.seq (.reg [o 5 (.mov (.k (.int .i64 0)))]) (.blk 0 (.lop (.seq (.seq (.reg [o 6 (.mov (.t 5)),o 7 (.mov (.t 0)),o 8 (.len false (.t 7)),o 9 (.bin .lss (.t 6) (.t 8))]) (.cnd (.t 9) .skip (.ext 0))) (.seq (.blk 1 (.seq (.drw [o 12 (.mov (.t 0)),o 13 (.mov (.t 5)),o 14 (.iad 2 (.t 12) (.t 13)),o 15 (.ld true 2 (.t 14)),o 16 (.ld true 2 (.t 3))] [o 17 (.eqs false [.i .i64,.i .i64] (.t 15) (.t 16))]) (.cnd (.t 17) (.seq (.reg [o 4 (.mov (.k (.bool true)))]) .ret) .skip))) (.reg [o 10 (.mov (.t 5)),o 11 (.bin .add (.t 10) (.k (.int .i64 1))),o 5 (.mov (.t 11))])))))) (.seq (.reg [o 4 (.mov (.k (.bool false)))]) .ret)))⟩
abbrev n_slices_Index_impl_Live_impl_Live:Nat:=239
def F_slices_Index_impl_Live_impl_Live:Fn1:=⟨19,[.t 4],(.seq (.reg [o 3 (.box (.t 1)),o 4 (.mov (.k (.int .i64 0)))]) (.seq (.seq (.reg [o 6 (.mov (.t 0)),o 7 (.len false (.t 6)),o 8 (.mov (.k (.int .i64 0)))]) (.blk 0 (.lop (.seq (.reg [o 9 (.bin .lss (.t 8) (.t 7))]) (.seq (.cnd (.t 9) .skip (.ext 0)) (.seq (.blk 1 (.seq (.reg [o 10 (.mov (.t 8)),o 5 (.mov (.t 10))]) (.seq (.drw [o 11 (.ld true 6 (.t 3)),o 12 (.mov (.t 0)),o 13 (.mov (.t 5)),o 14 (.iad 6 (.t 12) (.t 13)),o 15 (.ld true 6 (.t 14))] [o 16 (.eqs false [.b,.s,.s,.i .i64,.i .i64,.i .i64] (.t 11) (.t 15))]) (.cnd (.t 16) (.seq (.reg [o 17 (.mov (.t 5)),o 4 (.mov (.t 17))]) .ret) .skip)))) (.reg [o 18 (.bin .add (.t 8) (.k (.int .i64 1))),o 8 (.mov (.t 18))]))))))) (.seq (.reg [o 4 (.mov (.k (.int .i64 (-1))))]) .ret)))⟩
abbrev n_slices_Contains_impl_Live_impl_Live:Nat:=206
def F_slices_Contains_impl_Live_impl_Live:Fn1:=⟨9,[.t 4],(.seq (.reg [o 3 (.box (.t 1)),o 4 (.mov (.k (.bool false)))]) (.seq (.reg [o 5 (.mov (.t 0)),o 6 (.ld true 6 (.t 3)),o 7 (.call 239 [(.t 5),(.t 6)]),o 8 (.bin .geq (.t 7) (.k (.int .i64 0))),o 4 (.mov (.t 8))]) .ret))⟩
abbrev n_slices_Index_impl_Dot_impl_Dot:Nat:=240
def F_slices_Index_impl_Dot_impl_Dot:Fn1:=⟨19,[.t 4],(.seq (.reg [o 3 (.box (.t 1)),o 4 (.mov (.k (.int .i64 0)))]) (.seq (.seq (.reg [o 6 (.mov (.t 0)),o 7 (.len false (.t 6)),o 8 (.mov (.k (.int .i64 0)))]) (.blk 0 (.lop (.seq (.reg [o 9 (.bin .lss (.t 8) (.t 7))]) (.seq (.cnd (.t 9) .skip (.ext 0)) (.seq (.blk 1 (.seq (.reg [o 10 (.mov (.t 8)),o 5 (.mov (.t 10))]) (.seq (.drw [o 11 (.ld true 2 (.t 3)),o 12 (.mov (.t 0)),o 13 (.mov (.t 5)),o 14 (.iad 2 (.t 12) (.t 13)),o 15 (.ld true 2 (.t 14))] [o 16 (.eqs false [.i .i64,.i .i64] (.t 11) (.t 15))]) (.cnd (.t 16) (.seq (.reg [o 17 (.mov (.t 5)),o 4 (.mov (.t 17))]) .ret) .skip)))) (.reg [o 18 (.bin .add (.t 8) (.k (.int .i64 1))),o 8 (.mov (.t 18))]))))))) (.seq (.reg [o 4 (.mov (.k (.int .i64 (-1))))]) .ret)))⟩
abbrev n_slices_Contains_impl_Dot_impl_Dot:Nat:=207
def F_slices_Contains_impl_Dot_impl_Dot:Fn1:=⟨9,[.t 4],(.seq (.reg [o 3 (.box (.t 1)),o 4 (.mov (.k (.bool false)))]) (.seq (.reg [o 5 (.mov (.t 0)),o 6 (.ld true 2 (.t 3)),o 7 (.call 240 [(.t 5),(.t 6)]),o 8 (.bin .geq (.t 7) (.k (.int .i64 0))),o 4 (.mov (.t 8))]) .ret))⟩
def placeI {α:Type} [DecidableEq α] (l:List α) (x:α):Int:=match l.findIdx? (fun y=>decide (y=x)) with
 |some k=>k
 |none=> -1
end Go.Proofs.YtffnefmklckngaaGreat.Sy
namespace Go.Proofs.YtffnefmklckngaaGreat.Sy
open Go Go.RowKit
set_option linter.unusedSimpArgs false
set_option linter.unusedVariables false
section
variable {α:Type} {lt:α→α→Bool}
end
def tkey (t:Tally):ByteArray×Int:=(t.obj,t.rep)
def mergeT (f:Int→Bool) (a b:List Tally):List Tally:=insAll tallyLt (a.filter (fun t=> !f t.rep)++b.filter fun t=>f t.rep)
def putT (acc:List Tally) (t:Tally):List Tally:=talPut acc t.obj t.rep t.sum
def goneBy (b:List Cell) (c:Cell):Cell:={c with gone:=c.gone||b.any fun x=>decide (x.dot=c.dot)&&x.gone}
def isNewC (a:List Cell) (x:Cell):Bool:= !a.any fun c=>decide (c.dot=x.dot)
def joinC (a b:List Cell):List Cell:=a.map (goneBy b)++b.filter (isNewC a)
def mergeC (a b:List Cell):List Cell:=insAll cellLt (joinC a b)
def stepC (out:List Cell) (x:Cell):List Cell:=match cellIx out x.dot with
 |none=>insCell x out
 |some k=>if x.gone then out.modify k fun c=>{c with gone:=true} else out
def goneX (x:Cell) (c:Cell):Cell:=if c.dot=x.dot then {c with gone:=c.gone||x.gone} else c
end Go.Proofs.YtffnefmklckngaaGreat.Sy
namespace Go.Proofs.YtffnefmklckngaaGreat.Sy
open Go Go.RowKit
set_option linter.unusedSimpArgs false
set_option linter.unusedVariables false
set_option maxRecDepth 4000
abbrev n_i_sortLives_f1:Nat:=242
def F_i_sortLives_f1:Fn1:=⟨10,[.t 4],(.seq (.reg [o 2 (.box (.t 0)),o 3 (.box (.t 1)),o 4 (.mov (.k (.int .i64 0)))]) (.seq (.reg [o 5 (.fad 4 (.t 2)),o 6 (.ld true 2 (.t 5)),o 7 (.fad 4 (.t 3)),o 8 (.ld true 2 (.t 7)),o 9 (.call 174 [(.t 6),(.t 8)]),o 4 (.mov (.t 9))]) .ret))⟩
theorem ir_i_sortLives_f1:compFn Tryz.prog n_i_sortLives_f1=some F_i_sortLives_f1:=by kernel_rfl
abbrev n_i_mergedCells_f1:Nat:=243
def F_i_mergedCells_f1:Fn1:=⟨10,[.t 4],(.seq (.reg [o 2 (.box (.t 0)),o 3 (.box (.t 1)),o 4 (.mov (.k (.int .i64 0)))]) (.seq (.reg [o 5 (.fad 1 (.t 2)),o 6 (.ld true 2 (.t 5)),o 7 (.fad 1 (.t 3)),o 8 (.ld true 2 (.t 7)),o 9 (.call 174 [(.t 6),(.t 8)]),o 4 (.mov (.t 9))]) .ret))⟩
theorem ir_i_mergedCells_f1:compFn Tryz.prog n_i_mergedCells_f1=some F_i_mergedCells_f1:=by kernel_rfl
abbrev n_slices_SortFunc_impl_Tally_impl_Tally:Nat:=238
abbrev n_slices_pdqsortCmpFunc_impl_Tally:Nat:=261
abbrev n_slices_insertionSortCmpFunc_impl_Tally:Nat:=275
abbrev n_slices_siftDownCmpFunc_impl_Tally:Nat:=295
abbrev n_slices_heapSortCmpFunc_impl_Tally:Nat:=276
abbrev n_slices_reverseRangeCmpFunc_impl_Tally:Nat:=279
abbrev n_slices_partialInsertionSortCmpFunc_impl_Tally:Nat:=280
abbrev n_slices_partitionEqualCmpFunc_impl_Tally:Nat:=281
abbrev n_slices_partitionCmpFunc_impl_Tally:Nat:=282
abbrev n_slices_breakPatternsCmpFunc_impl_Tally:Nat:=277
abbrev n_slices_order2CmpFunc_impl_Tally:Nat:=302
abbrev n_slices_medianCmpFunc_impl_Tally:Nat:=297
abbrev n_slices_medianAdjacentCmpFunc_impl_Tally:Nat:=296
abbrev n_slices_choosePivotCmpFunc_impl_Tally:Nat:=278
abbrev n_slices_SortFunc_impl_Live_impl_Live:Nat:=241
abbrev n_slices_pdqsortCmpFunc_impl_Live:Nat:=262
abbrev n_slices_insertionSortCmpFunc_impl_Live:Nat:=283
abbrev n_slices_siftDownCmpFunc_impl_Live:Nat:=298
abbrev n_slices_heapSortCmpFunc_impl_Live:Nat:=284
abbrev n_slices_reverseRangeCmpFunc_impl_Live:Nat:=287
abbrev n_slices_partialInsertionSortCmpFunc_impl_Live:Nat:=288
abbrev n_slices_partitionEqualCmpFunc_impl_Live:Nat:=289
abbrev n_slices_partitionCmpFunc_impl_Live:Nat:=290
abbrev n_slices_breakPatternsCmpFunc_impl_Live:Nat:=285
abbrev n_slices_order2CmpFunc_impl_Live:Nat:=303
abbrev n_slices_medianCmpFunc_impl_Live:Nat:=300
abbrev n_slices_medianAdjacentCmpFunc_impl_Live:Nat:=299
abbrev n_slices_choosePivotCmpFunc_impl_Live:Nat:=286
instance:Inhabited Tally:=⟨⟨.empty,0,0⟩⟩
def elTally:El Tally:=⟨pTally,true,fun x=>.agg (pTally.enc x),fun _=>rfl,fun _=>rfl,by decide⟩
instance:Inhabited Live:=⟨⟨false,.empty,.empty,0,⟨0,0⟩⟩⟩
def elLive:El Live:=⟨pLive,true,fun x=>.agg (pLive.enc x),fun _=>rfl,fun _=>rfl,by decide⟩
theorem tally_call (σ:St) (a b:Tally):Ret Tryz.prog n_i_compareTallies [elTally.val a,elTally.val b] σ (gi (cmpTally a b)) σ:=by
 show Ret Tryz.prog n_i_compareTallies [.agg (pTally.enc a),.agg (pTally.enc b)] σ (gi (cmpTally a b)) σ
 simp only[enc_Tally]
 exact i_compareTallies_ret σ a b
theorem live_call (σ:St) (a b:Live):Ret Tryz.prog n_i_sortLives_f1 [elLive.val a,elLive.val b] σ (gi (cmpDot a.dot b.dot)) σ:=by
 show Ret Tryz.prog n_i_sortLives_f1 [.agg (pLive.enc a),.agg (pLive.enc b)] σ (gi (cmpDot a.dot b.dot)) σ
 simp only[enc_Live]
 refine ret_xe ir_i_sortLives_f1 (Nat.le_of_ble_eq_true rfl) trivial ?_
 simp +contextual (disch:=omega) only[go_sem,F_i_sortLives_f1]
 intro n f τ H n2 f2 τ2 H2
 refine by_r H2 (i_compareDots_ret _ _ _) ?_
 simp +contextual (disch:=omega) only[go_sem]
theorem cell_call (σ:St) (a b:Cell):Ret Tryz.prog n_i_mergedCells_f1 [elCell.val a,elCell.val b] σ (gi (cmpDot a.dot b.dot)) σ:=by
 show Ret Tryz.prog n_i_mergedCells_f1 [.agg (pCell.enc a),.agg (pCell.enc b)] σ (gi (cmpDot a.dot b.dot)) σ
 simp only[enc_Cell]
 refine ret_xe ir_i_mergedCells_f1 (Nat.le_of_ble_eq_true rfl) trivial ?_
 simp +contextual (disch:=omega) only[go_sem,F_i_mergedCells_f1]
 intro n f τ H n2 f2 τ2 H2
 refine by_r H2 (i_compareDots_ret _ _ _) ?_
 simp +contextual (disch:=omega) only[go_sem]
def qTally:SN:=⟨n_slices_insertionSortCmpFunc_impl_Tally,n_slices_siftDownCmpFunc_impl_Tally,n_slices_heapSortCmpFunc_impl_Tally,n_slices_reverseRangeCmpFunc_impl_Tally,n_slices_partialInsertionSortCmpFunc_impl_Tally,n_slices_partitionEqualCmpFunc_impl_Tally,n_slices_partitionCmpFunc_impl_Tally,n_slices_breakPatternsCmpFunc_impl_Tally,n_slices_order2CmpFunc_impl_Tally,n_slices_medianCmpFunc_impl_Tally,n_slices_medianAdjacentCmpFunc_impl_Tally,n_slices_choosePivotCmpFunc_impl_Tally,n_slices_pdqsortCmpFunc_impl_Tally,0,n_slices_nextPowerOfTwo,n_slices_xorshift_Next⟩
def qLive:SN:=⟨n_slices_insertionSortCmpFunc_impl_Live,n_slices_siftDownCmpFunc_impl_Live,n_slices_heapSortCmpFunc_impl_Live,n_slices_reverseRangeCmpFunc_impl_Live,n_slices_partialInsertionSortCmpFunc_impl_Live,n_slices_partitionEqualCmpFunc_impl_Live,n_slices_partitionCmpFunc_impl_Live,n_slices_breakPatternsCmpFunc_impl_Live,n_slices_order2CmpFunc_impl_Live,n_slices_medianCmpFunc_impl_Live,n_slices_medianAdjacentCmpFunc_impl_Live,n_slices_choosePivotCmpFunc_impl_Live,n_slices_pdqsortCmpFunc_impl_Live,0,n_slices_nextPowerOfTwo,n_slices_xorshift_Next⟩
def srtTally:SrtC Tally tallyLt where
 e:=elTally
 q:=qTally
 f:=n_i_compareTallies
 k:=cmpTally
 call:=tally_call
 klt:=fun a b=>cmpTally_lt
 h_insertionSort:=by kernel_rfl
 h_siftDown:=by kernel_rfl
 h_heapSort:=by kernel_rfl
 h_reverseRange:=by kernel_rfl
 h_partialInsertionSort:=by kernel_rfl
 h_partitionEqual:=by kernel_rfl
 h_partition:=by kernel_rfl
 h_breakPatterns:=by kernel_rfl
 h_order2:=by kernel_rfl
 h_median:=by kernel_rfl
 h_medianAdjacent:=by kernel_rfl
 h_choosePivot:=by kernel_rfl
 h_pdqsort:=by kernel_rfl
 nS:=n_slices_SortFunc_impl_Tally_impl_Tally
 h_Sort:=by kernel_rfl
 hnp:=rfl
 hxs:=rfl
def srtLive:SrtC Live liveLt where
 e:=elLive
 q:=qLive
 f:=n_i_sortLives_f1
 k:=fun a b=>cmpDot a.dot b.dot
 call:=live_call
 klt:=fun a b=>cmpDot_lt
 h_insertionSort:=by kernel_rfl
 h_siftDown:=by kernel_rfl
 h_heapSort:=by kernel_rfl
 h_reverseRange:=by kernel_rfl
 h_partialInsertionSort:=by kernel_rfl
 h_partitionEqual:=by kernel_rfl
 h_partition:=by kernel_rfl
 h_breakPatterns:=by kernel_rfl
 h_order2:=by kernel_rfl
 h_median:=by kernel_rfl
 h_medianAdjacent:=by kernel_rfl
 h_choosePivot:=by kernel_rfl
 h_pdqsort:=by kernel_rfl
 nS:=n_slices_SortFunc_impl_Live_impl_Live
 h_Sort:=by kernel_rfl
 hnp:=rfl
 hxs:=rfl
def srtCellD:SrtC Cell cellLt where
 e:=elCell
 q:=qCell
 f:=n_i_mergedCells_f1
 k:=fun a b=>cmpDot a.dot b.dot
 call:=cell_call
 klt:=fun a b=>cmpDot_lt
 h_insertionSort:=by kernel_rfl
 h_siftDown:=by kernel_rfl
 h_heapSort:=by kernel_rfl
 h_reverseRange:=by kernel_rfl
 h_partialInsertionSort:=by kernel_rfl
 h_partitionEqual:=by kernel_rfl
 h_partition:=by kernel_rfl
 h_breakPatterns:=by kernel_rfl
 h_order2:=by kernel_rfl
 h_median:=by kernel_rfl
 h_medianAdjacent:=by kernel_rfl
 h_choosePivot:=by kernel_rfl
 h_pdqsort:=by kernel_rfl
 nS:=n_slices_SortFunc_impl_Cell_impl_Cell
 h_Sort:=by kernel_rfl
 hnp:=rfl
 hxs:=rfl
end Go.Proofs.YtffnefmklckngaaGreat.Sy
namespace Go.Proofs.YtffnefmklckngaaGreat.Sy
open Go Go.RowKit
set_option linter.unusedSimpArgs false
set_option linter.unusedVariables false
attribute [go_sem] List.set_cons_zero List.set_cons_succ List.eraseIdx_cons_succ List.eraseIdx_cons_zero List.map_cons List.map_nil List.cons_append List.nil_append
section
variable {P:Program} {D:Bool} {σ τ:St} {env:Env} {h:List Item} {k:Kx} {v:GV} {α:Type} {l:List α}
theorem flt_t {p:α→Bool} {i:Nat} (hi:i<l.length) (hp:p l[i]=true):(l.take (i+1)).filter p=(l.take i).filter p++[l[i]]:=by
 rw[List.take_succ_eq_append_getElem hi,List.filter_append,List.filter_cons,hp];rfl
theorem flt_f {p:α→Bool} {i:Nat} (hi:i<l.length) (hp:p l[i]=false):(l.take (i+1)).filter p=(l.take i).filter p:=by
 rw[List.take_succ_eq_append_getElem hi,List.filter_append,List.filter_cons,hp];simp
theorem flt_le {p:α→Bool} {i n:Nat} (hl:l.length≤n):((l.take i).filter p).length≤n:=Nat.le_trans (List.length_filter_le _ _) (Nat.le_trans (by rw[List.length_take];omega) hl)
theorem Hx.of {rs:List Thg} (H:Hp σ τ rs):Hx σ τ (rs.map Item.th):=by
 have e:(rs.map Item.th).map Item.t=rs:=by
  have:=map_th (rs:=rs) (h:=[])
  simpa using this
 unfold Hx
 rw[e];exact H
theorem Hx.nil (H:Hx σ τ h) (d:Kd α):Hx σ τ (.th (ow d .nilS ([]:List α))::h):=Hp.nilS H
theorem Hx.emp {z n:Nat} (H:Hx σ τ (.box z n []::h)) (d:Kd α) (hz:z=d.z):Hx σ τ (.th (ow d (.sl n 0 0) ([]:List α))::h):=H.hp.toNil 0 rfl hz
theorem by_mset {f:Nat} {args:List GV} {w:GV} {τ':St} {r:Thg} (i:Nat) (R:Ret P f args τ w τ') (K:Hp σ τ' ((h.map Item.t).set i r)) (kk:Hx σ τ' (h.set i (.th r))→k w (h.set i (.th r)) τ'):callX P σ false τ f args k:=by
 rw[← set_t] at K
 exact by_m R K (kk K)
theorem Hx.mlk {m:GV} {ps:List (Dot×Int)} (H:Hx σ τ h) (i:Nat) (hi:h[i]? =some (.th (mpt m ps))) (d:Dot):mlkG τ [.i .i64,.i .i64] (gi 0) true m (.agg [gi d.rep,gi d.seq])=some (.tup [gi ((dlook ps d).getD 0),.bool (dlook ps d).isSome]):=H.hp.mlk i (at_t hi) d
theorem ldX_own (H:Hx σ τ h) {g:Bool} {n:Nat} {a x:GV} (e:ldG g n τ a=some x):ldX σ h τ g n a=some x:=by
 unfold ldX orX
 cases h1:ldG g n σ a with
 |some y=>have:=ldG_pre h1 H.sub;rw[e] at this;exact this.symm
 |none=>
  show ldY h τ g n a=some x
  cases a with
  |ptr b off=>
   simp only[ldY]
   cases hl:look h b with
   |none=>exact e
   |some cs=>
    obtain⟨z,i,h2,_⟩:=look_at hl
    have:=H.hp.pt i h2
    simp only[ldG,this,Option.bind_some] at e
    exact e
  |_=>exact e
theorem look_box:∀ {h:List Item} {n:Nat} {cs:List GV},look h n=some cs→∃ z,∃ i:Nat,h[i]? =some (.box z n cs)
 |[],_,_,e=>by cases e
 | .box z m cs'::h,n,cs,e=>by
  simp only[look] at e
  by_cases hm:m=n
  ·rw[if_pos hm] at e
   injection e with e;subst e hm
   exact⟨z,0,rfl⟩
  ·rw[if_neg hm] at e
   obtain⟨z',i,h1⟩:=look_box e
   exact⟨z',i+1,by simpa using h1⟩
 | .th r::h,n,cs,e=>by
  obtain⟨z',i,h1⟩:=look_box (h:=h) (by simpa [look] using e)
  exact⟨z',i+1,by simpa using h1⟩
theorem no_box (H:Hx σ τ h) {i:Nat} {r:Thg} (hi:h[i]? =some (.th r)) {b:Nat} (hb:∀ fp,r.P τ fp→b∈fp):look h b=none:=by
 cases hl:look h b with
 |none=>rfl
 |some cs=>
  obtain⟨z,j,h1⟩:=look_box hl
  obtain⟨_,fp,hs,hn,_⟩:=H.hp
  obtain⟨F,k1,k2,k3,_⟩:=sat_feet hs hn
  have hj:=k1 j (pt z b cs) (by rw[List.getElem?_map,h1];rfl)
  have hr:=k1 i _ (at_t hi)
  have hij:i≠j:=by
   rintro rfl
   rw[hi] at h1;cases h1
  have h2:b∈F j:=by rw[hj.1];exact List.mem_cons_self
  exact(k3 i j hij b (hb _ hr) h2).elim
end
end Go.Proofs.YtffnefmklckngaaGreat.Sy
namespace Go.Proofs.YtffnefmklckngaaGreat.Sy
open Go Go.RowKit
set_option linter.unusedSimpArgs false
set_option linter.unusedVariables false
set_option maxRecDepth 4000
abbrev n_i_mergedTallies:Nat:=204
def F_i_mergedTallies:Fn1:=⟨47,[.t 6],(.seq (.reg [o 6 (.mov (.k .nilS))]) (.seq (.reg [o 12 (.lit 3 0 [] []),o 7 (.mov (.t 12))]) (.seq (.seq (.reg [o 13 (.mov (.t 0)),o 14 (.len false (.t 13)),o 15 (.mov (.k (.int .i64 0)))]) (.blk 0 (.lop (.seq (.reg [o 16 (.bin .lss (.t 15) (.t 14))]) (.seq (.cnd (.t 16) .skip (.ext 0)) (.seq (.blk 1 (.seq (.reg [o 17 (.iad 3 (.t 13) (.t 15)),o 18 (.ld true 3 (.t 17)),o 9 (.new [(.str ⟨#[]⟩),(.int .i64 0),(.int .i64 0)]),on (.st 3 (.t 9) (.t 18))]) (.seq (.reg [o 19 (.mov (.t 2)),o 20 (.fad 1 (.t 9)),o 21 (.ld false 1 (.t 20)),o 22 (.callv (.t 19) [(.t 21)]),o 23 (.un .not (.t 22))]) (.cnd (.t 23) (.reg [o 24 (.mov (.t 7)),o 25 (.ld true 3 (.t 9)),o 26 (.lit 3 1 [(.str ⟨#[]⟩),(.int .i64 0),(.int .i64 0)] [(0,3,(.t 25))]),o 27 (.app 3 32 [(.str ⟨#[]⟩),(.int .i64 0),(.int .i64 0)] (.t 24) (.t 26)),o 7 (.mov (.t 27))]) .skip)))) (.reg [o 28 (.bin .add (.t 15) (.k (.int .i64 1))),o 15 (.mov (.t 28))]))))))) (.seq (.seq (.reg [o 29 (.mov (.t 1)),o 30 (.len false (.t 29)),o 31 (.mov (.k (.int .i64 0)))]) (.blk 2 (.lop (.seq (.reg [o 32 (.bin .lss (.t 31) (.t 30))]) (.seq (.cnd (.t 32) .skip (.ext 2)) (.seq (.blk 3 (.seq (.reg [o 33 (.iad 3 (.t 29) (.t 31)),o 34 (.ld true 3 (.t 33)),o 11 (.new [(.str ⟨#[]⟩),(.int .i64 0),(.int .i64 0)]),on (.st 3 (.t 11) (.t 34))]) (.seq (.reg [o 35 (.mov (.t 2)),o 36 (.fad 1 (.t 11)),o 37 (.ld false 1 (.t 36)),o 38 (.callv (.t 35) [(.t 37)])]) (.cnd (.t 38) (.reg [o 39 (.mov (.t 7)),o 40 (.ld true 3 (.t 11)),o 41 (.lit 3 1 [(.str ⟨#[]⟩),(.int .i64 0),(.int .i64 0)] [(0,3,(.t 40))]),o 42 (.app 3 32 [(.str ⟨#[]⟩),(.int .i64 0),(.int .i64 0)] (.t 39) (.t 41)),o 7 (.mov (.t 42))]) .skip)))) (.reg [o 43 (.bin .add (.t 31) (.k (.int .i64 1))),o 31 (.mov (.t 43))]))))))) (.seq (.reg [o 44 (.mov (.t 7)),o 45 (.call 238 [(.t 44),(.k (.fn 201 []))])]) (.seq (.reg [o 46 (.mov (.t 7)),o 6 (.mov (.t 46))]) .ret))))))⟩
abbrev n_i_sortLives:Nat:=208
def F_i_sortLives:Fn1:=⟨4,[],(.reg [o 2 (.mov (.t 0)),o 3 (.call 241 [(.t 2),(.k (.fn 242 []))])])⟩
abbrev n_i_mergedCells:Nat:=209
def F_i_mergedCells:Fn1:=⟨64,[.t 4],(.seq (.reg [o 4 (.mov (.k .nilS))]) (.seq (.reg [o 13 (.lit 8 0 [] []),o 14 (.mov (.t 0)),o 15 (.app 8 72 [(.str ⟨#[]⟩),(.int .i64 0),(.int .i64 0),(.int .i64 0),(.int .i64 0),(.int .i64 0),(.int .i64 0),(.bool false)] (.t 13) (.t 14)),o 5 (.mov (.t 15))]) (.seq (.reg [o 16 (.mkm),o 6 (.mov (.t 16))]) (.seq (.seq (.reg [o 17 (.mov (.t 0)),o 18 (.len false (.t 17)),o 19 (.mov (.k (.int .i64 0)))]) (.blk 0 (.lop (.seq (.reg [o 20 (.bin .lss (.t 19) (.t 18))]) (.seq (.cnd (.t 20) .skip (.ext 0)) (.seq (.blk 1 (.seq (.reg [o 21 (.mov (.t 19)),o 22 (.iad 8 (.t 17) (.t 19)),o 23 (.ld true 8 (.t 22)),o 8 (.new [(.str ⟨#[]⟩),(.int .i64 0),(.int .i64 0),(.int .i64 0),(.int .i64 0),(.int .i64 0),(.int .i64 0),(.bool false)]),o 7 (.mov (.t 21)),on (.st 8 (.t 8) (.t 23))]) (.reg [o 24 (.mov (.t 6)),o 25 (.fad 1 (.t 8)),o 26 (.ld true 2 (.t 25)),o 27 (.mov (.t 7)),on (.mup [.i .i64,.i .i64] (.t 24) (.t 26) (.t 27))]))) (.reg [o 28 (.bin .add (.t 19) (.k (.int .i64 1))),o 19 (.mov (.t 28))]))))))) (.seq (.seq (.reg [o 29 (.mov (.t 1)),o 30 (.len false (.t 29)),o 31 (.mov (.k (.int .i64 0)))]) (.blk 2 (.lop (.seq (.reg [o 32 (.bin .lss (.t 31) (.t 30))]) (.seq (.cnd (.t 32) .skip (.ext 2)) (.seq (.blk 3 (.seq (.reg [o 33 (.iad 8 (.t 29) (.t 31)),o 34 (.ld true 8 (.t 33)),o 10 (.new [(.str ⟨#[]⟩),(.int .i64 0),(.int .i64 0),(.int .i64 0),(.int .i64 0),(.int .i64 0),(.int .i64 0),(.bool false)]),on (.st 8 (.t 10) (.t 34))]) (.seq (.reg [o 36 (.mov (.t 6)),o 37 (.fad 1 (.t 10)),o 38 (.ld true 2 (.t 37)),o 39 (.mlk [.i .i64,.i .i64] (.int .i64 0) true (.t 36) (.t 38)),o 35 (.mov (.t 39)),o 40 (.ext 0 (.t 35)),o 41 (.ext 1 (.t 35)),o 11 (.mov (.t 40)),o 12 (.mov (.t 41))]) (.seq (.reg [o 42 (.mov (.t 12))]) (.cnd (.t 42) (.reg [o 43 (.mov (.t 5)),o 44 (.mov (.t 11)),o 45 (.mov (.t 5)),o 46 (.mov (.t 11)),o 47 (.iad 8 (.t 45) (.t 46)),o 48 (.fad 7 (.t 47)),o 49 (.ld false 1 (.t 48)),o 50 (.mov (.t 49)),og 51 50 false (.fad 7 (.t 10)),og 52 50 false (.ld false 1 (.t 51)),o 53 (.pick (.t 50) (.k (.bool true)) (.t 52)),o 54 (.iad 8 (.t 43) (.t 44)),o 55 (.fad 7 (.t 54)),on (.st 1 (.t 55) (.t 53))]) (.reg [o 56 (.mov (.t 5)),o 57 (.ld true 8 (.t 10)),o 58 (.lit 8 1 [(.str ⟨#[]⟩),(.int .i64 0),(.int .i64 0),(.int .i64 0),(.int .i64 0),(.int .i64 0),(.int .i64 0),(.bool false)] [(0,8,(.t 57))]),o 59 (.app 8 72 [(.str ⟨#[]⟩),(.int .i64 0),(.int .i64 0),(.int .i64 0),(.int .i64 0),(.int .i64 0),(.int .i64 0),(.bool false)] (.t 56) (.t 58)),o 5 (.mov (.t 59))])))))) (.reg [o 60 (.bin .add (.t 31) (.k (.int .i64 1))),o 31 (.mov (.t 60))]))))))) (.seq (.reg [o 61 (.mov (.t 5)),o 62 (.call 231 [(.t 61),(.k (.fn 243 []))])]) (.seq (.reg [o 63 (.mov (.t 5)),o 4 (.mov (.t 63))]) .ret)))))))⟩
end Go.Proofs.YtffnefmklckngaaGreat.Sy
namespace Go.Proofs.YtffnefmklckngaaGreat.Sy
open Go Go.RowKit
set_option linter.unusedSimpArgs false
set_option linter.unusedVariables false
def kMin (a b:List Int):List Int:=zipK mn a b
def ordOf (a b:List Int):Int:=if okK a&&okK b then(if a=b then 0 else if knowIn a b then -1 else if knowIn b a then 1 else 2) else 3
def joinL (ll:List (List Int)):List Int:=if ll.all okK then ll.foldl kMax [0,0,0] else[]
def meetG:List (List Int)→List Int
 |[]=>[]
 |k::r=>(k::r).foldl kMin k
def meetL (ll:List (List Int)):List Int:=if ll.all okK then meetG ll else[]
end Go.Proofs.YtffnefmklckngaaGreat.Sy
namespace Go.Proofs.YtffnefmklckngaaGreat.Sy
open Go Go.RowKit
set_option linter.unusedSimpArgs false
set_option linter.unusedVariables false
set_option maxRecDepth 4000
abbrev n_i_DoDelta_f1:Nat:=205
def F_i_DoDelta_f1:Fn1:=⟨16,[.t 4],(.seq (.reg [o 4 (.mov (.k (.bool false)))]) (.seq (.drw [o 5 (.fad 1 (.t 1)),o 6 (.ld false 1 (.t 5)),o 7 (.mov (.t 0)),o 8 (.iad 1 (.t 6) (.t 7)),o 9 (.ld false 1 (.t 8)),o 10 (.fad 0 (.t 2)),o 11 (.ld false 1 (.t 10)),o 12 (.mov (.t 0)),o 13 (.iad 1 (.t 11) (.t 12)),o 14 (.ld false 1 (.t 13))] [o 15 (.bin .gtr (.t 9) (.t 14)),o 4 (.mov (.t 15))]) .ret))⟩
abbrev n_i_DoDelta:Nat:=161
def F_i_DoDelta:Fn1:=⟨134,[.c 4 true 4,.t 5],(.seq (.reg [o 2 (.box (.t 0)),o 3 (.box (.t 1)),o 4 (.new [.nilS,.nilS,.nilS,.nilS]),o 5 (.mov (.k (.int .i64 0)))]) (.seq (.reg [o 13 (.ld true 4 (.t 2)),o 14 (.call 93 [(.t 13)]),o 6 (.new [.nilS,.nilS,.nilS,.nilS]),on (.st 4 (.t 6) (.t 14))]) (.seq (.blk 0 (.seq (.reg [o 16 (.ld true 4 (.t 2)),o 17 (.call 146 [(.t 16)]),o 18 (.un .not (.t 17)),o 19 (.mov (.t 18)),og 20 19 false (.ld true 6 (.t 3)),og 21 19 false (.call 109 [(.t 20)]),og 22 19 false (.un .not (.t 21)),o 23 (.pick (.t 19) (.k (.bool true)) (.t 22)),o 15 (.mov (.t 23))]) (.cnd (.t 15) (.seq (.reg [o 24 (.ld true 4 (.t 6)),on (.st 4 (.t 4) (.t 24)),o 5 (.mov (.k (.int .i64 3)))]) .ret) (.seq (.reg [o 26 (.fad 1 (.t 3)),o 27 (.ld false 1 (.t 26)),o 28 (.fad 0 (.t 2)),o 29 (.ld false 1 (.t 28)),o 30 (.call 151 [(.t 27),(.t 29)]),o 25 (.mov (.t 30))]) (.cnd (.t 25) (.seq (.reg [o 31 (.ld true 4 (.t 6)),on (.st 4 (.t 4) (.t 31)),o 5 (.mov (.k (.int .i64 1)))]) .ret) (.seq (.reg [o 33 (.fad 0 (.t 3)),o 34 (.ld false 1 (.t 33)),o 35 (.fad 0 (.t 2)),o 36 (.ld false 1 (.t 35)),o 37 (.call 151 [(.t 34),(.t 36)]),o 38 (.un .not (.t 37)),o 32 (.mov (.t 38))]) (.cnd (.t 32) (.seq (.reg [o 39 (.ld true 4 (.t 6)),on (.st 4 (.t 4) (.t 39)),o 5 (.mov (.k (.int .i64 2)))]) .ret) .skip))))))) (.seq (.reg [o 40 (.fad 0 (.t 2)),o 41 (.ld false 1 (.t 40)),o 42 (.fad 1 (.t 3)),o 43 (.ld false 1 (.t 42)),o 44 (.call 203 [(.t 41),(.t 43)]),o 45 (.build [.nilS,.nilS,.nilS,.nilS] [(0,1,(.t 44))]),o 7 (.new [.nilS,.nilS,.nilS,.nilS]),on (.st 4 (.t 7) (.t 45))]) (.seq (.reg [o 46 (.fad 1 (.t 2)),o 47 (.ld false 1 (.t 46)),o 48 (.fad 2 (.t 3)),o 49 (.ld false 1 (.t 48)),o 50 (.mkf 205 [(.t 3),(.t 2)]),o 51 (.call 204 [(.t 47),(.t 49),(.t 50)]),o 52 (.fad 1 (.t 7)),on (.st 1 (.t 52) (.t 51))]) (.seq (.seq (.reg [o 53 (.fad 2 (.t 2)),o 54 (.ld false 1 (.t 53)),o 55 (.len false (.t 54)),o 56 (.mov (.k (.int .i64 0)))]) (.blk 1 (.lop (.seq (.reg [o 57 (.bin .lss (.t 56) (.t 55))]) (.seq (.cnd (.t 57) .skip (.ext 1)) (.seq (.blk 2 (.seq (.reg [o 58 (.iad 6 (.t 54) (.t 56)),o 59 (.ld true 6 (.t 58)),o 9 (.new [(.bool false),(.str ⟨#[]⟩),(.str ⟨#[]⟩),(.int .i64 0),(.int .i64 0),(.int .i64 0)]),on (.st 6 (.t 9) (.t 59))]) (.seq (.reg [o 60 (.fad 1 (.t 3)),o 61 (.ld false 1 (.t 60)),o 62 (.fad 4 (.t 9)),o 63 (.ld true 2 (.t 62)),o 64 (.call 150 [(.t 61),(.t 63)]),o 65 (.mov (.t 64)),og 66 65 true (.fad 0 (.t 3)),og 67 65 true (.ld false 1 (.t 66)),og 68 65 true (.fad 4 (.t 9)),og 69 65 true (.ld true 2 (.t 68)),og 70 65 true (.call 150 [(.t 67),(.t 69)]),og 71 65 true (.un .not (.t 70)),o 72 (.pick (.t 65) (.t 71) (.k (.bool false))),o 73 (.mov (.t 72)),og 74 73 true (.fad 3 (.t 3)),og 75 73 true (.ld false 1 (.t 74)),og 76 73 true (.ld true 6 (.t 9)),og 77 73 true (.call 206 [(.t 75),(.t 76)]),og 78 73 true (.un .not (.t 77)),o 79 (.pick (.t 73) (.t 78) (.k (.bool false))),o 10 (.mov (.t 79))]) (.seq (.reg [o 80 (.mov (.t 10)),o 81 (.un .not (.t 80)),o 82 (.mov (.t 81)),og 83 82 true (.fad 4 (.t 3)),og 84 82 true (.ld false 1 (.t 83)),og 85 82 true (.fad 4 (.t 9)),og 86 82 true (.ld true 2 (.t 85)),og 87 82 true (.call 207 [(.t 84),(.t 86)]),og 88 82 true (.un .not (.t 87)),o 89 (.pick (.t 82) (.t 88) (.k (.bool false)))]) (.cnd (.t 89) (.reg [o 90 (.fad 2 (.t 7)),o 91 (.ld false 1 (.t 90)),o 92 (.ld true 6 (.t 9)),o 93 (.lit 6 1 [(.bool false),(.str ⟨#[]⟩),(.str ⟨#[]⟩),(.int .i64 0),(.int .i64 0),(.int .i64 0)] [(0,6,(.t 92))]),o 94 (.app 6 64 [(.bool false),(.str ⟨#[]⟩),(.str ⟨#[]⟩),(.int .i64 0),(.int .i64 0),(.int .i64 0)] (.t 91) (.t 93)),o 95 (.fad 2 (.t 7)),on (.st 1 (.t 95) (.t 94))]) .skip))))) (.reg [o 96 (.bin .add (.t 56) (.k (.int .i64 1))),o 56 (.mov (.t 96))]))))))) (.seq (.seq (.reg [o 97 (.fad 3 (.t 3)),o 98 (.ld false 1 (.t 97)),o 99 (.len false (.t 98)),o 100 (.mov (.k (.int .i64 0)))]) (.blk 3 (.lop (.seq (.reg [o 101 (.bin .lss (.t 100) (.t 99))]) (.seq (.cnd (.t 101) .skip (.ext 3)) (.seq (.blk 4 (.seq (.reg [o 102 (.iad 6 (.t 98) (.t 100)),o 103 (.ld true 6 (.t 102)),o 12 (.new [(.bool false),(.str ⟨#[]⟩),(.str ⟨#[]⟩),(.int .i64 0),(.int .i64 0),(.int .i64 0)]),on (.st 6 (.t 12) (.t 103))]) (.seq (.reg [o 104 (.fad 0 (.t 2)),o 105 (.ld false 1 (.t 104)),o 106 (.fad 4 (.t 12)),o 107 (.ld true 2 (.t 106)),o 108 (.call 150 [(.t 105),(.t 107)]),o 109 (.un .not (.t 108))]) (.cnd (.t 109) (.reg [o 110 (.fad 2 (.t 7)),o 111 (.ld false 1 (.t 110)),o 112 (.ld true 6 (.t 12)),o 113 (.lit 6 1 [(.bool false),(.str ⟨#[]⟩),(.str ⟨#[]⟩),(.int .i64 0),(.int .i64 0),(.int .i64 0)] [(0,6,(.t 112))]),o 114 (.app 6 64 [(.bool false),(.str ⟨#[]⟩),(.str ⟨#[]⟩),(.int .i64 0),(.int .i64 0),(.int .i64 0)] (.t 111) (.t 113)),o 115 (.fad 2 (.t 7)),on (.st 1 (.t 115) (.t 114))]) .skip)))) (.reg [o 116 (.bin .add (.t 100) (.k (.int .i64 1))),o 100 (.mov (.t 116))]))))))) (.seq (.reg [o 117 (.fad 2 (.t 7)),o 118 (.ld false 1 (.t 117)),o 119 (.call 208 [(.t 118)])]) (.seq (.reg [o 120 (.fad 3 (.t 2)),o 121 (.ld false 1 (.t 120)),o 122 (.fad 5 (.t 3)),o 123 (.ld false 1 (.t 122)),o 124 (.call 209 [(.t 121),(.t 123)]),o 125 (.fad 3 (.t 7)),on (.st 1 (.t 125) (.t 124))]) (.seq (.seq (.reg [o 126 (.ld true 4 (.t 7)),o 127 (.call 157 [(.t 126)])]) (.cnd (.t 127) (.seq (.reg [o 128 (.ld true 4 (.t 6)),on (.st 4 (.t 4) (.t 128)),o 5 (.mov (.k (.int .i64 4)))]) .ret) .skip)) (.seq (.seq (.reg [o 129 (.ld true 4 (.t 7)),o 130 (.call 146 [(.t 129)]),o 131 (.un .not (.t 130))]) (.cnd (.t 131) (.seq (.reg [o 132 (.ld true 4 (.t 6)),on (.st 4 (.t 4) (.t 132)),o 5 (.mov (.k (.int .i64 3)))]) .ret) .skip)) (.seq (.reg [o 133 (.ld true 4 (.t 7)),on (.st 4 (.t 4) (.t 133)),o 5 (.mov (.k (.int .i64 0)))]) .ret))))))))))))⟩
def fromD (s:State) (d:Delta) (rep:Int):Bool:=decide (at0 s.know rep<at0 d.know rep)
def keepD (d:Delta) (l:Live):Bool:= !(knows d.know l.dot&&(!knows d.base l.dot&& !decide (l∈d.lives)))&& !decide (l.dot∈d.dead)
def newD (s:State) (l:Live):Bool:= !knows s.know l.dot
def dltTo (s:State) (d:Delta):State:=⟨kMax s.know d.know,mergeT (fromD s d) s.tallies d.tallies,insAll liveLt (s.lives.filter (keepD d)++d.lives.filter (newD s)),mergeC s.cells d.cells⟩
def doDelta (s:State) (d:Delta):State×Int:=
 if !(stateOk s&&deltaOk d) then(s,3) else if knowIn d.know s.know then(s,1) else if !knowIn d.base s.know then(s,2) else
 if tooMany (dltTo s d) then(s,4) else if !stateOk (dltTo s d) then(s,3) else(dltTo s d,0)
abbrev z4':List GV:=[GV.nilS,GV.nilS,GV.nilS,GV.nilS]
end Go.Proofs.YtffnefmklckngaaGreat.Sy
namespace Go.Proofs.YtffnefmklckngaaGreat.Sy
open Go Go.RowKit
set_option linter.unusedSimpArgs false
set_option linter.unusedVariables false
set_option maxRecDepth 4000
abbrev n_s_l10Cells:Nat:=235
def F_s_l10Cells:Fn1:=⟨54,[.t 4],(.seq (.reg [o 4 (.mov (.k .nilS))]) (.seq (.reg [o 9 (.lit 8 0 [] []),o 10 (.mov (.t 0)),o 11 (.app 8 72 [(.str ⟨#[]⟩),(.int .i64 0),(.int .i64 0),(.int .i64 0),(.int .i64 0),(.int .i64 0),(.int .i64 0),(.bool false)] (.t 9) (.t 10)),o 5 (.mov (.t 11))]) (.seq (.seq (.reg [o 6 (.mov (.k (.int .i64 0)))]) (.blk 0 (.lop (.seq (.seq (.reg [o 12 (.mov (.t 6)),o 13 (.mov (.t 1)),o 14 (.len false (.t 13)),o 15 (.bin .lss (.t 12) (.t 14))]) (.cnd (.t 15) .skip (.ext 0))) (.seq (.blk 1 (.seq (.reg [o 7 (.mov (.k (.int .i64 (-1))))]) (.seq (.seq (.reg [o 8 (.mov (.k (.int .i64 0)))]) (.blk 2 (.lop (.seq (.seq (.reg [o 18 (.mov (.t 8)),o 19 (.mov (.t 5)),o 20 (.len false (.t 19)),o 21 (.bin .lss (.t 18) (.t 20))]) (.cnd (.t 21) .skip (.ext 2))) (.seq (.blk 3 (.seq (.drw [o 24 (.mov (.t 5)),o 25 (.mov (.t 8)),o 26 (.iad 8 (.t 24) (.t 25)),o 27 (.fad 1 (.t 26)),o 28 (.ld true 2 (.t 27)),o 29 (.mov (.t 1)),o 30 (.mov (.t 6)),o 31 (.iad 8 (.t 29) (.t 30)),o 32 (.fad 1 (.t 31)),o 33 (.ld true 2 (.t 32))] [o 34 (.eqs false [.i .i64,.i .i64] (.t 28) (.t 33))]) (.cnd (.t 34) (.reg [o 35 (.mov (.t 8)),o 7 (.mov (.t 35))]) .skip))) (.reg [o 22 (.mov (.t 8)),o 23 (.bin .add (.t 22) (.k (.int .i64 1))),o 8 (.mov (.t 23))])))))) (.seq (.reg [o 36 (.mov (.t 7)),o 37 (.bin .lss (.t 36) (.k (.int .i64 0)))]) (.cnd (.t 37) (.reg [o 38 (.mov (.t 5)),o 39 (.mov (.t 1)),o 40 (.mov (.t 6)),o 41 (.iad 8 (.t 39) (.t 40)),o 42 (.ld true 8 (.t 41)),o 43 (.call 197 [(.t 38),(.t 42)]),o 5 (.mov (.t 43))]) (.seq (.reg [o 44 (.mov (.t 1)),o 45 (.mov (.t 6)),o 46 (.iad 8 (.t 44) (.t 45)),o 47 (.fad 7 (.t 46)),o 48 (.ld false 1 (.t 47))]) (.cnd (.t 48) (.reg [o 49 (.mov (.t 5)),o 50 (.mov (.t 7)),o 51 (.iad 8 (.t 49) (.t 50)),o 52 (.fad 7 (.t 51)),on (.st 1 (.t 52) (.k (.bool true)))]) .skip))))))) (.reg [o 16 (.mov (.t 6)),o 17 (.bin .add (.t 16) (.k (.int .i64 1))),o 6 (.mov (.t 17))])))))) (.seq (.reg [o 53 (.mov (.t 5)),o 4 (.mov (.t 53))]) .ret))))⟩
end Go.Proofs.YtffnefmklckngaaGreat.Sy
namespace Go.Proofs.YtffnefmklckngaaGreat.Sy
open Go Go.RowKit
set_option linter.unusedSimpArgs false
set_option linter.unusedVariables false
set_option maxRecDepth 4000
abbrev n_s_l11Done:Nat:=202
def F_s_l11Done:Fn1:=⟨164,[.c 4 true 4],(.seq (.reg [o 2 (.box (.t 0)),o 3 (.box (.t 1)),o 4 (.new [.nilS,.nilS,.nilS,.nilS])]) (.seq (.drw [o 14 (.fad 0 (.t 2)),o 15 (.ld false 1 (.t 14)),o 16 (.fad 1 (.t 3)),o 17 (.ld false 1 (.t 16)),o 18 (.call 234 [(.t 15),(.t 17)]),o 19 (.fad 3 (.t 2)),o 20 (.ld false 1 (.t 19)),o 21 (.fad 5 (.t 3)),o 22 (.ld false 1 (.t 21)),o 23 (.call 235 [(.t 20),(.t 22)]),o 24 (.build [.nilS,.nilS,.nilS,.nilS] [(0,1,(.t 18)),(3,1,(.t 23))]),o 5 (.new [.nilS,.nilS,.nilS,.nilS])] [on (.st 4 (.t 5) (.t 24))]) (.seq (.seq (.reg [o 6 (.mov (.k (.int .i64 0)))]) (.blk 0 (.lop (.seq (.seq (.reg [o 25 (.mov (.t 6)),o 26 (.fad 1 (.t 2)),o 27 (.ld false 1 (.t 26)),o 28 (.len false (.t 27)),o 29 (.bin .lss (.t 25) (.t 28))]) (.cnd (.t 29) .skip (.ext 0))) (.seq (.blk 1 (.seq (.reg [o 32 (.fad 1 (.t 2)),o 33 (.ld false 1 (.t 32)),o 34 (.mov (.t 6)),o 35 (.iad 3 (.t 33) (.t 34)),o 36 (.ld true 3 (.t 35)),o 7 (.new [(.str ⟨#[]⟩),(.int .i64 0),(.int .i64 0)]),on (.st 3 (.t 7) (.t 36))]) (.seq (.drw [o 37 (.fad 1 (.t 3)),o 38 (.ld false 1 (.t 37)),o 39 (.fad 1 (.t 7)),o 40 (.ld false 1 (.t 39)),o 41 (.iad 1 (.t 38) (.t 40)),o 42 (.ld false 1 (.t 41)),o 43 (.fad 0 (.t 2)),o 44 (.ld false 1 (.t 43)),o 45 (.fad 1 (.t 7)),o 46 (.ld false 1 (.t 45)),o 47 (.iad 1 (.t 44) (.t 46)),o 48 (.ld false 1 (.t 47))] [o 49 (.bin .leq (.t 42) (.t 48))]) (.cnd (.t 49) (.reg [o 50 (.fad 0 (.t 7)),o 51 (.ld false 1 (.t 50)),o 52 (.fad 1 (.t 7)),o 53 (.ld false 1 (.t 52)),o 54 (.fad 2 (.t 7)),o 55 (.ld false 1 (.t 54)),o 56 (.call 194 [(.t 5),(.t 51),(.t 53),(.t 55)])]) .skip)))) (.reg [o 30 (.mov (.t 6)),o 31 (.bin .add (.t 30) (.k (.int .i64 1))),o 6 (.mov (.t 31))])))))) (.seq (.seq (.reg [o 8 (.mov (.k (.int .i64 0)))]) (.blk 2 (.lop (.seq (.seq (.reg [o 57 (.mov (.t 8)),o 58 (.fad 2 (.t 3)),o 59 (.ld false 1 (.t 58)),o 60 (.len false (.t 59)),o 61 (.bin .lss (.t 57) (.t 60))]) (.cnd (.t 61) .skip (.ext 2))) (.seq (.blk 3 (.seq (.reg [o 64 (.fad 2 (.t 3)),o 65 (.ld false 1 (.t 64)),o 66 (.mov (.t 8)),o 67 (.iad 3 (.t 65) (.t 66)),o 68 (.ld true 3 (.t 67)),o 9 (.new [(.str ⟨#[]⟩),(.int .i64 0),(.int .i64 0)]),on (.st 3 (.t 9) (.t 68))]) (.seq (.drw [o 69 (.fad 1 (.t 3)),o 70 (.ld false 1 (.t 69)),o 71 (.fad 1 (.t 9)),o 72 (.ld false 1 (.t 71)),o 73 (.iad 1 (.t 70) (.t 72)),o 74 (.ld false 1 (.t 73)),o 75 (.fad 0 (.t 2)),o 76 (.ld false 1 (.t 75)),o 77 (.fad 1 (.t 9)),o 78 (.ld false 1 (.t 77)),o 79 (.iad 1 (.t 76) (.t 78)),o 80 (.ld false 1 (.t 79))] [o 81 (.bin .gtr (.t 74) (.t 80))]) (.cnd (.t 81) (.reg [o 82 (.fad 0 (.t 9)),o 83 (.ld false 1 (.t 82)),o 84 (.fad 1 (.t 9)),o 85 (.ld false 1 (.t 84)),o 86 (.fad 2 (.t 9)),o 87 (.ld false 1 (.t 86)),o 88 (.call 194 [(.t 5),(.t 83),(.t 85),(.t 87)])]) .skip)))) (.reg [o 62 (.mov (.t 8)),o 63 (.bin .add (.t 62) (.k (.int .i64 1))),o 8 (.mov (.t 63))])))))) (.seq (.seq (.reg [o 10 (.mov (.k (.int .i64 0)))]) (.blk 4 (.lop (.seq (.seq (.reg [o 89 (.mov (.t 10)),o 90 (.fad 2 (.t 2)),o 91 (.ld false 1 (.t 90)),o 92 (.len false (.t 91)),o 93 (.bin .lss (.t 89) (.t 92))]) (.cnd (.t 93) .skip (.ext 4))) (.seq (.blk 5 (.seq (.reg [o 96 (.fad 2 (.t 2)),o 97 (.ld false 1 (.t 96)),o 98 (.mov (.t 10)),o 99 (.iad 6 (.t 97) (.t 98)),o 100 (.ld true 6 (.t 99)),o 11 (.new [(.bool false),(.str ⟨#[]⟩),(.str ⟨#[]⟩),(.int .i64 0),(.int .i64 0),(.int .i64 0)]),on (.st 6 (.t 11) (.t 100))]) (.seq (.reg [o 101 (.fad 1 (.t 3)),o 102 (.ld false 1 (.t 101)),o 103 (.fad 4 (.t 11)),o 104 (.ld true 2 (.t 103)),o 105 (.call 142 [(.t 102),(.t 104)]),o 106 (.mov (.t 105)),og 107 106 true (.fad 0 (.t 3)),og 108 106 true (.ld false 1 (.t 107)),og 109 106 true (.fad 4 (.t 11)),og 110 106 true (.ld true 2 (.t 109)),og 111 106 true (.call 142 [(.t 108),(.t 110)]),og 112 106 true (.un .not (.t 111)),o 113 (.pick (.t 106) (.t 112) (.k (.bool false))),o 114 (.mov (.t 113)),og 115 114 true (.fad 3 (.t 3)),og 116 114 true (.ld false 1 (.t 115)),og 117 114 true (.ld true 6 (.t 11)),og 118 114 true (.call 236 [(.t 116),(.t 117)]),og 119 114 true (.un .not (.t 118)),o 120 (.pick (.t 114) (.t 119) (.k (.bool false))),o 12 (.mov (.t 120))]) (.seq (.reg [o 121 (.mov (.t 12)),o 122 (.un .not (.t 121)),o 123 (.mov (.t 122)),og 124 123 true (.fad 4 (.t 3)),og 125 123 true (.ld false 1 (.t 124)),og 126 123 true (.fad 4 (.t 11)),og 127 123 true (.ld true 2 (.t 126)),og 128 123 true (.call 237 [(.t 125),(.t 127)]),og 129 123 true (.un .not (.t 128)),o 130 (.pick (.t 123) (.t 129) (.k (.bool false)))]) (.cnd (.t 130) (.reg [o 131 (.fad 2 (.t 5)),o 132 (.ld false 1 (.t 131)),o 133 (.ld true 6 (.t 11)),o 134 (.lit 6 1 [(.bool false),(.str ⟨#[]⟩),(.str ⟨#[]⟩),(.int .i64 0),(.int .i64 0),(.int .i64 0)] [(0,6,(.t 133))]),o 135 (.app 6 64 [(.bool false),(.str ⟨#[]⟩),(.str ⟨#[]⟩),(.int .i64 0),(.int .i64 0),(.int .i64 0)] (.t 132) (.t 134)),o 136 (.fad 2 (.t 5)),on (.st 1 (.t 136) (.t 135))]) .skip))))) (.reg [o 94 (.mov (.t 10)),o 95 (.bin .add (.t 94) (.k (.int .i64 1))),o 10 (.mov (.t 95))])))))) (.seq (.seq (.reg [o 13 (.mov (.k (.int .i64 0)))]) (.blk 6 (.lop (.seq (.seq (.reg [o 137 (.mov (.t 13)),o 138 (.fad 3 (.t 3)),o 139 (.ld false 1 (.t 138)),o 140 (.len false (.t 139)),o 141 (.bin .lss (.t 137) (.t 140))]) (.cnd (.t 141) .skip (.ext 6))) (.seq (.blk 7 (.seq (.drw [o 144 (.fad 0 (.t 2)),o 145 (.ld false 1 (.t 144)),o 146 (.fad 3 (.t 3)),o 147 (.ld false 1 (.t 146)),o 148 (.mov (.t 13)),o 149 (.iad 6 (.t 147) (.t 148)),o 150 (.fad 4 (.t 149)),o 151 (.ld true 2 (.t 150))] [o 152 (.call 142 [(.t 145),(.t 151)]),o 153 (.un .not (.t 152))]) (.cnd (.t 153) (.drw [o 154 (.fad 2 (.t 5)),o 155 (.ld false 1 (.t 154)),o 156 (.fad 3 (.t 3)),o 157 (.ld false 1 (.t 156)),o 158 (.mov (.t 13)),o 159 (.iad 6 (.t 157) (.t 158)),o 160 (.ld true 6 (.t 159))] [o 161 (.call 195 [(.t 155),(.t 160)]),o 162 (.fad 2 (.t 5)),on (.st 1 (.t 162) (.t 161))]) .skip))) (.reg [o 142 (.mov (.t 13)),o 143 (.bin .add (.t 142) (.k (.int .i64 1))),o 13 (.mov (.t 143))])))))) (.seq (.reg [o 163 (.ld true 4 (.t 5)),on (.st 4 (.t 4) (.t 163))]) .ret)))))))⟩
end Go.Proofs.YtffnefmklckngaaGreat.Sy
namespace Go.Proofs.YtffnefmklckngaaGreat.Sy
open Go Go.RowKit
set_option linter.unusedSimpArgs false
set_option linter.unusedVariables false
set_option maxRecDepth 4000
abbrev n_s_DoDelta:Nat:=159
def F_s_DoDelta:Fn1:=⟨57,[.c 4 true 4,.t 5],(.seq (.reg [o 2 (.box (.t 0)),o 3 (.box (.t 1)),o 4 (.new [.nilS,.nilS,.nilS,.nilS]),o 5 (.mov (.k (.int .i64 0)))]) (.seq (.reg [o 8 (.ld true 4 (.t 2)),o 9 (.call 89 [(.t 8)]),o 6 (.new [.nilS,.nilS,.nilS,.nilS]),on (.st 4 (.t 6) (.t 9))]) (.seq (.seq (.reg [o 10 (.ld true 4 (.t 2)),o 11 (.call 125 [(.t 10)]),o 12 (.un .not (.t 11)),o 13 (.mov (.t 12)),og 14 13 false (.ld true 6 (.t 3)),og 15 13 false (.call 103 [(.t 14)]),og 16 13 false (.un .not (.t 15)),o 17 (.pick (.t 13) (.k (.bool true)) (.t 16))]) (.cnd (.t 17) (.seq (.reg [o 18 (.ld true 4 (.t 6)),on (.st 4 (.t 4) (.t 18)),o 5 (.mov (.k (.int .i64 3)))]) .ret) .skip)) (.seq (.seq (.reg [o 19 (.fad 1 (.t 3)),o 20 (.ld false 1 (.t 19)),o 21 (.fad 0 (.t 2)),o 22 (.ld false 1 (.t 21)),o 23 (.call 143 [(.t 20),(.t 22)])]) (.cnd (.t 23) (.seq (.reg [o 24 (.ld true 4 (.t 6)),on (.st 4 (.t 4) (.t 24)),o 5 (.mov (.k (.int .i64 1)))]) .ret) .skip)) (.seq (.seq (.reg [o 25 (.fad 0 (.t 3)),o 26 (.ld false 1 (.t 25)),o 27 (.fad 0 (.t 2)),o 28 (.ld false 1 (.t 27)),o 29 (.call 143 [(.t 26),(.t 28)]),o 30 (.un .not (.t 29))]) (.cnd (.t 30) (.seq (.reg [o 31 (.ld true 4 (.t 6)),on (.st 4 (.t 4) (.t 31)),o 5 (.mov (.k (.int .i64 2)))]) .ret) .skip)) (.seq (.reg [o 32 (.ld true 4 (.t 2)),o 33 (.ld true 6 (.t 3)),o 34 (.call 202 [(.t 32),(.t 33)]),o 7 (.new [.nilS,.nilS,.nilS,.nilS]),on (.st 4 (.t 7) (.t 34))]) (.seq (.seq (.reg [o 35 (.fad 1 (.t 7)),o 36 (.ld false 1 (.t 35)),o 37 (.len false (.t 36)),o 38 (.bin .gtr (.t 37) (.k (.int .i64 120))),o 39 (.mov (.t 38)),og 40 39 false (.fad 2 (.t 7)),og 41 39 false (.ld false 1 (.t 40)),og 42 39 false (.len false (.t 41)),og 43 39 false (.bin .gtr (.t 42) (.k (.int .i64 120))),o 44 (.pick (.t 39) (.k (.bool true)) (.t 43)),o 45 (.mov (.t 44)),og 46 45 false (.fad 3 (.t 7)),og 47 45 false (.ld false 1 (.t 46)),og 48 45 false (.len false (.t 47)),og 49 45 false (.bin .gtr (.t 48) (.k (.int .i64 120))),o 50 (.pick (.t 45) (.k (.bool true)) (.t 49))]) (.cnd (.t 50) (.seq (.reg [o 51 (.ld true 4 (.t 6)),on (.st 4 (.t 4) (.t 51)),o 5 (.mov (.k (.int .i64 4)))]) .ret) .skip)) (.seq (.seq (.reg [o 52 (.ld true 4 (.t 7)),o 53 (.call 125 [(.t 52)]),o 54 (.un .not (.t 53))]) (.cnd (.t 54) (.seq (.reg [o 55 (.ld true 4 (.t 6)),on (.st 4 (.t 4) (.t 55)),o 5 (.mov (.k (.int .i64 3)))]) .ret) .skip)) (.seq (.reg [o 56 (.ld true 4 (.t 7)),on (.st 4 (.t 4) (.t 56)),o 5 (.mov (.k (.int .i64 0)))]) .ret)))))))))⟩
end Go.Proofs.YtffnefmklckngaaGreat.Sy
namespace Go.Proofs.YtffnefmklckngaaGreat.Sy
open Go Go.RowKit
set_option linter.unusedSimpArgs false
set_option linter.unusedVariables false
set_option maxRecDepth 4000
abbrev n_s_DoEdits:Nat:=26
def F_s_DoEdits:Fn1:=⟨53,[.c 8 true 4,.t 9],(.seq (.reg [o 4 (.box (.t 0)),o 8 (.new [.nilS,.nilS,.nilS,.nilS]),o 9 (.mov (.k (.int .i64 0)))]) (.seq (.reg [o 16 (.ld true 4 (.t 4)),o 17 (.call 89 [(.t 16)]),o 10 (.new [.nilS,.nilS,.nilS,.nilS]),on (.st 4 (.t 10) (.t 17))]) (.seq (.seq (.reg [o 11 (.mov (.k (.int .i64 0)))]) (.blk 0 (.lop (.seq (.seq (.reg [o 18 (.mov (.t 11)),o 19 (.mov (.t 3)),o 20 (.len false (.t 19)),o 21 (.bin .lss (.t 18) (.t 20))]) (.cnd (.t 21) .skip (.ext 0))) (.seq (.blk 1 (.seq (.drw [o 25 (.ld true 4 (.t 10)),o 26 (.mov (.t 1)),o 27 (.mov (.t 2)),o 28 (.mov (.t 11)),o 29 (.bin .add (.t 27) (.t 28)),o 30 (.mov (.t 3)),o 31 (.mov (.t 11)),o 32 (.iad 5 (.t 30) (.t 31)),o 33 (.ld true 5 (.t 32)),o 34 (.call 90 [(.t 25),(.t 26),(.t 29),(.t 33)]),o 24 (.mov (.t 34)),o 35 (.ext 0 (.t 24)),o 36 (.ext 1 (.t 24)),o 12 (.new [(.int .i64 0),(.int .i64 0),(.int .i64 0),.nilS,(.int .i64 0),(.str ⟨#[]⟩),(.str ⟨#[]⟩),(.int .i64 0),(.int .i64 0),(.int .i64 0)])] [on (.st 10 (.t 12) (.t 35)),o 13 (.mov (.t 36))]) (.seq (.seq (.reg [o 37 (.mov (.t 13)),o 38 (.bin .neq (.t 37) (.k (.int .i64 0)))]) (.cnd (.t 38) (.seq (.reg [o 39 (.ld true 4 (.t 10)),o 40 (.mov (.t 13)),on (.st 4 (.t 8) (.t 39)),o 9 (.mov (.t 40))]) .ret) .skip)) (.seq (.reg [o 42 (.ld true 4 (.t 10)),o 43 (.ld true 10 (.t 12)),o 44 (.call 91 [(.t 42),(.t 43)]),o 41 (.mov (.t 44)),o 45 (.ext 0 (.t 41)),o 46 (.ext 1 (.t 41)),o 14 (.new [.nilS,.nilS,.nilS,.nilS]),on (.st 4 (.t 14) (.t 45)),o 15 (.mov (.t 46))]) (.seq (.seq (.reg [o 47 (.mov (.t 15)),o 48 (.bin .neq (.t 47) (.k (.int .i64 0)))]) (.cnd (.t 48) (.seq (.reg [o 49 (.ld true 4 (.t 10)),o 50 (.mov (.t 15)),on (.st 4 (.t 8) (.t 49)),o 9 (.mov (.t 50))]) .ret) .skip)) (.reg [o 51 (.ld true 4 (.t 14)),on (.st 4 (.t 10) (.t 51))])))))) (.reg [o 22 (.mov (.t 11)),o 23 (.bin .add (.t 22) (.k (.int .i64 1))),o 11 (.mov (.t 23))])))))) (.seq (.reg [o 52 (.ld true 4 (.t 10)),on (.st 4 (.t 8) (.t 52)),o 9 (.mov (.k (.int .i64 0)))]) .ret))))⟩
abbrev z4:List GV:=[GV.nilS,GV.nilS,GV.nilS,GV.nilS]
end Go.Proofs.YtffnefmklckngaaGreat.Sy
namespace Go.Proofs.YtffnefmklckngaaGreat.Sy
open Go Go.RowKit
set_option linter.unusedSimpArgs false
set_option linter.unusedVariables false
set_option maxRecDepth 4000
abbrev n_i_DoEdits:Nat:=28
def F_i_DoEdits:Fn1:=⟨52,[.c 8 true 4,.t 9],(.seq (.reg [o 4 (.box (.t 0)),o 8 (.new [.nilS,.nilS,.nilS,.nilS]),o 9 (.mov (.k (.int .i64 0)))]) (.seq (.reg [o 16 (.ld true 4 (.t 4)),o 17 (.call 93 [(.t 16)]),o 10 (.new [.nilS,.nilS,.nilS,.nilS]),on (.st 4 (.t 10) (.t 17))]) (.seq (.seq (.reg [o 18 (.mov (.t 3)),o 19 (.len false (.t 18)),o 20 (.mov (.k (.int .i64 0)))]) (.blk 0 (.lop (.seq (.reg [o 21 (.bin .lss (.t 20) (.t 19))]) (.seq (.cnd (.t 21) .skip (.ext 0)) (.seq (.blk 1 (.seq (.reg [o 22 (.mov (.t 20)),o 23 (.iad 5 (.t 18) (.t 20)),o 24 (.ld true 5 (.t 23)),o 12 (.new [(.int .i64 0),(.str ⟨#[]⟩),(.str ⟨#[]⟩),(.int .i64 0),(.int .i64 0)]),o 11 (.mov (.t 22)),on (.st 5 (.t 12) (.t 24))]) (.seq (.reg [o 26 (.ld true 4 (.t 10)),o 27 (.mov (.t 1)),o 28 (.mov (.t 2)),o 29 (.mov (.t 11)),o 30 (.bin .add (.t 28) (.t 29)),o 31 (.ld true 5 (.t 12)),o 32 (.call 94 [(.t 26),(.t 27),(.t 30),(.t 31)]),o 25 (.mov (.t 32)),o 33 (.ext 0 (.t 25)),o 34 (.ext 1 (.t 25)),o 13 (.new [(.int .i64 0),(.int .i64 0),(.int .i64 0),.nilS,(.int .i64 0),(.str ⟨#[]⟩),(.str ⟨#[]⟩),(.int .i64 0),(.int .i64 0),(.int .i64 0)]),on (.st 10 (.t 13) (.t 33)),o 14 (.mov (.t 34))]) (.seq (.seq (.reg [o 35 (.mov (.t 14)),o 36 (.bin .neq (.t 35) (.k (.int .i64 0)))]) (.cnd (.t 36) (.seq (.reg [o 37 (.ld true 4 (.t 10)),o 38 (.mov (.t 14)),on (.st 4 (.t 8) (.t 37)),o 9 (.mov (.t 38))]) .ret) .skip)) (.seq (.reg [o 40 (.ld true 4 (.t 10)),o 41 (.ld true 10 (.t 13)),o 42 (.call 95 [(.t 40),(.t 41)]),o 39 (.mov (.t 42)),o 43 (.ext 0 (.t 39)),o 44 (.ext 1 (.t 39)),o 15 (.new [.nilS,.nilS,.nilS,.nilS]),on (.st 4 (.t 15) (.t 43)),o 14 (.mov (.t 44))]) (.seq (.seq (.reg [o 45 (.mov (.t 14)),o 46 (.bin .neq (.t 45) (.k (.int .i64 0)))]) (.cnd (.t 46) (.seq (.reg [o 47 (.ld true 4 (.t 10)),o 48 (.mov (.t 14)),on (.st 4 (.t 8) (.t 47)),o 9 (.mov (.t 48))]) .ret) .skip)) (.reg [o 49 (.ld true 4 (.t 15)),on (.st 4 (.t 10) (.t 49))]))))))) (.reg [o 50 (.bin .add (.t 20) (.k (.int .i64 1))),o 20 (.mov (.t 50))]))))))) (.seq (.reg [o 51 (.ld true 4 (.t 10)),on (.st 4 (.t 8) (.t 51)),o 9 (.mov (.k (.int .i64 0)))]) .ret))))⟩
end Go.Proofs.YtffnefmklckngaaGreat.Sy
namespace Go.Proofs.YtffnefmklckngaaGreat.Sy
open Go Go.RowKit
set_option linter.unusedSimpArgs false
set_option linter.unusedVariables false
set_option maxRecDepth 4000
abbrev n_s_DoUnit:Nat:=98
def F_s_DoUnit:Fn1:=⟨20,[.c 4 true 4,.t 5],(.seq (.reg [o 2 (.box (.t 0)),o 3 (.box (.t 1)),o 4 (.new [.nilS,.nilS,.nilS,.nilS]),o 5 (.mov (.k (.int .i64 0)))]) (.seq (.seq (.reg [o 6 (.fad 0 (.t 3)),o 7 (.ld false 1 (.t 6))]) (.cnd (.t 7) (.seq (.reg [o 8 (.ld true 4 (.t 2)),o 9 (.fad 11 (.t 3)),o 10 (.ld true 6 (.t 9)),o 11 (.call 159 [(.t 8),(.t 10)]),o 12 (.ext 0 (.t 11)),o 13 (.ext 1 (.t 11)),on (.st 4 (.t 4) (.t 12)),o 5 (.mov (.t 13))]) .ret) .skip)) (.seq (.reg [o 14 (.ld true 4 (.t 2)),o 15 (.fad 1 (.t 3)),o 16 (.ld true 10 (.t 15)),o 17 (.call 91 [(.t 14),(.t 16)]),o 18 (.ext 0 (.t 17)),o 19 (.ext 1 (.t 17)),on (.st 4 (.t 4) (.t 18)),o 5 (.mov (.t 19))]) .ret)))⟩
abbrev n_i_DoUnit:Nat:=100
def F_i_DoUnit:Fn1:=⟨20,[.c 4 true 4,.t 5],(.seq (.reg [o 2 (.box (.t 0)),o 3 (.box (.t 1)),o 4 (.new [.nilS,.nilS,.nilS,.nilS]),o 5 (.mov (.k (.int .i64 0)))]) (.seq (.seq (.reg [o 6 (.fad 0 (.t 3)),o 7 (.ld false 1 (.t 6))]) (.cnd (.t 7) (.seq (.reg [o 8 (.ld true 4 (.t 2)),o 9 (.fad 11 (.t 3)),o 10 (.ld true 6 (.t 9)),o 11 (.call 161 [(.t 8),(.t 10)]),o 12 (.ext 0 (.t 11)),o 13 (.ext 1 (.t 11)),on (.st 4 (.t 4) (.t 12)),o 5 (.mov (.t 13))]) .ret) .skip)) (.seq (.reg [o 14 (.ld true 4 (.t 2)),o 15 (.fad 1 (.t 3)),o 16 (.ld true 10 (.t 15)),o 17 (.call 95 [(.t 14),(.t 16)]),o 18 (.ext 0 (.t 17)),o 19 (.ext 1 (.t 17)),on (.st 4 (.t 4) (.t 18)),o 5 (.mov (.t 19))]) .ret)))⟩
abbrev n_s_StateNew:Nat:=97
def F_s_StateNew:Fn1:=⟨3,[.c 0 true 4],(.seq (.reg [o 0 (.new [.nilS,.nilS,.nilS,.nilS])]) (.seq (.reg [o 1 (.call 158 []),o 2 (.build [.nilS,.nilS,.nilS,.nilS] [(0,1,(.t 1))]),on (.st 4 (.t 0) (.t 2))]) .ret))⟩
abbrev n_i_StateNew:Nat:=99
def F_i_StateNew:Fn1:=⟨3,[.c 0 true 4],(.seq (.reg [o 0 (.new [.nilS,.nilS,.nilS,.nilS])]) (.seq (.reg [o 1 (.call 160 []),o 2 (.build [.nilS,.nilS,.nilS,.nilS] [(0,1,(.t 1))]),on (.st 4 (.t 0) (.t 2))]) .ret))⟩
abbrev n_s_MayStand:Nat:=33
def F_s_MayStand:Fn1:=⟨26,[.t 2],(.seq (.reg [o 2 (.mov (.k (.bool false)))]) (.seq (.reg [o 7 (.call 97 []),o 3 (.new [.nilS,.nilS,.nilS,.nilS]),on (.st 4 (.t 3) (.t 7))]) (.seq (.seq (.reg [o 4 (.mov (.k (.int .i64 0)))]) (.blk 0 (.lop (.seq (.seq (.reg [o 8 (.mov (.t 4)),o 9 (.mov (.t 0)),o 10 (.len false (.t 9)),o 11 (.bin .lss (.t 8) (.t 10))]) (.cnd (.t 11) .skip (.ext 0))) (.seq (.blk 1 (.seq (.drw [o 15 (.ld true 4 (.t 3)),o 16 (.mov (.t 0)),o 17 (.mov (.t 4)),o 18 (.iad 17 (.t 16) (.t 17)),o 19 (.ld true 17 (.t 18)),o 20 (.call 98 [(.t 15),(.t 19)]),o 14 (.mov (.t 20)),o 21 (.ext 0 (.t 14)),o 22 (.ext 1 (.t 14)),o 5 (.new [.nilS,.nilS,.nilS,.nilS])] [on (.st 4 (.t 5) (.t 21)),o 6 (.mov (.t 22))]) (.seq (.seq (.reg [o 23 (.mov (.t 6)),o 24 (.bin .neq (.t 23) (.k (.int .i64 0)))]) (.cnd (.t 24) (.seq (.reg [o 2 (.mov (.k (.bool false)))]) .ret) .skip)) (.reg [o 25 (.ld true 4 (.t 5)),on (.st 4 (.t 3) (.t 25))])))) (.reg [o 12 (.mov (.t 4)),o 13 (.bin .add (.t 12) (.k (.int .i64 1))),o 4 (.mov (.t 13))])))))) (.seq (.reg [o 2 (.mov (.k (.bool true)))]) .ret))))⟩
abbrev n_i_MayStand:Nat:=34
def F_i_MayStand:Fn1:=⟨25,[.t 2],(.seq (.reg [o 2 (.mov (.k (.bool false)))]) (.seq (.reg [o 8 (.call 99 []),o 3 (.new [.nilS,.nilS,.nilS,.nilS]),on (.st 4 (.t 3) (.t 8))]) (.seq (.seq (.reg [o 9 (.mov (.t 0)),o 10 (.len false (.t 9)),o 11 (.mov (.k (.int .i64 0)))]) (.blk 0 (.lop (.seq (.reg [o 12 (.bin .lss (.t 11) (.t 10))]) (.seq (.cnd (.t 12) .skip (.ext 0)) (.seq (.blk 1 (.seq (.reg [o 13 (.iad 17 (.t 9) (.t 11)),o 14 (.ld true 17 (.t 13)),o 5 (.new [(.bool false),(.int .i64 0),(.int .i64 0),(.int .i64 0),.nilS,(.int .i64 0),(.str ⟨#[]⟩),(.str ⟨#[]⟩),(.int .i64 0),(.int .i64 0),(.int .i64 0),.nilS,.nilS,.nilS,.nilS,.nilS,.nilS]),on (.st 17 (.t 5) (.t 14))]) (.seq (.reg [o 16 (.ld true 4 (.t 3)),o 17 (.ld true 17 (.t 5)),o 18 (.call 100 [(.t 16),(.t 17)]),o 15 (.mov (.t 18)),o 19 (.ext 0 (.t 15)),o 20 (.ext 1 (.t 15)),o 6 (.new [.nilS,.nilS,.nilS,.nilS]),on (.st 4 (.t 6) (.t 19)),o 7 (.mov (.t 20))]) (.seq (.seq (.reg [o 21 (.mov (.t 7)),o 22 (.bin .neq (.t 21) (.k (.int .i64 0)))]) (.cnd (.t 22) (.seq (.reg [o 2 (.mov (.k (.bool false)))]) .ret) .skip)) (.reg [o 23 (.ld true 4 (.t 6)),on (.st 4 (.t 3) (.t 23))]))))) (.reg [o 24 (.bin .add (.t 11) (.k (.int .i64 1))),o 11 (.mov (.t 24))]))))))) (.seq (.reg [o 2 (.mov (.k (.bool true)))]) .ret))))⟩
abbrev zeU:List GV:=[.bool false,gi 0,gi 0,gi 0,.nilS,gi 0,.str ⟨#[]⟩,.str ⟨#[]⟩,gi 0,gi 0,gi 0,.nilS,.nilS,.nilS,.nilS,.nilS,.nilS]
def doUnit (s:State) (u:Unit_):State×Int:=if u.batch then doDelta s u.delta else doAct s u.act
def st0:State:=⟨[0,0,0],[],[],[]⟩
def runU (us:List Unit_):Nat→Option State
 |0=>some st0
 |i+1=>(runU us i).bind fun s=>if h:i<us.length then(if (doUnit s us[i]).2=0 then some (doUnit s us[i]).1 else none) else some s
def mayStand (us:List Unit_):Bool:=(runU us us.length).isSome
end Go.Proofs.YtffnefmklckngaaGreat.Sy
namespace Go.Proofs.YtffnefmklckngaaGreat.Sy
open Go Go.RowKit
set_option linter.unusedSimpArgs false
set_option linter.unusedVariables false
abbrev n_l_toDot:Nat:=169
def F_l_toDot:Fn1:=⟨11,[.c 2 true 2],(.seq (.reg [o 1 (.box (.t 0)),o 2 (.new [(.int .i64 0),(.int .i64 0)])]) (.seq (.reg [o 3 (.new [(.int .i64 0),(.int .i64 0)])]) (.seq (.reg [o 4 (.fad 0 (.t 1)),o 5 (.ld false 1 (.t 4)),o 6 (.fad 0 (.t 3)),on (.st 1 (.t 6) (.t 5))]) (.seq (.reg [o 7 (.fad 1 (.t 1)),o 8 (.ld false 1 (.t 7)),o 9 (.fad 1 (.t 3)),on (.st 1 (.t 9) (.t 8))]) (.seq (.reg [o 10 (.ld true 2 (.t 3)),on (.st 2 (.t 2) (.t 10))]) .ret)))))⟩
theorem ir_l_toDot:compFn Tryz.prog n_l_toDot=some F_l_toDot:=by kernel_rfl
theorem l_toDot_ret (σ:St) (x:Dot):Ret Tryz.prog n_l_toDot [.agg [.int .i64 x.rep,.int .i64 x.seq]] σ (.agg [.int .i64 x.rep,.int .i64 x.seq]) σ:=by
 refine ret_eq ir_l_toDot (Nat.le_of_ble_eq_true rfl) (by simp[vLt,cLt,sLt]) ?_
 simp +contextual (disch:=omega) only[go_sem,F_l_toDot]
end Go.Proofs.YtffnefmklckngaaGreat.Sy
namespace Go.Proofs.YtffnefmklckngaaGreat.Sy
open Go Go.RowKit
set_option linter.unusedSimpArgs false
set_option linter.unusedVariables false
abbrev n_l_toIntS:Nat:=73
def F_l_toIntS:Fn1:=⟨22,[.t 2],(.seq (.reg [o 2 (.mov (.k .nilS))]) (.seq (.reg [o 5 (.mov (.t 0)),o 6 (.len false (.t 5)),o 7 (.mks 1 8 [(.int .i64 0)] (.t 6) (.t 6)),o 3 (.mov (.t 7))]) (.seq (.seq (.reg [o 4 (.mov (.k (.int .i64 0)))]) (.blk 0 (.lop (.seq (.seq (.reg [o 8 (.mov (.t 4)),o 9 (.mov (.t 0)),o 10 (.len false (.t 9)),o 11 (.bin .lss (.t 8) (.t 10))]) (.cnd (.t 11) .skip (.ext 0))) (.seq (.blk 1 (.reg [o 14 (.mov (.t 3)),o 15 (.mov (.t 4)),o 16 (.mov (.t 0)),o 17 (.mov (.t 4)),o 18 (.iad 1 (.t 16) (.t 17)),o 19 (.ld false 1 (.t 18)),o 20 (.iad 1 (.t 14) (.t 15)),on (.st 1 (.t 20) (.t 19))])) (.reg [o 12 (.mov (.t 4)),o 13 (.bin .add (.t 12) (.k (.int .i64 1))),o 4 (.mov (.t 13))])))))) (.seq (.reg [o 21 (.mov (.t 3)),o 2 (.mov (.t 21))]) .ret))))⟩
theorem ir_l_toIntS:compFn Tryz.prog n_l_toIntS=some F_l_toIntS:=by kernel_rfl
theorem l_toIntS_ret (σ:St) (v:GV) (l:List Int) (hR:RS pI.kd σ v l) (hl:l.length≤1099511627776):∃ r τ,Ret Tryz.prog n_l_toIntS [v] σ r τ∧Hp σ τ [ow pI.kd r l]:=by
 refine ret_hp (rs:=fun r=>[ow pI.kd r l]) ir_l_toIntS (Nat.le_of_ble_eq_true rfl) ?_
 have hmk:∀ ze,mksG 1 8 ze σ (some l.length) (some l.length)=some (.sl σ.length 0 l.length,σ++[some (.row 1 (reps l.length ze))]):=fun ze=>mks_ok (by omega)
 simp +contextual (disch:=omega) only[go_sem,F_l_toIntS,hR.len,hmk]
 have H0:=((Hp.refl σ).new 1 (reps l.length (pI.enc 0))).toRow 0 (p:=pI) rfl (List.replicate l.length 0) rfl (reps_enc _ _ _) l.length (by simp)
 refine vc_for l.length 4 (fun i env τ=>env 0=v∧env 3= .sl σ.length 0 l.length∧Hp σ τ [ow pI.kd (.sl σ.length 0 l.length) (l.take i++List.replicate (l.length - i) 0)]) rfl ⟨rfl,rfl,by rw[List.take_zero,List.nil_append,Nat.sub_zero];exact H0⟩ ?_ ?_
 ·rintro i env τ hi e4 c0 ⟨e0,e3,H⟩
  have h1:=hR.pre H.sub
  have h2:=H.sl 0 rfl
  have hj:=fill_len (z:=(0:Int)) hi
  obtain⟨τ',es,H'⟩:=H.stw 0 rfl hj 1 (.int .i64 l[i]) l[i] rfl rfl (by decide)
  rw[fill_step hi] at H'
  have es:stG 1 τ (atz 1 (.sl σ.length 0 l.length) i) (.int .i64 l[i])=some (.tup [],τ'):=es
  simp +contextual (disch:=omega) only[go_sem,e0,e3,e4,c0,hR.len,int_at h1 hi,int_at h2 hj,es]
  exact H'
 ·rintro env τ e4 c0 ⟨e0,e3,H⟩
  rw[fill_end] at H
  simp +contextual (disch:=omega) only[go_sem,e0,e3,e4,c0,hR.len]
  exact⟨_,rfl,H⟩
end Go.Proofs.YtffnefmklckngaaGreat.Sy
namespace Go.Proofs.YtffnefmklckngaaGreat.Sy
open Go Go.RowKit
set_option linter.unusedSimpArgs false
set_option linter.unusedVariables false
abbrev n_l_toAct:Nat:=107
def F_l_toAct:Fn1:=⟨32,[.c 2 true 10],(.seq (.reg [o 1 (.box (.t 0)),o 2 (.new [(.int .i64 0),(.int .i64 0),(.int .i64 0),.nilS,(.int .i64 0),(.str ⟨#[]⟩),(.str ⟨#[]⟩),(.int .i64 0),(.int .i64 0),(.int .i64 0)])]) (.seq (.reg [o 3 (.new [(.int .i64 0),(.int .i64 0),(.int .i64 0),.nilS,(.int .i64 0),(.str ⟨#[]⟩),(.str ⟨#[]⟩),(.int .i64 0),(.int .i64 0),(.int .i64 0)])]) (.seq (.reg [o 4 (.fad 0 (.t 1)),o 5 (.ld true 2 (.t 4)),o 6 (.call 169 [(.t 5)]),o 7 (.fad 0 (.t 3)),on (.st 2 (.t 7) (.t 6))]) (.seq (.reg [o 8 (.fad 2 (.t 1)),o 9 (.ld false 1 (.t 8)),o 10 (.fad 2 (.t 3)),on (.st 1 (.t 10) (.t 9))]) (.seq (.reg [o 11 (.fad 3 (.t 1)),o 12 (.ld false 1 (.t 11)),o 13 (.call 73 [(.t 12)]),o 14 (.fad 3 (.t 3)),on (.st 1 (.t 14) (.t 13))]) (.seq (.reg [o 15 (.fad 4 (.t 1)),o 16 (.ld false 1 (.t 15)),o 17 (.fad 4 (.t 3)),on (.st 1 (.t 17) (.t 16))]) (.seq (.reg [o 18 (.fad 5 (.t 1)),o 19 (.ld false 1 (.t 18)),o 20 (.fad 5 (.t 3)),on (.st 1 (.t 20) (.t 19))]) (.seq (.reg [o 21 (.fad 6 (.t 1)),o 22 (.ld false 1 (.t 21)),o 23 (.fad 6 (.t 3)),on (.st 1 (.t 23) (.t 22))]) (.seq (.reg [o 24 (.fad 7 (.t 1)),o 25 (.ld false 1 (.t 24)),o 26 (.fad 7 (.t 3)),on (.st 1 (.t 26) (.t 25))]) (.seq (.reg [o 27 (.fad 8 (.t 1)),o 28 (.ld true 2 (.t 27)),o 29 (.call 169 [(.t 28)]),o 30 (.fad 8 (.t 3)),on (.st 2 (.t 30) (.t 29))]) (.seq (.reg [o 31 (.ld true 10 (.t 3)),on (.st 10 (.t 2) (.t 31))]) .ret)))))))))))⟩
theorem ir_l_toAct:compFn Tryz.prog n_l_toAct=some F_l_toAct:=by kernel_rfl
theorem l_toAct_ret (σ:St) (cs:List GV) (x:Act) (hR:kAct.R σ x cs) (hl:msAct x≤1099511627776):∃ r τ,Ret Tryz.prog n_l_toAct [.agg cs] σ r τ∧σ <+: τ∧∃ ds,r= .agg ds∧Hp σ τ [own kAct ds x]:=by
 have hlen:=kAct.len hR
 have hlen:cs.length=10:=hlen
 obtain⟨v2,rfl,q2⟩:=hR
 unfold msAct at hl
 refine ret_new ir_l_toAct (Nat.le_of_ble_eq_true rfl) ?_
 simp +contextual (disch:=omega) only[go_sem,F_l_toAct,List.append_nil]
 refine by_ret (l_toDot_ret _ x.dot) ?_
 simp +contextual (disch:=omega) only[go_sem,List.append_nil]
 have H:=(((Hp.refl σ).new 1 ((GV.int .i64 x.dot.rep)::(GV.int .i64 x.dot.seq)::(GV.int .i64 x.time)::v2::(GV.int .i64 x.kind)::(GV.str x.obj)::(GV.str x.key)::(GV.int .i64 x.val)::(GV.int .i64 x.ref.rep)::(GV.int .i64 x.ref.seq)::[])).new 1 [(GV.int .i64 0),(GV.int .i64 0),(GV.int .i64 0),GV.nilS,(GV.int .i64 0),(GV.str ⟨#[]⟩),(GV.str ⟨#[]⟩),(GV.int .i64 0),(GV.int .i64 0),(GV.int .i64 0)]).new 1 [(GV.int .i64 x.dot.rep),(GV.int .i64 x.dot.seq),(GV.int .i64 x.time),GV.nilS,(GV.int .i64 0),(GV.str ⟨#[]⟩),(GV.str ⟨#[]⟩),(GV.int .i64 0),(GV.int .i64 0),(GV.int .i64 0)]
 obtain⟨r2,τ2,R2,K2⟩:=l_toIntS_ret _ v2 x.knew (q2.pre H.sub) (by omega)
 refine by_hp R2 K2 ?_
 have e2:=(K2.sl 0 rfl).cell
 have H:=H.add K2
 try simp only[go_sem] at H
 try simp +contextual (disch:=omega) only[go_sem,List.append_nil,ld_ptr (H.pt 3 rfl),ld_ptr (H.pt 1 rfl)]
 obtain⟨_,es,H,_⟩:=H.st 1 rfl 1 3 (r2) (by rw[e2];rfl) (by decide) (Nat.le_of_ble_eq_true rfl)
 try simp only[go_sem,List.set_cons_zero,List.set_cons_succ,e2] at H
 try simp +contextual (disch:=omega) only[go_sem,List.append_nil,es,ld_ptr (H.pt 3 rfl),ld_ptr (H.pt 1 rfl)]
 try simp +contextual (disch:=omega) only[go_sem,List.append_nil,ld_ptr (H.pt 3 rfl),ld_ptr (H.pt 1 rfl)]
 obtain⟨_,es,H,_⟩:=H.st 1 rfl 1 4 (.int .i64 x.kind) (rfl) (by decide) (Nat.le_of_ble_eq_true rfl)
 try simp only[go_sem,List.set_cons_zero,List.set_cons_succ] at H
 try simp +contextual (disch:=omega) only[go_sem,List.append_nil,es,ld_ptr (H.pt 3 rfl),ld_ptr (H.pt 1 rfl)]
 try simp +contextual (disch:=omega) only[go_sem,List.append_nil,ld_ptr (H.pt 3 rfl),ld_ptr (H.pt 1 rfl)]
 obtain⟨_,es,H,_⟩:=H.st 1 rfl 1 5 (.str x.obj) (rfl) (by decide) (Nat.le_of_ble_eq_true rfl)
 try simp only[go_sem,List.set_cons_zero,List.set_cons_succ] at H
 try simp +contextual (disch:=omega) only[go_sem,List.append_nil,es,ld_ptr (H.pt 3 rfl),ld_ptr (H.pt 1 rfl)]
 try simp +contextual (disch:=omega) only[go_sem,List.append_nil,ld_ptr (H.pt 3 rfl),ld_ptr (H.pt 1 rfl)]
 obtain⟨_,es,H,_⟩:=H.st 1 rfl 1 6 (.str x.key) (rfl) (by decide) (Nat.le_of_ble_eq_true rfl)
 try simp only[go_sem,List.set_cons_zero,List.set_cons_succ] at H
 try simp +contextual (disch:=omega) only[go_sem,List.append_nil,es,ld_ptr (H.pt 3 rfl),ld_ptr (H.pt 1 rfl)]
 try simp +contextual (disch:=omega) only[go_sem,List.append_nil,ld_ptr (H.pt 3 rfl),ld_ptr (H.pt 1 rfl)]
 obtain⟨_,es,H,_⟩:=H.st 1 rfl 1 7 (.int .i64 x.val) (rfl) (by decide) (Nat.le_of_ble_eq_true rfl)
 try simp only[go_sem,List.set_cons_zero,List.set_cons_succ] at H
 try simp +contextual (disch:=omega) only[go_sem,List.append_nil,es,ld_ptr (H.pt 3 rfl),ld_ptr (H.pt 1 rfl)]
 refine by_ret (l_toDot_ret _ x.ref) ?_
 try simp +contextual (disch:=omega) only[go_sem,List.append_nil,ld_ptr (H.pt 3 rfl),ld_ptr (H.pt 1 rfl)]
 obtain⟨_,es,H,_⟩:=H.st 1 rfl 2 8 (.agg [.int .i64 x.ref.rep,.int .i64 x.ref.seq]) (rfl) (by decide) (Nat.le_of_ble_eq_true rfl)
 try simp only[go_sem,List.set_cons_zero,List.set_cons_succ] at H
 try simp +contextual (disch:=omega) only[go_sem,List.append_nil,es,ld_ptr (H.pt 3 rfl),ld_ptr (H.pt 1 rfl)]
 obtain⟨_,es,H,_⟩:=H.st 2 rfl 10 0 (.agg ((GV.int .i64 x.dot.rep)::(GV.int .i64 x.dot.seq)::(GV.int .i64 x.time)::r2::(GV.int .i64 x.kind)::(GV.str x.obj)::(GV.str x.key)::(GV.int .i64 x.val)::(GV.int .i64 x.ref.rep)::(GV.int .i64 x.ref.seq)::[])) (rfl) (by decide) (Nat.le_of_ble_eq_true rfl)
 try simp only[go_sem,List.set_cons_zero,List.set_cons_succ] at H
 try simp +contextual (disch:=omega) only[go_sem,List.append_nil,es,ld_ptr (H.pt 2 rfl)]
 have h0:=H.sub
 have H:=H
 try simp only[List.eraseIdx_cons_succ,List.eraseIdx_cons_zero] at H
 exact⟨_,rfl,h0,_,rfl,H.ownAct.one⟩
end Go.Proofs.YtffnefmklckngaaGreat.Sy
namespace Go.Proofs.YtffnefmklckngaaGreat.Sy
open Go Go.RowKit
set_option linter.unusedSimpArgs false
set_option linter.unusedVariables false
abbrev n_l_toCell:Nat:=130
def F_l_toCell:Fn1:=⟨25,[.c 2 true 8],(.seq (.reg [o 1 (.box (.t 0)),o 2 (.new [(.str ⟨#[]⟩),(.int .i64 0),(.int .i64 0),(.int .i64 0),(.int .i64 0),(.int .i64 0),(.int .i64 0),(.bool false)])]) (.seq (.reg [o 3 (.new [(.str ⟨#[]⟩),(.int .i64 0),(.int .i64 0),(.int .i64 0),(.int .i64 0),(.int .i64 0),(.int .i64 0),(.bool false)])]) (.seq (.reg [o 4 (.fad 0 (.t 1)),o 5 (.ld false 1 (.t 4)),o 6 (.fad 0 (.t 3)),on (.st 1 (.t 6) (.t 5))]) (.seq (.reg [o 7 (.fad 1 (.t 1)),o 8 (.ld true 2 (.t 7)),o 9 (.call 169 [(.t 8)]),o 10 (.fad 1 (.t 3)),on (.st 2 (.t 10) (.t 9))]) (.seq (.reg [o 11 (.fad 3 (.t 1)),o 12 (.ld false 1 (.t 11)),o 13 (.fad 3 (.t 3)),on (.st 1 (.t 13) (.t 12))]) (.seq (.reg [o 14 (.fad 4 (.t 1)),o 15 (.ld true 2 (.t 14)),o 16 (.call 169 [(.t 15)]),o 17 (.fad 4 (.t 3)),on (.st 2 (.t 17) (.t 16))]) (.seq (.reg [o 18 (.fad 6 (.t 1)),o 19 (.ld false 1 (.t 18)),o 20 (.fad 6 (.t 3)),on (.st 1 (.t 20) (.t 19))]) (.seq (.reg [o 21 (.fad 7 (.t 1)),o 22 (.ld false 1 (.t 21)),o 23 (.fad 7 (.t 3)),on (.st 1 (.t 23) (.t 22))]) (.seq (.reg [o 24 (.ld true 8 (.t 3)),on (.st 8 (.t 2) (.t 24))]) .ret)))))))))⟩
theorem ir_l_toCell:compFn Tryz.prog n_l_toCell=some F_l_toCell:=by kernel_rfl
theorem l_toCell_ret (σ:St) (x:Cell):Ret Tryz.prog n_l_toCell [.agg [.str x.obj,.int .i64 x.dot.rep,.int .i64 x.dot.seq,.int .i64 x.time,.int .i64 x.ref.rep,.int .i64 x.ref.seq,.int .i64 x.val,.bool x.gone]] σ (.agg [.str x.obj,.int .i64 x.dot.rep,.int .i64 x.dot.seq,.int .i64 x.time,.int .i64 x.ref.rep,.int .i64 x.ref.seq,.int .i64 x.val,.bool x.gone]) σ:=by
 refine ret_eq ir_l_toCell (Nat.le_of_ble_eq_true rfl) (by simp[vLt,cLt,sLt]) ?_
 simp +contextual (disch:=omega) only[go_sem,F_l_toCell]
 refine by_ret (l_toDot_ret _ x.dot) ?_
 simp +contextual (disch:=omega) only[go_sem,List.append_nil]
 refine by_ret (l_toDot_ret _ x.ref) ?_
 simp +contextual (disch:=omega) only[go_sem,List.append_nil]
end Go.Proofs.YtffnefmklckngaaGreat.Sy
namespace Go.Proofs.YtffnefmklckngaaGreat.Sy
open Go Go.RowKit
set_option linter.unusedSimpArgs false
set_option linter.unusedVariables false
abbrev n_l_toCellS:Nat:=76
def F_l_toCellS:Fn1:=⟨23,[.t 2],(.seq (.reg [o 2 (.mov (.k .nilS))]) (.seq (.reg [o 5 (.mov (.t 0)),o 6 (.len false (.t 5)),o 7 (.mks 8 72 [(.str ⟨#[]⟩),(.int .i64 0),(.int .i64 0),(.int .i64 0),(.int .i64 0),(.int .i64 0),(.int .i64 0),(.bool false)] (.t 6) (.t 6)),o 3 (.mov (.t 7))]) (.seq (.seq (.reg [o 4 (.mov (.k (.int .i64 0)))]) (.blk 0 (.lop (.seq (.seq (.reg [o 8 (.mov (.t 4)),o 9 (.mov (.t 0)),o 10 (.len false (.t 9)),o 11 (.bin .lss (.t 8) (.t 10))]) (.cnd (.t 11) .skip (.ext 0))) (.seq (.blk 1 (.reg [o 14 (.mov (.t 3)),o 15 (.mov (.t 4)),o 16 (.mov (.t 0)),o 17 (.mov (.t 4)),o 18 (.iad 8 (.t 16) (.t 17)),o 19 (.ld true 8 (.t 18)),o 20 (.call 130 [(.t 19)]),o 21 (.iad 8 (.t 14) (.t 15)),on (.st 8 (.t 21) (.t 20))])) (.reg [o 12 (.mov (.t 4)),o 13 (.bin .add (.t 12) (.k (.int .i64 1))),o 4 (.mov (.t 13))])))))) (.seq (.reg [o 22 (.mov (.t 3)),o 2 (.mov (.t 22))]) .ret))))⟩
theorem ir_l_toCellS:compFn Tryz.prog n_l_toCellS=some F_l_toCellS:=by kernel_rfl
theorem l_toCellS_ret (σ:St) (v:GV) (l:List Cell) (hR:RS pCell.kd σ v l) (hl:l.length≤1099511627776):∃ r τ,Ret Tryz.prog n_l_toCellS [v] σ r τ∧Hp σ τ [ow pCell.kd r l]:=by
 refine ret_hp (rs:=fun r=>[ow pCell.kd r l]) ir_l_toCellS (Nat.le_of_ble_eq_true rfl) ?_
 have hmk:∀ ze,mksG 8 72 ze σ (some l.length) (some l.length)=some (.sl σ.length 0 l.length,σ++[some (.row 8 (reps l.length ze))]):=fun ze=>mks_ok (by omega)
 simp +contextual (disch:=omega) only[go_sem,F_l_toCellS,hR.len,hmk]
 have H0:=((Hp.refl σ).new 8 (reps l.length (pCell.enc ⟨⟨#[]⟩,⟨0,0⟩,0,⟨0,0⟩,0,false⟩))).toRow 0 (p:=pCell) rfl (List.replicate l.length ⟨⟨#[]⟩,⟨0,0⟩,0,⟨0,0⟩,0,false⟩) rfl (reps_enc _ _ _) l.length (by simp)
 refine vc_for l.length 4 (fun i env τ=>env 0=v∧env 3= .sl σ.length 0 l.length∧Hp σ τ [ow pCell.kd (.sl σ.length 0 l.length) (l.take i++List.replicate (l.length - i) ⟨⟨#[]⟩,⟨0,0⟩,0,⟨0,0⟩,0,false⟩)]) rfl ⟨rfl,rfl,by rw[List.take_zero,List.nil_append,Nat.sub_zero];exact H0⟩ ?_ ?_
 ·rintro i env τ hi e4 c0 ⟨e0,e3,H⟩
  have h1:=hR.pre H.sub
  have h2:=H.sl 0 rfl
  have hj:=fill_len (z:=(⟨⟨#[]⟩,⟨0,0⟩,0,⟨0,0⟩,0,false⟩:Cell)) hi
  simp +contextual (disch:=omega) only[go_sem,e0,e3,e4,c0,hR.len,Cell_at h1 hi]
  refine by_ret (l_toCell_ret τ l[i]) ?_
  obtain⟨τ',es,H'⟩:=H.stw 0 rfl hj 8 (.agg [.str l[i].obj,.int .i64 l[i].dot.rep,.int .i64 l[i].dot.seq,.int .i64 l[i].time,.int .i64 l[i].ref.rep,.int .i64 l[i].ref.seq,.int .i64 l[i].val,.bool l[i].gone]) l[i] rfl rfl (by decide)
  rw[fill_step hi] at H'
  have es:stG 8 τ (atz 8 (.sl σ.length 0 l.length) i) (.agg [.str l[i].obj,.int .i64 l[i].dot.rep,.int .i64 l[i].dot.seq,.int .i64 l[i].time,.int .i64 l[i].ref.rep,.int .i64 l[i].ref.seq,.int .i64 l[i].val,.bool l[i].gone])=some (.tup [],τ'):=es
  simp +contextual (disch:=omega) only[go_sem,e0,e3,e4,c0,hR.len,Cell_at h1 hi,Cell_at h2 hj,es]
  exact H'
 ·rintro env τ e4 c0 ⟨e0,e3,H⟩
  rw[fill_end] at H
  simp +contextual (disch:=omega) only[go_sem,e0,e3,e4,c0,hR.len]
  exact⟨_,rfl,H⟩
end Go.Proofs.YtffnefmklckngaaGreat.Sy
namespace Go.Proofs.YtffnefmklckngaaGreat.Sy
open Go Go.RowKit
set_option linter.unusedSimpArgs false
set_option linter.unusedVariables false
abbrev n_l_toDotS:Nat:=170
def F_l_toDotS:Fn1:=⟨23,[.t 2],(.seq (.reg [o 2 (.mov (.k .nilS))]) (.seq (.reg [o 5 (.mov (.t 0)),o 6 (.len false (.t 5)),o 7 (.mks 2 16 [(.int .i64 0),(.int .i64 0)] (.t 6) (.t 6)),o 3 (.mov (.t 7))]) (.seq (.seq (.reg [o 4 (.mov (.k (.int .i64 0)))]) (.blk 0 (.lop (.seq (.seq (.reg [o 8 (.mov (.t 4)),o 9 (.mov (.t 0)),o 10 (.len false (.t 9)),o 11 (.bin .lss (.t 8) (.t 10))]) (.cnd (.t 11) .skip (.ext 0))) (.seq (.blk 1 (.reg [o 14 (.mov (.t 3)),o 15 (.mov (.t 4)),o 16 (.mov (.t 0)),o 17 (.mov (.t 4)),o 18 (.iad 2 (.t 16) (.t 17)),o 19 (.ld true 2 (.t 18)),o 20 (.call 169 [(.t 19)]),o 21 (.iad 2 (.t 14) (.t 15)),on (.st 2 (.t 21) (.t 20))])) (.reg [o 12 (.mov (.t 4)),o 13 (.bin .add (.t 12) (.k (.int .i64 1))),o 4 (.mov (.t 13))])))))) (.seq (.reg [o 22 (.mov (.t 3)),o 2 (.mov (.t 22))]) .ret))))⟩
theorem ir_l_toDotS:compFn Tryz.prog n_l_toDotS=some F_l_toDotS:=by kernel_rfl
theorem l_toDotS_ret (σ:St) (v:GV) (l:List Dot) (hR:RS pDot.kd σ v l) (hl:l.length≤1099511627776):∃ r τ,Ret Tryz.prog n_l_toDotS [v] σ r τ∧Hp σ τ [ow pDot.kd r l]:=by
 refine ret_hp (rs:=fun r=>[ow pDot.kd r l]) ir_l_toDotS (Nat.le_of_ble_eq_true rfl) ?_
 have hmk:∀ ze,mksG 2 16 ze σ (some l.length) (some l.length)=some (.sl σ.length 0 l.length,σ++[some (.row 2 (reps l.length ze))]):=fun ze=>mks_ok (by omega)
 simp +contextual (disch:=omega) only[go_sem,F_l_toDotS,hR.len,hmk]
 have H0:=((Hp.refl σ).new 2 (reps l.length (pDot.enc ⟨0,0⟩))).toRow 0 (p:=pDot) rfl (List.replicate l.length ⟨0,0⟩) rfl (reps_enc _ _ _) l.length (by simp)
 refine vc_for l.length 4 (fun i env τ=>env 0=v∧env 3= .sl σ.length 0 l.length∧Hp σ τ [ow pDot.kd (.sl σ.length 0 l.length) (l.take i++List.replicate (l.length - i) ⟨0,0⟩)]) rfl ⟨rfl,rfl,by rw[List.take_zero,List.nil_append,Nat.sub_zero];exact H0⟩ ?_ ?_
 ·rintro i env τ hi e4 c0 ⟨e0,e3,H⟩
  have h1:=hR.pre H.sub
  have h2:=H.sl 0 rfl
  have hj:=fill_len (z:=(⟨0,0⟩:Dot)) hi
  simp +contextual (disch:=omega) only[go_sem,e0,e3,e4,c0,hR.len,Dot_at h1 hi]
  refine by_ret (l_toDot_ret τ l[i]) ?_
  obtain⟨τ',es,H'⟩:=H.stw 0 rfl hj 2 (.agg [.int .i64 l[i].rep,.int .i64 l[i].seq]) l[i] rfl rfl (by decide)
  rw[fill_step hi] at H'
  have es:stG 2 τ (atz 2 (.sl σ.length 0 l.length) i) (.agg [.int .i64 l[i].rep,.int .i64 l[i].seq])=some (.tup [],τ'):=es
  simp +contextual (disch:=omega) only[go_sem,e0,e3,e4,c0,hR.len,Dot_at h1 hi,Dot_at h2 hj,es]
  exact H'
 ·rintro env τ e4 c0 ⟨e0,e3,H⟩
  rw[fill_end] at H
  simp +contextual (disch:=omega) only[go_sem,e0,e3,e4,c0,hR.len]
  exact⟨_,rfl,H⟩
end Go.Proofs.YtffnefmklckngaaGreat.Sy
namespace Go.Proofs.YtffnefmklckngaaGreat.Sy
open Go Go.RowKit
set_option linter.unusedSimpArgs false
set_option linter.unusedVariables false
abbrev n_l_toLive:Nat:=129
def F_l_toLive:Fn1:=⟨21,[.c 2 true 6],(.seq (.reg [o 1 (.box (.t 0)),o 2 (.new [(.bool false),(.str ⟨#[]⟩),(.str ⟨#[]⟩),(.int .i64 0),(.int .i64 0),(.int .i64 0)])]) (.seq (.reg [o 3 (.new [(.bool false),(.str ⟨#[]⟩),(.str ⟨#[]⟩),(.int .i64 0),(.int .i64 0),(.int .i64 0)])]) (.seq (.reg [o 4 (.fad 0 (.t 1)),o 5 (.ld false 1 (.t 4)),o 6 (.fad 0 (.t 3)),on (.st 1 (.t 6) (.t 5))]) (.seq (.reg [o 7 (.fad 1 (.t 1)),o 8 (.ld false 1 (.t 7)),o 9 (.fad 1 (.t 3)),on (.st 1 (.t 9) (.t 8))]) (.seq (.reg [o 10 (.fad 2 (.t 1)),o 11 (.ld false 1 (.t 10)),o 12 (.fad 2 (.t 3)),on (.st 1 (.t 12) (.t 11))]) (.seq (.reg [o 13 (.fad 3 (.t 1)),o 14 (.ld false 1 (.t 13)),o 15 (.fad 3 (.t 3)),on (.st 1 (.t 15) (.t 14))]) (.seq (.reg [o 16 (.fad 4 (.t 1)),o 17 (.ld true 2 (.t 16)),o 18 (.call 169 [(.t 17)]),o 19 (.fad 4 (.t 3)),on (.st 2 (.t 19) (.t 18))]) (.seq (.reg [o 20 (.ld true 6 (.t 3)),on (.st 6 (.t 2) (.t 20))]) .ret))))))))⟩
theorem ir_l_toLive:compFn Tryz.prog n_l_toLive=some F_l_toLive:=by kernel_rfl
theorem l_toLive_ret (σ:St) (x:Live):Ret Tryz.prog n_l_toLive [.agg [.bool x.map,.str x.obj,.str x.key,.int .i64 x.val,.int .i64 x.dot.rep,.int .i64 x.dot.seq]] σ (.agg [.bool x.map,.str x.obj,.str x.key,.int .i64 x.val,.int .i64 x.dot.rep,.int .i64 x.dot.seq]) σ:=by
 refine ret_eq ir_l_toLive (Nat.le_of_ble_eq_true rfl) (by simp[vLt,cLt,sLt]) ?_
 simp +contextual (disch:=omega) only[go_sem,F_l_toLive]
 refine by_ret (l_toDot_ret _ x.dot) ?_
 simp +contextual (disch:=omega) only[go_sem,List.append_nil]
end Go.Proofs.YtffnefmklckngaaGreat.Sy
namespace Go.Proofs.YtffnefmklckngaaGreat.Sy
open Go Go.RowKit
set_option linter.unusedSimpArgs false
set_option linter.unusedVariables false
abbrev n_l_toLiveS:Nat:=75
def F_l_toLiveS:Fn1:=⟨23,[.t 2],(.seq (.reg [o 2 (.mov (.k .nilS))]) (.seq (.reg [o 5 (.mov (.t 0)),o 6 (.len false (.t 5)),o 7 (.mks 6 64 [(.bool false),(.str ⟨#[]⟩),(.str ⟨#[]⟩),(.int .i64 0),(.int .i64 0),(.int .i64 0)] (.t 6) (.t 6)),o 3 (.mov (.t 7))]) (.seq (.seq (.reg [o 4 (.mov (.k (.int .i64 0)))]) (.blk 0 (.lop (.seq (.seq (.reg [o 8 (.mov (.t 4)),o 9 (.mov (.t 0)),o 10 (.len false (.t 9)),o 11 (.bin .lss (.t 8) (.t 10))]) (.cnd (.t 11) .skip (.ext 0))) (.seq (.blk 1 (.reg [o 14 (.mov (.t 3)),o 15 (.mov (.t 4)),o 16 (.mov (.t 0)),o 17 (.mov (.t 4)),o 18 (.iad 6 (.t 16) (.t 17)),o 19 (.ld true 6 (.t 18)),o 20 (.call 129 [(.t 19)]),o 21 (.iad 6 (.t 14) (.t 15)),on (.st 6 (.t 21) (.t 20))])) (.reg [o 12 (.mov (.t 4)),o 13 (.bin .add (.t 12) (.k (.int .i64 1))),o 4 (.mov (.t 13))])))))) (.seq (.reg [o 22 (.mov (.t 3)),o 2 (.mov (.t 22))]) .ret))))⟩
theorem ir_l_toLiveS:compFn Tryz.prog n_l_toLiveS=some F_l_toLiveS:=by kernel_rfl
theorem l_toLiveS_ret (σ:St) (v:GV) (l:List Live) (hR:RS pLive.kd σ v l) (hl:l.length≤1099511627776):∃ r τ,Ret Tryz.prog n_l_toLiveS [v] σ r τ∧Hp σ τ [ow pLive.kd r l]:=by
 refine ret_hp (rs:=fun r=>[ow pLive.kd r l]) ir_l_toLiveS (Nat.le_of_ble_eq_true rfl) ?_
 have hmk:∀ ze,mksG 6 64 ze σ (some l.length) (some l.length)=some (.sl σ.length 0 l.length,σ++[some (.row 6 (reps l.length ze))]):=fun ze=>mks_ok (by omega)
 simp +contextual (disch:=omega) only[go_sem,F_l_toLiveS,hR.len,hmk]
 have H0:=((Hp.refl σ).new 6 (reps l.length (pLive.enc ⟨false,⟨#[]⟩,⟨#[]⟩,0,⟨0,0⟩⟩))).toRow 0 (p:=pLive) rfl (List.replicate l.length ⟨false,⟨#[]⟩,⟨#[]⟩,0,⟨0,0⟩⟩) rfl (reps_enc _ _ _) l.length (by simp)
 refine vc_for l.length 4 (fun i env τ=>env 0=v∧env 3= .sl σ.length 0 l.length∧Hp σ τ [ow pLive.kd (.sl σ.length 0 l.length) (l.take i++List.replicate (l.length - i) ⟨false,⟨#[]⟩,⟨#[]⟩,0,⟨0,0⟩⟩)]) rfl ⟨rfl,rfl,by rw[List.take_zero,List.nil_append,Nat.sub_zero];exact H0⟩ ?_ ?_
 ·rintro i env τ hi e4 c0 ⟨e0,e3,H⟩
  have h1:=hR.pre H.sub
  have h2:=H.sl 0 rfl
  have hj:=fill_len (z:=(⟨false,⟨#[]⟩,⟨#[]⟩,0,⟨0,0⟩⟩:Live)) hi
  simp +contextual (disch:=omega) only[go_sem,e0,e3,e4,c0,hR.len,Live_at h1 hi]
  refine by_ret (l_toLive_ret τ l[i]) ?_
  obtain⟨τ',es,H'⟩:=H.stw 0 rfl hj 6 (.agg [.bool l[i].map,.str l[i].obj,.str l[i].key,.int .i64 l[i].val,.int .i64 l[i].dot.rep,.int .i64 l[i].dot.seq]) l[i] rfl rfl (by decide)
  rw[fill_step hi] at H'
  have es:stG 6 τ (atz 6 (.sl σ.length 0 l.length) i) (.agg [.bool l[i].map,.str l[i].obj,.str l[i].key,.int .i64 l[i].val,.int .i64 l[i].dot.rep,.int .i64 l[i].dot.seq])=some (.tup [],τ'):=es
  simp +contextual (disch:=omega) only[go_sem,e0,e3,e4,c0,hR.len,Live_at h1 hi,Live_at h2 hj,es]
  exact H'
 ·rintro env τ e4 c0 ⟨e0,e3,H⟩
  rw[fill_end] at H
  simp +contextual (disch:=omega) only[go_sem,e0,e3,e4,c0,hR.len]
  exact⟨_,rfl,H⟩
end Go.Proofs.YtffnefmklckngaaGreat.Sy
namespace Go.Proofs.YtffnefmklckngaaGreat.Sy
open Go Go.RowKit
set_option linter.unusedSimpArgs false
set_option linter.unusedVariables false
abbrev n_l_toTally:Nat:=128
def F_l_toTally:Fn1:=⟨14,[.c 2 true 3],(.seq (.reg [o 1 (.box (.t 0)),o 2 (.new [(.str ⟨#[]⟩),(.int .i64 0),(.int .i64 0)])]) (.seq (.reg [o 3 (.new [(.str ⟨#[]⟩),(.int .i64 0),(.int .i64 0)])]) (.seq (.reg [o 4 (.fad 0 (.t 1)),o 5 (.ld false 1 (.t 4)),o 6 (.fad 0 (.t 3)),on (.st 1 (.t 6) (.t 5))]) (.seq (.reg [o 7 (.fad 1 (.t 1)),o 8 (.ld false 1 (.t 7)),o 9 (.fad 1 (.t 3)),on (.st 1 (.t 9) (.t 8))]) (.seq (.reg [o 10 (.fad 2 (.t 1)),o 11 (.ld false 1 (.t 10)),o 12 (.fad 2 (.t 3)),on (.st 1 (.t 12) (.t 11))]) (.seq (.reg [o 13 (.ld true 3 (.t 3)),on (.st 3 (.t 2) (.t 13))]) .ret))))))⟩
theorem ir_l_toTally:compFn Tryz.prog n_l_toTally=some F_l_toTally:=by kernel_rfl
theorem l_toTally_ret (σ:St) (x:Tally):Ret Tryz.prog n_l_toTally [.agg [.str x.obj,.int .i64 x.rep,.int .i64 x.sum]] σ (.agg [.str x.obj,.int .i64 x.rep,.int .i64 x.sum]) σ:=by
 refine ret_eq ir_l_toTally (Nat.le_of_ble_eq_true rfl) (by simp[vLt,cLt,sLt]) ?_
 simp +contextual (disch:=omega) only[go_sem,F_l_toTally]
end Go.Proofs.YtffnefmklckngaaGreat.Sy
namespace Go.Proofs.YtffnefmklckngaaGreat.Sy
open Go Go.RowKit
set_option linter.unusedSimpArgs false
set_option linter.unusedVariables false
abbrev n_l_toTallyS:Nat:=74
def F_l_toTallyS:Fn1:=⟨23,[.t 2],(.seq (.reg [o 2 (.mov (.k .nilS))]) (.seq (.reg [o 5 (.mov (.t 0)),o 6 (.len false (.t 5)),o 7 (.mks 3 32 [(.str ⟨#[]⟩),(.int .i64 0),(.int .i64 0)] (.t 6) (.t 6)),o 3 (.mov (.t 7))]) (.seq (.seq (.reg [o 4 (.mov (.k (.int .i64 0)))]) (.blk 0 (.lop (.seq (.seq (.reg [o 8 (.mov (.t 4)),o 9 (.mov (.t 0)),o 10 (.len false (.t 9)),o 11 (.bin .lss (.t 8) (.t 10))]) (.cnd (.t 11) .skip (.ext 0))) (.seq (.blk 1 (.reg [o 14 (.mov (.t 3)),o 15 (.mov (.t 4)),o 16 (.mov (.t 0)),o 17 (.mov (.t 4)),o 18 (.iad 3 (.t 16) (.t 17)),o 19 (.ld true 3 (.t 18)),o 20 (.call 128 [(.t 19)]),o 21 (.iad 3 (.t 14) (.t 15)),on (.st 3 (.t 21) (.t 20))])) (.reg [o 12 (.mov (.t 4)),o 13 (.bin .add (.t 12) (.k (.int .i64 1))),o 4 (.mov (.t 13))])))))) (.seq (.reg [o 22 (.mov (.t 3)),o 2 (.mov (.t 22))]) .ret))))⟩
theorem ir_l_toTallyS:compFn Tryz.prog n_l_toTallyS=some F_l_toTallyS:=by kernel_rfl
theorem l_toTallyS_ret (σ:St) (v:GV) (l:List Tally) (hR:RS pTally.kd σ v l) (hl:l.length≤1099511627776):∃ r τ,Ret Tryz.prog n_l_toTallyS [v] σ r τ∧Hp σ τ [ow pTally.kd r l]:=by
 refine ret_hp (rs:=fun r=>[ow pTally.kd r l]) ir_l_toTallyS (Nat.le_of_ble_eq_true rfl) ?_
 have hmk:∀ ze,mksG 3 32 ze σ (some l.length) (some l.length)=some (.sl σ.length 0 l.length,σ++[some (.row 3 (reps l.length ze))]):=fun ze=>mks_ok (by omega)
 simp +contextual (disch:=omega) only[go_sem,F_l_toTallyS,hR.len,hmk]
 have H0:=((Hp.refl σ).new 3 (reps l.length (pTally.enc ⟨⟨#[]⟩,0,0⟩))).toRow 0 (p:=pTally) rfl (List.replicate l.length ⟨⟨#[]⟩,0,0⟩) rfl (reps_enc _ _ _) l.length (by simp)
 refine vc_for l.length 4 (fun i env τ=>env 0=v∧env 3= .sl σ.length 0 l.length∧Hp σ τ [ow pTally.kd (.sl σ.length 0 l.length) (l.take i++List.replicate (l.length - i) ⟨⟨#[]⟩,0,0⟩)]) rfl ⟨rfl,rfl,by rw[List.take_zero,List.nil_append,Nat.sub_zero];exact H0⟩ ?_ ?_
 ·rintro i env τ hi e4 c0 ⟨e0,e3,H⟩
  have h1:=hR.pre H.sub
  have h2:=H.sl 0 rfl
  have hj:=fill_len (z:=(⟨⟨#[]⟩,0,0⟩:Tally)) hi
  simp +contextual (disch:=omega) only[go_sem,e0,e3,e4,c0,hR.len,Tally_at h1 hi]
  refine by_ret (l_toTally_ret τ l[i]) ?_
  obtain⟨τ',es,H'⟩:=H.stw 0 rfl hj 3 (.agg [.str l[i].obj,.int .i64 l[i].rep,.int .i64 l[i].sum]) l[i] rfl rfl (by decide)
  rw[fill_step hi] at H'
  have es:stG 3 τ (atz 3 (.sl σ.length 0 l.length) i) (.agg [.str l[i].obj,.int .i64 l[i].rep,.int .i64 l[i].sum])=some (.tup [],τ'):=es
  simp +contextual (disch:=omega) only[go_sem,e0,e3,e4,c0,hR.len,Tally_at h1 hi,Tally_at h2 hj,es]
  exact H'
 ·rintro env τ e4 c0 ⟨e0,e3,H⟩
  rw[fill_end] at H
  simp +contextual (disch:=omega) only[go_sem,e0,e3,e4,c0,hR.len]
  exact⟨_,rfl,H⟩
end Go.Proofs.YtffnefmklckngaaGreat.Sy
namespace Go.Proofs.YtffnefmklckngaaGreat.Sy
open Go Go.RowKit
set_option linter.unusedSimpArgs false
set_option linter.unusedVariables false
abbrev n_l_toDelta:Nat:=108
def F_l_toDelta:Fn1:=⟨29,[.c 2 true 6],(.seq (.reg [o 1 (.box (.t 0)),o 2 (.new [.nilS,.nilS,.nilS,.nilS,.nilS,.nilS])]) (.seq (.reg [o 3 (.new [.nilS,.nilS,.nilS,.nilS,.nilS,.nilS])]) (.seq (.reg [o 4 (.fad 0 (.t 1)),o 5 (.ld false 1 (.t 4)),o 6 (.call 73 [(.t 5)]),o 7 (.fad 0 (.t 3)),on (.st 1 (.t 7) (.t 6))]) (.seq (.reg [o 8 (.fad 1 (.t 1)),o 9 (.ld false 1 (.t 8)),o 10 (.call 73 [(.t 9)]),o 11 (.fad 1 (.t 3)),on (.st 1 (.t 11) (.t 10))]) (.seq (.reg [o 12 (.fad 2 (.t 1)),o 13 (.ld false 1 (.t 12)),o 14 (.call 74 [(.t 13)]),o 15 (.fad 2 (.t 3)),on (.st 1 (.t 15) (.t 14))]) (.seq (.reg [o 16 (.fad 3 (.t 1)),o 17 (.ld false 1 (.t 16)),o 18 (.call 75 [(.t 17)]),o 19 (.fad 3 (.t 3)),on (.st 1 (.t 19) (.t 18))]) (.seq (.reg [o 20 (.fad 4 (.t 1)),o 21 (.ld false 1 (.t 20)),o 22 (.call 170 [(.t 21)]),o 23 (.fad 4 (.t 3)),on (.st 1 (.t 23) (.t 22))]) (.seq (.reg [o 24 (.fad 5 (.t 1)),o 25 (.ld false 1 (.t 24)),o 26 (.call 76 [(.t 25)]),o 27 (.fad 5 (.t 3)),on (.st 1 (.t 27) (.t 26))]) (.seq (.reg [o 28 (.ld true 6 (.t 3)),on (.st 6 (.t 2) (.t 28))]) .ret)))))))))⟩
theorem ir_l_toDelta:compFn Tryz.prog n_l_toDelta=some F_l_toDelta:=by kernel_rfl
theorem l_toDelta_ret (σ:St) (cs:List GV) (x:Delta) (hR:kDelta.R σ x cs) (hl:msDelta x≤1099511627776):∃ r τ,Ret Tryz.prog n_l_toDelta [.agg cs] σ r τ∧σ <+: τ∧∃ ds,r= .agg ds∧Hp σ τ [own kDelta ds x]:=by
 have hlen:=kDelta.len hR
 have hlen:cs.length=6:=hlen
 obtain⟨v0,v1,v2,v3,v4,v5,rfl,q0,q1,q2,q3,q4,q5⟩:=hR
 unfold msDelta at hl
 refine ret_new ir_l_toDelta (Nat.le_of_ble_eq_true rfl) ?_
 simp +contextual (disch:=omega) only[go_sem,F_l_toDelta,List.append_nil]
 have H:=(((Hp.refl σ).new 1 (v0::v1::v2::v3::v4::v5::[])).new 1 [GV.nilS,GV.nilS,GV.nilS,GV.nilS,GV.nilS,GV.nilS]).new 1 [GV.nilS,GV.nilS,GV.nilS,GV.nilS,GV.nilS,GV.nilS]
 obtain⟨r0,τ0,R0,K0⟩:=l_toIntS_ret _ v0 x.base (q0.pre H.sub) (by omega)
 refine by_hp R0 K0 ?_
 have e0:=(K0.sl 0 rfl).cell
 have H:=H.add K0
 try simp only[go_sem] at H
 try simp +contextual (disch:=omega) only[go_sem,List.append_nil,ld_ptr (H.pt 3 rfl),ld_ptr (H.pt 1 rfl)]
 obtain⟨_,es,H,_⟩:=H.st 1 rfl 1 0 (r0) (by rw[e0];rfl) (by decide) (Nat.le_of_ble_eq_true rfl)
 try simp only[go_sem,List.set_cons_zero,List.set_cons_succ,e0] at H
 try simp +contextual (disch:=omega) only[go_sem,List.append_nil,es,ld_ptr (H.pt 3 rfl),ld_ptr (H.pt 1 rfl)]
 obtain⟨r1,τ1,R1,K1⟩:=l_toIntS_ret _ v1 x.know (q1.pre H.sub) (by omega)
 refine by_hp R1 K1 ?_
 have e1:=(K1.sl 0 rfl).cell
 have H:=H.add K1
 try simp only[go_sem] at H
 try simp +contextual (disch:=omega) only[go_sem,List.append_nil,ld_ptr (H.pt 4 rfl),ld_ptr (H.pt 2 rfl)]
 obtain⟨_,es,H,_⟩:=H.st 2 rfl 1 1 (r1) (by rw[e1];rfl) (by decide) (Nat.le_of_ble_eq_true rfl)
 try simp only[go_sem,List.set_cons_zero,List.set_cons_succ,e1] at H
 try simp +contextual (disch:=omega) only[go_sem,List.append_nil,es,ld_ptr (H.pt 4 rfl),ld_ptr (H.pt 2 rfl)]
 obtain⟨r2,τ2,R2,K2⟩:=l_toTallyS_ret _ v2 x.tallies (q2.pre H.sub) (by omega)
 refine by_hp R2 K2 ?_
 have e2:=(K2.sl 0 rfl).cell
 have H:=H.add K2
 try simp only[go_sem] at H
 try simp +contextual (disch:=omega) only[go_sem,List.append_nil,ld_ptr (H.pt 5 rfl),ld_ptr (H.pt 3 rfl)]
 obtain⟨_,es,H,_⟩:=H.st 3 rfl 1 2 (r2) (by rw[e2];rfl) (by decide) (Nat.le_of_ble_eq_true rfl)
 try simp only[go_sem,List.set_cons_zero,List.set_cons_succ,e2] at H
 try simp +contextual (disch:=omega) only[go_sem,List.append_nil,es,ld_ptr (H.pt 5 rfl),ld_ptr (H.pt 3 rfl)]
 obtain⟨r3,τ3,R3,K3⟩:=l_toLiveS_ret _ v3 x.lives (q3.pre H.sub) (by omega)
 refine by_hp R3 K3 ?_
 have e3:=(K3.sl 0 rfl).cell
 have H:=H.add K3
 try simp only[go_sem] at H
 try simp +contextual (disch:=omega) only[go_sem,List.append_nil,ld_ptr (H.pt 6 rfl),ld_ptr (H.pt 4 rfl)]
 obtain⟨_,es,H,_⟩:=H.st 4 rfl 1 3 (r3) (by rw[e3];rfl) (by decide) (Nat.le_of_ble_eq_true rfl)
 try simp only[go_sem,List.set_cons_zero,List.set_cons_succ,e3] at H
 try simp +contextual (disch:=omega) only[go_sem,List.append_nil,es,ld_ptr (H.pt 6 rfl),ld_ptr (H.pt 4 rfl)]
 obtain⟨r4,τ4,R4,K4⟩:=l_toDotS_ret _ v4 x.dead (q4.pre H.sub) (by omega)
 refine by_hp R4 K4 ?_
 have e4:=(K4.sl 0 rfl).cell
 have H:=H.add K4
 try simp only[go_sem] at H
 try simp +contextual (disch:=omega) only[go_sem,List.append_nil,ld_ptr (H.pt 7 rfl),ld_ptr (H.pt 5 rfl)]
 obtain⟨_,es,H,_⟩:=H.st 5 rfl 1 4 (r4) (by rw[e4];rfl) (by decide) (Nat.le_of_ble_eq_true rfl)
 try simp only[go_sem,List.set_cons_zero,List.set_cons_succ,e4] at H
 try simp +contextual (disch:=omega) only[go_sem,List.append_nil,es,ld_ptr (H.pt 7 rfl),ld_ptr (H.pt 5 rfl)]
 obtain⟨r5,τ5,R5,K5⟩:=l_toCellS_ret _ v5 x.cells (q5.pre H.sub) (by omega)
 refine by_hp R5 K5 ?_
 have e5:=(K5.sl 0 rfl).cell
 have H:=H.add K5
 try simp only[go_sem] at H
 try simp +contextual (disch:=omega) only[go_sem,List.append_nil,ld_ptr (H.pt 8 rfl),ld_ptr (H.pt 6 rfl)]
 obtain⟨_,es,H,_⟩:=H.st 6 rfl 1 5 (r5) (by rw[e5];rfl) (by decide) (Nat.le_of_ble_eq_true rfl)
 try simp only[go_sem,List.set_cons_zero,List.set_cons_succ,e5] at H
 try simp +contextual (disch:=omega) only[go_sem,List.append_nil,es,ld_ptr (H.pt 8 rfl),ld_ptr (H.pt 6 rfl)]
 obtain⟨_,es,H,_⟩:=H.st 7 rfl 6 0 (.agg (r0::r1::r2::r3::r4::r5::[])) (rfl) (by decide) (Nat.le_of_ble_eq_true rfl)
 try simp only[go_sem,List.set_cons_zero,List.set_cons_succ] at H
 try simp +contextual (disch:=omega) only[go_sem,List.append_nil,es,ld_ptr (H.pt 7 rfl)]
 have h0:=H.sub
 have H:=(((((H.pick 1 rfl).pick 2 rfl).pick 3 rfl).pick 4 rfl).pick 5 rfl)
 try simp only[List.eraseIdx_cons_succ,List.eraseIdx_cons_zero] at H
 exact⟨_,rfl,h0,_,rfl,H.ownDelta.one⟩
end Go.Proofs.YtffnefmklckngaaGreat.Sy
namespace Go.Proofs.YtffnefmklckngaaGreat.Sy
open Go Go.RowKit
set_option linter.unusedSimpArgs false
set_option linter.unusedVariables false
abbrev n_l_toUnit:Nat:=38
def F_l_toUnit:Fn1:=⟨16,[.c 2 true 17],(.seq (.reg [o 1 (.box (.t 0)),o 2 (.new [(.bool false),(.int .i64 0),(.int .i64 0),(.int .i64 0),.nilS,(.int .i64 0),(.str ⟨#[]⟩),(.str ⟨#[]⟩),(.int .i64 0),(.int .i64 0),(.int .i64 0),.nilS,.nilS,.nilS,.nilS,.nilS,.nilS])]) (.seq (.reg [o 3 (.new [(.bool false),(.int .i64 0),(.int .i64 0),(.int .i64 0),.nilS,(.int .i64 0),(.str ⟨#[]⟩),(.str ⟨#[]⟩),(.int .i64 0),(.int .i64 0),(.int .i64 0),.nilS,.nilS,.nilS,.nilS,.nilS,.nilS])]) (.seq (.reg [o 4 (.fad 0 (.t 1)),o 5 (.ld false 1 (.t 4)),o 6 (.fad 0 (.t 3)),on (.st 1 (.t 6) (.t 5))]) (.seq (.reg [o 7 (.fad 1 (.t 1)),o 8 (.ld true 10 (.t 7)),o 9 (.call 107 [(.t 8)]),o 10 (.fad 1 (.t 3)),on (.st 10 (.t 10) (.t 9))]) (.seq (.reg [o 11 (.fad 11 (.t 1)),o 12 (.ld true 6 (.t 11)),o 13 (.call 108 [(.t 12)]),o 14 (.fad 11 (.t 3)),on (.st 6 (.t 14) (.t 13))]) (.seq (.reg [o 15 (.ld true 17 (.t 3)),on (.st 17 (.t 2) (.t 15))]) .ret))))))⟩
theorem ir_l_toUnit:compFn Tryz.prog n_l_toUnit=some F_l_toUnit:=by kernel_rfl
theorem l_toUnit_ret (σ:St) (cs:List GV) (x:Unit_) (hR:kUnit_.R σ x cs) (hl:msUnit x≤1099511627776):∃ r τ,Ret Tryz.prog n_l_toUnit [.agg cs] σ r τ∧σ <+: τ∧∃ ds,r= .agg ds∧Hp σ τ [own kUnit_ ds x]:=by
 obtain⟨v1,v2,rfl,hA,hD⟩:=hR
 have hA0:=hA
 have hD0:=hD
 obtain⟨kv,rfl,_⟩:=hA
 obtain⟨d0,d1,d2,d3,d4,d5,rfl,_⟩:=hD
 have hma:msAct x.act≤1099511627776∧msDelta x.delta≤1099511627776:=by unfold msUnit at hl;omega
 have key:∃ r τ,Ret Tryz.prog n_l_toUnit [.agg (.bool x.batch::[.int .i64 x.act.dot.rep,.int .i64 x.act.dot.seq,.int .i64 x.act.time,kv,.int .i64 x.act.kind,.str x.act.obj,.str x.act.key,.int .i64 x.act.val,.int .i64 x.act.ref.rep,.int .i64 x.act.ref.seq]++([d0,d1,d2,d3,d4,d5]++[]))] σ r τ∧∃ ds,r= .agg ds∧Hp σ τ [own kUnit_ ds x]:=by
  refine ret_x ir_l_toUnit (Nat.le_of_ble_eq_true rfl) (Hx.refl σ) ?_
  simp +contextual (disch:=omega) only[go_sem,F_l_toUnit]
  intro n1 f1 τ1 H1 n2 f2 τ2 H2 n3 f3 τ3 _ τ4 H4
  obtain⟨_,τ5,R5,_,es,rfl,K5⟩:=l_toAct_ret τ4 _ x.act (kAct.pre hA0 H4.sub) hma.1
  refine by_c H4 R5 K5 fun H5=> ?_
  obtain⟨kv',rfl,_⟩:=K5.rd 0 rfl
  simp +contextual (disch:=omega) only[go_sem]
  intro τ6 H6
  obtain⟨_,τ7,R7,_,fs,rfl,K7⟩:=l_toDelta_ret τ6 _ x.delta (kDelta.pre hD0 H6.sub) hma.2
  refine by_c H6 R7 K7 fun H7=> ?_
  obtain⟨e0,e1,e2,e3,e4,e5,rfl,_⟩:=K7.rd 0 rfl
  simp +contextual (disch:=omega) only[go_sem]
  intro τ8 _ τ9 H9
  exact⟨_,rfl,_,rfl,Hp.ownUnit_ (x:=x) (H9.sel [1,0] (by decide))⟩
 obtain⟨r,τ,R,ds,rfl,h⟩:=key
 exact⟨_,τ,R,h.sub,ds,rfl,h⟩
end Go.Proofs.YtffnefmklckngaaGreat.Sy
namespace Go.Proofs.YtffnefmklckngaaGreat.Sy
open Go Go.RowKit
set_option linter.unusedSimpArgs false
set_option linter.unusedVariables false
theorem flat_set_mem {fps:List (List Nat)} {j:Nat} {fx:List Nat} {g:Nat} (h:g∈(fps.set j fx).flatten):g∈fps.flatten∨g∈fx:=by
 obtain⟨f,hf,hg⟩:=List.mem_flatten.1 h
 rcases List.mem_or_eq_of_mem_set hf with h1|h1
 ·exact .inl (List.mem_flatten.2 ⟨f,h1,hg⟩)
 ·exact .inr (h1 ▸ hg)
theorem flat_set_nodup:∀ {fps:List (List Nat)} {j:Nat} {fx:List Nat},fps.flatten.Nodup→fx.Nodup→(∀ g∈fx,g∉fps.flatten)→(fps.set j fx).flatten.Nodup
 |[],j,fx,_,_,_=>by simp
 |f::fps,0,fx,h,hx,hd=>by
  rw[List.flatten_cons,List.nodup_append] at h
  rw[List.set_cons_zero,List.flatten_cons,List.nodup_append]
  refine⟨hx,h.2.1,fun a ha b hb e=> ?_⟩
  subst e
  exact hd a ha (by rw[List.flatten_cons];exact List.mem_append_right _ hb)
 |f::fps,j+1,fx,h,hx,hd=>by
  rw[List.flatten_cons,List.nodup_append] at h
  rw[List.set_cons_succ,List.flatten_cons,List.nodup_append]
  refine⟨h.1,flat_set_nodup h.2.1 hx fun g hg hm=>hd g hg (by rw[List.flatten_cons];exact List.mem_append_right _ hm),fun a ha b hb e=> ?_⟩
  subst e
  rcases flat_set_mem hb with h1|h1
  ·exact h.2.2 a ha a h1 rfl
  ·exact hd a h1 (by rw[List.flatten_cons];exact List.mem_append_left _ ha)
section os
variable {α:Type} {d:Kd α} {σ τ:St} {l:List α} {v:GV} {fp:List Nat}
theorem all3_len {css:List (List GV)} {fps:List (List Nat)} (h:All3 (d.O τ) l css fps):∀ c∈css,c.length=d.z:=by
 induction h with
 |nil=>simp
 |cons h _ ih=>
  intro c hc
  rcases List.mem_cons.1 hc with rfl|hc
  ·exact d.len (d.rd h)
  ·exact ih c hc
theorem OS.setc {x:α} {cs:List GV} {fx:List Nat} (h:OS d τ l v fp) (hx:d.O τ x cs fx) (hn:(fp++fx).Nodup) (hlt:∀ g∈fp++fx,g<τ.length) (hz:0<d.z) {j:Nat} (hj:j<l.length):
  ∃ τ' fp',stG d.z τ (atz d.z v j) (.agg cs)=some (.tup [],τ')∧OS d τ' (l.set j x) v fp'∧Turn τ τ' (fp++fx) fp':=by
 have hcl:=d.len (d.rd hx)
 rcases h with⟨rfl,rfl,rfl⟩|⟨g,pre,css,post,fps,rfl,hB,hA,rfl⟩
 ·simp at hj
 ·rw[List.cons_append,List.nodup_cons] at hn
  obtain⟨hg,hn⟩:=hn
  rw[List.nodup_append] at hn
  have hgt:g<τ.length:=hlt g (by simp)
  have hfl:=flat_len hA
  obtain⟨c,f,hc,_,_⟩:=hA.get (j:=j) (a:=l[j]) (by simp[hj])
  have hcz:=all3_len hA c (List.mem_of_getElem? hc)
  have hm:(j+1)*d.z≤l.length*d.z:=Nat.mul_le_mul_right _ hj
  rw[Nat.add_mul,Nat.one_mul] at hm
  have e1:splice css.flatten (j*d.z+0) cs=(css.set j cs).flatten:=by
   rw[flatten_set (all3_len hA) hc (by omega)]
   congr 2
   unfold splice
   rw[List.take_zero,List.nil_append,List.drop_eq_nil_of_le (by omega),List.append_nil]
  have e2:splice (pre++css.flatten++post) (pre.length+(j*d.z+0)) cs=pre++(css.set j cs).flatten++post:=by
   rw[splice_mid (by omega),e1]
  have keep:∀ g',g'≠g→bk (τ.set g (some (.row d.z (pre++(css.set j cs).flatten++post)))) g'=bk τ g':=fun g' hne=>bk_set_ne (Ne.symm hne)
  refine⟨τ.set g (some (.row d.z (pre++(css.set j cs).flatten++post))),g::(fps.set j fx).flatten,?_,.inr ⟨g,pre,css.set j cs,post,fps.set j fx,by simp,bk_some.2 (by rw[List.getElem?_set_self hgt]),?_,rfl⟩,⟨?_,?_,by simp,?_⟩⟩
  ·simp only[atz,stG,bk_some.1 hB]
   rw[if_pos ⟨by simp only[List.length_append];omega,hz,hcl⟩]
   rw[Nat.add_zero] at e2
   rw[show (GV.agg cs).cells=cs from rfl,e2]
  ·refine(hA.set j hx).imp fun a b c hc ho=>d.loc ho fun g' hg'=>keep g' fun e=> ?_
   subst e
   rcases flat_set_mem (List.mem_flatten.2 ⟨c,hc,hg'⟩) with h1|h1
   ·exact hg (List.mem_append_left _ h1)
   ·exact hg (List.mem_append_right _ h1)
  ·rw[List.nodup_cons]
   refine⟨fun h1=> ?_,flat_set_nodup hn.1 hn.2.1 fun g' h1 h2=>hn.2.2 g' h2 g' h1 rfl⟩
   rcases flat_set_mem h1 with h1|h1
   ·exact hg (List.mem_append_left _ h1)
   ·exact hg (List.mem_append_right _ h1)
  ·intro g' hg'
   refine .inl ?_
   rcases List.mem_cons.1 hg' with rfl|h1
   ·simp
   ·rcases flat_set_mem h1 with h1|h1
    ·simp only[List.cons_append,List.mem_cons,List.mem_append];exact .inr (.inl h1)
    ·simp only[List.cons_append,List.mem_cons,List.mem_append];exact .inr (.inr h1)
  ·intro g' hg' hne
   exact keep g' fun e=>hne (by rw[e];simp)
theorem OS.fresh {x0:α} {ze:List GV} {n len:Nat} (h0:∀ τ,d.O τ x0 ze []) (hB:bk τ n=some (.row d.z (reps len ze))):OS d τ (List.replicate len x0) (.sl n 0 len) [n]:=by
 refine .inr ⟨n,[],List.replicate len ze,[],List.replicate len [],by simp,by rw[hB];simp[reps],?_,?_⟩
 ·clear hB
  induction len with
  |zero=>exact .nil
  |succ k ih=>exact .cons (h0 τ) ih
 ·simp
end os
section rules
variable {P:Program} {D:Bool} {σ τ:St} {h:List Item} {k:Kx} {v:GV} {α:Type} {l:List α} {d:Kd α}
theorem Hx.mk {x0:α} {ze:List GV} {n len z:Nat} (H:Hx σ τ (.box z n (reps len ze)::h)) (d:Kd α) (hz:z=d.z) (h0:∀ τ,d.O τ x0 ze []):Hx σ τ (.th (ow d (.sl n 0 len) (List.replicate len x0))::h):=
 H.hp.conv fun fp hp=>by
  obtain⟨rfl,hB⟩:=hp
  exact OS.fresh h0 (hz ▸ hB)
theorem by_setc {x:α} {cs:List GV} (H:Hx σ τ h) (m i:Nat) (hm:h[m]? =some (.th (own d cs x))) (hi:(h.eraseIdx m)[i]? =some (.th (ow d v l))) (hz:0<d.z) {j:Nat} (hj:j<l.length)
  (kk:∀ τ',Hx σ τ' ((h.eraseIdx m).set i (.th (ow d v (l.set j x))))→k (.tup []) ((h.eraseIdx m).set i (.th (ow d v (l.set j x)))) τ'):stX σ false h τ d.z k (atz d.z v j) (.agg cs):=by
 have H1:=H.hp.pick m (at_t hm)
 rw[map_era] at H1
 have hp:(own d cs x::(h.eraseIdx m).map Item.t).Perm (ow d v l::own d cs x::((h.eraseIdx m).map Item.t).eraseIdx i):=((Hp.pick_perm (at_t hi)).cons _).trans (List.Perm.swap _ _ _)
 obtain⟨a,⟨a1,a2,h1,h2,rfl⟩,hn,hbd,ht⟩:=(H1.perm hp).join.turn
 obtain⟨τ',fp',e,ho,hT⟩:=OS.setc h1 h2 hn (fun g hg=>(hbd g hg).2) hz hj
 have H':=Hp.unpick (ht (r':=ow d v (l.set j x)) hT ho) (List.getElem?_eq_some_iff.1 (at_t hi)).1
 rw[← set_t] at H'
 have g:genX σ false τ (stG d.z τ (atz d.z v j) (.agg cs)) k:=⟨_,τ',_,e,(fun h=>by cases h),H',kk τ' H'⟩
 rcases h1 with⟨rfl,_⟩|⟨gb,pre,css,post,fps,rfl,hB,hA,rfl⟩
 ·simp at hj
 ·have hno:look h gb=none:=by
   obtain⟨i0,hi0⟩:∃ i0:Nat,h[i0]? =some (.th (ow d (.sl gb pre.length l.length) l)):=by
    have:=List.mem_of_getElem? hi
    have:=List.mem_of_mem_eraseIdx this
    obtain⟨i0,h1,h2⟩:=List.getElem_of_mem this
    exact⟨i0,by rw[List.getElem?_eq_getElem h1,h2]⟩
   refine no_box H hi0 fun fp'' ho'=> ?_
   rcases ho' with⟨rfl,_⟩|⟨g',pre',css',post',fps',e',_,_,rfl⟩
   ·simp at hj
   ·injection e' with e1;rw[e1];exact List.mem_cons_self
  show stB σ false h τ d.z k gb _ (.agg cs) (look h gb)
  rw[hno]
  exact g
end rules
end Go.Proofs.YtffnefmklckngaaGreat.Sy
namespace Go.Proofs.YtffnefmklckngaaGreat.Sy
open Go Go.RowKit
set_option linter.unusedSimpArgs false
set_option linter.unusedVariables false
abbrev n_l_toUnitS:Nat:=10
def F_l_toUnitS:Fn1:=⟨23,[.t 2],(.seq (.reg [o 2 (.mov (.k .nilS))]) (.seq (.reg [o 5 (.mov (.t 0)),o 6 (.len false (.t 5)),o 7 (.mks 17 264 [(.bool false),(.int .i64 0),(.int .i64 0),(.int .i64 0),.nilS,(.int .i64 0),(.str ⟨#[]⟩),(.str ⟨#[]⟩),(.int .i64 0),(.int .i64 0),(.int .i64 0),.nilS,.nilS,.nilS,.nilS,.nilS,.nilS] (.t 6) (.t 6)),o 3 (.mov (.t 7))]) (.seq (.seq (.reg [o 4 (.mov (.k (.int .i64 0)))]) (.blk 0 (.lop (.seq (.seq (.reg [o 8 (.mov (.t 4)),o 9 (.mov (.t 0)),o 10 (.len false (.t 9)),o 11 (.bin .lss (.t 8) (.t 10))]) (.cnd (.t 11) .skip (.ext 0))) (.seq (.blk 1 (.reg [o 14 (.mov (.t 3)),o 15 (.mov (.t 4)),o 16 (.mov (.t 0)),o 17 (.mov (.t 4)),o 18 (.iad 17 (.t 16) (.t 17)),o 19 (.ld true 17 (.t 18)),o 20 (.call 38 [(.t 19)]),o 21 (.iad 17 (.t 14) (.t 15)),on (.st 17 (.t 21) (.t 20))])) (.reg [o 12 (.mov (.t 4)),o 13 (.bin .add (.t 12) (.k (.int .i64 1))),o 4 (.mov (.t 13))])))))) (.seq (.reg [o 22 (.mov (.t 3)),o 2 (.mov (.t 22))]) .ret))))⟩
theorem ir_l_toUnitS:compFn Tryz.prog n_l_toUnitS=some F_l_toUnitS:=by kernel_rfl
def act00:Act:=⟨⟨0,0⟩,0,[],0,⟨#[]⟩,⟨#[]⟩,0,⟨0,0⟩⟩
def unit0:Unit_:=⟨false,act00,⟨[],[],[],[],[],[]⟩⟩
abbrev zeA:List GV:=[gi 0,gi 0,gi 0,.nilS,gi 0,.str ⟨#[]⟩,.str ⟨#[]⟩,gi 0,gi 0,gi 0]
abbrev zeD:List GV:=[.nilS,.nilS,.nilS,.nilS,.nilS,.nilS]
theorem act0_own (τ:St):kAct.O τ act00 zeA []:=⟨.nilS,[],rfl,.inl ⟨rfl,rfl,rfl⟩,rfl⟩
theorem delta0_own (τ:St):kDelta.O τ ⟨[],[],[],[],[],[]⟩ zeD []:=⟨.nilS,.nilS,.nilS,.nilS,.nilS,.nilS,[],[],[],[],[],[],rfl,.inl ⟨rfl,rfl,rfl⟩,.inl ⟨rfl,rfl,rfl⟩,.inl ⟨rfl,rfl,rfl⟩,.inl ⟨rfl,rfl,rfl⟩,.inl ⟨rfl,rfl,rfl⟩,.inl ⟨rfl,rfl,rfl⟩,rfl⟩
theorem unit0_own (τ:St):kUnit_.O τ unit0 (.bool false::zeA++(zeD++[])) []:=⟨zeA,zeD,[],[],rfl,act0_own τ,delta0_own τ,rfl⟩
theorem unit_at' {σ:St} {v:GV} {l:List Unit_} (h:RS kUnit_ σ v l) {i:Nat} (hi:i<l.length):∃ cs,(iadG 17 v (some i)=some (atz 17 v i)∧ldG true 17 σ (atz 17 v i)=some (.agg cs))∧kUnit_.R σ l[i] cs:=by
 obtain⟨cs,⟨h1,_,_,h4,_⟩,h5⟩:=RdN.cellsN h hi
 exact⟨cs,⟨h1,h4⟩,h5⟩
theorem set_stepU {α:Type} {l:List α} {x0:α} {i:Nat} (hi:i<l.length):(l.take i++List.replicate (l.length - i) x0).set i l[i]=l.take (i+1)++List.replicate (l.length - (i+1)) x0:=by
 have e:List.replicate (l.length - i) x0=x0::List.replicate (l.length - (i+1)) x0:=by
  rw[show l.length - i=(l.length - (i+1))+1 by omega,List.replicate_succ]
 rw[e,take_snoc hi,List.append_assoc,List.set_append_right _ _ (by rw[List.length_take];omega)]
 congr 1
 rw[List.length_take,Nat.min_eq_left (by omega),Nat.sub_self]
 rfl
theorem l_toUnitS_ret (σ:St) (v:GV) (l:List Unit_) (hR:RS kUnit_ σ v l) (hl:l.length+sumL msUnit l≤1073741824):∃ r τ,Ret Tryz.prog n_l_toUnitS [v] σ r τ∧Hp σ τ [ow kUnit_ r l]:=by
 refine ret_x ir_l_toUnitS (Nat.le_of_ble_eq_true rfl) (Hx.refl σ) ?_
 simp +contextual (disch:=omega) only[go_sem,F_l_toUnitS,hR.len,natOf_nat]
 refine⟨by omega,?_⟩
 intro n f τ H
 have H1:=H.mk kUnit_ rfl unit0_own
 refine sx_for l.length 4 0 (fun i env h=>env 0=v∧env 3= .sl n 0 l.length∧h=[.th (ow kUnit_ (.sl n 0 l.length) (l.take i++List.replicate (l.length - i) unit0))]) (fun env h=>env 3= .sl n 0 l.length∧h=[.th (ow kUnit_ (.sl n 0 l.length) l)]) (fun env h=>False) _ H1 (by simp +contextual (disch:=omega) only[go_sem]) ⟨by simp +contextual (disch:=omega) only[go_sem],by simp +contextual (disch:=omega) only[go_sem],by simp⟩ ?_ ?_ ?_ (fun _ _ _ _ h=>h.elim)
 ·clear H H1
  rintro J Y W hJ hY hW i env h' τ hi ei c0 H ⟨e0,e3,rfl⟩
  obtain⟨cs,U1,hU⟩:=unit_at' hR hi
  have hmu:msUnit l[i]≤sumL msUnit l:=sumL_mem (f:=msUnit) (List.getElem_mem hi)
  have i3:iadG 17 (.sl n 0 l.length) (some i)=some (atz 17 (.sl n 0 l.length) i):=by simp[iadG,hi,atz]
  simp +contextual (disch:=omega) only[go_sem,c0,e0,e3,ei,natOf_nat,hR.len,U1]
  obtain⟨_,τ2,R2,_,ds,rfl,K2⟩:=l_toUnit_ret τ cs l[i] (kUnit_.pre hU H.sub) (by omega)
  refine by_c H R2 K2 fun H2=> ?_
  simp +contextual (disch:=omega) only[go_sem,i3,natOf_nat]
  refine by_setc (d:=kUnit_) H2 0 0 rfl rfl (by decide) (by rw[List.length_append,List.length_take,List.length_replicate];omega) fun τ3 H3=> ?_
  simp +contextual (disch:=omega) only[go_sem,ei]
  exact hJ _ _ _ _ H3 ⟨by simp +contextual (disch:=omega) only[go_sem,e0],by simp +contextual (disch:=omega) only[go_sem,e3],by rw[set_stepU hi];rfl⟩
 ·clear H H1
  rintro Y hY env h' τ ei c0 H ⟨e0,e3,rfl⟩
  simp +contextual (disch:=omega) only[go_sem,c0,e0,ei,hR.len]
  exact hY _ _ _ H ⟨e3,by simp⟩
 ·clear H H1
  rintro env h' τ H ⟨e3,rfl⟩
  simp +contextual (disch:=omega) only[go_sem,e3]
  exact fun _=>⟨_,rfl,H.hp⟩
end Go.Proofs.YtffnefmklckngaaGreat.Sy
