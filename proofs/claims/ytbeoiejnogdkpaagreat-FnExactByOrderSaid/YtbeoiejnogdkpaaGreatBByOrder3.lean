/- Texts of this proof, one behind the other. -/
import Derived.Test.YtbeoiejnogdkpaaGreatBByOrder2
import Derived.Test.YtbeoiejnogdkpaaGreatProg
import Derived.KernelRfl
namespace Go.Proofs.YtbeoiejnogdkpaaGreat.Sy
open Go Go.RowKit
set_option linter.unusedSimpArgs false
set_option linter.unusedVariables false
set_option maxRecDepth 4000
abbrev n_i_DeltaOk:Nat:=225
def F_i_DeltaOk:Fn1:=⟨103,[.t 2],(.seq (.reg [o 1 (.box (.t 0)),o 2 (.mov (.k (.bool false)))]) (.seq (.seq (.reg [o 9 (.fad 0 (.t 1)),o 10 (.ld false 1 (.t 9)),o 11 (.fad 1 (.t 1)),o 12 (.ld false 1 (.t 11)),o 13 (.call 177 [(.t 10),(.t 12)]),o 14 (.un .not (.t 13)),o 15 (.mov (.t 14)),og 16 15 false (.fad 2 (.t 1)),og 17 15 false (.ld false 1 (.t 16)),og 18 15 false (.call 285 [(.t 17)]),og 19 15 false (.un .not (.t 18)),o 20 (.pick (.t 15) (.k (.bool true)) (.t 19)),o 21 (.mov (.t 20)),og 22 21 false (.fad 3 (.t 1)),og 23 21 false (.ld false 1 (.t 22)),og 24 21 false (.fad 1 (.t 1)),og 25 21 false (.ld false 1 (.t 24)),og 26 21 false (.call 286 [(.t 23),(.t 25)]),og 27 21 false (.un .not (.t 26)),o 28 (.pick (.t 21) (.k (.bool true)) (.t 27)),o 29 (.mov (.t 28)),og 30 29 false (.fad 5 (.t 1)),og 31 29 false (.ld false 1 (.t 30)),og 32 29 false (.fad 1 (.t 1)),og 33 29 false (.ld false 1 (.t 32)),og 34 29 false (.call 287 [(.t 31),(.t 33)]),og 35 29 false (.un .not (.t 34)),o 36 (.pick (.t 29) (.k (.bool true)) (.t 35)),o 37 (.mov (.t 36)),og 38 37 false (.fad 4 (.t 1)),og 39 37 false (.ld false 1 (.t 38)),og 40 37 false (.len false (.t 39)),og 41 37 false (.bin .gtr (.t 40) (.k (.int .i64 120))),o 42 (.pick (.t 37) (.k (.bool true)) (.t 41))]) (.cnd (.t 42) (.seq (.reg [o 2 (.mov (.k (.bool false)))]) .ret) .skip)) (.seq (.seq (.reg [o 43 (.fad 3 (.t 1)),o 44 (.ld false 1 (.t 43)),o 45 (.len false (.t 44)),o 46 (.mov (.k (.int .i64 0)))]) (.blk 0 (.lop (.seq (.reg [o 47 (.bin .lss (.t 46) (.t 45))]) (.seq (.cnd (.t 47) .skip (.ext 0)) (.seq (.blk 1 (.seq (.reg [o 48 (.iad 6 (.t 44) (.t 46)),o 49 (.ld true 6 (.t 48)),o 4 (.new [(.bool false),(.str ⟨#[]⟩),(.str ⟨#[]⟩),(.int .i64 0),(.int .i64 0),(.int .i64 0)]),on (.st 6 (.t 4) (.t 49))]) (.seq (.reg [o 50 (.fad 0 (.t 1)),o 51 (.ld false 1 (.t 50)),o 52 (.fad 4 (.t 4)),o 53 (.ld true 2 (.t 52)),o 54 (.call 170 [(.t 51),(.t 53)])]) (.cnd (.t 54) (.seq (.reg [o 2 (.mov (.k (.bool false)))]) .ret) .skip)))) (.reg [o 55 (.bin .add (.t 46) (.k (.int .i64 1))),o 46 (.mov (.t 55))]))))))) (.seq (.seq (.reg [o 56 (.fad 4 (.t 1)),o 57 (.ld false 1 (.t 56)),o 58 (.len false (.t 57)),o 59 (.mov (.k (.int .i64 0)))]) (.blk 2 (.lop (.seq (.reg [o 60 (.bin .lss (.t 59) (.t 58))]) (.seq (.cnd (.t 60) .skip (.ext 2)) (.seq (.blk 3 (.seq (.reg [o 61 (.mov (.t 59)),o 62 (.iad 2 (.t 57) (.t 59)),o 63 (.ld true 2 (.t 62)),o 6 (.new [(.int .i64 0),(.int .i64 0)]),o 5 (.mov (.t 61)),on (.st 2 (.t 6) (.t 63))]) (.seq (.drw [o 64 (.fad 0 (.t 1)),o 65 (.ld false 1 (.t 64)),o 66 (.ld true 2 (.t 6)),o 67 (.call 170 [(.t 65),(.t 66)]),o 68 (.un .not (.t 67)),o 69 (.mov (.t 68)),og 70 69 false (.mov (.t 5)),og 71 69 false (.bin .gtr (.t 70) (.k (.int .i64 0))),og 72 69 false (.mov (.t 71)),og 73 72 true (.fad 4 (.t 1)),og 74 72 true (.ld false 1 (.t 73)),og 75 72 true (.mov (.t 5)),og 76 72 true (.bin .sub (.t 75) (.k (.int .i64 1))),og 77 72 true (.iad 2 (.t 74) (.t 76)),og 78 72 true (.ld true 2 (.t 77)),og 79 72 true (.ld true 2 (.t 6))] [og 80 72 true (.call 306 [(.t 78),(.t 79)]),og 81 72 true (.bin .geq (.t 80) (.k (.int .i64 0))),og 82 69 false (.pick (.t 72) (.t 81) (.k (.bool false))),o 83 (.pick (.t 69) (.k (.bool true)) (.t 82))]) (.cnd (.t 83) (.seq (.reg [o 2 (.mov (.k (.bool false)))]) .ret) .skip)))) (.reg [o 84 (.bin .add (.t 59) (.k (.int .i64 1))),o 59 (.mov (.t 84))]))))))) (.seq (.seq (.reg [o 85 (.fad 5 (.t 1)),o 86 (.ld false 1 (.t 85)),o 87 (.len false (.t 86)),o 88 (.mov (.k (.int .i64 0)))]) (.blk 4 (.lop (.seq (.reg [o 89 (.bin .lss (.t 88) (.t 87))]) (.seq (.cnd (.t 89) .skip (.ext 4)) (.seq (.blk 5 (.seq (.reg [o 90 (.iad 8 (.t 86) (.t 88)),o 91 (.ld true 8 (.t 90)),o 8 (.new [(.str ⟨#[]⟩),(.int .i64 0),(.int .i64 0),(.int .i64 0),(.int .i64 0),(.int .i64 0),(.int .i64 0),(.bool false)]),on (.st 8 (.t 8) (.t 91))]) (.seq (.reg [o 92 (.fad 4 (.t 8)),o 93 (.ld true 2 (.t 92)),o 94 (.build [(.int .i64 0),(.int .i64 0)] []),o 95 (.eqs true [.i .i64,.i .i64] (.t 93) (.t 94)),o 96 (.mov (.t 95)),og 97 96 true (.fad 4 (.t 8)),og 98 96 true (.ld true 2 (.t 97)),og 99 96 true (.call 272 [(.t 98)]),og 100 96 true (.un .not (.t 99)),o 101 (.pick (.t 96) (.t 100) (.k (.bool false)))]) (.cnd (.t 101) (.seq (.reg [o 2 (.mov (.k (.bool false)))]) .ret) .skip)))) (.reg [o 102 (.bin .add (.t 88) (.k (.int .i64 1))),o 88 (.mov (.t 102))]))))))) (.seq (.reg [o 2 (.mov (.k (.bool true)))]) .ret))))))⟩
theorem ir_i_DeltaOk:compFn Tryz.prog n_i_DeltaOk=some F_i_DeltaOk:=by kernel_rfl
abbrev n_s_l11Dots:Nat:=304
def F_s_l11Dots:Fn1:=⟨36,[.t 2],(.seq (.reg [o 2 (.mov (.k (.bool false)))]) (.seq (.seq (.reg [o 3 (.mov (.k (.int .i64 0)))]) (.blk 0 (.lop (.seq (.seq (.reg [o 4 (.mov (.t 3)),o 5 (.mov (.t 0)),o 6 (.len false (.t 5)),o 7 (.bin .lss (.t 4) (.t 6))]) (.cnd (.t 7) .skip (.ext 0))) (.seq (.blk 1 (.seq (.drw [o 10 (.mov (.t 0)),o 11 (.mov (.t 3)),o 12 (.iad 2 (.t 10) (.t 11)),o 13 (.ld true 2 (.t 12)),o 14 (.call 168 [(.t 13)]),o 15 (.un .not (.t 14)),o 16 (.mov (.t 15)),og 17 16 false (.mov (.t 3)),og 18 16 false (.bin .gtr (.t 17) (.k (.int .i64 0))),og 19 16 false (.mov (.t 18)),og 20 19 true (.mov (.t 0)),og 21 19 true (.mov (.t 3)),og 22 19 true (.bin .sub (.t 21) (.k (.int .i64 1))),og 23 19 true (.iad 2 (.t 20) (.t 22)),og 24 19 true (.ld true 2 (.t 23)),og 25 19 true (.mov (.t 0)),og 26 19 true (.mov (.t 3)),og 27 19 true (.iad 2 (.t 25) (.t 26)),og 28 19 true (.ld true 2 (.t 27))] [og 29 19 true (.call 362 [(.t 24),(.t 28)]),og 30 19 true (.un .not (.t 29)),og 31 16 false (.pick (.t 19) (.t 30) (.k (.bool false))),o 32 (.pick (.t 16) (.k (.bool true)) (.t 31))]) (.cnd (.t 32) (.seq (.reg [o 2 (.mov (.k (.bool false)))]) .ret) .skip))) (.reg [o 8 (.mov (.t 3)),o 9 (.bin .add (.t 8) (.k (.int .i64 1))),o 3 (.mov (.t 9))])))))) (.seq (.reg [o 33 (.mov (.t 0)),o 34 (.len false (.t 33)),o 35 (.bin .leq (.t 34) (.k (.int .i64 120))),o 2 (.mov (.t 35))]) .ret)))⟩
theorem ir_s_l11Dots:compFn Tryz.prog n_s_l11Dots=some F_s_l11Dots:=by kernel_rfl
abbrev n_s_DeltaOk:Nat:=219
def F_s_DeltaOk:Fn1:=⟨97,[.t 2],(.seq (.reg [o 1 (.box (.t 0)),o 2 (.mov (.k (.bool false)))]) (.seq (.seq (.reg [o 6 (.fad 0 (.t 1)),o 7 (.ld false 1 (.t 6)),o 8 (.fad 1 (.t 1)),o 9 (.ld false 1 (.t 8)),o 10 (.call 178 [(.t 7),(.t 9)]),o 11 (.un .not (.t 10)),o 12 (.mov (.t 11)),og 13 12 false (.fad 2 (.t 1)),og 14 12 false (.ld false 1 (.t 13)),og 15 12 false (.call 290 [(.t 14)]),og 16 12 false (.un .not (.t 15)),o 17 (.pick (.t 12) (.k (.bool true)) (.t 16)),o 18 (.mov (.t 17)),og 19 18 false (.fad 3 (.t 1)),og 20 18 false (.ld false 1 (.t 19)),og 21 18 false (.call 291 [(.t 20)]),og 22 18 false (.un .not (.t 21)),o 23 (.pick (.t 18) (.k (.bool true)) (.t 22)),o 24 (.mov (.t 23)),og 25 24 false (.fad 5 (.t 1)),og 26 24 false (.ld false 1 (.t 25)),og 27 24 false (.call 292 [(.t 26)]),og 28 24 false (.un .not (.t 27)),o 29 (.pick (.t 24) (.k (.bool true)) (.t 28)),o 30 (.mov (.t 29)),og 31 30 false (.fad 4 (.t 1)),og 32 30 false (.ld false 1 (.t 31)),og 33 30 false (.call 304 [(.t 32)]),og 34 30 false (.un .not (.t 33)),o 35 (.pick (.t 30) (.k (.bool true)) (.t 34))]) (.cnd (.t 35) (.seq (.reg [o 2 (.mov (.k (.bool false)))]) .ret) .skip)) (.seq (.seq (.reg [o 3 (.mov (.k (.int .i64 0)))]) (.blk 0 (.lop (.seq (.seq (.reg [o 36 (.mov (.t 3)),o 37 (.fad 3 (.t 1)),o 38 (.ld false 1 (.t 37)),o 39 (.len false (.t 38)),o 40 (.bin .lss (.t 36) (.t 39))]) (.cnd (.t 40) .skip (.ext 0))) (.seq (.blk 1 (.seq (.drw [o 43 (.fad 1 (.t 1)),o 44 (.ld false 1 (.t 43)),o 45 (.fad 3 (.t 1)),o 46 (.ld false 1 (.t 45)),o 47 (.mov (.t 3)),o 48 (.iad 6 (.t 46) (.t 47)),o 49 (.fad 4 (.t 48)),o 50 (.ld true 2 (.t 49)),o 51 (.call 45 [(.t 44),(.t 50)]),o 52 (.un .not (.t 51)),o 53 (.mov (.t 52)),og 54 53 false (.fad 0 (.t 1)),og 55 53 false (.ld false 1 (.t 54)),og 56 53 false (.fad 3 (.t 1)),og 57 53 false (.ld false 1 (.t 56)),og 58 53 false (.mov (.t 3)),og 59 53 false (.iad 6 (.t 57) (.t 58)),og 60 53 false (.fad 4 (.t 59)),og 61 53 false (.ld true 2 (.t 60))] [og 62 53 false (.call 45 [(.t 55),(.t 61)]),o 63 (.pick (.t 53) (.k (.bool true)) (.t 62))]) (.cnd (.t 63) (.seq (.reg [o 2 (.mov (.k (.bool false)))]) .ret) .skip))) (.reg [o 41 (.mov (.t 3)),o 42 (.bin .add (.t 41) (.k (.int .i64 1))),o 3 (.mov (.t 42))])))))) (.seq (.seq (.reg [o 4 (.mov (.k (.int .i64 0)))]) (.blk 2 (.lop (.seq (.seq (.reg [o 64 (.mov (.t 4)),o 65 (.fad 4 (.t 1)),o 66 (.ld false 1 (.t 65)),o 67 (.len false (.t 66)),o 68 (.bin .lss (.t 64) (.t 67))]) (.cnd (.t 68) .skip (.ext 2))) (.seq (.blk 3 (.seq (.drw [o 71 (.fad 0 (.t 1)),o 72 (.ld false 1 (.t 71)),o 73 (.fad 4 (.t 1)),o 74 (.ld false 1 (.t 73)),o 75 (.mov (.t 4)),o 76 (.iad 2 (.t 74) (.t 75)),o 77 (.ld true 2 (.t 76))] [o 78 (.call 45 [(.t 72),(.t 77)]),o 79 (.un .not (.t 78))]) (.cnd (.t 79) (.seq (.reg [o 2 (.mov (.k (.bool false)))]) .ret) .skip))) (.reg [o 69 (.mov (.t 4)),o 70 (.bin .add (.t 69) (.k (.int .i64 1))),o 4 (.mov (.t 70))])))))) (.seq (.seq (.reg [o 5 (.mov (.k (.int .i64 0)))]) (.blk 4 (.lop (.seq (.seq (.reg [o 80 (.mov (.t 5)),o 81 (.fad 5 (.t 1)),o 82 (.ld false 1 (.t 81)),o 83 (.len false (.t 82)),o 84 (.bin .lss (.t 80) (.t 83))]) (.cnd (.t 84) .skip (.ext 4))) (.seq (.blk 5 (.seq (.drw [o 87 (.fad 1 (.t 1)),o 88 (.ld false 1 (.t 87)),o 89 (.fad 5 (.t 1)),o 90 (.ld false 1 (.t 89)),o 91 (.mov (.t 5)),o 92 (.iad 8 (.t 90) (.t 91)),o 93 (.fad 1 (.t 92)),o 94 (.ld true 2 (.t 93))] [o 95 (.call 45 [(.t 88),(.t 94)]),o 96 (.un .not (.t 95))]) (.cnd (.t 96) (.seq (.reg [o 2 (.mov (.k (.bool false)))]) .ret) .skip))) (.reg [o 85 (.mov (.t 5)),o 86 (.bin .add (.t 85) (.k (.int .i64 1))),o 5 (.mov (.t 86))])))))) (.seq (.reg [o 2 (.mov (.k (.bool true)))]) .ret))))))⟩
theorem ir_s_DeltaOk:compFn Tryz.prog n_s_DeltaOk=some F_s_DeltaOk:=by kernel_rfl
def newL (k:List Int) (l:List Live) (i:Nat):Bool:=onI l i fun x=> !knows k x.dot
def deadP (k:List Int) (l:List Dot) (i:Nat):Bool:=onI l i (knows k)&&upI dotLt l i
def dotP (l:List Dot) (i:Nat):Bool:=onI l i dotOk&&upI dotLt l i
def dotsOk (l:List Dot):Bool:=allR l.length (dotP l)&&decide (l.length≤120)
def refP (l:List Cell) (i:Nat):Bool:=onI l i refD
def deltaOk (d:Delta):Bool:=knowIn d.base d.know&&(talsOk d.tallies&&(livsOk d.lives d.know&&(celsOk d.cells d.know&&(decide (d.dead.length≤120)&&(allR d.lives.length (newL d.base d.lives)&&(allR d.dead.length (deadP d.base d.dead)&&allR d.cells.length (refP d.cells)))))))
def midL (k b:List Int) (l:List Live) (i:Nat):Bool:=onI l i fun x=>knows k x.dot&& !knows b x.dot
def deltaOkS (d:Delta):Bool:=knowIn d.base d.know&&(talsOk d.tallies&&(livsS d.lives&&(celsS d.cells&&(dotsOk d.dead&&(allR d.lives.length (midL d.know d.base d.lives)&&(allR d.dead.length (fun i=>onI d.dead i (knows d.base))&&allR d.cells.length (fun i=>onI d.cells i fun x=>knows d.know x.dot)))))))
theorem onI_and {α:Type} (l:List α) (i:Nat) (p q:α→Bool):(onI l i fun x=>p x&&q x)=(onI l i p&&onI l i q):=by
 unfold onI
 cases l[i]? <;>rfl
theorem onI_imp {α:Type} {l:List α} {i:Nat} {p q:α→Bool} (h:∀ x,p x=true→q x=true) (hp:onI l i p=true):onI l i q=true:=by
 unfold onI at*
 cases hl:l[i]? with
 |none=>rfl
 |some x=>rw[hl] at hp;exact h x hp
theorem deltaOkS_eq (d:Delta):deltaOkS d=deltaOk d:=by
 rw[Bool.eq_iff_iff]
 simp only[deltaOkS,deltaOk,livsS,livsOk,celsS,celsOk,dotsOk,Bool.and_eq_true,allR_iff,livSP,livP,celSP,celP,dotP,deadP,midL,newL,refP,onI_and,decide_eq_true_eq]
 constructor
 ·rintro⟨h1,h2,⟨h3,h3'⟩,⟨h4,h4'⟩,⟨h5,h5'⟩,h6,h7,h8⟩
  exact⟨h1,h2,⟨fun i hi=>⟨(h6 i hi).1,(h3 i hi).2⟩,h3'⟩,⟨fun i hi=>⟨h8 i hi,(h4 i hi).2.1,(h4 i hi).2.2.2⟩,h4'⟩,h5',fun i hi=>(h6 i hi).2,fun i hi=>⟨h7 i hi,(h5 i hi).2⟩,fun i hi=>(h4 i hi).2.2.1⟩
 ·rintro⟨h1,h2,⟨h3,h3'⟩,⟨h4,h4'⟩,h5,h6,h7,h8⟩
  exact⟨h1,h2,⟨fun i hi=>⟨onI_imp (fun x=>knows_dot) (h3 i hi).1,(h3 i hi).2⟩,h3'⟩,⟨fun i hi=>⟨onI_imp (fun x=>knows_dot) (h4 i hi).1,(h4 i hi).2.1,h8 i hi,(h4 i hi).2.2⟩,h4'⟩,⟨fun i hi=>⟨onI_imp (fun x=>knows_dot) (h7 i hi).1,(h7 i hi).2⟩,h5⟩,fun i hi=>⟨(h3 i hi).1,h6 i hi⟩,fun i hi=>(h7 i hi).1,fun i hi=>(h4 i hi).1⟩
theorem msDelta_all {d:Delta} {n:Nat} (h:msDelta d≤n):d.base.length≤n∧d.know.length≤n∧d.tallies.length≤n∧d.lives.length≤n∧d.dead.length≤n∧d.cells.length≤n∧(∀ x∈d.tallies,x.obj.size≤n)∧(∀ x∈d.lives,x.obj.size≤n∧x.key.size≤n)∧∀ x∈d.cells,x.obj.size≤n:=by
 unfold msDelta at h
 refine⟨by omega,by omega,by omega,by omega,by omega,by omega,fun x hx=> ?_,fun x hx=> ?_,fun x hx=> ?_⟩
 ·have:x.obj.size≤sumL msTally d.tallies:=sumL_mem (f:=msTally) hx
  omega
 ·have:x.obj.size+x.key.size≤sumL msLive d.lives:=sumL_mem (f:=msLive) hx
  omega
 ·have:x.obj.size≤sumL msCell d.cells:=sumL_mem (f:=msCell) hx
  omega
set_option maxHeartbeats 2000000 in
theorem i_DeltaOk_ret (σ:St) (cs:List GV) (d:Delta) (hR:kDelta.R σ d cs) (hl:msDelta d≤1099511627776):Ret Tryz.prog n_i_DeltaOk [.agg cs] σ (.bool (deltaOk d)) σ:=by
 obtain⟨v0,v1,v2,v3,v4,v5,rfl,q0,q1,q2,q3,q4,q5⟩:=hR
 obtain⟨l0,l1,l2,l3,l4,l5,t2,t3,t5⟩:=msDelta_all hl
 refine ret_xe ir_i_DeltaOk (Nat.le_of_ble_eq_true rfl) trivial ?_
 simp +contextual (disch:=omega) only[go_sem,F_i_DeltaOk]
 intro n f τ H
 have S:=H.sub
 refine by_b H (i_KnowIn_ret _ v0 v1 _ _ (q0.pre S) (q1.pre S) l0 l1) (fun h1=> ?_) (fun h1=> ?_)
 rotate_left
 ·simp +contextual (disch:=omega) only[go_sem]
  simp[deltaOk,h1]
 simp +contextual (disch:=omega) only[go_sem]
 refine by_b H (i_talliesOk_ret _ v2 _ (q2.pre S) l2 t2) (fun h2=> ?_) (fun h2=> ?_)
 rotate_left
 ·simp +contextual (disch:=omega) only[go_sem]
  simp[deltaOk,h2]
 simp +contextual (disch:=omega) only[go_sem]
 refine by_b H (i_livesOk_ret _ v3 _ (q3.pre S) v1 _ (q1.pre S) l1 l3 t3) (fun h3=> ?_) (fun h3=> ?_)
 rotate_left
 ·simp +contextual (disch:=omega) only[go_sem]
  simp[deltaOk,h3]
 simp +contextual (disch:=omega) only[go_sem]
 refine by_b H (i_cellsOk_ret _ v5 _ (q5.pre S) v1 _ (q1.pre S) l1 l5 t5) (fun h4=> ?_) (fun h4=> ?_)
 rotate_left
 ·simp +contextual (disch:=omega) only[go_sem]
  simp[deltaOk,h4]
 cases h5:decide (120<d.dead.length) with
 |true=>
  simp +contextual (disch:=omega) only[go_sem,q4.len,gt_cast,h5]
  have h5':=of_decide_eq_true h5
  have:decide (d.dead.length≤120)=false:=decide_eq_false (by omega)
  simp[deltaOk,this]
 |false=>
 have h5':d.dead.length≤120:=by have:=of_decide_eq_false h5;omega
 simp +contextual (disch:=omega) only[go_sem,q3.len,q4.len,gt_cast,h5]
 refine sx_for d.lives.length 46 0 (fun i env h=>env 1= .ptr n 0∧env 44=v3∧env 45=gi d.lives.length∧(∀ j,j<i→newL d.base d.lives j=true)∧h=[.box 1 n [v0,v1,v2,v3,v4,v5]]) (fun env h=>env 1= .ptr n 0∧allR d.lives.length (newL d.base d.lives)=true∧h=[.box 1 n [v0,v1,v2,v3,v4,v5]]) (fun env h=>env 2= .bool (deltaOk d)) _ H (by simp +contextual (disch:=omega) only[go_sem]) ⟨by simp +contextual (disch:=omega) only[go_sem],by simp +contextual (disch:=omega) only[go_sem],by simp +contextual (disch:=omega) only[go_sem],fun j hj=>by omega,rfl⟩ ?_ ?_ ?_ ?_
 ·rintro J Y W hJ hY hW i env h τ hi ei c0 H ⟨e1,e44,e45,ha,rfl⟩
  have L1:=Live_at q3 hi
  have hat:newL d.base d.lives i= !knows d.base d.lives[i].dot:=onI_at hi
  have no:newL d.base d.lives i=false→deltaOk d=false:=fun hh=>by simp[deltaOk,allR_no hi hh]
  simp +contextual (disch:=omega) only[go_sem,c0,e1,e44,e45,ei,natOf_nat,L1]
  intro m fm τ1 _ τ2 H2
  refine by_b H2 (i_Knows_ret _ v0 _ _ (q0.pre H2.sub) l0) (fun k1=> ?_) (fun k1=> ?_)
  ·simp +contextual (disch:=omega) only[go_sem]
   exact hW _ _ _ H2 (by simp +contextual (disch:=omega) only[go_sem,no (by rw[hat,k1];rfl)])
  ·simp +contextual (disch:=omega) only[go_sem,e1,e44,e45,ei]
   exact hJ _ _ _ _ (H2.re [1] (by decide)) ⟨by simp +contextual (disch:=omega) only[go_sem,e1],by simp +contextual (disch:=omega) only[go_sem,e44],by simp +contextual (disch:=omega) only[go_sem,e45],lt_snoc ha (by rw[hat,k1];rfl),rfl⟩
 ·rintro Y hY env h τ ei c0 H ⟨e1,e44,e45,ha,rfl⟩
  simp +contextual (disch:=omega) only[go_sem,c0,e45,ei]
  exact hY _ _ _ H ⟨by simp +contextual (disch:=omega) only[go_sem,e1],allR_yes ha,rfl⟩
 rotate_left
 ·rintro env h τ H e2
  simp +contextual (disch:=omega) only[go_sem,e2]
 clear H S
 rintro env h τ H ⟨e1,h6,rfl⟩
 simp +contextual (disch:=omega) only[go_sem,e1,q4.len]
 refine sx_for d.dead.length 59 2 (fun i env h=>env 1= .ptr n 0∧env 57=v4∧env 58=gi d.dead.length∧(∀ j,j<i→deadP d.base d.dead j=true)∧h=[.box 1 n [v0,v1,v2,v3,v4,v5]]) (fun env h=>env 1= .ptr n 0∧allR d.dead.length (deadP d.base d.dead)=true∧h=[.box 1 n [v0,v1,v2,v3,v4,v5]]) (fun env h=>env 2= .bool (deltaOk d)) _ H (by simp +contextual (disch:=omega) only[go_sem]) ⟨by simp +contextual (disch:=omega) only[go_sem,e1],by simp +contextual (disch:=omega) only[go_sem],by simp +contextual (disch:=omega) only[go_sem],fun j hj=>by omega,rfl⟩ ?_ ?_ ?_ ?_
 ·clear H e1
  rintro J Y W hJ hY hW i env h τ hi ei c0 H ⟨e1,e57,e58,ha,rfl⟩
  have L1:=Dot_at q4 hi
  have hat:deadP d.base d.dead i=(knows d.base d.dead[i]&&upI dotLt d.dead i):=by simp only[deadP,onI_at hi]
  have no:deadP d.base d.dead i=false→deltaOk d=false:=fun hh=>by simp[deltaOk,allR_no hi hh]
  simp +contextual (disch:=omega) only[go_sem,c0,e1,e57,e58,ei,natOf_nat,L1]
  intro m fm τ1 _ τ2 H2
  refine by_b H2 (i_Knows_ret _ v0 _ _ (q0.pre H2.sub) l0) (fun k1=> ?_) (fun k1=> ?_)
  rotate_left
  ·simp +contextual (disch:=omega) only[go_sem]
   exact hW _ _ _ H2 (by simp +contextual (disch:=omega) only[go_sem,no (by rw[hat,k1];rfl)])
  rcases Nat.eq_zero_or_pos i with hz|hz
  ·subst hz
   simp +contextual (disch:=omega) only[go_sem,Int.ofNat_zero,decide_false,Int.lt_irrefl,e1,e57,e58,ei]
   exact hJ _ _ _ _ (H2.re [1] (by decide)) ⟨by simp +contextual (disch:=omega) only[go_sem,e1],by simp +contextual (disch:=omega) only[go_sem,e57],by simp +contextual (disch:=omega) only[go_sem,e58],lt_snoc ha (by rw[hat,k1];rfl),rfl⟩
  ·have c1:decide ((0:Int)<i)=true:=by simp;omega
   have hj:i - 1<d.dead.length:=by omega
   have hu:=upI_at (lt:=dotLt) (by omega) hi hj
   simp +contextual (disch:=omega) only[go_sem,c1,sub1 hz,Dot_at q4 hj,e1,e57,e58,ei]
   refine by_r H2 (i_compareDots_ret _ d.dead[i-1] d.dead[i]) ?_
   cases ho:dotLt d.dead[i-1] d.dead[i] with
   |true=>
    simp +contextual (disch:=omega) only[go_sem,cmpDot_ge,ho,e1,e57,e58,ei]
    exact hJ _ _ _ _ (H2.re [1] (by decide)) ⟨by simp +contextual (disch:=omega) only[go_sem,e1],by simp +contextual (disch:=omega) only[go_sem,e57],by simp +contextual (disch:=omega) only[go_sem,e58],lt_snoc ha (by rw[hat,k1,hu,ho];rfl),rfl⟩
   |false=>
    simp +contextual (disch:=omega) only[go_sem,cmpDot_ge,ho]
    exact hW _ _ _ H2 (by simp +contextual (disch:=omega) only[go_sem,no (by rw[hat,k1,hu,ho];rfl)])
 ·clear H e1
  rintro Y hY env h τ ei c0 H ⟨e1,e57,e58,ha,rfl⟩
  simp +contextual (disch:=omega) only[go_sem,c0,e58,ei]
  exact hY _ _ _ H ⟨by simp +contextual (disch:=omega) only[go_sem,e1],allR_yes ha,rfl⟩
 rotate_left
 ·rintro env h τ H e2
  simp +contextual (disch:=omega) only[go_sem,e2]
 clear H e1
 rintro env h τ H ⟨e1,h7,rfl⟩
 simp +contextual (disch:=omega) only[go_sem,e1,q5.len]
 refine sx_for d.cells.length 88 4 (fun i env h=>env 86=v5∧env 87=gi d.cells.length∧(∀ j,j<i→refP d.cells j=true)∧h=[]) (fun env h=>allR d.cells.length (refP d.cells)=true∧h=[]) (fun env h=>env 2= .bool (deltaOk d)) _ (H.re [] (by decide)) (by simp +contextual (disch:=omega) only[go_sem]) ⟨by simp +contextual (disch:=omega) only[go_sem],by simp +contextual (disch:=omega) only[go_sem],fun j hj=>by omega,rfl⟩ ?_ ?_ ?_ ?_
 ·clear H e1
  rintro J Y W hJ hY hW i env h τ hi ei c0 H ⟨e86,e87,ha,rfl⟩
  have L1:=Cell_at q5 hi
  have hat:refP d.cells i=(decide (d.cells[i].ref=⟨0,0⟩)||dotOk d.cells[i].ref):=onI_at hi
  have no:refP d.cells i=false→deltaOk d=false:=fun hh=>by simp[deltaOk,allR_no hi hh]
  cases k0:decide (d.cells[i].ref=⟨0,0⟩) with
  |true=>
   simp +contextual (disch:=omega) only[go_sem,c0,e86,e87,ei,natOf_nat,L1,k0]
   intro m fm τ1 _ τ2 H2
   exact hJ _ _ _ _ (H2.re [] (by decide)) ⟨by simp +contextual (disch:=omega) only[go_sem,e86],by simp +contextual (disch:=omega) only[go_sem,e87],lt_snoc ha (by rw[hat,k0];rfl),rfl⟩
  |false=>
   simp +contextual (disch:=omega) only[go_sem,c0,e86,e87,ei,natOf_nat,L1,k0]
   intro m fm τ1 _ τ2 H2
   refine by_b H2 (i_DotOk_ret _ d.cells[i].ref) (fun k1=> ?_) (fun k1=> ?_)
   ·simp +contextual (disch:=omega) only[go_sem,e86,e87,ei]
    exact hJ _ _ _ _ (H2.re [] (by decide)) ⟨by simp +contextual (disch:=omega) only[go_sem,e86],by simp +contextual (disch:=omega) only[go_sem,e87],lt_snoc ha (by rw[hat,k0,k1];rfl),rfl⟩
   ·simp +contextual (disch:=omega) only[go_sem]
    exact hW _ _ _ H2 (by simp +contextual (disch:=omega) only[go_sem,no (by rw[hat,k0,k1];rfl)])
 ·clear H e1
  rintro Y hY env h τ ei c0 H ⟨e86,e87,ha,rfl⟩
  simp +contextual (disch:=omega) only[go_sem,c0,e87,ei]
  exact hY _ _ _ H ⟨allR_yes ha,rfl⟩
 ·clear H e1
  rintro env h τ H ⟨h8,rfl⟩
  simp +contextual (disch:=omega) only[go_sem]
  exact fun _=>by simp[deltaOk,h1,h2,h3,h4,h5',h6,h7,h8]
 ·rintro env h τ H e2
  simp +contextual (disch:=omega) only[go_sem,e2]
theorem s_l11Dots_ret (σ:St) (v:GV) (l:List Dot) (h:RS pDot.kd σ v l) (hl:l.length≤1099511627776):Ret Tryz.prog n_s_l11Dots [v] σ (.bool (dotsOk l)) σ:=by
 refine ret_xe ir_s_l11Dots (Nat.le_of_ble_eq_true rfl) trivial ?_
 simp +contextual (disch:=omega) only[go_sem,F_s_l11Dots]
 refine sx_for l.length 3 0 (fun i env h=>env 0=v∧(∀ j,j<i→dotP l j=true)∧h=[]) (fun env h=>env 0=v∧allR l.length (dotP l)=true∧h=[]) (fun env h=>env 2= .bool (dotsOk l)) _ (Hx.refl σ) (by simp +contextual (disch:=omega) only[go_sem]) ⟨by simp +contextual (disch:=omega) only[go_sem],fun j hj=>by omega,rfl⟩ ?_ ?_ ?_ ?_
 ·rintro J Y W hJ hY hW i env h τ hi ei c0 H ⟨e0,ha,rfl⟩
  have L1:=Dot_at h hi
  have hat:dotP l i=(dotOk l[i]&&upI dotLt l i):=by simp only[dotP,onI_at hi]
  have no:dotP l i=false→dotsOk l=false:=fun hh=>by simp[dotsOk,allR_no hi hh]
  simp +contextual (disch:=omega) only[go_sem,c0,e0,ei,natOf_nat,L1,h.len]
  refine by_b H (s_DotOk_ret _ l[i]) (fun k1=> ?_) (fun k1=> ?_)
  rotate_left
  ·simp +contextual (disch:=omega) only[go_sem]
   exact hW _ _ _ H (by simp +contextual (disch:=omega) only[go_sem,no (by rw[hat,k1];rfl)])
  rcases Nat.eq_zero_or_pos i with hz|hz
  ·subst hz
   simp +contextual (disch:=omega) only[go_sem,Int.ofNat_zero,decide_false,Int.lt_irrefl,e0,ei]
   exact hJ _ _ _ _ H ⟨by simp +contextual (disch:=omega) only[go_sem,e0],lt_snoc ha (by rw[hat,k1];rfl),rfl⟩
  ·have c1:decide ((0:Int)<i)=true:=by simp;omega
   have hj:i - 1<l.length:=by omega
   have hu:=upI_at (lt:=dotLt) (by omega) hi hj
   simp +contextual (disch:=omega) only[go_sem,c1,sub1 hz,Dot_at h hj,L1,natOf_nat,e0,ei]
   refine by_r H (s_l06Before_ret _ l[i-1] l[i]) ?_
   cases ho:dotLt l[i-1] l[i] with
   |true=>
    simp +contextual (disch:=omega) only[go_sem,e0,ei]
    exact hJ _ _ _ _ H ⟨by simp +contextual (disch:=omega) only[go_sem,e0],lt_snoc ha (by rw[hat,k1,hu,ho];rfl),rfl⟩
   |false=>
    simp +contextual (disch:=omega) only[go_sem]
    exact hW _ _ _ H (by simp +contextual (disch:=omega) only[go_sem,no (by rw[hat,k1,hu,ho];rfl)])
 ·rintro Y hY env h τ ei c0 H ⟨e0,ha,rfl⟩
  simp +contextual (disch:=omega) only[go_sem,c0,e0,ei,h.len]
  exact hY _ _ _ H ⟨by simp +contextual (disch:=omega) only[go_sem,e0],allR_yes ha,rfl⟩
 ·rintro env h τ H ⟨e0,ha,rfl⟩
  simp +contextual (disch:=omega) only[go_sem,e0,h.len]
  have:decide ((l.length:Int)≤120)=decide (l.length≤120):=by rw[decide_eq_decide];omega
  exact fun _=>by simp[dotsOk,ha,this]
 ·rintro env h τ H e2
  simp +contextual (disch:=omega) only[go_sem,e2]
theorem s_DeltaOk_ret (σ:St) (cs:List GV) (d:Delta) (hR:kDelta.R σ d cs) (hl:msDelta d≤1099511627776):Ret Tryz.prog n_s_DeltaOk [.agg cs] σ (.bool (deltaOk d)) σ:=by
 rw[← deltaOkS_eq]
 obtain⟨v0,v1,v2,v3,v4,v5,rfl,q0,q1,q2,q3,q4,q5⟩:=hR
 obtain⟨l0,l1,l2,l3,l4,l5,t2,t3,t5⟩:=msDelta_all hl
 refine ret_xe ir_s_DeltaOk (Nat.le_of_ble_eq_true rfl) trivial ?_
 simp +contextual (disch:=omega) only[go_sem,F_s_DeltaOk]
 intro n f τ H
 have S:=H.sub
 refine by_b H (s_KnowIn_ret _ v0 v1 _ _ (q0.pre S) (q1.pre S) l0 l1) (fun h1=> ?_) (fun h1=> ?_)
 rotate_left
 ·simp +contextual (disch:=omega) only[go_sem]
  simp[deltaOkS,h1]
 simp +contextual (disch:=omega) only[go_sem]
 refine by_b H (s_l06Tallies_ret _ v2 _ (q2.pre S) l2 t2) (fun h2=> ?_) (fun h2=> ?_)
 rotate_left
 ·simp +contextual (disch:=omega) only[go_sem]
  simp[deltaOkS,h2]
 simp +contextual (disch:=omega) only[go_sem]
 refine by_b H (s_l06Lives_ret _ v3 _ (q3.pre S) l3 t3) (fun h3=> ?_) (fun h3=> ?_)
 rotate_left
 ·simp +contextual (disch:=omega) only[go_sem]
  simp[deltaOkS,h3]
 simp +contextual (disch:=omega) only[go_sem]
 refine by_b H (s_l06Cells_ret _ v5 _ (q5.pre S) l5 t5) (fun h4=> ?_) (fun h4=> ?_)
 rotate_left
 ·simp +contextual (disch:=omega) only[go_sem]
  simp[deltaOkS,h4]
 simp +contextual (disch:=omega) only[go_sem]
 refine by_b H (s_l11Dots_ret _ v4 _ (q4.pre S) l4) (fun h5=> ?_) (fun h5=> ?_)
 rotate_left
 ·simp +contextual (disch:=omega) only[go_sem]
  simp[deltaOkS,h5]
 simp +contextual (disch:=omega) only[go_sem]
 refine sx_for d.lives.length 3 0 (fun i env h=>env 1= .ptr n 0∧(∀ j,j<i→midL d.know d.base d.lives j=true)∧h=[.box 1 n [v0,v1,v2,v3,v4,v5]]) (fun env h=>env 1= .ptr n 0∧allR d.lives.length (midL d.know d.base d.lives)=true∧h=[.box 1 n [v0,v1,v2,v3,v4,v5]]) (fun env h=>env 2= .bool (deltaOkS d)) _ H (by simp +contextual (disch:=omega) only[go_sem]) ⟨by simp +contextual (disch:=omega) only[go_sem],fun j hj=>by omega,rfl⟩ ?_ ?_ ?_ ?_
 ·rintro J Y W hJ hY hW i env h τ hi ei c0 H ⟨e1,ha,rfl⟩
  have L1:=Live_at q3 hi
  have hat:midL d.know d.base d.lives i=(knows d.know d.lives[i].dot&& !knows d.base d.lives[i].dot):=onI_at hi
  have no:midL d.know d.base d.lives i=false→deltaOkS d=false:=fun hh=>by simp[deltaOkS,allR_no hi hh]
  simp +contextual (disch:=omega) only[go_sem,c0,e1,ei,natOf_nat,L1,q3.len]
  refine by_b H (s_Knows_ret _ v1 _ _ (q1.pre H.sub) l1) (fun k1=> ?_) (fun k1=> ?_)
  rotate_left
  ·simp +contextual (disch:=omega) only[go_sem]
   exact hW _ _ _ H (by simp +contextual (disch:=omega) only[go_sem,no (by rw[hat,k1];rfl)])
  simp +contextual (disch:=omega) only[go_sem,e1,ei,natOf_nat,L1]
  refine by_b H (s_Knows_ret _ v0 _ _ (q0.pre H.sub) l0) (fun k2=> ?_) (fun k2=> ?_)
  ·simp +contextual (disch:=omega) only[go_sem]
   exact hW _ _ _ H (by simp +contextual (disch:=omega) only[go_sem,no (by rw[hat,k1,k2];rfl)])
  ·simp +contextual (disch:=omega) only[go_sem,e1,ei]
   exact hJ _ _ _ _ H ⟨by simp +contextual (disch:=omega) only[go_sem,e1],lt_snoc ha (by rw[hat,k1,k2];rfl),rfl⟩
 ·rintro Y hY env h τ ei c0 H ⟨e1,ha,rfl⟩
  simp +contextual (disch:=omega) only[go_sem,c0,e1,ei,q3.len]
  exact hY _ _ _ H ⟨by simp +contextual (disch:=omega) only[go_sem,e1],allR_yes ha,rfl⟩
 rotate_left
 ·rintro env h τ H e2
  simp +contextual (disch:=omega) only[go_sem,e2]
 clear H S
 rintro env h τ H ⟨e1,h6,rfl⟩
 simp +contextual (disch:=omega) only[go_sem,e1]
 refine sx_for d.dead.length 4 2 (fun i env h=>env 1= .ptr n 0∧(∀ j,j<i→onI d.dead j (knows d.base)=true)∧h=[.box 1 n [v0,v1,v2,v3,v4,v5]]) (fun env h=>env 1= .ptr n 0∧allR d.dead.length (fun j=>onI d.dead j (knows d.base))=true∧h=[.box 1 n [v0,v1,v2,v3,v4,v5]]) (fun env h=>env 2= .bool (deltaOkS d)) _ H (by simp +contextual (disch:=omega) only[go_sem]) ⟨by simp +contextual (disch:=omega) only[go_sem,e1],fun j hj=>by omega,rfl⟩ ?_ ?_ ?_ ?_
 ·clear H e1
  rintro J Y W hJ hY hW i env h τ hi ei c0 H ⟨e1,ha,rfl⟩
  have L1:=Dot_at q4 hi
  have hat:onI d.dead i (knows d.base)=knows d.base d.dead[i]:=onI_at hi
  have no:onI d.dead i (knows d.base)=false→deltaOkS d=false:=fun hh=>by simp[deltaOkS,allR_no (p:=fun j=>onI d.dead j (knows d.base)) hi hh]
  simp +contextual (disch:=omega) only[go_sem,c0,e1,ei,natOf_nat,L1,q4.len]
  refine by_b H (s_Knows_ret _ v0 _ _ (q0.pre H.sub) l0) (fun k1=> ?_) (fun k1=> ?_)
  ·simp +contextual (disch:=omega) only[go_sem,e1,ei]
   exact hJ _ _ _ _ H ⟨by simp +contextual (disch:=omega) only[go_sem,e1],lt_snoc ha (by rw[hat,k1]),rfl⟩
  ·simp +contextual (disch:=omega) only[go_sem]
   exact hW _ _ _ H (by simp +contextual (disch:=omega) only[go_sem,no (by rw[hat,k1])])
 ·clear H e1
  rintro Y hY env h τ ei c0 H ⟨e1,ha,rfl⟩
  simp +contextual (disch:=omega) only[go_sem,c0,e1,ei,q4.len]
  exact hY _ _ _ H ⟨by simp +contextual (disch:=omega) only[go_sem,e1],allR_yes ha,rfl⟩
 rotate_left
 ·rintro env h τ H e2
  simp +contextual (disch:=omega) only[go_sem,e2]
 clear H e1
 rintro env h τ H ⟨e1,h7,rfl⟩
 simp +contextual (disch:=omega) only[go_sem,e1]
 refine sx_for d.cells.length 5 4 (fun i env h=>env 1= .ptr n 0∧(∀ j,j<i→(onI d.cells j fun x=>knows d.know x.dot)=true)∧h=[.box 1 n [v0,v1,v2,v3,v4,v5]]) (fun env h=>allR d.cells.length (fun j=>onI d.cells j fun x=>knows d.know x.dot)=true) (fun env h=>env 2= .bool (deltaOkS d)) _ H (by simp +contextual (disch:=omega) only[go_sem]) ⟨by simp +contextual (disch:=omega) only[go_sem,e1],fun j hj=>by omega,rfl⟩ ?_ ?_ ?_ ?_
 ·clear H e1
  rintro J Y W hJ hY hW i env h τ hi ei c0 H ⟨e1,ha,rfl⟩
  have L1:=Cell_at q5 hi
  have hat:(onI d.cells i fun x=>knows d.know x.dot)=knows d.know d.cells[i].dot:=onI_at hi
  have no:(onI d.cells i fun x=>knows d.know x.dot)=false→deltaOkS d=false:=fun hh=>by simp[deltaOkS,allR_no (p:=fun j=>onI d.cells j fun x=>knows d.know x.dot) hi hh]
  simp +contextual (disch:=omega) only[go_sem,c0,e1,ei,natOf_nat,L1,q5.len]
  refine by_b H (s_Knows_ret _ v1 _ _ (q1.pre H.sub) l1) (fun k1=> ?_) (fun k1=> ?_)
  ·simp +contextual (disch:=omega) only[go_sem,e1,ei]
   exact hJ _ _ _ _ H ⟨by simp +contextual (disch:=omega) only[go_sem,e1],lt_snoc ha (by rw[hat,k1]),rfl⟩
  ·simp +contextual (disch:=omega) only[go_sem]
   exact hW _ _ _ H (by simp +contextual (disch:=omega) only[go_sem,no (by rw[hat,k1])])
 ·clear H e1
  rintro Y hY env h τ ei c0 H ⟨e1,ha,rfl⟩
  simp +contextual (disch:=omega) only[go_sem,c0,e1,ei,q5.len]
  exact hY _ _ _ H (allR_yes ha)
 ·clear H e1
  rintro env h τ H h8
  simp +contextual (disch:=omega) only[go_sem]
  exact fun _=>by simp[deltaOkS,h1,h2,h3,h4,h5,h6,h7,h8]
 ·rintro env h τ H e2
  simp +contextual (disch:=omega) only[go_sem,e2]
end Go.Proofs.YtbeoiejnogdkpaaGreat.Sy
namespace Go.Proofs.YtbeoiejnogdkpaaGreat.Sy
open Go Go.RowKit
set_option linter.unusedSimpArgs false
set_option linter.unusedVariables false
set_option maxRecDepth 4000
abbrev n_s_l10Has:Nat:=234
def F_s_l10Has:Fn1:=⟨18,[.t 4],(.seq (.reg [o 3 (.box (.t 1)),o 4 (.mov (.k (.bool false)))]) (.seq (.seq (.reg [o 5 (.mov (.k (.int .i64 0)))]) (.blk 0 (.lop (.seq (.seq (.reg [o 6 (.mov (.t 5)),o 7 (.mov (.t 0)),o 8 (.len false (.t 7)),o 9 (.bin .lss (.t 6) (.t 8))]) (.cnd (.t 9) .skip (.ext 0))) (.seq (.blk 1 (.seq (.drw [o 12 (.mov (.t 0)),o 13 (.mov (.t 5)),o 14 (.iad 6 (.t 12) (.t 13)),o 15 (.ld true 6 (.t 14)),o 16 (.ld true 6 (.t 3))] [o 17 (.eqs false [.b,.s,.s,.i .i64,.i .i64,.i .i64] (.t 15) (.t 16))]) (.cnd (.t 17) (.seq (.reg [o 4 (.mov (.k (.bool true)))]) .ret) .skip))) (.reg [o 10 (.mov (.t 5)),o 11 (.bin .add (.t 10) (.k (.int .i64 1))),o 5 (.mov (.t 11))])))))) (.seq (.reg [o 4 (.mov (.k (.bool false)))]) .ret)))⟩
abbrev n_s_l11Dead:Nat:=340
def F_s_l11Dead:Fn1:=⟨18,[.t 4],(.seq (.reg [o 3 (.box (.t 1)),o 4 (.mov (.k (.bool false)))]) (.seq (.seq (.reg [o 5 (.mov (.k (.int .i64 0)))]) (.blk 0 (.lop (.seq (.seq (.reg [o 6 (.mov (.t 5)),o 7 (.mov (.t 0)),o 8 (.len false (.t 7)),o 9 (.bin .lss (.t 6) (.t 8))]) (.cnd (.t 9) .skip (.ext 0))) (.seq (.blk 1 (.seq (.drw [o 12 (.mov (.t 0)),o 13 (.mov (.t 5)),o 14 (.iad 2 (.t 12) (.t 13)),o 15 (.ld true 2 (.t 14)),o 16 (.ld true 2 (.t 3))] [o 17 (.eqs false [.i .i64,.i .i64] (.t 15) (.t 16))]) (.cnd (.t 17) (.seq (.reg [o 4 (.mov (.k (.bool true)))]) .ret) .skip))) (.reg [o 10 (.mov (.t 5)),o 11 (.bin .add (.t 10) (.k (.int .i64 1))),o 5 (.mov (.t 11))])))))) (.seq (.reg [o 4 (.mov (.k (.bool false)))]) .ret)))⟩
abbrev n_slices_Index_impl_Live_impl_Live:Nat:=375
def F_slices_Index_impl_Live_impl_Live:Fn1:=⟨19,[.t 4],(.seq (.reg [o 3 (.box (.t 1)),o 4 (.mov (.k (.int .i64 0)))]) (.seq (.seq (.reg [o 6 (.mov (.t 0)),o 7 (.len false (.t 6)),o 8 (.mov (.k (.int .i64 0)))]) (.blk 0 (.lop (.seq (.reg [o 9 (.bin .lss (.t 8) (.t 7))]) (.seq (.cnd (.t 9) .skip (.ext 0)) (.seq (.blk 1 (.seq (.reg [o 10 (.mov (.t 8)),o 5 (.mov (.t 10))]) (.seq (.drw [o 11 (.ld true 6 (.t 3)),o 12 (.mov (.t 0)),o 13 (.mov (.t 5)),o 14 (.iad 6 (.t 12) (.t 13)),o 15 (.ld true 6 (.t 14))] [o 16 (.eqs false [.b,.s,.s,.i .i64,.i .i64,.i .i64] (.t 11) (.t 15))]) (.cnd (.t 16) (.seq (.reg [o 17 (.mov (.t 5)),o 4 (.mov (.t 17))]) .ret) .skip)))) (.reg [o 18 (.bin .add (.t 8) (.k (.int .i64 1))),o 8 (.mov (.t 18))]))))))) (.seq (.reg [o 4 (.mov (.k (.int .i64 (-1))))]) .ret)))⟩
abbrev n_slices_Contains_impl_Live_impl_Live:Nat:=318
def F_slices_Contains_impl_Live_impl_Live:Fn1:=⟨9,[.t 4],(.seq (.reg [o 3 (.box (.t 1)),o 4 (.mov (.k (.bool false)))]) (.seq (.reg [o 5 (.mov (.t 0)),o 6 (.ld true 6 (.t 3)),o 7 (.call 375 [(.t 5),(.t 6)]),o 8 (.bin .geq (.t 7) (.k (.int .i64 0))),o 4 (.mov (.t 8))]) .ret))⟩
abbrev n_slices_Index_impl_Dot_impl_Dot:Nat:=380
def F_slices_Index_impl_Dot_impl_Dot:Fn1:=⟨19,[.t 4],(.seq (.reg [o 3 (.box (.t 1)),o 4 (.mov (.k (.int .i64 0)))]) (.seq (.seq (.reg [o 6 (.mov (.t 0)),o 7 (.len false (.t 6)),o 8 (.mov (.k (.int .i64 0)))]) (.blk 0 (.lop (.seq (.reg [o 9 (.bin .lss (.t 8) (.t 7))]) (.seq (.cnd (.t 9) .skip (.ext 0)) (.seq (.blk 1 (.seq (.reg [o 10 (.mov (.t 8)),o 5 (.mov (.t 10))]) (.seq (.drw [o 11 (.ld true 2 (.t 3)),o 12 (.mov (.t 0)),o 13 (.mov (.t 5)),o 14 (.iad 2 (.t 12) (.t 13)),o 15 (.ld true 2 (.t 14))] [o 16 (.eqs false [.i .i64,.i .i64] (.t 11) (.t 15))]) (.cnd (.t 16) (.seq (.reg [o 17 (.mov (.t 5)),o 4 (.mov (.t 17))]) .ret) .skip)))) (.reg [o 18 (.bin .add (.t 8) (.k (.int .i64 1))),o 8 (.mov (.t 18))]))))))) (.seq (.reg [o 4 (.mov (.k (.int .i64 (-1))))]) .ret)))⟩
abbrev n_slices_Contains_impl_Dot_impl_Dot:Nat:=336
def F_slices_Contains_impl_Dot_impl_Dot:Fn1:=⟨9,[.t 4],(.seq (.reg [o 3 (.box (.t 1)),o 4 (.mov (.k (.bool false)))]) (.seq (.reg [o 5 (.mov (.t 0)),o 6 (.ld true 2 (.t 3)),o 7 (.call 380 [(.t 5),(.t 6)]),o 8 (.bin .geq (.t 7) (.k (.int .i64 0))),o 4 (.mov (.t 8))]) .ret))⟩
def placeI {α:Type} [DecidableEq α] (l:List α) (x:α):Int:=match l.findIdx? (fun y=>decide (y=x)) with
 |some k=>k
 |none=> -1
end Go.Proofs.YtbeoiejnogdkpaaGreat.Sy
namespace Go.Proofs.YtbeoiejnogdkpaaGreat.Sy
open Go Go.RowKit
set_option linter.unusedSimpArgs false
set_option linter.unusedVariables false
section
variable {α:Type} {lt:α→α→Bool}
end
def tkey (t:Tally):ByteArray×Int:=(t.obj,t.rep)
def mergeT (f:Int→Bool) (a b:List Tally):List Tally:=insAll tallyLt (a.filter (fun t=> !f t.rep)++b.filter fun t=>f t.rep)
def putT (acc:List Tally) (t:Tally):List Tally:=talPut acc t.obj t.rep t.sum
def goneBy (b:List Cell) (c:Cell):Cell:={c with gone:=c.gone||b.any fun x=>decide (x.dot=c.dot)&&x.gone}
def isNewC (a:List Cell) (x:Cell):Bool:= !a.any fun c=>decide (c.dot=x.dot)
def joinC (a b:List Cell):List Cell:=a.map (goneBy b)++b.filter (isNewC a)
def mergeC (a b:List Cell):List Cell:=insAll cellLt (joinC a b)
def stepC (out:List Cell) (x:Cell):List Cell:=match cellIx out x.dot with
 |none=>insCell x out
 |some k=>if x.gone then out.modify k fun c=>{c with gone:=true} else out
def goneX (x:Cell) (c:Cell):Cell:=if c.dot=x.dot then {c with gone:=c.gone||x.gone} else c
end Go.Proofs.YtbeoiejnogdkpaaGreat.Sy
namespace Go.Proofs.YtbeoiejnogdkpaaGreat.Sy
open Go Go.RowKit
set_option linter.unusedSimpArgs false
set_option linter.unusedVariables false
set_option maxRecDepth 4000
abbrev n_i_sortLives_f1:Nat:=382
def F_i_sortLives_f1:Fn1:=⟨10,[.t 4],(.seq (.reg [o 2 (.box (.t 0)),o 3 (.box (.t 1)),o 4 (.mov (.k (.int .i64 0)))]) (.seq (.reg [o 5 (.fad 4 (.t 2)),o 6 (.ld true 2 (.t 5)),o 7 (.fad 4 (.t 3)),o 8 (.ld true 2 (.t 7)),o 9 (.call 306 [(.t 6),(.t 8)]),o 4 (.mov (.t 9))]) .ret))⟩
theorem ir_i_sortLives_f1:compFn Tryz.prog n_i_sortLives_f1=some F_i_sortLives_f1:=by kernel_rfl
abbrev n_i_mergedCells_f1:Nat:=383
def F_i_mergedCells_f1:Fn1:=⟨10,[.t 4],(.seq (.reg [o 2 (.box (.t 0)),o 3 (.box (.t 1)),o 4 (.mov (.k (.int .i64 0)))]) (.seq (.reg [o 5 (.fad 1 (.t 2)),o 6 (.ld true 2 (.t 5)),o 7 (.fad 1 (.t 3)),o 8 (.ld true 2 (.t 7)),o 9 (.call 306 [(.t 6),(.t 8)]),o 4 (.mov (.t 9))]) .ret))⟩
theorem ir_i_mergedCells_f1:compFn Tryz.prog n_i_mergedCells_f1=some F_i_mergedCells_f1:=by kernel_rfl
abbrev n_slices_SortFunc_impl_Tally_impl_Tally:Nat:=379
abbrev n_slices_pdqsortCmpFunc_impl_Tally:Nat:=402
abbrev n_slices_insertionSortCmpFunc_impl_Tally:Nat:=416
abbrev n_slices_siftDownCmpFunc_impl_Tally:Nat:=436
abbrev n_slices_heapSortCmpFunc_impl_Tally:Nat:=417
abbrev n_slices_reverseRangeCmpFunc_impl_Tally:Nat:=420
abbrev n_slices_partialInsertionSortCmpFunc_impl_Tally:Nat:=421
abbrev n_slices_partitionEqualCmpFunc_impl_Tally:Nat:=422
abbrev n_slices_partitionCmpFunc_impl_Tally:Nat:=423
abbrev n_slices_breakPatternsCmpFunc_impl_Tally:Nat:=418
abbrev n_slices_order2CmpFunc_impl_Tally:Nat:=443
abbrev n_slices_medianCmpFunc_impl_Tally:Nat:=438
abbrev n_slices_medianAdjacentCmpFunc_impl_Tally:Nat:=437
abbrev n_slices_choosePivotCmpFunc_impl_Tally:Nat:=419
abbrev n_slices_SortFunc_impl_Live_impl_Live:Nat:=381
abbrev n_slices_pdqsortCmpFunc_impl_Live:Nat:=403
abbrev n_slices_insertionSortCmpFunc_impl_Live:Nat:=424
abbrev n_slices_siftDownCmpFunc_impl_Live:Nat:=439
abbrev n_slices_heapSortCmpFunc_impl_Live:Nat:=425
abbrev n_slices_reverseRangeCmpFunc_impl_Live:Nat:=428
abbrev n_slices_partialInsertionSortCmpFunc_impl_Live:Nat:=429
abbrev n_slices_partitionEqualCmpFunc_impl_Live:Nat:=430
abbrev n_slices_partitionCmpFunc_impl_Live:Nat:=431
abbrev n_slices_breakPatternsCmpFunc_impl_Live:Nat:=426
abbrev n_slices_order2CmpFunc_impl_Live:Nat:=444
abbrev n_slices_medianCmpFunc_impl_Live:Nat:=441
abbrev n_slices_medianAdjacentCmpFunc_impl_Live:Nat:=440
abbrev n_slices_choosePivotCmpFunc_impl_Live:Nat:=427
instance:Inhabited Tally:=⟨⟨.empty,0,0⟩⟩
def elTally:El Tally:=⟨pTally,true,fun x=>.agg (pTally.enc x),fun _=>rfl,fun _=>rfl,by decide⟩
instance:Inhabited Live:=⟨⟨false,.empty,.empty,0,⟨0,0⟩⟩⟩
def elLive:El Live:=⟨pLive,true,fun x=>.agg (pLive.enc x),fun _=>rfl,fun _=>rfl,by decide⟩
theorem tally_call (σ:St) (a b:Tally):Ret Tryz.prog n_i_compareTallies [elTally.val a,elTally.val b] σ (gi (cmpTally a b)) σ:=by
 show Ret Tryz.prog n_i_compareTallies [.agg (pTally.enc a),.agg (pTally.enc b)] σ (gi (cmpTally a b)) σ
 simp only[enc_Tally]
 exact i_compareTallies_ret σ a b
theorem live_call (σ:St) (a b:Live):Ret Tryz.prog n_i_sortLives_f1 [elLive.val a,elLive.val b] σ (gi (cmpDot a.dot b.dot)) σ:=by
 show Ret Tryz.prog n_i_sortLives_f1 [.agg (pLive.enc a),.agg (pLive.enc b)] σ (gi (cmpDot a.dot b.dot)) σ
 simp only[enc_Live]
 refine ret_xe ir_i_sortLives_f1 (Nat.le_of_ble_eq_true rfl) trivial ?_
 simp +contextual (disch:=omega) only[go_sem,F_i_sortLives_f1]
 intro n f τ H n2 f2 τ2 H2
 refine by_r H2 (i_compareDots_ret _ _ _) ?_
 simp +contextual (disch:=omega) only[go_sem]
theorem cell_call (σ:St) (a b:Cell):Ret Tryz.prog n_i_mergedCells_f1 [elCell.val a,elCell.val b] σ (gi (cmpDot a.dot b.dot)) σ:=by
 show Ret Tryz.prog n_i_mergedCells_f1 [.agg (pCell.enc a),.agg (pCell.enc b)] σ (gi (cmpDot a.dot b.dot)) σ
 simp only[enc_Cell]
 refine ret_xe ir_i_mergedCells_f1 (Nat.le_of_ble_eq_true rfl) trivial ?_
 simp +contextual (disch:=omega) only[go_sem,F_i_mergedCells_f1]
 intro n f τ H n2 f2 τ2 H2
 refine by_r H2 (i_compareDots_ret _ _ _) ?_
 simp +contextual (disch:=omega) only[go_sem]
def qTally:SN:=⟨n_slices_insertionSortCmpFunc_impl_Tally,n_slices_siftDownCmpFunc_impl_Tally,n_slices_heapSortCmpFunc_impl_Tally,n_slices_reverseRangeCmpFunc_impl_Tally,n_slices_partialInsertionSortCmpFunc_impl_Tally,n_slices_partitionEqualCmpFunc_impl_Tally,n_slices_partitionCmpFunc_impl_Tally,n_slices_breakPatternsCmpFunc_impl_Tally,n_slices_order2CmpFunc_impl_Tally,n_slices_medianCmpFunc_impl_Tally,n_slices_medianAdjacentCmpFunc_impl_Tally,n_slices_choosePivotCmpFunc_impl_Tally,n_slices_pdqsortCmpFunc_impl_Tally,0,n_slices_nextPowerOfTwo,n_slices_xorshift_Next⟩
def qLive:SN:=⟨n_slices_insertionSortCmpFunc_impl_Live,n_slices_siftDownCmpFunc_impl_Live,n_slices_heapSortCmpFunc_impl_Live,n_slices_reverseRangeCmpFunc_impl_Live,n_slices_partialInsertionSortCmpFunc_impl_Live,n_slices_partitionEqualCmpFunc_impl_Live,n_slices_partitionCmpFunc_impl_Live,n_slices_breakPatternsCmpFunc_impl_Live,n_slices_order2CmpFunc_impl_Live,n_slices_medianCmpFunc_impl_Live,n_slices_medianAdjacentCmpFunc_impl_Live,n_slices_choosePivotCmpFunc_impl_Live,n_slices_pdqsortCmpFunc_impl_Live,0,n_slices_nextPowerOfTwo,n_slices_xorshift_Next⟩
def srtTally:SrtC Tally tallyLt where
 e:=elTally
 q:=qTally
 f:=n_i_compareTallies
 k:=cmpTally
 call:=tally_call
 klt:=fun a b=>cmpTally_lt
 h_insertionSort:=by kernel_rfl
 h_siftDown:=by kernel_rfl
 h_heapSort:=by kernel_rfl
 h_reverseRange:=by kernel_rfl
 h_partialInsertionSort:=by kernel_rfl
 h_partitionEqual:=by kernel_rfl
 h_partition:=by kernel_rfl
 h_breakPatterns:=by kernel_rfl
 h_order2:=by kernel_rfl
 h_median:=by kernel_rfl
 h_medianAdjacent:=by kernel_rfl
 h_choosePivot:=by kernel_rfl
 h_pdqsort:=by kernel_rfl
 nS:=n_slices_SortFunc_impl_Tally_impl_Tally
 h_Sort:=by kernel_rfl
 hnp:=rfl
 hxs:=rfl
def srtLive:SrtC Live liveLt where
 e:=elLive
 q:=qLive
 f:=n_i_sortLives_f1
 k:=fun a b=>cmpDot a.dot b.dot
 call:=live_call
 klt:=fun a b=>cmpDot_lt
 h_insertionSort:=by kernel_rfl
 h_siftDown:=by kernel_rfl
 h_heapSort:=by kernel_rfl
 h_reverseRange:=by kernel_rfl
 h_partialInsertionSort:=by kernel_rfl
 h_partitionEqual:=by kernel_rfl
 h_partition:=by kernel_rfl
 h_breakPatterns:=by kernel_rfl
 h_order2:=by kernel_rfl
 h_median:=by kernel_rfl
 h_medianAdjacent:=by kernel_rfl
 h_choosePivot:=by kernel_rfl
 h_pdqsort:=by kernel_rfl
 nS:=n_slices_SortFunc_impl_Live_impl_Live
 h_Sort:=by kernel_rfl
 hnp:=rfl
 hxs:=rfl
def srtCellD:SrtC Cell cellLt where
 e:=elCell
 q:=qCell
 f:=n_i_mergedCells_f1
 k:=fun a b=>cmpDot a.dot b.dot
 call:=cell_call
 klt:=fun a b=>cmpDot_lt
 h_insertionSort:=by kernel_rfl
 h_siftDown:=by kernel_rfl
 h_heapSort:=by kernel_rfl
 h_reverseRange:=by kernel_rfl
 h_partialInsertionSort:=by kernel_rfl
 h_partitionEqual:=by kernel_rfl
 h_partition:=by kernel_rfl
 h_breakPatterns:=by kernel_rfl
 h_order2:=by kernel_rfl
 h_median:=by kernel_rfl
 h_medianAdjacent:=by kernel_rfl
 h_choosePivot:=by kernel_rfl
 h_pdqsort:=by kernel_rfl
 nS:=n_slices_SortFunc_impl_Cell_impl_Cell
 h_Sort:=by kernel_rfl
 hnp:=rfl
 hxs:=rfl
end Go.Proofs.YtbeoiejnogdkpaaGreat.Sy
namespace Go.Proofs.YtbeoiejnogdkpaaGreat.Sy
open Go Go.RowKit
set_option linter.unusedSimpArgs false
set_option linter.unusedVariables false
set_option maxRecDepth 4000
abbrev n_i_mergedTallies:Nat:=334
def F_i_mergedTallies:Fn1:=⟨47,[.t 6],(.seq (.reg [o 6 (.mov (.k .nilS))]) (.seq (.reg [o 12 (.lit 3 0 [] []),o 7 (.mov (.t 12))]) (.seq (.seq (.reg [o 13 (.mov (.t 0)),o 14 (.len false (.t 13)),o 15 (.mov (.k (.int .i64 0)))]) (.blk 0 (.lop (.seq (.reg [o 16 (.bin .lss (.t 15) (.t 14))]) (.seq (.cnd (.t 16) .skip (.ext 0)) (.seq (.blk 1 (.seq (.reg [o 17 (.iad 3 (.t 13) (.t 15)),o 18 (.ld true 3 (.t 17)),o 9 (.new [(.str ⟨#[]⟩),(.int .i64 0),(.int .i64 0)]),on (.st 3 (.t 9) (.t 18))]) (.seq (.reg [o 19 (.mov (.t 2)),o 20 (.fad 1 (.t 9)),o 21 (.ld false 1 (.t 20)),o 22 (.callv (.t 19) [(.t 21)]),o 23 (.un .not (.t 22))]) (.cnd (.t 23) (.reg [o 24 (.mov (.t 7)),o 25 (.ld true 3 (.t 9)),o 26 (.lit 3 1 [(.str ⟨#[]⟩),(.int .i64 0),(.int .i64 0)] [(0,3,(.t 25))]),o 27 (.app 3 32 [(.str ⟨#[]⟩),(.int .i64 0),(.int .i64 0)] (.t 24) (.t 26)),o 7 (.mov (.t 27))]) .skip)))) (.reg [o 28 (.bin .add (.t 15) (.k (.int .i64 1))),o 15 (.mov (.t 28))]))))))) (.seq (.seq (.reg [o 29 (.mov (.t 1)),o 30 (.len false (.t 29)),o 31 (.mov (.k (.int .i64 0)))]) (.blk 2 (.lop (.seq (.reg [o 32 (.bin .lss (.t 31) (.t 30))]) (.seq (.cnd (.t 32) .skip (.ext 2)) (.seq (.blk 3 (.seq (.reg [o 33 (.iad 3 (.t 29) (.t 31)),o 34 (.ld true 3 (.t 33)),o 11 (.new [(.str ⟨#[]⟩),(.int .i64 0),(.int .i64 0)]),on (.st 3 (.t 11) (.t 34))]) (.seq (.reg [o 35 (.mov (.t 2)),o 36 (.fad 1 (.t 11)),o 37 (.ld false 1 (.t 36)),o 38 (.callv (.t 35) [(.t 37)])]) (.cnd (.t 38) (.reg [o 39 (.mov (.t 7)),o 40 (.ld true 3 (.t 11)),o 41 (.lit 3 1 [(.str ⟨#[]⟩),(.int .i64 0),(.int .i64 0)] [(0,3,(.t 40))]),o 42 (.app 3 32 [(.str ⟨#[]⟩),(.int .i64 0),(.int .i64 0)] (.t 39) (.t 41)),o 7 (.mov (.t 42))]) .skip)))) (.reg [o 43 (.bin .add (.t 31) (.k (.int .i64 1))),o 31 (.mov (.t 43))]))))))) (.seq (.reg [o 44 (.mov (.t 7)),o 45 (.call 379 [(.t 44),(.k (.fn 324 []))])]) (.seq (.reg [o 46 (.mov (.t 7)),o 6 (.mov (.t 46))]) .ret))))))⟩
abbrev n_i_sortLives:Nat:=337
def F_i_sortLives:Fn1:=⟨4,[],(.reg [o 2 (.mov (.t 0)),o 3 (.call 381 [(.t 2),(.k (.fn 382 []))])])⟩
abbrev n_i_mergedCells:Nat:=338
def F_i_mergedCells:Fn1:=⟨64,[.t 4],(.seq (.reg [o 4 (.mov (.k .nilS))]) (.seq (.reg [o 13 (.lit 8 0 [] []),o 14 (.mov (.t 0)),o 15 (.app 8 72 [(.str ⟨#[]⟩),(.int .i64 0),(.int .i64 0),(.int .i64 0),(.int .i64 0),(.int .i64 0),(.int .i64 0),(.bool false)] (.t 13) (.t 14)),o 5 (.mov (.t 15))]) (.seq (.reg [o 16 (.mkm),o 6 (.mov (.t 16))]) (.seq (.seq (.reg [o 17 (.mov (.t 0)),o 18 (.len false (.t 17)),o 19 (.mov (.k (.int .i64 0)))]) (.blk 0 (.lop (.seq (.reg [o 20 (.bin .lss (.t 19) (.t 18))]) (.seq (.cnd (.t 20) .skip (.ext 0)) (.seq (.blk 1 (.seq (.reg [o 21 (.mov (.t 19)),o 22 (.iad 8 (.t 17) (.t 19)),o 23 (.ld true 8 (.t 22)),o 8 (.new [(.str ⟨#[]⟩),(.int .i64 0),(.int .i64 0),(.int .i64 0),(.int .i64 0),(.int .i64 0),(.int .i64 0),(.bool false)]),o 7 (.mov (.t 21)),on (.st 8 (.t 8) (.t 23))]) (.reg [o 24 (.mov (.t 6)),o 25 (.fad 1 (.t 8)),o 26 (.ld true 2 (.t 25)),o 27 (.mov (.t 7)),on (.mup [.i .i64,.i .i64] (.t 24) (.t 26) (.t 27))]))) (.reg [o 28 (.bin .add (.t 19) (.k (.int .i64 1))),o 19 (.mov (.t 28))]))))))) (.seq (.seq (.reg [o 29 (.mov (.t 1)),o 30 (.len false (.t 29)),o 31 (.mov (.k (.int .i64 0)))]) (.blk 2 (.lop (.seq (.reg [o 32 (.bin .lss (.t 31) (.t 30))]) (.seq (.cnd (.t 32) .skip (.ext 2)) (.seq (.blk 3 (.seq (.reg [o 33 (.iad 8 (.t 29) (.t 31)),o 34 (.ld true 8 (.t 33)),o 10 (.new [(.str ⟨#[]⟩),(.int .i64 0),(.int .i64 0),(.int .i64 0),(.int .i64 0),(.int .i64 0),(.int .i64 0),(.bool false)]),on (.st 8 (.t 10) (.t 34))]) (.seq (.reg [o 36 (.mov (.t 6)),o 37 (.fad 1 (.t 10)),o 38 (.ld true 2 (.t 37)),o 39 (.mlk [.i .i64,.i .i64] (.int .i64 0) true (.t 36) (.t 38)),o 35 (.mov (.t 39)),o 40 (.ext 0 (.t 35)),o 41 (.ext 1 (.t 35)),o 11 (.mov (.t 40)),o 12 (.mov (.t 41))]) (.seq (.reg [o 42 (.mov (.t 12))]) (.cnd (.t 42) (.reg [o 43 (.mov (.t 5)),o 44 (.mov (.t 11)),o 45 (.mov (.t 5)),o 46 (.mov (.t 11)),o 47 (.iad 8 (.t 45) (.t 46)),o 48 (.fad 7 (.t 47)),o 49 (.ld false 1 (.t 48)),o 50 (.mov (.t 49)),og 51 50 false (.fad 7 (.t 10)),og 52 50 false (.ld false 1 (.t 51)),o 53 (.pick (.t 50) (.k (.bool true)) (.t 52)),o 54 (.iad 8 (.t 43) (.t 44)),o 55 (.fad 7 (.t 54)),on (.st 1 (.t 55) (.t 53))]) (.reg [o 56 (.mov (.t 5)),o 57 (.ld true 8 (.t 10)),o 58 (.lit 8 1 [(.str ⟨#[]⟩),(.int .i64 0),(.int .i64 0),(.int .i64 0),(.int .i64 0),(.int .i64 0),(.int .i64 0),(.bool false)] [(0,8,(.t 57))]),o 59 (.app 8 72 [(.str ⟨#[]⟩),(.int .i64 0),(.int .i64 0),(.int .i64 0),(.int .i64 0),(.int .i64 0),(.int .i64 0),(.bool false)] (.t 56) (.t 58)),o 5 (.mov (.t 59))])))))) (.reg [o 60 (.bin .add (.t 31) (.k (.int .i64 1))),o 31 (.mov (.t 60))]))))))) (.seq (.reg [o 61 (.mov (.t 5)),o 62 (.call 360 [(.t 61),(.k (.fn 383 []))])]) (.seq (.reg [o 63 (.mov (.t 5)),o 4 (.mov (.t 63))]) .ret)))))))⟩
end Go.Proofs.YtbeoiejnogdkpaaGreat.Sy
namespace Go.Proofs.YtbeoiejnogdkpaaGreat.Sy
open Go Go.RowKit
set_option linter.unusedSimpArgs false
set_option linter.unusedVariables false
abbrev n_i_OrderOf:Nat:=53
def F_i_OrderOf:Fn1:=⟨26,[.t 4],(.seq (.reg [o 4 (.mov (.k (.int .i64 0)))]) (.seq (.blk 0 (.seq (.reg [o 6 (.mov (.t 0)),o 7 (.call 176 [(.t 6)]),o 8 (.un .not (.t 7)),o 9 (.mov (.t 8)),og 10 9 false (.mov (.t 1)),og 11 9 false (.call 176 [(.t 10)]),og 12 9 false (.un .not (.t 11)),o 13 (.pick (.t 9) (.k (.bool true)) (.t 12)),o 5 (.mov (.t 13))]) (.cnd (.t 5) (.seq (.reg [o 4 (.mov (.k (.int .i64 3)))]) .ret) (.seq (.reg [o 15 (.mov (.t 0)),o 16 (.mov (.t 1)),o 17 (.call 156 [(.t 15),(.t 16)]),o 14 (.mov (.t 17))]) (.cnd (.t 14) (.seq (.reg [o 4 (.mov (.k (.int .i64 0)))]) .ret) (.seq (.reg [o 19 (.mov (.t 0)),o 20 (.mov (.t 1)),o 21 (.call 177 [(.t 19),(.t 20)]),o 18 (.mov (.t 21))]) (.cnd (.t 18) (.seq (.reg [o 4 (.mov (.k (.int .i64 (-1))))]) .ret) (.seq (.reg [o 23 (.mov (.t 1)),o 24 (.mov (.t 0)),o 25 (.call 177 [(.t 23),(.t 24)]),o 22 (.mov (.t 25))]) (.cnd (.t 22) (.seq (.reg [o 4 (.mov (.k (.int .i64 1)))]) .ret) .skip))))))))) (.seq (.reg [o 4 (.mov (.k (.int .i64 2)))]) .ret)))⟩
abbrev n_i_JoinAll:Nat:=56
def F_i_JoinAll:Fn1:=⟨21,[.t 2],(.seq (.reg [o 2 (.mov (.k .nilS))]) (.seq (.reg [o 6 (.call 179 []),o 3 (.mov (.t 6))]) (.seq (.seq (.reg [o 7 (.mov (.t 0)),o 8 (.len false (.t 7)),o 9 (.mov (.k (.int .i64 0)))]) (.blk 0 (.lop (.seq (.reg [o 10 (.bin .lss (.t 9) (.t 8))]) (.seq (.cnd (.t 10) .skip (.ext 0)) (.seq (.blk 1 (.seq (.reg [o 11 (.iad 1 (.t 7) (.t 9)),o 12 (.ld false 1 (.t 11)),o 5 (.mov (.t 12))]) (.seq (.seq (.reg [o 13 (.mov (.t 5)),o 14 (.call 176 [(.t 13)]),o 15 (.un .not (.t 14))]) (.cnd (.t 15) (.seq (.reg [o 2 (.mov (.k .nilS))]) .ret) .skip)) (.reg [o 16 (.mov (.t 3)),o 17 (.mov (.t 5)),o 18 (.call 180 [(.t 16),(.t 17)]),o 3 (.mov (.t 18))])))) (.reg [o 19 (.bin .add (.t 9) (.k (.int .i64 1))),o 9 (.mov (.t 19))]))))))) (.seq (.reg [o 20 (.mov (.t 3)),o 2 (.mov (.t 20))]) .ret))))⟩
abbrev n_i_MeetAll:Nat:=58
def F_i_MeetAll:Fn1:=⟨26,[.t 2],(.seq (.reg [o 2 (.mov (.k .nilS))]) (.seq (.reg [o 6 (.lit 1 0 [] []),o 3 (.mov (.t 6))]) (.seq (.seq (.reg [o 7 (.mov (.t 0)),o 8 (.len false (.t 7)),o 9 (.mov (.k (.int .i64 0)))]) (.blk 0 (.lop (.seq (.reg [o 10 (.bin .lss (.t 9) (.t 8))]) (.seq (.cnd (.t 10) .skip (.ext 0)) (.seq (.blk 1 (.seq (.reg [o 11 (.mov (.t 9)),o 12 (.iad 1 (.t 7) (.t 9)),o 13 (.ld false 1 (.t 12)),o 4 (.mov (.t 11)),o 5 (.mov (.t 13))]) (.seq (.seq (.reg [o 14 (.mov (.t 5)),o 15 (.call 176 [(.t 14)]),o 16 (.un .not (.t 15))]) (.cnd (.t 16) (.seq (.reg [o 2 (.mov (.k .nilS))]) .ret) .skip)) (.seq (.seq (.reg [o 17 (.mov (.t 4)),o 18 (.bin .eql (.t 17) (.k (.int .i64 0)))]) (.cnd (.t 18) (.reg [o 19 (.mov (.t 5)),o 20 (.call 182 [(.t 19)]),o 3 (.mov (.t 20))]) .skip)) (.reg [o 21 (.mov (.t 3)),o 22 (.mov (.t 5)),o 23 (.call 183 [(.t 21),(.t 22)]),o 3 (.mov (.t 23))]))))) (.reg [o 24 (.bin .add (.t 9) (.k (.int .i64 1))),o 9 (.mov (.t 24))]))))))) (.seq (.reg [o 25 (.mov (.t 3)),o 2 (.mov (.t 25))]) .ret))))⟩
abbrev n_i_KnowMin:Nat:=183
def F_i_KnowMin:Fn1:=⟨36,[.t 4],(.seq (.reg [o 4 (.mov (.k .nilS))]) (.seq (.seq (.reg [o 8 (.mov (.t 0)),o 9 (.call 176 [(.t 8)]),o 10 (.un .not (.t 9)),o 11 (.mov (.t 10)),og 12 11 false (.mov (.t 1)),og 13 11 false (.call 176 [(.t 12)]),og 14 11 false (.un .not (.t 13)),o 15 (.pick (.t 11) (.k (.bool true)) (.t 14))]) (.cnd (.t 15) (.seq (.reg [o 4 (.mov (.k .nilS))]) .ret) .skip)) (.seq (.reg [o 16 (.mov (.t 0)),o 17 (.call 182 [(.t 16)]),o 5 (.mov (.t 17))]) (.seq (.seq (.reg [o 18 (.mov (.t 1)),o 19 (.len false (.t 18)),o 20 (.mov (.k (.int .i64 0)))]) (.blk 0 (.lop (.seq (.reg [o 21 (.bin .lss (.t 20) (.t 19))]) (.seq (.cnd (.t 21) .skip (.ext 0)) (.seq (.blk 1 (.seq (.reg [o 22 (.mov (.t 20)),o 23 (.iad 1 (.t 18) (.t 20)),o 24 (.ld false 1 (.t 23)),o 6 (.mov (.t 22)),o 7 (.mov (.t 24))]) (.reg [o 25 (.mov (.t 5)),o 26 (.mov (.t 6)),o 27 (.mov (.t 5)),o 28 (.mov (.t 6)),o 29 (.iad 1 (.t 27) (.t 28)),o 30 (.ld false 1 (.t 29)),o 31 (.mov (.t 7)),o 32 (.mm false (.t 30) (.t 31)),o 33 (.iad 1 (.t 25) (.t 26)),on (.st 1 (.t 33) (.t 32))]))) (.reg [o 34 (.bin .add (.t 20) (.k (.int .i64 1))),o 20 (.mov (.t 34))]))))))) (.seq (.reg [o 35 (.mov (.t 5)),o 4 (.mov (.t 35))]) .ret)))))⟩
def kMin (a b:List Int):List Int:=zipK mn a b
def ordOf (a b:List Int):Int:=if okK a&&okK b then(if a=b then 0 else if knowIn a b then -1 else if knowIn b a then 1 else 2) else 3
def joinL (ll:List (List Int)):List Int:=if ll.all okK then ll.foldl kMax [0,0,0] else[]
def meetG:List (List Int)→List Int
 |[]=>[]
 |k::r=>(k::r).foldl kMin k
def meetL (ll:List (List Int)):List Int:=if ll.all okK then meetG ll else[]
end Go.Proofs.YtbeoiejnogdkpaaGreat.Sy
namespace Go.Proofs.YtbeoiejnogdkpaaGreat.Sy
open Go Go.RowKit
set_option linter.unusedSimpArgs false
set_option linter.unusedVariables false
set_option maxRecDepth 4000
abbrev n_i_DoDelta_f1:Nat:=335
def F_i_DoDelta_f1:Fn1:=⟨16,[.t 4],(.seq (.reg [o 4 (.mov (.k (.bool false)))]) (.seq (.drw [o 5 (.fad 1 (.t 1)),o 6 (.ld false 1 (.t 5)),o 7 (.mov (.t 0)),o 8 (.iad 1 (.t 6) (.t 7)),o 9 (.ld false 1 (.t 8)),o 10 (.fad 0 (.t 2)),o 11 (.ld false 1 (.t 10)),o 12 (.mov (.t 0)),o 13 (.iad 1 (.t 11) (.t 12)),o 14 (.ld false 1 (.t 13))] [o 15 (.bin .gtr (.t 9) (.t 14)),o 4 (.mov (.t 15))]) .ret))⟩
abbrev n_i_DoDelta:Nat:=270
def F_i_DoDelta:Fn1:=⟨134,[.c 4 true 4,.t 5],(.seq (.reg [o 2 (.box (.t 0)),o 3 (.box (.t 1)),o 4 (.new [.nilS,.nilS,.nilS,.nilS]),o 5 (.mov (.k (.int .i64 0)))]) (.seq (.reg [o 13 (.ld true 4 (.t 2)),o 14 (.call 255 [(.t 13)]),o 6 (.new [.nilS,.nilS,.nilS,.nilS]),on (.st 4 (.t 6) (.t 14))]) (.seq (.blk 0 (.seq (.reg [o 16 (.ld true 4 (.t 2)),o 17 (.call 195 [(.t 16)]),o 18 (.un .not (.t 17)),o 19 (.mov (.t 18)),og 20 19 false (.ld true 6 (.t 3)),og 21 19 false (.call 225 [(.t 20)]),og 22 19 false (.un .not (.t 21)),o 23 (.pick (.t 19) (.k (.bool true)) (.t 22)),o 15 (.mov (.t 23))]) (.cnd (.t 15) (.seq (.reg [o 24 (.ld true 4 (.t 6)),on (.st 4 (.t 4) (.t 24)),o 5 (.mov (.k (.int .i64 3)))]) .ret) (.seq (.reg [o 26 (.fad 1 (.t 3)),o 27 (.ld false 1 (.t 26)),o 28 (.fad 0 (.t 2)),o 29 (.ld false 1 (.t 28)),o 30 (.call 177 [(.t 27),(.t 29)]),o 25 (.mov (.t 30))]) (.cnd (.t 25) (.seq (.reg [o 31 (.ld true 4 (.t 6)),on (.st 4 (.t 4) (.t 31)),o 5 (.mov (.k (.int .i64 1)))]) .ret) (.seq (.reg [o 33 (.fad 0 (.t 3)),o 34 (.ld false 1 (.t 33)),o 35 (.fad 0 (.t 2)),o 36 (.ld false 1 (.t 35)),o 37 (.call 177 [(.t 34),(.t 36)]),o 38 (.un .not (.t 37)),o 32 (.mov (.t 38))]) (.cnd (.t 32) (.seq (.reg [o 39 (.ld true 4 (.t 6)),on (.st 4 (.t 4) (.t 39)),o 5 (.mov (.k (.int .i64 2)))]) .ret) .skip))))))) (.seq (.reg [o 40 (.fad 0 (.t 2)),o 41 (.ld false 1 (.t 40)),o 42 (.fad 1 (.t 3)),o 43 (.ld false 1 (.t 42)),o 44 (.call 180 [(.t 41),(.t 43)]),o 45 (.build [.nilS,.nilS,.nilS,.nilS] [(0,1,(.t 44))]),o 7 (.new [.nilS,.nilS,.nilS,.nilS]),on (.st 4 (.t 7) (.t 45))]) (.seq (.reg [o 46 (.fad 1 (.t 2)),o 47 (.ld false 1 (.t 46)),o 48 (.fad 2 (.t 3)),o 49 (.ld false 1 (.t 48)),o 50 (.mkf 335 [(.t 3),(.t 2)]),o 51 (.call 334 [(.t 47),(.t 49),(.t 50)]),o 52 (.fad 1 (.t 7)),on (.st 1 (.t 52) (.t 51))]) (.seq (.seq (.reg [o 53 (.fad 2 (.t 2)),o 54 (.ld false 1 (.t 53)),o 55 (.len false (.t 54)),o 56 (.mov (.k (.int .i64 0)))]) (.blk 1 (.lop (.seq (.reg [o 57 (.bin .lss (.t 56) (.t 55))]) (.seq (.cnd (.t 57) .skip (.ext 1)) (.seq (.blk 2 (.seq (.reg [o 58 (.iad 6 (.t 54) (.t 56)),o 59 (.ld true 6 (.t 58)),o 9 (.new [(.bool false),(.str ⟨#[]⟩),(.str ⟨#[]⟩),(.int .i64 0),(.int .i64 0),(.int .i64 0)]),on (.st 6 (.t 9) (.t 59))]) (.seq (.reg [o 60 (.fad 1 (.t 3)),o 61 (.ld false 1 (.t 60)),o 62 (.fad 4 (.t 9)),o 63 (.ld true 2 (.t 62)),o 64 (.call 170 [(.t 61),(.t 63)]),o 65 (.mov (.t 64)),og 66 65 true (.fad 0 (.t 3)),og 67 65 true (.ld false 1 (.t 66)),og 68 65 true (.fad 4 (.t 9)),og 69 65 true (.ld true 2 (.t 68)),og 70 65 true (.call 170 [(.t 67),(.t 69)]),og 71 65 true (.un .not (.t 70)),o 72 (.pick (.t 65) (.t 71) (.k (.bool false))),o 73 (.mov (.t 72)),og 74 73 true (.fad 3 (.t 3)),og 75 73 true (.ld false 1 (.t 74)),og 76 73 true (.ld true 6 (.t 9)),og 77 73 true (.call 318 [(.t 75),(.t 76)]),og 78 73 true (.un .not (.t 77)),o 79 (.pick (.t 73) (.t 78) (.k (.bool false))),o 10 (.mov (.t 79))]) (.seq (.reg [o 80 (.mov (.t 10)),o 81 (.un .not (.t 80)),o 82 (.mov (.t 81)),og 83 82 true (.fad 4 (.t 3)),og 84 82 true (.ld false 1 (.t 83)),og 85 82 true (.fad 4 (.t 9)),og 86 82 true (.ld true 2 (.t 85)),og 87 82 true (.call 336 [(.t 84),(.t 86)]),og 88 82 true (.un .not (.t 87)),o 89 (.pick (.t 82) (.t 88) (.k (.bool false)))]) (.cnd (.t 89) (.reg [o 90 (.fad 2 (.t 7)),o 91 (.ld false 1 (.t 90)),o 92 (.ld true 6 (.t 9)),o 93 (.lit 6 1 [(.bool false),(.str ⟨#[]⟩),(.str ⟨#[]⟩),(.int .i64 0),(.int .i64 0),(.int .i64 0)] [(0,6,(.t 92))]),o 94 (.app 6 64 [(.bool false),(.str ⟨#[]⟩),(.str ⟨#[]⟩),(.int .i64 0),(.int .i64 0),(.int .i64 0)] (.t 91) (.t 93)),o 95 (.fad 2 (.t 7)),on (.st 1 (.t 95) (.t 94))]) .skip))))) (.reg [o 96 (.bin .add (.t 56) (.k (.int .i64 1))),o 56 (.mov (.t 96))]))))))) (.seq (.seq (.reg [o 97 (.fad 3 (.t 3)),o 98 (.ld false 1 (.t 97)),o 99 (.len false (.t 98)),o 100 (.mov (.k (.int .i64 0)))]) (.blk 3 (.lop (.seq (.reg [o 101 (.bin .lss (.t 100) (.t 99))]) (.seq (.cnd (.t 101) .skip (.ext 3)) (.seq (.blk 4 (.seq (.reg [o 102 (.iad 6 (.t 98) (.t 100)),o 103 (.ld true 6 (.t 102)),o 12 (.new [(.bool false),(.str ⟨#[]⟩),(.str ⟨#[]⟩),(.int .i64 0),(.int .i64 0),(.int .i64 0)]),on (.st 6 (.t 12) (.t 103))]) (.seq (.reg [o 104 (.fad 0 (.t 2)),o 105 (.ld false 1 (.t 104)),o 106 (.fad 4 (.t 12)),o 107 (.ld true 2 (.t 106)),o 108 (.call 170 [(.t 105),(.t 107)]),o 109 (.un .not (.t 108))]) (.cnd (.t 109) (.reg [o 110 (.fad 2 (.t 7)),o 111 (.ld false 1 (.t 110)),o 112 (.ld true 6 (.t 12)),o 113 (.lit 6 1 [(.bool false),(.str ⟨#[]⟩),(.str ⟨#[]⟩),(.int .i64 0),(.int .i64 0),(.int .i64 0)] [(0,6,(.t 112))]),o 114 (.app 6 64 [(.bool false),(.str ⟨#[]⟩),(.str ⟨#[]⟩),(.int .i64 0),(.int .i64 0),(.int .i64 0)] (.t 111) (.t 113)),o 115 (.fad 2 (.t 7)),on (.st 1 (.t 115) (.t 114))]) .skip)))) (.reg [o 116 (.bin .add (.t 100) (.k (.int .i64 1))),o 100 (.mov (.t 116))]))))))) (.seq (.reg [o 117 (.fad 2 (.t 7)),o 118 (.ld false 1 (.t 117)),o 119 (.call 337 [(.t 118)])]) (.seq (.reg [o 120 (.fad 3 (.t 2)),o 121 (.ld false 1 (.t 120)),o 122 (.fad 5 (.t 3)),o 123 (.ld false 1 (.t 122)),o 124 (.call 338 [(.t 121),(.t 123)]),o 125 (.fad 3 (.t 7)),on (.st 1 (.t 125) (.t 124))]) (.seq (.seq (.reg [o 126 (.ld true 4 (.t 7)),o 127 (.call 260 [(.t 126)])]) (.cnd (.t 127) (.seq (.reg [o 128 (.ld true 4 (.t 6)),on (.st 4 (.t 4) (.t 128)),o 5 (.mov (.k (.int .i64 4)))]) .ret) .skip)) (.seq (.seq (.reg [o 129 (.ld true 4 (.t 7)),o 130 (.call 195 [(.t 129)]),o 131 (.un .not (.t 130))]) (.cnd (.t 131) (.seq (.reg [o 132 (.ld true 4 (.t 6)),on (.st 4 (.t 4) (.t 132)),o 5 (.mov (.k (.int .i64 3)))]) .ret) .skip)) (.seq (.reg [o 133 (.ld true 4 (.t 7)),on (.st 4 (.t 4) (.t 133)),o 5 (.mov (.k (.int .i64 0)))]) .ret))))))))))))⟩
def fromD (s:State) (d:Delta) (rep:Int):Bool:=decide (at0 s.know rep<at0 d.know rep)
def keepD (d:Delta) (l:Live):Bool:= !(knows d.know l.dot&&(!knows d.base l.dot&& !decide (l∈d.lives)))&& !decide (l.dot∈d.dead)
def newD (s:State) (l:Live):Bool:= !knows s.know l.dot
def dltTo (s:State) (d:Delta):State:=⟨kMax s.know d.know,mergeT (fromD s d) s.tallies d.tallies,insAll liveLt (s.lives.filter (keepD d)++d.lives.filter (newD s)),mergeC s.cells d.cells⟩
def doDelta (s:State) (d:Delta):State×Int:=
 if !(stateOk s&&deltaOk d) then(s,3) else if knowIn d.know s.know then(s,1) else if !knowIn d.base s.know then(s,2) else
 if tooMany (dltTo s d) then(s,4) else if !stateOk (dltTo s d) then(s,3) else(dltTo s d,0)
abbrev z4':List GV:=[GV.nilS,GV.nilS,GV.nilS,GV.nilS]
end Go.Proofs.YtbeoiejnogdkpaaGreat.Sy
namespace Go.Proofs.YtbeoiejnogdkpaaGreat.Sy
open Go Go.RowKit
set_option linter.unusedSimpArgs false
set_option linter.unusedVariables false
set_option maxRecDepth 4000
abbrev n_s_l10Cells:Nat:=339
def F_s_l10Cells:Fn1:=⟨54,[.t 4],(.seq (.reg [o 4 (.mov (.k .nilS))]) (.seq (.reg [o 9 (.lit 8 0 [] []),o 10 (.mov (.t 0)),o 11 (.app 8 72 [(.str ⟨#[]⟩),(.int .i64 0),(.int .i64 0),(.int .i64 0),(.int .i64 0),(.int .i64 0),(.int .i64 0),(.bool false)] (.t 9) (.t 10)),o 5 (.mov (.t 11))]) (.seq (.seq (.reg [o 6 (.mov (.k (.int .i64 0)))]) (.blk 0 (.lop (.seq (.seq (.reg [o 12 (.mov (.t 6)),o 13 (.mov (.t 1)),o 14 (.len false (.t 13)),o 15 (.bin .lss (.t 12) (.t 14))]) (.cnd (.t 15) .skip (.ext 0))) (.seq (.blk 1 (.seq (.reg [o 7 (.mov (.k (.int .i64 (-1))))]) (.seq (.seq (.reg [o 8 (.mov (.k (.int .i64 0)))]) (.blk 2 (.lop (.seq (.seq (.reg [o 18 (.mov (.t 8)),o 19 (.mov (.t 5)),o 20 (.len false (.t 19)),o 21 (.bin .lss (.t 18) (.t 20))]) (.cnd (.t 21) .skip (.ext 2))) (.seq (.blk 3 (.seq (.drw [o 24 (.mov (.t 5)),o 25 (.mov (.t 8)),o 26 (.iad 8 (.t 24) (.t 25)),o 27 (.fad 1 (.t 26)),o 28 (.ld true 2 (.t 27)),o 29 (.mov (.t 1)),o 30 (.mov (.t 6)),o 31 (.iad 8 (.t 29) (.t 30)),o 32 (.fad 1 (.t 31)),o 33 (.ld true 2 (.t 32))] [o 34 (.eqs false [.i .i64,.i .i64] (.t 28) (.t 33))]) (.cnd (.t 34) (.reg [o 35 (.mov (.t 8)),o 7 (.mov (.t 35))]) .skip))) (.reg [o 22 (.mov (.t 8)),o 23 (.bin .add (.t 22) (.k (.int .i64 1))),o 8 (.mov (.t 23))])))))) (.seq (.reg [o 36 (.mov (.t 7)),o 37 (.bin .lss (.t 36) (.k (.int .i64 0)))]) (.cnd (.t 37) (.reg [o 38 (.mov (.t 5)),o 39 (.mov (.t 1)),o 40 (.mov (.t 6)),o 41 (.iad 8 (.t 39) (.t 40)),o 42 (.ld true 8 (.t 41)),o 43 (.call 322 [(.t 38),(.t 42)]),o 5 (.mov (.t 43))]) (.seq (.reg [o 44 (.mov (.t 1)),o 45 (.mov (.t 6)),o 46 (.iad 8 (.t 44) (.t 45)),o 47 (.fad 7 (.t 46)),o 48 (.ld false 1 (.t 47))]) (.cnd (.t 48) (.reg [o 49 (.mov (.t 5)),o 50 (.mov (.t 7)),o 51 (.iad 8 (.t 49) (.t 50)),o 52 (.fad 7 (.t 51)),on (.st 1 (.t 52) (.k (.bool true)))]) .skip))))))) (.reg [o 16 (.mov (.t 6)),o 17 (.bin .add (.t 16) (.k (.int .i64 1))),o 6 (.mov (.t 17))])))))) (.seq (.reg [o 53 (.mov (.t 5)),o 4 (.mov (.t 53))]) .ret))))⟩
end Go.Proofs.YtbeoiejnogdkpaaGreat.Sy
namespace Go.Proofs.YtbeoiejnogdkpaaGreat.Sy
open Go Go.RowKit
set_option linter.unusedSimpArgs false
set_option linter.unusedVariables false
set_option maxRecDepth 4000
abbrev n_s_l11Done:Nat:=271
def F_s_l11Done:Fn1:=⟨164,[.c 4 true 4],(.seq (.reg [o 2 (.box (.t 0)),o 3 (.box (.t 1)),o 4 (.new [.nilS,.nilS,.nilS,.nilS])]) (.seq (.drw [o 14 (.fad 0 (.t 2)),o 15 (.ld false 1 (.t 14)),o 16 (.fad 1 (.t 3)),o 17 (.ld false 1 (.t 16)),o 18 (.call 181 [(.t 15),(.t 17)]),o 19 (.fad 3 (.t 2)),o 20 (.ld false 1 (.t 19)),o 21 (.fad 5 (.t 3)),o 22 (.ld false 1 (.t 21)),o 23 (.call 339 [(.t 20),(.t 22)]),o 24 (.build [.nilS,.nilS,.nilS,.nilS] [(0,1,(.t 18)),(3,1,(.t 23))]),o 5 (.new [.nilS,.nilS,.nilS,.nilS])] [on (.st 4 (.t 5) (.t 24))]) (.seq (.seq (.reg [o 6 (.mov (.k (.int .i64 0)))]) (.blk 0 (.lop (.seq (.seq (.reg [o 25 (.mov (.t 6)),o 26 (.fad 1 (.t 2)),o 27 (.ld false 1 (.t 26)),o 28 (.len false (.t 27)),o 29 (.bin .lss (.t 25) (.t 28))]) (.cnd (.t 29) .skip (.ext 0))) (.seq (.blk 1 (.seq (.reg [o 32 (.fad 1 (.t 2)),o 33 (.ld false 1 (.t 32)),o 34 (.mov (.t 6)),o 35 (.iad 3 (.t 33) (.t 34)),o 36 (.ld true 3 (.t 35)),o 7 (.new [(.str ⟨#[]⟩),(.int .i64 0),(.int .i64 0)]),on (.st 3 (.t 7) (.t 36))]) (.seq (.drw [o 37 (.fad 1 (.t 3)),o 38 (.ld false 1 (.t 37)),o 39 (.fad 1 (.t 7)),o 40 (.ld false 1 (.t 39)),o 41 (.iad 1 (.t 38) (.t 40)),o 42 (.ld false 1 (.t 41)),o 43 (.fad 0 (.t 2)),o 44 (.ld false 1 (.t 43)),o 45 (.fad 1 (.t 7)),o 46 (.ld false 1 (.t 45)),o 47 (.iad 1 (.t 44) (.t 46)),o 48 (.ld false 1 (.t 47))] [o 49 (.bin .leq (.t 42) (.t 48))]) (.cnd (.t 49) (.reg [o 50 (.fad 0 (.t 7)),o 51 (.ld false 1 (.t 50)),o 52 (.fad 1 (.t 7)),o 53 (.ld false 1 (.t 52)),o 54 (.fad 2 (.t 7)),o 55 (.ld false 1 (.t 54)),o 56 (.call 319 [(.t 5),(.t 51),(.t 53),(.t 55)])]) .skip)))) (.reg [o 30 (.mov (.t 6)),o 31 (.bin .add (.t 30) (.k (.int .i64 1))),o 6 (.mov (.t 31))])))))) (.seq (.seq (.reg [o 8 (.mov (.k (.int .i64 0)))]) (.blk 2 (.lop (.seq (.seq (.reg [o 57 (.mov (.t 8)),o 58 (.fad 2 (.t 3)),o 59 (.ld false 1 (.t 58)),o 60 (.len false (.t 59)),o 61 (.bin .lss (.t 57) (.t 60))]) (.cnd (.t 61) .skip (.ext 2))) (.seq (.blk 3 (.seq (.reg [o 64 (.fad 2 (.t 3)),o 65 (.ld false 1 (.t 64)),o 66 (.mov (.t 8)),o 67 (.iad 3 (.t 65) (.t 66)),o 68 (.ld true 3 (.t 67)),o 9 (.new [(.str ⟨#[]⟩),(.int .i64 0),(.int .i64 0)]),on (.st 3 (.t 9) (.t 68))]) (.seq (.drw [o 69 (.fad 1 (.t 3)),o 70 (.ld false 1 (.t 69)),o 71 (.fad 1 (.t 9)),o 72 (.ld false 1 (.t 71)),o 73 (.iad 1 (.t 70) (.t 72)),o 74 (.ld false 1 (.t 73)),o 75 (.fad 0 (.t 2)),o 76 (.ld false 1 (.t 75)),o 77 (.fad 1 (.t 9)),o 78 (.ld false 1 (.t 77)),o 79 (.iad 1 (.t 76) (.t 78)),o 80 (.ld false 1 (.t 79))] [o 81 (.bin .gtr (.t 74) (.t 80))]) (.cnd (.t 81) (.reg [o 82 (.fad 0 (.t 9)),o 83 (.ld false 1 (.t 82)),o 84 (.fad 1 (.t 9)),o 85 (.ld false 1 (.t 84)),o 86 (.fad 2 (.t 9)),o 87 (.ld false 1 (.t 86)),o 88 (.call 319 [(.t 5),(.t 83),(.t 85),(.t 87)])]) .skip)))) (.reg [o 62 (.mov (.t 8)),o 63 (.bin .add (.t 62) (.k (.int .i64 1))),o 8 (.mov (.t 63))])))))) (.seq (.seq (.reg [o 10 (.mov (.k (.int .i64 0)))]) (.blk 4 (.lop (.seq (.seq (.reg [o 89 (.mov (.t 10)),o 90 (.fad 2 (.t 2)),o 91 (.ld false 1 (.t 90)),o 92 (.len false (.t 91)),o 93 (.bin .lss (.t 89) (.t 92))]) (.cnd (.t 93) .skip (.ext 4))) (.seq (.blk 5 (.seq (.reg [o 96 (.fad 2 (.t 2)),o 97 (.ld false 1 (.t 96)),o 98 (.mov (.t 10)),o 99 (.iad 6 (.t 97) (.t 98)),o 100 (.ld true 6 (.t 99)),o 11 (.new [(.bool false),(.str ⟨#[]⟩),(.str ⟨#[]⟩),(.int .i64 0),(.int .i64 0),(.int .i64 0)]),on (.st 6 (.t 11) (.t 100))]) (.seq (.reg [o 101 (.fad 1 (.t 3)),o 102 (.ld false 1 (.t 101)),o 103 (.fad 4 (.t 11)),o 104 (.ld true 2 (.t 103)),o 105 (.call 45 [(.t 102),(.t 104)]),o 106 (.mov (.t 105)),og 107 106 true (.fad 0 (.t 3)),og 108 106 true (.ld false 1 (.t 107)),og 109 106 true (.fad 4 (.t 11)),og 110 106 true (.ld true 2 (.t 109)),og 111 106 true (.call 45 [(.t 108),(.t 110)]),og 112 106 true (.un .not (.t 111)),o 113 (.pick (.t 106) (.t 112) (.k (.bool false))),o 114 (.mov (.t 113)),og 115 114 true (.fad 3 (.t 3)),og 116 114 true (.ld false 1 (.t 115)),og 117 114 true (.ld true 6 (.t 11)),og 118 114 true (.call 234 [(.t 116),(.t 117)]),og 119 114 true (.un .not (.t 118)),o 120 (.pick (.t 114) (.t 119) (.k (.bool false))),o 12 (.mov (.t 120))]) (.seq (.reg [o 121 (.mov (.t 12)),o 122 (.un .not (.t 121)),o 123 (.mov (.t 122)),og 124 123 true (.fad 4 (.t 3)),og 125 123 true (.ld false 1 (.t 124)),og 126 123 true (.fad 4 (.t 11)),og 127 123 true (.ld true 2 (.t 126)),og 128 123 true (.call 340 [(.t 125),(.t 127)]),og 129 123 true (.un .not (.t 128)),o 130 (.pick (.t 123) (.t 129) (.k (.bool false)))]) (.cnd (.t 130) (.reg [o 131 (.fad 2 (.t 5)),o 132 (.ld false 1 (.t 131)),o 133 (.ld true 6 (.t 11)),o 134 (.lit 6 1 [(.bool false),(.str ⟨#[]⟩),(.str ⟨#[]⟩),(.int .i64 0),(.int .i64 0),(.int .i64 0)] [(0,6,(.t 133))]),o 135 (.app 6 64 [(.bool false),(.str ⟨#[]⟩),(.str ⟨#[]⟩),(.int .i64 0),(.int .i64 0),(.int .i64 0)] (.t 132) (.t 134)),o 136 (.fad 2 (.t 5)),on (.st 1 (.t 136) (.t 135))]) .skip))))) (.reg [o 94 (.mov (.t 10)),o 95 (.bin .add (.t 94) (.k (.int .i64 1))),o 10 (.mov (.t 95))])))))) (.seq (.seq (.reg [o 13 (.mov (.k (.int .i64 0)))]) (.blk 6 (.lop (.seq (.seq (.reg [o 137 (.mov (.t 13)),o 138 (.fad 3 (.t 3)),o 139 (.ld false 1 (.t 138)),o 140 (.len false (.t 139)),o 141 (.bin .lss (.t 137) (.t 140))]) (.cnd (.t 141) .skip (.ext 6))) (.seq (.blk 7 (.seq (.drw [o 144 (.fad 0 (.t 2)),o 145 (.ld false 1 (.t 144)),o 146 (.fad 3 (.t 3)),o 147 (.ld false 1 (.t 146)),o 148 (.mov (.t 13)),o 149 (.iad 6 (.t 147) (.t 148)),o 150 (.fad 4 (.t 149)),o 151 (.ld true 2 (.t 150))] [o 152 (.call 45 [(.t 145),(.t 151)]),o 153 (.un .not (.t 152))]) (.cnd (.t 153) (.drw [o 154 (.fad 2 (.t 5)),o 155 (.ld false 1 (.t 154)),o 156 (.fad 3 (.t 3)),o 157 (.ld false 1 (.t 156)),o 158 (.mov (.t 13)),o 159 (.iad 6 (.t 157) (.t 158)),o 160 (.ld true 6 (.t 159))] [o 161 (.call 320 [(.t 155),(.t 160)]),o 162 (.fad 2 (.t 5)),on (.st 1 (.t 162) (.t 161))]) .skip))) (.reg [o 142 (.mov (.t 13)),o 143 (.bin .add (.t 142) (.k (.int .i64 1))),o 13 (.mov (.t 143))])))))) (.seq (.reg [o 163 (.ld true 4 (.t 5)),on (.st 4 (.t 4) (.t 163))]) .ret)))))))⟩
end Go.Proofs.YtbeoiejnogdkpaaGreat.Sy
namespace Go.Proofs.YtbeoiejnogdkpaaGreat.Sy
open Go Go.RowKit
set_option linter.unusedSimpArgs false
set_option linter.unusedVariables false
set_option maxRecDepth 4000
abbrev n_s_DoDelta:Nat:=166
def F_s_DoDelta:Fn1:=⟨57,[.c 4 true 4,.t 5],(.seq (.reg [o 2 (.box (.t 0)),o 3 (.box (.t 1)),o 4 (.new [.nilS,.nilS,.nilS,.nilS]),o 5 (.mov (.k (.int .i64 0)))]) (.seq (.reg [o 8 (.ld true 4 (.t 2)),o 9 (.call 247 [(.t 8)]),o 6 (.new [.nilS,.nilS,.nilS,.nilS]),on (.st 4 (.t 6) (.t 9))]) (.seq (.seq (.reg [o 10 (.ld true 4 (.t 2)),o 11 (.call 199 [(.t 10)]),o 12 (.un .not (.t 11)),o 13 (.mov (.t 12)),og 14 13 false (.ld true 6 (.t 3)),og 15 13 false (.call 219 [(.t 14)]),og 16 13 false (.un .not (.t 15)),o 17 (.pick (.t 13) (.k (.bool true)) (.t 16))]) (.cnd (.t 17) (.seq (.reg [o 18 (.ld true 4 (.t 6)),on (.st 4 (.t 4) (.t 18)),o 5 (.mov (.k (.int .i64 3)))]) .ret) .skip)) (.seq (.seq (.reg [o 19 (.fad 1 (.t 3)),o 20 (.ld false 1 (.t 19)),o 21 (.fad 0 (.t 2)),o 22 (.ld false 1 (.t 21)),o 23 (.call 178 [(.t 20),(.t 22)])]) (.cnd (.t 23) (.seq (.reg [o 24 (.ld true 4 (.t 6)),on (.st 4 (.t 4) (.t 24)),o 5 (.mov (.k (.int .i64 1)))]) .ret) .skip)) (.seq (.seq (.reg [o 25 (.fad 0 (.t 3)),o 26 (.ld false 1 (.t 25)),o 27 (.fad 0 (.t 2)),o 28 (.ld false 1 (.t 27)),o 29 (.call 178 [(.t 26),(.t 28)]),o 30 (.un .not (.t 29))]) (.cnd (.t 30) (.seq (.reg [o 31 (.ld true 4 (.t 6)),on (.st 4 (.t 4) (.t 31)),o 5 (.mov (.k (.int .i64 2)))]) .ret) .skip)) (.seq (.reg [o 32 (.ld true 4 (.t 2)),o 33 (.ld true 6 (.t 3)),o 34 (.call 271 [(.t 32),(.t 33)]),o 7 (.new [.nilS,.nilS,.nilS,.nilS]),on (.st 4 (.t 7) (.t 34))]) (.seq (.seq (.reg [o 35 (.fad 1 (.t 7)),o 36 (.ld false 1 (.t 35)),o 37 (.len false (.t 36)),o 38 (.bin .gtr (.t 37) (.k (.int .i64 120))),o 39 (.mov (.t 38)),og 40 39 false (.fad 2 (.t 7)),og 41 39 false (.ld false 1 (.t 40)),og 42 39 false (.len false (.t 41)),og 43 39 false (.bin .gtr (.t 42) (.k (.int .i64 120))),o 44 (.pick (.t 39) (.k (.bool true)) (.t 43)),o 45 (.mov (.t 44)),og 46 45 false (.fad 3 (.t 7)),og 47 45 false (.ld false 1 (.t 46)),og 48 45 false (.len false (.t 47)),og 49 45 false (.bin .gtr (.t 48) (.k (.int .i64 120))),o 50 (.pick (.t 45) (.k (.bool true)) (.t 49))]) (.cnd (.t 50) (.seq (.reg [o 51 (.ld true 4 (.t 6)),on (.st 4 (.t 4) (.t 51)),o 5 (.mov (.k (.int .i64 4)))]) .ret) .skip)) (.seq (.seq (.reg [o 52 (.ld true 4 (.t 7)),o 53 (.call 199 [(.t 52)]),o 54 (.un .not (.t 53))]) (.cnd (.t 54) (.seq (.reg [o 55 (.ld true 4 (.t 6)),on (.st 4 (.t 4) (.t 55)),o 5 (.mov (.k (.int .i64 3)))]) .ret) .skip)) (.seq (.reg [o 56 (.ld true 4 (.t 7)),on (.st 4 (.t 4) (.t 56)),o 5 (.mov (.k (.int .i64 0)))]) .ret)))))))))⟩
end Go.Proofs.YtbeoiejnogdkpaaGreat.Sy
namespace Go.Proofs.YtbeoiejnogdkpaaGreat.Sy
open Go Go.RowKit
set_option linter.unusedSimpArgs false
set_option linter.unusedVariables false
set_option maxRecDepth 4000
abbrev z4:List GV:=[GV.nilS,GV.nilS,GV.nilS,GV.nilS]
end Go.Proofs.YtbeoiejnogdkpaaGreat.Sy
namespace Go.Proofs.YtbeoiejnogdkpaaGreat.Sy
open Go Go.RowKit
set_option linter.unusedSimpArgs false
set_option linter.unusedVariables false
set_option maxRecDepth 4000
end Go.Proofs.YtbeoiejnogdkpaaGreat.Sy
namespace Go.Proofs.YtbeoiejnogdkpaaGreat.Sy
open Go Go.RowKit
set_option linter.unusedSimpArgs false
set_option linter.unusedVariables false
set_option maxRecDepth 4000
abbrev n_s_DoUnit:Nat:=44
def F_s_DoUnit:Fn1:=⟨20,[.c 4 true 4,.t 5],(.seq (.reg [o 2 (.box (.t 0)),o 3 (.box (.t 1)),o 4 (.new [.nilS,.nilS,.nilS,.nilS]),o 5 (.mov (.k (.int .i64 0)))]) (.seq (.seq (.reg [o 6 (.fad 0 (.t 3)),o 7 (.ld false 1 (.t 6))]) (.cnd (.t 7) (.seq (.reg [o 8 (.ld true 4 (.t 2)),o 9 (.fad 11 (.t 3)),o 10 (.ld true 6 (.t 9)),o 11 (.call 166 [(.t 8),(.t 10)]),o 12 (.ext 0 (.t 11)),o 13 (.ext 1 (.t 11)),on (.st 4 (.t 4) (.t 12)),o 5 (.mov (.t 13))]) .ret) .skip)) (.seq (.reg [o 14 (.ld true 4 (.t 2)),o 15 (.fad 1 (.t 3)),o 16 (.ld true 10 (.t 15)),o 17 (.call 140 [(.t 14),(.t 16)]),o 18 (.ext 0 (.t 17)),o 19 (.ext 1 (.t 17)),on (.st 4 (.t 4) (.t 18)),o 5 (.mov (.t 19))]) .ret)))⟩
abbrev n_i_DoUnit:Nat:=164
def F_i_DoUnit:Fn1:=⟨20,[.c 4 true 4,.t 5],(.seq (.reg [o 2 (.box (.t 0)),o 3 (.box (.t 1)),o 4 (.new [.nilS,.nilS,.nilS,.nilS]),o 5 (.mov (.k (.int .i64 0)))]) (.seq (.seq (.reg [o 6 (.fad 0 (.t 3)),o 7 (.ld false 1 (.t 6))]) (.cnd (.t 7) (.seq (.reg [o 8 (.ld true 4 (.t 2)),o 9 (.fad 11 (.t 3)),o 10 (.ld true 6 (.t 9)),o 11 (.call 270 [(.t 8),(.t 10)]),o 12 (.ext 0 (.t 11)),o 13 (.ext 1 (.t 11)),on (.st 4 (.t 4) (.t 12)),o 5 (.mov (.t 13))]) .ret) .skip)) (.seq (.reg [o 14 (.ld true 4 (.t 2)),o 15 (.fad 1 (.t 3)),o 16 (.ld true 10 (.t 15)),o 17 (.call 152 [(.t 14),(.t 16)]),o 18 (.ext 0 (.t 17)),o 19 (.ext 1 (.t 17)),on (.st 4 (.t 4) (.t 18)),o 5 (.mov (.t 19))]) .ret)))⟩
abbrev n_s_StateNew:Nat:=43
def F_s_StateNew:Fn1:=⟨3,[.c 0 true 4],(.seq (.reg [o 0 (.new [.nilS,.nilS,.nilS,.nilS])]) (.seq (.reg [o 1 (.call 165 []),o 2 (.build [.nilS,.nilS,.nilS,.nilS] [(0,1,(.t 1))]),on (.st 4 (.t 0) (.t 2))]) .ret))⟩
abbrev n_i_StateNew:Nat:=127
def F_i_StateNew:Fn1:=⟨3,[.c 0 true 4],(.seq (.reg [o 0 (.new [.nilS,.nilS,.nilS,.nilS])]) (.seq (.reg [o 1 (.call 179 []),o 2 (.build [.nilS,.nilS,.nilS,.nilS] [(0,1,(.t 1))]),on (.st 4 (.t 0) (.t 2))]) .ret))⟩
abbrev n_s_MayStand:Nat:=62
def F_s_MayStand:Fn1:=⟨26,[.t 2],(.seq (.reg [o 2 (.mov (.k (.bool false)))]) (.seq (.reg [o 7 (.call 43 []),o 3 (.new [.nilS,.nilS,.nilS,.nilS]),on (.st 4 (.t 3) (.t 7))]) (.seq (.seq (.reg [o 4 (.mov (.k (.int .i64 0)))]) (.blk 0 (.lop (.seq (.seq (.reg [o 8 (.mov (.t 4)),o 9 (.mov (.t 0)),o 10 (.len false (.t 9)),o 11 (.bin .lss (.t 8) (.t 10))]) (.cnd (.t 11) .skip (.ext 0))) (.seq (.blk 1 (.seq (.drw [o 15 (.ld true 4 (.t 3)),o 16 (.mov (.t 0)),o 17 (.mov (.t 4)),o 18 (.iad 17 (.t 16) (.t 17)),o 19 (.ld true 17 (.t 18)),o 20 (.call 44 [(.t 15),(.t 19)]),o 14 (.mov (.t 20)),o 21 (.ext 0 (.t 14)),o 22 (.ext 1 (.t 14)),o 5 (.new [.nilS,.nilS,.nilS,.nilS])] [on (.st 4 (.t 5) (.t 21)),o 6 (.mov (.t 22))]) (.seq (.seq (.reg [o 23 (.mov (.t 6)),o 24 (.bin .neq (.t 23) (.k (.int .i64 0)))]) (.cnd (.t 24) (.seq (.reg [o 2 (.mov (.k (.bool false)))]) .ret) .skip)) (.reg [o 25 (.ld true 4 (.t 5)),on (.st 4 (.t 3) (.t 25))])))) (.reg [o 12 (.mov (.t 4)),o 13 (.bin .add (.t 12) (.k (.int .i64 1))),o 4 (.mov (.t 13))])))))) (.seq (.reg [o 2 (.mov (.k (.bool true)))]) .ret))))⟩
abbrev n_i_MayStand:Nat:=42
def F_i_MayStand:Fn1:=⟨25,[.t 2],(.seq (.reg [o 2 (.mov (.k (.bool false)))]) (.seq (.reg [o 8 (.call 127 []),o 3 (.new [.nilS,.nilS,.nilS,.nilS]),on (.st 4 (.t 3) (.t 8))]) (.seq (.seq (.reg [o 9 (.mov (.t 0)),o 10 (.len false (.t 9)),o 11 (.mov (.k (.int .i64 0)))]) (.blk 0 (.lop (.seq (.reg [o 12 (.bin .lss (.t 11) (.t 10))]) (.seq (.cnd (.t 12) .skip (.ext 0)) (.seq (.blk 1 (.seq (.reg [o 13 (.iad 17 (.t 9) (.t 11)),o 14 (.ld true 17 (.t 13)),o 5 (.new [(.bool false),(.int .i64 0),(.int .i64 0),(.int .i64 0),.nilS,(.int .i64 0),(.str ⟨#[]⟩),(.str ⟨#[]⟩),(.int .i64 0),(.int .i64 0),(.int .i64 0),.nilS,.nilS,.nilS,.nilS,.nilS,.nilS]),on (.st 17 (.t 5) (.t 14))]) (.seq (.reg [o 16 (.ld true 4 (.t 3)),o 17 (.ld true 17 (.t 5)),o 18 (.call 164 [(.t 16),(.t 17)]),o 15 (.mov (.t 18)),o 19 (.ext 0 (.t 15)),o 20 (.ext 1 (.t 15)),o 6 (.new [.nilS,.nilS,.nilS,.nilS]),on (.st 4 (.t 6) (.t 19)),o 7 (.mov (.t 20))]) (.seq (.seq (.reg [o 21 (.mov (.t 7)),o 22 (.bin .neq (.t 21) (.k (.int .i64 0)))]) (.cnd (.t 22) (.seq (.reg [o 2 (.mov (.k (.bool false)))]) .ret) .skip)) (.reg [o 23 (.ld true 4 (.t 6)),on (.st 4 (.t 3) (.t 23))]))))) (.reg [o 24 (.bin .add (.t 11) (.k (.int .i64 1))),o 11 (.mov (.t 24))]))))))) (.seq (.reg [o 2 (.mov (.k (.bool true)))]) .ret))))⟩
abbrev zeU:List GV:=[.bool false,gi 0,gi 0,gi 0,.nilS,gi 0,.str ⟨#[]⟩,.str ⟨#[]⟩,gi 0,gi 0,gi 0,.nilS,.nilS,.nilS,.nilS,.nilS,.nilS]
def doUnit (s:State) (u:Unit_):State×Int:=if u.batch then doDelta s u.delta else doAct s u.act
def st0:State:=⟨[0,0,0],[],[],[]⟩
def runU (us:List Unit_):Nat→Option State
 |0=>some st0
 |i+1=>(runU us i).bind fun s=>if h:i<us.length then(if (doUnit s us[i]).2=0 then some (doUnit s us[i]).1 else none) else some s
def mayStand (us:List Unit_):Bool:=(runU us us.length).isSome
end Go.Proofs.YtbeoiejnogdkpaaGreat.Sy
namespace Go.Proofs.YtbeoiejnogdkpaaGreat.Sy
open Go Go.RowKit
set_option linter.unusedSimpArgs false
set_option linter.unusedVariables false
set_option maxRecDepth 4000
abbrev n_s_l13NoAct:Nat:=220
def F_s_l13NoAct:Fn1:=⟨44,[.t 2],(.seq (.reg [o 1 (.box (.t 0)),o 2 (.mov (.k (.bool false)))]) (.seq (.reg [o 3 (.fad 0 (.t 1)),o 4 (.ld true 2 (.t 3)),o 5 (.build [(.int .i64 0),(.int .i64 0)] []),o 6 (.eqs false [.i .i64,.i .i64] (.t 4) (.t 5)),o 7 (.mov (.t 6)),og 8 7 true (.fad 2 (.t 1)),og 9 7 true (.ld false 1 (.t 8)),og 10 7 true (.bin .eql (.t 9) (.k (.int .i64 0))),o 11 (.pick (.t 7) (.t 10) (.k (.bool false))),o 12 (.mov (.t 11)),og 13 12 true (.fad 3 (.t 1)),og 14 12 true (.ld false 1 (.t 13)),og 15 12 true (.len false (.t 14)),og 16 12 true (.bin .eql (.t 15) (.k (.int .i64 0))),o 17 (.pick (.t 12) (.t 16) (.k (.bool false))),o 18 (.mov (.t 17)),og 19 18 true (.fad 4 (.t 1)),og 20 18 true (.ld false 1 (.t 19)),og 21 18 true (.bin .eql (.t 20) (.k (.int .i64 0))),o 22 (.pick (.t 18) (.t 21) (.k (.bool false))),o 23 (.mov (.t 22)),og 24 23 true (.fad 5 (.t 1)),og 25 23 true (.ld false 1 (.t 24)),og 26 23 true (.bin .eql (.t 25) (.k (.str ⟨#[]⟩))),o 27 (.pick (.t 23) (.t 26) (.k (.bool false))),o 28 (.mov (.t 27)),og 29 28 true (.fad 6 (.t 1)),og 30 28 true (.ld false 1 (.t 29)),og 31 28 true (.bin .eql (.t 30) (.k (.str ⟨#[]⟩))),o 32 (.pick (.t 28) (.t 31) (.k (.bool false))),o 33 (.mov (.t 32)),og 34 33 true (.fad 7 (.t 1)),og 35 33 true (.ld false 1 (.t 34)),og 36 33 true (.bin .eql (.t 35) (.k (.int .i64 0))),o 37 (.pick (.t 33) (.t 36) (.k (.bool false))),o 38 (.mov (.t 37)),og 39 38 true (.fad 8 (.t 1)),og 40 38 true (.ld true 2 (.t 39)),og 41 38 true (.build [(.int .i64 0),(.int .i64 0)] []),og 42 38 true (.eqs false [.i .i64,.i .i64] (.t 40) (.t 41)),o 43 (.pick (.t 38) (.t 42) (.k (.bool false))),o 2 (.mov (.t 43))]) .ret))⟩
theorem ir_s_l13NoAct:compFn Tryz.prog n_s_l13NoAct=some F_s_l13NoAct:=by kernel_rfl
abbrev n_s_l13NoDelta:Nat:=221
def F_s_l13NoDelta:Fn1:=⟨37,[.t 2],(.seq (.reg [o 1 (.box (.t 0)),o 2 (.mov (.k (.bool false)))]) (.seq (.reg [o 3 (.fad 0 (.t 1)),o 4 (.ld false 1 (.t 3)),o 5 (.len false (.t 4)),o 6 (.bin .eql (.t 5) (.k (.int .i64 0))),o 7 (.mov (.t 6)),og 8 7 true (.fad 1 (.t 1)),og 9 7 true (.ld false 1 (.t 8)),og 10 7 true (.len false (.t 9)),og 11 7 true (.bin .eql (.t 10) (.k (.int .i64 0))),o 12 (.pick (.t 7) (.t 11) (.k (.bool false))),o 13 (.mov (.t 12)),og 14 13 true (.fad 2 (.t 1)),og 15 13 true (.ld false 1 (.t 14)),og 16 13 true (.len false (.t 15)),og 17 13 true (.bin .eql (.t 16) (.k (.int .i64 0))),o 18 (.pick (.t 13) (.t 17) (.k (.bool false))),o 19 (.mov (.t 18)),og 20 19 true (.fad 3 (.t 1)),og 21 19 true (.ld false 1 (.t 20)),og 22 19 true (.len false (.t 21)),og 23 19 true (.bin .eql (.t 22) (.k (.int .i64 0))),o 24 (.pick (.t 19) (.t 23) (.k (.bool false))),o 25 (.mov (.t 24)),og 26 25 true (.fad 4 (.t 1)),og 27 25 true (.ld false 1 (.t 26)),og 28 25 true (.len false (.t 27)),og 29 25 true (.bin .eql (.t 28) (.k (.int .i64 0))),o 30 (.pick (.t 25) (.t 29) (.k (.bool false))),o 31 (.mov (.t 30)),og 32 31 true (.fad 5 (.t 1)),og 33 31 true (.ld false 1 (.t 32)),og 34 31 true (.len false (.t 33)),og 35 31 true (.bin .eql (.t 34) (.k (.int .i64 0))),o 36 (.pick (.t 31) (.t 35) (.k (.bool false))),o 2 (.mov (.t 36))]) .ret))⟩
theorem ir_s_l13NoDelta:compFn Tryz.prog n_s_l13NoDelta=some F_s_l13NoDelta:=by kernel_rfl
abbrev n_i_SameAct:Nat:=226
def F_i_SameAct:Fn1:=⟨59,[.t 4],(.seq (.reg [o 2 (.box (.t 0)),o 3 (.box (.t 1)),o 4 (.mov (.k (.bool false)))]) (.seq (.reg [o 5 (.fad 0 (.t 2)),o 6 (.ld true 2 (.t 5)),o 7 (.fad 0 (.t 3)),o 8 (.ld true 2 (.t 7)),o 9 (.eqs false [.i .i64,.i .i64] (.t 6) (.t 8)),o 10 (.mov (.t 9)),og 11 10 true (.fad 2 (.t 2)),og 12 10 true (.ld false 1 (.t 11)),og 13 10 true (.fad 2 (.t 3)),og 14 10 true (.ld false 1 (.t 13)),og 15 10 true (.bin .eql (.t 12) (.t 14)),o 16 (.pick (.t 10) (.t 15) (.k (.bool false))),o 17 (.mov (.t 16)),og 18 17 true (.fad 3 (.t 2)),og 19 17 true (.ld false 1 (.t 18)),og 20 17 true (.fad 3 (.t 3)),og 21 17 true (.ld false 1 (.t 20)),og 22 17 true (.call 156 [(.t 19),(.t 21)]),o 23 (.pick (.t 17) (.t 22) (.k (.bool false))),o 24 (.mov (.t 23)),og 25 24 true (.fad 4 (.t 2)),og 26 24 true (.ld false 1 (.t 25)),og 27 24 true (.fad 4 (.t 3)),og 28 24 true (.ld false 1 (.t 27)),og 29 24 true (.bin .eql (.t 26) (.t 28)),o 30 (.pick (.t 24) (.t 29) (.k (.bool false))),o 31 (.mov (.t 30)),og 32 31 true (.fad 5 (.t 2)),og 33 31 true (.ld false 1 (.t 32)),og 34 31 true (.fad 5 (.t 3)),og 35 31 true (.ld false 1 (.t 34)),og 36 31 true (.bin .eql (.t 33) (.t 35)),o 37 (.pick (.t 31) (.t 36) (.k (.bool false))),o 38 (.mov (.t 37)),og 39 38 true (.fad 6 (.t 2)),og 40 38 true (.ld false 1 (.t 39)),og 41 38 true (.fad 6 (.t 3)),og 42 38 true (.ld false 1 (.t 41)),og 43 38 true (.bin .eql (.t 40) (.t 42)),o 44 (.pick (.t 38) (.t 43) (.k (.bool false))),o 45 (.mov (.t 44)),og 46 45 true (.fad 7 (.t 2)),og 47 45 true (.ld false 1 (.t 46)),og 48 45 true (.fad 7 (.t 3)),og 49 45 true (.ld false 1 (.t 48)),og 50 45 true (.bin .eql (.t 47) (.t 49)),o 51 (.pick (.t 45) (.t 50) (.k (.bool false))),o 52 (.mov (.t 51)),og 53 52 true (.fad 8 (.t 2)),og 54 52 true (.ld true 2 (.t 53)),og 55 52 true (.fad 8 (.t 3)),og 56 52 true (.ld true 2 (.t 55)),og 57 52 true (.eqs false [.i .i64,.i .i64] (.t 54) (.t 56)),o 58 (.pick (.t 52) (.t 57) (.k (.bool false))),o 4 (.mov (.t 58))]) .ret))⟩
theorem ir_i_SameAct:compFn Tryz.prog n_i_SameAct=some F_i_SameAct:=by kernel_rfl
abbrev n_i_sameDelta:Nat:=227
def F_i_sameDelta:Fn1:=⟨45,[.t 4],(.seq (.reg [o 2 (.box (.t 0)),o 3 (.box (.t 1)),o 4 (.mov (.k (.bool false)))]) (.seq (.reg [o 5 (.fad 0 (.t 2)),o 6 (.ld false 1 (.t 5)),o 7 (.fad 0 (.t 3)),o 8 (.ld false 1 (.t 7)),o 9 (.call 156 [(.t 6),(.t 8)]),o 10 (.mov (.t 9)),og 11 10 true (.fad 1 (.t 2)),og 12 10 true (.ld false 1 (.t 11)),og 13 10 true (.fad 1 (.t 3)),og 14 10 true (.ld false 1 (.t 13)),og 15 10 true (.call 156 [(.t 12),(.t 14)]),o 16 (.pick (.t 10) (.t 15) (.k (.bool false))),o 17 (.mov (.t 16)),og 18 17 true (.fad 2 (.t 2)),og 19 17 true (.ld false 1 (.t 18)),og 20 17 true (.fad 2 (.t 3)),og 21 17 true (.ld false 1 (.t 20)),og 22 17 true (.call 307 [(.t 19),(.t 21)]),o 23 (.pick (.t 17) (.t 22) (.k (.bool false))),o 24 (.mov (.t 23)),og 25 24 true (.fad 3 (.t 2)),og 26 24 true (.ld false 1 (.t 25)),og 27 24 true (.fad 3 (.t 3)),og 28 24 true (.ld false 1 (.t 27)),og 29 24 true (.call 308 [(.t 26),(.t 28)]),o 30 (.pick (.t 24) (.t 29) (.k (.bool false))),o 31 (.mov (.t 30)),og 32 31 true (.fad 4 (.t 2)),og 33 31 true (.ld false 1 (.t 32)),og 34 31 true (.fad 4 (.t 3)),og 35 31 true (.ld false 1 (.t 34)),og 36 31 true (.call 309 [(.t 33),(.t 35)]),o 37 (.pick (.t 31) (.t 36) (.k (.bool false))),o 38 (.mov (.t 37)),og 39 38 true (.fad 5 (.t 2)),og 40 38 true (.ld false 1 (.t 39)),og 41 38 true (.fad 5 (.t 3)),og 42 38 true (.ld false 1 (.t 41)),og 43 38 true (.call 310 [(.t 40),(.t 42)]),o 44 (.pick (.t 38) (.t 43) (.k (.bool false))),o 4 (.mov (.t 44))]) .ret))⟩
theorem ir_i_sameDelta:compFn Tryz.prog n_i_sameDelta=some F_i_sameDelta:=by kernel_rfl
abbrev n_s_l13Unit:Nat:=97
def F_s_l13Unit:Fn1:=⟨21,[.t 2],(.seq (.reg [o 1 (.box (.t 0)),o 2 (.mov (.k (.bool false)))]) (.seq (.seq (.reg [o 3 (.fad 0 (.t 1)),o 4 (.ld false 1 (.t 3))]) (.cnd (.t 4) (.seq (.reg [o 5 (.fad 11 (.t 1)),o 6 (.ld true 6 (.t 5)),o 7 (.call 219 [(.t 6)]),o 8 (.mov (.t 7)),og 9 8 true (.fad 1 (.t 1)),og 10 8 true (.ld true 10 (.t 9)),og 11 8 true (.call 220 [(.t 10)]),o 12 (.pick (.t 8) (.t 11) (.k (.bool false))),o 2 (.mov (.t 12))]) .ret) .skip)) (.seq (.reg [o 13 (.fad 1 (.t 1)),o 14 (.ld true 10 (.t 13)),o 15 (.call 185 [(.t 14)]),o 16 (.mov (.t 15)),og 17 16 true (.fad 11 (.t 1)),og 18 16 true (.ld true 6 (.t 17)),og 19 16 true (.call 221 [(.t 18)]),o 20 (.pick (.t 16) (.t 19) (.k (.bool false))),o 2 (.mov (.t 20))]) .ret)))⟩
theorem ir_s_l13Unit:compFn Tryz.prog n_s_l13Unit=some F_s_l13Unit:=by kernel_rfl
abbrev n_i_unitOk:Nat:=101
def F_i_unitOk:Fn1:=⟨23,[.t 2],(.seq (.reg [o 1 (.box (.t 0)),o 2 (.mov (.k (.bool false)))]) (.seq (.seq (.reg [o 3 (.fad 0 (.t 1)),o 4 (.ld false 1 (.t 3))]) (.cnd (.t 4) (.seq (.reg [o 5 (.fad 11 (.t 1)),o 6 (.ld true 6 (.t 5)),o 7 (.call 225 [(.t 6)]),o 8 (.mov (.t 7)),og 9 8 true (.fad 1 (.t 1)),og 10 8 true (.ld true 10 (.t 9)),og 11 8 true (.build [(.int .i64 0),(.int .i64 0),(.int .i64 0),.nilS,(.int .i64 0),(.str ⟨#[]⟩),(.str ⟨#[]⟩),(.int .i64 0),(.int .i64 0),(.int .i64 0)] []),og 12 8 true (.call 226 [(.t 10),(.t 11)]),o 13 (.pick (.t 8) (.t 12) (.k (.bool false))),o 2 (.mov (.t 13))]) .ret) .skip)) (.seq (.reg [o 14 (.fad 1 (.t 1)),o 15 (.ld true 10 (.t 14)),o 16 (.call 169 [(.t 15)]),o 17 (.mov (.t 16)),og 18 17 true (.fad 11 (.t 1)),og 19 17 true (.ld true 6 (.t 18)),og 20 17 true (.build [.nilS,.nilS,.nilS,.nilS,.nilS,.nilS] []),og 21 17 true (.call 227 [(.t 19),(.t 20)]),o 22 (.pick (.t 17) (.t 21) (.k (.bool false))),o 2 (.mov (.t 22))]) .ret)))⟩
theorem ir_i_unitOk:compFn Tryz.prog n_i_unitOk=some F_i_unitOk:=by kernel_rfl
abbrev n_slices_Equal_impl_Tally_impl_Tally:Nat:=307
def F_slices_Equal_impl_Tally_impl_Tally:Fn1:=⟨26,[.t 4],(.seq (.reg [o 4 (.mov (.k (.bool false)))]) (.seq (.seq (.reg [o 6 (.mov (.t 0)),o 7 (.len false (.t 6)),o 8 (.mov (.t 1)),o 9 (.len false (.t 8)),o 10 (.bin .neq (.t 7) (.t 9))]) (.cnd (.t 10) (.seq (.reg [o 4 (.mov (.k (.bool false)))]) .ret) .skip)) (.seq (.seq (.reg [o 11 (.mov (.t 0)),o 12 (.len false (.t 11)),o 13 (.mov (.k (.int .i64 0)))]) (.blk 0 (.lop (.seq (.reg [o 14 (.bin .lss (.t 13) (.t 12))]) (.seq (.cnd (.t 14) .skip (.ext 0)) (.seq (.blk 1 (.seq (.reg [o 15 (.mov (.t 13)),o 5 (.mov (.t 15))]) (.seq (.drw [o 16 (.mov (.t 0)),o 17 (.mov (.t 5)),o 18 (.iad 3 (.t 16) (.t 17)),o 19 (.ld true 3 (.t 18)),o 20 (.mov (.t 1)),o 21 (.mov (.t 5)),o 22 (.iad 3 (.t 20) (.t 21)),o 23 (.ld true 3 (.t 22))] [o 24 (.eqs true [.s,.i .i64,.i .i64] (.t 19) (.t 23))]) (.cnd (.t 24) (.seq (.reg [o 4 (.mov (.k (.bool false)))]) .ret) .skip)))) (.reg [o 25 (.bin .add (.t 13) (.k (.int .i64 1))),o 13 (.mov (.t 25))]))))))) (.seq (.reg [o 4 (.mov (.k (.bool true)))]) .ret))))⟩
theorem ir_slices_Equal_impl_Tally_impl_Tally:compFn Tryz.prog n_slices_Equal_impl_Tally_impl_Tally=some F_slices_Equal_impl_Tally_impl_Tally:=by kernel_rfl
abbrev n_slices_Equal_impl_Live_impl_Live:Nat:=308
def F_slices_Equal_impl_Live_impl_Live:Fn1:=⟨26,[.t 4],(.seq (.reg [o 4 (.mov (.k (.bool false)))]) (.seq (.seq (.reg [o 6 (.mov (.t 0)),o 7 (.len false (.t 6)),o 8 (.mov (.t 1)),o 9 (.len false (.t 8)),o 10 (.bin .neq (.t 7) (.t 9))]) (.cnd (.t 10) (.seq (.reg [o 4 (.mov (.k (.bool false)))]) .ret) .skip)) (.seq (.seq (.reg [o 11 (.mov (.t 0)),o 12 (.len false (.t 11)),o 13 (.mov (.k (.int .i64 0)))]) (.blk 0 (.lop (.seq (.reg [o 14 (.bin .lss (.t 13) (.t 12))]) (.seq (.cnd (.t 14) .skip (.ext 0)) (.seq (.blk 1 (.seq (.reg [o 15 (.mov (.t 13)),o 5 (.mov (.t 15))]) (.seq (.drw [o 16 (.mov (.t 0)),o 17 (.mov (.t 5)),o 18 (.iad 6 (.t 16) (.t 17)),o 19 (.ld true 6 (.t 18)),o 20 (.mov (.t 1)),o 21 (.mov (.t 5)),o 22 (.iad 6 (.t 20) (.t 21)),o 23 (.ld true 6 (.t 22))] [o 24 (.eqs true [.b,.s,.s,.i .i64,.i .i64,.i .i64] (.t 19) (.t 23))]) (.cnd (.t 24) (.seq (.reg [o 4 (.mov (.k (.bool false)))]) .ret) .skip)))) (.reg [o 25 (.bin .add (.t 13) (.k (.int .i64 1))),o 13 (.mov (.t 25))]))))))) (.seq (.reg [o 4 (.mov (.k (.bool true)))]) .ret))))⟩
theorem ir_slices_Equal_impl_Live_impl_Live:compFn Tryz.prog n_slices_Equal_impl_Live_impl_Live=some F_slices_Equal_impl_Live_impl_Live:=by kernel_rfl
abbrev n_slices_Equal_impl_Dot_impl_Dot:Nat:=309
def F_slices_Equal_impl_Dot_impl_Dot:Fn1:=⟨26,[.t 4],(.seq (.reg [o 4 (.mov (.k (.bool false)))]) (.seq (.seq (.reg [o 6 (.mov (.t 0)),o 7 (.len false (.t 6)),o 8 (.mov (.t 1)),o 9 (.len false (.t 8)),o 10 (.bin .neq (.t 7) (.t 9))]) (.cnd (.t 10) (.seq (.reg [o 4 (.mov (.k (.bool false)))]) .ret) .skip)) (.seq (.seq (.reg [o 11 (.mov (.t 0)),o 12 (.len false (.t 11)),o 13 (.mov (.k (.int .i64 0)))]) (.blk 0 (.lop (.seq (.reg [o 14 (.bin .lss (.t 13) (.t 12))]) (.seq (.cnd (.t 14) .skip (.ext 0)) (.seq (.blk 1 (.seq (.reg [o 15 (.mov (.t 13)),o 5 (.mov (.t 15))]) (.seq (.drw [o 16 (.mov (.t 0)),o 17 (.mov (.t 5)),o 18 (.iad 2 (.t 16) (.t 17)),o 19 (.ld true 2 (.t 18)),o 20 (.mov (.t 1)),o 21 (.mov (.t 5)),o 22 (.iad 2 (.t 20) (.t 21)),o 23 (.ld true 2 (.t 22))] [o 24 (.eqs true [.i .i64,.i .i64] (.t 19) (.t 23))]) (.cnd (.t 24) (.seq (.reg [o 4 (.mov (.k (.bool false)))]) .ret) .skip)))) (.reg [o 25 (.bin .add (.t 13) (.k (.int .i64 1))),o 13 (.mov (.t 25))]))))))) (.seq (.reg [o 4 (.mov (.k (.bool true)))]) .ret))))⟩
theorem ir_slices_Equal_impl_Dot_impl_Dot:compFn Tryz.prog n_slices_Equal_impl_Dot_impl_Dot=some F_slices_Equal_impl_Dot_impl_Dot:=by kernel_rfl
abbrev n_slices_Equal_impl_Cell_impl_Cell:Nat:=310
def F_slices_Equal_impl_Cell_impl_Cell:Fn1:=⟨26,[.t 4],(.seq (.reg [o 4 (.mov (.k (.bool false)))]) (.seq (.seq (.reg [o 6 (.mov (.t 0)),o 7 (.len false (.t 6)),o 8 (.mov (.t 1)),o 9 (.len false (.t 8)),o 10 (.bin .neq (.t 7) (.t 9))]) (.cnd (.t 10) (.seq (.reg [o 4 (.mov (.k (.bool false)))]) .ret) .skip)) (.seq (.seq (.reg [o 11 (.mov (.t 0)),o 12 (.len false (.t 11)),o 13 (.mov (.k (.int .i64 0)))]) (.blk 0 (.lop (.seq (.reg [o 14 (.bin .lss (.t 13) (.t 12))]) (.seq (.cnd (.t 14) .skip (.ext 0)) (.seq (.blk 1 (.seq (.reg [o 15 (.mov (.t 13)),o 5 (.mov (.t 15))]) (.seq (.drw [o 16 (.mov (.t 0)),o 17 (.mov (.t 5)),o 18 (.iad 8 (.t 16) (.t 17)),o 19 (.ld true 8 (.t 18)),o 20 (.mov (.t 1)),o 21 (.mov (.t 5)),o 22 (.iad 8 (.t 20) (.t 21)),o 23 (.ld true 8 (.t 22))] [o 24 (.eqs true [.s,.i .i64,.i .i64,.i .i64,.i .i64,.i .i64,.i .i64,.b] (.t 19) (.t 23))]) (.cnd (.t 24) (.seq (.reg [o 4 (.mov (.k (.bool false)))]) .ret) .skip)))) (.reg [o 25 (.bin .add (.t 13) (.k (.int .i64 1))),o 13 (.mov (.t 25))]))))))) (.seq (.reg [o 4 (.mov (.k (.bool true)))]) .ret))))⟩
theorem ir_slices_Equal_impl_Cell_impl_Cell:compFn Tryz.prog n_slices_Equal_impl_Cell_impl_Cell=some F_slices_Equal_impl_Cell_impl_Cell:=by kernel_rfl
theorem slices_Equal_Tally_ret (σ:St) (v u:GV) (l m:List Tally) (hv:RS pTally.kd σ v l) (hu:RS pTally.kd σ u m) (hl:l.length≤1099511627776):Ret Tryz.prog n_slices_Equal_impl_Tally_impl_Tally [v,u] σ (.bool (decide (l=m))) σ:=by
 refine ret_xe ir_slices_Equal_impl_Tally_impl_Tally (Nat.le_of_ble_eq_true rfl) trivial ?_
 by_cases hlm:l.length=m.length
 rotate_left
 ·have b:((l.length:Int) != (m.length:Int))=true:=by simp;omega
  have d:decide (l=m)=false:=decide_eq_false fun h=>hlm (by rw[h])
  simp +contextual (disch:=omega) only[go_sem,F_slices_Equal_impl_Tally_impl_Tally,hv.len,hu.len,b,d]
  try exact fun _=>rfl
 have b:((l.length:Int) != (m.length:Int))=false:=by simp;omega
 simp +contextual (disch:=omega) only[go_sem,F_slices_Equal_impl_Tally_impl_Tally,hv.len,hu.len,b]
 refine sx_for l.length 13 0 (fun i env h=>env 0=v∧env 1=u∧env 12=gi l.length∧l.take i=m.take i∧h=[]) (fun env h=>l=m) (fun env h=>env 4= .bool false∧l≠m) _ (Hx.refl σ) (by simp +contextual (disch:=omega) only[go_sem]) ⟨by simp +contextual (disch:=omega) only[go_sem],by simp +contextual (disch:=omega) only[go_sem],by simp +contextual (disch:=omega) only[go_sem],rfl,rfl⟩ ?_ ?_ ?_ ?_
 ·rintro J Y W hJ hY hW i env h' τ hi ei c0 H ⟨e0,e1,e12,he,rfl⟩
  have hj:i<m.length:=by omega
  have L1:=Tally_at hv hi
  have L2:=Tally_at hu hj
  by_cases hx:l[i]=m[i]
  ·have b:decide (l[i]=m[i])=true:=decide_eq_true hx
   simp +contextual (disch:=omega) only[go_sem,c0,e0,e1,e12,ei,natOf_nat,L1,L2,b]
   exact hJ _ _ _ _ H ⟨by simp +contextual (disch:=omega) only[go_sem,e0],by simp +contextual (disch:=omega) only[go_sem,e1],by simp +contextual (disch:=omega) only[go_sem,e12],by rw[take_snoc hi,take_snoc hj,he,hx],rfl⟩
  ·have b:decide (l[i]=m[i])=false:=decide_eq_false hx
   simp +contextual (disch:=omega) only[go_sem,c0,e0,e1,e12,ei,natOf_nat,L1,L2,b]
   exact hW _ _ _ H ⟨by simp +contextual (disch:=omega) only[go_sem],fun h=>hx (by subst h;rfl)⟩
 ·rintro Y hY env h' τ ei c0 H ⟨e0,e1,e12,he,rfl⟩
  simp +contextual (disch:=omega) only[go_sem,c0,e12,ei]
  rw[List.take_length,hlm,List.take_length] at he
  exact hY _ _ _ H he
 ·rintro env h' τ H hx
  simp +contextual (disch:=omega) only[go_sem,hx,decide_true]
 ·rintro env h' τ H ⟨e4,hx⟩
  simp +contextual (disch:=omega) only[go_sem,e4,hx,decide_false]
theorem slices_Equal_Live_ret (σ:St) (v u:GV) (l m:List Live) (hv:RS pLive.kd σ v l) (hu:RS pLive.kd σ u m) (hl:l.length≤1099511627776):Ret Tryz.prog n_slices_Equal_impl_Live_impl_Live [v,u] σ (.bool (decide (l=m))) σ:=by
 refine ret_xe ir_slices_Equal_impl_Live_impl_Live (Nat.le_of_ble_eq_true rfl) trivial ?_
 by_cases hlm:l.length=m.length
 rotate_left
 ·have b:((l.length:Int) != (m.length:Int))=true:=by simp;omega
  have d:decide (l=m)=false:=decide_eq_false fun h=>hlm (by rw[h])
  simp +contextual (disch:=omega) only[go_sem,F_slices_Equal_impl_Live_impl_Live,hv.len,hu.len,b,d]
  try exact fun _=>rfl
 have b:((l.length:Int) != (m.length:Int))=false:=by simp;omega
 simp +contextual (disch:=omega) only[go_sem,F_slices_Equal_impl_Live_impl_Live,hv.len,hu.len,b]
 refine sx_for l.length 13 0 (fun i env h=>env 0=v∧env 1=u∧env 12=gi l.length∧l.take i=m.take i∧h=[]) (fun env h=>l=m) (fun env h=>env 4= .bool false∧l≠m) _ (Hx.refl σ) (by simp +contextual (disch:=omega) only[go_sem]) ⟨by simp +contextual (disch:=omega) only[go_sem],by simp +contextual (disch:=omega) only[go_sem],by simp +contextual (disch:=omega) only[go_sem],rfl,rfl⟩ ?_ ?_ ?_ ?_
 ·rintro J Y W hJ hY hW i env h' τ hi ei c0 H ⟨e0,e1,e12,he,rfl⟩
  have hj:i<m.length:=by omega
  have L1:=Live_at hv hi
  have L2:=Live_at hu hj
  by_cases hx:l[i]=m[i]
  ·have b:decide (l[i]=m[i])=true:=decide_eq_true hx
   simp +contextual (disch:=omega) only[go_sem,c0,e0,e1,e12,ei,natOf_nat,L1,L2,b]
   exact hJ _ _ _ _ H ⟨by simp +contextual (disch:=omega) only[go_sem,e0],by simp +contextual (disch:=omega) only[go_sem,e1],by simp +contextual (disch:=omega) only[go_sem,e12],by rw[take_snoc hi,take_snoc hj,he,hx],rfl⟩
  ·have b:decide (l[i]=m[i])=false:=decide_eq_false hx
   simp +contextual (disch:=omega) only[go_sem,c0,e0,e1,e12,ei,natOf_nat,L1,L2,b]
   exact hW _ _ _ H ⟨by simp +contextual (disch:=omega) only[go_sem],fun h=>hx (by subst h;rfl)⟩
 ·rintro Y hY env h' τ ei c0 H ⟨e0,e1,e12,he,rfl⟩
  simp +contextual (disch:=omega) only[go_sem,c0,e12,ei]
  rw[List.take_length,hlm,List.take_length] at he
  exact hY _ _ _ H he
 ·rintro env h' τ H hx
  simp +contextual (disch:=omega) only[go_sem,hx,decide_true]
 ·rintro env h' τ H ⟨e4,hx⟩
  simp +contextual (disch:=omega) only[go_sem,e4,hx,decide_false]
theorem slices_Equal_Dot_ret (σ:St) (v u:GV) (l m:List Dot) (hv:RS pDot.kd σ v l) (hu:RS pDot.kd σ u m) (hl:l.length≤1099511627776):Ret Tryz.prog n_slices_Equal_impl_Dot_impl_Dot [v,u] σ (.bool (decide (l=m))) σ:=by
 refine ret_xe ir_slices_Equal_impl_Dot_impl_Dot (Nat.le_of_ble_eq_true rfl) trivial ?_
 by_cases hlm:l.length=m.length
 rotate_left
 ·have b:((l.length:Int) != (m.length:Int))=true:=by simp;omega
  have d:decide (l=m)=false:=decide_eq_false fun h=>hlm (by rw[h])
  simp +contextual (disch:=omega) only[go_sem,F_slices_Equal_impl_Dot_impl_Dot,hv.len,hu.len,b,d]
  try exact fun _=>rfl
 have b:((l.length:Int) != (m.length:Int))=false:=by simp;omega
 simp +contextual (disch:=omega) only[go_sem,F_slices_Equal_impl_Dot_impl_Dot,hv.len,hu.len,b]
 refine sx_for l.length 13 0 (fun i env h=>env 0=v∧env 1=u∧env 12=gi l.length∧l.take i=m.take i∧h=[]) (fun env h=>l=m) (fun env h=>env 4= .bool false∧l≠m) _ (Hx.refl σ) (by simp +contextual (disch:=omega) only[go_sem]) ⟨by simp +contextual (disch:=omega) only[go_sem],by simp +contextual (disch:=omega) only[go_sem],by simp +contextual (disch:=omega) only[go_sem],rfl,rfl⟩ ?_ ?_ ?_ ?_
 ·rintro J Y W hJ hY hW i env h' τ hi ei c0 H ⟨e0,e1,e12,he,rfl⟩
  have hj:i<m.length:=by omega
  have L1:=Dot_at hv hi
  have L2:=Dot_at hu hj
  by_cases hx:l[i]=m[i]
  ·have b:decide (l[i]=m[i])=true:=decide_eq_true hx
   simp +contextual (disch:=omega) only[go_sem,c0,e0,e1,e12,ei,natOf_nat,L1,L2,b]
   exact hJ _ _ _ _ H ⟨by simp +contextual (disch:=omega) only[go_sem,e0],by simp +contextual (disch:=omega) only[go_sem,e1],by simp +contextual (disch:=omega) only[go_sem,e12],by rw[take_snoc hi,take_snoc hj,he,hx],rfl⟩
  ·have b:decide (l[i]=m[i])=false:=decide_eq_false hx
   simp +contextual (disch:=omega) only[go_sem,c0,e0,e1,e12,ei,natOf_nat,L1,L2,b]
   exact hW _ _ _ H ⟨by simp +contextual (disch:=omega) only[go_sem],fun h=>hx (by subst h;rfl)⟩
 ·rintro Y hY env h' τ ei c0 H ⟨e0,e1,e12,he,rfl⟩
  simp +contextual (disch:=omega) only[go_sem,c0,e12,ei]
  rw[List.take_length,hlm,List.take_length] at he
  exact hY _ _ _ H he
 ·rintro env h' τ H hx
  simp +contextual (disch:=omega) only[go_sem,hx,decide_true]
 ·rintro env h' τ H ⟨e4,hx⟩
  simp +contextual (disch:=omega) only[go_sem,e4,hx,decide_false]
theorem slices_Equal_Cell_ret (σ:St) (v u:GV) (l m:List Cell) (hv:RS pCell.kd σ v l) (hu:RS pCell.kd σ u m) (hl:l.length≤1099511627776):Ret Tryz.prog n_slices_Equal_impl_Cell_impl_Cell [v,u] σ (.bool (decide (l=m))) σ:=by
 refine ret_xe ir_slices_Equal_impl_Cell_impl_Cell (Nat.le_of_ble_eq_true rfl) trivial ?_
 by_cases hlm:l.length=m.length
 rotate_left
 ·have b:((l.length:Int) != (m.length:Int))=true:=by simp;omega
  have d:decide (l=m)=false:=decide_eq_false fun h=>hlm (by rw[h])
  simp +contextual (disch:=omega) only[go_sem,F_slices_Equal_impl_Cell_impl_Cell,hv.len,hu.len,b,d]
  try exact fun _=>rfl
 have b:((l.length:Int) != (m.length:Int))=false:=by simp;omega
 simp +contextual (disch:=omega) only[go_sem,F_slices_Equal_impl_Cell_impl_Cell,hv.len,hu.len,b]
 refine sx_for l.length 13 0 (fun i env h=>env 0=v∧env 1=u∧env 12=gi l.length∧l.take i=m.take i∧h=[]) (fun env h=>l=m) (fun env h=>env 4= .bool false∧l≠m) _ (Hx.refl σ) (by simp +contextual (disch:=omega) only[go_sem]) ⟨by simp +contextual (disch:=omega) only[go_sem],by simp +contextual (disch:=omega) only[go_sem],by simp +contextual (disch:=omega) only[go_sem],rfl,rfl⟩ ?_ ?_ ?_ ?_
 ·rintro J Y W hJ hY hW i env h' τ hi ei c0 H ⟨e0,e1,e12,he,rfl⟩
  have hj:i<m.length:=by omega
  have L1:=Cell_at hv hi
  have L2:=Cell_at hu hj
  by_cases hx:l[i]=m[i]
  ·have b:decide (l[i]=m[i])=true:=decide_eq_true hx
   simp +contextual (disch:=omega) only[go_sem,c0,e0,e1,e12,ei,natOf_nat,L1,L2,b]
   exact hJ _ _ _ _ H ⟨by simp +contextual (disch:=omega) only[go_sem,e0],by simp +contextual (disch:=omega) only[go_sem,e1],by simp +contextual (disch:=omega) only[go_sem,e12],by rw[take_snoc hi,take_snoc hj,he,hx],rfl⟩
  ·have b:decide (l[i]=m[i])=false:=decide_eq_false hx
   simp +contextual (disch:=omega) only[go_sem,c0,e0,e1,e12,ei,natOf_nat,L1,L2,b]
   exact hW _ _ _ H ⟨by simp +contextual (disch:=omega) only[go_sem],fun h=>hx (by subst h;rfl)⟩
 ·rintro Y hY env h' τ ei c0 H ⟨e0,e1,e12,he,rfl⟩
  simp +contextual (disch:=omega) only[go_sem,c0,e12,ei]
  rw[List.take_length,hlm,List.take_length] at he
  exact hY _ _ _ H he
 ·rintro env h' τ H hx
  simp +contextual (disch:=omega) only[go_sem,hx,decide_true]
 ·rintro env h' τ H ⟨e4,hx⟩
  simp +contextual (disch:=omega) only[go_sem,e4,hx,decide_false]
def sameAct (a b:Act):Bool:=decide (a.dot=b.dot)&&(a.time==b.time&&(decide (a.knew=b.knew)&&(a.kind==b.kind&&(decide (a.obj=b.obj)&&(decide (a.key=b.key)&&(a.val==b.val&&decide (a.ref=b.ref)))))))
def noAct (a:Act):Bool:=decide (a.dot=⟨0,0⟩)&&(a.time==0&&(a.knew.isEmpty&&(a.kind==0&&(decide (a.obj=⟨#[]⟩)&&(decide (a.key=⟨#[]⟩)&&(a.val==0&&decide (a.ref=⟨0,0⟩)))))))
abbrev delta0:Delta:=⟨[],[],[],[],[],[]⟩
def noDelta (d:Delta):Bool:=d.base.isEmpty&&(d.know.isEmpty&&(d.tallies.isEmpty&&(d.lives.isEmpty&&(d.dead.isEmpty&&d.cells.isEmpty))))
def sameDelta (a b:Delta):Bool:=decide (a.base=b.base)&&(decide (a.know=b.know)&&(decide (a.tallies=b.tallies)&&(decide (a.lives=b.lives)&&(decide (a.dead=b.dead)&&decide (a.cells=b.cells)))))
def unitOk (u:Unit_):Bool:=if u.batch then deltaOk u.delta&&noAct u.act else actOk u.act&&noDelta u.delta
theorem len0 {α:Type} (l:List α):((l.length:Int)==0)=l.isEmpty:=by cases l<;>simp;omega
theorem isE {α:Type} (l:List α) {i:Decidable (l=[])}: @decide (l=[]) i=l.isEmpty:=by cases l<;>simp
theorem noDelta_eq (d:Delta):sameDelta d delta0=noDelta d:=by
 simp only[noDelta,delta0,sameDelta,isE]
theorem s_l13NoDelta_ret (σ:St) (cs:List GV) (d:Delta) (hR:kDelta.R σ d cs):Ret Tryz.prog n_s_l13NoDelta [.agg cs] σ (.bool (noDelta d)) σ:=by
 obtain⟨v0,v1,v2,v3,v4,v5,rfl,q0,q1,q2,q3,q4,q5⟩:=hR
 refine ret_xe ir_s_l13NoDelta (Nat.le_of_ble_eq_true rfl) trivial ?_
 unfold noDelta
 simp +contextual (disch:=omega) only[go_sem,F_s_l13NoDelta]
 intro n f τ H
 simp +contextual (disch:=omega) only[go_sem,q0.len,q1.len,q2.len,q3.len,q4.len,q5.len,len0]
 cases h0:d.base.isEmpty with
 |false=>
  simp +contextual (disch:=omega) only[go_sem,Bool.false_and,q0.len,q1.len,q2.len,q3.len,q4.len,q5.len,len0]
  try exact fun _=>rfl
 |true=>
  simp +contextual (disch:=omega) only[go_sem,Bool.true_and,q0.len,q1.len,q2.len,q3.len,q4.len,q5.len,len0]
  cases h1:d.know.isEmpty with
  |false=>
   simp +contextual (disch:=omega) only[go_sem,Bool.false_and,q0.len,q1.len,q2.len,q3.len,q4.len,q5.len,len0]
   try exact fun _=>rfl
  |true=>
   simp +contextual (disch:=omega) only[go_sem,Bool.true_and,q0.len,q1.len,q2.len,q3.len,q4.len,q5.len,len0]
   cases h2:d.tallies.isEmpty with
   |false=>
    simp +contextual (disch:=omega) only[go_sem,Bool.false_and,q0.len,q1.len,q2.len,q3.len,q4.len,q5.len,len0]
    try exact fun _=>rfl
   |true=>
    simp +contextual (disch:=omega) only[go_sem,Bool.true_and,q0.len,q1.len,q2.len,q3.len,q4.len,q5.len,len0]
    cases h3:d.lives.isEmpty with
    |false=>
     simp +contextual (disch:=omega) only[go_sem,Bool.false_and,q0.len,q1.len,q2.len,q3.len,q4.len,q5.len,len0]
     try exact fun _=>rfl
    |true=>
     simp +contextual (disch:=omega) only[go_sem,Bool.true_and,q0.len,q1.len,q2.len,q3.len,q4.len,q5.len,len0]
     cases h4:d.dead.isEmpty with
     |false=>
      simp +contextual (disch:=omega) only[go_sem,Bool.false_and,q0.len,q1.len,q2.len,q3.len,q4.len,q5.len,len0]
      try exact fun _=>rfl
     |true=>
      simp +contextual (disch:=omega) only[go_sem,Bool.true_and,q0.len,q1.len,q2.len,q3.len,q4.len,q5.len,len0]
theorem i_sameDelta_ret (σ:St) (cs ds:List GV) (d e:Delta) (hR:kDelta.R σ d cs) (hS:kDelta.R σ e ds) (hl:msDelta d≤1099511627776):Ret Tryz.prog n_i_sameDelta [.agg cs,.agg ds] σ (.bool (sameDelta d e)) σ:=by
 obtain⟨v0,v1,v2,v3,v4,v5,rfl,q0,q1,q2,q3,q4,q5⟩:=hR
 obtain⟨u0,u1,u2,u3,u4,u5,rfl,p0,p1,p2,p3,p4,p5⟩:=hS
 obtain⟨l0,l1,l2,l3,l4,l5,t2,t3,t5⟩:=msDelta_all hl
 refine ret_xe ir_i_sameDelta (Nat.le_of_ble_eq_true rfl) trivial ?_
 unfold sameDelta
 simp +contextual (disch:=omega) only[go_sem,F_i_sameDelta]
 intro n f τ0 _ m g τ H
 have S:=H.sub
 refine by_b H (slices_Equal_int_ret _ v0 u0 _ _ (q0.pre S) (p0.pre S) l0) (fun h0=> ?_) (fun h0=> ?_)
 rotate_left
 ·simp +contextual (disch:=omega) only[go_sem,h0,Bool.false_and]
  try exact fun _=>rfl
 simp +contextual (disch:=omega) only[go_sem,h0,Bool.true_and]
 refine by_b H (slices_Equal_int_ret _ v1 u1 _ _ (q1.pre S) (p1.pre S) l1) (fun h1=> ?_) (fun h1=> ?_)
 rotate_left
 ·simp +contextual (disch:=omega) only[go_sem,h1,Bool.false_and]
  try exact fun _=>rfl
 simp +contextual (disch:=omega) only[go_sem,h1,Bool.true_and]
 refine by_b H (slices_Equal_Tally_ret _ v2 u2 _ _ (q2.pre S) (p2.pre S) l2) (fun h2=> ?_) (fun h2=> ?_)
 rotate_left
 ·simp +contextual (disch:=omega) only[go_sem,h2,Bool.false_and]
  try exact fun _=>rfl
 simp +contextual (disch:=omega) only[go_sem,h2,Bool.true_and]
 refine by_b H (slices_Equal_Live_ret _ v3 u3 _ _ (q3.pre S) (p3.pre S) l3) (fun h3=> ?_) (fun h3=> ?_)
 rotate_left
 ·simp +contextual (disch:=omega) only[go_sem,h3,Bool.false_and]
  try exact fun _=>rfl
 simp +contextual (disch:=omega) only[go_sem,h3,Bool.true_and]
 refine by_b H (slices_Equal_Dot_ret _ v4 u4 _ _ (q4.pre S) (p4.pre S) l4) (fun h4=> ?_) (fun h4=> ?_)
 rotate_left
 ·simp +contextual (disch:=omega) only[go_sem,h4,Bool.false_and]
  try exact fun _=>rfl
 simp +contextual (disch:=omega) only[go_sem,h4,Bool.true_and]
 refine by_r H (slices_Equal_Cell_ret _ v5 u5 _ _ (q5.pre S) (p5.pre S) l5) ?_
 simp +contextual (disch:=omega) only[go_sem]
theorem sameAct0 (a:Act):sameAct a act00=noAct a:=by
 show(decide (a.dot=⟨0,0⟩)&&(a.time==0&&(decide (a.knew=[])&&(a.kind==0&&(decide (a.obj=⟨#[]⟩)&&(decide (a.key=⟨#[]⟩)&&(a.val==0&&decide (a.ref=⟨0,0⟩))))))))=_
 simp only[isE,noAct]
theorem s_l13NoAct_ret (σ:St) (cs:List GV) (a:Act) (hR:kAct.R σ a cs):Ret Tryz.prog n_s_l13NoAct [.agg cs] σ (.bool (noAct a)) σ:=by
 obtain⟨v,rfl,q⟩:=hR
 refine ret_xe ir_s_l13NoAct (Nat.le_of_ble_eq_true rfl) trivial ?_
 unfold noAct
 simp +contextual (disch:=omega) only[go_sem,F_s_l13NoAct]
 intro n f τ H
 cases h0:decide (a.dot=⟨0,0⟩) with
 |false=>
  simp +contextual (disch:=omega) only[go_sem,Bool.false_and,q.len,len0]
  try exact fun _=>rfl
 |true=>
  simp +contextual (disch:=omega) only[go_sem,Bool.true_and,q.len,len0]
  cases h1:a.time==0 with
  |false=>
   simp +contextual (disch:=omega) only[go_sem,Bool.false_and,q.len,len0]
   try exact fun _=>rfl
  |true=>
   simp +contextual (disch:=omega) only[go_sem,Bool.true_and,q.len,len0]
   cases h2:a.knew.isEmpty with
   |false=>
    simp +contextual (disch:=omega) only[go_sem,Bool.false_and,q.len,len0]
    try exact fun _=>rfl
   |true=>
    simp +contextual (disch:=omega) only[go_sem,Bool.true_and,q.len,len0]
    cases h3:a.kind==0 with
    |false=>
     simp +contextual (disch:=omega) only[go_sem,Bool.false_and,q.len,len0]
     try exact fun _=>rfl
    |true=>
     simp +contextual (disch:=omega) only[go_sem,Bool.true_and,q.len,len0]
     cases h4:decide (a.obj=⟨#[]⟩) with
     |false=>
      simp +contextual (disch:=omega) only[go_sem,Bool.false_and,q.len,len0]
      try exact fun _=>rfl
     |true=>
      simp +contextual (disch:=omega) only[go_sem,Bool.true_and,q.len,len0]
      cases h5:decide (a.key=⟨#[]⟩) with
      |false=>
       simp +contextual (disch:=omega) only[go_sem,Bool.false_and,q.len,len0]
       try exact fun _=>rfl
      |true=>
       simp +contextual (disch:=omega) only[go_sem,Bool.true_and,q.len,len0]
       cases h6:a.val==0 with
       |false=>
        simp +contextual (disch:=omega) only[go_sem,Bool.false_and,q.len,len0]
        try exact fun _=>rfl
       |true=>
        simp +contextual (disch:=omega) only[go_sem,Bool.true_and,q.len,len0]
set_option maxHeartbeats 1000000 in
theorem i_SameAct_ret (σ:St) (cs ds:List GV) (a b:Act) (hR:kAct.R σ a cs) (hS:kAct.R σ b ds) (hl:a.knew.length≤1099511627776):Ret Tryz.prog n_i_SameAct [.agg cs,.agg ds] σ (.bool (sameAct a b)) σ:=by
 obtain⟨v,rfl,q⟩:=hR
 obtain⟨u,rfl,p⟩:=hS
 refine ret_xe ir_i_SameAct (Nat.le_of_ble_eq_true rfl) trivial ?_
 unfold sameAct
 simp +contextual (disch:=omega) only[go_sem,F_i_SameAct]
 intro n f τ0 _ m g τ H
 have S:=H.sub
 cases h0:decide (a.dot=b.dot) with
 |false=>
  simp +contextual (disch:=omega) only[go_sem,Bool.false_and]
  try exact fun _=>rfl
 |true=>
  simp +contextual (disch:=omega) only[go_sem,Bool.true_and]
  cases h1:a.time==b.time with
  |false=>
   simp +contextual (disch:=omega) only[go_sem,Bool.false_and]
   try exact fun _=>rfl
  |true=>
   simp +contextual (disch:=omega) only[go_sem,Bool.true_and]
   refine by_b H (slices_Equal_int_ret _ v u _ _ (q.pre S) (p.pre S) hl) (fun k1=> ?_) (fun k1=> ?_)
   rotate_left
   ·simp +contextual (disch:=omega) only[go_sem,k1,Bool.false_and]
    try exact fun _=>rfl
   simp +contextual (disch:=omega) only[go_sem,k1,Bool.true_and]
   cases h0:a.kind==b.kind with
   |false=>
    simp +contextual (disch:=omega) only[go_sem,Bool.false_and]
    try exact fun _=>rfl
   |true=>
    simp +contextual (disch:=omega) only[go_sem,Bool.true_and]
    cases h1:decide (a.obj=b.obj) with
    |false=>
     simp +contextual (disch:=omega) only[go_sem,Bool.false_and]
     try exact fun _=>rfl
    |true=>
     simp +contextual (disch:=omega) only[go_sem,Bool.true_and]
     cases h2:decide (a.key=b.key) with
     |false=>
      simp +contextual (disch:=omega) only[go_sem,Bool.false_and]
      try exact fun _=>rfl
     |true=>
      simp +contextual (disch:=omega) only[go_sem,Bool.true_and]
      cases h3:a.val==b.val with
      |false=>
       simp +contextual (disch:=omega) only[go_sem,Bool.false_and]
       try exact fun _=>rfl
      |true=>
       simp +contextual (disch:=omega) only[go_sem,Bool.true_and]
abbrev unV (x:Unit_) (kv d0 d1 d2 d3 d4 d5:GV):List GV:=[.bool x.batch,.int .i64 x.act.dot.rep,.int .i64 x.act.dot.seq,.int .i64 x.act.time,kv,.int .i64 x.act.kind,.str x.act.obj,.str x.act.key,.int .i64 x.act.val,.int .i64 x.act.ref.rep,.int .i64 x.act.ref.seq,d0,d1,d2,d3,d4,d5]
theorem unit_cells {σ:St} {x:Unit_} {cs:List GV} (h:kUnit_.R σ x cs):∃ kv d0 d1 d2 d3 d4 d5,cs=unV x kv d0 d1 d2 d3 d4 d5∧kAct.R σ x.act (actV x.act kv)∧kDelta.R σ x.delta [d0,d1,d2,d3,d4,d5]:=by
 obtain⟨v1,v2,rfl,hA,hD⟩:=h
 have hA0:=hA
 have hD0:=hD
 obtain⟨kv,rfl,_⟩:=hA
 obtain⟨d0,d1,d2,d3,d4,d5,rfl,_⟩:=hD
 exact⟨kv,d0,d1,d2,d3,d4,d5,rfl,hA0,hD0⟩
theorem act0_R (σ:St):kAct.R σ act00 zeA:=kAct.rd (act0_own σ)
theorem delta0_R (σ:St):kDelta.R σ delta0 zeD:=kDelta.rd (delta0_own σ)
theorem s_l13Unit_ret (σ:St) (cs:List GV) (x:Unit_) (hR:kUnit_.R σ x cs) (hl:msUnit x≤1073741824):Ret Tryz.prog n_s_l13Unit [.agg cs] σ (.bool (unitOk x)) σ:=by
 obtain⟨kv,d0,d1,d2,d3,d4,d5,rfl,hA,hD⟩:=unit_cells hR
 have hma:msAct x.act≤1073741824∧msDelta x.delta≤1073741824:=by unfold msUnit at hl;omega
 refine ret_xe ir_s_l13Unit (Nat.le_of_ble_eq_true rfl) trivial ?_
 cases hb:x.batch with
 |true=>
  have hu:unitOk x=(deltaOk x.delta&&noAct x.act):=by unfold unitOk;rw[if_pos hb]
  rw[hu]
  simp +contextual (disch:=omega) only[go_sem,F_s_l13Unit,hb]
  intro n f τ H
  refine by_b H (s_DeltaOk_ret _ _ _ (kDelta.pre hD H.sub) (by omega)) (fun h1=> ?_) (fun h1=> ?_)
  rotate_left
  ·simp +contextual (disch:=omega) only[go_sem,h1,Bool.false_and]
  simp +contextual (disch:=omega) only[go_sem]
  refine by_r H (s_l13NoAct_ret _ _ _ (kAct.pre hA H.sub)) ?_
  simp +contextual (disch:=omega) only[go_sem,h1,Bool.true_and]
 |false=>
  have hu:unitOk x=(actOk x.act&&noDelta x.delta):=by unfold unitOk;rw[if_neg (by simp[hb])]
  rw[hu]
  simp +contextual (disch:=omega) only[go_sem,F_s_l13Unit,hb]
  intro n f τ H
  refine by_b H (s_ActOk_ret _ _ _ (kAct.pre hA H.sub) (by omega)) (fun h1=> ?_) (fun h1=> ?_)
  rotate_left
  ·simp +contextual (disch:=omega) only[go_sem,h1,Bool.false_and]
  simp +contextual (disch:=omega) only[go_sem]
  refine by_r H (s_l13NoDelta_ret _ _ _ (kDelta.pre hD H.sub)) ?_
  simp +contextual (disch:=omega) only[go_sem,h1,Bool.true_and]
theorem i_unitOk_ret (σ:St) (cs:List GV) (x:Unit_) (hR:kUnit_.R σ x cs) (hl:msUnit x≤1073741824):Ret Tryz.prog n_i_unitOk [.agg cs] σ (.bool (unitOk x)) σ:=by
 obtain⟨kv,d0,d1,d2,d3,d4,d5,rfl,hA,hD⟩:=unit_cells hR
 have hma:msAct x.act≤1073741824∧msDelta x.delta≤1073741824:=by unfold msUnit at hl;omega
 refine ret_xe ir_i_unitOk (Nat.le_of_ble_eq_true rfl) trivial ?_
 cases hb:x.batch with
 |true=>
  have hu:unitOk x=(deltaOk x.delta&&noAct x.act):=by unfold unitOk;rw[if_pos hb]
  rw[hu]
  simp +contextual (disch:=omega) only[go_sem,F_i_unitOk,hb]
  intro n f τ H
  refine by_b H (i_DeltaOk_ret _ _ _ (kDelta.pre hD H.sub) (by omega)) (fun h1=> ?_) (fun h1=> ?_)
  rotate_left
  ·simp +contextual (disch:=omega) only[go_sem,h1,Bool.false_and]
  simp +contextual (disch:=omega) only[go_sem]
  refine by_r H (i_SameAct_ret _ _ _ _ _ (kAct.pre hA H.sub) (act0_R _) (by have:=hma.1;unfold msAct at this;omega)) ?_
  simp +contextual (disch:=omega) only[go_sem,h1,Bool.true_and,sameAct0]
 |false=>
  have hu:unitOk x=(actOk x.act&&noDelta x.delta):=by unfold unitOk;rw[if_neg (by simp[hb])]
  rw[hu]
  simp +contextual (disch:=omega) only[go_sem,F_i_unitOk,hb]
  intro n f τ H
  refine by_b H (i_ActOk_ret _ _ _ (kAct.pre hA H.sub) (by omega)) (fun h1=> ?_) (fun h1=> ?_)
  rotate_left
  ·simp +contextual (disch:=omega) only[go_sem,h1,Bool.false_and]
  simp +contextual (disch:=omega) only[go_sem]
  refine by_r H (i_sameDelta_ret _ _ _ _ _ (kDelta.pre hD H.sub) (delta0_R _) (by omega)) ?_
  simp +contextual (disch:=omega) only[go_sem,h1,Bool.true_and,noDelta_eq]
end Go.Proofs.YtbeoiejnogdkpaaGreat.Sy
namespace Go.Proofs.YtbeoiejnogdkpaaGreat.Sy
open Go Go.RowKit
set_option linter.unusedSimpArgs false
set_option linter.unusedVariables false
set_option maxRecDepth 4000
abbrev n_s_l05Copy:Nat:=211
def F_s_l05Copy:Fn1:=⟨11,[.c 2 true 10],(.seq (.reg [o 1 (.box (.t 0)),o 2 (.new [(.int .i64 0),(.int .i64 0),(.int .i64 0),.nilS,(.int .i64 0),(.str ⟨#[]⟩),(.str ⟨#[]⟩),(.int .i64 0),(.int .i64 0),(.int .i64 0)])]) (.seq (.reg [o 4 (.ld true 10 (.t 1)),o 3 (.new [(.int .i64 0),(.int .i64 0),(.int .i64 0),.nilS,(.int .i64 0),(.str ⟨#[]⟩),(.str ⟨#[]⟩),(.int .i64 0),(.int .i64 0),(.int .i64 0)]),on (.st 10 (.t 3) (.t 4))]) (.seq (.reg [o 5 (.lit 1 0 [] []),o 6 (.fad 3 (.t 1)),o 7 (.ld false 1 (.t 6)),o 8 (.app 1 8 [(.int .i64 0)] (.t 5) (.t 7)),o 9 (.fad 3 (.t 3)),on (.st 1 (.t 9) (.t 8))]) (.seq (.reg [o 10 (.ld true 10 (.t 3)),on (.st 10 (.t 2) (.t 10))]) .ret))))⟩
theorem ir_s_l05Copy:compFn Tryz.prog n_s_l05Copy=some F_s_l05Copy:=by kernel_rfl
abbrev n_i_copyAct:Nat:=194
def F_i_copyAct:Fn1:=⟨8,[.c 2 true 10],(.seq (.reg [o 1 (.box (.t 0)),o 2 (.new [(.int .i64 0),(.int .i64 0),(.int .i64 0),.nilS,(.int .i64 0),(.str ⟨#[]⟩),(.str ⟨#[]⟩),(.int .i64 0),(.int .i64 0),(.int .i64 0)])]) (.seq (.reg [o 3 (.fad 3 (.t 1)),o 4 (.ld false 1 (.t 3)),o 5 (.call 182 [(.t 4)]),o 6 (.fad 3 (.t 1)),on (.st 1 (.t 6) (.t 5))]) (.seq (.reg [o 7 (.ld true 10 (.t 1)),on (.st 10 (.t 2) (.t 7))]) .ret)))⟩
theorem ir_i_copyAct:compFn Tryz.prog n_i_copyAct=some F_i_copyAct:=by kernel_rfl
abbrev n_s_ActsBy:Nat:=80
def F_s_ActsBy:Fn1:=⟨48,[.t 4],(.seq (.reg [o 4 (.mov (.k .nilS))]) (.seq (.reg [o 7 (.lit 10 0 [] []),o 5 (.mov (.t 7))]) (.seq (.seq (.reg [o 6 (.mov (.k (.int .i64 0)))]) (.blk 0 (.lop (.seq (.seq (.reg [o 8 (.mov (.t 6)),o 9 (.mov (.t 0)),o 10 (.len false (.t 9)),o 11 (.bin .lss (.t 8) (.t 10))]) (.cnd (.t 11) .skip (.ext 0))) (.seq (.blk 1 (.seq (.reg [o 14 (.mov (.t 0)),o 15 (.mov (.t 6)),o 16 (.iad 17 (.t 14) (.t 15)),o 17 (.fad 0 (.t 16)),o 18 (.ld false 1 (.t 17)),o 19 (.un .not (.t 18)),o 20 (.mov (.t 19)),og 21 20 true (.mov (.t 0)),og 22 20 true (.mov (.t 6)),og 23 20 true (.iad 17 (.t 21) (.t 22)),og 24 20 true (.ld true 17 (.t 23)),og 25 20 true (.call 97 [(.t 24)]),o 26 (.pick (.t 20) (.t 25) (.k (.bool false))),o 27 (.mov (.t 26)),og 28 27 true (.mov (.t 0)),og 29 27 true (.mov (.t 6)),og 30 27 true (.iad 17 (.t 28) (.t 29)),og 31 27 true (.fad 1 (.t 30)),og 32 27 true (.fad 0 (.t 31)),og 33 27 true (.fad 0 (.t 32)),og 34 27 true (.ld false 1 (.t 33)),og 35 27 true (.mov (.t 1)),og 36 27 true (.bin .eql (.t 34) (.t 35)),o 37 (.pick (.t 27) (.t 36) (.k (.bool false)))]) (.cnd (.t 37) (.reg [o 38 (.mov (.t 5)),o 39 (.mov (.t 0)),o 40 (.mov (.t 6)),o 41 (.iad 17 (.t 39) (.t 40)),o 42 (.fad 1 (.t 41)),o 43 (.ld true 10 (.t 42)),o 44 (.call 211 [(.t 43)]),o 45 (.lit 10 1 [(.int .i64 0),(.int .i64 0),(.int .i64 0),.nilS,(.int .i64 0),(.str ⟨#[]⟩),(.str ⟨#[]⟩),(.int .i64 0),(.int .i64 0),(.int .i64 0)] [(0,10,(.t 44))]),o 46 (.app 10 112 [(.int .i64 0),(.int .i64 0),(.int .i64 0),.nilS,(.int .i64 0),(.str ⟨#[]⟩),(.str ⟨#[]⟩),(.int .i64 0),(.int .i64 0),(.int .i64 0)] (.t 38) (.t 45)),o 5 (.mov (.t 46))]) .skip))) (.reg [o 12 (.mov (.t 6)),o 13 (.bin .add (.t 12) (.k (.int .i64 1))),o 6 (.mov (.t 13))])))))) (.seq (.reg [o 47 (.mov (.t 5)),o 4 (.mov (.t 47))]) .ret))))⟩
abbrev n_i_ActsBy:Nat:=68
def F_i_ActsBy:Fn1:=⟨38,[.t 4],(.seq (.reg [o 4 (.mov (.k .nilS))]) (.seq (.reg [o 8 (.lit 10 0 [] []),o 5 (.mov (.t 8))]) (.seq (.seq (.reg [o 9 (.mov (.t 0)),o 10 (.len false (.t 9)),o 11 (.mov (.k (.int .i64 0)))]) (.blk 0 (.lop (.seq (.reg [o 12 (.bin .lss (.t 11) (.t 10))]) (.seq (.cnd (.t 12) .skip (.ext 0)) (.seq (.blk 1 (.seq (.reg [o 13 (.iad 17 (.t 9) (.t 11)),o 14 (.ld true 17 (.t 13)),o 7 (.new [(.bool false),(.int .i64 0),(.int .i64 0),(.int .i64 0),.nilS,(.int .i64 0),(.str ⟨#[]⟩),(.str ⟨#[]⟩),(.int .i64 0),(.int .i64 0),(.int .i64 0),.nilS,.nilS,.nilS,.nilS,.nilS,.nilS]),on (.st 17 (.t 7) (.t 14))]) (.seq (.reg [o 15 (.ld true 17 (.t 7)),o 16 (.call 101 [(.t 15)]),o 17 (.mov (.t 16)),og 18 17 true (.fad 0 (.t 7)),og 19 17 true (.ld false 1 (.t 18)),og 20 17 true (.un .not (.t 19)),o 21 (.pick (.t 17) (.t 20) (.k (.bool false))),o 22 (.mov (.t 21)),og 23 22 true (.fad 1 (.t 7)),og 24 22 true (.fad 0 (.t 23)),og 25 22 true (.fad 0 (.t 24)),og 26 22 true (.ld false 1 (.t 25)),og 27 22 true (.mov (.t 1)),og 28 22 true (.bin .eql (.t 26) (.t 27)),o 29 (.pick (.t 22) (.t 28) (.k (.bool false)))]) (.cnd (.t 29) (.reg [o 30 (.mov (.t 5)),o 31 (.fad 1 (.t 7)),o 32 (.ld true 10 (.t 31)),o 33 (.call 194 [(.t 32)]),o 34 (.lit 10 1 [(.int .i64 0),(.int .i64 0),(.int .i64 0),.nilS,(.int .i64 0),(.str ⟨#[]⟩),(.str ⟨#[]⟩),(.int .i64 0),(.int .i64 0),(.int .i64 0)] [(0,10,(.t 33))]),o 35 (.app 10 112 [(.int .i64 0),(.int .i64 0),(.int .i64 0),.nilS,(.int .i64 0),(.str ⟨#[]⟩),(.str ⟨#[]⟩),(.int .i64 0),(.int .i64 0),(.int .i64 0)] (.t 30) (.t 34)),o 5 (.mov (.t 35))]) .skip)))) (.reg [o 36 (.bin .add (.t 11) (.k (.int .i64 1))),o 11 (.mov (.t 36))]))))))) (.seq (.reg [o 37 (.mov (.t 5)),o 4 (.mov (.t 37))]) .ret))))⟩
theorem s_l05Copy_ret (σ:St) (cs:List GV) (x:Act) (hR:kAct.R σ x cs) (hl:x.knew.length≤1099511627776):∃ r τ,Ret Tryz.prog n_s_l05Copy [.agg cs] σ (.agg r) τ∧Hp σ τ [own kAct r x]:=by
 obtain⟨v,rfl,q⟩:=hR
 have key:∃ w τ,Ret Tryz.prog n_s_l05Copy [.agg (actV x v)] σ w τ∧∃ r,w= .agg r∧Hp σ τ [own kAct r x]:=by
  refine ret_x ir_s_l05Copy (Nat.le_of_ble_eq_true rfl) (Hx.refl σ) ?_
  simp +contextual (disch:=omega) only[go_sem,F_s_l05Copy]
  intro n1 f1 τ1 H1 n2 f2 τ2 H2 n3 f3 τ3 _ τ4 _ n4 f4 τ5 H5
  refine by_cp (p:=pI) H5 (q.pre H5.sub) (by decide) (by omega) fun w τ6 H6=> ?_
  have cw:=(H6.hp.sl 0 rfl).cell
  simp +contextual (disch:=omega) only[go_sem,cw]
  intro τ7 _ τ8 H8
  exact⟨_,rfl,_,rfl,Hp.ownAct (x:=x) (H8.sel [0] (by decide))⟩
 obtain⟨q,τ,R,r,rfl,h⟩:=key
 exact⟨r,τ,R,h⟩
theorem i_copyAct_ret (σ:St) (cs:List GV) (x:Act) (hR:kAct.R σ x cs) (hl:x.knew.length≤1099511627776):∃ r τ,Ret Tryz.prog n_i_copyAct [.agg cs] σ (.agg r) τ∧Hp σ τ [own kAct r x]:=by
 obtain⟨v,rfl,q⟩:=hR
 have key:∃ w τ,Ret Tryz.prog n_i_copyAct [.agg (actV x v)] σ w τ∧∃ r,w= .agg r∧Hp σ τ [own kAct r x]:=by
  refine ret_x ir_i_copyAct (Nat.le_of_ble_eq_true rfl) (Hx.refl σ) ?_
  simp +contextual (disch:=omega) only[go_sem,F_i_copyAct]
  intro n1 f1 τ1 H1 n2 f2 τ2 H2
  obtain⟨w,τ3,R3,K3⟩:=i_copyInts_ret τ2 v _ (q.pre H2.sub) hl
  refine by_c H2 R3 K3 fun H3=> ?_
  have cw:=(H3.hp.sl 0 rfl).cell
  simp +contextual (disch:=omega) only[go_sem,cw]
  intro τ4 _ τ5 H5
  exact⟨_,rfl,_,rfl,Hp.ownAct (x:=x) (H5.sel [0] (by decide))⟩
 obtain⟨q,τ,R,r,rfl,h⟩:=key
 exact⟨r,τ,R,h⟩
def byRep (r:Int) (u:Unit_):Bool:=unitOk u&&(!u.batch&&u.act.dot.rep==r)
def actsBy (us:List Unit_) (r:Int):List Act:=(us.filter (byRep r)).map (·.act)
theorem unit_row {σ:St} {v:GV} {l:List Unit_} (h:RS kUnit_ σ v l) {i:Nat} (hi:i<l.length):∃ kv d0 d1 d2 d3 d4 d5,(iadG 17 v (some i)=some (atz 17 v i)∧(∀ k,fadG k (atz 17 v i)=some (fld k (atz 17 v i)))∧(∀ k m,fadG k (fld m (atz 17 v i))=some (fld (m+k) (atz 17 v i)))∧ldG true 17 σ (atz 17 v i)=some (.agg (unV l[i] kv d0 d1 d2 d3 d4 d5))∧ldG false 1 σ (fld 0 (atz 17 v i))=some (.bool l[i].batch)∧ldG false 1 σ (fld 1 (atz 17 v i))=some (gi l[i].act.dot.rep)∧ldG true 10 σ (fld 1 (atz 17 v i))=some (.agg (actV l[i].act kv)))∧kUnit_.R σ l[i] (unV l[i] kv d0 d1 d2 d3 d4 d5)∧kAct.R σ l[i].act (actV l[i].act kv)∧kDelta.R σ l[i].delta [d0,d1,d2,d3,d4,d5]:=by
 obtain⟨cs,⟨h1,h2,h3,h4,h5⟩,h6⟩:=RdN.cellsN h hi
 obtain⟨kv,d0,d1,d2,d3,d4,d5,rfl,hA,hD⟩:=unit_cells h6
 exact⟨kv,d0,d1,d2,d3,d4,d5,⟨h1,h2,h3,h4,h5 0 1 false (by decide),h5 1 1 false (by decide),h5 1 10 true (by decide)⟩,h6,hA,hD⟩
end Go.Proofs.YtbeoiejnogdkpaaGreat.Sy
namespace Go.Proofs.YtbeoiejnogdkpaaGreat.Sy
open Go Go.RowKit
set_option linter.unusedSimpArgs false
set_option linter.unusedVariables false
set_option maxRecDepth 4000
section
variable {α:Type} {f:Int→α→α} {c:α→Nat}
def mkRow (f:Int→α→α) (c:α→Nat):Int→List α→List α
 |_,[]=>[]
 |k,x::l=>f k x::mkRow f c (k+c x) l
theorem mkRow_len:∀ {l:List α} {k:Int},(mkRow f c k l).length=l.length
 |[],_=>rfl
 |x::l,k=>by rw[mkRow,List.length_cons,List.length_cons,mkRow_len]
theorem mkRow_app:∀ {a b:List α} {k:Int},mkRow f c k (a++b)=mkRow f c k a++mkRow f c (k+(sumL c a:Nat)) b
 |[],b,k=>by simp[mkRow,sumL]
 |x::a,b,k=>by
  rw[List.cons_append,mkRow,mkRow,mkRow_app,List.cons_append]
  have:sumL c (x::a)=c x+sumL c a:=by simp[sumL]
  rw[this,show k+(c x:Int)+(sumL c a:Nat)=k+((c x+sumL c a:Nat):Int) by omega]
theorem mkRow_snoc {l:List α} {i:Nat} {k:Int} (hi:i<l.length):mkRow f c k (l.take (i+1))=mkRow f c k (l.take i)++[f (k+(sumL c (l.take i):Nat)) l[i]]:=by
 rw[take_snoc hi,mkRow_app];rfl
theorem mkRow_set {l:List α} {i:Nat} {k:Int} (hi:i<l.length) {y:α} (hy:y=f (k+(sumL c (l.take i):Nat)) l[i]):(mkRow f c k (l.take i)++l.drop i).set i y=mkRow f c k (l.take (i+1))++l.drop (i+1):=by
 have hl:(mkRow f c k (l.take i)).length=i:=by rw[mkRow_len,List.length_take,Nat.min_eq_left (by omega)]
 rw[mkRow_snoc hi,List.set_append_right _ _ (by omega),hl,Nat.sub_self,←List.getElem_cons_drop hi,List.set_cons_zero,hy,List.append_assoc];rfl
theorem mkRow_at {l:List α} {i:Nat} {k:Int} (hi:i<l.length):∃ h,(mkRow f c k (l.take i)++l.drop i)[i]'h=l[i]:=by
 have hl:(mkRow f c k (l.take i)).length=i:=by rw[mkRow_len,List.length_take,Nat.min_eq_left (by omega)]
 refine⟨by rw[List.length_append,hl,List.length_drop];omega,?_⟩
 rw[List.getElem_append_right (by omega)]
 simp[hl]
theorem mkRow_full {l:List α} {k:Int}:mkRow f c k (l.take l.length)++l.drop l.length=mkRow f c k l:=by
 rw[List.take_length,List.drop_length,List.append_nil]
theorem len_sumL (hc:∀ x,1≤c x):∀ l:List α,l.length≤sumL c l
 |[]=>by simp
 |x::l=>by
  have:=hc x
  have h:=len_sumL hc l
  have:sumL c (x::l)=c x+sumL c l:=by simp[sumL]
  rw[List.length_cons];omega
end
def ctE (x:Act):Nat:=9+x.knew.length
def kE (k:Int) (x:Act):Int:=k+1+1+1+1*(x.knew.length:Int)
def mActE (k:Int) (x:Act):Act:=⟨⟨k,k+1⟩,k+1+1,mkF mInt 1 (k+1+1+1) x.knew.length,kE k x,mtx (kE k x+1),mtx (kE k x+1+1),kE k x+1+1+1,⟨kE k x+1+1+1+1,kE k x+1+1+1+1+1⟩⟩
def zmA (v:GV) (l L:List Act) (i:Nat) (R h:List Item):Prop:=(∃ hi:i<l.length,∃ kv,h= .th (ow pI.kd kv l[i].knew)::.th (hole kAct v L i (actV l[i] kv))::R)∨(i=l.length∧h= .th (ow kAct v L)::R)
end Go.Proofs.YtbeoiejnogdkpaaGreat.Sy
namespace Go.Proofs.YtbeoiejnogdkpaaGreat.Sy
open Go Go.RowKit
set_option linter.unusedSimpArgs false
set_option linter.unusedVariables false
def ctState (x:State):Nat:=1*x.know.length+3*x.tallies.length+6*x.lives.length+8*x.cells.length
def mkState (k:Int) (x:State):State:={x with know:=(mkF mInt 1 (k) x.know.length),tallies:=(mkF mTally 3 (k+1*(x.know.length:Int)) x.tallies.length),lives:=(mkF mLive 6 (k+1*(x.know.length:Int)+3*(x.tallies.length:Int)) x.lives.length),cells:=(mkF mCell 8 (k+1*(x.know.length:Int)+3*(x.tallies.length:Int)+6*(x.lives.length:Int)) x.cells.length)}
def ctAct (x:Act):Nat:=1*x.knew.length
def mkAct (k:Int) (x:Act):Act:={x with knew:=(mkF mInt 1 (k) x.knew.length)}
def ctDelta (x:Delta):Nat:=1*x.base.length+1*x.know.length+3*x.tallies.length+6*x.lives.length+2*x.dead.length+8*x.cells.length
def mkDelta (k:Int) (x:Delta):Delta:={x with base:=(mkF mInt 1 (k) x.base.length),know:=(mkF mInt 1 (k+1*(x.base.length:Int)) x.know.length),tallies:=(mkF mTally 3 (k+1*(x.base.length:Int)+1*(x.know.length:Int)) x.tallies.length),lives:=(mkF mLive 6 (k+1*(x.base.length:Int)+1*(x.know.length:Int)+3*(x.tallies.length:Int)) x.lives.length),dead:=(mkF mDot 2 (k+1*(x.base.length:Int)+1*(x.know.length:Int)+3*(x.tallies.length:Int)+6*(x.lives.length:Int)) x.dead.length),cells:=(mkF mCell 8 (k+1*(x.base.length:Int)+1*(x.know.length:Int)+3*(x.tallies.length:Int)+6*(x.lives.length:Int)+2*(x.dead.length:Int)) x.cells.length)}
theorem ctDelta_le (x:Delta):ctDelta x≤10*msDelta x:=by
 unfold ctDelta msDelta;omega
end Go.Proofs.YtbeoiejnogdkpaaGreat.Sy
namespace Go.Proofs.YtbeoiejnogdkpaaGreat.Sy
open Go Go.RowKit
set_option linter.unusedSimpArgs false
set_option linter.unusedVariables false
abbrev n_l_markTallyS:Nat:=111
def F_l_markTallyS:Fn1:=⟨35,[.t 4],(.seq (.reg [o 4 (.mov (.k (.int .i64 0)))]) (.seq (.seq (.reg [o 5 (.mov (.k (.int .i64 0)))]) (.blk 0 (.lop (.seq (.seq (.reg [o 6 (.mov (.t 5)),o 7 (.mov (.t 0)),o 8 (.len false (.t 7)),o 9 (.bin .lss (.t 6) (.t 8))]) (.cnd (.t 9) .skip (.ext 0))) (.seq (.blk 1 (.seq (.reg [o 12 (.mov (.t 0)),o 13 (.mov (.t 5)),o 14 (.mov (.t 1)),o 15 (.call 110 [(.t 14)]),o 16 (.iad 3 (.t 12) (.t 13)),o 17 (.fad 0 (.t 16)),on (.st 1 (.t 17) (.t 15))]) (.seq (.reg [o 18 (.mov (.t 1)),o 19 (.bin .add (.t 18) (.k (.int .i64 1))),o 1 (.mov (.t 19))]) (.seq (.reg [o 20 (.mov (.t 0)),o 21 (.mov (.t 5)),o 22 (.mov (.t 1)),o 23 (.iad 3 (.t 20) (.t 21)),o 24 (.fad 1 (.t 23)),on (.st 1 (.t 24) (.t 22))]) (.seq (.reg [o 25 (.mov (.t 1)),o 26 (.bin .add (.t 25) (.k (.int .i64 1))),o 1 (.mov (.t 26))]) (.seq (.reg [o 27 (.mov (.t 0)),o 28 (.mov (.t 5)),o 29 (.mov (.t 1)),o 30 (.iad 3 (.t 27) (.t 28)),o 31 (.fad 2 (.t 30)),on (.st 1 (.t 31) (.t 29))]) (.reg [o 32 (.mov (.t 1)),o 33 (.bin .add (.t 32) (.k (.int .i64 1))),o 1 (.mov (.t 33))]))))))) (.reg [o 10 (.mov (.t 5)),o 11 (.bin .add (.t 10) (.k (.int .i64 1))),o 5 (.mov (.t 11))])))))) (.seq (.reg [o 34 (.mov (.t 1)),o 4 (.mov (.t 34))]) .ret)))⟩
theorem ir_l_markTallyS:compFn Tryz.prog n_l_markTallyS=some F_l_markTallyS:=by kernel_rfl
theorem l_markTallyS_ret {σ τ:St} {rs:List Thg} (i0:Nat) (v:GV) (l:List Tally) (k:Int) (H:Hp σ τ rs) (hi0:rs[i0]? =some (ow pTally.kd v l)) (h0:0≤k) (hk:k+3*l.length≤4611686018427387904):∃ τ',Ret Tryz.prog n_l_markTallyS [v,gi k] τ (gi (k+3*l.length)) τ'∧Hp σ τ' (rs.set i0 (ow pTally.kd v (mkF mTally 3 k l.length))):=by
 have H:=H.pick i0 hi0
 have hlt:=(List.getElem?_eq_some_iff.1 hi0).1
 obtain⟨r,τ',hR,rfl,H'⟩:=ret_mut (P:=Tryz.prog) (σ:=τ) (args:=[v,gi k]) (Post:=fun r τ'=>r=gi (k+3*l.length)∧Hp σ τ' (ow pTally.kd v (mkF mTally 3 k l.length)::rs.eraseIdx i0)) ir_l_markTallyS (Nat.le_of_ble_eq_true rfl) (by
  simp +contextual (disch:=omega) only[go_sem,F_l_markTallyS]
  refine vc_for l.length 5 (fun i env τ'=>env 0=v∧env 1=gi (k+3*(i:Int))∧τ.length≤τ'.length∧Hp σ τ' (ow pTally.kd v ((mkF mTally 3 k l.length).take i++l.drop i)::rs.eraseIdx i0)) rfl ⟨rfl,(by show gi k=gi (k+3*0);simp),Nat.le_refl _,by simpa using H⟩ ?_ ?_
  ·rintro i env τ' hi e5 c0 ⟨e0,e1,hle,H⟩
   have hL:=mark_len (l:=l) (e:=mTally) (c:=3) (k:=k) (i:=i)
   have hst:=mark_step (e:=mTally) (c:=3) (k:=k) hi
   generalize(mkF mTally 3 k l.length).take i++l.drop i=L at H hL hst
   have hj:i<L.length:=by omega
   have h1:=H.sl 0 rfl
   have hln:=h1.len
   rw[hL] at hln
   have hat:=Tally_at h1 hj
   rw[set_self hj] at H
   generalize hy:L[i]=y at H hat
   simp +contextual (disch:=omega) only[go_sem,c0,e0,e1,e5,hln,hat]
   refine by_ret (l_markText_ret _ _ (by omega)) ?_
   simp +contextual (disch:=omega) only[go_sem,e0,e1,hat]
   obtain⟨τ0,es,H⟩:=H.sts hj 1 0 (.str (mtx (k+3*(i:Int)))) (⟨mtx (k+3*(i:Int)),y.rep,y.sum⟩) rfl (by decide) (by decide) rfl
   have es:stG 1 τ' (fld 0 (atz 3 v i)) (.str (mtx (k+3*(i:Int))))=some (.tup [],τ0):=es
   have hl0:=stG_len es
   simp +contextual (disch:=omega) only[go_sem,e0,e1,e5,hat,es]
   obtain⟨τ1,es,H⟩:=H.sts hj 1 1 (.int .i64 (k+3*(i:Int)+1)) (⟨mtx (k+3*(i:Int)),k+3*(i:Int)+1,y.sum⟩) rfl (by decide) (by decide) rfl
   have es:stG 1 τ0 (fld 1 (atz 3 v i)) (.int .i64 (k+3*(i:Int)+1))=some (.tup [],τ1):=es
   have hl1:=stG_len es
   simp +contextual (disch:=omega) only[go_sem,e0,e1,e5,hat,es]
   obtain⟨τ2,es,H⟩:=H.sts hj 1 2 (.int .i64 (k+3*(i:Int)+1+1)) (⟨mtx (k+3*(i:Int)),k+3*(i:Int)+1,k+3*(i:Int)+1+1⟩) rfl (by decide) (by decide) rfl
   have es:stG 1 τ1 (fld 2 (atz 3 v i)) (.int .i64 (k+3*(i:Int)+1+1))=some (.tup [],τ2):=es
   have hl2:=stG_len es
   simp +contextual (disch:=omega) only[go_sem,e0,e1,e5,hat,es]
   have H2:Hp σ τ2 (ow pTally.kd v (L.set i (mTally (k+(3:Nat)*(i:Int))))::rs.eraseIdx i0):=H
   rw[hst] at H2
   exact⟨by omega,by omega,H2⟩
  ·rintro env τ' e5 c0 ⟨e0,e1,hle,H⟩
   rw[mark_end] at H
   have hln:=(H.sl 0 rfl).len
   rw[mkF_length] at hln
   simp +contextual (disch:=omega) only[go_sem,c0,e0,e1,e5,hln]
   exact⟨_,rfl,hle,rfl,H⟩)
 exact⟨τ',hR,H'.unpick hlt⟩
end Go.Proofs.YtbeoiejnogdkpaaGreat.Sy
namespace Go.Proofs.YtbeoiejnogdkpaaGreat.Sy
open Go Go.RowKit
set_option linter.unusedSimpArgs false
set_option linter.unusedVariables false
abbrev n_l_markLiveS:Nat:=112
def F_l_markLiveS:Fn1:=⟨61,[.t 4],(.seq (.reg [o 4 (.mov (.k (.int .i64 0)))]) (.seq (.seq (.reg [o 5 (.mov (.k (.int .i64 0)))]) (.blk 0 (.lop (.seq (.seq (.reg [o 6 (.mov (.t 5)),o 7 (.mov (.t 0)),o 8 (.len false (.t 7)),o 9 (.bin .lss (.t 6) (.t 8))]) (.cnd (.t 9) .skip (.ext 0))) (.seq (.blk 1 (.seq (.reg [o 12 (.mov (.t 0)),o 13 (.mov (.t 5)),o 14 (.mov (.t 1)),o 15 (.bin .rem (.t 14) (.k (.int .i64 3))),o 16 (.bin .eql (.t 15) (.k (.int .i64 0))),o 17 (.iad 6 (.t 12) (.t 13)),o 18 (.fad 0 (.t 17)),on (.st 1 (.t 18) (.t 16))]) (.seq (.reg [o 19 (.mov (.t 1)),o 20 (.bin .add (.t 19) (.k (.int .i64 1))),o 1 (.mov (.t 20))]) (.seq (.reg [o 21 (.mov (.t 0)),o 22 (.mov (.t 5)),o 23 (.mov (.t 1)),o 24 (.call 110 [(.t 23)]),o 25 (.iad 6 (.t 21) (.t 22)),o 26 (.fad 1 (.t 25)),on (.st 1 (.t 26) (.t 24))]) (.seq (.reg [o 27 (.mov (.t 1)),o 28 (.bin .add (.t 27) (.k (.int .i64 1))),o 1 (.mov (.t 28))]) (.seq (.reg [o 29 (.mov (.t 0)),o 30 (.mov (.t 5)),o 31 (.mov (.t 1)),o 32 (.call 110 [(.t 31)]),o 33 (.iad 6 (.t 29) (.t 30)),o 34 (.fad 2 (.t 33)),on (.st 1 (.t 34) (.t 32))]) (.seq (.reg [o 35 (.mov (.t 1)),o 36 (.bin .add (.t 35) (.k (.int .i64 1))),o 1 (.mov (.t 36))]) (.seq (.reg [o 37 (.mov (.t 0)),o 38 (.mov (.t 5)),o 39 (.mov (.t 1)),o 40 (.iad 6 (.t 37) (.t 38)),o 41 (.fad 3 (.t 40)),on (.st 1 (.t 41) (.t 39))]) (.seq (.reg [o 42 (.mov (.t 1)),o 43 (.bin .add (.t 42) (.k (.int .i64 1))),o 1 (.mov (.t 43))]) (.seq (.reg [o 44 (.mov (.t 0)),o 45 (.mov (.t 5)),o 46 (.mov (.t 1)),o 47 (.iad 6 (.t 44) (.t 45)),o 48 (.fad 4 (.t 47)),o 49 (.fad 0 (.t 48)),on (.st 1 (.t 49) (.t 46))]) (.seq (.reg [o 50 (.mov (.t 1)),o 51 (.bin .add (.t 50) (.k (.int .i64 1))),o 1 (.mov (.t 51))]) (.seq (.reg [o 52 (.mov (.t 0)),o 53 (.mov (.t 5)),o 54 (.mov (.t 1)),o 55 (.iad 6 (.t 52) (.t 53)),o 56 (.fad 4 (.t 55)),o 57 (.fad 1 (.t 56)),on (.st 1 (.t 57) (.t 54))]) (.reg [o 58 (.mov (.t 1)),o 59 (.bin .add (.t 58) (.k (.int .i64 1))),o 1 (.mov (.t 59))]))))))))))))) (.reg [o 10 (.mov (.t 5)),o 11 (.bin .add (.t 10) (.k (.int .i64 1))),o 5 (.mov (.t 11))])))))) (.seq (.reg [o 60 (.mov (.t 1)),o 4 (.mov (.t 60))]) .ret)))⟩
theorem ir_l_markLiveS:compFn Tryz.prog n_l_markLiveS=some F_l_markLiveS:=by kernel_rfl
theorem l_markLiveS_ret {σ τ:St} {rs:List Thg} (i0:Nat) (v:GV) (l:List Live) (k:Int) (H:Hp σ τ rs) (hi0:rs[i0]? =some (ow pLive.kd v l)) (h0:0≤k) (hk:k+6*l.length≤4611686018427387904):∃ τ',Ret Tryz.prog n_l_markLiveS [v,gi k] τ (gi (k+6*l.length)) τ'∧Hp σ τ' (rs.set i0 (ow pLive.kd v (mkF mLive 6 k l.length))):=by
 have H:=H.pick i0 hi0
 have hlt:=(List.getElem?_eq_some_iff.1 hi0).1
 obtain⟨r,τ',hR,rfl,H'⟩:=ret_mut (P:=Tryz.prog) (σ:=τ) (args:=[v,gi k]) (Post:=fun r τ'=>r=gi (k+6*l.length)∧Hp σ τ' (ow pLive.kd v (mkF mLive 6 k l.length)::rs.eraseIdx i0)) ir_l_markLiveS (Nat.le_of_ble_eq_true rfl) (by
  simp +contextual (disch:=omega) only[go_sem,F_l_markLiveS]
  refine vc_for l.length 5 (fun i env τ'=>env 0=v∧env 1=gi (k+6*(i:Int))∧τ.length≤τ'.length∧Hp σ τ' (ow pLive.kd v ((mkF mLive 6 k l.length).take i++l.drop i)::rs.eraseIdx i0)) rfl ⟨rfl,(by show gi k=gi (k+6*0);simp),Nat.le_refl _,by simpa using H⟩ ?_ ?_
  ·rintro i env τ' hi e5 c0 ⟨e0,e1,hle,H⟩
   have hL:=mark_len (l:=l) (e:=mLive) (c:=6) (k:=k) (i:=i)
   have hst:=mark_step (e:=mLive) (c:=6) (k:=k) hi
   generalize(mkF mLive 6 k l.length).take i++l.drop i=L at H hL hst
   have hj:i<L.length:=by omega
   have h1:=H.sl 0 rfl
   have hln:=h1.len
   rw[hL] at hln
   have hat:=Live_at h1 hj
   rw[set_self hj] at H
   generalize hy:L[i]=y at H hat
   simp +contextual (disch:=omega) only[go_sem,c0,e0,e1,e5,hln,hat]
   obtain⟨τ0,es,H⟩:=H.sts hj 1 0 (.bool ((k+6*(i:Int)).tmod 3==0)) (⟨((k+6*(i:Int)).tmod 3==0),y.obj,y.key,y.val,⟨y.dot.rep,y.dot.seq⟩⟩) rfl (by decide) (by decide) rfl
   have es:stG 1 τ' (fld 0 (atz 6 v i)) (.bool ((k+6*(i:Int)).tmod 3==0))=some (.tup [],τ0):=es
   have hl0:=stG_len es
   simp +contextual (disch:=omega) only[go_sem,e0,e1,e5,hat,es]
   refine by_ret (l_markText_ret _ _ (by omega)) ?_
   simp +contextual (disch:=omega) only[go_sem,e0,e1,hat]
   obtain⟨τ1,es,H⟩:=H.sts hj 1 1 (.str (mtx (k+6*(i:Int)+1))) (⟨((k+6*(i:Int)).tmod 3==0),mtx (k+6*(i:Int)+1),y.key,y.val,⟨y.dot.rep,y.dot.seq⟩⟩) rfl (by decide) (by decide) rfl
   have es:stG 1 τ0 (fld 1 (atz 6 v i)) (.str (mtx (k+6*(i:Int)+1)))=some (.tup [],τ1):=es
   have hl1:=stG_len es
   simp +contextual (disch:=omega) only[go_sem,e0,e1,e5,hat,es]
   refine by_ret (l_markText_ret _ _ (by omega)) ?_
   simp +contextual (disch:=omega) only[go_sem,e0,e1,hat]
   obtain⟨τ2,es,H⟩:=H.sts hj 1 2 (.str (mtx (k+6*(i:Int)+1+1))) (⟨((k+6*(i:Int)).tmod 3==0),mtx (k+6*(i:Int)+1),mtx (k+6*(i:Int)+1+1),y.val,⟨y.dot.rep,y.dot.seq⟩⟩) rfl (by decide) (by decide) rfl
   have es:stG 1 τ1 (fld 2 (atz 6 v i)) (.str (mtx (k+6*(i:Int)+1+1)))=some (.tup [],τ2):=es
   have hl2:=stG_len es
   simp +contextual (disch:=omega) only[go_sem,e0,e1,e5,hat,es]
   obtain⟨τ3,es,H⟩:=H.sts hj 1 3 (.int .i64 (k+6*(i:Int)+1+1+1)) (⟨((k+6*(i:Int)).tmod 3==0),mtx (k+6*(i:Int)+1),mtx (k+6*(i:Int)+1+1),k+6*(i:Int)+1+1+1,⟨y.dot.rep,y.dot.seq⟩⟩) rfl (by decide) (by decide) rfl
   have es:stG 1 τ2 (fld 3 (atz 6 v i)) (.int .i64 (k+6*(i:Int)+1+1+1))=some (.tup [],τ3):=es
   have hl3:=stG_len es
   simp +contextual (disch:=omega) only[go_sem,e0,e1,e5,hat,es]
   obtain⟨τ4,es,H⟩:=H.sts hj 1 4 (.int .i64 (k+6*(i:Int)+1+1+1+1)) (⟨((k+6*(i:Int)).tmod 3==0),mtx (k+6*(i:Int)+1),mtx (k+6*(i:Int)+1+1),k+6*(i:Int)+1+1+1,⟨k+6*(i:Int)+1+1+1+1,y.dot.seq⟩⟩) rfl (by decide) (by decide) rfl
   have es:stG 1 τ3 (fld 4 (atz 6 v i)) (.int .i64 (k+6*(i:Int)+1+1+1+1))=some (.tup [],τ4):=es
   have hl4:=stG_len es
   simp +contextual (disch:=omega) only[go_sem,e0,e1,e5,hat,es]
   obtain⟨τ5,es,H⟩:=H.sts hj 1 5 (.int .i64 (k+6*(i:Int)+1+1+1+1+1)) (⟨((k+6*(i:Int)).tmod 3==0),mtx (k+6*(i:Int)+1),mtx (k+6*(i:Int)+1+1),k+6*(i:Int)+1+1+1,⟨k+6*(i:Int)+1+1+1+1,k+6*(i:Int)+1+1+1+1+1⟩⟩) rfl (by decide) (by decide) rfl
   have es:stG 1 τ4 (fld 5 (atz 6 v i)) (.int .i64 (k+6*(i:Int)+1+1+1+1+1))=some (.tup [],τ5):=es
   have hl5:=stG_len es
   simp +contextual (disch:=omega) only[go_sem,e0,e1,e5,hat,es]
   have H2:Hp σ τ5 (ow pLive.kd v (L.set i (mLive (k+(6:Nat)*(i:Int))))::rs.eraseIdx i0):=H
   rw[hst] at H2
   exact⟨by omega,by omega,H2⟩
  ·rintro env τ' e5 c0 ⟨e0,e1,hle,H⟩
   rw[mark_end] at H
   have hln:=(H.sl 0 rfl).len
   rw[mkF_length] at hln
   simp +contextual (disch:=omega) only[go_sem,c0,e0,e1,e5,hln]
   exact⟨_,rfl,hle,rfl,H⟩)
 exact⟨τ',hR,H'.unpick hlt⟩
end Go.Proofs.YtbeoiejnogdkpaaGreat.Sy
namespace Go.Proofs.YtbeoiejnogdkpaaGreat.Sy
open Go Go.RowKit
set_option linter.unusedSimpArgs false
set_option linter.unusedVariables false
abbrev n_l_markDotS:Nat:=113
def F_l_markDotS:Fn1:=⟨27,[.t 4],(.seq (.reg [o 4 (.mov (.k (.int .i64 0)))]) (.seq (.seq (.reg [o 5 (.mov (.k (.int .i64 0)))]) (.blk 0 (.lop (.seq (.seq (.reg [o 6 (.mov (.t 5)),o 7 (.mov (.t 0)),o 8 (.len false (.t 7)),o 9 (.bin .lss (.t 6) (.t 8))]) (.cnd (.t 9) .skip (.ext 0))) (.seq (.blk 1 (.seq (.reg [o 12 (.mov (.t 0)),o 13 (.mov (.t 5)),o 14 (.mov (.t 1)),o 15 (.iad 2 (.t 12) (.t 13)),o 16 (.fad 0 (.t 15)),on (.st 1 (.t 16) (.t 14))]) (.seq (.reg [o 17 (.mov (.t 1)),o 18 (.bin .add (.t 17) (.k (.int .i64 1))),o 1 (.mov (.t 18))]) (.seq (.reg [o 19 (.mov (.t 0)),o 20 (.mov (.t 5)),o 21 (.mov (.t 1)),o 22 (.iad 2 (.t 19) (.t 20)),o 23 (.fad 1 (.t 22)),on (.st 1 (.t 23) (.t 21))]) (.reg [o 24 (.mov (.t 1)),o 25 (.bin .add (.t 24) (.k (.int .i64 1))),o 1 (.mov (.t 25))]))))) (.reg [o 10 (.mov (.t 5)),o 11 (.bin .add (.t 10) (.k (.int .i64 1))),o 5 (.mov (.t 11))])))))) (.seq (.reg [o 26 (.mov (.t 1)),o 4 (.mov (.t 26))]) .ret)))⟩
theorem ir_l_markDotS:compFn Tryz.prog n_l_markDotS=some F_l_markDotS:=by kernel_rfl
theorem l_markDotS_ret {σ τ:St} {rs:List Thg} (i0:Nat) (v:GV) (l:List Dot) (k:Int) (H:Hp σ τ rs) (hi0:rs[i0]? =some (ow pDot.kd v l)) (h0:0≤k) (hk:k+2*l.length≤4611686018427387904):∃ τ',Ret Tryz.prog n_l_markDotS [v,gi k] τ (gi (k+2*l.length)) τ'∧Hp σ τ' (rs.set i0 (ow pDot.kd v (mkF mDot 2 k l.length))):=by
 have H:=H.pick i0 hi0
 have hlt:=(List.getElem?_eq_some_iff.1 hi0).1
 obtain⟨r,τ',hR,rfl,H'⟩:=ret_mut (P:=Tryz.prog) (σ:=τ) (args:=[v,gi k]) (Post:=fun r τ'=>r=gi (k+2*l.length)∧Hp σ τ' (ow pDot.kd v (mkF mDot 2 k l.length)::rs.eraseIdx i0)) ir_l_markDotS (Nat.le_of_ble_eq_true rfl) (by
  simp +contextual (disch:=omega) only[go_sem,F_l_markDotS]
  refine vc_for l.length 5 (fun i env τ'=>env 0=v∧env 1=gi (k+2*(i:Int))∧τ.length≤τ'.length∧Hp σ τ' (ow pDot.kd v ((mkF mDot 2 k l.length).take i++l.drop i)::rs.eraseIdx i0)) rfl ⟨rfl,(by show gi k=gi (k+2*0);simp),Nat.le_refl _,by simpa using H⟩ ?_ ?_
  ·rintro i env τ' hi e5 c0 ⟨e0,e1,hle,H⟩
   have hL:=mark_len (l:=l) (e:=mDot) (c:=2) (k:=k) (i:=i)
   have hst:=mark_step (e:=mDot) (c:=2) (k:=k) hi
   generalize(mkF mDot 2 k l.length).take i++l.drop i=L at H hL hst
   have hj:i<L.length:=by omega
   have h1:=H.sl 0 rfl
   have hln:=h1.len
   rw[hL] at hln
   have hat:=Dot_at h1 hj
   rw[set_self hj] at H
   generalize hy:L[i]=y at H hat
   simp +contextual (disch:=omega) only[go_sem,c0,e0,e1,e5,hln,hat]
   obtain⟨τ0,es,H⟩:=H.sts hj 1 0 (.int .i64 (k+2*(i:Int))) (⟨k+2*(i:Int),y.seq⟩) rfl (by decide) (by decide) rfl
   have es:stG 1 τ' (fld 0 (atz 2 v i)) (.int .i64 (k+2*(i:Int)))=some (.tup [],τ0):=es
   have hl0:=stG_len es
   simp +contextual (disch:=omega) only[go_sem,e0,e1,e5,hat,es]
   obtain⟨τ1,es,H⟩:=H.sts hj 1 1 (.int .i64 (k+2*(i:Int)+1)) (⟨k+2*(i:Int),k+2*(i:Int)+1⟩) rfl (by decide) (by decide) rfl
   have es:stG 1 τ0 (fld 1 (atz 2 v i)) (.int .i64 (k+2*(i:Int)+1))=some (.tup [],τ1):=es
   have hl1:=stG_len es
   simp +contextual (disch:=omega) only[go_sem,e0,e1,e5,hat,es]
   have H2:Hp σ τ1 (ow pDot.kd v (L.set i (mDot (k+(2:Nat)*(i:Int))))::rs.eraseIdx i0):=H
   rw[hst] at H2
   exact⟨by omega,by omega,H2⟩
  ·rintro env τ' e5 c0 ⟨e0,e1,hle,H⟩
   rw[mark_end] at H
   have hln:=(H.sl 0 rfl).len
   rw[mkF_length] at hln
   simp +contextual (disch:=omega) only[go_sem,c0,e0,e1,e5,hln]
   exact⟨_,rfl,hle,rfl,H⟩)
 exact⟨τ',hR,H'.unpick hlt⟩
end Go.Proofs.YtbeoiejnogdkpaaGreat.Sy
namespace Go.Proofs.YtbeoiejnogdkpaaGreat.Sy
open Go Go.RowKit
set_option linter.unusedSimpArgs false
set_option linter.unusedVariables false
abbrev n_l_markCellS:Nat:=114
def F_l_markCellS:Fn1:=⟨76,[.t 4],(.seq (.reg [o 4 (.mov (.k (.int .i64 0)))]) (.seq (.seq (.reg [o 5 (.mov (.k (.int .i64 0)))]) (.blk 0 (.lop (.seq (.seq (.reg [o 6 (.mov (.t 5)),o 7 (.mov (.t 0)),o 8 (.len false (.t 7)),o 9 (.bin .lss (.t 6) (.t 8))]) (.cnd (.t 9) .skip (.ext 0))) (.seq (.blk 1 (.seq (.reg [o 12 (.mov (.t 0)),o 13 (.mov (.t 5)),o 14 (.mov (.t 1)),o 15 (.call 110 [(.t 14)]),o 16 (.iad 8 (.t 12) (.t 13)),o 17 (.fad 0 (.t 16)),on (.st 1 (.t 17) (.t 15))]) (.seq (.reg [o 18 (.mov (.t 1)),o 19 (.bin .add (.t 18) (.k (.int .i64 1))),o 1 (.mov (.t 19))]) (.seq (.reg [o 20 (.mov (.t 0)),o 21 (.mov (.t 5)),o 22 (.mov (.t 1)),o 23 (.iad 8 (.t 20) (.t 21)),o 24 (.fad 1 (.t 23)),o 25 (.fad 0 (.t 24)),on (.st 1 (.t 25) (.t 22))]) (.seq (.reg [o 26 (.mov (.t 1)),o 27 (.bin .add (.t 26) (.k (.int .i64 1))),o 1 (.mov (.t 27))]) (.seq (.reg [o 28 (.mov (.t 0)),o 29 (.mov (.t 5)),o 30 (.mov (.t 1)),o 31 (.iad 8 (.t 28) (.t 29)),o 32 (.fad 1 (.t 31)),o 33 (.fad 1 (.t 32)),on (.st 1 (.t 33) (.t 30))]) (.seq (.reg [o 34 (.mov (.t 1)),o 35 (.bin .add (.t 34) (.k (.int .i64 1))),o 1 (.mov (.t 35))]) (.seq (.reg [o 36 (.mov (.t 0)),o 37 (.mov (.t 5)),o 38 (.mov (.t 1)),o 39 (.iad 8 (.t 36) (.t 37)),o 40 (.fad 3 (.t 39)),on (.st 1 (.t 40) (.t 38))]) (.seq (.reg [o 41 (.mov (.t 1)),o 42 (.bin .add (.t 41) (.k (.int .i64 1))),o 1 (.mov (.t 42))]) (.seq (.reg [o 43 (.mov (.t 0)),o 44 (.mov (.t 5)),o 45 (.mov (.t 1)),o 46 (.iad 8 (.t 43) (.t 44)),o 47 (.fad 4 (.t 46)),o 48 (.fad 0 (.t 47)),on (.st 1 (.t 48) (.t 45))]) (.seq (.reg [o 49 (.mov (.t 1)),o 50 (.bin .add (.t 49) (.k (.int .i64 1))),o 1 (.mov (.t 50))]) (.seq (.reg [o 51 (.mov (.t 0)),o 52 (.mov (.t 5)),o 53 (.mov (.t 1)),o 54 (.iad 8 (.t 51) (.t 52)),o 55 (.fad 4 (.t 54)),o 56 (.fad 1 (.t 55)),on (.st 1 (.t 56) (.t 53))]) (.seq (.reg [o 57 (.mov (.t 1)),o 58 (.bin .add (.t 57) (.k (.int .i64 1))),o 1 (.mov (.t 58))]) (.seq (.reg [o 59 (.mov (.t 0)),o 60 (.mov (.t 5)),o 61 (.mov (.t 1)),o 62 (.iad 8 (.t 59) (.t 60)),o 63 (.fad 6 (.t 62)),on (.st 1 (.t 63) (.t 61))]) (.seq (.reg [o 64 (.mov (.t 1)),o 65 (.bin .add (.t 64) (.k (.int .i64 1))),o 1 (.mov (.t 65))]) (.seq (.reg [o 66 (.mov (.t 0)),o 67 (.mov (.t 5)),o 68 (.mov (.t 1)),o 69 (.bin .rem (.t 68) (.k (.int .i64 3))),o 70 (.bin .eql (.t 69) (.k (.int .i64 0))),o 71 (.iad 8 (.t 66) (.t 67)),o 72 (.fad 7 (.t 71)),on (.st 1 (.t 72) (.t 70))]) (.reg [o 73 (.mov (.t 1)),o 74 (.bin .add (.t 73) (.k (.int .i64 1))),o 1 (.mov (.t 74))]))))))))))))))))) (.reg [o 10 (.mov (.t 5)),o 11 (.bin .add (.t 10) (.k (.int .i64 1))),o 5 (.mov (.t 11))])))))) (.seq (.reg [o 75 (.mov (.t 1)),o 4 (.mov (.t 75))]) .ret)))⟩
theorem ir_l_markCellS:compFn Tryz.prog n_l_markCellS=some F_l_markCellS:=by kernel_rfl
theorem l_markCellS_ret {σ τ:St} {rs:List Thg} (i0:Nat) (v:GV) (l:List Cell) (k:Int) (H:Hp σ τ rs) (hi0:rs[i0]? =some (ow pCell.kd v l)) (h0:0≤k) (hk:k+8*l.length≤4611686018427387904):∃ τ',Ret Tryz.prog n_l_markCellS [v,gi k] τ (gi (k+8*l.length)) τ'∧Hp σ τ' (rs.set i0 (ow pCell.kd v (mkF mCell 8 k l.length))):=by
 have H:=H.pick i0 hi0
 have hlt:=(List.getElem?_eq_some_iff.1 hi0).1
 obtain⟨r,τ',hR,rfl,H'⟩:=ret_mut (P:=Tryz.prog) (σ:=τ) (args:=[v,gi k]) (Post:=fun r τ'=>r=gi (k+8*l.length)∧Hp σ τ' (ow pCell.kd v (mkF mCell 8 k l.length)::rs.eraseIdx i0)) ir_l_markCellS (Nat.le_of_ble_eq_true rfl) (by
  simp +contextual (disch:=omega) only[go_sem,F_l_markCellS]
  refine vc_for l.length 5 (fun i env τ'=>env 0=v∧env 1=gi (k+8*(i:Int))∧τ.length≤τ'.length∧Hp σ τ' (ow pCell.kd v ((mkF mCell 8 k l.length).take i++l.drop i)::rs.eraseIdx i0)) rfl ⟨rfl,(by show gi k=gi (k+8*0);simp),Nat.le_refl _,by simpa using H⟩ ?_ ?_
  ·rintro i env τ' hi e5 c0 ⟨e0,e1,hle,H⟩
   have hL:=mark_len (l:=l) (e:=mCell) (c:=8) (k:=k) (i:=i)
   have hst:=mark_step (e:=mCell) (c:=8) (k:=k) hi
   generalize(mkF mCell 8 k l.length).take i++l.drop i=L at H hL hst
   have hj:i<L.length:=by omega
   have h1:=H.sl 0 rfl
   have hln:=h1.len
   rw[hL] at hln
   have hat:=Cell_at h1 hj
   rw[set_self hj] at H
   generalize hy:L[i]=y at H hat
   simp +contextual (disch:=omega) only[go_sem,c0,e0,e1,e5,hln,hat]
   refine by_ret (l_markText_ret _ _ (by omega)) ?_
   simp +contextual (disch:=omega) only[go_sem,e0,e1,hat]
   obtain⟨τ0,es,H⟩:=H.sts hj 1 0 (.str (mtx (k+8*(i:Int)))) (⟨mtx (k+8*(i:Int)),⟨y.dot.rep,y.dot.seq⟩,y.time,⟨y.ref.rep,y.ref.seq⟩,y.val,y.gone⟩) rfl (by decide) (by decide) rfl
   have es:stG 1 τ' (fld 0 (atz 8 v i)) (.str (mtx (k+8*(i:Int))))=some (.tup [],τ0):=es
   have hl0:=stG_len es
   simp +contextual (disch:=omega) only[go_sem,e0,e1,e5,hat,es]
   obtain⟨τ1,es,H⟩:=H.sts hj 1 1 (.int .i64 (k+8*(i:Int)+1)) (⟨mtx (k+8*(i:Int)),⟨k+8*(i:Int)+1,y.dot.seq⟩,y.time,⟨y.ref.rep,y.ref.seq⟩,y.val,y.gone⟩) rfl (by decide) (by decide) rfl
   have es:stG 1 τ0 (fld 1 (atz 8 v i)) (.int .i64 (k+8*(i:Int)+1))=some (.tup [],τ1):=es
   have hl1:=stG_len es
   simp +contextual (disch:=omega) only[go_sem,e0,e1,e5,hat,es]
   obtain⟨τ2,es,H⟩:=H.sts hj 1 2 (.int .i64 (k+8*(i:Int)+1+1)) (⟨mtx (k+8*(i:Int)),⟨k+8*(i:Int)+1,k+8*(i:Int)+1+1⟩,y.time,⟨y.ref.rep,y.ref.seq⟩,y.val,y.gone⟩) rfl (by decide) (by decide) rfl
   have es:stG 1 τ1 (fld 2 (atz 8 v i)) (.int .i64 (k+8*(i:Int)+1+1))=some (.tup [],τ2):=es
   have hl2:=stG_len es
   simp +contextual (disch:=omega) only[go_sem,e0,e1,e5,hat,es]
   obtain⟨τ3,es,H⟩:=H.sts hj 1 3 (.int .i64 (k+8*(i:Int)+1+1+1)) (⟨mtx (k+8*(i:Int)),⟨k+8*(i:Int)+1,k+8*(i:Int)+1+1⟩,k+8*(i:Int)+1+1+1,⟨y.ref.rep,y.ref.seq⟩,y.val,y.gone⟩) rfl (by decide) (by decide) rfl
   have es:stG 1 τ2 (fld 3 (atz 8 v i)) (.int .i64 (k+8*(i:Int)+1+1+1))=some (.tup [],τ3):=es
   have hl3:=stG_len es
   simp +contextual (disch:=omega) only[go_sem,e0,e1,e5,hat,es]
   obtain⟨τ4,es,H⟩:=H.sts hj 1 4 (.int .i64 (k+8*(i:Int)+1+1+1+1)) (⟨mtx (k+8*(i:Int)),⟨k+8*(i:Int)+1,k+8*(i:Int)+1+1⟩,k+8*(i:Int)+1+1+1,⟨k+8*(i:Int)+1+1+1+1,y.ref.seq⟩,y.val,y.gone⟩) rfl (by decide) (by decide) rfl
   have es:stG 1 τ3 (fld 4 (atz 8 v i)) (.int .i64 (k+8*(i:Int)+1+1+1+1))=some (.tup [],τ4):=es
   have hl4:=stG_len es
   simp +contextual (disch:=omega) only[go_sem,e0,e1,e5,hat,es]
   obtain⟨τ5,es,H⟩:=H.sts hj 1 5 (.int .i64 (k+8*(i:Int)+1+1+1+1+1)) (⟨mtx (k+8*(i:Int)),⟨k+8*(i:Int)+1,k+8*(i:Int)+1+1⟩,k+8*(i:Int)+1+1+1,⟨k+8*(i:Int)+1+1+1+1,k+8*(i:Int)+1+1+1+1+1⟩,y.val,y.gone⟩) rfl (by decide) (by decide) rfl
   have es:stG 1 τ4 (fld 5 (atz 8 v i)) (.int .i64 (k+8*(i:Int)+1+1+1+1+1))=some (.tup [],τ5):=es
   have hl5:=stG_len es
   simp +contextual (disch:=omega) only[go_sem,e0,e1,e5,hat,es]
   obtain⟨τ6,es,H⟩:=H.sts hj 1 6 (.int .i64 (k+8*(i:Int)+1+1+1+1+1+1)) (⟨mtx (k+8*(i:Int)),⟨k+8*(i:Int)+1,k+8*(i:Int)+1+1⟩,k+8*(i:Int)+1+1+1,⟨k+8*(i:Int)+1+1+1+1,k+8*(i:Int)+1+1+1+1+1⟩,k+8*(i:Int)+1+1+1+1+1+1,y.gone⟩) rfl (by decide) (by decide) rfl
   have es:stG 1 τ5 (fld 6 (atz 8 v i)) (.int .i64 (k+8*(i:Int)+1+1+1+1+1+1))=some (.tup [],τ6):=es
   have hl6:=stG_len es
   simp +contextual (disch:=omega) only[go_sem,e0,e1,e5,hat,es]
   obtain⟨τ7,es,H⟩:=H.sts hj 1 7 (.bool ((k+8*(i:Int)+1+1+1+1+1+1+1).tmod 3==0)) (⟨mtx (k+8*(i:Int)),⟨k+8*(i:Int)+1,k+8*(i:Int)+1+1⟩,k+8*(i:Int)+1+1+1,⟨k+8*(i:Int)+1+1+1+1,k+8*(i:Int)+1+1+1+1+1⟩,k+8*(i:Int)+1+1+1+1+1+1,((k+8*(i:Int)+1+1+1+1+1+1+1).tmod 3==0)⟩) rfl (by decide) (by decide) rfl
   have es:stG 1 τ6 (fld 7 (atz 8 v i)) (.bool ((k+8*(i:Int)+1+1+1+1+1+1+1).tmod 3==0))=some (.tup [],τ7):=es
   have hl7:=stG_len es
   simp +contextual (disch:=omega) only[go_sem,e0,e1,e5,hat,es]
   have H2:Hp σ τ7 (ow pCell.kd v (L.set i (mCell (k+(8:Nat)*(i:Int))))::rs.eraseIdx i0):=H
   rw[hst] at H2
   exact⟨by omega,by omega,H2⟩
  ·rintro env τ' e5 c0 ⟨e0,e1,hle,H⟩
   rw[mark_end] at H
   have hln:=(H.sl 0 rfl).len
   rw[mkF_length] at hln
   simp +contextual (disch:=omega) only[go_sem,c0,e0,e1,e5,hln]
   exact⟨_,rfl,hle,rfl,H⟩)
 exact⟨τ',hR,H'.unpick hlt⟩
end Go.Proofs.YtbeoiejnogdkpaaGreat.Sy
namespace Go.Proofs.YtbeoiejnogdkpaaGreat.Sy
open Go Go.RowKit
set_option linter.unusedSimpArgs false
set_option linter.unusedVariables false
set_option maxRecDepth 4000
abbrev n_l_markUnitS:Nat:=16
def F_l_markUnitS:Fn1:=⟨156,[.t 4],(.seq (.reg [o 4 (.mov (.k (.int .i64 0)))]) (.seq (.seq (.reg [o 5 (.mov (.k (.int .i64 0)))]) (.blk 0 (.lop (.seq (.seq (.reg [o 6 (.mov (.t 5)),o 7 (.mov (.t 0)),o 8 (.len false (.t 7)),o 9 (.bin .lss (.t 6) (.t 8))]) (.cnd (.t 9) .skip (.ext 0))) (.seq (.blk 1 (.seq (.reg [o 12 (.mov (.t 0)),o 13 (.mov (.t 5)),o 14 (.mov (.t 1)),o 15 (.bin .rem (.t 14) (.k (.int .i64 3))),o 16 (.bin .eql (.t 15) (.k (.int .i64 0))),o 17 (.iad 17 (.t 12) (.t 13)),o 18 (.fad 0 (.t 17)),on (.st 1 (.t 18) (.t 16))]) (.seq (.reg [o 19 (.mov (.t 1)),o 20 (.bin .add (.t 19) (.k (.int .i64 1))),o 1 (.mov (.t 20))]) (.seq (.reg [o 21 (.mov (.t 0)),o 22 (.mov (.t 5)),o 23 (.mov (.t 1)),o 24 (.iad 17 (.t 21) (.t 22)),o 25 (.fad 1 (.t 24)),o 26 (.fad 0 (.t 25)),o 27 (.fad 0 (.t 26)),on (.st 1 (.t 27) (.t 23))]) (.seq (.reg [o 28 (.mov (.t 1)),o 29 (.bin .add (.t 28) (.k (.int .i64 1))),o 1 (.mov (.t 29))]) (.seq (.reg [o 30 (.mov (.t 0)),o 31 (.mov (.t 5)),o 32 (.mov (.t 1)),o 33 (.iad 17 (.t 30) (.t 31)),o 34 (.fad 1 (.t 33)),o 35 (.fad 0 (.t 34)),o 36 (.fad 1 (.t 35)),on (.st 1 (.t 36) (.t 32))]) (.seq (.reg [o 37 (.mov (.t 1)),o 38 (.bin .add (.t 37) (.k (.int .i64 1))),o 1 (.mov (.t 38))]) (.seq (.reg [o 39 (.mov (.t 0)),o 40 (.mov (.t 5)),o 41 (.mov (.t 1)),o 42 (.iad 17 (.t 39) (.t 40)),o 43 (.fad 1 (.t 42)),o 44 (.fad 2 (.t 43)),on (.st 1 (.t 44) (.t 41))]) (.seq (.reg [o 45 (.mov (.t 1)),o 46 (.bin .add (.t 45) (.k (.int .i64 1))),o 1 (.mov (.t 46))]) (.seq (.reg [o 47 (.mov (.t 0)),o 48 (.mov (.t 5)),o 49 (.iad 17 (.t 47) (.t 48)),o 50 (.fad 1 (.t 49)),o 51 (.fad 3 (.t 50)),o 52 (.ld false 1 (.t 51)),o 53 (.mov (.t 1)),o 54 (.call 109 [(.t 52),(.t 53)]),o 1 (.mov (.t 54))]) (.seq (.reg [o 55 (.mov (.t 0)),o 56 (.mov (.t 5)),o 57 (.mov (.t 1)),o 58 (.iad 17 (.t 55) (.t 56)),o 59 (.fad 1 (.t 58)),o 60 (.fad 4 (.t 59)),on (.st 1 (.t 60) (.t 57))]) (.seq (.reg [o 61 (.mov (.t 1)),o 62 (.bin .add (.t 61) (.k (.int .i64 1))),o 1 (.mov (.t 62))]) (.seq (.reg [o 63 (.mov (.t 0)),o 64 (.mov (.t 5)),o 65 (.mov (.t 1)),o 66 (.call 110 [(.t 65)]),o 67 (.iad 17 (.t 63) (.t 64)),o 68 (.fad 1 (.t 67)),o 69 (.fad 5 (.t 68)),on (.st 1 (.t 69) (.t 66))]) (.seq (.reg [o 70 (.mov (.t 1)),o 71 (.bin .add (.t 70) (.k (.int .i64 1))),o 1 (.mov (.t 71))]) (.seq (.reg [o 72 (.mov (.t 0)),o 73 (.mov (.t 5)),o 74 (.mov (.t 1)),o 75 (.call 110 [(.t 74)]),o 76 (.iad 17 (.t 72) (.t 73)),o 77 (.fad 1 (.t 76)),o 78 (.fad 6 (.t 77)),on (.st 1 (.t 78) (.t 75))]) (.seq (.reg [o 79 (.mov (.t 1)),o 80 (.bin .add (.t 79) (.k (.int .i64 1))),o 1 (.mov (.t 80))]) (.seq (.reg [o 81 (.mov (.t 0)),o 82 (.mov (.t 5)),o 83 (.mov (.t 1)),o 84 (.iad 17 (.t 81) (.t 82)),o 85 (.fad 1 (.t 84)),o 86 (.fad 7 (.t 85)),on (.st 1 (.t 86) (.t 83))]) (.seq (.reg [o 87 (.mov (.t 1)),o 88 (.bin .add (.t 87) (.k (.int .i64 1))),o 1 (.mov (.t 88))]) (.seq (.reg [o 89 (.mov (.t 0)),o 90 (.mov (.t 5)),o 91 (.mov (.t 1)),o 92 (.iad 17 (.t 89) (.t 90)),o 93 (.fad 1 (.t 92)),o 94 (.fad 8 (.t 93)),o 95 (.fad 0 (.t 94)),on (.st 1 (.t 95) (.t 91))]) (.seq (.reg [o 96 (.mov (.t 1)),o 97 (.bin .add (.t 96) (.k (.int .i64 1))),o 1 (.mov (.t 97))]) (.seq (.reg [o 98 (.mov (.t 0)),o 99 (.mov (.t 5)),o 100 (.mov (.t 1)),o 101 (.iad 17 (.t 98) (.t 99)),o 102 (.fad 1 (.t 101)),o 103 (.fad 8 (.t 102)),o 104 (.fad 1 (.t 103)),on (.st 1 (.t 104) (.t 100))]) (.seq (.reg [o 105 (.mov (.t 1)),o 106 (.bin .add (.t 105) (.k (.int .i64 1))),o 1 (.mov (.t 106))]) (.seq (.reg [o 107 (.mov (.t 0)),o 108 (.mov (.t 5)),o 109 (.iad 17 (.t 107) (.t 108)),o 110 (.fad 11 (.t 109)),o 111 (.fad 0 (.t 110)),o 112 (.ld false 1 (.t 111)),o 113 (.mov (.t 1)),o 114 (.call 109 [(.t 112),(.t 113)]),o 1 (.mov (.t 114))]) (.seq (.reg [o 115 (.mov (.t 0)),o 116 (.mov (.t 5)),o 117 (.iad 17 (.t 115) (.t 116)),o 118 (.fad 11 (.t 117)),o 119 (.fad 1 (.t 118)),o 120 (.ld false 1 (.t 119)),o 121 (.mov (.t 1)),o 122 (.call 109 [(.t 120),(.t 121)]),o 1 (.mov (.t 122))]) (.seq (.reg [o 123 (.mov (.t 0)),o 124 (.mov (.t 5)),o 125 (.iad 17 (.t 123) (.t 124)),o 126 (.fad 11 (.t 125)),o 127 (.fad 2 (.t 126)),o 128 (.ld false 1 (.t 127)),o 129 (.mov (.t 1)),o 130 (.call 111 [(.t 128),(.t 129)]),o 1 (.mov (.t 130))]) (.seq (.reg [o 131 (.mov (.t 0)),o 132 (.mov (.t 5)),o 133 (.iad 17 (.t 131) (.t 132)),o 134 (.fad 11 (.t 133)),o 135 (.fad 3 (.t 134)),o 136 (.ld false 1 (.t 135)),o 137 (.mov (.t 1)),o 138 (.call 112 [(.t 136),(.t 137)]),o 1 (.mov (.t 138))]) (.seq (.reg [o 139 (.mov (.t 0)),o 140 (.mov (.t 5)),o 141 (.iad 17 (.t 139) (.t 140)),o 142 (.fad 11 (.t 141)),o 143 (.fad 4 (.t 142)),o 144 (.ld false 1 (.t 143)),o 145 (.mov (.t 1)),o 146 (.call 113 [(.t 144),(.t 145)]),o 1 (.mov (.t 146))]) (.reg [o 147 (.mov (.t 0)),o 148 (.mov (.t 5)),o 149 (.iad 17 (.t 147) (.t 148)),o 150 (.fad 11 (.t 149)),o 151 (.fad 5 (.t 150)),o 152 (.ld false 1 (.t 151)),o 153 (.mov (.t 1)),o 154 (.call 114 [(.t 152),(.t 153)]),o 1 (.mov (.t 154))])))))))))))))))))))))))))))) (.reg [o 10 (.mov (.t 5)),o 11 (.bin .add (.t 10) (.k (.int .i64 1))),o 5 (.mov (.t 11))])))))) (.seq (.reg [o 155 (.mov (.t 1)),o 4 (.mov (.t 155))]) .ret)))⟩
theorem ir_l_markUnitS:compFn Tryz.prog n_l_markUnitS=some F_l_markUnitS:=by kernel_rfl
def ctU (x:Unit_):Nat:=1+(ctE x.act+ctDelta x.delta)
def kU (k:Int) (x:Unit_):Int:=kE (k+1) x.act+1+1+1+1+1+1
def mUnitE (k:Int) (x:Unit_):Unit_:=⟨k.tmod 3==0,mActE (k+1) x.act,mkDelta (kU k x) x.delta⟩
abbrev dItems (x:Delta) (d0 d1 d2 d3 d4 d5:GV):List Item:=[.th (ow pI.kd d0 x.base),.th (ow pI.kd d1 x.know),.th (ow pTally.kd d2 x.tallies),.th (ow pLive.kd d3 x.lives),.th (ow pDot.kd d4 x.dead),.th (ow pCell.kd d5 x.cells)]
def zmU (v:GV) (l L:List Unit_) (i:Nat) (R h:List Item):Prop:=(∃ hi:i<l.length,∃ kv d0 d1 d2 d3 d4 d5,h= .th (ow pI.kd d0 l[i].delta.base)::.th (ow pI.kd d1 l[i].delta.know)::.th (ow pTally.kd d2 l[i].delta.tallies)::.th (ow pLive.kd d3 l[i].delta.lives)::.th (ow pDot.kd d4 l[i].delta.dead)::.th (ow pCell.kd d5 l[i].delta.cells)::.th (ow pI.kd kv l[i].act.knew)::.th (hole kUnit_ v L i [.bool l[i].batch,gi l[i].act.dot.rep,gi l[i].act.dot.seq,gi l[i].act.time,kv,gi l[i].act.kind,.str l[i].act.obj,.str l[i].act.key,gi l[i].act.val,gi l[i].act.ref.rep,gi l[i].act.ref.seq,d0,d1,d2,d3,d4,d5])::R)∨(i=l.length∧h= .th (ow kUnit_ v L)::R)
theorem zmU_of {σ τ:St} {v:GV} {l L:List Unit_} {i:Nat} {R:List Item} (H:Hx σ τ (.th (ow kUnit_ v L)::R)) (hle:i≤l.length) (hat:∀ hi:i<l.length,∃ h,L[i]'h=l[i]):∃ h,Hx σ τ h∧zmU v l L i R h:=by
 by_cases hi:i<l.length
 ·obtain⟨hj,e⟩:=hat hi
  obtain⟨cs,Z⟩:=Hp.zoom H.hp hj
  rw[e] at Z
  obtain⟨v1,v2,rfl,Z⟩:=Z.splitUnit_
  obtain⟨kv,rfl,Z⟩:=Z.splitAct
  obtain⟨d0,d1,d2,d3,d4,d5,rfl,Z⟩:=(Z.pick 1 rfl).splitDelta
  refine⟨_,?_,.inl ⟨hi,kv,d0,d1,d2,d3,d4,d5,rfl⟩⟩
  exact Z
 ·exact⟨_,H,.inr ⟨by omega,rfl⟩⟩
set_option maxHeartbeats 4000000 in
theorem l_markUnitS_ret {σ τ:St} {rs:List Thg} (i0:Nat) (v:GV) (l:List Unit_) (k:Int) (H:Hp σ τ rs) (hi0:rs[i0]? =some (ow kUnit_ v l)) (h0:0≤k) (hk:k+(sumL ctU l:Nat)≤4611686018427387904):∃ τ',Ret Tryz.prog n_l_markUnitS [v,gi k] τ (gi (k+(sumL ctU l:Nat))) τ'∧Hp σ τ' (rs.set i0 (ow kUnit_ v (mkRow mUnitE ctU k l))):=by
 have hlt:=(List.getElem?_eq_some_iff.1 hi0).1
 obtain⟨R,hR⟩:∃ R:List Item,R=(rs.eraseIdx i0).map Item.th:=⟨_,rfl⟩
 have H1:Hx σ τ (.th (ow kUnit_ v l)::R):=by rw[hR];exact Hx.of (H.pick i0 hi0)
 have key:∃ w τ',Ret Tryz.prog n_l_markUnitS [v,gi k] τ w τ'∧(w=gi (k+(sumL ctU l:Nat))∧Hx σ τ' (.th (ow kUnit_ v (mkRow mUnitE ctU k l))::R)):=by
  refine ret_x ir_l_markUnitS (Nat.le_of_ble_eq_true rfl) H1 ?_
  have hlen:=(H1.hp.sl 0 rfl).len
  simp +contextual (disch:=omega) only[go_sem,F_l_markUnitS]
  obtain⟨hz,HZ,Z0⟩:=zmU_of (l:=l) (i:=0) H1 (by omega) (fun hi=>⟨hi,rfl⟩)
  refine sx_for l.length 5 0 (fun i env h=>env 0=v∧env 1=gi (k+(sumL ctU (l.take i):Nat))∧zmU v l (mkRow mUnitE ctU k (l.take i)++l.drop i) i R h) (fun env h=>env 1=gi (k+(sumL ctU l:Nat))∧h= .th (ow kUnit_ v (mkRow mUnitE ctU k l))::R) (fun _ _=>False) hz HZ (by simp +contextual (disch:=omega) only[go_sem]) ⟨by simp +contextual (disch:=omega) only[go_sem],by simp +contextual (disch:=omega) only[go_sem];simp[sumL],Z0⟩ ?_ ?_ ?_ (fun _ _ _ _ h=>h.elim)
  ·clear H1 HZ Z0 H hi0
   rintro J Y W hJ hY hW i env h' τ hi ei c0 H ⟨e0,e1,hz⟩
   rcases hz with⟨_,kv,d0,d1,d2,d3,d4,d5,rfl⟩|⟨hz,_⟩
   rotate_left
   ·omega
   obtain⟨q,hq⟩:∃ q,q=k+(sumL ctU (l.take i):Nat):=⟨_,rfl⟩
   have hs:=sumL_snoc (f:=ctU) hi
   have hst:=sumL_take_le ctU l (i+1)
   have hce:ctU l[i]=10+l[i].act.knew.length+ctDelta l[i].delta:=by unfold ctU ctE;omega
   have hqb:0≤q∧q+10+(l[i].act.knew.length:Int)+(ctDelta l[i].delta:Nat)≤4611686018427387904:=by omega
   rw[← hq] at e1
   obtain⟨hj,eL⟩:=mkRow_at (f:=mUnitE) (c:=ctU) (k:=k) hi
   generalize hLL:mkRow mUnitE ctU k (l.take i)++l.drop i=L at*
   obtain⟨z1,z2,z3,_⟩:=H.hole_rd 7 rfl hj
   have z1:iadG 17 v (some i)=some (atz 17 v i):=z1
   have z2:∀ k,fadG k (atz 17 v i)=some (fld k (atz 17 v i)):=z2
   have z3:∀ k m,fadG k (fld m (atz 17 v i))=some (fld (m+k) (atz 17 v i)):=z3
   have hln:=len_sumL (c:=ctU) (fun x=>by unfold ctU;omega) l
   have hib:l.length≤4611686018427387904:=by omega
   have hq':q+10+(l[i].act.knew.length:Int)+(ctDelta l[i].delta:Nat)=k+(sumL ctU (l.take (i+1)):Nat):=by omega
   clear hs hst hce hk hln
   simp +contextual (disch:=omega) only[go_sem,c0,e0,e1,ei,natOf_nat,hlen,z1,z2,z3]
   refine by_sth H 7 rfl hj (d:=kUnit_) (k:=0) rfl (by decide) (by decide) fun τ1 H1=> ?_
   simp +contextual (disch:=omega) only[go_sem,e0,e1,ei,natOf_nat,z1,z2,z3]
   refine by_sth H1 7 rfl hj (d:=kUnit_) (k:=1) rfl (by decide) (by decide) fun τ2 H2=> ?_
   simp +contextual (disch:=omega) only[go_sem,e0,e1,ei,natOf_nat,z1,z2,z3]
   refine by_sth H2 7 rfl hj (d:=kUnit_) (k:=2) rfl (by decide) (by decide) fun τ3 H3=> ?_
   simp +contextual (disch:=omega) only[go_sem,e0,e1,ei,natOf_nat,z1,z2,z3]
   refine by_sth H3 7 rfl hj (d:=kUnit_) (k:=3) rfl (by decide) (by decide) fun τ4 H4=> ?_
   have H4:Hx σ τ4 (.th (ow pI.kd d0 l[i].delta.base)::.th (ow pI.kd d1 l[i].delta.know)::.th (ow pTally.kd d2 l[i].delta.tallies)::.th (ow pLive.kd d3 l[i].delta.lives)::.th (ow pDot.kd d4 l[i].delta.dead)::.th (ow pCell.kd d5 l[i].delta.cells)::.th (ow pI.kd kv l[i].act.knew)::.th (hole kUnit_ v L i [.bool (q.tmod 3==0),gi (q+1),gi (q+1+1),gi (q+1+1+1),kv,gi l[i].act.kind,.str l[i].act.obj,.str l[i].act.key,gi l[i].act.val,gi l[i].act.ref.rep,gi l[i].act.ref.seq,d0,d1,d2,d3,d4,d5])::R):=H4
   have w4:ldX σ _ τ4 false 1 (fld 4 (atz 17 v i))=some kv:=ldX_own H4 ((H4.hole_rd 7 rfl hj).2.2.2 4 1 false (by decide))
   simp +contextual (disch:=omega) only[go_sem,e0,e1,ei,natOf_nat,z1,z2,z3,w4]
   obtain⟨τ5,R5,K5⟩:=l_markIntS_ret 6 kv l[i].act.knew (q+1+1+1+1) H4.hp rfl (by omega) (by omega)
   refine by_mset 6 R5 K5 fun H5=> ?_
   obtain⟨p,hp⟩:∃ p,p=q+1+1+1+1+1*(l[i].act.knew.length:Int):=⟨_,rfl⟩
   have hpb:0≤p∧p+6+(ctDelta l[i].delta:Nat)≤4611686018427387904:=by omega
   have hdl:(ctDelta l[i].delta:Nat)=1*l[i].delta.base.length+1*l[i].delta.know.length+3*l[i].delta.tallies.length+6*l[i].delta.lives.length+2*l[i].delta.dead.length+8*l[i].delta.cells.length:=rfl
   simp +contextual (disch:=omega) only[go_sem,e0,e1,ei,natOf_nat,z1,z2,z3,←hp]
   refine by_sth H5 7 rfl hj (d:=kUnit_) (k:=5) rfl (by decide) (by decide) fun τ6 H6=> ?_
   simp +contextual (disch:=omega) only[go_sem,e0,e1,ei,natOf_nat,z1,z2,z3]
   refine by_r H6 (l_markText_ret _ _ (by omega)) ?_
   simp +contextual (disch:=omega) only[go_sem,e0,e1,ei,natOf_nat,z1,z2,z3]
   refine by_sth H6 7 rfl hj (d:=kUnit_) (k:=6) rfl (by decide) (by decide) fun τ7 H7=> ?_
   simp +contextual (disch:=omega) only[go_sem,e0,e1,ei,natOf_nat,z1,z2,z3]
   refine by_r H7 (l_markText_ret _ _ (by omega)) ?_
   simp +contextual (disch:=omega) only[go_sem,e0,e1,ei,natOf_nat,z1,z2,z3]
   refine by_sth H7 7 rfl hj (d:=kUnit_) (k:=7) rfl (by decide) (by decide) fun τ8 H8=> ?_
   simp +contextual (disch:=omega) only[go_sem,e0,e1,ei,natOf_nat,z1,z2,z3]
   refine by_sth H8 7 rfl hj (d:=kUnit_) (k:=8) rfl (by decide) (by decide) fun τ9 H9=> ?_
   simp +contextual (disch:=omega) only[go_sem,e0,e1,ei,natOf_nat,z1,z2,z3]
   refine by_sth H9 7 rfl hj (d:=kUnit_) (k:=9) rfl (by decide) (by decide) fun τ10 H10=> ?_
   simp +contextual (disch:=omega) only[go_sem,e0,e1,ei,natOf_nat,z1,z2,z3]
   refine by_sth H10 7 rfl hj (d:=kUnit_) (k:=10) rfl (by decide) (by decide) fun τ11 H11=> ?_
   have H11:Hx σ τ11 (.th (ow pI.kd d0 l[i].delta.base)::.th (ow pI.kd d1 l[i].delta.know)::.th (ow pTally.kd d2 l[i].delta.tallies)::.th (ow pLive.kd d3 l[i].delta.lives)::.th (ow pDot.kd d4 l[i].delta.dead)::.th (ow pCell.kd d5 l[i].delta.cells)::.th (ow pI.kd kv (mkF mInt 1 (q+1+1+1+1) l[i].act.knew.length))::.th (hole kUnit_ v L i [.bool (q.tmod 3==0),gi (q+1),gi (q+1+1),gi (q+1+1+1),kv,gi p,.str (mtx (p+1)),.str (mtx (p+1+1)),gi (p+1+1+1),gi (p+1+1+1+1),gi (p+1+1+1+1+1),d0,d1,d2,d3,d4,d5])::R):=H11
   have w11:ldX σ _ τ11 false 1 (fld 11 (atz 17 v i))=some d0:=ldX_own H11 ((H11.hole_rd 7 rfl hj).2.2.2 11 1 false (by decide))
   simp +contextual (disch:=omega) only[go_sem,e0,e1,ei,natOf_nat,z1,z2,z3,w11]
   obtain⟨τ12,R12,K12⟩:=l_markIntS_ret 0 d0 l[i].delta.base (p+1+1+1+1+1+1) H11.hp rfl (by omega) (by omega)
   refine by_mset 0 R12 K12 fun H12=> ?_
   have H12:Hx σ τ12 (.th (ow pI.kd d0 (mkF mInt 1 (p+1+1+1+1+1+1) l[i].delta.base.length))::.th (ow pI.kd d1 l[i].delta.know)::.th (ow pTally.kd d2 l[i].delta.tallies)::.th (ow pLive.kd d3 l[i].delta.lives)::.th (ow pDot.kd d4 l[i].delta.dead)::.th (ow pCell.kd d5 l[i].delta.cells)::.th (ow pI.kd kv (mkF mInt 1 (q+1+1+1+1) l[i].act.knew.length))::.th (hole kUnit_ v L i [.bool (q.tmod 3==0),gi (q+1),gi (q+1+1),gi (q+1+1+1),kv,gi p,.str (mtx (p+1)),.str (mtx (p+1+1)),gi (p+1+1+1),gi (p+1+1+1+1),gi (p+1+1+1+1+1),d0,d1,d2,d3,d4,d5])::R):=H12
   have w12:ldX σ _ τ12 false 1 (fld 12 (atz 17 v i))=some d1:=ldX_own H12 ((H12.hole_rd 7 rfl hj).2.2.2 12 1 false (by decide))
   simp +contextual (disch:=omega) only[go_sem,e0,e1,ei,natOf_nat,z1,z2,z3,w12]
   obtain⟨τ13,R13,K13⟩:=l_markIntS_ret 1 d1 l[i].delta.know (p+1+1+1+1+1+1+1*(l[i].delta.base.length:Int)) H12.hp rfl (by omega) (by omega)
   refine by_mset 1 R13 K13 fun H13=> ?_
   have H13:Hx σ τ13 (.th (ow pI.kd d0 (mkF mInt 1 (p+1+1+1+1+1+1) l[i].delta.base.length))::.th (ow pI.kd d1 (mkF mInt 1 (p+1+1+1+1+1+1+1*(l[i].delta.base.length:Int)) l[i].delta.know.length))::.th (ow pTally.kd d2 l[i].delta.tallies)::.th (ow pLive.kd d3 l[i].delta.lives)::.th (ow pDot.kd d4 l[i].delta.dead)::.th (ow pCell.kd d5 l[i].delta.cells)::.th (ow pI.kd kv (mkF mInt 1 (q+1+1+1+1) l[i].act.knew.length))::.th (hole kUnit_ v L i [.bool (q.tmod 3==0),gi (q+1),gi (q+1+1),gi (q+1+1+1),kv,gi p,.str (mtx (p+1)),.str (mtx (p+1+1)),gi (p+1+1+1),gi (p+1+1+1+1),gi (p+1+1+1+1+1),d0,d1,d2,d3,d4,d5])::R):=H13
   have w13:ldX σ _ τ13 false 1 (fld 13 (atz 17 v i))=some d2:=ldX_own H13 ((H13.hole_rd 7 rfl hj).2.2.2 13 1 false (by decide))
   simp +contextual (disch:=omega) only[go_sem,e0,e1,ei,natOf_nat,z1,z2,z3,w13]
   obtain⟨τ14,R14,K14⟩:=l_markTallyS_ret 2 d2 l[i].delta.tallies (p+1+1+1+1+1+1+1*(l[i].delta.base.length:Int)+1*(l[i].delta.know.length:Int)) H13.hp rfl (by omega) (by omega)
   refine by_mset 2 R14 K14 fun H14=> ?_
   have H14:Hx σ τ14 (.th (ow pI.kd d0 (mkF mInt 1 (p+1+1+1+1+1+1) l[i].delta.base.length))::.th (ow pI.kd d1 (mkF mInt 1 (p+1+1+1+1+1+1+1*(l[i].delta.base.length:Int)) l[i].delta.know.length))::.th (ow pTally.kd d2 (mkF mTally 3 (p+1+1+1+1+1+1+1*(l[i].delta.base.length:Int)+1*(l[i].delta.know.length:Int)) l[i].delta.tallies.length))::.th (ow pLive.kd d3 l[i].delta.lives)::.th (ow pDot.kd d4 l[i].delta.dead)::.th (ow pCell.kd d5 l[i].delta.cells)::.th (ow pI.kd kv (mkF mInt 1 (q+1+1+1+1) l[i].act.knew.length))::.th (hole kUnit_ v L i [.bool (q.tmod 3==0),gi (q+1),gi (q+1+1),gi (q+1+1+1),kv,gi p,.str (mtx (p+1)),.str (mtx (p+1+1)),gi (p+1+1+1),gi (p+1+1+1+1),gi (p+1+1+1+1+1),d0,d1,d2,d3,d4,d5])::R):=H14
   have w14:ldX σ _ τ14 false 1 (fld 14 (atz 17 v i))=some d3:=ldX_own H14 ((H14.hole_rd 7 rfl hj).2.2.2 14 1 false (by decide))
   simp +contextual (disch:=omega) only[go_sem,e0,e1,ei,natOf_nat,z1,z2,z3,w14]
   obtain⟨τ15,R15,K15⟩:=l_markLiveS_ret 3 d3 l[i].delta.lives (p+1+1+1+1+1+1+1*(l[i].delta.base.length:Int)+1*(l[i].delta.know.length:Int)+3*(l[i].delta.tallies.length:Int)) H14.hp rfl (by omega) (by omega)
   refine by_mset 3 R15 K15 fun H15=> ?_
   have H15:Hx σ τ15 (.th (ow pI.kd d0 (mkF mInt 1 (p+1+1+1+1+1+1) l[i].delta.base.length))::.th (ow pI.kd d1 (mkF mInt 1 (p+1+1+1+1+1+1+1*(l[i].delta.base.length:Int)) l[i].delta.know.length))::.th (ow pTally.kd d2 (mkF mTally 3 (p+1+1+1+1+1+1+1*(l[i].delta.base.length:Int)+1*(l[i].delta.know.length:Int)) l[i].delta.tallies.length))::.th (ow pLive.kd d3 (mkF mLive 6 (p+1+1+1+1+1+1+1*(l[i].delta.base.length:Int)+1*(l[i].delta.know.length:Int)+3*(l[i].delta.tallies.length:Int)) l[i].delta.lives.length))::.th (ow pDot.kd d4 l[i].delta.dead)::.th (ow pCell.kd d5 l[i].delta.cells)::.th (ow pI.kd kv (mkF mInt 1 (q+1+1+1+1) l[i].act.knew.length))::.th (hole kUnit_ v L i [.bool (q.tmod 3==0),gi (q+1),gi (q+1+1),gi (q+1+1+1),kv,gi p,.str (mtx (p+1)),.str (mtx (p+1+1)),gi (p+1+1+1),gi (p+1+1+1+1),gi (p+1+1+1+1+1),d0,d1,d2,d3,d4,d5])::R):=H15
   have w15:ldX σ _ τ15 false 1 (fld 15 (atz 17 v i))=some d4:=ldX_own H15 ((H15.hole_rd 7 rfl hj).2.2.2 15 1 false (by decide))
   simp +contextual (disch:=omega) only[go_sem,e0,e1,ei,natOf_nat,z1,z2,z3,w15]
   obtain⟨τ16,R16,K16⟩:=l_markDotS_ret 4 d4 l[i].delta.dead (p+1+1+1+1+1+1+1*(l[i].delta.base.length:Int)+1*(l[i].delta.know.length:Int)+3*(l[i].delta.tallies.length:Int)+6*(l[i].delta.lives.length:Int)) H15.hp rfl (by omega) (by omega)
   refine by_mset 4 R16 K16 fun H16=> ?_
   have H16:Hx σ τ16 (.th (ow pI.kd d0 (mkF mInt 1 (p+1+1+1+1+1+1) l[i].delta.base.length))::.th (ow pI.kd d1 (mkF mInt 1 (p+1+1+1+1+1+1+1*(l[i].delta.base.length:Int)) l[i].delta.know.length))::.th (ow pTally.kd d2 (mkF mTally 3 (p+1+1+1+1+1+1+1*(l[i].delta.base.length:Int)+1*(l[i].delta.know.length:Int)) l[i].delta.tallies.length))::.th (ow pLive.kd d3 (mkF mLive 6 (p+1+1+1+1+1+1+1*(l[i].delta.base.length:Int)+1*(l[i].delta.know.length:Int)+3*(l[i].delta.tallies.length:Int)) l[i].delta.lives.length))::.th (ow pDot.kd d4 (mkF mDot 2 (p+1+1+1+1+1+1+1*(l[i].delta.base.length:Int)+1*(l[i].delta.know.length:Int)+3*(l[i].delta.tallies.length:Int)+6*(l[i].delta.lives.length:Int)) l[i].delta.dead.length))::.th (ow pCell.kd d5 l[i].delta.cells)::.th (ow pI.kd kv (mkF mInt 1 (q+1+1+1+1) l[i].act.knew.length))::.th (hole kUnit_ v L i [.bool (q.tmod 3==0),gi (q+1),gi (q+1+1),gi (q+1+1+1),kv,gi p,.str (mtx (p+1)),.str (mtx (p+1+1)),gi (p+1+1+1),gi (p+1+1+1+1),gi (p+1+1+1+1+1),d0,d1,d2,d3,d4,d5])::R):=H16
   have w16:ldX σ _ τ16 false 1 (fld 16 (atz 17 v i))=some d5:=ldX_own H16 ((H16.hole_rd 7 rfl hj).2.2.2 16 1 false (by decide))
   simp +contextual (disch:=omega) only[go_sem,e0,e1,ei,natOf_nat,z1,z2,z3,w16]
   obtain⟨τ17,R17,K17⟩:=l_markCellS_ret 5 d5 l[i].delta.cells (p+1+1+1+1+1+1+1*(l[i].delta.base.length:Int)+1*(l[i].delta.know.length:Int)+3*(l[i].delta.tallies.length:Int)+6*(l[i].delta.lives.length:Int)+2*(l[i].delta.dead.length:Int)) H16.hp rfl (by omega) (by omega)
   refine by_mset 5 R17 K17 fun H17=> ?_
   simp +contextual (disch:=omega) only[go_sem,e0,e1,ei,natOf_nat,z1,z2,z3]
   have HO:Hx σ τ17 (.th (ow kUnit_ v (L.set i (mUnitE q l[i])))::R):=by
    have A:Hp σ τ17 _:=H17.hp
    have A1:=(Hp.ownDelta (x:=mkDelta (p+1+1+1+1+1+1) l[i].delta) A).pick 1 rfl
    have A2:=Hp.ownAct (x:=mActE (q+1) l[i].act) (v2:=kv) (by simp only[mActE];exact A1)
    have e:mUnitE q l[i]=⟨q.tmod 3==0,mActE (q+1) l[i].act,mkDelta (p+1+1+1+1+1+1) l[i].delta⟩:=by simp only[mUnitE,kU,kE,←hp]
    have A3:=Hp.ownUnit_ (x:=mUnitE q l[i]) (by rw[e];exact A2)
    exact Hp.unzoom (y:=mUnitE q l[i]) (by simp only[mUnitE,mActE,kE,←hp] at A3 ⊢;exact A3) hj
   obtain⟨hz,HZ,Z0⟩:=zmU_of (l:=l) (L:=L.set i (mUnitE q l[i])) (i:=i+1) HO (by omega) (fun h2=>by
    rw[← hLL,mkRow_set (y:=mUnitE q l[i]) hi (by rw[hq])]
    exact mkRow_at h2)
   refine hJ _ _ _ _ HZ ⟨by simp +contextual (disch:=omega) only[go_sem,e0],by simp +contextual (disch:=omega) only[go_sem];first|omega|(congr 1;omega),?_⟩
   rw[← mkRow_set (y:=mUnitE q l[i]) hi (by rw[hq]),hLL];exact Z0
  ·clear H1 HZ Z0 H hi0
   rintro Y hY env h' τ ei c0 H ⟨e0,e1,hz⟩
   rcases hz with⟨hi,_⟩|⟨_,rfl⟩
   ·omega
   simp +contextual (disch:=omega) only[go_sem,c0,e0,ei,hlen]
   exact hY _ _ _ H ⟨by simp +contextual (disch:=omega) only[go_sem,e1,List.take_length],by rw[mkRow_full]⟩
  ·rintro env h' τ H ⟨e1,rfl⟩
   simp +contextual (disch:=omega) only[go_sem,e1]
   exact fun _=>⟨_,rfl,rfl⟩
 obtain⟨w,τ',R',rfl,h⟩:=key
 refine⟨τ',R',?_⟩
 rw[hR] at h
 have h:=h.hp
 rw[List.map_cons,show((rs.eraseIdx i0).map Item.th).map Item.t=rs.eraseIdx i0 by simp[List.map_map,Function.comp_def,Item.t]] at h
 exact h.unpick hlt
end Go.Proofs.YtbeoiejnogdkpaaGreat.Sy
namespace Go.Proofs.YtbeoiejnogdkpaaGreat.Sy
open Go Go.RowKit
set_option linter.unusedSimpArgs false
set_option linter.unusedVariables false
abbrev n_l_heldIntS:Nat:=115
def F_l_heldIntS:Fn1:=⟨21,[.t 4],(.seq (.reg [o 4 (.mov (.k (.int .i64 0)))]) (.seq (.seq (.reg [o 5 (.mov (.k (.int .i64 0)))]) (.blk 0 (.lop (.seq (.seq (.reg [o 6 (.mov (.t 5)),o 7 (.mov (.t 0)),o 8 (.len false (.t 7)),o 9 (.bin .lss (.t 6) (.t 8))]) (.cnd (.t 9) .skip (.ext 0))) (.seq (.blk 1 (.seq (.seq (.reg [o 12 (.mov (.t 0)),o 13 (.mov (.t 5)),o 14 (.iad 1 (.t 12) (.t 13)),o 15 (.ld false 1 (.t 14)),o 16 (.mov (.t 1)),o 17 (.bin .neq (.t 15) (.t 16))]) (.cnd (.t 17) (.seq (.reg [o 4 (.mov (.k (.int .i64 (-1))))]) .ret) .skip)) (.reg [o 18 (.mov (.t 1)),o 19 (.bin .add (.t 18) (.k (.int .i64 1))),o 1 (.mov (.t 19))]))) (.reg [o 10 (.mov (.t 5)),o 11 (.bin .add (.t 10) (.k (.int .i64 1))),o 5 (.mov (.t 11))])))))) (.seq (.reg [o 20 (.mov (.t 1)),o 4 (.mov (.t 20))]) .ret)))⟩
theorem ir_l_heldIntS:compFn Tryz.prog n_l_heldIntS=some F_l_heldIntS:=by kernel_rfl
theorem l_heldIntS_ret (σ:St) (v:GV) (n:Nat) (k:Int) (hR:RS pI.kd σ v (mkF mInt 1 k n)) (h0:0≤k) (hk:k+1*n≤4611686018427387904):Ret Tryz.prog n_l_heldIntS [v,gi k] σ (gi (k+1*n)) σ:=by
 refine ret_eq ir_l_heldIntS (Nat.le_of_ble_eq_true rfl) trivial ?_
 have hln:=hR.len
 rw[mkF_length] at hln
 simp +contextual (disch:=omega) only[go_sem,F_l_heldIntS]
 refine vc_for n 5 (fun i env τ=>env 0=v∧env 1=gi (k+1*(i:Int))∧σ <+: τ) rfl ⟨rfl,(by show gi k=gi (k+1*0);simp),List.prefix_refl _⟩ ?_ ?_
 ·rintro i env τ hi e5 c0 ⟨e0,e1,hp⟩
  have hj:i<(mkF mInt 1 k n).length:=by rw[mkF_length];exact hi
  have hat:=int_at (hR.pre hp) hj
  simp only[mkF_get,mInt] at hat
  simp +contextual (disch:=omega) only[go_sem,c0,e0,e1,e5,hln,hat,hp,bne_self_eq_false,beq_self_eq_true]
  omega
 ·rintro env τ e5 c0 ⟨e0,e1,hp⟩
  simp +contextual (disch:=omega) only[go_sem,c0,e0,e1,e5,hln,hp]
end Go.Proofs.YtbeoiejnogdkpaaGreat.Sy
namespace Go.Proofs.YtbeoiejnogdkpaaGreat.Sy
open Go Go.RowKit
set_option linter.unusedSimpArgs false
set_option linter.unusedVariables false
set_option maxRecDepth 4000
theorem mkRow_get {α:Type} {f:Int→α→α} {c:α→Nat} {l:List α} {i:Nat} {k:Int} (hi:i<l.length):∃ h,(mkRow f c k l)[i]'h=f (k+(sumL c (l.take i):Nat)) l[i]:=by
 have hl:(mkRow f c k (l.take i)).length=i:=by rw[mkRow_len,List.length_take,Nat.min_eq_left (by omega)]
 have e:mkRow f c k l=mkRow f c k (l.take i)++(f (k+(sumL c (l.take i):Nat)) l[i]::mkRow f c (k+(sumL c (l.take i):Nat)+c l[i]) (l.drop (i+1))):=by
  conv=>lhs;rw[← List.take_append_drop i l,←List.getElem_cons_drop hi,mkRow_app]
  rfl
 refine⟨by rw[mkRow_len];exact hi,?_⟩
 simp only[e]
 rw[List.getElem_append_right (by omega)]
 simp[hl]
end Go.Proofs.YtbeoiejnogdkpaaGreat.Sy
namespace Go.Proofs.YtbeoiejnogdkpaaGreat.Sy
open Go Go.RowKit
set_option linter.unusedSimpArgs false
set_option linter.unusedVariables false
abbrev n_l_heldTallyS:Nat:=116
def F_l_heldTallyS:Fn1:=⟨41,[.t 4],(.seq (.reg [o 4 (.mov (.k (.int .i64 0)))]) (.seq (.seq (.reg [o 5 (.mov (.k (.int .i64 0)))]) (.blk 0 (.lop (.seq (.seq (.reg [o 6 (.mov (.t 5)),o 7 (.mov (.t 0)),o 8 (.len false (.t 7)),o 9 (.bin .lss (.t 6) (.t 8))]) (.cnd (.t 9) .skip (.ext 0))) (.seq (.blk 1 (.seq (.seq (.drw [o 12 (.mov (.t 0)),o 13 (.mov (.t 5)),o 14 (.iad 3 (.t 12) (.t 13)),o 15 (.fad 0 (.t 14)),o 16 (.ld false 1 (.t 15)),o 17 (.mov (.t 1)),o 18 (.call 110 [(.t 17)])] [o 19 (.bin .neq (.t 16) (.t 18))]) (.cnd (.t 19) (.seq (.reg [o 4 (.mov (.k (.int .i64 (-1))))]) .ret) .skip)) (.seq (.reg [o 20 (.mov (.t 1)),o 21 (.bin .add (.t 20) (.k (.int .i64 1))),o 1 (.mov (.t 21))]) (.seq (.seq (.reg [o 22 (.mov (.t 0)),o 23 (.mov (.t 5)),o 24 (.iad 3 (.t 22) (.t 23)),o 25 (.fad 1 (.t 24)),o 26 (.ld false 1 (.t 25)),o 27 (.mov (.t 1)),o 28 (.bin .neq (.t 26) (.t 27))]) (.cnd (.t 28) (.seq (.reg [o 4 (.mov (.k (.int .i64 (-1))))]) .ret) .skip)) (.seq (.reg [o 29 (.mov (.t 1)),o 30 (.bin .add (.t 29) (.k (.int .i64 1))),o 1 (.mov (.t 30))]) (.seq (.seq (.reg [o 31 (.mov (.t 0)),o 32 (.mov (.t 5)),o 33 (.iad 3 (.t 31) (.t 32)),o 34 (.fad 2 (.t 33)),o 35 (.ld false 1 (.t 34)),o 36 (.mov (.t 1)),o 37 (.bin .neq (.t 35) (.t 36))]) (.cnd (.t 37) (.seq (.reg [o 4 (.mov (.k (.int .i64 (-1))))]) .ret) .skip)) (.reg [o 38 (.mov (.t 1)),o 39 (.bin .add (.t 38) (.k (.int .i64 1))),o 1 (.mov (.t 39))]))))))) (.reg [o 10 (.mov (.t 5)),o 11 (.bin .add (.t 10) (.k (.int .i64 1))),o 5 (.mov (.t 11))])))))) (.seq (.reg [o 40 (.mov (.t 1)),o 4 (.mov (.t 40))]) .ret)))⟩
theorem ir_l_heldTallyS:compFn Tryz.prog n_l_heldTallyS=some F_l_heldTallyS:=by kernel_rfl
theorem l_heldTallyS_ret (σ:St) (v:GV) (n:Nat) (k:Int) (hR:RS pTally.kd σ v (mkF mTally 3 k n)) (h0:0≤k) (hk:k+3*n≤4611686018427387904):Ret Tryz.prog n_l_heldTallyS [v,gi k] σ (gi (k+3*n)) σ:=by
 refine ret_eq ir_l_heldTallyS (Nat.le_of_ble_eq_true rfl) trivial ?_
 have hln:=hR.len
 rw[mkF_length] at hln
 simp +contextual (disch:=omega) only[go_sem,F_l_heldTallyS]
 refine vc_for n 5 (fun i env τ=>env 0=v∧env 1=gi (k+3*(i:Int))∧σ <+: τ) rfl ⟨rfl,(by show gi k=gi (k+3*0);simp),List.prefix_refl _⟩ ?_ ?_
 ·rintro i env τ hi e5 c0 ⟨e0,e1,hp⟩
  have hj:i<(mkF mTally 3 k n).length:=by rw[mkF_length];exact hi
  have hat:=Tally_at (hR.pre hp) hj
  simp only[mkF_get,mTally] at hat
  simp +contextual (disch:=omega) only[go_sem,c0,e0,e1,e5,hln,hat,hp,bne_self_eq_false,beq_self_eq_true]
  refine by_ret (l_markText_ret _ _ (by omega)) ?_
  simp +contextual (disch:=omega) only[go_sem,c0,e0,e1,e5,hln,hat,hp,bne_self_eq_false,beq_self_eq_true]
  omega
 ·rintro env τ e5 c0 ⟨e0,e1,hp⟩
  simp +contextual (disch:=omega) only[go_sem,c0,e0,e1,e5,hln,hp]
end Go.Proofs.YtbeoiejnogdkpaaGreat.Sy
namespace Go.Proofs.YtbeoiejnogdkpaaGreat.Sy
open Go Go.RowKit
set_option linter.unusedSimpArgs false
set_option linter.unusedVariables false
abbrev n_l_heldLiveS:Nat:=117
def F_l_heldLiveS:Fn1:=⟨73,[.t 4],(.seq (.reg [o 4 (.mov (.k (.int .i64 0)))]) (.seq (.seq (.reg [o 5 (.mov (.k (.int .i64 0)))]) (.blk 0 (.lop (.seq (.seq (.reg [o 6 (.mov (.t 5)),o 7 (.mov (.t 0)),o 8 (.len false (.t 7)),o 9 (.bin .lss (.t 6) (.t 8))]) (.cnd (.t 9) .skip (.ext 0))) (.seq (.blk 1 (.seq (.seq (.reg [o 12 (.mov (.t 0)),o 13 (.mov (.t 5)),o 14 (.iad 6 (.t 12) (.t 13)),o 15 (.fad 0 (.t 14)),o 16 (.ld false 1 (.t 15)),o 17 (.mov (.t 1)),o 18 (.bin .rem (.t 17) (.k (.int .i64 3))),o 19 (.bin .eql (.t 18) (.k (.int .i64 0))),o 20 (.eqb true (.t 16) (.t 19))]) (.cnd (.t 20) (.seq (.reg [o 4 (.mov (.k (.int .i64 (-1))))]) .ret) .skip)) (.seq (.reg [o 21 (.mov (.t 1)),o 22 (.bin .add (.t 21) (.k (.int .i64 1))),o 1 (.mov (.t 22))]) (.seq (.seq (.drw [o 23 (.mov (.t 0)),o 24 (.mov (.t 5)),o 25 (.iad 6 (.t 23) (.t 24)),o 26 (.fad 1 (.t 25)),o 27 (.ld false 1 (.t 26)),o 28 (.mov (.t 1)),o 29 (.call 110 [(.t 28)])] [o 30 (.bin .neq (.t 27) (.t 29))]) (.cnd (.t 30) (.seq (.reg [o 4 (.mov (.k (.int .i64 (-1))))]) .ret) .skip)) (.seq (.reg [o 31 (.mov (.t 1)),o 32 (.bin .add (.t 31) (.k (.int .i64 1))),o 1 (.mov (.t 32))]) (.seq (.seq (.drw [o 33 (.mov (.t 0)),o 34 (.mov (.t 5)),o 35 (.iad 6 (.t 33) (.t 34)),o 36 (.fad 2 (.t 35)),o 37 (.ld false 1 (.t 36)),o 38 (.mov (.t 1)),o 39 (.call 110 [(.t 38)])] [o 40 (.bin .neq (.t 37) (.t 39))]) (.cnd (.t 40) (.seq (.reg [o 4 (.mov (.k (.int .i64 (-1))))]) .ret) .skip)) (.seq (.reg [o 41 (.mov (.t 1)),o 42 (.bin .add (.t 41) (.k (.int .i64 1))),o 1 (.mov (.t 42))]) (.seq (.seq (.reg [o 43 (.mov (.t 0)),o 44 (.mov (.t 5)),o 45 (.iad 6 (.t 43) (.t 44)),o 46 (.fad 3 (.t 45)),o 47 (.ld false 1 (.t 46)),o 48 (.mov (.t 1)),o 49 (.bin .neq (.t 47) (.t 48))]) (.cnd (.t 49) (.seq (.reg [o 4 (.mov (.k (.int .i64 (-1))))]) .ret) .skip)) (.seq (.reg [o 50 (.mov (.t 1)),o 51 (.bin .add (.t 50) (.k (.int .i64 1))),o 1 (.mov (.t 51))]) (.seq (.seq (.reg [o 52 (.mov (.t 0)),o 53 (.mov (.t 5)),o 54 (.iad 6 (.t 52) (.t 53)),o 55 (.fad 4 (.t 54)),o 56 (.fad 0 (.t 55)),o 57 (.ld false 1 (.t 56)),o 58 (.mov (.t 1)),o 59 (.bin .neq (.t 57) (.t 58))]) (.cnd (.t 59) (.seq (.reg [o 4 (.mov (.k (.int .i64 (-1))))]) .ret) .skip)) (.seq (.reg [o 60 (.mov (.t 1)),o 61 (.bin .add (.t 60) (.k (.int .i64 1))),o 1 (.mov (.t 61))]) (.seq (.seq (.reg [o 62 (.mov (.t 0)),o 63 (.mov (.t 5)),o 64 (.iad 6 (.t 62) (.t 63)),o 65 (.fad 4 (.t 64)),o 66 (.fad 1 (.t 65)),o 67 (.ld false 1 (.t 66)),o 68 (.mov (.t 1)),o 69 (.bin .neq (.t 67) (.t 68))]) (.cnd (.t 69) (.seq (.reg [o 4 (.mov (.k (.int .i64 (-1))))]) .ret) .skip)) (.reg [o 70 (.mov (.t 1)),o 71 (.bin .add (.t 70) (.k (.int .i64 1))),o 1 (.mov (.t 71))]))))))))))))) (.reg [o 10 (.mov (.t 5)),o 11 (.bin .add (.t 10) (.k (.int .i64 1))),o 5 (.mov (.t 11))])))))) (.seq (.reg [o 72 (.mov (.t 1)),o 4 (.mov (.t 72))]) .ret)))⟩
theorem ir_l_heldLiveS:compFn Tryz.prog n_l_heldLiveS=some F_l_heldLiveS:=by kernel_rfl
theorem l_heldLiveS_ret (σ:St) (v:GV) (n:Nat) (k:Int) (hR:RS pLive.kd σ v (mkF mLive 6 k n)) (h0:0≤k) (hk:k+6*n≤4611686018427387904):Ret Tryz.prog n_l_heldLiveS [v,gi k] σ (gi (k+6*n)) σ:=by
 refine ret_eq ir_l_heldLiveS (Nat.le_of_ble_eq_true rfl) trivial ?_
 have hln:=hR.len
 rw[mkF_length] at hln
 simp +contextual (disch:=omega) only[go_sem,F_l_heldLiveS]
 refine vc_for n 5 (fun i env τ=>env 0=v∧env 1=gi (k+6*(i:Int))∧σ <+: τ) rfl ⟨rfl,(by show gi k=gi (k+6*0);simp),List.prefix_refl _⟩ ?_ ?_
 ·rintro i env τ hi e5 c0 ⟨e0,e1,hp⟩
  have hj:i<(mkF mLive 6 k n).length:=by rw[mkF_length];exact hi
  have hat:=Live_at (hR.pre hp) hj
  simp only[mkF_get,mLive] at hat
  simp +contextual (disch:=omega) only[go_sem,c0,e0,e1,e5,hln,hat,hp,bne_self_eq_false,beq_self_eq_true]
  refine by_ret (l_markText_ret _ _ (by omega)) ?_
  simp +contextual (disch:=omega) only[go_sem,c0,e0,e1,e5,hln,hat,hp,bne_self_eq_false,beq_self_eq_true]
  refine by_ret (l_markText_ret _ _ (by omega)) ?_
  simp +contextual (disch:=omega) only[go_sem,c0,e0,e1,e5,hln,hat,hp,bne_self_eq_false,beq_self_eq_true]
  omega
 ·rintro env τ e5 c0 ⟨e0,e1,hp⟩
  simp +contextual (disch:=omega) only[go_sem,c0,e0,e1,e5,hln,hp]
end Go.Proofs.YtbeoiejnogdkpaaGreat.Sy
namespace Go.Proofs.YtbeoiejnogdkpaaGreat.Sy
open Go Go.RowKit
set_option linter.unusedSimpArgs false
set_option linter.unusedVariables false
abbrev n_l_heldDotS:Nat:=118
def F_l_heldDotS:Fn1:=⟨31,[.t 4],(.seq (.reg [o 4 (.mov (.k (.int .i64 0)))]) (.seq (.seq (.reg [o 5 (.mov (.k (.int .i64 0)))]) (.blk 0 (.lop (.seq (.seq (.reg [o 6 (.mov (.t 5)),o 7 (.mov (.t 0)),o 8 (.len false (.t 7)),o 9 (.bin .lss (.t 6) (.t 8))]) (.cnd (.t 9) .skip (.ext 0))) (.seq (.blk 1 (.seq (.seq (.reg [o 12 (.mov (.t 0)),o 13 (.mov (.t 5)),o 14 (.iad 2 (.t 12) (.t 13)),o 15 (.fad 0 (.t 14)),o 16 (.ld false 1 (.t 15)),o 17 (.mov (.t 1)),o 18 (.bin .neq (.t 16) (.t 17))]) (.cnd (.t 18) (.seq (.reg [o 4 (.mov (.k (.int .i64 (-1))))]) .ret) .skip)) (.seq (.reg [o 19 (.mov (.t 1)),o 20 (.bin .add (.t 19) (.k (.int .i64 1))),o 1 (.mov (.t 20))]) (.seq (.seq (.reg [o 21 (.mov (.t 0)),o 22 (.mov (.t 5)),o 23 (.iad 2 (.t 21) (.t 22)),o 24 (.fad 1 (.t 23)),o 25 (.ld false 1 (.t 24)),o 26 (.mov (.t 1)),o 27 (.bin .neq (.t 25) (.t 26))]) (.cnd (.t 27) (.seq (.reg [o 4 (.mov (.k (.int .i64 (-1))))]) .ret) .skip)) (.reg [o 28 (.mov (.t 1)),o 29 (.bin .add (.t 28) (.k (.int .i64 1))),o 1 (.mov (.t 29))]))))) (.reg [o 10 (.mov (.t 5)),o 11 (.bin .add (.t 10) (.k (.int .i64 1))),o 5 (.mov (.t 11))])))))) (.seq (.reg [o 30 (.mov (.t 1)),o 4 (.mov (.t 30))]) .ret)))⟩
theorem ir_l_heldDotS:compFn Tryz.prog n_l_heldDotS=some F_l_heldDotS:=by kernel_rfl
theorem l_heldDotS_ret (σ:St) (v:GV) (n:Nat) (k:Int) (hR:RS pDot.kd σ v (mkF mDot 2 k n)) (h0:0≤k) (hk:k+2*n≤4611686018427387904):Ret Tryz.prog n_l_heldDotS [v,gi k] σ (gi (k+2*n)) σ:=by
 refine ret_eq ir_l_heldDotS (Nat.le_of_ble_eq_true rfl) trivial ?_
 have hln:=hR.len
 rw[mkF_length] at hln
 simp +contextual (disch:=omega) only[go_sem,F_l_heldDotS]
 refine vc_for n 5 (fun i env τ=>env 0=v∧env 1=gi (k+2*(i:Int))∧σ <+: τ) rfl ⟨rfl,(by show gi k=gi (k+2*0);simp),List.prefix_refl _⟩ ?_ ?_
 ·rintro i env τ hi e5 c0 ⟨e0,e1,hp⟩
  have hj:i<(mkF mDot 2 k n).length:=by rw[mkF_length];exact hi
  have hat:=Dot_at (hR.pre hp) hj
  simp only[mkF_get,mDot] at hat
  simp +contextual (disch:=omega) only[go_sem,c0,e0,e1,e5,hln,hat,hp,bne_self_eq_false,beq_self_eq_true]
  omega
 ·rintro env τ e5 c0 ⟨e0,e1,hp⟩
  simp +contextual (disch:=omega) only[go_sem,c0,e0,e1,e5,hln,hp]
end Go.Proofs.YtbeoiejnogdkpaaGreat.Sy
namespace Go.Proofs.YtbeoiejnogdkpaaGreat.Sy
open Go Go.RowKit
set_option linter.unusedSimpArgs false
set_option linter.unusedVariables false
abbrev n_l_heldCellS:Nat:=119
def F_l_heldCellS:Fn1:=⟨92,[.t 4],(.seq (.reg [o 4 (.mov (.k (.int .i64 0)))]) (.seq (.seq (.reg [o 5 (.mov (.k (.int .i64 0)))]) (.blk 0 (.lop (.seq (.seq (.reg [o 6 (.mov (.t 5)),o 7 (.mov (.t 0)),o 8 (.len false (.t 7)),o 9 (.bin .lss (.t 6) (.t 8))]) (.cnd (.t 9) .skip (.ext 0))) (.seq (.blk 1 (.seq (.seq (.drw [o 12 (.mov (.t 0)),o 13 (.mov (.t 5)),o 14 (.iad 8 (.t 12) (.t 13)),o 15 (.fad 0 (.t 14)),o 16 (.ld false 1 (.t 15)),o 17 (.mov (.t 1)),o 18 (.call 110 [(.t 17)])] [o 19 (.bin .neq (.t 16) (.t 18))]) (.cnd (.t 19) (.seq (.reg [o 4 (.mov (.k (.int .i64 (-1))))]) .ret) .skip)) (.seq (.reg [o 20 (.mov (.t 1)),o 21 (.bin .add (.t 20) (.k (.int .i64 1))),o 1 (.mov (.t 21))]) (.seq (.seq (.reg [o 22 (.mov (.t 0)),o 23 (.mov (.t 5)),o 24 (.iad 8 (.t 22) (.t 23)),o 25 (.fad 1 (.t 24)),o 26 (.fad 0 (.t 25)),o 27 (.ld false 1 (.t 26)),o 28 (.mov (.t 1)),o 29 (.bin .neq (.t 27) (.t 28))]) (.cnd (.t 29) (.seq (.reg [o 4 (.mov (.k (.int .i64 (-1))))]) .ret) .skip)) (.seq (.reg [o 30 (.mov (.t 1)),o 31 (.bin .add (.t 30) (.k (.int .i64 1))),o 1 (.mov (.t 31))]) (.seq (.seq (.reg [o 32 (.mov (.t 0)),o 33 (.mov (.t 5)),o 34 (.iad 8 (.t 32) (.t 33)),o 35 (.fad 1 (.t 34)),o 36 (.fad 1 (.t 35)),o 37 (.ld false 1 (.t 36)),o 38 (.mov (.t 1)),o 39 (.bin .neq (.t 37) (.t 38))]) (.cnd (.t 39) (.seq (.reg [o 4 (.mov (.k (.int .i64 (-1))))]) .ret) .skip)) (.seq (.reg [o 40 (.mov (.t 1)),o 41 (.bin .add (.t 40) (.k (.int .i64 1))),o 1 (.mov (.t 41))]) (.seq (.seq (.reg [o 42 (.mov (.t 0)),o 43 (.mov (.t 5)),o 44 (.iad 8 (.t 42) (.t 43)),o 45 (.fad 3 (.t 44)),o 46 (.ld false 1 (.t 45)),o 47 (.mov (.t 1)),o 48 (.bin .neq (.t 46) (.t 47))]) (.cnd (.t 48) (.seq (.reg [o 4 (.mov (.k (.int .i64 (-1))))]) .ret) .skip)) (.seq (.reg [o 49 (.mov (.t 1)),o 50 (.bin .add (.t 49) (.k (.int .i64 1))),o 1 (.mov (.t 50))]) (.seq (.seq (.reg [o 51 (.mov (.t 0)),o 52 (.mov (.t 5)),o 53 (.iad 8 (.t 51) (.t 52)),o 54 (.fad 4 (.t 53)),o 55 (.fad 0 (.t 54)),o 56 (.ld false 1 (.t 55)),o 57 (.mov (.t 1)),o 58 (.bin .neq (.t 56) (.t 57))]) (.cnd (.t 58) (.seq (.reg [o 4 (.mov (.k (.int .i64 (-1))))]) .ret) .skip)) (.seq (.reg [o 59 (.mov (.t 1)),o 60 (.bin .add (.t 59) (.k (.int .i64 1))),o 1 (.mov (.t 60))]) (.seq (.seq (.reg [o 61 (.mov (.t 0)),o 62 (.mov (.t 5)),o 63 (.iad 8 (.t 61) (.t 62)),o 64 (.fad 4 (.t 63)),o 65 (.fad 1 (.t 64)),o 66 (.ld false 1 (.t 65)),o 67 (.mov (.t 1)),o 68 (.bin .neq (.t 66) (.t 67))]) (.cnd (.t 68) (.seq (.reg [o 4 (.mov (.k (.int .i64 (-1))))]) .ret) .skip)) (.seq (.reg [o 69 (.mov (.t 1)),o 70 (.bin .add (.t 69) (.k (.int .i64 1))),o 1 (.mov (.t 70))]) (.seq (.seq (.reg [o 71 (.mov (.t 0)),o 72 (.mov (.t 5)),o 73 (.iad 8 (.t 71) (.t 72)),o 74 (.fad 6 (.t 73)),o 75 (.ld false 1 (.t 74)),o 76 (.mov (.t 1)),o 77 (.bin .neq (.t 75) (.t 76))]) (.cnd (.t 77) (.seq (.reg [o 4 (.mov (.k (.int .i64 (-1))))]) .ret) .skip)) (.seq (.reg [o 78 (.mov (.t 1)),o 79 (.bin .add (.t 78) (.k (.int .i64 1))),o 1 (.mov (.t 79))]) (.seq (.seq (.reg [o 80 (.mov (.t 0)),o 81 (.mov (.t 5)),o 82 (.iad 8 (.t 80) (.t 81)),o 83 (.fad 7 (.t 82)),o 84 (.ld false 1 (.t 83)),o 85 (.mov (.t 1)),o 86 (.bin .rem (.t 85) (.k (.int .i64 3))),o 87 (.bin .eql (.t 86) (.k (.int .i64 0))),o 88 (.eqb true (.t 84) (.t 87))]) (.cnd (.t 88) (.seq (.reg [o 4 (.mov (.k (.int .i64 (-1))))]) .ret) .skip)) (.reg [o 89 (.mov (.t 1)),o 90 (.bin .add (.t 89) (.k (.int .i64 1))),o 1 (.mov (.t 90))]))))))))))))))))) (.reg [o 10 (.mov (.t 5)),o 11 (.bin .add (.t 10) (.k (.int .i64 1))),o 5 (.mov (.t 11))])))))) (.seq (.reg [o 91 (.mov (.t 1)),o 4 (.mov (.t 91))]) .ret)))⟩
theorem ir_l_heldCellS:compFn Tryz.prog n_l_heldCellS=some F_l_heldCellS:=by kernel_rfl
theorem l_heldCellS_ret (σ:St) (v:GV) (n:Nat) (k:Int) (hR:RS pCell.kd σ v (mkF mCell 8 k n)) (h0:0≤k) (hk:k+8*n≤4611686018427387904):Ret Tryz.prog n_l_heldCellS [v,gi k] σ (gi (k+8*n)) σ:=by
 refine ret_eq ir_l_heldCellS (Nat.le_of_ble_eq_true rfl) trivial ?_
 have hln:=hR.len
 rw[mkF_length] at hln
 simp +contextual (maxSteps:=600000) (disch:=omega) only[go_sem,F_l_heldCellS]
 refine vc_for n 5 (fun i env τ=>env 0=v∧env 1=gi (k+8*(i:Int))∧σ <+: τ) rfl ⟨rfl,(by show gi k=gi (k+8*0);simp),List.prefix_refl _⟩ ?_ ?_
 ·rintro i env τ hi e5 c0 ⟨e0,e1,hp⟩
  have hj:i<(mkF mCell 8 k n).length:=by rw[mkF_length];exact hi
  have hat:=Cell_at (hR.pre hp) hj
  simp only[mkF_get,mCell] at hat
  simp +contextual (maxSteps:=600000) (disch:=omega) only[go_sem,c0,e0,e1,e5,hln,hat,hp,bne_self_eq_false,beq_self_eq_true]
  refine by_ret (l_markText_ret _ _ (by omega)) ?_
  simp +contextual (maxSteps:=600000) (disch:=omega) only[go_sem,c0,e0,e1,e5,hln,hat,hp,bne_self_eq_false,beq_self_eq_true]
  omega
 ·rintro env τ e5 c0 ⟨e0,e1,hp⟩
  simp +contextual (maxSteps:=600000) (disch:=omega) only[go_sem,c0,e0,e1,e5,hln,hp]
end Go.Proofs.YtbeoiejnogdkpaaGreat.Sy
namespace Go.Proofs.YtbeoiejnogdkpaaGreat.Sy
open Go Go.RowKit
set_option linter.unusedSimpArgs false
set_option linter.unusedVariables false
set_option maxRecDepth 4000
abbrev n_l_heldUnitS:Nat:=17
def F_l_heldUnitS:Fn1:=⟨190,[.t 4],(.seq (.reg [o 4 (.mov (.k (.int .i64 0)))]) (.seq (.seq (.reg [o 5 (.mov (.k (.int .i64 0)))]) (.blk 0 (.lop (.seq (.seq (.reg [o 6 (.mov (.t 5)),o 7 (.mov (.t 0)),o 8 (.len false (.t 7)),o 9 (.bin .lss (.t 6) (.t 8))]) (.cnd (.t 9) .skip (.ext 0))) (.seq (.blk 1 (.seq (.seq (.reg [o 12 (.mov (.t 0)),o 13 (.mov (.t 5)),o 14 (.iad 17 (.t 12) (.t 13)),o 15 (.fad 0 (.t 14)),o 16 (.ld false 1 (.t 15)),o 17 (.mov (.t 1)),o 18 (.bin .rem (.t 17) (.k (.int .i64 3))),o 19 (.bin .eql (.t 18) (.k (.int .i64 0))),o 20 (.eqb true (.t 16) (.t 19))]) (.cnd (.t 20) (.seq (.reg [o 4 (.mov (.k (.int .i64 (-1))))]) .ret) .skip)) (.seq (.reg [o 21 (.mov (.t 1)),o 22 (.bin .add (.t 21) (.k (.int .i64 1))),o 1 (.mov (.t 22))]) (.seq (.seq (.reg [o 23 (.mov (.t 0)),o 24 (.mov (.t 5)),o 25 (.iad 17 (.t 23) (.t 24)),o 26 (.fad 1 (.t 25)),o 27 (.fad 0 (.t 26)),o 28 (.fad 0 (.t 27)),o 29 (.ld false 1 (.t 28)),o 30 (.mov (.t 1)),o 31 (.bin .neq (.t 29) (.t 30))]) (.cnd (.t 31) (.seq (.reg [o 4 (.mov (.k (.int .i64 (-1))))]) .ret) .skip)) (.seq (.reg [o 32 (.mov (.t 1)),o 33 (.bin .add (.t 32) (.k (.int .i64 1))),o 1 (.mov (.t 33))]) (.seq (.seq (.reg [o 34 (.mov (.t 0)),o 35 (.mov (.t 5)),o 36 (.iad 17 (.t 34) (.t 35)),o 37 (.fad 1 (.t 36)),o 38 (.fad 0 (.t 37)),o 39 (.fad 1 (.t 38)),o 40 (.ld false 1 (.t 39)),o 41 (.mov (.t 1)),o 42 (.bin .neq (.t 40) (.t 41))]) (.cnd (.t 42) (.seq (.reg [o 4 (.mov (.k (.int .i64 (-1))))]) .ret) .skip)) (.seq (.reg [o 43 (.mov (.t 1)),o 44 (.bin .add (.t 43) (.k (.int .i64 1))),o 1 (.mov (.t 44))]) (.seq (.seq (.reg [o 45 (.mov (.t 0)),o 46 (.mov (.t 5)),o 47 (.iad 17 (.t 45) (.t 46)),o 48 (.fad 1 (.t 47)),o 49 (.fad 2 (.t 48)),o 50 (.ld false 1 (.t 49)),o 51 (.mov (.t 1)),o 52 (.bin .neq (.t 50) (.t 51))]) (.cnd (.t 52) (.seq (.reg [o 4 (.mov (.k (.int .i64 (-1))))]) .ret) .skip)) (.seq (.reg [o 53 (.mov (.t 1)),o 54 (.bin .add (.t 53) (.k (.int .i64 1))),o 1 (.mov (.t 54))]) (.seq (.reg [o 55 (.mov (.t 0)),o 56 (.mov (.t 5)),o 57 (.iad 17 (.t 55) (.t 56)),o 58 (.fad 1 (.t 57)),o 59 (.fad 3 (.t 58)),o 60 (.ld false 1 (.t 59)),o 61 (.mov (.t 1)),o 62 (.call 115 [(.t 60),(.t 61)]),o 1 (.mov (.t 62))]) (.seq (.seq (.reg [o 63 (.mov (.t 1)),o 64 (.bin .lss (.t 63) (.k (.int .i64 0)))]) (.cnd (.t 64) (.seq (.reg [o 4 (.mov (.k (.int .i64 (-1))))]) .ret) .skip)) (.seq (.seq (.reg [o 65 (.mov (.t 0)),o 66 (.mov (.t 5)),o 67 (.iad 17 (.t 65) (.t 66)),o 68 (.fad 1 (.t 67)),o 69 (.fad 4 (.t 68)),o 70 (.ld false 1 (.t 69)),o 71 (.mov (.t 1)),o 72 (.bin .neq (.t 70) (.t 71))]) (.cnd (.t 72) (.seq (.reg [o 4 (.mov (.k (.int .i64 (-1))))]) .ret) .skip)) (.seq (.reg [o 73 (.mov (.t 1)),o 74 (.bin .add (.t 73) (.k (.int .i64 1))),o 1 (.mov (.t 74))]) (.seq (.seq (.drw [o 75 (.mov (.t 0)),o 76 (.mov (.t 5)),o 77 (.iad 17 (.t 75) (.t 76)),o 78 (.fad 1 (.t 77)),o 79 (.fad 5 (.t 78)),o 80 (.ld false 1 (.t 79)),o 81 (.mov (.t 1)),o 82 (.call 110 [(.t 81)])] [o 83 (.bin .neq (.t 80) (.t 82))]) (.cnd (.t 83) (.seq (.reg [o 4 (.mov (.k (.int .i64 (-1))))]) .ret) .skip)) (.seq (.reg [o 84 (.mov (.t 1)),o 85 (.bin .add (.t 84) (.k (.int .i64 1))),o 1 (.mov (.t 85))]) (.seq (.seq (.drw [o 86 (.mov (.t 0)),o 87 (.mov (.t 5)),o 88 (.iad 17 (.t 86) (.t 87)),o 89 (.fad 1 (.t 88)),o 90 (.fad 6 (.t 89)),o 91 (.ld false 1 (.t 90)),o 92 (.mov (.t 1)),o 93 (.call 110 [(.t 92)])] [o 94 (.bin .neq (.t 91) (.t 93))]) (.cnd (.t 94) (.seq (.reg [o 4 (.mov (.k (.int .i64 (-1))))]) .ret) .skip)) (.seq (.reg [o 95 (.mov (.t 1)),o 96 (.bin .add (.t 95) (.k (.int .i64 1))),o 1 (.mov (.t 96))]) (.seq (.seq (.reg [o 97 (.mov (.t 0)),o 98 (.mov (.t 5)),o 99 (.iad 17 (.t 97) (.t 98)),o 100 (.fad 1 (.t 99)),o 101 (.fad 7 (.t 100)),o 102 (.ld false 1 (.t 101)),o 103 (.mov (.t 1)),o 104 (.bin .neq (.t 102) (.t 103))]) (.cnd (.t 104) (.seq (.reg [o 4 (.mov (.k (.int .i64 (-1))))]) .ret) .skip)) (.seq (.reg [o 105 (.mov (.t 1)),o 106 (.bin .add (.t 105) (.k (.int .i64 1))),o 1 (.mov (.t 106))]) (.seq (.seq (.reg [o 107 (.mov (.t 0)),o 108 (.mov (.t 5)),o 109 (.iad 17 (.t 107) (.t 108)),o 110 (.fad 1 (.t 109)),o 111 (.fad 8 (.t 110)),o 112 (.fad 0 (.t 111)),o 113 (.ld false 1 (.t 112)),o 114 (.mov (.t 1)),o 115 (.bin .neq (.t 113) (.t 114))]) (.cnd (.t 115) (.seq (.reg [o 4 (.mov (.k (.int .i64 (-1))))]) .ret) .skip)) (.seq (.reg [o 116 (.mov (.t 1)),o 117 (.bin .add (.t 116) (.k (.int .i64 1))),o 1 (.mov (.t 117))]) (.seq (.seq (.reg [o 118 (.mov (.t 0)),o 119 (.mov (.t 5)),o 120 (.iad 17 (.t 118) (.t 119)),o 121 (.fad 1 (.t 120)),o 122 (.fad 8 (.t 121)),o 123 (.fad 1 (.t 122)),o 124 (.ld false 1 (.t 123)),o 125 (.mov (.t 1)),o 126 (.bin .neq (.t 124) (.t 125))]) (.cnd (.t 126) (.seq (.reg [o 4 (.mov (.k (.int .i64 (-1))))]) .ret) .skip)) (.seq (.reg [o 127 (.mov (.t 1)),o 128 (.bin .add (.t 127) (.k (.int .i64 1))),o 1 (.mov (.t 128))]) (.seq (.reg [o 129 (.mov (.t 0)),o 130 (.mov (.t 5)),o 131 (.iad 17 (.t 129) (.t 130)),o 132 (.fad 11 (.t 131)),o 133 (.fad 0 (.t 132)),o 134 (.ld false 1 (.t 133)),o 135 (.mov (.t 1)),o 136 (.call 115 [(.t 134),(.t 135)]),o 1 (.mov (.t 136))]) (.seq (.seq (.reg [o 137 (.mov (.t 1)),o 138 (.bin .lss (.t 137) (.k (.int .i64 0)))]) (.cnd (.t 138) (.seq (.reg [o 4 (.mov (.k (.int .i64 (-1))))]) .ret) .skip)) (.seq (.reg [o 139 (.mov (.t 0)),o 140 (.mov (.t 5)),o 141 (.iad 17 (.t 139) (.t 140)),o 142 (.fad 11 (.t 141)),o 143 (.fad 1 (.t 142)),o 144 (.ld false 1 (.t 143)),o 145 (.mov (.t 1)),o 146 (.call 115 [(.t 144),(.t 145)]),o 1 (.mov (.t 146))]) (.seq (.seq (.reg [o 147 (.mov (.t 1)),o 148 (.bin .lss (.t 147) (.k (.int .i64 0)))]) (.cnd (.t 148) (.seq (.reg [o 4 (.mov (.k (.int .i64 (-1))))]) .ret) .skip)) (.seq (.reg [o 149 (.mov (.t 0)),o 150 (.mov (.t 5)),o 151 (.iad 17 (.t 149) (.t 150)),o 152 (.fad 11 (.t 151)),o 153 (.fad 2 (.t 152)),o 154 (.ld false 1 (.t 153)),o 155 (.mov (.t 1)),o 156 (.call 116 [(.t 154),(.t 155)]),o 1 (.mov (.t 156))]) (.seq (.seq (.reg [o 157 (.mov (.t 1)),o 158 (.bin .lss (.t 157) (.k (.int .i64 0)))]) (.cnd (.t 158) (.seq (.reg [o 4 (.mov (.k (.int .i64 (-1))))]) .ret) .skip)) (.seq (.reg [o 159 (.mov (.t 0)),o 160 (.mov (.t 5)),o 161 (.iad 17 (.t 159) (.t 160)),o 162 (.fad 11 (.t 161)),o 163 (.fad 3 (.t 162)),o 164 (.ld false 1 (.t 163)),o 165 (.mov (.t 1)),o 166 (.call 117 [(.t 164),(.t 165)]),o 1 (.mov (.t 166))]) (.seq (.seq (.reg [o 167 (.mov (.t 1)),o 168 (.bin .lss (.t 167) (.k (.int .i64 0)))]) (.cnd (.t 168) (.seq (.reg [o 4 (.mov (.k (.int .i64 (-1))))]) .ret) .skip)) (.seq (.reg [o 169 (.mov (.t 0)),o 170 (.mov (.t 5)),o 171 (.iad 17 (.t 169) (.t 170)),o 172 (.fad 11 (.t 171)),o 173 (.fad 4 (.t 172)),o 174 (.ld false 1 (.t 173)),o 175 (.mov (.t 1)),o 176 (.call 118 [(.t 174),(.t 175)]),o 1 (.mov (.t 176))]) (.seq (.seq (.reg [o 177 (.mov (.t 1)),o 178 (.bin .lss (.t 177) (.k (.int .i64 0)))]) (.cnd (.t 178) (.seq (.reg [o 4 (.mov (.k (.int .i64 (-1))))]) .ret) .skip)) (.seq (.reg [o 179 (.mov (.t 0)),o 180 (.mov (.t 5)),o 181 (.iad 17 (.t 179) (.t 180)),o 182 (.fad 11 (.t 181)),o 183 (.fad 5 (.t 182)),o 184 (.ld false 1 (.t 183)),o 185 (.mov (.t 1)),o 186 (.call 119 [(.t 184),(.t 185)]),o 1 (.mov (.t 186))]) (.seq (.reg [o 187 (.mov (.t 1)),o 188 (.bin .lss (.t 187) (.k (.int .i64 0)))]) (.cnd (.t 188) (.seq (.reg [o 4 (.mov (.k (.int .i64 (-1))))]) .ret) .skip)))))))))))))))))))))))))))))))))))) (.reg [o 10 (.mov (.t 5)),o 11 (.bin .add (.t 10) (.k (.int .i64 1))),o 5 (.mov (.t 11))])))))) (.seq (.reg [o 189 (.mov (.t 1)),o 4 (.mov (.t 189))]) .ret)))⟩
theorem ir_l_heldUnitS:compFn Tryz.prog n_l_heldUnitS=some F_l_heldUnitS:=by kernel_rfl
theorem unit_fld {σ:St} {v:GV} {l:List Unit_} (h:RS kUnit_ σ v l) {i:Nat} (hi:i<l.length):∃ kv d0 d1 d2 d3 d4 d5,(iadG 17 v (some i)=some (atz 17 v i)∧(∀ k,fadG k (atz 17 v i)=some (fld k (atz 17 v i)))∧(∀ k m,fadG k (fld m (atz 17 v i))=some (fld (m+k) (atz 17 v i)))∧ldG false 1 σ (fld 0 (atz 17 v i))=some (.bool l[i].batch)∧ldG false 1 σ (fld 1 (atz 17 v i))=some (gi l[i].act.dot.rep)∧ldG false 1 σ (fld 2 (atz 17 v i))=some (gi l[i].act.dot.seq)∧ldG false 1 σ (fld 3 (atz 17 v i))=some (gi l[i].act.time)∧ldG false 1 σ (fld 4 (atz 17 v i))=some (kv)∧ldG false 1 σ (fld 5 (atz 17 v i))=some (gi l[i].act.kind)∧ldG false 1 σ (fld 6 (atz 17 v i))=some (.str l[i].act.obj)∧ldG false 1 σ (fld 7 (atz 17 v i))=some (.str l[i].act.key)∧ldG false 1 σ (fld 8 (atz 17 v i))=some (gi l[i].act.val)∧ldG false 1 σ (fld 9 (atz 17 v i))=some (gi l[i].act.ref.rep)∧ldG false 1 σ (fld 10 (atz 17 v i))=some (gi l[i].act.ref.seq)∧ldG false 1 σ (fld 11 (atz 17 v i))=some (d0)∧ldG false 1 σ (fld 12 (atz 17 v i))=some (d1)∧ldG false 1 σ (fld 13 (atz 17 v i))=some (d2)∧ldG false 1 σ (fld 14 (atz 17 v i))=some (d3)∧ldG false 1 σ (fld 15 (atz 17 v i))=some (d4)∧ldG false 1 σ (fld 16 (atz 17 v i))=some (d5))∧kAct.R σ l[i].act (actV l[i].act kv)∧kDelta.R σ l[i].delta [d0,d1,d2,d3,d4,d5]:=by
 obtain⟨cs,⟨h1,h2,h3,h4,h5⟩,h6⟩:=RdN.cellsN h hi
 obtain⟨kv,d0,d1,d2,d3,d4,d5,rfl,hA,hD⟩:=unit_cells h6
 exact⟨kv,d0,d1,d2,d3,d4,d5,⟨h1,h2,h3,h5 0 1 false (by decide),h5 1 1 false (by decide),h5 2 1 false (by decide),h5 3 1 false (by decide),h5 4 1 false (by decide),h5 5 1 false (by decide),h5 6 1 false (by decide),h5 7 1 false (by decide),h5 8 1 false (by decide),h5 9 1 false (by decide),h5 10 1 false (by decide),h5 11 1 false (by decide),h5 12 1 false (by decide),h5 13 1 false (by decide),h5 14 1 false (by decide),h5 15 1 false (by decide),h5 16 1 false (by decide)⟩,hA,hD⟩
set_option maxHeartbeats 4000000 in
theorem l_heldUnitS_ret (σ:St) (v:GV) (l:List Unit_) (k:Int) (hR:RS kUnit_ σ v (mkRow mUnitE ctU k l)) (h0:0≤k) (hk:k+(sumL ctU l:Nat)≤4611686018427387904):Ret Tryz.prog n_l_heldUnitS [v,gi k] σ (gi (k+(sumL ctU l:Nat))) σ:=by
 refine ret_xe ir_l_heldUnitS (Nat.le_of_ble_eq_true rfl) trivial ?_
 have hlen:=hR.len
 rw[mkRow_len] at hlen
 simp +contextual (disch:=omega) only[go_sem,F_l_heldUnitS]
 refine sx_for l.length 5 0 (fun i env h=>env 0=v∧env 1=gi (k+(sumL ctU (l.take i):Nat))∧h=[]) (fun env h=>env 1=gi (k+(sumL ctU l:Nat))) (fun _ _=>False) _ (Hx.refl σ) (by simp +contextual (disch:=omega) only[go_sem]) ⟨by simp +contextual (disch:=omega) only[go_sem],by simp +contextual (disch:=omega) only[go_sem];simp[sumL],rfl⟩ ?_ ?_ ?_ (fun _ _ _ _ h=>h.elim)
 ·rintro J Y W hJ hY hW i env h' τ hi ei c0 H ⟨e0,e1,rfl⟩
  obtain⟨q,hq⟩:∃ q,q=k+(sumL ctU (l.take i):Nat):=⟨_,rfl⟩
  have hs:=sumL_snoc (f:=ctU) hi
  have hst:=sumL_take_le ctU l (i+1)
  have hce:ctU l[i]=10+l[i].act.knew.length+ctDelta l[i].delta:=by unfold ctU ctE;omega
  have hqb:0≤q∧q+10+(l[i].act.knew.length:Int)+(ctDelta l[i].delta:Nat)≤4611686018427387904:=by omega
  rw[← hq] at e1
  obtain⟨hj,eL⟩:=mkRow_get (f:=mUnitE) (c:=ctU) (k:=k) hi
  obtain⟨kv,d0,d1,d2,d3,d4,d5,U,⟨_,ek,hkv⟩,g0,g1,g2,g3,g4,g5,ed,q0,q1,q2,q3,q4,q5⟩:=unit_fld hR hj
  cases ek
  cases ed
  rw[eL,←hq] at hkv q0 q1 q2 q3 q4 q5
  simp only[eL,←hq,mUnitE,mActE] at U hkv
  simp only[mUnitE,mkDelta] at q0 q1 q2 q3 q4 q5
  have hln:=len_sumL (c:=ctU) (fun x=>by unfold ctU;omega) l
  have hib:l.length≤4611686018427387904:=by omega
  have hq':q+10+(l[i].act.knew.length:Int)+(ctDelta l[i].delta:Nat)=k+(sumL ctU (l.take (i+1)):Nat):=by omega
  obtain⟨p,hp⟩:∃ p,p=q+1+1+1+1+1*(l[i].act.knew.length:Int):=⟨_,rfl⟩
  have hdl:(ctDelta l[i].delta:Nat)=1*l[i].delta.base.length+1*l[i].delta.know.length+3*l[i].delta.tallies.length+6*l[i].delta.lives.length+2*l[i].delta.dead.length+8*l[i].delta.cells.length:=rfl
  have hpb:0≤p∧p+6+(ctDelta l[i].delta:Nat)≤4611686018427387904:=by omega
  clear hs hst hce hk hln
  have ekE:kE (q+1) l[i].act=p:=by rw[hp];rfl
  have ekU:kU q l[i]=p+1+1+1+1+1+1:=by unfold kU;rw[ekE]
  rw[ekE] at U
  rw[ekU] at q0 q1 q2 q3 q4 q5
  simp +contextual (disch:=omega) only[go_sem,c0,e0,e1,ei,natOf_nat,hlen,U,bne_self_eq_false,beq_self_eq_true]
  refine by_r H (l_heldIntS_ret τ kv l[i].act.knew.length (q+1+1+1+1) (hkv.pre H.sub) (by omega) (by omega)) ?_
  have hpn:decide (p<0)=false:=decide_eq_false (by omega)
  simp +contextual (disch:=omega) only[go_sem,c0,e0,e1,ei,natOf_nat,hlen,U,←hp,hpn,bne_self_eq_false,beq_self_eq_true]
  refine by_r H (l_markText_ret _ _ (by omega)) ?_
  simp +contextual (disch:=omega) only[go_sem,c0,e0,e1,ei,natOf_nat,hlen,U,bne_self_eq_false,beq_self_eq_true]
  refine by_r H (l_markText_ret _ _ (by omega)) ?_
  simp +contextual (disch:=omega) only[go_sem,c0,e0,e1,ei,natOf_nat,hlen,U,bne_self_eq_false,beq_self_eq_true]
  refine by_r H (l_heldIntS_ret τ d0 l[i].delta.base.length (p+1+1+1+1+1+1) (q0.pre H.sub) (by omega) (by omega)) ?_
  have hn0:decide (p+1+1+1+1+1+1+1*(l[i].delta.base.length:Int)<0)=false:=decide_eq_false (by omega)
  simp +contextual (disch:=omega) only[go_sem,c0,e0,e1,ei,natOf_nat,hlen,U,hn0,bne_self_eq_false,beq_self_eq_true]
  refine by_r H (l_heldIntS_ret τ d1 l[i].delta.know.length (p+1+1+1+1+1+1+1*(l[i].delta.base.length:Int)) (q1.pre H.sub) (by omega) (by omega)) ?_
  have hn1:decide (p+1+1+1+1+1+1+1*(l[i].delta.base.length:Int)+1*(l[i].delta.know.length:Int)<0)=false:=decide_eq_false (by omega)
  simp +contextual (disch:=omega) only[go_sem,c0,e0,e1,ei,natOf_nat,hlen,U,hn1,bne_self_eq_false,beq_self_eq_true]
  refine by_r H (l_heldTallyS_ret τ d2 l[i].delta.tallies.length (p+1+1+1+1+1+1+1*(l[i].delta.base.length:Int)+1*(l[i].delta.know.length:Int)) (q2.pre H.sub) (by omega) (by omega)) ?_
  have hn2:decide (p+1+1+1+1+1+1+1*(l[i].delta.base.length:Int)+1*(l[i].delta.know.length:Int)+3*(l[i].delta.tallies.length:Int)<0)=false:=decide_eq_false (by omega)
  simp +contextual (disch:=omega) only[go_sem,c0,e0,e1,ei,natOf_nat,hlen,U,hn2,bne_self_eq_false,beq_self_eq_true]
  refine by_r H (l_heldLiveS_ret τ d3 l[i].delta.lives.length (p+1+1+1+1+1+1+1*(l[i].delta.base.length:Int)+1*(l[i].delta.know.length:Int)+3*(l[i].delta.tallies.length:Int)) (q3.pre H.sub) (by omega) (by omega)) ?_
  have hn3:decide (p+1+1+1+1+1+1+1*(l[i].delta.base.length:Int)+1*(l[i].delta.know.length:Int)+3*(l[i].delta.tallies.length:Int)+6*(l[i].delta.lives.length:Int)<0)=false:=decide_eq_false (by omega)
  simp +contextual (disch:=omega) only[go_sem,c0,e0,e1,ei,natOf_nat,hlen,U,hn3,bne_self_eq_false,beq_self_eq_true]
  refine by_r H (l_heldDotS_ret τ d4 l[i].delta.dead.length (p+1+1+1+1+1+1+1*(l[i].delta.base.length:Int)+1*(l[i].delta.know.length:Int)+3*(l[i].delta.tallies.length:Int)+6*(l[i].delta.lives.length:Int)) (q4.pre H.sub) (by omega) (by omega)) ?_
  have hn4:decide (p+1+1+1+1+1+1+1*(l[i].delta.base.length:Int)+1*(l[i].delta.know.length:Int)+3*(l[i].delta.tallies.length:Int)+6*(l[i].delta.lives.length:Int)+2*(l[i].delta.dead.length:Int)<0)=false:=decide_eq_false (by omega)
  simp +contextual (disch:=omega) only[go_sem,c0,e0,e1,ei,natOf_nat,hlen,U,hn4,bne_self_eq_false,beq_self_eq_true]
  refine by_r H (l_heldCellS_ret τ d5 l[i].delta.cells.length (p+1+1+1+1+1+1+1*(l[i].delta.base.length:Int)+1*(l[i].delta.know.length:Int)+3*(l[i].delta.tallies.length:Int)+6*(l[i].delta.lives.length:Int)+2*(l[i].delta.dead.length:Int)) (q5.pre H.sub) (by omega) (by omega)) ?_
  have hn5:decide (p+1+1+1+1+1+1+1*(l[i].delta.base.length:Int)+1*(l[i].delta.know.length:Int)+3*(l[i].delta.tallies.length:Int)+6*(l[i].delta.lives.length:Int)+2*(l[i].delta.dead.length:Int)+8*(l[i].delta.cells.length:Int)<0)=false:=decide_eq_false (by omega)
  simp +contextual (disch:=omega) only[go_sem,c0,e0,e1,ei,natOf_nat,hlen,U,hn5,bne_self_eq_false,beq_self_eq_true]
  exact hJ _ _ _ _ H ⟨by simp +contextual (disch:=omega) only[go_sem,e0],by simp +contextual (disch:=omega) only[go_sem];first|omega|(congr 1;omega),rfl⟩
 ·rintro Y hY env h' τ ei c0 H ⟨e0,e1,rfl⟩
  simp +contextual (disch:=omega) only[go_sem,c0,e0,ei,hlen]
  exact hY _ _ _ H (by simp +contextual (disch:=omega) only[go_sem,e1,List.take_length])
 ·rintro env h' τ H e1
  simp +contextual (disch:=omega) only[go_sem,e1]
end Go.Proofs.YtbeoiejnogdkpaaGreat.Sy
namespace Go.Proofs.YtbeoiejnogdkpaaGreat.Sy
open Go Go.RowKit
set_option linter.unusedSimpArgs false
set_option linter.unusedVariables false
abbrev n_l_szIntS:Nat:=136
def F_l_szIntS:Fn1:=⟨12,[.t 4],(.seq (.reg [o 4 (.mov (.k (.int .i64 0)))]) (.seq (.reg [o 5 (.mov (.t 1)),o 6 (.mov (.t 0)),o 7 (.len false (.t 6)),o 8 (.bin .sub (.t 5) (.t 7)),o 1 (.mov (.t 8))]) (.seq (.seq (.reg [o 9 (.mov (.t 1)),o 10 (.bin .lss (.t 9) (.k (.int .i64 0)))]) (.cnd (.t 10) (.seq (.reg [o 4 (.mov (.k (.int .i64 (-1))))]) .ret) .skip)) (.seq (.reg [o 11 (.mov (.t 1)),o 4 (.mov (.t 11))]) .ret))))⟩
theorem ir_l_szIntS:compFn Tryz.prog n_l_szIntS=some F_l_szIntS:=by kernel_rfl
theorem l_szIntS_ret (σ:St) (v:GV) (l:List Int) (hR:RS pI.kd σ v l) (n:Int) (hw:l.length≤9223372036854775807) (h0:0≤n) (h1:n≤1099511627776):Ret Tryz.prog n_l_szIntS [v,gi n] σ (gi (lf n l.length)) σ:=by
 refine ret_eq ir_l_szIntS (Nat.le_of_ble_eq_true rfl) trivial ?_
 simp +contextual (disch:=omega) only[go_sem,F_l_szIntS,hR.len]
 refine⟨fun h=> ?_,fun h=> ?_⟩
 ·rw[lf,if_pos (of_decide_eq_true h)]
 ·rw[lf,if_neg (of_decide_eq_false h)]
end Go.Proofs.YtbeoiejnogdkpaaGreat.Sy
namespace Go.Proofs.YtbeoiejnogdkpaaGreat.Sy
open Go Go.RowKit
set_option linter.unusedSimpArgs false
set_option linter.unusedVariables false
abbrev n_l_szAct:Nat:=28
def F_l_szAct:Fn1:=⟨26,[.t 4],(.seq (.reg [o 2 (.box (.t 0)),o 4 (.mov (.k (.int .i64 0)))]) (.seq (.reg [o 5 (.fad 3 (.t 2)),o 6 (.ld false 1 (.t 5)),o 7 (.mov (.t 1)),o 8 (.call 136 [(.t 6),(.t 7)]),o 1 (.mov (.t 8))]) (.seq (.seq (.reg [o 9 (.mov (.t 1)),o 10 (.bin .lss (.t 9) (.k (.int .i64 0)))]) (.cnd (.t 10) (.seq (.reg [o 4 (.mov (.k (.int .i64 (-1))))]) .ret) .skip)) (.seq (.reg [o 11 (.mov (.t 1)),o 12 (.fad 5 (.t 2)),o 13 (.ld false 1 (.t 12)),o 14 (.len true (.t 13)),o 15 (.bin .sub (.t 11) (.t 14)),o 1 (.mov (.t 15))]) (.seq (.seq (.reg [o 16 (.mov (.t 1)),o 17 (.bin .lss (.t 16) (.k (.int .i64 0)))]) (.cnd (.t 17) (.seq (.reg [o 4 (.mov (.k (.int .i64 (-1))))]) .ret) .skip)) (.seq (.reg [o 18 (.mov (.t 1)),o 19 (.fad 6 (.t 2)),o 20 (.ld false 1 (.t 19)),o 21 (.len true (.t 20)),o 22 (.bin .sub (.t 18) (.t 21)),o 1 (.mov (.t 22))]) (.seq (.seq (.reg [o 23 (.mov (.t 1)),o 24 (.bin .lss (.t 23) (.k (.int .i64 0)))]) (.cnd (.t 24) (.seq (.reg [o 4 (.mov (.k (.int .i64 (-1))))]) .ret) .skip)) (.seq (.reg [o 25 (.mov (.t 1)),o 4 (.mov (.t 25))]) .ret))))))))⟩
theorem ir_l_szAct:compFn Tryz.prog n_l_szAct=some F_l_szAct:=by kernel_rfl
theorem l_szAct_ret (σ:St) (cs:List GV) (x:Act) (hR:kAct.R σ x cs) (n:Int) (hw:wAct x) (h0:0≤n) (h1:n≤1099511627776):Ret Tryz.prog n_l_szAct [.agg cs,gi n] σ (gi (lf n (msAct x))) σ:=by
 obtain⟨v2,rfl,q2⟩:=hR
 obtain⟨w0,w1,w2⟩:=hw
 refine ret_eq ir_l_szAct (Nat.le_of_ble_eq_true rfl) trivial ?_
 simp +contextual (disch:=omega) only[go_sem,F_l_szAct,List.append_nil]
 refine by_ret (l_szIntS_ret _ v2 x.knew (q2.pre (pre1 _ _)) (n) w0 (by omega) (by omega)) ?_
 simp +contextual (disch:=omega) only[go_sem,List.append_nil]
 have g0:= @lf_le (n) (x.knew.length) (by omega)
 refine⟨fun hn=> ?_,fun hn=> ?_⟩
 ·have hn:=of_decide_eq_true hn
  have hn:=lf_neg.1 hn
  unfold msAct lf;rw[if_pos (by omega)]
 have hn:=of_decide_eq_false hn
 have f0:=lf_some hn
 try simp(disch:=omega) only[wrap_add]
 refine⟨fun hn=> ?_,fun hn=> ?_⟩
 ·have hn:=of_decide_eq_true hn
  unfold msAct lf;rw[if_pos (by omega)]
 have hn:=of_decide_eq_false hn
 try simp(disch:=omega) only[wrap_add]
 refine⟨fun hn=> ?_,fun hn=> ?_⟩
 ·have hn:=of_decide_eq_true hn
  unfold msAct lf;rw[if_pos (by omega)]
 have hn:=of_decide_eq_false hn
 try simp(disch:=omega) only[wrap_add]
 unfold msAct;rw[show lf n (x.knew.length+x.obj.size+x.key.size)=n - ((x.knew.length+x.obj.size+x.key.size:Nat):Int) by unfold lf;rw[if_neg (by omega)]];try omega
end Go.Proofs.YtbeoiejnogdkpaaGreat.Sy
namespace Go.Proofs.YtbeoiejnogdkpaaGreat.Sy
open Go Go.RowKit
set_option linter.unusedSimpArgs false
set_option linter.unusedVariables false
abbrev n_l_szCell:Nat:=246
def F_l_szCell:Fn1:=⟨13,[.t 4],(.seq (.reg [o 2 (.box (.t 0)),o 4 (.mov (.k (.int .i64 0)))]) (.seq (.reg [o 5 (.mov (.t 1)),o 6 (.fad 0 (.t 2)),o 7 (.ld false 1 (.t 6)),o 8 (.len true (.t 7)),o 9 (.bin .sub (.t 5) (.t 8)),o 1 (.mov (.t 9))]) (.seq (.seq (.reg [o 10 (.mov (.t 1)),o 11 (.bin .lss (.t 10) (.k (.int .i64 0)))]) (.cnd (.t 11) (.seq (.reg [o 4 (.mov (.k (.int .i64 (-1))))]) .ret) .skip)) (.seq (.reg [o 12 (.mov (.t 1)),o 4 (.mov (.t 12))]) .ret))))⟩
theorem ir_l_szCell:compFn Tryz.prog n_l_szCell=some F_l_szCell:=by kernel_rfl
theorem l_szCell_ret (σ:St) (x:Cell) (n:Int) (hw:wCell x) (h0:0≤n) (h1:n≤1099511627776):Ret Tryz.prog n_l_szCell [.agg [.str x.obj,.int .i64 x.dot.rep,.int .i64 x.dot.seq,.int .i64 x.time,.int .i64 x.ref.rep,.int .i64 x.ref.seq,.int .i64 x.val,.bool x.gone],gi n] σ (gi (lf n (msCell x))) σ:=by
 have w0:=hw;unfold wCell at w0
 refine ret_eq ir_l_szCell (Nat.le_of_ble_eq_true rfl) trivial ?_
 simp +contextual (disch:=omega) only[go_sem,F_l_szCell,List.append_nil]
 refine⟨fun hn=> ?_,fun hn=> ?_⟩
 ·have hn:=of_decide_eq_true hn
  unfold msCell lf;rw[if_pos (by omega)]
 have hn:=of_decide_eq_false hn
 try simp(disch:=omega) only[wrap_add]
 unfold msCell;rw[show lf n (x.obj.size)=n - ((x.obj.size:Nat):Int) by unfold lf;rw[if_neg (by omega)]];try omega
end Go.Proofs.YtbeoiejnogdkpaaGreat.Sy
namespace Go.Proofs.YtbeoiejnogdkpaaGreat.Sy
open Go Go.RowKit
set_option linter.unusedSimpArgs false
set_option linter.unusedVariables false
abbrev n_l_szCellS:Nat:=139
def F_l_szCellS:Fn1:=⟨27,[.t 4],(.seq (.reg [o 4 (.mov (.k (.int .i64 0)))]) (.seq (.reg [o 6 (.mov (.t 1)),o 7 (.mov (.t 0)),o 8 (.len false (.t 7)),o 9 (.bin .sub (.t 6) (.t 8)),o 1 (.mov (.t 9))]) (.seq (.seq (.reg [o 10 (.mov (.t 1)),o 11 (.bin .lss (.t 10) (.k (.int .i64 0)))]) (.cnd (.t 11) (.seq (.reg [o 4 (.mov (.k (.int .i64 (-1))))]) .ret) .skip)) (.seq (.seq (.reg [o 5 (.mov (.k (.int .i64 0)))]) (.blk 0 (.lop (.seq (.seq (.reg [o 12 (.mov (.t 5)),o 13 (.mov (.t 0)),o 14 (.len false (.t 13)),o 15 (.bin .lss (.t 12) (.t 14))]) (.cnd (.t 15) .skip (.ext 0))) (.seq (.blk 1 (.seq (.reg [o 18 (.mov (.t 0)),o 19 (.mov (.t 5)),o 20 (.iad 8 (.t 18) (.t 19)),o 21 (.ld true 8 (.t 20)),o 22 (.mov (.t 1)),o 23 (.call 246 [(.t 21),(.t 22)]),o 1 (.mov (.t 23))]) (.seq (.reg [o 24 (.mov (.t 1)),o 25 (.bin .lss (.t 24) (.k (.int .i64 0)))]) (.cnd (.t 25) (.seq (.reg [o 4 (.mov (.k (.int .i64 (-1))))]) .ret) .skip)))) (.reg [o 16 (.mov (.t 5)),o 17 (.bin .add (.t 16) (.k (.int .i64 1))),o 5 (.mov (.t 17))])))))) (.seq (.reg [o 26 (.mov (.t 1)),o 4 (.mov (.t 26))]) .ret)))))⟩
theorem ir_l_szCellS:compFn Tryz.prog n_l_szCellS=some F_l_szCellS:=by kernel_rfl
theorem l_szCellS_ret (σ:St) (v:GV) (l:List Cell) (hR:RS pCell.kd σ v l) (n:Int) (hw:l.length≤9223372036854775807∧∀ y∈l,wCell y) (h0:0≤n) (h1:n≤1099511627776):Ret Tryz.prog n_l_szCellS [v,gi n] σ (gi (lf n (l.length+sumL msCell l))) σ:=by
 obtain⟨wl,we⟩:=hw
 refine ret_eq ir_l_szCellS (Nat.le_of_ble_eq_true rfl) trivial ?_
 simp +contextual (disch:=omega) only[go_sem,F_l_szCellS,hR.len]
 refine⟨fun hn=> ?_,fun hn=> ?_⟩
 ·have hn:=of_decide_eq_true hn
  unfold lf;rw[if_pos (by omega)]
 have hn:=of_decide_eq_false hn
 refine vc_for l.length 5 (fun i env τ=>∃ m:Int,env 0=v∧env 1=gi m∧m=n - l.length - sumL msCell (l.take i)∧0≤m∧σ <+: τ) rfl ⟨n - l.length,rfl,rfl,by simp[sumL],by omega,List.prefix_refl _⟩ ?_ ?_
 ·rintro i env τ hi e5 c0 ⟨m,e0,e1,em,hm,hp⟩
  have h1:=hR.pre hp
  have hs:=sumL_snoc (f:=msCell) hi
  have hst:=sumL_take_le msCell l (i+1)
  simp +contextual (disch:=omega) only[go_sem,c0,e0,e1,e5,hR.len,Cell_at h1 hi]
  refine by_ret (l_szCell_ret τ l[i] m (we _ (List.getElem_mem hi)) hm (by omega)) ?_
  simp +contextual (disch:=omega) only[go_sem,c0,e0,e1,e5,hp]
  have g0:= @lf_le m (msCell l[i]) hm
  have g1:= @lf_ge m (msCell l[i])
  refine⟨fun hn=> ?_,fun hn=> ?_⟩
  ·have hn:=lf_neg.1 (of_decide_eq_true hn)
   unfold lf;rw[if_pos (by omega)]
  ·have hn:=of_decide_eq_false hn
   have f:=lf_some hn
   exact⟨_,rfl,by omega,by omega⟩
 ·rintro env τ e5 c0 ⟨m,e0,e1,em,hm,hp⟩
  rw[List.take_length] at em
  simp +contextual (disch:=omega) only[go_sem,c0,e0,e1,e5,hR.len,hp]
  unfold lf;rw[if_neg (by omega)];omega
end Go.Proofs.YtbeoiejnogdkpaaGreat.Sy
namespace Go.Proofs.YtbeoiejnogdkpaaGreat.Sy
open Go Go.RowKit
set_option linter.unusedSimpArgs false
set_option linter.unusedVariables false
abbrev n_l_szDotS:Nat:=303
def F_l_szDotS:Fn1:=⟨12,[.t 4],(.seq (.reg [o 4 (.mov (.k (.int .i64 0)))]) (.seq (.reg [o 5 (.mov (.t 1)),o 6 (.mov (.t 0)),o 7 (.len false (.t 6)),o 8 (.bin .sub (.t 5) (.t 7)),o 1 (.mov (.t 8))]) (.seq (.seq (.reg [o 9 (.mov (.t 1)),o 10 (.bin .lss (.t 9) (.k (.int .i64 0)))]) (.cnd (.t 10) (.seq (.reg [o 4 (.mov (.k (.int .i64 (-1))))]) .ret) .skip)) (.seq (.reg [o 11 (.mov (.t 1)),o 4 (.mov (.t 11))]) .ret))))⟩
theorem ir_l_szDotS:compFn Tryz.prog n_l_szDotS=some F_l_szDotS:=by kernel_rfl
theorem l_szDotS_ret (σ:St) (v:GV) (l:List Dot) (hR:RS pDot.kd σ v l) (n:Int) (hw:l.length≤9223372036854775807) (h0:0≤n) (h1:n≤1099511627776):Ret Tryz.prog n_l_szDotS [v,gi n] σ (gi (lf n l.length)) σ:=by
 refine ret_eq ir_l_szDotS (Nat.le_of_ble_eq_true rfl) trivial ?_
 simp +contextual (disch:=omega) only[go_sem,F_l_szDotS,hR.len]
 refine⟨fun h=> ?_,fun h=> ?_⟩
 ·rw[lf,if_pos (of_decide_eq_true h)]
 ·rw[lf,if_neg (of_decide_eq_false h)]
end Go.Proofs.YtbeoiejnogdkpaaGreat.Sy
namespace Go.Proofs.YtbeoiejnogdkpaaGreat.Sy
open Go Go.RowKit
set_option linter.unusedSimpArgs false
set_option linter.unusedVariables false
abbrev n_l_szLive:Nat:=245
def F_l_szLive:Fn1:=⟨20,[.t 4],(.seq (.reg [o 2 (.box (.t 0)),o 4 (.mov (.k (.int .i64 0)))]) (.seq (.reg [o 5 (.mov (.t 1)),o 6 (.fad 1 (.t 2)),o 7 (.ld false 1 (.t 6)),o 8 (.len true (.t 7)),o 9 (.bin .sub (.t 5) (.t 8)),o 1 (.mov (.t 9))]) (.seq (.seq (.reg [o 10 (.mov (.t 1)),o 11 (.bin .lss (.t 10) (.k (.int .i64 0)))]) (.cnd (.t 11) (.seq (.reg [o 4 (.mov (.k (.int .i64 (-1))))]) .ret) .skip)) (.seq (.reg [o 12 (.mov (.t 1)),o 13 (.fad 2 (.t 2)),o 14 (.ld false 1 (.t 13)),o 15 (.len true (.t 14)),o 16 (.bin .sub (.t 12) (.t 15)),o 1 (.mov (.t 16))]) (.seq (.seq (.reg [o 17 (.mov (.t 1)),o 18 (.bin .lss (.t 17) (.k (.int .i64 0)))]) (.cnd (.t 18) (.seq (.reg [o 4 (.mov (.k (.int .i64 (-1))))]) .ret) .skip)) (.seq (.reg [o 19 (.mov (.t 1)),o 4 (.mov (.t 19))]) .ret))))))⟩
theorem ir_l_szLive:compFn Tryz.prog n_l_szLive=some F_l_szLive:=by kernel_rfl
theorem l_szLive_ret (σ:St) (x:Live) (n:Int) (hw:wLive x) (h0:0≤n) (h1:n≤1099511627776):Ret Tryz.prog n_l_szLive [.agg [.bool x.map,.str x.obj,.str x.key,.int .i64 x.val,.int .i64 x.dot.rep,.int .i64 x.dot.seq],gi n] σ (gi (lf n (msLive x))) σ:=by
 obtain⟨w0,w1⟩:=hw
 refine ret_eq ir_l_szLive (Nat.le_of_ble_eq_true rfl) trivial ?_
 simp +contextual (disch:=omega) only[go_sem,F_l_szLive,List.append_nil]
 refine⟨fun hn=> ?_,fun hn=> ?_⟩
 ·have hn:=of_decide_eq_true hn
  unfold msLive lf;rw[if_pos (by omega)]
 have hn:=of_decide_eq_false hn
 try simp(disch:=omega) only[wrap_add]
 refine⟨fun hn=> ?_,fun hn=> ?_⟩
 ·have hn:=of_decide_eq_true hn
  unfold msLive lf;rw[if_pos (by omega)]
 have hn:=of_decide_eq_false hn
 try simp(disch:=omega) only[wrap_add]
 unfold msLive;rw[show lf n (x.obj.size+x.key.size)=n - ((x.obj.size+x.key.size:Nat):Int) by unfold lf;rw[if_neg (by omega)]];try omega
end Go.Proofs.YtbeoiejnogdkpaaGreat.Sy
namespace Go.Proofs.YtbeoiejnogdkpaaGreat.Sy
open Go Go.RowKit
set_option linter.unusedSimpArgs false
set_option linter.unusedVariables false
abbrev n_l_szLiveS:Nat:=138
def F_l_szLiveS:Fn1:=⟨27,[.t 4],(.seq (.reg [o 4 (.mov (.k (.int .i64 0)))]) (.seq (.reg [o 6 (.mov (.t 1)),o 7 (.mov (.t 0)),o 8 (.len false (.t 7)),o 9 (.bin .sub (.t 6) (.t 8)),o 1 (.mov (.t 9))]) (.seq (.seq (.reg [o 10 (.mov (.t 1)),o 11 (.bin .lss (.t 10) (.k (.int .i64 0)))]) (.cnd (.t 11) (.seq (.reg [o 4 (.mov (.k (.int .i64 (-1))))]) .ret) .skip)) (.seq (.seq (.reg [o 5 (.mov (.k (.int .i64 0)))]) (.blk 0 (.lop (.seq (.seq (.reg [o 12 (.mov (.t 5)),o 13 (.mov (.t 0)),o 14 (.len false (.t 13)),o 15 (.bin .lss (.t 12) (.t 14))]) (.cnd (.t 15) .skip (.ext 0))) (.seq (.blk 1 (.seq (.reg [o 18 (.mov (.t 0)),o 19 (.mov (.t 5)),o 20 (.iad 6 (.t 18) (.t 19)),o 21 (.ld true 6 (.t 20)),o 22 (.mov (.t 1)),o 23 (.call 245 [(.t 21),(.t 22)]),o 1 (.mov (.t 23))]) (.seq (.reg [o 24 (.mov (.t 1)),o 25 (.bin .lss (.t 24) (.k (.int .i64 0)))]) (.cnd (.t 25) (.seq (.reg [o 4 (.mov (.k (.int .i64 (-1))))]) .ret) .skip)))) (.reg [o 16 (.mov (.t 5)),o 17 (.bin .add (.t 16) (.k (.int .i64 1))),o 5 (.mov (.t 17))])))))) (.seq (.reg [o 26 (.mov (.t 1)),o 4 (.mov (.t 26))]) .ret)))))⟩
theorem ir_l_szLiveS:compFn Tryz.prog n_l_szLiveS=some F_l_szLiveS:=by kernel_rfl
theorem l_szLiveS_ret (σ:St) (v:GV) (l:List Live) (hR:RS pLive.kd σ v l) (n:Int) (hw:l.length≤9223372036854775807∧∀ y∈l,wLive y) (h0:0≤n) (h1:n≤1099511627776):Ret Tryz.prog n_l_szLiveS [v,gi n] σ (gi (lf n (l.length+sumL msLive l))) σ:=by
 obtain⟨wl,we⟩:=hw
 refine ret_eq ir_l_szLiveS (Nat.le_of_ble_eq_true rfl) trivial ?_
 simp +contextual (disch:=omega) only[go_sem,F_l_szLiveS,hR.len]
 refine⟨fun hn=> ?_,fun hn=> ?_⟩
 ·have hn:=of_decide_eq_true hn
  unfold lf;rw[if_pos (by omega)]
 have hn:=of_decide_eq_false hn
 refine vc_for l.length 5 (fun i env τ=>∃ m:Int,env 0=v∧env 1=gi m∧m=n - l.length - sumL msLive (l.take i)∧0≤m∧σ <+: τ) rfl ⟨n - l.length,rfl,rfl,by simp[sumL],by omega,List.prefix_refl _⟩ ?_ ?_
 ·rintro i env τ hi e5 c0 ⟨m,e0,e1,em,hm,hp⟩
  have h1:=hR.pre hp
  have hs:=sumL_snoc (f:=msLive) hi
  have hst:=sumL_take_le msLive l (i+1)
  simp +contextual (disch:=omega) only[go_sem,c0,e0,e1,e5,hR.len,Live_at h1 hi]
  refine by_ret (l_szLive_ret τ l[i] m (we _ (List.getElem_mem hi)) hm (by omega)) ?_
  simp +contextual (disch:=omega) only[go_sem,c0,e0,e1,e5,hp]
  have g0:= @lf_le m (msLive l[i]) hm
  have g1:= @lf_ge m (msLive l[i])
  refine⟨fun hn=> ?_,fun hn=> ?_⟩
  ·have hn:=lf_neg.1 (of_decide_eq_true hn)
   unfold lf;rw[if_pos (by omega)]
  ·have hn:=of_decide_eq_false hn
   have f:=lf_some hn
   exact⟨_,rfl,by omega,by omega⟩
 ·rintro env τ e5 c0 ⟨m,e0,e1,em,hm,hp⟩
  rw[List.take_length] at em
  simp +contextual (disch:=omega) only[go_sem,c0,e0,e1,e5,hR.len,hp]
  unfold lf;rw[if_neg (by omega)];omega
end Go.Proofs.YtbeoiejnogdkpaaGreat.Sy
namespace Go.Proofs.YtbeoiejnogdkpaaGreat.Sy
open Go Go.RowKit
set_option linter.unusedSimpArgs false
set_option linter.unusedVariables false
abbrev n_l_szTally:Nat:=244
def F_l_szTally:Fn1:=⟨13,[.t 4],(.seq (.reg [o 2 (.box (.t 0)),o 4 (.mov (.k (.int .i64 0)))]) (.seq (.reg [o 5 (.mov (.t 1)),o 6 (.fad 0 (.t 2)),o 7 (.ld false 1 (.t 6)),o 8 (.len true (.t 7)),o 9 (.bin .sub (.t 5) (.t 8)),o 1 (.mov (.t 9))]) (.seq (.seq (.reg [o 10 (.mov (.t 1)),o 11 (.bin .lss (.t 10) (.k (.int .i64 0)))]) (.cnd (.t 11) (.seq (.reg [o 4 (.mov (.k (.int .i64 (-1))))]) .ret) .skip)) (.seq (.reg [o 12 (.mov (.t 1)),o 4 (.mov (.t 12))]) .ret))))⟩
theorem ir_l_szTally:compFn Tryz.prog n_l_szTally=some F_l_szTally:=by kernel_rfl
theorem l_szTally_ret (σ:St) (x:Tally) (n:Int) (hw:wTally x) (h0:0≤n) (h1:n≤1099511627776):Ret Tryz.prog n_l_szTally [.agg [.str x.obj,.int .i64 x.rep,.int .i64 x.sum],gi n] σ (gi (lf n (msTally x))) σ:=by
 have w0:=hw;unfold wTally at w0
 refine ret_eq ir_l_szTally (Nat.le_of_ble_eq_true rfl) trivial ?_
 simp +contextual (disch:=omega) only[go_sem,F_l_szTally,List.append_nil]
 refine⟨fun hn=> ?_,fun hn=> ?_⟩
 ·have hn:=of_decide_eq_true hn
  unfold msTally lf;rw[if_pos (by omega)]
 have hn:=of_decide_eq_false hn
 try simp(disch:=omega) only[wrap_add]
 unfold msTally;rw[show lf n (x.obj.size)=n - ((x.obj.size:Nat):Int) by unfold lf;rw[if_neg (by omega)]];try omega
end Go.Proofs.YtbeoiejnogdkpaaGreat.Sy
namespace Go.Proofs.YtbeoiejnogdkpaaGreat.Sy
open Go Go.RowKit
set_option linter.unusedSimpArgs false
set_option linter.unusedVariables false
abbrev n_l_szTallyS:Nat:=137
def F_l_szTallyS:Fn1:=⟨27,[.t 4],(.seq (.reg [o 4 (.mov (.k (.int .i64 0)))]) (.seq (.reg [o 6 (.mov (.t 1)),o 7 (.mov (.t 0)),o 8 (.len false (.t 7)),o 9 (.bin .sub (.t 6) (.t 8)),o 1 (.mov (.t 9))]) (.seq (.seq (.reg [o 10 (.mov (.t 1)),o 11 (.bin .lss (.t 10) (.k (.int .i64 0)))]) (.cnd (.t 11) (.seq (.reg [o 4 (.mov (.k (.int .i64 (-1))))]) .ret) .skip)) (.seq (.seq (.reg [o 5 (.mov (.k (.int .i64 0)))]) (.blk 0 (.lop (.seq (.seq (.reg [o 12 (.mov (.t 5)),o 13 (.mov (.t 0)),o 14 (.len false (.t 13)),o 15 (.bin .lss (.t 12) (.t 14))]) (.cnd (.t 15) .skip (.ext 0))) (.seq (.blk 1 (.seq (.reg [o 18 (.mov (.t 0)),o 19 (.mov (.t 5)),o 20 (.iad 3 (.t 18) (.t 19)),o 21 (.ld true 3 (.t 20)),o 22 (.mov (.t 1)),o 23 (.call 244 [(.t 21),(.t 22)]),o 1 (.mov (.t 23))]) (.seq (.reg [o 24 (.mov (.t 1)),o 25 (.bin .lss (.t 24) (.k (.int .i64 0)))]) (.cnd (.t 25) (.seq (.reg [o 4 (.mov (.k (.int .i64 (-1))))]) .ret) .skip)))) (.reg [o 16 (.mov (.t 5)),o 17 (.bin .add (.t 16) (.k (.int .i64 1))),o 5 (.mov (.t 17))])))))) (.seq (.reg [o 26 (.mov (.t 1)),o 4 (.mov (.t 26))]) .ret)))))⟩
theorem ir_l_szTallyS:compFn Tryz.prog n_l_szTallyS=some F_l_szTallyS:=by kernel_rfl
theorem l_szTallyS_ret (σ:St) (v:GV) (l:List Tally) (hR:RS pTally.kd σ v l) (n:Int) (hw:l.length≤9223372036854775807∧∀ y∈l,wTally y) (h0:0≤n) (h1:n≤1099511627776):Ret Tryz.prog n_l_szTallyS [v,gi n] σ (gi (lf n (l.length+sumL msTally l))) σ:=by
 obtain⟨wl,we⟩:=hw
 refine ret_eq ir_l_szTallyS (Nat.le_of_ble_eq_true rfl) trivial ?_
 simp +contextual (disch:=omega) only[go_sem,F_l_szTallyS,hR.len]
 refine⟨fun hn=> ?_,fun hn=> ?_⟩
 ·have hn:=of_decide_eq_true hn
  unfold lf;rw[if_pos (by omega)]
 have hn:=of_decide_eq_false hn
 refine vc_for l.length 5 (fun i env τ=>∃ m:Int,env 0=v∧env 1=gi m∧m=n - l.length - sumL msTally (l.take i)∧0≤m∧σ <+: τ) rfl ⟨n - l.length,rfl,rfl,by simp[sumL],by omega,List.prefix_refl _⟩ ?_ ?_
 ·rintro i env τ hi e5 c0 ⟨m,e0,e1,em,hm,hp⟩
  have h1:=hR.pre hp
  have hs:=sumL_snoc (f:=msTally) hi
  have hst:=sumL_take_le msTally l (i+1)
  simp +contextual (disch:=omega) only[go_sem,c0,e0,e1,e5,hR.len,Tally_at h1 hi]
  refine by_ret (l_szTally_ret τ l[i] m (we _ (List.getElem_mem hi)) hm (by omega)) ?_
  simp +contextual (disch:=omega) only[go_sem,c0,e0,e1,e5,hp]
  have g0:= @lf_le m (msTally l[i]) hm
  have g1:= @lf_ge m (msTally l[i])
  refine⟨fun hn=> ?_,fun hn=> ?_⟩
  ·have hn:=lf_neg.1 (of_decide_eq_true hn)
   unfold lf;rw[if_pos (by omega)]
  ·have hn:=of_decide_eq_false hn
   have f:=lf_some hn
   exact⟨_,rfl,by omega,by omega⟩
 ·rintro env τ e5 c0 ⟨m,e0,e1,em,hm,hp⟩
  rw[List.take_length] at em
  simp +contextual (disch:=omega) only[go_sem,c0,e0,e1,e5,hR.len,hp]
  unfold lf;rw[if_neg (by omega)];omega
end Go.Proofs.YtbeoiejnogdkpaaGreat.Sy
namespace Go.Proofs.YtbeoiejnogdkpaaGreat.Sy
open Go Go.RowKit
set_option linter.unusedSimpArgs false
set_option linter.unusedVariables false
abbrev n_l_szDelta:Nat:=218
def F_l_szDelta:Fn1:=⟨42,[.t 4],(.seq (.reg [o 2 (.box (.t 0)),o 4 (.mov (.k (.int .i64 0)))]) (.seq (.reg [o 5 (.fad 0 (.t 2)),o 6 (.ld false 1 (.t 5)),o 7 (.mov (.t 1)),o 8 (.call 136 [(.t 6),(.t 7)]),o 1 (.mov (.t 8))]) (.seq (.seq (.reg [o 9 (.mov (.t 1)),o 10 (.bin .lss (.t 9) (.k (.int .i64 0)))]) (.cnd (.t 10) (.seq (.reg [o 4 (.mov (.k (.int .i64 (-1))))]) .ret) .skip)) (.seq (.reg [o 11 (.fad 1 (.t 2)),o 12 (.ld false 1 (.t 11)),o 13 (.mov (.t 1)),o 14 (.call 136 [(.t 12),(.t 13)]),o 1 (.mov (.t 14))]) (.seq (.seq (.reg [o 15 (.mov (.t 1)),o 16 (.bin .lss (.t 15) (.k (.int .i64 0)))]) (.cnd (.t 16) (.seq (.reg [o 4 (.mov (.k (.int .i64 (-1))))]) .ret) .skip)) (.seq (.reg [o 17 (.fad 2 (.t 2)),o 18 (.ld false 1 (.t 17)),o 19 (.mov (.t 1)),o 20 (.call 137 [(.t 18),(.t 19)]),o 1 (.mov (.t 20))]) (.seq (.seq (.reg [o 21 (.mov (.t 1)),o 22 (.bin .lss (.t 21) (.k (.int .i64 0)))]) (.cnd (.t 22) (.seq (.reg [o 4 (.mov (.k (.int .i64 (-1))))]) .ret) .skip)) (.seq (.reg [o 23 (.fad 3 (.t 2)),o 24 (.ld false 1 (.t 23)),o 25 (.mov (.t 1)),o 26 (.call 138 [(.t 24),(.t 25)]),o 1 (.mov (.t 26))]) (.seq (.seq (.reg [o 27 (.mov (.t 1)),o 28 (.bin .lss (.t 27) (.k (.int .i64 0)))]) (.cnd (.t 28) (.seq (.reg [o 4 (.mov (.k (.int .i64 (-1))))]) .ret) .skip)) (.seq (.reg [o 29 (.fad 4 (.t 2)),o 30 (.ld false 1 (.t 29)),o 31 (.mov (.t 1)),o 32 (.call 303 [(.t 30),(.t 31)]),o 1 (.mov (.t 32))]) (.seq (.seq (.reg [o 33 (.mov (.t 1)),o 34 (.bin .lss (.t 33) (.k (.int .i64 0)))]) (.cnd (.t 34) (.seq (.reg [o 4 (.mov (.k (.int .i64 (-1))))]) .ret) .skip)) (.seq (.reg [o 35 (.fad 5 (.t 2)),o 36 (.ld false 1 (.t 35)),o 37 (.mov (.t 1)),o 38 (.call 139 [(.t 36),(.t 37)]),o 1 (.mov (.t 38))]) (.seq (.seq (.reg [o 39 (.mov (.t 1)),o 40 (.bin .lss (.t 39) (.k (.int .i64 0)))]) (.cnd (.t 40) (.seq (.reg [o 4 (.mov (.k (.int .i64 (-1))))]) .ret) .skip)) (.seq (.reg [o 41 (.mov (.t 1)),o 4 (.mov (.t 41))]) .ret))))))))))))))⟩
theorem ir_l_szDelta:compFn Tryz.prog n_l_szDelta=some F_l_szDelta:=by kernel_rfl
theorem l_szDelta_ret (σ:St) (cs:List GV) (x:Delta) (hR:kDelta.R σ x cs) (n:Int) (hw:wDelta x) (h0:0≤n) (h1:n≤1099511627776):Ret Tryz.prog n_l_szDelta [.agg cs,gi n] σ (gi (lf n (msDelta x))) σ:=by
 obtain⟨v0,v1,v2,v3,v4,v5,rfl,q0,q1,q2,q3,q4,q5⟩:=hR
 obtain⟨w0,w1,w2,w3,w4,w5⟩:=hw
 refine ret_eq ir_l_szDelta (Nat.le_of_ble_eq_true rfl) trivial ?_
 simp +contextual (disch:=omega) only[go_sem,F_l_szDelta,List.append_nil]
 refine by_ret (l_szIntS_ret _ v0 x.base (q0.pre (pre1 _ _)) (n) w0 (by omega) (by omega)) ?_
 simp +contextual (disch:=omega) only[go_sem,List.append_nil]
 have g0:= @lf_le (n) (x.base.length) (by omega)
 refine⟨fun hn=> ?_,fun hn=> ?_⟩
 ·have hn:=of_decide_eq_true hn
  have hn:=lf_neg.1 hn
  unfold msDelta lf;rw[if_pos (by omega)]
 have hn:=of_decide_eq_false hn
 have f0:=lf_some hn
 try simp(disch:=omega) only[wrap_add]
 refine by_ret (l_szIntS_ret _ v1 x.know (q1.pre (pre1 _ _)) (lf (n) (x.base.length)) w1 (by omega) (by omega)) ?_
 simp +contextual (disch:=omega) only[go_sem,List.append_nil]
 have g1:= @lf_le (lf (n) (x.base.length)) (x.know.length) (by omega)
 refine⟨fun hn=> ?_,fun hn=> ?_⟩
 ·have hn:=of_decide_eq_true hn
  have hn:=lf_neg.1 hn
  unfold msDelta lf;rw[if_pos (by omega)]
 have hn:=of_decide_eq_false hn
 have f1:=lf_some hn
 try simp(disch:=omega) only[wrap_add]
 refine by_ret (l_szTallyS_ret _ v2 x.tallies (q2.pre (pre1 _ _)) (lf (lf (n) (x.base.length)) (x.know.length)) w2 (by omega) (by omega)) ?_
 simp +contextual (disch:=omega) only[go_sem,List.append_nil]
 have g2:= @lf_le (lf (lf (n) (x.base.length)) (x.know.length)) ((x.tallies.length+sumL msTally x.tallies)) (by omega)
 refine⟨fun hn=> ?_,fun hn=> ?_⟩
 ·have hn:=of_decide_eq_true hn
  have hn:=lf_neg.1 hn
  unfold msDelta lf;rw[if_pos (by omega)]
 have hn:=of_decide_eq_false hn
 have f2:=lf_some hn
 try simp(disch:=omega) only[wrap_add]
 refine by_ret (l_szLiveS_ret _ v3 x.lives (q3.pre (pre1 _ _)) (lf (lf (lf (n) (x.base.length)) (x.know.length)) ((x.tallies.length+sumL msTally x.tallies))) w3 (by omega) (by omega)) ?_
 simp +contextual (disch:=omega) only[go_sem,List.append_nil]
 have g3:= @lf_le (lf (lf (lf (n) (x.base.length)) (x.know.length)) ((x.tallies.length+sumL msTally x.tallies))) ((x.lives.length+sumL msLive x.lives)) (by omega)
 refine⟨fun hn=> ?_,fun hn=> ?_⟩
 ·have hn:=of_decide_eq_true hn
  have hn:=lf_neg.1 hn
  unfold msDelta lf;rw[if_pos (by omega)]
 have hn:=of_decide_eq_false hn
 have f3:=lf_some hn
 try simp(disch:=omega) only[wrap_add]
 refine by_ret (l_szDotS_ret _ v4 x.dead (q4.pre (pre1 _ _)) (lf (lf (lf (lf (n) (x.base.length)) (x.know.length)) ((x.tallies.length+sumL msTally x.tallies))) ((x.lives.length+sumL msLive x.lives))) w4 (by omega) (by omega)) ?_
 simp +contextual (disch:=omega) only[go_sem,List.append_nil]
 have g4:= @lf_le (lf (lf (lf (lf (n) (x.base.length)) (x.know.length)) ((x.tallies.length+sumL msTally x.tallies))) ((x.lives.length+sumL msLive x.lives))) (x.dead.length) (by omega)
 refine⟨fun hn=> ?_,fun hn=> ?_⟩
 ·have hn:=of_decide_eq_true hn
  have hn:=lf_neg.1 hn
  unfold msDelta lf;rw[if_pos (by omega)]
 have hn:=of_decide_eq_false hn
 have f4:=lf_some hn
 try simp(disch:=omega) only[wrap_add]
 refine by_ret (l_szCellS_ret _ v5 x.cells (q5.pre (pre1 _ _)) (lf (lf (lf (lf (lf (n) (x.base.length)) (x.know.length)) ((x.tallies.length+sumL msTally x.tallies))) ((x.lives.length+sumL msLive x.lives))) (x.dead.length)) w5 (by omega) (by omega)) ?_
 simp +contextual (disch:=omega) only[go_sem,List.append_nil]
 have g5:= @lf_le (lf (lf (lf (lf (lf (n) (x.base.length)) (x.know.length)) ((x.tallies.length+sumL msTally x.tallies))) ((x.lives.length+sumL msLive x.lives))) (x.dead.length)) ((x.cells.length+sumL msCell x.cells)) (by omega)
 refine⟨fun hn=> ?_,fun hn=> ?_⟩
 ·have hn:=of_decide_eq_true hn
  have hn:=lf_neg.1 hn
  unfold msDelta lf;rw[if_pos (by omega)]
 have hn:=of_decide_eq_false hn
 have f5:=lf_some hn
 try simp(disch:=omega) only[wrap_add]
 unfold msDelta;rw[show lf n (x.base.length+x.know.length+(x.tallies.length+sumL msTally x.tallies)+(x.lives.length+sumL msLive x.lives)+x.dead.length+(x.cells.length+sumL msCell x.cells))=n - ((x.base.length+x.know.length+(x.tallies.length+sumL msTally x.tallies)+(x.lives.length+sumL msLive x.lives)+x.dead.length+(x.cells.length+sumL msCell x.cells):Nat):Int) by unfold lf;rw[if_neg (by omega)]];try omega
end Go.Proofs.YtbeoiejnogdkpaaGreat.Sy
namespace Go.Proofs.YtbeoiejnogdkpaaGreat.Sy
open Go Go.RowKit
set_option linter.unusedSimpArgs false
set_option linter.unusedVariables false
abbrev n_l_szUnit:Nat:=96
def F_l_szUnit:Fn1:=⟨18,[.t 4],(.seq (.reg [o 2 (.box (.t 0)),o 4 (.mov (.k (.int .i64 0)))]) (.seq (.reg [o 5 (.fad 1 (.t 2)),o 6 (.ld true 10 (.t 5)),o 7 (.mov (.t 1)),o 8 (.call 28 [(.t 6),(.t 7)]),o 1 (.mov (.t 8))]) (.seq (.seq (.reg [o 9 (.mov (.t 1)),o 10 (.bin .lss (.t 9) (.k (.int .i64 0)))]) (.cnd (.t 10) (.seq (.reg [o 4 (.mov (.k (.int .i64 (-1))))]) .ret) .skip)) (.seq (.reg [o 11 (.fad 11 (.t 2)),o 12 (.ld true 6 (.t 11)),o 13 (.mov (.t 1)),o 14 (.call 218 [(.t 12),(.t 13)]),o 1 (.mov (.t 14))]) (.seq (.seq (.reg [o 15 (.mov (.t 1)),o 16 (.bin .lss (.t 15) (.k (.int .i64 0)))]) (.cnd (.t 16) (.seq (.reg [o 4 (.mov (.k (.int .i64 (-1))))]) .ret) .skip)) (.seq (.reg [o 17 (.mov (.t 1)),o 4 (.mov (.t 17))]) .ret))))))⟩
theorem ir_l_szUnit:compFn Tryz.prog n_l_szUnit=some F_l_szUnit:=by kernel_rfl
theorem l_szUnit_ret (σ:St) (cs:List GV) (x:Unit_) (hR:kUnit_.R σ x cs) (n:Int) (hw:wUnit x) (h0:0≤n) (h1:n≤1099511627776):Ret Tryz.prog n_l_szUnit [.agg cs,gi n] σ (gi (lf n (msUnit x))) σ:=by
 obtain⟨v1,v2,rfl,q1,q2⟩:=hR
 obtain⟨w0,w1⟩:=hw
 have a1:=q1
 have a2:=q2
 obtain⟨kv,rfl,_⟩:=q1
 obtain⟨d0,d1,d2,d3,d4,d5,rfl,_⟩:=q2
 suffices key:Ret Tryz.prog n_l_szUnit [.agg (.bool x.batch::[.int .i64 x.act.dot.rep,.int .i64 x.act.dot.seq,.int .i64 x.act.time,kv,.int .i64 x.act.kind,.str x.act.obj,.str x.act.key,.int .i64 x.act.val,.int .i64 x.act.ref.rep,.int .i64 x.act.ref.seq,d0,d1,d2,d3,d4,d5]),gi n] σ (gi (lf n (msUnit x))) σ from key
 refine ret_eq ir_l_szUnit (Nat.le_of_ble_eq_true rfl) trivial ?_
 simp +contextual (disch:=omega) only[go_sem,F_l_szUnit,List.append_nil]
 refine by_ret (l_szAct_ret _ _ x.act (kAct.pre a1 (pre1 _ _)) (n) w0 (by omega) (by omega)) ?_
 simp +contextual (disch:=omega) only[go_sem,List.append_nil]
 have g0:= @lf_le (n) (msAct x.act) (by omega)
 refine⟨fun hn=> ?_,fun hn=> ?_⟩
 ·have hn:=of_decide_eq_true hn
  have hn:=lf_neg.1 hn
  unfold msUnit lf;rw[if_pos (by omega)]
 have hn:=of_decide_eq_false hn
 have f0:=lf_some hn
 try simp(disch:=omega) only[wrap_add]
 refine by_ret (l_szDelta_ret _ _ x.delta (kDelta.pre a2 (pre1 _ _)) (lf (n) (msAct x.act)) w1 (by omega) (by omega)) ?_
 simp +contextual (disch:=omega) only[go_sem,List.append_nil]
 have g1:= @lf_le (lf (n) (msAct x.act)) (msDelta x.delta) (by omega)
 refine⟨fun hn=> ?_,fun hn=> ?_⟩
 ·have hn:=of_decide_eq_true hn
  have hn:=lf_neg.1 hn
  unfold msUnit lf;rw[if_pos (by omega)]
 have hn:=of_decide_eq_false hn
 have f1:=lf_some hn
 try simp(disch:=omega) only[wrap_add]
 unfold msUnit;rw[show lf n (msAct x.act+msDelta x.delta)=n - ((msAct x.act+msDelta x.delta:Nat):Int) by unfold lf;rw[if_neg (by omega)]];try omega
end Go.Proofs.YtbeoiejnogdkpaaGreat.Sy
namespace Go.Proofs.YtbeoiejnogdkpaaGreat.Sy
open Go Go.RowKit
set_option linter.unusedSimpArgs false
set_option linter.unusedVariables false
abbrev n_l_szUnitS:Nat:=11
def F_l_szUnitS:Fn1:=⟨27,[.t 4],(.seq (.reg [o 4 (.mov (.k (.int .i64 0)))]) (.seq (.reg [o 6 (.mov (.t 1)),o 7 (.mov (.t 0)),o 8 (.len false (.t 7)),o 9 (.bin .sub (.t 6) (.t 8)),o 1 (.mov (.t 9))]) (.seq (.seq (.reg [o 10 (.mov (.t 1)),o 11 (.bin .lss (.t 10) (.k (.int .i64 0)))]) (.cnd (.t 11) (.seq (.reg [o 4 (.mov (.k (.int .i64 (-1))))]) .ret) .skip)) (.seq (.seq (.reg [o 5 (.mov (.k (.int .i64 0)))]) (.blk 0 (.lop (.seq (.seq (.reg [o 12 (.mov (.t 5)),o 13 (.mov (.t 0)),o 14 (.len false (.t 13)),o 15 (.bin .lss (.t 12) (.t 14))]) (.cnd (.t 15) .skip (.ext 0))) (.seq (.blk 1 (.seq (.reg [o 18 (.mov (.t 0)),o 19 (.mov (.t 5)),o 20 (.iad 17 (.t 18) (.t 19)),o 21 (.ld true 17 (.t 20)),o 22 (.mov (.t 1)),o 23 (.call 96 [(.t 21),(.t 22)]),o 1 (.mov (.t 23))]) (.seq (.reg [o 24 (.mov (.t 1)),o 25 (.bin .lss (.t 24) (.k (.int .i64 0)))]) (.cnd (.t 25) (.seq (.reg [o 4 (.mov (.k (.int .i64 (-1))))]) .ret) .skip)))) (.reg [o 16 (.mov (.t 5)),o 17 (.bin .add (.t 16) (.k (.int .i64 1))),o 5 (.mov (.t 17))])))))) (.seq (.reg [o 26 (.mov (.t 1)),o 4 (.mov (.t 26))]) .ret)))))⟩
theorem ir_l_szUnitS:compFn Tryz.prog n_l_szUnitS=some F_l_szUnitS:=by kernel_rfl
theorem l_szUnitS_ret (σ:St) (v:GV) (l:List Unit_) (hR:RS kUnit_ σ v l) (n:Int) (hw:l.length≤9223372036854775807∧∀ y∈l,wUnit y) (h0:0≤n) (h1:n≤1099511627776):Ret Tryz.prog n_l_szUnitS [v,gi n] σ (gi (lf n (l.length+sumL msUnit l))) σ:=by
 obtain⟨wl,we⟩:=hw
 refine ret_eq ir_l_szUnitS (Nat.le_of_ble_eq_true rfl) trivial ?_
 simp +contextual (disch:=omega) only[go_sem,F_l_szUnitS,hR.len]
 refine⟨fun hn=> ?_,fun hn=> ?_⟩
 ·have hn:=of_decide_eq_true hn
  unfold lf;rw[if_pos (by omega)]
 have hn:=of_decide_eq_false hn
 refine vc_for l.length 5 (fun i env τ=>∃ m:Int,env 0=v∧env 1=gi m∧m=n - l.length - sumL msUnit (l.take i)∧0≤m∧σ <+: τ) rfl ⟨n - l.length,rfl,rfl,by simp[sumL],by omega,List.prefix_refl _⟩ ?_ ?_
 ·rintro i env τ hi e5 c0 ⟨m,e0,e1,em,hm,hp⟩
  have h1:=hR.pre hp
  have hs:=sumL_snoc (f:=msUnit) hi
  have hst:=sumL_take_le msUnit l (i+1)
  obtain⟨cs,hc,hcr⟩:=unit_at' h1 hi
  simp +contextual (disch:=omega) only[go_sem,c0,e0,e1,e5,hR.len,hc]
  refine by_ret (l_szUnit_ret τ cs l[i] hcr m (we _ (List.getElem_mem hi)) hm (by omega)) ?_
  simp +contextual (disch:=omega) only[go_sem,c0,e0,e1,e5,hp]
  have g0:= @lf_le m (msUnit l[i]) hm
  have g1:= @lf_ge m (msUnit l[i])
  refine⟨fun hn=> ?_,fun hn=> ?_⟩
  ·have hn:=lf_neg.1 (of_decide_eq_true hn)
   unfold lf;rw[if_pos (by omega)]
  ·have hn:=of_decide_eq_false hn
   have f:=lf_some hn
   exact⟨_,rfl,by omega,by omega⟩
 ·rintro env τ e5 c0 ⟨m,e0,e1,em,hm,hp⟩
  rw[List.take_length] at em
  simp +contextual (disch:=omega) only[go_sem,c0,e0,e1,e5,hR.len,hp]
  unfold lf;rw[if_neg (by omega)];omega
end Go.Proofs.YtbeoiejnogdkpaaGreat.Sy
