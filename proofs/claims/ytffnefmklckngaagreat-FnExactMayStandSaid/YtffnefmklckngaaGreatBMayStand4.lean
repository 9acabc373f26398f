/- Texts of this proof, one behind the other. -/
import Derived.Test.YtffnefmklckngaaGreatBMayStand3
import Derived.Test.YtffnefmklckngaaGreatProg
import Derived.KernelRfl
namespace Go.Proofs.YtffnefmklckngaaGreat.Sy
open Go Go.RowKit
set_option linter.unusedSimpArgs false
set_option linter.unusedVariables false
set_option maxRecDepth 4000
abbrev n_i_mergedTallies:Nat:=204
def F_i_mergedTallies:Fn1:=⟨47,[.t 6],(.seq (.reg [o 6 (.mov (.k .nilS))]) (.seq (.reg [o 12 (.lit 3 0 [] []),o 7 (.mov (.t 12))]) (.seq (.seq (.reg [o 13 (.mov (.t 0)),o 14 (.len false (.t 13)),o 15 (.mov (.k (.int .i64 0)))]) (.blk 0 (.lop (.seq (.reg [o 16 (.bin .lss (.t 15) (.t 14))]) (.seq (.cnd (.t 16) .skip (.ext 0)) (.seq (.blk 1 (.seq (.reg [o 17 (.iad 3 (.t 13) (.t 15)),o 18 (.ld true 3 (.t 17)),o 9 (.new [(.str ⟨#[]⟩),(.int .i64 0),(.int .i64 0)]),on (.st 3 (.t 9) (.t 18))]) (.seq (.reg [o 19 (.mov (.t 2)),o 20 (.fad 1 (.t 9)),o 21 (.ld false 1 (.t 20)),o 22 (.callv (.t 19) [(.t 21)]),o 23 (.un .not (.t 22))]) (.cnd (.t 23) (.reg [o 24 (.mov (.t 7)),o 25 (.ld true 3 (.t 9)),o 26 (.lit 3 1 [(.str ⟨#[]⟩),(.int .i64 0),(.int .i64 0)] [(0,3,(.t 25))]),o 27 (.app 3 32 [(.str ⟨#[]⟩),(.int .i64 0),(.int .i64 0)] (.t 24) (.t 26)),o 7 (.mov (.t 27))]) .skip)))) (.reg [o 28 (.bin .add (.t 15) (.k (.int .i64 1))),o 15 (.mov (.t 28))]))))))) (.seq (.seq (.reg [o 29 (.mov (.t 1)),o 30 (.len false (.t 29)),o 31 (.mov (.k (.int .i64 0)))]) (.blk 2 (.lop (.seq (.reg [o 32 (.bin .lss (.t 31) (.t 30))]) (.seq (.cnd (.t 32) .skip (.ext 2)) (.seq (.blk 3 (.seq (.reg [o 33 (.iad 3 (.t 29) (.t 31)),o 34 (.ld true 3 (.t 33)),o 11 (.new [(.str ⟨#[]⟩),(.int .i64 0),(.int .i64 0)]),on (.st 3 (.t 11) (.t 34))]) (.seq (.reg [o 35 (.mov (.t 2)),o 36 (.fad 1 (.t 11)),o 37 (.ld false 1 (.t 36)),o 38 (.callv (.t 35) [(.t 37)])]) (.cnd (.t 38) (.reg [o 39 (.mov (.t 7)),o 40 (.ld true 3 (.t 11)),o 41 (.lit 3 1 [(.str ⟨#[]⟩),(.int .i64 0),(.int .i64 0)] [(0,3,(.t 40))]),o 42 (.app 3 32 [(.str ⟨#[]⟩),(.int .i64 0),(.int .i64 0)] (.t 39) (.t 41)),o 7 (.mov (.t 42))]) .skip)))) (.reg [o 43 (.bin .add (.t 31) (.k (.int .i64 1))),o 31 (.mov (.t 43))]))))))) (.seq (.reg [o 44 (.mov (.t 7)),o 45 (.call 238 [(.t 44),(.k (.fn 201 []))])]) (.seq (.reg [o 46 (.mov (.t 7)),o 6 (.mov (.t 46))]) .ret))))))⟩
theorem ir_i_mergedTallies:compFn Tryz.prog n_i_mergedTallies=some F_i_mergedTallies:=by kernel_rfl
abbrev n_i_sortLives:Nat:=208
def F_i_sortLives:Fn1:=⟨4,[],(.reg [o 2 (.mov (.t 0)),o 3 (.call 241 [(.t 2),(.k (.fn 242 []))])])⟩
theorem ir_i_sortLives:compFn Tryz.prog n_i_sortLives=some F_i_sortLives:=by kernel_rfl
abbrev n_i_mergedCells:Nat:=209
def F_i_mergedCells:Fn1:=⟨64,[.t 4],(.seq (.reg [o 4 (.mov (.k .nilS))]) (.seq (.reg [o 13 (.lit 8 0 [] []),o 14 (.mov (.t 0)),o 15 (.app 8 72 [(.str ⟨#[]⟩),(.int .i64 0),(.int .i64 0),(.int .i64 0),(.int .i64 0),(.int .i64 0),(.int .i64 0),(.bool false)] (.t 13) (.t 14)),o 5 (.mov (.t 15))]) (.seq (.reg [o 16 (.mkm),o 6 (.mov (.t 16))]) (.seq (.seq (.reg [o 17 (.mov (.t 0)),o 18 (.len false (.t 17)),o 19 (.mov (.k (.int .i64 0)))]) (.blk 0 (.lop (.seq (.reg [o 20 (.bin .lss (.t 19) (.t 18))]) (.seq (.cnd (.t 20) .skip (.ext 0)) (.seq (.blk 1 (.seq (.reg [o 21 (.mov (.t 19)),o 22 (.iad 8 (.t 17) (.t 19)),o 23 (.ld true 8 (.t 22)),o 8 (.new [(.str ⟨#[]⟩),(.int .i64 0),(.int .i64 0),(.int .i64 0),(.int .i64 0),(.int .i64 0),(.int .i64 0),(.bool false)]),o 7 (.mov (.t 21)),on (.st 8 (.t 8) (.t 23))]) (.reg [o 24 (.mov (.t 6)),o 25 (.fad 1 (.t 8)),o 26 (.ld true 2 (.t 25)),o 27 (.mov (.t 7)),on (.mup [.i .i64,.i .i64] (.t 24) (.t 26) (.t 27))]))) (.reg [o 28 (.bin .add (.t 19) (.k (.int .i64 1))),o 19 (.mov (.t 28))]))))))) (.seq (.seq (.reg [o 29 (.mov (.t 1)),o 30 (.len false (.t 29)),o 31 (.mov (.k (.int .i64 0)))]) (.blk 2 (.lop (.seq (.reg [o 32 (.bin .lss (.t 31) (.t 30))]) (.seq (.cnd (.t 32) .skip (.ext 2)) (.seq (.blk 3 (.seq (.reg [o 33 (.iad 8 (.t 29) (.t 31)),o 34 (.ld true 8 (.t 33)),o 10 (.new [(.str ⟨#[]⟩),(.int .i64 0),(.int .i64 0),(.int .i64 0),(.int .i64 0),(.int .i64 0),(.int .i64 0),(.bool false)]),on (.st 8 (.t 10) (.t 34))]) (.seq (.reg [o 36 (.mov (.t 6)),o 37 (.fad 1 (.t 10)),o 38 (.ld true 2 (.t 37)),o 39 (.mlk [.i .i64,.i .i64] (.int .i64 0) true (.t 36) (.t 38)),o 35 (.mov (.t 39)),o 40 (.ext 0 (.t 35)),o 41 (.ext 1 (.t 35)),o 11 (.mov (.t 40)),o 12 (.mov (.t 41))]) (.seq (.reg [o 42 (.mov (.t 12))]) (.cnd (.t 42) (.reg [o 43 (.mov (.t 5)),o 44 (.mov (.t 11)),o 45 (.mov (.t 5)),o 46 (.mov (.t 11)),o 47 (.iad 8 (.t 45) (.t 46)),o 48 (.fad 7 (.t 47)),o 49 (.ld false 1 (.t 48)),o 50 (.mov (.t 49)),og 51 50 false (.fad 7 (.t 10)),og 52 50 false (.ld false 1 (.t 51)),o 53 (.pick (.t 50) (.k (.bool true)) (.t 52)),o 54 (.iad 8 (.t 43) (.t 44)),o 55 (.fad 7 (.t 54)),on (.st 1 (.t 55) (.t 53))]) (.reg [o 56 (.mov (.t 5)),o 57 (.ld true 8 (.t 10)),o 58 (.lit 8 1 [(.str ⟨#[]⟩),(.int .i64 0),(.int .i64 0),(.int .i64 0),(.int .i64 0),(.int .i64 0),(.int .i64 0),(.bool false)] [(0,8,(.t 57))]),o 59 (.app 8 72 [(.str ⟨#[]⟩),(.int .i64 0),(.int .i64 0),(.int .i64 0),(.int .i64 0),(.int .i64 0),(.int .i64 0),(.bool false)] (.t 56) (.t 58)),o 5 (.mov (.t 59))])))))) (.reg [o 60 (.bin .add (.t 31) (.k (.int .i64 1))),o 31 (.mov (.t 60))]))))))) (.seq (.reg [o 61 (.mov (.t 5)),o 62 (.call 231 [(.t 61),(.k (.fn 243 []))])]) (.seq (.reg [o 63 (.mov (.t 5)),o 4 (.mov (.t 63))]) .ret)))))))⟩
theorem ir_i_mergedCells:compFn Tryz.prog n_i_mergedCells=some F_i_mergedCells:=by kernel_rfl
theorem i_sortLives_ret {σ0 σ:St} {rs:List Thg} {v:GV} {l:List Live} (H:Hp σ0 σ rs) (k:Nat) (hk:rs[k]? =some (ow pLive.kd v l)) (hl:l.length≤1099511627776) (htri:∀ x∈l,∀ y∈l,liveLt x y=false→liveLt y x=false→x=y):∃ τ,Ret Tryz.prog n_i_sortLives [v] σ (.tup []) τ∧Hp σ0 τ (rs.set k (ow pLive.kd v (insAll liveLt l))):=by
 have key:∃ r τ,Ret Tryz.prog n_i_sortLives [v] σ r τ∧r= .tup []∧Hp σ0 τ (rs.set k (ow pLive.kd v (insAll liveLt l))):=by
  refine ret_x ir_i_sortLives (Nat.le_of_ble_eq_true rfl) (Hx.of H) ?_
  simp +contextual (disch:=omega) only[go_sem,F_i_sortLives]
  obtain⟨τ,R,H1⟩:=sortLive_ret H k hk hl htri
  refine by_m R (Hx.of H1) ?_
  simp +contextual (disch:=omega) only[go_sem]
  exact fun _=>⟨_,rfl,rfl,H1⟩
 obtain⟨r,τ,R,rfl,h⟩:=key
 exact⟨τ,R,h⟩
theorem app_le {α:Type} {p q:α→Bool} {a b:List α} {i n:Nat} (ha:a.length≤n) (hb:b.length≤n):(a.filter p++(b.take i).filter q).length≤n+n:=by
 rw[List.length_append]
 have:=List.length_filter_le p a
 have:=flt_le (p:=q) (i:=i) hb
 omega
theorem i_mergedTallies_ret (σ:St) (va vb:GV) (a b:List Tally) (ha:RS pTally.kd σ va a) (hb:RS pTally.kd σ vb b) (F:Nat) (caps:List (Nat×Nat)) (f:Int→Bool) (hf:∀ τ t,σ <+: τ→t∈a∨t∈b→Ret Tryz.prog F (gi t.rep::caps.map fun c=>.ptr c.1 c.2) τ (.bool (f t.rep)) τ) (hla:a.length≤1073741824) (hlb:b.length≤1073741824) (htri:((a.filter (fun t=> !f t.rep)++b.filter fun t=>f t.rep).map tkey).Nodup):∃ r τ,Ret Tryz.prog n_i_mergedTallies [va,vb,.fn F caps] σ r τ∧Hp σ τ [ow pTally.kd r (mergeT f a b)]:=by
 refine ret_x ir_i_mergedTallies (Nat.le_of_ble_eq_true rfl) (Hx.refl σ) ?_
 simp +contextual (disch:=omega) only[go_sem,F_i_mergedTallies,ha.len]
 intro n fn τ H
 refine sx_for a.length 15 0 (fun i env h=>∃ w,env 1=vb∧env 2= .fn F caps∧env 7=w∧env 13=va∧env 14=gi a.length∧h=[.th (ow pTally.kd w ((a.take i).filter fun t=> !f t.rep))]) (fun env h=>∃ w,env 1=vb∧env 2= .fn F caps∧env 7=w∧h=[.th (ow pTally.kd w (a.filter fun t=> !f t.rep))]) (fun env h=>False) _ (H.emp pTally.kd rfl) (by simp +contextual (disch:=omega) only[go_sem]) ⟨_,by simp +contextual (disch:=omega) only[go_sem],by simp +contextual (disch:=omega) only[go_sem],by simp +contextual (disch:=omega) only[go_sem],by simp +contextual (disch:=omega) only[go_sem],by simp +contextual (disch:=omega) only[go_sem],rfl⟩ ?_ ?_ ?_ ?_
 ·clear H
  rintro J Y W hJ hY hW i env h τ hi ei c0 H ⟨w,e1,e2,e7,e13,e14,rfl⟩
  have L1:=Tally_at ha hi
  simp +contextual (disch:=omega) only[go_sem,c0,e1,e2,e7,e13,e14,ei,natOf_nat,L1]
  intro m fm τ1 _ τ2 H2
  refine by_b H2 (hf _ a[i] H2.sub (.inl (List.getElem_mem hi))) (fun k1=> ?_) (fun k1=> ?_)
  ·simp +contextual (disch:=omega) only[go_sem,e1,e2,e7,e13,e14,ei]
   exact hJ _ _ _ _ (H2.re [1] (by decide)) ⟨w,by simp +contextual (disch:=omega) only[go_sem,e1],by simp +contextual (disch:=omega) only[go_sem,e2],by simp +contextual (disch:=omega) only[go_sem,e7],by simp +contextual (disch:=omega) only[go_sem,e13],by simp +contextual (disch:=omega) only[go_sem,e14],by rw[flt_f hi (by simp[k1])];rfl⟩
  ·simp +contextual (disch:=omega) only[go_sem,e1,e2,e7,e13,e14,ei]
   intro n3 f3 τ3 H3
   refine by_app1 (p:=pTally) H3 2 rfl a[i] look_eq (by decide) (by have:=flt_le (p:=fun t=> !f t.rep) (i:=i) hla;omega) fun w' τ4 H4=> ?_
   simp +contextual (disch:=omega) only[go_sem,e1,e2,e13,e14,ei]
   exact hJ _ _ _ _ (H4.re [2] (by decide)) ⟨w',by simp +contextual (disch:=omega) only[go_sem,e1],by simp +contextual (disch:=omega) only[go_sem,e2],by simp +contextual (disch:=omega) only[go_sem],by simp +contextual (disch:=omega) only[go_sem,e13],by simp +contextual (disch:=omega) only[go_sem,e14],by rw[flt_t hi (by simp[k1])];rfl⟩
 ·clear H
  rintro Y hY env h τ ei c0 H ⟨w,e1,e2,e7,e13,e14,rfl⟩
  simp +contextual (disch:=omega) only[go_sem,c0,e14,ei]
  exact hY _ _ _ H ⟨w,e1,e2,e7,by rw[List.take_length]⟩
 rotate_left
 ·exact fun _ _ _ _ h=>h.elim
 clear H
 rintro env h τ H ⟨w,e1,e2,e7,rfl⟩
 simp +contextual (disch:=omega) only[go_sem,e1,e2,e7,hb.len]
 refine sx_for b.length 31 2 (fun i env h=>∃ w,env 2= .fn F caps∧env 7=w∧env 29=vb∧env 30=gi b.length∧h=[.th (ow pTally.kd w (a.filter (fun t=> !f t.rep)++(b.take i).filter fun t=>f t.rep))]) (fun env h=>∃ w,env 7=w∧h=[.th (ow pTally.kd w (a.filter (fun t=> !f t.rep)++b.filter fun t=>f t.rep))]) (fun env h=>False) _ H (by simp +contextual (disch:=omega) only[go_sem]) ⟨w,by simp +contextual (disch:=omega) only[go_sem,e2],by simp +contextual (disch:=omega) only[go_sem,e7],by simp +contextual (disch:=omega) only[go_sem],by simp +contextual (disch:=omega) only[go_sem],by simp⟩ ?_ ?_ ?_ ?_
 ·clear H e1 e2 e7
  rintro J Y W hJ hY hW i env h τ hi ei c0 H ⟨w,e2,e7,e29,e30,rfl⟩
  have L1:=Tally_at hb hi
  simp +contextual (disch:=omega) only[go_sem,c0,e2,e7,e29,e30,ei,natOf_nat,L1]
  intro m fm τ1 _ τ2 H2
  refine by_b H2 (hf _ b[i] H2.sub (.inr (List.getElem_mem hi))) (fun k1=> ?_) (fun k1=> ?_)
  rotate_left
  ·simp +contextual (disch:=omega) only[go_sem,e2,e7,e29,e30,ei]
   exact hJ _ _ _ _ (H2.re [1] (by decide)) ⟨w,by simp +contextual (disch:=omega) only[go_sem,e2],by simp +contextual (disch:=omega) only[go_sem,e7],by simp +contextual (disch:=omega) only[go_sem,e29],by simp +contextual (disch:=omega) only[go_sem,e30],by rw[flt_f hi (by simp[k1])];rfl⟩
  ·simp +contextual (disch:=omega) only[go_sem,e2,e7,e29,e30,ei]
   intro n3 f3 τ3 H3
   refine by_app1 (p:=pTally) H3 2 rfl b[i] look_eq (by decide) (by have:=app_le (p:=fun t=> !f t.rep) (q:=fun t=>f t.rep) (i:=i) hla hlb;omega) fun w' τ4 H4=> ?_
   simp +contextual (disch:=omega) only[go_sem,e2,e29,e30,ei]
   exact hJ _ _ _ _ (H4.re [2] (by decide)) ⟨w',by simp +contextual (disch:=omega) only[go_sem,e2],by simp +contextual (disch:=omega) only[go_sem],by simp +contextual (disch:=omega) only[go_sem,e29],by simp +contextual (disch:=omega) only[go_sem,e30],by rw[flt_t hi (by simp[k1]),←List.append_assoc];rfl⟩
 ·clear H e1 e2 e7
  rintro Y hY env h τ ei c0 H ⟨w,e2,e7,e29,e30,rfl⟩
  simp +contextual (disch:=omega) only[go_sem,c0,e30,ei]
  exact hY _ _ _ H ⟨w,e7,by rw[List.take_length]⟩
 ·clear H e1 e2 e7
  rintro env h τ H ⟨w,e7,rfl⟩
  simp +contextual (disch:=omega) only[go_sem,e7]
  have hll:=app_le (p:=fun t=> !f t.rep) (q:=fun t=>f t.rep) (i:=b.length) hla hlb
  rw[List.take_length] at hll
  obtain⟨τ5,R5,H5⟩:=sortTally_ret H.hp 0 rfl (by omega) (tally_htri htri)
  refine by_m (h':=[.th (ow pTally.kd w (mergeT f a b))]) R5 H5 ?_
  simp +contextual (disch:=omega) only[go_sem,e7]
  exact fun _=>⟨_,rfl,H5⟩
 ·exact fun _ _ _ _ h=>h.elim
theorem joinC_old {a b:List Cell} {x:Cell} (hxa:x.dot∈a.map (·.dot)) (hxb:x.dot∉b.map (·.dot)):joinC a (b++[x])=(joinC a b).map (goneX x):=by
 unfold joinC
 have hf:isNewC a x=false:=by
  cases e:isNewC a x with
  |false=>rfl
  |true=>exact absurd hxa (isNewC_iff.1 e)
 rw[List.map_append,List.map_map,List.filter_append,List.filter_cons,hf]
 simp only[Bool.false_eq_true,if_false,List.filter_nil,List.append_nil]
 congr 1
 ·refine(List.map_congr_left fun c hc=> ?_)
  simp only[Function.comp,goneX,goneBy,List.any_append,List.any_cons,List.any_nil,Bool.or_false]
  by_cases e:c.dot=x.dot
  ·simp[e,Bool.or_assoc]
  ·have e':¬ x.dot=c.dot:=fun h=>e h.symm
   simp[e,e']
 ·refine((List.map_congr_left fun c hc=> ?_).trans (List.map_id _)).symm
  unfold goneX
  rw[if_neg fun e=>hxb (List.mem_map.2 ⟨c,(List.mem_filter.1 hc).1,e⟩)];rfl
theorem joinC_fresh {a b:List Cell} {x:Cell} (hxa:x.dot∉a.map (·.dot)):joinC a (b++[x])=joinC a b++[x]:=by
 have ht:isNewC a x=true:=isNewC_iff.2 hxa
 unfold joinC
 rw[List.filter_append,List.filter_cons,ht]
 simp only[if_true,List.filter_nil,←List.append_assoc]
 congr 2
 refine List.map_congr_left fun c hc=> ?_
 have:¬ x.dot=c.dot:=fun h=>hxa (List.mem_map.2 ⟨c,hc,h.symm⟩)
 simp[goneBy,this]
theorem joinC_nil (a:List Cell):joinC a []=a:=by
 simp only[joinC,List.filter_nil,List.append_nil]
 refine(List.map_congr_left fun c _=> ?_).trans (List.map_id _)
 simp[goneBy]
theorem joinC_le (a b:List Cell):(joinC a b).length≤a.length+b.length:=by
 unfold joinC
 rw[List.length_append,List.length_map]
 have:=List.length_filter_le (isNewC a) b
 omega
theorem joinC_at {a b:List Cell} {i:Nat} (hi:i<a.length):∃ h:i<(joinC a b).length,(joinC a b)[i]=goneBy b a[i]:=by
 have h:i<(joinC a b).length:=by unfold joinC;rw[List.length_append,List.length_map];omega
 refine⟨h,?_⟩
 show(a.map (goneBy b)++b.filter (isNewC a))[i]'h=_
 exact(List.getElem_append_left (by simpa using hi)).trans (List.getElem_map _)
theorem goneX_set {l:List Cell} {x:Cell} {k:Nat} (hn:(l.map (·.dot)).Nodup) (hk:k<l.length) (hd:l[k].dot=x.dot):l.map (goneX x)=l.set k {l[k] with gone:=l[k].gone||x.gone}:=by
 refine List.ext_getElem (by simp) fun j h1 h2=> ?_
 have hj:j<l.length:=by simpa using h1
 rw[List.getElem_map,List.getElem_set]
 unfold goneX
 by_cases hjk:k=j
 ·subst hjk
  rw[if_pos rfl,if_pos hd]
 ·rw[if_neg hjk,if_neg fun e=>hjk (nd_ix hn hk hj (by rw[hd,e]))]
set_option maxHeartbeats 2000000 in
theorem i_mergedCells_ret (σ:St) (va vb:GV) (a b:List Cell) (ha:RS pCell.kd σ va a) (hb:RS pCell.kd σ vb b) (hla:a.length≤1073741824) (hlb:b.length≤1073741824) (hpa:a.Pairwise fun a b=>dotLt a.dot b.dot=true) (hnb:(b.map (·.dot)).Nodup):∃ r τ,Ret Tryz.prog n_i_mergedCells [va,vb] σ r τ∧Hp σ τ [ow pCell.kd r (mergeC a b)]:=by
 have hna:=cell_dots hpa
 refine ret_x ir_i_mergedCells (Nat.le_of_ble_eq_true rfl) (Hx.refl σ) ?_
 simp +contextual (disch:=omega) only[go_sem,F_i_mergedCells]
 intro n fn τ H
 refine by_cp (p:=pCell) H (ha.pre H.sub) (by decide) (by omega) fun w τ1 H1=> ?_
 simp +contextual (disch:=omega) only[go_sem]
 refine by_mkm H1 fun m τ2 H2=> ?_
 simp +contextual (disch:=omega) only[go_sem,ha.len]
 refine sx_for a.length 19 0 (fun i env h=>env 1=vb∧env 5=w∧env 6=m∧env 17=va∧env 18=gi a.length∧h=[.th (mpt m (plc 0 (a.take i))),.th (ow pCell.kd w a)]) (fun env h=>env 1=vb∧env 5=w∧env 6=m∧h=[.th (mpt m (plc 0 a)),.th (ow pCell.kd w a)]) (fun env h=>False) _ H2 (by simp +contextual (disch:=omega) only[go_sem]) ⟨by simp +contextual (disch:=omega) only[go_sem],by simp +contextual (disch:=omega) only[go_sem],by simp +contextual (disch:=omega) only[go_sem],by simp +contextual (disch:=omega) only[go_sem],by simp +contextual (disch:=omega) only[go_sem],rfl⟩ ?_ ?_ ?_ ?_
 ·clear H H1 H2
  rintro J Y W hJ hY hW i env h τ hi ei c0 H ⟨e1,e5,e6,e17,e18,rfl⟩
  have L1:=Cell_at ha hi
  simp +contextual (disch:=omega) only[go_sem,c0,e1,e5,e6,e17,e18,ei,natOf_nat,L1]
  intro n1 f1 τ1 _ τ2 H2
  refine by_mup H2 1 rfl a[i].dot i (plc_new hpa hi) fun τ3 H3=> ?_
  simp +contextual (disch:=omega) only[go_sem,ei]
  refine hJ _ _ _ _ (H3.re [1,2] (by decide)) ⟨by simp +contextual (disch:=omega) only[go_sem,e1],by simp +contextual (disch:=omega) only[go_sem,e5],by simp +contextual (disch:=omega) only[go_sem,e6],by simp +contextual (disch:=omega) only[go_sem,e17],by simp +contextual (disch:=omega) only[go_sem,e18],?_⟩
  rw[take_snoc hi,plc_snoc,List.length_take,Nat.min_eq_left (by omega),Nat.zero_add]
  rfl
 ·clear H H1 H2
  rintro Y hY env h τ ei c0 H ⟨e1,e5,e6,e17,e18,rfl⟩
  simp +contextual (disch:=omega) only[go_sem,c0,e18,ei]
  exact hY _ _ _ H ⟨e1,e5,e6,by rw[List.take_length]⟩
 rotate_left
 ·exact fun _ _ _ _ h=>h.elim
 clear H H1 H2
 rintro env h τ H ⟨e1,e5,e6,rfl⟩
 simp +contextual (disch:=omega) only[go_sem,e1,hb.len]
 refine sx_for b.length 31 2 (fun i env h=>∃ w,env 5=w∧env 6=m∧env 29=vb∧env 30=gi b.length∧h=[.th (mpt m (plc 0 a)),.th (ow pCell.kd w (joinC a (b.take i)))]) (fun env h=>∃ w,env 5=w∧h=[.th (mpt m (plc 0 a)),.th (ow pCell.kd w (joinC a b))]) (fun env h=>False) _ H (by simp +contextual (disch:=omega) only[go_sem]) ⟨w,by simp +contextual (disch:=omega) only[go_sem,e5],by simp +contextual (disch:=omega) only[go_sem,e6],by simp +contextual (disch:=omega) only[go_sem],by simp +contextual (disch:=omega) only[go_sem],by rw[List.take_zero,joinC_nil]⟩ ?_ ?_ ?_ ?_
 ·clear H e1 e5 e6
  rintro J Y W hJ hY hW i env h τ hi ei c0 H ⟨w,e5,e6,e29,e30,rfl⟩
  have L1:=Cell_at hb hi
  have hxb:b[i].dot∉(b.take i).map (·.dot):=fun hm=>by
   obtain⟨c,hc,e⟩:=List.mem_map.1 hm
   obtain⟨j,hj,rfl⟩:=List.getElem_of_mem hc
   have hj2:j<b.length:=by simp at hj;omega
   rw[List.getElem_take] at e
   have:=nd_ix hnb hj2 hi e
   simp at hj;omega
  have hjn:=joinC_nodup hna (((List.take_sublist i b).map (·.dot)).nodup hnb)
  have hjl:=joinC_le a (b.take i)
  have hjl2:(b.take i).length≤b.length:=by rw[List.length_take];omega
  simp +contextual (disch:=omega) only[go_sem,c0,e5,e6,e29,e30,ei,natOf_nat,L1]
  intro n1 f1 τ1 _ τ2 H2
  have ML:=H2.mlk 1 rfl b[i].dot
  rw[dlook_plc] at ML
  cases hx:cellIx a b[i].dot with
  |none=>
   have hxa:b[i].dot∉a.map (·.dot):=fun h=>by obtain⟨k,hk⟩:=cellIx_of h;rw[hx] at hk;cases hk
   simp only[hx,Option.map_none,Option.getD_none,Option.isSome_none] at ML
   simp +contextual (disch:=omega) only[go_sem,ML,e5,e6,e29,e30,ei]
   intro n3 f3 τ3 H3
   refine by_app1 (p:=pCell) H3 3 rfl b[i] look_eq (by decide) (by omega) fun w' τ4 H4=> ?_
   simp +contextual (disch:=omega) only[go_sem,e6,e29,e30,ei]
   exact hJ _ _ _ _ (H4.re [2,3] (by decide)) ⟨w',by simp +contextual (disch:=omega) only[go_sem],by simp +contextual (disch:=omega) only[go_sem,e6],by simp +contextual (disch:=omega) only[go_sem,e29],by simp +contextual (disch:=omega) only[go_sem,e30],by rw[take_snoc hi,joinC_fresh hxa];rfl⟩
  |some k=>
   obtain⟨hk,hd⟩:=cellIx_some hx
   obtain⟨hk2,hke⟩:=joinC_at (b:=b.take i) hk
   have hxa:b[i].dot∈a.map (·.dot):=List.mem_map.2 ⟨a[k],List.getElem_mem hk,hd⟩
   simp only[hx,Option.map_some,Option.getD_some,Option.isSome_some,Nat.zero_add] at ML
   have O1:=Cell_own H2 2 rfl hk2
   have hgs:=goneX_set (x:=b[i]) hjn hk2 (by rw[hke];exact hd)
   have hst:∀ b',b'=((joinC a (b.take i))[k].gone||b[i].gone)→joinC a (b.take (i+1))=(joinC a (b.take i)).set k {(joinC a (b.take i))[k] with gone:=b'}:=fun b' e=>by
    rw[take_snoc hi,joinC_old hxa hxb,hgs,e]
   cases hg:(joinC a (b.take i))[k].gone with
   |true=>
    simp +contextual (disch:=omega) only[go_sem,ML,e5,e6,e29,e30,ei,natOf_nat,O1,hg]
    refine by_ste (p:=pCell) H2 2 rfl hk2 {(joinC a (b.take i))[k] with gone:=true} rfl (by decide) (by decide) rfl fun τ3 H3=> ?_
    simp +contextual (disch:=omega) only[go_sem,e5,e6,e29,e30,ei]
    exact hJ _ _ _ _ (H3.re [1,2] (by decide)) ⟨w,by simp +contextual (disch:=omega) only[go_sem,e5],by simp +contextual (disch:=omega) only[go_sem,e6],by simp +contextual (disch:=omega) only[go_sem,e29],by simp +contextual (disch:=omega) only[go_sem,e30],by rw[hst true (by rw[hg];rfl)];rfl⟩
   |false=>
    simp +contextual (disch:=omega) only[go_sem,ML,e5,e6,e29,e30,ei,natOf_nat,O1,hg]
    refine by_ste (p:=pCell) H2 2 rfl hk2 {(joinC a (b.take i))[k] with gone:=b[i].gone} rfl (by decide) (by decide) rfl fun τ3 H3=> ?_
    simp +contextual (disch:=omega) only[go_sem,e5,e6,e29,e30,ei]
    exact hJ _ _ _ _ (H3.re [1,2] (by decide)) ⟨w,by simp +contextual (disch:=omega) only[go_sem,e5],by simp +contextual (disch:=omega) only[go_sem,e6],by simp +contextual (disch:=omega) only[go_sem,e29],by simp +contextual (disch:=omega) only[go_sem,e30],by rw[hst b[i].gone (by rw[hg];rfl)];rfl⟩
 ·clear H e1 e5 e6
  rintro Y hY env h τ ei c0 H ⟨w,e5,e6,e29,e30,rfl⟩
  simp +contextual (disch:=omega) only[go_sem,c0,e30,ei]
  exact hY _ _ _ H ⟨w,e5,by rw[List.take_length]⟩
 ·clear H e1 e5 e6
  rintro env h τ H ⟨w,e5,rfl⟩
  simp +contextual (disch:=omega) only[go_sem,e5]
  have hjl:=joinC_le a b
  obtain⟨τ5,R5,H5⟩:=sortCellD_ret H.hp 1 rfl (by omega) (cell_htri (joinC_nodup hna hnb))
  refine by_m (h':=[.th (mpt m (plc 0 a)),.th (ow pCell.kd w (mergeC a b))]) R5 H5 ?_
  simp +contextual (disch:=omega) only[go_sem,e5]
  exact fun _=>⟨_,rfl,Hp.sel H5 [1] (by decide)⟩
 ·exact fun _ _ _ _ h=>h.elim
end Go.Proofs.YtffnefmklckngaaGreat.Sy
namespace Go.Proofs.YtffnefmklckngaaGreat.Sy
open Go Go.RowKit
set_option linter.unusedSimpArgs false
set_option linter.unusedVariables false
def kMin (a b:List Int):List Int:=zipK mn a b
def ordOf (a b:List Int):Int:=if okK a&&okK b then(if a=b then 0 else if knowIn a b then -1 else if knowIn b a then 1 else 2) else 3
def joinL (ll:List (List Int)):List Int:=if ll.all okK then ll.foldl kMax [0,0,0] else[]
theorem kMax_len (a b:List Int):(kMax a b).length≤3:=zipK_len mx a b
def meetG:List (List Int)→List Int
 |[]=>[]
 |k::r=>(k::r).foldl kMin k
def meetL (ll:List (List Int)):List Int:=if ll.all okK then meetG ll else[]
end Go.Proofs.YtffnefmklckngaaGreat.Sy
namespace Go.Proofs.YtffnefmklckngaaGreat.Sy
open Go Go.RowKit
set_option linter.unusedSimpArgs false
set_option linter.unusedVariables false
set_option maxRecDepth 4000
abbrev n_i_DoDelta_f1:Nat:=205
def F_i_DoDelta_f1:Fn1:=⟨16,[.t 4],(.seq (.reg [o 4 (.mov (.k (.bool false)))]) (.seq (.drw [o 5 (.fad 1 (.t 1)),o 6 (.ld false 1 (.t 5)),o 7 (.mov (.t 0)),o 8 (.iad 1 (.t 6) (.t 7)),o 9 (.ld false 1 (.t 8)),o 10 (.fad 0 (.t 2)),o 11 (.ld false 1 (.t 10)),o 12 (.mov (.t 0)),o 13 (.iad 1 (.t 11) (.t 12)),o 14 (.ld false 1 (.t 13))] [o 15 (.bin .gtr (.t 9) (.t 14)),o 4 (.mov (.t 15))]) .ret))⟩
theorem ir_i_DoDelta_f1:compFn Tryz.prog n_i_DoDelta_f1=some F_i_DoDelta_f1:=by kernel_rfl
abbrev n_i_DoDelta:Nat:=161
def F_i_DoDelta:Fn1:=⟨134,[.c 4 true 4,.t 5],(.seq (.reg [o 2 (.box (.t 0)),o 3 (.box (.t 1)),o 4 (.new [.nilS,.nilS,.nilS,.nilS]),o 5 (.mov (.k (.int .i64 0)))]) (.seq (.reg [o 13 (.ld true 4 (.t 2)),o 14 (.call 93 [(.t 13)]),o 6 (.new [.nilS,.nilS,.nilS,.nilS]),on (.st 4 (.t 6) (.t 14))]) (.seq (.blk 0 (.seq (.reg [o 16 (.ld true 4 (.t 2)),o 17 (.call 146 [(.t 16)]),o 18 (.un .not (.t 17)),o 19 (.mov (.t 18)),og 20 19 false (.ld true 6 (.t 3)),og 21 19 false (.call 109 [(.t 20)]),og 22 19 false (.un .not (.t 21)),o 23 (.pick (.t 19) (.k (.bool true)) (.t 22)),o 15 (.mov (.t 23))]) (.cnd (.t 15) (.seq (.reg [o 24 (.ld true 4 (.t 6)),on (.st 4 (.t 4) (.t 24)),o 5 (.mov (.k (.int .i64 3)))]) .ret) (.seq (.reg [o 26 (.fad 1 (.t 3)),o 27 (.ld false 1 (.t 26)),o 28 (.fad 0 (.t 2)),o 29 (.ld false 1 (.t 28)),o 30 (.call 151 [(.t 27),(.t 29)]),o 25 (.mov (.t 30))]) (.cnd (.t 25) (.seq (.reg [o 31 (.ld true 4 (.t 6)),on (.st 4 (.t 4) (.t 31)),o 5 (.mov (.k (.int .i64 1)))]) .ret) (.seq (.reg [o 33 (.fad 0 (.t 3)),o 34 (.ld false 1 (.t 33)),o 35 (.fad 0 (.t 2)),o 36 (.ld false 1 (.t 35)),o 37 (.call 151 [(.t 34),(.t 36)]),o 38 (.un .not (.t 37)),o 32 (.mov (.t 38))]) (.cnd (.t 32) (.seq (.reg [o 39 (.ld true 4 (.t 6)),on (.st 4 (.t 4) (.t 39)),o 5 (.mov (.k (.int .i64 2)))]) .ret) .skip))))))) (.seq (.reg [o 40 (.fad 0 (.t 2)),o 41 (.ld false 1 (.t 40)),o 42 (.fad 1 (.t 3)),o 43 (.ld false 1 (.t 42)),o 44 (.call 203 [(.t 41),(.t 43)]),o 45 (.build [.nilS,.nilS,.nilS,.nilS] [(0,1,(.t 44))]),o 7 (.new [.nilS,.nilS,.nilS,.nilS]),on (.st 4 (.t 7) (.t 45))]) (.seq (.reg [o 46 (.fad 1 (.t 2)),o 47 (.ld false 1 (.t 46)),o 48 (.fad 2 (.t 3)),o 49 (.ld false 1 (.t 48)),o 50 (.mkf 205 [(.t 3),(.t 2)]),o 51 (.call 204 [(.t 47),(.t 49),(.t 50)]),o 52 (.fad 1 (.t 7)),on (.st 1 (.t 52) (.t 51))]) (.seq (.seq (.reg [o 53 (.fad 2 (.t 2)),o 54 (.ld false 1 (.t 53)),o 55 (.len false (.t 54)),o 56 (.mov (.k (.int .i64 0)))]) (.blk 1 (.lop (.seq (.reg [o 57 (.bin .lss (.t 56) (.t 55))]) (.seq (.cnd (.t 57) .skip (.ext 1)) (.seq (.blk 2 (.seq (.reg [o 58 (.iad 6 (.t 54) (.t 56)),o 59 (.ld true 6 (.t 58)),o 9 (.new [(.bool false),(.str ⟨#[]⟩),(.str ⟨#[]⟩),(.int .i64 0),(.int .i64 0),(.int .i64 0)]),on (.st 6 (.t 9) (.t 59))]) (.seq (.reg [o 60 (.fad 1 (.t 3)),o 61 (.ld false 1 (.t 60)),o 62 (.fad 4 (.t 9)),o 63 (.ld true 2 (.t 62)),o 64 (.call 150 [(.t 61),(.t 63)]),o 65 (.mov (.t 64)),og 66 65 true (.fad 0 (.t 3)),og 67 65 true (.ld false 1 (.t 66)),og 68 65 true (.fad 4 (.t 9)),og 69 65 true (.ld true 2 (.t 68)),og 70 65 true (.call 150 [(.t 67),(.t 69)]),og 71 65 true (.un .not (.t 70)),o 72 (.pick (.t 65) (.t 71) (.k (.bool false))),o 73 (.mov (.t 72)),og 74 73 true (.fad 3 (.t 3)),og 75 73 true (.ld false 1 (.t 74)),og 76 73 true (.ld true 6 (.t 9)),og 77 73 true (.call 206 [(.t 75),(.t 76)]),og 78 73 true (.un .not (.t 77)),o 79 (.pick (.t 73) (.t 78) (.k (.bool false))),o 10 (.mov (.t 79))]) (.seq (.reg [o 80 (.mov (.t 10)),o 81 (.un .not (.t 80)),o 82 (.mov (.t 81)),og 83 82 true (.fad 4 (.t 3)),og 84 82 true (.ld false 1 (.t 83)),og 85 82 true (.fad 4 (.t 9)),og 86 82 true (.ld true 2 (.t 85)),og 87 82 true (.call 207 [(.t 84),(.t 86)]),og 88 82 true (.un .not (.t 87)),o 89 (.pick (.t 82) (.t 88) (.k (.bool false)))]) (.cnd (.t 89) (.reg [o 90 (.fad 2 (.t 7)),o 91 (.ld false 1 (.t 90)),o 92 (.ld true 6 (.t 9)),o 93 (.lit 6 1 [(.bool false),(.str ⟨#[]⟩),(.str ⟨#[]⟩),(.int .i64 0),(.int .i64 0),(.int .i64 0)] [(0,6,(.t 92))]),o 94 (.app 6 64 [(.bool false),(.str ⟨#[]⟩),(.str ⟨#[]⟩),(.int .i64 0),(.int .i64 0),(.int .i64 0)] (.t 91) (.t 93)),o 95 (.fad 2 (.t 7)),on (.st 1 (.t 95) (.t 94))]) .skip))))) (.reg [o 96 (.bin .add (.t 56) (.k (.int .i64 1))),o 56 (.mov (.t 96))]))))))) (.seq (.seq (.reg [o 97 (.fad 3 (.t 3)),o 98 (.ld false 1 (.t 97)),o 99 (.len false (.t 98)),o 100 (.mov (.k (.int .i64 0)))]) (.blk 3 (.lop (.seq (.reg [o 101 (.bin .lss (.t 100) (.t 99))]) (.seq (.cnd (.t 101) .skip (.ext 3)) (.seq (.blk 4 (.seq (.reg [o 102 (.iad 6 (.t 98) (.t 100)),o 103 (.ld true 6 (.t 102)),o 12 (.new [(.bool false),(.str ⟨#[]⟩),(.str ⟨#[]⟩),(.int .i64 0),(.int .i64 0),(.int .i64 0)]),on (.st 6 (.t 12) (.t 103))]) (.seq (.reg [o 104 (.fad 0 (.t 2)),o 105 (.ld false 1 (.t 104)),o 106 (.fad 4 (.t 12)),o 107 (.ld true 2 (.t 106)),o 108 (.call 150 [(.t 105),(.t 107)]),o 109 (.un .not (.t 108))]) (.cnd (.t 109) (.reg [o 110 (.fad 2 (.t 7)),o 111 (.ld false 1 (.t 110)),o 112 (.ld true 6 (.t 12)),o 113 (.lit 6 1 [(.bool false),(.str ⟨#[]⟩),(.str ⟨#[]⟩),(.int .i64 0),(.int .i64 0),(.int .i64 0)] [(0,6,(.t 112))]),o 114 (.app 6 64 [(.bool false),(.str ⟨#[]⟩),(.str ⟨#[]⟩),(.int .i64 0),(.int .i64 0),(.int .i64 0)] (.t 111) (.t 113)),o 115 (.fad 2 (.t 7)),on (.st 1 (.t 115) (.t 114))]) .skip)))) (.reg [o 116 (.bin .add (.t 100) (.k (.int .i64 1))),o 100 (.mov (.t 116))]))))))) (.seq (.reg [o 117 (.fad 2 (.t 7)),o 118 (.ld false 1 (.t 117)),o 119 (.call 208 [(.t 118)])]) (.seq (.reg [o 120 (.fad 3 (.t 2)),o 121 (.ld false 1 (.t 120)),o 122 (.fad 5 (.t 3)),o 123 (.ld false 1 (.t 122)),o 124 (.call 209 [(.t 121),(.t 123)]),o 125 (.fad 3 (.t 7)),on (.st 1 (.t 125) (.t 124))]) (.seq (.seq (.reg [o 126 (.ld true 4 (.t 7)),o 127 (.call 157 [(.t 126)])]) (.cnd (.t 127) (.seq (.reg [o 128 (.ld true 4 (.t 6)),on (.st 4 (.t 4) (.t 128)),o 5 (.mov (.k (.int .i64 4)))]) .ret) .skip)) (.seq (.seq (.reg [o 129 (.ld true 4 (.t 7)),o 130 (.call 146 [(.t 129)]),o 131 (.un .not (.t 130))]) (.cnd (.t 131) (.seq (.reg [o 132 (.ld true 4 (.t 6)),on (.st 4 (.t 4) (.t 132)),o 5 (.mov (.k (.int .i64 3)))]) .ret) .skip)) (.seq (.reg [o 133 (.ld true 4 (.t 7)),on (.st 4 (.t 4) (.t 133)),o 5 (.mov (.k (.int .i64 0)))]) .ret))))))))))))⟩
theorem ir_i_DoDelta:compFn Tryz.prog n_i_DoDelta=some F_i_DoDelta:=by kernel_rfl
def fromD (s:State) (d:Delta) (rep:Int):Bool:=decide (at0 s.know rep<at0 d.know rep)
def keepD (d:Delta) (l:Live):Bool:= !(knows d.know l.dot&&(!knows d.base l.dot&& !decide (l∈d.lives)))&& !decide (l.dot∈d.dead)
def newD (s:State) (l:Live):Bool:= !knows s.know l.dot
def dltTo (s:State) (d:Delta):State:=⟨kMax s.know d.know,mergeT (fromD s d) s.tallies d.tallies,insAll liveLt (s.lives.filter (keepD d)++d.lives.filter (newD s)),mergeC s.cells d.cells⟩
def doDelta (s:State) (d:Delta):State×Int:=
 if !(stateOk s&&deltaOk d) then(s,3) else if knowIn d.know s.know then(s,1) else if !knowIn d.base s.know then(s,2) else
 if tooMany (dltTo s d) then(s,4) else if !stateOk (dltTo s d) then(s,3) else(dltTo s d,0)
theorem tals_up {l:List Tally} (h:talsOk l=true):l.Pairwise fun a b=>tallyLt a b=true:=by
 simp only[talsOk,Bool.and_eq_true,allR_iff,talP] at h
 exact pairs_up (lt:=tallyLt) (fun a b c h1 h2=>swo_tally.trans _ _ _ h1 h2) fun i hi=>(h.1 i hi).2
theorem tals_rep {l:List Tally} (h:talsOk l=true) {t:Tally} (ht:t∈l):0≤t.rep∧t.rep≤2:=by
 simp only[talsOk,Bool.and_eq_true,allR_iff,talP] at h
 obtain⟨i,hi,rfl⟩:=List.getElem_of_mem ht
 have:=(h.1 i hi).1
 rw[onI_at hi] at this
 simp only[tal1,Bool.and_eq_true] at this
 exact inB_iff.1 this.2.1
theorem delta_facts {s:State} {d:Delta} (hs:stateOk s=true) (hd:deltaOk d=true):okK s.know=true∧okK d.know=true∧s.tallies.Pairwise (fun a b=>tallyLt a b=true)∧d.tallies.Pairwise (fun a b=>tallyLt a b=true)∧(∀ t,t∈s.tallies∨t∈d.tallies→0≤t.rep∧t.rep≤2)∧s.cells.Pairwise (fun a b=>dotLt a.dot b.dot=true)∧d.cells.Pairwise (fun a b=>dotLt a.dot b.dot=true)∧s.lives.Pairwise (fun a b=>dotLt a.dot b.dot=true)∧d.lives.Pairwise (fun a b=>dotLt a.dot b.dot=true)∧∀ l∈s.lives,knows s.know l.dot=true:=by
 have hk:=(known_facts hs).2.1
 simp only[stateOk,Bool.and_eq_true] at hs
 simp only[deltaOk,Bool.and_eq_true] at hd
 obtain⟨a1,a2,a3,a4,_⟩:=hs
 obtain⟨b1,b2,b3,b4,_⟩:=hd
 simp only[knowIn,Bool.and_eq_true] at b1
 exact⟨a1,b1.2.1,tals_up a2,tals_up b2,fun t ht=>ht.elim (tals_rep a2) (tals_rep b2),dots_up a4,dots_up b4,lives_up a3,lives_up b3,hk⟩
theorem live_dots {l:List Live} (h:l.Pairwise fun a b=>dotLt a.dot b.dot=true):(l.map (·.dot)).Nodup:=by
 rw[List.Nodup,List.pairwise_map]
 refine h.imp fun {a b} h1 e=> ?_
 rw[e,dotLt_irr] at h1;cases h1
theorem live_htri {l:List Live} (h:(l.map (·.dot)).Nodup):∀ x∈l,∀ y∈l,liveLt x y=false→liveLt y x=false→x=y:=fun x hx y hy h1 h2=>nd_inj h hx hy (dotLt_tri h1 h2)
theorem apart_dots {p:Live→Bool} {k:List Int} {a b:List Live} (ha:a.Pairwise fun a b=>dotLt a.dot b.dot=true) (hb:b.Pairwise fun a b=>dotLt a.dot b.dot=true) (hk:∀ l∈a,knows k l.dot=true):((a.filter p++b.filter fun l=> !knows k l.dot).map (·.dot)).Nodup:=by
 rw[List.map_append,List.nodup_append]
 refine⟨live_dots (ha.filter _),live_dots (hb.filter _),?_⟩
 intro x hx y hy e
 obtain⟨t,ht,rfl⟩:=List.mem_map.1 hx
 obtain⟨u,hu,rfl⟩:=List.mem_map.1 hy
 have h1:=hk t (List.mem_filter.1 ht).1
 have h2:=(List.mem_filter.1 hu).2
 rw[← e,h1] at h2;cases h2
theorem sumL_append {α:Type} (f:α→Nat) (l m:List α):sumL f (l++m)=sumL f l+sumL f m:=by simp[sumL]
theorem sumL_map' {α:Type} (f:α→Nat) {g:α→α} (hg:∀ x,f (g x)=f x) (l:List α):sumL f (l.map g)=sumL f l:=by
 unfold sumL
 rw[List.map_map]
 congr 1
 exact List.map_congr_left fun x _=>hg x
theorem mergeT_ms (f:Int→Bool) (a b:List Tally):(mergeT f a b).length≤a.length+b.length∧sumL msTally (mergeT f a b)≤sumL msTally a+sumL msTally b:=by
 unfold mergeT
 rw[insAll_length,sumL_perm msTally (insAll_perm _ _),List.length_append,sumL_append]
 have:=List.length_filter_le (fun t:Tally=> !f t.rep) a
 have:=List.length_filter_le (fun t:Tally=>f t.rep) b
 have:=sumL_flt msTally (fun t:Tally=> !f t.rep) a
 have:=sumL_flt msTally (fun t:Tally=>f t.rep) b
 omega
theorem mergeC_ms (a b:List Cell):(mergeC a b).length≤a.length+b.length∧sumL msCell (mergeC a b)≤sumL msCell a+sumL msCell b:=by
 unfold mergeC
 rw[insAll_length,sumL_perm msCell (insAll_perm _ _)]
 refine⟨joinC_le a b,?_⟩
 unfold joinC
 rw[sumL_append,sumL_map' msCell (g:=goneBy b) fun x=>rfl]
 have:=sumL_flt msCell (isNewC a) b
 omega
theorem lives_ms (p q:Live→Bool) (a b:List Live):(insAll liveLt (a.filter p++b.filter q)).length≤a.length+b.length∧sumL msLive (insAll liveLt (a.filter p++b.filter q))≤sumL msLive a+sumL msLive b:=by
 rw[insAll_length,sumL_perm msLive (insAll_perm _ _),List.length_append,sumL_append]
 have:=List.length_filter_le p a
 have:=List.length_filter_le q b
 have:=sumL_flt msLive p a
 have:=sumL_flt msLive q b
 omega
theorem ms_dlt (s:State) (d:Delta):msState (dltTo s d)≤msState s+msDelta d+3:=by
 have h1:=mergeT_ms (fromD s d) s.tallies d.tallies
 have h2:=mergeC_ms s.cells d.cells
 have h3:=lives_ms (keepD d) (newD s) s.lives d.lives
 have h4:=kMax_len s.know d.know
 simp only[dltTo,msState,msDelta]
 omega
theorem i_DoDelta_f1_ret (σ:St) (nd ns:Nat) (ds cs:List GV) (d:Delta) (s:State) (hd:rdB σ nd=some ds) (hs:rdB σ ns=some cs) (hD:kDelta.R σ d ds) (hS:kState.R σ s cs) (h1:okK d.know=true) (h2:okK s.know=true) (rep:Int) (h0:0≤rep∧rep≤2):Ret Tryz.prog n_i_DoDelta_f1 [gi rep,.ptr nd 0,.ptr ns 0] σ (.bool (fromD s d rep)) σ:=by
 obtain⟨w0,w1,w2,w3,w4,w5,rfl,q0,q1,q2,q3,q4,q5⟩:=hD
 obtain⟨a,b,c,v,rfl,hk,_⟩:=hS
 refine ret_xe ir_i_DoDelta_f1 (Nat.le_of_ble_eq_true rfl) trivial ?_
 have A1:=rep_at q1 h1 h0.1 h0.2
 have A2:=rep_at hk h2 h0.1 h0.2
 have F1:ldG false 1 σ (.ptr nd 1)=some w1:=by rw[ld_ptr hd];rfl
 have F2:ldG false 1 σ (.ptr ns 0)=some a:=by rw[ld_ptr hs];rfl
 simp +contextual (disch:=omega) only[go_sem,F_i_DoDelta_f1,fun h τ=>ldX_in (h:=h) (τ:=τ) F1,fun h τ=>ldX_in (h:=h) (τ:=τ) F2,A1,A2]
 exact fun _=>rfl
abbrev z4':List GV:=[GV.nilS,GV.nilS,GV.nilS,GV.nilS]
set_option maxHeartbeats 4000000 in
theorem i_DoDelta_ret (σ:St) (cs:List GV) (s:State) (hR:kState.R σ s cs) (ds:List GV) (d:Delta) (hD:kDelta.R σ d ds) (hl:msState s≤1073741824) (hm:msDelta d≤1073741824):∃ r τ,Ret Tryz.prog n_i_DoDelta [.agg cs,.agg ds] σ (.tup [.agg r,gi (doDelta s d).2]) τ∧Hp σ τ [own kState r (doDelta s d).1]:=by
 have hR0:=hR
 have hD0:=hD
 obtain⟨a,b,c,v,rfl,qa,qb,qc,qv⟩:=hR
 obtain⟨w0,w1,w2,w3,w4,w5,rfl,p0,p1,p2,p3,p4,p5⟩:=hD
 have hl':=hl
 unfold msState at hl'
 obtain⟨m0,m1,m2,m3,m4,m5,_⟩:=msDelta_all hm
 have key:∃ q τ,Ret Tryz.prog n_i_DoDelta [.agg [a,b,c,v],.agg [w0,w1,w2,w3,w4,w5]] σ q τ∧∃ r,q= .tup [.agg r,gi (doDelta s d).2]∧Hp σ τ [own kState r (doDelta s d).1]:=by
  refine ret_x ir_i_DoDelta (Nat.le_of_ble_eq_true rfl) (Hx.refl σ) ?_
  simp +contextual (disch:=omega) only[go_sem,F_i_DoDelta]
  intro n2 f2 τ2 H2 n3 f3 τ3 H3 n4 f4 τ4 H4
  obtain⟨es,τ5,R5,K5⟩:=i_copyState_ret τ4 _ s (kState.pre hR0 H4.sub) (by omega)
  have gl:es.length=4:=kState.len (K5.rd 0 rfl)
  have sf:=splice_full (cs:=z4') gl rfl
  have sg:=seg_full gl
  refine by_c H4 R5 K5 fun H5=> ?_
  simp +contextual (disch:=omega) only[go_sem,sf,gl,sg]
  intro n6 f6 τ6 _ τ7 H7
  refine by_b H7 (i_StateOk_ret _ _ s (kState.pre hR0 H7.sub) (by omega)) (fun hok=> ?_) (fun hok=> ?_)
  rotate_left
  ·have hd:doDelta s d=(s,3):=by simp[doDelta,hok]
   simp +contextual (disch:=omega) only[go_sem,sf,gl,sg]
   intro τ8 H8
   exact⟨_,rfl,es,by rw[hd],by rw[hd];exact H8.sel [1] (by decide)⟩
  simp +contextual (disch:=omega) only[go_sem]
  refine by_b H7 (i_DeltaOk_ret _ _ d (kDelta.pre hD0 H7.sub) (by omega)) (fun hdk=> ?_) (fun hdk=> ?_)
  rotate_left
  ·have hd:doDelta s d=(s,3):=by simp[doDelta,hok,hdk]
   simp +contextual (disch:=omega) only[go_sem,sf,gl,sg]
   intro τ8 H8
   exact⟨_,rfl,es,by rw[hd],by rw[hd];exact H8.sel [1] (by decide)⟩
  simp +contextual (disch:=omega) only[go_sem]
  refine by_b H7 (i_KnowIn_ret _ w1 a _ _ (p1.pre H7.sub) (qa.pre H7.sub) (by omega) (by omega)) (fun k1=> ?_) (fun k1=> ?_)
  ·have hd:doDelta s d=(s,1):=by simp[doDelta,hok,hdk,k1]
   simp +contextual (disch:=omega) only[go_sem,sf,gl,sg]
   intro τ8 H8
   exact⟨_,rfl,es,by rw[hd],by rw[hd];exact H8.sel [1] (by decide)⟩
  simp +contextual (disch:=omega) only[go_sem]
  refine by_b H7 (i_KnowIn_ret _ w0 a _ _ (p0.pre H7.sub) (qa.pre H7.sub) (by omega) (by omega)) (fun k2=> ?_) (fun k2=> ?_)
  rotate_left
  ·have hd:doDelta s d=(s,2):=by simp[doDelta,hok,hdk,k1,k2]
   simp +contextual (disch:=omega) only[go_sem,sf,gl,sg]
   intro τ8 H8
   exact⟨_,rfl,es,by rw[hd],by rw[hd];exact H8.sel [1] (by decide)⟩
  obtain⟨o1,o2,t1,t2,t3,c1,c2,l5,l6,l7⟩:=delta_facts hok hdk
  simp +contextual (disch:=omega) only[go_sem]
  obtain⟨kv,τ9,R9,K9⟩:=i_KnowMax_ret τ7 a w1 _ _ (qa.pre H7.sub) (p1.pre H7.sub) (by omega) (by omega)
  refine by_c H7 R9 K9 fun H9=> ?_
  have ck:=(H9.hp.sl 0 rfl).cell
  simp +contextual (disch:=omega) only[go_sem,ck]
  intro n7 f7 τ10 _ τ11 H11
  obtain⟨tv,τ12,R12,K12⟩:=i_mergedTallies_ret τ11 b w2 s.tallies d.tallies (qb.pre H11.sub) (p2.pre H11.sub) n_i_DoDelta_f1 [(n3,0),(n2,0)] (fromD s d) (fun τ' t hp ht=>i_DoDelta_f1_ret τ' n3 n2 _ _ d s (rdB_pre hp (H11.hp.pt 5 rfl)) (rdB_pre hp (H11.hp.pt 6 rfl)) (kDelta.pre hD0 (H11.sub.trans hp)) (kState.pre hR0 (H11.sub.trans hp)) o2 o1 t.rep (t3 t ht)) (by omega) (by omega) (mergeT_key t1 t2)
  refine by_c H11 R12 K12 fun H12=> ?_
  have ct:=(H12.hp.sl 0 rfl).cell
  simp +contextual (disch:=omega) only[go_sem,ck,ct,qc.len]
  intro τ13 H13
  have H14:=H13.nil pLive.kd
  refine sx_for s.lives.length 56 1 (fun i env h=>∃ w,env 2= .ptr n2 0∧env 3= .ptr n3 0∧env 4= .ptr n4 0∧env 6= .ptr n6 0∧env 7= .ptr n7 0∧env 54=c∧env 55=gi s.lives.length∧h=[.th (ow pLive.kd w ((s.lives.take i).filter (keepD d))),.box 1 n7 [kv,tv,w,.nilS],.th (ow pTally.kd tv (mergeT (fromD s d) s.tallies d.tallies)),.th (ow pI.kd kv (kMax s.know d.know)),.box 1 n6 es,.th (own kState es s),.box 1 n4 z4',.box 1 n3 [w0,w1,w2,w3,w4,w5],.box 1 n2 [a,b,c,v]]) (fun env h=>∃ w,env 2= .ptr n2 0∧env 3= .ptr n3 0∧env 4= .ptr n4 0∧env 6= .ptr n6 0∧env 7= .ptr n7 0∧h=[.th (ow pLive.kd w (s.lives.filter (keepD d))),.box 1 n7 [kv,tv,w,.nilS],.th (ow pTally.kd tv (mergeT (fromD s d) s.tallies d.tallies)),.th (ow pI.kd kv (kMax s.know d.know)),.box 1 n6 es,.th (own kState es s),.box 1 n4 z4',.box 1 n3 [w0,w1,w2,w3,w4,w5],.box 1 n2 [a,b,c,v]]) (fun env h=>False) _ (H14.re [0,2,1,3,4,5,6,7,8] (by decide)) (by simp +contextual (disch:=omega) only[go_sem]) ⟨.nilS,by simp +contextual (disch:=omega) only[go_sem],by simp +contextual (disch:=omega) only[go_sem],by simp +contextual (disch:=omega) only[go_sem],by simp +contextual (disch:=omega) only[go_sem],by simp +contextual (disch:=omega) only[go_sem],by simp +contextual (disch:=omega) only[go_sem],by simp +contextual (disch:=omega) only[go_sem],rfl⟩ ?_ ?_ ?_ (fun _ _ _ _ h=>h.elim)
  ·clear H2 H3 H4 H5 H7 H9 H11 H12 H13 H14
   rintro J Y W hJ hY hW i env h τ hi ei k0 H ⟨w,e2,e3,e4,e6,e7,e54,e55,rfl⟩
   have L1:=Live_at qc hi
   have cw:=(H.hp.sl 0 rfl).cell
   simp +contextual (disch:=omega) only[go_sem,k0,e2,e3,e4,e6,e7,e54,e55,ei,natOf_nat,L1]
   intro n9 f9 τ1 _ τ2 H2
   have kE:keepD d s.lives[i]=(!(knows d.know s.lives[i].dot&&(!knows d.base s.lives[i].dot&& !decide (s.lives[i]∈d.lives)))&& !decide (s.lives[i].dot∈d.dead)):=rfl
   refine call_cut H2 57 10 (.bool (knows d.know s.lives[i].dot&&(!knows d.base s.lives[i].dot&& !decide (s.lives[i]∈d.lives)))) (fun Y hY=> ?_) ?_
   ·refine by_b H2 (i_Knows_ret _ w1 _ _ (p1.pre H2.sub) (by omega)) (fun k1=> ?_) (fun k1=> ?_)
    rotate_left
    ·simp +contextual (disch:=omega) only[go_sem]
     exact hY _ (by repeat(first|exact fun _ _=>by with_reducible rfl|refine kp (by decide) ?_)) (by simp +contextual (disch:=omega) only[go_sem,k1])
    simp +contextual (disch:=omega) only[go_sem,e3]
    refine by_b H2 (i_Knows_ret _ w0 _ _ (p0.pre H2.sub) (by omega)) (fun k2=> ?_) (fun k2=> ?_)
    ·simp +contextual (disch:=omega) only[go_sem]
     exact hY _ (by repeat(first|exact fun _ _=>by with_reducible rfl|refine kp (by decide) ?_)) (by simp +contextual (disch:=omega) only[go_sem,k1,k2])
    simp +contextual (disch:=omega) only[go_sem,e3]
    refine by_r H2 (slices_Contains_Live_ret _ w3 _ (p3.pre H2.sub) s.lives[i] (by omega)) ?_
    simp +contextual (disch:=omega) only[go_sem]
    exact hY _ (by repeat(first|exact fun _ _=>by with_reducible rfl|refine kp (by decide) ?_)) (by simp +contextual (disch:=omega) only[go_sem,k1,k2])
   intro env' ke e10
   have kk:∀ r,r<57∧r≠9∧r≠10→env' r=env r:=fun r h=>(ke r (by omega)).trans (by revert r h;repeat(first|exact fun _ _=>by with_reducible rfl|refine kp (by decide) ?_))
   have k9:env' 9= .ptr n9 0:=by simp +contextual (disch:=omega) only[go_sem,ke]
   have keep:keepD d s.lives[i]=false→∀ env'':Env,(∀ r,r<57∧r≠9∧r≠10∧r≠56→env'' r=env' r)→J (i+1) env'' τ2:=fun hk env'' k2=>hJ _ _ _ _ (H2.re [1,2,3,4,5,6,7,8,9] (by decide)) ⟨w,by simp +contextual (disch:=omega) only[go_sem,k2,kk,e2],by simp +contextual (disch:=omega) only[go_sem,k2,kk,e3],by simp +contextual (disch:=omega) only[go_sem,k2,kk,e4],by simp +contextual (disch:=omega) only[go_sem,k2,kk,e6],by simp +contextual (disch:=omega) only[go_sem,k2,kk,e7],by simp +contextual (disch:=omega) only[go_sem,k2,kk,e54],by simp +contextual (disch:=omega) only[go_sem,k2,kk,e55],by rw[flt_f hi hk];rfl⟩
   cases hg:(knows d.know s.lives[i].dot&&(!knows d.base s.lives[i].dot&& !decide (s.lives[i]∈d.lives))) with
   |true=>
    rw[hg] at e10 kE
    simp +contextual (disch:=omega) only[go_sem,e10,kk,ei]
    exact keep kE _ (by repeat(first|exact fun _ _=>by with_reducible rfl|refine kp (by decide) ?_))
   |false=>
    rw[hg] at e10 kE
    simp +contextual (disch:=omega) only[go_sem,e10,kk,k9,e3,ei]
    refine by_b H2 (slices_Contains_Dot_ret _ w4 _ (p4.pre H2.sub) s.lives[i].dot (by omega)) (fun k4=> ?_) (fun k4=> ?_)
    ·rw[k4] at kE
     simp +contextual (disch:=omega) only[go_sem,kk,ei]
     exact keep kE _ (by repeat(first|exact fun _ _=>by with_reducible rfl|refine kp (by decide) ?_))
    ·rw[k4] at kE
     simp +contextual (disch:=omega) only[go_sem,kk,k9,e7,ei]
     intro nl fl τ3 H3
     refine by_app1 (p:=pLive) H3 2 rfl s.lives[i] look_eq (by decide) (by have:=flt_le (p:=keepD d) (l:=s.lives) (i:=i) (n:=1073741824) (by omega);omega) fun w' τ4 H4=> ?_
     have cw':=(H4.hp.sl 2 rfl).cell
     simp +contextual (disch:=omega) only[go_sem,kk,e7,ei,cw']
     intro τ5 H5
     refine hJ _ _ _ _ (H5.re [2,3,4,5,6,7,8,9,10] (by decide)) ⟨w',by simp +contextual (disch:=omega) only[go_sem,kk,e2],by simp +contextual (disch:=omega) only[go_sem,kk,e3],by simp +contextual (disch:=omega) only[go_sem,kk,e4],by simp +contextual (disch:=omega) only[go_sem,kk,e6],by simp +contextual (disch:=omega) only[go_sem,kk,e7],by simp +contextual (disch:=omega) only[go_sem,kk,e54],by simp +contextual (disch:=omega) only[go_sem,kk,e55],by rw[flt_t hi kE];rfl⟩
  ·clear H2 H3 H4 H5 H7 H9 H11 H12 H13 H14
   rintro Y hY env h τ ei k0 H ⟨w,e2,e3,e4,e6,e7,e54,e55,rfl⟩
   simp +contextual (disch:=omega) only[go_sem,k0,e55,ei]
   exact hY _ _ _ H ⟨w,e2,e3,e4,e6,e7,by rw[List.take_length]⟩
  clear H2 H3 H4 H5 H7 H9 H11 H12 H13 H14
  rintro env h τ H ⟨w,e2,e3,e4,e6,e7,rfl⟩
  simp +contextual (disch:=omega) only[go_sem,e3,p3.len]
  refine sx_for d.lives.length 100 3 (fun i env h=>∃ w,env 2= .ptr n2 0∧env 3= .ptr n3 0∧env 4= .ptr n4 0∧env 6= .ptr n6 0∧env 7= .ptr n7 0∧env 98=w3∧env 99=gi d.lives.length∧h=[.th (ow pLive.kd w (s.lives.filter (keepD d)++(d.lives.take i).filter (newD s))),.box 1 n7 [kv,tv,w,.nilS],.th (ow pTally.kd tv (mergeT (fromD s d) s.tallies d.tallies)),.th (ow pI.kd kv (kMax s.know d.know)),.box 1 n6 es,.th (own kState es s),.box 1 n4 z4',.box 1 n3 [w0,w1,w2,w3,w4,w5],.box 1 n2 [a,b,c,v]]) (fun env h=>∃ w,env 2= .ptr n2 0∧env 3= .ptr n3 0∧env 4= .ptr n4 0∧env 6= .ptr n6 0∧env 7= .ptr n7 0∧h=[.th (ow pLive.kd w (s.lives.filter (keepD d)++d.lives.filter (newD s))),.box 1 n7 [kv,tv,w,.nilS],.th (ow pTally.kd tv (mergeT (fromD s d) s.tallies d.tallies)),.th (ow pI.kd kv (kMax s.know d.know)),.box 1 n6 es,.th (own kState es s),.box 1 n4 z4',.box 1 n3 [w0,w1,w2,w3,w4,w5],.box 1 n2 [a,b,c,v]]) (fun env h=>False) _ H (by simp +contextual (disch:=omega) only[go_sem]) ⟨w,by simp +contextual (disch:=omega) only[go_sem,e2],by simp +contextual (disch:=omega) only[go_sem,e3],by simp +contextual (disch:=omega) only[go_sem,e4],by simp +contextual (disch:=omega) only[go_sem,e6],by simp +contextual (disch:=omega) only[go_sem,e7],by simp +contextual (disch:=omega) only[go_sem],by simp +contextual (disch:=omega) only[go_sem],by simp⟩ ?_ ?_ ?_ (fun _ _ _ _ h=>h.elim)
  ·clear H e2 e3 e4 e6 e7
   rintro J Y W hJ hY hW i env h τ hi ei k0 H ⟨w,e2,e3,e4,e6,e7,e98,e99,rfl⟩
   have L1:=Live_at p3 hi
   have cw:=(H.hp.sl 0 rfl).cell
   simp +contextual (disch:=omega) only[go_sem,k0,e2,e3,e4,e6,e7,e98,e99,ei,natOf_nat,L1]
   intro n9 f9 τ1 _ τ2 H2
   refine by_b H2 (i_Knows_ret _ a _ _ (qa.pre H2.sub) (by omega)) (fun k1=> ?_) (fun k1=> ?_)
   ·simp +contextual (disch:=omega) only[go_sem,ei]
    exact hJ _ _ _ _ (H2.re [1,2,3,4,5,6,7,8,9] (by decide)) ⟨w,by simp +contextual (disch:=omega) only[go_sem,e2],by simp +contextual (disch:=omega) only[go_sem,e3],by simp +contextual (disch:=omega) only[go_sem,e4],by simp +contextual (disch:=omega) only[go_sem,e6],by simp +contextual (disch:=omega) only[go_sem,e7],by simp +contextual (disch:=omega) only[go_sem,e98],by simp +contextual (disch:=omega) only[go_sem,e99],by rw[flt_f hi (by simp[newD,k1])];rfl⟩
   ·simp +contextual (disch:=omega) only[go_sem,e7,ei]
    intro nl fl τ3 H3
    refine by_app1 (p:=pLive) H3 2 rfl d.lives[i] look_eq (by decide) (by have:=app_le (p:=keepD d) (q:=newD s) (a:=s.lives) (b:=d.lives) (i:=i) (n:=1073741824) (by omega) (by omega);omega) fun w' τ4 H4=> ?_
    have cw':=(H4.hp.sl 2 rfl).cell
    simp +contextual (disch:=omega) only[go_sem,e7,ei,cw']
    intro τ5 H5
    refine hJ _ _ _ _ (H5.re [2,3,4,5,6,7,8,9,10] (by decide)) ⟨w',by simp +contextual (disch:=omega) only[go_sem,e2],by simp +contextual (disch:=omega) only[go_sem,e3],by simp +contextual (disch:=omega) only[go_sem,e4],by simp +contextual (disch:=omega) only[go_sem,e6],by simp +contextual (disch:=omega) only[go_sem,e7],by simp +contextual (disch:=omega) only[go_sem,e98],by simp +contextual (disch:=omega) only[go_sem,e99],by rw[flt_t hi (by simp[newD,k1]),←List.append_assoc];rfl⟩
  ·clear H e2 e3 e4 e6 e7
   rintro Y hY env h τ ei k0 H ⟨w,e2,e3,e4,e6,e7,e98,e99,rfl⟩
   simp +contextual (disch:=omega) only[go_sem,k0,e99,ei]
   exact hY _ _ _ H ⟨w,e2,e3,e4,e6,e7,by rw[List.take_length]⟩
  clear H e2 e3 e4 e6 e7
  rintro env h τ H ⟨w,e2,e3,e4,e6,e7,rfl⟩
  have hll:=app_le (p:=keepD d) (q:=newD s) (a:=s.lives) (b:=d.lives) (i:=d.lives.length) (n:=1073741824) (by omega) (by omega)
  rw[List.take_length] at hll
  have ck:=(H.hp.sl 3 rfl).cell
  have ct:=(H.hp.sl 2 rfl).cell
  have cw:=(H.hp.sl 0 rfl).cell
  simp +contextual (disch:=omega) only[go_sem,e7]
  obtain⟨τ1,R1,H1⟩:=i_sortLives_ret H.hp 0 rfl (by omega) (live_htri (apart_dots (p:=keepD d) l5 l6 l7))
  refine by_mset 0 R1 H1 fun H1=> ?_
  simp +contextual (disch:=omega) only[go_sem,e2,e3,e7]
  obtain⟨cv,τ2,R2,K2⟩:=i_mergedCells_ret τ1 v w5 s.cells d.cells (qv.pre H1.sub) (p5.pre H1.sub) (by omega) (by omega) c1 (cell_dots c2)
  refine by_c H1 R2 K2 fun H2=> ?_
  have cc:=(H2.hp.sl 0 rfl).cell
  simp +contextual (disch:=omega) only[go_sem,e2,e3,e4,e6,e7,cc]
  intro τ3 H3
  have hst:kState.R τ3 (dltTo s d) [kv,tv,w,cv]:=⟨_,_,_,_,rfl,H3.hp.sl 4 rfl,H3.hp.sl 3 rfl,H3.hp.sl 1 rfl,H3.hp.sl 0 rfl⟩
  have hms:=ms_dlt s d
  refine by_b H3 (i_tooMany_ret _ _ _ hst) (fun k3=> ?_) (fun k3=> ?_)
  ·have hd:doDelta s d=(s,4):=by simp[doDelta,hok,hdk,k1,k2,k3]
   simp +contextual (disch:=omega) only[go_sem,e4,e6,sf,gl,sg]
   intro τ8 H8
   exact⟨_,rfl,es,by rw[hd],by rw[hd];exact H8.sel [6] (by decide)⟩
  simp +contextual (disch:=omega) only[go_sem,e7]
  refine by_b H3 (i_StateOk_ret _ _ _ hst (by omega)) (fun k4=> ?_) (fun k4=> ?_)
  rotate_left
  ·have hd:doDelta s d=(s,3):=by simp[doDelta,hok,hdk,k1,k2,k3,k4]
   simp +contextual (disch:=omega) only[go_sem,e4,e6,sf,gl,sg]
   intro τ8 H8
   exact⟨_,rfl,es,by rw[hd],by rw[hd];exact H8.sel [6] (by decide)⟩
  have hd:doDelta s d=(dltTo s d,0):=by simp[doDelta,hok,hdk,k1,k2,k3,k4]
  simp +contextual (disch:=omega) only[go_sem,e4,e7]
  intro τ8 H8
  exact⟨_,rfl,[kv,tv,w,cv],by rw[hd],by rw[hd];exact Hp.ownState (H8.sel [4,3,1,0] (by decide))⟩
 obtain⟨q,τ,R,r,rfl,h⟩:=key
 exact⟨r,τ,R,h⟩
end Go.Proofs.YtffnefmklckngaaGreat.Sy
namespace Go.Proofs.YtffnefmklckngaaGreat.Sy
open Go Go.RowKit
set_option linter.unusedSimpArgs false
set_option linter.unusedVariables false
set_option maxRecDepth 4000
abbrev n_s_l10Cells:Nat:=235
def F_s_l10Cells:Fn1:=⟨54,[.t 4],(.seq (.reg [o 4 (.mov (.k .nilS))]) (.seq (.reg [o 9 (.lit 8 0 [] []),o 10 (.mov (.t 0)),o 11 (.app 8 72 [(.str ⟨#[]⟩),(.int .i64 0),(.int .i64 0),(.int .i64 0),(.int .i64 0),(.int .i64 0),(.int .i64 0),(.bool false)] (.t 9) (.t 10)),o 5 (.mov (.t 11))]) (.seq (.seq (.reg [o 6 (.mov (.k (.int .i64 0)))]) (.blk 0 (.lop (.seq (.seq (.reg [o 12 (.mov (.t 6)),o 13 (.mov (.t 1)),o 14 (.len false (.t 13)),o 15 (.bin .lss (.t 12) (.t 14))]) (.cnd (.t 15) .skip (.ext 0))) (.seq (.blk 1 (.seq (.reg [o 7 (.mov (.k (.int .i64 (-1))))]) (.seq (.seq (.reg [o 8 (.mov (.k (.int .i64 0)))]) (.blk 2 (.lop (.seq (.seq (.reg [o 18 (.mov (.t 8)),o 19 (.mov (.t 5)),o 20 (.len false (.t 19)),o 21 (.bin .lss (.t 18) (.t 20))]) (.cnd (.t 21) .skip (.ext 2))) (.seq (.blk 3 (.seq (.drw [o 24 (.mov (.t 5)),o 25 (.mov (.t 8)),o 26 (.iad 8 (.t 24) (.t 25)),o 27 (.fad 1 (.t 26)),o 28 (.ld true 2 (.t 27)),o 29 (.mov (.t 1)),o 30 (.mov (.t 6)),o 31 (.iad 8 (.t 29) (.t 30)),o 32 (.fad 1 (.t 31)),o 33 (.ld true 2 (.t 32))] [o 34 (.eqs false [.i .i64,.i .i64] (.t 28) (.t 33))]) (.cnd (.t 34) (.reg [o 35 (.mov (.t 8)),o 7 (.mov (.t 35))]) .skip))) (.reg [o 22 (.mov (.t 8)),o 23 (.bin .add (.t 22) (.k (.int .i64 1))),o 8 (.mov (.t 23))])))))) (.seq (.reg [o 36 (.mov (.t 7)),o 37 (.bin .lss (.t 36) (.k (.int .i64 0)))]) (.cnd (.t 37) (.reg [o 38 (.mov (.t 5)),o 39 (.mov (.t 1)),o 40 (.mov (.t 6)),o 41 (.iad 8 (.t 39) (.t 40)),o 42 (.ld true 8 (.t 41)),o 43 (.call 197 [(.t 38),(.t 42)]),o 5 (.mov (.t 43))]) (.seq (.reg [o 44 (.mov (.t 1)),o 45 (.mov (.t 6)),o 46 (.iad 8 (.t 44) (.t 45)),o 47 (.fad 7 (.t 46)),o 48 (.ld false 1 (.t 47))]) (.cnd (.t 48) (.reg [o 49 (.mov (.t 5)),o 50 (.mov (.t 7)),o 51 (.iad 8 (.t 49) (.t 50)),o 52 (.fad 7 (.t 51)),on (.st 1 (.t 52) (.k (.bool true)))]) .skip))))))) (.reg [o 16 (.mov (.t 6)),o 17 (.bin .add (.t 16) (.k (.int .i64 1))),o 6 (.mov (.t 17))])))))) (.seq (.reg [o 53 (.mov (.t 5)),o 4 (.mov (.t 53))]) .ret))))⟩
theorem ir_s_l10Cells:compFn Tryz.prog n_s_l10Cells=some F_s_l10Cells:=by kernel_rfl
theorem cellIx_snoc (l:List Cell) (x:Cell) (d:Dot):cellIx (l++[x]) d=(cellIx l d).or (if x.dot=d then some l.length else none):=by
 unfold cellIx
 rw[List.findIdx?_append]
 congr 1
 by_cases h:x.dot=d<;>simp[h,List.findIdx?_cons]
theorem cellNo_yes {l:List Cell} (hn:(l.map (·.dot)).Nodup) {k:Nat} (hk:k<l.length) {d:Dot} (h:l[k].dot=d):cellNo (l.take (k+1)) d=k:=by
 have hno:d∉(l.take k).map (·.dot):=fun hm=>by
  obtain⟨c,hc,e⟩:=List.mem_map.1 hm
  obtain⟨j,hj,rfl⟩:=List.getElem_of_mem hc
  have hj1:j<k∧j<l.length:=by rw[List.length_take] at hj;omega
  rw[List.getElem_take] at e
  have:=nd_ix hn hj1.2 hk (by rw[e,h])
  omega
 unfold cellNo
 rw[take_snoc hk,cellIx_snoc,cellIx_no hno,if_pos h]
 simp;omega
theorem cellNo_skip {l:List Cell} {k:Nat} (hk:k<l.length) {d:Dot} (h:l[k].dot≠d):cellNo (l.take (k+1)) d=cellNo (l.take k) d:=by
 unfold cellNo
 rw[take_snoc hk,cellIx_snoc,if_neg h]
 simp
set_option maxHeartbeats 2000000 in
theorem s_l10Cells_ret (σ:St) (va vb:GV) (a b:List Cell) (ha:RS pCell.kd σ va a) (hb:RS pCell.kd σ vb b) (hla:a.length≤1073741824) (hlb:b.length≤1073741824) (hpa:a.Pairwise fun a b=>dotLt a.dot b.dot=true) (hnb:(b.map (·.dot)).Nodup):∃ r τ,Ret Tryz.prog n_s_l10Cells [va,vb] σ r τ∧Hp σ τ [ow pCell.kd r (mergeC a b)]:=by
 have hna:=cell_dots hpa
 refine ret_x ir_s_l10Cells (Nat.le_of_ble_eq_true rfl) (Hx.refl σ) ?_
 simp +contextual (disch:=omega) only[go_sem,F_s_l10Cells]
 intro n fn τ H
 refine by_cp (p:=pCell) H (ha.pre H.sub) (by decide) (by omega) fun w τ1 H1=> ?_
 simp +contextual (disch:=omega) only[go_sem]
 refine sx_for b.length 6 0 (fun i env h=>∃ w,env 1=vb∧env 5=w∧h=[.th (ow pCell.kd w (mergeC a (b.take i)))]) (fun env h=>∃ w,env 5=w∧h=[.th (ow pCell.kd w (mergeC a b))]) (fun env h=>False) _ H1 (by simp +contextual (disch:=omega) only[go_sem]) ⟨w,by simp +contextual (disch:=omega) only[go_sem],by simp +contextual (disch:=omega) only[go_sem],by rw[← foldl_stepC hpa hnb 0 (by omega)];rfl⟩ ?_ ?_ ?_ (fun _ _ _ _ h=>h.elim)
 ·clear H H1
  rintro J Y W hJ hY hW i env h τ hi ei c0 H ⟨w,e1,e5,rfl⟩
  have hst:stepC (mergeC a (b.take i)) b[i]=mergeC a (b.take (i+1)):=by
   rw[take_snoc hi]
   refine merge_snoc hna ?_
   rw[← take_snoc hi]
   exact((List.take_sublist _ b).map (·.dot)).nodup hnb
  have hjn:((mergeC a (b.take i)).map (·.dot)).Nodup:=((insAll_perm cellLt (joinC a (b.take i))).map _).nodup_iff.2 (joinC_nodup hna (((List.take_sublist i b).map (·.dot)).nodup hnb))
  have hml:=(mergeC_ms a (b.take i)).1
  have hbl:(b.take i).length≤b.length:=by rw[List.length_take];omega
  generalize mergeC a (b.take i)=O at*
  have B1:=Cell_at hb hi
  simp +contextual (disch:=omega) only[go_sem,c0,e1,e5,ei,hb.len]
  refine sx_for O.length 8 2 (fun k env h=>env 1=vb∧env 5=w∧env 6=gi i∧env 7=gi (cellNo (O.take k) b[i].dot)∧h=[.th (ow pCell.kd w O)]) (fun env h=>env 1=vb∧env 5=w∧env 6=gi i∧env 7=gi (cellNo O b[i].dot)∧h=[.th (ow pCell.kd w O)]) (fun env h=>False) _ H (by simp +contextual (disch:=omega) only[go_sem]) ⟨by simp +contextual (disch:=omega) only[go_sem,e1],by simp +contextual (disch:=omega) only[go_sem,e5],by simp +contextual (disch:=omega) only[go_sem,ei],by simp +contextual (disch:=omega) only[go_sem];rfl,rfl⟩ ?_ ?_ ?_ (fun _ _ _ _ h=>h.elim)
  ·clear H e1 e5 ei
   rintro J2 Y2 W2 hJ2 hY2 hW2 k env h τ hk ek c1 H ⟨e1,e5,e6,e7,rfl⟩
   have O1:=Cell_own H 0 rfl hk
   have ol:=(H.hp.sl 0 rfl).len
   by_cases hx:O[k].dot=b[i].dot
   ·have bx:decide (O[k].dot=b[i].dot)=true:=decide_eq_true hx
    simp +contextual (disch:=omega) only[go_sem,c1,e1,e5,e6,e7,ek,natOf_nat,B1,O1,ol,bx]
    exact hJ2 _ _ _ _ H ⟨by simp +contextual (disch:=omega) only[go_sem,e1],by simp +contextual (disch:=omega) only[go_sem,e5],by simp +contextual (disch:=omega) only[go_sem,e6],by simp +contextual (disch:=omega) only[go_sem,cellNo_yes hjn hk hx],rfl⟩
   ·have bx:decide (O[k].dot=b[i].dot)=false:=decide_eq_false hx
    simp +contextual (disch:=omega) only[go_sem,c1,e1,e5,e6,e7,ek,natOf_nat,B1,O1,ol,bx]
    exact hJ2 _ _ _ _ H ⟨by simp +contextual (disch:=omega) only[go_sem,e1],by simp +contextual (disch:=omega) only[go_sem,e5],by simp +contextual (disch:=omega) only[go_sem,e6],by simp +contextual (disch:=omega) only[go_sem,cellNo_skip hk hx,e7],rfl⟩
  ·clear H e1 e5 ei
   rintro Y2 hY2 env h τ ek c1 H ⟨e1,e5,e6,e7,rfl⟩
   have ol:=(H.hp.sl 0 rfl).len
   simp +contextual (disch:=omega) only[go_sem,c1,e5,ek,ol]
   exact hY2 _ _ _ H ⟨by simp +contextual (disch:=omega) only[go_sem,e1],by simp +contextual (disch:=omega) only[go_sem,e5],by simp +contextual (disch:=omega) only[go_sem,e6],by rw[List.take_length] at e7;simp +contextual (disch:=omega) only[go_sem,e7],rfl⟩
  clear H e1 e5 ei
  rintro env h τ H ⟨e1,e5,e6,e7,rfl⟩
  cases hx:cellIx O b[i].dot with
  |none=>
   have hno:cellNo O b[i].dot= -1:=by simp[cellNo,hx]
   have cm:decide ((-1:Int)<0)=true:=rfl
   rw[hno] at e7
   simp +contextual (disch:=omega) only[go_sem,e7,cm,e1,e5,e6,natOf_nat,B1]
   obtain⟨w',τ2,R2,K2⟩:=s_l07Cell_ret τ w O (H.hp.sl 0 rfl) b[i] (by omega)
   refine by_c H R2 K2 fun H2=> ?_
   simp +contextual (disch:=omega) only[go_sem,e6]
   refine hJ _ _ _ _ (H2.re [0] (by decide)) ⟨w',by simp +contextual (disch:=omega) only[go_sem,e1],by simp +contextual (disch:=omega) only[go_sem],?_⟩
   rw[← hst]
   simp only[stepC,hx];rfl
  |some k=>
   obtain⟨hk,hd⟩:=cellIx_some hx
   have hno:cellNo O b[i].dot=k:=by simp[cellNo,hx]
   have cm:decide ((k:Int)<0)=false:=by simp
   rw[hno] at e7
   have O1:=Cell_own H 0 rfl hk
   cases hg:b[i].gone with
   |false=>
    simp +contextual (disch:=omega) only[go_sem,e7,cm,e1,e5,e6,natOf_nat,B1,hg]
    refine hJ _ _ _ _ H ⟨w,by simp +contextual (disch:=omega) only[go_sem,e1],by simp +contextual (disch:=omega) only[go_sem,e5],?_⟩
    rw[← hst]
    simp only[stepC,hx,hg,Bool.false_eq_true,if_false]
   |true=>
    simp +contextual (disch:=omega) only[go_sem,e7,cm,e1,e5,e6,natOf_nat,B1,hg,O1]
    refine by_ste (p:=pCell) H 0 rfl hk {O[k] with gone:=true} rfl (by decide) (by decide) rfl fun τ3 H3=> ?_
    simp +contextual (disch:=omega) only[go_sem,e6]
    refine hJ _ _ _ _ H3 ⟨w,by simp +contextual (disch:=omega) only[go_sem,e1],by simp +contextual (disch:=omega) only[go_sem,e5],?_⟩
    rw[← hst]
    simp only[stepC,hx,hg,if_true]
    rw[modify_set _ hk];rfl
 ·clear H H1
  rintro Y hY env h τ ei c0 H ⟨w,e1,e5,rfl⟩
  simp +contextual (disch:=omega) only[go_sem,c0,e1,ei,hb.len]
  exact hY _ _ _ H ⟨w,e5,by rw[List.take_length]⟩
 ·clear H H1
  rintro env h τ H ⟨w,e5,rfl⟩
  simp +contextual (disch:=omega) only[go_sem,e5]
  exact fun _=>⟨_,rfl,H.hp⟩
end Go.Proofs.YtffnefmklckngaaGreat.Sy
namespace Go.Proofs.YtffnefmklckngaaGreat.Sy
open Go Go.RowKit
set_option linter.unusedSimpArgs false
set_option linter.unusedVariables false
set_option maxRecDepth 4000
abbrev n_s_l11Done:Nat:=202
def F_s_l11Done:Fn1:=⟨164,[.c 4 true 4],(.seq (.reg [o 2 (.box (.t 0)),o 3 (.box (.t 1)),o 4 (.new [.nilS,.nilS,.nilS,.nilS])]) (.seq (.drw [o 14 (.fad 0 (.t 2)),o 15 (.ld false 1 (.t 14)),o 16 (.fad 1 (.t 3)),o 17 (.ld false 1 (.t 16)),o 18 (.call 234 [(.t 15),(.t 17)]),o 19 (.fad 3 (.t 2)),o 20 (.ld false 1 (.t 19)),o 21 (.fad 5 (.t 3)),o 22 (.ld false 1 (.t 21)),o 23 (.call 235 [(.t 20),(.t 22)]),o 24 (.build [.nilS,.nilS,.nilS,.nilS] [(0,1,(.t 18)),(3,1,(.t 23))]),o 5 (.new [.nilS,.nilS,.nilS,.nilS])] [on (.st 4 (.t 5) (.t 24))]) (.seq (.seq (.reg [o 6 (.mov (.k (.int .i64 0)))]) (.blk 0 (.lop (.seq (.seq (.reg [o 25 (.mov (.t 6)),o 26 (.fad 1 (.t 2)),o 27 (.ld false 1 (.t 26)),o 28 (.len false (.t 27)),o 29 (.bin .lss (.t 25) (.t 28))]) (.cnd (.t 29) .skip (.ext 0))) (.seq (.blk 1 (.seq (.reg [o 32 (.fad 1 (.t 2)),o 33 (.ld false 1 (.t 32)),o 34 (.mov (.t 6)),o 35 (.iad 3 (.t 33) (.t 34)),o 36 (.ld true 3 (.t 35)),o 7 (.new [(.str ⟨#[]⟩),(.int .i64 0),(.int .i64 0)]),on (.st 3 (.t 7) (.t 36))]) (.seq (.drw [o 37 (.fad 1 (.t 3)),o 38 (.ld false 1 (.t 37)),o 39 (.fad 1 (.t 7)),o 40 (.ld false 1 (.t 39)),o 41 (.iad 1 (.t 38) (.t 40)),o 42 (.ld false 1 (.t 41)),o 43 (.fad 0 (.t 2)),o 44 (.ld false 1 (.t 43)),o 45 (.fad 1 (.t 7)),o 46 (.ld false 1 (.t 45)),o 47 (.iad 1 (.t 44) (.t 46)),o 48 (.ld false 1 (.t 47))] [o 49 (.bin .leq (.t 42) (.t 48))]) (.cnd (.t 49) (.reg [o 50 (.fad 0 (.t 7)),o 51 (.ld false 1 (.t 50)),o 52 (.fad 1 (.t 7)),o 53 (.ld false 1 (.t 52)),o 54 (.fad 2 (.t 7)),o 55 (.ld false 1 (.t 54)),o 56 (.call 194 [(.t 5),(.t 51),(.t 53),(.t 55)])]) .skip)))) (.reg [o 30 (.mov (.t 6)),o 31 (.bin .add (.t 30) (.k (.int .i64 1))),o 6 (.mov (.t 31))])))))) (.seq (.seq (.reg [o 8 (.mov (.k (.int .i64 0)))]) (.blk 2 (.lop (.seq (.seq (.reg [o 57 (.mov (.t 8)),o 58 (.fad 2 (.t 3)),o 59 (.ld false 1 (.t 58)),o 60 (.len false (.t 59)),o 61 (.bin .lss (.t 57) (.t 60))]) (.cnd (.t 61) .skip (.ext 2))) (.seq (.blk 3 (.seq (.reg [o 64 (.fad 2 (.t 3)),o 65 (.ld false 1 (.t 64)),o 66 (.mov (.t 8)),o 67 (.iad 3 (.t 65) (.t 66)),o 68 (.ld true 3 (.t 67)),o 9 (.new [(.str ⟨#[]⟩),(.int .i64 0),(.int .i64 0)]),on (.st 3 (.t 9) (.t 68))]) (.seq (.drw [o 69 (.fad 1 (.t 3)),o 70 (.ld false 1 (.t 69)),o 71 (.fad 1 (.t 9)),o 72 (.ld false 1 (.t 71)),o 73 (.iad 1 (.t 70) (.t 72)),o 74 (.ld false 1 (.t 73)),o 75 (.fad 0 (.t 2)),o 76 (.ld false 1 (.t 75)),o 77 (.fad 1 (.t 9)),o 78 (.ld false 1 (.t 77)),o 79 (.iad 1 (.t 76) (.t 78)),o 80 (.ld false 1 (.t 79))] [o 81 (.bin .gtr (.t 74) (.t 80))]) (.cnd (.t 81) (.reg [o 82 (.fad 0 (.t 9)),o 83 (.ld false 1 (.t 82)),o 84 (.fad 1 (.t 9)),o 85 (.ld false 1 (.t 84)),o 86 (.fad 2 (.t 9)),o 87 (.ld false 1 (.t 86)),o 88 (.call 194 [(.t 5),(.t 83),(.t 85),(.t 87)])]) .skip)))) (.reg [o 62 (.mov (.t 8)),o 63 (.bin .add (.t 62) (.k (.int .i64 1))),o 8 (.mov (.t 63))])))))) (.seq (.seq (.reg [o 10 (.mov (.k (.int .i64 0)))]) (.blk 4 (.lop (.seq (.seq (.reg [o 89 (.mov (.t 10)),o 90 (.fad 2 (.t 2)),o 91 (.ld false 1 (.t 90)),o 92 (.len false (.t 91)),o 93 (.bin .lss (.t 89) (.t 92))]) (.cnd (.t 93) .skip (.ext 4))) (.seq (.blk 5 (.seq (.reg [o 96 (.fad 2 (.t 2)),o 97 (.ld false 1 (.t 96)),o 98 (.mov (.t 10)),o 99 (.iad 6 (.t 97) (.t 98)),o 100 (.ld true 6 (.t 99)),o 11 (.new [(.bool false),(.str ⟨#[]⟩),(.str ⟨#[]⟩),(.int .i64 0),(.int .i64 0),(.int .i64 0)]),on (.st 6 (.t 11) (.t 100))]) (.seq (.reg [o 101 (.fad 1 (.t 3)),o 102 (.ld false 1 (.t 101)),o 103 (.fad 4 (.t 11)),o 104 (.ld true 2 (.t 103)),o 105 (.call 142 [(.t 102),(.t 104)]),o 106 (.mov (.t 105)),og 107 106 true (.fad 0 (.t 3)),og 108 106 true (.ld false 1 (.t 107)),og 109 106 true (.fad 4 (.t 11)),og 110 106 true (.ld true 2 (.t 109)),og 111 106 true (.call 142 [(.t 108),(.t 110)]),og 112 106 true (.un .not (.t 111)),o 113 (.pick (.t 106) (.t 112) (.k (.bool false))),o 114 (.mov (.t 113)),og 115 114 true (.fad 3 (.t 3)),og 116 114 true (.ld false 1 (.t 115)),og 117 114 true (.ld true 6 (.t 11)),og 118 114 true (.call 236 [(.t 116),(.t 117)]),og 119 114 true (.un .not (.t 118)),o 120 (.pick (.t 114) (.t 119) (.k (.bool false))),o 12 (.mov (.t 120))]) (.seq (.reg [o 121 (.mov (.t 12)),o 122 (.un .not (.t 121)),o 123 (.mov (.t 122)),og 124 123 true (.fad 4 (.t 3)),og 125 123 true (.ld false 1 (.t 124)),og 126 123 true (.fad 4 (.t 11)),og 127 123 true (.ld true 2 (.t 126)),og 128 123 true (.call 237 [(.t 125),(.t 127)]),og 129 123 true (.un .not (.t 128)),o 130 (.pick (.t 123) (.t 129) (.k (.bool false)))]) (.cnd (.t 130) (.reg [o 131 (.fad 2 (.t 5)),o 132 (.ld false 1 (.t 131)),o 133 (.ld true 6 (.t 11)),o 134 (.lit 6 1 [(.bool false),(.str ⟨#[]⟩),(.str ⟨#[]⟩),(.int .i64 0),(.int .i64 0),(.int .i64 0)] [(0,6,(.t 133))]),o 135 (.app 6 64 [(.bool false),(.str ⟨#[]⟩),(.str ⟨#[]⟩),(.int .i64 0),(.int .i64 0),(.int .i64 0)] (.t 132) (.t 134)),o 136 (.fad 2 (.t 5)),on (.st 1 (.t 136) (.t 135))]) .skip))))) (.reg [o 94 (.mov (.t 10)),o 95 (.bin .add (.t 94) (.k (.int .i64 1))),o 10 (.mov (.t 95))])))))) (.seq (.seq (.reg [o 13 (.mov (.k (.int .i64 0)))]) (.blk 6 (.lop (.seq (.seq (.reg [o 137 (.mov (.t 13)),o 138 (.fad 3 (.t 3)),o 139 (.ld false 1 (.t 138)),o 140 (.len false (.t 139)),o 141 (.bin .lss (.t 137) (.t 140))]) (.cnd (.t 141) .skip (.ext 6))) (.seq (.blk 7 (.seq (.drw [o 144 (.fad 0 (.t 2)),o 145 (.ld false 1 (.t 144)),o 146 (.fad 3 (.t 3)),o 147 (.ld false 1 (.t 146)),o 148 (.mov (.t 13)),o 149 (.iad 6 (.t 147) (.t 148)),o 150 (.fad 4 (.t 149)),o 151 (.ld true 2 (.t 150))] [o 152 (.call 142 [(.t 145),(.t 151)]),o 153 (.un .not (.t 152))]) (.cnd (.t 153) (.drw [o 154 (.fad 2 (.t 5)),o 155 (.ld false 1 (.t 154)),o 156 (.fad 3 (.t 3)),o 157 (.ld false 1 (.t 156)),o 158 (.mov (.t 13)),o 159 (.iad 6 (.t 157) (.t 158)),o 160 (.ld true 6 (.t 159))] [o 161 (.call 195 [(.t 155),(.t 160)]),o 162 (.fad 2 (.t 5)),on (.st 1 (.t 162) (.t 161))]) .skip))) (.reg [o 142 (.mov (.t 13)),o 143 (.bin .add (.t 142) (.k (.int .i64 1))),o 13 (.mov (.t 143))])))))) (.seq (.reg [o 163 (.ld true 4 (.t 5)),on (.st 4 (.t 4) (.t 163))]) .ret)))))))⟩
theorem ir_s_l11Done:compFn Tryz.prog n_s_l11Done=some F_s_l11Done:=by kernel_rfl
theorem putT_step {L M:List Tally} {t:Tally} (hn:(M.map tkey).Nodup) (hs:(L++[t]).Sublist M):talPut (insAll tallyLt L) t.obj t.rep t.sum=insAll tallyLt (L++[t]):=by
 have h1:((L++[t]).map tkey).Nodup:=(hs.map tkey).nodup hn
 rw[insAll_snoc]
 refine putT_new (acc:=insAll tallyLt L) fun hm=> ?_
 have hm:=((insAll_perm tallyLt L).map tkey).mem_iff.1 hm
 rw[List.map_append,List.nodup_append] at h1
 exact h1.2.2 _ hm (tkey t) (by simp) rfl
theorem flt_sub {α:Type} (p:α→Bool) (l:List α) (i:Nat):((l.take i).filter p).Sublist (l.filter p):=(List.take_sublist i l).filter p
theorem tals_sum {l:List Tally} (h:talsOk l=true) {t:Tally} (ht:t∈l): -1000000≤t.sum∧t.sum≤1000000:=by
 simp only[talsOk,Bool.and_eq_true,allR_iff,talP] at h
 obtain⟨i,hi,rfl⟩:=List.getElem_of_mem ht
 have:=(h.1 i hi).1
 rw[onI_at hi] at this
 simp only[tal1,Bool.and_eq_true] at this
 have:=inB_iff.1 this.2.2
 omega
theorem delta_sums {s:State} {d:Delta} (hs:stateOk s=true) (hd:deltaOk d=true):∀ t,t∈s.tallies∨t∈d.tallies→ -1000000≤t.sum∧t.sum≤1000000:=by
 simp only[stateOk,Bool.and_eq_true] at hs
 simp only[deltaOk,Bool.and_eq_true] at hd
 exact fun t ht=>ht.elim (tals_sum hs.2.1) (tals_sum hd.2.1)
theorem prefT_ms (p q:Tally→Bool) (a b:List Tally) (i j:Nat):(insAll tallyLt ((a.take i).filter p++(b.take j).filter q)).length≤a.length+b.length∧sumL msTally (insAll tallyLt ((a.take i).filter p++(b.take j).filter q))≤sumL msTally a+sumL msTally b:=by
 rw[insAll_length,sumL_perm msTally (insAll_perm _ _),List.length_append,sumL_append]
 have h1:=List.length_filter_le p (a.take i)
 have h2:=List.length_filter_le q (b.take j)
 have h3:=sumL_flt msTally p (a.take i)
 have h4:=sumL_flt msTally q (b.take j)
 have h5:=sumL_take_le msTally a i
 have h6:=sumL_take_le msTally b j
 rw[List.length_take] at h1 h2
 omega
theorem ms_pre {s:State} {d:Delta} {T:List Tally} (hT:T.length≤s.tallies.length+d.tallies.length∧sumL msTally T≤sumL msTally s.tallies+sumL msTally d.tallies):msState ⟨kMax s.know d.know,T,[],mergeC s.cells d.cells⟩≤msState s+msDelta d+3:=by
 have h2:=mergeC_ms s.cells d.cells
 have h4:=kMax_len s.know d.know
 simp only[msState,msDelta,List.length_nil,sumL,List.map_nil,List.sum_nil]
 simp only[sumL] at*
 omega
theorem st_lens {s:State} {n:Nat} (h:msState s≤n):s.know.length≤n∧s.tallies.length≤n∧s.lives.length≤n∧s.cells.length≤n:=by
 unfold msState at h
 omega
theorem leq_gt {s:State} {d:Delta} {r:Int}:decide (at0 d.know r≤at0 s.know r)= !fromD s d r:=by
 unfold fromD
 rw[Bool.eq_iff_iff]
 simp
set_option maxHeartbeats 4000000 in
theorem s_l11Done_ret (σ:St) (cs:List GV) (s:State) (hR:kState.R σ s cs) (ds:List GV) (d:Delta) (hD:kDelta.R σ d ds) (hl:msState s≤1073741824) (hm:msDelta d≤1073741824) (hok:stateOk s=true) (hdk:deltaOk d=true):∃ r τ,Ret Tryz.prog n_s_l11Done [.agg cs,.agg ds] σ (.agg r) τ∧Hp σ τ [own kState r (dltTo s d)]:=by
 have hR0:=hR
 have hD0:=hD
 obtain⟨a,b,c,v,rfl,qa,qb,qc,qv⟩:=hR
 obtain⟨w0,w1,w2,w3,w4,w5,rfl,p0,p1,p2,p3,p4,p5⟩:=hD
 obtain⟨ls0,ls1,ls2,ls3⟩:=st_lens hl
 obtain⟨m0,m1,m2,m3,m4,m5,_⟩:=msDelta_all hm
 obtain⟨o1,o2,t1,t2,t3,c1,c2,l5,l6,l7⟩:=delta_facts hok hdk
 have sums:=delta_sums hok hdk
 have hmk:=mergeT_key (f:=fromD s d) t1 t2
 have key:∃ q τ,Ret Tryz.prog n_s_l11Done [.agg [a,b,c,v],.agg [w0,w1,w2,w3,w4,w5]] σ q τ∧∃ r,q= .agg r∧Hp σ τ [own kState r (dltTo s d)]:=by
  refine ret_x ir_s_l11Done (Nat.le_of_ble_eq_true rfl) (Hx.refl σ) ?_
  simp +contextual (disch:=omega) only[go_sem,F_s_l11Done]
  intro n2 f2 τ2 H2 n3 f3 τ3 H3 n4 f4 τ4 H4
  obtain⟨kv,τ5,R5,K5⟩:=s_KnowMax_ret τ4 a w1 _ _ (qa.pre H4.sub) (p1.pre H4.sub) (by omega) (by omega)
  refine by_c H4 R5 K5 fun H5=> ?_
  simp +contextual (disch:=omega) only[go_sem]
  obtain⟨cv,τ6,R6,K6⟩:=s_l10Cells_ret τ5 v w5 s.cells d.cells (qv.pre H5.sub) (p5.pre H5.sub) (by omega) (by omega) c1 (cell_dots c2)
  refine by_c H5 R6 K6 fun H6=> ?_
  have ck:=(H6.hp.sl 1 rfl).cell
  have cc:=(H6.hp.sl 0 rfl).cell
  simp +contextual (disch:=omega) only[go_sem,ck,cc]
  intro n5 f5 τ7 _ τ8 H8
  have H9:=(H8.nil pLive.kd).nil pTally.kd
  refine sx_for s.tallies.length 6 0 (fun i env h=>∃ v0 v1 v2 v3,env 2= .ptr n2 0∧env 3= .ptr n3 0∧env 4= .ptr n4 0∧env 5= .ptr n5 0∧h=[.box 1 n5 [v0,v1,v2,v3],.th (ow pI.kd v0 (kMax s.know d.know)),.th (ow pTally.kd v1 (insAll tallyLt ((s.tallies.take i).filter fun t=> !fromD s d t.rep))),.th (ow pLive.kd v2 []),.th (ow pCell.kd v3 (mergeC s.cells d.cells)),.box 1 n4 z4',.box 1 n3 [w0,w1,w2,w3,w4,w5],.box 1 n2 [a,b,c,v]]) (fun env h=>∃ v0 v1 v2 v3,env 2= .ptr n2 0∧env 3= .ptr n3 0∧env 4= .ptr n4 0∧env 5= .ptr n5 0∧h=[.box 1 n5 [v0,v1,v2,v3],.th (ow pI.kd v0 (kMax s.know d.know)),.th (ow pTally.kd v1 (insAll tallyLt (s.tallies.filter fun t=> !fromD s d t.rep))),.th (ow pLive.kd v2 []),.th (ow pCell.kd v3 (mergeC s.cells d.cells)),.box 1 n4 z4',.box 1 n3 [w0,w1,w2,w3,w4,w5],.box 1 n2 [a,b,c,v]]) (fun env h=>False) _ (H9.re [2,4,0,1,3,5,6,7] (by decide)) (by simp +contextual (disch:=omega) only[go_sem]) ⟨kv,.nilS,.nilS,cv,by simp +contextual (disch:=omega) only[go_sem],by simp +contextual (disch:=omega) only[go_sem],by simp +contextual (disch:=omega) only[go_sem],by simp +contextual (disch:=omega) only[go_sem],rfl⟩ ?_ ?_ ?_ (fun _ _ _ _ h=>h.elim)
  ·clear H2 H3 H4 H5 H6 H8 H9
   rintro J Y W hJ hY hW i env h τ hi ei k0 H ⟨v0,v1,v2,v3,e2,e3,e4,e5,rfl⟩
   have B1:=Tally_at qb hi
   have hin:=t3 s.tallies[i] (.inl (List.getElem_mem hi))
   have A1:=rep_at p1 o2 hin.1 hin.2
   have A2:=rep_at qa o1 hin.1 hin.2
   simp +contextual (disch:=omega) only[go_sem,k0,e2,e3,e4,e5,ei,natOf_nat,B1,qb.len]
   intro n7 f7 τ1 _ τ2 H2
   cases hf:fromD s d s.tallies[i].rep with
   |true=>
    simp +contextual (disch:=omega) only[go_sem,e2,e3,e5,ei,A1,A2,leq_gt,hf,Bool.not_true]
    exact hJ _ _ _ _ (H2.re [1,2,3,4,5,6,7,8] (by decide)) ⟨v0,v1,v2,v3,by simp +contextual (disch:=omega) only[go_sem,e2],by simp +contextual (disch:=omega) only[go_sem,e3],by simp +contextual (disch:=omega) only[go_sem,e4],by simp +contextual (disch:=omega) only[go_sem,e5],by rw[flt_f hi (by rw[hf];rfl)];rfl⟩
   |false=>
    simp +contextual (disch:=omega) only[go_sem,e2,e3,e5,ei,A1,A2,leq_gt,hf,Bool.not_false]
    have hpm:=prefT_ms (fun t=> !fromD s d t.rep) (fun t=>fromD s d t.rep) s.tallies d.tallies i 0
    rw[List.take_zero,List.filter_nil,List.append_nil] at hpm
    have hpm:=ms_pre hpm
    obtain⟨τ3,R3,v0',v1',v2',v3',H3⟩:=s_l07Tally_ret (s:=⟨kMax s.know d.know,(insAll tallyLt ((s.tallies.take i).filter fun t=> !fromD s d t.rep)),[],mergeC s.cells d.cells⟩) (rest:=[pt 1 n7 [.str s.tallies[i].obj,gi s.tallies[i].rep,gi s.tallies[i].sum],pt 1 n4 z4',pt 1 n3 [w0,w1,w2,w3,w4,w5],pt 1 n2 [a,b,c,v]]) ⟨v0,v1,v2,v3,H2.sel [2,3,4,5,1,0,6,7,8] (by decide)⟩ s.tallies[i].obj s.tallies[i].rep s.tallies[i].sum (Nat.le_trans hpm (by omega)) (sums _ (.inl (List.getElem_mem hi))) (fun t ht=>sums t (.inl (List.mem_of_mem_take (List.mem_filter.1 (insAll_mem.1 ht)).1)))
    have H3':Hx σ τ3 [.box 1 n5 [v0',v1',v2',v3'],.th (ow pI.kd v0' (kMax s.know d.know)),.th (ow pTally.kd v1' (talPut (insAll tallyLt ((s.tallies.take i).filter fun t=> !fromD s d t.rep)) s.tallies[i].obj s.tallies[i].rep s.tallies[i].sum)),.th (ow pLive.kd v2' []),.th (ow pCell.kd v3' (mergeC s.cells d.cells)),.box 1 n4 z4',.box 1 n3 [w0,w1,w2,w3,w4,w5],.box 1 n2 [a,b,c,v]]:=H3.sel [4,0,1,2,3,6,7,8] (by decide)
    refine by_m R3 H3' ?_
    simp +contextual (disch:=omega) only[go_sem,ei]
    refine hJ _ _ _ _ H3' ⟨v0',v1',v2',v3',by simp +contextual (disch:=omega) only[go_sem,e2],by simp +contextual (disch:=omega) only[go_sem,e3],by simp +contextual (disch:=omega) only[go_sem,e4],by simp +contextual (disch:=omega) only[go_sem,e5],?_⟩
    have hfl:(s.tallies.take (i+1)).filter (fun t=> !fromD s d t.rep)=(s.tallies.take i).filter (fun t=> !fromD s d t.rep)++[s.tallies[i]]:=flt_t hi (by rw[hf];rfl)
    rw[hfl,←putT_step hmk (by rw[← hfl];exact(flt_sub _ _ _).trans (List.sublist_append_left _ _))]
  ·clear H2 H3 H4 H5 H6 H8 H9
   rintro Y hY env h τ ei k0 H ⟨v0,v1,v2,v3,e2,e3,e4,e5,rfl⟩
   simp +contextual (disch:=omega) only[go_sem,k0,e2,ei,qb.len]
   exact hY _ _ _ H ⟨v0,v1,v2,v3,e2,e3,e4,e5,by rw[List.take_length]⟩
  clear H2 H3 H4 H5 H6 H8 H9
  rintro env h τ H ⟨v0,v1,v2,v3,e2,e3,e4,e5,rfl⟩
  simp +contextual (disch:=omega) only[go_sem]
  refine sx_for d.tallies.length 8 2 (fun i env h=>∃ v0 v1 v2 v3,env 2= .ptr n2 0∧env 3= .ptr n3 0∧env 4= .ptr n4 0∧env 5= .ptr n5 0∧h=[.box 1 n5 [v0,v1,v2,v3],.th (ow pI.kd v0 (kMax s.know d.know)),.th (ow pTally.kd v1 (insAll tallyLt (s.tallies.filter (fun t=> !fromD s d t.rep)++(d.tallies.take i).filter fun t=>fromD s d t.rep))),.th (ow pLive.kd v2 []),.th (ow pCell.kd v3 (mergeC s.cells d.cells)),.box 1 n4 z4',.box 1 n3 [w0,w1,w2,w3,w4,w5],.box 1 n2 [a,b,c,v]]) (fun env h=>∃ v0 v1 v2 v3,env 2= .ptr n2 0∧env 3= .ptr n3 0∧env 4= .ptr n4 0∧env 5= .ptr n5 0∧h=[.box 1 n5 [v0,v1,v2,v3],.th (ow pI.kd v0 (kMax s.know d.know)),.th (ow pTally.kd v1 (mergeT (fromD s d) s.tallies d.tallies)),.th (ow pLive.kd v2 []),.th (ow pCell.kd v3 (mergeC s.cells d.cells)),.box 1 n4 z4',.box 1 n3 [w0,w1,w2,w3,w4,w5],.box 1 n2 [a,b,c,v]]) (fun env h=>False) _ H (by simp +contextual (disch:=omega) only[go_sem]) ⟨v0,v1,v2,v3,by simp +contextual (disch:=omega) only[go_sem,e2],by simp +contextual (disch:=omega) only[go_sem,e3],by simp +contextual (disch:=omega) only[go_sem,e4],by simp +contextual (disch:=omega) only[go_sem,e5],by simp⟩ ?_ ?_ ?_ (fun _ _ _ _ h=>h.elim)
  ·clear H e2 e3 e4 e5
   rintro J Y W hJ hY hW i env h τ hi ei k0 H ⟨v0,v1,v2,v3,e2,e3,e4,e5,rfl⟩
   have B1:=Tally_at p2 hi
   have hin:=t3 d.tallies[i] (.inr (List.getElem_mem hi))
   have A1:=rep_at p1 o2 hin.1 hin.2
   have A2:=rep_at qa o1 hin.1 hin.2
   have gt:decide (at0 s.know d.tallies[i].rep<at0 d.know d.tallies[i].rep)=fromD s d d.tallies[i].rep:=rfl
   simp +contextual (disch:=omega) only[go_sem,k0,e2,e3,e4,e5,ei,natOf_nat,B1,p2.len]
   intro n7 f7 τ1 _ τ2 H2
   cases hf:fromD s d d.tallies[i].rep with
   |false=>
    simp +contextual (disch:=omega) only[go_sem,e2,e3,e5,ei,A1,A2,gt,hf]
    exact hJ _ _ _ _ (H2.re [1,2,3,4,5,6,7,8] (by decide)) ⟨v0,v1,v2,v3,by simp +contextual (disch:=omega) only[go_sem,e2],by simp +contextual (disch:=omega) only[go_sem,e3],by simp +contextual (disch:=omega) only[go_sem,e4],by simp +contextual (disch:=omega) only[go_sem,e5],by rw[flt_f hi hf];rfl⟩
   |true=>
    simp +contextual (disch:=omega) only[go_sem,e2,e3,e5,ei,A1,A2,gt,hf]
    have hpm:=prefT_ms (fun t=> !fromD s d t.rep) (fun t=>fromD s d t.rep) s.tallies d.tallies s.tallies.length i
    rw[List.take_length] at hpm
    have hpm:=ms_pre hpm
    obtain⟨τ3,R3,v0',v1',v2',v3',H3⟩:=s_l07Tally_ret (s:=⟨kMax s.know d.know,(insAll tallyLt (s.tallies.filter (fun t=> !fromD s d t.rep)++(d.tallies.take i).filter fun t=>fromD s d t.rep)),[],mergeC s.cells d.cells⟩) (rest:=[pt 1 n7 [.str d.tallies[i].obj,gi d.tallies[i].rep,gi d.tallies[i].sum],pt 1 n4 z4',pt 1 n3 [w0,w1,w2,w3,w4,w5],pt 1 n2 [a,b,c,v]]) ⟨v0,v1,v2,v3,H2.sel [2,3,4,5,1,0,6,7,8] (by decide)⟩ d.tallies[i].obj d.tallies[i].rep d.tallies[i].sum (Nat.le_trans hpm (by omega)) (sums _ (.inr (List.getElem_mem hi))) (fun t ht=>(List.mem_append.1 (insAll_mem.1 ht)).elim (fun h=>sums t (.inl (List.mem_filter.1 h).1)) fun h=>sums t (.inr (List.mem_of_mem_take (List.mem_filter.1 h).1)))
    have H3':Hx σ τ3 [.box 1 n5 [v0',v1',v2',v3'],.th (ow pI.kd v0' (kMax s.know d.know)),.th (ow pTally.kd v1' (talPut (insAll tallyLt (s.tallies.filter (fun t=> !fromD s d t.rep)++(d.tallies.take i).filter fun t=>fromD s d t.rep)) d.tallies[i].obj d.tallies[i].rep d.tallies[i].sum)),.th (ow pLive.kd v2' []),.th (ow pCell.kd v3' (mergeC s.cells d.cells)),.box 1 n4 z4',.box 1 n3 [w0,w1,w2,w3,w4,w5],.box 1 n2 [a,b,c,v]]:=H3.sel [4,0,1,2,3,6,7,8] (by decide)
    refine by_m R3 H3' ?_
    simp +contextual (disch:=omega) only[go_sem,ei]
    refine hJ _ _ _ _ H3' ⟨v0',v1',v2',v3',by simp +contextual (disch:=omega) only[go_sem,e2],by simp +contextual (disch:=omega) only[go_sem,e3],by simp +contextual (disch:=omega) only[go_sem,e4],by simp +contextual (disch:=omega) only[go_sem,e5],?_⟩
    have hfl:(d.tallies.take (i+1)).filter (fun t=>fromD s d t.rep)=(d.tallies.take i).filter (fun t=>fromD s d t.rep)++[d.tallies[i]]:=flt_t hi hf
    rw[hfl,←List.append_assoc,←putT_step hmk (by rw[List.append_assoc,←hfl];exact List.Sublist.append (List.Sublist.refl _) (flt_sub _ _ _))]
  ·clear H e2 e3 e4 e5
   rintro Y hY env h τ ei k0 H ⟨v0,v1,v2,v3,e2,e3,e4,e5,rfl⟩
   simp +contextual (disch:=omega) only[go_sem,k0,e3,ei,p2.len]
   exact hY _ _ _ H ⟨v0,v1,v2,v3,e2,e3,e4,e5,by rw[List.take_length];rfl⟩
  clear H e2 e3 e4 e5 v0 v1 v2 v3
  rintro env h τ H ⟨v0,v1,v2,v3,e2,e3,e4,e5,rfl⟩
  simp +contextual (disch:=omega) only[go_sem]
  refine sx_for s.lives.length 10 4 (fun i env h=>∃ v0 v1 v2 v3,env 2= .ptr n2 0∧env 3= .ptr n3 0∧env 4= .ptr n4 0∧env 5= .ptr n5 0∧h=[.box 1 n5 [v0,v1,v2,v3],.th (ow pI.kd v0 (kMax s.know d.know)),.th (ow pTally.kd v1 (mergeT (fromD s d) s.tallies d.tallies)),.th (ow pLive.kd v2 ((s.lives.take i).filter (keepD d))),.th (ow pCell.kd v3 (mergeC s.cells d.cells)),.box 1 n4 z4',.box 1 n3 [w0,w1,w2,w3,w4,w5],.box 1 n2 [a,b,c,v]]) (fun env h=>∃ v0 v1 v2 v3,env 2= .ptr n2 0∧env 3= .ptr n3 0∧env 4= .ptr n4 0∧env 5= .ptr n5 0∧h=[.box 1 n5 [v0,v1,v2,v3],.th (ow pI.kd v0 (kMax s.know d.know)),.th (ow pTally.kd v1 (mergeT (fromD s d) s.tallies d.tallies)),.th (ow pLive.kd v2 (s.lives.filter (keepD d))),.th (ow pCell.kd v3 (mergeC s.cells d.cells)),.box 1 n4 z4',.box 1 n3 [w0,w1,w2,w3,w4,w5],.box 1 n2 [a,b,c,v]]) (fun env h=>False) _ H (by simp +contextual (disch:=omega) only[go_sem]) ⟨v0,v1,v2,v3,by simp +contextual (disch:=omega) only[go_sem,e2],by simp +contextual (disch:=omega) only[go_sem,e3],by simp +contextual (disch:=omega) only[go_sem,e4],by simp +contextual (disch:=omega) only[go_sem,e5],rfl⟩ ?_ ?_ ?_ (fun _ _ _ _ h=>h.elim)
  ·clear H e2 e3 e4 e5
   rintro J Y W hJ hY hW i env h τ hi ei k0 H ⟨v0,v1,v2,v3,e2,e3,e4,e5,rfl⟩
   have B1:=Live_at qc hi
   have d2:=(H.hp.sl 3 rfl).cell
   simp +contextual (disch:=omega) only[go_sem,k0,e2,e3,e4,e5,ei,natOf_nat,B1,qc.len]
   intro n9 f9 τ1 _ τ2 H2
   have kE:keepD d s.lives[i]=(!(knows d.know s.lives[i].dot&&(!knows d.base s.lives[i].dot&& !decide (s.lives[i]∈d.lives)))&& !decide (s.lives[i].dot∈d.dead)):=rfl
   refine call_cut H2 94 12 (.bool (knows d.know s.lives[i].dot&&(!knows d.base s.lives[i].dot&& !decide (s.lives[i]∈d.lives)))) (fun Y hY=> ?_) ?_
   ·refine by_b H2 (s_Knows_ret _ w1 _ _ (p1.pre H2.sub) (by omega)) (fun k1=> ?_) (fun k1=> ?_)
    rotate_left
    ·simp +contextual (disch:=omega) only[go_sem]
     exact hY _ (by repeat(first|exact fun _ _=>by with_reducible rfl|refine kp (by decide) ?_)) (by simp +contextual (disch:=omega) only[go_sem,k1])
    simp +contextual (disch:=omega) only[go_sem,e3]
    refine by_b H2 (s_Knows_ret _ w0 _ _ (p0.pre H2.sub) (by omega)) (fun k2=> ?_) (fun k2=> ?_)
    ·simp +contextual (disch:=omega) only[go_sem]
     exact hY _ (by repeat(first|exact fun _ _=>by with_reducible rfl|refine kp (by decide) ?_)) (by simp +contextual (disch:=omega) only[go_sem,k1,k2])
    simp +contextual (disch:=omega) only[go_sem,e3]
    refine by_r H2 (s_l10Has_ret _ w3 _ (p3.pre H2.sub) s.lives[i] (by omega)) ?_
    simp +contextual (disch:=omega) only[go_sem]
    exact hY _ (by repeat(first|exact fun _ _=>by with_reducible rfl|refine kp (by decide) ?_)) (by simp +contextual (disch:=omega) only[go_sem,k1,k2])
   intro env' ke e12
   have kk:∀ r,r<25∧r≠11∧r≠12→env' r=env r:=fun r h=>(ke r (by omega)).trans (by revert r h;repeat(first|exact fun _ _=>by with_reducible rfl|refine kp (by decide) ?_))
   have k9:env' 11= .ptr n9 0:=by simp +contextual (disch:=omega) only[go_sem,ke]
   have keep:keepD d s.lives[i]=false→∀ env'':Env,(∀ r,r<25∧r≠10∧r≠11∧r≠12→env'' r=env' r)→J (i+1) env'' τ2:=fun hk env'' k2=>hJ _ _ _ _ (H2.re [1,2,3,4,5,6,7,8] (by decide)) ⟨v0,v1,v2,v3,by simp +contextual (disch:=omega) only[go_sem,k2,kk,e2],by simp +contextual (disch:=omega) only[go_sem,k2,kk,e3],by simp +contextual (disch:=omega) only[go_sem,k2,kk,e4],by simp +contextual (disch:=omega) only[go_sem,k2,kk,e5],by rw[flt_f hi hk];rfl⟩
   cases hg:(knows d.know s.lives[i].dot&&(!knows d.base s.lives[i].dot&& !decide (s.lives[i]∈d.lives))) with
   |true=>
    rw[hg] at e12 kE
    simp +contextual (disch:=omega) only[go_sem,e12,kk,ei]
    exact keep kE _ (by repeat(first|exact fun _ _=>by with_reducible rfl|refine kp (by decide) ?_))
   |false=>
    rw[hg] at e12 kE
    simp +contextual (disch:=omega) only[go_sem,e12,kk,k9,e3,ei]
    refine by_b H2 (s_l11Dead_ret _ w4 _ (p4.pre H2.sub) s.lives[i].dot (by omega)) (fun k4=> ?_) (fun k4=> ?_)
    ·rw[k4] at kE
     simp +contextual (disch:=omega) only[go_sem,kk,ei]
     exact keep kE _ (by repeat(first|exact fun _ _=>by with_reducible rfl|refine kp (by decide) ?_))
    ·rw[k4] at kE
     simp +contextual (disch:=omega) only[go_sem,kk,k9,e5,ei]
     intro nl fl τ3 H3
     refine by_app1 (p:=pLive) H3 5 rfl s.lives[i] look_eq (by decide) (by have:=flt_le (p:=keepD d) (l:=s.lives) (i:=i) (n:=1073741824) (by omega);omega) fun w' τ4 H4=> ?_
     have cw':=(H4.hp.sl 5 rfl).cell
     simp +contextual (disch:=omega) only[go_sem,kk,e5,ei,cw']
     intro τ5 H5
     exact hJ _ _ _ _ (H5.re [2,3,4,5,6,7,8,9] (by decide)) ⟨v0,v1,w',v3,by simp +contextual (disch:=omega) only[go_sem,kk,e2],by simp +contextual (disch:=omega) only[go_sem,kk,e3],by simp +contextual (disch:=omega) only[go_sem,kk,e4],by simp +contextual (disch:=omega) only[go_sem,kk,e5],by rw[flt_t hi kE];rfl⟩
  ·clear H e2 e3 e4 e5
   rintro Y hY env h τ ei k0 H ⟨v0,v1,v2,v3,e2,e3,e4,e5,rfl⟩
   simp +contextual (disch:=omega) only[go_sem,k0,e2,ei,qc.len]
   exact hY _ _ _ H ⟨v0,v1,v2,v3,e2,e3,e4,e5,by rw[List.take_length]⟩
  clear H e2 e3 e4 e5 v0 v1 v2 v3
  rintro env h τ H ⟨v0,v1,v2,v3,e2,e3,e4,e5,rfl⟩
  simp +contextual (disch:=omega) only[go_sem]
  refine sx_for d.lives.length 13 6 (fun i env h=>∃ v0 v1 v2 v3,env 2= .ptr n2 0∧env 3= .ptr n3 0∧env 4= .ptr n4 0∧env 5= .ptr n5 0∧h=[.box 1 n5 [v0,v1,v2,v3],.th (ow pI.kd v0 (kMax s.know d.know)),.th (ow pTally.kd v1 (mergeT (fromD s d) s.tallies d.tallies)),.th (ow pLive.kd v2 (insAll liveLt (s.lives.filter (keepD d)++(d.lives.take i).filter (newD s)))),.th (ow pCell.kd v3 (mergeC s.cells d.cells)),.box 1 n4 z4',.box 1 n3 [w0,w1,w2,w3,w4,w5],.box 1 n2 [a,b,c,v]]) (fun env h=>∃ v0 v1 v2 v3,env 4= .ptr n4 0∧env 5= .ptr n5 0∧h=[.box 1 n5 [v0,v1,v2,v3],.th (ow pI.kd v0 (kMax s.know d.know)),.th (ow pTally.kd v1 (mergeT (fromD s d) s.tallies d.tallies)),.th (ow pLive.kd v2 (insAll liveLt (s.lives.filter (keepD d)++d.lives.filter (newD s)))),.th (ow pCell.kd v3 (mergeC s.cells d.cells)),.box 1 n4 z4',.box 1 n3 [w0,w1,w2,w3,w4,w5],.box 1 n2 [a,b,c,v]]) (fun env h=>False) _ H (by simp +contextual (disch:=omega) only[go_sem]) ⟨v0,v1,v2,v3,by simp +contextual (disch:=omega) only[go_sem,e2],by simp +contextual (disch:=omega) only[go_sem,e3],by simp +contextual (disch:=omega) only[go_sem,e4],by simp +contextual (disch:=omega) only[go_sem,e5],by rw[List.take_zero,List.filter_nil,List.append_nil,insAll_sorted swo_lv (l5.filter _)]⟩ ?_ ?_ ?_ (fun _ _ _ _ h=>h.elim)
  ·clear H e2 e3 e4 e5
   rintro J Y W hJ hY hW i env h τ hi ei k0 H ⟨v0,v1,v2,v3,e2,e3,e4,e5,rfl⟩
   have B1:=Live_at p3 hi
   have d2:=(H.hp.sl 3 rfl).cell
   simp +contextual (disch:=omega) only[go_sem,k0,e2,e3,e4,e5,ei,natOf_nat,B1,p3.len]
   refine by_b H (s_Knows_ret _ a _ _ (qa.pre H.sub) (by omega)) (fun k1=> ?_) (fun k1=> ?_)
   ·simp +contextual (disch:=omega) only[go_sem,ei]
    exact hJ _ _ _ _ H ⟨v0,v1,v2,v3,by simp +contextual (disch:=omega) only[go_sem,e2],by simp +contextual (disch:=omega) only[go_sem,e3],by simp +contextual (disch:=omega) only[go_sem,e4],by simp +contextual (disch:=omega) only[go_sem,e5],by rw[flt_f hi (by simp[newD,k1])]⟩
   ·have hll:=app_le (p:=keepD d) (q:=newD s) (a:=s.lives) (b:=d.lives) (i:=i) (n:=1073741824) (by omega) (by omega)
    simp +contextual (disch:=omega) only[go_sem,e3,e5,ei,natOf_nat,B1,d2]
    obtain⟨w',τ2,R2,K2⟩:=s_l07Live_ret τ v2 _ (H.hp.sl 3 rfl) d.lives[i] (by rw[insAll_length];omega)
    refine by_c H R2 K2 fun H2=> ?_
    have d3:=(H2.hp.sl 0 rfl).cell
    simp +contextual (disch:=omega) only[go_sem,e5,ei,d3]
    intro τ5 H5
    refine hJ _ _ _ _ (H5.re [1,2,3,0,5,6,7,8] (by decide)) ⟨v0,v1,w',v3,by simp +contextual (disch:=omega) only[go_sem,e2],by simp +contextual (disch:=omega) only[go_sem,e3],by simp +contextual (disch:=omega) only[go_sem,e4],by simp +contextual (disch:=omega) only[go_sem,e5],?_⟩
    rw[flt_t hi (by simp[newD,k1]),←List.append_assoc,insAll_snoc]
    rfl
  ·clear H e2 e3 e4 e5
   rintro Y hY env h τ ei k0 H ⟨v0,v1,v2,v3,e2,e3,e4,e5,rfl⟩
   simp +contextual (disch:=omega) only[go_sem,k0,e3,ei,p3.len]
   exact hY _ _ _ H ⟨v0,v1,v2,v3,e4,e5,by rw[List.take_length]⟩
  clear H e2 e3 e4 e5 v0 v1 v2 v3
  rintro env h τ H ⟨v0,v1,v2,v3,e4,e5,rfl⟩
  simp +contextual (disch:=omega) only[go_sem,e4,e5]
  intro τ8 H8
  exact⟨_,rfl,_,rfl,Hp.ownState (x:=dltTo s d) (H8.sel [1,2,3,4] (by decide))⟩
 obtain⟨q,τ,R,r,rfl,h⟩:=key
 exact⟨r,τ,R,h⟩
end Go.Proofs.YtffnefmklckngaaGreat.Sy
namespace Go.Proofs.YtffnefmklckngaaGreat.Sy
open Go Go.RowKit
set_option linter.unusedSimpArgs false
set_option linter.unusedVariables false
set_option maxRecDepth 4000
abbrev n_s_DoDelta:Nat:=159
def F_s_DoDelta:Fn1:=⟨57,[.c 4 true 4,.t 5],(.seq (.reg [o 2 (.box (.t 0)),o 3 (.box (.t 1)),o 4 (.new [.nilS,.nilS,.nilS,.nilS]),o 5 (.mov (.k (.int .i64 0)))]) (.seq (.reg [o 8 (.ld true 4 (.t 2)),o 9 (.call 89 [(.t 8)]),o 6 (.new [.nilS,.nilS,.nilS,.nilS]),on (.st 4 (.t 6) (.t 9))]) (.seq (.seq (.reg [o 10 (.ld true 4 (.t 2)),o 11 (.call 125 [(.t 10)]),o 12 (.un .not (.t 11)),o 13 (.mov (.t 12)),og 14 13 false (.ld true 6 (.t 3)),og 15 13 false (.call 103 [(.t 14)]),og 16 13 false (.un .not (.t 15)),o 17 (.pick (.t 13) (.k (.bool true)) (.t 16))]) (.cnd (.t 17) (.seq (.reg [o 18 (.ld true 4 (.t 6)),on (.st 4 (.t 4) (.t 18)),o 5 (.mov (.k (.int .i64 3)))]) .ret) .skip)) (.seq (.seq (.reg [o 19 (.fad 1 (.t 3)),o 20 (.ld false 1 (.t 19)),o 21 (.fad 0 (.t 2)),o 22 (.ld false 1 (.t 21)),o 23 (.call 143 [(.t 20),(.t 22)])]) (.cnd (.t 23) (.seq (.reg [o 24 (.ld true 4 (.t 6)),on (.st 4 (.t 4) (.t 24)),o 5 (.mov (.k (.int .i64 1)))]) .ret) .skip)) (.seq (.seq (.reg [o 25 (.fad 0 (.t 3)),o 26 (.ld false 1 (.t 25)),o 27 (.fad 0 (.t 2)),o 28 (.ld false 1 (.t 27)),o 29 (.call 143 [(.t 26),(.t 28)]),o 30 (.un .not (.t 29))]) (.cnd (.t 30) (.seq (.reg [o 31 (.ld true 4 (.t 6)),on (.st 4 (.t 4) (.t 31)),o 5 (.mov (.k (.int .i64 2)))]) .ret) .skip)) (.seq (.reg [o 32 (.ld true 4 (.t 2)),o 33 (.ld true 6 (.t 3)),o 34 (.call 202 [(.t 32),(.t 33)]),o 7 (.new [.nilS,.nilS,.nilS,.nilS]),on (.st 4 (.t 7) (.t 34))]) (.seq (.seq (.reg [o 35 (.fad 1 (.t 7)),o 36 (.ld false 1 (.t 35)),o 37 (.len false (.t 36)),o 38 (.bin .gtr (.t 37) (.k (.int .i64 120))),o 39 (.mov (.t 38)),og 40 39 false (.fad 2 (.t 7)),og 41 39 false (.ld false 1 (.t 40)),og 42 39 false (.len false (.t 41)),og 43 39 false (.bin .gtr (.t 42) (.k (.int .i64 120))),o 44 (.pick (.t 39) (.k (.bool true)) (.t 43)),o 45 (.mov (.t 44)),og 46 45 false (.fad 3 (.t 7)),og 47 45 false (.ld false 1 (.t 46)),og 48 45 false (.len false (.t 47)),og 49 45 false (.bin .gtr (.t 48) (.k (.int .i64 120))),o 50 (.pick (.t 45) (.k (.bool true)) (.t 49))]) (.cnd (.t 50) (.seq (.reg [o 51 (.ld true 4 (.t 6)),on (.st 4 (.t 4) (.t 51)),o 5 (.mov (.k (.int .i64 4)))]) .ret) .skip)) (.seq (.seq (.reg [o 52 (.ld true 4 (.t 7)),o 53 (.call 125 [(.t 52)]),o 54 (.un .not (.t 53))]) (.cnd (.t 54) (.seq (.reg [o 55 (.ld true 4 (.t 6)),on (.st 4 (.t 4) (.t 55)),o 5 (.mov (.k (.int .i64 3)))]) .ret) .skip)) (.seq (.reg [o 56 (.ld true 4 (.t 7)),on (.st 4 (.t 4) (.t 56)),o 5 (.mov (.k (.int .i64 0)))]) .ret)))))))))⟩
theorem ir_s_DoDelta:compFn Tryz.prog n_s_DoDelta=some F_s_DoDelta:=by kernel_rfl
set_option maxHeartbeats 4000000 in
theorem s_DoDelta_ret (σ:St) (cs:List GV) (s:State) (hR:kState.R σ s cs) (ds:List GV) (d:Delta) (hD:kDelta.R σ d ds) (hl:msState s≤1073741824) (hm:msDelta d≤1073741824):∃ r τ,Ret Tryz.prog n_s_DoDelta [.agg cs,.agg ds] σ (.tup [.agg r,gi (doDelta s d).2]) τ∧Hp σ τ [own kState r (doDelta s d).1]:=by
 have hR0:=hR
 have hD0:=hD
 obtain⟨a,b,c,v,rfl,qa,qb,qc,qv⟩:=hR
 obtain⟨w0,w1,w2,w3,w4,w5,rfl,p0,p1,p2,p3,p4,p5⟩:=hD
 obtain⟨ls0,ls1,ls2,ls3⟩:=st_lens hl
 obtain⟨m0,m1,m2,m3,m4,m5,_⟩:=msDelta_all hm
 have key:∃ q τ,Ret Tryz.prog n_s_DoDelta [.agg [a,b,c,v],.agg [w0,w1,w2,w3,w4,w5]] σ q τ∧∃ r,q= .tup [.agg r,gi (doDelta s d).2]∧Hp σ τ [own kState r (doDelta s d).1]:=by
  refine ret_x ir_s_DoDelta (Nat.le_of_ble_eq_true rfl) (Hx.refl σ) ?_
  simp +contextual (disch:=omega) only[go_sem,F_s_DoDelta]
  intro n2 f2 τ2 H2 n3 f3 τ3 H3 n4 f4 τ4 H4
  obtain⟨es,τ5,R5,K5⟩:=s_l06Copy_ret τ4 _ s (kState.pre hR0 H4.sub) (by omega)
  have gl:es.length=4:=kState.len (K5.rd 0 rfl)
  have sf:=splice_full (cs:=z4') gl rfl
  have sg:=seg_full gl
  refine by_c H4 R5 K5 fun H5=> ?_
  simp +contextual (disch:=omega) only[go_sem,sf,gl,sg]
  intro n6 f6 τ6 _ τ7 H7
  refine by_b H7 (s_StateOk_ret _ _ s (kState.pre hR0 H7.sub) (by omega)) (fun hok=> ?_) (fun hok=> ?_)
  rotate_left
  ·have hd:doDelta s d=(s,3):=by simp[doDelta,hok]
   simp +contextual (disch:=omega) only[go_sem,sf,gl,sg]
   intro τ8 H8
   exact⟨_,rfl,es,by rw[hd],by rw[hd];exact H8.sel [1] (by decide)⟩
  simp +contextual (disch:=omega) only[go_sem]
  refine by_b H7 (s_DeltaOk_ret _ _ d (kDelta.pre hD0 H7.sub) (by omega)) (fun hdk=> ?_) (fun hdk=> ?_)
  rotate_left
  ·have hd:doDelta s d=(s,3):=by simp[doDelta,hok,hdk]
   simp +contextual (disch:=omega) only[go_sem,sf,gl,sg]
   intro τ8 H8
   exact⟨_,rfl,es,by rw[hd],by rw[hd];exact H8.sel [1] (by decide)⟩
  simp +contextual (disch:=omega) only[go_sem]
  refine by_b H7 (s_KnowIn_ret _ w1 a _ _ (p1.pre H7.sub) (qa.pre H7.sub) (by omega) (by omega)) (fun k1=> ?_) (fun k1=> ?_)
  ·have hd:doDelta s d=(s,1):=by simp[doDelta,hok,hdk,k1]
   simp +contextual (disch:=omega) only[go_sem,sf,gl,sg]
   intro τ8 H8
   exact⟨_,rfl,es,by rw[hd],by rw[hd];exact H8.sel [1] (by decide)⟩
  simp +contextual (disch:=omega) only[go_sem]
  refine by_b H7 (s_KnowIn_ret _ w0 a _ _ (p0.pre H7.sub) (qa.pre H7.sub) (by omega) (by omega)) (fun k2=> ?_) (fun k2=> ?_)
  rotate_left
  ·have hd:doDelta s d=(s,2):=by simp[doDelta,hok,hdk,k1,k2]
   simp +contextual (disch:=omega) only[go_sem,sf,gl,sg]
   intro τ8 H8
   exact⟨_,rfl,es,by rw[hd],by rw[hd];exact H8.sel [1] (by decide)⟩
  simp +contextual (disch:=omega) only[go_sem]
  obtain⟨os,τ9,R9,K9⟩:=s_l11Done_ret τ7 _ s (kState.pre hR0 H7.sub) _ d (kDelta.pre hD0 H7.sub) hl hm hok hdk
  refine by_c H7 R9 K9 fun H9=> ?_
  obtain⟨kv,tv,lv,cv,rfl,K10⟩:=(H9.hp.pick 0 rfl).splitState
  have ht:=(K10.sl 1 rfl).len
  have hlv:=(K10.sl 2 rfl).len
  have hcv:=(K10.sl 3 rfl).len
  have hst:kState.R τ9 (dltTo s d) [kv,tv,lv,cv]:=H9.hp.rd 0 rfl
  have hms:=ms_dlt s d
  have kE:tooMany (dltTo s d)=(decide (120<(dltTo s d).tallies.length)||(decide (120<(dltTo s d).lives.length)||decide (120<(dltTo s d).cells.length))):=rfl
  generalize hD:dltTo s d=o at*
  cases t1:decide (120<o.tallies.length) with
  |true=>
   have hd:doDelta s d=(s,4):=by simp[doDelta,hok,hdk,k1,k2,hD,kE,t1]
   simp +contextual (disch:=omega) only[go_sem,ht,gt_cast,t1,sf,gl,sg]
   intro n7 f7 τ10 _ τ11 H11 τ12 H12
   exact⟨_,rfl,es,by rw[hd],by rw[hd];exact H12.sel [3] (by decide)⟩
  |false=>
  cases t2:decide (120<o.lives.length) with
  |true=>
   have hd:doDelta s d=(s,4):=by simp[doDelta,hok,hdk,k1,k2,hD,kE,t2]
   simp +contextual (disch:=omega) only[go_sem,ht,hlv,gt_cast,t1,t2,sf,gl,sg]
   intro n7 f7 τ10 _ τ11 H11 τ12 H12
   exact⟨_,rfl,es,by rw[hd],by rw[hd];exact H12.sel [3] (by decide)⟩
  |false=>
  cases t3:decide (120<o.cells.length) with
  |true=>
   have hd:doDelta s d=(s,4):=by simp[doDelta,hok,hdk,k1,k2,hD,kE,t3]
   simp +contextual (disch:=omega) only[go_sem,ht,hlv,hcv,gt_cast,t1,t2,t3,sf,gl,sg]
   intro n7 f7 τ10 _ τ11 H11 τ12 H12
   exact⟨_,rfl,es,by rw[hd],by rw[hd];exact H12.sel [3] (by decide)⟩
  |false=>
  have k3:tooMany o=false:=by rw[kE,t1,t2,t3];rfl
  simp +contextual (disch:=omega) only[go_sem,ht,hlv,hcv,gt_cast,t1,t2,t3]
  intro n7 f7 τ10 _ τ11 H11
  refine by_b H11 (s_StateOk_ret _ _ _ (H11.hp.rd 1 rfl) (by omega)) (fun k4=> ?_) (fun k4=> ?_)
  rotate_left
  ·have hd:doDelta s d=(s,3):=by simp[doDelta,hok,hdk,k1,k2,hD,k3,k4]
   simp +contextual (disch:=omega) only[go_sem,sf,gl,sg]
   intro τ8 H8
   exact⟨_,rfl,es,by rw[hd],by rw[hd];exact H8.sel [3] (by decide)⟩
  have hd:doDelta s d=(o,0):=by simp[doDelta,hok,hdk,k1,k2,hD,k3,k4]
  simp +contextual (disch:=omega) only[go_sem]
  intro τ8 H8
  exact⟨_,rfl,_,by rw[hd],by rw[hd];exact H8.sel [1] (by decide)⟩
 obtain⟨q,τ,R,r,rfl,h⟩:=key
 exact⟨r,τ,R,h⟩
end Go.Proofs.YtffnefmklckngaaGreat.Sy
namespace Go.Proofs.YtffnefmklckngaaGreat.Sy
open Go Go.RowKit
set_option linter.unusedSimpArgs false
set_option linter.unusedVariables false
set_option maxRecDepth 4000
abbrev n_s_DoEdits:Nat:=26
def F_s_DoEdits:Fn1:=⟨53,[.c 8 true 4,.t 9],(.seq (.reg [o 4 (.box (.t 0)),o 8 (.new [.nilS,.nilS,.nilS,.nilS]),o 9 (.mov (.k (.int .i64 0)))]) (.seq (.reg [o 16 (.ld true 4 (.t 4)),o 17 (.call 89 [(.t 16)]),o 10 (.new [.nilS,.nilS,.nilS,.nilS]),on (.st 4 (.t 10) (.t 17))]) (.seq (.seq (.reg [o 11 (.mov (.k (.int .i64 0)))]) (.blk 0 (.lop (.seq (.seq (.reg [o 18 (.mov (.t 11)),o 19 (.mov (.t 3)),o 20 (.len false (.t 19)),o 21 (.bin .lss (.t 18) (.t 20))]) (.cnd (.t 21) .skip (.ext 0))) (.seq (.blk 1 (.seq (.drw [o 25 (.ld true 4 (.t 10)),o 26 (.mov (.t 1)),o 27 (.mov (.t 2)),o 28 (.mov (.t 11)),o 29 (.bin .add (.t 27) (.t 28)),o 30 (.mov (.t 3)),o 31 (.mov (.t 11)),o 32 (.iad 5 (.t 30) (.t 31)),o 33 (.ld true 5 (.t 32)),o 34 (.call 90 [(.t 25),(.t 26),(.t 29),(.t 33)]),o 24 (.mov (.t 34)),o 35 (.ext 0 (.t 24)),o 36 (.ext 1 (.t 24)),o 12 (.new [(.int .i64 0),(.int .i64 0),(.int .i64 0),.nilS,(.int .i64 0),(.str ⟨#[]⟩),(.str ⟨#[]⟩),(.int .i64 0),(.int .i64 0),(.int .i64 0)])] [on (.st 10 (.t 12) (.t 35)),o 13 (.mov (.t 36))]) (.seq (.seq (.reg [o 37 (.mov (.t 13)),o 38 (.bin .neq (.t 37) (.k (.int .i64 0)))]) (.cnd (.t 38) (.seq (.reg [o 39 (.ld true 4 (.t 10)),o 40 (.mov (.t 13)),on (.st 4 (.t 8) (.t 39)),o 9 (.mov (.t 40))]) .ret) .skip)) (.seq (.reg [o 42 (.ld true 4 (.t 10)),o 43 (.ld true 10 (.t 12)),o 44 (.call 91 [(.t 42),(.t 43)]),o 41 (.mov (.t 44)),o 45 (.ext 0 (.t 41)),o 46 (.ext 1 (.t 41)),o 14 (.new [.nilS,.nilS,.nilS,.nilS]),on (.st 4 (.t 14) (.t 45)),o 15 (.mov (.t 46))]) (.seq (.seq (.reg [o 47 (.mov (.t 15)),o 48 (.bin .neq (.t 47) (.k (.int .i64 0)))]) (.cnd (.t 48) (.seq (.reg [o 49 (.ld true 4 (.t 10)),o 50 (.mov (.t 15)),on (.st 4 (.t 8) (.t 49)),o 9 (.mov (.t 50))]) .ret) .skip)) (.reg [o 51 (.ld true 4 (.t 14)),on (.st 4 (.t 10) (.t 51))])))))) (.reg [o 22 (.mov (.t 11)),o 23 (.bin .add (.t 22) (.k (.int .i64 1))),o 11 (.mov (.t 23))])))))) (.seq (.reg [o 52 (.ld true 4 (.t 10)),on (.st 4 (.t 8) (.t 52)),o 9 (.mov (.k (.int .i64 0)))]) .ret))))⟩
abbrev z4:List GV:=[GV.nilS,GV.nilS,GV.nilS,GV.nilS]
end Go.Proofs.YtffnefmklckngaaGreat.Sy
namespace Go.Proofs.YtffnefmklckngaaGreat.Sy
open Go Go.RowKit
set_option linter.unusedSimpArgs false
set_option linter.unusedVariables false
set_option maxRecDepth 4000
abbrev n_i_DoEdits:Nat:=28
def F_i_DoEdits:Fn1:=⟨52,[.c 8 true 4,.t 9],(.seq (.reg [o 4 (.box (.t 0)),o 8 (.new [.nilS,.nilS,.nilS,.nilS]),o 9 (.mov (.k (.int .i64 0)))]) (.seq (.reg [o 16 (.ld true 4 (.t 4)),o 17 (.call 93 [(.t 16)]),o 10 (.new [.nilS,.nilS,.nilS,.nilS]),on (.st 4 (.t 10) (.t 17))]) (.seq (.seq (.reg [o 18 (.mov (.t 3)),o 19 (.len false (.t 18)),o 20 (.mov (.k (.int .i64 0)))]) (.blk 0 (.lop (.seq (.reg [o 21 (.bin .lss (.t 20) (.t 19))]) (.seq (.cnd (.t 21) .skip (.ext 0)) (.seq (.blk 1 (.seq (.reg [o 22 (.mov (.t 20)),o 23 (.iad 5 (.t 18) (.t 20)),o 24 (.ld true 5 (.t 23)),o 12 (.new [(.int .i64 0),(.str ⟨#[]⟩),(.str ⟨#[]⟩),(.int .i64 0),(.int .i64 0)]),o 11 (.mov (.t 22)),on (.st 5 (.t 12) (.t 24))]) (.seq (.reg [o 26 (.ld true 4 (.t 10)),o 27 (.mov (.t 1)),o 28 (.mov (.t 2)),o 29 (.mov (.t 11)),o 30 (.bin .add (.t 28) (.t 29)),o 31 (.ld true 5 (.t 12)),o 32 (.call 94 [(.t 26),(.t 27),(.t 30),(.t 31)]),o 25 (.mov (.t 32)),o 33 (.ext 0 (.t 25)),o 34 (.ext 1 (.t 25)),o 13 (.new [(.int .i64 0),(.int .i64 0),(.int .i64 0),.nilS,(.int .i64 0),(.str ⟨#[]⟩),(.str ⟨#[]⟩),(.int .i64 0),(.int .i64 0),(.int .i64 0)]),on (.st 10 (.t 13) (.t 33)),o 14 (.mov (.t 34))]) (.seq (.seq (.reg [o 35 (.mov (.t 14)),o 36 (.bin .neq (.t 35) (.k (.int .i64 0)))]) (.cnd (.t 36) (.seq (.reg [o 37 (.ld true 4 (.t 10)),o 38 (.mov (.t 14)),on (.st 4 (.t 8) (.t 37)),o 9 (.mov (.t 38))]) .ret) .skip)) (.seq (.reg [o 40 (.ld true 4 (.t 10)),o 41 (.ld true 10 (.t 13)),o 42 (.call 95 [(.t 40),(.t 41)]),o 39 (.mov (.t 42)),o 43 (.ext 0 (.t 39)),o 44 (.ext 1 (.t 39)),o 15 (.new [.nilS,.nilS,.nilS,.nilS]),on (.st 4 (.t 15) (.t 43)),o 14 (.mov (.t 44))]) (.seq (.seq (.reg [o 45 (.mov (.t 14)),o 46 (.bin .neq (.t 45) (.k (.int .i64 0)))]) (.cnd (.t 46) (.seq (.reg [o 47 (.ld true 4 (.t 10)),o 48 (.mov (.t 14)),on (.st 4 (.t 8) (.t 47)),o 9 (.mov (.t 48))]) .ret) .skip)) (.reg [o 49 (.ld true 4 (.t 15)),on (.st 4 (.t 10) (.t 49))]))))))) (.reg [o 50 (.bin .add (.t 20) (.k (.int .i64 1))),o 20 (.mov (.t 50))]))))))) (.seq (.reg [o 51 (.ld true 4 (.t 10)),on (.st 4 (.t 8) (.t 51)),o 9 (.mov (.k (.int .i64 0)))]) .ret))))⟩
theorem zSt_own {σ τ:St} {h:List Item} (H:Hx σ τ h) {i:Nat} {cs:List GV} {s:State} (hi:h[i]? =some (.th (own kState cs s))):zSt τ cs:=by
 obtain⟨v0,v1,v2,v3,rfl,H'⟩:=(H.hp.pick i (at_t hi)).splitState
 exact⟨v0,v1,v2,v3,rfl,H'.zok 1 rfl,H'.zok 2 rfl,H'.zok 3 rfl⟩
end Go.Proofs.YtffnefmklckngaaGreat.Sy
namespace Go.Proofs.YtffnefmklckngaaGreat.Sy
open Go Go.RowKit
set_option linter.unusedSimpArgs false
set_option linter.unusedVariables false
set_option maxRecDepth 4000
abbrev n_s_DoUnit:Nat:=98
def F_s_DoUnit:Fn1:=⟨20,[.c 4 true 4,.t 5],(.seq (.reg [o 2 (.box (.t 0)),o 3 (.box (.t 1)),o 4 (.new [.nilS,.nilS,.nilS,.nilS]),o 5 (.mov (.k (.int .i64 0)))]) (.seq (.seq (.reg [o 6 (.fad 0 (.t 3)),o 7 (.ld false 1 (.t 6))]) (.cnd (.t 7) (.seq (.reg [o 8 (.ld true 4 (.t 2)),o 9 (.fad 11 (.t 3)),o 10 (.ld true 6 (.t 9)),o 11 (.call 159 [(.t 8),(.t 10)]),o 12 (.ext 0 (.t 11)),o 13 (.ext 1 (.t 11)),on (.st 4 (.t 4) (.t 12)),o 5 (.mov (.t 13))]) .ret) .skip)) (.seq (.reg [o 14 (.ld true 4 (.t 2)),o 15 (.fad 1 (.t 3)),o 16 (.ld true 10 (.t 15)),o 17 (.call 91 [(.t 14),(.t 16)]),o 18 (.ext 0 (.t 17)),o 19 (.ext 1 (.t 17)),on (.st 4 (.t 4) (.t 18)),o 5 (.mov (.t 19))]) .ret)))⟩
theorem ir_s_DoUnit:compFn Tryz.prog n_s_DoUnit=some F_s_DoUnit:=by kernel_rfl
abbrev n_i_DoUnit:Nat:=100
def F_i_DoUnit:Fn1:=⟨20,[.c 4 true 4,.t 5],(.seq (.reg [o 2 (.box (.t 0)),o 3 (.box (.t 1)),o 4 (.new [.nilS,.nilS,.nilS,.nilS]),o 5 (.mov (.k (.int .i64 0)))]) (.seq (.seq (.reg [o 6 (.fad 0 (.t 3)),o 7 (.ld false 1 (.t 6))]) (.cnd (.t 7) (.seq (.reg [o 8 (.ld true 4 (.t 2)),o 9 (.fad 11 (.t 3)),o 10 (.ld true 6 (.t 9)),o 11 (.call 161 [(.t 8),(.t 10)]),o 12 (.ext 0 (.t 11)),o 13 (.ext 1 (.t 11)),on (.st 4 (.t 4) (.t 12)),o 5 (.mov (.t 13))]) .ret) .skip)) (.seq (.reg [o 14 (.ld true 4 (.t 2)),o 15 (.fad 1 (.t 3)),o 16 (.ld true 10 (.t 15)),o 17 (.call 95 [(.t 14),(.t 16)]),o 18 (.ext 0 (.t 17)),o 19 (.ext 1 (.t 17)),on (.st 4 (.t 4) (.t 18)),o 5 (.mov (.t 19))]) .ret)))⟩
theorem ir_i_DoUnit:compFn Tryz.prog n_i_DoUnit=some F_i_DoUnit:=by kernel_rfl
abbrev n_s_StateNew:Nat:=97
def F_s_StateNew:Fn1:=⟨3,[.c 0 true 4],(.seq (.reg [o 0 (.new [.nilS,.nilS,.nilS,.nilS])]) (.seq (.reg [o 1 (.call 158 []),o 2 (.build [.nilS,.nilS,.nilS,.nilS] [(0,1,(.t 1))]),on (.st 4 (.t 0) (.t 2))]) .ret))⟩
theorem ir_s_StateNew:compFn Tryz.prog n_s_StateNew=some F_s_StateNew:=by kernel_rfl
abbrev n_i_StateNew:Nat:=99
def F_i_StateNew:Fn1:=⟨3,[.c 0 true 4],(.seq (.reg [o 0 (.new [.nilS,.nilS,.nilS,.nilS])]) (.seq (.reg [o 1 (.call 160 []),o 2 (.build [.nilS,.nilS,.nilS,.nilS] [(0,1,(.t 1))]),on (.st 4 (.t 0) (.t 2))]) .ret))⟩
theorem ir_i_StateNew:compFn Tryz.prog n_i_StateNew=some F_i_StateNew:=by kernel_rfl
abbrev n_s_MayStand:Nat:=33
def F_s_MayStand:Fn1:=⟨26,[.t 2],(.seq (.reg [o 2 (.mov (.k (.bool false)))]) (.seq (.reg [o 7 (.call 97 []),o 3 (.new [.nilS,.nilS,.nilS,.nilS]),on (.st 4 (.t 3) (.t 7))]) (.seq (.seq (.reg [o 4 (.mov (.k (.int .i64 0)))]) (.blk 0 (.lop (.seq (.seq (.reg [o 8 (.mov (.t 4)),o 9 (.mov (.t 0)),o 10 (.len false (.t 9)),o 11 (.bin .lss (.t 8) (.t 10))]) (.cnd (.t 11) .skip (.ext 0))) (.seq (.blk 1 (.seq (.drw [o 15 (.ld true 4 (.t 3)),o 16 (.mov (.t 0)),o 17 (.mov (.t 4)),o 18 (.iad 17 (.t 16) (.t 17)),o 19 (.ld true 17 (.t 18)),o 20 (.call 98 [(.t 15),(.t 19)]),o 14 (.mov (.t 20)),o 21 (.ext 0 (.t 14)),o 22 (.ext 1 (.t 14)),o 5 (.new [.nilS,.nilS,.nilS,.nilS])] [on (.st 4 (.t 5) (.t 21)),o 6 (.mov (.t 22))]) (.seq (.seq (.reg [o 23 (.mov (.t 6)),o 24 (.bin .neq (.t 23) (.k (.int .i64 0)))]) (.cnd (.t 24) (.seq (.reg [o 2 (.mov (.k (.bool false)))]) .ret) .skip)) (.reg [o 25 (.ld true 4 (.t 5)),on (.st 4 (.t 3) (.t 25))])))) (.reg [o 12 (.mov (.t 4)),o 13 (.bin .add (.t 12) (.k (.int .i64 1))),o 4 (.mov (.t 13))])))))) (.seq (.reg [o 2 (.mov (.k (.bool true)))]) .ret))))⟩
theorem ir_s_MayStand:compFn Tryz.prog n_s_MayStand=some F_s_MayStand:=by kernel_rfl
abbrev n_i_MayStand:Nat:=34
def F_i_MayStand:Fn1:=⟨25,[.t 2],(.seq (.reg [o 2 (.mov (.k (.bool false)))]) (.seq (.reg [o 8 (.call 99 []),o 3 (.new [.nilS,.nilS,.nilS,.nilS]),on (.st 4 (.t 3) (.t 8))]) (.seq (.seq (.reg [o 9 (.mov (.t 0)),o 10 (.len false (.t 9)),o 11 (.mov (.k (.int .i64 0)))]) (.blk 0 (.lop (.seq (.reg [o 12 (.bin .lss (.t 11) (.t 10))]) (.seq (.cnd (.t 12) .skip (.ext 0)) (.seq (.blk 1 (.seq (.reg [o 13 (.iad 17 (.t 9) (.t 11)),o 14 (.ld true 17 (.t 13)),o 5 (.new [(.bool false),(.int .i64 0),(.int .i64 0),(.int .i64 0),.nilS,(.int .i64 0),(.str ⟨#[]⟩),(.str ⟨#[]⟩),(.int .i64 0),(.int .i64 0),(.int .i64 0),.nilS,.nilS,.nilS,.nilS,.nilS,.nilS]),on (.st 17 (.t 5) (.t 14))]) (.seq (.reg [o 16 (.ld true 4 (.t 3)),o 17 (.ld true 17 (.t 5)),o 18 (.call 100 [(.t 16),(.t 17)]),o 15 (.mov (.t 18)),o 19 (.ext 0 (.t 15)),o 20 (.ext 1 (.t 15)),o 6 (.new [.nilS,.nilS,.nilS,.nilS]),on (.st 4 (.t 6) (.t 19)),o 7 (.mov (.t 20))]) (.seq (.seq (.reg [o 21 (.mov (.t 7)),o 22 (.bin .neq (.t 21) (.k (.int .i64 0)))]) (.cnd (.t 22) (.seq (.reg [o 2 (.mov (.k (.bool false)))]) .ret) .skip)) (.reg [o 23 (.ld true 4 (.t 6)),on (.st 4 (.t 3) (.t 23))]))))) (.reg [o 24 (.bin .add (.t 11) (.k (.int .i64 1))),o 11 (.mov (.t 24))]))))))) (.seq (.reg [o 2 (.mov (.k (.bool true)))]) .ret))))⟩
theorem ir_i_MayStand:compFn Tryz.prog n_i_MayStand=some F_i_MayStand:=by kernel_rfl
abbrev zeU:List GV:=[.bool false,gi 0,gi 0,gi 0,.nilS,gi 0,.str ⟨#[]⟩,.str ⟨#[]⟩,gi 0,gi 0,gi 0,.nilS,.nilS,.nilS,.nilS,.nilS,.nilS]
def doUnit (s:State) (u:Unit_):State×Int:=if u.batch then doDelta s u.delta else doAct s u.act
def st0:State:=⟨[0,0,0],[],[],[]⟩
theorem unit_seg {b:Bool} {v1 v2:List GV} (h1:v1.length=10) (h2:v2.length=6):(seg (.bool b::v1++(v2++[])) 1 10).bind (mkv true)=some (.agg v1)∧(seg (.bool b::v1++(v2++[])) 11 6).bind (mkv true)=some (.agg v2)∧(seg (.bool b::v1++(v2++[])) 0 1).bind (mkv false)=some (.bool b)∧(GV.bool b::v1++(v2++[])).length=17:=by
 refine⟨?_,?_,?_,by simp[h1,h2]⟩
 ·simp[seg,mkv,h1,h2]
 ·have:List.drop 10 (v1++v2)=v2:=by rw[← h1,List.drop_left]
  simp[seg,mkv,h1,h2,this]
  exact List.take_of_length_le (by omega)
 ·simp[seg,mkv]
theorem s_StateNew_ret (σ:St):∃ r τ,Ret Tryz.prog n_s_StateNew [] σ (.agg r) τ∧Hp σ τ [own kState r st0]:=by
 have key:∃ q τ,Ret Tryz.prog n_s_StateNew [] σ q τ∧∃ r,q= .agg r∧Hp σ τ [own kState r st0]:=by
  refine ret_x ir_s_StateNew (Nat.le_of_ble_eq_true rfl) (Hx.refl σ) ?_
  simp +contextual (disch:=omega) only[go_sem,F_s_StateNew]
  intro n f τ H
  obtain⟨kv,τ1,R1,K1⟩:=s_KnowNew_ret τ
  refine by_c H R1 K1 fun H1=> ?_
  have ck:=(H1.hp.sl 0 rfl).cell
  simp +contextual (disch:=omega) only[go_sem,ck]
  intro τ2 H2
  exact⟨_,rfl,_,rfl,Hp.ownState (x:=st0) (((((H2.sel [0] (by decide)).nilS (d:=pCell.kd)).nilS (d:=pLive.kd)).nilS (d:=pTally.kd)).sel [3,0,1,2] (by decide))⟩
 obtain⟨q,τ,R,r,rfl,h⟩:=key
 exact⟨r,τ,R,h⟩
theorem i_StateNew_ret (σ:St):∃ r τ,Ret Tryz.prog n_i_StateNew [] σ (.agg r) τ∧Hp σ τ [own kState r st0]:=by
 have key:∃ q τ,Ret Tryz.prog n_i_StateNew [] σ q τ∧∃ r,q= .agg r∧Hp σ τ [own kState r st0]:=by
  refine ret_x ir_i_StateNew (Nat.le_of_ble_eq_true rfl) (Hx.refl σ) ?_
  simp +contextual (disch:=omega) only[go_sem,F_i_StateNew]
  intro n f τ H
  obtain⟨kv,τ1,R1,K1⟩:=i_KnowNew_ret τ
  refine by_c H R1 K1 fun H1=> ?_
  have ck:=(H1.hp.sl 0 rfl).cell
  simp +contextual (disch:=omega) only[go_sem,ck]
  intro τ2 H2
  exact⟨_,rfl,_,rfl,Hp.ownState (x:=st0) (((((H2.sel [0] (by decide)).nilS (d:=pCell.kd)).nilS (d:=pLive.kd)).nilS (d:=pTally.kd)).sel [3,0,1,2] (by decide))⟩
 obtain⟨q,τ,R,r,rfl,h⟩:=key
 exact⟨r,τ,R,h⟩
theorem s_DoUnit_ret (σ:St) (cs:List GV) (s:State) (hR:kState.R σ s cs) (ds:List GV) (u:Unit_) (hU:kUnit_.R σ u ds) (hl:msState s≤1073741824) (hm:msUnit u≤1073741824):∃ r τ,Ret Tryz.prog n_s_DoUnit [.agg cs,.agg ds] σ (.tup [.agg r,gi (doUnit s u).2]) τ∧Hp σ τ [own kState r (doUnit s u).1]:=by
 obtain⟨v1,v2,rfl,hA,hD⟩:=hU
 obtain⟨g1,g2,g3,g4⟩:=unit_seg (b:=u.batch) (kAct.len hA) (kDelta.len hD)
 have gl:cs.length=4:=kState.len hR
 have sg:=seg_full gl
 have hma:msAct u.act≤1073741824∧msDelta u.delta≤1073741824:=by unfold msUnit at hm;omega
 generalize(.bool u.batch::v1++(v2++[]):List GV)=ds at*
 have key:∃ q τ,Ret Tryz.prog n_s_DoUnit [.agg cs,.agg ds] σ q τ∧∃ r,q= .tup [.agg r,gi (doUnit s u).2]∧Hp σ τ [own kState r (doUnit s u).1]:=by
  refine ret_x ir_s_DoUnit (Nat.le_of_ble_eq_true rfl) (Hx.refl σ) ?_
  cases hb:u.batch with
  |true=>
   rw[hb] at g3
   have hd:doUnit s u=doDelta s u.delta:=by unfold doUnit;rw[if_pos hb]
   simp +contextual (disch:=omega) only[go_sem,F_s_DoUnit,g3,sg,g2]
   intro n2 f2 τ2 H2 n3 f3 τ3 H3 n4 f4 τ4 H4
   obtain⟨r,τ5,R5,K5⟩:=s_DoDelta_ret τ4 _ s (kState.pre hR H4.sub) _ _ (kDelta.pre hD H4.sub) hl hma.2
   have rl:r.length=4:=kState.len (K5.rd 0 rfl)
   refine by_c H4 R5 K5 fun H5=> ?_
   simp +contextual (disch:=omega) only[go_sem,splice_full (cs:=z4) rl rfl,rl,seg_full rl]
   intro τ6 H6
   exact⟨_,rfl,r,by rw[hd],by rw[hd];exact H6.sel [0] (by decide)⟩
  |false=>
   rw[hb] at g3
   have hd:doUnit s u=doAct s u.act:=by unfold doUnit;rw[if_neg (by simp[hb])]
   simp +contextual (disch:=omega) only[go_sem,F_s_DoUnit,g3,sg,g1]
   intro n2 f2 τ2 H2 n3 f3 τ3 H3 n4 f4 τ4 H4
   obtain⟨r,τ5,R5,K5⟩:=s_DoAct_ret τ4 _ s (kState.pre hR H4.sub) _ _ (kAct.pre hA H4.sub) (by omega) (by omega)
   have rl:r.length=4:=kState.len (K5.rd 0 rfl)
   refine by_c H4 R5 K5 fun H5=> ?_
   simp +contextual (disch:=omega) only[go_sem,splice_full (cs:=z4) rl rfl,rl,seg_full rl]
   intro τ6 H6
   exact⟨_,rfl,r,by rw[hd],by rw[hd];exact H6.sel [0] (by decide)⟩
 obtain⟨q,τ,R,r,rfl,h⟩:=key
 exact⟨r,τ,R,h⟩
theorem i_DoUnit_ret (σ:St) (cs:List GV) (s:State) (hR:kState.R σ s cs) (hz:zSt σ cs) (ds:List GV) (u:Unit_) (hU:kUnit_.R σ u ds) (hl:msState s≤1073741824) (hm:msUnit u≤1073741824):∃ r τ,Ret Tryz.prog n_i_DoUnit [.agg cs,.agg ds] σ (.tup [.agg r,gi (doUnit s u).2]) τ∧Hp σ τ [own kState r (doUnit s u).1]:=by
 obtain⟨v1,v2,rfl,hA,hD⟩:=hU
 obtain⟨g1,g2,g3,g4⟩:=unit_seg (b:=u.batch) (kAct.len hA) (kDelta.len hD)
 have gl:cs.length=4:=kState.len hR
 have sg:=seg_full gl
 have hma:msAct u.act≤1073741824∧msDelta u.delta≤1073741824:=by unfold msUnit at hm;omega
 generalize(.bool u.batch::v1++(v2++[]):List GV)=ds at*
 have key:∃ q τ,Ret Tryz.prog n_i_DoUnit [.agg cs,.agg ds] σ q τ∧∃ r,q= .tup [.agg r,gi (doUnit s u).2]∧Hp σ τ [own kState r (doUnit s u).1]:=by
  refine ret_x ir_i_DoUnit (Nat.le_of_ble_eq_true rfl) (Hx.refl σ) ?_
  cases hb:u.batch with
  |true=>
   rw[hb] at g3
   have hd:doUnit s u=doDelta s u.delta:=by unfold doUnit;rw[if_pos hb]
   simp +contextual (disch:=omega) only[go_sem,F_i_DoUnit,g3,sg,g2]
   intro n2 f2 τ2 H2 n3 f3 τ3 H3 n4 f4 τ4 H4
   obtain⟨r,τ5,R5,K5⟩:=i_DoDelta_ret τ4 _ s (kState.pre hR H4.sub) _ _ (kDelta.pre hD H4.sub) hl hma.2
   have rl:r.length=4:=kState.len (K5.rd 0 rfl)
   refine by_c H4 R5 K5 fun H5=> ?_
   simp +contextual (disch:=omega) only[go_sem,splice_full (cs:=z4) rl rfl,rl,seg_full rl]
   intro τ6 H6
   exact⟨_,rfl,r,by rw[hd],by rw[hd];exact H6.sel [0] (by decide)⟩
  |false=>
   rw[hb] at g3
   have hd:doUnit s u=doAct s u.act:=by unfold doUnit;rw[if_neg (by simp[hb])]
   simp +contextual (disch:=omega) only[go_sem,F_i_DoUnit,g3,sg,g1]
   intro n2 f2 τ2 H2 n3 f3 τ3 H3 n4 f4 τ4 H4
   obtain⟨a',b',c',v',hcs,z1,z2,z3⟩:=hz
   obtain⟨r,τ5,R5,K5⟩:=i_DoAct_ret τ4 _ s (kState.pre hR H4.sub) ⟨a',b',c',v',hcs,zOk_pre z1 H4.sub,zOk_pre z2 H4.sub,zOk_pre z3 H4.sub⟩ _ _ (kAct.pre hA H4.sub) (by omega) (by omega)
   have rl:r.length=4:=kState.len (K5.rd 0 rfl)
   refine by_c H4 R5 K5 fun H5=> ?_
   simp +contextual (disch:=omega) only[go_sem,splice_full (cs:=z4) rl rfl,rl,seg_full rl]
   intro τ6 H6
   exact⟨_,rfl,r,by rw[hd],by rw[hd];exact H6.sel [0] (by decide)⟩
 obtain⟨q,τ,R,r,rfl,h⟩:=key
 exact⟨r,τ,R,h⟩
def runU (us:List Unit_):Nat→Option State
 |0=>some st0
 |i+1=>(runU us i).bind fun s=>if h:i<us.length then(if (doUnit s us[i]).2=0 then some (doUnit s us[i]).1 else none) else some s
def mayStand (us:List Unit_):Bool:=(runU us us.length).isSome
theorem runU_yes {us:List Unit_} {i:Nat} {s:State} (hi:i<us.length) (h:runU us i=some s) (h0:(doUnit s us[i]).2=0):runU us (i+1)=some (doUnit s us[i]).1:=by
 rw[runU,h,Option.bind_some,dif_pos hi,if_pos h0]
theorem runU_stop {us:List Unit_} {i:Nat} (h:runU us i=none):∀ j,runU us (i+j)=none
 |0=>h
 |j+1=>by
  show runU us ((i+j)+1)=none
  rw[runU,runU_stop h j];rfl
theorem runU_no {us:List Unit_} {i:Nat} {s:State} (hi:i<us.length) (h:runU us i=some s) (h0:¬ (doUnit s us[i]).2=0):mayStand us=false:=by
 have h1:runU us (i+1)=none:=by rw[runU,h,Option.bind_some,dif_pos hi,if_neg h0]
 obtain⟨j,hj⟩:∃ j,us.length=(i+1)+j:=⟨us.length - (i+1),by omega⟩
 unfold mayStand
 rw[hj,runU_stop h1];rfl
theorem ms_doDelta (s:State) (d:Delta):msState (doDelta s d).1≤msState s+msDelta d+3:=by
 have:=ms_dlt s d
 unfold doDelta
 repeat' split
 all_goals first|exact this|(simp only[];omega)
theorem ms_doUnit (s:State) (u:Unit_):msState (doUnit s u).1≤msState s+msUnit u+3:=by
 unfold doUnit
 split
 ·have:=ms_doDelta s u.delta
  simp only[msUnit];omega
 ·have:=ms_doAct s u.act
  simp only[msUnit,msAct];omega
theorem ms_runU (us:List Unit_):∀ i,i≤us.length→∀ s,runU us i=some s→msState s≤3+sumL msUnit (us.take i)+3*i
 |0,_,s,h=>by
  rw[runU] at h
  injection h with h;subst h
  simp[st0,msState,sumL]
 |i+1,hi,s,h=>by
  rw[runU] at h
  obtain⟨s',h1,h2⟩:=Option.bind_eq_some_iff.1 h
  have ih:=ms_runU us i (by omega) s' h1
  rw[dif_pos (by omega)] at h2
  split at h2
  ·injection h2 with h2;subst h2
   have:=ms_doUnit s' us[i]
   rw[sumL_snoc (by omega)]
   omega
  ·cases h2
theorem unit_at {σ:St} {v:GV} {l:List Unit_} (h:RS kUnit_ σ v l) {i:Nat} (hi:i<l.length):∃ cs,(iadG 17 v (some i)=some (atz 17 v i)∧ldG true 17 σ (atz 17 v i)=some (.agg cs))∧kUnit_.R σ l[i] cs:=by
 obtain⟨cs,⟨h1,_,_,h4,_⟩,h5⟩:=RdN.cellsN h hi
 exact⟨cs,⟨h1,h4⟩,h5⟩
set_option maxHeartbeats 1000000 in
theorem s_MayStand_ret (σ:St) (v:GV) (l:List Unit_) (h:RS kUnit_ σ v l) (hl:l.length+sumL msUnit l≤1048576):Ret Tryz.prog n_s_MayStand [v] σ (.bool (mayStand l)) σ:=by
 refine ret_xe ir_s_MayStand (Nat.le_of_ble_eq_true rfl) trivial ?_
 simp +contextual (disch:=omega) only[go_sem,F_s_MayStand]
 obtain⟨r,τ1,R1,K1⟩:=s_StateNew_ret σ
 have rl:r.length=4:=kState.len (K1.rd 0 rfl)
 refine by_c (Hx.refl σ) R1 K1 fun H1=> ?_
 simp +contextual (disch:=omega) only[go_sem,splice_full (cs:=z4) rl rfl,rl]
 intro n3 f3 τ2 _ τ3 H3
 refine sx_for l.length 4 0 (fun i env h=>env 0=v∧env 3= .ptr n3 0∧∃ s r,runU l i=some s∧r.length=4∧h=[.box 1 n3 r,.th (own kState r s)]) (fun env h=>mayStand l=true) (fun env h=>env 2= .bool (mayStand l)) _ H3 (by simp +contextual (disch:=omega) only[go_sem]) ⟨by simp +contextual (disch:=omega) only[go_sem],by simp +contextual (disch:=omega) only[go_sem],st0,r,rfl,rl,rfl⟩ ?_ ?_ ?_ ?_
 ·clear H1 H3
  rintro J Y W hJ hY hW i env h' τ hi ei c0 H ⟨e0,e3,s,r,hs,rl,rfl⟩
  obtain⟨cs,U1,hU⟩:=unit_at h hi
  have hms:=ms_runU l i (by omega) s hs
  have htk:=sumL_take_le msUnit l i
  have hmu:msUnit l[i]≤sumL msUnit l:=sumL_mem (f:=msUnit) (List.getElem_mem hi)
  simp +contextual (disch:=omega) only[go_sem,c0,e0,e3,ei,natOf_nat,h.len,U1,seg_full rl]
  obtain⟨q,τ4,R4,K4⟩:=s_DoUnit_ret τ r s (H.hp.rd 1 rfl) cs l[i] (kUnit_.pre hU H.sub) (by omega) (by omega)
  have ql:q.length=4:=kState.len (K4.rd 0 rfl)
  refine by_c H R4 K4 fun H4=> ?_
  by_cases hz:(doUnit s l[i]).2=0
  ·have b1:((doUnit s l[i]).2 != 0)=false:=by simp[hz]
   simp +contextual (disch:=omega) only[go_sem,splice_full (cs:=z4) ql rfl,splice_full (cs:=r) ql rl,ql,rl,b1,e3,ei,seg_full ql]
   intro n5 f5 τ5 _ τ6 _ τ7 H7
   exact hJ _ _ _ _ (H7.re [2,1] (by decide)) ⟨by simp +contextual (disch:=omega) only[go_sem,e0],by simp +contextual (disch:=omega) only[go_sem,e3],_,q,runU_yes hi hs hz,ql,rfl⟩
  ·have b1:((doUnit s l[i]).2 != 0)=true:=by simp[hz]
   simp +contextual (disch:=omega) only[go_sem,splice_full (cs:=z4) ql rfl,ql,b1]
   intro n5 f5 τ5 _ τ6 H6
   exact hW _ _ _ H6 (by simp +contextual (disch:=omega) only[go_sem,runU_no hi hs hz])
 ·clear H1 H3
  rintro Y hY env h' τ ei c0 H ⟨e0,e3,s,r,hs,rl,rfl⟩
  simp +contextual (disch:=omega) only[go_sem,c0,e0,ei,h.len]
  exact hY _ _ _ H (by simp[mayStand,hs])
 ·rintro env h' τ H hm
  simp +contextual (disch:=omega) only[go_sem,hm]
 ·rintro env h' τ H e2
  simp +contextual (disch:=omega) only[go_sem,e2]
set_option maxHeartbeats 1000000 in
theorem i_MayStand_ret (σ:St) (v:GV) (l:List Unit_) (h:RS kUnit_ σ v l) (hl:l.length+sumL msUnit l≤1048576):Ret Tryz.prog n_i_MayStand [v] σ (.bool (mayStand l)) σ:=by
 refine ret_xe ir_i_MayStand (Nat.le_of_ble_eq_true rfl) trivial ?_
 simp +contextual (disch:=omega) only[go_sem,F_i_MayStand]
 obtain⟨r,τ1,R1,K1⟩:=i_StateNew_ret σ
 have rl:r.length=4:=kState.len (K1.rd 0 rfl)
 refine by_c (Hx.refl σ) R1 K1 fun H1=> ?_
 simp +contextual (disch:=omega) only[go_sem,splice_full (cs:=z4) rl rfl,rl,h.len]
 intro n3 f3 τ2 _ τ3 H3
 refine sx_for l.length 11 0 (fun i env h=>env 9=v∧env 10=gi l.length∧env 3= .ptr n3 0∧∃ s r,runU l i=some s∧r.length=4∧h=[.box 1 n3 r,.th (own kState r s)]) (fun env h=>mayStand l=true) (fun env h=>env 2= .bool (mayStand l)) _ H3 (by simp +contextual (disch:=omega) only[go_sem]) ⟨by simp +contextual (disch:=omega) only[go_sem],by simp +contextual (disch:=omega) only[go_sem],by simp +contextual (disch:=omega) only[go_sem],st0,r,rfl,rl,rfl⟩ ?_ ?_ ?_ ?_
 ·clear H1 H3
  rintro J Y W hJ hY hW i env h' τ hi ei c0 H ⟨e9,e10,e3,s,r,hs,rl,rfl⟩
  obtain⟨cs,U1,hU⟩:=unit_at h hi
  have hms:=ms_runU l i (by omega) s hs
  have htk:=sumL_take_le msUnit l i
  have hmu:msUnit l[i]≤sumL msUnit l:=sumL_mem (f:=msUnit) (List.getElem_mem hi)
  have cl:cs.length=17:=kUnit_.len hU
  simp +contextual (disch:=omega) only[go_sem,c0,e9,e10,e3,ei,natOf_nat,U1,seg_full rl,cl,seg_full cl,splice_full (cs:=zeU) cl rfl]
  intro n5 f5 τ5 _ τ6 H6
  obtain⟨q,τ4,R4,K4⟩:=i_DoUnit_ret τ6 r s (H6.hp.rd 2 rfl) (zSt_own H6 (i:=2) rfl) cs l[i] (kUnit_.pre hU H6.sub) (by omega) (by omega)
  have ql:q.length=4:=kState.len (K4.rd 0 rfl)
  refine by_c H6 R4 K4 fun H4=> ?_
  by_cases hz:(doUnit s l[i]).2=0
  ·have b1:((doUnit s l[i]).2 != 0)=false:=by simp[hz]
   simp +contextual (disch:=omega) only[go_sem,splice_full (cs:=z4) ql rfl,splice_full (cs:=r) ql rl,ql,rl,b1,e3,ei,seg_full ql]
   intro n6 f6 τ7 _ τ8 _ τ9 H9
   exact hJ _ _ _ _ (H9.re [3,1] (by decide)) ⟨by simp +contextual (disch:=omega) only[go_sem,e9],by simp +contextual (disch:=omega) only[go_sem,e10],by simp +contextual (disch:=omega) only[go_sem,e3],_,q,runU_yes hi hs hz,ql,rfl⟩
  ·have b1:((doUnit s l[i]).2 != 0)=true:=by simp[hz]
   simp +contextual (disch:=omega) only[go_sem,splice_full (cs:=z4) ql rfl,ql,b1]
   intro n6 f6 τ7 _ τ8 H8
   exact hW _ _ _ H8 (by simp +contextual (disch:=omega) only[go_sem,runU_no hi hs hz])
 ·clear H1 H3
  rintro Y hY env h' τ ei c0 H ⟨e9,e10,e3,s,r,hs,rl,rfl⟩
  simp +contextual (disch:=omega) only[go_sem,c0,e10,ei]
  exact hY _ _ _ H (by simp[mayStand,hs])
 ·rintro env h' τ H hm
  simp +contextual (disch:=omega) only[go_sem,hm]
 ·rintro env h' τ H e2
  simp +contextual (disch:=omega) only[go_sem,e2]
end Go.Proofs.YtffnefmklckngaaGreat.Sy
namespace Go.Proofs.YtffnefmklckngaaGreat.Sy
open Go Go.RowKit
set_option linter.unusedSimpArgs false
set_option linter.unusedVariables false
abbrev n_l_toDot:Nat:=169
def F_l_toDot:Fn1:=⟨11,[.c 2 true 2],(.seq (.reg [o 1 (.box (.t 0)),o 2 (.new [(.int .i64 0),(.int .i64 0)])]) (.seq (.reg [o 3 (.new [(.int .i64 0),(.int .i64 0)])]) (.seq (.reg [o 4 (.fad 0 (.t 1)),o 5 (.ld false 1 (.t 4)),o 6 (.fad 0 (.t 3)),on (.st 1 (.t 6) (.t 5))]) (.seq (.reg [o 7 (.fad 1 (.t 1)),o 8 (.ld false 1 (.t 7)),o 9 (.fad 1 (.t 3)),on (.st 1 (.t 9) (.t 8))]) (.seq (.reg [o 10 (.ld true 2 (.t 3)),on (.st 2 (.t 2) (.t 10))]) .ret)))))⟩
theorem ir_l_toDot:compFn Tryz.prog n_l_toDot=some F_l_toDot:=by kernel_rfl
theorem l_toDot_ret (σ:St) (x:Dot):Ret Tryz.prog n_l_toDot [.agg [.int .i64 x.rep,.int .i64 x.seq]] σ (.agg [.int .i64 x.rep,.int .i64 x.seq]) σ:=by
 refine ret_eq ir_l_toDot (Nat.le_of_ble_eq_true rfl) (by simp[vLt,cLt,sLt]) ?_
 simp +contextual (disch:=omega) only[go_sem,F_l_toDot]
end Go.Proofs.YtffnefmklckngaaGreat.Sy
namespace Go.Proofs.YtffnefmklckngaaGreat.Sy
open Go Go.RowKit
set_option linter.unusedSimpArgs false
set_option linter.unusedVariables false
abbrev n_l_toIntS:Nat:=73
def F_l_toIntS:Fn1:=⟨22,[.t 2],(.seq (.reg [o 2 (.mov (.k .nilS))]) (.seq (.reg [o 5 (.mov (.t 0)),o 6 (.len false (.t 5)),o 7 (.mks 1 8 [(.int .i64 0)] (.t 6) (.t 6)),o 3 (.mov (.t 7))]) (.seq (.seq (.reg [o 4 (.mov (.k (.int .i64 0)))]) (.blk 0 (.lop (.seq (.seq (.reg [o 8 (.mov (.t 4)),o 9 (.mov (.t 0)),o 10 (.len false (.t 9)),o 11 (.bin .lss (.t 8) (.t 10))]) (.cnd (.t 11) .skip (.ext 0))) (.seq (.blk 1 (.reg [o 14 (.mov (.t 3)),o 15 (.mov (.t 4)),o 16 (.mov (.t 0)),o 17 (.mov (.t 4)),o 18 (.iad 1 (.t 16) (.t 17)),o 19 (.ld false 1 (.t 18)),o 20 (.iad 1 (.t 14) (.t 15)),on (.st 1 (.t 20) (.t 19))])) (.reg [o 12 (.mov (.t 4)),o 13 (.bin .add (.t 12) (.k (.int .i64 1))),o 4 (.mov (.t 13))])))))) (.seq (.reg [o 21 (.mov (.t 3)),o 2 (.mov (.t 21))]) .ret))))⟩
theorem ir_l_toIntS:compFn Tryz.prog n_l_toIntS=some F_l_toIntS:=by kernel_rfl
theorem l_toIntS_ret (σ:St) (v:GV) (l:List Int) (hR:RS pI.kd σ v l) (hl:l.length≤1099511627776):∃ r τ,Ret Tryz.prog n_l_toIntS [v] σ r τ∧Hp σ τ [ow pI.kd r l]:=by
 refine ret_hp (rs:=fun r=>[ow pI.kd r l]) ir_l_toIntS (Nat.le_of_ble_eq_true rfl) ?_
 have hmk:∀ ze,mksG 1 8 ze σ (some l.length) (some l.length)=some (.sl σ.length 0 l.length,σ++[some (.row 1 (reps l.length ze))]):=fun ze=>mks_ok (by omega)
 simp +contextual (disch:=omega) only[go_sem,F_l_toIntS,hR.len,hmk]
 have H0:=((Hp.refl σ).new 1 (reps l.length (pI.enc 0))).toRow 0 (p:=pI) rfl (List.replicate l.length 0) rfl (reps_enc _ _ _) l.length (by simp)
 refine vc_for l.length 4 (fun i env τ=>env 0=v∧env 3= .sl σ.length 0 l.length∧Hp σ τ [ow pI.kd (.sl σ.length 0 l.length) (l.take i++List.replicate (l.length - i) 0)]) rfl ⟨rfl,rfl,by rw[List.take_zero,List.nil_append,Nat.sub_zero];exact H0⟩ ?_ ?_
 ·rintro i env τ hi e4 c0 ⟨e0,e3,H⟩
  have h1:=hR.pre H.sub
  have h2:=H.sl 0 rfl
  have hj:=fill_len (z:=(0:Int)) hi
  obtain⟨τ',es,H'⟩:=H.stw 0 rfl hj 1 (.int .i64 l[i]) l[i] rfl rfl (by decide)
  rw[fill_step hi] at H'
  have es:stG 1 τ (atz 1 (.sl σ.length 0 l.length) i) (.int .i64 l[i])=some (.tup [],τ'):=es
  simp +contextual (disch:=omega) only[go_sem,e0,e3,e4,c0,hR.len,int_at h1 hi,int_at h2 hj,es]
  exact H'
 ·rintro env τ e4 c0 ⟨e0,e3,H⟩
  rw[fill_end] at H
  simp +contextual (disch:=omega) only[go_sem,e0,e3,e4,c0,hR.len]
  exact⟨_,rfl,H⟩
end Go.Proofs.YtffnefmklckngaaGreat.Sy
namespace Go.Proofs.YtffnefmklckngaaGreat.Sy
open Go Go.RowKit
set_option linter.unusedSimpArgs false
set_option linter.unusedVariables false
abbrev n_l_toAct:Nat:=107
def F_l_toAct:Fn1:=⟨32,[.c 2 true 10],(.seq (.reg [o 1 (.box (.t 0)),o 2 (.new [(.int .i64 0),(.int .i64 0),(.int .i64 0),.nilS,(.int .i64 0),(.str ⟨#[]⟩),(.str ⟨#[]⟩),(.int .i64 0),(.int .i64 0),(.int .i64 0)])]) (.seq (.reg [o 3 (.new [(.int .i64 0),(.int .i64 0),(.int .i64 0),.nilS,(.int .i64 0),(.str ⟨#[]⟩),(.str ⟨#[]⟩),(.int .i64 0),(.int .i64 0),(.int .i64 0)])]) (.seq (.reg [o 4 (.fad 0 (.t 1)),o 5 (.ld true 2 (.t 4)),o 6 (.call 169 [(.t 5)]),o 7 (.fad 0 (.t 3)),on (.st 2 (.t 7) (.t 6))]) (.seq (.reg [o 8 (.fad 2 (.t 1)),o 9 (.ld false 1 (.t 8)),o 10 (.fad 2 (.t 3)),on (.st 1 (.t 10) (.t 9))]) (.seq (.reg [o 11 (.fad 3 (.t 1)),o 12 (.ld false 1 (.t 11)),o 13 (.call 73 [(.t 12)]),o 14 (.fad 3 (.t 3)),on (.st 1 (.t 14) (.t 13))]) (.seq (.reg [o 15 (.fad 4 (.t 1)),o 16 (.ld false 1 (.t 15)),o 17 (.fad 4 (.t 3)),on (.st 1 (.t 17) (.t 16))]) (.seq (.reg [o 18 (.fad 5 (.t 1)),o 19 (.ld false 1 (.t 18)),o 20 (.fad 5 (.t 3)),on (.st 1 (.t 20) (.t 19))]) (.seq (.reg [o 21 (.fad 6 (.t 1)),o 22 (.ld false 1 (.t 21)),o 23 (.fad 6 (.t 3)),on (.st 1 (.t 23) (.t 22))]) (.seq (.reg [o 24 (.fad 7 (.t 1)),o 25 (.ld false 1 (.t 24)),o 26 (.fad 7 (.t 3)),on (.st 1 (.t 26) (.t 25))]) (.seq (.reg [o 27 (.fad 8 (.t 1)),o 28 (.ld true 2 (.t 27)),o 29 (.call 169 [(.t 28)]),o 30 (.fad 8 (.t 3)),on (.st 2 (.t 30) (.t 29))]) (.seq (.reg [o 31 (.ld true 10 (.t 3)),on (.st 10 (.t 2) (.t 31))]) .ret)))))))))))⟩
theorem ir_l_toAct:compFn Tryz.prog n_l_toAct=some F_l_toAct:=by kernel_rfl
theorem l_toAct_ret (σ:St) (cs:List GV) (x:Act) (hR:kAct.R σ x cs) (hl:msAct x≤1099511627776):∃ r τ,Ret Tryz.prog n_l_toAct [.agg cs] σ r τ∧σ <+: τ∧∃ ds,r= .agg ds∧Hp σ τ [own kAct ds x]:=by
 have hlen:=kAct.len hR
 have hlen:cs.length=10:=hlen
 obtain⟨v2,rfl,q2⟩:=hR
 unfold msAct at hl
 refine ret_new ir_l_toAct (Nat.le_of_ble_eq_true rfl) ?_
 simp +contextual (disch:=omega) only[go_sem,F_l_toAct,List.append_nil]
 refine by_ret (l_toDot_ret _ x.dot) ?_
 simp +contextual (disch:=omega) only[go_sem,List.append_nil]
 have H:=(((Hp.refl σ).new 1 ((GV.int .i64 x.dot.rep)::(GV.int .i64 x.dot.seq)::(GV.int .i64 x.time)::v2::(GV.int .i64 x.kind)::(GV.str x.obj)::(GV.str x.key)::(GV.int .i64 x.val)::(GV.int .i64 x.ref.rep)::(GV.int .i64 x.ref.seq)::[])).new 1 [(GV.int .i64 0),(GV.int .i64 0),(GV.int .i64 0),GV.nilS,(GV.int .i64 0),(GV.str ⟨#[]⟩),(GV.str ⟨#[]⟩),(GV.int .i64 0),(GV.int .i64 0),(GV.int .i64 0)]).new 1 [(GV.int .i64 x.dot.rep),(GV.int .i64 x.dot.seq),(GV.int .i64 x.time),GV.nilS,(GV.int .i64 0),(GV.str ⟨#[]⟩),(GV.str ⟨#[]⟩),(GV.int .i64 0),(GV.int .i64 0),(GV.int .i64 0)]
 obtain⟨r2,τ2,R2,K2⟩:=l_toIntS_ret _ v2 x.knew (q2.pre H.sub) (by omega)
 refine by_hp R2 K2 ?_
 have e2:=(K2.sl 0 rfl).cell
 have H:=H.add K2
 try simp only[go_sem] at H
 try simp +contextual (disch:=omega) only[go_sem,List.append_nil,ld_ptr (H.pt 3 rfl),ld_ptr (H.pt 1 rfl)]
 obtain⟨_,es,H,_⟩:=H.st 1 rfl 1 3 (r2) (by rw[e2];rfl) (by decide) (Nat.le_of_ble_eq_true rfl)
 try simp only[go_sem,List.set_cons_zero,List.set_cons_succ,e2] at H
 try simp +contextual (disch:=omega) only[go_sem,List.append_nil,es,ld_ptr (H.pt 3 rfl),ld_ptr (H.pt 1 rfl)]
 try simp +contextual (disch:=omega) only[go_sem,List.append_nil,ld_ptr (H.pt 3 rfl),ld_ptr (H.pt 1 rfl)]
 obtain⟨_,es,H,_⟩:=H.st 1 rfl 1 4 (.int .i64 x.kind) (rfl) (by decide) (Nat.le_of_ble_eq_true rfl)
 try simp only[go_sem,List.set_cons_zero,List.set_cons_succ] at H
 try simp +contextual (disch:=omega) only[go_sem,List.append_nil,es,ld_ptr (H.pt 3 rfl),ld_ptr (H.pt 1 rfl)]
 try simp +contextual (disch:=omega) only[go_sem,List.append_nil,ld_ptr (H.pt 3 rfl),ld_ptr (H.pt 1 rfl)]
 obtain⟨_,es,H,_⟩:=H.st 1 rfl 1 5 (.str x.obj) (rfl) (by decide) (Nat.le_of_ble_eq_true rfl)
 try simp only[go_sem,List.set_cons_zero,List.set_cons_succ] at H
 try simp +contextual (disch:=omega) only[go_sem,List.append_nil,es,ld_ptr (H.pt 3 rfl),ld_ptr (H.pt 1 rfl)]
 try simp +contextual (disch:=omega) only[go_sem,List.append_nil,ld_ptr (H.pt 3 rfl),ld_ptr (H.pt 1 rfl)]
 obtain⟨_,es,H,_⟩:=H.st 1 rfl 1 6 (.str x.key) (rfl) (by decide) (Nat.le_of_ble_eq_true rfl)
 try simp only[go_sem,List.set_cons_zero,List.set_cons_succ] at H
 try simp +contextual (disch:=omega) only[go_sem,List.append_nil,es,ld_ptr (H.pt 3 rfl),ld_ptr (H.pt 1 rfl)]
 try simp +contextual (disch:=omega) only[go_sem,List.append_nil,ld_ptr (H.pt 3 rfl),ld_ptr (H.pt 1 rfl)]
 obtain⟨_,es,H,_⟩:=H.st 1 rfl 1 7 (.int .i64 x.val) (rfl) (by decide) (Nat.le_of_ble_eq_true rfl)
 try simp only[go_sem,List.set_cons_zero,List.set_cons_succ] at H
 try simp +contextual (disch:=omega) only[go_sem,List.append_nil,es,ld_ptr (H.pt 3 rfl),ld_ptr (H.pt 1 rfl)]
 refine by_ret (l_toDot_ret _ x.ref) ?_
 try simp +contextual (disch:=omega) only[go_sem,List.append_nil,ld_ptr (H.pt 3 rfl),ld_ptr (H.pt 1 rfl)]
 obtain⟨_,es,H,_⟩:=H.st 1 rfl 2 8 (.agg [.int .i64 x.ref.rep,.int .i64 x.ref.seq]) (rfl) (by decide) (Nat.le_of_ble_eq_true rfl)
 try simp only[go_sem,List.set_cons_zero,List.set_cons_succ] at H
 try simp +contextual (disch:=omega) only[go_sem,List.append_nil,es,ld_ptr (H.pt 3 rfl),ld_ptr (H.pt 1 rfl)]
 obtain⟨_,es,H,_⟩:=H.st 2 rfl 10 0 (.agg ((GV.int .i64 x.dot.rep)::(GV.int .i64 x.dot.seq)::(GV.int .i64 x.time)::r2::(GV.int .i64 x.kind)::(GV.str x.obj)::(GV.str x.key)::(GV.int .i64 x.val)::(GV.int .i64 x.ref.rep)::(GV.int .i64 x.ref.seq)::[])) (rfl) (by decide) (Nat.le_of_ble_eq_true rfl)
 try simp only[go_sem,List.set_cons_zero,List.set_cons_succ] at H
 try simp +contextual (disch:=omega) only[go_sem,List.append_nil,es,ld_ptr (H.pt 2 rfl)]
 have h0:=H.sub
 have H:=H
 try simp only[List.eraseIdx_cons_succ,List.eraseIdx_cons_zero] at H
 exact⟨_,rfl,h0,_,rfl,H.ownAct.one⟩
end Go.Proofs.YtffnefmklckngaaGreat.Sy
namespace Go.Proofs.YtffnefmklckngaaGreat.Sy
open Go Go.RowKit
set_option linter.unusedSimpArgs false
set_option linter.unusedVariables false
abbrev n_l_toCell:Nat:=130
def F_l_toCell:Fn1:=⟨25,[.c 2 true 8],(.seq (.reg [o 1 (.box (.t 0)),o 2 (.new [(.str ⟨#[]⟩),(.int .i64 0),(.int .i64 0),(.int .i64 0),(.int .i64 0),(.int .i64 0),(.int .i64 0),(.bool false)])]) (.seq (.reg [o 3 (.new [(.str ⟨#[]⟩),(.int .i64 0),(.int .i64 0),(.int .i64 0),(.int .i64 0),(.int .i64 0),(.int .i64 0),(.bool false)])]) (.seq (.reg [o 4 (.fad 0 (.t 1)),o 5 (.ld false 1 (.t 4)),o 6 (.fad 0 (.t 3)),on (.st 1 (.t 6) (.t 5))]) (.seq (.reg [o 7 (.fad 1 (.t 1)),o 8 (.ld true 2 (.t 7)),o 9 (.call 169 [(.t 8)]),o 10 (.fad 1 (.t 3)),on (.st 2 (.t 10) (.t 9))]) (.seq (.reg [o 11 (.fad 3 (.t 1)),o 12 (.ld false 1 (.t 11)),o 13 (.fad 3 (.t 3)),on (.st 1 (.t 13) (.t 12))]) (.seq (.reg [o 14 (.fad 4 (.t 1)),o 15 (.ld true 2 (.t 14)),o 16 (.call 169 [(.t 15)]),o 17 (.fad 4 (.t 3)),on (.st 2 (.t 17) (.t 16))]) (.seq (.reg [o 18 (.fad 6 (.t 1)),o 19 (.ld false 1 (.t 18)),o 20 (.fad 6 (.t 3)),on (.st 1 (.t 20) (.t 19))]) (.seq (.reg [o 21 (.fad 7 (.t 1)),o 22 (.ld false 1 (.t 21)),o 23 (.fad 7 (.t 3)),on (.st 1 (.t 23) (.t 22))]) (.seq (.reg [o 24 (.ld true 8 (.t 3)),on (.st 8 (.t 2) (.t 24))]) .ret)))))))))⟩
theorem ir_l_toCell:compFn Tryz.prog n_l_toCell=some F_l_toCell:=by kernel_rfl
theorem l_toCell_ret (σ:St) (x:Cell):Ret Tryz.prog n_l_toCell [.agg [.str x.obj,.int .i64 x.dot.rep,.int .i64 x.dot.seq,.int .i64 x.time,.int .i64 x.ref.rep,.int .i64 x.ref.seq,.int .i64 x.val,.bool x.gone]] σ (.agg [.str x.obj,.int .i64 x.dot.rep,.int .i64 x.dot.seq,.int .i64 x.time,.int .i64 x.ref.rep,.int .i64 x.ref.seq,.int .i64 x.val,.bool x.gone]) σ:=by
 refine ret_eq ir_l_toCell (Nat.le_of_ble_eq_true rfl) (by simp[vLt,cLt,sLt]) ?_
 simp +contextual (disch:=omega) only[go_sem,F_l_toCell]
 refine by_ret (l_toDot_ret _ x.dot) ?_
 simp +contextual (disch:=omega) only[go_sem,List.append_nil]
 refine by_ret (l_toDot_ret _ x.ref) ?_
 simp +contextual (disch:=omega) only[go_sem,List.append_nil]
end Go.Proofs.YtffnefmklckngaaGreat.Sy
namespace Go.Proofs.YtffnefmklckngaaGreat.Sy
open Go Go.RowKit
set_option linter.unusedSimpArgs false
set_option linter.unusedVariables false
abbrev n_l_toCellS:Nat:=76
def F_l_toCellS:Fn1:=⟨23,[.t 2],(.seq (.reg [o 2 (.mov (.k .nilS))]) (.seq (.reg [o 5 (.mov (.t 0)),o 6 (.len false (.t 5)),o 7 (.mks 8 72 [(.str ⟨#[]⟩),(.int .i64 0),(.int .i64 0),(.int .i64 0),(.int .i64 0),(.int .i64 0),(.int .i64 0),(.bool false)] (.t 6) (.t 6)),o 3 (.mov (.t 7))]) (.seq (.seq (.reg [o 4 (.mov (.k (.int .i64 0)))]) (.blk 0 (.lop (.seq (.seq (.reg [o 8 (.mov (.t 4)),o 9 (.mov (.t 0)),o 10 (.len false (.t 9)),o 11 (.bin .lss (.t 8) (.t 10))]) (.cnd (.t 11) .skip (.ext 0))) (.seq (.blk 1 (.reg [o 14 (.mov (.t 3)),o 15 (.mov (.t 4)),o 16 (.mov (.t 0)),o 17 (.mov (.t 4)),o 18 (.iad 8 (.t 16) (.t 17)),o 19 (.ld true 8 (.t 18)),o 20 (.call 130 [(.t 19)]),o 21 (.iad 8 (.t 14) (.t 15)),on (.st 8 (.t 21) (.t 20))])) (.reg [o 12 (.mov (.t 4)),o 13 (.bin .add (.t 12) (.k (.int .i64 1))),o 4 (.mov (.t 13))])))))) (.seq (.reg [o 22 (.mov (.t 3)),o 2 (.mov (.t 22))]) .ret))))⟩
theorem ir_l_toCellS:compFn Tryz.prog n_l_toCellS=some F_l_toCellS:=by kernel_rfl
theorem l_toCellS_ret (σ:St) (v:GV) (l:List Cell) (hR:RS pCell.kd σ v l) (hl:l.length≤1099511627776):∃ r τ,Ret Tryz.prog n_l_toCellS [v] σ r τ∧Hp σ τ [ow pCell.kd r l]:=by
 refine ret_hp (rs:=fun r=>[ow pCell.kd r l]) ir_l_toCellS (Nat.le_of_ble_eq_true rfl) ?_
 have hmk:∀ ze,mksG 8 72 ze σ (some l.length) (some l.length)=some (.sl σ.length 0 l.length,σ++[some (.row 8 (reps l.length ze))]):=fun ze=>mks_ok (by omega)
 simp +contextual (disch:=omega) only[go_sem,F_l_toCellS,hR.len,hmk]
 have H0:=((Hp.refl σ).new 8 (reps l.length (pCell.enc ⟨⟨#[]⟩,⟨0,0⟩,0,⟨0,0⟩,0,false⟩))).toRow 0 (p:=pCell) rfl (List.replicate l.length ⟨⟨#[]⟩,⟨0,0⟩,0,⟨0,0⟩,0,false⟩) rfl (reps_enc _ _ _) l.length (by simp)
 refine vc_for l.length 4 (fun i env τ=>env 0=v∧env 3= .sl σ.length 0 l.length∧Hp σ τ [ow pCell.kd (.sl σ.length 0 l.length) (l.take i++List.replicate (l.length - i) ⟨⟨#[]⟩,⟨0,0⟩,0,⟨0,0⟩,0,false⟩)]) rfl ⟨rfl,rfl,by rw[List.take_zero,List.nil_append,Nat.sub_zero];exact H0⟩ ?_ ?_
 ·rintro i env τ hi e4 c0 ⟨e0,e3,H⟩
  have h1:=hR.pre H.sub
  have h2:=H.sl 0 rfl
  have hj:=fill_len (z:=(⟨⟨#[]⟩,⟨0,0⟩,0,⟨0,0⟩,0,false⟩:Cell)) hi
  simp +contextual (disch:=omega) only[go_sem,e0,e3,e4,c0,hR.len,Cell_at h1 hi]
  refine by_ret (l_toCell_ret τ l[i]) ?_
  obtain⟨τ',es,H'⟩:=H.stw 0 rfl hj 8 (.agg [.str l[i].obj,.int .i64 l[i].dot.rep,.int .i64 l[i].dot.seq,.int .i64 l[i].time,.int .i64 l[i].ref.rep,.int .i64 l[i].ref.seq,.int .i64 l[i].val,.bool l[i].gone]) l[i] rfl rfl (by decide)
  rw[fill_step hi] at H'
  have es:stG 8 τ (atz 8 (.sl σ.length 0 l.length) i) (.agg [.str l[i].obj,.int .i64 l[i].dot.rep,.int .i64 l[i].dot.seq,.int .i64 l[i].time,.int .i64 l[i].ref.rep,.int .i64 l[i].ref.seq,.int .i64 l[i].val,.bool l[i].gone])=some (.tup [],τ'):=es
  simp +contextual (disch:=omega) only[go_sem,e0,e3,e4,c0,hR.len,Cell_at h1 hi,Cell_at h2 hj,es]
  exact H'
 ·rintro env τ e4 c0 ⟨e0,e3,H⟩
  rw[fill_end] at H
  simp +contextual (disch:=omega) only[go_sem,e0,e3,e4,c0,hR.len]
  exact⟨_,rfl,H⟩
end Go.Proofs.YtffnefmklckngaaGreat.Sy
namespace Go.Proofs.YtffnefmklckngaaGreat.Sy
open Go Go.RowKit
set_option linter.unusedSimpArgs false
set_option linter.unusedVariables false
abbrev n_l_toDotS:Nat:=170
def F_l_toDotS:Fn1:=⟨23,[.t 2],(.seq (.reg [o 2 (.mov (.k .nilS))]) (.seq (.reg [o 5 (.mov (.t 0)),o 6 (.len false (.t 5)),o 7 (.mks 2 16 [(.int .i64 0),(.int .i64 0)] (.t 6) (.t 6)),o 3 (.mov (.t 7))]) (.seq (.seq (.reg [o 4 (.mov (.k (.int .i64 0)))]) (.blk 0 (.lop (.seq (.seq (.reg [o 8 (.mov (.t 4)),o 9 (.mov (.t 0)),o 10 (.len false (.t 9)),o 11 (.bin .lss (.t 8) (.t 10))]) (.cnd (.t 11) .skip (.ext 0))) (.seq (.blk 1 (.reg [o 14 (.mov (.t 3)),o 15 (.mov (.t 4)),o 16 (.mov (.t 0)),o 17 (.mov (.t 4)),o 18 (.iad 2 (.t 16) (.t 17)),o 19 (.ld true 2 (.t 18)),o 20 (.call 169 [(.t 19)]),o 21 (.iad 2 (.t 14) (.t 15)),on (.st 2 (.t 21) (.t 20))])) (.reg [o 12 (.mov (.t 4)),o 13 (.bin .add (.t 12) (.k (.int .i64 1))),o 4 (.mov (.t 13))])))))) (.seq (.reg [o 22 (.mov (.t 3)),o 2 (.mov (.t 22))]) .ret))))⟩
theorem ir_l_toDotS:compFn Tryz.prog n_l_toDotS=some F_l_toDotS:=by kernel_rfl
theorem l_toDotS_ret (σ:St) (v:GV) (l:List Dot) (hR:RS pDot.kd σ v l) (hl:l.length≤1099511627776):∃ r τ,Ret Tryz.prog n_l_toDotS [v] σ r τ∧Hp σ τ [ow pDot.kd r l]:=by
 refine ret_hp (rs:=fun r=>[ow pDot.kd r l]) ir_l_toDotS (Nat.le_of_ble_eq_true rfl) ?_
 have hmk:∀ ze,mksG 2 16 ze σ (some l.length) (some l.length)=some (.sl σ.length 0 l.length,σ++[some (.row 2 (reps l.length ze))]):=fun ze=>mks_ok (by omega)
 simp +contextual (disch:=omega) only[go_sem,F_l_toDotS,hR.len,hmk]
 have H0:=((Hp.refl σ).new 2 (reps l.length (pDot.enc ⟨0,0⟩))).toRow 0 (p:=pDot) rfl (List.replicate l.length ⟨0,0⟩) rfl (reps_enc _ _ _) l.length (by simp)
 refine vc_for l.length 4 (fun i env τ=>env 0=v∧env 3= .sl σ.length 0 l.length∧Hp σ τ [ow pDot.kd (.sl σ.length 0 l.length) (l.take i++List.replicate (l.length - i) ⟨0,0⟩)]) rfl ⟨rfl,rfl,by rw[List.take_zero,List.nil_append,Nat.sub_zero];exact H0⟩ ?_ ?_
 ·rintro i env τ hi e4 c0 ⟨e0,e3,H⟩
  have h1:=hR.pre H.sub
  have h2:=H.sl 0 rfl
  have hj:=fill_len (z:=(⟨0,0⟩:Dot)) hi
  simp +contextual (disch:=omega) only[go_sem,e0,e3,e4,c0,hR.len,Dot_at h1 hi]
  refine by_ret (l_toDot_ret τ l[i]) ?_
  obtain⟨τ',es,H'⟩:=H.stw 0 rfl hj 2 (.agg [.int .i64 l[i].rep,.int .i64 l[i].seq]) l[i] rfl rfl (by decide)
  rw[fill_step hi] at H'
  have es:stG 2 τ (atz 2 (.sl σ.length 0 l.length) i) (.agg [.int .i64 l[i].rep,.int .i64 l[i].seq])=some (.tup [],τ'):=es
  simp +contextual (disch:=omega) only[go_sem,e0,e3,e4,c0,hR.len,Dot_at h1 hi,Dot_at h2 hj,es]
  exact H'
 ·rintro env τ e4 c0 ⟨e0,e3,H⟩
  rw[fill_end] at H
  simp +contextual (disch:=omega) only[go_sem,e0,e3,e4,c0,hR.len]
  exact⟨_,rfl,H⟩
end Go.Proofs.YtffnefmklckngaaGreat.Sy
namespace Go.Proofs.YtffnefmklckngaaGreat.Sy
open Go Go.RowKit
set_option linter.unusedSimpArgs false
set_option linter.unusedVariables false
abbrev n_l_toLive:Nat:=129
def F_l_toLive:Fn1:=⟨21,[.c 2 true 6],(.seq (.reg [o 1 (.box (.t 0)),o 2 (.new [(.bool false),(.str ⟨#[]⟩),(.str ⟨#[]⟩),(.int .i64 0),(.int .i64 0),(.int .i64 0)])]) (.seq (.reg [o 3 (.new [(.bool false),(.str ⟨#[]⟩),(.str ⟨#[]⟩),(.int .i64 0),(.int .i64 0),(.int .i64 0)])]) (.seq (.reg [o 4 (.fad 0 (.t 1)),o 5 (.ld false 1 (.t 4)),o 6 (.fad 0 (.t 3)),on (.st 1 (.t 6) (.t 5))]) (.seq (.reg [o 7 (.fad 1 (.t 1)),o 8 (.ld false 1 (.t 7)),o 9 (.fad 1 (.t 3)),on (.st 1 (.t 9) (.t 8))]) (.seq (.reg [o 10 (.fad 2 (.t 1)),o 11 (.ld false 1 (.t 10)),o 12 (.fad 2 (.t 3)),on (.st 1 (.t 12) (.t 11))]) (.seq (.reg [o 13 (.fad 3 (.t 1)),o 14 (.ld false 1 (.t 13)),o 15 (.fad 3 (.t 3)),on (.st 1 (.t 15) (.t 14))]) (.seq (.reg [o 16 (.fad 4 (.t 1)),o 17 (.ld true 2 (.t 16)),o 18 (.call 169 [(.t 17)]),o 19 (.fad 4 (.t 3)),on (.st 2 (.t 19) (.t 18))]) (.seq (.reg [o 20 (.ld true 6 (.t 3)),on (.st 6 (.t 2) (.t 20))]) .ret))))))))⟩
theorem ir_l_toLive:compFn Tryz.prog n_l_toLive=some F_l_toLive:=by kernel_rfl
theorem l_toLive_ret (σ:St) (x:Live):Ret Tryz.prog n_l_toLive [.agg [.bool x.map,.str x.obj,.str x.key,.int .i64 x.val,.int .i64 x.dot.rep,.int .i64 x.dot.seq]] σ (.agg [.bool x.map,.str x.obj,.str x.key,.int .i64 x.val,.int .i64 x.dot.rep,.int .i64 x.dot.seq]) σ:=by
 refine ret_eq ir_l_toLive (Nat.le_of_ble_eq_true rfl) (by simp[vLt,cLt,sLt]) ?_
 simp +contextual (disch:=omega) only[go_sem,F_l_toLive]
 refine by_ret (l_toDot_ret _ x.dot) ?_
 simp +contextual (disch:=omega) only[go_sem,List.append_nil]
end Go.Proofs.YtffnefmklckngaaGreat.Sy
namespace Go.Proofs.YtffnefmklckngaaGreat.Sy
open Go Go.RowKit
set_option linter.unusedSimpArgs false
set_option linter.unusedVariables false
abbrev n_l_toLiveS:Nat:=75
def F_l_toLiveS:Fn1:=⟨23,[.t 2],(.seq (.reg [o 2 (.mov (.k .nilS))]) (.seq (.reg [o 5 (.mov (.t 0)),o 6 (.len false (.t 5)),o 7 (.mks 6 64 [(.bool false),(.str ⟨#[]⟩),(.str ⟨#[]⟩),(.int .i64 0),(.int .i64 0),(.int .i64 0)] (.t 6) (.t 6)),o 3 (.mov (.t 7))]) (.seq (.seq (.reg [o 4 (.mov (.k (.int .i64 0)))]) (.blk 0 (.lop (.seq (.seq (.reg [o 8 (.mov (.t 4)),o 9 (.mov (.t 0)),o 10 (.len false (.t 9)),o 11 (.bin .lss (.t 8) (.t 10))]) (.cnd (.t 11) .skip (.ext 0))) (.seq (.blk 1 (.reg [o 14 (.mov (.t 3)),o 15 (.mov (.t 4)),o 16 (.mov (.t 0)),o 17 (.mov (.t 4)),o 18 (.iad 6 (.t 16) (.t 17)),o 19 (.ld true 6 (.t 18)),o 20 (.call 129 [(.t 19)]),o 21 (.iad 6 (.t 14) (.t 15)),on (.st 6 (.t 21) (.t 20))])) (.reg [o 12 (.mov (.t 4)),o 13 (.bin .add (.t 12) (.k (.int .i64 1))),o 4 (.mov (.t 13))])))))) (.seq (.reg [o 22 (.mov (.t 3)),o 2 (.mov (.t 22))]) .ret))))⟩
theorem ir_l_toLiveS:compFn Tryz.prog n_l_toLiveS=some F_l_toLiveS:=by kernel_rfl
theorem l_toLiveS_ret (σ:St) (v:GV) (l:List Live) (hR:RS pLive.kd σ v l) (hl:l.length≤1099511627776):∃ r τ,Ret Tryz.prog n_l_toLiveS [v] σ r τ∧Hp σ τ [ow pLive.kd r l]:=by
 refine ret_hp (rs:=fun r=>[ow pLive.kd r l]) ir_l_toLiveS (Nat.le_of_ble_eq_true rfl) ?_
 have hmk:∀ ze,mksG 6 64 ze σ (some l.length) (some l.length)=some (.sl σ.length 0 l.length,σ++[some (.row 6 (reps l.length ze))]):=fun ze=>mks_ok (by omega)
 simp +contextual (disch:=omega) only[go_sem,F_l_toLiveS,hR.len,hmk]
 have H0:=((Hp.refl σ).new 6 (reps l.length (pLive.enc ⟨false,⟨#[]⟩,⟨#[]⟩,0,⟨0,0⟩⟩))).toRow 0 (p:=pLive) rfl (List.replicate l.length ⟨false,⟨#[]⟩,⟨#[]⟩,0,⟨0,0⟩⟩) rfl (reps_enc _ _ _) l.length (by simp)
 refine vc_for l.length 4 (fun i env τ=>env 0=v∧env 3= .sl σ.length 0 l.length∧Hp σ τ [ow pLive.kd (.sl σ.length 0 l.length) (l.take i++List.replicate (l.length - i) ⟨false,⟨#[]⟩,⟨#[]⟩,0,⟨0,0⟩⟩)]) rfl ⟨rfl,rfl,by rw[List.take_zero,List.nil_append,Nat.sub_zero];exact H0⟩ ?_ ?_
 ·rintro i env τ hi e4 c0 ⟨e0,e3,H⟩
  have h1:=hR.pre H.sub
  have h2:=H.sl 0 rfl
  have hj:=fill_len (z:=(⟨false,⟨#[]⟩,⟨#[]⟩,0,⟨0,0⟩⟩:Live)) hi
  simp +contextual (disch:=omega) only[go_sem,e0,e3,e4,c0,hR.len,Live_at h1 hi]
  refine by_ret (l_toLive_ret τ l[i]) ?_
  obtain⟨τ',es,H'⟩:=H.stw 0 rfl hj 6 (.agg [.bool l[i].map,.str l[i].obj,.str l[i].key,.int .i64 l[i].val,.int .i64 l[i].dot.rep,.int .i64 l[i].dot.seq]) l[i] rfl rfl (by decide)
  rw[fill_step hi] at H'
  have es:stG 6 τ (atz 6 (.sl σ.length 0 l.length) i) (.agg [.bool l[i].map,.str l[i].obj,.str l[i].key,.int .i64 l[i].val,.int .i64 l[i].dot.rep,.int .i64 l[i].dot.seq])=some (.tup [],τ'):=es
  simp +contextual (disch:=omega) only[go_sem,e0,e3,e4,c0,hR.len,Live_at h1 hi,Live_at h2 hj,es]
  exact H'
 ·rintro env τ e4 c0 ⟨e0,e3,H⟩
  rw[fill_end] at H
  simp +contextual (disch:=omega) only[go_sem,e0,e3,e4,c0,hR.len]
  exact⟨_,rfl,H⟩
end Go.Proofs.YtffnefmklckngaaGreat.Sy
namespace Go.Proofs.YtffnefmklckngaaGreat.Sy
open Go Go.RowKit
set_option linter.unusedSimpArgs false
set_option linter.unusedVariables false
abbrev n_l_toTally:Nat:=128
def F_l_toTally:Fn1:=⟨14,[.c 2 true 3],(.seq (.reg [o 1 (.box (.t 0)),o 2 (.new [(.str ⟨#[]⟩),(.int .i64 0),(.int .i64 0)])]) (.seq (.reg [o 3 (.new [(.str ⟨#[]⟩),(.int .i64 0),(.int .i64 0)])]) (.seq (.reg [o 4 (.fad 0 (.t 1)),o 5 (.ld false 1 (.t 4)),o 6 (.fad 0 (.t 3)),on (.st 1 (.t 6) (.t 5))]) (.seq (.reg [o 7 (.fad 1 (.t 1)),o 8 (.ld false 1 (.t 7)),o 9 (.fad 1 (.t 3)),on (.st 1 (.t 9) (.t 8))]) (.seq (.reg [o 10 (.fad 2 (.t 1)),o 11 (.ld false 1 (.t 10)),o 12 (.fad 2 (.t 3)),on (.st 1 (.t 12) (.t 11))]) (.seq (.reg [o 13 (.ld true 3 (.t 3)),on (.st 3 (.t 2) (.t 13))]) .ret))))))⟩
theorem ir_l_toTally:compFn Tryz.prog n_l_toTally=some F_l_toTally:=by kernel_rfl
theorem l_toTally_ret (σ:St) (x:Tally):Ret Tryz.prog n_l_toTally [.agg [.str x.obj,.int .i64 x.rep,.int .i64 x.sum]] σ (.agg [.str x.obj,.int .i64 x.rep,.int .i64 x.sum]) σ:=by
 refine ret_eq ir_l_toTally (Nat.le_of_ble_eq_true rfl) (by simp[vLt,cLt,sLt]) ?_
 simp +contextual (disch:=omega) only[go_sem,F_l_toTally]
end Go.Proofs.YtffnefmklckngaaGreat.Sy
namespace Go.Proofs.YtffnefmklckngaaGreat.Sy
open Go Go.RowKit
set_option linter.unusedSimpArgs false
set_option linter.unusedVariables false
abbrev n_l_toTallyS:Nat:=74
def F_l_toTallyS:Fn1:=⟨23,[.t 2],(.seq (.reg [o 2 (.mov (.k .nilS))]) (.seq (.reg [o 5 (.mov (.t 0)),o 6 (.len false (.t 5)),o 7 (.mks 3 32 [(.str ⟨#[]⟩),(.int .i64 0),(.int .i64 0)] (.t 6) (.t 6)),o 3 (.mov (.t 7))]) (.seq (.seq (.reg [o 4 (.mov (.k (.int .i64 0)))]) (.blk 0 (.lop (.seq (.seq (.reg [o 8 (.mov (.t 4)),o 9 (.mov (.t 0)),o 10 (.len false (.t 9)),o 11 (.bin .lss (.t 8) (.t 10))]) (.cnd (.t 11) .skip (.ext 0))) (.seq (.blk 1 (.reg [o 14 (.mov (.t 3)),o 15 (.mov (.t 4)),o 16 (.mov (.t 0)),o 17 (.mov (.t 4)),o 18 (.iad 3 (.t 16) (.t 17)),o 19 (.ld true 3 (.t 18)),o 20 (.call 128 [(.t 19)]),o 21 (.iad 3 (.t 14) (.t 15)),on (.st 3 (.t 21) (.t 20))])) (.reg [o 12 (.mov (.t 4)),o 13 (.bin .add (.t 12) (.k (.int .i64 1))),o 4 (.mov (.t 13))])))))) (.seq (.reg [o 22 (.mov (.t 3)),o 2 (.mov (.t 22))]) .ret))))⟩
theorem ir_l_toTallyS:compFn Tryz.prog n_l_toTallyS=some F_l_toTallyS:=by kernel_rfl
theorem l_toTallyS_ret (σ:St) (v:GV) (l:List Tally) (hR:RS pTally.kd σ v l) (hl:l.length≤1099511627776):∃ r τ,Ret Tryz.prog n_l_toTallyS [v] σ r τ∧Hp σ τ [ow pTally.kd r l]:=by
 refine ret_hp (rs:=fun r=>[ow pTally.kd r l]) ir_l_toTallyS (Nat.le_of_ble_eq_true rfl) ?_
 have hmk:∀ ze,mksG 3 32 ze σ (some l.length) (some l.length)=some (.sl σ.length 0 l.length,σ++[some (.row 3 (reps l.length ze))]):=fun ze=>mks_ok (by omega)
 simp +contextual (disch:=omega) only[go_sem,F_l_toTallyS,hR.len,hmk]
 have H0:=((Hp.refl σ).new 3 (reps l.length (pTally.enc ⟨⟨#[]⟩,0,0⟩))).toRow 0 (p:=pTally) rfl (List.replicate l.length ⟨⟨#[]⟩,0,0⟩) rfl (reps_enc _ _ _) l.length (by simp)
 refine vc_for l.length 4 (fun i env τ=>env 0=v∧env 3= .sl σ.length 0 l.length∧Hp σ τ [ow pTally.kd (.sl σ.length 0 l.length) (l.take i++List.replicate (l.length - i) ⟨⟨#[]⟩,0,0⟩)]) rfl ⟨rfl,rfl,by rw[List.take_zero,List.nil_append,Nat.sub_zero];exact H0⟩ ?_ ?_
 ·rintro i env τ hi e4 c0 ⟨e0,e3,H⟩
  have h1:=hR.pre H.sub
  have h2:=H.sl 0 rfl
  have hj:=fill_len (z:=(⟨⟨#[]⟩,0,0⟩:Tally)) hi
  simp +contextual (disch:=omega) only[go_sem,e0,e3,e4,c0,hR.len,Tally_at h1 hi]
  refine by_ret (l_toTally_ret τ l[i]) ?_
  obtain⟨τ',es,H'⟩:=H.stw 0 rfl hj 3 (.agg [.str l[i].obj,.int .i64 l[i].rep,.int .i64 l[i].sum]) l[i] rfl rfl (by decide)
  rw[fill_step hi] at H'
  have es:stG 3 τ (atz 3 (.sl σ.length 0 l.length) i) (.agg [.str l[i].obj,.int .i64 l[i].rep,.int .i64 l[i].sum])=some (.tup [],τ'):=es
  simp +contextual (disch:=omega) only[go_sem,e0,e3,e4,c0,hR.len,Tally_at h1 hi,Tally_at h2 hj,es]
  exact H'
 ·rintro env τ e4 c0 ⟨e0,e3,H⟩
  rw[fill_end] at H
  simp +contextual (disch:=omega) only[go_sem,e0,e3,e4,c0,hR.len]
  exact⟨_,rfl,H⟩
end Go.Proofs.YtffnefmklckngaaGreat.Sy
namespace Go.Proofs.YtffnefmklckngaaGreat.Sy
open Go Go.RowKit
set_option linter.unusedSimpArgs false
set_option linter.unusedVariables false
abbrev n_l_toDelta:Nat:=108
def F_l_toDelta:Fn1:=⟨29,[.c 2 true 6],(.seq (.reg [o 1 (.box (.t 0)),o 2 (.new [.nilS,.nilS,.nilS,.nilS,.nilS,.nilS])]) (.seq (.reg [o 3 (.new [.nilS,.nilS,.nilS,.nilS,.nilS,.nilS])]) (.seq (.reg [o 4 (.fad 0 (.t 1)),o 5 (.ld false 1 (.t 4)),o 6 (.call 73 [(.t 5)]),o 7 (.fad 0 (.t 3)),on (.st 1 (.t 7) (.t 6))]) (.seq (.reg [o 8 (.fad 1 (.t 1)),o 9 (.ld false 1 (.t 8)),o 10 (.call 73 [(.t 9)]),o 11 (.fad 1 (.t 3)),on (.st 1 (.t 11) (.t 10))]) (.seq (.reg [o 12 (.fad 2 (.t 1)),o 13 (.ld false 1 (.t 12)),o 14 (.call 74 [(.t 13)]),o 15 (.fad 2 (.t 3)),on (.st 1 (.t 15) (.t 14))]) (.seq (.reg [o 16 (.fad 3 (.t 1)),o 17 (.ld false 1 (.t 16)),o 18 (.call 75 [(.t 17)]),o 19 (.fad 3 (.t 3)),on (.st 1 (.t 19) (.t 18))]) (.seq (.reg [o 20 (.fad 4 (.t 1)),o 21 (.ld false 1 (.t 20)),o 22 (.call 170 [(.t 21)]),o 23 (.fad 4 (.t 3)),on (.st 1 (.t 23) (.t 22))]) (.seq (.reg [o 24 (.fad 5 (.t 1)),o 25 (.ld false 1 (.t 24)),o 26 (.call 76 [(.t 25)]),o 27 (.fad 5 (.t 3)),on (.st 1 (.t 27) (.t 26))]) (.seq (.reg [o 28 (.ld true 6 (.t 3)),on (.st 6 (.t 2) (.t 28))]) .ret)))))))))⟩
theorem ir_l_toDelta:compFn Tryz.prog n_l_toDelta=some F_l_toDelta:=by kernel_rfl
theorem l_toDelta_ret (σ:St) (cs:List GV) (x:Delta) (hR:kDelta.R σ x cs) (hl:msDelta x≤1099511627776):∃ r τ,Ret Tryz.prog n_l_toDelta [.agg cs] σ r τ∧σ <+: τ∧∃ ds,r= .agg ds∧Hp σ τ [own kDelta ds x]:=by
 have hlen:=kDelta.len hR
 have hlen:cs.length=6:=hlen
 obtain⟨v0,v1,v2,v3,v4,v5,rfl,q0,q1,q2,q3,q4,q5⟩:=hR
 unfold msDelta at hl
 refine ret_new ir_l_toDelta (Nat.le_of_ble_eq_true rfl) ?_
 simp +contextual (disch:=omega) only[go_sem,F_l_toDelta,List.append_nil]
 have H:=(((Hp.refl σ).new 1 (v0::v1::v2::v3::v4::v5::[])).new 1 [GV.nilS,GV.nilS,GV.nilS,GV.nilS,GV.nilS,GV.nilS]).new 1 [GV.nilS,GV.nilS,GV.nilS,GV.nilS,GV.nilS,GV.nilS]
 obtain⟨r0,τ0,R0,K0⟩:=l_toIntS_ret _ v0 x.base (q0.pre H.sub) (by omega)
 refine by_hp R0 K0 ?_
 have e0:=(K0.sl 0 rfl).cell
 have H:=H.add K0
 try simp only[go_sem] at H
 try simp +contextual (disch:=omega) only[go_sem,List.append_nil,ld_ptr (H.pt 3 rfl),ld_ptr (H.pt 1 rfl)]
 obtain⟨_,es,H,_⟩:=H.st 1 rfl 1 0 (r0) (by rw[e0];rfl) (by decide) (Nat.le_of_ble_eq_true rfl)
 try simp only[go_sem,List.set_cons_zero,List.set_cons_succ,e0] at H
 try simp +contextual (disch:=omega) only[go_sem,List.append_nil,es,ld_ptr (H.pt 3 rfl),ld_ptr (H.pt 1 rfl)]
 obtain⟨r1,τ1,R1,K1⟩:=l_toIntS_ret _ v1 x.know (q1.pre H.sub) (by omega)
 refine by_hp R1 K1 ?_
 have e1:=(K1.sl 0 rfl).cell
 have H:=H.add K1
 try simp only[go_sem] at H
 try simp +contextual (disch:=omega) only[go_sem,List.append_nil,ld_ptr (H.pt 4 rfl),ld_ptr (H.pt 2 rfl)]
 obtain⟨_,es,H,_⟩:=H.st 2 rfl 1 1 (r1) (by rw[e1];rfl) (by decide) (Nat.le_of_ble_eq_true rfl)
 try simp only[go_sem,List.set_cons_zero,List.set_cons_succ,e1] at H
 try simp +contextual (disch:=omega) only[go_sem,List.append_nil,es,ld_ptr (H.pt 4 rfl),ld_ptr (H.pt 2 rfl)]
 obtain⟨r2,τ2,R2,K2⟩:=l_toTallyS_ret _ v2 x.tallies (q2.pre H.sub) (by omega)
 refine by_hp R2 K2 ?_
 have e2:=(K2.sl 0 rfl).cell
 have H:=H.add K2
 try simp only[go_sem] at H
 try simp +contextual (disch:=omega) only[go_sem,List.append_nil,ld_ptr (H.pt 5 rfl),ld_ptr (H.pt 3 rfl)]
 obtain⟨_,es,H,_⟩:=H.st 3 rfl 1 2 (r2) (by rw[e2];rfl) (by decide) (Nat.le_of_ble_eq_true rfl)
 try simp only[go_sem,List.set_cons_zero,List.set_cons_succ,e2] at H
 try simp +contextual (disch:=omega) only[go_sem,List.append_nil,es,ld_ptr (H.pt 5 rfl),ld_ptr (H.pt 3 rfl)]
 obtain⟨r3,τ3,R3,K3⟩:=l_toLiveS_ret _ v3 x.lives (q3.pre H.sub) (by omega)
 refine by_hp R3 K3 ?_
 have e3:=(K3.sl 0 rfl).cell
 have H:=H.add K3
 try simp only[go_sem] at H
 try simp +contextual (disch:=omega) only[go_sem,List.append_nil,ld_ptr (H.pt 6 rfl),ld_ptr (H.pt 4 rfl)]
 obtain⟨_,es,H,_⟩:=H.st 4 rfl 1 3 (r3) (by rw[e3];rfl) (by decide) (Nat.le_of_ble_eq_true rfl)
 try simp only[go_sem,List.set_cons_zero,List.set_cons_succ,e3] at H
 try simp +contextual (disch:=omega) only[go_sem,List.append_nil,es,ld_ptr (H.pt 6 rfl),ld_ptr (H.pt 4 rfl)]
 obtain⟨r4,τ4,R4,K4⟩:=l_toDotS_ret _ v4 x.dead (q4.pre H.sub) (by omega)
 refine by_hp R4 K4 ?_
 have e4:=(K4.sl 0 rfl).cell
 have H:=H.add K4
 try simp only[go_sem] at H
 try simp +contextual (disch:=omega) only[go_sem,List.append_nil,ld_ptr (H.pt 7 rfl),ld_ptr (H.pt 5 rfl)]
 obtain⟨_,es,H,_⟩:=H.st 5 rfl 1 4 (r4) (by rw[e4];rfl) (by decide) (Nat.le_of_ble_eq_true rfl)
 try simp only[go_sem,List.set_cons_zero,List.set_cons_succ,e4] at H
 try simp +contextual (disch:=omega) only[go_sem,List.append_nil,es,ld_ptr (H.pt 7 rfl),ld_ptr (H.pt 5 rfl)]
 obtain⟨r5,τ5,R5,K5⟩:=l_toCellS_ret _ v5 x.cells (q5.pre H.sub) (by omega)
 refine by_hp R5 K5 ?_
 have e5:=(K5.sl 0 rfl).cell
 have H:=H.add K5
 try simp only[go_sem] at H
 try simp +contextual (disch:=omega) only[go_sem,List.append_nil,ld_ptr (H.pt 8 rfl),ld_ptr (H.pt 6 rfl)]
 obtain⟨_,es,H,_⟩:=H.st 6 rfl 1 5 (r5) (by rw[e5];rfl) (by decide) (Nat.le_of_ble_eq_true rfl)
 try simp only[go_sem,List.set_cons_zero,List.set_cons_succ,e5] at H
 try simp +contextual (disch:=omega) only[go_sem,List.append_nil,es,ld_ptr (H.pt 8 rfl),ld_ptr (H.pt 6 rfl)]
 obtain⟨_,es,H,_⟩:=H.st 7 rfl 6 0 (.agg (r0::r1::r2::r3::r4::r5::[])) (rfl) (by decide) (Nat.le_of_ble_eq_true rfl)
 try simp only[go_sem,List.set_cons_zero,List.set_cons_succ] at H
 try simp +contextual (disch:=omega) only[go_sem,List.append_nil,es,ld_ptr (H.pt 7 rfl)]
 have h0:=H.sub
 have H:=(((((H.pick 1 rfl).pick 2 rfl).pick 3 rfl).pick 4 rfl).pick 5 rfl)
 try simp only[List.eraseIdx_cons_succ,List.eraseIdx_cons_zero] at H
 exact⟨_,rfl,h0,_,rfl,H.ownDelta.one⟩
end Go.Proofs.YtffnefmklckngaaGreat.Sy
namespace Go.Proofs.YtffnefmklckngaaGreat.Sy
open Go Go.RowKit
set_option linter.unusedSimpArgs false
set_option linter.unusedVariables false
abbrev n_l_toUnit:Nat:=38
def F_l_toUnit:Fn1:=⟨16,[.c 2 true 17],(.seq (.reg [o 1 (.box (.t 0)),o 2 (.new [(.bool false),(.int .i64 0),(.int .i64 0),(.int .i64 0),.nilS,(.int .i64 0),(.str ⟨#[]⟩),(.str ⟨#[]⟩),(.int .i64 0),(.int .i64 0),(.int .i64 0),.nilS,.nilS,.nilS,.nilS,.nilS,.nilS])]) (.seq (.reg [o 3 (.new [(.bool false),(.int .i64 0),(.int .i64 0),(.int .i64 0),.nilS,(.int .i64 0),(.str ⟨#[]⟩),(.str ⟨#[]⟩),(.int .i64 0),(.int .i64 0),(.int .i64 0),.nilS,.nilS,.nilS,.nilS,.nilS,.nilS])]) (.seq (.reg [o 4 (.fad 0 (.t 1)),o 5 (.ld false 1 (.t 4)),o 6 (.fad 0 (.t 3)),on (.st 1 (.t 6) (.t 5))]) (.seq (.reg [o 7 (.fad 1 (.t 1)),o 8 (.ld true 10 (.t 7)),o 9 (.call 107 [(.t 8)]),o 10 (.fad 1 (.t 3)),on (.st 10 (.t 10) (.t 9))]) (.seq (.reg [o 11 (.fad 11 (.t 1)),o 12 (.ld true 6 (.t 11)),o 13 (.call 108 [(.t 12)]),o 14 (.fad 11 (.t 3)),on (.st 6 (.t 14) (.t 13))]) (.seq (.reg [o 15 (.ld true 17 (.t 3)),on (.st 17 (.t 2) (.t 15))]) .ret))))))⟩
theorem ir_l_toUnit:compFn Tryz.prog n_l_toUnit=some F_l_toUnit:=by kernel_rfl
theorem l_toUnit_ret (σ:St) (cs:List GV) (x:Unit_) (hR:kUnit_.R σ x cs) (hl:msUnit x≤1099511627776):∃ r τ,Ret Tryz.prog n_l_toUnit [.agg cs] σ r τ∧σ <+: τ∧∃ ds,r= .agg ds∧Hp σ τ [own kUnit_ ds x]:=by
 obtain⟨v1,v2,rfl,hA,hD⟩:=hR
 have hA0:=hA
 have hD0:=hD
 obtain⟨kv,rfl,_⟩:=hA
 obtain⟨d0,d1,d2,d3,d4,d5,rfl,_⟩:=hD
 have hma:msAct x.act≤1099511627776∧msDelta x.delta≤1099511627776:=by unfold msUnit at hl;omega
 have key:∃ r τ,Ret Tryz.prog n_l_toUnit [.agg (.bool x.batch::[.int .i64 x.act.dot.rep,.int .i64 x.act.dot.seq,.int .i64 x.act.time,kv,.int .i64 x.act.kind,.str x.act.obj,.str x.act.key,.int .i64 x.act.val,.int .i64 x.act.ref.rep,.int .i64 x.act.ref.seq]++([d0,d1,d2,d3,d4,d5]++[]))] σ r τ∧∃ ds,r= .agg ds∧Hp σ τ [own kUnit_ ds x]:=by
  refine ret_x ir_l_toUnit (Nat.le_of_ble_eq_true rfl) (Hx.refl σ) ?_
  simp +contextual (disch:=omega) only[go_sem,F_l_toUnit]
  intro n1 f1 τ1 H1 n2 f2 τ2 H2 n3 f3 τ3 _ τ4 H4
  obtain⟨_,τ5,R5,_,es,rfl,K5⟩:=l_toAct_ret τ4 _ x.act (kAct.pre hA0 H4.sub) hma.1
  refine by_c H4 R5 K5 fun H5=> ?_
  obtain⟨kv',rfl,_⟩:=K5.rd 0 rfl
  simp +contextual (disch:=omega) only[go_sem]
  intro τ6 H6
  obtain⟨_,τ7,R7,_,fs,rfl,K7⟩:=l_toDelta_ret τ6 _ x.delta (kDelta.pre hD0 H6.sub) hma.2
  refine by_c H6 R7 K7 fun H7=> ?_
  obtain⟨e0,e1,e2,e3,e4,e5,rfl,_⟩:=K7.rd 0 rfl
  simp +contextual (disch:=omega) only[go_sem]
  intro τ8 _ τ9 H9
  exact⟨_,rfl,_,rfl,Hp.ownUnit_ (x:=x) (H9.sel [1,0] (by decide))⟩
 obtain⟨r,τ,R,ds,rfl,h⟩:=key
 exact⟨_,τ,R,h.sub,ds,rfl,h⟩
end Go.Proofs.YtffnefmklckngaaGreat.Sy
namespace Go.Proofs.YtffnefmklckngaaGreat.Sy
open Go Go.RowKit
set_option linter.unusedSimpArgs false
set_option linter.unusedVariables false
theorem flat_set_mem {fps:List (List Nat)} {j:Nat} {fx:List Nat} {g:Nat} (h:g∈(fps.set j fx).flatten):g∈fps.flatten∨g∈fx:=by
 obtain⟨f,hf,hg⟩:=List.mem_flatten.1 h
 rcases List.mem_or_eq_of_mem_set hf with h1|h1
 ·exact .inl (List.mem_flatten.2 ⟨f,h1,hg⟩)
 ·exact .inr (h1 ▸ hg)
theorem flat_set_nodup:∀ {fps:List (List Nat)} {j:Nat} {fx:List Nat},fps.flatten.Nodup→fx.Nodup→(∀ g∈fx,g∉fps.flatten)→(fps.set j fx).flatten.Nodup
 |[],j,fx,_,_,_=>by simp
 |f::fps,0,fx,h,hx,hd=>by
  rw[List.flatten_cons,List.nodup_append] at h
  rw[List.set_cons_zero,List.flatten_cons,List.nodup_append]
  refine⟨hx,h.2.1,fun a ha b hb e=> ?_⟩
  subst e
  exact hd a ha (by rw[List.flatten_cons];exact List.mem_append_right _ hb)
 |f::fps,j+1,fx,h,hx,hd=>by
  rw[List.flatten_cons,List.nodup_append] at h
  rw[List.set_cons_succ,List.flatten_cons,List.nodup_append]
  refine⟨h.1,flat_set_nodup h.2.1 hx fun g hg hm=>hd g hg (by rw[List.flatten_cons];exact List.mem_append_right _ hm),fun a ha b hb e=> ?_⟩
  subst e
  rcases flat_set_mem hb with h1|h1
  ·exact h.2.2 a ha a h1 rfl
  ·exact hd a h1 (by rw[List.flatten_cons];exact List.mem_append_left _ ha)
section os
variable {α:Type} {d:Kd α} {σ τ:St} {l:List α} {v:GV} {fp:List Nat}
theorem all3_len {css:List (List GV)} {fps:List (List Nat)} (h:All3 (d.O τ) l css fps):∀ c∈css,c.length=d.z:=by
 induction h with
 |nil=>simp
 |cons h _ ih=>
  intro c hc
  rcases List.mem_cons.1 hc with rfl|hc
  ·exact d.len (d.rd h)
  ·exact ih c hc
theorem OS.setc {x:α} {cs:List GV} {fx:List Nat} (h:OS d τ l v fp) (hx:d.O τ x cs fx) (hn:(fp++fx).Nodup) (hlt:∀ g∈fp++fx,g<τ.length) (hz:0<d.z) {j:Nat} (hj:j<l.length):
  ∃ τ' fp',stG d.z τ (atz d.z v j) (.agg cs)=some (.tup [],τ')∧OS d τ' (l.set j x) v fp'∧Turn τ τ' (fp++fx) fp':=by
 have hcl:=d.len (d.rd hx)
 rcases h with⟨rfl,rfl,rfl⟩|⟨g,pre,css,post,fps,rfl,hB,hA,rfl⟩
 ·simp at hj
 ·rw[List.cons_append,List.nodup_cons] at hn
  obtain⟨hg,hn⟩:=hn
  rw[List.nodup_append] at hn
  have hgt:g<τ.length:=hlt g (by simp)
  have hfl:=flat_len hA
  obtain⟨c,f,hc,_,_⟩:=hA.get (j:=j) (a:=l[j]) (by simp[hj])
  have hcz:=all3_len hA c (List.mem_of_getElem? hc)
  have hm:(j+1)*d.z≤l.length*d.z:=Nat.mul_le_mul_right _ hj
  rw[Nat.add_mul,Nat.one_mul] at hm
  have e1:splice css.flatten (j*d.z+0) cs=(css.set j cs).flatten:=by
   rw[flatten_set (all3_len hA) hc (by omega)]
   congr 2
   unfold splice
   rw[List.take_zero,List.nil_append,List.drop_eq_nil_of_le (by omega),List.append_nil]
  have e2:splice (pre++css.flatten++post) (pre.length+(j*d.z+0)) cs=pre++(css.set j cs).flatten++post:=by
   rw[splice_mid (by omega),e1]
  have keep:∀ g',g'≠g→bk (τ.set g (some (.row d.z (pre++(css.set j cs).flatten++post)))) g'=bk τ g':=fun g' hne=>bk_set_ne (Ne.symm hne)
  refine⟨τ.set g (some (.row d.z (pre++(css.set j cs).flatten++post))),g::(fps.set j fx).flatten,?_,.inr ⟨g,pre,css.set j cs,post,fps.set j fx,by simp,bk_some.2 (by rw[List.getElem?_set_self hgt]),?_,rfl⟩,⟨?_,?_,by simp,?_⟩⟩
  ·simp only[atz,stG,bk_some.1 hB]
   rw[if_pos ⟨by simp only[List.length_append];omega,hz,hcl⟩]
   rw[Nat.add_zero] at e2
   rw[show (GV.agg cs).cells=cs from rfl,e2]
  ·refine(hA.set j hx).imp fun a b c hc ho=>d.loc ho fun g' hg'=>keep g' fun e=> ?_
   subst e
   rcases flat_set_mem (List.mem_flatten.2 ⟨c,hc,hg'⟩) with h1|h1
   ·exact hg (List.mem_append_left _ h1)
   ·exact hg (List.mem_append_right _ h1)
  ·rw[List.nodup_cons]
   refine⟨fun h1=> ?_,flat_set_nodup hn.1 hn.2.1 fun g' h1 h2=>hn.2.2 g' h2 g' h1 rfl⟩
   rcases flat_set_mem h1 with h1|h1
   ·exact hg (List.mem_append_left _ h1)
   ·exact hg (List.mem_append_right _ h1)
  ·intro g' hg'
   refine .inl ?_
   rcases List.mem_cons.1 hg' with rfl|h1
   ·simp
   ·rcases flat_set_mem h1 with h1|h1
    ·simp only[List.cons_append,List.mem_cons,List.mem_append];exact .inr (.inl h1)
    ·simp only[List.cons_append,List.mem_cons,List.mem_append];exact .inr (.inr h1)
  ·intro g' hg' hne
   exact keep g' fun e=>hne (by rw[e];simp)
theorem OS.fresh {x0:α} {ze:List GV} {n len:Nat} (h0:∀ τ,d.O τ x0 ze []) (hB:bk τ n=some (.row d.z (reps len ze))):OS d τ (List.replicate len x0) (.sl n 0 len) [n]:=by
 refine .inr ⟨n,[],List.replicate len ze,[],List.replicate len [],by simp,by rw[hB];simp[reps],?_,?_⟩
 ·clear hB
  induction len with
  |zero=>exact .nil
  |succ k ih=>exact .cons (h0 τ) ih
 ·simp
end os
section rules
variable {P:Program} {D:Bool} {σ τ:St} {h:List Item} {k:Kx} {v:GV} {α:Type} {l:List α} {d:Kd α}
theorem Hx.mk {x0:α} {ze:List GV} {n len z:Nat} (H:Hx σ τ (.box z n (reps len ze)::h)) (d:Kd α) (hz:z=d.z) (h0:∀ τ,d.O τ x0 ze []):Hx σ τ (.th (ow d (.sl n 0 len) (List.replicate len x0))::h):=
 H.hp.conv fun fp hp=>by
  obtain⟨rfl,hB⟩:=hp
  exact OS.fresh h0 (hz ▸ hB)
theorem by_setc {x:α} {cs:List GV} (H:Hx σ τ h) (m i:Nat) (hm:h[m]? =some (.th (own d cs x))) (hi:(h.eraseIdx m)[i]? =some (.th (ow d v l))) (hz:0<d.z) {j:Nat} (hj:j<l.length)
  (kk:∀ τ',Hx σ τ' ((h.eraseIdx m).set i (.th (ow d v (l.set j x))))→k (.tup []) ((h.eraseIdx m).set i (.th (ow d v (l.set j x)))) τ'):stX σ false h τ d.z k (atz d.z v j) (.agg cs):=by
 have H1:=H.hp.pick m (at_t hm)
 rw[map_era] at H1
 have hp:(own d cs x::(h.eraseIdx m).map Item.t).Perm (ow d v l::own d cs x::((h.eraseIdx m).map Item.t).eraseIdx i):=((Hp.pick_perm (at_t hi)).cons _).trans (List.Perm.swap _ _ _)
 obtain⟨a,⟨a1,a2,h1,h2,rfl⟩,hn,hbd,ht⟩:=(H1.perm hp).join.turn
 obtain⟨τ',fp',e,ho,hT⟩:=OS.setc h1 h2 hn (fun g hg=>(hbd g hg).2) hz hj
 have H':=Hp.unpick (ht (r':=ow d v (l.set j x)) hT ho) (List.getElem?_eq_some_iff.1 (at_t hi)).1
 rw[← set_t] at H'
 have g:genX σ false τ (stG d.z τ (atz d.z v j) (.agg cs)) k:=⟨_,τ',_,e,(fun h=>by cases h),H',kk τ' H'⟩
 rcases h1 with⟨rfl,_⟩|⟨gb,pre,css,post,fps,rfl,hB,hA,rfl⟩
 ·simp at hj
 ·have hno:look h gb=none:=by
   obtain⟨i0,hi0⟩:∃ i0:Nat,h[i0]? =some (.th (ow d (.sl gb pre.length l.length) l)):=by
    have:=List.mem_of_getElem? hi
    have:=List.mem_of_mem_eraseIdx this
    obtain⟨i0,h1,h2⟩:=List.getElem_of_mem this
    exact⟨i0,by rw[List.getElem?_eq_getElem h1,h2]⟩
   refine no_box H hi0 fun fp'' ho'=> ?_
   rcases ho' with⟨rfl,_⟩|⟨g',pre',css',post',fps',e',_,_,rfl⟩
   ·simp at hj
   ·injection e' with e1;rw[e1];exact List.mem_cons_self
  show stB σ false h τ d.z k gb _ (.agg cs) (look h gb)
  rw[hno]
  exact g
end rules
end Go.Proofs.YtffnefmklckngaaGreat.Sy
namespace Go.Proofs.YtffnefmklckngaaGreat.Sy
open Go Go.RowKit
set_option linter.unusedSimpArgs false
set_option linter.unusedVariables false
abbrev n_l_toUnitS:Nat:=10
def F_l_toUnitS:Fn1:=⟨23,[.t 2],(.seq (.reg [o 2 (.mov (.k .nilS))]) (.seq (.reg [o 5 (.mov (.t 0)),o 6 (.len false (.t 5)),o 7 (.mks 17 264 [(.bool false),(.int .i64 0),(.int .i64 0),(.int .i64 0),.nilS,(.int .i64 0),(.str ⟨#[]⟩),(.str ⟨#[]⟩),(.int .i64 0),(.int .i64 0),(.int .i64 0),.nilS,.nilS,.nilS,.nilS,.nilS,.nilS] (.t 6) (.t 6)),o 3 (.mov (.t 7))]) (.seq (.seq (.reg [o 4 (.mov (.k (.int .i64 0)))]) (.blk 0 (.lop (.seq (.seq (.reg [o 8 (.mov (.t 4)),o 9 (.mov (.t 0)),o 10 (.len false (.t 9)),o 11 (.bin .lss (.t 8) (.t 10))]) (.cnd (.t 11) .skip (.ext 0))) (.seq (.blk 1 (.reg [o 14 (.mov (.t 3)),o 15 (.mov (.t 4)),o 16 (.mov (.t 0)),o 17 (.mov (.t 4)),o 18 (.iad 17 (.t 16) (.t 17)),o 19 (.ld true 17 (.t 18)),o 20 (.call 38 [(.t 19)]),o 21 (.iad 17 (.t 14) (.t 15)),on (.st 17 (.t 21) (.t 20))])) (.reg [o 12 (.mov (.t 4)),o 13 (.bin .add (.t 12) (.k (.int .i64 1))),o 4 (.mov (.t 13))])))))) (.seq (.reg [o 22 (.mov (.t 3)),o 2 (.mov (.t 22))]) .ret))))⟩
theorem ir_l_toUnitS:compFn Tryz.prog n_l_toUnitS=some F_l_toUnitS:=by kernel_rfl
def act00:Act:=⟨⟨0,0⟩,0,[],0,⟨#[]⟩,⟨#[]⟩,0,⟨0,0⟩⟩
def unit0:Unit_:=⟨false,act00,⟨[],[],[],[],[],[]⟩⟩
abbrev zeA:List GV:=[gi 0,gi 0,gi 0,.nilS,gi 0,.str ⟨#[]⟩,.str ⟨#[]⟩,gi 0,gi 0,gi 0]
abbrev zeD:List GV:=[.nilS,.nilS,.nilS,.nilS,.nilS,.nilS]
theorem act0_own (τ:St):kAct.O τ act00 zeA []:=⟨.nilS,[],rfl,.inl ⟨rfl,rfl,rfl⟩,rfl⟩
theorem delta0_own (τ:St):kDelta.O τ ⟨[],[],[],[],[],[]⟩ zeD []:=⟨.nilS,.nilS,.nilS,.nilS,.nilS,.nilS,[],[],[],[],[],[],rfl,.inl ⟨rfl,rfl,rfl⟩,.inl ⟨rfl,rfl,rfl⟩,.inl ⟨rfl,rfl,rfl⟩,.inl ⟨rfl,rfl,rfl⟩,.inl ⟨rfl,rfl,rfl⟩,.inl ⟨rfl,rfl,rfl⟩,rfl⟩
theorem unit0_own (τ:St):kUnit_.O τ unit0 (.bool false::zeA++(zeD++[])) []:=⟨zeA,zeD,[],[],rfl,act0_own τ,delta0_own τ,rfl⟩
theorem unit_at' {σ:St} {v:GV} {l:List Unit_} (h:RS kUnit_ σ v l) {i:Nat} (hi:i<l.length):∃ cs,(iadG 17 v (some i)=some (atz 17 v i)∧ldG true 17 σ (atz 17 v i)=some (.agg cs))∧kUnit_.R σ l[i] cs:=by
 obtain⟨cs,⟨h1,_,_,h4,_⟩,h5⟩:=RdN.cellsN h hi
 exact⟨cs,⟨h1,h4⟩,h5⟩
theorem set_stepU {α:Type} {l:List α} {x0:α} {i:Nat} (hi:i<l.length):(l.take i++List.replicate (l.length - i) x0).set i l[i]=l.take (i+1)++List.replicate (l.length - (i+1)) x0:=by
 have e:List.replicate (l.length - i) x0=x0::List.replicate (l.length - (i+1)) x0:=by
  rw[show l.length - i=(l.length - (i+1))+1 by omega,List.replicate_succ]
 rw[e,take_snoc hi,List.append_assoc,List.set_append_right _ _ (by rw[List.length_take];omega)]
 congr 1
 rw[List.length_take,Nat.min_eq_left (by omega),Nat.sub_self]
 rfl
theorem l_toUnitS_ret (σ:St) (v:GV) (l:List Unit_) (hR:RS kUnit_ σ v l) (hl:l.length+sumL msUnit l≤1073741824):∃ r τ,Ret Tryz.prog n_l_toUnitS [v] σ r τ∧Hp σ τ [ow kUnit_ r l]:=by
 refine ret_x ir_l_toUnitS (Nat.le_of_ble_eq_true rfl) (Hx.refl σ) ?_
 simp +contextual (disch:=omega) only[go_sem,F_l_toUnitS,hR.len,natOf_nat]
 refine⟨by omega,?_⟩
 intro n f τ H
 have H1:=H.mk kUnit_ rfl unit0_own
 refine sx_for l.length 4 0 (fun i env h=>env 0=v∧env 3= .sl n 0 l.length∧h=[.th (ow kUnit_ (.sl n 0 l.length) (l.take i++List.replicate (l.length - i) unit0))]) (fun env h=>env 3= .sl n 0 l.length∧h=[.th (ow kUnit_ (.sl n 0 l.length) l)]) (fun env h=>False) _ H1 (by simp +contextual (disch:=omega) only[go_sem]) ⟨by simp +contextual (disch:=omega) only[go_sem],by simp +contextual (disch:=omega) only[go_sem],by simp⟩ ?_ ?_ ?_ (fun _ _ _ _ h=>h.elim)
 ·clear H H1
  rintro J Y W hJ hY hW i env h' τ hi ei c0 H ⟨e0,e3,rfl⟩
  obtain⟨cs,U1,hU⟩:=unit_at' hR hi
  have hmu:msUnit l[i]≤sumL msUnit l:=sumL_mem (f:=msUnit) (List.getElem_mem hi)
  have i3:iadG 17 (.sl n 0 l.length) (some i)=some (atz 17 (.sl n 0 l.length) i):=by simp[iadG,hi,atz]
  simp +contextual (disch:=omega) only[go_sem,c0,e0,e3,ei,natOf_nat,hR.len,U1]
  obtain⟨_,τ2,R2,_,ds,rfl,K2⟩:=l_toUnit_ret τ cs l[i] (kUnit_.pre hU H.sub) (by omega)
  refine by_c H R2 K2 fun H2=> ?_
  simp +contextual (disch:=omega) only[go_sem,i3,natOf_nat]
  refine by_setc (d:=kUnit_) H2 0 0 rfl rfl (by decide) (by rw[List.length_append,List.length_take,List.length_replicate];omega) fun τ3 H3=> ?_
  simp +contextual (disch:=omega) only[go_sem,ei]
  exact hJ _ _ _ _ H3 ⟨by simp +contextual (disch:=omega) only[go_sem,e0],by simp +contextual (disch:=omega) only[go_sem,e3],by rw[set_stepU hi];rfl⟩
 ·clear H H1
  rintro Y hY env h' τ ei c0 H ⟨e0,e3,rfl⟩
  simp +contextual (disch:=omega) only[go_sem,c0,e0,ei,hR.len]
  exact hY _ _ _ H ⟨e3,by simp⟩
 ·clear H H1
  rintro env h' τ H ⟨e3,rfl⟩
  simp +contextual (disch:=omega) only[go_sem,e3]
  exact fun _=>⟨_,rfl,H.hp⟩
end Go.Proofs.YtffnefmklckngaaGreat.Sy
namespace Go.Proofs.YtffnefmklckngaaGreat.Sy
open Go Go.RowKit
set_option linter.unusedSimpArgs false
set_option linter.unusedVariables false
abbrev n_l_eqDot:Nat:=114
def F_l_eqDot:Fn1:=⟨15,[.t 4],(.seq (.reg [o 2 (.box (.t 0)),o 3 (.box (.t 1)),o 4 (.mov (.k (.bool false)))]) (.seq (.seq (.reg [o 5 (.fad 0 (.t 2)),o 6 (.ld false 1 (.t 5)),o 7 (.fad 0 (.t 3)),o 8 (.ld false 1 (.t 7)),o 9 (.bin .neq (.t 6) (.t 8))]) (.cnd (.t 9) (.seq (.reg [o 4 (.mov (.k (.bool false)))]) .ret) .skip)) (.seq (.seq (.reg [o 10 (.fad 1 (.t 2)),o 11 (.ld false 1 (.t 10)),o 12 (.fad 1 (.t 3)),o 13 (.ld false 1 (.t 12)),o 14 (.bin .neq (.t 11) (.t 13))]) (.cnd (.t 14) (.seq (.reg [o 4 (.mov (.k (.bool false)))]) .ret) .skip)) (.seq (.reg [o 4 (.mov (.k (.bool true)))]) .ret))))⟩
theorem ir_l_eqDot:compFn Tryz.prog n_l_eqDot=some F_l_eqDot:=by kernel_rfl
theorem l_eqDot_ret (σ:St) (x y:Dot):Ret Tryz.prog n_l_eqDot [.agg [.int .i64 x.rep,.int .i64 x.seq],.agg [.int .i64 y.rep,.int .i64 y.seq]] σ (.bool (decide (x=y))) σ:=by
 refine ret_eq ir_l_eqDot (Nat.le_of_ble_eq_true rfl) trivial ?_
 simp +contextual (disch:=omega) only[go_sem,F_l_eqDot,List.append_nil]
 refine⟨fun hn=> ?_,fun hn=> ?_⟩
 ·simp only[Dot.eq_iff];simp at hn ⊢;simp[hn]
 have q0:x.rep=y.rep:=by simpa using hn
 refine⟨fun hn=> ?_,fun hn=> ?_⟩
 ·simp only[Dot.eq_iff];simp at hn ⊢;simp[hn]
 have q1:x.seq=y.seq:=by simpa using hn
 simp only[Dot.eq_iff,q0,q1,and_self,decide_true]
end Go.Proofs.YtffnefmklckngaaGreat.Sy
namespace Go.Proofs.YtffnefmklckngaaGreat.Sy
open Go Go.RowKit
set_option linter.unusedSimpArgs false
set_option linter.unusedVariables false
abbrev n_l_eqIntS:Nat:=84
def F_l_eqIntS:Fn1:=⟨26,[.t 4],(.seq (.reg [o 4 (.mov (.k (.bool false)))]) (.seq (.seq (.reg [o 6 (.mov (.t 0)),o 7 (.len false (.t 6)),o 8 (.mov (.t 1)),o 9 (.len false (.t 8)),o 10 (.bin .neq (.t 7) (.t 9))]) (.cnd (.t 10) (.seq (.reg [o 4 (.mov (.k (.bool false)))]) .ret) .skip)) (.seq (.seq (.reg [o 5 (.mov (.k (.int .i64 0)))]) (.blk 0 (.lop (.seq (.seq (.reg [o 11 (.mov (.t 5)),o 12 (.mov (.t 0)),o 13 (.len false (.t 12)),o 14 (.bin .lss (.t 11) (.t 13))]) (.cnd (.t 14) .skip (.ext 0))) (.seq (.blk 1 (.seq (.drw [o 17 (.mov (.t 0)),o 18 (.mov (.t 5)),o 19 (.iad 1 (.t 17) (.t 18)),o 20 (.ld false 1 (.t 19)),o 21 (.mov (.t 1)),o 22 (.mov (.t 5)),o 23 (.iad 1 (.t 21) (.t 22)),o 24 (.ld false 1 (.t 23))] [o 25 (.bin .neq (.t 20) (.t 24))]) (.cnd (.t 25) (.seq (.reg [o 4 (.mov (.k (.bool false)))]) .ret) .skip))) (.reg [o 15 (.mov (.t 5)),o 16 (.bin .add (.t 15) (.k (.int .i64 1))),o 5 (.mov (.t 16))])))))) (.seq (.reg [o 4 (.mov (.k (.bool true)))]) .ret))))⟩
theorem ir_l_eqIntS:compFn Tryz.prog n_l_eqIntS=some F_l_eqIntS:=by kernel_rfl
theorem l_eqIntS_ret (σ:St) (v u:GV) (l m:List Int) (hv:RS pI.kd σ v l) (hu:RS pI.kd σ u m) (hl:l.length≤1099511627776):Ret Tryz.prog n_l_eqIntS [v,u] σ (.bool (decide (l=m))) σ:=by
 refine ret_eq ir_l_eqIntS (Nat.le_of_ble_eq_true rfl) trivial ?_
 simp +contextual (disch:=omega) only[go_sem,F_l_eqIntS,hv.len,hu.len]
 refine⟨fun hn=> ?_,fun hn=> ?_⟩
 ·have:l≠m:=fun h=>by subst h;simp at hn
  simp[this]
 have hlm:l.length=m.length:=by
                    have h2:(l.length:Int)=m.length:=by simpa using hn
                    omega
 refine vc_for l.length 5 (fun i env τ=>env 0=v∧env 1=u∧l.take i=m.take i∧σ <+: τ) rfl ⟨rfl,rfl,rfl,List.prefix_refl _⟩ ?_ ?_
 ·rintro i env τ hi e5 c0 ⟨e0,e1,he,hp⟩
  have hj:i<m.length:=by omega
  have h1:=hv.pre hp
  have h2:=hu.pre hp
  have hne:l[i]≠m[i]→l≠m:=fun h h'=>h (by subst h';rfl)
  have hst:l[i]=m[i]→l.take (i+1)=m.take (i+1):=fun h=>by rw[take_snoc hi,take_snoc hj,he,h]
  simp +contextual (disch:=omega) only[go_sem,c0,e0,e1,e5,hv.len,hu.len,int_at h1 hi,int_at h2 hj,hp]
  refine⟨fun h=> ?_,fun h=> ?_⟩
  ·simp[hne (by simpa using h)]
  ·simpa using hst (by simpa using h)
 ·rintro env τ e5 c0 ⟨e0,e1,he,hp⟩
  rw[List.take_length,hlm,List.take_length] at he
  simp +contextual (disch:=omega) only[go_sem,c0,e0,e1,e5,hv.len,hu.len,hp]
  simp[he]
end Go.Proofs.YtffnefmklckngaaGreat.Sy
namespace Go.Proofs.YtffnefmklckngaaGreat.Sy
open Go Go.RowKit
set_option linter.unusedSimpArgs false
set_option linter.unusedVariables false
abbrev n_l_eqAct:Nat:=41
def F_l_eqAct:Fn1:=⟨48,[.t 4],(.seq (.reg [o 2 (.box (.t 0)),o 3 (.box (.t 1)),o 4 (.mov (.k (.bool false)))]) (.seq (.seq (.reg [o 5 (.fad 0 (.t 2)),o 6 (.ld true 2 (.t 5)),o 7 (.fad 0 (.t 3)),o 8 (.ld true 2 (.t 7)),o 9 (.call 114 [(.t 6),(.t 8)]),o 10 (.un .not (.t 9))]) (.cnd (.t 10) (.seq (.reg [o 4 (.mov (.k (.bool false)))]) .ret) .skip)) (.seq (.seq (.reg [o 11 (.fad 2 (.t 2)),o 12 (.ld false 1 (.t 11)),o 13 (.fad 2 (.t 3)),o 14 (.ld false 1 (.t 13)),o 15 (.bin .neq (.t 12) (.t 14))]) (.cnd (.t 15) (.seq (.reg [o 4 (.mov (.k (.bool false)))]) .ret) .skip)) (.seq (.seq (.reg [o 16 (.fad 3 (.t 2)),o 17 (.ld false 1 (.t 16)),o 18 (.fad 3 (.t 3)),o 19 (.ld false 1 (.t 18)),o 20 (.call 84 [(.t 17),(.t 19)]),o 21 (.un .not (.t 20))]) (.cnd (.t 21) (.seq (.reg [o 4 (.mov (.k (.bool false)))]) .ret) .skip)) (.seq (.seq (.reg [o 22 (.fad 4 (.t 2)),o 23 (.ld false 1 (.t 22)),o 24 (.fad 4 (.t 3)),o 25 (.ld false 1 (.t 24)),o 26 (.bin .neq (.t 23) (.t 25))]) (.cnd (.t 26) (.seq (.reg [o 4 (.mov (.k (.bool false)))]) .ret) .skip)) (.seq (.seq (.reg [o 27 (.fad 5 (.t 2)),o 28 (.ld false 1 (.t 27)),o 29 (.fad 5 (.t 3)),o 30 (.ld false 1 (.t 29)),o 31 (.bin .neq (.t 28) (.t 30))]) (.cnd (.t 31) (.seq (.reg [o 4 (.mov (.k (.bool false)))]) .ret) .skip)) (.seq (.seq (.reg [o 32 (.fad 6 (.t 2)),o 33 (.ld false 1 (.t 32)),o 34 (.fad 6 (.t 3)),o 35 (.ld false 1 (.t 34)),o 36 (.bin .neq (.t 33) (.t 35))]) (.cnd (.t 36) (.seq (.reg [o 4 (.mov (.k (.bool false)))]) .ret) .skip)) (.seq (.seq (.reg [o 37 (.fad 7 (.t 2)),o 38 (.ld false 1 (.t 37)),o 39 (.fad 7 (.t 3)),o 40 (.ld false 1 (.t 39)),o 41 (.bin .neq (.t 38) (.t 40))]) (.cnd (.t 41) (.seq (.reg [o 4 (.mov (.k (.bool false)))]) .ret) .skip)) (.seq (.seq (.reg [o 42 (.fad 8 (.t 2)),o 43 (.ld true 2 (.t 42)),o 44 (.fad 8 (.t 3)),o 45 (.ld true 2 (.t 44)),o 46 (.call 114 [(.t 43),(.t 45)]),o 47 (.un .not (.t 46))]) (.cnd (.t 47) (.seq (.reg [o 4 (.mov (.k (.bool false)))]) .ret) .skip)) (.seq (.reg [o 4 (.mov (.k (.bool true)))]) .ret))))))))))⟩
theorem ir_l_eqAct:compFn Tryz.prog n_l_eqAct=some F_l_eqAct:=by kernel_rfl
theorem l_eqAct_ret (σ:St) (cs ds:List GV) (x y:Act) (hx:kAct.R σ x cs) (hy:kAct.R σ y ds) (hl:msAct x≤1099511627776):Ret Tryz.prog n_l_eqAct [.agg cs,.agg ds] σ (.bool (decide (x=y))) σ:=by
 obtain⟨v2,rfl,q2_⟩:=hx
 obtain⟨u2,rfl,p2_⟩:=hy
 unfold msAct at hl
 refine ret_eq ir_l_eqAct (Nat.le_of_ble_eq_true rfl) trivial ?_
 simp +contextual (disch:=omega) only[go_sem,F_l_eqAct,List.append_nil]
 refine by_ret (l_eqDot_ret _ x.dot y.dot) ?_
 simp +contextual (disch:=omega) only[go_sem,List.append_nil]
 refine⟨fun hn=> ?_,fun hn=> ?_⟩
 ·simp only[Act.eq_iff];simp at hn ⊢;simp[hn]
 have q0:x.dot=y.dot:=by simpa using hn
 refine⟨fun hn=> ?_,fun hn=> ?_⟩
 ·simp only[Act.eq_iff];simp at hn ⊢;simp[hn]
 have q1:x.time=y.time:=by simpa using hn
 refine by_ret (l_eqIntS_ret _ v2 u2 x.knew y.knew (q2_.pre pre2) (p2_.pre pre2) (by omega)) ?_
 simp +contextual (disch:=omega) only[go_sem,List.append_nil]
 refine⟨fun hn=> ?_,fun hn=> ?_⟩
 ·simp only[Act.eq_iff];simp at hn ⊢;simp[hn]
 have q2:x.knew=y.knew:=by simpa using hn
 refine⟨fun hn=> ?_,fun hn=> ?_⟩
 ·simp only[Act.eq_iff];simp at hn ⊢;simp[hn]
 have q3:x.kind=y.kind:=by simpa using hn
 refine⟨fun hn=> ?_,fun hn=> ?_⟩
 ·simp only[Act.eq_iff];simp at hn ⊢;simp[hn]
 have q4:x.obj=y.obj:=by simpa using hn
 refine⟨fun hn=> ?_,fun hn=> ?_⟩
 ·simp only[Act.eq_iff];simp at hn ⊢;simp[hn]
 have q5:x.key=y.key:=by simpa using hn
 refine⟨fun hn=> ?_,fun hn=> ?_⟩
 ·simp only[Act.eq_iff];simp at hn ⊢;simp[hn]
 have q6:x.val=y.val:=by simpa using hn
 refine by_ret (l_eqDot_ret _ x.ref y.ref) ?_
 simp +contextual (disch:=omega) only[go_sem,List.append_nil]
 refine⟨fun hn=> ?_,fun hn=> ?_⟩
 ·simp only[Act.eq_iff];simp at hn ⊢;simp[hn]
 have q7:x.ref=y.ref:=by simpa using hn
 simp only[Act.eq_iff,q0,q1,q2,q3,q4,q5,q6,q7,and_self,decide_true]
end Go.Proofs.YtffnefmklckngaaGreat.Sy
namespace Go.Proofs.YtffnefmklckngaaGreat.Sy
open Go Go.RowKit
set_option linter.unusedSimpArgs false
set_option linter.unusedVariables false
abbrev n_l_eqCell:Nat:=137
def F_l_eqCell:Fn1:=⟨37,[.t 4],(.seq (.reg [o 2 (.box (.t 0)),o 3 (.box (.t 1)),o 4 (.mov (.k (.bool false)))]) (.seq (.seq (.reg [o 5 (.fad 0 (.t 2)),o 6 (.ld false 1 (.t 5)),o 7 (.fad 0 (.t 3)),o 8 (.ld false 1 (.t 7)),o 9 (.bin .neq (.t 6) (.t 8))]) (.cnd (.t 9) (.seq (.reg [o 4 (.mov (.k (.bool false)))]) .ret) .skip)) (.seq (.seq (.reg [o 10 (.fad 1 (.t 2)),o 11 (.ld true 2 (.t 10)),o 12 (.fad 1 (.t 3)),o 13 (.ld true 2 (.t 12)),o 14 (.call 114 [(.t 11),(.t 13)]),o 15 (.un .not (.t 14))]) (.cnd (.t 15) (.seq (.reg [o 4 (.mov (.k (.bool false)))]) .ret) .skip)) (.seq (.seq (.reg [o 16 (.fad 3 (.t 2)),o 17 (.ld false 1 (.t 16)),o 18 (.fad 3 (.t 3)),o 19 (.ld false 1 (.t 18)),o 20 (.bin .neq (.t 17) (.t 19))]) (.cnd (.t 20) (.seq (.reg [o 4 (.mov (.k (.bool false)))]) .ret) .skip)) (.seq (.seq (.reg [o 21 (.fad 4 (.t 2)),o 22 (.ld true 2 (.t 21)),o 23 (.fad 4 (.t 3)),o 24 (.ld true 2 (.t 23)),o 25 (.call 114 [(.t 22),(.t 24)]),o 26 (.un .not (.t 25))]) (.cnd (.t 26) (.seq (.reg [o 4 (.mov (.k (.bool false)))]) .ret) .skip)) (.seq (.seq (.reg [o 27 (.fad 6 (.t 2)),o 28 (.ld false 1 (.t 27)),o 29 (.fad 6 (.t 3)),o 30 (.ld false 1 (.t 29)),o 31 (.bin .neq (.t 28) (.t 30))]) (.cnd (.t 31) (.seq (.reg [o 4 (.mov (.k (.bool false)))]) .ret) .skip)) (.seq (.seq (.reg [o 32 (.fad 7 (.t 2)),o 33 (.ld false 1 (.t 32)),o 34 (.fad 7 (.t 3)),o 35 (.ld false 1 (.t 34)),o 36 (.eqb true (.t 33) (.t 35))]) (.cnd (.t 36) (.seq (.reg [o 4 (.mov (.k (.bool false)))]) .ret) .skip)) (.seq (.reg [o 4 (.mov (.k (.bool true)))]) .ret))))))))⟩
theorem ir_l_eqCell:compFn Tryz.prog n_l_eqCell=some F_l_eqCell:=by kernel_rfl
theorem l_eqCell_ret (σ:St) (x y:Cell):Ret Tryz.prog n_l_eqCell [.agg [.str x.obj,.int .i64 x.dot.rep,.int .i64 x.dot.seq,.int .i64 x.time,.int .i64 x.ref.rep,.int .i64 x.ref.seq,.int .i64 x.val,.bool x.gone],.agg [.str y.obj,.int .i64 y.dot.rep,.int .i64 y.dot.seq,.int .i64 y.time,.int .i64 y.ref.rep,.int .i64 y.ref.seq,.int .i64 y.val,.bool y.gone]] σ (.bool (decide (x=y))) σ:=by
 refine ret_eq ir_l_eqCell (Nat.le_of_ble_eq_true rfl) trivial ?_
 simp +contextual (disch:=omega) only[go_sem,F_l_eqCell,List.append_nil]
 refine⟨fun hn=> ?_,fun hn=> ?_⟩
 ·simp only[Cell.eq_iff];simp at hn ⊢;simp[hn]
 have q0:x.obj=y.obj:=by simpa using hn
 refine by_ret (l_eqDot_ret _ x.dot y.dot) ?_
 simp +contextual (disch:=omega) only[go_sem,List.append_nil]
 refine⟨fun hn=> ?_,fun hn=> ?_⟩
 ·simp only[Cell.eq_iff];simp at hn ⊢;simp[hn]
 have q1:x.dot=y.dot:=by simpa using hn
 refine⟨fun hn=> ?_,fun hn=> ?_⟩
 ·simp only[Cell.eq_iff];simp at hn ⊢;simp[hn]
 have q2:x.time=y.time:=by simpa using hn
 refine by_ret (l_eqDot_ret _ x.ref y.ref) ?_
 simp +contextual (disch:=omega) only[go_sem,List.append_nil]
 refine⟨fun hn=> ?_,fun hn=> ?_⟩
 ·simp only[Cell.eq_iff];simp at hn ⊢;simp[hn]
 have q3:x.ref=y.ref:=by simpa using hn
 refine⟨fun hn=> ?_,fun hn=> ?_⟩
 ·simp only[Cell.eq_iff];simp at hn ⊢;simp[hn]
 have q4:x.val=y.val:=by simpa using hn
 refine⟨fun hn=> ?_,fun hn=> ?_⟩
 ·simp only[Cell.eq_iff];simp at hn ⊢;simp[hn]
 have q5:x.gone=y.gone:=by simpa using hn
 simp only[Cell.eq_iff,q0,q1,q2,q3,q4,q5,and_self,decide_true]
end Go.Proofs.YtffnefmklckngaaGreat.Sy
namespace Go.Proofs.YtffnefmklckngaaGreat.Sy
open Go Go.RowKit
set_option linter.unusedSimpArgs false
set_option linter.unusedVariables false
abbrev n_l_eqCellS:Nat:=87
def F_l_eqCellS:Fn1:=⟨27,[.t 4],(.seq (.reg [o 4 (.mov (.k (.bool false)))]) (.seq (.seq (.reg [o 6 (.mov (.t 0)),o 7 (.len false (.t 6)),o 8 (.mov (.t 1)),o 9 (.len false (.t 8)),o 10 (.bin .neq (.t 7) (.t 9))]) (.cnd (.t 10) (.seq (.reg [o 4 (.mov (.k (.bool false)))]) .ret) .skip)) (.seq (.seq (.reg [o 5 (.mov (.k (.int .i64 0)))]) (.blk 0 (.lop (.seq (.seq (.reg [o 11 (.mov (.t 5)),o 12 (.mov (.t 0)),o 13 (.len false (.t 12)),o 14 (.bin .lss (.t 11) (.t 13))]) (.cnd (.t 14) .skip (.ext 0))) (.seq (.blk 1 (.seq (.drw [o 17 (.mov (.t 0)),o 18 (.mov (.t 5)),o 19 (.iad 8 (.t 17) (.t 18)),o 20 (.ld true 8 (.t 19)),o 21 (.mov (.t 1)),o 22 (.mov (.t 5)),o 23 (.iad 8 (.t 21) (.t 22)),o 24 (.ld true 8 (.t 23))] [o 25 (.call 137 [(.t 20),(.t 24)]),o 26 (.un .not (.t 25))]) (.cnd (.t 26) (.seq (.reg [o 4 (.mov (.k (.bool false)))]) .ret) .skip))) (.reg [o 15 (.mov (.t 5)),o 16 (.bin .add (.t 15) (.k (.int .i64 1))),o 5 (.mov (.t 16))])))))) (.seq (.reg [o 4 (.mov (.k (.bool true)))]) .ret))))⟩
theorem ir_l_eqCellS:compFn Tryz.prog n_l_eqCellS=some F_l_eqCellS:=by kernel_rfl
theorem l_eqCellS_ret (σ:St) (v u:GV) (l m:List Cell) (hv:RS pCell.kd σ v l) (hu:RS pCell.kd σ u m) (hl:(l.length+sumL msCell l)≤1099511627776):Ret Tryz.prog n_l_eqCellS [v,u] σ (.bool (decide (l=m))) σ:=by
 refine ret_eq ir_l_eqCellS (Nat.le_of_ble_eq_true rfl) trivial ?_
 simp +contextual (disch:=omega) only[go_sem,F_l_eqCellS,hv.len,hu.len]
 refine⟨fun hn=> ?_,fun hn=> ?_⟩
 ·have:l≠m:=fun h=>by subst h;simp at hn
  simp[this]
 have hlm:l.length=m.length:=by
                    have h2:(l.length:Int)=m.length:=by simpa using hn
                    omega
 refine vc_for l.length 5 (fun i env τ=>env 0=v∧env 1=u∧l.take i=m.take i∧σ <+: τ) rfl ⟨rfl,rfl,rfl,List.prefix_refl _⟩ ?_ ?_
 ·rintro i env τ hi e5 c0 ⟨e0,e1,he,hp⟩
  have hj:i<m.length:=by omega
  have h1:=hv.pre hp
  have h2:=hu.pre hp
  have hne:l[i]≠m[i]→l≠m:=fun h h'=>h (by subst h';rfl)
  have hst:l[i]=m[i]→l.take (i+1)=m.take (i+1):=fun h=>by rw[take_snoc hi,take_snoc hj,he,h]
  have hms:msCell l[i]≤sumL msCell l:=sumL_mem (List.getElem_mem hi)
  simp +contextual (disch:=omega) only[go_sem,c0,e0,e1,e5,hv.len,hu.len,Cell_at h1 hi,Cell_at h2 hj]
  refine by_ret (l_eqCell_ret τ l[i] m[i]) ?_
  simp +contextual (disch:=omega) only[go_sem,e0,e1,e5,hp]
  refine⟨fun h=> ?_,fun h=> ?_⟩
  ·simp[hne (by simpa using h)]
  ·simpa using hst (by simpa using h)
 ·rintro env τ e5 c0 ⟨e0,e1,he,hp⟩
  rw[List.take_length,hlm,List.take_length] at he
  simp +contextual (disch:=omega) only[go_sem,c0,e0,e1,e5,hv.len,hu.len,hp]
  simp[he]
end Go.Proofs.YtffnefmklckngaaGreat.Sy
namespace Go.Proofs.YtffnefmklckngaaGreat.Sy
open Go Go.RowKit
set_option linter.unusedSimpArgs false
set_option linter.unusedVariables false
abbrev n_l_eqDotS:Nat:=182
def F_l_eqDotS:Fn1:=⟨27,[.t 4],(.seq (.reg [o 4 (.mov (.k (.bool false)))]) (.seq (.seq (.reg [o 6 (.mov (.t 0)),o 7 (.len false (.t 6)),o 8 (.mov (.t 1)),o 9 (.len false (.t 8)),o 10 (.bin .neq (.t 7) (.t 9))]) (.cnd (.t 10) (.seq (.reg [o 4 (.mov (.k (.bool false)))]) .ret) .skip)) (.seq (.seq (.reg [o 5 (.mov (.k (.int .i64 0)))]) (.blk 0 (.lop (.seq (.seq (.reg [o 11 (.mov (.t 5)),o 12 (.mov (.t 0)),o 13 (.len false (.t 12)),o 14 (.bin .lss (.t 11) (.t 13))]) (.cnd (.t 14) .skip (.ext 0))) (.seq (.blk 1 (.seq (.drw [o 17 (.mov (.t 0)),o 18 (.mov (.t 5)),o 19 (.iad 2 (.t 17) (.t 18)),o 20 (.ld true 2 (.t 19)),o 21 (.mov (.t 1)),o 22 (.mov (.t 5)),o 23 (.iad 2 (.t 21) (.t 22)),o 24 (.ld true 2 (.t 23))] [o 25 (.call 114 [(.t 20),(.t 24)]),o 26 (.un .not (.t 25))]) (.cnd (.t 26) (.seq (.reg [o 4 (.mov (.k (.bool false)))]) .ret) .skip))) (.reg [o 15 (.mov (.t 5)),o 16 (.bin .add (.t 15) (.k (.int .i64 1))),o 5 (.mov (.t 16))])))))) (.seq (.reg [o 4 (.mov (.k (.bool true)))]) .ret))))⟩
theorem ir_l_eqDotS:compFn Tryz.prog n_l_eqDotS=some F_l_eqDotS:=by kernel_rfl
theorem l_eqDotS_ret (σ:St) (v u:GV) (l m:List Dot) (hv:RS pDot.kd σ v l) (hu:RS pDot.kd σ u m) (hl:l.length≤1099511627776):Ret Tryz.prog n_l_eqDotS [v,u] σ (.bool (decide (l=m))) σ:=by
 refine ret_eq ir_l_eqDotS (Nat.le_of_ble_eq_true rfl) trivial ?_
 simp +contextual (disch:=omega) only[go_sem,F_l_eqDotS,hv.len,hu.len]
 refine⟨fun hn=> ?_,fun hn=> ?_⟩
 ·have:l≠m:=fun h=>by subst h;simp at hn
  simp[this]
 have hlm:l.length=m.length:=by
                    have h2:(l.length:Int)=m.length:=by simpa using hn
                    omega
 refine vc_for l.length 5 (fun i env τ=>env 0=v∧env 1=u∧l.take i=m.take i∧σ <+: τ) rfl ⟨rfl,rfl,rfl,List.prefix_refl _⟩ ?_ ?_
 ·rintro i env τ hi e5 c0 ⟨e0,e1,he,hp⟩
  have hj:i<m.length:=by omega
  have h1:=hv.pre hp
  have h2:=hu.pre hp
  have hne:l[i]≠m[i]→l≠m:=fun h h'=>h (by subst h';rfl)
  have hst:l[i]=m[i]→l.take (i+1)=m.take (i+1):=fun h=>by rw[take_snoc hi,take_snoc hj,he,h]
  simp +contextual (disch:=omega) only[go_sem,c0,e0,e1,e5,hv.len,hu.len,Dot_at h1 hi,Dot_at h2 hj]
  refine by_ret (l_eqDot_ret τ l[i] m[i]) ?_
  simp +contextual (disch:=omega) only[go_sem,e0,e1,e5,hp]
  refine⟨fun h=> ?_,fun h=> ?_⟩
  ·simp[hne (by simpa using h)]
  ·simpa using hst (by simpa using h)
 ·rintro env τ e5 c0 ⟨e0,e1,he,hp⟩
  rw[List.take_length,hlm,List.take_length] at he
  simp +contextual (disch:=omega) only[go_sem,c0,e0,e1,e5,hv.len,hu.len,hp]
  simp[he]
end Go.Proofs.YtffnefmklckngaaGreat.Sy
namespace Go.Proofs.YtffnefmklckngaaGreat.Sy
open Go Go.RowKit
set_option linter.unusedSimpArgs false
set_option linter.unusedVariables false
abbrev n_l_eqLive:Nat:=136
def F_l_eqLive:Fn1:=⟨31,[.t 4],(.seq (.reg [o 2 (.box (.t 0)),o 3 (.box (.t 1)),o 4 (.mov (.k (.bool false)))]) (.seq (.seq (.reg [o 5 (.fad 0 (.t 2)),o 6 (.ld false 1 (.t 5)),o 7 (.fad 0 (.t 3)),o 8 (.ld false 1 (.t 7)),o 9 (.eqb true (.t 6) (.t 8))]) (.cnd (.t 9) (.seq (.reg [o 4 (.mov (.k (.bool false)))]) .ret) .skip)) (.seq (.seq (.reg [o 10 (.fad 1 (.t 2)),o 11 (.ld false 1 (.t 10)),o 12 (.fad 1 (.t 3)),o 13 (.ld false 1 (.t 12)),o 14 (.bin .neq (.t 11) (.t 13))]) (.cnd (.t 14) (.seq (.reg [o 4 (.mov (.k (.bool false)))]) .ret) .skip)) (.seq (.seq (.reg [o 15 (.fad 2 (.t 2)),o 16 (.ld false 1 (.t 15)),o 17 (.fad 2 (.t 3)),o 18 (.ld false 1 (.t 17)),o 19 (.bin .neq (.t 16) (.t 18))]) (.cnd (.t 19) (.seq (.reg [o 4 (.mov (.k (.bool false)))]) .ret) .skip)) (.seq (.seq (.reg [o 20 (.fad 3 (.t 2)),o 21 (.ld false 1 (.t 20)),o 22 (.fad 3 (.t 3)),o 23 (.ld false 1 (.t 22)),o 24 (.bin .neq (.t 21) (.t 23))]) (.cnd (.t 24) (.seq (.reg [o 4 (.mov (.k (.bool false)))]) .ret) .skip)) (.seq (.seq (.reg [o 25 (.fad 4 (.t 2)),o 26 (.ld true 2 (.t 25)),o 27 (.fad 4 (.t 3)),o 28 (.ld true 2 (.t 27)),o 29 (.call 114 [(.t 26),(.t 28)]),o 30 (.un .not (.t 29))]) (.cnd (.t 30) (.seq (.reg [o 4 (.mov (.k (.bool false)))]) .ret) .skip)) (.seq (.reg [o 4 (.mov (.k (.bool true)))]) .ret)))))))⟩
theorem ir_l_eqLive:compFn Tryz.prog n_l_eqLive=some F_l_eqLive:=by kernel_rfl
theorem l_eqLive_ret (σ:St) (x y:Live):Ret Tryz.prog n_l_eqLive [.agg [.bool x.map,.str x.obj,.str x.key,.int .i64 x.val,.int .i64 x.dot.rep,.int .i64 x.dot.seq],.agg [.bool y.map,.str y.obj,.str y.key,.int .i64 y.val,.int .i64 y.dot.rep,.int .i64 y.dot.seq]] σ (.bool (decide (x=y))) σ:=by
 refine ret_eq ir_l_eqLive (Nat.le_of_ble_eq_true rfl) trivial ?_
 simp +contextual (disch:=omega) only[go_sem,F_l_eqLive,List.append_nil]
 refine⟨fun hn=> ?_,fun hn=> ?_⟩
 ·simp only[Live.eq_iff];simp at hn ⊢;simp[hn]
 have q0:x.map=y.map:=by simpa using hn
 refine⟨fun hn=> ?_,fun hn=> ?_⟩
 ·simp only[Live.eq_iff];simp at hn ⊢;simp[hn]
 have q1:x.obj=y.obj:=by simpa using hn
 refine⟨fun hn=> ?_,fun hn=> ?_⟩
 ·simp only[Live.eq_iff];simp at hn ⊢;simp[hn]
 have q2:x.key=y.key:=by simpa using hn
 refine⟨fun hn=> ?_,fun hn=> ?_⟩
 ·simp only[Live.eq_iff];simp at hn ⊢;simp[hn]
 have q3:x.val=y.val:=by simpa using hn
 refine by_ret (l_eqDot_ret _ x.dot y.dot) ?_
 simp +contextual (disch:=omega) only[go_sem,List.append_nil]
 refine⟨fun hn=> ?_,fun hn=> ?_⟩
 ·simp only[Live.eq_iff];simp at hn ⊢;simp[hn]
 have q4:x.dot=y.dot:=by simpa using hn
 simp only[Live.eq_iff,q0,q1,q2,q3,q4,and_self,decide_true]
end Go.Proofs.YtffnefmklckngaaGreat.Sy
namespace Go.Proofs.YtffnefmklckngaaGreat.Sy
open Go Go.RowKit
set_option linter.unusedSimpArgs false
set_option linter.unusedVariables false
abbrev n_l_eqLiveS:Nat:=86
def F_l_eqLiveS:Fn1:=⟨27,[.t 4],(.seq (.reg [o 4 (.mov (.k (.bool false)))]) (.seq (.seq (.reg [o 6 (.mov (.t 0)),o 7 (.len false (.t 6)),o 8 (.mov (.t 1)),o 9 (.len false (.t 8)),o 10 (.bin .neq (.t 7) (.t 9))]) (.cnd (.t 10) (.seq (.reg [o 4 (.mov (.k (.bool false)))]) .ret) .skip)) (.seq (.seq (.reg [o 5 (.mov (.k (.int .i64 0)))]) (.blk 0 (.lop (.seq (.seq (.reg [o 11 (.mov (.t 5)),o 12 (.mov (.t 0)),o 13 (.len false (.t 12)),o 14 (.bin .lss (.t 11) (.t 13))]) (.cnd (.t 14) .skip (.ext 0))) (.seq (.blk 1 (.seq (.drw [o 17 (.mov (.t 0)),o 18 (.mov (.t 5)),o 19 (.iad 6 (.t 17) (.t 18)),o 20 (.ld true 6 (.t 19)),o 21 (.mov (.t 1)),o 22 (.mov (.t 5)),o 23 (.iad 6 (.t 21) (.t 22)),o 24 (.ld true 6 (.t 23))] [o 25 (.call 136 [(.t 20),(.t 24)]),o 26 (.un .not (.t 25))]) (.cnd (.t 26) (.seq (.reg [o 4 (.mov (.k (.bool false)))]) .ret) .skip))) (.reg [o 15 (.mov (.t 5)),o 16 (.bin .add (.t 15) (.k (.int .i64 1))),o 5 (.mov (.t 16))])))))) (.seq (.reg [o 4 (.mov (.k (.bool true)))]) .ret))))⟩
theorem ir_l_eqLiveS:compFn Tryz.prog n_l_eqLiveS=some F_l_eqLiveS:=by kernel_rfl
theorem l_eqLiveS_ret (σ:St) (v u:GV) (l m:List Live) (hv:RS pLive.kd σ v l) (hu:RS pLive.kd σ u m) (hl:(l.length+sumL msLive l)≤1099511627776):Ret Tryz.prog n_l_eqLiveS [v,u] σ (.bool (decide (l=m))) σ:=by
 refine ret_eq ir_l_eqLiveS (Nat.le_of_ble_eq_true rfl) trivial ?_
 simp +contextual (disch:=omega) only[go_sem,F_l_eqLiveS,hv.len,hu.len]
 refine⟨fun hn=> ?_,fun hn=> ?_⟩
 ·have:l≠m:=fun h=>by subst h;simp at hn
  simp[this]
 have hlm:l.length=m.length:=by
                    have h2:(l.length:Int)=m.length:=by simpa using hn
                    omega
 refine vc_for l.length 5 (fun i env τ=>env 0=v∧env 1=u∧l.take i=m.take i∧σ <+: τ) rfl ⟨rfl,rfl,rfl,List.prefix_refl _⟩ ?_ ?_
 ·rintro i env τ hi e5 c0 ⟨e0,e1,he,hp⟩
  have hj:i<m.length:=by omega
  have h1:=hv.pre hp
  have h2:=hu.pre hp
  have hne:l[i]≠m[i]→l≠m:=fun h h'=>h (by subst h';rfl)
  have hst:l[i]=m[i]→l.take (i+1)=m.take (i+1):=fun h=>by rw[take_snoc hi,take_snoc hj,he,h]
  have hms:msLive l[i]≤sumL msLive l:=sumL_mem (List.getElem_mem hi)
  simp +contextual (disch:=omega) only[go_sem,c0,e0,e1,e5,hv.len,hu.len,Live_at h1 hi,Live_at h2 hj]
  refine by_ret (l_eqLive_ret τ l[i] m[i]) ?_
  simp +contextual (disch:=omega) only[go_sem,e0,e1,e5,hp]
  refine⟨fun h=> ?_,fun h=> ?_⟩
  ·simp[hne (by simpa using h)]
  ·simpa using hst (by simpa using h)
 ·rintro env τ e5 c0 ⟨e0,e1,he,hp⟩
  rw[List.take_length,hlm,List.take_length] at he
  simp +contextual (disch:=omega) only[go_sem,c0,e0,e1,e5,hv.len,hu.len,hp]
  simp[he]
end Go.Proofs.YtffnefmklckngaaGreat.Sy
namespace Go.Proofs.YtffnefmklckngaaGreat.Sy
open Go Go.RowKit
set_option linter.unusedSimpArgs false
set_option linter.unusedVariables false
abbrev n_l_eqTally:Nat:=135
def F_l_eqTally:Fn1:=⟨20,[.t 4],(.seq (.reg [o 2 (.box (.t 0)),o 3 (.box (.t 1)),o 4 (.mov (.k (.bool false)))]) (.seq (.seq (.reg [o 5 (.fad 0 (.t 2)),o 6 (.ld false 1 (.t 5)),o 7 (.fad 0 (.t 3)),o 8 (.ld false 1 (.t 7)),o 9 (.bin .neq (.t 6) (.t 8))]) (.cnd (.t 9) (.seq (.reg [o 4 (.mov (.k (.bool false)))]) .ret) .skip)) (.seq (.seq (.reg [o 10 (.fad 1 (.t 2)),o 11 (.ld false 1 (.t 10)),o 12 (.fad 1 (.t 3)),o 13 (.ld false 1 (.t 12)),o 14 (.bin .neq (.t 11) (.t 13))]) (.cnd (.t 14) (.seq (.reg [o 4 (.mov (.k (.bool false)))]) .ret) .skip)) (.seq (.seq (.reg [o 15 (.fad 2 (.t 2)),o 16 (.ld false 1 (.t 15)),o 17 (.fad 2 (.t 3)),o 18 (.ld false 1 (.t 17)),o 19 (.bin .neq (.t 16) (.t 18))]) (.cnd (.t 19) (.seq (.reg [o 4 (.mov (.k (.bool false)))]) .ret) .skip)) (.seq (.reg [o 4 (.mov (.k (.bool true)))]) .ret)))))⟩
theorem ir_l_eqTally:compFn Tryz.prog n_l_eqTally=some F_l_eqTally:=by kernel_rfl
theorem l_eqTally_ret (σ:St) (x y:Tally):Ret Tryz.prog n_l_eqTally [.agg [.str x.obj,.int .i64 x.rep,.int .i64 x.sum],.agg [.str y.obj,.int .i64 y.rep,.int .i64 y.sum]] σ (.bool (decide (x=y))) σ:=by
 refine ret_eq ir_l_eqTally (Nat.le_of_ble_eq_true rfl) trivial ?_
 simp +contextual (disch:=omega) only[go_sem,F_l_eqTally,List.append_nil]
 refine⟨fun hn=> ?_,fun hn=> ?_⟩
 ·simp only[Tally.eq_iff];simp at hn ⊢;simp[hn]
 have q0:x.obj=y.obj:=by simpa using hn
 refine⟨fun hn=> ?_,fun hn=> ?_⟩
 ·simp only[Tally.eq_iff];simp at hn ⊢;simp[hn]
 have q1:x.rep=y.rep:=by simpa using hn
 refine⟨fun hn=> ?_,fun hn=> ?_⟩
 ·simp only[Tally.eq_iff];simp at hn ⊢;simp[hn]
 have q2:x.sum=y.sum:=by simpa using hn
 simp only[Tally.eq_iff,q0,q1,q2,and_self,decide_true]
end Go.Proofs.YtffnefmklckngaaGreat.Sy
namespace Go.Proofs.YtffnefmklckngaaGreat.Sy
open Go Go.RowKit
set_option linter.unusedSimpArgs false
set_option linter.unusedVariables false
abbrev n_l_eqTallyS:Nat:=85
def F_l_eqTallyS:Fn1:=⟨27,[.t 4],(.seq (.reg [o 4 (.mov (.k (.bool false)))]) (.seq (.seq (.reg [o 6 (.mov (.t 0)),o 7 (.len false (.t 6)),o 8 (.mov (.t 1)),o 9 (.len false (.t 8)),o 10 (.bin .neq (.t 7) (.t 9))]) (.cnd (.t 10) (.seq (.reg [o 4 (.mov (.k (.bool false)))]) .ret) .skip)) (.seq (.seq (.reg [o 5 (.mov (.k (.int .i64 0)))]) (.blk 0 (.lop (.seq (.seq (.reg [o 11 (.mov (.t 5)),o 12 (.mov (.t 0)),o 13 (.len false (.t 12)),o 14 (.bin .lss (.t 11) (.t 13))]) (.cnd (.t 14) .skip (.ext 0))) (.seq (.blk 1 (.seq (.drw [o 17 (.mov (.t 0)),o 18 (.mov (.t 5)),o 19 (.iad 3 (.t 17) (.t 18)),o 20 (.ld true 3 (.t 19)),o 21 (.mov (.t 1)),o 22 (.mov (.t 5)),o 23 (.iad 3 (.t 21) (.t 22)),o 24 (.ld true 3 (.t 23))] [o 25 (.call 135 [(.t 20),(.t 24)]),o 26 (.un .not (.t 25))]) (.cnd (.t 26) (.seq (.reg [o 4 (.mov (.k (.bool false)))]) .ret) .skip))) (.reg [o 15 (.mov (.t 5)),o 16 (.bin .add (.t 15) (.k (.int .i64 1))),o 5 (.mov (.t 16))])))))) (.seq (.reg [o 4 (.mov (.k (.bool true)))]) .ret))))⟩
theorem ir_l_eqTallyS:compFn Tryz.prog n_l_eqTallyS=some F_l_eqTallyS:=by kernel_rfl
theorem l_eqTallyS_ret (σ:St) (v u:GV) (l m:List Tally) (hv:RS pTally.kd σ v l) (hu:RS pTally.kd σ u m) (hl:(l.length+sumL msTally l)≤1099511627776):Ret Tryz.prog n_l_eqTallyS [v,u] σ (.bool (decide (l=m))) σ:=by
 refine ret_eq ir_l_eqTallyS (Nat.le_of_ble_eq_true rfl) trivial ?_
 simp +contextual (disch:=omega) only[go_sem,F_l_eqTallyS,hv.len,hu.len]
 refine⟨fun hn=> ?_,fun hn=> ?_⟩
 ·have:l≠m:=fun h=>by subst h;simp at hn
  simp[this]
 have hlm:l.length=m.length:=by
                    have h2:(l.length:Int)=m.length:=by simpa using hn
                    omega
 refine vc_for l.length 5 (fun i env τ=>env 0=v∧env 1=u∧l.take i=m.take i∧σ <+: τ) rfl ⟨rfl,rfl,rfl,List.prefix_refl _⟩ ?_ ?_
 ·rintro i env τ hi e5 c0 ⟨e0,e1,he,hp⟩
  have hj:i<m.length:=by omega
  have h1:=hv.pre hp
  have h2:=hu.pre hp
  have hne:l[i]≠m[i]→l≠m:=fun h h'=>h (by subst h';rfl)
  have hst:l[i]=m[i]→l.take (i+1)=m.take (i+1):=fun h=>by rw[take_snoc hi,take_snoc hj,he,h]
  have hms:msTally l[i]≤sumL msTally l:=sumL_mem (List.getElem_mem hi)
  simp +contextual (disch:=omega) only[go_sem,c0,e0,e1,e5,hv.len,hu.len,Tally_at h1 hi,Tally_at h2 hj]
  refine by_ret (l_eqTally_ret τ l[i] m[i]) ?_
  simp +contextual (disch:=omega) only[go_sem,e0,e1,e5,hp]
  refine⟨fun h=> ?_,fun h=> ?_⟩
  ·simp[hne (by simpa using h)]
  ·simpa using hst (by simpa using h)
 ·rintro env τ e5 c0 ⟨e0,e1,he,hp⟩
  rw[List.take_length,hlm,List.take_length] at he
  simp +contextual (disch:=omega) only[go_sem,c0,e0,e1,e5,hv.len,hu.len,hp]
  simp[he]
end Go.Proofs.YtffnefmklckngaaGreat.Sy
namespace Go.Proofs.YtffnefmklckngaaGreat.Sy
open Go Go.RowKit
set_option linter.unusedSimpArgs false
set_option linter.unusedVariables false
abbrev n_l_eqDelta:Nat:=115
def F_l_eqDelta:Fn1:=⟨41,[.t 4],(.seq (.reg [o 2 (.box (.t 0)),o 3 (.box (.t 1)),o 4 (.mov (.k (.bool false)))]) (.seq (.seq (.reg [o 5 (.fad 0 (.t 2)),o 6 (.ld false 1 (.t 5)),o 7 (.fad 0 (.t 3)),o 8 (.ld false 1 (.t 7)),o 9 (.call 84 [(.t 6),(.t 8)]),o 10 (.un .not (.t 9))]) (.cnd (.t 10) (.seq (.reg [o 4 (.mov (.k (.bool false)))]) .ret) .skip)) (.seq (.seq (.reg [o 11 (.fad 1 (.t 2)),o 12 (.ld false 1 (.t 11)),o 13 (.fad 1 (.t 3)),o 14 (.ld false 1 (.t 13)),o 15 (.call 84 [(.t 12),(.t 14)]),o 16 (.un .not (.t 15))]) (.cnd (.t 16) (.seq (.reg [o 4 (.mov (.k (.bool false)))]) .ret) .skip)) (.seq (.seq (.reg [o 17 (.fad 2 (.t 2)),o 18 (.ld false 1 (.t 17)),o 19 (.fad 2 (.t 3)),o 20 (.ld false 1 (.t 19)),o 21 (.call 85 [(.t 18),(.t 20)]),o 22 (.un .not (.t 21))]) (.cnd (.t 22) (.seq (.reg [o 4 (.mov (.k (.bool false)))]) .ret) .skip)) (.seq (.seq (.reg [o 23 (.fad 3 (.t 2)),o 24 (.ld false 1 (.t 23)),o 25 (.fad 3 (.t 3)),o 26 (.ld false 1 (.t 25)),o 27 (.call 86 [(.t 24),(.t 26)]),o 28 (.un .not (.t 27))]) (.cnd (.t 28) (.seq (.reg [o 4 (.mov (.k (.bool false)))]) .ret) .skip)) (.seq (.seq (.reg [o 29 (.fad 4 (.t 2)),o 30 (.ld false 1 (.t 29)),o 31 (.fad 4 (.t 3)),o 32 (.ld false 1 (.t 31)),o 33 (.call 182 [(.t 30),(.t 32)]),o 34 (.un .not (.t 33))]) (.cnd (.t 34) (.seq (.reg [o 4 (.mov (.k (.bool false)))]) .ret) .skip)) (.seq (.seq (.reg [o 35 (.fad 5 (.t 2)),o 36 (.ld false 1 (.t 35)),o 37 (.fad 5 (.t 3)),o 38 (.ld false 1 (.t 37)),o 39 (.call 87 [(.t 36),(.t 38)]),o 40 (.un .not (.t 39))]) (.cnd (.t 40) (.seq (.reg [o 4 (.mov (.k (.bool false)))]) .ret) .skip)) (.seq (.reg [o 4 (.mov (.k (.bool true)))]) .ret))))))))⟩
theorem ir_l_eqDelta:compFn Tryz.prog n_l_eqDelta=some F_l_eqDelta:=by kernel_rfl
theorem l_eqDelta_ret (σ:St) (cs ds:List GV) (x y:Delta) (hx:kDelta.R σ x cs) (hy:kDelta.R σ y ds) (hl:msDelta x≤1099511627776):Ret Tryz.prog n_l_eqDelta [.agg cs,.agg ds] σ (.bool (decide (x=y))) σ:=by
 obtain⟨v0,v1,v2,v3,v4,v5,rfl,q0_,q1_,q2_,q3_,q4_,q5_⟩:=hx
 obtain⟨u0,u1,u2,u3,u4,u5,rfl,p0_,p1_,p2_,p3_,p4_,p5_⟩:=hy
 unfold msDelta at hl
 refine ret_eq ir_l_eqDelta (Nat.le_of_ble_eq_true rfl) trivial ?_
 simp +contextual (disch:=omega) only[go_sem,F_l_eqDelta,List.append_nil]
 refine by_ret (l_eqIntS_ret _ v0 u0 x.base y.base (q0_.pre pre2) (p0_.pre pre2) (by omega)) ?_
 simp +contextual (disch:=omega) only[go_sem,List.append_nil]
 refine⟨fun hn=> ?_,fun hn=> ?_⟩
 ·simp only[Delta.eq_iff];simp at hn ⊢;simp[hn]
 have q0:x.base=y.base:=by simpa using hn
 refine by_ret (l_eqIntS_ret _ v1 u1 x.know y.know (q1_.pre pre2) (p1_.pre pre2) (by omega)) ?_
 simp +contextual (disch:=omega) only[go_sem,List.append_nil]
 refine⟨fun hn=> ?_,fun hn=> ?_⟩
 ·simp only[Delta.eq_iff];simp at hn ⊢;simp[hn]
 have q1:x.know=y.know:=by simpa using hn
 refine by_ret (l_eqTallyS_ret _ v2 u2 x.tallies y.tallies (q2_.pre pre2) (p2_.pre pre2) (by omega)) ?_
 simp +contextual (disch:=omega) only[go_sem,List.append_nil]
 refine⟨fun hn=> ?_,fun hn=> ?_⟩
 ·simp only[Delta.eq_iff];simp at hn ⊢;simp[hn]
 have q2:x.tallies=y.tallies:=by simpa using hn
 refine by_ret (l_eqLiveS_ret _ v3 u3 x.lives y.lives (q3_.pre pre2) (p3_.pre pre2) (by omega)) ?_
 simp +contextual (disch:=omega) only[go_sem,List.append_nil]
 refine⟨fun hn=> ?_,fun hn=> ?_⟩
 ·simp only[Delta.eq_iff];simp at hn ⊢;simp[hn]
 have q3:x.lives=y.lives:=by simpa using hn
 refine by_ret (l_eqDotS_ret _ v4 u4 x.dead y.dead (q4_.pre pre2) (p4_.pre pre2) (by omega)) ?_
 simp +contextual (disch:=omega) only[go_sem,List.append_nil]
 refine⟨fun hn=> ?_,fun hn=> ?_⟩
 ·simp only[Delta.eq_iff];simp at hn ⊢;simp[hn]
 have q4:x.dead=y.dead:=by simpa using hn
 refine by_ret (l_eqCellS_ret _ v5 u5 x.cells y.cells (q5_.pre pre2) (p5_.pre pre2) (by omega)) ?_
 simp +contextual (disch:=omega) only[go_sem,List.append_nil]
 refine⟨fun hn=> ?_,fun hn=> ?_⟩
 ·simp only[Delta.eq_iff];simp at hn ⊢;simp[hn]
 have q5:x.cells=y.cells:=by simpa using hn
 simp only[Delta.eq_iff,q0,q1,q2,q3,q4,q5,and_self,decide_true]
end Go.Proofs.YtffnefmklckngaaGreat.Sy
namespace Go.Proofs.YtffnefmklckngaaGreat.Sy
open Go Go.RowKit
set_option linter.unusedSimpArgs false
set_option linter.unusedVariables false
abbrev n_l_eqUnit:Nat:=42
def F_l_eqUnit:Fn1:=⟨22,[.t 4],(.seq (.reg [o 2 (.box (.t 0)),o 3 (.box (.t 1)),o 4 (.mov (.k (.bool false)))]) (.seq (.seq (.reg [o 5 (.fad 0 (.t 2)),o 6 (.ld false 1 (.t 5)),o 7 (.fad 0 (.t 3)),o 8 (.ld false 1 (.t 7)),o 9 (.eqb true (.t 6) (.t 8))]) (.cnd (.t 9) (.seq (.reg [o 4 (.mov (.k (.bool false)))]) .ret) .skip)) (.seq (.seq (.reg [o 10 (.fad 1 (.t 2)),o 11 (.ld true 10 (.t 10)),o 12 (.fad 1 (.t 3)),o 13 (.ld true 10 (.t 12)),o 14 (.call 41 [(.t 11),(.t 13)]),o 15 (.un .not (.t 14))]) (.cnd (.t 15) (.seq (.reg [o 4 (.mov (.k (.bool false)))]) .ret) .skip)) (.seq (.seq (.reg [o 16 (.fad 11 (.t 2)),o 17 (.ld true 6 (.t 16)),o 18 (.fad 11 (.t 3)),o 19 (.ld true 6 (.t 18)),o 20 (.call 115 [(.t 17),(.t 19)]),o 21 (.un .not (.t 20))]) (.cnd (.t 21) (.seq (.reg [o 4 (.mov (.k (.bool false)))]) .ret) .skip)) (.seq (.reg [o 4 (.mov (.k (.bool true)))]) .ret)))))⟩
theorem ir_l_eqUnit:compFn Tryz.prog n_l_eqUnit=some F_l_eqUnit:=by kernel_rfl
theorem l_eqUnit_ret (σ:St) (cs ds:List GV) (x y:Unit_) (hx:kUnit_.R σ x cs) (hy:kUnit_.R σ y ds) (hl:msUnit x≤1099511627776):Ret Tryz.prog n_l_eqUnit [.agg cs,.agg ds] σ (.bool (decide (x=y))) σ:=by
 obtain⟨v1,v2,rfl,q1_,q2_⟩:=hx
 obtain⟨u1,u2,rfl,p1_,p2_⟩:=hy
 unfold msUnit at hl
 have a1:=q1_
 have a2:=q2_
 have b1:=p1_
 have b2:=p2_
 obtain⟨kv,rfl,_⟩:=q1_
 obtain⟨d0,d1,d2,d3,d4,d5,rfl,_⟩:=q2_
 obtain⟨ku,rfl,_⟩:=p1_
 obtain⟨e0,e1,e2,e3,e4,e5,rfl,_⟩:=p2_
 suffices key:Ret Tryz.prog n_l_eqUnit [.agg (.bool x.batch::[.int .i64 x.act.dot.rep,.int .i64 x.act.dot.seq,.int .i64 x.act.time,kv,.int .i64 x.act.kind,.str x.act.obj,.str x.act.key,.int .i64 x.act.val,.int .i64 x.act.ref.rep,.int .i64 x.act.ref.seq,d0,d1,d2,d3,d4,d5]),.agg (.bool y.batch::[.int .i64 y.act.dot.rep,.int .i64 y.act.dot.seq,.int .i64 y.act.time,ku,.int .i64 y.act.kind,.str y.act.obj,.str y.act.key,.int .i64 y.act.val,.int .i64 y.act.ref.rep,.int .i64 y.act.ref.seq,e0,e1,e2,e3,e4,e5])] σ (.bool (decide (x=y))) σ from key
 refine ret_eq ir_l_eqUnit (Nat.le_of_ble_eq_true rfl) trivial ?_
 simp +contextual (disch:=omega) only[go_sem,F_l_eqUnit,List.append_nil]
 refine⟨fun hn=> ?_,fun hn=> ?_⟩
 ·simp only[Unit_.eq_iff];simp at hn ⊢;simp[hn]
 have q0:x.batch=y.batch:=by simpa using hn
 refine by_ret (l_eqAct_ret _ _ _ x.act y.act (kAct.pre a1 pre2) (kAct.pre b1 pre2) (by omega)) ?_
 simp +contextual (disch:=omega) only[go_sem,List.append_nil]
 refine⟨fun hn=> ?_,fun hn=> ?_⟩
 ·simp only[Unit_.eq_iff];simp at hn ⊢;simp[hn]
 have q1:x.act=y.act:=by simpa using hn
 refine by_ret (l_eqDelta_ret _ _ _ x.delta y.delta (kDelta.pre a2 pre2) (kDelta.pre b2 pre2) (by omega)) ?_
 simp +contextual (disch:=omega) only[go_sem,List.append_nil]
 refine⟨fun hn=> ?_,fun hn=> ?_⟩
 ·simp only[Unit_.eq_iff];simp at hn ⊢;simp[hn]
 have q2:x.delta=y.delta:=by simpa using hn
 simp only[Unit_.eq_iff,q0,q1,q2,and_self,decide_true]
end Go.Proofs.YtffnefmklckngaaGreat.Sy
namespace Go.Proofs.YtffnefmklckngaaGreat.Sy
open Go Go.RowKit
set_option linter.unusedSimpArgs false
set_option linter.unusedVariables false
abbrev n_l_eqUnitS:Nat:=13
def F_l_eqUnitS:Fn1:=⟨27,[.t 4],(.seq (.reg [o 4 (.mov (.k (.bool false)))]) (.seq (.seq (.reg [o 6 (.mov (.t 0)),o 7 (.len false (.t 6)),o 8 (.mov (.t 1)),o 9 (.len false (.t 8)),o 10 (.bin .neq (.t 7) (.t 9))]) (.cnd (.t 10) (.seq (.reg [o 4 (.mov (.k (.bool false)))]) .ret) .skip)) (.seq (.seq (.reg [o 5 (.mov (.k (.int .i64 0)))]) (.blk 0 (.lop (.seq (.seq (.reg [o 11 (.mov (.t 5)),o 12 (.mov (.t 0)),o 13 (.len false (.t 12)),o 14 (.bin .lss (.t 11) (.t 13))]) (.cnd (.t 14) .skip (.ext 0))) (.seq (.blk 1 (.seq (.drw [o 17 (.mov (.t 0)),o 18 (.mov (.t 5)),o 19 (.iad 17 (.t 17) (.t 18)),o 20 (.ld true 17 (.t 19)),o 21 (.mov (.t 1)),o 22 (.mov (.t 5)),o 23 (.iad 17 (.t 21) (.t 22)),o 24 (.ld true 17 (.t 23))] [o 25 (.call 42 [(.t 20),(.t 24)]),o 26 (.un .not (.t 25))]) (.cnd (.t 26) (.seq (.reg [o 4 (.mov (.k (.bool false)))]) .ret) .skip))) (.reg [o 15 (.mov (.t 5)),o 16 (.bin .add (.t 15) (.k (.int .i64 1))),o 5 (.mov (.t 16))])))))) (.seq (.reg [o 4 (.mov (.k (.bool true)))]) .ret))))⟩
theorem ir_l_eqUnitS:compFn Tryz.prog n_l_eqUnitS=some F_l_eqUnitS:=by kernel_rfl
theorem l_eqUnitS_ret (σ:St) (v u:GV) (l m:List Unit_) (hv:RS kUnit_ σ v l) (hu:RS kUnit_ σ u m) (hl:(l.length+sumL msUnit l)≤1099511627776):Ret Tryz.prog n_l_eqUnitS [v,u] σ (.bool (decide (l=m))) σ:=by
 refine ret_eq ir_l_eqUnitS (Nat.le_of_ble_eq_true rfl) trivial ?_
 simp +contextual (disch:=omega) only[go_sem,F_l_eqUnitS,hv.len,hu.len]
 refine⟨fun hn=> ?_,fun hn=> ?_⟩
 ·have:l≠m:=fun h=>by subst h;simp at hn
  simp[this]
 have hlm:l.length=m.length:=by
                    have h2:(l.length:Int)=m.length:=by simpa using hn
                    omega
 refine vc_for l.length 5 (fun i env τ=>env 0=v∧env 1=u∧l.take i=m.take i∧σ <+: τ) rfl ⟨rfl,rfl,rfl,List.prefix_refl _⟩ ?_ ?_
 ·rintro i env τ hi e5 c0 ⟨e0,e1,he,hp⟩
  have hj:i<m.length:=by omega
  have h1:=hv.pre hp
  have h2:=hu.pre hp
  have hne:l[i]≠m[i]→l≠m:=fun h h'=>h (by subst h';rfl)
  have hst:l[i]=m[i]→l.take (i+1)=m.take (i+1):=fun h=>by rw[take_snoc hi,take_snoc hj,he,h]
  have hms:msUnit l[i]≤sumL msUnit l:=sumL_mem (List.getElem_mem hi)
  obtain⟨c,hc,hcr⟩:=unit_at' h1 hi
  obtain⟨d,hd,hdr⟩:=unit_at' h2 hj
  simp +contextual (disch:=omega) only[go_sem,c0,e0,e1,e5,hv.len,hu.len,hc,hd]
  refine by_ret (l_eqUnit_ret τ c d l[i] m[i] hcr hdr (by omega)) ?_
  simp +contextual (disch:=omega) only[go_sem,e0,e1,e5,hp]
  refine⟨fun h=> ?_,fun h=> ?_⟩
  ·simp[hne (by simpa using h)]
  ·simpa using hst (by simpa using h)
 ·rintro env τ e5 c0 ⟨e0,e1,he,hp⟩
  rw[List.take_length,hlm,List.take_length] at he
  simp +contextual (disch:=omega) only[go_sem,c0,e0,e1,e5,hv.len,hu.len,hp]
  simp[he]
end Go.Proofs.YtffnefmklckngaaGreat.Sy
namespace Go.Proofs.YtffnefmklckngaaGreat.Sy
open Go Go.RowKit
set_option linter.unusedSimpArgs false
set_option linter.unusedVariables false
abbrev n_l_szIntS:Nat:=62
def F_l_szIntS:Fn1:=⟨12,[.t 4],(.seq (.reg [o 4 (.mov (.k (.int .i64 0)))]) (.seq (.reg [o 5 (.mov (.t 1)),o 6 (.mov (.t 0)),o 7 (.len false (.t 6)),o 8 (.bin .sub (.t 5) (.t 7)),o 1 (.mov (.t 8))]) (.seq (.seq (.reg [o 9 (.mov (.t 1)),o 10 (.bin .lss (.t 9) (.k (.int .i64 0)))]) (.cnd (.t 10) (.seq (.reg [o 4 (.mov (.k (.int .i64 (-1))))]) .ret) .skip)) (.seq (.reg [o 11 (.mov (.t 1)),o 4 (.mov (.t 11))]) .ret))))⟩
theorem ir_l_szIntS:compFn Tryz.prog n_l_szIntS=some F_l_szIntS:=by kernel_rfl
theorem l_szIntS_ret (σ:St) (v:GV) (l:List Int) (hR:RS pI.kd σ v l) (n:Int) (hw:l.length≤9223372036854775807) (h0:0≤n) (h1:n≤1099511627776):Ret Tryz.prog n_l_szIntS [v,gi n] σ (gi (lf n l.length)) σ:=by
 refine ret_eq ir_l_szIntS (Nat.le_of_ble_eq_true rfl) trivial ?_
 simp +contextual (disch:=omega) only[go_sem,F_l_szIntS,hR.len]
 refine⟨fun h=> ?_,fun h=> ?_⟩
 ·rw[lf,if_pos (of_decide_eq_true h)]
 ·rw[lf,if_neg (of_decide_eq_false h)]
end Go.Proofs.YtffnefmklckngaaGreat.Sy
namespace Go.Proofs.YtffnefmklckngaaGreat.Sy
open Go Go.RowKit
set_option linter.unusedSimpArgs false
set_option linter.unusedVariables false
abbrev n_l_szAct:Nat:=101
def F_l_szAct:Fn1:=⟨26,[.t 4],(.seq (.reg [o 2 (.box (.t 0)),o 4 (.mov (.k (.int .i64 0)))]) (.seq (.reg [o 5 (.fad 3 (.t 2)),o 6 (.ld false 1 (.t 5)),o 7 (.mov (.t 1)),o 8 (.call 62 [(.t 6),(.t 7)]),o 1 (.mov (.t 8))]) (.seq (.seq (.reg [o 9 (.mov (.t 1)),o 10 (.bin .lss (.t 9) (.k (.int .i64 0)))]) (.cnd (.t 10) (.seq (.reg [o 4 (.mov (.k (.int .i64 (-1))))]) .ret) .skip)) (.seq (.reg [o 11 (.mov (.t 1)),o 12 (.fad 5 (.t 2)),o 13 (.ld false 1 (.t 12)),o 14 (.len true (.t 13)),o 15 (.bin .sub (.t 11) (.t 14)),o 1 (.mov (.t 15))]) (.seq (.seq (.reg [o 16 (.mov (.t 1)),o 17 (.bin .lss (.t 16) (.k (.int .i64 0)))]) (.cnd (.t 17) (.seq (.reg [o 4 (.mov (.k (.int .i64 (-1))))]) .ret) .skip)) (.seq (.reg [o 18 (.mov (.t 1)),o 19 (.fad 6 (.t 2)),o 20 (.ld false 1 (.t 19)),o 21 (.len true (.t 20)),o 22 (.bin .sub (.t 18) (.t 21)),o 1 (.mov (.t 22))]) (.seq (.seq (.reg [o 23 (.mov (.t 1)),o 24 (.bin .lss (.t 23) (.k (.int .i64 0)))]) (.cnd (.t 24) (.seq (.reg [o 4 (.mov (.k (.int .i64 (-1))))]) .ret) .skip)) (.seq (.reg [o 25 (.mov (.t 1)),o 4 (.mov (.t 25))]) .ret))))))))⟩
theorem ir_l_szAct:compFn Tryz.prog n_l_szAct=some F_l_szAct:=by kernel_rfl
theorem l_szAct_ret (σ:St) (cs:List GV) (x:Act) (hR:kAct.R σ x cs) (n:Int) (hw:wAct x) (h0:0≤n) (h1:n≤1099511627776):Ret Tryz.prog n_l_szAct [.agg cs,gi n] σ (gi (lf n (msAct x))) σ:=by
 obtain⟨v2,rfl,q2⟩:=hR
 obtain⟨w0,w1,w2⟩:=hw
 refine ret_eq ir_l_szAct (Nat.le_of_ble_eq_true rfl) trivial ?_
 simp +contextual (disch:=omega) only[go_sem,F_l_szAct,List.append_nil]
 refine by_ret (l_szIntS_ret _ v2 x.knew (q2.pre (pre1 _ _)) (n) w0 (by omega) (by omega)) ?_
 simp +contextual (disch:=omega) only[go_sem,List.append_nil]
 have g0:= @lf_le (n) (x.knew.length) (by omega)
 refine⟨fun hn=> ?_,fun hn=> ?_⟩
 ·have hn:=of_decide_eq_true hn
  have hn:=lf_neg.1 hn
  unfold msAct lf;rw[if_pos (by omega)]
 have hn:=of_decide_eq_false hn
 have f0:=lf_some hn
 try simp(disch:=omega) only[wrap_add]
 refine⟨fun hn=> ?_,fun hn=> ?_⟩
 ·have hn:=of_decide_eq_true hn
  unfold msAct lf;rw[if_pos (by omega)]
 have hn:=of_decide_eq_false hn
 try simp(disch:=omega) only[wrap_add]
 refine⟨fun hn=> ?_,fun hn=> ?_⟩
 ·have hn:=of_decide_eq_true hn
  unfold msAct lf;rw[if_pos (by omega)]
 have hn:=of_decide_eq_false hn
 try simp(disch:=omega) only[wrap_add]
 unfold msAct;rw[show lf n (x.knew.length+x.obj.size+x.key.size)=n - ((x.knew.length+x.obj.size+x.key.size:Nat):Int) by unfold lf;rw[if_neg (by omega)]];try omega
end Go.Proofs.YtffnefmklckngaaGreat.Sy
namespace Go.Proofs.YtffnefmklckngaaGreat.Sy
open Go Go.RowKit
set_option linter.unusedSimpArgs false
set_option linter.unusedVariables false
abbrev n_l_szCell:Nat:=123
def F_l_szCell:Fn1:=⟨13,[.t 4],(.seq (.reg [o 2 (.box (.t 0)),o 4 (.mov (.k (.int .i64 0)))]) (.seq (.reg [o 5 (.mov (.t 1)),o 6 (.fad 0 (.t 2)),o 7 (.ld false 1 (.t 6)),o 8 (.len true (.t 7)),o 9 (.bin .sub (.t 5) (.t 8)),o 1 (.mov (.t 9))]) (.seq (.seq (.reg [o 10 (.mov (.t 1)),o 11 (.bin .lss (.t 10) (.k (.int .i64 0)))]) (.cnd (.t 11) (.seq (.reg [o 4 (.mov (.k (.int .i64 (-1))))]) .ret) .skip)) (.seq (.reg [o 12 (.mov (.t 1)),o 4 (.mov (.t 12))]) .ret))))⟩
theorem ir_l_szCell:compFn Tryz.prog n_l_szCell=some F_l_szCell:=by kernel_rfl
theorem l_szCell_ret (σ:St) (x:Cell) (n:Int) (hw:wCell x) (h0:0≤n) (h1:n≤1099511627776):Ret Tryz.prog n_l_szCell [.agg [.str x.obj,.int .i64 x.dot.rep,.int .i64 x.dot.seq,.int .i64 x.time,.int .i64 x.ref.rep,.int .i64 x.ref.seq,.int .i64 x.val,.bool x.gone],gi n] σ (gi (lf n (msCell x))) σ:=by
 have w0:=hw;unfold wCell at w0
 refine ret_eq ir_l_szCell (Nat.le_of_ble_eq_true rfl) trivial ?_
 simp +contextual (disch:=omega) only[go_sem,F_l_szCell,List.append_nil]
 refine⟨fun hn=> ?_,fun hn=> ?_⟩
 ·have hn:=of_decide_eq_true hn
  unfold msCell lf;rw[if_pos (by omega)]
 have hn:=of_decide_eq_false hn
 try simp(disch:=omega) only[wrap_add]
 unfold msCell;rw[show lf n (x.obj.size)=n - ((x.obj.size:Nat):Int) by unfold lf;rw[if_neg (by omega)]];try omega
end Go.Proofs.YtffnefmklckngaaGreat.Sy
namespace Go.Proofs.YtffnefmklckngaaGreat.Sy
open Go Go.RowKit
set_option linter.unusedSimpArgs false
set_option linter.unusedVariables false
abbrev n_l_szCellS:Nat:=65
def F_l_szCellS:Fn1:=⟨27,[.t 4],(.seq (.reg [o 4 (.mov (.k (.int .i64 0)))]) (.seq (.reg [o 6 (.mov (.t 1)),o 7 (.mov (.t 0)),o 8 (.len false (.t 7)),o 9 (.bin .sub (.t 6) (.t 8)),o 1 (.mov (.t 9))]) (.seq (.seq (.reg [o 10 (.mov (.t 1)),o 11 (.bin .lss (.t 10) (.k (.int .i64 0)))]) (.cnd (.t 11) (.seq (.reg [o 4 (.mov (.k (.int .i64 (-1))))]) .ret) .skip)) (.seq (.seq (.reg [o 5 (.mov (.k (.int .i64 0)))]) (.blk 0 (.lop (.seq (.seq (.reg [o 12 (.mov (.t 5)),o 13 (.mov (.t 0)),o 14 (.len false (.t 13)),o 15 (.bin .lss (.t 12) (.t 14))]) (.cnd (.t 15) .skip (.ext 0))) (.seq (.blk 1 (.seq (.reg [o 18 (.mov (.t 0)),o 19 (.mov (.t 5)),o 20 (.iad 8 (.t 18) (.t 19)),o 21 (.ld true 8 (.t 20)),o 22 (.mov (.t 1)),o 23 (.call 123 [(.t 21),(.t 22)]),o 1 (.mov (.t 23))]) (.seq (.reg [o 24 (.mov (.t 1)),o 25 (.bin .lss (.t 24) (.k (.int .i64 0)))]) (.cnd (.t 25) (.seq (.reg [o 4 (.mov (.k (.int .i64 (-1))))]) .ret) .skip)))) (.reg [o 16 (.mov (.t 5)),o 17 (.bin .add (.t 16) (.k (.int .i64 1))),o 5 (.mov (.t 17))])))))) (.seq (.reg [o 26 (.mov (.t 1)),o 4 (.mov (.t 26))]) .ret)))))⟩
theorem ir_l_szCellS:compFn Tryz.prog n_l_szCellS=some F_l_szCellS:=by kernel_rfl
theorem l_szCellS_ret (σ:St) (v:GV) (l:List Cell) (hR:RS pCell.kd σ v l) (n:Int) (hw:l.length≤9223372036854775807∧∀ y∈l,wCell y) (h0:0≤n) (h1:n≤1099511627776):Ret Tryz.prog n_l_szCellS [v,gi n] σ (gi (lf n (l.length+sumL msCell l))) σ:=by
 obtain⟨wl,we⟩:=hw
 refine ret_eq ir_l_szCellS (Nat.le_of_ble_eq_true rfl) trivial ?_
 simp +contextual (disch:=omega) only[go_sem,F_l_szCellS,hR.len]
 refine⟨fun hn=> ?_,fun hn=> ?_⟩
 ·have hn:=of_decide_eq_true hn
  unfold lf;rw[if_pos (by omega)]
 have hn:=of_decide_eq_false hn
 refine vc_for l.length 5 (fun i env τ=>∃ m:Int,env 0=v∧env 1=gi m∧m=n - l.length - sumL msCell (l.take i)∧0≤m∧σ <+: τ) rfl ⟨n - l.length,rfl,rfl,by simp[sumL],by omega,List.prefix_refl _⟩ ?_ ?_
 ·rintro i env τ hi e5 c0 ⟨m,e0,e1,em,hm,hp⟩
  have h1:=hR.pre hp
  have hs:=sumL_snoc (f:=msCell) hi
  have hst:=sumL_take_le msCell l (i+1)
  simp +contextual (disch:=omega) only[go_sem,c0,e0,e1,e5,hR.len,Cell_at h1 hi]
  refine by_ret (l_szCell_ret τ l[i] m (we _ (List.getElem_mem hi)) hm (by omega)) ?_
  simp +contextual (disch:=omega) only[go_sem,c0,e0,e1,e5,hp]
  have g0:= @lf_le m (msCell l[i]) hm
  have g1:= @lf_ge m (msCell l[i])
  refine⟨fun hn=> ?_,fun hn=> ?_⟩
  ·have hn:=lf_neg.1 (of_decide_eq_true hn)
   unfold lf;rw[if_pos (by omega)]
  ·have hn:=of_decide_eq_false hn
   have f:=lf_some hn
   exact⟨_,rfl,by omega,by omega⟩
 ·rintro env τ e5 c0 ⟨m,e0,e1,em,hm,hp⟩
  rw[List.take_length] at em
  simp +contextual (disch:=omega) only[go_sem,c0,e0,e1,e5,hR.len,hp]
  unfold lf;rw[if_neg (by omega)];omega
end Go.Proofs.YtffnefmklckngaaGreat.Sy
namespace Go.Proofs.YtffnefmklckngaaGreat.Sy
open Go Go.RowKit
set_option linter.unusedSimpArgs false
set_option linter.unusedVariables false
abbrev n_l_szDotS:Nat:=162
def F_l_szDotS:Fn1:=⟨12,[.t 4],(.seq (.reg [o 4 (.mov (.k (.int .i64 0)))]) (.seq (.reg [o 5 (.mov (.t 1)),o 6 (.mov (.t 0)),o 7 (.len false (.t 6)),o 8 (.bin .sub (.t 5) (.t 7)),o 1 (.mov (.t 8))]) (.seq (.seq (.reg [o 9 (.mov (.t 1)),o 10 (.bin .lss (.t 9) (.k (.int .i64 0)))]) (.cnd (.t 10) (.seq (.reg [o 4 (.mov (.k (.int .i64 (-1))))]) .ret) .skip)) (.seq (.reg [o 11 (.mov (.t 1)),o 4 (.mov (.t 11))]) .ret))))⟩
theorem ir_l_szDotS:compFn Tryz.prog n_l_szDotS=some F_l_szDotS:=by kernel_rfl
theorem l_szDotS_ret (σ:St) (v:GV) (l:List Dot) (hR:RS pDot.kd σ v l) (n:Int) (hw:l.length≤9223372036854775807) (h0:0≤n) (h1:n≤1099511627776):Ret Tryz.prog n_l_szDotS [v,gi n] σ (gi (lf n l.length)) σ:=by
 refine ret_eq ir_l_szDotS (Nat.le_of_ble_eq_true rfl) trivial ?_
 simp +contextual (disch:=omega) only[go_sem,F_l_szDotS,hR.len]
 refine⟨fun h=> ?_,fun h=> ?_⟩
 ·rw[lf,if_pos (of_decide_eq_true h)]
 ·rw[lf,if_neg (of_decide_eq_false h)]
end Go.Proofs.YtffnefmklckngaaGreat.Sy
namespace Go.Proofs.YtffnefmklckngaaGreat.Sy
open Go Go.RowKit
set_option linter.unusedSimpArgs false
set_option linter.unusedVariables false
abbrev n_l_szLive:Nat:=122
def F_l_szLive:Fn1:=⟨20,[.t 4],(.seq (.reg [o 2 (.box (.t 0)),o 4 (.mov (.k (.int .i64 0)))]) (.seq (.reg [o 5 (.mov (.t 1)),o 6 (.fad 1 (.t 2)),o 7 (.ld false 1 (.t 6)),o 8 (.len true (.t 7)),o 9 (.bin .sub (.t 5) (.t 8)),o 1 (.mov (.t 9))]) (.seq (.seq (.reg [o 10 (.mov (.t 1)),o 11 (.bin .lss (.t 10) (.k (.int .i64 0)))]) (.cnd (.t 11) (.seq (.reg [o 4 (.mov (.k (.int .i64 (-1))))]) .ret) .skip)) (.seq (.reg [o 12 (.mov (.t 1)),o 13 (.fad 2 (.t 2)),o 14 (.ld false 1 (.t 13)),o 15 (.len true (.t 14)),o 16 (.bin .sub (.t 12) (.t 15)),o 1 (.mov (.t 16))]) (.seq (.seq (.reg [o 17 (.mov (.t 1)),o 18 (.bin .lss (.t 17) (.k (.int .i64 0)))]) (.cnd (.t 18) (.seq (.reg [o 4 (.mov (.k (.int .i64 (-1))))]) .ret) .skip)) (.seq (.reg [o 19 (.mov (.t 1)),o 4 (.mov (.t 19))]) .ret))))))⟩
theorem ir_l_szLive:compFn Tryz.prog n_l_szLive=some F_l_szLive:=by kernel_rfl
theorem l_szLive_ret (σ:St) (x:Live) (n:Int) (hw:wLive x) (h0:0≤n) (h1:n≤1099511627776):Ret Tryz.prog n_l_szLive [.agg [.bool x.map,.str x.obj,.str x.key,.int .i64 x.val,.int .i64 x.dot.rep,.int .i64 x.dot.seq],gi n] σ (gi (lf n (msLive x))) σ:=by
 obtain⟨w0,w1⟩:=hw
 refine ret_eq ir_l_szLive (Nat.le_of_ble_eq_true rfl) trivial ?_
 simp +contextual (disch:=omega) only[go_sem,F_l_szLive,List.append_nil]
 refine⟨fun hn=> ?_,fun hn=> ?_⟩
 ·have hn:=of_decide_eq_true hn
  unfold msLive lf;rw[if_pos (by omega)]
 have hn:=of_decide_eq_false hn
 try simp(disch:=omega) only[wrap_add]
 refine⟨fun hn=> ?_,fun hn=> ?_⟩
 ·have hn:=of_decide_eq_true hn
  unfold msLive lf;rw[if_pos (by omega)]
 have hn:=of_decide_eq_false hn
 try simp(disch:=omega) only[wrap_add]
 unfold msLive;rw[show lf n (x.obj.size+x.key.size)=n - ((x.obj.size+x.key.size:Nat):Int) by unfold lf;rw[if_neg (by omega)]];try omega
end Go.Proofs.YtffnefmklckngaaGreat.Sy
namespace Go.Proofs.YtffnefmklckngaaGreat.Sy
open Go Go.RowKit
set_option linter.unusedSimpArgs false
set_option linter.unusedVariables false
abbrev n_l_szLiveS:Nat:=64
def F_l_szLiveS:Fn1:=⟨27,[.t 4],(.seq (.reg [o 4 (.mov (.k (.int .i64 0)))]) (.seq (.reg [o 6 (.mov (.t 1)),o 7 (.mov (.t 0)),o 8 (.len false (.t 7)),o 9 (.bin .sub (.t 6) (.t 8)),o 1 (.mov (.t 9))]) (.seq (.seq (.reg [o 10 (.mov (.t 1)),o 11 (.bin .lss (.t 10) (.k (.int .i64 0)))]) (.cnd (.t 11) (.seq (.reg [o 4 (.mov (.k (.int .i64 (-1))))]) .ret) .skip)) (.seq (.seq (.reg [o 5 (.mov (.k (.int .i64 0)))]) (.blk 0 (.lop (.seq (.seq (.reg [o 12 (.mov (.t 5)),o 13 (.mov (.t 0)),o 14 (.len false (.t 13)),o 15 (.bin .lss (.t 12) (.t 14))]) (.cnd (.t 15) .skip (.ext 0))) (.seq (.blk 1 (.seq (.reg [o 18 (.mov (.t 0)),o 19 (.mov (.t 5)),o 20 (.iad 6 (.t 18) (.t 19)),o 21 (.ld true 6 (.t 20)),o 22 (.mov (.t 1)),o 23 (.call 122 [(.t 21),(.t 22)]),o 1 (.mov (.t 23))]) (.seq (.reg [o 24 (.mov (.t 1)),o 25 (.bin .lss (.t 24) (.k (.int .i64 0)))]) (.cnd (.t 25) (.seq (.reg [o 4 (.mov (.k (.int .i64 (-1))))]) .ret) .skip)))) (.reg [o 16 (.mov (.t 5)),o 17 (.bin .add (.t 16) (.k (.int .i64 1))),o 5 (.mov (.t 17))])))))) (.seq (.reg [o 26 (.mov (.t 1)),o 4 (.mov (.t 26))]) .ret)))))⟩
theorem ir_l_szLiveS:compFn Tryz.prog n_l_szLiveS=some F_l_szLiveS:=by kernel_rfl
theorem l_szLiveS_ret (σ:St) (v:GV) (l:List Live) (hR:RS pLive.kd σ v l) (n:Int) (hw:l.length≤9223372036854775807∧∀ y∈l,wLive y) (h0:0≤n) (h1:n≤1099511627776):Ret Tryz.prog n_l_szLiveS [v,gi n] σ (gi (lf n (l.length+sumL msLive l))) σ:=by
 obtain⟨wl,we⟩:=hw
 refine ret_eq ir_l_szLiveS (Nat.le_of_ble_eq_true rfl) trivial ?_
 simp +contextual (disch:=omega) only[go_sem,F_l_szLiveS,hR.len]
 refine⟨fun hn=> ?_,fun hn=> ?_⟩
 ·have hn:=of_decide_eq_true hn
  unfold lf;rw[if_pos (by omega)]
 have hn:=of_decide_eq_false hn
 refine vc_for l.length 5 (fun i env τ=>∃ m:Int,env 0=v∧env 1=gi m∧m=n - l.length - sumL msLive (l.take i)∧0≤m∧σ <+: τ) rfl ⟨n - l.length,rfl,rfl,by simp[sumL],by omega,List.prefix_refl _⟩ ?_ ?_
 ·rintro i env τ hi e5 c0 ⟨m,e0,e1,em,hm,hp⟩
  have h1:=hR.pre hp
  have hs:=sumL_snoc (f:=msLive) hi
  have hst:=sumL_take_le msLive l (i+1)
  simp +contextual (disch:=omega) only[go_sem,c0,e0,e1,e5,hR.len,Live_at h1 hi]
  refine by_ret (l_szLive_ret τ l[i] m (we _ (List.getElem_mem hi)) hm (by omega)) ?_
  simp +contextual (disch:=omega) only[go_sem,c0,e0,e1,e5,hp]
  have g0:= @lf_le m (msLive l[i]) hm
  have g1:= @lf_ge m (msLive l[i])
  refine⟨fun hn=> ?_,fun hn=> ?_⟩
  ·have hn:=lf_neg.1 (of_decide_eq_true hn)
   unfold lf;rw[if_pos (by omega)]
  ·have hn:=of_decide_eq_false hn
   have f:=lf_some hn
   exact⟨_,rfl,by omega,by omega⟩
 ·rintro env τ e5 c0 ⟨m,e0,e1,em,hm,hp⟩
  rw[List.take_length] at em
  simp +contextual (disch:=omega) only[go_sem,c0,e0,e1,e5,hR.len,hp]
  unfold lf;rw[if_neg (by omega)];omega
end Go.Proofs.YtffnefmklckngaaGreat.Sy
namespace Go.Proofs.YtffnefmklckngaaGreat.Sy
open Go Go.RowKit
set_option linter.unusedSimpArgs false
set_option linter.unusedVariables false
abbrev n_l_szTally:Nat:=121
def F_l_szTally:Fn1:=⟨13,[.t 4],(.seq (.reg [o 2 (.box (.t 0)),o 4 (.mov (.k (.int .i64 0)))]) (.seq (.reg [o 5 (.mov (.t 1)),o 6 (.fad 0 (.t 2)),o 7 (.ld false 1 (.t 6)),o 8 (.len true (.t 7)),o 9 (.bin .sub (.t 5) (.t 8)),o 1 (.mov (.t 9))]) (.seq (.seq (.reg [o 10 (.mov (.t 1)),o 11 (.bin .lss (.t 10) (.k (.int .i64 0)))]) (.cnd (.t 11) (.seq (.reg [o 4 (.mov (.k (.int .i64 (-1))))]) .ret) .skip)) (.seq (.reg [o 12 (.mov (.t 1)),o 4 (.mov (.t 12))]) .ret))))⟩
theorem ir_l_szTally:compFn Tryz.prog n_l_szTally=some F_l_szTally:=by kernel_rfl
theorem l_szTally_ret (σ:St) (x:Tally) (n:Int) (hw:wTally x) (h0:0≤n) (h1:n≤1099511627776):Ret Tryz.prog n_l_szTally [.agg [.str x.obj,.int .i64 x.rep,.int .i64 x.sum],gi n] σ (gi (lf n (msTally x))) σ:=by
 have w0:=hw;unfold wTally at w0
 refine ret_eq ir_l_szTally (Nat.le_of_ble_eq_true rfl) trivial ?_
 simp +contextual (disch:=omega) only[go_sem,F_l_szTally,List.append_nil]
 refine⟨fun hn=> ?_,fun hn=> ?_⟩
 ·have hn:=of_decide_eq_true hn
  unfold msTally lf;rw[if_pos (by omega)]
 have hn:=of_decide_eq_false hn
 try simp(disch:=omega) only[wrap_add]
 unfold msTally;rw[show lf n (x.obj.size)=n - ((x.obj.size:Nat):Int) by unfold lf;rw[if_neg (by omega)]];try omega
end Go.Proofs.YtffnefmklckngaaGreat.Sy
namespace Go.Proofs.YtffnefmklckngaaGreat.Sy
open Go Go.RowKit
set_option linter.unusedSimpArgs false
set_option linter.unusedVariables false
abbrev n_l_szTallyS:Nat:=63
def F_l_szTallyS:Fn1:=⟨27,[.t 4],(.seq (.reg [o 4 (.mov (.k (.int .i64 0)))]) (.seq (.reg [o 6 (.mov (.t 1)),o 7 (.mov (.t 0)),o 8 (.len false (.t 7)),o 9 (.bin .sub (.t 6) (.t 8)),o 1 (.mov (.t 9))]) (.seq (.seq (.reg [o 10 (.mov (.t 1)),o 11 (.bin .lss (.t 10) (.k (.int .i64 0)))]) (.cnd (.t 11) (.seq (.reg [o 4 (.mov (.k (.int .i64 (-1))))]) .ret) .skip)) (.seq (.seq (.reg [o 5 (.mov (.k (.int .i64 0)))]) (.blk 0 (.lop (.seq (.seq (.reg [o 12 (.mov (.t 5)),o 13 (.mov (.t 0)),o 14 (.len false (.t 13)),o 15 (.bin .lss (.t 12) (.t 14))]) (.cnd (.t 15) .skip (.ext 0))) (.seq (.blk 1 (.seq (.reg [o 18 (.mov (.t 0)),o 19 (.mov (.t 5)),o 20 (.iad 3 (.t 18) (.t 19)),o 21 (.ld true 3 (.t 20)),o 22 (.mov (.t 1)),o 23 (.call 121 [(.t 21),(.t 22)]),o 1 (.mov (.t 23))]) (.seq (.reg [o 24 (.mov (.t 1)),o 25 (.bin .lss (.t 24) (.k (.int .i64 0)))]) (.cnd (.t 25) (.seq (.reg [o 4 (.mov (.k (.int .i64 (-1))))]) .ret) .skip)))) (.reg [o 16 (.mov (.t 5)),o 17 (.bin .add (.t 16) (.k (.int .i64 1))),o 5 (.mov (.t 17))])))))) (.seq (.reg [o 26 (.mov (.t 1)),o 4 (.mov (.t 26))]) .ret)))))⟩
theorem ir_l_szTallyS:compFn Tryz.prog n_l_szTallyS=some F_l_szTallyS:=by kernel_rfl
theorem l_szTallyS_ret (σ:St) (v:GV) (l:List Tally) (hR:RS pTally.kd σ v l) (n:Int) (hw:l.length≤9223372036854775807∧∀ y∈l,wTally y) (h0:0≤n) (h1:n≤1099511627776):Ret Tryz.prog n_l_szTallyS [v,gi n] σ (gi (lf n (l.length+sumL msTally l))) σ:=by
 obtain⟨wl,we⟩:=hw
 refine ret_eq ir_l_szTallyS (Nat.le_of_ble_eq_true rfl) trivial ?_
 simp +contextual (disch:=omega) only[go_sem,F_l_szTallyS,hR.len]
 refine⟨fun hn=> ?_,fun hn=> ?_⟩
 ·have hn:=of_decide_eq_true hn
  unfold lf;rw[if_pos (by omega)]
 have hn:=of_decide_eq_false hn
 refine vc_for l.length 5 (fun i env τ=>∃ m:Int,env 0=v∧env 1=gi m∧m=n - l.length - sumL msTally (l.take i)∧0≤m∧σ <+: τ) rfl ⟨n - l.length,rfl,rfl,by simp[sumL],by omega,List.prefix_refl _⟩ ?_ ?_
 ·rintro i env τ hi e5 c0 ⟨m,e0,e1,em,hm,hp⟩
  have h1:=hR.pre hp
  have hs:=sumL_snoc (f:=msTally) hi
  have hst:=sumL_take_le msTally l (i+1)
  simp +contextual (disch:=omega) only[go_sem,c0,e0,e1,e5,hR.len,Tally_at h1 hi]
  refine by_ret (l_szTally_ret τ l[i] m (we _ (List.getElem_mem hi)) hm (by omega)) ?_
  simp +contextual (disch:=omega) only[go_sem,c0,e0,e1,e5,hp]
  have g0:= @lf_le m (msTally l[i]) hm
  have g1:= @lf_ge m (msTally l[i])
  refine⟨fun hn=> ?_,fun hn=> ?_⟩
  ·have hn:=lf_neg.1 (of_decide_eq_true hn)
   unfold lf;rw[if_pos (by omega)]
  ·have hn:=of_decide_eq_false hn
   have f:=lf_some hn
   exact⟨_,rfl,by omega,by omega⟩
 ·rintro env τ e5 c0 ⟨m,e0,e1,em,hm,hp⟩
  rw[List.take_length] at em
  simp +contextual (disch:=omega) only[go_sem,c0,e0,e1,e5,hR.len,hp]
  unfold lf;rw[if_neg (by omega)];omega
end Go.Proofs.YtffnefmklckngaaGreat.Sy
namespace Go.Proofs.YtffnefmklckngaaGreat.Sy
open Go Go.RowKit
set_option linter.unusedSimpArgs false
set_option linter.unusedVariables false
abbrev n_l_szDelta:Nat:=102
def F_l_szDelta:Fn1:=⟨42,[.t 4],(.seq (.reg [o 2 (.box (.t 0)),o 4 (.mov (.k (.int .i64 0)))]) (.seq (.reg [o 5 (.fad 0 (.t 2)),o 6 (.ld false 1 (.t 5)),o 7 (.mov (.t 1)),o 8 (.call 62 [(.t 6),(.t 7)]),o 1 (.mov (.t 8))]) (.seq (.seq (.reg [o 9 (.mov (.t 1)),o 10 (.bin .lss (.t 9) (.k (.int .i64 0)))]) (.cnd (.t 10) (.seq (.reg [o 4 (.mov (.k (.int .i64 (-1))))]) .ret) .skip)) (.seq (.reg [o 11 (.fad 1 (.t 2)),o 12 (.ld false 1 (.t 11)),o 13 (.mov (.t 1)),o 14 (.call 62 [(.t 12),(.t 13)]),o 1 (.mov (.t 14))]) (.seq (.seq (.reg [o 15 (.mov (.t 1)),o 16 (.bin .lss (.t 15) (.k (.int .i64 0)))]) (.cnd (.t 16) (.seq (.reg [o 4 (.mov (.k (.int .i64 (-1))))]) .ret) .skip)) (.seq (.reg [o 17 (.fad 2 (.t 2)),o 18 (.ld false 1 (.t 17)),o 19 (.mov (.t 1)),o 20 (.call 63 [(.t 18),(.t 19)]),o 1 (.mov (.t 20))]) (.seq (.seq (.reg [o 21 (.mov (.t 1)),o 22 (.bin .lss (.t 21) (.k (.int .i64 0)))]) (.cnd (.t 22) (.seq (.reg [o 4 (.mov (.k (.int .i64 (-1))))]) .ret) .skip)) (.seq (.reg [o 23 (.fad 3 (.t 2)),o 24 (.ld false 1 (.t 23)),o 25 (.mov (.t 1)),o 26 (.call 64 [(.t 24),(.t 25)]),o 1 (.mov (.t 26))]) (.seq (.seq (.reg [o 27 (.mov (.t 1)),o 28 (.bin .lss (.t 27) (.k (.int .i64 0)))]) (.cnd (.t 28) (.seq (.reg [o 4 (.mov (.k (.int .i64 (-1))))]) .ret) .skip)) (.seq (.reg [o 29 (.fad 4 (.t 2)),o 30 (.ld false 1 (.t 29)),o 31 (.mov (.t 1)),o 32 (.call 162 [(.t 30),(.t 31)]),o 1 (.mov (.t 32))]) (.seq (.seq (.reg [o 33 (.mov (.t 1)),o 34 (.bin .lss (.t 33) (.k (.int .i64 0)))]) (.cnd (.t 34) (.seq (.reg [o 4 (.mov (.k (.int .i64 (-1))))]) .ret) .skip)) (.seq (.reg [o 35 (.fad 5 (.t 2)),o 36 (.ld false 1 (.t 35)),o 37 (.mov (.t 1)),o 38 (.call 65 [(.t 36),(.t 37)]),o 1 (.mov (.t 38))]) (.seq (.seq (.reg [o 39 (.mov (.t 1)),o 40 (.bin .lss (.t 39) (.k (.int .i64 0)))]) (.cnd (.t 40) (.seq (.reg [o 4 (.mov (.k (.int .i64 (-1))))]) .ret) .skip)) (.seq (.reg [o 41 (.mov (.t 1)),o 4 (.mov (.t 41))]) .ret))))))))))))))⟩
theorem ir_l_szDelta:compFn Tryz.prog n_l_szDelta=some F_l_szDelta:=by kernel_rfl
theorem l_szDelta_ret (σ:St) (cs:List GV) (x:Delta) (hR:kDelta.R σ x cs) (n:Int) (hw:wDelta x) (h0:0≤n) (h1:n≤1099511627776):Ret Tryz.prog n_l_szDelta [.agg cs,gi n] σ (gi (lf n (msDelta x))) σ:=by
 obtain⟨v0,v1,v2,v3,v4,v5,rfl,q0,q1,q2,q3,q4,q5⟩:=hR
 obtain⟨w0,w1,w2,w3,w4,w5⟩:=hw
 refine ret_eq ir_l_szDelta (Nat.le_of_ble_eq_true rfl) trivial ?_
 simp +contextual (disch:=omega) only[go_sem,F_l_szDelta,List.append_nil]
 refine by_ret (l_szIntS_ret _ v0 x.base (q0.pre (pre1 _ _)) (n) w0 (by omega) (by omega)) ?_
 simp +contextual (disch:=omega) only[go_sem,List.append_nil]
 have g0:= @lf_le (n) (x.base.length) (by omega)
 refine⟨fun hn=> ?_,fun hn=> ?_⟩
 ·have hn:=of_decide_eq_true hn
  have hn:=lf_neg.1 hn
  unfold msDelta lf;rw[if_pos (by omega)]
 have hn:=of_decide_eq_false hn
 have f0:=lf_some hn
 try simp(disch:=omega) only[wrap_add]
 refine by_ret (l_szIntS_ret _ v1 x.know (q1.pre (pre1 _ _)) (lf (n) (x.base.length)) w1 (by omega) (by omega)) ?_
 simp +contextual (disch:=omega) only[go_sem,List.append_nil]
 have g1:= @lf_le (lf (n) (x.base.length)) (x.know.length) (by omega)
 refine⟨fun hn=> ?_,fun hn=> ?_⟩
 ·have hn:=of_decide_eq_true hn
  have hn:=lf_neg.1 hn
  unfold msDelta lf;rw[if_pos (by omega)]
 have hn:=of_decide_eq_false hn
 have f1:=lf_some hn
 try simp(disch:=omega) only[wrap_add]
 refine by_ret (l_szTallyS_ret _ v2 x.tallies (q2.pre (pre1 _ _)) (lf (lf (n) (x.base.length)) (x.know.length)) w2 (by omega) (by omega)) ?_
 simp +contextual (disch:=omega) only[go_sem,List.append_nil]
 have g2:= @lf_le (lf (lf (n) (x.base.length)) (x.know.length)) ((x.tallies.length+sumL msTally x.tallies)) (by omega)
 refine⟨fun hn=> ?_,fun hn=> ?_⟩
 ·have hn:=of_decide_eq_true hn
  have hn:=lf_neg.1 hn
  unfold msDelta lf;rw[if_pos (by omega)]
 have hn:=of_decide_eq_false hn
 have f2:=lf_some hn
 try simp(disch:=omega) only[wrap_add]
 refine by_ret (l_szLiveS_ret _ v3 x.lives (q3.pre (pre1 _ _)) (lf (lf (lf (n) (x.base.length)) (x.know.length)) ((x.tallies.length+sumL msTally x.tallies))) w3 (by omega) (by omega)) ?_
 simp +contextual (disch:=omega) only[go_sem,List.append_nil]
 have g3:= @lf_le (lf (lf (lf (n) (x.base.length)) (x.know.length)) ((x.tallies.length+sumL msTally x.tallies))) ((x.lives.length+sumL msLive x.lives)) (by omega)
 refine⟨fun hn=> ?_,fun hn=> ?_⟩
 ·have hn:=of_decide_eq_true hn
  have hn:=lf_neg.1 hn
  unfold msDelta lf;rw[if_pos (by omega)]
 have hn:=of_decide_eq_false hn
 have f3:=lf_some hn
 try simp(disch:=omega) only[wrap_add]
 refine by_ret (l_szDotS_ret _ v4 x.dead (q4.pre (pre1 _ _)) (lf (lf (lf (lf (n) (x.base.length)) (x.know.length)) ((x.tallies.length+sumL msTally x.tallies))) ((x.lives.length+sumL msLive x.lives))) w4 (by omega) (by omega)) ?_
 simp +contextual (disch:=omega) only[go_sem,List.append_nil]
 have g4:= @lf_le (lf (lf (lf (lf (n) (x.base.length)) (x.know.length)) ((x.tallies.length+sumL msTally x.tallies))) ((x.lives.length+sumL msLive x.lives))) (x.dead.length) (by omega)
 refine⟨fun hn=> ?_,fun hn=> ?_⟩
 ·have hn:=of_decide_eq_true hn
  have hn:=lf_neg.1 hn
  unfold msDelta lf;rw[if_pos (by omega)]
 have hn:=of_decide_eq_false hn
 have f4:=lf_some hn
 try simp(disch:=omega) only[wrap_add]
 refine by_ret (l_szCellS_ret _ v5 x.cells (q5.pre (pre1 _ _)) (lf (lf (lf (lf (lf (n) (x.base.length)) (x.know.length)) ((x.tallies.length+sumL msTally x.tallies))) ((x.lives.length+sumL msLive x.lives))) (x.dead.length)) w5 (by omega) (by omega)) ?_
 simp +contextual (disch:=omega) only[go_sem,List.append_nil]
 have g5:= @lf_le (lf (lf (lf (lf (lf (n) (x.base.length)) (x.know.length)) ((x.tallies.length+sumL msTally x.tallies))) ((x.lives.length+sumL msLive x.lives))) (x.dead.length)) ((x.cells.length+sumL msCell x.cells)) (by omega)
 refine⟨fun hn=> ?_,fun hn=> ?_⟩
 ·have hn:=of_decide_eq_true hn
  have hn:=lf_neg.1 hn
  unfold msDelta lf;rw[if_pos (by omega)]
 have hn:=of_decide_eq_false hn
 have f5:=lf_some hn
 try simp(disch:=omega) only[wrap_add]
 unfold msDelta;rw[show lf n (x.base.length+x.know.length+(x.tallies.length+sumL msTally x.tallies)+(x.lives.length+sumL msLive x.lives)+x.dead.length+(x.cells.length+sumL msCell x.cells))=n - ((x.base.length+x.know.length+(x.tallies.length+sumL msTally x.tallies)+(x.lives.length+sumL msLive x.lives)+x.dead.length+(x.cells.length+sumL msCell x.cells):Nat):Int) by unfold lf;rw[if_neg (by omega)]];try omega
end Go.Proofs.YtffnefmklckngaaGreat.Sy
namespace Go.Proofs.YtffnefmklckngaaGreat.Sy
open Go Go.RowKit
set_option linter.unusedSimpArgs false
set_option linter.unusedVariables false
abbrev n_l_szUnit:Nat:=35
def F_l_szUnit:Fn1:=⟨18,[.t 4],(.seq (.reg [o 2 (.box (.t 0)),o 4 (.mov (.k (.int .i64 0)))]) (.seq (.reg [o 5 (.fad 1 (.t 2)),o 6 (.ld true 10 (.t 5)),o 7 (.mov (.t 1)),o 8 (.call 101 [(.t 6),(.t 7)]),o 1 (.mov (.t 8))]) (.seq (.seq (.reg [o 9 (.mov (.t 1)),o 10 (.bin .lss (.t 9) (.k (.int .i64 0)))]) (.cnd (.t 10) (.seq (.reg [o 4 (.mov (.k (.int .i64 (-1))))]) .ret) .skip)) (.seq (.reg [o 11 (.fad 11 (.t 2)),o 12 (.ld true 6 (.t 11)),o 13 (.mov (.t 1)),o 14 (.call 102 [(.t 12),(.t 13)]),o 1 (.mov (.t 14))]) (.seq (.seq (.reg [o 15 (.mov (.t 1)),o 16 (.bin .lss (.t 15) (.k (.int .i64 0)))]) (.cnd (.t 16) (.seq (.reg [o 4 (.mov (.k (.int .i64 (-1))))]) .ret) .skip)) (.seq (.reg [o 17 (.mov (.t 1)),o 4 (.mov (.t 17))]) .ret))))))⟩
theorem ir_l_szUnit:compFn Tryz.prog n_l_szUnit=some F_l_szUnit:=by kernel_rfl
theorem l_szUnit_ret (σ:St) (cs:List GV) (x:Unit_) (hR:kUnit_.R σ x cs) (n:Int) (hw:wUnit x) (h0:0≤n) (h1:n≤1099511627776):Ret Tryz.prog n_l_szUnit [.agg cs,gi n] σ (gi (lf n (msUnit x))) σ:=by
 obtain⟨v1,v2,rfl,q1,q2⟩:=hR
 obtain⟨w0,w1⟩:=hw
 have a1:=q1
 have a2:=q2
 obtain⟨kv,rfl,_⟩:=q1
 obtain⟨d0,d1,d2,d3,d4,d5,rfl,_⟩:=q2
 suffices key:Ret Tryz.prog n_l_szUnit [.agg (.bool x.batch::[.int .i64 x.act.dot.rep,.int .i64 x.act.dot.seq,.int .i64 x.act.time,kv,.int .i64 x.act.kind,.str x.act.obj,.str x.act.key,.int .i64 x.act.val,.int .i64 x.act.ref.rep,.int .i64 x.act.ref.seq,d0,d1,d2,d3,d4,d5]),gi n] σ (gi (lf n (msUnit x))) σ from key
 refine ret_eq ir_l_szUnit (Nat.le_of_ble_eq_true rfl) trivial ?_
 simp +contextual (disch:=omega) only[go_sem,F_l_szUnit,List.append_nil]
 refine by_ret (l_szAct_ret _ _ x.act (kAct.pre a1 (pre1 _ _)) (n) w0 (by omega) (by omega)) ?_
 simp +contextual (disch:=omega) only[go_sem,List.append_nil]
 have g0:= @lf_le (n) (msAct x.act) (by omega)
 refine⟨fun hn=> ?_,fun hn=> ?_⟩
 ·have hn:=of_decide_eq_true hn
  have hn:=lf_neg.1 hn
  unfold msUnit lf;rw[if_pos (by omega)]
 have hn:=of_decide_eq_false hn
 have f0:=lf_some hn
 try simp(disch:=omega) only[wrap_add]
 refine by_ret (l_szDelta_ret _ _ x.delta (kDelta.pre a2 (pre1 _ _)) (lf (n) (msAct x.act)) w1 (by omega) (by omega)) ?_
 simp +contextual (disch:=omega) only[go_sem,List.append_nil]
 have g1:= @lf_le (lf (n) (msAct x.act)) (msDelta x.delta) (by omega)
 refine⟨fun hn=> ?_,fun hn=> ?_⟩
 ·have hn:=of_decide_eq_true hn
  have hn:=lf_neg.1 hn
  unfold msUnit lf;rw[if_pos (by omega)]
 have hn:=of_decide_eq_false hn
 have f1:=lf_some hn
 try simp(disch:=omega) only[wrap_add]
 unfold msUnit;rw[show lf n (msAct x.act+msDelta x.delta)=n - ((msAct x.act+msDelta x.delta:Nat):Int) by unfold lf;rw[if_neg (by omega)]];try omega
end Go.Proofs.YtffnefmklckngaaGreat.Sy
namespace Go.Proofs.YtffnefmklckngaaGreat.Sy
open Go Go.RowKit
set_option linter.unusedSimpArgs false
set_option linter.unusedVariables false
abbrev n_l_szUnitS:Nat:=8
def F_l_szUnitS:Fn1:=⟨27,[.t 4],(.seq (.reg [o 4 (.mov (.k (.int .i64 0)))]) (.seq (.reg [o 6 (.mov (.t 1)),o 7 (.mov (.t 0)),o 8 (.len false (.t 7)),o 9 (.bin .sub (.t 6) (.t 8)),o 1 (.mov (.t 9))]) (.seq (.seq (.reg [o 10 (.mov (.t 1)),o 11 (.bin .lss (.t 10) (.k (.int .i64 0)))]) (.cnd (.t 11) (.seq (.reg [o 4 (.mov (.k (.int .i64 (-1))))]) .ret) .skip)) (.seq (.seq (.reg [o 5 (.mov (.k (.int .i64 0)))]) (.blk 0 (.lop (.seq (.seq (.reg [o 12 (.mov (.t 5)),o 13 (.mov (.t 0)),o 14 (.len false (.t 13)),o 15 (.bin .lss (.t 12) (.t 14))]) (.cnd (.t 15) .skip (.ext 0))) (.seq (.blk 1 (.seq (.reg [o 18 (.mov (.t 0)),o 19 (.mov (.t 5)),o 20 (.iad 17 (.t 18) (.t 19)),o 21 (.ld true 17 (.t 20)),o 22 (.mov (.t 1)),o 23 (.call 35 [(.t 21),(.t 22)]),o 1 (.mov (.t 23))]) (.seq (.reg [o 24 (.mov (.t 1)),o 25 (.bin .lss (.t 24) (.k (.int .i64 0)))]) (.cnd (.t 25) (.seq (.reg [o 4 (.mov (.k (.int .i64 (-1))))]) .ret) .skip)))) (.reg [o 16 (.mov (.t 5)),o 17 (.bin .add (.t 16) (.k (.int .i64 1))),o 5 (.mov (.t 17))])))))) (.seq (.reg [o 26 (.mov (.t 1)),o 4 (.mov (.t 26))]) .ret)))))⟩
theorem ir_l_szUnitS:compFn Tryz.prog n_l_szUnitS=some F_l_szUnitS:=by kernel_rfl
theorem l_szUnitS_ret (σ:St) (v:GV) (l:List Unit_) (hR:RS kUnit_ σ v l) (n:Int) (hw:l.length≤9223372036854775807∧∀ y∈l,wUnit y) (h0:0≤n) (h1:n≤1099511627776):Ret Tryz.prog n_l_szUnitS [v,gi n] σ (gi (lf n (l.length+sumL msUnit l))) σ:=by
 obtain⟨wl,we⟩:=hw
 refine ret_eq ir_l_szUnitS (Nat.le_of_ble_eq_true rfl) trivial ?_
 simp +contextual (disch:=omega) only[go_sem,F_l_szUnitS,hR.len]
 refine⟨fun hn=> ?_,fun hn=> ?_⟩
 ·have hn:=of_decide_eq_true hn
  unfold lf;rw[if_pos (by omega)]
 have hn:=of_decide_eq_false hn
 refine vc_for l.length 5 (fun i env τ=>∃ m:Int,env 0=v∧env 1=gi m∧m=n - l.length - sumL msUnit (l.take i)∧0≤m∧σ <+: τ) rfl ⟨n - l.length,rfl,rfl,by simp[sumL],by omega,List.prefix_refl _⟩ ?_ ?_
 ·rintro i env τ hi e5 c0 ⟨m,e0,e1,em,hm,hp⟩
  have h1:=hR.pre hp
  have hs:=sumL_snoc (f:=msUnit) hi
  have hst:=sumL_take_le msUnit l (i+1)
  obtain⟨cs,hc,hcr⟩:=unit_at' h1 hi
  simp +contextual (disch:=omega) only[go_sem,c0,e0,e1,e5,hR.len,hc]
  refine by_ret (l_szUnit_ret τ cs l[i] hcr m (we _ (List.getElem_mem hi)) hm (by omega)) ?_
  simp +contextual (disch:=omega) only[go_sem,c0,e0,e1,e5,hp]
  have g0:= @lf_le m (msUnit l[i]) hm
  have g1:= @lf_ge m (msUnit l[i])
  refine⟨fun hn=> ?_,fun hn=> ?_⟩
  ·have hn:=lf_neg.1 (of_decide_eq_true hn)
   unfold lf;rw[if_pos (by omega)]
  ·have hn:=of_decide_eq_false hn
   have f:=lf_some hn
   exact⟨_,rfl,by omega,by omega⟩
 ·rintro env τ e5 c0 ⟨m,e0,e1,em,hm,hp⟩
  rw[List.take_length] at em
  simp +contextual (disch:=omega) only[go_sem,c0,e0,e1,e5,hR.len,hp]
  unfold lf;rw[if_neg (by omega)];omega
end Go.Proofs.YtffnefmklckngaaGreat.Sy
namespace Go.Proofs.YtffnefmklckngaaGreat.Sy
open Go Go.RowKit
theorem zTally_w {x:Tally} (h:zTally x):wTally x:=h.1
theorem zTallyS_w {x:List Tally} (h:((x).length≤9223372036854775807∧∀ y6∈x,zTally (y6))):x.length≤9223372036854775807∧∀ y∈x,wTally y:=⟨h.1,fun y hy=>zTally_w (h.2 y hy)⟩
theorem zLive_w {x:Live} (h:zLive x):wLive x:=⟨h.2.1,h.2.2.1⟩
theorem zLiveS_w {x:List Live} (h:((x).length≤9223372036854775807∧∀ y5∈x,zLive (y5))):x.length≤9223372036854775807∧∀ y∈x,wLive y:=⟨h.1,fun y hy=>zLive_w (h.2 y hy)⟩
theorem zCell_w {x:Cell} (h:zCell x):wCell x:=h.1
theorem zCellS_w {x:List Cell} (h:((x).length≤9223372036854775807∧∀ y5∈x,zCell (y5))):x.length≤9223372036854775807∧∀ y∈x,wCell y:=⟨h.1,fun y hy=>zCell_w (h.2 y hy)⟩
theorem zAct_w {x:Act} (h:zAct x):wAct x:=⟨h.2.2.1.1,h.2.2.2.2.1,h.2.2.2.2.2.1⟩
theorem zDelta_w {x:Delta} (h:zDelta x):wDelta x:=⟨h.1.1,h.2.1.1,zTallyS_w h.2.2.1,zLiveS_w h.2.2.2.1,h.2.2.2.2.1.1,zCellS_w h.2.2.2.2.2⟩
theorem zUnit__w {x:Unit_} (h:zUnit_ x):wUnit x:=⟨zAct_w h.2.1,zDelta_w h.2.2⟩
theorem zUnitS_w {x:List Unit_} (h:((x).length≤9223372036854775807∧∀ y6∈x,zUnit_ (y6))):x.length≤9223372036854775807∧∀ y∈x,wUnit y:=⟨h.1,fun y hy=>zUnit__w (h.2 y hy)⟩
end Go.Proofs.YtffnefmklckngaaGreat.Sy
namespace Go.Proofs.YtffnefmklckngaaGreat.Sy
open Go Go.RowKit
set_option linter.unusedSimpArgs false
set_option linter.unusedVariables false
set_option maxRecDepth 4000
abbrev n_l_FnExactMayStand:Nat:=7
def F_l_FnExactMayStand:Fn1:=⟨27,[.t 2],(.seq (.reg [o 2 (.mov (.k (.bool false)))]) (.seq (.reg [o 3 (.mov (.k (.int .i64 1048576)))]) (.seq (.reg [o 7 (.mov (.t 0)),o 8 (.mov (.t 3)),o 9 (.call 8 [(.t 7),(.t 8)]),o 3 (.mov (.t 9))]) (.seq (.seq (.reg [o 10 (.mov (.t 3)),o 11 (.bin .lss (.t 10) (.k (.int .i64 0)))]) (.cnd (.t 11) (.seq (.reg [o 2 (.mov (.k (.bool true)))]) .ret) .skip)) (.seq (.reg [o 12 (.mov (.t 0)),o 13 (.call 10 [(.t 12)]),o 14 (.call 33 [(.t 13)]),o 4 (.mov (.t 14))]) (.seq (.reg [o 15 (.mov (.t 0)),o 16 (.call 10 [(.t 15)]),o 5 (.mov (.t 16))]) (.seq (.reg [o 17 (.mov (.t 5)),o 18 (.call 34 [(.t 17)]),o 6 (.mov (.t 18))]) (.seq (.seq (.reg [o 19 (.mov (.t 6)),o 20 (.mov (.t 4)),o 21 (.eqb true (.t 19) (.t 20))]) (.cnd (.t 21) (.seq (.reg [o 2 (.mov (.k (.bool false)))]) .ret) .skip)) (.seq (.seq (.reg [o 22 (.mov (.t 5)),o 23 (.mov (.t 0)),o 24 (.call 10 [(.t 23)]),o 25 (.call 13 [(.t 22),(.t 24)]),o 26 (.un .not (.t 25))]) (.cnd (.t 26) (.seq (.reg [o 2 (.mov (.k (.bool false)))]) .ret) .skip)) (.seq (.reg [o 2 (.mov (.k (.bool true)))]) .ret))))))))))⟩
theorem ir_l_FnExactMayStand:compFn Tryz.prog n_l_FnExactMayStand=some F_l_FnExactMayStand:=by kernel_rfl
theorem law_MayStand (σ:St) (v0:GV) (x0:List Unit_) (hR0:Sl eUnit_ σ v0 x0) (hw0:((x0).length≤9223372036854775807∧∀ y6∈x0,zUnit_ (y6))):∃ r τ,Ret Tryz.prog n_l_FnExactMayStand [v0] σ r τ∧r= .bool true:=by
 have hR0:RS kUnit_ σ v0 x0:=hR0.rs rfl (brUnit_)
 have hw0:=zUnitS_w hw0
 refine ret_law ir_l_FnExactMayStand (Nat.le_of_ble_eq_true rfl) ?_
 have hB:σ <+: σ:=List.prefix_refl _
 simp +contextual (disch:=omega) only[go_sem,F_l_FnExactMayStand,F_l_FnExactMayStand]
 refine by_ret (l_szUnitS_ret _ v0 x0 (hR0.pre (hB.trans (List.prefix_refl _))) (1048576) hw0 (by omega) (by omega)) ?_
 have ge0:= @lf_ge (1048576) ((x0.length+sumL msUnit x0))
 have gm0:= @lf_le (1048576) ((x0.length+sumL msUnit x0)) (by omega)
 try simp +contextual (disch:=omega) only[go_sem,List.append_nil,ite_self,ne_eq,not_true_eq_false,bne_self_eq_false,beq_self_eq_true,hR0.len]
 intro hn
 have hn:=of_decide_eq_false hn
 have hf0:=lf_some hn
 try simp +contextual (disch:=omega) only[go_sem,List.append_nil,ite_self,ne_eq,not_true_eq_false,bne_self_eq_false,beq_self_eq_true,hR0.len]
 have H:=Hp.refl (σ)
 try simp +contextual (disch:=omega) only[go_sem,List.append_nil,ite_self,ne_eq,not_true_eq_false,bne_self_eq_false,beq_self_eq_true,hR0.len]
 obtain⟨u1,τ1,R1,K1⟩:=l_toUnitS_ret _ v0 x0 (hR0.pre (hB.trans H.sub)) (by omega)
 refine by_hp R1 K1 ?_
 have H:=H.add K1
 try simp only[List.cons_append,List.nil_append] at H
 try simp +contextual (disch:=omega) only[go_sem,List.append_nil,ite_self,ne_eq,not_true_eq_false,bne_self_eq_false,beq_self_eq_true,hR0.len]
 refine by_ret (s_MayStand_ret _ u1 x0 (H.sl 0 rfl) (by omega)) ?_
 have hpw:=H.sub
 have H:=H.restart
 try simp +contextual (disch:=omega) only[go_sem,List.append_nil,ite_self,ne_eq,not_true_eq_false,bne_self_eq_false,beq_self_eq_true,hR0.len]
 obtain⟨u3,τ3,R3,K3⟩:=l_toUnitS_ret _ v0 x0 (hR0.pre (hB.trans (hpw.trans H.sub))) (by omega)
 refine by_hp R3 K3 ?_
 have H:=H.add K3
 try simp only[List.cons_append,List.nil_append] at H
 try simp +contextual (disch:=omega) only[go_sem,List.append_nil,ite_self,ne_eq,not_true_eq_false,bne_self_eq_false,beq_self_eq_true,hR0.len]
 refine by_ret (i_MayStand_ret _ u3 x0 (H.sl 0 rfl) (by omega)) ?_
 try simp +contextual (disch:=omega) only[go_sem,List.append_nil,ite_self,ne_eq,not_true_eq_false,bne_self_eq_false,beq_self_eq_true,hR0.len]
 try simp +contextual (disch:=omega) only[go_sem,List.append_nil,ite_self,ne_eq,not_true_eq_false,bne_self_eq_false,beq_self_eq_true,hR0.len]
 try simp +contextual (disch:=omega) only[go_sem,List.append_nil,ite_self,ne_eq,not_true_eq_false,bne_self_eq_false,beq_self_eq_true,hR0.len]
 obtain⟨u5,τ5,R5,K5⟩:=l_toUnitS_ret _ v0 x0 (hR0.pre (hB.trans (hpw.trans H.sub))) (by omega)
 refine by_hp R5 K5 ?_
 have H:=H.add K5
 try simp only[List.cons_append,List.nil_append] at H
 try simp +contextual (disch:=omega) only[go_sem,List.append_nil,ite_self,ne_eq,not_true_eq_false,bne_self_eq_false,beq_self_eq_true,hR0.len]
 refine by_ret (l_eqUnitS_ret _ _ _ _ _ (H.sl 1 rfl) (H.sl 0 rfl) (by omega)) ?_
 try simp +contextual (disch:=omega) only[go_sem,List.append_nil,ite_self,ne_eq,not_true_eq_false,bne_self_eq_false,beq_self_eq_true,hR0.len,decide_true,eq_self]
 exact(hB.trans (hpw.trans H.sub)).length_le
end Go.Proofs.YtffnefmklckngaaGreat.Sy
