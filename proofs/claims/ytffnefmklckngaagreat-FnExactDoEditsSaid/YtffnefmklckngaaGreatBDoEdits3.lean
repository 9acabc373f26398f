/- Texts of this proof, one behind the other. -/
import Derived.Test.YtffnefmklckngaaGreatBDoEdits2
import Derived.Test.YtffnefmklckngaaGreatProg
import Derived.KernelRfl
namespace Go.Proofs.YtffnefmklckngaaGreat.Sy
open Go Go.RowKit
set_option linter.unusedSimpArgs false
set_option linter.unusedVariables false
set_option maxRecDepth 4000
abbrev n_i_withLive:Nat:=154
def F_i_withLive:Fn1:=⟨37,[.t 4],(.seq (.reg [o 3 (.box (.t 1)),o 4 (.mov (.k .nilS))]) (.seq (.reg [o 5 (.mov (.k (.int .i64 0)))]) (.seq (.blk 0 (.lop (.seq (.seq (.drw [o 7 (.mov (.t 5)),o 8 (.mov (.t 0)),o 9 (.len false (.t 8)),o 10 (.bin .lss (.t 7) (.t 9)),o 11 (.mov (.t 10)),og 12 11 true (.mov (.t 0)),og 13 11 true (.mov (.t 5)),og 14 11 true (.iad 6 (.t 12) (.t 13)),og 15 11 true (.fad 4 (.t 14)),og 16 11 true (.ld true 2 (.t 15)),og 17 11 true (.fad 4 (.t 3)),og 18 11 true (.ld true 2 (.t 17))] [og 19 11 true (.call 174 [(.t 16),(.t 18)]),og 20 11 true (.bin .lss (.t 19) (.k (.int .i64 0))),o 21 (.pick (.t 11) (.t 20) (.k (.bool false)))]) (.cnd (.t 21) .skip (.ext 0))) (.blk 1 (.reg [o 22 (.mov (.t 5)),o 23 (.bin .add (.t 22) (.k (.int .i64 1))),o 5 (.mov (.t 23))]))))) (.seq (.drw [o 24 (.lit 6 0 [] []),o 25 (.mov (.t 0)),o 26 (.mov (.t 5)),o 27 (.cut 6 (.t 25) none (some (.t 26))),o 28 (.app 6 64 [(.bool false),(.str ⟨#[]⟩),(.str ⟨#[]⟩),(.int .i64 0),(.int .i64 0),(.int .i64 0)] (.t 24) (.t 27)),o 29 (.ld true 6 (.t 3)),o 30 (.lit 6 1 [(.bool false),(.str ⟨#[]⟩),(.str ⟨#[]⟩),(.int .i64 0),(.int .i64 0),(.int .i64 0)] [(0,6,(.t 29))])] [o 31 (.app 6 64 [(.bool false),(.str ⟨#[]⟩),(.str ⟨#[]⟩),(.int .i64 0),(.int .i64 0),(.int .i64 0)] (.t 28) (.t 30)),o 6 (.mov (.t 31))]) (.seq (.reg [o 32 (.mov (.t 6)),o 33 (.mov (.t 0)),o 34 (.mov (.t 5)),o 35 (.cut 6 (.t 33) (some (.t 34)) none),o 36 (.app 6 64 [(.bool false),(.str ⟨#[]⟩),(.str ⟨#[]⟩),(.int .i64 0),(.int .i64 0),(.int .i64 0)] (.t 32) (.t 35)),o 4 (.mov (.t 36))]) .ret)))))⟩
theorem ir_i_withLive:compFn Tryz.prog n_i_withLive=some F_i_withLive:=by kernel_rfl
abbrev n_i_withCell:Nat:=156
def F_i_withCell:Fn1:=⟨37,[.t 4],(.seq (.reg [o 3 (.box (.t 1)),o 4 (.mov (.k .nilS))]) (.seq (.reg [o 5 (.mov (.k (.int .i64 0)))]) (.seq (.blk 0 (.lop (.seq (.seq (.drw [o 7 (.mov (.t 5)),o 8 (.mov (.t 0)),o 9 (.len false (.t 8)),o 10 (.bin .lss (.t 7) (.t 9)),o 11 (.mov (.t 10)),og 12 11 true (.mov (.t 0)),og 13 11 true (.mov (.t 5)),og 14 11 true (.iad 8 (.t 12) (.t 13)),og 15 11 true (.fad 1 (.t 14)),og 16 11 true (.ld true 2 (.t 15)),og 17 11 true (.fad 1 (.t 3)),og 18 11 true (.ld true 2 (.t 17))] [og 19 11 true (.call 174 [(.t 16),(.t 18)]),og 20 11 true (.bin .lss (.t 19) (.k (.int .i64 0))),o 21 (.pick (.t 11) (.t 20) (.k (.bool false)))]) (.cnd (.t 21) .skip (.ext 0))) (.blk 1 (.reg [o 22 (.mov (.t 5)),o 23 (.bin .add (.t 22) (.k (.int .i64 1))),o 5 (.mov (.t 23))]))))) (.seq (.drw [o 24 (.lit 8 0 [] []),o 25 (.mov (.t 0)),o 26 (.mov (.t 5)),o 27 (.cut 8 (.t 25) none (some (.t 26))),o 28 (.app 8 72 [(.str ⟨#[]⟩),(.int .i64 0),(.int .i64 0),(.int .i64 0),(.int .i64 0),(.int .i64 0),(.int .i64 0),(.bool false)] (.t 24) (.t 27)),o 29 (.ld true 8 (.t 3)),o 30 (.lit 8 1 [(.str ⟨#[]⟩),(.int .i64 0),(.int .i64 0),(.int .i64 0),(.int .i64 0),(.int .i64 0),(.int .i64 0),(.bool false)] [(0,8,(.t 29))])] [o 31 (.app 8 72 [(.str ⟨#[]⟩),(.int .i64 0),(.int .i64 0),(.int .i64 0),(.int .i64 0),(.int .i64 0),(.int .i64 0),(.bool false)] (.t 28) (.t 30)),o 6 (.mov (.t 31))]) (.seq (.reg [o 32 (.mov (.t 6)),o 33 (.mov (.t 0)),o 34 (.mov (.t 5)),o 35 (.cut 8 (.t 33) (some (.t 34)) none),o 36 (.app 8 72 [(.str ⟨#[]⟩),(.int .i64 0),(.int .i64 0),(.int .i64 0),(.int .i64 0),(.int .i64 0),(.int .i64 0),(.bool false)] (.t 32) (.t 35)),o 4 (.mov (.t 36))]) .ret)))))⟩
theorem ir_i_withCell:compFn Tryz.prog n_i_withCell=some F_i_withCell:=by kernel_rfl
abbrev n_i_withoutKnown:Nat:=155
def F_i_withoutKnown:Fn1:=⟨49,[.t 6],(.seq (.reg [o 5 (.box (.t 2)),o 6 (.mov (.k .nilS))]) (.seq (.reg [o 10 (.lit 6 0 [] []),o 7 (.mov (.t 10))]) (.seq (.seq (.reg [o 11 (.mov (.t 0)),o 12 (.len false (.t 11)),o 13 (.mov (.k (.int .i64 0)))]) (.blk 0 (.lop (.seq (.reg [o 14 (.bin .lss (.t 13) (.t 12))]) (.seq (.cnd (.t 14) .skip (.ext 0)) (.seq (.blk 1 (.seq (.reg [o 15 (.iad 6 (.t 11) (.t 13)),o 16 (.ld true 6 (.t 15)),o 9 (.new [(.bool false),(.str ⟨#[]⟩),(.str ⟨#[]⟩),(.int .i64 0),(.int .i64 0),(.int .i64 0)]),on (.st 6 (.t 9) (.t 16))]) (.seq (.reg [o 17 (.fad 0 (.t 9)),o 18 (.ld false 1 (.t 17)),o 19 (.mov (.t 1)),o 20 (.eqb true (.t 18) (.t 19)),o 21 (.mov (.t 20)),og 22 21 false (.fad 1 (.t 9)),og 23 21 false (.ld false 1 (.t 22)),og 24 21 false (.fad 5 (.t 5)),og 25 21 false (.ld false 1 (.t 24)),og 26 21 false (.bin .neq (.t 23) (.t 25)),o 27 (.pick (.t 21) (.k (.bool true)) (.t 26)),o 28 (.mov (.t 27)),og 29 28 false (.fad 2 (.t 9)),og 30 28 false (.ld false 1 (.t 29)),og 31 28 false (.fad 6 (.t 5)),og 32 28 false (.ld false 1 (.t 31)),og 33 28 false (.bin .neq (.t 30) (.t 32)),o 34 (.pick (.t 28) (.k (.bool true)) (.t 33)),o 35 (.mov (.t 34)),og 36 35 false (.fad 3 (.t 5)),og 37 35 false (.ld false 1 (.t 36)),og 38 35 false (.fad 4 (.t 9)),og 39 35 false (.ld true 2 (.t 38)),og 40 35 false (.call 150 [(.t 37),(.t 39)]),og 41 35 false (.un .not (.t 40)),o 42 (.pick (.t 35) (.k (.bool true)) (.t 41))]) (.cnd (.t 42) (.reg [o 43 (.mov (.t 7)),o 44 (.ld true 6 (.t 9)),o 45 (.lit 6 1 [(.bool false),(.str ⟨#[]⟩),(.str ⟨#[]⟩),(.int .i64 0),(.int .i64 0),(.int .i64 0)] [(0,6,(.t 44))]),o 46 (.app 6 64 [(.bool false),(.str ⟨#[]⟩),(.str ⟨#[]⟩),(.int .i64 0),(.int .i64 0),(.int .i64 0)] (.t 43) (.t 45)),o 7 (.mov (.t 46))]) .skip)))) (.reg [o 47 (.bin .add (.t 13) (.k (.int .i64 1))),o 13 (.mov (.t 47))]))))))) (.seq (.reg [o 48 (.mov (.t 7)),o 6 (.mov (.t 48))]) .ret))))⟩
theorem ir_i_withoutKnown:compFn Tryz.prog n_i_withoutKnown=some F_i_withoutKnown:=by kernel_rfl
abbrev n_i_tooMany:Nat:=157
def F_i_tooMany:Fn1:=⟨19,[.t 2],(.seq (.reg [o 1 (.box (.t 0)),o 2 (.mov (.k (.bool false)))]) (.seq (.reg [o 3 (.fad 1 (.t 1)),o 4 (.ld false 1 (.t 3)),o 5 (.len false (.t 4)),o 6 (.bin .gtr (.t 5) (.k (.int .i64 120))),o 7 (.mov (.t 6)),og 8 7 false (.fad 2 (.t 1)),og 9 7 false (.ld false 1 (.t 8)),og 10 7 false (.len false (.t 9)),og 11 7 false (.bin .gtr (.t 10) (.k (.int .i64 120))),o 12 (.pick (.t 7) (.k (.bool true)) (.t 11)),o 13 (.mov (.t 12)),og 14 13 false (.fad 3 (.t 1)),og 15 13 false (.ld false 1 (.t 14)),og 16 13 false (.len false (.t 15)),og 17 13 false (.bin .gtr (.t 16) (.k (.int .i64 120))),o 18 (.pick (.t 13) (.k (.bool true)) (.t 17)),o 2 (.mov (.t 18))]) .ret))⟩
theorem ir_i_tooMany:compFn Tryz.prog n_i_tooMany=some F_i_tooMany:=by kernel_rfl
theorem zOk_pre {σ τ:St} {z:Nat} {v:GV} (h:zOk σ z v=true) (hp:σ <+: τ):zOk τ z v=true:=by
 unfold zOk at h ⊢
 split
 ·rename_i g _ _
  simp only[] at h
  have:∀ b,σ[g]? =some b→τ[g]? =some b:=fun b hb=>by
   obtain⟨r,rfl⟩:=hp
   rw[List.getElem?_append_left (List.getElem?_eq_some_iff.1 hb).1];exact hb
  cases hg:σ[g]? with
  |none=>rw[hg] at h;simp at h
  |some b=>rw[this b hg];rw[hg] at h;exact h
 ·rfl
theorem Hp.zok {α:Type} {d:Kd α} {σ τ:St} {rs:List Thg} {v:GV} {l:List α} (H:Hp σ τ rs) (k:Nat) (hk:rs[k]? =some (ow d v l)):zOk τ d.z v=true:=by
 obtain⟨a,hO,-⟩:=H.see hk
 rcases hO with⟨_,rfl,_⟩|⟨g,pre,css,post,fps,rfl,hB,_⟩
 ·rfl
 ·simp[zOk,bk_some.1 hB]
section
variable {α:Type} {d:En α} {σ τ:St} {v:GV} {l:List α}
theorem RdN.cutHi (h:RdN d σ v l) {k:Nat} (hk:k≤l.length):∃ u,cutG d.z v none (some (gi (k:Nat)))=some u∧RdN d σ u (l.take k):=by
 rcases h with⟨rfl,rfl|rfl⟩|⟨g,off,cs,rfl,hr,hb,ha⟩
 ·have:k=0:=by simpa using hk
  subst this
  exact⟨.nilS,by simp[cutG,bndG,natOf],.inl ⟨by simp,.inl rfl⟩⟩
 ·have:k=0:=by simpa using hk
  subst this
  exact⟨.emp,by simp[cutG,bndG,natOf],.inl ⟨by simp,.inr rfl⟩⟩
 ·refine⟨.sl g off k,Sy.cutHi hk,.inr ⟨g,off,cs,by rw[List.length_take,Nat.min_eq_left hk],hr,?_,fun i x hx=> ?_⟩⟩
  ·rw[List.length_take,Nat.min_eq_left hk]
   have:=Nat.mul_le_mul_right d.z hk
   omega
  ·rw[List.getElem?_take] at hx
   split at hx
   ·exact ha i x hx
   ·cases hx
theorem RdN.cutLo (h:RdN d σ v l) {k:Nat} (hk:k≤l.length):∃ u,cutG d.z v (some (gi (k:Nat))) none=some u∧RdN d σ u (l.drop k):=by
 rcases h with⟨rfl,rfl|rfl⟩|⟨g,off,cs,rfl,hr,hb,ha⟩
 ·have:k=0:=by simpa using hk
  subst this
  exact⟨.nilS,by simp[cutG,bndG,natOf],.inl ⟨by simp,.inl rfl⟩⟩
 ·have:k=0:=by simpa using hk
  subst this
  exact⟨.emp,by simp[cutG,bndG,natOf],.inl ⟨by simp,.inr rfl⟩⟩
 ·refine⟨.sl g (off+k*d.z) (l.length - k),Sy.cutLo hk,.inr ⟨g,off+k*d.z,cs,by rw[List.length_drop],hr,?_,fun i x hx=> ?_⟩⟩
  ·rw[List.length_drop]
   have:k*d.z+(l.length - k)*d.z=l.length*d.z:=by rw[← Nat.add_mul];congr 1;omega
   omega
  ·rw[List.getElem?_drop] at hx
   have:=ha (k+i) x hx
   rw[Nat.add_mul,←Nat.add_assoc] at this
   exact this
end
theorem tw_at {α:Type} {p:α→Bool}:∀ {l:List α} {i:Nat},i≤l.length→(∀ j (hj:j<l.length),j<i→p l[j]=true)→(∀ hi:i<l.length,p l[i]=false)→l.takeWhile p=l.take i∧l.dropWhile p=l.drop i
 |[],i,_,_,_=>by simp
 |x::l,0,_,_,h=>by
  have:=h (by simp)
  have hx:p x=false:=this
  simp[List.takeWhile_cons,List.dropWhile_cons,hx]
 |x::l,i+1,h0,h1,h2=>by
  have hx:p x=true:=h1 0 (by simp) (by omega)
  obtain⟨e1,e2⟩:=tw_at (p:=p) (l:=l) (i:=i) (by simpa using h0) (fun j hj hji=>h1 (j+1) (by simpa using hj) (by omega)) (fun hi=>h2 (by simpa using hi))
  simp[List.takeWhile_cons,List.dropWhile_cons,hx,e1,e2]
abbrev liveV (x:Live):List GV:=[.bool x.map,.str x.obj,.str x.key,.int .i64 x.val,.int .i64 x.dot.rep,.int .i64 x.dot.seq]
set_option maxHeartbeats 2000000 in
theorem i_withLive_ret (σ:St) (v:GV) (l:List Live) (h:RS pLive.kd σ v l) (hz:zOk σ 6 v=true) (x:Live) (hl:l.length≤1099511627776):∃ r τ,Ret Tryz.prog n_i_withLive [v,.agg (liveV x)] σ r τ∧Hp σ τ [ow pLive.kd r (insW (fun k:Live=>dotLt k.dot x.dot) x l)]:=by
 refine ret_dr ir_i_withLive (Nat.le_of_ble_eq_true rfl) ?_
 have H:=(Hp.refl σ).new 1 (liveV x)
 simp +contextual (disch:=omega) only[go_sem,F_i_withLive]
 generalize hn1:σ.length=n1 at*
 refine vc_lopY (fun n env τ=>∃ i:Nat,env 0=v∧env 3= .ptr n1 0∧env 5=gi i∧l.length - i=n∧i≤l.length∧(∀ j (hj:j<l.length),j<i→dotLt l[j].dot x.dot=true)∧Hp σ τ [pt 1 n1 (liveV x)]) l.length 0 (fun env τ=>∃ i:Nat,env 0=v∧env 3= .ptr n1 0∧env 5=gi i∧i≤l.length∧insW (fun k:Live=>dotLt k.dot x.dot) x l=l.take i++[x]++l.drop i∧Hp σ τ [pt 1 n1 (liveV x)]) ⟨0,rfl,rfl,rfl,rfl,Nat.zero_le _,fun j _ hj=>by omega,H⟩ ?_ ?_
 ·clear H
  rintro J Y hJ hY n env τ ⟨i,e0,e3,e5,hn,hi,ha,H⟩
  have hln:=(h.pre H.sub).len
  have stop:(∀ hi:i<l.length,dotLt l[i].dot x.dot=false)→insW (fun k:Live=>dotLt k.dot x.dot) x l=l.take i++[x]++l.drop i:=fun hs=>by
   obtain⟨e1,e2⟩:=tw_at (p:=fun k:Live=>dotLt k.dot x.dot) hi ha hs
   rw[insW,e1,e2];simp
  rcases Nat.lt_or_ge i l.length with hlt|hge
  ·have c0:decide ((i:Int)<l.length)=true:=by simp;omega
   have C1:=Live_at (h.pre H.sub) hlt
   simp +contextual (disch:=omega) only[go_sem,c0,e0,e3,e5,hln,natOf_nat,C1,ld_ptr (H.pt 0 rfl)]
   refine by_ret (i_compareDots_ret _ _ _) ?_
   have hc:=cmpDot_lt (a:=l[i].dot) (b:=x.dot)
   cases hq:dotLt l[i].dot x.dot with
   |true=>
    rw[hq] at hc
    simp +contextual (disch:=omega) only[go_sem,e0,e3,e5,hc]
    refine⟨l.length - (i+1),by omega,hJ _ _ _ ⟨i+1,?_,?_,?_,rfl,by omega,fun j hj hji=> ?_,H⟩⟩
    all_goals first|(simp +contextual (disch:=omega) only[go_sem,e0,e3,e5];done)|skip
    rcases Nat.lt_or_ge j i with h|h
    ·exact ha j hj h
    ·have:j=i:=by omega
     subst this;exact hq
   |false=>
    rw[hq] at hc
    simp +contextual (disch:=omega) only[go_sem,e0,e3,e5,hc]
    refine hY _ _ ⟨i,?_,?_,?_,hi,stop fun _=>hq,H⟩
    all_goals simp +contextual (disch:=omega) only[go_sem,e0,e3,e5]
  ·have c0:decide ((i:Int)<l.length)=false:=by simp;omega
   simp +contextual (disch:=omega) only[go_sem,c0,e0,e3,e5,hln]
   refine hY _ _ ⟨i,?_,?_,?_,hi,stop fun h=>absurd h (by omega),H⟩
   all_goals simp +contextual (disch:=omega) only[go_sem,e0,e3,e5]
 ·clear H
  rintro env τ ⟨i,e0,e3,e5,hi,hE,H⟩
  obtain⟨u1,k1,g1⟩:=h.cutHi hi
  obtain⟨u2,k2,g2⟩:=h.cutLo hi
  have k1:cutG 6 v none (some (gi (i:Nat)))=some u1:=k1
  have k2:cutG 6 v (some (gi (i:Nat))) none=some u2:=k2
  have hz1:zOk (τ++[some (Blk.row 6 [])]) 6 v=true:=zOk_pre hz (H.sub.trans (pre1 _ _))
  obtain⟨w1,τ1,a1,q1,H1⟩:=H.cp_Live (g1.pre H.sub) (by rw[List.length_take];omega)
  obtain⟨w2,τ2,a2,H2⟩:=H1.app_Live 0 rfl x (by rw[List.length_take];omega)
  have hz2:zOk τ2 6 v=true:=zOk_pre hz H2.sub
  obtain⟨w3,τ3,a3,H3⟩:=H2.apps_Live 0 rfl (g2.pre H2.sub) (by simp only[List.length_append,List.length_take,List.length_drop,List.length_cons,List.length_nil];omega)
  simp +contextual (disch:=omega) only[go_sem,e0,e3,e5,hz1,k1,a1,q1,ld_ptr (H1.pt 1 rfl),a2,hz2,k2,a3,Option.map_none,Option.map_some]
  refine⟨_,rfl,?_⟩
  rw[hE]
  exact H3.one
set_option maxHeartbeats 2000000 in
theorem i_withCell_ret (σ:St) (v:GV) (l:List Cell) (h:RS pCell.kd σ v l) (hz:zOk σ 8 v=true) (x:Cell) (hl:l.length≤1099511627776):∃ r τ,Ret Tryz.prog n_i_withCell [v,.agg (cellV x)] σ r τ∧Hp σ τ [ow pCell.kd r (insW (fun k:Cell=>dotLt k.dot x.dot) x l)]:=by
 refine ret_dr ir_i_withCell (Nat.le_of_ble_eq_true rfl) ?_
 have H:=(Hp.refl σ).new 1 (cellV x)
 simp +contextual (disch:=omega) only[go_sem,F_i_withCell]
 generalize hn1:σ.length=n1 at*
 refine vc_lopY (fun n env τ=>∃ i:Nat,env 0=v∧env 3= .ptr n1 0∧env 5=gi i∧l.length - i=n∧i≤l.length∧(∀ j (hj:j<l.length),j<i→dotLt l[j].dot x.dot=true)∧Hp σ τ [pt 1 n1 (cellV x)]) l.length 0 (fun env τ=>∃ i:Nat,env 0=v∧env 3= .ptr n1 0∧env 5=gi i∧i≤l.length∧insW (fun k:Cell=>dotLt k.dot x.dot) x l=l.take i++[x]++l.drop i∧Hp σ τ [pt 1 n1 (cellV x)]) ⟨0,rfl,rfl,rfl,rfl,Nat.zero_le _,fun j _ hj=>by omega,H⟩ ?_ ?_
 ·clear H
  rintro J Y hJ hY n env τ ⟨i,e0,e3,e5,hn,hi,ha,H⟩
  have hln:=(h.pre H.sub).len
  have stop:(∀ hi:i<l.length,dotLt l[i].dot x.dot=false)→insW (fun k:Cell=>dotLt k.dot x.dot) x l=l.take i++[x]++l.drop i:=fun hs=>by
   obtain⟨e1,e2⟩:=tw_at (p:=fun k:Cell=>dotLt k.dot x.dot) hi ha hs
   rw[insW,e1,e2];simp
  rcases Nat.lt_or_ge i l.length with hlt|hge
  ·have c0:decide ((i:Int)<l.length)=true:=by simp;omega
   have C1:=Cell_at (h.pre H.sub) hlt
   simp +contextual (disch:=omega) only[go_sem,c0,e0,e3,e5,hln,natOf_nat,C1,ld_ptr (H.pt 0 rfl)]
   refine by_ret (i_compareDots_ret _ _ _) ?_
   have hc:=cmpDot_lt (a:=l[i].dot) (b:=x.dot)
   cases hq:dotLt l[i].dot x.dot with
   |true=>
    rw[hq] at hc
    simp +contextual (disch:=omega) only[go_sem,e0,e3,e5,hc]
    refine⟨l.length - (i+1),by omega,hJ _ _ _ ⟨i+1,?_,?_,?_,rfl,by omega,fun j hj hji=> ?_,H⟩⟩
    all_goals first|(simp +contextual (disch:=omega) only[go_sem,e0,e3,e5];done)|skip
    rcases Nat.lt_or_ge j i with h|h
    ·exact ha j hj h
    ·have:j=i:=by omega
     subst this;exact hq
   |false=>
    rw[hq] at hc
    simp +contextual (disch:=omega) only[go_sem,e0,e3,e5,hc]
    refine hY _ _ ⟨i,?_,?_,?_,hi,stop fun _=>hq,H⟩
    all_goals simp +contextual (disch:=omega) only[go_sem,e0,e3,e5]
  ·have c0:decide ((i:Int)<l.length)=false:=by simp;omega
   simp +contextual (disch:=omega) only[go_sem,c0,e0,e3,e5,hln]
   refine hY _ _ ⟨i,?_,?_,?_,hi,stop fun h=>absurd h (by omega),H⟩
   all_goals simp +contextual (disch:=omega) only[go_sem,e0,e3,e5]
 ·clear H
  rintro env τ ⟨i,e0,e3,e5,hi,hE,H⟩
  obtain⟨u1,k1,g1⟩:=h.cutHi hi
  obtain⟨u2,k2,g2⟩:=h.cutLo hi
  have k1:cutG 8 v none (some (gi (i:Nat)))=some u1:=k1
  have k2:cutG 8 v (some (gi (i:Nat))) none=some u2:=k2
  have hz1:zOk (τ++[some (Blk.row 8 [])]) 8 v=true:=zOk_pre hz (H.sub.trans (pre1 _ _))
  obtain⟨w1,τ1,a1,q1,H1⟩:=H.cp_Cell (g1.pre H.sub) (by rw[List.length_take];omega)
  obtain⟨w2,τ2,a2,H2⟩:=H1.app_Cell 0 rfl x (by rw[List.length_take];omega)
  have hz2:zOk τ2 8 v=true:=zOk_pre hz H2.sub
  obtain⟨w3,τ3,a3,H3⟩:=H2.apps_Cell 0 rfl (g2.pre H2.sub) (by simp only[List.length_append,List.length_take,List.length_drop,List.length_cons,List.length_nil];omega)
  simp +contextual (disch:=omega) only[go_sem,e0,e3,e5,hz1,k1,a1,q1,ld_ptr (H1.pt 1 rfl),a2,hz2,k2,a3,Option.map_none,Option.map_some]
  refine⟨_,rfl,?_⟩
  rw[hE]
  exact H3.one
set_option maxHeartbeats 2000000 in
theorem i_withoutKnown_ret (σ:St) (v:GV) (l:List Live) (h:RS pLive.kd σ v l) (m:Bool) (cs:List GV) (a:Act) (hR:kAct.R σ a cs) (hl:l.length≤1099511627776) (hm:msAct a≤1099511627776):∃ r τ,Ret Tryz.prog n_i_withoutKnown [v,.bool m,.agg cs] σ r τ∧Hp σ τ [ow pLive.kd r (l.filter (keepL m a.obj a.key a.knew))]:=by
 obtain⟨kv,rfl,hk⟩:=hR
 have hkl:a.knew.length≤1099511627776:=by unfold msAct at hm;omega
 refine ret_dr ir_i_withoutKnown (Nat.le_of_ble_eq_true rfl) ?_
 have H:=((Hp.refl σ).new 1 [.int .i64 a.dot.rep,.int .i64 a.dot.seq,.int .i64 a.time,kv,.int .i64 a.kind,.str a.obj,.str a.key,.int .i64 a.val,.int .i64 a.ref.rep,.int .i64 a.ref.seq]).nil_Live
 simp +contextual (disch:=omega) only[go_sem,F_i_withoutKnown,h.len]
 generalize hn1:σ.length=n1 at*
 generalize hp:keepL m a.obj a.key a.knew=p
 refine vc_forX l.length 13 0 (fun i env τ=>env 1= .bool m∧env 5= .ptr n1 0∧env 11=v∧env 12=gi l.length∧∃ w,env 7=w∧Hp σ τ [ow pLive.kd w ((l.take i).filter p),pt 1 n1 [.int .i64 a.dot.rep,.int .i64 a.dot.seq,.int .i64 a.time,kv,.int .i64 a.kind,.str a.obj,.str a.key,.int .i64 a.val,.int .i64 a.ref.rep,.int .i64 a.ref.seq]]) (fun env τ=>∃ w,env 7=w∧Hp σ τ [ow pLive.kd w (l.filter p)]) rfl ⟨rfl,rfl,rfl,rfl,_,rfl,H⟩ ?_ ?_ ?_
 ·clear H
  rintro J Y hJ hY i env τ hi e13 c0 ⟨e1,e5,e11,e12,w,e7,H⟩
  have hfl:=filter_take_len l p i
  have hsn:=filter_snoc' (p:=p) hi
  have C1:=Live_at (h.pre H.sub) hi
  have G:=H.grow (pre1 τ (some (Blk.row 1 (liveV l[i]))))
  have hkeep:p l[i]=(!(l[i].map==m)||(!decide (l[i].obj=a.obj)||(!decide (l[i].key=a.key)|| !knows a.knew l[i].dot))):=by rw[← hp];rfl
  obtain⟨w',τ3,e8,H3⟩:=G.app_Live 0 rfl l[i] (by omega)
  have kn:=i_Knows_ret _ kv a.knew l[i].dot (hk.pre G.sub) hkl
  cases h1:(l[i].map==m) with
  |false=>
   rw[h1] at hkeep
   have hk0:p l[i]=true:=by rw[hkeep];rfl
   rw[hk0,if_pos rfl] at hsn
   simp +contextual (disch:=omega) only[go_sem,c0,e1,e5,e11,e12,e7,e13,C1,h1,Bool.bne_false,Bool.xor_false,Bool.true_bne,Bool.not_false,e8]
   refine hJ _ _ _ ⟨?_,?_,?_,?_,w',?_,by rw[hsn];exact H3⟩
   all_goals simp +contextual (disch:=omega) only[go_sem,e1,e5,e11,e12,e7]
  |true=>
   cases h2:decide (l[i].obj=a.obj) with
   |false=>
    rw[h1,h2] at hkeep
    have hk0:p l[i]=true:=by rw[hkeep];rfl
    rw[hk0,if_pos rfl] at hsn
    simp +contextual (disch:=omega) only[go_sem,c0,e1,e5,e11,e12,e7,e13,C1,h1,h2,ld_ptr (G.pt 1 rfl),Bool.true_bne,Bool.not_false,Bool.not_true,e8]
    refine hJ _ _ _ ⟨?_,?_,?_,?_,w',?_,by rw[hsn];exact H3⟩
    all_goals simp +contextual (disch:=omega) only[go_sem,e1,e5,e11,e12,e7]
   |true=>
    cases h3:decide (l[i].key=a.key) with
    |false=>
     rw[h1,h2,h3] at hkeep
     have hk0:p l[i]=true:=by rw[hkeep];rfl
     rw[hk0,if_pos rfl] at hsn
     simp +contextual (disch:=omega) only[go_sem,c0,e1,e5,e11,e12,e7,e13,C1,h1,h2,h3,ld_ptr (G.pt 1 rfl),Bool.true_bne,Bool.not_false,Bool.not_true,e8]
     refine hJ _ _ _ ⟨?_,?_,?_,?_,w',?_,by rw[hsn];exact H3⟩
     all_goals simp +contextual (disch:=omega) only[go_sem,e1,e5,e11,e12,e7]
    |true=>
     simp +contextual (disch:=omega) only[go_sem,c0,e1,e5,e11,e12,e7,e13,C1,h1,h2,h3,ld_ptr (G.pt 1 rfl),Bool.true_bne,Bool.not_false,Bool.not_true]
     refine by_ret kn ?_
     cases h4:knows a.knew l[i].dot with
     |false=>
      rw[h1,h2,h3,h4] at hkeep
      have hk0:p l[i]=true:=by rw[hkeep];rfl
      rw[hk0,if_pos rfl] at hsn
      simp +contextual (disch:=omega) only[go_sem,e1,e5,e11,e12,e7,e13,C1,h4,e8]
      refine hJ _ _ _ ⟨?_,?_,?_,?_,w',?_,by rw[hsn];exact H3⟩
      all_goals simp +contextual (disch:=omega) only[go_sem,e1,e5,e11,e12,e7]
     |true=>
      rw[h1,h2,h3,h4] at hkeep
      have hk0:p l[i]=false:=by rw[hkeep];rfl
      rw[hk0,if_neg (by simp),List.append_nil] at hsn
      simp +contextual (disch:=omega) only[go_sem,e1,e5,e11,e12,e7,e13,h4]
      refine hJ _ _ _ ⟨?_,?_,?_,?_,w,?_,by rw[hsn];exact G⟩
      all_goals simp +contextual (disch:=omega) only[go_sem,e1,e5,e11,e12,e7]
 ·clear H
  rintro Y hY env τ e13 c0 ⟨e1,e5,e11,e12,w,e7,H⟩
  rw[List.take_length] at H
  simp +contextual (disch:=omega) only[go_sem,c0,e1,e5,e11,e12,e7,e13]
  refine hY _ _ ⟨w,?_,H.one⟩
  simp +contextual (disch:=omega) only[go_sem,e7]
 ·clear H
  rintro env τ ⟨w,e7,H⟩
  simp +contextual (disch:=omega) only[go_sem,e7]
  exact⟨_,rfl,H⟩
theorem gt_cast {n:Nat}:decide ((120:Int)<(n:Int))=decide (120<n):=by rw[decide_eq_decide];omega
theorem i_tooMany_ret (σ:St) (cs:List GV) (s:State) (hR:kState.R σ s cs):Ret Tryz.prog n_i_tooMany [.agg cs] σ (.bool (tooMany s)) σ:=by
 obtain⟨a,b,c,v,rfl,_,hb,hc,hv⟩:=hR
 refine ret_eq ir_i_tooMany (Nat.le_of_ble_eq_true rfl) trivial ?_
 cases h1:decide (120<s.tallies.length) with
 |true=>simp +contextual (disch:=omega) only[go_sem,F_i_tooMany,hb.len,gt_cast,h1,tooMany,Bool.true_or]
 |false=>
  cases h2:decide (120<s.lives.length) with
  |true=>simp +contextual (disch:=omega) only[go_sem,F_i_tooMany,hb.len,hc.len,gt_cast,h1,h2,tooMany,Bool.true_or,Bool.false_or]
  |false=>simp +contextual (disch:=omega) only[go_sem,F_i_tooMany,hb.len,hc.len,hv.len,gt_cast,h1,h2,tooMany,Bool.false_or]
end Go.Proofs.YtffnefmklckngaaGreat.Sy
namespace Go.Proofs.YtffnefmklckngaaGreat.Sy
open Go Go.RowKit
set_option linter.unusedSimpArgs false
set_option linter.unusedVariables false
set_option maxRecDepth 4000
abbrev n_i_withTally:Nat:=153
def F_i_withTally:Fn1:=⟨69,[.t 8],(.seq (.reg [o 8 (.mov (.k .nilS))]) (.seq (.reg [o 9 (.mov (.k (.int .i64 0)))]) (.seq (.reg [o 13 (.mov (.t 1)),o 14 (.mov (.t 2)),o 15 (.build [(.str ⟨#[]⟩),(.int .i64 0),(.int .i64 0)] [(0,1,(.t 13)),(1,1,(.t 14))]),o 10 (.new [(.str ⟨#[]⟩),(.int .i64 0),(.int .i64 0)]),on (.st 3 (.t 10) (.t 15))]) (.seq (.blk 0 (.lop (.seq (.seq (.drw [o 16 (.mov (.t 9)),o 17 (.mov (.t 0)),o 18 (.len false (.t 17)),o 19 (.bin .lss (.t 16) (.t 18)),o 20 (.mov (.t 19)),og 21 20 true (.mov (.t 0)),og 22 20 true (.mov (.t 9)),og 23 20 true (.iad 3 (.t 21) (.t 22)),og 24 20 true (.ld true 3 (.t 23)),og 25 20 true (.ld true 3 (.t 10))] [og 26 20 true (.call 201 [(.t 24),(.t 25)]),og 27 20 true (.bin .lss (.t 26) (.k (.int .i64 0))),o 28 (.pick (.t 20) (.t 27) (.k (.bool false)))]) (.cnd (.t 28) .skip (.ext 0))) (.blk 1 (.reg [o 29 (.mov (.t 9)),o 30 (.bin .add (.t 29) (.k (.int .i64 1))),o 9 (.mov (.t 30))]))))) (.seq (.reg [o 31 (.mov (.t 0)),o 32 (.mov (.t 9)),o 33 (.cut 3 (.t 31) (some (.t 32)) none),o 11 (.mov (.t 33))]) (.seq (.seq (.drw [o 34 (.mov (.t 11)),o 35 (.len false (.t 34)),o 36 (.bin .gtr (.t 35) (.k (.int .i64 0))),o 37 (.mov (.t 36)),og 38 37 true (.mov (.t 11)),og 39 37 true (.iad 3 (.t 38) (.k (.int .i64 0))),og 40 37 true (.ld true 3 (.t 39)),og 41 37 true (.ld true 3 (.t 10))] [og 42 37 true (.call 201 [(.t 40),(.t 41)]),og 43 37 true (.bin .eql (.t 42) (.k (.int .i64 0))),o 44 (.pick (.t 37) (.t 43) (.k (.bool false)))]) (.cnd (.t 44) (.seq (.reg [o 45 (.mov (.t 11)),o 46 (.iad 3 (.t 45) (.k (.int .i64 0))),o 47 (.fad 2 (.t 46)),o 48 (.ld false 1 (.t 47)),o 49 (.fad 2 (.t 10)),on (.st 1 (.t 49) (.t 48))]) (.reg [o 50 (.mov (.t 11)),o 51 (.cut 3 (.t 50) (some (.k (.int .i64 1))) none),o 11 (.mov (.t 51))])) .skip)) (.seq (.reg [o 52 (.fad 2 (.t 10)),o 53 (.ld false 1 (.t 52)),o 54 (.mov (.t 3)),o 55 (.bin .add (.t 53) (.t 54)),o 56 (.bin .rem (.t 55) (.k (.int .i64 1000000))),o 57 (.fad 2 (.t 10)),on (.st 1 (.t 57) (.t 56))]) (.seq (.drw [o 58 (.lit 3 0 [] []),o 59 (.mov (.t 0)),o 60 (.mov (.t 9)),o 61 (.cut 3 (.t 59) none (some (.t 60))),o 62 (.app 3 32 [(.str ⟨#[]⟩),(.int .i64 0),(.int .i64 0)] (.t 58) (.t 61)),o 63 (.ld true 3 (.t 10)),o 64 (.lit 3 1 [(.str ⟨#[]⟩),(.int .i64 0),(.int .i64 0)] [(0,3,(.t 63))])] [o 65 (.app 3 32 [(.str ⟨#[]⟩),(.int .i64 0),(.int .i64 0)] (.t 62) (.t 64)),o 12 (.mov (.t 65))]) (.seq (.reg [o 66 (.mov (.t 12)),o 67 (.mov (.t 11)),o 68 (.app 3 32 [(.str ⟨#[]⟩),(.int .i64 0),(.int .i64 0)] (.t 66) (.t 67)),o 8 (.mov (.t 68))]) .ret)))))))))⟩
theorem ir_i_withTally:compFn Tryz.prog n_i_withTally=some F_i_withTally:=by kernel_rfl
theorem cmpTally_z {a b:Tally}:(cmpTally a b==0)=(decide (a.obj=b.obj)&&decide (a.rep=b.rep)):=by
 rw[Bool.eq_iff_iff,beq_iff_eq,Bool.and_eq_true,decide_eq_true_eq,decide_eq_true_eq,cmpTally,orI]
 have h1:= @cmpS_eq a.obj b.obj
 have h2:= @cmpI_eq a.rep b.rep
 by_cases hz:cmpS a.obj b.obj=0
 ·rw[if_pos hz,h2]
  exact⟨fun h=>⟨h1.1 hz,h⟩,fun h=>h.2⟩
 ·rw[if_neg hz]
  exact⟨fun h=>absurd h hz,fun h=>absurd (h1.2 h.1) hz⟩
theorem cut_zok {τ:St} {z:Nat} {v u:GV} {lo hi:Option GV} (h:cutG z v lo hi=some u) (hz:zOk τ z v=true):zOk τ z u=true:=by
 cases v with
 |sl g off len=>
  simp only[cutG,Option.bind_eq_some_iff] at h
  obtain⟨a,_,b,_,e⟩:=h
  injection e with e;subst e;exact hz
 |nilS=>
  simp only[cutG,Option.bind_eq_some_iff] at h
  obtain⟨a,_,b,_,e⟩:=h
  injection e with e;subst e;rfl
 |emp=>
  simp only[cutG,Option.bind_eq_some_iff] at h
  obtain⟨a,_,b,_,e⟩:=h
  injection e with e;subst e;rfl
 |_=>simp[cutG] at h
theorem talPutI_at {l:List Tally} {obj:ByteArray} {rep val:Int} {i:Nat} (hT:l.takeWhile (fun t=>tallyLt t ⟨obj,rep,0⟩)=l.take i) (hD:l.dropWhile (fun t=>tallyLt t ⟨obj,rep,0⟩)=l.drop i) (hi:i<l.length):talPutI l obj rep val=if isTal obj rep l[i] then l.take i++[⟨obj,rep,addM l[i].sum val⟩]++l.drop (i+1) else l.take i++[⟨obj,rep,addM 0 val⟩]++l.drop i:=by
 unfold talPutI
 simp only[hT,hD]
 rw[List.drop_eq_getElem_cons hi]
 simp only[]
 split<;>simp
theorem talPutI_end {l:List Tally} {obj:ByteArray} {rep val:Int} (hT:l.takeWhile (fun t=>tallyLt t ⟨obj,rep,0⟩)=l.take l.length) (hD:l.dropWhile (fun t=>tallyLt t ⟨obj,rep,0⟩)=l.drop l.length):talPutI l obj rep val=l.take l.length++[⟨obj,rep,addM 0 val⟩]++l.drop l.length:=by
 unfold talPutI
 simp only[hT,hD,List.drop_length]
 simp
abbrev tallyV (x:Tally):List GV:=[.str x.obj,.int .i64 x.rep,.int .i64 x.sum]
set_option maxHeartbeats 2000000 in
theorem i_withTally_ret (σ:St) (v:GV) (l:List Tally) (h:RS pTally.kd σ v l) (hz:zOk σ 3 v=true) (obj:ByteArray) (rep val:Int) (hl:l.length≤1099511627776) (hv: -1000000≤val∧val≤1000000) (hs:∀ t∈l,-1000000≤t.sum∧t.sum≤1000000):∃ r τ,Ret Tryz.prog n_i_withTally [v,.str obj,gi rep,gi val] σ r τ∧Hp σ τ [ow pTally.kd r (talPutI l obj rep val)]:=by
 refine ret_dr ir_i_withTally (Nat.le_of_ble_eq_true rfl) ?_
 obtain⟨t0,ht0⟩:∃ t:Tally,t=⟨obj,rep,0⟩:=⟨_,rfl⟩
 have H:=(Hp.refl σ).new 1 [.str obj,gi rep,gi 0]
 have hcl:=fun(τ:St) (x:Tally)=>i_compareTallies_ret τ x t0
 rw[ht0] at hcl
 simp +contextual (disch:=omega) only[go_sem,F_i_withTally]
 generalize hn1:σ.length=n1 at*
 refine vc_lopY (fun n env τ=>∃ i:Nat,env 0=v∧env 3=gi val∧env 10= .ptr n1 0∧env 9=gi i∧l.length - i=n∧i≤l.length∧(∀ j (hj:j<l.length),j<i→tallyLt l[j] ⟨obj,rep,0⟩=true)∧Hp σ τ [pt 1 n1 [.str obj,gi rep,gi 0]]) l.length 0 (fun env τ=>∃ i:Nat,env 0=v∧env 3=gi val∧env 10= .ptr n1 0∧env 9=gi i∧i≤l.length∧l.takeWhile (fun t=>tallyLt t ⟨obj,rep,0⟩)=l.take i∧l.dropWhile (fun t=>tallyLt t ⟨obj,rep,0⟩)=l.drop i∧Hp σ τ [pt 1 n1 [.str obj,gi rep,gi 0]]) ⟨0,rfl,rfl,rfl,rfl,rfl,Nat.zero_le _,fun j _ hj=>by omega,H⟩ ?_ ?_
 ·clear H
  rintro J Y hJ hY n env τ ⟨i,e0,e3,e10,e9,hn,hi,ha,H⟩
  have hln:=(h.pre H.sub).len
  have stop:=fun hs=>tw_at (p:=fun t:Tally=>tallyLt t ⟨obj,rep,0⟩) hi ha hs
  rcases Nat.lt_or_ge i l.length with hlt|hge
  ·have c0:decide ((i:Int)<l.length)=true:=by simp;omega
   have C1:=Tally_at (h.pre H.sub) hlt
   simp +contextual (disch:=omega) only[go_sem,c0,e0,e3,e10,e9,hln,natOf_nat,C1,ld_ptr (H.pt 0 rfl)]
   refine by_ret (hcl _ _) ?_
   have hc:=cmpTally_lt (a:=l[i]) (b:=⟨obj,rep,0⟩)
   cases hq:tallyLt l[i] ⟨obj,rep,0⟩ with
   |true=>
    rw[hq] at hc
    simp +contextual (disch:=omega) only[go_sem,e0,e3,e10,e9,hc]
    refine⟨l.length - (i+1),by omega,hJ _ _ _ ⟨i+1,?_,?_,?_,?_,rfl,by omega,fun j hj hji=> ?_,H⟩⟩
    all_goals first|(simp +contextual (disch:=omega) only[go_sem,e0,e3,e10,e9];done)|skip
    rcases Nat.lt_or_ge j i with h|h
    ·exact ha j hj h
    ·have:j=i:=by omega
     subst this;exact hq
   |false=>
    rw[hq] at hc
    simp +contextual (disch:=omega) only[go_sem,e0,e3,e10,e9,hc]
    refine hY _ _ ⟨i,?_,?_,?_,?_,hi,(stop fun _=>hq).1,(stop fun _=>hq).2,H⟩
    all_goals simp +contextual (disch:=omega) only[go_sem,e0,e3,e10,e9]
  ·have c0:decide ((i:Int)<l.length)=false:=by simp;omega
   simp +contextual (disch:=omega) only[go_sem,c0,e0,e3,e10,e9,hln]
   have hst:=stop fun h=>absurd h (by omega)
   refine hY _ _ ⟨i,?_,?_,?_,?_,hi,hst.1,hst.2,H⟩
   all_goals simp +contextual (disch:=omega) only[go_sem,e0,e3,e10,e9]
 ·clear H
  rintro env τ ⟨i,e0,e3,e10,e9,hi,hT,hD,H⟩
  obtain⟨u1,k1,g1⟩:=h.cutHi hi
  obtain⟨u2,k2,g2⟩:=h.cutLo hi
  have k1:cutG 3 v none (some (gi (i:Nat)))=some u1:=k1
  have k2:cutG 3 v (some (gi (i:Nat))) none=some u2:=k2
  have hz1:zOk τ 3 v=true:=zOk_pre hz H.sub
  have hln2:=(g2.pre H.sub).len
  have w0:IntKind.i64.wrap (0+val)=0+val:=wrap_add (by omega) (by omega)
  have n0:natOf (some (.int .i64 0))=some 0:=rfl
  rcases Nat.lt_or_ge i l.length with hlt|hge
  ·have hdl:0<(l.drop i).length:=by rw[List.length_drop];omega
   have c0:decide ((0:Int)<((l.drop i).length:Int))=true:=by simp only[decide_eq_true_eq];omega
   have C1:=Tally_at (g2.pre H.sub) hdl
   have hd0:(l.drop i)[0]=l[i]:=by simp
   rw[hd0] at C1
   have hmem:l[i]∈l:=List.getElem_mem hlt
   have hsb:=hs l[i] hmem
   have hat:=talPutI_at (val:=val) hT hD hlt
   simp +contextual (disch:=omega) only[go_sem,e0,e3,e10,e9,hz1,k2,hln2,c0,n0,C1,ld_ptr (H.pt 0 rfl),Option.map_none,Option.map_some]
   refine by_ret (hcl _ _) ?_
   have hcz:=cmpTally_z (a:=l[i]) (b:=⟨obj,rep,0⟩)
   have hcz:(cmpTally l[i] ⟨obj,rep,0⟩==0)=isTal obj rep l[i]:=hcz
   cases hq:isTal obj rep l[i] with
   |true=>
    rw[hq] at hcz
    rw[hq,if_pos rfl] at hat
    obtain⟨u3,k3,g3⟩:=g2.cutLo (k:=1) (by omega)
    have k3:cutG 3 u2 (some (.int .i64 1)) none=some u3:=k3
    rw[List.drop_drop] at g3
    obtain⟨τb,st0,Hb,_⟩:=H.st 0 rfl 1 2 (gi l[i].sum) rfl (by decide) (by simp)
    have Hb:Hp σ τb [pt 1 n1 [.str obj,gi rep,gi l[i].sum]]:=Hb
    have hzb:zOk τb 3 u2=true:=cut_zok k2 (zOk_pre hz Hb.sub)
    have wS:IntKind.i64.wrap (l[i].sum+val)=l[i].sum+val:=wrap_add (by omega) (by omega)
    obtain⟨τa,st1,Ha,_⟩:=Hb.st 0 rfl 1 2 (gi (addM l[i].sum val)) rfl (by decide) (by simp)
    have Ha:Hp σ τa [pt 1 n1 [.str obj,gi rep,gi (addM l[i].sum val)]]:=Ha
    have hza:zOk (τa++[some (Blk.row 3 [])]) 3 v=true:=zOk_pre hz (Ha.sub.trans (pre1 _ _))
    obtain⟨w1,τ1,a1,q1,H1⟩:=Ha.cp_Tally (g1.pre Ha.sub) (by rw[List.length_take];omega)
    obtain⟨w2,τ2,a2,H2⟩:=H1.app_Tally 0 rfl ⟨obj,rep,addM l[i].sum val⟩ (by rw[List.length_take];omega)
    obtain⟨w3,τ3,a3,H3⟩:=H2.apps_Tally 0 rfl (g3.pre H2.sub) (by simp only[List.length_append,List.length_take,List.length_drop,List.length_cons,List.length_nil];omega)
    have st1:stG 1 τb (.ptr n1 2) (.int .i64 ((l[i].sum+val).tmod 1000000))=some (.tup [],τa):=st1
    have z9:=H1.pt 1 rfl
    have z9:rdB τ1 n1=some [.str obj,gi rep,gi (addM l[i].sum val)]:=z9
    simp +contextual (disch:=omega) only[go_sem,e0,e3,e10,e9,hcz,n0,C1,st0,hzb,k3,ld_ptr (Hb.pt 0 rfl),wS,st1,hza,k1,a1,q1,ld_ptr z9,a2,a3,Option.map_none,Option.map_some]
    refine⟨_,rfl,?_⟩
    rw[hat]
    exact H3.one
   |false=>
    rw[hq] at hcz
    rw[hq,if_neg (by simp)] at hat
    have wS:IntKind.i64.wrap (0+val)=0+val:=wrap_add (by omega) (by omega)
    obtain⟨τa,st1,Ha,_⟩:=H.st 0 rfl 1 2 (gi (addM 0 val)) rfl (by decide) (by simp)
    have Ha:Hp σ τa [pt 1 n1 [.str obj,gi rep,gi (addM 0 val)]]:=Ha
    have hza:zOk (τa++[some (Blk.row 3 [])]) 3 v=true:=zOk_pre hz (Ha.sub.trans (pre1 _ _))
    obtain⟨w1,τ1,a1,q1,H1⟩:=Ha.cp_Tally (g1.pre Ha.sub) (by rw[List.length_take];omega)
    obtain⟨w2,τ2,a2,H2⟩:=H1.app_Tally 0 rfl ⟨obj,rep,addM 0 val⟩ (by rw[List.length_take];omega)
    obtain⟨w3,τ3,a3,H3⟩:=H2.apps_Tally 0 rfl (g2.pre H2.sub) (by simp only[List.length_append,List.length_take,List.length_drop,List.length_cons,List.length_nil];omega)
    have st1:stG 1 τ (.ptr n1 2) (.int .i64 ((0+val).tmod 1000000))=some (.tup [],τa):=st1
    have z9:=H1.pt 1 rfl
    have z9:rdB τ1 n1=some [.str obj,gi rep,gi (addM 0 val)]:=z9
    simp +contextual (disch:=omega) only[go_sem,e0,e3,e10,e9,hcz,ld_ptr (H.pt 0 rfl),wS,st1,hza,k1,a1,q1,ld_ptr z9,a2,a3,Option.map_none,Option.map_some]
    refine⟨_,rfl,?_⟩
    rw[hat]
    exact H3.one
  ·have hil:i=l.length:=by omega
   subst hil
   have hat:=talPutI_end (val:=val) hT hD
   have c0:decide ((0:Int)<((l.drop l.length).length:Int))=false:=by simp
   have wS:IntKind.i64.wrap (0+val)=0+val:=wrap_add (by omega) (by omega)
   obtain⟨τa,st1,Ha,_⟩:=H.st 0 rfl 1 2 (gi (addM 0 val)) rfl (by decide) (by simp)
   have Ha:Hp σ τa [pt 1 n1 [.str obj,gi rep,gi (addM 0 val)]]:=Ha
   have hza:zOk (τa++[some (Blk.row 3 [])]) 3 v=true:=zOk_pre hz (Ha.sub.trans (pre1 _ _))
   obtain⟨w1,τ1,a1,q1,H1⟩:=Ha.cp_Tally (g1.pre Ha.sub) (by rw[List.length_take];omega)
   obtain⟨w2,τ2,a2,H2⟩:=H1.app_Tally 0 rfl ⟨obj,rep,addM 0 val⟩ (by rw[List.length_take];omega)
   obtain⟨w3,τ3,a3,H3⟩:=H2.apps_Tally 0 rfl (g2.pre H2.sub) (by simp only[List.length_append,List.length_take,List.length_drop,List.length_cons,List.length_nil];omega)
   have st1:stG 1 τ (.ptr n1 2) (.int .i64 ((0+val).tmod 1000000))=some (.tup [],τa):=st1
   have z9:=H1.pt 1 rfl
   have z9:rdB τ1 n1=some [.str obj,gi rep,gi (addM 0 val)]:=z9
   simp +contextual (disch:=omega) only[go_sem,e0,e3,e10,e9,hz1,k2,hln2,c0,ld_ptr (H.pt 0 rfl),wS,st1,hza,k1,a1,q1,ld_ptr z9,a2,a3,Option.map_none,Option.map_some]
   refine⟨_,rfl,?_⟩
   rw[hat]
   exact H3.one
end Go.Proofs.YtffnefmklckngaaGreat.Sy
namespace Go.Proofs.YtffnefmklckngaaGreat.Sy
open Go Go.RowKit
set_option linter.unusedSimpArgs false
set_option linter.unusedVariables false
set_option maxRecDepth 4000
abbrev n_s_l07Live:Nat:=195
def F_s_l07Live:Fn1:=⟨45,[.t 4],(.seq (.reg [o 3 (.box (.t 1)),o 4 (.mov (.k .nilS))]) (.seq (.reg [o 8 (.lit 6 0 [] []),o 5 (.mov (.t 8))]) (.seq (.reg [o 6 (.mov (.k (.bool false)))]) (.seq (.seq (.reg [o 7 (.mov (.k (.int .i64 0)))]) (.blk 0 (.lop (.seq (.seq (.reg [o 9 (.mov (.t 7)),o 10 (.mov (.t 0)),o 11 (.len false (.t 10)),o 12 (.bin .lss (.t 9) (.t 11))]) (.cnd (.t 12) .skip (.ext 0))) (.seq (.blk 1 (.seq (.seq (.drw [o 15 (.mov (.t 6)),o 16 (.un .not (.t 15)),o 17 (.mov (.t 16)),og 18 17 true (.fad 4 (.t 3)),og 19 17 true (.ld true 2 (.t 18)),og 20 17 true (.mov (.t 0)),og 21 17 true (.mov (.t 7)),og 22 17 true (.iad 6 (.t 20) (.t 21)),og 23 17 true (.fad 4 (.t 22)),og 24 17 true (.ld true 2 (.t 23))] [og 25 17 true (.call 211 [(.t 19),(.t 24)]),o 26 (.pick (.t 17) (.t 25) (.k (.bool false)))]) (.cnd (.t 26) (.seq (.reg [o 27 (.mov (.t 5)),o 28 (.ld true 6 (.t 3)),o 29 (.lit 6 1 [(.bool false),(.str ⟨#[]⟩),(.str ⟨#[]⟩),(.int .i64 0),(.int .i64 0),(.int .i64 0)] [(0,6,(.t 28))]),o 30 (.app 6 64 [(.bool false),(.str ⟨#[]⟩),(.str ⟨#[]⟩),(.int .i64 0),(.int .i64 0),(.int .i64 0)] (.t 27) (.t 29)),o 5 (.mov (.t 30))]) (.reg [o 6 (.mov (.k (.bool true)))])) .skip)) (.reg [o 31 (.mov (.t 5)),o 32 (.mov (.t 0)),o 33 (.mov (.t 7)),o 34 (.iad 6 (.t 32) (.t 33)),o 35 (.ld true 6 (.t 34)),o 36 (.lit 6 1 [(.bool false),(.str ⟨#[]⟩),(.str ⟨#[]⟩),(.int .i64 0),(.int .i64 0),(.int .i64 0)] [(0,6,(.t 35))]),o 37 (.app 6 64 [(.bool false),(.str ⟨#[]⟩),(.str ⟨#[]⟩),(.int .i64 0),(.int .i64 0),(.int .i64 0)] (.t 31) (.t 36)),o 5 (.mov (.t 37))]))) (.reg [o 13 (.mov (.t 7)),o 14 (.bin .add (.t 13) (.k (.int .i64 1))),o 7 (.mov (.t 14))])))))) (.seq (.seq (.reg [o 38 (.mov (.t 6)),o 39 (.un .not (.t 38))]) (.cnd (.t 39) (.reg [o 40 (.mov (.t 5)),o 41 (.ld true 6 (.t 3)),o 42 (.lit 6 1 [(.bool false),(.str ⟨#[]⟩),(.str ⟨#[]⟩),(.int .i64 0),(.int .i64 0),(.int .i64 0)] [(0,6,(.t 41))]),o 43 (.app 6 64 [(.bool false),(.str ⟨#[]⟩),(.str ⟨#[]⟩),(.int .i64 0),(.int .i64 0),(.int .i64 0)] (.t 40) (.t 42)),o 5 (.mov (.t 43))]) .skip)) (.seq (.reg [o 44 (.mov (.t 5)),o 4 (.mov (.t 44))]) .ret))))))⟩
theorem ir_s_l07Live:compFn Tryz.prog n_s_l07Live=some F_s_l07Live:=by kernel_rfl
abbrev n_s_l07Cell:Nat:=197
def F_s_l07Cell:Fn1:=⟨45,[.t 4],(.seq (.reg [o 3 (.box (.t 1)),o 4 (.mov (.k .nilS))]) (.seq (.reg [o 8 (.lit 8 0 [] []),o 5 (.mov (.t 8))]) (.seq (.reg [o 6 (.mov (.k (.bool false)))]) (.seq (.seq (.reg [o 7 (.mov (.k (.int .i64 0)))]) (.blk 0 (.lop (.seq (.seq (.reg [o 9 (.mov (.t 7)),o 10 (.mov (.t 0)),o 11 (.len false (.t 10)),o 12 (.bin .lss (.t 9) (.t 11))]) (.cnd (.t 12) .skip (.ext 0))) (.seq (.blk 1 (.seq (.seq (.drw [o 15 (.mov (.t 6)),o 16 (.un .not (.t 15)),o 17 (.mov (.t 16)),og 18 17 true (.fad 1 (.t 3)),og 19 17 true (.ld true 2 (.t 18)),og 20 17 true (.mov (.t 0)),og 21 17 true (.mov (.t 7)),og 22 17 true (.iad 8 (.t 20) (.t 21)),og 23 17 true (.fad 1 (.t 22)),og 24 17 true (.ld true 2 (.t 23))] [og 25 17 true (.call 211 [(.t 19),(.t 24)]),o 26 (.pick (.t 17) (.t 25) (.k (.bool false)))]) (.cnd (.t 26) (.seq (.reg [o 27 (.mov (.t 5)),o 28 (.ld true 8 (.t 3)),o 29 (.lit 8 1 [(.str ⟨#[]⟩),(.int .i64 0),(.int .i64 0),(.int .i64 0),(.int .i64 0),(.int .i64 0),(.int .i64 0),(.bool false)] [(0,8,(.t 28))]),o 30 (.app 8 72 [(.str ⟨#[]⟩),(.int .i64 0),(.int .i64 0),(.int .i64 0),(.int .i64 0),(.int .i64 0),(.int .i64 0),(.bool false)] (.t 27) (.t 29)),o 5 (.mov (.t 30))]) (.reg [o 6 (.mov (.k (.bool true)))])) .skip)) (.reg [o 31 (.mov (.t 5)),o 32 (.mov (.t 0)),o 33 (.mov (.t 7)),o 34 (.iad 8 (.t 32) (.t 33)),o 35 (.ld true 8 (.t 34)),o 36 (.lit 8 1 [(.str ⟨#[]⟩),(.int .i64 0),(.int .i64 0),(.int .i64 0),(.int .i64 0),(.int .i64 0),(.int .i64 0),(.bool false)] [(0,8,(.t 35))]),o 37 (.app 8 72 [(.str ⟨#[]⟩),(.int .i64 0),(.int .i64 0),(.int .i64 0),(.int .i64 0),(.int .i64 0),(.int .i64 0),(.bool false)] (.t 31) (.t 36)),o 5 (.mov (.t 37))]))) (.reg [o 13 (.mov (.t 7)),o 14 (.bin .add (.t 13) (.k (.int .i64 1))),o 7 (.mov (.t 14))])))))) (.seq (.seq (.reg [o 38 (.mov (.t 6)),o 39 (.un .not (.t 38))]) (.cnd (.t 39) (.reg [o 40 (.mov (.t 5)),o 41 (.ld true 8 (.t 3)),o 42 (.lit 8 1 [(.str ⟨#[]⟩),(.int .i64 0),(.int .i64 0),(.int .i64 0),(.int .i64 0),(.int .i64 0),(.int .i64 0),(.bool false)] [(0,8,(.t 41))]),o 43 (.app 8 72 [(.str ⟨#[]⟩),(.int .i64 0),(.int .i64 0),(.int .i64 0),(.int .i64 0),(.int .i64 0),(.int .i64 0),(.bool false)] (.t 40) (.t 42)),o 5 (.mov (.t 43))]) .skip)) (.seq (.reg [o 44 (.mov (.t 5)),o 4 (.mov (.t 44))]) .ret))))))⟩
theorem ir_s_l07Cell:compFn Tryz.prog n_s_l07Cell=some F_s_l07Cell:=by kernel_rfl
abbrev n_s_l07Ref:Nat:=144
def F_s_l07Ref:Fn1:=⟨53,[.t 4],(.seq (.reg [o 2 (.box (.t 0)),o 3 (.box (.t 1)),o 4 (.mov (.k (.bool false)))]) (.seq (.seq (.reg [o 6 (.fad 4 (.t 3)),o 7 (.ld false 1 (.t 6)),o 8 (.bin .neq (.t 7) (.k (.int .i64 7))),o 9 (.mov (.t 8)),og 10 9 true (.fad 4 (.t 3)),og 11 9 true (.ld false 1 (.t 10)),og 12 9 true (.bin .neq (.t 11) (.k (.int .i64 6))),og 13 9 true (.mov (.t 12)),og 14 13 false (.fad 8 (.t 3)),og 15 13 false (.ld true 2 (.t 14)),og 16 13 false (.build [(.int .i64 0),(.int .i64 0)] []),og 17 13 false (.eqs false [.i .i64,.i .i64] (.t 15) (.t 16)),og 18 9 true (.pick (.t 13) (.k (.bool true)) (.t 17)),o 19 (.pick (.t 9) (.t 18) (.k (.bool false)))]) (.cnd (.t 19) (.seq (.reg [o 4 (.mov (.k (.bool true)))]) .ret) .skip)) (.seq (.reg [o 20 (.ld true 4 (.t 2)),o 21 (.fad 8 (.t 3)),o 22 (.ld true 2 (.t 21)),o 23 (.call 187 [(.t 20),(.t 22)]),o 5 (.mov (.t 23))]) (.seq (.drw [o 24 (.mov (.t 5)),o 25 (.bin .geq (.t 24) (.k (.int .i64 0))),o 26 (.mov (.t 25)),og 27 26 true (.fad 3 (.t 2)),og 28 26 true (.ld false 1 (.t 27)),og 29 26 true (.mov (.t 5)),og 30 26 true (.iad 8 (.t 28) (.t 29)),og 31 26 true (.fad 0 (.t 30)),og 32 26 true (.ld false 1 (.t 31)),og 33 26 true (.fad 5 (.t 3)),og 34 26 true (.ld false 1 (.t 33)),og 35 26 true (.bin .eql (.t 32) (.t 34)),o 36 (.pick (.t 26) (.t 35) (.k (.bool false))),o 37 (.mov (.t 36)),og 38 37 true (.fad 4 (.t 3)),og 39 37 true (.ld false 1 (.t 38)),og 40 37 true (.bin .eql (.t 39) (.k (.int .i64 7))),og 41 37 true (.mov (.t 40)),og 42 41 false (.fad 3 (.t 2)),og 43 41 false (.ld false 1 (.t 42)),og 44 41 false (.mov (.t 5)),og 45 41 false (.iad 8 (.t 43) (.t 44)),og 46 41 false (.fad 3 (.t 45)),og 47 41 false (.ld false 1 (.t 46)),og 48 41 false (.fad 2 (.t 3)),og 49 41 false (.ld false 1 (.t 48))] [og 50 41 false (.bin .lss (.t 47) (.t 49)),og 51 37 true (.pick (.t 41) (.k (.bool true)) (.t 50)),o 52 (.pick (.t 37) (.t 51) (.k (.bool false))),o 4 (.mov (.t 52))]) .ret))))⟩
theorem ir_s_l07Ref:compFn Tryz.prog n_s_l07Ref=some F_s_l07Ref:=by kernel_rfl
set_option maxHeartbeats 2000000 in
theorem s_l07Live_ret (σ:St) (v:GV) (l:List Live) (h:RS pLive.kd σ v l) (x:Live) (hl:l.length≤1099511627776):∃ r τ,Ret Tryz.prog n_s_l07Live [v,.agg (liveV x)] σ r τ∧Hp σ τ [ow pLive.kd r (insLive x l)]:=by
 refine ret_dr ir_s_l07Live (Nat.le_of_ble_eq_true rfl) ?_
 have H:=((Hp.refl σ).new 1 (liveV x)).nil_Live
 simp +contextual (disch:=omega) only[go_sem,F_s_l07Live]
 generalize hn1:σ.length=n1 at*
 refine vc_forX l.length 7 0 (fun i env τ=>env 0=v∧env 3= .ptr n1 0∧∃(u:GV) (put:Bool) (nxt:List Live),env 5=u∧env 6= .bool put∧insG liveLt x l nxt i put∧Hp σ τ [ow pLive.kd u nxt,pt 1 n1 (liveV x)]) (fun env τ=>env 3= .ptr n1 0∧∃(u:GV) (put:Bool) (nxt:List Live),env 5=u∧env 6= .bool put∧insG liveLt x l nxt l.length put∧Hp σ τ [ow pLive.kd u nxt,pt 1 n1 (liveV x)]) rfl ⟨rfl,rfl,_,false,[],rfl,rfl,insG_nil,H⟩ ?_ ?_ ?_
 ·clear H
  rintro J Y hJ hY i env τ hi e7 c0 ⟨e0,e3,u,put,nxt,e5,e6,hok,H⟩
  have hnl:=insG_len hok
  have hln:=(h.pre H.sub).len
  have C1:=Live_at (h.pre H.sub) hi
  cases put with
  |true=>
   obtain⟨w',τ3,e8,H3⟩:=H.app_Live 0 rfl l[i] (by omega)
   simp +contextual (disch:=omega) only[go_sem,c0,e0,e3,e5,e6,e7,hln,C1,e8]
   refine hJ _ _ _ ⟨?_,?_,w',true,_,?_,?_,insG_step hok hi (.inl rfl),H3⟩
   all_goals simp +contextual (disch:=omega) only[go_sem,e0,e3,e6]
  |false=>
   simp +contextual (disch:=omega) only[go_sem,c0,e0,e3,e5,e6,e7,hln,C1,ld_ptr (H.pt 1 rfl)]
   refine by_ret (s_l06Before_ret _ _ _) ?_
   cases hq:dotLt x.dot l[i].dot with
   |false=>
    have hq2:liveLt x l[i]=false:=hq
    obtain⟨w',τ3,e8,H3⟩:=H.app_Live 0 rfl l[i] (by omega)
    simp +contextual (disch:=omega) only[go_sem,c0,e0,e3,e5,e6,e7,hln,C1,e8]
    refine hJ _ _ _ ⟨?_,?_,w',false,_,?_,?_,insG_step hok hi (.inr hq2),H3⟩
    all_goals simp +contextual (disch:=omega) only[go_sem,e0,e3,e6]
   |true=>
    have hq2:liveLt x l[i]=true:=hq
    obtain⟨w',τ3,e8,H3⟩:=H.app_Live 0 rfl x (by omega)
    have H3:Hp σ τ3 [ow pLive.kd w' (nxt++[x]),pt 1 n1 (liveV x)]:=H3
    have hp:=insG_put hok hi hq2
    have hnl2:=insG_len hp
    simp only[List.length_append,List.length_cons,List.length_nil] at hnl2
    have C2:=Live_at (h.pre H3.sub) hi
    obtain⟨w2,τ4,e9,H4⟩:=H3.app_Live 0 rfl l[i] (by simp;omega)
    simp +contextual (disch:=omega) only[go_sem,c0,e0,e3,e5,e6,e7,hln,C1,ld_ptr (H.pt 1 rfl),e8,C2,e9]
    refine hJ _ _ _ ⟨?_,?_,w2,true,_,?_,?_,hp,H4⟩
    all_goals simp +contextual (disch:=omega) only[go_sem,e0,e3,e6]
 ·clear H
  rintro Y hY env τ e7 c0 ⟨e0,e3,u,put,nxt,e5,e6,hok,H⟩
  have hln:=(h.pre H.sub).len
  simp +contextual (disch:=omega) only[go_sem,c0,e0,e3,e5,e6,e7,hln]
  refine hY _ _ ⟨?_,u,put,nxt,?_,?_,hok,H⟩
  all_goals simp +contextual (disch:=omega) only[go_sem,e3,e5,e6]
 ·clear H
  rintro env τ ⟨e3,u,put,nxt,e5,e6,hok,H⟩
  have hnl:=insG_len hok
  have hend:=insG_end hok
  cases put with
  |true=>
   simp +contextual (disch:=omega) only[go_sem,e3,e5,e6]
   refine⟨_,rfl,?_⟩
   rw[insLive,←hend]
   exact H.one
  |false=>
   obtain⟨w',τ3,e8,H3⟩:=H.app_Live 0 rfl x (by omega)
   simp +contextual (disch:=omega) only[go_sem,e3,e5,e6,ld_ptr (H.pt 1 rfl),e8]
   refine⟨_,rfl,?_⟩
   rw[insLive,←hend]
   exact H3.one
set_option maxHeartbeats 2000000 in
theorem s_l07Cell_ret (σ:St) (v:GV) (l:List Cell) (h:RS pCell.kd σ v l) (x:Cell) (hl:l.length≤1099511627776):∃ r τ,Ret Tryz.prog n_s_l07Cell [v,.agg (cellV x)] σ r τ∧Hp σ τ [ow pCell.kd r (insCell x l)]:=by
 refine ret_dr ir_s_l07Cell (Nat.le_of_ble_eq_true rfl) ?_
 have H:=((Hp.refl σ).new 1 (cellV x)).nil_Cell
 simp +contextual (disch:=omega) only[go_sem,F_s_l07Cell]
 generalize hn1:σ.length=n1 at*
 refine vc_forX l.length 7 0 (fun i env τ=>env 0=v∧env 3= .ptr n1 0∧∃(u:GV) (put:Bool) (nxt:List Cell),env 5=u∧env 6= .bool put∧insG cellLt x l nxt i put∧Hp σ τ [ow pCell.kd u nxt,pt 1 n1 (cellV x)]) (fun env τ=>env 3= .ptr n1 0∧∃(u:GV) (put:Bool) (nxt:List Cell),env 5=u∧env 6= .bool put∧insG cellLt x l nxt l.length put∧Hp σ τ [ow pCell.kd u nxt,pt 1 n1 (cellV x)]) rfl ⟨rfl,rfl,_,false,[],rfl,rfl,insG_nil,H⟩ ?_ ?_ ?_
 ·clear H
  rintro J Y hJ hY i env τ hi e7 c0 ⟨e0,e3,u,put,nxt,e5,e6,hok,H⟩
  have hnl:=insG_len hok
  have hln:=(h.pre H.sub).len
  have C1:=Cell_at (h.pre H.sub) hi
  cases put with
  |true=>
   obtain⟨w',τ3,e8,H3⟩:=H.app_Cell 0 rfl l[i] (by omega)
   simp +contextual (disch:=omega) only[go_sem,c0,e0,e3,e5,e6,e7,hln,C1,e8]
   refine hJ _ _ _ ⟨?_,?_,w',true,_,?_,?_,insG_step hok hi (.inl rfl),H3⟩
   all_goals simp +contextual (disch:=omega) only[go_sem,e0,e3,e6]
  |false=>
   simp +contextual (disch:=omega) only[go_sem,c0,e0,e3,e5,e6,e7,hln,C1,ld_ptr (H.pt 1 rfl)]
   refine by_ret (s_l06Before_ret _ _ _) ?_
   cases hq:dotLt x.dot l[i].dot with
   |false=>
    have hq2:cellLt x l[i]=false:=hq
    obtain⟨w',τ3,e8,H3⟩:=H.app_Cell 0 rfl l[i] (by omega)
    simp +contextual (disch:=omega) only[go_sem,c0,e0,e3,e5,e6,e7,hln,C1,e8]
    refine hJ _ _ _ ⟨?_,?_,w',false,_,?_,?_,insG_step hok hi (.inr hq2),H3⟩
    all_goals simp +contextual (disch:=omega) only[go_sem,e0,e3,e6]
   |true=>
    have hq2:cellLt x l[i]=true:=hq
    obtain⟨w',τ3,e8,H3⟩:=H.app_Cell 0 rfl x (by omega)
    have H3:Hp σ τ3 [ow pCell.kd w' (nxt++[x]),pt 1 n1 (cellV x)]:=H3
    have hp:=insG_put hok hi hq2
    have hnl2:=insG_len hp
    simp only[List.length_append,List.length_cons,List.length_nil] at hnl2
    have C2:=Cell_at (h.pre H3.sub) hi
    obtain⟨w2,τ4,e9,H4⟩:=H3.app_Cell 0 rfl l[i] (by simp;omega)
    simp +contextual (disch:=omega) only[go_sem,c0,e0,e3,e5,e6,e7,hln,C1,ld_ptr (H.pt 1 rfl),e8,C2,e9]
    refine hJ _ _ _ ⟨?_,?_,w2,true,_,?_,?_,hp,H4⟩
    all_goals simp +contextual (disch:=omega) only[go_sem,e0,e3,e6]
 ·clear H
  rintro Y hY env τ e7 c0 ⟨e0,e3,u,put,nxt,e5,e6,hok,H⟩
  have hln:=(h.pre H.sub).len
  simp +contextual (disch:=omega) only[go_sem,c0,e0,e3,e5,e6,e7,hln]
  refine hY _ _ ⟨?_,u,put,nxt,?_,?_,hok,H⟩
  all_goals simp +contextual (disch:=omega) only[go_sem,e3,e5,e6]
 ·clear H
  rintro env τ ⟨e3,u,put,nxt,e5,e6,hok,H⟩
  have hnl:=insG_len hok
  have hend:=insG_end hok
  cases put with
  |true=>
   simp +contextual (disch:=omega) only[go_sem,e3,e5,e6]
   refine⟨_,rfl,?_⟩
   rw[insCell,←hend]
   exact H.one
  |false=>
   obtain⟨w',τ3,e8,H3⟩:=H.app_Cell 0 rfl x (by omega)
   simp +contextual (disch:=omega) only[go_sem,e3,e5,e6,ld_ptr (H.pt 1 rfl),e8]
   refine⟨_,rfl,?_⟩
   rw[insCell,←hend]
   exact H3.one
theorem s_l07Ref_ret (σ:St) (cs:List GV) (s:State) (hR:kState.R σ s cs) (as':List GV) (a:Act) (hS:kAct.R σ a as') (hl:msState s≤1099511627776):Ret Tryz.prog n_s_l07Ref [.agg cs,.agg as'] σ (.bool (refIn s a)) σ:=by
 have hR0:=hR
 have hlc:cs.length=4:=kState.len hR
 obtain⟨a1,b1,c1,v1,rfl,_,_,_,hc⟩:=hR
 obtain⟨kv,rfl,hk⟩:=hS
 obtain⟨l1,l2,l3,l4,_⟩:=msState_all hl
 refine ret_eq ir_s_l07Ref (Nat.le_of_ble_eq_true rfl) trivial ?_
 have H:=((Hp.refl σ).new 1 [a1,b1,c1,v1]).new 1 [.int .i64 a.dot.rep,.int .i64 a.dot.seq,.int .i64 a.time,kv,.int .i64 a.kind,.str a.obj,.str a.key,.int .i64 a.val,.int .i64 a.ref.rep,.int .i64 a.ref.seq]
 have z1:=ld_ptr (a:=false) (n:=1) (off:=4) (H.pt 0 rfl)
 by_cases hin:a.kind=7∨(a.kind=6∧a.ref≠d0)
 ·have CA:=s_CellAt_ret _ _ s (kState.pre hR0 H.sub) a.ref hl
  cases hx:cellIx s.cells a.ref with
  |none=>
   have hE:refIn s a=false:=by simp[refIn,hin,hx]
   have hno:cellNo s.cells a.ref= -1:=by simp[cellNo,hx]
   rw[hno] at CA
   have cm:decide ((0:Int)≤ -1)=false:=rfl
   by_cases h7:a.kind=7
   ·have c7:(a.kind != 7)=false:=by simp[h7]
    simp +contextual (disch:=omega) only[go_sem,F_s_l07Ref,c7]
    refine by_ret CA ?_
    simp +contextual (disch:=omega) only[go_sem,cm,hE,H.sub]
   ·have h6:a.kind=6∧a.ref≠d0:=hin.resolve_left h7
    have c7:(a.kind != 7)=true:=by simp[h7]
    have c6:(a.kind != 6)=false:=by simp[h6.1]
    have cr:decide (a.ref=⟨0,0⟩)=false:=decide_eq_false h6.2
    simp +contextual (disch:=omega) only[go_sem,F_s_l07Ref,c7,c6,cr,Bool.false_xor,Bool.false_bne]
    refine by_ret CA ?_
    simp +contextual (disch:=omega) only[go_sem,cm,hE,H.sub]
  |some k=>
   obtain⟨hk,hk2⟩:=cellIx_some hx
   have hE:refIn s a=(decide (s.cells[k].obj=a.obj)&&(decide (a.kind=7)||decide (s.cells[k].time<a.time))):=by simp[refIn,hin,hx,onI_at hk]
   have hno:cellNo s.cells a.ref=k:=by simp[cellNo,hx]
   rw[hno] at CA
   have cm:decide ((0:Int)≤(k:Int))=true:=by simp
   have C2:=Cell_at (hc.pre H.sub) hk
   by_cases h7:a.kind=7
   ·have c7:(a.kind != 7)=false:=by simp[h7]
    have d7:(a.kind==7)=true:=by simp[h7]
    rw[decide_eq_true h7,Bool.true_or,Bool.and_true] at hE
    simp +contextual (disch:=omega) only[go_sem,F_s_l07Ref,c7]
    refine by_ret CA ?_
    cases ho:decide (s.cells[k].obj=a.obj) with
    |true=>simp +contextual (disch:=omega) only[go_sem,cm,natOf_nat,C2,ho,d7,hE,H.sub]
    |false=>simp +contextual (disch:=omega) only[go_sem,cm,natOf_nat,C2,ho,hE,H.sub]
   ·have h6:a.kind=6∧a.ref≠d0:=hin.resolve_left h7
    have c7:(a.kind != 7)=true:=by simp[h7]
    have d7:(a.kind==7)=false:=by simp[h7]
    have c6:(a.kind != 6)=false:=by simp[h6.1]
    have cr:decide (a.ref=⟨0,0⟩)=false:=decide_eq_false h6.2
    rw[decide_eq_false h7,Bool.false_or] at hE
    simp +contextual (disch:=omega) only[go_sem,F_s_l07Ref,c7,c6,cr,Bool.false_xor,Bool.false_bne]
    refine by_ret CA ?_
    cases ho:decide (s.cells[k].obj=a.obj) with
    |true=>simp +contextual (disch:=omega) only[go_sem,cm,natOf_nat,C2,ho,d7,hE,H.sub,Bool.true_and]
    |false=>simp +contextual (disch:=omega) only[go_sem,cm,natOf_nat,C2,ho,hE,H.sub,Bool.false_and]
 ·have hE:refIn s a=true:=by unfold refIn;rw[if_neg hin]
  have h7:¬ a.kind=7:=fun h=>hin (.inl h)
  have c7:(a.kind != 7)=true:=by simp[h7]
  by_cases h6:a.kind=6
  ·have hr:a.ref=d0:=by
    by_cases h:a.ref=d0
    ·exact h
    ·exact absurd (.inr ⟨h6,h⟩) hin
   have c6:(a.kind != 6)=false:=by simp[h6]
   have cr:decide (a.ref=⟨0,0⟩)=true:=decide_eq_true hr
   simp +contextual (disch:=omega) only[go_sem,F_s_l07Ref,c7,c6,cr,Bool.false_xor,Bool.false_bne,hE,H.sub]
  ·have c6:(a.kind != 6)=true:=by simp[h6]
   simp +contextual (disch:=omega) only[go_sem,F_s_l07Ref,c7,c6,hE,H.sub]
end Go.Proofs.YtffnefmklckngaaGreat.Sy
namespace Go.Proofs.YtffnefmklckngaaGreat.Sy
open Go Go.RowKit
set_option linter.unusedSimpArgs false
set_option linter.unusedVariables false
theorem Hp.moveTo {σ τ:St} {r r':Thg} {rs:List Thg} (H:Hp σ τ (r::rs)) (k:Nat) (hk:rs[k]? =some r'):Hp σ τ (rs.set k r):=by
 have hkl:=(List.getElem?_eq_some_iff.1 hk).1
 have h1:=(H.pick (k+1) hk).drop1
 exact Hp.unpick h1 hkl
theorem vc_forR {P:Program} {a:Cd} {Q:Ex→Env→St→Prop} {env:Env} {σ:St} (n ri j0:Nat) (I:Nat→Env→St→Prop) (X Z:Env→St→Prop) (hr:env ri=gi 0) (h0:I 0 env σ)
  (hs:∀(J:Nat→Env→St→Prop) (Y W:Env→St→Prop),(∀ i env σ,I i env σ→J i env σ)→(∀ env σ,X env σ→Y env σ)→(∀ env σ,Z env σ→W env σ)→∀ i env σ,i<n→env ri=gi i→decide ((i:Int)<n)=true→I i env σ→vc P a (fun e env' σ'=>match e with| .nxt=>env' ri=gi ((i:Int)+1)∧J (i+1) env' σ'| .ext j=>j=j0∧Y env' σ'| .ret=>W env' σ') env σ)
  (he:∀(Y:Env→St→Prop),(∀ env σ,X env σ→Y env σ)→∀ env σ,env ri=gi n→decide ((n:Int)<n)=false→I n env σ→vc P a (fun e env' σ'=>match e with| .nxt=>False| .ext j=>j=j0∧Y env' σ'| .ret=>False) env σ)
  (hx:∀ env σ,X env σ→Q (.ext j0) env σ) (hz:∀ env σ,Z env σ→Q .ret env σ):vc P (.lop a) Q env σ:=by
 refine vc_for n ri I hr h0 (fun i env σ h1 h2 h3 h4=>vc_mono (hs I X Z (fun _ _ _ h=>h) (fun _ _ h=>h) (fun _ _ h=>h) i env σ h1 h2 h3 h4) fun e env' σ' hq=> ?_) (fun env σ h1 h2 h3=>vc_mono (he X (fun _ _ h=>h) env σ h1 h2 h3) fun e env' σ' hq=> ?_)
 ·cases e with
  |nxt=>exact hq
  |ret=>exact hz _ _ hq
  |ext j=>obtain⟨rfl,hq⟩:=hq;exact hx _ _ hq
 ·cases e with
  |nxt=>exact hq
  |ret=>exact hq.elim
  |ext j=>obtain⟨rfl,hq⟩:=hq;exact hx _ _ hq
end Go.Proofs.YtffnefmklckngaaGreat.Sy
namespace Go.Proofs.YtffnefmklckngaaGreat.Sy
open Go Go.RowKit
set_option linter.unusedSimpArgs false
set_option linter.unusedVariables false
set_option maxRecDepth 4000
abbrev n_s_l07Clear:Nat:=196
def F_s_l07Clear:Fn1:=⟨61,[],(.seq (.reg [o 13 (.lit 6 0 [] []),o 10 (.mov (.t 13))]) (.seq (.seq (.reg [o 11 (.mov (.k (.int .i64 0)))]) (.blk 0 (.lop (.seq (.seq (.reg [o 14 (.mov (.t 11)),o 15 (.mov (.t 0)),o 16 (.nck (.t 15)),o 17 (.fad 2 (.t 16)),o 18 (.ld false 1 (.t 17)),o 19 (.len false (.t 18)),o 20 (.bin .lss (.t 14) (.t 19))]) (.cnd (.t 20) .skip (.ext 0))) (.seq (.blk 1 (.seq (.reg [o 23 (.mov (.t 0)),o 24 (.nck (.t 23)),o 25 (.fad 2 (.t 24)),o 26 (.ld false 1 (.t 25)),o 27 (.mov (.t 11)),o 28 (.iad 6 (.t 26) (.t 27)),o 29 (.ld true 6 (.t 28)),o 12 (.new [(.bool false),(.str ⟨#[]⟩),(.str ⟨#[]⟩),(.int .i64 0),(.int .i64 0),(.int .i64 0)]),on (.st 6 (.t 12) (.t 29))]) (.seq (.reg [o 30 (.fad 0 (.t 12)),o 31 (.ld false 1 (.t 30)),o 32 (.mov (.t 1)),o 33 (.eqb true (.t 31) (.t 32)),o 34 (.mov (.t 33)),og 35 34 false (.fad 1 (.t 12)),og 36 34 false (.ld false 1 (.t 35)),og 37 34 false (.mov (.t 2)),og 38 34 false (.bin .neq (.t 36) (.t 37)),o 39 (.pick (.t 34) (.k (.bool true)) (.t 38)),o 40 (.mov (.t 39)),og 41 40 false (.fad 2 (.t 12)),og 42 40 false (.ld false 1 (.t 41)),og 43 40 false (.mov (.t 3)),og 44 40 false (.bin .neq (.t 42) (.t 43)),o 45 (.pick (.t 40) (.k (.bool true)) (.t 44)),o 46 (.mov (.t 45)),og 47 46 false (.mov (.t 4)),og 48 46 false (.fad 4 (.t 12)),og 49 46 false (.ld true 2 (.t 48)),og 50 46 false (.call 142 [(.t 47),(.t 49)]),og 51 46 false (.un .not (.t 50)),o 52 (.pick (.t 46) (.k (.bool true)) (.t 51))]) (.cnd (.t 52) (.reg [o 53 (.mov (.t 10)),o 54 (.ld true 6 (.t 12)),o 55 (.lit 6 1 [(.bool false),(.str ⟨#[]⟩),(.str ⟨#[]⟩),(.int .i64 0),(.int .i64 0),(.int .i64 0)] [(0,6,(.t 54))]),o 56 (.app 6 64 [(.bool false),(.str ⟨#[]⟩),(.str ⟨#[]⟩),(.int .i64 0),(.int .i64 0),(.int .i64 0)] (.t 53) (.t 55)),o 10 (.mov (.t 56))]) .skip)))) (.reg [o 21 (.mov (.t 11)),o 22 (.bin .add (.t 21) (.k (.int .i64 1))),o 11 (.mov (.t 22))])))))) (.reg [o 57 (.mov (.t 0)),o 58 (.mov (.t 10)),o 59 (.nck (.t 57)),o 60 (.fad 2 (.t 59)),on (.st 1 (.t 60) (.t 58))])))⟩
theorem ir_s_l07Clear:compFn Tryz.prog n_s_l07Clear=some F_s_l07Clear:=by kernel_rfl
abbrev n_s_l07Tally:Nat:=194
def F_s_l07Tally:Fn1:=⟨113,[],(.seq (.seq (.reg [o 8 (.mov (.k (.int .i64 0)))]) (.blk 0 (.lop (.seq (.seq (.reg [o 14 (.mov (.t 8)),o 15 (.mov (.t 0)),o 16 (.nck (.t 15)),o 17 (.fad 1 (.t 16)),o 18 (.ld false 1 (.t 17)),o 19 (.len false (.t 18)),o 20 (.bin .lss (.t 14) (.t 19))]) (.cnd (.t 20) .skip (.ext 0))) (.seq (.blk 1 (.seq (.reg [o 23 (.mov (.t 0)),o 24 (.nck (.t 23)),o 25 (.fad 1 (.t 24)),o 26 (.ld false 1 (.t 25)),o 27 (.mov (.t 8)),o 28 (.iad 3 (.t 26) (.t 27)),o 29 (.ld true 3 (.t 28)),o 9 (.new [(.str ⟨#[]⟩),(.int .i64 0),(.int .i64 0)]),on (.st 3 (.t 9) (.t 29))]) (.seq (.reg [o 30 (.fad 0 (.t 9)),o 31 (.ld false 1 (.t 30)),o 32 (.mov (.t 1)),o 33 (.bin .eql (.t 31) (.t 32)),o 34 (.mov (.t 33)),og 35 34 true (.fad 1 (.t 9)),og 36 34 true (.ld false 1 (.t 35)),og 37 34 true (.mov (.t 2)),og 38 34 true (.bin .eql (.t 36) (.t 37)),o 39 (.pick (.t 34) (.t 38) (.k (.bool false)))]) (.cnd (.t 39) (.seq (.drw [o 40 (.mov (.t 0)),o 41 (.nck (.t 40)),o 42 (.fad 1 (.t 41)),o 43 (.ld false 1 (.t 42)),o 44 (.mov (.t 8)),o 45 (.fad 2 (.t 9)),o 46 (.ld false 1 (.t 45))] [o 47 (.mov (.t 3)),o 48 (.bin .add (.t 46) (.t 47)),o 49 (.bin .rem (.t 48) (.k (.int .i64 1000000))),o 50 (.iad 3 (.t 43) (.t 44)),o 51 (.fad 2 (.t 50)),on (.st 1 (.t 51) (.t 49))]) .ret) .skip)))) (.reg [o 21 (.mov (.t 8)),o 22 (.bin .add (.t 21) (.k (.int .i64 1))),o 8 (.mov (.t 22))])))))) (.seq (.reg [o 52 (.lit 3 0 [] []),o 10 (.mov (.t 52))]) (.seq (.reg [o 11 (.mov (.k (.bool false)))]) (.seq (.seq (.reg [o 12 (.mov (.k (.int .i64 0)))]) (.blk 2 (.lop (.seq (.seq (.reg [o 53 (.mov (.t 12)),o 54 (.mov (.t 0)),o 55 (.nck (.t 54)),o 56 (.fad 1 (.t 55)),o 57 (.ld false 1 (.t 56)),o 58 (.len false (.t 57)),o 59 (.bin .lss (.t 53) (.t 58))]) (.cnd (.t 59) .skip (.ext 2))) (.seq (.blk 3 (.seq (.reg [o 62 (.mov (.t 0)),o 63 (.nck (.t 62)),o 64 (.fad 1 (.t 63)),o 65 (.ld false 1 (.t 64)),o 66 (.mov (.t 12)),o 67 (.iad 3 (.t 65) (.t 66)),o 68 (.ld true 3 (.t 67)),o 13 (.new [(.str ⟨#[]⟩),(.int .i64 0),(.int .i64 0)]),on (.st 3 (.t 13) (.t 68))]) (.seq (.seq (.reg [o 69 (.mov (.t 11)),o 70 (.un .not (.t 69)),o 71 (.mov (.t 70)),og 72 71 true (.fad 0 (.t 13)),og 73 71 true (.ld false 1 (.t 72)),og 74 71 true (.mov (.t 1)),og 75 71 true (.bin .gtr (.t 73) (.t 74)),og 76 71 true (.mov (.t 75)),og 77 76 false (.fad 0 (.t 13)),og 78 76 false (.ld false 1 (.t 77)),og 79 76 false (.mov (.t 1)),og 80 76 false (.bin .eql (.t 78) (.t 79)),og 81 76 false (.mov (.t 80)),og 82 81 true (.fad 1 (.t 13)),og 83 81 true (.ld false 1 (.t 82)),og 84 81 true (.mov (.t 2)),og 85 81 true (.bin .gtr (.t 83) (.t 84)),og 86 76 false (.pick (.t 81) (.t 85) (.k (.bool false))),og 87 71 true (.pick (.t 76) (.k (.bool true)) (.t 86)),o 88 (.pick (.t 71) (.t 87) (.k (.bool false)))]) (.cnd (.t 88) (.seq (.reg [o 89 (.mov (.t 10)),o 90 (.mov (.t 1)),o 91 (.mov (.t 2)),o 92 (.mov (.t 3)),o 93 (.build [(.str ⟨#[]⟩),(.int .i64 0),(.int .i64 0)] [(0,1,(.t 90)),(1,1,(.t 91)),(2,1,(.t 92))]),o 94 (.lit 3 1 [(.str ⟨#[]⟩),(.int .i64 0),(.int .i64 0)] [(0,3,(.t 93))]),o 95 (.app 3 32 [(.str ⟨#[]⟩),(.int .i64 0),(.int .i64 0)] (.t 89) (.t 94)),o 10 (.mov (.t 95))]) (.reg [o 11 (.mov (.k (.bool true)))])) .skip)) (.reg [o 96 (.mov (.t 10)),o 97 (.ld true 3 (.t 13)),o 98 (.lit 3 1 [(.str ⟨#[]⟩),(.int .i64 0),(.int .i64 0)] [(0,3,(.t 97))]),o 99 (.app 3 32 [(.str ⟨#[]⟩),(.int .i64 0),(.int .i64 0)] (.t 96) (.t 98)),o 10 (.mov (.t 99))])))) (.reg [o 60 (.mov (.t 12)),o 61 (.bin .add (.t 60) (.k (.int .i64 1))),o 12 (.mov (.t 61))])))))) (.seq (.seq (.reg [o 100 (.mov (.t 11)),o 101 (.un .not (.t 100))]) (.cnd (.t 101) (.reg [o 102 (.mov (.t 10)),o 103 (.mov (.t 1)),o 104 (.mov (.t 2)),o 105 (.mov (.t 3)),o 106 (.build [(.str ⟨#[]⟩),(.int .i64 0),(.int .i64 0)] [(0,1,(.t 103)),(1,1,(.t 104)),(2,1,(.t 105))]),o 107 (.lit 3 1 [(.str ⟨#[]⟩),(.int .i64 0),(.int .i64 0)] [(0,3,(.t 106))]),o 108 (.app 3 32 [(.str ⟨#[]⟩),(.int .i64 0),(.int .i64 0)] (.t 102) (.t 107)),o 10 (.mov (.t 108))]) .skip)) (.reg [o 109 (.mov (.t 0)),o 110 (.mov (.t 10)),o 111 (.nck (.t 109)),o 112 (.fad 1 (.t 111)),on (.st 1 (.t 112) (.t 110))]))))))⟩
theorem ir_s_l07Tally:compFn Tryz.prog n_s_l07Tally=some F_s_l07Tally:=by kernel_rfl
def SPtr (σ0 τ:St) (g:Nat) (s:State) (rest:List Thg):Prop:=∃ v0 v1 v2 v3,Hp σ0 τ (ow pI.kd v0 s.know::ow pTally.kd v1 s.tallies::ow pLive.kd v2 s.lives::ow pCell.kd v3 s.cells::pt 1 g [v0,v1,v2,v3]::rest)
set_option maxHeartbeats 2000000 in
theorem s_l07Clear_ret {σ0 σ:St} {g:Nat} {s:State} {rest:List Thg} (H:SPtr σ0 σ g s rest) (m:Bool) (o k:ByteArray) (kv:GV) (knew:List Int) (hk:RS pI.kd σ0 kv knew) (hl:msState s≤1099511627776) (hkl:knew.length≤1099511627776):∃ τ,Ret Tryz.prog n_s_l07Clear [.ptr g 0,.bool m,.str o,.str k,kv] σ (.tup []) τ∧SPtr σ0 τ g {s with lives:=s.lives.filter (keepL m o k knew)} rest:=by
 obtain⟨v0,v1,v2,v3,H⟩:=H
 obtain⟨l1,l2,l3,l4,_⟩:=msState_all hl
 have key:∃ r τ,Ret Tryz.prog n_s_l07Clear [.ptr g 0,.bool m,.str o,.str k,kv] σ r τ∧r= .tup []∧SPtr σ0 τ g {s with lives:=s.lives.filter (keepL m o k knew)} rest:=by
  refine ret_dr ir_s_l07Clear (Nat.le_of_ble_eq_true rfl) ?_
  have H:=H.nil_Live
  simp +contextual (disch:=omega) only[go_sem,F_s_l07Clear]
  generalize hp:keepL m o k knew=p
  refine vc_forX s.lives.length 11 0 (fun i env τ=>env 0= .ptr g 0∧env 1= .bool m∧env 2= .str o∧env 3= .str k∧env 4=kv∧∃ w,env 10=w∧Hp σ0 τ (ow pLive.kd w ((s.lives.take i).filter p)::ow pI.kd v0 s.know::ow pTally.kd v1 s.tallies::ow pLive.kd v2 s.lives::ow pCell.kd v3 s.cells::pt 1 g [v0,v1,v2,v3]::rest)) (fun env τ=>env 0= .ptr g 0∧∃ w,env 10=w∧Hp σ0 τ (ow pLive.kd w (s.lives.filter p)::ow pI.kd v0 s.know::ow pTally.kd v1 s.tallies::ow pLive.kd v2 s.lives::ow pCell.kd v3 s.cells::pt 1 g [v0,v1,v2,v3]::rest)) rfl ⟨rfl,rfl,rfl,rfl,rfl,_,rfl,H⟩ ?_ ?_ ?_
  ·clear H
   rintro J Y hJ hY i env τ hi e11 c0 ⟨e0,e1,e2,e3,e4,w,e10,H⟩
   have hfl:=filter_take_len s.lives p i
   have hsn:=filter_snoc' (p:=p) hi
   have C1:=Live_at (H.sl 3 rfl) hi
   have hln:=(H.sl 3 rfl).len
   have zb:=H.pt 5 rfl
   have G:=H.grow (pre1 τ (some (Blk.row 1 (liveV s.lives[i]))))
   have hkeep:p s.lives[i]=(!(s.lives[i].map==m)||(!decide (s.lives[i].obj=o)||(!decide (s.lives[i].key=k)|| !knows knew s.lives[i].dot))):=by rw[← hp];rfl
   obtain⟨w',τ3,e8,H3⟩:=G.app_Live 0 rfl s.lives[i] (by omega)
   have kn:=s_Knows_ret _ kv knew s.lives[i].dot (hk.pre G.sub) hkl
   cases h1:(s.lives[i].map==m) with
   |false=>
    rw[h1] at hkeep
    have hk0:p s.lives[i]=true:=by rw[hkeep];rfl
    rw[hk0,if_pos rfl] at hsn
    simp +contextual (disch:=omega) only[go_sem,c0,e0,e1,e2,e3,e4,e10,e11,ld_ptr zb,hln,C1,h1,Bool.xor_false,Bool.true_bne,Bool.not_false,e8]
    refine hJ _ _ _ ⟨?_,?_,?_,?_,?_,w',?_,by rw[hsn];exact H3⟩
    all_goals simp +contextual (disch:=omega) only[go_sem,e0,e1,e2,e3,e4,e10]
   |true=>
    cases h2:decide (s.lives[i].obj=o) with
    |false=>
     rw[h1,h2] at hkeep
     have hk0:p s.lives[i]=true:=by rw[hkeep];rfl
     rw[hk0,if_pos rfl] at hsn
     simp +contextual (disch:=omega) only[go_sem,c0,e0,e1,e2,e3,e4,e10,e11,ld_ptr zb,hln,C1,h1,h2,Bool.true_bne,Bool.not_false,Bool.not_true,e8]
     refine hJ _ _ _ ⟨?_,?_,?_,?_,?_,w',?_,by rw[hsn];exact H3⟩
     all_goals simp +contextual (disch:=omega) only[go_sem,e0,e1,e2,e3,e4,e10]
    |true=>
     cases h3:decide (s.lives[i].key=k) with
     |false=>
      rw[h1,h2,h3] at hkeep
      have hk0:p s.lives[i]=true:=by rw[hkeep];rfl
      rw[hk0,if_pos rfl] at hsn
      simp +contextual (disch:=omega) only[go_sem,c0,e0,e1,e2,e3,e4,e10,e11,ld_ptr zb,hln,C1,h1,h2,h3,Bool.true_bne,Bool.not_false,Bool.not_true,e8]
      refine hJ _ _ _ ⟨?_,?_,?_,?_,?_,w',?_,by rw[hsn];exact H3⟩
      all_goals simp +contextual (disch:=omega) only[go_sem,e0,e1,e2,e3,e4,e10]
     |true=>
      simp +contextual (disch:=omega) only[go_sem,c0,e0,e1,e2,e3,e4,e10,e11,ld_ptr zb,hln,C1,h1,h2,h3,Bool.true_bne,Bool.not_false,Bool.not_true]
      refine by_ret kn ?_
      cases h4:knows knew s.lives[i].dot with
      |false=>
       rw[h1,h2,h3,h4] at hkeep
       have hk0:p s.lives[i]=true:=by rw[hkeep];rfl
       rw[hk0,if_pos rfl] at hsn
       simp +contextual (disch:=omega) only[go_sem,e0,e1,e2,e3,e4,e10,e11,C1,h4,e8]
       refine hJ _ _ _ ⟨?_,?_,?_,?_,?_,w',?_,by rw[hsn];exact H3⟩
       all_goals simp +contextual (disch:=omega) only[go_sem,e0,e1,e2,e3,e4,e10]
      |true=>
       rw[h1,h2,h3,h4] at hkeep
       have hk0:p s.lives[i]=false:=by rw[hkeep];rfl
       rw[hk0,if_neg (by simp),List.append_nil] at hsn
       simp +contextual (disch:=omega) only[go_sem,e0,e1,e2,e3,e4,e10,e11,h4]
       refine hJ _ _ _ ⟨?_,?_,?_,?_,?_,w,?_,by rw[hsn];exact G⟩
       all_goals simp +contextual (disch:=omega) only[go_sem,e0,e1,e2,e3,e4,e10]
  ·clear H
   rintro Y hY env τ e11 c0 ⟨e0,e1,e2,e3,e4,w,e10,H⟩
   rw[List.take_length] at H
   have hln:=(H.sl 3 rfl).len
   simp +contextual (disch:=omega) only[go_sem,c0,e0,e1,e2,e3,e4,e10,e11,ld_ptr (H.pt 5 rfl),hln]
   refine hY _ _ ⟨?_,w,?_,H⟩
   all_goals simp +contextual (disch:=omega) only[go_sem,e0,e10]
  ·clear H
   rintro env τ ⟨e0,w,e10,H⟩
   have c1:=(H.sl 0 rfl).cell
   obtain⟨τ1,s1,H1,_⟩:=H.st 5 rfl 1 2 w (by rw[c1];rfl) (by decide) (by simp)
   simp +contextual (disch:=omega) only[go_sem,e0,e10,s1]
   refine⟨_,rfl,rfl,v0,v1,w,v3,?_⟩
   simp only[c1,List.set_cons_zero,List.set_cons_succ,splice_succ,splice_cons,splice_nil] at H1
   exact Hp.moveTo H1 2 rfl
 obtain⟨r,τ,R,rfl,h⟩:=key
 exact⟨τ,R,h⟩
theorem modify_set {α:Type} (f:α→α):∀ {l:List α} {i:Nat} (hi:i<l.length),l.modify i f=l.set i (f l[i])
 |x::l,0,_=>by simp
 |x::l,i+1,hi=>by
  rw[List.modify_succ_cons,modify_set f (by simpa using hi)]
  simp
theorem isTal_find {l:List Tally} {o:ByteArray} {r:Int} {i:Nat} (hi:i<l.length) (ha:∀ j (hj:j<l.length),j<i→isTal o r l[j]=false) (h:isTal o r l[i]=true):l.findIdx? (isTal o r)=some i:=by
 rw[List.findIdx?_eq_some_iff_getElem]
 exact⟨hi,h,fun j hj=>by rw[ha j (by omega) hj];simp⟩
set_option maxHeartbeats 2000000 in
theorem s_l07Tally_ret {σ0 σ:St} {g:Nat} {s:State} {rest:List Thg} (H:SPtr σ0 σ g s rest) (o:ByteArray) (rep val:Int) (hl:msState s≤1099511627776) (hv: -1000000≤val∧val≤1000000) (hs:∀ t∈s.tallies,-1000000≤t.sum∧t.sum≤1000000):∃ τ,Ret Tryz.prog n_s_l07Tally [.ptr g 0,.str o,gi rep,gi val] σ (.tup []) τ∧SPtr σ0 τ g {s with tallies:=talPut s.tallies o rep val} rest:=by
 obtain⟨v0,v1,v2,v3,H⟩:=H
 obtain⟨l1,l2,l3,l4,_⟩:=msState_all hl
 have key:∃ r τ,Ret Tryz.prog n_s_l07Tally [.ptr g 0,.str o,gi rep,gi val] σ r τ∧r= .tup []∧SPtr σ0 τ g {s with tallies:=talPut s.tallies o rep val} rest:=by
  refine ret_dr ir_s_l07Tally (Nat.le_of_ble_eq_true rfl) ?_
  simp +contextual (disch:=omega) only[go_sem,F_s_l07Tally]
  refine vc_forR s.tallies.length 8 0 (fun i env τ=>env 0= .ptr g 0∧env 1= .str o∧env 2=gi rep∧env 3=gi val∧(∀ j (hj:j<s.tallies.length),j<i→isTal o rep s.tallies[j]=false)∧Hp σ0 τ (ow pI.kd v0 s.know::ow pTally.kd v1 s.tallies::ow pLive.kd v2 s.lives::ow pCell.kd v3 s.cells::pt 1 g [v0,v1,v2,v3]::rest)) (fun env τ=>env 0= .ptr g 0∧env 1= .str o∧env 2=gi rep∧env 3=gi val∧s.tallies.findIdx? (isTal o rep)=none∧Hp σ0 τ (ow pI.kd v0 s.know::ow pTally.kd v1 s.tallies::ow pLive.kd v2 s.lives::ow pCell.kd v3 s.cells::pt 1 g [v0,v1,v2,v3]::rest)) (fun env τ=>SPtr σ0 τ g {s with tallies:=talPut s.tallies o rep val} rest) rfl ⟨rfl,rfl,rfl,rfl,fun j _ hj=>by omega,H⟩ ?_ ?_ ?_ ?_
  ·clear H
   rintro J Y W hJ hY hW i env τ hi e8 c0 ⟨e0,e1,e2,e3,ha,H⟩
   have C1:=Tally_at (H.sl 1 rfl) hi
   have hln:=(H.sl 1 rfl).len
   have zb:=H.pt 4 rfl
   have G:=H.grow (pre1 τ (some (Blk.row 1 (tallyV s.tallies[i]))))
   have hno:isTal o rep s.tallies[i]=false→∀ j (hj:j<s.tallies.length),j<i+1→isTal o rep s.tallies[j]=false:=fun h j hj hji=>by
    rcases Nat.lt_or_ge j i with h2|h2
    ·exact ha j hj h2
    ·have:j=i:=by omega
     subst this;exact h
   cases h1:decide (s.tallies[i].obj=o) with
   |false=>
    simp +contextual (disch:=omega) only[go_sem,c0,e0,e1,e2,e3,e8,ld_ptr zb,hln,C1,h1]
    refine hJ _ _ _ ⟨?_,?_,?_,?_,hno (by simp[isTal,h1]),G⟩
    all_goals simp +contextual (disch:=omega) only[go_sem,e0,e1,e2,e3]
   |true=>
    have o1:s.tallies[i].obj=o:=by simpa using h1
    cases h2:decide (s.tallies[i].rep=rep) with
    |false=>
     have b2:(s.tallies[i].rep==rep)=false:=h2
     simp +contextual (disch:=omega) only[go_sem,c0,e0,e1,e2,e3,e8,ld_ptr zb,hln,C1,h1,b2]
     refine hJ _ _ _ ⟨?_,?_,?_,?_,hno (by simp[isTal,h2]),G⟩
     all_goals simp +contextual (disch:=omega) only[go_sem,e0,e1,e2,e3]
    |true=>
     have b2:(s.tallies[i].rep==rep)=true:=h2
     have hf:=isTal_find hi ha (by simp only[isTal,h1,h2];rfl)
     have hsb:=hs _ (List.getElem_mem hi)
     have w1:IntKind.i64.wrap (s.tallies[i].sum+val)=s.tallies[i].sum+val:=wrap_add (by omega) (by omega)
     have C2:=Tally_at (G.sl 1 rfl) hi
     obtain⟨τ1,s1,H1⟩:=G.ste 1 rfl hi 1 2 (gi (addM s.tallies[i].sum val)) {s.tallies[i] with sum:=addM s.tallies[i].sum val} rfl (by decide) (by decide) rfl
     have s1:stG 1 _ (fld 2 (atz 3 v1 i)) (.int .i64 ((s.tallies[i].sum+val).tmod 1000000))=some (.tup [],τ1):=s1
     have zc:=G.pt 4 rfl
     simp +contextual (disch:=omega) only[go_sem,c0,e0,e1,e2,e3,e8,ld_ptr zb,ld_ptr zc,hln,C1,C2,h1,b2,natOf_nat,w1,s1]
     refine hW _ _ ⟨v0,v1,v2,v3,?_⟩
     have hE:talPut s.tallies o rep val=s.tallies.set i {s.tallies[i] with sum:=addM s.tallies[i].sum val}:=by
      unfold talPut
      rw[hf]
      simp only[]
      rw[modify_set _ hi]
     show Hp σ0 τ1 (ow pI.kd v0 s.know::ow pTally.kd v1 (talPut s.tallies o rep val)::ow pLive.kd v2 s.lives::ow pCell.kd v3 s.cells::pt 1 g [v0,v1,v2,v3]::rest)
     rw[hE]
     exact H1
  ·clear H
   rintro Y hY env τ e8 c0 ⟨e0,e1,e2,e3,ha,H⟩
   have hln:=(H.sl 1 rfl).len
   have hnf:s.tallies.findIdx? (isTal o rep)=none:=by
    rw[List.findIdx?_eq_none_iff]
    intro t ht
    obtain⟨j,hj,rfl⟩:=List.getElem_of_mem ht
    exact ha j hj hj
   simp +contextual (disch:=omega) only[go_sem,c0,e0,e1,e2,e3,e8,ld_ptr (H.pt 4 rfl),hln]
   refine hY _ _ ⟨?_,?_,?_,?_,hnf,H⟩
   all_goals simp +contextual (disch:=omega) only[go_sem,e0,e1,e2,e3]
  ·clear H
   rintro env τ ⟨e0,e1,e2,e3,hnf,H⟩
   have hE:talPut s.tallies o rep val=insB tallyLt ⟨o,rep,val⟩ s.tallies:=by unfold talPut;rw[hnf]
   rw[hE]
   have H:=H.nil_Tally
   simp +contextual (disch:=omega) only[go_sem,e0,e1,e2,e3]
   refine vc_forX s.tallies.length 12 2 (fun i env τ=>env 0= .ptr g 0∧env 1= .str o∧env 2=gi rep∧env 3=gi val∧∃(u:GV) (put:Bool) (nxt:List Tally),env 10=u∧env 11= .bool put∧insG tallyLt ⟨o,rep,val⟩ s.tallies nxt i put∧Hp σ0 τ (ow pTally.kd u nxt::ow pI.kd v0 s.know::ow pTally.kd v1 s.tallies::ow pLive.kd v2 s.lives::ow pCell.kd v3 s.cells::pt 1 g [v0,v1,v2,v3]::rest)) (fun env τ=>env 0= .ptr g 0∧env 1= .str o∧env 2=gi rep∧env 3=gi val∧∃(u:GV) (put:Bool) (nxt:List Tally),env 10=u∧env 11= .bool put∧insG tallyLt ⟨o,rep,val⟩ s.tallies nxt s.tallies.length put∧Hp σ0 τ (ow pTally.kd u nxt::ow pI.kd v0 s.know::ow pTally.kd v1 s.tallies::ow pLive.kd v2 s.lives::ow pCell.kd v3 s.cells::pt 1 g [v0,v1,v2,v3]::rest)) rfl ⟨by simp +contextual (disch:=omega) only[go_sem,e0],by simp +contextual (disch:=omega) only[go_sem,e1],by simp +contextual (disch:=omega) only[go_sem,e2],by simp +contextual (disch:=omega) only[go_sem,e3],_,false,[],by simp +contextual (disch:=omega) only[go_sem],by simp +contextual (disch:=omega) only[go_sem],insG_nil,H⟩ ?_ ?_ ?_
   ·clear H e0 e1 e2 e3
    rintro J Y hJ hY i env τ hi e12 c0 ⟨e0,e1,e2,e3,u,put,nxt,e10,e11,hok,H⟩
    have hnl:=insG_len hok
    have C1:=Tally_at (H.sl 2 rfl) hi
    have hln:=(H.sl 2 rfl).len
    have zb:=H.pt 5 rfl
    have G:=H.grow (pre1 τ (some (Blk.row 1 (tallyV s.tallies[i]))))
    have hlt:tallyLt ⟨o,rep,val⟩ s.tallies[i]=(txLt o s.tallies[i].obj||(decide (s.tallies[i].obj=o)&&decide (rep<s.tallies[i].rep))):=by
     unfold tallyLt
     have:decide (o=s.tallies[i].obj)=decide (s.tallies[i].obj=o):=by rw[decide_eq_decide];exact eq_comm
     rw[this]
    have HN:=H.new 1 (tallyV s.tallies[i])
    cases put with
    |true=>
     obtain⟨w',τ3,e8,H3⟩:=G.app_Tally 0 rfl s.tallies[i] (by omega)
     simp +contextual (disch:=omega) only[go_sem,c0,e0,e1,e2,e3,e10,e11,e12,ld_ptr zb,hln,C1,Bool.not_true,e8]
     refine hJ _ _ _ ⟨?_,?_,?_,?_,w',true,_,?_,?_,insG_step hok hi (.inl rfl),H3⟩
     all_goals simp +contextual (disch:=omega) only[go_sem,e0,e1,e2,e3,e11]
    |false=>
     cases h1:txLt o s.tallies[i].obj with
     |true=>
      have hq:tallyLt ⟨o,rep,val⟩ s.tallies[i]=true:=by rw[hlt,h1];rfl
      have hp:=insG_put hok hi hq
      have hnl2:=insG_len hp
      simp only[List.length_append,List.length_cons,List.length_nil] at hnl2
      obtain⟨w4,τ4,e9,H4⟩:=HN.app_Tally 1 rfl ⟨o,rep,val⟩ (by omega)
      have H4:Hp σ0 τ4 (pt 1 τ.length (tallyV s.tallies[i])::ow pTally.kd w4 (nxt++[⟨o,rep,val⟩])::ow pI.kd v0 s.know::ow pTally.kd v1 s.tallies::ow pLive.kd v2 s.lives::ow pCell.kd v3 s.cells::pt 1 g [v0,v1,v2,v3]::rest):=H4
      have zx:=ld_ptr (a:=true) (n:=3) (off:=0) (H4.pt 0 rfl)
      obtain⟨w5,τ5,e13,H5⟩:=H4.app_Tally 1 rfl s.tallies[i] (by simp;omega)
      simp +contextual (disch:=omega) only[go_sem,c0,e0,e1,e2,e3,e10,e11,e12,ld_ptr zb,hln,C1,Bool.not_false,h1,e9,zx,e13]
      refine hJ _ _ _ ⟨?_,?_,?_,?_,w5,true,_,?_,?_,hp,H5.drop1⟩
      all_goals simp +contextual (disch:=omega) only[go_sem,e0,e1,e2,e3,e11]
     |false=>
      cases h2:decide (s.tallies[i].obj=o) with
      |false=>
       obtain⟨w',τ3,e8,H3⟩:=G.app_Tally 0 rfl s.tallies[i] (by omega)
       simp +contextual (disch:=omega) only[go_sem,c0,e0,e1,e2,e3,e10,e11,e12,ld_ptr zb,hln,C1,Bool.not_false,h1,h2,e8]
       refine hJ _ _ _ ⟨?_,?_,?_,?_,w',false,_,?_,?_,insG_step hok hi (.inr (by rw[hlt,h1,h2];rfl)),H3⟩
       all_goals simp +contextual (disch:=omega) only[go_sem,e0,e1,e2,e3,e11]
      |true=>
       cases h3:decide (rep<s.tallies[i].rep) with
       |true=>
        have hq:tallyLt ⟨o,rep,val⟩ s.tallies[i]=true:=by rw[hlt,h1,h2,h3];rfl
        have hp:=insG_put hok hi hq
        have hnl2:=insG_len hp
        simp only[List.length_append,List.length_cons,List.length_nil] at hnl2
        obtain⟨w4,τ4,e9,H4⟩:=HN.app_Tally 1 rfl ⟨o,rep,val⟩ (by omega)
        have H4:Hp σ0 τ4 (pt 1 τ.length (tallyV s.tallies[i])::ow pTally.kd w4 (nxt++[⟨o,rep,val⟩])::ow pI.kd v0 s.know::ow pTally.kd v1 s.tallies::ow pLive.kd v2 s.lives::ow pCell.kd v3 s.cells::pt 1 g [v0,v1,v2,v3]::rest):=H4
        have zx:=ld_ptr (a:=true) (n:=3) (off:=0) (H4.pt 0 rfl)
        obtain⟨w5,τ5,e13,H5⟩:=H4.app_Tally 1 rfl s.tallies[i] (by simp;omega)
        simp +contextual (disch:=omega) only[go_sem,c0,e0,e1,e2,e3,e10,e11,e12,ld_ptr zb,hln,C1,Bool.not_false,h1,h2,h3,e9,zx,e13]
        refine hJ _ _ _ ⟨?_,?_,?_,?_,w5,true,_,?_,?_,hp,H5.drop1⟩
        all_goals simp +contextual (disch:=omega) only[go_sem,e0,e1,e2,e3,e11]
       |false=>
        obtain⟨w',τ3,e8,H3⟩:=G.app_Tally 0 rfl s.tallies[i] (by omega)
        simp +contextual (disch:=omega) only[go_sem,c0,e0,e1,e2,e3,e10,e11,e12,ld_ptr zb,hln,C1,Bool.not_false,h1,h2,h3,e8]
        refine hJ _ _ _ ⟨?_,?_,?_,?_,w',false,_,?_,?_,insG_step hok hi (.inr (by rw[hlt,h1,h2,h3];rfl)),H3⟩
        all_goals simp +contextual (disch:=omega) only[go_sem,e0,e1,e2,e3,e11]
   ·clear H e0 e1 e2 e3
    rintro Y hY env τ e12 c0 ⟨e0,e1,e2,e3,u,put,nxt,e10,e11,hok,H⟩
    have hln:=(H.sl 2 rfl).len
    simp +contextual (disch:=omega) only[go_sem,c0,e0,e1,e2,e3,e10,e11,e12,ld_ptr (H.pt 5 rfl),hln]
    refine hY _ _ ⟨?_,?_,?_,?_,u,put,nxt,?_,?_,hok,H⟩
    all_goals simp +contextual (disch:=omega) only[go_sem,e0,e1,e2,e3,e10,e11]
   ·clear H e0 e1 e2 e3
    rintro env τ ⟨e0,e1,e2,e3,u,put,nxt,e10,e11,hok,H⟩
    have hnl:=insG_len hok
    have hend:=insG_end hok
    cases put with
    |true=>
     have c1:=(H.sl 0 rfl).cell
     obtain⟨τ1,s1,H1,_⟩:=H.st 5 rfl 1 1 u (by rw[c1];rfl) (by decide) (by simp)
     simp +contextual (disch:=omega) only[go_sem,e0,e1,e2,e3,e10,e11,Bool.not_true,s1]
     refine⟨_,rfl,rfl,v0,u,v2,v3,?_⟩
     simp only[c1,List.set_cons_zero,List.set_cons_succ,splice_succ,splice_cons,splice_nil] at H1
     rw[← hend]
     exact Hp.moveTo H1 1 rfl
    |false=>
     obtain⟨w',τ3,e8,H3⟩:=H.app_Tally 0 rfl ⟨o,rep,val⟩ (by omega)
     have H3:Hp σ0 τ3 (ow pTally.kd w' (nxt++[⟨o,rep,val⟩])::ow pI.kd v0 s.know::ow pTally.kd v1 s.tallies::ow pLive.kd v2 s.lives::ow pCell.kd v3 s.cells::pt 1 g [v0,v1,v2,v3]::rest):=H3
     have c1:=(H3.sl 0 rfl).cell
     obtain⟨τ1,s1,H1,_⟩:=H3.st 5 rfl 1 1 w' (by rw[c1];rfl) (by decide) (by simp)
     simp +contextual (disch:=omega) only[go_sem,e0,e1,e2,e3,e10,e11,Bool.not_false,e8,s1]
     refine⟨_,rfl,rfl,v0,w',v2,v3,?_⟩
     simp only[c1,List.set_cons_zero,List.set_cons_succ,splice_succ,splice_cons,splice_nil] at H1
     rw[← hend]
     exact Hp.moveTo H1 1 rfl
  ·clear H
   rintro env τ h
   simp +contextual (disch:=omega) only[go_sem]
   exact⟨_,rfl,rfl,h⟩
 obtain⟨r,τ,R,rfl,h⟩:=key
 exact⟨τ,R,h⟩
end Go.Proofs.YtffnefmklckngaaGreat.Sy
namespace Go.Proofs.YtffnefmklckngaaGreat.Sy
open Go Go.RowKit
set_option linter.unusedSimpArgs false
set_option linter.unusedVariables false
set_option maxRecDepth 4000
abbrev n_s_l07Do:Nat:=145
def F_s_l07Do:Fn1:=⟨127,[],(.seq (.reg [o 3 (.box (.t 1))]) (.seq (.drw [o 4 (.mov (.t 0)),o 5 (.nck (.t 4)),o 6 (.fad 0 (.t 5)),o 7 (.ld false 1 (.t 6)),o 8 (.fad 0 (.t 3)),o 9 (.fad 0 (.t 8)),o 10 (.ld false 1 (.t 9)),o 11 (.fad 0 (.t 3)),o 12 (.fad 1 (.t 11)),o 13 (.ld false 1 (.t 12))] [o 14 (.iad 1 (.t 7) (.t 10)),on (.st 1 (.t 14) (.t 13))]) (.seq (.reg [o 15 (.fad 4 (.t 3)),o 16 (.ld false 1 (.t 15))]) (.blk 0 (.seq (.reg [o 18 (.bin .eql (.t 16) (.k (.int .i64 1))),o 17 (.mov (.t 18))]) (.cnd (.t 17) (.reg [o 19 (.mov (.t 0)),o 20 (.fad 5 (.t 3)),o 21 (.ld false 1 (.t 20)),o 22 (.fad 0 (.t 3)),o 23 (.fad 0 (.t 22)),o 24 (.ld false 1 (.t 23)),o 25 (.fad 7 (.t 3)),o 26 (.ld false 1 (.t 25)),o 27 (.call 194 [(.t 19),(.t 21),(.t 24),(.t 26)])]) (.seq (.reg [o 29 (.bin .eql (.t 16) (.k (.int .i64 2))),o 28 (.mov (.t 29))]) (.cnd (.t 28) (.drw [o 30 (.mov (.t 0)),o 31 (.mov (.t 0)),o 32 (.nck (.t 31)),o 33 (.fad 2 (.t 32)),o 34 (.ld false 1 (.t 33)),o 35 (.fad 5 (.t 3)),o 36 (.ld false 1 (.t 35)),o 37 (.fad 6 (.t 3)),o 38 (.ld false 1 (.t 37)),o 39 (.fad 0 (.t 3)),o 40 (.ld true 2 (.t 39))] [o 41 (.build [(.bool false),(.str ⟨#[]⟩),(.str ⟨#[]⟩),(.int .i64 0),(.int .i64 0),(.int .i64 0)] [(1,1,(.t 36)),(2,1,(.t 38)),(4,2,(.t 40))]),o 42 (.call 195 [(.t 34),(.t 41)]),o 43 (.nck (.t 30)),o 44 (.fad 2 (.t 43)),on (.st 1 (.t 44) (.t 42))]) (.seq (.reg [o 46 (.bin .eql (.t 16) (.k (.int .i64 3))),o 45 (.mov (.t 46))]) (.cnd (.t 45) (.reg [o 47 (.mov (.t 0)),o 48 (.fad 5 (.t 3)),o 49 (.ld false 1 (.t 48)),o 50 (.fad 6 (.t 3)),o 51 (.ld false 1 (.t 50)),o 52 (.fad 3 (.t 3)),o 53 (.ld false 1 (.t 52)),o 54 (.call 196 [(.t 47),(.k (.bool false)),(.t 49),(.t 51),(.t 53)])]) (.seq (.reg [o 56 (.bin .eql (.t 16) (.k (.int .i64 4))),o 55 (.mov (.t 56))]) (.cnd (.t 55) (.seq (.reg [o 57 (.mov (.t 0)),o 58 (.fad 5 (.t 3)),o 59 (.ld false 1 (.t 58)),o 60 (.fad 6 (.t 3)),o 61 (.ld false 1 (.t 60)),o 62 (.fad 3 (.t 3)),o 63 (.ld false 1 (.t 62)),o 64 (.call 196 [(.t 57),(.k (.bool true)),(.t 59),(.t 61),(.t 63)])]) (.drw [o 65 (.mov (.t 0)),o 66 (.mov (.t 0)),o 67 (.nck (.t 66)),o 68 (.fad 2 (.t 67)),o 69 (.ld false 1 (.t 68)),o 70 (.fad 5 (.t 3)),o 71 (.ld false 1 (.t 70)),o 72 (.fad 6 (.t 3)),o 73 (.ld false 1 (.t 72)),o 74 (.fad 7 (.t 3)),o 75 (.ld false 1 (.t 74)),o 76 (.fad 0 (.t 3)),o 77 (.ld true 2 (.t 76))] [o 78 (.build [(.bool false),(.str ⟨#[]⟩),(.str ⟨#[]⟩),(.int .i64 0),(.int .i64 0),(.int .i64 0)] [(0,1,(.k (.bool true))),(1,1,(.t 71)),(2,1,(.t 73)),(3,1,(.t 75)),(4,2,(.t 77))]),o 79 (.call 195 [(.t 69),(.t 78)]),o 80 (.nck (.t 65)),o 81 (.fad 2 (.t 80)),on (.st 1 (.t 81) (.t 79))])) (.seq (.reg [o 83 (.bin .eql (.t 16) (.k (.int .i64 5))),o 82 (.mov (.t 83))]) (.cnd (.t 82) (.reg [o 84 (.mov (.t 0)),o 85 (.fad 5 (.t 3)),o 86 (.ld false 1 (.t 85)),o 87 (.fad 6 (.t 3)),o 88 (.ld false 1 (.t 87)),o 89 (.fad 3 (.t 3)),o 90 (.ld false 1 (.t 89)),o 91 (.call 196 [(.t 84),(.k (.bool true)),(.t 86),(.t 88),(.t 90)])]) (.seq (.reg [o 93 (.bin .eql (.t 16) (.k (.int .i64 6))),o 92 (.mov (.t 93))]) (.cnd (.t 92) (.drw [o 94 (.mov (.t 0)),o 95 (.mov (.t 0)),o 96 (.nck (.t 95)),o 97 (.fad 3 (.t 96)),o 98 (.ld false 1 (.t 97)),o 99 (.fad 5 (.t 3)),o 100 (.ld false 1 (.t 99)),o 101 (.fad 0 (.t 3)),o 102 (.ld true 2 (.t 101)),o 103 (.fad 2 (.t 3)),o 104 (.ld false 1 (.t 103)),o 105 (.fad 8 (.t 3)),o 106 (.ld true 2 (.t 105)),o 107 (.fad 7 (.t 3)),o 108 (.ld false 1 (.t 107))] [o 109 (.build [(.str ⟨#[]⟩),(.int .i64 0),(.int .i64 0),(.int .i64 0),(.int .i64 0),(.int .i64 0),(.int .i64 0),(.bool false)] [(0,1,(.t 100)),(1,2,(.t 102)),(3,1,(.t 104)),(4,2,(.t 106)),(6,1,(.t 108))]),o 110 (.call 197 [(.t 98),(.t 109)]),o 111 (.nck (.t 94)),o 112 (.fad 3 (.t 111)),on (.st 1 (.t 112) (.t 110))]) (.seq (.reg [o 114 (.bin .eql (.t 16) (.k (.int .i64 7))),o 113 (.mov (.t 114))]) (.cnd (.t 113) (.drw [o 115 (.mov (.t 0)),o 116 (.nck (.t 115)),o 117 (.fad 3 (.t 116)),o 118 (.ld false 1 (.t 117)),o 119 (.mov (.t 0)),o 120 (.nck (.t 119)),o 121 (.ld true 4 (.t 120)),o 122 (.fad 8 (.t 3)),o 123 (.ld true 2 (.t 122)),o 124 (.call 187 [(.t 121),(.t 123)])] [o 125 (.iad 8 (.t 118) (.t 124)),o 126 (.fad 7 (.t 125)),on (.st 1 (.t 126) (.k (.bool true)))]) .skip))))))))))))))))))⟩
theorem ir_s_l07Do:compFn Tryz.prog n_s_l07Do=some F_s_l07Do:=by kernel_rfl
abbrev n_s_DoAct:Nat:=91
def F_s_DoAct:Fn1:=⟨57,[.c 4 true 4,.t 5],(.seq (.reg [o 2 (.box (.t 0)),o 3 (.box (.t 1)),o 4 (.new [.nilS,.nilS,.nilS,.nilS]),o 5 (.mov (.k (.int .i64 0)))]) (.seq (.reg [o 7 (.ld true 4 (.t 2)),o 8 (.call 89 [(.t 7)]),o 6 (.new [.nilS,.nilS,.nilS,.nilS]),on (.st 4 (.t 6) (.t 8))]) (.seq (.seq (.reg [o 9 (.ld true 4 (.t 2)),o 10 (.call 125 [(.t 9)]),o 11 (.un .not (.t 10)),o 12 (.mov (.t 11)),og 13 12 false (.ld true 10 (.t 3)),og 14 12 false (.call 105 [(.t 13)]),og 15 12 false (.un .not (.t 14)),o 16 (.pick (.t 12) (.k (.bool true)) (.t 15))]) (.cnd (.t 16) (.seq (.reg [o 17 (.ld true 4 (.t 6)),on (.st 4 (.t 4) (.t 17)),o 5 (.mov (.k (.int .i64 3)))]) .ret) .skip)) (.seq (.seq (.reg [o 18 (.fad 0 (.t 2)),o 19 (.ld false 1 (.t 18)),o 20 (.fad 0 (.t 3)),o 21 (.ld true 2 (.t 20)),o 22 (.call 142 [(.t 19),(.t 21)])]) (.cnd (.t 22) (.seq (.reg [o 23 (.ld true 4 (.t 6)),on (.st 4 (.t 4) (.t 23)),o 5 (.mov (.k (.int .i64 1)))]) .ret) .skip)) (.seq (.seq (.reg [o 24 (.fad 3 (.t 3)),o 25 (.ld false 1 (.t 24)),o 26 (.fad 0 (.t 2)),o 27 (.ld false 1 (.t 26)),o 28 (.call 143 [(.t 25),(.t 27)]),o 29 (.un .not (.t 28))]) (.cnd (.t 29) (.seq (.reg [o 30 (.ld true 4 (.t 6)),on (.st 4 (.t 4) (.t 30)),o 5 (.mov (.k (.int .i64 2)))]) .ret) .skip)) (.seq (.seq (.reg [o 31 (.ld true 4 (.t 2)),o 32 (.ld true 10 (.t 3)),o 33 (.call 144 [(.t 31),(.t 32)]),o 34 (.un .not (.t 33))]) (.cnd (.t 34) (.seq (.reg [o 35 (.ld true 4 (.t 6)),on (.st 4 (.t 4) (.t 35)),o 5 (.mov (.k (.int .i64 3)))]) .ret) .skip)) (.seq (.reg [o 36 (.ld true 10 (.t 3)),o 37 (.call 145 [(.t 6),(.t 36)])]) (.seq (.seq (.reg [o 38 (.fad 1 (.t 6)),o 39 (.ld false 1 (.t 38)),o 40 (.len false (.t 39)),o 41 (.bin .gtr (.t 40) (.k (.int .i64 120))),o 42 (.mov (.t 41)),og 43 42 false (.fad 2 (.t 6)),og 44 42 false (.ld false 1 (.t 43)),og 45 42 false (.len false (.t 44)),og 46 42 false (.bin .gtr (.t 45) (.k (.int .i64 120))),o 47 (.pick (.t 42) (.k (.bool true)) (.t 46)),o 48 (.mov (.t 47)),og 49 48 false (.fad 3 (.t 6)),og 50 48 false (.ld false 1 (.t 49)),og 51 48 false (.len false (.t 50)),og 52 48 false (.bin .gtr (.t 51) (.k (.int .i64 120))),o 53 (.pick (.t 48) (.k (.bool true)) (.t 52))]) (.cnd (.t 53) (.seq (.reg [o 54 (.ld true 4 (.t 2)),o 55 (.call 89 [(.t 54)]),on (.st 4 (.t 4) (.t 55)),o 5 (.mov (.k (.int .i64 4)))]) .ret) .skip)) (.seq (.reg [o 56 (.ld true 4 (.t 6)),on (.st 4 (.t 4) (.t 56)),o 5 (.mov (.k (.int .i64 0)))]) .ret)))))))))⟩
theorem ir_s_DoAct:compFn Tryz.prog n_s_DoAct=some F_s_DoAct:=by kernel_rfl
theorem act_facts {a:Act} (h:actOk a=true):(0≤a.dot.rep∧a.dot.rep≤2)∧(1≤a.kind∧a.kind≤7)∧(0≤a.val∧a.val≤999999)∧a.knew.length=3:=by
 simp only[actOk,actHead,plainOk,Bool.and_eq_true] at h
 obtain⟨⟨h1,h2,_⟩,⟨h3,_,_,h4⟩,_⟩:=h
 refine⟨(dotOk_iff.1 h1).1,inB_iff.1 h3,?_,okK_len h2⟩
 simp only[valOk,Bool.or_eq_true,beq_iff_eq,Bool.and_eq_true,inB_iff] at h4
 rcases h4 with h4|⟨_,h4⟩
 ·omega
 ·exact h4
theorem tal_facts {s:State} (h:stateOk s=true):s.know.length=3∧∀ t∈s.tallies,-1000000≤t.sum∧t.sum≤1000000:=by
 simp only[stateOk,Bool.and_eq_true] at h
 obtain⟨h1,h2,_⟩:=h
 refine⟨okK_len h1,fun t ht=> ?_⟩
 simp only[talsOk,Bool.and_eq_true,allR_iff,talP] at h2
 obtain⟨i,hi,rfl⟩:=List.getElem_of_mem ht
 have:=(h2.1 i hi).1
 rw[onI_at hi] at this
 simp only[tal1,Bool.and_eq_true,inB_iff] at this
 omega
theorem SPtr.drop {σ0 τ:St} {g:Nat} {s:State} {x:Thg} {rest:List Thg} (H:SPtr σ0 τ g s (x::rest)):SPtr σ0 τ g s rest:=by
 obtain⟨v0,v1,v2,v3,H⟩:=H
 exact⟨v0,v1,v2,v3,(H.pick 5 rfl).drop1⟩
theorem SPtr.push {σ0 τ:St} {g:Nat} {s:State} {rest:List Thg} (H:SPtr σ0 τ g s rest) (z:Nat) (cs:List GV):SPtr σ0 (τ++[some (.row z cs)]) g s (pt z τ.length cs::rest):=by
 obtain⟨v0,v1,v2,v3,H⟩:=H
 refine⟨v0,v1,v2,v3,?_⟩
 exact(H.new z cs).perm (List.perm_middle (l₁:=[_,_,_,_,_])).symm
abbrev actV (a:Act) (kv:GV):List GV:=[.int .i64 a.dot.rep,.int .i64 a.dot.seq,.int .i64 a.time,kv,.int .i64 a.kind,.str a.obj,.str a.key,.int .i64 a.val,.int .i64 a.ref.rep,.int .i64 a.ref.seq]
theorem msState_set {s:State} {i:Nat} {x:Int}:msState {s with know:=s.know.set i x}=msState s:=by simp[msState]
set_option maxHeartbeats 4000000 in
theorem s_l07Do_ret {σ0 σ:St} {g:Nat} {s:State} {rest:List Thg} (H:SPtr σ0 σ g s rest) (a:Act) (kv:GV) (hk:RS pI.kd σ0 kv a.knew) (hok:stateOk s=true) (hao:actOk a=true) (hri:refIn s a=true) (hl:msState s≤1099511627776):∃ τ,Ret Tryz.prog n_s_l07Do [.ptr g 0,.agg (actV a kv)] σ (.tup []) τ∧SPtr σ0 τ g (doOne s a) rest:=by
 obtain⟨⟨f1,f2⟩,⟨f3,f4⟩,⟨f5,f6⟩,f7⟩:=act_facts hao
 obtain⟨t1,t2⟩:=tal_facts hok
 obtain⟨r,hr⟩:∃ r:Nat,a.dot.rep=(r:Int):=⟨a.dot.rep.toNat,by omega⟩
 have hrl:r<s.know.length:=by omega
 have key:∃ q τ,Ret Tryz.prog n_s_l07Do [.ptr g 0,.agg (actV a kv)] σ q τ∧q= .tup []∧SPtr σ0 τ g (doOne s a) rest:=by
  refine ret_dr ir_s_l07Do (Nat.le_of_ble_eq_true rfl) ?_
  have H:=H.push 1 (actV a kv)
  obtain⟨v0,v1,v2,v3,H⟩:=H
  have i0:=RdN.iad (H.sl 0 rfl) hrl
  have i0:iadG 1 v0 (some r)=some (atz 1 v0 r):=i0
  have n0:natOf (some (.int .i64 a.dot.rep))=some r:=by rw[hr];exact natOf_nat
  obtain⟨τ1,st0,H1⟩:=H.stw 0 rfl (j:=r) hrl 1 (gi a.dot.seq) a.dot.seq rfl rfl (by decide)
  have st0:stG 1 _ (atz 1 v0 r) (.int .i64 a.dot.seq)=some (.tup [],τ1):=st0
  have H1:Hp σ0 τ1 (ow pI.kd v0 (s.know.set r a.dot.seq)::ow pTally.kd v1 s.tallies::ow pLive.kd v2 s.lives::ow pCell.kd v3 s.cells::pt 1 g [v0,v1,v2,v3]::pt 1 σ.length (actV a kv)::rest):=H1
  obtain⟨s1,hs1⟩:∃ s1:State,s1={s with know:=s.know.set r a.dot.seq}:=⟨_,rfl⟩
  have hm1:msState s1≤1099511627776:=by rw[hs1,msState_set];exact hl
  have hdo:doOne s a=doKind s1 a:=by
   unfold doOne
   rw[hs1,hr];simp
  have S1:SPtr σ0 τ1 g s1 (pt 1 σ.length (actV a kv)::rest):=by rw[hs1];exact⟨v0,v1,v2,v3,H1⟩
  obtain⟨l1,l2,l3,l4,_⟩:=msState_all hl
  rw[hdo]
  have e1:s1.tallies=s.tallies:=by rw[hs1]
  have e2:s1.lives=s.lives:=by rw[hs1]
  have e3:s1.cells=s.cells:=by rw[hs1]
  simp +contextual (disch:=omega) only[go_sem,F_s_l07Do,ld_ptr (H.pt 4 rfl),n0,i0,st0,ld_ptr (H1.pt 5 rfl)]
  by_cases k1:a.kind=1
  ·have b1:(a.kind==1)=true:=by simp[k1]
   have hd:doKind s1 a={s1 with tallies:=talPut s1.tallies a.obj a.dot.rep a.val}:=by unfold doKind;rw[if_pos k1]
   rw[hd]
   obtain⟨τ2,R2,S2⟩:=s_l07Tally_ret S1 a.obj a.dot.rep a.val hm1 (by omega) (by rw[e1];exact t2)
   simp +contextual (disch:=omega) only[go_sem,b1,ld_ptr (H1.pt 5 rfl)]
   refine by_mut R2 ?_
   simp +contextual (disch:=omega) only[go_sem]
   exact⟨_,rfl,rfl,S2.drop⟩
  have b1:(a.kind==1)=false:=by simp[k1]
  by_cases k2:a.kind=2
  ·have b2:(a.kind==2)=true:=by simp[k2]
   have hd:doKind s1 a={s1 with lives:=insLive ⟨false,a.obj,a.key,0,a.dot⟩ s1.lives}:=by unfold doKind;rw[if_neg k1,if_pos k2]
   rw[hd,e2]
   obtain⟨w,τ2,R2,K2⟩:=s_l07Live_ret τ1 v2 s.lives (H1.sl 2 rfl) ⟨false,a.obj,a.key,0,a.dot⟩ l3
   have H2:=H1.add K2
   simp only[List.cons_append,List.nil_append] at H2
   have c1:=(H2.sl 0 rfl).cell
   obtain⟨τ3,st3,H3,_⟩:=H2.st 5 rfl 1 2 w (by rw[c1];rfl) (by decide) (by simp)
   simp +contextual (disch:=omega) only[go_sem,b1,b2,ld_ptr (H1.pt 4 rfl),ld_ptr (H1.pt 5 rfl)]
   refine by_hp R2 K2 ?_
   simp +contextual (disch:=omega) only[go_sem,st3]
   refine⟨_,rfl,rfl,v0,v1,w,v3,?_⟩
   simp only[c1,List.set_cons_zero,List.set_cons_succ,splice_succ,splice_cons,splice_nil] at H3
   rw[hs1]
   exact((Hp.moveTo H3 2 rfl).pick 5 rfl).drop1
  have b2:(a.kind==2)=false:=by simp[k2]
  by_cases k3:a.kind=3
  ·have b3:(a.kind==3)=true:=by simp[k3]
   have hd:doKind s1 a={s1 with lives:=s1.lives.filter (keepL false a.obj a.key a.knew)}:=by unfold doKind;rw[if_neg k1,if_neg k2,if_pos k3]
   rw[hd]
   obtain⟨τ2,R2,S2⟩:=s_l07Clear_ret S1 false a.obj a.key kv a.knew hk hm1 (by omega)
   simp +contextual (disch:=omega) only[go_sem,b1,b2,b3,ld_ptr (H1.pt 5 rfl)]
   refine by_mut R2 ?_
   simp +contextual (disch:=omega) only[go_sem]
   exact⟨_,rfl,rfl,S2.drop⟩
  have b3:(a.kind==3)=false:=by simp[k3]
  by_cases k4:a.kind=4
  ·have b4:(a.kind==4)=true:=by simp[k4]
   have hd:doKind s1 a={s1 with lives:=insLive ⟨true,a.obj,a.key,a.val,a.dot⟩ (s1.lives.filter (keepL true a.obj a.key a.knew))}:=by unfold doKind;rw[if_neg k1,if_neg k2,if_neg k3,if_pos k4]
   rw[hd,e2]
   obtain⟨τ2,R2,u0,u1,u2,u3,H2⟩:=s_l07Clear_ret S1 true a.obj a.key kv a.knew hk hm1 (by omega)
   have hfl:=List.length_filter_le (keepL true a.obj a.key a.knew) s.lives
   have H2l:=H2.sl 2 rfl
   have H2l:RS pLive.kd τ2 u2 (s.lives.filter (keepL true a.obj a.key a.knew)):=by rw[← e2];exact H2l
   obtain⟨w,τ3,R3,K3⟩:=s_l07Live_ret τ2 u2 _ H2l ⟨true,a.obj,a.key,a.val,a.dot⟩ (by omega)
   have H3:=H2.add K3
   simp only[List.cons_append,List.nil_append] at H3
   have c1:=(H3.sl 0 rfl).cell
   obtain⟨τ4,st4,H4,_⟩:=H3.st 5 rfl 1 2 w (by rw[c1];rfl) (by decide) (by simp)
   simp +contextual (disch:=omega) only[go_sem,b1,b2,b3,b4,ld_ptr (H1.pt 5 rfl)]
   refine by_mut R2 ?_
   simp +contextual (disch:=omega) only[go_sem,ld_ptr (H2.pt 4 rfl),ld_ptr (H2.pt 5 rfl)]
   refine by_hp R3 K3 ?_
   simp +contextual (disch:=omega) only[go_sem,st4]
   refine⟨_,rfl,rfl,u0,u1,w,u3,?_⟩
   simp only[c1,List.set_cons_zero,List.set_cons_succ,splice_succ,splice_cons,splice_nil] at H4
   exact((Hp.moveTo H4 2 rfl).pick 5 rfl).drop1
  have b4:(a.kind==4)=false:=by simp[k4]
  by_cases k5:a.kind=5
  ·have b5:(a.kind==5)=true:=by simp[k5]
   have hd:doKind s1 a={s1 with lives:=s1.lives.filter (keepL true a.obj a.key a.knew)}:=by unfold doKind;rw[if_neg k1,if_neg k2,if_neg k3,if_neg k4,if_pos k5]
   rw[hd]
   obtain⟨τ2,R2,S2⟩:=s_l07Clear_ret S1 true a.obj a.key kv a.knew hk hm1 (by omega)
   simp +contextual (disch:=omega) only[go_sem,b1,b2,b3,b4,b5,ld_ptr (H1.pt 5 rfl)]
   refine by_mut R2 ?_
   simp +contextual (disch:=omega) only[go_sem]
   exact⟨_,rfl,rfl,S2.drop⟩
  have b5:(a.kind==5)=false:=by simp[k5]
  by_cases k6:a.kind=6
  ·have b6:(a.kind==6)=true:=by simp[k6]
   have hd:doKind s1 a={s1 with cells:=insCell ⟨a.obj,a.dot,a.time,a.ref,a.val,false⟩ s1.cells}:=by unfold doKind;rw[if_neg k1,if_neg k2,if_neg k3,if_neg k4,if_neg k5,if_pos k6]
   rw[hd,e3]
   obtain⟨w,τ2,R2,K2⟩:=s_l07Cell_ret τ1 v3 s.cells (H1.sl 3 rfl) ⟨a.obj,a.dot,a.time,a.ref,a.val,false⟩ l4
   have H2:=H1.add K2
   simp only[List.cons_append,List.nil_append] at H2
   have c1:=(H2.sl 0 rfl).cell
   obtain⟨τ3,st3,H3,_⟩:=H2.st 5 rfl 1 3 w (by rw[c1];rfl) (by decide) (by simp)
   simp +contextual (disch:=omega) only[go_sem,b1,b2,b3,b4,b5,b6,ld_ptr (H1.pt 4 rfl),ld_ptr (H1.pt 5 rfl)]
   refine by_hp R2 K2 ?_
   simp +contextual (disch:=omega) only[go_sem,st3]
   refine⟨_,rfl,rfl,v0,v1,v2,w,?_⟩
   simp only[c1,List.set_cons_zero,List.set_cons_succ,splice_succ,splice_cons,splice_nil] at H3
   rw[hs1]
   exact((Hp.moveTo H3 3 rfl).pick 5 rfl).drop1
  have b6:(a.kind==6)=false:=by simp[k6]
  have k7:a.kind=7:=by omega
  have b7:(a.kind==7)=true:=by simp[k7]
  have hd:doKind s1 a={s1 with cells:=goneAt s1.cells a.ref}:=by unfold doKind;rw[if_neg k1,if_neg k2,if_neg k3,if_neg k4,if_neg k5,if_neg k6]
  rw[hd,e3]
  cases hx:cellIx s.cells a.ref with
  |none=>simp[refIn,k7,hx] at hri
  |some k=>
   obtain⟨hkl,hke⟩:=cellIx_some hx
   have hno:cellNo s1.cells a.ref=k:=by simp[cellNo,e3,hx]
   have CA:=s_CellAt_ret τ1 [v0,v1,v2,v3] s1 ⟨v0,v1,v2,v3,rfl,by rw[hs1];exact H1.sl 0 rfl,by rw[e1];exact H1.sl 1 rfl,by rw[e2];exact H1.sl 2 rfl,by rw[e3];exact H1.sl 3 rfl⟩ a.ref hm1
   rw[hno] at CA
   have C2:=Cell_at (H1.sl 3 rfl) hkl
   obtain⟨τ2,st2,H2⟩:=H1.ste 3 rfl hkl 1 7 (.bool true) {s.cells[k] with gone:=true} rfl (by decide) (by decide) rfl
   have st2:stG 1 τ1 (fld 7 (atz 8 v3 k)) (.bool true)=some (.tup [],τ2):=st2
   simp +contextual (disch:=omega) only[go_sem,b1,b2,b3,b4,b5,b6,b7,ld_ptr (H1.pt 4 rfl),ld_ptr (H1.pt 5 rfl),seg_full (cs:=[v0,v1,v2,v3]) rfl]
   refine by_ret CA ?_
   simp +contextual (disch:=omega) only[go_sem,natOf_nat,C2,st2]
   refine⟨_,rfl,rfl,v0,v1,v2,v3,?_⟩
   have hE:goneAt s.cells a.ref=s.cells.set k {s.cells[k] with gone:=true}:=by
    unfold goneAt
    rw[hx]
    exact modify_set _ hkl
   rw[hE,hs1]
   exact(H2.pick 5 rfl).drop1
 obtain⟨q,τ,R,rfl,h⟩:=key
 exact⟨τ,R,h⟩
theorem ownSplit {σ τ:St} {rs:List Thg} {x:State} {cs:List GV} {g:Nat} (H:Hp σ τ (pt 1 g cs::own kState cs x::rs)):SPtr σ τ g x rs:=by
 obtain⟨v0,v1,v2,v3,rfl,H⟩:=(H.pick 1 rfl).splitState
 exact⟨v0,v1,v2,v3,H⟩
theorem SPtr.own {σ τ:St} {rs:List Thg} {x:State} {g:Nat} (H:SPtr σ τ g x rs):∃ v0 v1 v2 v3,rdB τ g=some [v0,v1,v2,v3]∧lenG false v1=some (x.tallies.length:Int)∧lenG false v2=some (x.lives.length:Int)∧lenG false v3=some (x.cells.length:Int)∧Hp σ τ (own kState [v0,v1,v2,v3] x::rs):=by
 obtain⟨v0,v1,v2,v3,H⟩:=H
 refine⟨v0,v1,v2,v3,H.pt 4 rfl,(H.sl 1 rfl).len,(H.sl 2 rfl).len,(H.sl 3 rfl).len,?_⟩
 exact Hp.ownState ((H.pick 4 rfl).drop1)
set_option maxHeartbeats 4000000 in
theorem s_DoAct_ret (σ:St) (cs:List GV) (s:State) (hR:kState.R σ s cs) (as':List GV) (a:Act) (hS:kAct.R σ a as') (hl:msState s≤1099511627776) (hm:msAct a≤1099511627776):∃ ds τ,Ret Tryz.prog n_s_DoAct [.agg cs,.agg as'] σ (.tup [.agg ds,gi (doAct s a).2]) τ∧Hp σ τ [own kState ds (doAct s a).1]:=by
 have hR0:=hR
 have hS0:=hS
 have hS1:∀ {τ:St},σ <+: τ→kAct.R τ a as':=fun h=>kAct.pre hS0 h
 obtain⟨a1,b1,c1,v1,rfl,hkn,_,_,_⟩:=hR
 obtain⟨kv,rfl,hkv⟩:=hS
 obtain⟨l1,l2,l3,l4,_⟩:=msState_all hl
 have hkl:a.knew.length≤1099511627776:=by unfold msAct at hm;omega
 have key:∃ q τ,Ret Tryz.prog n_s_DoAct [.agg [a1,b1,c1,v1],.agg (actV a kv)] σ q τ∧∃ ds,q= .tup [.agg ds,gi (doAct s a).2]∧Hp σ τ [own kState ds (doAct s a).1]:=by
  refine ret_dr ir_s_DoAct (Nat.le_of_ble_eq_true rfl) ?_
  have H:=(((Hp.refl σ).new 1 [a1,b1,c1,v1]).new 1 (actV a kv)).new 1 [GV.nilS,GV.nilS,GV.nilS,GV.nilS]
  have z0:=H.pt 2 rfl
  simp +contextual (disch:=omega) only[go_sem,F_s_DoAct,ld_ptr z0,seg_full (cs:=[a1,b1,c1,v1]) rfl]
  obtain⟨es,τ1,R1,K1⟩:=s_l06Copy_ret _ _ s (kState.pre hR0 H.sub) hl
  refine by_hp R1 K1 ?_
  have H:=H.add K1
  simp only[List.cons_append,List.nil_append] at H
  have gl:es.length=4:=kState.len (K1.rd 0 rfl)
  have H:=H.new 1 es
  generalize hn6:τ1.length=n6 at*
  generalize hn4:(σ++[some (Blk.row 1 [a1,b1,c1,v1])]++[some (Blk.row 1 (actV a kv))]).length=n4 at*
  generalize hn2:(σ++[some (Blk.row 1 [a1,b1,c1,v1])]).length=n2 at*
  generalize hn1:σ.length=n1 at*
  simp +contextual (disch:=omega) only[go_sem,splice_full (cs:=[GV.nilS,GV.nilS,GV.nilS,GV.nilS]) gl rfl,gl,ld_ptr (H.pt 4 rfl),seg_full (cs:=[a1,b1,c1,v1]) rfl]
  obtain⟨τr,sr,Hr,_⟩:=H.st 2 rfl 4 0 (.agg es) gl (by decide) (by simp)
  have zr:rdB τr n4=some (splice [GV.nilS,GV.nilS,GV.nilS,GV.nilS] 0 es):=Hr.pt 2 rfl
  rw[splice_full gl rfl] at zr
  refine by_bool (s_StateOk_ret _ _ s (kState.pre hR0 H.sub) hl) (fun hok=> ?_) (fun hok=> ?_)
  rotate_left
  ·have hd:doAct s a=(s,3):=by simp[doAct,hok]
   simp +contextual (disch:=omega) only[go_sem,ld_ptr (H.pt 0 rfl),seg_full gl,sr,ld_ptr zr]
   exact⟨_,rfl,es,by rw[hd],by rw[hd];exact(Hr.pick 1 rfl).one⟩
  simp +contextual (disch:=omega) only[go_sem,ld_ptr (H.pt 3 rfl),seg_full (cs:=actV a kv) rfl]
  refine by_bool (s_ActOk_ret _ _ a (hS1 H.sub) hm) (fun hao=> ?_) (fun hao=> ?_)
  rotate_left
  ·have hd:doAct s a=(s,3):=by simp[doAct,hok,hao]
   simp +contextual (disch:=omega) only[go_sem,ld_ptr (H.pt 0 rfl),seg_full gl,sr,ld_ptr zr]
   exact⟨_,rfl,es,by rw[hd],by rw[hd];exact(Hr.pick 1 rfl).one⟩
  simp +contextual (disch:=omega) only[go_sem,ld_ptr (H.pt 3 rfl),ld_ptr (H.pt 4 rfl)]
  refine by_bool (s_Knows_ret _ a1 s.know a.dot (hkn.pre H.sub) l1) (fun hkn1=> ?_) (fun hkn1=> ?_)
  ·have hd:doAct s a=(s,1):=by simp[doAct,hok,hao,hkn1]
   simp +contextual (disch:=omega) only[go_sem,ld_ptr (H.pt 0 rfl),seg_full gl,sr,ld_ptr zr]
   exact⟨_,rfl,es,by rw[hd],by rw[hd];exact(Hr.pick 1 rfl).one⟩
  simp +contextual (disch:=omega) only[go_sem,ld_ptr (H.pt 3 rfl),ld_ptr (H.pt 4 rfl)]
  refine by_bool (s_KnowIn_ret _ kv a1 a.knew s.know (hkv.pre H.sub) (hkn.pre H.sub) hkl l1) (fun hkn2=> ?_) (fun hkn2=> ?_)
  rotate_left
  ·have hd:doAct s a=(s,2):=by simp[doAct,hok,hao,hkn1,hkn2]
   simp +contextual (disch:=omega) only[go_sem,ld_ptr (H.pt 0 rfl),seg_full gl,sr,ld_ptr zr]
   exact⟨_,rfl,es,by rw[hd],by rw[hd];exact(Hr.pick 1 rfl).one⟩
  simp +contextual (disch:=omega) only[go_sem,ld_ptr (H.pt 3 rfl),ld_ptr (H.pt 4 rfl),seg_full (cs:=actV a kv) rfl,seg_full (cs:=[a1,b1,c1,v1]) rfl]
  refine by_bool (s_l07Ref_ret _ _ s (kState.pre hR0 H.sub) _ a (hS1 H.sub) hl) (fun hri=> ?_) (fun hri=> ?_)
  rotate_left
  ·have hd:doAct s a=(s,3):=by simp[doAct,hok,hao,hkn1,hkn2,hri]
   simp +contextual (disch:=omega) only[go_sem,ld_ptr (H.pt 0 rfl),seg_full gl,sr,ld_ptr zr]
   exact⟨_,rfl,es,by rw[hd],by rw[hd];exact(Hr.pick 1 rfl).one⟩
  obtain⟨τ2,R2,S2⟩:=s_l07Do_ret (ownSplit H) a kv hkv hok hao hri hl
  simp +contextual (disch:=omega) only[go_sem,ld_ptr (H.pt 3 rfl),seg_full (cs:=actV a kv) rfl]
  rw[hn6]
  refine by_mut R2 ?_
  obtain⟨w0,w1,w2,w3,z6,q1,q2,q3,H3⟩:=S2.own
  cases h1:decide (120<(doOne s a).tallies.length) with
  |true=>
   have ht:tooMany (doOne s a)=true:=by simp[tooMany,h1]
   have hd:doAct s a=(s,4):=by simp[doAct,hok,hao,hkn1,hkn2,hri,ht]
   simp +contextual (disch:=omega) only[go_sem,ld_ptr z6,q1,q2,q3,gt_cast,h1,ld_ptr (H3.pt 3 rfl),seg_full (cs:=[a1,b1,c1,v1]) rfl]
   obtain⟨fs,τ4,R4,K4⟩:=s_l06Copy_ret _ _ s (kState.pre hR0 H3.sub) hl
   refine by_hp R4 K4 ?_
   have H4:=H3.add K4
   simp only[List.cons_append,List.nil_append] at H4
   have gl4:fs.length=4:=kState.len (K4.rd 0 rfl)
   obtain⟨τ5,s5,H5,_⟩:=H4.st 2 rfl 4 0 (.agg fs) gl4 (by decide) (by simp)
   have z5:rdB τ5 n4=some (splice [GV.nilS,GV.nilS,GV.nilS,GV.nilS] 0 fs):=H5.pt 2 rfl
   rw[splice_full gl4 rfl] at z5
   simp +contextual (disch:=omega) only[go_sem,s5,ld_ptr z5,seg_full gl4]
   exact⟨_,rfl,fs,by rw[hd],by rw[hd];exact H5.one⟩
  |false=>
   cases h2:decide (120<(doOne s a).lives.length) with
   |true=>
    have ht:tooMany (doOne s a)=true:=by simp[tooMany,h1,h2]
    have hd:doAct s a=(s,4):=by simp[doAct,hok,hao,hkn1,hkn2,hri,ht]
    simp +contextual (disch:=omega) only[go_sem,ld_ptr z6,q1,q2,q3,gt_cast,h1,h2,ld_ptr (H3.pt 3 rfl),seg_full (cs:=[a1,b1,c1,v1]) rfl]
    obtain⟨fs,τ4,R4,K4⟩:=s_l06Copy_ret _ _ s (kState.pre hR0 H3.sub) hl
    refine by_hp R4 K4 ?_
    have H4:=H3.add K4
    simp only[List.cons_append,List.nil_append] at H4
    have gl4:fs.length=4:=kState.len (K4.rd 0 rfl)
    obtain⟨τ5,s5,H5,_⟩:=H4.st 2 rfl 4 0 (.agg fs) gl4 (by decide) (by simp)
    have z5:rdB τ5 n4=some (splice [GV.nilS,GV.nilS,GV.nilS,GV.nilS] 0 fs):=H5.pt 2 rfl
    rw[splice_full gl4 rfl] at z5
    simp +contextual (disch:=omega) only[go_sem,s5,ld_ptr z5,seg_full gl4]
    exact⟨_,rfl,fs,by rw[hd],by rw[hd];exact H5.one⟩
   |false=>
    cases h3:decide (120<(doOne s a).cells.length) with
    |true=>
     have ht:tooMany (doOne s a)=true:=by simp[tooMany,h1,h2,h3]
     have hd:doAct s a=(s,4):=by simp[doAct,hok,hao,hkn1,hkn2,hri,ht]
     simp +contextual (disch:=omega) only[go_sem,ld_ptr z6,q1,q2,q3,gt_cast,h1,h2,h3,ld_ptr (H3.pt 3 rfl),seg_full (cs:=[a1,b1,c1,v1]) rfl]
     obtain⟨fs,τ4,R4,K4⟩:=s_l06Copy_ret _ _ s (kState.pre hR0 H3.sub) hl
     refine by_hp R4 K4 ?_
     have H4:=H3.add K4
     simp only[List.cons_append,List.nil_append] at H4
     have gl4:fs.length=4:=kState.len (K4.rd 0 rfl)
     obtain⟨τ5,s5,H5,_⟩:=H4.st 2 rfl 4 0 (.agg fs) gl4 (by decide) (by simp)
     have z5:rdB τ5 n4=some (splice [GV.nilS,GV.nilS,GV.nilS,GV.nilS] 0 fs):=H5.pt 2 rfl
     rw[splice_full gl4 rfl] at z5
     simp +contextual (disch:=omega) only[go_sem,s5,ld_ptr z5,seg_full gl4]
     exact⟨_,rfl,fs,by rw[hd],by rw[hd];exact H5.one⟩
    |false=>
     have ht:tooMany (doOne s a)=false:=by simp only[tooMany,h1,h2,h3];rfl
     have hd:doAct s a=(doOne s a,0):=by simp[doAct,hok,hao,hkn1,hkn2,hri,ht]
     obtain⟨τ5,s5,H5,_⟩:=H3.st 1 rfl 4 0 (.agg [w0,w1,w2,w3]) rfl (by decide) (by simp)
     have z5:rdB τ5 n4=some [w0,w1,w2,w3]:=H5.pt 1 rfl
     simp +contextual (disch:=omega) only[go_sem,ld_ptr z6,q1,q2,q3,gt_cast,h1,h2,h3,seg_full (cs:=[w0,w1,w2,w3]) rfl,s5,ld_ptr z5]
     exact⟨_,rfl,_,by rw[hd],by rw[hd];exact H5.one⟩
 obtain⟨q,τ,R,ds,rfl,h⟩:=key
 exact⟨ds,τ,R,h⟩
end Go.Proofs.YtffnefmklckngaaGreat.Sy
namespace Go.Proofs.YtffnefmklckngaaGreat.Sy
open Go Go.RowKit
set_option linter.unusedSimpArgs false
set_option linter.unusedVariables false
set_option maxRecDepth 4000
abbrev n_i_DoAct:Nat:=95
def F_i_DoAct:Fn1:=⟨176,[.c 4 true 4,.t 5],(.seq (.reg [o 2 (.box (.t 0)),o 3 (.box (.t 1)),o 4 (.new [.nilS,.nilS,.nilS,.nilS]),o 5 (.mov (.k (.int .i64 0)))]) (.seq (.reg [o 10 (.ld true 4 (.t 2)),o 11 (.call 93 [(.t 10)]),o 6 (.new [.nilS,.nilS,.nilS,.nilS]),on (.st 4 (.t 6) (.t 11))]) (.seq (.blk 0 (.seq (.reg [o 13 (.ld true 4 (.t 2)),o 14 (.call 146 [(.t 13)]),o 15 (.un .not (.t 14)),o 16 (.mov (.t 15)),og 17 16 false (.ld true 10 (.t 3)),og 18 16 false (.call 111 [(.t 17)]),og 19 16 false (.un .not (.t 18)),o 20 (.pick (.t 16) (.k (.bool true)) (.t 19)),o 12 (.mov (.t 20))]) (.cnd (.t 12) (.seq (.reg [o 21 (.ld true 4 (.t 6)),on (.st 4 (.t 4) (.t 21)),o 5 (.mov (.k (.int .i64 3)))]) .ret) (.seq (.reg [o 23 (.fad 0 (.t 2)),o 24 (.ld false 1 (.t 23)),o 25 (.fad 0 (.t 3)),o 26 (.ld true 2 (.t 25)),o 27 (.call 150 [(.t 24),(.t 26)]),o 22 (.mov (.t 27))]) (.cnd (.t 22) (.seq (.reg [o 28 (.ld true 4 (.t 6)),on (.st 4 (.t 4) (.t 28)),o 5 (.mov (.k (.int .i64 1)))]) .ret) (.seq (.reg [o 30 (.fad 3 (.t 3)),o 31 (.ld false 1 (.t 30)),o 32 (.fad 0 (.t 2)),o 33 (.ld false 1 (.t 32)),o 34 (.call 151 [(.t 31),(.t 33)]),o 35 (.un .not (.t 34)),o 29 (.mov (.t 35))]) (.cnd (.t 29) (.seq (.reg [o 36 (.ld true 4 (.t 6)),on (.st 4 (.t 4) (.t 36)),o 5 (.mov (.k (.int .i64 2)))]) .ret) .skip))))))) (.seq (.reg [o 37 (.ld true 4 (.t 2)),o 38 (.fad 8 (.t 3)),o 39 (.ld true 2 (.t 38)),o 40 (.call 152 [(.t 37),(.t 39)]),o 7 (.mov (.t 40))]) (.seq (.seq (.drw [o 41 (.fad 8 (.t 3)),o 42 (.ld true 2 (.t 41)),o 43 (.build [(.int .i64 0),(.int .i64 0)] []),o 44 (.eqs true [.i .i64,.i .i64] (.t 42) (.t 43)),o 45 (.mov (.t 44)),og 46 45 true (.mov (.t 7)),og 47 45 true (.bin .lss (.t 46) (.k (.int .i64 0))),og 48 45 true (.mov (.t 47)),og 49 48 false (.fad 3 (.t 2)),og 50 48 false (.ld false 1 (.t 49)),og 51 48 false (.mov (.t 7)),og 52 48 false (.iad 8 (.t 50) (.t 51)),og 53 48 false (.fad 0 (.t 52)),og 54 48 false (.ld false 1 (.t 53)),og 55 48 false (.fad 5 (.t 3)),og 56 48 false (.ld false 1 (.t 55)),og 57 48 false (.bin .neq (.t 54) (.t 56)),og 58 45 true (.pick (.t 48) (.k (.bool true)) (.t 57)),og 59 45 true (.mov (.t 58)),og 60 59 false (.fad 4 (.t 3)),og 61 59 false (.ld false 1 (.t 60)),og 62 59 false (.bin .eql (.t 61) (.k (.int .i64 6))),og 63 59 false (.mov (.t 62)),og 64 63 true (.fad 2 (.t 3)),og 65 63 true (.ld false 1 (.t 64)),og 66 63 true (.fad 3 (.t 2)),og 67 63 true (.ld false 1 (.t 66)),og 68 63 true (.mov (.t 7)),og 69 63 true (.iad 8 (.t 67) (.t 68)),og 70 63 true (.fad 3 (.t 69)),og 71 63 true (.ld false 1 (.t 70))] [og 72 63 true (.bin .leq (.t 65) (.t 71)),og 73 59 false (.pick (.t 63) (.t 72) (.k (.bool false))),og 74 45 true (.pick (.t 59) (.k (.bool true)) (.t 73)),o 75 (.pick (.t 45) (.t 74) (.k (.bool false)))]) (.cnd (.t 75) (.seq (.reg [o 76 (.ld true 4 (.t 6)),on (.st 4 (.t 4) (.t 76)),o 5 (.mov (.k (.int .i64 3)))]) .ret) .skip)) (.seq (.reg [o 77 (.ld true 4 (.t 2)),o 78 (.call 93 [(.t 77)]),o 8 (.new [.nilS,.nilS,.nilS,.nilS]),on (.st 4 (.t 8) (.t 78))]) (.seq (.reg [o 79 (.fad 0 (.t 8)),o 80 (.ld false 1 (.t 79)),o 81 (.fad 0 (.t 3)),o 82 (.fad 0 (.t 81)),o 83 (.ld false 1 (.t 82)),o 84 (.fad 0 (.t 3)),o 85 (.fad 1 (.t 84)),o 86 (.ld false 1 (.t 85)),o 87 (.iad 1 (.t 80) (.t 83)),on (.st 1 (.t 87) (.t 86))]) (.seq (.seq (.reg [o 88 (.fad 4 (.t 3)),o 89 (.ld false 1 (.t 88))]) (.blk 1 (.seq (.reg [o 91 (.bin .eql (.t 89) (.k (.int .i64 1))),o 90 (.mov (.t 91))]) (.cnd (.t 90) (.reg [o 92 (.fad 1 (.t 2)),o 93 (.ld false 1 (.t 92)),o 94 (.fad 5 (.t 3)),o 95 (.ld false 1 (.t 94)),o 96 (.fad 0 (.t 3)),o 97 (.fad 0 (.t 96)),o 98 (.ld false 1 (.t 97)),o 99 (.fad 7 (.t 3)),o 100 (.ld false 1 (.t 99)),o 101 (.call 153 [(.t 93),(.t 95),(.t 98),(.t 100)]),o 102 (.fad 1 (.t 8)),on (.st 1 (.t 102) (.t 101))]) (.seq (.reg [o 104 (.bin .eql (.t 89) (.k (.int .i64 2))),o 103 (.mov (.t 104))]) (.cnd (.t 103) (.reg [o 105 (.fad 2 (.t 2)),o 106 (.ld false 1 (.t 105)),o 107 (.fad 5 (.t 3)),o 108 (.ld false 1 (.t 107)),o 109 (.fad 6 (.t 3)),o 110 (.ld false 1 (.t 109)),o 111 (.fad 0 (.t 3)),o 112 (.ld true 2 (.t 111)),o 113 (.build [(.bool false),(.str ⟨#[]⟩),(.str ⟨#[]⟩),(.int .i64 0),(.int .i64 0),(.int .i64 0)] [(1,1,(.t 108)),(2,1,(.t 110)),(4,2,(.t 112))]),o 114 (.call 154 [(.t 106),(.t 113)]),o 115 (.fad 2 (.t 8)),on (.st 1 (.t 115) (.t 114))]) (.seq (.reg [o 117 (.bin .eql (.t 89) (.k (.int .i64 3))),o 116 (.mov (.t 117))]) (.cnd (.t 116) (.reg [o 118 (.fad 2 (.t 2)),o 119 (.ld false 1 (.t 118)),o 120 (.ld true 10 (.t 3)),o 121 (.call 155 [(.t 119),(.k (.bool false)),(.t 120)]),o 122 (.fad 2 (.t 8)),on (.st 1 (.t 122) (.t 121))]) (.seq (.reg [o 124 (.bin .eql (.t 89) (.k (.int .i64 4))),o 123 (.mov (.t 124))]) (.cnd (.t 123) (.seq (.reg [o 125 (.fad 2 (.t 2)),o 126 (.ld false 1 (.t 125)),o 127 (.ld true 10 (.t 3)),o 128 (.call 155 [(.t 126),(.k (.bool true)),(.t 127)]),o 9 (.mov (.t 128))]) (.reg [o 129 (.mov (.t 9)),o 130 (.fad 5 (.t 3)),o 131 (.ld false 1 (.t 130)),o 132 (.fad 6 (.t 3)),o 133 (.ld false 1 (.t 132)),o 134 (.fad 7 (.t 3)),o 135 (.ld false 1 (.t 134)),o 136 (.fad 0 (.t 3)),o 137 (.ld true 2 (.t 136)),o 138 (.build [(.bool false),(.str ⟨#[]⟩),(.str ⟨#[]⟩),(.int .i64 0),(.int .i64 0),(.int .i64 0)] [(0,1,(.k (.bool true))),(1,1,(.t 131)),(2,1,(.t 133)),(3,1,(.t 135)),(4,2,(.t 137))]),o 139 (.call 154 [(.t 129),(.t 138)]),o 140 (.fad 2 (.t 8)),on (.st 1 (.t 140) (.t 139))])) (.seq (.reg [o 142 (.bin .eql (.t 89) (.k (.int .i64 5))),o 141 (.mov (.t 142))]) (.cnd (.t 141) (.reg [o 143 (.fad 2 (.t 2)),o 144 (.ld false 1 (.t 143)),o 145 (.ld true 10 (.t 3)),o 146 (.call 155 [(.t 144),(.k (.bool true)),(.t 145)]),o 147 (.fad 2 (.t 8)),on (.st 1 (.t 147) (.t 146))]) (.seq (.reg [o 149 (.bin .eql (.t 89) (.k (.int .i64 6))),o 148 (.mov (.t 149))]) (.cnd (.t 148) (.reg [o 150 (.fad 3 (.t 2)),o 151 (.ld false 1 (.t 150)),o 152 (.fad 5 (.t 3)),o 153 (.ld false 1 (.t 152)),o 154 (.fad 0 (.t 3)),o 155 (.ld true 2 (.t 154)),o 156 (.fad 2 (.t 3)),o 157 (.ld false 1 (.t 156)),o 158 (.fad 8 (.t 3)),o 159 (.ld true 2 (.t 158)),o 160 (.fad 7 (.t 3)),o 161 (.ld false 1 (.t 160)),o 162 (.build [(.str ⟨#[]⟩),(.int .i64 0),(.int .i64 0),(.int .i64 0),(.int .i64 0),(.int .i64 0),(.int .i64 0),(.bool false)] [(0,1,(.t 153)),(1,2,(.t 155)),(3,1,(.t 157)),(4,2,(.t 159)),(6,1,(.t 161))]),o 163 (.call 156 [(.t 151),(.t 162)]),o 164 (.fad 3 (.t 8)),on (.st 1 (.t 164) (.t 163))]) (.seq (.reg [o 166 (.bin .eql (.t 89) (.k (.int .i64 7))),o 165 (.mov (.t 166))]) (.cnd (.t 165) (.reg [o 167 (.fad 3 (.t 8)),o 168 (.ld false 1 (.t 167)),o 169 (.mov (.t 7)),o 170 (.iad 8 (.t 168) (.t 169)),o 171 (.fad 7 (.t 170)),on (.st 1 (.t 171) (.k (.bool true)))]) .skip)))))))))))))))) (.seq (.seq (.reg [o 172 (.ld true 4 (.t 8)),o 173 (.call 157 [(.t 172)])]) (.cnd (.t 173) (.seq (.reg [o 174 (.ld true 4 (.t 6)),on (.st 4 (.t 4) (.t 174)),o 5 (.mov (.k (.int .i64 4)))]) .ret) .skip)) (.seq (.reg [o 175 (.ld true 4 (.t 8)),on (.st 4 (.t 4) (.t 175)),o 5 (.mov (.k (.int .i64 0)))]) .ret))))))))))⟩
theorem ir_i_DoAct:compFn Tryz.prog n_i_DoAct=some F_i_DoAct:=by kernel_rfl
theorem known_facts {s:State} (h:stateOk s=true):s.tallies.Pairwise (fun a b=>tallyLt a b=true)∧(∀ x∈s.lives,knows s.know x.dot=true)∧∀ x∈s.cells,knows s.know x.dot=true:=by
 simp only[stateOk,Bool.and_eq_true] at h
 obtain⟨_,h2,h3,h4,_⟩:=h
 refine⟨?_,fun x hx=> ?_,fun x hx=> ?_⟩
 ·simp only[talsOk,Bool.and_eq_true,allR_iff,talP] at h2
  exact pairs_up (lt:=tallyLt) (fun a b c h1 h2=>swo_tally.trans _ _ _ h1 h2) fun i hi=>(h2.1 i hi).2
 ·simp only[livsOk,Bool.and_eq_true,allR_iff,livP] at h3
  obtain⟨i,hi,rfl⟩:=List.getElem_of_mem hx
  have:=(h3.1 i hi).1
  rw[onI_at hi] at this
  exact this
 ·simp only[celsOk,Bool.and_eq_true,allR_iff,celP] at h4
  obtain⟨i,hi,rfl⟩:=List.getElem_of_mem hx
  have:=(h4.1 i hi).1
  rw[onI_at hi] at this
  exact this
theorem withLive_eq {l:List Live} {k:List Int} {x:Live} (h:∀ y∈l,knows k y.dot=true) (hx:knows k x.dot=false):insW (fun y:Live=>dotLt y.dot x.dot) x l=insLive x l:=
 insW_insB fun y hy=>dotLt_not fun e=>by have:=h y hy;rw[← e,hx] at this;cases this
theorem withCell_eq {l:List Cell} {k:List Int} {x:Cell} (h:∀ y∈l,knows k y.dot=true) (hx:knows k x.dot=false):insW (fun y:Cell=>dotLt y.dot x.dot) x l=insCell x l:=
 insW_insB fun y hy=>dotLt_not fun e=>by have:=h y hy;rw[← e,hx] at this;cases this
theorem ref_zero {s:State} {a:Act} (hao:actOk a=true) (hr:a.ref=d0):refIn s a=true:=by
 have hk:¬ a.kind=7:=fun h7=>by
  simp only[actOk,Bool.and_eq_true] at hao
  have h2:=hao.2.2
  unfold refOk at h2
  rw[if_pos (by simp[h7])] at h2
  have:=knows_dot h2
  rw[hr] at this
  exact absurd this (by decide)
 unfold refIn
 rw[if_neg (by rintro(h|h);exact hk h;exact h.2 hr)]
theorem ref_some {a:Act} (hao:actOk a=true) (hr:a.ref≠d0):a.kind=7∨a.kind=6:=by
 simp only[actOk,Bool.and_eq_true] at hao
 have h2:=hao.2.2
 unfold refOk at h2
 by_cases h7:a.kind=7
 ·exact .inl h7
 ·rw[if_neg (by simpa using h7)] at h2
  by_cases h6:a.kind=6
  ·exact .inr h6
  ·rw[if_neg (by simpa using h6)] at h2
   exact absurd (by simpa using h2) hr
def zSt (σ:St) (cs:List GV):Prop:=∃ a b c v,cs=[a,b,c,v]∧zOk σ 3 b=true∧zOk σ 6 c=true∧zOk σ 8 v=true
set_option maxHeartbeats 4000000 in
theorem i_DoAct_ret (σ:St) (cs:List GV) (s:State) (hR:kState.R σ s cs) (hz:zSt σ cs) (as':List GV) (a:Act) (hS:kAct.R σ a as') (hl:msState s≤1099511627776) (hm:msAct a≤1099511627776):∃ ds τ,Ret Tryz.prog n_i_DoAct [.agg cs,.agg as'] σ (.tup [.agg ds,gi (doAct s a).2]) τ∧Hp σ τ [own kState ds (doAct s a).1]:=by
 have hR0:=hR
 have hS0:=hS
 have hS1:∀ {τ:St},σ <+: τ→kAct.R τ a as':=fun h=>kAct.pre hS0 h
 obtain⟨a1,b1,c1,v1,rfl,hkn,hb,hc,hv⟩:=hR
 obtain⟨_,_,_,_,hq,hz3,hz6,hz8⟩:=hz
 injection hq with q1 q2;injection q2 with q2 q3;injection q3 with q3 q4;injection q4 with q4 _
 subst q1 q2 q3 q4
 obtain⟨kv,rfl,hkv⟩:=hS
 obtain⟨l1,l2,l3,l4,_⟩:=msState_all hl
 have hkl:a.knew.length≤1099511627776:=by unfold msAct at hm;omega
 have key:∃ q τ,Ret Tryz.prog n_i_DoAct [.agg [a1,b1,c1,v1],.agg (actV a kv)] σ q τ∧∃ ds,q= .tup [.agg ds,gi (doAct s a).2]∧Hp σ τ [own kState ds (doAct s a).1]:=by
  refine ret_dr ir_i_DoAct (Nat.le_of_ble_eq_true rfl) ?_
  have H:=(((Hp.refl σ).new 1 [a1,b1,c1,v1]).new 1 (actV a kv)).new 1 [GV.nilS,GV.nilS,GV.nilS,GV.nilS]
  simp only[F_i_DoAct]
  obtain⟨n4,hn4⟩:∃ n,n=(σ++[some (Blk.row 1 [a1,b1,c1,v1])]++[some (Blk.row 1 (actV a kv))]).length:=⟨_,rfl⟩
  obtain⟨n2,hn2⟩:∃ n,n=(σ++[some (Blk.row 1 [a1,b1,c1,v1])]).length:=⟨_,rfl⟩
  obtain⟨n1,hn1⟩:∃ n,n=σ.length:=⟨_,rfl⟩
  rw[← hn4,←hn2,←hn1] at H
  refine vc_seqX (fun env τ=>env 2= .ptr n1 0∧env 3= .ptr n2 0∧env 4= .ptr n4 0∧Hp σ τ [pt 1 n4 [GV.nilS,GV.nilS,GV.nilS,GV.nilS],pt 1 n2 (actV a kv),pt 1 n1 [a1,b1,c1,v1]]) (fun Y hY=>by
   simp +contextual (disch:=omega) only[go_sem]
   refine hY _ _ ⟨?_,?_,?_,H⟩
   all_goals simp +contextual (disch:=omega) only[go_sem,hn1,hn2,hn4]) ?_
  clear H
  rintro env τ ⟨e2,e3,e4,H⟩
  refine vc_seqX (fun env τ=>∃ n6 es,es.length=4∧env 2= .ptr n1 0∧env 3= .ptr n2 0∧env 4= .ptr n4 0∧env 6= .ptr n6 0∧Hp σ τ [pt 1 n6 es,own kState es s,pt 1 n4 [GV.nilS,GV.nilS,GV.nilS,GV.nilS],pt 1 n2 (actV a kv),pt 1 n1 [a1,b1,c1,v1]]) (fun Y hY=>by
   simp +contextual (disch:=omega) only[go_sem,e2,e3,e4,ld_ptr (H.pt 2 rfl),seg_full (cs:=[a1,b1,c1,v1]) rfl]
   obtain⟨es,τ1,R1,K1⟩:=i_copyState_ret _ _ s (kState.pre hR0 H.sub) hl
   refine by_hp R1 K1 ?_
   have H:=H.add K1
   simp only[List.cons_append,List.nil_append] at H
   have gl:es.length=4:=kState.len (K1.rd 0 rfl)
   have H:=H.new 1 es
   simp +contextual (disch:=omega) only[go_sem,splice_full (cs:=[GV.nilS,GV.nilS,GV.nilS,GV.nilS]) gl rfl,gl,e2,e3,e4]
   refine hY _ _ ⟨τ1.length,es,gl,?_,?_,?_,?_,H⟩
   all_goals simp +contextual (disch:=omega) only[go_sem,e2,e3,e4]) ?_
  clear H e2 e3 e4
  rintro env τ ⟨n6,es,gl,e2,e3,e4,e6,H⟩
  refine vc_seqX (fun env τ'=>env 2= .ptr n1 0∧env 3= .ptr n2 0∧env 4= .ptr n4 0∧env 6= .ptr n6 0∧τ=τ'∧stateOk s=true∧actOk a=true∧knows s.know a.dot=false∧knowIn a.knew s.know=true) (fun Y hY=>by
   obtain⟨τr,sr,Hr,_⟩:=H.st 2 rfl 4 0 (.agg es) gl (by decide) (by simp)
   have zr:rdB τr n4=some (splice [GV.nilS,GV.nilS,GV.nilS,GV.nilS] 0 es):=Hr.pt 2 rfl
   rw[splice_full gl rfl] at zr
   simp +contextual (disch:=omega) only[go_sem,e2,e3,e4,e6,ld_ptr (H.pt 4 rfl),seg_full (cs:=[a1,b1,c1,v1]) rfl]
   refine by_bool (i_StateOk_ret _ _ s (kState.pre hR0 H.sub) hl) (fun hok=> ?_) (fun hok=> ?_)
   rotate_left
   ·have hd:doAct s a=(s,3):=by simp[doAct,hok]
    simp +contextual (disch:=omega) only[go_sem,e2,e3,e4,e6,ld_ptr (H.pt 0 rfl),seg_full gl,sr,ld_ptr zr]
    exact⟨_,rfl,es,by rw[hd],by rw[hd];exact(Hr.pick 1 rfl).one⟩
   simp +contextual (disch:=omega) only[go_sem,e2,e3,e4,e6,ld_ptr (H.pt 3 rfl),seg_full (cs:=actV a kv) rfl]
   refine by_bool (i_ActOk_ret _ _ a (hS1 H.sub) hm) (fun hao=> ?_) (fun hao=> ?_)
   rotate_left
   ·have hd:doAct s a=(s,3):=by simp[doAct,hok,hao]
    simp +contextual (disch:=omega) only[go_sem,e2,e3,e4,e6,ld_ptr (H.pt 0 rfl),seg_full gl,sr,ld_ptr zr]
    exact⟨_,rfl,es,by rw[hd],by rw[hd];exact(Hr.pick 1 rfl).one⟩
   simp +contextual (disch:=omega) only[go_sem,e2,e3,e4,e6,ld_ptr (H.pt 3 rfl),ld_ptr (H.pt 4 rfl)]
   refine by_bool (i_Knows_ret _ a1 s.know a.dot (hkn.pre H.sub) l1) (fun hkn1=> ?_) (fun hkn1=> ?_)
   ·have hd:doAct s a=(s,1):=by simp[doAct,hok,hao,hkn1]
    simp +contextual (disch:=omega) only[go_sem,e2,e3,e4,e6,ld_ptr (H.pt 0 rfl),seg_full gl,sr,ld_ptr zr]
    exact⟨_,rfl,es,by rw[hd],by rw[hd];exact(Hr.pick 1 rfl).one⟩
   simp +contextual (disch:=omega) only[go_sem,e2,e3,e4,e6,ld_ptr (H.pt 3 rfl),ld_ptr (H.pt 4 rfl)]
   refine by_bool (i_KnowIn_ret _ kv a1 a.knew s.know (hkv.pre H.sub) (hkn.pre H.sub) hkl l1) (fun hkn2=> ?_) (fun hkn2=> ?_)
   rotate_left
   ·have hd:doAct s a=(s,2):=by simp[doAct,hok,hao,hkn1,hkn2]
    simp +contextual (disch:=omega) only[go_sem,e2,e3,e4,e6,ld_ptr (H.pt 0 rfl),seg_full gl,sr,ld_ptr zr]
    exact⟨_,rfl,es,by rw[hd],by rw[hd];exact(Hr.pick 1 rfl).one⟩
   simp +contextual (disch:=omega) only[go_sem,e2,e3,e4,e6]
   refine hY _ _ ⟨?_,?_,?_,?_,rfl,hok,hao,hkn1,hkn2⟩
   all_goals simp +contextual (disch:=omega) only[go_sem,e2,e3,e4,e6]) ?_
  clear e2 e3 e4 e6
  rintro env τ' ⟨e2,e3,e4,e6,rfl,hok,hao,hkn1,hkn2⟩
  obtain⟨⟨f1,f2⟩,⟨f3,f4⟩,⟨f5,f6⟩,f7⟩:=act_facts hao
  obtain⟨t1,t2⟩:=tal_facts hok
  obtain⟨kf1,kf2,kf3⟩:=known_facts hok
  have CA:=i_CellAt_ret τ _ s (kState.pre hR0 H.sub) a.ref hl
  refine vc_seqX (fun env τ'=>env 2= .ptr n1 0∧env 3= .ptr n2 0∧env 4= .ptr n4 0∧env 6= .ptr n6 0∧env 7=gi (cellNo s.cells a.ref)∧τ=τ') (fun Y hY=>by
   simp +contextual (disch:=omega) only[go_sem,e2,e3,e4,e6,ld_ptr (H.pt 4 rfl),ld_ptr (H.pt 3 rfl),seg_full (cs:=[a1,b1,c1,v1]) rfl]
   refine by_ret CA ?_
   simp +contextual (disch:=omega) only[go_sem,e2,e3,e4,e6]
   refine hY _ _ ⟨?_,?_,?_,?_,?_,rfl⟩
   all_goals simp +contextual (disch:=omega) only[go_sem,e2,e3,e4,e6]) ?_
  clear e2 e3 e4 e6
  rintro env τ' ⟨e2,e3,e4,e6,e7,rfl⟩
  refine vc_seqX (fun env τ'=>env 2= .ptr n1 0∧env 3= .ptr n2 0∧env 4= .ptr n4 0∧env 6= .ptr n6 0∧env 7=gi (cellNo s.cells a.ref)∧τ=τ'∧refIn s a=true) (fun Y hY=>by
   obtain⟨τr,sr,Hr,_⟩:=H.st 2 rfl 4 0 (.agg es) gl (by decide) (by simp)
   have zr:rdB τr n4=some (splice [GV.nilS,GV.nilS,GV.nilS,GV.nilS] 0 es):=Hr.pt 2 rfl
   rw[splice_full gl rfl] at zr
   by_cases hr0:a.ref=d0
   ·have cr:decide (a.ref=⟨0,0⟩)=true:=decide_eq_true hr0
    have hri:=ref_zero (s:=s) hao hr0
    simp +contextual (disch:=omega) only[go_sem,e2,e3,e4,e6,e7,ld_ptr (H.pt 3 rfl),ld_ptr (H.pt 4 rfl),cr,Bool.true_xor,Bool.true_bne,Bool.not_true,Bool.not_false]
    refine hY _ _ ⟨?_,?_,?_,?_,?_,rfl,hri⟩
    all_goals simp +contextual (disch:=omega) only[go_sem,e2,e3,e4,e6,e7]
   ·have cr:decide (a.ref=⟨0,0⟩)=false:=decide_eq_false hr0
    have h67:=ref_some hao hr0
    have hin:a.kind=7∨(a.kind=6∧a.ref≠d0):=h67.imp id fun h=>⟨h,hr0⟩
    cases hx:cellIx s.cells a.ref with
    |none=>
     have hno:cellNo s.cells a.ref= -1:=by simp[cellNo,hx]
     rw[hno] at e7
     have cm:decide ((-1:Int)<0)=true:=rfl
     have hrf:refIn s a=false:=by simp[refIn,hin,hx]
     have hd:doAct s a=(s,3):=by simp[doAct,hok,hao,hkn1,hkn2,hrf]
     simp +contextual (disch:=omega) only[go_sem,e2,e3,e4,e6,e7,ld_ptr (H.pt 3 rfl),ld_ptr (H.pt 4 rfl),cr,cm,Bool.true_xor,Bool.true_bne,Bool.not_true,Bool.not_false,ld_ptr (H.pt 0 rfl),seg_full gl,sr,ld_ptr zr]
     exact⟨_,rfl,es,by rw[hd],by rw[hd];exact(Hr.pick 1 rfl).one⟩
    |some k=>
     obtain⟨hk,hk2⟩:=cellIx_some hx
     have hno:cellNo s.cells a.ref=k:=by simp[cellNo,hx]
     have hE:refIn s a=(decide (s.cells[k].obj=a.obj)&&(decide (a.kind=7)||decide (s.cells[k].time<a.time))):=by simp[refIn,hin,hx,onI_at hk]
     rw[hno] at e7
     have cm:decide ((k:Int)<0)=false:=by simp
     have C2:=Cell_at (hv.pre H.sub) hk
     cases ho:decide (s.cells[k].obj=a.obj) with
     |false=>
      have hrf:refIn s a=false:=by rw[hE,ho];rfl
      have hd:doAct s a=(s,3):=by simp[doAct,hok,hao,hkn1,hkn2,hrf]
      simp +contextual (disch:=omega) only[go_sem,e2,e3,e4,e6,e7,ld_ptr (H.pt 3 rfl),ld_ptr (H.pt 4 rfl),cr,cm,natOf_nat,C2,ho,Bool.true_xor,Bool.true_bne,Bool.not_true,Bool.not_false,ld_ptr (H.pt 0 rfl),seg_full gl,sr,ld_ptr zr]
      exact⟨_,rfl,es,by rw[hd],by rw[hd];exact(Hr.pick 1 rfl).one⟩
     |true=>
      by_cases h6:a.kind=6
      ·have b6:(a.kind==6)=true:=by simp[h6]
       have h7:¬ a.kind=7:=by omega
       rw[ho,decide_eq_false h7] at hE
       cases ht:decide (a.time≤s.cells[k].time) with
       |true=>
        have ht2:decide (s.cells[k].time<a.time)=false:=by
         have:=of_decide_eq_true ht
         exact decide_eq_false (by omega)
        have hrf:refIn s a=false:=by rw[hE,ht2];rfl
        have hd:doAct s a=(s,3):=by simp[doAct,hok,hao,hkn1,hkn2,hrf]
        simp +contextual (disch:=omega) only[go_sem,e2,e3,e4,e6,e7,ld_ptr (H.pt 3 rfl),ld_ptr (H.pt 4 rfl),cr,cm,natOf_nat,C2,ho,b6,ht,Bool.true_xor,Bool.true_bne,Bool.not_true,Bool.not_false,ld_ptr (H.pt 0 rfl),seg_full gl,sr,ld_ptr zr]
        exact⟨_,rfl,es,by rw[hd],by rw[hd];exact(Hr.pick 1 rfl).one⟩
       |false=>
        have ht2:decide (s.cells[k].time<a.time)=true:=by
         have:=of_decide_eq_false ht
         exact decide_eq_true (by omega)
        have hri:refIn s a=true:=by rw[hE,ht2];rfl
        simp +contextual (disch:=omega) only[go_sem,e2,e3,e4,e6,e7,ld_ptr (H.pt 3 rfl),ld_ptr (H.pt 4 rfl),cr,cm,natOf_nat,C2,ho,b6,ht,Bool.true_xor,Bool.true_bne,Bool.not_true,Bool.not_false]
        refine hY _ _ ⟨?_,?_,?_,?_,?_,rfl,hri⟩
        all_goals simp +contextual (disch:=omega) only[go_sem,e2,e3,e4,e6,e7,hno]
      ·have b6:(a.kind==6)=false:=by simp[h6]
       have h7:a.kind=7:=by omega
       have hri:refIn s a=true:=by rw[hE,ho,decide_eq_true h7];rfl
       simp +contextual (disch:=omega) only[go_sem,e2,e3,e4,e6,e7,ld_ptr (H.pt 3 rfl),ld_ptr (H.pt 4 rfl),cr,cm,natOf_nat,C2,ho,b6,Bool.true_xor,Bool.true_bne,Bool.not_true,Bool.not_false]
       refine hY _ _ ⟨?_,?_,?_,?_,?_,rfl,hri⟩
       all_goals simp +contextual (disch:=omega) only[go_sem,e2,e3,e4,e6,e7,hno]) ?_
  clear e2 e3 e4 e6 e7
  rintro env τ' ⟨e2,e3,e4,e6,e7,rfl,hri⟩
  refine vc_seqX (fun env τ=>∃ n8 fs,fs.length=4∧env 2= .ptr n1 0∧env 3= .ptr n2 0∧env 4= .ptr n4 0∧env 6= .ptr n6 0∧env 7=gi (cellNo s.cells a.ref)∧env 8= .ptr n8 0∧Hp σ τ [pt 1 n8 fs,own kState fs s,pt 1 n6 es,own kState es s,pt 1 n4 [GV.nilS,GV.nilS,GV.nilS,GV.nilS],pt 1 n2 (actV a kv),pt 1 n1 [a1,b1,c1,v1]]) (fun Y hY=>by
   simp +contextual (disch:=omega) only[go_sem,e2,e3,e4,e6,e7,ld_ptr (H.pt 4 rfl),seg_full (cs:=[a1,b1,c1,v1]) rfl]
   obtain⟨fs,τ1,R1,K1⟩:=i_copyState_ret _ _ s (kState.pre hR0 H.sub) hl
   refine by_hp R1 K1 ?_
   have H:=H.add K1
   simp only[List.cons_append,List.nil_append] at H
   have gf:fs.length=4:=kState.len (K1.rd 0 rfl)
   have H:=H.new 1 fs
   simp +contextual (disch:=omega) only[go_sem,splice_full (cs:=[GV.nilS,GV.nilS,GV.nilS,GV.nilS]) gf rfl,gf,e2,e3,e4,e6,e7]
   refine hY _ _ ⟨τ1.length,fs,gf,?_,?_,?_,?_,?_,?_,H⟩
   all_goals simp +contextual (disch:=omega) only[go_sem,e2,e3,e4,e6,e7]) ?_
  clear H e2 e3 e4 e6 e7 CA
  rintro env τ ⟨n8,fs,gf,e2,e3,e4,e6,e7,e8,H⟩
  obtain⟨r,hr⟩:∃ r:Nat,a.dot.rep=(r:Int):=⟨a.dot.rep.toNat,by omega⟩
  have hrl:r<s.know.length:=by omega
  have hdo:doOne s a=doKind {s with know:=s.know.set r a.dot.seq} a:=by
   unfold doOne
   rw[hr];simp
  refine vc_seqX (fun env τ=>env 2= .ptr n1 0∧env 3= .ptr n2 0∧env 4= .ptr n4 0∧env 6= .ptr n6 0∧env 7=gi (cellNo s.cells a.ref)∧env 8= .ptr n8 0∧SPtr σ τ n8 {s with know:=s.know.set r a.dot.seq} [pt 1 n6 es,own kState es s,pt 1 n4 [GV.nilS,GV.nilS,GV.nilS,GV.nilS],pt 1 n2 (actV a kv),pt 1 n1 [a1,b1,c1,v1]]) (fun Y hY=>by
   obtain⟨u0,u1,u2,u3,H⟩:=ownSplit H
   have i0:iadG 1 u0 (some r)=some (atz 1 u0 r):=RdN.iad (H.sl 0 rfl) hrl
   have n0:natOf (some (.int .i64 a.dot.rep))=some r:=by rw[hr];exact natOf_nat
   obtain⟨τ1,st0,H1⟩:=H.stw 0 rfl (j:=r) hrl 1 (gi a.dot.seq) a.dot.seq rfl rfl (by decide)
   have st0:stG 1 _ (atz 1 u0 r) (.int .i64 a.dot.seq)=some (.tup [],τ1):=st0
   simp +contextual (disch:=omega) only[go_sem,e2,e3,e4,e6,e7,e8,ld_ptr (H.pt 4 rfl),ld_ptr (H.pt 8 rfl),n0,i0,st0]
   refine hY _ _ ⟨?_,?_,?_,?_,?_,?_,u0,u1,u2,u3,H1⟩
   all_goals simp +contextual (disch:=omega) only[go_sem,e2,e3,e4,e6,e7,e8]) ?_
  clear H e2 e3 e4 e6 e7 e8
  rintro env τ ⟨e2,e3,e4,e6,e7,e8,S1⟩
  refine vc_seqX (fun env τ=>env 2= .ptr n1 0∧env 3= .ptr n2 0∧env 4= .ptr n4 0∧env 6= .ptr n6 0∧env 8= .ptr n8 0∧SPtr σ τ n8 (doOne s a) [pt 1 n6 es,own kState es s,pt 1 n4 [GV.nilS,GV.nilS,GV.nilS,GV.nilS],pt 1 n2 (actV a kv),pt 1 n1 [a1,b1,c1,v1]]) (fun Y hY=>by
   obtain⟨u0,u1,u2,u3,H⟩:=S1
   have e89:=ld_ptr (a:=false) (n:=1) (off:=4) (H.pt 8 rfl)
   by_cases k1:a.kind=1
   ·have kb1:(a.kind==1)=true:=by simp[k1]
    have hd:doKind {s with know:=s.know.set r a.dot.seq} a={s with know:=s.know.set r a.dot.seq,tallies:=talPut s.tallies a.obj a.dot.rep a.val}:=by unfold doKind;rw[if_pos k1]
    obtain⟨w,τ2,R2,K2⟩:=i_withTally_ret τ b1 s.tallies (hb.pre H.sub) (zOk_pre hz3 H.sub) a.obj a.dot.rep a.val l2 (by omega) t2
    rw[talPut_eq ⟨f5,f6⟩ kf1] at K2
    have H2:=H.add K2
    simp only[List.cons_append,List.nil_append] at H2
    have cc:=(H2.sl 0 rfl).cell
    obtain⟨τ3,st3,H3,_⟩:=H2.st 5 rfl 1 1 w (by rw[cc];rfl) (by decide) (by simp)
    simp +contextual (disch:=omega) only[go_sem,e2,e3,e4,e6,e7,e8,e89,ld_ptr (H.pt 9 rfl),ld_ptr (H.pt 8 rfl),kb1]
    refine by_hp R2 K2 ?_
    simp +contextual (disch:=omega) only[go_sem,e2,e3,e4,e6,e7,e8,st3]
    refine hY _ _ ⟨?_,?_,?_,?_,?_,u0,w,u2,u3,?_⟩
    all_goals first|(simp +contextual (disch:=omega) only[go_sem,e2,e3,e4,e6,e7,e8];done)|skip
    simp only[cc,List.set_cons_zero,List.set_cons_succ,splice_succ,splice_cons,splice_nil] at H3
    rw[hdo,hd]
    exact Hp.moveTo H3 1 rfl
   have kb1:(a.kind==1)=false:=by simp[k1]
   by_cases k2:a.kind=2
   ·have kb2:(a.kind==2)=true:=by simp[k2]
    have hd:doKind {s with know:=s.know.set r a.dot.seq} a={s with know:=s.know.set r a.dot.seq,lives:=insLive ⟨false,a.obj,a.key,0,a.dot⟩ s.lives}:=by unfold doKind;rw[if_neg k1,if_pos k2]
    obtain⟨w,τ2,R2,K2⟩:=i_withLive_ret τ c1 s.lives (hc.pre H.sub) (zOk_pre hz6 H.sub) ⟨false,a.obj,a.key,0,a.dot⟩ l3
    rw[withLive_eq kf2 hkn1] at K2
    have H2:=H.add K2
    simp only[List.cons_append,List.nil_append] at H2
    have cc:=(H2.sl 0 rfl).cell
    obtain⟨τ3,st3,H3,_⟩:=H2.st 5 rfl 1 2 w (by rw[cc];rfl) (by decide) (by simp)
    simp +contextual (disch:=omega) only[go_sem,e2,e3,e4,e6,e7,e8,e89,ld_ptr (H.pt 9 rfl),ld_ptr (H.pt 8 rfl),kb1,kb2]
    refine by_hp R2 K2 ?_
    simp +contextual (disch:=omega) only[go_sem,e2,e3,e4,e6,e7,e8,st3]
    refine hY _ _ ⟨?_,?_,?_,?_,?_,u0,u1,w,u3,?_⟩
    all_goals first|(simp +contextual (disch:=omega) only[go_sem,e2,e3,e4,e6,e7,e8];done)|skip
    simp only[cc,List.set_cons_zero,List.set_cons_succ,splice_succ,splice_cons,splice_nil] at H3
    rw[hdo,hd]
    exact Hp.moveTo H3 2 rfl
   have kb2:(a.kind==2)=false:=by simp[k2]
   by_cases k3:a.kind=3
   ·have kb3:(a.kind==3)=true:=by simp[k3]
    have hd:doKind {s with know:=s.know.set r a.dot.seq} a={s with know:=s.know.set r a.dot.seq,lives:=s.lives.filter (keepL false a.obj a.key a.knew)}:=by unfold doKind;rw[if_neg k1,if_neg k2,if_pos k3]
    obtain⟨w,τ2,R2,K2⟩:=i_withoutKnown_ret τ c1 s.lives (hc.pre H.sub) false _ a (hS1 H.sub) l3 hm
    have H2:=H.add K2
    simp only[List.cons_append,List.nil_append] at H2
    have cc:=(H2.sl 0 rfl).cell
    obtain⟨τ3,st3,H3,_⟩:=H2.st 5 rfl 1 2 w (by rw[cc];rfl) (by decide) (by simp)
    simp +contextual (disch:=omega) only[go_sem,e2,e3,e4,e6,e7,e8,e89,ld_ptr (H.pt 9 rfl),ld_ptr (H.pt 8 rfl),seg_full (cs:=actV a kv) rfl,kb1,kb2,kb3]
    refine by_hp R2 K2 ?_
    simp +contextual (disch:=omega) only[go_sem,e2,e3,e4,e6,e7,e8,st3]
    refine hY _ _ ⟨?_,?_,?_,?_,?_,u0,u1,w,u3,?_⟩
    all_goals first|(simp +contextual (disch:=omega) only[go_sem,e2,e3,e4,e6,e7,e8];done)|skip
    simp only[cc,List.set_cons_zero,List.set_cons_succ,splice_succ,splice_cons,splice_nil] at H3
    rw[hdo,hd]
    exact Hp.moveTo H3 2 rfl
   have kb3:(a.kind==3)=false:=by simp[k3]
   by_cases k4:a.kind=4
   ·have kb4:(a.kind==4)=true:=by simp[k4]
    have hd:doKind {s with know:=s.know.set r a.dot.seq} a={s with know:=s.know.set r a.dot.seq,lives:=insLive ⟨true,a.obj,a.key,a.val,a.dot⟩ (s.lives.filter (keepL true a.obj a.key a.knew))}:=by unfold doKind;rw[if_neg k1,if_neg k2,if_neg k3,if_pos k4]
    obtain⟨y,τ2,R2,K2⟩:=i_withoutKnown_ret τ c1 s.lives (hc.pre H.sub) true _ a (hS1 H.sub) l3 hm
    have H2':=H.add K2
    simp only[List.cons_append,List.nil_append] at H2'
    have hfl:=List.length_filter_le (keepL true a.obj a.key a.knew) s.lives
    obtain⟨w,τ3',R3,K3⟩:=i_withLive_ret τ2 y _ (H2'.sl 0 rfl) (H2'.zok 0 rfl) ⟨true,a.obj,a.key,a.val,a.dot⟩ (by omega)
    rw[withLive_eq (fun y hy=>kf2 y (List.mem_filter.1 hy).1) hkn1] at K3
    have H2:=(H2'.drop1).add K3
    simp only[List.cons_append,List.nil_append] at H2
    have cc:=(H2.sl 0 rfl).cell
    obtain⟨τ3,st3,H3,_⟩:=H2.st 5 rfl 1 2 w (by rw[cc];rfl) (by decide) (by simp)
    simp +contextual (disch:=omega) only[go_sem,e2,e3,e4,e6,e7,e8,e89,ld_ptr (H.pt 9 rfl),ld_ptr (H.pt 8 rfl),seg_full (cs:=actV a kv) rfl,kb1,kb2,kb3,kb4]
    refine by_hp R2 K2 ?_
    simp +contextual (disch:=omega) only[go_sem,e2,e3,e4,e6,e7,e8,e89,ld_ptr (H2'.pt 9 rfl)]
    refine by_hp R3 K3 ?_
    simp +contextual (disch:=omega) only[go_sem,e2,e3,e4,e6,e7,e8,st3]
    refine hY _ _ ⟨?_,?_,?_,?_,?_,u0,u1,w,u3,?_⟩
    all_goals first|(simp +contextual (disch:=omega) only[go_sem,e2,e3,e4,e6,e7,e8];done)|skip
    simp only[cc,List.set_cons_zero,List.set_cons_succ,splice_succ,splice_cons,splice_nil] at H3
    rw[hdo,hd]
    exact Hp.moveTo H3 2 rfl
   have kb4:(a.kind==4)=false:=by simp[k4]
   by_cases k5:a.kind=5
   ·have kb5:(a.kind==5)=true:=by simp[k5]
    have hd:doKind {s with know:=s.know.set r a.dot.seq} a={s with know:=s.know.set r a.dot.seq,lives:=s.lives.filter (keepL true a.obj a.key a.knew)}:=by unfold doKind;rw[if_neg k1,if_neg k2,if_neg k3,if_neg k4,if_pos k5]
    obtain⟨w,τ2,R2,K2⟩:=i_withoutKnown_ret τ c1 s.lives (hc.pre H.sub) true _ a (hS1 H.sub) l3 hm
    have H2:=H.add K2
    simp only[List.cons_append,List.nil_append] at H2
    have cc:=(H2.sl 0 rfl).cell
    obtain⟨τ3,st3,H3,_⟩:=H2.st 5 rfl 1 2 w (by rw[cc];rfl) (by decide) (by simp)
    simp +contextual (disch:=omega) only[go_sem,e2,e3,e4,e6,e7,e8,e89,ld_ptr (H.pt 9 rfl),ld_ptr (H.pt 8 rfl),seg_full (cs:=actV a kv) rfl,kb1,kb2,kb3,kb4,kb5]
    refine by_hp R2 K2 ?_
    simp +contextual (disch:=omega) only[go_sem,e2,e3,e4,e6,e7,e8,st3]
    refine hY _ _ ⟨?_,?_,?_,?_,?_,u0,u1,w,u3,?_⟩
    all_goals first|(simp +contextual (disch:=omega) only[go_sem,e2,e3,e4,e6,e7,e8];done)|skip
    simp only[cc,List.set_cons_zero,List.set_cons_succ,splice_succ,splice_cons,splice_nil] at H3
    rw[hdo,hd]
    exact Hp.moveTo H3 2 rfl
   have kb5:(a.kind==5)=false:=by simp[k5]
   by_cases k6:a.kind=6
   ·have kb6:(a.kind==6)=true:=by simp[k6]
    have hd:doKind {s with know:=s.know.set r a.dot.seq} a={s with know:=s.know.set r a.dot.seq,cells:=insCell ⟨a.obj,a.dot,a.time,a.ref,a.val,false⟩ s.cells}:=by unfold doKind;rw[if_neg k1,if_neg k2,if_neg k3,if_neg k4,if_neg k5,if_pos k6]
    obtain⟨w,τ2,R2,K2⟩:=i_withCell_ret τ v1 s.cells (hv.pre H.sub) (zOk_pre hz8 H.sub) ⟨a.obj,a.dot,a.time,a.ref,a.val,false⟩ l4
    rw[withCell_eq kf3 hkn1] at K2
    have H2:=H.add K2
    simp only[List.cons_append,List.nil_append] at H2
    have cc:=(H2.sl 0 rfl).cell
    obtain⟨τ3,st3,H3,_⟩:=H2.st 5 rfl 1 3 w (by rw[cc];rfl) (by decide) (by simp)
    simp +contextual (disch:=omega) only[go_sem,e2,e3,e4,e6,e7,e8,e89,ld_ptr (H.pt 9 rfl),ld_ptr (H.pt 8 rfl),kb1,kb2,kb3,kb4,kb5,kb6]
    refine by_hp R2 K2 ?_
    simp +contextual (disch:=omega) only[go_sem,e2,e3,e4,e6,e7,e8,st3]
    refine hY _ _ ⟨?_,?_,?_,?_,?_,u0,u1,u2,w,?_⟩
    all_goals first|(simp +contextual (disch:=omega) only[go_sem,e2,e3,e4,e6,e7,e8];done)|skip
    simp only[cc,List.set_cons_zero,List.set_cons_succ,splice_succ,splice_cons,splice_nil] at H3
    rw[hdo,hd]
    exact Hp.moveTo H3 3 rfl
   have kb6:(a.kind==6)=false:=by simp[k6]
   have k7:a.kind=7:=by omega
   have kb7:(a.kind==7)=true:=by simp[k7]
   have hd:doKind {s with know:=s.know.set r a.dot.seq} a={s with know:=s.know.set r a.dot.seq,cells:=goneAt s.cells a.ref}:=by unfold doKind;rw[if_neg k1,if_neg k2,if_neg k3,if_neg k4,if_neg k5,if_neg k6]
   cases hx:cellIx s.cells a.ref with
   |none=>simp[refIn,k7,hx] at hri
   |some k=>
    obtain⟨hkl2,hke⟩:=cellIx_some hx
    have hno:cellNo s.cells a.ref=k:=by simp[cellNo,hx]
    rw[hno] at e7
    have C2:=Cell_at (H.sl 3 rfl) hkl2
    obtain⟨τ2,st2,H2⟩:=H.ste 3 rfl hkl2 1 7 (.bool true) {s.cells[k] with gone:=true} rfl (by decide) (by decide) rfl
    have st2:stG 1 τ (fld 7 (atz 8 u3 k)) (.bool true)=some (.tup [],τ2):=st2
    simp +contextual (disch:=omega) only[go_sem,e2,e3,e4,e6,e7,e8,kb1,kb2,kb3,kb4,kb5,kb6,kb7,ld_ptr (H.pt 8 rfl),ld_ptr (H.pt 4 rfl),natOf_nat,C2,st2]
    refine hY _ _ ⟨?_,?_,?_,?_,?_,u0,u1,u2,u3,?_⟩
    all_goals first|(simp +contextual (disch:=omega) only[go_sem,e2,e3,e4,e6,e7,e8];done)|skip
    have hE:goneAt s.cells a.ref=s.cells.set k {s.cells[k] with gone:=true}:=by
     unfold goneAt
     rw[hx]
     exact modify_set _ hkl2
    rw[hdo,hd,hE]
    exact H2) ?_
  clear e2 e3 e4 e6 e7 e8 S1
  rintro env τ ⟨e2,e3,e4,e6,e8,S1⟩
  obtain⟨w0,w1,w2,w3,z6,q1,q2,q3,H3⟩:=S1.own
  have TM:=i_tooMany_ret τ [w0,w1,w2,w3] (doOne s a) (H3.rd 0 rfl)
  simp +contextual (disch:=omega) only[go_sem,e2,e3,e4,e6,e8,ld_ptr z6,seg_full (cs:=[w0,w1,w2,w3]) rfl]
  refine by_bool TM (fun ht=> ?_) (fun ht=> ?_)
  ·have hd:doAct s a=(s,4):=by simp[doAct,hok,hao,hkn1,hkn2,hri,ht]
   obtain⟨τ5,s5,H5,_⟩:=H3.st 3 rfl 4 0 (.agg es) gl (by decide) (by simp)
   have z5:rdB τ5 n4=some (splice [GV.nilS,GV.nilS,GV.nilS,GV.nilS] 0 es):=H5.pt 3 rfl
   rw[splice_full gl rfl] at z5
   simp +contextual (disch:=omega) only[go_sem,e2,e3,e4,e6,e8,ld_ptr (H3.pt 1 rfl),seg_full gl,s5,ld_ptr z5]
   exact⟨_,rfl,es,by rw[hd],by rw[hd];exact(H5.pick 2 rfl).one⟩
  ·have hd:doAct s a=(doOne s a,0):=by simp[doAct,hok,hao,hkn1,hkn2,hri,ht]
   obtain⟨τ5,s5,H5,_⟩:=H3.st 3 rfl 4 0 (.agg [w0,w1,w2,w3]) rfl (by decide) (by simp)
   have z5:rdB τ5 n4=some [w0,w1,w2,w3]:=H5.pt 3 rfl
   simp +contextual (disch:=omega) only[go_sem,e2,e3,e4,e6,e8,ld_ptr z6,seg_full (cs:=[w0,w1,w2,w3]) rfl,s5,ld_ptr z5]
   exact⟨_,rfl,_,by rw[hd],by rw[hd];exact H5.one⟩
 obtain⟨q,τ,R,ds,rfl,h⟩:=key
 exact⟨ds,τ,R,h⟩
end Go.Proofs.YtffnefmklckngaaGreat.Sy
namespace Go.Proofs.YtffnefmklckngaaGreat.Sy
open Go Go.RowKit
set_option linter.unusedSimpArgs false
set_option linter.unusedVariables false
set_option maxRecDepth 4000
abbrev n_i_rowCells:Nat:=134
def F_i_rowCells:Fn1:=⟨34,[.t 4],(.seq (.reg [o 2 (.box (.t 0)),o 4 (.mov (.k .nilS))]) (.seq (.reg [o 9 (.lit 8 0 [] []),o 5 (.mov (.t 9))]) (.seq (.seq (.reg [o 10 (.ld true 4 (.t 2)),o 11 (.mov (.t 1)),o 12 (.call 193 [(.t 10),(.t 11)]),o 13 (.len false (.t 12)),o 14 (.mov (.k (.int .i64 0)))]) (.blk 0 (.lop (.seq (.reg [o 15 (.bin .lss (.t 14) (.t 13))]) (.seq (.cnd (.t 15) .skip (.ext 0)) (.seq (.blk 1 (.seq (.reg [o 16 (.iad 2 (.t 12) (.t 14)),o 17 (.ld true 2 (.t 16)),o 7 (.new [(.int .i64 0),(.int .i64 0)]),on (.st 2 (.t 7) (.t 17))]) (.seq (.drw [o 18 (.fad 3 (.t 2)),o 19 (.ld false 1 (.t 18)),o 20 (.ld true 4 (.t 2)),o 21 (.ld true 2 (.t 7)),o 22 (.call 152 [(.t 20),(.t 21)]),o 23 (.iad 8 (.t 19) (.t 22)),o 24 (.ld true 8 (.t 23)),o 8 (.new [(.str ⟨#[]⟩),(.int .i64 0),(.int .i64 0),(.int .i64 0),(.int .i64 0),(.int .i64 0),(.int .i64 0),(.bool false)])] [on (.st 8 (.t 8) (.t 24))]) (.seq (.reg [o 25 (.fad 7 (.t 8)),o 26 (.ld false 1 (.t 25)),o 27 (.un .not (.t 26))]) (.cnd (.t 27) (.reg [o 28 (.mov (.t 5)),o 29 (.ld true 8 (.t 8)),o 30 (.lit 8 1 [(.str ⟨#[]⟩),(.int .i64 0),(.int .i64 0),(.int .i64 0),(.int .i64 0),(.int .i64 0),(.int .i64 0),(.bool false)] [(0,8,(.t 29))]),o 31 (.app 8 72 [(.str ⟨#[]⟩),(.int .i64 0),(.int .i64 0),(.int .i64 0),(.int .i64 0),(.int .i64 0),(.int .i64 0),(.bool false)] (.t 28) (.t 30)),o 5 (.mov (.t 31))]) .skip))))) (.reg [o 32 (.bin .add (.t 14) (.k (.int .i64 1))),o 14 (.mov (.t 32))]))))))) (.seq (.reg [o 33 (.mov (.t 5)),o 4 (.mov (.t 33))]) .ret))))⟩
theorem ir_i_rowCells:compFn Tryz.prog n_i_rowCells=some F_i_rowCells:=by kernel_rfl
def goneNot (c:Cell):Bool:= !c.gone
theorem rowT (s:State) (o:ByteArray):∃ T:List Cell,rowD s o=T.map (·.dot)∧rowL s o=T.filter goneNot∧T.length≤1200120∧∀ c∈T,∃ k,∃ hk:k<s.cells.length,cellNo s.cells c.dot=k∧s.cells[k]=c:=by
 cases h:stateOk s with
 |true=>
  refine⟨rowC s o,by simp[rowD,h],by simp only[rowL,h,if_true];rfl,rowC_len (celR_of h) o,fun c hc=> ?_⟩
  obtain⟨k,hk,h1,h2⟩:=rowD_cell h hc
  exact⟨k,hk,by simp[cellNo,h1],h2⟩
 |false=>exact⟨[],by simp[rowD,h],by simp[rowL,h],by simp,fun c hc=>by simp at hc⟩
theorem gone_snoc {l:List Cell} {i:Nat} (hi:i<l.length):(l.take (i+1)).filter goneNot=if goneNot l[i] then(l.take i).filter goneNot++[l[i]] else(l.take i).filter goneNot:=by
 rw[filter_snoc' hi]
 split<;>simp
theorem i_rowCells_ret (σ:St) (cs:List GV) (s:State) (hR:kState.R σ s cs) (o:ByteArray) (hl:msState s≤1099511627776):∃ r τ,Ret Tryz.prog n_i_rowCells [.agg cs,.str o] σ r τ∧Hp σ τ [ow pCell.kd r (rowL s o)]:=by
 have hR0:=hR
 obtain⟨a,b,c,v,rfl,_,_,_,hc⟩:=hR
 obtain⟨l1,l2,l3,l4,_⟩:=msState_all hl
 refine ret_dr ir_i_rowCells (Nat.le_of_ble_eq_true rfl) ?_
 have H:=((Hp.refl σ).new 1 [a,b,c,v]).nil_Cell
 simp +contextual (disch:=omega) only[go_sem,F_i_rowCells,ld_new,ld_new2,seg_full (cs:=[a,b,c,v]) rfl]
 obtain⟨r1,τ1,R1,K1⟩:=i_RowDots_ret _ _ s (kState.pre hR0 H.sub) o hl
 obtain⟨T,hT1,hT2,hT3,hT4⟩:=rowT s o
 rw[hT1] at K1
 rw[hT2]
 refine by_hp R1 K1 ?_
 have H:=H.add K1
 simp only[List.cons_append,List.nil_append] at H
 have hlen0:=(H.sl 0 rfl).len
 rw[List.length_map] at hlen0
 simp +contextual (disch:=omega) only[go_sem,hlen0]
 generalize hn1:σ.length=n1 at*
 refine vc_forJ T.length 14 (fun i env τ=>env 2= .ptr n1 0∧env 12=r1∧env 13=gi T.length∧∃ u,env 5=u∧Hp σ τ [ow pCell.kd u ((T.take i).filter goneNot),ow pDot.kd r1 (T.map fun x:Cell=>x.dot),pt 1 n1 [a,b,c,v]]) rfl ⟨rfl,rfl,rfl,_,rfl,H.pick 1 rfl⟩ ?_ ?_
 ·clear H
  rintro J hJ i env τ hi e14 c0 ⟨e2,e12,e13,u,e5,H⟩
  have hfl:=filter_take_len T goneNot i
  have hsn:=gone_snoc hi
  have C1:=Dot_at (H.sl 1 rfl) (i:=i) (by simpa using hi)
  rw[List.getElem_map] at C1
  obtain⟨k,hk,hk1,hk2⟩:=hT4 T[i] (List.getElem_mem hi)
  have G:=H.grow (pre1 τ (some (Blk.row 1 [gi T[i].dot.rep,gi T[i].dot.seq])))
  have CA:=i_CellAt_ret _ _ s (kState.pre hR0 G.sub) T[i].dot hl
  rw[hk1] at CA
  have C2:=Cell_at (hc.pre G.sub) hk
  rw[hk2] at C2
  simp +contextual (disch:=omega) only[go_sem,c0,e2,e5,e12,e13,e14,C1,ld_ptr (G.pt 2 rfl),seg_full (cs:=[a,b,c,v]) rfl]
  refine by_ret CA ?_
  cases hg:T[i].gone with
  |true=>
   have hk0:goneNot T[i]=false:=by simp[goneNot,hg]
   rw[hk0,if_neg (by simp)] at hsn
   have G2:=G.grow (pre1 _ (some (Blk.row 1 [.str T[i].obj,gi T[i].dot.rep,gi T[i].dot.seq,gi T[i].time,gi T[i].ref.rep,gi T[i].ref.seq,gi T[i].val,.bool true])))
   simp +contextual (disch:=omega) only[go_sem,c0,e2,e5,e12,e13,e14,natOf_nat,C2,hg]
   refine hJ _ _ _ ⟨?_,?_,?_,u,?_,by rw[hsn];exact G2⟩
   all_goals simp +contextual (disch:=omega) only[go_sem,e2,e5,e12,e13,e14]
  |false=>
   have hk0:goneNot T[i]=true:=by simp[goneNot,hg]
   rw[hk0,if_pos rfl] at hsn
   have G2:=G.grow (pre1 _ (some (Blk.row 1 [.str T[i].obj,gi T[i].dot.rep,gi T[i].dot.seq,gi T[i].time,gi T[i].ref.rep,gi T[i].ref.seq,gi T[i].val,.bool false])))
   obtain⟨w',τ3,e8,H3⟩:=G2.app_Cell 0 rfl T[i] (by omega)
   simp only[hg] at e8
   simp +contextual (disch:=omega) only[go_sem,c0,e2,e5,e12,e13,e14,natOf_nat,C2,hg,e8]
   refine hJ _ _ _ ⟨?_,?_,?_,w',?_,by rw[hsn];exact H3⟩
   all_goals simp +contextual (disch:=omega) only[go_sem,e2,e5,e12,e13,e14]
 ·clear H
  rintro env τ e14 c0 ⟨e2,e12,e13,u,e5,H⟩
  rw[List.take_length] at H
  simp +contextual (disch:=omega) only[go_sem,c0,e2,e5,e12,e13,e14]
  exact⟨_,rfl,H.one⟩
end Go.Proofs.YtffnefmklckngaaGreat.Sy
namespace Go.Proofs.YtffnefmklckngaaGreat.Sy
open Go Go.RowKit
set_option linter.unusedSimpArgs false
set_option linter.unusedVariables false
set_option maxRecDepth 4000
abbrev n_s_EditOk:Nat:=138
def F_s_EditOk:Fn1:=⟨34,[.t 2],(.seq (.reg [o 1 (.box (.t 0)),o 2 (.mov (.k (.bool false)))]) (.seq (.reg [o 4 (.fad 0 (.t 1)),o 5 (.ld false 1 (.t 4)),o 6 (.bin .eql (.t 5) (.k (.int .i64 6))),o 7 (.mov (.t 6)),og 8 7 false (.fad 0 (.t 1)),og 9 7 false (.ld false 1 (.t 8)),og 10 7 false (.bin .eql (.t 9) (.k (.int .i64 7))),o 11 (.pick (.t 7) (.k (.bool true)) (.t 10)),o 3 (.mov (.t 11))]) (.seq (.reg [o 12 (.fad 0 (.t 1)),o 13 (.ld false 1 (.t 12)),o 14 (.fad 1 (.t 1)),o 15 (.ld false 1 (.t 14)),o 16 (.fad 2 (.t 1)),o 17 (.ld false 1 (.t 16)),o 18 (.fad 3 (.t 1)),o 19 (.ld false 1 (.t 18)),o 20 (.call 168 [(.t 13),(.t 15),(.t 17),(.t 19)]),o 21 (.mov (.t 20)),og 22 21 true (.fad 4 (.t 1)),og 23 21 true (.ld false 1 (.t 22)),og 24 21 true (.bin .geq (.t 23) (.k (.int .i64 0))),o 25 (.pick (.t 21) (.t 24) (.k (.bool false))),o 26 (.mov (.t 25)),og 27 26 true (.mov (.t 3)),og 28 26 true (.mov (.t 27)),og 29 28 false (.fad 4 (.t 1)),og 30 28 false (.ld false 1 (.t 29)),og 31 28 false (.bin .eql (.t 30) (.k (.int .i64 0))),og 32 26 true (.pick (.t 28) (.k (.bool true)) (.t 31)),o 33 (.pick (.t 26) (.t 32) (.k (.bool false))),o 2 (.mov (.t 33))]) .ret)))⟩
theorem ir_s_EditOk:compFn Tryz.prog n_s_EditOk=some F_s_EditOk:=by kernel_rfl
abbrev n_i_EditOk:Nat:=147
def F_i_EditOk:Fn1:=⟨32,[.t 2],(.seq (.reg [o 1 (.box (.t 0)),o 2 (.mov (.k (.bool false)))]) (.seq (.reg [o 3 (.fad 0 (.t 1)),o 4 (.ld false 1 (.t 3)),o 5 (.fad 1 (.t 1)),o 6 (.ld false 1 (.t 5)),o 7 (.fad 2 (.t 1)),o 8 (.ld false 1 (.t 7)),o 9 (.fad 3 (.t 1)),o 10 (.ld false 1 (.t 9)),o 11 (.call 177 [(.t 4),(.t 6),(.t 8),(.t 10)]),o 12 (.mov (.t 11)),og 13 12 true (.fad 4 (.t 1)),og 14 12 true (.ld false 1 (.t 13)),og 15 12 true (.bin .eql (.t 14) (.k (.int .i64 0))),og 16 12 true (.mov (.t 15)),og 17 16 false (.fad 4 (.t 1)),og 18 16 false (.ld false 1 (.t 17)),og 19 16 false (.bin .gtr (.t 18) (.k (.int .i64 0))),og 20 16 false (.mov (.t 19)),og 21 20 true (.fad 0 (.t 1)),og 22 20 true (.ld false 1 (.t 21)),og 23 20 true (.bin .eql (.t 22) (.k (.int .i64 6))),og 24 20 true (.mov (.t 23)),og 25 24 false (.fad 0 (.t 1)),og 26 24 false (.ld false 1 (.t 25)),og 27 24 false (.bin .eql (.t 26) (.k (.int .i64 7))),og 28 20 true (.pick (.t 24) (.k (.bool true)) (.t 27)),og 29 16 false (.pick (.t 20) (.t 28) (.k (.bool false))),og 30 12 true (.pick (.t 16) (.k (.bool true)) (.t 29)),o 31 (.pick (.t 12) (.t 30) (.k (.bool false))),o 2 (.mov (.t 31))]) .ret))⟩
theorem ir_i_EditOk:compFn Tryz.prog n_i_EditOk=some F_i_EditOk:=by kernel_rfl
abbrev n_s_PlaceIn:Nat:=140
def F_s_PlaceIn:Fn1:=⟨42,[.c 6 true 2,.t 7],(.seq (.reg [o 3 (.box (.t 0)),o 6 (.new [(.int .i64 0),(.int .i64 0)]),o 7 (.mov (.k (.bool false)))]) (.seq (.seq (.reg [o 10 (.ld true 4 (.t 3)),o 11 (.call 125 [(.t 10)]),o 12 (.un .not (.t 11)),o 13 (.mov (.t 12)),og 14 13 false (.mov (.t 2)),og 15 13 false (.bin .lss (.t 14) (.k (.int .i64 0))),o 16 (.pick (.t 13) (.k (.bool true)) (.t 15))]) (.cnd (.t 16) (.seq (.reg [o 17 (.build [(.int .i64 0),(.int .i64 0)] []),on (.st 2 (.t 6) (.t 17)),o 7 (.mov (.k (.bool false)))]) .ret) .skip)) (.seq (.reg [o 18 (.ld true 4 (.t 3)),o 19 (.mov (.t 1)),o 20 (.call 126 [(.t 18),(.t 19)]),o 8 (.mov (.t 20))]) (.seq (.seq (.reg [o 9 (.mov (.k (.int .i64 0)))]) (.blk 0 (.lop (.seq (.seq (.reg [o 21 (.mov (.t 9)),o 22 (.mov (.t 8)),o 23 (.len false (.t 22)),o 24 (.bin .lss (.t 21) (.t 23))]) (.cnd (.t 24) .skip (.ext 0))) (.seq (.blk 1 (.seq (.seq (.reg [o 27 (.mov (.t 8)),o 28 (.mov (.t 9)),o 29 (.iad 8 (.t 27) (.t 28)),o 30 (.fad 7 (.t 29)),o 31 (.ld false 1 (.t 30))]) (.cnd (.t 31) (.ext 1) .skip)) (.seq (.seq (.reg [o 32 (.mov (.t 2)),o 33 (.bin .eql (.t 32) (.k (.int .i64 0)))]) (.cnd (.t 33) (.seq (.reg [o 34 (.mov (.t 8)),o 35 (.mov (.t 9)),o 36 (.iad 8 (.t 34) (.t 35)),o 37 (.fad 1 (.t 36)),o 38 (.ld true 2 (.t 37)),on (.st 2 (.t 6) (.t 38)),o 7 (.mov (.k (.bool true)))]) .ret) .skip)) (.reg [o 39 (.mov (.t 2)),o 40 (.bin .sub (.t 39) (.k (.int .i64 1))),o 2 (.mov (.t 40))])))) (.reg [o 25 (.mov (.t 9)),o 26 (.bin .add (.t 25) (.k (.int .i64 1))),o 9 (.mov (.t 26))])))))) (.seq (.reg [o 41 (.build [(.int .i64 0),(.int .i64 0)] []),on (.st 2 (.t 6) (.t 41)),o 7 (.mov (.k (.bool false)))]) .ret)))))⟩
theorem ir_s_PlaceIn:compFn Tryz.prog n_s_PlaceIn=some F_s_PlaceIn:=by kernel_rfl
abbrev n_i_PlaceIn:Nat:=149
def F_i_PlaceIn:Fn1:=⟨24,[.c 6 true 2,.t 7],(.seq (.reg [o 3 (.box (.t 0)),o 6 (.new [(.int .i64 0),(.int .i64 0)]),o 7 (.mov (.k (.bool false)))]) (.seq (.reg [o 9 (.ld true 4 (.t 3)),o 10 (.mov (.t 1)),o 11 (.call 134 [(.t 9),(.t 10)]),o 8 (.mov (.t 11))]) (.seq (.seq (.reg [o 12 (.mov (.t 2)),o 13 (.mov (.t 8)),o 14 (.len false (.t 13)),o 15 (.bin .sub (.t 14) (.k (.int .i64 1))),o 16 (.call 148 [(.t 12),(.k (.int .i64 0)),(.t 15)]),o 17 (.un .not (.t 16))]) (.cnd (.t 17) (.seq (.reg [o 18 (.build [(.int .i64 0),(.int .i64 0)] []),on (.st 2 (.t 6) (.t 18)),o 7 (.mov (.k (.bool false)))]) .ret) .skip)) (.seq (.reg [o 19 (.mov (.t 8)),o 20 (.mov (.t 2)),o 21 (.iad 8 (.t 19) (.t 20)),o 22 (.fad 1 (.t 21)),o 23 (.ld true 2 (.t 22)),on (.st 2 (.t 6) (.t 23)),o 7 (.mov (.k (.bool true)))]) .ret))))⟩
theorem ir_i_PlaceIn:compFn Tryz.prog n_i_PlaceIn=some F_i_PlaceIn:=by kernel_rfl
def editOk (e:Edit):Bool:=plainOk e.kind e.obj e.key e.val&&(decide (0≤e.place)&&((e.kind==6||e.kind==7)||e.place==0))
theorem s_EditOk_ret (σ:St) (e:Edit) (ho:e.obj.size≤1099511627776) (hk:e.key.size≤1099511627776):Ret Tryz.prog n_s_EditOk [.agg [gi e.kind,.str e.obj,.str e.key,gi e.val,gi e.place]] σ (.bool (editOk e)) σ:=by
 refine ret_eq ir_s_EditOk (Nat.le_of_ble_eq_true rfl) trivial ?_
 cases h6:(e.kind==6) with
 |true=>
  simp +contextual (disch:=omega) only[go_sem,F_s_EditOk,h6]
  refine by_bool (s_Plain_ret _ _ _ _ _ ho hk) (fun h1=> ?_) (fun h1=> ?_)
  ·cases h2:decide (0≤e.place) with
   |true=>simp +contextual (disch:=omega) only[go_sem,h2,editOk,h1,h6,Bool.true_or,Bool.and_true]
   |false=>simp +contextual (disch:=omega) only[go_sem,h2,editOk,h1,h6,Bool.false_and,Bool.and_false]
  ·simp +contextual (disch:=omega) only[go_sem,editOk,h1,Bool.false_and]
 |false=>
  cases h7:(e.kind==7) with
  |true=>
   simp +contextual (disch:=omega) only[go_sem,F_s_EditOk,h6,h7]
   refine by_bool (s_Plain_ret _ _ _ _ _ ho hk) (fun h1=> ?_) (fun h1=> ?_)
   ·cases h2:decide (0≤e.place) with
    |true=>simp +contextual (disch:=omega) only[go_sem,h2,editOk,h1,h6,h7,Bool.true_or,Bool.false_or,Bool.and_true]
    |false=>simp +contextual (disch:=omega) only[go_sem,h2,editOk,h1,h6,Bool.false_and,Bool.and_false]
   ·simp +contextual (disch:=omega) only[go_sem,editOk,h1,Bool.false_and]
  |false=>
   simp +contextual (disch:=omega) only[go_sem,F_s_EditOk,h6,h7]
   refine by_bool (s_Plain_ret _ _ _ _ _ ho hk) (fun h1=> ?_) (fun h1=> ?_)
   ·cases h2:decide (0≤e.place) with
    |true=>simp +contextual (disch:=omega) only[go_sem,h2,editOk,h1,h6,h7,Bool.true_or,Bool.false_or,Bool.true_and,Bool.and_true]
    |false=>simp +contextual (disch:=omega) only[go_sem,h2,editOk,h1,h6,Bool.false_and,Bool.and_false]
   ·simp +contextual (disch:=omega) only[go_sem,editOk,h1,Bool.false_and]
def placeIn (s:State) (o:ByteArray) (i:Int):Dot×Bool:=if h:0≤i∧i.toNat<(rowL s o).length then((rowL s o)[i.toNat].dot,true) else(⟨0,0⟩,false)
set_option maxHeartbeats 2000000 in
theorem i_PlaceIn_ret (σ:St) (cs:List GV) (s:State) (hR:kState.R σ s cs) (o:ByteArray) (i:Int) (hl:msState s≤1099511627776):Ret Tryz.prog n_i_PlaceIn [.agg cs,.str o,gi i] σ (.tup [.agg [gi (placeIn s o i).1.rep,gi (placeIn s o i).1.seq],.bool (placeIn s o i).2]) σ:=by
 have hlen:cs.length=4:=kState.len hR
 refine ret_eq ir_i_PlaceIn (Nat.le_of_ble_eq_true rfl) (by simp[vLt,cLt,sLt]) ?_
 have H:=((Hp.refl σ).new 1 cs).new 1 [gi 0,gi 0]
 have z0:=H.pt 1 rfl
 simp +contextual (disch:=omega) only[go_sem,F_i_PlaceIn,ld_new2,seg_full hlen]
 obtain⟨r1,τ1,R1,K1⟩:=i_rowCells_ret _ cs s (kState.pre hR H.sub) o hl
 refine by_hp R1 K1 ?_
 have H:=H.add K1
 simp only[List.cons_append,List.nil_append] at H
 have hb:=rowL_len s o
 have hln:=(H.sl 0 rfl).len
 generalize hn2:(σ++[some (Blk.row 1 cs)]).length=n2 at*
 simp +contextual (disch:=omega) only[go_sem,hln]
 refine by_bool (i_within_ret _ i 0 (((rowL s o).length:Int) - 1)) (fun h1=> ?_) (fun h1=> ?_)
 ·have h2:=inB_iff.1 h1
  have hlt:i.toNat<(rowL s o).length:=by omega
  have hpl:placeIn s o i=((rowL s o)[i.toNat].dot,true):=by unfold placeIn;rw[dif_pos ⟨h2.1,hlt⟩]
  obtain⟨k,hk⟩:∃ k:Nat,i=(k:Int):=⟨i.toNat,by omega⟩
  have hkl:k<(rowL s o).length:=by omega
  have hpl:placeIn s o i=((rowL s o)[k].dot,true):=by rw[hpl];subst hk;rfl
  have C1:=Cell_at (H.sl 0 rfl) hkl
  have nk:natOf (some (.int .i64 i))=some k:=by rw[hk];exact natOf_nat
  obtain⟨τ2,s2,H2,_⟩:=H.st 1 rfl 2 0 (.agg [gi (rowL s o)[k].dot.rep,gi (rowL s o)[k].dot.seq]) rfl (by decide) (by simp)
  have z2:rdB τ2 n2=some [gi (rowL s o)[k].dot.rep,gi (rowL s o)[k].dot.seq]:=H2.pt 1 rfl
  simp +contextual (disch:=omega) only[go_sem,nk,C1,s2,ld_ptr z2,seg_full (cs:=[gi (rowL s o)[k].dot.rep,gi (rowL s o)[k].dot.seq]) rfl,hpl,H2.sub]
 ·have hpl:placeIn s o i=(⟨0,0⟩,false):=by
   unfold placeIn
   rw[dif_neg]
   rintro⟨h3,h4⟩
   have:inB i 0 (((rowL s o).length:Int) - 1)=true:=inB_iff.2 ⟨h3,by omega⟩
   rw[this] at h1;cases h1
  obtain⟨τ2,s2,H2,_⟩:=H.st 1 rfl 2 0 (.agg [gi 0,gi 0]) rfl (by decide) (by simp)
  have z2:rdB τ2 n2=some [gi 0,gi 0]:=H2.pt 1 rfl
  simp +contextual (disch:=omega) only[go_sem,s2,ld_ptr z2,seg_full (cs:=[gi 0,gi 0]) rfl,hpl,H2.sub]
theorem i_EditOk_ret (σ:St) (e:Edit) (ho:e.obj.size≤1099511627776) (hk:e.key.size≤1099511627776):Ret Tryz.prog n_i_EditOk [.agg [gi e.kind,.str e.obj,.str e.key,gi e.val,gi e.place]] σ (.bool (editOk e)) σ:=by
 refine ret_eq ir_i_EditOk (Nat.le_of_ble_eq_true rfl) trivial ?_
 simp +contextual (disch:=omega) only[go_sem,F_i_EditOk]
 refine by_bool (i_wordsOk_ret _ _ _ _ _ ho hk) (fun h1=> ?_) (fun h1=> ?_)
 ·rcases Int.lt_trichotomy e.place 0 with hp|hp|hp
  ·have z:(e.place==0)=false:=by simp;omega
   have g:decide (0<e.place)=false:=decide_eq_false (by omega)
   have g2:decide (0≤e.place)=false:=decide_eq_false (by omega)
   simp +contextual (disch:=omega) only[go_sem,z,g,editOk,h1,g2,Bool.false_and,Bool.and_false]
  ·have z:(e.place==0)=true:=by simp[hp]
   have g2:decide (0≤e.place)=true:=decide_eq_true (by omega)
   simp +contextual (disch:=omega) only[go_sem,z,editOk,h1,g2,Bool.or_true,Bool.and_true]
  ·have z:(e.place==0)=false:=by simp;omega
   have g:decide (0<e.place)=true:=decide_eq_true (by omega)
   have g2:decide (0≤e.place)=true:=decide_eq_true (by omega)
   cases h6:(e.kind==6) with
   |true=>simp +contextual (disch:=omega) only[go_sem,z,g,h6,editOk,h1,g2,Bool.true_or,Bool.and_true]
   |false=>
    cases h7:(e.kind==7) with
    |true=>simp +contextual (disch:=omega) only[go_sem,z,g,h6,h7,editOk,h1,g2,Bool.true_or,Bool.false_or,Bool.and_true]
    |false=>simp +contextual (disch:=omega) only[go_sem,z,g,h6,h7,editOk,h1,g2,Bool.false_or,Bool.and_false]
 ·simp +contextual (disch:=omega) only[go_sem,editOk,h1,Bool.false_and]
theorem flt_at {α:Type} {l:List α} {p:α→Bool} {k:Nat} (hk:k<l.length) (hp:p l[k]=true):∃ h:((l.take k).filter p).length<(l.filter p).length,(l.filter p)[((l.take k).filter p).length]=l[k]:=by
 have e:l.filter p=(l.take k).filter p++l[k]::(l.drop (k+1)).filter p:=by
  have h1:l=l.take k++l[k]::l.drop (k+1):=by rw[← List.drop_eq_getElem_cons hk,List.take_append_drop]
  have h2:l.filter p=(l.take k++l[k]::l.drop (k+1)).filter p:=congrArg _ h1
  rw[h2,List.filter_append,List.filter_cons_of_pos hp]
 refine⟨by rw[e];simp,?_⟩
 simp[e]
set_option maxHeartbeats 2000000 in
theorem s_PlaceIn_ret (σ:St) (cs:List GV) (s:State) (hR:kState.R σ s cs) (o:ByteArray) (i:Int) (hl:msState s≤1099511627776) (hi6:i≤9223372036854775807):Ret Tryz.prog n_s_PlaceIn [.agg cs,.str o,gi i] σ (.tup [.agg [gi (placeIn s o i).1.rep,gi (placeIn s o i).1.seq],.bool (placeIn s o i).2]) σ:=by
 have hlen:cs.length=4:=kState.len hR
 refine ret_eq ir_s_PlaceIn (Nat.le_of_ble_eq_true rfl) (by simp[vLt,cLt,sLt]) ?_
 have H:=((Hp.refl σ).new 1 cs).new 1 [gi 0,gi 0]
 simp +contextual (disch:=omega) only[go_sem,F_s_PlaceIn,ld_new2,seg_full hlen]
 generalize hn2:(σ++[some (Blk.row 1 cs)]).length=n2 at*
 have hno:¬ (0≤i∧i.toNat<(rowL s o).length)→placeIn s o i=(⟨0,0⟩,false):=fun h=>by unfold placeIn;rw[dif_neg h]
 refine by_bool (s_StateOk_ret _ _ s (kState.pre hR H.sub) hl) (fun hok=> ?_) (fun hok=> ?_)
 rotate_left
 ·have hpl:=hno (by simp[rowL,hok])
  obtain⟨τ2,s2,H2,_⟩:=H.st 0 rfl 2 0 (.agg [gi 0,gi 0]) rfl (by decide) (by simp)
  have z2:rdB τ2 n2=some [gi 0,gi 0]:=H2.pt 0 rfl
  simp +contextual (disch:=omega) only[go_sem,s2,ld_ptr z2,seg_full (cs:=[gi 0,gi 0]) rfl,hpl,H2.sub]
 by_cases hi:i<0
 ·have hpl:=hno (by omega)
  have ci:decide (i<0)=true:=decide_eq_true hi
  obtain⟨τ2,s2,H2,_⟩:=H.st 0 rfl 2 0 (.agg [gi 0,gi 0]) rfl (by decide) (by simp)
  have z2:rdB τ2 n2=some [gi 0,gi 0]:=H2.pt 0 rfl
  simp +contextual (disch:=omega) only[go_sem,ci,s2,ld_ptr z2,seg_full (cs:=[gi 0,gi 0]) rfl,hpl,H2.sub]
 have ci:decide (i<0)=false:=decide_eq_false hi
 obtain⟨m,rfl⟩:∃ m:Nat,i=(m:Int):=⟨i.toNat,by omega⟩
 have hrl:rowL s o=(rowC s o).filter goneNot:=by simp only[rowL,hok,if_true];rfl
 have hrb:=rowC_len (celR_of hok) o
 simp +contextual (disch:=omega) only[go_sem,ci,ld_ptr (H.pt 1 rfl),seg_full hlen]
 obtain⟨r1,τ1,R1,K1⟩:=s_l08Row_ret _ cs s (kState.pre hR H.sub) o hok hl
 refine by_hp R1 K1 ?_
 have H:=H.add K1
 simp only[List.cons_append,List.nil_append] at H
 rw[hrl] at hno
 have hyes:∀ h:m<((rowC s o).filter goneNot).length,placeIn s o m=(((rowC s o).filter goneNot)[m].dot,true):=fun h=>by
  unfold placeIn
  rw[dif_pos ⟨by omega,by rw[hrl];simpa using h⟩]
  simp only[hrl,Int.toNat_natCast]
 generalize hT:rowC s o=T at*
 simp +contextual (disch:=omega) only[go_sem]
 have H:Hp σ τ1 [ow pCell.kd r1 T,pt 1 n2 [gi 0,gi 0]]:=(((H.pick 2 rfl).drop1))
 refine vc_forR T.length 9 0 (fun k env τ=>env 2=gi ((m:Int) - (((T.take k).filter goneNot).length:Nat))∧((T.take k).filter goneNot).length≤m∧env 6= .ptr n2 0∧env 8=r1∧Hp σ τ [ow pCell.kd r1 T,pt 1 n2 [gi 0,gi 0]]) (fun env τ=>env 6= .ptr n2 0∧placeIn s o m=(⟨0,0⟩,false)∧Hp σ τ [pt 1 n2 [gi 0,gi 0]]) (fun env τ=>env 6= .ptr n2 0∧env 7= .bool true∧(placeIn s o m).2=true∧Hp σ τ [pt 1 n2 [gi (placeIn s o m).1.rep,gi (placeIn s o m).1.seq]]) rfl ⟨by simp +contextual (disch:=omega) only[go_sem,List.take_zero,List.filter_nil,List.length_nil,Int.natCast_zero,Int.sub_zero],Nat.zero_le _,rfl,rfl,H⟩ ?_ ?_ ?_ ?_
 ·clear H
  rintro J Y W hJ hY hW k env τ hk e9 c0 ⟨e2,hc,e6,e8,H⟩
  have C1:=Cell_at (H.sl 0 rfl) hk
  have hln:=(H.sl 0 rfl).len
  have hsn:=gone_snoc hk
  generalize hcc:((T.take k).filter goneNot).length=c at*
  cases hg:T[k].gone with
  |true=>
   have hk0:goneNot T[k]=false:=by simp[goneNot,hg]
   rw[hk0,if_neg (by simp)] at hsn
   simp +contextual (disch:=omega) only[go_sem,c0,e2,e6,e8,e9,hln,C1,hg]
   refine hJ _ _ _ ⟨?_,by rw[hsn,hcc];exact hc,?_,?_,H⟩
   all_goals simp +contextual (disch:=omega) only[go_sem,e2,e6,e8,hsn,hcc]
  |false=>
   have hk0:goneNot T[k]=true:=by simp[goneNot,hg]
   obtain⟨hf1,hf2⟩:=flt_at hk hk0
   rw[hk0,if_pos rfl] at hsn
   by_cases hm:c=m
   ·have z:((m:Int) - c==0)=true:=by simp;omega
    have hlt:m<(T.filter goneNot).length:=by omega
    have hpl:=hyes hlt
    have hix:(T.filter goneNot)[m]=T[k]:=by
     have:((T.take k).filter goneNot).length=m:=by omega
     rw[← hf2];congr 1;exact this.symm
    rw[hix] at hpl
    obtain⟨τ2,s2,H2,_⟩:=H.st 1 rfl 2 0 (.agg [gi T[k].dot.rep,gi T[k].dot.seq]) rfl (by decide) (by simp)
    have H2:Hp σ τ2 [ow pCell.kd r1 T,pt 1 n2 [gi T[k].dot.rep,gi T[k].dot.seq]]:=H2
    simp +contextual (disch:=omega) only[go_sem,c0,e2,e6,e8,e9,hln,C1,hg,z,s2]
    refine hW _ _ ⟨?_,?_,by rw[hpl],by rw[hpl];exact H2.drop1⟩
    all_goals simp +contextual (disch:=omega) only[go_sem,e6]
   ·have z:((m:Int) - c==0)=false:=by simp;omega
    have hl1:((T.take (k+1)).filter goneNot).length=c+1:=by rw[hsn];simp[hcc]
    have hI:(m:Int) - c - 1=(m:Int) - ((c:Int)+1):=by omega
    simp +contextual (disch:=omega) only[go_sem,c0,e2,e6,e8,e9,hln,C1,hg,z]
    refine hJ _ _ _ ⟨?_,by rw[hl1];omega,?_,?_,H⟩
    all_goals simp +contextual (disch:=omega) only[go_sem,e2,e6,e8,hl1,hI]
 ·clear H
  rintro Y hY env τ e9 c0 ⟨e2,hc,e6,e8,H⟩
  rw[List.take_length] at hc
  have hln:=(H.sl 0 rfl).len
  simp +contextual (disch:=omega) only[go_sem,c0,e2,e6,e8,e9,hln]
  refine hY _ _ ⟨?_,hno (by simp;omega),H.drop1⟩
  simp +contextual (disch:=omega) only[go_sem,e6]
 ·clear H
  rintro env τ ⟨e6,hpl,H⟩
  obtain⟨τ2,s2,H2,_⟩:=H.st 0 rfl 2 0 (.agg [gi 0,gi 0]) rfl (by decide) (by simp)
  have z2:rdB τ2 n2=some [gi 0,gi 0]:=H2.pt 0 rfl
  simp +contextual (disch:=omega) only[go_sem,e6,s2,ld_ptr z2,seg_full (cs:=[gi 0,gi 0]) rfl,hpl,H2.sub]
 ·clear H
  rintro env τ ⟨e6,e7,h2,H⟩
  simp +contextual (disch:=omega) only[go_sem,e6,e7,ld_ptr (H.pt 0 rfl),seg_full (cs:=[gi (placeIn s o m).1.rep,gi (placeIn s o m).1.seq]) rfl,h2,H.sub]
end Go.Proofs.YtffnefmklckngaaGreat.Sy
namespace Go.Proofs.YtffnefmklckngaaGreat.Sy
open Go Go.RowKit
set_option linter.unusedSimpArgs false
set_option linter.unusedVariables false
set_option maxRecDepth 4000
abbrev n_s_ActOf:Nat:=90
def F_s_ActOf:Fn1:=⟨98,[.c 8 true 10,.t 9],(.seq (.reg [o 4 (.box (.t 0)),o 7 (.box (.t 3)),o 8 (.new [(.int .i64 0),(.int .i64 0),(.int .i64 0),.nilS,(.int .i64 0),(.str ⟨#[]⟩),(.str ⟨#[]⟩),(.int .i64 0),(.int .i64 0),(.int .i64 0)]),o 9 (.mov (.k (.int .i64 0)))]) (.seq (.seq (.reg [o 12 (.ld true 4 (.t 4)),o 13 (.call 125 [(.t 12)]),o 14 (.un .not (.t 13)),o 15 (.mov (.t 14)),og 16 15 false (.ld true 5 (.t 7)),og 17 15 false (.call 138 [(.t 16)]),og 18 15 false (.un .not (.t 17)),o 19 (.pick (.t 15) (.k (.bool true)) (.t 18)),o 20 (.mov (.t 19)),og 21 20 false (.mov (.t 1)),og 22 20 false (.call 139 [(.t 21),(.k (.int .i64 0)),(.k (.int .i64 2))]),og 23 20 false (.un .not (.t 22)),o 24 (.pick (.t 20) (.k (.bool true)) (.t 23)),o 25 (.mov (.t 24)),og 26 25 false (.mov (.t 2)),og 27 25 false (.call 139 [(.t 26),(.k (.int .i64 1)),(.k (.int .i64 10000))]),og 28 25 false (.un .not (.t 27)),o 29 (.pick (.t 25) (.k (.bool true)) (.t 28))]) (.cnd (.t 29) (.seq (.reg [o 30 (.build [(.int .i64 0),(.int .i64 0),(.int .i64 0),.nilS,(.int .i64 0),(.str ⟨#[]⟩),(.str ⟨#[]⟩),(.int .i64 0),(.int .i64 0),(.int .i64 0)] []),on (.st 10 (.t 8) (.t 30)),o 9 (.mov (.k (.int .i64 3)))]) .ret) .skip)) (.seq (.drw [o 31 (.mov (.t 1)),o 32 (.fad 0 (.t 4)),o 33 (.ld false 1 (.t 32)),o 34 (.mov (.t 1)),o 35 (.iad 1 (.t 33) (.t 34)),o 36 (.ld false 1 (.t 35)),o 37 (.bin .add (.t 36) (.k (.int .i64 1))),o 38 (.build [(.int .i64 0),(.int .i64 0)] [(0,1,(.t 31)),(1,1,(.t 37))]),o 39 (.mov (.t 2)),o 40 (.lit 1 0 [] []),o 41 (.fad 0 (.t 4)),o 42 (.ld false 1 (.t 41)),o 43 (.app 1 8 [(.int .i64 0)] (.t 40) (.t 42)),o 44 (.fad 0 (.t 7)),o 45 (.ld false 1 (.t 44)),o 46 (.fad 1 (.t 7)),o 47 (.ld false 1 (.t 46)),o 48 (.fad 2 (.t 7)),o 49 (.ld false 1 (.t 48)),o 50 (.fad 3 (.t 7)),o 51 (.ld false 1 (.t 50)),o 52 (.build [(.int .i64 0),(.int .i64 0),(.int .i64 0),.nilS,(.int .i64 0),(.str ⟨#[]⟩),(.str ⟨#[]⟩),(.int .i64 0),(.int .i64 0),(.int .i64 0)] [(0,2,(.t 38)),(2,1,(.t 39)),(3,1,(.t 43)),(4,1,(.t 45)),(5,1,(.t 47)),(6,1,(.t 49)),(7,1,(.t 51))]),o 10 (.new [(.int .i64 0),(.int .i64 0),(.int .i64 0),.nilS,(.int .i64 0),(.str ⟨#[]⟩),(.str ⟨#[]⟩),(.int .i64 0),(.int .i64 0),(.int .i64 0)])] [on (.st 10 (.t 10) (.t 52))]) (.seq (.reg [o 11 (.mov (.k (.bool true)))]) (.seq (.seq (.reg [o 53 (.fad 0 (.t 7)),o 54 (.ld false 1 (.t 53)),o 55 (.bin .eql (.t 54) (.k (.int .i64 7)))]) (.cnd (.t 55) (.reg [o 57 (.ld true 4 (.t 4)),o 58 (.fad 1 (.t 7)),o 59 (.ld false 1 (.t 58)),o 60 (.fad 4 (.t 7)),o 61 (.ld false 1 (.t 60)),o 62 (.call 140 [(.t 57),(.t 59),(.t 61)]),o 56 (.mov (.t 62)),o 63 (.ext 0 (.t 56)),o 64 (.ext 1 (.t 56)),o 65 (.fad 8 (.t 10)),on (.st 2 (.t 65) (.t 63)),o 11 (.mov (.t 64))]) .skip)) (.seq (.seq (.reg [o 66 (.fad 0 (.t 7)),o 67 (.ld false 1 (.t 66)),o 68 (.bin .eql (.t 67) (.k (.int .i64 6))),o 69 (.mov (.t 68)),og 70 69 true (.fad 4 (.t 7)),og 71 69 true (.ld false 1 (.t 70)),og 72 69 true (.bin .gtr (.t 71) (.k (.int .i64 0))),o 73 (.pick (.t 69) (.t 72) (.k (.bool false)))]) (.cnd (.t 73) (.reg [o 75 (.ld true 4 (.t 4)),o 76 (.fad 1 (.t 7)),o 77 (.ld false 1 (.t 76)),o 78 (.fad 4 (.t 7)),o 79 (.ld false 1 (.t 78)),o 80 (.bin .sub (.t 79) (.k (.int .i64 1))),o 81 (.call 140 [(.t 75),(.t 77),(.t 80)]),o 74 (.mov (.t 81)),o 82 (.ext 0 (.t 74)),o 83 (.ext 1 (.t 74)),o 84 (.fad 8 (.t 10)),on (.st 2 (.t 84) (.t 82)),o 11 (.mov (.t 83))]) .skip)) (.seq (.seq (.reg [o 85 (.fad 0 (.t 10)),o 86 (.ld true 2 (.t 85)),o 87 (.call 141 [(.t 86)]),o 88 (.un .not (.t 87))]) (.cnd (.t 88) (.seq (.reg [o 89 (.build [(.int .i64 0),(.int .i64 0),(.int .i64 0),.nilS,(.int .i64 0),(.str ⟨#[]⟩),(.str ⟨#[]⟩),(.int .i64 0),(.int .i64 0),(.int .i64 0)] []),on (.st 10 (.t 8) (.t 89)),o 9 (.mov (.k (.int .i64 3)))]) .ret) .skip)) (.seq (.seq (.reg [o 90 (.mov (.t 11)),o 91 (.un .not (.t 90))]) (.cnd (.t 91) (.seq (.reg [o 92 (.build [(.int .i64 0),(.int .i64 0),(.int .i64 0),.nilS,(.int .i64 0),(.str ⟨#[]⟩),(.str ⟨#[]⟩),(.int .i64 0),(.int .i64 0),(.int .i64 0)] []),on (.st 10 (.t 8) (.t 92)),o 9 (.mov (.k (.int .i64 5)))]) .ret) .skip)) (.seq (.seq (.reg [o 93 (.ld true 10 (.t 10)),o 94 (.call 105 [(.t 93)]),o 95 (.un .not (.t 94))]) (.cnd (.t 95) (.seq (.reg [o 96 (.build [(.int .i64 0),(.int .i64 0),(.int .i64 0),.nilS,(.int .i64 0),(.str ⟨#[]⟩),(.str ⟨#[]⟩),(.int .i64 0),(.int .i64 0),(.int .i64 0)] []),on (.st 10 (.t 8) (.t 96)),o 9 (.mov (.k (.int .i64 3)))]) .ret) .skip)) (.seq (.reg [o 97 (.ld true 10 (.t 10)),on (.st 10 (.t 8) (.t 97)),o 9 (.mov (.k (.int .i64 0)))]) .ret))))))))))⟩
theorem ir_s_ActOf:compFn Tryz.prog n_s_ActOf=some F_s_ActOf:=by kernel_rfl
def placeOf (s:State) (e:Edit):Dot×Bool:=if e.kind=7 then placeIn s e.obj e.place else if e.kind=6∧0<e.place then placeIn s e.obj (e.place - 1) else(d0,true)
def act0:Act:=⟨d0,0,[],0,⟨#[]⟩,⟨#[]⟩,0,d0⟩
def actWith (s:State) (rep time:Int) (e:Edit) (d:Dot):Act:=⟨⟨rep,at0 s.know rep+1⟩,time,s.know,e.kind,e.obj,e.key,e.val,d⟩
def actRaw (s:State) (rep time:Int) (e:Edit):Act:=actWith s rep time e (placeOf s e).1
abbrev awV (s:State) (rep time:Int) (e:Edit) (kv:GV) (d:Dot):List GV:=[gi rep,gi (at0 s.know rep+1),gi time,kv,gi e.kind,.str e.obj,.str e.key,gi e.val,gi d.rep,gi d.seq]
def actOf (s:State) (rep time:Int) (e:Edit):Act×Int:=
 if stateOk s&&(editOk e&&(inB rep 0 2&&inB time 1 10000)) then
  if dotOk ⟨rep,at0 s.know rep+1⟩ then
   if(placeOf s e).2 then
    if actOk (actRaw s rep time e) then(actRaw s rep time e,0) else(act0,3)
   else(act0,5)
  else(act0,3)
 else(act0,3)
abbrev edV (e:Edit):List GV:=[gi e.kind,.str e.obj,.str e.key,gi e.val,gi e.place]
abbrev zeV:List GV:=[gi 0,gi 0,gi 0,GV.nilS,gi 0,.str ⟨#[]⟩,.str ⟨#[]⟩,gi 0,gi 0,gi 0]
theorem own0 {σ τ:St} {rs:List Thg} (H:Hp σ τ rs):Hp σ τ [own kAct zeV act0]:=Hp.one (Hp.ownAct (x:=act0) (Hp.nilS H))
theorem know_at {s:State} (hok:stateOk s=true) {rep:Int} (h:inB rep 0 2=true):∃ r:Nat,rep=(r:Int)∧∃ h:r<s.know.length,at0 s.know rep=s.know[r]∧0≤s.know[r]∧s.know[r]≤1000:=by
 have h2:=inB_iff.1 h
 have hk:okK s.know=true:=by simp only[stateOk,Bool.and_eq_true] at hok;exact hok.1
 have hl:=okK_len hk
 obtain⟨r,rfl⟩:∃ r:Nat,rep=(r:Int):=⟨rep.toNat,by omega⟩
 have hr:r<s.know.length:=by omega
 refine⟨r,rfl,hr,?_,?_⟩
 ·simp[at0,hr]
 ·have:=(List.all_eq_true.1 (by simp only[okK,Bool.and_eq_true] at hk;exact hk.1)) _ (List.getElem_mem hr)
  simpa [seqB,inB] using this
set_option maxHeartbeats 4000000 in
theorem s_ActOf_ret (σ:St) (cs:List GV) (s:State) (hR:kState.R σ s cs) (rep time:Int) (e:Edit) (hl:msState s≤1099511627776) (ho:e.obj.size≤1099511627776) (hk:e.key.size≤1099511627776) (hp:e.place≤9223372036854775807) (hm:s.know.length+e.obj.size+e.key.size≤1099511627776):∃ ds τ,Ret Tryz.prog n_s_ActOf [.agg cs,gi rep,gi time,.agg (edV e)] σ (.tup [.agg ds,gi (actOf s rep time e).2]) τ∧Hp σ τ [own kAct ds (actOf s rep time e).1]:=by
 have hR0:=hR
 obtain⟨a1,b1,c1,v1,rfl,hkn,hb,hc,hv⟩:=hR
 obtain⟨l1,l2,l3,l4,_⟩:=msState_all hl
 have key:∃ q τ,Ret Tryz.prog n_s_ActOf [.agg [a1,b1,c1,v1],gi rep,gi time,.agg (edV e)] σ q τ∧∃ ds,q= .tup [.agg ds,gi (actOf s rep time e).2]∧Hp σ τ [own kAct ds (actOf s rep time e).1]:=by
  refine ret_dr ir_s_ActOf (Nat.le_of_ble_eq_true rfl) ?_
  have H:=(((Hp.refl σ).new 1 [a1,b1,c1,v1]).new 1 (edV e)).new 1 zeV
  simp only[F_s_ActOf]
  obtain⟨n3,hn3⟩:∃ n,n=(σ++[some (Blk.row 1 [a1,b1,c1,v1])]++[some (Blk.row 1 (edV e))]).length:=⟨_,rfl⟩
  obtain⟨n2,hn2⟩:∃ n,n=(σ++[some (Blk.row 1 [a1,b1,c1,v1])]).length:=⟨_,rfl⟩
  obtain⟨n1,hn1⟩:∃ n,n=σ.length:=⟨_,rfl⟩
  rw[← hn3,←hn2,←hn1] at H
  refine vc_seqX (fun env τ=>env 1=gi rep∧env 2=gi time∧env 4= .ptr n1 0∧env 7= .ptr n2 0∧env 8= .ptr n3 0∧Hp σ τ [pt 1 n3 zeV,pt 1 n2 (edV e),pt 1 n1 [a1,b1,c1,v1]]) (fun Y hY=>by
   simp +contextual (disch:=omega) only[go_sem]
   refine hY _ _ ⟨?_,?_,?_,?_,?_,H⟩
   all_goals simp +contextual (disch:=omega) only[go_sem,hn1,hn2,hn3]) ?_
  clear H
  rintro env τ ⟨e1,e2,e4,e7,e8,H⟩
  have bad:∀ c,actOf s rep time e=(act0,c)→∃ τr,stG 10 τ (.ptr n3 0) (.agg zeV)=some (.tup [],τr)∧ldG true 10 τr (.ptr n3 0)=some (.agg zeV)∧∃ ds,(GV.tup [.agg zeV,gi c])= .tup [.agg ds,gi (actOf s rep time e).2]∧Hp σ τr [own kAct ds (actOf s rep time e).1]:=fun c hc=>by
   obtain⟨τr,sr,Hr,_⟩:=H.st 0 rfl 10 0 (.agg zeV) rfl (by decide) (by simp)
   have zr:rdB τr n3=some zeV:=Hr.pt 0 rfl
   refine⟨τr,sr,?_,zeV,by rw[hc],by rw[hc];exact own0 Hr⟩
   simp +contextual (disch:=omega) only[go_sem,ld_ptr zr,seg_full (cs:=zeV) rfl]
  refine vc_seqX (fun env τ'=>env 1=gi rep∧env 2=gi time∧env 4= .ptr n1 0∧env 7= .ptr n2 0∧env 8= .ptr n3 0∧τ=τ'∧(stateOk s&&(editOk e&&(inB rep 0 2&&inB time 1 10000)))=true) (fun Y hY=>by
   simp +contextual (disch:=omega) only[go_sem,e1,e2,e4,e7,e8,ld_ptr (H.pt 2 rfl),seg_full (cs:=[a1,b1,c1,v1]) rfl]
   refine by_bool (s_StateOk_ret _ _ s (kState.pre hR0 H.sub) hl) (fun h1=> ?_) (fun h1=> ?_)
   rotate_left
   ·obtain⟨τr,q1,q2,q3⟩:=bad 3 (by simp[actOf,h1])
    simp +contextual (disch:=omega) only[go_sem,e1,e2,e4,e7,e8,q1,q2]
    exact⟨_,rfl,q3⟩
   simp +contextual (disch:=omega) only[go_sem,e1,e2,e4,e7,e8,ld_ptr (H.pt 1 rfl),seg_full (cs:=edV e) rfl]
   refine by_bool (s_EditOk_ret _ e ho hk) (fun h2=> ?_) (fun h2=> ?_)
   rotate_left
   ·obtain⟨τr,q1,q2,q3⟩:=bad 3 (by simp[actOf,h1,h2])
    simp +contextual (disch:=omega) only[go_sem,e1,e2,e4,e7,e8,q1,q2]
    exact⟨_,rfl,q3⟩
   simp +contextual (disch:=omega) only[go_sem,e1,e2,e4,e7,e8]
   refine by_bool (s_l01In_ret _ rep 0 2) (fun h3=> ?_) (fun h3=> ?_)
   rotate_left
   ·obtain⟨τr,q1,q2,q3⟩:=bad 3 (by simp[actOf,h1,h2,h3])
    simp +contextual (disch:=omega) only[go_sem,e1,e2,e4,e7,e8,q1,q2]
    exact⟨_,rfl,q3⟩
   simp +contextual (disch:=omega) only[go_sem,e1,e2,e4,e7,e8]
   refine by_bool (s_l01In_ret _ time 1 10000) (fun h4=> ?_) (fun h4=> ?_)
   rotate_left
   ·obtain⟨τr,q1,q2,q3⟩:=bad 3 (by simp[actOf,h1,h2,h3,h4])
    simp +contextual (disch:=omega) only[go_sem,e1,e2,e4,e7,e8,q1,q2]
    exact⟨_,rfl,q3⟩
   simp +contextual (disch:=omega) only[go_sem,e1,e2,e4,e7,e8]
   refine hY _ _ ⟨?_,?_,?_,?_,?_,rfl,by simp[h1,h2,h3,h4]⟩
   all_goals simp +contextual (disch:=omega) only[go_sem,e1,e2,e4,e7,e8]) ?_
  clear e1 e2 e4 e7 e8
  rintro env τ' ⟨e1,e2,e4,e7,e8,rfl,hh⟩
  have hh0:=hh
  simp only[Bool.and_eq_true] at hh
  obtain⟨r,hr,hrl,hat,hr0,hr1⟩:=know_at hh.1 hh.2.2.1
  have A1:=int_at (hkn.pre H.sub) hrl
  have n0:natOf (some (.int .i64 rep))=some r:=by rw[hr];exact natOf_nat
  refine vc_seqX (fun env τ=>∃ n10 kv,env 1=gi rep∧env 2=gi time∧env 4= .ptr n1 0∧env 7= .ptr n2 0∧env 8= .ptr n3 0∧env 10= .ptr n10 0∧Hp σ τ [pt 1 n10 (awV s rep time e kv d0),ow pI.kd kv s.know,pt 1 n3 zeV,pt 1 n2 (edV e),pt 1 n1 [a1,b1,c1,v1]]) (fun Y hY=>by
   have z1:=rdB_app (H.pt 2 rfl) [some (Blk.row 1 [])]
   obtain⟨kv,τk,ek,qk,Hk⟩:=H.cp_int (hkn.pre H.sub) l1
   have ck:=(Hk.sl 0 rfl).cell
   have Hn:=(Hk.new 1 (awV s rep time e kv d0))
   simp +contextual (disch:=omega) only[go_sem,e1,e2,e4,e7,e8,ld_ptr (H.pt 2 rfl),ld_ptr (H.pt 1 rfl),ld_ptr z1,ld_ptr (Hk.pt 2 rfl),n0,A1,ek,qk,ck,←hat]
   refine hY _ _ ⟨τk.length,kv,?_,?_,?_,?_,?_,?_,Hn⟩
   all_goals simp +contextual (disch:=omega) only[go_sem,e1,e2,e4,e7,e8]) ?_
  clear H e1 e2 e4 e7 e8 bad A1
  rintro env τ ⟨n10,kv,e1,e2,e4,e7,e8,e10,H⟩
  refine vc_seqX (fun env τ'=>τ=τ'∧env 1=gi rep∧env 2=gi time∧env 4= .ptr n1 0∧env 7= .ptr n2 0∧env 8= .ptr n3 0∧env 10= .ptr n10 0∧env 11= .bool true) (fun Y hY=>by
   simp +contextual (disch:=omega) only[go_sem,e1,e2,e4,e7,e8,e10]
   refine hY _ _ ⟨rfl,?_,?_,?_,?_,?_,?_,?_⟩
   all_goals simp +contextual (disch:=omega) only[go_sem,e1,e2,e4,e7,e8,e10]) ?_
  clear e1 e2 e4 e7 e8 e10
  rintro env τ' ⟨rfl,e1,e2,e4,e7,e8,e10,e11⟩
  refine vc_seqX (fun env τ=>env 4= .ptr n1 0∧env 7= .ptr n2 0∧env 8= .ptr n3 0∧env 10= .ptr n10 0∧env 11= .bool (if e.kind=7 then placeIn s e.obj e.place else(d0,true)).2∧Hp σ τ [pt 1 n10 (awV s rep time e kv (if e.kind=7 then placeIn s e.obj e.place else(d0,true)).1),ow pI.kd kv s.know,pt 1 n3 zeV,pt 1 n2 (edV e),pt 1 n1 [a1,b1,c1,v1]]) (fun Y hY=>by
   by_cases k7:e.kind=7
   ·have b7:(e.kind==7)=true:=by simp[k7]
    simp only[if_pos k7] at hY
    have PR:=s_PlaceIn_ret τ _ s (kState.pre hR0 H.sub) e.obj e.place hl hp
    obtain⟨τ2,st2,H2,_⟩:=H.st 0 rfl 2 8 (.agg [gi (placeIn s e.obj e.place).1.rep,gi (placeIn s e.obj e.place).1.seq]) rfl (by decide) (by simp)
    simp +contextual (disch:=omega) only[go_sem,e4,e7,e8,e10,b7,ld_ptr (H.pt 3 rfl),ld_ptr (H.pt 4 rfl),seg_full (cs:=[a1,b1,c1,v1]) rfl]
    refine by_ret PR ?_
    simp +contextual (disch:=omega) only[go_sem,e4,e7,e8,e10,st2]
    refine hY _ _ ⟨?_,?_,?_,?_,?_,H2⟩
    all_goals simp +contextual (disch:=omega) only[go_sem,e4,e7,e8,e10]
   ·have b7:(e.kind==7)=false:=by simp[k7]
    simp only[if_neg k7] at hY
    simp +contextual (disch:=omega) only[go_sem,e4,e7,e8,e10,e11,b7,ld_ptr (H.pt 3 rfl)]
    refine hY _ _ ⟨?_,?_,?_,?_,?_,H⟩
    all_goals simp +contextual (disch:=omega) only[go_sem,e4,e7,e8,e10,e11]) ?_
  clear H e1 e2 e4 e7 e8 e10 e11
  rintro env τ ⟨e4,e7,e8,e10,e11,H⟩
  refine vc_seqX (fun env τ=>env 4= .ptr n1 0∧env 7= .ptr n2 0∧env 8= .ptr n3 0∧env 10= .ptr n10 0∧env 11= .bool (placeOf s e).2∧Hp σ τ [pt 1 n10 (awV s rep time e kv (placeOf s e).1),ow pI.kd kv s.know,pt 1 n3 zeV,pt 1 n2 (edV e),pt 1 n1 [a1,b1,c1,v1]]) (fun Y hY=>by
   by_cases k7:e.kind=7
   ·have b6:(e.kind==6)=false:=by simp[k7]
    have hq:placeOf s e=placeIn s e.obj e.place:=if_pos k7
    rw[if_pos k7] at H e11
    simp +contextual (disch:=omega) only[go_sem,e4,e7,e8,e10,e11,b6,ld_ptr (H.pt 3 rfl)]
    refine hY _ _ ⟨?_,?_,?_,?_,?_,by rw[hq];exact H⟩
    all_goals simp +contextual (disch:=omega) only[go_sem,e4,e7,e8,e10,e11,hq]
   rw[if_neg k7] at H e11
   by_cases k6:e.kind=6
   ·have b6:(e.kind==6)=true:=by simp[k6]
    by_cases kp:0<e.place
    ·have bp:decide (0<e.place)=true:=decide_eq_true kp
     have hq:placeOf s e=placeIn s e.obj (e.place - 1):=by unfold placeOf;rw[if_neg k7,if_pos ⟨k6,kp⟩]
     have PR:=s_PlaceIn_ret τ _ s (kState.pre hR0 H.sub) e.obj (e.place - 1) hl (by omega)
     obtain⟨τ2,st2,H2,_⟩:=H.st 0 rfl 2 8 (.agg [gi (placeIn s e.obj (e.place - 1)).1.rep,gi (placeIn s e.obj (e.place - 1)).1.seq]) rfl (by decide) (by simp)
     simp +contextual (disch:=omega) only[go_sem,e4,e7,e8,e10,b6,bp,ld_ptr (H.pt 3 rfl),ld_ptr (H.pt 4 rfl),seg_full (cs:=[a1,b1,c1,v1]) rfl]
     refine by_ret PR ?_
     simp +contextual (disch:=omega) only[go_sem,e4,e7,e8,e10,st2]
     refine hY _ _ ⟨?_,?_,?_,?_,?_,by rw[hq];exact H2⟩
     all_goals simp +contextual (disch:=omega) only[go_sem,e4,e7,e8,e10,hq]
    ·have bp:decide (0<e.place)=false:=decide_eq_false kp
     have hq:placeOf s e=(d0,true):=by unfold placeOf;rw[if_neg k7,if_neg (fun h=>kp h.2)]
     simp +contextual (disch:=omega) only[go_sem,e4,e7,e8,e10,e11,b6,bp,ld_ptr (H.pt 3 rfl)]
     refine hY _ _ ⟨?_,?_,?_,?_,?_,by rw[hq];exact H⟩
     all_goals simp +contextual (disch:=omega) only[go_sem,e4,e7,e8,e10,e11,hq]
   ·have b6:(e.kind==6)=false:=by simp[k6]
    have hq:placeOf s e=(d0,true):=by unfold placeOf;rw[if_neg k7,if_neg (fun h=>k6 h.1)]
    simp +contextual (disch:=omega) only[go_sem,e4,e7,e8,e10,e11,b6,ld_ptr (H.pt 3 rfl)]
    refine hY _ _ ⟨?_,?_,?_,?_,?_,by rw[hq];exact H⟩
    all_goals simp +contextual (disch:=omega) only[go_sem,e4,e7,e8,e10,e11,hq]) ?_
  clear H e4 e7 e8 e10 e11
  rintro env τ ⟨e4,e7,e8,e10,e11,H⟩
  have bad:∀ c,actOf s rep time e=(act0,c)→∃ τr,stG 10 τ (.ptr n3 0) (.agg zeV)=some (.tup [],τr)∧ldG true 10 τr (.ptr n3 0)=some (.agg zeV)∧∃ ds,(GV.tup [.agg zeV,gi c])= .tup [.agg ds,gi (actOf s rep time e).2]∧Hp σ τr [own kAct ds (actOf s rep time e).1]:=fun c hc=>by
   obtain⟨τr,sr,Hr,_⟩:=H.st 2 rfl 10 0 (.agg zeV) rfl (by decide) (by simp)
   have zr:rdB τr n3=some zeV:=Hr.pt 2 rfl
   refine⟨τr,sr,?_,zeV,by rw[hc],by rw[hc];exact own0 Hr⟩
   simp +contextual (disch:=omega) only[go_sem,ld_ptr zr,seg_full (cs:=zeV) rfl]
  simp +contextual (disch:=omega) only[go_sem,e4,e7,e8,e10,e11,ld_ptr (H.pt 0 rfl)]
  refine by_bool (s_DotOk_ret τ ⟨rep,at0 s.know rep+1⟩) (fun h5=> ?_) (fun h5=> ?_)
  rotate_left
  ·obtain⟨τr,q1,q2,q3⟩:=bad 3 (by unfold actOf;rw[if_pos hh0,if_neg (by simp[h5])])
   simp +contextual (disch:=omega) only[go_sem,e4,e7,e8,e10,e11,q1,q2]
   exact⟨_,rfl,q3⟩
  cases h6:(placeOf s e).2 with
  |false=>
   rw[h6] at e11
   obtain⟨τr,q1,q2,q3⟩:=bad 5 (by unfold actOf;rw[if_pos hh0,if_pos h5,if_neg (by simp[h6])])
   simp +contextual (disch:=omega) only[go_sem,e4,e7,e8,e10,e11,q1,q2]
   exact⟨_,rfl,q3⟩
  |true=>
   rw[h6] at e11
   simp +contextual (disch:=omega) only[go_sem,e4,e7,e8,e10,e11,ld_ptr (H.pt 0 rfl),seg_full (cs:=awV s rep time e kv (placeOf s e).1) rfl]
   refine by_bool (s_ActOk_ret τ (awV s rep time e kv (placeOf s e).1) (actRaw s rep time e) ⟨kv,rfl,H.sl 1 rfl⟩ (by unfold msAct;exact hm)) (fun h7=> ?_) (fun h7=> ?_)
   rotate_left
   ·obtain⟨τr,q1,q2,q3⟩:=bad 3 (by unfold actOf;rw[if_pos hh0,if_pos h5,if_pos h6,if_neg (by simp[h7])])
    simp +contextual (disch:=omega) only[go_sem,e4,e7,e8,e10,e11,q1,q2]
    exact⟨_,rfl,q3⟩
   have hd:actOf s rep time e=(actRaw s rep time e,0):=by unfold actOf;rw[if_pos hh0,if_pos h5,if_pos h6,if_pos h7]
   obtain⟨τr,sr,Hr,_⟩:=H.st 2 rfl 10 0 (.agg (awV s rep time e kv (placeOf s e).1)) rfl (by decide) (by simp)
   have zr:rdB τr n3=some (awV s rep time e kv (placeOf s e).1):=Hr.pt 2 rfl
   simp +contextual (disch:=omega) only[go_sem,e4,e7,e8,e10,e11,ld_ptr (H.pt 0 rfl),sr,ld_ptr zr,seg_full (cs:=awV s rep time e kv (placeOf s e).1) rfl]
   exact⟨_,rfl,_,by rw[hd],by rw[hd];exact((Hr.pick 1 rfl).ownAct (x:=actRaw s rep time e)).one⟩
 obtain⟨q,τ,R,ds,rfl,h⟩:=key
 exact⟨ds,τ,R,h⟩
end Go.Proofs.YtffnefmklckngaaGreat.Sy
namespace Go.Proofs.YtffnefmklckngaaGreat.Sy
open Go Go.RowKit
set_option linter.unusedSimpArgs false
set_option linter.unusedVariables false
set_option maxRecDepth 4000
abbrev n_i_ActOf:Nat:=94
def F_i_ActOf:Fn1:=⟨102,[.c 8 true 10,.t 9],(.seq (.reg [o 4 (.box (.t 0)),o 7 (.box (.t 3)),o 8 (.new [(.int .i64 0),(.int .i64 0),(.int .i64 0),.nilS,(.int .i64 0),(.str ⟨#[]⟩),(.str ⟨#[]⟩),(.int .i64 0),(.int .i64 0),(.int .i64 0)]),o 9 (.mov (.k (.int .i64 0)))]) (.seq (.seq (.reg [o 12 (.ld true 4 (.t 4)),o 13 (.call 146 [(.t 12)]),o 14 (.un .not (.t 13)),o 15 (.mov (.t 14)),og 16 15 false (.ld true 5 (.t 7)),og 17 15 false (.call 147 [(.t 16)]),og 18 15 false (.un .not (.t 17)),o 19 (.pick (.t 15) (.k (.bool true)) (.t 18)),o 20 (.mov (.t 19)),og 21 20 false (.mov (.t 1)),og 22 20 false (.call 148 [(.t 21),(.k (.int .i64 0)),(.k (.int .i64 2))]),og 23 20 false (.un .not (.t 22)),o 24 (.pick (.t 20) (.k (.bool true)) (.t 23)),o 25 (.mov (.t 24)),og 26 25 false (.mov (.t 2)),og 27 25 false (.call 148 [(.t 26),(.k (.int .i64 1)),(.k (.int .i64 10000))]),og 28 25 false (.un .not (.t 27)),o 29 (.pick (.t 25) (.k (.bool true)) (.t 28)),o 30 (.mov (.t 29)),og 31 30 false (.fad 0 (.t 4)),og 32 30 false (.ld false 1 (.t 31)),og 33 30 false (.mov (.t 1)),og 34 30 false (.iad 1 (.t 32) (.t 33)),og 35 30 false (.ld false 1 (.t 34)),og 36 30 false (.bin .geq (.t 35) (.k (.int .i64 1000))),o 37 (.pick (.t 30) (.k (.bool true)) (.t 36))]) (.cnd (.t 37) (.seq (.reg [o 38 (.build [(.int .i64 0),(.int .i64 0),(.int .i64 0),.nilS,(.int .i64 0),(.str ⟨#[]⟩),(.str ⟨#[]⟩),(.int .i64 0),(.int .i64 0),(.int .i64 0)] []),on (.st 10 (.t 8) (.t 38)),o 9 (.mov (.k (.int .i64 3)))]) .ret) .skip)) (.seq (.drw [o 39 (.mov (.t 1)),o 40 (.fad 0 (.t 4)),o 41 (.ld false 1 (.t 40)),o 42 (.mov (.t 1)),o 43 (.iad 1 (.t 41) (.t 42)),o 44 (.ld false 1 (.t 43)),o 45 (.bin .add (.t 44) (.k (.int .i64 1))),o 46 (.build [(.int .i64 0),(.int .i64 0)] [(0,1,(.t 39)),(1,1,(.t 45))]),o 47 (.mov (.t 2)),o 48 (.fad 0 (.t 4)),o 49 (.ld false 1 (.t 48)),o 50 (.call 113 [(.t 49)]),o 51 (.fad 0 (.t 7)),o 52 (.ld false 1 (.t 51)),o 53 (.fad 1 (.t 7)),o 54 (.ld false 1 (.t 53)),o 55 (.fad 2 (.t 7)),o 56 (.ld false 1 (.t 55)),o 57 (.fad 3 (.t 7)),o 58 (.ld false 1 (.t 57)),o 59 (.build [(.int .i64 0),(.int .i64 0),(.int .i64 0),.nilS,(.int .i64 0),(.str ⟨#[]⟩),(.str ⟨#[]⟩),(.int .i64 0),(.int .i64 0),(.int .i64 0)] [(0,2,(.t 46)),(2,1,(.t 47)),(3,1,(.t 50)),(4,1,(.t 52)),(5,1,(.t 54)),(6,1,(.t 56)),(7,1,(.t 58))]),o 10 (.new [(.int .i64 0),(.int .i64 0),(.int .i64 0),.nilS,(.int .i64 0),(.str ⟨#[]⟩),(.str ⟨#[]⟩),(.int .i64 0),(.int .i64 0),(.int .i64 0)])] [on (.st 10 (.t 10) (.t 59))]) (.seq (.reg [o 11 (.mov (.k (.bool true)))]) (.seq (.blk 0 (.seq (.reg [o 61 (.fad 0 (.t 7)),o 62 (.ld false 1 (.t 61)),o 63 (.bin .eql (.t 62) (.k (.int .i64 6))),o 64 (.mov (.t 63)),og 65 64 true (.fad 4 (.t 7)),og 66 64 true (.ld false 1 (.t 65)),og 67 64 true (.bin .gtr (.t 66) (.k (.int .i64 0))),o 68 (.pick (.t 64) (.t 67) (.k (.bool false))),o 60 (.mov (.t 68))]) (.cnd (.t 60) (.reg [o 70 (.ld true 4 (.t 4)),o 71 (.fad 1 (.t 7)),o 72 (.ld false 1 (.t 71)),o 73 (.fad 4 (.t 7)),o 74 (.ld false 1 (.t 73)),o 75 (.bin .sub (.t 74) (.k (.int .i64 1))),o 76 (.call 149 [(.t 70),(.t 72),(.t 75)]),o 69 (.mov (.t 76)),o 77 (.ext 0 (.t 69)),o 78 (.ext 1 (.t 69)),o 79 (.fad 8 (.t 10)),on (.st 2 (.t 79) (.t 77)),o 11 (.mov (.t 78))]) (.seq (.reg [o 81 (.fad 0 (.t 7)),o 82 (.ld false 1 (.t 81)),o 83 (.bin .eql (.t 82) (.k (.int .i64 7))),o 80 (.mov (.t 83))]) (.cnd (.t 80) (.reg [o 85 (.ld true 4 (.t 4)),o 86 (.fad 1 (.t 7)),o 87 (.ld false 1 (.t 86)),o 88 (.fad 4 (.t 7)),o 89 (.ld false 1 (.t 88)),o 90 (.call 149 [(.t 85),(.t 87),(.t 89)]),o 84 (.mov (.t 90)),o 91 (.ext 0 (.t 84)),o 92 (.ext 1 (.t 84)),o 93 (.fad 8 (.t 10)),on (.st 2 (.t 93) (.t 91)),o 11 (.mov (.t 92))]) .skip))))) (.seq (.seq (.reg [o 94 (.mov (.t 11)),o 95 (.un .not (.t 94))]) (.cnd (.t 95) (.seq (.reg [o 96 (.build [(.int .i64 0),(.int .i64 0),(.int .i64 0),.nilS,(.int .i64 0),(.str ⟨#[]⟩),(.str ⟨#[]⟩),(.int .i64 0),(.int .i64 0),(.int .i64 0)] []),on (.st 10 (.t 8) (.t 96)),o 9 (.mov (.k (.int .i64 5)))]) .ret) .skip)) (.seq (.seq (.reg [o 97 (.ld true 10 (.t 10)),o 98 (.call 111 [(.t 97)]),o 99 (.un .not (.t 98))]) (.cnd (.t 99) (.seq (.reg [o 100 (.build [(.int .i64 0),(.int .i64 0),(.int .i64 0),.nilS,(.int .i64 0),(.str ⟨#[]⟩),(.str ⟨#[]⟩),(.int .i64 0),(.int .i64 0),(.int .i64 0)] []),on (.st 10 (.t 8) (.t 100)),o 9 (.mov (.k (.int .i64 3)))]) .ret) .skip)) (.seq (.reg [o 101 (.ld true 10 (.t 10)),on (.st 10 (.t 8) (.t 101)),o 9 (.mov (.k (.int .i64 0)))]) .ret))))))))⟩
theorem ir_i_ActOf:compFn Tryz.prog n_i_ActOf=some F_i_ActOf:=by kernel_rfl
set_option maxHeartbeats 4000000 in
theorem i_ActOf_ret (σ:St) (cs:List GV) (s:State) (hR:kState.R σ s cs) (rep time:Int) (e:Edit) (hl:msState s≤1099511627776) (ho:e.obj.size≤1099511627776) (hk:e.key.size≤1099511627776) (hp:e.place≤9223372036854775807) (hm:s.know.length+e.obj.size+e.key.size≤1099511627776):∃ ds τ,Ret Tryz.prog n_i_ActOf [.agg cs,gi rep,gi time,.agg (edV e)] σ (.tup [.agg ds,gi (actOf s rep time e).2]) τ∧Hp σ τ [own kAct ds (actOf s rep time e).1]:=by
 have hR0:=hR
 obtain⟨a1,b1,c1,v1,rfl,hkn,hb,hc,hv⟩:=hR
 obtain⟨l1,l2,l3,l4,_⟩:=msState_all hl
 have key:∃ q τ,Ret Tryz.prog n_i_ActOf [.agg [a1,b1,c1,v1],gi rep,gi time,.agg (edV e)] σ q τ∧∃ ds,q= .tup [.agg ds,gi (actOf s rep time e).2]∧Hp σ τ [own kAct ds (actOf s rep time e).1]:=by
  refine ret_dr ir_i_ActOf (Nat.le_of_ble_eq_true rfl) ?_
  have H:=(((Hp.refl σ).new 1 [a1,b1,c1,v1]).new 1 (edV e)).new 1 zeV
  simp only[F_i_ActOf]
  obtain⟨n3,hn3⟩:∃ n,n=(σ++[some (Blk.row 1 [a1,b1,c1,v1])]++[some (Blk.row 1 (edV e))]).length:=⟨_,rfl⟩
  obtain⟨n2,hn2⟩:∃ n,n=(σ++[some (Blk.row 1 [a1,b1,c1,v1])]).length:=⟨_,rfl⟩
  obtain⟨n1,hn1⟩:∃ n,n=σ.length:=⟨_,rfl⟩
  rw[← hn3,←hn2,←hn1] at H
  refine vc_seqX (fun env τ=>env 1=gi rep∧env 2=gi time∧env 4= .ptr n1 0∧env 7= .ptr n2 0∧env 8= .ptr n3 0∧Hp σ τ [pt 1 n3 zeV,pt 1 n2 (edV e),pt 1 n1 [a1,b1,c1,v1]]) (fun Y hY=>by
   simp +contextual (disch:=omega) only[go_sem]
   refine hY _ _ ⟨?_,?_,?_,?_,?_,H⟩
   all_goals simp +contextual (disch:=omega) only[go_sem,hn1,hn2,hn3]) ?_
  clear H
  rintro env τ ⟨e1,e2,e4,e7,e8,H⟩
  have bad:∀ c,actOf s rep time e=(act0,c)→∃ τr,stG 10 τ (.ptr n3 0) (.agg zeV)=some (.tup [],τr)∧ldG true 10 τr (.ptr n3 0)=some (.agg zeV)∧∃ ds,(GV.tup [.agg zeV,gi c])= .tup [.agg ds,gi (actOf s rep time e).2]∧Hp σ τr [own kAct ds (actOf s rep time e).1]:=fun c hc=>by
   obtain⟨τr,sr,Hr,_⟩:=H.st 0 rfl 10 0 (.agg zeV) rfl (by decide) (by simp)
   have zr:rdB τr n3=some zeV:=Hr.pt 0 rfl
   refine⟨τr,sr,?_,zeV,by rw[hc],by rw[hc];exact own0 Hr⟩
   simp +contextual (disch:=omega) only[go_sem,ld_ptr zr,seg_full (cs:=zeV) rfl]
  refine vc_seqX (fun env τ'=>env 1=gi rep∧env 2=gi time∧env 4= .ptr n1 0∧env 7= .ptr n2 0∧env 8= .ptr n3 0∧τ=τ'∧(stateOk s&&(editOk e&&(inB rep 0 2&&inB time 1 10000)))=true∧dotOk ⟨rep,at0 s.know rep+1⟩=true) (fun Y hY=>by
   simp +contextual (disch:=omega) only[go_sem,e1,e2,e4,e7,e8,ld_ptr (H.pt 2 rfl),seg_full (cs:=[a1,b1,c1,v1]) rfl]
   refine by_bool (i_StateOk_ret _ _ s (kState.pre hR0 H.sub) hl) (fun h1=> ?_) (fun h1=> ?_)
   rotate_left
   ·obtain⟨τr,q1,q2,q3⟩:=bad 3 (by simp[actOf,h1])
    simp +contextual (disch:=omega) only[go_sem,e1,e2,e4,e7,e8,q1,q2]
    exact⟨_,rfl,q3⟩
   simp +contextual (disch:=omega) only[go_sem,e1,e2,e4,e7,e8,ld_ptr (H.pt 1 rfl),seg_full (cs:=edV e) rfl]
   refine by_bool (i_EditOk_ret _ e ho hk) (fun h2=> ?_) (fun h2=> ?_)
   rotate_left
   ·obtain⟨τr,q1,q2,q3⟩:=bad 3 (by simp[actOf,h1,h2])
    simp +contextual (disch:=omega) only[go_sem,e1,e2,e4,e7,e8,q1,q2]
    exact⟨_,rfl,q3⟩
   simp +contextual (disch:=omega) only[go_sem,e1,e2,e4,e7,e8]
   refine by_bool (i_within_ret _ rep 0 2) (fun h3=> ?_) (fun h3=> ?_)
   rotate_left
   ·obtain⟨τr,q1,q2,q3⟩:=bad 3 (by simp[actOf,h1,h2,h3])
    simp +contextual (disch:=omega) only[go_sem,e1,e2,e4,e7,e8,q1,q2]
    exact⟨_,rfl,q3⟩
   simp +contextual (disch:=omega) only[go_sem,e1,e2,e4,e7,e8]
   refine by_bool (i_within_ret _ time 1 10000) (fun h4=> ?_) (fun h4=> ?_)
   rotate_left
   ·obtain⟨τr,q1,q2,q3⟩:=bad 3 (by simp[actOf,h1,h2,h3,h4])
    simp +contextual (disch:=omega) only[go_sem,e1,e2,e4,e7,e8,q1,q2]
    exact⟨_,rfl,q3⟩
   obtain⟨r,hr,hrl,hat,hr0,hr1⟩:=know_at h1 h3
   have A1:=int_at (hkn.pre H.sub) hrl
   have n0:natOf (some (.int .i64 rep))=some r:=by rw[hr];exact natOf_nat
   cases h5:decide (1000≤s.know[r]) with
   |true=>
    have h6:=of_decide_eq_true h5
    have hno:dotOk ⟨rep,at0 s.know rep+1⟩=false:=by
     cases hx:dotOk ⟨rep,at0 s.know rep+1⟩ with
     |false=>rfl
     |true=>have:=dotOk_iff.1 hx;simp only[hat] at this;omega
    obtain⟨τr,q1,q2,q3⟩:=bad 3 (by simp[actOf,h1,h2,h3,h4,hno])
    simp +contextual (disch:=omega) only[go_sem,e1,e2,e4,e7,e8,ld_ptr (H.pt 2 rfl),n0,A1,h5,q1,q2]
    exact⟨_,rfl,q3⟩
   |false=>
   have h6:=of_decide_eq_false h5
   have hyes:dotOk ⟨rep,at0 s.know rep+1⟩=true:=dotOk_iff.2 (by have:=inB_iff.1 h3;simp only[hat];omega)
   simp +contextual (disch:=omega) only[go_sem,e1,e2,e4,e7,e8,ld_ptr (H.pt 2 rfl),n0,A1,h5]
   refine hY _ _ ⟨?_,?_,?_,?_,?_,rfl,by simp[h1,h2,h3,h4],hyes⟩
   all_goals simp +contextual (disch:=omega) only[go_sem,e1,e2,e4,e7,e8]) ?_
  clear e1 e2 e4 e7 e8
  rintro env τ' ⟨e1,e2,e4,e7,e8,rfl,hh,h5⟩
  have hh0:=hh
  simp only[Bool.and_eq_true] at hh
  obtain⟨r,hr,hrl,hat,hr0,hr1⟩:=know_at hh.1 hh.2.2.1
  have A1:=int_at (hkn.pre H.sub) hrl
  have n0:natOf (some (.int .i64 rep))=some r:=by rw[hr];exact natOf_nat
  refine vc_seqX (fun env τ=>∃ n10 kv,env 1=gi rep∧env 2=gi time∧env 4= .ptr n1 0∧env 7= .ptr n2 0∧env 8= .ptr n3 0∧env 10= .ptr n10 0∧Hp σ τ [pt 1 n10 (awV s rep time e kv d0),ow pI.kd kv s.know,pt 1 n3 zeV,pt 1 n2 (edV e),pt 1 n1 [a1,b1,c1,v1]]) (fun Y hY=>by
   obtain⟨kv,τk,Rk,Kk⟩:=i_copyInts_ret τ a1 s.know (hkn.pre H.sub) l1
   have Hk:=H.add Kk
   simp only[List.cons_append,List.nil_append] at Hk
   have ck:=(Hk.sl 0 rfl).cell
   have Hn:=(Hk.new 1 (awV s rep time e kv d0))
   simp +contextual (disch:=omega) only[go_sem,e1,e2,e4,e7,e8,ld_ptr (H.pt 2 rfl),ld_ptr (H.pt 1 rfl),n0,A1,←hat]
   refine by_hp Rk Kk ?_
   simp +contextual (disch:=omega) only[go_sem,e1,e2,e4,e7,e8,ld_ptr (Hk.pt 2 rfl),n0,A1,ck,←hat]
   refine hY _ _ ⟨τk.length,kv,?_,?_,?_,?_,?_,?_,Hn⟩
   all_goals simp +contextual (disch:=omega) only[go_sem,e1,e2,e4,e7,e8]) ?_
  clear H e1 e2 e4 e7 e8 bad A1
  rintro env τ ⟨n10,kv,e1,e2,e4,e7,e8,e10,H⟩
  refine vc_seqX (fun env τ'=>τ=τ'∧env 1=gi rep∧env 2=gi time∧env 4= .ptr n1 0∧env 7= .ptr n2 0∧env 8= .ptr n3 0∧env 10= .ptr n10 0∧env 11= .bool true) (fun Y hY=>by
   simp +contextual (disch:=omega) only[go_sem,e1,e2,e4,e7,e8,e10]
   refine hY _ _ ⟨rfl,?_,?_,?_,?_,?_,?_,?_⟩
   all_goals simp +contextual (disch:=omega) only[go_sem,e1,e2,e4,e7,e8,e10]) ?_
  clear e1 e2 e4 e7 e8 e10
  rintro env τ' ⟨rfl,e1,e2,e4,e7,e8,e10,e11⟩
  refine vc_seqX (fun env τ=>env 4= .ptr n1 0∧env 7= .ptr n2 0∧env 8= .ptr n3 0∧env 10= .ptr n10 0∧env 11= .bool (placeOf s e).2∧Hp σ τ [pt 1 n10 (awV s rep time e kv (placeOf s e).1),ow pI.kd kv s.know,pt 1 n3 zeV,pt 1 n2 (edV e),pt 1 n1 [a1,b1,c1,v1]]) (fun Y hY=>by
   by_cases k7:e.kind=7
   ·have b6:(e.kind==6)=false:=by simp[k7]
    have b7:(e.kind==7)=true:=by simp[k7]
    have hq:placeOf s e=placeIn s e.obj e.place:=if_pos k7
    have PR:=i_PlaceIn_ret τ _ s (kState.pre hR0 H.sub) e.obj e.place hl
    obtain⟨τ2,st2,H2,_⟩:=H.st 0 rfl 2 8 (.agg [gi (placeIn s e.obj e.place).1.rep,gi (placeIn s e.obj e.place).1.seq]) rfl (by decide) (by simp)
    simp +contextual (disch:=omega) only[go_sem,e4,e7,e8,e10,b6,b7,ld_ptr (H.pt 3 rfl),ld_ptr (H.pt 4 rfl),seg_full (cs:=[a1,b1,c1,v1]) rfl]
    refine by_ret PR ?_
    simp +contextual (disch:=omega) only[go_sem,e4,e7,e8,e10,st2]
    refine hY _ _ ⟨?_,?_,?_,?_,?_,by rw[hq];exact H2⟩
    all_goals simp +contextual (disch:=omega) only[go_sem,e4,e7,e8,e10,hq]
   have b7:(e.kind==7)=false:=by simp[k7]
   by_cases k6:e.kind=6
   ·have b6:(e.kind==6)=true:=by simp[k6]
    by_cases kp:0<e.place
    ·have bp:decide (0<e.place)=true:=decide_eq_true kp
     have hq:placeOf s e=placeIn s e.obj (e.place - 1):=by unfold placeOf;rw[if_neg k7,if_pos ⟨k6,kp⟩]
     have PR:=i_PlaceIn_ret τ _ s (kState.pre hR0 H.sub) e.obj (e.place - 1) hl
     obtain⟨τ2,st2,H2,_⟩:=H.st 0 rfl 2 8 (.agg [gi (placeIn s e.obj (e.place - 1)).1.rep,gi (placeIn s e.obj (e.place - 1)).1.seq]) rfl (by decide) (by simp)
     simp +contextual (disch:=omega) only[go_sem,e4,e7,e8,e10,b6,bp,ld_ptr (H.pt 3 rfl),ld_ptr (H.pt 4 rfl),seg_full (cs:=[a1,b1,c1,v1]) rfl]
     refine by_ret PR ?_
     simp +contextual (disch:=omega) only[go_sem,e4,e7,e8,e10,st2]
     refine hY _ _ ⟨?_,?_,?_,?_,?_,by rw[hq];exact H2⟩
     all_goals simp +contextual (disch:=omega) only[go_sem,e4,e7,e8,e10,hq]
    ·have bp:decide (0<e.place)=false:=decide_eq_false kp
     have hq:placeOf s e=(d0,true):=by unfold placeOf;rw[if_neg k7,if_neg (fun h=>kp h.2)]
     simp +contextual (disch:=omega) only[go_sem,e4,e7,e8,e10,e11,b6,b7,bp,ld_ptr (H.pt 3 rfl)]
     refine hY _ _ ⟨?_,?_,?_,?_,?_,by rw[hq];exact H⟩
     all_goals simp +contextual (disch:=omega) only[go_sem,e4,e7,e8,e10,e11,hq]
   ·have b6:(e.kind==6)=false:=by simp[k6]
    have hq:placeOf s e=(d0,true):=by unfold placeOf;rw[if_neg k7,if_neg (fun h=>k6 h.1)]
    simp +contextual (disch:=omega) only[go_sem,e4,e7,e8,e10,e11,b6,b7,ld_ptr (H.pt 3 rfl)]
    refine hY _ _ ⟨?_,?_,?_,?_,?_,by rw[hq];exact H⟩
    all_goals simp +contextual (disch:=omega) only[go_sem,e4,e7,e8,e10,e11,hq]) ?_
  clear H e4 e7 e8 e10 e11
  rintro env τ ⟨e4,e7,e8,e10,e11,H⟩
  have bad:∀ c,actOf s rep time e=(act0,c)→∃ τr,stG 10 τ (.ptr n3 0) (.agg zeV)=some (.tup [],τr)∧ldG true 10 τr (.ptr n3 0)=some (.agg zeV)∧∃ ds,(GV.tup [.agg zeV,gi c])= .tup [.agg ds,gi (actOf s rep time e).2]∧Hp σ τr [own kAct ds (actOf s rep time e).1]:=fun c hc=>by
   obtain⟨τr,sr,Hr,_⟩:=H.st 2 rfl 10 0 (.agg zeV) rfl (by decide) (by simp)
   have zr:rdB τr n3=some zeV:=Hr.pt 2 rfl
   refine⟨τr,sr,?_,zeV,by rw[hc],by rw[hc];exact own0 Hr⟩
   simp +contextual (disch:=omega) only[go_sem,ld_ptr zr,seg_full (cs:=zeV) rfl]
  cases h6:(placeOf s e).2 with
  |false=>
   rw[h6] at e11
   obtain⟨τr,q1,q2,q3⟩:=bad 5 (by unfold actOf;rw[if_pos hh0,if_pos h5,if_neg (by simp[h6])])
   simp +contextual (disch:=omega) only[go_sem,e4,e7,e8,e10,e11,q1,q2]
   exact⟨_,rfl,q3⟩
  |true=>
   rw[h6] at e11
   simp +contextual (disch:=omega) only[go_sem,e4,e7,e8,e10,e11,ld_ptr (H.pt 0 rfl),seg_full (cs:=awV s rep time e kv (placeOf s e).1) rfl]
   refine by_bool (i_ActOk_ret τ (awV s rep time e kv (placeOf s e).1) (actRaw s rep time e) ⟨kv,rfl,H.sl 1 rfl⟩ (by unfold msAct;exact hm)) (fun h7=> ?_) (fun h7=> ?_)
   rotate_left
   ·obtain⟨τr,q1,q2,q3⟩:=bad 3 (by unfold actOf;rw[if_pos hh0,if_pos h5,if_pos h6,if_neg (by simp[h7])])
    simp +contextual (disch:=omega) only[go_sem,e4,e7,e8,e10,e11,q1,q2]
    exact⟨_,rfl,q3⟩
   have hd:actOf s rep time e=(actRaw s rep time e,0):=by unfold actOf;rw[if_pos hh0,if_pos h5,if_pos h6,if_pos h7]
   obtain⟨τr,sr,Hr,_⟩:=H.st 2 rfl 10 0 (.agg (awV s rep time e kv (placeOf s e).1)) rfl (by decide) (by simp)
   have zr:rdB τr n3=some (awV s rep time e kv (placeOf s e).1):=Hr.pt 2 rfl
   simp +contextual (disch:=omega) only[go_sem,e4,e7,e8,e10,e11,ld_ptr (H.pt 0 rfl),sr,ld_ptr zr,seg_full (cs:=awV s rep time e kv (placeOf s e).1) rfl]
   exact⟨_,rfl,_,by rw[hd],by rw[hd];exact((Hr.pick 1 rfl).ownAct (x:=actRaw s rep time e)).one⟩
 obtain⟨q,τ,R,ds,rfl,h⟩:=key
 exact⟨ds,τ,R,h⟩
end Go.Proofs.YtffnefmklckngaaGreat.Sy
namespace Go.Proofs.YtffnefmklckngaaGreat.Sy
open Go Go.RowKit
set_option linter.unusedSimpArgs false
set_option linter.unusedVariables false
set_option maxRecDepth 4000
theorem sumL_perm {α:Type} (f:α→Nat) {l k:List α} (h:l.Perm k):sumL f l=sumL f k:=by
 unfold sumL
 exact(h.map f).sum_nat
theorem sumL_insB {α:Type} (f:α→Nat) (lt:α→α→Bool) (x:α) (l:List α):sumL f (insB lt x l)=sumL f l+f x:=by
 rw[sumL_perm f (insB_perm lt x l)]
 simp[sumL];omega
theorem sumL_set {α:Type} (f:α→Nat) {l:List α} {k:Nat} {y:α} (hk:k<l.length) (hf:f y=f l[k]):sumL f (l.set k y)=sumL f l:=by
 unfold sumL
 rw[List.map_set,hf]
 congr 1
 have:f l[k]=(l.map f)[k]'(by simpa using hk):=by simp
 rw[this,List.set_getElem_self]
theorem sumL_modify {α:Type} (f:α→Nat) {l:List α} {k:Nat} {g:α→α} (hf:∀ x,f (g x)=f x):sumL f (l.modify k g)=sumL f l:=by
 by_cases hk:k<l.length
 ·rw[modify_set g hk,sumL_set f hk (hf _)]
 ·rw[List.modify_eq_self (by omega)]
theorem sumL_flt {α:Type} (f:α→Nat) (p:α→Bool):∀ l:List α,sumL f (l.filter p)≤sumL f l
 |[]=>Nat.le_refl _
 |x::l=>by
  have:=sumL_flt f p l
  rw[List.filter_cons]
  split
  ·simp only[sumL,List.map_cons,List.sum_cons] at *;omega
  ·simp only[sumL,List.map_cons,List.sum_cons] at *;omega
theorem ms_doOne (s:State) (a:Act):msState (doOne s a)≤msState s+a.obj.size+a.key.size+1:=by
 have hf:=fun(b:Bool)=>sumL_flt msLive (keepL b a.obj a.key a.knew) s.lives
 have hg:=fun(b:Bool)=>List.length_filter_le (keepL b a.obj a.key a.knew) s.lives
 have h0:=hf false
 have h1:=hf true
 have g0:=hg false
 have g1:=hg true
 unfold doOne doKind
 split
 ·unfold talPut
  split
  ·simp only[msState,List.length_set,List.length_modify]
   rw[sumL_modify msTally (g:=fun t=>{t with sum:=addM t.sum a.val}) (fun x=>rfl)]
   omega
  ·simp only[msState,List.length_set,insB_length,sumL_insB]
   simp only[msTally];omega
 split
 ·simp only[msState,List.length_set,insLive,insB_length,sumL_insB,msLive];omega
 split
 ·simp only[msState,List.length_set];omega
 split
 ·simp only[msState,List.length_set,insLive,insB_length,sumL_insB]
  simp only[show ∀ m:Bool,∀ v:Int,msLive ⟨m,a.obj,a.key,v,a.dot⟩=a.obj.size+a.key.size from fun _ _=>rfl]
  omega
 split
 ·simp only[msState,List.length_set];omega
 split
 ·simp only[msState,List.length_set,insCell,insB_length,sumL_insB,msCell];omega
 ·unfold goneAt
  split
  ·simp only[msState,List.length_set,List.length_modify]
   rw[sumL_modify msCell (g:=fun c=>{c with gone:=true}) (fun x=>rfl)]
   omega
  ·simp only[msState,List.length_set];omega
theorem ms_doAct (s:State) (a:Act):msState (doAct s a).1≤msState s+a.obj.size+a.key.size+1:=by
 have:=ms_doOne s a
 unfold doAct
 repeat' split
 all_goals first|exact this|(simp only[];omega)
def stepE (s:State) (rep t:Int) (e:Edit):State×Int:=if(actOf s rep t e).2=0 then doAct s (actOf s rep t e).1 else(s,(actOf s rep t e).2)
def runE (s:State) (rep t:Int) (es:List Edit):Nat→State×Int
 |0=>(s,0)
 |i+1=>if(runE s rep t es i).2=0 then(if h:i<es.length then stepE (runE s rep t es i).1 rep (IntKind.i64.wrap (t+i)) es[i] else runE s rep t es i) else runE s rep t es i
def doEdits (s:State) (rep t:Int) (es:List Edit):State×Int:=runE s rep t es es.length
theorem runE_stop {s:State} {rep t:Int} {es:List Edit} {i:Nat} (h:(runE s rep t es i).2≠0):∀ j,runE s rep t es (i+j)=runE s rep t es i
 |0=>rfl
 |j+1=>by
  have ih:=runE_stop h j
  show runE s rep t es ((i+j)+1)=_
  rw[runE,ih,if_neg h]
theorem runE_at {s:State} {rep t:Int} {es:List Edit} {i:Nat} (hi:i<es.length) (h:(runE s rep t es i).2=0):runE s rep t es (i+1)=stepE (runE s rep t es i).1 rep (IntKind.i64.wrap (t+i)) es[i]:=by
 rw[runE,if_pos h,dif_pos hi]
theorem runE_end {s:State} {rep t:Int} {es:List Edit} {i:Nat} (hi:i≤es.length) (h:(runE s rep t es i).2≠0):doEdits s rep t es=runE s rep t es i:=by
 obtain⟨j,hj⟩:∃ j,es.length=i+j:=⟨es.length - i,by omega⟩
 unfold doEdits
 rw[hj,runE_stop h]
theorem ms_stepE (s:State) (rep t:Int) (e:Edit):msState (stepE s rep t e).1≤msState s+msEdit e+1:=by
 unfold stepE
 split
 ·refine Nat.le_trans (ms_doAct _ _) ?_
  unfold actOf
  repeat' split
  all_goals simp only[actRaw,actWith,act0,msEdit,show(ByteArray.mk #[]).size=0 from rfl]
  all_goals omega
 ·simp only[];omega
theorem ms_runE (s:State) (rep t:Int) (es:List Edit):∀ i,i≤es.length→msState (runE s rep t es i).1≤msState s+sumL msEdit (es.take i)+i
 |0,_=>by simp[runE]
 |i+1,hi=>by
  have ih:=ms_runE s rep t es i (by omega)
  rw[sumL_snoc (by omega)]
  by_cases h:(runE s rep t es i).2=0
  ·rw[runE_at (by omega) h]
   have:=ms_stepE (runE s rep t es i).1 rep (IntKind.i64.wrap (t+i)) es[i]
   omega
  ·rw[runE,if_neg h];omega
end Go.Proofs.YtffnefmklckngaaGreat.Sy
namespace Go.Proofs.YtffnefmklckngaaGreat.Sy
open Go Go.RowKit
set_option linter.unusedSimpArgs false
set_option linter.unusedVariables false
inductive Item where
 |box (z n:Nat) (cs:List GV)
 |th (r:Thg)
def Item.t:Item→Thg
 | .box z n cs=>pt z n cs
 | .th r=>r
def Hx (σ τ:St) (h:List Item):Prop:=Hp σ τ (h.map Item.t)
def look:List Item→Nat→Option (List GV)
 |[],_=>none
 | .box _ m cs::h,n=>if m=n then some cs else look h n
 | .th _::h,n=>look h n
def upd:List Item→Nat→List GV→List Item
 |[],_,_=>[]
 | .box z m cs::h,n,ds=>if m=n then .box z m ds::h else .box z m cs::upd h n ds
 | .th r::h,n,ds=>.th r::upd h n ds
def frX (σ:St):List Item→Nat→Prop
 |[],n=>σ.length≤n
 | .box _ m _::h,n=>m<n∧frX σ h n
 | .th _::h,n=>frX σ h n
abbrev Kx:=GV→List Item→St→Prop
def bindX (v:Option GV) (k:Kx) (h:List Item) (τ:St):Prop:=match v with
 |some v=>k v h τ
 |none=>False
def orX (a b:Option GV):Option GV:=match a with
 |some x=>some x
 |none=>b
def ldB (c:Option (List GV)) (g:Bool) (n off:Nat) (e:Option GV):Option GV:=match c with
 |some cs=>(seg cs off n).bind (mkv g)
 |none=>e
def ldY (h:List Item) (τ:St) (g:Bool) (n:Nat):GV→Option GV
 | .ptr b off=>ldB (look h b) g n off (ldG g n τ (.ptr b off))
 |a=>ldG g n τ a
def ldX (σ:St) (h:List Item) (τ:St) (g:Bool) (n:Nat) (a:GV):Option GV:=orX (ldG g n σ a) (ldY h τ g n a)
def allocX (σ:St) (h:List Item) (z:Nat) (cs:List GV) (v:Nat→GV) (k:Kx):Prop:=∀ n,frX σ h n→∀ τ',Hx σ τ' (.box z n cs::h)→k (v n) (.box z n cs::h) τ'
def genX (σ:St) (D:Bool) (τ:St) (e:Option (GV×St)) (k:Kx):Prop:=∃ v τ' h',e=some (v,τ')∧(D=true→τ <+: τ')∧Hx σ τ' h'∧k v h' τ'
def stB (σ:St) (D:Bool) (h:List Item) (τ:St) (n:Nat) (k:Kx) (b off:Nat) (x:GV) (c:Option (List GV)):Prop:=match c with
 |some cs=>(D=false∧off+n≤cs.length∧0<n∧x.cells.length=n)∧∀ τ',Hx σ τ' (upd h b (splice cs off x.cells))→k (.tup []) (upd h b (splice cs off x.cells)) τ'
 |none=>genX σ D τ (stG n τ (.ptr b off) x) k
def stX (σ:St) (D:Bool) (h:List Item) (τ:St) (n:Nat) (k:Kx) (a x:GV):Prop:=match a with
 | .ptr b off=>stB σ D h τ n k b off x (look h b)
 |a=>genX σ D τ (stG n τ a x) k
def fnX (P:Program) (σ:St) (D:Bool) (τ:St) (args:List GV) (k:Kx):GV→Prop
 | .fn f caps=>∃ v τ' h',Ret P f (args++caps.map fun c=>.ptr c.1 c.2) τ v τ'∧(D=true→τ <+: τ')∧Hx σ τ' h'∧k v h' τ'
 |_=>False
def litX (σ:St) (h:List Item) (z len:Nat) (k:Kx):Option (List GV)→Prop
 |some cs=>allocX σ h z cs (fun n=>.sl n 0 len) k
 |none=>False
def callX (P:Program) (σ:St) (D:Bool) (τ:St) (f:Nat) (args:List GV) (k:Kx):Prop:=∃ v τ' h',Ret P f args τ v τ'∧(D=true→τ <+: τ')∧Hx σ τ' h'∧k v h' τ'
def mksX (σ:St) (h:List Item) (z b:Nat) (ze:List GV) (k:Kx):Option Nat→Option Nat→Prop
 |some n,some c=>n=c∧n*b≤140737488355328∧allocX σ h z (reps n ze) (fun g=>.sl g 0 n) k
 |_,_=>False
def sxI (P:Program) (D:Bool) (σ:St) (env:Env) (h:List Item) (τ:St) (k:Kx):Ins→Prop
 | .new cs=>allocX σ h 1 cs (fun n=>.ptr n 0) k
 | .box x=>notTup (x.ev env)=true∧allocX σ h 1 (x.ev env).cells (fun n=>.ptr n 0) k
 | .lit z len zero parts=>litX σ h z len k (fillG zero (parts.map fun p=>(p.1,p.2.1,p.2.2.ev env)))
 | .mks z b ze n c=>mksX σ h z b ze k (natOf (some (n.ev env))) (natOf (some (c.ev env)))
 | .ld g n a=>bindX (ldX σ h τ g n (a.ev env)) k h τ
 | .st n a x=>stX σ D h τ n k (a.ev env) (x.ev env)
 | .call f xs=>callX P σ D τ f (xs.map (·.ev env)) k
 | .callv x xs=>fnX P σ D τ (xs.map (·.ev env)) k (x.ev env)
 | .chk d (.ld g n (.t t))=>ldX σ h τ g n (env t)=some (env d)∧k (.tup []) h τ
 | .chk _ _=>False
 | .mlk ks z ok m k'=>bindX (mlkG τ ks z ok (m.ev env) (k'.ev env)) k h τ
 | .bts x=>bindX ((elems τ 1 (x.ev env)).bind fun r=>(bytesOf r.2).map fun bs=>.str ⟨bs.toArray⟩) k h τ
 | .cut z x lo hi=>bindX (if zOk τ z (x.ev env) then cutG z (x.ev env) (lo.map (·.ev env)) (hi.map (·.ev env)) else none) k h τ
 | .app z b ze s x=>genX σ D τ (appV z b τ (s.ev env) (x.ev env)) k
 | .clr z ze x=>genX σ D τ (clrG z ze τ (x.ev env)) k
 | .mkm=>genX σ D τ (some (.mp τ.length,τ++[some (.map [])])) k
 | .mup ks m k' v=>genX σ D τ (mupG τ ks (m.ev env) (k'.ev env) (v.ev env)) k
 |i=>bindX ((exec env [] i).map (·.1)) k h τ
def gdX (c:Option (Option Bool×Bool)) (A B:Prop):Prop:=match c with
 |none=>A
 |some (some c,b)=>(c=b→A)∧(c= !b→B)
 |some (none,_)=>B
def sx (P:Program) (D:Bool) (σ:St):List Op1→(Env→List Item→St→Prop)→Env→List Item→St→Prop
 |[],K,env,h,τ=>K env h τ
 |o::r,K,env,h,τ=>gdX (o.g.map fun g=>((env g.1).bit,g.2)) (sxI P D σ env h τ (fun v h' τ'=>sx P D σ r K (upo env o.d v) h' τ') o.i) (sx P D σ r K (upo env o.d (.tup [])) h τ)
def ifX (c:Option Bool) (A B:Prop):Prop:=match c with
 |some c=>(c=true→A)∧(c=false→B)
 |none=>False
abbrev Qx:=Ex→Env→List Item→St→Prop
def sxc (P:Program) (σ:St):Cd→Qx→Env→List Item→St→Prop
 | .skip,Q=>Q .nxt
 | .reg ops,Q=>sx P false σ ops (Q .nxt)
 | .drw a1 bs,Q=>sx P true σ a1 (sx P false σ bs (Q .nxt))
 | .seq a b,Q=>sxc P σ a fun e=>match e with
  | .nxt=>sxc P σ b Q
  |e=>Q e
 | .cnd c a b,Q=>fun env h τ=>ifX (c.ev env).bit (sxc P σ a Q env h τ) (sxc P σ b Q env h τ)
 | .blk id a,Q=>sxc P σ a fun e=>match e with
  | .ext j=>if j=id then Q .nxt else Q (.ext j)
  |e=>Q e
 | .lop a,Q=>fun env h τ=>∃(I:Nat→Env→List Item→St→Prop) (n:Nat) (h0:List Item),Hx σ τ h0∧I n env h0 τ∧∀ k env h τ,Hx σ τ h→I k env h τ→sxc P σ a (fun e env' h' τ'=>match e with
  | .nxt=>∃ k' h1,k'<k∧Hx σ τ' h1∧I k' env' h1 τ'
  |e=>∃ h1,Hx σ τ' h1∧Q e env' h1 τ') env h τ
 | .ext id,Q=>Q (.ext id)
 | .ret,Q=>Q .ret
section sound
variable {P:Program} {σ:St} {D:Bool}
theorem Hx.hp {τ:St} {h:List Item} (H:Hx σ τ h):Hp σ τ (h.map Item.t):=H
theorem Hx.sub {τ:St} {h:List Item} (H:Hx σ τ h):σ <+: τ:=H.hp.sub
theorem Hx.refl (σ:St):Hx σ σ []:=Hp.refl σ
theorem look_at:∀ {h:List Item} {n:Nat} {cs:List GV},look h n=some cs→∃ z,∃ i:Nat,(h.map Item.t)[i]? =some (pt z n cs)∧∀ ds,(upd h n ds).map Item.t=(h.map Item.t).set i (pt z n ds)
 |[],_,_,e=>by cases e
 | .box z m cs'::h,n,cs,e=>by
  simp only[look] at e
  by_cases hm:m=n
  ·rw[if_pos hm] at e
   injection e with e;subst e hm
   exact⟨z,0,rfl,fun ds=>by simp[upd,Item.t]⟩
  ·rw[if_neg hm] at e
   obtain⟨z',i,h1,h2⟩:=look_at e
   exact⟨z',i+1,by simpa using h1,fun ds=>by simp[upd,hm,h2 ds]⟩
 | .th r::h,n,cs,e=>by
  obtain⟨z',i,h1,h2⟩:=look_at (h:=h) (by simpa [look] using e)
  exact⟨z',i+1,by simpa using h1,fun ds=>by simp[upd,h2 ds]⟩
theorem ldG_pre {τ:St} {g:Bool} {n:Nat} {a x:GV} (h:ldG g n σ a=some x) (hp:σ <+: τ):ldG g n τ a=some x:=by
 cases a with
 |ptr b off=>
  simp only[ldG] at h ⊢
  obtain⟨cs,h1,h2⟩:=Option.bind_eq_some_iff.1 h
  rw[rdB_pre hp h1];exact h2
 |_=>cases h
theorem ldX_sound {h:List Item} {τ:St} (H:Hx σ τ h) {g:Bool} {n:Nat} {a x:GV} (e:ldX σ h τ g n a=some x):ldG g n τ a=some x:=by
 unfold ldX orX ldY at e
 split at e
 ·rename_i y hy
  injection e with e;subst e
  exact ldG_pre hy H.sub
 ·cases a with
  |ptr b off=>
   simp only at e
   cases hl:look h b with
   |none=>rw[hl] at e;exact e
   |some cs=>
    rw[hl] at e
    obtain⟨z,i,h1,_⟩:=look_at hl
    have:=H.hp.pt i h1
    simp only[ldG,this,Option.bind_some]
    exact e
  |_=>exact e
theorem fr_use {n:Nat}:∀ {h:List Item},σ.length≤n→(∀ z m cs,Item.box z m cs∈h→m<n)→frX σ h n
 |[],hl,_=>hl
 | .box z m cs::h,hl,hb=>⟨hb z m cs List.mem_cons_self,fr_use (h:=h) hl fun z m cs hm=>hb z m cs (List.mem_cons_of_mem _ hm)⟩
 | .th r::h',hl,hb=>fr_use (h:=h') hl fun z m cs hm=>hb z m cs (List.mem_cons_of_mem _ hm)
theorem box_lt {h:List Item} {τ:St} (H:Hx σ τ h) {z m:Nat} {cs:List GV} (hm:Item.box z m cs∈h):m<τ.length:=by
 obtain⟨i,hi,e⟩:=List.getElem_of_mem hm
 have h1:(h.map Item.t)[i]? =some (pt z m cs):=by
  rw[List.getElem?_map,List.getElem?_eq_getElem hi,e];rfl
 obtain⟨a,ha,_,hb⟩:=H.hp.see h1
 exact(hb m (by rw[ha.1];exact List.mem_cons_self)).2
theorem alloc_sound {h:List Item} {τ:St} {z:Nat} {cs:List GV} {v:Nat→GV} {k:Kx} (H:Hx σ τ h) (e:allocX σ h z cs v k):∃ h',Hx σ (τ++[some (.row z cs)]) h'∧k (v τ.length) h' (τ++[some (.row z cs)]):=
 ⟨.box z τ.length cs::h,H.hp.new z cs,e τ.length (fr_use (h:=h) H.sub.length_le (fun _ _ _ hm=>box_lt H hm)) _ (H.hp.new z cs)⟩
theorem gen_sound {τ:St} {e:Option (GV×St)} {k:Kx} (h:genX σ D τ e k):∃ v τ',e=some (v,τ')∧(D=true→τ <+: τ')∧∃ h',Hx σ τ' h'∧k v h' τ':=by
 obtain⟨v,τ',h',h1,h2,h3,h4⟩:=h
 exact⟨v,τ',h1,h2,h',h3,h4⟩
theorem sxI_sound {env:Env} {h:List Item} {τ:St} {k:Kx} (H:Hx σ τ h):∀ {i:Ins},sxI P D σ env h τ k i→∃ v τ',Step P env τ i v τ'∧(D=true→τ <+: τ')∧∃ h',Hx σ τ' h'∧k v h' τ':=by
 intro i e
 have same:∀ {v:Option GV},bindX v k h τ→(∀ v',v=some v'→Step P env τ i v' τ)→∃ v τ',Step P env τ i v τ'∧(D=true→τ <+: τ')∧∃ h',Hx σ τ' h'∧k v h' τ':=by
  intro v hb hs
  cases v with
  |none=>exact hb.elim
  |some v=>exact⟨v,τ,hs v rfl,fun _=>List.prefix_refl _,h,H,hb⟩
 have pure:pureI i=true→bindX ((exec env [] i).map (·.1)) k h τ→i.isCall=false→(∀ v',exec env τ i=some (v',τ)→Step P env τ i v' τ)→∃ v τ',Step P env τ i v τ'∧(D=true→τ <+: τ')∧∃ h',Hx σ τ' h'∧k v h' τ':=by
  intro hp hb _ hs
  refine same hb fun v' hv=>hs v' ?_
  obtain⟨⟨w,s⟩,hw,rfl⟩:=Option.map_eq_some_iff.1 hv
  exact(exec_pure hp hw).2 τ
 cases i with
 |new cs=>
  obtain⟨h',h1,h2⟩:=alloc_sound H e
  exact⟨_,_,rfl,fun _=>List.prefix_append _ _,h',h1,h2⟩
 |box x=>
  obtain⟨h0,e⟩:=e
  obtain⟨h',h1,h2⟩:=alloc_sound H e
  exact⟨_,_,by show boxG τ _=_;unfold boxG;rw[if_pos h0],fun _=>List.prefix_append _ _,h',h1,h2⟩
 |lit z len zero parts=>
  simp only[sxI] at e
  unfold litX at e
  split at e
  ·rename_i cs hc
   obtain⟨h',h1,h2⟩:=alloc_sound H e
   exact⟨_,_,by show exec env τ _=_;simp only[exec,hc];rfl,fun _=>List.prefix_append _ _,h',h1,h2⟩
  ·exact e.elim
 |mks z b ze n c=>
  simp only[sxI] at e
  unfold mksX at e
  split at e
  ·rename_i n' c' hn hc
   obtain⟨h0,h3,e⟩:=e
   obtain⟨h',h1,h2⟩:=alloc_sound H e
   exact⟨_,_,by show exec env τ _=_;simp only[exec,hn,hc,Option.bind_some,if_pos (And.intro h0 h3)],fun _=>List.prefix_append _ _,h',h1,h2⟩
  ·exact e.elim
 |ld g n a=>
  refine same e fun v' hv=> ?_
  have:=ldX_sound H hv
  show exec env τ _=_
  simp only[exec]
  revert this
  cases a.ev env with
  |ptr b off=>
   intro h1
   simp only[ldG] at h1
   simp only[ptrG,Option.bind_some]
   obtain⟨cs,h2,h3⟩:=Option.bind_eq_some_iff.1 h1
   obtain⟨r,h4,h5⟩:=Option.bind_eq_some_iff.1 h3
   simp only[h2,Option.bind_some,h4,h5,Option.map_some]
  |_=>intro h1;cases h1
 |st n a x=>
  simp only[sxI] at e
  have hst:∀ {y:GV} {τ'},stG n τ (a.ev env) (x.ev env)=some (y,τ')→Step P env τ (.st n a x) y τ':=by
   intro y τ' he
   show exec env τ _=_
   simp only[exec]
   revert he
   cases a.ev env<;>intro he<;>first|cases he;done|exact he
  have gen:genX σ D τ (stG n τ (a.ev env) (x.ev env)) k→∃ v τ',Step P env τ (.st n a x) v τ'∧(D=true→τ <+: τ')∧∃ h',Hx σ τ' h'∧k v h' τ':=fun hg=>by
   obtain⟨v,τ',h1,h2⟩:=gen_sound hg
   exact⟨v,τ',hst h1,h2⟩
  unfold stX at e
  split at e
  ·rename_i b off hb
   unfold stB at e
   split at e
   ·rename_i cs hl
    obtain⟨⟨h0,h1,h2,h3⟩,h4⟩:=e
    obtain⟨z,i,h5,h6⟩:=look_at hl
    obtain⟨τ',s1,s2,_⟩:=H.hp.st i h5 n off (x.ev env) h3 h2 h1
    have s3:Hx σ τ' (upd h b (splice cs off (x.ev env).cells)):=by unfold Hx;rw[h6];exact s2
    exact⟨_,τ',hst (by rw[hb];exact s1),(fun hd=>by rw[hd] at h0;cases h0),_,s3,h4 _ s3⟩
   ·rw[← hb] at e;exact gen e
  ·exact gen e
 |call f xs=>
  obtain⟨v,τ',h',h1,h2,h3,h4⟩:=e
  exact⟨v,τ',h1,h2,h',h3,h4⟩
 |callv x xs=>
  simp only[sxI] at e
  unfold fnX at e
  split at e
  ·rename_i f caps hf
   obtain⟨v,τ',h',h1,h2,h3,h4⟩:=e
   exact⟨v,τ',⟨f,caps,hf,h1⟩,h2,h',h3,h4⟩
  ·exact e.elim
 |chk d x=>
  cases x with
  |ld g n a=>cases a with
   |t t=>
    obtain⟨h1,h2⟩:=e
    refine⟨_,τ,⟨rfl,rfl,?_⟩,fun _=>List.prefix_refl _,h,H,h2⟩
    have h3:=ldX_sound H h1
    simp only[exec,Opd.ev]
    revert h3
    cases env t with
    |ptr b off=>
     intro h1
     simp only[ldG] at h1
     simp only[ptrG,Option.bind_some]
     obtain⟨cs,h2,h3⟩:=Option.bind_eq_some_iff.1 h1
     obtain⟨r,h4,h5⟩:=Option.bind_eq_some_iff.1 h3
     simp only[h2,Option.bind_some,h4,h5,Option.map_some]
    |_=>intro h1;cases h1
   |k v=>exact e.elim
  |_=>exact e.elim
 |mlk ks z ok m k'=>exact same e fun v' hv=>by show exec env τ _=_;simp only[exec,hv,Option.map_some]
 |bts x=>
  refine same e fun v' hv=> ?_
  show exec env τ _=_
  simp only[exec]
  obtain⟨r,h1,h2⟩:=Option.bind_eq_some_iff.1 hv
  obtain⟨bs,h3,rfl⟩:=Option.map_eq_some_iff.1 h2
  rw[h1,Option.bind_some,h3];rfl
 |cut z x lo hi=>
  refine same e fun v' hv=> ?_
  show exec env τ _=_
  simp only[exec]
  split at hv
  ·rename_i hz
   rw[if_pos hz,hv];rfl
  ·cases hv
 |app z b ze s x=>exact gen_sound e
 |clr z ze x=>exact gen_sound e
 |mkm=>exact gen_sound e
 |mup ks m k' v=>exact gen_sound e
 |mkf f caps=>
  refine same e fun v' hv=> ?_
  show exec env τ _=_
  simp only[exec] at hv ⊢
  obtain⟨⟨w,s⟩,hw,rfl⟩:=Option.map_eq_some_iff.1 hv
  obtain⟨cs,h1,h2⟩:=Option.map_eq_some_iff.1 hw
  injection h2 with h2 h3;subst h2
  rw[h1];rfl
 |pan=>exact e.elim
 |_=>exact pure rfl e rfl fun _ h=>h
theorem sx_sound:∀ {os:List Op1} {K:Env→List Item→St→Prop} {env:Env} {h:List Item} {τ:St},Hx σ τ h→sx P D σ os K env h τ→vcOps D P os (fun env' τ'=>τ.length≤τ'.length∧∃ h',Hx σ τ' h'∧K env' h' τ') env τ
 |[],K,env,h,τ,H,e=>⟨Nat.le_refl _,h,H,e⟩
 |o::r,K,env,h,τ,H,e=>by
  have yes:sxI P D σ env h τ (fun v h' τ'=>sx P D σ r K (upo env o.d v) h' τ') o.i→∃ v σ',Step P env τ o.i v σ'∧(D=true→τ <+: σ')∧vcOps D P r (fun env' τ'=>τ.length≤τ'.length∧∃ h',Hx σ τ' h'∧K env' h' τ') (upo env o.d v) σ':=fun e=>by
   obtain⟨v,τ',h1,h2,h',h3,h4⟩:=sxI_sound H e
   have hl:=step_len h1
   exact⟨v,τ',h1,h2,vcOps_mono (sx_sound h3 h4) fun _ _ hk=>⟨Nat.le_trans hl hk.1,hk.2⟩⟩
  have no:sx P D σ r K (upo env o.d (.tup [])) h τ→vcOps D P r (fun env' τ'=>τ.length≤τ'.length∧∃ h',Hx σ τ' h'∧K env' h' τ') (upo env o.d (.tup [])) τ:=fun e=>sx_sound H e
  simp only[vcOps]
  simp only[sx] at e
  cases hg:o.g with
  |none=>
   rw[hg] at e
   rw[if_pos (by simp[wantedG])]
   exact yes e
  |some q=>
   obtain⟨g,b⟩:=q
   rw[hg] at e
   simp only[Option.map_some] at e
   cases hc:(env g).bit with
   |none=>
    rw[hc] at e
    rw[if_neg (by simp[wantedG,hc])]
    exact no e
   |some c=>
    rw[hc] at e
    by_cases hcb:c=b
    ·rw[if_pos (by simp[wantedG,hc,hcb])]
     exact yes (e.1 hcb)
    ·rw[if_neg (by simp[wantedG,hc,hcb])]
     exact no (e.2 (by cases c<;>cases b<;>simp_all))
theorem sxc_sound {d:Cd}:∀ {Q:Qx} {env:Env} {h:List Item} {τ:St},Hx σ τ h→sxc P σ d Q env h τ→vc P d (fun e env' τ'=>τ.length≤τ'.length∧∃ h',Hx σ τ' h'∧Q e env' h' τ') env τ:=by
 induction d with
 |skip=>intro Q env h τ H e;exact⟨Nat.le_refl _,h,H,e⟩
 |reg ops=>intro Q env h τ H e;exact sx_sound H e
 |drw a1 bs=>
  intro Q env h τ H e
  show vcOps true P a1 _ env τ
  refine vcOps_mono (sx_sound H e) fun env' τ' hk=> ?_
  obtain⟨hl,h',H',hk⟩:=hk
  exact vcOps_mono (sx_sound H' hk) fun _ _ hq=>⟨Nat.le_trans hl hq.1,hq.2⟩
 |seq a b iha ihb=>
  intro Q env h τ H e
  show vc P a _ env τ
  refine vc_mono (iha H e) fun e env' τ' hk=> ?_
  obtain⟨hl,h',H',hk⟩:=hk
  cases e with
  |nxt=>exact vc_mono (ihb H' hk) fun _ _ _ hq=>⟨Nat.le_trans hl hq.1,hq.2⟩
  |ext j=>exact⟨hl,h',H',hk⟩
  |ret=>exact⟨hl,h',H',hk⟩
 |cnd c a b iha ihb=>
  intro Q env h τ H e
  simp only[sxc] at e
  unfold ifX at e
  split at e
  ·rename_i t ht
   exact⟨t,ht,fun k=>iha H (e.1 k),fun k=>ihb H (e.2 k)⟩
  ·exact e.elim
 |blk id a ih=>
  intro Q env h τ H e
  show vc P a _ env τ
  refine vc_mono (ih H e) fun e env' τ' hk=> ?_
  obtain⟨hl,h',H',hk⟩:=hk
  cases e with
  |nxt=>exact⟨hl,h',H',hk⟩
  |ext j=>
   simp only at hk ⊢
   split at hk
   ·rename_i hj;rw[if_pos hj];exact⟨hl,h',H',hk⟩
   ·rename_i hj;rw[if_neg hj];exact⟨hl,h',H',hk⟩
  |ret=>exact⟨hl,h',H',hk⟩
 |lop a ih=>
  intro Q env h τ H e
  obtain⟨I,n,h0,H0,hI,hs⟩:=e
  refine vc_lop (fun k env' τ'=>τ.length≤τ'.length∧∃ h,Hx σ τ' h∧I k env' h τ') n ⟨Nat.le_refl _,h0,H0,hI⟩ ?_
  rintro k env1 τ1 ⟨hl,h1,H1,hI1⟩
  refine vc_mono (ih H1 (hs k env1 h1 τ1 H1 hI1)) fun e env' τ' hk=> ?_
  obtain⟨hl2,h',H',hk⟩:=hk
  cases e with
  |nxt=>
   obtain⟨k',h3,h4,h5,h6⟩:=hk
   exact⟨k',h4,Nat.le_trans hl hl2,h3,h5,h6⟩
  |ext j=>exact⟨Nat.le_trans hl hl2,hk⟩
  |ret=>exact⟨Nat.le_trans hl hl2,hk⟩
 |ext id=>intro Q env h τ H e;exact⟨Nat.le_refl _,h,H,e⟩
 |ret=>intro Q env h τ H e;exact⟨Nat.le_refl _,h,H,e⟩
def rsX (σ:St) (h:List Item) (τ:St) (env:Env):Rs→Option GV
 | .t n=>some (env n)
 | .c a g n=>ldX σ h τ g n (env a)
def resX (σ:St) (h:List Item) (τ:St) (env:Env):List Rs→Option GV
 |[r]=>rsX σ h τ env r
 |rs=>(optAll (rsX σ h τ env) rs).bind fun vs=>if vs.all notTup then some (.tup vs) else none
theorem rsX_sound {h:List Item} {τ:St} (H:Hx σ τ h) {env:Env} {r:Rs} {v:GV} (e:rsX σ h τ env r=some v):r.ev env τ=some v:=by
 cases r with
 |t n=>exact e
 |c a g n=>rw[rs_c];exact ldX_sound H e
theorem optAll_imp {α β:Type} {f g:α→Option β} (h:∀ x y,f x=some y→g x=some y):∀ {l:List α} {r:List β},optAll f l=some r→optAll g l=some r
 |[],r,e=>e
 |x::l,r,e=>by
  simp only[optAll,Option.bind_eq_some_iff,Option.map_eq_some_iff] at e ⊢
  obtain⟨y,h1,ys,h2,rfl⟩:=e
  exact⟨y,h _ _ h1,ys,optAll_imp h h2,rfl⟩
theorem resX_sound {h:List Item} {τ:St} (H:Hx σ τ h) {env:Env} {rs:List Rs} {v:GV} (e:resX σ h τ env rs=some v):resG env τ rs=some v:=by
 unfold resX at e
 unfold resG
 split at e
 ·exact rsX_sound H e
 ·rename_i hne
  split
  ·exact absurd rfl (hne _)
  ·obtain⟨vs,h1,h2⟩:=Option.bind_eq_some_iff.1 e
   rw[optAll_imp (fun x y=>rsX_sound H) h1];exact h2
theorem ret_x {f:Nat} {F:Fn1} {args:List GV} {σ1:St} {h0:List Item} {Post:GV→St→Prop} (hF:compFn P f=some F) (hl:args.length≤F.n) (H:Hx σ σ1 h0)
  (hc:sxc P σ F.c (fun e env h τ=>Hx σ τ h→isOut e=true∧∃ r,resX σ h τ env F.rs=some r∧Post r τ) (env0 args) h0 σ1):∃ r τ,Ret P f args σ1 r τ∧Post r τ:=
 ret_mut hF hl (vc_mono (sxc_sound H hc) fun e env τ he=>by
  obtain⟨hl,h,H,hq⟩:=he
  obtain⟨ho,r,hr,hp⟩:=hq H
  exact⟨ho,r,resX_sound H hr,hl,hp⟩)
end sound
end Go.Proofs.YtffnefmklckngaaGreat.Sy
namespace Go.Proofs.YtffnefmklckngaaGreat.Sy
open Go Go.RowKit
set_option linter.unusedSimpArgs false
set_option linter.unusedVariables false
def nextX (P:Program) (D:Bool) (σ:St) (r:List Op1) (K:Env→List Item→St→Prop) (env:Env) (d:Option Nat):Kx:=fun v h' τ'=>sx P D σ r K (upo env d v) h' τ'
section words
variable {P:Program} {D:Bool} {σ τ:St} {env:Env} {h:List Item} {r:List Op1} {K:Env→List Item→St→Prop} {k:Kx} {d:Option Nat} {Q:Qx}
@[go_sem] theorem nextX_ap {v:GV}:nextX P D σ r K env d v h τ=sx P D σ r K (upo env d v) h τ:=(rfl)
@[go_sem] theorem sx_nil:sx P D σ [] K env h τ=K env h τ:=(rfl)
@[go_sem] theorem sx_one {i:Ins}:sx P D σ (⟨d,none,i⟩::r) K env h τ=sxI P D σ env h τ (nextX P D σ r K env d) i:=(rfl)
@[go_sem] theorem sx_grd {g:Nat} {b:Bool} {i:Ins}:sx P D σ (⟨d,some (g,b),i⟩::r) K env h τ=gdX (some ((env g).bit,b)) (sxI P D σ env h τ (nextX P D σ r K env d) i) (nextX P D σ r K env d (.tup []) h τ):=(rfl)
@[go_sem] theorem gdX_tt {b:Bool} {A B:Prop}:gdX (some (some b,b)) A B=A:=by cases b<;>simp[gdX]
@[go_sem] theorem gdX_tf {A B:Prop}:gdX (some (some true,false)) A B=B:=by simp[gdX]
@[go_sem] theorem gdX_ft {A B:Prop}:gdX (some (some false,true)) A B=B:=by simp[gdX]
@[go_sem] theorem gdX_n {b:Bool} {A B:Prop}:gdX (some (none,b)) A B=B:=(rfl)
@[go_sem low] theorem gdX_t {c:Bool} {A B:Prop}:gdX (some (some c,true)) A B=((c=true→A)∧(c=false→B)):=(rfl)
@[go_sem low] theorem gdX_f {c:Bool} {A B:Prop}:gdX (some (some c,false)) A B=((c=true→B)∧(c=false→A)):=by
 simp only[gdX,Bool.not_false]
 exact propext And.comm
@[go_sem] theorem bindX_some {v:GV}:bindX (some v) k h τ=k v h τ:=(rfl)
@[go_sem] theorem ifX_t {A B:Prop}:ifX (some true) A B=A:=by simp[ifX]
@[go_sem] theorem ifX_f {A B:Prop}:ifX (some false) A B=B:=by simp[ifX]
@[go_sem low] theorem ifX_v {c:Bool} {A B:Prop}:ifX (some c) A B=((c=true→A)∧(c=false→B)):=(rfl)
theorem mapfst {v:Option GV}:(Option.map (·.1) (v.map fun v=>(v,([]:St))))=v:=by cases v<;>rfl
@[go_sem] theorem xi_mov {x:Opd}:sxI P D σ env h τ k (.mov x)=k (x.ev env) h τ:=(rfl)
@[go_sem] theorem xi_pick {c a b:Opd}:sxI P D σ env h τ k (.pick c a b)=bindX ((c.ev env).bit.map fun t=>if t then a.ev env else b.ev env) k h τ:=by
 simp only[sxI,exec]
 cases(c.ev env).bit<;>rfl
@[go_sem] theorem xi_new {cs:List GV}:sxI P D σ env h τ k (.new cs)=allocX σ h 1 cs (fun n=>.ptr n 0) k:=(rfl)
@[go_sem] theorem xi_box {x:Opd}:sxI P D σ env h τ k (.box x)=(notTup (x.ev env)=true∧allocX σ h 1 (x.ev env).cells (fun n=>.ptr n 0) k):=(rfl)
@[go_sem] theorem xi_build {z:List GV} {ps:List (Nat×Nat×Opd)}:sxI P D σ env h τ k (.build z ps)=bindX ((fillG z (ps.map fun p=>(p.1,p.2.1,p.2.2.ev env))).map .agg) k h τ:=by
 simp only[sxI,exec]
 cases fillG z (ps.map fun p=>(p.1,p.2.1,p.2.2.ev env))<;>rfl
@[go_sem] theorem xi_lit {z l:Nat} {ze:List GV} {ps:List (Nat×Nat×Opd)}:sxI P D σ env h τ k (.lit z l ze ps)=litX σ h z l k (fillG ze (ps.map fun p=>(p.1,p.2.1,p.2.2.ev env))):=(rfl)
@[go_sem] theorem litX_some {z l:Nat} {cs:List GV}:litX σ h z l k (some cs)=allocX σ h z cs (fun n=>.sl n 0 l) k:=(rfl)
@[go_sem] theorem xi_mks {z b:Nat} {ze:List GV} {n c:Opd}:sxI P D σ env h τ k (.mks z b ze n c)=mksX σ h z b ze k (natOf (some (n.ev env))) (natOf (some (c.ev env))):=(rfl)
@[go_sem] theorem mksX_some {z b:Nat} {ze:List GV} {n c:Nat}:mksX σ h z b ze k (some n) (some c)=(n=c∧n*b≤140737488355328∧allocX σ h z (reps n ze) (fun g=>.sl g 0 n) k):=(rfl)
@[go_sem] theorem xi_ld {g:Bool} {n:Nat} {a:Opd}:sxI P D σ env h τ k (.ld g n a)=bindX (ldX σ h τ g n (a.ev env)) k h τ:=(rfl)
@[go_sem] theorem xi_st {n:Nat} {a x:Opd}:sxI P D σ env h τ k (.st n a x)=stX σ D h τ n k (a.ev env) (x.ev env):=(rfl)
@[go_sem] theorem stX_ptr {n b off:Nat} {x:GV}:stX σ D h τ n k (.ptr b off) x=stB σ D h τ n k b off x (look h b):=(rfl)
@[go_sem] theorem stB_some {n b off:Nat} {x:GV} {cs:List GV}:stB σ D h τ n k b off x (some cs)=((D=false∧off+n≤cs.length∧0<n∧x.cells.length=n)∧∀ τ',Hx σ τ' (upd h b (splice cs off x.cells))→k (.tup []) (upd h b (splice cs off x.cells)) τ'):=(rfl)
@[go_sem] theorem xi_nck {x:Opd}:sxI P D σ env h τ k (.nck x)=bindX (nckG (x.ev env)) k h τ:=by simp only[sxI,exec,mapfst]
@[go_sem] theorem xi_bin {op:BinOp} {x y:Opd}:sxI P D σ env h τ k (.bin op x y)=bindX (binG op (x.ev env) (y.ev env)) k h τ:=by simp only[sxI,exec,mapfst]
@[go_sem] theorem xi_eqb {n:Bool} {x y:Opd}:sxI P D σ env h τ k (.eqb n x y)=bindX (eqbG n (x.ev env) (y.ev env)) k h τ:=by
 simp only[sxI,exec,eqbG]
 cases(x.ev env).bit with
 |none=>rfl
 |some a=>cases(y.ev env).bit<;>rfl
@[go_sem] theorem xi_eqn {p n:Bool} {x y:Opd}:sxI P D σ env h τ k (.eqn p n x y)=bindX ((nilG p (x.ev env) (y.ev env)).map fun b=>.bool (n ^^ b)) k h τ:=by
 simp only[sxI,exec]
 cases nilG p (x.ev env) (y.ev env)<;>rfl
@[go_sem] theorem xi_eqs {n:Bool} {ks:List Sc} {x y:Opd}:sxI P D σ env h τ k (.eqs n ks x y)=bindX (eqsG n ks (x.ev env) (y.ev env)) k h τ:=by
 simp only[sxI,exec]
 cases x.ev env<;>first|rfl|skip
 cases y.ev env<;>first|rfl|skip
 simp only[eqsG]
 cases scsEq ks _ _<;>rfl
@[go_sem] theorem xi_un {op:UnOp} {x:Opd}:sxI P D σ env h τ k (.un op x)=bindX (unG op (x.ev env)) k h τ:=by simp only[sxI,exec,mapfst]
@[go_sem] theorem xi_cvi {kd:IntKind} {x:Opd}:sxI P D σ env h τ k (.cvi kd x)=bindX (cviG kd (x.ev env)) k h τ:=by
 simp only[sxI,exec]
 cases x.ev env<;>rfl
@[go_sem] theorem xi_bts {x:Opd}:sxI P D σ env h τ k (.bts x)=bindX ((elems τ 1 (x.ev env)).bind fun r=>(bytesOf r.2).map fun bs=>.str ⟨bs.toArray⟩) k h τ:=(rfl)
@[go_sem] theorem xi_mkf {f:Nat} {cs:List Opd}:sxI P D σ env h τ k (.mkf f cs)=bindX ((cs.mapM fun c=>capOf (c.ev env)).map fun cs=>.fn f cs) k h τ:=by
 simp only[sxI,exec]
 cases cs.mapM fun c=>capOf (c.ev env)<;>rfl
@[go_sem] theorem xi_cutS {x:Opd} {lo hi:Option Opd}:sxI P D σ env h τ k (.cutS x lo hi)=bindX (cutSG (x.ev env) (lo.map (·.ev env)) (hi.map (·.ev env))) k h τ:=by simp only[sxI,exec,mapfst]
@[go_sem] theorem xi_cut {z:Nat} {x:Opd} {lo hi:Option Opd}:sxI P D σ env h τ k (.cut z x lo hi)=bindX (if zOk τ z (x.ev env) then cutG z (x.ev env) (lo.map (·.ev env)) (hi.map (·.ev env)) else none) k h τ:=(rfl)
@[go_sem] theorem xi_fad {n:Nat} {a:Opd}:sxI P D σ env h τ k (.fad n a)=bindX (fadG n (a.ev env)) k h τ:=by
 simp only[sxI,exec]
 cases a.ev env<;>rfl
@[go_sem] theorem xi_part {g:Bool} {off n:Nat} {x:Opd}:sxI P D σ env h τ k (.part g off n x)=bindX (partV g off n (x.ev env)) k h τ:=by
 simp only[sxI,exec]
 cases x.ev env with
 |agg cs=>
  simp only[partV]
  cases seg cs off n with
  |none=>rfl
  |some q=>simp only[Option.bind_some,mapfst]
 |_=>rfl
@[go_sem] theorem xi_iad {z:Nat} {x i:Opd}:sxI P D σ env h τ k (.iad z x i)=bindX (iadG z (x.ev env) (natOf (some (i.ev env)))) k h τ:=by
 simp only[sxI,exec]
 cases x.ev env with
 |sl g off len=>
  simp only
  cases natOf (some (i.ev env)) with
  |none=>rfl
  |some n=>
   simp only[Option.bind_some,iadG]
   split<;>rfl
 |_=>rfl
@[go_sem] theorem xi_idx {x i:Opd}:sxI P D σ env h τ k (.idx x i)=bindX (idxG (x.ev env) (natOf (some (i.ev env)))) k h τ:=by
 simp only[sxI,exec]
 cases x.ev env with
 |str s=>
  simp only
  cases natOf (some (i.ev env)) with
  |none=>rfl
  |some n=>
   simp only[Option.bind_some,idxG]
   cases s[n]? <;>rfl
 |_=>rfl
@[go_sem] theorem xi_ext {i:Nat} {x:Opd}:sxI P D σ env h τ k (.ext i x)=bindX (extG i (x.ev env)) k h τ:=by
 simp only[sxI,exec]
 cases x.ev env with
 |tup vs=>
  simp only[extG]
  cases vs[i]? with
  |none=>rfl
  |some v=>cases v<;>rfl
 |_=>rfl
@[go_sem] theorem xi_len {s:Bool} {x:Opd}:sxI P D σ env h τ k (.len s x)=bindX ((lenG s (x.ev env)).map fun n=>.int .i64 n) k h τ:=by
 simp only[sxI,exec]
 cases lenG s (x.ev env)<;>rfl
@[go_sem] theorem xi_app {z b:Nat} {ze:List GV} {s x:Opd}:sxI P D σ env h τ k (.app z b ze s x)=genX σ D τ (appV z b τ (s.ev env) (x.ev env)) k:=(rfl)
@[go_sem] theorem xi_mm {m:Bool} {x y:Opd}:sxI P D σ env h τ k (.mm m x y)=bindX (mmG m (x.ev env) (y.ev env)) k h τ:=by
 simp only[sxI,exec]
 cases x.ev env<;>first|rfl|skip
 cases y.ev env<;>rfl
@[go_sem] theorem xi_clr {z:Nat} {ze:List GV} {x:Opd}:sxI P D σ env h τ k (.clr z ze x)=genX σ D τ (clrG z ze τ (x.ev env)) k:=(rfl)
@[go_sem] theorem xi_pan:sxI P D σ env h τ k .pan=False:=(rfl)
@[go_sem] theorem xi_mkm:sxI P D σ env h τ k .mkm=genX σ D τ (some (.mp τ.length,τ++[some (.map [])])) k:=(rfl)
@[go_sem] theorem xi_mlk {ks:List Sc} {z:GV} {ok:Bool} {m k':Opd}:sxI P D σ env h τ k (.mlk ks z ok m k')=bindX (mlkG τ ks z ok (m.ev env) (k'.ev env)) k h τ:=(rfl)
@[go_sem] theorem xi_mup {ks:List Sc} {m k' v:Opd}:sxI P D σ env h τ k (.mup ks m k' v)=genX σ D τ (mupG τ ks (m.ev env) (k'.ev env) (v.ev env)) k:=(rfl)
@[go_sem] theorem xi_call {f:Nat} {xs:List Opd}:sxI P D σ env h τ k (.call f xs)=callX P σ D τ f (xs.map (·.ev env)) k:=(rfl)
@[go_sem] theorem xi_callv {x:Opd} {xs:List Opd}:sxI P D σ env h τ k (.callv x xs)=fnX P σ D τ (xs.map (·.ev env)) k (x.ev env):=(rfl)
@[go_sem] theorem fnX_fn {f:Nat} {caps:List (Nat×Nat)} {args:List GV}:fnX P σ D τ args k (.fn f caps)=callX P σ D τ f (args++caps.map fun c=>.ptr c.1 c.2) k:=(rfl)
@[go_sem] theorem xi_chk {d' n t:Nat} {g:Bool}:sxI P D σ env h τ k (.chk d' (.ld g n (.t t)))=(ldX σ h τ g n (env t)=some (env d')∧k (.tup []) h τ):=(rfl)
@[go_sem] theorem allocX_def {z:Nat} {cs:List GV} {v:Nat→GV}:allocX σ h z cs v k=∀ n,frX σ h n→∀ τ',Hx σ τ' (.box z n cs::h)→k (v n) (.box z n cs::h) τ':=(rfl)
@[go_sem] theorem frX_nil {n:Nat}:frX σ [] n=(σ.length≤n):=(rfl)
@[go_sem] theorem frX_box {z m n:Nat} {cs:List GV}:frX σ (.box z m cs::h) n=(m<n∧frX σ h n):=(rfl)
@[go_sem] theorem frX_th {n:Nat} {q:Thg}:frX σ (.th q::h) n=frX σ h n:=(rfl)
@[go_sem] theorem look_eq {z n:Nat} {cs:List GV}:look (.box z n cs::h) n=some cs:=by simp[look]
@[go_sem low] theorem look_ne {z m n:Nat} {cs:List GV} (hn:m≠n):look (.box z m cs::h) n=look h n:=by simp[look,hn]
@[go_sem] theorem look_th {n:Nat} {q:Thg}:look (.th q::h) n=look h n:=(rfl)
@[go_sem] theorem upd_eq {z n:Nat} {cs ds:List GV}:upd (.box z n cs::h) n ds= .box z n ds::h:=by simp[upd]
@[go_sem low] theorem upd_ne {z m n:Nat} {cs ds:List GV} (hn:m≠n):upd (.box z m cs::h) n ds= .box z m cs::upd h n ds:=by simp[upd,hn]
@[go_sem] theorem upd_th {n:Nat} {q:Thg} {ds:List GV}:upd (.th q::h) n ds= .th q::upd h n ds:=(rfl)
@[go_sem] theorem ldX_ptr {g:Bool} {n b off:Nat} (hb:σ.length≤b):ldX σ h τ g n (.ptr b off)=ldB (look h b) g n off (ldG g n τ (.ptr b off)):=by
 have:ldG g n σ (.ptr b off)=none:=by
  simp only[ldG,rdB]
  rw[List.getElem?_eq_none hb];rfl
 simp only[ldX,this,orX,ldY]
@[go_sem] theorem ldX_at {g:Bool} {n z i:Nat} {v:GV}:ldX σ h τ g n (atz z v i)=orX (ldG g n σ (atz z v i)) (ldY h τ g n (atz z v i)):=(rfl)
@[go_sem] theorem ldX_fld {g:Bool} {n z i m:Nat} {v:GV}:ldX σ h τ g n (fld m (atz z v i))=orX (ldG g n σ (fld m (atz z v i))) (ldY h τ g n (fld m (atz z v i))):=(rfl)
@[go_sem] theorem orX_some {x:GV} {b:Option GV}:orX (some x) b=some x:=(rfl)
@[go_sem] theorem orX_none {b:Option GV}:orX none b=b:=(rfl)
@[go_sem] theorem ldB_some {cs:List GV} {g:Bool} {n off:Nat} {e:Option GV}:ldB (some cs) g n off e=(seg cs off n).bind (mkv g):=(rfl)
@[go_sem] theorem cells_i {kd:IntKind} {n:Int}:(GV.int kd n).cells=[.int kd n]:=(rfl)
@[go_sem] theorem cells_s {s:ByteArray}:(GV.str s).cells=[.str s]:=(rfl)
@[go_sem] theorem cells_b {b:Bool}:(GV.bool b).cells=[.bool b]:=(rfl)
@[go_sem] theorem cells_p {n o:Nat}:(GV.ptr n o).cells=[.ptr n o]:=(rfl)
@[go_sem] theorem cells_l {n o l:Nat}:(GV.sl n o l).cells=[.sl n o l]:=(rfl)
@[go_sem] theorem cells_a {cs:List GV}:(GV.agg cs).cells=cs:=(rfl)
@[go_sem] theorem cells_n:(GV.nilS).cells=[.nilS]:=(rfl)
@[go_sem] theorem cells_m {n:Nat}:(GV.mp n).cells=[.mp n]:=(rfl)
@[go_sem] theorem cells_f {f:Nat} {c:List (Nat×Nat)}:(GV.fn f c).cells=[.fn f c]:=(rfl)
@[go_sem] theorem notTup_p {n o:Nat}:notTup (.ptr n o)=true:=(rfl)
@[go_sem] theorem notTup_m {n:Nat}:notTup (.mp n)=true:=(rfl)
@[go_sem] theorem notTup_f {f:Nat} {c:List (Nat×Nat)}:notTup (.fn f c)=true:=(rfl)
@[go_sem] theorem xc_skip:sxc P σ .skip Q env h τ=Q .nxt env h τ:=(rfl)
@[go_sem] theorem xc_reg {os:List Op1}:sxc P σ (.reg os) Q env h τ=sx P false σ os (Q .nxt) env h τ:=(rfl)
@[go_sem] theorem xc_drw {a1 bs:List Op1}:sxc P σ (.drw a1 bs) Q env h τ=sx P true σ a1 (sx P false σ bs (Q .nxt)) env h τ:=(rfl)
@[go_sem] theorem xc_seq {a b:Cd}:sxc P σ (.seq a b) Q env h τ=sxc P σ a (fun e=>match e with
  | .nxt=>sxc P σ b Q
  |e=>Q e) env h τ:=(rfl)
@[go_sem] theorem xc_cnd {c:Opd} {a b:Cd}:sxc P σ (.cnd c a b) Q env h τ=ifX (c.ev env).bit (sxc P σ a Q env h τ) (sxc P σ b Q env h τ):=(rfl)
@[go_sem] theorem xc_blk {id:Nat} {a:Cd}:sxc P σ (.blk id a) Q env h τ=sxc P σ a (fun e=>match e with
  | .ext j=>if j=id then Q .nxt else Q (.ext j)
  |e=>Q e) env h τ:=(rfl)
@[go_sem] theorem xc_ext {id:Nat}:sxc P σ (.ext id) Q env h τ=Q (.ext id) env h τ:=(rfl)
@[go_sem] theorem xc_ret:sxc P σ .ret Q env h τ=Q .ret env h τ:=(rfl)
@[go_sem] theorem rsX_t {n:Nat}:rsX σ h τ env (.t n)=some (env n):=(rfl)
@[go_sem] theorem rsX_c {a n:Nat} {g:Bool}:rsX σ h τ env (.c a g n)=ldX σ h τ g n (env a):=(rfl)
@[go_sem] theorem resX_1 {x:Rs}:resX σ h τ env [x]=rsX σ h τ env x:=(rfl)
@[go_sem] theorem resX_0:resX σ h τ env []=some (.tup []):=(rfl)
@[go_sem] theorem resX_2 {x y:Rs}:resX σ h τ env [x,y]=tup2 (rsX σ h τ env x) (rsX σ h τ env y):=by
 simp only[resX,optAll,tup2]
 cases rsX σ h τ env x with
 |none=>rfl
 |some u=>cases rsX σ h τ env y<;>simp
@[go_sem] theorem resX_3 {x y z:Rs}:resX σ h τ env [x,y,z]=tup3 (rsX σ h τ env x) (rsX σ h τ env y) (rsX σ h τ env z):=by
 simp only[resX,optAll,tup3]
 cases rsX σ h τ env x with
 |none=>rfl
 |some u=>cases rsX σ h τ env y with
  |none=>rfl
  |some v=>cases rsX σ h τ env z<;>simp
end words
end Go.Proofs.YtffnefmklckngaaGreat.Sy
namespace Go.Proofs.YtffnefmklckngaaGreat.Sy
open Go Go.RowKit
set_option linter.unusedSimpArgs false
set_option linter.unusedVariables false
theorem sat_feet {τ:St}:∀ {rs:List Thg} {fp:List Nat},sat τ rs fp→fp.Nodup→∃ F:Nat→List Nat,(∀ (i:Nat) (r:Thg),rs[i]? =some r→r.P τ (F i))∧(∀ i,(F i).Nodup)∧(∀ i j,i≠j→∀ g∈F i,g∉F j)∧∀ i,∀ g∈F i,g∈fp
 |[],fp,h,hn=>⟨fun _=>[],by simp,by simp,by simp,by simp⟩
 |r::rs,_,⟨a,b,hr,hs,rfl⟩,hn=>by
  rw[List.nodup_append] at hn
  obtain⟨F,h1,h2,h3,h4⟩:=sat_feet hs hn.2.1
  refine⟨fun i=>match i with|0=>a|i+1=>F i,?_,?_,?_,?_⟩
  ·intro i s hi
   cases i with
   |zero=>simp at hi;subst hi;exact hr
   |succ i=>exact h1 i s (by simpa using hi)
  ·intro i;cases i with
   |zero=>exact hn.1
   |succ i=>exact h2 i
  ·intro i j hij g hg
   cases i with
   |zero=>cases j with
    |zero=>exact absurd rfl hij
    |succ j=>exact fun h=>hn.2.2 g hg g (h4 j g h) rfl
   |succ i=>cases j with
    |zero=>exact fun h=>hn.2.2 g h g (h4 i g hg) rfl
    |succ j=>exact h3 i j (by omega) g hg
  ·intro i g hg
   cases i with
   |zero=>exact List.mem_append_left _ hg
   |succ i=>exact List.mem_append_right _ (h4 i g hg)
theorem sat_sel {τ:St} {rs:List Thg} {F:Nat→List Nat} (h1:∀(i:Nat) (r:Thg),rs[i]? =some r→r.P τ (F i)) (h2:∀ i,(F i).Nodup) (h3:∀ i j,i≠j→∀ g∈F i,g∉F j):∀ {is:List Nat},is.Nodup→∃ fp,sat τ (is.filterMap (rs[·]?)) fp∧fp.Nodup∧∀ g∈fp,∃ i∈is,g∈F i
 |[],_=>⟨[],rfl,by simp,by simp⟩
 |i::is,hn=>by
  rw[List.nodup_cons] at hn
  obtain⟨fp,k1,k2,k3⟩:=sat_sel h1 h2 h3 hn.2
  cases hi:rs[i]? with
  |none=>exact⟨fp,by rw[List.filterMap_cons,hi];exact k1,k2,fun g hg=>by obtain⟨j,hj,h⟩:=k3 g hg;exact⟨j,List.mem_cons_of_mem _ hj,h⟩⟩
  |some r=>
   refine⟨F i++fp,by rw[List.filterMap_cons,hi];exact⟨F i,fp,h1 i r hi,k1,rfl⟩,List.nodup_append.2 ⟨h2 i,k2,fun x hx y hy e=> ?_⟩,fun g hg=> ?_⟩
   ·subst e
    obtain⟨j,hj,h⟩:=k3 x hy
    exact h3 i j (fun e=>hn.1 (by rw[e];exact hj)) x hx h
   ·rcases List.mem_append.1 hg with hg|hg
    ·exact⟨i,List.mem_cons_self,hg⟩
    ·obtain⟨j,hj,h⟩:=k3 g hg;exact⟨j,List.mem_cons_of_mem _ hj,h⟩
theorem Hp.sel {σ τ:St} {rs:List Thg} (H:Hp σ τ rs) (is:List Nat) (hn:is.Nodup):Hp σ τ (is.filterMap (rs[·]?)):=by
 obtain⟨h,fp,hs,hnd,hb⟩:=H
 obtain⟨F,h1,h2,h3,h4⟩:=sat_feet hs hnd
 obtain⟨fp',k1,k2,k3⟩:=sat_sel h1 h2 h3 hn
 exact⟨h,fp',k1,k2,fun g hg=>by obtain⟨i,_,hi⟩:=k3 g hg;exact hb g (h4 i g hi)⟩
theorem Hx.sel {σ τ:St} {h:List Item} (H:Hx σ τ h) (is:List Nat) (hn:is.Nodup):Hp σ τ (is.filterMap ((h.map Item.t)[·]?)):=Hp.sel H is hn
theorem Hx.re {σ τ:St} {h:List Item} (H:Hx σ τ h) (is:List Nat) (hn:is.Nodup):Hx σ τ (is.filterMap (h[·]?)):=by
 have e:(is.filterMap (h[·]?)).map Item.t=is.filterMap ((h.map Item.t)[·]?):=by
  induction is with
  |nil=>rfl
  |cons i is ih=>
   have ih:=ih (List.nodup_cons.1 hn).2
   rw[List.filterMap_cons,List.filterMap_cons,List.getElem?_map]
   cases h[i]? with
   |none=>exact ih
   |some x=>simp only[Option.map_some,List.map_cons,ih]
 unfold Hx
 rw[e]
 exact H.sel is hn
section os
variable {α:Type} {d:Kd α} {σ τ:St} {l:List α} {v:GV} {fp:List Nat}
end os
section rules
variable {P:Program} {D:Bool} {σ τ τ':St} {env:Env} {h:List Item} {k:Kx} {f:Nat} {args:List GV} {v:GV} {α:Type}
theorem map_th {rs:List Thg} {h:List Item}:(rs.map Item.th++h).map Item.t=rs++h.map Item.t:=by
 rw[List.map_append,List.map_map]
 congr 1
 exact List.map_id _
theorem by_cs {rs:List Thg} (H:Hx σ τ h) (R:Ret P f args τ v τ') (K:Hp τ τ' rs) (kk:Hx σ τ' (rs.map Item.th++h)→k v (rs.map Item.th++h) τ'):callX P σ D τ f args k:=by
 have H':Hx σ τ' (rs.map Item.th++h):=by unfold Hx;rw[map_th];exact H.hp.add K
 exact⟨v,τ',_,R,fun _=>K.sub,H',kk H'⟩
theorem by_c {r:Thg} (H:Hx σ τ h) (R:Ret P f args τ v τ') (K:Hp τ τ' [r]) (kk:Hx σ τ' (.th r::h)→k v (.th r::h) τ'):callX P σ D τ f args k:=by_cs H R K kk
theorem at_t {h:List Item} {i:Nat} {r:Thg} (hi:h[i]? =some (.th r)):(h.map Item.t)[i]? =some r:=by rw[List.getElem?_map,hi];rfl
theorem genX_mono {e:Option (GV×St)} {k k':Kx} (hk:∀ v h τ,k v h τ→k' v h τ):genX σ D τ e k→genX σ D τ e k':=fun⟨v,τ',h',h1,h2,h3,h4⟩=>⟨v,τ',h',h1,h2,h3,hk _ _ _ h4⟩
theorem alloc_mono {z:Nat} {cs:List GV} {w:Nat→GV} {k k':Kx} (hk:∀ v h τ,k v h τ→k' v h τ) (e:allocX σ h z cs w k):allocX σ h z cs w k':=fun n hf τ' H=>hk _ _ _ (e n hf τ' H)
theorem sxI_mono {k k':Kx} (hk:∀ v h τ,k v h τ→k' v h τ):∀ {i:Ins},sxI P D σ env h τ k i→sxI P D σ env h τ k' i:=by
 have bm:∀ {v:Option GV},bindX v k h τ→bindX v k' h τ:=fun {v} e=>by
  cases v with
  |none=>exact e
  |some v=>exact hk _ _ _ e
 intro i e
 cases i with
 |new cs=>exact alloc_mono hk e
 |box x=>exact⟨e.1,alloc_mono hk e.2⟩
 |lit z len zero parts=>
  simp only[sxI] at e ⊢
  revert e
  cases fillG zero (parts.map fun p=>(p.1,p.2.1,p.2.2.ev env)) with
  |none=>exact id
  |some cs=>exact alloc_mono hk
 |mks z b ze n c=>
  simp only[sxI] at e ⊢
  revert e
  cases natOf (some (n.ev env)) with
  |none=>exact id
  |some n=>cases natOf (some (c.ev env)) with
   |none=>exact id
   |some c=>exact fun e=>⟨e.1,e.2.1,alloc_mono hk e.2.2⟩
 |st n a x=>
  simp only[sxI] at e ⊢
  revert e
  cases a.ev env with
  |ptr b off=>
   simp only[stX]
   unfold stB
   cases look h b with
   |none=>exact genX_mono hk
   |some cs=>exact fun e=>⟨e.1,fun τ' H=>hk _ _ _ (e.2 τ' H)⟩
  |_=>exact genX_mono hk
 |call f xs=>
  obtain⟨v,τ',h',h1,h2,h3,h4⟩:=e
  exact⟨v,τ',h',h1,h2,h3,hk _ _ _ h4⟩
 |callv x xs=>
  simp only[sxI] at e ⊢
  revert e
  cases x.ev env with
  |fn f caps=>exact fun⟨v,τ',h',h1,h2,h3,h4⟩=>⟨v,τ',h',h1,h2,h3,hk _ _ _ h4⟩
  |_=>exact id
 |chk d x=>
  cases x with
  |ld g n a=>cases a with
   |t t=>exact⟨e.1,hk _ _ _ e.2⟩
   |k v=>exact e
  |_=>exact e
 |app z b ze s x=>exact genX_mono hk e
 |clr z ze x=>exact genX_mono hk e
 |mkm=>exact genX_mono hk e
 |mup ks m k2 v=>exact genX_mono hk e
 |mov x=>exact hk _ _ _ e
 |pan=>exact e
 |_=>exact bm e
theorem sx_mono:∀ {os:List Op1} {K K':Env→List Item→St→Prop} {env:Env} {h:List Item} {τ:St},(∀ env h τ,K env h τ→K' env h τ)→sx P D σ os K env h τ→sx P D σ os K' env h τ
 |[],K,K',env,h,τ,hk,e=>hk _ _ _ e
 |o::r,K,K',env,h,τ,hk,e=>by
  simp only[sx] at e ⊢
  have y:sxI P D σ env h τ (fun v h' τ'=>sx P D σ r K (upo env o.d v) h' τ') o.i→sxI P D σ env h τ (fun v h' τ'=>sx P D σ r K' (upo env o.d v) h' τ') o.i:=sxI_mono fun v h τ=>sx_mono hk
  have n:sx P D σ r K (upo env o.d (.tup [])) h τ→sx P D σ r K' (upo env o.d (.tup [])) h τ:=sx_mono hk
  revert e
  cases o.g.map fun g=>((env g.1).bit,g.2) with
  |none=>exact y
  |some q=>
   obtain⟨c,b⟩:=q
   cases c with
   |none=>exact n
   |some c=>exact fun e=>⟨fun hc=>y (e.1 hc),fun hc=>n (e.2 hc)⟩
theorem sxc_mono {d:Cd}:∀ {Q Q':Qx} {env:Env} {h:List Item} {τ:St},(∀ e env h τ,Q e env h τ→Q' e env h τ)→sxc P σ d Q env h τ→sxc P σ d Q' env h τ:=by
 induction d with
 |skip=>intro Q Q' env h τ hq e;exact hq _ _ _ _ e
 |reg ops=>intro Q Q' env h τ hq e;exact sx_mono (hq _) e
 |drw a1 bs=>intro Q Q' env h τ hq e;exact sx_mono (fun _ _ _=>sx_mono (hq _)) e
 |seq a b iha ihb=>
  intro Q Q' env h τ hq e
  refine iha (fun e env h τ he=> ?_) e
  cases e with
  |nxt=>exact ihb hq he
  |ext j=>exact hq _ _ _ _ he
  |ret=>exact hq _ _ _ _ he
 |cnd c a b iha ihb=>
  intro Q Q' env h τ hq e
  simp only[sxc] at e ⊢
  unfold ifX at e ⊢
  split
  ·rename_i hc;rw[hc] at e;exact⟨fun k=>iha hq (e.1 k),fun k=>ihb hq (e.2 k)⟩
  ·rename_i hc;rw[hc] at e;exact e
 |blk id a ih=>
  intro Q Q' env h τ hq e
  refine ih (fun e env h τ he=> ?_) e
  cases e with
  |nxt=>exact hq _ _ _ _ he
  |ext j=>
   simp only at he ⊢
   split at he
   ·rename_i hj;rw[if_pos hj];exact hq _ _ _ _ he
   ·rename_i hj;rw[if_neg hj];exact hq _ _ _ _ he
  |ret=>exact hq _ _ _ _ he
 |lop a ih=>
  intro Q Q' env h τ hq e
  obtain⟨I,n,h0,H0,hI,hs⟩:=e
  refine⟨I,n,h0,H0,hI,fun k env h τ H hi=>ih (fun e env' h' τ' he=> ?_) (hs k env h τ H hi)⟩
  cases e with
  |nxt=>exact he
  |ext j=>obtain⟨h1,H1,he⟩:=he;exact⟨h1,H1,hq _ _ _ _ he⟩
  |ret=>obtain⟨h1,H1,he⟩:=he;exact⟨h1,H1,hq _ _ _ _ he⟩
 |ext id=>intro Q Q' env h τ hq e;exact hq _ _ _ _ e
 |ret=>intro Q Q' env h τ hq e;exact hq _ _ _ _ e
variable {a b:Cd} {Q:Qx}
theorem sx_lop (n j0:Nat) (I:Nat→Env→List Item→Prop) (X Z:Env→List Item→Prop) (h0:List Item) (H0:Hx σ τ h0) (hI:I n env h0)
  (hs:∀(J:Nat→Env→St→Prop) (Y W:Env→St→Prop),(∀ i env h τ,Hx σ τ h→I i env h→J i env τ)→(∀ env h τ,Hx σ τ h→X env h→Y env τ)→(∀ env h τ,Hx σ τ h→Z env h→W env τ)→∀ i env h τ,Hx σ τ h→I i env h→sxc P σ a (fun e env' h' τ'=>match e with
   | .nxt=>∃ i',i'<i∧J i' env' τ'
   | .ext j=>j=j0∧Y env' τ'
   | .ret=>W env' τ') env h τ)
  (hx:∀ env h τ,Hx σ τ h→X env h→Q (.ext j0) env h τ) (hz:∀ env h τ,Hx σ τ h→Z env h→Q .ret env h τ):sxc P σ (.lop a) Q env h τ:=by
 refine⟨fun i env h τ=>I i env h,n,h0,H0,hI,fun i env h τ H hi=>sxc_mono (fun e env' h' τ' he=> ?_) (hs (fun i env τ=>∃ h,Hx σ τ h∧I i env h) (fun env τ=>∃ h,Hx σ τ h∧X env h) (fun env τ=>∃ h,Hx σ τ h∧Z env h) (fun _ _ h _ H e=>⟨h,H,e⟩) (fun _ h _ H e=>⟨h,H,e⟩) (fun _ h _ H e=>⟨h,H,e⟩) i env h τ H hi)⟩
 cases e with
 |nxt=>obtain⟨i',h1,h2,h3,h4⟩:=he;exact⟨i',h2,h1,h3,h4⟩
 |ext j=>obtain⟨rfl,h2,h3,h4⟩:=he;exact⟨h2,h3,hx _ _ _ h3 h4⟩
 |ret=>obtain⟨h2,h3,h4⟩:=he;exact⟨h2,h3,hz _ _ _ h3 h4⟩
theorem sx_for (n ri j0:Nat) (I:Nat→Env→List Item→Prop) (X Z:Env→List Item→Prop) (h0:List Item) (H0:Hx σ τ h0) (hr:env ri=gi 0) (hI:I 0 env h0)
  (hs:∀(J:Nat→Env→St→Prop) (Y W:Env→St→Prop),(∀ i env h τ,Hx σ τ h→I i env h→J i env τ)→(∀ env h τ,Hx σ τ h→X env h→Y env τ)→(∀ env h τ,Hx σ τ h→Z env h→W env τ)→∀ i env h τ,i<n→env ri=gi i→decide ((i:Int)<n)=true→Hx σ τ h→I i env h→sxc P σ a (fun e env' h' τ'=>match e with
   | .nxt=>env' ri=gi ((i:Int)+1)∧J (i+1) env' τ'
   | .ext j=>j=j0∧Y env' τ'
   | .ret=>W env' τ') env h τ)
  (he:∀(Y:Env→St→Prop),(∀ env h τ,Hx σ τ h→X env h→Y env τ)→∀ env h τ,env ri=gi n→decide ((n:Int)<n)=false→Hx σ τ h→I n env h→sxc P σ a (fun e env' h' τ'=>match e with
   | .nxt=>False
   | .ext j=>j=j0∧Y env' τ'
   | .ret=>False) env h τ)
  (hx:∀ env h τ,Hx σ τ h→X env h→Q (.ext j0) env h τ) (hz:∀ env h τ,Hx σ τ h→Z env h→Q .ret env h τ):sxc P σ (.lop a) Q env h τ:=by
 refine sx_lop n j0 (fun k env h=>∃ i:Nat,k=n - i∧i≤n∧env ri=gi i∧I i env h) X Z h0 H0 ⟨0,rfl,Nat.zero_le _,hr,hI⟩ (fun J Y W hJ hY hW k env h τ H hi=> ?_) hx hz
 obtain⟨i,rfl,h1,h2,h3⟩:=hi
 rcases Nat.lt_or_ge i n with hlt|hge
 ·refine sxc_mono (fun e env' h' τ' q=> ?_) (hs (fun i' env τ=>i'≤n→env ri=gi i'→J (n - i') env τ) Y W (fun j env h τ H e hj hr=>hJ _ env h τ H ⟨j,rfl,hj,hr,e⟩) hY hW i env h τ hlt h2 (by simp;omega) H h3)
  cases e with
  |nxt=>exact⟨n - (i+1),by omega,q.2 (by omega) q.1⟩
  |ext j=>exact q
  |ret=>exact q
 ·obtain rfl:i=n:=by omega
  refine sxc_mono (fun e env' h' τ' q=> ?_) (he Y hY env h τ h2 (by simp) H h3)
  cases e with
  |nxt=>exact q.elim
  |ext j=>exact q
  |ret=>exact q.elim
end rules
end Go.Proofs.YtffnefmklckngaaGreat.Sy
