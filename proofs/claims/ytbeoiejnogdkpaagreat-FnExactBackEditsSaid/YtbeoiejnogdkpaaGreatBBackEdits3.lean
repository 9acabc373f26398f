/- Texts of this proof, one behind the other. -/
import Derived.Test.YtbeoiejnogdkpaaGreatBBackEdits2
import Derived.Test.YtbeoiejnogdkpaaGreatProg
import Derived.KernelRfl
import Derived.Sort.LotC
set_option linter.unusedSimpArgs false
set_option linter.unusedVariables false
set_option maxRecDepth 4000
namespace Go.Proofs.YtbeoiejnogdkpaaGreat.Sy
section
open Go Go.RowKit
abbrev Pu:Nat:=257
def Pv:Fn1:=⟨37,[.t 4],(.seq (.reg [o 3 (.box (.t 1)),o 4 (.mov (.k .nilS))]) (.seq (.reg [o 5 (.mov (.k (.int .i64 0)))]) (.seq (.blk 0 (.lop (.seq (.seq (.drw [o 7 (.mov (.t 5)),o 8 (.mov (.t 0)),o 9 (.len false (.t 8)),o 10 (.bin .lss (.t 7) (.t 9)),o 11 (.mov (.t 10)),og 12 11 true (.mov (.t 0)),og 13 11 true (.mov (.t 5)),og 14 11 true (.iad 6 (.t 12) (.t 13)),og 15 11 true (.fad 4 (.t 14)),og 16 11 true (.ld true 2 (.t 15)),og 17 11 true (.fad 4 (.t 3)),og 18 11 true (.ld true 2 (.t 17))] [og 19 11 true (.call 306 [(.t 16),(.t 18)]),og 20 11 true (.bin .lss (.t 19) (.k (.int .i64 0))),o 21 (.pick (.t 11) (.t 20) (.k (.bool false)))]) (.cnd (.t 21) .skip (.ext 0))) (.blk 1 (.reg [o 22 (.mov (.t 5)),o 23 (.bin .add (.t 22) (.k (.int .i64 1))),o 5 (.mov (.t 23))]))))) (.seq (.drw [o 24 (.lit 6 0 [] []),o 25 (.mov (.t 0)),o 26 (.mov (.t 5)),o 27 (.cut 6 (.t 25) none (some (.t 26))),o 28 (.app 6 64 [(.bool false),(.str ⟨#[]⟩),(.str ⟨#[]⟩),(.int .i64 0),(.int .i64 0),(.int .i64 0)] (.t 24) (.t 27)),o 29 (.ld true 6 (.t 3)),o 30 (.lit 6 1 [(.bool false),(.str ⟨#[]⟩),(.str ⟨#[]⟩),(.int .i64 0),(.int .i64 0),(.int .i64 0)] [(0,6,(.t 29))])] [o 31 (.app 6 64 [(.bool false),(.str ⟨#[]⟩),(.str ⟨#[]⟩),(.int .i64 0),(.int .i64 0),(.int .i64 0)] (.t 28) (.t 30)),o 6 (.mov (.t 31))]) (.seq (.reg [o 32 (.mov (.t 6)),o 33 (.mov (.t 0)),o 34 (.mov (.t 5)),o 35 (.cut 6 (.t 33) (some (.t 34)) none),o 36 (.app 6 64 [(.bool false),(.str ⟨#[]⟩),(.str ⟨#[]⟩),(.int .i64 0),(.int .i64 0),(.int .i64 0)] (.t 32) (.t 35)),o 4 (.mov (.t 36))]) .ret)))))⟩
theorem Z1:A5 Tryz.prog Pu=some Pv:=by kernel_rfl
abbrev Pw:Nat:=259
def Px:Fn1:=⟨37,[.t 4],(.seq (.reg [o 3 (.box (.t 1)),o 4 (.mov (.k .nilS))]) (.seq (.reg [o 5 (.mov (.k (.int .i64 0)))]) (.seq (.blk 0 (.lop (.seq (.seq (.drw [o 7 (.mov (.t 5)),o 8 (.mov (.t 0)),o 9 (.len false (.t 8)),o 10 (.bin .lss (.t 7) (.t 9)),o 11 (.mov (.t 10)),og 12 11 true (.mov (.t 0)),og 13 11 true (.mov (.t 5)),og 14 11 true (.iad 8 (.t 12) (.t 13)),og 15 11 true (.fad 1 (.t 14)),og 16 11 true (.ld true 2 (.t 15)),og 17 11 true (.fad 1 (.t 3)),og 18 11 true (.ld true 2 (.t 17))] [og 19 11 true (.call 306 [(.t 16),(.t 18)]),og 20 11 true (.bin .lss (.t 19) (.k (.int .i64 0))),o 21 (.pick (.t 11) (.t 20) (.k (.bool false)))]) (.cnd (.t 21) .skip (.ext 0))) (.blk 1 (.reg [o 22 (.mov (.t 5)),o 23 (.bin .add (.t 22) (.k (.int .i64 1))),o 5 (.mov (.t 23))]))))) (.seq (.drw [o 24 (.lit 8 0 [] []),o 25 (.mov (.t 0)),o 26 (.mov (.t 5)),o 27 (.cut 8 (.t 25) none (some (.t 26))),o 28 (.app 8 72 [(.str ⟨#[]⟩),(.int .i64 0),(.int .i64 0),(.int .i64 0),(.int .i64 0),(.int .i64 0),(.int .i64 0),(.bool false)] (.t 24) (.t 27)),o 29 (.ld true 8 (.t 3)),o 30 (.lit 8 1 [(.str ⟨#[]⟩),(.int .i64 0),(.int .i64 0),(.int .i64 0),(.int .i64 0),(.int .i64 0),(.int .i64 0),(.bool false)] [(0,8,(.t 29))])] [o 31 (.app 8 72 [(.str ⟨#[]⟩),(.int .i64 0),(.int .i64 0),(.int .i64 0),(.int .i64 0),(.int .i64 0),(.int .i64 0),(.bool false)] (.t 28) (.t 30)),o 6 (.mov (.t 31))]) (.seq (.reg [o 32 (.mov (.t 6)),o 33 (.mov (.t 0)),o 34 (.mov (.t 5)),o 35 (.cut 8 (.t 33) (some (.t 34)) none),o 36 (.app 8 72 [(.str ⟨#[]⟩),(.int .i64 0),(.int .i64 0),(.int .i64 0),(.int .i64 0),(.int .i64 0),(.int .i64 0),(.bool false)] (.t 32) (.t 35)),o 4 (.mov (.t 36))]) .ret)))))⟩
theorem Z2:A5 Tryz.prog Pw=some Px:=by kernel_rfl
abbrev Jo:Nat:=258
def Jp:Fn1:=⟨49,[.t 6],(.seq (.reg [o 5 (.box (.t 2)),o 6 (.mov (.k .nilS))]) (.seq (.reg [o 10 (.lit 6 0 [] []),o 7 (.mov (.t 10))]) (.seq (.seq (.reg [o 11 (.mov (.t 0)),o 12 (.len false (.t 11)),o 13 (.mov (.k (.int .i64 0)))]) (.blk 0 (.lop (.seq (.reg [o 14 (.bin .lss (.t 13) (.t 12))]) (.seq (.cnd (.t 14) .skip (.ext 0)) (.seq (.blk 1 (.seq (.reg [o 15 (.iad 6 (.t 11) (.t 13)),o 16 (.ld true 6 (.t 15)),o 9 (.new [(.bool false),(.str ⟨#[]⟩),(.str ⟨#[]⟩),(.int .i64 0),(.int .i64 0),(.int .i64 0)]),on (.st 6 (.t 9) (.t 16))]) (.seq (.reg [o 17 (.fad 0 (.t 9)),o 18 (.ld false 1 (.t 17)),o 19 (.mov (.t 1)),o 20 (.eqb true (.t 18) (.t 19)),o 21 (.mov (.t 20)),og 22 21 false (.fad 1 (.t 9)),og 23 21 false (.ld false 1 (.t 22)),og 24 21 false (.fad 5 (.t 5)),og 25 21 false (.ld false 1 (.t 24)),og 26 21 false (.bin .neq (.t 23) (.t 25)),o 27 (.pick (.t 21) (.k (.bool true)) (.t 26)),o 28 (.mov (.t 27)),og 29 28 false (.fad 2 (.t 9)),og 30 28 false (.ld false 1 (.t 29)),og 31 28 false (.fad 6 (.t 5)),og 32 28 false (.ld false 1 (.t 31)),og 33 28 false (.bin .neq (.t 30) (.t 32)),o 34 (.pick (.t 28) (.k (.bool true)) (.t 33)),o 35 (.mov (.t 34)),og 36 35 false (.fad 3 (.t 5)),og 37 35 false (.ld false 1 (.t 36)),og 38 35 false (.fad 4 (.t 9)),og 39 35 false (.ld true 2 (.t 38)),og 40 35 false (.call 170 [(.t 37),(.t 39)]),og 41 35 false (.un .not (.t 40)),o 42 (.pick (.t 35) (.k (.bool true)) (.t 41))]) (.cnd (.t 42) (.reg [o 43 (.mov (.t 7)),o 44 (.ld true 6 (.t 9)),o 45 (.lit 6 1 [(.bool false),(.str ⟨#[]⟩),(.str ⟨#[]⟩),(.int .i64 0),(.int .i64 0),(.int .i64 0)] [(0,6,(.t 44))]),o 46 (.app 6 64 [(.bool false),(.str ⟨#[]⟩),(.str ⟨#[]⟩),(.int .i64 0),(.int .i64 0),(.int .i64 0)] (.t 43) (.t 45)),o 7 (.mov (.t 46))]) .skip)))) (.reg [o 47 (.bin .add (.t 13) (.k (.int .i64 1))),o 13 (.mov (.t 47))]))))))) (.seq (.reg [o 48 (.mov (.t 7)),o 6 (.mov (.t 48))]) .ret))))⟩
theorem Ol:A5 Tryz.prog Jo=some Jp:=by kernel_rfl
abbrev T9:Nat:=260
def Jb:Fn1:=⟨19,[.t 2],(.seq (.reg [o 1 (.box (.t 0)),o 2 (.mov (.k (.bool false)))]) (.seq (.reg [o 3 (.fad 1 (.t 1)),o 4 (.ld false 1 (.t 3)),o 5 (.len false (.t 4)),o 6 (.bin .gtr (.t 5) (.k (.int .i64 120))),o 7 (.mov (.t 6)),og 8 7 false (.fad 2 (.t 1)),og 9 7 false (.ld false 1 (.t 8)),og 10 7 false (.len false (.t 9)),og 11 7 false (.bin .gtr (.t 10) (.k (.int .i64 120))),o 12 (.pick (.t 7) (.k (.bool true)) (.t 11)),o 13 (.mov (.t 12)),og 14 13 false (.fad 3 (.t 1)),og 15 13 false (.ld false 1 (.t 14)),og 16 13 false (.len false (.t 15)),og 17 13 false (.bin .gtr (.t 16) (.k (.int .i64 120))),o 18 (.pick (.t 13) (.k (.bool true)) (.t 17)),o 2 (.mov (.t 18))]) .ret))⟩
theorem A1j:A5 Tryz.prog T9=some Jb:=by kernel_rfl
theorem Ed {σ τ:St} {z:Nat} {v:GV} (h:zOk σ z v=true) (hp:σ <+: τ):zOk τ z v=true:=by
 unfold zOk at h ⊢
 split
 ·rename_i g _ _
  simp only[] at h
  have:∀ b,σ[g]? =some b→τ[g]? =some b:=fun b hb=>by
   obtain⟨r,rfl⟩:=hp
   rw[List.getElem?_append_left (List.getElem?_eq_some_iff.1 hb).1];exact hb
  cases hg:σ[g]? with
  |none=>rw[hg] at h;simp at h
  |some b=>rw[this b hg];rw[hg] at h;exact h
 ·rfl
theorem Hp.zok {α:Type} {d:Kd α} {σ τ:St} {rs:List Thg} {v:GV} {l:List α} (H:Hp σ τ rs) (k:Nat) (hk:rs[k]? =some (ow d v l)):zOk τ d.z v=true:=by
 obtain⟨a,hO,-⟩:=H.see hk
 rcases hO with⟨_,rfl,_⟩|⟨g,pre,css,post,fps,rfl,hB,_⟩
 ·rfl
 ·simp[zOk,Bc.1 hB]
section
variable {α:Type} {d:En α} {σ τ:St} {v:GV} {l:List α}
theorem RdN.cutHi (h:RdN d σ v l) {k:Nat} (hk:k≤l.length):∃ u,cutG d.z v none (some (gi (k:Nat)))=some u∧RdN d σ u (l.take k):=by
 rcases h with⟨rfl,rfl|rfl⟩|⟨g,off,cs,rfl,hr,hb,ha⟩
 ·have:k=0:=by simpa using hk
  subst this
  exact⟨.nilS,by simp[cutG,bndG,Ax],.inl ⟨by simp,.inl rfl⟩⟩
 ·have:k=0:=by simpa using hk
  subst this
  exact⟨.emp,by simp[cutG,bndG,Ax],.inl ⟨by simp,.inr rfl⟩⟩
 ·refine⟨.sl g off k,Sy.cutHi hk,.inr ⟨g,off,cs,by rw[List.length_take,Nat.min_eq_left hk],hr,?_,fun i x hx=> ?_⟩⟩
  ·rw[List.length_take,Nat.min_eq_left hk]
   have:=Nat.mul_le_mul_right d.z hk
   omega
  ·rw[List.getElem?_take] at hx
   split at hx
   ·exact ha i x hx
   ·cases hx
theorem RdN.cutLo (h:RdN d σ v l) {k:Nat} (hk:k≤l.length):∃ u,cutG d.z v (some (gi (k:Nat))) none=some u∧RdN d σ u (l.drop k):=by
 rcases h with⟨rfl,rfl|rfl⟩|⟨g,off,cs,rfl,hr,hb,ha⟩
 ·have:k=0:=by simpa using hk
  subst this
  exact⟨.nilS,by simp[cutG,bndG,Ax],.inl ⟨by simp,.inl rfl⟩⟩
 ·have:k=0:=by simpa using hk
  subst this
  exact⟨.emp,by simp[cutG,bndG,Ax],.inl ⟨by simp,.inr rfl⟩⟩
 ·refine⟨.sl g (off+k*d.z) (l.length - k),Sy.cutLo hk,.inr ⟨g,off+k*d.z,cs,by rw[List.length_drop],hr,?_,fun i x hx=> ?_⟩⟩
  ·rw[List.length_drop]
   have:k*d.z+(l.length - k)*d.z=l.length*d.z:=by rw[← Nat.add_mul];congr 1;omega
   omega
  ·rw[List.getElem?_drop] at hx
   have:=ha (k+i) x hx
   rw[Nat.add_mul,←Nat.add_assoc] at this
   exact this
end
theorem Aay {α:Type} {p:α→Bool}:∀ {l:List α} {i:Nat},i≤l.length→(∀ j (hj:j<l.length),j<i→p l[j]=true)→(∀ hi:i<l.length,p l[i]=false)→l.takeWhile p=l.take i∧l.dropWhile p=l.drop i
 |[],i,_,_,_=>by simp
 |x::l,0,_,_,h=>by
  have:=h (by simp)
  have hx:p x=false:=this
  simp[List.takeWhile_cons,List.dropWhile_cons,hx]
 |x::l,i+1,h0,h1,h2=>by
  have hx:p x=true:=h1 0 (by simp) (by omega)
  obtain⟨e1,e2⟩:=Aay (p:=p) (l:=l) (i:=i) (by simpa using h0) (fun j hj hji=>h1 (j+1) (by simpa using hj) (by omega)) (fun hi=>h2 (by simpa using hi))
  simp[List.takeWhile_cons,List.dropWhile_cons,hx,e1,e2]
abbrev Ta (x:Live):List GV:=[.bool x.map,.str x.obj,.str x.key,.int .i64 x.val,.int .i64 x.dot.rep,.int .i64 x.dot.seq]
set_option maxHeartbeats 2000000 in
theorem Lu (σ:St) (v:GV) (l:List Live) (h:RS Ay.kd σ v l) (hz:zOk σ 6 v=true) (x:Live) (hl:l.length≤1099511627776):∃ r τ,Ret Tryz.prog Pu [v,.agg (Ta x)] σ r τ∧Hp σ τ [ow Ay.kd r (insW (fun k:Live=>Au k.dot x.dot) x l)]:=by
 refine Cv Z1 (Z0z rfl) ?_
 have H:=(Hp.refl σ).new 1 (Ta x)
 simp +contextual (disch:=omega) only[go_sem,Pv]
 generalize hn1:σ.length=n1 at*
 refine Ok (fun n env τ=>∃ i:Nat,env 0=v∧env 3= .ptr n1 0∧env 5=gi i∧l.length - i=n∧i≤l.length∧(∀ j (hj:j<l.length),j<i→Au l[j].dot x.dot=true)∧Hp σ τ [pt 1 n1 (Ta x)]) l.length 0 (fun env τ=>∃ i:Nat,env 0=v∧env 3= .ptr n1 0∧env 5=gi i∧i≤l.length∧insW (fun k:Live=>Au k.dot x.dot) x l=l.take i++[x]++l.drop i∧Hp σ τ [pt 1 n1 (Ta x)]) ⟨0,rfl,rfl,rfl,rfl,Nat.zero_le _,fun j _ hj=>by omega,H⟩ ?_ ?_
 ·clear H
  rintro J Y hJ hY n env τ ⟨i,e0,e3,e5,hn,hi,ha,H⟩
  have hln:=(h.pre H.sub).len
  have stop:(∀ hi:i<l.length,Au l[i].dot x.dot=false)→insW (fun k:Live=>Au k.dot x.dot) x l=l.take i++[x]++l.drop i:=fun hs=>by
   obtain⟨e1,e2⟩:=Aay (p:=fun k:Live=>Au k.dot x.dot) hi ha hs
   rw[insW,e1,e2];simp
  rcases Nat.lt_or_ge i l.length with hlt|hge
  ·have c0:decide ((i:Int)<l.length)=true:=by simp;omega
   have C1:=A3 (h.pre H.sub) hlt
   simp +contextual (disch:=omega) only[go_sem,c0,e0,e3,e5,hln,A2,C1,A0 (H.pt 0 rfl)]
   refine A7 (Cb _ _ _) ?_
   have hc:=Mu (a:=l[i].dot) (b:=x.dot)
   cases hq:Au l[i].dot x.dot with
   |true=>
    rw[hq] at hc
    simp +contextual (disch:=omega) only[go_sem,e0,e3,e5,hc]
    refine⟨l.length - (i+1),by omega,hJ _ _ _ ⟨i+1,?_,?_,?_,rfl,by omega,fun j hj hji=> ?_,H⟩⟩
    all_goals first|(simp +contextual (disch:=omega) only[go_sem,e0,e3,e5];done)|skip
    rcases Nat.lt_or_ge j i with h|h
    ·exact ha j hj h
    ·have:j=i:=by omega
     subst this;exact hq
   |false=>
    rw[hq] at hc
    simp +contextual (disch:=omega) only[go_sem,e0,e3,e5,hc]
    refine hY _ _ ⟨i,?_,?_,?_,hi,stop fun _=>hq,H⟩
    all_goals simp +contextual (disch:=omega) only[go_sem,e0,e3,e5]
  ·have c0:decide ((i:Int)<l.length)=false:=by simp;omega
   simp +contextual (disch:=omega) only[go_sem,c0,e0,e3,e5,hln]
   refine hY _ _ ⟨i,?_,?_,?_,hi,stop fun h=>absurd h (by omega),H⟩
   all_goals simp +contextual (disch:=omega) only[go_sem,e0,e3,e5]
 ·clear H
  rintro env τ ⟨i,e0,e3,e5,hi,hE,H⟩
  obtain⟨u1,k1,g1⟩:=h.cutHi hi
  obtain⟨u2,k2,g2⟩:=h.cutLo hi
  have k1:cutG 6 v none (some (gi (i:Nat)))=some u1:=k1
  have k2:cutG 6 v (some (gi (i:Nat))) none=some u2:=k2
  have hz1:zOk (τ++[some (Blk.row 6 [])]) 6 v=true:=Ed hz (H.sub.trans (pre1 _ _))
  obtain⟨w1,τ1,a1,q1,H1⟩:=H.cp_Live (g1.pre H.sub) (by rw[List.length_take];omega)
  obtain⟨w2,τ2,a2,H2⟩:=H1.app_Live 0 rfl x (by rw[List.length_take];omega)
  have hz2:zOk τ2 6 v=true:=Ed hz H2.sub
  obtain⟨w3,τ3,a3,H3⟩:=H2.apps_Live 0 rfl (g2.pre H2.sub) (by simp only[List.length_append,List.length_take,List.length_drop,List.length_cons,List.length_nil];omega)
  simp +contextual (disch:=omega) only[go_sem,e0,e3,e5,hz1,k1,a1,q1,A0 (H1.pt 1 rfl),a2,hz2,k2,a3,Option.map_none,Option.map_some]
  refine⟨_,rfl,?_⟩
  rw[hE]
  exact H3.one
set_option maxHeartbeats 2000000 in
theorem Vd (σ:St) (v:GV) (l:List Cell) (h:RS Ai.kd σ v l) (hz:zOk σ 8 v=true) (x:Cell) (hl:l.length≤1099511627776):∃ r τ,Ret Tryz.prog Pw [v,.agg (Lq x)] σ r τ∧Hp σ τ [ow Ai.kd r (insW (fun k:Cell=>Au k.dot x.dot) x l)]:=by
 refine Cv Z2 (Z0z rfl) ?_
 have H:=(Hp.refl σ).new 1 (Lq x)
 simp +contextual (disch:=omega) only[go_sem,Px]
 generalize hn1:σ.length=n1 at*
 refine Ok (fun n env τ=>∃ i:Nat,env 0=v∧env 3= .ptr n1 0∧env 5=gi i∧l.length - i=n∧i≤l.length∧(∀ j (hj:j<l.length),j<i→Au l[j].dot x.dot=true)∧Hp σ τ [pt 1 n1 (Lq x)]) l.length 0 (fun env τ=>∃ i:Nat,env 0=v∧env 3= .ptr n1 0∧env 5=gi i∧i≤l.length∧insW (fun k:Cell=>Au k.dot x.dot) x l=l.take i++[x]++l.drop i∧Hp σ τ [pt 1 n1 (Lq x)]) ⟨0,rfl,rfl,rfl,rfl,Nat.zero_le _,fun j _ hj=>by omega,H⟩ ?_ ?_
 ·clear H
  rintro J Y hJ hY n env τ ⟨i,e0,e3,e5,hn,hi,ha,H⟩
  have hln:=(h.pre H.sub).len
  have stop:(∀ hi:i<l.length,Au l[i].dot x.dot=false)→insW (fun k:Cell=>Au k.dot x.dot) x l=l.take i++[x]++l.drop i:=fun hs=>by
   obtain⟨e1,e2⟩:=Aay (p:=fun k:Cell=>Au k.dot x.dot) hi ha hs
   rw[insW,e1,e2];simp
  rcases Nat.lt_or_ge i l.length with hlt|hge
  ·have c0:decide ((i:Int)<l.length)=true:=by simp;omega
   have C1:=A4 (h.pre H.sub) hlt
   simp +contextual (disch:=omega) only[go_sem,c0,e0,e3,e5,hln,A2,C1,A0 (H.pt 0 rfl)]
   refine A7 (Cb _ _ _) ?_
   have hc:=Mu (a:=l[i].dot) (b:=x.dot)
   cases hq:Au l[i].dot x.dot with
   |true=>
    rw[hq] at hc
    simp +contextual (disch:=omega) only[go_sem,e0,e3,e5,hc]
    refine⟨l.length - (i+1),by omega,hJ _ _ _ ⟨i+1,?_,?_,?_,rfl,by omega,fun j hj hji=> ?_,H⟩⟩
    all_goals first|(simp +contextual (disch:=omega) only[go_sem,e0,e3,e5];done)|skip
    rcases Nat.lt_or_ge j i with h|h
    ·exact ha j hj h
    ·have:j=i:=by omega
     subst this;exact hq
   |false=>
    rw[hq] at hc
    simp +contextual (disch:=omega) only[go_sem,e0,e3,e5,hc]
    refine hY _ _ ⟨i,?_,?_,?_,hi,stop fun _=>hq,H⟩
    all_goals simp +contextual (disch:=omega) only[go_sem,e0,e3,e5]
  ·have c0:decide ((i:Int)<l.length)=false:=by simp;omega
   simp +contextual (disch:=omega) only[go_sem,c0,e0,e3,e5,hln]
   refine hY _ _ ⟨i,?_,?_,?_,hi,stop fun h=>absurd h (by omega),H⟩
   all_goals simp +contextual (disch:=omega) only[go_sem,e0,e3,e5]
 ·clear H
  rintro env τ ⟨i,e0,e3,e5,hi,hE,H⟩
  obtain⟨u1,k1,g1⟩:=h.cutHi hi
  obtain⟨u2,k2,g2⟩:=h.cutLo hi
  have k1:cutG 8 v none (some (gi (i:Nat)))=some u1:=k1
  have k2:cutG 8 v (some (gi (i:Nat))) none=some u2:=k2
  have hz1:zOk (τ++[some (Blk.row 8 [])]) 8 v=true:=Ed hz (H.sub.trans (pre1 _ _))
  obtain⟨w1,τ1,a1,q1,H1⟩:=H.cp_Cell (g1.pre H.sub) (by rw[List.length_take];omega)
  obtain⟨w2,τ2,a2,H2⟩:=H1.app_Cell 0 rfl x (by rw[List.length_take];omega)
  have hz2:zOk τ2 8 v=true:=Ed hz H2.sub
  obtain⟨w3,τ3,a3,H3⟩:=H2.apps_Cell 0 rfl (g2.pre H2.sub) (by simp only[List.length_append,List.length_take,List.length_drop,List.length_cons,List.length_nil];omega)
  simp +contextual (disch:=omega) only[go_sem,e0,e3,e5,hz1,k1,a1,q1,A0 (H1.pt 1 rfl),a2,hz2,k2,a3,Option.map_none,Option.map_some]
  refine⟨_,rfl,?_⟩
  rw[hE]
  exact H3.one
set_option maxHeartbeats 2000000 in
theorem F3 (σ:St) (v:GV) (l:List Live) (h:RS Ay.kd σ v l) (m:Bool) (cs:List GV) (a:Act) (hR:kAct.R σ a cs) (hl:l.length≤1099511627776) (hm:E9 a≤1099511627776):∃ r τ,Ret Tryz.prog Jo [v,.bool m,.agg cs] σ r τ∧Hp σ τ [ow Ay.kd r (l.filter (Jt m a.obj a.key a.knew))]:=by
 obtain⟨kv,rfl,hk⟩:=hR
 have hkl:a.knew.length≤1099511627776:=by unfold E9 at hm;omega
 refine Cv Ol (Z0z rfl) ?_
 have H:=((Hp.refl σ).new 1 [.int .i64 a.dot.rep,.int .i64 a.dot.seq,.int .i64 a.time,kv,.int .i64 a.kind,.str a.obj,.str a.key,.int .i64 a.val,.int .i64 a.ref.rep,.int .i64 a.ref.seq]).nil_Live
 simp +contextual (disch:=omega) only[go_sem,Jp,h.len]
 generalize hn1:σ.length=n1 at*
 generalize hp:Jt m a.obj a.key a.knew=p
 refine Fm l.length 13 0 (fun i env τ=>env 1= .bool m∧env 5= .ptr n1 0∧env 11=v∧env 12=gi l.length∧∃ w,env 7=w∧Hp σ τ [ow Ay.kd w ((l.take i).filter p),pt 1 n1 [.int .i64 a.dot.rep,.int .i64 a.dot.seq,.int .i64 a.time,kv,.int .i64 a.kind,.str a.obj,.str a.key,.int .i64 a.val,.int .i64 a.ref.rep,.int .i64 a.ref.seq]]) (fun env τ=>∃ w,env 7=w∧Hp σ τ [ow Ay.kd w (l.filter p)]) rfl ⟨rfl,rfl,rfl,rfl,_,rfl,H⟩ ?_ ?_ ?_
 ·clear H
  rintro J Y hJ hY i env τ hi e13 c0 ⟨e1,e5,e11,e12,w,e7,H⟩
  have hfl:=Cc l p i
  have hsn:=Do (p:=p) hi
  have C1:=A3 (h.pre H.sub) hi
  have G:=H.grow (pre1 τ (some (Blk.row 1 (Ta l[i]))))
  have hkeep:p l[i]=(!(l[i].map==m)||(!decide (l[i].obj=a.obj)||(!decide (l[i].key=a.key)|| !B9 a.knew l[i].dot))):=by rw[← hp];rfl
  obtain⟨w',τ3,e8,H3⟩:=G.app_Live 0 rfl l[i] (by omega)
  have kn:=Fj _ kv a.knew l[i].dot (hk.pre G.sub) hkl
  cases h1:(l[i].map==m) with
  |false=>
   rw[h1] at hkeep
   have hk0:p l[i]=true:=by rw[hkeep];rfl
   rw[hk0,if_pos rfl] at hsn
   simp +contextual (disch:=omega) only[go_sem,c0,e1,e5,e11,e12,e7,e13,C1,h1,Bool.bne_false,Bool.xor_false,Bool.true_bne,Bool.not_false,e8]
   refine hJ _ _ _ ⟨?_,?_,?_,?_,w',?_,by rw[hsn];exact H3⟩
   all_goals simp +contextual (disch:=omega) only[go_sem,e1,e5,e11,e12,e7]
  |true=>
   cases h2:decide (l[i].obj=a.obj) with
   |false=>
    rw[h1,h2] at hkeep
    have hk0:p l[i]=true:=by rw[hkeep];rfl
    rw[hk0,if_pos rfl] at hsn
    simp +contextual (disch:=omega) only[go_sem,c0,e1,e5,e11,e12,e7,e13,C1,h1,h2,A0 (G.pt 1 rfl),Bool.true_bne,Bool.not_false,Bool.not_true,e8]
    refine hJ _ _ _ ⟨?_,?_,?_,?_,w',?_,by rw[hsn];exact H3⟩
    all_goals simp +contextual (disch:=omega) only[go_sem,e1,e5,e11,e12,e7]
   |true=>
    cases h3:decide (l[i].key=a.key) with
    |false=>
     rw[h1,h2,h3] at hkeep
     have hk0:p l[i]=true:=by rw[hkeep];rfl
     rw[hk0,if_pos rfl] at hsn
     simp +contextual (disch:=omega) only[go_sem,c0,e1,e5,e11,e12,e7,e13,C1,h1,h2,h3,A0 (G.pt 1 rfl),Bool.true_bne,Bool.not_false,Bool.not_true,e8]
     refine hJ _ _ _ ⟨?_,?_,?_,?_,w',?_,by rw[hsn];exact H3⟩
     all_goals simp +contextual (disch:=omega) only[go_sem,e1,e5,e11,e12,e7]
    |true=>
     simp +contextual (disch:=omega) only[go_sem,c0,e1,e5,e11,e12,e7,e13,C1,h1,h2,h3,A0 (G.pt 1 rfl),Bool.true_bne,Bool.not_false,Bool.not_true]
     refine A7 kn ?_
     cases h4:B9 a.knew l[i].dot with
     |false=>
      rw[h1,h2,h3,h4] at hkeep
      have hk0:p l[i]=true:=by rw[hkeep];rfl
      rw[hk0,if_pos rfl] at hsn
      simp +contextual (disch:=omega) only[go_sem,e1,e5,e11,e12,e7,e13,C1,h4,e8]
      refine hJ _ _ _ ⟨?_,?_,?_,?_,w',?_,by rw[hsn];exact H3⟩
      all_goals simp +contextual (disch:=omega) only[go_sem,e1,e5,e11,e12,e7]
     |true=>
      rw[h1,h2,h3,h4] at hkeep
      have hk0:p l[i]=false:=by rw[hkeep];rfl
      rw[hk0,if_neg (by simp),List.append_nil] at hsn
      simp +contextual (disch:=omega) only[go_sem,e1,e5,e11,e12,e7,e13,h4]
      refine hJ _ _ _ ⟨?_,?_,?_,?_,w,?_,by rw[hsn];exact G⟩
      all_goals simp +contextual (disch:=omega) only[go_sem,e1,e5,e11,e12,e7]
 ·clear H
  rintro Y hY env τ e13 c0 ⟨e1,e5,e11,e12,w,e7,H⟩
  rw[List.take_length] at H
  simp +contextual (disch:=omega) only[go_sem,c0,e1,e5,e11,e12,e7,e13]
  refine hY _ _ ⟨w,?_,H.one⟩
  simp +contextual (disch:=omega) only[go_sem,e7]
 ·clear H
  rintro env τ ⟨w,e7,H⟩
  simp +contextual (disch:=omega) only[go_sem,e7]
  exact⟨_,rfl,H⟩
theorem Md {n:Nat}:decide ((120:Int)<(n:Int))=decide (120<n):=by rw[decide_eq_decide];omega
theorem Z3 (σ:St) (cs:List GV) (s:State) (hR:A8.R σ s cs):Ret Tryz.prog T9 [.agg cs] σ (.bool (Eb s)) σ:=by
 obtain⟨a,b,c,v,rfl,_,hb,hc,hv⟩:=hR
 refine Af A1j (Z0z rfl) trivial ?_
 cases h1:decide (120<s.tallies.length) with
 |true=>simp +contextual (disch:=omega) only[go_sem,Jb,hb.len,Md,h1,Eb,Bool.true_or]
 |false=>
  cases h2:decide (120<s.lives.length) with
  |true=>simp +contextual (disch:=omega) only[go_sem,Jb,hb.len,hc.len,Md,h1,h2,Eb,Bool.true_or,Bool.false_or]
  |false=>simp +contextual (disch:=omega) only[go_sem,Jb,hb.len,hc.len,hv.len,Md,h1,h2,Eb,Bool.false_or]
end
section
open Go Go.RowKit
abbrev Nd:Nat:=256
def Nf:Fn1:=⟨69,[.t 8],(.seq (.reg [o 8 (.mov (.k .nilS))]) (.seq (.reg [o 9 (.mov (.k (.int .i64 0)))]) (.seq (.reg [o 13 (.mov (.t 1)),o 14 (.mov (.t 2)),o 15 (.build [(.str ⟨#[]⟩),(.int .i64 0),(.int .i64 0)] [(0,1,(.t 13)),(1,1,(.t 14))]),o 10 (.new [(.str ⟨#[]⟩),(.int .i64 0),(.int .i64 0)]),on (.st 3 (.t 10) (.t 15))]) (.seq (.blk 0 (.lop (.seq (.seq (.drw [o 16 (.mov (.t 9)),o 17 (.mov (.t 0)),o 18 (.len false (.t 17)),o 19 (.bin .lss (.t 16) (.t 18)),o 20 (.mov (.t 19)),og 21 20 true (.mov (.t 0)),og 22 20 true (.mov (.t 9)),og 23 20 true (.iad 3 (.t 21) (.t 22)),og 24 20 true (.ld true 3 (.t 23)),og 25 20 true (.ld true 3 (.t 10))] [og 26 20 true (.call 324 [(.t 24),(.t 25)]),og 27 20 true (.bin .lss (.t 26) (.k (.int .i64 0))),o 28 (.pick (.t 20) (.t 27) (.k (.bool false)))]) (.cnd (.t 28) .skip (.ext 0))) (.blk 1 (.reg [o 29 (.mov (.t 9)),o 30 (.bin .add (.t 29) (.k (.int .i64 1))),o 9 (.mov (.t 30))]))))) (.seq (.reg [o 31 (.mov (.t 0)),o 32 (.mov (.t 9)),o 33 (.cut 3 (.t 31) (some (.t 32)) none),o 11 (.mov (.t 33))]) (.seq (.seq (.drw [o 34 (.mov (.t 11)),o 35 (.len false (.t 34)),o 36 (.bin .gtr (.t 35) (.k (.int .i64 0))),o 37 (.mov (.t 36)),og 38 37 true (.mov (.t 11)),og 39 37 true (.iad 3 (.t 38) (.k (.int .i64 0))),og 40 37 true (.ld true 3 (.t 39)),og 41 37 true (.ld true 3 (.t 10))] [og 42 37 true (.call 324 [(.t 40),(.t 41)]),og 43 37 true (.bin .eql (.t 42) (.k (.int .i64 0))),o 44 (.pick (.t 37) (.t 43) (.k (.bool false)))]) (.cnd (.t 44) (.seq (.reg [o 45 (.mov (.t 11)),o 46 (.iad 3 (.t 45) (.k (.int .i64 0))),o 47 (.fad 2 (.t 46)),o 48 (.ld false 1 (.t 47)),o 49 (.fad 2 (.t 10)),on (.st 1 (.t 49) (.t 48))]) (.reg [o 50 (.mov (.t 11)),o 51 (.cut 3 (.t 50) (some (.k (.int .i64 1))) none),o 11 (.mov (.t 51))])) .skip)) (.seq (.reg [o 52 (.fad 2 (.t 10)),o 53 (.ld false 1 (.t 52)),o 54 (.mov (.t 3)),o 55 (.bin .add (.t 53) (.t 54)),o 56 (.bin .rem (.t 55) (.k (.int .i64 1000000))),o 57 (.fad 2 (.t 10)),on (.st 1 (.t 57) (.t 56))]) (.seq (.drw [o 58 (.lit 3 0 [] []),o 59 (.mov (.t 0)),o 60 (.mov (.t 9)),o 61 (.cut 3 (.t 59) none (some (.t 60))),o 62 (.app 3 32 [(.str ⟨#[]⟩),(.int .i64 0),(.int .i64 0)] (.t 58) (.t 61)),o 63 (.ld true 3 (.t 10)),o 64 (.lit 3 1 [(.str ⟨#[]⟩),(.int .i64 0),(.int .i64 0)] [(0,3,(.t 63))])] [o 65 (.app 3 32 [(.str ⟨#[]⟩),(.int .i64 0),(.int .i64 0)] (.t 62) (.t 64)),o 12 (.mov (.t 65))]) (.seq (.reg [o 66 (.mov (.t 12)),o 67 (.mov (.t 11)),o 68 (.app 3 32 [(.str ⟨#[]⟩),(.int .i64 0),(.int .i64 0)] (.t 66) (.t 67)),o 8 (.mov (.t 68))]) .ret)))))))))⟩
theorem Ve:A5 Tryz.prog Nd=some Nf:=by kernel_rfl
theorem A7c {a b:Tally}:(Iz a b==0)=(decide (a.obj=b.obj)&&decide (a.rep=b.rep)):=by
 rw[Bool.eq_iff_iff,beq_iff_eq,Bool.and_eq_true,decide_eq_true_eq,decide_eq_true_eq,Iz,orI]
 have h1:= @A3v a.obj b.obj
 have h2:= @A92 a.rep b.rep
 by_cases hz:cmpS a.obj b.obj=0
 ·rw[if_pos hz,h2]
  exact⟨fun h=>⟨h1.1 hz,h⟩,fun h=>h.2⟩
 ·rw[if_neg hz]
  exact⟨fun h=>absurd h hz,fun h=>absurd (h1.2 h.1) hz⟩
theorem Ae1 {τ:St} {z:Nat} {v u:GV} {lo hi:Option GV} (h:cutG z v lo hi=some u) (hz:zOk τ z v=true):zOk τ z u=true:=by
 cases v with
 |sl g off len=>
  simp only[cutG,Z1z] at h
  obtain⟨a,_,b,_,e⟩:=h
  injection e with e;subst e;exact hz
 |nilS=>
  simp only[cutG,Z1z] at h
  obtain⟨a,_,b,_,e⟩:=h
  injection e with e;subst e;rfl
 |emp=>
  simp only[cutG,Z1z] at h
  obtain⟨a,_,b,_,e⟩:=h
  injection e with e;subst e;rfl
 |_=>simp[cutG] at h
theorem A7d {l:List Tally} {obj:ByteArray} {rep val:Int} {i:Nat} (hT:l.takeWhile (fun t=>Ak t ⟨obj,rep,0⟩)=l.take i) (hD:l.dropWhile (fun t=>Ak t ⟨obj,rep,0⟩)=l.drop i) (hi:i<l.length):J5 l obj rep val=if G0 obj rep l[i] then l.take i++[⟨obj,rep,addM l[i].sum val⟩]++l.drop (i+1) else l.take i++[⟨obj,rep,addM 0 val⟩]++l.drop i:=by
 unfold J5
 simp only[hT,hD]
 rw[List.drop_eq_getElem_cons hi]
 simp only[]
 split<;>simp
theorem A4o {l:List Tally} {obj:ByteArray} {rep val:Int} (hT:l.takeWhile (fun t=>Ak t ⟨obj,rep,0⟩)=l.take l.length) (hD:l.dropWhile (fun t=>Ak t ⟨obj,rep,0⟩)=l.drop l.length):J5 l obj rep val=l.take l.length++[⟨obj,rep,addM 0 val⟩]++l.drop l.length:=by
 unfold J5
 simp only[hT,hD,List.drop_length]
 simp
abbrev A1k (x:Tally):List GV:=[.str x.obj,.int .i64 x.rep,.int .i64 x.sum]
set_option maxHeartbeats 2000000 in
theorem Tb (σ:St) (v:GV) (l:List Tally) (h:RS Ar.kd σ v l) (hz:zOk σ 3 v=true) (obj:ByteArray) (rep val:Int) (hl:l.length≤1099511627776) (hv: -1000000≤val∧val≤1000000) (hs:∀ t∈l,-1000000≤t.sum∧t.sum≤1000000):∃ r τ,Ret Tryz.prog Nd [v,.str obj,gi rep,gi val] σ r τ∧Hp σ τ [ow Ar.kd r (J5 l obj rep val)]:=by
 refine Cv Ve (Z0z rfl) ?_
 obtain⟨t0,ht0⟩:∃ t:Tally,t=⟨obj,rep,0⟩:=⟨_,rfl⟩
 have H:=(Hp.refl σ).new 1 [.str obj,gi rep,gi 0]
 have hcl:=fun(τ:St) (x:Tally)=>G9 τ x t0
 rw[ht0] at hcl
 simp +contextual (disch:=omega) only[go_sem,Nf]
 generalize hn1:σ.length=n1 at*
 refine Ok (fun n env τ=>∃ i:Nat,env 0=v∧env 3=gi val∧env 10= .ptr n1 0∧env 9=gi i∧l.length - i=n∧i≤l.length∧(∀ j (hj:j<l.length),j<i→Ak l[j] ⟨obj,rep,0⟩=true)∧Hp σ τ [pt 1 n1 [.str obj,gi rep,gi 0]]) l.length 0 (fun env τ=>∃ i:Nat,env 0=v∧env 3=gi val∧env 10= .ptr n1 0∧env 9=gi i∧i≤l.length∧l.takeWhile (fun t=>Ak t ⟨obj,rep,0⟩)=l.take i∧l.dropWhile (fun t=>Ak t ⟨obj,rep,0⟩)=l.drop i∧Hp σ τ [pt 1 n1 [.str obj,gi rep,gi 0]]) ⟨0,rfl,rfl,rfl,rfl,rfl,Nat.zero_le _,fun j _ hj=>by omega,H⟩ ?_ ?_
 ·clear H
  rintro J Y hJ hY n env τ ⟨i,e0,e3,e10,e9,hn,hi,ha,H⟩
  have hln:=(h.pre H.sub).len
  have stop:=fun hs=>Aay (p:=fun t:Tally=>Ak t ⟨obj,rep,0⟩) hi ha hs
  rcases Nat.lt_or_ge i l.length with hlt|hge
  ·have c0:decide ((i:Int)<l.length)=true:=by simp;omega
   have C1:=Aa (h.pre H.sub) hlt
   simp +contextual (disch:=omega) only[go_sem,c0,e0,e3,e10,e9,hln,A2,C1,A0 (H.pt 0 rfl)]
   refine A7 (hcl _ _) ?_
   have hc:=S5 (a:=l[i]) (b:=⟨obj,rep,0⟩)
   cases hq:Ak l[i] ⟨obj,rep,0⟩ with
   |true=>
    rw[hq] at hc
    simp +contextual (disch:=omega) only[go_sem,e0,e3,e10,e9,hc]
    refine⟨l.length - (i+1),by omega,hJ _ _ _ ⟨i+1,?_,?_,?_,?_,rfl,by omega,fun j hj hji=> ?_,H⟩⟩
    all_goals first|(simp +contextual (disch:=omega) only[go_sem,e0,e3,e10,e9];done)|skip
    rcases Nat.lt_or_ge j i with h|h
    ·exact ha j hj h
    ·have:j=i:=by omega
     subst this;exact hq
   |false=>
    rw[hq] at hc
    simp +contextual (disch:=omega) only[go_sem,e0,e3,e10,e9,hc]
    refine hY _ _ ⟨i,?_,?_,?_,?_,hi,(stop fun _=>hq).1,(stop fun _=>hq).2,H⟩
    all_goals simp +contextual (disch:=omega) only[go_sem,e0,e3,e10,e9]
  ·have c0:decide ((i:Int)<l.length)=false:=by simp;omega
   simp +contextual (disch:=omega) only[go_sem,c0,e0,e3,e10,e9,hln]
   have hst:=stop fun h=>absurd h (by omega)
   refine hY _ _ ⟨i,?_,?_,?_,?_,hi,hst.1,hst.2,H⟩
   all_goals simp +contextual (disch:=omega) only[go_sem,e0,e3,e10,e9]
 ·clear H
  rintro env τ ⟨i,e0,e3,e10,e9,hi,hT,hD,H⟩
  obtain⟨u1,k1,g1⟩:=h.cutHi hi
  obtain⟨u2,k2,g2⟩:=h.cutLo hi
  have k1:cutG 3 v none (some (gi (i:Nat)))=some u1:=k1
  have k2:cutG 3 v (some (gi (i:Nat))) none=some u2:=k2
  have hz1:zOk τ 3 v=true:=Ed hz H.sub
  have hln2:=(g2.pre H.sub).len
  have w0:IntKind.i64.wrap (0+val)=0+val:=Bl (by omega) (by omega)
  have n0:Ax (some (.int .i64 0))=some 0:=rfl
  rcases Nat.lt_or_ge i l.length with hlt|hge
  ·have hdl:0<(l.drop i).length:=by rw[List.length_drop];omega
   have c0:decide ((0:Int)<((l.drop i).length:Int))=true:=by simp only[decide_eq_true_eq];omega
   have C1:=Aa (g2.pre H.sub) hdl
   have hd0:(l.drop i)[0]=l[i]:=by simp
   rw[hd0] at C1
   have hmem:l[i]∈l:=List.getElem_mem hlt
   have hsb:=hs l[i] hmem
   have hat:=A7d (val:=val) hT hD hlt
   simp +contextual (disch:=omega) only[go_sem,e0,e3,e10,e9,hz1,k2,hln2,c0,n0,C1,A0 (H.pt 0 rfl),Option.map_none,Option.map_some]
   refine A7 (hcl _ _) ?_
   have hcz:=A7c (a:=l[i]) (b:=⟨obj,rep,0⟩)
   have hcz:(Iz l[i] ⟨obj,rep,0⟩==0)=G0 obj rep l[i]:=hcz
   cases hq:G0 obj rep l[i] with
   |true=>
    rw[hq] at hcz
    rw[hq,if_pos rfl] at hat
    obtain⟨u3,k3,g3⟩:=g2.cutLo (k:=1) (by omega)
    have k3:cutG 3 u2 (some (.int .i64 1)) none=some u3:=k3
    rw[List.drop_drop] at g3
    obtain⟨τb,st0,Hb,_⟩:=H.st 0 rfl 1 2 (gi l[i].sum) rfl (by decide) (by simp)
    have Hb:Hp σ τb [pt 1 n1 [.str obj,gi rep,gi l[i].sum]]:=Hb
    have hzb:zOk τb 3 u2=true:=Ae1 k2 (Ed hz Hb.sub)
    have wS:IntKind.i64.wrap (l[i].sum+val)=l[i].sum+val:=Bl (by omega) (by omega)
    obtain⟨τa,st1,Ha,_⟩:=Hb.st 0 rfl 1 2 (gi (addM l[i].sum val)) rfl (by decide) (by simp)
    have Ha:Hp σ τa [pt 1 n1 [.str obj,gi rep,gi (addM l[i].sum val)]]:=Ha
    have hza:zOk (τa++[some (Blk.row 3 [])]) 3 v=true:=Ed hz (Ha.sub.trans (pre1 _ _))
    obtain⟨w1,τ1,a1,q1,H1⟩:=Ha.cp_Tally (g1.pre Ha.sub) (by rw[List.length_take];omega)
    obtain⟨w2,τ2,a2,H2⟩:=H1.app_Tally 0 rfl ⟨obj,rep,addM l[i].sum val⟩ (by rw[List.length_take];omega)
    obtain⟨w3,τ3,a3,H3⟩:=H2.apps_Tally 0 rfl (g3.pre H2.sub) (by simp only[List.length_append,List.length_take,List.length_drop,List.length_cons,List.length_nil];omega)
    have st1:stG 1 τb (.ptr n1 2) (.int .i64 ((l[i].sum+val).tmod 1000000))=some (.tup [],τa):=st1
    have z9:=H1.pt 1 rfl
    have z9:rdB τ1 n1=some [.str obj,gi rep,gi (addM l[i].sum val)]:=z9
    simp +contextual (disch:=omega) only[go_sem,e0,e3,e10,e9,hcz,n0,C1,st0,hzb,k3,A0 (Hb.pt 0 rfl),wS,st1,hza,k1,a1,q1,A0 z9,a2,a3,Option.map_none,Option.map_some]
    refine⟨_,rfl,?_⟩
    rw[hat]
    exact H3.one
   |false=>
    rw[hq] at hcz
    rw[hq,if_neg (by simp)] at hat
    have wS:IntKind.i64.wrap (0+val)=0+val:=Bl (by omega) (by omega)
    obtain⟨τa,st1,Ha,_⟩:=H.st 0 rfl 1 2 (gi (addM 0 val)) rfl (by decide) (by simp)
    have Ha:Hp σ τa [pt 1 n1 [.str obj,gi rep,gi (addM 0 val)]]:=Ha
    have hza:zOk (τa++[some (Blk.row 3 [])]) 3 v=true:=Ed hz (Ha.sub.trans (pre1 _ _))
    obtain⟨w1,τ1,a1,q1,H1⟩:=Ha.cp_Tally (g1.pre Ha.sub) (by rw[List.length_take];omega)
    obtain⟨w2,τ2,a2,H2⟩:=H1.app_Tally 0 rfl ⟨obj,rep,addM 0 val⟩ (by rw[List.length_take];omega)
    obtain⟨w3,τ3,a3,H3⟩:=H2.apps_Tally 0 rfl (g2.pre H2.sub) (by simp only[List.length_append,List.length_take,List.length_drop,List.length_cons,List.length_nil];omega)
    have st1:stG 1 τ (.ptr n1 2) (.int .i64 ((0+val).tmod 1000000))=some (.tup [],τa):=st1
    have z9:=H1.pt 1 rfl
    have z9:rdB τ1 n1=some [.str obj,gi rep,gi (addM 0 val)]:=z9
    simp +contextual (disch:=omega) only[go_sem,e0,e3,e10,e9,hcz,A0 (H.pt 0 rfl),wS,st1,hza,k1,a1,q1,A0 z9,a2,a3,Option.map_none,Option.map_some]
    refine⟨_,rfl,?_⟩
    rw[hat]
    exact H3.one
  ·have hil:i=l.length:=by omega
   subst hil
   have hat:=A4o (val:=val) hT hD
   have c0:decide ((0:Int)<((l.drop l.length).length:Int))=false:=by simp
   have wS:IntKind.i64.wrap (0+val)=0+val:=Bl (by omega) (by omega)
   obtain⟨τa,st1,Ha,_⟩:=H.st 0 rfl 1 2 (gi (addM 0 val)) rfl (by decide) (by simp)
   have Ha:Hp σ τa [pt 1 n1 [.str obj,gi rep,gi (addM 0 val)]]:=Ha
   have hza:zOk (τa++[some (Blk.row 3 [])]) 3 v=true:=Ed hz (Ha.sub.trans (pre1 _ _))
   obtain⟨w1,τ1,a1,q1,H1⟩:=Ha.cp_Tally (g1.pre Ha.sub) (by rw[List.length_take];omega)
   obtain⟨w2,τ2,a2,H2⟩:=H1.app_Tally 0 rfl ⟨obj,rep,addM 0 val⟩ (by rw[List.length_take];omega)
   obtain⟨w3,τ3,a3,H3⟩:=H2.apps_Tally 0 rfl (g2.pre H2.sub) (by simp only[List.length_append,List.length_take,List.length_drop,List.length_cons,List.length_nil];omega)
   have st1:stG 1 τ (.ptr n1 2) (.int .i64 ((0+val).tmod 1000000))=some (.tup [],τa):=st1
   have z9:=H1.pt 1 rfl
   have z9:rdB τ1 n1=some [.str obj,gi rep,gi (addM 0 val)]:=z9
   simp +contextual (disch:=omega) only[go_sem,e0,e3,e10,e9,hz1,k2,hln2,c0,A0 (H.pt 0 rfl),wS,st1,hza,k1,a1,q1,A0 z9,a2,a3,Option.map_none,Option.map_some]
   refine⟨_,rfl,?_⟩
   rw[hat]
   exact H3.one
end
section
open Go Go.RowKit
abbrev Tc:Nat:=320
def Td:Fn1:=⟨45,[.t 4],(.seq (.reg [o 3 (.box (.t 1)),o 4 (.mov (.k .nilS))]) (.seq (.reg [o 8 (.lit 6 0 [] []),o 5 (.mov (.t 8))]) (.seq (.reg [o 6 (.mov (.k (.bool false)))]) (.seq (.seq (.reg [o 7 (.mov (.k (.int .i64 0)))]) (.blk 0 (.lop (.seq (.seq (.reg [o 9 (.mov (.t 7)),o 10 (.mov (.t 0)),o 11 (.len false (.t 10)),o 12 (.bin .lss (.t 9) (.t 11))]) (.cnd (.t 12) .skip (.ext 0))) (.seq (.blk 1 (.seq (.seq (.drw [o 15 (.mov (.t 6)),o 16 (.un .not (.t 15)),o 17 (.mov (.t 16)),og 18 17 true (.fad 4 (.t 3)),og 19 17 true (.ld true 2 (.t 18)),og 20 17 true (.mov (.t 0)),og 21 17 true (.mov (.t 7)),og 22 17 true (.iad 6 (.t 20) (.t 21)),og 23 17 true (.fad 4 (.t 22)),og 24 17 true (.ld true 2 (.t 23))] [og 25 17 true (.call 362 [(.t 19),(.t 24)]),o 26 (.pick (.t 17) (.t 25) (.k (.bool false)))]) (.cnd (.t 26) (.seq (.reg [o 27 (.mov (.t 5)),o 28 (.ld true 6 (.t 3)),o 29 (.lit 6 1 [(.bool false),(.str ⟨#[]⟩),(.str ⟨#[]⟩),(.int .i64 0),(.int .i64 0),(.int .i64 0)] [(0,6,(.t 28))]),o 30 (.app 6 64 [(.bool false),(.str ⟨#[]⟩),(.str ⟨#[]⟩),(.int .i64 0),(.int .i64 0),(.int .i64 0)] (.t 27) (.t 29)),o 5 (.mov (.t 30))]) (.reg [o 6 (.mov (.k (.bool true)))])) .skip)) (.reg [o 31 (.mov (.t 5)),o 32 (.mov (.t 0)),o 33 (.mov (.t 7)),o 34 (.iad 6 (.t 32) (.t 33)),o 35 (.ld true 6 (.t 34)),o 36 (.lit 6 1 [(.bool false),(.str ⟨#[]⟩),(.str ⟨#[]⟩),(.int .i64 0),(.int .i64 0),(.int .i64 0)] [(0,6,(.t 35))]),o 37 (.app 6 64 [(.bool false),(.str ⟨#[]⟩),(.str ⟨#[]⟩),(.int .i64 0),(.int .i64 0),(.int .i64 0)] (.t 31) (.t 36)),o 5 (.mov (.t 37))]))) (.reg [o 13 (.mov (.t 7)),o 14 (.bin .add (.t 13) (.k (.int .i64 1))),o 7 (.mov (.t 14))])))))) (.seq (.seq (.reg [o 38 (.mov (.t 6)),o 39 (.un .not (.t 38))]) (.cnd (.t 39) (.reg [o 40 (.mov (.t 5)),o 41 (.ld true 6 (.t 3)),o 42 (.lit 6 1 [(.bool false),(.str ⟨#[]⟩),(.str ⟨#[]⟩),(.int .i64 0),(.int .i64 0),(.int .i64 0)] [(0,6,(.t 41))]),o 43 (.app 6 64 [(.bool false),(.str ⟨#[]⟩),(.str ⟨#[]⟩),(.int .i64 0),(.int .i64 0),(.int .i64 0)] (.t 40) (.t 42)),o 5 (.mov (.t 43))]) .skip)) (.seq (.reg [o 44 (.mov (.t 5)),o 4 (.mov (.t 44))]) .ret))))))⟩
theorem A1l:A5 Tryz.prog Tc=some Td:=by kernel_rfl
abbrev Te:Nat:=322
def Tf:Fn1:=⟨45,[.t 4],(.seq (.reg [o 3 (.box (.t 1)),o 4 (.mov (.k .nilS))]) (.seq (.reg [o 8 (.lit 8 0 [] []),o 5 (.mov (.t 8))]) (.seq (.reg [o 6 (.mov (.k (.bool false)))]) (.seq (.seq (.reg [o 7 (.mov (.k (.int .i64 0)))]) (.blk 0 (.lop (.seq (.seq (.reg [o 9 (.mov (.t 7)),o 10 (.mov (.t 0)),o 11 (.len false (.t 10)),o 12 (.bin .lss (.t 9) (.t 11))]) (.cnd (.t 12) .skip (.ext 0))) (.seq (.blk 1 (.seq (.seq (.drw [o 15 (.mov (.t 6)),o 16 (.un .not (.t 15)),o 17 (.mov (.t 16)),og 18 17 true (.fad 1 (.t 3)),og 19 17 true (.ld true 2 (.t 18)),og 20 17 true (.mov (.t 0)),og 21 17 true (.mov (.t 7)),og 22 17 true (.iad 8 (.t 20) (.t 21)),og 23 17 true (.fad 1 (.t 22)),og 24 17 true (.ld true 2 (.t 23))] [og 25 17 true (.call 362 [(.t 19),(.t 24)]),o 26 (.pick (.t 17) (.t 25) (.k (.bool false)))]) (.cnd (.t 26) (.seq (.reg [o 27 (.mov (.t 5)),o 28 (.ld true 8 (.t 3)),o 29 (.lit 8 1 [(.str ⟨#[]⟩),(.int .i64 0),(.int .i64 0),(.int .i64 0),(.int .i64 0),(.int .i64 0),(.int .i64 0),(.bool false)] [(0,8,(.t 28))]),o 30 (.app 8 72 [(.str ⟨#[]⟩),(.int .i64 0),(.int .i64 0),(.int .i64 0),(.int .i64 0),(.int .i64 0),(.int .i64 0),(.bool false)] (.t 27) (.t 29)),o 5 (.mov (.t 30))]) (.reg [o 6 (.mov (.k (.bool true)))])) .skip)) (.reg [o 31 (.mov (.t 5)),o 32 (.mov (.t 0)),o 33 (.mov (.t 7)),o 34 (.iad 8 (.t 32) (.t 33)),o 35 (.ld true 8 (.t 34)),o 36 (.lit 8 1 [(.str ⟨#[]⟩),(.int .i64 0),(.int .i64 0),(.int .i64 0),(.int .i64 0),(.int .i64 0),(.int .i64 0),(.bool false)] [(0,8,(.t 35))]),o 37 (.app 8 72 [(.str ⟨#[]⟩),(.int .i64 0),(.int .i64 0),(.int .i64 0),(.int .i64 0),(.int .i64 0),(.int .i64 0),(.bool false)] (.t 31) (.t 36)),o 5 (.mov (.t 37))]))) (.reg [o 13 (.mov (.t 7)),o 14 (.bin .add (.t 13) (.k (.int .i64 1))),o 7 (.mov (.t 14))])))))) (.seq (.seq (.reg [o 38 (.mov (.t 6)),o 39 (.un .not (.t 38))]) (.cnd (.t 39) (.reg [o 40 (.mov (.t 5)),o 41 (.ld true 8 (.t 3)),o 42 (.lit 8 1 [(.str ⟨#[]⟩),(.int .i64 0),(.int .i64 0),(.int .i64 0),(.int .i64 0),(.int .i64 0),(.int .i64 0),(.bool false)] [(0,8,(.t 41))]),o 43 (.app 8 72 [(.str ⟨#[]⟩),(.int .i64 0),(.int .i64 0),(.int .i64 0),(.int .i64 0),(.int .i64 0),(.int .i64 0),(.bool false)] (.t 40) (.t 42)),o 5 (.mov (.t 43))]) .skip)) (.seq (.reg [o 44 (.mov (.t 5)),o 4 (.mov (.t 44))]) .ret))))))⟩
theorem A1m:A5 Tryz.prog Te=some Tf:=by kernel_rfl
abbrev Wx:Nat:=248
def Fp:Fn1:=⟨53,[.t 4],(.seq (.reg [o 2 (.box (.t 0)),o 3 (.box (.t 1)),o 4 (.mov (.k (.bool false)))]) (.seq (.seq (.reg [o 6 (.fad 4 (.t 3)),o 7 (.ld false 1 (.t 6)),o 8 (.bin .neq (.t 7) (.k (.int .i64 7))),o 9 (.mov (.t 8)),og 10 9 true (.fad 4 (.t 3)),og 11 9 true (.ld false 1 (.t 10)),og 12 9 true (.bin .neq (.t 11) (.k (.int .i64 6))),og 13 9 true (.mov (.t 12)),og 14 13 false (.fad 8 (.t 3)),og 15 13 false (.ld true 2 (.t 14)),og 16 13 false (.build [(.int .i64 0),(.int .i64 0)] []),og 17 13 false (.eqs false [.i .i64,.i .i64] (.t 15) (.t 16)),og 18 9 true (.pick (.t 13) (.k (.bool true)) (.t 17)),o 19 (.pick (.t 9) (.t 18) (.k (.bool false)))]) (.cnd (.t 19) (.seq (.reg [o 4 (.mov (.k (.bool true)))]) .ret) .skip)) (.seq (.reg [o 20 (.ld true 4 (.t 2)),o 21 (.fad 8 (.t 3)),o 22 (.ld true 2 (.t 21)),o 23 (.call 146 [(.t 20),(.t 22)]),o 5 (.mov (.t 23))]) (.seq (.drw [o 24 (.mov (.t 5)),o 25 (.bin .geq (.t 24) (.k (.int .i64 0))),o 26 (.mov (.t 25)),og 27 26 true (.fad 3 (.t 2)),og 28 26 true (.ld false 1 (.t 27)),og 29 26 true (.mov (.t 5)),og 30 26 true (.iad 8 (.t 28) (.t 29)),og 31 26 true (.fad 0 (.t 30)),og 32 26 true (.ld false 1 (.t 31)),og 33 26 true (.fad 5 (.t 3)),og 34 26 true (.ld false 1 (.t 33)),og 35 26 true (.bin .eql (.t 32) (.t 34)),o 36 (.pick (.t 26) (.t 35) (.k (.bool false))),o 37 (.mov (.t 36)),og 38 37 true (.fad 4 (.t 3)),og 39 37 true (.ld false 1 (.t 38)),og 40 37 true (.bin .eql (.t 39) (.k (.int .i64 7))),og 41 37 true (.mov (.t 40)),og 42 41 false (.fad 3 (.t 2)),og 43 41 false (.ld false 1 (.t 42)),og 44 41 false (.mov (.t 5)),og 45 41 false (.iad 8 (.t 43) (.t 44)),og 46 41 false (.fad 3 (.t 45)),og 47 41 false (.ld false 1 (.t 46)),og 48 41 false (.fad 2 (.t 3)),og 49 41 false (.ld false 1 (.t 48))] [og 50 41 false (.bin .lss (.t 47) (.t 49)),og 51 37 true (.pick (.t 41) (.k (.bool true)) (.t 50)),o 52 (.pick (.t 37) (.t 51) (.k (.bool false))),o 4 (.mov (.t 52))]) .ret))))⟩
theorem A4p:A5 Tryz.prog Wx=some Fp:=by kernel_rfl
set_option maxHeartbeats 2000000 in
theorem Ng (σ:St) (v:GV) (l:List Live) (h:RS Ay.kd σ v l) (x:Live) (hl:l.length≤1099511627776):∃ r τ,Ret Tryz.prog Tc [v,.agg (Ta x)] σ r τ∧Hp σ τ [ow Ay.kd r (G1 x l)]:=by
 refine Cv A1l (Z0z rfl) ?_
 have H:=((Hp.refl σ).new 1 (Ta x)).nil_Live
 simp +contextual (disch:=omega) only[go_sem,Td]
 generalize hn1:σ.length=n1 at*
 refine Fm l.length 7 0 (fun i env τ=>env 0=v∧env 3= .ptr n1 0∧∃(u:GV) (put:Bool) (nxt:List Live),env 5=u∧env 6= .bool put∧insG Eh x l nxt i put∧Hp σ τ [ow Ay.kd u nxt,pt 1 n1 (Ta x)]) (fun env τ=>env 3= .ptr n1 0∧∃(u:GV) (put:Bool) (nxt:List Live),env 5=u∧env 6= .bool put∧insG Eh x l nxt l.length put∧Hp σ τ [ow Ay.kd u nxt,pt 1 n1 (Ta x)]) rfl ⟨rfl,rfl,_,false,[],rfl,rfl,Lj,H⟩ ?_ ?_ ?_
 ·clear H
  rintro J Y hJ hY i env τ hi e7 c0 ⟨e0,e3,u,put,nxt,e5,e6,hok,H⟩
  have hnl:=C6 hok
  have hln:=(h.pre H.sub).len
  have C1:=A3 (h.pre H.sub) hi
  cases put with
  |true=>
   obtain⟨w',τ3,e8,H3⟩:=H.app_Live 0 rfl l[i] (by omega)
   simp +contextual (disch:=omega) only[go_sem,c0,e0,e3,e5,e6,e7,hln,C1,e8]
   refine hJ _ _ _ ⟨?_,?_,w',true,_,?_,?_,Co hok hi (.inl rfl),H3⟩
   all_goals simp +contextual (disch:=omega) only[go_sem,e0,e3,e6]
  |false=>
   simp +contextual (disch:=omega) only[go_sem,c0,e0,e3,e5,e6,e7,hln,C1,A0 (H.pt 1 rfl)]
   refine A7 (Cm _ _ _) ?_
   cases hq:Au x.dot l[i].dot with
   |false=>
    have hq2:Eh x l[i]=false:=hq
    obtain⟨w',τ3,e8,H3⟩:=H.app_Live 0 rfl l[i] (by omega)
    simp +contextual (disch:=omega) only[go_sem,c0,e0,e3,e5,e6,e7,hln,C1,e8]
    refine hJ _ _ _ ⟨?_,?_,w',false,_,?_,?_,Co hok hi (.inr hq2),H3⟩
    all_goals simp +contextual (disch:=omega) only[go_sem,e0,e3,e6]
   |true=>
    have hq2:Eh x l[i]=true:=hq
    obtain⟨w',τ3,e8,H3⟩:=H.app_Live 0 rfl x (by omega)
    have H3:Hp σ τ3 [ow Ay.kd w' (nxt++[x]),pt 1 n1 (Ta x)]:=H3
    have hp:=J8 hok hi hq2
    have hnl2:=C6 hp
    simp only[List.length_append,List.length_cons,List.length_nil] at hnl2
    have C2:=A3 (h.pre H3.sub) hi
    obtain⟨w2,τ4,e9,H4⟩:=H3.app_Live 0 rfl l[i] (by simp;omega)
    simp +contextual (disch:=omega) only[go_sem,c0,e0,e3,e5,e6,e7,hln,C1,A0 (H.pt 1 rfl),e8,C2,e9]
    refine hJ _ _ _ ⟨?_,?_,w2,true,_,?_,?_,hp,H4⟩
    all_goals simp +contextual (disch:=omega) only[go_sem,e0,e3,e6]
 ·clear H
  rintro Y hY env τ e7 c0 ⟨e0,e3,u,put,nxt,e5,e6,hok,H⟩
  have hln:=(h.pre H.sub).len
  simp +contextual (disch:=omega) only[go_sem,c0,e0,e3,e5,e6,e7,hln]
  refine hY _ _ ⟨?_,u,put,nxt,?_,?_,hok,H⟩
  all_goals simp +contextual (disch:=omega) only[go_sem,e3,e5,e6]
 ·clear H
  rintro env τ ⟨e3,u,put,nxt,e5,e6,hok,H⟩
  have hnl:=C6 hok
  have hend:=Lk hok
  cases put with
  |true=>
   simp +contextual (disch:=omega) only[go_sem,e3,e5,e6]
   refine⟨_,rfl,?_⟩
   rw[G1,←hend]
   exact H.one
  |false=>
   obtain⟨w',τ3,e8,H3⟩:=H.app_Live 0 rfl x (by omega)
   simp +contextual (disch:=omega) only[go_sem,e3,e5,e6,A0 (H.pt 1 rfl),e8]
   refine⟨_,rfl,?_⟩
   rw[G1,←hend]
   exact H3.one
set_option maxHeartbeats 2000000 in
theorem Z4 (σ:St) (v:GV) (l:List Cell) (h:RS Ai.kd σ v l) (x:Cell) (hl:l.length≤1099511627776):∃ r τ,Ret Tryz.prog Te [v,.agg (Lq x)] σ r τ∧Hp σ τ [ow Ai.kd r (J6 x l)]:=by
 refine Cv A1m (Z0z rfl) ?_
 have H:=((Hp.refl σ).new 1 (Lq x)).nil_Cell
 simp +contextual (disch:=omega) only[go_sem,Tf]
 generalize hn1:σ.length=n1 at*
 refine Fm l.length 7 0 (fun i env τ=>env 0=v∧env 3= .ptr n1 0∧∃(u:GV) (put:Bool) (nxt:List Cell),env 5=u∧env 6= .bool put∧insG Fd x l nxt i put∧Hp σ τ [ow Ai.kd u nxt,pt 1 n1 (Lq x)]) (fun env τ=>env 3= .ptr n1 0∧∃(u:GV) (put:Bool) (nxt:List Cell),env 5=u∧env 6= .bool put∧insG Fd x l nxt l.length put∧Hp σ τ [ow Ai.kd u nxt,pt 1 n1 (Lq x)]) rfl ⟨rfl,rfl,_,false,[],rfl,rfl,Lj,H⟩ ?_ ?_ ?_
 ·clear H
  rintro J Y hJ hY i env τ hi e7 c0 ⟨e0,e3,u,put,nxt,e5,e6,hok,H⟩
  have hnl:=C6 hok
  have hln:=(h.pre H.sub).len
  have C1:=A4 (h.pre H.sub) hi
  cases put with
  |true=>
   obtain⟨w',τ3,e8,H3⟩:=H.app_Cell 0 rfl l[i] (by omega)
   simp +contextual (disch:=omega) only[go_sem,c0,e0,e3,e5,e6,e7,hln,C1,e8]
   refine hJ _ _ _ ⟨?_,?_,w',true,_,?_,?_,Co hok hi (.inl rfl),H3⟩
   all_goals simp +contextual (disch:=omega) only[go_sem,e0,e3,e6]
  |false=>
   simp +contextual (disch:=omega) only[go_sem,c0,e0,e3,e5,e6,e7,hln,C1,A0 (H.pt 1 rfl)]
   refine A7 (Cm _ _ _) ?_
   cases hq:Au x.dot l[i].dot with
   |false=>
    have hq2:Fd x l[i]=false:=hq
    obtain⟨w',τ3,e8,H3⟩:=H.app_Cell 0 rfl l[i] (by omega)
    simp +contextual (disch:=omega) only[go_sem,c0,e0,e3,e5,e6,e7,hln,C1,e8]
    refine hJ _ _ _ ⟨?_,?_,w',false,_,?_,?_,Co hok hi (.inr hq2),H3⟩
    all_goals simp +contextual (disch:=omega) only[go_sem,e0,e3,e6]
   |true=>
    have hq2:Fd x l[i]=true:=hq
    obtain⟨w',τ3,e8,H3⟩:=H.app_Cell 0 rfl x (by omega)
    have H3:Hp σ τ3 [ow Ai.kd w' (nxt++[x]),pt 1 n1 (Lq x)]:=H3
    have hp:=J8 hok hi hq2
    have hnl2:=C6 hp
    simp only[List.length_append,List.length_cons,List.length_nil] at hnl2
    have C2:=A4 (h.pre H3.sub) hi
    obtain⟨w2,τ4,e9,H4⟩:=H3.app_Cell 0 rfl l[i] (by simp;omega)
    simp +contextual (disch:=omega) only[go_sem,c0,e0,e3,e5,e6,e7,hln,C1,A0 (H.pt 1 rfl),e8,C2,e9]
    refine hJ _ _ _ ⟨?_,?_,w2,true,_,?_,?_,hp,H4⟩
    all_goals simp +contextual (disch:=omega) only[go_sem,e0,e3,e6]
 ·clear H
  rintro Y hY env τ e7 c0 ⟨e0,e3,u,put,nxt,e5,e6,hok,H⟩
  have hln:=(h.pre H.sub).len
  simp +contextual (disch:=omega) only[go_sem,c0,e0,e3,e5,e6,e7,hln]
  refine hY _ _ ⟨?_,u,put,nxt,?_,?_,hok,H⟩
  all_goals simp +contextual (disch:=omega) only[go_sem,e3,e5,e6]
 ·clear H
  rintro env τ ⟨e3,u,put,nxt,e5,e6,hok,H⟩
  have hnl:=C6 hok
  have hend:=Lk hok
  cases put with
  |true=>
   simp +contextual (disch:=omega) only[go_sem,e3,e5,e6]
   refine⟨_,rfl,?_⟩
   rw[J6,←hend]
   exact H.one
  |false=>
   obtain⟨w',τ3,e8,H3⟩:=H.app_Cell 0 rfl x (by omega)
   simp +contextual (disch:=omega) only[go_sem,e3,e5,e6,A0 (H.pt 1 rfl),e8]
   refine⟨_,rfl,?_⟩
   rw[J6,←hend]
   exact H3.one
theorem A1n (σ:St) (cs:List GV) (s:State) (hR:A8.R σ s cs) (as':List GV) (a:Act) (hS:kAct.R σ a as') (hl:Ac s≤1099511627776):Ret Tryz.prog Wx [.agg cs,.agg as'] σ (.bool (Fl s a)) σ:=by
 have hR0:=hR
 have hlc:cs.length=4:=A8.len hR
 obtain⟨a1,b1,c1,v1,rfl,_,_,_,hc⟩:=hR
 obtain⟨kv,rfl,hk⟩:=hS
 obtain⟨l1,l2,l3,l4,_⟩:=Am hl
 refine Af A4p (Z0z rfl) trivial ?_
 have H:=((Hp.refl σ).new 1 [a1,b1,c1,v1]).new 1 [.int .i64 a.dot.rep,.int .i64 a.dot.seq,.int .i64 a.time,kv,.int .i64 a.kind,.str a.obj,.str a.key,.int .i64 a.val,.int .i64 a.ref.rep,.int .i64 a.ref.seq]
 have z1:=A0 (a:=false) (n:=1) (off:=4) (H.pt 0 rfl)
 by_cases hin:a.kind=7∨(a.kind=6∧a.ref≠d0)
 ·have CA:=Ko _ _ s (A8.pre hR0 H.sub) a.ref hl
  cases hx:Cj s.cells a.ref with
  |none=>
   have hE:Fl s a=false:=by simp[Fl,hin,hx]
   have hno:Bt s.cells a.ref= -1:=by simp[Bt,hx]
   rw[hno] at CA
   have cm:decide ((0:Int)≤ -1)=false:=rfl
   by_cases h7:a.kind=7
   ·have c7:(a.kind != 7)=false:=by simp[h7]
    simp +contextual (disch:=omega) only[go_sem,Fp,c7]
    refine A7 CA ?_
    simp +contextual (disch:=omega) only[go_sem,cm,hE,H.sub]
   ·have h6:a.kind=6∧a.ref≠d0:=hin.resolve_left h7
    have c7:(a.kind != 7)=true:=by simp[h7]
    have c6:(a.kind != 6)=false:=by simp[h6.1]
    have cr:decide (a.ref=⟨0,0⟩)=false:=decide_eq_false h6.2
    simp +contextual (disch:=omega) only[go_sem,Fp,c7,c6,cr,Bool.false_xor,Bool.false_bne]
    refine A7 CA ?_
    simp +contextual (disch:=omega) only[go_sem,cm,hE,H.sub]
  |some k=>
   obtain⟨hk,hk2⟩:=Bi hx
   have hE:Fl s a=(decide (s.cells[k].obj=a.obj)&&(decide (a.kind=7)||decide (s.cells[k].time<a.time))):=by simp[Fl,hin,hx,Bs hk]
   have hno:Bt s.cells a.ref=k:=by simp[Bt,hx]
   rw[hno] at CA
   have cm:decide ((0:Int)≤(k:Int))=true:=by simp
   have C2:=A4 (hc.pre H.sub) hk
   by_cases h7:a.kind=7
   ·have c7:(a.kind != 7)=false:=by simp[h7]
    have d7:(a.kind==7)=true:=by simp[h7]
    rw[decide_eq_true h7,Bool.true_or,Bool.and_true] at hE
    simp +contextual (disch:=omega) only[go_sem,Fp,c7]
    refine A7 CA ?_
    cases ho:decide (s.cells[k].obj=a.obj) with
    |true=>simp +contextual (disch:=omega) only[go_sem,cm,A2,C2,ho,d7,hE,H.sub]
    |false=>simp +contextual (disch:=omega) only[go_sem,cm,A2,C2,ho,hE,H.sub]
   ·have h6:a.kind=6∧a.ref≠d0:=hin.resolve_left h7
    have c7:(a.kind != 7)=true:=by simp[h7]
    have d7:(a.kind==7)=false:=by simp[h7]
    have c6:(a.kind != 6)=false:=by simp[h6.1]
    have cr:decide (a.ref=⟨0,0⟩)=false:=decide_eq_false h6.2
    rw[decide_eq_false h7,Bool.false_or] at hE
    simp +contextual (disch:=omega) only[go_sem,Fp,c7,c6,cr,Bool.false_xor,Bool.false_bne]
    refine A7 CA ?_
    cases ho:decide (s.cells[k].obj=a.obj) with
    |true=>simp +contextual (disch:=omega) only[go_sem,cm,A2,C2,ho,d7,hE,H.sub,Bool.true_and]
    |false=>simp +contextual (disch:=omega) only[go_sem,cm,A2,C2,ho,hE,H.sub,Bool.false_and]
 ·have hE:Fl s a=true:=by unfold Fl;rw[if_neg hin]
  have h7:¬ a.kind=7:=fun h=>hin (.inl h)
  have c7:(a.kind != 7)=true:=by simp[h7]
  by_cases h6:a.kind=6
  ·have hr:a.ref=d0:=by
    by_cases h:a.ref=d0
    ·exact h
    ·exact absurd (.inr ⟨h6,h⟩) hin
   have c6:(a.kind != 6)=false:=by simp[h6]
   have cr:decide (a.ref=⟨0,0⟩)=true:=decide_eq_true hr
   simp +contextual (disch:=omega) only[go_sem,Fp,c7,c6,cr,Bool.false_xor,Bool.false_bne,hE,H.sub]
  ·have c6:(a.kind != 6)=true:=by simp[h6]
   simp +contextual (disch:=omega) only[go_sem,Fp,c7,c6,hE,H.sub]
end
section
open Go Go.RowKit
theorem Hp.moveTo {σ τ:St} {r r':Thg} {rs:List Thg} (H:Hp σ τ (r::rs)) (k:Nat) (hk:rs[k]? =some r'):Hp σ τ (rs.set k r):=by
 have hkl:=(List.getElem?_eq_some_iff.1 hk).1
 have h1:=(H.pick (k+1) hk).drop1
 exact Hp.unpick h1 hkl
theorem A9c {P:Program} {a:Cd} {Q:Ex→Env→St→Prop} {env:Env} {σ:St} (n ri j0:Nat) (I:Nat→Env→St→Prop) (X Z:Env→St→Prop) (hr:env ri=gi 0) (h0:I 0 env σ)
  (hs:∀(J:Nat→Env→St→Prop) (Y W:Env→St→Prop),(∀ i env σ,I i env σ→J i env σ)→(∀ env σ,X env σ→Y env σ)→(∀ env σ,Z env σ→W env σ)→∀ i env σ,i<n→env ri=gi i→decide ((i:Int)<n)=true→I i env σ→vc P a (fun e env' σ'=>match e with| .nxt=>env' ri=gi ((i:Int)+1)∧J (i+1) env' σ'| .ext j=>j=j0∧Y env' σ'| .ret=>W env' σ') env σ)
  (he:∀(Y:Env→St→Prop),(∀ env σ,X env σ→Y env σ)→∀ env σ,env ri=gi n→decide ((n:Int)<n)=false→I n env σ→vc P a (fun e env' σ'=>match e with| .nxt=>False| .ext j=>j=j0∧Y env' σ'| .ret=>False) env σ)
  (hx:∀ env σ,X env σ→Q (.ext j0) env σ) (hz:∀ env σ,Z env σ→Q .ret env σ):vc P (.lop a) Q env σ:=by
 refine B8 n ri I hr h0 (fun i env σ h1 h2 h3 h4=>Av (hs I X Z (fun _ _ _ h=>h) (fun _ _ h=>h) (fun _ _ h=>h) i env σ h1 h2 h3 h4) fun e env' σ' hq=> ?_) (fun env σ h1 h2 h3=>Av (he X (fun _ _ h=>h) env σ h1 h2 h3) fun e env' σ' hq=> ?_)
 ·cases e with
  |nxt=>exact hq
  |ret=>exact hz _ _ hq
  |ext j=>obtain⟨rfl,hq⟩:=hq;exact hx _ _ hq
 ·cases e with
  |nxt=>exact hq
  |ret=>exact hq.elim
  |ext j=>obtain⟨rfl,hq⟩:=hq;exact hx _ _ hq
end
section
open Go Go.RowKit
abbrev Kw:Nat:=321
def Py:Fn1:=⟨61,[],(.seq (.reg [o 13 (.lit 6 0 [] []),o 10 (.mov (.t 13))]) (.seq (.seq (.reg [o 11 (.mov (.k (.int .i64 0)))]) (.blk 0 (.lop (.seq (.seq (.reg [o 14 (.mov (.t 11)),o 15 (.mov (.t 0)),o 16 (.nck (.t 15)),o 17 (.fad 2 (.t 16)),o 18 (.ld false 1 (.t 17)),o 19 (.len false (.t 18)),o 20 (.bin .lss (.t 14) (.t 19))]) (.cnd (.t 20) .skip (.ext 0))) (.seq (.blk 1 (.seq (.reg [o 23 (.mov (.t 0)),o 24 (.nck (.t 23)),o 25 (.fad 2 (.t 24)),o 26 (.ld false 1 (.t 25)),o 27 (.mov (.t 11)),o 28 (.iad 6 (.t 26) (.t 27)),o 29 (.ld true 6 (.t 28)),o 12 (.new [(.bool false),(.str ⟨#[]⟩),(.str ⟨#[]⟩),(.int .i64 0),(.int .i64 0),(.int .i64 0)]),on (.st 6 (.t 12) (.t 29))]) (.seq (.reg [o 30 (.fad 0 (.t 12)),o 31 (.ld false 1 (.t 30)),o 32 (.mov (.t 1)),o 33 (.eqb true (.t 31) (.t 32)),o 34 (.mov (.t 33)),og 35 34 false (.fad 1 (.t 12)),og 36 34 false (.ld false 1 (.t 35)),og 37 34 false (.mov (.t 2)),og 38 34 false (.bin .neq (.t 36) (.t 37)),o 39 (.pick (.t 34) (.k (.bool true)) (.t 38)),o 40 (.mov (.t 39)),og 41 40 false (.fad 2 (.t 12)),og 42 40 false (.ld false 1 (.t 41)),og 43 40 false (.mov (.t 3)),og 44 40 false (.bin .neq (.t 42) (.t 43)),o 45 (.pick (.t 40) (.k (.bool true)) (.t 44)),o 46 (.mov (.t 45)),og 47 46 false (.mov (.t 4)),og 48 46 false (.fad 4 (.t 12)),og 49 46 false (.ld true 2 (.t 48)),og 50 46 false (.call 45 [(.t 47),(.t 49)]),og 51 46 false (.un .not (.t 50)),o 52 (.pick (.t 46) (.k (.bool true)) (.t 51))]) (.cnd (.t 52) (.reg [o 53 (.mov (.t 10)),o 54 (.ld true 6 (.t 12)),o 55 (.lit 6 1 [(.bool false),(.str ⟨#[]⟩),(.str ⟨#[]⟩),(.int .i64 0),(.int .i64 0),(.int .i64 0)] [(0,6,(.t 54))]),o 56 (.app 6 64 [(.bool false),(.str ⟨#[]⟩),(.str ⟨#[]⟩),(.int .i64 0),(.int .i64 0),(.int .i64 0)] (.t 53) (.t 55)),o 10 (.mov (.t 56))]) .skip)))) (.reg [o 21 (.mov (.t 11)),o 22 (.bin .add (.t 21) (.k (.int .i64 1))),o 11 (.mov (.t 22))])))))) (.reg [o 57 (.mov (.t 0)),o 58 (.mov (.t 10)),o 59 (.nck (.t 57)),o 60 (.fad 2 (.t 59)),on (.st 1 (.t 60) (.t 58))])))⟩
theorem Z5:A5 Tryz.prog Kw=some Py:=by kernel_rfl
abbrev Ky:Nat:=319
def Pz:Fn1:=⟨113,[],(.seq (.seq (.reg [o 8 (.mov (.k (.int .i64 0)))]) (.blk 0 (.lop (.seq (.seq (.reg [o 14 (.mov (.t 8)),o 15 (.mov (.t 0)),o 16 (.nck (.t 15)),o 17 (.fad 1 (.t 16)),o 18 (.ld false 1 (.t 17)),o 19 (.len false (.t 18)),o 20 (.bin .lss (.t 14) (.t 19))]) (.cnd (.t 20) .skip (.ext 0))) (.seq (.blk 1 (.seq (.reg [o 23 (.mov (.t 0)),o 24 (.nck (.t 23)),o 25 (.fad 1 (.t 24)),o 26 (.ld false 1 (.t 25)),o 27 (.mov (.t 8)),o 28 (.iad 3 (.t 26) (.t 27)),o 29 (.ld true 3 (.t 28)),o 9 (.new [(.str ⟨#[]⟩),(.int .i64 0),(.int .i64 0)]),on (.st 3 (.t 9) (.t 29))]) (.seq (.reg [o 30 (.fad 0 (.t 9)),o 31 (.ld false 1 (.t 30)),o 32 (.mov (.t 1)),o 33 (.bin .eql (.t 31) (.t 32)),o 34 (.mov (.t 33)),og 35 34 true (.fad 1 (.t 9)),og 36 34 true (.ld false 1 (.t 35)),og 37 34 true (.mov (.t 2)),og 38 34 true (.bin .eql (.t 36) (.t 37)),o 39 (.pick (.t 34) (.t 38) (.k (.bool false)))]) (.cnd (.t 39) (.seq (.drw [o 40 (.mov (.t 0)),o 41 (.nck (.t 40)),o 42 (.fad 1 (.t 41)),o 43 (.ld false 1 (.t 42)),o 44 (.mov (.t 8)),o 45 (.fad 2 (.t 9)),o 46 (.ld false 1 (.t 45))] [o 47 (.mov (.t 3)),o 48 (.bin .add (.t 46) (.t 47)),o 49 (.bin .rem (.t 48) (.k (.int .i64 1000000))),o 50 (.iad 3 (.t 43) (.t 44)),o 51 (.fad 2 (.t 50)),on (.st 1 (.t 51) (.t 49))]) .ret) .skip)))) (.reg [o 21 (.mov (.t 8)),o 22 (.bin .add (.t 21) (.k (.int .i64 1))),o 8 (.mov (.t 22))])))))) (.seq (.reg [o 52 (.lit 3 0 [] []),o 10 (.mov (.t 52))]) (.seq (.reg [o 11 (.mov (.k (.bool false)))]) (.seq (.seq (.reg [o 12 (.mov (.k (.int .i64 0)))]) (.blk 2 (.lop (.seq (.seq (.reg [o 53 (.mov (.t 12)),o 54 (.mov (.t 0)),o 55 (.nck (.t 54)),o 56 (.fad 1 (.t 55)),o 57 (.ld false 1 (.t 56)),o 58 (.len false (.t 57)),o 59 (.bin .lss (.t 53) (.t 58))]) (.cnd (.t 59) .skip (.ext 2))) (.seq (.blk 3 (.seq (.reg [o 62 (.mov (.t 0)),o 63 (.nck (.t 62)),o 64 (.fad 1 (.t 63)),o 65 (.ld false 1 (.t 64)),o 66 (.mov (.t 12)),o 67 (.iad 3 (.t 65) (.t 66)),o 68 (.ld true 3 (.t 67)),o 13 (.new [(.str ⟨#[]⟩),(.int .i64 0),(.int .i64 0)]),on (.st 3 (.t 13) (.t 68))]) (.seq (.seq (.reg [o 69 (.mov (.t 11)),o 70 (.un .not (.t 69)),o 71 (.mov (.t 70)),og 72 71 true (.fad 0 (.t 13)),og 73 71 true (.ld false 1 (.t 72)),og 74 71 true (.mov (.t 1)),og 75 71 true (.bin .gtr (.t 73) (.t 74)),og 76 71 true (.mov (.t 75)),og 77 76 false (.fad 0 (.t 13)),og 78 76 false (.ld false 1 (.t 77)),og 79 76 false (.mov (.t 1)),og 80 76 false (.bin .eql (.t 78) (.t 79)),og 81 76 false (.mov (.t 80)),og 82 81 true (.fad 1 (.t 13)),og 83 81 true (.ld false 1 (.t 82)),og 84 81 true (.mov (.t 2)),og 85 81 true (.bin .gtr (.t 83) (.t 84)),og 86 76 false (.pick (.t 81) (.t 85) (.k (.bool false))),og 87 71 true (.pick (.t 76) (.k (.bool true)) (.t 86)),o 88 (.pick (.t 71) (.t 87) (.k (.bool false)))]) (.cnd (.t 88) (.seq (.reg [o 89 (.mov (.t 10)),o 90 (.mov (.t 1)),o 91 (.mov (.t 2)),o 92 (.mov (.t 3)),o 93 (.build [(.str ⟨#[]⟩),(.int .i64 0),(.int .i64 0)] [(0,1,(.t 90)),(1,1,(.t 91)),(2,1,(.t 92))]),o 94 (.lit 3 1 [(.str ⟨#[]⟩),(.int .i64 0),(.int .i64 0)] [(0,3,(.t 93))]),o 95 (.app 3 32 [(.str ⟨#[]⟩),(.int .i64 0),(.int .i64 0)] (.t 89) (.t 94)),o 10 (.mov (.t 95))]) (.reg [o 11 (.mov (.k (.bool true)))])) .skip)) (.reg [o 96 (.mov (.t 10)),o 97 (.ld true 3 (.t 13)),o 98 (.lit 3 1 [(.str ⟨#[]⟩),(.int .i64 0),(.int .i64 0)] [(0,3,(.t 97))]),o 99 (.app 3 32 [(.str ⟨#[]⟩),(.int .i64 0),(.int .i64 0)] (.t 96) (.t 98)),o 10 (.mov (.t 99))])))) (.reg [o 60 (.mov (.t 12)),o 61 (.bin .add (.t 60) (.k (.int .i64 1))),o 12 (.mov (.t 61))])))))) (.seq (.seq (.reg [o 100 (.mov (.t 11)),o 101 (.un .not (.t 100))]) (.cnd (.t 101) (.reg [o 102 (.mov (.t 10)),o 103 (.mov (.t 1)),o 104 (.mov (.t 2)),o 105 (.mov (.t 3)),o 106 (.build [(.str ⟨#[]⟩),(.int .i64 0),(.int .i64 0)] [(0,1,(.t 103)),(1,1,(.t 104)),(2,1,(.t 105))]),o 107 (.lit 3 1 [(.str ⟨#[]⟩),(.int .i64 0),(.int .i64 0)] [(0,3,(.t 106))]),o 108 (.app 3 32 [(.str ⟨#[]⟩),(.int .i64 0),(.int .i64 0)] (.t 102) (.t 107)),o 10 (.mov (.t 108))]) .skip)) (.reg [o 109 (.mov (.t 0)),o 110 (.mov (.t 10)),o 111 (.nck (.t 109)),o 112 (.fad 1 (.t 111)),on (.st 1 (.t 112) (.t 110))]))))))⟩
theorem Z6:A5 Tryz.prog Ky=some Pz:=by kernel_rfl
def SPtr (σ0 τ:St) (g:Nat) (s:State) (rest:List Thg):Prop:=∃ v0 v1 v2 v3,Hp σ0 τ (ow pI.kd v0 s.know::ow Ar.kd v1 s.tallies::ow Ay.kd v2 s.lives::ow Ai.kd v3 s.cells::pt 1 g [v0,v1,v2,v3]::rest)
set_option maxHeartbeats 2000000 in
theorem I5 {σ0 σ:St} {g:Nat} {s:State} {rest:List Thg} (H:SPtr σ0 σ g s rest) (m:Bool) (o k:ByteArray) (kv:GV) (knew:List Int) (hk:RS pI.kd σ0 kv knew) (hl:Ac s≤1099511627776) (hkl:knew.length≤1099511627776):∃ τ,Ret Tryz.prog Kw [.ptr g 0,.bool m,.str o,.str k,kv] σ (.tup []) τ∧SPtr σ0 τ g {s with lives:=s.lives.filter (Jt m o k knew)} rest:=by
 obtain⟨v0,v1,v2,v3,H⟩:=H
 obtain⟨l1,l2,l3,l4,_⟩:=Am hl
 have key:∃ r τ,Ret Tryz.prog Kw [.ptr g 0,.bool m,.str o,.str k,kv] σ r τ∧r= .tup []∧SPtr σ0 τ g {s with lives:=s.lives.filter (Jt m o k knew)} rest:=by
  refine Cv Z5 (Z0z rfl) ?_
  have H:=H.nil_Live
  simp +contextual (disch:=omega) only[go_sem,Py]
  generalize hp:Jt m o k knew=p
  refine Fm s.lives.length 11 0 (fun i env τ=>env 0= .ptr g 0∧env 1= .bool m∧env 2= .str o∧env 3= .str k∧env 4=kv∧∃ w,env 10=w∧Hp σ0 τ (ow Ay.kd w ((s.lives.take i).filter p)::ow pI.kd v0 s.know::ow Ar.kd v1 s.tallies::ow Ay.kd v2 s.lives::ow Ai.kd v3 s.cells::pt 1 g [v0,v1,v2,v3]::rest)) (fun env τ=>env 0= .ptr g 0∧∃ w,env 10=w∧Hp σ0 τ (ow Ay.kd w (s.lives.filter p)::ow pI.kd v0 s.know::ow Ar.kd v1 s.tallies::ow Ay.kd v2 s.lives::ow Ai.kd v3 s.cells::pt 1 g [v0,v1,v2,v3]::rest)) rfl ⟨rfl,rfl,rfl,rfl,rfl,_,rfl,H⟩ ?_ ?_ ?_
  ·clear H
   rintro J Y hJ hY i env τ hi e11 c0 ⟨e0,e1,e2,e3,e4,w,e10,H⟩
   have hfl:=Cc s.lives p i
   have hsn:=Do (p:=p) hi
   have C1:=A3 (H.sl 3 rfl) hi
   have hln:=(H.sl 3 rfl).len
   have zb:=H.pt 5 rfl
   have G:=H.grow (pre1 τ (some (Blk.row 1 (Ta s.lives[i]))))
   have hkeep:p s.lives[i]=(!(s.lives[i].map==m)||(!decide (s.lives[i].obj=o)||(!decide (s.lives[i].key=k)|| !B9 knew s.lives[i].dot))):=by rw[← hp];rfl
   obtain⟨w',τ3,e8,H3⟩:=G.app_Live 0 rfl s.lives[i] (by omega)
   have kn:=Fi _ kv knew s.lives[i].dot (hk.pre G.sub) hkl
   cases h1:(s.lives[i].map==m) with
   |false=>
    rw[h1] at hkeep
    have hk0:p s.lives[i]=true:=by rw[hkeep];rfl
    rw[hk0,if_pos rfl] at hsn
    simp +contextual (disch:=omega) only[go_sem,c0,e0,e1,e2,e3,e4,e10,e11,A0 zb,hln,C1,h1,Bool.xor_false,Bool.true_bne,Bool.not_false,e8]
    refine hJ _ _ _ ⟨?_,?_,?_,?_,?_,w',?_,by rw[hsn];exact H3⟩
    all_goals simp +contextual (disch:=omega) only[go_sem,e0,e1,e2,e3,e4,e10]
   |true=>
    cases h2:decide (s.lives[i].obj=o) with
    |false=>
     rw[h1,h2] at hkeep
     have hk0:p s.lives[i]=true:=by rw[hkeep];rfl
     rw[hk0,if_pos rfl] at hsn
     simp +contextual (disch:=omega) only[go_sem,c0,e0,e1,e2,e3,e4,e10,e11,A0 zb,hln,C1,h1,h2,Bool.true_bne,Bool.not_false,Bool.not_true,e8]
     refine hJ _ _ _ ⟨?_,?_,?_,?_,?_,w',?_,by rw[hsn];exact H3⟩
     all_goals simp +contextual (disch:=omega) only[go_sem,e0,e1,e2,e3,e4,e10]
    |true=>
     cases h3:decide (s.lives[i].key=k) with
     |false=>
      rw[h1,h2,h3] at hkeep
      have hk0:p s.lives[i]=true:=by rw[hkeep];rfl
      rw[hk0,if_pos rfl] at hsn
      simp +contextual (disch:=omega) only[go_sem,c0,e0,e1,e2,e3,e4,e10,e11,A0 zb,hln,C1,h1,h2,h3,Bool.true_bne,Bool.not_false,Bool.not_true,e8]
      refine hJ _ _ _ ⟨?_,?_,?_,?_,?_,w',?_,by rw[hsn];exact H3⟩
      all_goals simp +contextual (disch:=omega) only[go_sem,e0,e1,e2,e3,e4,e10]
     |true=>
      simp +contextual (disch:=omega) only[go_sem,c0,e0,e1,e2,e3,e4,e10,e11,A0 zb,hln,C1,h1,h2,h3,Bool.true_bne,Bool.not_false,Bool.not_true]
      refine A7 kn ?_
      cases h4:B9 knew s.lives[i].dot with
      |false=>
       rw[h1,h2,h3,h4] at hkeep
       have hk0:p s.lives[i]=true:=by rw[hkeep];rfl
       rw[hk0,if_pos rfl] at hsn
       simp +contextual (disch:=omega) only[go_sem,e0,e1,e2,e3,e4,e10,e11,C1,h4,e8]
       refine hJ _ _ _ ⟨?_,?_,?_,?_,?_,w',?_,by rw[hsn];exact H3⟩
       all_goals simp +contextual (disch:=omega) only[go_sem,e0,e1,e2,e3,e4,e10]
      |true=>
       rw[h1,h2,h3,h4] at hkeep
       have hk0:p s.lives[i]=false:=by rw[hkeep];rfl
       rw[hk0,if_neg (by simp),List.append_nil] at hsn
       simp +contextual (disch:=omega) only[go_sem,e0,e1,e2,e3,e4,e10,e11,h4]
       refine hJ _ _ _ ⟨?_,?_,?_,?_,?_,w,?_,by rw[hsn];exact G⟩
       all_goals simp +contextual (disch:=omega) only[go_sem,e0,e1,e2,e3,e4,e10]
  ·clear H
   rintro Y hY env τ e11 c0 ⟨e0,e1,e2,e3,e4,w,e10,H⟩
   rw[List.take_length] at H
   have hln:=(H.sl 3 rfl).len
   simp +contextual (disch:=omega) only[go_sem,c0,e0,e1,e2,e3,e4,e10,e11,A0 (H.pt 5 rfl),hln]
   refine hY _ _ ⟨?_,w,?_,H⟩
   all_goals simp +contextual (disch:=omega) only[go_sem,e0,e10]
  ·clear H
   rintro env τ ⟨e0,w,e10,H⟩
   have c1:=(H.sl 0 rfl).cell
   obtain⟨τ1,s1,H1,_⟩:=H.st 5 rfl 1 2 w (by rw[c1];rfl) (by decide) (by simp)
   simp +contextual (disch:=omega) only[go_sem,e0,e10,s1]
   refine⟨_,rfl,rfl,v0,v1,w,v3,?_⟩
   simp only[c1,List.set_cons_zero,List.set_cons_succ,Bx,Bw,Cf] at H1
   exact Hp.moveTo H1 2 rfl
 obtain⟨r,τ,R,rfl,h⟩:=key
 exact⟨τ,R,h⟩
theorem Ll {α:Type} (f:α→α):∀ {l:List α} {i:Nat} (hi:i<l.length),l.modify i f=l.set i (f l[i])
 |x::l,0,_=>by simp
 |x::l,i+1,hi=>by
  rw[List.modify_succ_cons,Ll f (by simpa using hi)]
  simp
theorem A7e {l:List Tally} {o:ByteArray} {r:Int} {i:Nat} (hi:i<l.length) (ha:∀ j (hj:j<l.length),j<i→G0 o r l[j]=false) (h:G0 o r l[i]=true):l.findIdx? (G0 o r)=some i:=by
 rw[List.findIdx?_eq_some_iff_getElem]
 exact⟨hi,h,fun j hj=>by rw[ha j (by omega) hj];simp⟩
set_option maxHeartbeats 2000000 in
theorem Vf {σ0 σ:St} {g:Nat} {s:State} {rest:List Thg} (H:SPtr σ0 σ g s rest) (o:ByteArray) (rep val:Int) (hl:Ac s≤1099511627776) (hv: -1000000≤val∧val≤1000000) (hs:∀ t∈s.tallies,-1000000≤t.sum∧t.sum≤1000000):∃ τ,Ret Tryz.prog Ky [.ptr g 0,.str o,gi rep,gi val] σ (.tup []) τ∧SPtr σ0 τ g {s with tallies:=Ej s.tallies o rep val} rest:=by
 obtain⟨v0,v1,v2,v3,H⟩:=H
 obtain⟨l1,l2,l3,l4,_⟩:=Am hl
 have key:∃ r τ,Ret Tryz.prog Ky [.ptr g 0,.str o,gi rep,gi val] σ r τ∧r= .tup []∧SPtr σ0 τ g {s with tallies:=Ej s.tallies o rep val} rest:=by
  refine Cv Z6 (Z0z rfl) ?_
  simp +contextual (disch:=omega) only[go_sem,Pz]
  refine A9c s.tallies.length 8 0 (fun i env τ=>env 0= .ptr g 0∧env 1= .str o∧env 2=gi rep∧env 3=gi val∧(∀ j (hj:j<s.tallies.length),j<i→G0 o rep s.tallies[j]=false)∧Hp σ0 τ (ow pI.kd v0 s.know::ow Ar.kd v1 s.tallies::ow Ay.kd v2 s.lives::ow Ai.kd v3 s.cells::pt 1 g [v0,v1,v2,v3]::rest)) (fun env τ=>env 0= .ptr g 0∧env 1= .str o∧env 2=gi rep∧env 3=gi val∧s.tallies.findIdx? (G0 o rep)=none∧Hp σ0 τ (ow pI.kd v0 s.know::ow Ar.kd v1 s.tallies::ow Ay.kd v2 s.lives::ow Ai.kd v3 s.cells::pt 1 g [v0,v1,v2,v3]::rest)) (fun env τ=>SPtr σ0 τ g {s with tallies:=Ej s.tallies o rep val} rest) rfl ⟨rfl,rfl,rfl,rfl,fun j _ hj=>by omega,H⟩ ?_ ?_ ?_ ?_
  ·clear H
   rintro J Y W hJ hY hW i env τ hi e8 c0 ⟨e0,e1,e2,e3,ha,H⟩
   have C1:=Aa (H.sl 1 rfl) hi
   have hln:=(H.sl 1 rfl).len
   have zb:=H.pt 4 rfl
   have G:=H.grow (pre1 τ (some (Blk.row 1 (A1k s.tallies[i]))))
   have hno:G0 o rep s.tallies[i]=false→∀ j (hj:j<s.tallies.length),j<i+1→G0 o rep s.tallies[j]=false:=fun h j hj hji=>by
    rcases Nat.lt_or_ge j i with h2|h2
    ·exact ha j hj h2
    ·have:j=i:=by omega
     subst this;exact h
   cases h1:decide (s.tallies[i].obj=o) with
   |false=>
    simp +contextual (disch:=omega) only[go_sem,c0,e0,e1,e2,e3,e8,A0 zb,hln,C1,h1]
    refine hJ _ _ _ ⟨?_,?_,?_,?_,hno (by simp[G0,h1]),G⟩
    all_goals simp +contextual (disch:=omega) only[go_sem,e0,e1,e2,e3]
   |true=>
    have o1:s.tallies[i].obj=o:=by simpa using h1
    cases h2:decide (s.tallies[i].rep=rep) with
    |false=>
     have b2:(s.tallies[i].rep==rep)=false:=h2
     simp +contextual (disch:=omega) only[go_sem,c0,e0,e1,e2,e3,e8,A0 zb,hln,C1,h1,b2]
     refine hJ _ _ _ ⟨?_,?_,?_,?_,hno (by simp[G0,h2]),G⟩
     all_goals simp +contextual (disch:=omega) only[go_sem,e0,e1,e2,e3]
    |true=>
     have b2:(s.tallies[i].rep==rep)=true:=h2
     have hf:=A7e hi ha (by simp only[G0,h1,h2];rfl)
     have hsb:=hs _ (List.getElem_mem hi)
     have w1:IntKind.i64.wrap (s.tallies[i].sum+val)=s.tallies[i].sum+val:=Bl (by omega) (by omega)
     have C2:=Aa (G.sl 1 rfl) hi
     obtain⟨τ1,s1,H1⟩:=G.ste 1 rfl hi 1 2 (gi (addM s.tallies[i].sum val)) {s.tallies[i] with sum:=addM s.tallies[i].sum val} rfl (by decide) (by decide) rfl
     have s1:stG 1 _ (fld 2 (atz 3 v1 i)) (.int .i64 ((s.tallies[i].sum+val).tmod 1000000))=some (.tup [],τ1):=s1
     have zc:=G.pt 4 rfl
     simp +contextual (disch:=omega) only[go_sem,c0,e0,e1,e2,e3,e8,A0 zb,A0 zc,hln,C1,C2,h1,b2,A2,w1,s1]
     refine hW _ _ ⟨v0,v1,v2,v3,?_⟩
     have hE:Ej s.tallies o rep val=s.tallies.set i {s.tallies[i] with sum:=addM s.tallies[i].sum val}:=by
      unfold Ej
      rw[hf]
      simp only[]
      rw[Ll _ hi]
     show Hp σ0 τ1 (ow pI.kd v0 s.know::ow Ar.kd v1 (Ej s.tallies o rep val)::ow Ay.kd v2 s.lives::ow Ai.kd v3 s.cells::pt 1 g [v0,v1,v2,v3]::rest)
     rw[hE]
     exact H1
  ·clear H
   rintro Y hY env τ e8 c0 ⟨e0,e1,e2,e3,ha,H⟩
   have hln:=(H.sl 1 rfl).len
   have hnf:s.tallies.findIdx? (G0 o rep)=none:=by
    rw[List.findIdx?_eq_none_iff]
    intro t ht
    obtain⟨j,hj,rfl⟩:=List.getElem_of_mem ht
    exact ha j hj hj
   simp +contextual (disch:=omega) only[go_sem,c0,e0,e1,e2,e3,e8,A0 (H.pt 4 rfl),hln]
   refine hY _ _ ⟨?_,?_,?_,?_,hnf,H⟩
   all_goals simp +contextual (disch:=omega) only[go_sem,e0,e1,e2,e3]
  ·clear H
   rintro env τ ⟨e0,e1,e2,e3,hnf,H⟩
   have hE:Ej s.tallies o rep val=insB Ak ⟨o,rep,val⟩ s.tallies:=by unfold Ej;rw[hnf]
   rw[hE]
   have H:=H.nil_Tally
   simp +contextual (disch:=omega) only[go_sem,e0,e1,e2,e3]
   refine Fm s.tallies.length 12 2 (fun i env τ=>env 0= .ptr g 0∧env 1= .str o∧env 2=gi rep∧env 3=gi val∧∃(u:GV) (put:Bool) (nxt:List Tally),env 10=u∧env 11= .bool put∧insG Ak ⟨o,rep,val⟩ s.tallies nxt i put∧Hp σ0 τ (ow Ar.kd u nxt::ow pI.kd v0 s.know::ow Ar.kd v1 s.tallies::ow Ay.kd v2 s.lives::ow Ai.kd v3 s.cells::pt 1 g [v0,v1,v2,v3]::rest)) (fun env τ=>env 0= .ptr g 0∧env 1= .str o∧env 2=gi rep∧env 3=gi val∧∃(u:GV) (put:Bool) (nxt:List Tally),env 10=u∧env 11= .bool put∧insG Ak ⟨o,rep,val⟩ s.tallies nxt s.tallies.length put∧Hp σ0 τ (ow Ar.kd u nxt::ow pI.kd v0 s.know::ow Ar.kd v1 s.tallies::ow Ay.kd v2 s.lives::ow Ai.kd v3 s.cells::pt 1 g [v0,v1,v2,v3]::rest)) rfl ⟨by simp +contextual (disch:=omega) only[go_sem,e0],by simp +contextual (disch:=omega) only[go_sem,e1],by simp +contextual (disch:=omega) only[go_sem,e2],by simp +contextual (disch:=omega) only[go_sem,e3],_,false,[],by simp +contextual (disch:=omega) only[go_sem],by simp +contextual (disch:=omega) only[go_sem],Lj,H⟩ ?_ ?_ ?_
   ·clear H e0 e1 e2 e3
    rintro J Y hJ hY i env τ hi e12 c0 ⟨e0,e1,e2,e3,u,put,nxt,e10,e11,hok,H⟩
    have hnl:=C6 hok
    have C1:=Aa (H.sl 2 rfl) hi
    have hln:=(H.sl 2 rfl).len
    have zb:=H.pt 5 rfl
    have G:=H.grow (pre1 τ (some (Blk.row 1 (A1k s.tallies[i]))))
    have hlt:Ak ⟨o,rep,val⟩ s.tallies[i]=(txLt o s.tallies[i].obj||(decide (s.tallies[i].obj=o)&&decide (rep<s.tallies[i].rep))):=by
     unfold Ak
     have:decide (o=s.tallies[i].obj)=decide (s.tallies[i].obj=o):=by rw[decide_eq_decide];exact eq_comm
     rw[this]
    have HN:=H.new 1 (A1k s.tallies[i])
    cases put with
    |true=>
     obtain⟨w',τ3,e8,H3⟩:=G.app_Tally 0 rfl s.tallies[i] (by omega)
     simp +contextual (disch:=omega) only[go_sem,c0,e0,e1,e2,e3,e10,e11,e12,A0 zb,hln,C1,Bool.not_true,e8]
     refine hJ _ _ _ ⟨?_,?_,?_,?_,w',true,_,?_,?_,Co hok hi (.inl rfl),H3⟩
     all_goals simp +contextual (disch:=omega) only[go_sem,e0,e1,e2,e3,e11]
    |false=>
     cases h1:txLt o s.tallies[i].obj with
     |true=>
      have hq:Ak ⟨o,rep,val⟩ s.tallies[i]=true:=by rw[hlt,h1];rfl
      have hp:=J8 hok hi hq
      have hnl2:=C6 hp
      simp only[List.length_append,List.length_cons,List.length_nil] at hnl2
      obtain⟨w4,τ4,e9,H4⟩:=HN.app_Tally 1 rfl ⟨o,rep,val⟩ (by omega)
      have H4:Hp σ0 τ4 (pt 1 τ.length (A1k s.tallies[i])::ow Ar.kd w4 (nxt++[⟨o,rep,val⟩])::ow pI.kd v0 s.know::ow Ar.kd v1 s.tallies::ow Ay.kd v2 s.lives::ow Ai.kd v3 s.cells::pt 1 g [v0,v1,v2,v3]::rest):=H4
      have zx:=A0 (a:=true) (n:=3) (off:=0) (H4.pt 0 rfl)
      obtain⟨w5,τ5,e13,H5⟩:=H4.app_Tally 1 rfl s.tallies[i] (by simp;omega)
      simp +contextual (disch:=omega) only[go_sem,c0,e0,e1,e2,e3,e10,e11,e12,A0 zb,hln,C1,Bool.not_false,h1,e9,zx,e13]
      refine hJ _ _ _ ⟨?_,?_,?_,?_,w5,true,_,?_,?_,hp,H5.drop1⟩
      all_goals simp +contextual (disch:=omega) only[go_sem,e0,e1,e2,e3,e11]
     |false=>
      cases h2:decide (s.tallies[i].obj=o) with
      |false=>
       obtain⟨w',τ3,e8,H3⟩:=G.app_Tally 0 rfl s.tallies[i] (by omega)
       simp +contextual (disch:=omega) only[go_sem,c0,e0,e1,e2,e3,e10,e11,e12,A0 zb,hln,C1,Bool.not_false,h1,h2,e8]
       refine hJ _ _ _ ⟨?_,?_,?_,?_,w',false,_,?_,?_,Co hok hi (.inr (by rw[hlt,h1,h2];rfl)),H3⟩
       all_goals simp +contextual (disch:=omega) only[go_sem,e0,e1,e2,e3,e11]
      |true=>
       cases h3:decide (rep<s.tallies[i].rep) with
       |true=>
        have hq:Ak ⟨o,rep,val⟩ s.tallies[i]=true:=by rw[hlt,h1,h2,h3];rfl
        have hp:=J8 hok hi hq
        have hnl2:=C6 hp
        simp only[List.length_append,List.length_cons,List.length_nil] at hnl2
        obtain⟨w4,τ4,e9,H4⟩:=HN.app_Tally 1 rfl ⟨o,rep,val⟩ (by omega)
        have H4:Hp σ0 τ4 (pt 1 τ.length (A1k s.tallies[i])::ow Ar.kd w4 (nxt++[⟨o,rep,val⟩])::ow pI.kd v0 s.know::ow Ar.kd v1 s.tallies::ow Ay.kd v2 s.lives::ow Ai.kd v3 s.cells::pt 1 g [v0,v1,v2,v3]::rest):=H4
        have zx:=A0 (a:=true) (n:=3) (off:=0) (H4.pt 0 rfl)
        obtain⟨w5,τ5,e13,H5⟩:=H4.app_Tally 1 rfl s.tallies[i] (by simp;omega)
        simp +contextual (disch:=omega) only[go_sem,c0,e0,e1,e2,e3,e10,e11,e12,A0 zb,hln,C1,Bool.not_false,h1,h2,h3,e9,zx,e13]
        refine hJ _ _ _ ⟨?_,?_,?_,?_,w5,true,_,?_,?_,hp,H5.drop1⟩
        all_goals simp +contextual (disch:=omega) only[go_sem,e0,e1,e2,e3,e11]
       |false=>
        obtain⟨w',τ3,e8,H3⟩:=G.app_Tally 0 rfl s.tallies[i] (by omega)
        simp +contextual (disch:=omega) only[go_sem,c0,e0,e1,e2,e3,e10,e11,e12,A0 zb,hln,C1,Bool.not_false,h1,h2,h3,e8]
        refine hJ _ _ _ ⟨?_,?_,?_,?_,w',false,_,?_,?_,Co hok hi (.inr (by rw[hlt,h1,h2,h3];rfl)),H3⟩
        all_goals simp +contextual (disch:=omega) only[go_sem,e0,e1,e2,e3,e11]
   ·clear H e0 e1 e2 e3
    rintro Y hY env τ e12 c0 ⟨e0,e1,e2,e3,u,put,nxt,e10,e11,hok,H⟩
    have hln:=(H.sl 2 rfl).len
    simp +contextual (disch:=omega) only[go_sem,c0,e0,e1,e2,e3,e10,e11,e12,A0 (H.pt 5 rfl),hln]
    refine hY _ _ ⟨?_,?_,?_,?_,u,put,nxt,?_,?_,hok,H⟩
    all_goals simp +contextual (disch:=omega) only[go_sem,e0,e1,e2,e3,e10,e11]
   ·clear H e0 e1 e2 e3
    rintro env τ ⟨e0,e1,e2,e3,u,put,nxt,e10,e11,hok,H⟩
    have hnl:=C6 hok
    have hend:=Lk hok
    cases put with
    |true=>
     have c1:=(H.sl 0 rfl).cell
     obtain⟨τ1,s1,H1,_⟩:=H.st 5 rfl 1 1 u (by rw[c1];rfl) (by decide) (by simp)
     simp +contextual (disch:=omega) only[go_sem,e0,e1,e2,e3,e10,e11,Bool.not_true,s1]
     refine⟨_,rfl,rfl,v0,u,v2,v3,?_⟩
     simp only[c1,List.set_cons_zero,List.set_cons_succ,Bx,Bw,Cf] at H1
     rw[← hend]
     exact Hp.moveTo H1 1 rfl
    |false=>
     obtain⟨w',τ3,e8,H3⟩:=H.app_Tally 0 rfl ⟨o,rep,val⟩ (by omega)
     have H3:Hp σ0 τ3 (ow Ar.kd w' (nxt++[⟨o,rep,val⟩])::ow pI.kd v0 s.know::ow Ar.kd v1 s.tallies::ow Ay.kd v2 s.lives::ow Ai.kd v3 s.cells::pt 1 g [v0,v1,v2,v3]::rest):=H3
     have c1:=(H3.sl 0 rfl).cell
     obtain⟨τ1,s1,H1,_⟩:=H3.st 5 rfl 1 1 w' (by rw[c1];rfl) (by decide) (by simp)
     simp +contextual (disch:=omega) only[go_sem,e0,e1,e2,e3,e10,e11,Bool.not_false,e8,s1]
     refine⟨_,rfl,rfl,v0,w',v2,v3,?_⟩
     simp only[c1,List.set_cons_zero,List.set_cons_succ,Bx,Bw,Cf] at H1
     rw[← hend]
     exact Hp.moveTo H1 1 rfl
  ·clear H
   rintro env τ h
   simp +contextual (disch:=omega) only[go_sem]
   exact⟨_,rfl,rfl,h⟩
 obtain⟨r,τ,R,rfl,h⟩:=key
 exact⟨τ,R,h⟩
end
section
open Go Go.RowKit
abbrev Tg:Nat:=249
def A1o:Fn1:=⟨127,[],(.seq (.reg [o 3 (.box (.t 1))]) (.seq (.drw [o 4 (.mov (.t 0)),o 5 (.nck (.t 4)),o 6 (.fad 0 (.t 5)),o 7 (.ld false 1 (.t 6)),o 8 (.fad 0 (.t 3)),o 9 (.fad 0 (.t 8)),o 10 (.ld false 1 (.t 9)),o 11 (.fad 0 (.t 3)),o 12 (.fad 1 (.t 11)),o 13 (.ld false 1 (.t 12))] [o 14 (.iad 1 (.t 7) (.t 10)),on (.st 1 (.t 14) (.t 13))]) (.seq (.reg [o 15 (.fad 4 (.t 3)),o 16 (.ld false 1 (.t 15))]) (.blk 0 (.seq (.reg [o 18 (.bin .eql (.t 16) (.k (.int .i64 1))),o 17 (.mov (.t 18))]) (.cnd (.t 17) (.reg [o 19 (.mov (.t 0)),o 20 (.fad 5 (.t 3)),o 21 (.ld false 1 (.t 20)),o 22 (.fad 0 (.t 3)),o 23 (.fad 0 (.t 22)),o 24 (.ld false 1 (.t 23)),o 25 (.fad 7 (.t 3)),o 26 (.ld false 1 (.t 25)),o 27 (.call 319 [(.t 19),(.t 21),(.t 24),(.t 26)])]) (.seq (.reg [o 29 (.bin .eql (.t 16) (.k (.int .i64 2))),o 28 (.mov (.t 29))]) (.cnd (.t 28) (.drw [o 30 (.mov (.t 0)),o 31 (.mov (.t 0)),o 32 (.nck (.t 31)),o 33 (.fad 2 (.t 32)),o 34 (.ld false 1 (.t 33)),o 35 (.fad 5 (.t 3)),o 36 (.ld false 1 (.t 35)),o 37 (.fad 6 (.t 3)),o 38 (.ld false 1 (.t 37)),o 39 (.fad 0 (.t 3)),o 40 (.ld true 2 (.t 39))] [o 41 (.build [(.bool false),(.str ⟨#[]⟩),(.str ⟨#[]⟩),(.int .i64 0),(.int .i64 0),(.int .i64 0)] [(1,1,(.t 36)),(2,1,(.t 38)),(4,2,(.t 40))]),o 42 (.call 320 [(.t 34),(.t 41)]),o 43 (.nck (.t 30)),o 44 (.fad 2 (.t 43)),on (.st 1 (.t 44) (.t 42))]) (.seq (.reg [o 46 (.bin .eql (.t 16) (.k (.int .i64 3))),o 45 (.mov (.t 46))]) (.cnd (.t 45) (.reg [o 47 (.mov (.t 0)),o 48 (.fad 5 (.t 3)),o 49 (.ld false 1 (.t 48)),o 50 (.fad 6 (.t 3)),o 51 (.ld false 1 (.t 50)),o 52 (.fad 3 (.t 3)),o 53 (.ld false 1 (.t 52)),o 54 (.call 321 [(.t 47),(.k (.bool false)),(.t 49),(.t 51),(.t 53)])]) (.seq (.reg [o 56 (.bin .eql (.t 16) (.k (.int .i64 4))),o 55 (.mov (.t 56))]) (.cnd (.t 55) (.seq (.reg [o 57 (.mov (.t 0)),o 58 (.fad 5 (.t 3)),o 59 (.ld false 1 (.t 58)),o 60 (.fad 6 (.t 3)),o 61 (.ld false 1 (.t 60)),o 62 (.fad 3 (.t 3)),o 63 (.ld false 1 (.t 62)),o 64 (.call 321 [(.t 57),(.k (.bool true)),(.t 59),(.t 61),(.t 63)])]) (.drw [o 65 (.mov (.t 0)),o 66 (.mov (.t 0)),o 67 (.nck (.t 66)),o 68 (.fad 2 (.t 67)),o 69 (.ld false 1 (.t 68)),o 70 (.fad 5 (.t 3)),o 71 (.ld false 1 (.t 70)),o 72 (.fad 6 (.t 3)),o 73 (.ld false 1 (.t 72)),o 74 (.fad 7 (.t 3)),o 75 (.ld false 1 (.t 74)),o 76 (.fad 0 (.t 3)),o 77 (.ld true 2 (.t 76))] [o 78 (.build [(.bool false),(.str ⟨#[]⟩),(.str ⟨#[]⟩),(.int .i64 0),(.int .i64 0),(.int .i64 0)] [(0,1,(.k (.bool true))),(1,1,(.t 71)),(2,1,(.t 73)),(3,1,(.t 75)),(4,2,(.t 77))]),o 79 (.call 320 [(.t 69),(.t 78)]),o 80 (.nck (.t 65)),o 81 (.fad 2 (.t 80)),on (.st 1 (.t 81) (.t 79))])) (.seq (.reg [o 83 (.bin .eql (.t 16) (.k (.int .i64 5))),o 82 (.mov (.t 83))]) (.cnd (.t 82) (.reg [o 84 (.mov (.t 0)),o 85 (.fad 5 (.t 3)),o 86 (.ld false 1 (.t 85)),o 87 (.fad 6 (.t 3)),o 88 (.ld false 1 (.t 87)),o 89 (.fad 3 (.t 3)),o 90 (.ld false 1 (.t 89)),o 91 (.call 321 [(.t 84),(.k (.bool true)),(.t 86),(.t 88),(.t 90)])]) (.seq (.reg [o 93 (.bin .eql (.t 16) (.k (.int .i64 6))),o 92 (.mov (.t 93))]) (.cnd (.t 92) (.drw [o 94 (.mov (.t 0)),o 95 (.mov (.t 0)),o 96 (.nck (.t 95)),o 97 (.fad 3 (.t 96)),o 98 (.ld false 1 (.t 97)),o 99 (.fad 5 (.t 3)),o 100 (.ld false 1 (.t 99)),o 101 (.fad 0 (.t 3)),o 102 (.ld true 2 (.t 101)),o 103 (.fad 2 (.t 3)),o 104 (.ld false 1 (.t 103)),o 105 (.fad 8 (.t 3)),o 106 (.ld true 2 (.t 105)),o 107 (.fad 7 (.t 3)),o 108 (.ld false 1 (.t 107))] [o 109 (.build [(.str ⟨#[]⟩),(.int .i64 0),(.int .i64 0),(.int .i64 0),(.int .i64 0),(.int .i64 0),(.int .i64 0),(.bool false)] [(0,1,(.t 100)),(1,2,(.t 102)),(3,1,(.t 104)),(4,2,(.t 106)),(6,1,(.t 108))]),o 110 (.call 322 [(.t 98),(.t 109)]),o 111 (.nck (.t 94)),o 112 (.fad 3 (.t 111)),on (.st 1 (.t 112) (.t 110))]) (.seq (.reg [o 114 (.bin .eql (.t 16) (.k (.int .i64 7))),o 113 (.mov (.t 114))]) (.cnd (.t 113) (.drw [o 115 (.mov (.t 0)),o 116 (.nck (.t 115)),o 117 (.fad 3 (.t 116)),o 118 (.ld false 1 (.t 117)),o 119 (.mov (.t 0)),o 120 (.nck (.t 119)),o 121 (.ld true 4 (.t 120)),o 122 (.fad 8 (.t 3)),o 123 (.ld true 2 (.t 122)),o 124 (.call 146 [(.t 121),(.t 123)])] [o 125 (.iad 8 (.t 118) (.t 124)),o 126 (.fad 7 (.t 125)),on (.st 1 (.t 126) (.k (.bool true)))]) .skip))))))))))))))))))⟩
theorem A7f:A5 Tryz.prog Tg=some A1o:=by kernel_rfl
abbrev Th:Nat:=140
def A1p:Fn1:=⟨57,[.c 4 true 4,.t 5],(.seq (.reg [o 2 (.box (.t 0)),o 3 (.box (.t 1)),o 4 (.new [.nilS,.nilS,.nilS,.nilS]),o 5 (.mov (.k (.int .i64 0)))]) (.seq (.reg [o 7 (.ld true 4 (.t 2)),o 8 (.call 247 [(.t 7)]),o 6 (.new [.nilS,.nilS,.nilS,.nilS]),on (.st 4 (.t 6) (.t 8))]) (.seq (.seq (.reg [o 9 (.ld true 4 (.t 2)),o 10 (.call 199 [(.t 9)]),o 11 (.un .not (.t 10)),o 12 (.mov (.t 11)),og 13 12 false (.ld true 10 (.t 3)),og 14 12 false (.call 185 [(.t 13)]),og 15 12 false (.un .not (.t 14)),o 16 (.pick (.t 12) (.k (.bool true)) (.t 15))]) (.cnd (.t 16) (.seq (.reg [o 17 (.ld true 4 (.t 6)),on (.st 4 (.t 4) (.t 17)),o 5 (.mov (.k (.int .i64 3)))]) .ret) .skip)) (.seq (.seq (.reg [o 18 (.fad 0 (.t 2)),o 19 (.ld false 1 (.t 18)),o 20 (.fad 0 (.t 3)),o 21 (.ld true 2 (.t 20)),o 22 (.call 45 [(.t 19),(.t 21)])]) (.cnd (.t 22) (.seq (.reg [o 23 (.ld true 4 (.t 6)),on (.st 4 (.t 4) (.t 23)),o 5 (.mov (.k (.int .i64 1)))]) .ret) .skip)) (.seq (.seq (.reg [o 24 (.fad 3 (.t 3)),o 25 (.ld false 1 (.t 24)),o 26 (.fad 0 (.t 2)),o 27 (.ld false 1 (.t 26)),o 28 (.call 178 [(.t 25),(.t 27)]),o 29 (.un .not (.t 28))]) (.cnd (.t 29) (.seq (.reg [o 30 (.ld true 4 (.t 6)),on (.st 4 (.t 4) (.t 30)),o 5 (.mov (.k (.int .i64 2)))]) .ret) .skip)) (.seq (.seq (.reg [o 31 (.ld true 4 (.t 2)),o 32 (.ld true 10 (.t 3)),o 33 (.call 248 [(.t 31),(.t 32)]),o 34 (.un .not (.t 33))]) (.cnd (.t 34) (.seq (.reg [o 35 (.ld true 4 (.t 6)),on (.st 4 (.t 4) (.t 35)),o 5 (.mov (.k (.int .i64 3)))]) .ret) .skip)) (.seq (.reg [o 36 (.ld true 10 (.t 3)),o 37 (.call 249 [(.t 6),(.t 36)])]) (.seq (.seq (.reg [o 38 (.fad 1 (.t 6)),o 39 (.ld false 1 (.t 38)),o 40 (.len false (.t 39)),o 41 (.bin .gtr (.t 40) (.k (.int .i64 120))),o 42 (.mov (.t 41)),og 43 42 false (.fad 2 (.t 6)),og 44 42 false (.ld false 1 (.t 43)),og 45 42 false (.len false (.t 44)),og 46 42 false (.bin .gtr (.t 45) (.k (.int .i64 120))),o 47 (.pick (.t 42) (.k (.bool true)) (.t 46)),o 48 (.mov (.t 47)),og 49 48 false (.fad 3 (.t 6)),og 50 48 false (.ld false 1 (.t 49)),og 51 48 false (.len false (.t 50)),og 52 48 false (.bin .gtr (.t 51) (.k (.int .i64 120))),o 53 (.pick (.t 48) (.k (.bool true)) (.t 52))]) (.cnd (.t 53) (.seq (.reg [o 54 (.ld true 4 (.t 2)),o 55 (.call 247 [(.t 54)]),on (.st 4 (.t 4) (.t 55)),o 5 (.mov (.k (.int .i64 4)))]) .ret) .skip)) (.seq (.reg [o 56 (.ld true 4 (.t 6)),on (.st 4 (.t 4) (.t 56)),o 5 (.mov (.k (.int .i64 0)))]) .ret)))))))))⟩
theorem A7g:A5 Tryz.prog Th=some A1p:=by kernel_rfl
theorem A1q {a:Act} (h:Ct a=true):(0≤a.dot.rep∧a.dot.rep≤2)∧(1≤a.kind∧a.kind≤7)∧(0≤a.val∧a.val≤999999)∧a.knew.length=3:=by
 simp only[Ct,Dm,Ba,Bool.and_eq_true] at h
 obtain⟨⟨h1,h2,_⟩,⟨h3,_,_,h4⟩,_⟩:=h
 refine⟨(Kf.1 h1).1,Db.1 h3,?_,Gv h2⟩
 simp only[Lp,Bool.or_eq_true,beq_iff_eq,Bool.and_eq_true,Db] at h4
 rcases h4 with h4|⟨_,h4⟩
 ·omega
 ·exact h4
theorem A1r {s:State} (h:B7 s=true):s.know.length=3∧∀ t∈s.tallies,-1000000≤t.sum∧t.sum≤1000000:=by
 simp only[B7,Bool.and_eq_true] at h
 obtain⟨h1,h2,_⟩:=h
 refine⟨Gv h1,fun t ht=> ?_⟩
 simp only[Gy,Bool.and_eq_true,Ci,talP] at h2
 obtain⟨i,hi,rfl⟩:=List.getElem_of_mem ht
 have:=(h2.1 i hi).1
 rw[Bs hi] at this
 simp only[tal1,Bool.and_eq_true,Db] at this
 omega
theorem SPtr.drop {σ0 τ:St} {g:Nat} {s:State} {x:Thg} {rest:List Thg} (H:SPtr σ0 τ g s (x::rest)):SPtr σ0 τ g s rest:=by
 obtain⟨v0,v1,v2,v3,H⟩:=H
 exact⟨v0,v1,v2,v3,(H.pick 5 rfl).drop1⟩
theorem SPtr.push {σ0 τ:St} {g:Nat} {s:State} {rest:List Thg} (H:SPtr σ0 τ g s rest) (z:Nat) (cs:List GV):SPtr σ0 (τ++[some (.row z cs)]) g s (pt z τ.length cs::rest):=by
 obtain⟨v0,v1,v2,v3,H⟩:=H
 refine⟨v0,v1,v2,v3,?_⟩
 exact(H.new z cs).perm (List.perm_middle (l₁:=[_,_,_,_,_])).symm
abbrev actV (a:Act) (kv:GV):List GV:=[.int .i64 a.dot.rep,.int .i64 a.dot.seq,.int .i64 a.time,kv,.int .i64 a.kind,.str a.obj,.str a.key,.int .i64 a.val,.int .i64 a.ref.rep,.int .i64 a.ref.seq]
theorem A4q {s:State} {i:Nat} {x:Int}:Ac {s with know:=s.know.set i x}=Ac s:=by simp[Ac]
set_option maxHeartbeats 4000000 in
theorem A4r {σ0 σ:St} {g:Nat} {s:State} {rest:List Thg} (H:SPtr σ0 σ g s rest) (a:Act) (kv:GV) (hk:RS pI.kd σ0 kv a.knew) (hok:B7 s=true) (hao:Ct a=true) (hri:Fl s a=true) (hl:Ac s≤1099511627776):∃ τ,Ret Tryz.prog Tg [.ptr g 0,.agg (actV a kv)] σ (.tup []) τ∧SPtr σ0 τ g (Hh s a) rest:=by
 obtain⟨⟨f1,f2⟩,⟨f3,f4⟩,⟨f5,f6⟩,f7⟩:=A1q hao
 obtain⟨t1,t2⟩:=A1r hok
 obtain⟨r,hr⟩:∃ r:Nat,a.dot.rep=(r:Int):=⟨a.dot.rep.toNat,by omega⟩
 have hrl:r<s.know.length:=by omega
 have key:∃ q τ,Ret Tryz.prog Tg [.ptr g 0,.agg (actV a kv)] σ q τ∧q= .tup []∧SPtr σ0 τ g (Hh s a) rest:=by
  refine Cv A7f (Z0z rfl) ?_
  have H:=H.push 1 (actV a kv)
  obtain⟨v0,v1,v2,v3,H⟩:=H
  have i0:=RdN.iad (H.sl 0 rfl) hrl
  have i0:iadG 1 v0 (some r)=some (atz 1 v0 r):=i0
  have n0:Ax (some (.int .i64 a.dot.rep))=some r:=by rw[hr];exact A2
  obtain⟨τ1,st0,H1⟩:=H.stw 0 rfl (j:=r) hrl 1 (gi a.dot.seq) a.dot.seq rfl rfl (by decide)
  have st0:stG 1 _ (atz 1 v0 r) (.int .i64 a.dot.seq)=some (.tup [],τ1):=st0
  have H1:Hp σ0 τ1 (ow pI.kd v0 (s.know.set r a.dot.seq)::ow Ar.kd v1 s.tallies::ow Ay.kd v2 s.lives::ow Ai.kd v3 s.cells::pt 1 g [v0,v1,v2,v3]::pt 1 σ.length (actV a kv)::rest):=H1
  obtain⟨s1,hs1⟩:∃ s1:State,s1={s with know:=s.know.set r a.dot.seq}:=⟨_,rfl⟩
  have hm1:Ac s1≤1099511627776:=by rw[hs1,A4q];exact hl
  have hdo:Hh s a=C9 s1 a:=by
   unfold Hh
   rw[hs1,hr];simp
  have S1:SPtr σ0 τ1 g s1 (pt 1 σ.length (actV a kv)::rest):=by rw[hs1];exact⟨v0,v1,v2,v3,H1⟩
  obtain⟨l1,l2,l3,l4,_⟩:=Am hl
  rw[hdo]
  have e1:s1.tallies=s.tallies:=by rw[hs1]
  have e2:s1.lives=s.lives:=by rw[hs1]
  have e3:s1.cells=s.cells:=by rw[hs1]
  simp +contextual (disch:=omega) only[go_sem,A1o,A0 (H.pt 4 rfl),n0,i0,st0,A0 (H1.pt 5 rfl)]
  by_cases k1:a.kind=1
  ·have b1:(a.kind==1)=true:=by simp[k1]
   have hd:C9 s1 a={s1 with tallies:=Ej s1.tallies a.obj a.dot.rep a.val}:=by unfold C9;rw[if_pos k1]
   rw[hd]
   obtain⟨τ2,R2,S2⟩:=Vf S1 a.obj a.dot.rep a.val hm1 (by omega) (by rw[e1];exact t2)
   simp +contextual (disch:=omega) only[go_sem,b1,A0 (H1.pt 5 rfl)]
   refine Aj R2 ?_
   simp +contextual (disch:=omega) only[go_sem]
   exact⟨_,rfl,rfl,S2.drop⟩
  have b1:(a.kind==1)=false:=by simp[k1]
  by_cases k2:a.kind=2
  ·have b2:(a.kind==2)=true:=by simp[k2]
   have hd:C9 s1 a={s1 with lives:=G1 ⟨false,a.obj,a.key,0,a.dot⟩ s1.lives}:=by unfold C9;rw[if_neg k1,if_pos k2]
   rw[hd,e2]
   obtain⟨w,τ2,R2,K2⟩:=Ng τ1 v2 s.lives (H1.sl 2 rfl) ⟨false,a.obj,a.key,0,a.dot⟩ l3
   have H2:=H1.add K2
   simp only[List.cons_append,List.nil_append] at H2
   have c1:=(H2.sl 0 rfl).cell
   obtain⟨τ3,st3,H3,_⟩:=H2.st 5 rfl 1 2 w (by rw[c1];rfl) (by decide) (by simp)
   simp +contextual (disch:=omega) only[go_sem,b1,b2,A0 (H1.pt 4 rfl),A0 (H1.pt 5 rfl)]
   refine Da R2 K2 ?_
   simp +contextual (disch:=omega) only[go_sem,st3]
   refine⟨_,rfl,rfl,v0,v1,w,v3,?_⟩
   simp only[c1,List.set_cons_zero,List.set_cons_succ,Bx,Bw,Cf] at H3
   rw[hs1]
   exact((Hp.moveTo H3 2 rfl).pick 5 rfl).drop1
  have b2:(a.kind==2)=false:=by simp[k2]
  by_cases k3:a.kind=3
  ·have b3:(a.kind==3)=true:=by simp[k3]
   have hd:C9 s1 a={s1 with lives:=s1.lives.filter (Jt false a.obj a.key a.knew)}:=by unfold C9;rw[if_neg k1,if_neg k2,if_pos k3]
   rw[hd]
   obtain⟨τ2,R2,S2⟩:=I5 S1 false a.obj a.key kv a.knew hk hm1 (by omega)
   simp +contextual (disch:=omega) only[go_sem,b1,b2,b3,A0 (H1.pt 5 rfl)]
   refine Aj R2 ?_
   simp +contextual (disch:=omega) only[go_sem]
   exact⟨_,rfl,rfl,S2.drop⟩
  have b3:(a.kind==3)=false:=by simp[k3]
  by_cases k4:a.kind=4
  ·have b4:(a.kind==4)=true:=by simp[k4]
   have hd:C9 s1 a={s1 with lives:=G1 ⟨true,a.obj,a.key,a.val,a.dot⟩ (s1.lives.filter (Jt true a.obj a.key a.knew))}:=by unfold C9;rw[if_neg k1,if_neg k2,if_neg k3,if_pos k4]
   rw[hd,e2]
   obtain⟨τ2,R2,u0,u1,u2,u3,H2⟩:=I5 S1 true a.obj a.key kv a.knew hk hm1 (by omega)
   have hfl:=List.length_filter_le (Jt true a.obj a.key a.knew) s.lives
   have H2l:=H2.sl 2 rfl
   have H2l:RS Ay.kd τ2 u2 (s.lives.filter (Jt true a.obj a.key a.knew)):=by rw[← e2];exact H2l
   obtain⟨w,τ3,R3,K3⟩:=Ng τ2 u2 _ H2l ⟨true,a.obj,a.key,a.val,a.dot⟩ (by omega)
   have H3:=H2.add K3
   simp only[List.cons_append,List.nil_append] at H3
   have c1:=(H3.sl 0 rfl).cell
   obtain⟨τ4,st4,H4,_⟩:=H3.st 5 rfl 1 2 w (by rw[c1];rfl) (by decide) (by simp)
   simp +contextual (disch:=omega) only[go_sem,b1,b2,b3,b4,A0 (H1.pt 5 rfl)]
   refine Aj R2 ?_
   simp +contextual (disch:=omega) only[go_sem,A0 (H2.pt 4 rfl),A0 (H2.pt 5 rfl)]
   refine Da R3 K3 ?_
   simp +contextual (disch:=omega) only[go_sem,st4]
   refine⟨_,rfl,rfl,u0,u1,w,u3,?_⟩
   simp only[c1,List.set_cons_zero,List.set_cons_succ,Bx,Bw,Cf] at H4
   exact((Hp.moveTo H4 2 rfl).pick 5 rfl).drop1
  have b4:(a.kind==4)=false:=by simp[k4]
  by_cases k5:a.kind=5
  ·have b5:(a.kind==5)=true:=by simp[k5]
   have hd:C9 s1 a={s1 with lives:=s1.lives.filter (Jt true a.obj a.key a.knew)}:=by unfold C9;rw[if_neg k1,if_neg k2,if_neg k3,if_neg k4,if_pos k5]
   rw[hd]
   obtain⟨τ2,R2,S2⟩:=I5 S1 true a.obj a.key kv a.knew hk hm1 (by omega)
   simp +contextual (disch:=omega) only[go_sem,b1,b2,b3,b4,b5,A0 (H1.pt 5 rfl)]
   refine Aj R2 ?_
   simp +contextual (disch:=omega) only[go_sem]
   exact⟨_,rfl,rfl,S2.drop⟩
  have b5:(a.kind==5)=false:=by simp[k5]
  by_cases k6:a.kind=6
  ·have b6:(a.kind==6)=true:=by simp[k6]
   have hd:C9 s1 a={s1 with cells:=J6 ⟨a.obj,a.dot,a.time,a.ref,a.val,false⟩ s1.cells}:=by unfold C9;rw[if_neg k1,if_neg k2,if_neg k3,if_neg k4,if_neg k5,if_pos k6]
   rw[hd,e3]
   obtain⟨w,τ2,R2,K2⟩:=Z4 τ1 v3 s.cells (H1.sl 3 rfl) ⟨a.obj,a.dot,a.time,a.ref,a.val,false⟩ l4
   have H2:=H1.add K2
   simp only[List.cons_append,List.nil_append] at H2
   have c1:=(H2.sl 0 rfl).cell
   obtain⟨τ3,st3,H3,_⟩:=H2.st 5 rfl 1 3 w (by rw[c1];rfl) (by decide) (by simp)
   simp +contextual (disch:=omega) only[go_sem,b1,b2,b3,b4,b5,b6,A0 (H1.pt 4 rfl),A0 (H1.pt 5 rfl)]
   refine Da R2 K2 ?_
   simp +contextual (disch:=omega) only[go_sem,st3]
   refine⟨_,rfl,rfl,v0,v1,v2,w,?_⟩
   simp only[c1,List.set_cons_zero,List.set_cons_succ,Bx,Bw,Cf] at H3
   rw[hs1]
   exact((Hp.moveTo H3 3 rfl).pick 5 rfl).drop1
  have b6:(a.kind==6)=false:=by simp[k6]
  have k7:a.kind=7:=by omega
  have b7:(a.kind==7)=true:=by simp[k7]
  have hd:C9 s1 a={s1 with cells:=Gb s1.cells a.ref}:=by unfold C9;rw[if_neg k1,if_neg k2,if_neg k3,if_neg k4,if_neg k5,if_neg k6]
  rw[hd,e3]
  cases hx:Cj s.cells a.ref with
  |none=>simp[Fl,k7,hx] at hri
  |some k=>
   obtain⟨hkl,hke⟩:=Bi hx
   have hno:Bt s1.cells a.ref=k:=by simp[Bt,e3,hx]
   have CA:=Ko τ1 [v0,v1,v2,v3] s1 ⟨v0,v1,v2,v3,rfl,by rw[hs1];exact H1.sl 0 rfl,by rw[e1];exact H1.sl 1 rfl,by rw[e2];exact H1.sl 2 rfl,by rw[e3];exact H1.sl 3 rfl⟩ a.ref hm1
   rw[hno] at CA
   have C2:=A4 (H1.sl 3 rfl) hkl
   obtain⟨τ2,st2,H2⟩:=H1.ste 3 rfl hkl 1 7 (.bool true) {s.cells[k] with gone:=true} rfl (by decide) (by decide) rfl
   have st2:stG 1 τ1 (fld 7 (atz 8 v3 k)) (.bool true)=some (.tup [],τ2):=st2
   simp +contextual (disch:=omega) only[go_sem,b1,b2,b3,b4,b5,b6,b7,A0 (H1.pt 4 rfl),A0 (H1.pt 5 rfl),A6 (cs:=[v0,v1,v2,v3]) rfl]
   refine A7 CA ?_
   simp +contextual (disch:=omega) only[go_sem,A2,C2,st2]
   refine⟨_,rfl,rfl,v0,v1,v2,v3,?_⟩
   have hE:Gb s.cells a.ref=s.cells.set k {s.cells[k] with gone:=true}:=by
    unfold Gb
    rw[hx]
    exact Ll _ hkl
   rw[hE,hs1]
   exact(H2.pick 5 rfl).drop1
 obtain⟨q,τ,R,rfl,h⟩:=key
 exact⟨τ,R,h⟩
theorem A67 {σ τ:St} {rs:List Thg} {x:State} {cs:List GV} {g:Nat} (H:Hp σ τ (pt 1 g cs::own A8 cs x::rs)):SPtr σ τ g x rs:=by
 obtain⟨v0,v1,v2,v3,rfl,H⟩:=(H.pick 1 rfl).splitState
 exact⟨v0,v1,v2,v3,H⟩
theorem SPtr.own {σ τ:St} {rs:List Thg} {x:State} {g:Nat} (H:SPtr σ τ g x rs):∃ v0 v1 v2 v3,rdB τ g=some [v0,v1,v2,v3]∧lenG false v1=some (x.tallies.length:Int)∧lenG false v2=some (x.lives.length:Int)∧lenG false v3=some (x.cells.length:Int)∧Hp σ τ (own A8 [v0,v1,v2,v3] x::rs):=by
 obtain⟨v0,v1,v2,v3,H⟩:=H
 refine⟨v0,v1,v2,v3,H.pt 4 rfl,(H.sl 1 rfl).len,(H.sl 2 rfl).len,(H.sl 3 rfl).len,?_⟩
 exact Hp.ownState ((H.pick 4 rfl).drop1)
set_option maxHeartbeats 4000000 in
theorem A4s (σ:St) (cs:List GV) (s:State) (hR:A8.R σ s cs) (as':List GV) (a:Act) (hS:kAct.R σ a as') (hl:Ac s≤1099511627776) (hm:E9 a≤1099511627776):∃ ds τ,Ret Tryz.prog Th [.agg cs,.agg as'] σ (.tup [.agg ds,gi (Be s a).2]) τ∧Hp σ τ [own A8 ds (Be s a).1]:=by
 have hR0:=hR
 have hS0:=hS
 have hS1:∀ {τ:St},σ <+: τ→kAct.R τ a as':=fun h=>kAct.pre hS0 h
 obtain⟨a1,b1,c1,v1,rfl,hkn,_,_,_⟩:=hR
 obtain⟨kv,rfl,hkv⟩:=hS
 obtain⟨l1,l2,l3,l4,_⟩:=Am hl
 have hkl:a.knew.length≤1099511627776:=by unfold E9 at hm;omega
 have key:∃ q τ,Ret Tryz.prog Th [.agg [a1,b1,c1,v1],.agg (actV a kv)] σ q τ∧∃ ds,q= .tup [.agg ds,gi (Be s a).2]∧Hp σ τ [own A8 ds (Be s a).1]:=by
  refine Cv A7g (Z0z rfl) ?_
  have H:=(((Hp.refl σ).new 1 [a1,b1,c1,v1]).new 1 (actV a kv)).new 1 [GV.nilS,GV.nilS,GV.nilS,GV.nilS]
  have z0:=H.pt 2 rfl
  simp +contextual (disch:=omega) only[go_sem,A1p,A0 z0,A6 (cs:=[a1,b1,c1,v1]) rfl]
  obtain⟨es,τ1,R1,K1⟩:=Gl _ _ s (A8.pre hR0 H.sub) hl
  refine Da R1 K1 ?_
  have H:=H.add K1
  simp only[List.cons_append,List.nil_append] at H
  have gl:es.length=4:=A8.len (K1.rd 0 rfl)
  have H:=H.new 1 es
  generalize hn6:τ1.length=n6 at*
  generalize hn4:(σ++[some (Blk.row 1 [a1,b1,c1,v1])]++[some (Blk.row 1 (actV a kv))]).length=n4 at*
  generalize hn2:(σ++[some (Blk.row 1 [a1,b1,c1,v1])]).length=n2 at*
  generalize hn1:σ.length=n1 at*
  simp +contextual (disch:=omega) only[go_sem,Bg (cs:=[GV.nilS,GV.nilS,GV.nilS,GV.nilS]) gl rfl,gl,A0 (H.pt 4 rfl),A6 (cs:=[a1,b1,c1,v1]) rfl]
  obtain⟨τr,sr,Hr,_⟩:=H.st 2 rfl 4 0 (.agg es) gl (by decide) (by simp)
  have zr:rdB τr n4=some (Al [GV.nilS,GV.nilS,GV.nilS,GV.nilS] 0 es):=Hr.pt 2 rfl
  rw[Bg gl rfl] at zr
  refine A9 (Yt _ _ s (A8.pre hR0 H.sub) hl) (fun hok=> ?_) (fun hok=> ?_)
  rotate_left
  ·have hd:Be s a=(s,3):=by simp[Be,hok]
   simp +contextual (disch:=omega) only[go_sem,A0 (H.pt 0 rfl),A6 gl,sr,A0 zr]
   exact⟨_,rfl,es,by rw[hd],by rw[hd];exact(Hr.pick 1 rfl).one⟩
  simp +contextual (disch:=omega) only[go_sem,A0 (H.pt 3 rfl),A6 (cs:=actV a kv) rfl]
  refine A9 (A4a _ _ a (hS1 H.sub) hm) (fun hao=> ?_) (fun hao=> ?_)
  rotate_left
  ·have hd:Be s a=(s,3):=by simp[Be,hok,hao]
   simp +contextual (disch:=omega) only[go_sem,A0 (H.pt 0 rfl),A6 gl,sr,A0 zr]
   exact⟨_,rfl,es,by rw[hd],by rw[hd];exact(Hr.pick 1 rfl).one⟩
  simp +contextual (disch:=omega) only[go_sem,A0 (H.pt 3 rfl),A0 (H.pt 4 rfl)]
  refine A9 (Fi _ a1 s.know a.dot (hkn.pre H.sub) l1) (fun hkn1=> ?_) (fun hkn1=> ?_)
  ·have hd:Be s a=(s,1):=by simp[Be,hok,hao,hkn1]
   simp +contextual (disch:=omega) only[go_sem,A0 (H.pt 0 rfl),A6 gl,sr,A0 zr]
   exact⟨_,rfl,es,by rw[hd],by rw[hd];exact(Hr.pick 1 rfl).one⟩
  simp +contextual (disch:=omega) only[go_sem,A0 (H.pt 3 rfl),A0 (H.pt 4 rfl)]
  refine A9 (A13 _ kv a1 a.knew s.know (hkv.pre H.sub) (hkn.pre H.sub) hkl l1) (fun hkn2=> ?_) (fun hkn2=> ?_)
  rotate_left
  ·have hd:Be s a=(s,2):=by simp[Be,hok,hao,hkn1,hkn2]
   simp +contextual (disch:=omega) only[go_sem,A0 (H.pt 0 rfl),A6 gl,sr,A0 zr]
   exact⟨_,rfl,es,by rw[hd],by rw[hd];exact(Hr.pick 1 rfl).one⟩
  simp +contextual (disch:=omega) only[go_sem,A0 (H.pt 3 rfl),A0 (H.pt 4 rfl),A6 (cs:=actV a kv) rfl,A6 (cs:=[a1,b1,c1,v1]) rfl]
  refine A9 (A1n _ _ s (A8.pre hR0 H.sub) _ a (hS1 H.sub) hl) (fun hri=> ?_) (fun hri=> ?_)
  rotate_left
  ·have hd:Be s a=(s,3):=by simp[Be,hok,hao,hkn1,hkn2,hri]
   simp +contextual (disch:=omega) only[go_sem,A0 (H.pt 0 rfl),A6 gl,sr,A0 zr]
   exact⟨_,rfl,es,by rw[hd],by rw[hd];exact(Hr.pick 1 rfl).one⟩
  obtain⟨τ2,R2,S2⟩:=A4r (A67 H) a kv hkv hok hao hri hl
  simp +contextual (disch:=omega) only[go_sem,A0 (H.pt 3 rfl),A6 (cs:=actV a kv) rfl]
  rw[hn6]
  refine Aj R2 ?_
  obtain⟨w0,w1,w2,w3,z6,q1,q2,q3,H3⟩:=S2.own
  cases h1:decide (120<(Hh s a).tallies.length) with
  |true=>
   have ht:Eb (Hh s a)=true:=by simp[Eb,h1]
   have hd:Be s a=(s,4):=by simp[Be,hok,hao,hkn1,hkn2,hri,ht]
   simp +contextual (disch:=omega) only[go_sem,A0 z6,q1,q2,q3,Md,h1,A0 (H3.pt 3 rfl),A6 (cs:=[a1,b1,c1,v1]) rfl]
   obtain⟨fs,τ4,R4,K4⟩:=Gl _ _ s (A8.pre hR0 H3.sub) hl
   refine Da R4 K4 ?_
   have H4:=H3.add K4
   simp only[List.cons_append,List.nil_append] at H4
   have gl4:fs.length=4:=A8.len (K4.rd 0 rfl)
   obtain⟨τ5,s5,H5,_⟩:=H4.st 2 rfl 4 0 (.agg fs) gl4 (by decide) (by simp)
   have z5:rdB τ5 n4=some (Al [GV.nilS,GV.nilS,GV.nilS,GV.nilS] 0 fs):=H5.pt 2 rfl
   rw[Bg gl4 rfl] at z5
   simp +contextual (disch:=omega) only[go_sem,s5,A0 z5,A6 gl4]
   exact⟨_,rfl,fs,by rw[hd],by rw[hd];exact H5.one⟩
  |false=>
   cases h2:decide (120<(Hh s a).lives.length) with
   |true=>
    have ht:Eb (Hh s a)=true:=by simp[Eb,h1,h2]
    have hd:Be s a=(s,4):=by simp[Be,hok,hao,hkn1,hkn2,hri,ht]
    simp +contextual (disch:=omega) only[go_sem,A0 z6,q1,q2,q3,Md,h1,h2,A0 (H3.pt 3 rfl),A6 (cs:=[a1,b1,c1,v1]) rfl]
    obtain⟨fs,τ4,R4,K4⟩:=Gl _ _ s (A8.pre hR0 H3.sub) hl
    refine Da R4 K4 ?_
    have H4:=H3.add K4
    simp only[List.cons_append,List.nil_append] at H4
    have gl4:fs.length=4:=A8.len (K4.rd 0 rfl)
    obtain⟨τ5,s5,H5,_⟩:=H4.st 2 rfl 4 0 (.agg fs) gl4 (by decide) (by simp)
    have z5:rdB τ5 n4=some (Al [GV.nilS,GV.nilS,GV.nilS,GV.nilS] 0 fs):=H5.pt 2 rfl
    rw[Bg gl4 rfl] at z5
    simp +contextual (disch:=omega) only[go_sem,s5,A0 z5,A6 gl4]
    exact⟨_,rfl,fs,by rw[hd],by rw[hd];exact H5.one⟩
   |false=>
    cases h3:decide (120<(Hh s a).cells.length) with
    |true=>
     have ht:Eb (Hh s a)=true:=by simp[Eb,h1,h2,h3]
     have hd:Be s a=(s,4):=by simp[Be,hok,hao,hkn1,hkn2,hri,ht]
     simp +contextual (disch:=omega) only[go_sem,A0 z6,q1,q2,q3,Md,h1,h2,h3,A0 (H3.pt 3 rfl),A6 (cs:=[a1,b1,c1,v1]) rfl]
     obtain⟨fs,τ4,R4,K4⟩:=Gl _ _ s (A8.pre hR0 H3.sub) hl
     refine Da R4 K4 ?_
     have H4:=H3.add K4
     simp only[List.cons_append,List.nil_append] at H4
     have gl4:fs.length=4:=A8.len (K4.rd 0 rfl)
     obtain⟨τ5,s5,H5,_⟩:=H4.st 2 rfl 4 0 (.agg fs) gl4 (by decide) (by simp)
     have z5:rdB τ5 n4=some (Al [GV.nilS,GV.nilS,GV.nilS,GV.nilS] 0 fs):=H5.pt 2 rfl
     rw[Bg gl4 rfl] at z5
     simp +contextual (disch:=omega) only[go_sem,s5,A0 z5,A6 gl4]
     exact⟨_,rfl,fs,by rw[hd],by rw[hd];exact H5.one⟩
    |false=>
     have ht:Eb (Hh s a)=false:=by simp only[Eb,h1,h2,h3];rfl
     have hd:Be s a=(Hh s a,0):=by simp[Be,hok,hao,hkn1,hkn2,hri,ht]
     obtain⟨τ5,s5,H5,_⟩:=H3.st 1 rfl 4 0 (.agg [w0,w1,w2,w3]) rfl (by decide) (by simp)
     have z5:rdB τ5 n4=some [w0,w1,w2,w3]:=H5.pt 1 rfl
     simp +contextual (disch:=omega) only[go_sem,A0 z6,q1,q2,q3,Md,h1,h2,h3,A6 (cs:=[w0,w1,w2,w3]) rfl,s5,A0 z5]
     exact⟨_,rfl,_,by rw[hd],by rw[hd];exact H5.one⟩
 obtain⟨q,τ,R,ds,rfl,h⟩:=key
 exact⟨ds,τ,R,h⟩
end
section
open Go Go.RowKit
abbrev Ti:Nat:=152
def A1s:Fn1:=⟨176,[.c 4 true 4,.t 5],(.seq (.reg [o 2 (.box (.t 0)),o 3 (.box (.t 1)),o 4 (.new [.nilS,.nilS,.nilS,.nilS]),o 5 (.mov (.k (.int .i64 0)))]) (.seq (.reg [o 10 (.ld true 4 (.t 2)),o 11 (.call 255 [(.t 10)]),o 6 (.new [.nilS,.nilS,.nilS,.nilS]),on (.st 4 (.t 6) (.t 11))]) (.seq (.blk 0 (.seq (.reg [o 13 (.ld true 4 (.t 2)),o 14 (.call 195 [(.t 13)]),o 15 (.un .not (.t 14)),o 16 (.mov (.t 15)),og 17 16 false (.ld true 10 (.t 3)),og 18 16 false (.call 169 [(.t 17)]),og 19 16 false (.un .not (.t 18)),o 20 (.pick (.t 16) (.k (.bool true)) (.t 19)),o 12 (.mov (.t 20))]) (.cnd (.t 12) (.seq (.reg [o 21 (.ld true 4 (.t 6)),on (.st 4 (.t 4) (.t 21)),o 5 (.mov (.k (.int .i64 3)))]) .ret) (.seq (.reg [o 23 (.fad 0 (.t 2)),o 24 (.ld false 1 (.t 23)),o 25 (.fad 0 (.t 3)),o 26 (.ld true 2 (.t 25)),o 27 (.call 170 [(.t 24),(.t 26)]),o 22 (.mov (.t 27))]) (.cnd (.t 22) (.seq (.reg [o 28 (.ld true 4 (.t 6)),on (.st 4 (.t 4) (.t 28)),o 5 (.mov (.k (.int .i64 1)))]) .ret) (.seq (.reg [o 30 (.fad 3 (.t 3)),o 31 (.ld false 1 (.t 30)),o 32 (.fad 0 (.t 2)),o 33 (.ld false 1 (.t 32)),o 34 (.call 177 [(.t 31),(.t 33)]),o 35 (.un .not (.t 34)),o 29 (.mov (.t 35))]) (.cnd (.t 29) (.seq (.reg [o 36 (.ld true 4 (.t 6)),on (.st 4 (.t 4) (.t 36)),o 5 (.mov (.k (.int .i64 2)))]) .ret) .skip))))))) (.seq (.reg [o 37 (.ld true 4 (.t 2)),o 38 (.fad 8 (.t 3)),o 39 (.ld true 2 (.t 38)),o 40 (.call 158 [(.t 37),(.t 39)]),o 7 (.mov (.t 40))]) (.seq (.seq (.drw [o 41 (.fad 8 (.t 3)),o 42 (.ld true 2 (.t 41)),o 43 (.build [(.int .i64 0),(.int .i64 0)] []),o 44 (.eqs true [.i .i64,.i .i64] (.t 42) (.t 43)),o 45 (.mov (.t 44)),og 46 45 true (.mov (.t 7)),og 47 45 true (.bin .lss (.t 46) (.k (.int .i64 0))),og 48 45 true (.mov (.t 47)),og 49 48 false (.fad 3 (.t 2)),og 50 48 false (.ld false 1 (.t 49)),og 51 48 false (.mov (.t 7)),og 52 48 false (.iad 8 (.t 50) (.t 51)),og 53 48 false (.fad 0 (.t 52)),og 54 48 false (.ld false 1 (.t 53)),og 55 48 false (.fad 5 (.t 3)),og 56 48 false (.ld false 1 (.t 55)),og 57 48 false (.bin .neq (.t 54) (.t 56)),og 58 45 true (.pick (.t 48) (.k (.bool true)) (.t 57)),og 59 45 true (.mov (.t 58)),og 60 59 false (.fad 4 (.t 3)),og 61 59 false (.ld false 1 (.t 60)),og 62 59 false (.bin .eql (.t 61) (.k (.int .i64 6))),og 63 59 false (.mov (.t 62)),og 64 63 true (.fad 2 (.t 3)),og 65 63 true (.ld false 1 (.t 64)),og 66 63 true (.fad 3 (.t 2)),og 67 63 true (.ld false 1 (.t 66)),og 68 63 true (.mov (.t 7)),og 69 63 true (.iad 8 (.t 67) (.t 68)),og 70 63 true (.fad 3 (.t 69)),og 71 63 true (.ld false 1 (.t 70))] [og 72 63 true (.bin .leq (.t 65) (.t 71)),og 73 59 false (.pick (.t 63) (.t 72) (.k (.bool false))),og 74 45 true (.pick (.t 59) (.k (.bool true)) (.t 73)),o 75 (.pick (.t 45) (.t 74) (.k (.bool false)))]) (.cnd (.t 75) (.seq (.reg [o 76 (.ld true 4 (.t 6)),on (.st 4 (.t 4) (.t 76)),o 5 (.mov (.k (.int .i64 3)))]) .ret) .skip)) (.seq (.reg [o 77 (.ld true 4 (.t 2)),o 78 (.call 255 [(.t 77)]),o 8 (.new [.nilS,.nilS,.nilS,.nilS]),on (.st 4 (.t 8) (.t 78))]) (.seq (.reg [o 79 (.fad 0 (.t 8)),o 80 (.ld false 1 (.t 79)),o 81 (.fad 0 (.t 3)),o 82 (.fad 0 (.t 81)),o 83 (.ld false 1 (.t 82)),o 84 (.fad 0 (.t 3)),o 85 (.fad 1 (.t 84)),o 86 (.ld false 1 (.t 85)),o 87 (.iad 1 (.t 80) (.t 83)),on (.st 1 (.t 87) (.t 86))]) (.seq (.seq (.reg [o 88 (.fad 4 (.t 3)),o 89 (.ld false 1 (.t 88))]) (.blk 1 (.seq (.reg [o 91 (.bin .eql (.t 89) (.k (.int .i64 1))),o 90 (.mov (.t 91))]) (.cnd (.t 90) (.reg [o 92 (.fad 1 (.t 2)),o 93 (.ld false 1 (.t 92)),o 94 (.fad 5 (.t 3)),o 95 (.ld false 1 (.t 94)),o 96 (.fad 0 (.t 3)),o 97 (.fad 0 (.t 96)),o 98 (.ld false 1 (.t 97)),o 99 (.fad 7 (.t 3)),o 100 (.ld false 1 (.t 99)),o 101 (.call 256 [(.t 93),(.t 95),(.t 98),(.t 100)]),o 102 (.fad 1 (.t 8)),on (.st 1 (.t 102) (.t 101))]) (.seq (.reg [o 104 (.bin .eql (.t 89) (.k (.int .i64 2))),o 103 (.mov (.t 104))]) (.cnd (.t 103) (.reg [o 105 (.fad 2 (.t 2)),o 106 (.ld false 1 (.t 105)),o 107 (.fad 5 (.t 3)),o 108 (.ld false 1 (.t 107)),o 109 (.fad 6 (.t 3)),o 110 (.ld false 1 (.t 109)),o 111 (.fad 0 (.t 3)),o 112 (.ld true 2 (.t 111)),o 113 (.build [(.bool false),(.str ⟨#[]⟩),(.str ⟨#[]⟩),(.int .i64 0),(.int .i64 0),(.int .i64 0)] [(1,1,(.t 108)),(2,1,(.t 110)),(4,2,(.t 112))]),o 114 (.call 257 [(.t 106),(.t 113)]),o 115 (.fad 2 (.t 8)),on (.st 1 (.t 115) (.t 114))]) (.seq (.reg [o 117 (.bin .eql (.t 89) (.k (.int .i64 3))),o 116 (.mov (.t 117))]) (.cnd (.t 116) (.reg [o 118 (.fad 2 (.t 2)),o 119 (.ld false 1 (.t 118)),o 120 (.ld true 10 (.t 3)),o 121 (.call 258 [(.t 119),(.k (.bool false)),(.t 120)]),o 122 (.fad 2 (.t 8)),on (.st 1 (.t 122) (.t 121))]) (.seq (.reg [o 124 (.bin .eql (.t 89) (.k (.int .i64 4))),o 123 (.mov (.t 124))]) (.cnd (.t 123) (.seq (.reg [o 125 (.fad 2 (.t 2)),o 126 (.ld false 1 (.t 125)),o 127 (.ld true 10 (.t 3)),o 128 (.call 258 [(.t 126),(.k (.bool true)),(.t 127)]),o 9 (.mov (.t 128))]) (.reg [o 129 (.mov (.t 9)),o 130 (.fad 5 (.t 3)),o 131 (.ld false 1 (.t 130)),o 132 (.fad 6 (.t 3)),o 133 (.ld false 1 (.t 132)),o 134 (.fad 7 (.t 3)),o 135 (.ld false 1 (.t 134)),o 136 (.fad 0 (.t 3)),o 137 (.ld true 2 (.t 136)),o 138 (.build [(.bool false),(.str ⟨#[]⟩),(.str ⟨#[]⟩),(.int .i64 0),(.int .i64 0),(.int .i64 0)] [(0,1,(.k (.bool true))),(1,1,(.t 131)),(2,1,(.t 133)),(3,1,(.t 135)),(4,2,(.t 137))]),o 139 (.call 257 [(.t 129),(.t 138)]),o 140 (.fad 2 (.t 8)),on (.st 1 (.t 140) (.t 139))])) (.seq (.reg [o 142 (.bin .eql (.t 89) (.k (.int .i64 5))),o 141 (.mov (.t 142))]) (.cnd (.t 141) (.reg [o 143 (.fad 2 (.t 2)),o 144 (.ld false 1 (.t 143)),o 145 (.ld true 10 (.t 3)),o 146 (.call 258 [(.t 144),(.k (.bool true)),(.t 145)]),o 147 (.fad 2 (.t 8)),on (.st 1 (.t 147) (.t 146))]) (.seq (.reg [o 149 (.bin .eql (.t 89) (.k (.int .i64 6))),o 148 (.mov (.t 149))]) (.cnd (.t 148) (.reg [o 150 (.fad 3 (.t 2)),o 151 (.ld false 1 (.t 150)),o 152 (.fad 5 (.t 3)),o 153 (.ld false 1 (.t 152)),o 154 (.fad 0 (.t 3)),o 155 (.ld true 2 (.t 154)),o 156 (.fad 2 (.t 3)),o 157 (.ld false 1 (.t 156)),o 158 (.fad 8 (.t 3)),o 159 (.ld true 2 (.t 158)),o 160 (.fad 7 (.t 3)),o 161 (.ld false 1 (.t 160)),o 162 (.build [(.str ⟨#[]⟩),(.int .i64 0),(.int .i64 0),(.int .i64 0),(.int .i64 0),(.int .i64 0),(.int .i64 0),(.bool false)] [(0,1,(.t 153)),(1,2,(.t 155)),(3,1,(.t 157)),(4,2,(.t 159)),(6,1,(.t 161))]),o 163 (.call 259 [(.t 151),(.t 162)]),o 164 (.fad 3 (.t 8)),on (.st 1 (.t 164) (.t 163))]) (.seq (.reg [o 166 (.bin .eql (.t 89) (.k (.int .i64 7))),o 165 (.mov (.t 166))]) (.cnd (.t 165) (.reg [o 167 (.fad 3 (.t 8)),o 168 (.ld false 1 (.t 167)),o 169 (.mov (.t 7)),o 170 (.iad 8 (.t 168) (.t 169)),o 171 (.fad 7 (.t 170)),on (.st 1 (.t 171) (.k (.bool true)))]) .skip)))))))))))))))) (.seq (.seq (.reg [o 172 (.ld true 4 (.t 8)),o 173 (.call 260 [(.t 172)])]) (.cnd (.t 173) (.seq (.reg [o 174 (.ld true 4 (.t 6)),on (.st 4 (.t 4) (.t 174)),o 5 (.mov (.k (.int .i64 4)))]) .ret) .skip)) (.seq (.reg [o 175 (.ld true 4 (.t 8)),on (.st 4 (.t 4) (.t 175)),o 5 (.mov (.k (.int .i64 0)))]) .ret))))))))))⟩
theorem A7h:A5 Tryz.prog Ti=some A1s:=by kernel_rfl
theorem A4t {s:State} (h:B7 s=true):s.tallies.Pairwise (fun a b=>Ak a b=true)∧(∀ x∈s.lives,B9 s.know x.dot=true)∧∀ x∈s.cells,B9 s.know x.dot=true:=by
 simp only[B7,Bool.and_eq_true] at h
 obtain⟨_,h2,h3,h4,_⟩:=h
 refine⟨?_,fun x hx=> ?_,fun x hx=> ?_⟩
 ·simp only[Gy,Bool.and_eq_true,Ci,talP] at h2
  exact Qz (lt:=Ak) (fun a b c h1 h2=>Kr.trans _ _ _ h1 h2) fun i hi=>(h2.1 i hi).2
 ·simp only[Kh,Bool.and_eq_true,Ci,livP] at h3
  obtain⟨i,hi,rfl⟩:=List.getElem_of_mem hx
  have:=(h3.1 i hi).1
  rw[Bs hi] at this
  exact this
 ·simp only[Jj,Bool.and_eq_true,Ci,celP] at h4
  obtain⟨i,hi,rfl⟩:=List.getElem_of_mem hx
  have:=(h4.1 i hi).1
  rw[Bs hi] at this
  exact this
theorem Tj {l:List Live} {k:List Int} {x:Live} (h:∀ y∈l,B9 k y.dot=true) (hx:B9 k x.dot=false):insW (fun y:Live=>Au y.dot x.dot) x l=G1 x l:=
 T4 fun y hy=>A1f fun e=>by have:=h y hy;rw[← e,hx] at this;cases this
theorem A4u {l:List Cell} {k:List Int} {x:Cell} (h:∀ y∈l,B9 k y.dot=true) (hx:B9 k x.dot=false):insW (fun y:Cell=>Au y.dot x.dot) x l=J6 x l:=
 T4 fun y hy=>A1f fun e=>by have:=h y hy;rw[← e,hx] at this;cases this
theorem Aaz {s:State} {a:Act} (hao:Ct a=true) (hr:a.ref=d0):Fl s a=true:=by
 have hk:¬ a.kind=7:=fun h7=>by
  simp only[Ct,Bool.and_eq_true] at hao
  have h2:=hao.2.2
  unfold M9 at h2
  rw[if_pos (by simp[h7])] at h2
  have:=Ki h2
  rw[hr] at this
  exact absurd this (by decide)
 unfold Fl
 rw[if_neg (by rintro(h|h);exact hk h;exact h.2 hr)]
theorem Ab0 {a:Act} (hao:Ct a=true) (hr:a.ref≠d0):a.kind=7∨a.kind=6:=by
 simp only[Ct,Bool.and_eq_true] at hao
 have h2:=hao.2.2
 unfold M9 at h2
 by_cases h7:a.kind=7
 ·exact .inl h7
 ·rw[if_neg (by simpa using h7)] at h2
  by_cases h6:a.kind=6
  ·exact .inr h6
  ·rw[if_neg (by simpa using h6)] at h2
   exact absurd (by simpa using h2) hr
def zSt (σ:St) (cs:List GV):Prop:=∃ a b c v,cs=[a,b,c,v]∧zOk σ 3 b=true∧zOk σ 6 c=true∧zOk σ 8 v=true
set_option maxHeartbeats 4000000 in
theorem A4v (σ:St) (cs:List GV) (s:State) (hR:A8.R σ s cs) (hz:zSt σ cs) (as':List GV) (a:Act) (hS:kAct.R σ a as') (hl:Ac s≤1099511627776) (hm:E9 a≤1099511627776):∃ ds τ,Ret Tryz.prog Ti [.agg cs,.agg as'] σ (.tup [.agg ds,gi (Be s a).2]) τ∧Hp σ τ [own A8 ds (Be s a).1]:=by
 have hR0:=hR
 have hS0:=hS
 have hS1:∀ {τ:St},σ <+: τ→kAct.R τ a as':=fun h=>kAct.pre hS0 h
 obtain⟨a1,b1,c1,v1,rfl,hkn,hb,hc,hv⟩:=hR
 obtain⟨_,_,_,_,hq,hz3,hz6,hz8⟩:=hz
 injection hq with q1 q2;injection q2 with q2 q3;injection q3 with q3 q4;injection q4 with q4 _
 subst q1 q2 q3 q4
 obtain⟨kv,rfl,hkv⟩:=hS
 obtain⟨l1,l2,l3,l4,_⟩:=Am hl
 have hkl:a.knew.length≤1099511627776:=by unfold E9 at hm;omega
 have key:∃ q τ,Ret Tryz.prog Ti [.agg [a1,b1,c1,v1],.agg (actV a kv)] σ q τ∧∃ ds,q= .tup [.agg ds,gi (Be s a).2]∧Hp σ τ [own A8 ds (Be s a).1]:=by
  refine Cv A7h (Z0z rfl) ?_
  have H:=(((Hp.refl σ).new 1 [a1,b1,c1,v1]).new 1 (actV a kv)).new 1 [GV.nilS,GV.nilS,GV.nilS,GV.nilS]
  simp only[A1s]
  obtain⟨n4,hn4⟩:∃ n,n=(σ++[some (Blk.row 1 [a1,b1,c1,v1])]++[some (Blk.row 1 (actV a kv))]).length:=⟨_,rfl⟩
  obtain⟨n2,hn2⟩:∃ n,n=(σ++[some (Blk.row 1 [a1,b1,c1,v1])]).length:=⟨_,rfl⟩
  obtain⟨n1,hn1⟩:∃ n,n=σ.length:=⟨_,rfl⟩
  rw[← hn4,←hn2,←hn1] at H
  refine C7 (fun env τ=>env 2= .ptr n1 0∧env 3= .ptr n2 0∧env 4= .ptr n4 0∧Hp σ τ [pt 1 n4 [GV.nilS,GV.nilS,GV.nilS,GV.nilS],pt 1 n2 (actV a kv),pt 1 n1 [a1,b1,c1,v1]]) (fun Y hY=>by
   simp +contextual (disch:=omega) only[go_sem]
   refine hY _ _ ⟨?_,?_,?_,H⟩
   all_goals simp +contextual (disch:=omega) only[go_sem,hn1,hn2,hn4]) ?_
  clear H
  rintro env τ ⟨e2,e3,e4,H⟩
  refine C7 (fun env τ=>∃ n6 es,es.length=4∧env 2= .ptr n1 0∧env 3= .ptr n2 0∧env 4= .ptr n4 0∧env 6= .ptr n6 0∧Hp σ τ [pt 1 n6 es,own A8 es s,pt 1 n4 [GV.nilS,GV.nilS,GV.nilS,GV.nilS],pt 1 n2 (actV a kv),pt 1 n1 [a1,b1,c1,v1]]) (fun Y hY=>by
   simp +contextual (disch:=omega) only[go_sem,e2,e3,e4,A0 (H.pt 2 rfl),A6 (cs:=[a1,b1,c1,v1]) rfl]
   obtain⟨es,τ1,R1,K1⟩:=Kv _ _ s (A8.pre hR0 H.sub) hl
   refine Da R1 K1 ?_
   have H:=H.add K1
   simp only[List.cons_append,List.nil_append] at H
   have gl:es.length=4:=A8.len (K1.rd 0 rfl)
   have H:=H.new 1 es
   simp +contextual (disch:=omega) only[go_sem,Bg (cs:=[GV.nilS,GV.nilS,GV.nilS,GV.nilS]) gl rfl,gl,e2,e3,e4]
   refine hY _ _ ⟨τ1.length,es,gl,?_,?_,?_,?_,H⟩
   all_goals simp +contextual (disch:=omega) only[go_sem,e2,e3,e4]) ?_
  clear H e2 e3 e4
  rintro env τ ⟨n6,es,gl,e2,e3,e4,e6,H⟩
  refine C7 (fun env τ'=>env 2= .ptr n1 0∧env 3= .ptr n2 0∧env 4= .ptr n4 0∧env 6= .ptr n6 0∧τ=τ'∧B7 s=true∧Ct a=true∧B9 s.know a.dot=false∧Ie a.knew s.know=true) (fun Y hY=>by
   obtain⟨τr,sr,Hr,_⟩:=H.st 2 rfl 4 0 (.agg es) gl (by decide) (by simp)
   have zr:rdB τr n4=some (Al [GV.nilS,GV.nilS,GV.nilS,GV.nilS] 0 es):=Hr.pt 2 rfl
   rw[Bg gl rfl] at zr
   simp +contextual (disch:=omega) only[go_sem,e2,e3,e4,e6,A0 (H.pt 4 rfl),A6 (cs:=[a1,b1,c1,v1]) rfl]
   refine A9 (N2 _ _ s (A8.pre hR0 H.sub) hl) (fun hok=> ?_) (fun hok=> ?_)
   rotate_left
   ·have hd:Be s a=(s,3):=by simp[Be,hok]
    simp +contextual (disch:=omega) only[go_sem,e2,e3,e4,e6,A0 (H.pt 0 rfl),A6 gl,sr,A0 zr]
    exact⟨_,rfl,es,by rw[hd],by rw[hd];exact(Hr.pick 1 rfl).one⟩
   simp +contextual (disch:=omega) only[go_sem,e2,e3,e4,e6,A0 (H.pt 3 rfl),A6 (cs:=actV a kv) rfl]
   refine A9 (A4b _ _ a (hS1 H.sub) hm) (fun hao=> ?_) (fun hao=> ?_)
   rotate_left
   ·have hd:Be s a=(s,3):=by simp[Be,hok,hao]
    simp +contextual (disch:=omega) only[go_sem,e2,e3,e4,e6,A0 (H.pt 0 rfl),A6 gl,sr,A0 zr]
    exact⟨_,rfl,es,by rw[hd],by rw[hd];exact(Hr.pick 1 rfl).one⟩
   simp +contextual (disch:=omega) only[go_sem,e2,e3,e4,e6,A0 (H.pt 3 rfl),A0 (H.pt 4 rfl)]
   refine A9 (Fj _ a1 s.know a.dot (hkn.pre H.sub) l1) (fun hkn1=> ?_) (fun hkn1=> ?_)
   ·have hd:Be s a=(s,1):=by simp[Be,hok,hao,hkn1]
    simp +contextual (disch:=omega) only[go_sem,e2,e3,e4,e6,A0 (H.pt 0 rfl),A6 gl,sr,A0 zr]
    exact⟨_,rfl,es,by rw[hd],by rw[hd];exact(Hr.pick 1 rfl).one⟩
   simp +contextual (disch:=omega) only[go_sem,e2,e3,e4,e6,A0 (H.pt 3 rfl),A0 (H.pt 4 rfl)]
   refine A9 (A14 _ kv a1 a.knew s.know (hkv.pre H.sub) (hkn.pre H.sub) hkl l1) (fun hkn2=> ?_) (fun hkn2=> ?_)
   rotate_left
   ·have hd:Be s a=(s,2):=by simp[Be,hok,hao,hkn1,hkn2]
    simp +contextual (disch:=omega) only[go_sem,e2,e3,e4,e6,A0 (H.pt 0 rfl),A6 gl,sr,A0 zr]
    exact⟨_,rfl,es,by rw[hd],by rw[hd];exact(Hr.pick 1 rfl).one⟩
   simp +contextual (disch:=omega) only[go_sem,e2,e3,e4,e6]
   refine hY _ _ ⟨?_,?_,?_,?_,rfl,hok,hao,hkn1,hkn2⟩
   all_goals simp +contextual (disch:=omega) only[go_sem,e2,e3,e4,e6]) ?_
  clear e2 e3 e4 e6
  rintro env τ' ⟨e2,e3,e4,e6,rfl,hok,hao,hkn1,hkn2⟩
  obtain⟨⟨f1,f2⟩,⟨f3,f4⟩,⟨f5,f6⟩,f7⟩:=A1q hao
  obtain⟨t1,t2⟩:=A1r hok
  obtain⟨kf1,kf2,kf3⟩:=A4t hok
  have CA:=Hu τ _ s (A8.pre hR0 H.sub) a.ref hl
  refine C7 (fun env τ'=>env 2= .ptr n1 0∧env 3= .ptr n2 0∧env 4= .ptr n4 0∧env 6= .ptr n6 0∧env 7=gi (Bt s.cells a.ref)∧τ=τ') (fun Y hY=>by
   simp +contextual (disch:=omega) only[go_sem,e2,e3,e4,e6,A0 (H.pt 4 rfl),A0 (H.pt 3 rfl),A6 (cs:=[a1,b1,c1,v1]) rfl]
   refine A7 CA ?_
   simp +contextual (disch:=omega) only[go_sem,e2,e3,e4,e6]
   refine hY _ _ ⟨?_,?_,?_,?_,?_,rfl⟩
   all_goals simp +contextual (disch:=omega) only[go_sem,e2,e3,e4,e6]) ?_
  clear e2 e3 e4 e6
  rintro env τ' ⟨e2,e3,e4,e6,e7,rfl⟩
  refine C7 (fun env τ'=>env 2= .ptr n1 0∧env 3= .ptr n2 0∧env 4= .ptr n4 0∧env 6= .ptr n6 0∧env 7=gi (Bt s.cells a.ref)∧τ=τ'∧Fl s a=true) (fun Y hY=>by
   obtain⟨τr,sr,Hr,_⟩:=H.st 2 rfl 4 0 (.agg es) gl (by decide) (by simp)
   have zr:rdB τr n4=some (Al [GV.nilS,GV.nilS,GV.nilS,GV.nilS] 0 es):=Hr.pt 2 rfl
   rw[Bg gl rfl] at zr
   by_cases hr0:a.ref=d0
   ·have cr:decide (a.ref=⟨0,0⟩)=true:=decide_eq_true hr0
    have hri:=Aaz (s:=s) hao hr0
    simp +contextual (disch:=omega) only[go_sem,e2,e3,e4,e6,e7,A0 (H.pt 3 rfl),A0 (H.pt 4 rfl),cr,Bool.true_xor,Bool.true_bne,Bool.not_true,Bool.not_false]
    refine hY _ _ ⟨?_,?_,?_,?_,?_,rfl,hri⟩
    all_goals simp +contextual (disch:=omega) only[go_sem,e2,e3,e4,e6,e7]
   ·have cr:decide (a.ref=⟨0,0⟩)=false:=decide_eq_false hr0
    have h67:=Ab0 hao hr0
    have hin:a.kind=7∨(a.kind=6∧a.ref≠d0):=h67.imp id fun h=>⟨h,hr0⟩
    cases hx:Cj s.cells a.ref with
    |none=>
     have hno:Bt s.cells a.ref= -1:=by simp[Bt,hx]
     rw[hno] at e7
     have cm:decide ((-1:Int)<0)=true:=rfl
     have hrf:Fl s a=false:=by simp[Fl,hin,hx]
     have hd:Be s a=(s,3):=by simp[Be,hok,hao,hkn1,hkn2,hrf]
     simp +contextual (disch:=omega) only[go_sem,e2,e3,e4,e6,e7,A0 (H.pt 3 rfl),A0 (H.pt 4 rfl),cr,cm,Bool.true_xor,Bool.true_bne,Bool.not_true,Bool.not_false,A0 (H.pt 0 rfl),A6 gl,sr,A0 zr]
     exact⟨_,rfl,es,by rw[hd],by rw[hd];exact(Hr.pick 1 rfl).one⟩
    |some k=>
     obtain⟨hk,hk2⟩:=Bi hx
     have hno:Bt s.cells a.ref=k:=by simp[Bt,hx]
     have hE:Fl s a=(decide (s.cells[k].obj=a.obj)&&(decide (a.kind=7)||decide (s.cells[k].time<a.time))):=by simp[Fl,hin,hx,Bs hk]
     rw[hno] at e7
     have cm:decide ((k:Int)<0)=false:=by simp
     have C2:=A4 (hv.pre H.sub) hk
     cases ho:decide (s.cells[k].obj=a.obj) with
     |false=>
      have hrf:Fl s a=false:=by rw[hE,ho];rfl
      have hd:Be s a=(s,3):=by simp[Be,hok,hao,hkn1,hkn2,hrf]
      simp +contextual (disch:=omega) only[go_sem,e2,e3,e4,e6,e7,A0 (H.pt 3 rfl),A0 (H.pt 4 rfl),cr,cm,A2,C2,ho,Bool.true_xor,Bool.true_bne,Bool.not_true,Bool.not_false,A0 (H.pt 0 rfl),A6 gl,sr,A0 zr]
      exact⟨_,rfl,es,by rw[hd],by rw[hd];exact(Hr.pick 1 rfl).one⟩
     |true=>
      by_cases h6:a.kind=6
      ·have b6:(a.kind==6)=true:=by simp[h6]
       have h7:¬ a.kind=7:=by omega
       rw[ho,decide_eq_false h7] at hE
       cases ht:decide (a.time≤s.cells[k].time) with
       |true=>
        have ht2:decide (s.cells[k].time<a.time)=false:=by
         have:=of_decide_eq_true ht
         exact decide_eq_false (by omega)
        have hrf:Fl s a=false:=by rw[hE,ht2];rfl
        have hd:Be s a=(s,3):=by simp[Be,hok,hao,hkn1,hkn2,hrf]
        simp +contextual (disch:=omega) only[go_sem,e2,e3,e4,e6,e7,A0 (H.pt 3 rfl),A0 (H.pt 4 rfl),cr,cm,A2,C2,ho,b6,ht,Bool.true_xor,Bool.true_bne,Bool.not_true,Bool.not_false,A0 (H.pt 0 rfl),A6 gl,sr,A0 zr]
        exact⟨_,rfl,es,by rw[hd],by rw[hd];exact(Hr.pick 1 rfl).one⟩
       |false=>
        have ht2:decide (s.cells[k].time<a.time)=true:=by
         have:=of_decide_eq_false ht
         exact decide_eq_true (by omega)
        have hri:Fl s a=true:=by rw[hE,ht2];rfl
        simp +contextual (disch:=omega) only[go_sem,e2,e3,e4,e6,e7,A0 (H.pt 3 rfl),A0 (H.pt 4 rfl),cr,cm,A2,C2,ho,b6,ht,Bool.true_xor,Bool.true_bne,Bool.not_true,Bool.not_false]
        refine hY _ _ ⟨?_,?_,?_,?_,?_,rfl,hri⟩
        all_goals simp +contextual (disch:=omega) only[go_sem,e2,e3,e4,e6,e7,hno]
      ·have b6:(a.kind==6)=false:=by simp[h6]
       have h7:a.kind=7:=by omega
       have hri:Fl s a=true:=by rw[hE,ho,decide_eq_true h7];rfl
       simp +contextual (disch:=omega) only[go_sem,e2,e3,e4,e6,e7,A0 (H.pt 3 rfl),A0 (H.pt 4 rfl),cr,cm,A2,C2,ho,b6,Bool.true_xor,Bool.true_bne,Bool.not_true,Bool.not_false]
       refine hY _ _ ⟨?_,?_,?_,?_,?_,rfl,hri⟩
       all_goals simp +contextual (disch:=omega) only[go_sem,e2,e3,e4,e6,e7,hno]) ?_
  clear e2 e3 e4 e6 e7
  rintro env τ' ⟨e2,e3,e4,e6,e7,rfl,hri⟩
  refine C7 (fun env τ=>∃ n8 fs,fs.length=4∧env 2= .ptr n1 0∧env 3= .ptr n2 0∧env 4= .ptr n4 0∧env 6= .ptr n6 0∧env 7=gi (Bt s.cells a.ref)∧env 8= .ptr n8 0∧Hp σ τ [pt 1 n8 fs,own A8 fs s,pt 1 n6 es,own A8 es s,pt 1 n4 [GV.nilS,GV.nilS,GV.nilS,GV.nilS],pt 1 n2 (actV a kv),pt 1 n1 [a1,b1,c1,v1]]) (fun Y hY=>by
   simp +contextual (disch:=omega) only[go_sem,e2,e3,e4,e6,e7,A0 (H.pt 4 rfl),A6 (cs:=[a1,b1,c1,v1]) rfl]
   obtain⟨fs,τ1,R1,K1⟩:=Kv _ _ s (A8.pre hR0 H.sub) hl
   refine Da R1 K1 ?_
   have H:=H.add K1
   simp only[List.cons_append,List.nil_append] at H
   have gf:fs.length=4:=A8.len (K1.rd 0 rfl)
   have H:=H.new 1 fs
   simp +contextual (disch:=omega) only[go_sem,Bg (cs:=[GV.nilS,GV.nilS,GV.nilS,GV.nilS]) gf rfl,gf,e2,e3,e4,e6,e7]
   refine hY _ _ ⟨τ1.length,fs,gf,?_,?_,?_,?_,?_,?_,H⟩
   all_goals simp +contextual (disch:=omega) only[go_sem,e2,e3,e4,e6,e7]) ?_
  clear H e2 e3 e4 e6 e7 CA
  rintro env τ ⟨n8,fs,gf,e2,e3,e4,e6,e7,e8,H⟩
  obtain⟨r,hr⟩:∃ r:Nat,a.dot.rep=(r:Int):=⟨a.dot.rep.toNat,by omega⟩
  have hrl:r<s.know.length:=by omega
  have hdo:Hh s a=C9 {s with know:=s.know.set r a.dot.seq} a:=by
   unfold Hh
   rw[hr];simp
  refine C7 (fun env τ=>env 2= .ptr n1 0∧env 3= .ptr n2 0∧env 4= .ptr n4 0∧env 6= .ptr n6 0∧env 7=gi (Bt s.cells a.ref)∧env 8= .ptr n8 0∧SPtr σ τ n8 {s with know:=s.know.set r a.dot.seq} [pt 1 n6 es,own A8 es s,pt 1 n4 [GV.nilS,GV.nilS,GV.nilS,GV.nilS],pt 1 n2 (actV a kv),pt 1 n1 [a1,b1,c1,v1]]) (fun Y hY=>by
   obtain⟨u0,u1,u2,u3,H⟩:=A67 H
   have i0:iadG 1 u0 (some r)=some (atz 1 u0 r):=RdN.iad (H.sl 0 rfl) hrl
   have n0:Ax (some (.int .i64 a.dot.rep))=some r:=by rw[hr];exact A2
   obtain⟨τ1,st0,H1⟩:=H.stw 0 rfl (j:=r) hrl 1 (gi a.dot.seq) a.dot.seq rfl rfl (by decide)
   have st0:stG 1 _ (atz 1 u0 r) (.int .i64 a.dot.seq)=some (.tup [],τ1):=st0
   simp +contextual (disch:=omega) only[go_sem,e2,e3,e4,e6,e7,e8,A0 (H.pt 4 rfl),A0 (H.pt 8 rfl),n0,i0,st0]
   refine hY _ _ ⟨?_,?_,?_,?_,?_,?_,u0,u1,u2,u3,H1⟩
   all_goals simp +contextual (disch:=omega) only[go_sem,e2,e3,e4,e6,e7,e8]) ?_
  clear H e2 e3 e4 e6 e7 e8
  rintro env τ ⟨e2,e3,e4,e6,e7,e8,S1⟩
  refine C7 (fun env τ=>env 2= .ptr n1 0∧env 3= .ptr n2 0∧env 4= .ptr n4 0∧env 6= .ptr n6 0∧env 8= .ptr n8 0∧SPtr σ τ n8 (Hh s a) [pt 1 n6 es,own A8 es s,pt 1 n4 [GV.nilS,GV.nilS,GV.nilS,GV.nilS],pt 1 n2 (actV a kv),pt 1 n1 [a1,b1,c1,v1]]) (fun Y hY=>by
   obtain⟨u0,u1,u2,u3,H⟩:=S1
   have e89:=A0 (a:=false) (n:=1) (off:=4) (H.pt 8 rfl)
   by_cases k1:a.kind=1
   ·have kb1:(a.kind==1)=true:=by simp[k1]
    have hd:C9 {s with know:=s.know.set r a.dot.seq} a={s with know:=s.know.set r a.dot.seq,tallies:=Ej s.tallies a.obj a.dot.rep a.val}:=by unfold C9;rw[if_pos k1]
    obtain⟨w,τ2,R2,K2⟩:=Tb τ b1 s.tallies (hb.pre H.sub) (Ed hz3 H.sub) a.obj a.dot.rep a.val l2 (by omega) t2
    rw[A1e ⟨f5,f6⟩ kf1] at K2
    have H2:=H.add K2
    simp only[List.cons_append,List.nil_append] at H2
    have cc:=(H2.sl 0 rfl).cell
    obtain⟨τ3,st3,H3,_⟩:=H2.st 5 rfl 1 1 w (by rw[cc];rfl) (by decide) (by simp)
    simp +contextual (disch:=omega) only[go_sem,e2,e3,e4,e6,e7,e8,e89,A0 (H.pt 9 rfl),A0 (H.pt 8 rfl),kb1]
    refine Da R2 K2 ?_
    simp +contextual (disch:=omega) only[go_sem,e2,e3,e4,e6,e7,e8,st3]
    refine hY _ _ ⟨?_,?_,?_,?_,?_,u0,w,u2,u3,?_⟩
    all_goals first|(simp +contextual (disch:=omega) only[go_sem,e2,e3,e4,e6,e7,e8];done)|skip
    simp only[cc,List.set_cons_zero,List.set_cons_succ,Bx,Bw,Cf] at H3
    rw[hdo,hd]
    exact Hp.moveTo H3 1 rfl
   have kb1:(a.kind==1)=false:=by simp[k1]
   by_cases k2:a.kind=2
   ·have kb2:(a.kind==2)=true:=by simp[k2]
    have hd:C9 {s with know:=s.know.set r a.dot.seq} a={s with know:=s.know.set r a.dot.seq,lives:=G1 ⟨false,a.obj,a.key,0,a.dot⟩ s.lives}:=by unfold C9;rw[if_neg k1,if_pos k2]
    obtain⟨w,τ2,R2,K2⟩:=Lu τ c1 s.lives (hc.pre H.sub) (Ed hz6 H.sub) ⟨false,a.obj,a.key,0,a.dot⟩ l3
    rw[Tj kf2 hkn1] at K2
    have H2:=H.add K2
    simp only[List.cons_append,List.nil_append] at H2
    have cc:=(H2.sl 0 rfl).cell
    obtain⟨τ3,st3,H3,_⟩:=H2.st 5 rfl 1 2 w (by rw[cc];rfl) (by decide) (by simp)
    simp +contextual (disch:=omega) only[go_sem,e2,e3,e4,e6,e7,e8,e89,A0 (H.pt 9 rfl),A0 (H.pt 8 rfl),kb1,kb2]
    refine Da R2 K2 ?_
    simp +contextual (disch:=omega) only[go_sem,e2,e3,e4,e6,e7,e8,st3]
    refine hY _ _ ⟨?_,?_,?_,?_,?_,u0,u1,w,u3,?_⟩
    all_goals first|(simp +contextual (disch:=omega) only[go_sem,e2,e3,e4,e6,e7,e8];done)|skip
    simp only[cc,List.set_cons_zero,List.set_cons_succ,Bx,Bw,Cf] at H3
    rw[hdo,hd]
    exact Hp.moveTo H3 2 rfl
   have kb2:(a.kind==2)=false:=by simp[k2]
   by_cases k3:a.kind=3
   ·have kb3:(a.kind==3)=true:=by simp[k3]
    have hd:C9 {s with know:=s.know.set r a.dot.seq} a={s with know:=s.know.set r a.dot.seq,lives:=s.lives.filter (Jt false a.obj a.key a.knew)}:=by unfold C9;rw[if_neg k1,if_neg k2,if_pos k3]
    obtain⟨w,τ2,R2,K2⟩:=F3 τ c1 s.lives (hc.pre H.sub) false _ a (hS1 H.sub) l3 hm
    have H2:=H.add K2
    simp only[List.cons_append,List.nil_append] at H2
    have cc:=(H2.sl 0 rfl).cell
    obtain⟨τ3,st3,H3,_⟩:=H2.st 5 rfl 1 2 w (by rw[cc];rfl) (by decide) (by simp)
    simp +contextual (disch:=omega) only[go_sem,e2,e3,e4,e6,e7,e8,e89,A0 (H.pt 9 rfl),A0 (H.pt 8 rfl),A6 (cs:=actV a kv) rfl,kb1,kb2,kb3]
    refine Da R2 K2 ?_
    simp +contextual (disch:=omega) only[go_sem,e2,e3,e4,e6,e7,e8,st3]
    refine hY _ _ ⟨?_,?_,?_,?_,?_,u0,u1,w,u3,?_⟩
    all_goals first|(simp +contextual (disch:=omega) only[go_sem,e2,e3,e4,e6,e7,e8];done)|skip
    simp only[cc,List.set_cons_zero,List.set_cons_succ,Bx,Bw,Cf] at H3
    rw[hdo,hd]
    exact Hp.moveTo H3 2 rfl
   have kb3:(a.kind==3)=false:=by simp[k3]
   by_cases k4:a.kind=4
   ·have kb4:(a.kind==4)=true:=by simp[k4]
    have hd:C9 {s with know:=s.know.set r a.dot.seq} a={s with know:=s.know.set r a.dot.seq,lives:=G1 ⟨true,a.obj,a.key,a.val,a.dot⟩ (s.lives.filter (Jt true a.obj a.key a.knew))}:=by unfold C9;rw[if_neg k1,if_neg k2,if_neg k3,if_pos k4]
    obtain⟨y,τ2,R2,K2⟩:=F3 τ c1 s.lives (hc.pre H.sub) true _ a (hS1 H.sub) l3 hm
    have H2':=H.add K2
    simp only[List.cons_append,List.nil_append] at H2'
    have hfl:=List.length_filter_le (Jt true a.obj a.key a.knew) s.lives
    obtain⟨w,τ3',R3,K3⟩:=Lu τ2 y _ (H2'.sl 0 rfl) (H2'.zok 0 rfl) ⟨true,a.obj,a.key,a.val,a.dot⟩ (by omega)
    rw[Tj (fun y hy=>kf2 y (List.mem_filter.1 hy).1) hkn1] at K3
    have H2:=(H2'.drop1).add K3
    simp only[List.cons_append,List.nil_append] at H2
    have cc:=(H2.sl 0 rfl).cell
    obtain⟨τ3,st3,H3,_⟩:=H2.st 5 rfl 1 2 w (by rw[cc];rfl) (by decide) (by simp)
    simp +contextual (disch:=omega) only[go_sem,e2,e3,e4,e6,e7,e8,e89,A0 (H.pt 9 rfl),A0 (H.pt 8 rfl),A6 (cs:=actV a kv) rfl,kb1,kb2,kb3,kb4]
    refine Da R2 K2 ?_
    simp +contextual (disch:=omega) only[go_sem,e2,e3,e4,e6,e7,e8,e89,A0 (H2'.pt 9 rfl)]
    refine Da R3 K3 ?_
    simp +contextual (disch:=omega) only[go_sem,e2,e3,e4,e6,e7,e8,st3]
    refine hY _ _ ⟨?_,?_,?_,?_,?_,u0,u1,w,u3,?_⟩
    all_goals first|(simp +contextual (disch:=omega) only[go_sem,e2,e3,e4,e6,e7,e8];done)|skip
    simp only[cc,List.set_cons_zero,List.set_cons_succ,Bx,Bw,Cf] at H3
    rw[hdo,hd]
    exact Hp.moveTo H3 2 rfl
   have kb4:(a.kind==4)=false:=by simp[k4]
   by_cases k5:a.kind=5
   ·have kb5:(a.kind==5)=true:=by simp[k5]
    have hd:C9 {s with know:=s.know.set r a.dot.seq} a={s with know:=s.know.set r a.dot.seq,lives:=s.lives.filter (Jt true a.obj a.key a.knew)}:=by unfold C9;rw[if_neg k1,if_neg k2,if_neg k3,if_neg k4,if_pos k5]
    obtain⟨w,τ2,R2,K2⟩:=F3 τ c1 s.lives (hc.pre H.sub) true _ a (hS1 H.sub) l3 hm
    have H2:=H.add K2
    simp only[List.cons_append,List.nil_append] at H2
    have cc:=(H2.sl 0 rfl).cell
    obtain⟨τ3,st3,H3,_⟩:=H2.st 5 rfl 1 2 w (by rw[cc];rfl) (by decide) (by simp)
    simp +contextual (disch:=omega) only[go_sem,e2,e3,e4,e6,e7,e8,e89,A0 (H.pt 9 rfl),A0 (H.pt 8 rfl),A6 (cs:=actV a kv) rfl,kb1,kb2,kb3,kb4,kb5]
    refine Da R2 K2 ?_
    simp +contextual (disch:=omega) only[go_sem,e2,e3,e4,e6,e7,e8,st3]
    refine hY _ _ ⟨?_,?_,?_,?_,?_,u0,u1,w,u3,?_⟩
    all_goals first|(simp +contextual (disch:=omega) only[go_sem,e2,e3,e4,e6,e7,e8];done)|skip
    simp only[cc,List.set_cons_zero,List.set_cons_succ,Bx,Bw,Cf] at H3
    rw[hdo,hd]
    exact Hp.moveTo H3 2 rfl
   have kb5:(a.kind==5)=false:=by simp[k5]
   by_cases k6:a.kind=6
   ·have kb6:(a.kind==6)=true:=by simp[k6]
    have hd:C9 {s with know:=s.know.set r a.dot.seq} a={s with know:=s.know.set r a.dot.seq,cells:=J6 ⟨a.obj,a.dot,a.time,a.ref,a.val,false⟩ s.cells}:=by unfold C9;rw[if_neg k1,if_neg k2,if_neg k3,if_neg k4,if_neg k5,if_pos k6]
    obtain⟨w,τ2,R2,K2⟩:=Vd τ v1 s.cells (hv.pre H.sub) (Ed hz8 H.sub) ⟨a.obj,a.dot,a.time,a.ref,a.val,false⟩ l4
    rw[A4u kf3 hkn1] at K2
    have H2:=H.add K2
    simp only[List.cons_append,List.nil_append] at H2
    have cc:=(H2.sl 0 rfl).cell
    obtain⟨τ3,st3,H3,_⟩:=H2.st 5 rfl 1 3 w (by rw[cc];rfl) (by decide) (by simp)
    simp +contextual (disch:=omega) only[go_sem,e2,e3,e4,e6,e7,e8,e89,A0 (H.pt 9 rfl),A0 (H.pt 8 rfl),kb1,kb2,kb3,kb4,kb5,kb6]
    refine Da R2 K2 ?_
    simp +contextual (disch:=omega) only[go_sem,e2,e3,e4,e6,e7,e8,st3]
    refine hY _ _ ⟨?_,?_,?_,?_,?_,u0,u1,u2,w,?_⟩
    all_goals first|(simp +contextual (disch:=omega) only[go_sem,e2,e3,e4,e6,e7,e8];done)|skip
    simp only[cc,List.set_cons_zero,List.set_cons_succ,Bx,Bw,Cf] at H3
    rw[hdo,hd]
    exact Hp.moveTo H3 3 rfl
   have kb6:(a.kind==6)=false:=by simp[k6]
   have k7:a.kind=7:=by omega
   have kb7:(a.kind==7)=true:=by simp[k7]
   have hd:C9 {s with know:=s.know.set r a.dot.seq} a={s with know:=s.know.set r a.dot.seq,cells:=Gb s.cells a.ref}:=by unfold C9;rw[if_neg k1,if_neg k2,if_neg k3,if_neg k4,if_neg k5,if_neg k6]
   cases hx:Cj s.cells a.ref with
   |none=>simp[Fl,k7,hx] at hri
   |some k=>
    obtain⟨hkl2,hke⟩:=Bi hx
    have hno:Bt s.cells a.ref=k:=by simp[Bt,hx]
    rw[hno] at e7
    have C2:=A4 (H.sl 3 rfl) hkl2
    obtain⟨τ2,st2,H2⟩:=H.ste 3 rfl hkl2 1 7 (.bool true) {s.cells[k] with gone:=true} rfl (by decide) (by decide) rfl
    have st2:stG 1 τ (fld 7 (atz 8 u3 k)) (.bool true)=some (.tup [],τ2):=st2
    simp +contextual (disch:=omega) only[go_sem,e2,e3,e4,e6,e7,e8,kb1,kb2,kb3,kb4,kb5,kb6,kb7,A0 (H.pt 8 rfl),A0 (H.pt 4 rfl),A2,C2,st2]
    refine hY _ _ ⟨?_,?_,?_,?_,?_,u0,u1,u2,u3,?_⟩
    all_goals first|(simp +contextual (disch:=omega) only[go_sem,e2,e3,e4,e6,e7,e8];done)|skip
    have hE:Gb s.cells a.ref=s.cells.set k {s.cells[k] with gone:=true}:=by
     unfold Gb
     rw[hx]
     exact Ll _ hkl2
    rw[hdo,hd,hE]
    exact H2) ?_
  clear e2 e3 e4 e6 e7 e8 S1
  rintro env τ ⟨e2,e3,e4,e6,e8,S1⟩
  obtain⟨w0,w1,w2,w3,z6,q1,q2,q3,H3⟩:=S1.own
  have TM:=Z3 τ [w0,w1,w2,w3] (Hh s a) (H3.rd 0 rfl)
  simp +contextual (disch:=omega) only[go_sem,e2,e3,e4,e6,e8,A0 z6,A6 (cs:=[w0,w1,w2,w3]) rfl]
  refine A9 TM (fun ht=> ?_) (fun ht=> ?_)
  ·have hd:Be s a=(s,4):=by simp[Be,hok,hao,hkn1,hkn2,hri,ht]
   obtain⟨τ5,s5,H5,_⟩:=H3.st 3 rfl 4 0 (.agg es) gl (by decide) (by simp)
   have z5:rdB τ5 n4=some (Al [GV.nilS,GV.nilS,GV.nilS,GV.nilS] 0 es):=H5.pt 3 rfl
   rw[Bg gl rfl] at z5
   simp +contextual (disch:=omega) only[go_sem,e2,e3,e4,e6,e8,A0 (H3.pt 1 rfl),A6 gl,s5,A0 z5]
   exact⟨_,rfl,es,by rw[hd],by rw[hd];exact(H5.pick 2 rfl).one⟩
  ·have hd:Be s a=(Hh s a,0):=by simp[Be,hok,hao,hkn1,hkn2,hri,ht]
   obtain⟨τ5,s5,H5,_⟩:=H3.st 3 rfl 4 0 (.agg [w0,w1,w2,w3]) rfl (by decide) (by simp)
   have z5:rdB τ5 n4=some [w0,w1,w2,w3]:=H5.pt 3 rfl
   simp +contextual (disch:=omega) only[go_sem,e2,e3,e4,e6,e8,A0 z6,A6 (cs:=[w0,w1,w2,w3]) rfl,s5,A0 z5]
   exact⟨_,rfl,_,by rw[hd],by rw[hd];exact H5.one⟩
 obtain⟨q,τ,R,ds,rfl,h⟩:=key
 exact⟨ds,τ,R,h⟩
end
section
open Go Go.RowKit
abbrev Q0:Nat:=198
def Q1:Fn1:=⟨34,[.t 4],(.seq (.reg [o 2 (.box (.t 0)),o 4 (.mov (.k .nilS))]) (.seq (.reg [o 9 (.lit 8 0 [] []),o 5 (.mov (.t 9))]) (.seq (.seq (.reg [o 10 (.ld true 4 (.t 2)),o 11 (.mov (.t 1)),o 12 (.call 289 [(.t 10),(.t 11)]),o 13 (.len false (.t 12)),o 14 (.mov (.k (.int .i64 0)))]) (.blk 0 (.lop (.seq (.reg [o 15 (.bin .lss (.t 14) (.t 13))]) (.seq (.cnd (.t 15) .skip (.ext 0)) (.seq (.blk 1 (.seq (.reg [o 16 (.iad 2 (.t 12) (.t 14)),o 17 (.ld true 2 (.t 16)),o 7 (.new [(.int .i64 0),(.int .i64 0)]),on (.st 2 (.t 7) (.t 17))]) (.seq (.drw [o 18 (.fad 3 (.t 2)),o 19 (.ld false 1 (.t 18)),o 20 (.ld true 4 (.t 2)),o 21 (.ld true 2 (.t 7)),o 22 (.call 158 [(.t 20),(.t 21)]),o 23 (.iad 8 (.t 19) (.t 22)),o 24 (.ld true 8 (.t 23)),o 8 (.new [(.str ⟨#[]⟩),(.int .i64 0),(.int .i64 0),(.int .i64 0),(.int .i64 0),(.int .i64 0),(.int .i64 0),(.bool false)])] [on (.st 8 (.t 8) (.t 24))]) (.seq (.reg [o 25 (.fad 7 (.t 8)),o 26 (.ld false 1 (.t 25)),o 27 (.un .not (.t 26))]) (.cnd (.t 27) (.reg [o 28 (.mov (.t 5)),o 29 (.ld true 8 (.t 8)),o 30 (.lit 8 1 [(.str ⟨#[]⟩),(.int .i64 0),(.int .i64 0),(.int .i64 0),(.int .i64 0),(.int .i64 0),(.int .i64 0),(.bool false)] [(0,8,(.t 29))]),o 31 (.app 8 72 [(.str ⟨#[]⟩),(.int .i64 0),(.int .i64 0),(.int .i64 0),(.int .i64 0),(.int .i64 0),(.int .i64 0),(.bool false)] (.t 28) (.t 30)),o 5 (.mov (.t 31))]) .skip))))) (.reg [o 32 (.bin .add (.t 14) (.k (.int .i64 1))),o 14 (.mov (.t 32))]))))))) (.seq (.reg [o 33 (.mov (.t 5)),o 4 (.mov (.t 33))]) .ret))))⟩
theorem Z7:A5 Tryz.prog Q0=some Q1:=by kernel_rfl
abbrev Abw:Nat:=76
def Abx:Fn1:=⟨45,[.t 4],(.seq (.reg [o 2 (.box (.t 0)),o 4 (.mov (.k .nilS))]) (.seq (.reg [o 9 (.lit 1 0 [] []),o 5 (.mov (.t 9))]) (.seq (.reg [o 10 (.ld true 4 (.t 2)),o 11 (.mov (.t 1)),o 12 (.call 206 [(.t 10),(.t 11)]),o 6 (.mov (.t 12))]) (.seq (.seq (.reg [o 7 (.mov (.k (.int .i64 0)))]) (.blk 0 (.lop (.seq (.seq (.reg [o 13 (.mov (.t 7)),o 14 (.mov (.t 6)),o 15 (.len false (.t 14)),o 16 (.bin .lss (.t 13) (.t 15))]) (.cnd (.t 16) .skip (.ext 0))) (.seq (.blk 1 (.seq (.drw [o 19 (.ld true 4 (.t 2)),o 20 (.mov (.t 6)),o 21 (.mov (.t 7)),o 22 (.iad 2 (.t 20) (.t 21)),o 23 (.ld true 2 (.t 22))] [o 24 (.call 146 [(.t 19),(.t 23)]),o 8 (.mov (.t 24))]) (.seq (.reg [o 25 (.mov (.t 8)),o 26 (.bin .geq (.t 25) (.k (.int .i64 0))),o 27 (.mov (.t 26)),og 28 27 true (.fad 3 (.t 2)),og 29 27 true (.ld false 1 (.t 28)),og 30 27 true (.mov (.t 8)),og 31 27 true (.iad 8 (.t 29) (.t 30)),og 32 27 true (.fad 7 (.t 31)),og 33 27 true (.ld false 1 (.t 32)),og 34 27 true (.un .not (.t 33)),o 35 (.pick (.t 27) (.t 34) (.k (.bool false)))]) (.cnd (.t 35) (.reg [o 36 (.mov (.t 5)),o 37 (.mov (.t 6)),o 38 (.mov (.t 7)),o 39 (.iad 2 (.t 37) (.t 38)),o 40 (.fad 0 (.t 39)),o 41 (.ld false 1 (.t 40)),o 42 (.lit 1 1 [(.int .i64 0)] [(0,1,(.t 41))]),o 43 (.app 1 8 [(.int .i64 0)] (.t 36) (.t 42)),o 5 (.mov (.t 43))]) .skip)))) (.reg [o 17 (.mov (.t 7)),o 18 (.bin .add (.t 17) (.k (.int .i64 1))),o 7 (.mov (.t 18))])))))) (.seq (.reg [o 44 (.mov (.t 5)),o 4 (.mov (.t 44))]) .ret)))))⟩
abbrev Aby:Nat:=71
def Abz:Fn1:=⟨25,[.t 4],(.seq (.reg [o 2 (.box (.t 0)),o 4 (.mov (.k .nilS))]) (.seq (.reg [o 8 (.lit 1 0 [] []),o 5 (.mov (.t 8))]) (.seq (.seq (.reg [o 9 (.ld true 4 (.t 2)),o 10 (.mov (.t 1)),o 11 (.call 198 [(.t 9),(.t 10)]),o 12 (.len false (.t 11)),o 13 (.mov (.k (.int .i64 0)))]) (.blk 0 (.lop (.seq (.reg [o 14 (.bin .lss (.t 13) (.t 12))]) (.seq (.cnd (.t 14) .skip (.ext 0)) (.seq (.blk 1 (.seq (.reg [o 15 (.iad 8 (.t 11) (.t 13)),o 16 (.ld true 8 (.t 15)),o 7 (.new [(.str ⟨#[]⟩),(.int .i64 0),(.int .i64 0),(.int .i64 0),(.int .i64 0),(.int .i64 0),(.int .i64 0),(.bool false)]),on (.st 8 (.t 7) (.t 16))]) (.reg [o 17 (.mov (.t 5)),o 18 (.fad 1 (.t 7)),o 19 (.fad 0 (.t 18)),o 20 (.ld false 1 (.t 19)),o 21 (.lit 1 1 [(.int .i64 0)] [(0,1,(.t 20))]),o 22 (.app 1 8 [(.int .i64 0)] (.t 17) (.t 21)),o 5 (.mov (.t 22))]))) (.reg [o 23 (.bin .add (.t 13) (.k (.int .i64 1))),o 13 (.mov (.t 23))]))))))) (.seq (.reg [o 24 (.mov (.t 5)),o 4 (.mov (.t 24))]) .ret))))⟩
def Cq (c:Cell):Bool:= !c.gone
theorem rowT (s:State) (o:ByteArray):∃ T:List Cell,rowD s o=T.map (·.dot)∧rowL s o=T.filter Cq∧T.length≤1200120∧∀ c∈T,∃ k,∃ hk:k<s.cells.length,Bt s.cells c.dot=k∧s.cells[k]=c:=by
 cases h:B7 s with
 |true=>
  refine⟨rowC s o,by simp[rowD,h],by simp only[rowL,h,if_true];rfl,Li (Kp h) o,fun c hc=> ?_⟩
  obtain⟨k,hk,h1,h2⟩:=A1c h hc
  exact⟨k,hk,by simp[Bt,h1],h2⟩
 |false=>exact⟨[],by simp[rowD,h],by simp[rowL,h],by simp,fun c hc=>by simp at hc⟩
theorem A9d {l:List Cell} {i:Nat} (hi:i<l.length):(l.take (i+1)).filter Cq=if Cq l[i] then(l.take i).filter Cq++[l[i]] else(l.take i).filter Cq:=by
 rw[Do hi]
 split<;>simp
theorem Vg (σ:St) (cs:List GV) (s:State) (hR:A8.R σ s cs) (o:ByteArray) (hl:Ac s≤1099511627776):∃ r τ,Ret Tryz.prog Q0 [.agg cs,.str o] σ r τ∧Hp σ τ [ow Ai.kd r (rowL s o)]:=by
 have hR0:=hR
 obtain⟨a,b,c,v,rfl,_,_,_,hc⟩:=hR
 obtain⟨l1,l2,l3,l4,_⟩:=Am hl
 refine Cv Z7 (Z0z rfl) ?_
 have H:=((Hp.refl σ).new 1 [a,b,c,v]).nil_Cell
 simp +contextual (disch:=omega) only[go_sem,Q1,A0j,Rt,A6 (cs:=[a,b,c,v]) rfl]
 obtain⟨r1,τ1,R1,K1⟩:=Z0 _ _ s (A8.pre hR0 H.sub) o hl
 obtain⟨T,hT1,hT2,hT3,hT4⟩:=rowT s o
 rw[hT1] at K1
 rw[hT2]
 refine Da R1 K1 ?_
 have H:=H.add K1
 simp only[List.cons_append,List.nil_append] at H
 have hlen0:=(H.sl 0 rfl).len
 rw[List.length_map] at hlen0
 simp +contextual (disch:=omega) only[go_sem,hlen0]
 generalize hn1:σ.length=n1 at*
 refine Yh T.length 14 (fun i env τ=>env 2= .ptr n1 0∧env 12=r1∧env 13=gi T.length∧∃ u,env 5=u∧Hp σ τ [ow Ai.kd u ((T.take i).filter Cq),ow pDot.kd r1 (T.map fun x:Cell=>x.dot),pt 1 n1 [a,b,c,v]]) rfl ⟨rfl,rfl,rfl,_,rfl,H.pick 1 rfl⟩ ?_ ?_
 ·clear H
  rintro J hJ i env τ hi e14 c0 ⟨e2,e12,e13,u,e5,H⟩
  have hfl:=Cc T Cq i
  have hsn:=A9d hi
  have C1:=Abn (H.sl 1 rfl) (i:=i) (by simpa using hi)
  rw[List.getElem_map] at C1
  obtain⟨k,hk,hk1,hk2⟩:=hT4 T[i] (List.getElem_mem hi)
  have G:=H.grow (pre1 τ (some (Blk.row 1 [gi T[i].dot.rep,gi T[i].dot.seq])))
  have CA:=Hu _ _ s (A8.pre hR0 G.sub) T[i].dot hl
  rw[hk1] at CA
  have C2:=A4 (hc.pre G.sub) hk
  rw[hk2] at C2
  simp +contextual (disch:=omega) only[go_sem,c0,e2,e5,e12,e13,e14,C1,A0 (G.pt 2 rfl),A6 (cs:=[a,b,c,v]) rfl]
  refine A7 CA ?_
  cases hg:T[i].gone with
  |true=>
   have hk0:Cq T[i]=false:=by simp[Cq,hg]
   rw[hk0,if_neg (by simp)] at hsn
   have G2:=G.grow (pre1 _ (some (Blk.row 1 [.str T[i].obj,gi T[i].dot.rep,gi T[i].dot.seq,gi T[i].time,gi T[i].ref.rep,gi T[i].ref.seq,gi T[i].val,.bool true])))
   simp +contextual (disch:=omega) only[go_sem,c0,e2,e5,e12,e13,e14,A2,C2,hg]
   refine hJ _ _ _ ⟨?_,?_,?_,u,?_,by rw[hsn];exact G2⟩
   all_goals simp +contextual (disch:=omega) only[go_sem,e2,e5,e12,e13,e14]
  |false=>
   have hk0:Cq T[i]=true:=by simp[Cq,hg]
   rw[hk0,if_pos rfl] at hsn
   have G2:=G.grow (pre1 _ (some (Blk.row 1 [.str T[i].obj,gi T[i].dot.rep,gi T[i].dot.seq,gi T[i].time,gi T[i].ref.rep,gi T[i].ref.seq,gi T[i].val,.bool false])))
   obtain⟨w',τ3,e8,H3⟩:=G2.app_Cell 0 rfl T[i] (by omega)
   simp only[hg] at e8
   simp +contextual (disch:=omega) only[go_sem,c0,e2,e5,e12,e13,e14,A2,C2,hg,e8]
   refine hJ _ _ _ ⟨?_,?_,?_,w',?_,by rw[hsn];exact H3⟩
   all_goals simp +contextual (disch:=omega) only[go_sem,e2,e5,e12,e13,e14]
 ·clear H
  rintro env τ e14 c0 ⟨e2,e12,e13,u,e5,H⟩
  rw[List.take_length] at H
  simp +contextual (disch:=omega) only[go_sem,c0,e2,e5,e12,e13,e14]
  exact⟨_,rfl,H.one⟩
end
section
open Go Go.RowKit
abbrev n_s_EditOk:Nat:=345
def F_s_EditOk:Fn1:=⟨34,[.t 2],(.seq (.reg [o 1 (.box (.t 0)),o 2 (.mov (.k (.bool false)))]) (.seq (.reg [o 4 (.fad 0 (.t 1)),o 5 (.ld false 1 (.t 4)),o 6 (.bin .eql (.t 5) (.k (.int .i64 6))),o 7 (.mov (.t 6)),og 8 7 false (.fad 0 (.t 1)),og 9 7 false (.ld false 1 (.t 8)),og 10 7 false (.bin .eql (.t 9) (.k (.int .i64 7))),o 11 (.pick (.t 7) (.k (.bool true)) (.t 10)),o 3 (.mov (.t 11))]) (.seq (.reg [o 12 (.fad 0 (.t 1)),o 13 (.ld false 1 (.t 12)),o 14 (.fad 1 (.t 1)),o 15 (.ld false 1 (.t 14)),o 16 (.fad 2 (.t 1)),o 17 (.ld false 1 (.t 16)),o 18 (.fad 3 (.t 1)),o 19 (.ld false 1 (.t 18)),o 20 (.call 279 [(.t 13),(.t 15),(.t 17),(.t 19)]),o 21 (.mov (.t 20)),og 22 21 true (.fad 4 (.t 1)),og 23 21 true (.ld false 1 (.t 22)),og 24 21 true (.bin .geq (.t 23) (.k (.int .i64 0))),o 25 (.pick (.t 21) (.t 24) (.k (.bool false))),o 26 (.mov (.t 25)),og 27 26 true (.mov (.t 3)),og 28 26 true (.mov (.t 27)),og 29 28 false (.fad 4 (.t 1)),og 30 28 false (.ld false 1 (.t 29)),og 31 28 false (.bin .eql (.t 30) (.k (.int .i64 0))),og 32 26 true (.pick (.t 28) (.k (.bool true)) (.t 31)),o 33 (.pick (.t 26) (.t 32) (.k (.bool false))),o 2 (.mov (.t 33))]) .ret)))⟩
abbrev Ae2:Nat:=346
def Ae3:Fn1:=⟨42,[.c 6 true 2,.t 7],(.seq (.reg [o 3 (.box (.t 0)),o 6 (.new [(.int .i64 0),(.int .i64 0)]),o 7 (.mov (.k (.bool false)))]) (.seq (.seq (.reg [o 10 (.ld true 4 (.t 3)),o 11 (.call 199 [(.t 10)]),o 12 (.un .not (.t 11)),o 13 (.mov (.t 12)),og 14 13 false (.mov (.t 2)),og 15 13 false (.bin .lss (.t 14) (.k (.int .i64 0))),o 16 (.pick (.t 13) (.k (.bool true)) (.t 15))]) (.cnd (.t 16) (.seq (.reg [o 17 (.build [(.int .i64 0),(.int .i64 0)] []),on (.st 2 (.t 6) (.t 17)),o 7 (.mov (.k (.bool false)))]) .ret) .skip)) (.seq (.reg [o 18 (.ld true 4 (.t 3)),o 19 (.mov (.t 1)),o 20 (.call 145 [(.t 18),(.t 19)]),o 8 (.mov (.t 20))]) (.seq (.seq (.reg [o 9 (.mov (.k (.int .i64 0)))]) (.blk 0 (.lop (.seq (.seq (.reg [o 21 (.mov (.t 9)),o 22 (.mov (.t 8)),o 23 (.len false (.t 22)),o 24 (.bin .lss (.t 21) (.t 23))]) (.cnd (.t 24) .skip (.ext 0))) (.seq (.blk 1 (.seq (.seq (.reg [o 27 (.mov (.t 8)),o 28 (.mov (.t 9)),o 29 (.iad 8 (.t 27) (.t 28)),o 30 (.fad 7 (.t 29)),o 31 (.ld false 1 (.t 30))]) (.cnd (.t 31) (.ext 1) .skip)) (.seq (.seq (.reg [o 32 (.mov (.t 2)),o 33 (.bin .eql (.t 32) (.k (.int .i64 0)))]) (.cnd (.t 33) (.seq (.reg [o 34 (.mov (.t 8)),o 35 (.mov (.t 9)),o 36 (.iad 8 (.t 34) (.t 35)),o 37 (.fad 1 (.t 36)),o 38 (.ld true 2 (.t 37)),on (.st 2 (.t 6) (.t 38)),o 7 (.mov (.k (.bool true)))]) .ret) .skip)) (.reg [o 39 (.mov (.t 2)),o 40 (.bin .sub (.t 39) (.k (.int .i64 1))),o 2 (.mov (.t 40))])))) (.reg [o 25 (.mov (.t 9)),o 26 (.bin .add (.t 25) (.k (.int .i64 1))),o 9 (.mov (.t 26))])))))) (.seq (.reg [o 41 (.build [(.int .i64 0),(.int .i64 0)] []),on (.st 2 (.t 6) (.t 41)),o 7 (.mov (.k (.bool false)))]) .ret)))))⟩
def editOk (e:Edit):Bool:=Ba e.kind e.obj e.key e.val&&(decide (0≤e.place)&&((e.kind==6||e.kind==7)||e.place==0))
def A9e (s:State) (o:ByteArray) (i:Int):Dot×Bool:=if h:0≤i∧i.toNat<(rowL s o).length then((rowL s o)[i.toNat].dot,true) else(⟨0,0⟩,false)
end
section
open Go Go.RowKit
abbrev n_s_ActOf:Nat:=276
def F_s_ActOf:Fn1:=⟨98,[.c 8 true 10,.t 9],(.seq (.reg [o 4 (.box (.t 0)),o 7 (.box (.t 3)),o 8 (.new [(.int .i64 0),(.int .i64 0),(.int .i64 0),.nilS,(.int .i64 0),(.str ⟨#[]⟩),(.str ⟨#[]⟩),(.int .i64 0),(.int .i64 0),(.int .i64 0)]),o 9 (.mov (.k (.int .i64 0)))]) (.seq (.seq (.reg [o 12 (.ld true 4 (.t 4)),o 13 (.call 199 [(.t 12)]),o 14 (.un .not (.t 13)),o 15 (.mov (.t 14)),og 16 15 false (.ld true 5 (.t 7)),og 17 15 false (.call 345 [(.t 16)]),og 18 15 false (.un .not (.t 17)),o 19 (.pick (.t 15) (.k (.bool true)) (.t 18)),o 20 (.mov (.t 19)),og 21 20 false (.mov (.t 1)),og 22 20 false (.call 122 [(.t 21),(.k (.int .i64 0)),(.k (.int .i64 2))]),og 23 20 false (.un .not (.t 22)),o 24 (.pick (.t 20) (.k (.bool true)) (.t 23)),o 25 (.mov (.t 24)),og 26 25 false (.mov (.t 2)),og 27 25 false (.call 122 [(.t 26),(.k (.int .i64 1)),(.k (.int .i64 10000))]),og 28 25 false (.un .not (.t 27)),o 29 (.pick (.t 25) (.k (.bool true)) (.t 28))]) (.cnd (.t 29) (.seq (.reg [o 30 (.build [(.int .i64 0),(.int .i64 0),(.int .i64 0),.nilS,(.int .i64 0),(.str ⟨#[]⟩),(.str ⟨#[]⟩),(.int .i64 0),(.int .i64 0),(.int .i64 0)] []),on (.st 10 (.t 8) (.t 30)),o 9 (.mov (.k (.int .i64 3)))]) .ret) .skip)) (.seq (.drw [o 31 (.mov (.t 1)),o 32 (.fad 0 (.t 4)),o 33 (.ld false 1 (.t 32)),o 34 (.mov (.t 1)),o 35 (.iad 1 (.t 33) (.t 34)),o 36 (.ld false 1 (.t 35)),o 37 (.bin .add (.t 36) (.k (.int .i64 1))),o 38 (.build [(.int .i64 0),(.int .i64 0)] [(0,1,(.t 31)),(1,1,(.t 37))]),o 39 (.mov (.t 2)),o 40 (.lit 1 0 [] []),o 41 (.fad 0 (.t 4)),o 42 (.ld false 1 (.t 41)),o 43 (.app 1 8 [(.int .i64 0)] (.t 40) (.t 42)),o 44 (.fad 0 (.t 7)),o 45 (.ld false 1 (.t 44)),o 46 (.fad 1 (.t 7)),o 47 (.ld false 1 (.t 46)),o 48 (.fad 2 (.t 7)),o 49 (.ld false 1 (.t 48)),o 50 (.fad 3 (.t 7)),o 51 (.ld false 1 (.t 50)),o 52 (.build [(.int .i64 0),(.int .i64 0),(.int .i64 0),.nilS,(.int .i64 0),(.str ⟨#[]⟩),(.str ⟨#[]⟩),(.int .i64 0),(.int .i64 0),(.int .i64 0)] [(0,2,(.t 38)),(2,1,(.t 39)),(3,1,(.t 43)),(4,1,(.t 45)),(5,1,(.t 47)),(6,1,(.t 49)),(7,1,(.t 51))]),o 10 (.new [(.int .i64 0),(.int .i64 0),(.int .i64 0),.nilS,(.int .i64 0),(.str ⟨#[]⟩),(.str ⟨#[]⟩),(.int .i64 0),(.int .i64 0),(.int .i64 0)])] [on (.st 10 (.t 10) (.t 52))]) (.seq (.reg [o 11 (.mov (.k (.bool true)))]) (.seq (.seq (.reg [o 53 (.fad 0 (.t 7)),o 54 (.ld false 1 (.t 53)),o 55 (.bin .eql (.t 54) (.k (.int .i64 7)))]) (.cnd (.t 55) (.reg [o 57 (.ld true 4 (.t 4)),o 58 (.fad 1 (.t 7)),o 59 (.ld false 1 (.t 58)),o 60 (.fad 4 (.t 7)),o 61 (.ld false 1 (.t 60)),o 62 (.call 346 [(.t 57),(.t 59),(.t 61)]),o 56 (.mov (.t 62)),o 63 (.ext 0 (.t 56)),o 64 (.ext 1 (.t 56)),o 65 (.fad 8 (.t 10)),on (.st 2 (.t 65) (.t 63)),o 11 (.mov (.t 64))]) .skip)) (.seq (.seq (.reg [o 66 (.fad 0 (.t 7)),o 67 (.ld false 1 (.t 66)),o 68 (.bin .eql (.t 67) (.k (.int .i64 6))),o 69 (.mov (.t 68)),og 70 69 true (.fad 4 (.t 7)),og 71 69 true (.ld false 1 (.t 70)),og 72 69 true (.bin .gtr (.t 71) (.k (.int .i64 0))),o 73 (.pick (.t 69) (.t 72) (.k (.bool false)))]) (.cnd (.t 73) (.reg [o 75 (.ld true 4 (.t 4)),o 76 (.fad 1 (.t 7)),o 77 (.ld false 1 (.t 76)),o 78 (.fad 4 (.t 7)),o 79 (.ld false 1 (.t 78)),o 80 (.bin .sub (.t 79) (.k (.int .i64 1))),o 81 (.call 346 [(.t 75),(.t 77),(.t 80)]),o 74 (.mov (.t 81)),o 82 (.ext 0 (.t 74)),o 83 (.ext 1 (.t 74)),o 84 (.fad 8 (.t 10)),on (.st 2 (.t 84) (.t 82)),o 11 (.mov (.t 83))]) .skip)) (.seq (.seq (.reg [o 85 (.fad 0 (.t 10)),o 86 (.ld true 2 (.t 85)),o 87 (.call 168 [(.t 86)]),o 88 (.un .not (.t 87))]) (.cnd (.t 88) (.seq (.reg [o 89 (.build [(.int .i64 0),(.int .i64 0),(.int .i64 0),.nilS,(.int .i64 0),(.str ⟨#[]⟩),(.str ⟨#[]⟩),(.int .i64 0),(.int .i64 0),(.int .i64 0)] []),on (.st 10 (.t 8) (.t 89)),o 9 (.mov (.k (.int .i64 3)))]) .ret) .skip)) (.seq (.seq (.reg [o 90 (.mov (.t 11)),o 91 (.un .not (.t 90))]) (.cnd (.t 91) (.seq (.reg [o 92 (.build [(.int .i64 0),(.int .i64 0),(.int .i64 0),.nilS,(.int .i64 0),(.str ⟨#[]⟩),(.str ⟨#[]⟩),(.int .i64 0),(.int .i64 0),(.int .i64 0)] []),on (.st 10 (.t 8) (.t 92)),o 9 (.mov (.k (.int .i64 5)))]) .ret) .skip)) (.seq (.seq (.reg [o 93 (.ld true 10 (.t 10)),o 94 (.call 185 [(.t 93)]),o 95 (.un .not (.t 94))]) (.cnd (.t 95) (.seq (.reg [o 96 (.build [(.int .i64 0),(.int .i64 0),(.int .i64 0),.nilS,(.int .i64 0),(.str ⟨#[]⟩),(.str ⟨#[]⟩),(.int .i64 0),(.int .i64 0),(.int .i64 0)] []),on (.st 10 (.t 8) (.t 96)),o 9 (.mov (.k (.int .i64 3)))]) .ret) .skip)) (.seq (.reg [o 97 (.ld true 10 (.t 10)),on (.st 10 (.t 8) (.t 97)),o 9 (.mov (.k (.int .i64 0)))]) .ret))))))))))⟩
def A9f (s:State) (e:Edit):Dot×Bool:=if e.kind=7 then A9e s e.obj e.place else if e.kind=6∧0<e.place then A9e s e.obj (e.place - 1) else(d0,true)
def act0:Act:=⟨d0,0,[],0,⟨#[]⟩,⟨#[]⟩,0,d0⟩
def Ae4 (s:State) (rep time:Int) (e:Edit) (d:Dot):Act:=⟨⟨rep,at0 s.know rep+1⟩,time,s.know,e.kind,e.obj,e.key,e.val,d⟩
def Ac0 (s:State) (rep time:Int) (e:Edit):Act:=Ae4 s rep time e (A9f s e).1
abbrev awV (s:State) (rep time:Int) (e:Edit) (kv:GV) (d:Dot):List GV:=[gi rep,gi (at0 s.know rep+1),gi time,kv,gi e.kind,.str e.obj,.str e.key,gi e.val,gi d.rep,gi d.seq]
def Ae5 (s:State) (rep time:Int) (e:Edit):Act×Int:=
 if B7 s&&(editOk e&&(inB rep 0 2&&inB time 1 10000)) then
  if Gi ⟨rep,at0 s.know rep+1⟩ then
   if(A9f s e).2 then
    if Ct (Ac0 s rep time e) then(Ac0 s rep time e,0) else(act0,3)
   else(act0,5)
  else(act0,3)
 else(act0,3)
abbrev edV (e:Edit):List GV:=[gi e.kind,.str e.obj,.str e.key,gi e.val,gi e.place]
abbrev zeV:List GV:=[gi 0,gi 0,gi 0,GV.nilS,gi 0,.str ⟨#[]⟩,.str ⟨#[]⟩,gi 0,gi 0,gi 0]
end
section
open Go Go.RowKit
end
section
open Go Go.RowKit
def stepE (s:State) (rep t:Int) (e:Edit):State×Int:=if(Ae5 s rep t e).2=0 then Be s (Ae5 s rep t e).1 else(s,(Ae5 s rep t e).2)
def runE (s:State) (rep t:Int) (es:List Edit):Nat→State×Int
 |0=>(s,0)
 |i+1=>if(runE s rep t es i).2=0 then(if h:i<es.length then stepE (runE s rep t es i).1 rep (IntKind.i64.wrap (t+i)) es[i] else runE s rep t es i) else runE s rep t es i
def doEdits (s:State) (rep t:Int) (es:List Edit):State×Int:=runE s rep t es es.length
end
section
open Go Go.RowKit
structure OkS (s:State):Prop where
 kn:okK s.know=true
 tl:s.tallies.Pairwise fun a b=>Ak a b=true
 t1:∀ t∈s.tallies,tal1 t=true
 tn:s.tallies.length≤120
 ll:s.lives.Pairwise fun a b=>Au a.dot b.dot=true
 l1:∀ x∈s.lives,B9 s.know x.dot=true∧liv1 x=true
 ln:s.lives.length≤120
 cl:s.cells.Pairwise fun a b=>Au a.dot b.dot=true
 c1:∀ x∈s.cells,B9 s.know x.dot=true∧cel1 x=true
 cn:s.cells.length≤120
 rf:∀ c∈s.cells,c.ref=d0∨∃ y∈s.cells,y.dot=c.ref∧y.obj=c.obj∧y.time<c.time
theorem Z8 {α:Type} {lt:α→α→Bool} {l:List α} (h:l.Pairwise fun a b=>lt a b=true) (i:Nat) (hi:i<l.length):upI lt l i=true:=by
 by_cases h0:i=0
 ·subst h0;rfl
 ·rw[Kg h0 hi (by omega)]
  exact List.pairwise_iff_getElem.1 h (i - 1) i (by omega) hi (by omega)
theorem I6 {α:Type} {l:List α} {p:α→Bool}:(∀ i,i<l.length→onI l i p=true)↔∀ x∈l,p x=true:=by
 constructor
 ·intro h x hx
  obtain⟨i,hi,rfl⟩:=List.getElem_of_mem hx
  have:=h i hi
  rwa [Bs hi] at this
 ·intro h i hi
  rw[Bs hi];exact h _ (List.getElem_mem hi)
theorem Ab1 {l:List Cell} (h:l.Pairwise fun a b=>Au a.dot b.dot=true) {x y:Cell} (hx:x∈l) (hy:y∈l) (e:x.dot=y.dot):x=y:=by
 obtain⟨i,hi,rfl⟩:=List.getElem_of_mem hx
 obtain⟨j,hj,rfl⟩:=List.getElem_of_mem hy
 rcases Nat.lt_trichotomy i j with h1|h1|h1
 ·have:=List.pairwise_iff_getElem.1 h i j hi hj h1
  rw[e,Ib] at this;cases this
 ·subst h1;rfl
 ·have:=List.pairwise_iff_getElem.1 h j i hj hi h1
  rw[e,Ib] at this;cases this
theorem A7i {l:List Cell} (h:l.Pairwise fun a b=>Au a.dot b.dot=true) {y:Cell} (hy:y∈l):∃ k,Cj l y.dot=some k∧∃ hk:k<l.length,l[k]=y:=by
 cases hc:Cj l y.dot with
 |none=>
  exfalso
  have:=List.findIdx?_eq_none_iff.1 hc y hy
  simp at this
 |some k=>
  obtain⟨hk,e⟩:=Bi hc
  exact⟨k,rfl,hk,Ab1 h (List.getElem_mem hk) hy e⟩
theorem Z9 {s:State}:B7 s=true↔OkS s:=by
 unfold B7
 simp only[Bool.and_eq_true]
 constructor
 ·rintro⟨h1,h2,h3,h4,h5⟩
  have hc:=A3y h4
  have hl:=Aaq h3
  simp only[Gy,Bool.and_eq_true,Ci,talP,decide_eq_true_eq] at h2
  simp only[Kh,Bool.and_eq_true,Ci,livP,decide_eq_true_eq] at h3
  simp only[Jj,Bool.and_eq_true,Ci,celP,decide_eq_true_eq] at h4
  refine {kn:=h1,tl:=Qz (lt:=Ak) (fun a b c=>Kr.trans a b c) fun i hi=>(h2.1 i hi).2,t1:=I6.1 fun i hi=>(h2.1 i hi).1,tn:=h2.2,ll:=hl,l1:=fun x hx=>⟨I6.1 (fun i hi=>(h3.1 i hi).1) x hx,I6.1 (fun i hi=>(h3.1 i hi).2.1) x hx⟩,ln:=h3.2,cl:=hc,c1:=fun x hx=>⟨I6.1 (fun i hi=>(h4.1 i hi).1) x hx,I6.1 (fun i hi=>(h4.1 i hi).2.1) x hx⟩,cn:=h4.2,rf:=fun c hcm=> ?_}
  have:=List.all_eq_true.1 h5 c hcm
  unfold ref1 at this
  simp only[Bool.or_eq_true,decide_eq_true_eq] at this
  refine this.imp (fun h=>h) fun h=> ?_
  split at h
  ·cases h
  ·rename_i k hk
   obtain⟨hkl,e⟩:=Bi hk
   rw[Bs hkl] at h
   simp only[Bool.and_eq_true,decide_eq_true_eq] at h
   exact⟨_,List.getElem_mem hkl,e,h.1,h.2⟩
 ·intro h
  refine⟨h.kn,?_,?_,?_,?_⟩
  ·simp only[Gy,Bool.and_eq_true,Ci,talP,decide_eq_true_eq]
   exact⟨fun i hi=>⟨I6.2 h.t1 i hi,Z8 h.tl i hi⟩,h.tn⟩
  ·simp only[Kh,Bool.and_eq_true,Ci,livP,decide_eq_true_eq]
   exact⟨fun i hi=>⟨I6.2 (fun x hx=>(h.l1 x hx).1) i hi,I6.2 (fun x hx=>(h.l1 x hx).2) i hi,Z8 (lt:=Eh) h.ll i hi⟩,h.ln⟩
  ·simp only[Jj,Bool.and_eq_true,Ci,celP,decide_eq_true_eq]
   exact⟨fun i hi=>⟨I6.2 (fun x hx=>(h.c1 x hx).1) i hi,I6.2 (fun x hx=>(h.c1 x hx).2) i hi,Z8 (lt:=Fd) h.cl i hi⟩,h.cn⟩
  ·refine List.all_eq_true.2 fun c hc=> ?_
   unfold ref1
   simp only[Bool.or_eq_true,decide_eq_true_eq]
   refine(h.rf c hc).imp (fun h=>h) fun⟨y,hy,e1,e2,e3⟩=> ?_
   obtain⟨k,hk,hkl,ek⟩:=A7i h.cl hy
   rw[← e1,hk]
   simp only
   rw[Bs hkl,ek]
   simp[e2,e3]
theorem Jc {α:Type} {lt:α→α→Bool} {x y:α} {l:List α}:y∈insB lt x l↔y=x∨y∈l:=by
 rw[(Gz lt x l).mem_iff,List.mem_cons]
theorem Za {α:Type} {lt:α→α→Bool} (ht:∀ a b c,lt a b=true→lt b c=true→lt a c=true) {x:α}:∀ {l:List α},l.Pairwise (fun a b=>lt a b=true)→(∀ y∈l,lt x y=true∨lt y x=true)→(insB lt x l).Pairwise fun a b=>lt a b=true
 |[],_,_=>by simp[insB]
 |k::r,h,hx=>by
  obtain⟨h1,h2⟩:=List.pairwise_cons.1 h
  unfold insB
  split
  ·rename_i hk
   refine List.pairwise_cons.2 ⟨fun y hy=> ?_,h⟩
   rcases List.mem_cons.1 hy with rfl|hy
   ·exact hk
   ·exact ht _ _ _ hk (h1 y hy)
  ·rename_i hk
   refine List.pairwise_cons.2 ⟨fun y hy=> ?_,Za ht h2 fun y hy=>hx y (List.mem_cons_of_mem _ hy)⟩
   rcases Jc.1 hy with rfl|hy
   ·exact(hx k List.mem_cons_self).resolve_left hk
   ·exact h1 y hy
theorem Om {α β:Type} {f:α→α} {g:α→β} (h:∀ x,g (f x)=g x):∀(l:List α) (k:Nat),(l.modify k f).map g=l.map g
 |[],k=>by simp
 |x::l,0=>by simp[h]
 |x::l,k+1=>by simp[List.modify_succ_cons,Om h l k]
theorem On {α:Type} {f:α→α}:∀ {l:List α} {k:Nat} {x:α},x∈l.modify k f→∃ y∈l,x=y∨x=f y
 |[],k,x,h=>by simp at h
 |y::l,0,x,h=>by
  simp only[List.modify_zero_cons,List.mem_cons] at h
  rcases h with h|h
  ·exact⟨y,List.mem_cons_self,.inr h⟩
  ·exact⟨x,List.mem_cons_of_mem _ h,.inl rfl⟩
 |y::l,k+1,x,h=>by
  simp only[List.modify_succ_cons,List.mem_cons] at h
  rcases h with h|h
  ·exact⟨y,List.mem_cons_self,.inl h⟩
  ·obtain⟨z,hz,e⟩:=On h
   exact⟨z,List.mem_cons_of_mem _ hz,e⟩
theorem Wy {α:Type} {f:α→α}:∀ {l:List α} {k:Nat} {y:α},y∈l→∃ x∈l.modify k f,x=y∨x=f y
 |[],k,x,h=>by simp at h
 |y::l,0,x,h=>by
  rcases List.mem_cons.1 h with rfl|h
  ·exact⟨f x,by simp,.inr rfl⟩
  ·exact⟨x,by simp[h],.inl rfl⟩
 |y::l,k+1,x,h=>by
  rcases List.mem_cons.1 h with rfl|h
  ·exact⟨x,by simp[List.modify_succ_cons],.inl rfl⟩
  ·obtain⟨z,hz,e⟩:=Wy (k:=k) h
   exact⟨z,by simp[List.modify_succ_cons,hz],e⟩
theorem A9g {l:List Int} {r q:Int} {v:Int} (hr:0≤r) (hq:0≤q) (hl:r.toNat<l.length):at0 (l.set r.toNat v) q=if q=r then v else at0 l q:=by
 unfold at0
 rw[List.getD_eq_getElem?_getD,List.getD_eq_getElem?_getD,List.getElem?_set]
 by_cases h:q=r
 ·subst h;simp[hl]
 ·have:¬ r.toNat=q.toNat:=by omega
  rw[if_neg this,if_neg h]
structure Fits (s:State) (a:Act):Prop where
 dot:Gi a.dot=true
 seq:a.dot.seq=at0 s.know a.dot.rep+1
 new:B9 s.know a.dot=false
 kn:okK (s.know.set a.dot.rep.toNat a.dot.seq)=true
 mono:∀ d,B9 s.know d=true→B9 (s.know.set a.dot.rep.toNat a.dot.seq) d=true
 self:B9 (s.know.set a.dot.rep.toNat a.dot.seq) a.dot=true
theorem kLe_at:∀ {a b:List Int},a.length=b.length→kLe a b=true→∀ i:Nat,a.getD i 0≤b.getD i 0:=by
 intro a
 induction a with
 |nil=>intro b hl _ i;cases b with
  |nil=>simp
  |cons _ _=>simp at hl
 |cons x a ih=>
  intro b hl h i
  cases b with
  |nil=>simp at hl
  |cons y b=>
   simp only[kLe,Bool.and_eq_true,decide_eq_true_eq] at h
   cases i with
   |zero=>simpa using h.1
   |succ i=>simpa using ih (by simpa using hl) h.2 i
theorem Ae6 {s:State} {a:Act} (hs:okK s.know=true) (ha:Dm a=true) (hn:B9 s.know a.dot=false) (hk:Ie a.knew s.know=true):Fits s a:=by
 simp only[Dm,Bool.and_eq_true,decide_eq_true_eq] at ha
 obtain⟨h1,h2,h3,h4⟩:=ha
 simp only[Ie,Bool.and_eq_true] at hk
 have hle:=kLe_at (by rw[Gv hk.1,Gv hs]) hk.2.2 a.dot.rep.toNat
 have hle:at0 a.knew a.dot.rep≤at0 s.know a.dot.rep:=hle
 have hd:=h1
 simp only[Gi,Bool.and_eq_true,Db] at hd
 have hnot:¬ a.dot.seq≤at0 s.know a.dot.rep:=by
  intro h
  have:B9 s.know a.dot=true:=by unfold B9;rw[hs,h1];simpa using h
  rw[hn] at this;cases this
 have hlen:=Gv hs
 have hr:a.dot.rep.toNat<s.know.length:=by omega
 have e:a.dot.seq=at0 s.know a.dot.rep+1:=by omega
 have hkn:okK (s.know.set a.dot.rep.toNat a.dot.seq)=true:=by
  simp only[okK,Bool.and_eq_true,List.all_eq_true,decide_eq_true_eq] at hs ⊢
  refine⟨fun x hx=> ?_,by rw[List.length_set];exact hs.2⟩
  rcases List.mem_or_eq_of_mem_set hx with h|h
  ·exact hs.1 x h
  ·rw[h];exact Db.2 ⟨by omega,by omega⟩
 refine⟨h1,e,hn,hkn,fun d hd'=> ?_,?_⟩
 ·simp only[B9,Bool.and_eq_true,decide_eq_true_eq] at hd' ⊢
  refine⟨⟨hkn,hd'.1.2⟩,?_⟩
  have hq:=hd'.1.2
  simp only[Gi,Bool.and_eq_true,Db] at hq
  rw[A9g (by omega) (by omega) hr]
  split
  ·rename_i hq2;rw[hq2] at hd';omega
  ·exact hd'.2
 ·simp only[B9,Bool.and_eq_true,decide_eq_true_eq]
  refine⟨⟨hkn,h1⟩,?_⟩
  rw[A9g (by omega) (by omega) hr,if_pos rfl]
  omega
theorem A9h {l:List Tally} {obj:ByteArray} {rep val:Int} (hp:l.Pairwise fun a b=>Ak a b=true) (h1:∀ t∈l,tal1 t=true) (hn:Cu obj=true) (hr:inB rep 0 2=true) (hv:0≤val∧val≤999999):
  (Ej l obj rep val).Pairwise (fun a b=>Ak a b=true)∧∀ t∈Ej l obj rep val,tal1 t=true:=by
 unfold Ej
 split
 ·rename_i i hi
  constructor
  ·have e:((l.modify i fun t=>{t with sum:=addM t.sum val}).map fun t=>(⟨t.obj,t.rep,0⟩:Tally))=l.map fun t=>(⟨t.obj,t.rep,0⟩:Tally):=Om (f:=fun t=>{t with sum:=addM t.sum val}) (g:=fun t=>(⟨t.obj,t.rep,0⟩:Tally)) (fun _=>rfl) l i
   have h2:(l.map fun t=>(⟨t.obj,t.rep,0⟩:Tally)).Pairwise fun a b=>Ak a b=true:=List.pairwise_map.2 (hp.imp fun h=>h)
   rw[← e] at h2
   exact(List.pairwise_map.1 h2).imp fun h=>h
  ·intro t ht
   obtain⟨y,hy,e⟩:=On ht
   have hy1:=h1 y hy
   rcases e with rfl|rfl
   ·exact hy1
   ·simp only[tal1,Bool.and_eq_true,Db] at hy1 ⊢
    refine⟨hy1.1,hy1.2.1,?_⟩
    unfold addM
    rw[Int.tmod_eq_emod_of_nonneg (by omega)]
    omega
 ·rename_i hi
  constructor
  ·refine Za (fun a b c=>Kr.trans a b c) hp fun y hy=> ?_
   have:=List.findIdx?_eq_none_iff.1 hi y hy
   cases h2:Ak ⟨obj,rep,val⟩ y with
   |true=>exact .inl rfl
   |false=>
    cases h3:Ak y ⟨obj,rep,val⟩ with
    |true=>exact .inr rfl
    |false=>
     obtain⟨e1,e2⟩:=A1d h2 h3
     have:G0 obj rep y=true:=Hc.2 ⟨e1.symm,e2.symm⟩
     simp_all
  ·intro t ht
   rcases Jc.1 ht with rfl|ht
   ·simp only[tal1,Bool.and_eq_true]
    exact⟨hn,hr,Db.2 hv⟩
   ·exact h1 t ht
theorem A9i {k:List Int} {a d:Dot} (hn:B9 k a=false) (hd:B9 k d=true):Au a d=true∨Au d a=true:=by
 cases h1:Au a d with
 |true=>exact .inl rfl
 |false=>
  cases h2:Au d a with
  |true=>exact .inr rfl
  |false=>rw[A0z h1 h2,hd] at hn;cases hn
theorem Wz {l:List Live} {k k':List Int} {x:Live} (hp:l.Pairwise fun a b=>Au a.dot b.dot=true) (h1:∀ y∈l,B9 k y.dot=true∧liv1 y=true) (hm:∀ d,B9 k d=true→B9 k' d=true) (hn:B9 k x.dot=false) (hx:B9 k' x.dot=true∧liv1 x=true):
  (G1 x l).Pairwise (fun a b=>Au a.dot b.dot=true)∧∀ y∈G1 x l,B9 k' y.dot=true∧liv1 y=true:=by
 constructor
 ·exact Za (lt:=Eh) (fun a b c h1 h2=>Gx h1 h2) hp fun y hy=>A9i hn (h1 y hy).1
 ·intro y hy
  rcases Jc.1 hy with rfl|hy
  ·exact hx
  ·exact⟨hm _ (h1 y hy).1,(h1 y hy).2⟩
theorem A7j {l:List Cell} {k k':List Int} {x:Cell} (hp:l.Pairwise fun a b=>Au a.dot b.dot=true) (h1:∀ y∈l,B9 k y.dot=true∧cel1 y=true) (hm:∀ d,B9 k d=true→B9 k' d=true) (hn:B9 k x.dot=false) (hx:B9 k' x.dot=true∧cel1 x=true):
  (J6 x l).Pairwise (fun a b=>Au a.dot b.dot=true)∧∀ y∈J6 x l,B9 k' y.dot=true∧cel1 y=true:=by
 constructor
 ·exact Za (lt:=Fd) (fun a b c h1 h2=>Gx h1 h2) hp fun y hy=>A9i hn (h1 y hy).1
 ·intro y hy
  rcases Jc.1 hy with rfl|hy
  ·exact hx
  ·exact⟨hm _ (h1 y hy).1,(h1 y hy).2⟩
theorem X0 {l:List Cell} {d:Dot} {x:Cell} (h:x∈Gb l d):∃ y∈l,x=y∨x={y with gone:=true}:=by
 unfold Gb at h
 split at h
 ·exact On h
 ·exact⟨x,h,.inl rfl⟩
theorem A7k {l:List Cell} {d:Dot} {y:Cell} (h:y∈l):∃ x∈Gb l d,x=y∨x={y with gone:=true}:=by
 unfold Gb
 split
 ·exact Wy h
 ·exact⟨y,h,.inl rfl⟩
theorem Tk (l:List Cell) (d:Dot):(Gb l d).map (·.dot)=l.map (·.dot):=by
 unfold Gb
 split
 ·exact Om (f:=fun c:Cell=>{c with gone:=true}) (g:=fun c=>c.dot) (fun _=>rfl) _ _
 ·rfl
theorem A7l (l:List Cell) (d:Dot):(Gb l d).length=l.length:=by
 have:=congrArg List.length (Tk l d)
 simpa using this
theorem Ab2 {s:State} {a:Act} (h:OkS s) (ha:Ct a=true) (hn:B9 s.know a.dot=false) (hk:Ie a.knew s.know=true) (hr:Fl s a=true) (ht:Eb (Hh s a)=false):OkS (Hh s a):=by
 simp only[Ct,Bool.and_eq_true] at ha
 obtain⟨hh,hpl,hrf⟩:=ha
 have F:=Ae6 h.kn hh hn hk
 simp only[Ba,Bool.and_eq_true,Db] at hpl
 obtain⟨hkd,hob,hky,hvl⟩:=hpl
 simp only[Eb,Bool.or_eq_false_iff,decide_eq_false_iff_not,Nat.not_lt] at ht
 obtain⟨ht1,ht2,ht3⟩:=ht
 have hd:=F.dot
 simp only[Gi,Bool.and_eq_true] at hd
 have htime:inB a.time 1 10000=true:=by
  simp only[Dm,Bool.and_eq_true] at hh;exact hh.2.2.2
 have L1:∀ x∈s.lives,B9 (s.know.set a.dot.rep.toNat a.dot.seq) x.dot=true∧liv1 x=true:=fun x hx=>⟨F.mono _ (h.l1 x hx).1,(h.l1 x hx).2⟩
 have C1:∀ x∈s.cells,B9 (s.know.set a.dot.rep.toNat a.dot.seq) x.dot=true∧cel1 x=true:=fun x hx=>⟨F.mono _ (h.c1 x hx).1,(h.c1 x hx).2⟩
 have hval:Wm a.kind=true→0≤a.val∧a.val≤999999:=fun hv=>by
  simp only[Lp,Bool.or_eq_true,Bool.and_eq_true,beq_iff_eq,Db] at hvl
  rcases hvl with h|h
  ·omega
  ·exact h.2
 have hkeyed:A19 a.kind=true→Cu a.key=true:=fun hk=>by rw[if_pos hk] at hky;exact hky
 revert ht1 ht2 ht3
 unfold Hh C9
 repeat' split
 all_goals intro ht1 ht2 ht3
 ·rename_i hkind
  have T:=A9h (obj:=a.obj) (rep:=a.dot.rep) (val:=a.val) h.tl h.t1 hob hd.1 (hval (by rw[hkind];rfl))
  exact {kn:=F.kn,tl:=T.1,t1:=T.2,tn:=ht1,ll:=h.ll,l1:=L1,ln:=h.ln,cl:=h.cl,c1:=C1,cn:=h.cn,rf:=h.rf}
 ·rename_i _ hkind
  have T:=Wz (x:=⟨false,a.obj,a.key,0,a.dot⟩) h.ll h.l1 F.mono F.new ⟨F.self,by simp only[liv1,Bool.and_eq_true];exact⟨hob,hkeyed (by rw[hkind];rfl),by decide,by simp⟩⟩
  exact {kn:=F.kn,tl:=h.tl,t1:=h.t1,tn:=h.tn,ll:=T.1,l1:=T.2,ln:=ht2,cl:=h.cl,c1:=C1,cn:=h.cn,rf:=h.rf}
 ·exact {kn:=F.kn,tl:=h.tl,t1:=h.t1,tn:=h.tn,ll:=h.ll.filter _,l1:=fun x hx=>L1 x (List.mem_filter.1 hx).1,ln:=ht2,cl:=h.cl,c1:=C1,cn:=h.cn,rf:=h.rf}
 ·rename_i _ _ _ hkind
  have T:=Wz (l:=s.lives.filter (Jt true a.obj a.key a.knew)) (x:=⟨true,a.obj,a.key,a.val,a.dot⟩) (h.ll.filter _) (fun y hy=>h.l1 y (List.mem_filter.1 hy).1) F.mono F.new ⟨F.self,by simp only[liv1,Bool.and_eq_true];exact⟨hob,hkeyed (by rw[hkind];rfl),Db.2 (hval (by rw[hkind];rfl)),by simp⟩⟩
  exact {kn:=F.kn,tl:=h.tl,t1:=h.t1,tn:=h.tn,ll:=T.1,l1:=T.2,ln:=ht2,cl:=h.cl,c1:=C1,cn:=h.cn,rf:=h.rf}
 ·exact {kn:=F.kn,tl:=h.tl,t1:=h.t1,tn:=h.tn,ll:=h.ll.filter _,l1:=fun x hx=>L1 x (List.mem_filter.1 hx).1,ln:=ht2,cl:=h.cl,c1:=C1,cn:=h.cn,rf:=h.rf}
 ·rename_i _ _ _ _ _ hkind
  have T:=A7j (x:=⟨a.obj,a.dot,a.time,a.ref,a.val,false⟩) h.cl h.c1 F.mono F.new ⟨F.self,by simp only[cel1,Bool.and_eq_true];exact⟨hob,Db.2 (hval (by rw[hkind];rfl)),htime⟩⟩
  refine {kn:=F.kn,tl:=h.tl,t1:=h.t1,tn:=h.tn,ll:=h.ll,l1:=L1,ln:=h.ln,cl:=T.1,c1:=T.2,cn:=ht3,rf:=fun c hc=> ?_}
  rcases Jc.1 hc with rfl|hc
  ·by_cases hz:a.ref=d0
   ·exact .inl hz
   ·right
    unfold Fl at hr
    rw[if_pos (.inr ⟨hkind,hz⟩)] at hr
    split at hr
    ·rename_i k hkx
     obtain⟨hkl,e⟩:=Bi hkx
     rw[Bs hkl] at hr
     simp only[Bool.and_eq_true,Bool.or_eq_true,decide_eq_true_eq] at hr
     exact⟨s.cells[k],Jc.2 (.inr (List.getElem_mem hkl)),e,hr.1,hr.2.resolve_left (by omega)⟩
    ·cases hr
  ·rcases h.rf c hc with hz|⟨y,hy,e⟩
   ·exact .inl hz
   ·exact .inr ⟨y,Jc.2 (.inr hy),e⟩
 ·have hdots:(Gb s.cells a.ref).Pairwise fun a b=>Au a.dot b.dot=true:=by
   have h2:(s.cells.map (·.dot)).Pairwise fun a b=>Au a b=true:=List.pairwise_map.2 h.cl
   rw[← Tk s.cells a.ref] at h2
   exact List.pairwise_map.1 h2
  refine {kn:=F.kn,tl:=h.tl,t1:=h.t1,tn:=h.tn,ll:=h.ll,l1:=L1,ln:=h.ln,cl:=hdots,c1:=fun x hx=> ?_,cn:=by rw[A7l];exact h.cn,rf:=fun c hc=> ?_}
  ·obtain⟨y,hy,e⟩:=X0 hx
   rcases e with rfl|rfl
   ·exact C1 x hy
   ·exact C1 y hy
  ·obtain⟨y,hy,e⟩:=X0 hc
   have key:∀ r,(r=d0∨∃ z∈s.cells,z.dot=r∧z.obj=y.obj∧z.time<y.time)→r=d0∨∃ z∈Gb s.cells a.ref,z.dot=r∧z.obj=y.obj∧z.time<y.time:=fun r hr=>hr.imp id fun⟨z,hz,q1,q2,q3⟩=>by
    obtain⟨x,hx,e⟩:=A7k (d:=a.ref) hz
    rcases e with rfl|rfl
    ·exact⟨x,hx,q1,q2,q3⟩
    ·exact⟨_,hx,q1,q2,q3⟩
   have:=key _ (h.rf y hy)
   rcases e with rfl|rfl
   ·exact this
   ·exact this
theorem Ab3 {s:State} (a:Act) (h:OkS s):OkS (Be s a).1:=by
 unfold Be
 split
 ·exact h
 ·rename_i h1
  have h1:B7 s=true∧Ct a=true:=by simpa using h1
  split
  ·exact h
  ·rename_i h2
   split
   ·exact h
   ·rename_i h3
    split
    ·exact h
    ·rename_i h4
     split
     ·exact h
     ·rename_i h5
      exact Ab2 h h1.2 (by simpa using h2) (by simpa using h3) (by simpa using h4) (by simpa using h5)
theorem Nh {s:ByteArray} (h:Cu s=true):s.size≤8:=by
 simp only[Cu,Bool.and_eq_true,Db] at h
 omega
theorem A4w {α:Type} {f:α→Nat} {l:List α} {n:Nat} (h:∀ x∈l,f x≤n):sumL f l≤l.length*n:=by
 induction l with
 |nil=>simp[sumL]
 |cons x l ih=>
  have h1:=h x List.mem_cons_self
  have h2:=ih fun y hy=>h y (List.mem_cons_of_mem _ hy)
  have:sumL f (x::l)=f x+sumL f l:=by simp[sumL]
  rw[this,List.length_cons,Nat.add_mul];omega
theorem OkS.ms {s:State} (h:OkS s):Ac s≤5000:=by
 have k:=Gv h.kn
 have a1:=A4w (f:=By) (l:=s.tallies) (n:=8) fun t ht=>by
  have:=h.t1 t ht
  simp only[tal1,Bool.and_eq_true] at this
  exact Nh this.1
 have a2:=A4w (f:=D7) (l:=s.lives) (n:=16) fun t ht=>by
  have:=(h.l1 t ht).2
  simp only[liv1,Bool.and_eq_true] at this
  have h1:=Nh this.1
  have h2:=Nh this.2.1
  unfold D7;omega
 have a3:=A4w (f:=E2) (l:=s.cells) (n:=8) fun t ht=>by
  have:=(h.c1 t ht).2
  simp only[cel1,Bool.and_eq_true] at this
  exact Nh this.1
 have:=h.tn
 have:=h.ln
 have:=h.cn
 unfold Ac
 omega
theorem OkS.time {s:State} (h:OkS s):∀ c∈s.cells,1≤c.time∧c.time≤10000:=fun c hc=>by
 have:=(h.c1 c hc).2
 simp only[cel1,Bool.and_eq_true,Db] at this
 exact this.2.2
end
section
open Go Go.RowKit
theorem A9j {sc:List Cell}:∀(f:Nat) {d:Dot},Adq sc f d→∀ x∈sc,x.ref=d→x∈rowF sc f d
 |0,d,h,x,hx,e=>absurd e (h x hx)
 |f+1,d,h,x,hx,e=>by
  rw[rowF,List.mem_flatMap]
  exact⟨x,List.mem_filter.2 ⟨hx,by simp[Ce,e]⟩,List.mem_cons_self⟩
theorem Ac1 {sc:List Cell}:∀(f:Nat) {d:Dot},Adq sc f d→∀ y∈rowF sc f d,∀ x∈sc,x.ref=y.dot→x∈rowF sc f d
 |0,d,h,y,hy,x,hx,e=>by simp[rowF] at hy
 |f+1,d,h,y,hy,x,hx,e=>by
  rw[rowF,List.mem_flatMap] at hy ⊢
  obtain⟨c,hc,hy⟩:=hy
  obtain⟨hc1,hc2⟩:=List.mem_filter.1 hc
  have hA:Adq sc f c.dot:=h c hc1 (by simpa [Ce] using hc2)
  refine⟨c,hc,List.mem_cons_of_mem _ ?_⟩
  rcases List.mem_cons.1 hy with rfl|hy
  ·exact A9j f hA x hx e
  ·exact Ac1 f hA y hy x hx e
theorem Ab4 {s:State} {o:ByteArray} (h:CelR s.cells) {c:Cell} (hc:c∈s.cells) (ho:c.obj=o):c∈rowC s o:=by
 obtain⟨hA,_⟩:=Yw h o
 have key:∀(n:Nat) (c:Cell),c∈s.cells→c.obj=o→c.time≤n→c∈rowC s o:=by
  intro n
  induction n with
  |zero=>intro c hc _ hn;have:=(h.time c hc).1;omega
  |succ n ih=>
   intro c hc ho hn
   have hm:c∈objC s.cells o:=Lh.2 ⟨hc,ho⟩
   rcases h.ref c hc with e|⟨y,hy,e1,e2,e3⟩
   ·exact A9j _ hA c hm e
   ·exact Ac1 _ hA y (ih y hy (e2.trans ho) (by omega)) c hm e1.symm
 exact key c.time.toNat c hc ho (by have:=(h.time c hc).1;omega)
def plN (d:Dot):List Cell→Nat→Int
 |[],_=> -1
 |c::r,n=>if c.gone then plN d r n else if c.dot=d then(n:Int) else plN d r (n+1)
theorem A9k (d:Dot):∀(l:List Cell) (n:Nat),plN d l n=match (l.filter Cq).findIdx? (fun c=>decide (c.dot=d)) with
  |some k=>((n+k:Nat):Int)
  |none=> -1
 |[],_=>rfl
 |c::r,n=>by
  unfold plN
  cases hg:c.gone with
  |true=>
   have:(c::r).filter Cq=r.filter Cq:=by rw[List.filter_cons,if_neg (by simp[Cq,hg])]
   rw[this,if_pos rfl];exact A9k d r n
  |false=>
   have:(c::r).filter Cq=c::r.filter Cq:=by rw[List.filter_cons,if_pos (by simp[Cq,hg])]
   rw[this,if_neg (by simp),List.findIdx?_cons]
   by_cases hd:c.dot=d
   ·rw[if_pos hd,if_pos (by simp[hd])];rfl
   ·rw[if_neg hd,if_neg (by simp[hd]),A9k d r (n+1)]
    cases(r.filter Cq).findIdx? (fun c=>decide (c.dot=d)) with
    |none=>rfl
    |some k=>show((n+1+k:Nat):Int)=((n+(k+1):Nat):Int);omega
theorem A4x {d:Dot}:∀ {l:List Cell} {n:Nat},0≤plN d l n↔∃ c∈l,c.gone=false∧c.dot=d
 |[],n=>by simp[plN]
 |c::r,n=>by
  unfold plN
  cases hg:c.gone with
  |true=>rw[if_pos rfl,A4x];simp[hg]
  |false=>
   rw[if_neg (by simp)]
   by_cases hd:c.dot=d
   ·rw[if_pos hd];simp[hg,hd]
   ·rw[if_neg hd,A4x];simp[hd]
theorem A9l {s:State} {o:ByteArray} {d:Dot} (h:B7 s=true) {k:Nat} (hk:Cj s.cells d=some k) (hkl:k<s.cells.length) (ho:s.cells[k].obj=o):(0≤plN d (rowC s o) 0)↔s.cells[k].gone=false:=by
 rw[A4x]
 constructor
 ·rintro⟨c,hc,hg,hd⟩
  obtain⟨k',hk',e1,e2⟩:=A1c h hc
  rw[hd,hk] at e1
  cases e1
  rw[e2];exact hg
 ·intro hg
  exact⟨_,Ab4 (Kp h) (List.getElem_mem hkl) ho,hg,(Bi hk).2⟩
def hasK (l:List ByteArray) (k:ByteArray):Bool:=l.any fun x=>decide (x=k)
def Hd (was now:List Int) (a:Act):List Edit×Bool:=if 1<was.length then([],false) else if was=now then([],true) else match was with
 |[]=>([⟨5,a.obj,a.key,0,0⟩],true)
 |x::_=>([⟨4,a.obj,a.key,x,0⟩],true)
def A9m (s:State) (d:Dot):Int:=match Cj s.cells d with
 |some k=>(s.cells[k]?.map (·.val)).getD 0
 |none=>0
def Bj (s t:State) (a:Act):List Edit×Bool:=
 if a.kind=1 then(if 0<a.val then([⟨1,a.obj,noS,1000000 - a.val,0⟩],true) else([],true))
 else if a.kind=2 then(if hasK (Dn s false a.obj) a.key then([],true) else([⟨3,a.obj,a.key,0,0⟩],true))
 else if a.kind=3 then(if hasK (Dn s false a.obj) a.key&& !hasK (Dn t false a.obj) a.key then([⟨2,a.obj,a.key,0,0⟩],true) else([],true))
 else if a.kind=4∨a.kind=5 then Hd (Ig s a.obj a.key) (Ig t a.obj a.key) a
 else if a.kind=6 then([⟨7,a.obj,noS,0,plN a.dot (rowC t a.obj) 0⟩],true)
 else if 0≤plN a.ref (rowC s a.obj) 0 then([⟨6,a.obj,noS,A9m s a.ref,plN a.ref (rowC s a.obj) 0⟩],true) else([],true)
def Im (s:State) (a:Act):List Edit×Bool:=if(Be s a).2≠0 then([],false) else Bj s (Be s a).1 a
theorem A68 {s:State} {a:Act} (h:(Be s a).2=0):B7 s=true∧B7 (Be s a).1=true∧Ct a=true∧Fl s a=true:=by
 have h0:=h
 unfold Be at h
 split at h
 ·cases h
 ·rename_i h1
  have h1:B7 s=true∧Ct a=true:=by simpa using h1
  split at h
  ·cases h
  ·split at h
   ·cases h
   ·split at h
    ·cases h
    ·rename_i h4
     exact⟨h1.1,Z9.2 (Ab3 a (Z9.1 h1.1)),h1.2,by simpa using h4⟩
theorem A9n {a:Act} (h:Ct a=true) (hk:a.kind=1∨a.kind=6∨a.kind=7):a.key=noS:=by
 simp only[Ct,Ba,Bool.and_eq_true] at h
 have h1:=h.2.1.2.2.1
 have hn:A19 a.kind=false:=by
  rcases hk with e|e|e<;>rw[e]<;>decide
 rw[hn,if_neg (by simp)] at h1
 exact of_decide_eq_true h1
theorem A9o {a:Act} (h:Ct a=true):1≤a.kind∧a.kind≤7:=by
 simp only[Ct,Ba,Bool.and_eq_true] at h
 exact Db.1 h.2.1.1
theorem Ac2 {a:Act} (h:Ct a=true):0≤a.val∧a.val≤999999:=by
 simp only[Ct,Ba,Bool.and_eq_true] at h
 have h1:=h.2.1.2.2.2
 simp only[Lp,Bool.or_eq_true,Bool.and_eq_true] at h1
 rcases h1 with h1|h1
 ·have:a.val=0:=by simpa using h1
  omega
 ·exact Db.1 h1.2
theorem Ac3 {s:State} {a:Act} (h:Fl s a=true) (hk:a.kind=7):∃ k,∃ hkl:k<s.cells.length,Cj s.cells a.ref=some k∧s.cells[k].obj=a.obj:=by
 unfold Fl at h
 rw[if_pos (.inl hk)] at h
 split at h
 ·rename_i k hx
  obtain⟨hkl,_⟩:=Bi hx
  rw[Bs hkl] at h
  simp only[Bool.and_eq_true,decide_eq_true_eq] at h
  exact⟨k,hkl,hx,h.1⟩
 ·cases h
end
namespace O
open Go Go.RowKit Go.Proofs.YtbeoiejnogdkpaaGreat.Sy Go.Sort
variable {α:Type} [Inhabited α] {lt:α→α→Bool} {σ0 σ:St} {rs:List Thg} {k:Nat} {v:GV} {d:Array α}
theorem ins_ret (S:SrtO α lt) (H:Holds S.e σ0 σ rs k v d) {a b:Nat} (hab:a≤b) (hb:b≤d.size) (hs:d.size≤1099511627776):∃ τ,Ret Tryz.prog S.q.insertionSort [v,gi a,gi b] σ (.tup []) τ∧Holds S.e σ0 τ rs k v (insertionSort lt d a b):=by
 have key:∃ r τ,Ret Tryz.prog S.q.insertionSort [v,gi a,gi b] σ r τ∧r= .tup []∧Holds S.e σ0 τ rs k v (insertionSort lt d a b):=by
  refine Ao S.h_insertionSort (Z0z rfl) ?_
  simp +contextual (disch:=omega) only[go_sem,Ik]
  refine C5 (fun n env τ=>∃(i:Nat) (D:Array α),env 0=v∧env 1=gi a∧env 2=gi b∧env 6=gi i∧b - i=n∧a<i∧D.size=d.size∧σ.length≤τ.length∧Holds S.e σ0 τ rs k v D∧insOuter lt a b i D=insertionSort lt d a b) (b - (a+1)) ⟨a+1,d,rfl,rfl,rfl,rfl,rfl,by omega,rfl,Nat.le_refl _,H,rfl⟩ ?_
  rintro J hJ n env τ ⟨i,D,e0,e1,e2,ei,hn,hai,hD,hle,hH,hE⟩
  rw[insOuter] at hE
  rcases Nat.lt_or_ge i b with hi|hi
  ·rw[if_pos hi] at hE
   have c0:decide ((i:Int)<b)=true:=by simp;omega
   simp +contextual (disch:=omega) only[go_sem,e0,e1,e2,ei,c0]
   refine C5 (fun n env τ=>∃(j:Nat) (E:Array α),env 0=v∧env 1=gi a∧env 2=gi b∧env 6=gi i∧env 7=gi j∧j=n∧j≤i∧E.size=d.size∧σ.length≤τ.length∧Holds S.e σ0 τ rs k v E∧insInner lt a j E=insInner lt a i D) i ⟨i,D,by simp +contextual (disch:=omega) only[go_sem,e0],by simp +contextual (disch:=omega) only[go_sem,e1],by simp +contextual (disch:=omega) only[go_sem,e2],by simp +contextual (disch:=omega) only[go_sem,ei],rfl,rfl,Nat.le_refl _,hD,hle,hH,rfl⟩ ?_
   clear hH hle e0 e1 e2 ei
   rintro J2 hJ2 n2 env τ ⟨j,E,e0,e1,e2,ei,ej,hnj,hji,hE2,hle,hH,hI⟩
   have fin:∀ env',env' 0=v→env' 1=gi a→env' 2=gi b→env' 6=gi ((i:Int)+1)→insInner lt a i D=E→∃ k',k'<n∧J k' env' τ:=fun env' h0 h1 h2 h6 hEq=>⟨b - (i+1),by omega,hJ _ _ _ ⟨i+1,E,h0,h1,h2,h6,rfl,by omega,hE2,hle,hH,by rw[← hEq];exact hE⟩⟩
   have cj:decide ((a:Int)<j)=decide (a<j):=by simp
   by_cases hc:a<j
   ·obtain⟨m,rfl⟩:∃ m,j=m+1:=⟨j - 1,by omega⟩
    rw[decide_eq_true hc] at cj
    have cj:decide ((a:Int)<(m:Int)+1)=true:=cj
    have n1:Ax (some (.int .i64 ((m:Int)+1)))=some (m+1):=Bb (by simp)
    have m1:(m:Int)+1 - 1=m:=by omega
    obtain⟨τ1,τ2,s1,s2,hH2,hl2⟩:=hH.sw (a:=m+1) (b:=m) (by omega) (by omega)
    rw[insInner] at hI
    simp +contextual (disch:=omega) only[go_sem,e0,e1,e2,ei,ej,cj,n1,m1,A2,hH.iad (j:=m+1) (by omega),hH.ld (j:=m+1) (by omega),hH.iad (j:=m) (by omega),hH.ld (j:=m) (by omega)]
    refine A7 (S.call _ _ _) ?_
    cases hl:lt E[m+1]! E[m]! with
    |true=>
     rw[if_pos (by simp[hl];omega)] at hI
     simp +contextual (disch:=omega) only[go_sem,e0,e1,e2,ei,ej,cj,n1,m1,A2,hl,hH.iad (j:=m+1) (by omega),hH.ld (j:=m+1) (by omega),hH.iad (j:=m) (by omega),hH.ld (j:=m) (by omega),s1,s2]
     refine⟨m,by omega,hJ2 _ _ _ ⟨m,swp E (m+1) m,?_,?_,?_,?_,?_,rfl,by omega,by rw[Go.Sort.swp_size];exact hE2,by omega,hH2,hI⟩⟩
     all_goals simp +contextual (disch:=omega) only[go_sem,e0,e1,e2,ei,ej,m1]
    |false=>
     rw[if_neg (by simp[hl])] at hI
     simp +contextual (disch:=omega) only[go_sem,e0,e1,e2,ei,ej,cj,hl,]
     refine fin _ ?_ ?_ ?_ ?_ hI.symm
     all_goals simp +contextual (disch:=omega) only[go_sem,e0,e1,e2,ei]
   ·rw[decide_eq_false hc] at cj
    have hI:insInner lt a i D=E:=by
     rw[← hI]
     cases j with
     |zero=>rfl
     |succ j=>rw[insInner,if_neg (by simp;intro h;omega)]
    simp +contextual (disch:=omega) only[go_sem,e0,e1,e2,ei,ej,cj]
    refine fin _ ?_ ?_ ?_ ?_ hI
    all_goals simp +contextual (disch:=omega) only[go_sem,e0,e1,e2,ei]
  ·rw[if_neg (by omega)] at hE
   have c0:decide ((i:Int)<b)=false:=by simp;omega
   simp +contextual (disch:=omega) only[go_sem,e0,e1,e2,ei,c0]
   exact⟨_,rfl,hle,rfl,by rw[← hE];exact hH⟩
 obtain⟨r,τ,R,rfl,h⟩:=key
 exact⟨τ,R,h⟩
end O
namespace O
open Go Go.RowKit Go.Proofs.YtbeoiejnogdkpaaGreat.Sy Go.Sort
variable {α:Type} [Inhabited α] {lt:α→α→Bool} {σ0 σ:St} {rs:List Thg} {k:Nat} {v:GV} {d:Array α}
theorem siftDown_size (lt:α→α→Bool) (hi F:Nat):∀(n root:Nat) (d:Array α),hi - root≤n→(siftDown lt hi F root d).size=d.size
 |0,root,d,h=>by rw[siftDown,dif_pos (by omega)]
 |n+1,root,d,h=>by
  rw[siftDown]
  split
  ·rfl
  ·split
   ·split
    ·rfl
    ·split
     ·rw[siftDown_size lt hi F n _ _ (by omega),Go.Sort.swp_size]
     ·rfl
   ·split
    ·rfl
    ·rw[siftDown_size lt hi F n _ _ (by omega),Go.Sort.swp_size]
theorem sift_ret (S:SrtO α lt) (H:Holds S.e σ0 σ rs k v d) {lo hi F:Nat} (hb:F+hi≤d.size) (hlo:lo≤d.size) (hs:d.size≤1099511627776):∃ τ,Ret Tryz.prog S.q.siftDown [v,gi lo,gi hi,gi F] σ (.tup []) τ∧Holds S.e σ0 τ rs k v (siftDown lt hi F lo d):=by
 have key:∃ r τ,Ret Tryz.prog S.q.siftDown [v,gi lo,gi hi,gi F] σ r τ∧r= .tup []∧Holds S.e σ0 τ rs k v (siftDown lt hi F lo d):=by
  refine Ao S.h_siftDown (Z0z rfl) ?_
  simp +contextual (disch:=omega) only[go_sem,Po]
  refine C5 (fun n env τ=>∃(r:Nat) (D:Array α),env 0=v∧env 1=gi lo∧env 2=gi hi∧env 3=gi F∧env 8=gi r∧hi - r=n∧r≤d.size∧D.size=d.size∧σ.length≤τ.length∧Holds S.e σ0 τ rs k v D∧siftDown lt hi F r D=siftDown lt hi F lo d) (hi - lo) ⟨lo,d,rfl,rfl,rfl,rfl,rfl,rfl,hlo,rfl,Nat.le_refl _,H,rfl⟩ ?_
  rintro J hJ n env τ ⟨r,D,e0,e1,e2,e3,er,hn,hr,hD,hle,hH,hE⟩
  rw[siftDown] at hE
  have w2:IntKind.i64.wrap (2*(r:Int))=2*(r:Int):=Bl (by omega) (by omega)
  by_cases h1:2*r+1≥hi
  ·rw[dif_pos h1] at hE
   have c1:decide ((hi:Int)≤2*(r:Int)+1)=true:=by simp;omega
   simp +contextual (disch:=omega) only[go_sem,e0,e1,e2,e3,er,w2,c1]
   exact⟨_,rfl,hle,rfl,by rw[← hE];exact hH⟩
  ·rw[dif_neg h1] at hE
   have c1:decide ((hi:Int)≤2*(r:Int)+1)=false:=by simp;omega
   have nr:Ax (some (.int .i64 ((F:Int)+r)))=some (F+r):=Bb (by simp)
   have ir:=hH.iad (j:=F+r) (by omega)
   have lr:=hH.ld (j:=F+r) (by omega)
   by_cases hA:2*r+2<hi
   ·have cA:decide (2*(r:Int)+1+1<hi)=true:=by simp;omega
    have nc:Ax (some (.int .i64 ((F:Int)+(2*(r:Int)+1))))=some (F+(2*r+1)):=Bb (by simp)
    have nc2:Ax (some (.int .i64 ((F:Int)+(2*(r:Int)+1)+1)))=some (F+(2*r+1)+1):=Bb (by simp)
    have ic:=hH.iad (j:=F+(2*r+1)) (by omega)
    have lc:=hH.ld (j:=F+(2*r+1)) (by omega)
    have ic2:=hH.iad (j:=F+(2*r+1)+1) (by omega)
    have lc2:=hH.ld (j:=F+(2*r+1)+1) (by omega)
    simp +contextual (disch:=omega) only[go_sem,e0,e1,e2,e3,er,w2,c1,cA,nc,nc2,ic,lc,ic2,lc2]
    refine A7 (S.call _ _ _) ?_
    cases hl1:lt D[F+(2*r+1)]! D[F+(2*r+1)+1]! with
    |true=>
     clear nc ic lc
     rw[if_pos (by simp[hl1];omega)] at hE
     rw[dif_pos hA] at hE
     obtain⟨c,hc⟩:∃ c,c=2*r+2:=⟨_,rfl⟩
     rw[← hc] at hE
     have ncI:2*(r:Int)+1+1=c:=by omega
     have nc:Ax (some (.int .i64 ((F:Int)+c)))=some (F+c):=Bb (by simp)
     have ic:=hH.iad (j:=F+c) (by omega)
     have lc:=hH.ld (j:=F+c) (by omega)
     simp +contextual (disch:=omega) only[go_sem,e0,e1,e2,e3,er,w2,cA,nr,nc,ncI,hl1,ir,lr,ic,lc]
     obtain⟨τ1,τ2,s1,s2,hH2,hl2⟩:=hH.sw (a:=F+r) (b:=F+c) (by omega) (by omega)
     refine A7 (S.call _ _ _) ?_
     cases hl:lt D[F+r]! D[F+c]! with
     |true=>
      rw[if_neg (by simp[hl])] at hE
      simp +contextual (disch:=omega) only[go_sem,e0,e1,e2,e3,er,w2,c1,cA,nr,nc,ncI,hl,ir,lr,ic,lc,s1,s2]
      refine⟨hi - c,by omega,hJ _ _ _ ⟨c,swp D (F+r) (F+c),?_,?_,?_,?_,?_,rfl,by omega,by rw[Go.Sort.swp_size];exact hD,by omega,hH2,hE⟩⟩
      all_goals simp +contextual (disch:=omega) only[go_sem,e0,e1,e2,e3,er,ncI]
     |false=>
      rw[if_pos (by simp[hl])] at hE
      simp +contextual (disch:=omega) only[go_sem,e0,e1,e2,e3,er,hl]
      exact⟨_,rfl,hle,rfl,by rw[← hE];exact hH⟩
    |false=>
     rw[if_neg (by simp[hl1])] at hE
     obtain⟨c,hc⟩:∃ c,c=2*r+1:=⟨_,rfl⟩
     rw[← hc] at hE ic lc
     have ncI:2*(r:Int)+1=c:=by omega
     rw[← hc,ncI] at nc
     simp +contextual (disch:=omega) only[go_sem,e0,e1,e2,e3,er,w2,cA,nr,nc,ncI,hl1,ir,lr,ic,lc]
     obtain⟨τ1,τ2,s1,s2,hH2,hl2⟩:=hH.sw (a:=F+r) (b:=F+c) (by omega) (by omega)
     refine A7 (S.call _ _ _) ?_
     cases hl:lt D[F+r]! D[F+c]! with
     |true=>
      rw[if_neg (by simp[hl])] at hE
      simp +contextual (disch:=omega) only[go_sem,e0,e1,e2,e3,er,w2,c1,cA,nr,nc,ncI,hl,ir,lr,ic,lc,s1,s2]
      refine⟨hi - c,by omega,hJ _ _ _ ⟨c,swp D (F+r) (F+c),?_,?_,?_,?_,?_,rfl,by omega,by rw[Go.Sort.swp_size];exact hD,by omega,hH2,hE⟩⟩
      all_goals simp +contextual (disch:=omega) only[go_sem,e0,e1,e2,e3,er,ncI]
     |false=>
      rw[if_pos (by simp[hl])] at hE
      simp +contextual (disch:=omega) only[go_sem,e0,e1,e2,e3,er,hl]
      exact⟨_,rfl,hle,rfl,by rw[← hE];exact hH⟩
   ·have cA:decide (2*(r:Int)+1+1<hi)=false:=by simp;omega
    rw[if_neg (by simp;intro h;omega)] at hE
    obtain⟨c,hc⟩:∃ c,c=2*r+1:=⟨_,rfl⟩
    rw[← hc] at hE
    have ncI:2*(r:Int)+1=c:=by omega
    have nc:Ax (some (.int .i64 ((F:Int)+c)))=some (F+c):=Bb (by simp)
    have ic:=hH.iad (j:=F+c) (by omega)
    have lc:=hH.ld (j:=F+c) (by omega)
    rw[ncI] at c1 cA
    simp +contextual (disch:=omega) only[go_sem,e0,e1,e2,e3,er,w2,c1,cA,nr,nc,ncI,ir,lr,ic,lc]
    obtain⟨τ1,τ2,s1,s2,hH2,hl2⟩:=hH.sw (a:=F+r) (b:=F+c) (by omega) (by omega)
    refine A7 (S.call _ _ _) ?_
    cases hl:lt D[F+r]! D[F+c]! with
    |true=>
     rw[if_neg (by simp[hl])] at hE
     simp +contextual (disch:=omega) only[go_sem,e0,e1,e2,e3,er,w2,c1,cA,nr,nc,ncI,hl,ir,lr,ic,lc,s1,s2]
     refine⟨hi - c,by omega,hJ _ _ _ ⟨c,swp D (F+r) (F+c),?_,?_,?_,?_,?_,rfl,by omega,by rw[Go.Sort.swp_size];exact hD,by omega,hH2,hE⟩⟩
     all_goals simp +contextual (disch:=omega) only[go_sem,e0,e1,e2,e3,er,ncI]
    |false=>
     rw[if_pos (by simp[hl])] at hE
     simp +contextual (disch:=omega) only[go_sem,e0,e1,e2,e3,er,hl]
     exact⟨_,rfl,hle,rfl,by rw[← hE];exact hH⟩
 obtain⟨r,τ,R,rfl,h⟩:=key
 exact⟨τ,R,h⟩
theorem heap_ret (S:SrtO α lt) (H:Holds S.e σ0 σ rs k v d) {a b:Nat} (hab:a≤b) (hb:b≤d.size) (hs:d.size≤1099511627776):∃ τ,Ret Tryz.prog S.q.heapSort [v,gi a,gi b] σ (.tup []) τ∧Holds S.e σ0 τ rs k v (heapSort lt d a b):=by
 have key:∃ r τ,Ret Tryz.prog S.q.heapSort [v,gi a,gi b] σ r τ∧r= .tup []∧Holds S.e σ0 τ rs k v (heapSort lt d a b):=by
  refine Ao S.h_heapSort (Z0z rfl) ?_
  obtain⟨h,hh⟩:∃ h,h=b - a:=⟨_,rfl⟩
  have hI:(b:Int) - a=h:=by omega
  have hq:((h:Int) - 1).tdiv 2=(((h - 1) / 2+1:Nat):Int) - 1:=by
   rcases Nat.eq_zero_or_pos h with rfl|hp
   ·rfl
   ·have:(h:Int) - 1=((h - 1:Nat):Int):=by omega
    rw[this]
    have h2:((h - 1:Nat):Int).tdiv 2=(((h - 1) / 2:Nat):Int):=rfl
    rw[h2];omega
  obtain⟨M,hM⟩:∃ M,M=(h - 1) / 2+1:=⟨_,rfl⟩
  rw[← hM] at hq
  have hE:heapSort lt d a b=heapPop lt a h (heapBuild lt h a M d):=by rw[heapSort,hM,hh]
  rw[hE]
  simp +contextual (disch:=omega) only[go_sem,Pm,hI,hq]
  refine C5 (fun n env τ=>∃(m:Nat) (D:Array α),env 0=v∧env 1=gi a∧env 2=gi b∧env 6=gi a∧env 7=gi 0∧env 8=gi h∧env 9=gi ((m:Int) - 1)∧m=n∧m≤M∧D.size=d.size∧σ.length≤τ.length∧Holds S.e σ0 τ rs k v D∧heapBuild lt h a m D=heapBuild lt h a M d) M ⟨M,d,rfl,rfl,rfl,rfl,rfl,rfl,rfl,rfl,Nat.le_refl _,rfl,Nat.le_refl _,H,rfl⟩ ?_
  rintro J hJ n env τ ⟨m,D,e0,e1,e2,e6,e7,e8,e9,hn,hm,hD,hle,hH,hE⟩
  cases m with
  |succ j=>
   have e9:env 9=gi (j:Int):=by rw[e9];congr 1;omega
   have c0:decide ((0:Int)≤j)=true:=by simp
   rw[heapBuild] at hE
   simp +contextual (disch:=omega) only[go_sem,e0,e1,e2,e6,e7,e8,e9,c0]
   obtain⟨τ1,R,hH1⟩:=sift_ret S hH (lo:=j) (hi:=h) (F:=a) (by omega) (by omega) (by omega)
   have hl1:=R.2.1
   refine Aj R ?_
   simp +contextual (disch:=omega) only[go_sem,e0,e1,e2,e6,e7,e8,e9]
   refine⟨j,by omega,hJ _ _ _ ⟨j,_,?_,?_,?_,?_,?_,?_,?_,rfl,by omega,?_,by omega,hH1,hE⟩⟩
   all_goals first|(simp +contextual (disch:=omega) only[go_sem,e0,e1,e2,e6,e7,e8,e9];done)|(rw [siftDown_size lt h a _ _ _ (Nat.le_refl _)];exact hD)
  |zero=>
   have e9:env 9=gi (-1):=e9
   rw[heapBuild] at hE
   simp +contextual (disch:=omega) only[go_sem,e0,e1,e2,e6,e7,e8,e9]
   have c0:decide ((0:Int)≤ -1)=false:=rfl
   simp +contextual (disch:=omega) only[go_sem,e0,e1,e2,e6,e7,e8,e9,c0]
   refine C5 (fun n env τ=>∃(m:Nat) (E:Array α),env 0=v∧env 1=gi a∧env 2=gi b∧env 6=gi a∧env 7=gi 0∧env 8=gi h∧env 10=gi ((m:Int) - 1)∧m=n∧m≤h∧E.size=d.size∧σ.length≤τ.length∧Holds S.e σ0 τ rs k v E∧heapPop lt a m E=heapPop lt a h (heapBuild lt h a M d)) h ⟨h,D,by simp +contextual (disch:=omega) only[go_sem,e0],by simp +contextual (disch:=omega) only[go_sem,e1],by simp +contextual (disch:=omega) only[go_sem,e2],by simp +contextual (disch:=omega) only[go_sem,e6],by simp +contextual (disch:=omega) only[go_sem,e7],by simp +contextual (disch:=omega) only[go_sem,e8],rfl,rfl,Nat.le_refl _,hD,hle,hH,by rw[hE]⟩ ?_
   clear hH hle e0 e1 e2 e6 e7 e8 e9
   rintro J2 hJ2 n2 env τ ⟨m,E,e0,e1,e2,e6,e7,e8,e9,hn2,hm,hE2,hle,hH,hP⟩
   cases m with
   |succ j=>
    have e9:env 10=gi (j:Int):=by rw[e9];congr 1;omega
    have c0:decide ((0:Int)≤j)=true:=by simp
    rw[heapPop] at hP
    have nr:Ax (some (.int .i64 ((a:Int)+j)))=some (a+j):=Bb (by simp)
    obtain⟨τ1,τ2,s1,s2,hH2,hl2⟩:=hH.sw (a:=a) (b:=a+j) (by omega) (by omega)
    obtain⟨τ3,R,hH3⟩:=sift_ret S hH2 (lo:=0) (hi:=j) (F:=a) (by rw[Go.Sort.swp_size];omega) (by omega) (by rw[Go.Sort.swp_size];omega)
    have hl3:=R.2.1
    simp +contextual (disch:=omega) only[go_sem,e0,e1,e2,e6,e7,e8,e9,c0,nr,A2,hH.iad (j:=a) (by omega),hH.ld (j:=a) (by omega),hH.iad (j:=a+j) (by omega),hH.ld (j:=a+j) (by omega),s1,s2]
    refine Aj R ?_
    simp +contextual (disch:=omega) only[go_sem,e0,e1,e2,e6,e7,e8,e9]
    refine⟨j,by omega,hJ2 _ _ _ ⟨j,_,?_,?_,?_,?_,?_,?_,?_,rfl,by omega,?_,by omega,hH3,hP⟩⟩
    all_goals first|(simp +contextual (disch:=omega) only[go_sem,e0,e1,e2,e6,e7,e8,e9];done)|(rw [siftDown_size lt _ a _ _ _ (Nat.le_refl _),Go.Sort.swp_size];exact hE2)
   |zero=>
    have e9:env 10=gi (-1):=e9
    rw[heapPop] at hP
    simp +contextual (disch:=omega) only[go_sem,e0,e1,e2,e6,e7,e8,e9,c0]
    exact⟨_,rfl,hle,rfl,by rw[← hP];exact hH⟩
 obtain⟨r,τ,R,rfl,h⟩:=key
 exact⟨τ,R,h⟩
theorem rev_ret (S:SrtO α lt) (H:Holds S.e σ0 σ rs k v d) {a b:Nat} (hab:a<b) (hb:b≤d.size) (hs:d.size≤1099511627776):∃ τ,Ret Tryz.prog S.q.reverseRange [v,gi a,gi b] σ (.tup []) τ∧Holds S.e σ0 τ rs k v (reverseRange d a b):=by
 have key:∃ r τ,Ret Tryz.prog S.q.reverseRange [v,gi a,gi b] σ r τ∧r= .tup []∧Holds S.e σ0 τ rs k v (reverseRange d a b):=by
  refine Ao S.h_reverseRange (Z0z rfl) ?_
  have hbI:(b:Int) - 1=((b - 1:Nat):Int):=by omega
  obtain⟨h,hh⟩:∃ h,h=b - 1:=⟨_,rfl⟩
  have hE:reverseRange d a b=reverseLoop a h d:=by rw[reverseRange,hh]
  rw[hE]
  rw[← hh] at hbI
  simp +contextual (disch:=omega) only[go_sem,Jm,hbI]
  refine C5 (fun n env τ=>∃(i j:Nat) (D:Array α),env 0=v∧env 6=gi i∧env 7=gi j∧j - i=n∧a≤i∧i≤d.size∧j≤h∧D.size=d.size∧σ.length≤τ.length∧Holds S.e σ0 τ rs k v D∧reverseLoop i j D=reverseLoop a h d) (h - a) ⟨a,h,d,rfl,rfl,rfl,rfl,Nat.le_refl _,by omega,Nat.le_refl _,rfl,Nat.le_refl _,H,rfl⟩ ?_
  rintro J hJ n env τ ⟨i,j,D,e0,e6,e7,hn,hi,hi2,hj,hD,hle,hH,hE⟩
  rw[reverseLoop] at hE
  rcases Nat.lt_or_ge i j with hlt|hge
  ·rw[if_pos hlt] at hE
   have c0:decide ((i:Int)<j)=true:=by simp;omega
   obtain⟨τ1,τ2,s1,s2,hH2,hl2⟩:=hH.sw (a:=i) (b:=j) (by omega) (by omega)
   have j1:(j:Int) - 1=((j - 1:Nat):Int):=by omega
   simp +contextual (disch:=omega) only[go_sem,e0,e6,e7,c0,A2,hH.iad (j:=i) (by omega),hH.ld (j:=i) (by omega),hH.iad (j:=j) (by omega),hH.ld (j:=j) (by omega),s1,s2]
   refine⟨(j - 1) - (i+1),by omega,hJ _ _ _ ⟨i+1,j - 1,swp D i j,?_,?_,?_,rfl,by omega,by omega,by omega,by rw[Go.Sort.swp_size];exact hD,by omega,hH2,hE⟩⟩
   all_goals simp +contextual (disch:=omega) only[go_sem,e0,e6,e7,j1]
  ·rw[if_neg (by omega)] at hE
   have c0:decide ((i:Int)<j)=false:=by simp;omega
   simp +contextual (disch:=omega) only[go_sem,e0,e6,e7,c0]
   exact⟨_,rfl,hle,rfl,by rw[← hE];exact hH⟩
 obtain⟨r,τ,R,rfl,h⟩:=key
 exact⟨τ,R,h⟩
end O
namespace O
open Go Go.RowKit Go.Proofs.YtbeoiejnogdkpaaGreat.Sy Go.Sort
variable {α:Type} [Inhabited α] {lt:α→α→Bool} {σ0 σ:St} {rs:List Thg} {k:Nat} {v:GV} {d:Array α}
theorem pe_ret (S:SrtO α lt) (H:Holds S.e σ0 σ rs k v d) {a b p:Nat} (hab:a<b) (hp:p<b) (hb:b≤d.size) (hs:d.size≤1099511627776):∃ τ,Ret Tryz.prog S.q.partitionEqual [v,gi a,gi b,gi p] σ (gi (partitionEqual lt d a b p).1) τ∧Holds S.e σ0 τ rs k v (partitionEqual lt d a b p).2:=by
 have key:∃ r τ,Ret Tryz.prog S.q.partitionEqual [v,gi a,gi b,gi p] σ r τ∧r=gi (partitionEqual lt d a b p).1∧Holds S.e σ0 τ rs k v (partitionEqual lt d a b p).2:=by
  refine Ao S.h_partitionEqual (Z0z rfl) ?_
  obtain⟨τ1,τ2,s1,s2,hH,hl2⟩:=H.sw (a:=a) (b:=p) (by omega) (by omega)
  obtain⟨h,hh⟩:∃ h,h=b - 1:=⟨_,rfl⟩
  have hbI:(b:Int) - 1=h:=by omega
  have hsz:=Go.Sort.swp_size d a p
  rw[partitionEqual,←hh]
  obtain⟨D0,hD0⟩:∃ D0,D0=swp d a p:=⟨_,rfl⟩
  rw[← hD0] at hH hsz
  simp +contextual (disch:=omega) only[go_sem,Hz,hbI,A2,H.iad (j:=a) (by omega),H.ld (j:=a) (by omega),H.iad (j:=p) (by omega),H.ld (j:=p) (by omega),s1,s2]
  rw[← hD0]
  refine C5 (fun n env τ=>∃(i j:Nat) (D:Array α),env 0=v∧env 1=gi a∧env 9=gi i∧env 10=gi j∧j+1 - i=n∧1≤i∧i≤j+1∧j<b∧D.size=d.size∧σ.length≤τ.length∧Holds S.e σ0 τ rs k v D∧partEqLoop lt a i j D=partEqLoop lt a (a+1) h D0) (h+1 - (a+1)) ⟨a+1,h,D0,rfl,rfl,rfl,rfl,rfl,by omega,by omega,by omega,hsz,by omega,hH,rfl⟩ ?_
  clear hH
  rintro J hJ n env τ ⟨i,j,D,e0,e1,e9,e10,hn,hi,hij,hj,hD,hle,hH,hE⟩
  rw[partEqLoop_eq] at hE
  have ia:=hH.iad (j:=a) (by omega)
  have la:=hH.ld (j:=a) (by omega)
  simp +contextual (disch:=omega) only[go_sem]
  refine Cp (fun n env τ'=>∃(x:Nat),env 0=v∧env 1=gi a∧env 9=gi x∧env 10=gi j∧j+1 - x=n∧i≤x∧x≤j+1∧τ=τ'∧scanUp (fun x=> !lt D[a]! x) D j x=scanUp (fun x=> !lt D[a]! x) D j i) (j+1 - i) 2 (fun env τ'=>env 0=v∧env 1=gi a∧env 9=gi (scanUp (fun x=> !lt D[a]! x) D j i:Nat)∧env 10=gi j∧τ=τ') ⟨i,e0,e1,e9,e10,rfl,Nat.le_refl _,hij,rfl,rfl⟩ ?_ ?_
  ·clear e0 e1 e9 e10
   rintro J2 Y2 hJ2 hY2 n2 env τ' ⟨x,e0,e1,e9,e10,hn2,hx1,hx2,rfl,hU⟩
   rw[scanUp] at hU
   rcases Nat.lt_or_ge j x with hx|hx
   ·rw[if_neg (by simp;intro h;omega)] at hU
    have c0:decide ((x:Int)≤j)=false:=by simp;omega
    simp +contextual (disch:=omega) only[go_sem,e0,e1,e9,e10,c0]
    refine hY2 _ _ ⟨?_,?_,?_,?_,rfl⟩
    all_goals simp +contextual (disch:=omega) only[go_sem,e0,e1,e9,e10,hU]
   ·have c0:decide ((x:Int)≤j)=true:=by simp;omega
    simp +contextual (disch:=omega) only[go_sem,e0,e1,e9,e10,c0,A2,ia,la,hH.iad (j:=x) (by omega),hH.ld (j:=x) (by omega)]
    refine A7 (S.call _ _ _) ?_
    cases hl:lt D[a]! D[x]! with
    |true=>
     rw[if_neg (by simp[hl])] at hU
     simp +contextual (disch:=omega) only[go_sem,e0,e1,e9,e10,c0,hl]
     refine hY2 _ _ ⟨?_,?_,?_,?_,rfl⟩
     all_goals simp +contextual (disch:=omega) only[go_sem,e0,e1,e9,e10,hU]
    |false=>
     rw[if_pos (by simp[hl];omega)] at hU
     simp +contextual (disch:=omega) only[go_sem,e0,e1,e9,e10,c0,hl]
     refine⟨j+1 - (x+1),by omega,hJ2 _ _ _ ⟨x+1,?_,?_,?_,?_,rfl,by omega,by omega,rfl,hU⟩⟩
     all_goals simp +contextual (disch:=omega) only[go_sem,e0,e1,e9,e10]
  ·clear e0 e1 e9 e10
   rintro env τ' ⟨e0,e1,e9,e10,rfl⟩
   obtain⟨u1,u2,-,u4⟩:=scanUp_spec (fun x=> !lt D[a]! x) D j _ i rfl
   have u2:=u2 hij
   obtain⟨x,hx⟩:∃ x,x=scanUp (fun x=> !lt D[a]! x) D j i:=⟨_,rfl⟩
   rw[← hx] at hE e9 u1 u2 u4
   simp +contextual (disch:=omega) only[go_sem]
   refine Cp (fun n env τ'=>∃(y:Nat),env 0=v∧env 1=gi a∧env 9=gi x∧env 10=gi y∧y+1=n∧y≤j∧x≤y+1∧τ=τ'∧scanDown (fun x=>lt D[a]! x) D x y=scanDown (fun x=>lt D[a]! x) D x j) (j+1) 4 (fun env τ'=>env 0=v∧env 1=gi a∧env 9=gi x∧env 10=gi (scanDown (fun x=>lt D[a]! x) D x j:Nat)∧τ=τ'∧x≤scanDown (fun x=>lt D[a]! x) D x j+1) ⟨j,e0,e1,e9,e10,rfl,Nat.le_refl _,u2,rfl,rfl⟩ ?_ ?_
   ·clear e0 e1 e9 e10
    rintro J2 Y2 hJ2 hY2 n2 env τ' ⟨y,e0,e1,e9,e10,hn2,hy1,hy2,rfl,hU⟩
    rcases Nat.lt_or_ge y x with hlt|hge
    ·have hU:scanDown (fun x=>lt D[a]! x) D x j=y:=by
      rw[← hU]
      cases y with
      |zero=>rfl
      |succ y=>rw[scanDown,if_neg (by simp;intro h;omega)]
     have c0:decide ((x:Int)≤y)=false:=by simp;omega
     simp +contextual (disch:=omega) only[go_sem,e0,e1,e9,e10,c0]
     refine hY2 _ _ ⟨?_,?_,?_,?_,rfl,by omega⟩
     all_goals simp +contextual (disch:=omega) only[go_sem,e0,e1,e9,e10,hU]
    ·have c0:decide ((x:Int)≤y)=true:=by simp;omega
     obtain⟨z,rfl⟩:∃ z,y=z+1:=⟨y - 1,by omega⟩
     rw[scanDown] at hU
     have c0:decide ((x:Int)≤(z:Int)+1)=true:=c0
     have n1:Ax (some (.int .i64 ((z:Int)+1)))=some (z+1):=Bb (by simp)
     have z1:(z:Int)+1 - 1=z:=by omega
     simp +contextual (disch:=omega) only[go_sem,e0,e1,e9,e10,c0,A2,n1,ia,la,hH.iad (j:=z+1) (by omega),hH.ld (j:=z+1) (by omega)]
     refine A7 (S.call _ _ _) ?_
     cases hl:lt D[a]! D[z+1]! with
     |false=>
      rw[if_neg (by simp[hl])] at hU
      simp +contextual (disch:=omega) only[go_sem,e0,e1,e9,e10,c0,hl]
      refine hY2 _ _ ⟨?_,?_,?_,?_,rfl,by omega⟩
      all_goals simp +contextual (disch:=omega) only[go_sem,e0,e1,e9,e10,←hU]
     |true=>
      rw[if_pos (by simp[hl];omega)] at hU
      simp +contextual (disch:=omega) only[go_sem,e0,e1,e9,e10,c0,z1,hl]
      refine⟨z+1,by omega,hJ2 _ _ _ ⟨z,?_,?_,?_,?_,rfl,by omega,by omega,rfl,hU⟩⟩
      all_goals simp +contextual (disch:=omega) only[go_sem,e0,e1,e9,e10]
   ·clear e0 e1 e9 e10
    rintro env τ' ⟨e0,e1,e9,e10,rfl,hxy⟩
    have w1:=scanDown_le (fun x=>lt D[a]! x) D x j
    have w4:=(scanDown_spec (fun x=>lt D[a]! x) D x j).2.2.2
    obtain⟨y,hy⟩:∃ y,y=scanDown (fun x=>lt D[a]! x) D x j:=⟨_,rfl⟩
    rw[← hy] at hE e10 w1 w4 hxy
    rcases Nat.lt_or_ge y x with hlt|hge
    ·rw[if_pos hlt] at hE
     have c0:decide ((y:Int)<x)=true:=by simp;omega
     simp +contextual (disch:=omega) only[go_sem,e0,e1,e9,e10,c0]
     exact⟨_,rfl,hle,by rw[← hE],by rw[← hE];exact hH⟩
    ·rw[if_neg (by omega)] at hE
     have hne:x≠y:=by
      rintro rfl
      have q1:(!lt D[a]! D[x]!)=false:=u4 w1
      have q2:lt D[a]! D[x]! =false:=w4 (Nat.le_refl _) (by omega)
      rw[q2] at q1;cases q1
     have c0:decide ((y:Int)<x)=false:=by simp;omega
     have y1:(y:Int) - 1=((y - 1:Nat):Int):=by omega
     obtain⟨τ3,τ4,s3,s4,hH4,hl4⟩:=hH.sw (a:=x) (b:=y) (by omega) (by omega)
     simp +contextual (disch:=omega) only[go_sem,e0,e1,e9,e10,c0,A2,hH.iad (j:=x) (by omega),hH.ld (j:=x) (by omega),hH.iad (j:=y) (by omega),hH.ld (j:=y) (by omega),s3,s4]
     refine⟨y - 1+1 - (x+1),by omega,hJ _ _ _ ⟨x+1,y - 1,swp D x y,?_,?_,?_,?_,rfl,by omega,by omega,by omega,by rw[Go.Sort.swp_size];exact hD,by omega,hH4,hE⟩⟩
     all_goals simp +contextual (disch:=omega) only[go_sem,e0,e1,e9,e10,y1]
 obtain⟨r,τ,R,rfl,h⟩:=key
 exact⟨τ,R,h⟩
set_option maxHeartbeats 2000000 in
theorem part_ret (S:SrtO α lt) (H:Holds S.e σ0 σ rs k v d) {a b p:Nat} (hab:a<b) (hp:p<b) (hb:b≤d.size) (hs:d.size≤1099511627776):∃ τ,Ret Tryz.prog S.q.partition [v,gi a,gi b,gi p] σ (.tup [gi (partition lt d a b p).1,.bool (partition lt d a b p).2.1]) τ∧Holds S.e σ0 τ rs k v (partition lt d a b p).2.2:=by
 have key:∃ r τ,Ret Tryz.prog S.q.partition [v,gi a,gi b,gi p] σ r τ∧r= .tup [gi (partition lt d a b p).1,.bool (partition lt d a b p).2.1]∧Holds S.e σ0 τ rs k v (partition lt d a b p).2.2:=by
  refine Ao S.h_partition (Z0z rfl) ?_
  obtain⟨τ1,τ,s1,s2,hH,hl2⟩:=H.sw (a:=a) (b:=p) (by omega) (by omega)
  obtain⟨j,hh⟩:∃ h,h=b - 1:=⟨_,rfl⟩
  have hbI:(b:Int) - 1=j:=by omega
  have hD:=Go.Sort.swp_size d a p
  obtain⟨P0,hP0⟩:∃ P0,P0=partition lt d a b p:=⟨_,rfl⟩
  rw[← hP0]
  have hE:=hP0.symm
  simp only[partition] at hE
  rw[← hh] at hE
  obtain⟨D,hD0⟩:∃ D0,D0=swp d a p:=⟨_,rfl⟩
  rw[← hD0] at hH hD hE
  simp +contextual (disch:=omega) only[go_sem,N9,hbI,A2,H.iad (j:=a) (by omega),H.ld (j:=a) (by omega),H.iad (j:=p) (by omega),H.ld (j:=p) (by omega),s1,s2]
  have ia:=hH.iad (j:=a) (by omega)
  have la:=hH.ld (j:=a) (by omega)
  obtain⟨i,hi⟩:∃ i,i=a+1:=⟨_,rfl⟩
  rw[← hi] at hE
  have hij:i≤j+1:=by omega
  refine Cp (fun n env τ'=>∃(x:Nat),env 0=v∧env 1=gi a∧env 10=gi x∧env 11=gi j∧j+1 - x=n∧i≤x∧x≤j+1∧τ=τ'∧scanUp (fun x=>lt x D[a]!) D j x=scanUp (fun x=>lt x D[a]!) D j i) (j+1 - i) 0 (fun env τ'=>env 0=v∧env 1=gi a∧env 10=gi (scanUp (fun x=>lt x D[a]!) D j i:Nat)∧env 11=gi j∧τ=τ') ⟨i,rfl,rfl,(by rw[hi];rfl),rfl,rfl,Nat.le_refl _,hij,rfl,rfl⟩ ?_ ?_
  ·skip
   rintro J2 Y2 hJ2 hY2 n2 env τ' ⟨x,e0,e1,e9,e10,hn2,hx1,hx2,rfl,hU⟩
   rw[scanUp] at hU
   rcases Nat.lt_or_ge j x with hx|hx
   ·rw[if_neg (by simp;intro h;omega)] at hU
    have c0:decide ((x:Int)≤j)=false:=by simp;omega
    simp +contextual (disch:=omega) only[go_sem,e0,e1,e9,e10,c0]
    refine hY2 _ _ ⟨?_,?_,?_,?_,rfl⟩
    all_goals simp +contextual (disch:=omega) only[go_sem,e0,e1,e9,e10,hU]
   ·have c0:decide ((x:Int)≤j)=true:=by simp;omega
    simp +contextual (disch:=omega) only[go_sem,e0,e1,e9,e10,c0,A2,ia,la,hH.iad (j:=x) (by omega),hH.ld (j:=x) (by omega)]
    refine A7 (S.call _ _ _) ?_
    cases hl:lt D[x]! D[a]! with
    |false=>
     rw[if_neg (by simp[hl])] at hU
     simp +contextual (disch:=omega) only[go_sem,e0,e1,e9,e10,c0,hl]
     refine hY2 _ _ ⟨?_,?_,?_,?_,rfl⟩
     all_goals simp +contextual (disch:=omega) only[go_sem,e0,e1,e9,e10,hU]
    |true=>
     rw[if_pos (by simp[hl];omega)] at hU
     simp +contextual (disch:=omega) only[go_sem,e0,e1,e9,e10,c0,hl]
     refine⟨j+1 - (x+1),by omega,hJ2 _ _ _ ⟨x+1,?_,?_,?_,?_,rfl,by omega,by omega,rfl,hU⟩⟩
     all_goals simp +contextual (disch:=omega) only[go_sem,e0,e1,e9,e10]
  skip
  rintro env τ' ⟨e0,e1,e9,e10,rfl⟩
  obtain⟨u1,u2,-,u4⟩:=scanUp_spec (fun x=>lt x D[a]!) D j _ i rfl
  have u2:=u2 hij
  obtain⟨x,hx⟩:∃ x,x=scanUp (fun x=>lt x D[a]!) D j i:=⟨_,rfl⟩
  rw[← hx] at hE e9 u1 u2 u4
  simp +contextual (disch:=omega) only[go_sem]
  refine Cp (fun n env τ'=>∃(y:Nat),env 0=v∧env 1=gi a∧env 10=gi x∧env 11=gi y∧y+1=n∧y≤j∧x≤y+1∧τ=τ'∧scanDown (fun x=> !lt x D[a]!) D x y=scanDown (fun x=> !lt x D[a]!) D x j) (j+1) 2 (fun env τ'=>env 0=v∧env 1=gi a∧env 10=gi x∧env 11=gi (scanDown (fun x=> !lt x D[a]!) D x j:Nat)∧τ=τ'∧x≤scanDown (fun x=> !lt x D[a]!) D x j+1) ⟨j,e0,e1,e9,e10,rfl,Nat.le_refl _,u2,rfl,rfl⟩ ?_ ?_
  ·clear e0 e1 e9 e10
   rintro J2 Y2 hJ2 hY2 n2 env τ' ⟨y,e0,e1,e9,e10,hn2,hy1,hy2,rfl,hU⟩
   rcases Nat.lt_or_ge y x with hlt|hge
   ·have hU:scanDown (fun x=> !lt x D[a]!) D x j=y:=by
     rw[← hU]
     cases y with
     |zero=>rfl
     |succ y=>rw[scanDown,if_neg (by simp;intro h;omega)]
    have c0:decide ((x:Int)≤y)=false:=by simp;omega
    simp +contextual (disch:=omega) only[go_sem,e0,e1,e9,e10,c0]
    refine hY2 _ _ ⟨?_,?_,?_,?_,rfl,by omega⟩
    all_goals simp +contextual (disch:=omega) only[go_sem,e0,e1,e9,e10,hU]
   ·obtain⟨z,rfl⟩:∃ z,y=z+1:=⟨y - 1,by omega⟩
    rw[scanDown] at hU
    have c0:decide ((x:Int)≤(z:Int)+1)=true:=by simp;omega
    have n1:Ax (some (.int .i64 ((z:Int)+1)))=some (z+1):=Bb (by simp)
    have z1:(z:Int)+1 - 1=z:=by omega
    simp +contextual (disch:=omega) only[go_sem,e0,e1,e9,e10,c0,A2,n1,ia,la,hH.iad (j:=z+1) (by omega),hH.ld (j:=z+1) (by omega)]
    refine A7 (S.call _ _ _) ?_
    cases hl:lt D[z+1]! D[a]! with
    |true=>
     rw[if_neg (by simp[hl])] at hU
     simp +contextual (disch:=omega) only[go_sem,e0,e1,e9,e10,c0,hl]
     refine hY2 _ _ ⟨?_,?_,?_,?_,rfl,by omega⟩
     all_goals simp +contextual (disch:=omega) only[go_sem,e0,e1,e9,e10,←hU]
    |false=>
     rw[if_pos (by simp[hl];omega)] at hU
     simp +contextual (disch:=omega) only[go_sem,e0,e1,e9,e10,c0,z1,hl]
     refine⟨z+1,by omega,hJ2 _ _ _ ⟨z,?_,?_,?_,?_,rfl,by omega,by omega,rfl,hU⟩⟩
     all_goals simp +contextual (disch:=omega) only[go_sem,e0,e1,e9,e10]
  clear e0 e1 e9 e10
  rintro env τ' ⟨e0,e1,e9,e10,rfl,hxy⟩
  have w1:=scanDown_le (fun x=> !lt x D[a]!) D x j
  have w4:=(scanDown_spec (fun x=> !lt x D[a]!) D x j).2.2.2
  obtain⟨y,hy⟩:∃ y,y=scanDown (fun x=> !lt x D[a]!) D x j:=⟨_,rfl⟩
  rw[← hy] at hE e10 w1 w4 hxy
  have hne:x≠y:=by
   rintro rfl
   have q1:lt D[x]! D[a]! =false:=u4 w1
   have q2:(!lt D[x]! D[a]!)=false:=w4 (Nat.le_refl _) (by omega)
   rw[q1] at q2;cases q2
  rcases Nat.lt_or_ge y x with hlt|hge
  ·rw[if_pos hlt] at hE
   subst hE
   have c0:decide ((y:Int)<x)=true:=by simp;omega
   obtain⟨τ3,τ4,s3,s4,hH4,hl4⟩:=hH.sw (a:=y) (b:=a) (by omega) (by omega)
   simp +contextual (disch:=omega) only[go_sem,e0,e1,e9,e10,c0,A2,hH.iad (j:=a) (by omega),hH.ld (j:=a) (by omega),hH.iad (j:=y) (by omega),hH.ld (j:=y) (by omega),s3,s4]
   exact⟨_,rfl,by omega,rfl,hH4⟩
  ·rw[if_neg (by omega)] at hE
   subst hE
   have c0:decide ((y:Int)<x)=false:=by simp;omega
   have y1:(y:Int) - 1=((y - 1:Nat):Int):=by omega
   obtain⟨τ3,τ4,s3,s4,hH4,hl4⟩:=hH.sw (a:=x) (b:=y) (by omega) (by omega)
   simp +contextual (disch:=omega) only[go_sem,e0,e1,e9,e10,c0,A2,hH.iad (j:=x) (by omega),hH.ld (j:=x) (by omega),hH.iad (j:=y) (by omega),hH.ld (j:=y) (by omega),s3,s4]
   obtain⟨x0,hx0⟩:∃ x0,x0=x+1:=⟨_,rfl⟩
   obtain⟨y0,hy0⟩:∃ y0,y0=y - 1:=⟨_,rfl⟩
   have hD4:(swp D x y).size=d.size:=by rw[Go.Sort.swp_size];exact hD
   obtain⟨D4,hD40⟩:∃ D4,D4=swp D x y:=⟨_,rfl⟩
   rw[← hx0,←hy0,←hD40]
   rw[← hD40] at hH4 hD4
   obtain⟨R,hR⟩:∃ R,R=partLoop lt a x0 y0 D4:=⟨_,rfl⟩
   rw[← hR]
   refine C5 (fun n env τ=>∃(i j:Nat) (D:Array α),env 0=v∧env 1=gi a∧env 10=gi i∧env 11=gi j∧j+1 - i=n∧1≤i∧i≤j+1∧j<b∧D.size=d.size∧σ.length≤τ.length∧Holds S.e σ0 τ rs k v D∧partLoop lt a i j D=R) (y0+1 - x0) ⟨x0,y0,D4,by simp +contextual (disch:=omega) only[go_sem,e0],by simp +contextual (disch:=omega) only[go_sem,e1],by rw[hx0];simp +contextual (disch:=omega) only[go_sem,e9],by rw[hy0];simp +contextual (disch:=omega) only[go_sem,y1],rfl,by omega,by omega,by omega,hD4,by omega,hH4,hR.symm⟩ ?_
   clear hH hH4 hij ia la s1 s2 s3 s4 e0 e1 e9 e10 c0 y1 hi u1 u2 u4 w1 w4 hxy hne hge hx hy hx0 hy0 hD40 hD4 hD hD0 hl2 hl4
   rintro J hJ n env τ ⟨i,j,D,e0,e1,e9,e10,hn,hi,hij,hj,hD,hle,hH,hE⟩
   rw[partLoop_eq] at hE
   have ia:=hH.iad (j:=a) (by omega)
   have la:=hH.ld (j:=a) (by omega)
   simp +contextual (disch:=omega) only[go_sem]
   refine Cp (fun n env τ'=>∃(x:Nat),env 0=v∧env 1=gi a∧env 10=gi x∧env 11=gi j∧j+1 - x=n∧i≤x∧x≤j+1∧τ=τ'∧scanUp (fun x=>lt x D[a]!) D j x=scanUp (fun x=>lt x D[a]!) D j i) (j+1 - i) 6 (fun env τ'=>env 0=v∧env 1=gi a∧env 10=gi (scanUp (fun x=>lt x D[a]!) D j i:Nat)∧env 11=gi j∧τ=τ') ⟨i,e0,e1,e9,e10,rfl,Nat.le_refl _,hij,rfl,rfl⟩ ?_ ?_
   ·clear e0 e1 e9 e10
    rintro J2 Y2 hJ2 hY2 n2 env τ' ⟨x,e0,e1,e9,e10,hn2,hx1,hx2,rfl,hU⟩
    rw[scanUp] at hU
    rcases Nat.lt_or_ge j x with hx|hx
    ·rw[if_neg (by simp;intro h;omega)] at hU
     have c0:decide ((x:Int)≤j)=false:=by simp;omega
     simp +contextual (disch:=omega) only[go_sem,e0,e1,e9,e10,c0]
     refine hY2 _ _ ⟨?_,?_,?_,?_,rfl⟩
     all_goals simp +contextual (disch:=omega) only[go_sem,e0,e1,e9,e10,hU]
    ·have c0:decide ((x:Int)≤j)=true:=by simp;omega
     simp +contextual (disch:=omega) only[go_sem,e0,e1,e9,e10,c0,A2,ia,la,hH.iad (j:=x) (by omega),hH.ld (j:=x) (by omega)]
     refine A7 (S.call _ _ _) ?_
     cases hl:lt D[x]! D[a]! with
     |false=>
      rw[if_neg (by simp[hl])] at hU
      simp +contextual (disch:=omega) only[go_sem,e0,e1,e9,e10,c0,hl]
      refine hY2 _ _ ⟨?_,?_,?_,?_,rfl⟩
      all_goals simp +contextual (disch:=omega) only[go_sem,e0,e1,e9,e10,hU]
     |true=>
      rw[if_pos (by simp[hl];omega)] at hU
      simp +contextual (disch:=omega) only[go_sem,e0,e1,e9,e10,c0,hl]
      refine⟨j+1 - (x+1),by omega,hJ2 _ _ _ ⟨x+1,?_,?_,?_,?_,rfl,by omega,by omega,rfl,hU⟩⟩
      all_goals simp +contextual (disch:=omega) only[go_sem,e0,e1,e9,e10]
   clear e0 e1 e9 e10
   rintro env τ' ⟨e0,e1,e9,e10,rfl⟩
   obtain⟨u1,u2,-,u4⟩:=scanUp_spec (fun x=>lt x D[a]!) D j _ i rfl
   have u2:=u2 hij
   obtain⟨x,hx⟩:∃ x,x=scanUp (fun x=>lt x D[a]!) D j i:=⟨_,rfl⟩
   rw[← hx] at hE e9 u1 u2 u4
   simp +contextual (disch:=omega) only[go_sem]
   refine Cp (fun n env τ'=>∃(y:Nat),env 0=v∧env 1=gi a∧env 10=gi x∧env 11=gi y∧y+1=n∧y≤j∧x≤y+1∧τ=τ'∧scanDown (fun x=> !lt x D[a]!) D x y=scanDown (fun x=> !lt x D[a]!) D x j) (j+1) 8 (fun env τ'=>env 0=v∧env 1=gi a∧env 10=gi x∧env 11=gi (scanDown (fun x=> !lt x D[a]!) D x j:Nat)∧τ=τ'∧x≤scanDown (fun x=> !lt x D[a]!) D x j+1) ⟨j,e0,e1,e9,e10,rfl,Nat.le_refl _,u2,rfl,rfl⟩ ?_ ?_
   ·clear e0 e1 e9 e10
    rintro J2 Y2 hJ2 hY2 n2 env τ' ⟨y,e0,e1,e9,e10,hn2,hy1,hy2,rfl,hU⟩
    rcases Nat.lt_or_ge y x with hlt|hge
    ·have hU:scanDown (fun x=> !lt x D[a]!) D x j=y:=by
      rw[← hU]
      cases y with
      |zero=>rfl
      |succ y=>rw[scanDown,if_neg (by simp;intro h;omega)]
     have c0:decide ((x:Int)≤y)=false:=by simp;omega
     simp +contextual (disch:=omega) only[go_sem,e0,e1,e9,e10,c0]
     refine hY2 _ _ ⟨?_,?_,?_,?_,rfl,by omega⟩
     all_goals simp +contextual (disch:=omega) only[go_sem,e0,e1,e9,e10,hU]
    ·obtain⟨z,rfl⟩:∃ z,y=z+1:=⟨y - 1,by omega⟩
     rw[scanDown] at hU
     have c0:decide ((x:Int)≤(z:Int)+1)=true:=by simp;omega
     have n1:Ax (some (.int .i64 ((z:Int)+1)))=some (z+1):=Bb (by simp)
     have z1:(z:Int)+1 - 1=z:=by omega
     simp +contextual (disch:=omega) only[go_sem,e0,e1,e9,e10,c0,A2,n1,ia,la,hH.iad (j:=z+1) (by omega),hH.ld (j:=z+1) (by omega)]
     refine A7 (S.call _ _ _) ?_
     cases hl:lt D[z+1]! D[a]! with
     |true=>
      rw[if_neg (by simp[hl])] at hU
      simp +contextual (disch:=omega) only[go_sem,e0,e1,e9,e10,c0,hl]
      refine hY2 _ _ ⟨?_,?_,?_,?_,rfl,by omega⟩
      all_goals simp +contextual (disch:=omega) only[go_sem,e0,e1,e9,e10,←hU]
     |false=>
      rw[if_pos (by simp[hl];omega)] at hU
      simp +contextual (disch:=omega) only[go_sem,e0,e1,e9,e10,c0,z1,hl]
      refine⟨z+1,by omega,hJ2 _ _ _ ⟨z,?_,?_,?_,?_,rfl,by omega,by omega,rfl,hU⟩⟩
      all_goals simp +contextual (disch:=omega) only[go_sem,e0,e1,e9,e10]
   clear e0 e1 e9 e10
   rintro env τ' ⟨e0,e1,e9,e10,rfl,hxy⟩
   have w1:=scanDown_le (fun x=> !lt x D[a]!) D x j
   have w4:=(scanDown_spec (fun x=> !lt x D[a]!) D x j).2.2.2
   obtain⟨y,hy⟩:∃ y,y=scanDown (fun x=> !lt x D[a]!) D x j:=⟨_,rfl⟩
   rw[← hy] at hE e10 w1 w4 hxy
   have hne:x≠y:=by
    rintro rfl
    have q1:lt D[x]! D[a]! =false:=u4 w1
    have q2:(!lt D[x]! D[a]!)=false:=w4 (Nat.le_refl _) (by omega)
    rw[q1] at q2;cases q2
   rcases Nat.lt_or_ge y x with hlt|hge
   ·rw[if_pos hlt] at hE
    subst hE
    have c0:decide ((y:Int)<x)=true:=by simp;omega
    obtain⟨τ3,τ4,s3,s4,hH4,hl4⟩:=hH.sw (a:=y) (b:=a) (by omega) (by omega)
    simp +contextual (disch:=omega) only[go_sem,e0,e1,e9,e10,c0,A2,hH.iad (j:=a) (by omega),hH.ld (j:=a) (by omega),hH.iad (j:=y) (by omega),hH.ld (j:=y) (by omega),s3,s4]
    exact⟨_,rfl,by omega,rfl,hH4⟩
   ·rw[if_neg (by omega)] at hE
    have c0:decide ((y:Int)<x)=false:=by simp;omega
    have y1:(y:Int) - 1=((y - 1:Nat):Int):=by omega
    obtain⟨τ3,τ4,s3,s4,hH4,hl4⟩:=hH.sw (a:=x) (b:=y) (by omega) (by omega)
    simp +contextual (disch:=omega) only[go_sem,e0,e1,e9,e10,c0,A2,hH.iad (j:=x) (by omega),hH.ld (j:=x) (by omega),hH.iad (j:=y) (by omega),hH.ld (j:=y) (by omega),s3,s4]
    refine⟨y - 1+1 - (x+1),by omega,hJ _ _ _ ⟨x+1,y - 1,swp D x y,?_,?_,?_,?_,rfl,by omega,by omega,by omega,by rw[Go.Sort.swp_size];exact hD,by omega,hH4,hE⟩⟩
    all_goals simp +contextual (disch:=omega) only[go_sem,e0,e1,e9,e10,y1]
 obtain⟨r,τ,R,rfl,h⟩:=key
 exact⟨τ,R,h⟩
end O
namespace O
open Go Go.RowKit Go.Proofs.YtbeoiejnogdkpaaGreat.Sy Go.Sort
variable {α:Type} [Inhabited α] {lt:α→α→Bool} {σ0 σ:St} {rs:List Thg} {k:Nat} {v:GV} {d:Array α}
theorem scanSorted_ge (lt:α→α→Bool) (d:Array α) (b:Nat):∀(n i:Nat),b - i=n→i≤scanSorted lt d b i∧(i≤b→scanSorted lt d b i≤b):=by
 intro n
 induction n with
 |zero=>
  intro i hn
  rw[scanSorted,if_neg (by simp;intro h;omega)]
  exact⟨Nat.le_refl _,fun h=>h⟩
 |succ n ih=>
  intro i hn
  rw[scanSorted]
  split
  ·have:=ih (i+1) (by omega)
   exact⟨by omega,fun _=>this.2 (by omega)⟩
  ·exact⟨Nat.le_refl _,fun h=>h⟩
theorem shiftDown_size (lt:α→α→Bool):∀(j:Nat) (d:Array α),(shiftDown lt j d).size=d.size
 |0,_=>rfl
 |j+1,d=>by
  rw[shiftDown]
  split
  ·rfl
  ·rw[shiftDown_size lt j,Go.Sort.swp_size]
theorem shiftUp_size (lt:α→α→Bool) (b:Nat):∀(n j:Nat) (d:Array α),b - j=n→(shiftUp lt b j d).size=d.size:=by
 intro n
 induction n with
 |zero=>intro j d h;rw[shiftUp,if_neg (by omega)]
 |succ n ih=>
  intro j d h
  rw[shiftUp,if_pos (by omega)]
  split
  ·rfl
  ·rw[ih _ _ (by omega),Go.Sort.swp_size]
set_option maxHeartbeats 2000000 in
theorem pis_ret (S:SrtO α lt) (H:Holds S.e σ0 σ rs k v d) {a b:Nat} (hab:a<b) (hb:b≤d.size) (hs:d.size≤1099511627776):∃ τ,Ret Tryz.prog S.q.partialInsertionSort [v,gi a,gi b] σ (.bool (partialInsertionSort lt d a b).2) τ∧Holds S.e σ0 τ rs k v (partialInsertionSort lt d a b).1:=by
 have key:∃ r τ,Ret Tryz.prog S.q.partialInsertionSort [v,gi a,gi b] σ r τ∧r= .bool (partialInsertionSort lt d a b).2∧Holds S.e σ0 τ rs k v (partialInsertionSort lt d a b).1:=by
  refine Ao S.h_partialInsertionSort (Z0z rfl) ?_
  rw[partialInsertionSort]
  obtain⟨R,hR⟩:∃ R,R=partialIns lt a b 5 (a+1) d:=⟨_,rfl⟩
  rw[← hR]
  simp +contextual (maxSteps:=600000) (disch:=omega) only[go_sem,Eo]
  refine C5 (fun n env τ=>∃(s i:Nat) (D:Array α),env 0=v∧env 1=gi a∧env 2=gi b∧env 7=gi i∧env 8=gi s∧5 - s=n∧s≤5∧a<i∧i≤b∧D.size=d.size∧σ.length≤τ.length∧Holds S.e σ0 τ rs k v D∧partialIns lt a b (5 - s) i D=R) 5 ⟨0,a+1,d,rfl,rfl,rfl,rfl,rfl,rfl,by omega,by omega,by omega,rfl,Nat.le_refl _,H,hR.symm⟩ ?_
  rintro J hJ n env τ ⟨s,i0,D,e0,e1,e2,e7,e8,hn,hs5,hai,hib,hD,hle,hH,hE⟩
  rcases Nat.lt_or_ge s 5 with h5|h5
  ·have c0:decide ((s:Int)<5)=true:=by simp;omega
   obtain⟨m,hm⟩:∃ m,5 - s=m+1:=⟨4 - s,by omega⟩
   rw[hm,partialIns] at hE
   dsimp only at hE
   simp +contextual (maxSteps:=600000) (disch:=omega) only[go_sem,e0,e1,e2,e7,e8,c0]
   refine Cp (fun n env τ'=>∃(x:Nat),env 0=v∧env 1=gi a∧env 2=gi b∧env 7=gi x∧env 8=gi s∧b - x=n∧i0≤x∧x≤b∧τ=τ'∧scanSorted lt D b x=scanSorted lt D b i0) (b - i0) 2 (fun env τ'=>env 0=v∧env 1=gi a∧env 2=gi b∧env 7=gi (scanSorted lt D b i0:Nat)∧env 8=gi s∧τ=τ') ⟨i0,by simp +contextual (maxSteps:=600000) (disch:=omega) only[go_sem,e0],by simp +contextual (maxSteps:=600000) (disch:=omega) only[go_sem,e1],by simp +contextual (maxSteps:=600000) (disch:=omega) only[go_sem,e2],by simp +contextual (maxSteps:=600000) (disch:=omega) only[go_sem,e7],by simp +contextual (maxSteps:=600000) (disch:=omega) only[go_sem,e8],rfl,Nat.le_refl _,hib,rfl,rfl⟩ ?_ ?_
   ·clear e0 e1 e2 e7 e8
    rintro J2 Y2 hJ2 hY2 n2 env τ' ⟨x,e0,e1,e2,e7,e8,hn2,hx1,hx2,rfl,hU⟩
    rw[scanSorted] at hU
    rcases Nat.lt_or_ge x b with hx|hx
    ·have c1:decide ((x:Int)<b)=true:=by simp;omega
     have x1:(x:Int) - 1=((x - 1:Nat):Int):=by omega
     simp +contextual (maxSteps:=600000) (disch:=omega) only[go_sem,e0,e1,e2,e7,e8,c1,x1,A2,hH.iad (j:=x) (by omega),hH.ld (j:=x) (by omega),hH.iad (j:=x - 1) (by omega),hH.ld (j:=x - 1) (by omega)]
     refine A7 (S.call _ _ _) ?_
     cases hl:lt D[x]! D[x - 1]! with
     |true=>
      rw[if_neg (by simp[hl])] at hU
      simp +contextual (maxSteps:=600000) (disch:=omega) only[go_sem,e0,e1,e2,e7,e8,c1,hl]
      refine hY2 _ _ ⟨?_,?_,?_,?_,?_,rfl⟩
      all_goals simp +contextual (maxSteps:=600000) (disch:=omega) only[go_sem,e0,e1,e2,e7,e8,hU]
     |false=>
      rw[if_pos (by simp[hl];omega)] at hU
      simp +contextual (maxSteps:=600000) (disch:=omega) only[go_sem,e0,e1,e2,e7,e8,c1,hl]
      refine⟨b - (x+1),by omega,hJ2 _ _ _ ⟨x+1,?_,?_,?_,?_,?_,rfl,by omega,by omega,rfl,hU⟩⟩
      all_goals simp +contextual (maxSteps:=600000) (disch:=omega) only[go_sem,e0,e1,e2,e7,e8]
    ·rw[if_neg (by simp;intro h;omega)] at hU
     have c1:decide ((x:Int)<b)=false:=by simp;omega
     simp +contextual (maxSteps:=600000) (disch:=omega) only[go_sem,e0,e1,e2,e7,e8,c1]
     refine hY2 _ _ ⟨?_,?_,?_,?_,?_,rfl⟩
     all_goals simp +contextual (maxSteps:=600000) (disch:=omega) only[go_sem,e0,e1,e2,e7,e8,hU]
   clear e0 e1 e2 e7 e8
   rintro env τ' ⟨e0,e1,e2,e7,e8,rfl⟩
   obtain⟨g1,g2⟩:=scanSorted_ge lt D b _ i0 rfl
   have g2:=g2 hib
   obtain⟨i,hi⟩:∃ i,i=scanSorted lt D b i0:=⟨_,rfl⟩
   rw[← hi] at hE e7 g1 g2
   by_cases h1:i=b
   ·rw[if_pos h1] at hE
    subst hE
    have c1:((b:Int)==b)=true:=by simp
    rw[h1] at e7
    simp +contextual (maxSteps:=600000) (disch:=omega) only[go_sem,e0,e1,e2,e7,e8,c1]
    exact⟨_,rfl,hle,rfl,hH⟩
   ·rw[if_neg h1] at hE
    have c1:((i:Int)==b)=false:=by simp;omega
    by_cases h50:b - a<50
    ·rw[if_pos h50] at hE
     subst hE
     have c2:decide ((b:Int) - a<50)=true:=by simp;omega
     simp +contextual (maxSteps:=600000) (disch:=omega) only[go_sem,e0,e1,e2,e7,e8,c1,c2]
     exact⟨_,rfl,hle,rfl,hH⟩
    ·rw[if_neg h50] at hE
     have c2:decide ((b:Int) - a<50)=false:=by simp;omega
     have i1:(i:Int) - 1=((i - 1:Nat):Int):=by omega
     obtain⟨τ1,τ2,s1,s2,hH1,hl1⟩:=hH.sw (a:=i) (b:=i - 1) (by omega) (by omega)
     simp +contextual (maxSteps:=600000) (disch:=omega) only[go_sem,e0,e1,e2,e7,e8,c1,c2,i1,A2,hH.iad (j:=i) (by omega),hH.ld (j:=i) (by omega),hH.iad (j:=i - 1) (by omega),hH.ld (j:=i - 1) (by omega),s1,s2]
     have hD1:(swp D i (i - 1)).size=d.size:=by rw[Go.Sort.swp_size];exact hD
     have hle1:σ.length≤τ2.length:=by omega
     obtain⟨D1,hD10⟩:∃ D1,D1=swp D i (i - 1):=⟨_,rfl⟩
     rw[← hD10] at hE hD1 hH1
     clear hH hle s1 s2
     by_cases hA:i - a≥2
     ·rw[if_pos hA] at hE
      have cA:decide ((2:Int)≤(i:Int) - a)=true:=by simp;omega
      simp +contextual (maxSteps:=600000) (disch:=omega) only[go_sem,e0,e1,e2,e7,e8,cA]
      refine Cp (fun n env τ=>∃(j:Nat) (E:Array α),env 0=v∧env 1=gi a∧env 2=gi b∧env 7=gi i∧env 8=gi s∧env 9=gi j∧j=n∧j<b∧E.size=d.size∧σ.length≤τ.length∧Holds S.e σ0 τ rs k v E∧shiftDown lt j E=shiftDown lt (i - 1) D1) (i - 1) 4 (fun env τ=>env 0=v∧env 1=gi a∧env 2=gi b∧env 7=gi i∧env 8=gi s∧σ.length≤τ.length∧Holds S.e σ0 τ rs k v (shiftDown lt (i - 1) D1)) ⟨i - 1,D1,by simp +contextual (maxSteps:=600000) (disch:=omega) only[go_sem,e0],by simp +contextual (maxSteps:=600000) (disch:=omega) only[go_sem,e1],by simp +contextual (maxSteps:=600000) (disch:=omega) only[go_sem,e2],by simp +contextual (maxSteps:=600000) (disch:=omega) only[go_sem,e7],by simp +contextual (maxSteps:=600000) (disch:=omega) only[go_sem,e8],by simp +contextual (maxSteps:=600000) (disch:=omega) only[go_sem,i1],rfl,by omega,hD1,hle1,hH1,rfl⟩ ?_ ?_
      ·clear e0 e1 e2 e7 e8
       rintro J2 Y2 hJ2 hY2 n2 env τ ⟨j,E,e0,e1,e2,e7,e8,e9,hn2,hj,hE2,hle2,hH,hU⟩
       cases j with
       |zero=>
        have c5:decide ((1:Int)≤0)=false:=rfl
        simp +contextual (maxSteps:=600000) (disch:=omega) only[go_sem,e0,e1,e2,e7,e8,e9,c5,Int.natCast_zero]
        refine hY2 _ _ ⟨?_,?_,?_,?_,?_,hle2,by rw[← hU];exact hH⟩
        all_goals simp +contextual (maxSteps:=600000) (disch:=omega) only[go_sem,e0,e1,e2,e7,e8]
       |succ m=>
        have c5:decide ((1:Int)≤(m:Int)+1)=true:=decide_eq_true (by omega)
        have n1:Ax (some (.int .i64 ((m:Int)+1)))=some (m+1):=Bb (by simp)
        have m1:(m:Int)+1 - 1=m:=by omega
        rw[shiftDown] at hU
        simp +contextual (maxSteps:=600000) (disch:=omega) only[go_sem,e0,e1,e2,e7,e8,e9,c5,n1,m1,A2,hH.iad (j:=m+1) (by omega),hH.ld (j:=m+1) (by omega),hH.iad (j:=m) (by omega),hH.ld (j:=m) (by omega)]
        refine A7 (S.call _ _ _) ?_
        cases hl:lt E[m+1]! E[m]! with
        |false=>
         rw[if_pos (by simp[hl])] at hU
         simp +contextual (maxSteps:=600000) (disch:=omega) only[go_sem,e0,e1,e2,e7,e8,e9,hl]
         refine hY2 _ _ ⟨?_,?_,?_,?_,?_,hle2,by rw[← hU];exact hH⟩
         all_goals simp +contextual (maxSteps:=600000) (disch:=omega) only[go_sem,e0,e1,e2,e7,e8]
        |true=>
         rw[if_neg (by simp[hl])] at hU
         obtain⟨τ3,τ4,s3,s4,hH4,hl4⟩:=hH.sw (a:=m+1) (b:=m) (by omega) (by omega)
         simp +contextual (maxSteps:=600000) (disch:=omega) only[go_sem,e0,e1,e2,e7,e8,e9,n1,m1,A2,hl,hH.iad (j:=m+1) (by omega),hH.ld (j:=m+1) (by omega),hH.iad (j:=m) (by omega),hH.ld (j:=m) (by omega),s3,s4]
         refine⟨m,by omega,hJ2 _ _ _ ⟨m,swp E (m+1) m,?_,?_,?_,?_,?_,?_,rfl,by omega,by rw[Go.Sort.swp_size];exact hE2,by omega,hH4,hU⟩⟩
         all_goals simp +contextual (maxSteps:=600000) (disch:=omega) only[go_sem,e0,e1,e2,e7,e8,m1]
      clear e0 e1 e2 e7 e8 hH1 hle1
      rintro env τ ⟨e0,e1,e2,e7,e8,hle2,hH2⟩
      have hD2:=(shiftDown_size lt (i - 1) D1).trans hD1
      obtain⟨D2,hD20⟩:∃ D2,D2=shiftDown lt (i - 1) D1:=⟨_,rfl⟩
      rw[← hD20] at hE hD2 hH2
      simp +contextual (maxSteps:=600000) (disch:=omega) only[go_sem]
      by_cases hB:b - i≥2
      ·rw[if_pos hB] at hE
       have cB:decide ((2:Int)≤(b:Int) - i)=true:=by simp;omega
       simp +contextual (maxSteps:=600000) (disch:=omega) only[go_sem,e0,e1,e2,e7,e8,cB,cA]
       refine Cp (fun n env τ=>∃(j:Nat) (E:Array α),env 0=v∧env 1=gi a∧env 2=gi b∧env 7=gi i∧env 8=gi s∧env 10=gi j∧b - j=n∧1≤j∧j≤b∧E.size=d.size∧σ.length≤τ.length∧Holds S.e σ0 τ rs k v E∧shiftUp lt b j E=shiftUp lt b (i+1) D2) (b - (i+1)) 6 (fun env τ=>env 0=v∧env 1=gi a∧env 2=gi b∧env 7=gi i∧env 8=gi s∧σ.length≤τ.length∧Holds S.e σ0 τ rs k v (shiftUp lt b (i+1) D2)) ⟨i+1,D2,by simp +contextual (maxSteps:=600000) (disch:=omega) only[go_sem,e0],by simp +contextual (maxSteps:=600000) (disch:=omega) only[go_sem,e1],by simp +contextual (maxSteps:=600000) (disch:=omega) only[go_sem,e2],by simp +contextual (maxSteps:=600000) (disch:=omega) only[go_sem,e7],by simp +contextual (maxSteps:=600000) (disch:=omega) only[go_sem,e8],by simp +contextual (maxSteps:=600000) (disch:=omega) only[go_sem,e7],rfl,by omega,by omega,hD2,hle2,hH2,rfl⟩ ?_ ?_
       ·clear e0 e1 e2 e7 e8
        rintro J2 Y2 hJ2 hY2 n2 env τ ⟨j,E,e0,e1,e2,e7,e8,e9,hn2,hj1,hj,hE2,hle3,hH,hU⟩
        rw[shiftUp] at hU
        rcases Nat.lt_or_ge j b with hjb|hjb
        ·rw[if_pos hjb] at hU
         have c5:decide ((j:Int)<b)=true:=by simp;omega
         have j1:(j:Int) - 1=((j - 1:Nat):Int):=by omega
         simp +contextual (maxSteps:=600000) (disch:=omega) only[go_sem,e0,e1,e2,e7,e8,e9,c5,j1,A2,hH.iad (j:=j) (by omega),hH.ld (j:=j) (by omega),hH.iad (j:=j - 1) (by omega),hH.ld (j:=j - 1) (by omega)]
         refine A7 (S.call _ _ _) ?_
         cases hl:lt E[j]! E[j - 1]! with
         |false=>
          rw[if_pos (by simp[hl])] at hU
          simp +contextual (maxSteps:=600000) (disch:=omega) only[go_sem,e0,e1,e2,e7,e8,e9,hl]
          refine hY2 _ _ ⟨?_,?_,?_,?_,?_,hle3,by rw[← hU];exact hH⟩
          all_goals simp +contextual (maxSteps:=600000) (disch:=omega) only[go_sem,e0,e1,e2,e7,e8]
         |true=>
          rw[if_neg (by simp[hl])] at hU
          obtain⟨τ3,τ4,s3,s4,hH4,hl4⟩:=hH.sw (a:=j) (b:=j - 1) (by omega) (by omega)
          simp +contextual (maxSteps:=600000) (disch:=omega) only[go_sem,e0,e1,e2,e7,e8,e9,j1,A2,hl,hH.iad (j:=j) (by omega),hH.ld (j:=j) (by omega),hH.iad (j:=j - 1) (by omega),hH.ld (j:=j - 1) (by omega),s3,s4]
          refine⟨b - (j+1),by omega,hJ2 _ _ _ ⟨j+1,swp E j (j - 1),?_,?_,?_,?_,?_,?_,rfl,by omega,by omega,by rw[Go.Sort.swp_size];exact hE2,by omega,hH4,hU⟩⟩
          all_goals simp +contextual (maxSteps:=600000) (disch:=omega) only[go_sem,e0,e1,e2,e7,e8,e9]
        ·rw[if_neg (by omega)] at hU
         have c5:decide ((j:Int)<b)=false:=by simp;omega
         simp +contextual (maxSteps:=600000) (disch:=omega) only[go_sem,e0,e1,e2,e7,e8,e9,c5]
         refine hY2 _ _ ⟨?_,?_,?_,?_,?_,hle3,by rw[← hU];exact hH⟩
         all_goals simp +contextual (maxSteps:=600000) (disch:=omega) only[go_sem,e0,e1,e2,e7,e8]
       clear e0 e1 e2 e7 e8 hH2 hle2
       rintro env τ ⟨e0,e1,e2,e7,e8,hle2,hH2⟩
       simp +contextual (maxSteps:=600000) (disch:=omega) only[go_sem,e0,e1,e2,e7,e8]
       refine⟨n - 1,by omega,hJ _ _ _ ⟨s+1,i,_,?_,?_,?_,?_,?_,by omega,by omega,by omega,by omega,(by rw[shiftUp_size lt b _ _ _ rfl];exact hD2),hle2,hH2,by rw[← hE];congr 1;omega⟩⟩
       all_goals simp +contextual (maxSteps:=600000) (disch:=omega) only[go_sem,e0,e1,e2,e7,e8]
      ·rw[if_neg hB] at hE
       have cB:decide ((2:Int)≤(b:Int) - i)=false:=by simp;omega
       simp +contextual (maxSteps:=600000) (disch:=omega) only[go_sem,e0,e1,e2,e7,e8,cB,cA]
       refine⟨n - 1,by omega,hJ _ _ _ ⟨s+1,i,_,?_,?_,?_,?_,?_,by omega,by omega,by omega,by omega,hD2,hle2,hH2,by rw[← hE];congr 1;omega⟩⟩
       all_goals simp +contextual (maxSteps:=600000) (disch:=omega) only[go_sem,e0,e1,e2,e7,e8]
     ·rw[if_neg hA] at hE
      have cA:decide ((2:Int)≤(i:Int) - a)=false:=by simp;omega
      obtain⟨D2,hD20⟩:∃ D2,D2=D1:=⟨_,rfl⟩
      have hD2:=hD1
      have hH2:=hH1
      have hle2:=hle1
      rw[← hD20] at hE hD2 hH2
      by_cases hB:b - i≥2
      ·rw[if_pos hB] at hE
       have cB:decide ((2:Int)≤(b:Int) - i)=true:=by simp;omega
       simp +contextual (maxSteps:=600000) (disch:=omega) only[go_sem,e0,e1,e2,e7,e8,cB,cA]
       refine Cp (fun n env τ=>∃(j:Nat) (E:Array α),env 0=v∧env 1=gi a∧env 2=gi b∧env 7=gi i∧env 8=gi s∧env 10=gi j∧b - j=n∧1≤j∧j≤b∧E.size=d.size∧σ.length≤τ.length∧Holds S.e σ0 τ rs k v E∧shiftUp lt b j E=shiftUp lt b (i+1) D2) (b - (i+1)) 6 (fun env τ=>env 0=v∧env 1=gi a∧env 2=gi b∧env 7=gi i∧env 8=gi s∧σ.length≤τ.length∧Holds S.e σ0 τ rs k v (shiftUp lt b (i+1) D2)) ⟨i+1,D2,by simp +contextual (maxSteps:=600000) (disch:=omega) only[go_sem,e0],by simp +contextual (maxSteps:=600000) (disch:=omega) only[go_sem,e1],by simp +contextual (maxSteps:=600000) (disch:=omega) only[go_sem,e2],by simp +contextual (maxSteps:=600000) (disch:=omega) only[go_sem,e7],by simp +contextual (maxSteps:=600000) (disch:=omega) only[go_sem,e8],by simp +contextual (maxSteps:=600000) (disch:=omega) only[go_sem,e7],rfl,by omega,by omega,hD2,hle2,hH2,rfl⟩ ?_ ?_
       ·clear e0 e1 e2 e7 e8
        rintro J2 Y2 hJ2 hY2 n2 env τ ⟨j,E,e0,e1,e2,e7,e8,e9,hn2,hj1,hj,hE2,hle3,hH,hU⟩
        rw[shiftUp] at hU
        rcases Nat.lt_or_ge j b with hjb|hjb
        ·rw[if_pos hjb] at hU
         have c5:decide ((j:Int)<b)=true:=by simp;omega
         have j1:(j:Int) - 1=((j - 1:Nat):Int):=by omega
         simp +contextual (maxSteps:=600000) (disch:=omega) only[go_sem,e0,e1,e2,e7,e8,e9,c5,j1,A2,hH.iad (j:=j) (by omega),hH.ld (j:=j) (by omega),hH.iad (j:=j - 1) (by omega),hH.ld (j:=j - 1) (by omega)]
         refine A7 (S.call _ _ _) ?_
         cases hl:lt E[j]! E[j - 1]! with
         |false=>
          rw[if_pos (by simp[hl])] at hU
          simp +contextual (maxSteps:=600000) (disch:=omega) only[go_sem,e0,e1,e2,e7,e8,e9,hl]
          refine hY2 _ _ ⟨?_,?_,?_,?_,?_,hle3,by rw[← hU];exact hH⟩
          all_goals simp +contextual (maxSteps:=600000) (disch:=omega) only[go_sem,e0,e1,e2,e7,e8]
         |true=>
          rw[if_neg (by simp[hl])] at hU
          obtain⟨τ3,τ4,s3,s4,hH4,hl4⟩:=hH.sw (a:=j) (b:=j - 1) (by omega) (by omega)
          simp +contextual (maxSteps:=600000) (disch:=omega) only[go_sem,e0,e1,e2,e7,e8,e9,j1,A2,hl,hH.iad (j:=j) (by omega),hH.ld (j:=j) (by omega),hH.iad (j:=j - 1) (by omega),hH.ld (j:=j - 1) (by omega),s3,s4]
          refine⟨b - (j+1),by omega,hJ2 _ _ _ ⟨j+1,swp E j (j - 1),?_,?_,?_,?_,?_,?_,rfl,by omega,by omega,by rw[Go.Sort.swp_size];exact hE2,by omega,hH4,hU⟩⟩
          all_goals simp +contextual (maxSteps:=600000) (disch:=omega) only[go_sem,e0,e1,e2,e7,e8,e9]
        ·rw[if_neg (by omega)] at hU
         have c5:decide ((j:Int)<b)=false:=by simp;omega
         simp +contextual (maxSteps:=600000) (disch:=omega) only[go_sem,e0,e1,e2,e7,e8,e9,c5]
         refine hY2 _ _ ⟨?_,?_,?_,?_,?_,hle3,by rw[← hU];exact hH⟩
         all_goals simp +contextual (maxSteps:=600000) (disch:=omega) only[go_sem,e0,e1,e2,e7,e8]
       clear e0 e1 e2 e7 e8 hH2 hle2
       rintro env τ ⟨e0,e1,e2,e7,e8,hle2,hH2⟩
       simp +contextual (maxSteps:=600000) (disch:=omega) only[go_sem,e0,e1,e2,e7,e8]
       refine⟨n - 1,by omega,hJ _ _ _ ⟨s+1,i,_,?_,?_,?_,?_,?_,by omega,by omega,by omega,by omega,(by rw[shiftUp_size lt b _ _ _ rfl];exact hD2),hle2,hH2,by rw[← hE];congr 1;omega⟩⟩
       all_goals simp +contextual (maxSteps:=600000) (disch:=omega) only[go_sem,e0,e1,e2,e7,e8]
      ·rw[if_neg hB] at hE
       have cB:decide ((2:Int)≤(b:Int) - i)=false:=by simp;omega
       simp +contextual (maxSteps:=600000) (disch:=omega) only[go_sem,e0,e1,e2,e7,e8,cB,cA]
       refine⟨n - 1,by omega,hJ _ _ _ ⟨s+1,i,_,?_,?_,?_,?_,?_,by omega,by omega,by omega,by omega,hD2,hle2,hH2,by rw[← hE];congr 1;omega⟩⟩
       all_goals simp +contextual (maxSteps:=600000) (disch:=omega) only[go_sem,e0,e1,e2,e7,e8]
  ·have c0:decide ((s:Int)<5)=false:=by simp;omega
   have hm:5 - s=0:=by omega
   rw[hm,partialIns] at hE
   subst hE
   simp +contextual (maxSteps:=600000) (disch:=omega) only[go_sem,e0,e1,e2,e7,e8,c0]
   exact⟨_,rfl,hle,rfl,hH⟩
 obtain⟨r,τ,R,rfl,h⟩:=key
 exact⟨τ,R,h⟩
end O
end Go.Proofs.YtbeoiejnogdkpaaGreat.Sy
