/- Texts of this proof, one behind the other. -/
import Derived.Test.YtbeoiejnogdkpaaGreatBChangedBy4
import Derived.Test.YtbeoiejnogdkpaaGreatProg
import Derived.KernelRfl
set_option linter.unusedSimpArgs false
set_option linter.unusedVariables false
set_option maxRecDepth 4000
namespace Go.Proofs.YtbeoiejnogdkpaaGreat.Sy
section
open Go Go.RowKit
abbrev Rt:Nat:=125
def Ru:Fn1:=⟨11,[.t 4],(rg [oX 2 0,oV 4 kf] (rg [oM 5 1,oF 6 0 2,oL 7 6,oN 8 7,o 9 (.bin .sub (.t 8) (ki 1)),o 10 (.call 236 [(.t 5),(ki 0),(.t 9)]),oM 4 10] .ret))⟩
theorem A18:A8 Tryz.prog Rt=some Ru:=by kernel_rfl
abbrev A75:Nat:=315
def A76:Fn1:=⟨9,[.t 4],(rg [oX 2 0,oX 3 1,oV 4 (ki 0)] (rg [oF 5 0 2,oL 6 5,o 7 (.mkf 373 [(.t 3)]),oD 8 372 6 7,oM 4 8] .ret))⟩
theorem Abh:A8 Tryz.prog A75=some A76:=by kernel_rfl
abbrev N4:Nat:=373
def Vq:Fn1:=⟨8,[.t 3],(rg [oX 2 0,oV 3 kf] (rg [oF 4 0 2,oW 5 2 4,oW 6 2 1,o 7 (.eqs false [.i .i64,.i .i64] (.t 5) (.t 6)),oM 3 7] .ret))⟩
theorem A3y:A8 Tryz.prog N4=some Vq:=by kernel_rfl
abbrev Bo:Nat:=372
def Bp:Fn1:=⟨19,[.t 4],(rg [oV 4 (ki 0)] (.seq (rg [oM 6 0,oN 7 6,oV 8 (ki 0)] (.blk 0 (.lop (rg [oB 9 .lss 8 7] (.seq (.cnd (.t 9) .skip (.ext 0)) (.seq (.blk 1 (rg [oM 10 8,oM 5 10] (rg [oM 11 1,oM 12 0,oM 13 5,oI 14 7 12 13,oW 15 7 14,o 16 (.callv (.t 11) [(.t 15)])] (.cnd (.t 16) (rg [oM 17 5,oM 4 17] .ret) .skip)))) (.reg [oZ 18 8 1,oM 8 18]))))))) (rg [o 4 (.mov (ki (-1)))] .ret)))⟩
theorem Dh:A8 Tryz.prog Bo=some Bp:=by kernel_rfl
abbrev Rv:Nat:=237
def Rw:Fn1:=⟨77,[.t 4],(rg [oX 2 0,oV 4 kf] (rg [oF 8 0 2,oL 9 8,oM 10 1,oI 11 7 9 10,oW 12 7 11,o 5 (.new [z0,z0,.nilS,.nilS,.nilS,.nilS,.nilS]),oS 7 5 12] (.seq (rg [oF 13 0 5,oW 14 2 13,oC 15 272 14,oU 16 15,oM 17 16,og 18 17 false (.ld true 2 (.t 2)),og 19 17 false (.fad 0 (.t 5)),og 20 17 false (.ld true 2 (.t 19)),og 21 17 false (.call 315 [(.t 18),(.t 20)]),og 22 17 false (.mov (.t 1)),og 23 17 false (.bin .neq (.t 21) (.t 22)),o 24 (.pick (.t 17) kt (.t 23)),oM 25 24,og 26 25 false (.fad 3 (.t 5)),og 27 25 false (.ld true 4 (.t 26)),og 28 25 false (.call 195 [(.t 27)]),og 29 25 false (.un .not (.t 28)),o 30 (.pick (.t 25) kt (.t 29)),oM 31 30,og 32 31 false (.fad 2 (.t 5)),og 33 31 false (.ld false 1 (.t 32)),og 34 31 false (.len false (.t 33)),og 35 31 false (.bin .gtr (.t 34) (ki 2)),o 36 (.pick (.t 31) kt (.t 35))] (.cnd (.t 36) (rg [oV 4 kf] .ret) .skip)) (.seq (rg [oF 37 2 5,oL 38 37,oN 39 38,oV 40 (ki 0)] (.blk 0 (.lop (rg [oB 41 .lss 40 39] (.seq (.cnd (.t 41) .skip (.ext 0)) (.seq (.blk 1 (rg [oM 42 40,oI 43 1 38 40,oL 44 43,oM 6 42,oM 7 44] (.seq (.drw [oM 45 7,oM 46 1,o 47 (.bin .sub (.t 46) (ki 1)),o 48 (.call 236 [(.t 45),(ki 0),(.t 47)]),oU 49 48,oM 50 49,og 51 50 false (.mov (.t 6)),og 52 50 false (.bin .gtr (.t 51) (ki 0)),og 53 50 false (.mov (.t 52)),og 54 53 true (.fad 2 (.t 5)),og 55 53 true (.ld false 1 (.t 54)),og 56 53 true (.mov (.t 6)),og 57 53 true (.bin .sub (.t 56) (ki 1)),og 58 53 true (.iad 1 (.t 55) (.t 57)),og 59 53 true (.ld false 1 (.t 58)),og 60 53 true (.mov (.t 7)),og 61 53 true (.bin .geq (.t 59) (.t 60)),og 62 50 false (.pick (.t 53) (.t 61) kf),o 63 (.pick (.t 50) kt (.t 62)),oM 64 63,og 65 64 false (.fad 0 (.t 2)),og 66 64 false (.ld false 1 (.t 65)),og 67 64 false (.mov (.t 7)),og 68 64 false (.iad 7 (.t 66) (.t 67)),og 69 64 false (.fad 3 (.t 68)),og 70 64 false (.ld true 4 (.t 69)),og 71 64 false (.fad 3 (.t 5)),og 72 64 false (.ld true 4 (.t 71))] [og 73 64 false (.call 238 [(.t 70),(.t 72)]),og 74 64 false (.un .not (.t 73)),o 75 (.pick (.t 64) kt (.t 74))]) (.cnd (.t 75) (rg [oV 4 kf] .ret) .skip)))) (.reg [oZ 76 40 1,oM 40 76]))))))) (rg [oV 4 kt] .ret)))))⟩
theorem A19:A8 Tryz.prog Rv=some Rw:=by kernel_rfl
abbrev Vr:Nat:=126
def Vs:Fn1:=⟨31,[.t 2],(rg [oX 1 0,oV 2 kf] (.seq (rg [oF 4 0 1,oL 5 4,oN 6 5,o 7 (.bin .gtr (.t 6) (ki 80)),oM 8 7,og 9 8 false (.fad 1 (.t 1)),og 10 8 false (.ld false 1 (.t 9)),og 11 8 false (.bin .neq (.t 10) (ki (-1))),og 12 8 false (.mov (.t 11)),og 13 12 true (.ld true 2 (.t 1)),og 14 12 true (.fad 1 (.t 1)),og 15 12 true (.ld false 1 (.t 14)),og 16 12 true (.call 125 [(.t 13),(.t 15)]),og 17 12 true (.un .not (.t 16)),og 18 8 false (.pick (.t 12) (.t 17) kf),o 19 (.pick (.t 8) kt (.t 18))] (.cnd (.t 19) (rg [oV 2 kf] .ret) .skip)) (.seq (rg [oF 20 0 1,oL 21 20,oN 22 21,oV 23 (ki 0)] (.blk 0 (.lop (rg [oB 24 .lss 23 22] (.seq (.cnd (.t 24) .skip (.ext 0)) (.seq (.blk 1 (rg [oM 25 23,oM 3 25] (rg [oW 26 2 1,oM 27 3,oD 28 237 26 27,oU 29 28] (.cnd (.t 29) (rg [oV 2 kf] .ret) .skip)))) (.reg [oZ 30 23 1,oM 23 30]))))))) (rg [oV 2 kt] .ret))))⟩
theorem A3z:A8 Tryz.prog Vr=some Vs:=by kernel_rfl
abbrev A77:Nat:=232
def A78:Fn1:=⟨22,[.t 4],(rg [oX 2 0,oX 3 1,oV 4 (ki 0)] (.seq (rg [oV 5 (ki 0)] (.blk 0 (.lop (.seq (rg [oM 6 5,oF 7 0 2,oL 8 7,oN 9 8,oB 10 .lss 6 9] (.cnd (.t 10) .skip (.ext 0))) (.seq (.blk 1 (.seq (.drw [oF 13 0 2,oL 14 13,oM 15 5,oI 16 7 14 15,oF 17 0 16,oW 18 2 17,oW 19 2 3] [o 20 (.eqs false [.i .i64,.i .i64] (.t 18) (.t 19))]) (.cnd (.t 20) (rg [oM 21 5,oM 4 21] .ret) .skip))) (.reg [oM 11 5,oZ 12 11 1,oM 5 12])))))) (rg [o 4 (.mov (ki (-1)))] .ret)))⟩
theorem Abi:A8 Tryz.prog A77=some A78:=by kernel_rfl
abbrev Vt:Nat:=121
def Vu:Fn1:=⟨106,[.t 2],(rg [oX 1 0,oV 2 kf] (.seq (rg [oF 6 0 1,oL 7 6,oN 8 7,o 9 (.bin .gtr (.t 8) (ki 80)),oM 10 9,og 11 10 false (.fad 1 (.t 1)),og 12 10 false (.ld false 1 (.t 11)),og 13 10 false (.fad 0 (.t 1)),og 14 10 false (.ld false 1 (.t 13)),og 15 10 false (.len false (.t 14)),og 16 10 false (.bin .sub (.t 15) (ki 1)),og 17 10 false (.call 122 [(.t 12),(ki (-1)),(.t 16)]),og 18 10 false (.un .not (.t 17)),o 19 (.pick (.t 10) kt (.t 18))] (.cnd (.t 19) (rg [oV 2 kf] .ret) .skip)) (.seq (rg [oV 3 (ki 0)] (.blk 0 (.lop (.seq (rg [oM 20 3,oF 21 0 1,oL 22 21,oN 23 22,oB 24 .lss 20 23] (.cnd (.t 24) .skip (.ext 0))) (.seq (.blk 1 (rg [oF 27 0 1,oL 28 27,oM 29 3,oI 30 7 28 29,oW 31 7 30,o 4 (.new [z0,z0,.nilS,.nilS,.nilS,.nilS,.nilS]),oS 7 4 31] (.seq (rg [oF 32 0 4,oW 33 2 32,oC 34 168 33,oU 35 34,oM 36 35,og 37 36 false (.ld true 2 (.t 1)),og 38 36 false (.fad 0 (.t 4)),og 39 36 false (.ld true 2 (.t 38)),og 40 36 false (.call 232 [(.t 37),(.t 39)]),og 41 36 false (.mov (.t 3)),og 42 36 false (.bin .neq (.t 40) (.t 41)),o 43 (.pick (.t 36) kt (.t 42)),oM 44 43,og 45 44 false (.fad 3 (.t 4)),og 46 44 false (.ld true 4 (.t 45)),og 47 44 false (.call 199 [(.t 46)]),og 48 44 false (.un .not (.t 47)),o 49 (.pick (.t 44) kt (.t 48)),oM 50 49,og 51 50 false (.fad 2 (.t 4)),og 52 50 false (.ld false 1 (.t 51)),og 53 50 false (.len false (.t 52)),og 54 50 false (.bin .gtr (.t 53) (ki 2)),o 55 (.pick (.t 50) kt (.t 54))] (.cnd (.t 55) (rg [oV 2 kf] .ret) .skip)) (rg [oV 5 (ki 0)] (.blk 2 (.lop (.seq (rg [oM 56 5,oF 57 2 4,oL 58 57,oN 59 58,oB 60 .lss 56 59] (.cnd (.t 60) .skip (.ext 2))) (.seq (.blk 3 (.seq (.drw [oF 63 2 4,oL 64 63,oM 65 5,oI 66 1 64 65,oL 67 66,oM 68 3,o 69 (.bin .sub (.t 68) (ki 1)),o 70 (.call 122 [(.t 67),(ki 0),(.t 69)]),oU 71 70,oM 72 71,og 73 72 false (.mov (.t 5)),og 74 72 false (.bin .gtr (.t 73) (ki 0)),og 75 72 false (.mov (.t 74)),og 76 75 true (.fad 2 (.t 4)),og 77 75 true (.ld false 1 (.t 76)),og 78 75 true (.mov (.t 5)),og 79 75 true (.bin .sub (.t 78) (ki 1)),og 80 75 true (.iad 1 (.t 77) (.t 79)),og 81 75 true (.ld false 1 (.t 80)),og 82 75 true (.fad 2 (.t 4)),og 83 75 true (.ld false 1 (.t 82)),og 84 75 true (.mov (.t 5)),og 85 75 true (.iad 1 (.t 83) (.t 84)),og 86 75 true (.ld false 1 (.t 85)),og 87 75 true (.bin .geq (.t 81) (.t 86)),og 88 72 false (.pick (.t 75) (.t 87) kf),o 89 (.pick (.t 72) kt (.t 88)),oM 90 89,og 91 90 false (.fad 0 (.t 1)),og 92 90 false (.ld false 1 (.t 91)),og 93 90 false (.fad 2 (.t 4)),og 94 90 false (.ld false 1 (.t 93)),og 95 90 false (.mov (.t 5)),og 96 90 false (.iad 1 (.t 94) (.t 95)),og 97 90 false (.ld false 1 (.t 96)),og 98 90 false (.iad 7 (.t 92) (.t 97)),og 99 90 false (.fad 3 (.t 98)),og 100 90 false (.ld true 4 (.t 99)),og 101 90 false (.fad 3 (.t 4)),og 102 90 false (.ld true 4 (.t 101))] [og 103 90 false (.call 233 [(.t 100),(.t 102)]),og 104 90 false (.un .not (.t 103)),o 105 (.pick (.t 90) kt (.t 104))]) (.cnd (.t 105) (rg [oV 2 kf] .ret) .skip))) (.reg [oM 61 5,oZ 62 61 1,oM 5 62]))))))))) (.reg [oM 25 3,oZ 26 25 1,oM 3 26])))))) (rg [oV 2 kt] .ret))))⟩
theorem A40:A8 Tryz.prog Vt=some Vu:=by kernel_rfl
def atId (g:Graph) (d:Dot):Int:=match g.commits.findIdx? (fun c=>decide (c.id=d)) with
 |some k=>(k:Int)
 |none=> -1
def stAt (g:Graph) (u:Int):State:=match g.commits[u.toNat]? with
 |some x=>x.state
 |none=>st0
def upP (g:Graph) (k:Nat) (x:Commit) (i:Nat):Bool:=match x.ups[i]? with
 |none=>true
 |some u=>inB u 0 ((k:Int) - 1)&&((decide (i=0)||decide (x.ups[i - 1]?.getD 0<u))&&behind (stAt g u) x.state)
def Bf (g:Graph) (k:Nat) (x:Commit):Bool:=G5 x.id&&(decide (atId g x.id=k)&&(Bh x.state&&(decide (x.ups.length≤2)&&allR x.ups.length (upP g k x))))
def Id (g:Graph) (k:Nat):Bool:=match g.commits[k]? with
 |none=>true
 |some x=>Bf g k x
def C7 (g:Graph):Bool:=decide (g.commits.length≤80)&&(inB g.head (-1) ((g.commits.length:Int) - 1)&&allR g.commits.length (Id g))
theorem Qe {g:Graph} {u:Int} {n:Nat} (hu:u=n) (hn:n<g.commits.length):stAt g u=g.commits[n].state:=by
 subst hu
 unfold stAt
 rw[show ((n:Int)).toNat=n by omega,List.getElem?_eq_getElem hn]
theorem Lr {g:Graph} {k:Nat} (hk:k<g.commits.length):Id g k=Bf g k g.commits[k]:=by
 unfold Id;rw[List.getElem?_eq_getElem hk]
abbrev comV (x:Commit) (u k0 k1 k2 k3:GV):List GV:=[gi x.id.rep,gi x.id.seq,u,k0,k1,k2,k3]
theorem Rx {σ:St} {x:Commit} {cs:List GV} (h:Am.R σ x cs):∃ u k0 k1 k2 k3,cs=comV x u k0 k1 k2 k3∧RS pI.kd σ u x.ups∧A9.R σ x.state [k0,k1,k2,k3]:=by
 obtain⟨v1,v2,rfl,h1,h2⟩:=h
 obtain⟨s0,s1,s2,s3,rfl,h2a⟩:=h2
 exact⟨v1,s0,s1,s2,s3,rfl,h1,s0,s1,s2,s3,rfl,h2a⟩
theorem Dk {σ:St} {v:GV} {l:List Commit} (h:RS Am σ v l) {i:Nat} (hi:i<l.length):∃ u k0 k1 k2 k3,(iadG 7 v (some i)=some (atz 7 v i)∧(∀ k,fadG k (atz 7 v i)=some (fld k (atz 7 v i)))∧(∀ k m,fadG k (fld m (atz 7 v i))=some (fld (m+k) (atz 7 v i)))∧ldG true 7 σ (atz 7 v i)=some (.agg (comV l[i] u k0 k1 k2 k3))∧ldG true 2 σ (fld 0 (atz 7 v i))=some (.agg [gi l[i].id.rep,gi l[i].id.seq])∧ldG false 1 σ (fld 2 (atz 7 v i))=some u∧ldG true 4 σ (fld 3 (atz 7 v i))=some (.agg [k0,k1,k2,k3]))∧Am.R σ l[i] (comV l[i] u k0 k1 k2 k3)∧RS pI.kd σ u l[i].ups∧A9.R σ l[i].state [k0,k1,k2,k3]:=by
 obtain⟨cs,⟨h1,h2,h3,h4,h5⟩,h6⟩:=RdN.cellsN h hi
 have h6':=h6
 obtain⟨u,k0,k1,k2,k3,rfl,hU,hS⟩:=Rx h6
 exact⟨u,k0,k1,k2,k3,⟨h1,h2,h3,h4,h5 0 2 true (by decide),h5 2 1 false (by decide),h5 3 4 true (by decide)⟩,h6',hU,hS⟩
theorem Ok {g:Graph} (h:Ci g≤1048576):g.commits.length≤1048576∧∀ i (hi:i<g.commits.length),g.commits[i].ups.length≤1048576∧Ad g.commits[i].state≤1048576:=by
 unfold Ci at h
 refine⟨by omega,fun i hi=> ?_⟩
 have h1:=G8 (f:=Aq) (List.getElem_mem hi)
 have h2:Aq g.commits[i]=g.commits[i].ups.length+Ad g.commits[i].state:=rfl
 omega
theorem Mf (σ:St) (cs:List GV) (g:Graph) (hR:Ay.R σ g cs) (k:Int) (hl:g.commits.length≤1048576):Ret Tryz.prog Rt [.agg cs,gi k] σ (.bool (inB k 0 ((g.commits.length:Int) - 1))) σ:=by
 obtain⟨v,rfl,hv⟩:=hR
 refine Em A18 (Z0z rfl) trivial ?_
 simp +contextual (disch:=omega) only[go_sem,Ru,hv.len]
 intro n f τ H
 try simp +contextual (disch:=omega) only[go_sem,hv.len]
 refine by_r H (Bn _ _ _ _) ?_
 try simp +contextual (disch:=omega) only[go_sem]
 try exact fun _=>rfl
theorem A1a (τ:St) (x:Commit) (cs:List GV) (hx:Am.R τ x cs) (g:Nat) (d:Dot) (hg:rdB τ g=some [gi d.rep,gi d.seq]):Ret Tryz.prog N4 [.agg cs,.ptr g 0] τ (.bool (decide (x.id=d))) τ:=by
 obtain⟨u,k0,k1,k2,k3,rfl,_⟩:=Rx hx
 have F1:ldG true 2 τ (.ptr g 0)=some (.agg [gi d.rep,gi d.seq]):=by rw[A5 hg];rfl
 refine Em A3y (Z0z rfl) trivial ?_
 simp +contextual (disch:=omega) only[go_sem,Vq,fun h τ'=>A6w (h:=h) (τ:=τ') F1]
 try
  intro n f τ1 H
  try simp +contextual (disch:=omega) only[go_sem,fun h τ'=>A6w (h:=h) (τ:=τ') F1]
  try exact fun _=>rfl
theorem Hn (σ:St) (v:GV) (l:List Commit) (h:RS Am σ v l) (hl:l.length≤1099511627776) (f:Nat) (cs:List (Nat×Nat)) (p:Commit→Bool) (hf:∀(τ:St) (x:Commit) (ds:List GV),σ <+: τ→Am.R τ x ds→Ret Tryz.prog f (.agg ds::cs.map fun c=>.ptr c.1 c.2) τ (.bool (p x)) τ):
  Ret Tryz.prog Bo [v,.fn f cs] σ (gi (match l.findIdx? p with|some k=>(k:Int)|none=> -1)) σ:=by
 refine Em Dh (Z0z rfl) trivial ?_
 simp +contextual (disch:=omega) only[go_sem,Bp,h.len]
 refine Bs l.length 8 0 (fun i env hh=>env 0=v∧env 1= .fn f cs∧env 7=gi l.length∧(∀ j (hj:j<i) (hl:j<l.length),p l[j]=false)∧hh=[]) (fun env hh=>l.findIdx? p=none) (fun env hh=>env 4=gi (match l.findIdx? p with|some k=>(k:Int)|none=> -1)) _ (Hx.refl σ) (by simp +contextual (disch:=omega) only[go_sem]) ⟨by simp +contextual (disch:=omega) only[go_sem],by simp +contextual (disch:=omega) only[go_sem],by simp +contextual (disch:=omega) only[go_sem],fun j hj=>by omega,rfl⟩ ?_ ?_ ?_ ?_
 ·rintro J Y W hJ hY hW i env h' τ hi e8 c0 H ⟨e0,e1,e7,ha,rfl⟩
  obtain⟨u,k0,k1,k2,k3,C,hC,_,_⟩:=Dk h hi
  simp +contextual (disch:=omega) only[go_sem,c0,e0,e1,e7,e8,A4,C]
  refine by_b H (hf τ l[i] _ H.sub (Am.pre hC H.sub)) (fun h1=> ?_) (fun h1=> ?_)
  ·have hq:l.findIdx? p=some i:=List.findIdx?_eq_some_iff_getElem.2 ⟨hi,h1,fun j hj=>by simp[ha j hj (by omega)]⟩
   simp +contextual (disch:=omega) only[go_sem,e8]
   exact hW _ _ _ H (by simp +contextual (disch:=omega) only[go_sem,hq])
  ·simp +contextual (disch:=omega) only[go_sem,e8]
   refine hJ _ _ _ _ H ⟨by simp +contextual (disch:=omega) only[go_sem,e0],by simp +contextual (disch:=omega) only[go_sem,e1],by simp +contextual (disch:=omega) only[go_sem,e7],fun j hj hl=> ?_,rfl⟩
   rcases Nat.lt_or_ge j i with h2|h2
   ·exact ha j h2 hl
   ·have:j=i:=by omega
    subst this;exact h1
 ·rintro Y hY env h' τ e8 c0 H ⟨e0,e1,e7,ha,rfl⟩
  simp +contextual (disch:=omega) only[go_sem,c0,e7,e8]
  refine hY _ _ _ H ?_
  rw[List.findIdx?_eq_none_iff]
  intro x hx
  obtain⟨j,hj,rfl⟩:=List.getElem_of_mem hx
  exact ha j hj hj
 ·rintro env h' τ H hq
  simp +contextual (disch:=omega) only[go_sem,hq]
  try exact fun _=>rfl
 ·rintro env h' τ H e4
  simp +contextual (disch:=omega) only[go_sem,e4]
  try exact fun _=>rfl
theorem A8m (σ:St) (cs:List GV) (g:Graph) (hR:Ay.R σ g cs) (d:Dot) (hl:g.commits.length≤1048576):Ret Tryz.prog A75 [.agg cs,.agg [gi d.rep,gi d.seq]] σ (gi (atId g d)) σ:=by
 obtain⟨v,rfl,hv⟩:=hR
 refine Em Abh (Z0z rfl) trivial ?_
 simp +contextual (disch:=omega) only[go_sem,A76]
 intro n2 f2 τ1 _ n3 f3 τ H
 have hq:=H.hp.pt 0 rfl
 refine by_r H (Hn τ v g.commits (hv.pre H.sub) (by omega) N4 [(n3,0)] (fun c=>decide (c.id=d)) (fun τ' x ds hp hx=>A1a τ' x ds hx n3 d (Aw hp hq))) ?_
 simp +contextual (disch:=omega) only[go_sem,atId]
 try exact fun _=>rfl
theorem A8n (σ:St) (cs:List GV) (g:Graph) (hR:Ay.R σ g cs) (d:Dot) (hl:g.commits.length≤1048576):Ret Tryz.prog A77 [.agg cs,.agg [gi d.rep,gi d.seq]] σ (gi (atId g d)) σ:=by
 obtain⟨v,rfl,hv⟩:=hR
 refine Em Abi (Z0z rfl) trivial ?_
 simp +contextual (disch:=omega) only[go_sem,A78]
 intro n2 f2 τ1 _ n3 f3 τ H
 refine Bs g.commits.length 5 0 (fun i env hh=>env 2= .ptr n2 0∧env 3= .ptr n3 0∧(∀ j (hj:j<i) (hl:j<g.commits.length),decide (g.commits[j].id=d)=false)∧hh=[.box 1 n3 [gi d.rep,gi d.seq],.box 1 n2 [v,gi g.head]]) (fun env hh=>atId g d= -1) (fun env hh=>env 4=gi (atId g d)) _ H (by simp +contextual (disch:=omega) only[go_sem]) ⟨by simp +contextual (disch:=omega) only[go_sem],by simp +contextual (disch:=omega) only[go_sem],fun j hj=>by omega,rfl⟩ ?_ ?_ ?_ ?_
 ·clear H
  rintro J Y W hJ hY hW i env h' τ hi e5 c0 H ⟨e2,e3,ha,rfl⟩
  obtain⟨u,k0,k1,k2,k3,C,hC,_,_⟩:=Dk hv hi
  cases h1:decide (g.commits[i].id=d) with
  |true=>
   have hq:g.commits.findIdx? (fun c=>decide (c.id=d))=some i:=List.findIdx?_eq_some_iff_getElem.2 ⟨hi,h1,fun j hj=>by simp[ha j hj (by omega)]⟩
   have hq:atId g d=i:=by simp only[atId,hq]
   simp +contextual (disch:=omega) only[go_sem,c0,e2,e3,e5,A4,C,hv.len,h1]
   exact hW _ _ _ H (by simp +contextual (disch:=omega) only[go_sem,hq])
  |false=>
   simp +contextual (disch:=omega) only[go_sem,c0,e2,e3,e5,A4,C,hv.len,h1]
   refine hJ _ _ _ _ H ⟨by simp +contextual (disch:=omega) only[go_sem,e2],by simp +contextual (disch:=omega) only[go_sem,e3],fun j hj hl=> ?_,rfl⟩
   rcases Nat.lt_or_ge j i with h2|h2
   ·exact ha j h2 hl
   ·have:j=i:=by omega
    subst this;exact h1
 ·clear H
  rintro Y hY env h' τ e5 c0 H ⟨e2,e3,ha,rfl⟩
  simp +contextual (disch:=omega) only[go_sem,c0,e2,e5,hv.len]
  refine hY _ _ _ H ?_
  have hq:g.commits.findIdx? (fun c=>decide (c.id=d))=none:=by
   rw[List.findIdx?_eq_none_iff]
   intro x hx
   obtain⟨j,hj,rfl⟩:=List.getElem_of_mem hx
   exact ha j hj hj
  simp only[atId,hq]
 ·rintro env h' τ H hq
  simp +contextual (disch:=omega) only[go_sem,hq]
  try exact fun _=>rfl
 ·rintro env h' τ H e4
  simp +contextual (disch:=omega) only[go_sem,e4]
  try exact fun _=>rfl
theorem Eb {g:Graph} {k:Nat} {x:Commit} {i:Nat} (hi:i<x.ups.length) (h:upP g k x i=false):Bf g k x=false:=by
 unfold Bf
 rw[Kg hi h]
 simp
set_option maxHeartbeats 4000000 in
theorem Mg (σ:St) (cs:List GV) (g:Graph) (hR:Ay.R σ g cs) (k:Nat) (hk:k<g.commits.length) (hm:Ci g≤1048576):Ret Tryz.prog Rv [.agg cs,gi k] σ (.bool (Id g k)) σ:=by
 rw[Lr hk]
 obtain⟨hl,hb⟩:=Ok hm
 have hR0:=hR
 obtain⟨v,rfl,hv⟩:=hR
 obtain⟨u,k0,k1,k2,k3,C,hC,hU,hS⟩:=Dk hv hk
 obtain⟨b1,b2⟩:=hb k hk
 obtain⟨x,hx⟩:∃ x,x=g.commits[k]:=⟨_,rfl⟩
 rw[← hx] at C hC hU hS b1 b2 ⊢
 refine Em A19 (Z0z rfl) trivial ?_
 simp +contextual (disch:=omega) only[go_sem,Rw]
 intro n2 f2 τ1 H1
 simp +contextual (disch:=omega) only[go_sem,A4,C]
 intro n5 f5 τ2 _ τ H
 have ne52:n2<n5:=f5.1
 have g2:σ.length≤n2:=f2
 have S:=H.sub
 refine by_r H (Tv τ x.id) ?_
 cases h1:G5 x.id with
 |false=>
  have d:Bf g k x=false:=by simp[Bf,h1]
  simp +contextual (disch:=omega) only[go_sem,d]
  try exact fun _=>rfl
 |true=>
  simp +contextual (disch:=omega) only[go_sem]
  refine by_r H (A8m τ _ g (Ay.pre hR0 S) x.id hl) ?_
  by_cases h2:atId g x.id=k
  rotate_left
  ·have b:(atId g x.id != (k:Int))=true:=by simpa using h2
   have d:Bf g k x=false:=by simp[Bf,h2]
   simp +contextual (disch:=omega) only[go_sem,b,d]
   try exact fun _=>rfl
  have b:(atId g x.id != (k:Int))=false:=by simp[h2]
  simp +contextual (disch:=omega) only[go_sem,b]
  refine by_r H (Ec τ _ x.state (A9.pre hS S) (by omega)) ?_
  cases h3:Bh x.state with
  |false=>
   have d:Bf g k x=false:=by simp[Bf,h3]
   simp +contextual (disch:=omega) only[go_sem,d]
   try exact fun _=>rfl
  |true=>
   by_cases h4:x.ups.length≤2
   rotate_left
   ·have b4:decide (2<(x.ups.length:Int))=true:=by simp;omega
    have d:Bf g k x=false:=by simp[Bf,h4]
    simp +contextual (disch:=omega) only[go_sem,b4,d,hU.len]
    try exact fun _=>rfl
   have b4:decide (2<(x.ups.length:Int))=false:=by simp;omega
   simp +contextual (disch:=omega) only[go_sem,b4,hU.len]
   refine Bs x.ups.length 40 0 (fun i env hh=>env 1=gi k∧env 2= .ptr n2 0∧env 5= .ptr n5 0∧env 38=u∧env 39=gi x.ups.length∧(∀ j,j<i→upP g k x j=true)∧hh=[.box 1 n5 (comV x u k0 k1 k2 k3),.box 1 n2 [v,gi g.head]]) (fun env hh=>Bf g k x=true) (fun env hh=>env 4= .bool false∧Bf g k x=false) _ H (by simp +contextual (disch:=omega) only[go_sem]) ⟨by simp +contextual (disch:=omega) only[go_sem],by simp +contextual (disch:=omega) only[go_sem],by simp +contextual (disch:=omega) only[go_sem],by simp +contextual (disch:=omega) only[go_sem],by simp +contextual (disch:=omega) only[go_sem],fun j hj=>by omega,rfl⟩ ?_ ?_ ?_ ?_
   ·clear H H1 S
    rintro J Y W hJ hY hW i env h' τ hi e40 c0 H ⟨e1,e2,e5,e38,e39,ha,rfl⟩
    have S:=H.sub
    have L1:=Db hU hi
    have hup:upP g k x i=(inB x.ups[i] 0 ((k:Int) - 1)&&((decide (i=0)||decide (x.ups[i - 1]?.getD 0<x.ups[i]))&&behind (stAt g x.ups[i]) x.state)):=by
     unfold upP;rw[List.getElem?_eq_getElem hi]
    simp +contextual (disch:=omega) only[go_sem,c0,e1,e2,e5,e38,e39,e40,A4,L1]
    refine by_r H (Bn _ _ _ _) ?_
    cases hA:inB x.ups[i] 0 ((k:Int) - 1) with
    |false=>
     simp +contextual (disch:=omega) only[go_sem]
     exact hW _ _ _ H ⟨by simp +contextual (disch:=omega) only[go_sem],Eb hi (by rw[hup,hA];rfl)⟩
    |true=>
     have hA2:=Cc.1 hA
     obtain⟨un,hun⟩:∃ un:Nat,x.ups[i]=un:=⟨x.ups[i].toNat,by omega⟩
     have hul:un<g.commits.length:=by omega
     have nu:Bk (some (GV.int .i64 x.ups[i]))=some un:=C5 hun
     obtain⟨u',j0,j1,j2,j3,C',hC',hU',hS'⟩:=Dk hv hul
     have hst:stAt g x.ups[i]=g.commits[un].state:=Qe hun hul
     have hbu:=(hb un hul).2
     have step:∀ env',(decide (i=0)||decide (x.ups[i - 1]?.getD 0<x.ups[i]))=true→behind (stAt g x.ups[i]) x.state=true→env' 1=gi k→env' 2= .ptr n2 0→env' 5= .ptr n5 0→env' 38=u→env' 39=gi x.ups.length→J (i+1) env' τ:=fun env' q1 q2 a1 a2 a5 a38 a39=>hJ _ _ _ _ H ⟨a1,a2,a5,a38,a39,fun j hj=>by
      rcases Nat.lt_or_ge j i with h2|h2
      ·exact ha j h2
      ·have:j=i:=by omega
       subst this
       rw[hup,hA,q1,q2];rfl,rfl⟩
     by_cases hi0:i=0
     ·have bi:decide (0<(i:Int))=false:=by simp;omega
      simp +contextual (disch:=omega) only[go_sem,bi,e1,e2,e5,e38,e39,e40,A4,nu,C']
      refine by_b H (L4 τ _ _ g.commits[un].state x.state (A9.pre hS' S) (A9.pre hS S) (by omega) (by omega)) (fun hB=> ?_) (fun hB=> ?_)
      ·simp +contextual (disch:=omega) only[go_sem,e40]
       exact step _ (by simp[hi0]) (by rw[hst];exact hB) (by simp +contextual (disch:=omega) only[go_sem,e1]) (by simp +contextual (disch:=omega) only[go_sem,e2]) (by simp +contextual (disch:=omega) only[go_sem,e5]) (by simp +contextual (disch:=omega) only[go_sem,e38]) (by simp +contextual (disch:=omega) only[go_sem,e39])
      ·simp +contextual (disch:=omega) only[go_sem]
       exact hW _ _ _ H ⟨by simp +contextual (disch:=omega) only[go_sem],Eb hi (by rw[hup,hst,hB];simp)⟩
     ·have bi:decide (0<(i:Int))=true:=by simp;omega
      have np:Bk (some (GV.int .i64 ((i:Int) - 1)))=some (i - 1):=C5 (by omega)
      have hi1:i - 1<x.ups.length:=by omega
      have L2:=Db hU hi1
      have hg:x.ups[i - 1]?.getD 0=x.ups[i - 1]:=by rw[List.getElem?_eq_getElem hi1];rfl
      by_cases hC2:x.ups[i - 1]<x.ups[i]
      ·have bC:decide (x.ups[i]≤x.ups[i - 1])=false:=by simp;omega
       simp +contextual (disch:=omega) only[go_sem,bi,bC,e1,e2,e5,e38,e39,e40,A4,nu,np,L2,C']
       refine by_b H (L4 τ _ _ g.commits[un].state x.state (A9.pre hS' S) (A9.pre hS S) (by omega) (by omega)) (fun hB=> ?_) (fun hB=> ?_)
       ·simp +contextual (disch:=omega) only[go_sem,e40]
        exact step _ (by rw[hg];simp[hC2]) (by rw[hst];exact hB) (by simp +contextual (disch:=omega) only[go_sem,e1]) (by simp +contextual (disch:=omega) only[go_sem,e2]) (by simp +contextual (disch:=omega) only[go_sem,e5]) (by simp +contextual (disch:=omega) only[go_sem,e38]) (by simp +contextual (disch:=omega) only[go_sem,e39])
       ·simp +contextual (disch:=omega) only[go_sem]
        exact hW _ _ _ H ⟨by simp +contextual (disch:=omega) only[go_sem],Eb hi (by rw[hup,hst,hB];simp)⟩
      ·have bC:decide (x.ups[i]≤x.ups[i - 1])=true:=by simp;omega
       simp +contextual (disch:=omega) only[go_sem,bi,bC,e1,e2,e5,e38,e39,e40,A4,nu,np,L2,C']
       exact hW _ _ _ H ⟨by simp +contextual (disch:=omega) only[go_sem],Eb hi (by rw[hup,hg];simp[hi0,hC2])⟩
   ·clear H H1 S
    rintro Y hY env h' τ e40 c0 H ⟨e1,e2,e5,e38,e39,ha,rfl⟩
    simp +contextual (disch:=omega) only[go_sem,c0,e39,e40]
    exact hY _ _ _ H (by simp[Bf,h1,h2,h3,h4,Fl ha])
   ·rintro env h' τ H d
    simp +contextual (disch:=omega) only[go_sem,d]
    try exact fun _=>rfl
   ·rintro env h' τ H ⟨e4,d⟩
    simp +contextual (disch:=omega) only[go_sem,e4,d]
    try exact fun _=>rfl
theorem Qf {g:Graph} {k:Nat} (hk:k<g.commits.length) (h:Id g k=false):C7 g=false:=by
 unfold C7
 rw[Kg hk h]
 simp
set_option maxHeartbeats 2000000 in
theorem A1b (σ:St) (cs:List GV) (g:Graph) (hR:Ay.R σ g cs) (hm:Ci g≤1048576):Ret Tryz.prog Vr [.agg cs] σ (.bool (C7 g)) σ:=by
 obtain⟨hl,hb⟩:=Ok hm
 have hR0:=hR
 obtain⟨v,rfl,hv⟩:=hR
 refine Em A3z (Z0z rfl) trivial ?_
 simp +contextual (disch:=omega) only[go_sem,Vs]
 intro n1 f1 τ H
 have S:=H.sub
 by_cases h1:g.commits.length≤80
 rotate_left
 ·have b1:decide (80<(g.commits.length:Int))=true:=by simp;omega
  have d:C7 g=false:=by simp[C7,h1]
  simp +contextual (disch:=omega) only[go_sem,b1,d,hv.len]
  try exact fun _=>rfl
 have b1:decide (80<(g.commits.length:Int))=false:=by simp;omega
 have main:inB g.head (-1) ((g.commits.length:Int) - 1)=true→∀ env:Env,env 1= .ptr n1 0→True:=fun _ _ _=>trivial
 have loop:inB g.head (-1) ((g.commits.length:Int) - 1)=true→C7 g=allR g.commits.length (Id g):=fun h=>by simp[C7,h1,h]
 by_cases h2:g.head= -1
 ·have b2:(g.head != -1)=false:=by simp[h2]
  have hin:inB g.head (-1) ((g.commits.length:Int) - 1)=true:=Cc.2 (by omega)
  simp +contextual (disch:=omega) only[go_sem,b1,b2,hv.len]
  refine Bs g.commits.length 23 0 (fun i env hh=>env 1= .ptr n1 0∧env 22=gi g.commits.length∧(∀ j,j<i→Id g j=true)∧hh=[.box 1 n1 [v,gi g.head]]) (fun env hh=>C7 g=true) (fun env hh=>env 2= .bool false∧C7 g=false) _ H (by simp +contextual (disch:=omega) only[go_sem]) ⟨by simp +contextual (disch:=omega) only[go_sem],by simp +contextual (disch:=omega) only[go_sem],fun j hj=>by omega,rfl⟩ ?_ ?_ ?_ ?_
  ·clear H S
   rintro J Y W hJ hY hW i env h' τ hi e23 c0 H ⟨e1,e22,ha,rfl⟩
   simp +contextual (disch:=omega) only[go_sem,c0,e1,e22,e23]
   refine by_b H (Mg τ _ g (Ay.pre hR0 H.sub) i hi hm) (fun hB=> ?_) (fun hB=> ?_)
   ·simp +contextual (disch:=omega) only[go_sem,e23]
    exact hJ _ _ _ _ H ⟨by simp +contextual (disch:=omega) only[go_sem,e1],by simp +contextual (disch:=omega) only[go_sem,e22],fun j hj=>by
     rcases Nat.lt_or_ge j i with h2|h2
     ·exact ha j h2
     ·have:j=i:=by omega
      subst this;exact hB,rfl⟩
   ·simp +contextual (disch:=omega) only[go_sem]
    exact hW _ _ _ H ⟨by simp +contextual (disch:=omega) only[go_sem],Qf hi hB⟩
  ·clear H S
   rintro Y hY env h' τ e23 c0 H ⟨e1,e22,ha,rfl⟩
   simp +contextual (disch:=omega) only[go_sem,c0,e22,e23]
   exact hY _ _ _ H (by rw[loop hin];exact Fl ha)
  ·rintro env h' τ H d
   simp +contextual (disch:=omega) only[go_sem,d]
   try exact fun _=>rfl
  ·rintro env h' τ H ⟨e4,d⟩
   simp +contextual (disch:=omega) only[go_sem,e4,d]
   try exact fun _=>rfl
 ·have b2:(g.head != -1)=true:=by simpa using h2
  simp +contextual (disch:=omega) only[go_sem,b1,b2,hv.len]
  refine by_b H (Mf τ _ g (Ay.pre hR0 S) g.head hl) (fun h3=> ?_) (fun h3=> ?_)
  rotate_left
  ·have d:C7 g=false:=by
    have:inB g.head (-1) ((g.commits.length:Int) - 1)=false:=by
     cases e:inB g.head (-1) ((g.commits.length:Int) - 1) with
     |false=>rfl
     |true=>
      have:=Cc.1 e
      have h4:inB g.head 0 ((g.commits.length:Int) - 1)=true:=Cc.2 (by omega)
      rw[h3] at h4;cases h4
    simp[C7,this]
   simp +contextual (disch:=omega) only[go_sem,d]
   try exact fun _=>rfl
  have h4:=Cc.1 h3
  have hin:inB g.head (-1) ((g.commits.length:Int) - 1)=true:=Cc.2 (by omega)
  simp +contextual (disch:=omega) only[go_sem,hv.len]
  refine Bs g.commits.length 23 0 (fun i env hh=>env 1= .ptr n1 0∧env 22=gi g.commits.length∧(∀ j,j<i→Id g j=true)∧hh=[.box 1 n1 [v,gi g.head]]) (fun env hh=>C7 g=true) (fun env hh=>env 2= .bool false∧C7 g=false) _ H (by simp +contextual (disch:=omega) only[go_sem]) ⟨by simp +contextual (disch:=omega) only[go_sem],by simp +contextual (disch:=omega) only[go_sem],fun j hj=>by omega,rfl⟩ ?_ ?_ ?_ ?_
  ·clear H S
   rintro J Y W hJ hY hW i env h' τ hi e23 c0 H ⟨e1,e22,ha,rfl⟩
   simp +contextual (disch:=omega) only[go_sem,c0,e1,e22,e23]
   refine by_b H (Mg τ _ g (Ay.pre hR0 H.sub) i hi hm) (fun hB=> ?_) (fun hB=> ?_)
   ·simp +contextual (disch:=omega) only[go_sem,e23]
    exact hJ _ _ _ _ H ⟨by simp +contextual (disch:=omega) only[go_sem,e1],by simp +contextual (disch:=omega) only[go_sem,e22],fun j hj=>by
     rcases Nat.lt_or_ge j i with h2|h2
     ·exact ha j h2
     ·have:j=i:=by omega
      subst this;exact hB,rfl⟩
   ·simp +contextual (disch:=omega) only[go_sem]
    exact hW _ _ _ H ⟨by simp +contextual (disch:=omega) only[go_sem],Qf hi hB⟩
  ·clear H S
   rintro Y hY env h' τ e23 c0 H ⟨e1,e22,ha,rfl⟩
   simp +contextual (disch:=omega) only[go_sem,c0,e22,e23]
   exact hY _ _ _ H (by rw[loop hin];exact Fl ha)
  ·rintro env h' τ H d
   simp +contextual (disch:=omega) only[go_sem,d]
   try exact fun _=>rfl
  ·rintro env h' τ H ⟨e4,d⟩
   simp +contextual (disch:=omega) only[go_sem,e4,d]
   try exact fun _=>rfl
end
section
open Go Go.RowKit
def bun (rs:List Thg):Thg:=⟨fun τ fp=>sat τ rs fp,fun h hf=>h.loc hf⟩
theorem A5z {τ:St} {rs:List Thg}:∀ {xs:List Thg} {fp:List Nat},sat τ (xs++rs) fp↔sat τ (xs++[bun rs]) fp
 |[],fp=>⟨fun h=>⟨fp,[],h,rfl,by simp⟩,fun⟨a,b,h,hb,e⟩=>by
  have hb:b=[]:=hb
  subst hb
  rw[e,List.append_nil];exact h⟩
 |x::xs,fp=>⟨fun ⟨a,b,h,hs,e⟩=>⟨a,b,h,A5z.1 hs,e⟩,fun⟨a,b,h,hs,e⟩=>⟨a,b,h,A5z.2 hs,e⟩⟩
theorem Hp.bun {σ τ:St} (xs rs:List Thg) (H:Hp σ τ (xs++rs)):Hp σ τ (xs++[bun rs]):=by
 obtain⟨h,fp,hs,hn,hb⟩:=H
 exact⟨h,fp,A5z.1 hs,hn,hb⟩
end
section
open Go Go.RowKit
def told {α:Type} (d:Kd α):Kd (α×List GV) where
 z:=d.z
 R σ x cs:=d.R σ x.1 cs∧cs=x.2
 O σ x cs fp:=d.O σ x.1 cs fp∧cs=x.2
 len:=fun h=>d.len h.1
 pre:=fun h hp=>⟨d.pre h.1 hp,h.2⟩
 rd:=fun h=>⟨d.rd h.1,h.2⟩
 loc:=fun h hf=>⟨d.loc h.1 hf,h.2⟩
section
variable {α:Type} {d:Kd α} {σ τ:St} {rs:List Thg} {v:GV} {l:List α} {m:List (α×List GV)} {h:List Item}
def shs (d:Kd α) (l:List (List GV×α)):Thg:=⟨fun τ fp=>∃ os:List (List GV×α),sat τ (os.map fun x=>own d x.1 x.2) fp∧∀ x∈l,x∈os,fun {σ τ fp} h hf=>by
 obtain⟨os,hs,hm⟩:=h
 exact⟨os,sat.loc hs hf,hm⟩⟩
variable {s s':List (List GV×α)} {cs:List GV} {x:α}
end
end
section
open Go Go.RowKit
abbrev n_s_l05Act:Nat:=278
def F_s_l05Act:Fn1:=⟨57,[.c 2 true 10],(rg [o 2 (.new [z0,z0,z0,.nilS,z0,(.str ⟨#[]⟩),(.str ⟨#[]⟩),z0,z0,z0])] (rg [oM 5 0,oC 6 347 5,oM 7 0,o 8 (.call 163 [(.t 7),(ki 9)]),o 9 (.bin .add (ki 1) (.t 8)),oM 10 0,oC 11 344 10,oM 12 0,o 13 (.call 163 [(.t 12),(ki 7)]),o 14 (.bin .add (ki 1) (.t 13)),oM 15 0,oC 16 293 15,o 17 (.build [z0,z0,z0,.nilS,z0,(.str ⟨#[]⟩),(.str ⟨#[]⟩),z0,z0,z0] [(0,2,(.t 6)),(2,1,(.t 9)),(3,1,(.t 11)),(4,1,(.t 14)),(5,1,(.t 16))]),o 3 (.new [z0,z0,z0,.nilS,z0,(.str ⟨#[]⟩),(.str ⟨#[]⟩),z0,z0,z0]),oS 10 3 17] (rg [oF 18 3 3,oL 19 18,oF 20 0 3,oF 21 0 20,oL 22 21,oF 23 0 3,oF 24 1 23,oL 25 24,o 26 (.bin .sub (.t 25) (ki 1)),oI 27 1 19 22,oS 1 27 26] (.seq (rg [oF 28 4 3,oL 29 28,oC 30 332 29] (.cnd (.t 30) (.reg [oM 31 0,oC 32 201 31,oF 33 6 3,oS 1 33 32]) .skip)) (.seq (rg [oF 34 4 3,oL 35 34,oC 36 333 35] (.cnd (.t 36) (.reg [oM 37 0,o 38 (.lit 1 4 [z0,z0,z0,z0] [(0,1,(ki 0)),(1,1,(ki 1)),(2,1,(ki 7)),(3,1,(ki 999999))]),oD 39 331 37 38,oF 40 7 3,oS 1 40 39]) .skip)) (.seq (rg [oF 41 4 3,oL 42 41,o 43 (.bin .geq (.t 42) (ki 6))] (.cnd (.t 43) (rg [oM 44 0,oC 45 347 44,o 4 (.new [z0,z0]),oS 2 4 45] (rg [oF 46 3 3,oL 47 46,oW 48 2 4,oD 49 45 47 48] (.cnd (.t 49) (.reg [oW 50 2 4,oF 51 8 3,oS 2 51 50]) (rg [oF 52 4 3,oL 53 52,o 54 (.bin .eql (.t 53) (ki 7))] (.cnd (.t 54) (.reg [oF 55 4 3,on (.st 1 (.t 55) (ki 6))]) .skip))))) .skip)) (rg [oW 56 10 3,oS 10 2 56] .ret)))))))⟩
abbrev n_s_l05Any:Nat:=175
def F_s_l05Any:Fn1:=⟨65,[.c 2 true 10],(rg [o 2 (.new [z0,z0,z0,.nilS,z0,(.str ⟨#[]⟩),(.str ⟨#[]⟩),z0,z0,z0])] (rg [oM 6 0,o 7 (.call 163 [(.t 6),(ki 12)]),oM 3 7] (rg [oM 8 0,o 9 (.call 163 [(.t 8),(ki 60)]),oM 4 9] (rg [oM 10 0,oC 11 278 10,oC 12 211 11,o 5 (.new [z0,z0,z0,.nilS,z0,(.str ⟨#[]⟩),(.str ⟨#[]⟩),z0,z0,z0]),oS 10 5 12] (.seq (rg [oM 13 3] (.blk 0 (rg [o 15 (.bin .eql (.t 13) (ki 0)),oM 14 15] (.cnd (.t 14) (.reg [oM 16 4,o 17 (.bin .rem (.t 16) (ki 7)),oF 18 0 5,oF 19 1 18,oS 1 19 17]) (rg [o 21 (.bin .eql (.t 13) (ki 1)),oM 20 21] (.cnd (.t 20) (.reg [o 22 (.lit 1 3 [z0,z0,z0] [(0,1,(ki 0)),(1,1,(ki 10000)),(2,1,(ki 10001))]),oM 23 4,o 24 (.bin .rem (.t 23) (ki 3)),oI 25 1 22 24,oL 26 25,oF 27 2 5,oS 1 27 26]) (rg [o 29 (.bin .eql (.t 13) (ki 2)),oM 28 29] (.cnd (.t 28) (.reg [oM 30 4,o 31 (.bin .rem (.t 30) (ki 10)),oF 32 4 5,oS 1 32 31]) (rg [o 34 (.bin .eql (.t 13) (ki 3)),oM 33 34] (.cnd (.t 33) (.reg [o 35 (.lit 1 3 [(.str ⟨#[]⟩),(.str ⟨#[]⟩),(.str ⟨#[]⟩)] [(0,1,(.k (.str ⟨#[]⟩))),(1,1,(.k (.str ⟨#[120]⟩))),(2,1,(.k (.str ⟨#[88]⟩)))]),oM 36 4,o 37 (.bin .rem (.t 36) (ki 3)),oI 38 1 35 37,oL 39 38,oF 40 6 5,oS 1 40 39]) (rg [o 42 (.bin .eql (.t 13) (ki 4)),oM 41 42] (.cnd (.t 41) (.reg [o 43 (.lit 1 3 [z0,z0,z0] [(0,1,(ki (-1))),(1,1,(ki 5)),(2,1,(ki 1000000))]),oM 44 4,o 45 (.bin .rem (.t 44) (ki 3)),oI 46 1 43 45,oL 47 46,oF 48 7 5,oS 1 48 47]) (rg [o 50 (.bin .eql (.t 13) (ki 5)),oM 49 50] (.cnd (.t 49) (.reg [oM 51 4,o 52 (.bin .rem (.t 51) (ki 4)),oM 53 4,o 54 (.bin .rem (.t 53) (ki 3)),o 55 (.build [z0,z0] [(0,1,(.t 52)),(1,1,(.t 54))]),oF 56 8 5,oS 2 56 55]) (rg [o 58 (.bin .eql (.t 13) (ki 6)),oM 57 58] (.cnd (.t 57) (.reg [oF 59 3 5,oL 60 59,o 61 (.lit 1 1 [z0] [(0,1,(ki 1))]),o 62 (.app 1 8 [z0] (.t 60) (.t 61)),oF 63 3 5,oS 1 63 62]) .skip)))))))))))))))) (rg [oW 64 10 5,oS 10 2 64] .ret))))))⟩
section
variable {P:Program} {σ:St} {env:Env} {h:List Item} {τ:St} {Q:Qx} {a b:Cd}
end
section
variable {σ0 σ:St} {h:List Item} {c v:GV} {bs:List Int}
end
end
section
open Go Go.RowKit
abbrev n_s_LogOk:Nat:=328
def F_s_LogOk:Fn1:=⟨95,[.t 2],(rg [oX 1 0,oV 2 kf] (.seq (.seq (.drw [oF 8 0 1,oL 9 8,o 10 (.call 122 [(.t 9),(ki 0),(ki 2)]),oU 11 10,oM 12 11,og 13 12 false (.fad 1 (.t 1)),og 14 12 false (.ld false 1 (.t 13)),og 15 12 false (.call 122 [(.t 14),(ki 0),(ki 10000)]),og 16 12 false (.un .not (.t 15)),o 17 (.pick (.t 12) kt (.t 16)),oM 18 17,og 19 18 false (.fad 6 (.t 1)),og 20 18 false (.ld false 1 (.t 19)),og 21 18 false (.len false (.t 20)),og 22 18 false (.bin .gtr (.t 21) (ki 60)),o 23 (.pick (.t 18) kt (.t 22)),oM 24 23,og 25 24 false (.fad 7 (.t 1)),og 26 24 false (.ld false 1 (.t 25)),og 27 24 false (.len false (.t 26)),og 28 24 false (.bin .gtr (.t 27) (ki 6)),o 29 (.pick (.t 24) kt (.t 28)),oM 30 29,og 31 30 false (.fad 2 (.t 1)),og 32 30 false (.ld true 4 (.t 31)),og 33 30 false (.call 277 [(.t 32)]),og 34 30 false (.fad 1 (.t 1)),og 35 30 false (.ld false 1 (.t 34))] [og 36 30 false (.bin .gtr (.t 33) (.t 35)),o 37 (.pick (.t 30) kt (.t 36))]) (.cnd (.t 37) (rg [oV 2 kf] .ret) .skip)) (.seq (rg [oV 3 (ki 0)] (.blk 0 (.lop (.seq (rg [oM 38 3,oF 39 7 1,oL 40 39,oN 41 40,oB 42 .lss 38 41] (.cnd (.t 42) .skip (.ext 0))) (.seq (.blk 1 (rg [oF 45 7 1,oL 46 45,oM 47 3,oI 48 17 46 47,oW 49 17 48,oC 50 97 49,oU 51 50] (.cnd (.t 51) (rg [oV 2 kf] .ret) .skip))) (.reg [oM 43 3,oZ 44 43 1,oM 3 44])))))) (rg [o 52 (.call 43 []),o 4 (.new [.nilS,.nilS,.nilS,.nilS]),oS 4 4 52] (.seq (rg [oV 5 (ki 0)] (.blk 2 (.lop (.seq (rg [oM 53 5,oF 54 6 1,oL 55 54,oN 56 55,oB 57 .lss 53 56] (.cnd (.t 57) .skip (.ext 2))) (.seq (.blk 3 (.seq (.seq (.drw [oF 60 6 1,oL 61 60,oM 62 5,oI 63 17 61 62,oW 64 17 63,oC 65 97 64,oU 66 65,oM 67 66,og 68 67 false (.fad 6 (.t 1)),og 69 67 false (.ld false 1 (.t 68)),og 70 67 false (.mov (.t 5)),og 71 67 false (.iad 17 (.t 69) (.t 70)),og 72 67 false (.ld true 17 (.t 71)),og 73 67 false (.call 378 [(.t 72)]),og 74 67 false (.fad 1 (.t 1)),og 75 67 false (.ld false 1 (.t 74))] [og 76 67 false (.bin .gtr (.t 73) (.t 75)),o 77 (.pick (.t 67) kt (.t 76))]) (.cnd (.t 77) (rg [oV 2 kf] .ret) .skip)) (.seq (.drw [oW 79 4 4,oF 80 6 1,oL 81 80,oM 82 5,oI 83 17 81 82,oW 84 17 83,oD 85 44 79 84,oM 78 85,o 86 (.ext 0 (.t 78)),o 87 (.ext 1 (.t 78)),o 6 (.new [.nilS,.nilS,.nilS,.nilS])] [oS 4 6 86,oM 7 87]) (.seq (rg [oM 88 7,o 89 (.bin .neq (.t 88) (ki 0))] (.cnd (.t 89) (rg [oV 2 kf] .ret) .skip)) (.reg [oW 90 4 6,oS 4 4 90]))))) (.reg [oM 58 5,oZ 59 58 1,oM 5 59])))))) (rg [oW 91 4 4,oF 92 2 1,oW 93 4 92,oD 94 47 91 93,oM 2 94] .ret))))))⟩
end
section
open Go Go.RowKit
abbrev Ajf:Nat:=210
def Ajg:Fn1:=⟨59,[.t 4],(rg [oX 2 0,oX 3 1,oV 4 kf] (rg [oF 5 0 2,oW 6 2 5,oF 7 0 3,oW 8 2 7,o 9 (.eqs false [.i .i64,.i .i64] (.t 6) (.t 8)),oM 10 9,og 11 10 true (.fad 2 (.t 2)),og 12 10 true (.ld false 1 (.t 11)),og 13 10 true (.fad 2 (.t 3)),og 14 10 true (.ld false 1 (.t 13)),og 15 10 true (.bin .eql (.t 12) (.t 14)),o 16 (.pick (.t 10) (.t 15) kf),oM 17 16,og 18 17 true (.fad 3 (.t 2)),og 19 17 true (.ld false 1 (.t 18)),og 20 17 true (.fad 3 (.t 3)),og 21 17 true (.ld false 1 (.t 20)),og 22 17 true (.call 171 [(.t 19),(.t 21)]),o 23 (.pick (.t 17) (.t 22) kf),oM 24 23,og 25 24 true (.fad 4 (.t 2)),og 26 24 true (.ld false 1 (.t 25)),og 27 24 true (.fad 4 (.t 3)),og 28 24 true (.ld false 1 (.t 27)),og 29 24 true (.bin .eql (.t 26) (.t 28)),o 30 (.pick (.t 24) (.t 29) kf),oM 31 30,og 32 31 true (.fad 5 (.t 2)),og 33 31 true (.ld false 1 (.t 32)),og 34 31 true (.fad 5 (.t 3)),og 35 31 true (.ld false 1 (.t 34)),og 36 31 true (.bin .eql (.t 33) (.t 35)),o 37 (.pick (.t 31) (.t 36) kf),oM 38 37,og 39 38 true (.fad 6 (.t 2)),og 40 38 true (.ld false 1 (.t 39)),og 41 38 true (.fad 6 (.t 3)),og 42 38 true (.ld false 1 (.t 41)),og 43 38 true (.bin .eql (.t 40) (.t 42)),o 44 (.pick (.t 38) (.t 43) kf),oM 45 44,og 46 45 true (.fad 7 (.t 2)),og 47 45 true (.ld false 1 (.t 46)),og 48 45 true (.fad 7 (.t 3)),og 49 45 true (.ld false 1 (.t 48)),og 50 45 true (.bin .eql (.t 47) (.t 49)),o 51 (.pick (.t 45) (.t 50) kf),oM 52 51,og 53 52 true (.fad 8 (.t 2)),og 54 52 true (.ld true 2 (.t 53)),og 55 52 true (.fad 8 (.t 3)),og 56 52 true (.ld true 2 (.t 55)),og 57 52 true (.eqs false [.i .i64,.i .i64] (.t 54) (.t 56)),o 58 (.pick (.t 52) (.t 57) kf),oM 4 58] .ret))⟩
abbrev A8v:Nat:=280
def A8w:Fn1:=⟨58,[.t 4],(rg [oX 2 0,oX 3 1,oV 4 kf] (.seq (rg [oF 6 0 2,oL 7 6,oF 8 0 3,oL 9 8,oD 10 171 7 9,oU 11 10,oM 12 11,og 13 12 false (.fad 4 (.t 2)),og 14 12 false (.ld false 1 (.t 13)),og 15 12 false (.len false (.t 14)),og 16 12 false (.fad 4 (.t 3)),og 17 12 false (.ld false 1 (.t 16)),og 18 12 false (.len false (.t 17)),og 19 12 false (.bin .neq (.t 15) (.t 18)),o 20 (.pick (.t 12) kt (.t 19))] (.cnd (.t 20) (rg [oV 4 kf] .ret) .skip)) (.seq (rg [oV 5 (ki 0)] (.blk 0 (.lop (.seq (rg [oM 21 5,oF 22 4 2,oL 23 22,oN 24 23,oB 25 .lss 21 24] (.cnd (.t 25) .skip (.ext 0))) (.seq (.blk 1 (.seq (.drw [oF 28 4 2,oL 29 28,oM 30 5,oI 31 2 29 30,oW 32 2 31,oF 33 4 3,oL 34 33,oM 35 5,oI 36 2 34 35,oW 37 2 36] [o 38 (.eqs true [.i .i64,.i .i64] (.t 32) (.t 37))]) (.cnd (.t 38) (rg [oV 4 kf] .ret) .skip))) (.reg [oM 26 5,oZ 27 26 1,oM 5 27])))))) (rg [oF 39 1 2,oL 40 39,oF 41 2 2,oL 42 41,oF 43 3 2,oL 44 43,oF 45 5 2,oL 46 45,o 47 (.build [.nilS,.nilS,.nilS,.nilS] [(0,1,(.t 40)),(1,1,(.t 42)),(2,1,(.t 44)),(3,1,(.t 46))]),oF 48 1 3,oL 49 48,oF 50 2 3,oL 51 50,oF 52 3 3,oL 53 52,oF 54 5 3,oL 55 54,o 56 (.build [.nilS,.nilS,.nilS,.nilS] [(0,1,(.t 49)),(1,1,(.t 51)),(2,1,(.t 53)),(3,1,(.t 55))]),oD 57 47 47 56,oM 4 57] .ret))))⟩
abbrev Afn:Nat:=186
def Afo:Fn1:=⟨24,[.t 4],(rg [oX 2 0,oX 3 1,oV 4 kf] (rg [oF 5 0 2,oL 6 5,oF 7 0 3,oL 8 7,o 9 (.eqb false (.t 6) (.t 8)),oM 10 9,og 11 10 true (.fad 1 (.t 2)),og 12 10 true (.ld true 10 (.t 11)),og 13 10 true (.fad 1 (.t 3)),og 14 10 true (.ld true 10 (.t 13)),og 15 10 true (.call 210 [(.t 12),(.t 14)]),o 16 (.pick (.t 10) (.t 15) kf),oM 17 16,og 18 17 true (.fad 11 (.t 2)),og 19 17 true (.ld true 6 (.t 18)),og 20 17 true (.fad 11 (.t 3)),og 21 17 true (.ld true 6 (.t 20)),og 22 17 true (.call 280 [(.t 19),(.t 21)]),o 23 (.pick (.t 17) (.t 22) kf),oM 4 23] .ret))⟩
end
section
open Go Go.RowKit
abbrev n_s_Edited:Nat:=268
def F_s_Edited:Fn1:=⟨70,[.c 4 true 8,.c 5 true 17,.t 6],(rg [oX 2 0,oX 3 1,o 4 (.new [z0,z0,.nilS,.nilS,.nilS,.nilS,.nilS,.nilS]),o 5 (.new [(.bool false),z0,z0,z0,.nilS,z0,(.str ⟨#[]⟩),(.str ⟨#[]⟩),z0,z0,z0,.nilS,.nilS,.nilS,.nilS,.nilS,.nilS]),oV 6 (ki 0)] (rg [oW 12 8 2,oC 13 327 12,o 7 (.new [z0,z0,.nilS,.nilS,.nilS,.nilS,.nilS,.nilS]),oS 8 7 13] (.seq (rg [oW 14 8 2,oC 15 328 14,oU 16 15] (.cnd (.t 16) (rg [oW 17 8 7,o 18 (.build [(.bool false),z0,z0,z0,.nilS,z0,(.str ⟨#[]⟩),(.str ⟨#[]⟩),z0,z0,z0,.nilS,.nilS,.nilS,.nilS,.nilS,.nilS] []),oS 8 4 17,oS 17 5 18,oV 6 (ki 3)] .ret) .skip)) (rg [oF 20 2 2,oW 21 4 20,oF 22 0 2,oL 23 22,oF 24 1 2,oL 25 24,oZ 26 25 1,oW 27 5 3,o 28 (.call 276 [(.t 21),(.t 23),(.t 26),(.t 27)]),oM 19 28,o 29 (.ext 0 (.t 19)),o 30 (.ext 1 (.t 19)),o 8 (.new [z0,z0,z0,.nilS,z0,(.str ⟨#[]⟩),(.str ⟨#[]⟩),z0,z0,z0]),oS 10 8 29,oM 9 30] (.seq (rg [oM 31 9,o 32 (.bin .neq (.t 31) (ki 0))] (.cnd (.t 32) (rg [oW 33 8 7,o 34 (.build [(.bool false),z0,z0,z0,.nilS,z0,(.str ⟨#[]⟩),(.str ⟨#[]⟩),z0,z0,z0,.nilS,.nilS,.nilS,.nilS,.nilS,.nilS] []),oM 35 9,oS 8 4 33,oS 17 5 34,oM 6 35] .ret) .skip)) (rg [oF 37 2 2,oW 38 4 37,oW 39 10 8,oD 40 140 38 39,oM 36 40,o 41 (.ext 0 (.t 36)),o 42 (.ext 1 (.t 36)),o 10 (.new [.nilS,.nilS,.nilS,.nilS]),oS 4 10 41,oM 11 42] (.seq (rg [oM 43 11,o 44 (.bin .neq (.t 43) (ki 0)),oM 45 44,og 46 45 false (.fad 6 (.t 2)),og 47 45 false (.ld false 1 (.t 46)),og 48 45 false (.len false (.t 47)),og 49 45 false (.bin .geq (.t 48) (ki 60)),o 50 (.pick (.t 45) kt (.t 49))] (.cnd (.t 50) (rg [oW 51 8 7,o 52 (.build [(.bool false),z0,z0,z0,.nilS,z0,(.str ⟨#[]⟩),(.str ⟨#[]⟩),z0,z0,z0,.nilS,.nilS,.nilS,.nilS,.nilS,.nilS] []),oS 8 4 51,oS 17 5 52,oV 6 (ki 4)] .ret) .skip)) (rg [oW 53 4 10,oF 54 2 7,oS 4 54 53] (rg [oF 55 1 2,oL 56 55,oZ 57 56 1,oF 58 1 7,oS 1 58 57] (.seq (.drw [oF 59 6 7,oL 60 59,oW 61 10 8,oC 62 211 61,o 63 (.build [(.bool false),z0,z0,z0,.nilS,z0,(.str ⟨#[]⟩),(.str ⟨#[]⟩),z0,z0,z0,.nilS,.nilS,.nilS,.nilS,.nilS,.nilS] [(1,10,(.t 62))]),o 64 (.lit 17 1 [(.bool false),z0,z0,z0,.nilS,z0,(.str ⟨#[]⟩),(.str ⟨#[]⟩),z0,z0,z0,.nilS,.nilS,.nilS,.nilS,.nilS,.nilS] [(0,17,(.t 63))])] [o 65 (.app 17 264 [(.bool false),z0,z0,z0,.nilS,z0,(.str ⟨#[]⟩),(.str ⟨#[]⟩),z0,z0,z0,.nilS,.nilS,.nilS,.nilS,.nilS,.nilS] (.t 60) (.t 64)),oF 66 6 7,oS 1 66 65]) (.seq (.drw [] [oW 67 8 7,oW 68 10 8,o 69 (.build [(.bool false),z0,z0,z0,.nilS,z0,(.str ⟨#[]⟩),(.str ⟨#[]⟩),z0,z0,z0,.nilS,.nilS,.nilS,.nilS,.nilS,.nilS] [(1,10,(.t 68))]),oS 8 4 67,on (.chk 68 (.ld true 10 (.t 8))),oS 17 5 69,oV 6 (ki 0)]) .ret)))))))))))⟩
abbrev zeLog:List GV:=[gi 0,gi 0,.nilS,.nilS,.nilS,.nilS,.nilS,.nilS]
def EdS (l:Log) (e:Edit) (l':Log):Prop:=l'=l∨((A0n l.state l.rep (l.time+1) e).2=0∧(A5k l.state (A0n l.state l.rep (l.time+1) e).1).2=0∧l'={l with state:=(A5k l.state (A0n l.state l.rep (l.time+1) e).1).1,units:=l.units++[⟨false,(A0n l.state l.rep (l.time+1) e).1,delta0⟩],time:=l.time+1})
end
section
open Go Go.RowKit
abbrev Ajh:Nat:=329
def Aji:Fn1:=⟨33,[],(rg [oX 4 1,oX 5 2] (rg [oM 6 0,oW 7 4 5,oK 8 6,oF 9 2 8,oS 4 9 7] (.seq (.drw [oM 10 0,oM 11 0,oK 12 11,oF 13 6 12,oL 14 13,oW 15 17 4,oC 16 99 15,o 17 (.lit 17 1 [(.bool false),z0,z0,z0,.nilS,z0,(.str ⟨#[]⟩),(.str ⟨#[]⟩),z0,z0,z0,.nilS,.nilS,.nilS,.nilS,.nilS,.nilS] [(0,17,(.t 16))])] [o 18 (.app 17 264 [(.bool false),z0,z0,z0,.nilS,z0,(.str ⟨#[]⟩),(.str ⟨#[]⟩),z0,z0,z0,.nilS,.nilS,.nilS,.nilS,.nilS,.nilS] (.t 14) (.t 17)),oK 19 10,oF 20 6 19,oS 1 20 18]) (.seq (.drw [oW 21 17 4,oC 22 378 21,oM 23 0,oK 24 23,oF 25 1 24,oL 26 25] [oB 27 .gtr 22 26]) (.cnd (.t 27) (.reg [oM 28 0,oW 29 17 4,oC 30 378 29,oK 31 28,oF 32 1 31,oS 1 32 30]) .skip)))))⟩
abbrev Ajj:Nat:=330
def Ajk:Fn1:=⟨69,[],(rg [oV 2 kt] (.blk 0 (.lop (.seq (rg [oM 7 2] (.cnd (.t 7) .skip (.ext 0))) (.blk 1 (rg [oV 2 kf] (rg [o 8 (.lit 17 0 [] []),oM 3 8] (.seq (rg [oV 4 (ki 0)] (.blk 2 (.lop (.seq (rg [oM 9 4,oM 10 0,oK 11 10,oF 12 7 11,oL 13 12,oN 14 13,oB 15 .lss 9 14] (.cnd (.t 15) .skip (.ext 2))) (.seq (.blk 3 (.seq (.drw [oM 19 0,oK 20 19,oF 21 2 20,oW 22 4 21,oM 23 0,oK 24 23,oF 25 7 24,oL 26 25,oM 27 4,oI 28 17 26 27,oW 29 17 28,oD 30 44 22 29,oM 18 30,o 31 (.ext 0 (.t 18)),o 32 (.ext 1 (.t 18)),o 5 (.new [.nilS,.nilS,.nilS,.nilS])] [oS 4 5 31,oM 6 32]) (.seq (rg [oM 33 6,o 34 (.bin .eql (.t 33) (ki 0)),oM 35 34,og 36 35 true (.mov (.t 0)),og 37 35 true (.nck (.t 36)),og 38 35 true (.fad 6 (.t 37)),og 39 35 true (.ld false 1 (.t 38)),og 40 35 true (.len false (.t 39)),og 41 35 true (.bin .lss (.t 40) (ki 60)),o 42 (.pick (.t 35) (.t 41) kf)] (.cnd (.t 42) (.seq (.drw [oM 43 0,oM 44 0,oK 45 44,oF 46 7 45,oL 47 46,oM 48 4,oI 49 17 47 48,oW 50 17 49,oW 51 4 5] [o 52 (.call 329 [(.t 43),(.t 50),(.t 51)])]) (rg [oV 2 kt] (.ext 3))) .skip)) (rg [oM 53 6,o 54 (.bin .neq (.t 53) (ki 1))] (.cnd (.t 54) (.reg [oM 55 3,oM 56 0,oK 57 56,oF 58 7 57,oL 59 58,oM 60 4,oI 61 17 59 60,oW 62 17 61,o 63 (.lit 17 1 [(.bool false),z0,z0,z0,.nilS,z0,(.str ⟨#[]⟩),(.str ⟨#[]⟩),z0,z0,z0,.nilS,.nilS,.nilS,.nilS,.nilS,.nilS] [(0,17,(.t 62))]),o 64 (.app 17 264 [(.bool false),z0,z0,z0,.nilS,z0,(.str ⟨#[]⟩),(.str ⟨#[]⟩),z0,z0,z0,.nilS,.nilS,.nilS,.nilS,.nilS,.nilS] (.t 55) (.t 63)),oM 3 64]) .skip))))) (.reg [oM 16 4,oZ 17 16 1,oM 4 17])))))) (.reg [oM 65 0,oM 66 3,oK 67 65,oF 68 7 67,oS 1 68 66])))))))))⟩
def doneT (l:Log) (x:Unit_):Int:=if l.time<A74 x then A74 x else l.time
def WkS (l l':Log):Prop:=l'.rep=l.rep∧(∀ x∈l'.units,x∈l.units∨x∈l.waits)∧∀ x∈l'.waits,x∈l.waits
theorem WkS.refl (l:Log):WkS l l:=⟨rfl,fun x h=>.inl h,fun x h=>h⟩
theorem WkS.trans {a b c:Log} (h:WkS a b) (k:WkS b c):WkS a c:=⟨k.1.trans h.1,fun x hx=>(k.2.1 x hx).elim (h.2.1 x) fun h'=>.inr (h.2.2 x h'),fun x hx=>h.2.2 x (k.2.2 x hx)⟩
abbrev lgI (n:Nat) (l:Log) (t0 t1 t2 t3 u w:GV) (r:Thg):List Item:=[.box 1 n (logV l t0 t1 t2 t3 u w),.th (own A9 [t0,t1,t2,t3] l.state),.th (ow Ej u l.units),.th (ow Ej w l.waits),.th r]
def wkR (n:Nat) (l:Log) (W:List Unit_) (t0 t1 t2 t3 u v w:GV) (r:Thg) (L:List Unit_) (i:Nat) (h:List Item):Prop:=
 (∃ hi:i<W.length,∃ cs,h=[.box 1 n (logV l t0 t1 t2 t3 u w),.th (own A9 [t0,t1,t2,t3] l.state),.th (ow Ej u l.units),.th (ow Ej v L),.th (own Ej cs W[i]),.th (rst Ej w W i cs),.th r])∨
 (i=W.length∧h=[.box 1 n (logV l t0 t1 t2 t3 u w),.th (own A9 [t0,t1,t2,t3] l.state),.th (ow Ej u l.units),.th (ow Ej v L),.th (rest Ej w W i),.th r])
end
section
open Go Go.RowKit
abbrev n_s_Heard:Nat:=267
def F_s_Heard:Fn1:=⟨77,[.c 4 true 8,.t 5],(rg [oX 2 0,oX 3 1,o 4 (.new [z0,z0,.nilS,.nilS,.nilS,.nilS,.nilS,.nilS]),oV 5 (ki 0)] (rg [oW 11 8 2,oC 12 327 11,o 6 (.new [z0,z0,.nilS,.nilS,.nilS,.nilS,.nilS,.nilS]),oS 8 6 12] (.seq (rg [oW 13 17 3,oC 14 97 13,oU 15 14,oM 16 15,og 17 16 false (.ld true 8 (.t 2)),og 18 16 false (.call 328 [(.t 17)]),og 19 16 false (.un .not (.t 18)),o 20 (.pick (.t 16) kt (.t 19))] (.cnd (.t 20) (rg [oW 21 8 6,oS 8 4 21,oV 5 (ki 3)] .ret) .skip)) (rg [oF 23 2 2,oW 24 4 23,oW 25 17 3,oD 26 44 24 25,oM 22 26,o 27 (.ext 0 (.t 22)),o 28 (.ext 1 (.t 22)),o 7 (.new [.nilS,.nilS,.nilS,.nilS]),oS 4 7 27,oM 8 28] (.seq (rg [oM 29 8,o 30 (.bin .eql (.t 29) (ki 2))] (.cnd (.t 30) (rg [oF 31 7 2,oL 32 31,oN 33 32,o 34 (.bin .geq (.t 33) (ki 6)),oM 9 34] (.seq (rg [oV 10 (ki 0)] (.blk 0 (.lop (.seq (rg [oM 35 10,oF 36 7 2,oL 37 36,oN 38 37,oB 39 .lss 35 38] (.cnd (.t 39) .skip (.ext 0))) (.seq (.blk 1 (.drw [oM 42 9,oM 43 42,og 44 43 false (.fad 7 (.t 2)),og 45 43 false (.ld false 1 (.t 44)),og 46 43 false (.mov (.t 10)),og 47 43 false (.iad 17 (.t 45) (.t 46)),og 48 43 false (.ld true 17 (.t 47)),og 49 43 false (.ld true 17 (.t 3))] [og 50 43 false (.call 186 [(.t 48),(.t 49)]),o 51 (.pick (.t 43) kt (.t 50)),oM 9 51])) (.reg [oM 40 10,oZ 41 40 1,oM 10 41])))))) (.seq (rg [oM 52 9,oU 53 52] (.cnd (.t 53) (.drw [oF 54 7 6,oL 55 54,oW 56 17 3,oC 57 99 56,o 58 (.lit 17 1 [(.bool false),z0,z0,z0,.nilS,z0,(.str ⟨#[]⟩),(.str ⟨#[]⟩),z0,z0,z0,.nilS,.nilS,.nilS,.nilS,.nilS,.nilS] [(0,17,(.t 57))])] [o 59 (.app 17 264 [(.bool false),z0,z0,z0,.nilS,z0,(.str ⟨#[]⟩),(.str ⟨#[]⟩),z0,z0,z0,.nilS,.nilS,.nilS,.nilS,.nilS,.nilS] (.t 55) (.t 58)),oF 60 7 6,oS 1 60 59]) .skip)) (rg [oW 61 8 6,oM 62 8,oS 8 4 61,oM 5 62] .ret)))) .skip)) (.seq (rg [oM 63 8,o 64 (.bin .neq (.t 63) (ki 0))] (.cnd (.t 64) (rg [oW 65 8 6,oM 66 8,oS 8 4 65,oM 5 66] .ret) .skip)) (.seq (rg [oF 67 6 2,oL 68 67,oN 69 68,o 70 (.bin .geq (.t 69) (ki 60))] (.cnd (.t 70) (rg [oW 71 8 6,oS 8 4 71,oV 5 (ki 4)] .ret) .skip)) (rg [oW 72 17 3,oW 73 4 7,o 74 (.call 329 [(.t 6),(.t 72),(.t 73)])] (rg [oC 75 330 6] (rg [oW 76 8 6,oS 8 4 76,oV 5 (ki 0)] .ret))))))))))⟩
def HeS (l:Log) (x:Unit_) (l':Log):Prop:=l'.rep=l.rep∧(∀ y∈l'.units,y∈l.units∨y∈l.waits∨y=x)∧∀ y∈l'.waits,y∈l.waits∨y=x
theorem HeS.refl (l:Log) (x:Unit_):HeS l x l:=⟨rfl,fun y h=>.inl h,fun y h=>.inl h⟩
end
section
open Go Go.RowKit
abbrev Ajl:Nat:=162
def Ajm:Fn1:=⟨73,[.t 4],(rg [o 4 (.mov (.k .nilS))] (rg [o 10 (.lit 8 0 [] []),oM 5 10] (.seq (rg [oV 6 (ki 0)] (.blk 0 (.lop (.seq (rg [oM 11 6,o 12 (.bin .lss (.t 11) (ki 3))] (.cnd (.t 12) .skip (.ext 0))) (.seq (.blk 1 (.reg [oM 15 5,oM 16 6,oC 17 266 16,o 18 (.lit 8 1 [z0,z0,.nilS,.nilS,.nilS,.nilS,.nilS,.nilS] [(0,8,(.t 17))]),o 19 (.app 8 160 [z0,z0,.nilS,.nilS,.nilS,.nilS,.nilS,.nilS] (.t 15) (.t 18)),oM 5 19])) (.reg [oM 13 6,oZ 14 13 1,oM 6 14])))))) (.seq (rg [oV 7 (ki 0)] (.blk 2 (.lop (.seq (rg [oM 20 7,oM 21 1,oB 22 .lss 20 21] (.cnd (.t 22) .skip (.ext 2))) (.seq (.blk 3 (rg [oM 25 0,o 26 (.call 163 [(.t 25),(ki 3)]),oM 8 26] (.seq (rg [oM 27 0,o 28 (.call 202 [(.t 27),(ki 3)])] (.cnd (.t 28) (rg [oM 29 5,oM 30 0,o 31 (.call 163 [(.t 30),(ki 3)]),oI 32 8 29 31,oW 33 8 32,o 9 (.new [z0,z0,.nilS,.nilS,.nilS,.nilS,.nilS,.nilS]),oS 8 9 33] (.seq (rg [oF 34 6 9,oL 35 34,oN 36 35,o 37 (.bin .gtr (.t 36) (ki 0))] (.cnd (.t 37) (.drw [] [oM 39 5,oM 40 8,oM 41 5,oM 42 8,oI 43 8 41 42,oW 44 8 43,oF 45 6 9,oL 46 45,oM 47 0,oF 48 6 9,oL 49 48,oN 50 49,oD 51 163 47 50,on (.chk 44 (.ld true 8 (.t 43))),on (.chk 46 (.ld false 1 (.t 45))),oI 52 17 46 51,oW 53 17 52,oD 54 267 44 53,oM 38 54,o 55 (.ext 0 (.t 38)),o 56 (.ext 1 (.t 38)),oI 57 8 39 40,oS 8 57 55]) .skip)) (.ext 3))) .skip)) (.drw [] [oM 59 5,oM 60 8,oM 61 5,oM 62 8,oI 63 8 61 62,oW 64 8 63,oM 65 0,oC 66 269 65,on (.chk 64 (.ld true 8 (.t 63))),oD 67 268 64 66,oM 58 67,o 68 (.ext 0 (.t 58)),o 69 (.ext 1 (.t 58)),o 70 (.ext 2 (.t 58)),oI 71 8 59 60,oS 8 71 68])))) (.reg [oM 23 7,oZ 24 23 1,oM 7 24])))))) (rg [oM 72 5,oM 4 72] .ret)))))⟩
abbrev n_s_l13Log:Nat:=203
def F_s_l13Log:Fn1:=⟨16,[.c 2 true 8],(rg [o 2 (.new [z0,z0,.nilS,.nilS,.nilS,.nilS,.nilS,.nilS])] (rg [oM 4 0,oM 5 0,o 6 (.call 163 [(.t 5),(ki 8)]),o 7 (.bin .add (ki 3) (.t 6)),oD 8 162 4 7,oM 3 8] (rg [oM 9 3,oM 10 0,oM 11 3,oN 12 11,oD 13 163 10 12,oI 14 8 9 13,oW 15 8 14,oS 8 2 15] .ret)))⟩
def news (n:Nat):List Log:=(List.range n).map fun k:Nat=>⟨(k:Int),0,st0,[],[]⟩
inductive Lgs:List Log→Prop
 |new:Lgs (news 3)
 |edit {ls:List Log} {r:Nat} {l:Log} (e:Edit) {l':Log}:Lgs ls→ls[r]? =some l→EdD e→EdS l e l'→LogG l'→Lgs (ls.set r l')
 |hear {ls:List Log} {r f:Nat} {l g:Log} (u:Unit_) {l':Log}:Lgs ls→ls[r]? =some l→ls[f]? =some g→u∈g.units→HeS l u l'→LogG l'→Lgs (ls.set r l')
theorem Lgs.len {ls:List Log} (h:Lgs ls):ls.length=3:=by
 induction h with
 |new=>rfl
 |edit _ _ _ _ _ _ ih=>rw[List.length_set];exact ih
 |hear _ _ _ _ _ _ _ ih=>rw[List.length_set];exact ih
theorem Lgs.g {ls:List Log} (h:Lgs ls):∀ l∈ls,LogG l:=by
 induction h with
 |new=>
  intro l hl
  obtain⟨k,hk,rfl⟩:=List.mem_map.1 hl
  have:=List.mem_range.1 hk
  exact Aiy ⟨by omega,by omega⟩
 |edit _ _ _ _ _ hg ih=>
  intro l hl
  rcases List.mem_or_eq_of_mem_set hl with h|h
  ·exact ih l h
  ·rw[h];exact hg
 |hear _ _ _ _ _ _ hg ih=>
  intro l hl
  rcases List.mem_or_eq_of_mem_set hl with h|h
  ·exact ih l h
  ·rw[h];exact hg
section
variable {σ0 σ:St} {h:List Item} {c v:GV} {bs:List Int}
end
end
section
open Go Go.RowKit
abbrev Ajn:Nat:=367
def Ajo:Fn1:=⟨32,[.c 6 true 4],(rg [oX 4 1,o 6 (.new [.nilS,.nilS,.nilS,.nilS])] (.seq (.drw [o 7 (.new [z0,z0,z0,.nilS,z0,(.str ⟨#[]⟩),(.str ⟨#[]⟩),z0,z0,z0])] [oW 12 4 4,oM 13 2,oW 14 4 4,oC 15 277 14,on (.chk 12 (.ld true 4 (.t 4))),on (.blc 7 [z0,z0,z0,.nilS,z0,(.str ⟨#[]⟩),(.str ⟨#[]⟩),z0,z0,z0]),oZ 16 15 1,oM 17 0,oC 18 269 17,on (.chk 12 (.ld true 4 (.t 4))),on (.blc 7 [z0,z0,z0,.nilS,z0,(.str ⟨#[]⟩),(.str ⟨#[]⟩),z0,z0,z0]),o 19 (.call 276 [(.t 12),(.t 13),(.t 16),(.t 18)]),on (.blc 7 [z0,z0,z0,.nilS,z0,(.str ⟨#[]⟩),(.str ⟨#[]⟩),z0,z0,z0]),oM 11 19,o 20 (.ext 0 (.t 11)),o 21 (.ext 1 (.t 11)),oS 10 7 20,oM 8 21]) (.seq (rg [oM 22 8,o 23 (.bin .neq (.t 22) (ki 0))] (.cnd (.t 23) (rg [oW 24 4 4,oS 4 6 24] .ret) .skip)) (rg [oW 26 4 4,oW 27 10 7,oD 28 140 26 27,oM 25 28,o 29 (.ext 0 (.t 25)),o 30 (.ext 1 (.t 25)),o 9 (.new [.nilS,.nilS,.nilS,.nilS]),oS 4 9 29,oM 10 30] (rg [oW 31 4 9,oS 4 6 31] .ret)))))⟩
abbrev n_s_l10Two:Nat:=363
def F_s_l10Two:Fn1:=⟨39,[.c 2 true 4,.c 3 true 4,.c 4 true 4],(rg [o 2 (.new [.nilS,.nilS,.nilS,.nilS]),o 3 (.new [.nilS,.nilS,.nilS,.nilS]),o 4 (.new [.nilS,.nilS,.nilS,.nilS])] (rg [oM 10 0,o 11 (.call 43 []),oM 12 0,o 13 (.call 163 [(.t 12),(ki 5)]),o 14 (.bin .add (ki 1) (.t 13)),o 15 (.call 281 [(.t 10),(.t 11),(.t 14)]),o 5 (.new [.nilS,.nilS,.nilS,.nilS]),oS 4 5 15] (rg [oW 16 4 5,o 6 (.new [.nilS,.nilS,.nilS,.nilS]),oS 4 6 16] (rg [oW 17 4 5,o 7 (.new [.nilS,.nilS,.nilS,.nilS]),oS 4 7 17] (.seq (rg [oV 8 (ki 0)] (.blk 0 (.lop (.seq (rg [oM 18 8,oM 19 0,o 20 (.call 163 [(.t 19),(ki 5)]),oB 21 .lss 18 20] (.cnd (.t 21) .skip (.ext 0))) (.seq (.blk 1 (.reg [oM 24 0,oW 25 4 6,o 26 (.call 367 [(.t 24),(.t 25),(ki 0)]),oS 4 6 26])) (.reg [oM 22 8,oZ 23 22 1,oM 8 23])))))) (.seq (rg [oV 9 (ki 0)] (.blk 2 (.lop (.seq (rg [oM 27 9,oM 28 0,o 29 (.call 163 [(.t 28),(ki 5)]),oB 30 .lss 27 29] (.cnd (.t 30) .skip (.ext 2))) (.seq (.blk 3 (.reg [oM 33 0,oW 34 4 7,o 35 (.call 367 [(.t 33),(.t 34),(ki 1)]),oS 4 7 35])) (.reg [oM 31 9,oZ 32 31 1,oM 9 32])))))) (.seq (.drw [] [oW 36 4 5,oW 37 4 6,oW 38 4 7,oS 4 2 36,on (.chk 37 (.ld true 4 (.t 6))),on (.chk 38 (.ld true 4 (.t 7))),oS 4 3 37,on (.chk 38 (.ld true 4 (.t 7))),oS 4 4 38]) .ret)))))))⟩
section
variable {σ0 σ:St} {h:List Item} {c v:GV} {bs:List Int}
theorem Grw.trans {a b d:State} (h:Grw a b) (k:Grw b d):Grw a d:=by
 induction k with
 |nil=>exact h
 |act rep dt e _ h1 h2 h3 h4 h5 h6 ih=>exact .act rep dt e ih h1 h2 h3 h4 h5 h6
end
end
section
open Go Go.RowKit
abbrev Ajp:Nat:=200
def Ajq:Fn1:=⟨13,[.c 2 true 4,.t 3],(rg [o 2 (.new [.nilS,.nilS,.nilS,.nilS]),o 3 (.mov (.k (.str ⟨#[]⟩)))] (rg [oM 6 0,oC 7 161 6,oM 4 7] (rg [oM 8 4,oC 9 293 8,oM 5 9] (rg [oM 10 4,oC 11 294 10,oM 12 5,oS 4 2 11,oM 3 12] .ret))))⟩
section
variable {P:Program} {σ0 σ τ:St} {h:List Item} {c v:GV} {bs:List Int} {α:Type} {l:List α}
theorem Dr.pre (D:Dr σ0 v bs) (hp:σ0 <+: σ):Dr σ v bs:=⟨D.hv.pre hp,D.hl⟩
end
end
section
open Go Go.RowKit
abbrev Afp:Nat:=297
def Afq:Fn1:=⟨21,[.c 2 true 6],(rg [o 2 (.new [.nilS,.nilS,.nilS,.nilS,.nilS,.nilS])] (rg [oM 9 0,oC 10 363 9,oM 8 10,o 11 (.ext 0 (.t 8)),o 12 (.ext 1 (.t 8)),o 13 (.ext 2 (.t 8)),o 3 (.new [.nilS,.nilS,.nilS,.nilS]),o 4 (.new [.nilS,.nilS,.nilS,.nilS]),o 5 (.new [.nilS,.nilS,.nilS,.nilS]),oS 4 3 11,oS 4 4 12,oS 4 5 13] (rg [oW 15 4 3,oW 16 4 4,oD 17 123 15 16,oM 14 17,o 18 (.ext 0 (.t 14)),o 19 (.ext 1 (.t 14)),o 6 (.new [.nilS,.nilS,.nilS,.nilS,.nilS,.nilS]),oS 6 6 18,oM 7 19] (rg [oW 20 6 6,oS 6 2 20] .ret))))⟩
abbrev n_s_l11Any:Nat:=296
def F_s_l11Any:Fn1:=⟨69,[.c 2 true 6],(rg [o 2 (.new [.nilS,.nilS,.nilS,.nilS,.nilS,.nilS])] (rg [oM 6 0,o 7 (.call 163 [(.t 6),(ki 12)]),oM 3 7] (rg [oM 8 0,o 9 (.call 163 [(.t 8),(ki 60)]),oM 4 9] (rg [oM 10 0,oC 11 297 10,oC 12 223 11,o 5 (.new [.nilS,.nilS,.nilS,.nilS,.nilS,.nilS]),oS 6 5 12] (.seq (rg [oM 13 3] (.blk 0 (rg [o 15 (.bin .eql (.t 13) (ki 0)),oM 14 15] (.cnd (.t 14) (.reg [oM 16 4,o 17 (.bin .rem (.t 16) (ki 4)),oM 18 4,o 19 (.bin .rem (.t 18) (ki 3)),oM 20 4,o 21 (.bin .rem (.t 20) (ki 5)),o 22 (.lit 1 3 [z0,z0,z0] [(0,1,(.t 17)),(1,1,(.t 19)),(2,1,(.t 21))]),oF 23 1 5,oS 1 23 22]) (rg [o 25 (.bin .eql (.t 13) (ki 1)),oM 24 25] (.cnd (.t 24) (.reg [oF 26 4 5,oL 27 26,oM 28 4,o 29 (.bin .rem (.t 28) (ki 4)),oM 30 4,o 31 (.bin .rem (.t 30) (ki 5)),o 32 (.build [z0,z0] [(0,1,(.t 29)),(1,1,(.t 31))]),o 33 (.lit 2 1 [z0,z0] [(0,2,(.t 32))]),o 34 (.app 2 16 [z0,z0] (.t 27) (.t 33)),oF 35 4 5,oS 1 35 34]) (rg [o 37 (.bin .eql (.t 13) (ki 2)),oM 36 37] (.cnd (.t 36) (.reg [oF 38 3 5,oL 39 38,oM 40 4,o 41 (.bin .rem (.t 40) (ki 6)),o 42 (.build [z0,z0] [(0,1,(ki 2)),(1,1,(.t 41))]),o 43 (.build [(.bool false),(.str ⟨#[]⟩),(.str ⟨#[]⟩),z0,z0,z0] [(1,1,(.k (.str ⟨#[97]⟩))),(2,1,(.k (.str ⟨#[120]⟩))),(4,2,(.t 42))]),o 44 (.lit 6 1 [(.bool false),(.str ⟨#[]⟩),(.str ⟨#[]⟩),z0,z0,z0] [(0,6,(.t 43))]),o 45 (.app 6 64 [(.bool false),(.str ⟨#[]⟩),(.str ⟨#[]⟩),z0,z0,z0] (.t 39) (.t 44)),oF 46 3 5,oS 1 46 45]) (rg [o 48 (.bin .eql (.t 13) (ki 3)),oM 47 48] (.cnd (.t 47) (.reg [o 49 (.lit 1 0 [] []),oF 50 0 5,oS 1 50 49]) (rg [o 52 (.bin .eql (.t 13) (ki 4)),oM 51 52] (.cnd (.t 51) (.reg [oF 53 5 5,oL 54 53,oM 55 4,o 56 (.bin .rem (.t 55) (ki 5)),o 57 (.bin .add (ki 1) (.t 56)),o 58 (.build [z0,z0] [(0,1,(ki 2)),(1,1,(.t 57))]),oM 59 4,o 60 (.bin .rem (.t 59) (ki 4)),oM 61 4,o 62 (.bin .rem (.t 61) (ki 3)),o 63 (.build [z0,z0] [(0,1,(ki 1)),(1,1,(.t 62))]),o 64 (.build [(.str ⟨#[]⟩),z0,z0,z0,z0,z0,z0,(.bool false)] [(0,1,(.k (.str ⟨#[97]⟩))),(1,2,(.t 58)),(3,1,(.t 60)),(4,2,(.t 63))]),o 65 (.lit 8 1 [(.str ⟨#[]⟩),z0,z0,z0,z0,z0,z0,(.bool false)] [(0,8,(.t 64))]),o 66 (.app 8 72 [(.str ⟨#[]⟩),z0,z0,z0,z0,z0,z0,(.bool false)] (.t 54) (.t 65)),oF 67 5 5,oS 1 67 66]) .skip)))))))))))) (rg [oW 68 6 5,oS 6 2 68] .ret))))))⟩
abbrev Aby:Nat:=205
def Abz:Fn1:=⟨18,[.c 2 true 17],(rg [o 2 (.new [(.bool false),z0,z0,z0,.nilS,z0,(.str ⟨#[]⟩),(.str ⟨#[]⟩),z0,z0,z0,.nilS,.nilS,.nilS,.nilS,.nilS,.nilS])] (.seq (rg [oM 4 0,o 5 (.call 202 [(.t 4),(ki 3)])] (.cnd (.t 5) (rg [oM 6 0,oC 7 296 6,o 8 (.build [(.bool false),z0,z0,z0,.nilS,z0,(.str ⟨#[]⟩),(.str ⟨#[]⟩),z0,z0,z0,.nilS,.nilS,.nilS,.nilS,.nilS,.nilS] [(0,1,kt),(11,6,(.t 7))]),oS 17 2 8] .ret) .skip)) (rg [oM 9 0,oC 10 175 9,o 11 (.build [(.bool false),z0,z0,z0,.nilS,z0,(.str ⟨#[]⟩),(.str ⟨#[]⟩),z0,z0,z0,.nilS,.nilS,.nilS,.nilS,.nilS,.nilS] [(1,10,(.t 10))]),o 3 (.new [(.bool false),z0,z0,z0,.nilS,z0,(.str ⟨#[]⟩),(.str ⟨#[]⟩),z0,z0,z0,.nilS,.nilS,.nilS,.nilS,.nilS,.nilS]),oS 17 3 11] (.seq (rg [oM 12 0,o 13 (.call 202 [(.t 12),(ki 12)])] (.cnd (.t 13) (.reg [oM 14 0,oC 15 297 14,oF 16 11 3,oS 6 16 15]) .skip)) (rg [oW 17 17 3,oS 17 2 17] .ret)))))⟩
abbrev Ac0:Nat:=75
def Ac1:Fn1:=⟨27,[.t 2,.t 3],(rg [o 2 (.mov (.k .nilS)),oV 3 (ki 0)] (rg [oM 8 0,oC 9 161 8,oM 4 9] (rg [oM 10 4,o 11 (.call 163 [(.t 10),(ki 5)]),o 12 (.bin .sub (.t 11) (ki 1)),oM 5 12] (rg [oM 13 4,oC 14 203 13,o 6 (.new [z0,z0,.nilS,.nilS,.nilS,.nilS,.nilS,.nilS]),oS 8 6 14] (rg [oF 15 6 6,oL 16 15,oC 17 204 16,oM 7 17] (.seq (rg [oM 18 4,o 19 (.call 202 [(.t 18),(ki 4)])] (.cnd (.t 19) (.reg [oM 20 7,oM 21 4,oC 22 205 21,o 23 (.lit 17 1 [(.bool false),z0,z0,z0,.nilS,z0,(.str ⟨#[]⟩),(.str ⟨#[]⟩),z0,z0,z0,.nilS,.nilS,.nilS,.nilS,.nilS,.nilS] [(0,17,(.t 22))]),o 24 (.app 17 264 [(.bool false),z0,z0,z0,.nilS,z0,(.str ⟨#[]⟩),(.str ⟨#[]⟩),z0,z0,z0,.nilS,.nilS,.nilS,.nilS,.nilS,.nilS] (.t 20) (.t 23)),oM 7 24]) .skip)) (rg [oM 25 7,oM 26 5,oM 2 25,oM 3 26] .ret)))))))⟩
abbrev A79:Nat:=74
def A7a:Fn1:=⟨26,[.c 2 true 4,.t 3,.t 4,.t 5],(rg [o 2 (.new [.nilS,.nilS,.nilS,.nilS]),oV 3 kf,o 4 (.mov (.k (.str ⟨#[]⟩))),o 5 (.mov (.k (.str ⟨#[]⟩)))] (rg [oM 11 0,oC 12 161 11,oM 6 12] (rg [oM 13 6,oC 14 201 13,oM 7 14] (rg [oM 15 6,o 16 (.call 202 [(.t 15),(ki 2)]),oM 8 16] (rg [oM 18 0,oC 19 200 18,oM 17 19,o 20 (.ext 0 (.t 17)),o 21 (.ext 1 (.t 17)),o 9 (.new [.nilS,.nilS,.nilS,.nilS]),oS 4 9 20,oM 10 21] (rg [oW 22 4 9,oM 23 8,oM 24 10,oM 25 7,oS 4 2 22,oM 3 23,oM 4 24,oM 5 25] .ret))))))⟩
def tup4 (x y z u:Option GV):Option GV:=x.bind fun x=>y.bind fun y=>z.bind fun z=>u.bind fun u=>if Bm x&&(Bm y&&(Bm z&&Bm u)) then some (.tup [x,y,z,u]) else none
@[go_sem] theorem tup4_if {x y z u:GV}:tup4 (some x) (some y) (some z) (some u)=if Bm x&&(Bm y&&(Bm z&&Bm u)) then some (.tup [x,y,z,u]) else none:=(rfl)
@[go_sem] theorem resX_4 {σ:St} {h:List Item} {τ:St} {env:Env} {x y z u:Rs}:resX σ h τ env [x,y,z,u]=tup4 (rsX σ h τ env x) (rsX σ h τ env y) (rsX σ h τ env z) (rsX σ h τ env u):=by
 simp only[resX,B9,tup4]
 cases rsX σ h τ env x with
 |none=>rfl
 |some a=>cases rsX σ h τ env y with
  |none=>rfl
  |some b=>cases rsX σ h τ env z with
   |none=>rfl
   |some d=>cases rsX σ h τ env u<;>simp
theorem A8o (a b:State):Hf (Cx a b).1≤Ad a+2*Ad b:=by
 unfold Cx
 split
 ·exact ms_dif a b
 ·simp only[Hf,sumL,List.map_nil,List.sum_nil,List.length_nil];omega
section
variable {σ0 σ:St} {h:List Item} {c v:GV} {bs:List Int}
end
end
section
open Go Go.RowKit
abbrev Jh:Nat:=21
def Ol:Fn1:=⟨43,[.c 4 true 6,.t 5],(rg [oX 2 0,o 4 (.new [.nilS,.nilS,.nilS,.nilS,.nilS,.nilS]),oV 5 kf] (.seq (rg [oW 8 2 2,oM 9 1,oD 10 125 8 9,oU 11 10,oM 12 11,og 13 12 false (.ld true 2 (.t 2)),og 14 12 false (.call 126 [(.t 13)]),og 15 12 false (.un .not (.t 14)),o 16 (.pick (.t 12) kt (.t 15))] (.cnd (.t 16) (rg [o 17 (.build [.nilS,.nilS,.nilS,.nilS,.nilS,.nilS] []),oS 6 4 17,oV 5 kf] .ret) .skip)) (rg [o 18 (.call 127 []),o 6 (.new [.nilS,.nilS,.nilS,.nilS]),oS 4 6 18] (rg [oF 19 0 2,oL 20 19,oM 21 1,oI 22 7 20 21,oW 23 7 22,o 7 (.new [z0,z0,.nilS,.nilS,.nilS,.nilS,.nilS]),oS 7 7 23] (.seq (rg [oF 24 2 7,oL 25 24,oN 26 25,o 27 (.bin .gtr (.t 26) (ki 0))] (.cnd (.t 27) (.drw [oF 28 0 2,oL 29 28,oF 30 2 7,oL 31 30,o 32 (.iad 1 (.t 31) (ki 0)),oL 33 32] [oI 34 7 29 33,oF 35 3 34,oW 36 4 35,oS 4 6 36]) .skip)) (rg [oW 37 4 6,oF 38 3 7,oW 39 4 38,oD 40 128 37 39,o 41 (.ext 0 (.t 40)),o 42 (.ext 1 (.t 40)),oS 6 4 41,oM 5 42] .ret))))))⟩
theorem Xd:A8 Tryz.prog Jh=some Ol:=by kernel_rfl
abbrev Ji:Nat:=19
def Om:Fn1:=⟨52,[.c 4 true 6,.t 5],(rg [oX 2 0,o 4 (.new [.nilS,.nilS,.nilS,.nilS,.nilS,.nilS]),oV 5 kf] (.seq (rg [oW 7 2 2,oC 8 121 7,oU 9 8,oM 10 9,og 11 10 false (.mov (.t 1)),og 12 10 false (.fad 0 (.t 2)),og 13 10 false (.ld false 1 (.t 12)),og 14 10 false (.len false (.t 13)),og 15 10 false (.bin .sub (.t 14) (ki 1)),og 16 10 false (.call 122 [(.t 11),(ki 0),(.t 15)]),og 17 10 false (.un .not (.t 16)),o 18 (.pick (.t 10) kt (.t 17))] (.cnd (.t 18) (rg [o 19 (.build [.nilS,.nilS,.nilS,.nilS,.nilS,.nilS] []),oS 6 4 19,oV 5 kf] .ret) .skip)) (rg [o 20 (.call 43 []),o 6 (.new [.nilS,.nilS,.nilS,.nilS]),oS 4 6 20] (.seq (rg [oF 21 0 2,oL 22 21,oM 23 1,oI 24 7 22 23,oF 25 2 24,oL 26 25,oN 27 26,o 28 (.bin .gtr (.t 27) (ki 0))] (.cnd (.t 28) (.drw [oF 29 0 2,oL 30 29,oF 31 0 2,oL 32 31,oM 33 1,oI 34 7 32 33,oF 35 2 34,oL 36 35,o 37 (.iad 1 (.t 36) (ki 0)),oL 38 37] [oI 39 7 30 38,oF 40 3 39,oW 41 4 40,oS 4 6 41]) .skip)) (.seq (.drw [oW 42 4 6,oF 43 0 2,oL 44 43,oM 45 1,oI 46 7 44 45,oF 47 3 46,oW 48 4 47] [oD 49 123 42 48,o 50 (.ext 0 (.t 49)),o 51 (.ext 1 (.t 49)),oS 6 4 50,oM 5 51]) .ret)))))⟩
theorem Xe:A8 Tryz.prog Ji=some Om:=by kernel_rfl
set_option maxHeartbeats 4000000 in
theorem A1c (σ:St) (cs:List GV) (g:Graph) (hR:Ay.R σ g cs) (hm:Ci g≤1048576):Ret Tryz.prog Vt [.agg cs] σ (.bool (C7 g)) σ:=by
 obtain⟨hl,hb⟩:=Ok hm
 have hR0:=hR
 obtain⟨v,rfl,hv⟩:=hR
 refine Em A40 (Z0z rfl) trivial ?_
 simp +contextual (disch:=omega) only[go_sem,Vu]
 intro n1 f1 τ H
 have g1:σ.length≤n1:=f1
 have S:=H.sub
 by_cases h1:g.commits.length≤80
 rotate_left
 ·have b1:decide (80<(g.commits.length:Int))=true:=by simp;omega
  have d:C7 g=false:=by simp[C7,h1]
  simp +contextual (disch:=omega) only[go_sem,b1,d,hv.len]
  try exact fun _=>rfl
 have b1:decide (80<(g.commits.length:Int))=false:=by simp;omega
 simp +contextual (disch:=omega) only[go_sem,b1,hv.len]
 refine by_b H (C6 _ _ _ _) (fun hin=> ?_) (fun hin=> ?_)
 rotate_left
 ·have d:C7 g=false:=by simp[C7,hin]
  simp +contextual (disch:=omega) only[go_sem,d]
  try exact fun _=>rfl
 simp +contextual (disch:=omega) only[go_sem]
 refine Bs g.commits.length 3 0 (fun i env hh=>env 1= .ptr n1 0∧(∀ j,j<i→Id g j=true)∧hh=[.box 1 n1 [v,gi g.head]]) (fun env hh=>C7 g=true) (fun env hh=>env 2= .bool false∧C7 g=false) _ H (by simp +contextual (disch:=omega) only[go_sem]) ⟨by simp +contextual (disch:=omega) only[go_sem],fun j hj=>by omega,rfl⟩ ?_ ?_ ?_ ?_
 ·clear H S
  rintro J Y W hJ hY hW k env h' τ hk e3 c0 H ⟨e1,ha,rfl⟩
  obtain⟨u,k0,k1,k2,k3,C,hC,hU,hS⟩:=Dk hv hk
  obtain⟨b1',b2⟩:=hb k hk
  have no:Bf g k g.commits[k]=false→C7 g=false:=fun h=>Qf hk (by rw[Lr hk];exact h)
  have yes:Bf g k g.commits[k]=true→∀ j,j<k+1→Id g j=true:=fun h j hj=>by
   rcases Nat.lt_or_ge j k with h2|h2
   ·exact ha j h2
   ·have:j=k:=by omega
    subst this;rw[Lr hk];exact h
  clear ha
  obtain⟨x,hx⟩:∃ x,x=g.commits[k]:=⟨_,rfl⟩
  rw[← hx] at C hC hU hS b1' b2 no yes
  simp +contextual (disch:=omega) only[go_sem,c0,e1,e3,A4,C,hv.len]
  intro n4 f4 τ2 _ τ3 H3
  have ne41:n1<n4:=f4.1
  have S:=H3.sub
  refine by_r H3 (Hg τ3 x.id) ?_
  cases h1:G5 x.id with
  |false=>
   simp +contextual (disch:=omega) only[go_sem]
   exact hW _ _ _ H3 ⟨by simp +contextual (disch:=omega) only[go_sem],no (by simp[Bf,h1])⟩
  |true=>
   simp +contextual (disch:=omega) only[go_sem,e1]
   refine by_r H3 (A8n τ3 _ g (Ay.pre hR0 S) x.id hl) ?_
   by_cases h2:atId g x.id=k
   rotate_left
   ·have b:(atId g x.id != (k:Int))=true:=by simpa using h2
    simp +contextual (disch:=omega) only[go_sem,b,e3]
    exact hW _ _ _ H3 ⟨by simp +contextual (disch:=omega) only[go_sem],no (by simp[Bf,h2])⟩
   have b:(atId g x.id != (k:Int))=false:=by simp[h2]
   simp +contextual (disch:=omega) only[go_sem,b,e3]
   refine by_r H3 (Ed τ3 _ x.state (A9.pre hS S) (by omega)) ?_
   cases h3:Bh x.state with
   |false=>
    simp +contextual (disch:=omega) only[go_sem]
    exact hW _ _ _ H3 ⟨by simp +contextual (disch:=omega) only[go_sem],no (by simp[Bf,h3])⟩
   |true=>
    by_cases h4:x.ups.length≤2
    rotate_left
    ·have b4:decide (2<(x.ups.length:Int))=true:=by simp;omega
     simp +contextual (disch:=omega) only[go_sem,b4,hU.len]
     exact hW _ _ _ H3 ⟨by simp +contextual (disch:=omega) only[go_sem],no (by simp[Bf,h4])⟩
    have b4:decide (2<(x.ups.length:Int))=false:=by simp;omega
    simp +contextual (disch:=omega) only[go_sem,b4,hU.len]
    refine Bs x.ups.length 5 2 (fun i env hh=>env 1= .ptr n1 0∧env 3=gi k∧env 4= .ptr n4 0∧(∀ j,j<i→upP g k x j=true)∧hh=[.box 1 n4 (comV x u k0 k1 k2 k3),.box 1 n1 [v,gi g.head]]) (fun env hh=>env 1= .ptr n1 0∧env 3=gi k∧Bf g k x=true∧hh=[.box 1 n4 (comV x u k0 k1 k2 k3),.box 1 n1 [v,gi g.head]]) (fun env hh=>env 2= .bool false∧Bf g k x=false) _ H3 (by simp +contextual (disch:=omega) only[go_sem]) ⟨by simp +contextual (disch:=omega) only[go_sem,e1],by simp +contextual (disch:=omega) only[go_sem,e3],by simp +contextual (disch:=omega) only[go_sem],fun j hj=>by omega,rfl⟩ ?_ ?_ ?_ ?_
    ·clear H H3 S e1 e3
     rintro J2 Y2 W2 hJ2 hY2 hW2 i env h' τ hi e5 c0 H ⟨e1,e3,e4,ha,rfl⟩
     have S:=H.sub
     have L1:=Db hU hi
     have hup:upP g k x i=(inB x.ups[i] 0 ((k:Int) - 1)&&((decide (i=0)||decide (x.ups[i - 1]?.getD 0<x.ups[i]))&&behind (stAt g x.ups[i]) x.state)):=by
      unfold upP;rw[List.getElem?_eq_getElem hi]
     simp +contextual (disch:=omega) only[go_sem,c0,e1,e3,e4,e5,A4,L1,hU.len]
     refine by_r H (C6 _ _ _ _) ?_
     cases hA:inB x.ups[i] 0 ((k:Int) - 1) with
     |false=>
      simp +contextual (disch:=omega) only[go_sem]
      exact hW2 _ _ _ H ⟨by simp +contextual (disch:=omega) only[go_sem],Eb hi (by rw[hup,hA];rfl)⟩
     |true=>
      have hA2:=Cc.1 hA
      obtain⟨un,hun⟩:∃ un:Nat,x.ups[i]=un:=⟨x.ups[i].toNat,by omega⟩
      have hul:un<g.commits.length:=by omega
      have nu:Bk (some (GV.int .i64 x.ups[i]))=some un:=C5 hun
      obtain⟨u',j0,j1,j2,j3,C',hC',hU',hS'⟩:=Dk hv hul
      have hst:stAt g x.ups[i]=g.commits[un].state:=Qe hun hul
      have hbu:=(hb un hul).2
      have step:∀ env',(decide (i=0)||decide (x.ups[i - 1]?.getD 0<x.ups[i]))=true→behind (stAt g x.ups[i]) x.state=true→env' 1= .ptr n1 0→env' 3=gi k→env' 4= .ptr n4 0→J2 (i+1) env' τ:=fun env' q1 q2 a1 a3 a4=>hJ2 _ _ _ _ H ⟨a1,a3,a4,fun j hj=>by
       rcases Nat.lt_or_ge j i with h2|h2
       ·exact ha j h2
       ·have:j=i:=by omega
        subst this
        rw[hup,hA,q1,q2];rfl,rfl⟩
      by_cases hi0:i=0
      ·have bi:decide (0<(i:Int))=false:=by simp;omega
       simp +contextual (disch:=omega) only[go_sem,bi,e1,e3,e4,e5,A4,nu,L1,C']
       refine by_b H (L5 τ _ _ g.commits[un].state x.state (A9.pre hS' S) (A9.pre hS S) (by omega) (by omega)) (fun hB=> ?_) (fun hB=> ?_)
       ·simp +contextual (disch:=omega) only[go_sem,e5]
        exact step _ (by simp[hi0]) (by rw[hst];exact hB) (by simp +contextual (disch:=omega) only[go_sem,e1]) (by simp +contextual (disch:=omega) only[go_sem,e3]) (by simp +contextual (disch:=omega) only[go_sem,e4])
       ·simp +contextual (disch:=omega) only[go_sem]
        exact hW2 _ _ _ H ⟨by simp +contextual (disch:=omega) only[go_sem],Eb hi (by rw[hup,hst,hB];simp)⟩
      ·have bi:decide (0<(i:Int))=true:=by simp;omega
       have np:Bk (some (GV.int .i64 ((i:Int) - 1)))=some (i - 1):=C5 (by omega)
       have hi1:i - 1<x.ups.length:=by omega
       have L2:=Db hU hi1
       have hg:x.ups[i - 1]?.getD 0=x.ups[i - 1]:=by rw[List.getElem?_eq_getElem hi1];rfl
       by_cases hC2:x.ups[i - 1]<x.ups[i]
       ·have bC:decide (x.ups[i]≤x.ups[i - 1])=false:=by simp;omega
        simp +contextual (disch:=omega) only[go_sem,bi,bC,e1,e3,e4,e5,A4,nu,np,L1,L2,C']
        refine by_b H (L5 τ _ _ g.commits[un].state x.state (A9.pre hS' S) (A9.pre hS S) (by omega) (by omega)) (fun hB=> ?_) (fun hB=> ?_)
        ·simp +contextual (disch:=omega) only[go_sem,e5]
         exact step _ (by rw[hg];simp[hC2]) (by rw[hst];exact hB) (by simp +contextual (disch:=omega) only[go_sem,e1]) (by simp +contextual (disch:=omega) only[go_sem,e3]) (by simp +contextual (disch:=omega) only[go_sem,e4])
        ·simp +contextual (disch:=omega) only[go_sem]
         exact hW2 _ _ _ H ⟨by simp +contextual (disch:=omega) only[go_sem],Eb hi (by rw[hup,hst,hB];simp)⟩
       ·have bC:decide (x.ups[i]≤x.ups[i - 1])=true:=by simp;omega
        simp +contextual (disch:=omega) only[go_sem,bi,bC,e1,e3,e4,e5,A4,nu,np,L1,L2,C']
        exact hW2 _ _ _ H ⟨by simp +contextual (disch:=omega) only[go_sem],Eb hi (by rw[hup,hg];simp[hi0,hC2])⟩
    ·clear H H3 S e1 e3
     rintro Y2 hY2 env h' τ e5 c0 H ⟨e1,e3,e4,ha,rfl⟩
     simp +contextual (disch:=omega) only[go_sem,c0,e4,e5,hU.len]
     exact hY2 _ _ _ H ⟨e1,e3,by simp[Bf,h1,h2,h3,h4,Fl ha],rfl⟩
    ·clear H H3 S e1 e3
     rintro env h' τ H ⟨e1,e3,hok,rfl⟩
     simp +contextual (disch:=omega) only[go_sem,e3]
     exact hJ _ _ _ _ (H.re [1] (by decide)) ⟨by simp +contextual (disch:=omega) only[go_sem,e1],yes hok,rfl⟩
    ·clear H H3 S e1 e3
     rintro env h' τ H ⟨e2,d⟩
     exact hW _ _ _ H ⟨e2,no d⟩
 ·clear H S
  rintro Y hY env h' τ e3 c0 H ⟨e1,ha,rfl⟩
  simp +contextual (disch:=omega) only[go_sem,c0,e1,e3,hv.len]
  exact hY _ _ _ H (by simp[C7,h1,hin,Fl ha])
 ·rintro env h' τ H d
  simp +contextual (disch:=omega) only[go_sem,d]
  try exact fun _=>rfl
 ·rintro env h' τ H ⟨e2,d⟩
  simp +contextual (disch:=omega) only[go_sem,e2,d]
  try exact fun _=>rfl
def On (g:Graph) (k:Int):State:=match g.commits[k.toNat]? with
 |some x=>(match x.ups[0]? with
  |some u=>stAt g u
  |none=>st0)
 |none=>st0
def Ax (g:Graph) (k:Int):Delta×Bool:=if inB k 0 ((g.commits.length:Int) - 1)&&C7 g then Cx (On g k) (stAt g k) else(delta0,false)
theorem Z4 {g:Graph} (h:C7 g=true) {k i:Nat} (hk:k<g.commits.length) (hi:i<g.commits[k].ups.length):∃ un:Nat,g.commits[k].ups[i]=un∧un<k:=by
 simp only[C7,Bool.and_eq_true,Dq] at h
 have h1:=h.2.2 k hk
 rw[Lr hk] at h1
 simp only[Bf,Bool.and_eq_true,Dq] at h1
 have h2:=h1.2.2.2.2 i hi
 unfold upP at h2
 rw[List.getElem?_eq_getElem hi] at h2
 simp only[Bool.and_eq_true] at h2
 have h3:=Cc.1 h2.1
 exact⟨g.commits[k].ups[i].toNat,by omega,by omega⟩
theorem Abj (g:Graph) (u:Int):Ad (stAt g u)≤Ci g+3:=by
 unfold stAt
 split
 ·rename_i x hx
  have h1:=G8 (f:=Aq) (List.mem_of_getElem? hx)
  have h2:Aq x=x.ups.length+Ad x.state:=rfl
  unfold Ci
  omega
 ·have:Ad st0=3:=rfl
  omega
theorem Adu (g:Graph) (k:Int):Ad (On g k)≤Ci g+3:=by
 have h3:Ad st0=3:=rfl
 unfold On
 split
 ·split
  ·exact Abj g _
  ·omega
 ·omega
theorem Fd (g:Graph) (k:Int):Hf (Ax g k).1≤3*Ci g+9:=by
 unfold Ax
 split
 ·have:=A8o (On g k) (stAt g k)
  have:=Abj g k
  have:=Adu g k
  omega
 ·simp only[Hf,sumL,List.map_nil,List.sum_nil,List.length_nil];omega
set_option maxHeartbeats 4000000 in
theorem L9 (σ:St) (cs:List GV) (g:Graph) (hR:Ay.R σ g cs) (k:Int) (hm:Ci g≤1048576):∃ r τ,Ret Tryz.prog Jh [.agg cs,gi k] σ (.tup [.agg r,.bool (Ax g k).2]) τ∧Hp σ τ [own Ch r (Ax g k).1]:=by
 obtain⟨hl,hb⟩:=Ok hm
 have hR0:=hR
 obtain⟨v,rfl,hv⟩:=hR
 have key:∃ q τ,Ret Tryz.prog Jh [.agg [v,gi g.head],gi k] σ q τ∧∃ r,q= .tup [.agg r,.bool (Ax g k).2]∧Hp σ τ [own Ch r (Ax g k).1]:=by
  refine Lv Xd (Z0z rfl) (Hx.refl σ) ?_
  simp +contextual (disch:=omega) only[go_sem,Ol]
  intro n2 f2 τ2 _ n4 f4 τ4 H4
  have ne42:n2<n4:=f4.1
  refine by_b H4 (Mf τ4 _ g (Ay.pre hR0 H4.sub) k hl) (fun hk=> ?_) (fun hk=> ?_)
  rotate_left
  ·have hd:Ax g k=(delta0,false):=by simp[Ax,hk]
   simp +contextual (disch:=omega) only[go_sem]
   intro τ5 H5
   exact⟨_,rfl,_,by rw[hd],by rw[hd];exact(H5.delta0).hp.sel [0] (by decide)⟩
  simp +contextual (disch:=omega) only[go_sem]
  refine by_b H4 (A1b τ4 _ g (Ay.pre hR0 H4.sub) hm) (fun hg=> ?_) (fun hg=> ?_)
  rotate_left
  ·have hd:Ax g k=(delta0,false):=by simp[Ax,hg]
   simp +contextual (disch:=omega) only[go_sem]
   intro τ5 H5
   exact⟨_,rfl,_,by rw[hd],by rw[hd];exact(H5.delta0).hp.sel [0] (by decide)⟩
  have hd:Ax g k=Cx (On g k) (stAt g k):=by simp[Ax,hk,hg]
  have hk2:=Cc.1 hk
  obtain⟨kn,hkn⟩:∃ kn:Nat,k=kn:=⟨k.toNat,by omega⟩
  have hkl:kn<g.commits.length:=by omega
  have nk:Bk (some (GV.int .i64 k))=some kn:=C5 hkn
  obtain⟨u,k0,k1,k2,k3,C,hC,hU,hS⟩:=Dk hv hkl
  have hst:stAt g k=g.commits[kn].state:=Qe hkn hkl
  obtain⟨b1,b2⟩:=hb kn hkl
  simp +contextual (disch:=omega) only[go_sem]
  obtain⟨r,τ5,R5,K5⟩:=X5 τ4
  have gr:r.length=4:=A9.len (K5.rd 0 rfl)
  refine by_c H4 R5 K5 fun H5=> ?_
  simp +contextual (disch:=omega) only[go_sem,Bl (cs:=z4') gr rfl,gr]
  intro n6 f6 τ6 _ τ7 H7
  have ne62:n2<n6:=by have:=f6;(try simp only[V2,A3c] at this);omega
  have ne64:n4<n6:=by have:=f6;(try simp only[V2,A3c] at this);omega
  try simp +contextual (disch:=omega) only[go_sem,nk,C]
  intro n7 f7 τ8 _ τ9 H9
  have ne76:n6<n7:=by have:=f7;(try simp only[V2,A3c] at this);omega
  have ne74:n4<n7:=by omega
  have ne72:n2<n7:=by omega
  have S:=H9.sub
  cases hu:decide (0<(g.commits[kn].ups.length:Int)) with
  |false=>
   have hu0:g.commits[kn].ups.length=0:=by have:=of_decide_eq_false hu;omega
   have hbf:On g k=st0:=by
    unfold On
    rw[hkn,show((kn:Int)).toNat=kn by omega,List.getElem?_eq_getElem hkl]
    simp only[List.getElem?_eq_none (show g.commits[kn].ups.length≤0 by omega)]
   simp +contextual (disch:=omega) only[go_sem,hu,hU.len,Au gr]
   obtain⟨e,τ10,R10,K10⟩:=Od τ9 r st0 (H9.hp.rd 2 rfl) [k0,k1,k2,k3] g.commits[kn].state (A9.pre hS S) (by have:Ad st0=3:=rfl;omega) (by omega)
   obtain⟨d0,d1,d2,d3,d4,d5,rfl,_⟩:=K10.rd 0 rfl
   refine by_c H9 R10 K10 fun H10=> ?_
   simp +contextual (disch:=omega) only[go_sem]
   intro τ11 H11
   exact⟨_,rfl,_,by rw[hd,hbf,hst],by rw[hd,hbf,hst];exact H11.sel [0] (by decide)⟩
  |true=>
   have hu0:0<g.commits[kn].ups.length:=by have:=of_decide_eq_true hu;omega
   obtain⟨un,hun,hul⟩:=Z4 hg hkl hu0
   have hul:un<g.commits.length:=by omega
   have nu:Bk (some (GV.int .i64 g.commits[kn].ups[0]))=some un:=C5 hun
   have n0:Bk (some (GV.int .i64 0))=some 0:=rfl
   have L1:=Db hU hu0
   obtain⟨u',j0,j1,j2,j3,C',hC',hU',hS'⟩:=Dk hv hul
   have hst':stAt g g.commits[kn].ups[0]=g.commits[un].state:=Qe hun hul
   have hbf:On g k=g.commits[un].state:=by
    unfold On
    rw[hkn,show((kn:Int)).toNat=kn by omega,List.getElem?_eq_getElem hkl]
    simp only[List.getElem?_eq_getElem hu0]
    exact hst'
   have hbu:=(hb un hul).2
   simp +contextual (disch:=omega) only[go_sem,hu,hU.len,n0,L1,nu,C',Bl (cs:=r) (ds:=[j0,j1,j2,j3]) (n:=4) rfl gr,gr]
   intro τ10 H10
   try simp +contextual (disch:=omega) only[go_sem]
   obtain⟨e,τ11,R11,K11⟩:=Od τ10 [j0,j1,j2,j3] g.commits[un].state (A9.pre hS' H10.sub) [k0,k1,k2,k3] g.commits[kn].state (A9.pre hS H10.sub) (by omega) (by omega)
   obtain⟨d0,d1,d2,d3,d4,d5,rfl,_⟩:=K11.rd 0 rfl
   refine by_c H10 R11 K11 fun H11=> ?_
   simp +contextual (disch:=omega) only[go_sem]
   intro τ12 H12
   exact⟨_,rfl,_,by rw[hd,hbf,hst],by rw[hd,hbf,hst];exact H12.sel [0] (by decide)⟩
 obtain⟨q,τ,R,r,rfl,h⟩:=key
 exact⟨r,τ,R,h⟩
set_option maxHeartbeats 4000000 in
theorem Vv (σ:St) (cs:List GV) (g:Graph) (hR:Ay.R σ g cs) (k:Int) (hm:Ci g≤1048576):∃ r τ,Ret Tryz.prog Ji [.agg cs,gi k] σ (.tup [.agg r,.bool (Ax g k).2]) τ∧Hp σ τ [own Ch r (Ax g k).1]:=by
 obtain⟨hl,hb⟩:=Ok hm
 have hR0:=hR
 obtain⟨v,rfl,hv⟩:=hR
 have key:∃ q τ,Ret Tryz.prog Ji [.agg [v,gi g.head],gi k] σ q τ∧∃ r,q= .tup [.agg r,.bool (Ax g k).2]∧Hp σ τ [own Ch r (Ax g k).1]:=by
  refine Lv Xe (Z0z rfl) (Hx.refl σ) ?_
  simp +contextual (disch:=omega) only[go_sem,Om]
  intro n2 f2 τ2 _ n4 f4 τ4 H4
  have ne42:n2<n4:=f4.1
  refine by_b H4 (A1c τ4 _ g (Ay.pre hR0 H4.sub) hm) (fun hg=> ?_) (fun hg=> ?_)
  rotate_left
  ·have hd:Ax g k=(delta0,false):=by simp[Ax,hg]
   simp +contextual (disch:=omega) only[go_sem]
   intro τ5 H5
   exact⟨_,rfl,_,by rw[hd],by rw[hd];exact(H5.delta0).hp.sel [0] (by decide)⟩
  simp +contextual (disch:=omega) only[go_sem,hv.len]
  refine by_b H4 (C6 _ _ _ _) (fun hk=> ?_) (fun hk=> ?_)
  rotate_left
  ·have hd:Ax g k=(delta0,false):=by simp[Ax,hk]
   simp +contextual (disch:=omega) only[go_sem]
   intro τ5 H5
   exact⟨_,rfl,_,by rw[hd],by rw[hd];exact(H5.delta0).hp.sel [0] (by decide)⟩
  have hd:Ax g k=Cx (On g k) (stAt g k):=by simp[Ax,hk,hg]
  have hk2:=Cc.1 hk
  obtain⟨kn,hkn⟩:∃ kn:Nat,k=kn:=⟨k.toNat,by omega⟩
  have hkl:kn<g.commits.length:=by omega
  have nk:Bk (some (GV.int .i64 k))=some kn:=C5 hkn
  obtain⟨u,k0,k1,k2,k3,C,hC,hU,hS⟩:=Dk hv hkl
  have hst:stAt g k=g.commits[kn].state:=Qe hkn hkl
  obtain⟨b1,b2⟩:=hb kn hkl
  simp +contextual (disch:=omega) only[go_sem]
  obtain⟨r,τ5,R5,K5⟩:=X4 τ4
  have gr:r.length=4:=A9.len (K5.rd 0 rfl)
  refine by_c H4 R5 K5 fun H5=> ?_
  simp +contextual (disch:=omega) only[go_sem,Bl (cs:=z4') gr rfl,gr]
  intro n6 f6 τ6 _ τ7 H7
  have ne62:n2<n6:=by have:=f6;(try simp only[V2,A3c] at this);omega
  have ne64:n4<n6:=by have:=f6;(try simp only[V2,A3c] at this);omega
  have S:=H7.sub
  cases hu:decide (0<(g.commits[kn].ups.length:Int)) with
  |false=>
   have hu0:g.commits[kn].ups.length=0:=by have:=of_decide_eq_false hu;omega
   have hbf:On g k=st0:=by
    unfold On
    rw[hkn,show((kn:Int)).toNat=kn by omega,List.getElem?_eq_getElem hkl]
    simp only[List.getElem?_eq_none (show g.commits[kn].ups.length≤0 by omega)]
   simp +contextual (disch:=omega) only[go_sem,hu,hU.len,nk,C,Au gr]
   obtain⟨e,τ10,R10,K10⟩:=Oe τ7 r st0 (H7.hp.rd 1 rfl) [k0,k1,k2,k3] g.commits[kn].state (A9.pre hS S) (by have:Ad st0=3:=rfl;omega) (by omega)
   obtain⟨d0,d1,d2,d3,d4,d5,rfl,_⟩:=K10.rd 0 rfl
   refine by_c H7 R10 K10 fun H10=> ?_
   simp +contextual (disch:=omega) only[go_sem]
   intro τ11 H11
   exact⟨_,rfl,_,by rw[hd,hbf,hst],by rw[hd,hbf,hst];exact H11.sel [0] (by decide)⟩
  |true=>
   have hu0:0<g.commits[kn].ups.length:=by have:=of_decide_eq_true hu;omega
   obtain⟨un,hun,hul⟩:=Z4 hg hkl hu0
   have hul:un<g.commits.length:=by omega
   have nu:Bk (some (GV.int .i64 g.commits[kn].ups[0]))=some un:=C5 hun
   have n0:Bk (some (GV.int .i64 0))=some 0:=rfl
   have L1:=Db hU hu0
   obtain⟨u',j0,j1,j2,j3,C',hC',hU',hS'⟩:=Dk hv hul
   have hst':stAt g g.commits[kn].ups[0]=g.commits[un].state:=Qe hun hul
   have hbf:On g k=g.commits[un].state:=by
    unfold On
    rw[hkn,show((kn:Int)).toNat=kn by omega,List.getElem?_eq_getElem hkl]
    simp only[List.getElem?_eq_getElem hu0]
    exact hst'
   have hbu:=(hb un hul).2
   simp +contextual (disch:=omega) only[go_sem,hu,hU.len,nk,C,n0,L1,nu,C',Bl (cs:=r) (ds:=[j0,j1,j2,j3]) (n:=4) rfl gr,gr]
   intro τ10 H10
   try simp +contextual (disch:=omega) only[go_sem,nk,C]
   obtain⟨e,τ11,R11,K11⟩:=Oe τ10 [j0,j1,j2,j3] g.commits[un].state (A9.pre hS' H10.sub) [k0,k1,k2,k3] g.commits[kn].state (A9.pre hS H10.sub) (by omega) (by omega)
   obtain⟨d0,d1,d2,d3,d4,d5,rfl,_⟩:=K11.rd 0 rfl
   refine by_c H10 R11 K11 fun H11=> ?_
   simp +contextual (disch:=omega) only[go_sem]
   intro τ12 H12
   exact⟨_,rfl,_,by rw[hd,hbf,hst],by rw[hd,hbf,hst];exact H12.sel [0] (by decide)⟩
 obtain⟨q,τ,R,r,rfl,h⟩:=key
 exact⟨r,τ,R,h⟩
end
section
open Go Go.RowKit
abbrev A41:Nat:=160
def A42:Fn1:=⟨15,[.t 4],(rg [oX 2 0,oX 3 1,oV 4 kf] (.seq (rg [oF 5 0 2,oL 6 5,oF 7 0 3,oL 8 7,oB 9 .neq 6 8] (.cnd (.t 9) (rg [oV 4 kf] .ret) .skip)) (.seq (rg [oF 10 1 2,oL 11 10,oF 12 1 3,oL 13 12,oB 14 .neq 11 13] (.cnd (.t 14) (rg [oV 4 kf] .ret) .skip)) (rg [oV 4 kt] .ret))))⟩
theorem A8p:A8 Tryz.prog A41=some A42:=by kernel_rfl
theorem Ho (σ:St) (x y:Dot):Ret Tryz.prog A41 [.agg [.int .i64 x.rep,.int .i64 x.seq],.agg [.int .i64 y.rep,.int .i64 y.seq]] σ (.bool (decide (x=y))) σ:=by
 refine Al A8p (Z0z rfl) trivial ?_
 simp +contextual (disch:=omega) only[go_sem,A42,List.append_nil]
 refine⟨fun hn=> ?_,fun hn=> ?_⟩
 ·simp only[Dot.eq_iff];simp at hn ⊢;simp[hn]
 have q0:x.rep=y.rep:=by simpa using hn
 refine⟨fun hn=> ?_,fun hn=> ?_⟩
 ·simp only[Dot.eq_iff];simp at hn ⊢;simp[hn]
 have q1:x.seq=y.seq:=by simpa using hn
 simp only[Dot.eq_iff,q0,q1,and_self,decide_true]
end
section
open Go Go.RowKit
abbrev Z5:Nat:=242
def Z6:Fn1:=⟨37,[.t 4],(rg [oX 2 0,oX 3 1,oV 4 kf] (.seq (rg [oF 5 0 2,oL 6 5,oF 7 0 3,oL 8 7,oB 9 .neq 6 8] (.cnd (.t 9) (rg [oV 4 kf] .ret) .skip)) (.seq (rg [oF 10 1 2,oW 11 2 10,oF 12 1 3,oW 13 2 12,oD 14 160 11 13,oU 15 14] (.cnd (.t 15) (rg [oV 4 kf] .ret) .skip)) (.seq (rg [oF 16 3 2,oL 17 16,oF 18 3 3,oL 19 18,oB 20 .neq 17 19] (.cnd (.t 20) (rg [oV 4 kf] .ret) .skip)) (.seq (rg [oF 21 4 2,oW 22 2 21,oF 23 4 3,oW 24 2 23,oD 25 160 22 24,oU 26 25] (.cnd (.t 26) (rg [oV 4 kf] .ret) .skip)) (.seq (rg [oF 27 6 2,oL 28 27,oF 29 6 3,oL 30 29,oB 31 .neq 28 30] (.cnd (.t 31) (rg [oV 4 kf] .ret) .skip)) (.seq (rg [oF 32 7 2,oL 33 32,oF 34 7 3,oL 35 34,o 36 (.eqb true (.t 33) (.t 35))] (.cnd (.t 36) (rg [oV 4 kf] .ret) .skip)) (rg [oV 4 kt] .ret))))))))⟩
theorem A60:A8 Tryz.prog Z5=some Z6:=by kernel_rfl
theorem A43 (σ:St) (x y:Cell):Ret Tryz.prog Z5 [.agg [.str x.obj,.int .i64 x.dot.rep,.int .i64 x.dot.seq,.int .i64 x.time,.int .i64 x.ref.rep,.int .i64 x.ref.seq,.int .i64 x.val,.bool x.gone],.agg [.str y.obj,.int .i64 y.dot.rep,.int .i64 y.dot.seq,.int .i64 y.time,.int .i64 y.ref.rep,.int .i64 y.ref.seq,.int .i64 y.val,.bool y.gone]] σ (.bool (decide (x=y))) σ:=by
 refine Al A60 (Z0z rfl) trivial ?_
 simp +contextual (disch:=omega) only[go_sem,Z6,List.append_nil]
 refine⟨fun hn=> ?_,fun hn=> ?_⟩
 ·simp only[Cell.eq_iff];simp at hn ⊢;simp[hn]
 have q0:x.obj=y.obj:=by simpa using hn
 refine Ac (Ho _ x.dot y.dot) ?_
 simp +contextual (disch:=omega) only[go_sem,List.append_nil]
 refine⟨fun hn=> ?_,fun hn=> ?_⟩
 ·simp only[Cell.eq_iff];simp at hn ⊢;simp[hn]
 have q1:x.dot=y.dot:=by simpa using hn
 refine⟨fun hn=> ?_,fun hn=> ?_⟩
 ·simp only[Cell.eq_iff];simp at hn ⊢;simp[hn]
 have q2:x.time=y.time:=by simpa using hn
 refine Ac (Ho _ x.ref y.ref) ?_
 simp +contextual (disch:=omega) only[go_sem,List.append_nil]
 refine⟨fun hn=> ?_,fun hn=> ?_⟩
 ·simp only[Cell.eq_iff];simp at hn ⊢;simp[hn]
 have q3:x.ref=y.ref:=by simpa using hn
 refine⟨fun hn=> ?_,fun hn=> ?_⟩
 ·simp only[Cell.eq_iff];simp at hn ⊢;simp[hn]
 have q4:x.val=y.val:=by simpa using hn
 refine⟨fun hn=> ?_,fun hn=> ?_⟩
 ·simp only[Cell.eq_iff];simp at hn ⊢;simp[hn]
 have q5:x.gone=y.gone:=by simpa using hn
 simp only[Cell.eq_iff,q0,q1,q2,q3,q4,q5,and_self,decide_true]
end
section
open Go Go.RowKit
abbrev Vw:Nat:=133
def Vx:Fn1:=⟨27,[.t 4],(rg [oV 4 kf] (.seq (rg [oM 6 0,oN 7 6,oM 8 1,oN 9 8,oB 10 .neq 7 9] (.cnd (.t 10) (rg [oV 4 kf] .ret) .skip)) (.seq (rg [oV 5 (ki 0)] (.blk 0 (.lop (.seq (rg [oM 11 5,oM 12 0,oN 13 12,oB 14 .lss 11 13] (.cnd (.t 14) .skip (.ext 0))) (.seq (.blk 1 (.seq (.drw [oM 17 0,oM 18 5,oI 19 8 17 18,oW 20 8 19,oM 21 1,oM 22 5,oI 23 8 21 22,oW 24 8 23] [oD 25 242 20 24,oU 26 25]) (.cnd (.t 26) (rg [oV 4 kf] .ret) .skip))) (.reg [oM 15 5,oZ 16 15 1,oM 5 16])))))) (rg [oV 4 kt] .ret))))⟩
theorem A44:A8 Tryz.prog Vw=some Vx:=by kernel_rfl
theorem Oo (σ:St) (v u:GV) (l m:List Cell) (hv:RS Ae.kd σ v l) (hu:RS Ae.kd σ u m) (hl:(l.length+sumL D8 l)≤1099511627776):Ret Tryz.prog Vw [v,u] σ (.bool (decide (l=m))) σ:=by
 refine Al A44 (Z0z rfl) trivial ?_
 simp +contextual (disch:=omega) only[go_sem,Vx,hv.len,hu.len]
 refine⟨fun hn=> ?_,fun hn=> ?_⟩
 ·have:l≠m:=fun h=>by subst h;simp at hn
  simp[this]
 have hlm:l.length=m.length:=by
                    have h2:(l.length:Int)=m.length:=by simpa using hn
                    omega
 refine B4 l.length 5 (fun i env τ=>env 0=v∧env 1=u∧l.take i=m.take i∧σ <+: τ) rfl ⟨rfl,rfl,rfl,List.prefix_refl _⟩ ?_ ?_
 ·rintro i env τ hi e5 c0 ⟨e0,e1,he,hp⟩
  have hj:i<m.length:=by omega
  have h1:=hv.pre hp
  have h2:=hu.pre hp
  have hne:l[i]≠m[i]→l≠m:=fun h h'=>h (by subst h';rfl)
  have hst:l[i]=m[i]→l.take (i+1)=m.take (i+1):=fun h=>by rw[Ag hi,Ag hj,he,h]
  have hms:D8 l[i]≤sumL D8 l:=G8 (List.getElem_mem hi)
  simp +contextual (disch:=omega) only[go_sem,c0,e0,e1,e5,hv.len,hu.len,A7 h1 hi,A7 h2 hj]
  refine Ac (A43 τ l[i] m[i]) ?_
  simp +contextual (disch:=omega) only[go_sem,e0,e1,e5,hp]
  refine⟨fun h=> ?_,fun h=> ?_⟩
  ·simp[hne (by simpa using h)]
  ·simpa using hst (by simpa using h)
 ·rintro env τ e5 c0 ⟨e0,e1,he,hp⟩
  rw[List.take_length,hlm,List.take_length] at he
  simp +contextual (disch:=omega) only[go_sem,c0,e0,e1,e5,hv.len,hu.len,hp]
  simp[he]
end
section
open Go Go.RowKit
abbrev Z7:Nat:=132
def Z8:Fn1:=⟨27,[.t 4],(rg [oV 4 kf] (.seq (rg [oM 6 0,oN 7 6,oM 8 1,oN 9 8,oB 10 .neq 7 9] (.cnd (.t 10) (rg [oV 4 kf] .ret) .skip)) (.seq (rg [oV 5 (ki 0)] (.blk 0 (.lop (.seq (rg [oM 11 5,oM 12 0,oN 13 12,oB 14 .lss 11 13] (.cnd (.t 14) .skip (.ext 0))) (.seq (.blk 1 (.seq (.drw [oM 17 0,oM 18 5,oI 19 2 17 18,oW 20 2 19,oM 21 1,oM 22 5,oI 23 2 21 22,oW 24 2 23] [oD 25 160 20 24,oU 26 25]) (.cnd (.t 26) (rg [oV 4 kf] .ret) .skip))) (.reg [oM 15 5,oZ 16 15 1,oM 5 16])))))) (rg [oV 4 kt] .ret))))⟩
theorem A61:A8 Tryz.prog Z7=some Z8:=by kernel_rfl
theorem A45 (σ:St) (v u:GV) (l m:List Dot) (hv:RS pDot.kd σ v l) (hu:RS pDot.kd σ u m) (hl:l.length≤1099511627776):Ret Tryz.prog Z7 [v,u] σ (.bool (decide (l=m))) σ:=by
 refine Al A61 (Z0z rfl) trivial ?_
 simp +contextual (disch:=omega) only[go_sem,Z8,hv.len,hu.len]
 refine⟨fun hn=> ?_,fun hn=> ?_⟩
 ·have:l≠m:=fun h=>by subst h;simp at hn
  simp[this]
 have hlm:l.length=m.length:=by
                    have h2:(l.length:Int)=m.length:=by simpa using hn
                    omega
 refine B4 l.length 5 (fun i env τ=>env 0=v∧env 1=u∧l.take i=m.take i∧σ <+: τ) rfl ⟨rfl,rfl,rfl,List.prefix_refl _⟩ ?_ ?_
 ·rintro i env τ hi e5 c0 ⟨e0,e1,he,hp⟩
  have hj:i<m.length:=by omega
  have h1:=hv.pre hp
  have h2:=hu.pre hp
  have hne:l[i]≠m[i]→l≠m:=fun h h'=>h (by subst h';rfl)
  have hst:l[i]=m[i]→l.take (i+1)=m.take (i+1):=fun h=>by rw[Ag hi,Ag hj,he,h]
  simp +contextual (disch:=omega) only[go_sem,c0,e0,e1,e5,hv.len,hu.len,A6k h1 hi,A6k h2 hj]
  refine Ac (Ho τ l[i] m[i]) ?_
  simp +contextual (disch:=omega) only[go_sem,e0,e1,e5,hp]
  refine⟨fun h=> ?_,fun h=> ?_⟩
  ·simp[hne (by simpa using h)]
  ·simpa using hst (by simpa using h)
 ·rintro env τ e5 c0 ⟨e0,e1,he,hp⟩
  rw[List.take_length,hlm,List.take_length] at he
  simp +contextual (disch:=omega) only[go_sem,c0,e0,e1,e5,hv.len,hu.len,hp]
  simp[he]
end
section
open Go Go.RowKit
abbrev Z9:Nat:=129
def Za:Fn1:=⟨26,[.t 4],(rg [oV 4 kf] (.seq (rg [oM 6 0,oN 7 6,oM 8 1,oN 9 8,oB 10 .neq 7 9] (.cnd (.t 10) (rg [oV 4 kf] .ret) .skip)) (.seq (rg [oV 5 (ki 0)] (.blk 0 (.lop (.seq (rg [oM 11 5,oM 12 0,oN 13 12,oB 14 .lss 11 13] (.cnd (.t 14) .skip (.ext 0))) (.seq (.blk 1 (.seq (.drw [oM 17 0,oM 18 5,oI 19 1 17 18,oL 20 19,oM 21 1,oM 22 5,oI 23 1 21 22,oL 24 23] [oB 25 .neq 20 24]) (.cnd (.t 25) (rg [oV 4 kf] .ret) .skip))) (.reg [oM 15 5,oZ 16 15 1,oM 5 16])))))) (rg [oV 4 kt] .ret))))⟩
theorem A62:A8 Tryz.prog Z9=some Za:=by kernel_rfl
theorem I7 (σ:St) (v u:GV) (l m:List Int) (hv:RS pI.kd σ v l) (hu:RS pI.kd σ u m) (hl:l.length≤1099511627776):Ret Tryz.prog Z9 [v,u] σ (.bool (decide (l=m))) σ:=by
 refine Al A62 (Z0z rfl) trivial ?_
 simp +contextual (disch:=omega) only[go_sem,Za,hv.len,hu.len]
 refine⟨fun hn=> ?_,fun hn=> ?_⟩
 ·have:l≠m:=fun h=>by subst h;simp at hn
  simp[this]
 have hlm:l.length=m.length:=by
                    have h2:(l.length:Int)=m.length:=by simpa using hn
                    omega
 refine B4 l.length 5 (fun i env τ=>env 0=v∧env 1=u∧l.take i=m.take i∧σ <+: τ) rfl ⟨rfl,rfl,rfl,List.prefix_refl _⟩ ?_ ?_
 ·rintro i env τ hi e5 c0 ⟨e0,e1,he,hp⟩
  have hj:i<m.length:=by omega
  have h1:=hv.pre hp
  have h2:=hu.pre hp
  have hne:l[i]≠m[i]→l≠m:=fun h h'=>h (by subst h';rfl)
  have hst:l[i]=m[i]→l.take (i+1)=m.take (i+1):=fun h=>by rw[Ag hi,Ag hj,he,h]
  simp +contextual (disch:=omega) only[go_sem,c0,e0,e1,e5,hv.len,hu.len,Db h1 hi,Db h2 hj,hp]
  refine⟨fun h=> ?_,fun h=> ?_⟩
  ·simp[hne (by simpa using h)]
  ·simpa using hst (by simpa using h)
 ·rintro env τ e5 c0 ⟨e0,e1,he,hp⟩
  rw[List.take_length,hlm,List.take_length] at he
  simp +contextual (disch:=omega) only[go_sem,c0,e0,e1,e5,hv.len,hu.len,hp]
  simp[he]
end
section
open Go Go.RowKit
abbrev Zb:Nat:=241
def Zc:Fn1:=⟨31,[.t 4],(rg [oX 2 0,oX 3 1,oV 4 kf] (.seq (rg [oF 5 0 2,oL 6 5,oF 7 0 3,oL 8 7,o 9 (.eqb true (.t 6) (.t 8))] (.cnd (.t 9) (rg [oV 4 kf] .ret) .skip)) (.seq (rg [oF 10 1 2,oL 11 10,oF 12 1 3,oL 13 12,oB 14 .neq 11 13] (.cnd (.t 14) (rg [oV 4 kf] .ret) .skip)) (.seq (rg [oF 15 2 2,oL 16 15,oF 17 2 3,oL 18 17,oB 19 .neq 16 18] (.cnd (.t 19) (rg [oV 4 kf] .ret) .skip)) (.seq (rg [oF 20 3 2,oL 21 20,oF 22 3 3,oL 23 22,oB 24 .neq 21 23] (.cnd (.t 24) (rg [oV 4 kf] .ret) .skip)) (.seq (rg [oF 25 4 2,oW 26 2 25,oF 27 4 3,oW 28 2 27,oD 29 160 26 28,oU 30 29] (.cnd (.t 30) (rg [oV 4 kf] .ret) .skip)) (rg [oV 4 kt] .ret)))))))⟩
theorem A63:A8 Tryz.prog Zb=some Zc:=by kernel_rfl
theorem A46 (σ:St) (x y:Live):Ret Tryz.prog Zb [.agg [.bool x.map,.str x.obj,.str x.key,.int .i64 x.val,.int .i64 x.dot.rep,.int .i64 x.dot.seq],.agg [.bool y.map,.str y.obj,.str y.key,.int .i64 y.val,.int .i64 y.dot.rep,.int .i64 y.dot.seq]] σ (.bool (decide (x=y))) σ:=by
 refine Al A63 (Z0z rfl) trivial ?_
 simp +contextual (disch:=omega) only[go_sem,Zc,List.append_nil]
 refine⟨fun hn=> ?_,fun hn=> ?_⟩
 ·simp only[Live.eq_iff];simp at hn ⊢;simp[hn]
 have q0:x.map=y.map:=by simpa using hn
 refine⟨fun hn=> ?_,fun hn=> ?_⟩
 ·simp only[Live.eq_iff];simp at hn ⊢;simp[hn]
 have q1:x.obj=y.obj:=by simpa using hn
 refine⟨fun hn=> ?_,fun hn=> ?_⟩
 ·simp only[Live.eq_iff];simp at hn ⊢;simp[hn]
 have q2:x.key=y.key:=by simpa using hn
 refine⟨fun hn=> ?_,fun hn=> ?_⟩
 ·simp only[Live.eq_iff];simp at hn ⊢;simp[hn]
 have q3:x.val=y.val:=by simpa using hn
 refine Ac (Ho _ x.dot y.dot) ?_
 simp +contextual (disch:=omega) only[go_sem,List.append_nil]
 refine⟨fun hn=> ?_,fun hn=> ?_⟩
 ·simp only[Live.eq_iff];simp at hn ⊢;simp[hn]
 have q4:x.dot=y.dot:=by simpa using hn
 simp only[Live.eq_iff,q0,q1,q2,q3,q4,and_self,decide_true]
end
section
open Go Go.RowKit
abbrev Vy:Nat:=131
def Vz:Fn1:=⟨27,[.t 4],(rg [oV 4 kf] (.seq (rg [oM 6 0,oN 7 6,oM 8 1,oN 9 8,oB 10 .neq 7 9] (.cnd (.t 10) (rg [oV 4 kf] .ret) .skip)) (.seq (rg [oV 5 (ki 0)] (.blk 0 (.lop (.seq (rg [oM 11 5,oM 12 0,oN 13 12,oB 14 .lss 11 13] (.cnd (.t 14) .skip (.ext 0))) (.seq (.blk 1 (.seq (.drw [oM 17 0,oM 18 5,oI 19 6 17 18,oW 20 6 19,oM 21 1,oM 22 5,oI 23 6 21 22,oW 24 6 23] [oD 25 241 20 24,oU 26 25]) (.cnd (.t 26) (rg [oV 4 kf] .ret) .skip))) (.reg [oM 15 5,oZ 16 15 1,oM 5 16])))))) (rg [oV 4 kt] .ret))))⟩
theorem A47:A8 Tryz.prog Vy=some Vz:=by kernel_rfl
theorem Oq (σ:St) (v u:GV) (l m:List Live) (hv:RS Ai.kd σ v l) (hu:RS Ai.kd σ u m) (hl:(l.length+sumL Ck l)≤1099511627776):Ret Tryz.prog Vy [v,u] σ (.bool (decide (l=m))) σ:=by
 refine Al A47 (Z0z rfl) trivial ?_
 simp +contextual (disch:=omega) only[go_sem,Vz,hv.len,hu.len]
 refine⟨fun hn=> ?_,fun hn=> ?_⟩
 ·have:l≠m:=fun h=>by subst h;simp at hn
  simp[this]
 have hlm:l.length=m.length:=by
                    have h2:(l.length:Int)=m.length:=by simpa using hn
                    omega
 refine B4 l.length 5 (fun i env τ=>env 0=v∧env 1=u∧l.take i=m.take i∧σ <+: τ) rfl ⟨rfl,rfl,rfl,List.prefix_refl _⟩ ?_ ?_
 ·rintro i env τ hi e5 c0 ⟨e0,e1,he,hp⟩
  have hj:i<m.length:=by omega
  have h1:=hv.pre hp
  have h2:=hu.pre hp
  have hne:l[i]≠m[i]→l≠m:=fun h h'=>h (by subst h';rfl)
  have hst:l[i]=m[i]→l.take (i+1)=m.take (i+1):=fun h=>by rw[Ag hi,Ag hj,he,h]
  have hms:Ck l[i]≤sumL Ck l:=G8 (List.getElem_mem hi)
  simp +contextual (disch:=omega) only[go_sem,c0,e0,e1,e5,hv.len,hu.len,A6 h1 hi,A6 h2 hj]
  refine Ac (A46 τ l[i] m[i]) ?_
  simp +contextual (disch:=omega) only[go_sem,e0,e1,e5,hp]
  refine⟨fun h=> ?_,fun h=> ?_⟩
  ·simp[hne (by simpa using h)]
  ·simpa using hst (by simpa using h)
 ·rintro env τ e5 c0 ⟨e0,e1,he,hp⟩
  rw[List.take_length,hlm,List.take_length] at he
  simp +contextual (disch:=omega) only[go_sem,c0,e0,e1,e5,hv.len,hu.len,hp]
  simp[he]
end
section
open Go Go.RowKit
abbrev W0:Nat:=240
def W1:Fn1:=⟨20,[.t 4],(rg [oX 2 0,oX 3 1,oV 4 kf] (.seq (rg [oF 5 0 2,oL 6 5,oF 7 0 3,oL 8 7,oB 9 .neq 6 8] (.cnd (.t 9) (rg [oV 4 kf] .ret) .skip)) (.seq (rg [oF 10 1 2,oL 11 10,oF 12 1 3,oL 13 12,oB 14 .neq 11 13] (.cnd (.t 14) (rg [oV 4 kf] .ret) .skip)) (.seq (rg [oF 15 2 2,oL 16 15,oF 17 2 3,oL 18 17,oB 19 .neq 16 18] (.cnd (.t 19) (rg [oV 4 kf] .ret) .skip)) (rg [oV 4 kt] .ret)))))⟩
theorem A48:A8 Tryz.prog W0=some W1:=by kernel_rfl
theorem A1d (σ:St) (x y:Tally):Ret Tryz.prog W0 [.agg [.str x.obj,.int .i64 x.rep,.int .i64 x.sum],.agg [.str y.obj,.int .i64 y.rep,.int .i64 y.sum]] σ (.bool (decide (x=y))) σ:=by
 refine Al A48 (Z0z rfl) trivial ?_
 simp +contextual (disch:=omega) only[go_sem,W1,List.append_nil]
 refine⟨fun hn=> ?_,fun hn=> ?_⟩
 ·simp only[Tally.eq_iff];simp at hn ⊢;simp[hn]
 have q0:x.obj=y.obj:=by simpa using hn
 refine⟨fun hn=> ?_,fun hn=> ?_⟩
 ·simp only[Tally.eq_iff];simp at hn ⊢;simp[hn]
 have q1:x.rep=y.rep:=by simpa using hn
 refine⟨fun hn=> ?_,fun hn=> ?_⟩
 ·simp only[Tally.eq_iff];simp at hn ⊢;simp[hn]
 have q2:x.sum=y.sum:=by simpa using hn
 simp only[Tally.eq_iff,q0,q1,q2,and_self,decide_true]
end
section
open Go Go.RowKit
abbrev Ry:Nat:=130
def Rz:Fn1:=⟨27,[.t 4],(rg [oV 4 kf] (.seq (rg [oM 6 0,oN 7 6,oM 8 1,oN 9 8,oB 10 .neq 7 9] (.cnd (.t 10) (rg [oV 4 kf] .ret) .skip)) (.seq (rg [oV 5 (ki 0)] (.blk 0 (.lop (.seq (rg [oM 11 5,oM 12 0,oN 13 12,oB 14 .lss 11 13] (.cnd (.t 14) .skip (.ext 0))) (.seq (.blk 1 (.seq (.drw [oM 17 0,oM 18 5,oI 19 3 17 18,oW 20 3 19,oM 21 1,oM 22 5,oI 23 3 21 22,oW 24 3 23] [oD 25 240 20 24,oU 26 25]) (.cnd (.t 26) (rg [oV 4 kf] .ret) .skip))) (.reg [oM 15 5,oZ 16 15 1,oM 5 16])))))) (rg [oV 4 kt] .ret))))⟩
theorem A1e:A8 Tryz.prog Ry=some Rz:=by kernel_rfl
theorem Mh (σ:St) (v u:GV) (l m:List Tally) (hv:RS Ab.kd σ v l) (hu:RS Ab.kd σ u m) (hl:(l.length+sumL Ar l)≤1099511627776):Ret Tryz.prog Ry [v,u] σ (.bool (decide (l=m))) σ:=by
 refine Al A1e (Z0z rfl) trivial ?_
 simp +contextual (disch:=omega) only[go_sem,Rz,hv.len,hu.len]
 refine⟨fun hn=> ?_,fun hn=> ?_⟩
 ·have:l≠m:=fun h=>by subst h;simp at hn
  simp[this]
 have hlm:l.length=m.length:=by
                    have h2:(l.length:Int)=m.length:=by simpa using hn
                    omega
 refine B4 l.length 5 (fun i env τ=>env 0=v∧env 1=u∧l.take i=m.take i∧σ <+: τ) rfl ⟨rfl,rfl,rfl,List.prefix_refl _⟩ ?_ ?_
 ·rintro i env τ hi e5 c0 ⟨e0,e1,he,hp⟩
  have hj:i<m.length:=by omega
  have h1:=hv.pre hp
  have h2:=hu.pre hp
  have hne:l[i]≠m[i]→l≠m:=fun h h'=>h (by subst h';rfl)
  have hst:l[i]=m[i]→l.take (i+1)=m.take (i+1):=fun h=>by rw[Ag hi,Ag hj,he,h]
  have hms:Ar l[i]≤sumL Ar l:=G8 (List.getElem_mem hi)
  simp +contextual (disch:=omega) only[go_sem,c0,e0,e1,e5,hv.len,hu.len,Aa h1 hi,Aa h2 hj]
  refine Ac (A1d τ l[i] m[i]) ?_
  simp +contextual (disch:=omega) only[go_sem,e0,e1,e5,hp]
  refine⟨fun h=> ?_,fun h=> ?_⟩
  ·simp[hne (by simpa using h)]
  ·simpa using hst (by simpa using h)
 ·rintro env τ e5 c0 ⟨e0,e1,he,hp⟩
  rw[List.take_length,hlm,List.take_length] at he
  simp +contextual (disch:=omega) only[go_sem,c0,e0,e1,e5,hv.len,hu.len,hp]
  simp[he]
end
section
open Go Go.RowKit
abbrev W3:Nat:=22
def W4:Fn1:=⟨41,[.t 4],(rg [oX 2 0,oX 3 1,oV 4 kf] (.seq (rg [oF 5 0 2,oL 6 5,oF 7 0 3,oL 8 7,oD 9 129 6 8,oU 10 9] (.cnd (.t 10) (rg [oV 4 kf] .ret) .skip)) (.seq (rg [oF 11 1 2,oL 12 11,oF 13 1 3,oL 14 13,oD 15 129 12 14,oU 16 15] (.cnd (.t 16) (rg [oV 4 kf] .ret) .skip)) (.seq (rg [oF 17 2 2,oL 18 17,oF 19 2 3,oL 20 19,oD 21 130 18 20,oU 22 21] (.cnd (.t 22) (rg [oV 4 kf] .ret) .skip)) (.seq (rg [oF 23 3 2,oL 24 23,oF 25 3 3,oL 26 25,oD 27 131 24 26,oU 28 27] (.cnd (.t 28) (rg [oV 4 kf] .ret) .skip)) (.seq (rg [oF 29 4 2,oL 30 29,oF 31 4 3,oL 32 31,oD 33 132 30 32,oU 34 33] (.cnd (.t 34) (rg [oV 4 kf] .ret) .skip)) (.seq (rg [oF 35 5 2,oL 36 35,oF 37 5 3,oL 38 37,oD 39 133 36 38,oU 40 39] (.cnd (.t 40) (rg [oV 4 kf] .ret) .skip)) (rg [oV 4 kt] .ret))))))))⟩
theorem A49:A8 Tryz.prog W3=some W4:=by kernel_rfl
theorem Jj (σ:St) (cs ds:List GV) (x y:Delta) (hx:Ch.R σ x cs) (hy:Ch.R σ y ds) (hl:Hf x≤1099511627776):Ret Tryz.prog W3 [.agg cs,.agg ds] σ (.bool (decide (x=y))) σ:=by
 obtain⟨v0,v1,v2,v3,v4,v5,rfl,q0_,q1_,q2_,q3_,q4_,q5_⟩:=hx
 obtain⟨u0,u1,u2,u3,u4,u5,rfl,p0_,p1_,p2_,p3_,p4_,p5_⟩:=hy
 unfold Hf at hl
 refine Al A49 (Z0z rfl) trivial ?_
 simp +contextual (disch:=omega) only[go_sem,W4,List.append_nil]
 refine Ac (I7 _ v0 u0 x.base y.base (q0_.pre pre2) (p0_.pre pre2) (by omega)) ?_
 simp +contextual (disch:=omega) only[go_sem,List.append_nil]
 refine⟨fun hn=> ?_,fun hn=> ?_⟩
 ·simp only[Delta.eq_iff];simp at hn ⊢;simp[hn]
 have q0:x.base=y.base:=by simpa using hn
 refine Ac (I7 _ v1 u1 x.know y.know (q1_.pre pre2) (p1_.pre pre2) (by omega)) ?_
 simp +contextual (disch:=omega) only[go_sem,List.append_nil]
 refine⟨fun hn=> ?_,fun hn=> ?_⟩
 ·simp only[Delta.eq_iff];simp at hn ⊢;simp[hn]
 have q1:x.know=y.know:=by simpa using hn
 refine Ac (Mh _ v2 u2 x.tallies y.tallies (q2_.pre pre2) (p2_.pre pre2) (by omega)) ?_
 simp +contextual (disch:=omega) only[go_sem,List.append_nil]
 refine⟨fun hn=> ?_,fun hn=> ?_⟩
 ·simp only[Delta.eq_iff];simp at hn ⊢;simp[hn]
 have q2:x.tallies=y.tallies:=by simpa using hn
 refine Ac (Oq _ v3 u3 x.lives y.lives (q3_.pre pre2) (p3_.pre pre2) (by omega)) ?_
 simp +contextual (disch:=omega) only[go_sem,List.append_nil]
 refine⟨fun hn=> ?_,fun hn=> ?_⟩
 ·simp only[Delta.eq_iff];simp at hn ⊢;simp[hn]
 have q3:x.lives=y.lives:=by simpa using hn
 refine Ac (A45 _ v4 u4 x.dead y.dead (q4_.pre pre2) (p4_.pre pre2) (by omega)) ?_
 simp +contextual (disch:=omega) only[go_sem,List.append_nil]
 refine⟨fun hn=> ?_,fun hn=> ?_⟩
 ·simp only[Delta.eq_iff];simp at hn ⊢;simp[hn]
 have q4:x.dead=y.dead:=by simpa using hn
 refine Ac (Oo _ v5 u5 x.cells y.cells (q5_.pre pre2) (p5_.pre pre2) (by omega)) ?_
 simp +contextual (disch:=omega) only[go_sem,List.append_nil]
 refine⟨fun hn=> ?_,fun hn=> ?_⟩
 ·simp only[Delta.eq_iff];simp at hn ⊢;simp[hn]
 have q5:x.cells=y.cells:=by simpa using hn
 simp only[Delta.eq_iff,q0,q1,q2,q3,q4,q5,and_self,decide_true]
end
section
open Go Go.RowKit
abbrev W5:Nat:=30
def W6:Fn1:=⟨21,[.c 2 true 4],(rg [oX 1 0,o 2 (.new [.nilS,.nilS,.nilS,.nilS])] (rg [o 3 (.new [.nilS,.nilS,.nilS,.nilS])] (rg [oF 4 0 1,oL 5 4,oC 6 147 5,oF 7 0 3,oS 1 7 6] (rg [oF 8 1 1,oL 9 8,oC 10 148 9,oF 11 1 3,oS 1 11 10] (rg [oF 12 2 1,oL 13 12,oC 14 149 13,oF 15 2 3,oS 1 15 14] (rg [oF 16 3 1,oL 17 16,oC 18 150 17,oF 19 3 3,oS 1 19 18] (rg [oW 20 4 3,oS 4 2 20] .ret)))))))⟩
theorem A4a:A8 Tryz.prog W5=some W6:=by kernel_rfl
theorem A1f (σ:St) (cs:List GV) (x:State) (hR:A9.R σ x cs) (hl:Ad x≤1099511627776):∃ r τ,Ret Tryz.prog W5 [.agg cs] σ r τ∧σ <+: τ∧∃ ds,r= .agg ds∧Hp σ τ [own A9 ds x]:=by
 have hlen:=A9.len hR
 have hlen:cs.length=4:=hlen
 obtain⟨v0,v1,v2,v3,rfl,q0,q1,q2,q3⟩:=hR
 unfold Ad at hl
 refine A4w A4a (Z0z rfl) ?_
 simp +contextual (disch:=omega) only[go_sem,W6,List.append_nil]
 have H:=(((Hp.refl σ).new 1 (v0::v1::v2::v3::[])).new 1 [GV.nilS,GV.nilS,GV.nilS,GV.nilS]).new 1 [GV.nilS,GV.nilS,GV.nilS,GV.nilS]
 obtain⟨r0,τ0,R0,K0⟩:=Rl _ v0 x.know (q0.pre H.sub) (by omega)
 refine Pq R0 K0 ?_
 have e0:=(K0.sl 0 rfl).cell
 have H:=H.add K0
 try simp only[go_sem] at H
 try simp +contextual (disch:=omega) only[go_sem,List.append_nil,A5 (H.pt 3 rfl),A5 (H.pt 1 rfl)]
 obtain⟨_,es,H,_⟩:=H.st 1 rfl 1 0 (r0) (by rw[e0];rfl) (by decide) (Z0z rfl)
 try simp only[go_sem,List.set_cons_zero,List.set_cons_succ,e0] at H
 try simp +contextual (disch:=omega) only[go_sem,List.append_nil,es,A5 (H.pt 3 rfl),A5 (H.pt 1 rfl)]
 obtain⟨r1,τ1,R1,K1⟩:=X6 _ v1 x.tallies (q1.pre H.sub) (by omega)
 refine Pq R1 K1 ?_
 have e1:=(K1.sl 0 rfl).cell
 have H:=H.add K1
 try simp only[go_sem] at H
 try simp +contextual (disch:=omega) only[go_sem,List.append_nil,A5 (H.pt 4 rfl),A5 (H.pt 2 rfl)]
 obtain⟨_,es,H,_⟩:=H.st 2 rfl 1 1 (r1) (by rw[e1];rfl) (by decide) (Z0z rfl)
 try simp only[go_sem,List.set_cons_zero,List.set_cons_succ,e1] at H
 try simp +contextual (disch:=omega) only[go_sem,List.append_nil,es,A5 (H.pt 4 rfl),A5 (H.pt 2 rfl)]
 obtain⟨r2,τ2,R2,K2⟩:=A12 _ v2 x.lives (q2.pre H.sub) (by omega)
 refine Pq R2 K2 ?_
 have e2:=(K2.sl 0 rfl).cell
 have H:=H.add K2
 try simp only[go_sem] at H
 try simp +contextual (disch:=omega) only[go_sem,List.append_nil,A5 (H.pt 5 rfl),A5 (H.pt 3 rfl)]
 obtain⟨_,es,H,_⟩:=H.st 3 rfl 1 2 (r2) (by rw[e2];rfl) (by decide) (Z0z rfl)
 try simp only[go_sem,List.set_cons_zero,List.set_cons_succ,e2] at H
 try simp +contextual (disch:=omega) only[go_sem,List.append_nil,es,A5 (H.pt 5 rfl),A5 (H.pt 3 rfl)]
 obtain⟨r3,τ3,R3,K3⟩:=A11 _ v3 x.cells (q3.pre H.sub) (by omega)
 refine Pq R3 K3 ?_
 have e3:=(K3.sl 0 rfl).cell
 have H:=H.add K3
 try simp only[go_sem] at H
 try simp +contextual (disch:=omega) only[go_sem,List.append_nil,A5 (H.pt 6 rfl),A5 (H.pt 4 rfl)]
 obtain⟨_,es,H,_⟩:=H.st 4 rfl 1 3 (r3) (by rw[e3];rfl) (by decide) (Z0z rfl)
 try simp only[go_sem,List.set_cons_zero,List.set_cons_succ,e3] at H
 try simp +contextual (disch:=omega) only[go_sem,List.append_nil,es,A5 (H.pt 6 rfl),A5 (H.pt 4 rfl)]
 obtain⟨_,es,H,_⟩:=H.st 5 rfl 4 0 (.agg (r0::r1::r2::r3::[])) (rfl) (by decide) (Z0z rfl)
 try simp only[go_sem,List.set_cons_zero,List.set_cons_succ] at H
 try simp +contextual (disch:=omega) only[go_sem,List.append_nil,es,A5 (H.pt 5 rfl)]
 have h0:=H.sub
 have H:=(((H.pick 1 rfl).pick 2 rfl).pick 3 rfl)
 try simp only[List.eraseIdx_cons_succ,List.eraseIdx_cons_zero] at H
 exact⟨_,rfl,h0,_,rfl,H.ownState.one⟩
end
section
open Go Go.RowKit
abbrev La:Nat:=235
def S0:Fn1:=⟨17,[.c 2 true 7],(rg [oX 1 0,o 2 (.new [z0,z0,.nilS,.nilS,.nilS,.nilS,.nilS])] (rg [o 3 (.new [z0,z0,.nilS,.nilS,.nilS,.nilS,.nilS])] (rg [oF 4 0 1,oW 5 2 4,oC 6 151 5,oF 7 0 3,oS 2 7 6] (rg [oF 8 2 1,oL 9 8,oC 10 147 9,oF 11 2 3,oS 1 11 10] (rg [oF 12 3 1,oW 13 4 12,oC 14 30 13,oF 15 3 3,oS 4 15 14] (rg [oW 16 7 3,oS 7 2 16] .ret))))))⟩
theorem A1g:A8 Tryz.prog La=some S0:=by kernel_rfl
theorem Xf (σ:St) (cs:List GV) (x:Commit) (hR:Am.R σ x cs) (hl:Aq x≤1099511627776):∃ r τ,Ret Tryz.prog La [.agg cs] σ r τ∧σ <+: τ∧∃ ds,r= .agg ds∧Hp σ τ [own Am ds x]:=by
 obtain⟨v1,v2,rfl,hA,hD⟩:=hR
 have hD0:=hD
 obtain⟨d0,d1,d2,d3,rfl,_⟩:=hD
 have hma:x.ups.length≤1099511627776∧Ad x.state≤1099511627776:=by unfold Aq at hl;omega
 have key:∃ r τ,Ret Tryz.prog La [.agg [.int .i64 x.id.rep,.int .i64 x.id.seq,v1,d0,d1,d2,d3]] σ r τ∧∃ ds,r= .agg ds∧Hp σ τ [own Am ds x]:=by
  refine Lv A1g (Z0z rfl) (Hx.refl σ) ?_
  simp +contextual (disch:=omega) only[go_sem,S0]
  intro n1 f1 τ1 H1 n2 f2 τ2 H2 n3 f3 τ3 H3
  refine by_r H3 (Je τ3 x.id) ?_
  simp +contextual (disch:=omega) only[go_sem]
  intro τ4 H4
  obtain⟨u',τ5,R5,K5⟩:=Rl τ4 v1 x.ups (hA.pre H4.sub) (by omega)
  refine by_c H4 R5 K5 fun H5=> ?_
  have c5:=(K5.sl 0 rfl).cell
  simp +contextual (disch:=omega) only[go_sem,c5]
  intro τ6 H6
  obtain⟨_,τ7,R7,_,fs,rfl,K7⟩:=A1f τ6 _ x.state (A9.pre hD0 H6.sub) hma.2
  refine by_c H6 R7 K7 fun H7=> ?_
  obtain⟨e0,e1,e2,e3,rfl,_⟩:=K7.rd 0 rfl
  simp +contextual (disch:=omega) only[go_sem]
  intro τ8 _ τ9 H9
  exact⟨_,rfl,_,rfl,Hp.ownCommit (x:=x) (H9.sel [1,0] (by decide))⟩
 obtain⟨r,τ,R,ds,rfl,h⟩:=key
 exact⟨_,τ,R,h.sub,ds,rfl,h⟩
end
section
open Go Go.RowKit
abbrev Or:Nat:=124
def Ot:Fn1:=⟨23,[.t 2],(rg [o 2 (.mov (.k .nilS))] (rg [oM 5 0,oN 6 5,o 7 (.mks 7 136 [z0,z0,.nilS,.nilS,.nilS,.nilS,.nilS] (.t 6) (.t 6)),oM 3 7] (.seq (rg [oV 4 (ki 0)] (.blk 0 (.lop (.seq (rg [oM 8 4,oM 9 0,oN 10 9,oB 11 .lss 8 10] (.cnd (.t 11) .skip (.ext 0))) (.seq (.blk 1 (.reg [oM 14 3,oM 15 4,oM 16 0,oM 17 4,oI 18 7 16 17,oW 19 7 18,oC 20 235 19,oI 21 7 14 15,oS 7 21 20])) (.reg [oM 12 4,oZ 13 12 1,oM 4 13])))))) (rg [oM 22 3,oM 2 22] .ret))))⟩
theorem Xg:A8 Tryz.prog Or=some Ot:=by kernel_rfl
def Abm:Commit:=⟨⟨0,0⟩,[],⟨[],[],[],[]⟩⟩
abbrev zeS:List GV:=[.nilS,.nilS,.nilS,.nilS]
theorem A8q (τ:St):A9.O τ ⟨[],[],[],[]⟩ zeS []:=⟨.nilS,.nilS,.nilS,.nilS,[],[],[],[],rfl,.inl ⟨rfl,rfl,rfl⟩,.inl ⟨rfl,rfl,rfl⟩,.inl ⟨rfl,rfl,rfl⟩,.inl ⟨rfl,rfl,rfl⟩,rfl⟩
theorem A64 (τ:St):Am.O τ Abm (gi 0::gi 0::.nilS::zeS++[]) []:=⟨.nilS,zeS,[],[],rfl,.inl ⟨rfl,rfl,rfl⟩,A8q τ,rfl⟩
theorem Ls {σ:St} {v:GV} {l:List Commit} (h:RS Am σ v l) {i:Nat} (hi:i<l.length):∃ cs,(iadG 7 v (some i)=some (atz 7 v i)∧ldG true 7 σ (atz 7 v i)=some (.agg cs))∧Am.R σ l[i] cs:=by
 obtain⟨cs,⟨h1,_,_,h4,_⟩,h5⟩:=RdN.cellsN h hi
 exact⟨cs,⟨h1,h4⟩,h5⟩
theorem Abn {α:Type} {l:List α} {x0:α} {i:Nat} (hi:i<l.length):(l.take i++List.replicate (l.length - i) x0).set i l[i]=l.take (i+1)++List.replicate (l.length - (i+1)) x0:=by
 have e:List.replicate (l.length - i) x0=x0::List.replicate (l.length - (i+1)) x0:=by
  rw[show l.length - i=(l.length - (i+1))+1 by omega,List.replicate_succ]
 rw[e,Ag hi,List.append_assoc,List.set_append_right _ _ (by rw[List.length_take];omega)]
 congr 1
 rw[List.length_take,Nat.min_eq_left (by omega),Nat.sub_self]
 rfl
theorem W7 (σ:St) (v:GV) (l:List Commit) (hR:RS Am σ v l) (hl:l.length+sumL Aq l≤1073741824):∃ r τ,Ret Tryz.prog Or [v] σ r τ∧Hp σ τ [ow Am r l]:=by
 refine Lv Xg (Z0z rfl) (Hx.refl σ) ?_
 simp +contextual (disch:=omega) only[go_sem,Ot,hR.len,A4]
 refine⟨by omega,?_⟩
 intro n f τ H
 have H1:=H.mk Am rfl A64
 refine Bs l.length 4 0 (fun i env h=>env 0=v∧env 3= .sl n 0 l.length∧h=[.th (ow Am (.sl n 0 l.length) (l.take i++List.replicate (l.length - i) Abm))]) (fun env h=>env 3= .sl n 0 l.length∧h=[.th (ow Am (.sl n 0 l.length) l)]) (fun env h=>False) _ H1 (by simp +contextual (disch:=omega) only[go_sem]) ⟨by simp +contextual (disch:=omega) only[go_sem],by simp +contextual (disch:=omega) only[go_sem],by simp⟩ ?_ ?_ ?_ (fun _ _ _ _ h=>h.elim)
 ·clear H H1
  rintro J Y W hJ hY hW i env h' τ hi ei c0 H ⟨e0,e3,rfl⟩
  obtain⟨cs,U1,hU⟩:=Ls hR hi
  have hmu:Aq l[i]≤sumL Aq l:=G8 (f:=Aq) (List.getElem_mem hi)
  have i3:iadG 7 (.sl n 0 l.length) (some i)=some (atz 7 (.sl n 0 l.length) i):=by simp[iadG,hi,atz]
  simp +contextual (disch:=omega) only[go_sem,c0,e0,e3,ei,A4,hR.len,U1]
  obtain⟨_,τ2,R2,_,ds,rfl,K2⟩:=Xf τ cs l[i] (Am.pre hU H.sub) (by omega)
  refine by_c H R2 K2 fun H2=> ?_
  simp +contextual (disch:=omega) only[go_sem,i3,A4]
  refine Aif (d:=Am) H2 0 0 rfl rfl (by decide) (by rw[List.length_append,List.length_take,List.length_replicate];omega) fun τ3 H3=> ?_
  simp +contextual (disch:=omega) only[go_sem,ei]
  exact hJ _ _ _ _ H3 ⟨by simp +contextual (disch:=omega) only[go_sem,e0],by simp +contextual (disch:=omega) only[go_sem,e3],by rw[Abn hi];rfl⟩
 ·clear H H1
  rintro Y hY env h' τ ei c0 H ⟨e0,e3,rfl⟩
  simp +contextual (disch:=omega) only[go_sem,c0,e0,ei,hR.len]
  exact hY _ _ _ H ⟨e3,by simp⟩
 ·clear H H1
  rintro env h' τ H ⟨e3,rfl⟩
  simp +contextual (disch:=omega) only[go_sem,e3]
  exact fun _=>⟨_,rfl,H.hp⟩
end
section
open Go Go.RowKit
abbrev W8:Nat:=34
def W9:Fn1:=⟨29,[.t 4],(rg [oX 2 0,oX 3 1,oV 4 kf] (.seq (rg [oF 5 0 2,oL 6 5,oF 7 0 3,oL 8 7,oD 9 129 6 8,oU 10 9] (.cnd (.t 10) (rg [oV 4 kf] .ret) .skip)) (.seq (rg [oF 11 1 2,oL 12 11,oF 13 1 3,oL 14 13,oD 15 130 12 14,oU 16 15] (.cnd (.t 16) (rg [oV 4 kf] .ret) .skip)) (.seq (rg [oF 17 2 2,oL 18 17,oF 19 2 3,oL 20 19,oD 21 131 18 20,oU 22 21] (.cnd (.t 22) (rg [oV 4 kf] .ret) .skip)) (.seq (rg [oF 23 3 2,oL 24 23,oF 25 3 3,oL 26 25,oD 27 133 24 26,oU 28 27] (.cnd (.t 28) (rg [oV 4 kf] .ret) .skip)) (rg [oV 4 kt] .ret))))))⟩
theorem A4b:A8 Tryz.prog W8=some W9:=by kernel_rfl
theorem A1h (σ:St) (cs ds:List GV) (x y:State) (hx:A9.R σ x cs) (hy:A9.R σ y ds) (hl:Ad x≤1099511627776):Ret Tryz.prog W8 [.agg cs,.agg ds] σ (.bool (decide (x=y))) σ:=by
 obtain⟨v0,v1,v2,v3,rfl,q0_,q1_,q2_,q3_⟩:=hx
 obtain⟨u0,u1,u2,u3,rfl,p0_,p1_,p2_,p3_⟩:=hy
 unfold Ad at hl
 refine Al A4b (Z0z rfl) trivial ?_
 simp +contextual (disch:=omega) only[go_sem,W9,List.append_nil]
 refine Ac (I7 _ v0 u0 x.know y.know (q0_.pre pre2) (p0_.pre pre2) (by omega)) ?_
 simp +contextual (disch:=omega) only[go_sem,List.append_nil]
 refine⟨fun hn=> ?_,fun hn=> ?_⟩
 ·simp only[State.eq_iff];simp at hn ⊢;simp[hn]
 have q0:x.know=y.know:=by simpa using hn
 refine Ac (Mh _ v1 u1 x.tallies y.tallies (q1_.pre pre2) (p1_.pre pre2) (by omega)) ?_
 simp +contextual (disch:=omega) only[go_sem,List.append_nil]
 refine⟨fun hn=> ?_,fun hn=> ?_⟩
 ·simp only[State.eq_iff];simp at hn ⊢;simp[hn]
 have q1:x.tallies=y.tallies:=by simpa using hn
 refine Ac (Oq _ v2 u2 x.lives y.lives (q2_.pre pre2) (p2_.pre pre2) (by omega)) ?_
 simp +contextual (disch:=omega) only[go_sem,List.append_nil]
 refine⟨fun hn=> ?_,fun hn=> ?_⟩
 ·simp only[State.eq_iff];simp at hn ⊢;simp[hn]
 have q2:x.lives=y.lives:=by simpa using hn
 refine Ac (Oo _ v3 u3 x.cells y.cells (q3_.pre pre2) (p3_.pre pre2) (by omega)) ?_
 simp +contextual (disch:=omega) only[go_sem,List.append_nil]
 refine⟨fun hn=> ?_,fun hn=> ?_⟩
 ·simp only[State.eq_iff];simp at hn ⊢;simp[hn]
 have q3:x.cells=y.cells:=by simpa using hn
 simp only[State.eq_iff,q0,q1,q2,q3,and_self,decide_true]
end
section
open Go Go.RowKit
abbrev Lb:Nat:=243
def S1:Fn1:=⟨23,[.t 4],(rg [oX 2 0,oX 3 1,oV 4 kf] (.seq (rg [oF 5 0 2,oW 6 2 5,oF 7 0 3,oW 8 2 7,oD 9 160 6 8,oU 10 9] (.cnd (.t 10) (rg [oV 4 kf] .ret) .skip)) (.seq (rg [oF 11 2 2,oL 12 11,oF 13 2 3,oL 14 13,oD 15 129 12 14,oU 16 15] (.cnd (.t 16) (rg [oV 4 kf] .ret) .skip)) (.seq (rg [oF 17 3 2,oW 18 4 17,oF 19 3 3,oW 20 4 19,oD 21 34 18 20,oU 22 21] (.cnd (.t 22) (rg [oV 4 kf] .ret) .skip)) (rg [oV 4 kt] .ret)))))⟩
theorem A1i:A8 Tryz.prog Lb=some S1:=by kernel_rfl
theorem Xh (σ:St) (cs ds:List GV) (x y:Commit) (hx:Am.R σ x cs) (hy:Am.R σ y ds) (hl:Aq x≤1099511627776):Ret Tryz.prog Lb [.agg cs,.agg ds] σ (.bool (decide (x=y))) σ:=by
 obtain⟨v1,v2,rfl,q1_,q2_⟩:=hx
 obtain⟨u1,u2,rfl,p1_,p2_⟩:=hy
 unfold Aq at hl
 have a2:=q2_
 have b2:=p2_
 obtain⟨d0,d1,d2,d3,rfl,_⟩:=q2_
 obtain⟨e0,e1,e2,e3,rfl,_⟩:=p2_
 suffices key:Ret Tryz.prog Lb [.agg [.int .i64 x.id.rep,.int .i64 x.id.seq,v1,d0,d1,d2,d3],.agg [.int .i64 y.id.rep,.int .i64 y.id.seq,u1,e0,e1,e2,e3]] σ (.bool (decide (x=y))) σ from key
 refine Al A1i (Z0z rfl) trivial ?_
 simp +contextual (disch:=omega) only[go_sem,S1,List.append_nil]
 refine Ac (Ho _ x.id y.id) ?_
 simp +contextual (disch:=omega) only[go_sem,List.append_nil]
 refine⟨fun hn=> ?_,fun hn=> ?_⟩
 ·simp only[Commit.eq_iff];simp at hn ⊢;simp[hn]
 have q0:x.id=y.id:=by simpa using hn
 refine Ac (I7 _ v1 u1 x.ups y.ups (q1_.pre pre2) (p1_.pre pre2) (by omega)) ?_
 simp +contextual (disch:=omega) only[go_sem,List.append_nil]
 refine⟨fun hn=> ?_,fun hn=> ?_⟩
 ·simp only[Commit.eq_iff];simp at hn ⊢;simp[hn]
 have q1:x.ups=y.ups:=by simpa using hn
 refine Ac (A1h _ _ _ x.state y.state (A9.pre a2 pre2) (A9.pre b2 pre2) (by omega)) ?_
 simp +contextual (disch:=omega) only[go_sem,List.append_nil]
 refine⟨fun hn=> ?_,fun hn=> ?_⟩
 ·simp only[Commit.eq_iff];simp at hn ⊢;simp[hn]
 have q2:x.state=y.state:=by simpa using hn
 simp only[Commit.eq_iff,q0,q1,q2,and_self,decide_true]
end
section
open Go Go.RowKit
abbrev Ou:Nat:=134
def Ov:Fn1:=⟨27,[.t 4],(rg [oV 4 kf] (.seq (rg [oM 6 0,oN 7 6,oM 8 1,oN 9 8,oB 10 .neq 7 9] (.cnd (.t 10) (rg [oV 4 kf] .ret) .skip)) (.seq (rg [oV 5 (ki 0)] (.blk 0 (.lop (.seq (rg [oM 11 5,oM 12 0,oN 13 12,oB 14 .lss 11 13] (.cnd (.t 14) .skip (.ext 0))) (.seq (.blk 1 (.seq (.drw [oM 17 0,oM 18 5,oI 19 7 17 18,oW 20 7 19,oM 21 1,oM 22 5,oI 23 7 21 22,oW 24 7 23] [oD 25 243 20 24,oU 26 25]) (.cnd (.t 26) (rg [oV 4 kf] .ret) .skip))) (.reg [oM 15 5,oZ 16 15 1,oM 5 16])))))) (rg [oV 4 kt] .ret))))⟩
theorem Xi:A8 Tryz.prog Ou=some Ov:=by kernel_rfl
theorem Wa (σ:St) (v u:GV) (l m:List Commit) (hv:RS Am σ v l) (hu:RS Am σ u m) (hl:(l.length+sumL Aq l)≤1099511627776):Ret Tryz.prog Ou [v,u] σ (.bool (decide (l=m))) σ:=by
 refine Al Xi (Z0z rfl) trivial ?_
 simp +contextual (disch:=omega) only[go_sem,Ov,hv.len,hu.len]
 refine⟨fun hn=> ?_,fun hn=> ?_⟩
 ·have:l≠m:=fun h=>by subst h;simp at hn
  simp[this]
 have hlm:l.length=m.length:=by
                    have h2:(l.length:Int)=m.length:=by simpa using hn
                    omega
 refine B4 l.length 5 (fun i env τ=>env 0=v∧env 1=u∧l.take i=m.take i∧σ <+: τ) rfl ⟨rfl,rfl,rfl,List.prefix_refl _⟩ ?_ ?_
 ·rintro i env τ hi e5 c0 ⟨e0,e1,he,hp⟩
  have hj:i<m.length:=by omega
  have h1:=hv.pre hp
  have h2:=hu.pre hp
  have hne:l[i]≠m[i]→l≠m:=fun h h'=>h (by subst h';rfl)
  have hst:l[i]=m[i]→l.take (i+1)=m.take (i+1):=fun h=>by rw[Ag hi,Ag hj,he,h]
  have hms:Aq l[i]≤sumL Aq l:=G8 (List.getElem_mem hi)
  obtain⟨c,hc,hcr⟩:=Ls h1 hi
  obtain⟨d,hd,hdr⟩:=Ls h2 hj
  simp +contextual (disch:=omega) only[go_sem,c0,e0,e1,e5,hv.len,hu.len,hc,hd]
  refine Ac (Xh τ c d l[i] m[i] hcr hdr (by omega)) ?_
  simp +contextual (disch:=omega) only[go_sem,e0,e1,e5,hp]
  refine⟨fun h=> ?_,fun h=> ?_⟩
  ·simp[hne (by simpa using h)]
  ·simpa using hst (by simpa using h)
 ·rintro env τ e5 c0 ⟨e0,e1,he,hp⟩
  rw[List.take_length,hlm,List.take_length] at he
  simp +contextual (disch:=omega) only[go_sem,c0,e0,e1,e5,hv.len,hu.len,hp]
  simp[he]
end
section
open Go Go.RowKit
abbrev Wb:Nat:=23
def Wc:Fn1:=⟨16,[.t 4],(rg [oX 2 0,oX 3 1,oV 4 kf] (.seq (rg [oF 5 0 2,oL 6 5,oF 7 0 3,oL 8 7,oD 9 134 6 8,oU 10 9] (.cnd (.t 10) (rg [oV 4 kf] .ret) .skip)) (.seq (rg [oF 11 1 2,oL 12 11,oF 13 1 3,oL 14 13,oB 15 .neq 12 14] (.cnd (.t 15) (rg [oV 4 kf] .ret) .skip)) (rg [oV 4 kt] .ret))))⟩
theorem A4c:A8 Tryz.prog Wb=some Wc:=by kernel_rfl
theorem A1j (σ:St) (cs ds:List GV) (x y:Graph) (hx:Ay.R σ x cs) (hy:Ay.R σ y ds) (hl:Ci x≤1099511627776):Ret Tryz.prog Wb [.agg cs,.agg ds] σ (.bool (decide (x=y))) σ:=by
 obtain⟨v0,rfl,q0_⟩:=hx
 obtain⟨u0,rfl,p0_⟩:=hy
 unfold Ci at hl
 refine Al A4c (Z0z rfl) trivial ?_
 simp +contextual (disch:=omega) only[go_sem,Wc,List.append_nil]
 refine Ac (Wa _ v0 u0 x.commits y.commits (q0_.pre pre2) (p0_.pre pre2) (by omega)) ?_
 simp +contextual (disch:=omega) only[go_sem,List.append_nil]
 refine⟨fun hn=> ?_,fun hn=> ?_⟩
 ·simp only[Graph.eq_iff];simp at hn ⊢;simp[hn]
 have q0:x.commits=y.commits:=by simpa using hn
 refine⟨fun hn=> ?_,fun hn=> ?_⟩
 ·simp only[Graph.eq_iff];simp at hn ⊢;simp[hn]
 have q1:x.head=y.head:=by simpa using hn
 simp only[Graph.eq_iff,q0,q1,and_self,decide_true]
end
section
open Go Go.RowKit
abbrev Ow:Nat:=119
def Ox:Fn1:=⟨92,[.t 4],(rg [oV 4 (ki 0)] (.seq (rg [oV 5 (ki 0)] (.blk 0 (.lop (.seq (rg [oM 6 5,oM 7 0,oN 8 7,oB 9 .lss 6 8] (.cnd (.t 9) .skip (.ext 0))) (.seq (.blk 1 (.seq (.seq (.drw [oM 12 0,oM 13 5,oI 14 8 12 13,oF 15 0 14,oL 16 15,oM 17 1,oC 18 110 17] [oB 19 .neq 16 18]) (.cnd (.t 19) (rg [o 4 (.mov (ki (-1)))] .ret) .skip)) (rg [oM 20 1,oZ 21 20 1,oM 1 21] (.seq (rg [oM 22 0,oM 23 5,oI 24 8 22 23,oF 25 1 24,oF 26 0 25,oL 27 26,oM 28 1,oB 29 .neq 27 28] (.cnd (.t 29) (rg [o 4 (.mov (ki (-1)))] .ret) .skip)) (rg [oM 30 1,oZ 31 30 1,oM 1 31] (.seq (rg [oM 32 0,oM 33 5,oI 34 8 32 33,oF 35 1 34,oF 36 1 35,oL 37 36,oM 38 1,oB 39 .neq 37 38] (.cnd (.t 39) (rg [o 4 (.mov (ki (-1)))] .ret) .skip)) (rg [oM 40 1,oZ 41 40 1,oM 1 41] (.seq (rg [oM 42 0,oM 43 5,oI 44 8 42 43,oF 45 3 44,oL 46 45,oM 47 1,oB 48 .neq 46 47] (.cnd (.t 48) (rg [o 4 (.mov (ki (-1)))] .ret) .skip)) (rg [oM 49 1,oZ 50 49 1,oM 1 50] (.seq (rg [oM 51 0,oM 52 5,oI 53 8 51 52,oF 54 4 53,oF 55 0 54,oL 56 55,oM 57 1,oB 58 .neq 56 57] (.cnd (.t 58) (rg [o 4 (.mov (ki (-1)))] .ret) .skip)) (rg [oM 59 1,oZ 60 59 1,oM 1 60] (.seq (rg [oM 61 0,oM 62 5,oI 63 8 61 62,oF 64 4 63,oF 65 1 64,oL 66 65,oM 67 1,oB 68 .neq 66 67] (.cnd (.t 68) (rg [o 4 (.mov (ki (-1)))] .ret) .skip)) (rg [oM 69 1,oZ 70 69 1,oM 1 70] (.seq (rg [oM 71 0,oM 72 5,oI 73 8 71 72,oF 74 6 73,oL 75 74,oM 76 1,oB 77 .neq 75 76] (.cnd (.t 77) (rg [o 4 (.mov (ki (-1)))] .ret) .skip)) (rg [oM 78 1,oZ 79 78 1,oM 1 79] (.seq (rg [oM 80 0,oM 81 5,oI 82 8 80 81,oF 83 7 82,oL 84 83,oM 85 1,o 86 (.bin .rem (.t 85) (ki 3)),o 87 (.bin .eql (.t 86) (ki 0)),o 88 (.eqb true (.t 84) (.t 87))] (.cnd (.t 88) (rg [o 4 (.mov (ki (-1)))] .ret) .skip)) (.reg [oM 89 1,oZ 90 89 1,oM 1 90]))))))))))))))))) (.reg [oM 10 5,oZ 11 10 1,oM 5 11])))))) (rg [oM 91 1,oM 4 91] .ret)))⟩
theorem Xj:A8 Tryz.prog Ow=some Ox:=by kernel_rfl
theorem Wd (σ:St) (v:GV) (n:Nat) (k:Int) (hR:RS Ae.kd σ v (mkF Ss 8 k n)) (h0:0≤k) (hk:k+8*n≤4611686018427387904):Ret Tryz.prog Ow [v,gi k] σ (gi (k+8*n)) σ:=by
 refine Al Xj (Z0z rfl) trivial ?_
 have hln:=hR.len
 rw[Az] at hln
 simp +contextual (maxSteps:=600000) (disch:=omega) only[go_sem,Ox]
 refine B4 n 5 (fun i env τ=>env 0=v∧env 1=gi (k+8*(i:Int))∧σ <+: τ) rfl ⟨rfl,(by show gi k=gi (k+8*0);simp),List.prefix_refl _⟩ ?_ ?_
 ·rintro i env τ hi e5 c0 ⟨e0,e1,hp⟩
  have hj:i<(mkF Ss 8 k n).length:=by rw[Az];exact hi
  have hat:=A7 (hR.pre hp) hj
  simp only[Pr,Ss] at hat
  simp +contextual (maxSteps:=600000) (disch:=omega) only[go_sem,c0,e0,e1,e5,hln,hat,hp,bne_self_eq_false,beq_self_eq_true]
  refine Ac (Ce _ _ (by omega)) ?_
  simp +contextual (maxSteps:=600000) (disch:=omega) only[go_sem,c0,e0,e1,e5,hln,hat,hp,bne_self_eq_false,beq_self_eq_true]
  omega
 ·rintro env τ e5 c0 ⟨e0,e1,hp⟩
  simp +contextual (maxSteps:=600000) (disch:=omega) only[go_sem,c0,e0,e1,e5,hln,hp]
end
section
open Go Go.RowKit
abbrev S2:Nat:=118
def S3:Fn1:=⟨31,[.t 4],(rg [oV 4 (ki 0)] (.seq (rg [oV 5 (ki 0)] (.blk 0 (.lop (.seq (rg [oM 6 5,oM 7 0,oN 8 7,oB 9 .lss 6 8] (.cnd (.t 9) .skip (.ext 0))) (.seq (.blk 1 (.seq (rg [oM 12 0,oM 13 5,oI 14 2 12 13,oF 15 0 14,oL 16 15,oM 17 1,oB 18 .neq 16 17] (.cnd (.t 18) (rg [o 4 (.mov (ki (-1)))] .ret) .skip)) (rg [oM 19 1,oZ 20 19 1,oM 1 20] (.seq (rg [oM 21 0,oM 22 5,oI 23 2 21 22,oF 24 1 23,oL 25 24,oM 26 1,oB 27 .neq 25 26] (.cnd (.t 27) (rg [o 4 (.mov (ki (-1)))] .ret) .skip)) (.reg [oM 28 1,oZ 29 28 1,oM 1 29]))))) (.reg [oM 10 5,oZ 11 10 1,oM 5 11])))))) (rg [oM 30 1,oM 4 30] .ret)))⟩
theorem A1k:A8 Tryz.prog S2=some S3:=by kernel_rfl
theorem Xk (σ:St) (v:GV) (n:Nat) (k:Int) (hR:RS pDot.kd σ v (mkF mDot 2 k n)) (h0:0≤k) (hk:k+2*n≤4611686018427387904):Ret Tryz.prog S2 [v,gi k] σ (gi (k+2*n)) σ:=by
 refine Al A1k (Z0z rfl) trivial ?_
 have hln:=hR.len
 rw[Az] at hln
 simp +contextual (disch:=omega) only[go_sem,S3]
 refine B4 n 5 (fun i env τ=>env 0=v∧env 1=gi (k+2*(i:Int))∧σ <+: τ) rfl ⟨rfl,(by show gi k=gi (k+2*0);simp),List.prefix_refl _⟩ ?_ ?_
 ·rintro i env τ hi e5 c0 ⟨e0,e1,hp⟩
  have hj:i<(mkF mDot 2 k n).length:=by rw[Az];exact hi
  have hat:=A6k (hR.pre hp) hj
  simp only[Pr,mDot] at hat
  simp +contextual (disch:=omega) only[go_sem,c0,e0,e1,e5,hln,hat,hp,bne_self_eq_false,beq_self_eq_true]
  omega
 ·rintro env τ e5 c0 ⟨e0,e1,hp⟩
  simp +contextual (disch:=omega) only[go_sem,c0,e0,e1,e5,hln,hp]
end
section
open Go Go.RowKit
abbrev S4:Nat:=115
def S5:Fn1:=⟨21,[.t 4],(rg [oV 4 (ki 0)] (.seq (rg [oV 5 (ki 0)] (.blk 0 (.lop (.seq (rg [oM 6 5,oM 7 0,oN 8 7,oB 9 .lss 6 8] (.cnd (.t 9) .skip (.ext 0))) (.seq (.blk 1 (.seq (rg [oM 12 0,oM 13 5,oI 14 1 12 13,oL 15 14,oM 16 1,oB 17 .neq 15 16] (.cnd (.t 17) (rg [o 4 (.mov (ki (-1)))] .ret) .skip)) (.reg [oM 18 1,oZ 19 18 1,oM 1 19]))) (.reg [oM 10 5,oZ 11 10 1,oM 5 11])))))) (rg [oM 20 1,oM 4 20] .ret)))⟩
theorem A1l:A8 Tryz.prog S4=some S5:=by kernel_rfl
theorem Mi (σ:St) (v:GV) (n:Nat) (k:Int) (hR:RS pI.kd σ v (mkF mInt 1 k n)) (h0:0≤k) (hk:k+1*n≤4611686018427387904):Ret Tryz.prog S4 [v,gi k] σ (gi (k+1*n)) σ:=by
 refine Al A1l (Z0z rfl) trivial ?_
 have hln:=hR.len
 rw[Az] at hln
 simp +contextual (disch:=omega) only[go_sem,S5]
 refine B4 n 5 (fun i env τ=>env 0=v∧env 1=gi (k+1*(i:Int))∧σ <+: τ) rfl ⟨rfl,(by show gi k=gi (k+1*0);simp),List.prefix_refl _⟩ ?_ ?_
 ·rintro i env τ hi e5 c0 ⟨e0,e1,hp⟩
  have hj:i<(mkF mInt 1 k n).length:=by rw[Az];exact hi
  have hat:=Db (hR.pre hp) hj
  simp only[Pr,mInt] at hat
  simp +contextual (disch:=omega) only[go_sem,c0,e0,e1,e5,hln,hat,hp,bne_self_eq_false,beq_self_eq_true]
  omega
 ·rintro env τ e5 c0 ⟨e0,e1,hp⟩
  simp +contextual (disch:=omega) only[go_sem,c0,e0,e1,e5,hln,hp]
end
section
open Go Go.RowKit
abbrev Oy:Nat:=117
def Oz:Fn1:=⟨73,[.t 4],(rg [oV 4 (ki 0)] (.seq (rg [oV 5 (ki 0)] (.blk 0 (.lop (.seq (rg [oM 6 5,oM 7 0,oN 8 7,oB 9 .lss 6 8] (.cnd (.t 9) .skip (.ext 0))) (.seq (.blk 1 (.seq (rg [oM 12 0,oM 13 5,oI 14 6 12 13,oF 15 0 14,oL 16 15,oM 17 1,o 18 (.bin .rem (.t 17) (ki 3)),o 19 (.bin .eql (.t 18) (ki 0)),o 20 (.eqb true (.t 16) (.t 19))] (.cnd (.t 20) (rg [o 4 (.mov (ki (-1)))] .ret) .skip)) (rg [oM 21 1,oZ 22 21 1,oM 1 22] (.seq (.seq (.drw [oM 23 0,oM 24 5,oI 25 6 23 24,oF 26 1 25,oL 27 26,oM 28 1,oC 29 110 28] [oB 30 .neq 27 29]) (.cnd (.t 30) (rg [o 4 (.mov (ki (-1)))] .ret) .skip)) (rg [oM 31 1,oZ 32 31 1,oM 1 32] (.seq (.seq (.drw [oM 33 0,oM 34 5,oI 35 6 33 34,oF 36 2 35,oL 37 36,oM 38 1,oC 39 110 38] [oB 40 .neq 37 39]) (.cnd (.t 40) (rg [o 4 (.mov (ki (-1)))] .ret) .skip)) (rg [oM 41 1,oZ 42 41 1,oM 1 42] (.seq (rg [oM 43 0,oM 44 5,oI 45 6 43 44,oF 46 3 45,oL 47 46,oM 48 1,oB 49 .neq 47 48] (.cnd (.t 49) (rg [o 4 (.mov (ki (-1)))] .ret) .skip)) (rg [oM 50 1,oZ 51 50 1,oM 1 51] (.seq (rg [oM 52 0,oM 53 5,oI 54 6 52 53,oF 55 4 54,oF 56 0 55,oL 57 56,oM 58 1,oB 59 .neq 57 58] (.cnd (.t 59) (rg [o 4 (.mov (ki (-1)))] .ret) .skip)) (rg [oM 60 1,oZ 61 60 1,oM 1 61] (.seq (rg [oM 62 0,oM 63 5,oI 64 6 62 63,oF 65 4 64,oF 66 1 65,oL 67 66,oM 68 1,oB 69 .neq 67 68] (.cnd (.t 69) (rg [o 4 (.mov (ki (-1)))] .ret) .skip)) (.reg [oM 70 1,oZ 71 70 1,oM 1 71]))))))))))))) (.reg [oM 10 5,oZ 11 10 1,oM 5 11])))))) (rg [oM 72 1,oM 4 72] .ret)))⟩
theorem Xl:A8 Tryz.prog Oy=some Oz:=by kernel_rfl
theorem We (σ:St) (v:GV) (n:Nat) (k:Int) (hR:RS Ai.kd σ v (mkF Qc 6 k n)) (h0:0≤k) (hk:k+6*n≤4611686018427387904):Ret Tryz.prog Oy [v,gi k] σ (gi (k+6*n)) σ:=by
 refine Al Xl (Z0z rfl) trivial ?_
 have hln:=hR.len
 rw[Az] at hln
 simp +contextual (disch:=omega) only[go_sem,Oz]
 refine B4 n 5 (fun i env τ=>env 0=v∧env 1=gi (k+6*(i:Int))∧σ <+: τ) rfl ⟨rfl,(by show gi k=gi (k+6*0);simp),List.prefix_refl _⟩ ?_ ?_
 ·rintro i env τ hi e5 c0 ⟨e0,e1,hp⟩
  have hj:i<(mkF Qc 6 k n).length:=by rw[Az];exact hi
  have hat:=A6 (hR.pre hp) hj
  simp only[Pr,Qc] at hat
  simp +contextual (disch:=omega) only[go_sem,c0,e0,e1,e5,hln,hat,hp,bne_self_eq_false,beq_self_eq_true]
  refine Ac (Ce _ _ (by omega)) ?_
  simp +contextual (disch:=omega) only[go_sem,c0,e0,e1,e5,hln,hat,hp,bne_self_eq_false,beq_self_eq_true]
  refine Ac (Ce _ _ (by omega)) ?_
  simp +contextual (disch:=omega) only[go_sem,c0,e0,e1,e5,hln,hat,hp,bne_self_eq_false,beq_self_eq_true]
  omega
 ·rintro env τ e5 c0 ⟨e0,e1,hp⟩
  simp +contextual (disch:=omega) only[go_sem,c0,e0,e1,e5,hln,hp]
end
section
open Go Go.RowKit
abbrev Mj:Nat:=116
def Mk:Fn1:=⟨41,[.t 4],(rg [oV 4 (ki 0)] (.seq (rg [oV 5 (ki 0)] (.blk 0 (.lop (.seq (rg [oM 6 5,oM 7 0,oN 8 7,oB 9 .lss 6 8] (.cnd (.t 9) .skip (.ext 0))) (.seq (.blk 1 (.seq (.seq (.drw [oM 12 0,oM 13 5,oI 14 3 12 13,oF 15 0 14,oL 16 15,oM 17 1,oC 18 110 17] [oB 19 .neq 16 18]) (.cnd (.t 19) (rg [o 4 (.mov (ki (-1)))] .ret) .skip)) (rg [oM 20 1,oZ 21 20 1,oM 1 21] (.seq (rg [oM 22 0,oM 23 5,oI 24 3 22 23,oF 25 1 24,oL 26 25,oM 27 1,oB 28 .neq 26 27] (.cnd (.t 28) (rg [o 4 (.mov (ki (-1)))] .ret) .skip)) (rg [oM 29 1,oZ 30 29 1,oM 1 30] (.seq (rg [oM 31 0,oM 32 5,oI 33 3 31 32,oF 34 2 33,oL 35 34,oM 36 1,oB 37 .neq 35 36] (.cnd (.t 37) (rg [o 4 (.mov (ki (-1)))] .ret) .skip)) (.reg [oM 38 1,oZ 39 38 1,oM 1 39]))))))) (.reg [oM 10 5,oZ 11 10 1,oM 5 11])))))) (rg [oM 40 1,oM 4 40] .ret)))⟩
theorem Wf:A8 Tryz.prog Mj=some Mk:=by kernel_rfl
theorem Su (σ:St) (v:GV) (n:Nat) (k:Int) (hR:RS Ab.kd σ v (mkF I6 3 k n)) (h0:0≤k) (hk:k+3*n≤4611686018427387904):Ret Tryz.prog Mj [v,gi k] σ (gi (k+3*n)) σ:=by
 refine Al Wf (Z0z rfl) trivial ?_
 have hln:=hR.len
 rw[Az] at hln
 simp +contextual (disch:=omega) only[go_sem,Mk]
 refine B4 n 5 (fun i env τ=>env 0=v∧env 1=gi (k+3*(i:Int))∧σ <+: τ) rfl ⟨rfl,(by show gi k=gi (k+3*0);simp),List.prefix_refl _⟩ ?_ ?_
 ·rintro i env τ hi e5 c0 ⟨e0,e1,hp⟩
  have hj:i<(mkF I6 3 k n).length:=by rw[Az];exact hi
  have hat:=Aa (hR.pre hp) hj
  simp only[Pr,I6] at hat
  simp +contextual (disch:=omega) only[go_sem,c0,e0,e1,e5,hln,hat,hp,bne_self_eq_false,beq_self_eq_true]
  refine Ac (Ce _ _ (by omega)) ?_
  simp +contextual (disch:=omega) only[go_sem,c0,e0,e1,e5,hln,hat,hp,bne_self_eq_false,beq_self_eq_true]
  omega
 ·rintro env τ e5 c0 ⟨e0,e1,hp⟩
  simp +contextual (disch:=omega) only[go_sem,c0,e0,e1,e5,hln,hp]
end
section
open Go Go.RowKit
abbrev P1:Nat:=26
def P2:Fn1:=⟨42,[.t 4],(rg [oX 2 0,oV 4 (ki 0)] (rg [oF 5 0 2,oL 6 5,oM 7 1,oD 8 115 6 7,oM 1 8] (.seq (rg [oM 9 1,o 10 (.bin .lss (.t 9) (ki 0))] (.cnd (.t 10) (rg [o 4 (.mov (ki (-1)))] .ret) .skip)) (rg [oF 11 1 2,oL 12 11,oM 13 1,oD 14 115 12 13,oM 1 14] (.seq (rg [oM 15 1,o 16 (.bin .lss (.t 15) (ki 0))] (.cnd (.t 16) (rg [o 4 (.mov (ki (-1)))] .ret) .skip)) (rg [oF 17 2 2,oL 18 17,oM 19 1,oD 20 116 18 19,oM 1 20] (.seq (rg [oM 21 1,o 22 (.bin .lss (.t 21) (ki 0))] (.cnd (.t 22) (rg [o 4 (.mov (ki (-1)))] .ret) .skip)) (rg [oF 23 3 2,oL 24 23,oM 25 1,oD 26 117 24 25,oM 1 26] (.seq (rg [oM 27 1,o 28 (.bin .lss (.t 27) (ki 0))] (.cnd (.t 28) (rg [o 4 (.mov (ki (-1)))] .ret) .skip)) (rg [oF 29 4 2,oL 30 29,oM 31 1,oD 32 118 30 31,oM 1 32] (.seq (rg [oM 33 1,o 34 (.bin .lss (.t 33) (ki 0))] (.cnd (.t 34) (rg [o 4 (.mov (ki (-1)))] .ret) .skip)) (rg [oF 35 5 2,oL 36 35,oM 37 1,oD 38 119 36 37,oM 1 38] (.seq (rg [oM 39 1,o 40 (.bin .lss (.t 39) (ki 0))] (.cnd (.t 40) (rg [o 4 (.mov (ki (-1)))] .ret) .skip)) (rg [oM 41 1,oM 4 41] .ret))))))))))))))⟩
theorem Xm:A8 Tryz.prog P1=some P2:=by kernel_rfl
theorem Lc (σ:St) (cs:List GV) (x:Delta) (k:Int) (hR:Ch.R σ (Vo k x) cs) (h0:0≤k) (hk:k+Gi x≤4611686018427387904):Ret Tryz.prog P1 [.agg cs,gi k] σ (gi (k+Gi x)) σ:=by
 obtain⟨v0,v1,v2,v3,v4,v5,rfl,q0,q1,q2,q3,q4,q5⟩:=hR
 unfold Gi at hk
 refine Al Xm (Z0z rfl) trivial ?_
 simp +contextual (disch:=omega) only[go_sem,P2,List.append_nil]
 refine Ac (Mi _ v0 x.base.length (k) (q0.pre (pre1 _ _)) (by omega) (by omega)) ?_
 have d0:decide (k+1*(x.base.length:Int)<0)=false:=decide_eq_false (by omega)
 simp +contextual (disch:=omega) only[go_sem,List.append_nil,d0]
 refine Ac (Mi _ v1 x.know.length (k+1*(x.base.length:Int)) (q1.pre (pre1 _ _)) (by omega) (by omega)) ?_
 have d1:decide (k+1*(x.base.length:Int)+1*(x.know.length:Int)<0)=false:=decide_eq_false (by omega)
 simp +contextual (disch:=omega) only[go_sem,List.append_nil,d1]
 refine Ac (Su _ v2 x.tallies.length (k+1*(x.base.length:Int)+1*(x.know.length:Int)) (q2.pre (pre1 _ _)) (by omega) (by omega)) ?_
 have d2:decide (k+1*(x.base.length:Int)+1*(x.know.length:Int)+3*(x.tallies.length:Int)<0)=false:=decide_eq_false (by omega)
 simp +contextual (disch:=omega) only[go_sem,List.append_nil,d2]
 refine Ac (We _ v3 x.lives.length (k+1*(x.base.length:Int)+1*(x.know.length:Int)+3*(x.tallies.length:Int)) (q3.pre (pre1 _ _)) (by omega) (by omega)) ?_
 have d3:decide (k+1*(x.base.length:Int)+1*(x.know.length:Int)+3*(x.tallies.length:Int)+6*(x.lives.length:Int)<0)=false:=decide_eq_false (by omega)
 simp +contextual (disch:=omega) only[go_sem,List.append_nil,d3]
 refine Ac (Xk _ v4 x.dead.length (k+1*(x.base.length:Int)+1*(x.know.length:Int)+3*(x.tallies.length:Int)+6*(x.lives.length:Int)) (q4.pre (pre1 _ _)) (by omega) (by omega)) ?_
 have d4:decide (k+1*(x.base.length:Int)+1*(x.know.length:Int)+3*(x.tallies.length:Int)+6*(x.lives.length:Int)+2*(x.dead.length:Int)<0)=false:=decide_eq_false (by omega)
 simp +contextual (disch:=omega) only[go_sem,List.append_nil,d4]
 refine Ac (Wd _ v5 x.cells.length (k+1*(x.base.length:Int)+1*(x.know.length:Int)+3*(x.tallies.length:Int)+6*(x.lives.length:Int)+2*(x.dead.length:Int)) (q5.pre (pre1 _ _)) (by omega) (by omega)) ?_
 have d5:decide (k+1*(x.base.length:Int)+1*(x.know.length:Int)+3*(x.tallies.length:Int)+6*(x.lives.length:Int)+2*(x.dead.length:Int)+8*(x.cells.length:Int)<0)=false:=decide_eq_false (by omega)
 simp +contextual (disch:=omega) only[go_sem,List.append_nil,d5]
 unfold Gi;omega
end
section
open Go Go.RowKit
abbrev P3:Nat:=25
def P4:Fn1:=⟨30,[.t 4],(rg [oX 2 0,oV 4 (ki 0)] (rg [oF 5 0 2,oL 6 5,oM 7 1,oD 8 109 6 7,oM 1 8] (rg [oF 9 1 2,oL 10 9,oM 11 1,oD 12 109 10 11,oM 1 12] (rg [oF 13 2 2,oL 14 13,oM 15 1,oD 16 111 14 15,oM 1 16] (rg [oF 17 3 2,oL 18 17,oM 19 1,oD 20 112 18 19,oM 1 20] (rg [oF 21 4 2,oL 22 21,oM 23 1,oD 24 113 22 23,oM 1 24] (rg [oF 25 5 2,oL 26 25,oM 27 1,oD 28 114 26 27,oM 1 28] (rg [oM 29 1,oM 4 29] .ret))))))))⟩
theorem Xn:A8 Tryz.prog P3=some P4:=by kernel_rfl
theorem Wg {σ τ:St} {rs:List Thg} (i0:Nat) (cs:List GV) (x:Delta) (k:Int) (H:Hp σ τ rs) (hi0:rs[i0]? =some (own Ch cs x)) (h0:0≤k) (hk:k+Gi x≤4611686018427387904):∃ τ',Ret Tryz.prog P3 [.agg cs,gi k] τ (gi (k+Gi x)) τ'∧Hp σ τ' (rs.set i0 (own Ch cs (Vo k x))):=by
 have hlt:=(List.getElem?_eq_some_iff.1 hi0).1
 have hlen:=Ch.len (H.rd i0 hi0)
 have hlen:cs.length=6:=hlen
 obtain⟨v0,v1,v2,v3,v4,v5,rfl,H⟩:=(H.pick i0 hi0).splitDelta
 unfold Gi at hk
 obtain⟨r,τ',hR,rfl,H'⟩:=Bw (P:=Tryz.prog) (σ:=τ) (args:=[.agg (v0::v1::v2::v3::v4::v5::[]),gi k]) (Post:=fun r τ'=>r=gi (k+Gi x)∧Hp σ τ' (own Ch (v0::v1::v2::v3::v4::v5::[]) (Vo k x)::rs.eraseIdx i0)) Xn (Z0z rfl) (by
  have H:=H.new 1 (v0::v1::v2::v3::v4::v5::[])
  simp +contextual (disch:=omega) only[go_sem,P4,List.append_nil]
  obtain⟨τ0,R0,H⟩:=Gd 1 v0 x.base (k) H rfl (by omega) (by omega)
  refine C8 R0 ?_
  try simp only[List.set_cons_succ,List.set_cons_zero] at H
  have hl0:=R0.2.1
  try simp +contextual (disch:=omega) only[go_sem,List.append_nil,A5 (H.pt 0 rfl)]
  obtain⟨τ1,R1,H⟩:=Gd 2 v1 x.know (k+1*(x.base.length:Int)) H rfl (by omega) (by omega)
  refine C8 R1 ?_
  try simp only[List.set_cons_succ,List.set_cons_zero] at H
  have hl1:=R1.2.1
  try simp +contextual (disch:=omega) only[go_sem,List.append_nil,A5 (H.pt 0 rfl)]
  obtain⟨τ2,R2,H⟩:=Jp 3 v2 x.tallies (k+1*(x.base.length:Int)+1*(x.know.length:Int)) H rfl (by omega) (by omega)
  refine C8 R2 ?_
  try simp only[List.set_cons_succ,List.set_cons_zero] at H
  have hl2:=R2.2.1
  try simp +contextual (disch:=omega) only[go_sem,List.append_nil,A5 (H.pt 0 rfl)]
  obtain⟨τ3,R3,H⟩:=L7 4 v3 x.lives (k+1*(x.base.length:Int)+1*(x.know.length:Int)+3*(x.tallies.length:Int)) H rfl (by omega) (by omega)
  refine C8 R3 ?_
  try simp only[List.set_cons_succ,List.set_cons_zero] at H
  have hl3:=R3.2.1
  try simp +contextual (disch:=omega) only[go_sem,List.append_nil,A5 (H.pt 0 rfl)]
  obtain⟨τ4,R4,H⟩:=Xb 5 v4 x.dead (k+1*(x.base.length:Int)+1*(x.know.length:Int)+3*(x.tallies.length:Int)+6*(x.lives.length:Int)) H rfl (by omega) (by omega)
  refine C8 R4 ?_
  try simp only[List.set_cons_succ,List.set_cons_zero] at H
  have hl4:=R4.2.1
  try simp +contextual (disch:=omega) only[go_sem,List.append_nil,A5 (H.pt 0 rfl)]
  obtain⟨τ5,R5,H⟩:=L8 6 v5 x.cells (k+1*(x.base.length:Int)+1*(x.know.length:Int)+3*(x.tallies.length:Int)+6*(x.lives.length:Int)+2*(x.dead.length:Int)) H rfl (by omega) (by omega)
  refine C8 R5 ?_
  try simp only[List.set_cons_succ,List.set_cons_zero] at H
  have hl5:=R5.2.1
  try simp +contextual (disch:=omega) only[go_sem,List.append_nil,A5 (H.pt 0 rfl)]
  try simp only[List.length_append,List.length_cons,List.length_nil] at hl0
  refine⟨_,rfl,by omega,by unfold Gi;congr 1;omega,H.drop1.ownDelta (x:=Vo k x)⟩)
 exact⟨τ',hR,H'.unpick hlt⟩
end
section
open Go Go.RowKit
abbrev Hq:Nat:=135
def Ld:Fn1:=⟨68,[.t 4],(rg [oV 4 (ki 0)] (.seq (rg [oV 5 (ki 0)] (.blk 0 (.lop (.seq (rg [oM 6 5,oM 7 0,oN 8 7,oB 9 .lss 6 8] (.cnd (.t 9) .skip (.ext 0))) (.seq (.blk 1 (rg [oM 12 0,oM 13 5,oM 14 1,oI 15 7 12 13,oF 16 0 15,oF 17 0 16,oS 1 17 14] (rg [oM 18 1,oZ 19 18 1,oM 1 19] (rg [oM 20 0,oM 21 5,oM 22 1,oI 23 7 20 21,oF 24 0 23,oF 25 1 24,oS 1 25 22] (rg [oM 26 1,oZ 27 26 1,oM 1 27] (rg [oM 28 0,oM 29 5,oI 30 7 28 29,oF 31 2 30,oL 32 31,oM 33 1,oD 34 109 32 33,oM 1 34] (rg [oM 35 0,oM 36 5,oI 37 7 35 36,oF 38 3 37,oF 39 0 38,oL 40 39,oM 41 1,oD 42 109 40 41,oM 1 42] (rg [oM 43 0,oM 44 5,oI 45 7 43 44,oF 46 3 45,oF 47 1 46,oL 48 47,oM 49 1,oD 50 111 48 49,oM 1 50] (rg [oM 51 0,oM 52 5,oI 53 7 51 52,oF 54 3 53,oF 55 2 54,oL 56 55,oM 57 1,oD 58 112 56 57,oM 1 58] (.reg [oM 59 0,oM 60 5,oI 61 7 59 60,oF 62 3 61,oF 63 3 62,oL 64 63,oM 65 1,oD 66 114 64 65,oM 1 66])))))))))) (.reg [oM 10 5,oZ 11 10 1,oM 5 11])))))) (rg [oM 67 1,oM 4 67] .ret)))⟩
theorem Sv:A8 Tryz.prog Hq=some Ld:=by kernel_rfl
abbrev P5:Nat:=24
def P6:Fn1:=⟨10,[.t 4],(rg [oX 2 0,oV 4 (ki 0)] (rg [oF 5 0 2,oL 6 5,oM 7 1,oD 8 135 6 7,oM 1 8] (rg [oM 9 1,oM 4 9] .ret)))⟩
theorem Xo:A8 Tryz.prog P5=some P6:=by kernel_rfl
def ctC (x:Commit):Nat:=2+(1*x.ups.length+L6 x.state)
def Cu (k:Int) (x:Commit):Commit:=⟨⟨k,k+1⟩,mkF mInt 1 (k+1+1) x.ups.length,Ea (k+1+1+1*(x.ups.length:Int)) x.state⟩
def zmC (v:GV) (l L:List Commit) (i:Nat) (R h:List Item):Prop:=(∃ hi:i<l.length,∃ u d0 d1 d2 d3,h= .th (ow pI.kd u l[i].ups)::.th (ow pI.kd d0 l[i].state.know)::.th (ow Ab.kd d1 l[i].state.tallies)::.th (ow Ai.kd d2 l[i].state.lives)::.th (ow Ae.kd d3 l[i].state.cells)::.th (hole Am v L i [gi l[i].id.rep,gi l[i].id.seq,u,d0,d1,d2,d3])::R)∨(i=l.length∧h= .th (ow Am v L)::R)
theorem Afr {σ τ:St} {v:GV} {l L:List Commit} {i:Nat} {R:List Item} (H:Hx σ τ (.th (ow Am v L)::R)) (hle:i≤l.length) (hat:∀ hi:i<l.length,∃ h,L[i]'h=l[i]):∃ h,Hx σ τ h∧zmC v l L i R h:=by
 by_cases hi:i<l.length
 ·obtain⟨hj,e⟩:=hat hi
  obtain⟨cs,Z⟩:=Hp.zoom H.hp hj
  rw[e] at Z
  obtain⟨v1,v2,rfl,Z⟩:=Z.splitCommit
  obtain⟨d0,d1,d2,d3,rfl,Z⟩:=(Z.pick 1 rfl).splitState
  refine⟨_,?_,.inl ⟨hi,v1,d0,d1,d2,d3,rfl⟩⟩
  exact Z.pick 4 rfl
 ·exact⟨_,H,.inr ⟨by omega,rfl⟩⟩
set_option maxHeartbeats 4000000 in
theorem Qg {σ τ:St} {rs:List Thg} (i0:Nat) (v:GV) (l:List Commit) (k:Int) (H:Hp σ τ rs) (hi0:rs[i0]? =some (ow Am v l)) (h0:0≤k) (hk:k+(sumL ctC l:Nat)≤4611686018427387904):∃ τ',Ret Tryz.prog Hq [v,gi k] τ (gi (k+(sumL ctC l:Nat))) τ'∧Hp σ τ' (rs.set i0 (ow Am v (Gw Cu ctC k l))):=by
 have hlt:=(List.getElem?_eq_some_iff.1 hi0).1
 obtain⟨R,hR⟩:∃ R:List Item,R=(rs.eraseIdx i0).map Item.th:=⟨_,rfl⟩
 have H1:Hx σ τ (.th (ow Am v l)::R):=by rw[hR];exact Hx.of (H.pick i0 hi0)
 have key:∃ w τ',Ret Tryz.prog Hq [v,gi k] τ w τ'∧(w=gi (k+(sumL ctC l:Nat))∧Hx σ τ' (.th (ow Am v (Gw Cu ctC k l))::R)):=by
  refine Lv Sv (Z0z rfl) H1 ?_
  have hlen:=(H1.hp.sl 0 rfl).len
  simp +contextual (disch:=omega) only[go_sem,Ld]
  obtain⟨hz,HZ,Z0⟩:=Afr (l:=l) (i:=0) H1 (by omega) (fun hi=>⟨hi,rfl⟩)
  refine Bs l.length 5 0 (fun i env h=>env 0=v∧env 1=gi (k+(sumL ctC (l.take i):Nat))∧zmC v l (Gw Cu ctC k (l.take i)++l.drop i) i R h) (fun env h=>env 1=gi (k+(sumL ctC l:Nat))∧h= .th (ow Am v (Gw Cu ctC k l))::R) (fun _ _=>False) hz HZ (by simp +contextual (disch:=omega) only[go_sem]) ⟨by simp +contextual (disch:=omega) only[go_sem],by simp +contextual (disch:=omega) only[go_sem];simp[sumL],Z0⟩ ?_ ?_ ?_ (fun _ _ _ _ h=>h.elim)
  ·clear H1 HZ Z0 H hi0
   rintro J Y W hJ hY hW i env h' τ hi ei c0 H ⟨e0,e1,hz⟩
   rcases hz with⟨_,u,d0,d1,d2,d3,rfl⟩|⟨hz,_⟩
   rotate_left
   ·omega
   obtain⟨q,hq⟩:∃ q,q=k+(sumL ctC (l.take i):Nat):=⟨_,rfl⟩
   have hs:=Kc (f:=ctC) hi
   have hst:=E2 ctC l (i+1)
   have hce:ctC l[i]=2+(1*l[i].ups.length+L6 l[i].state):=rfl
   have hqb:0≤q∧q+2+(l[i].ups.length:Int)+(L6 l[i].state:Nat)≤4611686018427387904:=by omega
   rw[← hq] at e1
   obtain⟨hj,eL⟩:=A72 (f:=Cu) (c:=ctC) (k:=k) hi
   generalize hLL:Gw Cu ctC k (l.take i)++l.drop i=L at*
   obtain⟨z1,z2,z3,_⟩:=H.hole_rd 5 rfl hj
   have z1:iadG 7 v (some i)=some (atz 7 v i):=z1
   have z2:∀ k,fadG k (atz 7 v i)=some (fld k (atz 7 v i)):=z2
   have z3:∀ k m,fadG k (fld m (atz 7 v i))=some (fld (m+k) (atz 7 v i)):=z3
   have hln:=A73 (c:=ctC) (fun x=>by unfold ctC;omega) l
   have hib:l.length≤4611686018427387904:=by omega
   have hq':q+2+(l[i].ups.length:Int)+(L6 l[i].state:Nat)=k+(sumL ctC (l.take (i+1)):Nat):=by omega
   have hdl:(L6 l[i].state:Nat)=1*l[i].state.know.length+3*l[i].state.tallies.length+6*l[i].state.lives.length+8*l[i].state.cells.length:=rfl
   clear hs hst hce hk hln
   simp +contextual (disch:=omega) only[go_sem,c0,e0,e1,ei,A4,hlen,z1,z2,z3]
   refine Afc H 5 rfl hj (d:=Am) (k:=0) rfl (by decide) (by decide) fun τ1 H1=> ?_
   simp +contextual (disch:=omega) only[go_sem,e0,e1,ei,A4,z1,z2,z3]
   refine Afc H1 5 rfl hj (d:=Am) (k:=1) rfl (by decide) (by decide) fun τ2 H2=> ?_
   have H2:Hx σ τ2 (.th (ow pI.kd u l[i].ups)::.th (ow pI.kd d0 l[i].state.know)::.th (ow Ab.kd d1 l[i].state.tallies)::.th (ow Ai.kd d2 l[i].state.lives)::.th (ow Ae.kd d3 l[i].state.cells)::.th (hole Am v L i [gi q,gi (q+1),u,d0,d1,d2,d3])::R):=H2
   have w2:ldX σ _ τ2 false 1 (fld 2 (atz 7 v i))=some u:=Mz H2 ((H2.hole_rd 5 rfl hj).2.2.2 2 1 false (by decide))
   simp +contextual (disch:=omega) only[go_sem,e0,e1,ei,A4,z1,z2,z3,w2]
   obtain⟨τ3,R3,K3⟩:=Gd 0 u l[i].ups (q+1+1) H2.hp rfl (by omega) (by omega)
   refine Q8 0 R3 K3 fun H3=> ?_
   obtain⟨p,hp⟩:∃ p,p=q+1+1+1*(l[i].ups.length:Int):=⟨_,rfl⟩
   have hpb:0≤p∧p+(L6 l[i].state:Nat)≤4611686018427387904:=by omega
   have H3:Hx σ τ3 (.th (ow pI.kd u (mkF mInt 1 (q+1+1) l[i].ups.length))::.th (ow pI.kd d0 l[i].state.know)::.th (ow Ab.kd d1 l[i].state.tallies)::.th (ow Ai.kd d2 l[i].state.lives)::.th (ow Ae.kd d3 l[i].state.cells)::.th (hole Am v L i [gi q,gi (q+1),u,d0,d1,d2,d3])::R):=H3
   have w3:ldX σ _ τ3 false 1 (fld 3 (atz 7 v i))=some d0:=Mz H3 ((H3.hole_rd 5 rfl hj).2.2.2 3 1 false (by decide))
   simp +contextual (disch:=omega) only[go_sem,e0,e1,ei,A4,z1,z2,z3,w3,←hp]
   obtain⟨τ4,R4,K4⟩:=Gd 1 d0 l[i].state.know p H3.hp rfl (by omega) (by omega)
   refine Q8 1 R4 K4 fun H4=> ?_
   have H4:Hx σ τ4 (.th (ow pI.kd u (mkF mInt 1 (q+1+1) l[i].ups.length))::.th (ow pI.kd d0 (mkF mInt 1 p l[i].state.know.length))::.th (ow Ab.kd d1 l[i].state.tallies)::.th (ow Ai.kd d2 l[i].state.lives)::.th (ow Ae.kd d3 l[i].state.cells)::.th (hole Am v L i [gi q,gi (q+1),u,d0,d1,d2,d3])::R):=H4
   have w4:ldX σ _ τ4 false 1 (fld 4 (atz 7 v i))=some d1:=Mz H4 ((H4.hole_rd 5 rfl hj).2.2.2 4 1 false (by decide))
   simp +contextual (disch:=omega) only[go_sem,e0,e1,ei,A4,z1,z2,z3,w4]
   obtain⟨τ5,R5,K5⟩:=Jp 2 d1 l[i].state.tallies (p+1*(l[i].state.know.length:Int)) H4.hp rfl (by omega) (by omega)
   refine Q8 2 R5 K5 fun H5=> ?_
   have H5:Hx σ τ5 (.th (ow pI.kd u (mkF mInt 1 (q+1+1) l[i].ups.length))::.th (ow pI.kd d0 (mkF mInt 1 p l[i].state.know.length))::.th (ow Ab.kd d1 (mkF I6 3 (p+1*(l[i].state.know.length:Int)) l[i].state.tallies.length))::.th (ow Ai.kd d2 l[i].state.lives)::.th (ow Ae.kd d3 l[i].state.cells)::.th (hole Am v L i [gi q,gi (q+1),u,d0,d1,d2,d3])::R):=H5
   have w5:ldX σ _ τ5 false 1 (fld 5 (atz 7 v i))=some d2:=Mz H5 ((H5.hole_rd 5 rfl hj).2.2.2 5 1 false (by decide))
   simp +contextual (disch:=omega) only[go_sem,e0,e1,ei,A4,z1,z2,z3,w5]
   obtain⟨τ6,R6,K6⟩:=L7 3 d2 l[i].state.lives (p+1*(l[i].state.know.length:Int)+3*(l[i].state.tallies.length:Int)) H5.hp rfl (by omega) (by omega)
   refine Q8 3 R6 K6 fun H6=> ?_
   have H6:Hx σ τ6 (.th (ow pI.kd u (mkF mInt 1 (q+1+1) l[i].ups.length))::.th (ow pI.kd d0 (mkF mInt 1 p l[i].state.know.length))::.th (ow Ab.kd d1 (mkF I6 3 (p+1*(l[i].state.know.length:Int)) l[i].state.tallies.length))::.th (ow Ai.kd d2 (mkF Qc 6 (p+1*(l[i].state.know.length:Int)+3*(l[i].state.tallies.length:Int)) l[i].state.lives.length))::.th (ow Ae.kd d3 l[i].state.cells)::.th (hole Am v L i [gi q,gi (q+1),u,d0,d1,d2,d3])::R):=H6
   have w6:ldX σ _ τ6 false 1 (fld 6 (atz 7 v i))=some d3:=Mz H6 ((H6.hole_rd 5 rfl hj).2.2.2 6 1 false (by decide))
   simp +contextual (disch:=omega) only[go_sem,e0,e1,ei,A4,z1,z2,z3,w6]
   obtain⟨τ7,R7,K7⟩:=L8 4 d3 l[i].state.cells (p+1*(l[i].state.know.length:Int)+3*(l[i].state.tallies.length:Int)+6*(l[i].state.lives.length:Int)) H6.hp rfl (by omega) (by omega)
   refine Q8 4 R7 K7 fun H7=> ?_
   simp +contextual (disch:=omega) only[go_sem,e0,e1,ei,A4,z1,z2,z3]
   have HO:Hx σ τ7 (.th (ow Am v (L.set i (Cu q l[i])))::R):=by
    have A:Hp σ τ7 _:=H7.hp
    have A1:=(Hp.ownState (x:=Ea p l[i].state) (A.drop1)).pick 0 rfl
    have A:Hp σ τ7 (ow pI.kd u (mkF mInt 1 (q+1+1) l[i].ups.length)::ow pI.kd d0 (Ea p l[i].state).know::ow Ab.kd d1 (Ea p l[i].state).tallies::ow Ai.kd d2 (Ea p l[i].state).lives::ow Ae.kd d3 (Ea p l[i].state).cells::hole Am v L i [gi q,gi (q+1),u,d0,d1,d2,d3]::R.map Item.t):=A
    have B:Hp σ τ7 (own A9 [d0,d1,d2,d3] (Ea p l[i].state)::hole Am v L i [gi q,gi (q+1),u,d0,d1,d2,d3]::ow pI.kd u (mkF mInt 1 (q+1+1) l[i].ups.length)::R.map Item.t):=by
     have A2:=A.perm (show List.Perm _ (ow pI.kd d0 (Ea p l[i].state).know::ow Ab.kd d1 (Ea p l[i].state).tallies::ow Ai.kd d2 (Ea p l[i].state).lives::ow Ae.kd d3 (Ea p l[i].state).cells::hole Am v L i [gi q,gi (q+1),u,d0,d1,d2,d3]::ow pI.kd u (mkF mInt 1 (q+1+1) l[i].ups.length)::R.map Item.t) from(List.perm_middle (l₁:=[ow pI.kd d0 (Ea p l[i].state).know,ow Ab.kd d1 (Ea p l[i].state).tallies,ow Ai.kd d2 (Ea p l[i].state).lives,ow Ae.kd d3 (Ea p l[i].state).cells,hole Am v L i [gi q,gi (q+1),u,d0,d1,d2,d3]])).symm)
     exact Hp.ownState (x:=Ea p l[i].state) A2
    have C:=B.pick 2 rfl
    have C1:Hp σ τ7 (ow pI.kd u (Cu q l[i]).ups::own A9 [d0,d1,d2,d3] (Cu q l[i]).state::hole Am v L i [gi q,gi (q+1),u,d0,d1,d2,d3]::R.map Item.t):=by
     have e:(Cu q l[i]).state=Ea p l[i].state:=by simp only[Cu,←hp]
     rw[e];exact C
    have A3:=Hp.ownCommit (x:=Cu q l[i]) C1
    exact Hp.unzoom (y:=Cu q l[i]) A3 hj
   obtain⟨hz,HZ,Z0⟩:=Afr (l:=l) (L:=L.set i (Cu q l[i])) (i:=i+1) HO (by omega) (fun h2=>by
    rw[← hLL,A3x (y:=Cu q l[i]) hi (by rw[hq])]
    exact A72 h2)
   refine hJ _ _ _ _ HZ ⟨by simp +contextual (disch:=omega) only[go_sem,e0],by simp +contextual (disch:=omega) only[go_sem];first|omega|(congr 1;omega),?_⟩
   rw[← A3x (y:=Cu q l[i]) hi (by rw[hq]),hLL];exact Z0
  ·clear H1 HZ Z0 H hi0
   rintro Y hY env h' τ ei c0 H ⟨e0,e1,hz⟩
   rcases hz with⟨hi,_⟩|⟨_,rfl⟩
   ·omega
   simp +contextual (disch:=omega) only[go_sem,c0,e0,ei,hlen]
   exact hY _ _ _ H ⟨by simp +contextual (disch:=omega) only[go_sem,e1,List.take_length],by rw[A8k]⟩
  ·rintro env h' τ H ⟨e1,rfl⟩
   simp +contextual (disch:=omega) only[go_sem,e1]
   exact fun _=>⟨_,rfl,rfl⟩
 obtain⟨w,τ',R',rfl,h⟩:=key
 refine⟨τ',R',?_⟩
 rw[hR] at h
 have h:=h.hp
 rw[List.map_cons,show((rs.eraseIdx i0).map Item.th).map Item.t=rs.eraseIdx i0 by simp[List.map_map,Function.comp_def,Item.t]] at h
 exact h.unpick hlt
def N5 (x:Graph):Nat:=sumL ctC x.commits
theorem Afs:∀ l:List Commit,sumL ctC l≤10*(l.length+sumL Aq l)
 |[]=>by simp[sumL]
 |x::l=>by
  have h:=Afs l
  have h1:sumL ctC (x::l)=ctC x+sumL ctC l:=by simp[sumL]
  have h2:sumL Aq (x::l)=Aq x+sumL Aq l:=by simp[sumL]
  have h3:ctC x≤10+10*Aq x:=by
   have:=A8l x.state
   unfold ctC Aq;omega
  rw[h1,h2,List.length_cons];omega
theorem A8r (x:Graph):N5 x≤10*Ci x:=Afs x.commits
def A65 (k:Int) (x:Graph):Graph:={x with commits:=Gw Cu ctC k x.commits}
theorem Wh {σ τ:St} {rs:List Thg} (i0:Nat) (cs:List GV) (x:Graph) (k:Int) (H:Hp σ τ rs) (hi0:rs[i0]? =some (own Ay cs x)) (h0:0≤k) (hk:k+N5 x≤4611686018427387904):∃ τ',Ret Tryz.prog P5 [.agg cs,gi k] τ (gi (k+N5 x)) τ'∧Hp σ τ' (rs.set i0 (own Ay cs (A65 k x))):=by
 have hlt:=(List.getElem?_eq_some_iff.1 hi0).1
 obtain⟨v0,rfl,H⟩:=(H.pick i0 hi0).splitGraph
 unfold N5 at hk
 obtain⟨r,τ',hR,rfl,H'⟩:=Bw (P:=Tryz.prog) (σ:=τ) (args:=[.agg (v0::(GV.int .i64 x.head)::[]),gi k]) (Post:=fun r τ'=>r=gi (k+N5 x)∧Hp σ τ' (own Ay (v0::(GV.int .i64 x.head)::[]) (A65 k x)::rs.eraseIdx i0)) Xo (Z0z rfl) (by
  have H:=H.new 1 (v0::(GV.int .i64 x.head)::[])
  simp +contextual (disch:=omega) only[go_sem,P6,List.append_nil]
  obtain⟨τ0,R0,H⟩:=Qg 1 v0 x.commits (k) H rfl (by omega) (by omega)
  refine C8 R0 ?_
  try simp only[List.set_cons_succ,List.set_cons_zero] at H
  have hl0:=R0.2.1
  try simp +contextual (disch:=omega) only[go_sem,List.append_nil,A5 (H.pt 0 rfl)]
  try simp only[List.length_append,List.length_cons,List.length_nil] at hl0
  refine⟨_,rfl,by omega,by unfold N5;rfl,H.drop1.ownGraph (x:=A65 k x)⟩)
 exact⟨τ',hR,H'.unpick hlt⟩
end
section
end
section
open Go Go.RowKit
abbrev Zd:Nat:=136
def Ze:Fn1:=⟨12,[.t 4],(rg [oV 4 (ki 0)] (rg [oM 5 1,oM 6 0,oN 7 6,oB 8 .sub 5 7,oM 1 8] (.seq (rg [oM 9 1,o 10 (.bin .lss (.t 9) (ki 0))] (.cnd (.t 10) (rg [o 4 (.mov (ki (-1)))] .ret) .skip)) (rg [oM 11 1,oM 4 11] .ret))))⟩
theorem A66:A8 Tryz.prog Zd=some Ze:=by kernel_rfl
theorem S6 (σ:St) (v:GV) (l:List Int) (hR:RS pI.kd σ v l) (n:Int) (hw:l.length≤9223372036854775807) (h0:0≤n) (h1:n≤1099511627776):Ret Tryz.prog Zd [v,gi n] σ (gi (lf n l.length)) σ:=by
 refine Al A66 (Z0z rfl) trivial ?_
 simp +contextual (disch:=omega) only[go_sem,Ze,hR.len]
 refine⟨fun h=> ?_,fun h=> ?_⟩
 ·rw[lf,if_pos (of_decide_eq_true h)]
 ·rw[lf,if_neg (of_decide_eq_false h)]
end
section
open Go Go.RowKit
abbrev Zf:Nat:=246
def Zg:Fn1:=⟨13,[.t 4],(rg [oX 2 0,oV 4 (ki 0)] (rg [oM 5 1,oF 6 0 2,oL 7 6,o 8 (.len true (.t 7)),oB 9 .sub 5 8,oM 1 9] (.seq (rg [oM 10 1,o 11 (.bin .lss (.t 10) (ki 0))] (.cnd (.t 11) (rg [o 4 (.mov (ki (-1)))] .ret) .skip)) (rg [oM 12 1,oM 4 12] .ret))))⟩
theorem A67:A8 Tryz.prog Zf=some Zg:=by kernel_rfl
theorem A4d (σ:St) (x:Cell) (n:Int) (hw:A51 x) (h0:0≤n) (h1:n≤1099511627776):Ret Tryz.prog Zf [.agg [.str x.obj,.int .i64 x.dot.rep,.int .i64 x.dot.seq,.int .i64 x.time,.int .i64 x.ref.rep,.int .i64 x.ref.seq,.int .i64 x.val,.bool x.gone],gi n] σ (gi (lf n (D8 x))) σ:=by
 have w0:=hw;unfold A51 at w0
 refine Al A67 (Z0z rfl) trivial ?_
 simp +contextual (disch:=omega) only[go_sem,Zg,List.append_nil]
 refine⟨fun hn=> ?_,fun hn=> ?_⟩
 ·have hn:=of_decide_eq_true hn
  unfold D8 lf;rw[if_pos (by omega)]
 have hn:=of_decide_eq_false hn
 try simp(disch:=omega) only[D6]
 unfold D8;rw[show lf n (x.obj.size)=n - ((x.obj.size:Nat):Int) by unfold lf;rw[if_neg (by omega)]];try omega
end
section
open Go Go.RowKit
abbrev Wi:Nat:=139
def Wj:Fn1:=⟨27,[.t 4],(rg [oV 4 (ki 0)] (rg [oM 6 1,oM 7 0,oN 8 7,oB 9 .sub 6 8,oM 1 9] (.seq (rg [oM 10 1,o 11 (.bin .lss (.t 10) (ki 0))] (.cnd (.t 11) (rg [o 4 (.mov (ki (-1)))] .ret) .skip)) (.seq (rg [oV 5 (ki 0)] (.blk 0 (.lop (.seq (rg [oM 12 5,oM 13 0,oN 14 13,oB 15 .lss 12 14] (.cnd (.t 15) .skip (.ext 0))) (.seq (.blk 1 (rg [oM 18 0,oM 19 5,oI 20 8 18 19,oW 21 8 20,oM 22 1,oD 23 246 21 22,oM 1 23] (rg [oM 24 1,o 25 (.bin .lss (.t 24) (ki 0))] (.cnd (.t 25) (rg [o 4 (.mov (ki (-1)))] .ret) .skip)))) (.reg [oM 16 5,oZ 17 16 1,oM 5 17])))))) (rg [oM 26 1,oM 4 26] .ret)))))⟩
theorem A4e:A8 Tryz.prog Wi=some Wj:=by kernel_rfl
theorem A1m (σ:St) (v:GV) (l:List Cell) (hR:RS Ae.kd σ v l) (n:Int) (hw:l.length≤9223372036854775807∧∀ y∈l,A51 y) (h0:0≤n) (h1:n≤1099511627776):Ret Tryz.prog Wi [v,gi n] σ (gi (lf n (l.length+sumL D8 l))) σ:=by
 obtain⟨wl,we⟩:=hw
 refine Al A4e (Z0z rfl) trivial ?_
 simp +contextual (disch:=omega) only[go_sem,Wj,hR.len]
 refine⟨fun hn=> ?_,fun hn=> ?_⟩
 ·have hn:=of_decide_eq_true hn
  unfold lf;rw[if_pos (by omega)]
 have hn:=of_decide_eq_false hn
 refine B4 l.length 5 (fun i env τ=>∃ m:Int,env 0=v∧env 1=gi m∧m=n - l.length - sumL D8 (l.take i)∧0≤m∧σ <+: τ) rfl ⟨n - l.length,rfl,rfl,by simp[sumL],by omega,List.prefix_refl _⟩ ?_ ?_
 ·rintro i env τ hi e5 c0 ⟨m,e0,e1,em,hm,hp⟩
  have h1:=hR.pre hp
  have hs:=Kc (f:=D8) hi
  have hst:=E2 D8 l (i+1)
  simp +contextual (disch:=omega) only[go_sem,c0,e0,e1,e5,hR.len,A7 h1 hi]
  refine Ac (A4d τ l[i] m (we _ (List.getElem_mem hi)) hm (by omega)) ?_
  simp +contextual (disch:=omega) only[go_sem,c0,e0,e1,e5,hp]
  have g0:= @Sb m (D8 l[i]) hm
  have g1:= @A9v m (D8 l[i])
  refine⟨fun hn=> ?_,fun hn=> ?_⟩
  ·have hn:=Kb.1 (of_decide_eq_true hn)
   unfold lf;rw[if_pos (by omega)]
  ·have hn:=of_decide_eq_false hn
   have f:=Gg hn
   exact⟨_,rfl,by omega,by omega⟩
 ·rintro env τ e5 c0 ⟨m,e0,e1,em,hm,hp⟩
  rw[List.take_length] at em
  simp +contextual (disch:=omega) only[go_sem,c0,e0,e1,e5,hR.len,hp]
  unfold lf;rw[if_neg (by omega)];omega
end
section
open Go Go.RowKit
abbrev Zh:Nat:=245
def Zi:Fn1:=⟨20,[.t 4],(rg [oX 2 0,oV 4 (ki 0)] (rg [oM 5 1,oF 6 1 2,oL 7 6,o 8 (.len true (.t 7)),oB 9 .sub 5 8,oM 1 9] (.seq (rg [oM 10 1,o 11 (.bin .lss (.t 10) (ki 0))] (.cnd (.t 11) (rg [o 4 (.mov (ki (-1)))] .ret) .skip)) (rg [oM 12 1,oF 13 2 2,oL 14 13,o 15 (.len true (.t 14)),oB 16 .sub 12 15,oM 1 16] (.seq (rg [oM 17 1,o 18 (.bin .lss (.t 17) (ki 0))] (.cnd (.t 18) (rg [o 4 (.mov (ki (-1)))] .ret) .skip)) (rg [oM 19 1,oM 4 19] .ret))))))⟩
theorem A68:A8 Tryz.prog Zh=some Zi:=by kernel_rfl
theorem A4f (σ:St) (x:Live) (n:Int) (hw:A7s x) (h0:0≤n) (h1:n≤1099511627776):Ret Tryz.prog Zh [.agg [.bool x.map,.str x.obj,.str x.key,.int .i64 x.val,.int .i64 x.dot.rep,.int .i64 x.dot.seq],gi n] σ (gi (lf n (Ck x))) σ:=by
 obtain⟨w0,w1⟩:=hw
 refine Al A68 (Z0z rfl) trivial ?_
 simp +contextual (disch:=omega) only[go_sem,Zi,List.append_nil]
 refine⟨fun hn=> ?_,fun hn=> ?_⟩
 ·have hn:=of_decide_eq_true hn
  unfold Ck lf;rw[if_pos (by omega)]
 have hn:=of_decide_eq_false hn
 try simp(disch:=omega) only[D6]
 refine⟨fun hn=> ?_,fun hn=> ?_⟩
 ·have hn:=of_decide_eq_true hn
  unfold Ck lf;rw[if_pos (by omega)]
 have hn:=of_decide_eq_false hn
 try simp(disch:=omega) only[D6]
 unfold Ck;rw[show lf n (x.obj.size+x.key.size)=n - ((x.obj.size+x.key.size:Nat):Int) by unfold lf;rw[if_neg (by omega)]];try omega
end
section
open Go Go.RowKit
abbrev Wk:Nat:=138
def Wl:Fn1:=⟨27,[.t 4],(rg [oV 4 (ki 0)] (rg [oM 6 1,oM 7 0,oN 8 7,oB 9 .sub 6 8,oM 1 9] (.seq (rg [oM 10 1,o 11 (.bin .lss (.t 10) (ki 0))] (.cnd (.t 11) (rg [o 4 (.mov (ki (-1)))] .ret) .skip)) (.seq (rg [oV 5 (ki 0)] (.blk 0 (.lop (.seq (rg [oM 12 5,oM 13 0,oN 14 13,oB 15 .lss 12 14] (.cnd (.t 15) .skip (.ext 0))) (.seq (.blk 1 (rg [oM 18 0,oM 19 5,oI 20 6 18 19,oW 21 6 20,oM 22 1,oD 23 245 21 22,oM 1 23] (rg [oM 24 1,o 25 (.bin .lss (.t 24) (ki 0))] (.cnd (.t 25) (rg [o 4 (.mov (ki (-1)))] .ret) .skip)))) (.reg [oM 16 5,oZ 17 16 1,oM 5 17])))))) (rg [oM 26 1,oM 4 26] .ret)))))⟩
theorem A4g:A8 Tryz.prog Wk=some Wl:=by kernel_rfl
theorem A1n (σ:St) (v:GV) (l:List Live) (hR:RS Ai.kd σ v l) (n:Int) (hw:l.length≤9223372036854775807∧∀ y∈l,A7s y) (h0:0≤n) (h1:n≤1099511627776):Ret Tryz.prog Wk [v,gi n] σ (gi (lf n (l.length+sumL Ck l))) σ:=by
 obtain⟨wl,we⟩:=hw
 refine Al A4g (Z0z rfl) trivial ?_
 simp +contextual (disch:=omega) only[go_sem,Wl,hR.len]
 refine⟨fun hn=> ?_,fun hn=> ?_⟩
 ·have hn:=of_decide_eq_true hn
  unfold lf;rw[if_pos (by omega)]
 have hn:=of_decide_eq_false hn
 refine B4 l.length 5 (fun i env τ=>∃ m:Int,env 0=v∧env 1=gi m∧m=n - l.length - sumL Ck (l.take i)∧0≤m∧σ <+: τ) rfl ⟨n - l.length,rfl,rfl,by simp[sumL],by omega,List.prefix_refl _⟩ ?_ ?_
 ·rintro i env τ hi e5 c0 ⟨m,e0,e1,em,hm,hp⟩
  have h1:=hR.pre hp
  have hs:=Kc (f:=Ck) hi
  have hst:=E2 Ck l (i+1)
  simp +contextual (disch:=omega) only[go_sem,c0,e0,e1,e5,hR.len,A6 h1 hi]
  refine Ac (A4f τ l[i] m (we _ (List.getElem_mem hi)) hm (by omega)) ?_
  simp +contextual (disch:=omega) only[go_sem,c0,e0,e1,e5,hp]
  have g0:= @Sb m (Ck l[i]) hm
  have g1:= @A9v m (Ck l[i])
  refine⟨fun hn=> ?_,fun hn=> ?_⟩
  ·have hn:=Kb.1 (of_decide_eq_true hn)
   unfold lf;rw[if_pos (by omega)]
  ·have hn:=of_decide_eq_false hn
   have f:=Gg hn
   exact⟨_,rfl,by omega,by omega⟩
 ·rintro env τ e5 c0 ⟨m,e0,e1,em,hm,hp⟩
  rw[List.take_length] at em
  simp +contextual (disch:=omega) only[go_sem,c0,e0,e1,e5,hR.len,hp]
  unfold lf;rw[if_neg (by omega)];omega
end
section
open Go Go.RowKit
abbrev Wm:Nat:=244
def Wn:Fn1:=⟨13,[.t 4],(rg [oX 2 0,oV 4 (ki 0)] (rg [oM 5 1,oF 6 0 2,oL 7 6,o 8 (.len true (.t 7)),oB 9 .sub 5 8,oM 1 9] (.seq (rg [oM 10 1,o 11 (.bin .lss (.t 10) (ki 0))] (.cnd (.t 11) (rg [o 4 (.mov (ki (-1)))] .ret) .skip)) (rg [oM 12 1,oM 4 12] .ret))))⟩
theorem A4h:A8 Tryz.prog Wm=some Wn:=by kernel_rfl
theorem A1o (σ:St) (x:Tally) (n:Int) (hw:Tt x) (h0:0≤n) (h1:n≤1099511627776):Ret Tryz.prog Wm [.agg [.str x.obj,.int .i64 x.rep,.int .i64 x.sum],gi n] σ (gi (lf n (Ar x))) σ:=by
 have w0:=hw;unfold Tt at w0
 refine Al A4h (Z0z rfl) trivial ?_
 simp +contextual (disch:=omega) only[go_sem,Wn,List.append_nil]
 refine⟨fun hn=> ?_,fun hn=> ?_⟩
 ·have hn:=of_decide_eq_true hn
  unfold Ar lf;rw[if_pos (by omega)]
 have hn:=of_decide_eq_false hn
 try simp(disch:=omega) only[D6]
 unfold Ar;rw[show lf n (x.obj.size)=n - ((x.obj.size:Nat):Int) by unfold lf;rw[if_neg (by omega)]];try omega
end
section
open Go Go.RowKit
abbrev S7:Nat:=137
def S8:Fn1:=⟨27,[.t 4],(rg [oV 4 (ki 0)] (rg [oM 6 1,oM 7 0,oN 8 7,oB 9 .sub 6 8,oM 1 9] (.seq (rg [oM 10 1,o 11 (.bin .lss (.t 10) (ki 0))] (.cnd (.t 11) (rg [o 4 (.mov (ki (-1)))] .ret) .skip)) (.seq (rg [oV 5 (ki 0)] (.blk 0 (.lop (.seq (rg [oM 12 5,oM 13 0,oN 14 13,oB 15 .lss 12 14] (.cnd (.t 15) .skip (.ext 0))) (.seq (.blk 1 (rg [oM 18 0,oM 19 5,oI 20 3 18 19,oW 21 3 20,oM 22 1,oD 23 244 21 22,oM 1 23] (rg [oM 24 1,o 25 (.bin .lss (.t 24) (ki 0))] (.cnd (.t 25) (rg [o 4 (.mov (ki (-1)))] .ret) .skip)))) (.reg [oM 16 5,oZ 17 16 1,oM 5 17])))))) (rg [oM 26 1,oM 4 26] .ret)))))⟩
theorem A1p:A8 Tryz.prog S7=some S8:=by kernel_rfl
theorem Xp (σ:St) (v:GV) (l:List Tally) (hR:RS Ab.kd σ v l) (n:Int) (hw:l.length≤9223372036854775807∧∀ y∈l,Tt y) (h0:0≤n) (h1:n≤1099511627776):Ret Tryz.prog S7 [v,gi n] σ (gi (lf n (l.length+sumL Ar l))) σ:=by
 obtain⟨wl,we⟩:=hw
 refine Al A1p (Z0z rfl) trivial ?_
 simp +contextual (disch:=omega) only[go_sem,S8,hR.len]
 refine⟨fun hn=> ?_,fun hn=> ?_⟩
 ·have hn:=of_decide_eq_true hn
  unfold lf;rw[if_pos (by omega)]
 have hn:=of_decide_eq_false hn
 refine B4 l.length 5 (fun i env τ=>∃ m:Int,env 0=v∧env 1=gi m∧m=n - l.length - sumL Ar (l.take i)∧0≤m∧σ <+: τ) rfl ⟨n - l.length,rfl,rfl,by simp[sumL],by omega,List.prefix_refl _⟩ ?_ ?_
 ·rintro i env τ hi e5 c0 ⟨m,e0,e1,em,hm,hp⟩
  have h1:=hR.pre hp
  have hs:=Kc (f:=Ar) hi
  have hst:=E2 Ar l (i+1)
  simp +contextual (disch:=omega) only[go_sem,c0,e0,e1,e5,hR.len,Aa h1 hi]
  refine Ac (A1o τ l[i] m (we _ (List.getElem_mem hi)) hm (by omega)) ?_
  simp +contextual (disch:=omega) only[go_sem,c0,e0,e1,e5,hp]
  have g0:= @Sb m (Ar l[i]) hm
  have g1:= @A9v m (Ar l[i])
  refine⟨fun hn=> ?_,fun hn=> ?_⟩
  ·have hn:=Kb.1 (of_decide_eq_true hn)
   unfold lf;rw[if_pos (by omega)]
  ·have hn:=of_decide_eq_false hn
   have f:=Gg hn
   exact⟨_,rfl,by omega,by omega⟩
 ·rintro env τ e5 c0 ⟨m,e0,e1,em,hm,hp⟩
  rw[List.take_length] at em
  simp +contextual (disch:=omega) only[go_sem,c0,e0,e1,e5,hR.len,hp]
  unfold lf;rw[if_neg (by omega)];omega
end
section
open Go Go.RowKit
abbrev Wo:Nat:=27
def Wp:Fn1:=⟨30,[.t 4],(rg [oX 2 0,oV 4 (ki 0)] (rg [oF 5 0 2,oL 6 5,oM 7 1,oD 8 136 6 7,oM 1 8] (.seq (rg [oM 9 1,o 10 (.bin .lss (.t 9) (ki 0))] (.cnd (.t 10) (rg [o 4 (.mov (ki (-1)))] .ret) .skip)) (rg [oF 11 1 2,oL 12 11,oM 13 1,oD 14 137 12 13,oM 1 14] (.seq (rg [oM 15 1,o 16 (.bin .lss (.t 15) (ki 0))] (.cnd (.t 16) (rg [o 4 (.mov (ki (-1)))] .ret) .skip)) (rg [oF 17 2 2,oL 18 17,oM 19 1,oD 20 138 18 19,oM 1 20] (.seq (rg [oM 21 1,o 22 (.bin .lss (.t 21) (ki 0))] (.cnd (.t 22) (rg [o 4 (.mov (ki (-1)))] .ret) .skip)) (rg [oF 23 3 2,oL 24 23,oM 25 1,oD 26 139 24 25,oM 1 26] (.seq (rg [oM 27 1,o 28 (.bin .lss (.t 27) (ki 0))] (.cnd (.t 28) (rg [o 4 (.mov (ki (-1)))] .ret) .skip)) (rg [oM 29 1,oM 4 29] .ret))))))))))⟩
theorem A4i:A8 Tryz.prog Wo=some Wp:=by kernel_rfl
theorem A1q (σ:St) (cs:List GV) (x:State) (hR:A9.R σ x cs) (n:Int) (hw:A6n x) (h0:0≤n) (h1:n≤1099511627776):Ret Tryz.prog Wo [.agg cs,gi n] σ (gi (lf n (Ad x))) σ:=by
 obtain⟨v0,v1,v2,v3,rfl,q0,q1,q2,q3⟩:=hR
 obtain⟨w0,w1,w2,w3⟩:=hw
 refine Al A4i (Z0z rfl) trivial ?_
 simp +contextual (disch:=omega) only[go_sem,Wp,List.append_nil]
 refine Ac (S6 _ v0 x.know (q0.pre (pre1 _ _)) (n) w0 (by omega) (by omega)) ?_
 simp +contextual (disch:=omega) only[go_sem,List.append_nil]
 have g0:= @Sb (n) (x.know.length) (by omega)
 refine⟨fun hn=> ?_,fun hn=> ?_⟩
 ·have hn:=of_decide_eq_true hn
  have hn:=Kb.1 hn
  unfold Ad lf;rw[if_pos (by omega)]
 have hn:=of_decide_eq_false hn
 have f0:=Gg hn
 try simp(disch:=omega) only[D6]
 refine Ac (Xp _ v1 x.tallies (q1.pre (pre1 _ _)) (lf (n) (x.know.length)) w1 (by omega) (by omega)) ?_
 simp +contextual (disch:=omega) only[go_sem,List.append_nil]
 have g1:= @Sb (lf (n) (x.know.length)) ((x.tallies.length+sumL Ar x.tallies)) (by omega)
 refine⟨fun hn=> ?_,fun hn=> ?_⟩
 ·have hn:=of_decide_eq_true hn
  have hn:=Kb.1 hn
  unfold Ad lf;rw[if_pos (by omega)]
 have hn:=of_decide_eq_false hn
 have f1:=Gg hn
 try simp(disch:=omega) only[D6]
 refine Ac (A1n _ v2 x.lives (q2.pre (pre1 _ _)) (lf (lf (n) (x.know.length)) ((x.tallies.length+sumL Ar x.tallies))) w2 (by omega) (by omega)) ?_
 simp +contextual (disch:=omega) only[go_sem,List.append_nil]
 have g2:= @Sb (lf (lf (n) (x.know.length)) ((x.tallies.length+sumL Ar x.tallies))) ((x.lives.length+sumL Ck x.lives)) (by omega)
 refine⟨fun hn=> ?_,fun hn=> ?_⟩
 ·have hn:=of_decide_eq_true hn
  have hn:=Kb.1 hn
  unfold Ad lf;rw[if_pos (by omega)]
 have hn:=of_decide_eq_false hn
 have f2:=Gg hn
 try simp(disch:=omega) only[D6]
 refine Ac (A1m _ v3 x.cells (q3.pre (pre1 _ _)) (lf (lf (lf (n) (x.know.length)) ((x.tallies.length+sumL Ar x.tallies))) ((x.lives.length+sumL Ck x.lives))) w3 (by omega) (by omega)) ?_
 simp +contextual (disch:=omega) only[go_sem,List.append_nil]
 have g3:= @Sb (lf (lf (lf (n) (x.know.length)) ((x.tallies.length+sumL Ar x.tallies))) ((x.lives.length+sumL Ck x.lives))) ((x.cells.length+sumL D8 x.cells)) (by omega)
 refine⟨fun hn=> ?_,fun hn=> ?_⟩
 ·have hn:=of_decide_eq_true hn
  have hn:=Kb.1 hn
  unfold Ad lf;rw[if_pos (by omega)]
 have hn:=of_decide_eq_false hn
 have f3:=Gg hn
 try simp(disch:=omega) only[D6]
 unfold Ad;rw[show lf n (x.know.length+(x.tallies.length+sumL Ar x.tallies)+(x.lives.length+sumL Ck x.lives)+(x.cells.length+sumL D8 x.cells))=n - ((x.know.length+(x.tallies.length+sumL Ar x.tallies)+(x.lives.length+sumL Ck x.lives)+(x.cells.length+sumL D8 x.cells):Nat):Int) by unfold lf;rw[if_neg (by omega)]];try omega
end
section
open Go Go.RowKit
abbrev Lf:Nat:=231
def S9:Fn1:=⟨18,[.t 4],(rg [oX 2 0,oV 4 (ki 0)] (rg [oF 5 2 2,oL 6 5,oM 7 1,oD 8 136 6 7,oM 1 8] (.seq (rg [oM 9 1,o 10 (.bin .lss (.t 9) (ki 0))] (.cnd (.t 10) (rg [o 4 (.mov (ki (-1)))] .ret) .skip)) (rg [oF 11 3 2,oW 12 4 11,oM 13 1,oD 14 27 12 13,oM 1 14] (.seq (rg [oM 15 1,o 16 (.bin .lss (.t 15) (ki 0))] (.cnd (.t 16) (rg [o 4 (.mov (ki (-1)))] .ret) .skip)) (rg [oM 17 1,oM 4 17] .ret))))))⟩
theorem A1r:A8 Tryz.prog Lf=some S9:=by kernel_rfl
theorem Xq (σ:St) (cs:List GV) (x:Commit) (hR:Am.R σ x cs) (n:Int) (hw:Tu x) (h0:0≤n) (h1:n≤1099511627776):Ret Tryz.prog Lf [.agg cs,gi n] σ (gi (lf n (Aq x))) σ:=by
 obtain⟨v1,v2,rfl,q1,q2⟩:=hR
 obtain⟨w0,w1⟩:=hw
 have a2:=q2
 obtain⟨d0,d1,d2,d3,rfl,_⟩:=q2
 suffices key:Ret Tryz.prog Lf [.agg [.int .i64 x.id.rep,.int .i64 x.id.seq,v1,d0,d1,d2,d3],gi n] σ (gi (lf n (Aq x))) σ from key
 refine Al A1r (Z0z rfl) trivial ?_
 simp +contextual (disch:=omega) only[go_sem,S9,List.append_nil]
 refine Ac (S6 _ v1 x.ups (q1.pre (pre1 _ _)) (n) w0 (by omega) (by omega)) ?_
 simp +contextual (disch:=omega) only[go_sem,List.append_nil]
 have g0:= @Sb (n) (x.ups.length) (by omega)
 refine⟨fun hn=> ?_,fun hn=> ?_⟩
 ·have hn:=of_decide_eq_true hn
  have hn:=Kb.1 hn
  unfold Aq lf;rw[if_pos (by omega)]
 have hn:=of_decide_eq_false hn
 have f0:=Gg hn
 try simp(disch:=omega) only[D6]
 refine Ac (A1q _ _ x.state (A9.pre a2 (pre1 _ _)) (lf (n) (x.ups.length)) w1 (by omega) (by omega)) ?_
 simp +contextual (disch:=omega) only[go_sem,List.append_nil]
 have g1:= @Sb (lf (n) (x.ups.length)) (Ad x.state) (by omega)
 refine⟨fun hn=> ?_,fun hn=> ?_⟩
 ·have hn:=of_decide_eq_true hn
  have hn:=Kb.1 hn
  unfold Aq lf;rw[if_pos (by omega)]
 have hn:=of_decide_eq_false hn
 have f1:=Gg hn
 try simp(disch:=omega) only[D6]
 unfold Aq;rw[show lf n (x.ups.length+Ad x.state)=n - ((x.ups.length+Ad x.state:Nat):Int) by unfold lf;rw[if_neg (by omega)]];try omega
end
section
open Go Go.RowKit
abbrev P7:Nat:=120
def P8:Fn1:=⟨27,[.t 4],(rg [oV 4 (ki 0)] (rg [oM 6 1,oM 7 0,oN 8 7,oB 9 .sub 6 8,oM 1 9] (.seq (rg [oM 10 1,o 11 (.bin .lss (.t 10) (ki 0))] (.cnd (.t 11) (rg [o 4 (.mov (ki (-1)))] .ret) .skip)) (.seq (rg [oV 5 (ki 0)] (.blk 0 (.lop (.seq (rg [oM 12 5,oM 13 0,oN 14 13,oB 15 .lss 12 14] (.cnd (.t 15) .skip (.ext 0))) (.seq (.blk 1 (rg [oM 18 0,oM 19 5,oI 20 7 18 19,oW 21 7 20,oM 22 1,oD 23 231 21 22,oM 1 23] (rg [oM 24 1,o 25 (.bin .lss (.t 24) (ki 0))] (.cnd (.t 25) (rg [o 4 (.mov (ki (-1)))] .ret) .skip)))) (.reg [oM 16 5,oZ 17 16 1,oM 5 17])))))) (rg [oM 26 1,oM 4 26] .ret)))))⟩
theorem Xr:A8 Tryz.prog P7=some P8:=by kernel_rfl
theorem Wq (σ:St) (v:GV) (l:List Commit) (hR:RS Am σ v l) (n:Int) (hw:l.length≤9223372036854775807∧∀ y∈l,Tu y) (h0:0≤n) (h1:n≤1099511627776):Ret Tryz.prog P7 [v,gi n] σ (gi (lf n (l.length+sumL Aq l))) σ:=by
 obtain⟨wl,we⟩:=hw
 refine Al Xr (Z0z rfl) trivial ?_
 simp +contextual (disch:=omega) only[go_sem,P8,hR.len]
 refine⟨fun hn=> ?_,fun hn=> ?_⟩
 ·have hn:=of_decide_eq_true hn
  unfold lf;rw[if_pos (by omega)]
 have hn:=of_decide_eq_false hn
 refine B4 l.length 5 (fun i env τ=>∃ m:Int,env 0=v∧env 1=gi m∧m=n - l.length - sumL Aq (l.take i)∧0≤m∧σ <+: τ) rfl ⟨n - l.length,rfl,rfl,by simp[sumL],by omega,List.prefix_refl _⟩ ?_ ?_
 ·rintro i env τ hi e5 c0 ⟨m,e0,e1,em,hm,hp⟩
  have h1:=hR.pre hp
  have hs:=Kc (f:=Aq) hi
  have hst:=E2 Aq l (i+1)
  obtain⟨cs,hc,hcr⟩:=Ls h1 hi
  simp +contextual (disch:=omega) only[go_sem,c0,e0,e1,e5,hR.len,hc]
  refine Ac (Xq τ cs l[i] hcr m (we _ (List.getElem_mem hi)) hm (by omega)) ?_
  simp +contextual (disch:=omega) only[go_sem,c0,e0,e1,e5,hp]
  have g0:= @Sb m (Aq l[i]) hm
  have g1:= @A9v m (Aq l[i])
  refine⟨fun hn=> ?_,fun hn=> ?_⟩
  ·have hn:=Kb.1 (of_decide_eq_true hn)
   unfold lf;rw[if_pos (by omega)]
  ·have hn:=of_decide_eq_false hn
   have f:=Gg hn
   exact⟨_,rfl,by omega,by omega⟩
 ·rintro env τ e5 c0 ⟨m,e0,e1,em,hm,hp⟩
  rw[List.take_length] at em
  simp +contextual (disch:=omega) only[go_sem,c0,e0,e1,e5,hR.len,hp]
  unfold lf;rw[if_neg (by omega)];omega
end
section
open Go Go.RowKit
abbrev Wr:Nat:=18
def Ws:Fn1:=⟨12,[.t 4],(rg [oX 2 0,oV 4 (ki 0)] (rg [oF 5 0 2,oL 6 5,oM 7 1,oD 8 120 6 7,oM 1 8] (.seq (rg [oM 9 1,o 10 (.bin .lss (.t 9) (ki 0))] (.cnd (.t 10) (rg [o 4 (.mov (ki (-1)))] .ret) .skip)) (rg [oM 11 1,oM 4 11] .ret))))⟩
theorem A4j:A8 Tryz.prog Wr=some Ws:=by kernel_rfl
theorem A1s (σ:St) (cs:List GV) (x:Graph) (hR:Ay.R σ x cs) (n:Int) (hw:A6o x) (h0:0≤n) (h1:n≤1099511627776):Ret Tryz.prog Wr [.agg cs,gi n] σ (gi (lf n (Ci x))) σ:=by
 obtain⟨v0,rfl,q0⟩:=hR
 have w0:=hw;unfold A6o at w0
 refine Al A4j (Z0z rfl) trivial ?_
 simp +contextual (disch:=omega) only[go_sem,Ws,List.append_nil]
 refine Ac (Wq _ v0 x.commits (q0.pre (pre1 _ _)) (n) w0 (by omega) (by omega)) ?_
 simp +contextual (disch:=omega) only[go_sem,List.append_nil]
 have g0:= @Sb (n) ((x.commits.length+sumL Aq x.commits)) (by omega)
 refine⟨fun hn=> ?_,fun hn=> ?_⟩
 ·have hn:=of_decide_eq_true hn
  have hn:=Kb.1 hn
  unfold Ci lf;rw[if_pos (by omega)]
 have hn:=of_decide_eq_false hn
 have f0:=Gg hn
 try simp(disch:=omega) only[D6]
 unfold Ci;rw[show lf n ((x.commits.length+sumL Aq x.commits))=n - (((x.commits.length+sumL Aq x.commits):Nat):Int) by unfold lf;rw[if_neg (by omega)]];try omega
end
section
open Go Go.RowKit
abbrev Wt:Nat:=20
def Wu:Fn1:=⟨12,[.c 2 true 2],(rg [oX 1 0,o 2 (.new [.nilS,z0])] (rg [o 3 (.new [.nilS,z0])] (rg [oF 4 0 1,oL 5 4,oC 6 124 5,oF 7 0 3,oS 1 7 6] (rg [oF 8 1 1,oL 9 8,oF 10 1 3,oS 1 10 9] (rg [oW 11 2 3,oS 2 2 11] .ret)))))⟩
theorem A4k:A8 Tryz.prog Wt=some Wu:=by kernel_rfl
theorem Gx (σ:St) (cs:List GV) (x:Graph) (hR:Ay.R σ x cs) (hl:Ci x≤1073741824):∃ r τ,Ret Tryz.prog Wt [.agg cs] σ r τ∧σ <+: τ∧∃ ds,r= .agg ds∧Hp σ τ [own Ay ds x]:=by
 have hlen:=Ay.len hR
 have hlen:cs.length=2:=hlen
 obtain⟨v0,rfl,q0⟩:=hR
 unfold Ci at hl
 refine A4w A4k (Z0z rfl) ?_
 simp +contextual (disch:=omega) only[go_sem,Wu,List.append_nil]
 have H:=(((Hp.refl σ).new 1 (v0::(GV.int .i64 x.head)::[])).new 1 [GV.nilS,(GV.int .i64 0)]).new 1 [GV.nilS,(GV.int .i64 0)]
 obtain⟨r0,τ0,R0,K0⟩:=W7 _ v0 x.commits (q0.pre H.sub) (by omega)
 refine Pq R0 K0 ?_
 have e0:=(K0.sl 0 rfl).cell
 have H:=H.add K0
 try simp only[go_sem] at H
 try simp +contextual (disch:=omega) only[go_sem,List.append_nil,A5 (H.pt 3 rfl),A5 (H.pt 1 rfl)]
 obtain⟨_,es,H,_⟩:=H.st 1 rfl 1 0 (r0) (by rw[e0];rfl) (by decide) (Z0z rfl)
 try simp only[go_sem,List.set_cons_zero,List.set_cons_succ,e0] at H
 try simp +contextual (disch:=omega) only[go_sem,List.append_nil,es,A5 (H.pt 3 rfl),A5 (H.pt 1 rfl)]
 try simp +contextual (disch:=omega) only[go_sem,List.append_nil,A5 (H.pt 3 rfl),A5 (H.pt 1 rfl)]
 obtain⟨_,es,H,_⟩:=H.st 1 rfl 1 1 (.int .i64 x.head) (rfl) (by decide) (Z0z rfl)
 try simp only[go_sem,List.set_cons_zero,List.set_cons_succ] at H
 try simp +contextual (disch:=omega) only[go_sem,List.append_nil,es,A5 (H.pt 3 rfl),A5 (H.pt 1 rfl)]
 obtain⟨_,es,H,_⟩:=H.st 2 rfl 2 0 (.agg (r0::(GV.int .i64 x.head)::[])) (rfl) (by decide) (Z0z rfl)
 try simp only[go_sem,List.set_cons_zero,List.set_cons_succ] at H
 try simp +contextual (disch:=omega) only[go_sem,List.append_nil,es,A5 (H.pt 2 rfl)]
 have h0:=H.sub
 have H:=H
 try simp only[List.eraseIdx_cons_succ,List.eraseIdx_cons_zero] at H
 exact⟨_,rfl,h0,_,rfl,H.ownGraph.one⟩
end
section
open Go Go.RowKit
theorem Adz {x:Tally} (h:zTally x):Tt x:=h.1
theorem Abo {x:List Tally} (h:((x).length≤9223372036854775807∧∀ y6∈x,zTally (y6))):x.length≤9223372036854775807∧∀ y∈x,Tt y:=⟨h.1,fun y hy=>Adz (h.2 y hy)⟩
theorem Ajw {x:Live} (h:zLive x):A7s x:=⟨h.2.1,h.2.2.1⟩
theorem Ae0 {x:List Live} (h:((x).length≤9223372036854775807∧∀ y5∈x,zLive (y5))):x.length≤9223372036854775807∧∀ y∈x,A7s y:=⟨h.1,fun y hy=>Ajw (h.2 y hy)⟩
theorem Ajx {x:Cell} (h:zCell x):A51 x:=h.1
theorem Ae1 {x:List Cell} (h:((x).length≤9223372036854775807∧∀ y5∈x,zCell (y5))):x.length≤9223372036854775807∧∀ y∈x,A51 y:=⟨h.1,fun y hy=>Ajx (h.2 y hy)⟩
theorem Ae2 {x:State} (h:zState x):A6n x:=⟨h.1.1,Abo h.2.1,Ae0 h.2.2.1,Ae1 h.2.2.2⟩
theorem Abp {x:Commit} (h:zCommit x):Tu x:=⟨h.2.1.1,Ae2 h.2.2⟩
theorem A8s {x:List Commit} (h:((x).length≤9223372036854775807∧∀ y7∈x,zCommit (y7))):x.length≤9223372036854775807∧∀ y∈x,Tu y:=⟨h.1,fun y hy=>Abp (h.2 y hy)⟩
theorem Ae3 {x:Graph} (h:zGraph x):A6o x:=A8s h.1
end
end Go.Proofs.YtbeoiejnogdkpaaGreat.Sy
