/- Texts of this proof, one behind the other. -/
import Derived.Test.YtbeoiejnogdkpaaGreatBPWhoseTold3
import Derived.Test.YtbeoiejnogdkpaaGreatProg
import Derived.KernelRfl
set_option linter.unusedSimpArgs false
set_option linter.unusedVariables false
set_option maxRecDepth 4000
set_option maxHeartbeats 4000000
open Bool renaming false_and→Zaa,true_and→Zab,and_eq_true→Zad,false_eq_true→Zas,eq_iff_iff→Zaz,or_false→Zbi
open List renaming take_length→Zac,length_append→Zae,length_filter_le→Zaf,mem_map→Zah,length_singleton→Zai,getElem_mem→Zaj,map_append→Zak,map_congr_left→Zal,nodup_append→Zam,findIdx?_eq_none_iff→Zan,getElem_map→Zao,getElem_of_mem→Zap,mem_cons→Zaq,mem_filter→Zar,mem_append→Zat,length_set→Zau,mem_singleton→Zav,take_succ_eq_append_getElem→Zaw,take_sublist→Zax,length_take→Zay,length_map→Za0,length_nil→Za1,append_assoc→Za2,map_cons→Za3,filter_nil→Za4,append_nil→Za5,mem_cons_of_mem→Za6,filter_append→Za8,mem_cons_self→Za9,set_cons_succ→Zba,pairwise_map→Zbb,foldl_append→Zbc,map_map→Zbd,filter_cons→Zbe,isEmpty_iff→Zbf,foldl_cons→Zbg
open Int renaming tmod_eq_emod_of_nonneg→Zag,ofNat_zero→Zbh
open Nat renaming eq_zero_or_pos→Za7
namespace Go.Proofs.YtbeoiejnogdkpaaGreat.Sy
open Go Go.RowKit
abbrev Xh:Nat:=225
def Xi:Fn1:=⟨103,[.t 2],(rg [oX 1 0,oV 2 kf] (.seq (rg [oF 9 0 1,oL 10 9,oF 11 1 1,oL 12 11,oD 13 177 10 12,oU 14 13,oM 15 14,vF 16 15 2 1,vL 17 15 16,vC 18 15 285 17,vU 19 15 18,oP 20 15 19,oM 21 20,vF 22 21 3 1,vL 23 21 22,vF 24 21 1 1,vL 25 21 24,vD 26 21 286 23 25,vU 27 21 26,oP 28 21 27,oM 29 28,vF 30 29 5 1,vL 31 29 30,vF 32 29 1 1,vL 33 29 32,vD 34 29 287 31 33,vU 35 29 34,oP 36 29 35,oM 37 36,vF 38 37 4 1,vL 39 37 38,og 40 37 false (.len false (.t 39)),vE 41 37 .gtr 40 120,oP 42 37 41] (cn 42 (rg [oV 2 kf] .ret) .skip)) (.seq (rg [oF 43 3 1,oL 44 43,oN 45 44,oV 46 (ki 0)] (.blk 0 (.lop (rg [oB 47 .lss 46 45] (.seq (cn 47 .skip (.ext 0)) (.seq (.blk 1 (rg [oI 48 6 44 46,oW 49 6 48,o 4 (.new [(.bool false),s0,s0,z0,z0,z0]),oS 6 4 49] (rg [oF 50 0 1,oL 51 50,oF 52 4 4,oW 53 2 52,oD 54 170 51 53] (cn 54 (rg [oV 2 kf] .ret) .skip)))) (.reg [oZ 55 46 1,oM 46 55]))))))) (.seq (rg [oF 56 4 1,oL 57 56,oN 58 57,oV 59 (ki 0)] (.blk 2 (.lop (rg [oB 60 .lss 59 58] (.seq (cn 60 .skip (.ext 2)) (.seq (.blk 3 (rg [oM 61 59,oI 62 2 57 59,oW 63 2 62,o 6 (.new [z0,z0]),oM 5 61,oS 2 6 63] (dw [oF 64 0 1,oL 65 64,oW 66 2 6,oD 67 170 65 66,oU 68 67,oM 69 68,vM 70 69 5,vE 71 69 .gtr 70 0,vM 72 69 71,jF 73 72 4 1,jL 74 72 73,jM 75 72 5,jE 76 72 .sub 75 1,jI 77 72 2 74 76,jW 78 72 2 77,jW 79 72 2 6] [jD 80 72 306 78 79,jE 81 72 .geq 80 0,og 82 69 false (.pick (.t 72) (.t 81) kf),oP 83 69 82] (cn 83 (rg [oV 2 kf] .ret) .skip)))) (.reg [oZ 84 59 1,oM 59 84]))))))) (.seq (rg [oF 85 5 1,oL 86 85,oN 87 86,oV 88 (ki 0)] (.blk 4 (.lop (rg [oB 89 .lss 88 87] (.seq (cn 89 .skip (.ext 4)) (.seq (.blk 5 (rg [oI 90 8 86 88,oW 91 8 90,o 8 (.new [s0,z0,z0,z0,z0,z0,z0,(.bool false)]),oS 8 8 91] (rg [oF 92 4 8,oW 93 2 92,o 94 (.build [z0,z0] []),o 95 (.eqs true [.i .i64,.i .i64] (.t 93) (.t 94)),oM 96 95,jF 97 96 4 8,jW 98 96 2 97,jC 99 96 272 98,jU 100 96 99,oQ 101 96 100] (cn 101 (rg [oV 2 kf] .ret) .skip)))) (.reg [oZ 102 88 1,oM 88 102]))))))) (rg [oV 2 kt] .ret))))))⟩
theorem A64:A6 Tryz.prog Xh=some Xi:=by kernel_rfl
abbrev Xj:Nat:=304
def Xk:Fn1:=⟨36,[.t 2],(rg [oV 2 kf] (.seq (rg [oV 3 (ki 0)] (.blk 0 (.lop (.seq (rg [oM 4 3,oM 5 0,oN 6 5,oB 7 .lss 4 6] (cn 7 .skip (.ext 0))) (.seq (.blk 1 (dw [oM 10 0,oM 11 3,oI 12 2 10 11,oW 13 2 12,oC 14 168 13,oU 15 14,oM 16 15,vM 17 16 3,vE 18 16 .gtr 17 0,vM 19 16 18,jM 20 19 0,jM 21 19 3,jE 22 19 .sub 21 1,jI 23 19 2 20 22,jW 24 19 2 23,jM 25 19 0,jM 26 19 3,jI 27 19 2 25 26,jW 28 19 2 27] [jD 29 19 362 24 28,jU 30 19 29,og 31 16 false (.pick (.t 19) (.t 30) kf),oP 32 16 31] (cn 32 (rg [oV 2 kf] .ret) .skip))) (.reg [oM 8 3,oZ 9 8 1,oM 3 9])))))) (rg [oM 33 0,oN 34 33,oE 35 .leq 34 120,oM 2 35] .ret)))⟩
theorem A65:A6 Tryz.prog Xj=some Xk:=by kernel_rfl
abbrev Xl:Nat:=219
def Xm:Fn1:=⟨97,[.t 2],(rg [oX 1 0,oV 2 kf] (.seq (rg [oF 6 0 1,oL 7 6,oF 8 1 1,oL 9 8,oD 10 178 7 9,oU 11 10,oM 12 11,vF 13 12 2 1,vL 14 12 13,vC 15 12 290 14,vU 16 12 15,oP 17 12 16,oM 18 17,vF 19 18 3 1,vL 20 18 19,vC 21 18 291 20,vU 22 18 21,oP 23 18 22,oM 24 23,vF 25 24 5 1,vL 26 24 25,vC 27 24 292 26,vU 28 24 27,oP 29 24 28,oM 30 29,vF 31 30 4 1,vL 32 30 31,vC 33 30 304 32,vU 34 30 33,oP 35 30 34] (cn 35 (rg [oV 2 kf] .ret) .skip)) (.seq (rg [oV 3 (ki 0)] (.blk 0 (.lop (.seq (rg [oM 36 3,oF 37 3 1,oL 38 37,oN 39 38,oB 40 .lss 36 39] (cn 40 .skip (.ext 0))) (.seq (.blk 1 (dw [oF 43 1 1,oL 44 43,oF 45 3 1,oL 46 45,oM 47 3,oI 48 6 46 47,oF 49 4 48,oW 50 2 49,oD 51 45 44 50,oU 52 51,oM 53 52,vF 54 53 0 1,vL 55 53 54,vF 56 53 3 1,vL 57 53 56,vM 58 53 3,vI 59 53 6 57 58,vF 60 53 4 59,vW 61 53 2 60] [vD 62 53 45 55 61,oP 63 53 62] (cn 63 (rg [oV 2 kf] .ret) .skip))) (.reg [oM 41 3,oZ 42 41 1,oM 3 42])))))) (.seq (rg [oV 4 (ki 0)] (.blk 2 (.lop (.seq (rg [oM 64 4,oF 65 4 1,oL 66 65,oN 67 66,oB 68 .lss 64 67] (cn 68 .skip (.ext 2))) (.seq (.blk 3 (dw [oF 71 0 1,oL 72 71,oF 73 4 1,oL 74 73,oM 75 4,oI 76 2 74 75,oW 77 2 76] [oD 78 45 72 77,oU 79 78] (cn 79 (rg [oV 2 kf] .ret) .skip))) (.reg [oM 69 4,oZ 70 69 1,oM 4 70])))))) (.seq (rg [oV 5 (ki 0)] (.blk 4 (.lop (.seq (rg [oM 80 5,oF 81 5 1,oL 82 81,oN 83 82,oB 84 .lss 80 83] (cn 84 .skip (.ext 4))) (.seq (.blk 5 (dw [oF 87 1 1,oL 88 87,oF 89 5 1,oL 90 89,oM 91 5,oI 92 8 90 91,oF 93 1 92,oW 94 2 93] [oD 95 45 88 94,oU 96 95] (cn 96 (rg [oV 2 kf] .ret) .skip))) (.reg [oM 85 5,oZ 86 85 1,oM 5 86])))))) (rg [oV 2 kt] .ret))))))⟩
theorem A66:A6 Tryz.prog Xl=some Xm:=by kernel_rfl
def newL (k:List Int) (l:List Live) (i:Nat):Bool:=onI l i fun x=> !Ax k x.dot
def A92 (k:List Int) (l:List Dot) (i:Nat):Bool:=onI l i (Ax k)&&upI Bj l i
def dotP (l:List Dot) (i:Nat):Bool:=onI l i G7&&upI Bj l i
def Xn (l:List Dot):Bool:=allR l.length (dotP l)&&decide (l.length<=120)
def refP (l:List Cell) (i:Nat):Bool:=onI l i refD
def Ca (d:Delta):Bool:=Gn d.base d.know&&(Dp d.tallies&&(Ig d.lives d.know&&(Gv d.cells d.know&&(decide (d.dead.length<=120)&&(allR d.lives.length (newL d.base d.lives)&&(allR d.dead.length (A92 d.base d.dead)&&allR d.cells.length (refP d.cells)))))))
def midL (k b:List Int) (l:List Live) (i:Nat):Bool:=onI l i fun x=>Ax k x.dot&& !Ax b x.dot
def D9 (d:Delta):Bool:=Gn d.base d.know&&(Dp d.tallies&&(A53 d.lives&&(A54 d.cells&&(Xn d.dead&&(allR d.lives.length (midL d.know d.base d.lives)&&(allR d.dead.length (fun i=>onI d.dead i (Ax d.base))&&allR d.cells.length (fun i=>onI d.cells i fun x=>Ax d.know x.dot)))))))
theorem Ai6 {α:Type} (l:List α) (i:Nat) (p q:α->Bool):(onI l i fun x=>p x&&q x)=(onI l i p&&onI l i q):=by
 unfold onI
 cases l[i]? <;>rfl
theorem A93 {α:Type} {l:List α} {i:Nat} {p q:α->Bool} (h:∀ x,p x=true->q x=true) (hp:onI l i p=true):onI l i q=true:=by
 unfold onI at*
 cases hl:l[i]? with
 |none=>rfl
 |some x=>rw[hl] at hp;exact h x hp
theorem A94 (d:Delta):D9 d=Ca d:=by
 rw[Zaz]
 simp only[D9,Ca,A53,Ig,A54,Gv,Xn,Zad,Bl,A82,livP,A83,celP,dotP,A92,midL,newL,refP,Ai6,decide_eq_true_eq]
 constructor
 ·rintro⟨h1,h2,⟨h3,h3'⟩,⟨h4,h4'⟩,⟨h5,h5'⟩,h6,h7,h8⟩
  exact⟨h1,h2,⟨fun i hi=>⟨(h6 i hi).1,(h3 i hi).2⟩,h3'⟩,⟨fun i hi=>⟨h8 i hi,(h4 i hi).2.1,(h4 i hi).2.2.2⟩,h4'⟩,h5',fun i hi=>(h6 i hi).2,fun i hi=>⟨h7 i hi,(h5 i hi).2⟩,fun i hi=>(h4 i hi).2.2.1⟩
 ·rintro⟨h1,h2,⟨h3,h3'⟩,⟨h4,h4'⟩,h5,h6,h7,h8⟩
  exact⟨h1,h2,⟨fun i hi=>⟨A93 (fun x=>I1) (h3 i hi).1,(h3 i hi).2⟩,h3'⟩,⟨fun i hi=>⟨A93 (fun x=>I1) (h4 i hi).1,(h4 i hi).2.1,h8 i hi,(h4 i hi).2.2⟩,h4'⟩,⟨fun i hi=>⟨A93 (fun x=>I1) (h7 i hi).1,(h7 i hi).2⟩,h5⟩,fun i hi=>⟨(h3 i hi).1,h6 i hi⟩,fun i hi=>(h7 i hi).1,fun i hi=>(h4 i hi).1⟩
theorem Kp {d:Delta} {n:Nat} (h:Ay d<=n):d.base.length<=n/\d.know.length<=n/\d.tallies.length<=n/\d.lives.length<=n/\d.dead.length<=n/\d.cells.length<=n/\(∀ x∈d.tallies,x.obj.size<=n)/\(∀ x∈d.lives,x.obj.size<=n/\x.key.size<=n)/\∀ x∈d.cells,x.obj.size<=n:=by
 unfold Ay at h
 refine⟨by omega,by omega,by omega,by omega,by omega,by omega,fun x hx=> ?_,fun x hx=> ?_,fun x hx=> ?_⟩
 ·have:x.obj.size<=sumL Bv d.tallies:=Gj (f:=Bv) hx
  omega
 ·have:x.obj.size+x.key.size<=sumL F0 d.lives:=Gj (f:=F0) hx
  omega
 ·have:x.obj.size<=sumL F1 d.cells:=Gj (f:=F1) hx
  omega
theorem A39 (σ:St) (cs:List GV) (d:Delta) (hR:B9.R σ d cs) (hl:Ay d<=1099511627776):Ret Tryz.prog Xh [.agg cs] σ (.bool (Ca d)) σ:=by
 obtain⟨v0,v1,v2,v3,v4,v5,rfl,q0,q1,q2,q3,q4,q5⟩:=hR
 obtain⟨l0,l1,l2,l3,l4,l5,t2,t3,t5⟩:=Kp hl
 refine E5 A64 (Z0z rfl) trivial ?_
 simp +contextual (disch:=omega) only[go_sem,Xi]
 intro n f τ H
 have S:=H.sub
 refine by_b H (A5a _ v0 v1 _ _ (q0.pre S) (q1.pre S) l0 l1) (fun h1=> ?_) (fun h1=> ?_)
 rotate_left
 ·simp +contextual (disch:=omega) only[go_sem]
  simp[Ca,h1]
 simp +contextual (disch:=omega) only[go_sem]
 refine by_b H (Lw _ v2 _ (q2.pre S) l2 t2) (fun h2=> ?_) (fun h2=> ?_)
 rotate_left
 ·simp +contextual (disch:=omega) only[go_sem]
  simp[Ca,h2]
 simp +contextual (disch:=omega) only[go_sem]
 refine by_b H (Pc _ v3 _ (q3.pre S) v1 _ (q1.pre S) l1 l3 t3) (fun h3=> ?_) (fun h3=> ?_)
 rotate_left
 ·simp +contextual (disch:=omega) only[go_sem]
  simp[Ca,h3]
 simp +contextual (disch:=omega) only[go_sem]
 refine by_b H (Pd _ v5 _ (q5.pre S) v1 _ (q1.pre S) l1 l5 t5) (fun h4=> ?_) (fun h4=> ?_)
 rotate_left
 ·simp +contextual (disch:=omega) only[go_sem]
  simp[Ca,h4]
 cases h5:decide (120<d.dead.length) with
 |true=>
  simp +contextual (disch:=omega) only[go_sem,q4.len,Rk,h5]
  have h5':=of_decide_eq_true h5
  have:decide (d.dead.length<=120)=false:=decide_eq_false (by omega)
  simp[Ca,this]
 |false=>
 have h5':d.dead.length<=120:=by have:=of_decide_eq_false h5;omega
 simp +contextual (disch:=omega) only[go_sem,q3.len,q4.len,Rk,h5]
 refine Bu d.lives.length 46 0 (fun i env h=>env 1= .ptr n 0/\env 44=v3/\env 45=gi d.lives.length/\(∀ j,j<i->newL d.base d.lives j=true)/\h=[.box 1 n [v0,v1,v2,v3,v4,v5]]) (fun env h=>env 1= .ptr n 0/\allR d.lives.length (newL d.base d.lives)=true/\h=[.box 1 n [v0,v1,v2,v3,v4,v5]]) (fun env h=>env 2= .bool (Ca d)) _ H (by simp +contextual (disch:=omega) only[go_sem]) ⟨by simp +contextual (disch:=omega) only[go_sem],by simp +contextual (disch:=omega) only[go_sem],by simp +contextual (disch:=omega) only[go_sem],fun j hj=>by omega,rfl⟩ ?_ ?_ ?_ ?_
 ·rintro J Y W hJ hY hW i env h τ hi ei c0 H ⟨e1,e44,e45,ha,rfl⟩
  have L1:=A7 q3 hi
  have hat:newL d.base d.lives i= !Ax d.base d.lives[i].dot:=Bn hi
  have no:newL d.base d.lives i=false->Ca d=false:=fun hh=>by simp[Ca,G9 hi hh]
  simp +contextual (disch:=omega) only[go_sem,c0,e1,e44,e45,ei,A0,L1]
  intro m fm τ1 _ τ2 H2
  refine by_b H2 (G8 _ v0 _ _ (q0.pre H2.sub) l0) (fun k1=> ?_) (fun k1=> ?_)
  ·simp +contextual (disch:=omega) only[go_sem]
   exact hW _ _ _ H2 (by simp +contextual (disch:=omega) only[go_sem,no (by rw[hat,k1];rfl)])
  ·simp +contextual (disch:=omega) only[go_sem,e1,e44,e45,ei]
   exact hJ _ _ _ _ (H2.re [1] (by decide)) ⟨by simp +contextual (disch:=omega) only[go_sem,e1],by simp +contextual (disch:=omega) only[go_sem,e44],by simp +contextual (disch:=omega) only[go_sem,e45],C4 ha (by rw[hat,k1];rfl),rfl⟩
 ·rintro Y hY env h τ ei c0 H ⟨e1,e44,e45,ha,rfl⟩
  simp +contextual (disch:=omega) only[go_sem,c0,e45,ei]
  exact hY _ _ _ H ⟨by simp +contextual (disch:=omega) only[go_sem,e1],E7 ha,rfl⟩
 rotate_left
 ·rintro env h τ H e2
  simp +contextual (disch:=omega) only[go_sem,e2]
 clear H S
 rintro env h τ H ⟨e1,h6,rfl⟩
 simp +contextual (disch:=omega) only[go_sem,e1,q4.len]
 refine Bu d.dead.length 59 2 (fun i env h=>env 1= .ptr n 0/\env 57=v4/\env 58=gi d.dead.length/\(∀ j,j<i->A92 d.base d.dead j=true)/\h=[.box 1 n [v0,v1,v2,v3,v4,v5]]) (fun env h=>env 1= .ptr n 0/\allR d.dead.length (A92 d.base d.dead)=true/\h=[.box 1 n [v0,v1,v2,v3,v4,v5]]) (fun env h=>env 2= .bool (Ca d)) _ H (by simp +contextual (disch:=omega) only[go_sem]) ⟨by simp +contextual (disch:=omega) only[go_sem,e1],by simp +contextual (disch:=omega) only[go_sem],by simp +contextual (disch:=omega) only[go_sem],fun j hj=>by omega,rfl⟩ ?_ ?_ ?_ ?_
 ·clear H e1
  rintro J Y W hJ hY hW i env h τ hi ei c0 H ⟨e1,e57,e58,ha,rfl⟩
  have L1:=Ky q4 hi
  have hat:A92 d.base d.dead i=(Ax d.base d.dead[i]&&upI Bj d.dead i):=by simp only[A92,Bn hi]
  have no:A92 d.base d.dead i=false->Ca d=false:=fun hh=>by simp[Ca,G9 hi hh]
  simp +contextual (disch:=omega) only[go_sem,c0,e1,e57,e58,ei,A0,L1]
  intro m fm τ1 _ τ2 H2
  refine by_b H2 (G8 _ v0 _ _ (q0.pre H2.sub) l0) (fun k1=> ?_) (fun k1=> ?_)
  rotate_left
  ·simp +contextual (disch:=omega) only[go_sem]
   exact hW _ _ _ H2 (by simp +contextual (disch:=omega) only[go_sem,no (by rw[hat,k1];rfl)])
  rcases Za7 i with hz|hz
  ·subst hz
   simp +contextual (disch:=omega) only[go_sem,Zbh,decide_false,Int.lt_irrefl,e1,e57,e58,ei]
   exact hJ _ _ _ _ (H2.re [1] (by decide)) ⟨by simp +contextual (disch:=omega) only[go_sem,e1],by simp +contextual (disch:=omega) only[go_sem,e57],by simp +contextual (disch:=omega) only[go_sem,e58],C4 ha (by rw[hat,k1];rfl),rfl⟩
  ·have c1:decide ((0:Int)<i)=true:=by simp;omega
   have hj:i - 1<d.dead.length:=by omega
   have hu:=Jh (lt:=Bj) (by omega) hi hj
   simp +contextual (disch:=omega) only[go_sem,c1,sub1 hz,Ky q4 hj,e1,e57,e58,ei]
   refine by_r H2 (Dd _ d.dead[i-1] d.dead[i]) ?_
   cases ho:Bj d.dead[i-1] d.dead[i] with
   |true=>
    simp +contextual (disch:=omega) only[go_sem,Lq,ho,e1,e57,e58,ei]
    exact hJ _ _ _ _ (H2.re [1] (by decide)) ⟨by simp +contextual (disch:=omega) only[go_sem,e1],by simp +contextual (disch:=omega) only[go_sem,e57],by simp +contextual (disch:=omega) only[go_sem,e58],C4 ha (by rw[hat,k1,hu,ho];rfl),rfl⟩
   |false=>
    simp +contextual (disch:=omega) only[go_sem,Lq,ho]
    exact hW _ _ _ H2 (by simp +contextual (disch:=omega) only[go_sem,no (by rw[hat,k1,hu,ho];rfl)])
 ·clear H e1
  rintro Y hY env h τ ei c0 H ⟨e1,e57,e58,ha,rfl⟩
  simp +contextual (disch:=omega) only[go_sem,c0,e58,ei]
  exact hY _ _ _ H ⟨by simp +contextual (disch:=omega) only[go_sem,e1],E7 ha,rfl⟩
 rotate_left
 ·rintro env h τ H e2
  simp +contextual (disch:=omega) only[go_sem,e2]
 clear H e1
 rintro env h τ H ⟨e1,h7,rfl⟩
 simp +contextual (disch:=omega) only[go_sem,e1,q5.len]
 refine Bu d.cells.length 88 4 (fun i env h=>env 86=v5/\env 87=gi d.cells.length/\(∀ j,j<i->refP d.cells j=true)/\h=[]) (fun env h=>allR d.cells.length (refP d.cells)=true/\h=[]) (fun env h=>env 2= .bool (Ca d)) _ (H.re [] (by decide)) (by simp +contextual (disch:=omega) only[go_sem]) ⟨by simp +contextual (disch:=omega) only[go_sem],by simp +contextual (disch:=omega) only[go_sem],fun j hj=>by omega,rfl⟩ ?_ ?_ ?_ ?_
 ·clear H e1
  rintro J Y W hJ hY hW i env h τ hi ei c0 H ⟨e86,e87,ha,rfl⟩
  have L1:=A8 q5 hi
  have hat:refP d.cells i=(decide (d.cells[i].ref=⟨0,0⟩)||G7 d.cells[i].ref):=Bn hi
  have no:refP d.cells i=false->Ca d=false:=fun hh=>by simp[Ca,G9 hi hh]
  cases k0:decide (d.cells[i].ref=⟨0,0⟩) with
  |true=>
   simp +contextual (disch:=omega) only[go_sem,c0,e86,e87,ei,A0,L1,k0]
   intro m fm τ1 _ τ2 H2
   exact hJ _ _ _ _ (H2.re [] (by decide)) ⟨by simp +contextual (disch:=omega) only[go_sem,e86],by simp +contextual (disch:=omega) only[go_sem,e87],C4 ha (by rw[hat,k0];rfl),rfl⟩
  |false=>
   simp +contextual (disch:=omega) only[go_sem,c0,e86,e87,ei,A0,L1,k0]
   intro m fm τ1 _ τ2 H2
   refine by_b H2 (Nv _ d.cells[i].ref) (fun k1=> ?_) (fun k1=> ?_)
   ·simp +contextual (disch:=omega) only[go_sem,e86,e87,ei]
    exact hJ _ _ _ _ (H2.re [] (by decide)) ⟨by simp +contextual (disch:=omega) only[go_sem,e86],by simp +contextual (disch:=omega) only[go_sem,e87],C4 ha (by rw[hat,k0,k1];rfl),rfl⟩
   ·simp +contextual (disch:=omega) only[go_sem]
    exact hW _ _ _ H2 (by simp +contextual (disch:=omega) only[go_sem,no (by rw[hat,k0,k1];rfl)])
 ·clear H e1
  rintro Y hY env h τ ei c0 H ⟨e86,e87,ha,rfl⟩
  simp +contextual (disch:=omega) only[go_sem,c0,e87,ei]
  exact hY _ _ _ H ⟨E7 ha,rfl⟩
 ·clear H e1
  rintro env h τ H ⟨h8,rfl⟩
  simp +contextual (disch:=omega) only[go_sem]
  exact fun _=>by simp[Ca,h1,h2,h3,h4,h5',h6,h7,h8]
 ·rintro env h τ H e2
  simp +contextual (disch:=omega) only[go_sem,e2]
theorem A3a (σ:St) (v:GV) (l:List Dot) (h:RS pDot.kd σ v l) (hl:l.length<=1099511627776):Ret Tryz.prog Xj [v] σ (.bool (Xn l)) σ:=by
 refine E5 A65 (Z0z rfl) trivial ?_
 simp +contextual (disch:=omega) only[go_sem,Xk]
 refine Bu l.length 3 0 (fun i env h=>env 0=v/\(∀ j,j<i->dotP l j=true)/\h=[]) (fun env h=>env 0=v/\allR l.length (dotP l)=true/\h=[]) (fun env h=>env 2= .bool (Xn l)) _ (Hx.refl σ) (by simp +contextual (disch:=omega) only[go_sem]) ⟨by simp +contextual (disch:=omega) only[go_sem],fun j hj=>by omega,rfl⟩ ?_ ?_ ?_ ?_
 ·rintro J Y W hJ hY hW i env h τ hi ei c0 H ⟨e0,ha,rfl⟩
  have L1:=Ky h hi
  have hat:dotP l i=(G7 l[i]&&upI Bj l i):=by simp only[dotP,Bn hi]
  have no:dotP l i=false->Xn l=false:=fun hh=>by simp[Xn,G9 hi hh]
  simp +contextual (disch:=omega) only[go_sem,c0,e0,ei,A0,L1,h.len]
  refine by_b H (Et _ l[i]) (fun k1=> ?_) (fun k1=> ?_)
  rotate_left
  ·simp +contextual (disch:=omega) only[go_sem]
   exact hW _ _ _ H (by simp +contextual (disch:=omega) only[go_sem,no (by rw[hat,k1];rfl)])
  rcases Za7 i with hz|hz
  ·subst hz
   simp +contextual (disch:=omega) only[go_sem,Zbh,decide_false,Int.lt_irrefl,e0,ei]
   exact hJ _ _ _ _ H ⟨by simp +contextual (disch:=omega) only[go_sem,e0],C4 ha (by rw[hat,k1];rfl),rfl⟩
  ·have c1:decide ((0:Int)<i)=true:=by simp;omega
   have hj:i - 1<l.length:=by omega
   have hu:=Jh (lt:=Bj) (by omega) hi hj
   simp +contextual (disch:=omega) only[go_sem,c1,sub1 hz,Ky h hj,L1,A0,e0,ei]
   refine by_r H (Co _ l[i-1] l[i]) ?_
   cases ho:Bj l[i-1] l[i] with
   |true=>
    simp +contextual (disch:=omega) only[go_sem,e0,ei]
    exact hJ _ _ _ _ H ⟨by simp +contextual (disch:=omega) only[go_sem,e0],C4 ha (by rw[hat,k1,hu,ho];rfl),rfl⟩
   |false=>
    simp +contextual (disch:=omega) only[go_sem]
    exact hW _ _ _ H (by simp +contextual (disch:=omega) only[go_sem,no (by rw[hat,k1,hu,ho];rfl)])
 ·rintro Y hY env h τ ei c0 H ⟨e0,ha,rfl⟩
  simp +contextual (disch:=omega) only[go_sem,c0,e0,ei,h.len]
  exact hY _ _ _ H ⟨by simp +contextual (disch:=omega) only[go_sem,e0],E7 ha,rfl⟩
 ·rintro env h τ H ⟨e0,ha,rfl⟩
  simp +contextual (disch:=omega) only[go_sem,e0,h.len]
  have:decide ((l.length:Int)<=120)=decide (l.length<=120):=by rw[decide_eq_decide];omega
  exact fun _=>by simp[Xn,ha,this]
 ·rintro env h τ H e2
  simp +contextual (disch:=omega) only[go_sem,e2]
theorem A3b (σ:St) (cs:List GV) (d:Delta) (hR:B9.R σ d cs) (hl:Ay d<=1099511627776):Ret Tryz.prog Xl [.agg cs] σ (.bool (Ca d)) σ:=by
 rw[<- A94]
 obtain⟨v0,v1,v2,v3,v4,v5,rfl,q0,q1,q2,q3,q4,q5⟩:=hR
 obtain⟨l0,l1,l2,l3,l4,l5,t2,t3,t5⟩:=Kp hl
 refine E5 A66 (Z0z rfl) trivial ?_
 simp +contextual (disch:=omega) only[go_sem,Xm]
 intro n f τ H
 have S:=H.sub
 refine by_b H (T6 _ v0 v1 _ _ (q0.pre S) (q1.pre S) l0 l1) (fun h1=> ?_) (fun h1=> ?_)
 rotate_left
 ·simp +contextual (disch:=omega) only[go_sem]
  simp[D9,h1]
 simp +contextual (disch:=omega) only[go_sem]
 refine by_b H (Kz _ v2 _ (q2.pre S) l2 t2) (fun h2=> ?_) (fun h2=> ?_)
 rotate_left
 ·simp +contextual (disch:=omega) only[go_sem]
  simp[D9,h2]
 simp +contextual (disch:=omega) only[go_sem]
 refine by_b H (Na _ v3 _ (q3.pre S) l3 t3) (fun h3=> ?_) (fun h3=> ?_)
 rotate_left
 ·simp +contextual (disch:=omega) only[go_sem]
  simp[D9,h3]
 simp +contextual (disch:=omega) only[go_sem]
 refine by_b H (Nb _ v5 _ (q5.pre S) l5 t5) (fun h4=> ?_) (fun h4=> ?_)
 rotate_left
 ·simp +contextual (disch:=omega) only[go_sem]
  simp[D9,h4]
 simp +contextual (disch:=omega) only[go_sem]
 refine by_b H (A3a _ v4 _ (q4.pre S) l4) (fun h5=> ?_) (fun h5=> ?_)
 rotate_left
 ·simp +contextual (disch:=omega) only[go_sem]
  simp[D9,h5]
 simp +contextual (disch:=omega) only[go_sem]
 refine Bu d.lives.length 3 0 (fun i env h=>env 1= .ptr n 0/\(∀ j,j<i->midL d.know d.base d.lives j=true)/\h=[.box 1 n [v0,v1,v2,v3,v4,v5]]) (fun env h=>env 1= .ptr n 0/\allR d.lives.length (midL d.know d.base d.lives)=true/\h=[.box 1 n [v0,v1,v2,v3,v4,v5]]) (fun env h=>env 2= .bool (D9 d)) _ H (by simp +contextual (disch:=omega) only[go_sem]) ⟨by simp +contextual (disch:=omega) only[go_sem],fun j hj=>by omega,rfl⟩ ?_ ?_ ?_ ?_
 ·rintro J Y W hJ hY hW i env h τ hi ei c0 H ⟨e1,ha,rfl⟩
  have L1:=A7 q3 hi
  have hat:midL d.know d.base d.lives i=(Ax d.know d.lives[i].dot&& !Ax d.base d.lives[i].dot):=Bn hi
  have no:midL d.know d.base d.lives i=false->D9 d=false:=fun hh=>by simp[D9,G9 hi hh]
  simp +contextual (disch:=omega) only[go_sem,c0,e1,ei,A0,L1,q3.len]
  refine by_b H (Bt _ v1 _ _ (q1.pre H.sub) l1) (fun k1=> ?_) (fun k1=> ?_)
  rotate_left
  ·simp +contextual (disch:=omega) only[go_sem]
   exact hW _ _ _ H (by simp +contextual (disch:=omega) only[go_sem,no (by rw[hat,k1];rfl)])
  simp +contextual (disch:=omega) only[go_sem,e1,ei,A0,L1]
  refine by_b H (Bt _ v0 _ _ (q0.pre H.sub) l0) (fun k2=> ?_) (fun k2=> ?_)
  ·simp +contextual (disch:=omega) only[go_sem]
   exact hW _ _ _ H (by simp +contextual (disch:=omega) only[go_sem,no (by rw[hat,k1,k2];rfl)])
  ·simp +contextual (disch:=omega) only[go_sem,e1,ei]
   exact hJ _ _ _ _ H ⟨by simp +contextual (disch:=omega) only[go_sem,e1],C4 ha (by rw[hat,k1,k2];rfl),rfl⟩
 ·rintro Y hY env h τ ei c0 H ⟨e1,ha,rfl⟩
  simp +contextual (disch:=omega) only[go_sem,c0,e1,ei,q3.len]
  exact hY _ _ _ H ⟨by simp +contextual (disch:=omega) only[go_sem,e1],E7 ha,rfl⟩
 rotate_left
 ·rintro env h τ H e2
  simp +contextual (disch:=omega) only[go_sem,e2]
 clear H S
 rintro env h τ H ⟨e1,h6,rfl⟩
 simp +contextual (disch:=omega) only[go_sem,e1]
 refine Bu d.dead.length 4 2 (fun i env h=>env 1= .ptr n 0/\(∀ j,j<i->onI d.dead j (Ax d.base)=true)/\h=[.box 1 n [v0,v1,v2,v3,v4,v5]]) (fun env h=>env 1= .ptr n 0/\allR d.dead.length (fun j=>onI d.dead j (Ax d.base))=true/\h=[.box 1 n [v0,v1,v2,v3,v4,v5]]) (fun env h=>env 2= .bool (D9 d)) _ H (by simp +contextual (disch:=omega) only[go_sem]) ⟨by simp +contextual (disch:=omega) only[go_sem,e1],fun j hj=>by omega,rfl⟩ ?_ ?_ ?_ ?_
 ·clear H e1
  rintro J Y W hJ hY hW i env h τ hi ei c0 H ⟨e1,ha,rfl⟩
  have L1:=Ky q4 hi
  have hat:onI d.dead i (Ax d.base)=Ax d.base d.dead[i]:=Bn hi
  have no:onI d.dead i (Ax d.base)=false->D9 d=false:=fun hh=>by simp[D9,G9 (p:=fun j=>onI d.dead j (Ax d.base)) hi hh]
  simp +contextual (disch:=omega) only[go_sem,c0,e1,ei,A0,L1,q4.len]
  refine by_b H (Bt _ v0 _ _ (q0.pre H.sub) l0) (fun k1=> ?_) (fun k1=> ?_)
  ·simp +contextual (disch:=omega) only[go_sem,e1,ei]
   exact hJ _ _ _ _ H ⟨by simp +contextual (disch:=omega) only[go_sem,e1],C4 ha (by rw[hat,k1]),rfl⟩
  ·simp +contextual (disch:=omega) only[go_sem]
   exact hW _ _ _ H (by simp +contextual (disch:=omega) only[go_sem,no (by rw[hat,k1])])
 ·clear H e1
  rintro Y hY env h τ ei c0 H ⟨e1,ha,rfl⟩
  simp +contextual (disch:=omega) only[go_sem,c0,e1,ei,q4.len]
  exact hY _ _ _ H ⟨by simp +contextual (disch:=omega) only[go_sem,e1],E7 ha,rfl⟩
 rotate_left
 ·rintro env h τ H e2
  simp +contextual (disch:=omega) only[go_sem,e2]
 clear H e1
 rintro env h τ H ⟨e1,h7,rfl⟩
 simp +contextual (disch:=omega) only[go_sem,e1]
 refine Bu d.cells.length 5 4 (fun i env h=>env 1= .ptr n 0/\(∀ j,j<i->(onI d.cells j fun x=>Ax d.know x.dot)=true)/\h=[.box 1 n [v0,v1,v2,v3,v4,v5]]) (fun env h=>allR d.cells.length (fun j=>onI d.cells j fun x=>Ax d.know x.dot)=true) (fun env h=>env 2= .bool (D9 d)) _ H (by simp +contextual (disch:=omega) only[go_sem]) ⟨by simp +contextual (disch:=omega) only[go_sem,e1],fun j hj=>by omega,rfl⟩ ?_ ?_ ?_ ?_
 ·clear H e1
  rintro J Y W hJ hY hW i env h τ hi ei c0 H ⟨e1,ha,rfl⟩
  have L1:=A8 q5 hi
  have hat:(onI d.cells i fun x=>Ax d.know x.dot)=Ax d.know d.cells[i].dot:=Bn hi
  have no:(onI d.cells i fun x=>Ax d.know x.dot)=false->D9 d=false:=fun hh=>by simp[D9,G9 (p:=fun j=>onI d.cells j fun x=>Ax d.know x.dot) hi hh]
  simp +contextual (disch:=omega) only[go_sem,c0,e1,ei,A0,L1,q5.len]
  refine by_b H (Bt _ v1 _ _ (q1.pre H.sub) l1) (fun k1=> ?_) (fun k1=> ?_)
  ·simp +contextual (disch:=omega) only[go_sem,e1,ei]
   exact hJ _ _ _ _ H ⟨by simp +contextual (disch:=omega) only[go_sem,e1],C4 ha (by rw[hat,k1]),rfl⟩
  ·simp +contextual (disch:=omega) only[go_sem]
   exact hW _ _ _ H (by simp +contextual (disch:=omega) only[go_sem,no (by rw[hat,k1])])
 ·clear H e1
  rintro Y hY env h τ ei c0 H ⟨e1,ha,rfl⟩
  simp +contextual (disch:=omega) only[go_sem,c0,e1,ei,q5.len]
  exact hY _ _ _ H (E7 ha)
 ·clear H e1
  rintro env h τ H h8
  simp +contextual (disch:=omega) only[go_sem]
  exact fun _=>by simp[D9,h1,h2,h3,h4,h5,h6,h7,h8]
 ·rintro env h τ H e2
  simp +contextual (disch:=omega) only[go_sem,e2]
abbrev A14:Nat:=234
def A15:Fn1:=⟨18,[.t 4],(rg [oX 3 1,oV 4 kf] (.seq (rg [oV 5 (ki 0)] (.blk 0 (.lop (.seq (rg [oM 6 5,oM 7 0,oN 8 7,oB 9 .lss 6 8] (cn 9 .skip (.ext 0))) (.seq (.blk 1 (dw [oM 12 0,oM 13 5,oI 14 6 12 13,oW 15 6 14,oW 16 6 3] [o 17 (.eqs false [.b,.s,.s,.i .i64,.i .i64,.i .i64] (.t 15) (.t 16))] (cn 17 (rg [oV 4 kt] .ret) .skip))) (.reg [oM 10 5,oZ 11 10 1,oM 5 11])))))) (rg [oV 4 kf] .ret)))⟩
theorem A95:A6 Tryz.prog A14=some A15:=by kernel_rfl
theorem Afh {α:Type} {l:List α} {x:α} (h:∀ j (hj:j<l.length),l[j]≠x):x∉l:=fun hx=>by
 obtain⟨i,hi,e⟩:=Zap hx
 exact h i hi e
theorem Ai7 {α:Type} {l:List α} {x:α} {i:Nat} (hi:i<l.length) (ha:∀ j (hj:j<l.length),j<i->l[j]≠x) (h:l[i]≠x):∀ j (hj:j<l.length),j<i+1->l[j]≠x:=fun j hj hji=>by
 rcases Nat.lt_or_ge j i with h1|h1
 ·exact ha j hj h1
 ·have:j=i:=by omega
  subst this;exact h
theorem Ts (σ:St) (v:GV) (l:List Live) (h:RS As.kd σ v l) (x:Live) (hl:l.length<=1099511627776):Ret Tryz.prog A14 [v,.agg (A5n x)] σ (.bool (decide (x∈l))) σ:=by
 refine E5 A95 (Z0z rfl) trivial ?_
 simp +contextual (disch:=omega) only[go_sem,A15]
 intro n f τ H
 refine Bu l.length 5 0 (fun i env h=>env 0=v/\env 3= .ptr n 0/\(∀ j (hj:j<l.length),j<i->l[j]≠x)/\h=[.box 1 n (A5n x)]) (fun env h=>x∉l) (fun env h=>env 4= .bool true/\x∈l) _ H (by simp +contextual (disch:=omega) only[go_sem]) ⟨by simp +contextual (disch:=omega) only[go_sem],by simp +contextual (disch:=omega) only[go_sem],fun j hj hh=>by omega,rfl⟩ ?_ ?_ ?_ ?_
 ·rintro J Y W hJ hY hW i env h' τ hi ei c0 H ⟨e0,e3,ha,rfl⟩
  have L1:=A7 h hi
  by_cases hx:l[i]=x
  ·have b:decide (l[i]=x)=true:=decide_eq_true hx
   simp +contextual (disch:=omega) only[go_sem,c0,e0,e3,ei,A0,L1,h.len,b]
   exact hW _ _ _ H ⟨by simp +contextual (disch:=omega) only[go_sem],by rw[<- hx];exact Zaj hi⟩
  ·have b:decide (l[i]=x)=false:=decide_eq_false hx
   simp +contextual (disch:=omega) only[go_sem,c0,e0,e3,ei,A0,L1,h.len,b]
   exact hJ _ _ _ _ H ⟨by simp +contextual (disch:=omega) only[go_sem,e0],by simp +contextual (disch:=omega) only[go_sem,e3],Ai7 hi ha hx,rfl⟩
 ·rintro Y hY env h' τ ei c0 H ⟨e0,e3,ha,rfl⟩
  simp +contextual (disch:=omega) only[go_sem,c0,e0,ei,h.len]
  exact hY _ _ _ H (Afh fun j hj=>ha j hj hj)
 ·rintro env h' τ H hx
  simp +contextual (disch:=omega) only[go_sem,hx,decide_false]
 ·rintro env h' τ H ⟨e4,hx⟩
  simp +contextual (disch:=omega) only[go_sem,e4,hx,decide_true]
theorem nd_ix {α β:Type} {f:α->β} {l:List α} (h:(l.map f).Nodup) {i j:Nat} (hi:i<l.length) (hj:j<l.length) (e:f l[i]=f l[j]):i=j:=by
 have hp:=List.pairwise_iff_getElem.1 h
 rcases Nat.lt_trichotomy i j with h1|h1|h1
 ·exact absurd (by rw[Zao,Zao];exact e) (hp i j (by simpa using hi) (by simpa using hj) h1)
 ·exact h1
 ·exact absurd (by rw[Zao,Zao];exact e.symm) (hp j i (by simpa using hj) (by simpa using hi) h1)
section
variable {α:Type} {lt:α->α->Bool}
theorem Agk (h:Go.Sort.SWO lt):∀ {l:List α},l.Pairwise (fun a b=>lt a b=true)->∀ x∈l,∀ y∈l,lt x y=false->lt y x=false->x=y
 |[],_,x,hx,_,_,_,_=>by simp at hx
 |a::l,hp,x,hx,y,hy,h1,h2=>by
  obtain⟨p1,p2⟩:=List.pairwise_cons.1 hp
  rcases Zaq.1 hx with rfl|hx
  ·rcases Zaq.1 hy with rfl|hy
   ·rfl
   ·rw[p1 y hy] at h1;cases h1
  ·rcases Zaq.1 hy with rfl|hy
   ·rw[p1 x (by assumption)] at h2;cases h2
   ·exact Agk h p2 x hx y hy h1 h2
theorem pw_up (h:Go.Sort.SWO lt) {l:List α} (hp:l.Pairwise fun a b=>lt a b=true):Up lt l:=hp.imp fun h1=>SWO.asym h h1
theorem Q0 (h:Go.Sort.SWO lt) {l:List α} (hp:l.Pairwise fun a b=>lt a b=true):Az lt l=l:=(O3 h (Agk h hp) (.refl _) (pw_up h hp)).symm
theorem Aal {g:α->α} (hg:∀ x y,lt (g x) (g y)=lt x y) (x:α):∀ l:List α,insB lt (g x) (l.map g)=(insB lt x l).map g
 |[]=>rfl
 |k::r=>by
  simp only[Za3,insB,hg]
  split
  ·rfl
  ·rw[Za3,Aal hg x r]
theorem Abp {g:α->α} (hg:∀ x y,lt (g x) (g y)=lt x y):∀ l:List α,Az lt (l.map g)=(Az lt l).map g:=by
 intro l
 have key:∀(l acc:List α),(l.map g).foldl (fun acc x=>insB lt x acc) (acc.map g)=(l.foldl (fun acc x=>insB lt x acc) acc).map g:=by
  intro l
  induction l with
  |nil=>intro acc;rfl
  |cons x l ih=>intro acc;simp only[Za3,Zbg,Aal hg];exact ih _
 exact key l []
theorem A16 {l:List α} {x:α}:x∈Az lt l↔x∈l:=(Bb lt l).mem_iff
end
def tkey (t:Tally):ByteArray×Int:=(t.obj,t.rep)
def L8 (f:Int->Bool) (a b:List Tally):List Tally:=Az Ak (a.filter (fun t=> !f t.rep)++b.filter fun t=>f t.rep)
theorem A17 {l:List Tally} (h:l.Pairwise fun a b=>Ak a b=true):(l.map tkey).Nodup:=by
 rw[List.Nodup,Zbb]
 refine h.imp fun {a b} h1 e=> ?_
 injection e with e1 e2
 rw[T7 e1 e2] at h1;cases h1
theorem Abq {f:Int->Bool} {a b:List Tally} (ha:a.Pairwise fun a b=>Ak a b=true) (hb:b.Pairwise fun a b=>Ak a b=true):((a.filter (fun t=> !f t.rep)++b.filter fun t=>f t.rep).map tkey).Nodup:=by
 rw[Zak,Zam]
 refine⟨A17 (ha.filter _),A17 (hb.filter _),?_⟩
 intro x hx y hy e
 obtain⟨t,ht,rfl⟩:=Zah.1 hx
 obtain⟨u,hu,rfl⟩:=Zah.1 hy
 have h1:=(Zar.1 ht).2
 have h2:=(Zar.1 hu).2
 injection e with _ e2
 rw[e2] at h1;simp only[h2] at h1;cases h1
def putT (acc:List Tally) (t:Tally):List Tally:=G0 acc t.obj t.rep t.sum
theorem Afi {acc:List Tally} {t:Tally} (h:tkey t∉acc.map tkey):putT acc t=insB Ak t acc:=by
 have:acc.findIdx? (Lx t.obj t.rep)=none:=by
  rw[Zan]
  intro x hx
  cases e:Lx t.obj t.rep x with
  |false=>rfl
  |true=>
   have:=A5i.1 e
   exact absurd (Zah.2 ⟨x,hx,by simp[tkey,this.1,this.2]⟩) h
 unfold putT G0
 rw[this]
theorem swo_lv:Go.Sort.SWO Dc:=⟨fun x=>Rf.irrefl _,fun x y z h1 h2=>Rf.trans _ _ _ h1 h2,fun x y z h1 h2=>Rf.ntrans _ _ _ h1 h2⟩
def A67 (b:List Cell) (c:Cell):Cell:={c with gone:=c.gone||b.any fun x=>decide (x.dot=c.dot)&&x.gone}
def Q1 (a:List Cell) (x:Cell):Bool:= !a.any fun c=>decide (c.dot=x.dot)
def Od (a b:List Cell):List Cell:=a.map (A67 b)++b.filter (Q1 a)
def Dh (a b:List Cell):List Cell:=Az Dq (Od a b)
def A3c (out:List Cell) (x:Cell):List Cell:=match Cf out x.dot with
 |none=>Ly x out
 |some k=>if x.gone then out.modify k fun c=>{c with gone:=true} else out
theorem swo_cl:Go.Sort.SWO Dq:=⟨fun x=>Rf.irrefl _,fun x y z h1 h2=>Rf.trans _ _ _ h1 h2,fun x y z h1 h2=>Rf.ntrans _ _ _ h1 h2⟩
theorem Xo {l:List Cell} (h:l.Pairwise fun a b=>Bj a.dot b.dot=true):(l.map (·.dot)).Nodup:=by
 rw[List.Nodup,Zbb]
 refine h.imp fun {a b} h1 e=> ?_
 rw[e,Hy] at h1;cases h1
theorem Rq {a:List Cell} {x:Cell}:Q1 a x=true↔x.dot∉a.map (·.dot):=by
 simp only[Q1,Bool.not_eq_true',List.any_eq_false,decide_eq_true_eq,Zah,not_exists,not_and]
theorem Rr {a b:List Cell}:(Od a b).map (·.dot)=a.map (·.dot)++(b.filter (Q1 a)).map (·.dot):=by
 unfold Od
 rw[Zak,Zbd]
 rfl
theorem Xp {a b:List Cell} (ha:(a.map (·.dot)).Nodup) (hb:(b.map (·.dot)).Nodup):((Od a b).map (·.dot)).Nodup:=by
 rw[Rr,Zam]
 refine⟨ha,?_,?_⟩
 ·exact(List.filter_sublist.map _).nodup hb
 ·intro x hx y hy e
  subst e
  obtain⟨c,hc,e⟩:=Zah.1 hy
  have h1:=Rq.1 (Zar.1 hc).2
  rw[e] at h1
  exact h1 hx
def A96 (x:Cell) (c:Cell):Cell:=if c.dot=x.dot then {c with gone:=c.gone||x.gone} else c
theorem A68 (x c:Cell):(A96 x c).dot=c.dot:=by unfold A96;split<;>rfl
theorem Ae0 {l:List Cell} {d:Dot} (h:d∈l.map (·.dot)):∃ k,Cf l d=some k:=by
 cases e:Cf l d with
 |some k=>exact⟨k,rfl⟩
 |none=>
  unfold Cf at e
  rw[Zan] at e
  obtain⟨c,hc,rfl⟩:=Zah.1 h
  have:=e c hc
  simp at this
theorem A69 {l:List Cell} {d:Dot} (h:d∉l.map (·.dot)):Cf l d=none:=by
 unfold Cf
 rw[Zan]
 intro c hc
 simp only[decide_eq_false_iff_not]
 exact fun e=>h (Zah.2 ⟨c,hc,e⟩)
theorem Afj {l:List Cell} {x:Cell} (hn:(l.map (·.dot)).Nodup) (hx:x.dot∈l.map (·.dot)):A3c l x=l.map (A96 x):=by
 obtain⟨k,hk⟩:=Ae0 hx
 obtain⟨hlt,hd⟩:=C5 hk
 unfold A3c
 rw[hk]
 have hother:∀ j (hj:j<l.length),j≠k->l[j].dot≠x.dot:=fun j hj hne e=>by
  exact hne (nd_ix hn hj hlt (by rw[e,hd]))
 simp only
 refine List.ext_getElem (by split<;>simp) fun j h1 h2=> ?_
 have hj:j<l.length:=by simpa using h2
 rw[Zao]
 unfold A96
 by_cases hg:x.gone
 ·simp only[hg,if_true]
  rw[List.getElem_modify]
  by_cases hjk:k=j
  ·subst hjk
   rw[if_pos rfl,if_pos hd,Bool.or_true]
  ·rw[if_neg hjk,if_neg (hother j hj (Ne.symm hjk))]
 ·have hg:x.gone=false:=by simpa using hg
  simp only[hg,Zas,if_false,Zbi]
  split<;>rfl
theorem A18 {a b:List Cell} {x:Cell} (ha:(a.map (·.dot)).Nodup) (hb:((b++[x]).map (·.dot)).Nodup):A3c (Dh a b) x=Dh a (b++[x]):=by
 have hb0:(b.map (·.dot)).Nodup:=by rw[Zak,Zam] at hb;exact hb.1
 have hxb:x.dot∉b.map (·.dot):=by
  rw[Zak,Zam] at hb
  exact fun h=>hb.2.2 _ h x.dot (by simp) rfl
 have hj:=Xp ha hb0
 have hp:=Bb Dq (Od a b)
 have hn:((Dh a b).map (·.dot)).Nodup:=(hp.map _).nodup_iff.2 hj
 by_cases hxa:x.dot∈a.map (·.dot)
 ·have hin:x.dot∈(Dh a b).map (·.dot):=(hp.map _).mem_iff.2 (by rw[Rr];exact List.mem_append_left _ hxa)
  rw[Afj hn hin]
  unfold Dh
  rw[<- Abp (lt:=Dq) (g:=A96 x) (fun y z=>by unfold Dq;rw[A68,A68])]
  congr 1
  unfold Od
  have hf:Q1 a x=false:=by
   cases e:Q1 a x with
   |false=>rfl
   |true=>exact absurd hxa (Rq.1 e)
  rw[Zak,Zbd,Za8,Zbe,hf]
  simp only[Zas,if_false,Za4,Za5]
  congr 1
  ·refine Zal fun c hc=> ?_
   simp only[Function.comp,A96,A67,List.any_append,List.any_cons,List.any_nil,Zbi]
   by_cases e:c.dot=x.dot
   ·simp[e,Bool.or_assoc]
   ·have e':¬ x.dot=c.dot:=fun h=>e h.symm
    simp[e,e']
  ·refine(Zal fun c hc=> ?_).trans (List.map_id _)
   unfold A96
   rw[if_neg fun e=>hxb (Zah.2 ⟨c,(Zar.1 hc).1,e⟩)];rfl
 ·have hout:x.dot∉(Dh a b).map (·.dot):=fun h=>by
   have:=(hp.map (·.dot)).mem_iff.1 h
   rw[Rr] at this
   rcases Zat.1 this with h1|h1
   ·exact hxa h1
   ·obtain⟨c,hc,e⟩:=Zah.1 h1
    exact hxb (Zah.2 ⟨c,(Zar.1 hc).1,e⟩)
  unfold A3c
  rw[A69 hout]
  have ht:Q1 a x=true:=Rq.2 hxa
  have e:Od a (b++[x])=Od a b++[x]:=by
   unfold Od
   rw[Za8,Zbe,ht]
   simp only[if_true,Za4,<-Za2]
   congr 2
   refine Zal fun c hc=> ?_
   have:¬ x.dot=c.dot:=fun h=>hxa (Zah.2 ⟨c,hc,h.symm⟩)
   simp[A67,this]
  unfold Dh
  rw[e,Kb]
  rfl
theorem Xq {a:List Cell} (ha:a.Pairwise fun a b=>Bj a.dot b.dot=true) {b:List Cell} (hb:(b.map (·.dot)).Nodup):∀ n,n≤b.length->(b.take n).foldl A3c a=Dh a (b.take n)
 |0,_=>by
  have:Od a []=a:=by
   simp only[Od,Za4,Za5]
   refine(Zal fun c _=> ?_).trans (List.map_id _)
   simp[A67]
  simp only[List.take_zero,List.foldl_nil,Dh,this]
  exact(Q0 swo_cl ha).symm
 |n+1,h=>by
  rw[Zaw (by omega),Zbc,Xq ha hb n (by omega)]
  refine A18 (Xo ha) ?_
  rw[<- Zaw (by omega)]
  exact((Zax _ _).map _).nodup hb
instance:Inhabited Tally:=⟨⟨.empty,0,0⟩⟩
instance:Inhabited Live:=⟨⟨false,.empty,.empty,0,⟨0,0⟩⟩⟩
theorem app_le {α:Type} {p q:α->Bool} {a b:List α} {i n:Nat} (ha:a.length<=n) (hb:b.length<=n):(a.filter p++(b.take i).filter q).length<=n+n:=by
 rw[Zae]
 have:=Zaf p a
 have:=Tq (p:=q) (i:=i) hb
 omega
theorem Afk (a b:List Cell):(Od a b).length<=a.length+b.length:=by
 unfold Od
 rw[Zae,Za0]
 have:=Zaf (Q1 a) b
 omega
theorem Afl (a b:List Int):(kMax a b).length<=3:=Af3 mx a b
def fromD (s:State) (d:Delta) (rep:Int):Bool:=decide (at0 s.know rep<at0 d.know rep)
def keepD (d:Delta) (l:Live):Bool:= !(Ax d.know l.dot&&(!Ax d.base l.dot&& !decide (l∈d.lives)))&& !decide (l.dot∈d.dead)
def newD (s:State) (l:Live):Bool:= !Ax s.know l.dot
def Ai8 (s:State) (d:Delta):State:=⟨kMax s.know d.know,L8 (fromD s d) s.tallies d.tallies,Az Dc (s.lives.filter (keepD d)++d.lives.filter (newD s)),Dh s.cells d.cells⟩
def A97 (s:State) (d:Delta):State×Int:=
 if !(Au s&&Ca d) then(s,3) else if Gn d.know s.know then(s,1) else if !Gn d.base s.know then(s,2) else
 if Gs (Ai8 s d) then(s,4) else if !Au (Ai8 s d) then(s,3) else(Ai8 s d,0)
theorem Ai9 {l:List Tally} (h:Dp l=true):l.Pairwise fun a b=>Ak a b=true:=by
 simp only[Dp,Zad,Bl,talP] at h
 exact P6 (lt:=Ak) (fun a b c h1 h2=>Pm.trans _ _ _ h1 h2) fun i hi=>(h.1 i hi).2
theorem Afm {l:List Tally} (h:Dp l=true) {t:Tally} (ht:t∈l):0<=t.rep/\t.rep<=2:=by
 simp only[Dp,Zad,Bl,talP] at h
 obtain⟨i,hi,rfl⟩:=Zap ht
 have:=(h.1 i hi).1
 rw[Bn hi] at this
 simp only[tal1,Zad] at this
 exact Ck.1 this.2.1
theorem Kq {α:Type} (f:α->Nat) (l m:List α):sumL f (l++m)=sumL f l+sumL f m:=by simp[sumL]
theorem Ae1 {α:Type} (f:α->Nat) {g:α->α} (hg:∀ x,f (g x)=f x) (l:List α):sumL f (l.map g)=sumL f l:=by
 unfold sumL
 rw[Zbd]
 congr 1
 exact Zal fun x _=>hg x
theorem Ae2 (f:Int->Bool) (a b:List Tally):(L8 f a b).length<=a.length+b.length/\sumL Bv (L8 f a b)<=sumL Bv a+sumL Bv b:=by
 unfold L8
 rw[D6,Pz Bv (Bb _ _),Zae,Kq]
 have:=Zaf (fun t:Tally=> !f t.rep) a
 have:=Zaf (fun t:Tally=>f t.rep) b
 have:=Fp Bv (fun t:Tally=> !f t.rep) a
 have:=Fp Bv (fun t:Tally=>f t.rep) b
 omega
theorem A6a (a b:List Cell):(Dh a b).length<=a.length+b.length/\sumL F1 (Dh a b)<=sumL F1 a+sumL F1 b:=by
 unfold Dh
 rw[D6,Pz F1 (Bb _ _)]
 refine⟨Afk a b,?_⟩
 unfold Od
 rw[Kq,Ae1 F1 (g:=A67 b) fun x=>rfl]
 have:=Fp F1 (Q1 a) b
 omega
theorem Afn (p q:Live->Bool) (a b:List Live):(Az Dc (a.filter p++b.filter q)).length<=a.length+b.length/\sumL F0 (Az Dc (a.filter p++b.filter q))<=sumL F0 a+sumL F0 b:=by
 rw[D6,Pz F0 (Bb _ _),Zae,Kq]
 have:=Zaf p a
 have:=Zaf q b
 have:=Fp F0 p a
 have:=Fp F0 q b
 omega
abbrev z4':List GV:=[GV.nilS,GV.nilS,GV.nilS,GV.nilS]
abbrev Tt:Nat:=339
def Tu:Fn1:=⟨54,[.t 4],(rg [o 4 (.mov (.k .nilS))] (rg [o 9 (.lit 8 0 [] []),oM 10 0,o 11 (.app 8 72 [s0,z0,z0,z0,z0,z0,z0,(.bool false)] (.t 9) (.t 10)),oM 5 11] (.seq (rg [oV 6 (ki 0)] (.blk 0 (.lop (.seq (rg [oM 12 6,oM 13 1,oN 14 13,oB 15 .lss 12 14] (cn 15 .skip (.ext 0))) (.seq (.blk 1 (rg [o 7 (.mov (ki (-1)))] (.seq (rg [oV 8 (ki 0)] (.blk 2 (.lop (.seq (rg [oM 18 8,oM 19 5,oN 20 19,oB 21 .lss 18 20] (cn 21 .skip (.ext 2))) (.seq (.blk 3 (dw [oM 24 5,oM 25 8,oI 26 8 24 25,oF 27 1 26,oW 28 2 27,oM 29 1,oM 30 6,oI 31 8 29 30,oF 32 1 31,oW 33 2 32] [o 34 (.eqs false [.i .i64,.i .i64] (.t 28) (.t 33))] (cn 34 (.reg [oM 35 8,oM 7 35]) .skip))) (.reg [oM 22 8,oZ 23 22 1,oM 8 23])))))) (rg [oM 36 7,oE 37 .lss 36 0] (cn 37 (.reg [oM 38 5,oM 39 1,oM 40 6,oI 41 8 39 40,oW 42 8 41,oD 43 322 38 42,oM 5 43]) (rg [oM 44 1,oM 45 6,oI 46 8 44 45,oF 47 7 46,oL 48 47] (cn 48 (.reg [oM 49 5,oM 50 7,oI 51 8 49 50,oF 52 7 51,on (.st 1 (.t 52) kt)]) .skip))))))) (.reg [oM 16 6,oZ 17 16 1,oM 6 17])))))) (rg [oM 53 5,oM 4 53] .ret))))⟩
theorem A3d:A6 Tryz.prog Tt=some Tu:=by kernel_rfl
theorem Xr (l:List Cell) (x:Cell) (d:Dot):Cf (l++[x]) d=(Cf l d).or (if x.dot=d then some l.length else none):=by
 unfold Cf
 rw[List.findIdx?_append]
 congr 1
 by_cases h:x.dot=d<;>simp[h,List.findIdx?_cons]
theorem Abr {l:List Cell} (hn:(l.map (·.dot)).Nodup) {k:Nat} (hk:k<l.length) {d:Dot} (h:l[k].dot=d):C9 (l.take (k+1)) d=k:=by
 have hno:d∉(l.take k).map (·.dot):=fun hm=>by
  obtain⟨c,hc,e⟩:=Zah.1 hm
  obtain⟨j,hj,rfl⟩:=Zap hc
  have hj1:j<k/\j<l.length:=by rw[Zay] at hj;omega
  rw[List.getElem_take] at e
  have:=nd_ix hn hj1.2 hk (by rw[e,h])
  omega
 unfold C9
 rw[Ap hk,Xr,A69 hno,if_pos h]
 simp;omega
theorem A98 {l:List Cell} {k:Nat} (hk:k<l.length) {d:Dot} (h:l[k].dot≠d):C9 (l.take (k+1)) d=C9 (l.take k) d:=by
 unfold C9
 rw[Ap hk,Xr,if_neg h]
 simp
theorem Zg (σ:St) (va vb:GV) (a b:List Cell) (ha:RS Ag.kd σ va a) (hb:RS Ag.kd σ vb b) (hla:a.length<=1073741824) (hlb:b.length<=1073741824) (hpa:a.Pairwise fun a b=>Bj a.dot b.dot=true) (hnb:(b.map (·.dot)).Nodup):∃ r τ,Ret Tryz.prog Tt [va,vb] σ r τ/\Hp σ τ [ow Ag.kd r (Dh a b)]:=by
 have hna:=Xo hpa
 refine D8 A3d (Z0z rfl) (Hx.refl σ) ?_
 simp +contextual (disch:=omega) only[go_sem,Tu]
 intro n fn τ H
 refine Ze (p:=Ag) H (ha.pre H.sub) (by decide) (by omega) fun w τ1 H1=> ?_
 simp +contextual (disch:=omega) only[go_sem]
 refine Bu b.length 6 0 (fun i env h=>∃ w,env 1=vb/\env 5=w/\h=[.th (ow Ag.kd w (Dh a (b.take i)))]) (fun env h=>∃ w,env 5=w/\h=[.th (ow Ag.kd w (Dh a b))]) (fun env h=>False) _ H1 (by simp +contextual (disch:=omega) only[go_sem]) ⟨w,by simp +contextual (disch:=omega) only[go_sem],by simp +contextual (disch:=omega) only[go_sem],by rw[<- Xq hpa hnb 0 (by omega)];rfl⟩ ?_ ?_ ?_ (fun _ _ _ _ h=>h.elim)
 ·clear H H1
  rintro J Y W hJ hY hW i env h τ hi ei c0 H ⟨w,e1,e5,rfl⟩
  have hst:A3c (Dh a (b.take i)) b[i]=Dh a (b.take (i+1)):=by
   rw[Ap hi]
   refine A18 hna ?_
   rw[<- Ap hi]
   exact((Zax _ b).map (·.dot)).nodup hnb
  have hjn:((Dh a (b.take i)).map (·.dot)).Nodup:=((Bb Dq (Od a (b.take i))).map _).nodup_iff.2 (Xp hna (((Zax i b).map (·.dot)).nodup hnb))
  have hml:=(A6a a (b.take i)).1
  have hbl:(b.take i).length<=b.length:=by rw[Zay];omega
  generalize Dh a (b.take i)=O at*
  have B1:=A8 hb hi
  simp +contextual (disch:=omega) only[go_sem,c0,e1,e5,ei,hb.len]
  refine Bu O.length 8 2 (fun k env h=>env 1=vb/\env 5=w/\env 6=gi i/\env 7=gi (C9 (O.take k) b[i].dot)/\h=[.th (ow Ag.kd w O)]) (fun env h=>env 1=vb/\env 5=w/\env 6=gi i/\env 7=gi (C9 O b[i].dot)/\h=[.th (ow Ag.kd w O)]) (fun env h=>False) _ H (by simp +contextual (disch:=omega) only[go_sem]) ⟨by simp +contextual (disch:=omega) only[go_sem,e1],by simp +contextual (disch:=omega) only[go_sem,e5],by simp +contextual (disch:=omega) only[go_sem,ei],by simp +contextual (disch:=omega) only[go_sem];rfl,rfl⟩ ?_ ?_ ?_ (fun _ _ _ _ h=>h.elim)
  ·clear H e1 e5 ei
   rintro J2 Y2 W2 hJ2 hY2 hW2 k env h τ hk ek c1 H ⟨e1,e5,e6,e7,rfl⟩
   have O1:=A35 H 0 rfl hk
   have ol:=(H.hp.sl 0 rfl).len
   by_cases hx:O[k].dot=b[i].dot
   ·have bx:decide (O[k].dot=b[i].dot)=true:=decide_eq_true hx
    simp +contextual (disch:=omega) only[go_sem,c1,e1,e5,e6,e7,ek,A0,B1,O1,ol,bx]
    exact hJ2 _ _ _ _ H ⟨by simp +contextual (disch:=omega) only[go_sem,e1],by simp +contextual (disch:=omega) only[go_sem,e5],by simp +contextual (disch:=omega) only[go_sem,e6],by simp +contextual (disch:=omega) only[go_sem,Abr hjn hk hx],rfl⟩
   ·have bx:decide (O[k].dot=b[i].dot)=false:=decide_eq_false hx
    simp +contextual (disch:=omega) only[go_sem,c1,e1,e5,e6,e7,ek,A0,B1,O1,ol,bx]
    exact hJ2 _ _ _ _ H ⟨by simp +contextual (disch:=omega) only[go_sem,e1],by simp +contextual (disch:=omega) only[go_sem,e5],by simp +contextual (disch:=omega) only[go_sem,e6],by simp +contextual (disch:=omega) only[go_sem,A98 hk hx,e7],rfl⟩
  ·clear H e1 e5 ei
   rintro Y2 hY2 env h τ ek c1 H ⟨e1,e5,e6,e7,rfl⟩
   have ol:=(H.hp.sl 0 rfl).len
   simp +contextual (disch:=omega) only[go_sem,c1,e5,ek,ol]
   exact hY2 _ _ _ H ⟨by simp +contextual (disch:=omega) only[go_sem,e1],by simp +contextual (disch:=omega) only[go_sem,e5],by simp +contextual (disch:=omega) only[go_sem,e6],by rw[Zac] at e7;simp +contextual (disch:=omega) only[go_sem,e7],rfl⟩
  clear H e1 e5 ei
  rintro env h τ H ⟨e1,e5,e6,e7,rfl⟩
  cases hx:Cf O b[i].dot with
  |none=>
   have hno:C9 O b[i].dot= -1:=by simp[C9,hx]
   have cm:decide ((-1:Int)<0)=true:=rfl
   rw[hno] at e7
   simp +contextual (disch:=omega) only[go_sem,e7,cm,e1,e5,e6,A0,B1]
   obtain⟨w',τ2,R2,K2⟩:=Pu τ w O (H.hp.sl 0 rfl) b[i] (by omega)
   refine by_c H R2 K2 fun H2=> ?_
   simp +contextual (disch:=omega) only[go_sem,e6]
   refine hJ _ _ _ _ (H2.re [0] (by decide)) ⟨w',by simp +contextual (disch:=omega) only[go_sem,e1],by simp +contextual (disch:=omega) only[go_sem],?_⟩
   rw[<- hst]
   simp only[A3c,hx];rfl
  |some k=>
   obtain⟨hk,hd⟩:=C5 hx
   have hno:C9 O b[i].dot=k:=by simp[C9,hx]
   have cm:decide ((k:Int)<0)=false:=by simp
   rw[hno] at e7
   have O1:=A35 H 0 rfl hk
   cases hg:b[i].gone with
   |false=>
    simp +contextual (disch:=omega) only[go_sem,e7,cm,e1,e5,e6,A0,B1,hg]
    refine hJ _ _ _ _ H ⟨w,by simp +contextual (disch:=omega) only[go_sem,e1],by simp +contextual (disch:=omega) only[go_sem,e5],?_⟩
    rw[<- hst]
    simp only[A3c,hx,hg,Zas,if_false]
   |true=>
    simp +contextual (disch:=omega) only[go_sem,e7,cm,e1,e5,e6,A0,B1,hg,O1]
    refine Adv (p:=Ag) H 0 rfl hk {O[k] with gone:=true} rfl (by decide) (by decide) rfl fun τ3 H3=> ?_
    simp +contextual (disch:=omega) only[go_sem,e6]
    refine hJ _ _ _ _ H3 ⟨w,by simp +contextual (disch:=omega) only[go_sem,e1],by simp +contextual (disch:=omega) only[go_sem,e5],?_⟩
    rw[<- hst]
    simp only[A3c,hx,hg,if_true]
    rw[Mv _ hk];rfl
 ·clear H H1
  rintro Y hY env h τ ei c0 H ⟨w,e1,e5,rfl⟩
  simp +contextual (disch:=omega) only[go_sem,c0,e1,ei,hb.len]
  exact hY _ _ _ H ⟨w,e5,by rw[Zac]⟩
 ·clear H H1
  rintro env h τ H ⟨w,e5,rfl⟩
  simp +contextual (disch:=omega) only[go_sem,e5]
  exact fun _=>⟨_,rfl,H.hp⟩
theorem A6b {L M:List Tally} {t:Tally} (hn:(M.map tkey).Nodup) (hs:(L++[t]).Sublist M):G0 (Az Ak L) t.obj t.rep t.sum=Az Ak (L++[t]):=by
 have h1:((L++[t]).map tkey).Nodup:=(hs.map tkey).nodup hn
 rw[Kb]
 refine Afi (acc:=Az Ak L) fun hm=> ?_
 have hm:=((Bb Ak L).map tkey).mem_iff.1 hm
 rw[Zak,Zam] at h1
 exact h1.2.2 _ hm (tkey t) (by simp) rfl
theorem Ae3 {α:Type} (p:α->Bool) (l:List α) (i:Nat):((l.take i).filter p).Sublist (l.filter p):=(Zax i l).filter p
theorem Afo {l:List Tally} (h:Dp l=true) {t:Tally} (ht:t∈l): -1000000<=t.sum/\t.sum<=1000000:=by
 simp only[Dp,Zad,Bl,talP] at h
 obtain⟨i,hi,rfl⟩:=Zap ht
 have:=(h.1 i hi).1
 rw[Bn hi] at this
 simp only[tal1,Zad] at this
 have:=Ck.1 this.2.2
 omega
theorem Aam (p q:Tally->Bool) (a b:List Tally) (i j:Nat):(Az Ak ((a.take i).filter p++(b.take j).filter q)).length<=a.length+b.length/\sumL Bv (Az Ak ((a.take i).filter p++(b.take j).filter q))<=sumL Bv a+sumL Bv b:=by
 rw[D6,Pz Bv (Bb _ _),Zae,Kq]
 have h1:=Zaf p (a.take i)
 have h2:=Zaf q (b.take j)
 have h3:=Fp Bv p (a.take i)
 have h4:=Fp Bv q (b.take j)
 have h5:=Sn Bv a i
 have h6:=Sn Bv b j
 rw[Zay] at h1 h2
 omega
theorem Rt {s:State} {n:Nat} (h:Aa s<=n):s.know.length<=n/\s.tallies.length<=n/\s.lives.length<=n/\s.cells.length<=n:=by
 unfold Aa at h
 omega
abbrev z4:List GV:=[GV.nilS,GV.nilS,GV.nilS,GV.nilS]
theorem Aan (s:State) (rep t:Int) (e:Edit):Dm (Dg s rep t e).1<=s.know.length+e.obj.size+e.key.size:=by
 unfold Dg
 repeat' split
 all_goals simp only[A0v,Adp,act0,Dm,show(ByteArray.mk #[]).size=0 from rfl,Za1]
 all_goals omega
theorem Tv (s:State):s.know.length<=Aa s:=by unfold Aa;omega
abbrev Ru:Nat:=44
def A19:Fn1:=⟨20,[.c 4 true 4,.t 5],(rg [oX 2 0,oX 3 1,o 4 (.new [.nilS,.nilS,.nilS,.nilS]),oV 5 (ki 0)] (.seq (rg [oF 6 0 3,oL 7 6] (cn 7 (rg [oW 8 4 2,oF 9 11 3,oW 10 6 9,oD 11 166 8 10,o 12 (.ext 0 (.t 11)),o 13 (.ext 1 (.t 11)),oS 4 4 12,oM 5 13] .ret) .skip)) (rg [oW 14 4 2,oF 15 1 3,oW 16 10 15,oD 17 140 14 16,o 18 (.ext 0 (.t 17)),o 19 (.ext 1 (.t 17)),oS 4 4 18,oM 5 19] .ret)))⟩
theorem A99:A6 Tryz.prog Ru=some A19:=by kernel_rfl
abbrev M9:Nat:=43
def Tw:Fn1:=⟨3,[.c 0 true 4],(rg [o 0 (.new [.nilS,.nilS,.nilS,.nilS])] (rg [o 1 (.call 165 []),o 2 (.build [.nilS,.nilS,.nilS,.nilS] [(0,1,(.t 1))]),oS 4 0 2] .ret))⟩
theorem A3e:A6 Tryz.prog M9=some Tw:=by kernel_rfl
abbrev zeU:List GV:=[.bool false,gi 0,gi 0,gi 0,.nilS,gi 0,.str ⟨#[]⟩,.str ⟨#[]⟩,gi 0,gi 0,gi 0,.nilS,.nilS,.nilS,.nilS,.nilS,.nilS]
def Cr (s:State) (u:Unit_):State×Int:=if u.batch then A97 s u.delta else Do s u.act
def st0:State:=⟨[0,0,0],[],[],[]⟩
theorem Afp {b:Bool} {v1 v2:List GV} (h1:v1.length=10) (h2:v2.length=6):(seg (.bool b::v1++(v2++[])) 1 10).bind (mkv true)=some (.agg v1)/\(seg (.bool b::v1++(v2++[])) 11 6).bind (mkv true)=some (.agg v2)/\(seg (.bool b::v1++(v2++[])) 0 1).bind (mkv false)=some (.bool b)/\(GV.bool b::v1++(v2++[])).length=17:=by
 refine⟨?_,?_,?_,by simp[h1,h2]⟩
 ·simp[seg,mkv,h1,h2]
 ·have:List.drop 10 (v1++v2)=v2:=by rw[<- h1,List.drop_left]
  simp[seg,mkv,h1,h2,this]
  exact List.take_of_length_le (by omega)
 ·simp[seg,mkv]
theorem Gk (σ:St):∃ r τ,Ret Tryz.prog M9 [] σ (.agg r) τ/\Hp σ τ [own A5 r st0]:=by
 have key:∃ q τ,Ret Tryz.prog M9 [] σ q τ/\∃ r,q= .agg r/\Hp σ τ [own A5 r st0]:=by
  refine D8 A3e (Z0z rfl) (Hx.refl σ) ?_
  simp +contextual (disch:=omega) only[go_sem,Tw]
  intro n f τ H
  obtain⟨kv,τ1,R1,K1⟩:=A2l τ
  refine by_c H R1 K1 fun H1=> ?_
  have ck:=(H1.hp.sl 0 rfl).cell
  simp +contextual (disch:=omega) only[go_sem,ck]
  intro τ2 H2
  exact⟨_,rfl,_,rfl,Hp.ownState (x:=st0) (((((H2.sel [0] (by decide)).nilS (d:=Ag.kd)).nilS (d:=As.kd)).nilS (d:=Am.kd)).sel [3,0,1,2] (by decide))⟩
 obtain⟨q,τ,R,r,rfl,h⟩:=key
 exact⟨r,τ,R,h⟩
theorem Oe (σ:St) (cs:List GV) (s:State) (hR:A5.R σ s cs) (ds:List GV) (u:Unit_) (hU:Ad.R σ u ds) (hl:Aa s<=1073741824) (hm:Aw u<=1073741824) (hb:u.batch=false):∃ r τ,Ret Tryz.prog Ru [.agg cs,.agg ds] σ (.tup [.agg r,gi (Cr s u).2]) τ/\Hp σ τ [own A5 r (Cr s u).1]:=by
 obtain⟨v1,v2,rfl,hA,hD⟩:=hU
 obtain⟨g1,g2,g3,g4⟩:=Afp (b:=u.batch) (kAct.len hA) (B9.len hD)
 have gl:cs.length=4:=A5.len hR
 have sg:=A4 gl
 have hma:Dm u.act<=1073741824/\Ay u.delta<=1073741824:=by unfold Aw at hm;omega
 generalize(.bool u.batch::v1++(v2++[]):List GV)=ds at*
 have key:∃ q τ,Ret Tryz.prog Ru [.agg cs,.agg ds] σ q τ/\∃ r,q= .tup [.agg r,gi (Cr s u).2]/\Hp σ τ [own A5 r (Cr s u).1]:=by
  refine D8 A99 (Z0z rfl) (Hx.refl σ) ?_
  rw[hb] at g3
  have hd:Cr s u=Do s u.act:=by unfold Cr;rw[if_neg (by simp[hb])]
  simp +contextual (disch:=omega) only[go_sem,A19,g3,sg,g1]
  intro n2 f2 τ2 H2 n3 f3 τ3 H3 n4 f4 τ4 H4
  obtain⟨r,τ5,R5,K5⟩:=Kj τ4 _ s (A5.pre hR H4.sub) _ _ (kAct.pre hA H4.sub) (by omega) (by omega)
  have rl:r.length=4:=A5.len (K5.rd 0 rfl)
  refine by_c H4 R5 K5 fun H5=> ?_
  simp +contextual (disch:=omega) only[go_sem,Ab (cs:=z4) rl rfl,rl,A4 rl]
  intro τ6 H6
  exact⟨_,rfl,r,by rw[hd],by rw[hd];exact H6.sel [0] (by decide)⟩
 obtain⟨q,τ,R,r,rfl,h⟩:=key
 exact⟨r,τ,R,h⟩
def runU (us:List Unit_):Nat->Option State
 |0=>some st0
 |i+1=>(runU us i).bind fun s=>if h:i<us.length then(if (Cr s us[i]).2=0 then some (Cr s us[i]).1 else none) else some s
theorem Afq {us:List Unit_} {i:Nat} {s:State} (hi:i<us.length) (h:runU us i=some s) (h0:(Cr s us[i]).2=0):runU us (i+1)=some (Cr s us[i]).1:=by
 rw[runU,h,Option.bind_some,dif_pos hi,if_pos h0]
abbrev A1a:Nat:=277
def A1b:Fn1:=⟨27,[.t 2],(rg [oX 1 0,oV 2 (ki 0)] (rg [oV 3 (ki 0)] (.seq (rg [oV 4 (ki 0)] (.blk 0 (.lop (.seq (rg [oM 5 4,oF 6 3 1,oL 7 6,oN 8 7,oB 9 .lss 5 8] (cn 9 .skip (.ext 0))) (.seq (.blk 1 (rg [oF 12 3 1,oL 13 12,oM 14 4,oI 15 8 13 14,oF 16 3 15,oL 17 16,oM 18 3,oB 19 .gtr 17 18] (cn 19 (.reg [oF 20 3 1,oL 21 20,oM 22 4,oI 23 8 21 22,oF 24 3 23,oL 25 24,oM 3 25]) .skip))) (.reg [oM 10 4,oZ 11 10 1,oM 4 11])))))) (rg [oM 26 3,oM 2 26] .ret))))⟩
theorem A9a:A6 Tryz.prog A1a=some A1b:=by kernel_rfl
abbrev Ma:Nat:=281
def Tx:Fn1:=⟨43,[.c 6 true 4],(rg [oX 4 1,o 6 (.new [.nilS,.nilS,.nilS,.nilS])] (.seq (rg [oV 7 (ki 0)] (.blk 0 (.lop (.seq (rg [oM 12 7,oM 13 2,oB 14 .lss 12 13] (cn 14 .skip (.ext 0))) (.seq (.blk 1 (rg [oM 17 0,o 18 (.call 163 [(.t 17),(ki 3)]),oM 8 18] (rg [oM 19 0,oC 20 269 19,o 9 (.new [z0,s0,s0,z0,z0]),oS 5 9 20] (dw [oW 30 5 9,o 10 (.new [z0,z0,z0,.nilS,z0,s0,s0,z0,z0,z0])] [oW 22 4 4,oM 23 8,oW 24 4 4,oC 25 277 24,on (.chk 22 (.ld true 4 (.t 4))),on (.chk 30 (.ld true 5 (.t 9))),on (.blc 10 [z0,z0,z0,.nilS,z0,s0,s0,z0,z0,z0]),oZ 26 25 1,oM 27 0,o 28 (.call 163 [(.t 27),(ki 2)]),on (.chk 22 (.ld true 4 (.t 4))),on (.chk 30 (.ld true 5 (.t 9))),on (.blc 10 [z0,z0,z0,.nilS,z0,s0,s0,z0,z0,z0]),oB 29 .add 26 28,o 31 (.call 276 [(.t 22),(.t 23),(.t 29),(.t 30)]),on (.blc 10 [z0,z0,z0,.nilS,z0,s0,s0,z0,z0,z0]),oM 21 31,o 32 (.ext 0 (.t 21)),o 33 (.ext 1 (.t 21)),oS 10 10 32,oM 11 33] (rg [oM 34 11,oE 35 .eql 34 0] (cn 35 (.reg [oW 37 4 4,oW 38 10 10,oD 39 140 37 38,oM 36 39,o 40 (.ext 0 (.t 36)),o 41 (.ext 1 (.t 36)),oS 4 4 40]) .skip)))))) (.reg [oM 15 7,oZ 16 15 1,oM 7 16])))))) (rg [oW 42 4 4,oS 4 6 42] .ret)))⟩
theorem A3f:Es true Tryz.prog Ma=some Tx:=by kernel_rfl
abbrev Mb:Nat:=187
def Ty:Fn1:=⟨9,[.c 2 true 4],(rg [o 2 (.new [.nilS,.nilS,.nilS,.nilS])] (rg [oM 3 0,o 4 (.call 43 []),oM 5 0,o 6 (.call 163 [(.t 5),(ki 9)]),o 7 (.bin .add (ki 2) (.t 6)),o 8 (.call 281 [(.t 3),(.t 4),(.t 7)]),oS 4 2 8] .ret))⟩
theorem A3g:A6 Tryz.prog Mb=some Ty:=by kernel_rfl
abbrev Rv:Nat:=294
def A1c:Fn1:=⟨89,[.c 2 true 4],(rg [o 2 (.new [.nilS,.nilS,.nilS,.nilS])] (rg [oM 6 0,o 7 (.call 163 [(.t 6),(ki 14)]),oM 3 7] (rg [oM 8 0,o 9 (.call 163 [(.t 8),(ki 60)]),oM 4 9] (rg [oM 10 0,oC 11 187 10,oC 12 247 11,o 5 (.new [.nilS,.nilS,.nilS,.nilS]),oS 4 5 12] (.seq (rg [oM 13 3] (.blk 0 (rg [oE 15 .eql 13 0,oM 14 15] (cn 14 (.drw [] [oF 16 0 5,oL 17 16,oM 18 4,oE 19 .rem 18 3,o 20 (.lit 1 3 [z0,z0,z0] [(0,1,(ki 0)),(1,1,(ki (-1))),(2,1,(ki 1001))]),on (.chk 17 (.ld false 1 (.t 16))),oM 21 4,oE 22 .rem 21 3,oI 23 1 20 22,oL 24 23,oI 25 1 17 19,oS 1 25 24]) (rg [oE 27 .eql 13 1,oM 26 27] (cn 26 (.reg [oF 28 1 5,oL 29 28,oM 30 4,oE 31 .rem 30 4,oM 32 4,o 33 (.build [s0,z0,z0] [(0,1,(.k (.str ⟨#[97]⟩))),(1,1,(.t 31)),(2,1,(.t 32))]),o 34 (.lit 3 1 [s0,z0,z0] [(0,3,(.t 33))]),o 35 (.app 3 32 [s0,z0,z0] (.t 29) (.t 34)),oF 36 1 5,oS 1 36 35]) (rg [oE 38 .eql 13 2,oM 37 38] (cn 37 (.reg [oF 39 2 5,oL 40 39,oM 41 4,oE 42 .rem 41 2,oE 43 .eql 42 0,oM 44 4,oE 45 .rem 44 3,oM 46 4,oE 47 .rem 46 4,oM 48 4,oE 49 .rem 48 5,o 50 (.bin .add (ki 1) (.t 49)),o 51 (.build [z0,z0] [(0,1,(.t 47)),(1,1,(.t 50))]),o 52 (.build [(.bool false),s0,s0,z0,z0,z0] [(0,1,(.t 43)),(1,1,(.k (.str ⟨#[97]⟩))),(2,1,(.k (.str ⟨#[120]⟩))),(3,1,(.t 45)),(4,2,(.t 51))]),o 53 (.lit 6 1 [(.bool false),s0,s0,z0,z0,z0] [(0,6,(.t 52))]),o 54 (.app 6 64 [(.bool false),s0,s0,z0,z0,z0] (.t 40) (.t 53)),oF 55 2 5,oS 1 55 54]) (rg [oE 57 .eql 13 3,oM 56 57] (cn 56 (.reg [oF 58 3 5,oL 59 58,oM 60 4,oE 61 .rem 60 9,o 62 (.bin .add (ki 1) (.t 61)),o 63 (.build [z0,z0] [(0,1,(ki 2)),(1,1,(.t 62))]),oM 64 4,oE 65 .rem 64 9,oM 66 4,oE 67 .rem 66 3,o 68 (.build [z0,z0] [(0,1,(ki 0)),(1,1,(.t 67))]),o 69 (.build [s0,z0,z0,z0,z0,z0,z0,(.bool false)] [(0,1,(.k (.str ⟨#[97]⟩))),(1,2,(.t 63)),(3,1,(.t 65)),(4,2,(.t 68))]),o 70 (.lit 8 1 [s0,z0,z0,z0,z0,z0,z0,(.bool false)] [(0,8,(.t 69))]),o 71 (.app 8 72 [s0,z0,z0,z0,z0,z0,z0,(.bool false)] (.t 59) (.t 70)),oF 72 3 5,oS 1 72 71]) (rg [oE 74 .eql 13 4,oM 73 74] (cn 73 (rg [oF 75 3 5,oL 76 75,oN 77 76,oE 78 .gtr 77 0] (cn 78 (.drw [] [oF 79 3 5,oL 80 79,oM 81 4,oF 82 3 5,oL 83 82,oN 84 83,oB 85 .rem 81 84,oI 86 8 80 85,oF 87 0 86,on (.st 1 (.t 87) (.k (.str ⟨#[98]⟩)))]) .skip)) .skip)))))))))))) (rg [oW 88 4 5,oS 4 2 88] .ret))))))⟩
theorem A9b:Es true Tryz.prog Rv=some A1c:=by kernel_rfl
def Ee (l:List Cell):Int:=l.foldl (fun n c=>if c.time>n then c.time else n) 0
theorem A6c {l:List Cell} {i:Nat} (hi:i<l.length):Ee (l.take (i+1))=if l[i].time>Ee (l.take i) then l[i].time else Ee (l.take i):=by
 unfold Ee;rw[Ap hi,Zbc];rfl
theorem Rw {l:List Cell} (h:∀ c∈l,c.time<=10000):0<=Ee l/\Ee l<=10000:=by
 have key:∀(l:List Cell) (n:Int),0≤n/\n<=10000->(∀ c∈l,c.time<=10000)->0<=l.foldl (fun n c=>if c.time>n then c.time else n) n/\l.foldl (fun n c=>if c.time>n then c.time else n) n<=10000:=by
  intro l
  induction l with
  |nil=>intro n hn _;exact hn
  |cons x l ih=>
   intro n hn hx
   rw[Zbg]
   refine ih _ ?_ fun c hc=>hx c (Za6 _ hc)
   have:=hx x Za9
   split<;>omega
 exact key l 0 (by omega) h
theorem Iv (σ:St) (cs:List GV) (s:State) (hR:A5.R σ s cs) (hl:Aa s<=1099511627776):Ret Tryz.prog A1a [.agg cs] σ (gi (Ee s.cells)) σ:=by
 obtain⟨v0,v1,v2,v3,rfl,q0,q1,q2,q3⟩:=hR
 have hlc:s.cells.length<=1099511627776:=by unfold Aa at hl;omega
 refine E5 A9a (Z0z rfl) trivial ?_
 simp +contextual (disch:=omega) only[go_sem,A1b]
 intro n1 f1 τ1 H1
 refine Bu s.cells.length 4 0 (fun i env h=>env 1= .ptr n1 0/\env 3=gi (Ee (s.cells.take i))/\h=[.box 1 n1 [v0,v1,v2,v3]]) (fun env h=>env 3=gi (Ee s.cells)) (fun _ _=>False) _ H1 (by simp +contextual (disch:=omega) only[go_sem]) ⟨by simp +contextual (disch:=omega) only[go_sem],by simp +contextual (disch:=omega) only[go_sem];rfl,rfl⟩ ?_ ?_ ?_ (fun _ _ _ _ h=>h.elim)
 ·clear H1
  rintro J Y W hJ hY hW i env h' τ hi ei c0 H ⟨e1,e3,rfl⟩
  have hl3:=q3.len
  have L:=A8 q3 hi
  obtain⟨q,hq⟩:∃ q,q=Ee (s.cells.take i):=⟨_,rfl⟩
  have hsn:=A6c hi
  rw[<- hq] at e3 hsn
  cases hc:decide (q<s.cells[i].time) with
  |true=>
   rw[if_pos (of_decide_eq_true hc)] at hsn
   simp +contextual (disch:=omega) only[go_sem,c0,e1,e3,ei,A0,hl3,L,hc]
   exact hJ _ _ _ _ H ⟨by simp +contextual (disch:=omega) only[go_sem,e1],by simp +contextual (disch:=omega) only[go_sem,hsn],rfl⟩
  |false=>
   rw[if_neg (of_decide_eq_false hc)] at hsn
   simp +contextual (disch:=omega) only[go_sem,c0,e1,e3,ei,A0,hl3,L,hc]
   exact hJ _ _ _ _ H ⟨by simp +contextual (disch:=omega) only[go_sem,e1],by simp +contextual (disch:=omega) only[go_sem,e3,hsn],rfl⟩
 ·clear H1
  rintro Y hY env h' τ ei c0 H ⟨e1,e3,rfl⟩
  have hl3:=q3.len
  simp +contextual (disch:=omega) only[go_sem,c0,e1,ei,hl3]
  exact hY _ _ _ H (by simp +contextual (disch:=omega) only[go_sem,e3,Zac])
 ·rintro env h' τ H e3
  simp +contextual (disch:=omega) only[go_sem,e3]
section
variable {σ0 σ:St} {h:List Item} {c v:GV} {bs:List Int}
theorem Hx.fst {x:Item} (H:Hx σ0 σ h) (i:Nat) (hi:h[i]? =some x):Hx σ0 σ (x::h.eraseIdx i):=by
 have H1:=H.hp.pick i (by rw[List.getElem?_map,hi];rfl:(h.map Item.t)[i]? =some x.t)
 rw[A34] at H1
 exact H1
theorem Hx.era (H:Hx σ0 σ h) (i:Nat):Hx σ0 σ (h.eraseIdx i):=by
 cases hi:h[i]? with
 |none=>rw[List.eraseIdx_of_length_le (List.getElem?_eq_none_iff.1 hi)];exact H
 |some x=>exact(H.fst i hi).tl
inductive Grw (s0:State):State->Prop
 |nil:Grw s0 s0
 |act {s:State} (rep dt:Int) (e:Edit):Grw s0 s->0<=rep->rep<=2->0<=dt->dt<=1->EdD e->(Dg s rep (Ee s.cells+1+dt) e).2=0->Grw s0 (Do s (Dg s rep (Ee s.cells+1+dt) e).1).1
theorem Grw.ok {s0 s:State} (h:Grw s0 s) (h0:OkS s0):OkS s:=by
 induction h with
 |nil=>exact h0
 |act rep dt e _ _ _ _ _ _ _ ih=>exact Aak _ ih
theorem Nf {cs:List GV} {s:State} (H:Hx σ0 σ (.th (own A5 cs s)::h)) (k:Nat) (hk:h[k]? =some (cuI c v bs)) (D:Dr σ0 v bs) (hs:OkS s) (n:Nat) (hn:n<=1000):
  ∃(ds:List GV) (s':State) (τ:St),Grw s s'/\Ret Tryz.prog Ma [c,.agg cs,gi n] σ (.agg ds) τ/\Hx σ0 τ (.th (own A5 ds s')::h):=by
 have hlen:cs.length=4:=A5.len (H.hp.rd 0 rfl)
 have key:∃ w τ,Ret Tryz.prog Ma [c,.agg cs,gi n] σ w τ/\∃ ds s',w= .agg ds/\Grw s s'/\Hx σ0 τ (.th (own A5 ds s')::h):=by
  refine D8 A3f (Z0z rfl) H ?_
  simp +contextual (disch:=omega) only[go_sem,Tx]
  intro n4 f4 τ4 H4 n6 f6 τ6 H6
  have g4:=Al (h:=h) f4
  have g6:=Al (h:=h) f6.2
  have ne46:=f6.1
  clear H4 f4 f6
  refine Bu n 7 0 (fun i env hh=>env 0=c/\env 2=gi n/\env 4= .ptr n4 0/\env 6= .ptr n6 0/\∃ ds s',Grw s s'/\ds.length=4/\hh= .box 1 n6 z4::.box 1 n4 ds::.th (own A5 ds s')::h) (fun env hh=>env 4= .ptr n4 0/\env 6= .ptr n6 0/\∃ ds s',Grw s s'/\ds.length=4/\hh= .box 1 n6 z4::.box 1 n4 ds::.th (own A5 ds s')::h) (fun _ _=>False) _ H6 (by simp +contextual (disch:=omega) only[go_sem]) ⟨by simp +contextual (disch:=omega) only[go_sem],by simp +contextual (disch:=omega) only[go_sem],by simp +contextual (disch:=omega) only[go_sem],by simp +contextual (disch:=omega) only[go_sem],cs,s,.nil,hlen,rfl⟩ ?_ ?_ ?_ (fun _ _ _ _ h=>h.elim)
  ·clear H6
   rintro J Y W hJ hY hW i env h' τ hi ei c0 H ⟨e0,e2,e4,e6,ds,s',hg,gl,rfl⟩
   have hok:=hg.ok hs
   have hms:=hok.ms
   have htm:=Rw fun c hc=>(hok.time c hc).2
   simp +contextual (disch:=omega) only[go_sem,c0,e0,e2,e4,e6,ei]
   obtain⟨rep,τ1,hrep,R1,H1⟩:=Bw H (k+3) hk D 3 (by decide) (by decide)
   refine by_k R1 H1 ?_
   simp +contextual (disch:=omega) only[go_sem,e0,e2,e4,e6,ei]
   obtain⟨e,τ2,he,R2,H2⟩:=Km H1 (k+3) hk D
   refine by_k R2 H2 ?_
   simp +contextual (disch:=omega) only[go_sem,e0,e2,e4,e6,ei]
   intro n9 f9 τ3 H3 τ5 H5 n10 f10 τ7 H7
   have g9:=Al (h:=h) f9.2.2
   have g10:=Al (h:=h) f10.2.2.2
   simp +contextual (disch:=omega) only[go_sem,e0,e2,e4,e6,ei,A4 gl]
   refine by_r H7 (Iv _ ds s' (H7.hp.rd 4 rfl) (by omega)) ?_
   obtain⟨tm,htm'⟩:∃ tm,tm=Ee s'.cells:=⟨_,rfl⟩
   rw[<- htm'] at htm ⊢
   simp +contextual (disch:=omega) only[go_sem,e0,e2,e4,e6,ei,A4 gl]
   obtain⟨dt,τ8,hdt,R8,H8⟩:=Bw H7 (k+5) hk D 2 (by decide) (by decide)
   refine by_k R8 H8 ?_
   simp +contextual (disch:=omega) only[go_sem,e0,e2,e4,e6,ei,A4 gl,Ff]
   have hsz:=he.size
   have hkn:=Tv s'
   obtain⟨as',τ9,R9,K9⟩:=O8 τ8 ds s' (H8.hp.rd 4 rfl) rep (tm+1+dt) e (by omega) (by omega) (by omega) (by have:=he.place;omega) (by omega)
   have al:as'.length=10:=kAct.len (K9.rd 0 rfl)
   refine by_c H8 R9 K9 fun H9=> ?_
   have hma:=Aan s' rep (tm+1+dt) e
   have hstep:(Dg s' rep (tm+1+dt) e).2=0->Grw s (Do s' (Dg s' rep (tm+1+dt) e).1).1:=fun hz=>by
    rw[htm'] at hz ⊢
    exact .act rep dt e hg (by omega) (by omega) (by omega) (by omega) he hz
   generalize Dg s' rep (tm+1+dt) e=A at*
   cases hz:(A.2==0) with
   |false=>
    simp +contextual (disch:=omega) only[go_sem,e0,e2,e4,e6,ei,A4 gl,Ab (cs:=zeV) al rfl,al,hz]
    intro τ11 H11
    have HA:=(((H11.era 0).era 0).era 0)
    exact hJ _ _ _ _ HA ⟨by simp +contextual (disch:=omega) only[go_sem,e0],by simp +contextual (disch:=omega) only[go_sem,e2],by simp +contextual (disch:=omega) only[go_sem,e4],by simp +contextual (disch:=omega) only[go_sem,e6],ds,s',hg,gl,rfl⟩
   |true=>
    simp +contextual (disch:=omega) only[go_sem,e0,e2,e4,e6,ei,A4 gl,Ab (cs:=zeV) al rfl,al,hz,A4 al]
    intro τ11 H11
    obtain⟨ds2,τ12,R12,K12⟩:=Kj τ11 ds s' (H11.hp.rd 5 rfl) as' A.1 (H11.hp.rd 0 rfl) (by omega) (by omega)
    have gl2:ds2.length=4:=A5.len (K12.rd 0 rfl)
    refine by_c H11 R12 K12 fun H12=> ?_
    simp +contextual (disch:=omega) only[go_sem,e0,e2,e4,e6,ei,Ab (cs:=ds) gl2 gl,gl2,gl,hz]
    intro τ13 H13
    have HA:=((((H13.era 6).era 3).era 2).era 1)
    have HB:=(HA.fst 2 rfl).fst 2 rfl
    exact hJ _ _ _ _ HB ⟨by simp +contextual (disch:=omega) only[go_sem,e0],by simp +contextual (disch:=omega) only[go_sem,e2],by simp +contextual (disch:=omega) only[go_sem,e4],by simp +contextual (disch:=omega) only[go_sem,e6],ds2,_,hstep (by simpa using hz),gl2,rfl⟩
  ·clear H6
   rintro Y hY env h' τ ei c0 H ⟨e0,e2,e4,e6,ds,s',hg,gl,rfl⟩
   simp +contextual (disch:=omega) only[go_sem,c0,e2,ei]
   exact hY _ _ _ H ⟨by simp +contextual (disch:=omega) only[go_sem,e4],by simp +contextual (disch:=omega) only[go_sem,e6],ds,s',hg,gl,rfl⟩
  ·rintro env h' τ H ⟨e4,e6,ds,s',hg,gl,rfl⟩
   simp +contextual (disch:=omega) only[go_sem,e4,e6,A4 gl,Ab (cs:=z4) gl rfl,gl]
   intro τ1 H1
   exact⟨_,rfl,ds,s',rfl,hg,(H1.era 1).era 0⟩
 obtain⟨w,τ,R,ds,s',rfl,hg,H'⟩:=key
 exact⟨ds,s',τ,hg,R,H'⟩
theorem Zh (H:Hx σ0 σ h) (k:Nat) (hk:h[k]? =some (cuI c v bs)) (D:Dr σ0 v bs):
  ∃(ds:List GV) (s:State) (τ:St),Grw st0 s/\Ret Tryz.prog Mb [c] σ (.agg ds) τ/\Hx σ0 τ (.th (own A5 ds s)::h):=by
 have key:∃ w τ,Ret Tryz.prog Mb [c] σ w τ/\∃ ds s,w= .agg ds/\Grw st0 s/\Hx σ0 τ (.th (own A5 ds s)::h):=by
  refine D8 A3g (Z0z rfl) H ?_
  simp +contextual (disch:=omega) only[go_sem,Ty]
  intro n2 f2 τ2 H2
  have g2:=Al (h:=h) f2
  obtain⟨cs,τ3,R3,K3⟩:=Gk τ2
  refine by_c H2 R3 K3 fun H3=> ?_
  simp +contextual (disch:=omega) only[go_sem]
  obtain⟨x,τ4,hx,R4,H4⟩:=Bw H3 (k+2) hk D 9 (by decide) (by decide)
  refine by_k R4 H4 ?_
  obtain⟨q,hq⟩:∃ q:Nat,q=2+x:=⟨_,rfl⟩
  have e:(2:Int)+x=(q:Int):=by omega
  simp +contextual (disch:=omega) only[go_sem,e]
  obtain⟨ds,s,τ5,hg,R5,H5⟩:=Nf H4 (k+1) hk D Xg q (by omega)
  have gl:ds.length=4:=A5.len (H5.hp.rd 0 rfl)
  refine by_k R5 H5 ?_
  simp +contextual (disch:=omega) only[go_sem,Ab (cs:=z4) gl rfl,gl,A4 gl]
  intro τ6 H6
  exact⟨_,rfl,ds,s,rfl,hg,H6.era 1⟩
 obtain⟨w,τ,R,ds,s,rfl,hg,H'⟩:=key
 exact⟨ds,s,τ,hg,R,H'⟩
theorem Hx.ownS {τ:St} {v0 v1 v2 v3:GV} {kn:List Int} {tl:List Tally} {lv:List Live} {cl:List Cell} (H:Hx σ0 τ (.th (ow pI.kd v0 kn)::.th (ow Am.kd v1 tl)::.th (ow As.kd v2 lv)::.th (ow Ag.kd v3 cl)::h)):Hx σ0 τ (.th (own A5 [v0,v1,v2,v3] ⟨kn,tl,lv,cl⟩)::h):=Hp.ownState (x:=⟨kn,tl,lv,cl⟩) H
theorem Xs {α:Type} {f:α->Nat}:∀(l:List α) (j:Nat) (y:α),sumL f (l.set j y)<=sumL f l+f y
 |[],j,y=>by simp[sumL]
 |x::l,0,y=>by simp[sumL];omega
 |x::l,j+1,y=>by
  have:=Xs (f:=f) l j y
  simp only[sumL,Zba,Za3,List.sum_cons] at*
  omega
theorem My {α:Type} {f:α->Nat} (l:List α) (y:α):sumL f (l++[y])=sumL f l+f y:=by simp[sumL]
theorem A6d (H:Hx σ0 σ h) (k:Nat) (hk:h[k]? =some (cuI c v bs)) (D:Dr σ0 v bs):
  ∃(ds:List GV) (s:State) (τ:St),Aa s<=6000/\Ret Tryz.prog Rv [c] σ (.agg ds) τ/\Hx σ0 τ (.th (own A5 ds s)::h):=by
 have key:∃ w τ,Ret Tryz.prog Rv [c] σ w τ/\∃ ds s,w= .agg ds/\Aa s<=6000/\Hx σ0 τ (.th (own A5 ds s)::h):=by
  refine D8 A9b (Z0z rfl) H ?_
  simp +contextual (disch:=omega) only[go_sem,A1c]
  intro n2 f2 τ2 H2
  have g2:=Al (h:=h) f2
  obtain⟨x,τ3,hx,R3,H3⟩:=Bw H2 (k+1) hk D 14 (by decide) (by decide)
  refine by_k R3 H3 ?_
  simp +contextual (disch:=omega) only[go_sem]
  obtain⟨y,τ4,hy,R4,H4⟩:=Bw H3 (k+1) hk D 60 (by decide) (by decide)
  refine by_k R4 H4 ?_
  simp +contextual (disch:=omega) only[go_sem]
  obtain⟨os,s,τ5,hg,R5,H5⟩:=Zh H4 (k+1) hk D
  have hok:=hg.ok Xg
  have hms:=hok.ms
  refine by_k R5 H5 ?_
  simp +contextual (disch:=omega) only[go_sem]
  obtain⟨ds,τ6,R6,K6⟩:=Cl τ5 os s (H5.hp.rd 0 rfl) (by omega)
  have H6:Hx σ0 τ6 (.th (own A5 ds s)::.box 1 n2 z4::h):=Hx.era (h:=.th (own A5 ds s)::.th (own A5 os s)::.box 1 n2 z4::h) (H5.hp.add K6) 1
  obtain⟨v0,v1,v2,v3,rfl,HS⟩:=Hp.splitState H6.hp
  have HS:Hx σ0 τ6 (.th (ow pI.kd v0 s.know)::.th (ow Am.kd v1 s.tallies)::.th (ow As.kd v2 s.lives)::.th (ow Ag.kd v3 s.cells)::.box 1 n2 z4::h):=HS
  refine by_m R6 HS ?_
  have k0:=(HS.hp.sl 0 rfl).cell
  have k1:=(HS.hp.sl 1 rfl).cell
  have k2:=(HS.hp.sl 2 rfl).cell
  have k3:=(HS.hp.sl 3 rfl).cell
  clear K6 R6 R5 H5 H6 R4 R3 H4 H3 H2
  have m3:¬ ((3:Int)=0):=by decide
  have m4:¬ ((4:Int)=0):=by decide
  have m2:¬ ((2:Int)=0):=by decide
  have m5:¬ ((5:Int)=0):=by decide
  have m9:¬ ((9:Int)=0):=by decide
  simp +contextual (disch:=omega) only[go_sem,k0,k1,k2,k3]
  intro n5 f5 τ7 H7 τ8 H8
  have g5:=Al (h:=h) f5.2
  have ne25:=f5.1
  clear HS H7 f5 f2
  have hkl:=Cw hok.kn
  have nn0:B8 (some (GV.int .i64 0))=some 0:=rfl
  have nn1:B8 (some (GV.int .i64 1))=some 1:=rfl
  have nn2:B8 (some (GV.int .i64 2))=some 2:=rfl
  have fin:∀ {w0 w1 w2 w3:GV} {kn:List Int} {tl:List Tally} {lv:List Live} {cl:List Cell} {b1 b2:List GV} {τ:St},Hx σ0 τ (.box 1 n5 b1::.th (ow pI.kd w0 kn)::.th (ow Am.kd w1 tl)::.th (ow As.kd w2 lv)::.th (ow Ag.kd w3 cl)::.box 1 n2 b2::h)->Hx σ0 τ (.th (own A5 [w0,w1,w2,w3] ⟨kn,tl,lv,cl⟩)::h):=fun H=>((H.era 5).era 0).ownS
  by_cases hx0:x=0
  ·have c0:((x:Int)==0)=true:=by simp[hx0]
   rcases(show y % 3=0∨y % 3=1∨y % 3=2 by omega) with e|e|e
   ·have t3:(y:Int).tmod 3=0:=by rw[Zag (by omega)];omega
    simp +contextual (disch:=omega) only[go_sem,c0,k0,k1,k2,k3,m3,t3]
    intro n20 f20 τ9 H9
    have g20:=Al (h:=h) f20.2.2
    have hj:0<s.know.length:=by omega
    have L:=(Cc (H9.hp.sl 2 rfl) hj).1
    have I0:iadG 1 (GV.sl n20 0 3) (some 0)=some (.ptr n20 0):=rfl
    simp +contextual (disch:=omega) only[go_sem,c0,k0,k1,k2,k3,m3,t3,nn0,I0,L]
    refine Aah (p:=pI) H9 2 rfl hj (x:=gi 0) (0) rfl rfl (by decide) fun τ10 H10=> ?_
    simp +contextual (disch:=omega) only[go_sem,c0,k0,k1,k2,k3]
    intro τ11 H11
    exact⟨_,rfl,_,⟨_,_,_,_⟩,rfl,by have:=hms;unfold Aa at *;simp only[Zau];omega,fin H11.tl⟩
   ·have t3:(y:Int).tmod 3=1:=by rw[Zag (by omega)];omega
    simp +contextual (disch:=omega) only[go_sem,c0,k0,k1,k2,k3,m3,t3]
    intro n20 f20 τ9 H9
    have g20:=Al (h:=h) f20.2.2
    have hj:1<s.know.length:=by omega
    have L:=(Cc (H9.hp.sl 2 rfl) hj).1
    have I0:iadG 1 (GV.sl n20 0 3) (some 1)=some (.ptr n20 1):=rfl
    simp +contextual (disch:=omega) only[go_sem,c0,k0,k1,k2,k3,m3,t3,nn1,I0,L]
    refine Aah (p:=pI) H9 2 rfl hj (x:=gi (-1)) (-1) rfl rfl (by decide) fun τ10 H10=> ?_
    simp +contextual (disch:=omega) only[go_sem,c0,k0,k1,k2,k3]
    intro τ11 H11
    exact⟨_,rfl,_,⟨_,_,_,_⟩,rfl,by have:=hms;unfold Aa at *;simp only[Zau];omega,fin H11.tl⟩
   ·have t3:(y:Int).tmod 3=2:=by rw[Zag (by omega)];omega
    simp +contextual (disch:=omega) only[go_sem,c0,k0,k1,k2,k3,m3,t3]
    intro n20 f20 τ9 H9
    have g20:=Al (h:=h) f20.2.2
    have hj:2<s.know.length:=by omega
    have L:=(Cc (H9.hp.sl 2 rfl) hj).1
    have I0:iadG 1 (GV.sl n20 0 3) (some 2)=some (.ptr n20 2):=rfl
    simp +contextual (disch:=omega) only[go_sem,c0,k0,k1,k2,k3,m3,t3,nn2,I0,L]
    refine Aah (p:=pI) H9 2 rfl hj (x:=gi 1001) (1001) rfl rfl (by decide) fun τ10 H10=> ?_
    simp +contextual (disch:=omega) only[go_sem,c0,k0,k1,k2,k3]
    intro τ11 H11
    exact⟨_,rfl,_,⟨_,_,_,_⟩,rfl,by have:=hms;unfold Aa at *;simp only[Zau];omega,fin H11.tl⟩
  have c0:((x:Int)==0)=false:=by simp;omega
  by_cases hx1:x=1
  ·have c1:((x:Int)==1)=true:=by simp[hx1]
   obtain⟨q4,hq4⟩:∃ q,q=(y:Int).tmod 4:=⟨_,rfl⟩
   simp +contextual (disch:=omega) only[go_sem,c0,c1,k0,k1,k2,k3,m4,<-hq4]
   intro n20 f20 τ9 H9
   have g20:=Al (h:=h) f20.2.2
   have lb:=hok.tn
   refine Fn (p:=Am) H9 3 rfl ⟨⟨#[97]⟩,q4,y⟩ Cq (by decide) (by omega) fun v' τ10 H10=> ?_
   have w1:=(H10.hp.sl 3 rfl).cell
   simp +contextual (disch:=omega) only[go_sem,c0,c1,k0,k1,k2,k3,w1]
   intro τ11 H11
   intro τ12 H12
   exact⟨_,rfl,_,⟨_,_,_,_⟩,rfl,by have:=hms;unfold Aa at *;simp only[Zae,Zai,My,Bv,show(ByteArray.mk #[97]).size=1 from rfl];omega,fin H12.tl⟩
  have c1:((x:Int)==1)=false:=by simp;omega
  by_cases hx2:x=2
  ·have c2:((x:Int)==2)=true:=by simp[hx2]
   obtain⟨q4,hq4⟩:∃ q,q=(y:Int).tmod 4:=⟨_,rfl⟩
   obtain⟨q2,hq2⟩:∃ q,q=(y:Int).tmod 2:=⟨_,rfl⟩
   obtain⟨q3,hq3⟩:∃ q,q=(y:Int).tmod 3:=⟨_,rfl⟩
   obtain⟨q5,hq5⟩:∃ q,q=IntKind.i64.wrap (1+(y:Int).tmod 5):=⟨_,rfl⟩
   simp +contextual (disch:=omega) only[go_sem,c0,c1,c2,k0,k1,k2,k3,m2,m3,m4,m5,<-hq2,<-hq3,<-hq4,<-hq5]
   intro n20 f20 τ9 H9
   have g20:=Al (h:=h) f20.2.2
   have lb:=hok.ln
   refine Fn (p:=As) H9 4 rfl ⟨q2==0,⟨#[97]⟩,⟨#[120]⟩,q3,⟨q4,q5⟩⟩ Cq (by decide) (by omega) fun v' τ10 H10=> ?_
   have w2:=(H10.hp.sl 4 rfl).cell
   simp +contextual (disch:=omega) only[go_sem,c0,c1,c2,k0,k1,k2,k3,w2]
   intro τ11 H11
   intro τ12 H12
   exact⟨_,rfl,_,⟨_,_,_,_⟩,rfl,by have:=hms;unfold Aa at *;simp only[Zae,Zai,My,F0,show(ByteArray.mk #[97]).size=1 from rfl,show(ByteArray.mk #[120]).size=1 from rfl];omega,fin H12.tl⟩
  have c2:((x:Int)==2)=false:=by simp;omega
  by_cases hx3:x=3
  ·have c3:((x:Int)==3)=true:=by simp[hx3]
   obtain⟨q3,hq3⟩:∃ q,q=(y:Int).tmod 3:=⟨_,rfl⟩
   obtain⟨q9,hq9⟩:∃ q,q=(y:Int).tmod 9:=⟨_,rfl⟩
   obtain⟨p9,hp9⟩:∃ q,q=IntKind.i64.wrap (1+q9):=⟨_,rfl⟩
   simp +contextual (disch:=omega) only[go_sem,c0,c1,c2,c3,k0,k1,k2,k3,m9,m3,<-hq3,<-hq9,<-hp9]
   intro n20 f20 τ9 H9
   have g20:=Al (h:=h) f20.2.2
   have lb:=hok.cn
   refine Fn (p:=Ag) H9 5 rfl ⟨⟨#[97]⟩,⟨2,p9⟩,q9,⟨0,q3⟩,0,false⟩ Cq (by decide) (by omega) fun v' τ10 H10=> ?_
   have w3:=(H10.hp.sl 5 rfl).cell
   simp +contextual (disch:=omega) only[go_sem,c0,c1,c2,c3,k0,k1,k2,k3,w3]
   intro τ11 H11
   intro τ12 H12
   exact⟨_,rfl,_,⟨_,_,_,_⟩,rfl,by have:=hms;unfold Aa at *;simp only[Zae,Zai,My,F1,show(ByteArray.mk #[97]).size=1 from rfl];omega,fin H12.tl⟩
  have c3:((x:Int)==3)=false:=by simp;omega
  by_cases hx4:x=4
  ·have c4:((x:Int)==4)=true:=by simp[hx4]
   have hlc:=(H8.hp.sl 4 rfl).len
   cases hb:decide (0<(s.cells.length:Int)) with
   |false=>
    simp +contextual (disch:=omega) only[go_sem,c0,c1,c2,c3,c4,k0,k1,k2,k3,hlc,hb]
    intro τ9 H9
    exact⟨_,rfl,_,⟨_,_,_,_⟩,rfl,by show Aa s<=6000;omega,fin H9⟩
   |true=>
    have hb1:0<s.cells.length:=by simpa using hb
    have ml:¬ ((s.cells.length:Int)=0):=by omega
    have hj:y % s.cells.length<s.cells.length:=Nat.mod_lt _ hb1
    have tl:B8 (some (GV.int .i64 ((y:Int).tmod s.cells.length)))=some (y % s.cells.length):=Bd (by rw[Zag (by omega)];omega)
    have L:=A35 H8 4 rfl hj
    simp +contextual (disch:=omega) only[go_sem,c0,c1,c2,c3,c4,k0,k1,k2,k3,hlc,hb,ml,tl,L]
    obtain⟨C,hC⟩:∃ C:Cell,C={s.cells[y % s.cells.length] with obj:=⟨#[98]⟩}:=⟨_,rfl⟩
    have hC1:F1 C=1:=by rw[hC];rfl
    have h1:=Xs (f:=F1) s.cells (y % s.cells.length) C
    have hbd:Aa ⟨s.know,s.tallies,s.lives,s.cells.set (y % s.cells.length) C⟩<=Aa s+1:=by simp only[Aa,Zau];omega
    refine Adv (p:=Ag) H8 4 rfl hj (m:=0) (n:=1) (x:=.str ⟨#[98]⟩) C rfl (by decide) (by decide) (by rw[hC];rfl) fun τ9 H9=> ?_
    have w3:=(H9.hp.sl 4 rfl).cell
    simp +contextual (disch:=omega) only[go_sem,k0,k1,k2,w3]
    intro τ10 H10
    exact⟨_,rfl,_,⟨_,_,_,_⟩,rfl,Nat.le_trans hbd (by omega),fin H10⟩
  have c4:((x:Int)==4)=false:=by simp;omega
  simp +contextual (disch:=omega) only[go_sem,c0,c1,c2,c3,c4,k0,k1,k2,k3]
  intro τ9 H9
  exact⟨_,rfl,_,⟨_,_,_,_⟩,rfl,by show Aa s<=6000;omega,fin H9⟩
 obtain⟨w,τ,R,ds,s,rfl,hg,H'⟩:=key
 exact⟨ds,s,τ,hg,R,H'⟩
end
def Aia:Act:=⟨⟨0,0⟩,0,[],0,⟨#[]⟩,⟨#[]⟩,0,⟨0,0⟩⟩
abbrev zeA:List GV:=[gi 0,gi 0,gi 0,.nilS,gi 0,.str ⟨#[]⟩,.str ⟨#[]⟩,gi 0,gi 0,gi 0]
abbrev zeD:List GV:=[.nilS,.nilS,.nilS,.nilS,.nilS,.nilS]
theorem Afr (τ:St):kAct.O τ Aia zeA []:=⟨.nilS,[],rfl,.inl ⟨rfl,rfl,rfl⟩,rfl⟩
theorem Abs (τ:St):B9.O τ ⟨[],[],[],[],[],[]⟩ zeD []:=⟨.nilS,.nilS,.nilS,.nilS,.nilS,.nilS,[],[],[],[],[],[],rfl,.inl ⟨rfl,rfl,rfl⟩,.inl ⟨rfl,rfl,rfl⟩,.inl ⟨rfl,rfl,rfl⟩,.inl ⟨rfl,rfl,rfl⟩,.inl ⟨rfl,rfl,rfl⟩,.inl ⟨rfl,rfl,rfl⟩,rfl⟩
abbrev Tz:Nat:=220
def U0:Fn1:=⟨44,[.t 2],(rg [oX 1 0,oV 2 kf] (rg [oF 3 0 1,oW 4 2 3,o 5 (.build [z0,z0] []),o 6 (.eqs false [.i .i64,.i .i64] (.t 4) (.t 5)),oM 7 6,jF 8 7 2 1,jL 9 7 8,jE 10 7 .eql 9 0,oQ 11 7 10,oM 12 11,jF 13 12 3 1,jL 14 12 13,og 15 12 true (.len false (.t 14)),jE 16 12 .eql 15 0,oQ 17 12 16,oM 18 17,jF 19 18 4 1,jL 20 18 19,jE 21 18 .eql 20 0,oQ 22 18 21,oM 23 22,jF 24 23 5 1,jL 25 23 24,og 26 23 true (.bin .eql (.t 25) (.k s0)),oQ 27 23 26,oM 28 27,jF 29 28 6 1,jL 30 28 29,og 31 28 true (.bin .eql (.t 30) (.k s0)),oQ 32 28 31,oM 33 32,jF 34 33 7 1,jL 35 33 34,jE 36 33 .eql 35 0,oQ 37 33 36,oM 38 37,jF 39 38 8 1,jW 40 38 2 39,og 41 38 true (.build [z0,z0] []),og 42 38 true (.eqs false [.i .i64,.i .i64] (.t 40) (.t 41)),oQ 43 38 42,oM 2 43] .ret))⟩
theorem A3h:A6 Tryz.prog Tz=some U0:=by kernel_rfl
abbrev Ng:Nat:=221
def Nh:Fn1:=⟨37,[.t 2],(rg [oX 1 0,oV 2 kf] (rg [oF 3 0 1,oL 4 3,oN 5 4,oE 6 .eql 5 0,oM 7 6,jF 8 7 1 1,jL 9 7 8,og 10 7 true (.len false (.t 9)),jE 11 7 .eql 10 0,oQ 12 7 11,oM 13 12,jF 14 13 2 1,jL 15 13 14,og 16 13 true (.len false (.t 15)),jE 17 13 .eql 16 0,oQ 18 13 17,oM 19 18,jF 20 19 3 1,jL 21 19 20,og 22 19 true (.len false (.t 21)),jE 23 19 .eql 22 0,oQ 24 19 23,oM 25 24,jF 26 25 4 1,jL 27 25 26,og 28 25 true (.len false (.t 27)),jE 29 25 .eql 28 0,oQ 30 25 29,oM 31 30,jF 32 31 5 1,jL 33 31 32,og 34 31 true (.len false (.t 33)),jE 35 31 .eql 34 0,oQ 36 31 35,oM 2 36] .ret))⟩
theorem Xt:A6 Tryz.prog Ng=some Nh:=by kernel_rfl
abbrev Xu:Nat:=226
def Xv:Fn1:=⟨59,[.t 4],(rg [oX 2 0,oX 3 1,oV 4 kf] (rg [oF 5 0 2,oW 6 2 5,oF 7 0 3,oW 8 2 7,o 9 (.eqs false [.i .i64,.i .i64] (.t 6) (.t 8)),oM 10 9,jF 11 10 2 2,jL 12 10 11,jF 13 10 2 3,jL 14 10 13,jB 15 10 .eql 12 14,oQ 16 10 15,oM 17 16,jF 18 17 3 2,jL 19 17 18,jF 20 17 3 3,jL 21 17 20,jD 22 17 156 19 21,oQ 23 17 22,oM 24 23,jF 25 24 4 2,jL 26 24 25,jF 27 24 4 3,jL 28 24 27,jB 29 24 .eql 26 28,oQ 30 24 29,oM 31 30,jF 32 31 5 2,jL 33 31 32,jF 34 31 5 3,jL 35 31 34,jB 36 31 .eql 33 35,oQ 37 31 36,oM 38 37,jF 39 38 6 2,jL 40 38 39,jF 41 38 6 3,jL 42 38 41,jB 43 38 .eql 40 42,oQ 44 38 43,oM 45 44,jF 46 45 7 2,jL 47 45 46,jF 48 45 7 3,jL 49 45 48,jB 50 45 .eql 47 49,oQ 51 45 50,oM 52 51,jF 53 52 8 2,jW 54 52 2 53,jF 55 52 8 3,jW 56 52 2 55,og 57 52 true (.eqs false [.i .i64,.i .i64] (.t 54) (.t 56)),oQ 58 52 57,oM 4 58] .ret))⟩
theorem A6e:A6 Tryz.prog Xu=some Xv:=by kernel_rfl
abbrev Q2:Nat:=227
def Q3:Fn1:=⟨45,[.t 4],(rg [oX 2 0,oX 3 1,oV 4 kf] (rg [oF 5 0 2,oL 6 5,oF 7 0 3,oL 8 7,oD 9 156 6 8,oM 10 9,jF 11 10 1 2,jL 12 10 11,jF 13 10 1 3,jL 14 10 13,jD 15 10 156 12 14,oQ 16 10 15,oM 17 16,jF 18 17 2 2,jL 19 17 18,jF 20 17 2 3,jL 21 17 20,jD 22 17 307 19 21,oQ 23 17 22,oM 24 23,jF 25 24 3 2,jL 26 24 25,jF 27 24 3 3,jL 28 24 27,jD 29 24 308 26 28,oQ 30 24 29,oM 31 30,jF 32 31 4 2,jL 33 31 32,jF 34 31 4 3,jL 35 31 34,jD 36 31 309 33 35,oQ 37 31 36,oM 38 37,jF 39 38 5 2,jL 40 38 39,jF 41 38 5 3,jL 42 38 41,jD 43 38 310 40 42,oQ 44 38 43,oM 4 44] .ret))⟩
theorem Zi:A6 Tryz.prog Q2=some Q3:=by kernel_rfl
abbrev Xw:Nat:=97
def Og:Fn1:=⟨21,[.t 2],(rg [oX 1 0,oV 2 kf] (.seq (rg [oF 3 0 1,oL 4 3] (cn 4 (rg [oF 5 11 1,oW 6 6 5,oC 7 219 6,oM 8 7,jF 9 8 1 1,jW 10 8 10 9,jC 11 8 220 10,oQ 12 8 11,oM 2 12] .ret) .skip)) (rg [oF 13 1 1,oW 14 10 13,oC 15 185 14,oM 16 15,jF 17 16 11 1,jW 18 16 6 17,jC 19 16 221 18,oQ 20 16 19,oM 2 20] .ret)))⟩
theorem A6f:A6 Tryz.prog Xw=some Og:=by kernel_rfl
abbrev A1d:Nat:=101
def Rx:Fn1:=⟨23,[.t 2],(rg [oX 1 0,oV 2 kf] (.seq (rg [oF 3 0 1,oL 4 3] (cn 4 (rg [oF 5 11 1,oW 6 6 5,oC 7 225 6,oM 8 7,jF 9 8 1 1,jW 10 8 10 9,og 11 8 true (.build [z0,z0,z0,.nilS,z0,s0,s0,z0,z0,z0] []),jD 12 8 226 10 11,oQ 13 8 12,oM 2 13] .ret) .skip)) (rg [oF 14 1 1,oW 15 10 14,oC 16 169 15,oM 17 16,jF 18 17 11 1,jW 19 17 6 18,og 20 17 true (.build [.nilS,.nilS,.nilS,.nilS,.nilS,.nilS] []),jD 21 17 227 19 20,oQ 22 17 21,oM 2 22] .ret)))⟩
theorem A9c:A6 Tryz.prog A1d=some Rx:=by kernel_rfl
abbrev Cm:Nat:=307
def Bk:Fn1:=⟨26,[.t 4],(rg [oV 4 kf] (.seq (rg [oM 6 0,oN 7 6,oM 8 1,oN 9 8,oB 10 .neq 7 9] (cn 10 (rg [oV 4 kf] .ret) .skip)) (.seq (rg [oM 11 0,oN 12 11,oV 13 (ki 0)] (.blk 0 (.lop (rg [oB 14 .lss 13 12] (.seq (cn 14 .skip (.ext 0)) (.seq (.blk 1 (rg [oM 15 13,oM 5 15] (dw [oM 16 0,oM 17 5,oI 18 3 16 17,oW 19 3 18,oM 20 1,oM 21 5,oI 22 3 20 21,oW 23 3 22] [o 24 (.eqs true [.s,.i .i64,.i .i64] (.t 19) (.t 23))] (cn 24 (rg [oV 4 kf] .ret) .skip)))) (.reg [oZ 25 13 1,oM 13 25]))))))) (rg [oV 4 kt] .ret))))⟩
theorem Ef:A6 Tryz.prog Cm=some Bk:=by kernel_rfl
abbrev Cu:Nat:=308
def Bq:Fn1:=⟨26,[.t 4],(rg [oV 4 kf] (.seq (rg [oM 6 0,oN 7 6,oM 8 1,oN 9 8,oB 10 .neq 7 9] (cn 10 (rg [oV 4 kf] .ret) .skip)) (.seq (rg [oM 11 0,oN 12 11,oV 13 (ki 0)] (.blk 0 (.lop (rg [oB 14 .lss 13 12] (.seq (cn 14 .skip (.ext 0)) (.seq (.blk 1 (rg [oM 15 13,oM 5 15] (dw [oM 16 0,oM 17 5,oI 18 6 16 17,oW 19 6 18,oM 20 1,oM 21 5,oI 22 6 20 21,oW 23 6 22] [o 24 (.eqs true [.b,.s,.s,.i .i64,.i .i64,.i .i64] (.t 19) (.t 23))] (cn 24 (rg [oV 4 kf] .ret) .skip)))) (.reg [oZ 25 13 1,oM 13 25]))))))) (rg [oV 4 kt] .ret))))⟩
theorem Ew:A6 Tryz.prog Cu=some Bq:=by kernel_rfl
abbrev Da:Nat:=309
def Bx:Fn1:=⟨26,[.t 4],(rg [oV 4 kf] (.seq (rg [oM 6 0,oN 7 6,oM 8 1,oN 9 8,oB 10 .neq 7 9] (cn 10 (rg [oV 4 kf] .ret) .skip)) (.seq (rg [oM 11 0,oN 12 11,oV 13 (ki 0)] (.blk 0 (.lop (rg [oB 14 .lss 13 12] (.seq (cn 14 .skip (.ext 0)) (.seq (.blk 1 (rg [oM 15 13,oM 5 15] (dw [oM 16 0,oM 17 5,oI 18 2 16 17,oW 19 2 18,oM 20 1,oM 21 5,oI 22 2 20 21,oW 23 2 22] [o 24 (.eqs true [.i .i64,.i .i64] (.t 19) (.t 23))] (cn 24 (rg [oV 4 kf] .ret) .skip)))) (.reg [oZ 25 13 1,oM 13 25]))))))) (rg [oV 4 kt] .ret))))⟩
theorem Fq:A6 Tryz.prog Da=some Bx:=by kernel_rfl
abbrev Cv:Nat:=310
def Br:Fn1:=⟨26,[.t 4],(rg [oV 4 kf] (.seq (rg [oM 6 0,oN 7 6,oM 8 1,oN 9 8,oB 10 .neq 7 9] (cn 10 (rg [oV 4 kf] .ret) .skip)) (.seq (rg [oM 11 0,oN 12 11,oV 13 (ki 0)] (.blk 0 (.lop (rg [oB 14 .lss 13 12] (.seq (cn 14 .skip (.ext 0)) (.seq (.blk 1 (rg [oM 15 13,oM 5 15] (dw [oM 16 0,oM 17 5,oI 18 8 16 17,oW 19 8 18,oM 20 1,oM 21 5,oI 22 8 20 21,oW 23 8 22] [o 24 (.eqs true [.s,.i .i64,.i .i64,.i .i64,.i .i64,.i .i64,.i .i64,.b] (.t 19) (.t 23))] (cn 24 (rg [oV 4 kf] .ret) .skip)))) (.reg [oZ 25 13 1,oM 13 25]))))))) (rg [oV 4 kt] .ret))))⟩
theorem Ey:A6 Tryz.prog Cv=some Br:=by kernel_rfl
theorem Lf (σ:St) (v u:GV) (l m:List Tally) (hv:RS Am.kd σ v l) (hu:RS Am.kd σ u m) (hl:l.length<=1099511627776):Ret Tryz.prog Cm [v,u] σ (.bool (decide (l=m))) σ:=by
 refine E5 Ef (Z0z rfl) trivial ?_
 by_cases hlm:l.length=m.length
 rotate_left
 ·have b:((l.length:Int) != (m.length:Int))=true:=by simp;omega
  have d:decide (l=m)=false:=decide_eq_false fun h=>hlm (by rw[h])
  simp +contextual (disch:=omega) only[go_sem,Bk,hv.len,hu.len,b,d]
  try exact fun _=>rfl
 have b:((l.length:Int) != (m.length:Int))=false:=by simp;omega
 simp +contextual (disch:=omega) only[go_sem,Bk,hv.len,hu.len,b]
 refine Bu l.length 13 0 (fun i env h=>env 0=v/\env 1=u/\env 12=gi l.length/\l.take i=m.take i/\h=[]) (fun env h=>l=m) (fun env h=>env 4= .bool false/\l≠m) _ (Hx.refl σ) (by simp +contextual (disch:=omega) only[go_sem]) ⟨by simp +contextual (disch:=omega) only[go_sem],by simp +contextual (disch:=omega) only[go_sem],by simp +contextual (disch:=omega) only[go_sem],rfl,rfl⟩ ?_ ?_ ?_ ?_
 ·rintro J Y W hJ hY hW i env h' τ hi ei c0 H ⟨e0,e1,e12,he,rfl⟩
  have hj:i<m.length:=by omega
  have L1:=Ae hv hi
  have L2:=Ae hu hj
  by_cases hx:l[i]=m[i]
  ·have b:decide (l[i]=m[i])=true:=decide_eq_true hx
   simp +contextual (disch:=omega) only[go_sem,c0,e0,e1,e12,ei,A0,L1,L2,b]
   exact hJ _ _ _ _ H ⟨by simp +contextual (disch:=omega) only[go_sem,e0],by simp +contextual (disch:=omega) only[go_sem,e1],by simp +contextual (disch:=omega) only[go_sem,e12],by rw[Ap hi,Ap hj,he,hx],rfl⟩
  ·have b:decide (l[i]=m[i])=false:=decide_eq_false hx
   simp +contextual (disch:=omega) only[go_sem,c0,e0,e1,e12,ei,A0,L1,L2,b]
   exact hW _ _ _ H ⟨by simp +contextual (disch:=omega) only[go_sem],fun h=>hx (by subst h;rfl)⟩
 ·rintro Y hY env h' τ ei c0 H ⟨e0,e1,e12,he,rfl⟩
  simp +contextual (disch:=omega) only[go_sem,c0,e12,ei]
  rw[Zac,hlm,Zac] at he
  exact hY _ _ _ H he
 ·rintro env h' τ H hx
  simp +contextual (disch:=omega) only[go_sem,hx,decide_true]
 ·rintro env h' τ H ⟨e4,hx⟩
  simp +contextual (disch:=omega) only[go_sem,e4,hx,decide_false]
theorem Mc (σ:St) (v u:GV) (l m:List Live) (hv:RS As.kd σ v l) (hu:RS As.kd σ u m) (hl:l.length<=1099511627776):Ret Tryz.prog Cu [v,u] σ (.bool (decide (l=m))) σ:=by
 refine E5 Ew (Z0z rfl) trivial ?_
 by_cases hlm:l.length=m.length
 rotate_left
 ·have b:((l.length:Int) != (m.length:Int))=true:=by simp;omega
  have d:decide (l=m)=false:=decide_eq_false fun h=>hlm (by rw[h])
  simp +contextual (disch:=omega) only[go_sem,Bq,hv.len,hu.len,b,d]
  try exact fun _=>rfl
 have b:((l.length:Int) != (m.length:Int))=false:=by simp;omega
 simp +contextual (disch:=omega) only[go_sem,Bq,hv.len,hu.len,b]
 refine Bu l.length 13 0 (fun i env h=>env 0=v/\env 1=u/\env 12=gi l.length/\l.take i=m.take i/\h=[]) (fun env h=>l=m) (fun env h=>env 4= .bool false/\l≠m) _ (Hx.refl σ) (by simp +contextual (disch:=omega) only[go_sem]) ⟨by simp +contextual (disch:=omega) only[go_sem],by simp +contextual (disch:=omega) only[go_sem],by simp +contextual (disch:=omega) only[go_sem],rfl,rfl⟩ ?_ ?_ ?_ ?_
 ·rintro J Y W hJ hY hW i env h' τ hi ei c0 H ⟨e0,e1,e12,he,rfl⟩
  have hj:i<m.length:=by omega
  have L1:=A7 hv hi
  have L2:=A7 hu hj
  by_cases hx:l[i]=m[i]
  ·have b:decide (l[i]=m[i])=true:=decide_eq_true hx
   simp +contextual (disch:=omega) only[go_sem,c0,e0,e1,e12,ei,A0,L1,L2,b]
   exact hJ _ _ _ _ H ⟨by simp +contextual (disch:=omega) only[go_sem,e0],by simp +contextual (disch:=omega) only[go_sem,e1],by simp +contextual (disch:=omega) only[go_sem,e12],by rw[Ap hi,Ap hj,he,hx],rfl⟩
  ·have b:decide (l[i]=m[i])=false:=decide_eq_false hx
   simp +contextual (disch:=omega) only[go_sem,c0,e0,e1,e12,ei,A0,L1,L2,b]
   exact hW _ _ _ H ⟨by simp +contextual (disch:=omega) only[go_sem],fun h=>hx (by subst h;rfl)⟩
 ·rintro Y hY env h' τ ei c0 H ⟨e0,e1,e12,he,rfl⟩
  simp +contextual (disch:=omega) only[go_sem,c0,e12,ei]
  rw[Zac,hlm,Zac] at he
  exact hY _ _ _ H he
 ·rintro env h' τ H hx
  simp +contextual (disch:=omega) only[go_sem,hx,decide_true]
 ·rintro env h' τ H ⟨e4,hx⟩
  simp +contextual (disch:=omega) only[go_sem,e4,hx,decide_false]
theorem N3 (σ:St) (v u:GV) (l m:List Dot) (hv:RS pDot.kd σ v l) (hu:RS pDot.kd σ u m) (hl:l.length<=1099511627776):Ret Tryz.prog Da [v,u] σ (.bool (decide (l=m))) σ:=by
 refine E5 Fq (Z0z rfl) trivial ?_
 by_cases hlm:l.length=m.length
 rotate_left
 ·have b:((l.length:Int) != (m.length:Int))=true:=by simp;omega
  have d:decide (l=m)=false:=decide_eq_false fun h=>hlm (by rw[h])
  simp +contextual (disch:=omega) only[go_sem,Bx,hv.len,hu.len,b,d]
  try exact fun _=>rfl
 have b:((l.length:Int) != (m.length:Int))=false:=by simp;omega
 simp +contextual (disch:=omega) only[go_sem,Bx,hv.len,hu.len,b]
 refine Bu l.length 13 0 (fun i env h=>env 0=v/\env 1=u/\env 12=gi l.length/\l.take i=m.take i/\h=[]) (fun env h=>l=m) (fun env h=>env 4= .bool false/\l≠m) _ (Hx.refl σ) (by simp +contextual (disch:=omega) only[go_sem]) ⟨by simp +contextual (disch:=omega) only[go_sem],by simp +contextual (disch:=omega) only[go_sem],by simp +contextual (disch:=omega) only[go_sem],rfl,rfl⟩ ?_ ?_ ?_ ?_
 ·rintro J Y W hJ hY hW i env h' τ hi ei c0 H ⟨e0,e1,e12,he,rfl⟩
  have hj:i<m.length:=by omega
  have L1:=Ky hv hi
  have L2:=Ky hu hj
  by_cases hx:l[i]=m[i]
  ·have b:decide (l[i]=m[i])=true:=decide_eq_true hx
   simp +contextual (disch:=omega) only[go_sem,c0,e0,e1,e12,ei,A0,L1,L2,b]
   exact hJ _ _ _ _ H ⟨by simp +contextual (disch:=omega) only[go_sem,e0],by simp +contextual (disch:=omega) only[go_sem,e1],by simp +contextual (disch:=omega) only[go_sem,e12],by rw[Ap hi,Ap hj,he,hx],rfl⟩
  ·have b:decide (l[i]=m[i])=false:=decide_eq_false hx
   simp +contextual (disch:=omega) only[go_sem,c0,e0,e1,e12,ei,A0,L1,L2,b]
   exact hW _ _ _ H ⟨by simp +contextual (disch:=omega) only[go_sem],fun h=>hx (by subst h;rfl)⟩
 ·rintro Y hY env h' τ ei c0 H ⟨e0,e1,e12,he,rfl⟩
  simp +contextual (disch:=omega) only[go_sem,c0,e12,ei]
  rw[Zac,hlm,Zac] at he
  exact hY _ _ _ H he
 ·rintro env h' τ H hx
  simp +contextual (disch:=omega) only[go_sem,hx,decide_true]
 ·rintro env h' τ H ⟨e4,hx⟩
  simp +contextual (disch:=omega) only[go_sem,e4,hx,decide_false]
theorem Md (σ:St) (v u:GV) (l m:List Cell) (hv:RS Ag.kd σ v l) (hu:RS Ag.kd σ u m) (hl:l.length<=1099511627776):Ret Tryz.prog Cv [v,u] σ (.bool (decide (l=m))) σ:=by
 refine E5 Ey (Z0z rfl) trivial ?_
 by_cases hlm:l.length=m.length
 rotate_left
 ·have b:((l.length:Int) != (m.length:Int))=true:=by simp;omega
  have d:decide (l=m)=false:=decide_eq_false fun h=>hlm (by rw[h])
  simp +contextual (disch:=omega) only[go_sem,Br,hv.len,hu.len,b,d]
  try exact fun _=>rfl
 have b:((l.length:Int) != (m.length:Int))=false:=by simp;omega
 simp +contextual (disch:=omega) only[go_sem,Br,hv.len,hu.len,b]
 refine Bu l.length 13 0 (fun i env h=>env 0=v/\env 1=u/\env 12=gi l.length/\l.take i=m.take i/\h=[]) (fun env h=>l=m) (fun env h=>env 4= .bool false/\l≠m) _ (Hx.refl σ) (by simp +contextual (disch:=omega) only[go_sem]) ⟨by simp +contextual (disch:=omega) only[go_sem],by simp +contextual (disch:=omega) only[go_sem],by simp +contextual (disch:=omega) only[go_sem],rfl,rfl⟩ ?_ ?_ ?_ ?_
 ·rintro J Y W hJ hY hW i env h' τ hi ei c0 H ⟨e0,e1,e12,he,rfl⟩
  have hj:i<m.length:=by omega
  have L1:=A8 hv hi
  have L2:=A8 hu hj
  by_cases hx:l[i]=m[i]
  ·have b:decide (l[i]=m[i])=true:=decide_eq_true hx
   simp +contextual (disch:=omega) only[go_sem,c0,e0,e1,e12,ei,A0,L1,L2,b]
   exact hJ _ _ _ _ H ⟨by simp +contextual (disch:=omega) only[go_sem,e0],by simp +contextual (disch:=omega) only[go_sem,e1],by simp +contextual (disch:=omega) only[go_sem,e12],by rw[Ap hi,Ap hj,he,hx],rfl⟩
  ·have b:decide (l[i]=m[i])=false:=decide_eq_false hx
   simp +contextual (disch:=omega) only[go_sem,c0,e0,e1,e12,ei,A0,L1,L2,b]
   exact hW _ _ _ H ⟨by simp +contextual (disch:=omega) only[go_sem],fun h=>hx (by subst h;rfl)⟩
 ·rintro Y hY env h' τ ei c0 H ⟨e0,e1,e12,he,rfl⟩
  simp +contextual (disch:=omega) only[go_sem,c0,e12,ei]
  rw[Zac,hlm,Zac] at he
  exact hY _ _ _ H he
 ·rintro env h' τ H hx
  simp +contextual (disch:=omega) only[go_sem,hx,decide_true]
 ·rintro env h' τ H ⟨e4,hx⟩
  simp +contextual (disch:=omega) only[go_sem,e4,hx,decide_false]
def Ry (a b:Act):Bool:=decide (a.dot=b.dot)&&(a.time==b.time&&(decide (a.knew=b.knew)&&(a.kind==b.kind&&(decide (a.obj=b.obj)&&(decide (a.key=b.key)&&(a.val==b.val&&decide (a.ref=b.ref)))))))
def A6g (a:Act):Bool:=decide (a.dot=⟨0,0⟩)&&(a.time==0&&(a.knew.isEmpty&&(a.kind==0&&(decide (a.obj=⟨#[]⟩)&&(decide (a.key=⟨#[]⟩)&&(a.val==0&&decide (a.ref=⟨0,0⟩)))))))
abbrev delta0:Delta:=⟨[],[],[],[],[],[]⟩
def Kr (d:Delta):Bool:=d.base.isEmpty&&(d.know.isEmpty&&(d.tallies.isEmpty&&(d.lives.isEmpty&&(d.dead.isEmpty&&d.cells.isEmpty))))
def Q4 (a b:Delta):Bool:=decide (a.base=b.base)&&(decide (a.know=b.know)&&(decide (a.tallies=b.tallies)&&(decide (a.lives=b.lives)&&(decide (a.dead=b.dead)&&decide (a.cells=b.cells)))))
def E6 (u:Unit_):Bool:=if u.batch then Ca u.delta&&A6g u.act else Eb u.act&&Kr u.delta
theorem len0 {α:Type} (l:List α):((l.length:Int)==0)=l.isEmpty:=by cases l<;>simp;omega
theorem isE {α:Type} (l:List α) {i:Decidable (l=[])}: @decide (l=[]) i=l.isEmpty:=by cases l<;>simp
theorem Abt (d:Delta):Q4 d delta0=Kr d:=by
 simp only[Kr,delta0,Q4,isE]
theorem Ul (σ:St) (cs:List GV) (d:Delta) (hR:B9.R σ d cs):Ret Tryz.prog Ng [.agg cs] σ (.bool (Kr d)) σ:=by
 obtain⟨v0,v1,v2,v3,v4,v5,rfl,q0,q1,q2,q3,q4,q5⟩:=hR
 refine E5 Xt (Z0z rfl) trivial ?_
 unfold Kr
 simp +contextual (disch:=omega) only[go_sem,Nh]
 intro n f τ H
 simp +contextual (disch:=omega) only[go_sem,q0.len,q1.len,q2.len,q3.len,q4.len,q5.len,len0]
 cases h0:d.base.isEmpty with
 |false=>
  simp +contextual (disch:=omega) only[go_sem,Zaa,q0.len,q1.len,q2.len,q3.len,q4.len,q5.len,len0]
  try exact fun _=>rfl
 |true=>
  simp +contextual (disch:=omega) only[go_sem,Zab,q0.len,q1.len,q2.len,q3.len,q4.len,q5.len,len0]
  cases h1:d.know.isEmpty with
  |false=>
   simp +contextual (disch:=omega) only[go_sem,Zaa,q0.len,q1.len,q2.len,q3.len,q4.len,q5.len,len0]
   try exact fun _=>rfl
  |true=>
   simp +contextual (disch:=omega) only[go_sem,Zab,q0.len,q1.len,q2.len,q3.len,q4.len,q5.len,len0]
   cases h2:d.tallies.isEmpty with
   |false=>
    simp +contextual (disch:=omega) only[go_sem,Zaa,q0.len,q1.len,q2.len,q3.len,q4.len,q5.len,len0]
    try exact fun _=>rfl
   |true=>
    simp +contextual (disch:=omega) only[go_sem,Zab,q0.len,q1.len,q2.len,q3.len,q4.len,q5.len,len0]
    cases h3:d.lives.isEmpty with
    |false=>
     simp +contextual (disch:=omega) only[go_sem,Zaa,q0.len,q1.len,q2.len,q3.len,q4.len,q5.len,len0]
     try exact fun _=>rfl
    |true=>
     simp +contextual (disch:=omega) only[go_sem,Zab,q0.len,q1.len,q2.len,q3.len,q4.len,q5.len,len0]
     cases h4:d.dead.isEmpty with
     |false=>
      simp +contextual (disch:=omega) only[go_sem,Zaa,q0.len,q1.len,q2.len,q3.len,q4.len,q5.len,len0]
      try exact fun _=>rfl
     |true=>
      simp +contextual (disch:=omega) only[go_sem,Zab,q0.len,q1.len,q2.len,q3.len,q4.len,q5.len,len0]
theorem Xx (σ:St) (cs ds:List GV) (d e:Delta) (hR:B9.R σ d cs) (hS:B9.R σ e ds) (hl:Ay d<=1099511627776):Ret Tryz.prog Q2 [.agg cs,.agg ds] σ (.bool (Q4 d e)) σ:=by
 obtain⟨v0,v1,v2,v3,v4,v5,rfl,q0,q1,q2,q3,q4,q5⟩:=hR
 obtain⟨u0,u1,u2,u3,u4,u5,rfl,p0,p1,p2,p3,p4,p5⟩:=hS
 obtain⟨l0,l1,l2,l3,l4,l5,t2,t3,t5⟩:=Kp hl
 refine E5 Zi (Z0z rfl) trivial ?_
 unfold Q4
 simp +contextual (disch:=omega) only[go_sem,Q3]
 intro n f τ0 _ m g τ H
 have S:=H.sub
 refine by_b H (Ec _ v0 u0 _ _ (q0.pre S) (p0.pre S) l0) (fun h0=> ?_) (fun h0=> ?_)
 rotate_left
 ·simp +contextual (disch:=omega) only[go_sem,h0,Zaa]
  try exact fun _=>rfl
 simp +contextual (disch:=omega) only[go_sem,h0,Zab]
 refine by_b H (Ec _ v1 u1 _ _ (q1.pre S) (p1.pre S) l1) (fun h1=> ?_) (fun h1=> ?_)
 rotate_left
 ·simp +contextual (disch:=omega) only[go_sem,h1,Zaa]
  try exact fun _=>rfl
 simp +contextual (disch:=omega) only[go_sem,h1,Zab]
 refine by_b H (Lf _ v2 u2 _ _ (q2.pre S) (p2.pre S) l2) (fun h2=> ?_) (fun h2=> ?_)
 rotate_left
 ·simp +contextual (disch:=omega) only[go_sem,h2,Zaa]
  try exact fun _=>rfl
 simp +contextual (disch:=omega) only[go_sem,h2,Zab]
 refine by_b H (Mc _ v3 u3 _ _ (q3.pre S) (p3.pre S) l3) (fun h3=> ?_) (fun h3=> ?_)
 rotate_left
 ·simp +contextual (disch:=omega) only[go_sem,h3,Zaa]
  try exact fun _=>rfl
 simp +contextual (disch:=omega) only[go_sem,h3,Zab]
 refine by_b H (N3 _ v4 u4 _ _ (q4.pre S) (p4.pre S) l4) (fun h4=> ?_) (fun h4=> ?_)
 rotate_left
 ·simp +contextual (disch:=omega) only[go_sem,h4,Zaa]
  try exact fun _=>rfl
 simp +contextual (disch:=omega) only[go_sem,h4,Zab]
 refine by_r H (Md _ v5 u5 _ _ (q5.pre S) (p5.pre S) l5) ?_
 simp +contextual (disch:=omega) only[go_sem]
theorem Afs (a:Act):Ry a Aia=A6g a:=by
 show(decide (a.dot=⟨0,0⟩)&&(a.time==0&&(decide (a.knew=[])&&(a.kind==0&&(decide (a.obj=⟨#[]⟩)&&(decide (a.key=⟨#[]⟩)&&(a.val==0&&decide (a.ref=⟨0,0⟩))))))))=_
 simp only[isE,A6g]
theorem Zj (σ:St) (cs:List GV) (a:Act) (hR:kAct.R σ a cs):Ret Tryz.prog Tz [.agg cs] σ (.bool (A6g a)) σ:=by
 obtain⟨v,rfl,q⟩:=hR
 refine E5 A3h (Z0z rfl) trivial ?_
 unfold A6g
 simp +contextual (disch:=omega) only[go_sem,U0]
 intro n f τ H
 cases h0:decide (a.dot=⟨0,0⟩) with
 |false=>
  simp +contextual (disch:=omega) only[go_sem,Zaa,q.len,len0]
  try exact fun _=>rfl
 |true=>
  simp +contextual (disch:=omega) only[go_sem,Zab,q.len,len0]
  cases h1:a.time==0 with
  |false=>
   simp +contextual (disch:=omega) only[go_sem,Zaa,q.len,len0]
   try exact fun _=>rfl
  |true=>
   simp +contextual (disch:=omega) only[go_sem,Zab,q.len,len0]
   cases h2:a.knew.isEmpty with
   |false=>
    simp +contextual (disch:=omega) only[go_sem,Zaa,q.len,len0]
    try exact fun _=>rfl
   |true=>
    simp +contextual (disch:=omega) only[go_sem,Zab,q.len,len0]
    cases h3:a.kind==0 with
    |false=>
     simp +contextual (disch:=omega) only[go_sem,Zaa,q.len,len0]
     try exact fun _=>rfl
    |true=>
     simp +contextual (disch:=omega) only[go_sem,Zab,q.len,len0]
     cases h4:decide (a.obj=⟨#[]⟩) with
     |false=>
      simp +contextual (disch:=omega) only[go_sem,Zaa,q.len,len0]
      try exact fun _=>rfl
     |true=>
      simp +contextual (disch:=omega) only[go_sem,Zab,q.len,len0]
      cases h5:decide (a.key=⟨#[]⟩) with
      |false=>
       simp +contextual (disch:=omega) only[go_sem,Zaa,q.len,len0]
       try exact fun _=>rfl
      |true=>
       simp +contextual (disch:=omega) only[go_sem,Zab,q.len,len0]
       cases h6:a.val==0 with
       |false=>
        simp +contextual (disch:=omega) only[go_sem,Zaa,q.len,len0]
        try exact fun _=>rfl
       |true=>
        simp +contextual (disch:=omega) only[go_sem,Zab,q.len,len0]
theorem A3i (σ:St) (cs ds:List GV) (a b:Act) (hR:kAct.R σ a cs) (hS:kAct.R σ b ds) (hl:a.knew.length<=1099511627776):Ret Tryz.prog Xu [.agg cs,.agg ds] σ (.bool (Ry a b)) σ:=by
 obtain⟨v,rfl,q⟩:=hR
 obtain⟨u,rfl,p⟩:=hS
 refine E5 A6e (Z0z rfl) trivial ?_
 unfold Ry
 simp +contextual (disch:=omega) only[go_sem,Xv]
 intro n f τ0 _ m g τ H
 have S:=H.sub
 cases h0:decide (a.dot=b.dot) with
 |false=>
  simp +contextual (disch:=omega) only[go_sem,Zaa]
  try exact fun _=>rfl
 |true=>
  simp +contextual (disch:=omega) only[go_sem,Zab]
  cases h1:a.time==b.time with
  |false=>
   simp +contextual (disch:=omega) only[go_sem,Zaa]
   try exact fun _=>rfl
  |true=>
   simp +contextual (disch:=omega) only[go_sem,Zab]
   refine by_b H (Ec _ v u _ _ (q.pre S) (p.pre S) hl) (fun k1=> ?_) (fun k1=> ?_)
   rotate_left
   ·simp +contextual (disch:=omega) only[go_sem,k1,Zaa]
    try exact fun _=>rfl
   simp +contextual (disch:=omega) only[go_sem,k1,Zab]
   cases h0:a.kind==b.kind with
   |false=>
    simp +contextual (disch:=omega) only[go_sem,Zaa]
    try exact fun _=>rfl
   |true=>
    simp +contextual (disch:=omega) only[go_sem,Zab]
    cases h1:decide (a.obj=b.obj) with
    |false=>
     simp +contextual (disch:=omega) only[go_sem,Zaa]
     try exact fun _=>rfl
    |true=>
     simp +contextual (disch:=omega) only[go_sem,Zab]
     cases h2:decide (a.key=b.key) with
     |false=>
      simp +contextual (disch:=omega) only[go_sem,Zaa]
      try exact fun _=>rfl
     |true=>
      simp +contextual (disch:=omega) only[go_sem,Zab]
      cases h3:a.val==b.val with
      |false=>
       simp +contextual (disch:=omega) only[go_sem,Zaa]
       try exact fun _=>rfl
      |true=>
       simp +contextual (disch:=omega) only[go_sem,Zab]
abbrev unV (x:Unit_) (kv d0 d1 d2 d3 d4 d5:GV):List GV:=[.bool x.batch,.int .i64 x.act.dot.rep,.int .i64 x.act.dot.seq,.int .i64 x.act.time,kv,.int .i64 x.act.kind,.str x.act.obj,.str x.act.key,.int .i64 x.act.val,.int .i64 x.act.ref.rep,.int .i64 x.act.ref.seq,d0,d1,d2,d3,d4,d5]
theorem Gg {σ:St} {x:Unit_} {cs:List GV} (h:Ad.R σ x cs):∃ kv d0 d1 d2 d3 d4 d5,cs=unV x kv d0 d1 d2 d3 d4 d5/\kAct.R σ x.act (actV x.act kv)/\B9.R σ x.delta [d0,d1,d2,d3,d4,d5]:=by
 obtain⟨v1,v2,rfl,hA,hD⟩:=h
 have hA0:=hA
 have hD0:=hD
 obtain⟨kv,rfl,_⟩:=hA
 obtain⟨d0,d1,d2,d3,d4,d5,rfl,_⟩:=hD
 exact⟨kv,d0,d1,d2,d3,d4,d5,rfl,hA0,hD0⟩
theorem act0_R (σ:St):kAct.R σ Aia zeA:=kAct.rd (Afr σ)
theorem Aft (σ:St):B9.R σ delta0 zeD:=B9.rd (Abs σ)
theorem Hg (σ:St) (cs:List GV) (x:Unit_) (hR:Ad.R σ x cs) (hl:Aw x<=1073741824):Ret Tryz.prog Xw [.agg cs] σ (.bool (E6 x)) σ:=by
 obtain⟨kv,d0,d1,d2,d3,d4,d5,rfl,hA,hD⟩:=Gg hR
 have hma:Dm x.act<=1073741824/\Ay x.delta<=1073741824:=by unfold Aw at hl;omega
 refine E5 A6f (Z0z rfl) trivial ?_
 cases hb:x.batch with
 |true=>
  have hu:E6 x=(Ca x.delta&&A6g x.act):=by unfold E6;rw[if_pos hb]
  rw[hu]
  simp +contextual (disch:=omega) only[go_sem,Og,hb]
  intro n f τ H
  refine by_b H (A3b _ _ _ (B9.pre hD H.sub) (by omega)) (fun h1=> ?_) (fun h1=> ?_)
  rotate_left
  ·simp +contextual (disch:=omega) only[go_sem,h1,Zaa]
  simp +contextual (disch:=omega) only[go_sem]
  refine by_r H (Zj _ _ _ (kAct.pre hA H.sub)) ?_
  simp +contextual (disch:=omega) only[go_sem,h1,Zab]
 |false=>
  have hu:E6 x=(Eb x.act&&Kr x.delta):=by unfold E6;rw[if_neg (by simp[hb])]
  rw[hu]
  simp +contextual (disch:=omega) only[go_sem,Og,hb]
  intro n f τ H
  refine by_b H (Nx _ _ _ (kAct.pre hA H.sub) (by omega)) (fun h1=> ?_) (fun h1=> ?_)
  rotate_left
  ·simp +contextual (disch:=omega) only[go_sem,h1,Zaa]
  simp +contextual (disch:=omega) only[go_sem]
  refine by_r H (Ul _ _ _ (B9.pre hD H.sub)) ?_
  simp +contextual (disch:=omega) only[go_sem,h1,Zab]
theorem A6h (σ:St) (cs:List GV) (x:Unit_) (hR:Ad.R σ x cs) (hl:Aw x<=1073741824):Ret Tryz.prog A1d [.agg cs] σ (.bool (E6 x)) σ:=by
 obtain⟨kv,d0,d1,d2,d3,d4,d5,rfl,hA,hD⟩:=Gg hR
 have hma:Dm x.act<=1073741824/\Ay x.delta<=1073741824:=by unfold Aw at hl;omega
 refine E5 A9c (Z0z rfl) trivial ?_
 cases hb:x.batch with
 |true=>
  have hu:E6 x=(Ca x.delta&&A6g x.act):=by unfold E6;rw[if_pos hb]
  rw[hu]
  simp +contextual (disch:=omega) only[go_sem,Rx,hb]
  intro n f τ H
  refine by_b H (A39 _ _ _ (B9.pre hD H.sub) (by omega)) (fun h1=> ?_) (fun h1=> ?_)
  rotate_left
  ·simp +contextual (disch:=omega) only[go_sem,h1,Zaa]
  simp +contextual (disch:=omega) only[go_sem]
  refine by_r H (A3i _ _ _ _ _ (kAct.pre hA H.sub) (act0_R _) (by have:=hma.1;unfold Dm at this;omega)) ?_
  simp +contextual (disch:=omega) only[go_sem,h1,Zab,Afs]
 |false=>
  have hu:E6 x=(Eb x.act&&Kr x.delta):=by unfold E6;rw[if_neg (by simp[hb])]
  rw[hu]
  simp +contextual (disch:=omega) only[go_sem,Rx,hb]
  intro n f τ H
  refine by_b H (A7z _ _ _ (kAct.pre hA H.sub) (by omega)) (fun h1=> ?_) (fun h1=> ?_)
  rotate_left
  ·simp +contextual (disch:=omega) only[go_sem,h1,Zaa]
  simp +contextual (disch:=omega) only[go_sem]
  refine by_r H (Xx _ _ _ _ _ (B9.pre hD H.sub) (Aft _) (by omega)) ?_
  simp +contextual (disch:=omega) only[go_sem,h1,Zab,Abt]
abbrev Oh:Nat:=211
def Xy:Fn1:=⟨11,[.c 2 true 10],(rg [oX 1 0,o 2 (.new [z0,z0,z0,.nilS,z0,s0,s0,z0,z0,z0])] (rg [oW 4 10 1,o 3 (.new [z0,z0,z0,.nilS,z0,s0,s0,z0,z0,z0]),oS 10 3 4] (rg [o 5 (.lit 1 0 [] []),oF 6 3 1,oL 7 6,o 8 (.app 1 8 [z0] (.t 5) (.t 7)),oF 9 3 3,oS 1 9 8] (rg [oW 10 10 3,oS 10 2 10] .ret))))⟩
theorem A6i:A6 Tryz.prog Oh=some Xy:=by kernel_rfl
abbrev Oi:Nat:=194
def Xz:Fn1:=⟨8,[.c 2 true 10],(rg [oX 1 0,o 2 (.new [z0,z0,z0,.nilS,z0,s0,s0,z0,z0,z0])] (rg [oF 3 3 1,oL 4 3,oC 5 182 4,oF 6 3 1,oS 1 6 5] (rg [oW 7 10 1,oS 10 2 7] .ret)))⟩
theorem A6j:A6 Tryz.prog Oi=some Xz:=by kernel_rfl
abbrev A1e:Nat:=80
def A1f:Fn1:=⟨48,[.t 4],(rg [o 4 (.mov (.k .nilS))] (rg [o 7 (.lit 10 0 [] []),oM 5 7] (.seq (rg [oV 6 (ki 0)] (.blk 0 (.lop (.seq (rg [oM 8 6,oM 9 0,oN 10 9,oB 11 .lss 8 10] (cn 11 .skip (.ext 0))) (.seq (.blk 1 (rg [oM 14 0,oM 15 6,oI 16 17 14 15,oF 17 0 16,oL 18 17,oU 19 18,oM 20 19,jM 21 20 0,jM 22 20 6,jI 23 20 17 21 22,jW 24 20 17 23,jC 25 20 97 24,oQ 26 20 25,oM 27 26,jM 28 27 0,jM 29 27 6,jI 30 27 17 28 29,jF 31 27 1 30,jF 32 27 0 31,jF 33 27 0 32,jL 34 27 33,jM 35 27 1,jB 36 27 .eql 34 35,oQ 37 27 36] (cn 37 (.reg [oM 38 5,oM 39 0,oM 40 6,oI 41 17 39 40,oF 42 1 41,oW 43 10 42,oC 44 211 43,o 45 (.lit 10 1 [z0,z0,z0,.nilS,z0,s0,s0,z0,z0,z0] [(0,10,(.t 44))]),o 46 (.app 10 112 [z0,z0,z0,.nilS,z0,s0,s0,z0,z0,z0] (.t 38) (.t 45)),oM 5 46]) .skip))) (.reg [oM 12 6,oZ 13 12 1,oM 6 13])))))) (rg [oM 47 5,oM 4 47] .ret))))⟩
theorem A9d:A6 Tryz.prog A1e=some A1f:=by kernel_rfl
abbrev A1g:Nat:=68
def A1h:Fn1:=⟨38,[.t 4],(rg [o 4 (.mov (.k .nilS))] (rg [o 8 (.lit 10 0 [] []),oM 5 8] (.seq (rg [oM 9 0,oN 10 9,oV 11 (ki 0)] (.blk 0 (.lop (rg [oB 12 .lss 11 10] (.seq (cn 12 .skip (.ext 0)) (.seq (.blk 1 (rg [oI 13 17 9 11,oW 14 17 13,o 7 (.new [(.bool false),z0,z0,z0,.nilS,z0,s0,s0,z0,z0,z0,.nilS,.nilS,.nilS,.nilS,.nilS,.nilS]),oS 17 7 14] (rg [oW 15 17 7,oC 16 101 15,oM 17 16,jF 18 17 0 7,jL 19 17 18,jU 20 17 19,oQ 21 17 20,oM 22 21,jF 23 22 1 7,jF 24 22 0 23,jF 25 22 0 24,jL 26 22 25,jM 27 22 1,jB 28 22 .eql 26 27,oQ 29 22 28] (cn 29 (.reg [oM 30 5,oF 31 1 7,oW 32 10 31,oC 33 194 32,o 34 (.lit 10 1 [z0,z0,z0,.nilS,z0,s0,s0,z0,z0,z0] [(0,10,(.t 33))]),o 35 (.app 10 112 [z0,z0,z0,.nilS,z0,s0,s0,z0,z0,z0] (.t 30) (.t 34)),oM 5 35]) .skip)))) (.reg [oZ 36 11 1,oM 11 36]))))))) (rg [oM 37 5,oM 4 37] .ret))))⟩
theorem A9e:A6 Tryz.prog A1g=some A1h:=by kernel_rfl
theorem Hh (σ:St) (cs:List GV) (x:Act) (hR:kAct.R σ x cs) (hl:x.knew.length<=1099511627776):∃ r τ,Ret Tryz.prog Oh [.agg cs] σ (.agg r) τ/\Hp σ τ [own kAct r x]:=by
 obtain⟨v,rfl,q⟩:=hR
 have key:∃ w τ,Ret Tryz.prog Oh [.agg (actV x v)] σ w τ/\∃ r,w= .agg r/\Hp σ τ [own kAct r x]:=by
  refine D8 A6i (Z0z rfl) (Hx.refl σ) ?_
  simp +contextual (disch:=omega) only[go_sem,Xy]
  intro n1 f1 τ1 H1 n2 f2 τ2 H2 n3 f3 τ3 _ τ4 _ n4 f4 τ5 H5
  refine Ze (p:=pI) H5 (q.pre H5.sub) (by decide) (by omega) fun w τ6 H6=> ?_
  have cw:=(H6.hp.sl 0 rfl).cell
  simp +contextual (disch:=omega) only[go_sem,cw]
  intro τ7 _ τ8 H8
  exact⟨_,rfl,_,rfl,Hp.ownAct (x:=x) (H8.sel [0] (by decide))⟩
 obtain⟨q,τ,R,r,rfl,h⟩:=key
 exact⟨r,τ,R,h⟩
theorem A3j (σ:St) (cs:List GV) (x:Act) (hR:kAct.R σ x cs) (hl:x.knew.length<=1099511627776):∃ r τ,Ret Tryz.prog Oi [.agg cs] σ (.agg r) τ/\Hp σ τ [own kAct r x]:=by
 obtain⟨v,rfl,q⟩:=hR
 have key:∃ w τ,Ret Tryz.prog Oi [.agg (actV x v)] σ w τ/\∃ r,w= .agg r/\Hp σ τ [own kAct r x]:=by
  refine D8 A6j (Z0z rfl) (Hx.refl σ) ?_
  simp +contextual (disch:=omega) only[go_sem,Xz]
  intro n1 f1 τ1 H1 n2 f2 τ2 H2
  obtain⟨w,τ3,R3,K3⟩:=Z9 τ2 v _ (q.pre H2.sub) hl
  refine by_c H2 R3 K3 fun H3=> ?_
  have cw:=(H3.hp.sl 0 rfl).cell
  simp +contextual (disch:=omega) only[go_sem,cw]
  intro τ4 _ τ5 H5
  exact⟨_,rfl,_,rfl,Hp.ownAct (x:=x) (H5.sel [0] (by decide))⟩
 obtain⟨q,τ,R,r,rfl,h⟩:=key
 exact⟨r,τ,R,h⟩
def J7 (r:Int) (u:Unit_):Bool:=E6 u&&(!u.batch&&u.act.dot.rep==r)
def F6 (us:List Unit_) (r:Int):List Act:=(us.filter (J7 r)).map (·.act)
theorem aby_t {l:List Unit_} {r:Int} {i:Nat} (hi:i<l.length) (hp:J7 r l[i]=true):F6 (l.take (i+1)) r=F6 (l.take i) r++[l[i].act]:=by
 unfold F6;rw[X8 hi hp,Zak];rfl
theorem Abu {l:List Unit_} {r:Int} {i:Nat} (hi:i<l.length) (hp:J7 r l[i]=false):F6 (l.take (i+1)) r=F6 (l.take i) r:=by
 unfold F6;rw[Zf hi hp]
theorem Agl (l:List Unit_) (r:Int) (i:Nat):(F6 (l.take i) r).length<=l.length:=by
 unfold F6;rw[Za0];exact Tq (Nat.le_refl _)
theorem Mz {σ:St} {v:GV} {l:List Unit_} (h:RS Ad σ v l) {i:Nat} (hi:i<l.length):∃ kv d0 d1 d2 d3 d4 d5,(iadG 17 v (some i)=some (atz 17 v i)/\(∀ k,fadG k (atz 17 v i)=some (fld k (atz 17 v i)))/\(∀ k m,fadG k (fld m (atz 17 v i))=some (fld (m+k) (atz 17 v i)))/\ldG true 17 σ (atz 17 v i)=some (.agg (unV l[i] kv d0 d1 d2 d3 d4 d5))/\ldG false 1 σ (fld 0 (atz 17 v i))=some (.bool l[i].batch)/\ldG false 1 σ (fld 1 (atz 17 v i))=some (gi l[i].act.dot.rep)/\ldG true 10 σ (fld 1 (atz 17 v i))=some (.agg (actV l[i].act kv)))/\Ad.R σ l[i] (unV l[i] kv d0 d1 d2 d3 d4 d5)/\kAct.R σ l[i].act (actV l[i].act kv)/\B9.R σ l[i].delta [d0,d1,d2,d3,d4,d5]:=by
 obtain⟨cs,⟨h1,h2,h3,h4,h5⟩,h6⟩:=RdN.cellsN h hi
 obtain⟨kv,d0,d1,d2,d3,d4,d5,rfl,hA,hD⟩:=Gg h6
 exact⟨kv,d0,d1,d2,d3,d4,d5,⟨h1,h2,h3,h4,h5 0 1 false (by decide),h5 1 1 false (by decide),h5 1 10 true (by decide)⟩,h6,hA,hD⟩
theorem A6k (σ:St) (v:GV) (l:List Unit_) (h:RS Ad σ v l) (r:Int) (hl:l.length+sumL Aw l<=1048576):∃ w τ,Ret Tryz.prog A1e [v,gi r] σ w τ/\Hp σ τ [ow kAct w (F6 l r)]:=by
 refine D8 A9d (Z0z rfl) (Hx.refl σ) ?_
 simp +contextual (disch:=omega) only[go_sem,A1f]
 intro n1 f1 τ1 H1
 refine Bu l.length 6 0 (fun i env h=>env 0=v/\env 1=gi r/\∃ w,env 5=w/\h=[.th (ow kAct w (F6 (l.take i) r))]) (fun env h=>∃ w,env 5=w/\h=[.th (ow kAct w (F6 l r))]) (fun _ _=>False) _ (H1.emp kAct rfl) (by simp +contextual (disch:=omega) only[go_sem]) ⟨by simp +contextual (disch:=omega) only[go_sem],by simp +contextual (disch:=omega) only[go_sem],_,by simp +contextual (disch:=omega) only[go_sem],rfl⟩ ?_ ?_ ?_ (fun _ _ _ _ h=>h.elim)
 ·clear H1
  rintro J Y W hJ hY hW i env h' τ hi ei c0 H ⟨e0,e1,w,e5,rfl⟩
  obtain⟨kv,d0,d1,d2,d3,d4,d5,U,hU,hA,hD⟩:=Mz h hi
  have hmu:Aw l[i]<=sumL Aw l:=Gj (f:=Aw) (Zaj hi)
  have hkn:l[i].act.knew.length<=Aw l[i]:=by unfold Aw Dm;omega
  have hle:=Agl l r i
  cases hb:l[i].batch with
  |true=>
   have hp:J7 r l[i]=false:=by simp[J7,hb]
   simp +contextual (disch:=omega) only[go_sem,c0,e0,e1,e5,ei,A0,h.len,U,hb]
   exact hJ _ _ _ _ H ⟨by simp +contextual (disch:=omega) only[go_sem,e0],by simp +contextual (disch:=omega) only[go_sem,e1],w,by simp +contextual (disch:=omega) only[go_sem,e5],by rw[Abu hi hp]⟩
  |false=>
   simp +contextual (disch:=omega) only[go_sem,c0,e0,e1,e5,ei,A0,h.len,U,hb]
   refine by_b H (Hg _ _ l[i] (Ad.pre hU H.sub) (by omega)) (fun h1=> ?_) (fun h1=> ?_)
   rotate_left
   ·have hp:J7 r l[i]=false:=by simp[J7,hb,h1]
    simp +contextual (disch:=omega) only[go_sem,c0,e0,e1,e5,ei]
    exact hJ _ _ _ _ H ⟨by simp +contextual (disch:=omega) only[go_sem,e0],by simp +contextual (disch:=omega) only[go_sem,e1],w,by simp +contextual (disch:=omega) only[go_sem,e5],by rw[Abu hi hp]⟩
   cases h2:l[i].act.dot.rep==r with
   |false=>
    have hp:J7 r l[i]=false:=by simp[J7,hb,h1,h2]
    simp +contextual (disch:=omega) only[go_sem,c0,e0,e1,e5,ei,A0,U,h2]
    exact hJ _ _ _ _ H ⟨by simp +contextual (disch:=omega) only[go_sem,e0],by simp +contextual (disch:=omega) only[go_sem,e1],w,by simp +contextual (disch:=omega) only[go_sem,e5],by rw[Abu hi hp]⟩
   |true=>
    have hp:J7 r l[i]=true:=by simp[J7,hb,h1,h2]
    simp +contextual (disch:=omega) only[go_sem,c0,e0,e1,e5,ei,A0,U,h2]
    obtain⟨q,τ2,R2,K2⟩:=Hh τ _ l[i].act (kAct.pre hA H.sub) (by omega)
    have ql:q.length=10:=kAct.len (K2.rd 0 rfl)
    refine by_c H R2 K2 fun H2=> ?_
    simp +contextual (disch:=omega) only[go_sem,Ab (cs:=zeA) ql rfl,ql,e5]
    intro n3 f3 τ3 H3
    refine Kl H3 1 1 rfl rfl Cq (by decide) (by omega) fun w' τ4 H4=> ?_
    simp +contextual (disch:=omega) only[go_sem,ei]
    exact hJ _ _ _ _ (H4.re [1] (by decide)) ⟨by simp +contextual (disch:=omega) only[go_sem,e0],by simp +contextual (disch:=omega) only[go_sem,e1],w',by simp +contextual (disch:=omega) only[go_sem],by rw[aby_t hi hp];rfl⟩
 ·clear H1
  rintro Y hY env h' τ ei c0 H ⟨e0,e1,w,e5,rfl⟩
  simp +contextual (disch:=omega) only[go_sem,c0,e0,ei,h.len]
  exact hY _ _ _ H ⟨w,e5,by rw[Zac]⟩
 ·rintro env h' τ H ⟨w,e5,rfl⟩
  simp +contextual (disch:=omega) only[go_sem,e5]
  exact fun _=>⟨_,rfl,H.hp⟩
theorem A6l (σ:St) (v:GV) (l:List Unit_) (h:RS Ad σ v l) (r:Int) (hl:l.length+sumL Aw l<=1048576):∃ w τ,Ret Tryz.prog A1g [v,gi r] σ w τ/\Hp σ τ [ow kAct w (F6 l r)]:=by
 refine D8 A9e (Z0z rfl) (Hx.refl σ) ?_
 simp +contextual (disch:=omega) only[go_sem,A1h,h.len]
 intro n1 f1 τ1 H1
 refine Bu l.length 11 0 (fun i env h=>env 9=v/\env 10=gi l.length/\env 1=gi r/\∃ w,env 5=w/\h=[.th (ow kAct w (F6 (l.take i) r))]) (fun env h=>∃ w,env 5=w/\h=[.th (ow kAct w (F6 l r))]) (fun _ _=>False) _ (H1.emp kAct rfl) (by simp +contextual (disch:=omega) only[go_sem]) ⟨by simp +contextual (disch:=omega) only[go_sem],by simp +contextual (disch:=omega) only[go_sem],by simp +contextual (disch:=omega) only[go_sem],_,by simp +contextual (disch:=omega) only[go_sem],rfl⟩ ?_ ?_ ?_ (fun _ _ _ _ h=>h.elim)
 ·clear H1
  rintro J Y W hJ hY hW i env h' τ hi ei c0 H ⟨e9,e10,e1,w,e5,rfl⟩
  obtain⟨kv,d0,d1,d2,d3,d4,d5,U,hU,hA,hD⟩:=Mz h hi
  have hmu:Aw l[i]<=sumL Aw l:=Gj (f:=Aw) (Zaj hi)
  have hkn:l[i].act.knew.length<=Aw l[i]:=by unfold Aw Dm;omega
  have hle:=Agl l r i
  simp +contextual (disch:=omega) only[go_sem,c0,e9,e10,e1,e5,ei,A0,U]
  intro n2 f2 τ2 _ τ3 H3
  refine by_b H3 (A6h _ _ l[i] (Ad.pre hU H3.sub) (by omega)) (fun h1=> ?_) (fun h1=> ?_)
  rotate_left
  ·have hp:J7 r l[i]=false:=by simp[J7,h1]
   simp +contextual (disch:=omega) only[go_sem,c0,e9,e10,e1,e5,ei]
   exact hJ _ _ _ _ (H3.re [1] (by decide)) ⟨by simp +contextual (disch:=omega) only[go_sem,e9],by simp +contextual (disch:=omega) only[go_sem,e10],by simp +contextual (disch:=omega) only[go_sem,e1],w,by simp +contextual (disch:=omega) only[go_sem,e5],by rw[Abu hi hp];rfl⟩
  cases hb:l[i].batch with
  |true=>
   have hp:J7 r l[i]=false:=by simp[J7,hb]
   simp +contextual (disch:=omega) only[go_sem,e9,e10,e1,e5,ei,hb]
   exact hJ _ _ _ _ (H3.re [1] (by decide)) ⟨by simp +contextual (disch:=omega) only[go_sem,e9],by simp +contextual (disch:=omega) only[go_sem,e10],by simp +contextual (disch:=omega) only[go_sem,e1],w,by simp +contextual (disch:=omega) only[go_sem,e5],by rw[Abu hi hp];rfl⟩
  |false=>
   cases h2:l[i].act.dot.rep==r with
   |false=>
    have hp:J7 r l[i]=false:=by simp[J7,hb,h1,h2]
    simp +contextual (disch:=omega) only[go_sem,e9,e10,e1,e5,ei,hb,h2]
    exact hJ _ _ _ _ (H3.re [1] (by decide)) ⟨by simp +contextual (disch:=omega) only[go_sem,e9],by simp +contextual (disch:=omega) only[go_sem,e10],by simp +contextual (disch:=omega) only[go_sem,e1],w,by simp +contextual (disch:=omega) only[go_sem,e5],by rw[Abu hi hp];rfl⟩
   |true=>
    have hp:J7 r l[i]=true:=by simp[J7,hb,h1,h2]
    simp +contextual (disch:=omega) only[go_sem,e9,e10,e1,e5,ei,hb,h2]
    obtain⟨q,τ4,R4,K4⟩:=A3j τ3 _ l[i].act (kAct.pre hA H3.sub) (by omega)
    have ql:q.length=10:=kAct.len (K4.rd 0 rfl)
    refine by_c H3 R4 K4 fun H4=> ?_
    simp +contextual (disch:=omega) only[go_sem,Ab (cs:=zeA) ql rfl,ql,e5]
    intro n3 f3 τ5 H5
    refine Kl H5 1 2 rfl rfl Cq (by decide) (by omega) fun w' τ6 H6=> ?_
    simp +contextual (disch:=omega) only[go_sem,ei]
    exact hJ _ _ _ _ (H6.re [2] (by decide)) ⟨by simp +contextual (disch:=omega) only[go_sem,e9],by simp +contextual (disch:=omega) only[go_sem,e10],by simp +contextual (disch:=omega) only[go_sem,e1],w',by simp +contextual (disch:=omega) only[go_sem],by rw[aby_t hi hp];rfl⟩
 ·clear H1
  rintro Y hY env h' τ ei c0 H ⟨e9,e10,e1,w,e5,rfl⟩
  simp +contextual (disch:=omega) only[go_sem,c0,e10,ei]
  exact hY _ _ _ H ⟨w,e5,by rw[Zac]⟩
 ·rintro env h' τ H ⟨w,e5,rfl⟩
  simp +contextual (disch:=omega) only[go_sem,e5]
  exact fun _=>⟨_,rfl,H.hp⟩
def bun (rs:List Thg):Thg:=⟨fun τ fp=>sat τ rs fp,fun h hf=>h.loc hf⟩
theorem A3k {τ:St} {rs:List Thg}:∀ {xs:List Thg} {fp:List Nat},sat τ (xs++rs) fp↔sat τ (xs++[bun rs]) fp
 |[],fp=>⟨fun h=>⟨fp,[],h,rfl,by simp⟩,fun⟨a,b,h,hb,e⟩=>by
  have hb:b=[]:=hb
  subst hb
  rw[e,Za5];exact h⟩
 |x::xs,fp=>⟨fun ⟨a,b,h,hs,e⟩=>⟨a,b,h,A3k.1 hs,e⟩,fun⟨a,b,h,hs,e⟩=>⟨a,b,h,A3k.2 hs,e⟩⟩
theorem Hp.bun {σ τ:St} (xs rs:List Thg) (H:Hp σ τ (xs++rs)):Hp σ τ (xs++[bun rs]):=by
 obtain⟨h,fp,hs,hn,hb⟩:=H
 exact⟨h,fp,A3k.1 hs,hn,hb⟩
theorem Hp.unbun {σ τ:St} (xs rs:List Thg) (H:Hp σ τ (xs++[Sy.bun rs])):Hp σ τ (xs++rs):=by
 obtain⟨h,fp,hs,hn,hb⟩:=H
 exact⟨h,fp,A3k.2 hs,hn,hb⟩
def told {α:Type} (d:Kd α):Kd (α×List GV) where
 z:=d.z
 R σ x cs:=d.R σ x.1 cs/\cs=x.2
 O σ x cs fp:=d.O σ x.1 cs fp/\cs=x.2
 len:=fun h=>d.len h.1
 pre:=fun h hp=>⟨d.pre h.1 hp,h.2⟩
 rd:=fun h=>⟨d.rd h.1,h.2⟩
 loc:=fun h hf=>⟨d.loc h.1 hf,h.2⟩
section
variable {α:Type} {d:Kd α} {σ τ:St} {rs:List Thg} {v:GV} {l:List α} {m:List (α×List GV)} {h:List Item}
theorem Ae4 {css:List (List GV)} {fps:List (List Nat)} (h:All3 (d.O τ) l css fps):∃ m:List (α×List GV),m.map Prod.fst=l/\All3 ((told d).O τ) m css fps:=by
 induction h with
 |nil=>exact⟨[],rfl,.nil⟩
 | @cons a b c l' bs cs h _ ih=>
  obtain⟨m,rfl,hm⟩:=ih
  exact⟨(a,b)::m,rfl,.cons ⟨h,rfl⟩ hm⟩
theorem A9f {css:List (List GV)} {fps:List (List Nat)} (h:All3 ((told d).O τ) m css fps):All3 (d.O τ) (m.map Prod.fst) css fps:=by
 induction h with
 |nil=>exact .nil
 |cons h _ ih=>exact .cons h.1 ih
theorem Hp.tell (H:Hp σ τ (ow d v l::rs)):∃ m:List (α×List GV),m.map Prod.fst=l/\Hp σ τ (ow (told d) v m::rs):=by
 obtain⟨h,fp,⟨a,b,hr,hs,rfl⟩,hn,hb⟩:=H
 rcases hr with⟨rfl,rfl,rfl⟩|⟨g,pre,css,post,fps,rfl,hB,hA,rfl⟩
 ·exact⟨[],rfl,h,_,⟨[],b,.inl ⟨rfl,rfl,rfl⟩,hs,rfl⟩,hn,hb⟩
 ·obtain⟨m,rfl,hm⟩:=Ae4 hA
  exact⟨m,rfl,h,_,⟨_,b,.inr ⟨g,pre,css,post,fps,by rw[Za0],hB,hm,rfl⟩,hs,rfl⟩,hn,hb⟩
theorem Hp.untell (H:Hp σ τ (ow (told d) v m::rs)):Hp σ τ (ow d v (m.map Prod.fst)::rs):=
 H.conv fun fp h=>by
  rcases h with⟨rfl,rfl,rfl⟩|⟨g,pre,css,post,fps,rfl,hB,hA,rfl⟩
  ·exact .inl ⟨rfl,rfl,rfl⟩
  ·exact .inr ⟨g,pre,css,post,fps,by rw[Za0],hB,A9f hA,rfl⟩
theorem Hx.told_rd (H:Hx σ τ h) (i:Nat) (hi:h[i]? =some (.th (ow (told d) v m))) {j:Nat} (hj:j<m.length):iadG d.z v (some j)=some (atz d.z v j)/\(∀ k,fadG k (atz d.z v j)=some (fld k (atz d.z v j)))/\(∀ k q,fadG k (fld q (atz d.z v j))=some (fld (q+k) (atz d.z v j)))/\ldX σ h τ true d.z (atz d.z v j)=some (.agg m[j].2)/\(∀ k n a x,k+n<=d.z->(seg m[j].2 k n).bind (mkv a)=some x->ldX σ h τ a n (fld k (atz d.z v j))=some x)/\d.R τ m[j].1 m[j].2:=by
 obtain⟨cs,⟨h1,h2,h3,h4,h5⟩,h6,rfl⟩:=RdN.cellsN (d:=told d) (H.hp.sl i (at_t hi)) hj
 exact⟨h1,h2,h3,Gf H h4,fun k n a x hk hx=>Gf H ((h5 k n a hk).trans hx),h6⟩
def shs (d:Kd α) (l:List (List GV×α)):Thg:=⟨fun τ fp=>∃ os:List (List GV×α),sat τ (os.map fun x=>own d x.1 x.2) fp/\∀ x∈l,x∈os,fun {σ τ fp} h hf=>by
 obtain⟨os,hs,hm⟩:=h
 exact⟨os,sat.loc hs hf,hm⟩⟩
variable {s s':List (List GV×α)} {cs:List GV} {x:α}
theorem Hp.shs1 (H:Hp σ τ (own d cs x::rs)):Hp σ τ (shs d [(cs,x)]::rs):=
 H.conv fun fp h=>⟨[(cs,x)],⟨fp,[],h,rfl,by simp⟩,fun y hy=>hy⟩
theorem Hp.shsLe (hl:∀ y∈s',y∈s) (H:Hp σ τ (shs d s::rs)):Hp σ τ (shs d s'::rs):=
 H.conv fun fp ⟨os,h1,h2⟩=>⟨os,h1,fun y hy=>h2 y (hl y hy)⟩
theorem Hp.shsAdd (H:Hp σ τ (own d cs x::shs d s::rs)):Hp σ τ (shs d ((cs,x)::s)::rs):=by
 obtain⟨h,fp,⟨a,_,hr,⟨b,c,⟨os,h1,h2⟩,hs,rfl⟩,rfl⟩,hn,hb⟩:=H
 refine⟨h,_,⟨a++b,c,⟨(cs,x)::os,⟨a,b,hr,h1,rfl⟩,fun y hy=> ?_⟩,hs,rfl⟩,by rw[Za2];exact hn,fun g hg=>hb g (by rw[Za2] at hg;exact hg)⟩
 rcases Zaq.1 hy with rfl|hy
 ·exact Za9
 ·exact Za6 _ (h2 y hy)
theorem sat_rd {os:List (List GV×α)} {τ:St}:∀ {fp:List Nat},sat τ (os.map fun x=>own d x.1 x.2) fp->∀ y∈os,d.R τ y.2 y.1:=by
 induction os with
 |nil=>intro fp _ y hy;cases hy
 |cons z os ih=>
  rintro fp ⟨a,b,hr,hs,rfl⟩ y hy
  rcases Zaq.1 hy with rfl|hy
  ·exact d.rd hr
  ·exact ih hs y hy
theorem Hp.shs_rd (H:Hp σ τ rs) (i:Nat) (hi:rs[i]? =some (shs d s)) {y:List GV×α} (hy:y∈s):d.R τ y.2 y.1:=by
 obtain⟨fp,⟨os,h1,h2⟩,_⟩:=(H.pick i hi).turn
 exact sat_rd h1 y (h2 y hy)
end
abbrev Rz:Nat:=278
def A1i:Fn1:=⟨57,[.c 2 true 10],(rg [o 2 (.new [z0,z0,z0,.nilS,z0,s0,s0,z0,z0,z0])] (rg [oM 5 0,oC 6 347 5,oM 7 0,o 8 (.call 163 [(.t 7),(ki 9)]),o 9 (.bin .add (ki 1) (.t 8)),oM 10 0,oC 11 344 10,oM 12 0,o 13 (.call 163 [(.t 12),(ki 7)]),o 14 (.bin .add (ki 1) (.t 13)),oM 15 0,oC 16 293 15,o 17 (.build [z0,z0,z0,.nilS,z0,s0,s0,z0,z0,z0] [(0,2,(.t 6)),(2,1,(.t 9)),(3,1,(.t 11)),(4,1,(.t 14)),(5,1,(.t 16))]),o 3 (.new [z0,z0,z0,.nilS,z0,s0,s0,z0,z0,z0]),oS 10 3 17] (rg [oF 18 3 3,oL 19 18,oF 20 0 3,oF 21 0 20,oL 22 21,oF 23 0 3,oF 24 1 23,oL 25 24,oE 26 .sub 25 1,oI 27 1 19 22,oS 1 27 26] (.seq (rg [oF 28 4 3,oL 29 28,oC 30 332 29] (cn 30 (.reg [oM 31 0,oC 32 201 31,oF 33 6 3,oS 1 33 32]) .skip)) (.seq (rg [oF 34 4 3,oL 35 34,oC 36 333 35] (cn 36 (.reg [oM 37 0,o 38 (.lit 1 4 [z0,z0,z0,z0] [(0,1,(ki 0)),(1,1,(ki 1)),(2,1,(ki 7)),(3,1,(ki 999999))]),oD 39 331 37 38,oF 40 7 3,oS 1 40 39]) .skip)) (.seq (rg [oF 41 4 3,oL 42 41,oE 43 .geq 42 6] (cn 43 (rg [oM 44 0,oC 45 347 44,o 4 (.new [z0,z0]),oS 2 4 45] (rg [oF 46 3 3,oL 47 46,oW 48 2 4,oD 49 45 47 48] (cn 49 (.reg [oW 50 2 4,oF 51 8 3,oS 2 51 50]) (rg [oF 52 4 3,oL 53 52,oE 54 .eql 53 7] (cn 54 (.reg [oF 55 4 3,on (.st 1 (.t 55) (ki 6))]) .skip))))) .skip)) (rg [oW 56 10 3,oS 10 2 56] .ret)))))))⟩
theorem A9g:A6 Tryz.prog Rz=some A1i:=by kernel_rfl
abbrev S3:Nat:=175
def A1j:Fn1:=⟨65,[.c 2 true 10],(rg [o 2 (.new [z0,z0,z0,.nilS,z0,s0,s0,z0,z0,z0])] (rg [oM 6 0,o 7 (.call 163 [(.t 6),(ki 12)]),oM 3 7] (rg [oM 8 0,o 9 (.call 163 [(.t 8),(ki 60)]),oM 4 9] (rg [oM 10 0,oC 11 278 10,oC 12 211 11,o 5 (.new [z0,z0,z0,.nilS,z0,s0,s0,z0,z0,z0]),oS 10 5 12] (.seq (rg [oM 13 3] (.blk 0 (rg [oE 15 .eql 13 0,oM 14 15] (cn 14 (.reg [oM 16 4,oE 17 .rem 16 7,oF 18 0 5,oF 19 1 18,oS 1 19 17]) (rg [oE 21 .eql 13 1,oM 20 21] (cn 20 (.reg [o 22 (.lit 1 3 [z0,z0,z0] [(0,1,(ki 0)),(1,1,(ki 10000)),(2,1,(ki 10001))]),oM 23 4,oE 24 .rem 23 3,oI 25 1 22 24,oL 26 25,oF 27 2 5,oS 1 27 26]) (rg [oE 29 .eql 13 2,oM 28 29] (cn 28 (.reg [oM 30 4,oE 31 .rem 30 10,oF 32 4 5,oS 1 32 31]) (rg [oE 34 .eql 13 3,oM 33 34] (cn 33 (.reg [o 35 (.lit 1 3 [s0,s0,s0] [(0,1,(.k s0)),(1,1,(.k (.str ⟨#[120]⟩))),(2,1,(.k (.str ⟨#[88]⟩)))]),oM 36 4,oE 37 .rem 36 3,oI 38 1 35 37,oL 39 38,oF 40 6 5,oS 1 40 39]) (rg [oE 42 .eql 13 4,oM 41 42] (cn 41 (.reg [o 43 (.lit 1 3 [z0,z0,z0] [(0,1,(ki (-1))),(1,1,(ki 5)),(2,1,(ki 1000000))]),oM 44 4,oE 45 .rem 44 3,oI 46 1 43 45,oL 47 46,oF 48 7 5,oS 1 48 47]) (rg [oE 50 .eql 13 5,oM 49 50] (cn 49 (.reg [oM 51 4,oE 52 .rem 51 4,oM 53 4,oE 54 .rem 53 3,o 55 (.build [z0,z0] [(0,1,(.t 52)),(1,1,(.t 54))]),oF 56 8 5,oS 2 56 55]) (rg [oE 58 .eql 13 6,oM 57 58] (cn 57 (.reg [oF 59 3 5,oL 60 59,o 61 (.lit 1 1 [z0] [(0,1,(ki 1))]),o 62 (.app 1 8 [z0] (.t 60) (.t 61)),oF 63 3 5,oS 1 63 62]) .skip)))))))))))))))) (rg [oW 64 10 5,oS 10 2 64] .ret))))))⟩
theorem A9h:A6 Tryz.prog S3=some A1j:=by kernel_rfl
section
variable {P:Program} {σ:St} {env:Env} {h:List Item} {τ:St} {Q:Qx} {a b:Cd}
theorem Ae5 (Z:Env->List Item->St->Prop) (h1:sxc P σ a (fun e env h τ=>e= .nxt/\Z env h τ) env h τ) (h2:∀ env h τ,Z env h τ->Q .nxt env h τ):sxc P σ a Q env h τ:=
 V7 (fun e env h τ q=>by obtain⟨rfl,q⟩:=q;exact h2 _ _ _ q) h1
theorem Ae6 {c:Option Bool} (Z:Env->List Item->St->Prop) (h1:ifS P σ a b (fun e env h τ=>e= .nxt/\Z env h τ) env h τ c) (h2:∀ env h τ,Z env h τ->Q .nxt env h τ):ifS P σ a b Q env h τ c:=by
 cases c with
 |none=>exact h1
 |some c=>
  rw[ifS_v] at h1 ⊢
  exact⟨fun k=>Ae5 Z (h1.1 k) h2,fun k=>Ae5 Z (h1.2 k) h2⟩
end
section
variable {σ0 σ:St} {h:List Item} {c v:GV} {bs:List Int}
theorem Abv (H:Hx σ0 σ h) (k:Nat) (hk:h[k]? =some (cuI c v bs)) (D:Dr σ0 v bs):∃(ds:List GV) (a:Act) (τ:St),(a.knew.length=3/\a.obj.size<=5/\a.key.size<=3)/\Ret Tryz.prog Rz [c] σ (.agg ds) τ/\Hx σ0 τ (.th (own kAct ds a)::h):=by
 have key:∃ w τ,Ret Tryz.prog Rz [c] σ w τ/\∃ ds a,w= .agg ds/\(a.knew.length=3/\a.obj.size<=5/\a.key.size<=3)/\Hx σ0 τ (.th (own kAct ds a)::h):=by
  refine D8 A9g (Z0z rfl) H ?_
  simp +contextual (disch:=omega) only[go_sem,A1i]
  intro n2 f2 τ2 H2
  have g2:=Al f2
  obtain⟨d,τ3,hd,R3,H3⟩:=Tr H2 (k+1) hk D
  refine by_k R3 H3 ?_
  simp +contextual (disch:=omega) only[go_sem]
  obtain⟨x,τ4,hx,R4,H4⟩:=Bw H3 (k+1) hk D 9 (by decide) (by decide)
  refine by_k R4 H4 ?_
  obtain⟨tm,htm⟩:∃ q:Int,q=1+(x:Int):=⟨_,rfl⟩
  simp +contextual (disch:=omega) only[go_sem,<-htm]
  obtain⟨kv,kn,τ5,hkn,R5,H5⟩:=know_x H4 (k+1) hk D
  have hk3:=hkn.1
  have ck:=(H5.hp.sl 0 rfl).cell
  refine by_m R5 H5 ?_
  simp +contextual (disch:=omega) only[go_sem,ck]
  obtain⟨y,τ6,hy,R6,H6⟩:=Bw H5 (k+2) hk D 7 (by decide) (by decide)
  refine by_k R6 H6 ?_
  obtain⟨kd,hkd⟩:∃ q:Int,q=1+(y:Int):=⟨_,rfl⟩
  simp +contextual (disch:=omega) only[go_sem,<-hkd,ck]
  obtain⟨ob,τ7,hob,R7,H7⟩:=M8 H6 (k+2) hk D
  have hos:=(Xd hob).2
  refine by_k R7 H7 ?_
  simp +contextual (disch:=omega) only[go_sem,ck]
  intro n3 f3 τ8 _ τ9 H9
  have g3:σ0.length<=n3:=Al f3.2
  have ne32:=f3.1
  obtain⟨rn,hrn⟩:∃ rn:Nat,d.rep=rn:=⟨d.rep.toNat,by omega⟩
  have nr:B8 (some (GV.int .i64 d.rep))=some rn:=Bd hrn
  have hj:rn<kn.length:=by omega
  have L:=(Cc (H9.hp.sl 1 rfl) hj).1
  try simp +contextual (disch:=omega) only[go_sem,nr,L]
  refine Aah (p:=pI) H9 1 rfl hj (x:=gi (d.seq - 1)) (d.seq - 1) rfl rfl (by decide) fun τ10 H10=> ?_
  obtain⟨kn2,hkn2⟩:∃ l,l=kn.set rn (d.seq - 1):=⟨_,rfl⟩
  have hk32:kn2.length=3:=by rw[hkn2,Zau];exact hk3
  have H10:Hx σ0 τ10 (.box 1 n3 [gi d.rep,gi d.seq,gi tm,kv,gi kd,.str ob,.str ⟨#[]⟩,gi 0,gi 0,gi 0]::.th (ow pI.kd kv kn2)::.box 1 n2 zeV::h):=by rw[hkn2];exact H10
  simp only[List.set_cons_zero,Zba,<-hkn2]
  simp +contextual (disch:=omega) only[go_sem]
  refine by_r H10 (Hw _ _) ?_
  simp +contextual (disch:=omega) only[go_sem]
  refine Ae6 (fun env h' τ=>env 0=c/\env 2= .ptr n2 0/\env 3= .ptr n3 0/\∃ ky:ByteArray,ky.size<=3/\h'= .box 1 n3 [gi d.rep,gi d.seq,gi tm,kv,gi kd,.str ob,.str ky,gi 0,gi 0,gi 0]::.th (ow pI.kd kv kn2)::.box 1 n2 zeV::h/\Hx σ0 τ h') ?_ ?_
  ·cases hk1:Vu kd with
   |false=>
    simp +contextual (disch:=omega) only[go_sem]
    exact⟨_,by decide,rfl,H10⟩
   |true=>
    simp +contextual (disch:=omega) only[go_sem]
    obtain⟨ky,τ11,hky,R11,H11⟩:=F5 H10 (k+3) hk D
    refine by_k R11 H11 ?_
    simp +contextual (disch:=omega) only[go_sem]
    intro τ12 H12
    first
     |exact⟨ky,(Xe hky).2,rfl,H12⟩
     |exact⟨ky,(Xe hky).2,rfl⟩
  clear H10 H9 H7 H6 H5 H4 H3 H2
  rintro env h' τ11 ⟨e0,e2,e3,ky,hky,rfl,H11⟩
  simp +contextual (disch:=omega) only[go_sem,e0,e2,e3]
  refine by_r H11 (C8 _ _) ?_
  simp +contextual (disch:=omega) only[go_sem]
  refine Ae6 (fun env h' τ=>env 0=c/\env 2= .ptr n2 0/\env 3= .ptr n3 0/\∃ vl:Int,h'= .box 1 n3 [gi d.rep,gi d.seq,gi tm,kv,gi kd,.str ob,.str ky,gi vl,gi 0,gi 0]::.th (ow pI.kd kv kn2)::.box 1 n2 zeV::h/\Hx σ0 τ h') ?_ ?_
  ·cases hk1:N7 kd with
   |false=>
    simp +contextual (disch:=omega) only[go_sem,e0,e2,e3]
    exact⟨_,rfl,H11⟩
   |true=>
    simp +contextual (disch:=omega) only[go_sem,e0,e2,e3]
    intro n5 f5 τ12 H12
    have g5:σ0.length<=n5:=Al f5.2.2
    have ne53:=f5.1
    obtain⟨vl,τ13,hvl,R13,H13⟩:=Cy H12 (k+4) hk D (litI (l:=[0,1,7,999999]) rfl (by decide)) (by decide) (by decide)
    refine by_k R13 H13.tl ?_
    simp +contextual (disch:=omega) only[go_sem,e0,e2,e3]
    intro τ14 H14
    first
     |exact⟨vl,rfl,H14⟩
     |exact⟨vl,rfl⟩
  clear H11 e0 e2 e3
  rintro env h' τ11 ⟨e0,e2,e3,vl,rfl,H11⟩
  simp +contextual (disch:=omega) only[go_sem,e0,e2,e3]
  refine Ae6 (fun env h' τ=>env 2= .ptr n2 0/\env 3= .ptr n3 0/\∃(kd:Int) (rf:Dot) (b:Bool) (n6:Nat) (cs:List GV),n3<n6/\n2<n6/\h'=(if b then .box 1 n6 cs::.box 1 n3 [gi d.rep,gi d.seq,gi tm,kv,gi kd,.str ob,.str ky,gi vl,gi rf.rep,gi rf.seq]::.th (ow pI.kd kv kn2)::.box 1 n2 zeV::h else .box 1 n3 [gi d.rep,gi d.seq,gi tm,kv,gi kd,.str ob,.str ky,gi vl,gi rf.rep,gi rf.seq]::.th (ow pI.kd kv kn2)::.box 1 n2 zeV::h)/\Hx σ0 τ h') ?_ ?_
  ·cases hk1:decide (6<=kd) with
   |false=>
    simp +contextual (disch:=omega) only[go_sem,hk1,e0,e2,e3]
    exact⟨kd,⟨0,0⟩,false,n3+1,[],by omega,by omega,rfl,H11⟩
   |true=>
    simp +contextual (disch:=omega) only[go_sem,hk1,e0,e2,e3]
    obtain⟨rf,τ12,hrf,R12,H12⟩:=Tr H11 (k+3) hk D
    refine by_k R12 H12 ?_
    simp +contextual (disch:=omega) only[go_sem,e0,e2,e3]
    intro n6 f6 τ13 _ τ14 H14
    have g6:σ0.length<=n6:=Al f6.2.2
    have ne63:=f6.1
    try simp +contextual (disch:=omega) only[go_sem,e0,e2,e3]
    refine by_r H14 (Bt _ kv kn2 rf (H14.hp.sl 2 rfl) (by omega)) ?_
    cases hk2:Ax kn2 rf with
    |true=>
     simp +contextual (disch:=omega) only[go_sem,e0,e2,e3]
     intro τ15 H15
     first|exact⟨kd,rf,true,n6,[gi rf.rep,gi rf.seq],ne63,f6.2.1,rfl,H15⟩|exact⟨kd,rf,true,n6,[gi rf.rep,gi rf.seq],ne63,f6.2.1,rfl⟩
    |false=>
     cases hk3:(kd==7) with
     |false=>
      simp +contextual (disch:=omega) only[go_sem,e0,e2,e3,hk3]
      exact⟨kd,⟨0,0⟩,true,n6,[gi rf.rep,gi rf.seq],ne63,f6.2.1,rfl,H14⟩
     |true=>
      simp +contextual (disch:=omega) only[go_sem,e0,e2,e3,hk3]
      intro τ15 H15
      first|exact⟨6,⟨0,0⟩,true,n6,[gi rf.rep,gi rf.seq],ne63,f6.2.1,rfl,H15⟩|exact⟨6,⟨0,0⟩,true,n6,[gi rf.rep,gi rf.seq],ne63,f6.2.1,rfl⟩
  clear H11 e0 e2 e3
  rintro env h' τ11 ⟨e2,e3,kd,rf,b,n6,cs,ne63,ne62,rfl,H11⟩
  cases b with
  |false=>
   simp only[Zas,if_false] at H11 ⊢
   simp +contextual (disch:=omega) only[go_sem,e2,e3]
   intro τ12 H12
   have H13:Hx σ0 τ12 (.th (ow pI.kd kv kn2)::h):=(H12.era 2).tl
   exact⟨_,rfl,_,⟨d,tm,kn2,kd,ob,ky,vl,rf⟩,rfl,⟨hk32,hos,hky⟩,Hp.ownAct (x:=⟨d,tm,kn2,kd,ob,ky,vl,rf⟩) H13.hp⟩
  |true=>
   simp only[if_true] at H11 ⊢
   simp +contextual (disch:=omega) only[go_sem,e2,e3]
   intro τ12 H12
   have H13:Hx σ0 τ12 (.th (ow pI.kd kv kn2)::h):=(H12.era 3).tl.tl
   exact⟨_,rfl,_,⟨d,tm,kn2,kd,ob,ky,vl,rf⟩,rfl,⟨hk32,hos,hky⟩,Hp.ownAct (x:=⟨d,tm,kn2,kd,ob,ky,vl,rf⟩) H13.hp⟩
 obtain⟨w,τ,R,ds,a,rfl,h1,h2⟩:=key
 exact⟨ds,a,τ,h1,R,h2⟩
theorem Abw (H:Hx σ0 σ h) (k:Nat) (hk:h[k]? =some (cuI c v bs)) (D:Dr σ0 v bs):∃(ds:List GV) (a:Act) (τ:St),(a.knew.length<=4/\a.obj.size<=5/\a.key.size<=3)/\Ret Tryz.prog S3 [c] σ (.agg ds) τ/\Hx σ0 τ (.th (own kAct ds a)::h):=by
 have key:∃ w τ,Ret Tryz.prog S3 [c] σ w τ/\∃ ds a,w= .agg ds/\(a.knew.length<=4/\a.obj.size<=5/\a.key.size<=3)/\Hx σ0 τ (.th (own kAct ds a)::h):=by
  refine D8 A9h (Z0z rfl) H ?_
  simp +contextual (disch:=omega) only[go_sem,A1j]
  intro n2 f2 τ2 H2
  have g2:=Al f2
  obtain⟨x,τ3,hx,R3,H3⟩:=Bw H2 (k+1) hk D 12 (by decide) (by decide)
  refine by_k R3 H3 ?_
  simp +contextual (disch:=omega) only[go_sem]
  obtain⟨y,τ4,hy,R4,H4⟩:=Bw H3 (k+1) hk D 60 (by decide) (by decide)
  refine by_k R4 H4 ?_
  simp +contextual (disch:=omega) only[go_sem]
  obtain⟨os,a,τ5,⟨b1,b2,b3⟩,R5,H5⟩:=Abv H4 (k+1) hk D
  refine by_k R5 H5 ?_
  simp +contextual (disch:=omega) only[go_sem]
  obtain⟨ds,τ6,R6,K6⟩:=Hh τ5 os a (H5.hp.rd 0 rfl) (by omega)
  have H6:Hx σ0 τ6 (.th (own kAct ds a)::.box 1 n2 zeV::h):=Hx.era (h:=.th (own kAct ds a)::.th (own kAct os a)::.box 1 n2 zeV::h) (H5.hp.add K6) 1
  obtain⟨kv,rfl,HS⟩:=Hp.splitAct H6.hp
  have HS:Hx σ0 τ6 (.th (ow pI.kd kv a.knew)::.box 1 n2 zeV::h):=HS
  refine by_m R6 HS ?_
  have ck:=(HS.hp.sl 0 rfl).cell
  clear K6 R6 R5 H5 H6 R4 R3 H4 H3 H2
  simp +contextual (disch:=omega) only[go_sem,ck]
  intro n5 f5 τ7 H7 τ8 H8
  have g5:=Al f5.2
  have ne25:=f5.1
  clear HS H7 f5 f2
  have fin:∀ {r1 r2 t k5 v6 r7 r8:Int} {o ky:ByteArray} {kv2:GV} {kn:List Int} {b1 b2:List GV} {τ:St},Hx σ0 τ (.box 1 n5 b1::.th (ow pI.kd kv2 kn)::.box 1 n2 b2::h)->Hx σ0 τ (.th (own kAct [gi r1,gi r2,gi t,kv2,gi k5,.str o,.str ky,gi v6,gi r7,gi r8] ⟨⟨r1,r2⟩,t,kn,k5,o,ky,v6,⟨r7,r8⟩⟩)::h):=fun {r1 r2 t k5 v6 r7 r8 o ky kv2 kn b1 b2 τ} H=>Hp.ownAct (x:=⟨⟨r1,r2⟩,t,kn,k5,o,ky,v6,⟨r7,r8⟩⟩) ((H.era 2).tl).hp
  obtain⟨q3,hq3⟩:∃ q,q=y % 3:=⟨_,rfl⟩
  have t3:B8 (some (GV.int .i64 ((y:Int).tmod 3)))=some q3:=Bd (by rw[Zag (by omega)];omega)
  have q3b:q3<3:=by omega
  have m3:¬ ((3:Int)=0):=by decide
  have m4:¬ ((4:Int)=0):=by decide
  have m7:¬ ((7:Int)=0):=by decide
  have m10:¬ ((10:Int)=0):=by decide
  by_cases hx0:x=0
  ·have c0:((x:Int)==0)=true:=by simp[hx0]
   obtain⟨q7,hq7⟩:∃ q,q=(y:Int).tmod 7:=⟨_,rfl⟩
   simp +contextual (disch:=omega) only[go_sem,c0,ck,m7,<-hq7]
   intro τ9 _ τ10 H10
   refine⟨_,rfl,_,⟨⟨_,_⟩,_,_,_,_,_,_,⟨_,_⟩⟩,rfl,?_,fin H10⟩
   exact⟨by (try simp only);omega,b2,b3⟩
  have c0:((x:Int)==0)=false:=by simp;omega
  by_cases hx1:x=1
  ·have c1:((x:Int)==1)=true:=by simp[hx1]
   simp +contextual (disch:=omega) only[go_sem,c0,c1,ck,m3]
   intro n20 f20 τ9 H9
   have g20:=Al (h:=h) f20.2.2
   have ne205:=f20.1
   have LL:=Cc (litI (l:=[0,10000,10001]) rfl (by decide) τ9 H9) (i:=q3) q3b
   have L1:iadG 1 (GV.sl n20 0 3) (some q3)=some (atz 1 (GV.sl n20 0 3) q3):=LL.1
   have L2:=Gf H9 LL.2
   have L2:ldX σ0 _ τ9 false 1 (atz 1 (GV.sl n20 0 3) q3)=some _:=L2
   simp +contextual (disch:=omega) only[go_sem,c0,c1,ck,m3,t3,L1,L2]
   intro τ10 _ τ11 H11
   refine⟨_,rfl,_,⟨⟨_,_⟩,_,_,_,_,_,_,⟨_,_⟩⟩,rfl,?_,fin H11.tl⟩
   exact⟨by (try simp only);omega,b2,b3⟩
  have c1:((x:Int)==1)=false:=by simp;omega
  by_cases hx2:x=2
  ·have c2:((x:Int)==2)=true:=by simp[hx2]
   obtain⟨q7,hq7⟩:∃ q,q=(y:Int).tmod 10:=⟨_,rfl⟩
   simp +contextual (disch:=omega) only[go_sem,c0,c1,c2,ck,m10,<-hq7]
   intro τ9 _ τ10 H10
   refine⟨_,rfl,_,⟨⟨_,_⟩,_,_,_,_,_,_,⟨_,_⟩⟩,rfl,?_,fin H10⟩
   exact⟨by (try simp only);omega,b2,b3⟩
  have c2:((x:Int)==2)=false:=by simp;omega
  by_cases hx3:x=3
  ·have c3:((x:Int)==3)=true:=by simp[hx3]
   simp +contextual (disch:=omega) only[go_sem,c0,c1,c2,c3,ck,m3]
   intro n20 f20 τ9 H9
   have g20:=Al (h:=h) f20.2.2
   have ne205:=f20.1
   have LL:=Ag9 (litS (l:=[⟨#[]⟩,⟨#[120]⟩,⟨#[88]⟩]) rfl (by decide) τ9 H9) (i:=q3) q3b
   have L1:iadG 1 (GV.sl n20 0 3) (some q3)=some (atz 1 (GV.sl n20 0 3) q3):=LL.1
   have L2:=Gf H9 LL.2
   have L2:ldX σ0 _ τ9 false 1 (atz 1 (GV.sl n20 0 3) q3)=some _:=L2
   simp +contextual (disch:=omega) only[go_sem,c0,c1,c2,c3,ck,m3,t3,L1,L2]
   intro τ10 _ τ11 H11
   refine⟨_,rfl,_,⟨⟨_,_⟩,_,_,_,_,_,_,⟨_,_⟩⟩,rfl,?_,fin H11.tl⟩
   refine⟨by (try simp only);omega,b2,?_⟩
   show ByteArray.size _<=3
   have hm:=Zaj (l:=([⟨#[]⟩,⟨#[120]⟩,⟨#[88]⟩]:List ByteArray)) (n:=q3) q3b
   generalize([⟨#[]⟩,⟨#[120]⟩,⟨#[88]⟩]:List ByteArray)[q3]=s at hm ⊢
   simp only[Zaq,List.not_mem_nil,or_false] at hm
   rcases hm with rfl|rfl|rfl<;>(simp only;decide)
  have c3:((x:Int)==3)=false:=by simp;omega
  by_cases hx4:x=4
  ·have c4:((x:Int)==4)=true:=by simp[hx4]
   simp +contextual (disch:=omega) only[go_sem,c0,c1,c2,c3,c4,ck,m3]
   intro n20 f20 τ9 H9
   have g20:=Al (h:=h) f20.2.2
   have ne205:=f20.1
   have LL:=Cc (litI (l:=[-1,5,1000000]) rfl (by decide) τ9 H9) (i:=q3) q3b
   have L1:iadG 1 (GV.sl n20 0 3) (some q3)=some (atz 1 (GV.sl n20 0 3) q3):=LL.1
   have L2:=Gf H9 LL.2
   have L2:ldX σ0 _ τ9 false 1 (atz 1 (GV.sl n20 0 3) q3)=some _:=L2
   simp +contextual (disch:=omega) only[go_sem,c0,c1,c2,c3,c4,ck,m3,t3,L1,L2]
   intro τ10 _ τ11 H11
   refine⟨_,rfl,_,⟨⟨_,_⟩,_,_,_,_,_,_,⟨_,_⟩⟩,rfl,?_,fin H11.tl⟩
   exact⟨by (try simp only);omega,b2,b3⟩
  have c4:((x:Int)==4)=false:=by simp;omega
  by_cases hx5:x=5
  ·have c5:((x:Int)==5)=true:=by simp[hx5]
   obtain⟨p3,hp3⟩:∃ q,q=(y:Int).tmod 3:=⟨_,rfl⟩
   obtain⟨p4,hp4⟩:∃ q,q=(y:Int).tmod 4:=⟨_,rfl⟩
   simp +contextual (disch:=omega) only[go_sem,c0,c1,c2,c3,c4,c5,ck,m3,m4,<-hp3,<-hp4]
   intro τ9 _ τ10 H10
   refine⟨_,rfl,_,⟨⟨_,_⟩,_,_,_,_,_,_,⟨_,_⟩⟩,rfl,?_,fin H10⟩
   exact⟨by (try simp only);omega,b2,b3⟩
  have c5:((x:Int)==5)=false:=by simp;omega
  by_cases hx6:x=6
  ·have c6:((x:Int)==6)=true:=by simp[hx6]
   simp +contextual (disch:=omega) only[go_sem,c0,c1,c2,c3,c4,c5,c6,ck]
   intro n20 f20 τ9 H9
   refine Fn (p:=pI) H9 2 rfl 1 Cq (by decide) (by omega) fun v' τ10 H10=> ?_
   have cv:=(H10.hp.sl 2 rfl).cell
   have ne205:=f20.1
   simp +contextual (disch:=omega) only[go_sem,c0,c1,c2,c3,c4,c5,c6,cv]
   intro τ11 _ τ12 H12
   refine⟨_,rfl,_,⟨⟨_,_⟩,_,_,_,_,_,_,⟨_,_⟩⟩,rfl,?_,fin H12.tl⟩
   exact⟨by simp only[Zae,Zai];omega,b2,b3⟩
  have c6:((x:Int)==6)=false:=by simp;omega
  simp +contextual (disch:=omega) only[go_sem,c0,c1,c2,c3,c4,c5,c6,ck]
  intro τ9 H9
  refine⟨_,rfl,_,⟨⟨_,_⟩,_,_,_,_,_,_,⟨_,_⟩⟩,rfl,?_,fin H9⟩
  exact⟨by (try simp only);omega,b2,b3⟩
 obtain⟨w,τ,R,ds,a,rfl,h1,h2⟩:=key
 exact⟨ds,a,τ,h1,R,h2⟩
end
abbrev Oj:Nat:=223
def Y0:Fn1:=⟨28,[.c 2 true 6],(rg [oX 1 0,o 2 (.new [.nilS,.nilS,.nilS,.nilS,.nilS,.nilS])] (dw [o 3 (.lit 1 0 [] []),oF 4 0 1,oL 5 4,o 6 (.app 1 8 [z0] (.t 3) (.t 5)),o 7 (.lit 1 0 [] []),oF 8 1 1,oL 9 8,o 10 (.app 1 8 [z0] (.t 7) (.t 9)),o 11 (.lit 3 0 [] []),oF 12 2 1,oL 13 12,o 14 (.app 3 32 [s0,z0,z0] (.t 11) (.t 13)),o 15 (.lit 6 0 [] []),oF 16 3 1,oL 17 16,o 18 (.app 6 64 [(.bool false),s0,s0,z0,z0,z0] (.t 15) (.t 17)),o 19 (.lit 2 0 [] []),oF 20 4 1,oL 21 20,o 22 (.app 2 16 [z0,z0] (.t 19) (.t 21)),o 23 (.lit 8 0 [] []),oF 24 5 1,oL 25 24] [o 26 (.app 8 72 [s0,z0,z0,z0,z0,z0,z0,(.bool false)] (.t 23) (.t 25)),o 27 (.build [.nilS,.nilS,.nilS,.nilS,.nilS,.nilS] [(0,1,(.t 6)),(1,1,(.t 10)),(2,1,(.t 14)),(3,1,(.t 18)),(4,1,(.t 22)),(5,1,(.t 26))]),oS 6 2 27] .ret))⟩
theorem A6m:A6 Tryz.prog Oj=some Y0:=by kernel_rfl
abbrev I4:Nat:=99
def Me:Fn1:=⟨12,[.c 2 true 17],(rg [oX 1 0,o 2 (.new [(.bool false),z0,z0,z0,.nilS,z0,s0,s0,z0,z0,z0,.nilS,.nilS,.nilS,.nilS,.nilS,.nilS])] (dw [oF 3 0 1,oL 4 3,oF 5 1 1,oW 6 10 5,oC 7 211 6,oF 8 11 1,oW 9 6 8,oC 10 223 9] [o 11 (.build [(.bool false),z0,z0,z0,.nilS,z0,s0,s0,z0,z0,z0,.nilS,.nilS,.nilS,.nilS,.nilS,.nilS] [(0,1,(.t 4)),(1,10,(.t 7)),(11,6,(.t 10))]),oS 17 2 11] .ret))⟩
theorem Um:A6 Tryz.prog I4=some Me:=by kernel_rfl
theorem Q5 (σ:St) (cs:List GV) (x:Delta) (hR:B9.R σ x cs) (hl:Ay x<=1073741824):∃ r τ,Ret Tryz.prog Oj [.agg cs] σ (.agg r) τ/\Hp σ τ [own B9 r x]:=by
 obtain⟨v0,v1,v2,v3,v4,v5,rfl,q0,q1,q2,q3,q4,q5⟩:=hR
 obtain⟨l0,l1,l2,l3,l4,l5,_⟩:=Kp hl
 have key:∃ w τ,Ret Tryz.prog Oj [.agg [v0,v1,v2,v3,v4,v5]] σ w τ/\∃ r,w= .agg r/\Hp σ τ [own B9 r x]:=by
  refine D8 A6m (Z0z rfl) (Hx.refl σ) ?_
  simp +contextual (disch:=omega) only[go_sem,Y0]
  intro n1 f1 τ1 H1 n2 f2 τ2 H2
  intro n3 f3 τ3 H3
  refine Ze (p:=pI) H3 (q0.pre H3.sub) (by decide) (by omega) fun w0 τ4 H4=> ?_
  have c0:=(H4.hp.sl 0 rfl).cell
  simp +contextual (disch:=omega) only[go_sem,c0]
  intro n5 f5 τ5 H5
  refine Ze (p:=pI) H5 (q1.pre H5.sub) (by decide) (by omega) fun w1 τ6 H6=> ?_
  have c1:=(H6.hp.sl 0 rfl).cell
  simp +contextual (disch:=omega) only[go_sem,c0,c1]
  intro n7 f7 τ7 H7
  refine Ze (p:=Am) H7 (q2.pre H7.sub) (by decide) (by omega) fun w2 τ8 H8=> ?_
  have c2:=(H8.hp.sl 0 rfl).cell
  simp +contextual (disch:=omega) only[go_sem,c0,c1,c2]
  intro n9 f9 τ9 H9
  refine Ze (p:=As) H9 (q3.pre H9.sub) (by decide) (by omega) fun w3 τ10 H10=> ?_
  have c3:=(H10.hp.sl 0 rfl).cell
  simp +contextual (disch:=omega) only[go_sem,c0,c1,c2,c3]
  intro n11 f11 τ11 H11
  refine Ze (p:=pDot) H11 (q4.pre H11.sub) (by decide) (by omega) fun w4 τ12 H12=> ?_
  have c4:=(H12.hp.sl 0 rfl).cell
  simp +contextual (disch:=omega) only[go_sem,c0,c1,c2,c3,c4]
  intro n13 f13 τ13 H13
  refine Ze (p:=Ag) H13 (q5.pre H13.sub) (by decide) (by omega) fun w5 τ14 H14=> ?_
  have c5:=(H14.hp.sl 0 rfl).cell
  simp +contextual (disch:=omega) only[go_sem,c0,c1,c2,c3,c4,c5]
  intro τ15 H15
  exact⟨_,rfl,_,rfl,Hp.ownDelta (x:=x) (H15.sel [5,4,3,2,1,0] (by decide))⟩
 obtain⟨q,τ,R,r,rfl,h⟩:=key
 exact⟨r,τ,R,h⟩
theorem Gh (σ:St) (cs:List GV) (x:Unit_) (hR:Ad.R σ x cs) (hl:Aw x<=1073741824):∃ r τ,Ret Tryz.prog I4 [.agg cs] σ (.agg r) τ/\Hp σ τ [own Ad r x]:=by
 obtain⟨kv,d0,d1,d2,d3,d4,d5,rfl,hA,hD⟩:=Gg hR
 have hma:Dm x.act<=1073741824/\Ay x.delta<=1073741824:=by unfold Aw at hl;omega
 have hkn:x.act.knew.length<=1073741824:=by have:=hma.1;unfold Dm at this;omega
 have key:∃ w τ,Ret Tryz.prog I4 [.agg (unV x kv d0 d1 d2 d3 d4 d5)] σ w τ/\∃ r,w= .agg r/\Hp σ τ [own Ad r x]:=by
  refine D8 Um (Z0z rfl) (Hx.refl σ) ?_
  simp +contextual (disch:=omega) only[go_sem,Me]
  intro n1 f1 τ1 H1 n2 f2 τ2 H2
  obtain⟨a,τ3,R3,K3⟩:=Hh τ2 _ x.act (kAct.pre hA H2.sub) (by omega)
  refine by_c H2 R3 K3 fun H3=> ?_
  obtain⟨ka,rfl,_⟩:=K3.rd 0 rfl
  simp +contextual (disch:=omega) only[go_sem]
  obtain⟨e,τ4,R4,K4⟩:=Q5 τ3 _ x.delta (B9.pre hD H3.sub) hma.2
  refine by_c H3 R4 K4 fun H4=> ?_
  obtain⟨e0,e1,e2,e3,e4,e5,rfl,_⟩:=K4.rd 0 rfl
  simp +contextual (disch:=omega) only[go_sem]
  intro τ5 H5
  exact⟨_,rfl,_,rfl,Hp.ownUnit_ (x:=x) (H5.sel [1,0] (by decide))⟩
 obtain⟨q,τ,R,r,rfl,h⟩:=key
 exact⟨r,τ,R,h⟩
section
variable {α:Type} {f:Int->α->α} {c:α->Nat}
end
def kE (k:Int) (x:Act):Int:=k+1+1+1+1*(x.knew.length:Int)
theorem V8 {α:Type} {l:List α} {p:α->Bool} (h:∀ i,i<l.length->onI l i p=true):∀ x∈l,p x=true:=I3.1 h
theorem Agm {a:Act} (h:Eb a=true):Dm a<=19:=by
 simp only[Eb,Dk,Bo,Zad] at h
 have h1:=Cw h.1.2.1
 have h2:=Ep h.2.1.2.1
 have h3:a.key.size<=8:=by
  have:=h.2.1.2.2.1
  split at this
  ·exact Ep this
  ·have e:a.key=noS:=of_decide_eq_true this
   rw[e];decide
 unfold Dm;omega
theorem Afu {d:Delta} (h:Ca d=true):Ay d<=5000:=by
 simp only[Ca,Zad,decide_eq_true_eq] at h
 obtain⟨h1,h2,h3,h4,h5,_⟩:=h
 have hb:d.base.length=3/\d.know.length=3:=by
  simp only[Gn,Zad] at h1
  exact⟨Cw h1.1,Cw h1.2.1⟩
 simp only[Dp,talP,Zad,Bl,decide_eq_true_eq] at h2
 simp only[Ig,livP,Zad,Bl,decide_eq_true_eq] at h3
 simp only[Gv,celP,Zad,Bl,decide_eq_true_eq] at h4
 have a1:=Ko (f:=Bv) (l:=d.tallies) (n:=8) fun t ht=>by
  have:=V8 (p:=tal1) (fun i hi=>(h2.1 i hi).1) t ht
  simp only[tal1,Zad] at this
  exact Ep this.1
 have a2:=Ko (f:=F0) (l:=d.lives) (n:=16) fun t ht=>by
  have:=V8 (p:=liv1) (fun i hi=>(h3.1 i hi).2.1) t ht
  simp only[liv1,Zad] at this
  have h1:=Ep this.1
  have h2:=Ep this.2.1
  unfold F0;omega
 have a3:=Ko (f:=F1) (l:=d.cells) (n:=8) fun t ht=>by
  have:=V8 (p:=cel1) (fun i hi=>(h4.1 i hi).2.1) t ht
  simp only[cel1,Zad] at this
  exact Ep this.1
 unfold Ay
 omega
theorem Mf {u:Unit_} (h:E6 u=true):Aw u<=5000:=by
 unfold E6 at h
 split at h
 ·simp only[Zad] at h
  have h1:=Afu h.1
  have h2:=h.2
  simp only[A6g,Zad,Zbf,decide_eq_true_eq] at h2
  have e1:u.act.knew=[]:=h2.2.2.1
  have e2:u.act.obj=⟨#[]⟩:=h2.2.2.2.2.1
  have e3:u.act.key=⟨#[]⟩:=h2.2.2.2.2.2.1
  unfold Aw Dm
  rw[e1,e2,e3]
  have:(ByteArray.mk #[]).size=0:=rfl
  simp only[Za1,this];omega
 ·simp only[Zad] at h
  have h1:=Agm h.1
  have h2:=h.2
  simp only[Kr,Zad,Zbf] at h2
  obtain⟨e1,e2,e3,e4,e5,e6⟩:=h2
  unfold Aw Ay
  rw[e1,e2,e3,e4,e5,e6]
  simp only[sumL,List.map_nil,List.sum_nil,Za1];omega
theorem Abx {s:State} (d:Delta) (h:OkS s):OkS (A97 s d).1:=by
 unfold A97
 repeat' split
 all_goals first
  |exact h
  |exact Ai4.1 (by simp_all)
theorem A6n {s:State} (u:Unit_) (h:OkS s):OkS (Cr s u).1:=by
 unfold Cr
 split
 ·exact Abx _ h
 ·exact Aak _ h
structure LogG (l:Log):Prop where
 rp:0<=l.rep/\l.rep<=2
 tm:0<=l.time/\l.time<=1000000
 st:OkS l.state
 un:∀ u∈l.units,E6 u=true
 wa:∀ u∈l.waits,E6 u=true
 nu:l.units.length<=60
 nw:l.waits.length<=6
 ub:∀ u∈l.units,u.batch=false
 wb:∀ u∈l.waits,u.batch=false
 run:runU l.units l.units.length=some l.state
theorem Aao {us:List Unit_} (x:List Unit_):∀ {i:Nat},i≤us.length->runU (us++x) i=runU us i
 |0,_=>rfl
 |i+1,h=>by
  have hi:i<us.length:=h
  have hi2:i<(us++x).length:=by rw[Zae];omega
  simp only[runU,Aao x (Nat.le_of_lt hi),dif_pos hi,dif_pos hi2,List.getElem_append_left hi]
theorem Ae7 {us:List Unit_} {s:State} {u:Unit_} (h:runU us us.length=some s) (h0:(Cr s u).2=0):runU (us++[u]) (us++[u]).length=some (Cr s u).1:=by
 have hl:(us++[u]).length=us.length+1:=by simp
 rw[hl]
 have e:(us++[u])[us.length]'(by omega)=u:=by simp
 have:=Afq (us:=us++[u]) (i:=us.length) (s:=s) (by omega) (by rw[Aao [u] (Nat.le_refl _)];exact h) (by rw[e];exact h0)
 rw[this,e]
theorem LogG.ms {l:Log} (h:LogG l):Ad5 l<=400000:=by
 have h1:=h.st.ms
 have h2:=Ko (f:=Aw) (l:=l.units) (n:=5000) fun u hu=>Mf (h.un u hu)
 have h3:=Ko (f:=Aw) (l:=l.waits) (n:=5000) fun u hu=>Mf (h.wa u hu)
 have:=h.nu
 have:=h.nw
 unfold Ad5
 omega
theorem Aib {r:Int} (h:0<=r/\r<=2):LogG ⟨r,0,⟨[0,0,0],[],[],[]⟩,[],[]⟩:=⟨h,⟨Int.le_refl 0,by show(0:Int)<=1000000;decide⟩,Xg,fun _ h=>(by cases h),fun _ h=>(by cases h),Nat.zero_le _,Nat.zero_le _,fun _ h=>(by cases h),fun _ h=>(by cases h),rfl⟩
theorem A3l {l:Log} {u:Unit_} {t:Int} (h:LogG l) (hu:E6 u=true) (hb:u.batch=false) (h0:(Cr l.state u).2=0) (hn:l.units.length<60) (ht:0<=t/\t<=1000000):LogG {l with state:=(Cr l.state u).1,units:=l.units++[u],time:=t}:=
 ⟨h.rp,ht,A6n u h.st,fun x hx=>by
  rcases Zat.1 hx with hx|hx
  ·exact h.un x hx
  ·rw[Zav.1 hx];exact hu,h.wa,by simp only[Zae,Zai];omega,h.nw,fun x hx=>by
  rcases Zat.1 hx with hx|hx
  ·exact h.ub x hx
  ·rw[Zav.1 hx];exact hb,h.wb,Ae7 h.run h0⟩
theorem Afv {l:Log} {u:Unit_} (h:LogG l) (hu:E6 u=true) (hb:u.batch=false) (hn:l.waits.length<6):LogG {l with waits:=l.waits++[u]}:=
 ⟨h.rp,h.tm,h.st,h.un,fun x hx=>by
  rcases Zat.1 hx with hx|hx
  ·exact h.wa x hx
  ·rw[Zav.1 hx];exact hu,h.nu,by simp only[Zae,Zai];omega,h.ub,fun x hx=>by
  rcases Zat.1 hx with hx|hx
  ·exact h.wb x hx
  ·rw[Zav.1 hx];exact hb,h.run⟩
abbrev Q6:Nat:=47
def Q7:Fn1:=⟨95,[.t 4],(rg [oX 2 0,oX 3 1,oV 4 kf] (.seq (rg [oF 8 0 2,oL 9 8,oF 10 0 3,oL 11 10,oD 12 171 9 11,oU 13 12,oM 14 13,vF 15 14 1 2,vL 16 14 15,og 17 14 false (.len false (.t 16)),vF 18 14 1 3,vL 19 14 18,og 20 14 false (.len false (.t 19)),vB 21 14 .neq 17 20,oP 22 14 21,oM 23 22,vF 24 23 2 2,vL 25 23 24,og 26 23 false (.len false (.t 25)),vF 27 23 2 3,vL 28 23 27,og 29 23 false (.len false (.t 28)),vB 30 23 .neq 26 29,oP 31 23 30,oM 32 31,vF 33 32 3 2,vL 34 32 33,og 35 32 false (.len false (.t 34)),vF 36 32 3 3,vL 37 32 36,og 38 32 false (.len false (.t 37)),vB 39 32 .neq 35 38,oP 40 32 39] (cn 40 (rg [oV 4 kf] .ret) .skip)) (.seq (rg [oV 5 (ki 0)] (.blk 0 (.lop (.seq (rg [oM 41 5,oF 42 1 2,oL 43 42,oN 44 43,oB 45 .lss 41 44] (cn 45 .skip (.ext 0))) (.seq (.blk 1 (dw [oF 48 1 2,oL 49 48,oM 50 5,oI 51 3 49 50,oW 52 3 51,oF 53 1 3,oL 54 53,oM 55 5,oI 56 3 54 55,oW 57 3 56] [o 58 (.eqs true [.s,.i .i64,.i .i64] (.t 52) (.t 57))] (cn 58 (rg [oV 4 kf] .ret) .skip))) (.reg [oM 46 5,oZ 47 46 1,oM 5 47])))))) (.seq (rg [oV 6 (ki 0)] (.blk 2 (.lop (.seq (rg [oM 59 6,oF 60 2 2,oL 61 60,oN 62 61,oB 63 .lss 59 62] (cn 63 .skip (.ext 2))) (.seq (.blk 3 (dw [oF 66 2 2,oL 67 66,oM 68 6,oI 69 6 67 68,oW 70 6 69,oF 71 2 3,oL 72 71,oM 73 6,oI 74 6 72 73,oW 75 6 74] [o 76 (.eqs true [.b,.s,.s,.i .i64,.i .i64,.i .i64] (.t 70) (.t 75))] (cn 76 (rg [oV 4 kf] .ret) .skip))) (.reg [oM 64 6,oZ 65 64 1,oM 6 65])))))) (.seq (rg [oV 7 (ki 0)] (.blk 4 (.lop (.seq (rg [oM 77 7,oF 78 3 2,oL 79 78,oN 80 79,oB 81 .lss 77 80] (cn 81 .skip (.ext 4))) (.seq (.blk 5 (dw [oF 84 3 2,oL 85 84,oM 86 7,oI 87 8 85 86,oW 88 8 87,oF 89 3 3,oL 90 89,oM 91 7,oI 92 8 90 91,oW 93 8 92] [o 94 (.eqs true [.s,.i .i64,.i .i64,.i .i64,.i .i64,.i .i64,.i .i64,.b] (.t 88) (.t 93))] (cn 94 (rg [oV 4 kf] .ret) .skip))) (.reg [oM 82 7,oZ 83 82 1,oM 7 83])))))) (rg [oV 4 kt] .ret))))))⟩
theorem Zk:A6 Tryz.prog Q6=some Q7:=by kernel_rfl
theorem Ks {a b:State} (h:¬ (a.know=b.know/\a.tallies=b.tallies/\a.lives=b.lives/\a.cells=b.cells)):decide (a=b)=false:=decide_eq_false fun e=>h (State.eq_iff.1 e)
theorem I5 (σ:St) (cs ds:List GV) (a b:State) (hR:A5.R σ a cs) (hS:A5.R σ b ds) (hl:Aa a<=1099511627776) (hm:Aa b<=1099511627776):Ret Tryz.prog Q6 [.agg cs,.agg ds] σ (.bool (decide (a=b))) σ:=by
 obtain⟨v0,v1,v2,v3,rfl,q0,q1,q2,q3⟩:=hR
 obtain⟨u0,u1,u2,u3,rfl,p0,p1,p2,p3⟩:=hS
 have hkl:a.know.length<=1099511627776:=by unfold Aa at hl;omega
 have b1:a.tallies.length<=1099511627776:=by unfold Aa at hl;omega
 have b2:a.lives.length<=1099511627776:=by unfold Aa at hl;omega
 have b3:a.cells.length<=1099511627776:=by unfold Aa at hl;omega
 clear hl hm
 refine E5 Zk (Z0z rfl) trivial ?_
 simp +contextual (disch:=omega) only[go_sem,Q7]
 intro n1 f1 τ0 _ n2 f2 τ H
 have g1:σ.length<=n1:=f1
 have g2:σ.length<=n2:=f2.2
 have S:=H.sub
 refine by_r H (Rb _ v0 u0 _ _ (q0.pre S) (p0.pre S) hkl) ?_
 have l1:=q1.len
 have l2:=q2.len
 have l3:=q3.len
 have m1:=p1.len
 have m2:=p2.len
 have m3:=p3.len
 by_cases h0:a.know=b.know
 rotate_left
 ·have d:=Ks (a:=a) (b:=b) fun h=>h0 h.1
  have e0:decide (a.know=b.know)=false:=decide_eq_false h0
  simp +contextual (disch:=omega) only[go_sem,e0,d]
  try exact fun _=>rfl
 have e0:decide (a.know=b.know)=true:=decide_eq_true h0
 by_cases h1:a.tallies.length=b.tallies.length
 rotate_left
 ·have d:=Ks (a:=a) (b:=b) fun h=>h1 (by rw[h.2.1])
  have e1:((a.tallies.length:Int) != (b.tallies.length:Int))=true:=by simp;omega
  simp +contextual (disch:=omega) only[go_sem,e0,e1,l1,m1,d]
  try exact fun _=>rfl
 have e1:((a.tallies.length:Int) != (b.tallies.length:Int))=false:=by simp;omega
 by_cases h2:a.lives.length=b.lives.length
 rotate_left
 ·have d:=Ks (a:=a) (b:=b) fun h=>h2 (by rw[h.2.2.1])
  have e2:((a.lives.length:Int) != (b.lives.length:Int))=true:=by simp;omega
  simp +contextual (disch:=omega) only[go_sem,e0,e1,e2,l1,m1,l2,m2,d]
  try exact fun _=>rfl
 have e2:((a.lives.length:Int) != (b.lives.length:Int))=false:=by simp;omega
 by_cases h3:a.cells.length=b.cells.length
 rotate_left
 ·have d:=Ks (a:=a) (b:=b) fun h=>h3 (by rw[h.2.2.2])
  have e3:((a.cells.length:Int) != (b.cells.length:Int))=true:=by simp;omega
  simp +contextual (disch:=omega) only[go_sem,e0,e1,e2,e3,l1,m1,l2,m2,l3,m3,d]
  try exact fun _=>rfl
 have e3:((a.cells.length:Int) != (b.cells.length:Int))=false:=by simp;omega
 simp +contextual (disch:=omega) only[go_sem,e0,e1,e2,e3,l1,m1,l2,m2,l3,m3]
 refine Bu a.tallies.length 5 0 (fun i env h=>env 2= .ptr n1 0/\env 3= .ptr n2 0/\a.tallies.take i=b.tallies.take i/\h=[.box 1 n2 [u0,u1,u2,u3],.box 1 n1 [v0,v1,v2,v3]]) (fun env h=>a.tallies=b.tallies/\env 2= .ptr n1 0/\env 3= .ptr n2 0/\h=[.box 1 n2 [u0,u1,u2,u3],.box 1 n1 [v0,v1,v2,v3]]) (fun env h=>env 4= .bool false/\a.tallies≠b.tallies) _ H (by simp +contextual (disch:=omega) only[go_sem]) ⟨by simp +contextual (disch:=omega) only[go_sem],by simp +contextual (disch:=omega) only[go_sem],by simp,rfl⟩ ?_ ?_ ?_ ?_
 ·clear H
  rintro J Y W hJ hY hW i env h' τ1 hi ei c0 H1 ⟨e2',e3',he,rfl⟩
  have hj:i<b.tallies.length:=by omega
  have L1:=Ae q1 hi
  have L2:=Ae p1 hj
  by_cases hx:a.tallies[i]=b.tallies[i]
  ·have bb:decide (a.tallies[i]=b.tallies[i])=true:=decide_eq_true hx
   simp +contextual (disch:=omega) only[go_sem,c0,e2',e3',ei,A0,l1,m1,L1,L2,bb]
   exact hJ _ _ _ _ H1 ⟨by simp +contextual (disch:=omega) only[go_sem,e2'],by simp +contextual (disch:=omega) only[go_sem,e3'],by rw[Ap hi,Ap hj,he,hx],rfl⟩
  ·have bb:decide (a.tallies[i]=b.tallies[i])=false:=decide_eq_false hx
   simp +contextual (disch:=omega) only[go_sem,c0,e2',e3',ei,A0,l1,m1,L1,L2,bb]
   exact hW _ _ _ H1 ⟨by simp +contextual (disch:=omega) only[go_sem],fun h=>hx (by simp only[h])⟩
 ·rintro Y hY env h' τ1 ei c0 H1 ⟨e2',e3',he,rfl⟩
  simp +contextual (disch:=omega) only[go_sem,c0,e2',e3',ei,l1]
  rw[Zac,h1,Zac] at he
  exact hY _ _ _ H1 ⟨he,by simp +contextual (disch:=omega) only[go_sem,e2'],by simp +contextual (disch:=omega) only[go_sem,e3'],rfl⟩
 rotate_left
 ·rintro env h' τ1 H1 ⟨e4,hx⟩
  have d:=Ks (a:=a) (b:=b) fun h=>hx h.2.1
  simp +contextual (disch:=omega) only[go_sem,e4,d]
 rintro env h' τ10 H ⟨t0,e2',e3',rfl⟩
 simp +contextual (disch:=omega) only[go_sem,e2',e3']
 refine Bu a.lives.length 6 2 (fun i env h=>env 2= .ptr n1 0/\env 3= .ptr n2 0/\a.lives.take i=b.lives.take i/\h=[.box 1 n2 [u0,u1,u2,u3],.box 1 n1 [v0,v1,v2,v3]]) (fun env h=>a.lives=b.lives/\env 2= .ptr n1 0/\env 3= .ptr n2 0/\h=[.box 1 n2 [u0,u1,u2,u3],.box 1 n1 [v0,v1,v2,v3]]) (fun env h=>env 4= .bool false/\a.lives≠b.lives) _ H (by simp +contextual (disch:=omega) only[go_sem]) ⟨by simp +contextual (disch:=omega) only[go_sem,e2'],by simp +contextual (disch:=omega) only[go_sem,e3'],by simp,rfl⟩ ?_ ?_ ?_ ?_
 ·skip
  rintro J Y W hJ hY hW i env h' τ1 hi ei c0 H1 ⟨e2',e3',he,rfl⟩
  have hj:i<b.lives.length:=by omega
  have L1:=A7 q2 hi
  have L2:=A7 p2 hj
  by_cases hx:a.lives[i]=b.lives[i]
  ·have bb:decide (a.lives[i]=b.lives[i])=true:=decide_eq_true hx
   simp +contextual (disch:=omega) only[go_sem,c0,e2',e3',ei,A0,l2,m2,L1,L2,bb]
   exact hJ _ _ _ _ H1 ⟨by simp +contextual (disch:=omega) only[go_sem,e2'],by simp +contextual (disch:=omega) only[go_sem,e3'],by rw[Ap hi,Ap hj,he,hx],rfl⟩
  ·have bb:decide (a.lives[i]=b.lives[i])=false:=decide_eq_false hx
   simp +contextual (disch:=omega) only[go_sem,c0,e2',e3',ei,A0,l2,m2,L1,L2,bb]
   exact hW _ _ _ H1 ⟨by simp +contextual (disch:=omega) only[go_sem],fun h=>hx (by simp only[h])⟩
 ·rintro Y hY env h' τ1 ei c0 H1 ⟨e2',e3',he,rfl⟩
  simp +contextual (disch:=omega) only[go_sem,c0,e2',e3',ei,l2]
  rw[Zac,h2,Zac] at he
  exact hY _ _ _ H1 ⟨he,by simp +contextual (disch:=omega) only[go_sem,e2'],by simp +contextual (disch:=omega) only[go_sem,e3'],rfl⟩
 rotate_left
 ·rintro env h' τ1 H1 ⟨e4,hx⟩
  have d:=Ks (a:=a) (b:=b) fun h=>hx h.2.2.1
  simp +contextual (disch:=omega) only[go_sem,e4,d]
 rintro env h' τ11 H ⟨t1,e2',e3',rfl⟩
 simp +contextual (disch:=omega) only[go_sem,e2',e3']
 refine Bu a.cells.length 7 4 (fun i env h=>env 2= .ptr n1 0/\env 3= .ptr n2 0/\a.cells.take i=b.cells.take i/\h=[.box 1 n2 [u0,u1,u2,u3],.box 1 n1 [v0,v1,v2,v3]]) (fun env h=>a.cells=b.cells/\env 2= .ptr n1 0/\env 3= .ptr n2 0/\h=[.box 1 n2 [u0,u1,u2,u3],.box 1 n1 [v0,v1,v2,v3]]) (fun env h=>env 4= .bool false/\a.cells≠b.cells) _ H (by simp +contextual (disch:=omega) only[go_sem]) ⟨by simp +contextual (disch:=omega) only[go_sem,e2'],by simp +contextual (disch:=omega) only[go_sem,e3'],by simp,rfl⟩ ?_ ?_ ?_ ?_
 ·skip
  rintro J Y W hJ hY hW i env h' τ1 hi ei c0 H1 ⟨e2',e3',he,rfl⟩
  have hj:i<b.cells.length:=by omega
  have L1:=A8 q3 hi
  have L2:=A8 p3 hj
  by_cases hx:a.cells[i]=b.cells[i]
  ·have bb:decide (a.cells[i]=b.cells[i])=true:=decide_eq_true hx
   simp +contextual (disch:=omega) only[go_sem,c0,e2',e3',ei,A0,l3,m3,L1,L2,bb]
   exact hJ _ _ _ _ H1 ⟨by simp +contextual (disch:=omega) only[go_sem,e2'],by simp +contextual (disch:=omega) only[go_sem,e3'],by rw[Ap hi,Ap hj,he,hx],rfl⟩
  ·have bb:decide (a.cells[i]=b.cells[i])=false:=decide_eq_false hx
   simp +contextual (disch:=omega) only[go_sem,c0,e2',e3',ei,A0,l3,m3,L1,L2,bb]
   exact hW _ _ _ H1 ⟨by simp +contextual (disch:=omega) only[go_sem],fun h=>hx (by simp only[h])⟩
 ·rintro Y hY env h' τ1 ei c0 H1 ⟨e2',e3',he,rfl⟩
  simp +contextual (disch:=omega) only[go_sem,c0,e2',e3',ei,l3]
  rw[Zac,h3,Zac] at he
  exact hY _ _ _ H1 ⟨he,by simp +contextual (disch:=omega) only[go_sem,e2'],by simp +contextual (disch:=omega) only[go_sem,e3'],rfl⟩
 rotate_left
 ·rintro env h' τ1 H1 ⟨e4,hx⟩
  have d:=Ks (a:=a) (b:=b) fun h=>hx h.2.2.2
  simp +contextual (disch:=omega) only[go_sem,e4,d]
 rintro env h' τ12 H ⟨t2,e2',e3',rfl⟩
 have d:decide (a=b)=true:=decide_eq_true (State.eq_iff.2 ⟨h0,t0,t1,t2⟩)
 simp +contextual (disch:=omega) only[go_sem,d]
 try exact fun _=>rfl
abbrev S4:Nat:=266
def A1k:Fn1:=⟨6,[.c 2 true 8],(rg [o 2 (.new [z0,z0,.nilS,.nilS,.nilS,.nilS,.nilS,.nilS])] (rg [oM 3 0,o 4 (.call 43 []),o 5 (.build [z0,z0,.nilS,.nilS,.nilS,.nilS,.nilS,.nilS] [(0,1,(.t 3)),(2,4,(.t 4))]),oS 8 2 5] .ret))⟩
theorem A9i:A6 Tryz.prog S4=some A1k:=by kernel_rfl
abbrev U1:Nat:=204
def U2:Fn1:=⟨21,[.t 2],(rg [o 2 (.mov (.k .nilS))] (rg [o 5 (.lit 17 0 [] []),oM 3 5] (.seq (rg [oV 4 (ki 0)] (.blk 0 (.lop (.seq (rg [oM 6 4,oM 7 0,oN 8 7,oB 9 .lss 6 8] (cn 9 .skip (.ext 0))) (.seq (.blk 1 (.reg [oM 12 3,oM 13 0,oM 14 4,oI 15 17 13 14,oW 16 17 15,oC 17 99 16,o 18 (.lit 17 1 [(.bool false),z0,z0,z0,.nilS,z0,s0,s0,z0,z0,z0,.nilS,.nilS,.nilS,.nilS,.nilS,.nilS] [(0,17,(.t 17))]),o 19 (.app 17 264 [(.bool false),z0,z0,z0,.nilS,z0,s0,s0,z0,z0,z0,.nilS,.nilS,.nilS,.nilS,.nilS,.nilS] (.t 12) (.t 18)),oM 3 19])) (.reg [oM 10 4,oZ 11 10 1,oM 4 11])))))) (rg [oM 20 3,oM 2 20] .ret))))⟩
theorem A3m:A6 Tryz.prog U1=some U2:=by kernel_rfl
abbrev Ok:Nat:=327
def Y1:Fn1:=⟨17,[.c 2 true 8],(rg [oX 1 0,o 2 (.new [z0,z0,.nilS,.nilS,.nilS,.nilS,.nilS,.nilS])] (dw [oF 3 0 1,oL 4 3,oF 5 1 1,oL 6 5,oF 7 2 1,oW 8 4 7,oC 9 247 8,oF 10 6 1,oL 11 10,oC 12 204 11,oF 13 7 1,oL 14 13,oC 15 204 14] [o 16 (.build [z0,z0,.nilS,.nilS,.nilS,.nilS,.nilS,.nilS] [(0,1,(.t 4)),(1,1,(.t 6)),(2,4,(.t 9)),(6,1,(.t 12)),(7,1,(.t 15))]),oS 8 2 16] .ret))⟩
theorem A6o:A6 Tryz.prog Ok=some Y1:=by kernel_rfl
abbrev Y3:Nat:=378
def Y4:Fn1:=⟨14,[.t 2],(rg [oX 1 0,oV 2 (ki 0)] (.seq (rg [oF 3 0 1,oL 4 3,oU 5 4] (cn 5 (rg [oF 6 1 1,oF 7 2 6,oL 8 7,oM 2 8] .ret) .skip)) (rg [oF 9 11 1,oF 10 5 9,oL 11 10,o 12 (.build [.nilS,.nilS,.nilS,.nilS] [(3,1,(.t 11))]),oC 13 277 12,oM 2 13] .ret)))⟩
theorem A6p:A6 Tryz.prog Y3=some Y4:=by kernel_rfl
abbrev logV (l:Log) (s0 s1 s2 s3 u w:GV):List GV:=[gi l.rep,gi l.time,s0,s1,s2,s3,u,w]
theorem I6 {σ:St} {x:Log} {cs:List GV} (h:kLog.R σ x cs):∃ s0 s1 s2 s3 u w,cs=logV x s0 s1 s2 s3 u w/\A5.R σ x.state [s0,s1,s2,s3]/\RS Ad σ u x.units/\RS Ad σ w x.waits:=by
 obtain⟨v2,v3,v4,rfl,h1,h2,h3⟩:=h
 obtain⟨s0,s1,s2,s3,rfl,h1a⟩:=h1
 exact⟨s0,s1,s2,s3,v3,v4,rfl,⟨s0,s1,s2,s3,rfl,h1a⟩,h2,h3⟩
theorem A6q (σ:St) (r:Int):∃ cs τ,Ret Tryz.prog S4 [gi r] σ (.agg cs) τ/\Hp σ τ [own kLog cs ⟨r,0,st0,[],[]⟩]:=by
 have key:∃ q τ,Ret Tryz.prog S4 [gi r] σ q τ/\∃ cs,q= .agg cs/\Hp σ τ [own kLog cs ⟨r,0,st0,[],[]⟩]:=by
  refine D8 A9i (Z0z rfl) (Hx.refl σ) ?_
  simp +contextual (disch:=omega) only[go_sem,A1k]
  intro n f τ H
  obtain⟨a,τ1,R1,K1⟩:=Gk τ
  refine by_c H R1 K1 fun H1=> ?_
  obtain⟨s0,s1,s2,s3,rfl,_⟩:=K1.rd 0 rfl
  simp +contextual (disch:=omega) only[go_sem]
  intro τ2 H2
  exact⟨_,rfl,_,rfl,Hp.ownLog (x:=⟨r,0,st0,[],[]⟩) ((((H2.sel [0] (by decide)).nilS (d:=Ad)).nilS (d:=Ad)).sel [2,0,1] (by decide))⟩
 obtain⟨q,τ,R,cs,rfl,h⟩:=key
 exact⟨cs,τ,R,h⟩
theorem J8 (σ:St) (v:GV) (l:List Unit_) (h:RS Ad σ v l) (hl:l.length+sumL Aw l<=1048576):∃ w τ,Ret Tryz.prog U1 [v] σ w τ/\Hp σ τ [ow Ad w l]:=by
 refine D8 A3m (Z0z rfl) (Hx.refl σ) ?_
 simp +contextual (disch:=omega) only[go_sem,U2,h.len]
 intro n1 f1 τ1 H1
 refine Bu l.length 4 0 (fun i env h=>env 0=v/\∃ w,env 3=w/\h=[.th (ow Ad w (l.take i))]) (fun env h=>∃ w,env 3=w/\h=[.th (ow Ad w l)]) (fun _ _=>False) _ (H1.emp Ad rfl) (by simp +contextual (disch:=omega) only[go_sem]) ⟨by simp +contextual (disch:=omega) only[go_sem],_,by simp +contextual (disch:=omega) only[go_sem],rfl⟩ ?_ ?_ ?_ (fun _ _ _ _ h=>h.elim)
 ·clear H1
  rintro J Y W hJ hY hW i env h' τ hi ei c0 H ⟨e0,w,e3,rfl⟩
  obtain⟨kv,d0,d1,d2,d3,d4,d5,U,hU,hA,hD⟩:=Mz h hi
  have hmu:Aw l[i]<=sumL Aw l:=Gj (f:=Aw) (Zaj hi)
  simp +contextual (disch:=omega) only[go_sem,c0,e0,e3,ei,A0,U,h.len]
  obtain⟨q,τ2,R2,K2⟩:=Gh τ _ l[i] (Ad.pre hU H.sub) (by omega)
  have ql:q.length=17:=Ad.len (K2.rd 0 rfl)
  refine by_c H R2 K2 fun H2=> ?_
  simp +contextual (disch:=omega) only[go_sem,Ab (cs:=zeU) ql rfl,ql]
  intro n3 f3 τ3 H3
  refine Kl H3 1 1 rfl rfl Cq (by decide) (by simp only[Zay];omega) fun w' τ4 H4=> ?_
  simp +contextual (disch:=omega) only[go_sem,ei]
  exact hJ _ _ _ _ (H4.re [1] (by decide)) ⟨by simp +contextual (disch:=omega) only[go_sem,e0],w',by simp +contextual (disch:=omega) only[go_sem],by rw[Ap hi];rfl⟩
 ·clear H1
  rintro Y hY env h' τ ei c0 H ⟨e0,w,e3,rfl⟩
  simp +contextual (disch:=omega) only[go_sem,c0,e0,ei,h.len]
  exact hY _ _ _ H ⟨w,e3,by rw[Zac]⟩
 ·rintro env h' τ H ⟨w,e3,rfl⟩
  simp +contextual (disch:=omega) only[go_sem,e3]
  exact fun _=>⟨_,rfl,H.hp⟩
theorem Q8 (σ:St) (cs:List GV) (l:Log) (hR:kLog.R σ l cs) (hl:Ad5 l<=1048576):∃ ds τ,Ret Tryz.prog Ok [.agg cs] σ (.agg ds) τ/\Hp σ τ [own kLog ds l]:=by
 obtain⟨s0,s1,s2,s3,u,w,rfl,hS,hU,hW⟩:=I6 hR
 have hb:Aa l.state<=1048576/\l.units.length+sumL Aw l.units<=1048576/\l.waits.length+sumL Aw l.waits<=1048576:=by unfold Ad5 at hl;omega
 have key:∃ q τ,Ret Tryz.prog Ok [.agg (logV l s0 s1 s2 s3 u w)] σ q τ/\∃ ds,q= .agg ds/\Hp σ τ [own kLog ds l]:=by
  refine D8 A6o (Z0z rfl) (Hx.refl σ) ?_
  simp +contextual (disch:=omega) only[go_sem,Y1]
  intro n1 f1 τ1 _ n2 f2 τ2 H2
  obtain⟨a,τ3,R3,K3⟩:=Cl τ2 _ l.state (A5.pre hS H2.sub) (by omega)
  refine by_c H2 R3 K3 fun H3=> ?_
  obtain⟨t0,t1,t2,t3,rfl,_⟩:=K3.rd 0 rfl
  simp +contextual (disch:=omega) only[go_sem]
  obtain⟨u2,τ4,R4,K4⟩:=J8 τ3 _ l.units (hU.pre H3.sub) hb.2.1
  refine by_c H3 R4 K4 fun H4=> ?_
  have cu:=(K4.sl 0 rfl).cell
  try simp +contextual (disch:=omega) only[go_sem,cu]
  obtain⟨w2,τ5,R5,K5⟩:=J8 τ4 _ l.waits (hW.pre H4.sub) hb.2.2
  refine by_c H4 R5 K5 fun H5=> ?_
  have cw:=(K5.sl 0 rfl).cell
  simp +contextual (disch:=omega) only[go_sem,cu,cw]
  intro τ6 H6
  exact⟨_,rfl,_,rfl,Hp.ownLog (x:=l) (H6.sel [2,1,0] (by decide))⟩
 obtain⟨q,τ,R,ds,rfl,h⟩:=key
 exact⟨ds,τ,R,h⟩
def Er (u:Unit_):Int:=if u.batch then Ee u.delta.cells else u.act.time
theorem Ku (σ:St) (cs:List GV) (x:Unit_) (hR:Ad.R σ x cs) (hl:Aw x<=1073741824):Ret Tryz.prog Y3 [.agg cs] σ (gi (Er x)) σ:=by
 obtain⟨kv,d0,d1,d2,d3,d4,d5,rfl,hA,hD⟩:=Gg hR
 refine E5 A6p (Z0z rfl) trivial ?_
 simp +contextual (disch:=omega) only[go_sem,Y4]
 intro n1 f1 τ1 H1
 cases hb:x.batch with
 |false=>simp +contextual (disch:=omega) only[go_sem,hb,Er]
 |true=>
  obtain⟨_,_,_,_,_,v5,e,_,_,_,_,_,q⟩:=hD
  injection e with e0 e;injection e with e1 e;injection e with e2 e;injection e with e3 e;injection e with e4 e;injection e with e5 _
  subst e0 e1 e2 e3 e4 e5
  have cq:=q.cell
  simp +contextual (disch:=omega) only[go_sem,hb,cq]
  refine by_r H1 (Iv τ1 [.nilS,.nilS,.nilS,d5] ⟨[],[],[],x.delta.cells⟩ ⟨_,_,_,_,rfl,.inl ⟨rfl,.inl rfl⟩,.inl ⟨rfl,.inl rfl⟩,.inl ⟨rfl,.inl rfl⟩,q.pre H1.sub⟩ (by unfold Aw Ay at hl;unfold Aa;simp only[sumL,List.map_nil,List.sum_nil,Za1] at *;omega)) ?_
  simp +contextual (disch:=omega) only[go_sem,hb,Er,if_true]
abbrev A6r:Nat:=328
def A6s:Fn1:=⟨95,[.t 2],(rg [oX 1 0,oV 2 kf] (.seq (dw [oF 8 0 1,oL 9 8,o 10 (.call 122 [(.t 9),(ki 0),(ki 2)]),oU 11 10,oM 12 11,vF 13 12 1 1,vL 14 12 13,og 15 12 false (.call 122 [(.t 14),(ki 0),(ki 10000)]),vU 16 12 15,oP 17 12 16,oM 18 17,vF 19 18 6 1,vL 20 18 19,og 21 18 false (.len false (.t 20)),vE 22 18 .gtr 21 60,oP 23 18 22,oM 24 23,vF 25 24 7 1,vL 26 24 25,og 27 24 false (.len false (.t 26)),vE 28 24 .gtr 27 6,oP 29 24 28,oM 30 29,vF 31 30 2 1,vW 32 30 4 31,vC 33 30 277 32,vF 34 30 1 1,vL 35 30 34] [vB 36 30 .gtr 33 35,oP 37 30 36] (cn 37 (rg [oV 2 kf] .ret) .skip)) (.seq (rg [oV 3 (ki 0)] (.blk 0 (.lop (.seq (rg [oM 38 3,oF 39 7 1,oL 40 39,oN 41 40,oB 42 .lss 38 41] (cn 42 .skip (.ext 0))) (.seq (.blk 1 (rg [oF 45 7 1,oL 46 45,oM 47 3,oI 48 17 46 47,oW 49 17 48,oC 50 97 49,oU 51 50] (cn 51 (rg [oV 2 kf] .ret) .skip))) (.reg [oM 43 3,oZ 44 43 1,oM 3 44])))))) (rg [o 52 (.call 43 []),o 4 (.new [.nilS,.nilS,.nilS,.nilS]),oS 4 4 52] (.seq (rg [oV 5 (ki 0)] (.blk 2 (.lop (.seq (rg [oM 53 5,oF 54 6 1,oL 55 54,oN 56 55,oB 57 .lss 53 56] (cn 57 .skip (.ext 2))) (.seq (.blk 3 (.seq (dw [oF 60 6 1,oL 61 60,oM 62 5,oI 63 17 61 62,oW 64 17 63,oC 65 97 64,oU 66 65,oM 67 66,vF 68 67 6 1,vL 69 67 68,vM 70 67 5,vI 71 67 17 69 70,vW 72 67 17 71,vC 73 67 378 72,vF 74 67 1 1,vL 75 67 74] [vB 76 67 .gtr 73 75,oP 77 67 76] (cn 77 (rg [oV 2 kf] .ret) .skip)) (dw [oW 79 4 4,oF 80 6 1,oL 81 80,oM 82 5,oI 83 17 81 82,oW 84 17 83,oD 85 44 79 84,oM 78 85,o 86 (.ext 0 (.t 78)),o 87 (.ext 1 (.t 78)),o 6 (.new [.nilS,.nilS,.nilS,.nilS])] [oS 4 6 86,oM 7 87] (.seq (rg [oM 88 7,oE 89 .neq 88 0] (cn 89 (rg [oV 2 kf] .ret) .skip)) (.reg [oW 90 4 6,oS 4 4 90]))))) (.reg [oM 58 5,oZ 59 58 1,oM 5 59])))))) (rg [oW 91 4 4,oF 92 2 1,oW 93 4 92,oD 94 47 91 93,oM 2 94] .ret))))))⟩
theorem Aby:A6 Tryz.prog A6r=some A6s:=by kernel_rfl
theorem Y5 (σ:St) (cs:List GV) (l:Log) (hR:kLog.R σ l cs) (hG:LogG l):∃ q τ,Ret Tryz.prog A6r [.agg cs] σ q τ/\∃ b,q= .bool b/\Hp σ τ []/\(b=true->l.time<=10000):=by
 obtain⟨s0,s1,s2,s3,u,w,rfl,hS,hU,hW⟩:=I6 hR
 have hst:=hG.st.ms
 have hrp:inB l.rep 0 2=true:=Ck.2 hG.rp
 have hnu:=hG.nu
 have hnw:=hG.nw
 have b1:decide (60<(l.units.length:Int))=false:=by simp;omega
 have b2:decide (6<(l.waits.length:Int))=false:=by simp;omega
 refine D8 Aby (Z0z rfl) (Hx.refl σ) ?_
 simp +contextual (disch:=omega) only[go_sem,A6s]
 intro n1 f1 τ1 H1
 refine by_r H1 (B6 _ _ _ _) ?_
 simp +contextual (disch:=omega) only[go_sem,hrp]
 refine by_r H1 (B6 _ _ _ _) ?_
 cases htm:inB l.time 0 10000 with
 |false=>
  simp +contextual (disch:=omega) only[go_sem,htm]
  exact fun _=>⟨_,rfl,false,rfl,(H1.re [] (by decide)).hp,fun h=>by cases h⟩
 |true=>
  have htm2:=(Ck.1 htm).2
  simp +contextual (disch:=omega) only[go_sem,htm,hU.len,hW.len,b1,b2]
  refine by_r H1 (Iv τ1 _ l.state (A5.pre hS H1.sub) (by omega)) ?_
  cases hti:decide (l.time<Ee l.state.cells) with
  |true=>
   simp +contextual (disch:=omega) only[go_sem,hti]
   exact fun _=>⟨_,rfl,false,rfl,(H1.re [] (by decide)).hp,fun h=>by cases h⟩
  |false=>
   simp +contextual (disch:=omega) only[go_sem,hti]
   refine Bu l.waits.length 3 0 (fun i env h=>env 1= .ptr n1 0/\h=[.box 1 n1 (logV l s0 s1 s2 s3 u w)]) (fun env h=>env 1= .ptr n1 0/\h=[.box 1 n1 (logV l s0 s1 s2 s3 u w)]) (fun _ _=>False) _ H1 (by simp +contextual (disch:=omega) only[go_sem]) ⟨by simp +contextual (disch:=omega) only[go_sem],rfl⟩ ?_ ?_ ?_ (fun _ _ _ _ h=>h.elim)
   ·rintro J Y W hJ hY hW' i env h' τ hi ei c0 H ⟨e1,rfl⟩
    obtain⟨kv,d0,d1,d2,d3,d4,d5,U,hUn,_,_⟩:=Mz hW hi
    have hok:=hG.wa l.waits[i] (Zaj hi)
    simp +contextual (disch:=omega) only[go_sem,c0,e1,ei,hW.len,A0,U]
    refine by_r H (Hg _ _ l.waits[i] (Ad.pre hUn H.sub) (by have:=Mf hok;omega)) ?_
    simp +contextual (disch:=omega) only[go_sem,hok,e1,ei]
    exact hJ _ _ _ _ H ⟨by simp +contextual (disch:=omega) only[go_sem,e1],rfl⟩
   ·rintro Y hY env h' τ ei c0 H ⟨e1,rfl⟩
    simp +contextual (disch:=omega) only[go_sem,c0,e1,ei,hW.len]
    exact hY _ _ _ H ⟨e1,rfl⟩
   ·clear H1
    rintro env h' τ H ⟨e1,rfl⟩
    simp +contextual (disch:=omega) only[go_sem,e1]
    obtain⟨r,τ2,R2,K2⟩:=Gk τ
    have gr:r.length=4:=A5.len (K2.rd 0 rfl)
    refine by_c H R2 K2 fun H2=> ?_
    simp +contextual (disch:=omega) only[go_sem,Ab (cs:=[GV.nilS,GV.nilS,GV.nilS,GV.nilS]) gr rfl,gr,e1]
    intro n4 f4 τ30 _ τ3 H3
    refine Bu l.units.length 5 2 (fun i env h=>env 1= .ptr n1 0/\env 4= .ptr n4 0/\∃ s ds,OkS s/\h=[.box 1 n4 ds,.th (own A5 ds s),.box 1 n1 (logV l s0 s1 s2 s3 u w)]) (fun env h=>env 1= .ptr n1 0/\env 4= .ptr n4 0/\∃ s ds,OkS s/\h=[.box 1 n4 ds,.th (own A5 ds s),.box 1 n1 (logV l s0 s1 s2 s3 u w)]) (fun env h=>env 2= .bool false) _ H3 (by simp +contextual (disch:=omega) only[go_sem]) ⟨by simp +contextual (disch:=omega) only[go_sem,e1],by simp +contextual (disch:=omega) only[go_sem],st0,r,Xg,rfl⟩ ?_ ?_ ?_ ?_
    ·clear H H2 H3 K2 R2
     rintro J Y W hJ hY hW' i env h' τ hi ei c0 H ⟨e1,e4,s,ds,hs,rfl⟩
     have gd:ds.length=4:=A5.len (H.hp.rd 1 rfl)
     have hsm:=hs.ms
     obtain⟨kv,d0,d1,d2,d3,d4,d5,U,hUn,_,_⟩:=Mz hU hi
     have hok:=hG.un l.units[i] (Zaj hi)
     have hum:=Mf hok
     simp +contextual (disch:=omega) only[go_sem,c0,e1,e4,ei,hU.len,A0,U]
     refine by_r H (Hg _ _ l.units[i] (Ad.pre hUn H.sub) (by omega)) ?_
     simp +contextual (disch:=omega) only[go_sem,hok,c0,e1,e4,ei,hU.len,A0,U]
     refine by_r H (Ku _ _ l.units[i] (Ad.pre hUn H.sub) (by omega)) ?_
     cases hut:decide (l.time<Er l.units[i]) with
     |true=>
      simp +contextual (disch:=omega) only[go_sem,hut,e1]
      exact hW' _ _ _ H (by simp +contextual (disch:=omega) only[go_sem])
     |false=>
      simp +contextual (disch:=omega) only[go_sem,hut,c0,e1,e4,ei,hU.len,A0,U,A4 gd]
      obtain⟨q,τ5,R5,K5⟩:=Oe τ ds s (H.hp.rd 1 rfl) _ l.units[i] (Ad.pre hUn H.sub) (by omega) (by omega) (hG.ub _ (Zaj hi))
      have gq:q.length=4:=A5.len (K5.rd 0 rfl)
      refine by_c H R5 K5 fun H5=> ?_
      simp +contextual (disch:=omega) only[go_sem,Ab (cs:=[GV.nilS,GV.nilS,GV.nilS,GV.nilS]) gq rfl,gq,e1,e4]
      intro n6 f6 τ60 _ τ6 H6
      by_cases hc:(Cr s l.units[i]).2=0
      ·have bc:((Cr s l.units[i]).2 != 0)=false:=by simp[hc]
       simp +contextual (disch:=omega) only[go_sem,bc,A4 gq,e1,e4,ei,Ab (cs:=ds) gq gd,gq]
       refine⟨by omega,?_⟩
       intro τ7 H7
       exact hJ _ _ _ _ (H7.re [2,1,4] (by decide)) ⟨by simp +contextual (disch:=omega) only[go_sem,e1],by simp +contextual (disch:=omega) only[go_sem,e4],_,q,A6n _ hs,rfl⟩
      ·have bc:((Cr s l.units[i]).2 != 0)=true:=by simp[hc]
       simp +contextual (disch:=omega) only[go_sem,bc]
       exact hW' _ _ _ H6 (by simp +contextual (disch:=omega) only[go_sem])
    ·clear H H2 H3
     rintro Y hY env h' τ ei c0 H ⟨e1,e4,s,ds,hs,rfl⟩
     simp +contextual (disch:=omega) only[go_sem,c0,e1,ei,hU.len]
     exact hY _ _ _ H ⟨e1,e4,s,ds,hs,rfl⟩
    ·clear H H2 H3
     rintro env h' τ H ⟨e1,e4,s,ds,hs,rfl⟩
     have gd:ds.length=4:=A5.len (H.hp.rd 1 rfl)
     have hsm:=hs.ms
     simp +contextual (disch:=omega) only[go_sem,e1,e4,A4 gd]
     refine by_r H (I5 τ ds _ s l.state (H.hp.rd 1 rfl) (A5.pre hS H.sub) (by omega) (by omega)) ?_
     simp +contextual (disch:=omega) only[go_sem]
     exact fun _=>⟨_,rfl,_,rfl,(H.re [] (by decide)).hp,fun _=>htm2⟩
    ·clear H H2 H3
     rintro env h' τ H e2
     simp +contextual (disch:=omega) only[go_sem,e2]
     exact fun _=>⟨_,rfl,false,rfl,Hp.nil H.sub,fun h=>by cases h⟩
abbrev Y6:Nat:=210
def Y7:Fn1:=⟨59,[.t 4],(rg [oX 2 0,oX 3 1,oV 4 kf] (rg [oF 5 0 2,oW 6 2 5,oF 7 0 3,oW 8 2 7,o 9 (.eqs false [.i .i64,.i .i64] (.t 6) (.t 8)),oM 10 9,jF 11 10 2 2,jL 12 10 11,jF 13 10 2 3,jL 14 10 13,jB 15 10 .eql 12 14,oQ 16 10 15,oM 17 16,jF 18 17 3 2,jL 19 17 18,jF 20 17 3 3,jL 21 17 20,jD 22 17 171 19 21,oQ 23 17 22,oM 24 23,jF 25 24 4 2,jL 26 24 25,jF 27 24 4 3,jL 28 24 27,jB 29 24 .eql 26 28,oQ 30 24 29,oM 31 30,jF 32 31 5 2,jL 33 31 32,jF 34 31 5 3,jL 35 31 34,jB 36 31 .eql 33 35,oQ 37 31 36,oM 38 37,jF 39 38 6 2,jL 40 38 39,jF 41 38 6 3,jL 42 38 41,jB 43 38 .eql 40 42,oQ 44 38 43,oM 45 44,jF 46 45 7 2,jL 47 45 46,jF 48 45 7 3,jL 49 45 48,jB 50 45 .eql 47 49,oQ 51 45 50,oM 52 51,jF 53 52 8 2,jW 54 52 2 53,jF 55 52 8 3,jW 56 52 2 55,og 57 52 true (.eqs false [.i .i64,.i .i64] (.t 54) (.t 56)),oQ 58 52 57,oM 4 58] .ret))⟩
theorem A6t:A6 Tryz.prog Y6=some Y7:=by kernel_rfl
abbrev L9:Nat:=280
def La:Fn1:=⟨58,[.t 4],(rg [oX 2 0,oX 3 1,oV 4 kf] (.seq (rg [oF 6 0 2,oL 7 6,oF 8 0 3,oL 9 8,oD 10 171 7 9,oU 11 10,oM 12 11,vF 13 12 4 2,vL 14 12 13,og 15 12 false (.len false (.t 14)),vF 16 12 4 3,vL 17 12 16,og 18 12 false (.len false (.t 17)),vB 19 12 .neq 15 18,oP 20 12 19] (cn 20 (rg [oV 4 kf] .ret) .skip)) (.seq (rg [oV 5 (ki 0)] (.blk 0 (.lop (.seq (rg [oM 21 5,oF 22 4 2,oL 23 22,oN 24 23,oB 25 .lss 21 24] (cn 25 .skip (.ext 0))) (.seq (.blk 1 (dw [oF 28 4 2,oL 29 28,oM 30 5,oI 31 2 29 30,oW 32 2 31,oF 33 4 3,oL 34 33,oM 35 5,oI 36 2 34 35,oW 37 2 36] [o 38 (.eqs true [.i .i64,.i .i64] (.t 32) (.t 37))] (cn 38 (rg [oV 4 kf] .ret) .skip))) (.reg [oM 26 5,oZ 27 26 1,oM 5 27])))))) (rg [oF 39 1 2,oL 40 39,oF 41 2 2,oL 42 41,oF 43 3 2,oL 44 43,oF 45 5 2,oL 46 45,o 47 (.build [.nilS,.nilS,.nilS,.nilS] [(0,1,(.t 40)),(1,1,(.t 42)),(2,1,(.t 44)),(3,1,(.t 46))]),oF 48 1 3,oL 49 48,oF 50 2 3,oL 51 50,oF 52 3 3,oL 53 52,oF 54 5 3,oL 55 54,o 56 (.build [.nilS,.nilS,.nilS,.nilS] [(0,1,(.t 49)),(1,1,(.t 51)),(2,1,(.t 53)),(3,1,(.t 55))]),oD 57 47 47 56,oM 4 57] .ret))))⟩
theorem S5:A6 Tryz.prog L9=some La:=by kernel_rfl
abbrev U3:Nat:=186
def U4:Fn1:=⟨24,[.t 4],(rg [oX 2 0,oX 3 1,oV 4 kf] (rg [oF 5 0 2,oL 6 5,oF 7 0 3,oL 8 7,o 9 (.eqb false (.t 6) (.t 8)),oM 10 9,jF 11 10 1 2,jW 12 10 10 11,jF 13 10 1 3,jW 14 10 10 13,jD 15 10 210 12 14,oQ 16 10 15,oM 17 16,jF 18 17 11 2,jW 19 17 6 18,jF 20 17 11 3,jW 21 17 6 20,jD 22 17 280 19 21,oQ 23 17 22,oM 4 23] .ret))⟩
theorem A3n:A6 Tryz.prog U3=some U4:=by kernel_rfl
theorem Abz (a b:Act):Ry a b=decide (a=b):=by
 rw[Zaz]
 simp only[Ry,Zad,decide_eq_true_eq,beq_iff_eq,Act.eq_iff]
theorem Q9 (σ:St) (cs ds:List GV) (a b:Act) (hR:kAct.R σ a cs) (hS:kAct.R σ b ds) (hl:a.knew.length<=1099511627776):Ret Tryz.prog Y6 [.agg cs,.agg ds] σ (.bool (decide (a=b))) σ:=by
 rw[<- Abz]
 obtain⟨v,rfl,q⟩:=hR
 obtain⟨u,rfl,p⟩:=hS
 refine E5 A6t (Z0z rfl) trivial ?_
 unfold Ry
 simp +contextual (disch:=omega) only[go_sem,Y7]
 intro n f τ0 _ m g τ H
 have S:=H.sub
 cases h0:decide (a.dot=b.dot) with
 |false=>
  simp +contextual (disch:=omega) only[go_sem,Zaa]
  try exact fun _=>rfl
 |true=>
  simp +contextual (disch:=omega) only[go_sem,Zab]
  cases h1:a.time==b.time with
  |false=>
   simp +contextual (disch:=omega) only[go_sem,Zaa]
   try exact fun _=>rfl
  |true=>
   simp +contextual (disch:=omega) only[go_sem,Zab]
   refine by_b H (Rb _ v u _ _ (q.pre S) (p.pre S) hl) (fun k1=> ?_) (fun k1=> ?_)
   rotate_left
   ·simp +contextual (disch:=omega) only[go_sem,k1,Zaa]
    try exact fun _=>rfl
   simp +contextual (disch:=omega) only[go_sem,k1,Zab]
   cases h0:a.kind==b.kind with
   |false=>
    simp +contextual (disch:=omega) only[go_sem,Zaa]
    try exact fun _=>rfl
   |true=>
    simp +contextual (disch:=omega) only[go_sem,Zab]
    cases h1:decide (a.obj=b.obj) with
    |false=>
     simp +contextual (disch:=omega) only[go_sem,Zaa]
     try exact fun _=>rfl
    |true=>
     simp +contextual (disch:=omega) only[go_sem,Zab]
     cases h2:decide (a.key=b.key) with
     |false=>
      simp +contextual (disch:=omega) only[go_sem,Zaa]
      try exact fun _=>rfl
     |true=>
      simp +contextual (disch:=omega) only[go_sem,Zab]
      cases h3:a.val==b.val with
      |false=>
       simp +contextual (disch:=omega) only[go_sem,Zaa]
       try exact fun _=>rfl
      |true=>
       simp +contextual (disch:=omega) only[go_sem,Zab]
theorem A3o {a b:Delta} (h:¬ (a.base=b.base/\a.dead=b.dead/\(⟨a.know,a.tallies,a.lives,a.cells⟩:State)=⟨b.know,b.tallies,b.lives,b.cells⟩)):decide (a=b)=false:=decide_eq_false fun e=>h (by subst e;exact⟨rfl,rfl,rfl⟩)
theorem Afw {a b:Delta} (h0:a.base=b.base) (h1:a.dead=b.dead):decide (a=b)=decide ((⟨a.know,a.tallies,a.lives,a.cells⟩:State)=⟨b.know,b.tallies,b.lives,b.cells⟩):=by
 rw[Zaz]
 simp only[decide_eq_true_eq,Delta.eq_iff,State.eq_iff,h0,h1,true_and]
theorem Qa (σ:St) (cs ds:List GV) (a b:Delta) (hR:B9.R σ a cs) (hS:B9.R σ b ds) (hl:Ay a<=1073741824) (hm:Ay b<=1073741824):Ret Tryz.prog L9 [.agg cs,.agg ds] σ (.bool (decide (a=b))) σ:=by
 obtain⟨v0,v1,v2,v3,v4,v5,rfl,q0,q1,q2,q3,q4,q5⟩:=hR
 obtain⟨u0,u1,u2,u3,u4,u5,rfl,p0,p1,p2,p3,p4,p5⟩:=hS
 have hbl:a.base.length<=1099511627776:=by unfold Ay at hl;omega
 have hdl:a.dead.length<=1099511627776:=by unfold Ay at hl;omega
 have hsa:Aa ⟨a.know,a.tallies,a.lives,a.cells⟩<=1099511627776:=by unfold Ay at hl;unfold Aa;simp only;omega
 have hsb:Aa ⟨b.know,b.tallies,b.lives,b.cells⟩<=1099511627776:=by unfold Ay at hm;unfold Aa;simp only;omega
 clear hl hm
 refine E5 S5 (Z0z rfl) trivial ?_
 simp +contextual (disch:=omega) only[go_sem,La]
 intro n1 f1 τ0 _ n2 f2 τ H
 have g1:σ.length<=n1:=f1
 have g2:σ.length<=n2:=f2.2
 have S:=H.sub
 refine by_r H (Rb _ v0 u0 _ _ (q0.pre S) (p0.pre S) hbl) ?_
 have l4:=q4.len
 have m4:=p4.len
 by_cases h0:a.base=b.base
 rotate_left
 ·have d:=A3o (a:=a) (b:=b) fun h=>h0 h.1
  have e0:decide (a.base=b.base)=false:=decide_eq_false h0
  simp +contextual (disch:=omega) only[go_sem,e0,d]
  try exact fun _=>rfl
 have e0:decide (a.base=b.base)=true:=decide_eq_true h0
 by_cases h1:a.dead.length=b.dead.length
 rotate_left
 ·have d:=A3o (a:=a) (b:=b) fun h=>h1 (by rw[h.2.1])
  have e1:((a.dead.length:Int) != (b.dead.length:Int))=true:=by simp;omega
  simp +contextual (disch:=omega) only[go_sem,e0,e1,l4,m4,d]
  try exact fun _=>rfl
 have e1:((a.dead.length:Int) != (b.dead.length:Int))=false:=by simp;omega
 simp +contextual (disch:=omega) only[go_sem,e0,e1,l4,m4]
 refine Bu a.dead.length 5 0 (fun i env h=>env 2= .ptr n1 0/\env 3= .ptr n2 0/\a.dead.take i=b.dead.take i/\h=[.box 1 n2 [u0,u1,u2,u3,u4,u5],.box 1 n1 [v0,v1,v2,v3,v4,v5]]) (fun env h=>a.dead=b.dead/\env 2= .ptr n1 0/\env 3= .ptr n2 0/\h=[.box 1 n2 [u0,u1,u2,u3,u4,u5],.box 1 n1 [v0,v1,v2,v3,v4,v5]]) (fun env h=>env 4= .bool false/\a.dead≠b.dead) _ H (by simp +contextual (disch:=omega) only[go_sem]) ⟨by simp +contextual (disch:=omega) only[go_sem],by simp +contextual (disch:=omega) only[go_sem],by simp,rfl⟩ ?_ ?_ ?_ ?_
 ·clear H
  rintro J Y W hJ hY hW i env h' τ1 hi ei c0 H1 ⟨e2',e3',he,rfl⟩
  have hj:i<b.dead.length:=by omega
  have L1:=Ky q4 hi
  have L2:=Ky p4 hj
  by_cases hx:a.dead[i]=b.dead[i]
  ·have bb:decide (a.dead[i]=b.dead[i])=true:=decide_eq_true hx
   simp +contextual (disch:=omega) only[go_sem,c0,e2',e3',ei,A0,l4,m4,L1,L2,bb]
   exact hJ _ _ _ _ H1 ⟨by simp +contextual (disch:=omega) only[go_sem,e2'],by simp +contextual (disch:=omega) only[go_sem,e3'],by rw[Ap hi,Ap hj,he,hx],rfl⟩
  ·have bb:decide (a.dead[i]=b.dead[i])=false:=decide_eq_false hx
   simp +contextual (disch:=omega) only[go_sem,c0,e2',e3',ei,A0,l4,m4,L1,L2,bb]
   exact hW _ _ _ H1 ⟨by simp +contextual (disch:=omega) only[go_sem],fun h=>hx (by simp only[h])⟩
 ·rintro Y hY env h' τ1 ei c0 H1 ⟨e2',e3',he,rfl⟩
  simp +contextual (disch:=omega) only[go_sem,c0,e2',e3',ei,l4]
  rw[Zac,h1,Zac] at he
  exact hY _ _ _ H1 ⟨he,by simp +contextual (disch:=omega) only[go_sem,e2'],by simp +contextual (disch:=omega) only[go_sem,e3'],rfl⟩
 rotate_left
 ·rintro env h' τ1 H1 ⟨e4,hx⟩
  have d:=A3o (a:=a) (b:=b) fun h=>hx h.2.1
  simp +contextual (disch:=omega) only[go_sem,e4,d]
 clear H S
 rintro env h' τ1 H ⟨hd,e2',e3',rfl⟩
 have S:=H.sub
 have c1:=q1.cell
 have c2:=q2.cell
 have c3:=q3.cell
 have c5:=q5.cell
 have k1:=p1.cell
 have k2:=p2.cell
 have k3:=p3.cell
 have k5:=p5.cell
 have D:=Afw h0 hd
 simp +contextual (disch:=omega) only[go_sem,e2',e3',c1,c2,c3,c5,k1,k2,k3,k5]
 refine by_r H (I5 τ1 [v1,v2,v3,v5] [u1,u2,u3,u5] ⟨a.know,a.tallies,a.lives,a.cells⟩ ⟨b.know,b.tallies,b.lives,b.cells⟩ ⟨_,_,_,_,rfl,q1.pre S,q2.pre S,q3.pre S,q5.pre S⟩ ⟨_,_,_,_,rfl,p1.pre S,p2.pre S,p3.pre S,p5.pre S⟩ hsa hsb) ?_
 simp +contextual (disch:=omega) only[go_sem,D]
 try exact fun _=>rfl
theorem Zl (σ:St) (cs ds:List GV) (a b:Unit_) (hR:Ad.R σ a cs) (hS:Ad.R σ b ds) (hl:Aw a<=1073741824) (hm:Aw b<=1073741824):Ret Tryz.prog U3 [.agg cs,.agg ds] σ (.bool (decide (a=b))) σ:=by
 obtain⟨kv,d0,d1,d2,d3,d4,d5,rfl,hA,hD⟩:=Gg hR
 obtain⟨ku,x0,x1,x2,x3,x4,x5,rfl,hB,hE⟩:=Gg hS
 have hma:Dm a.act<=1073741824/\Ay a.delta<=1073741824:=by unfold Aw at hl;omega
 have hmb:Ay b.delta<=1073741824:=by unfold Aw at hm;omega
 have hkn:a.act.knew.length<=1099511627776:=by have:=hma.1;unfold Dm at this;omega
 refine E5 A3n (Z0z rfl) trivial ?_
 simp +contextual (disch:=omega) only[go_sem,U4]
 intro n1 f1 τ0 _ n2 f2 τ H
 have S:=H.sub
 cases h0:a.batch==b.batch with
 |false=>
  have d:decide (a=b)=false:=decide_eq_false fun h=>by subst h;simp at h0
  simp +contextual (disch:=omega) only[go_sem,d]
  try exact fun _=>rfl
 |true=>
  simp +contextual (disch:=omega) only[go_sem]
  refine by_r H (Q9 _ _ _ _ _ (kAct.pre hA S) (kAct.pre hB S) hkn) ?_
  by_cases h1:a.act=b.act
  rotate_left
  ·have d:decide (a=b)=false:=decide_eq_false fun h=>h1 (by rw[h])
   have e1:decide (a.act=b.act)=false:=decide_eq_false h1
   simp +contextual (disch:=omega) only[go_sem,d,e1]
   try exact fun _=>rfl
  have e1:decide (a.act=b.act)=true:=decide_eq_true h1
  simp +contextual (disch:=omega) only[go_sem,e1]
  refine by_r H (Qa _ _ _ _ _ (B9.pre hD S) (B9.pre hE S) hma.2 hmb) ?_
  have d:decide (a=b)=decide (a.delta=b.delta):=by
   rw[Zaz]
   simp only[decide_eq_true_eq,Unit_.eq_iff,h1,true_and]
   exact⟨fun h=>h.2,fun h=>⟨by simpa using h0,h⟩⟩
  simp +contextual (disch:=omega) only[go_sem,d]
  try exact fun _=>rfl
end Go.Proofs.YtbeoiejnogdkpaaGreat.Sy
