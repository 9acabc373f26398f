/- Texts of this proof, one behind the other. -/
import Derived.Test.YtbeoiejnogdkpaaGreatBPWhose3
import Derived.Test.YtbeoiejnogdkpaaGreatProg
import Derived.KernelRfl
set_option linter.unusedSimpArgs false
set_option linter.unusedVariables false
set_option maxRecDepth 4000
set_option maxHeartbeats 4000000
open Bool renaming false_and→Zaa,true_and→Zab,and_eq_true→Zac,eq_iff_iff→Zaq
open List renaming take_length→Zad,getElem_mem→Zae,mem_cons_of_mem→Zaf,length_append→Zag,mem_singleton→Zah,mem_append→Zai,mem_cons_self→Zaj,mem_flatten→Zak,length_map→Zal,length_singleton→Zam,drop_append_of_le_length→Zan,take_append_of_le_length→Zao,not_mem_nil→Zap,mem_or_eq_of_mem_set→Zar,append_assoc→Zas,getElem?_map→Zat,getElem?_eq_getElem→Zau,mem_cons→Zav,getElem_cons_drop→Zaw,mem_append_right→Zax,length_nil→Zay,mem_append_left→Zaz,mem_of_getElem?→Za0,getElem_of_mem→Za1,findIdx?_cons→Za3,length_take→Za5,length_drop→Za7,isEmpty_iff→Za8,map_append→Za9,length_set→Zbd,drop_drop→Zbe,drop_left→Zbf
open Int renaming tmod_lt_of_pos→Za2,tmod_nonneg→Zbc
open Nat renaming lt_or_ge→Za4,le_refl→Zba,zero_le→Zbb
open Option renaming bind_some→Za6
namespace Go.Proofs.YtbeoiejnogdkpaaGreat.Sy
open Go Go.RowKit
abbrev Rr:Nat:=220
def Rt:Fn1:=⟨44,[.t 2],(rg [oX 1 0,oV 2 kf] (rg [oF 3 0 1,oW 4 2 3,o 5 (.build [z0,z0] []),o 6 (.eqs false [.i .i64,.i .i64] (.t 4) (.t 5)),oM 7 6,jF 8 7 2 1,jL 9 7 8,jE 10 7 .eql 9 0,oQ 11 7 10,oM 12 11,jF 13 12 3 1,jL 14 12 13,og 15 12 true (.len false (.t 14)),jE 16 12 .eql 15 0,oQ 17 12 16,oM 18 17,jF 19 18 4 1,jL 20 18 19,jE 21 18 .eql 20 0,oQ 22 18 21,oM 23 22,jF 24 23 5 1,jL 25 23 24,og 26 23 true (.bin .eql (.t 25) (.k s0)),oQ 27 23 26,oM 28 27,jF 29 28 6 1,jL 30 28 29,og 31 28 true (.bin .eql (.t 30) (.k s0)),oQ 32 28 31,oM 33 32,jF 34 33 7 1,jL 35 33 34,jE 36 33 .eql 35 0,oQ 37 33 36,oM 38 37,jF 39 38 8 1,jW 40 38 2 39,og 41 38 true (.build [z0,z0] []),og 42 38 true (.eqs false [.i .i64,.i .i64] (.t 40) (.t 41)),oQ 43 38 42,oM 2 43] .ret))⟩
theorem A02:A6 Tryz.prog Rr=some Rt:=by kernel_rfl
abbrev Ma:Nat:=221
def Mb:Fn1:=⟨37,[.t 2],(rg [oX 1 0,oV 2 kf] (rg [oF 3 0 1,oL 4 3,oN 5 4,oE 6 .eql 5 0,oM 7 6,jF 8 7 1 1,jL 9 7 8,og 10 7 true (.len false (.t 9)),jE 11 7 .eql 10 0,oQ 12 7 11,oM 13 12,jF 14 13 2 1,jL 15 13 14,og 16 13 true (.len false (.t 15)),jE 17 13 .eql 16 0,oQ 18 13 17,oM 19 18,jF 20 19 3 1,jL 21 19 20,og 22 19 true (.len false (.t 21)),jE 23 19 .eql 22 0,oQ 24 19 23,oM 25 24,jF 26 25 4 1,jL 27 25 26,og 28 25 true (.len false (.t 27)),jE 29 25 .eql 28 0,oQ 30 25 29,oM 31 30,jF 32 31 5 1,jL 33 31 32,og 34 31 true (.len false (.t 33)),jE 35 31 .eql 34 0,oQ 36 31 35,oM 2 36] .ret))⟩
theorem Uz:A6 Tryz.prog Ma=some Mb:=by kernel_rfl
abbrev V2:Nat:=226
def V3:Fn1:=⟨59,[.t 4],(rg [oX 2 0,oX 3 1,oV 4 kf] (rg [oF 5 0 2,oW 6 2 5,oF 7 0 3,oW 8 2 7,o 9 (.eqs false [.i .i64,.i .i64] (.t 6) (.t 8)),oM 10 9,jF 11 10 2 2,jL 12 10 11,jF 13 10 2 3,jL 14 10 13,jB 15 10 .eql 12 14,oQ 16 10 15,oM 17 16,jF 18 17 3 2,jL 19 17 18,jF 20 17 3 3,jL 21 17 20,jD 22 17 156 19 21,oQ 23 17 22,oM 24 23,jF 25 24 4 2,jL 26 24 25,jF 27 24 4 3,jL 28 24 27,jB 29 24 .eql 26 28,oQ 30 24 29,oM 31 30,jF 32 31 5 2,jL 33 31 32,jF 34 31 5 3,jL 35 31 34,jB 36 31 .eql 33 35,oQ 37 31 36,oM 38 37,jF 39 38 6 2,jL 40 38 39,jF 41 38 6 3,jL 42 38 41,jB 43 38 .eql 40 42,oQ 44 38 43,oM 45 44,jF 46 45 7 2,jL 47 45 46,jF 48 45 7 3,jL 49 45 48,jB 50 45 .eql 47 49,oQ 51 45 50,oM 52 51,jF 53 52 8 2,jW 54 52 2 53,jF 55 52 8 3,jW 56 52 2 55,og 57 52 true (.eqs false [.i .i64,.i .i64] (.t 54) (.t 56)),oQ 58 52 57,oM 4 58] .ret))⟩
theorem A2j:A6 Tryz.prog V2=some V3:=by kernel_rfl
abbrev Oj:Nat:=227
def Ok:Fn1:=⟨45,[.t 4],(rg [oX 2 0,oX 3 1,oV 4 kf] (rg [oF 5 0 2,oL 6 5,oF 7 0 3,oL 8 7,oD 9 156 6 8,oM 10 9,jF 11 10 1 2,jL 12 10 11,jF 13 10 1 3,jL 14 10 13,jD 15 10 156 12 14,oQ 16 10 15,oM 17 16,jF 18 17 2 2,jL 19 17 18,jF 20 17 2 3,jL 21 17 20,jD 22 17 307 19 21,oQ 23 17 22,oM 24 23,jF 25 24 3 2,jL 26 24 25,jF 27 24 3 3,jL 28 24 27,jD 29 24 308 26 28,oQ 30 24 29,oM 31 30,jF 32 31 4 2,jL 33 31 32,jF 34 31 4 3,jL 35 31 34,jD 36 31 309 33 35,oQ 37 31 36,oM 38 37,jF 39 38 5 2,jL 40 38 39,jF 41 38 5 3,jL 42 38 41,jD 43 38 310 40 42,oQ 44 38 43,oM 4 44] .ret))⟩
theorem Wl:A6 Tryz.prog Oj=some Ok:=by kernel_rfl
abbrev V4:Nat:=97
def N1:Fn1:=⟨21,[.t 2],(rg [oX 1 0,oV 2 kf] (.seq (rg [oF 3 0 1,oL 4 3] (cn 4 (rg [oF 5 11 1,oW 6 6 5,oC 7 219 6,oM 8 7,jF 9 8 1 1,jW 10 8 10 9,jC 11 8 220 10,oQ 12 8 11,oM 2 12] .ret) .skip)) (rg [oF 13 1 1,oW 14 10 13,oC 15 185 14,oM 16 15,jF 17 16 11 1,jW 18 16 6 17,jC 19 16 221 18,oQ 20 16 19,oM 2 20] .ret)))⟩
theorem A2k:A6 Tryz.prog V4=some N1:=by kernel_rfl
abbrev Ya:Nat:=101
def Py:Fn1:=⟨23,[.t 2],(rg [oX 1 0,oV 2 kf] (.seq (rg [oF 3 0 1,oL 4 3] (cn 4 (rg [oF 5 11 1,oW 6 6 5,oC 7 225 6,oM 8 7,jF 9 8 1 1,jW 10 8 10 9,og 11 8 true (.build [z0,z0,z0,.nilS,z0,s0,s0,z0,z0,z0] []),jD 12 8 226 10 11,oQ 13 8 12,oM 2 13] .ret) .skip)) (rg [oF 14 1 1,oW 15 10 14,oC 16 169 15,oM 17 16,jF 18 17 11 1,jW 19 17 6 18,og 20 17 true (.build [.nilS,.nilS,.nilS,.nilS,.nilS,.nilS] []),jD 21 17 227 19 20,oQ 22 17 21,oM 2 22] .ret)))⟩
theorem A5k:A6 Tryz.prog Ya=some Py:=by kernel_rfl
abbrev C6:Nat:=307
def Bc:Fn1:=⟨26,[.t 4],(rg [oV 4 kf] (.seq (rg [oM 6 0,oN 7 6,oM 8 1,oN 9 8,oB 10 .neq 7 9] (cn 10 (rg [oV 4 kf] .ret) .skip)) (.seq (rg [oM 11 0,oN 12 11,oV 13 (ki 0)] (.blk 0 (.lop (rg [oB 14 .lss 13 12] (.seq (cn 14 .skip (.ext 0)) (.seq (.blk 1 (rg [oM 15 13,oM 5 15] (dw [oM 16 0,oM 17 5,oI 18 3 16 17,oW 19 3 18,oM 20 1,oM 21 5,oI 22 3 20 21,oW 23 3 22] [o 24 (.eqs true [.s,.i .i64,.i .i64] (.t 19) (.t 23))] (cn 24 (rg [oV 4 kf] .ret) .skip)))) (.reg [oZ 25 13 1,oM 13 25]))))))) (rg [oV 4 kt] .ret))))⟩
theorem E1:A6 Tryz.prog C6=some Bc:=by kernel_rfl
abbrev Cg:Nat:=308
def Bf:Fn1:=⟨26,[.t 4],(rg [oV 4 kf] (.seq (rg [oM 6 0,oN 7 6,oM 8 1,oN 9 8,oB 10 .neq 7 9] (cn 10 (rg [oV 4 kf] .ret) .skip)) (.seq (rg [oM 11 0,oN 12 11,oV 13 (ki 0)] (.blk 0 (.lop (rg [oB 14 .lss 13 12] (.seq (cn 14 .skip (.ext 0)) (.seq (.blk 1 (rg [oM 15 13,oM 5 15] (dw [oM 16 0,oM 17 5,oI 18 6 16 17,oW 19 6 18,oM 20 1,oM 21 5,oI 22 6 20 21,oW 23 6 22] [o 24 (.eqs true [.b,.s,.s,.i .i64,.i .i64,.i .i64] (.t 19) (.t 23))] (cn 24 (rg [oV 4 kf] .ret) .skip)))) (.reg [oZ 25 13 1,oM 13 25]))))))) (rg [oV 4 kt] .ret))))⟩
theorem Ej:A6 Tryz.prog Cg=some Bf:=by kernel_rfl
abbrev Cs:Nat:=309
def Bj:Fn1:=⟨26,[.t 4],(rg [oV 4 kf] (.seq (rg [oM 6 0,oN 7 6,oM 8 1,oN 9 8,oB 10 .neq 7 9] (cn 10 (rg [oV 4 kf] .ret) .skip)) (.seq (rg [oM 11 0,oN 12 11,oV 13 (ki 0)] (.blk 0 (.lop (rg [oB 14 .lss 13 12] (.seq (cn 14 .skip (.ext 0)) (.seq (.blk 1 (rg [oM 15 13,oM 5 15] (dw [oM 16 0,oM 17 5,oI 18 2 16 17,oW 19 2 18,oM 20 1,oM 21 5,oI 22 2 20 21,oW 23 2 22] [o 24 (.eqs true [.i .i64,.i .i64] (.t 19) (.t 23))] (cn 24 (rg [oV 4 kf] .ret) .skip)))) (.reg [oZ 25 13 1,oM 13 25]))))))) (rg [oV 4 kt] .ret))))⟩
theorem Fc:A6 Tryz.prog Cs=some Bj:=by kernel_rfl
abbrev Ch:Nat:=310
def Bg:Fn1:=⟨26,[.t 4],(rg [oV 4 kf] (.seq (rg [oM 6 0,oN 7 6,oM 8 1,oN 9 8,oB 10 .neq 7 9] (cn 10 (rg [oV 4 kf] .ret) .skip)) (.seq (rg [oM 11 0,oN 12 11,oV 13 (ki 0)] (.blk 0 (.lop (rg [oB 14 .lss 13 12] (.seq (cn 14 .skip (.ext 0)) (.seq (.blk 1 (rg [oM 15 13,oM 5 15] (dw [oM 16 0,oM 17 5,oI 18 8 16 17,oW 19 8 18,oM 20 1,oM 21 5,oI 22 8 20 21,oW 23 8 22] [o 24 (.eqs true [.s,.i .i64,.i .i64,.i .i64,.i .i64,.i .i64,.i .i64,.b] (.t 19) (.t 23))] (cn 24 (rg [oV 4 kf] .ret) .skip)))) (.reg [oZ 25 13 1,oM 13 25]))))))) (rg [oV 4 kt] .ret))))⟩
theorem Em:A6 Tryz.prog Ch=some Bg:=by kernel_rfl
theorem Ka (σ:St) (v u:GV) (l m:List Tally) (hv:RS Bi.kd σ v l) (hu:RS Bi.kd σ u m) (hl:l.length<=1099511627776):Ret Tryz.prog C6 [v,u] σ (.bool (decide (l=m))) σ:=by
 refine Eu E1 (Z0z rfl) trivial ?_
 by_cases hlm:l.length=m.length
 rotate_left
 ·have b:((l.length:Int) != (m.length:Int))=true:=by simp;omega
  have d:decide (l=m)=false:=decide_eq_false fun h=>hlm (by rw[h])
  simp +contextual (disch:=omega) only[go_sem,Bc,hv.len,hu.len,b,d]
  try exact fun _=>rfl
 have b:((l.length:Int) != (m.length:Int))=false:=by simp;omega
 simp +contextual (disch:=omega) only[go_sem,Bc,hv.len,hu.len,b]
 refine Cf l.length 13 0 (fun i env h=>env 0=v/\env 1=u/\env 12=gi l.length/\l.take i=m.take i/\h=[]) (fun env h=>l=m) (fun env h=>env 4= .bool false/\l≠m) _ (Hx.refl σ) (by simp +contextual (disch:=omega) only[go_sem]) ⟨by simp +contextual (disch:=omega) only[go_sem],by simp +contextual (disch:=omega) only[go_sem],by simp +contextual (disch:=omega) only[go_sem],rfl,rfl⟩ ?_ ?_ ?_ ?_
 ·rintro J Y W hJ hY hW i env h' τ hi ei c0 H ⟨e0,e1,e12,he,rfl⟩
  have hj:i<m.length:=by omega
  have L1:=Ac hv hi
  have L2:=Ac hu hj
  by_cases hx:l[i]=m[i]
  ·have b:decide (l[i]=m[i])=true:=decide_eq_true hx
   simp +contextual (disch:=omega) only[go_sem,c0,e0,e1,e12,ei,A3,L1,L2,b]
   exact hJ _ _ _ _ H ⟨by simp +contextual (disch:=omega) only[go_sem,e0],by simp +contextual (disch:=omega) only[go_sem,e1],by simp +contextual (disch:=omega) only[go_sem,e12],by rw[Av hi,Av hj,he,hx],rfl⟩
  ·have b:decide (l[i]=m[i])=false:=decide_eq_false hx
   simp +contextual (disch:=omega) only[go_sem,c0,e0,e1,e12,ei,A3,L1,L2,b]
   exact hW _ _ _ H ⟨by simp +contextual (disch:=omega) only[go_sem],fun h=>hx (by subst h;rfl)⟩
 ·rintro Y hY env h' τ ei c0 H ⟨e0,e1,e12,he,rfl⟩
  simp +contextual (disch:=omega) only[go_sem,c0,e12,ei]
  rw[Zad,hlm,Zad] at he
  exact hY _ _ _ H he
 ·rintro env h' τ H hx
  simp +contextual (disch:=omega) only[go_sem,hx,decide_true]
 ·rintro env h' τ H ⟨e4,hx⟩
  simp +contextual (disch:=omega) only[go_sem,e4,hx,decide_false]
theorem Lb (σ:St) (v u:GV) (l m:List Live) (hv:RS Cl.kd σ v l) (hu:RS Cl.kd σ u m) (hl:l.length<=1099511627776):Ret Tryz.prog Cg [v,u] σ (.bool (decide (l=m))) σ:=by
 refine Eu Ej (Z0z rfl) trivial ?_
 by_cases hlm:l.length=m.length
 rotate_left
 ·have b:((l.length:Int) != (m.length:Int))=true:=by simp;omega
  have d:decide (l=m)=false:=decide_eq_false fun h=>hlm (by rw[h])
  simp +contextual (disch:=omega) only[go_sem,Bf,hv.len,hu.len,b,d]
  try exact fun _=>rfl
 have b:((l.length:Int) != (m.length:Int))=false:=by simp;omega
 simp +contextual (disch:=omega) only[go_sem,Bf,hv.len,hu.len,b]
 refine Cf l.length 13 0 (fun i env h=>env 0=v/\env 1=u/\env 12=gi l.length/\l.take i=m.take i/\h=[]) (fun env h=>l=m) (fun env h=>env 4= .bool false/\l≠m) _ (Hx.refl σ) (by simp +contextual (disch:=omega) only[go_sem]) ⟨by simp +contextual (disch:=omega) only[go_sem],by simp +contextual (disch:=omega) only[go_sem],by simp +contextual (disch:=omega) only[go_sem],rfl,rfl⟩ ?_ ?_ ?_ ?_
 ·rintro J Y W hJ hY hW i env h' τ hi ei c0 H ⟨e0,e1,e12,he,rfl⟩
  have hj:i<m.length:=by omega
  have L1:=A5 hv hi
  have L2:=A5 hu hj
  by_cases hx:l[i]=m[i]
  ·have b:decide (l[i]=m[i])=true:=decide_eq_true hx
   simp +contextual (disch:=omega) only[go_sem,c0,e0,e1,e12,ei,A3,L1,L2,b]
   exact hJ _ _ _ _ H ⟨by simp +contextual (disch:=omega) only[go_sem,e0],by simp +contextual (disch:=omega) only[go_sem,e1],by simp +contextual (disch:=omega) only[go_sem,e12],by rw[Av hi,Av hj,he,hx],rfl⟩
  ·have b:decide (l[i]=m[i])=false:=decide_eq_false hx
   simp +contextual (disch:=omega) only[go_sem,c0,e0,e1,e12,ei,A3,L1,L2,b]
   exact hW _ _ _ H ⟨by simp +contextual (disch:=omega) only[go_sem],fun h=>hx (by subst h;rfl)⟩
 ·rintro Y hY env h' τ ei c0 H ⟨e0,e1,e12,he,rfl⟩
  simp +contextual (disch:=omega) only[go_sem,c0,e12,ei]
  rw[Zad,hlm,Zad] at he
  exact hY _ _ _ H he
 ·rintro env h' τ H hx
  simp +contextual (disch:=omega) only[go_sem,hx,decide_true]
 ·rintro env h' τ H ⟨e4,hx⟩
  simp +contextual (disch:=omega) only[go_sem,e4,hx,decide_false]
theorem M0 (σ:St) (v u:GV) (l m:List Dot) (hv:RS pDot.kd σ v l) (hu:RS pDot.kd σ u m) (hl:l.length<=1099511627776):Ret Tryz.prog Cs [v,u] σ (.bool (decide (l=m))) σ:=by
 refine Eu Fc (Z0z rfl) trivial ?_
 by_cases hlm:l.length=m.length
 rotate_left
 ·have b:((l.length:Int) != (m.length:Int))=true:=by simp;omega
  have d:decide (l=m)=false:=decide_eq_false fun h=>hlm (by rw[h])
  simp +contextual (disch:=omega) only[go_sem,Bj,hv.len,hu.len,b,d]
  try exact fun _=>rfl
 have b:((l.length:Int) != (m.length:Int))=false:=by simp;omega
 simp +contextual (disch:=omega) only[go_sem,Bj,hv.len,hu.len,b]
 refine Cf l.length 13 0 (fun i env h=>env 0=v/\env 1=u/\env 12=gi l.length/\l.take i=m.take i/\h=[]) (fun env h=>l=m) (fun env h=>env 4= .bool false/\l≠m) _ (Hx.refl σ) (by simp +contextual (disch:=omega) only[go_sem]) ⟨by simp +contextual (disch:=omega) only[go_sem],by simp +contextual (disch:=omega) only[go_sem],by simp +contextual (disch:=omega) only[go_sem],rfl,rfl⟩ ?_ ?_ ?_ ?_
 ·rintro J Y W hJ hY hW i env h' τ hi ei c0 H ⟨e0,e1,e12,he,rfl⟩
  have hj:i<m.length:=by omega
  have L1:=Kj hv hi
  have L2:=Kj hu hj
  by_cases hx:l[i]=m[i]
  ·have b:decide (l[i]=m[i])=true:=decide_eq_true hx
   simp +contextual (disch:=omega) only[go_sem,c0,e0,e1,e12,ei,A3,L1,L2,b]
   exact hJ _ _ _ _ H ⟨by simp +contextual (disch:=omega) only[go_sem,e0],by simp +contextual (disch:=omega) only[go_sem,e1],by simp +contextual (disch:=omega) only[go_sem,e12],by rw[Av hi,Av hj,he,hx],rfl⟩
  ·have b:decide (l[i]=m[i])=false:=decide_eq_false hx
   simp +contextual (disch:=omega) only[go_sem,c0,e0,e1,e12,ei,A3,L1,L2,b]
   exact hW _ _ _ H ⟨by simp +contextual (disch:=omega) only[go_sem],fun h=>hx (by subst h;rfl)⟩
 ·rintro Y hY env h' τ ei c0 H ⟨e0,e1,e12,he,rfl⟩
  simp +contextual (disch:=omega) only[go_sem,c0,e12,ei]
  rw[Zad,hlm,Zad] at he
  exact hY _ _ _ H he
 ·rintro env h' τ H hx
  simp +contextual (disch:=omega) only[go_sem,hx,decide_true]
 ·rintro env h' τ H ⟨e4,hx⟩
  simp +contextual (disch:=omega) only[go_sem,e4,hx,decide_false]
theorem Lc (σ:St) (v u:GV) (l m:List Cell) (hv:RS Aj.kd σ v l) (hu:RS Aj.kd σ u m) (hl:l.length<=1099511627776):Ret Tryz.prog Ch [v,u] σ (.bool (decide (l=m))) σ:=by
 refine Eu Em (Z0z rfl) trivial ?_
 by_cases hlm:l.length=m.length
 rotate_left
 ·have b:((l.length:Int) != (m.length:Int))=true:=by simp;omega
  have d:decide (l=m)=false:=decide_eq_false fun h=>hlm (by rw[h])
  simp +contextual (disch:=omega) only[go_sem,Bg,hv.len,hu.len,b,d]
  try exact fun _=>rfl
 have b:((l.length:Int) != (m.length:Int))=false:=by simp;omega
 simp +contextual (disch:=omega) only[go_sem,Bg,hv.len,hu.len,b]
 refine Cf l.length 13 0 (fun i env h=>env 0=v/\env 1=u/\env 12=gi l.length/\l.take i=m.take i/\h=[]) (fun env h=>l=m) (fun env h=>env 4= .bool false/\l≠m) _ (Hx.refl σ) (by simp +contextual (disch:=omega) only[go_sem]) ⟨by simp +contextual (disch:=omega) only[go_sem],by simp +contextual (disch:=omega) only[go_sem],by simp +contextual (disch:=omega) only[go_sem],rfl,rfl⟩ ?_ ?_ ?_ ?_
 ·rintro J Y W hJ hY hW i env h' τ hi ei c0 H ⟨e0,e1,e12,he,rfl⟩
  have hj:i<m.length:=by omega
  have L1:=A4 hv hi
  have L2:=A4 hu hj
  by_cases hx:l[i]=m[i]
  ·have b:decide (l[i]=m[i])=true:=decide_eq_true hx
   simp +contextual (disch:=omega) only[go_sem,c0,e0,e1,e12,ei,A3,L1,L2,b]
   exact hJ _ _ _ _ H ⟨by simp +contextual (disch:=omega) only[go_sem,e0],by simp +contextual (disch:=omega) only[go_sem,e1],by simp +contextual (disch:=omega) only[go_sem,e12],by rw[Av hi,Av hj,he,hx],rfl⟩
  ·have b:decide (l[i]=m[i])=false:=decide_eq_false hx
   simp +contextual (disch:=omega) only[go_sem,c0,e0,e1,e12,ei,A3,L1,L2,b]
   exact hW _ _ _ H ⟨by simp +contextual (disch:=omega) only[go_sem],fun h=>hx (by subst h;rfl)⟩
 ·rintro Y hY env h' τ ei c0 H ⟨e0,e1,e12,he,rfl⟩
  simp +contextual (disch:=omega) only[go_sem,c0,e12,ei]
  rw[Zad,hlm,Zad] at he
  exact hY _ _ _ H he
 ·rintro env h' τ H hx
  simp +contextual (disch:=omega) only[go_sem,hx,decide_true]
 ·rintro env h' τ H ⟨e4,hx⟩
  simp +contextual (disch:=omega) only[go_sem,e4,hx,decide_false]
def Pz (a b:Act):Bool:=decide (a.dot=b.dot)&&(a.time==b.time&&(decide (a.knew=b.knew)&&(a.kind==b.kind&&(decide (a.obj=b.obj)&&(decide (a.key=b.key)&&(a.val==b.val&&decide (a.ref=b.ref)))))))
def A2l (a:Act):Bool:=decide (a.dot=⟨0,0⟩)&&(a.time==0&&(a.knew.isEmpty&&(a.kind==0&&(decide (a.obj=⟨#[]⟩)&&(decide (a.key=⟨#[]⟩)&&(a.val==0&&decide (a.ref=⟨0,0⟩)))))))
abbrev I5:Delta:=⟨[],[],[],[],[],[]⟩
def Jm (d:Delta):Bool:=d.base.isEmpty&&(d.know.isEmpty&&(d.tallies.isEmpty&&(d.lives.isEmpty&&(d.dead.isEmpty&&d.cells.isEmpty))))
def Ol (a b:Delta):Bool:=decide (a.base=b.base)&&(decide (a.know=b.know)&&(decide (a.tallies=b.tallies)&&(decide (a.lives=b.lives)&&(decide (a.dead=b.dead)&&decide (a.cells=b.cells)))))
def Cz (u:Unit_):Bool:=if u.batch then Bs u.delta&&A2l u.act else De u.act&&Jm u.delta
theorem len0 {α:Type} (l:List α):((l.length:Int)==0)=l.isEmpty:=by cases l<;>simp;omega
theorem isE {α:Type} (l:List α) {i:Decidable (l=[])}: @decide (l=[]) i=l.isEmpty:=by cases l<;>simp
theorem A7x (d:Delta):Ol d I5=Jm d:=by
 simp only[Jm,I5,Ol,isE]
theorem Sb (σ:St) (cs:List GV) (d:Delta) (hR:Bx.R σ d cs):Ret Tryz.prog Ma [.agg cs] σ (.bool (Jm d)) σ:=by
 obtain⟨v0,v1,v2,v3,v4,v5,rfl,q0,q1,q2,q3,q4,q5⟩:=hR
 refine Eu Uz (Z0z rfl) trivial ?_
 unfold Jm
 simp +contextual (disch:=omega) only[go_sem,Mb]
 intro n f τ H
 simp +contextual (disch:=omega) only[go_sem,q0.len,q1.len,q2.len,q3.len,q4.len,q5.len,len0]
 cases h0:d.base.isEmpty with
 |false=>
  simp +contextual (disch:=omega) only[go_sem,Zaa,q0.len,q1.len,q2.len,q3.len,q4.len,q5.len,len0]
  try exact fun _=>rfl
 |true=>
  simp +contextual (disch:=omega) only[go_sem,Zab,q0.len,q1.len,q2.len,q3.len,q4.len,q5.len,len0]
  cases h1:d.know.isEmpty with
  |false=>
   simp +contextual (disch:=omega) only[go_sem,Zaa,q0.len,q1.len,q2.len,q3.len,q4.len,q5.len,len0]
   try exact fun _=>rfl
  |true=>
   simp +contextual (disch:=omega) only[go_sem,Zab,q0.len,q1.len,q2.len,q3.len,q4.len,q5.len,len0]
   cases h2:d.tallies.isEmpty with
   |false=>
    simp +contextual (disch:=omega) only[go_sem,Zaa,q0.len,q1.len,q2.len,q3.len,q4.len,q5.len,len0]
    try exact fun _=>rfl
   |true=>
    simp +contextual (disch:=omega) only[go_sem,Zab,q0.len,q1.len,q2.len,q3.len,q4.len,q5.len,len0]
    cases h3:d.lives.isEmpty with
    |false=>
     simp +contextual (disch:=omega) only[go_sem,Zaa,q0.len,q1.len,q2.len,q3.len,q4.len,q5.len,len0]
     try exact fun _=>rfl
    |true=>
     simp +contextual (disch:=omega) only[go_sem,Zab,q0.len,q1.len,q2.len,q3.len,q4.len,q5.len,len0]
     cases h4:d.dead.isEmpty with
     |false=>
      simp +contextual (disch:=omega) only[go_sem,Zaa,q0.len,q1.len,q2.len,q3.len,q4.len,q5.len,len0]
      try exact fun _=>rfl
     |true=>
      simp +contextual (disch:=omega) only[go_sem,Zab,q0.len,q1.len,q2.len,q3.len,q4.len,q5.len,len0]
theorem V5 (σ:St) (cs ds:List GV) (d e:Delta) (hR:Bx.R σ d cs) (hS:Bx.R σ e ds) (hl:C9 d<=1099511627776):Ret Tryz.prog Oj [.agg cs,.agg ds] σ (.bool (Ol d e)) σ:=by
 obtain⟨v0,v1,v2,v3,v4,v5,rfl,q0,q1,q2,q3,q4,q5⟩:=hR
 obtain⟨u0,u1,u2,u3,u4,u5,rfl,p0,p1,p2,p3,p4,p5⟩:=hS
 obtain⟨l0,l1,l2,l3,l4,l5,t2,t3,t5⟩:=Jl hl
 refine Eu Wl (Z0z rfl) trivial ?_
 unfold Ol
 simp +contextual (disch:=omega) only[go_sem,Ok]
 intro n f τ0 _ m g τ H
 have S:=H.sub
 refine by_b H (Dx _ v0 u0 _ _ (q0.pre S) (p0.pre S) l0) (fun h0=> ?_) (fun h0=> ?_)
 rotate_left
 ·simp +contextual (disch:=omega) only[go_sem,h0,Zaa]
  try exact fun _=>rfl
 simp +contextual (disch:=omega) only[go_sem,h0,Zab]
 refine by_b H (Dx _ v1 u1 _ _ (q1.pre S) (p1.pre S) l1) (fun h1=> ?_) (fun h1=> ?_)
 rotate_left
 ·simp +contextual (disch:=omega) only[go_sem,h1,Zaa]
  try exact fun _=>rfl
 simp +contextual (disch:=omega) only[go_sem,h1,Zab]
 refine by_b H (Ka _ v2 u2 _ _ (q2.pre S) (p2.pre S) l2) (fun h2=> ?_) (fun h2=> ?_)
 rotate_left
 ·simp +contextual (disch:=omega) only[go_sem,h2,Zaa]
  try exact fun _=>rfl
 simp +contextual (disch:=omega) only[go_sem,h2,Zab]
 refine by_b H (Lb _ v3 u3 _ _ (q3.pre S) (p3.pre S) l3) (fun h3=> ?_) (fun h3=> ?_)
 rotate_left
 ·simp +contextual (disch:=omega) only[go_sem,h3,Zaa]
  try exact fun _=>rfl
 simp +contextual (disch:=omega) only[go_sem,h3,Zab]
 refine by_b H (M0 _ v4 u4 _ _ (q4.pre S) (p4.pre S) l4) (fun h4=> ?_) (fun h4=> ?_)
 rotate_left
 ·simp +contextual (disch:=omega) only[go_sem,h4,Zaa]
  try exact fun _=>rfl
 simp +contextual (disch:=omega) only[go_sem,h4,Zab]
 refine by_r H (Lc _ v5 u5 _ _ (q5.pre S) (p5.pre S) l5) ?_
 simp +contextual (disch:=omega) only[go_sem]
theorem Ab7 (a:Act):Pz a Adj=A2l a:=by
 show(decide (a.dot=⟨0,0⟩)&&(a.time==0&&(decide (a.knew=[])&&(a.kind==0&&(decide (a.obj=⟨#[]⟩)&&(decide (a.key=⟨#[]⟩)&&(a.val==0&&decide (a.ref=⟨0,0⟩))))))))=_
 simp only[isE,A2l]
theorem Wm (σ:St) (cs:List GV) (a:Act) (hR:kAct.R σ a cs):Ret Tryz.prog Rr [.agg cs] σ (.bool (A2l a)) σ:=by
 obtain⟨v,rfl,q⟩:=hR
 refine Eu A02 (Z0z rfl) trivial ?_
 unfold A2l
 simp +contextual (disch:=omega) only[go_sem,Rt]
 intro n f τ H
 cases h0:decide (a.dot=⟨0,0⟩) with
 |false=>
  simp +contextual (disch:=omega) only[go_sem,Zaa,q.len,len0]
  try exact fun _=>rfl
 |true=>
  simp +contextual (disch:=omega) only[go_sem,Zab,q.len,len0]
  cases h1:a.time==0 with
  |false=>
   simp +contextual (disch:=omega) only[go_sem,Zaa,q.len,len0]
   try exact fun _=>rfl
  |true=>
   simp +contextual (disch:=omega) only[go_sem,Zab,q.len,len0]
   cases h2:a.knew.isEmpty with
   |false=>
    simp +contextual (disch:=omega) only[go_sem,Zaa,q.len,len0]
    try exact fun _=>rfl
   |true=>
    simp +contextual (disch:=omega) only[go_sem,Zab,q.len,len0]
    cases h3:a.kind==0 with
    |false=>
     simp +contextual (disch:=omega) only[go_sem,Zaa,q.len,len0]
     try exact fun _=>rfl
    |true=>
     simp +contextual (disch:=omega) only[go_sem,Zab,q.len,len0]
     cases h4:decide (a.obj=⟨#[]⟩) with
     |false=>
      simp +contextual (disch:=omega) only[go_sem,Zaa,q.len,len0]
      try exact fun _=>rfl
     |true=>
      simp +contextual (disch:=omega) only[go_sem,Zab,q.len,len0]
      cases h5:decide (a.key=⟨#[]⟩) with
      |false=>
       simp +contextual (disch:=omega) only[go_sem,Zaa,q.len,len0]
       try exact fun _=>rfl
      |true=>
       simp +contextual (disch:=omega) only[go_sem,Zab,q.len,len0]
       cases h6:a.val==0 with
       |false=>
        simp +contextual (disch:=omega) only[go_sem,Zaa,q.len,len0]
        try exact fun _=>rfl
       |true=>
        simp +contextual (disch:=omega) only[go_sem,Zab,q.len,len0]
theorem A03 (σ:St) (cs ds:List GV) (a b:Act) (hR:kAct.R σ a cs) (hS:kAct.R σ b ds) (hl:a.knew.length<=1099511627776):Ret Tryz.prog V2 [.agg cs,.agg ds] σ (.bool (Pz a b)) σ:=by
 obtain⟨v,rfl,q⟩:=hR
 obtain⟨u,rfl,p⟩:=hS
 refine Eu A2j (Z0z rfl) trivial ?_
 unfold Pz
 simp +contextual (disch:=omega) only[go_sem,V3]
 intro n f τ0 _ m g τ H
 have S:=H.sub
 cases h0:decide (a.dot=b.dot) with
 |false=>
  simp +contextual (disch:=omega) only[go_sem,Zaa]
  try exact fun _=>rfl
 |true=>
  simp +contextual (disch:=omega) only[go_sem,Zab]
  cases h1:a.time==b.time with
  |false=>
   simp +contextual (disch:=omega) only[go_sem,Zaa]
   try exact fun _=>rfl
  |true=>
   simp +contextual (disch:=omega) only[go_sem,Zab]
   refine by_b H (Dx _ v u _ _ (q.pre S) (p.pre S) hl) (fun k1=> ?_) (fun k1=> ?_)
   rotate_left
   ·simp +contextual (disch:=omega) only[go_sem,k1,Zaa]
    try exact fun _=>rfl
   simp +contextual (disch:=omega) only[go_sem,k1,Zab]
   cases h0:a.kind==b.kind with
   |false=>
    simp +contextual (disch:=omega) only[go_sem,Zaa]
    try exact fun _=>rfl
   |true=>
    simp +contextual (disch:=omega) only[go_sem,Zab]
    cases h1:decide (a.obj=b.obj) with
    |false=>
     simp +contextual (disch:=omega) only[go_sem,Zaa]
     try exact fun _=>rfl
    |true=>
     simp +contextual (disch:=omega) only[go_sem,Zab]
     cases h2:decide (a.key=b.key) with
     |false=>
      simp +contextual (disch:=omega) only[go_sem,Zaa]
      try exact fun _=>rfl
     |true=>
      simp +contextual (disch:=omega) only[go_sem,Zab]
      cases h3:a.val==b.val with
      |false=>
       simp +contextual (disch:=omega) only[go_sem,Zaa]
       try exact fun _=>rfl
      |true=>
       simp +contextual (disch:=omega) only[go_sem,Zab]
abbrev unV (x:Unit_) (kv d0 d1 d2 d3 d4 d5:GV):List GV:=[.bool x.batch,.int .i64 x.act.dot.rep,.int .i64 x.act.dot.seq,.int .i64 x.act.time,kv,.int .i64 x.act.kind,.str x.act.obj,.str x.act.key,.int .i64 x.act.val,.int .i64 x.act.ref.rep,.int .i64 x.act.ref.seq,d0,d1,d2,d3,d4,d5]
theorem G4 {σ:St} {x:Unit_} {cs:List GV} (h:Ab.R σ x cs):∃ kv d0 d1 d2 d3 d4 d5,cs=unV x kv d0 d1 d2 d3 d4 d5/\kAct.R σ x.act (actV x.act kv)/\Bx.R σ x.delta [d0,d1,d2,d3,d4,d5]:=by
 obtain⟨v1,v2,rfl,hA,hD⟩:=h
 have hA0:=hA
 have hD0:=hD
 obtain⟨kv,rfl,_⟩:=hA
 obtain⟨d0,d1,d2,d3,d4,d5,rfl,_⟩:=hD
 exact⟨kv,d0,d1,d2,d3,d4,d5,rfl,hA0,hD0⟩
theorem act0_R (σ:St):kAct.R σ Adj zeA:=kAct.rd (Ab6 σ)
theorem Ab8 (σ:St):Bx.R σ I5 zeD:=Bx.rd (A7w σ)
theorem Jn (σ:St) (cs:List GV) (x:Unit_) (hR:Ab.R σ x cs) (hl:Bq x<=1073741824):Ret Tryz.prog V4 [.agg cs] σ (.bool (Cz x)) σ:=by
 obtain⟨kv,d0,d1,d2,d3,d4,d5,rfl,hA,hD⟩:=G4 hR
 have hma:Ha x.act<=1073741824/\C9 x.delta<=1073741824:=by unfold Bq at hl;omega
 refine Eu A2k (Z0z rfl) trivial ?_
 cases hb:x.batch with
 |true=>
  have hu:Cz x=(Bs x.delta&&A2l x.act):=by unfold Cz;rw[if_pos hb]
  rw[hu]
  simp +contextual (disch:=omega) only[go_sem,N1,hb]
  intro n f τ H
  refine by_b H (Zz _ _ _ (Bx.pre hD H.sub) (by omega)) (fun h1=> ?_) (fun h1=> ?_)
  rotate_left
  ·simp +contextual (disch:=omega) only[go_sem,h1,Zaa]
  simp +contextual (disch:=omega) only[go_sem]
  refine by_r H (Wm _ _ _ (kAct.pre hA H.sub)) ?_
  simp +contextual (disch:=omega) only[go_sem,h1,Zab]
 |false=>
  have hu:Cz x=(De x.act&&Jm x.delta):=by unfold Cz;rw[if_neg (by simp[hb])]
  rw[hu]
  simp +contextual (disch:=omega) only[go_sem,N1,hb]
  intro n f τ H
  refine by_b H (Mq _ _ _ (kAct.pre hA H.sub) (by omega)) (fun h1=> ?_) (fun h1=> ?_)
  rotate_left
  ·simp +contextual (disch:=omega) only[go_sem,h1,Zaa]
  simp +contextual (disch:=omega) only[go_sem]
  refine by_r H (Sb _ _ _ (Bx.pre hD H.sub)) ?_
  simp +contextual (disch:=omega) only[go_sem,h1,Zab]
theorem A2m (σ:St) (cs:List GV) (x:Unit_) (hR:Ab.R σ x cs) (hl:Bq x<=1073741824):Ret Tryz.prog Ya [.agg cs] σ (.bool (Cz x)) σ:=by
 obtain⟨kv,d0,d1,d2,d3,d4,d5,rfl,hA,hD⟩:=G4 hR
 have hma:Ha x.act<=1073741824/\C9 x.delta<=1073741824:=by unfold Bq at hl;omega
 refine Eu A5k (Z0z rfl) trivial ?_
 cases hb:x.batch with
 |true=>
  have hu:Cz x=(Bs x.delta&&A2l x.act):=by unfold Cz;rw[if_pos hb]
  rw[hu]
  simp +contextual (disch:=omega) only[go_sem,Py,hb]
  intro n f τ H
  refine by_b H (Zx _ _ _ (Bx.pre hD H.sub) (by omega)) (fun h1=> ?_) (fun h1=> ?_)
  rotate_left
  ·simp +contextual (disch:=omega) only[go_sem,h1,Zaa]
  simp +contextual (disch:=omega) only[go_sem]
  refine by_r H (A03 _ _ _ _ _ (kAct.pre hA H.sub) (act0_R _) (by have:=hma.1;unfold Ha at this;omega)) ?_
  simp +contextual (disch:=omega) only[go_sem,h1,Zab,Ab7]
 |false=>
  have hu:Cz x=(De x.act&&Jm x.delta):=by unfold Cz;rw[if_neg (by simp[hb])]
  rw[hu]
  simp +contextual (disch:=omega) only[go_sem,Py,hb]
  intro n f τ H
  refine by_b H (A4p _ _ _ (kAct.pre hA H.sub) (by omega)) (fun h1=> ?_) (fun h1=> ?_)
  rotate_left
  ·simp +contextual (disch:=omega) only[go_sem,h1,Zaa]
  simp +contextual (disch:=omega) only[go_sem]
  refine by_r H (V5 _ _ _ _ _ (Bx.pre hD H.sub) (Ab8 _) (by omega)) ?_
  simp +contextual (disch:=omega) only[go_sem,h1,Zab,A7x]
abbrev N2:Nat:=211
def V6:Fn1:=⟨11,[.c 2 true 10],(rg [oX 1 0,o 2 (.new [z0,z0,z0,.nilS,z0,s0,s0,z0,z0,z0])] (rg [oW 4 10 1,o 3 (.new [z0,z0,z0,.nilS,z0,s0,s0,z0,z0,z0]),oS 10 3 4] (rg [o 5 (.lit 1 0 [] []),oF 6 3 1,oL 7 6,o 8 (.app 1 8 [z0] (.t 5) (.t 7)),oF 9 3 3,oS 1 9 8] (rg [oW 10 10 3,oS 10 2 10] .ret))))⟩
theorem A2n:A6 Tryz.prog N2=some V6:=by kernel_rfl
abbrev N3:Nat:=194
def V7:Fn1:=⟨8,[.c 2 true 10],(rg [oX 1 0,o 2 (.new [z0,z0,z0,.nilS,z0,s0,s0,z0,z0,z0])] (rg [oF 3 3 1,oL 4 3,oC 5 182 4,oF 6 3 1,oS 1 6 5] (rg [oW 7 10 1,oS 10 2 7] .ret)))⟩
theorem A2o:A6 Tryz.prog N3=some V7:=by kernel_rfl
abbrev Yb:Nat:=68
def Yc:Fn1:=⟨38,[.t 4],(rg [o 4 (.mov (.k .nilS))] (rg [o 8 (.lit 10 0 [] []),oM 5 8] (.seq (rg [oM 9 0,oN 10 9,oV 11 (ki 0)] (.blk 0 (.lop (rg [oB 12 .lss 11 10] (.seq (cn 12 .skip (.ext 0)) (.seq (.blk 1 (rg [oI 13 17 9 11,oW 14 17 13,o 7 (.new [(.bool false),z0,z0,z0,.nilS,z0,s0,s0,z0,z0,z0,.nilS,.nilS,.nilS,.nilS,.nilS,.nilS]),oS 17 7 14] (rg [oW 15 17 7,oC 16 101 15,oM 17 16,jF 18 17 0 7,jL 19 17 18,jU 20 17 19,oQ 21 17 20,oM 22 21,jF 23 22 1 7,jF 24 22 0 23,jF 25 22 0 24,jL 26 22 25,jM 27 22 1,jB 28 22 .eql 26 27,oQ 29 22 28] (cn 29 (.reg [oM 30 5,oF 31 1 7,oW 32 10 31,oC 33 194 32,o 34 (.lit 10 1 [z0,z0,z0,.nilS,z0,s0,s0,z0,z0,z0] [(0,10,(.t 33))]),o 35 (.app 10 112 [z0,z0,z0,.nilS,z0,s0,s0,z0,z0,z0] (.t 30) (.t 34)),oM 5 35]) .skip)))) (.reg [oZ 36 11 1,oM 11 36]))))))) (rg [oM 37 5,oM 4 37] .ret))))⟩
theorem A5l:A6 Tryz.prog Yb=some Yc:=by kernel_rfl
theorem Om (σ:St) (cs:List GV) (x:Act) (hR:kAct.R σ x cs) (hl:x.knew.length<=1099511627776):∃ r τ,Ret Tryz.prog N2 [.agg cs] σ (.agg r) τ/\Hp σ τ [own kAct r x]:=by
 obtain⟨v,rfl,q⟩:=hR
 have key:∃ w τ,Ret Tryz.prog N2 [.agg (actV x v)] σ w τ/\∃ r,w= .agg r/\Hp σ τ [own kAct r x]:=by
  refine Fi A2n (Z0z rfl) (Hx.refl σ) ?_
  simp +contextual (disch:=omega) only[go_sem,V6]
  intro n1 f1 τ1 H1 n2 f2 τ2 H2 n3 f3 τ3 _ τ4 _ n4 f4 τ5 H5
  refine A5e (p:=pI) H5 (q.pre H5.sub) (by decide) (by omega) fun w τ6 H6=> ?_
  have cw:=(H6.hp.sl 0 rfl).cell
  simp +contextual (disch:=omega) only[go_sem,cw]
  intro τ7 _ τ8 H8
  exact⟨_,rfl,_,rfl,Hp.ownAct (x:=x) (H8.sel [0] (by decide))⟩
 obtain⟨q,τ,R,r,rfl,h⟩:=key
 exact⟨r,τ,R,h⟩
theorem A04 (σ:St) (cs:List GV) (x:Act) (hR:kAct.R σ x cs) (hl:x.knew.length<=1099511627776):∃ r τ,Ret Tryz.prog N3 [.agg cs] σ (.agg r) τ/\Hp σ τ [own kAct r x]:=by
 obtain⟨v,rfl,q⟩:=hR
 have key:∃ w τ,Ret Tryz.prog N3 [.agg (actV x v)] σ w τ/\∃ r,w= .agg r/\Hp σ τ [own kAct r x]:=by
  refine Fi A2o (Z0z rfl) (Hx.refl σ) ?_
  simp +contextual (disch:=omega) only[go_sem,V7]
  intro n1 f1 τ1 H1 n2 f2 τ2 H2
  obtain⟨w,τ3,R3,K3⟩:=We τ2 v _ (q.pre H2.sub) hl
  refine by_c H2 R3 K3 fun H3=> ?_
  have cw:=(H3.hp.sl 0 rfl).cell
  simp +contextual (disch:=omega) only[go_sem,cw]
  intro τ4 _ τ5 H5
  exact⟨_,rfl,_,rfl,Hp.ownAct (x:=x) (H5.sel [0] (by decide))⟩
 obtain⟨q,τ,R,r,rfl,h⟩:=key
 exact⟨r,τ,R,h⟩
def Q0 (r:Int) (u:Unit_):Bool:=Cz u&&(!u.batch&&u.act.dot.rep==r)
def Bt (us:List Unit_) (r:Int):List Act:=(us.filter (Q0 r)).map (·.act)
theorem aby_t {l:List Unit_} {r:Int} {i:Nat} (hi:i<l.length) (hp:Q0 r l[i]=true):Bt (l.take (i+1)) r=Bt (l.take i) r++[l[i].act]:=by
 unfold Bt;rw[flt_t hi hp,Za9];rfl
theorem Ab9 {l:List Unit_} {r:Int} {i:Nat} (hi:i<l.length) (hp:Q0 r l[i]=false):Bt (l.take (i+1)) r=Bt (l.take i) r:=by
 unfold Bt;rw[flt_f hi hp]
theorem aby_le (l:List Unit_) (r:Int) (i:Nat):(Bt (l.take i) r).length<=l.length:=by
 unfold Bt;rw[Zal];exact flt_le (Zba _)
theorem On {σ:St} {v:GV} {l:List Unit_} (h:RS Ab σ v l) {i:Nat} (hi:i<l.length):∃ kv d0 d1 d2 d3 d4 d5,(iadG 17 v (some i)=some (atz 17 v i)/\(∀ k,fadG k (atz 17 v i)=some (fld k (atz 17 v i)))/\(∀ k m,fadG k (fld m (atz 17 v i))=some (fld (m+k) (atz 17 v i)))/\ldG true 17 σ (atz 17 v i)=some (.agg (unV l[i] kv d0 d1 d2 d3 d4 d5))/\ldG false 1 σ (fld 0 (atz 17 v i))=some (.bool l[i].batch)/\ldG false 1 σ (fld 1 (atz 17 v i))=some (gi l[i].act.dot.rep)/\ldG true 10 σ (fld 1 (atz 17 v i))=some (.agg (actV l[i].act kv)))/\Ab.R σ l[i] (unV l[i] kv d0 d1 d2 d3 d4 d5)/\kAct.R σ l[i].act (actV l[i].act kv)/\Bx.R σ l[i].delta [d0,d1,d2,d3,d4,d5]:=by
 obtain⟨cs,⟨h1,h2,h3,h4,h5⟩,h6⟩:=RdN.cellsN h hi
 obtain⟨kv,d0,d1,d2,d3,d4,d5,rfl,hA,hD⟩:=G4 h6
 exact⟨kv,d0,d1,d2,d3,d4,d5,⟨h1,h2,h3,h4,h5 0 1 false (by decide),h5 1 1 false (by decide),h5 1 10 true (by decide)⟩,h6,hA,hD⟩
theorem A2p (σ:St) (v:GV) (l:List Unit_) (h:RS Ab σ v l) (r:Int) (hl:l.length+sumL Bq l<=1048576):∃ w τ,Ret Tryz.prog Yb [v,gi r] σ w τ/\Hp σ τ [ow kAct w (Bt l r)]:=by
 refine Fi A5l (Z0z rfl) (Hx.refl σ) ?_
 simp +contextual (disch:=omega) only[go_sem,Yc,h.len]
 intro n1 f1 τ1 H1
 refine Cf l.length 11 0 (fun i env h=>env 9=v/\env 10=gi l.length/\env 1=gi r/\∃ w,env 5=w/\h=[.th (ow kAct w (Bt (l.take i) r))]) (fun env h=>∃ w,env 5=w/\h=[.th (ow kAct w (Bt l r))]) (fun _ _=>False) _ (H1.emp kAct rfl) (by simp +contextual (disch:=omega) only[go_sem]) ⟨by simp +contextual (disch:=omega) only[go_sem],by simp +contextual (disch:=omega) only[go_sem],by simp +contextual (disch:=omega) only[go_sem],_,by simp +contextual (disch:=omega) only[go_sem],rfl⟩ ?_ ?_ ?_ (fun _ _ _ _ h=>h.elim)
 ·clear H1
  rintro J Y W hJ hY hW i env h' τ hi ei c0 H ⟨e9,e10,e1,w,e5,rfl⟩
  obtain⟨kv,d0,d1,d2,d3,d4,d5,U,hU,hA,hD⟩:=On h hi
  have hmu:Bq l[i]<=sumL Bq l:=Hm (f:=Bq) (Zae hi)
  have hkn:l[i].act.knew.length<=Bq l[i]:=by unfold Bq Ha;omega
  have hle:=aby_le l r i
  simp +contextual (disch:=omega) only[go_sem,c0,e9,e10,e1,e5,ei,A3,U]
  intro n2 f2 τ2 _ τ3 H3
  refine by_b H3 (A2m _ _ l[i] (Ab.pre hU H3.sub) (by omega)) (fun h1=> ?_) (fun h1=> ?_)
  rotate_left
  ·have hp:Q0 r l[i]=false:=by simp[Q0,h1]
   simp +contextual (disch:=omega) only[go_sem,c0,e9,e10,e1,e5,ei]
   exact hJ _ _ _ _ (H3.re [1] (by decide)) ⟨by simp +contextual (disch:=omega) only[go_sem,e9],by simp +contextual (disch:=omega) only[go_sem,e10],by simp +contextual (disch:=omega) only[go_sem,e1],w,by simp +contextual (disch:=omega) only[go_sem,e5],by rw[Ab9 hi hp];rfl⟩
  cases hb:l[i].batch with
  |true=>
   have hp:Q0 r l[i]=false:=by simp[Q0,hb]
   simp +contextual (disch:=omega) only[go_sem,e9,e10,e1,e5,ei,hb]
   exact hJ _ _ _ _ (H3.re [1] (by decide)) ⟨by simp +contextual (disch:=omega) only[go_sem,e9],by simp +contextual (disch:=omega) only[go_sem,e10],by simp +contextual (disch:=omega) only[go_sem,e1],w,by simp +contextual (disch:=omega) only[go_sem,e5],by rw[Ab9 hi hp];rfl⟩
  |false=>
   cases h2:l[i].act.dot.rep==r with
   |false=>
    have hp:Q0 r l[i]=false:=by simp[Q0,hb,h1,h2]
    simp +contextual (disch:=omega) only[go_sem,e9,e10,e1,e5,ei,hb,h2]
    exact hJ _ _ _ _ (H3.re [1] (by decide)) ⟨by simp +contextual (disch:=omega) only[go_sem,e9],by simp +contextual (disch:=omega) only[go_sem,e10],by simp +contextual (disch:=omega) only[go_sem,e1],w,by simp +contextual (disch:=omega) only[go_sem,e5],by rw[Ab9 hi hp];rfl⟩
   |true=>
    have hp:Q0 r l[i]=true:=by simp[Q0,hb,h1,h2]
    simp +contextual (disch:=omega) only[go_sem,e9,e10,e1,e5,ei,hb,h2]
    obtain⟨q,τ4,R4,K4⟩:=A04 τ3 _ l[i].act (kAct.pre hA H3.sub) (by omega)
    have ql:q.length=10:=kAct.len (K4.rd 0 rfl)
    refine by_c H3 R4 K4 fun H4=> ?_
    simp +contextual (disch:=omega) only[go_sem,Ai (cs:=zeA) ql rfl,ql,e5]
    intro n3 f3 τ5 H5
    refine Mz H5 1 2 rfl rfl L9 (by decide) (by omega) fun w' τ6 H6=> ?_
    simp +contextual (disch:=omega) only[go_sem,ei]
    exact hJ _ _ _ _ (H6.re [2] (by decide)) ⟨by simp +contextual (disch:=omega) only[go_sem,e9],by simp +contextual (disch:=omega) only[go_sem,e10],by simp +contextual (disch:=omega) only[go_sem,e1],w',by simp +contextual (disch:=omega) only[go_sem],by rw[aby_t hi hp];rfl⟩
 ·clear H1
  rintro Y hY env h' τ ei c0 H ⟨e9,e10,e1,w,e5,rfl⟩
  simp +contextual (disch:=omega) only[go_sem,c0,e10,ei]
  exact hY _ _ _ H ⟨w,e5,by rw[Zad]⟩
 ·rintro env h' τ H ⟨w,e5,rfl⟩
  simp +contextual (disch:=omega) only[go_sem,e5]
  exact fun _=>⟨_,rfl,H.hp⟩
abbrev N4:Nat:=223
def V8:Fn1:=⟨28,[.c 2 true 6],(rg [oX 1 0,o 2 (.new [.nilS,.nilS,.nilS,.nilS,.nilS,.nilS])] (dw [o 3 (.lit 1 0 [] []),oF 4 0 1,oL 5 4,o 6 (.app 1 8 [z0] (.t 3) (.t 5)),o 7 (.lit 1 0 [] []),oF 8 1 1,oL 9 8,o 10 (.app 1 8 [z0] (.t 7) (.t 9)),o 11 (.lit 3 0 [] []),oF 12 2 1,oL 13 12,o 14 (.app 3 32 [s0,z0,z0] (.t 11) (.t 13)),o 15 (.lit 6 0 [] []),oF 16 3 1,oL 17 16,o 18 (.app 6 64 [(.bool false),s0,s0,z0,z0,z0] (.t 15) (.t 17)),o 19 (.lit 2 0 [] []),oF 20 4 1,oL 21 20,o 22 (.app 2 16 [z0,z0] (.t 19) (.t 21)),o 23 (.lit 8 0 [] []),oF 24 5 1,oL 25 24] [o 26 (.app 8 72 [s0,z0,z0,z0,z0,z0,z0,(.bool false)] (.t 23) (.t 25)),o 27 (.build [.nilS,.nilS,.nilS,.nilS,.nilS,.nilS] [(0,1,(.t 6)),(1,1,(.t 10)),(2,1,(.t 14)),(3,1,(.t 18)),(4,1,(.t 22)),(5,1,(.t 26))]),oS 6 2 27] .ret))⟩
theorem A2q:A6 Tryz.prog N4=some V8:=by kernel_rfl
abbrev Hf:Nat:=99
def Ld:Fn1:=⟨12,[.c 2 true 17],(rg [oX 1 0,o 2 (.new [(.bool false),z0,z0,z0,.nilS,z0,s0,s0,z0,z0,z0,.nilS,.nilS,.nilS,.nilS,.nilS,.nilS])] (dw [oF 3 0 1,oL 4 3,oF 5 1 1,oW 6 10 5,oC 7 211 6,oF 8 11 1,oW 9 6 8,oC 10 223 9] [o 11 (.build [(.bool false),z0,z0,z0,.nilS,z0,s0,s0,z0,z0,z0,.nilS,.nilS,.nilS,.nilS,.nilS,.nilS] [(0,1,(.t 4)),(1,10,(.t 7)),(11,6,(.t 10))]),oS 17 2 11] .ret))⟩
theorem Sd:A6 Tryz.prog Hf=some Ld:=by kernel_rfl
theorem A05 (σ:St) (cs:List GV) (x:Delta) (hR:Bx.R σ x cs) (hl:C9 x<=1073741824):∃ r τ,Ret Tryz.prog N4 [.agg cs] σ (.agg r) τ/\Hp σ τ [own Bx r x]:=by
 obtain⟨v0,v1,v2,v3,v4,v5,rfl,q0,q1,q2,q3,q4,q5⟩:=hR
 obtain⟨l0,l1,l2,l3,l4,l5,_⟩:=Jl hl
 have key:∃ w τ,Ret Tryz.prog N4 [.agg [v0,v1,v2,v3,v4,v5]] σ w τ/\∃ r,w= .agg r/\Hp σ τ [own Bx r x]:=by
  refine Fi A2q (Z0z rfl) (Hx.refl σ) ?_
  simp +contextual (disch:=omega) only[go_sem,V8]
  intro n1 f1 τ1 H1 n2 f2 τ2 H2
  intro n3 f3 τ3 H3
  refine A5e (p:=pI) H3 (q0.pre H3.sub) (by decide) (by omega) fun w0 τ4 H4=> ?_
  have c0:=(H4.hp.sl 0 rfl).cell
  simp +contextual (disch:=omega) only[go_sem,c0]
  intro n5 f5 τ5 H5
  refine A5e (p:=pI) H5 (q1.pre H5.sub) (by decide) (by omega) fun w1 τ6 H6=> ?_
  have c1:=(H6.hp.sl 0 rfl).cell
  simp +contextual (disch:=omega) only[go_sem,c0,c1]
  intro n7 f7 τ7 H7
  refine A5e (p:=Bi) H7 (q2.pre H7.sub) (by decide) (by omega) fun w2 τ8 H8=> ?_
  have c2:=(H8.hp.sl 0 rfl).cell
  simp +contextual (disch:=omega) only[go_sem,c0,c1,c2]
  intro n9 f9 τ9 H9
  refine A5e (p:=Cl) H9 (q3.pre H9.sub) (by decide) (by omega) fun w3 τ10 H10=> ?_
  have c3:=(H10.hp.sl 0 rfl).cell
  simp +contextual (disch:=omega) only[go_sem,c0,c1,c2,c3]
  intro n11 f11 τ11 H11
  refine A5e (p:=pDot) H11 (q4.pre H11.sub) (by decide) (by omega) fun w4 τ12 H12=> ?_
  have c4:=(H12.hp.sl 0 rfl).cell
  simp +contextual (disch:=omega) only[go_sem,c0,c1,c2,c3,c4]
  intro n13 f13 τ13 H13
  refine A5e (p:=Aj) H13 (q5.pre H13.sub) (by decide) (by omega) fun w5 τ14 H14=> ?_
  have c5:=(H14.hp.sl 0 rfl).cell
  simp +contextual (disch:=omega) only[go_sem,c0,c1,c2,c3,c4,c5]
  intro τ15 H15
  exact⟨_,rfl,_,rfl,Hp.ownDelta (x:=x) (H15.sel [5,4,3,2,1,0] (by decide))⟩
 obtain⟨q,τ,R,r,rfl,h⟩:=key
 exact⟨r,τ,R,h⟩
theorem G5 (σ:St) (cs:List GV) (x:Unit_) (hR:Ab.R σ x cs) (hl:Bq x<=1073741824):∃ r τ,Ret Tryz.prog Hf [.agg cs] σ (.agg r) τ/\Hp σ τ [own Ab r x]:=by
 obtain⟨kv,d0,d1,d2,d3,d4,d5,rfl,hA,hD⟩:=G4 hR
 have hma:Ha x.act<=1073741824/\C9 x.delta<=1073741824:=by unfold Bq at hl;omega
 have hkn:x.act.knew.length<=1073741824:=by have:=hma.1;unfold Ha at this;omega
 have key:∃ w τ,Ret Tryz.prog Hf [.agg (unV x kv d0 d1 d2 d3 d4 d5)] σ w τ/\∃ r,w= .agg r/\Hp σ τ [own Ab r x]:=by
  refine Fi Sd (Z0z rfl) (Hx.refl σ) ?_
  simp +contextual (disch:=omega) only[go_sem,Ld]
  intro n1 f1 τ1 H1 n2 f2 τ2 H2
  obtain⟨a,τ3,R3,K3⟩:=Om τ2 _ x.act (kAct.pre hA H2.sub) (by omega)
  refine by_c H2 R3 K3 fun H3=> ?_
  obtain⟨ka,rfl,_⟩:=K3.rd 0 rfl
  simp +contextual (disch:=omega) only[go_sem]
  obtain⟨e,τ4,R4,K4⟩:=A05 τ3 _ x.delta (Bx.pre hD H3.sub) hma.2
  refine by_c H3 R4 K4 fun H4=> ?_
  obtain⟨e0,e1,e2,e3,e4,e5,rfl,_⟩:=K4.rd 0 rfl
  simp +contextual (disch:=omega) only[go_sem]
  intro τ5 H5
  exact⟨_,rfl,_,rfl,Hp.ownUnit_ (x:=x) (H5.sel [1,0] (by decide))⟩
 obtain⟨q,τ,R,r,rfl,h⟩:=key
 exact⟨r,τ,R,h⟩
theorem All3.cut {α β γ:Type} {R:α->β->γ->Prop}:∀ {x y:List α} {bs:List β} {cs:List γ},All3 R (x++y) bs cs->∃ b1 b2 c1 c2,bs=b1++b2/\cs=c1++c2/\All3 R x b1 c1/\All3 R y b2 c2
 |[],y,bs,cs,h=>⟨[],bs,[],cs,rfl,rfl,.nil,h⟩
 |a::x,y,_,_,.cons h t=>by
  obtain⟨b1,b2,c1,c2,rfl,rfl,h1,h2⟩:=All3.cut t
  exact⟨_::b1,b2,_::c1,c2,rfl,rfl,.cons h h1,h2⟩
theorem A6q (a b c:List Nat):(a++(b++c)).Perm (b++(a++c)):=by
 rw[<- Zas,<-Zas];exact List.Perm.append_right _ List.perm_append_comm
def holeP {α:Type} (d:Kd α) (v:GV) (l:List α) (j:Nat) (cs:List GV) (τ:St) (fp:List Nat):Prop:=
 ∃ g pre c1 c2 post f1 f2,v= .sl g pre.length l.length/\bk τ g=some (.row d.z (pre++(c1.flatten++(cs++c2.flatten))++post))/\cs.length=d.z/\All3 (d.O τ) (l.take j) c1 f1/\All3 (d.O τ) (l.drop (j+1)) c2 f2/\fp=g::(f1.flatten++f2.flatten)
def hole {α:Type} (d:Kd α) (v:GV) (l:List α) (j:Nat) (cs:List GV):Thg:=⟨holeP d v l j cs,fun {σ τ fp} h hf=>by
 obtain⟨g,pre,c1,c2,post,f1,f2,h1,h2,h3,h4,h5,rfl⟩:=h
 refine⟨g,pre,c1,c2,post,f1,f2,h1,by rw[hf g Zaj];exact h2,h3,h4.imp fun a b c hc ho=>d.loc ho fun g' hg'=>hf g' ?_,h5.imp fun a b c hc ho=>d.loc ho fun g' hg'=>hf g' ?_,rfl⟩
 ·exact Zaf _ (Zaz _ (Zak.2 ⟨c,hc,hg'⟩))
 ·exact Zaf _ (Zax _ (Zak.2 ⟨c,hc,hg'⟩))⟩
section
variable {σ τ:St} {rs:List Thg} {α:Type} {d:Kd α} {v:GV} {l:List α} {cs:List GV} {j:Nat}
theorem Hp.zoom (H:Hp σ τ (ow d v l::rs)) (hj:j<l.length):∃ cs,Hp σ τ (own d cs l[j]::hole d v l j cs::rs):=by
 obtain⟨h,_,⟨a,b,hr,hs,rfl⟩,hn,hb⟩:=H
 rcases hr with⟨rfl,_,_⟩|⟨g,pre,css,post,fps,hv,hB,hA,rfl⟩
 ·simp at hj
 have el:l=l.take j++(l[j]::l.drop (j+1)):=by rw[Zaw,List.take_append_drop]
 have hA':All3 (d.O τ) (l.take j++(l[j]::l.drop (j+1))) css fps:=by rw[<- el];exact hA
 obtain⟨c1,c2',f1,f2',rfl,rfl,h1,h2⟩:=All3.cut hA'
 cases h2 with
 | @cons _ cs fx _ c2 f2 hx h2=>
  have hp:(g::(f1++fx::f2).flatten++b).Perm (fx++((g::(f1.flatten++f2.flatten))++b)):=by
   have e:g::(f1++fx::f2).flatten++b=(g::f1.flatten)++(fx++(f2.flatten++b)):=by simp
   have e2:fx++((g::(f1.flatten++f2.flatten))++b)=fx++((g::f1.flatten)++(f2.flatten++b)):=by simp
   rw[e,e2];exact A6q _ _ _
  refine⟨cs,h,_,⟨fx,_,hx,⟨_,b,⟨g,pre,c1,c2,post,f1,f2,hv,?_,d.len (d.rd hx),h1,h2,rfl⟩,hs,rfl⟩,rfl⟩,hp.nodup_iff.1 hn,fun g' hg'=>hb g' (hp.mem_iff.2 hg')⟩
  rw[hB];simp
theorem Adk {fp:List Nat} (h:(hole d v l j cs).P τ fp) (hj:j<l.length):∃ g off,g∈fp/\v= .sl g off l.length/\atz d.z v j= .ptr g (off+j*d.z)/\∃ A B,off+j*d.z=A.length/\cs.length=d.z/\bk τ g=some (.row d.z (A++cs++B))/\∀(τ':St) (cs':List GV),cs'.length=d.z->bk τ' g=some (.row d.z (A++cs'++B))->(∀ g'∈fp,g'≠g->bk τ' g'=bk τ g')->fp.Nodup->(hole d v l j cs').P τ' fp:=by
 obtain⟨g,pre,c1,c2,post,f1,f2,rfl,h2,h3,h4,h5,rfl⟩:=h
 have hc:c1.flatten.length=j*d.z:=by rw[Nn h4,Za5,Nat.min_eq_left (by omega)]
 refine⟨g,pre.length,Zaj,rfl,rfl,pre++c1.flatten,c2.flatten++post,by rw[Zag,hc],h3,by rw[h2];simp,fun τ' cs' hl hB hk hn=> ?_⟩
 rw[List.nodup_cons] at hn
 refine⟨g,pre,c1,c2,post,f1,f2,rfl,by rw[hB];simp,hl,h4.imp fun a b c hc ho=>d.loc ho fun g' hg'=> ?_,h5.imp fun a b c hc ho=>d.loc ho fun g' hg'=> ?_,rfl⟩
 ·have hm:g'∈f1.flatten++f2.flatten:=Zaz _ (Zak.2 ⟨c,hc,hg'⟩)
  exact hk g' (Zaf _ hm) fun e=>hn.1 (e ▸ hm)
 ·have hm:g'∈f1.flatten++f2.flatten:=Zax _ (Zak.2 ⟨c,hc,hg'⟩)
  exact hk g' (Zaf _ hm) fun e=>hn.1 (e ▸ hm)
end
section
variable {P:Program} {σ τ:St} {h:List Item} {K:Kx} {v:GV} {α:Type} {l:List α} {d:Kd α} {cs:List GV} {j:Nat}
theorem Hx.hole_rd (H:Hx σ τ h) (i:Nat) (hi:h[i]? =some (.th (hole d v l j cs))) (hj:j<l.length):iadG d.z v (some j)=some (atz d.z v j)/\(∀ k,fadG k (atz d.z v j)=some (fld k (atz d.z v j)))/\(∀ k m,fadG k (fld m (atz d.z v j))=some (fld (m+k) (atz d.z v j)))/\(∀ k n a,k+n<=d.z->ldG a n τ (fld k (atz d.z v j))=(seg cs k n).bind (mkv a)):=by
 obtain⟨fp,hP,_⟩:=(H.hp.pick i (at_t hi)).turn
 obtain⟨g,off,hg,rfl,e,A,B,h1,h2,h3,_⟩:=Adk hP hj
 rw[e]
 have hi':iadG d.z (.sl g off l.length) (some j)=some (.ptr g (off+j*d.z)):=by simp only[iadG];rw[if_pos hj]
 refine⟨hi',fun k=>rfl,fun k m=>by simp only[fld,fadG];rw[Nat.add_assoc],fun k n a hk=> ?_⟩
 simp only[fld,ldG]
 have hr:rdB τ g=some (A++cs++B):=by unfold rdB;rw[Ar.1 h3];rfl
 rw[hr,Za6,h1]
 congr 1
 unfold seg
 rw[if_pos (by simp only[Zag];omega),if_pos (by omega)]
 congr 1
 rw[Zas,<-Zbe,Zbf,Zan (by omega),Zao (by rw[Za7];omega)]
end
def restP {α:Type} (d:Kd α) (v:GV) (l:List α) (j:Nat) (τ:St) (fp:List Nat):Prop:=
 (l=[]/\v= .nilS/\fp=[])∨∃ g pre c1 c2 post f2,v= .sl g pre.length l.length/\bk τ g=some (.row d.z (pre++(c1++c2.flatten)++post))/\c1.length=j*d.z/\All3 (d.O τ) (l.drop j) c2 f2/\fp=g::f2.flatten
def rest {α:Type} (d:Kd α) (v:GV) (l:List α) (j:Nat):Thg:=⟨restP d v l j,fun {σ τ fp} h hf=>by
 rcases h with h|⟨g,pre,c1,c2,post,f2,h1,h2,h3,h4,rfl⟩
 ·exact .inl h
 refine .inr ⟨g,pre,c1,c2,post,f2,h1,by rw[hf g Zaj];exact h2,h3,h4.imp fun a b c hc ho=>d.loc ho fun g' hg'=>hf g' ?_,rfl⟩
 exact Zaf _ (Zak.2 ⟨c,hc,hg'⟩)⟩
section
variable {σ τ:St} {rs:List Thg} {α:Type} {d:Kd α} {v:GV} {l:List α} {j:Nat}
theorem Hp.toRest (H:Hp σ τ (ow d v l::rs)):Hp σ τ (rest d v l 0::rs):=
 H.conv fun fp h=>by
  rcases h with h|⟨g,pre,css,post,fps,h1,h2,h3,h4⟩
  ·exact .inl ⟨h.1,h.2.1,h.2.2⟩
  ·exact .inr ⟨g,pre,[],css,post,fps,h1,by rw[h2];rfl,by simp,h3,h4⟩
end
def rstP {α:Type} (d:Kd α) (v:GV) (l:List α) (j:Nat) (cs:List GV) (τ:St) (fp:List Nat):Prop:=
 ∃ g pre c1 c2 post f2,v= .sl g pre.length l.length/\bk τ g=some (.row d.z (pre++(c1++(cs++c2.flatten))++post))/\c1.length=j*d.z/\cs.length=d.z/\All3 (d.O τ) (l.drop (j+1)) c2 f2/\fp=g::f2.flatten
def rst {α:Type} (d:Kd α) (v:GV) (l:List α) (j:Nat) (cs:List GV):Thg:=⟨rstP d v l j cs,fun {σ τ fp} h hf=>by
 obtain⟨g,pre,c1,c2,post,f2,h1,h2,h3,h5,h4,rfl⟩:=h
 refine⟨g,pre,c1,c2,post,f2,h1,by rw[hf g Zaj];exact h2,h3,h5,h4.imp fun a b c hc ho=>d.loc ho fun g' hg'=>hf g' ?_,rfl⟩
 exact Zaf _ (Zak.2 ⟨c,hc,hg'⟩)⟩
section
variable {σ τ:St} {rs:List Thg} {α:Type} {d:Kd α} {v:GV} {l:List α} {cs:List GV} {j:Nat}
theorem Hp.toRst (H:Hp σ τ (rest d v l j::rs)) (hj:j<l.length):∃ cs,Hp σ τ (own d cs l[j]::rst d v l j cs::rs):=by
 obtain⟨h,_,⟨a,b,hr,hs,rfl⟩,hn,hb⟩:=H
 rcases hr with⟨rfl,_,_⟩|⟨g,pre,c1,c2,post,f2,rfl,hB,hc,hA,rfl⟩
 ·simp at hj
 rw[<- Zaw hj] at hA
 cases hA with
 | @cons _ cs fx _ c2 f2 hx hA=>
  have hcl:cs.length=d.z:=d.len (d.rd hx)
  have hp:(g::(fx::f2).flatten++b).Perm (fx++((g::f2.flatten)++b)):=by
   have e:g::(fx::f2).flatten++b=[g]++(fx++(f2.flatten++b)):=by simp
   have e2:fx++((g::f2.flatten)++b)=fx++([g]++(f2.flatten++b)):=by simp
   rw[e,e2];exact A6q _ _ _
  exact⟨cs,h,_,⟨fx,_,hx,⟨_,b,⟨g,pre,c1,c2,post,f2,rfl,by rw[hB];simp,hc,hcl,hA,rfl⟩,hs,rfl⟩,rfl⟩,hp.nodup_iff.1 hn,fun g' hg'=>hb g' (hp.mem_iff.2 hg')⟩
theorem Hp.ofRst (H:Hp σ τ (rst d v l j cs::rs)):Hp σ τ (rest d v l (j+1)::rs):=
 H.conv fun fp h=>by
  obtain⟨g,pre,c1,c2,post,f2,h1,h2,h3,h5,h4,h6⟩:=h
  exact .inr ⟨g,pre,c1++cs,c2,post,f2,h1,by rw[h2];simp,by rw[Zag,h3,h5,Nat.add_mul,Nat.one_mul],h4,h6⟩
theorem Hx.rst_rd {h:List Item} (H:Hx σ τ h) (i:Nat) (hi:h[i]? =some (.th (rst d v l j cs))) (hj:j<l.length):iadG d.z v (some j)=some (atz d.z v j)/\(∀ k,fadG k (atz d.z v j)=some (fld k (atz d.z v j)))/\(∀ k m,fadG k (fld m (atz d.z v j))=some (fld (m+k) (atz d.z v j)))/\ldG true d.z τ (atz d.z v j)=some (.agg cs)/\∀ k n a,k+n<=d.z->ldG a n τ (fld k (atz d.z v j))=(seg cs k n).bind (mkv a):=by
 obtain⟨fp,hP,_⟩:=(H.hp.pick i (at_t hi)).turn
 obtain⟨g,pre,c1,c2,post,f2,rfl,hB,hc,hcl,hA,rfl⟩:=hP
 have hr:rdB τ g=some (pre++(c1++(cs++c2.flatten))++post):=by unfold rdB;rw[Ar.1 hB];rfl
 have key:∀ k n a,k+n<=d.z->ldG a n τ (.ptr g (pre.length+j*d.z+k))=(seg cs k n).bind (mkv a):=by
  intro k n a hk
  simp only[ldG]
  rw[hr,Za6]
  congr 1
  have e:pre++(c1++(cs++c2.flatten))++post=(pre++c1)++(cs++(c2.flatten++post)):=by simp
  rw[e]
  unfold seg
  rw[if_pos (by simp only[Zag];omega),if_pos (by omega)]
  congr 1
  rw[show pre.length+j*d.z+k=(pre++c1).length+k by rw[Zag,hc],<-Zbe,Zbf,Zan (by omega),Zao (by rw[Za7];omega)]
 refine⟨by simp only[iadG];rw[if_pos hj];rfl,fun k=>rfl,fun k m=>by simp only[atz,fld,fadG];rw[Nat.add_assoc],?_,fun k n a hk=>key k n a hk⟩
 have:=key 0 d.z true (by omega)
 rw[Nat.add_zero] at this
 simp only[atz]
 rw[this]
 have e:seg cs 0 d.z=some cs:=by unfold seg;rw[if_pos (by omega),List.drop_zero,List.take_of_length_le (by omega)]
 rw[e];rfl
end
section
variable {α:Type} {f:Int->α->α} {c:α->Nat}
end
theorem T0 {α:Type} {l:List α} {p:α->Bool} (h:∀ i,i<l.length->onI l i p=true):∀ x∈l,p x=true:=He.1 h
theorem Abx {a:Act} (h:De a=true):Ha a<=19:=by
 simp only[De,Cq,Bd,Zac] at h
 have h1:=D8 h.1.2.1
 have h2:=E9 h.2.1.2.1
 have h3:a.key.size<=8:=by
  have:=h.2.1.2.2.1
  split at this
  ·exact E9 this
  ·have e:a.key=noS:=of_decide_eq_true this
   rw[e];decide
 unfold Ha;omega
theorem Aba {d:Delta} (h:Bs d=true):C9 d<=5000:=by
 simp only[Bs,Zac,decide_eq_true_eq] at h
 obtain⟨h1,h2,h3,h4,h5,_⟩:=h
 have hb:d.base.length=3/\d.know.length=3:=by
  simp only[Fn,Zac] at h1
  exact⟨D8 h1.1,D8 h1.2.1⟩
 simp only[Ga,talP,Zac,C4,decide_eq_true_eq] at h2
 simp only[Ik,livP,Zac,C4,decide_eq_true_eq] at h3
 simp only[Hb,celP,Zac,C4,decide_eq_true_eq] at h4
 have a1:=L7 (f:=J5) (l:=d.tallies) (n:=8) fun t ht=>by
  have:=T0 (p:=tal1) (fun i hi=>(h2.1 i hi).1) t ht
  simp only[tal1,Zac] at this
  exact E9 this.1
 have a2:=L7 (f:=Kl) (l:=d.lives) (n:=16) fun t ht=>by
  have:=T0 (p:=liv1) (fun i hi=>(h3.1 i hi).2.1) t ht
  simp only[liv1,Zac] at this
  have h1:=E9 this.1
  have h2:=E9 this.2.1
  unfold Kl;omega
 have a3:=L7 (f:=No) (l:=d.cells) (n:=8) fun t ht=>by
  have:=T0 (p:=cel1) (fun i hi=>(h4.1 i hi).2.1) t ht
  simp only[cel1,Zac] at this
  exact E9 this.1
 unfold C9
 omega
theorem N5 {u:Unit_} (h:Cz u=true):Bq u<=5000:=by
 unfold Cz at h
 split at h
 ·simp only[Zac] at h
  have h1:=Aba h.1
  have h2:=h.2
  simp only[A2l,Zac,Za8,decide_eq_true_eq] at h2
  have e1:u.act.knew=[]:=h2.2.2.1
  have e2:u.act.obj=⟨#[]⟩:=h2.2.2.2.2.1
  have e3:u.act.key=⟨#[]⟩:=h2.2.2.2.2.2.1
  unfold Bq Ha
  rw[e1,e2,e3]
  have:(ByteArray.mk #[]).size=0:=rfl
  simp only[Zay,this];omega
 ·simp only[Zac] at h
  have h1:=Abx h.1
  have h2:=h.2
  simp only[Jm,Zac,Za8] at h2
  obtain⟨e1,e2,e3,e4,e5,e6⟩:=h2
  unfold Bq C9
  rw[e1,e2,e3,e4,e5,e6]
  simp only[sumL,List.map_nil,List.sum_nil,Zay];omega
theorem A7y {s:State} (d:Delta) (h:OkS s):OkS (A5i s d).1:=by
 unfold A5i
 repeat' split
 all_goals first
  |exact h
  |exact A5c.1 (by simp_all)
theorem A2r {s:State} (u:Unit_) (h:OkS s):OkS (Bz s u).1:=by
 unfold Bz
 split
 ·exact A7y _ h
 ·exact Zr _ h
structure LogG (l:Log):Prop where
 rp:0<=l.rep/\l.rep<=2
 tm:0<=l.time/\l.time<=1000000
 st:OkS l.state
 un:∀ u∈l.units,Cz u=true
 wa:∀ u∈l.waits,Cz u=true
 nu:l.units.length<=60
 nw:l.waits.length<=6
 ub:∀ u∈l.units,u.batch=false
 wb:∀ u∈l.waits,u.batch=false
 run:runU l.units l.units.length=some l.state
theorem A6r {us:List Unit_} (x:List Unit_):∀ {i:Nat},i≤us.length->runU (us++x) i=runU us i
 |0,_=>rfl
 |i+1,h=>by
  have hi:i<us.length:=h
  have hi2:i<(us++x).length:=by rw[Zag];omega
  simp only[runU,A6r x (Nat.le_of_lt hi),dif_pos hi,dif_pos hi2,List.getElem_append_left hi]
theorem A9x {us:List Unit_} {s:State} {u:Unit_} (h:runU us us.length=some s) (h0:(Bz s u).2=0):runU (us++[u]) (us++[u]).length=some (Bz s u).1:=by
 have hl:(us++[u]).length=us.length+1:=by simp
 rw[hl]
 have e:(us++[u])[us.length]'(by omega)=u:=by simp
 have:=Ab5 (us:=us++[u]) (i:=us.length) (s:=s) (by omega) (by rw[A6r [u] (Zba _)];exact h) (by rw[e];exact h0)
 rw[this,e]
theorem LogG.ms {l:Log} (h:LogG l):A93 l<=400000:=by
 have h1:=h.st.ms
 have h2:=L7 (f:=Bq) (l:=l.units) (n:=5000) fun u hu=>N5 (h.un u hu)
 have h3:=L7 (f:=Bq) (l:=l.waits) (n:=5000) fun u hu=>N5 (h.wa u hu)
 have:=h.nu
 have:=h.nw
 unfold A93
 omega
theorem Adl {r:Int} (h:0<=r/\r<=2):LogG ⟨r,0,⟨[0,0,0],[],[],[]⟩,[],[]⟩:=⟨h,⟨Int.le_refl 0,by show(0:Int)<=1000000;decide⟩,A6o,fun _ h=>(by cases h),fun _ h=>(by cases h),Zbb _,Zbb _,fun _ h=>(by cases h),fun _ h=>(by cases h),rfl⟩
theorem A06 {l:Log} {u:Unit_} {t:Int} (h:LogG l) (hu:Cz u=true) (hb:u.batch=false) (h0:(Bz l.state u).2=0) (hn:l.units.length<60) (ht:0<=t/\t<=1000000):LogG {l with state:=(Bz l.state u).1,units:=l.units++[u],time:=t}:=
 ⟨h.rp,ht,A2r u h.st,fun x hx=>by
  rcases Zai.1 hx with hx|hx
  ·exact h.un x hx
  ·rw[Zah.1 hx];exact hu,h.wa,by simp only[Zag,Zam];omega,h.nw,fun x hx=>by
  rcases Zai.1 hx with hx|hx
  ·exact h.ub x hx
  ·rw[Zah.1 hx];exact hb,h.wb,A9x h.run h0⟩
theorem Abb {l:Log} {u:Unit_} (h:LogG l) (hu:Cz u=true) (hb:u.batch=false) (hn:l.waits.length<6):LogG {l with waits:=l.waits++[u]}:=
 ⟨h.rp,h.tm,h.st,h.un,fun x hx=>by
  rcases Zai.1 hx with hx|hx
  ·exact h.wa x hx
  ·rw[Zah.1 hx];exact hu,h.nu,by simp only[Zag,Zam];omega,h.ub,fun x hx=>by
  rcases Zai.1 hx with hx|hx
  ·exact h.wb x hx
  ·rw[Zah.1 hx];exact hb,h.run⟩
abbrev Oo:Nat:=47
def Oq:Fn1:=⟨95,[.t 4],(rg [oX 2 0,oX 3 1,oV 4 kf] (.seq (rg [oF 8 0 2,oL 9 8,oF 10 0 3,oL 11 10,oD 12 171 9 11,oU 13 12,oM 14 13,vF 15 14 1 2,vL 16 14 15,og 17 14 false (.len false (.t 16)),vF 18 14 1 3,vL 19 14 18,og 20 14 false (.len false (.t 19)),vB 21 14 .neq 17 20,oP 22 14 21,oM 23 22,vF 24 23 2 2,vL 25 23 24,og 26 23 false (.len false (.t 25)),vF 27 23 2 3,vL 28 23 27,og 29 23 false (.len false (.t 28)),vB 30 23 .neq 26 29,oP 31 23 30,oM 32 31,vF 33 32 3 2,vL 34 32 33,og 35 32 false (.len false (.t 34)),vF 36 32 3 3,vL 37 32 36,og 38 32 false (.len false (.t 37)),vB 39 32 .neq 35 38,oP 40 32 39] (cn 40 (rg [oV 4 kf] .ret) .skip)) (.seq (rg [oV 5 (ki 0)] (.blk 0 (.lop (.seq (rg [oM 41 5,oF 42 1 2,oL 43 42,oN 44 43,oB 45 .lss 41 44] (cn 45 .skip (.ext 0))) (.seq (.blk 1 (dw [oF 48 1 2,oL 49 48,oM 50 5,oI 51 3 49 50,oW 52 3 51,oF 53 1 3,oL 54 53,oM 55 5,oI 56 3 54 55,oW 57 3 56] [o 58 (.eqs true [.s,.i .i64,.i .i64] (.t 52) (.t 57))] (cn 58 (rg [oV 4 kf] .ret) .skip))) (.reg [oM 46 5,oZ 47 46 1,oM 5 47])))))) (.seq (rg [oV 6 (ki 0)] (.blk 2 (.lop (.seq (rg [oM 59 6,oF 60 2 2,oL 61 60,oN 62 61,oB 63 .lss 59 62] (cn 63 .skip (.ext 2))) (.seq (.blk 3 (dw [oF 66 2 2,oL 67 66,oM 68 6,oI 69 6 67 68,oW 70 6 69,oF 71 2 3,oL 72 71,oM 73 6,oI 74 6 72 73,oW 75 6 74] [o 76 (.eqs true [.b,.s,.s,.i .i64,.i .i64,.i .i64] (.t 70) (.t 75))] (cn 76 (rg [oV 4 kf] .ret) .skip))) (.reg [oM 64 6,oZ 65 64 1,oM 6 65])))))) (.seq (rg [oV 7 (ki 0)] (.blk 4 (.lop (.seq (rg [oM 77 7,oF 78 3 2,oL 79 78,oN 80 79,oB 81 .lss 77 80] (cn 81 .skip (.ext 4))) (.seq (.blk 5 (dw [oF 84 3 2,oL 85 84,oM 86 7,oI 87 8 85 86,oW 88 8 87,oF 89 3 3,oL 90 89,oM 91 7,oI 92 8 90 91,oW 93 8 92] [o 94 (.eqs true [.s,.i .i64,.i .i64,.i .i64,.i .i64,.i .i64,.i .i64,.b] (.t 88) (.t 93))] (cn 94 (rg [oV 4 kf] .ret) .skip))) (.reg [oM 82 7,oZ 83 82 1,oM 7 83])))))) (rg [oV 4 kt] .ret))))))⟩
theorem Wn:A6 Tryz.prog Oo=some Oq:=by kernel_rfl
theorem Jo {a b:State} (h:¬ (a.know=b.know/\a.tallies=b.tallies/\a.lives=b.lives/\a.cells=b.cells)):decide (a=b)=false:=decide_eq_false fun e=>h (State.eq_iff.1 e)
theorem Lf (σ:St) (cs ds:List GV) (a b:State) (hR:A8.R σ a cs) (hS:A8.R σ b ds) (hl:Ah a<=1099511627776) (hm:Ah b<=1099511627776):Ret Tryz.prog Oo [.agg cs,.agg ds] σ (.bool (decide (a=b))) σ:=by
 obtain⟨v0,v1,v2,v3,rfl,q0,q1,q2,q3⟩:=hR
 obtain⟨u0,u1,u2,u3,rfl,p0,p1,p2,p3⟩:=hS
 have hkl:a.know.length<=1099511627776:=by unfold Ah at hl;omega
 have b1:a.tallies.length<=1099511627776:=by unfold Ah at hl;omega
 have b2:a.lives.length<=1099511627776:=by unfold Ah at hl;omega
 have b3:a.cells.length<=1099511627776:=by unfold Ah at hl;omega
 clear hl hm
 refine Eu Wn (Z0z rfl) trivial ?_
 simp +contextual (disch:=omega) only[go_sem,Oq]
 intro n1 f1 τ0 _ n2 f2 τ H
 have g1:σ.length<=n1:=f1
 have g2:σ.length<=n2:=f2.2
 have S:=H.sub
 refine by_r H (Pi _ v0 u0 _ _ (q0.pre S) (p0.pre S) hkl) ?_
 have l1:=q1.len
 have l2:=q2.len
 have l3:=q3.len
 have m1:=p1.len
 have m2:=p2.len
 have m3:=p3.len
 by_cases h0:a.know=b.know
 rotate_left
 ·have d:=Jo (a:=a) (b:=b) fun h=>h0 h.1
  have e0:decide (a.know=b.know)=false:=decide_eq_false h0
  simp +contextual (disch:=omega) only[go_sem,e0,d]
  try exact fun _=>rfl
 have e0:decide (a.know=b.know)=true:=decide_eq_true h0
 by_cases h1:a.tallies.length=b.tallies.length
 rotate_left
 ·have d:=Jo (a:=a) (b:=b) fun h=>h1 (by rw[h.2.1])
  have e1:((a.tallies.length:Int) != (b.tallies.length:Int))=true:=by simp;omega
  simp +contextual (disch:=omega) only[go_sem,e0,e1,l1,m1,d]
  try exact fun _=>rfl
 have e1:((a.tallies.length:Int) != (b.tallies.length:Int))=false:=by simp;omega
 by_cases h2:a.lives.length=b.lives.length
 rotate_left
 ·have d:=Jo (a:=a) (b:=b) fun h=>h2 (by rw[h.2.2.1])
  have e2:((a.lives.length:Int) != (b.lives.length:Int))=true:=by simp;omega
  simp +contextual (disch:=omega) only[go_sem,e0,e1,e2,l1,m1,l2,m2,d]
  try exact fun _=>rfl
 have e2:((a.lives.length:Int) != (b.lives.length:Int))=false:=by simp;omega
 by_cases h3:a.cells.length=b.cells.length
 rotate_left
 ·have d:=Jo (a:=a) (b:=b) fun h=>h3 (by rw[h.2.2.2])
  have e3:((a.cells.length:Int) != (b.cells.length:Int))=true:=by simp;omega
  simp +contextual (disch:=omega) only[go_sem,e0,e1,e2,e3,l1,m1,l2,m2,l3,m3,d]
  try exact fun _=>rfl
 have e3:((a.cells.length:Int) != (b.cells.length:Int))=false:=by simp;omega
 simp +contextual (disch:=omega) only[go_sem,e0,e1,e2,e3,l1,m1,l2,m2,l3,m3]
 refine Cf a.tallies.length 5 0 (fun i env h=>env 2= .ptr n1 0/\env 3= .ptr n2 0/\a.tallies.take i=b.tallies.take i/\h=[.box 1 n2 [u0,u1,u2,u3],.box 1 n1 [v0,v1,v2,v3]]) (fun env h=>a.tallies=b.tallies/\env 2= .ptr n1 0/\env 3= .ptr n2 0/\h=[.box 1 n2 [u0,u1,u2,u3],.box 1 n1 [v0,v1,v2,v3]]) (fun env h=>env 4= .bool false/\a.tallies≠b.tallies) _ H (by simp +contextual (disch:=omega) only[go_sem]) ⟨by simp +contextual (disch:=omega) only[go_sem],by simp +contextual (disch:=omega) only[go_sem],by simp,rfl⟩ ?_ ?_ ?_ ?_
 ·clear H
  rintro J Y W hJ hY hW i env h' τ1 hi ei c0 H1 ⟨e2',e3',he,rfl⟩
  have hj:i<b.tallies.length:=by omega
  have L1:=Ac q1 hi
  have L2:=Ac p1 hj
  by_cases hx:a.tallies[i]=b.tallies[i]
  ·have bb:decide (a.tallies[i]=b.tallies[i])=true:=decide_eq_true hx
   simp +contextual (disch:=omega) only[go_sem,c0,e2',e3',ei,A3,l1,m1,L1,L2,bb]
   exact hJ _ _ _ _ H1 ⟨by simp +contextual (disch:=omega) only[go_sem,e2'],by simp +contextual (disch:=omega) only[go_sem,e3'],by rw[Av hi,Av hj,he,hx],rfl⟩
  ·have bb:decide (a.tallies[i]=b.tallies[i])=false:=decide_eq_false hx
   simp +contextual (disch:=omega) only[go_sem,c0,e2',e3',ei,A3,l1,m1,L1,L2,bb]
   exact hW _ _ _ H1 ⟨by simp +contextual (disch:=omega) only[go_sem],fun h=>hx (by simp only[h])⟩
 ·rintro Y hY env h' τ1 ei c0 H1 ⟨e2',e3',he,rfl⟩
  simp +contextual (disch:=omega) only[go_sem,c0,e2',e3',ei,l1]
  rw[Zad,h1,Zad] at he
  exact hY _ _ _ H1 ⟨he,by simp +contextual (disch:=omega) only[go_sem,e2'],by simp +contextual (disch:=omega) only[go_sem,e3'],rfl⟩
 rotate_left
 ·rintro env h' τ1 H1 ⟨e4,hx⟩
  have d:=Jo (a:=a) (b:=b) fun h=>hx h.2.1
  simp +contextual (disch:=omega) only[go_sem,e4,d]
 rintro env h' τ10 H ⟨t0,e2',e3',rfl⟩
 simp +contextual (disch:=omega) only[go_sem,e2',e3']
 refine Cf a.lives.length 6 2 (fun i env h=>env 2= .ptr n1 0/\env 3= .ptr n2 0/\a.lives.take i=b.lives.take i/\h=[.box 1 n2 [u0,u1,u2,u3],.box 1 n1 [v0,v1,v2,v3]]) (fun env h=>a.lives=b.lives/\env 2= .ptr n1 0/\env 3= .ptr n2 0/\h=[.box 1 n2 [u0,u1,u2,u3],.box 1 n1 [v0,v1,v2,v3]]) (fun env h=>env 4= .bool false/\a.lives≠b.lives) _ H (by simp +contextual (disch:=omega) only[go_sem]) ⟨by simp +contextual (disch:=omega) only[go_sem,e2'],by simp +contextual (disch:=omega) only[go_sem,e3'],by simp,rfl⟩ ?_ ?_ ?_ ?_
 ·skip
  rintro J Y W hJ hY hW i env h' τ1 hi ei c0 H1 ⟨e2',e3',he,rfl⟩
  have hj:i<b.lives.length:=by omega
  have L1:=A5 q2 hi
  have L2:=A5 p2 hj
  by_cases hx:a.lives[i]=b.lives[i]
  ·have bb:decide (a.lives[i]=b.lives[i])=true:=decide_eq_true hx
   simp +contextual (disch:=omega) only[go_sem,c0,e2',e3',ei,A3,l2,m2,L1,L2,bb]
   exact hJ _ _ _ _ H1 ⟨by simp +contextual (disch:=omega) only[go_sem,e2'],by simp +contextual (disch:=omega) only[go_sem,e3'],by rw[Av hi,Av hj,he,hx],rfl⟩
  ·have bb:decide (a.lives[i]=b.lives[i])=false:=decide_eq_false hx
   simp +contextual (disch:=omega) only[go_sem,c0,e2',e3',ei,A3,l2,m2,L1,L2,bb]
   exact hW _ _ _ H1 ⟨by simp +contextual (disch:=omega) only[go_sem],fun h=>hx (by simp only[h])⟩
 ·rintro Y hY env h' τ1 ei c0 H1 ⟨e2',e3',he,rfl⟩
  simp +contextual (disch:=omega) only[go_sem,c0,e2',e3',ei,l2]
  rw[Zad,h2,Zad] at he
  exact hY _ _ _ H1 ⟨he,by simp +contextual (disch:=omega) only[go_sem,e2'],by simp +contextual (disch:=omega) only[go_sem,e3'],rfl⟩
 rotate_left
 ·rintro env h' τ1 H1 ⟨e4,hx⟩
  have d:=Jo (a:=a) (b:=b) fun h=>hx h.2.2.1
  simp +contextual (disch:=omega) only[go_sem,e4,d]
 rintro env h' τ11 H ⟨t1,e2',e3',rfl⟩
 simp +contextual (disch:=omega) only[go_sem,e2',e3']
 refine Cf a.cells.length 7 4 (fun i env h=>env 2= .ptr n1 0/\env 3= .ptr n2 0/\a.cells.take i=b.cells.take i/\h=[.box 1 n2 [u0,u1,u2,u3],.box 1 n1 [v0,v1,v2,v3]]) (fun env h=>a.cells=b.cells/\env 2= .ptr n1 0/\env 3= .ptr n2 0/\h=[.box 1 n2 [u0,u1,u2,u3],.box 1 n1 [v0,v1,v2,v3]]) (fun env h=>env 4= .bool false/\a.cells≠b.cells) _ H (by simp +contextual (disch:=omega) only[go_sem]) ⟨by simp +contextual (disch:=omega) only[go_sem,e2'],by simp +contextual (disch:=omega) only[go_sem,e3'],by simp,rfl⟩ ?_ ?_ ?_ ?_
 ·skip
  rintro J Y W hJ hY hW i env h' τ1 hi ei c0 H1 ⟨e2',e3',he,rfl⟩
  have hj:i<b.cells.length:=by omega
  have L1:=A4 q3 hi
  have L2:=A4 p3 hj
  by_cases hx:a.cells[i]=b.cells[i]
  ·have bb:decide (a.cells[i]=b.cells[i])=true:=decide_eq_true hx
   simp +contextual (disch:=omega) only[go_sem,c0,e2',e3',ei,A3,l3,m3,L1,L2,bb]
   exact hJ _ _ _ _ H1 ⟨by simp +contextual (disch:=omega) only[go_sem,e2'],by simp +contextual (disch:=omega) only[go_sem,e3'],by rw[Av hi,Av hj,he,hx],rfl⟩
  ·have bb:decide (a.cells[i]=b.cells[i])=false:=decide_eq_false hx
   simp +contextual (disch:=omega) only[go_sem,c0,e2',e3',ei,A3,l3,m3,L1,L2,bb]
   exact hW _ _ _ H1 ⟨by simp +contextual (disch:=omega) only[go_sem],fun h=>hx (by simp only[h])⟩
 ·rintro Y hY env h' τ1 ei c0 H1 ⟨e2',e3',he,rfl⟩
  simp +contextual (disch:=omega) only[go_sem,c0,e2',e3',ei,l3]
  rw[Zad,h3,Zad] at he
  exact hY _ _ _ H1 ⟨he,by simp +contextual (disch:=omega) only[go_sem,e2'],by simp +contextual (disch:=omega) only[go_sem,e3'],rfl⟩
 rotate_left
 ·rintro env h' τ1 H1 ⟨e4,hx⟩
  have d:=Jo (a:=a) (b:=b) fun h=>hx h.2.2.2
  simp +contextual (disch:=omega) only[go_sem,e4,d]
 rintro env h' τ12 H ⟨t2,e2',e3',rfl⟩
 have d:decide (a=b)=true:=decide_eq_true (State.eq_iff.2 ⟨h0,t0,t1,t2⟩)
 simp +contextual (disch:=omega) only[go_sem,d]
 try exact fun _=>rfl
abbrev Q1:Nat:=161
def Yd:Fn1:=⟨32,[.t 2],(rg [o 2 (.mov (.k .nilP))] (rg [oM 5 0,oN 6 5,o 7 (.bin .add (ki 93901) (.t 6)),oM 3 7] (.seq (rg [oV 4 (ki 0)] (.blk 0 (.lop (.seq (rg [oM 8 4,oM 9 0,oN 10 9,oB 11 .lss 8 10,oM 12 11,jM 13 12 4,jE 14 12 .lss 13 4000,oQ 15 12 14] (cn 15 .skip (.ext 0))) (.seq (.blk 1 (.reg [oM 18 3,oE 19 .mul 18 131,oM 20 0,oM 21 4,oI 22 1 20 21,oL 23 22,o 24 (.cvi .i64 (.t 23)),oB 25 .add 19 24,oZ 26 25 7,oE 27 .and 26 1073741823,oM 3 27])) (.reg [oM 16 4,oZ 17 16 1,oM 4 17])))))) (rg [oM 28 0,oM 29 3,o 30 (.build [.nilS,z0,z0] [(0,1,(.t 28)),(2,1,(.t 29))]),oX 31 30,oM 2 31] .ret))))⟩
theorem A5m:A6 Tryz.prog Q1=some Yd:=by kernel_rfl
abbrev N6:Nat:=188
def V9:Fn1:=⟨58,[.t 2],(rg [oV 2 (ki 0)] (rg [oM 4 0,oM 5 0,oK 6 5,oF 7 2 6,oL 8 7,oE 9 .mul 8 6364136223846793005,oZ 10 9 1442695040888963407,oK 11 4,oF 12 2 11,oS 1 12 10] (dw [oM 13 0,oK 14 13,oF 15 2 14,oL 16 15,o 17 (.bin .shr (.t 16) (.k (.int .u64 33))),oM 18 0,oK 19 18,oF 20 2 19,oL 21 20] [o 22 (.bin .shr (.t 21) (.k (.int .u64 45))),oB 23 .xor 17 22,oE 24 .and 23 255,oM 3 24] (.seq (dw [oM 25 0,oK 26 25,oF 27 1 26,oL 28 27,oM 29 0,oK 30 29,oF 31 0 30,oL 32 31] [oN 33 32,oB 34 .lss 28 33] (cn 34 (dw [oM 35 3,oM 36 0,oK 37 36,oF 38 0 37,oL 39 38,oM 40 0,oK 41 40,oF 42 1 41,oL 43 42] [oI 44 1 39 43,oL 45 44,o 46 (.cvi .i64 (.t 45)),oB 47 .add 35 46,oE 48 .and 47 255,oM 3 48] (.reg [oM 49 0,oM 50 0,oK 51 50,oF 52 1 51,oL 53 52,oZ 54 53 1,oK 55 49,oF 56 1 55,oS 1 56 54])) .skip)) (rg [oM 57 3,oM 2 57] .ret)))))⟩
theorem A2s:A6 Tryz.prog N6=some V9:=by kernel_rfl
abbrev I6:Nat:=163
def I7:Fn1:=⟨37,[.t 4],(rg [oV 4 (ki 0)] (.seq (rg [oM 9 1,oE 10 .leq 9 0] (cn 10 (rg [oV 4 (ki 0)] .ret) .skip)) (.seq (rg [oM 11 1,oE 12 .leq 11 256] (cn 12 (rg [oM 13 0,oC 14 188 13,oM 15 1,oB 16 .rem 14 15,oM 4 16] .ret) .skip)) (rg [oM 17 0,oC 18 188 17,oM 5 18] (rg [oM 19 0,oC 20 188 19,oM 6 20] (rg [oM 21 0,oC 22 188 21,oM 7 22] (rg [oM 23 0,oC 24 188 23,oM 8 24] (rg [oM 25 5,oE 26 .mul 25 16777216,oM 27 6,oE 28 .mul 27 65536,oB 29 .add 26 28,oM 30 7,oE 31 .mul 30 256,oB 32 .add 29 31,oM 33 8,oB 34 .add 32 33,oM 35 1,oB 36 .rem 34 35,oM 4 36] .ret))))))))⟩
theorem A07:A6 Tryz.prog I6=some I7:=by kernel_rfl
theorem A2t (σ:St) (v:GV) (bs:List Int) (hv:RS pB.kd σ v bs) (hl:bs.length<=1099511627776):∃ c τ,Ret Tryz.prog Q1 [v] σ c τ/\Hp σ τ [crs c v bs.length]:=by
 refine A6c (rs:=fun c=>[crs c v bs.length]) A5m (Z0z rfl) ?_
 obtain⟨fa,ha,_⟩:=Abs 1073741823 (by decide)
 have ha:∀ a,binG .and (.int .i64 a) (.int .i64 1073741823)=some (.int .i64 (fa a)):=ha
 simp +contextual (disch:=omega) only[go_sem,Yd,hv.len]
 refine Cr (min bs.length 4000) 4 (fun i env τ=>env 0=v/\(∃ h:Int,env 3=gi h)/\σ=τ) rfl ⟨rfl,⟨_,rfl⟩,rfl⟩ ?_ ?_
 ·rintro i env τ hi e4 c0 ⟨e0,⟨h,e3⟩,rfl⟩
  have hi':i<bs.length:=by omega
  have c1:decide ((i:Int)<bs.length)=true:=by simp;omega
  have c2:decide ((i:Int)<4000)=true:=by simp;omega
  simp +contextual (disch:=omega) only[go_sem,c1,c2,e0,e3,e4,hv.len,A4g hv hi',ha]
  exact⟨_,rfl⟩
 ·rintro env τ e4 c0 ⟨e0,⟨h,e3⟩,rfl⟩
  by_cases hb:bs.length<=4000
  ·have c1:decide (((min bs.length 4000:Nat):Int)<bs.length)=false:=by simp;omega
   simp +contextual (disch:=omega) only[go_sem,c1,e0,e3,e4,hv.len,hv.cell]
   exact⟨_,rfl,((Hp.refl σ).new 1 _).ptCur⟩
  ·have c1:decide (((min bs.length 4000:Nat):Int)<bs.length)=true:=by simp;omega
   have c2:decide (((min bs.length 4000:Nat):Int)<4000)=false:=by simp;omega
   simp +contextual (disch:=omega) only[go_sem,c1,c2,e0,e3,e4,hv.len,hv.cell]
   exact⟨_,rfl,((Hp.refl σ).new 1 _).ptCur⟩
theorem Dv {σ0 σ:St} {rs:List Thg} (H:Hp σ0 σ rs) {k:Nat} {c v:GV} {bs:List Int} (hk:rs[k]? =some (crs c v bs.length)) (hv:RS pB.kd σ0 v bs) (hl:bs.length<=1099511627776):
  ∃ r τ,Ret Tryz.prog N6 [c] σ r τ/\∃ x:Int,r=gi x/\0<=x/\x<=255/\Hp σ0 τ rs:=by
 obtain⟨g,i,h,rfl,hi,hB,hm⟩:=H.crs hk
 refine E8 A2s (Z0z rfl) ?_
 obtain⟨fa,ha,hfa⟩:=Abs 255 (by decide)
 have ha:∀ a,binG .and (.int .i64 a) (.int .i64 255)=some (.int .i64 (fa a)):=ha
 obtain⟨f33,h33⟩:=Abr 33 (by decide)
 obtain⟨f45,h45⟩:=Abr 45 (by decide)
 obtain⟨fx,hx⟩:=xor_ex
 have hs1:∀ y:Int,stG 1 σ (.ptr g 2) (.int .i64 y)=some (.tup [],σ.set g (some (.row 1 [v,gi i,gi y]))):=fun y=>Abp (x:=.int .i64 y) (n:=1) hB (by simp) (by decide) rfl
 have hs2:∀ y x:Int,stG 1 (σ.set g (some (.row 1 [v,gi i,gi y]))) (.ptr g 1) (.int .i64 x)=some (.tup [],σ.set g (some (.row 1 [v,gi x,gi y]))):=fun y x=>by
  rw[Abp (x:=.int .i64 x) (n:=1) (A98 hB) (by simp) (by decide) rfl,List.set_set];rfl
 have hr:∀ y:Int,rdB (σ.set g (some (.row 1 [v,gi i,gi y]))) g=some [v,gi i,gi y]:=fun y=>Abq (A98 hB)
 have hlen:∀ y x:Int,(σ.set g (some (.row 1 [v,gi x,gi y]))).length=σ.length:=fun y x=>by simp
 simp +contextual (disch:=omega) only[go_sem,V9,A7 (Abq hB),hs1,A7 (hr _),h33,h45,hx,ha,hv.len,hv.notup]
 refine⟨fun hn=> ?_,fun hn=> ?_⟩
 ·have hi':i<bs.length:=by simpa using hn
  have hb1:=(A4g hv hi').1
  have hb2:∀ y:Int,ldG false 1 (σ.set g (some (.row 1 [v,gi i,gi y]))) (atz 1 v i)=some (.int .u8 bs[i]):=fun y=>(A4g (hv.pre (hm i y hi).sub) hi').2
  simp +contextual (disch:=omega) only[go_sem,A7 (hr _),hb1,hb2,ha,hs2]
  exact⟨_,rfl,_,rfl,(hfa _).1,(hfa _).2,hm _ _ hi'⟩
 ·exact⟨_,rfl,_,rfl,(hfa _).1,(hfa _).2,hm _ _ hi⟩
theorem Mc {σ0 σ:St} {rs:List Thg} (H:Hp σ0 σ rs) {k:Nat} {c v:GV} {bs:List Int} (hk:rs[k]? =some (crs c v bs.length)) (hv:RS pB.kd σ0 v bs) (hl:bs.length<=1099511627776) (n:Int) (hn:n<=4611686018427387904):
  ∃ r τ,Ret Tryz.prog I6 [c,gi n] σ r τ/\∃ x:Int,r=gi x/\0<=x/\(n<=0->x=0)/\(0<n->x<n)/\Hp σ0 τ rs:=by
 refine E8 A07 (Z0z rfl) ?_
 by_cases h0:n<=0
 ·have c0:decide (n<=0)=true:=decide_eq_true h0
  simp +contextual (disch:=omega) only[go_sem,I7,c0]
  exact⟨_,rfl,0,rfl,by omega,fun _=>rfl,fun h=>by omega,H⟩
 ·have c0:decide (n<=0)=false:=decide_eq_false h0
  have hn0:¬ (n=0):=by omega
  by_cases h1:n<=256
  ·have c1:decide (n<=256)=true:=decide_eq_true h1
   simp +contextual (disch:=omega) only[go_sem,I7,c0,c1]
   obtain⟨r,τ,R,x,rfl,hx0,hx1,H1⟩:=Dv H hk hv hl
   refine Ak R ?_
   simp +contextual (disch:=omega) only[go_sem,hn0]
   exact⟨_,rfl,_,rfl,Zbc _ hx0,fun h=>by omega,fun h=>Za2 _ h,H1⟩
  ·have c1:decide (n<=256)=false:=decide_eq_false h1
   simp +contextual (disch:=omega) only[go_sem,I7,c0,c1]
   obtain⟨r,τ1,R,x,rfl,hx0,hx1,H1⟩:=Dv H hk hv hl
   refine Ak R ?_
   simp +contextual (disch:=omega) only[go_sem]
   obtain⟨r,τ2,R,y,rfl,hy0,hy1,H2⟩:=Dv H1 hk hv hl
   refine Ak R ?_
   simp +contextual (disch:=omega) only[go_sem]
   obtain⟨r,τ3,R,z,rfl,hz0,hz1,H3⟩:=Dv H2 hk hv hl
   refine Ak R ?_
   simp +contextual (disch:=omega) only[go_sem]
   obtain⟨r,τ4,R,w,rfl,hw0,hw1,H4⟩:=Dv H3 hk hv hl
   refine Ak R ?_
   simp +contextual (disch:=omega) only[go_sem,hn0]
   exact⟨_,rfl,_,rfl,Zbc _ (by omega),fun h=>by omega,fun h=>Za2 _ h,H4⟩
abbrev N7:Nat:=202
def Va:Fn1:=⟨9,[.t 4],(rg [oV 4 kf] (rg [oM 5 0,oM 6 1,oD 7 163 5 6,oE 8 .eql 7 0,oM 4 8] .ret))⟩
theorem A2u:A6 Tryz.prog N7=some Va:=by kernel_rfl
abbrev N8:Nat:=295
def Vb:Fn1:=⟨12,[.t 4],(rg [o 4 (.mov (.k s0))] (rg [oM 5 1,oM 6 0,oM 7 1,oN 8 7,oD 9 163 6 8,oI 10 1 5 9,oL 11 10,oM 4 11] .ret))⟩
theorem A2v:A6 Tryz.prog N8=some Vb:=by kernel_rfl
abbrev If:Nat:=331
def Md:Fn1:=⟨12,[.t 4],(rg [oV 4 (ki 0)] (rg [oM 5 1,oM 6 0,oM 7 1,oN 8 7,oD 9 163 6 8,oI 10 1 5 9,oL 11 10,oM 4 11] .ret))⟩
theorem Vc:A6 Tryz.prog If=some Md:=by kernel_rfl
abbrev Q2:Nat:=293
def Ye:Fn1:=⟨6,[.t 2],(rg [o 2 (.mov (.k s0))] (rg [oM 3 0,o 4 (.lit 1 3 [s0,s0,s0] [(0,1,(.k (.str ⟨#[97]⟩))),(1,1,(.k (.str ⟨#[98]⟩))),(2,1,(.k (.str ⟨#[116,97,108,108,121]⟩)))]),oD 5 295 3 4,oM 2 5] .ret))⟩
theorem A5n:A6 Tryz.prog Q2=some Ye:=by kernel_rfl
abbrev Q3:Nat:=201
def Yf:Fn1:=⟨6,[.t 2],(rg [o 2 (.mov (.k s0))] (rg [oM 3 0,o 4 (.lit 1 3 [s0,s0,s0] [(0,1,(.k (.str ⟨#[120]⟩))),(1,1,(.k (.str ⟨#[121]⟩))),(2,1,(.k (.str ⟨#[122,111,111]⟩)))]),oD 5 295 3 4,oM 2 5] .ret))⟩
theorem A5o:A6 Tryz.prog Q3=some Yf:=by kernel_rfl
abbrev N9:Nat:=269
def Vd:Fn1:=⟨30,[.c 2 true 5],(rg [o 2 (.new [z0,s0,s0,z0,z0])] (rg [oM 4 0,o 5 (.lit 1 9 [z0,z0,z0,z0,z0,z0,z0,z0,z0] [(0,1,(ki 1)),(1,1,(ki 2)),(2,1,(ki 3)),(3,1,(ki 4)),(4,1,(ki 5)),(5,1,(ki 6)),(6,1,(ki 6)),(7,1,(ki 6)),(8,1,(ki 7))]),oD 6 331 4 5,oM 7 0,oC 8 293 7,o 9 (.build [z0,s0,s0,z0,z0] [(0,1,(.t 6)),(1,1,(.t 8))]),o 3 (.new [z0,s0,s0,z0,z0]),oS 5 3 9] (.seq (rg [oF 10 0 3,oL 11 10,oC 12 332 11] (cn 12 (.reg [oM 13 0,oC 14 201 13,oF 15 2 3,oS 1 15 14]) .skip)) (.seq (rg [oF 16 0 3,oL 17 16,oC 18 333 17] (cn 18 (.reg [oM 19 0,o 20 (.lit 1 4 [z0,z0,z0,z0] [(0,1,(ki 0)),(1,1,(ki 1)),(2,1,(ki 7)),(3,1,(ki 999999))]),oD 21 331 19 20,oF 22 3 3,oS 1 22 21]) .skip)) (.seq (rg [oF 23 0 3,oL 24 23,oE 25 .geq 24 6] (cn 25 (.reg [oM 26 0,o 27 (.call 163 [(.t 26),(ki 3)]),oF 28 4 3,oS 1 28 27]) .skip)) (rg [oW 29 5 3,oS 5 2 29] .ret))))))⟩
theorem A2w:A6 Tryz.prog N9=some Vd:=by kernel_rfl
section
variable {P:Program} {D:Bool} {σ0 σ τ τ':St} {h:List Item} {k:Kx} {f:Nat} {args:List GV} {v:GV}
theorem by_k (R:Ret P f args τ v τ') (H:Hx σ τ' h) (kk:k v h τ'):Zs P σ false τ f args k:=by_m R H kk
theorem Db:∀ {h:List Item} {n:Nat},frX σ0 h n->σ0.length<=n
 |[],_,h=>h
 | .box _ _ _::h,_,hf=>Db (h:=h) hf.2
 | .th _::h,_,hf=>Db (h:=h) hf
theorem Hx.tl {x:Item} (H:Hx σ τ (x::h)):Hx σ τ h:=Hp.drop1 H
end
structure Dr (σ0:St) (v:GV) (bs:List Int):Prop where
 hv:RS pB.kd σ0 v bs
 hl:bs.length<=1099511627776
abbrev cuI (c v:GV) (bs:List Int):Item:=.th (crs c v bs.length)
section
variable {σ0 σ:St} {h:List Item} {c v:GV} {bs:List Int}
theorem Fd (H:Hx σ0 σ h) (k:Nat) (hk:h[k]? =some (cuI c v bs)) (D:Dr σ0 v bs) (n:Int) (hn:0<n) (hn2:n<=4611686018427387904):∃(x:Nat) (τ:St),(x:Int)<n/\Ret Tryz.prog I6 [c,gi n] σ (gi x) τ/\Hx σ0 τ h:=by
 obtain⟨r,τ,R,x,rfl,h1,_,h2,H'⟩:=Mc (σ0:=σ0) H (at_t hk) D.hv D.hl n hn2
 obtain⟨y,rfl⟩:∃ y:Nat,x=y:=⟨x.toNat,by omega⟩
 exact⟨y,τ,h2 hn,R,H'⟩
theorem Abc (H:Hx σ0 σ h) (k:Nat) (hk:h[k]? =some (cuI c v bs)) (D:Dr σ0 v bs) (n:Int) (hn2:n<=4611686018427387904):∃(x:Nat) (τ:St),(0<n->(x:Int)<n)/\Ret Tryz.prog I6 [c,gi n] σ (gi x) τ/\Hx σ0 τ h:=by
 obtain⟨r,τ,R,x,rfl,h1,_,h2,H'⟩:=Mc (σ0:=σ0) H (at_t hk) D.hv D.hl n hn2
 obtain⟨y,rfl⟩:∃ y:Nat,x=y:=⟨x.toNat,by omega⟩
 exact⟨y,τ,h2,R,H'⟩
theorem A08 (H:Hx σ0 σ h) (k:Nat) (hk:h[k]? =some (cuI c v bs)) (D:Dr σ0 v bs) (n:Int) (hn2:n<=4611686018427387904):∃(b:Bool) (τ:St),Ret Tryz.prog N7 [c,gi n] σ (.bool b) τ/\Hx σ0 τ h:=by
 have key:∃ w τ,Ret Tryz.prog N7 [c,gi n] σ w τ/\∃ b,w= .bool b/\Hx σ0 τ h:=by
  refine Fi A2u (Z0z rfl) H ?_
  simp +contextual (disch:=omega) only[go_sem,Va]
  obtain⟨x,τ1,hx,R1,H1⟩:=Abc H k hk D n hn2
  refine by_k R1 H1 ?_
  simp +contextual (disch:=omega) only[go_sem]
  exact fun _=>⟨_,rfl,_,rfl⟩
 obtain⟨w,τ,R,b,rfl,H'⟩:=key
 exact⟨b,τ,R,H'⟩
theorem Or (H:Hx σ0 σ h) (k:Nat) (hk:h[k]? =some (cuI c v bs)) (D:Dr σ0 v bs) {u:GV} {l:List ByteArray} (hu:∀ τ',Hx σ0 τ' h->RS pS.kd τ' u l) (hl:0<l.length) (hl2:l.length<=1000):∃(s:ByteArray) (τ:St),s∈l/\Ret Tryz.prog N8 [c,u] σ (.str s) τ/\Hx σ0 τ h:=by
 have key:∃ w τ,Ret Tryz.prog N8 [c,u] σ w τ/\∃ s,w= .str s/\s∈l/\Hx σ0 τ h:=by
  refine Fi A2v (Z0z rfl) H ?_
  have hn:=(hu σ H).len
  simp +contextual (disch:=omega) only[go_sem,Vb,hn]
  obtain⟨x,τ1,hx,R1,H1⟩:=Fd H k hk D l.length (by omega) (by omega)
  refine by_k R1 H1 ?_
  have L:=A14 (hu τ1 H1) (i:=x) (by omega)
  have L2:=Dz H1 L.2
  simp +contextual (disch:=omega) only[go_sem,A3,L.1,L2]
  exact fun _=>⟨_,rfl,_,rfl,Zae _⟩
 obtain⟨w,τ,R,s,rfl,hs,H'⟩:=key
 exact⟨s,τ,hs,R,H'⟩
theorem Dd (H:Hx σ0 σ h) (k:Nat) (hk:h[k]? =some (cuI c v bs)) (D:Dr σ0 v bs) {u:GV} {l:List Int} (hu:∀ τ',Hx σ0 τ' h->RS pI.kd τ' u l) (hl:0<l.length) (hl2:l.length<=1000):∃(s:Int) (τ:St),s∈l/\Ret Tryz.prog If [c,u] σ (gi s) τ/\Hx σ0 τ h:=by
 have key:∃ w τ,Ret Tryz.prog If [c,u] σ w τ/\∃ s,w=gi s/\s∈l/\Hx σ0 τ h:=by
  refine Fi Vc (Z0z rfl) H ?_
  have hn:=(hu σ H).len
  simp +contextual (disch:=omega) only[go_sem,Md,hn]
  obtain⟨x,τ1,hx,R1,H1⟩:=Fd H k hk D l.length (by omega) (by omega)
  refine by_k R1 H1 ?_
  have L:=E6 (hu τ1 H1) (i:=x) (by omega)
  have L2:=Dz H1 L.2
  simp +contextual (disch:=omega) only[go_sem,A3,L.1,L2]
  exact fun _=>⟨_,rfl,_,rfl,Zae _⟩
 obtain⟨w,τ,R,s,rfl,hs,H'⟩:=key
 exact⟨s,τ,hs,R,H'⟩
theorem litS {n:Nat} {l:List ByteArray} {cs:List GV} (e:cs=pS.cells l) (hl:0<l.length):∀ τ,Hx σ0 τ (.box 1 n cs::h)->RS pS.kd τ (.sl n 0 l.length) l:=fun τ H=>(Hp.toRow (p:=pS) H.hp 0 (by rw[e];rfl) l rfl rfl _ rfl).sl 0 rfl
theorem litI {n:Nat} {l:List Int} {cs:List GV} (e:cs=pI.cells l) (hl:0<l.length):∀ τ,Hx σ0 τ (.box 1 n cs::h)->RS pI.kd τ (.sl n 0 l.length) l:=fun τ H=>(Hp.toRow (p:=pI) H.hp 0 (by rw[e];rfl) l rfl rfl _ rfl).sl 0 rfl
def Q4:List ByteArray:=[⟨#[97]⟩,⟨#[98]⟩,⟨#[116,97,108,108,121]⟩]
def A7z:List ByteArray:=[⟨#[120]⟩,⟨#[121]⟩,⟨#[122,111,111]⟩]
theorem A2x (H:Hx σ0 σ h) (k:Nat) (hk:h[k]? =some (cuI c v bs)) (D:Dr σ0 v bs):∃(s:ByteArray) (τ:St),s∈Q4/\Ret Tryz.prog Q2 [c] σ (.str s) τ/\Hx σ0 τ h:=by
 have key:∃ w τ,Ret Tryz.prog Q2 [c] σ w τ/\∃ s,w= .str s/\s∈Q4/\Hx σ0 τ h:=by
  refine Fi A5n (Z0z rfl) H ?_
  simp +contextual (disch:=omega) only[go_sem,Ye]
  intro n1 f1 τ1 H1
  have g1:=Db (by first|exact f1|exact f1.2|exact f1.2.2|exact f1.2.2.2:frX σ0 h n1)
  obtain⟨s,τ2,hs,R2,H2⟩:=Or H1 (k+1) hk D (litS (l:=Q4) rfl (by decide)) (by decide) (by decide)
  refine by_k R2 H2 ?_
  simp +contextual (disch:=omega) only[go_sem]
  exact fun _=>⟨_,rfl,_,rfl,hs,H2.tl⟩
 obtain⟨w,τ,R,s,rfl,hs,H'⟩:=key
 exact⟨s,τ,hs,R,H'⟩
theorem I8 (H:Hx σ0 σ h) (k:Nat) (hk:h[k]? =some (cuI c v bs)) (D:Dr σ0 v bs):∃(s:ByteArray) (τ:St),s∈A7z/\Ret Tryz.prog Q3 [c] σ (.str s) τ/\Hx σ0 τ h:=by
 have key:∃ w τ,Ret Tryz.prog Q3 [c] σ w τ/\∃ s,w= .str s/\s∈A7z/\Hx σ0 τ h:=by
  refine Fi A5o (Z0z rfl) H ?_
  simp +contextual (disch:=omega) only[go_sem,Yf]
  intro n1 f1 τ1 H1
  have g1:=Db (by first|exact f1|exact f1.2|exact f1.2.2|exact f1.2.2.2:frX σ0 h n1)
  obtain⟨s,τ2,hs,R2,H2⟩:=Or H1 (k+1) hk D (litS (l:=A7z) rfl (by decide)) (by decide) (by decide)
  refine by_k R2 H2 ?_
  simp +contextual (disch:=omega) only[go_sem]
  exact fun _=>⟨_,rfl,_,rfl,hs,H2.tl⟩
 obtain⟨w,τ,R,s,rfl,hs,H'⟩:=key
 exact⟨s,τ,hs,R,H'⟩
structure EdD (e:Edit):Prop where
 kind:1<=e.kind/\e.kind<=7
 obj:e.obj∈Q4
 key:if Wg e.kind then e.key∈A7z else e.key=noS
 val:e.val=0∨(O0 e.kind=true/\e.val∈[0,1,7,999999])
 place:0<=e.place/\e.place<=2/\(e.kind<6->e.place=0)
theorem A5p {s:ByteArray} (h:s∈Q4):Cc s=true/\s.size<=5:=by
 simp only[Q4,Zav,Zap,or_false] at h
 rcases h with rfl|rfl|rfl<;>decide
theorem A9y {s:ByteArray} (h:s∈A7z):Cc s=true/\s.size<=3:=by
 simp only[A7z,Zav,Zap,or_false] at h
 rcases h with rfl|rfl|rfl<;>decide
theorem EdD.size {e:Edit} (h:EdD e):e.obj.size<=5/\e.key.size<=3:=by
 refine⟨(A5p h.obj).2,?_⟩
 have:=h.key
 split at this
 ·exact(A9y this).2
 ·rw[this];decide
theorem EdD.ok {e:Edit} (h:EdD e):I3 e=true:=by
 have h1:inB e.kind 1 7=true:=Br.2 h.kind
 have h2:Cc e.obj=true:=(A5p h.obj).1
 have h3:(if Wg e.kind then Cc e.key else decide (e.key=noS))=true:=by
  have:=h.key
  split at this
  ·rename_i hk;rw[if_pos hk];exact(A9y this).1
  ·rename_i hk;rw[if_neg hk];simp[this]
 have h4:Ky e.kind e.val=true:=by
  unfold Ky
  rcases h.val with h|⟨hv,h⟩
  ·simp[h]
  ·have:inB e.val 0 999999=true:=by
    simp only[Zav,Zap,or_false] at h
    rcases h with h|h|h|h<;>rw[h]<;>decide
   simp[hv,this]
 have h5:decide (0<=e.place)=true:=decide_eq_true h.place.1
 have h6:((e.kind==6||e.kind==7)||e.place==0)=true:=by
  by_cases hk:e.kind<6
  ·simp[h.place.2.2 hk]
  ·have:=h.kind
   have:e.kind=6∨e.kind=7:=by omega
   rcases this with h|h<;>simp[h]
 unfold I3 Bd
 rw[h1,h2,h3,h4,h5,h6];rfl
theorem Ot (H:Hx σ0 σ h) (k:Nat) (hk:h[k]? =some (cuI c v bs)) (D:Dr σ0 v bs):∃(e:Edit) (τ:St),EdD e/\Ret Tryz.prog N9 [c] σ (.agg (edV e)) τ/\Hx σ0 τ h:=by
 have key:∃ w τ,Ret Tryz.prog N9 [c] σ w τ/\∃ e:Edit,w= .agg (edV e)/\EdD e/\Hx σ0 τ h:=by
  refine Fi A2w (Z0z rfl) H ?_
  simp +contextual (disch:=omega) only[go_sem,Vd]
  intro n1 f1 τ1 H1 n2 f2 τ2 H2
  have g1:=Db (by first|exact f1|exact f1.2|exact f1.2.2|exact f1.2.2.2:frX σ0 h n1)
  have g2:=Db (by first|exact f2|exact f2.2|exact f2.2.2|exact f2.2.2.2:frX σ0 h n2)
  obtain⟨kd,τ3,hkd,R3,H3⟩:=Dd H2 (k+2) hk D (litI (l:=[1,2,3,4,5,6,6,6,7]) rfl (by decide)) (by decide) (by decide)
  have hkd:1<=kd/\kd<=7:=by
   simp only[Zav,Zap,or_false] at hkd
   omega
  refine by_k R3 H3 ?_
  simp +contextual (disch:=omega) only[go_sem]
  obtain⟨ob,τ4,hob,R4,H4⟩:=A2x H3 (k+2) hk D
  refine by_k R4 H4 ?_
  simp +contextual (disch:=omega) only[go_sem]
  intro n5 f5 τ5 H5 τ6 H6
  have g5:=Db (by first|exact f5|exact f5.2|exact f5.2.2|exact f5.2.2.2:frX σ0 h n5)
  refine by_r H6 (Ja _ kd) ?_
  cases hk1:Wg kd with
  |true=>
   cases hv1:O0 kd with
   |true=>
    cases hp1:decide (6<=kd) with
    |true=>
     simp +contextual (disch:=omega) only[go_sem,hk1,hv1,hp1]
     obtain⟨ky,τ7,hky,R7,H7⟩:=I8 H6 (k+3) hk D
     refine by_k R7 H7 ?_
     simp +contextual (disch:=omega) only[go_sem,hk1,hv1,hp1]
     intro τ8 H8
     refine by_r H8 (C5 _ kd) ?_
     simp +contextual (disch:=omega) only[go_sem,hk1,hv1,hp1]
     intro n9 f9 τ9 H9
     have g9:=Db (by first|exact f9|exact f9.2|exact f9.2.2|exact f9.2.2.2:frX σ0 h n9)
     obtain⟨vl,τ10,hvl,R10,H10⟩:=Dd H9 (k+4) hk D (litI (l:=[0,1,7,999999]) rfl (by decide)) (by decide) (by decide)
     refine by_k R10 H10 ?_
     simp +contextual (disch:=omega) only[go_sem,hk1,hv1,hp1]
     intro τ11 H11
     try simp +contextual (disch:=omega) only[go_sem,hk1,hv1,hp1]
     obtain⟨pl,τ12,hpl,R12,H12⟩:=Fd H11 (k+4) hk D 3 (by decide) (by decide)
     refine by_k R12 H12 ?_
     simp +contextual (disch:=omega) only[go_sem,hk1,hv1,hp1]
     intro τ13 H13
     intro τ14 H14
     exact⟨_,rfl,⟨kd,ob,ky,vl,pl⟩,rfl,⟨hkd,hob,by simp only[hk1];exact hky,.inr ⟨hv1,hvl⟩,by simp only[decide_eq_true_eq,decide_eq_false_iff_not] at hp1;refine⟨by simp,by simp;try omega,fun h=> ?_⟩;simp only at h;first|rfl|omega⟩,H14.tl.tl.tl.tl⟩
    |false=>
     simp +contextual (disch:=omega) only[go_sem,hk1,hv1,hp1]
     obtain⟨ky,τ7,hky,R7,H7⟩:=I8 H6 (k+3) hk D
     refine by_k R7 H7 ?_
     simp +contextual (disch:=omega) only[go_sem,hk1,hv1,hp1]
     intro τ8 H8
     refine by_r H8 (C5 _ kd) ?_
     simp +contextual (disch:=omega) only[go_sem,hk1,hv1,hp1]
     intro n9 f9 τ9 H9
     have g9:=Db (by first|exact f9|exact f9.2|exact f9.2.2|exact f9.2.2.2:frX σ0 h n9)
     obtain⟨vl,τ10,hvl,R10,H10⟩:=Dd H9 (k+4) hk D (litI (l:=[0,1,7,999999]) rfl (by decide)) (by decide) (by decide)
     refine by_k R10 H10 ?_
     simp +contextual (disch:=omega) only[go_sem,hk1,hv1,hp1]
     intro τ11 H11
     try simp +contextual (disch:=omega) only[go_sem,hk1,hv1,hp1]
     intro τ14 H14
     exact⟨_,rfl,⟨kd,ob,ky,vl,0⟩,rfl,⟨hkd,hob,by simp only[hk1];exact hky,.inr ⟨hv1,hvl⟩,by simp only[decide_eq_true_eq,decide_eq_false_iff_not] at hp1;refine⟨by simp,by simp;try omega,fun h=> ?_⟩;simp only at h;first|rfl|omega⟩,H14.tl.tl.tl.tl⟩
   |false=>
    cases hp1:decide (6<=kd) with
    |true=>
     simp +contextual (disch:=omega) only[go_sem,hk1,hv1,hp1]
     obtain⟨ky,τ7,hky,R7,H7⟩:=I8 H6 (k+3) hk D
     refine by_k R7 H7 ?_
     simp +contextual (disch:=omega) only[go_sem,hk1,hv1,hp1]
     intro τ8 H8
     refine by_r H8 (C5 _ kd) ?_
     simp +contextual (disch:=omega) only[go_sem,hk1,hv1,hp1]
     obtain⟨pl,τ12,hpl,R12,H12⟩:=Fd H8 (k+3) hk D 3 (by decide) (by decide)
     refine by_k R12 H12 ?_
     simp +contextual (disch:=omega) only[go_sem,hk1,hv1,hp1]
     intro τ13 H13
     intro τ14 H14
     exact⟨_,rfl,⟨kd,ob,ky,0,pl⟩,rfl,⟨hkd,hob,by simp only[hk1];exact hky,.inl rfl,by simp only[decide_eq_true_eq,decide_eq_false_iff_not] at hp1;refine⟨by simp,by simp;try omega,fun h=> ?_⟩;simp only at h;first|rfl|omega⟩,H14.tl.tl.tl⟩
    |false=>
     simp +contextual (disch:=omega) only[go_sem,hk1,hv1,hp1]
     obtain⟨ky,τ7,hky,R7,H7⟩:=I8 H6 (k+3) hk D
     refine by_k R7 H7 ?_
     simp +contextual (disch:=omega) only[go_sem,hk1,hv1,hp1]
     intro τ8 H8
     refine by_r H8 (C5 _ kd) ?_
     simp +contextual (disch:=omega) only[go_sem,hk1,hv1,hp1]
     intro τ14 H14
     exact⟨_,rfl,⟨kd,ob,ky,0,0⟩,rfl,⟨hkd,hob,by simp only[hk1];exact hky,.inl rfl,by simp only[decide_eq_true_eq,decide_eq_false_iff_not] at hp1;refine⟨by simp,by simp;try omega,fun h=> ?_⟩;simp only at h;first|rfl|omega⟩,H14.tl.tl.tl⟩
  |false=>
   cases hv1:O0 kd with
   |true=>
    cases hp1:decide (6<=kd) with
    |true=>
     simp +contextual (disch:=omega) only[go_sem,hk1,hv1,hp1]
     refine by_r H6 (C5 _ kd) ?_
     simp +contextual (disch:=omega) only[go_sem,hk1,hv1,hp1]
     intro n9 f9 τ9 H9
     have g9:=Db (by first|exact f9|exact f9.2|exact f9.2.2|exact f9.2.2.2:frX σ0 h n9)
     obtain⟨vl,τ10,hvl,R10,H10⟩:=Dd H9 (k+4) hk D (litI (l:=[0,1,7,999999]) rfl (by decide)) (by decide) (by decide)
     refine by_k R10 H10 ?_
     simp +contextual (disch:=omega) only[go_sem,hk1,hv1,hp1]
     intro τ11 H11
     try simp +contextual (disch:=omega) only[go_sem,hk1,hv1,hp1]
     obtain⟨pl,τ12,hpl,R12,H12⟩:=Fd H11 (k+4) hk D 3 (by decide) (by decide)
     refine by_k R12 H12 ?_
     simp +contextual (disch:=omega) only[go_sem,hk1,hv1,hp1]
     intro τ13 H13
     intro τ14 H14
     exact⟨_,rfl,⟨kd,ob,noS,vl,pl⟩,rfl,⟨hkd,hob,by simp only[hk1];simp,.inr ⟨hv1,hvl⟩,by simp only[decide_eq_true_eq,decide_eq_false_iff_not] at hp1;refine⟨by simp,by simp;try omega,fun h=> ?_⟩;simp only at h;first|rfl|omega⟩,H14.tl.tl.tl.tl⟩
    |false=>
     simp +contextual (disch:=omega) only[go_sem,hk1,hv1,hp1]
     refine by_r H6 (C5 _ kd) ?_
     simp +contextual (disch:=omega) only[go_sem,hk1,hv1,hp1]
     intro n9 f9 τ9 H9
     have g9:=Db (by first|exact f9|exact f9.2|exact f9.2.2|exact f9.2.2.2:frX σ0 h n9)
     obtain⟨vl,τ10,hvl,R10,H10⟩:=Dd H9 (k+4) hk D (litI (l:=[0,1,7,999999]) rfl (by decide)) (by decide) (by decide)
     refine by_k R10 H10 ?_
     simp +contextual (disch:=omega) only[go_sem,hk1,hv1,hp1]
     intro τ11 H11
     try simp +contextual (disch:=omega) only[go_sem,hk1,hv1,hp1]
     intro τ14 H14
     exact⟨_,rfl,⟨kd,ob,noS,vl,0⟩,rfl,⟨hkd,hob,by simp only[hk1];simp,.inr ⟨hv1,hvl⟩,by simp only[decide_eq_true_eq,decide_eq_false_iff_not] at hp1;refine⟨by simp,by simp;try omega,fun h=> ?_⟩;simp only at h;first|rfl|omega⟩,H14.tl.tl.tl.tl⟩
   |false=>
    cases hp1:decide (6<=kd) with
    |true=>
     simp +contextual (disch:=omega) only[go_sem,hk1,hv1,hp1]
     refine by_r H6 (C5 _ kd) ?_
     simp +contextual (disch:=omega) only[go_sem,hk1,hv1,hp1]
     obtain⟨pl,τ12,hpl,R12,H12⟩:=Fd H6 (k+3) hk D 3 (by decide) (by decide)
     refine by_k R12 H12 ?_
     simp +contextual (disch:=omega) only[go_sem,hk1,hv1,hp1]
     intro τ13 H13
     intro τ14 H14
     exact⟨_,rfl,⟨kd,ob,noS,0,pl⟩,rfl,⟨hkd,hob,by simp only[hk1];simp,.inl rfl,by simp only[decide_eq_true_eq,decide_eq_false_iff_not] at hp1;refine⟨by simp,by simp;try omega,fun h=> ?_⟩;simp only at h;first|rfl|omega⟩,H14.tl.tl.tl⟩
    |false=>
     simp +contextual (disch:=omega) only[go_sem,hk1,hv1,hp1]
     refine by_r H6 (C5 _ kd) ?_
     simp +contextual (disch:=omega) only[go_sem,hk1,hv1,hp1]
     intro τ14 H14
     exact⟨_,rfl,⟨kd,ob,noS,0,0⟩,rfl,⟨hkd,hob,by simp only[hk1];simp,.inl rfl,by simp only[decide_eq_true_eq,decide_eq_false_iff_not] at hp1;refine⟨by simp,by simp;try omega,fun h=> ?_⟩;simp only at h;first|rfl|omega⟩,H14.tl.tl.tl⟩
 obtain⟨w,τ,R,e,rfl,he,H'⟩:=key
 exact⟨e,τ,he,R,H'⟩
end
abbrev Yg:Nat:=277
def Yh:Fn1:=⟨27,[.t 2],(rg [oX 1 0,oV 2 (ki 0)] (rg [oV 3 (ki 0)] (.seq (rg [oV 4 (ki 0)] (.blk 0 (.lop (.seq (rg [oM 5 4,oF 6 3 1,oL 7 6,oN 8 7,oB 9 .lss 5 8] (cn 9 .skip (.ext 0))) (.seq (.blk 1 (rg [oF 12 3 1,oL 13 12,oM 14 4,oI 15 8 13 14,oF 16 3 15,oL 17 16,oM 18 3,oB 19 .gtr 17 18] (cn 19 (.reg [oF 20 3 1,oL 21 20,oM 22 4,oI 23 8 21 22,oF 24 3 23,oL 25 24,oM 3 25]) .skip))) (.reg [oM 10 4,oZ 11 10 1,oM 4 11])))))) (rg [oM 26 3,oM 2 26] .ret))))⟩
theorem A5q:A6 Tryz.prog Yg=some Yh:=by kernel_rfl
abbrev Lg:Nat:=281
def Ru:Fn1:=⟨43,[.c 6 true 4],(rg [oX 4 1,o 6 (.new [.nilS,.nilS,.nilS,.nilS])] (.seq (rg [oV 7 (ki 0)] (.blk 0 (.lop (.seq (rg [oM 12 7,oM 13 2,oB 14 .lss 12 13] (cn 14 .skip (.ext 0))) (.seq (.blk 1 (rg [oM 17 0,o 18 (.call 163 [(.t 17),(ki 3)]),oM 8 18] (rg [oM 19 0,oC 20 269 19,o 9 (.new [z0,s0,s0,z0,z0]),oS 5 9 20] (dw [oW 30 5 9,o 10 (.new [z0,z0,z0,.nilS,z0,s0,s0,z0,z0,z0])] [oW 22 4 4,oM 23 8,oW 24 4 4,oC 25 277 24,on (.chk 22 (.ld true 4 (.t 4))),on (.chk 30 (.ld true 5 (.t 9))),on (.blc 10 [z0,z0,z0,.nilS,z0,s0,s0,z0,z0,z0]),oZ 26 25 1,oM 27 0,o 28 (.call 163 [(.t 27),(ki 2)]),on (.chk 22 (.ld true 4 (.t 4))),on (.chk 30 (.ld true 5 (.t 9))),on (.blc 10 [z0,z0,z0,.nilS,z0,s0,s0,z0,z0,z0]),oB 29 .add 26 28,o 31 (.call 276 [(.t 22),(.t 23),(.t 29),(.t 30)]),on (.blc 10 [z0,z0,z0,.nilS,z0,s0,s0,z0,z0,z0]),oM 21 31,o 32 (.ext 0 (.t 21)),o 33 (.ext 1 (.t 21)),oS 10 10 32,oM 11 33] (rg [oM 34 11,oE 35 .eql 34 0] (cn 35 (.reg [oW 37 4 4,oW 38 10 10,oD 39 140 37 38,oM 36 39,o 40 (.ext 0 (.t 36)),o 41 (.ext 1 (.t 36)),oS 4 4 40]) .skip)))))) (.reg [oM 15 7,oZ 16 15 1,oM 7 16])))))) (rg [oW 42 4 4,oS 4 6 42] .ret)))⟩
theorem A09:Fs true Tryz.prog Lg=some Ru:=by kernel_rfl
abbrev Lh:Nat:=187
def Rv:Fn1:=⟨9,[.c 2 true 4],(rg [o 2 (.new [.nilS,.nilS,.nilS,.nilS])] (rg [oM 3 0,o 4 (.call 43 []),oM 5 0,o 6 (.call 163 [(.t 5),(ki 9)]),o 7 (.bin .add (ki 2) (.t 6)),o 8 (.call 281 [(.t 3),(.t 4),(.t 7)]),oS 4 2 8] .ret))⟩
theorem A0a:A6 Tryz.prog Lh=some Rv:=by kernel_rfl
def Eo (l:List Cell):Int:=l.foldl (fun n c=>if c.time>n then c.time else n) 0
theorem A2y {l:List Cell} {i:Nat} (hi:i<l.length):Eo (l.take (i+1))=if l[i].time>Eo (l.take i) then l[i].time else Eo (l.take i):=by
 unfold Eo;rw[Av hi,List.foldl_append];rfl
theorem Yi {l:List Cell} (h:∀ c∈l,c.time<=10000):0<=Eo l/\Eo l<=10000:=by
 have key:∀(l:List Cell) (n:Int),0≤n/\n<=10000->(∀ c∈l,c.time<=10000)->0<=l.foldl (fun n c=>if c.time>n then c.time else n) n/\l.foldl (fun n c=>if c.time>n then c.time else n) n<=10000:=by
  intro l
  induction l with
  |nil=>intro n hn _;exact hn
  |cons x l ih=>
   intro n hn hx
   rw[List.foldl_cons]
   refine ih _ ?_ fun c hc=>hx c (Zaf _ hc)
   have:=hx x Zaj
   split<;>omega
 exact key l 0 (by omega) h
theorem Li (σ:St) (cs:List GV) (s:State) (hR:A8.R σ s cs) (hl:Ah s<=1099511627776):Ret Tryz.prog Yg [.agg cs] σ (gi (Eo s.cells)) σ:=by
 obtain⟨v0,v1,v2,v3,rfl,q0,q1,q2,q3⟩:=hR
 have hlc:s.cells.length<=1099511627776:=by unfold Ah at hl;omega
 refine Eu A5q (Z0z rfl) trivial ?_
 simp +contextual (disch:=omega) only[go_sem,Yh]
 intro n1 f1 τ1 H1
 refine Cf s.cells.length 4 0 (fun i env h=>env 1= .ptr n1 0/\env 3=gi (Eo (s.cells.take i))/\h=[.box 1 n1 [v0,v1,v2,v3]]) (fun env h=>env 3=gi (Eo s.cells)) (fun _ _=>False) _ H1 (by simp +contextual (disch:=omega) only[go_sem]) ⟨by simp +contextual (disch:=omega) only[go_sem],by simp +contextual (disch:=omega) only[go_sem];rfl,rfl⟩ ?_ ?_ ?_ (fun _ _ _ _ h=>h.elim)
 ·clear H1
  rintro J Y W hJ hY hW i env h' τ hi ei c0 H ⟨e1,e3,rfl⟩
  have hl3:=q3.len
  have L:=A4 q3 hi
  obtain⟨q,hq⟩:∃ q,q=Eo (s.cells.take i):=⟨_,rfl⟩
  have hsn:=A2y hi
  rw[<- hq] at e3 hsn
  cases hc:decide (q<s.cells[i].time) with
  |true=>
   rw[if_pos (of_decide_eq_true hc)] at hsn
   simp +contextual (disch:=omega) only[go_sem,c0,e1,e3,ei,A3,hl3,L,hc]
   exact hJ _ _ _ _ H ⟨by simp +contextual (disch:=omega) only[go_sem,e1],by simp +contextual (disch:=omega) only[go_sem,hsn],rfl⟩
  |false=>
   rw[if_neg (of_decide_eq_false hc)] at hsn
   simp +contextual (disch:=omega) only[go_sem,c0,e1,e3,ei,A3,hl3,L,hc]
   exact hJ _ _ _ _ H ⟨by simp +contextual (disch:=omega) only[go_sem,e1],by simp +contextual (disch:=omega) only[go_sem,e3,hsn],rfl⟩
 ·clear H1
  rintro Y hY env h' τ ei c0 H ⟨e1,e3,rfl⟩
  have hl3:=q3.len
  simp +contextual (disch:=omega) only[go_sem,c0,e1,ei,hl3]
  exact hY _ _ _ H (by simp +contextual (disch:=omega) only[go_sem,e3,Zad])
 ·rintro env h' τ H e3
  simp +contextual (disch:=omega) only[go_sem,e3]
section
variable {σ0 σ:St} {h:List Item} {c v:GV} {bs:List Int}
theorem Hx.fst {x:Item} (H:Hx σ0 σ h) (i:Nat) (hi:h[i]? =some x):Hx σ0 σ (x::h.eraseIdx i):=by
 have H1:=H.hp.pick i (by rw[Zat,hi];rfl:(h.map Item.t)[i]? =some x.t)
 rw[Zv] at H1
 exact H1
theorem Hx.era (H:Hx σ0 σ h) (i:Nat):Hx σ0 σ (h.eraseIdx i):=by
 cases hi:h[i]? with
 |none=>rw[List.eraseIdx_of_length_le (List.getElem?_eq_none_iff.1 hi)];exact H
 |some x=>exact(H.fst i hi).tl
inductive Grw (s0:State):State->Prop
 |nil:Grw s0 s0
 |act {s:State} (rep dt:Int) (e:Edit):Grw s0 s->0<=rep->rep<=2->0<=dt->dt<=1->EdD e->(Df s rep (Eo s.cells+1+dt) e).2=0->Grw s0 (Cw s (Df s rep (Eo s.cells+1+dt) e).1).1
theorem Grw.ok {s0 s:State} (h:Grw s0 s) (h0:OkS s0):OkS s:=by
 induction h with
 |nil=>exact h0
 |act rep dt e _ _ _ _ _ _ _ ih=>exact Zr _ ih
theorem Wo {cs:List GV} {s:State} (H:Hx σ0 σ (.th (own A8 cs s)::h)) (k:Nat) (hk:h[k]? =some (cuI c v bs)) (D:Dr σ0 v bs) (hs:OkS s) (n:Nat) (hn:n<=1000):
  ∃(ds:List GV) (s':State) (τ:St),Grw s s'/\Ret Tryz.prog Lg [c,.agg cs,gi n] σ (.agg ds) τ/\Hx σ0 τ (.th (own A8 ds s')::h):=by
 have hlen:cs.length=4:=A8.len (H.hp.rd 0 rfl)
 have key:∃ w τ,Ret Tryz.prog Lg [c,.agg cs,gi n] σ w τ/\∃ ds s',w= .agg ds/\Grw s s'/\Hx σ0 τ (.th (own A8 ds s')::h):=by
  refine Fi A09 (Z0z rfl) H ?_
  simp +contextual (disch:=omega) only[go_sem,Ru]
  intro n4 f4 τ4 H4 n6 f6 τ6 H6
  have g4:=Db (h:=h) f4
  have g6:=Db (h:=h) f6.2
  have ne46:=f6.1
  clear H4 f4 f6
  refine Cf n 7 0 (fun i env hh=>env 0=c/\env 2=gi n/\env 4= .ptr n4 0/\env 6= .ptr n6 0/\∃ ds s',Grw s s'/\ds.length=4/\hh= .box 1 n6 z4::.box 1 n4 ds::.th (own A8 ds s')::h) (fun env hh=>env 4= .ptr n4 0/\env 6= .ptr n6 0/\∃ ds s',Grw s s'/\ds.length=4/\hh= .box 1 n6 z4::.box 1 n4 ds::.th (own A8 ds s')::h) (fun _ _=>False) _ H6 (by simp +contextual (disch:=omega) only[go_sem]) ⟨by simp +contextual (disch:=omega) only[go_sem],by simp +contextual (disch:=omega) only[go_sem],by simp +contextual (disch:=omega) only[go_sem],by simp +contextual (disch:=omega) only[go_sem],cs,s,.nil,hlen,rfl⟩ ?_ ?_ ?_ (fun _ _ _ _ h=>h.elim)
  ·clear H6
   rintro J Y W hJ hY hW i env h' τ hi ei c0 H ⟨e0,e2,e4,e6,ds,s',hg,gl,rfl⟩
   have hok:=hg.ok hs
   have hms:=hok.ms
   have htm:=Yi fun c hc=>(hok.time c hc).2
   simp +contextual (disch:=omega) only[go_sem,c0,e0,e2,e4,e6,ei]
   obtain⟨rep,τ1,hrep,R1,H1⟩:=Fd H (k+3) hk D 3 (by decide) (by decide)
   refine by_k R1 H1 ?_
   simp +contextual (disch:=omega) only[go_sem,e0,e2,e4,e6,ei]
   obtain⟨e,τ2,he,R2,H2⟩:=Ot H1 (k+3) hk D
   refine by_k R2 H2 ?_
   simp +contextual (disch:=omega) only[go_sem,e0,e2,e4,e6,ei]
   intro n9 f9 τ3 H3 τ5 H5 n10 f10 τ7 H7
   have g9:=Db (h:=h) f9.2.2
   have g10:=Db (h:=h) f10.2.2.2
   simp +contextual (disch:=omega) only[go_sem,e0,e2,e4,e6,ei,A9 gl]
   refine by_r H7 (Li _ ds s' (H7.hp.rd 4 rfl) (by omega)) ?_
   obtain⟨tm,htm'⟩:∃ tm,tm=Eo s'.cells:=⟨_,rfl⟩
   rw[<- htm'] at htm ⊢
   simp +contextual (disch:=omega) only[go_sem,e0,e2,e4,e6,ei,A9 gl]
   obtain⟨dt,τ8,hdt,R8,H8⟩:=Fd H7 (k+5) hk D 2 (by decide) (by decide)
   refine by_k R8 H8 ?_
   simp +contextual (disch:=omega) only[go_sem,e0,e2,e4,e6,ei,A9 gl,Eb]
   have hsz:=he.size
   have hkn:=A2i s'
   obtain⟨as',τ9,R9,K9⟩:=Un τ8 ds s' (H8.hp.rd 4 rfl) rep (tm+1+dt) e (by omega) (by omega) (by omega) (by have:=he.place;omega) (by omega)
   have al:as'.length=10:=kAct.len (K9.rd 0 rfl)
   refine by_c H8 R9 K9 fun H9=> ?_
   have hma:=Ab3 s' rep (tm+1+dt) e
   have hstep:(Df s' rep (tm+1+dt) e).2=0->Grw s (Cw s' (Df s' rep (tm+1+dt) e).1).1:=fun hz=>by
    rw[htm'] at hz ⊢
    exact .act rep dt e hg (by omega) (by omega) (by omega) (by omega) he hz
   generalize Df s' rep (tm+1+dt) e=A at*
   cases hz:(A.2==0) with
   |false=>
    simp +contextual (disch:=omega) only[go_sem,e0,e2,e4,e6,ei,A9 gl,Ai (cs:=zeV) al rfl,al,hz]
    intro τ11 H11
    have HA:=(((H11.era 0).era 0).era 0)
    exact hJ _ _ _ _ HA ⟨by simp +contextual (disch:=omega) only[go_sem,e0],by simp +contextual (disch:=omega) only[go_sem,e2],by simp +contextual (disch:=omega) only[go_sem,e4],by simp +contextual (disch:=omega) only[go_sem,e6],ds,s',hg,gl,rfl⟩
   |true=>
    simp +contextual (disch:=omega) only[go_sem,e0,e2,e4,e6,ei,A9 gl,Ai (cs:=zeV) al rfl,al,hz,A9 al]
    intro τ11 H11
    obtain⟨ds2,τ12,R12,K12⟩:=Mx τ11 ds s' (H11.hp.rd 5 rfl) as' A.1 (H11.hp.rd 0 rfl) (by omega) (by omega)
    have gl2:ds2.length=4:=A8.len (K12.rd 0 rfl)
    refine by_c H11 R12 K12 fun H12=> ?_
    simp +contextual (disch:=omega) only[go_sem,e0,e2,e4,e6,ei,Ai (cs:=ds) gl2 gl,gl2,gl,hz]
    intro τ13 H13
    have HA:=((((H13.era 6).era 3).era 2).era 1)
    have HB:=(HA.fst 2 rfl).fst 2 rfl
    exact hJ _ _ _ _ HB ⟨by simp +contextual (disch:=omega) only[go_sem,e0],by simp +contextual (disch:=omega) only[go_sem,e2],by simp +contextual (disch:=omega) only[go_sem,e4],by simp +contextual (disch:=omega) only[go_sem,e6],ds2,_,hstep (by simpa using hz),gl2,rfl⟩
  ·clear H6
   rintro Y hY env h' τ ei c0 H ⟨e0,e2,e4,e6,ds,s',hg,gl,rfl⟩
   simp +contextual (disch:=omega) only[go_sem,c0,e2,ei]
   exact hY _ _ _ H ⟨by simp +contextual (disch:=omega) only[go_sem,e4],by simp +contextual (disch:=omega) only[go_sem,e6],ds,s',hg,gl,rfl⟩
  ·rintro env h' τ H ⟨e4,e6,ds,s',hg,gl,rfl⟩
   simp +contextual (disch:=omega) only[go_sem,e4,e6,A9 gl,Ai (cs:=z4) gl rfl,gl]
   intro τ1 H1
   exact⟨_,rfl,ds,s',rfl,hg,(H1.era 1).era 0⟩
 obtain⟨w,τ,R,ds,s',rfl,hg,H'⟩:=key
 exact⟨ds,s',τ,hg,R,H'⟩
theorem Wp (H:Hx σ0 σ h) (k:Nat) (hk:h[k]? =some (cuI c v bs)) (D:Dr σ0 v bs):
  ∃(ds:List GV) (s:State) (τ:St),Grw st0 s/\Ret Tryz.prog Lh [c] σ (.agg ds) τ/\Hx σ0 τ (.th (own A8 ds s)::h):=by
 have key:∃ w τ,Ret Tryz.prog Lh [c] σ w τ/\∃ ds s,w= .agg ds/\Grw st0 s/\Hx σ0 τ (.th (own A8 ds s)::h):=by
  refine Fi A0a (Z0z rfl) H ?_
  simp +contextual (disch:=omega) only[go_sem,Rv]
  intro n2 f2 τ2 H2
  have g2:=Db (h:=h) f2
  obtain⟨cs,τ3,R3,K3⟩:=Ie τ2
  refine by_c H2 R3 K3 fun H3=> ?_
  simp +contextual (disch:=omega) only[go_sem]
  obtain⟨x,τ4,hx,R4,H4⟩:=Fd H3 (k+2) hk D 9 (by decide) (by decide)
  refine by_k R4 H4 ?_
  obtain⟨q,hq⟩:∃ q:Nat,q=2+x:=⟨_,rfl⟩
  have e:(2:Int)+x=(q:Int):=by omega
  simp +contextual (disch:=omega) only[go_sem,e]
  obtain⟨ds,s,τ5,hg,R5,H5⟩:=Wo H4 (k+1) hk D A6o q (by omega)
  have gl:ds.length=4:=A8.len (H5.hp.rd 0 rfl)
  refine by_k R5 H5 ?_
  simp +contextual (disch:=omega) only[go_sem,Ai (cs:=z4) gl rfl,gl,A9 gl]
  intro τ6 H6
  exact⟨_,rfl,ds,s,rfl,hg,H6.era 1⟩
 obtain⟨w,τ,R,ds,s,rfl,hg,H'⟩:=key
 exact⟨ds,s,τ,hg,R,H'⟩
end
abbrev Q5:Nat:=266
def Yj:Fn1:=⟨6,[.c 2 true 8],(rg [o 2 (.new [z0,z0,.nilS,.nilS,.nilS,.nilS,.nilS,.nilS])] (rg [oM 3 0,o 4 (.call 43 []),o 5 (.build [z0,z0,.nilS,.nilS,.nilS,.nilS,.nilS,.nilS] [(0,1,(.t 3)),(2,4,(.t 4))]),oS 8 2 5] .ret))⟩
theorem A5r:A6 Tryz.prog Q5=some Yj:=by kernel_rfl
abbrev Rw:Nat:=204
def Rx:Fn1:=⟨21,[.t 2],(rg [o 2 (.mov (.k .nilS))] (rg [o 5 (.lit 17 0 [] []),oM 3 5] (.seq (rg [oV 4 (ki 0)] (.blk 0 (.lop (.seq (rg [oM 6 4,oM 7 0,oN 8 7,oB 9 .lss 6 8] (cn 9 .skip (.ext 0))) (.seq (.blk 1 (.reg [oM 12 3,oM 13 0,oM 14 4,oI 15 17 13 14,oW 16 17 15,oC 17 99 16,o 18 (.lit 17 1 [(.bool false),z0,z0,z0,.nilS,z0,s0,s0,z0,z0,z0,.nilS,.nilS,.nilS,.nilS,.nilS,.nilS] [(0,17,(.t 17))]),o 19 (.app 17 264 [(.bool false),z0,z0,z0,.nilS,z0,s0,s0,z0,z0,z0,.nilS,.nilS,.nilS,.nilS,.nilS,.nilS] (.t 12) (.t 18)),oM 3 19])) (.reg [oM 10 4,oZ 11 10 1,oM 4 11])))))) (rg [oM 20 3,oM 2 20] .ret))))⟩
theorem A0b:A6 Tryz.prog Rw=some Rx:=by kernel_rfl
abbrev Na:Nat:=327
def Ve:Fn1:=⟨17,[.c 2 true 8],(rg [oX 1 0,o 2 (.new [z0,z0,.nilS,.nilS,.nilS,.nilS,.nilS,.nilS])] (dw [oF 3 0 1,oL 4 3,oF 5 1 1,oL 6 5,oF 7 2 1,oW 8 4 7,oC 9 247 8,oF 10 6 1,oL 11 10,oC 12 204 11,oF 13 7 1,oL 14 13,oC 15 204 14] [o 16 (.build [z0,z0,.nilS,.nilS,.nilS,.nilS,.nilS,.nilS] [(0,1,(.t 4)),(1,1,(.t 6)),(2,4,(.t 9)),(6,1,(.t 12)),(7,1,(.t 15))]),oS 8 2 16] .ret))⟩
theorem A2z:A6 Tryz.prog Na=some Ve:=by kernel_rfl
abbrev Vf:Nat:=378
def Vg:Fn1:=⟨14,[.t 2],(rg [oX 1 0,oV 2 (ki 0)] (.seq (rg [oF 3 0 1,oL 4 3,oU 5 4] (cn 5 (rg [oF 6 1 1,oF 7 2 6,oL 8 7,oM 2 8] .ret) .skip)) (rg [oF 9 11 1,oF 10 5 9,oL 11 10,o 12 (.build [.nilS,.nilS,.nilS,.nilS] [(3,1,(.t 11))]),oC 13 277 12,oM 2 13] .ret)))⟩
theorem A30:A6 Tryz.prog Vf=some Vg:=by kernel_rfl
abbrev logV (l:Log) (s0 s1 s2 s3 u w:GV):List GV:=[gi l.rep,gi l.time,s0,s1,s2,s3,u,w]
theorem Hg {σ:St} {x:Log} {cs:List GV} (h:kLog.R σ x cs):∃ s0 s1 s2 s3 u w,cs=logV x s0 s1 s2 s3 u w/\A8.R σ x.state [s0,s1,s2,s3]/\RS Ab σ u x.units/\RS Ab σ w x.waits:=by
 obtain⟨v2,v3,v4,rfl,h1,h2,h3⟩:=h
 obtain⟨s0,s1,s2,s3,rfl,h1a⟩:=h1
 exact⟨s0,s1,s2,s3,v3,v4,rfl,⟨s0,s1,s2,s3,rfl,h1a⟩,h2,h3⟩
theorem A31 (σ:St) (r:Int):∃ cs τ,Ret Tryz.prog Q5 [gi r] σ (.agg cs) τ/\Hp σ τ [own kLog cs ⟨r,0,st0,[],[]⟩]:=by
 have key:∃ q τ,Ret Tryz.prog Q5 [gi r] σ q τ/\∃ cs,q= .agg cs/\Hp σ τ [own kLog cs ⟨r,0,st0,[],[]⟩]:=by
  refine Fi A5r (Z0z rfl) (Hx.refl σ) ?_
  simp +contextual (disch:=omega) only[go_sem,Yj]
  intro n f τ H
  obtain⟨a,τ1,R1,K1⟩:=Ie τ
  refine by_c H R1 K1 fun H1=> ?_
  obtain⟨s0,s1,s2,s3,rfl,_⟩:=K1.rd 0 rfl
  simp +contextual (disch:=omega) only[go_sem]
  intro τ2 H2
  exact⟨_,rfl,_,rfl,Hp.ownLog (x:=⟨r,0,st0,[],[]⟩) ((((H2.sel [0] (by decide)).nilS (d:=Ab)).nilS (d:=Ab)).sel [2,0,1] (by decide))⟩
 obtain⟨q,τ,R,cs,rfl,h⟩:=key
 exact⟨cs,τ,R,h⟩
theorem Me (σ:St) (v:GV) (l:List Unit_) (h:RS Ab σ v l) (hl:l.length+sumL Bq l<=1048576):∃ w τ,Ret Tryz.prog Rw [v] σ w τ/\Hp σ τ [ow Ab w l]:=by
 refine Fi A0b (Z0z rfl) (Hx.refl σ) ?_
 simp +contextual (disch:=omega) only[go_sem,Rx,h.len]
 intro n1 f1 τ1 H1
 refine Cf l.length 4 0 (fun i env h=>env 0=v/\∃ w,env 3=w/\h=[.th (ow Ab w (l.take i))]) (fun env h=>∃ w,env 3=w/\h=[.th (ow Ab w l)]) (fun _ _=>False) _ (H1.emp Ab rfl) (by simp +contextual (disch:=omega) only[go_sem]) ⟨by simp +contextual (disch:=omega) only[go_sem],_,by simp +contextual (disch:=omega) only[go_sem],rfl⟩ ?_ ?_ ?_ (fun _ _ _ _ h=>h.elim)
 ·clear H1
  rintro J Y W hJ hY hW i env h' τ hi ei c0 H ⟨e0,w,e3,rfl⟩
  obtain⟨kv,d0,d1,d2,d3,d4,d5,U,hU,hA,hD⟩:=On h hi
  have hmu:Bq l[i]<=sumL Bq l:=Hm (f:=Bq) (Zae hi)
  simp +contextual (disch:=omega) only[go_sem,c0,e0,e3,ei,A3,U,h.len]
  obtain⟨q,τ2,R2,K2⟩:=G5 τ _ l[i] (Ab.pre hU H.sub) (by omega)
  have ql:q.length=17:=Ab.len (K2.rd 0 rfl)
  refine by_c H R2 K2 fun H2=> ?_
  simp +contextual (disch:=omega) only[go_sem,Ai (cs:=zeU) ql rfl,ql]
  intro n3 f3 τ3 H3
  refine Mz H3 1 1 rfl rfl L9 (by decide) (by simp only[Za5];omega) fun w' τ4 H4=> ?_
  simp +contextual (disch:=omega) only[go_sem,ei]
  exact hJ _ _ _ _ (H4.re [1] (by decide)) ⟨by simp +contextual (disch:=omega) only[go_sem,e0],w',by simp +contextual (disch:=omega) only[go_sem],by rw[Av hi];rfl⟩
 ·clear H1
  rintro Y hY env h' τ ei c0 H ⟨e0,w,e3,rfl⟩
  simp +contextual (disch:=omega) only[go_sem,c0,e0,ei,h.len]
  exact hY _ _ _ H ⟨w,e3,by rw[Zad]⟩
 ·rintro env h' τ H ⟨w,e3,rfl⟩
  simp +contextual (disch:=omega) only[go_sem,e3]
  exact fun _=>⟨_,rfl,H.hp⟩
theorem Ou (σ:St) (cs:List GV) (l:Log) (hR:kLog.R σ l cs) (hl:A93 l<=1048576):∃ ds τ,Ret Tryz.prog Na [.agg cs] σ (.agg ds) τ/\Hp σ τ [own kLog ds l]:=by
 obtain⟨s0,s1,s2,s3,u,w,rfl,hS,hU,hW⟩:=Hg hR
 have hb:Ah l.state<=1048576/\l.units.length+sumL Bq l.units<=1048576/\l.waits.length+sumL Bq l.waits<=1048576:=by unfold A93 at hl;omega
 have key:∃ q τ,Ret Tryz.prog Na [.agg (logV l s0 s1 s2 s3 u w)] σ q τ/\∃ ds,q= .agg ds/\Hp σ τ [own kLog ds l]:=by
  refine Fi A2z (Z0z rfl) (Hx.refl σ) ?_
  simp +contextual (disch:=omega) only[go_sem,Ve]
  intro n1 f1 τ1 _ n2 f2 τ2 H2
  obtain⟨a,τ3,R3,K3⟩:=Fb τ2 _ l.state (A8.pre hS H2.sub) (by omega)
  refine by_c H2 R3 K3 fun H3=> ?_
  obtain⟨t0,t1,t2,t3,rfl,_⟩:=K3.rd 0 rfl
  simp +contextual (disch:=omega) only[go_sem]
  obtain⟨u2,τ4,R4,K4⟩:=Me τ3 _ l.units (hU.pre H3.sub) hb.2.1
  refine by_c H3 R4 K4 fun H4=> ?_
  have cu:=(K4.sl 0 rfl).cell
  try simp +contextual (disch:=omega) only[go_sem,cu]
  obtain⟨w2,τ5,R5,K5⟩:=Me τ4 _ l.waits (hW.pre H4.sub) hb.2.2
  refine by_c H4 R5 K5 fun H5=> ?_
  have cw:=(K5.sl 0 rfl).cell
  simp +contextual (disch:=omega) only[go_sem,cu,cw]
  intro τ6 H6
  exact⟨_,rfl,_,rfl,Hp.ownLog (x:=l) (H6.sel [2,1,0] (by decide))⟩
 obtain⟨q,τ,R,ds,rfl,h⟩:=key
 exact⟨ds,τ,R,h⟩
def Ed (u:Unit_):Int:=if u.batch then Eo u.delta.cells else u.act.time
theorem Jp (σ:St) (cs:List GV) (x:Unit_) (hR:Ab.R σ x cs) (hl:Bq x<=1073741824):Ret Tryz.prog Vf [.agg cs] σ (gi (Ed x)) σ:=by
 obtain⟨kv,d0,d1,d2,d3,d4,d5,rfl,hA,hD⟩:=G4 hR
 refine Eu A30 (Z0z rfl) trivial ?_
 simp +contextual (disch:=omega) only[go_sem,Vg]
 intro n1 f1 τ1 H1
 cases hb:x.batch with
 |false=>simp +contextual (disch:=omega) only[go_sem,hb,Ed]
 |true=>
  obtain⟨_,_,_,_,_,v5,e,_,_,_,_,_,q⟩:=hD
  injection e with e0 e;injection e with e1 e;injection e with e2 e;injection e with e3 e;injection e with e4 e;injection e with e5 _
  subst e0 e1 e2 e3 e4 e5
  have cq:=q.cell
  simp +contextual (disch:=omega) only[go_sem,hb,cq]
  refine by_r H1 (Li τ1 [.nilS,.nilS,.nilS,d5] ⟨[],[],[],x.delta.cells⟩ ⟨_,_,_,_,rfl,.inl ⟨rfl,.inl rfl⟩,.inl ⟨rfl,.inl rfl⟩,.inl ⟨rfl,.inl rfl⟩,q.pre H1.sub⟩ (by unfold Bq C9 at hl;unfold Ah;simp only[sumL,List.map_nil,List.sum_nil,Zay] at *;omega)) ?_
  simp +contextual (disch:=omega) only[go_sem,hb,Ed,if_true]
abbrev A32:Nat:=328
def A33:Fn1:=⟨95,[.t 2],(rg [oX 1 0,oV 2 kf] (.seq (dw [oF 8 0 1,oL 9 8,o 10 (.call 122 [(.t 9),(ki 0),(ki 2)]),oU 11 10,oM 12 11,vF 13 12 1 1,vL 14 12 13,og 15 12 false (.call 122 [(.t 14),(ki 0),(ki 10000)]),vU 16 12 15,oP 17 12 16,oM 18 17,vF 19 18 6 1,vL 20 18 19,og 21 18 false (.len false (.t 20)),vE 22 18 .gtr 21 60,oP 23 18 22,oM 24 23,vF 25 24 7 1,vL 26 24 25,og 27 24 false (.len false (.t 26)),vE 28 24 .gtr 27 6,oP 29 24 28,oM 30 29,vF 31 30 2 1,vW 32 30 4 31,vC 33 30 277 32,vF 34 30 1 1,vL 35 30 34] [vB 36 30 .gtr 33 35,oP 37 30 36] (cn 37 (rg [oV 2 kf] .ret) .skip)) (.seq (rg [oV 3 (ki 0)] (.blk 0 (.lop (.seq (rg [oM 38 3,oF 39 7 1,oL 40 39,oN 41 40,oB 42 .lss 38 41] (cn 42 .skip (.ext 0))) (.seq (.blk 1 (rg [oF 45 7 1,oL 46 45,oM 47 3,oI 48 17 46 47,oW 49 17 48,oC 50 97 49,oU 51 50] (cn 51 (rg [oV 2 kf] .ret) .skip))) (.reg [oM 43 3,oZ 44 43 1,oM 3 44])))))) (rg [o 52 (.call 43 []),o 4 (.new [.nilS,.nilS,.nilS,.nilS]),oS 4 4 52] (.seq (rg [oV 5 (ki 0)] (.blk 2 (.lop (.seq (rg [oM 53 5,oF 54 6 1,oL 55 54,oN 56 55,oB 57 .lss 53 56] (cn 57 .skip (.ext 2))) (.seq (.blk 3 (.seq (dw [oF 60 6 1,oL 61 60,oM 62 5,oI 63 17 61 62,oW 64 17 63,oC 65 97 64,oU 66 65,oM 67 66,vF 68 67 6 1,vL 69 67 68,vM 70 67 5,vI 71 67 17 69 70,vW 72 67 17 71,vC 73 67 378 72,vF 74 67 1 1,vL 75 67 74] [vB 76 67 .gtr 73 75,oP 77 67 76] (cn 77 (rg [oV 2 kf] .ret) .skip)) (dw [oW 79 4 4,oF 80 6 1,oL 81 80,oM 82 5,oI 83 17 81 82,oW 84 17 83,oD 85 44 79 84,oM 78 85,o 86 (.ext 0 (.t 78)),o 87 (.ext 1 (.t 78)),o 6 (.new [.nilS,.nilS,.nilS,.nilS])] [oS 4 6 86,oM 7 87] (.seq (rg [oM 88 7,oE 89 .neq 88 0] (cn 89 (rg [oV 2 kf] .ret) .skip)) (.reg [oW 90 4 6,oS 4 4 90]))))) (.reg [oM 58 5,oZ 59 58 1,oM 5 59])))))) (rg [oW 91 4 4,oF 92 2 1,oW 93 4 92,oD 94 47 91 93,oM 2 94] .ret))))))⟩
theorem A80:A6 Tryz.prog A32=some A33:=by kernel_rfl
theorem Vh (σ:St) (cs:List GV) (l:Log) (hR:kLog.R σ l cs) (hG:LogG l):∃ q τ,Ret Tryz.prog A32 [.agg cs] σ q τ/\∃ b,q= .bool b/\Hp σ τ []/\(b=true->l.time<=10000):=by
 obtain⟨s0,s1,s2,s3,u,w,rfl,hS,hU,hW⟩:=Hg hR
 have hst:=hG.st.ms
 have hrp:inB l.rep 0 2=true:=Br.2 hG.rp
 have hnu:=hG.nu
 have hnw:=hG.nw
 have b1:decide (60<(l.units.length:Int))=false:=by simp;omega
 have b2:decide (6<(l.waits.length:Int))=false:=by simp;omega
 refine Fi A80 (Z0z rfl) (Hx.refl σ) ?_
 simp +contextual (disch:=omega) only[go_sem,A33]
 intro n1 f1 τ1 H1
 refine by_r H1 (As _ _ _ _) ?_
 simp +contextual (disch:=omega) only[go_sem,hrp]
 refine by_r H1 (As _ _ _ _) ?_
 cases htm:inB l.time 0 10000 with
 |false=>
  simp +contextual (disch:=omega) only[go_sem,htm]
  exact fun _=>⟨_,rfl,false,rfl,(H1.re [] (by decide)).hp,fun h=>by cases h⟩
 |true=>
  have htm2:=(Br.1 htm).2
  simp +contextual (disch:=omega) only[go_sem,htm,hU.len,hW.len,b1,b2]
  refine by_r H1 (Li τ1 _ l.state (A8.pre hS H1.sub) (by omega)) ?_
  cases hti:decide (l.time<Eo l.state.cells) with
  |true=>
   simp +contextual (disch:=omega) only[go_sem,hti]
   exact fun _=>⟨_,rfl,false,rfl,(H1.re [] (by decide)).hp,fun h=>by cases h⟩
  |false=>
   simp +contextual (disch:=omega) only[go_sem,hti]
   refine Cf l.waits.length 3 0 (fun i env h=>env 1= .ptr n1 0/\h=[.box 1 n1 (logV l s0 s1 s2 s3 u w)]) (fun env h=>env 1= .ptr n1 0/\h=[.box 1 n1 (logV l s0 s1 s2 s3 u w)]) (fun _ _=>False) _ H1 (by simp +contextual (disch:=omega) only[go_sem]) ⟨by simp +contextual (disch:=omega) only[go_sem],rfl⟩ ?_ ?_ ?_ (fun _ _ _ _ h=>h.elim)
   ·rintro J Y W hJ hY hW' i env h' τ hi ei c0 H ⟨e1,rfl⟩
    obtain⟨kv,d0,d1,d2,d3,d4,d5,U,hUn,_,_⟩:=On hW hi
    have hok:=hG.wa l.waits[i] (Zae hi)
    simp +contextual (disch:=omega) only[go_sem,c0,e1,ei,hW.len,A3,U]
    refine by_r H (Jn _ _ l.waits[i] (Ab.pre hUn H.sub) (by have:=N5 hok;omega)) ?_
    simp +contextual (disch:=omega) only[go_sem,hok,e1,ei]
    exact hJ _ _ _ _ H ⟨by simp +contextual (disch:=omega) only[go_sem,e1],rfl⟩
   ·rintro Y hY env h' τ ei c0 H ⟨e1,rfl⟩
    simp +contextual (disch:=omega) only[go_sem,c0,e1,ei,hW.len]
    exact hY _ _ _ H ⟨e1,rfl⟩
   ·clear H1
    rintro env h' τ H ⟨e1,rfl⟩
    simp +contextual (disch:=omega) only[go_sem,e1]
    obtain⟨r,τ2,R2,K2⟩:=Ie τ
    have gr:r.length=4:=A8.len (K2.rd 0 rfl)
    refine by_c H R2 K2 fun H2=> ?_
    simp +contextual (disch:=omega) only[go_sem,Ai (cs:=[GV.nilS,GV.nilS,GV.nilS,GV.nilS]) gr rfl,gr,e1]
    intro n4 f4 τ30 _ τ3 H3
    refine Cf l.units.length 5 2 (fun i env h=>env 1= .ptr n1 0/\env 4= .ptr n4 0/\∃ s ds,OkS s/\h=[.box 1 n4 ds,.th (own A8 ds s),.box 1 n1 (logV l s0 s1 s2 s3 u w)]) (fun env h=>env 1= .ptr n1 0/\env 4= .ptr n4 0/\∃ s ds,OkS s/\h=[.box 1 n4 ds,.th (own A8 ds s),.box 1 n1 (logV l s0 s1 s2 s3 u w)]) (fun env h=>env 2= .bool false) _ H3 (by simp +contextual (disch:=omega) only[go_sem]) ⟨by simp +contextual (disch:=omega) only[go_sem,e1],by simp +contextual (disch:=omega) only[go_sem],st0,r,A6o,rfl⟩ ?_ ?_ ?_ ?_
    ·clear H H2 H3 K2 R2
     rintro J Y W hJ hY hW' i env h' τ hi ei c0 H ⟨e1,e4,s,ds,hs,rfl⟩
     have gd:ds.length=4:=A8.len (H.hp.rd 1 rfl)
     have hsm:=hs.ms
     obtain⟨kv,d0,d1,d2,d3,d4,d5,U,hUn,_,_⟩:=On hU hi
     have hok:=hG.un l.units[i] (Zae hi)
     have hum:=N5 hok
     simp +contextual (disch:=omega) only[go_sem,c0,e1,e4,ei,hU.len,A3,U]
     refine by_r H (Jn _ _ l.units[i] (Ab.pre hUn H.sub) (by omega)) ?_
     simp +contextual (disch:=omega) only[go_sem,hok,c0,e1,e4,ei,hU.len,A3,U]
     refine by_r H (Jp _ _ l.units[i] (Ab.pre hUn H.sub) (by omega)) ?_
     cases hut:decide (l.time<Ed l.units[i]) with
     |true=>
      simp +contextual (disch:=omega) only[go_sem,hut,e1]
      exact hW' _ _ _ H (by simp +contextual (disch:=omega) only[go_sem])
     |false=>
      simp +contextual (disch:=omega) only[go_sem,hut,c0,e1,e4,ei,hU.len,A3,U,A9 gd]
      obtain⟨q,τ5,R5,K5⟩:=N0 τ ds s (H.hp.rd 1 rfl) _ l.units[i] (Ab.pre hUn H.sub) (by omega) (by omega) (hG.ub _ (Zae hi))
      have gq:q.length=4:=A8.len (K5.rd 0 rfl)
      refine by_c H R5 K5 fun H5=> ?_
      simp +contextual (disch:=omega) only[go_sem,Ai (cs:=[GV.nilS,GV.nilS,GV.nilS,GV.nilS]) gq rfl,gq,e1,e4]
      intro n6 f6 τ60 _ τ6 H6
      by_cases hc:(Bz s l.units[i]).2=0
      ·have bc:((Bz s l.units[i]).2 != 0)=false:=by simp[hc]
       simp +contextual (disch:=omega) only[go_sem,bc,A9 gq,e1,e4,ei,Ai (cs:=ds) gq gd,gq]
       refine⟨by omega,?_⟩
       intro τ7 H7
       exact hJ _ _ _ _ (H7.re [2,1,4] (by decide)) ⟨by simp +contextual (disch:=omega) only[go_sem,e1],by simp +contextual (disch:=omega) only[go_sem,e4],_,q,A2r _ hs,rfl⟩
      ·have bc:((Bz s l.units[i]).2 != 0)=true:=by simp[hc]
       simp +contextual (disch:=omega) only[go_sem,bc]
       exact hW' _ _ _ H6 (by simp +contextual (disch:=omega) only[go_sem])
    ·clear H H2 H3
     rintro Y hY env h' τ ei c0 H ⟨e1,e4,s,ds,hs,rfl⟩
     simp +contextual (disch:=omega) only[go_sem,c0,e1,ei,hU.len]
     exact hY _ _ _ H ⟨e1,e4,s,ds,hs,rfl⟩
    ·clear H H2 H3
     rintro env h' τ H ⟨e1,e4,s,ds,hs,rfl⟩
     have gd:ds.length=4:=A8.len (H.hp.rd 1 rfl)
     have hsm:=hs.ms
     simp +contextual (disch:=omega) only[go_sem,e1,e4,A9 gd]
     refine by_r H (Lf τ ds _ s l.state (H.hp.rd 1 rfl) (A8.pre hS H.sub) (by omega) (by omega)) ?_
     simp +contextual (disch:=omega) only[go_sem]
     exact fun _=>⟨_,rfl,_,rfl,(H.re [] (by decide)).hp,fun _=>htm2⟩
    ·clear H H2 H3
     rintro env h' τ H e2
     simp +contextual (disch:=omega) only[go_sem,e2]
     exact fun _=>⟨_,rfl,false,rfl,Hp.nil H.sub,fun h=>by cases h⟩
abbrev Vi:Nat:=210
def Vj:Fn1:=⟨59,[.t 4],(rg [oX 2 0,oX 3 1,oV 4 kf] (rg [oF 5 0 2,oW 6 2 5,oF 7 0 3,oW 8 2 7,o 9 (.eqs false [.i .i64,.i .i64] (.t 6) (.t 8)),oM 10 9,jF 11 10 2 2,jL 12 10 11,jF 13 10 2 3,jL 14 10 13,jB 15 10 .eql 12 14,oQ 16 10 15,oM 17 16,jF 18 17 3 2,jL 19 17 18,jF 20 17 3 3,jL 21 17 20,jD 22 17 171 19 21,oQ 23 17 22,oM 24 23,jF 25 24 4 2,jL 26 24 25,jF 27 24 4 3,jL 28 24 27,jB 29 24 .eql 26 28,oQ 30 24 29,oM 31 30,jF 32 31 5 2,jL 33 31 32,jF 34 31 5 3,jL 35 31 34,jB 36 31 .eql 33 35,oQ 37 31 36,oM 38 37,jF 39 38 6 2,jL 40 38 39,jF 41 38 6 3,jL 42 38 41,jB 43 38 .eql 40 42,oQ 44 38 43,oM 45 44,jF 46 45 7 2,jL 47 45 46,jF 48 45 7 3,jL 49 45 48,jB 50 45 .eql 47 49,oQ 51 45 50,oM 52 51,jF 53 52 8 2,jW 54 52 2 53,jF 55 52 8 3,jW 56 52 2 55,og 57 52 true (.eqs false [.i .i64,.i .i64] (.t 54) (.t 56)),oQ 58 52 57,oM 4 58] .ret))⟩
theorem A34:A6 Tryz.prog Vi=some Vj:=by kernel_rfl
abbrev Jz:Nat:=280
def K0:Fn1:=⟨58,[.t 4],(rg [oX 2 0,oX 3 1,oV 4 kf] (.seq (rg [oF 6 0 2,oL 7 6,oF 8 0 3,oL 9 8,oD 10 171 7 9,oU 11 10,oM 12 11,vF 13 12 4 2,vL 14 12 13,og 15 12 false (.len false (.t 14)),vF 16 12 4 3,vL 17 12 16,og 18 12 false (.len false (.t 17)),vB 19 12 .neq 15 18,oP 20 12 19] (cn 20 (rg [oV 4 kf] .ret) .skip)) (.seq (rg [oV 5 (ki 0)] (.blk 0 (.lop (.seq (rg [oM 21 5,oF 22 4 2,oL 23 22,oN 24 23,oB 25 .lss 21 24] (cn 25 .skip (.ext 0))) (.seq (.blk 1 (dw [oF 28 4 2,oL 29 28,oM 30 5,oI 31 2 29 30,oW 32 2 31,oF 33 4 3,oL 34 33,oM 35 5,oI 36 2 34 35,oW 37 2 36] [o 38 (.eqs true [.i .i64,.i .i64] (.t 32) (.t 37))] (cn 38 (rg [oV 4 kf] .ret) .skip))) (.reg [oM 26 5,oZ 27 26 1,oM 5 27])))))) (rg [oF 39 1 2,oL 40 39,oF 41 2 2,oL 42 41,oF 43 3 2,oL 44 43,oF 45 5 2,oL 46 45,o 47 (.build [.nilS,.nilS,.nilS,.nilS] [(0,1,(.t 40)),(1,1,(.t 42)),(2,1,(.t 44)),(3,1,(.t 46))]),oF 48 1 3,oL 49 48,oF 50 2 3,oL 51 50,oF 52 3 3,oL 53 52,oF 54 5 3,oL 55 54,o 56 (.build [.nilS,.nilS,.nilS,.nilS] [(0,1,(.t 49)),(1,1,(.t 51)),(2,1,(.t 53)),(3,1,(.t 55))]),oD 57 47 47 56,oM 4 57] .ret))))⟩
theorem Q6:A6 Tryz.prog Jz=some K0:=by kernel_rfl
abbrev Ry:Nat:=186
def Rz:Fn1:=⟨24,[.t 4],(rg [oX 2 0,oX 3 1,oV 4 kf] (rg [oF 5 0 2,oL 6 5,oF 7 0 3,oL 8 7,o 9 (.eqb false (.t 6) (.t 8)),oM 10 9,jF 11 10 1 2,jW 12 10 10 11,jF 13 10 1 3,jW 14 10 10 13,jD 15 10 210 12 14,oQ 16 10 15,oM 17 16,jF 18 17 11 2,jW 19 17 6 18,jF 20 17 11 3,jW 21 17 6 20,jD 22 17 280 19 21,oQ 23 17 22,oM 4 23] .ret))⟩
theorem A0c:A6 Tryz.prog Ry=some Rz:=by kernel_rfl
theorem A81 (a b:Act):Pz a b=decide (a=b):=by
 rw[Zaq]
 simp only[Pz,Zac,decide_eq_true_eq,beq_iff_eq,Act.eq_iff]
theorem A0d (σ:St) (cs ds:List GV) (a b:Act) (hR:kAct.R σ a cs) (hS:kAct.R σ b ds) (hl:a.knew.length<=1099511627776):Ret Tryz.prog Vi [.agg cs,.agg ds] σ (.bool (decide (a=b))) σ:=by
 rw[<- A81]
 obtain⟨v,rfl,q⟩:=hR
 obtain⟨u,rfl,p⟩:=hS
 refine Eu A34 (Z0z rfl) trivial ?_
 unfold Pz
 simp +contextual (disch:=omega) only[go_sem,Vj]
 intro n f τ0 _ m g τ H
 have S:=H.sub
 cases h0:decide (a.dot=b.dot) with
 |false=>
  simp +contextual (disch:=omega) only[go_sem,Zaa]
  try exact fun _=>rfl
 |true=>
  simp +contextual (disch:=omega) only[go_sem,Zab]
  cases h1:a.time==b.time with
  |false=>
   simp +contextual (disch:=omega) only[go_sem,Zaa]
   try exact fun _=>rfl
  |true=>
   simp +contextual (disch:=omega) only[go_sem,Zab]
   refine by_b H (Pi _ v u _ _ (q.pre S) (p.pre S) hl) (fun k1=> ?_) (fun k1=> ?_)
   rotate_left
   ·simp +contextual (disch:=omega) only[go_sem,k1,Zaa]
    try exact fun _=>rfl
   simp +contextual (disch:=omega) only[go_sem,k1,Zab]
   cases h0:a.kind==b.kind with
   |false=>
    simp +contextual (disch:=omega) only[go_sem,Zaa]
    try exact fun _=>rfl
   |true=>
    simp +contextual (disch:=omega) only[go_sem,Zab]
    cases h1:decide (a.obj=b.obj) with
    |false=>
     simp +contextual (disch:=omega) only[go_sem,Zaa]
     try exact fun _=>rfl
    |true=>
     simp +contextual (disch:=omega) only[go_sem,Zab]
     cases h2:decide (a.key=b.key) with
     |false=>
      simp +contextual (disch:=omega) only[go_sem,Zaa]
      try exact fun _=>rfl
     |true=>
      simp +contextual (disch:=omega) only[go_sem,Zab]
      cases h3:a.val==b.val with
      |false=>
       simp +contextual (disch:=omega) only[go_sem,Zaa]
       try exact fun _=>rfl
      |true=>
       simp +contextual (disch:=omega) only[go_sem,Zab]
theorem A0e {a b:Delta} (h:¬ (a.base=b.base/\a.dead=b.dead/\(⟨a.know,a.tallies,a.lives,a.cells⟩:State)=⟨b.know,b.tallies,b.lives,b.cells⟩)):decide (a=b)=false:=decide_eq_false fun e=>h (by subst e;exact⟨rfl,rfl,rfl⟩)
theorem Abd {a b:Delta} (h0:a.base=b.base) (h1:a.dead=b.dead):decide (a=b)=decide ((⟨a.know,a.tallies,a.lives,a.cells⟩:State)=⟨b.know,b.tallies,b.lives,b.cells⟩):=by
 rw[Zaq]
 simp only[decide_eq_true_eq,Delta.eq_iff,State.eq_iff,h0,h1,true_and]
theorem Ov (σ:St) (cs ds:List GV) (a b:Delta) (hR:Bx.R σ a cs) (hS:Bx.R σ b ds) (hl:C9 a<=1073741824) (hm:C9 b<=1073741824):Ret Tryz.prog Jz [.agg cs,.agg ds] σ (.bool (decide (a=b))) σ:=by
 obtain⟨v0,v1,v2,v3,v4,v5,rfl,q0,q1,q2,q3,q4,q5⟩:=hR
 obtain⟨u0,u1,u2,u3,u4,u5,rfl,p0,p1,p2,p3,p4,p5⟩:=hS
 have hbl:a.base.length<=1099511627776:=by unfold C9 at hl;omega
 have hdl:a.dead.length<=1099511627776:=by unfold C9 at hl;omega
 have hsa:Ah ⟨a.know,a.tallies,a.lives,a.cells⟩<=1099511627776:=by unfold C9 at hl;unfold Ah;simp only;omega
 have hsb:Ah ⟨b.know,b.tallies,b.lives,b.cells⟩<=1099511627776:=by unfold C9 at hm;unfold Ah;simp only;omega
 clear hl hm
 refine Eu Q6 (Z0z rfl) trivial ?_
 simp +contextual (disch:=omega) only[go_sem,K0]
 intro n1 f1 τ0 _ n2 f2 τ H
 have g1:σ.length<=n1:=f1
 have g2:σ.length<=n2:=f2.2
 have S:=H.sub
 refine by_r H (Pi _ v0 u0 _ _ (q0.pre S) (p0.pre S) hbl) ?_
 have l4:=q4.len
 have m4:=p4.len
 by_cases h0:a.base=b.base
 rotate_left
 ·have d:=A0e (a:=a) (b:=b) fun h=>h0 h.1
  have e0:decide (a.base=b.base)=false:=decide_eq_false h0
  simp +contextual (disch:=omega) only[go_sem,e0,d]
  try exact fun _=>rfl
 have e0:decide (a.base=b.base)=true:=decide_eq_true h0
 by_cases h1:a.dead.length=b.dead.length
 rotate_left
 ·have d:=A0e (a:=a) (b:=b) fun h=>h1 (by rw[h.2.1])
  have e1:((a.dead.length:Int) != (b.dead.length:Int))=true:=by simp;omega
  simp +contextual (disch:=omega) only[go_sem,e0,e1,l4,m4,d]
  try exact fun _=>rfl
 have e1:((a.dead.length:Int) != (b.dead.length:Int))=false:=by simp;omega
 simp +contextual (disch:=omega) only[go_sem,e0,e1,l4,m4]
 refine Cf a.dead.length 5 0 (fun i env h=>env 2= .ptr n1 0/\env 3= .ptr n2 0/\a.dead.take i=b.dead.take i/\h=[.box 1 n2 [u0,u1,u2,u3,u4,u5],.box 1 n1 [v0,v1,v2,v3,v4,v5]]) (fun env h=>a.dead=b.dead/\env 2= .ptr n1 0/\env 3= .ptr n2 0/\h=[.box 1 n2 [u0,u1,u2,u3,u4,u5],.box 1 n1 [v0,v1,v2,v3,v4,v5]]) (fun env h=>env 4= .bool false/\a.dead≠b.dead) _ H (by simp +contextual (disch:=omega) only[go_sem]) ⟨by simp +contextual (disch:=omega) only[go_sem],by simp +contextual (disch:=omega) only[go_sem],by simp,rfl⟩ ?_ ?_ ?_ ?_
 ·clear H
  rintro J Y W hJ hY hW i env h' τ1 hi ei c0 H1 ⟨e2',e3',he,rfl⟩
  have hj:i<b.dead.length:=by omega
  have L1:=Kj q4 hi
  have L2:=Kj p4 hj
  by_cases hx:a.dead[i]=b.dead[i]
  ·have bb:decide (a.dead[i]=b.dead[i])=true:=decide_eq_true hx
   simp +contextual (disch:=omega) only[go_sem,c0,e2',e3',ei,A3,l4,m4,L1,L2,bb]
   exact hJ _ _ _ _ H1 ⟨by simp +contextual (disch:=omega) only[go_sem,e2'],by simp +contextual (disch:=omega) only[go_sem,e3'],by rw[Av hi,Av hj,he,hx],rfl⟩
  ·have bb:decide (a.dead[i]=b.dead[i])=false:=decide_eq_false hx
   simp +contextual (disch:=omega) only[go_sem,c0,e2',e3',ei,A3,l4,m4,L1,L2,bb]
   exact hW _ _ _ H1 ⟨by simp +contextual (disch:=omega) only[go_sem],fun h=>hx (by simp only[h])⟩
 ·rintro Y hY env h' τ1 ei c0 H1 ⟨e2',e3',he,rfl⟩
  simp +contextual (disch:=omega) only[go_sem,c0,e2',e3',ei,l4]
  rw[Zad,h1,Zad] at he
  exact hY _ _ _ H1 ⟨he,by simp +contextual (disch:=omega) only[go_sem,e2'],by simp +contextual (disch:=omega) only[go_sem,e3'],rfl⟩
 rotate_left
 ·rintro env h' τ1 H1 ⟨e4,hx⟩
  have d:=A0e (a:=a) (b:=b) fun h=>hx h.2.1
  simp +contextual (disch:=omega) only[go_sem,e4,d]
 clear H S
 rintro env h' τ1 H ⟨hd,e2',e3',rfl⟩
 have S:=H.sub
 have c1:=q1.cell
 have c2:=q2.cell
 have c3:=q3.cell
 have c5:=q5.cell
 have k1:=p1.cell
 have k2:=p2.cell
 have k3:=p3.cell
 have k5:=p5.cell
 have D:=Abd h0 hd
 simp +contextual (disch:=omega) only[go_sem,e2',e3',c1,c2,c3,c5,k1,k2,k3,k5]
 refine by_r H (Lf τ1 [v1,v2,v3,v5] [u1,u2,u3,u5] ⟨a.know,a.tallies,a.lives,a.cells⟩ ⟨b.know,b.tallies,b.lives,b.cells⟩ ⟨_,_,_,_,rfl,q1.pre S,q2.pre S,q3.pre S,q5.pre S⟩ ⟨_,_,_,_,rfl,p1.pre S,p2.pre S,p3.pre S,p5.pre S⟩ hsa hsb) ?_
 simp +contextual (disch:=omega) only[go_sem,D]
 try exact fun _=>rfl
theorem Wq (σ:St) (cs ds:List GV) (a b:Unit_) (hR:Ab.R σ a cs) (hS:Ab.R σ b ds) (hl:Bq a<=1073741824) (hm:Bq b<=1073741824):Ret Tryz.prog Ry [.agg cs,.agg ds] σ (.bool (decide (a=b))) σ:=by
 obtain⟨kv,d0,d1,d2,d3,d4,d5,rfl,hA,hD⟩:=G4 hR
 obtain⟨ku,x0,x1,x2,x3,x4,x5,rfl,hB,hE⟩:=G4 hS
 have hma:Ha a.act<=1073741824/\C9 a.delta<=1073741824:=by unfold Bq at hl;omega
 have hmb:C9 b.delta<=1073741824:=by unfold Bq at hm;omega
 have hkn:a.act.knew.length<=1099511627776:=by have:=hma.1;unfold Ha at this;omega
 refine Eu A0c (Z0z rfl) trivial ?_
 simp +contextual (disch:=omega) only[go_sem,Rz]
 intro n1 f1 τ0 _ n2 f2 τ H
 have S:=H.sub
 cases h0:a.batch==b.batch with
 |false=>
  have d:decide (a=b)=false:=decide_eq_false fun h=>by subst h;simp at h0
  simp +contextual (disch:=omega) only[go_sem,d]
  try exact fun _=>rfl
 |true=>
  simp +contextual (disch:=omega) only[go_sem]
  refine by_r H (A0d _ _ _ _ _ (kAct.pre hA S) (kAct.pre hB S) hkn) ?_
  by_cases h1:a.act=b.act
  rotate_left
  ·have d:decide (a=b)=false:=decide_eq_false fun h=>h1 (by rw[h])
   have e1:decide (a.act=b.act)=false:=decide_eq_false h1
   simp +contextual (disch:=omega) only[go_sem,d,e1]
   try exact fun _=>rfl
  have e1:decide (a.act=b.act)=true:=decide_eq_true h1
  simp +contextual (disch:=omega) only[go_sem,e1]
  refine by_r H (Ov _ _ _ _ _ (Bx.pre hD S) (Bx.pre hE S) hma.2 hmb) ?_
  have d:decide (a=b)=decide (a.delta=b.delta):=by
   rw[Zaq]
   simp only[decide_eq_true_eq,Unit_.eq_iff,h1,true_and]
   exact⟨fun h=>h.2,fun h=>⟨by simpa using h0,h⟩⟩
  simp +contextual (disch:=omega) only[go_sem,d]
  try exact fun _=>rfl
abbrev Yk:Nat:=268
def Yl:Fn1:=⟨70,[.c 4 true 8,.c 5 true 17,.t 6],(rg [oX 2 0,oX 3 1,o 4 (.new [z0,z0,.nilS,.nilS,.nilS,.nilS,.nilS,.nilS]),o 5 (.new [(.bool false),z0,z0,z0,.nilS,z0,s0,s0,z0,z0,z0,.nilS,.nilS,.nilS,.nilS,.nilS,.nilS]),oV 6 (ki 0)] (rg [oW 12 8 2,oC 13 327 12,o 7 (.new [z0,z0,.nilS,.nilS,.nilS,.nilS,.nilS,.nilS]),oS 8 7 13] (.seq (rg [oW 14 8 2,oC 15 328 14,oU 16 15] (cn 16 (rg [oW 17 8 7,o 18 (.build [(.bool false),z0,z0,z0,.nilS,z0,s0,s0,z0,z0,z0,.nilS,.nilS,.nilS,.nilS,.nilS,.nilS] []),oS 8 4 17,oS 17 5 18,oV 6 (ki 3)] .ret) .skip)) (rg [oF 20 2 2,oW 21 4 20,oF 22 0 2,oL 23 22,oF 24 1 2,oL 25 24,oZ 26 25 1,oW 27 5 3,o 28 (.call 276 [(.t 21),(.t 23),(.t 26),(.t 27)]),oM 19 28,o 29 (.ext 0 (.t 19)),o 30 (.ext 1 (.t 19)),o 8 (.new [z0,z0,z0,.nilS,z0,s0,s0,z0,z0,z0]),oS 10 8 29,oM 9 30] (.seq (rg [oM 31 9,oE 32 .neq 31 0] (cn 32 (rg [oW 33 8 7,o 34 (.build [(.bool false),z0,z0,z0,.nilS,z0,s0,s0,z0,z0,z0,.nilS,.nilS,.nilS,.nilS,.nilS,.nilS] []),oM 35 9,oS 8 4 33,oS 17 5 34,oM 6 35] .ret) .skip)) (rg [oF 37 2 2,oW 38 4 37,oW 39 10 8,oD 40 140 38 39,oM 36 40,o 41 (.ext 0 (.t 36)),o 42 (.ext 1 (.t 36)),o 10 (.new [.nilS,.nilS,.nilS,.nilS]),oS 4 10 41,oM 11 42] (.seq (rg [oM 43 11,oE 44 .neq 43 0,oM 45 44,vF 46 45 6 2,vL 47 45 46,og 48 45 false (.len false (.t 47)),vE 49 45 .geq 48 60,oP 50 45 49] (cn 50 (rg [oW 51 8 7,o 52 (.build [(.bool false),z0,z0,z0,.nilS,z0,s0,s0,z0,z0,z0,.nilS,.nilS,.nilS,.nilS,.nilS,.nilS] []),oS 8 4 51,oS 17 5 52,oV 6 (ki 4)] .ret) .skip)) (rg [oW 53 4 10,oF 54 2 7,oS 4 54 53] (rg [oF 55 1 2,oL 56 55,oZ 57 56 1,oF 58 1 7,oS 1 58 57] (dw [oF 59 6 7,oL 60 59,oW 61 10 8,oC 62 211 61,o 63 (.build [(.bool false),z0,z0,z0,.nilS,z0,s0,s0,z0,z0,z0,.nilS,.nilS,.nilS,.nilS,.nilS,.nilS] [(1,10,(.t 62))]),o 64 (.lit 17 1 [(.bool false),z0,z0,z0,.nilS,z0,s0,s0,z0,z0,z0,.nilS,.nilS,.nilS,.nilS,.nilS,.nilS] [(0,17,(.t 63))])] [o 65 (.app 17 264 [(.bool false),z0,z0,z0,.nilS,z0,s0,s0,z0,z0,z0,.nilS,.nilS,.nilS,.nilS,.nilS,.nilS] (.t 60) (.t 64)),oF 66 6 7,oS 1 66 65] (dw [] [oW 67 8 7,oW 68 10 8,o 69 (.build [(.bool false),z0,z0,z0,.nilS,z0,s0,s0,z0,z0,z0,.nilS,.nilS,.nilS,.nilS,.nilS,.nilS] [(1,10,(.t 68))]),oS 8 4 67,on (.chk 68 (.ld true 10 (.t 8))),oS 17 5 69,oV 6 (ki 0)] .ret)))))))))))⟩
theorem A5s:A6 Tryz.prog Yk=some Yl:=by kernel_rfl
abbrev Q7:List GV:=[gi 0,gi 0,.nilS,.nilS,.nilS,.nilS,.nilS,.nilS]
theorem Hx.unitA {σ τ:St} {h:List Item} {ca:List GV} {a:Act} (H:Hx σ τ (.th (own kAct ca a)::h)):Hx σ τ (.th (own Ab (GV.bool false::ca++([GV.nilS,GV.nilS,GV.nilS,GV.nilS,GV.nilS,GV.nilS]++[])) ⟨false,a,I5⟩)::h):=by
 have X1:=(((((H.nil Aj.kd).nil pDot.kd).nil Cl.kd).nil Bi.kd).nil pI.kd).nil pI.kd
 have X2:Hp σ τ (own Bx [GV.nilS,GV.nilS,GV.nilS,GV.nilS,GV.nilS,GV.nilS] I5::own kAct ca a::h.map Item.t):=Hp.ownDelta (x:=I5) X1
 exact Hp.ownUnit_ (x:=⟨false,a,I5⟩) (X2.perm (.swap _ _ _))
theorem Abe {s:State} {r m:Int} {e:Edit} (h:(Df s r m e).2=0):De (Df s r m e).1=true:=by
 unfold Df at h ⊢
 split at h
 ·split at h
  ·split at h
   ·split at h
    ·simp_all
    ·cases h
   ·cases h
  ·cases h
 ·cases h
def EdS (l:Log) (e:Edit) (l':Log):Prop:=l'=l∨((Df l.state l.rep (l.time+1) e).2=0/\(Cw l.state (Df l.state l.rep (l.time+1) e).1).2=0/\l'={l with state:=(Cw l.state (Df l.state l.rep (l.time+1) e).1).1,units:=l.units++[⟨false,(Df l.state l.rep (l.time+1) e).1,I5⟩],time:=l.time+1})
theorem A82 (σ:St) (cs:List GV) (l:Log) (hR:kLog.R σ l cs) (hG:LogG l) (e:Edit) (ho:e.obj.size<=1048576) (hk:e.key.size<=1048576) (hp:e.place<=9223372036854775807):∃ q τ,Ret Tryz.prog Yk [.agg cs,.agg (edV e)] σ q τ/\∃ ds us c l',q= .tup [.agg ds,.agg us,gi c]/\us.length=17/\LogG l'/\EdS l e l'/\Hp σ τ [own kLog ds l']:=by
 have hlm:=hG.ms
 have hst:=hG.st.ms
 have hR0:=hR
 obtain⟨s0,s1,s2,s3,u,w,rfl,hS,hU,hW⟩:=Hg hR
 have hkn:=D8 hG.st.kn
 refine Fi A5s (Z0z rfl) (Hx.refl σ) ?_
 simp +contextual (disch:=omega) only[go_sem,Yl]
 intro n2 f2 τ1 _ n3 f3 τ2 _ n4 f4 τ3 _ n5 f5 τ4 H4
 obtain⟨ds,τ5,R5,K5⟩:=Ou τ4 _ l (kLog.pre hR0 H4.sub) (by omega)
 have gd:ds.length=8:=kLog.len (K5.rd 0 rfl)
 refine by_c H4 R5 K5 fun H5=> ?_
 simp +contextual (disch:=omega) only[go_sem,Ai (cs:=Q7) gd rfl,gd]
 intro n7 f7 τ60 _ τ6 H6
 try simp +contextual (disch:=omega) only[go_sem]
 obtain⟨_,τ7,R7,b,rfl,K7,hb⟩:=Vh τ6 _ l (kLog.pre hR0 H6.sub) hG
 have H7:Hp σ τ7 (([]:List Thg)++_):=H6.hp.add K7
 obtain⟨v2,v3,v4,rfl,X⟩:=Hp.splitLog (H7.pick 1 rfl)
 obtain⟨t0,t1,t2,t3,rfl,_⟩:=X.rd 0 rfl
 have H8:Hx σ τ7 [.th (own A8 [t0,t1,t2,t3] l.state),.th (ow Ab v3 l.units),.th (ow Ab v4 l.waits),.box 1 n7 (logV l t0 t1 t2 t3 v3 v4),.box 1 n5 zeU,.box 1 n4 Q7,.box 1 n3 (edV e),.box 1 n2 (logV l s0 s1 s2 s3 u w)]:=X
 refine by_m R7 H8 ?_
 cases b with
 |false=>
  simp +contextual (disch:=omega) only[go_sem]
  intro τ8 _ τ9 H9
  exact⟨_,rfl,_,_,_,l,rfl,rfl,hG,.inl rfl,Hp.ownLog (x:=l) (H9.re [0,1,2] (by decide)).hp⟩
 |true=>
  have htm:=hb rfl
  have htm0:=hG.tm.1
  simp +contextual (disch:=omega) only[go_sem]
  obtain⟨ac,τ9,R9,K9⟩:=Un τ7 _ l.state (A8.pre hS H8.sub) l.rep (l.time+1) e (by omega) (by omega) (by omega) hp (by omega)
  have ga:ac.length=10:=kAct.len (K9.rd 0 rfl)
  refine by_c H8 R9 K9 fun H9=> ?_
  simp +contextual (disch:=omega) only[go_sem,Ai (cs:=zeV) ga rfl,ga]
  intro n8 f8 τ100 _ τ10 H10
  by_cases hc:(Df l.state l.rep (l.time+1) e).2=0
  rotate_left
  ·have bc:((Df l.state l.rep (l.time+1) e).2 != 0)=true:=by simp[hc]
   simp +contextual (disch:=omega) only[go_sem,bc]
   intro τ11 _ τ12 H12
   exact⟨_,rfl,_,_,_,l,rfl,rfl,hG,.inl rfl,Hp.ownLog (x:=l) (H12.re [2,3,4] (by decide)).hp⟩
  have bc:((Df l.state l.rep (l.time+1) e).2 != 0)=false:=by simp[hc]
  obtain⟨a,ha⟩:∃ a,a=(Df l.state l.rep (l.time+1) e).1:=⟨_,rfl⟩
  have hao:De a=true:=by rw[ha];exact Abe hc
  have ham:=Abx hao
  rw[<- ha] at H10
  obtain⟨kc,rfl,_⟩:=H10.hp.rd 1 rfl
  simp +contextual (disch:=omega) only[go_sem,bc]
  obtain⟨q,τ11,R11,K11⟩:=Mx τ10 _ l.state (A8.pre hS H10.sub) _ a (H10.hp.rd 1 rfl) (by omega) (by omega)
  obtain⟨q0,q1,q2,q3,rfl,_⟩:=K11.rd 0 rfl
  refine by_c H10 R11 K11 fun H11=> ?_
  simp +contextual (disch:=omega) only[go_sem]
  intro n10 f10 τ120 _ τ12 H12
  by_cases hd:(Cw l.state a).2=0
  rotate_left
  ·have bd:((Cw l.state a).2 != 0)=true:=by simp[hd]
   simp +contextual (disch:=omega) only[go_sem,bd]
   intro τ13 _ τ14 H14
   exact⟨_,rfl,_,_,_,l,rfl,rfl,hG,.inl rfl,Hp.ownLog (x:=l) (H14.re [4,5,6] (by decide)).hp⟩
  have bd:((Cw l.state a).2 != 0)=false:=by simp[hd]
  by_cases hn:60<=l.units.length
  ·have bn:decide (60<=(l.units.length:Int))=true:=by simp;omega
   simp +contextual (disch:=omega) only[go_sem,bd,bn,hU.len]
   intro τ13 _ τ14 H14
   exact⟨_,rfl,_,_,_,l,rfl,rfl,hG,.inl rfl,Hp.ownLog (x:=l) (H14.re [4,5,6] (by decide)).hp⟩
  have bn:decide (60<=(l.units.length:Int))=false:=by simp;omega
  simp +contextual (disch:=omega) only[go_sem,bd,bn,hU.len]
  intro τ13 _ τ14 H14
  try simp +contextual (disch:=omega) only[go_sem]
  obtain⟨a2,τ15,R15,K15⟩:=Om τ14 _ a (H14.hp.rd 3 rfl) (by unfold Ha at ham;omega)
  obtain⟨ka,rfl,_⟩:=K15.rd 0 rfl
  refine by_c H14 R15 K15 fun H15=> ?_
  simp +contextual (disch:=omega) only[go_sem]
  intro n16 f16 τ16 H16
  have H17:=Hx.unitA (H16.re [1,0,3,4,5,7,8,9,10,11,12,13] (by decide))
  have H18:Hx σ τ16 [.box 17 n16 (unV ⟨false,a,I5⟩ ka .nilS .nilS .nilS .nilS .nilS .nilS),.th (own Ab (unV ⟨false,a,I5⟩ ka .nilS .nilS .nilS .nilS .nilS .nilS) ⟨false,a,I5⟩),.th (own A8 [q0,q1,q2,q3] (Cw l.state a).1),.box 1 n8 (actV a kc),.th (own kAct (actV a kc) a),.th (ow Ab v3 l.units),.th (ow Ab v4 l.waits),.box 1 n7 [gi l.rep,gi (l.time+1),q0,q1,q2,q3,v3,v4],.box 1 n5 zeU,.box 1 n4 Q7,.box 1 n3 (edV e),.box 1 n2 (logV l s0 s1 s2 s3 u w)]:=H17.re [1,0,2,3,4,5,6,7,8,9,10,11] (by decide)
  refine Mz H18 1 4 rfl rfl L9 (by decide) (by omega) fun v' τ17 H19=> ?_
  have cv:=(H19.hp.sl 4 rfl).cell
  simp +contextual (disch:=omega) only[go_sem,cv]
  intro τ18 _ τ19 _ τ20 H20
  have hu:Cz ⟨false,a,I5⟩=true:=by simp[Cz,hao,Jm]
  exact⟨_,rfl,_,_,_,{l with state:=(Cw l.state a).1,units:=l.units++[⟨false,a,I5⟩],time:=l.time+1},rfl,rfl,A06 hG hu rfl hd (by omega) ⟨by omega,by omega⟩,.inr ⟨hc,by rw[<- ha];exact hd,by rw[<- ha]⟩,Hp.ownLog (x:={l with state:=(Cw l.state a).1,units:=l.units++[⟨false,a,I5⟩],time:=l.time+1}) (H20.re [1,4,5] (by decide)).hp⟩
def bun (rs:List Thg):Thg:=⟨fun τ fp=>sat τ rs fp,fun h hf=>h.loc hf⟩
theorem A0f {τ:St} {rs:List Thg}:∀ {xs:List Thg} {fp:List Nat},sat τ (xs++rs) fp↔sat τ (xs++[bun rs]) fp
 |[],fp=>⟨fun h=>⟨fp,[],h,rfl,by simp⟩,fun⟨a,b,h,hb,e⟩=>by
  have hb:b=[]:=hb
  subst hb
  rw[e,List.append_nil];exact h⟩
 |x::xs,fp=>⟨fun ⟨a,b,h,hs,e⟩=>⟨a,b,h,A0f.1 hs,e⟩,fun⟨a,b,h,hs,e⟩=>⟨a,b,h,A0f.2 hs,e⟩⟩
theorem Hp.bun {σ τ:St} (xs rs:List Thg) (H:Hp σ τ (xs++rs)):Hp σ τ (xs++[bun rs]):=by
 obtain⟨h,fp,hs,hn,hb⟩:=H
 exact⟨h,fp,A0f.1 hs,hn,hb⟩
theorem Hp.unbun {σ τ:St} (xs rs:List Thg) (H:Hp σ τ (xs++[Sy.bun rs])):Hp σ τ (xs++rs):=by
 obtain⟨h,fp,hs,hn,hb⟩:=H
 exact⟨h,fp,A0f.2 hs,hn,hb⟩
abbrev Nb:Nat:=329
def Vk:Fn1:=⟨33,[],(rg [oX 4 1,oX 5 2] (rg [oM 6 0,oW 7 4 5,oK 8 6,oF 9 2 8,oS 4 9 7] (dw [oM 10 0,oM 11 0,oK 12 11,oF 13 6 12,oL 14 13,oW 15 17 4,oC 16 99 15,o 17 (.lit 17 1 [(.bool false),z0,z0,z0,.nilS,z0,s0,s0,z0,z0,z0,.nilS,.nilS,.nilS,.nilS,.nilS,.nilS] [(0,17,(.t 16))])] [o 18 (.app 17 264 [(.bool false),z0,z0,z0,.nilS,z0,s0,s0,z0,z0,z0,.nilS,.nilS,.nilS,.nilS,.nilS,.nilS] (.t 14) (.t 17)),oK 19 10,oF 20 6 19,oS 1 20 18] (dw [oW 21 17 4,oC 22 378 21,oM 23 0,oK 24 23,oF 25 1 24,oL 26 25] [oB 27 .gtr 22 26] (cn 27 (.reg [oM 28 0,oW 29 17 4,oC 30 378 29,oK 31 28,oF 32 1 31,oS 1 32 30]) .skip)))))⟩
theorem A35:A6 Tryz.prog Nb=some Vk:=by kernel_rfl
abbrev Nc:Nat:=330
def Vl:Fn1:=⟨69,[],(rg [oV 2 kt] (.blk 0 (.lop (.seq (rg [oM 7 2] (cn 7 .skip (.ext 0))) (.blk 1 (rg [oV 2 kf] (rg [o 8 (.lit 17 0 [] []),oM 3 8] (.seq (rg [oV 4 (ki 0)] (.blk 2 (.lop (.seq (rg [oM 9 4,oM 10 0,oK 11 10,oF 12 7 11,oL 13 12,oN 14 13,oB 15 .lss 9 14] (cn 15 .skip (.ext 2))) (.seq (.blk 3 (dw [oM 19 0,oK 20 19,oF 21 2 20,oW 22 4 21,oM 23 0,oK 24 23,oF 25 7 24,oL 26 25,oM 27 4,oI 28 17 26 27,oW 29 17 28,oD 30 44 22 29,oM 18 30,o 31 (.ext 0 (.t 18)),o 32 (.ext 1 (.t 18)),o 5 (.new [.nilS,.nilS,.nilS,.nilS])] [oS 4 5 31,oM 6 32] (.seq (rg [oM 33 6,oE 34 .eql 33 0,oM 35 34,jM 36 35 0,og 37 35 true (.nck (.t 36)),jF 38 35 6 37,jL 39 35 38,og 40 35 true (.len false (.t 39)),jE 41 35 .lss 40 60,oQ 42 35 41] (cn 42 (dw [oM 43 0,oM 44 0,oK 45 44,oF 46 7 45,oL 47 46,oM 48 4,oI 49 17 47 48,oW 50 17 49,oW 51 4 5] [o 52 (.call 329 [(.t 43),(.t 50),(.t 51)])] (rg [oV 2 kt] (.ext 3))) .skip)) (rg [oM 53 6,oE 54 .neq 53 1] (cn 54 (.reg [oM 55 3,oM 56 0,oK 57 56,oF 58 7 57,oL 59 58,oM 60 4,oI 61 17 59 60,oW 62 17 61,o 63 (.lit 17 1 [(.bool false),z0,z0,z0,.nilS,z0,s0,s0,z0,z0,z0,.nilS,.nilS,.nilS,.nilS,.nilS,.nilS] [(0,17,(.t 62))]),o 64 (.app 17 264 [(.bool false),z0,z0,z0,.nilS,z0,s0,s0,z0,z0,z0,.nilS,.nilS,.nilS,.nilS,.nilS,.nilS] (.t 55) (.t 63)),oM 3 64]) .skip))))) (.reg [oM 16 4,oZ 17 16 1,oM 4 17])))))) (.reg [oM 65 0,oM 66 3,oK 67 65,oF 68 7 67,oS 1 68 66])))))))))⟩
theorem A36:A6 Tryz.prog Nc=some Vl:=by kernel_rfl
theorem A37 {u:Unit_} (h:Cz u=true):0<=Ed u/\Ed u<=10000:=by
 unfold Cz at h
 unfold Ed
 split at h
 ·rename_i hb
  rw[if_pos hb]
  simp only[Zac] at h
  have h1:=h.1
  simp only[Bs,Zac] at h1
  have h4:=h1.2.2.2.1
  simp only[Hb,celP,Zac,C4] at h4
  refine Yi fun c hc=> ?_
  have:=T0 (p:=cel1) (fun i hi=>(h4.1 i hi).2.1) c hc
  simp only[cel1,Zac] at this
  exact(Br.1 this.2.2).2
 ·rename_i hb
  rw[if_neg hb]
  simp only[Zac] at h
  have h1:=h.1
  simp only[De,Cq,Zac] at h1
  have:=Br.1 h1.1.2.2.2
  omega
def Vm (l:Log) (x:Unit_):Int:=if l.time<Ed x then Ed x else l.time
theorem Vn {σ0 σ:St} {h:List Item} (l:Log) (n:Nat) (s0 s1 s2 s3 uu ww q0 q1 q2 q3:GV) (H:Hx σ0 σ (.box 1 n (logV l s0 s1 s2 s3 uu ww)::.th (ow Ab uu l.units)::h)) (hg:σ0.length<=n) (cu:List GV) (x:Unit_) (hu:∀ τ,Hx σ0 τ h->Ab.R τ x cu) (hm:Bq x<=1048576) (hn:l.units.length<=1000):∃ u' τ,Ret Tryz.prog Nb [.ptr n 0,.agg cu,.agg [q0,q1,q2,q3]] σ (.tup []) τ/\Hx σ0 τ (.box 1 n [gi l.rep,gi (Vm l x),q0,q1,q2,q3,u',ww]::.th (ow Ab u' (l.units++[x]))::h):=by
 have gu:cu.length=17:=Ab.len (hu σ H.tl.tl)
 have key:∃ q τ,Ret Tryz.prog Nb [.ptr n 0,.agg cu,.agg [q0,q1,q2,q3]] σ q τ/\∃ u',q= .tup []/\Hx σ0 τ (.box 1 n [gi l.rep,gi (Vm l x),q0,q1,q2,q3,u',ww]::.th (ow Ab u' (l.units++[x]))::h):=by
  refine Fi A35 (Z0z rfl) H ?_
  simp +contextual (disch:=omega) only[go_sem,Vk]
  intro n4 f4 τ1 _ n5 f5 τ2 H2
  have g4:n<n4:=f4.1
  have g5:n4<n5:=f5.1
  simp +contextual (disch:=omega) only[go_sem,A9 gu]
  intro τ3 H3
  try simp +contextual (disch:=omega) only[go_sem,A9 gu]
  obtain⟨q,τ4,R4,K4⟩:=G5 τ3 cu x (hu _ H3.tl.tl.tl.tl) (by omega)
  have ql:q.length=17:=Ab.len (K4.rd 0 rfl)
  refine by_c H3 R4 K4 fun H4=> ?_
  simp +contextual (disch:=omega) only[go_sem,Ai (cs:=zeU) ql rfl,ql]
  intro n6 f6 τ5 H5
  refine Mz H5 1 4 rfl rfl L9 (by decide) (by omega) fun v' τ6 H6=> ?_
  have cv:=(H6.hp.sl 4 rfl).cell
  have g6:n5<n6:=f6.1
  simp +contextual (disch:=omega) only[go_sem,cv]
  intro τ7 H7
  try simp +contextual (disch:=omega) only[go_sem,A9 gu]
  refine by_r H7 (Jp _ cu x (hu _ H7.tl.tl.tl.tl.tl) (by omega)) ?_
  obtain⟨t,ht⟩:∃ t,t=Ed x:=⟨_,rfl⟩
  cases hlt:decide (l.time<Ed x) with
  |true=>
   have e:Vm l x=Ed x:=if_pos (of_decide_eq_true hlt)
   simp +contextual (disch:=omega) only[go_sem,hlt,A9 gu]
   refine by_r H7 (Jp _ cu x (hu _ H7.tl.tl.tl.tl.tl) (by omega)) ?_
   simp +contextual (disch:=omega) only[go_sem]
   intro τ8 H8
   exact⟨_,rfl,v',rfl,by rw[e];exact H8.tl.tl.tl⟩
  |false=>
   have e:Vm l x=l.time:=if_neg (of_decide_eq_false hlt)
   simp +contextual (disch:=omega) only[go_sem,hlt]
   exact fun _=>⟨_,rfl,v',rfl,by rw[e];exact H7.tl.tl.tl⟩
 obtain⟨q,τ,R,u',rfl,h'⟩:=key
 exact⟨u',τ,R,h'⟩
def WkS (l l':Log):Prop:=l'.rep=l.rep/\(∀ x∈l'.units,x∈l.units∨x∈l.waits)/\∀ x∈l'.waits,x∈l.waits
theorem WkS.refl (l:Log):WkS l l:=⟨rfl,fun x h=>.inl h,fun x h=>h⟩
theorem WkS.trans {a b c:Log} (h:WkS a b) (k:WkS b c):WkS a c:=⟨k.1.trans h.1,fun x hx=>(k.2.1 x hx).elim (h.2.1 x) fun h'=>.inr (h.2.2 x h'),fun x hx=>h.2.2 x (k.2.2 x hx)⟩
abbrev lgI (n:Nat) (l:Log) (t0 t1 t2 t3 u w:GV) (r:Thg):List Item:=[.box 1 n (logV l t0 t1 t2 t3 u w),.th (own A8 [t0,t1,t2,t3] l.state),.th (ow Ab u l.units),.th (ow Ab w l.waits),.th r]
def wkR (n:Nat) (l:Log) (W:List Unit_) (t0 t1 t2 t3 u v w:GV) (r:Thg) (L:List Unit_) (i:Nat) (h:List Item):Prop:=
 (∃ hi:i<W.length,∃ cs,h=[.box 1 n (logV l t0 t1 t2 t3 u w),.th (own A8 [t0,t1,t2,t3] l.state),.th (ow Ab u l.units),.th (ow Ab v L),.th (own Ab cs W[i]),.th (rst Ab w W i cs),.th r])∨
 (i=W.length/\h=[.box 1 n (logV l t0 t1 t2 t3 u w),.th (own A8 [t0,t1,t2,t3] l.state),.th (ow Ab u l.units),.th (ow Ab v L),.th (rest Ab w W i),.th r])
theorem A6s {σ τ:St} {n:Nat} {l:Log} {W:List Unit_} {t0 t1 t2 t3 u v w:GV} {r:Thg} {L:List Unit_} {i:Nat} (H:Hx σ τ [.box 1 n (logV l t0 t1 t2 t3 u w),.th (own A8 [t0,t1,t2,t3] l.state),.th (ow Ab u l.units),.th (ow Ab v L),.th (rest Ab w W i),.th r]) (hle:i<=W.length):∃ h,Hx σ τ h/\wkR n l W t0 t1 t2 t3 u v w r L i h:=by
 by_cases hi:i<W.length
 ·obtain⟨cs,Z⟩:=Hp.toRst ((H.re [4,0,1,2,3,5] (by decide)).hp) hi
  have Z:Hx σ τ [.th (own Ab cs W[i]),.th (rst Ab w W i cs),.box 1 n (logV l t0 t1 t2 t3 u w),.th (own A8 [t0,t1,t2,t3] l.state),.th (ow Ab u l.units),.th (ow Ab v L),.th r]:=Z
  exact⟨_,Z.re [2,3,4,5,0,1,6] (by decide),.inl ⟨hi,cs,rfl⟩⟩
 ·exact⟨_,H,.inr ⟨by omega,rfl⟩⟩
theorem A0g {σ τ:St} {a b c d:Item} {r:Thg} {w:GV} {W:List Unit_} {i:Nat} {cs:List GV} (H:Hx σ τ [a,b,c,d,.th (rst Ab w W i cs),.th r]):Hx σ τ [a,b,c,d,.th (rest Ab w W (i+1)),.th r]:=by
 have Z:Hx σ τ [.th (rest Ab w W (i+1)),a,b,c,d,.th r]:=Hp.ofRst ((H.re [4,0,1,2,3,5] (by decide)).hp)
 exact Z.re [1,2,3,4,0,5] (by decide)
theorem A5t {σ0 σ:St} (l:Log) (hG:LogG l) (n:Nat) (t0 t1 t2 t3 u w:GV) (r:Thg) (H:Hx σ0 σ (lgI n l t0 t1 t2 t3 u w r)) (hg:σ0.length<=n):∃ τ l' t0 t1 t2 t3 u w,Ret Tryz.prog Nc [.ptr n 0] σ (.tup []) τ/\LogG l'/\WkS l l'/\Hx σ0 τ (lgI n l' t0 t1 t2 t3 u w r):=by
 have key:∃ q τ,Ret Tryz.prog Nc [.ptr n 0] σ q τ/\∃ l' t0 t1 t2 t3 u w,q= .tup []/\LogG l'/\WkS l l'/\Hx σ0 τ (lgI n l' t0 t1 t2 t3 u w r):=by
  refine Fi A36 (Z0z rfl) H ?_
  simp +contextual (disch:=omega) only[go_sem,Vl]
  refine A9v (2*l.waits.length+1) 0 (fun k env h=>env 0= .ptr n 0/\∃(b:Bool) (l':Log) (t0 t1 t2 t3 u w:GV),env 2= .bool b/\LogG l'/\WkS l l'/\k=2*l'.waits.length+(if b then 1 else 0)/\h=lgI n l' t0 t1 t2 t3 u w r) (fun env h=>∃(l':Log) (t0 t1 t2 t3 u w:GV),LogG l'/\WkS l l'/\h=lgI n l' t0 t1 t2 t3 u w r) (fun _ _=>False) _ H ⟨by simp +contextual (disch:=omega) only[go_sem],true,l,t0,t1,t2,t3,u,w,by simp +contextual (disch:=omega) only[go_sem],hG,WkS.refl l,rfl,rfl⟩ ?_ ?_ (fun _ _ _ _ h=>h.elim)
  ·clear H
   rintro J Y W' hJ hY hW k env h τ H ⟨e0,b,l1,t0,t1,t2,t3,u,w,e2,hG1,hS1,rfl,rfl⟩
   cases b with
   |false=>
    simp +contextual (disch:=omega) only[go_sem,e0,e2]
    exact hY _ _ _ H ⟨l1,t0,t1,t2,t3,u,w,hG1,hS1,rfl⟩
   |true=>
    have hwl:lenG false w=some (l1.waits.length:Int):=(H.hp.sl 3 rfl).len
    simp +contextual (disch:=omega) only[go_sem,e0,e2]
    intro n3 f3 τ3 H3
    have g3:n<n3:=f3.1
    obtain⟨W,hW0⟩:∃ W,W=l1.waits:=⟨_,rfl⟩
    rw[<- hW0] at hwl
    have hWn:W.length<=6:=by rw[hW0];exact hG1.nw
    have hWa:∀ x∈W,Cz x=true:=by rw[hW0];exact hG1.wa
    have hWb:∀ x∈W,x.batch=false:=by rw[hW0];exact hG1.wb
    have H4:Hx σ0 τ3 [.th (ow Ab w W),.box 1 n (logV l1 t0 t1 t2 t3 u w),.th (own A8 [t0,t1,t2,t3] l1.state),.th (ow Ab u l1.units),.th (ow Ab (.sl n3 0 0) []),.th r]:=by rw[hW0];exact(H3.emp Ab rfl).re [4,1,2,3,0,5] (by decide)
    have H5:Hx σ0 τ3 [.th (rest Ab w W 0),.box 1 n (logV l1 t0 t1 t2 t3 u w),.th (own A8 [t0,t1,t2,t3] l1.state),.th (ow Ab u l1.units),.th (ow Ab (.sl n3 0 0) []),.th r]:=Hp.toRest H4.hp
    obtain⟨hz,HZ,Z0⟩:=A6s (H5.re [1,2,3,4,0,5] (by decide)) (Zbb _)
    refine Cf W.length 4 2 (fun i env h=>env 0= .ptr n 0/\∃(b:Bool) (l2:Log) (t0 t1 t2 t3 u v:GV) (L:List Unit_),env 2= .bool b/\env 3=v/\LogG l2/\l2.waits=W/\WkS l1 l2/\(∀ x∈L,x∈W)/\L.length+(if b then 1 else 0)<=i/\wkR n l2 W t0 t1 t2 t3 u v w r L i h) (fun env h=>env 0= .ptr n 0/\∃(b:Bool) (l2:Log) (t0 t1 t2 t3 u v:GV) (L:List Unit_),env 2= .bool b/\env 3=v/\LogG l2/\l2.waits=W/\WkS l1 l2/\(∀ x∈L,x∈W)/\L.length+(if b then 1 else 0)<=W.length/\h=[.box 1 n (logV l2 t0 t1 t2 t3 u w),.th (own A8 [t0,t1,t2,t3] l2.state),.th (ow Ab u l2.units),.th (ow Ab v L),.th (rest Ab w W W.length),.th r]) (fun _ _=>False) hz HZ (by simp +contextual (disch:=omega) only[go_sem]) ⟨by simp +contextual (disch:=omega) only[go_sem,e0],false,l1,t0,t1,t2,t3,u,.sl n3 0 0,[],by simp +contextual (disch:=omega) only[go_sem],by simp +contextual (disch:=omega) only[go_sem],hG1,hW0.symm,WkS.refl _,by simp,by simp,Z0⟩ ?_ ?_ ?_ (fun _ _ _ _ h=>h.elim)
    ·clear H H3 H4 H5 HZ Z0 e0 e2 hG1
     rintro J2 Y2 W2 hJ2 hY2 hW2 i env h τ hi ei c0 H ⟨e0,b,l2,t0,t1,t2,t3,u,v,L,e2,e3,hG2,hw2,hS2,hL,hLb,hz⟩
     rcases hz with⟨_,cs,rfl⟩|⟨hz,_⟩
     rotate_left
     ·omega
     have hcl:cs.length=17:=Ab.len (H.hp.rd 4 rfl)
     have hok:=hWa W[i] (Zae hi)
     have hbt:=hWb W[i] (Zae hi)
     have hmu:=N5 hok
     have hms:=hG2.st.ms
     have hnu:=hG2.nu
     obtain⟨z1,z2,z3,z4,z5⟩:=H.rst_rd 5 rfl hi
     have z1:iadG 17 w (some i)=some (atz 17 w i):=z1
     have z4:=Dz H z4
     have z4:ldX σ0 [.box 1 n (logV l2 t0 t1 t2 t3 u w),.th (own A8 [t0,t1,t2,t3] l2.state),.th (ow Ab u l2.units),.th (ow Ab v L),.th (own Ab cs W[i]),.th (rst Ab w W i cs),.th r] τ true 17 (atz 17 w i)=some (.agg cs):=z4
     have hul:lenG false u=some (l2.units.length:Int):=(H.hp.sl 2 rfl).len
     simp +contextual (disch:=omega) only[go_sem,c0,e0,e2,e3,ei,A3,hwl,z1,z4]
     obtain⟨q,τ5,R5,K5⟩:=N0 τ [t0,t1,t2,t3] l2.state (H.hp.rd 1 rfl) cs W[i] (H.hp.rd 4 rfl) (by omega) (by omega) hbt
     obtain⟨q0,q1,q2,q3,rfl,_⟩:=K5.rd 0 rfl
     refine by_c H R5 K5 fun H5=> ?_
     simp +contextual (disch:=omega) only[go_sem,e0,e2,e3,ei]
     intro n6 f6 τ60 _ τ6 H6
     have g6:n<n6:=f6.1
     obtain⟨y1,y2,y3,y4,y5⟩:=H6.rst_rd 7 rfl hi
     have y1:iadG 17 w (some i)=some (atz 17 w i):=y1
     have y4:=Dz H6 y4
     have y4:ldX σ0 [.box 1 n6 [q0,q1,q2,q3],.th (own A8 [q0,q1,q2,q3] (Bz l2.state W[i]).1),.box 1 n (logV l2 t0 t1 t2 t3 u w),.th (own A8 [t0,t1,t2,t3] l2.state),.th (ow Ab u l2.units),.th (ow Ab v L),.th (own Ab cs W[i]),.th (rst Ab w W i cs),.th r] τ6 true 17 (atz 17 w i)=some (.agg cs):=y4
     have stay:∀ env',env' 0= .ptr n 0->env' 2= .bool b->env' 3=v->J2 (i+1) env' τ6:=fun env' a0 a2 a3=>by
      obtain⟨hz,HZ,Z0⟩:=A6s (A0g (H6.re [2,3,4,5,7,8] (by decide))) (by omega)
      exact hJ2 _ _ _ _ HZ ⟨a0,b,l2,t0,t1,t2,t3,u,v,L,a2,a3,hG2,hw2,hS2,hL,by omega,Z0⟩
     have wait:∀ n9:Nat,∀ τ9,Hx σ0 τ9 [.box 17 n9 cs,.box 1 n6 [q0,q1,q2,q3],.th (own A8 [q0,q1,q2,q3] (Bz l2.state W[i]).1),.box 1 n (logV l2 t0 t1 t2 t3 u w),.th (own A8 [t0,t1,t2,t3] l2.state),.th (ow Ab u l2.units),.th (ow Ab v L),.th (own Ab cs W[i]),.th (rst Ab w W i cs),.th r]->∀ k:Kx,(∀ v' h' τ',(∀ env',env' 0= .ptr n 0->env' 2= .bool b->env' 3=v'->J2 (i+1) env' τ')->k v' h' τ')->genX σ0 false τ9 (appV 17 264 τ9 v (.sl n9 0 1)) k:=fun n9 τ9 H9 k hk=>by
      refine Mz H9 7 6 rfl rfl L9 (by decide) (by omega) fun v' τ10 H10=> ?_
      refine hk _ _ _ fun env' a0 a2 a3=> ?_
      obtain⟨hz,HZ,Z0⟩:=A6s (A0g (H10.re [3,4,5,6,7,8] (by decide))) (by omega)
      refine hJ2 _ _ _ _ HZ ⟨a0,b,l2,t0,t1,t2,t3,u,v',L++[W[i]],a2,a3,hG2,hw2,hS2,fun x hx=> ?_,by rw[Zag,Zam];omega,Z0⟩
      rcases Zai.1 hx with hx|hx
      ·exact hL x hx
      ·rw[Zah.1 hx];exact Zae hi
     obtain⟨c,hc⟩:∃ c,c=(Bz l2.state W[i]).2:=⟨_,rfl⟩
     rw[<- hc]
     by_cases h0:c=0
     ·subst h0
      have b0:((0:Int)==0)=true:=rfl
      have b1:((0:Int) != 1)=true:=rfl
      by_cases hn:l2.units.length<60
      ·have bn:decide ((l2.units.length:Int)<60)=true:=by simp;omega
       simp +contextual (disch:=omega) only[go_sem,e0,e2,e3,ei,A3,hwl,hul,bn,b0,b1,y1,y4,Ai (cs:=zeU) hcl rfl,hcl]
       obtain⟨u',τ7,R7,H7⟩:=Vn l2 n t0 t1 t2 t3 u w q0 q1 q2 q3 (H6.re [2,4,1,5,6,7,8] (by decide)) hg cs W[i] (fun τ' H'=>H'.hp.rd 2 rfl) (by omega) (by omega)
       refine by_m R7 H7 ?_
       simp +contextual (disch:=omega) only[go_sem,e0,e2,e3,ei]
       obtain⟨hz,HZ,Z0⟩:=A6s (l:={l2 with state:=(Bz l2.state W[i]).1,units:=l2.units++[W[i]],time:=Vm l2 W[i]}) (L:=L) (v:=v) (A0g (H7.re [0,2,1,3,5,6] (by decide))) (by omega)
       have htm:=A37 hok
       have htl:=hG2.tm
       refine hJ2 _ _ _ _ HZ ⟨by simp +contextual (disch:=omega) only[go_sem,e0],true,{l2 with state:=(Bz l2.state W[i]).1,units:=l2.units++[W[i]],time:=Vm l2 W[i]},q0,q1,q2,q3,u',v,L,by simp +contextual (disch:=omega) only[go_sem],by simp +contextual (disch:=omega) only[go_sem,e3],A06 hG2 hok hbt hc.symm hn (by unfold Vm;split<;>omega),hw2,⟨hS2.1,fun x hx=> ?_,hS2.2.2⟩,hL,by(try simp only[if_true]);split at hLb<;>omega,Z0⟩
       rcases Zai.1 hx with hx|hx
       ·exact hS2.2.1 x hx
       ·rw[Zah.1 hx,<-hW0];exact .inr (Zae hi)
      ·have bn:decide ((l2.units.length:Int)<60)=false:=by simp;omega
       simp +contextual (disch:=omega) only[go_sem,e0,e2,e3,ei,A3,hwl,hul,bn,b0,b1,y1,y4,Ai (cs:=zeU) hcl rfl,hcl]
       intro n9 f9 τ9 H9
       refine wait n9 τ9 H9 _ fun v' h' τ' hk=> ?_
       simp +contextual (disch:=omega) only[go_sem,e0,e2,e3,ei]
       exact hk _ (by simp +contextual (disch:=omega) only[go_sem,e0]) (by simp +contextual (disch:=omega) only[go_sem,e2]) (by simp +contextual (disch:=omega) only[go_sem])
     ·have b0:(c==0)=false:=by simpa using h0
      by_cases h1:c=1
      ·have b1:(c != 1)=false:=by simp[h1]
       simp +contextual (disch:=omega) only[go_sem,e0,e2,e3,ei,b0,b1]
       exact stay _ (by simp +contextual (disch:=omega) only[go_sem,e0]) (by simp +contextual (disch:=omega) only[go_sem,e2]) (by simp +contextual (disch:=omega) only[go_sem,e3])
      ·have b1:(c != 1)=true:=by simpa using h1
       simp +contextual (disch:=omega) only[go_sem,e0,e2,e3,ei,A3,hwl,hul,b0,b1,y1,y4,Ai (cs:=zeU) hcl rfl,hcl]
       intro n9 f9 τ9 H9
       refine wait n9 τ9 H9 _ fun v' h' τ' hk=> ?_
       simp +contextual (disch:=omega) only[go_sem,e0,e2,e3,ei]
       exact hk _ (by simp +contextual (disch:=omega) only[go_sem,e0]) (by simp +contextual (disch:=omega) only[go_sem,e2]) (by simp +contextual (disch:=omega) only[go_sem])
    ·clear H H3 H4 H5 HZ Z0 e0 e2 hG1
     rintro Y2 hY2 env h τ ei c0 H ⟨e0,b,l2,t0,t1,t2,t3,u,v,L,e2,e3,hG2,hw2,hS2,hL,hLb,hz⟩
     rcases hz with⟨hz,_⟩|⟨_,rfl⟩
     ·exact absurd hz (Nat.lt_irrefl _)
     simp +contextual (disch:=omega) only[go_sem,c0,e0,e2,e3,ei,hwl]
     exact hY2 _ _ _ H ⟨e0,b,l2,t0,t1,t2,t3,u,v,L,e2,e3,hG2,hw2,hS2,hL,hLb,rfl⟩
    ·clear H H3 H4 H5 HZ Z0 e0 e2
     rintro env h τ H ⟨e0,b,l2,t0,t1,t2,t3,u,v,L,e2,e3,hG2,hw2,hS2,hL,hLb,rfl⟩
     have cv:=(H.hp.sl 3 rfl).cell
     simp +contextual (disch:=omega) only[go_sem,e0,e2,e3,cv]
     intro τ7 H7
     have hwn:=hG2.nw
     rw[hw2] at hwn
     refine⟨2*L.length+(if b then 1 else 0),?_,hJ _ _ _ _ (H7.re [0,1,2,3,5] (by decide)) ⟨by simp +contextual (disch:=omega) only[go_sem,e0],b,{l2 with waits:=L},t0,t1,t2,t3,u,v,by simp +contextual (disch:=omega) only[go_sem,e2],⟨hG2.rp,hG2.tm,hG2.st,hG2.un,fun x hx=>hWa x (hL x hx),hG2.nu,by show L.length<=6;split at hLb<;>omega,hG2.ub,fun x hx=>hWb x (hL x hx),hG2.run⟩,hS1.trans ⟨hS2.1,hS2.2.1,fun x hx=>by rw[<- hW0];exact hL x hx⟩,rfl,rfl⟩⟩
     rw[<- hW0]
     cases b<;>simp only[if_true,Bool.false_eq_true,if_false] at hLb ⊢ <;>omega
  ·rintro env h τ H ⟨l',t0,t1,t2,t3,u,w,hG',hS',rfl⟩
   simp +contextual (disch:=omega) only[go_sem]
   exact fun _=>⟨_,rfl,l',t0,t1,t2,t3,u,w,rfl,hG',hS',H⟩
 obtain⟨q,τ,R,l',t0,t1,t2,t3,u,w,rfl,h⟩:=key
 exact⟨τ,l',t0,t1,t2,t3,u,w,R,h⟩
abbrev A38:Nat:=267
def A39:Fn1:=⟨77,[.c 4 true 8,.t 5],(rg [oX 2 0,oX 3 1,o 4 (.new [z0,z0,.nilS,.nilS,.nilS,.nilS,.nilS,.nilS]),oV 5 (ki 0)] (rg [oW 11 8 2,oC 12 327 11,o 6 (.new [z0,z0,.nilS,.nilS,.nilS,.nilS,.nilS,.nilS]),oS 8 6 12] (.seq (rg [oW 13 17 3,oC 14 97 13,oU 15 14,oM 16 15,vW 17 16 8 2,vC 18 16 328 17,vU 19 16 18,oP 20 16 19] (cn 20 (rg [oW 21 8 6,oS 8 4 21,oV 5 (ki 3)] .ret) .skip)) (rg [oF 23 2 2,oW 24 4 23,oW 25 17 3,oD 26 44 24 25,oM 22 26,o 27 (.ext 0 (.t 22)),o 28 (.ext 1 (.t 22)),o 7 (.new [.nilS,.nilS,.nilS,.nilS]),oS 4 7 27,oM 8 28] (.seq (rg [oM 29 8,oE 30 .eql 29 2] (cn 30 (rg [oF 31 7 2,oL 32 31,oN 33 32,oE 34 .geq 33 6,oM 9 34] (.seq (rg [oV 10 (ki 0)] (.blk 0 (.lop (.seq (rg [oM 35 10,oF 36 7 2,oL 37 36,oN 38 37,oB 39 .lss 35 38] (cn 39 .skip (.ext 0))) (.seq (.blk 1 (.drw [oM 42 9,oM 43 42,vF 44 43 7 2,vL 45 43 44,vM 46 43 10,vI 47 43 17 45 46,vW 48 43 17 47,vW 49 43 17 3] [vD 50 43 186 48 49,oP 51 43 50,oM 9 51])) (.reg [oM 40 10,oZ 41 40 1,oM 10 41])))))) (.seq (rg [oM 52 9,oU 53 52] (cn 53 (.drw [oF 54 7 6,oL 55 54,oW 56 17 3,oC 57 99 56,o 58 (.lit 17 1 [(.bool false),z0,z0,z0,.nilS,z0,s0,s0,z0,z0,z0,.nilS,.nilS,.nilS,.nilS,.nilS,.nilS] [(0,17,(.t 57))])] [o 59 (.app 17 264 [(.bool false),z0,z0,z0,.nilS,z0,s0,s0,z0,z0,z0,.nilS,.nilS,.nilS,.nilS,.nilS,.nilS] (.t 55) (.t 58)),oF 60 7 6,oS 1 60 59]) .skip)) (rg [oW 61 8 6,oM 62 8,oS 8 4 61,oM 5 62] .ret)))) .skip)) (.seq (rg [oM 63 8,oE 64 .neq 63 0] (cn 64 (rg [oW 65 8 6,oM 66 8,oS 8 4 65,oM 5 66] .ret) .skip)) (.seq (rg [oF 67 6 2,oL 68 67,oN 69 68,oE 70 .geq 69 60] (cn 70 (rg [oW 71 8 6,oS 8 4 71,oV 5 (ki 4)] .ret) .skip)) (rg [oW 72 17 3,oW 73 4 7,o 74 (.call 329 [(.t 6),(.t 72),(.t 73)])] (rg [oC 75 330 6] (rg [oW 76 8 6,oS 8 4 76,oV 5 (ki 0)] .ret))))))))))⟩
theorem A83:A6 Tryz.prog A38=some A39:=by kernel_rfl
def HeS (l:Log) (x:Unit_) (l':Log):Prop:=l'.rep=l.rep/\(∀ y∈l'.units,y∈l.units∨y∈l.waits∨y=x)/\∀ y∈l'.waits,y∈l.waits∨y=x
theorem HeS.refl (l:Log) (x:Unit_):HeS l x l:=⟨rfl,fun y h=>.inl h,fun y h=>.inl h⟩
theorem A9z (σ:St) (cs:List GV) (l:Log) (hR:kLog.R σ l cs) (hG:LogG l) (us:List GV) (x:Unit_) (hU:Ab.R σ x us) (hx:Cz x=true) (hb:x.batch=false):∃ q τ,Ret Tryz.prog A38 [.agg cs,.agg us] σ q τ/\∃ ds c l',q= .tup [.agg ds,gi c]/\LogG l'/\HeS l x l'/\Hp σ τ [own kLog ds l']:=by
 have hlm:=hG.ms
 have hst:=hG.st.ms
 have hxm:=N5 hx
 have hnw:=hG.nw
 have hnu:=hG.nu
 have gu:us.length=17:=Ab.len hU
 have hR0:=hR
 obtain⟨s0,s1,s2,s3,u,w,rfl,hS,hUn,hW⟩:=Hg hR
 refine Fi A83 (Z0z rfl) (Hx.refl σ) ?_
 simp +contextual (disch:=omega) only[go_sem,A39]
 intro n2 f2 τ1 _ n3 f3 τ2 _ n4 f4 τ3 H3
 obtain⟨ds,τ5,R5,K5⟩:=Ou τ3 _ l (kLog.pre hR0 H3.sub) (by omega)
 have gd:ds.length=8:=kLog.len (K5.rd 0 rfl)
 refine by_c H3 R5 K5 fun H5=> ?_
 simp +contextual (disch:=omega) only[go_sem,Ai (cs:=Q7) gd rfl,gd]
 intro n6 f6 τ60 _ τ6 H6
 try simp +contextual (disch:=omega) only[go_sem,A9 gu]
 refine by_r H6 (Jn _ us x (Ab.pre hU H6.sub) (by omega)) ?_
 simp +contextual (disch:=omega) only[go_sem,hx]
 obtain⟨_,τ7,R7,b,rfl,K7,hbt⟩:=Vh τ6 _ l (kLog.pre hR0 H6.sub) hG
 have H7:Hp σ τ7 (([]:List Thg)++_):=H6.hp.add K7
 obtain⟨v2,v3,v4,rfl,X⟩:=Hp.splitLog (H7.pick 1 rfl)
 obtain⟨t0,t1,t2,t3,rfl,_⟩:=X.rd 0 rfl
 have H8:Hx σ τ7 [.th (own A8 [t0,t1,t2,t3] l.state),.th (ow Ab v3 l.units),.th (ow Ab v4 l.waits),.box 1 n6 (logV l t0 t1 t2 t3 v3 v4),.box 1 n4 Q7,.box 1 n3 us,.box 1 n2 (logV l s0 s1 s2 s3 u w)]:=X
 refine by_m R7 H8 ?_
 have fin:∀(τ:St) (l':Log) (p0 p1 p2 p3 p4 p5:GV) (rs:List Thg),Hp σ τ (own A8 [p0,p1,p2,p3] l'.state::ow Ab p4 l'.units::ow Ab p5 l'.waits::rs)->Hp σ τ [own kLog (logV l' p0 p1 p2 p3 p4 p5) l']:=fun τ l' p0 p1 p2 p3 p4 p5 rs H=>(Hp.ownLog (x:=l') H).sel [0] (by decide)
 cases b with
 |false=>
  simp +contextual (disch:=omega) only[go_sem]
  intro τ8 H8
  exact⟨_,rfl,_,_,l,rfl,hG,HeS.refl l x,fin _ l _ _ _ _ _ _ _ H8.hp⟩
 |true=>
  simp +contextual (disch:=omega) only[go_sem]
  obtain⟨q,τ9,R9,K9⟩:=N0 τ7 _ l.state (A8.pre hS H8.sub) us x (Ab.pre hU H8.sub) (by omega) (by omega) hb
  obtain⟨q0,q1,q2,q3,rfl,_⟩:=K9.rd 0 rfl
  try simp +contextual (disch:=omega) only[go_sem,A9 gu]
  refine by_c H8 R9 K9 fun H9=> ?_
  simp +contextual (disch:=omega) only[go_sem]
  intro n7 f7 τ100 _ τ10 H10
  obtain⟨c,hc⟩:∃ c,c=(Bz l.state x).2:=⟨_,rfl⟩
  rw[<- hc]
  by_cases h2:c=2
  ·subst h2
   have b2:((2:Int)==2)=true:=rfl
   simp +contextual (disch:=omega) only[go_sem,hW.len,b2]
   obtain⟨b0,hb0⟩:∃ b0,b0=decide (6<=(l.waits.length:Int)):=⟨_,rfl⟩
   rw[<- hb0]
   refine Cf l.waits.length 10 0 (fun i env h=>env 2= .ptr n2 0/\env 3= .ptr n3 0/\env 4= .ptr n4 0/\env 6= .ptr n6 0/\env 8=gi 2/\∃ b:Bool,env 9= .bool b/\(b=false->l.waits.length<6)/\h=[.box 1 n7 [q0,q1,q2,q3],.th (own A8 [q0,q1,q2,q3] (Bz l.state x).1),.th (own A8 [t0,t1,t2,t3] l.state),.th (ow Ab v3 l.units),.th (ow Ab v4 l.waits),.box 1 n6 (logV l t0 t1 t2 t3 v3 v4),.box 1 n4 Q7,.box 1 n3 us,.box 1 n2 (logV l s0 s1 s2 s3 u w)]) (fun env h=>env 3= .ptr n3 0/\env 4= .ptr n4 0/\env 6= .ptr n6 0/\env 8=gi 2/\∃ b:Bool,env 9= .bool b/\(b=false->l.waits.length<6)/\h=[.box 1 n7 [q0,q1,q2,q3],.th (own A8 [q0,q1,q2,q3] (Bz l.state x).1),.th (own A8 [t0,t1,t2,t3] l.state),.th (ow Ab v3 l.units),.th (ow Ab v4 l.waits),.box 1 n6 (logV l t0 t1 t2 t3 v3 v4),.box 1 n4 Q7,.box 1 n3 us,.box 1 n2 (logV l s0 s1 s2 s3 u w)]) (fun _ _=>False) _ H10 (by simp +contextual (disch:=omega) only[go_sem]) ⟨by simp +contextual (disch:=omega) only[go_sem],by simp +contextual (disch:=omega) only[go_sem],by simp +contextual (disch:=omega) only[go_sem],by simp +contextual (disch:=omega) only[go_sem],by simp +contextual (disch:=omega) only[go_sem],b0,by simp +contextual (disch:=omega) only[go_sem],fun h=>by rw[hb0] at h;have:=of_decide_eq_false h;omega,rfl⟩ ?_ ?_ ?_ (fun _ _ _ _ h=>h.elim)
   ·clear H3 H5 H6 H7 X H8 H9 H10
    rintro J Y W' hJ hY hW' i env h τ hi ei c0 H ⟨e2,e3,e4,e6,e8,b,e9,hb9,rfl⟩
    cases b with
    |true=>
     simp +contextual (disch:=omega) only[go_sem,c0,e2,e3,e4,e6,e8,e9,ei,hW.len]
     exact hJ _ _ _ _ H ⟨by simp +contextual (disch:=omega) only[go_sem,e2],by simp +contextual (disch:=omega) only[go_sem,e3],by simp +contextual (disch:=omega) only[go_sem,e4],by simp +contextual (disch:=omega) only[go_sem,e6],by simp +contextual (disch:=omega) only[go_sem,e8],true,by simp +contextual (disch:=omega) only[go_sem],hb9,rfl⟩
    |false=>
     obtain⟨kv,d0,d1,d2,d3,d4,d5,U,hUw,_,_⟩:=On hW hi
     have hwm:=N5 (hG.wa l.waits[i] (Zae hi))
     simp +contextual (disch:=omega) only[go_sem,c0,e2,e3,e4,e6,e8,e9,ei,hW.len,A3,U,A9 gu]
     refine by_r H (Wq _ _ us l.waits[i] x (Ab.pre hUw H.sub) (Ab.pre hU H.sub) (by omega) (by omega)) ?_
     simp +contextual (disch:=omega) only[go_sem,ei]
     exact hJ _ _ _ _ H ⟨by simp +contextual (disch:=omega) only[go_sem,e2],by simp +contextual (disch:=omega) only[go_sem,e3],by simp +contextual (disch:=omega) only[go_sem,e4],by simp +contextual (disch:=omega) only[go_sem,e6],by simp +contextual (disch:=omega) only[go_sem,e8],decide (l.waits[i]=x),by simp +contextual (disch:=omega) only[go_sem],fun _=>hb9 rfl,rfl⟩
   ·clear H3 H5 H6 H7 X H8 H9 H10
    rintro Y hY env h τ ei c0 H ⟨e2,e3,e4,e6,e8,b,e9,hb9,rfl⟩
    simp +contextual (disch:=omega) only[go_sem,c0,e2,ei,hW.len]
    exact hY _ _ _ H ⟨e3,e4,e6,e8,b,e9,hb9,rfl⟩
   ·clear H3 H5 H6 H7 X H8 H9 H10
    rintro env h τ H ⟨e3,e4,e6,e8,b,e9,hb9,rfl⟩
    cases b with
    |true=>
     simp +contextual (disch:=omega) only[go_sem,e4,e6,e8,e9]
     intro τ11 H11
     exact⟨_,rfl,_,_,l,rfl,hG,HeS.refl l x,fin _ l _ _ _ _ _ _ _ (H11.re [2,3,4] (by decide)).hp⟩
    |false=>
     have hlt:=hb9 rfl
     simp +contextual (disch:=omega) only[go_sem,e3,e4,e6,e8,e9,A9 gu]
     obtain⟨a,τ11,R11,K11⟩:=G5 τ us x (Ab.pre hU H.sub) (by omega)
     have al:a.length=17:=Ab.len (K11.rd 0 rfl)
     refine by_c H R11 K11 fun H11=> ?_
     simp +contextual (disch:=omega) only[go_sem,Ai (cs:=zeU) al rfl,al]
     intro n12 f12 τ12 H12
     refine Mz H12 1 5 rfl rfl L9 (by decide) (by omega) fun v' τ13 H13=> ?_
     have cv:=(H13.hp.sl 5 rfl).cell
     simp +contextual (disch:=omega) only[go_sem,e4,e6,e8,cv]
     intro τ14 _ τ15 H15
     exact⟨_,rfl,_,_,{l with waits:=l.waits++[x]},rfl,Abb hG hx hb hlt,⟨rfl,fun y h=>.inl h,fun y h=>(Zai.1 h).imp id fun h=>Zah.1 h⟩,fin _ {l with waits:=l.waits++[x]} _ _ _ _ _ _ _ (H15.re [3,4,5] (by decide)).hp⟩
  have b2:(c==2)=false:=by simpa using h2
  by_cases h0:c=0
  rotate_left
  ·have b0:(c != 0)=true:=by simpa using h0
   simp +contextual (disch:=omega) only[go_sem,b2,b0]
   intro τ11 H11
   exact⟨_,rfl,_,_,l,rfl,hG,HeS.refl l x,fin _ l _ _ _ _ _ _ _ (H11.re [2,3,4] (by decide)).hp⟩
  subst h0
  have b0:((0:Int) != 0)=false:=rfl
  by_cases hn:60<=l.units.length
  ·have bn:decide (60<=(l.units.length:Int))=true:=by simp;omega
   simp +contextual (disch:=omega) only[go_sem,hUn.len,bn,b0,b2]
   intro τ11 H11
   exact⟨_,rfl,_,_,l,rfl,hG,HeS.refl l x,fin _ l _ _ _ _ _ _ _ (H11.re [2,3,4] (by decide)).hp⟩
  have bn:decide (60<=(l.units.length:Int))=false:=by simp;omega
  simp +contextual (disch:=omega) only[go_sem,hUn.len,bn,b0,b2,A9 gu]
  obtain⟨u',τ11,R11,H11⟩:=Vn l n6 t0 t1 t2 t3 v3 v4 q0 q1 q2 q3 (H10.re [5,3,1,4,6,7,8] (by decide)) f6.2.2.2 us x (fun τ' H'=>Ab.pre hU H'.sub) (by omega) (by omega)
  have H11:Hx σ τ11 [.box 1 n6 (logV {l with state:=(Bz l.state x).1,units:=l.units++[x],time:=Vm l x} q0 q1 q2 q3 u' v4),.th (ow Ab u' (l.units++[x])),.th (own A8 [q0,q1,q2,q3] (Bz l.state x).1),.th (ow Ab v4 l.waits),.box 1 n4 Q7,.box 1 n3 us,.box 1 n2 (logV l s0 s1 s2 s3 u w)]:=H11
  refine by_m R11 H11 ?_
  simp +contextual (disch:=omega) only[go_sem]
  have htm:=A37 hx
  have htl:=hG.tm
  have hG1:LogG {l with state:=(Bz l.state x).1,units:=l.units++[x],time:=Vm l x}:=A06 hG hx hb hc.symm (by omega) (by unfold Vm;split<;>omega)
  have H12:Hx σ τ11 (lgI n6 {l with state:=(Bz l.state x).1,units:=l.units++[x],time:=Vm l x} q0 q1 q2 q3 u' v4 (bun [pt 1 n4 Q7])):=Hp.bun [_,_,_,_] [pt 1 n4 Q7] ((H11.re [0,2,1,3,4] (by decide)).hp)
  obtain⟨τ13,l',p0,p1,p2,p3,p4,p5,R13,hG',hS',H13⟩:=A5t _ hG1 n6 q0 q1 q2 q3 u' v4 _ H12 f6.2.2.2
  have H14:Hx σ τ13 [.box 1 n6 (logV l' p0 p1 p2 p3 p4 p5),.th (own A8 [p0,p1,p2,p3] l'.state),.th (ow Ab p4 l'.units),.th (ow Ab p5 l'.waits),.box 1 n4 Q7]:=Hp.unbun [_,_,_,_] [pt 1 n4 Q7] H13.hp
  refine by_m R13 H14 ?_
  simp +contextual (disch:=omega) only[go_sem]
  intro τ15 H15
  refine⟨_,rfl,_,_,l',rfl,hG',⟨hS'.1,fun y hy=> ?_,fun y hy=>.inl (hS'.2.2 y hy)⟩,fin _ l' _ _ _ _ _ _ _ (H15.re [1,2,3] (by decide)).hp⟩
  rcases hS'.2.1 y hy with h|h
  ·rcases Zai.1 h with h|h
   ·exact .inl h
   ·exact .inr (.inr (Zah.1 h))
  ·exact .inr (.inl h)
def told {α:Type} (d:Kd α):Kd (α×List GV) where
 z:=d.z
 R σ x cs:=d.R σ x.1 cs/\cs=x.2
 O σ x cs fp:=d.O σ x.1 cs fp/\cs=x.2
 len:=fun h=>d.len h.1
 pre:=fun h hp=>⟨d.pre h.1 hp,h.2⟩
 rd:=fun h=>⟨d.rd h.1,h.2⟩
 loc:=fun h hf=>⟨d.loc h.1 hf,h.2⟩
section
variable {α:Type} {d:Kd α} {σ τ:St} {rs:List Thg} {v:GV} {l:List α} {m:List (α×List GV)} {h:List Item}
theorem Aa0 {css:List (List GV)} {fps:List (List Nat)} (h:All3 (d.O τ) l css fps):∃ m:List (α×List GV),m.map Prod.fst=l/\All3 ((told d).O τ) m css fps:=by
 induction h with
 |nil=>exact⟨[],rfl,.nil⟩
 | @cons a b c l' bs cs h _ ih=>
  obtain⟨m,rfl,hm⟩:=ih
  exact⟨(a,b)::m,rfl,.cons ⟨h,rfl⟩ hm⟩
theorem A5u {css:List (List GV)} {fps:List (List Nat)} (h:All3 ((told d).O τ) m css fps):All3 (d.O τ) (m.map Prod.fst) css fps:=by
 induction h with
 |nil=>exact .nil
 |cons h _ ih=>exact .cons h.1 ih
theorem Hp.tell (H:Hp σ τ (ow d v l::rs)):∃ m:List (α×List GV),m.map Prod.fst=l/\Hp σ τ (ow (told d) v m::rs):=by
 obtain⟨h,fp,⟨a,b,hr,hs,rfl⟩,hn,hb⟩:=H
 rcases hr with⟨rfl,rfl,rfl⟩|⟨g,pre,css,post,fps,rfl,hB,hA,rfl⟩
 ·exact⟨[],rfl,h,_,⟨[],b,.inl ⟨rfl,rfl,rfl⟩,hs,rfl⟩,hn,hb⟩
 ·obtain⟨m,rfl,hm⟩:=Aa0 hA
  exact⟨m,rfl,h,_,⟨_,b,.inr ⟨g,pre,css,post,fps,by rw[Zal],hB,hm,rfl⟩,hs,rfl⟩,hn,hb⟩
theorem Hp.untell (H:Hp σ τ (ow (told d) v m::rs)):Hp σ τ (ow d v (m.map Prod.fst)::rs):=
 H.conv fun fp h=>by
  rcases h with⟨rfl,rfl,rfl⟩|⟨g,pre,css,post,fps,rfl,hB,hA,rfl⟩
  ·exact .inl ⟨rfl,rfl,rfl⟩
  ·exact .inr ⟨g,pre,css,post,fps,by rw[Zal],hB,A5u hA,rfl⟩
theorem Hx.told_rd (H:Hx σ τ h) (i:Nat) (hi:h[i]? =some (.th (ow (told d) v m))) {j:Nat} (hj:j<m.length):iadG d.z v (some j)=some (atz d.z v j)/\(∀ k,fadG k (atz d.z v j)=some (fld k (atz d.z v j)))/\(∀ k q,fadG k (fld q (atz d.z v j))=some (fld (q+k) (atz d.z v j)))/\ldX σ h τ true d.z (atz d.z v j)=some (.agg m[j].2)/\(∀ k n a x,k+n<=d.z->(seg m[j].2 k n).bind (mkv a)=some x->ldX σ h τ a n (fld k (atz d.z v j))=some x)/\d.R τ m[j].1 m[j].2:=by
 obtain⟨cs,⟨h1,h2,h3,h4,h5⟩,h6,rfl⟩:=RdN.cellsN (d:=told d) (H.hp.sl i (at_t hi)) hj
 exact⟨h1,h2,h3,Dz H h4,fun k n a x hk hx=>Dz H ((h5 k n a hk).trans hx),h6⟩
variable {s s':List (List GV×α)} {cs:List GV} {x:α}
end
abbrev Nd:Nat:=162
def Vo:Fn1:=⟨73,[.t 4],(rg [o 4 (.mov (.k .nilS))] (rg [o 10 (.lit 8 0 [] []),oM 5 10] (.seq (rg [oV 6 (ki 0)] (.blk 0 (.lop (.seq (rg [oM 11 6,oE 12 .lss 11 3] (cn 12 .skip (.ext 0))) (.seq (.blk 1 (.reg [oM 15 5,oM 16 6,oC 17 266 16,o 18 (.lit 8 1 [z0,z0,.nilS,.nilS,.nilS,.nilS,.nilS,.nilS] [(0,8,(.t 17))]),o 19 (.app 8 160 [z0,z0,.nilS,.nilS,.nilS,.nilS,.nilS,.nilS] (.t 15) (.t 18)),oM 5 19])) (.reg [oM 13 6,oZ 14 13 1,oM 6 14])))))) (.seq (rg [oV 7 (ki 0)] (.blk 2 (.lop (.seq (rg [oM 20 7,oM 21 1,oB 22 .lss 20 21] (cn 22 .skip (.ext 2))) (.seq (.blk 3 (rg [oM 25 0,o 26 (.call 163 [(.t 25),(ki 3)]),oM 8 26] (.seq (rg [oM 27 0,o 28 (.call 202 [(.t 27),(ki 3)])] (cn 28 (rg [oM 29 5,oM 30 0,o 31 (.call 163 [(.t 30),(ki 3)]),oI 32 8 29 31,oW 33 8 32,o 9 (.new [z0,z0,.nilS,.nilS,.nilS,.nilS,.nilS,.nilS]),oS 8 9 33] (.seq (rg [oF 34 6 9,oL 35 34,oN 36 35,oE 37 .gtr 36 0] (cn 37 (.drw [] [oM 39 5,oM 40 8,oM 41 5,oM 42 8,oI 43 8 41 42,oW 44 8 43,oF 45 6 9,oL 46 45,oM 47 0,oF 48 6 9,oL 49 48,oN 50 49,oD 51 163 47 50,on (.chk 44 (.ld true 8 (.t 43))),on (.chk 46 (.ld false 1 (.t 45))),oI 52 17 46 51,oW 53 17 52,oD 54 267 44 53,oM 38 54,o 55 (.ext 0 (.t 38)),o 56 (.ext 1 (.t 38)),oI 57 8 39 40,oS 8 57 55]) .skip)) (.ext 3))) .skip)) (.drw [] [oM 59 5,oM 60 8,oM 61 5,oM 62 8,oI 63 8 61 62,oW 64 8 63,oM 65 0,oC 66 269 65,on (.chk 64 (.ld true 8 (.t 63))),oD 67 268 64 66,oM 58 67,o 68 (.ext 0 (.t 58)),o 69 (.ext 1 (.t 58)),o 70 (.ext 2 (.t 58)),oI 71 8 59 60,oS 8 71 68])))) (.reg [oM 23 7,oZ 24 23 1,oM 7 24])))))) (rg [oM 72 5,oM 4 72] .ret)))))⟩
theorem A3a:Fs true Tryz.prog Nd=some Vo:=by kernel_rfl
def news (n:Nat):List Log:=(List.range n).map fun k:Nat=>⟨(k:Int),0,st0,[],[]⟩
theorem Aa1 (n:Nat):news (n+1)=news n++[⟨(n:Int),0,st0,[],[]⟩]:=by unfold news;rw[List.range_succ,Za9];rfl
theorem Abf (n:Nat):(news n).length=n:=by simp[news]
inductive Lgs:List Log->Prop
 |new:Lgs (news 3)
 |edit {ls:List Log} {r:Nat} {l:Log} (e:Edit) {l':Log}:Lgs ls->ls[r]? =some l->EdD e->EdS l e l'->LogG l'->Lgs (ls.set r l')
 |hear {ls:List Log} {r f:Nat} {l g:Log} (u:Unit_) {l':Log}:Lgs ls->ls[r]? =some l->ls[f]? =some g->u∈g.units->HeS l u l'->LogG l'->Lgs (ls.set r l')
theorem Lgs.len {ls:List Log} (h:Lgs ls):ls.length=3:=by
 induction h with
 |new=>rfl
 |edit _ _ _ _ _ _ ih=>rw[Zbd];exact ih
 |hear _ _ _ _ _ _ _ ih=>rw[Zbd];exact ih
theorem Lgs.g {ls:List Log} (h:Lgs ls):∀ l∈ls,LogG l:=by
 induction h with
 |new=>
  intro l hl
  obtain⟨k,hk,rfl⟩:=List.mem_map.1 hl
  have:=List.mem_range.1 hk
  exact Adl ⟨by omega,by omega⟩
 |edit _ _ _ _ _ hg ih=>
  intro l hl
  rcases Zar hl with h|h
  ·exact ih l h
  ·rw[h];exact hg
 |hear _ _ _ _ _ _ hg ih=>
  intro l hl
  rcases Zar hl with h|h
  ·exact ih l h
  ·rw[h];exact hg
theorem Adm {σ:St} {x:Log} {s0 s1 s2 s3 u w:GV} (h:kLog.R σ x (logV x s0 s1 s2 s3 u w)):A8.R σ x.state [s0,s1,s2,s3]/\RS Ab σ u x.units/\RS Ab σ w x.waits:=by
 obtain⟨t0,t1,t2,t3,u',w',e,h1,h2,h3⟩:=Hg h
 injection e with _ e;injection e with _ e;injection e with e0 e;injection e with e1 e;injection e with e2 e;injection e with e3 e;injection e with e4 e;injection e with e5 _
 subst e0 e1 e2 e3 e4 e5
 exact⟨h1,h2,h3⟩
section
variable {σ0 σ:St} {h:List Item} {c v:GV} {bs:List Int}
theorem A5v (H:Hx σ0 σ h) (k:Nat) (hk:h[k]? =some (cuI c v bs)) (D:Dr σ0 v bs) (n:Nat) (hn:n<=1000):∃(r:GV) (ls:List Log) (τ:St),Lgs ls/\Ret Tryz.prog Nd [c,gi n] σ r τ/\Hx σ0 τ (.th (ow kLog r ls)::h):=by
 have key:∃ w τ,Ret Tryz.prog Nd [c,gi n] σ w τ/\∃ ls,Lgs ls/\Hx σ0 τ (.th (ow kLog w ls)::h):=by
  refine Fi A3a (Z0z rfl) H ?_
  simp +contextual (disch:=omega) only[go_sem,Vo]
  intro n1 f1 τ1 H1
  have g1:=Db f1
  refine Cf 3 6 0 (fun i env hh=>env 0=c/\env 1=gi n/\∃ w,env 5=w/\hh= .th (ow kLog w (news i))::h) (fun env hh=>env 0=c/\env 1=gi n/\∃ w,env 5=w/\hh= .th (ow kLog w (news 3))::h) (fun _ _=>False) _ (H1.emp kLog rfl) (by simp +contextual (disch:=omega) only[go_sem]) ⟨by simp +contextual (disch:=omega) only[go_sem],by simp +contextual (disch:=omega) only[go_sem],.sl n1 0 0,by simp +contextual (disch:=omega) only[go_sem],rfl⟩ ?_ ?_ ?_ (fun _ _ _ _ h=>h.elim)
  ·clear H1
   rintro J Y W hJ hY hW i env h' τ hi ei c0 H ⟨e0,e1,w,e5,rfl⟩
   have c0:decide ((i:Int)<3)=true:=c0
   simp +contextual (disch:=omega) only[go_sem,c0,e0,e1,e5,ei]
   obtain⟨cs,τ2,R2,K2⟩:=A31 τ i
   have gl:cs.length=8:=kLog.len (K2.rd 0 rfl)
   refine by_c H R2 K2 fun H2=> ?_
   simp +contextual (disch:=omega) only[go_sem,Ai (cs:=Q7) gl rfl,gl]
   intro n3 f3 τ3 H3
   refine Mz H3 1 1 rfl rfl L9 (by decide) (by rw[Abf];omega) fun w' τ4 H4=> ?_
   simp +contextual (disch:=omega) only[go_sem,ei]
   exact hJ _ _ _ _ H4.tl ⟨by simp +contextual (disch:=omega) only[go_sem,e0],by simp +contextual (disch:=omega) only[go_sem,e1],w',by simp +contextual (disch:=omega) only[go_sem],by rw[Aa1];rfl⟩
  ·clear H1
   rintro Y hY env h' τ ei c0 H ⟨e0,e1,w,e5,rfl⟩
   have ei:env 6=gi 3:=ei
   have c3:decide ((3:Int)<3)=false:=rfl
   simp +contextual (disch:=omega) only[go_sem,ei,c3]
   exact hY _ _ _ H ⟨e0,e1,w,e5,rfl⟩
  ·clear H1
   rintro env h' τ H ⟨e0,e1,w,e5,rfl⟩
   simp +contextual (disch:=omega) only[go_sem,e0,e1,e5]
   refine Cf n 7 2 (fun i env hh=>env 0=c/\env 1=gi n/\∃ w ls,env 5=w/\Lgs ls/\hh= .th (ow kLog w ls)::h) (fun env hh=>∃ w ls,env 5=w/\Lgs ls/\hh= .th (ow kLog w ls)::h) (fun _ _=>False) _ H (by simp +contextual (disch:=omega) only[go_sem]) ⟨by simp +contextual (disch:=omega) only[go_sem,e0],by simp +contextual (disch:=omega) only[go_sem,e1],w,_,by simp +contextual (disch:=omega) only[go_sem,e5],.new,rfl⟩ ?_ ?_ ?_ (fun _ _ _ _ h=>h.elim)
   ·clear H e0 e1 e5
    rintro J Y W hJ hY hW i env h' τ hi ei c0 H ⟨e0,e1,w,ls,e5,hLg,rfl⟩
    have hg:=hLg.g
    have hl3:=hLg.len
    simp +contextual (disch:=omega) only[go_sem,c0,e0,e1,e5,ei]
    obtain⟨r,τ1,hr,R1,H1⟩:=Fd H (k+1) hk D 3 (by decide) (by decide)
    refine by_k R1 H1 ?_
    simp +contextual (disch:=omega) only[go_sem,e0,e1,e5,ei]
    obtain⟨b,τ2,R2,H2⟩:=A08 H1 (k+1) hk D 3 (by decide)
    obtain⟨m,rfl,H2'⟩:=Hp.tell H2.hp
    have H2':Hx σ0 τ2 (.th (ow (told kLog) w m)::h):=H2'
    rw[Zal] at hl3
    have hrm:r<m.length:=by omega
    have hmr:(m.map Prod.fst)[r]? =some m[r].1:=by rw[Zat,Zau hrm];rfl
    have hGr:LogG m[r].1:=hg _ (Za0 hmr)
    refine by_k R2 H2' ?_
    cases b with
    |false=>
     have L:=H2'.told_rd 0 rfl hrm
     have L1:iadG 8 w (some r)=some (atz 8 w r):=L.1
     have L4:ldX σ0 (.th (ow (told kLog) w m)::h) τ2 true 8 (atz 8 w r)=some (.agg m[r].2):=L.2.2.2.1
     simp +contextual (disch:=omega) only[go_sem,e0,e1,e5,ei,A3,L1,L4]
     obtain⟨e,τ3,he,R3,H3⟩:=Ot H2' (k+1) hk D
     have M:=H3.told_rd 0 rfl hrm
     have M4:ldX σ0 (.th (ow (told kLog) w m)::h) τ3 true 8 (atz 8 w r)=some (.agg m[r].2):=M.2.2.2.1
     refine by_k R3 H3 ?_
     simp +contextual (disch:=omega) only[go_sem,A3,L1,M4]
     have hsz:=he.size
     obtain⟨_,τ4,R4,ds,us,cc,l',rfl,ul,hG',hE,K4⟩:=A82 τ3 m[r].2 m[r].1 M.2.2.2.2.2 hGr e (by omega) (by omega) (by have:=he.place;omega)
     have H4:Hx σ0 τ4 (.th (own kLog ds l')::.th (ow (told kLog) w m)::h):=H3.hp.add K4
     have H5:Hx σ0 τ4 (.th (ow kLog w (m.map Prod.fst))::.th (own kLog ds l')::h):=Hp.untell (H4.fst 1 rfl).hp
     refine by_m R4 H5 ?_
     simp +contextual (disch:=omega) only[go_sem,e5,A3,L1]
     refine A9w (d:=kLog) H5 1 0 rfl rfl (by decide) (by rw[Zal];exact hrm) fun τ6 H6=> ?_
     simp +contextual (disch:=omega) only[go_sem,ei]
     exact hJ _ _ _ _ H6 ⟨by simp +contextual (disch:=omega) only[go_sem,e0],by simp +contextual (disch:=omega) only[go_sem,e1],w,_,by simp +contextual (disch:=omega) only[go_sem,e5],.edit e hLg hmr he hE hG',rfl⟩
    |true=>
     simp +contextual (disch:=omega) only[go_sem,e0,e1,e5,ei]
     obtain⟨x,τ3,hx,R3,H3⟩:=Fd H2' (k+1) hk D 3 (by decide) (by decide)
     have hxm:x<m.length:=by omega
     have hmx:(m.map Prod.fst)[x]? =some m[x].1:=by rw[Zat,Zau hxm];rfl
     have hGx:LogG m[x].1:=hg _ (Za0 hmx)
     have X:=H3.told_rd 0 rfl hxm
     obtain⟨s0,s1,s2,s3,uu,ww,hcs,hS,hUn,hW'⟩:=Hg X.2.2.2.2.2
     have X1:iadG 8 w (some x)=some (atz 8 w x):=X.1
     have X4:ldX σ0 (.th (ow (told kLog) w m)::h) τ3 true 8 (atz 8 w x)=some (.agg (logV m[x].1 s0 s1 s2 s3 uu ww)):=by rw[<- hcs];exact X.2.2.2.1
     refine by_k R3 H3 ?_
     simp +contextual (disch:=omega) only[go_sem,e0,e1,e5,ei,A3,X1,X4]
     intro n9 f9 τ50 _ τ5 H5
     have g9:σ0.length<=n9:=Db f9
     have hul:=hUn.len
     have hnu:=hGx.nu
     cases hb:decide (0<(m[x].1.units.length:Int)) with
     |false=>
      simp +contextual (disch:=omega) only[go_sem,hul,hb,ei]
      have H6:Hx σ0 τ5 (.th (ow kLog w (m.map Prod.fst))::h):=Hp.untell H5.tl.hp
      exact hJ _ _ _ _ H6 ⟨by simp +contextual (disch:=omega) only[go_sem,e0],by simp +contextual (disch:=omega) only[go_sem,e1],w,_,by simp +contextual (disch:=omega) only[go_sem,e5],hLg,rfl⟩
     |true=>
      have hpos:0<m[x].1.units.length:=by have:=of_decide_eq_true hb;omega
      have L:=H5.told_rd 1 rfl hrm
      have L1:iadG 8 w (some r)=some (atz 8 w r):=L.1
      have L4:ldX σ0 (.box 1 n9 (logV m[x].1 s0 s1 s2 s3 uu ww)::.th (ow (told kLog) w m)::h) τ5 true 8 (atz 8 w r)=some (.agg m[r].2):=L.2.2.2.1
      simp +contextual (disch:=omega) only[go_sem,e0,e1,e5,ei,A3,L1,L4,hul,hb]
      obtain⟨y,τ6,hy,R6,H6⟩:=Fd H5 (k+2) hk D m[x].1.units.length (by omega) (by omega)
      have M:=H6.told_rd 1 rfl hrm
      have M4:ldX σ0 (.box 1 n9 (logV m[x].1 s0 s1 s2 s3 uu ww)::.th (ow (told kLog) w m)::h) τ6 true 8 (atz 8 w r)=some (.agg m[r].2):=M.2.2.2.1
      have X6:=(H6.told_rd 1 rfl hxm).2.2.2.2.2
      rw[hcs] at X6
      have hU6:=(Adm X6).2.1
      have hyl:y<m[x].1.units.length:=by omega
      obtain⟨cu,⟨c1,_,_,c4,_⟩,hRu⟩:=RdN.cellsN hU6 hyl
      have c1:iadG 17 uu (some y)=some (atz 17 uu y):=c1
      have c4:=Dz H6 c4
      have c4:ldX σ0 (.box 1 n9 (logV m[x].1 s0 s1 s2 s3 uu ww)::.th (ow (told kLog) w m)::h) τ6 true 17 (atz 17 uu y)=some (.agg cu):=c4
      refine by_k R6 H6 ?_
      simp +contextual (disch:=omega) only[go_sem,A3,L1,M4,c1,c4]
      have hmem:m[x].1.units[y]∈m[x].1.units:=Zae hyl
      obtain⟨_,τ7,R7,ds,cc,l',rfl,hG',hE,K7⟩:=A9z τ6 m[r].2 m[r].1 M.2.2.2.2.2 hGr cu m[x].1.units[y] hRu (hGx.un _ hmem) (hGx.ub _ hmem)
      have H7:Hx σ0 τ7 (.th (own kLog ds l')::.box 1 n9 (logV m[x].1 s0 s1 s2 s3 uu ww)::.th (ow (told kLog) w m)::h):=H6.hp.add K7
      have H8:Hx σ0 τ7 (.th (ow kLog w (m.map Prod.fst))::.th (own kLog ds l')::h):=Hp.untell ((H7.era 1).fst 1 rfl).hp
      refine by_m R7 H8 ?_
      simp +contextual (disch:=omega) only[go_sem,e5,A3,L1]
      refine A9w (d:=kLog) H8 1 0 rfl rfl (by decide) (by rw[Zal];exact hrm) fun τ9 H9=> ?_
      simp +contextual (disch:=omega) only[go_sem,ei]
      exact hJ _ _ _ _ H9 ⟨by simp +contextual (disch:=omega) only[go_sem,e0],by simp +contextual (disch:=omega) only[go_sem,e1],w,_,by simp +contextual (disch:=omega) only[go_sem,e5],.hear _ hLg hmr hmx hmem hE hG',rfl⟩
   ·clear H e0 e1 e5
    rintro Y hY env h' τ ei c0 H ⟨e0,e1,w,ls,e5,hLg,rfl⟩
    simp +contextual (disch:=omega) only[go_sem,c0,e1,ei]
    exact hY _ _ _ H ⟨w,ls,e5,hLg,rfl⟩
   ·clear H e0 e1 e5
    rintro env h' τ H ⟨w,ls,e5,hLg,rfl⟩
    simp +contextual (disch:=omega) only[go_sem,e5]
    exact fun _=>⟨_,rfl,ls,hLg,H⟩
 obtain⟨w,τ,R,ls,hLg,H'⟩:=key
 exact⟨w,ls,τ,hLg,R,H'⟩
end
section
variable {P:Program} {σ0 σ τ:St} {h:List Item} {c v:GV} {bs:List Int} {α:Type} {l:List α}
theorem Dr.pre (D:Dr σ0 v bs) (hp:σ0 <+: σ):Dr σ v bs:=⟨D.hv.pre hp,D.hl⟩
theorem Adn (H:Hx σ0 σ h) (D:Dr σ0 v bs):∃(c:GV) (τ:St),Ret Tryz.prog Q1 [v] σ c τ/\Hx σ0 τ (cuI c v bs::h):=by
 obtain⟨c,τ,R,K⟩:=A2t σ v bs (D.hv.pre H.sub) D.hl
 exact⟨c,τ,R,H.hp.add K⟩
end
abbrev Aa2:Nat:=40
def Aa3:Fn1:=⟨6,[.t 2],(rg [oV 2 kf] (rg [oM 3 0,oN 4 3,oE 5 .gtr 4 1048576,oM 2 5] .ret))⟩
theorem Abg:A6 Tryz.prog Aa2=some Aa3:=by kernel_rfl
theorem Aa4 (σ:St) (v:GV) (l:List Int) (h:RS pB.kd σ v l):Ret Tryz.prog Aa2 [v] σ (.bool (decide ((1048576:Int)<l.length))) σ:=by
 refine Eu Abg (Z0z rfl) trivial ?_
 simp +contextual (disch:=omega) only[go_sem,Aa3,h.len]
 try exact fun _=>rfl
abbrev Ig:Nat:=64
def Mf:Fn1:=⟨21,[.t 2],(rg [o 2 (.mov (.k .nilS))] (rg [oM 6 0,oC 7 161 6,oM 3 7] (rg [oM 8 3,oC 9 188 8] (rg [o 10 (.lit 1 0 [] []),oM 4 10] (.seq (rg [oV 5 (ki 0)] (.blk 0 (.lop (.seq (rg [oM 11 5,oE 12 .lss 11 12] (cn 12 .skip (.ext 0))) (.seq (.blk 1 (.reg [oM 15 4,oM 16 3,o 17 (.call 163 [(.t 16),(ki 10000)]),o 18 (.lit 1 1 [z0] [(0,1,(.t 17))]),o 19 (.app 1 8 [z0] (.t 15) (.t 18)),oM 4 19])) (.reg [oM 13 5,oZ 14 13 1,oM 5 14])))))) (rg [oM 20 4,oM 2 20] .ret))))))⟩
theorem Vp:A6 Tryz.prog Ig=some Mf:=by kernel_rfl
abbrev Jq:Nat:=63
def Ow:Fn1:=⟨6,[.c 2 true 4],(rg [o 2 (.new [.nilS,.nilS,.nilS,.nilS])] (rg [oM 3 0,oC 4 161 3,oC 5 187 4,oS 4 2 5] .ret))⟩
theorem Wr:A6 Tryz.prog Jq=some Ow:=by kernel_rfl
section
variable {σ0 σ τ:St} {h:List Item} {c v:GV} {bs:List Int}
theorem byte_x (H:Hx σ0 σ h) (k:Nat) (hk:h[k]? =some (cuI c v bs)) (D:Dr σ0 v bs):∃(x:Nat) (τ:St),x≤255/\Ret Tryz.prog N6 [c] σ (gi x) τ/\Hx σ0 τ h:=by
 obtain⟨r,τ,R,x,rfl,h1,h2,H'⟩:=Dv (σ0:=σ0) H (at_t hk) D.hv D.hl
 obtain⟨y,rfl⟩:∃ y:Nat,x=y:=⟨x.toNat,by omega⟩
 exact⟨y,τ,by omega,R,H'⟩
theorem Vq (H:Hx σ0 σ h) (D:Dr σ0 v bs):∃(ds:List GV) (s:State) (τ:St),Grw st0 s/\Ret Tryz.prog Jq [v] σ (.agg ds) τ/\Hx σ0 τ (.th (own A8 ds s)::h):=by
 have key:∃ w τ,Ret Tryz.prog Jq [v] σ w τ/\∃ ds s,w= .agg ds/\Grw st0 s/\Hx σ0 τ (.th (own A8 ds s)::h):=by
  refine Fi Wr (Z0z rfl) H ?_
  simp +contextual (disch:=omega) only[go_sem,Ow]
  intro n1 f1 τ1 H1
  have g1:=Db (h:=h) f1
  obtain⟨c,τ2,R2,H2⟩:=Adn H1 D
  refine by_k R2 H2 ?_
  simp +contextual (disch:=omega) only[go_sem]
  obtain⟨ds,s,τ3,hg,R3,H3⟩:=Wp H2 0 rfl D
  have gl:ds.length=4:=A8.len (H3.hp.rd 0 rfl)
  refine by_k R3 H3 ?_
  simp +contextual (disch:=omega) only[go_sem,Ai (cs:=z4) gl rfl,gl,A9 gl]
  intro τ4 H4
  exact⟨_,rfl,ds,s,rfl,hg,(H4.era 2).era 1⟩
 obtain⟨w,τ,R,ds,s,rfl,h1,h2⟩:=key
 exact⟨ds,s,τ,h1,R,h2⟩
theorem Se (H:Hx σ0 σ h) (D:Dr σ0 v bs):∃(r:GV) (l:List Int) (τ:St),(l.length=12/\∀ x∈l,0≤x/\x<10000)/\Ret Tryz.prog Ig [v] σ r τ/\Hx σ0 τ (.th (ow pI.kd r l)::h):=by
 have key:∃ w τ,Ret Tryz.prog Ig [v] σ w τ/\∃ l:List Int,(l.length=12/\∀ x∈l,0≤x/\x<10000)/\Hx σ0 τ (.th (ow pI.kd w l)::h):=by
  refine Fi Vp (Z0z rfl) H ?_
  simp +contextual (disch:=omega) only[go_sem,Mf]
  obtain⟨c,τ2,R2,H2⟩:=Adn H D
  refine by_k R2 H2 ?_
  simp +contextual (disch:=omega) only[go_sem]
  obtain⟨x0,τ3,hx0,R3,H3⟩:=byte_x H2 0 rfl D
  refine by_k R3 H3 ?_
  simp +contextual (disch:=omega) only[go_sem]
  intro n4 f4 τ4 H4
  refine Cf 12 5 0 (fun i env hh=>env 3=c/\∃ w l,env 4=w/\l.length=i/\(∀ x∈l,(0:Int)<=x/\x<10000)/\hh= .th (ow pI.kd w l)::cuI c v bs::h) (fun env hh=>∃ w l,env 4=w/\l.length=12/\(∀ x∈l,(0:Int)<=x/\x<10000)/\hh= .th (ow pI.kd w l)::cuI c v bs::h) (fun _ _=>False) _ (H4.emp pI.kd rfl) (by simp +contextual (disch:=omega) only[go_sem]) ⟨by simp +contextual (disch:=omega) only[go_sem],_,[],by simp +contextual (disch:=omega) only[go_sem],rfl,by simp,rfl⟩ ?_ ?_ ?_ (fun _ _ _ _ h=>h.elim)
  ·clear H4
   rintro J Y W hJ hY hW i env h' τ hi ei c0 H ⟨e3,w,l,e4,hl,hx,rfl⟩
   have c0:decide ((i:Int)<12)=true:=c0
   simp +contextual (disch:=omega) only[go_sem,c0,e3,e4,ei]
   obtain⟨y,τ5,hy,R5,H5⟩:=Fd H 1 rfl D 10000 (by decide) (by decide)
   refine by_k R5 H5 ?_
   simp +contextual (disch:=omega) only[go_sem,e3,e4,ei]
   intro n6 f6 τ6 H6
   refine Adg (p:=pI) H6 1 rfl (y:Int) L9 (by decide) (by omega) fun v' τ7 H7=> ?_
   simp +contextual (disch:=omega) only[go_sem,e3,e4,ei]
   exact hJ _ _ _ _ H7.tl ⟨by simp +contextual (disch:=omega) only[go_sem,e3],v',l++[(y:Int)],by simp +contextual (disch:=omega) only[go_sem],by simp[hl],fun x hx'=>by
    rcases Zai.1 hx' with h|h
    ·exact hx x h
    ·simp only[Zah] at h;subst h;exact⟨by omega,hy⟩,rfl⟩
  ·clear H4
   rintro Y hY env h' τ ei c0 H ⟨e3,w,l,e4,hl,hx,rfl⟩
   have c0:decide ((12:Int)<12)=false:=rfl
   simp +contextual (disch:=omega) only[go_sem,c0,ei]
   exact hY _ _ _ H ⟨w,l,e4,hl,hx,rfl⟩
  ·rintro env h' τ H ⟨w,l,e4,hl,hx,rfl⟩
   simp +contextual (disch:=omega) only[go_sem,e4]
   exact fun _=>⟨_,rfl,l,⟨hl,hx⟩,H.era 1⟩
 obtain⟨w,τ,R,l,h1,h2⟩:=key
 exact⟨w,l,τ,h1,R,h2⟩
end
abbrev Vr:Nat:=189
def Vs:Fn1:=⟨29,[.t 6],(rg [oX 3 0,oV 6 (ki 0)] (.seq (rg [oF 9 1 3,oL 10 9,oN 11 10,oV 12 (ki 0)] (.blk 0 (.lop (rg [oB 13 .lss 12 11] (.seq (cn 13 .skip (.ext 0)) (.seq (.blk 1 (rg [oI 14 3 10 12,oW 15 3 14,o 8 (.new [s0,z0,z0]),oS 3 8 15] (rg [oF 16 0 8,oL 17 16,oM 18 1,oB 19 .eql 17 18,oM 20 19,jF 21 20 1 8,jL 22 20 21,jM 23 20 2,jB 24 20 .eql 22 23,oQ 25 20 24] (cn 25 (rg [oF 26 2 8,oL 27 26,oM 6 27] .ret) .skip)))) (.reg [oZ 28 12 1,oM 12 28]))))))) (rg [oV 6 (ki 0)] .ret)))⟩
theorem A3b:A6 Tryz.prog Vr=some Vs:=by kernel_rfl
abbrev Vt:Nat:=65
def Vu:Fn1:=⟨20,[.t 4],(rg [oX 2 0,o 4 (.mov (.k .nilS))] (rg [o 7 (.lit 1 0 [] []),oM 5 7] (.seq (rg [oV 8 (ki 0)] (.blk 0 (.lop (rg [oE 9 .lss 8 3] (.seq (cn 9 .skip (.ext 0)) (.seq (.blk 1 (rg [oM 10 8,oM 6 10] (.reg [oM 11 5,oW 12 4 2,oM 13 1,oM 14 6,o 15 (.call 189 [(.t 12),(.t 13),(.t 14)]),o 16 (.lit 1 1 [z0] [(0,1,(.t 15))]),o 17 (.app 1 8 [z0] (.t 11) (.t 16)),oM 5 17]))) (.reg [oZ 18 8 1,oM 8 18]))))))) (rg [oM 19 5,oM 4 19] .ret))))⟩
theorem A3c:A6 Tryz.prog Vt=some Vu:=by kernel_rfl
def Bk (l:List Tally) (obj:ByteArray) (rep:Int):Int:=match l with
 |[]=>0
 |t::r=>if decide (t.obj=obj)&&(t.rep==rep) then t.sum else Bk r obj rep
theorem A3d {l:List Tally} {obj:ByteArray} {rep:Int} {i:Nat} (hi:i<l.length):Bk (l.drop i) obj rep=if decide (l[i].obj=obj)&&(l[i].rep==rep) then l[i].sum else Bk (l.drop (i+1)) obj rep:=by
 rw[List.drop_eq_getElem_cons hi];rfl
theorem A0h (σ:St) (cs:List GV) (s:State) (hR:A8.R σ s cs) (obj:ByteArray) (rep:Int) (hl:Ah s<=1099511627776):Ret Tryz.prog Vr [.agg cs,.str obj,gi rep] σ (gi (Bk s.tallies obj rep)) σ:=by
 obtain⟨a,v,b,c,rfl,_,h,_,_⟩:=hR
 have hl:s.tallies.length<=1099511627776:=by unfold Ah at hl;omega
 generalize s.tallies=l at h hl ⊢
 refine Am A3b (Z0z rfl) trivial ?_
 simp +contextual (disch:=omega) only[go_sem,Vs,h.len]
 refine Cr l.length 12 (fun i env τ=>env 1= .str obj/\env 2=gi rep/\env 10=v/\env 11=gi l.length/\Bk (l.drop i) obj rep=Bk l obj rep/\σ <+: τ) rfl ⟨rfl,rfl,rfl,rfl,rfl,pre1 _ _⟩ ?_ ?_
 ·rintro i env τ hi e12 c0 ⟨e1,e2,e10,e11,ht,hp⟩
  have h1:=h.pre hp
  rw[A3d hi] at ht
  simp +contextual (disch:=omega) only[go_sem,c0,e1,e2,e10,e11,e12,h.len,Ac h1 hi,A0 hp]
  grind
 ·rintro env τ e12 c0 ⟨e1,e2,e10,e11,ht,hp⟩
  rw[List.drop_length] at ht
  simp +contextual (disch:=omega) only[go_sem,c0,e1,e2,e10,e11,e12,h.len,hp]
  exact ht
def Jr (l:List Tally) (obj:ByteArray):List Int:=[Bk l obj 0,Bk l obj 1,Bk l obj 2]
theorem A3e {l:List Tally} {obj:ByteArray} {i:Nat} (hi:i<3):(Jr l obj).take i++[Bk l obj i]=(Jr l obj).take (i+1):=by
 rcases i with _|_|_|i
 ·rfl
 ·rfl
 ·rfl
 ·omega
theorem A0i (σ:St) (cs:List GV) (s:State) (hR:A8.R σ s cs) (obj:ByteArray) (hl:Ah s<=1099511627776) (ho:obj.size<=1099511627776):∃ r τ,Ret Tryz.prog Vt [.agg cs,.str obj] σ r τ/\Hp σ τ [ow pI.kd r (Jr s.tallies obj)]:=by
 have hlen:cs.length=4:=A8.len hR
 refine A6c (rs:=fun r=>[ow pI.kd r (Jr s.tallies obj)]) A3c (Z0z rfl) ?_
 have H:=(Hp.refl (σ++[some (.row 1 cs)])).nil_int
 simp +contextual (disch:=omega) only[go_sem,Vu]
 refine Cr 3 8 (fun i env τ=>env 1= .str obj/\env 2= .ptr σ.length 0/\Hp (σ++[some (.row 1 cs)]) τ [ow pI.kd (env 5) ((Jr s.tallies obj).take i)]) rfl ⟨rfl,rfl,H⟩ ?_ ?_
 ·rintro i env τ hi e8 c0 ⟨e1,e2,H⟩
  have c0:decide ((i:Int)<3)=true:=c0
  simp +contextual (disch:=omega) only[go_sem,c0,e1,e2,e8,A7 (M3 H.sub),A9 hlen]
  refine Ad (A0h τ cs s (A8.pre hR (D7 H.sub)) obj i hl) ?_
  obtain⟨v',τ',e,H⟩:=H.app_int 0 rfl (Bk s.tallies obj i) (by simp[Jr];omega)
  rw[A3e hi] at H
  simp +contextual (disch:=omega) only[go_sem,e1,e2,e8,e]
  exact H
 ·rintro env τ e8 c0 ⟨e1,e2,H⟩
  have c0:decide ((3:Int)<3)=false:=c0
  simp +contextual (disch:=omega) only[go_sem,c0,e1,e2,e8]
  exact⟨_,rfl,H.rebase (pre1 _ _)⟩
abbrev Ox:Nat:=69
def Oy:Fn1:=⟨12,[.t 2],(rg [oX 1 0,oV 2 (ki 0)] (.seq (rg [oW 3 4 1,oC 4 195 3,oU 5 4] (cn 5 (rg [o 2 (.mov (ki (-1)))] .ret) .skip)) (dw [oF 6 0 1,oL 7 6,oF 8 0 1,oL 9 8,oC 10 197 9] [oD 11 196 7 10,oM 2 11] .ret)))⟩
theorem Ws:A6 Tryz.prog Ox=some Oy:=by kernel_rfl
abbrev E2:Nat:=197
def Gi:Fn1:=⟨25,[.t 2],(rg [oV 2 (ki 0)] (.seq (rg [oM 5 0,oN 6 5,oE 7 .lss 6 1] (cn 7 (.reg [o 8 (.pan),on (.pan)]) .skip)) (rg [oM 9 0,o 10 (.iad 1 (.t 9) (ki 0)),oL 11 10,oM 3 11] (.seq (rg [oV 4 (ki 1)] (.blk 0 (.lop (.seq (rg [oM 12 4,oM 13 0,oN 14 13,oB 15 .lss 12 14] (cn 15 .skip (.ext 0))) (.seq (.blk 1 (.reg [oM 18 3,oM 19 0,oM 20 4,oI 21 1 19 20,oL 22 21,o 23 (.mm true (.t 18) (.t 22)),oM 3 23])) (.reg [oM 16 4,oZ 17 16 1,oM 4 17])))))) (rg [oM 24 3,oM 2 24] .ret)))))⟩
theorem Lj:A6 Tryz.prog E2=some Gi:=by kernel_rfl
abbrev Fq:Nat:=196
def Fr:Fn1:=⟨19,[.t 4],(rg [oV 4 (ki 0)] (.seq (rg [oM 6 0,oN 7 6,oV 8 (ki 0)] (.blk 0 (.lop (rg [oB 9 .lss 8 7] (.seq (cn 9 .skip (.ext 0)) (.seq (.blk 1 (rg [oM 10 8,oM 5 10] (rg [oM 11 1,oM 12 0,oM 13 5,oI 14 1 12 13,oL 15 14,oB 16 .eql 11 15] (cn 16 (rg [oM 17 5,oM 4 17] .ret) .skip)))) (.reg [oZ 18 8 1,oM 8 18]))))))) (rg [o 4 (.mov (ki (-1)))] .ret)))⟩
theorem Js:A6 Tryz.prog Fq=some Fr:=by kernel_rfl
theorem Ado {P:Program} {a:Cd} {Q:Ex->Env->St->Prop} {env:Env} {σ:St} (m n ri:Nat) (hmn:m<=n) (I:Nat->Env->St->Prop) (hr:env ri=gi m) (h0:I m env σ)
  (hs:∀ i env σ,m≤i->i<n->env ri=gi i->decide ((i:Int)<n)=true->I i env σ->vc P a (fun e env' σ'=>match e with| .nxt=>env' ri=gi ((i:Int)+1)/\I (i+1) env' σ'|e=>Q e env' σ') env σ)
  (he:∀ env σ,env ri=gi n->decide ((n:Int)<n)=false->I n env σ->vc P a (fun e env' σ'=>match e with| .nxt=>False|e=>Q e env' σ') env σ):vc P (.lop a) Q env σ:=by
 refine Qg (fun k env σ=>∃ i:Nat,k=n - i/\m<=i/\i<=n/\env ri=gi i/\I i env σ) (n - m) ⟨m,rfl,Zba _,hmn,hr,h0⟩ ?_
 rintro k env σ ⟨i,rfl,hm,hi,h1,h2⟩
 rcases Za4 i n with hlt|hge
 ·refine Aq (hs i env σ hm hlt h1 (by simp;omega) h2) fun e env' σ' he=> ?_
  cases e with
  |nxt=>
   obtain⟨h3,h4⟩:=he
   exact⟨n - (i+1),by omega,i+1,rfl,by omega,hlt,h3,h4⟩
  |ext j=>exact he
  |ret=>exact he
 ·obtain rfl:i=n:=by omega
  refine Aq (he env σ h1 (by simp) h2) fun e env' σ' he=> ?_
  cases e with
  |nxt=>exact he.elim
  |ext j=>exact he
  |ret=>exact he
def busy (l:List Int):Option Nat:=l.findIdx? fun x=>l.all fun y=>decide (y<=x)
theorem Wt (σ:St) (v:GV) (l:List Int) (h:RS pI.kd σ v l) (hl:l.length<=1099511627776) (h0:0<l.length):∃ r,Ret Tryz.prog E2 [v] σ r σ/\∃ m,r=gi m/\m∈l/\∀ x∈l,x≤m:=by
 have key:∃ r,Ret Tryz.prog E2 [v] σ r σ/\(vLt σ.length r->True)/\∃ m,r=gi m/\m∈l/\∀ x∈l,x≤m:=by
  refine(ret_ex (Post:=fun r=>(vLt σ.length r->True)/\∃ m,r=gi m/\m∈l/\∀ x∈l,x≤m) Lj (Z0z rfl) ?_)
  have c1:decide ((l.length:Int)<1)=false:=by simp;omega
  have i0:=E6 h h0
  have n0:Aw (some (.int .i64 0))=some 0:=rfl
  simp +contextual (disch:=omega) only[go_sem,Gi,h.len,c1,n0,i0]
  refine Ado 1 l.length 4 h0 (fun i env τ=>env 0=v/\σ=τ/\∃ m,env 3=gi m/\m∈l/\∀ j (hj:j<i) (hl:j<l.length),l[j]<=m) rfl ⟨rfl,rfl,l[0],rfl,Zae h0,fun j hj hl=>by
   have:j=0:=by omega
   subst this;exact Int.le_refl _⟩ ?_ ?_
  ·rintro i env τ hm hi e4 c0 ⟨e0,rfl,m,e3,hml,ha⟩
   simp +contextual (disch:=omega) only[go_sem,c0,e0,e3,e4,h.len,E6 h hi]
   refine⟨_,rfl,?_,fun j hj hl=> ?_⟩
   ·split
    ·exact Zae hi
    ·exact hml
   ·rcases Za4 j i with h2|h2
    ·have:=ha j h2 hl
     split<;>omega
    ·have:j=i:=by omega
     subst this
     split<;>omega
  ·rintro env τ e4 c0 ⟨e0,rfl,m,e3,hml,ha⟩
   simp +contextual (disch:=omega) only[go_sem,c0,e0,e3,e4,h.len]
   refine⟨_,rfl,trivial,m,rfl,hml,fun x hx=> ?_⟩
   obtain⟨j,hj,rfl⟩:=Za1 hx
   exact ha j hj hj
 obtain⟨r,R,_,h⟩:=key
 exact⟨r,R,h⟩
def ixOf (l:List Int) (x:Int):Int:=match l.findIdx? fun y=>decide (y=x) with
 |some k=>k
 |none=> -1
theorem Sf (σ:St) (v:GV) (l:List Int) (x:Int) (h:RS pI.kd σ v l) (hl:l.length<=1099511627776):Ret Tryz.prog Fq [v,gi x] σ (gi (ixOf l x)) σ:=by
 refine Am Js (Z0z rfl) trivial ?_
 simp +contextual (disch:=omega) only[go_sem,Fr,h.len]
 refine Cr l.length 8 (fun i env τ=>env 0=v/\env 1=gi x/\env 6=v/\env 7=gi l.length/\(∀ j (hj:j<i) (hl:j<l.length),l[j]≠x)/\σ <+: τ) rfl ⟨rfl,rfl,rfl,rfl,fun j hj=>by omega,List.prefix_refl _⟩ ?_ ?_
 ·rintro i env τ hi e8 c0 ⟨e0,e1,e6,e7,ha,hp⟩
  simp +contextual (disch:=omega) only[go_sem,c0,e0,e1,e6,e7,e8,E6 (h.pre hp) hi,hp]
  refine⟨fun hx=> ?_,fun hx j hj hl=> ?_⟩
  ·have hx:x=l[i]:=by simpa using hx
   have hq:l.findIdx? (fun y=>decide (y=x))=some i:=List.findIdx?_eq_some_iff_getElem.2 ⟨hi,by simp[hx],fun j hj=>by simp[ha j hj (by omega)]⟩
   simp[ixOf,hq]
  ·rcases Za4 j i with h2|h2
   ·exact ha j h2 hl
   ·have:j=i:=by omega
    subst this
    have:x≠l[j]:=by simpa using hx
    exact fun e=>this e.symm
 ·rintro env τ e8 c0 ⟨e0,e1,e6,e7,ha,hp⟩
  have hq:l.findIdx? (fun y=>decide (y=x))=none:=by
   rw[List.findIdx?_eq_none_iff]
   intro y hy
   obtain⟨j,hj,rfl⟩:=Za1 hy
   simpa using ha j hj hj
  simp +contextual (disch:=omega) only[go_sem,c0,e0,e1,e6,e7,e8,hp]
  simp[ixOf,hq]
theorem Ym {α:Type} {p q:α->Bool}:∀ {l:List α},(∀ x∈l,p x=q x)->l.findIdx? p=l.findIdx? q
 |[],_=>rfl
 |x::l,h=>by
  rw[Za3,Za3,h x Zaj,Ym fun y hy=>h y (Zaf _ hy)]
theorem Abh {l:List Int} {m:Int} (hm:m∈l) (ha:∀ x∈l,x≤m):busy l=l.findIdx? fun y=>decide (y=m):=by
 unfold busy
 refine Ym fun x hx=> ?_
 rw[Zaq,List.all_eq_true]
 simp only[decide_eq_true_eq]
 constructor
 ·intro h
  have:=h m hm
  have:=ha x hx
  omega
 ·rintro rfl y hy
  exact ha y hy
def bust (s:State):Int:=if B6 s then(match busy s.know with|some b=>(b:Int)|none=> -1) else -1
theorem Vv (σ:St) (cs:List GV) (s:State) (hR:A8.R σ s cs) (hl:Ah s<=1099511627776):Ret Tryz.prog Ox [.agg cs] σ (gi (bust s)) σ:=by
 have hR0:=hR
 obtain⟨a,b,c,v,rfl,hk,_,_,_⟩:=hR
 obtain⟨l1,_⟩:=Ao hl
 have hkk:=hk.pre (pre1 σ (some (Blk.row 1 [a,b,c,v])))
 refine Am Ws (Z0z rfl) trivial ?_
 simp +contextual (disch:=omega) only[go_sem,Oy]
 refine Aa (Nz _ _ s (A8.pre hR0 (pre1 _ _)) hl) (fun h1=> ?_) (fun h1=> ?_)
 rotate_left
 ·simp +contextual (disch:=omega) only[go_sem]
  simp[bust,h1]
 have h3:s.know.length=3:=D8 (by simp only[B6,Zac] at h1;exact h1.1)
 simp +contextual (disch:=omega) only[go_sem]
 obtain⟨_,R,m,rfl,hm,ha⟩:=Wt _ a s.know hkk l1 (by omega)
 refine Ad R ?_
 simp +contextual (disch:=omega) only[go_sem]
 refine Ad (Sf _ a s.know m hkk l1) ?_
 simp +contextual (disch:=omega) only[go_sem]
 simp only[bust,h1,if_true,ixOf,Abh hm ha]
end Go.Proofs.YtbeoiejnogdkpaaGreat.Sy
