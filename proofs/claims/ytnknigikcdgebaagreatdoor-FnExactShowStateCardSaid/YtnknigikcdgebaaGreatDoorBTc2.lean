/- Texts of this proof, one behind the other. -/
import Derived.Test.YtnknigikcdgebaaGreatDoorBTc1
import Derived.Test.YtnknigikcdgebaaGreatDoorProg
import Derived.KernelRfl
import Derived.Sort.AssemblyPlain
import Derived.Sort.LotD3
import Derived.Sort.LotD1
import Derived.Sort.LotC
set_option linter.unusedSimpArgs false
set_option linter.unusedVariables false
set_option maxRecDepth 4000
set_option maxHeartbeats 4000000
open Nat renaming le_refl→Zaa,lt_or_ge→Zac,div_lt_iff_lt_mul→Za6,two_pow_pos→Za7,pow_le_pow_right→Za8,sub_add_cancel→Zbd,eq_zero_or_pos→Zbe,min_eq_left→Zbo
open List renaming pairwise_cons→Zab,mem_cons→Zad,mem_cons_self→Zae,getElem?_set_self→Zaf,mem_cons_of_mem→Zag,flatMap_cons→Zah,mem_filter→Zai,drop_eq_getElem_cons→Zak,getElem?_eq_some_iff→Zal,length_cons→Zam,length_filter_le→Zap,take_length→Zaq,getElem_of_mem→Zas,mem_map_of_mem→Zau,filter_sublist→Zav,flatMap_append→Zaw,findIdx?_eq_none_iff→Zax,getElem?_eq_getElem→Zay,prefix_refl→Zaz,mem_flatMap→Za0,foldl_cons→Za1,nodup_cons→Za2,map_append→Za3,sum_append→Za4,set_set→Za5,reverse_append→Za9,map_cons→Zbb,length_append→Zbc,reverse_cons→Zbg,mem_map→Zbi,flatMap_map→Zbk,getElem_mem→Zbl,flatMap_nil→Zbm,append_nil→Zbn,sum_cons→Zbr
open Bool renaming and_eq_true→Zaj,false_eq_true→Zan,and_eq_false_iff→Zao,or_eq_false_iff→Zar,or_eq_true→Zat,not_eq_false'→Zba,not_eq_true'→Zbf,and_false→Zbp,false_and→Zbq
open Int renaming toNat_natCast→Zbh
open Option renaming getD_some→Zbj
namespace Go.Proofs.YtnknigikcdgebaaGreatDoor.Sy
open Go Go.RowKit
def A0s:Fn1:=⟨22,[.t 4],(rg [oX 2 0,oX 3 1,oV 4 (ki 0)] (.seq (rg [oV 5 (ki 0)] (oH 0 (.seq (rg [oM 6 5,oF 7 3 2,oL 8 7,oN 9 8,oB 10 .lss 6 9] (oJ 10 0)) (.seq (.blk 1 (dw [oF 13 3 2,oL 14 13,oM 15 5,oI 16 8 14 15,oF 17 1 16,oW 18 2 17,oW 19 2 3] [o 20 (.eqs false [.i .i64,.i .i64] (.t 18) (.t 19))] (oG 20 (rg [oM 21 5,oM 4 21] .ret)))) (.reg [oM 11 5,oZ 12 11 1,oM 5 12]))))) (rg [o 4 (.mov (ki (-1)))] .ret)))⟩
theorem A8u:A4 Tryz.prog 120=some A0s:=by kernel_rfl
def A0t:Fn1:=⟨9,[.t 4],(rg [oX 2 0,oX 3 1,oV 4 (ki 0)] (rg [oF 5 3 2,oL 6 5,o 7 (.mkf 229 [(.t 3)]),oD 8 227 6 7,oM 4 8] .ret))⟩
theorem A8v:A4 Tryz.prog 140=some A0t:=by kernel_rfl
def Mt:Fn1:=⟨8,[.t 3],(rg [oX 2 0,oV 3 kf] (rg [oF 4 1 2,oW 5 2 4,oW 6 2 1,o 7 (.eqs false [.i .i64,.i .i64] (.t 5) (.t 6)),oM 3 7] .ret))⟩
theorem Z7:A4 Tryz.prog 229=some Mt:=by kernel_rfl
def Bm:Fn1:=⟨19,[.t 4],(rg [oV 4 (ki 0)] (.seq (rg [oM 6 0,oN 7 6,oV 8 (ki 0)] (oH 0 (rg [oB 9 .lss 8 7] (.seq (oJ 9 0) (.seq (.blk 1 (rg [oM 10 8,oM 5 10] (rg [oM 11 1,oM 12 0,oM 13 5,oI 14 8 12 13,oW 15 8 14,o 16 (.callv (.t 11) [(.t 15)])] (oG 16 (rg [oM 17 5,oM 4 17] .ret))))) (.reg [oZ 18 8 1,oM 8 18])))))) (rg [o 4 (.mov (ki (-1)))] .ret)))⟩
theorem Ct:A4 Tryz.prog 227=some Bm:=by kernel_rfl
def A0v:Fn1:=⟨63,[.t 2],(rg [oV 2 kf] (rg [o 10 (.mkm),oM 3 10] (.seq (rg [oM 11 0,oN 12 11,oV 13 (ki 0)] (oH 0 (rg [oB 14 .lss 13 12] (.seq (oJ 14 0) (.seq (.blk 1 (rg [oM 15 13,oI 16 8 11 13,oW 17 8 16,o 5 (.new [s0,z0,z0,z0,z0,z0,z0,(.bool false)]),oM 4 15,oS 8 5 17] (.reg [oM 18 3,oF 19 1 5,oW 20 2 19,oM 21 4,on (.mup [.i .i64,.i .i64] (.t 18) (.t 20) (.t 21))]))) (.reg [oZ 22 13 1,oM 13 22])))))) (.seq (rg [oM 23 0,oN 24 23,oV 25 (ki 0)] (oH 2 (rg [oB 26 .lss 25 24] (.seq (oJ 26 2) (.seq (.blk 3 (rg [oI 27 8 23 25,oW 28 8 27,o 7 (.new [s0,z0,z0,z0,z0,z0,z0,(.bool false)]),oS 8 7 28] (.seq (rg [oF 29 4 7,oW 30 2 29,o 31 (.build [z0,z0] []),o 32 (.eqs false [.i .i64,.i .i64] (.t 30) (.t 31))] (oG 32 (.ext 3))) (rg [oM 34 3,oF 35 4 7,oW 36 2 35,o 37 (.mlk [.i .i64,.i .i64] z0 true (.t 34) (.t 36)),oM 33 37,o 38 (.ext 0 (.t 33)),o 39 (.ext 1 (.t 33)),oM 8 38,oM 9 39] (dw [oM 40 9,oU 41 40,oM 42 41,vM 43 42 0,vM 44 42 8,vI 45 42 8 43 44,vF 46 42 0 45,vL 47 42 46,vF 48 42 0 7,vL 49 42 48,vB 50 42 .neq 47 49,oP 51 42 50,oM 52 51,vM 53 52 0,vM 54 52 8,vI 55 52 8 53 54,vF 56 52 3 55,vL 57 52 56,vF 58 52 3 7,vL 59 52 58] [vB 60 52 .geq 57 59,oP 61 52 60] (oG 61 (oR 2 kf))))))) (.reg [oZ 62 25 1,oM 25 62])))))) (oR 2 kt)))))⟩
theorem A8w:A4 Tryz.prog 242=some A0v:=by kernel_rfl
def V4:Fn1:=⟨96,[.t 2],(rg [oX 1 0,oV 2 kf] (.seq (rg [oF 7 0 1,oL 8 7,oC 9 146 8,oU 10 9,oM 11 10,vF 12 11 1 1,vL 13 11 12,vC 14 11 147 13,vU 15 11 14,oP 16 11 15,oM 17 16,vF 18 17 2 1,vL 19 17 18,vC 20 17 148 19,vU 21 17 20,oP 22 17 21,oM 23 22,vF 24 23 3 1,vL 25 23 24,vC 26 23 149 25,vU 27 23 26,oP 28 23 27] (oG 28 (oR 2 kf))) (.seq (rg [oV 3 (ki 0)] (oH 0 (.seq (rg [oM 29 3,oF 30 2 1,oL 31 30,oN 32 31,oB 33 .lss 29 32] (oJ 33 0)) (.seq (.blk 1 (dw [oF 36 0 1,oL 37 36,oF 38 2 1,oL 39 38,oM 40 3,oI 41 6 39 40,oF 42 4 41,oW 43 2 42] [oD 44 97 37 43,oU 45 44] (oG 45 (oR 2 kf)))) (.reg [oM 34 3,oZ 35 34 1,oM 3 35]))))) (.seq (rg [oV 4 (ki 0)] (oH 2 (.seq (rg [oM 46 4,oF 47 3 1,oL 48 47,oN 49 48,oB 50 .lss 46 49] (oJ 50 2)) (.seq (.blk 3 (rg [oF 53 3 1,oL 54 53,oM 55 4,oI 56 8 54 55,oW 57 8 56,o 5 (.new [s0,z0,z0,z0,z0,z0,z0,(.bool false)]),oS 8 5 57] (.seq (rg [oF 58 0 1,oL 59 58,oF 60 1 5,oW 61 2 60,oD 62 97 59 61,oU 63 62] (oG 63 (oR 2 kf))) (.seq (rg [oF 64 4 5,oW 65 2 64,o 66 (.build [z0,z0] []),o 67 (.eqs false [.i .i64,.i .i64] (.t 65) (.t 66))] (oG 67 (.ext 3))) (rg [oW 68 4 1,oF 69 4 5,oW 70 2 69,oD 71 120 68 70,oM 6 71] (dw [oM 72 6,oE 73 .lss 72 0,oM 74 73,vF 75 74 3 1,vL 76 74 75,vM 77 74 6,vI 78 74 8 76 77,vF 79 74 0 78,vL 80 74 79,vF 81 74 0 5,vL 82 74 81,vB 83 74 .neq 80 82,oP 84 74 83,oM 85 84,vF 86 85 3 1,vL 87 85 86,vM 88 85 6,vI 89 85 8 87 88,vF 90 85 3 89,vL 91 85 90,vF 92 85 3 5,vL 93 85 92] [vB 94 85 .geq 91 93,oP 95 85 94] (oG 95 (oR 2 kf)))))))) (.reg [oM 51 4,oZ 52 51 1,oM 4 52]))))) (oR 2 kt)))))⟩
theorem A5k:A4 Tryz.prog 54=some V4:=by kernel_rfl
def V6:Fn1:=⟨30,[.t 2],(rg [oX 1 0,oV 2 kf] (rg [oF 3 0 1,oL 4 3,oC 5 238 4,oM 6 5,jF 7 6 1 1,jL 8 6 7,jC 9 6 239 8,oQ 10 6 9,oM 11 10,jF 12 11 2 1,jL 13 11 12,jF 14 11 0 1,jL 15 11 14,jD 16 11 240 13 15,oQ 17 11 16,oM 18 17,jF 19 18 3 1,jL 20 18 19,jF 21 18 0 1,jL 22 18 21,jD 23 18 241 20 22,oQ 24 18 23,oM 25 24,jF 26 25 3 1,jL 27 25 26,jC 28 25 242 27,oQ 29 25 28,oM 2 29] .ret))⟩
theorem A5l:A4 Tryz.prog 160=some V6:=by kernel_rfl
theorem A8x (N:St) (a b c v:GV) (l:List Cell) (d:Dot) (h:RS Aj.kd N v l) (hl:l.length<=1099511627776):Ret Tryz.prog 120 [.agg [a,b,c,v],.agg [gi d.rep,gi d.seq]] N (gi (I2 l d)) N:=by
 refine Ab A8u (Z0z rfl) trivial ?_
 simp +contextual (disch:=omega) only[go_sem,A0s]
 refine Bc l.length 5 (fun i env U=>env 2= .ptr N.length 0/\env 3= .ptr (N++[some (Blk.row 1 [a,b,c,v])]).length 0/\(∀ j (hj:j<i) (hl:j<l.length),l[j].dot≠d)/\N++[some (.row 1 [a,b,c,v])]++[some (.row 1 [gi d.rep,gi d.seq])] <+: U) rfl ⟨rfl,rfl,fun j hj=>by omega,Zaz _⟩ ?_ ?_
 ·rintro i env U hi e5 c0 ⟨e2,e3,ha,hp⟩
  have h1:=h.pre (A2h hp)
  by_cases hd:l[i].dot=d
  ·have hq:I2 l d=i:=by rw[I2,A8q hi (fun j hj=>ha j hj (by omega)) hd]
   simp +contextual (disch:=omega) only[go_sem,c0,e2,e3,e5,A2 (A7y hp),A2 (Je hp),h.len,A5 h1 hi,hp,decide_eq_true hd,hq,A2h hp]
  ·simp +contextual (disch:=omega) only[go_sem,c0,e2,e3,e5,A2 (A7y hp),A2 (Je hp),h.len,A5 h1 hi,hp,decide_eq_false hd]
   intro j hj hl
   rcases Zac j i with h2|h2
   ·exact ha j h2 hl
   ·have:j=i:=by omega
    subst this;exact hd
 ·rintro env U e5 c0 ⟨e2,e3,ha,hp⟩
  have hq:I2 l d= -1:=by rw[I2,A8r (fun j hj=>ha j hj hj)]
  simp +contextual (disch:=omega) only[go_sem,c0,e2,e3,e5,A2 (A7y hp),h.len,hq,A2h hp]
theorem Hl (N:St) (v:GV) (l:List Cell) (h:RS Aj.kd N v l) (hl:l.length<=1099511627776) (f:Nat) (cs:List (Nat×Nat)) (p:Cell->Bool) (hf:∀(U:St) (x:Cell),N <+: U->Ret Tryz.prog f (.agg (Aj.enc x)::cs.map fun c=>.ptr c.1 c.2) U (.bool (p x)) U):
  Ret Tryz.prog 227 [v,.fn f cs] N (gi (match l.findIdx? p with|some k=>(k:Int)|none=> -1)) N:=by
 refine Ab Ct (Z0z rfl) trivial ?_
 simp +contextual (disch:=omega) only[go_sem,Bm,h.len]
 refine Bc l.length 8 (fun i env U=>env 0=v/\env 1= .fn f cs/\env 6=v/\env 7=gi l.length/\(∀ j (hj:j<i) (hl:j<l.length),p l[j]=false)/\N <+: U) rfl ⟨rfl,rfl,rfl,rfl,fun j hj=>by omega,Zaz _⟩ ?_ ?_
 ·rintro i env U hi e8 c0 ⟨e0,e1,e6,e7,ha,hp⟩
  simp +contextual (disch:=omega) only[go_sem,c0,e0,e1,e6,e7,e8,A5 (h.pre hp) hi,hp]
  have hpx:=hf U l[i] hp
  refine Ag hpx (fun h1=> ?_) (fun h1=> ?_)
  ·have hq:l.findIdx? p=some i:=List.findIdx?_eq_some_iff_getElem.2 ⟨hi,h1,fun j hj=>by simp[ha j hj (by omega)]⟩
   simp +contextual (disch:=omega) only[go_sem,c0,e0,e1,e6,e7,e8,hq,hp]
  ·simp +contextual (disch:=omega) only[go_sem,c0,e0,e1,e6,e7,e8,hp]
   intro j hj hl
   rcases Zac j i with h2|h2
   ·exact ha j h2 hl
   ·have:j=i:=by omega
    subst this;exact h1
 ·rintro env U e8 c0 ⟨e0,e1,e6,e7,ha,hp⟩
  have hq:l.findIdx? p=none:=by
   rw[Zax]
   intro x hx
   obtain⟨j,hj,rfl⟩:=Zas hx
   exact ha j hj hj
  simp +contextual (disch:=omega) only[go_sem,c0,e0,e1,e6,e7,e8,hq,hp]
theorem V7 (U:St) (x:Cell) (g:Nat) (d:Dot) (hg:rdB U g=some [gi d.rep,gi d.seq]):Ret Tryz.prog 229 [.agg (Aj.enc x),.ptr g 0] U (.bool (decide (x.dot=d))) U:=by
 refine Ab Z7 (Z0z rfl) trivial ?_
 simp +contextual (disch:=omega) only[go_sem,Mt,Aak,A2 (Adh hg _)]
theorem A8y (N:St) (a b c v:GV) (l:List Cell) (d:Dot) (h:RS Aj.kd N v l) (hl:l.length<=1099511627776):Ret Tryz.prog 140 [.agg [a,b,c,v],.agg [gi d.rep,gi d.seq]] N (gi (I2 l d)) N:=by
 refine Ab A8v (Z0z rfl) trivial ?_
 simp +contextual (disch:=omega) only[go_sem,A0t]
 have R:=Hl (N++[some (.row 1 [a,b,c,v])]++[some (.row 1 [gi d.rep,gi d.seq])]) v l (h.pre pre2) hl 229 [((N++[some (Blk.row 1 [a,b,c,v])]).length,0)] (fun c=>decide (c.dot=d)) (fun U x hp=>V7 U x _ d (Je hp))
 refine A6 R ?_
 simp +contextual (disch:=omega) only[go_sem]
 rfl
theorem A5m (N:St) (v:GV) (l:List Cell) (h:RS Aj.kd N v l) (hl:l.length<=1099511627776) (hu:l.Pairwise fun a b=>Ck a.dot b.dot=true):Ret Tryz.prog 242 [v] N (.bool (A0p l)) N:=by
 refine Ab A8w (Z0z rfl) trivial ?_
 simp +contextual (disch:=omega) only[go_sem,A0v,h.len]
 have H0:=(Hp.refl N).newMap
 refine Bc l.length 13 (fun i env U=>env 0=v/\env 3= .mp N.length/\env 11=v/\env 12=gi l.length/\Hp N U [mpt (.mp N.length) (plc 0 (l.take i))]) rfl ⟨rfl,rfl,rfl,rfl,H0⟩ ?_ ?_
 ·rintro i env U hi e13 c0 ⟨e0,e3,e11,e12,H⟩
  obtain⟨U',e,H2⟩:=(H.grow (pre1 U (some (Blk.row 1 [.str l[i].obj,gi l[i].dot.rep,gi l[i].dot.seq,gi l[i].time,gi l[i].ref.rep,gi l[i].ref.seq,gi l[i].val,.bool l[i].gone])))).mup 0 rfl l[i].dot i (Ah8 hu hi)
  simp +contextual (disch:=omega) only[go_sem,c0,e0,e3,e11,e12,e13,A5 (h.pre H.sub) hi,fun r=>A5 (h.pre (A0 H.sub r)) hi,e]
  rw[Af7 hi]
  exact H2
 ·rintro env U e13 c0 ⟨e0,e3,e11,e12,H⟩
  rw[Zaq] at H
  simp +contextual (disch:=omega) only[go_sem,c0,e0,e3,e11,e12,e13,(h.pre H.sub).len]
  refine Bc l.length 25 (fun i env U=>env 0=v/\env 3= .mp N.length/\env 23=v/\env 24=gi l.length/\(l.take i).all (ref1 l)=true/\Hp N U [mpt (.mp N.length) (plc 0 l)]) rfl ⟨e0,e3,rfl,rfl,rfl,H⟩ ?_ ?_
  ·rintro i env U hi e25 c0 ⟨e0,e3,e23,e24,ha,H⟩
   have hf:=fun h=>Cp (p:=ref1 l) hi h
   have ht:=C6 hi ha
   have G:=H.grow (pre1 U (some (Blk.row 1 [.str l[i].obj,gi l[i].dot.rep,gi l[i].dot.seq,gi l[i].time,gi l[i].ref.rep,gi l[i].ref.seq,gi l[i].val,.bool l[i].gone])))
   have hlk:=G.mlk 0 rfl l[i].ref
   have hdl:=Tt l[i].ref 0 l
   by_cases hr:l[i].ref=⟨0,0⟩
   ·simp +contextual (disch:=omega) only[go_sem,c0,e0,e3,e23,e24,e25,A5 (h.pre H.sub) hi,decide_eq_true hr]
    exact⟨ht (by simp[ref1,hr]),G⟩
   ·cases hx:F0 l l[i].ref with
    |none=>
     rw[hx] at hdl
     have hb:ref1 l l[i]=false:=by simp[ref1,hr,hx]
     rw[hdl] at hlk
     simp +contextual (disch:=omega) only[go_sem,c0,e0,e3,e23,e24,e25,A5 (h.pre H.sub) hi,decide_eq_false hr,hlk,Option.map_none,Option.isSome_none,Option.getD_none]
     exact⟨by simp[A0p,hf hb],G.sub⟩
    |some k=>
     rw[hx] at hdl
     obtain⟨hkl,_⟩:=Dt hx
     have hb:ref1 l l[i]=(decide (l[k].obj=l[i].obj)&&decide (l[k].time<l[i].time)):=by simp[ref1,hr,hx,Bx hkl]
     rw[hdl] at hlk
     simp +contextual (disch:=omega) only[go_sem,c0,e0,e3,e23,e24,e25,A5 (h.pre H.sub) hi,decide_eq_false hr,hlk,Option.map_some,Option.isSome_some,Zbj,Nat.zero_add,A5 (h.pre H.sub) hkl,fun r=>A5 (h.pre (A0 H.sub r)) hkl]
     refine⟨fun q1=>⟨?_,G.sub⟩,fun q1=>⟨fun q2=>⟨?_,G.sub⟩,fun q2=>⟨ht ?_,G⟩⟩⟩
     ·simp only[Zbf] at q1
      rw[q1] at hb
      simp[A0p,hf (by rw[hb];rfl)]
     ·rw[decide_eq_false (show ¬ l[k].time<l[i].time by have:=of_decide_eq_true q2;omega),Zbp] at hb
      simp[A0p,hf hb]
     ·simp only[Zba] at q1
      rw[hb,q1,decide_eq_true (show l[k].time<l[i].time by have:=of_decide_eq_false q2;omega)];rfl
  ·rintro env U e25 c0 ⟨e0,e3,e23,e24,ha,H⟩
   rw[Zaq] at ha
   simp +contextual (disch:=omega) only[go_sem,c0,e0,e3,e23,e24,e25,H.sub]
   exact ha.symm
theorem Am {s:State} (h:A7 s<=1099511627776):s.know.length<=1099511627776/\s.tallies.length<=1099511627776/\s.lives.length<=1099511627776/\s.cells.length<=1099511627776/\
  (∀ x∈s.tallies,x.obj.size<=1099511627776)/\(∀ x∈s.lives,x.obj.size<=1099511627776/\x.key.size<=1099511627776)/\∀ x∈s.cells,x.obj.size<=1099511627776:=by
 unfold A7 at h
 refine⟨by omega,by omega,by omega,by omega,fun x hx=> ?_,fun x hx=> ?_,fun x hx=> ?_⟩
 ·have h1:=Cj (f:=Ar) hx
  unfold Ar at h1;unfold Ar at h;omega
 ·have h1:=Cj (f:=Bk) hx
  unfold Bk at h1;unfold Bk at h;omega
 ·have h1:=Cj (f:=Ce) hx
  unfold Ce at h1;unfold Ce at h;omega
theorem Mu (N:St) (cs:List GV) (s:State) (hR:A8.R N s cs) (hl:A7 s<=1099511627776):Ret Tryz.prog 160 [.agg cs] N (.bool (C9 s)) N:=by
 obtain⟨a,b,c,v,rfl,hk,ht,hv,hc⟩:=hR
 obtain⟨l1,l2,l3,l4,z1,z2,z3⟩:=Am hl
 have p1:=pre1 N (some (Blk.row 1 [a,b,c,v]))
 refine Ab A5l (Z0z rfl) trivial ?_
 simp +contextual (disch:=omega) only[go_sem,V6]
 refine Ag (Qj _ a s.know (hk.pre p1) l1) (fun h1=> ?_) (fun h1=> ?_)
 rotate_left
 ·simp +contextual (disch:=omega) only[go_sem]
  simp[C9,h1]
 simp +contextual (disch:=omega) only[go_sem]
 refine Ag (V2 _ b s.tallies (ht.pre p1) l2 z1) (fun h2=> ?_) (fun h2=> ?_)
 rotate_left
 ·simp +contextual (disch:=omega) only[go_sem]
  simp[C9,h2]
 simp +contextual (disch:=omega) only[go_sem]
 refine Ag (A2x _ c s.lives (hv.pre p1) a s.know (hk.pre p1) l1 l3 z2) (fun h3=> ?_) (fun h3=> ?_)
 rotate_left
 ·simp +contextual (disch:=omega) only[go_sem]
  simp[C9,h3]
 simp +contextual (disch:=omega) only[go_sem]
 refine Ag (A2y _ v s.cells (hc.pre p1) a s.know (hk.pre p1) l1 l4 z3) (fun h4=> ?_) (fun h4=> ?_)
 rotate_left
 ·simp +contextual (disch:=omega) only[go_sem]
  simp[C9,h4]
 simp +contextual (disch:=omega) only[go_sem]
 refine A6 (A5m _ v s.cells (hc.pre p1) l4 (A8p h4)) ?_
 simp +contextual (disch:=omega) only[go_sem]
 simp[C9,h1,h2,h3,h4]
theorem Ah9:decide ((-1:Int)<0)=true:=rfl
theorem Mv (N:St) (cs:List GV) (s:State) (hR:A8.R N s cs) (hl:A7 s<=1099511627776):Ret Tryz.prog 54 [.agg cs] N (.bool (C9 s)) N:=by
 obtain⟨a,b,c,v,rfl,hk,ht,hv,hc⟩:=hR
 obtain⟨l1,l2,l3,l4,z1,z2,z3⟩:=Am hl
 have p1:=pre1 N (some (Blk.row 1 [a,b,c,v]))
 rw[<- A8o]
 refine Ab A5k (Z0z rfl) trivial ?_
 simp +contextual (disch:=omega) only[go_sem,V4]
 refine Ag (Qi _ a s.know (hk.pre p1) l1) (fun h1=> ?_) (fun h1=> ?_)
 rotate_left
 ·simp +contextual (disch:=omega) only[go_sem]
  simp[Do,h1]
 simp +contextual (disch:=omega) only[go_sem]
 refine Ag (Rl _ b s.tallies (ht.pre p1) l2 z1) (fun h2=> ?_) (fun h2=> ?_)
 rotate_left
 ·simp +contextual (disch:=omega) only[go_sem]
  simp[Do,h2]
 simp +contextual (disch:=omega) only[go_sem]
 refine Ag (Z5 _ c s.lives (hv.pre p1) l3 z2) (fun h3=> ?_) (fun h3=> ?_)
 rotate_left
 ·simp +contextual (disch:=omega) only[go_sem]
  simp[Do,h3]
 simp +contextual (disch:=omega) only[go_sem]
 refine Ag (Z6 _ v s.cells (hc.pre p1) l4 z3) (fun h4=> ?_) (fun h4=> ?_)
 rotate_left
 ·simp +contextual (disch:=omega) only[go_sem]
  simp[Do,h4]
 simp +contextual (disch:=omega) only[go_sem]
 refine Bc s.lives.length 3 (fun i env U=>env 1= .ptr N.length 0/\(s.lives.take i).all (livK s.know)=true/\N++[some (.row 1 [a,b,c,v])] <+: U) rfl ⟨rfl,rfl,Zaz _⟩ ?_ ?_
 ·rintro i env U hi e3 c0 ⟨e1,ha,hp⟩
  have hf:=fun h=>Cp (p:=livK s.know) hi h
  have hq:=C6 hi ha
  simp +contextual (disch:=omega) only[go_sem,c0,e1,e3,A2 (Je hp),hv.len,A3 (hv.pre (Ch hp)) hi]
  refine Ag (To _ a s.know s.lives[i].dot (hk.pre (Ch hp)) l1) (fun h5=> ?_) (fun h5=> ?_)
  ·simp +contextual (disch:=omega) only[go_sem,e1,e3,hp]
   exact hq h5
  ·simp +contextual (disch:=omega) only[go_sem,Ch hp]
   simp[Do,hf h5]
 ·rintro env U e3 c0 ⟨e1,ha5,hp⟩
  rw[Zaq] at ha5
  simp +contextual (disch:=omega) only[go_sem,c0,e1,e3,A2 (Je hp),hv.len]
  refine Bc s.cells.length 4 (fun i env U=>env 1= .ptr N.length 0/\(s.cells.take i).all (celK s.cells s.know)=true/\N++[some (.row 1 [a,b,c,v])] <+: U) rfl ⟨e1,rfl,hp⟩ ?_ ?_
  ·rintro i env U hi e4 c0 ⟨e1,ha,hp⟩
   have hf:=fun h=>Cp (p:=celK s.cells s.know) hi h
   have hq:=C6 hi ha
   have C0:=A5 (hc.pre (Ch hp)) hi
   have hr:=Je hp
   have hr2:rdB (U++[some (Blk.row 1 [.str s.cells[i].obj,gi s.cells[i].dot.rep,gi s.cells[i].dot.seq,gi s.cells[i].time,gi s.cells[i].ref.rep,gi s.cells[i].ref.seq,gi s.cells[i].val,.bool s.cells[i].gone])]) N.length=some [a,b,c,v]:=Adh hr _
   simp +contextual (disch:=omega) only[go_sem,c0,e1,e4,A2 hr,A2 hr2,hc.len,C0]
   refine Ag (To _ a s.know s.cells[i].dot (hk.pre (A0 (Ch hp) _)) l1) (fun h6=> ?_) (fun h6=> ?_)
   rotate_left
   ·simp +contextual (disch:=omega) only[go_sem,Ch hp,A0 (Ch hp) _]
    simp[Do,hf (by simp[celK,h6])]
   by_cases hz:s.cells[i].ref=⟨0,0⟩
   ·simp +contextual (disch:=omega) only[go_sem,e1,e4,decide_eq_true hz,A0 hp _]
    exact hq (by simp[celK,ref1,h6,hz])
   ·simp +contextual (disch:=omega) only[go_sem,e1,e4,decide_eq_false hz,A2 hr2]
    refine A6 (A8x _ a b c v s.cells s.cells[i].ref (hc.pre (A0 (Ch hp) _)) l4) ?_
    cases hx:F0 s.cells s.cells[i].ref with
    |none=>
     have hb:celK s.cells s.know s.cells[i]=false:=by simp[celK,ref1,hz,hx]
     have hn:I2 s.cells s.cells[i].ref= -1:=by simp[I2,hx]
     simp +contextual (disch:=omega) only[go_sem,hn,Ah9,Ch hp,A0 (Ch hp) _]
     simp[Do,hf hb]
    |some k=>
     obtain⟨hkl,_⟩:=Dt hx
     have hb:celK s.cells s.know s.cells[i]=(decide (s.cells[k].obj=s.cells[i].obj)&&decide (s.cells[k].time<s.cells[i].time)):=by simp[celK,h6,ref1,hz,hx,Bx hkl]
     have hn:I2 s.cells s.cells[i].ref=k:=by simp[I2,hx]
     have hd:decide ((k:Int)<0)=false:=by simp
     simp +contextual (disch:=omega) only[go_sem,hn,hd,e1,e4,A2 hr2,A5 (hc.pre (Ch hp)) hkl,fun r=>A5 (hc.pre (A0 (Ch hp) r)) hkl,Ch hp,A0 (Ch hp) _,A0 hp _]
     refine⟨fun q1=> ?_,fun q1=>⟨fun q2=> ?_,fun q2=>hq ?_⟩⟩
     ·simp only[Zbf] at q1
      rw[q1] at hb
      simp[Do,hf (by rw[hb];rfl)]
     ·rw[decide_eq_false (show ¬ s.cells[k].time<s.cells[i].time by have:=of_decide_eq_true q2;omega),Zbp] at hb
      simp[Do,hf hb]
     ·simp only[Zba] at q1
      rw[hb,q1,decide_eq_true (show s.cells[k].time<s.cells[i].time by have:=of_decide_eq_false q2;omega)];rfl
  ·rintro env U e4 c0 ⟨e1,ha,hp⟩
   rw[Zaq] at ha
   simp +contextual (disch:=omega) only[go_sem,c0,e1,e4,A2 (Je hp),hc.len,Ch hp]
   simp[Do,h1,h2,h3,h4,ha5,ha]
theorem A5n (N:St) (cs:List GV) (s:State) (hR:A8.R N s cs) (d:Dot) (hl:A7 s<=1099511627776):Ret Tryz.prog 140 [.agg cs,.agg [gi d.rep,gi d.seq]] N (gi (I2 s.cells d)) N:=by
 obtain⟨a,b,c,v,rfl,_,_,_,h⟩:=hR
 exact A8y N a b c v s.cells d h (Am hl).2.2.2.1
def d0:Dot:=⟨0,0⟩
section
variable {Y:Type}
def insB (lt:Y->Y->Bool) (x:Y):List Y->List Y
 |[]=>[x]
 |k::r=>if lt x k then x::k::r else k::insB lt x r
def Bh (lt:Y->Y->Bool) (l:List Y):List Y:=l.foldl (fun acc x=>insB lt x acc) []
theorem V8 {lt:Y->Y->Bool} {l:List Y} {x:Y}:Bh lt (l++[x])=insB lt x (Bh lt l):=by simp[Bh]
theorem I5 (lt:Y->Y->Bool) (x:Y):∀ l:List Y,(insB lt x l).Perm (x::l)
 |[]=>.refl _
 |k::r=>by
  unfold insB
  split
  ·exact .refl _
  ·exact((I5 lt x r).cons k).trans (.swap x k r)
theorem Bs (lt:Y->Y->Bool) (l:List Y):(Bh lt l).Perm l:=by
 have key:∀(l acc:List Y),(l.foldl (fun acc x=>insB lt x acc) acc).Perm (acc++l):=by
  intro l
  induction l with
  |nil=>intro acc;simp
  |cons x l ih=>
   intro acc
   simp only[Za1]
   refine(ih _).trans ?_
   refine((I5 lt x acc).append_right l).trans ?_
   rw[List.cons_append]
   exact List.perm_middle.symm
 have:=key l []
 unfold Bh
 simpa using this
theorem V9 (lt:Y->Y->Bool) (x:Y) (l:List Y):(insB lt x l).length=l.length+1:=(I5 lt x l).length_eq
theorem D7 (lt:Y->Y->Bool) (l:List Y):(Bh lt l).length=l.length:=(Bs lt l).length_eq
abbrev Up (lt:Y->Y->Bool) (l:List Y):Prop:=l.Pairwise fun a b=>lt b a=false
open Go.Sort (SWO) in
theorem SWO.asym {lt:Y->Y->Bool} (h:SWO lt) {x y:Y} (hxy:lt x y=true):lt y x=false:=by
 cases e:lt y x with
 |false=>rfl
 |true=>have:=h.trans _ _ _ hxy e;rw[h.irrefl] at this;cases this
theorem Adx {lt:Y->Y->Bool} (h:Go.Sort.SWO lt) {x:Y}:∀ {l:List Y},Up lt l->Up lt (insB lt x l)
 |[],_=>by simp[insB]
 |k::r,hl=>by
  obtain⟨h1,h2⟩:=Zab.1 hl
  unfold insB
  split
  ·rename_i hx
   refine Zab.2 ⟨fun y hy=> ?_,hl⟩
   rcases Zad.1 hy with rfl|hy
   ·exact SWO.asym h hx
   ·have:=h1 y hy
    cases e:lt y x with
    |false=>rfl
    |true=>rw[h.trans _ _ _ e hx] at this;cases this
  ·rename_i hx
   refine Zab.2 ⟨fun y hy=> ?_,Adx h h2⟩
   rcases Zad.1 ((I5 lt x r).mem_iff.1 hy) with rfl|hy
   ·simpa using hx
   ·exact h1 y hy
theorem Jt {lt:Y->Y->Bool} (h:Go.Sort.SWO lt) (l:List Y):Up lt (Bh lt l):=by
 have key:∀(l acc:List Y),Up lt acc->Up lt (l.foldl (fun acc x=>insB lt x acc) acc):=by
  intro l
  induction l with
  |nil=>intro acc h;exact h
  |cons x l ih=>intro acc ha;exact ih _ (Adx h ha)
 exact key l [] .nil
theorem Va {lt:Y->Y->Bool}:∀ {l m:List Y},(∀ x∈l,∀ y∈l,lt x y=false->lt y x=false->x=y)->l.Perm m->Up lt l->Up lt m->l=m
 |[],m,_,hp,_,_=>(List.nil_perm.1 hp).symm
 |a::l,[],_,hp,_,_=>by have:=hp.length_eq;simp at this
 |a::l,b::m,ht,hp,h1,h2=>by
  obtain⟨h3,h4⟩:=Zab.1 h1
  obtain⟨h5,h6⟩:=Zab.1 h2
  have hab:a=b:=by
   have ha:a∈b::m:=hp.mem_iff.1 Zae
   have hb:b∈a::l:=hp.mem_iff.2 Zae
   rcases Zad.1 ha with e|ha
   ·exact e
   ·rcases Zad.1 hb with e|hb
    ·exact e.symm
    ·exact ht a Zae b (Zag _ hb) (h5 a ha) (h3 b hb)
  subst hab
  rw[Va (fun x hx y hy=>ht x (Zag _ hx) y (Zag _ hy)) hp.cons_inv h4 h6]
theorem Mw {lt:Y->Y->Bool} (hi:∀ x,lt x x=false) (ha:∀ x y,lt x y=true->lt y x=true->False):∀ {l m:List Y},l.Pairwise (fun a b=>lt a b=true)->m.Pairwise (fun a b=>lt a b=true)->(∀ x,x∈l↔x∈m)->l=m
 |[],[],_,_,_=>rfl
 |[],b::m,_,_,h=>absurd ((h b).2 Zae) (by simp)
 |a::l,[],_,_,h=>absurd ((h a).1 Zae) (by simp)
 |a::l,b::m,h1,h2,h=>by
  obtain⟨h3,h4⟩:=Zab.1 h1
  obtain⟨h5,h6⟩:=Zab.1 h2
  have hab:a=b:=by
   rcases Zad.1 ((h a).1 Zae) with e|hm
   ·exact e
   ·rcases Zad.1 ((h b).2 Zae) with e|hl
    ·exact e.symm
    ·exact(ha _ _ (h3 b hl) (h5 a hm)).elim
  subst hab
  rw[Mw hi ha h4 h6 fun x=> ?_]
  constructor
  ·intro hx
   rcases Zad.1 ((h x).1 (Zag _ hx)) with e|hm
   ·subst e;have:=h3 x hx;rw[hi] at this;cases this
   ·exact hm
  ·intro hx
   rcases Zad.1 ((h x).2 (Zag _ hx)) with e|hm
   ·subst e;have:=h5 x hx;rw[hi] at this;cases this
   ·exact hm
def putU [DecidableEq Y] (lt:Y->Y->Bool) (x:Y) (l:List Y):List Y:=if x∈l then l else insB lt x l
def A9 [DecidableEq Y] (lt:Y->Y->Bool) (l:List Y):List Y:=l.foldl (fun acc x=>putU lt x acc) []
theorem Iq [DecidableEq Y] {lt:Y->Y->Bool} {l:List Y} {x:Y}:A9 lt (l++[x])=putU lt x (A9 lt l):=by simp[A9]
theorem Af8 [DecidableEq Y] {lt:Y->Y->Bool} {x y:Y} {l:List Y}:y∈putU lt x l↔y=x∨y∈l:=by
 unfold putU
 split
 ·rename_i h
  exact⟨.inr,fun h'=>by rcases h' with rfl|h'<;>assumption⟩
 ·rw[(I5 lt x l).mem_iff,Zad]
theorem Vb {lt:Y->Y->Bool} (ht:∀ x y z,lt x y=true->lt y z=true->lt x z=true) (htri:∀ x y,lt x y=false->lt y x=false->x=y) {x:Y}:∀ {l:List Y},x∉l->l.Pairwise (fun a b=>lt a b=true)->(insB lt x l).Pairwise (fun a b=>lt a b=true)
 |[],_,_=>by simp[insB]
 |k::r,hx,hl=>by
  obtain⟨h1,h2⟩:=Zab.1 hl
  unfold insB
  split
  ·rename_i hk
   refine Zab.2 ⟨fun y hy=> ?_,hl⟩
   rcases Zad.1 hy with rfl|hy
   ·exact hk
   ·exact ht _ _ _ hk (h1 y hy)
  ·rename_i hk
   have hk':lt x k=false:=by simpa using hk
   have hkx:lt k x=true:=by
    cases e:lt k x with
    |true=>rfl
    |false=>exact absurd (htri _ _ hk' e) fun e=>hx (by rw[e];exact Zae)
   refine Zab.2 ⟨fun y hy=> ?_,Vb ht htri (fun h=>hx (Zag _ h)) h2⟩
   rcases Zad.1 ((I5 lt x r).mem_iff.1 hy) with rfl|hy
   ·exact hkx
   ·exact h1 y hy
theorem A8z [DecidableEq Y] {lt:Y->Y->Bool} (ht:∀ x y z,lt x y=true->lt y z=true->lt x z=true) (htri:∀ x y,lt x y=false->lt y x=false->x=y) {x:Y} {l:List Y} (hl:l.Pairwise (fun a b=>lt a b=true)):(putU lt x l).Pairwise (fun a b=>lt a b=true):=by
 unfold putU
 split
 ·exact hl
 ·rename_i h;exact Vb ht htri h hl
theorem Lt [DecidableEq Y] {lt:Y->Y->Bool} (ht:∀ x y z,lt x y=true->lt y z=true->lt x z=true) (htri:∀ x y,lt x y=false->lt y x=false->x=y) (l:List Y):(A9 lt l).Pairwise (fun a b=>lt a b=true)/\∀ y,y∈A9 lt l↔y∈l:=by
 have key:∀(l acc:List Y),acc.Pairwise (fun a b=>lt a b=true)->(l.foldl (fun acc x=>putU lt x acc) acc).Pairwise (fun a b=>lt a b=true)/\∀ y,y∈l.foldl (fun acc x=>putU lt x acc) acc↔y∈acc∨y∈l:=by
  intro l
  induction l with
  |nil=>intro acc h;exact⟨h,by simp⟩
  |cons x l ih=>
   intro acc h
   obtain⟨h1,h2⟩:=ih (putU lt x acc) (A8z ht htri h)
   refine⟨h1,fun y=> ?_⟩
   rw[Za1,h2,Af8,Zad]
   constructor
   ·rintro((h|h)|h)
    ·exact .inr (.inl h)
    ·exact .inl h
    ·exact .inr (.inr h)
   ·rintro(h|h|h)
    ·exact .inl (.inr h)
    ·exact .inl (.inl h)
    ·exact .inr h
 have:=key l [] .nil
 exact⟨this.1,fun y=>by rw[A9,this.2];simp⟩
theorem A90 [DecidableEq Y] (lt:Y->Y->Bool) (x:Y) (l:List Y):(putU lt x l).length<=l.length+1:=by
 unfold putU
 split
 ·omega
 ·rw[V9];exact Zaa _
theorem Cb [DecidableEq Y] (lt:Y->Y->Bool) (l:List Y):(A9 lt l).length<=l.length:=by
 have key:∀(l acc:List Y),(l.foldl (fun acc x=>putU lt x acc) acc).length<=acc.length+l.length:=by
  intro l
  induction l with
  |nil=>intro acc;simp
  |cons x l ih=>
   intro acc
   have h1:=ih (putU lt x acc)
   have h2:=A90 lt x acc
   simp only[Za1,Zam];omega
 have:=key l []
 unfold A9
 simpa using this
def Ay [DecidableEq Y]:List Y->List Y
 |[]=>[]
 |[x]=>[x]
 |x::y::r=>if x=y then Ay (y::r) else x::Ay (y::r)
theorem Ir [DecidableEq Y]:∀ {l:List Y} {z:Y},z∈Ay l↔z∈l
 |[],z=>by simp[Ay]
 |[x],z=>by simp[Ay]
 |x::y::r,z=>by
  unfold Ay
  split
  ·rename_i h;subst h
   rw[Ir];simp
  ·rw[Zad,Ir];simp
theorem Hm [DecidableEq Y] {lt:Y->Y->Bool} (h:Go.Sort.SWO lt) (htri:∀ x y,lt x y=false->lt y x=false->x=y):∀ {l:List Y},Up lt l->(Ay l).Pairwise (fun a b=>lt a b=true)
 |[],_=>.nil
 |[x],_=>by simp[Ay]
 |x::y::r,hl=>by
  obtain⟨h1,h2⟩:=Zab.1 hl
  unfold Ay
  split
  ·exact Hm h htri h2
  ·rename_i hne
   refine Zab.2 ⟨fun z hz=> ?_,Hm h htri h2⟩
   have hz:=Ir.1 hz
   have hyx:lt x y=true:=by
    cases e:lt x y with
    |true=>rfl
    |false=>exact absurd (htri _ _ e (h1 y Zae)) hne
   rcases Zad.1 hz with rfl|hz
   ·exact hyx
   ·have h5:=(Zab.1 h2).1 z hz
    cases e:lt x z with
    |true=>rfl
    |false=>
     have:=h.ntrans _ _ _ e h5
     rw[hyx] at this;cases this
theorem Ll [DecidableEq Y] {lt:Y->Y->Bool} (h:Go.Sort.SWO lt) (htri:∀ x y,lt x y=false->lt y x=false->x=y) {l m:List Y} (hp:m.Perm l) (hu:Up lt m):Ay m=A9 lt l:=by
 obtain⟨h1,h2⟩:=Lt h.trans htri l
 refine Mw h.irrefl (fun x y h3 h4=>by rw[SWO.asym h h3] at h4;cases h4) (Hm h htri hu) h1 fun x=> ?_
 rw[Ir,h2,hp.mem_iff]
theorem Vc {lt:Y->Y->Bool} (h:Go.Sort.SWO lt) {l m:List Y} (htri:∀ x∈l,∀ y∈l,lt x y=false->lt y x=false->x=y) (hp:m.Perm l) (hu:Up lt m):m=Bh lt l:=Va (fun x hx y hy=>htri x (hp.mem_iff.1 hx) y (hp.mem_iff.1 hy)) (hp.trans (Bs lt l).symm) hu (Jt h l)
end
def ltI (a b:Int):Bool:=decide (a<b)
theorem Aha:Go.Sort.SWO ltI:=⟨fun x=>by simp[ltI],fun x y z h1 h2=>by simp only[ltI,decide_eq_true_eq] at *;omega,fun x y z h1 h2=>by simp only[ltI,decide_eq_false_iff_not] at *;omega⟩
theorem Ahb (x y:Int) (h1:ltI x y=false) (h2:ltI y x=false):x=y:=by simp only[ltI,decide_eq_false_iff_not] at *;omega
theorem Ku:Go.Sort.SWO txLt:=⟨Gx,fun x y z=>Ga,fun x y z h1 h2=>by
 cases e:txLt x z with
 |false=>rfl
 |true=>
  by_cases hxy:x=y
  ·subst hxy;rw[h2] at e;cases e
  ·have h3:txLt y x=true:=by
    cases e2:txLt y x with
    |true=>rfl
    |false=>exact absurd (Kr h1 e2) hxy
   rw[Ga h3 e] at h2;cases h2⟩
theorem Mx (x y:ByteArray):txLt x y=false->txLt y x=false->x=y:=Kr
def Du (a b:Cell):Bool:=decide (b.time<a.time)||decide (a.time=b.time)&&Ck b.dot a.dot
theorem Vd:Go.Sort.SWO Du:=⟨fun x=>by simp[Du,Jl],fun x y z h1 h2=>by
  simp only[Du,Ck,Zat,Zaj,decide_eq_true_eq] at *;omega,fun x y z h1 h2=>by
  simp only[Du,Ck,Zar,Zao,decide_eq_false_iff_not] at *;omega⟩
theorem A5o {x y:Cell} (h1:Du x y=false) (h2:Du y x=false):x.dot=y.dot:=by
 rw[Dot.eq_iff]
 simp only[Du,Ck,Zar,Zao,decide_eq_false_iff_not] at *;omega
def Bu (d:Dot) (c:Cell):Bool:=decide (c.ref=d)
def I6 (o:ByteArray) (c:Cell):Bool:=decide (c.obj=o)
def rowF (sc:List Cell):Nat->Dot->List Cell
 |0,_=>[]
 |f+1,d=>(sc.filter (Bu d)).flatMap fun c=>c::rowF sc f c.dot
def Adq (sc:List Cell):Nat->Dot->Prop
 |0,d=>∀ c∈sc,c.ref≠d
 |f+1,d=>∀ c∈sc,c.ref=d->Adq sc f c.dot
theorem Adq.up {sc:List Cell}:∀ {f:Nat} {d:Dot},Adq sc f d->Adq sc (f+1) d
 |0,d,h=>fun c hc e=>absurd e (h c hc)
 |f+1,d,h=>fun c hc e=>(h c hc e).up
theorem Adq.le {sc:List Cell} {f g:Nat} {d:Dot} (h:Adq sc f d) (hg:f<=g):Adq sc g d:=by
 induction g with
 |zero=>
      have:f=0:=by omega
      subst this;exact h
 |succ g ih=>
  rcases Zac g f with h1|h1
  ·have:f=g+1:=by omega
   subst this;exact h
  ·exact(ih h1).up
theorem Hn {Y β:Type} {f g:Y->List β}:∀ {l:List Y},(∀ x∈l,f x=g x)->l.flatMap f=l.flatMap g
 |[],_=>rfl
 |x::l,h=>by rw[Zah,Zah,h x Zae,Hn fun y hy=>h y (Zag _ hy)]
theorem Ady {sc:List Cell}:∀ {f:Nat} {d:Dot},Adq sc f d->rowF sc (f+1) d=rowF sc f d
 |0,d,h=>by
  have:sc.filter (Bu d)=[]:=List.filter_eq_nil_iff.2 fun c hc=>by simpa [Bu] using h c hc
  simp[rowF,this]
 |f+1,d,h=>by
  rw[rowF,rowF]
  refine Hn fun c hc=> ?_
  obtain⟨h1,h2⟩:=Zai.1 hc
  rw[Ady (h c h1 (by simpa [Bu] using h2))]
def fuel:Nat:=10001
def rowA (sc:List Cell) (d:Dot):List Cell:=rowF sc fuel d
theorem A91 {sc:List Cell} {d:Dot} (h:Adq sc fuel d):rowA sc d=(sc.filter (Bu d)).flatMap fun c=>c::rowA sc c.dot:=by
 unfold rowA
 rw[<- Ady h,rowF]
theorem Aat {sc:List Cell}:∀ {f:Nat} {d:Dot} {c:Cell},c∈rowF sc f d->c∈sc
 |0,_,_,h=>by simp[rowF] at h
 |f+1,d,c,h=>by
  rw[rowF,Za0] at h
  obtain⟨x,hx,h⟩:=h
  rcases Zad.1 h with rfl|h
  ·exact(Zai.1 hx).1
  ·exact Aat h
theorem A5p {Y:Type} [DecidableEq Y]:∀ {l m:List Y},l.Nodup->(∀ x∈l,x∈m)->l.length<=m.length
 |[],m,_,_=>by simp
 |x::l,m,hn,h=>by
  rw[Za2] at hn
  have hx:=h x Zae
  have:=A5p (l:=l) (m:=m.erase x) hn.2 fun y hy=>by
   rw[List.mem_erase_of_ne (fun e=>hn.1 (by rw[<- e];exact hy))]
   exact h y (Zag _ hy)
  rw[List.length_erase_of_mem hx] at this
  have:=List.length_pos_of_mem hx
  simp only[Zam];omega
theorem Ve {l:List Cell} (h:(l.map (·.dot)).Nodup) {a b:Cell} (ha:a∈l) (hb:b∈l) (e:a.dot=b.dot):a=b:=by
 induction l with
 |nil=>simp at ha
 |cons z l ih=>
  rw[Zbb,Za2] at h
  rcases Zad.1 ha with h1|h1<;>rcases Zad.1 hb with h2|h2
  ·rw[h1,h2]
  ·exact(h.1 (by rw[<- h1,e];exact Zau (f:=(·.dot)) h2)).elim
  ·exact(h.1 (by rw[<- h2,<-e];exact Zau (f:=(·.dot)) h1)).elim
  ·exact ih h.2 h1 h2
theorem A0w {sc:List Cell} (hd:(sc.map (·.dot)).Nodup):∀ {ds:List Dot},ds.Nodup->((ds.flatMap fun d=>sc.filter (Bu d)).map (·.dot)).Nodup
 |[],_=>by simp
 |d::ds,hn=>by
  rw[Za2] at hn
  rw[Zah,Za3,List.nodup_append]
  refine⟨hd.sublist ((Zav).map _),A0w hd hn.2,fun x hx y hy e=> ?_⟩
  obtain⟨a,ha,rfl⟩:=Zbi.1 hx
  obtain⟨b,hb,rfl⟩:=Zbi.1 hy
  obtain⟨d',hd',hb⟩:=Za0.1 hb
  obtain⟨ha1,ha2⟩:=Zai.1 ha
  obtain⟨hb1,hb2⟩:=Zai.1 hb
  have hab:a=b:=Ve hd ha1 hb1 e
  subst hab
  have e1:a.ref=d:=by simpa [Bu] using ha2
  have e2:a.ref=d':=by simpa [Bu] using hb2
  exact hn.1 (by rw[<- e1,e2];exact hd')
theorem Vf {Y β γ:Type} {k:Y->List β} {g:β->List γ} (w:Y->List γ) (hw:∀ a,(w a).length=(k a).length+((k a).flatMap g).length):∀ ds:List Y,(ds.flatMap w).length=(ds.flatMap k).length+((ds.flatMap k).flatMap g).length
 |[]=>rfl
 |d::ds=>by
  simp only[Zah,Zbc,Zaw,hw,Vf w hw ds];omega
theorem My {β γ:Type} (g:β->List γ) (h:β->γ):∀ l:List β,(l.flatMap fun c=>h c::g c).length=l.length+(l.flatMap g).length
 |[]=>rfl
 |c::l=>by
  have:=My g h l
  simp only[Zah,Zbc,Zam] at *;omega
theorem Aau {sc:List Cell} (hd:(sc.map (·.dot)).Nodup):∀(f:Nat) {ds:List Dot},ds.Nodup->(ds.flatMap (rowF sc f)).length<=f*sc.length
 |0,ds,_=>by
  have:∀ ds:List Dot,ds.flatMap (rowF sc 0)=[]:=by
   intro ds
   induction ds with
   |nil=>rfl
   |cons d ds ih=>rw[Zah,ih];rfl
  rw[this];simp
 |f+1,ds,hn=>by
  have h1:=Vf (k:=fun d=>sc.filter (Bu d)) (g:=fun c=>rowF sc f c.dot) (rowF sc (f+1)) (fun d=>by rw[rowF];exact My (fun c=>rowF sc f c.dot) id _) ds
  have h2:=A0w hd hn
  have h3:=Aau hd f h2
  have e:(ds.flatMap fun d=>sc.filter (Bu d)).flatMap (fun c=>rowF sc f c.dot)=((ds.flatMap fun d=>sc.filter (Bu d)).map (·.dot)).flatMap (rowF sc f):=by rw[Zbk]
  rw[e] at h1
  have h4:(ds.flatMap fun d=>sc.filter (Bu d)).length<=sc.length:=by
   have:=A5p (m:=sc.map (·.dot)) h2 fun x hx=>by
    obtain⟨a,ha,rfl⟩:=Zbi.1 hx
    obtain⟨d,_,ha⟩:=Za0.1 ha
    exact Zau (Zai.1 ha).1
   simpa using this
  rw[h1,Nat.add_mul]
  omega
theorem Af9 {l:List Cell} (h:l.Pairwise fun a b=>Ck a.dot b.dot=true):(l.map (·.dot)).Nodup:=by
 rw[List.Nodup,List.pairwise_map]
 exact h.imp fun {a b} h e=>by rw[e,Jl] at h;cases h
structure CelR (l:List Cell):Prop where
 nd:(l.map (·.dot)).Nodup
 time:∀ c∈l,1≤c.time/\c.time<=10000
 dot:∀ c∈l,In c.dot=true
 ref:∀ c∈l,c.ref=⟨0,0⟩∨∃ y∈l,y.dot=c.ref/\y.obj=c.obj/\y.time<c.time
 len:l.length<=120
theorem Po {s:State} (h:C9 s=true):CelR s.cells:=by
 simp only[C9,Zaj] at h
 obtain⟨_,_,_,h4,h5⟩:=h
 have hup:=A8p h4
 simp only[Jn,Zaj,D5,celP,decide_eq_true_eq] at h4
 have at':∀ c∈s.cells,Gj s.know c.dot=true/\cel1 c=true:=fun c hc=>by
  obtain⟨i,hi,rfl⟩:=Zas hc
  have:=h4.1 i hi
  rw[Bx hi,Bx hi] at this
  exact⟨this.1,this.2.1⟩
 refine⟨Af9 hup,fun c hc=> ?_,fun c hc=>Mn (at' c hc).1,fun c hc=> ?_,h4.2⟩
 ·have:=(at' c hc).2
  simp only[cel1,Zaj] at this
  exact Tn.1 this.2.2
 ·have:=List.all_eq_true.1 h5 c hc
  unfold ref1 at this
  simp only[Zat,decide_eq_true_eq] at this
  refine this.imp id fun h=> ?_
  split at h
  ·cases h
  ·rename_i k hk
   obtain⟨hkl,e⟩:=Dt hk
   rw[Bx hkl] at h
   simp only[Zaj,decide_eq_true_eq] at h
   exact⟨_,Zbl hkl,e,h.1,h.2⟩
theorem A0x:In ⟨0,0⟩=false:=by decide
theorem A2z {sc:List Cell} (hnd:(sc.map (·.dot)).Nodup) (ht:∀ c∈sc,1≤c.time/\c.time<=10000) (hr:∀ c∈sc,∀ y∈sc,y.dot=c.ref->y.time<c.time):∀(f:Nat) (d:Dot) (t:Int),(∀ c∈sc,c.ref=d->t<c.time)->10000 - t<=f->Adq sc f d
 |0,d,t,h,hf=>fun c hc e=>by have:=h c hc e;have:=(ht c hc).2;omega
 |f+1,d,t,h,hf=>fun c hc e=>A2z hnd ht hr f c.dot c.time (fun x hx ex=>hr x hx c hc ex.symm) (by have:=h c hc e;omega)
def objC (l:List Cell) (o:ByteArray):List Cell:=Bh Du (l.filter (I6 o))
theorem Mz {l:List Cell} {o:ByteArray} {c:Cell}:c∈objC l o↔c∈l/\c.obj=o:=by
 rw[objC,(Bs _ _).mem_iff,Zai];simp[I6]
theorem A92 {l:List Cell} (h:(l.map (·.dot)).Nodup) (o:ByteArray):((objC l o).map (·.dot)).Nodup:=(((Bs Du (l.filter (I6 o))).map (·.dot)).nodup_iff).2 (h.sublist ((Zav).map _))
theorem A30 (l:List Cell) (o:ByteArray):(objC l o).length<=l.length:=by
 rw[objC,D7];exact Zap _ _
theorem Aav {l:List Cell} (h:CelR l) (o:ByteArray):Adq (objC l o) fuel ⟨0,0⟩/\∀ c∈objC l o,Adq (objC l o) fuel c.dot:=by
 have ht:∀ c∈objC l o,1≤c.time/\c.time<=10000:=fun c hc=>h.time c (Mz.1 hc).1
 have hr:∀ c∈objC l o,∀ y∈objC l o,y.dot=c.ref->y.time<c.time:=fun c hc y hy e=>by
  obtain⟨hc,_⟩:=Mz.1 hc
  obtain⟨hy,_⟩:=Mz.1 hy
  rcases h.ref c hc with e0|⟨z,hz,e1,_,e2⟩
  ·have:=h.dot y hy
   rw[e,e0,A0x] at this;cases this
  ·rw[Ve h.nd hy hz (e.trans e1.symm)];exact e2
 refine⟨A2z (A92 h.nd o) ht hr fuel _ 0 (fun c hc _=>by have:=(ht c hc).1;omega) (by decide),fun c hc=> ?_⟩
 refine A2z (A92 h.nd o) ht hr fuel _ c.time (fun x hx ex=>hr x hx c hc ex.symm) ?_
 have:=(ht c hc).1
 show 10000 - c.time<=((10001:Nat):Int)
 omega
def rowC (s:State) (o:ByteArray):List Cell:=rowA (objC s.cells o) ⟨0,0⟩
theorem Afa {s:State} {o:ByteArray} {c:Cell} (h:c∈rowC s o):c∈s.cells:=(Mz.1 (Aat h)).1
theorem O0 {s:State} (h:CelR s.cells) (o:ByteArray):(rowC s o).length<=1200120:=by
 have:=Aau (A92 h.nd o) fuel (ds:=[⟨0,0⟩]) (by simp)
 have h2:=A30 s.cells o
 have h3:=h.len
 rw[Zah,Zbm,Zbn] at this
 unfold rowC rowA
 have h4:fuel*(objC s.cells o).length<=fuel*120:=Nat.mul_le_mul_left _ (by omega)
 have h5:fuel*120=1200120:=rfl
 omega
theorem Ahc {l:List Cell} (h:(l.map (·.dot)).Nodup) (o:ByteArray) (d:Dot):Bh Du (l.filter fun c=>I6 o c&&Bu d c)=(objC l o).filter (Bu d):=by
 refine Va (fun x hx y hy h1 h2=> ?_) ?_ (Jt Vd _) ((Jt Vd _).sublist Zav)
 ·have hx:=(Zai.1 ((Bs Du _).mem_iff.1 hx)).1
  have hy:=(Zai.1 ((Bs Du _).mem_iff.1 hy)).1
  exact Ve h hx hy (A5o h1 h2)
 ·refine(Bs _ _).trans ?_
  have e:(l.filter fun c=>I6 o c&&Bu d c)=(l.filter (I6 o)).filter (Bu d):=by
   rw[List.filter_filter]
   congr 1
   funext c
   exact Bool.and_comm _ _
  rw[e]
  exact(Bs Du (l.filter (I6 o))).symm.filter _
def rowL (s:State) (o:ByteArray):List Cell:=if C9 s then(rowC s o).filter (fun c=> !c.gone) else[]
def rowD (s:State) (o:ByteArray):List Dot:=if C9 s then(rowC s o).map (·.dot) else[]
theorem Aaw (s:State) (o:ByteArray):(rowL s o).length<=1200120:=by
 unfold rowL
 split
 ·rename_i h
  exact Nat.le_trans (Zap _ _) (O0 (Po h) o)
 ·simp
theorem Adz {s:State} {o:ByteArray} (h:C9 s=true) {c:Cell} (hc:c∈rowC s o):∃ k,∃ hk:k<s.cells.length,F0 s.cells c.dot=some k/\s.cells[k]=c:=by
 have hm:=Afa hc
 obtain⟨i,hi,e⟩:=Zas hm
 cases hx:F0 s.cells c.dot with
 |none=>
  unfold F0 at hx
  rw[Zax] at hx
  have:=hx c hm
  simp at this
 |some k=>
  obtain⟨hk,e2⟩:=Dt hx
  exact⟨k,hk,rfl,Ve (Po h).nd (Zbl hk) hm e2⟩
def addM (a b:Int):Int:=(a+b).tmod 1000000
theorem A5q {a b:Tally} (h:a.obj=b.obj) (h2:a.rep=b.rep):Db a b=false:=by simp[Db,h,h2,Gx]
theorem Ae0:Go.Sort.SWO Db:=⟨fun x=>A5q rfl rfl,fun x y z h1 h2=>by
  simp only[Db,Zat,Zaj,decide_eq_true_eq] at*
  rcases h1 with h1|⟨h1,h3⟩<;>rcases h2 with h2|⟨h2,h4⟩
  ·exact .inl (Ga h1 h2)
  ·exact .inl (by rw[<- h2];exact h1)
  ·exact .inl (by rw[h1];exact h2)
  ·exact .inr ⟨h1.trans h2,by omega⟩,fun x y z h1 h2=>by
  simp only[Db,Zar,Zao,decide_eq_false_iff_not] at*
  refine⟨Ku.ntrans _ _ _ h1.1 h2.1,?_⟩
  by_cases hxz:x.obj=z.obj
  ·right
   have hxy:x.obj=y.obj:=by
    by_cases e:x.obj=y.obj
    ·exact e
    ·exfalso
     have h3:txLt y.obj x.obj=true:=by
      cases e2:txLt y.obj x.obj with
      |true=>rfl
      |false=>exact absurd (Kr h1.1 e2) e
     rw[hxz] at h3
     rw[h3] at h2
     simp at h2
   rcases h1.2 with h|h
   ·exact absurd hxy h
   ·rcases h2.2 with h'|h'
    ·exact absurd (hxy.symm.trans hxz) h'
    ·omega
  ·exact .inl hxz⟩
def Fy (o:ByteArray) (n:Int) (t:Tally):Int:=if t.obj=o then addM n (t.sum.tmod 1000000) else n
def By (s:State) (o:ByteArray):Int:=s.tallies.foldl (Fy o) 0
theorem A93 {l:List Tally} {o:ByteArray} {n:Int} {t:Tally}:(l++[t]).foldl (Fy o) n=Fy o (l.foldl (Fy o) n) t:=by rw[List.foldl_append];rfl
def Bz (m:Bool) (o k:ByteArray) (l:Live):Bool:=(l.map==m)&&(decide (l.obj=o)&&decide (l.key=k))
def Ju (s:State) (m:Bool) (o k:ByteArray):List Live:=s.lives.filter (Bz m o k)
def Bf (m:Bool) (o:ByteArray) (l:Live):Bool:=(l.map==m)&&decide (l.obj=o)
def B8 (s:State) (m:Bool) (o:ByteArray):List ByteArray:=A9 txLt ((s.lives.filter (Bf m o)).map (·.key))
def Pp (s:State) (o k:ByteArray):List Int:=Bh ltI ((Ju s true o k).map (·.val))
def Lu (s:State) (o:ByteArray):List Int:=(rowL s o).map (·.val)
theorem Vg {l:List Tally} {o:ByteArray}:∀ {n:Int},-1000000<n/\n<1000000-> -1000000<l.foldl (Fy o) n/\l.foldl (Fy o) n<1000000:=by
 induction l with
 |nil=>intro n h;exact h
 |cons t l ih=>
  intro n h
  refine ih ?_
  unfold Fy
  split
  ·unfold addM
   have:=Int.tmod_lt_of_pos (n+t.sum.tmod 1000000) (show (0:Int)<1000000 by omega)
   have:=Int.lt_tmod_of_pos (n+t.sum.tmod 1000000) (show (0:Int)<1000000 by omega)
   omega
  ·exact h
theorem Fn {Y:Type} {l:List Y} {p:Y->Bool} {i:Nat} (hi:i<l.length):(l.take (i+1)).filter p=(l.take i).filter p++(if p l[i] then[l[i]] else[]):=by
 rw[Aw hi,List.filter_append]
 congr 1
 cases h:p l[i]<;>simp[h]
theorem C3 {Y:Type} (l:List Y) (p:Y->Bool) (i:Nat):((l.take i).filter p).length<=l.length:=by
 have:=Zap p (l.take i)
 rw[List.length_take] at this
 omega
section
variable {Y:Type} {lt:Y->Y->Bool} {x:Y} {acc nxt:List Y} {j:Nat} {put:Bool}
def insG (lt:Y->Y->Bool) (x:Y) (acc nxt:List Y) (j:Nat) (put:Bool):Prop:=if put then nxt++acc.drop j=insB lt x acc else nxt++insB lt x (acc.drop j)=insB lt x acc
theorem A31:insG lt x acc [] 0 false:=by simp[insG]
theorem G5 (h:insG lt x acc nxt j put):nxt.length<=acc.length+1:=by
 unfold insG at h
 have:(insB lt x acc).length=acc.length+1:=V9 lt x acc
 split at h
 ·rw[<- this,<-h];simp
 ·rw[<- this,<-h];simp
theorem A32 (h:insG lt x acc nxt j false) (hj:j<acc.length) (hl:lt x acc[j]=true):insG lt x acc (nxt++[x]++[acc[j]]) (j+1) true:=by
 simp only[insG,Zan,if_false,if_true] at h ⊢
 rw[Zak hj,insB,if_pos hl] at h
 rw[<- h];simp
theorem I7 (h:insG lt x acc nxt j put) (hj:j<acc.length) (hl:put=true∨lt x acc[j]=false):insG lt x acc (nxt++[acc[j]]) (j+1) put:=by
 cases put with
 |true=>
  simp only[insG,if_true] at h ⊢
  rw[Zak hj] at h
  rw[<- h];simp
 |false=>
  have hl:lt x acc[j]=false:=hl.resolve_left (by intro h;cases h)
  simp only[insG,Zan,if_false] at h ⊢
  rw[Zak hj,insB,if_neg (by rw[hl];simp)] at h
  rw[<- h];simp
theorem A33 (h:insG lt x acc nxt acc.length put):(if put then nxt else nxt++[x])=insB lt x acc:=by
 unfold insG at h
 split
 ·rename_i hp;rw[if_pos hp] at h;simpa using h
 ·rename_i hp;rw[if_neg hp] at h;simpa [insB] using h
theorem A94 {l:List Y} {p:Y->Bool} {i:Nat} (hi:i<l.length):Bh lt ((l.take (i+1)).filter p)=if p l[i] then insB lt l[i] (Bh lt ((l.take i).filter p)) else Bh lt ((l.take i).filter p):=by
 rw[Fn hi]
 split
 ·rw[V8]
 ·simp
theorem Ae1 {l:List Y} {p:Y->Bool} {i:Nat}:(Bh lt ((l.take i).filter p)).length<=l.length:=by
 rw[D7];exact C3 l p i
end
def isZ (d:Dot):Bool:=decide (d=⟨0,0⟩)
def A5r (d:Dot):List Dot:=if isZ d then[] else[d]
def Vh (sc:List Cell) (S:List Dot):List Dot:=S.reverse.flatMap fun d=>A5r d++(rowA sc d).map (·.dot)
def Qq (sc:List Cell) (S:List Dot):Nat:=(S.map fun d=>1+(rowA sc d).length).sum
theorem Ac0 {sc:List Cell} {S:List Dot} {d:Dot} (hd:Adq sc fuel d) (hz:∀ c∈sc,c.dot≠⟨0,0⟩):Vh sc (S++[d])=A5r d++Vh sc (S++((sc.filter (Bu d)).map (·.dot)).reverse):=by
 unfold Vh
 rw[Za9,Za9,List.reverse_reverse,Zaw,Zaw]
 simp only[Zbg,List.reverse_nil,List.nil_append,Zah,Zbm,Zbn,List.append_assoc]
 congr 1
 congr 1
 rw[A91 hd,Zbk,List.map_flatMap]
 refine Hn fun c hc=> ?_
 have:isZ c.dot=false:=by simpa [isZ] using hz c (Zai.1 hc).1
 simp[A5r,this]
theorem Ahd {l:List Nat}:l.reverse.sum=l.sum:=by
 induction l with
 |nil=>rfl
 |cons x l ih=>rw[Zbg,Za4,ih];simp;omega
theorem Ac1 {sc:List Cell} {S:List Dot} {d:Dot} (hd:Adq sc fuel d):Qq sc (S++[d])=Qq sc (S++((sc.filter (Bu d)).map (·.dot)).reverse)+1:=by
 unfold Qq
 rw[Za3,Za3,Za4,Za4,List.map_reverse,Ahd,List.map_map]
 have:(rowA sc d).length=(((sc.filter (Bu d))).map ((fun d=>1+(rowA sc d).length) ∘ fun c=>c.dot)).sum:=by
  rw[A91 hd,List.length_flatMap]
  congr 1
  refine List.map_congr_left fun c _=> ?_
  simp;omega
 simp only[Zbb,List.map_nil,Zbr,List.sum_nil]
 rw[<- this];omega
theorem A0y {sc:List Cell}:∀ S:List Dot,S.length<=Qq sc S
 |[]=>Nat.zero_le _
 |d::S=>by
  have:=A0y (sc:=sc) S
  simp only[Qq,Zbb,Zbr,Zam] at*
  omega
section
structure El (Y:Type) [Inhabited Y] where
 p:Pl Y
 g:Bool
 val:Y->GV
 hv:∀ x,mkv g (p.enc x)=some (val x)
 hc:∀ x,(val x).cells=p.enc x
 hz:0<p.z
section
variable {Y:Type} [Inhabited Y] {e:El Y} {N U:St} {rs:List Thg} {v:GV} {d:Array Y}
open Go.Sort (swp)
theorem Ahe {j:Nat} (hj:j<d.size):d.toList[j]? =some d[j]! :=by
 rw[getElem!_pos d j hj];simp
theorem El.at (e:El Y) (H:Hp N U rs) (k:Nat) (hk:rs[k]? =some (ow e.p.kd v d.toList)) {j:Nat} (hj:j<d.size):iadG e.p.z v (some j)=some (atz e.p.z v j)/\ldG e.g e.p.z U (atz e.p.z v j)=some (e.val d[j]!):=by
 have h:=H.sl k hk
 have hl:j<d.toList.length:=by simpa using hj
 refine⟨RdN.iad h hl,?_⟩
 obtain⟨cs,hR,hs⟩:=RdN.cells h hl
 have e1:cs=e.p.enc d.toList[j]:=hR
 have e2:d.toList[j]=d[j]! :=by
  have:=Ahe hj
  rw[Zay hl] at this
  injection this
 have hlen:=e.p.len d.toList[j]
 have:=hs 0 e.p.z cs (by unfold seg;rw[if_pos (by rw[e1,hlen];omega),List.drop_zero,List.take_of_length_le (by rw[e1,hlen];exact Zaa _)]) e.g
 rw[Af0] at this
 have this:ldG e.g e.p.z U (atz e.p.z v j)=mkv e.g cs:=this
 rw[this,e1,e.hv,e2]
theorem El.sw (e:El Y) (H:Hp N U rs) (k:Nat) (hk:rs[k]? =some (ow e.p.kd v d.toList)) {a b:Nat} (ha:a<d.size) (hb:b<d.size):∃ U1 U2,stG e.p.z U (atz e.p.z v a) (e.val d[b]!)=some (.tup [],U1)/\stG e.p.z U1 (atz e.p.z v b) (e.val d[a]!)=some (.tup [],U2)/\Hp N U2 (rs.set k (ow e.p.kd v (swp d a b).toList)):=by
 have hkl:=(Zal.1 hk).1
 obtain⟨U1,e1,H1⟩:=H.stw k hk (j:=a) (by simpa using ha) e.p.z (e.val d[b]!) d[b]! (e.hc _) rfl e.hz
 obtain⟨U2,e2,H2⟩:=H1.stw k (by rw[Zaf hkl]) (j:=b) (by simpa using hb) e.p.z (e.val d[a]!) d[a]! (e.hc _) rfl e.hz
 refine⟨U1,U2,e1,e2,?_⟩
 rw[Za5] at H2
 have:(swp d a b).toList=(d.toList.set a d[b]!).set b d[a]! :=by simp[swp]
 rw[this];exact H2
def Holds (e:El Y) (N0 U:St) (rs:List Thg) (k:Nat) (v:GV) (d:Array Y):Prop:=k<rs.length/\Hp N0 U (rs.set k (ow e.p.kd v d.toList))
theorem Holds.of {N0:St} (H:Hp N0 U rs) {k:Nat} (hk:rs[k]? =some (ow e.p.kd v d.toList)):Holds e N0 U rs k v d:=by
 obtain⟨h1,h2⟩:=Zal.1 hk
 refine⟨h1,?_⟩
 rw[<- h2,List.set_getElem_self];exact H
theorem Holds.at {N0:St} {k:Nat} (h:Holds e N0 U rs k v d) {j:Nat} (hj:j<d.size):iadG e.p.z v (some j)=some (atz e.p.z v j)/\ldG e.g e.p.z U (atz e.p.z v j)=some (e.val d[j]!):=e.at h.2 k (Zaf h.1) hj
theorem Holds.iad {N0:St} {k:Nat} (h:Holds e N0 U rs k v d) {j:Nat} (hj:j<d.size):iadG e.p.z v (some j)=some (atz e.p.z v j):=(h.at hj).1
theorem Holds.ld {N0:St} {k:Nat} (h:Holds e N0 U rs k v d) {j:Nat} (hj:j<d.size):ldG e.g e.p.z U (atz e.p.z v j)=some (e.val d[j]!):=(h.at hj).2
theorem Holds.sw {N0:St} {k:Nat} (h:Holds e N0 U rs k v d) {a b:Nat} (ha:a<d.size) (hb:b<d.size):∃ U1 U2,stG e.p.z U (atz e.p.z v a) (e.val d[b]!)=some (.tup [],U1)/\stG e.p.z U1 (atz e.p.z v b) (e.val d[a]!)=some (.tup [],U2)/\Holds e N0 U2 rs k v (swp d a b)/\U2.length=U.length:=by
 obtain⟨U1,U2,e1,e2,H⟩:=e.sw h.2 k (Zaf h.1) ha hb
 exact⟨U1,U2,e1,e2,⟨h.1,by rwa [Za5] at H⟩,by rw[A7z e2,A7z e1]⟩
theorem B4 {k:IntKind} {x:Int} {j:Nat} (h:x=(j:Int)):B9 (some (.int k x))=some j:=by rw[h];exact A1
theorem swp_size (d:Array Y) (i j:Nat):(swp d i j).size=d.size:=by simp[swp]
end
theorem C4 {P:Program} {a:Cd} {Q:Ex->Env->St->Prop} {env:Env} {N:St} (I:Nat->Env->St->Prop) (n j0:Nat) (X:Env->St->Prop) (h0:I n env N)
  (hs:∀(J:Nat->Env->St->Prop) (Yq:Env->St->Prop),(∀ k env N,I k env N->J k env N)->(∀ env N,X env N->Yq env N)->∀ k env N,I k env N->vc P a (fun e env' N'=>match e with| .nxt=>∃ k',k'<k/\J k' env' N'| .ext j=>if j=j0 then Yq env' N' else Q (.ext j) env' N'| .ret=>Q .ret env' N') env N)
  (hx:∀ env N,X env N->Q (.ext j0) env N):vc P (.lop a) Q env N:=by
 refine Sd I n h0 fun k env N hI=>Ao (hs I X (fun _ _ _ h=>h) (fun _ _ h=>h) k env N hI) fun e env' N' he=> ?_
 cases e with
 |nxt=>exact he
 |ret=>exact he
 |ext j=>
  have h5:if j=j0 then X env' N' else Q (.ext j) env' N':=he
  by_cases h:j=j0
  ·rw[if_pos h] at h5
   subst h;exact hx _ _ h5
  ·rw[if_neg h] at h5;exact h5
theorem Ho {P:Program} {a:Cd} {Q:Ex->Env->St->Prop} {env:Env} {N:St} (n ri j0:Nat) (I:Nat->Env->St->Prop) (X:Env->St->Prop) (hr:env ri=gi 0) (h0:I 0 env N)
  (hs:∀(J:Nat->Env->St->Prop) (Yq:Env->St->Prop),(∀ i env N,I i env N->J i env N)->(∀ env N,X env N->Yq env N)->∀ i env N,i<n->env ri=gi i->decide ((i:Int)<n)=true->I i env N->vc P a (fun e env' N'=>match e with| .nxt=>env' ri=gi ((i:Int)+1)/\J (i+1) env' N'| .ext j=>j=j0/\Yq env' N'| .ret=>False) env N)
  (he:∀(Yq:Env->St->Prop),(∀ env N,X env N->Yq env N)->∀ env N,env ri=gi n->decide ((n:Int)<n)=false->I n env N->vc P a (fun e env' N'=>match e with| .nxt=>False| .ext j=>j=j0/\Yq env' N'| .ret=>False) env N)
  (hx:∀ env N,X env N->Q (.ext j0) env N):vc P (.lop a) Q env N:=by
 refine Bc n ri I hr h0 (fun i env N h1 h2 h3 h4=>Ao (hs I X (fun _ _ _ h=>h) (fun _ _ h=>h) i env N h1 h2 h3 h4) fun e env' N' hq=> ?_) (fun env N h1 h2 h3=>Ao (he X (fun _ _ h=>h) env N h1 h2 h3) fun e env' N' hq=> ?_)
 ·cases e with
  |nxt=>exact hq
  |ret=>exact hq.elim
  |ext j=>obtain⟨rfl,hq⟩:=hq;exact hx _ _ hq
 ·cases e with
  |nxt=>exact hq
  |ret=>exact hq.elim
  |ext j=>obtain⟨rfl,hq⟩:=hq;exact hx _ _ hq
theorem Dd {P:Program} {a b:Cd} {Q:Ex->Env->St->Prop} {env:Env} {N:St} (X:Env->St->Prop)
  (ha:∀ Yq:Env->St->Prop,(∀ env N,X env N->Yq env N)->vc P a (fun e env' N'=>match e with| .nxt=>Yq env' N'| .ext j=>Q (.ext j) env' N'| .ret=>Q .ret env' N') env N)
  (hb:∀ env N,X env N->vc P b Q env N):vc P (.seq a b) Q env N:=by
 rw[vc_seq]
 refine Ao (ha X fun _ _ h=>h) fun e env' N' he=> ?_
 cases e with
 |nxt=>exact hb _ _ he
 |ret=>exact he
 |ext j=>exact he
open Go.Sort (bitsLen bitsLen_le_iff)
abbrev len8:ByteArray:=⟨#[0,1,2,2,3,3,3,3,4,4,4,4,4,4,4,4,5,5,5,5,5,5,5,5,5,5,5,5,5,5,5,5,6,6,6,6,6,6,6,6,6,6,6,6,6,6,6,6,6,6,6,6,6,6,6,6,6,6,6,6,6,6,6,6,7,7,7,7,7,7,7,7,7,7,7,7,7,7,7,7,7,7,7,7,7,7,7,7,7,7,7,7,7,7,7,7,7,7,7,7,7,7,7,7,7,7,7,7,7,7,7,7,7,7,7,7,7,7,7,7,7,7,7,7,7,7,7,7,8,8,8,8,8,8,8,8,8,8,8,8,8,8,8,8,8,8,8,8,8,8,8,8,8,8,8,8,8,8,8,8,8,8,8,8,8,8,8,8,8,8,8,8,8,8,8,8,8,8,8,8,8,8,8,8,8,8,8,8,8,8,8,8,8,8,8,8,8,8,8,8,8,8,8,8,8,8,8,8,8,8,8,8,8,8,8,8,8,8,8,8,8,8,8,8,8,8,8,8,8,8,8,8,8,8,8,8,8,8,8,8,8,8,8,8,8,8,8,8,8,8,8,8,8,8,8,8]⟩
set_option maxRecDepth 100000 in
theorem Afb:(bl len8).length=256:=by decide +kernel
set_option maxRecDepth 100000 in
theorem Pq {m:Nat} (h:m<256):idxG (.str len8) (some m)=some (.int .u8 (bitsLen m:Nat)):=by
 have key:∀ m:Fin 256,idxG (.str len8) (some m.1)=some (.int .u8 (bitsLen m.1:Nat)):=by
  intro m
  have hm:m.1<(bl len8).length:=by rw[Afb];exact m.2
  rw[Adu hm]
  have:∀ m:Fin 256,((bl len8).getD m.1 0).toNat=bitsLen m.1:=by decide +kernel
  have h2:=this m
  rw[List.getD_eq_getElem?_getD,Zay hm,Zbj] at h2
  rw[h2]
 exact key ⟨m,h⟩
theorem Ac2 {x k:Nat} (h:2 ^ k<=x):bitsLen x=bitsLen (x / 2 ^ k)+k:=by
 have h1:∀ m,bitsLen x<=m↔bitsLen (x / 2 ^ k)+k<=m:=by
  intro m
  rw[bitsLen_le_iff]
  have hx:¬ x<2 ^ k:=by omega
  constructor
  ·intro hlt
   have hkm:k<m:=by
    rcases Zac k m with h2|h2
    ·exact h2
    ·have:2 ^ m<=2 ^ k:=Za8 (by omega) h2
     omega
   have:bitsLen (x / 2 ^ k)<=m - k:=by
    rw[bitsLen_le_iff,Za6 (Za7 k),<-Nat.pow_add]
    rwa [Zbd (by omega)]
   omega
  ·intro hle
   have:bitsLen (x / 2 ^ k)<=m - k:=by omega
   rw[bitsLen_le_iff,Za6 (Za7 k),<-Nat.pow_add,Zbd (by omega)] at this
   exact this
 have h2:=(h1 _).1 (Zaa _)
 have h3:=(h1 _).2 (Zaa _)
 omega
theorem A95 {n:Nat} (h:n<=1099511627776):bitsLen n<=41:=(bitsLen_le_iff n 41).2 (by omega)
end
def Ef:Fn1:=⟨7,[.t 2],(rg [o 2 (.mov (.k (.int .u64 0)))] (rg [oM 3 0,o 4 (.cvi .u64 (.t 3)),oC 5 257 4,o 6 (.bin .shl (.k (.int .u64 1)) (.t 5)),oM 2 6] .ret))⟩
theorem I8:A4 Tryz.prog 311=some Ef:=by kernel_rfl
def F1:Fn1:=⟨33,[.t 2],(rg [o 2 (.mov (.k (.int .u64 0)))] (dw [oM 3 0,oK 4 3,oL 5 4,oM 6 0,oK 7 6,oL 8 7] [o 9 (.bin .shl (.t 8) (.k (.int .u64 13))),oB 10 .xor 5 9,oK 11 3,oS 1 11 10] (dw [oM 12 0,oK 13 12,oL 14 13,oM 15 0,oK 16 15,oL 17 16] [o 18 (.bin .shr (.t 17) (.k (.int .u64 7))),oB 19 .xor 14 18,oK 20 12,oS 1 20 19] (dw [oM 21 0,oK 22 21,oL 23 22,oM 24 0,oK 25 24,oL 26 25] [o 27 (.bin .shl (.t 26) (.k (.int .u64 17))),oB 28 .xor 23 27,oK 29 21,oS 1 29 28] (rg [oM 30 0,oK 31 30,oL 32 31,oM 2 32] .ret)))))⟩
theorem It:A4 Tryz.prog 312=some F1:=by kernel_rfl
def Jv:Fn1:=⟨8,[.t 2],(rg [oV 2 (ki 0)] (.seq (.cnd kf (rg [oM 3 0,o 4 (.cvi .u32 (.t 3)),oC 5 288 4,oM 2 5] .ret) .skip) (rg [oM 6 0,oC 7 289 6,oM 2 7] .ret)))⟩
theorem Rm:A4 Tryz.prog 257=some Jv:=by kernel_rfl
def Bg:Fn1:=⟨25,[.t 2],(rg [oV 2 (ki 0)] (.seq (rg [oM 3 0,o 4 (.bin .geq (.t 3) (.k (.int .u64 4294967296)))] (oG 4 (rg [oM 5 0,o 6 (.bin .shr (.t 5) (.k (.int .u64 32))),oM 0 6] (.reg [oV 2 (ki 32)])))) (.seq (rg [oM 7 0,o 8 (.bin .geq (.t 7) (.k (.int .u64 65536)))] (oG 8 (rg [oM 9 0,o 10 (.bin .shr (.t 9) (.k (.int .u64 16))),oM 0 10] (.reg [oM 11 2,oZ 12 11 16,oM 2 12])))) (.seq (rg [oM 13 0,o 14 (.bin .geq (.t 13) (.k (.int .u64 256)))] (oG 14 (rg [oM 15 0,o 16 (.bin .shr (.t 15) (.k (.int .u64 8))),oM 0 16] (.reg [oM 17 2,oZ 18 17 8,oM 2 18])))) (rg [oM 19 2,oM 20 0,o 21 (.cvi .u8 (.t 20)),o 22 (.idx (.k (.str ⟨#[0,1,2,2,3,3,3,3,4,4,4,4,4,4,4,4,5,5,5,5,5,5,5,5,5,5,5,5,5,5,5,5,6,6,6,6,6,6,6,6,6,6,6,6,6,6,6,6,6,6,6,6,6,6,6,6,6,6,6,6,6,6,6,6,7,7,7,7,7,7,7,7,7,7,7,7,7,7,7,7,7,7,7,7,7,7,7,7,7,7,7,7,7,7,7,7,7,7,7,7,7,7,7,7,7,7,7,7,7,7,7,7,7,7,7,7,7,7,7,7,7,7,7,7,7,7,7,7,8,8,8,8,8,8,8,8,8,8,8,8,8,8,8,8,8,8,8,8,8,8,8,8,8,8,8,8,8,8,8,8,8,8,8,8,8,8,8,8,8,8,8,8,8,8,8,8,8,8,8,8,8,8,8,8,8,8,8,8,8,8,8,8,8,8,8,8,8,8,8,8,8,8,8,8,8,8,8,8,8,8,8,8,8,8,8,8,8,8,8,8,8,8,8,8,8,8,8,8,8,8,8,8,8,8,8,8,8,8,8,8,8,8,8,8,8,8,8,8,8,8,8,8,8,8,8,8]⟩)) (.t 21)),o 23 (.cvi .i64 (.t 22)),oB 24 .add 19 23,oM 2 24] .ret)))))⟩
theorem O1:A4 Tryz.prog 289=some Bg:=by kernel_rfl
structure SN where
 insertionSort:Nat
 siftDown:Nat
 heapSort:Nat
 reverseRange:Nat
 partialInsertionSort:Nat
 partitionEqual:Nat
 partition:Nat
 breakPatterns:Nat
 order2:Nat
 median:Nat
 medianAdjacent:Nat
 choosePivot:Nat
 pdqsort:Nat
 less:Nat
 slices_nextPowerOfTwo:Nat
 slices_xorshift_Next:Nat
def F9 (z:Nat) (g:Bool) (q:SN):Fn1:=⟨67,[],(rg [oM 13 2,oM 14 1,oB 15 .sub 13 14,oM 8 15] (rg [oM 16 8,oE 17 .geq 16 8] (oG 17 (rg [oM 18 8,o 19 (.cvi .u64 (.t 18)),o 9 (.new [(.int .u64 0)]),oS 1 9 19] (rg [oM 20 8,o 21 (.call q.slices_nextPowerOfTwo [(.t 20)]),oM 10 21] (rg [oM 22 1,oM 23 8,oE 24 .quo 23 4,oE 25 .mul 24 2,oB 26 .add 22 25,oE 27 .sub 26 1,oM 11 27] (oH 0 (.seq (rg [oM 28 11,oM 29 1,oM 30 8,oE 31 .quo 30 4,oE 32 .mul 31 2,oB 33 .add 29 32,oZ 34 33 1,oB 35 .leq 28 34] (oJ 35 0)) (.seq (.blk 1 (rg [o 38 (.call q.slices_xorshift_Next [(.t 9)]),oM 39 10,o 40 (.bin .sub (.t 39) (.k (.int .u64 1))),oB 41 .and 38 40,o 42 (.cvi .i64 (.t 41)),oM 12 42] (.seq (rg [oM 43 12,oM 44 8,oB 45 .geq 43 44] (oG 45 (.reg [oM 46 12,oM 47 8,oB 48 .sub 46 47,oM 12 48]))) (.drw [oM 49 0,oM 50 11,oM 51 0,oM 52 1,oM 53 12,oB 54 .add 52 53,oM 55 0,oM 56 1,oM 57 12,oB 58 .add 56 57,o 59 (.iad z (.t 55) (.t 58)),o 60 (.ld g z (.t 59)),oM 61 0,oM 62 11,o 63 (.iad z (.t 61) (.t 62)),o 64 (.ld g z (.t 63))] [o 65 (.iad z (.t 49) (.t 50)),on (.st z (.t 65) (.t 60)),o 66 (.iad z (.t 51) (.t 54)),on (.st z (.t 66) (.t 64))])))) (.reg [oM 36 11,oZ 37 36 1,oM 11 37]))))))))))⟩
def Fa (z:Nat) (g:Bool) (q:SN):Fn1:=⟨65,[],(rg [oM 11 2,oM 12 1,oB 13 .sub 11 12,oM 6 13] (rg [oM 14 6,oE 15 .geq 14 8] (oG 15 (rg [oM 16 6,o 17 (.cvi .u64 (.t 16)),o 7 (.new [(.int .u64 0)]),oS 1 7 17] (rg [oM 18 6,o 19 (.call q.slices_nextPowerOfTwo [(.t 18)]),oM 8 19] (rg [oM 20 1,oM 21 6,oE 22 .quo 21 4,oE 23 .mul 22 2,oB 24 .add 20 23,oE 25 .sub 24 1,oM 9 25] (oH 0 (.seq (rg [oM 26 9,oM 27 1,oM 28 6,oE 29 .quo 28 4,oE 30 .mul 29 2,oB 31 .add 27 30,oZ 32 31 1,oB 33 .leq 26 32] (oJ 33 0)) (.seq (.blk 1 (rg [o 36 (.call q.slices_xorshift_Next [(.t 7)]),oM 37 8,o 38 (.bin .sub (.t 37) (.k (.int .u64 1))),oB 39 .and 36 38,o 40 (.cvi .i64 (.t 39)),oM 10 40] (.seq (rg [oM 41 10,oM 42 6,oB 43 .geq 41 42] (oG 43 (.reg [oM 44 10,oM 45 6,oB 46 .sub 44 45,oM 10 46]))) (.drw [oM 47 0,oM 48 9,oM 49 0,oM 50 1,oM 51 10,oB 52 .add 50 51,oM 53 0,oM 54 1,oM 55 10,oB 56 .add 54 55,o 57 (.iad z (.t 53) (.t 56)),o 58 (.ld g z (.t 57)),oM 59 0,oM 60 9,o 61 (.iad z (.t 59) (.t 60)),o 62 (.ld g z (.t 61))] [o 63 (.iad z (.t 47) (.t 48)),on (.st z (.t 63) (.t 58)),o 64 (.iad z (.t 49) (.t 52)),on (.st z (.t 64) (.t 62))])))) (.reg [oM 34 9,oZ 35 34 1,oM 9 35]))))))))))⟩
def Eh (z:Nat) (g:Bool) (q:SN):Fn1:=⟨63,[.t 8,.t 9],(rg [oV 8 (ki 0),oV 9 (ki 0)] (rg [oM 15 2,oM 16 1,oB 17 .sub 15 16,oM 10 17] (rg [o 11 (.new [z0])] (rg [oM 18 1,oM 19 10,oE 20 .quo 19 4,oE 21 .mul 20 1,oB 22 .add 18 21,oM 12 22] (rg [oM 23 1,oM 24 10,oE 25 .quo 24 4,oE 26 .mul 25 2,oB 27 .add 23 26,oM 13 27] (rg [oM 28 1,oM 29 10,oE 30 .quo 29 4,oE 31 .mul 30 3,oB 32 .add 28 31,oM 14 32] (.seq (rg [oM 33 10,oE 34 .geq 33 8] (oG 34 (.seq (rg [oM 35 10,oE 36 .geq 35 50] (oG 36 (rg [oM 37 0,oM 38 12,oM 39 3,o 40 (.call q.medianAdjacent (oT [37,38,11,39])),oM 12 40] (rg [oM 41 0,oM 42 13,oM 43 3,o 44 (.call q.medianAdjacent (oT [41,42,11,43])),oM 13 44] (.reg [oM 45 0,oM 46 14,oM 47 3,o 48 (.call q.medianAdjacent (oT [45,46,11,47])),oM 14 48]))))) (.reg [oM 49 0,oM 50 12,oM 51 13,oM 52 14,oM 53 3,o 54 (.call q.median (oT [49,50,51,52,11,53])),oM 13 54])))) (rg [oL 55 11] (.blk 0 (rg [oE 58 .eql 55 0,oM 57 58] (cn 57 (rg [oM 59 13,oM 8 59,oV 9 (ki 1)] .ret) (rg [oE 61 .eql 55 12,oM 60 61] (cn 60 (rg [oM 62 13,oM 8 62,oV 9 (ki 2)] .ret) (rg [oM 56 13,oM 8 56,oV 9 (ki 0)] .ret))))))))))))))⟩
def Ej (z:Nat) (g:Bool) (q:SN):Fn1:=⟨57,[.t 6,.t 7],(rg [oV 6 (ki 0),oV 7 (ki 0)] (rg [oM 13 2,oM 14 1,oB 15 .sub 13 14,oM 8 15] (rg [o 9 (.new [z0])] (rg [oM 16 1,oM 17 8,oE 18 .quo 17 4,oE 19 .mul 18 1,oB 20 .add 16 19,oM 10 20] (rg [oM 21 1,oM 22 8,oE 23 .quo 22 4,oE 24 .mul 23 2,oB 25 .add 21 24,oM 11 25] (rg [oM 26 1,oM 27 8,oE 28 .quo 27 4,oE 29 .mul 28 3,oB 30 .add 26 29,oM 12 30] (.seq (rg [oM 31 8,oE 32 .geq 31 8] (oG 32 (.seq (rg [oM 33 8,oE 34 .geq 33 50] (oG 34 (rg [oM 35 0,oM 36 10,o 37 (.call q.medianAdjacent (oT [35,36,9])),oM 10 37] (rg [oM 38 0,oM 39 11,o 40 (.call q.medianAdjacent (oT [38,39,9])),oM 11 40] (.reg [oM 41 0,oM 42 12,o 43 (.call q.medianAdjacent (oT [41,42,9])),oM 12 43]))))) (.reg [oM 44 0,oM 45 10,oM 46 11,oM 47 12,o 48 (.call q.median (oT [44,45,46,47,9])),oM 11 48])))) (rg [oL 49 9] (.blk 0 (rg [oE 52 .eql 49 0,oM 51 52] (cn 51 (rg [oM 53 11,oM 6 53,oV 7 (ki 1)] .ret) (rg [oE 55 .eql 49 12,oM 54 55] (cn 54 (rg [oM 56 11,oM 6 56,oV 7 (ki 2)] .ret) (rg [oM 50 11,oM 6 50,oV 7 (ki 0)] .ret))))))))))))))⟩
def Qr (z:Nat) (g:Bool) (q:SN):Fn1:=⟨60,[],(rg [oM 13 1,oM 8 13] (rg [oV 9 (ki 0)] (rg [oM 14 2,oM 15 1,oB 16 .sub 14 15,oM 10 16] (.seq (rg [oM 17 10,oE 18 .sub 17 1,oE 19 .quo 18 2,oM 11 19] (oH 0 (.seq (rg [oM 20 11,oE 21 .geq 20 0] (oJ 21 0)) (.seq (.blk 1 (.reg [oM 24 0,oM 25 11,oM 26 10,oM 27 8,oM 28 3,o 29 (.call q.siftDown (oT [24,25,26,27,28]))])) (.reg [oM 22 11,oE 23 .sub 22 1,oM 11 23]))))) (rg [oM 30 10,oE 31 .sub 30 1,oM 12 31] (oH 2 (.seq (rg [oM 32 12,oE 33 .geq 32 0] (oJ 33 2)) (.seq (.blk 3 (dw [oM 36 0,oM 37 8,oM 38 0,oM 39 8,oM 40 12,oB 41 .add 39 40,oM 42 0,oM 43 8,oM 44 12,oB 45 .add 43 44,o 46 (.iad z (.t 42) (.t 45)),o 47 (.ld g z (.t 46)),oM 48 0,oM 49 8,o 50 (.iad z (.t 48) (.t 49)),o 51 (.ld g z (.t 50))] [o 52 (.iad z (.t 36) (.t 37)),on (.st z (.t 52) (.t 47)),o 53 (.iad z (.t 38) (.t 41)),on (.st z (.t 53) (.t 51))] (.reg [oM 54 0,oM 55 9,oM 56 12,oM 57 8,oM 58 3,o 59 (.call q.siftDown (oT [54,55,56,57,58]))]))) (.reg [oM 34 12,oE 35 .sub 34 1,oM 12 35])))))))))⟩
def Qs (z:Nat) (g:Bool) (q:SN):Fn1:=⟨56,[],(rg [oM 11 1,oM 6 11] (rg [oV 7 (ki 0)] (rg [oM 12 2,oM 13 1,oB 14 .sub 12 13,oM 8 14] (.seq (rg [oM 15 8,oE 16 .sub 15 1,oE 17 .quo 16 2,oM 9 17] (oH 0 (.seq (rg [oM 18 9,oE 19 .geq 18 0] (oJ 19 0)) (.seq (.blk 1 (.reg [oM 22 0,oM 23 9,oM 24 8,oM 25 6,o 26 (.call q.siftDown (oT [22,23,24,25]))])) (.reg [oM 20 9,oE 21 .sub 20 1,oM 9 21]))))) (rg [oM 27 8,oE 28 .sub 27 1,oM 10 28] (oH 2 (.seq (rg [oM 29 10,oE 30 .geq 29 0] (oJ 30 2)) (.seq (.blk 3 (dw [oM 33 0,oM 34 6,oM 35 0,oM 36 6,oM 37 10,oB 38 .add 36 37,oM 39 0,oM 40 6,oM 41 10,oB 42 .add 40 41,o 43 (.iad z (.t 39) (.t 42)),o 44 (.ld g z (.t 43)),oM 45 0,oM 46 6,o 47 (.iad z (.t 45) (.t 46)),o 48 (.ld g z (.t 47))] [o 49 (.iad z (.t 33) (.t 34)),on (.st z (.t 49) (.t 44)),o 50 (.iad z (.t 35) (.t 38)),on (.st z (.t 50) (.t 48))] (.reg [oM 51 0,oM 52 7,oM 53 10,oM 54 6,o 55 (.call q.siftDown (oT [51,52,53,54]))]))) (.reg [oM 31 10,oE 32 .sub 31 1,oM 10 32])))))))))⟩
def Ia (z:Nat) (g:Bool) (q:SN):Fn1:=⟨53,[],(rg [oM 10 1,oZ 11 10 1,oM 8 11] (oH 0 (.seq (rg [oM 12 8,oM 13 2,oB 14 .lss 12 13] (oJ 14 0)) (.seq (.blk 1 (rg [oM 17 8,oM 9 17] (oH 2 (.seq (dw [oM 18 9,oM 19 1,oB 20 .gtr 18 19,oM 21 20,jM 22 21 3,jM 23 21 0,jM 24 21 9,og 25 21 true (.iad z (.t 23) (.t 24)),og 26 21 true (.ld g z (.t 25)),jM 27 21 0,jM 28 21 9,jE 29 21 .sub 28 1,og 30 21 true (.iad z (.t 27) (.t 29)),og 31 21 true (.ld g z (.t 30))] [og 32 21 true (.callv (.t 22) (oT [26,31])),jE 33 21 .lss 32 0,oQ 34 21 33] (oJ 34 2)) (.seq (.blk 3 (.drw [oM 37 0,oM 38 9,oM 39 0,oM 40 9,oE 41 .sub 40 1,oM 42 0,oM 43 9,oE 44 .sub 43 1,o 45 (.iad z (.t 42) (.t 44)),o 46 (.ld g z (.t 45)),oM 47 0,oM 48 9,o 49 (.iad z (.t 47) (.t 48)),o 50 (.ld g z (.t 49))] [o 51 (.iad z (.t 37) (.t 38)),on (.st z (.t 51) (.t 46)),o 52 (.iad z (.t 39) (.t 41)),on (.st z (.t 52) (.t 50))])) (.reg [oM 35 9,oE 36 .sub 35 1,oM 9 36])))))) (.reg [oM 15 8,oZ 16 15 1,oM 8 16])))))⟩
def Ib (z:Nat) (g:Bool) (q:SN):Fn1:=⟨49,[],(rg [oM 8 1,oZ 9 8 1,oM 6 9] (oH 0 (.seq (rg [oM 10 6,oM 11 2,oB 12 .lss 10 11] (oJ 12 0)) (.seq (.blk 1 (rg [oM 15 6,oM 7 15] (oH 2 (.seq (dw [oM 16 7,oM 17 1,oB 18 .gtr 16 17,oM 19 18,jM 20 19 0,jM 21 19 7,og 22 19 true (.iad z (.t 20) (.t 21)),og 23 19 true (.ld g z (.t 22)),jM 24 19 0,jM 25 19 7,jE 26 19 .sub 25 1,og 27 19 true (.iad z (.t 24) (.t 26)),og 28 19 true (.ld g z (.t 27))] [og 29 19 true (.call q.less (oT [23,28])),oQ 30 19 29] (oJ 30 2)) (.seq (.blk 3 (.drw [oM 33 0,oM 34 7,oM 35 0,oM 36 7,oE 37 .sub 36 1,oM 38 0,oM 39 7,oE 40 .sub 39 1,o 41 (.iad z (.t 38) (.t 40)),o 42 (.ld g z (.t 41)),oM 43 0,oM 44 7,o 45 (.iad z (.t 43) (.t 44)),o 46 (.ld g z (.t 45))] [o 47 (.iad z (.t 33) (.t 34)),on (.st z (.t 47) (.t 42)),o 48 (.iad z (.t 35) (.t 37)),on (.st z (.t 48) (.t 46))])) (.reg [oM 31 7,oE 32 .sub 31 1,oM 7 32])))))) (.reg [oM 13 6,oZ 14 13 1,oM 6 14])))))⟩
def A0z (z:Nat) (g:Bool) (q:SN):Fn1:=⟨41,[.t 12],(rg [oV 12 (ki 0)] (rg [oM 14 0,oM 15 1,oM 16 2,oM 17 4,oM 18 5,o 19 (.call q.order2 (oT [14,15,16,17,18])),oM 13 19,o 20 (.ext 0 (.t 13)),o 21 (.ext 1 (.t 13)),oM 1 20,oM 2 21] (rg [oM 23 0,oM 24 2,oM 25 3,oM 26 4,oM 27 5,o 28 (.call q.order2 (oT [23,24,25,26,27])),oM 22 28,o 29 (.ext 0 (.t 22)),o 30 (.ext 1 (.t 22)),oM 2 29,oM 3 30] (rg [oM 32 0,oM 33 1,oM 34 2,oM 35 4,oM 36 5,o 37 (.call q.order2 (oT [32,33,34,35,36])),oM 31 37,o 38 (.ext 0 (.t 31)),o 39 (.ext 1 (.t 31)),oM 1 38,oM 2 39] (rg [oM 40 2,oM 12 40] .ret)))))⟩
def A10 (z:Nat) (g:Bool) (q:SN):Fn1:=⟨36,[.t 10],(rg [oV 10 (ki 0)] (rg [oM 12 0,oM 13 1,oM 14 2,oM 15 4,o 16 (.call q.order2 (oT [12,13,14,15])),oM 11 16,o 17 (.ext 0 (.t 11)),o 18 (.ext 1 (.t 11)),oM 1 17,oM 2 18] (rg [oM 20 0,oM 21 2,oM 22 3,oM 23 4,o 24 (.call q.order2 (oT [20,21,22,23])),oM 19 24,o 25 (.ext 0 (.t 19)),o 26 (.ext 1 (.t 19)),oM 2 25,oM 3 26] (rg [oM 28 0,oM 29 1,oM 30 2,oM 31 4,o 32 (.call q.order2 (oT [28,29,30,31])),oM 27 32,o 33 (.ext 0 (.t 27)),o 34 (.ext 1 (.t 27)),oM 1 33,oM 2 34] (rg [oM 35 2,oM 10 35] .ret)))))⟩
def Hd (z:Nat) (g:Bool) (q:SN):Fn1:=⟨18,[.t 8],(rg [oV 8 (ki 0)] (rg [oM 9 0,oM 10 1,oE 11 .sub 10 1,oM 12 1,oM 13 1,oZ 14 13 1,oM 15 2,oM 16 3,o 17 (.call q.median (oT [9,11,12,14,15,16])),oM 8 17] .ret))⟩
def He (z:Nat) (g:Bool) (q:SN):Fn1:=⟨15,[.t 6],(rg [oV 6 (ki 0)] (rg [oM 7 0,oM 8 1,oE 9 .sub 8 1,oM 10 1,oM 11 1,oZ 12 11 1,oM 13 2,o 14 (.call q.median (oT [7,9,10,12,13])),oM 6 14] .ret))⟩
def A11 (z:Nat) (g:Bool) (q:SN):Fn1:=⟨32,[.t 10,.t 11],(rg [oV 10 (ki 0),oV 11 (ki 0)] (.seq (dw [oM 12 4,oM 13 0,oM 14 2,o 15 (.iad z (.t 13) (.t 14)),o 16 (.ld g z (.t 15)),oM 17 0,oM 18 1,o 19 (.iad z (.t 17) (.t 18)),o 20 (.ld g z (.t 19))] [o 21 (.callv (.t 12) (oT [16,20])),oE 22 .lss 21 0] (oG 22 (rg [oM 23 3,oK 24 23,oL 25 24,oZ 26 25 1,oK 27 23,oS 1 27 26] (rg [oM 28 2,oM 29 1,oM 10 28,oM 11 29] .ret)))) (rg [oM 30 1,oM 31 2,oM 10 30,oM 11 31] .ret)))⟩
def A12 (z:Nat) (g:Bool) (q:SN):Fn1:=⟨28,[.t 8,.t 9],(rg [oV 8 (ki 0),oV 9 (ki 0)] (.seq (dw [oM 10 0,oM 11 2,o 12 (.iad z (.t 10) (.t 11)),o 13 (.ld g z (.t 12)),oM 14 0,oM 15 1,o 16 (.iad z (.t 14) (.t 15)),o 17 (.ld g z (.t 16))] [o 18 (.call q.less (oT [13,17]))] (oG 18 (rg [oM 19 3,oK 20 19,oL 21 20,oZ 22 21 1,oK 23 19,oS 1 23 22] (rg [oM 24 2,oM 25 1,oM 8 24,oM 9 25] .ret)))) (rg [oM 26 1,oM 27 2,oM 8 26,oM 9 27] .ret)))⟩
def E2 (z:Nat) (g:Bool) (q:SN):Fn1:=⟨141,[.t 8],(rg [oV 8 kf] (rg [oM 13 1,oZ 14 13 1,oM 9 14] (.seq (rg [oV 10 (ki 0)] (oH 0 (.seq (rg [oM 15 10,oE 16 .lss 15 5] (oJ 16 0)) (.seq (.blk 1 (.seq (oH 2 (.seq (dw [oM 19 9,oM 20 2,oB 21 .lss 19 20,oM 22 21,jM 23 22 3,jM 24 22 0,jM 25 22 9,og 26 22 true (.iad z (.t 24) (.t 25)),og 27 22 true (.ld g z (.t 26)),jM 28 22 0,jM 29 22 9,jE 30 22 .sub 29 1,og 31 22 true (.iad z (.t 28) (.t 30)),og 32 22 true (.ld g z (.t 31))] [og 33 22 true (.callv (.t 23) (oT [27,32])),jE 34 22 .lss 33 0,jU 35 22 34,oQ 36 22 35] (oJ 36 2)) (.blk 3 (.reg [oM 37 9,oZ 38 37 1,oM 9 38])))) (.seq (rg [oM 39 9,oM 40 2,oB 41 .eql 39 40] (oG 41 (oR 8 kt))) (.seq (rg [oM 42 2,oM 43 1,oB 44 .sub 42 43,oE 45 .lss 44 50] (oG 45 (oR 8 kf))) (dw [oM 46 0,oM 47 9,oM 48 0,oM 49 9,oE 50 .sub 49 1,oM 51 0,oM 52 9,oE 53 .sub 52 1,o 54 (.iad z (.t 51) (.t 53)),o 55 (.ld g z (.t 54)),oM 56 0,oM 57 9,o 58 (.iad z (.t 56) (.t 57)),o 59 (.ld g z (.t 58))] [o 60 (.iad z (.t 46) (.t 47)),on (.st z (.t 60) (.t 55)),o 61 (.iad z (.t 48) (.t 50)),on (.st z (.t 61) (.t 59))] (.seq (rg [oM 62 9,oM 63 1,oB 64 .sub 62 63,oE 65 .geq 64 2] (oG 65 (rg [oM 66 9,oE 67 .sub 66 1,oM 11 67] (oH 4 (.seq (rg [oM 68 11,oE 69 .geq 68 1] (oJ 69 4)) (.seq (.blk 5 (.seq (dw [oM 72 3,oM 73 0,oM 74 11,o 75 (.iad z (.t 73) (.t 74)),o 76 (.ld g z (.t 75)),oM 77 0,oM 78 11,oE 79 .sub 78 1,o 80 (.iad z (.t 77) (.t 79)),o 81 (.ld g z (.t 80))] [o 82 (.callv (.t 72) (oT [76,81])),oE 83 .lss 82 0,oU 84 83] (oG 84 (.ext 4))) (.drw [oM 85 0,oM 86 11,oM 87 0,oM 88 11,oE 89 .sub 88 1,oM 90 0,oM 91 11,oE 92 .sub 91 1,o 93 (.iad z (.t 90) (.t 92)),o 94 (.ld g z (.t 93)),oM 95 0,oM 96 11,o 97 (.iad z (.t 95) (.t 96)),o 98 (.ld g z (.t 97))] [o 99 (.iad z (.t 85) (.t 86)),on (.st z (.t 99) (.t 94)),o 100 (.iad z (.t 87) (.t 89)),on (.st z (.t 100) (.t 98))]))) (.reg [oM 70 11,oE 71 .sub 70 1,oM 11 71]))))))) (rg [oM 101 2,oM 102 9,oB 103 .sub 101 102,oE 104 .geq 103 2] (oG 104 (rg [oM 105 9,oZ 106 105 1,oM 12 106] (oH 6 (.seq (rg [oM 107 12,oM 108 2,oB 109 .lss 107 108] (oJ 109 6)) (.seq (.blk 7 (.seq (dw [oM 112 3,oM 113 0,oM 114 12,o 115 (.iad z (.t 113) (.t 114)),o 116 (.ld g z (.t 115)),oM 117 0,oM 118 12,oE 119 .sub 118 1,o 120 (.iad z (.t 117) (.t 119)),o 121 (.ld g z (.t 120))] [o 122 (.callv (.t 112) (oT [116,121])),oE 123 .lss 122 0,oU 124 123] (oG 124 (.ext 6))) (.drw [oM 125 0,oM 126 12,oM 127 0,oM 128 12,oE 129 .sub 128 1,oM 130 0,oM 131 12,oE 132 .sub 131 1,o 133 (.iad z (.t 130) (.t 132)),o 134 (.ld g z (.t 133)),oM 135 0,oM 136 12,o 137 (.iad z (.t 135) (.t 136)),o 138 (.ld g z (.t 137))] [o 139 (.iad z (.t 125) (.t 126)),on (.st z (.t 139) (.t 134)),o 140 (.iad z (.t 127) (.t 129)),on (.st z (.t 140) (.t 138))]))) (.reg [oM 110 12,oZ 111 110 1,oM 12 111]))))))))))))) (.reg [oM 17 10,oZ 18 17 1,oM 10 18]))))) (oR 8 kf))))⟩
def E3 (z:Nat) (g:Bool) (q:SN):Fn1:=⟨133,[.t 6],(rg [oV 6 kf] (rg [oM 11 1,oZ 12 11 1,oM 7 12] (.seq (rg [oV 8 (ki 0)] (oH 0 (.seq (rg [oM 13 8,oE 14 .lss 13 5] (oJ 14 0)) (.seq (.blk 1 (.seq (oH 2 (.seq (dw [oM 17 7,oM 18 2,oB 19 .lss 17 18,oM 20 19,jM 21 20 0,jM 22 20 7,og 23 20 true (.iad z (.t 21) (.t 22)),og 24 20 true (.ld g z (.t 23)),jM 25 20 0,jM 26 20 7,jE 27 20 .sub 26 1,og 28 20 true (.iad z (.t 25) (.t 27)),og 29 20 true (.ld g z (.t 28))] [og 30 20 true (.call q.less (oT [24,29])),jU 31 20 30,oQ 32 20 31] (oJ 32 2)) (.blk 3 (.reg [oM 33 7,oZ 34 33 1,oM 7 34])))) (.seq (rg [oM 35 7,oM 36 2,oB 37 .eql 35 36] (oG 37 (oR 6 kt))) (.seq (rg [oM 38 2,oM 39 1,oB 40 .sub 38 39,oE 41 .lss 40 50] (oG 41 (oR 6 kf))) (dw [oM 42 0,oM 43 7,oM 44 0,oM 45 7,oE 46 .sub 45 1,oM 47 0,oM 48 7,oE 49 .sub 48 1,o 50 (.iad z (.t 47) (.t 49)),o 51 (.ld g z (.t 50)),oM 52 0,oM 53 7,o 54 (.iad z (.t 52) (.t 53)),o 55 (.ld g z (.t 54))] [o 56 (.iad z (.t 42) (.t 43)),on (.st z (.t 56) (.t 51)),o 57 (.iad z (.t 44) (.t 46)),on (.st z (.t 57) (.t 55))] (.seq (rg [oM 58 7,oM 59 1,oB 60 .sub 58 59,oE 61 .geq 60 2] (oG 61 (rg [oM 62 7,oE 63 .sub 62 1,oM 9 63] (oH 4 (.seq (rg [oM 64 9,oE 65 .geq 64 1] (oJ 65 4)) (.seq (.blk 5 (.seq (dw [oM 68 0,oM 69 9,o 70 (.iad z (.t 68) (.t 69)),o 71 (.ld g z (.t 70)),oM 72 0,oM 73 9,oE 74 .sub 73 1,o 75 (.iad z (.t 72) (.t 74)),o 76 (.ld g z (.t 75))] [o 77 (.call q.less (oT [71,76])),oU 78 77] (oG 78 (.ext 4))) (.drw [oM 79 0,oM 80 9,oM 81 0,oM 82 9,oE 83 .sub 82 1,oM 84 0,oM 85 9,oE 86 .sub 85 1,o 87 (.iad z (.t 84) (.t 86)),o 88 (.ld g z (.t 87)),oM 89 0,oM 90 9,o 91 (.iad z (.t 89) (.t 90)),o 92 (.ld g z (.t 91))] [o 93 (.iad z (.t 79) (.t 80)),on (.st z (.t 93) (.t 88)),o 94 (.iad z (.t 81) (.t 83)),on (.st z (.t 94) (.t 92))]))) (.reg [oM 66 9,oE 67 .sub 66 1,oM 9 67]))))))) (rg [oM 95 2,oM 96 7,oB 97 .sub 95 96,oE 98 .geq 97 2] (oG 98 (rg [oM 99 7,oZ 100 99 1,oM 10 100] (oH 6 (.seq (rg [oM 101 10,oM 102 2,oB 103 .lss 101 102] (oJ 103 6)) (.seq (.blk 7 (.seq (dw [oM 106 0,oM 107 10,o 108 (.iad z (.t 106) (.t 107)),o 109 (.ld g z (.t 108)),oM 110 0,oM 111 10,oE 112 .sub 111 1,o 113 (.iad z (.t 110) (.t 112)),o 114 (.ld g z (.t 113))] [o 115 (.call q.less (oT [109,114])),oU 116 115] (oG 116 (.ext 6))) (.drw [oM 117 0,oM 118 10,oM 119 0,oM 120 10,oE 121 .sub 120 1,oM 122 0,oM 123 10,oE 124 .sub 123 1,o 125 (.iad z (.t 122) (.t 124)),o 126 (.ld g z (.t 125)),oM 127 0,oM 128 10,o 129 (.iad z (.t 127) (.t 128)),o 130 (.ld g z (.t 129))] [o 131 (.iad z (.t 117) (.t 118)),on (.st z (.t 131) (.t 126)),o 132 (.iad z (.t 119) (.t 121)),on (.st z (.t 132) (.t 130))]))) (.reg [oM 104 10,oZ 105 104 1,oM 10 105]))))))))))))) (.reg [oM 15 8,oZ 16 15 1,oM 8 16]))))) (oR 6 kf))))⟩
def O2 (z:Nat) (g:Bool) (q:SN):Fn1:=⟨178,[.t 10,.t 11],(rg [oV 10 (ki 0),oV 11 kf] (dw [oM 14 0,oM 15 1,oM 16 0,oM 17 3,oM 18 0,oM 19 3,o 20 (.iad z (.t 18) (.t 19)),o 21 (.ld g z (.t 20)),oM 22 0,oM 23 1,o 24 (.iad z (.t 22) (.t 23)),o 25 (.ld g z (.t 24))] [o 26 (.iad z (.t 14) (.t 15)),on (.st z (.t 26) (.t 21)),o 27 (.iad z (.t 16) (.t 17)),on (.st z (.t 27) (.t 25))] (rg [oM 28 1,oZ 29 28 1,oM 30 2,oE 31 .sub 30 1,oM 12 29,oM 13 31] (.seq (oH 0 (.seq (dw [oM 32 12,oM 33 13,oB 34 .leq 32 33,oM 35 34,jM 36 35 4,jM 37 35 0,jM 38 35 12,og 39 35 true (.iad z (.t 37) (.t 38)),og 40 35 true (.ld g z (.t 39)),jM 41 35 0,jM 42 35 1,og 43 35 true (.iad z (.t 41) (.t 42)),og 44 35 true (.ld g z (.t 43))] [og 45 35 true (.callv (.t 36) (oT [40,44])),jE 46 35 .lss 45 0,oQ 47 35 46] (oJ 47 0)) (.blk 1 (.reg [oM 48 12,oZ 49 48 1,oM 12 49])))) (.seq (oH 2 (.seq (dw [oM 50 12,oM 51 13,oB 52 .leq 50 51,oM 53 52,jM 54 53 4,jM 55 53 0,jM 56 53 13,og 57 53 true (.iad z (.t 55) (.t 56)),og 58 53 true (.ld g z (.t 57)),jM 59 53 0,jM 60 53 1,og 61 53 true (.iad z (.t 59) (.t 60)),og 62 53 true (.ld g z (.t 61))] [og 63 53 true (.callv (.t 54) (oT [58,62])),jE 64 53 .lss 63 0,jU 65 53 64,oQ 66 53 65] (oJ 66 2)) (.blk 3 (.reg [oM 67 13,oE 68 .sub 67 1,oM 13 68])))) (.seq (rg [oM 69 12,oM 70 13,oB 71 .gtr 69 70] (oG 71 (dw [oM 72 0,oM 73 13,oM 74 0,oM 75 1,oM 76 0,oM 77 1,o 78 (.iad z (.t 76) (.t 77)),o 79 (.ld g z (.t 78)),oM 80 0,oM 81 13,o 82 (.iad z (.t 80) (.t 81)),o 83 (.ld g z (.t 82))] [o 84 (.iad z (.t 72) (.t 73)),on (.st z (.t 84) (.t 79)),o 85 (.iad z (.t 74) (.t 75)),on (.st z (.t 85) (.t 83))] (rg [oM 86 13,oM 10 86,oV 11 kt] .ret)))) (dw [oM 87 0,oM 88 12,oM 89 0,oM 90 13,oM 91 0,oM 92 13,o 93 (.iad z (.t 91) (.t 92)),o 94 (.ld g z (.t 93)),oM 95 0,oM 96 12,o 97 (.iad z (.t 95) (.t 96)),o 98 (.ld g z (.t 97))] [o 99 (.iad z (.t 87) (.t 88)),on (.st z (.t 99) (.t 94)),o 100 (.iad z (.t 89) (.t 90)),on (.st z (.t 100) (.t 98))] (rg [oM 101 12,oZ 102 101 1,oM 12 102] (rg [oM 103 13,oE 104 .sub 103 1,oM 13 104] (.seq (oH 4 (.blk 5 (.seq (oH 6 (.seq (dw [oM 105 12,oM 106 13,oB 107 .leq 105 106,oM 108 107,jM 109 108 4,jM 110 108 0,jM 111 108 12,og 112 108 true (.iad z (.t 110) (.t 111)),og 113 108 true (.ld g z (.t 112)),jM 114 108 0,jM 115 108 1,og 116 108 true (.iad z (.t 114) (.t 115)),og 117 108 true (.ld g z (.t 116))] [og 118 108 true (.callv (.t 109) (oT [113,117])),jE 119 108 .lss 118 0,oQ 120 108 119] (oJ 120 6)) (.blk 7 (.reg [oM 121 12,oZ 122 121 1,oM 12 122])))) (.seq (oH 8 (.seq (dw [oM 123 12,oM 124 13,oB 125 .leq 123 124,oM 126 125,jM 127 126 4,jM 128 126 0,jM 129 126 13,og 130 126 true (.iad z (.t 128) (.t 129)),og 131 126 true (.ld g z (.t 130)),jM 132 126 0,jM 133 126 1,og 134 126 true (.iad z (.t 132) (.t 133)),og 135 126 true (.ld g z (.t 134))] [og 136 126 true (.callv (.t 127) (oT [131,135])),jE 137 126 .lss 136 0,jU 138 126 137,oQ 139 126 138] (oJ 139 8)) (.blk 9 (.reg [oM 140 13,oE 141 .sub 140 1,oM 13 141])))) (.seq (rg [oM 142 12,oM 143 13,oB 144 .gtr 142 143] (oG 144 (.ext 4))) (dw [oM 145 0,oM 146 12,oM 147 0,oM 148 13,oM 149 0,oM 150 13,o 151 (.iad z (.t 149) (.t 150)),o 152 (.ld g z (.t 151)),oM 153 0,oM 154 12,o 155 (.iad z (.t 153) (.t 154)),o 156 (.ld g z (.t 155))] [o 157 (.iad z (.t 145) (.t 146)),on (.st z (.t 157) (.t 152)),o 158 (.iad z (.t 147) (.t 148)),on (.st z (.t 158) (.t 156))] (rg [oM 159 12,oZ 160 159 1,oM 12 160] (.reg [oM 161 13,oE 162 .sub 161 1,oM 13 162])))))))) (dw [oM 163 0,oM 164 13,oM 165 0,oM 166 1,oM 167 0,oM 168 1,o 169 (.iad z (.t 167) (.t 168)),o 170 (.ld g z (.t 169)),oM 171 0,oM 172 13,o 173 (.iad z (.t 171) (.t 172)),o 174 (.ld g z (.t 173))] [o 175 (.iad z (.t 163) (.t 164)),on (.st z (.t 175) (.t 170)),o 176 (.iad z (.t 165) (.t 166)),on (.st z (.t 176) (.t 174))] (rg [oM 177 13,oM 10 177,oV 11 kf] .ret))))))))))))⟩
def O3 (z:Nat) (g:Bool) (q:SN):Fn1:=⟨168,[.t 8,.t 9],(rg [oV 8 (ki 0),oV 9 kf] (dw [oM 12 0,oM 13 1,oM 14 0,oM 15 3,oM 16 0,oM 17 3,o 18 (.iad z (.t 16) (.t 17)),o 19 (.ld g z (.t 18)),oM 20 0,oM 21 1,o 22 (.iad z (.t 20) (.t 21)),o 23 (.ld g z (.t 22))] [o 24 (.iad z (.t 12) (.t 13)),on (.st z (.t 24) (.t 19)),o 25 (.iad z (.t 14) (.t 15)),on (.st z (.t 25) (.t 23))] (rg [oM 26 1,oZ 27 26 1,oM 28 2,oE 29 .sub 28 1,oM 10 27,oM 11 29] (.seq (oH 0 (.seq (dw [oM 30 10,oM 31 11,oB 32 .leq 30 31,oM 33 32,jM 34 33 0,jM 35 33 10,og 36 33 true (.iad z (.t 34) (.t 35)),og 37 33 true (.ld g z (.t 36)),jM 38 33 0,jM 39 33 1,og 40 33 true (.iad z (.t 38) (.t 39)),og 41 33 true (.ld g z (.t 40))] [og 42 33 true (.call q.less (oT [37,41])),oQ 43 33 42] (oJ 43 0)) (.blk 1 (.reg [oM 44 10,oZ 45 44 1,oM 10 45])))) (.seq (oH 2 (.seq (dw [oM 46 10,oM 47 11,oB 48 .leq 46 47,oM 49 48,jM 50 49 0,jM 51 49 11,og 52 49 true (.iad z (.t 50) (.t 51)),og 53 49 true (.ld g z (.t 52)),jM 54 49 0,jM 55 49 1,og 56 49 true (.iad z (.t 54) (.t 55)),og 57 49 true (.ld g z (.t 56))] [og 58 49 true (.call q.less (oT [53,57])),jU 59 49 58,oQ 60 49 59] (oJ 60 2)) (.blk 3 (.reg [oM 61 11,oE 62 .sub 61 1,oM 11 62])))) (.seq (rg [oM 63 10,oM 64 11,oB 65 .gtr 63 64] (oG 65 (dw [oM 66 0,oM 67 11,oM 68 0,oM 69 1,oM 70 0,oM 71 1,o 72 (.iad z (.t 70) (.t 71)),o 73 (.ld g z (.t 72)),oM 74 0,oM 75 11,o 76 (.iad z (.t 74) (.t 75)),o 77 (.ld g z (.t 76))] [o 78 (.iad z (.t 66) (.t 67)),on (.st z (.t 78) (.t 73)),o 79 (.iad z (.t 68) (.t 69)),on (.st z (.t 79) (.t 77))] (rg [oM 80 11,oM 8 80,oV 9 kt] .ret)))) (dw [oM 81 0,oM 82 10,oM 83 0,oM 84 11,oM 85 0,oM 86 11,o 87 (.iad z (.t 85) (.t 86)),o 88 (.ld g z (.t 87)),oM 89 0,oM 90 10,o 91 (.iad z (.t 89) (.t 90)),o 92 (.ld g z (.t 91))] [o 93 (.iad z (.t 81) (.t 82)),on (.st z (.t 93) (.t 88)),o 94 (.iad z (.t 83) (.t 84)),on (.st z (.t 94) (.t 92))] (rg [oM 95 10,oZ 96 95 1,oM 10 96] (rg [oM 97 11,oE 98 .sub 97 1,oM 11 98] (.seq (oH 4 (.blk 5 (.seq (oH 6 (.seq (dw [oM 99 10,oM 100 11,oB 101 .leq 99 100,oM 102 101,jM 103 102 0,jM 104 102 10,og 105 102 true (.iad z (.t 103) (.t 104)),og 106 102 true (.ld g z (.t 105)),jM 107 102 0,jM 108 102 1,og 109 102 true (.iad z (.t 107) (.t 108)),og 110 102 true (.ld g z (.t 109))] [og 111 102 true (.call q.less (oT [106,110])),oQ 112 102 111] (oJ 112 6)) (.blk 7 (.reg [oM 113 10,oZ 114 113 1,oM 10 114])))) (.seq (oH 8 (.seq (dw [oM 115 10,oM 116 11,oB 117 .leq 115 116,oM 118 117,jM 119 118 0,jM 120 118 11,og 121 118 true (.iad z (.t 119) (.t 120)),og 122 118 true (.ld g z (.t 121)),jM 123 118 0,jM 124 118 1,og 125 118 true (.iad z (.t 123) (.t 124)),og 126 118 true (.ld g z (.t 125))] [og 127 118 true (.call q.less (oT [122,126])),jU 128 118 127,oQ 129 118 128] (oJ 129 8)) (.blk 9 (.reg [oM 130 11,oE 131 .sub 130 1,oM 11 131])))) (.seq (rg [oM 132 10,oM 133 11,oB 134 .gtr 132 133] (oG 134 (.ext 4))) (dw [oM 135 0,oM 136 10,oM 137 0,oM 138 11,oM 139 0,oM 140 11,o 141 (.iad z (.t 139) (.t 140)),o 142 (.ld g z (.t 141)),oM 143 0,oM 144 10,o 145 (.iad z (.t 143) (.t 144)),o 146 (.ld g z (.t 145))] [o 147 (.iad z (.t 135) (.t 136)),on (.st z (.t 147) (.t 142)),o 148 (.iad z (.t 137) (.t 138)),on (.st z (.t 148) (.t 146))] (rg [oM 149 10,oZ 150 149 1,oM 10 150] (.reg [oM 151 11,oE 152 .sub 151 1,oM 11 152])))))))) (dw [oM 153 0,oM 154 11,oM 155 0,oM 156 1,oM 157 0,oM 158 1,o 159 (.iad z (.t 157) (.t 158)),o 160 (.ld g z (.t 159)),oM 161 0,oM 162 11,o 163 (.iad z (.t 161) (.t 162)),o 164 (.ld g z (.t 163))] [o 165 (.iad z (.t 153) (.t 154)),on (.st z (.t 165) (.t 160)),o 166 (.iad z (.t 155) (.t 156)),on (.st z (.t 166) (.t 164))] (rg [oM 167 11,oM 8 167,oV 9 kf] .ret))))))))))))⟩
def Hf (z:Nat) (g:Bool) (q:SN):Fn1:=⟨90,[.t 10],(rg [oV 10 (ki 0)] (dw [oM 13 0,oM 14 1,oM 15 0,oM 16 3,oM 17 0,oM 18 3,o 19 (.iad z (.t 17) (.t 18)),o 20 (.ld g z (.t 19)),oM 21 0,oM 22 1,o 23 (.iad z (.t 21) (.t 22)),o 24 (.ld g z (.t 23))] [o 25 (.iad z (.t 13) (.t 14)),on (.st z (.t 25) (.t 20)),o 26 (.iad z (.t 15) (.t 16)),on (.st z (.t 26) (.t 24))] (rg [oM 27 1,oZ 28 27 1,oM 29 2,oE 30 .sub 29 1,oM 11 28,oM 12 30] (.seq (oH 0 (.blk 1 (.seq (oH 2 (.seq (dw [oM 31 11,oM 32 12,oB 33 .leq 31 32,oM 34 33,jM 35 34 4,jM 36 34 0,jM 37 34 1,og 38 34 true (.iad z (.t 36) (.t 37)),og 39 34 true (.ld g z (.t 38)),jM 40 34 0,jM 41 34 11,og 42 34 true (.iad z (.t 40) (.t 41)),og 43 34 true (.ld g z (.t 42))] [og 44 34 true (.callv (.t 35) (oT [39,43])),jE 45 34 .lss 44 0,jU 46 34 45,oQ 47 34 46] (oJ 47 2)) (.blk 3 (.reg [oM 48 11,oZ 49 48 1,oM 11 49])))) (.seq (oH 4 (.seq (dw [oM 50 11,oM 51 12,oB 52 .leq 50 51,oM 53 52,jM 54 53 4,jM 55 53 0,jM 56 53 1,og 57 53 true (.iad z (.t 55) (.t 56)),og 58 53 true (.ld g z (.t 57)),jM 59 53 0,jM 60 53 12,og 61 53 true (.iad z (.t 59) (.t 60)),og 62 53 true (.ld g z (.t 61))] [og 63 53 true (.callv (.t 54) (oT [58,62])),jE 64 53 .lss 63 0,oQ 65 53 64] (oJ 65 4)) (.blk 5 (.reg [oM 66 12,oE 67 .sub 66 1,oM 12 67])))) (.seq (rg [oM 68 11,oM 69 12,oB 70 .gtr 68 69] (oG 70 (.ext 0))) (dw [oM 71 0,oM 72 11,oM 73 0,oM 74 12,oM 75 0,oM 76 12,o 77 (.iad z (.t 75) (.t 76)),o 78 (.ld g z (.t 77)),oM 79 0,oM 80 11,o 81 (.iad z (.t 79) (.t 80)),o 82 (.ld g z (.t 81))] [o 83 (.iad z (.t 71) (.t 72)),on (.st z (.t 83) (.t 78)),o 84 (.iad z (.t 73) (.t 74)),on (.st z (.t 84) (.t 82))] (rg [oM 85 11,oZ 86 85 1,oM 11 86] (.reg [oM 87 12,oE 88 .sub 87 1,oM 12 88])))))))) (rg [oM 89 11,oM 10 89] .ret)))))⟩
def Hg (z:Nat) (g:Bool) (q:SN):Fn1:=⟨84,[.t 8],(rg [oV 8 (ki 0)] (dw [oM 11 0,oM 12 1,oM 13 0,oM 14 3,oM 15 0,oM 16 3,o 17 (.iad z (.t 15) (.t 16)),o 18 (.ld g z (.t 17)),oM 19 0,oM 20 1,o 21 (.iad z (.t 19) (.t 20)),o 22 (.ld g z (.t 21))] [o 23 (.iad z (.t 11) (.t 12)),on (.st z (.t 23) (.t 18)),o 24 (.iad z (.t 13) (.t 14)),on (.st z (.t 24) (.t 22))] (rg [oM 25 1,oZ 26 25 1,oM 27 2,oE 28 .sub 27 1,oM 9 26,oM 10 28] (.seq (oH 0 (.blk 1 (.seq (oH 2 (.seq (dw [oM 29 9,oM 30 10,oB 31 .leq 29 30,oM 32 31,jM 33 32 0,jM 34 32 1,og 35 32 true (.iad z (.t 33) (.t 34)),og 36 32 true (.ld g z (.t 35)),jM 37 32 0,jM 38 32 9,og 39 32 true (.iad z (.t 37) (.t 38)),og 40 32 true (.ld g z (.t 39))] [og 41 32 true (.call q.less (oT [36,40])),jU 42 32 41,oQ 43 32 42] (oJ 43 2)) (.blk 3 (.reg [oM 44 9,oZ 45 44 1,oM 9 45])))) (.seq (oH 4 (.seq (dw [oM 46 9,oM 47 10,oB 48 .leq 46 47,oM 49 48,jM 50 49 0,jM 51 49 1,og 52 49 true (.iad z (.t 50) (.t 51)),og 53 49 true (.ld g z (.t 52)),jM 54 49 0,jM 55 49 10,og 56 49 true (.iad z (.t 54) (.t 55)),og 57 49 true (.ld g z (.t 56))] [og 58 49 true (.call q.less (oT [53,57])),oQ 59 49 58] (oJ 59 4)) (.blk 5 (.reg [oM 60 10,oE 61 .sub 60 1,oM 10 61])))) (.seq (rg [oM 62 9,oM 63 10,oB 64 .gtr 62 63] (oG 64 (.ext 0))) (dw [oM 65 0,oM 66 9,oM 67 0,oM 68 10,oM 69 0,oM 70 10,o 71 (.iad z (.t 69) (.t 70)),o 72 (.ld g z (.t 71)),oM 73 0,oM 74 9,o 75 (.iad z (.t 73) (.t 74)),o 76 (.ld g z (.t 75))] [o 77 (.iad z (.t 65) (.t 66)),on (.st z (.t 77) (.t 72)),o 78 (.iad z (.t 67) (.t 68)),on (.st z (.t 78) (.t 76))] (rg [oM 79 9,oZ 80 79 1,oM 9 80] (.reg [oM 81 10,oE 82 .sub 81 1,oM 10 82])))))))) (rg [oM 83 9,oM 8 83] .ret)))))⟩
def Lv (z:Nat) (g:Bool) (q:SN):Fn1:=⟨148,[],(rg [oV 10 kt] (rg [oV 11 kt] (oH 0 (.blk 1 (rg [oM 21 2,oM 22 1,oB 23 .sub 21 22,oM 12 23] (.seq (rg [oM 24 12,oE 25 .leq 24 12] (oG 25 (rg [oM 26 0,oM 27 1,oM 28 2,oM 29 4,o 30 (.call q.insertionSort (oT [26,27,28,29]))] .ret))) (.seq (rg [oM 31 3,oE 32 .eql 31 0] (oG 32 (rg [oM 33 0,oM 34 1,oM 35 2,oM 36 4,o 37 (.call q.heapSort (oT [33,34,35,36]))] .ret))) (.seq (rg [oM 38 10,oU 39 38] (oG 39 (rg [oM 40 0,oM 41 1,oM 42 2,oM 43 4,o 44 (.call q.breakPatterns (oT [40,41,42,43]))] (.reg [oM 45 3,oE 46 .sub 45 1,oM 3 46])))) (rg [oM 48 0,oM 49 1,oM 50 2,oM 51 4,o 52 (.call q.choosePivot (oT [48,49,50,51])),oM 47 52,o 53 (.ext 0 (.t 47)),o 54 (.ext 1 (.t 47)),oM 13 53,oM 14 54] (.seq (rg [oM 55 14,oE 56 .eql 55 2] (oG 56 (rg [oM 57 0,oM 58 1,oM 59 2,oM 60 4,o 61 (.call q.reverseRange (oT [57,58,59,60]))] (rg [oM 62 2,oE 63 .sub 62 1,oM 64 13,oM 65 1,oB 66 .sub 64 65,oB 67 .sub 63 66,oM 13 67] (.reg [oV 14 (ki 1)]))))) (.seq (rg [oM 68 10,oM 69 68,jM 70 69 11,oQ 71 69 70,oM 72 71,jM 73 72 14,jE 74 72 .eql 73 1,oQ 75 72 74] (oG 75 (rg [oM 76 0,oM 77 1,oM 78 2,oM 79 4,o 80 (.call q.partialInsertionSort (oT [76,77,78,79]))] (oG 80 .ret)))) (.seq (dw [oM 81 1,oE 82 .gtr 81 0,oM 83 82,jM 84 83 4,jM 85 83 0,jM 86 83 1,jE 87 83 .sub 86 1,og 88 83 true (.iad z (.t 85) (.t 87)),og 89 83 true (.ld g z (.t 88)),jM 90 83 0,jM 91 83 13,og 92 83 true (.iad z (.t 90) (.t 91)),og 93 83 true (.ld g z (.t 92))] [og 94 83 true (.callv (.t 84) (oT [89,93])),jE 95 83 .lss 94 0,jU 96 83 95,oQ 97 83 96] (oG 97 (rg [oM 98 0,oM 99 1,oM 100 2,oM 101 13,oM 102 4,o 103 (.call q.partitionEqual (oT [98,99,100,101,102])),oM 15 103] (rg [oM 104 15,oM 1 104] (.ext 1))))) (rg [oM 106 0,oM 107 1,oM 108 2,oM 109 13,oM 110 4,o 111 (.call q.partition (oT [106,107,108,109,110])),oM 105 111,o 112 (.ext 0 (.t 105)),o 113 (.ext 1 (.t 105)),oM 16 112,oM 17 113] (rg [oM 114 17,oM 11 114] (rg [oM 115 16,oM 116 1,oB 117 .sub 115 116,oM 118 2,oM 119 16,oB 120 .sub 118 119,oM 18 117,oM 19 120] (rg [oM 121 12,oE 122 .quo 121 8,oM 20 122] (rg [oM 123 18,oM 124 19,oB 125 .lss 123 124] (cn 125 (rg [oM 126 18,oM 127 20,oB 128 .geq 126 127,oM 10 128] (rg [oM 129 0,oM 130 1,oM 131 16,oM 132 3,oM 133 4,o 134 (.call q.pdqsort (oT [129,130,131,132,133]))] (.reg [oM 135 16,oZ 136 135 1,oM 1 136]))) (rg [oM 137 19,oM 138 20,oB 139 .geq 137 138,oM 10 139] (rg [oM 140 0,oM 141 16,oZ 142 141 1,oM 143 2,oM 144 3,oM 145 4,o 146 (.call q.pdqsort (oT [140,142,143,144,145]))] (.reg [oM 147 16,oM 2 147])))))))))))))))))))))⟩
def Lw (z:Nat) (g:Bool) (q:SN):Fn1:=⟨134,[],(rg [oV 8 kt] (rg [oV 9 kt] (oH 0 (.blk 1 (rg [oM 19 2,oM 20 1,oB 21 .sub 19 20,oM 10 21] (.seq (rg [oM 22 10,oE 23 .leq 22 12] (oG 23 (rg [oM 24 0,oM 25 1,oM 26 2,o 27 (.call q.insertionSort (oT [24,25,26]))] .ret))) (.seq (rg [oM 28 3,oE 29 .eql 28 0] (oG 29 (rg [oM 30 0,oM 31 1,oM 32 2,o 33 (.call q.heapSort (oT [30,31,32]))] .ret))) (.seq (rg [oM 34 8,oU 35 34] (oG 35 (rg [oM 36 0,oM 37 1,oM 38 2,o 39 (.call q.breakPatterns (oT [36,37,38]))] (.reg [oM 40 3,oE 41 .sub 40 1,oM 3 41])))) (rg [oM 43 0,oM 44 1,oM 45 2,o 46 (.call q.choosePivot (oT [43,44,45])),oM 42 46,o 47 (.ext 0 (.t 42)),o 48 (.ext 1 (.t 42)),oM 11 47,oM 12 48] (.seq (rg [oM 49 12,oE 50 .eql 49 2] (oG 50 (rg [oM 51 0,oM 52 1,oM 53 2,o 54 (.call q.reverseRange (oT [51,52,53]))] (rg [oM 55 2,oE 56 .sub 55 1,oM 57 11,oM 58 1,oB 59 .sub 57 58,oB 60 .sub 56 59,oM 11 60] (.reg [oV 12 (ki 1)]))))) (.seq (rg [oM 61 8,oM 62 61,jM 63 62 9,oQ 64 62 63,oM 65 64,jM 66 65 12,jE 67 65 .eql 66 1,oQ 68 65 67] (oG 68 (rg [oM 69 0,oM 70 1,oM 71 2,o 72 (.call q.partialInsertionSort (oT [69,70,71]))] (oG 72 .ret)))) (.seq (dw [oM 73 1,oE 74 .gtr 73 0,oM 75 74,jM 76 75 0,jM 77 75 1,jE 78 75 .sub 77 1,og 79 75 true (.iad z (.t 76) (.t 78)),og 80 75 true (.ld g z (.t 79)),jM 81 75 0,jM 82 75 11,og 83 75 true (.iad z (.t 81) (.t 82)),og 84 75 true (.ld g z (.t 83))] [og 85 75 true (.call q.less (oT [80,84])),jU 86 75 85,oQ 87 75 86] (oG 87 (rg [oM 88 0,oM 89 1,oM 90 2,oM 91 11,o 92 (.call q.partitionEqual (oT [88,89,90,91])),oM 13 92] (rg [oM 93 13,oM 1 93] (.ext 1))))) (rg [oM 95 0,oM 96 1,oM 97 2,oM 98 11,o 99 (.call q.partition (oT [95,96,97,98])),oM 94 99,o 100 (.ext 0 (.t 94)),o 101 (.ext 1 (.t 94)),oM 14 100,oM 15 101] (rg [oM 102 15,oM 9 102] (rg [oM 103 14,oM 104 1,oB 105 .sub 103 104,oM 106 2,oM 107 14,oB 108 .sub 106 107,oM 16 105,oM 17 108] (rg [oM 109 10,oE 110 .quo 109 8,oM 18 110] (rg [oM 111 16,oM 112 17,oB 113 .lss 111 112] (cn 113 (rg [oM 114 16,oM 115 18,oB 116 .geq 114 115,oM 8 116] (rg [oM 117 0,oM 118 1,oM 119 14,oM 120 3,o 121 (.call q.pdqsort (oT [117,118,119,120]))] (.reg [oM 122 14,oZ 123 122 1,oM 1 123]))) (rg [oM 124 17,oM 125 18,oB 126 .geq 124 125,oM 8 126] (rg [oM 127 0,oM 128 14,oZ 129 128 1,oM 130 2,oM 131 3,o 132 (.call q.pdqsort (oT [127,129,130,131]))] (.reg [oM 133 14,oM 2 133])))))))))))))))))))))⟩
def J4 (z:Nat) (g:Bool) (q:SN):Fn1:=⟨34,[],(rg [oM 10 1,oM 8 10] (rg [oM 11 2,oE 12 .sub 11 1,oM 9 12] (oH 0 (.seq (rg [oM 13 8,oM 14 9,oB 15 .lss 13 14] (oJ 15 0)) (.blk 1 (dw [oM 16 0,oM 17 8,oM 18 0,oM 19 9,oM 20 0,oM 21 9,o 22 (.iad z (.t 20) (.t 21)),o 23 (.ld g z (.t 22)),oM 24 0,oM 25 8,o 26 (.iad z (.t 24) (.t 25)),o 27 (.ld g z (.t 26))] [o 28 (.iad z (.t 16) (.t 17)),on (.st z (.t 28) (.t 23)),o 29 (.iad z (.t 18) (.t 19)),on (.st z (.t 29) (.t 27))] (rg [oM 30 8,oZ 31 30 1,oM 8 31] (.reg [oM 32 9,oE 33 .sub 32 1,oM 9 33]))))))))⟩
def J5 (z:Nat) (g:Bool) (q:SN):Fn1:=⟨32,[],(rg [oM 8 1,oM 6 8] (rg [oM 9 2,oE 10 .sub 9 1,oM 7 10] (oH 0 (.seq (rg [oM 11 6,oM 12 7,oB 13 .lss 11 12] (oJ 13 0)) (.blk 1 (dw [oM 14 0,oM 15 6,oM 16 0,oM 17 7,oM 18 0,oM 19 7,o 20 (.iad z (.t 18) (.t 19)),o 21 (.ld g z (.t 20)),oM 22 0,oM 23 6,o 24 (.iad z (.t 22) (.t 23)),o 25 (.ld g z (.t 24))] [o 26 (.iad z (.t 14) (.t 15)),on (.st z (.t 26) (.t 21)),o 27 (.iad z (.t 16) (.t 17)),on (.st z (.t 27) (.t 25))] (rg [oM 28 6,oZ 29 28 1,oM 6 29] (.reg [oM 30 7,oE 31 .sub 30 1,oM 7 31]))))))))⟩
def Qt (z:Nat) (g:Bool) (q:SN):Fn1:=⟨82,[],(rg [oM 12 1,oM 10 12] (oH 0 (.blk 1 (rg [oM 13 10,o 14 (.bin .mul (ki 2) (.t 13)),oZ 15 14 1,oM 11 15] (.seq (rg [oM 16 11,oM 17 2,oB 18 .geq 16 17] (oG 18 (.ext 0))) (.seq (dw [oM 19 11,oZ 20 19 1,oM 21 2,oB 22 .lss 20 21,oM 23 22,jM 24 23 4,jM 25 23 0,jM 26 23 3,jM 27 23 11,jB 28 23 .add 26 27,og 29 23 true (.iad z (.t 25) (.t 28)),og 30 23 true (.ld g z (.t 29)),jM 31 23 0,jM 32 23 3,jM 33 23 11,jB 34 23 .add 32 33,jE 35 23 .add 34 1,og 36 23 true (.iad z (.t 31) (.t 35)),og 37 23 true (.ld g z (.t 36))] [og 38 23 true (.callv (.t 24) (oT [30,37])),jE 39 23 .lss 38 0,oQ 40 23 39] (oG 40 (.reg [oM 41 11,oZ 42 41 1,oM 11 42]))) (.seq (dw [oM 43 4,oM 44 0,oM 45 3,oM 46 10,oB 47 .add 45 46,o 48 (.iad z (.t 44) (.t 47)),o 49 (.ld g z (.t 48)),oM 50 0,oM 51 3,oM 52 11,oB 53 .add 51 52,o 54 (.iad z (.t 50) (.t 53)),o 55 (.ld g z (.t 54))] [o 56 (.callv (.t 43) (oT [49,55])),oE 57 .lss 56 0,oU 58 57] (oG 58 .ret)) (dw [oM 59 0,oM 60 3,oM 61 10,oB 62 .add 60 61,oM 63 0,oM 64 3,oM 65 11,oB 66 .add 64 65,oM 67 0,oM 68 3,oM 69 11,oB 70 .add 68 69,o 71 (.iad z (.t 67) (.t 70)),o 72 (.ld g z (.t 71)),oM 73 0,oM 74 3,oM 75 10,oB 76 .add 74 75,o 77 (.iad z (.t 73) (.t 76)),o 78 (.ld g z (.t 77))] [o 79 (.iad z (.t 59) (.t 62)),on (.st z (.t 79) (.t 72)),o 80 (.iad z (.t 63) (.t 66)),on (.st z (.t 80) (.t 78))] (.reg [oM 81 11,oM 10 81])))))))))⟩
def Qu (z:Nat) (g:Bool) (q:SN):Fn1:=⟨76,[],(rg [oM 10 1,oM 8 10] (oH 0 (.blk 1 (rg [oM 11 8,o 12 (.bin .mul (ki 2) (.t 11)),oZ 13 12 1,oM 9 13] (.seq (rg [oM 14 9,oM 15 2,oB 16 .geq 14 15] (oG 16 (.ext 0))) (.seq (dw [oM 17 9,oZ 18 17 1,oM 19 2,oB 20 .lss 18 19,oM 21 20,jM 22 21 0,jM 23 21 3,jM 24 21 9,jB 25 21 .add 23 24,og 26 21 true (.iad z (.t 22) (.t 25)),og 27 21 true (.ld g z (.t 26)),jM 28 21 0,jM 29 21 3,jM 30 21 9,jB 31 21 .add 29 30,jE 32 21 .add 31 1,og 33 21 true (.iad z (.t 28) (.t 32)),og 34 21 true (.ld g z (.t 33))] [og 35 21 true (.call q.less (oT [27,34])),oQ 36 21 35] (oG 36 (.reg [oM 37 9,oZ 38 37 1,oM 9 38]))) (.seq (dw [oM 39 0,oM 40 3,oM 41 8,oB 42 .add 40 41,o 43 (.iad z (.t 39) (.t 42)),o 44 (.ld g z (.t 43)),oM 45 0,oM 46 3,oM 47 9,oB 48 .add 46 47,o 49 (.iad z (.t 45) (.t 48)),o 50 (.ld g z (.t 49))] [o 51 (.call q.less (oT [44,50])),oU 52 51] (oG 52 .ret)) (dw [oM 53 0,oM 54 3,oM 55 8,oB 56 .add 54 55,oM 57 0,oM 58 3,oM 59 9,oB 60 .add 58 59,oM 61 0,oM 62 3,oM 63 9,oB 64 .add 62 63,o 65 (.iad z (.t 61) (.t 64)),o 66 (.ld g z (.t 65)),oM 67 0,oM 68 3,oM 69 8,oB 70 .add 68 69,o 71 (.iad z (.t 67) (.t 70)),o 72 (.ld g z (.t 71))] [o 73 (.iad z (.t 53) (.t 56)),on (.st z (.t 73) (.t 66)),o 74 (.iad z (.t 57) (.t 60)),on (.st z (.t 74) (.t 72))] (.reg [oM 75 9,oM 8 75])))))))))⟩
def O4 (z:Nat) (g:Bool) (ze:List GV):Fn1:=⟨61,[.t 2],(rg [o 2 (.mov (.k .nilS))] (.seq (rg [oM 6 0,oN 7 6,oE 8 .lss 7 2] (oG 8 (rg [oM 9 0,oM 2 9] .ret))) (.seq (rg [oV 3 (ki 1)] (oH 0 (.seq (rg [oM 10 3,oM 11 0,oN 12 11,oB 13 .lss 10 12] (oJ 13 0)) (.seq (.blk 1 (dw [oM 16 0,oM 17 3,o 18 (.iad z (.t 16) (.t 17)),o 19 (.ld g z (.t 18)),oM 20 0,oM 21 3,oE 22 .sub 21 1,o 23 (.iad z (.t 20) (.t 22)),o 24 (.ld g z (.t 23))] [oB 25 .eql 19 24] (oG 25 (rg [oM 26 0,oM 27 3,o 28 (.cut z (.t 26) (some (.t 27)) none),oM 4 28] (.seq (rg [oV 5 (ki 1)] (oH 2 (.seq (rg [oM 29 5,oM 30 4,oN 31 30,oB 32 .lss 29 31] (oJ 32 2)) (.seq (.blk 3 (dw [oM 35 4,oM 36 5,o 37 (.iad z (.t 35) (.t 36)),o 38 (.ld g z (.t 37)),oM 39 4,oM 40 5,oE 41 .sub 40 1,o 42 (.iad z (.t 39) (.t 41)),o 43 (.ld g z (.t 42))] [oB 44 .neq 38 43] (oG 44 (rg [oM 45 0,oM 46 3,oM 47 4,oM 48 5,o 49 (.iad z (.t 47) (.t 48)),o 50 (.ld g z (.t 49)),o 51 (.iad z (.t 45) (.t 46)),on (.st z (.t 51) (.t 50))] (.reg [oM 52 3,oZ 53 52 1,oM 3 53]))))) (.reg [oM 33 5,oZ 34 33 1,oM 5 34]))))) (rg [oM 54 0,oM 55 3,o 56 (.cut z (.t 54) (some (.t 55)) none),on (.clr z ze (.t 56))] (rg [oM 57 0,oM 58 3,o 59 (.cut z (.t 57) none (some (.t 58))),oM 2 59] .ret))))))) (.reg [oM 14 3,oZ 15 14 1,oM 3 15]))))) (rg [oM 60 0,oM 2 60] .ret))))⟩
def Aax (z:Nat) (g:Bool) (q:SN):Fn1:=⟨11,[],(rg [oM 3 0,oN 4 3,oM 2 4] (.reg [oM 5 0,oM 6 2,oM 7 2,o 8 (.cvi .u64 (.t 7)),o 9 (.call 257 [(.t 8)]),o 10 (.call q.pdqsort [(.t 5),(ki 0),(.t 6),(.t 9)])]))⟩
def Aay (z:Nat) (g:Bool) (q:SN):Fn1:=⟨14,[],(rg [oM 5 0,oN 6 5,oM 4 6] (.reg [oM 7 0,oM 8 4,oM 9 4,o 10 (.cvi .u64 (.t 9)),o 11 (.call 257 [(.t 10)]),oM 12 1,o 13 (.call q.pdqsort [(.t 7),(ki 0),(.t 8),(.t 11),(.t 12)])]))⟩
structure SrtO (Y:Type) [Inhabited Y] (lt:Y->Y->Bool) where
 e:El Y
 q:SN
 call:∀ N x y,Ret Tryz.prog q.less [e.val x,e.val y] N (.bool (lt x y)) N
 h_insertionSort:A4 Tryz.prog q.insertionSort=some (Ib e.p.z e.g q)
 h_siftDown:A4 Tryz.prog q.siftDown=some (Qu e.p.z e.g q)
 h_heapSort:A4 Tryz.prog q.heapSort=some (Qs e.p.z e.g q)
 h_reverseRange:A4 Tryz.prog q.reverseRange=some (J5 e.p.z e.g q)
 h_partialInsertionSort:A4 Tryz.prog q.partialInsertionSort=some (E3 e.p.z e.g q)
 h_partitionEqual:A4 Tryz.prog q.partitionEqual=some (Hg e.p.z e.g q)
 h_partition:A4 Tryz.prog q.partition=some (O3 e.p.z e.g q)
 h_breakPatterns:A4 Tryz.prog q.breakPatterns=some (Fa e.p.z e.g q)
 h_order2:A4 Tryz.prog q.order2=some (A12 e.p.z e.g q)
 h_median:A4 Tryz.prog q.median=some (A10 e.p.z e.g q)
 h_medianAdjacent:A4 Tryz.prog q.medianAdjacent=some (He e.p.z e.g q)
 h_choosePivot:A4 Tryz.prog q.choosePivot=some (Ej e.p.z e.g q)
 h_pdqsort:A4 Tryz.prog q.pdqsort=some (Lw e.p.z e.g q)
 nS:Nat
 h_Sort:A4 Tryz.prog nS=some (Aax e.p.z e.g q)
 hnp:q.slices_nextPowerOfTwo=311
 hxs:q.slices_xorshift_Next=312
structure SrtC (Y:Type) [Inhabited Y] (lt:Y->Y->Bool) where
 e:El Y
 q:SN
 f:Nat
 k:Y->Y->Int
 call:∀ N x y,Ret Tryz.prog f [e.val x,e.val y] N (gi (k x y)) N
 klt:∀ x y,decide (k x y<0)=lt x y
 h_insertionSort:A4 Tryz.prog q.insertionSort=some (Ia e.p.z e.g q)
 h_siftDown:A4 Tryz.prog q.siftDown=some (Qt e.p.z e.g q)
 h_heapSort:A4 Tryz.prog q.heapSort=some (Qr e.p.z e.g q)
 h_reverseRange:A4 Tryz.prog q.reverseRange=some (J4 e.p.z e.g q)
 h_partialInsertionSort:A4 Tryz.prog q.partialInsertionSort=some (E2 e.p.z e.g q)
 h_partitionEqual:A4 Tryz.prog q.partitionEqual=some (Hf e.p.z e.g q)
 h_partition:A4 Tryz.prog q.partition=some (O2 e.p.z e.g q)
 h_breakPatterns:A4 Tryz.prog q.breakPatterns=some (F9 e.p.z e.g q)
 h_order2:A4 Tryz.prog q.order2=some (A11 e.p.z e.g q)
 h_median:A4 Tryz.prog q.median=some (A0z e.p.z e.g q)
 h_medianAdjacent:A4 Tryz.prog q.medianAdjacent=some (Hd e.p.z e.g q)
 h_choosePivot:A4 Tryz.prog q.choosePivot=some (Eh e.p.z e.g q)
 h_pdqsort:A4 Tryz.prog q.pdqsort=some (Lv e.p.z e.g q)
 nS:Nat
 h_Sort:A4 Tryz.prog nS=some (Aay e.p.z e.g q)
 hnp:q.slices_nextPowerOfTwo=311
 hxs:q.slices_xorshift_Next=312
namespace C
open Go Go.RowKit Go.Proofs.YtnknigikcdgebaaGreatDoor.Sy Go.Sort
variable {Y:Type} [Inhabited Y] {lt:Y->Y->Bool} {N0 N:St} {rs:List Thg} {k:Nat} {v:GV} {d:Array Y}
theorem ins_ret (S:SrtC Y lt) (H:Holds S.e N0 N rs k v d) {a b:Nat} (hab:a<=b) (hb:b<=d.size) (hs:d.size<=1099511627776):∃ U,Ret Tryz.prog S.q.insertionSort [v,gi a,gi b,.fn S.f []] N (.tup []) U/\Holds S.e N0 U rs k v (insertionSort lt d a b):=by
 have key:∃ r U,Ret Tryz.prog S.q.insertionSort [v,gi a,gi b,.fn S.f []] N r U/\r= .tup []/\Holds S.e N0 U rs k v (insertionSort lt d a b):=by
  refine Ap S.h_insertionSort (Z0z rfl) ?_
  simp +contextual (disch:=omega) only[go_sem,Ia]
  refine Bp (fun n env U=>∃(i:Nat) (D:Array Y),env 0=v/\env 1=gi a/\env 2=gi b/\env 3= .fn S.f []/\env 8=gi i/\b - i=n/\a<i/\D.size=d.size/\N.length<=U.length/\Holds S.e N0 U rs k v D/\insOuter lt a b i D=insertionSort lt d a b) (b - (a+1)) ⟨a+1,d,rfl,rfl,rfl,rfl,rfl,rfl,by omega,rfl,Zaa _,H,rfl⟩ ?_
  rintro J hJ n env U ⟨i,D,e0,e1,e2,e3,ei,hn,hai,hD,hle,hH,hE⟩
  rw[insOuter] at hE
  rcases Zac i b with hi|hi
  ·rw[if_pos hi] at hE
   have c0:decide ((i:Int)<b)=true:=by simp;omega
   simp +contextual (disch:=omega) only[go_sem,e0,e1,e2,e3,ei,c0]
   refine Bp (fun n env U=>∃(j:Nat) (E:Array Y),env 0=v/\env 1=gi a/\env 2=gi b/\env 3= .fn S.f []/\env 8=gi i/\env 9=gi j/\j=n/\j<=i/\E.size=d.size/\N.length<=U.length/\Holds S.e N0 U rs k v E/\insInner lt a j E=insInner lt a i D) i ⟨i,D,by simp +contextual (disch:=omega) only[go_sem,e0],by simp +contextual (disch:=omega) only[go_sem,e1],by simp +contextual (disch:=omega) only[go_sem,e2],by simp +contextual (disch:=omega) only[go_sem,e3],by simp +contextual (disch:=omega) only[go_sem,ei],rfl,rfl,Zaa _,hD,hle,hH,rfl⟩ ?_
   clear hH hle e0 e1 e2 e3 ei
   rintro J2 hJ2 n2 env U ⟨j,E,e0,e1,e2,e3,ei,ej,hnj,hji,hE2,hle,hH,hI⟩
   have fin:∀ env',env' 0=v->env' 1=gi a->env' 2=gi b->env' 3= .fn S.f []->env' 8=gi ((i:Int)+1)->insInner lt a i D=E->∃ k',k'<n/\J k' env' U:=fun env' h0 h1 h2 h3 h6 hEq=>⟨b - (i+1),by omega,hJ _ _ _ ⟨i+1,E,h0,h1,h2,h3,h6,rfl,by omega,hE2,hle,hH,by rw[<- hEq];exact hE⟩⟩
   have cj:decide ((a:Int)<j)=decide (a<j):=by simp
   by_cases hc:a<j
   ·obtain⟨m,rfl⟩:∃ m,j=m+1:=⟨j - 1,by omega⟩
    rw[decide_eq_true hc] at cj
    have cj:decide ((a:Int)<(m:Int)+1)=true:=cj
    have n1:B9 (some (.int .i64 ((m:Int)+1)))=some (m+1):=B4 (by simp)
    have m1:(m:Int)+1 - 1=m:=by omega
    obtain⟨U1,U2,s1,s2,hH2,hl2⟩:=hH.sw (a:=m+1) (b:=m) (by omega) (by omega)
    rw[insInner] at hI
    simp +contextual (disch:=omega) only[go_sem,e0,e1,e2,e3,ei,ej,cj,n1,m1,A1,hH.iad (j:=m+1) (by omega),hH.ld (j:=m+1) (by omega),hH.iad (j:=m) (by omega),hH.ld (j:=m) (by omega)]
    refine A6 (S.call _ _ _) ?_
    cases hl:lt E[m+1]! E[m]! with
    |true=>
     rw[if_pos (by simp[hl];omega)] at hI
     simp +contextual (disch:=omega) only[go_sem,e0,e1,e2,e3,ei,ej,cj,n1,m1,A1,hl,S.klt,hH.iad (j:=m+1) (by omega),hH.ld (j:=m+1) (by omega),hH.iad (j:=m) (by omega),hH.ld (j:=m) (by omega),s1,s2]
     refine⟨m,by omega,hJ2 _ _ _ ⟨m,swp E (m+1) m,?_,?_,?_,?_,?_,?_,rfl,by omega,by rw[Go.Sort.swp_size];exact hE2,by omega,hH2,hI⟩⟩
     all_goals simp +contextual (disch:=omega) only[go_sem,e0,e1,e2,e3,ei,ej,m1]
    |false=>
     rw[if_neg (by simp[hl])] at hI
     simp +contextual (disch:=omega) only[go_sem,e0,e1,e2,e3,ei,ej,cj,hl,S.klt]
     refine fin _ ?_ ?_ ?_ ?_ ?_ hI.symm
     all_goals simp +contextual (disch:=omega) only[go_sem,e0,e1,e2,e3,ei]
   ·rw[decide_eq_false hc] at cj
    have hI:insInner lt a i D=E:=by
     rw[<- hI]
     cases j with
     |zero=>rfl
     |succ j=>rw[insInner,if_neg (by simp;intro h;omega)]
    simp +contextual (disch:=omega) only[go_sem,e0,e1,e2,e3,ei,ej,cj]
    refine fin _ ?_ ?_ ?_ ?_ ?_ hI
    all_goals simp +contextual (disch:=omega) only[go_sem,e0,e1,e2,e3,ei]
  ·rw[if_neg (by omega)] at hE
   have c0:decide ((i:Int)<b)=false:=by simp;omega
   simp +contextual (disch:=omega) only[go_sem,e0,e1,e2,e3,ei,c0]
   exact⟨_,rfl,hle,rfl,by rw[<- hE];exact hH⟩
 obtain⟨r,U,R,rfl,h⟩:=key
 exact⟨U,R,h⟩
end C
namespace C
open Go Go.RowKit Go.Proofs.YtnknigikcdgebaaGreatDoor.Sy Go.Sort
variable {Y:Type} [Inhabited Y] {lt:Y->Y->Bool} {N0 N:St} {rs:List Thg} {k:Nat} {v:GV} {d:Array Y}
theorem siftDown_size (lt:Y->Y->Bool) (hi F:Nat):∀(n root:Nat) (d:Array Y),hi - root<=n->(siftDown lt hi F root d).size=d.size
 |0,root,d,h=>by rw[siftDown,dif_pos (by omega)]
 |n+1,root,d,h=>by
  rw[siftDown]
  split
  ·rfl
  ·split
   ·split
    ·rfl
    ·split
     ·rw[siftDown_size lt hi F n _ _ (by omega),Go.Sort.swp_size]
     ·rfl
   ·split
    ·rfl
    ·rw[siftDown_size lt hi F n _ _ (by omega),Go.Sort.swp_size]
theorem sift_ret (S:SrtC Y lt) (H:Holds S.e N0 N rs k v d) {lo hi F:Nat} (hb:F+hi<=d.size) (hlo:lo<=d.size) (hs:d.size<=1099511627776):∃ U,Ret Tryz.prog S.q.siftDown [v,gi lo,gi hi,gi F,.fn S.f []] N (.tup []) U/\Holds S.e N0 U rs k v (siftDown lt hi F lo d):=by
 have key:∃ r U,Ret Tryz.prog S.q.siftDown [v,gi lo,gi hi,gi F,.fn S.f []] N r U/\r= .tup []/\Holds S.e N0 U rs k v (siftDown lt hi F lo d):=by
  refine Ap S.h_siftDown (Z0z rfl) ?_
  simp +contextual (disch:=omega) only[go_sem,Qt]
  refine Bp (fun n env U=>∃(r:Nat) (D:Array Y),env 0=v/\env 1=gi lo/\env 2=gi hi/\env 3=gi F/\env 4= .fn S.f []/\env 10=gi r/\hi - r=n/\r<=d.size/\D.size=d.size/\N.length<=U.length/\Holds S.e N0 U rs k v D/\siftDown lt hi F r D=siftDown lt hi F lo d) (hi - lo) ⟨lo,d,rfl,rfl,rfl,rfl,rfl,rfl,rfl,hlo,rfl,Zaa _,H,rfl⟩ ?_
  rintro J hJ n env U ⟨r,D,e0,e1,e2,e3,e4,er,hn,hr,hD,hle,hH,hE⟩
  rw[siftDown] at hE
  have w2:IntKind.i64.wrap (2*(r:Int))=2*(r:Int):=Af (by omega) (by omega)
  by_cases h1:2*r+1≥hi
  ·rw[dif_pos h1] at hE
   have c1:decide ((hi:Int)<=2*(r:Int)+1)=true:=by simp;omega
   simp +contextual (disch:=omega) only[go_sem,e0,e1,e2,e3,e4,er,w2,c1]
   exact⟨_,rfl,hle,rfl,by rw[<- hE];exact hH⟩
  ·rw[dif_neg h1] at hE
   have c1:decide ((hi:Int)<=2*(r:Int)+1)=false:=by simp;omega
   have nr:B9 (some (.int .i64 ((F:Int)+r)))=some (F+r):=B4 (by simp)
   have ir:=hH.iad (j:=F+r) (by omega)
   have lr:=hH.ld (j:=F+r) (by omega)
   by_cases hA:2*r+2<hi
   ·have cA:decide (2*(r:Int)+1+1<hi)=true:=by simp;omega
    have nc:B9 (some (.int .i64 ((F:Int)+(2*(r:Int)+1))))=some (F+(2*r+1)):=B4 (by simp)
    have nc2:B9 (some (.int .i64 ((F:Int)+(2*(r:Int)+1)+1)))=some (F+(2*r+1)+1):=B4 (by simp)
    have ic:=hH.iad (j:=F+(2*r+1)) (by omega)
    have lc:=hH.ld (j:=F+(2*r+1)) (by omega)
    have ic2:=hH.iad (j:=F+(2*r+1)+1) (by omega)
    have lc2:=hH.ld (j:=F+(2*r+1)+1) (by omega)
    simp +contextual (disch:=omega) only[go_sem,e0,e1,e2,e3,e4,er,w2,c1,cA,nc,nc2,ic,lc,ic2,lc2]
    refine A6 (S.call _ _ _) ?_
    cases hl1:lt D[F+(2*r+1)]! D[F+(2*r+1)+1]! with
    |true=>
     clear nc ic lc
     rw[if_pos (by simp[hl1];omega)] at hE
     rw[dif_pos hA] at hE
     obtain⟨c,hc⟩:∃ c,c=2*r+2:=⟨_,rfl⟩
     rw[<- hc] at hE
     have ncI:2*(r:Int)+1+1=c:=by omega
     have nc:B9 (some (.int .i64 ((F:Int)+c)))=some (F+c):=B4 (by simp)
     have ic:=hH.iad (j:=F+c) (by omega)
     have lc:=hH.ld (j:=F+c) (by omega)
     simp +contextual (disch:=omega) only[go_sem,e0,e1,e2,e3,e4,er,w2,cA,nr,nc,ncI,hl1,S.klt,ir,lr,ic,lc]
     obtain⟨U1,U2,s1,s2,hH2,hl2⟩:=hH.sw (a:=F+r) (b:=F+c) (by omega) (by omega)
     refine A6 (S.call _ _ _) ?_
     cases hl:lt D[F+r]! D[F+c]! with
     |true=>
      rw[if_neg (by simp[hl])] at hE
      simp +contextual (disch:=omega) only[go_sem,e0,e1,e2,e3,e4,er,w2,c1,cA,nr,nc,ncI,hl,S.klt,ir,lr,ic,lc,s1,s2]
      refine⟨hi - c,by omega,hJ _ _ _ ⟨c,swp D (F+r) (F+c),?_,?_,?_,?_,?_,?_,rfl,by omega,by rw[Go.Sort.swp_size];exact hD,by omega,hH2,hE⟩⟩
      all_goals simp +contextual (disch:=omega) only[go_sem,e0,e1,e2,e3,e4,er,ncI]
     |false=>
      rw[if_pos (by simp[hl])] at hE
      simp +contextual (disch:=omega) only[go_sem,e0,e1,e2,e3,e4,er,hl,S.klt]
      exact⟨_,rfl,hle,rfl,by rw[<- hE];exact hH⟩
    |false=>
     rw[if_neg (by simp[hl1])] at hE
     obtain⟨c,hc⟩:∃ c,c=2*r+1:=⟨_,rfl⟩
     rw[<- hc] at hE ic lc
     have ncI:2*(r:Int)+1=c:=by omega
     rw[<- hc,ncI] at nc
     simp +contextual (disch:=omega) only[go_sem,e0,e1,e2,e3,e4,er,w2,cA,nr,nc,ncI,hl1,S.klt,ir,lr,ic,lc]
     obtain⟨U1,U2,s1,s2,hH2,hl2⟩:=hH.sw (a:=F+r) (b:=F+c) (by omega) (by omega)
     refine A6 (S.call _ _ _) ?_
     cases hl:lt D[F+r]! D[F+c]! with
     |true=>
      rw[if_neg (by simp[hl])] at hE
      simp +contextual (disch:=omega) only[go_sem,e0,e1,e2,e3,e4,er,w2,c1,cA,nr,nc,ncI,hl,S.klt,ir,lr,ic,lc,s1,s2]
      refine⟨hi - c,by omega,hJ _ _ _ ⟨c,swp D (F+r) (F+c),?_,?_,?_,?_,?_,?_,rfl,by omega,by rw[Go.Sort.swp_size];exact hD,by omega,hH2,hE⟩⟩
      all_goals simp +contextual (disch:=omega) only[go_sem,e0,e1,e2,e3,e4,er,ncI]
     |false=>
      rw[if_pos (by simp[hl])] at hE
      simp +contextual (disch:=omega) only[go_sem,e0,e1,e2,e3,e4,er,hl,S.klt]
      exact⟨_,rfl,hle,rfl,by rw[<- hE];exact hH⟩
   ·have cA:decide (2*(r:Int)+1+1<hi)=false:=by simp;omega
    rw[if_neg (by simp;intro h;omega)] at hE
    obtain⟨c,hc⟩:∃ c,c=2*r+1:=⟨_,rfl⟩
    rw[<- hc] at hE
    have ncI:2*(r:Int)+1=c:=by omega
    have nc:B9 (some (.int .i64 ((F:Int)+c)))=some (F+c):=B4 (by simp)
    have ic:=hH.iad (j:=F+c) (by omega)
    have lc:=hH.ld (j:=F+c) (by omega)
    rw[ncI] at c1 cA
    simp +contextual (disch:=omega) only[go_sem,e0,e1,e2,e3,e4,er,w2,c1,cA,nr,nc,ncI,ir,lr,ic,lc]
    obtain⟨U1,U2,s1,s2,hH2,hl2⟩:=hH.sw (a:=F+r) (b:=F+c) (by omega) (by omega)
    refine A6 (S.call _ _ _) ?_
    cases hl:lt D[F+r]! D[F+c]! with
    |true=>
     rw[if_neg (by simp[hl])] at hE
     simp +contextual (disch:=omega) only[go_sem,e0,e1,e2,e3,e4,er,w2,c1,cA,nr,nc,ncI,hl,S.klt,ir,lr,ic,lc,s1,s2]
     refine⟨hi - c,by omega,hJ _ _ _ ⟨c,swp D (F+r) (F+c),?_,?_,?_,?_,?_,?_,rfl,by omega,by rw[Go.Sort.swp_size];exact hD,by omega,hH2,hE⟩⟩
     all_goals simp +contextual (disch:=omega) only[go_sem,e0,e1,e2,e3,e4,er,ncI]
    |false=>
     rw[if_pos (by simp[hl])] at hE
     simp +contextual (disch:=omega) only[go_sem,e0,e1,e2,e3,e4,er,hl,S.klt]
     exact⟨_,rfl,hle,rfl,by rw[<- hE];exact hH⟩
 obtain⟨r,U,R,rfl,h⟩:=key
 exact⟨U,R,h⟩
theorem heap_ret (S:SrtC Y lt) (H:Holds S.e N0 N rs k v d) {a b:Nat} (hab:a<=b) (hb:b<=d.size) (hs:d.size<=1099511627776):∃ U,Ret Tryz.prog S.q.heapSort [v,gi a,gi b,.fn S.f []] N (.tup []) U/\Holds S.e N0 U rs k v (heapSort lt d a b):=by
 have key:∃ r U,Ret Tryz.prog S.q.heapSort [v,gi a,gi b,.fn S.f []] N r U/\r= .tup []/\Holds S.e N0 U rs k v (heapSort lt d a b):=by
  refine Ap S.h_heapSort (Z0z rfl) ?_
  obtain⟨h,hh⟩:∃ h,h=b - a:=⟨_,rfl⟩
  have hI:(b:Int) - a=h:=by omega
  have hq:((h:Int) - 1).tdiv 2=(((h - 1) / 2+1:Nat):Int) - 1:=by
   rcases Zbe h with rfl|hp
   ·rfl
   ·have:(h:Int) - 1=((h - 1:Nat):Int):=by omega
    rw[this]
    have h2:((h - 1:Nat):Int).tdiv 2=(((h - 1) / 2:Nat):Int):=rfl
    rw[h2];omega
  obtain⟨M,hM⟩:∃ M,M=(h - 1) / 2+1:=⟨_,rfl⟩
  rw[<- hM] at hq
  have hE:heapSort lt d a b=heapPop lt a h (heapBuild lt h a M d):=by rw[heapSort,hM,hh]
  rw[hE]
  simp +contextual (disch:=omega) only[go_sem,Qr,hI,hq]
  refine Bp (fun n env U=>∃(m:Nat) (D:Array Y),env 0=v/\env 1=gi a/\env 2=gi b/\env 3= .fn S.f []/\env 8=gi a/\env 9=gi 0/\env 10=gi h/\env 11=gi ((m:Int) - 1)/\m=n/\m<=M/\D.size=d.size/\N.length<=U.length/\Holds S.e N0 U rs k v D/\heapBuild lt h a m D=heapBuild lt h a M d) M ⟨M,d,rfl,rfl,rfl,rfl,rfl,rfl,rfl,rfl,rfl,Zaa _,rfl,Zaa _,H,rfl⟩ ?_
  rintro J hJ n env U ⟨m,D,e0,e1,e2,e3,e6,e7,e8,e9,hn,hm,hD,hle,hH,hE⟩
  cases m with
  |succ j=>
   have e9:env 11=gi (j:Int):=by rw[e9];congr 1;omega
   have c0:decide ((0:Int)<=j)=true:=by simp
   rw[heapBuild] at hE
   simp +contextual (disch:=omega) only[go_sem,e0,e1,e2,e3,e6,e7,e8,e9,c0]
   obtain⟨U1,R,hH1⟩:=sift_ret S hH (lo:=j) (hi:=h) (F:=a) (by omega) (by omega) (by omega)
   have hl1:=R.2.1
   refine Ai R ?_
   simp +contextual (disch:=omega) only[go_sem,e0,e1,e2,e3,e6,e7,e8,e9]
   refine⟨j,by omega,hJ _ _ _ ⟨j,_,?_,?_,?_,?_,?_,?_,?_,?_,rfl,by omega,?_,by omega,hH1,hE⟩⟩
   all_goals first|(simp +contextual (disch:=omega) only[go_sem,e0,e1,e2,e3,e6,e7,e8,e9];done)|(rw [siftDown_size lt h a _ _ _ (Zaa _)];exact hD)
  |zero=>
   have e9:env 11=gi (-1):=e9
   rw[heapBuild] at hE
   simp +contextual (disch:=omega) only[go_sem,e0,e1,e2,e3,e6,e7,e8,e9]
   have c0:decide ((0:Int)<= -1)=false:=rfl
   simp +contextual (disch:=omega) only[go_sem,e0,e1,e2,e3,e6,e7,e8,e9,c0]
   refine Bp (fun n env U=>∃(m:Nat) (E:Array Y),env 0=v/\env 1=gi a/\env 2=gi b/\env 3= .fn S.f []/\env 8=gi a/\env 9=gi 0/\env 10=gi h/\env 12=gi ((m:Int) - 1)/\m=n/\m<=h/\E.size=d.size/\N.length<=U.length/\Holds S.e N0 U rs k v E/\heapPop lt a m E=heapPop lt a h (heapBuild lt h a M d)) h ⟨h,D,by simp +contextual (disch:=omega) only[go_sem,e0],by simp +contextual (disch:=omega) only[go_sem,e1],by simp +contextual (disch:=omega) only[go_sem,e2],by simp +contextual (disch:=omega) only[go_sem,e3],by simp +contextual (disch:=omega) only[go_sem,e6],by simp +contextual (disch:=omega) only[go_sem,e7],by simp +contextual (disch:=omega) only[go_sem,e8],rfl,rfl,Zaa _,hD,hle,hH,by rw[hE]⟩ ?_
   clear hH hle e0 e1 e2 e3 e6 e7 e8 e9
   rintro J2 hJ2 n2 env U ⟨m,E,e0,e1,e2,e3,e6,e7,e8,e9,hn2,hm,hE2,hle,hH,hP⟩
   cases m with
   |succ j=>
    have e9:env 12=gi (j:Int):=by rw[e9];congr 1;omega
    have c0:decide ((0:Int)<=j)=true:=by simp
    rw[heapPop] at hP
    have nr:B9 (some (.int .i64 ((a:Int)+j)))=some (a+j):=B4 (by simp)
    obtain⟨U1,U2,s1,s2,hH2,hl2⟩:=hH.sw (a:=a) (b:=a+j) (by omega) (by omega)
    obtain⟨U3,R,hH3⟩:=sift_ret S hH2 (lo:=0) (hi:=j) (F:=a) (by rw[Go.Sort.swp_size];omega) (by omega) (by rw[Go.Sort.swp_size];omega)
    have hl3:=R.2.1
    simp +contextual (disch:=omega) only[go_sem,e0,e1,e2,e3,e6,e7,e8,e9,c0,nr,A1,hH.iad (j:=a) (by omega),hH.ld (j:=a) (by omega),hH.iad (j:=a+j) (by omega),hH.ld (j:=a+j) (by omega),s1,s2]
    refine Ai R ?_
    simp +contextual (disch:=omega) only[go_sem,e0,e1,e2,e3,e6,e7,e8,e9]
    refine⟨j,by omega,hJ2 _ _ _ ⟨j,_,?_,?_,?_,?_,?_,?_,?_,?_,rfl,by omega,?_,by omega,hH3,hP⟩⟩
    all_goals first|(simp +contextual (disch:=omega) only[go_sem,e0,e1,e2,e3,e6,e7,e8,e9];done)|(rw [siftDown_size lt _ a _ _ _ (Zaa _),Go.Sort.swp_size];exact hE2)
   |zero=>
    have e9:env 12=gi (-1):=e9
    rw[heapPop] at hP
    simp +contextual (disch:=omega) only[go_sem,e0,e1,e2,e3,e6,e7,e8,e9,c0]
    exact⟨_,rfl,hle,rfl,by rw[<- hP];exact hH⟩
 obtain⟨r,U,R,rfl,h⟩:=key
 exact⟨U,R,h⟩
theorem rev_ret (S:SrtC Y lt) (H:Holds S.e N0 N rs k v d) {a b:Nat} (hab:a<b) (hb:b<=d.size) (hs:d.size<=1099511627776):∃ U,Ret Tryz.prog S.q.reverseRange [v,gi a,gi b,.fn S.f []] N (.tup []) U/\Holds S.e N0 U rs k v (reverseRange d a b):=by
 have key:∃ r U,Ret Tryz.prog S.q.reverseRange [v,gi a,gi b,.fn S.f []] N r U/\r= .tup []/\Holds S.e N0 U rs k v (reverseRange d a b):=by
  refine Ap S.h_reverseRange (Z0z rfl) ?_
  have hbI:(b:Int) - 1=((b - 1:Nat):Int):=by omega
  obtain⟨h,hh⟩:∃ h,h=b - 1:=⟨_,rfl⟩
  have hE:reverseRange d a b=reverseLoop a h d:=by rw[reverseRange,hh]
  rw[hE]
  rw[<- hh] at hbI
  simp +contextual (disch:=omega) only[go_sem,J4,hbI]
  refine Bp (fun n env U=>∃(i j:Nat) (D:Array Y),env 0=v/\env 8=gi i/\env 9=gi j/\j - i=n/\a<=i/\i<=d.size/\j<=h/\D.size=d.size/\N.length<=U.length/\Holds S.e N0 U rs k v D/\reverseLoop i j D=reverseLoop a h d) (h - a) ⟨a,h,d,rfl,rfl,rfl,rfl,Zaa _,by omega,Zaa _,rfl,Zaa _,H,rfl⟩ ?_
  rintro J hJ n env U ⟨i,j,D,e0,e6,e7,hn,hi,hi2,hj,hD,hle,hH,hE⟩
  rw[reverseLoop] at hE
  rcases Zac i j with hlt|hge
  ·rw[if_pos hlt] at hE
   have c0:decide ((i:Int)<j)=true:=by simp;omega
   obtain⟨U1,U2,s1,s2,hH2,hl2⟩:=hH.sw (a:=i) (b:=j) (by omega) (by omega)
   have j1:(j:Int) - 1=((j - 1:Nat):Int):=by omega
   simp +contextual (disch:=omega) only[go_sem,e0,e6,e7,c0,A1,hH.iad (j:=i) (by omega),hH.ld (j:=i) (by omega),hH.iad (j:=j) (by omega),hH.ld (j:=j) (by omega),s1,s2]
   refine⟨(j - 1) - (i+1),by omega,hJ _ _ _ ⟨i+1,j - 1,swp D i j,?_,?_,?_,rfl,by omega,by omega,by omega,by rw[Go.Sort.swp_size];exact hD,by omega,hH2,hE⟩⟩
   all_goals simp +contextual (disch:=omega) only[go_sem,e0,e6,e7,j1]
  ·rw[if_neg (by omega)] at hE
   have c0:decide ((i:Int)<j)=false:=by simp;omega
   simp +contextual (disch:=omega) only[go_sem,e0,e6,e7,c0]
   exact⟨_,rfl,hle,rfl,by rw[<- hE];exact hH⟩
 obtain⟨r,U,R,rfl,h⟩:=key
 exact⟨U,R,h⟩
end C
namespace C
open Go Go.RowKit Go.Proofs.YtnknigikcdgebaaGreatDoor.Sy Go.Sort
variable {Y:Type} [Inhabited Y] {lt:Y->Y->Bool} {N0 N:St} {rs:List Thg} {k:Nat} {v:GV} {d:Array Y}
theorem pe_ret (S:SrtC Y lt) (H:Holds S.e N0 N rs k v d) {a b p:Nat} (hab:a<b) (hp:p<b) (hb:b<=d.size) (hs:d.size<=1099511627776):∃ U,Ret Tryz.prog S.q.partitionEqual [v,gi a,gi b,gi p,.fn S.f []] N (gi (partitionEqual lt d a b p).1) U/\Holds S.e N0 U rs k v (partitionEqual lt d a b p).2:=by
 have key:∃ r U,Ret Tryz.prog S.q.partitionEqual [v,gi a,gi b,gi p,.fn S.f []] N r U/\r=gi (partitionEqual lt d a b p).1/\Holds S.e N0 U rs k v (partitionEqual lt d a b p).2:=by
  refine Ap S.h_partitionEqual (Z0z rfl) ?_
  obtain⟨U1,U2,s1,s2,hH,hl2⟩:=H.sw (a:=a) (b:=p) (by omega) (by omega)
  obtain⟨h,hh⟩:∃ h,h=b - 1:=⟨_,rfl⟩
  have hbI:(b:Int) - 1=h:=by omega
  have hsz:=Go.Sort.swp_size d a p
  rw[partitionEqual,<-hh]
  obtain⟨D0,hD0⟩:∃ D0,D0=swp d a p:=⟨_,rfl⟩
  rw[<- hD0] at hH hsz
  simp +contextual (disch:=omega) only[go_sem,Hf,hbI,A1,H.iad (j:=a) (by omega),H.ld (j:=a) (by omega),H.iad (j:=p) (by omega),H.ld (j:=p) (by omega),s1,s2]
  rw[<- hD0]
  refine Bp (fun n env U=>∃(i j:Nat) (D:Array Y),env 0=v/\env 1=gi a/\env 4= .fn S.f []/\env 11=gi i/\env 12=gi j/\j+1 - i=n/\1<=i/\i<=j+1/\j<b/\D.size=d.size/\N.length<=U.length/\Holds S.e N0 U rs k v D/\partEqLoop lt a i j D=partEqLoop lt a (a+1) h D0) (h+1 - (a+1)) ⟨a+1,h,D0,rfl,rfl,rfl,rfl,rfl,rfl,by omega,by omega,by omega,hsz,by omega,hH,rfl⟩ ?_
  clear hH
  rintro J hJ n env U ⟨i,j,D,e0,e1,e4,e9,e10,hn,hi,hij,hj,hD,hle,hH,hE⟩
  rw[partEqLoop_eq] at hE
  have ia:=hH.iad (j:=a) (by omega)
  have la:=hH.ld (j:=a) (by omega)
  simp +contextual (disch:=omega) only[go_sem]
  refine C4 (fun n env U'=>∃(x:Nat),env 0=v/\env 1=gi a/\env 4= .fn S.f []/\env 11=gi x/\env 12=gi j/\j+1 - x=n/\i<=x/\x<=j+1/\U=U'/\scanUp (fun x=> !lt D[a]! x) D j x=scanUp (fun x=> !lt D[a]! x) D j i) (j+1 - i) 2 (fun env U'=>env 0=v/\env 1=gi a/\env 4= .fn S.f []/\env 11=gi (scanUp (fun x=> !lt D[a]! x) D j i:Nat)/\env 12=gi j/\U=U') ⟨i,e0,e1,e4,e9,e10,rfl,Zaa _,hij,rfl,rfl⟩ ?_ ?_
  ·clear e0 e1 e4 e9 e10
   rintro J2 Yq2 hJ2 hY2 n2 env U' ⟨x,e0,e1,e4,e9,e10,hn2,hx1,hx2,rfl,hU⟩
   rw[scanUp] at hU
   rcases Zac j x with hx|hx
   ·rw[if_neg (by simp;intro h;omega)] at hU
    have c0:decide ((x:Int)<=j)=false:=by simp;omega
    simp +contextual (disch:=omega) only[go_sem,e0,e1,e4,e9,e10,c0]
    refine hY2 _ _ ⟨?_,?_,?_,?_,?_,rfl⟩
    all_goals simp +contextual (disch:=omega) only[go_sem,e0,e1,e4,e9,e10,hU]
   ·have c0:decide ((x:Int)<=j)=true:=by simp;omega
    simp +contextual (disch:=omega) only[go_sem,e0,e1,e4,e9,e10,c0,A1,ia,la,hH.iad (j:=x) (by omega),hH.ld (j:=x) (by omega)]
    refine A6 (S.call _ _ _) ?_
    cases hl:lt D[a]! D[x]! with
    |true=>
     rw[if_neg (by simp[hl])] at hU
     simp +contextual (disch:=omega) only[go_sem,e0,e1,e4,e9,e10,c0,hl,S.klt]
     refine hY2 _ _ ⟨?_,?_,?_,?_,?_,rfl⟩
     all_goals simp +contextual (disch:=omega) only[go_sem,e0,e1,e4,e9,e10,hU]
    |false=>
     rw[if_pos (by simp[hl];omega)] at hU
     simp +contextual (disch:=omega) only[go_sem,e0,e1,e4,e9,e10,c0,hl,S.klt]
     refine⟨j+1 - (x+1),by omega,hJ2 _ _ _ ⟨x+1,?_,?_,?_,?_,?_,rfl,by omega,by omega,rfl,hU⟩⟩
     all_goals simp +contextual (disch:=omega) only[go_sem,e0,e1,e4,e9,e10]
  ·clear e0 e1 e4 e9 e10
   rintro env U' ⟨e0,e1,e4,e9,e10,rfl⟩
   obtain⟨u1,u2,-,u4⟩:=scanUp_spec (fun x=> !lt D[a]! x) D j _ i rfl
   have u2:=u2 hij
   obtain⟨x,hx⟩:∃ x,x=scanUp (fun x=> !lt D[a]! x) D j i:=⟨_,rfl⟩
   rw[<- hx] at hE e9 u1 u2 u4
   simp +contextual (disch:=omega) only[go_sem]
   refine C4 (fun n env U'=>∃(y:Nat),env 0=v/\env 1=gi a/\env 4= .fn S.f []/\env 11=gi x/\env 12=gi y/\y+1=n/\y<=j/\x<=y+1/\U=U'/\scanDown (fun x=>lt D[a]! x) D x y=scanDown (fun x=>lt D[a]! x) D x j) (j+1) 4 (fun env U'=>env 0=v/\env 1=gi a/\env 4= .fn S.f []/\env 11=gi x/\env 12=gi (scanDown (fun x=>lt D[a]! x) D x j:Nat)/\U=U'/\x<=scanDown (fun x=>lt D[a]! x) D x j+1) ⟨j,e0,e1,e4,e9,e10,rfl,Zaa _,u2,rfl,rfl⟩ ?_ ?_
   ·clear e0 e1 e4 e9 e10
    rintro J2 Yq2 hJ2 hY2 n2 env U' ⟨y,e0,e1,e4,e9,e10,hn2,hy1,hy2,rfl,hU⟩
    rcases Zac y x with hlt|hge
    ·have hU:scanDown (fun x=>lt D[a]! x) D x j=y:=by
      rw[<- hU]
      cases y with
      |zero=>rfl
      |succ y=>rw[scanDown,if_neg (by simp;intro h;omega)]
     have c0:decide ((x:Int)<=y)=false:=by simp;omega
     simp +contextual (disch:=omega) only[go_sem,e0,e1,e4,e9,e10,c0]
     refine hY2 _ _ ⟨?_,?_,?_,?_,?_,rfl,by omega⟩
     all_goals simp +contextual (disch:=omega) only[go_sem,e0,e1,e4,e9,e10,hU]
    ·have c0:decide ((x:Int)<=y)=true:=by simp;omega
     obtain⟨z,rfl⟩:∃ z,y=z+1:=⟨y - 1,by omega⟩
     rw[scanDown] at hU
     have c0:decide ((x:Int)<=(z:Int)+1)=true:=c0
     have n1:B9 (some (.int .i64 ((z:Int)+1)))=some (z+1):=B4 (by simp)
     have z1:(z:Int)+1 - 1=z:=by omega
     simp +contextual (disch:=omega) only[go_sem,e0,e1,e4,e9,e10,c0,A1,n1,ia,la,hH.iad (j:=z+1) (by omega),hH.ld (j:=z+1) (by omega)]
     refine A6 (S.call _ _ _) ?_
     cases hl:lt D[a]! D[z+1]! with
     |false=>
      rw[if_neg (by simp[hl])] at hU
      simp +contextual (disch:=omega) only[go_sem,e0,e1,e4,e9,e10,c0,hl,S.klt]
      refine hY2 _ _ ⟨?_,?_,?_,?_,?_,rfl,by omega⟩
      all_goals simp +contextual (disch:=omega) only[go_sem,e0,e1,e4,e9,e10,<-hU]
     |true=>
      rw[if_pos (by simp[hl];omega)] at hU
      simp +contextual (disch:=omega) only[go_sem,e0,e1,e4,e9,e10,c0,z1,hl,S.klt]
      refine⟨z+1,by omega,hJ2 _ _ _ ⟨z,?_,?_,?_,?_,?_,rfl,by omega,by omega,rfl,hU⟩⟩
      all_goals simp +contextual (disch:=omega) only[go_sem,e0,e1,e4,e9,e10]
   ·clear e0 e1 e4 e9 e10
    rintro env U' ⟨e0,e1,e4,e9,e10,rfl,hxy⟩
    have w1:=scanDown_le (fun x=>lt D[a]! x) D x j
    have w4:=(scanDown_spec (fun x=>lt D[a]! x) D x j).2.2.2
    obtain⟨y,hy⟩:∃ y,y=scanDown (fun x=>lt D[a]! x) D x j:=⟨_,rfl⟩
    rw[<- hy] at hE e10 w1 w4 hxy
    rcases Zac y x with hlt|hge
    ·rw[if_pos hlt] at hE
     have c0:decide ((y:Int)<x)=true:=by simp;omega
     simp +contextual (disch:=omega) only[go_sem,e0,e1,e4,e9,e10,c0]
     exact⟨_,rfl,hle,by rw[<- hE],by rw[<- hE];exact hH⟩
    ·rw[if_neg (by omega)] at hE
     have hne:x≠y:=by
      rintro rfl
      have q1:(!lt D[a]! D[x]!)=false:=u4 w1
      have q2:lt D[a]! D[x]! =false:=w4 (Zaa _) (by omega)
      rw[q2] at q1;cases q1
     have c0:decide ((y:Int)<x)=false:=by simp;omega
     have y1:(y:Int) - 1=((y - 1:Nat):Int):=by omega
     obtain⟨U3,U4,s3,s4,hH4,hl4⟩:=hH.sw (a:=x) (b:=y) (by omega) (by omega)
     simp +contextual (disch:=omega) only[go_sem,e0,e1,e4,e9,e10,c0,A1,hH.iad (j:=x) (by omega),hH.ld (j:=x) (by omega),hH.iad (j:=y) (by omega),hH.ld (j:=y) (by omega),s3,s4]
     refine⟨y - 1+1 - (x+1),by omega,hJ _ _ _ ⟨x+1,y - 1,swp D x y,?_,?_,?_,?_,?_,rfl,by omega,by omega,by omega,by rw[Go.Sort.swp_size];exact hD,by omega,hH4,hE⟩⟩
     all_goals simp +contextual (disch:=omega) only[go_sem,e0,e1,e4,e9,e10,y1]
 obtain⟨r,U,R,rfl,h⟩:=key
 exact⟨U,R,h⟩
theorem part_ret (S:SrtC Y lt) (H:Holds S.e N0 N rs k v d) {a b p:Nat} (hab:a<b) (hp:p<b) (hb:b<=d.size) (hs:d.size<=1099511627776):∃ U,Ret Tryz.prog S.q.partition [v,gi a,gi b,gi p,.fn S.f []] N (.tup [gi (partition lt d a b p).1,.bool (partition lt d a b p).2.1]) U/\Holds S.e N0 U rs k v (partition lt d a b p).2.2:=by
 have key:∃ r U,Ret Tryz.prog S.q.partition [v,gi a,gi b,gi p,.fn S.f []] N r U/\r= .tup [gi (partition lt d a b p).1,.bool (partition lt d a b p).2.1]/\Holds S.e N0 U rs k v (partition lt d a b p).2.2:=by
  refine Ap S.h_partition (Z0z rfl) ?_
  obtain⟨U1,U,s1,s2,hH,hl2⟩:=H.sw (a:=a) (b:=p) (by omega) (by omega)
  obtain⟨j,hh⟩:∃ h,h=b - 1:=⟨_,rfl⟩
  have hbI:(b:Int) - 1=j:=by omega
  have hD:=Go.Sort.swp_size d a p
  obtain⟨P0,hP0⟩:∃ P0,P0=partition lt d a b p:=⟨_,rfl⟩
  rw[<- hP0]
  have hE:=hP0.symm
  simp only[partition] at hE
  rw[<- hh] at hE
  obtain⟨D,hD0⟩:∃ D0,D0=swp d a p:=⟨_,rfl⟩
  rw[<- hD0] at hH hD hE
  simp +contextual (disch:=omega) only[go_sem,O2,hbI,A1,H.iad (j:=a) (by omega),H.ld (j:=a) (by omega),H.iad (j:=p) (by omega),H.ld (j:=p) (by omega),s1,s2]
  have ia:=hH.iad (j:=a) (by omega)
  have la:=hH.ld (j:=a) (by omega)
  obtain⟨i,hi⟩:∃ i,i=a+1:=⟨_,rfl⟩
  rw[<- hi] at hE
  have hij:i<=j+1:=by omega
  refine C4 (fun n env U'=>∃(x:Nat),env 0=v/\env 1=gi a/\env 4= .fn S.f []/\env 12=gi x/\env 13=gi j/\j+1 - x=n/\i<=x/\x<=j+1/\U=U'/\scanUp (fun x=>lt x D[a]!) D j x=scanUp (fun x=>lt x D[a]!) D j i) (j+1 - i) 0 (fun env U'=>env 0=v/\env 1=gi a/\env 4= .fn S.f []/\env 12=gi (scanUp (fun x=>lt x D[a]!) D j i:Nat)/\env 13=gi j/\U=U') ⟨i,rfl,rfl,rfl,(by rw[hi];rfl),rfl,rfl,Zaa _,hij,rfl,rfl⟩ ?_ ?_
  ·skip
   rintro J2 Yq2 hJ2 hY2 n2 env U' ⟨x,e0,e1,e4,e9,e10,hn2,hx1,hx2,rfl,hU⟩
   rw[scanUp] at hU
   rcases Zac j x with hx|hx
   ·rw[if_neg (by simp;intro h;omega)] at hU
    have c0:decide ((x:Int)<=j)=false:=by simp;omega
    simp +contextual (disch:=omega) only[go_sem,e0,e1,e4,e9,e10,c0]
    refine hY2 _ _ ⟨?_,?_,?_,?_,?_,rfl⟩
    all_goals simp +contextual (disch:=omega) only[go_sem,e0,e1,e4,e9,e10,hU]
   ·have c0:decide ((x:Int)<=j)=true:=by simp;omega
    simp +contextual (disch:=omega) only[go_sem,e0,e1,e4,e9,e10,c0,A1,ia,la,hH.iad (j:=x) (by omega),hH.ld (j:=x) (by omega)]
    refine A6 (S.call _ _ _) ?_
    cases hl:lt D[x]! D[a]! with
    |false=>
     rw[if_neg (by simp[hl])] at hU
     simp +contextual (disch:=omega) only[go_sem,e0,e1,e4,e9,e10,c0,hl,S.klt]
     refine hY2 _ _ ⟨?_,?_,?_,?_,?_,rfl⟩
     all_goals simp +contextual (disch:=omega) only[go_sem,e0,e1,e4,e9,e10,hU]
    |true=>
     rw[if_pos (by simp[hl];omega)] at hU
     simp +contextual (disch:=omega) only[go_sem,e0,e1,e4,e9,e10,c0,hl,S.klt]
     refine⟨j+1 - (x+1),by omega,hJ2 _ _ _ ⟨x+1,?_,?_,?_,?_,?_,rfl,by omega,by omega,rfl,hU⟩⟩
     all_goals simp +contextual (disch:=omega) only[go_sem,e0,e1,e4,e9,e10]
  skip
  rintro env U' ⟨e0,e1,e4,e9,e10,rfl⟩
  obtain⟨u1,u2,-,u4⟩:=scanUp_spec (fun x=>lt x D[a]!) D j _ i rfl
  have u2:=u2 hij
  obtain⟨x,hx⟩:∃ x,x=scanUp (fun x=>lt x D[a]!) D j i:=⟨_,rfl⟩
  rw[<- hx] at hE e9 u1 u2 u4
  simp +contextual (disch:=omega) only[go_sem]
  refine C4 (fun n env U'=>∃(y:Nat),env 0=v/\env 1=gi a/\env 4= .fn S.f []/\env 12=gi x/\env 13=gi y/\y+1=n/\y<=j/\x<=y+1/\U=U'/\scanDown (fun x=> !lt x D[a]!) D x y=scanDown (fun x=> !lt x D[a]!) D x j) (j+1) 2 (fun env U'=>env 0=v/\env 1=gi a/\env 4= .fn S.f []/\env 12=gi x/\env 13=gi (scanDown (fun x=> !lt x D[a]!) D x j:Nat)/\U=U'/\x<=scanDown (fun x=> !lt x D[a]!) D x j+1) ⟨j,e0,e1,e4,e9,e10,rfl,Zaa _,u2,rfl,rfl⟩ ?_ ?_
  ·clear e0 e1 e4 e9 e10
   rintro J2 Yq2 hJ2 hY2 n2 env U' ⟨y,e0,e1,e4,e9,e10,hn2,hy1,hy2,rfl,hU⟩
   rcases Zac y x with hlt|hge
   ·have hU:scanDown (fun x=> !lt x D[a]!) D x j=y:=by
     rw[<- hU]
     cases y with
     |zero=>rfl
     |succ y=>rw[scanDown,if_neg (by simp;intro h;omega)]
    have c0:decide ((x:Int)<=y)=false:=by simp;omega
    simp +contextual (disch:=omega) only[go_sem,e0,e1,e4,e9,e10,c0]
    refine hY2 _ _ ⟨?_,?_,?_,?_,?_,rfl,by omega⟩
    all_goals simp +contextual (disch:=omega) only[go_sem,e0,e1,e4,e9,e10,hU]
   ·obtain⟨z,rfl⟩:∃ z,y=z+1:=⟨y - 1,by omega⟩
    rw[scanDown] at hU
    have c0:decide ((x:Int)<=(z:Int)+1)=true:=by simp;omega
    have n1:B9 (some (.int .i64 ((z:Int)+1)))=some (z+1):=B4 (by simp)
    have z1:(z:Int)+1 - 1=z:=by omega
    simp +contextual (disch:=omega) only[go_sem,e0,e1,e4,e9,e10,c0,A1,n1,ia,la,hH.iad (j:=z+1) (by omega),hH.ld (j:=z+1) (by omega)]
    refine A6 (S.call _ _ _) ?_
    cases hl:lt D[z+1]! D[a]! with
    |true=>
     rw[if_neg (by simp[hl])] at hU
     simp +contextual (disch:=omega) only[go_sem,e0,e1,e4,e9,e10,c0,hl,S.klt]
     refine hY2 _ _ ⟨?_,?_,?_,?_,?_,rfl,by omega⟩
     all_goals simp +contextual (disch:=omega) only[go_sem,e0,e1,e4,e9,e10,<-hU]
    |false=>
     rw[if_pos (by simp[hl];omega)] at hU
     simp +contextual (disch:=omega) only[go_sem,e0,e1,e4,e9,e10,c0,z1,hl,S.klt]
     refine⟨z+1,by omega,hJ2 _ _ _ ⟨z,?_,?_,?_,?_,?_,rfl,by omega,by omega,rfl,hU⟩⟩
     all_goals simp +contextual (disch:=omega) only[go_sem,e0,e1,e4,e9,e10]
  clear e0 e1 e4 e9 e10
  rintro env U' ⟨e0,e1,e4,e9,e10,rfl,hxy⟩
  have w1:=scanDown_le (fun x=> !lt x D[a]!) D x j
  have w4:=(scanDown_spec (fun x=> !lt x D[a]!) D x j).2.2.2
  obtain⟨y,hy⟩:∃ y,y=scanDown (fun x=> !lt x D[a]!) D x j:=⟨_,rfl⟩
  rw[<- hy] at hE e10 w1 w4 hxy
  have hne:x≠y:=by
   rintro rfl
   have q1:lt D[x]! D[a]! =false:=u4 w1
   have q2:(!lt D[x]! D[a]!)=false:=w4 (Zaa _) (by omega)
   rw[q1] at q2;cases q2
  rcases Zac y x with hlt|hge
  ·rw[if_pos hlt] at hE
   subst hE
   have c0:decide ((y:Int)<x)=true:=by simp;omega
   obtain⟨U3,U4,s3,s4,hH4,hl4⟩:=hH.sw (a:=y) (b:=a) (by omega) (by omega)
   simp +contextual (disch:=omega) only[go_sem,e0,e1,e4,e9,e10,c0,A1,hH.iad (j:=a) (by omega),hH.ld (j:=a) (by omega),hH.iad (j:=y) (by omega),hH.ld (j:=y) (by omega),s3,s4]
   exact⟨_,rfl,by omega,rfl,hH4⟩
  ·rw[if_neg (by omega)] at hE
   subst hE
   have c0:decide ((y:Int)<x)=false:=by simp;omega
   have y1:(y:Int) - 1=((y - 1:Nat):Int):=by omega
   obtain⟨U3,U4,s3,s4,hH4,hl4⟩:=hH.sw (a:=x) (b:=y) (by omega) (by omega)
   simp +contextual (disch:=omega) only[go_sem,e0,e1,e4,e9,e10,c0,A1,hH.iad (j:=x) (by omega),hH.ld (j:=x) (by omega),hH.iad (j:=y) (by omega),hH.ld (j:=y) (by omega),s3,s4]
   obtain⟨x0,hx0⟩:∃ x0,x0=x+1:=⟨_,rfl⟩
   obtain⟨y0,hy0⟩:∃ y0,y0=y - 1:=⟨_,rfl⟩
   have hD4:(swp D x y).size=d.size:=by rw[Go.Sort.swp_size];exact hD
   obtain⟨D4,hD40⟩:∃ D4,D4=swp D x y:=⟨_,rfl⟩
   rw[<- hx0,<-hy0,<-hD40]
   rw[<- hD40] at hH4 hD4
   obtain⟨R,hR⟩:∃ R,R=partLoop lt a x0 y0 D4:=⟨_,rfl⟩
   rw[<- hR]
   refine Bp (fun n env U=>∃(i j:Nat) (D:Array Y),env 0=v/\env 1=gi a/\env 4= .fn S.f []/\env 12=gi i/\env 13=gi j/\j+1 - i=n/\1<=i/\i<=j+1/\j<b/\D.size=d.size/\N.length<=U.length/\Holds S.e N0 U rs k v D/\partLoop lt a i j D=R) (y0+1 - x0) ⟨x0,y0,D4,by simp +contextual (disch:=omega) only[go_sem,e0],by simp +contextual (disch:=omega) only[go_sem,e1],by simp +contextual (disch:=omega) only[go_sem,e4],by rw[hx0];simp +contextual (disch:=omega) only[go_sem,e9],by rw[hy0];simp +contextual (disch:=omega) only[go_sem,y1],rfl,by omega,by omega,by omega,hD4,by omega,hH4,hR.symm⟩ ?_
   clear hH hH4 hij ia la s1 s2 s3 s4 e0 e1 e4 e9 e10 c0 y1 hi u1 u2 u4 w1 w4 hxy hne hge hx hy hx0 hy0 hD40 hD4 hD hD0 hl2 hl4
   rintro J hJ n env U ⟨i,j,D,e0,e1,e4,e9,e10,hn,hi,hij,hj,hD,hle,hH,hE⟩
   rw[partLoop_eq] at hE
   have ia:=hH.iad (j:=a) (by omega)
   have la:=hH.ld (j:=a) (by omega)
   simp +contextual (disch:=omega) only[go_sem]
   refine C4 (fun n env U'=>∃(x:Nat),env 0=v/\env 1=gi a/\env 4= .fn S.f []/\env 12=gi x/\env 13=gi j/\j+1 - x=n/\i<=x/\x<=j+1/\U=U'/\scanUp (fun x=>lt x D[a]!) D j x=scanUp (fun x=>lt x D[a]!) D j i) (j+1 - i) 6 (fun env U'=>env 0=v/\env 1=gi a/\env 4= .fn S.f []/\env 12=gi (scanUp (fun x=>lt x D[a]!) D j i:Nat)/\env 13=gi j/\U=U') ⟨i,e0,e1,e4,e9,e10,rfl,Zaa _,hij,rfl,rfl⟩ ?_ ?_
   ·clear e0 e1 e4 e9 e10
    rintro J2 Yq2 hJ2 hY2 n2 env U' ⟨x,e0,e1,e4,e9,e10,hn2,hx1,hx2,rfl,hU⟩
    rw[scanUp] at hU
    rcases Zac j x with hx|hx
    ·rw[if_neg (by simp;intro h;omega)] at hU
     have c0:decide ((x:Int)<=j)=false:=by simp;omega
     simp +contextual (disch:=omega) only[go_sem,e0,e1,e4,e9,e10,c0]
     refine hY2 _ _ ⟨?_,?_,?_,?_,?_,rfl⟩
     all_goals simp +contextual (disch:=omega) only[go_sem,e0,e1,e4,e9,e10,hU]
    ·have c0:decide ((x:Int)<=j)=true:=by simp;omega
     simp +contextual (disch:=omega) only[go_sem,e0,e1,e4,e9,e10,c0,A1,ia,la,hH.iad (j:=x) (by omega),hH.ld (j:=x) (by omega)]
     refine A6 (S.call _ _ _) ?_
     cases hl:lt D[x]! D[a]! with
     |false=>
      rw[if_neg (by simp[hl])] at hU
      simp +contextual (disch:=omega) only[go_sem,e0,e1,e4,e9,e10,c0,hl,S.klt]
      refine hY2 _ _ ⟨?_,?_,?_,?_,?_,rfl⟩
      all_goals simp +contextual (disch:=omega) only[go_sem,e0,e1,e4,e9,e10,hU]
     |true=>
      rw[if_pos (by simp[hl];omega)] at hU
      simp +contextual (disch:=omega) only[go_sem,e0,e1,e4,e9,e10,c0,hl,S.klt]
      refine⟨j+1 - (x+1),by omega,hJ2 _ _ _ ⟨x+1,?_,?_,?_,?_,?_,rfl,by omega,by omega,rfl,hU⟩⟩
      all_goals simp +contextual (disch:=omega) only[go_sem,e0,e1,e4,e9,e10]
   clear e0 e1 e4 e9 e10
   rintro env U' ⟨e0,e1,e4,e9,e10,rfl⟩
   obtain⟨u1,u2,-,u4⟩:=scanUp_spec (fun x=>lt x D[a]!) D j _ i rfl
   have u2:=u2 hij
   obtain⟨x,hx⟩:∃ x,x=scanUp (fun x=>lt x D[a]!) D j i:=⟨_,rfl⟩
   rw[<- hx] at hE e9 u1 u2 u4
   simp +contextual (disch:=omega) only[go_sem]
   refine C4 (fun n env U'=>∃(y:Nat),env 0=v/\env 1=gi a/\env 4= .fn S.f []/\env 12=gi x/\env 13=gi y/\y+1=n/\y<=j/\x<=y+1/\U=U'/\scanDown (fun x=> !lt x D[a]!) D x y=scanDown (fun x=> !lt x D[a]!) D x j) (j+1) 8 (fun env U'=>env 0=v/\env 1=gi a/\env 4= .fn S.f []/\env 12=gi x/\env 13=gi (scanDown (fun x=> !lt x D[a]!) D x j:Nat)/\U=U'/\x<=scanDown (fun x=> !lt x D[a]!) D x j+1) ⟨j,e0,e1,e4,e9,e10,rfl,Zaa _,u2,rfl,rfl⟩ ?_ ?_
   ·clear e0 e1 e4 e9 e10
    rintro J2 Yq2 hJ2 hY2 n2 env U' ⟨y,e0,e1,e4,e9,e10,hn2,hy1,hy2,rfl,hU⟩
    rcases Zac y x with hlt|hge
    ·have hU:scanDown (fun x=> !lt x D[a]!) D x j=y:=by
      rw[<- hU]
      cases y with
      |zero=>rfl
      |succ y=>rw[scanDown,if_neg (by simp;intro h;omega)]
     have c0:decide ((x:Int)<=y)=false:=by simp;omega
     simp +contextual (disch:=omega) only[go_sem,e0,e1,e4,e9,e10,c0]
     refine hY2 _ _ ⟨?_,?_,?_,?_,?_,rfl,by omega⟩
     all_goals simp +contextual (disch:=omega) only[go_sem,e0,e1,e4,e9,e10,hU]
    ·obtain⟨z,rfl⟩:∃ z,y=z+1:=⟨y - 1,by omega⟩
     rw[scanDown] at hU
     have c0:decide ((x:Int)<=(z:Int)+1)=true:=by simp;omega
     have n1:B9 (some (.int .i64 ((z:Int)+1)))=some (z+1):=B4 (by simp)
     have z1:(z:Int)+1 - 1=z:=by omega
     simp +contextual (disch:=omega) only[go_sem,e0,e1,e4,e9,e10,c0,A1,n1,ia,la,hH.iad (j:=z+1) (by omega),hH.ld (j:=z+1) (by omega)]
     refine A6 (S.call _ _ _) ?_
     cases hl:lt D[z+1]! D[a]! with
     |true=>
      rw[if_neg (by simp[hl])] at hU
      simp +contextual (disch:=omega) only[go_sem,e0,e1,e4,e9,e10,c0,hl,S.klt]
      refine hY2 _ _ ⟨?_,?_,?_,?_,?_,rfl,by omega⟩
      all_goals simp +contextual (disch:=omega) only[go_sem,e0,e1,e4,e9,e10,<-hU]
     |false=>
      rw[if_pos (by simp[hl];omega)] at hU
      simp +contextual (disch:=omega) only[go_sem,e0,e1,e4,e9,e10,c0,z1,hl,S.klt]
      refine⟨z+1,by omega,hJ2 _ _ _ ⟨z,?_,?_,?_,?_,?_,rfl,by omega,by omega,rfl,hU⟩⟩
      all_goals simp +contextual (disch:=omega) only[go_sem,e0,e1,e4,e9,e10]
   clear e0 e1 e4 e9 e10
   rintro env U' ⟨e0,e1,e4,e9,e10,rfl,hxy⟩
   have w1:=scanDown_le (fun x=> !lt x D[a]!) D x j
   have w4:=(scanDown_spec (fun x=> !lt x D[a]!) D x j).2.2.2
   obtain⟨y,hy⟩:∃ y,y=scanDown (fun x=> !lt x D[a]!) D x j:=⟨_,rfl⟩
   rw[<- hy] at hE e10 w1 w4 hxy
   have hne:x≠y:=by
    rintro rfl
    have q1:lt D[x]! D[a]! =false:=u4 w1
    have q2:(!lt D[x]! D[a]!)=false:=w4 (Zaa _) (by omega)
    rw[q1] at q2;cases q2
   rcases Zac y x with hlt|hge
   ·rw[if_pos hlt] at hE
    subst hE
    have c0:decide ((y:Int)<x)=true:=by simp;omega
    obtain⟨U3,U4,s3,s4,hH4,hl4⟩:=hH.sw (a:=y) (b:=a) (by omega) (by omega)
    simp +contextual (disch:=omega) only[go_sem,e0,e1,e4,e9,e10,c0,A1,hH.iad (j:=a) (by omega),hH.ld (j:=a) (by omega),hH.iad (j:=y) (by omega),hH.ld (j:=y) (by omega),s3,s4]
    exact⟨_,rfl,by omega,rfl,hH4⟩
   ·rw[if_neg (by omega)] at hE
    have c0:decide ((y:Int)<x)=false:=by simp;omega
    have y1:(y:Int) - 1=((y - 1:Nat):Int):=by omega
    obtain⟨U3,U4,s3,s4,hH4,hl4⟩:=hH.sw (a:=x) (b:=y) (by omega) (by omega)
    simp +contextual (disch:=omega) only[go_sem,e0,e1,e4,e9,e10,c0,A1,hH.iad (j:=x) (by omega),hH.ld (j:=x) (by omega),hH.iad (j:=y) (by omega),hH.ld (j:=y) (by omega),s3,s4]
    refine⟨y - 1+1 - (x+1),by omega,hJ _ _ _ ⟨x+1,y - 1,swp D x y,?_,?_,?_,?_,?_,rfl,by omega,by omega,by omega,by rw[Go.Sort.swp_size];exact hD,by omega,hH4,hE⟩⟩
    all_goals simp +contextual (disch:=omega) only[go_sem,e0,e1,e4,e9,e10,y1]
 obtain⟨r,U,R,rfl,h⟩:=key
 exact⟨U,R,h⟩
end C
namespace C
open Go Go.RowKit Go.Proofs.YtnknigikcdgebaaGreatDoor.Sy Go.Sort
variable {Y:Type} [Inhabited Y] {lt:Y->Y->Bool} {N0 N:St} {rs:List Thg} {k:Nat} {v:GV} {d:Array Y}
theorem scanSorted_ge (lt:Y->Y->Bool) (d:Array Y) (b:Nat):∀(n i:Nat),b - i=n->i<=scanSorted lt d b i/\(i<=b->scanSorted lt d b i<=b):=by
 intro n
 induction n with
 |zero=>
  intro i hn
  rw[scanSorted,if_neg (by simp;intro h;omega)]
  exact⟨Zaa _,fun h=>h⟩
 |succ n ih=>
  intro i hn
  rw[scanSorted]
  split
  ·have:=ih (i+1) (by omega)
   exact⟨by omega,fun _=>this.2 (by omega)⟩
  ·exact⟨Zaa _,fun h=>h⟩
theorem shiftDown_size (lt:Y->Y->Bool):∀(j:Nat) (d:Array Y),(shiftDown lt j d).size=d.size
 |0,_=>rfl
 |j+1,d=>by
  rw[shiftDown]
  split
  ·rfl
  ·rw[shiftDown_size lt j,Go.Sort.swp_size]
theorem shiftUp_size (lt:Y->Y->Bool) (b:Nat):∀(n j:Nat) (d:Array Y),b - j=n->(shiftUp lt b j d).size=d.size:=by
 intro n
 induction n with
 |zero=>intro j d h;rw[shiftUp,if_neg (by omega)]
 |succ n ih=>
  intro j d h
  rw[shiftUp,if_pos (by omega)]
  split
  ·rfl
  ·rw[ih _ _ (by omega),Go.Sort.swp_size]
theorem pis_ret (S:SrtC Y lt) (H:Holds S.e N0 N rs k v d) {a b:Nat} (hab:a<b) (hb:b<=d.size) (hs:d.size<=1099511627776):∃ U,Ret Tryz.prog S.q.partialInsertionSort [v,gi a,gi b,.fn S.f []] N (.bool (partialInsertionSort lt d a b).2) U/\Holds S.e N0 U rs k v (partialInsertionSort lt d a b).1:=by
 have key:∃ r U,Ret Tryz.prog S.q.partialInsertionSort [v,gi a,gi b,.fn S.f []] N r U/\r= .bool (partialInsertionSort lt d a b).2/\Holds S.e N0 U rs k v (partialInsertionSort lt d a b).1:=by
  refine Ap S.h_partialInsertionSort (Z0z rfl) ?_
  rw[partialInsertionSort]
  obtain⟨R,hR⟩:∃ R,R=partialIns lt a b 5 (a+1) d:=⟨_,rfl⟩
  rw[<- hR]
  simp +contextual (maxSteps:=600000) (disch:=omega) only[go_sem,E2]
  refine Bp (fun n env U=>∃(s i:Nat) (D:Array Y),env 0=v/\env 1=gi a/\env 2=gi b/\env 3= .fn S.f []/\env 9=gi i/\env 10=gi s/\5 - s=n/\s<=5/\a<i/\i<=b/\D.size=d.size/\N.length<=U.length/\Holds S.e N0 U rs k v D/\partialIns lt a b (5 - s) i D=R) 5 ⟨0,a+1,d,rfl,rfl,rfl,rfl,rfl,rfl,rfl,by omega,by omega,by omega,rfl,Zaa _,H,hR.symm⟩ ?_
  rintro J hJ n env U ⟨s,i0,D,e0,e1,e2,e3,e7,e8,hn,hs5,hai,hib,hD,hle,hH,hE⟩
  rcases Zac s 5 with h5|h5
  ·have c0:decide ((s:Int)<5)=true:=by simp;omega
   obtain⟨m,hm⟩:∃ m,5 - s=m+1:=⟨4 - s,by omega⟩
   rw[hm,partialIns] at hE
   dsimp only at hE
   simp +contextual (maxSteps:=600000) (disch:=omega) only[go_sem,e0,e1,e2,e3,e7,e8,c0]
   refine C4 (fun n env U'=>∃(x:Nat),env 0=v/\env 1=gi a/\env 2=gi b/\env 3= .fn S.f []/\env 9=gi x/\env 10=gi s/\b - x=n/\i0<=x/\x<=b/\U=U'/\scanSorted lt D b x=scanSorted lt D b i0) (b - i0) 2 (fun env U'=>env 0=v/\env 1=gi a/\env 2=gi b/\env 3= .fn S.f []/\env 9=gi (scanSorted lt D b i0:Nat)/\env 10=gi s/\U=U') ⟨i0,by simp +contextual (maxSteps:=600000) (disch:=omega) only[go_sem,e0],by simp +contextual (maxSteps:=600000) (disch:=omega) only[go_sem,e1],by simp +contextual (maxSteps:=600000) (disch:=omega) only[go_sem,e2],by simp +contextual (maxSteps:=600000) (disch:=omega) only[go_sem,e3],by simp +contextual (maxSteps:=600000) (disch:=omega) only[go_sem,e7],by simp +contextual (maxSteps:=600000) (disch:=omega) only[go_sem,e8],rfl,Zaa _,hib,rfl,rfl⟩ ?_ ?_
   ·clear e0 e1 e2 e3 e7 e8
    rintro J2 Yq2 hJ2 hY2 n2 env U' ⟨x,e0,e1,e2,e3,e7,e8,hn2,hx1,hx2,rfl,hU⟩
    rw[scanSorted] at hU
    rcases Zac x b with hx|hx
    ·have c1:decide ((x:Int)<b)=true:=by simp;omega
     have x1:(x:Int) - 1=((x - 1:Nat):Int):=by omega
     simp +contextual (maxSteps:=600000) (disch:=omega) only[go_sem,e0,e1,e2,e3,e7,e8,c1,x1,A1,hH.iad (j:=x) (by omega),hH.ld (j:=x) (by omega),hH.iad (j:=x - 1) (by omega),hH.ld (j:=x - 1) (by omega)]
     refine A6 (S.call _ _ _) ?_
     cases hl:lt D[x]! D[x - 1]! with
     |true=>
      rw[if_neg (by simp[hl])] at hU
      simp +contextual (maxSteps:=600000) (disch:=omega) only[go_sem,e0,e1,e2,e3,e7,e8,c1,hl,S.klt]
      refine hY2 _ _ ⟨?_,?_,?_,?_,?_,?_,rfl⟩
      all_goals simp +contextual (maxSteps:=600000) (disch:=omega) only[go_sem,e0,e1,e2,e3,e7,e8,hU]
     |false=>
      rw[if_pos (by simp[hl];omega)] at hU
      simp +contextual (maxSteps:=600000) (disch:=omega) only[go_sem,e0,e1,e2,e3,e7,e8,c1,hl,S.klt]
      refine⟨b - (x+1),by omega,hJ2 _ _ _ ⟨x+1,?_,?_,?_,?_,?_,?_,rfl,by omega,by omega,rfl,hU⟩⟩
      all_goals simp +contextual (maxSteps:=600000) (disch:=omega) only[go_sem,e0,e1,e2,e3,e7,e8]
    ·rw[if_neg (by simp;intro h;omega)] at hU
     have c1:decide ((x:Int)<b)=false:=by simp;omega
     simp +contextual (maxSteps:=600000) (disch:=omega) only[go_sem,e0,e1,e2,e3,e7,e8,c1]
     refine hY2 _ _ ⟨?_,?_,?_,?_,?_,?_,rfl⟩
     all_goals simp +contextual (maxSteps:=600000) (disch:=omega) only[go_sem,e0,e1,e2,e3,e7,e8,hU]
   clear e0 e1 e2 e3 e7 e8
   rintro env U' ⟨e0,e1,e2,e3,e7,e8,rfl⟩
   obtain⟨g1,g2⟩:=scanSorted_ge lt D b _ i0 rfl
   have g2:=g2 hib
   obtain⟨i,hi⟩:∃ i,i=scanSorted lt D b i0:=⟨_,rfl⟩
   rw[<- hi] at hE e7 g1 g2
   by_cases h1:i=b
   ·rw[if_pos h1] at hE
    subst hE
    have c1:((b:Int)==b)=true:=by simp
    rw[h1] at e7
    simp +contextual (maxSteps:=600000) (disch:=omega) only[go_sem,e0,e1,e2,e3,e7,e8,c1]
    exact⟨_,rfl,hle,rfl,hH⟩
   ·rw[if_neg h1] at hE
    have c1:((i:Int)==b)=false:=by simp;omega
    by_cases h50:b - a<50
    ·rw[if_pos h50] at hE
     subst hE
     have c2:decide ((b:Int) - a<50)=true:=by simp;omega
     simp +contextual (maxSteps:=600000) (disch:=omega) only[go_sem,e0,e1,e2,e3,e7,e8,c1,c2]
     exact⟨_,rfl,hle,rfl,hH⟩
    ·rw[if_neg h50] at hE
     have c2:decide ((b:Int) - a<50)=false:=by simp;omega
     have i1:(i:Int) - 1=((i - 1:Nat):Int):=by omega
     obtain⟨U1,U2,s1,s2,hH1,hl1⟩:=hH.sw (a:=i) (b:=i - 1) (by omega) (by omega)
     simp +contextual (maxSteps:=600000) (disch:=omega) only[go_sem,e0,e1,e2,e3,e7,e8,c1,c2,i1,A1,hH.iad (j:=i) (by omega),hH.ld (j:=i) (by omega),hH.iad (j:=i - 1) (by omega),hH.ld (j:=i - 1) (by omega),s1,s2]
     have hD1:(swp D i (i - 1)).size=d.size:=by rw[Go.Sort.swp_size];exact hD
     have hle1:N.length<=U2.length:=by omega
     obtain⟨D1,hD10⟩:∃ D1,D1=swp D i (i - 1):=⟨_,rfl⟩
     rw[<- hD10] at hE hD1 hH1
     clear hH hle s1 s2
     by_cases hA:i - a≥2
     ·rw[if_pos hA] at hE
      have cA:decide ((2:Int)<=(i:Int) - a)=true:=by simp;omega
      simp +contextual (maxSteps:=600000) (disch:=omega) only[go_sem,e0,e1,e2,e3,e7,e8,cA]
      refine C4 (fun n env U=>∃(j:Nat) (E:Array Y),env 0=v/\env 1=gi a/\env 2=gi b/\env 3= .fn S.f []/\env 9=gi i/\env 10=gi s/\env 11=gi j/\j=n/\j<b/\E.size=d.size/\N.length<=U.length/\Holds S.e N0 U rs k v E/\shiftDown lt j E=shiftDown lt (i - 1) D1) (i - 1) 4 (fun env U=>env 0=v/\env 1=gi a/\env 2=gi b/\env 3= .fn S.f []/\env 9=gi i/\env 10=gi s/\N.length<=U.length/\Holds S.e N0 U rs k v (shiftDown lt (i - 1) D1)) ⟨i - 1,D1,by simp +contextual (maxSteps:=600000) (disch:=omega) only[go_sem,e0],by simp +contextual (maxSteps:=600000) (disch:=omega) only[go_sem,e1],by simp +contextual (maxSteps:=600000) (disch:=omega) only[go_sem,e2],by simp +contextual (maxSteps:=600000) (disch:=omega) only[go_sem,e3],by simp +contextual (maxSteps:=600000) (disch:=omega) only[go_sem,e7],by simp +contextual (maxSteps:=600000) (disch:=omega) only[go_sem,e8],by simp +contextual (maxSteps:=600000) (disch:=omega) only[go_sem,i1],rfl,by omega,hD1,hle1,hH1,rfl⟩ ?_ ?_
      ·clear e0 e1 e2 e3 e7 e8
       rintro J2 Yq2 hJ2 hY2 n2 env U ⟨j,E,e0,e1,e2,e3,e7,e8,e9,hn2,hj,hE2,hle2,hH,hU⟩
       cases j with
       |zero=>
        have c5:decide ((1:Int)<=0)=false:=rfl
        simp +contextual (maxSteps:=600000) (disch:=omega) only[go_sem,e0,e1,e2,e3,e7,e8,e9,c5,Int.natCast_zero]
        refine hY2 _ _ ⟨?_,?_,?_,?_,?_,?_,hle2,by rw[<- hU];exact hH⟩
        all_goals simp +contextual (maxSteps:=600000) (disch:=omega) only[go_sem,e0,e1,e2,e3,e7,e8]
       |succ m=>
        have c5:decide ((1:Int)<=(m:Int)+1)=true:=decide_eq_true (by omega)
        have n1:B9 (some (.int .i64 ((m:Int)+1)))=some (m+1):=B4 (by simp)
        have m1:(m:Int)+1 - 1=m:=by omega
        rw[shiftDown] at hU
        simp +contextual (maxSteps:=600000) (disch:=omega) only[go_sem,e0,e1,e2,e3,e7,e8,e9,c5,n1,m1,A1,hH.iad (j:=m+1) (by omega),hH.ld (j:=m+1) (by omega),hH.iad (j:=m) (by omega),hH.ld (j:=m) (by omega)]
        refine A6 (S.call _ _ _) ?_
        cases hl:lt E[m+1]! E[m]! with
        |false=>
         rw[if_pos (by simp[hl])] at hU
         simp +contextual (maxSteps:=600000) (disch:=omega) only[go_sem,e0,e1,e2,e3,e7,e8,e9,hl,S.klt]
         refine hY2 _ _ ⟨?_,?_,?_,?_,?_,?_,hle2,by rw[<- hU];exact hH⟩
         all_goals simp +contextual (maxSteps:=600000) (disch:=omega) only[go_sem,e0,e1,e2,e3,e7,e8]
        |true=>
         rw[if_neg (by simp[hl])] at hU
         obtain⟨U3,U4,s3,s4,hH4,hl4⟩:=hH.sw (a:=m+1) (b:=m) (by omega) (by omega)
         simp +contextual (maxSteps:=600000) (disch:=omega) only[go_sem,e0,e1,e2,e3,e7,e8,e9,n1,m1,A1,hl,S.klt,hH.iad (j:=m+1) (by omega),hH.ld (j:=m+1) (by omega),hH.iad (j:=m) (by omega),hH.ld (j:=m) (by omega),s3,s4]
         refine⟨m,by omega,hJ2 _ _ _ ⟨m,swp E (m+1) m,?_,?_,?_,?_,?_,?_,?_,rfl,by omega,by rw[Go.Sort.swp_size];exact hE2,by omega,hH4,hU⟩⟩
         all_goals simp +contextual (maxSteps:=600000) (disch:=omega) only[go_sem,e0,e1,e2,e3,e7,e8,m1]
      clear e0 e1 e2 e3 e7 e8 hH1 hle1
      rintro env U ⟨e0,e1,e2,e3,e7,e8,hle2,hH2⟩
      have hD2:=(shiftDown_size lt (i - 1) D1).trans hD1
      obtain⟨D2,hD20⟩:∃ D2,D2=shiftDown lt (i - 1) D1:=⟨_,rfl⟩
      rw[<- hD20] at hE hD2 hH2
      simp +contextual (maxSteps:=600000) (disch:=omega) only[go_sem]
      by_cases hB:b - i≥2
      ·rw[if_pos hB] at hE
       have cB:decide ((2:Int)<=(b:Int) - i)=true:=by simp;omega
       simp +contextual (maxSteps:=600000) (disch:=omega) only[go_sem,e0,e1,e2,e3,e7,e8,cB,cA]
       refine C4 (fun n env U=>∃(j:Nat) (E:Array Y),env 0=v/\env 1=gi a/\env 2=gi b/\env 3= .fn S.f []/\env 9=gi i/\env 10=gi s/\env 12=gi j/\b - j=n/\1<=j/\j<=b/\E.size=d.size/\N.length<=U.length/\Holds S.e N0 U rs k v E/\shiftUp lt b j E=shiftUp lt b (i+1) D2) (b - (i+1)) 6 (fun env U=>env 0=v/\env 1=gi a/\env 2=gi b/\env 3= .fn S.f []/\env 9=gi i/\env 10=gi s/\N.length<=U.length/\Holds S.e N0 U rs k v (shiftUp lt b (i+1) D2)) ⟨i+1,D2,by simp +contextual (maxSteps:=600000) (disch:=omega) only[go_sem,e0],by simp +contextual (maxSteps:=600000) (disch:=omega) only[go_sem,e1],by simp +contextual (maxSteps:=600000) (disch:=omega) only[go_sem,e2],by simp +contextual (maxSteps:=600000) (disch:=omega) only[go_sem,e3],by simp +contextual (maxSteps:=600000) (disch:=omega) only[go_sem,e7],by simp +contextual (maxSteps:=600000) (disch:=omega) only[go_sem,e8],by simp +contextual (maxSteps:=600000) (disch:=omega) only[go_sem,e7],rfl,by omega,by omega,hD2,hle2,hH2,rfl⟩ ?_ ?_
       ·clear e0 e1 e2 e3 e7 e8
        rintro J2 Yq2 hJ2 hY2 n2 env U ⟨j,E,e0,e1,e2,e3,e7,e8,e9,hn2,hj1,hj,hE2,hle3,hH,hU⟩
        rw[shiftUp] at hU
        rcases Zac j b with hjb|hjb
        ·rw[if_pos hjb] at hU
         have c5:decide ((j:Int)<b)=true:=by simp;omega
         have j1:(j:Int) - 1=((j - 1:Nat):Int):=by omega
         simp +contextual (maxSteps:=600000) (disch:=omega) only[go_sem,e0,e1,e2,e3,e7,e8,e9,c5,j1,A1,hH.iad (j:=j) (by omega),hH.ld (j:=j) (by omega),hH.iad (j:=j - 1) (by omega),hH.ld (j:=j - 1) (by omega)]
         refine A6 (S.call _ _ _) ?_
         cases hl:lt E[j]! E[j - 1]! with
         |false=>
          rw[if_pos (by simp[hl])] at hU
          simp +contextual (maxSteps:=600000) (disch:=omega) only[go_sem,e0,e1,e2,e3,e7,e8,e9,hl,S.klt]
          refine hY2 _ _ ⟨?_,?_,?_,?_,?_,?_,hle3,by rw[<- hU];exact hH⟩
          all_goals simp +contextual (maxSteps:=600000) (disch:=omega) only[go_sem,e0,e1,e2,e3,e7,e8]
         |true=>
          rw[if_neg (by simp[hl])] at hU
          obtain⟨U3,U4,s3,s4,hH4,hl4⟩:=hH.sw (a:=j) (b:=j - 1) (by omega) (by omega)
          simp +contextual (maxSteps:=600000) (disch:=omega) only[go_sem,e0,e1,e2,e3,e7,e8,e9,j1,A1,hl,S.klt,hH.iad (j:=j) (by omega),hH.ld (j:=j) (by omega),hH.iad (j:=j - 1) (by omega),hH.ld (j:=j - 1) (by omega),s3,s4]
          refine⟨b - (j+1),by omega,hJ2 _ _ _ ⟨j+1,swp E j (j - 1),?_,?_,?_,?_,?_,?_,?_,rfl,by omega,by omega,by rw[Go.Sort.swp_size];exact hE2,by omega,hH4,hU⟩⟩
          all_goals simp +contextual (maxSteps:=600000) (disch:=omega) only[go_sem,e0,e1,e2,e3,e7,e8,e9]
        ·rw[if_neg (by omega)] at hU
         have c5:decide ((j:Int)<b)=false:=by simp;omega
         simp +contextual (maxSteps:=600000) (disch:=omega) only[go_sem,e0,e1,e2,e3,e7,e8,e9,c5]
         refine hY2 _ _ ⟨?_,?_,?_,?_,?_,?_,hle3,by rw[<- hU];exact hH⟩
         all_goals simp +contextual (maxSteps:=600000) (disch:=omega) only[go_sem,e0,e1,e2,e3,e7,e8]
       clear e0 e1 e2 e3 e7 e8 hH2 hle2
       rintro env U ⟨e0,e1,e2,e3,e7,e8,hle2,hH2⟩
       simp +contextual (maxSteps:=600000) (disch:=omega) only[go_sem,e0,e1,e2,e3,e7,e8]
       refine⟨n - 1,by omega,hJ _ _ _ ⟨s+1,i,_,?_,?_,?_,?_,?_,?_,by omega,by omega,by omega,by omega,(by rw[shiftUp_size lt b _ _ _ rfl];exact hD2),hle2,hH2,by rw[<- hE];congr 1;omega⟩⟩
       all_goals simp +contextual (maxSteps:=600000) (disch:=omega) only[go_sem,e0,e1,e2,e3,e7,e8]
      ·rw[if_neg hB] at hE
       have cB:decide ((2:Int)<=(b:Int) - i)=false:=by simp;omega
       simp +contextual (maxSteps:=600000) (disch:=omega) only[go_sem,e0,e1,e2,e3,e7,e8,cB,cA]
       refine⟨n - 1,by omega,hJ _ _ _ ⟨s+1,i,_,?_,?_,?_,?_,?_,?_,by omega,by omega,by omega,by omega,hD2,hle2,hH2,by rw[<- hE];congr 1;omega⟩⟩
       all_goals simp +contextual (maxSteps:=600000) (disch:=omega) only[go_sem,e0,e1,e2,e3,e7,e8]
     ·rw[if_neg hA] at hE
      have cA:decide ((2:Int)<=(i:Int) - a)=false:=by simp;omega
      obtain⟨D2,hD20⟩:∃ D2,D2=D1:=⟨_,rfl⟩
      have hD2:=hD1
      have hH2:=hH1
      have hle2:=hle1
      rw[<- hD20] at hE hD2 hH2
      by_cases hB:b - i≥2
      ·rw[if_pos hB] at hE
       have cB:decide ((2:Int)<=(b:Int) - i)=true:=by simp;omega
       simp +contextual (maxSteps:=600000) (disch:=omega) only[go_sem,e0,e1,e2,e3,e7,e8,cB,cA]
       refine C4 (fun n env U=>∃(j:Nat) (E:Array Y),env 0=v/\env 1=gi a/\env 2=gi b/\env 3= .fn S.f []/\env 9=gi i/\env 10=gi s/\env 12=gi j/\b - j=n/\1<=j/\j<=b/\E.size=d.size/\N.length<=U.length/\Holds S.e N0 U rs k v E/\shiftUp lt b j E=shiftUp lt b (i+1) D2) (b - (i+1)) 6 (fun env U=>env 0=v/\env 1=gi a/\env 2=gi b/\env 3= .fn S.f []/\env 9=gi i/\env 10=gi s/\N.length<=U.length/\Holds S.e N0 U rs k v (shiftUp lt b (i+1) D2)) ⟨i+1,D2,by simp +contextual (maxSteps:=600000) (disch:=omega) only[go_sem,e0],by simp +contextual (maxSteps:=600000) (disch:=omega) only[go_sem,e1],by simp +contextual (maxSteps:=600000) (disch:=omega) only[go_sem,e2],by simp +contextual (maxSteps:=600000) (disch:=omega) only[go_sem,e3],by simp +contextual (maxSteps:=600000) (disch:=omega) only[go_sem,e7],by simp +contextual (maxSteps:=600000) (disch:=omega) only[go_sem,e8],by simp +contextual (maxSteps:=600000) (disch:=omega) only[go_sem,e7],rfl,by omega,by omega,hD2,hle2,hH2,rfl⟩ ?_ ?_
       ·clear e0 e1 e2 e3 e7 e8
        rintro J2 Yq2 hJ2 hY2 n2 env U ⟨j,E,e0,e1,e2,e3,e7,e8,e9,hn2,hj1,hj,hE2,hle3,hH,hU⟩
        rw[shiftUp] at hU
        rcases Zac j b with hjb|hjb
        ·rw[if_pos hjb] at hU
         have c5:decide ((j:Int)<b)=true:=by simp;omega
         have j1:(j:Int) - 1=((j - 1:Nat):Int):=by omega
         simp +contextual (maxSteps:=600000) (disch:=omega) only[go_sem,e0,e1,e2,e3,e7,e8,e9,c5,j1,A1,hH.iad (j:=j) (by omega),hH.ld (j:=j) (by omega),hH.iad (j:=j - 1) (by omega),hH.ld (j:=j - 1) (by omega)]
         refine A6 (S.call _ _ _) ?_
         cases hl:lt E[j]! E[j - 1]! with
         |false=>
          rw[if_pos (by simp[hl])] at hU
          simp +contextual (maxSteps:=600000) (disch:=omega) only[go_sem,e0,e1,e2,e3,e7,e8,e9,hl,S.klt]
          refine hY2 _ _ ⟨?_,?_,?_,?_,?_,?_,hle3,by rw[<- hU];exact hH⟩
          all_goals simp +contextual (maxSteps:=600000) (disch:=omega) only[go_sem,e0,e1,e2,e3,e7,e8]
         |true=>
          rw[if_neg (by simp[hl])] at hU
          obtain⟨U3,U4,s3,s4,hH4,hl4⟩:=hH.sw (a:=j) (b:=j - 1) (by omega) (by omega)
          simp +contextual (maxSteps:=600000) (disch:=omega) only[go_sem,e0,e1,e2,e3,e7,e8,e9,j1,A1,hl,S.klt,hH.iad (j:=j) (by omega),hH.ld (j:=j) (by omega),hH.iad (j:=j - 1) (by omega),hH.ld (j:=j - 1) (by omega),s3,s4]
          refine⟨b - (j+1),by omega,hJ2 _ _ _ ⟨j+1,swp E j (j - 1),?_,?_,?_,?_,?_,?_,?_,rfl,by omega,by omega,by rw[Go.Sort.swp_size];exact hE2,by omega,hH4,hU⟩⟩
          all_goals simp +contextual (maxSteps:=600000) (disch:=omega) only[go_sem,e0,e1,e2,e3,e7,e8,e9]
        ·rw[if_neg (by omega)] at hU
         have c5:decide ((j:Int)<b)=false:=by simp;omega
         simp +contextual (maxSteps:=600000) (disch:=omega) only[go_sem,e0,e1,e2,e3,e7,e8,e9,c5]
         refine hY2 _ _ ⟨?_,?_,?_,?_,?_,?_,hle3,by rw[<- hU];exact hH⟩
         all_goals simp +contextual (maxSteps:=600000) (disch:=omega) only[go_sem,e0,e1,e2,e3,e7,e8]
       clear e0 e1 e2 e3 e7 e8 hH2 hle2
       rintro env U ⟨e0,e1,e2,e3,e7,e8,hle2,hH2⟩
       simp +contextual (maxSteps:=600000) (disch:=omega) only[go_sem,e0,e1,e2,e3,e7,e8]
       refine⟨n - 1,by omega,hJ _ _ _ ⟨s+1,i,_,?_,?_,?_,?_,?_,?_,by omega,by omega,by omega,by omega,(by rw[shiftUp_size lt b _ _ _ rfl];exact hD2),hle2,hH2,by rw[<- hE];congr 1;omega⟩⟩
       all_goals simp +contextual (maxSteps:=600000) (disch:=omega) only[go_sem,e0,e1,e2,e3,e7,e8]
      ·rw[if_neg hB] at hE
       have cB:decide ((2:Int)<=(b:Int) - i)=false:=by simp;omega
       simp +contextual (maxSteps:=600000) (disch:=omega) only[go_sem,e0,e1,e2,e3,e7,e8,cB,cA]
       refine⟨n - 1,by omega,hJ _ _ _ ⟨s+1,i,_,?_,?_,?_,?_,?_,?_,by omega,by omega,by omega,by omega,hD2,hle2,hH2,by rw[<- hE];congr 1;omega⟩⟩
       all_goals simp +contextual (maxSteps:=600000) (disch:=omega) only[go_sem,e0,e1,e2,e3,e7,e8]
  ·have c0:decide ((s:Int)<5)=false:=by simp;omega
   have hm:5 - s=0:=by omega
   rw[hm,partialIns] at hE
   subst hE
   simp +contextual (maxSteps:=600000) (disch:=omega) only[go_sem,e0,e1,e2,e3,e7,e8,c0]
   exact⟨_,rfl,hle,rfl,hH⟩
 obtain⟨r,U,R,rfl,h⟩:=key
 exact⟨U,R,h⟩
end C
section
open Go Go.RowKit Go.Sort
set_option maxRecDepth 10000
theorem Iu {m:Int} (h:0<=m) (h':m<=18446744073709551615):IntKind.u64.wrap m=m:=by
 show(if (false&&decide (m % 2 ^ 64≥2 ^ 63))=true then m % 2 ^ 64 - 2 ^ 64 else m % 2 ^ 64)=m
 simp only[Zbq,Zan,if_false]
 omega
theorem Afw {m:Int} (h:0<=m) (h':m<=255):IntKind.u8.wrap m=m:=by
 show(if (false&&decide (m % 2 ^ 8≥2 ^ 7))=true then m % 2 ^ 8 - 2 ^ 8 else m % 2 ^ 8)=m
 simp only[Zbq,Zan,if_false]
 omega
theorem shrU {x:Nat} {c:Nat} (hc:c<=64):Ev .shr .u64 (x:Int) (c:Int)=some (.int .u64 ((x / 2 ^ c:Nat):Int)):=by
 have h2:(2:Int) ^ c=((2 ^ c:Nat):Int):=by simp
 unfold Ev
 rw[if_neg (by omega)]
 show some (GV.int .u64 (Int.fdiv (x:Int) (2 ^ min ((c:Int).toNat) 64)))=_
 rw[Zbh,Zbo hc,h2,Int.ofNat_fdiv]
theorem O5 {x k:Nat} (h:2 ^ k<=x):bitsLen x=k+bitsLen (x / 2 ^ k):=by rw[Ac2 h];omega
theorem A34 (N:St) (x:Nat) (hx:x<=1099511627776):Ret Tryz.prog 289 [.int .u64 x] N (gi (bitsLen x)) N:=by
 refine Ab O1 (Z0z rfl) trivial ?_
 have s32:Ev .shr .u64 (x:Int) 32=some (.int .u64 ((x / 4294967296:Nat):Int)):=shrU (c:=32) (by decide)
 have key2:∀ y:Nat,y<65536->IntKind.u8.wrap ((y / 256:Nat):Int)=((y / 256:Nat):Int):=fun y hy=>Afw (by omega) (by omega)
 have key3:∀ y:Nat,y<256->IntKind.u8.wrap (y:Int)=(y:Int):=fun y hy=>Afw (by omega) (by omega)
 have i64:∀ y:Nat,y<256->IntKind.i64.wrap ((bitsLen y:Nat):Int)=((bitsLen y:Nat):Int)/\bitsLen y<=8:=fun y hy=>by
  have:bitsLen y<=8:=(bitsLen_le_iff y 8).2 (by omega)
  exact⟨Af (by omega) (by omega),this⟩
 by_cases h1:4294967296<=x
 ·have c1:decide ((4294967296:Int)<=x)=true:=by simp;omega
  have hE:=O5 (k:=32) (x:=x) h1
  obtain⟨y,hy⟩:∃ y,y=x / 4294967296:=⟨_,rfl⟩
  have hyl:y<=256:=by omega
  rw[show (2:Nat) ^ 32=4294967296 from rfl,<-hy] at hE
  rw[<- hy] at s32
  have c2:decide ((65536:Int)<=y)=false:=by simp;omega
  by_cases h3:256<=y
  ·have c3:decide ((256:Int)<=y)=true:=by simp;omega
   have s8:Ev .shr .u64 (y:Int) 8=some (.int .u64 ((y / 256:Nat):Int)):=shrU (c:=8) (by decide)
   have hE2:=O5 (k:=8) (x:=y) h3
   obtain⟨z,hz⟩:∃ z,z=y / 256:=⟨_,rfl⟩
   have hzl:z<256:=by omega
   rw[show (2:Nat) ^ 8=256 from rfl,<-hz] at hE2
   rw[<- hz] at s8
   rw[hE,hE2]
   obtain⟨w1,w2⟩:=i64 z hzl
   simp +contextual (disch:=omega) only[go_sem,Bg,c1,s32,c2,c3,s8,key3 z hzl,A1,(show idxG (GV.str Lib.len8tab) _=_ from Pq hzl),w1]
   simp<;>omega
  ·have c3:decide ((256:Int)<=y)=false:=by simp;omega
   have hzl:y<256:=by omega
   obtain⟨w1,w2⟩:=i64 y hzl
   rw[hE]
   simp +contextual (disch:=omega) only[go_sem,Bg,c1,s32,c2,c3,key3 y hzl,A1,(show idxG (GV.str Lib.len8tab) _=_ from Pq hzl),w1]
 ·have c1:decide ((4294967296:Int)<=x)=false:=by simp;omega
  by_cases h2:65536<=x
  ·have c2:decide ((65536:Int)<=x)=true:=by simp;omega
   have s16:Ev .shr .u64 (x:Int) 16=some (.int .u64 ((x / 65536:Nat):Int)):=shrU (c:=16) (by decide)
   have hE:=O5 (k:=16) (x:=x) h2
   obtain⟨y,hy⟩:∃ y,y=x / 65536:=⟨_,rfl⟩
   have hyl:y<65536:=by omega
   rw[show (2:Nat) ^ 16=65536 from rfl,<-hy] at hE
   rw[<- hy] at s16
   by_cases h3:256<=y
   ·have c3:decide ((256:Int)<=y)=true:=by simp;omega
    have s8:Ev .shr .u64 (y:Int) 8=some (.int .u64 ((y / 256:Nat):Int)):=shrU (c:=8) (by decide)
    have hE2:=O5 (k:=8) (x:=y) h3
    obtain⟨z,hz⟩:∃ z,z=y / 256:=⟨_,rfl⟩
    have hzl:z<256:=by omega
    rw[show (2:Nat) ^ 8=256 from rfl,<-hz] at hE2
    rw[<- hz] at s8
    rw[hE,hE2]
    obtain⟨w1,w2⟩:=i64 z hzl
    simp +contextual (disch:=omega) only[go_sem,Bg,c1,s16,c2,c3,s8,key3 z hzl,A1,(show idxG (GV.str Lib.len8tab) _=_ from Pq hzl),w1]
    simp<;>omega
   ·have c3:decide ((256:Int)<=y)=false:=by simp;omega
    have hzl:y<256:=by omega
    obtain⟨w1,w2⟩:=i64 y hzl
    rw[hE]
    simp +contextual (disch:=omega) only[go_sem,Bg,c1,s16,c2,c3,key3 y hzl,A1,(show idxG (GV.str Lib.len8tab) _=_ from Pq hzl),w1]
    simp<;>omega
  ·have c2:decide ((65536:Int)<=x)=false:=by simp;omega
   by_cases h3:256<=x
   ·have c3:decide ((256:Int)<=x)=true:=by simp;omega
    have s8:Ev .shr .u64 (x:Int) 8=some (.int .u64 ((x / 256:Nat):Int)):=shrU (c:=8) (by decide)
    have hE2:=O5 (k:=8) (x:=x) h3
    obtain⟨z,hz⟩:∃ z,z=x / 256:=⟨_,rfl⟩
    have hzl:z<256:=by omega
    rw[show (2:Nat) ^ 8=256 from rfl,<-hz] at hE2
    rw[<- hz] at s8
    rw[hE2]
    obtain⟨w1,w2⟩:=i64 z hzl
    simp +contextual (disch:=omega) only[go_sem,Bg,c1,c2,c3,s8,key3 z hzl,A1,(show idxG (GV.str Lib.len8tab) _=_ from Pq hzl),w1]
    simp<;>omega
   ·have c3:decide ((256:Int)<=x)=false:=by simp;omega
    have hzl:x<256:=by omega
    obtain⟨w1,w2⟩:=i64 x hzl
    simp +contextual (disch:=omega) only[go_sem,Bg,c1,c2,c3,key3 x hzl,A1,(show idxG (GV.str Lib.len8tab) _=_ from Pq hzl),w1]
    simp<;>omega
theorem Lx (N:St) (x:Nat) (hx:x<=1099511627776):Ret Tryz.prog 257 [.int .u64 x] N (gi (bitsLen x)) N:=by
 refine Ab Rm (Z0z rfl) trivial ?_
 simp +contextual (disch:=omega) only[go_sem,Jv]
 refine A6 (A34 N x hx) ?_
 simp +contextual (disch:=omega) only[go_sem]
theorem Ae2 (N:St) (x:Nat) (hx:x<=1099511627776):Ret Tryz.prog 311 [gi x] N (.int .u64 (2 ^ bitsLen x:Nat)) N:=by
 refine Ab I8 (Z0z rfl) trivial ?_
 have w1:IntKind.u64.wrap (x:Int)=x:=Iu (by omega) (by omega)
 have hb:=A95 hx
 have hp:2 ^ bitsLen x<=2 ^ 41:=Za8 (by omega) hb
 have s1:Ev .shl .u64 1 ((bitsLen x:Nat):Int)=some (.int .u64 (2 ^ bitsLen x:Nat)):=by
  unfold Ev
  rw[if_neg (by omega)]
  show some (GV.int .u64 (IntKind.u64.wrap (1*2 ^ min (((bitsLen x:Nat):Int).toNat) 64)))=_
  rw[Zbh,Zbo (by omega),Int.one_mul]
  have h2:(2:Int) ^ bitsLen x=((2 ^ bitsLen x:Nat):Int):=by simp
  obtain⟨q,hq⟩:∃ q,q=2 ^ bitsLen x:=⟨_,rfl⟩
  rw[<- hq] at hp
  rw[h2,<-hq,Iu (by omega) (by omega)]
 simp +contextual (disch:=omega) only[go_sem,Ef,w1]
 refine A6 (Lx N x hx) ?_
 simp +contextual (disch:=omega) only[go_sem,s1]
theorem Ae3 (c:Int) (hc:0<=c):∃ f:Int->Int,∀ a,Ev .shl .u64 a c=some (.int .u64 (f a)):=⟨fun a=>IntKind.u64.wrap (a*2 ^ min c.toNat IntKind.u64.bits),fun a=>by unfold Ev;rw[if_neg (by omega)]⟩
theorem Ahf (c:Int) (hc:0<=c):∃ f:Int->Int,∀ a,Ev .shr .u64 a c=some (.int .u64 (f a)):=⟨fun a=>a.fdiv (2 ^ min c.toNat IntKind.u64.bits),fun a=>by unfold Ev;rw[if_neg (by omega)]⟩
theorem Ahg:∃ f:Int->Int->Int,∀ a b,binG .xor (.int .u64 a) (.int .u64 b)=some (.int .u64 (f a b)):=⟨fun a b=>IntKind.u64.wrap (BitVec.ofInt IntKind.u64.bits a ^^^ BitVec.ofInt IntKind.u64.bits b).toNat,fun a b=>rfl⟩
theorem andU {y:Int} {m:Nat} (hm:m<2 ^ 62):∃ w:Nat,w≤m/\binG .and (.int .u64 y) (.int .u64 (m:Int))=some (.int .u64 (w:Int)):=by
 have h1:(BitVec.ofInt IntKind.u64.bits y &&& BitVec.ofInt IntKind.u64.bits (m:Int)).toNat<=m:=by
  rw[BitVec.toNat_and]
  refine Nat.le_trans Nat.and_le_right ?_
  rw[BitVec.toNat_ofInt]
  show((m:Int) % ((2 ^ 64:Nat):Int)).toNat<=m
  omega
 refine⟨_,h1,?_⟩
 show some (GV.int .u64 (IntKind.u64.wrap _))=_
 rw[Iu (by omega) (by omega)]
theorem Afx {N0 N:St} {rs:List Thg} {g:Nat} {y:Int} (H:Hp N0 N rs) (m:Nat) (hm:rs[m]? =some (pt 1 g [.int .u64 y])):∃(y':Int) (U:St),Ret Tryz.prog 312 [.ptr g 0] N (.int .u64 y') U/\Hp N0 U (rs.set m (pt 1 g [.int .u64 y'])):=by
 have key:∃ r U,Ret Tryz.prog 312 [.ptr g 0] N r U/\∃ y':Int,r= .int .u64 y'/\Hp N0 U (rs.set m (pt 1 g [.int .u64 y'])):=by
  refine Ap It (Z0z rfl) ?_
  obtain⟨f1,hf1⟩:=Ae3 13 (by decide)
  obtain⟨f2,hf2⟩:=Ahf 7 (by decide)
  obtain⟨f3,hf3⟩:=Ae3 17 (by decide)
  obtain⟨fb,hfb⟩:=Ahg
  have e1:∀ z:Int,∀ w:GV,Al [w] 0 [GV.int .u64 z]=[.int .u64 z]:=fun z w=>rfl
  have sg:∀ z:Int,(seg [GV.int .u64 z] 0 1).bind (mkv false)=some (.int .u64 z):=fun z=>rfl
  have hml:=(Zal.1 hm).1
  have l1:=A2 (a:=false) (n:=1) (off:=0) (H.pt m hm)
  obtain⟨U1,st1,H1,hl1⟩:=H.st m hm 1 0 (.int .u64 (fb y (f1 y))) rfl (by decide) (by simp)
  simp only[GV.cells,e1] at H1
  obtain⟨y1,hy1⟩:∃ y1,y1=fb y (f1 y):=⟨_,rfl⟩
  rw[<- hy1] at st1 H1
  have l2:=A2 (a:=false) (n:=1) (off:=0) (H1.pt m (Zaf hml))
  obtain⟨U2,st2,H2,hl2⟩:=H1.st m (Zaf hml) 1 0 (.int .u64 (fb y1 (f2 y1))) rfl (by decide) (by simp)
  simp only[GV.cells,e1] at H2
  obtain⟨y2,hy2⟩:∃ y1',y1'=fb y1 (f2 y1):=⟨_,rfl⟩
  rw[<- hy2] at st2 H2
  rw[Za5] at H2
  have l3:=A2 (a:=false) (n:=1) (off:=0) (H2.pt m (Zaf hml))
  obtain⟨U3,st3,H3,hl3⟩:=H2.st m (Zaf hml) 1 0 (.int .u64 (fb y2 (f3 y2))) rfl (by decide) (by simp)
  simp only[GV.cells,e1] at H3
  obtain⟨y3,hy3⟩:∃ y1',y1'=fb y2 (f3 y2):=⟨_,rfl⟩
  rw[<- hy3] at st3 H3
  rw[Za5] at H3
  have l4:=A2 (a:=false) (n:=1) (off:=0) (H3.pt m (Zaf hml))
  simp only[sg] at l1 l2 l3 l4
  simp +contextual (disch:=omega) only[go_sem,F1,hf1,hf2,hf3,hfb,l1,<-hy1,st1,l2,<-hy2,st2,l3,<-hy3,st3,l4]
  exact⟨_,rfl,by omega,y3,rfl,H3⟩
 obtain⟨r,U,R,y',rfl,h⟩:=key
 exact⟨y',U,R,h⟩
end
namespace C
open Go Go.RowKit Go.Proofs.YtnknigikcdgebaaGreatDoor.Sy Go.Sort
variable {Y:Type} [Inhabited Y] {lt:Y->Y->Bool} {N0 N:St} {rs:List Thg} {k g:Nat} {s:Int} {v:GV} {d:Array Y}
theorem order2_ret (S:SrtC Y lt) (H:Holds S.e N0 N (pt 1 g [gi s]::rs) (k+1) v d) {a b:Nat} (ha:a<d.size) (hb:b<d.size):∃(r1 r2:Nat) (s':Int) (U:St),Ret Tryz.prog S.q.order2 [v,gi a,gi b,.ptr g 0,.fn S.f []] N (.tup [gi r1,gi r2]) U/\Holds S.e N0 U (pt 1 g [gi s']::rs) (k+1) v d/\((r1=a/\r2=b)∨(r1=b/\r2=a)):=by
 have key:∃ r U,Ret Tryz.prog S.q.order2 [v,gi a,gi b,.ptr g 0,.fn S.f []] N r U/\∃(r1 r2:Nat) (s':Int),r= .tup [gi r1,gi r2]/\Holds S.e N0 U (pt 1 g [gi s']::rs) (k+1) v d/\((r1=a/\r2=b)∨(r1=b/\r2=a)):=by
  refine Ap S.h_order2 (Z0z rfl) ?_
  simp +contextual (disch:=omega) only[go_sem,A11,A1,H.iad ha,H.ld ha,H.iad hb,H.ld hb]
  refine A6 (S.call _ _ _) ?_
  cases hl:lt d[b]! d[a]! with
  |true=>
   have l1:=A2 (a:=false) (n:=1) (off:=0) (H.2.pt 0 rfl)
   have l1:ldG false 1 N (.ptr g 0)=some (gi s):=l1
   obtain⟨U1,st1,H1,hl1⟩:=H.2.st 0 rfl 1 0 (gi (IntKind.i64.wrap (s+1))) rfl (by decide) (by simp)
   simp +contextual (disch:=omega) only[go_sem,hl,S.klt,l1,st1]
   exact⟨_,rfl,by omega,b,a,IntKind.i64.wrap (s+1),rfl,⟨H.1,H1⟩,.inr ⟨rfl,rfl⟩⟩
  |false=>
   simp +contextual (disch:=omega) only[go_sem,hl,S.klt]
   exact⟨_,rfl,a,b,s,rfl,H,.inl ⟨rfl,rfl⟩⟩
 obtain⟨r,U,R,r1,r2,s',rfl,h1,h2⟩:=key
 exact⟨r1,r2,s',U,R,h1,h2⟩
theorem median_ret (S:SrtC Y lt) (H:Holds S.e N0 N (pt 1 g [gi s]::rs) (k+1) v d) {a b c:Nat} (ha:a<d.size) (hb:b<d.size) (hc:c<d.size):∃(r1:Nat) (s':Int) (U:St),Ret Tryz.prog S.q.median [v,gi a,gi b,gi c,.ptr g 0,.fn S.f []] N (gi r1) U/\Holds S.e N0 U (pt 1 g [gi s']::rs) (k+1) v d/\(r1=a∨r1=b∨r1=c):=by
 have key:∃ r U,Ret Tryz.prog S.q.median [v,gi a,gi b,gi c,.ptr g 0,.fn S.f []] N r U/\∃(r1:Nat) (s':Int),r=gi r1/\Holds S.e N0 U (pt 1 g [gi s']::rs) (k+1) v d/\(r1=a∨r1=b∨r1=c):=by
  refine Ap S.h_median (Z0z rfl) ?_
  simp +contextual (disch:=omega) only[go_sem,A0z]
  obtain⟨a1,b1,s1,U1,R1,H1,h1⟩:=order2_ret S H ha hb
  refine Ai R1 ?_
  simp +contextual (disch:=omega) only[go_sem]
  obtain⟨b2,c2,s2,U2,R2,H2,h2⟩:=order2_ret S H1 (a:=b1) (b:=c) (by omega) hc
  refine Ai R2 ?_
  simp +contextual (disch:=omega) only[go_sem]
  obtain⟨a3,b3,s3,U3,R3,H3,h3⟩:=order2_ret S H2 (a:=a1) (b:=b2) (by omega) (by omega)
  refine Ai R3 ?_
  simp +contextual (disch:=omega) only[go_sem]
  have:=R1.2.1
  have:=R2.2.1
  have:=R3.2.1
  exact⟨_,rfl,by omega,b3,s3,rfl,H3,by omega⟩
 obtain⟨r,U,R,r1,s',rfl,h1,h2⟩:=key
 exact⟨r1,s',U,R,h1,h2⟩
theorem medAdj_ret (S:SrtC Y lt) (H:Holds S.e N0 N (pt 1 g [gi s]::rs) (k+1) v d) {a:Nat} (h0:0<a) (ha:a+1<d.size) (hs:d.size<=1099511627776):∃(r1:Nat) (s':Int) (U:St),Ret Tryz.prog S.q.medianAdjacent [v,gi a,.ptr g 0,.fn S.f []] N (gi r1) U/\Holds S.e N0 U (pt 1 g [gi s']::rs) (k+1) v d/\a<=r1+1/\r1<=a+1:=by
 have key:∃ r U,Ret Tryz.prog S.q.medianAdjacent [v,gi a,.ptr g 0,.fn S.f []] N r U/\∃(r1:Nat) (s':Int),r=gi r1/\Holds S.e N0 U (pt 1 g [gi s']::rs) (k+1) v d/\a<=r1+1/\r1<=a+1:=by
  refine Ap S.h_medianAdjacent (Z0z rfl) ?_
  obtain⟨p,rfl⟩:∃ p,a=p+1:=⟨a - 1,by omega⟩
  have p1:(p:Int)+1 - 1=p:=by omega
  simp +contextual (disch:=omega) only[go_sem,Hd,p1]
  obtain⟨r1,s1,U1,R1,H1,h1⟩:=median_ret S H (a:=p) (b:=p+1) (c:=p+1+1) (by omega) (by omega) (by omega)
  refine Ai R1 ?_
  simp +contextual (disch:=omega) only[go_sem]
  have:=R1.2.1
  exact⟨_,rfl,by omega,r1,s1,rfl,H1,by omega,by omega⟩
 obtain⟨r,U,R,r1,s',rfl,h1,h2⟩:=key
 exact⟨r1,s',U,R,h1,h2⟩
theorem choose_ret (S:SrtC Y lt) (H:Holds S.e N0 N rs k v d) {a b:Nat} (hab:a<b) (hb:b<=d.size) (hs:d.size<=1099511627776):∃(p h:Nat) (U:St),Ret Tryz.prog S.q.choosePivot [v,gi a,gi b,.fn S.f []] N (.tup [gi p,gi h]) U/\Holds S.e N0 U rs k v d/\a<=p/\p<b/\h<=2:=by
 have key:∃ r U,Ret Tryz.prog S.q.choosePivot [v,gi a,gi b,.fn S.f []] N r U/\∃(p h:Nat),r= .tup [gi p,gi h]/\Holds S.e N0 U rs k v d/\a<=p/\p<b/\h<=2:=by
  refine Ap S.h_choosePivot (Z0z rfl) ?_
  obtain⟨l,hl⟩:∃ l,l=b - a:=⟨_,rfl⟩
  have hlI:(b:Int) - a=l:=by omega
  obtain⟨q,hq⟩:∃ q,q=l / 4:=⟨_,rfl⟩
  have hqI:(l:Int).tdiv 4=q:=by rw[hq];rfl
  obtain⟨i,hi⟩:∃ i,i=a+q*1:=⟨_,rfl⟩
  obtain⟨j,hj⟩:∃ i,i=a+q*2:=⟨_,rfl⟩
  obtain⟨m,hm⟩:∃ i,i=a+q*3:=⟨_,rfl⟩
  have hiI:(a:Int)+q*1=i:=by omega
  have hjI:(a:Int)+q*2=j:=by omega
  have hmI:(a:Int)+q*3=m:=by omega
  have H0:Holds S.e N0 (N++[some (.row 1 [gi 0])]) (pt 1 N.length [gi 0]::rs) (k+1) v d:=⟨by simpa using H.1,H.2.new 1 [gi 0]⟩
  have L0:(N++[some (Blk.row 1 [GV.int IntKind.i64 0])]).length=N.length+1:=by simp
  have L1:(N++[some (Blk.row 1 [gi 0])]).length=N.length+1:=L0
  by_cases h8:8<=l
  ·have c8:decide ((8:Int)<=l)=true:=by simp;omega
   by_cases h50:50<=l
   ·have c50:decide ((50:Int)<=l)=true:=by simp;omega
    simp +contextual (disch:=omega) only[go_sem,Eh,hlI,hqI,hiI,hjI,hmI,c8,c50]
    obtain⟨i1,s1,U1,R1,H1,h1,h1'⟩:=medAdj_ret S H0 (a:=i) (by omega) (by omega) hs
    refine Ai R1 ?_
    simp +contextual (disch:=omega) only[go_sem]
    obtain⟨j1,s2,U2,R2,H2,h2,h2'⟩:=medAdj_ret S H1 (a:=j) (by omega) (by omega) hs
    refine Ai R2 ?_
    simp +contextual (disch:=omega) only[go_sem]
    obtain⟨m1,s3,U3,R3,H3,h3,h3'⟩:=medAdj_ret S H2 (a:=m) (by omega) (by omega) hs
    refine Ai R3 ?_
    simp +contextual (disch:=omega) only[go_sem]
    obtain⟨p,s4,U4,R4,H4,h4⟩:=median_ret S H3 (a:=i1) (b:=j1) (c:=m1) (by omega) (by omega) (by omega)
    refine Ai R4 ?_
    have:=R1.2.1
    have:=R2.2.1
    have:=R3.2.1
    have:=R4.2.1
    have l1:ldG false 1 U4 (.ptr N.length 0)=some (gi s4):=A2 (a:=false) (n:=1) (off:=0) ((H4).2.pt 0 rfl)
    simp +contextual (disch:=omega) only[go_sem,l1]
    have hout:Holds S.e N0 U4 rs k v d:=⟨H.1,(H4).2.drop1⟩
    have key0:((s4:Int)==0)=decide ((s4:Int)=0):=rfl
    by_cases h0:(s4:Int)=0
    ·have c0:((s4:Int)==0)=true:=by simp[h0]
     simp +contextual (disch:=omega) only[go_sem,c0]
     exact⟨_,rfl,by omega,p,1,rfl,hout,by omega,by omega,by omega⟩
    ·have c0:((s4:Int)==0)=false:=by simp[h0]
     by_cases h12:(s4:Int)=12
     ·have c1:((s4:Int)==12)=true:=by simp[h12]
      simp +contextual (disch:=omega) only[go_sem,c0,c1]
      exact⟨_,rfl,by omega,p,2,rfl,hout,by omega,by omega,by omega⟩
     ·have c1:((s4:Int)==12)=false:=by simp[h12]
      simp +contextual (disch:=omega) only[go_sem,c0,c1]
      exact⟨_,rfl,by omega,p,0,rfl,hout,by omega,by omega,by omega⟩
   ·have c50:decide ((50:Int)<=l)=false:=by simp;omega
    simp +contextual (disch:=omega) only[go_sem,Eh,hlI,hqI,hiI,hjI,hmI,c8,c50]
    obtain⟨p,s4,U4,R4,H4,h4⟩:=median_ret S H0 (a:=i) (b:=j) (c:=m) (by omega) (by omega) (by omega)
    refine Ai R4 ?_
    have:=R4.2.1
    have l1:ldG false 1 U4 (.ptr N.length 0)=some (gi s4):=A2 (a:=false) (n:=1) (off:=0) ((H4).2.pt 0 rfl)
    simp +contextual (disch:=omega) only[go_sem,l1]
    have hout:Holds S.e N0 U4 rs k v d:=⟨H.1,(H4).2.drop1⟩
    have key0:((s4:Int)==0)=decide ((s4:Int)=0):=rfl
    by_cases h0:(s4:Int)=0
    ·have c0:((s4:Int)==0)=true:=by simp[h0]
     simp +contextual (disch:=omega) only[go_sem,c0]
     exact⟨_,rfl,by omega,p,1,rfl,hout,by omega,by omega,by omega⟩
    ·have c0:((s4:Int)==0)=false:=by simp[h0]
     by_cases h12:(s4:Int)=12
     ·have c1:((s4:Int)==12)=true:=by simp[h12]
      simp +contextual (disch:=omega) only[go_sem,c0,c1]
      exact⟨_,rfl,by omega,p,2,rfl,hout,by omega,by omega,by omega⟩
     ·have c1:((s4:Int)==12)=false:=by simp[h12]
      simp +contextual (disch:=omega) only[go_sem,c0,c1]
      exact⟨_,rfl,by omega,p,0,rfl,hout,by omega,by omega,by omega⟩
  ·have c8:decide ((8:Int)<=l)=false:=by simp;omega
   have l1:ldG false 1 (N++[some (.row 1 [gi 0])]) (.ptr N.length 0)=some (gi 0):=A2 (a:=false) (n:=1) (off:=0) (H0.2.pt 0 rfl)
   have c0:((0:Int)==0)=true:=rfl
   simp +contextual (disch:=omega) only[go_sem,Eh,hlI,hqI,hiI,hjI,hmI,c8,l1,c0]
   exact⟨_,rfl,by omega,j,1,rfl,⟨H.1,H0.2.drop1⟩,by omega,by omega,by omega⟩
 obtain⟨r,U,R,p,h,rfl,h1,h2⟩:=key
 exact⟨p,h,U,R,h1,h2⟩
theorem break_ret (S:SrtC Y lt) (H:Holds S.e N0 N rs k v d) {a b:Nat} (hab:a<=b) (hb:b<=d.size) (hs:d.size<=1099511627776):∃(d':Array Y) (U:St),Ret Tryz.prog S.q.breakPatterns [v,gi a,gi b,.fn S.f []] N (.tup []) U/\Holds S.e N0 U rs k v d'/\PermIn a b d d':=by
 have key:∃ r U,Ret Tryz.prog S.q.breakPatterns [v,gi a,gi b,.fn S.f []] N r U/\∃(d':Array Y),r= .tup []/\Holds S.e N0 U rs k v d'/\PermIn a b d d':=by
  refine Ap S.h_breakPatterns (Z0z rfl) ?_
  obtain⟨h,hh⟩:∃ l,l=b - a:=⟨_,rfl⟩
  have hhI:(b:Int) - a=h:=by omega
  by_cases h8:8<=h
  ·have c8:decide ((8:Int)<=h)=true:=by simp;omega
   have wu:IntKind.u64.wrap (h:Int)=h:=Iu (by omega) (by omega)
   obtain⟨q,hq⟩:∃ q,q=h / 4:=⟨_,rfl⟩
   have hqI:(h:Int).tdiv 4=q:=by rw[hq];rfl
   obtain⟨m,hm⟩:∃ i,i=a+q*2:=⟨_,rfl⟩
   have hmI:(a:Int)+q*2=m:=by omega
   have hmJ:(m:Int) - 1=((m - 1:Nat):Int):=by omega
   have H0:Holds S.e N0 (N++[some (.row 1 [.int .u64 h])]) (pt 1 N.length [.int .u64 h]::rs) (k+1) v d:=⟨by simpa using H.1,H.2.new 1 [.int .u64 h]⟩
   have sp:Al [GV.int .u64 0] 0 [GV.int .u64 (h:Int)]=[.int .u64 h]:=rfl
   simp +contextual (disch:=omega) only[go_sem,F9,hhI,c8,wu,GV.cells,sp,Zam,List.length_nil,Nat.reduceAdd,Zaa,Nat.zero_lt_one,and_self,if_true]
   rw[S.hnp]
   have hbl:h<=1099511627776:=by omega
   refine A6 (Ae2 _ h hbl) ?_
   obtain⟨M,hM⟩:∃ M,M=2 ^ bitsLen h:=⟨_,rfl⟩
   have hM1:=Go.Sort.two_pow_bitsLen_le (n:=h) (by omega)
   have hM2:=Za7 (bitsLen h)
   rw[<- hM] at hM1 hM2
   rw[<- hM]
   have M1:(M:Int) - 1=((M - 1:Nat):Int):=by omega
   have wM:IntKind.u64.wrap ((M - 1:Nat):Int)=((M - 1:Nat):Int):=Iu (by omega) (by omega)
   have L0:(N++[some (Blk.row 1 [GV.int .u64 (h:Int)])]).length=N.length+1:=by simp
   simp +contextual (disch:=omega) only[go_sem,hqI,hmI,hmJ]
   refine Bp (fun n env U=>∃(x:Nat) (y:Int) (D:Array Y),env 0=v/\env 1=gi a/\env 8=gi h/\env 9= .ptr N.length 0/\env 10= .int .u64 (M:Nat)/\env 11=gi x/\m+2 - x=n/\m - 1<=x/\x<=m+2/\N.length<=U.length/\Holds S.e N0 U (pt 1 N.length [.int .u64 y]::rs) (k+1) v D/\PermIn a b d D) (m+2 - (m - 1)) ⟨m - 1,h,d,rfl,rfl,rfl,rfl,rfl,rfl,rfl,Zaa _,by omega,by omega,H0,permIn_refl _ _ _⟩ ?_
   rintro J hJ n env U ⟨x,y,D,e0,e1,e6,e7,e8,e9,hn,hx1,hx2,hle,hH,hP⟩
   have hD:D.size=d.size:=hP.1
   by_cases hx:x<=m+1
   ·have c0:decide ((x:Int)<=(m:Int)+1)=true:=by simp;omega
    simp +contextual (disch:=omega) only[go_sem,e0,e1,e6,e7,e8,e9,hqI,hmI,c0]
    rw[S.hxs]
    obtain⟨y',U1,R1,H1⟩:=Afx hH.2 0 rfl
    have hle1:=R1.2.1
    have H1:Holds S.e N0 U1 (pt 1 N.length [.int .u64 y']::rs) (k+1) v D:=⟨hH.1,H1⟩
    obtain⟨w,hw,hwE⟩:=andU (y:=y') (m:=M - 1) (by omega)
    have ww:IntKind.i64.wrap (w:Int)=w:=Af (by omega) (by omega)
    refine Ai R1 ?_
    simp +contextual (disch:=omega) only[go_sem,e0,e1,e6,e7,e8,e9,M1,wM,hwE,ww]
    obtain⟨z,hz,hzI⟩:∃ z:Nat,z<h/\(z:Int)=if h<=w then(w:Int) - h else w:=by
     by_cases hc:h<=w
     ·exact⟨w - h,by omega,by rw[if_pos hc];omega⟩
     ·exact⟨w,by omega,by rw[if_neg hc]⟩
    have nz:B9 (some (.int .i64 ((a:Int)+z)))=some (a+z):=B4 (by simp)
    obtain⟨U3,U4,s3,s4,hH4,hl4⟩:=H1.sw (a:=x) (b:=a+z) (by omega) (by omega)
    have hP2:=permIn_trans _ _ _ _ _ hP (swp_permIn D a b x (a+z) (by omega) (by omega) (by omega) (by omega) (by omega))
    by_cases hc:h<=w
    ·rw[if_pos hc] at hzI
     have cc:decide ((h:Int)<=w)=true:=by simp;omega
     simp +contextual (disch:=omega) only[go_sem,e0,e1,e6,e7,e8,e9,cc,<-hzI,nz,A1,H1.iad (j:=x) (by omega),H1.ld (j:=x) (by omega),H1.iad (j:=a+z) (by omega),H1.ld (j:=a+z) (by omega),s3,s4]
     refine⟨m+2 - (x+1),by omega,hJ _ _ _ ⟨x+1,y',_,?_,?_,?_,?_,?_,?_,rfl,by omega,by omega,by omega,hH4,hP2⟩⟩
     all_goals simp +contextual (disch:=omega) only[go_sem,e0,e1,e6,e7,e8,e9]
    ·rw[if_neg hc] at hzI
     have hzw:z=w:=by omega
     rw[hzw] at nz s3 s4 hH4 hP2 hz
     have cc:decide ((h:Int)<=w)=false:=by simp;omega
     simp +contextual (disch:=omega) only[go_sem,e0,e1,e6,e7,e8,e9,cc,nz,A1,H1.iad (j:=x) (by omega),H1.ld (j:=x) (by omega),H1.iad (j:=a+w) (by omega),H1.ld (j:=a+w) (by omega),s3,s4]
     refine⟨m+2 - (x+1),by omega,hJ _ _ _ ⟨x+1,y',_,?_,?_,?_,?_,?_,?_,rfl,by omega,by omega,by omega,hH4,hP2⟩⟩
     all_goals simp +contextual (disch:=omega) only[go_sem,e0,e1,e6,e7,e8,e9]
   ·have c0:decide ((x:Int)<=(m:Int)+1)=false:=by simp;omega
    simp +contextual (disch:=omega) only[go_sem,e0,e1,e6,e7,e8,e9,hqI,hmI,c0]
    exact⟨_,rfl,hle,D,rfl,⟨H.1,hH.2.drop1⟩,hP⟩
  ·have c8:decide ((8:Int)<=h)=false:=by simp;omega
   simp +contextual (disch:=omega) only[go_sem,F9,hhI,c8]
   exact⟨_,rfl,d,rfl,H,permIn_refl _ _ _⟩
 obtain⟨r,U,R,d',rfl,h⟩:=key
 exact⟨d',U,R,h⟩
end C
namespace C
open Go Go.RowKit Go.Proofs.YtnknigikcdgebaaGreatDoor.Sy Go.Sort
variable {Y:Type} [Inhabited Y] {lt:Y->Y->Bool} {N0:St} {rs:List Thg} {k:Nat} {v:GV}
theorem pdq_ret (S:SrtC Y lt) (hS:SWO lt):∀(n:Nat) (d:Array Y) (a b l:Nat) (N:St),b - a<=n->a<=b->b<=d.size->d.size<=1099511627776->l<=1099511627776->Below lt a b d->Holds S.e N0 N rs k v d->∃(d':Array Y) (U:St),Ret Tryz.prog S.q.pdqsort [v,gi a,gi b,gi l,.fn S.f []] N (.tup []) U/\Holds S.e N0 U rs k v d'/\PermIn a b d d'/\SortedIn lt a b d':=by
 intro n
 induction n with
 |zero=>
  intro d a b l N hn hab hb hs hl hB H
  have key:∃ r U,Ret Tryz.prog S.q.pdqsort [v,gi a,gi b,gi l,.fn S.f []] N r U/\r= .tup []/\Holds S.e N0 U rs k v (insertionSort lt d a b):=by
   refine Ap S.h_pdqsort (Z0z rfl) ?_
   obtain rfl:a=b:=by omega
   simp +contextual (disch:=omega) only[go_sem,Lv]
   refine Sd (fun n env U=>env 0=v/\env 1=gi a/\env 2=gi a/\env 4= .fn S.f []/\U=N) 0 ⟨rfl,rfl,rfl,rfl,rfl⟩ ?_
   rintro n env U ⟨e0,e1,e2,e4,rfl⟩
   have a0:(a:Int) - a=0:=by omega
   have c0:decide ((0:Int)<=12)=true:=rfl
   simp +contextual (disch:=omega) only[go_sem,e0,e1,e2,e4,a0,c0]
   obtain⟨U1,R,H1⟩:=ins_ret S H (a:=a) (b:=a) (Zaa _) hb hs
   refine Ai R ?_
   simp +contextual (disch:=omega) only[go_sem]
   exact⟨_,rfl,R.2.1,rfl,H1⟩
  obtain⟨r,U,R,rfl,H1⟩:=key
  obtain⟨p1,p2⟩:=insertionSort_holds hS d a b hab hb
  exact⟨_,U,R,H1,p1,p2⟩
 |succ Nq ih=>
  intro d a b l N hn hab hb hs hl hB H
  have key:∃ r U,Ret Tryz.prog S.q.pdqsort [v,gi a,gi b,gi l,.fn S.f []] N r U/\∃ d',r= .tup []/\Holds S.e N0 U rs k v d'/\PermIn a b d d'/\SortedIn lt a b d':=by
   refine Ap S.h_pdqsort (Z0z rfl) ?_
   simp +contextual (disch:=omega) only[go_sem,Lv]
   refine Bp (fun n env U=>∃(x y l:Nat) (wb wp:Bool) (D:Array Y),env 0=v/\env 1=gi x/\env 2=gi y/\env 3=gi l/\env 4= .fn S.f []/\env 10= .bool wb/\env 11= .bool wp/\y - x=n/\l<=1099511627776/\a<=x/\x<=y/\y<=b/\D.size=d.size/\N.length<=U.length/\Holds S.e N0 U rs k v D/\Below lt x y D/\∀ R,PermIn x y D R->SortedIn lt x y R->PermIn a b d R/\SortedIn lt a b R) (b - a) ⟨a,b,l,true,true,d,rfl,rfl,rfl,rfl,rfl,rfl,rfl,rfl,hl,Zaa _,hab,Zaa _,rfl,Zaa _,H,hB,fun R h1 h2=>⟨h1,h2⟩⟩ ?_
   clear H hB hl
   rintro J hJ n env U ⟨x,y,l,wb,wp,D,e0,e1,e2,e3,e4,e8,e9,hn2,hl,hax,hxy,hyb,hD,hle,hH,hB,hfin⟩
   rw[Afr]
   obtain⟨h,hh⟩:∃ h,h=y - x:=⟨_,rfl⟩
   have hhI:(y:Int) - x=h:=by omega
   refine Dd (fun env U'=>env 0=v/\env 1=gi x/\env 2=gi y/\env 3=gi l/\env 4= .fn S.f []/\env 10= .bool wb/\env 11= .bool wp/\env 12=gi h/\U=U') (fun Yq hY=>by
    simp +contextual (disch:=omega) only[go_sem,e0,e1,e2,e3,e4,e8,e9,hhI]
    refine hY _ _ ⟨?_,?_,?_,?_,?_,?_,?_,?_,rfl⟩
    all_goals simp +contextual (disch:=omega) only[go_sem,e0,e1,e2,e3,e4,e8,e9,hhI]) ?_
   clear e0 e1 e2 e3 e4 e8 e9
   rintro env U' ⟨e0,e1,e2,e3,e4,e8,e9,e10,rfl⟩
   refine Dd (fun env U'=>env 0=v/\env 1=gi x/\env 2=gi y/\env 3=gi l/\env 4= .fn S.f []/\env 10= .bool wb/\env 11= .bool wp/\env 12=gi h/\U=U'/\12<h) (fun Yq hY=>by
    by_cases h12:h<=12
    ·have c0:decide ((h:Int)<=12)=true:=by simp;omega
     simp +contextual (disch:=omega) only[go_sem,e0,e1,e2,e3,e4,e8,e9,e10,c0]
     obtain⟨U1,R,H1⟩:=ins_ret S hH (a:=x) (b:=y) hxy (by omega) (by omega)
     refine Ai R ?_
     simp +contextual (disch:=omega) only[go_sem]
     obtain⟨p1,p2⟩:=insertionSort_holds hS D x y hxy (by omega)
     have:=R.2.1
     exact⟨_,rfl,by omega,_,rfl,H1,hfin _ p1 p2⟩
    ·have c0:decide ((h:Int)<=12)=false:=by simp;omega
     simp +contextual (disch:=omega) only[go_sem,e0,e1,e2,e3,e4,e8,e9,e10,c0]
     refine hY _ _ ⟨?_,?_,?_,?_,?_,?_,?_,?_,rfl,by omega⟩
     all_goals simp +contextual (disch:=omega) only[go_sem,e0,e1,e2,e3,e4,e8,e9,e10]) ?_
   clear e0 e1 e2 e3 e4 e8 e9 e10
   rintro env U' ⟨e0,e1,e2,e3,e4,e8,e9,e10,rfl,h12⟩
   refine Dd (fun env U'=>env 0=v/\env 1=gi x/\env 2=gi y/\env 3=gi l/\env 4= .fn S.f []/\env 10= .bool wb/\env 11= .bool wp/\env 12=gi h/\U=U'/\0<l) (fun Yq hY=>by
    by_cases h0:l=0
    ·have c0:((l:Int)==0)=true:=by simp[h0]
     simp +contextual (disch:=omega) only[go_sem,e0,e1,e2,e3,e4,e8,e9,e10,c0]
     obtain⟨U1,R,H1⟩:=heap_ret S hH (a:=x) (b:=y) hxy (by omega) (by omega)
     refine Ai R ?_
     simp +contextual (disch:=omega) only[go_sem]
     obtain⟨p1,p2⟩:=heapSort_holds hS D x y hxy (by omega)
     have:=R.2.1
     exact⟨_,rfl,by omega,_,rfl,H1,hfin _ p1 p2⟩
    ·have c0:((l:Int)==0)=false:=by simp;omega
     simp +contextual (disch:=omega) only[go_sem,e0,e1,e2,e3,e4,e8,e9,e10,c0]
     refine hY _ _ ⟨?_,?_,?_,?_,?_,?_,?_,?_,rfl,by omega⟩
     all_goals simp +contextual (disch:=omega) only[go_sem,e0,e1,e2,e3,e4,e8,e9,e10]) ?_
   clear e0 e1 e2 e3 e4 e8 e9 e10
   rintro env U' ⟨e0,e1,e2,e3,e4,e8,e9,e10,rfl,h0⟩
   refine Dd (fun env U'=>∃(l':Nat) (E:Array Y),env 0=v/\env 1=gi x/\env 2=gi y/\env 3=gi l'/\env 4= .fn S.f []/\env 10= .bool wb/\env 11= .bool wp/\env 12=gi h/\l'<=l/\U.length<=U'.length/\Holds S.e N0 U' rs k v E/\PermIn x y D E) (fun Yq hY=>by
    cases hwb:wb with
    |true=>
     rw[hwb] at e8
     simp +contextual (disch:=omega) only[go_sem,e0,e1,e2,e3,e4,e8,e9,e10]
     refine hY _ _ ⟨l,D,?_,?_,?_,?_,?_,?_,?_,?_,Zaa _,Zaa _,hH,permIn_refl _ _ _⟩
     all_goals simp +contextual (disch:=omega) only[go_sem,e0,e1,e2,e3,e4,e8,e9,e10,hwb]
    |false=>
     rw[hwb] at e8
     simp +contextual (disch:=omega) only[go_sem,e0,e1,e2,e3,e4,e8,e9,e10]
     obtain⟨E,U1,R,H1,p1⟩:=break_ret S hH (a:=x) (b:=y) hxy (by omega) (by omega)
     refine Ai R ?_
     have l1:(l:Int) - 1=((l - 1:Nat):Int):=by omega
     simp +contextual (disch:=omega) only[go_sem,e0,e1,e2,e3,e4,e8,e9,e10]
     refine hY _ _ ⟨l - 1,E,?_,?_,?_,?_,?_,?_,?_,?_,by omega,R.2.1,H1,p1⟩
     all_goals simp +contextual (disch:=omega) only[go_sem,e0,e1,e2,e3,e4,e8,e9,e10,l1,hwb]) ?_
   clear e0 e1 e2 e3 e4 e8 e9 e10
   rintro env U1 ⟨l1,D1,e0,e1,e2,e3,e4,e8,e9,e10,hl1,hle1,hH1,hP1⟩
   have hD1:D1.size=D.size:=hP1.1
   refine Dd (fun env U'=>∃(p q:Nat),env 0=v/\env 1=gi x/\env 2=gi y/\env 3=gi l1/\env 4= .fn S.f []/\env 10= .bool wb/\env 11= .bool wp/\env 12=gi h/\env 13=gi p/\env 14=gi q/\U1.length<=U'.length/\Holds S.e N0 U' rs k v D1/\x<=p/\p<y/\q<=2) (fun Yq hY=>by
    simp +contextual (disch:=omega) only[go_sem,e0,e1,e2,e3,e4,e8,e9,e10]
    obtain⟨p,q,U2,R,H2,g1,g2,g3⟩:=choose_ret S hH1 (a:=x) (b:=y) (by omega) (by omega) (by omega)
    refine Ai R ?_
    simp +contextual (disch:=omega) only[go_sem,e0,e1,e2,e3,e4,e8,e9,e10]
    refine hY _ _ ⟨p,q,?_,?_,?_,?_,?_,?_,?_,?_,?_,?_,R.2.1,H2,g1,g2,g3⟩
    all_goals simp +contextual (disch:=omega) only[go_sem,e0,e1,e2,e3,e4,e8,e9,e10]) ?_
   clear e0 e1 e2 e3 e4 e8 e9 e10 hH hH1
   rintro env U2 ⟨p0,q0,e0,e1,e2,e3,e4,e8,e9,e10,e11,e12,hle2,hH2,g1,g2,g3⟩
   refine Dd (fun env U'=>∃(p q:Nat) (E:Array Y),env 0=v/\env 1=gi x/\env 2=gi y/\env 3=gi l1/\env 4= .fn S.f []/\env 10= .bool wb/\env 11= .bool wp/\env 12=gi h/\env 13=gi p/\env 14=gi q/\U2.length<=U'.length/\Holds S.e N0 U' rs k v E/\x<=p/\p<y/\PermIn x y D1 E) (fun Yq hY=>by
    by_cases hq:q0=2
    ·have c0:((q0:Int)==2)=true:=by simp[hq]
     simp +contextual (disch:=omega) only[go_sem,e0,e1,e2,e3,e4,e8,e9,e10,e11,e12,c0]
     obtain⟨U3,R,H3⟩:=rev_ret S hH2 (a:=x) (b:=y) (by omega) (by omega) (by omega)
     refine Ai R ?_
     have r1:(y:Int) - 1 - ((p0:Int) - x)=((y - 1 - (p0 - x):Nat):Int):=by omega
     simp +contextual (disch:=omega) only[go_sem,e0,e1,e2,e3,e4,e8,e9,e10,e11,e12,r1]
     refine hY _ _ ⟨y - 1 - (p0 - x),1,_,?_,?_,?_,?_,?_,?_,?_,?_,?_,?_,R.2.1,H3,by omega,by omega,reverseRange_holds D1 x y hxy (by omega)⟩
     all_goals simp +contextual (disch:=omega) only[go_sem,e0,e1,e2,e3,e4,e8,e9,e10,e11,Int.natCast_one]
    ·have c0:((q0:Int)==2)=false:=by simp;omega
     simp +contextual (disch:=omega) only[go_sem,e0,e1,e2,e3,e4,e8,e9,e10,e11,e12,c0]
     refine hY _ _ ⟨p0,q0,D1,?_,?_,?_,?_,?_,?_,?_,?_,?_,?_,Zaa _,hH2,g1,g2,permIn_refl _ _ _⟩
     all_goals simp +contextual (disch:=omega) only[go_sem,e0,e1,e2,e3,e4,e8,e9,e10,e11,e12]) ?_
   clear e0 e1 e2 e3 e4 e8 e9 e10 e11 e12 hH2 g1 g2 g3
   rintro env U3 ⟨p,q,D2,e0,e1,e2,e3,e4,e8,e9,e10,e11,e12,hle3,hH3,g1,g2,hP2⟩
   have hD2:D2.size=D1.size:=hP2.1
   have hP02:=permIn_trans _ _ _ _ _ hP1 hP2
   have B2:Below lt x y D2:=hB.perm (by omega) hP02
   refine Dd (fun env U'=>∃(E:Array Y),env 0=v/\env 1=gi x/\env 2=gi y/\env 3=gi l1/\env 4= .fn S.f []/\env 10= .bool wb/\env 11= .bool wp/\env 12=gi h/\env 13=gi p/\U3.length<=U'.length/\Holds S.e N0 U' rs k v E/\PermIn x y D2 E) (fun Yq hY=>by
    have stay:∀ env',env' 0=v->env' 1=gi x->env' 2=gi y->env' 3=gi l1->env' 4= .fn S.f []->env' 10= .bool wb->env' 11= .bool wp->env' 12=gi h->env' 13=gi p->Yq env' U3:=fun env' a0 a1 a2 a3 a4 a8 a9 a10 a11=>hY _ _ ⟨D2,a0,a1,a2,a3,a4,a8,a9,a10,a11,Zaa _,hH3,permIn_refl _ _ _⟩
    cases hwb:wb with
    |false=>
     rw[hwb] at e8
     simp +contextual (disch:=omega) only[go_sem,e0,e1,e2,e3,e4,e8,e9,e10,e11,e12]
     refine stay _ ?_ ?_ ?_ ?_ ?_ ?_ ?_ ?_ ?_
     all_goals simp +contextual (disch:=omega) only[go_sem,e0,e1,e2,e3,e4,e8,e9,e10,e11,e12,hwb]
    |true=>
     rw[hwb] at e8
     cases hwp:wp with
     |false=>
      rw[hwp] at e9
      simp +contextual (disch:=omega) only[go_sem,e0,e1,e2,e3,e4,e8,e9,e10,e11,e12]
      refine stay _ ?_ ?_ ?_ ?_ ?_ ?_ ?_ ?_ ?_
      all_goals simp +contextual (disch:=omega) only[go_sem,e0,e1,e2,e3,e4,e8,e9,e10,e11,e12,hwb,hwp]
     |true=>
      rw[hwp] at e9
      by_cases hq:q=1
      ·have c0:((q:Int)==1)=true:=by simp[hq]
       simp +contextual (disch:=omega) only[go_sem,e0,e1,e2,e3,e4,e8,e9,e10,e11,e12,c0]
       obtain⟨U4,R,H4⟩:=pis_ret S hH3 (a:=x) (b:=y) (by omega) (by omega) (by omega)
       obtain⟨p1,p2⟩:=partialInsertionSort_holds hS D2 x y (by omega) (by omega) B2
       have:=R.2.1
       refine Ai R ?_
       cases hr:(partialInsertionSort lt D2 x y).2 with
       |true=>
        simp +contextual (disch:=omega) only[go_sem]
        exact⟨_,rfl,by omega,_,rfl,H4,hfin _ (permIn_trans _ _ _ _ _ hP02 p1) (p2 hr)⟩
       |false=>
        simp +contextual (disch:=omega) only[go_sem,e0,e1,e2,e3,e4,e8,e9,e10,e11,e12]
        refine hY _ _ ⟨_,?_,?_,?_,?_,?_,?_,?_,?_,?_,R.2.1,H4,p1⟩
        all_goals simp +contextual (disch:=omega) only[go_sem,e0,e1,e2,e3,e4,e8,e9,e10,e11,e12,hwb,hwp]
      ·have c0:((q:Int)==1)=false:=by simp;omega
       simp +contextual (disch:=omega) only[go_sem,e0,e1,e2,e3,e4,e8,e9,e10,e11,e12,c0]
       refine stay _ ?_ ?_ ?_ ?_ ?_ ?_ ?_ ?_ ?_
       all_goals simp +contextual (disch:=omega) only[go_sem,e0,e1,e2,e3,e4,e8,e9,e10,e11,e12,hwb,hwp]) ?_
   clear e0 e1 e2 e3 e4 e8 e9 e10 e11 e12 hH3
   rintro env U4 ⟨D3,e0,e1,e2,e3,e4,e8,e9,e10,e11,hle4,hH4,hP3⟩
   have hD3:D3.size=D2.size:=hP3.1
   have hP03:=permIn_trans _ _ _ _ _ hP02 hP3
   have B3:Below lt x y D3:=B2.perm (by omega) hP3
   refine Dd (fun env U'=>env 0=v/\env 1=gi x/\env 2=gi y/\env 3=gi l1/\env 4= .fn S.f []/\env 10= .bool wb/\env 11= .bool wp/\env 12=gi h/\env 13=gi p/\U4=U') (fun Yq hY=>by
    rcases Zbe x with hx|hx
    ·have c0:decide ((0:Int)<x)=false:=by simp;omega
     simp +contextual (disch:=omega) only[go_sem,e0,e1,e2,e3,e4,e8,e9,e10,e11,c0]
     refine hY _ _ ⟨?_,?_,?_,?_,?_,?_,?_,?_,?_,rfl⟩
     all_goals simp +contextual (disch:=omega) only[go_sem,e0,e1,e2,e3,e4,e8,e9,e10,e11]
    ·have c0:decide ((0:Int)<x)=true:=by simp;omega
     have x1:(x:Int) - 1=((x - 1:Nat):Int):=by omega
     simp +contextual (disch:=omega) only[go_sem,e0,e1,e2,e3,e4,e8,e9,e10,e11,c0,x1,A1,hH4.iad (j:=x - 1) (by omega),hH4.ld (j:=x - 1) (by omega),hH4.iad (j:=p) (by omega),hH4.ld (j:=p) (by omega)]
     refine A6 (S.call _ _ _) ?_
     cases hlt:lt D3[x - 1]! D3[p]! with
     |true=>
      simp +contextual (disch:=omega) only[go_sem,e0,e1,e2,e3,e4,e8,e9,e10,e11,c0,hlt,S.klt]
      refine hY _ _ ⟨?_,?_,?_,?_,?_,?_,?_,?_,?_,rfl⟩
      all_goals simp +contextual (disch:=omega) only[go_sem,e0,e1,e2,e3,e4,e8,e9,e10,e11]
     |false=>
      simp +contextual (disch:=omega) only[go_sem,e0,e1,e2,e3,e4,e8,e9,e10,e11,c0,hlt,S.klt]
      obtain⟨U5,R,H5⟩:=pe_ret S hH4 (a:=x) (b:=y) (p:=p) (by omega) g2 (by omega) (by omega)
      have:=R.2.1
      refine Ai R ?_
      obtain⟨mid,D4,hX⟩:∃ m D4,partitionEqual lt D3 x y p=(m,D4):=⟨_,_,rfl⟩
      rw[hX] at H5
      rw[hX]
      obtain⟨k1,k2,k3,k4,k5⟩:=round_eq hS (partitionEqual_holds lt) hx g1 g2 (by omega) B3 hlt hX
      simp +contextual (disch:=omega) only[go_sem,e0,e1,e2,e3,e4,e8,e9,e10,e11]
      refine⟨y - mid,by omega,hJ _ _ _ ⟨mid,y,l1,wb,wp,D4,?_,?_,?_,?_,?_,?_,?_,rfl,by omega,by omega,k2,hyb,by omega,by omega,H5,k4,fun R h1 h2=> ?_⟩⟩
      all_goals first|(simp +contextual (disch:=omega) only[go_sem,e0,e1,e2,e3,e4,e8,e9,e10,e11];done)|skip
      obtain⟨m1,m2⟩:=k5 R h1 h2
      exact hfin R (permIn_trans _ _ _ _ _ hP03 m1) m2) ?_
   clear e0 e1 e2 e3 e4 e8 e9 e10 e11
   rintro env U' ⟨e0,e1,e2,e3,e4,e8,e9,e10,e11,rfl⟩
   obtain⟨U5,R5,H5⟩:=part_ret S hH4 (a:=x) (b:=y) (p:=p) (by omega) g2 (by omega) (by omega)
   have hle5:=R5.2.1
   obtain⟨mid,ap,D4,hX⟩:∃ m ap D4,partition lt D3 x y p=(m,ap,D4):=⟨_,_,_,rfl⟩
   rw[hX] at H5 R5
   obtain⟨k1,k2,k3,k4,k5,k6,k7⟩:=round_part hS (partition_holds lt) g1 g2 (by omega) B3 hX
   simp +contextual (disch:=omega) only[go_sem,e0,e1,e2,e3,e4,e8,e9,e10,e11]
   refine Ai R5 ?_
   obtain⟨q8,hq8⟩:∃ q,q=h / 8:=⟨_,rfl⟩
   have hqI:(h:Int).tdiv 8=q8:=by rw[hq8];rfl
   have m1:(mid:Int) - x=((mid - x:Nat):Int):=by omega
   have m2:(y:Int) - mid=((y - mid:Nat):Int):=by omega
   by_cases hlr:mid - x<y - mid
   ·have c0:decide (((mid - x:Nat):Int)<((y - mid:Nat):Int))=true:=by simp;omega
    simp +contextual (disch:=omega) only[go_sem,e0,e1,e2,e3,e4,e8,e9,e10,e11,hqI,m1,m2,c0]
    obtain⟨L,U6,R6,H6,p1,p2⟩:=ih D4 x mid l1 U5 (by omega) k1 (by omega) (by omega) (by omega) k4 H5
    have hle6:=R6.2.1
    refine Ai R6 ?_
    obtain⟨k8,k9⟩:=k6 L p1 p2
    have hL:L.size=D4.size:=p1.1
    simp +contextual (disch:=omega) only[go_sem,e0,e1,e2,e3,e4,e8,e9,e10,e11]
    refine⟨y - (mid+1),by omega,hJ _ _ _ ⟨mid+1,y,l1,decide ((q8:Int)<=((mid - x:Nat):Int)),ap,L,?_,?_,?_,?_,?_,?_,?_,rfl,by omega,by omega,by omega,hyb,by omega,by omega,H6,k8,fun R h1 h2=> ?_⟩⟩
    all_goals first|(simp +contextual (disch:=omega) only[go_sem,e0,e1,e2,e3,e4,e8,e9,e10,e11];done)|skip
    obtain⟨n1,n2⟩:=k9 R h1 h2
    exact hfin R (permIn_trans _ _ _ _ _ hP03 n1) n2
   ·have c0:decide (((mid - x:Nat):Int)<((y - mid:Nat):Int))=false:=by simp;omega
    simp +contextual (disch:=omega) only[go_sem,e0,e1,e2,e3,e4,e8,e9,e10,e11,hqI,m1,m2,c0]
    obtain⟨L,U6,R6,H6,p1,p2⟩:=ih D4 (mid+1) y l1 U5 (by omega) (by omega) (by omega) (by omega) (by omega) k5 H5
    have hle6:=R6.2.1
    refine Ai R6 ?_
    obtain⟨k8,k9⟩:=k7 L p1 p2
    have hL:L.size=D4.size:=p1.1
    simp +contextual (disch:=omega) only[go_sem,e0,e1,e2,e3,e4,e8,e9,e10,e11]
    refine⟨mid - x,by omega,hJ _ _ _ ⟨x,mid,l1,decide ((q8:Int)<=((y - mid:Nat):Int)),ap,L,?_,?_,?_,?_,?_,?_,?_,rfl,by omega,by omega,by omega,by omega,by omega,by omega,H6,k8,fun R h1 h2=> ?_⟩⟩
    all_goals first|(simp +contextual (disch:=omega) only[go_sem,e0,e1,e2,e3,e4,e8,e9,e10,e11];done)|skip
    obtain⟨n1,n2⟩:=k9 R h1 h2
    exact hfin R (permIn_trans _ _ _ _ _ hP03 n1) n2
  obtain⟨r,U,R,d',rfl,h⟩:=key
  exact⟨d',U,R,h⟩
end C
namespace C
open Go Go.RowKit Go.Proofs.YtnknigikcdgebaaGreatDoor.Sy Go.Sort
variable {Y:Type} [Inhabited Y] {lt:Y->Y->Bool} {N0 N:St} {rs:List Thg} {v:GV}
theorem sorted_of {d d':Array Y} (h:PermIn 0 d.size d d') (h4:SortedIn lt 0 d.size d'):d'.toList.Perm d.toList/\Up lt d'.toList:=by
 obtain⟨h1,h2,h3⟩:=h
 constructor
 ·have e1:d'.extract 0 d.size=d':=by rw[<- h1];simp
  have e2:d.extract 0 d.size=d:=by simp
  rw[e1,e2] at h3
  exact h3
 ·rw[Up,List.pairwise_iff_getElem]
  intro i j hi hj hij
  simp only[Array.length_toList] at hi hj
  have:=h4 i j (Nat.zero_le _) hij (by omega)
  rw[getElem!_pos d' j hj,getElem!_pos d' i hi] at this
  simpa using this
theorem sort_ret (S:SrtC Y lt) (hS:SWO lt) {l:List Y} (H:Hp N0 N rs) (k:Nat) (hk:rs[k]? =some (ow S.e.p.kd v l)) (hl:l.length<=1099511627776) (htri:∀ x∈l,∀ y∈l,lt x y=false->lt y x=false->x=y):∃ U,Ret Tryz.prog S.nS [v,.fn S.f []] N (.tup []) U/\Hp N0 U (rs.set k (ow S.e.p.kd v (Bh lt l))):=by
 have key:∃ r U,Ret Tryz.prog S.nS [v,.fn S.f []] N r U/\r= .tup []/\Hp N0 U (rs.set k (ow S.e.p.kd v (Bh lt l))):=by
  refine Ap S.h_Sort (Z0z rfl) ?_
  have hlen:=(H.sl k hk).len
  have wu:IntKind.u64.wrap (l.length:Int)=l.length:=Iu (by omega) (by omega)
  simp +contextual (disch:=omega) only[go_sem,Aay,hlen,wu]
  refine A6 (Lx N l.length hl) ?_
  simp +contextual (disch:=omega) only[go_sem]
  have HH:Holds S.e N0 N rs k v l.toArray:=Holds.of H (by simpa using hk)
  have hb:=A95 hl
  obtain⟨d',U,R,H1,p1,p2⟩:=pdq_ret S hS l.length l.toArray 0 l.length (bitsLen l.length) N (by omega) (by omega) (by simp) (by simpa using hl) (by omega) (.inl rfl) HH
  have hz:((0:Nat):Int)=0:=rfl
  rw[hz] at R
  refine Ai R ?_
  simp +contextual (disch:=omega) only[go_sem]
  have hsz:l.length=l.toArray.size:=by simp
  rw[hsz] at p1 p2
  obtain⟨q1,q2⟩:=sorted_of p1 p2
  have hE:d'.toList=Bh lt l:=Vc hS htri (by simpa using q1) q2
  exact⟨_,rfl,R.2.1,rfl,by rw[<- hE];exact H1.2⟩
 obtain⟨r,U,R,rfl,h⟩:=key
 exact⟨U,R,h⟩
end C
def J6:Fn1:=⟨17,[.t 4],(rg [oX 2 0,oX 3 1,oV 4 (ki 0)] (dw [oF 5 3 3,oL 6 5,oF 7 3 2,oL 8 7,oD 9 296 6 8,oF 10 1 3,oW 11 2 10,oF 12 1 2,oW 13 2 12] [oD 14 263 11 13,o 15 (.lit 1 2 [z0,z0] [(0,1,(.t 9)),(1,1,(.t 14))]),oC 16 294 15,oM 4 16] .ret))⟩
theorem Pr:A4 Tryz.prog 291=some J6:=by kernel_rfl
instance:Inhabited Cell:=⟨{obj:=.empty,dot:=⟨0,0⟩,time:=0,ref:=⟨0,0⟩,val:=0,gone:=false}⟩
def Ae4:El Cell:=⟨Aj,true,fun x=>.agg (Aj.enc x),fun _=>rfl,fun _=>rfl,by decide⟩
def Ps (a b:Cell):Int:=orI (cmpI b.time a.time) (Tq b.dot a.dot)
theorem Ac3 (a b:Cell):decide (Ps a b<0)=Du a b:=by
 have key:Ps a b<0↔Du a b=true:=by
  have h:Tq b.dot a.dot<0↔Ck b.dot a.dot=true:=by
   have h:= @A5h b.dot a.dot
   rw[<- h];simp
  have h1:= @Aaq b.time a.time
  have h2:= @Ah6 b.time a.time
  simp only[Du,Zat,Zaj,decide_eq_true_eq]
  unfold Ps orI
  by_cases hz:cmpI b.time a.time=0
  ·rw[if_pos hz,h]
   have:=h2.1 hz
   constructor
   ·intro h5;exact .inr ⟨this.symm,h5⟩
   ·rintro(h5|h5)
    ·omega
    ·exact h5.2
  ·rw[if_neg hz,h1]
   have:¬ b.time=a.time:=fun e=>hz (h2.2 e)
   constructor
   ·intro h5;exact .inl h5
   ·rintro(h5|h5)
    ·exact h5
    ·exact absurd h5.1.symm this
 rw[Bool.eq_iff_iff,decide_eq_true_eq]
 exact key
theorem O6 (N:St) (a b:Cell):Ret Tryz.prog 291 [Ae4.val a,Ae4.val b] N (gi (Ps a b)) N:=by
 show Ret Tryz.prog 291 [.agg (Aj.enc a),.agg (Aj.enc b)] N (gi (Ps a b)) N
 simp only[Aak]
 refine Ab Pr (Z0z rfl) trivial ?_
 simp +contextual (disch:=omega) only[go_sem,J6]
 refine A6 (Ca _ _ _) ?_
 simp +contextual (disch:=omega) only[go_sem]
 refine A6 (D6 _ _ _) ?_
 simp +contextual (disch:=omega) only[go_sem]
 refine A6 (Hk _ _ [cmpI b.time a.time,Tq b.dot a.dot] (Adj (p:=pI) _ _ rfl rfl rfl) (by simp)) ?_
 simp +contextual (disch:=omega) only[go_sem,A8s]
 rfl
def qCell:SN:=⟨326,339,327,330,331,332,333,328,344,341,340,329,316,0,311,312⟩
def Ahh:SrtC Cell Du where
 e:=Ae4
 q:=qCell
 f:=291
 k:=Ps
 call:=O6
 klt:=Ac3
 h_insertionSort:=by kernel_rfl
 h_siftDown:=by kernel_rfl
 h_heapSort:=by kernel_rfl
 h_reverseRange:=by kernel_rfl
 h_partialInsertionSort:=by kernel_rfl
 h_partitionEqual:=by kernel_rfl
 h_partition:=by kernel_rfl
 h_breakPatterns:=by kernel_rfl
 h_order2:=by kernel_rfl
 h_median:=by kernel_rfl
 h_medianAdjacent:=by kernel_rfl
 h_choosePivot:=by kernel_rfl
 h_pdqsort:=by kernel_rfl
 nS:=290
 h_Sort:=by kernel_rfl
 hnp:=rfl
 hxs:=rfl
theorem Ic {N0 N:St} {rs:List Thg} {v:GV} {l:List Cell} (H:Hp N0 N rs) (k:Nat) (hk:rs[k]? =some (ow Aj.kd v l)) (hl:l.length<=1099511627776) (hn:(l.map (·.dot)).Nodup):∃ U,Ret Tryz.prog 290 [v,.fn 291 []] N (.tup []) U/\Hp N0 U (rs.set k (ow Aj.kd v (Bh Du l))):=
 C.sort_ret Ahh Vd H k hk hl fun x hx y hy h1 h2=>Ve hn hx hy (A5o h1 h2)
end Go.Proofs.YtnknigikcdgebaaGreatDoor.Sy
