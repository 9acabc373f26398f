/- Texts of this proof, one behind the other. -/
import Derived.Test.YtnknigikcdgebaaGreatDoorBTa3
import Derived.Test.YtnknigikcdgebaaGreatDoorProg
import Derived.KernelRfl
set_option linter.unusedSimpArgs false
set_option linter.unusedVariables false
set_option maxRecDepth 4000
set_option maxHeartbeats 4000000
open List renaming cons_append→Zaa,nil_append→Zab,append_nil→Zac,prefix_refl→Zad,take_length→Zae,length_map→Zaf,getElem_mem→Zag,length_append→Zah,take_succ_eq_append_getElem→Zai,length_filter_le→Zaj,length_cons→Zak,length_take→Zal,length_nil→Zao,set_cons_zero→Zaq,set_cons_succ→Zar,getElem_of_mem→Zas,map_cons→Zat,map_append→Zaw,mem_map→Zay,getElem?_eq_some_iff→Za1,map_nil→Za4,mem_filter→Za5,mem_cons_of_mem→Za6,mem_of_mem_take→Za7,mem_cons_self→Zba,all_eq_false→Zbc,all_eq_true→Zbd,length→Zbe
open Bool renaming false_bne→Zam,not_false→Zan,and_eq_true→Zap,not_true→Za0,true_bne→Za2,false_xor→Za9,and_true→Zbg
open Nat renaming le_trans→Zau,mul_le_mul→Zax,mul_le_mul_right→Zaz,lt_or_ge→Za3,eq_zero_or_pos→Zbb
open Int renaming tmod_lt_of_pos→Zav,ofNat_zero→Za8,tmod_nonneg→Zbf
namespace Go.Proofs.YtnknigikcdgebaaGreatDoor.Sy
open Go Go.RowKit
def A2f:Fn1:=⟨33,[.t 4],(rg [oX 2 0,oV 4 (ki 0)] (rg [oV 5 (ki 0)] (.seq (rg [oV 6 (ki 0)] (oH 0 (.seq (rg [oM 7 6,oF 8 1 2,oL 9 8,oN 10 9,oB 11 .lss 7 10] (oJ 11 0)) (.seq (.blk 1 (rg [oF 14 1 2,oL 15 14,oM 16 6,oI 17 3 15 16,oF 18 0 17,oL 19 18,oM 20 1,oB 21 .eql 19 20] (oG 21 (.reg [oM 22 5,oF 23 1 2,oL 24 23,oM 25 6,oI 26 3 24 25,oF 27 2 26,oL 28 27,oE 29 .rem 28 1000000,oB 30 .add 22 29,oE 31 .rem 30 1000000,oM 5 31])))) (.reg [oM 12 6,oZ 13 12 1,oM 6 13]))))) (rg [oM 32 5,oM 4 32] .ret))))⟩
theorem Ac1:A6 Tryz.prog 131=some A2f:=by kernel_rfl
def A2h:Fn1:=⟨27,[.t 4],(rg [oX 2 0,oV 4 (ki 0)] (rg [oV 5 (ki 0)] (.seq (rg [oF 8 1 2,oL 9 8,oN 10 9,oV 11 (ki 0)] (oH 0 (rg [oB 12 .lss 11 10] (.seq (oJ 12 0) (.seq (.blk 1 (rg [oI 13 3 9 11,oW 14 3 13,o 7 (.new [s0,z0,z0]),oS 3 7 14] (rg [oF 15 0 7,oL 16 15,oM 17 1,oB 18 .eql 16 17] (oG 18 (.reg [oM 19 5,oF 20 2 7,oL 21 20,oE 22 .rem 21 1000000,oB 23 .add 19 22,oE 24 .rem 23 1000000,oM 5 24]))))) (.reg [oZ 25 11 1,oM 11 25])))))) (rg [oM 26 5,oM 4 26] .ret))))⟩
theorem Ac2:A6 Tryz.prog 103=some A2h:=by kernel_rfl
def A6o:Fn1:=⟨50,[.t 4],(rg [o 4 (.mov (.k .nilS))] (rg [o 8 (.lit 1 0 [] []),oM 5 8] (rg [oV 6 kf] (.seq (rg [oV 7 (ki 0)] (oH 0 (.seq (rg [oM 9 7,oM 10 0,oN 11 10,oB 12 .lss 9 11] (oJ 12 0)) (.seq (.blk 1 (.seq (rg [oM 15 0,oM 16 7,oI 17 1 15 16,oL 18 17,oM 19 1,oB 20 .eql 18 19] (oG 20 (rg [oM 21 0,oM 4 21] .ret))) (.seq (rg [oM 22 6,oU 23 22,oM 24 23,jM 25 24 0,jM 26 24 7,jI 27 24 1 25 26,jL 28 24 27,jM 29 24 1,jB 30 24 .gtr 28 29,oQ 31 24 30] (oG 31 (rg [oM 32 5,oM 33 1,o 34 (.lit 1 1 [s0] [(0,1,(.t 33))]),o 35 (.app 1 16 [s0] (.t 32) (.t 34)),oM 5 35] (.reg [oV 6 kt])))) (.reg [oM 36 5,oM 37 0,oM 38 7,oI 39 1 37 38,oL 40 39,o 41 (.lit 1 1 [s0] [(0,1,(.t 40))]),o 42 (.app 1 16 [s0] (.t 36) (.t 41)),oM 5 42])))) (.reg [oM 13 7,oZ 14 13 1,oM 7 14]))))) (.seq (rg [oM 43 6,oU 44 43] (oG 44 (.reg [oM 45 5,oM 46 1,o 47 (.lit 1 1 [s0] [(0,1,(.t 46))]),o 48 (.app 1 16 [s0] (.t 45) (.t 47)),oM 5 48]))) (rg [oM 49 5,oM 4 49] .ret))))))⟩
theorem Af7:A6 Tryz.prog 236=some A6o:=by kernel_rfl
theorem Ak5 (x:Int): -1000000<x.tmod 1000000/\x.tmod 1000000<1000000:=by
 have h1:=Zav x (b:=1000000) (by decide)
 have h2:=Zav (-x) (b:=1000000) (by decide)
 rw[Int.neg_tmod] at h2
 omega
theorem A6p {l:List Tally} {o:ByteArray} {i:Nat} (hi:i<l.length):(l.take (i+1)).foldl (Ip o) 0=if l[i].obj=o then addM ((l.take i).foldl (Ip o) 0) (l[i].sum.tmod 1000000) else(l.take i).foldl (Ip o) 0:=by
 rw[Zai hi,Aez];rfl
theorem Hl (U:St) (cs:List GV) (s:State) (hR:A4.R U s cs) (o:ByteArray) (hl:Aa s<=1099511627776):Ret Tryz.prog 131 [.agg cs,.str o] U (gi (Az s o)) U:=by
 obtain⟨a,b,c,v,rfl,_,hb,_,_⟩:=hR
 obtain⟨l1,l2,l3,l4,_⟩:=Aq hl
 refine Ae Ac1 (Z0z rfl) trivial ?_
 simp +contextual (disch:=omega) only[go_sem,A2f]
 have hB:rdB (U++[some (Blk.row 1 [a,b,c,v])]) U.length=some [a,b,c,v]:=M4 (Zad _)
 generalize hn1:U.length=n1 at*
 refine F9 s.tallies.length 6 0 (fun i env N=>env 1= .str o/\env 2= .ptr n1 0/\env 5=gi ((s.tallies.take i).foldl (Ip o) 0)/\U++[some (Blk.row 1 [a,b,c,v])] <+: N) (fun env N=>env 5=gi (Az s o)/\U++[some (Blk.row 1 [a,b,c,v])] <+: N) rfl ⟨rfl,rfl,rfl,Zad _⟩ ?_ ?_ ?_
 ·rintro J Yq hJ hY i env N hi e6 c0 ⟨e1,e2,e5,hp⟩
  have T:=Ad (hb.pre ((pre1 _ _).trans hp)) hi
  have hln:=(hb.pre ((pre1 _ _).trans hp)).len
  have hbd:=A23 (l:=s.tallies.take i) (o:=o) (n:=0) (by decide)
  have htm:=Ak5 s.tallies[i].sum
  have hst:=A6p (o:=o) hi
  generalize(s.tallies.take i).foldl (Ip o) 0=n at*
  cases ho:decide (s.tallies[i].obj=o) with
  |false=>
   have ho2:¬ s.tallies[i].obj=o:=by simpa using ho
   rw[if_neg ho2] at hst
   simp +contextual (disch:=omega) only[go_sem,c0,e1,e2,e5,e6,A3 (Aj hp hB),T,hln,ho]
   refine hJ _ _ _ ⟨?_,?_,?_,hp⟩
   all_goals simp +contextual (disch:=omega) only[go_sem,e1,e2,e5,hst]
  |true=>
   have ho2:s.tallies[i].obj=o:=by simpa using ho
   rw[if_pos ho2] at hst
   have w1:IntKind.i64.wrap (n+s.tallies[i].sum.tmod 1000000)=n+s.tallies[i].sum.tmod 1000000:=Bi (by omega) (by omega)
   simp +contextual (disch:=omega) only[go_sem,c0,e1,e2,e5,e6,A3 (Aj hp hB),T,hln,ho,w1]
   refine hJ _ _ _ ⟨?_,?_,?_,hp⟩
   all_goals simp +contextual (disch:=omega) only[go_sem,e1,e2,e5,hst,addM]
 ·rintro Yq hY env N e6 c0 ⟨e1,e2,e5,hp⟩
  rw[Zae] at e5
  have hln:=(hb.pre ((pre1 _ _).trans hp)).len
  simp +contextual (disch:=omega) only[go_sem,c0,e1,e2,e5,e6,A3 (Aj hp hB),hln]
  refine hY _ _ ⟨?_,hp⟩
  simp +contextual (disch:=omega) only[go_sem,e5,Az]
 ·rintro env N ⟨e5,hp⟩
  simp +contextual (disch:=omega) only[go_sem,e5]
  exact(pre1 _ _).trans hp
theorem Hm (U:St) (cs:List GV) (s:State) (hR:A4.R U s cs) (o:ByteArray) (hl:Aa s<=1099511627776):Ret Tryz.prog 103 [.agg cs,.str o] U (gi (Az s o)) U:=by
 obtain⟨a,b,c,v,rfl,_,hb,_,_⟩:=hR
 obtain⟨l1,l2,l3,l4,_⟩:=Aq hl
 refine Ae Ac2 (Z0z rfl) trivial ?_
 simp +contextual (disch:=omega) only[go_sem,A2h,hb.len]
 refine F9 s.tallies.length 11 0 (fun i env N=>env 1= .str o/\env 9=b/\env 10=gi s.tallies.length/\env 5=gi ((s.tallies.take i).foldl (Ip o) 0)/\U <+: N) (fun env N=>env 5=gi (Az s o)/\U <+: N) rfl ⟨rfl,rfl,rfl,rfl,pre1 _ _⟩ ?_ ?_ ?_
 ·rintro J Yq hJ hY i env N hi e11 c0 ⟨e1,e9,e10,e5,hp⟩
  have T:=Ad (hb.pre hp) hi
  have hp2:=A0 hp [some (Blk.row 1 [.str s.tallies[i].obj,gi s.tallies[i].rep,gi s.tallies[i].sum])]
  have hbd:=A23 (l:=s.tallies.take i) (o:=o) (n:=0) (by decide)
  have htm:=Ak5 s.tallies[i].sum
  have hst:=A6p (o:=o) hi
  generalize(s.tallies.take i).foldl (Ip o) 0=n at*
  cases ho:decide (s.tallies[i].obj=o) with
  |false=>
   have ho2:¬ s.tallies[i].obj=o:=by simpa using ho
   rw[if_neg ho2] at hst
   simp +contextual (disch:=omega) only[go_sem,c0,e1,e9,e10,e5,e11,T,ho]
   refine hJ _ _ _ ⟨?_,?_,?_,?_,hp2⟩
   all_goals simp +contextual (disch:=omega) only[go_sem,e1,e9,e10,e5,hst]
  |true=>
   have ho2:s.tallies[i].obj=o:=by simpa using ho
   rw[if_pos ho2] at hst
   have w1:IntKind.i64.wrap (n+s.tallies[i].sum.tmod 1000000)=n+s.tallies[i].sum.tmod 1000000:=Bi (by omega) (by omega)
   simp +contextual (disch:=omega) only[go_sem,c0,e1,e9,e10,e5,e11,T,ho,w1]
   refine hJ _ _ _ ⟨?_,?_,?_,?_,hp2⟩
   all_goals simp +contextual (disch:=omega) only[go_sem,e1,e9,e10,e5,hst,addM]
 ·rintro Yq hY env N e11 c0 ⟨e1,e9,e10,e5,hp⟩
  rw[Zae] at e5
  simp +contextual (disch:=omega) only[go_sem,c0,e1,e9,e10,e5,e11]
  refine hY _ _ ⟨?_,hp⟩
  simp +contextual (disch:=omega) only[go_sem,e5,Az]
 ·rintro env N ⟨e5,hp⟩
  simp +contextual (disch:=omega) only[go_sem,e5,hp]
theorem Ac3 {U0 U:St} {rs:List Thg} {w:GV} {l:List ByteArray} (s:ByteArray) (H:Hp U0 U rs) (k:Nat) (hk:rs[k]? =some (ow pS.kd w l)) (hl:l.length<=1099511627776):∃ w' N,Ret Tryz.prog 236 [w,.str s] U w' N/\Hp U0 N (rs.set k (ow pS.kd w' (putU txLt s l))):=by
 have key:∃ r N,Ret Tryz.prog 236 [w,.str s] U r N/\Hp U0 N (rs.set k (ow pS.kd r (putU txLt s l))):=by
  have hkl:=(Za1.1 hk).1
  have hset:rs.set k (ow pS.kd w l)=rs:=by rw[<- (Za1.1 hk).2,List.set_getElem_self]
  refine Ch Af7 (Z0z rfl) ?_
  have H:=H.nil_str
  simp +contextual (disch:=omega) only[go_sem,A6o]
  refine A0w l.length 7 0 (fun i env N=>env 0=w/\env 1= .str s/\∃(u:GV) (put:Bool) (nxt:List ByteArray),env 5=u/\env 6= .bool put/\(∀ j (hj:j<i) (hl:j<l.length),l[j]≠s)/\insG txLt s l nxt i put/\Hp U0 N (ow pS.kd u nxt::rs)) (fun env N=>env 1= .str s/\∃(u:GV) (put:Bool) (nxt:List ByteArray),env 5=u/\env 6= .bool put/\s∉l/\insG txLt s l nxt l.length put/\Hp U0 N (ow pS.kd u nxt::rs)) (fun env N=>env 4=w/\s∈l/\Hp U0 N rs) rfl ⟨rfl,rfl,_,false,[],rfl,rfl,fun j hj=>by omega,Om,H⟩ ?_ ?_ ?_ ?_
  ·clear H
   rintro J Yq Wq hJ hY hW i env N hi e7 c0 ⟨e0,e1,u,put,nxt,e5,e6,ha,hok,H⟩
   have hk1:(ow pS.kd u nxt::rs)[k+1]? =some (ow pS.kd w l):=hk
   have hnl:=C9 hok
   have i1:=Ih (H.sl (k+1) hk1) hi
   have hln:=(H.sl (k+1) hk1).len
   cases heq:decide (l[i]=s) with
   |true=>
    have hm:s∈l:=by
     have:l[i]=s:=by simpa using heq
     rw[<- this];exact Zag hi
    simp +contextual (disch:=omega) only[go_sem,c0,e0,e1,e5,e6,e7,i1,hln,heq]
    refine hW _ _ ⟨?_,hm,H.drop1⟩
    simp +contextual (disch:=omega) only[go_sem,e0]
   |false=>
    have hne:l[i]≠s:=by simpa using heq
    have ha2:∀ j (hj:j<i+1) (hl:j<l.length),l[j]≠s:=fun j hj hl=>by
     rcases Za3 j i with h|h
     ·exact ha j h hl
     ·have:j=i:=by omega
      subst this;exact hne
    cases put with
    |true=>
     obtain⟨w',N3,e8,H3⟩:=H.app_str 0 rfl l[i] (by omega)
     simp +contextual (disch:=omega) only[go_sem,c0,e0,e1,e5,e6,e7,i1,hln,heq,e8]
     refine hJ _ _ _ ⟨?_,?_,w',true,_,?_,?_,ha2,Cv hok hi (.inl rfl),H3⟩
     all_goals simp +contextual (disch:=omega) only[go_sem,e0,e1,e6]
    |false=>
     cases hlt:txLt s l[i] with
     |false=>
      obtain⟨w',N3,e8,H3⟩:=H.app_str 0 rfl l[i] (by omega)
      simp +contextual (disch:=omega) only[go_sem,c0,e0,e1,e5,e6,e7,i1,hln,heq,hlt,e8]
      refine hJ _ _ _ ⟨?_,?_,w',false,_,?_,?_,ha2,Cv hok hi (.inr hlt),H3⟩
      all_goals simp +contextual (disch:=omega) only[go_sem,e0,e1,e6]
     |true=>
      obtain⟨w',N3,e8,H3⟩:=H.app_str 0 rfl s (by omega)
      have H3:Hp U0 N3 (ow pS.kd w' (nxt++[s])::rs):=H3
      have hp:=Ky hok hi hlt
      have hnl2:=C9 hp
      simp only[Zah,Zak,Zao] at hnl2
      have i2:=Ih (H3.sl (k+1) hk) hi
      obtain⟨w2,N4,e9,H4⟩:=H3.app_str 0 rfl l[i] (by simp;omega)
      simp +contextual (disch:=omega) only[go_sem,c0,e0,e1,e5,e6,e7,i1,hln,heq,hlt,e8,i2,e9]
      refine hJ _ _ _ ⟨?_,?_,w2,true,_,?_,?_,ha2,hp,H4⟩
      all_goals simp +contextual (disch:=omega) only[go_sem,e0,e1,e6]
  ·clear H
   rintro Yq hY env N e7 c0 ⟨e0,e1,u,put,nxt,e5,e6,ha,hok,H⟩
   have hk1:(ow pS.kd u nxt::rs)[k+1]? =some (ow pS.kd w l):=hk
   have hln:=(H.sl (k+1) hk1).len
   have hni:s∉l:=fun hm=>by
    obtain⟨j,hj,he⟩:=Zas hm
    exact ha j hj hj he
   simp +contextual (disch:=omega) only[go_sem,c0,e0,e1,e5,e6,e7,hln]
   refine hY _ _ ⟨?_,u,put,nxt,?_,?_,hni,hok,H⟩
   all_goals simp +contextual (disch:=omega) only[go_sem,e1,e5,e6]
  ·clear H
   rintro env N ⟨e1,u,put,nxt,e5,e6,hni,hok,H⟩
   have hnl:=C9 hok
   have hend:=On hok
   have hpu:putU txLt s l=insB txLt s l:=by rw[putU,if_neg hni]
   cases put with
   |true=>
    simp +contextual (disch:=omega) only[go_sem,e1,e5,e6]
    refine⟨_,rfl,?_⟩
    rw[hpu,<-hend]
    exact(H.perm (List.Perm.refl _)).moveTo k hk
   |false=>
    obtain⟨w',N3,e8,H3⟩:=H.app_str 0 rfl s (by omega)
    simp +contextual (disch:=omega) only[go_sem,e1,e5,e6,e8]
    refine⟨_,rfl,?_⟩
    rw[hpu,<-hend]
    exact Hp.moveTo H3 k hk
  ·clear H
   rintro env N ⟨e4,hm,H⟩
   have hpu:putU txLt s l=l:=by rw[putU,if_pos hm]
   simp +contextual (disch:=omega) only[go_sem,e4]
   exact⟨_,rfl,by rw[hpu,hset];exact H⟩
 obtain⟨r,N,R,h⟩:=key
 exact⟨r,N,R,h⟩
def A2j:Fn1:=⟨44,[.t 6],(rg [oX 3 0,o 6 (.mov (.k .nilS))] (rg [o 9 (.lit 1 0 [] []),oM 7 9] (.seq (rg [oV 8 (ki 0)] (oH 0 (.seq (rg [oM 10 8,oF 11 2 3,oL 12 11,oN 13 12,oB 14 .lss 10 13] (oJ 14 0)) (.seq (.blk 1 (rg [oF 17 2 3,oL 18 17,oM 19 8,oI 20 6 18 19,oF 21 0 20,oL 22 21,oM 23 1,o 24 (.eqb false (.t 22) (.t 23)),oM 25 24,jF 26 25 2 3,jL 27 25 26,jM 28 25 8,jI 29 25 6 27 28,jF 30 25 1 29,jL 31 25 30,jM 32 25 2,jB 33 25 .eql 31 32,oQ 34 25 33] (oG 34 (.reg [oM 35 7,oF 36 2 3,oL 37 36,oM 38 8,oI 39 6 37 38,oF 40 2 39,oL 41 40,oD 42 236 35 41,oM 7 42])))) (.reg [oM 15 8,oZ 16 15 1,oM 8 16]))))) (rg [oM 43 7,oM 6 43] .ret))))⟩
theorem Ac4:A6 Tryz.prog 213=some A2j:=by kernel_rfl
def A6r:Fn1:=⟨38,[.t 6],(rg [oX 3 0,o 6 (.mov (.k .nilS))] (rg [o 10 (.lit 1 0 [] []),oM 7 10] (.seq (rg [oF 11 2 3,oL 12 11,oN 13 12,oV 14 (ki 0)] (oH 0 (rg [oB 15 .lss 14 13] (.seq (oJ 15 0) (.seq (.blk 1 (rg [oI 16 6 12 14,oW 17 6 16,o 9 (.new [(.bool false),s0,s0,z0,z0,z0]),oS 6 9 17] (rg [oF 18 0 9,oL 19 18,oM 20 1,o 21 (.eqb false (.t 19) (.t 20)),oM 22 21,jF 23 22 1 9,jL 24 22 23,jM 25 22 2,jB 26 22 .eql 24 25,oQ 27 22 26] (oG 27 (.reg [oM 28 7,oF 29 2 9,oL 30 29,o 31 (.lit 1 1 [s0] [(0,1,(.t 30))]),o 32 (.app 1 16 [s0] (.t 28) (.t 31)),oM 7 32]))))) (.reg [oZ 33 14 1,oM 14 33])))))) (rg [oM 34 7,oC 35 243 34] (rg [oM 36 7,oC 37 244 36,oM 6 37] .ret)))))⟩
theorem Af8:A6 Tryz.prog 205=some A6r:=by kernel_rfl
def Ac6:Fn1:=⟨8,[.t 4],(rg [oX 2 0,o 4 (.mov (.k .nilS))] (rg [oW 5 4 2,oM 6 1,o 7 (.call 213 [(.t 5),kf,(.t 6)]),oM 4 7] .ret))⟩
theorem Ahw:A6 Tryz.prog 116=some Ac6:=by kernel_rfl
def Ac8:Fn1:=⟨8,[.t 4],(rg [oX 2 0,o 4 (.mov (.k .nilS))] (rg [oW 5 4 2,oM 6 1,o 7 (.call 205 [(.t 5),kf,(.t 6)]),oM 4 7] .ret))⟩
theorem Ahx:A6 Tryz.prog 105=some Ac8:=by kernel_rfl
def A6t:Fn1:=⟨8,[.t 4],(rg [oX 2 0,o 4 (.mov (.k .nilS))] (rg [oW 5 4 2,oM 6 1,o 7 (.call 213 [(.t 5),kt,(.t 6)]),oM 4 7] .ret))⟩
theorem Af9:A6 Tryz.prog 151=some A6t:=by kernel_rfl
def A6v:Fn1:=⟨8,[.t 4],(rg [oX 2 0,o 4 (.mov (.k .nilS))] (rg [oW 5 4 2,oM 6 1,o 7 (.call 205 [(.t 5),kt,(.t 6)]),oM 4 7] .ret))⟩
theorem Afa:A6 Tryz.prog 144=some A6v:=by kernel_rfl
def Aca:Fn1:=⟨72,[.t 6],(rg [oX 3 0,o 6 (.mov (.k .nilS))] (rg [o 13 (.lit 1 0 [] []),oM 7 13] (rg [oW 14 4 3,oM 15 1,oM 16 2,o 17 (.call 141 [(.t 14),kt,(.t 15),(.t 16)]),oM 8 17] (.seq (rg [oV 9 (ki 0)] (oH 0 (.seq (rg [oM 18 9,oM 19 8,oN 20 19,oB 21 .lss 18 20] (oJ 21 0)) (.seq (.blk 1 (rg [o 24 (.lit 1 0 [] []),oM 10 24] (rg [oV 11 kf] (.seq (rg [oV 12 (ki 0)] (oH 2 (.seq (rg [oM 25 12,oM 26 7,oN 27 26,oB 28 .lss 25 27] (oJ 28 2)) (.seq (.blk 3 (.seq (dw [oM 31 11,oU 32 31,oM 33 32,jM 34 33 7,jM 35 33 12,jI 36 33 1 34 35,jL 37 33 36,jM 38 33 8,jM 39 33 9,jI 40 33 6 38 39,jF 41 33 3 40,jL 42 33 41] [jB 43 33 .gtr 37 42,oQ 44 33 43] (oG 44 (rg [oM 45 10,oM 46 8,oM 47 9,oI 48 6 46 47,oF 49 3 48,oL 50 49,o 51 (.lit 1 1 [z0] [(0,1,(.t 50))]),o 52 (.app 1 8 [z0] (.t 45) (.t 51)),oM 10 52] (.reg [oV 11 kt])))) (.reg [oM 53 10,oM 54 7,oM 55 12,oI 56 1 54 55,oL 57 56,o 58 (.lit 1 1 [z0] [(0,1,(.t 57))]),o 59 (.app 1 8 [z0] (.t 53) (.t 58)),oM 10 59]))) (.reg [oM 29 12,oZ 30 29 1,oM 12 30]))))) (.seq (rg [oM 60 11,oU 61 60] (oG 61 (.reg [oM 62 10,oM 63 8,oM 64 9,oI 65 6 63 64,oF 66 3 65,oL 67 66,o 68 (.lit 1 1 [z0] [(0,1,(.t 67))]),o 69 (.app 1 8 [z0] (.t 62) (.t 68)),oM 10 69]))) (.reg [oM 70 10,oM 7 70])))))) (.reg [oM 22 9,oZ 23 22 1,oM 9 23]))))) (rg [oM 71 7,oM 6 71] .ret)))))⟩
theorem Ahy:A6 Tryz.prog 50=some Aca:=by kernel_rfl
def Acc:Fn1:=⟨29,[.t 6],(rg [oX 3 0,o 6 (.mov (.k .nilS))] (rg [o 10 (.lit 1 0 [] []),oM 7 10] (.seq (rg [oW 11 4 3,oM 12 1,oM 13 2,o 14 (.call 206 [(.t 11),kt,(.t 12),(.t 13)]),oN 15 14,oV 16 (ki 0)] (oH 0 (rg [oB 17 .lss 16 15] (.seq (oJ 17 0) (.seq (.blk 1 (rg [oI 18 6 14 16,oW 19 6 18,o 9 (.new [(.bool false),s0,s0,z0,z0,z0]),oS 6 9 19] (.reg [oM 20 7,oF 21 3 9,oL 22 21,o 23 (.lit 1 1 [z0] [(0,1,(.t 22))]),o 24 (.app 1 8 [z0] (.t 20) (.t 23)),oM 7 24]))) (.reg [oZ 25 16 1,oM 16 25])))))) (rg [oM 26 7,oC 27 207 26] (rg [oM 28 7,oM 6 28] .ret)))))⟩
theorem Ahz:A6 Tryz.prog 106=some Acc:=by kernel_rfl
def Ace:Fn1:=⟨37,[.t 4],(rg [oX 2 0,o 4 (.mov (.k .nilS))] (rg [o 8 (.lit 1 0 [] []),oM 5 8] (.seq (rg [oW 9 4 2,oC 10 54 9,oU 11 10] (oG 11 (rg [oM 12 5,oM 4 12] .ret))) (rg [oW 13 4 2,oM 14 1,oD 15 119 13 14,oM 6 15] (.seq (rg [oV 7 (ki 0)] (oH 0 (.seq (rg [oM 16 7,oM 17 6,oN 18 17,oB 19 .lss 16 18] (oJ 19 0)) (.seq (.blk 1 (rg [oM 22 6,oM 23 7,oI 24 8 22 23,oF 25 7 24,oL 26 25,oU 27 26] (oG 27 (.reg [oM 28 5,oM 29 6,oM 30 7,oI 31 8 29 30,oF 32 6 31,oL 33 32,o 34 (.lit 1 1 [z0] [(0,1,(.t 33))]),o 35 (.app 1 8 [z0] (.t 28) (.t 34)),oM 5 35])))) (.reg [oM 20 7,oZ 21 20 1,oM 7 21]))))) (rg [oM 36 5,oM 4 36] .ret))))))⟩
theorem Ai0:A6 Tryz.prog 133=some Ace:=by kernel_rfl
def Acg:Fn1:=⟨24,[.t 4],(rg [oX 2 0,o 4 (.mov (.k .nilS))] (rg [o 8 (.lit 1 0 [] []),oM 5 8] (.seq (rg [oW 9 4 2,oM 10 1,oD 11 208 9 10,oN 12 11,oV 13 (ki 0)] (oH 0 (rg [oB 14 .lss 13 12] (.seq (oJ 14 0) (.seq (.blk 1 (rg [oI 15 8 11 13,oW 16 8 15,o 7 (.new [s0,z0,z0,z0,z0,z0,z0,(.bool false)]),oS 8 7 16] (.reg [oM 17 5,oF 18 6 7,oL 19 18,o 20 (.lit 1 1 [z0] [(0,1,(.t 19))]),o 21 (.app 1 8 [z0] (.t 17) (.t 20)),oM 5 21]))) (.reg [oZ 22 13 1,oM 13 22])))))) (rg [oM 23 5,oM 4 23] .ret))))⟩
theorem Ai1:A6 Tryz.prog 107=some Acg:=by kernel_rfl
def eqS:Eqs elS:=⟨fun x y=>by
 show binG .eql (.str x) (.str y)=_
 simp only[Al5],fun x y=>by
 show binG .neq (.str x) (.str y)=_
 simp only[Al6],[.str ⟨#[]⟩],rfl⟩
theorem Jx:A6 Tryz.prog 244=some (Rq elS.p.z elS.g eqS.ze):=by kernel_rfl
theorem Jd {U0 U:St} {rs:List Thg} {v:GV} {l:List ByteArray} (H:Hp U0 U rs) (k:Nat) (hk:rs[k]? =some (ow pS.kd v l)) (hl:l.length<=1099511627776):∃ v' N,Ret Tryz.prog 244 [v] U v' N/\Hp U0 N (rs.set k (ow pS.kd v' (Bj l))):=
 Af5 eqS Jx H k hk hl
theorem Ach {l:List Live} {m:Bool} {o:ByteArray} {i:Nat} (hi:i<l.length):((l.take (i+1)).filter (Bu m o)).map (·.key)=if Bu m o l[i] then((l.take i).filter (Bu m o)).map (·.key)++[l[i].key] else((l.take i).filter (Bu m o)).map (·.key):=by
 rw[Ew hi]
 split<;>simp
theorem Rv (U:St) (cs:List GV) (s:State) (hR:A4.R U s cs) (m:Bool) (o:ByteArray) (hl:Aa s<=1099511627776):∃ r N,Ret Tryz.prog 213 [.agg cs,.bool m,.str o] U r N/\Hp U N [ow pS.kd r (Ag s m o)]:=by
 obtain⟨a,b,c,v,rfl,_,_,hv,_⟩:=hR
 obtain⟨l1,l2,l3,l4,_⟩:=Aq hl
 refine Ch Ac4 (Z0z rfl) ?_
 have H:=((Hp.refl U).new 1 [a,b,c,v]).nil_str
 simp +contextual (disch:=omega) only[go_sem,A2j]
 generalize hb:U.length=n1 at*
 refine F9 s.lives.length 8 0 (fun i env N=>env 1= .bool m/\env 2= .str o/\env 3= .ptr n1 0/\∃ w,env 7=w/\Hp U N [ow pS.kd w (Mg txLt (((s.lives.take i).filter (Bu m o)).map (·.key))),pt 1 n1 [a,b,c,v]]) (fun env N=>∃ w,env 7=w/\Hp U N [ow pS.kd w (Ag s m o)]) rfl ⟨rfl,rfl,rfl,_,rfl,H⟩ ?_ ?_ ?_
 ·clear H
  rintro J Yq hJ hY i env N hi e8 c0 ⟨e1,e2,e3,w,e7,H⟩
  have hfl:=Cb s.lives (Bu m o) i
  have hpl:=Rk txLt (((s.lives.take i).filter (Bu m o)).map (·.key))
  rw[Zaf] at hpl
  have C1:=A7 (hv.pre H.sub) hi
  have hln:=(hv.pre H.sub).len
  have hks:=Ach (m:=m) (o:=o) hi
  cases hm:(s.lives[i].map==m) with
  |false=>
   have hk0:Bu m o s.lives[i]=false:=by simp[Bu,hm]
   rw[hk0,if_neg (by simp)] at hks
   simp +contextual (disch:=omega) only[go_sem,c0,e1,e2,e3,e7,e8,C1,A3 (H.pt 1 rfl),hln,hm,Zam]
   refine hJ _ _ _ ⟨?_,?_,?_,w,?_,by rw[hks];exact H⟩
   all_goals simp +contextual (disch:=omega) only[go_sem,e1,e2,e3,e7]
  |true=>
   cases ho:decide (s.lives[i].obj=o) with
   |false=>
    have hk0:Bu m o s.lives[i]=false:=by simp[Bu,hm,ho]
    rw[hk0,if_neg (by simp)] at hks
    simp +contextual (disch:=omega) only[go_sem,c0,e1,e2,e3,e7,e8,C1,A3 (H.pt 1 rfl),hln,hm,ho,Zam]
    refine hJ _ _ _ ⟨?_,?_,?_,w,?_,by rw[hks];exact H⟩
    all_goals simp +contextual (disch:=omega) only[go_sem,e1,e2,e3,e7]
   |true=>
    have hk0:Bu m o s.lives[i]=true:=by simp[Bu,hm,ho]
    rw[hk0,if_pos rfl] at hks
    obtain⟨w',N3,R3,H3⟩:=Ac3 s.lives[i].key H 0 rfl (by omega)
    simp +contextual (disch:=omega) only[go_sem,c0,e1,e2,e3,e7,e8,C1,A3 (H.pt 1 rfl),hln,hm,ho,Zam]
    refine Am R3 ?_
    simp +contextual (disch:=omega) only[go_sem,e1,e2,e3,e7,e8]
    refine hJ _ _ _ ⟨?_,?_,?_,w',?_,?_⟩
    all_goals first|(simp +contextual (disch:=omega) only[go_sem,e1,e2,e3,e7];done)|skip
    rw[hks,Aeu]
    exact H3
 ·clear H
  rintro Yq hY env N e8 c0 ⟨e1,e2,e3,w,e7,H⟩
  rw[Zae] at H
  have hln:=(hv.pre H.sub).len
  simp +contextual (disch:=omega) only[go_sem,c0,e1,e2,e3,e7,e8,A3 (H.pt 1 rfl),hln]
  refine hY _ _ ⟨w,?_,H.one⟩
  simp +contextual (disch:=omega) only[go_sem,e7]
 ·clear H
  rintro env N ⟨w,e7,H⟩
  simp +contextual (disch:=omega) only[go_sem,e7]
  exact⟨_,rfl,H⟩
theorem Xf (U:St) (cs:List GV) (s:State) (hR:A4.R U s cs) (m:Bool) (o:ByteArray) (hl:Aa s<=1099511627776):∃ r N,Ret Tryz.prog 205 [.agg cs,.bool m,.str o] U r N/\Hp U N [ow pS.kd r (Ag s m o)]:=by
 obtain⟨a,b,c,v,rfl,_,_,hv,_⟩:=hR
 obtain⟨l1,l2,l3,l4,_⟩:=Aq hl
 refine Ch Af8 (Z0z rfl) ?_
 have H:=((Hp.refl U).new 1 [a,b,c,v]).nil_str
 simp +contextual (disch:=omega) only[go_sem,A6r,hv.len]
 generalize hb:U.length=n1 at*
 refine F9 s.lives.length 14 0 (fun i env N=>env 1= .bool m/\env 2= .str o/\env 12=c/\env 13=gi s.lives.length/\∃ w,env 7=w/\Hp U N [ow pS.kd w (((s.lives.take i).filter (Bu m o)).map (·.key)),pt 1 n1 [a,b,c,v]]) (fun env N=>∃ w,env 7=w/\Hp U N [ow pS.kd w ((s.lives.filter (Bu m o)).map (·.key)),pt 1 n1 [a,b,c,v]]) rfl ⟨rfl,rfl,rfl,rfl,_,rfl,H⟩ ?_ ?_ ?_
 ·clear H
  rintro J Yq hJ hY i env N hi e14 c0 ⟨e1,e2,e12,e13,w,e7,H⟩
  have hfl:=Cb s.lives (Bu m o) i
  have C1:=A7 (hv.pre H.sub) hi
  have G:=H.grow (pre1 N (some (Blk.row 1 [.bool s.lives[i].map,.str s.lives[i].obj,.str s.lives[i].key,gi s.lives[i].val,gi s.lives[i].dot.rep,gi s.lives[i].dot.seq])))
  have hks:=Ach (m:=m) (o:=o) hi
  cases hm:(s.lives[i].map==m) with
  |false=>
   have hk0:Bu m o s.lives[i]=false:=by simp[Bu,hm]
   rw[hk0,if_neg (by simp)] at hks
   simp +contextual (disch:=omega) only[go_sem,c0,e1,e2,e12,e13,e7,e14,C1,hm,Zam]
   refine hJ _ _ _ ⟨?_,?_,?_,?_,w,?_,by rw[hks];exact G⟩
   all_goals simp +contextual (disch:=omega) only[go_sem,e1,e2,e12,e13,e7]
  |true=>
   cases ho:decide (s.lives[i].obj=o) with
   |false=>
    have hk0:Bu m o s.lives[i]=false:=by simp[Bu,hm,ho]
    rw[hk0,if_neg (by simp)] at hks
    simp +contextual (disch:=omega) only[go_sem,c0,e1,e2,e12,e13,e7,e14,C1,hm,ho,Zam]
    refine hJ _ _ _ ⟨?_,?_,?_,?_,w,?_,by rw[hks];exact G⟩
    all_goals simp +contextual (disch:=omega) only[go_sem,e1,e2,e12,e13,e7]
   |true=>
    have hk0:Bu m o s.lives[i]=true:=by simp[Bu,hm,ho]
    rw[hk0,if_pos rfl] at hks
    obtain⟨w',N3,e8,H3⟩:=G.app_str 0 rfl s.lives[i].key (by rw[Zaf];omega)
    simp +contextual (disch:=omega) only[go_sem,c0,e1,e2,e12,e13,e7,e14,C1,hm,ho,Zam,e8]
    refine hJ _ _ _ ⟨?_,?_,?_,?_,w',?_,?_⟩
    all_goals first|(simp +contextual (disch:=omega) only[go_sem,e1,e2,e12,e13,e7];done)|skip
    rw[hks]
    exact H3
 ·clear H
  rintro Yq hY env N e14 c0 ⟨e1,e2,e12,e13,w,e7,H⟩
  rw[Zae] at H
  simp +contextual (disch:=omega) only[go_sem,c0,e1,e2,e12,e13,e7,e14]
  refine hY _ _ ⟨w,?_,H⟩
  simp +contextual (disch:=omega) only[go_sem,e7]
 ·clear H
  rintro env N ⟨w,e7,H⟩
  have hfl:=Zaj (Bu m o) s.lives
  generalize hK:(s.lives.filter (Bu m o)).map (·.key)=K at*
  have hKl:K.length<=1099511627776:=by rw[<- hK,Zaf];omega
  obtain⟨N2,R2,H2⟩:=Lw H 0 rfl hKl
  simp +contextual (disch:=omega) only[go_sem,e7]
  refine Am R2 ?_
  simp +contextual (disch:=omega) only[go_sem,e7]
  obtain⟨w3,N3,R3,H3⟩:=Jd H2 0 rfl (by rw[F8];exact hKl)
  refine Am R3 ?_
  simp +contextual (disch:=omega) only[go_sem]
  refine⟨_,rfl,?_⟩
  have hE:Bj (Br txLt K)=Ag s m o:=by
   rw[Ag,hK]
   exact A4k Zp Zq (Cl _ _) (Ri Zp _)
  rw[<- hE]
  exact H3.one
theorem L4 (U:St) (cs:List GV) (s:State) (hR:A4.R U s cs) (o:ByteArray) (hl:Aa s<=1099511627776):∃ r N,Ret Tryz.prog 116 [.agg cs,.str o] U r N/\Hp U N [ow pS.kd r (Ag s false o)]:=by
 have hlen:cs.length=4:=A4.len hR
 refine Ch Ahw (Z0z rfl) ?_
 have H:=(Hp.refl U).new 1 cs
 simp +contextual (disch:=omega) only[go_sem,Ac6,Oz,A2 hlen]
 obtain⟨r,N,R,K⟩:=Rv _ cs s (A4.pre hR H.sub) false o hl
 refine Ck R K ?_
 have H:=H.add K
 simp +contextual (disch:=omega) only[go_sem]
 exact⟨_,rfl,H.one⟩
theorem Ml (U:St) (cs:List GV) (s:State) (hR:A4.R U s cs) (o:ByteArray) (hl:Aa s<=1099511627776):∃ r N,Ret Tryz.prog 151 [.agg cs,.str o] U r N/\Hp U N [ow pS.kd r (Ag s true o)]:=by
 have hlen:cs.length=4:=A4.len hR
 refine Ch Af9 (Z0z rfl) ?_
 have H:=(Hp.refl U).new 1 cs
 simp +contextual (disch:=omega) only[go_sem,A6t,Oz,A2 hlen]
 obtain⟨r,N,R,K⟩:=Rv _ cs s (A4.pre hR H.sub) true o hl
 refine Ck R K ?_
 have H:=H.add K
 simp +contextual (disch:=omega) only[go_sem]
 exact⟨_,rfl,H.one⟩
theorem L5 (U:St) (cs:List GV) (s:State) (hR:A4.R U s cs) (o:ByteArray) (hl:Aa s<=1099511627776):∃ r N,Ret Tryz.prog 105 [.agg cs,.str o] U r N/\Hp U N [ow pS.kd r (Ag s false o)]:=by
 have hlen:cs.length=4:=A4.len hR
 refine Ch Ahx (Z0z rfl) ?_
 have H:=(Hp.refl U).new 1 cs
 simp +contextual (disch:=omega) only[go_sem,Ac8,Oz,A2 hlen]
 obtain⟨r,N,R,K⟩:=Xf _ cs s (A4.pre hR H.sub) false o hl
 refine Ck R K ?_
 have H:=H.add K
 simp +contextual (disch:=omega) only[go_sem]
 exact⟨_,rfl,H.one⟩
theorem Mm (U:St) (cs:List GV) (s:State) (hR:A4.R U s cs) (o:ByteArray) (hl:Aa s<=1099511627776):∃ r N,Ret Tryz.prog 144 [.agg cs,.str o] U r N/\Hp U N [ow pS.kd r (Ag s true o)]:=by
 have hlen:cs.length=4:=A4.len hR
 refine Ch Afa (Z0z rfl) ?_
 have H:=(Hp.refl U).new 1 cs
 simp +contextual (disch:=omega) only[go_sem,A6v,Oz,A2 hlen]
 obtain⟨r,N,R,K⟩:=Xf _ cs s (A4.pre hR H.sub) true o hl
 refine Ck R K ?_
 have H:=H.add K
 simp +contextual (disch:=omega) only[go_sem]
 exact⟨_,rfl,H.one⟩
theorem Ak6 {l:List Live} {i:Nat} (hi:i<l.length):Br ltI ((l.take (i+1)).map (·.val))=insB ltI l[i].val (Br ltI ((l.take i).map (·.val))):=by
 rw[Zai hi,Zaw,Zat,Za4,A1v]
theorem L6 (U:St) (cs:List GV) (s:State) (hR:A4.R U s cs) (o k:ByteArray) (hl:Aa s<=1099511627776):∃ r N,Ret Tryz.prog 50 [.agg cs,.str o,.str k] U r N/\Hp U N [ow pI.kd r (Gr s o k)]:=by
 have hR0:=hR
 obtain⟨a,b,c,v,rfl,_,_,hv,_⟩:=hR
 obtain⟨l1,l2,l3,l4,_⟩:=Aq hl
 refine Ch Ahy (Z0z rfl) ?_
 have H:=((Hp.refl U).new 1 [a,b,c,v]).nil_int
 simp +contextual (disch:=omega) only[go_sem,Aca,I5,A2 (cs:=[a,b,c,v]) rfl]
 obtain⟨r1,N1,R1,K1⟩:=A8x _ _ s (A4.pre hR0 H.sub) true o k hl
 refine Ck R1 K1 ?_
 have H:=H.add K1
 simp only[Zaa,Zab] at H
 generalize hL:Mi s true o k=L at*
 have hLl:L.length<=1099511627776:=by
  have:=Zaj (Cu true o k) s.lives
  rw[<- hL];unfold Mi;omega
 simp +contextual (disch:=omega) only[go_sem]
 refine F9 L.length 9 0 (fun i env N=>env 8=r1/\∃ w n1,env 7=w/\Hp U N [ow pI.kd w (Br ltI ((L.take i).map (·.val))),ow Bp.kd r1 L,pt 1 n1 [a,b,c,v]]) (fun env N=>∃ w,env 7=w/\Hp U N [ow pI.kd w (Br ltI (L.map (·.val)))]) rfl ⟨rfl,_,_,rfl,(H.pick 1 rfl)⟩ ?_ ?_ ?_
 ·clear H
  rintro J Yq hJ hY i env N hi e9 c0 ⟨e8,w,n1,e7,H⟩
  have hlen:=(H.sl 1 rfl).len
  have hal:=F8 ltI ((L.take i).map (·.val))
  rw[Zaf,Zal] at hal
  have hsn:=Ak6 hi
  generalize hacc:Br ltI ((L.take i).map (·.val))=acc at*
  have H1:=H.nil_int
  simp +contextual (disch:=omega) only[go_sem,c0,e7,e8,e9,hlen]
  refine F9 acc.length 12 2 (fun j env N=>env 8=r1/\env 9=gi i/\env 7=w/\∃(u:GV) (put:Bool) (nxt:List Int),env 10=u/\env 11= .bool put/\insG ltI L[i].val acc nxt j put/\Hp U N [ow pI.kd u nxt,ow pI.kd w acc,ow Bp.kd r1 L,pt 1 n1 [a,b,c,v]]) (fun env N=>env 8=r1/\env 9=gi i/\env 7=w/\∃(u:GV) (put:Bool) (nxt:List Int),env 10=u/\env 11= .bool put/\insG ltI L[i].val acc nxt acc.length put/\Hp U N [ow pI.kd u nxt,ow pI.kd w acc,ow Bp.kd r1 L,pt 1 n1 [a,b,c,v]]) rfl ⟨by simp +contextual (disch:=omega) only[go_sem,e8],by simp +contextual (disch:=omega) only[go_sem,e9],by simp +contextual (disch:=omega) only[go_sem,e7],_,false,[],by simp +contextual (disch:=omega) only[go_sem],by simp +contextual (disch:=omega) only[go_sem],Om,H1⟩ ?_ ?_ ?_
  ·clear e7 e8 e9 H H1
   rintro J2 Yq2 hJ2 hY2 j env N hj e12 c1 ⟨e8,e9,e7,u,put,nxt,e10,e11,hok,H⟩
   have hnl:=C9 hok
   have i1:=Cx (H.sl 1 rfl) hj
   have hlen:=(H.sl 1 rfl).len
   have C1:=A7 (H.sl 2 rfl) hi
   cases put with
   |true=>
    obtain⟨w',N3,e5,H3⟩:=H.app_int 0 rfl acc[j] (by omega)
    simp +contextual (disch:=omega) only[go_sem,c1,e7,e8,e9,e10,e11,e12,i1,hlen,e5]
    refine hJ2 _ _ _ ⟨?_,?_,?_,w',true,_,?_,?_,Cv hok hj (.inl rfl),H3⟩
    all_goals simp +contextual (disch:=omega) only[go_sem,e7,e8,e9,e11]
   |false=>
    cases hlt:decide (L[i].val<acc[j]) with
    |false=>
     obtain⟨w',N3,e5,H3⟩:=H.app_int 0 rfl acc[j] (by omega)
     simp +contextual (disch:=omega) only[go_sem,c1,e7,e8,e9,e10,e11,e12,i1,hlen,C1,hlt,e5]
     refine hJ2 _ _ _ ⟨?_,?_,?_,w',false,_,?_,?_,Cv hok hj (.inr hlt),H3⟩
     all_goals simp +contextual (disch:=omega) only[go_sem,e7,e8,e9,e11]
    |true=>
     obtain⟨w',N3,e5,H3⟩:=H.app_int 0 rfl L[i].val (by omega)
     have H3:Hp U N3 [ow pI.kd w' (nxt++[L[i].val]),ow pI.kd w acc,ow Bp.kd r1 L,pt 1 n1 [a,b,c,v]]:=H3
     have hp:=Ky hok hj hlt
     have hnl2:=C9 hp
     simp only[Zah,Zak,Zao] at hnl2
     have i2:=Cx (H3.sl 1 rfl) hj
     obtain⟨w2,N4,e6,H4⟩:=H3.app_int 0 rfl acc[j] (by simp;omega)
     simp +contextual (disch:=omega) only[go_sem,c1,e7,e8,e9,e10,e11,e12,i1,hlen,C1,hlt,e5,i2,e6]
     refine hJ2 _ _ _ ⟨?_,?_,?_,w2,true,_,?_,?_,hp,H4⟩
     all_goals simp +contextual (disch:=omega) only[go_sem,e7,e8,e9,e11]
  ·clear e7 e8 e9 H H1
   rintro Yq2 hY2 env N e12 c1 ⟨e8,e9,e7,u,put,nxt,e10,e11,hok,H⟩
   have hlen:=(H.sl 1 rfl).len
   simp +contextual (disch:=omega) only[go_sem,c1,e7,e8,e9,e10,e11,e12,hlen]
   refine hY2 _ _ ⟨?_,?_,?_,u,put,nxt,?_,?_,hok,H⟩
   all_goals simp +contextual (disch:=omega) only[go_sem,e7,e8,e9,e10,e11]
  ·clear e7 e8 e9 H H1
   rintro env N ⟨e8,e9,e7,u,put,nxt,e10,e11,hok,H⟩
   have hnl:=C9 hok
   have hend:=On hok
   have C1:=A7 (H.sl 2 rfl) hi
   cases put with
   |true=>
    simp +contextual (disch:=omega) only[go_sem,e7,e8,e9,e10,e11]
    refine hJ _ _ _ ⟨?_,u,n1,?_,?_⟩
    all_goals first|(simp +contextual (disch:=omega) only[go_sem,e7,e8,e9,e10,e11];done)|skip
    rw[hsn,<-hend]
    exact(H.pick 1 rfl).drop1
   |false=>
    obtain⟨w',N3,e5,H3⟩:=H.app_int 0 rfl L[i].val (by omega)
    simp +contextual (disch:=omega) only[go_sem,e7,e8,e9,e10,e11,C1,e5]
    refine hJ _ _ _ ⟨?_,w',n1,?_,?_⟩
    all_goals first|(simp +contextual (disch:=omega) only[go_sem,e7,e8,e9,e10,e11];done)|skip
    rw[hsn,<-hend]
    exact(H3.pick 1 rfl).drop1
 ·clear H
  rintro Yq hY env N e9 c0 ⟨e8,w,n1,e7,H⟩
  rw[Zae] at H
  have hlen:=(H.sl 1 rfl).len
  simp +contextual (disch:=omega) only[go_sem,c0,e7,e8,e9,hlen]
  refine hY _ _ ⟨w,?_,H.one⟩
  simp +contextual (disch:=omega) only[go_sem,e7]
 ·clear H
  rintro env N ⟨w,e7,H⟩
  simp +contextual (disch:=omega) only[go_sem,e7]
  exact⟨_,rfl,by rw[Gr,hL];exact H⟩
theorem L7 (U:St) (cs:List GV) (s:State) (hR:A4.R U s cs) (o k:ByteArray) (hl:Aa s<=1099511627776):∃ r N,Ret Tryz.prog 106 [.agg cs,.str o,.str k] U r N/\Hp U N [ow pI.kd r (Gr s o k)]:=by
 have hR0:=hR
 obtain⟨a,b,c,v,rfl,_,_,hv,_⟩:=hR
 obtain⟨l1,l2,l3,l4,_⟩:=Aq hl
 refine Ch Ahz (Z0z rfl) ?_
 have H:=((Hp.refl U).new 1 [a,b,c,v]).nil_int
 simp +contextual (disch:=omega) only[go_sem,Acc,I5,A2 (cs:=[a,b,c,v]) rfl]
 obtain⟨r1,N1,R1,K1⟩:=A8y _ _ s (A4.pre hR0 H.sub) true o k hl
 refine Ck R1 K1 ?_
 have H:=H.add K1
 simp only[Zaa,Zab] at H
 generalize hL:Mi s true o k=L at*
 have hLl:L.length<=1099511627776:=by
  have:=Zaj (Cu true o k) s.lives
  rw[<- hL];unfold Mi;omega
 have hlen0:=(H.sl 0 rfl).len
 simp +contextual (disch:=omega) only[go_sem,hlen0]
 refine F9 L.length 16 0 (fun i env N=>env 14=r1/\env 15=gi L.length/\∃ w n1,env 7=w/\Hp U N [ow pI.kd w ((L.take i).map (·.val)),ow Bp.kd r1 L,pt 1 n1 [a,b,c,v]]) (fun env N=>∃ w,env 7=w/\Hp U N [ow pI.kd w (L.map (·.val))]) rfl ⟨rfl,rfl,_,_,rfl,(H.pick 1 rfl)⟩ ?_ ?_ ?_
 ·clear H
  rintro J Yq hJ hY i env N hi e16 c0 ⟨e14,e15,w,n1,e7,H⟩
  have C1:=A7 (H.sl 1 rfl) hi
  have G:=H.grow (pre1 N (some (Blk.row 1 [.bool L[i].map,.str L[i].obj,.str L[i].key,gi L[i].val,gi L[i].dot.rep,gi L[i].dot.seq])))
  obtain⟨w',N3,e5,H3⟩:=G.app_int 0 rfl L[i].val (by simp;omega)
  simp +contextual (disch:=omega) only[go_sem,c0,e7,e14,e15,e16,C1,e5]
  refine hJ _ _ _ ⟨?_,?_,w',n1,?_,?_⟩
  all_goals first|(simp +contextual (disch:=omega) only[go_sem,e7,e14,e15,e16];done)|skip
  rw[Zai hi,Zaw,Zat,Za4]
  exact H3
 ·clear H
  rintro Yq hY env N e16 c0 ⟨e14,e15,w,n1,e7,H⟩
  rw[Zae] at H
  simp +contextual (disch:=omega) only[go_sem,c0,e7,e14,e15,e16]
  refine hY _ _ ⟨w,?_,H.one⟩
  simp +contextual (disch:=omega) only[go_sem,e7]
 ·clear H
  rintro env N ⟨w,e7,H⟩
  obtain⟨N2,R2,H2⟩:=Pz H 0 rfl (by simp;omega)
  simp +contextual (disch:=omega) only[go_sem,e7]
  refine Am R2 ?_
  simp +contextual (disch:=omega) only[go_sem,e7]
  exact⟨_,rfl,by rw[Gr,hL];exact H2⟩
theorem L8 (U:St) (cs:List GV) (s:State) (hR:A4.R U s cs) (o:ByteArray) (hl:Aa s<=1099511627776):∃ r N,Ret Tryz.prog 107 [.agg cs,.str o] U r N/\Hp U N [ow pI.kd r (Hh s o)]:=by
 have hlen:=A4.len hR
 have hlen:cs.length=4:=hlen
 refine Ch Ai1 (Z0z rfl) ?_
 have H:=((Hp.refl U).new 1 cs).nil_int
 simp +contextual (disch:=omega) only[go_sem,Acg,Oz,I5,A2 hlen]
 obtain⟨r1,N1,R1,K1⟩:=A4m _ cs s (A4.pre hR H.sub) o hl
 have hb:=Agh s o
 rw[Hh]
 generalize rowL s o=T at*
 refine Ck R1 K1 ?_
 have H:=H.add K1
 simp only[Zaa,Zab] at H
 have hlen0:=(H.sl 0 rfl).len
 simp +contextual (disch:=omega) only[go_sem,hlen0]
 generalize hn1:U.length=n1 at*
 refine Ti T.length 13 (fun i env N=>env 11=r1/\env 12=gi T.length/\∃ u,env 5=u/\Hp U N [ow pI.kd u ((T.take i).map (·.val)),ow Ak.kd r1 T,pt 1 n1 cs]) rfl ⟨rfl,rfl,_,rfl,H.pick 1 rfl⟩ ?_ ?_
 ·clear H
  rintro J hJ i env N hi e13 c0 ⟨e11,e12,u,e5,H⟩
  have C1:=A8 (H.sl 1 rfl) hi
  have G:=H.grow (pre1 N (some (Blk.row 1 (Tt T[i]))))
  obtain⟨w',N3,e8,H3⟩:=G.app_int 0 rfl T[i].val (by simp;omega)
  simp +contextual (disch:=omega) only[go_sem,c0,e5,e11,e12,e13,C1,e8]
  refine hJ _ _ _ ⟨?_,?_,w',?_,?_⟩
  all_goals first|(simp +contextual (disch:=omega) only[go_sem,e5,e11,e12,e13];done)|skip
  rw[Zai hi,Zaw,Zat,Za4]
  exact H3
 ·clear H
  rintro env N e13 c0 ⟨e11,e12,u,e5,H⟩
  rw[Zae] at H
  simp +contextual (disch:=omega) only[go_sem,c0,e5,e11,e12,e13]
  exact⟨_,rfl,H.one⟩
theorem L9 (U:St) (cs:List GV) (s:State) (hR:A4.R U s cs) (o:ByteArray) (hl:Aa s<=1099511627776):∃ r N,Ret Tryz.prog 133 [.agg cs,.str o] U r N/\Hp U N [ow pI.kd r (Hh s o)]:=by
 have hlen:=A4.len hR
 have hlen:cs.length=4:=hlen
 refine Ch Ai0 (Z0z rfl) ?_
 have H:=((Hp.refl U).new 1 cs).nil_int
 simp +contextual (disch:=omega) only[go_sem,Ace,Oz,I5,A2 hlen]
 refine Ac (Hg _ _ s (A4.pre hR H.sub) hl) (fun hok=> ?_) (fun hok=> ?_)
 rotate_left
 ·have e:Hh s o=[]:=by simp[Hh,rowL,hok]
  simp +contextual (disch:=omega) only[go_sem]
  exact⟨_,rfl,by rw[e];exact H.one⟩
 have e:Hh s o=((rowC s o).filter Bg).map (·.val):=by simp only[Hh,rowL,hok,if_true];rfl
 rw[e]
 simp +contextual (disch:=omega) only[go_sem,Oz,I5,A2 hlen]
 obtain⟨r1,N1,R1,K1⟩:=Xa _ cs s (A4.pre hR H.sub) o hok hl
 refine Ck R1 K1 ?_
 have H:=H.add K1
 simp only[Zaa,Zab] at H
 have hb:=Ol (Pt hok) o
 generalize rowC s o=T at*
 simp +contextual (disch:=omega) only[go_sem]
 generalize hn1:U.length=n1 at*
 refine Ti T.length 7 (fun i env N=>env 6=r1/\∃ u,env 5=u/\Hp U N [ow pI.kd u (((T.take i).filter Bg).map (·.val)),ow Ak.kd r1 T,pt 1 n1 cs]) rfl ⟨rfl,_,rfl,H.pick 1 rfl⟩ ?_ ?_
 ·clear H
  rintro J hJ i env N hi e7 c0 ⟨e6,u,e5,H⟩
  have hfl:=Cb T Bg i
  have hsn:=A28 hi
  have C1:=A8 (H.sl 1 rfl) hi
  have hln:=(H.sl 1 rfl).len
  cases hg:T[i].gone with
  |true=>
   have hk0:Bg T[i]=false:=by simp[Bg,hg]
   rw[hk0,if_neg (by simp)] at hsn
   simp +contextual (disch:=omega) only[go_sem,c0,e5,e6,e7,hln,C1,hg]
   refine hJ _ _ _ ⟨?_,u,?_,by rw[hsn];exact H⟩
   all_goals simp +contextual (disch:=omega) only[go_sem,e5,e6,e7]
  |false=>
   have hk0:Bg T[i]=true:=by simp[Bg,hg]
   rw[hk0,if_pos rfl] at hsn
   obtain⟨w',N3,e8,H3⟩:=H.app_int 0 rfl T[i].val (by simp;omega)
   simp +contextual (disch:=omega) only[go_sem,c0,e5,e6,e7,hln,C1,hg,e8]
   refine hJ _ _ _ ⟨?_,w',?_,?_⟩
   all_goals first|(simp +contextual (disch:=omega) only[go_sem,e5,e6,e7];done)|skip
   rw[hsn,Zaw,Zat,Za4]
   exact H3
 ·clear H
  rintro env N e7 c0 ⟨e6,u,e5,H⟩
  rw[Zae] at H
  have hln:=(H.sl 1 rfl).len
  simp +contextual (disch:=omega) only[go_sem,c0,e5,e6,e7,hln]
  exact⟨_,rfl,H.one⟩
def Xh:Fn1:=⟨26,[.t 4],(rg [oV 4 kf] (.seq (rg [oM 6 0,oN 7 6,oM 8 1,oN 9 8,oB 10 .neq 7 9] (oG 10 (oR 4 kf))) (.seq (rg [oV 5 (ki 0)] (oH 0 (.seq (rg [oM 11 5,oM 12 0,oN 13 12,oB 14 .lss 11 13] (oJ 14 0)) (.seq (.blk 1 (dw [oM 17 0,oM 18 5,oI 19 1 17 18,oL 20 19,oM 21 1,oM 22 5,oI 23 1 21 22,oL 24 23] [oB 25 .neq 20 24] (oG 25 (oR 4 kf)))) (.reg [oM 15 5,oZ 16 15 1,oM 5 16]))))) (oR 4 kt))))⟩
theorem A8z:A6 Tryz.prog 152=some Xh:=by kernel_rfl
def Df:Fn1:=⟨26,[.t 4],(rg [oV 4 kf] (.seq (rg [oM 6 0,oN 7 6,oM 8 1,oN 9 8,oB 10 .neq 7 9] (oG 10 (oR 4 kf))) (.seq (rg [oM 11 0,oN 12 11,oV 13 (ki 0)] (oH 0 (rg [oB 14 .lss 13 12] (.seq (oJ 14 0) (.seq (.blk 1 (rg [oM 15 13,oM 5 15] (dw [oM 16 0,oM 17 5,oI 18 1 16 17,oL 19 18,oM 20 1,oM 21 5,oI 22 1 20 21,oL 23 22] [oB 24 .neq 19 23] (oG 24 (oR 4 kf))))) (.reg [oZ 25 13 1,oM 13 25])))))) (oR 4 kt))))⟩
theorem Gv:A6 Tryz.prog 145=some Df:=by kernel_rfl
def Mo:Fn1:=⟨69,[.t 6],(rg [oX 3 0,oX 4 1,oV 6 kf] (rg [oW 9 4 3,oM 10 2,oD 11 151 9 10,oM 7 11] (.seq (dw [oW 12 4 3,oM 13 2,oD 14 131 12 13,oW 15 4 4,oM 16 2,oD 17 131 15 16,oB 18 .neq 14 17,oM 19 18,vW 20 19 4 3,vM 21 19 2,vD 22 19 116 20 21,vW 23 19 4 4,vM 24 19 2,vD 25 19 116 23 24,vD 26 19 152 22 25,vU 27 19 26,oP 28 19 27,oM 29 28,vM 30 29 7,vW 31 29 4 4,vM 32 29 2,vD 33 29 151 31 32,vD 34 29 152 30 33,vU 35 29 34,oP 36 29 35,oM 37 36,vW 38 37 4 3,vM 39 37 2,vD 40 37 133 38 39,vW 41 37 4 4] [vM 42 37 2,vD 43 37 133 41 42,vD 44 37 153 40 43,vU 45 37 44,oP 46 37 45] (oG 46 (oR 6 kf))) (.seq (rg [oV 8 (ki 0)] (oH 0 (.seq (rg [oM 47 8,oM 48 7,oN 49 48,oB 50 .lss 47 49] (oJ 50 0)) (.seq (.blk 1 (dw [oW 53 4 3,oM 54 2,oM 55 7,oM 56 8,oI 57 1 55 56,oL 58 57,o 59 (.call 50 (oT [53,54,58])),oW 60 4 4,oM 61 2,oM 62 7,oM 63 8,oI 64 1 62 63,oL 65 64] [o 66 (.call 50 (oT [60,61,65])),oD 67 153 59 66,oU 68 67] (oG 68 (oR 6 kf)))) (.reg [oM 51 8,oZ 52 51 1,oM 8 52]))))) (oR 6 kt)))))⟩
theorem Z6:A6 Tryz.prog 57=some Mo:=by kernel_rfl
def Mq:Fn1:=⟨62,[.t 6],(rg [oX 3 0,oX 4 1,oV 6 kf] (rg [oW 10 4 3,oM 11 2,oD 12 144 10 11,oM 7 12] (.seq (dw [oW 13 4 3,oM 14 2,oD 15 103 13 14,oW 16 4 4,oM 17 2,oD 18 103 16 17,oB 19 .neq 15 18,oM 20 19,vW 21 20 4 3,vM 22 20 2,vD 23 20 105 21 22,vW 24 20 4 4] [vM 25 20 2,vD 26 20 105 24 25,vD 27 20 145 23 26,vU 28 20 27,oP 29 20 28,oM 30 29,vM 31 30 7,vW 32 30 4 4,vM 33 30 2,vD 34 30 144 32 33,vD 35 30 145 31 34,vU 36 30 35,oP 37 30 36] (oG 37 (oR 6 kf))) (.seq (rg [oM 38 7,oN 39 38,oV 40 (ki 0)] (oH 0 (rg [oB 41 .lss 40 39] (.seq (oJ 41 0) (.seq (.blk 1 (rg [oI 42 1 38 40,oL 43 42,oM 9 43] (dw [oW 44 4 3,oM 45 2,oM 46 9,o 47 (.call 106 (oT [44,45,46])),oW 48 4 4] [oM 49 2,oM 50 9,o 51 (.call 106 (oT [48,49,50])),oD 52 138 47 51,oU 53 52] (oG 53 (oR 6 kf))))) (.reg [oZ 54 40 1,oM 40 54])))))) (dw [oW 55 4 3,oM 56 2,oD 57 107 55 56,oW 58 4 4] [oM 59 2,oD 60 107 58 59,oD 61 138 57 60,oM 6 61] .ret)))))⟩
theorem Z7:A6 Tryz.prog 52=some Mq:=by kernel_rfl
theorem P9 (U:St) (v u:GV) (a b:List ByteArray) (ha:RS pS.kd U v a) (hb:RS pS.kd U u b) (hla:a.length<=1099511627776):Ret Tryz.prog 152 [v,u] U (.bool (decide (a=b))) U:=by
 refine Ae A8z (Z0z rfl) trivial ?_
 simp +contextual (disch:=omega) only[go_sem,Xh,ha.len,hb.len]
 refine⟨fun hn=> ?_,fun hn=> ?_⟩
 ·have:a≠b:=fun h=>by subst h;simp at hn
  simp[this]
 ·have hlm:a.length=b.length:=by
                     have h2:(a.length:Int)=b.length:=by simpa using hn
                     omega
  refine Bk a.length 5 (fun i env N=>env 0=v/\env 1=u/\a.take i=b.take i/\U <+: N) rfl ⟨rfl,rfl,rfl,Zad _⟩ ?_ ?_
  ·rintro i env N hi e5 c0 ⟨e0,e1,he,hp⟩
   have hj:i<b.length:=by omega
   have hne:a[i]≠b[i]->a≠b:=fun h h'=>h (by subst h';rfl)
   have hst:a[i]=b[i]->a.take (i+1)=b.take (i+1):=fun h=>by rw[Ax hi,Ax hj,he,h]
   simp +contextual (disch:=omega) only[go_sem,c0,e0,e1,e5,ha.len,hb.len,Ih (ha.pre hp) hi,Ih (hb.pre hp) hj,hp]
   refine⟨fun h=> ?_,fun h=> ?_⟩
   ·simp[hne (by simpa using h)]
   ·simpa using hst (by simpa using h)
  ·rintro env N e5 c0 ⟨e0,e1,he,hp⟩
   rw[Zae,hlm,Zae] at he
   simp +contextual (disch:=omega) only[go_sem,c0,e0,e1,e5,ha.len,hb.len,hp]
   simp[he]
theorem Fh (U:St) (v u:GV) (a b:List ByteArray) (ha:RS pS.kd U v a) (hb:RS pS.kd U u b) (hla:a.length<=1099511627776):Ret Tryz.prog 145 [v,u] U (.bool (decide (a=b))) U:=by
 refine Ae Gv (Z0z rfl) trivial ?_
 simp +contextual (disch:=omega) only[go_sem,Df,ha.len,hb.len]
 refine⟨fun hn=> ?_,fun hn=> ?_⟩
 ·have:a≠b:=fun h=>by subst h;simp at hn
  simp[this]
 ·have hlm:a.length=b.length:=by
                     have h2:(a.length:Int)=b.length:=by simpa using hn
                     omega
  refine Bk a.length 13 (fun i env N=>env 0=v/\env 1=u/\env 12=gi a.length/\a.take i=b.take i/\U <+: N) rfl ⟨rfl,rfl,rfl,rfl,Zad _⟩ ?_ ?_
  ·rintro i env N hi e13 c0 ⟨e0,e1,e12,he,hp⟩
   have hj:i<b.length:=by omega
   have hne:a[i]≠b[i]->a≠b:=fun h h'=>h (by subst h';rfl)
   have hst:a[i]=b[i]->a.take (i+1)=b.take (i+1):=fun h=>by rw[Ax hi,Ax hj,he,h]
   simp +contextual (disch:=omega) only[go_sem,c0,e0,e1,e12,e13,Ih (ha.pre hp) hi,Ih (hb.pre hp) hj,hp]
   refine⟨fun h=> ?_,fun h=> ?_⟩
   ·simp[hne (by simpa using h)]
   ·simpa using hst (by simpa using h)
  ·rintro env N e13 c0 ⟨e0,e1,e12,he,hp⟩
   rw[Zae,hlm,Zae] at he
   simp +contextual (disch:=omega) only[go_sem,c0,e0,e1,e12,e13,hp]
   simp[he]
theorem Da (s:State) (m:Bool) (o:ByteArray):(Ag s m o).length<=Aa s:=by
 have h1:=Rk txLt ((s.lives.filter (Bu m o)).map (·.key))
 rw[Zaf] at h1
 have h2:(s.lives.filter (Bu m o)).length<=s.lives.length:=Zaj _ _
 have h3:s.lives.length<=Aa s:=by unfold Aa;omega
 unfold Ag;omega
theorem La (s:State) (o k:ByteArray):(Gr s o k).length<=Aa s:=by
 have h2:(Mi s true o k).length<=s.lives.length:=Zaj _ _
 have h3:s.lives.length<=Aa s:=by unfold Aa;omega
 rw[Gr,F8,Zaf];omega
theorem Lb (s:State) (o:ByteArray):(Hh s o).length<=1200120:=by
 rw[Hh,Zaf];exact Agh s o
def Ce (a b:State) (o:ByteArray) (ks:List ByteArray):Bool:=ks.all fun k=>decide (Gr a o k=Gr b o k)
def Ao (a b:State) (o:ByteArray):Bool:=decide (Az a o=Az b o)&&(decide (Ag a false o=Ag b false o)&&(decide (Ag a true o=Ag b true o)&&(decide (Hh a o=Hh b o)&&Ce a b o (Ag a true o))))
theorem Xi {x y:Int}:(x != y)= !decide (x=y):=by
 by_cases h:x=y<;>simp[h]
theorem Tv (U:St) (cs:List GV) (a:State) (hR:A4.R U a cs) (ds:List GV) (b:State) (hS:A4.R U b ds) (o:ByteArray) (hl:Aa a<=1099511627776) (hm:Aa b<=1099511627776) (ho:o.size<=1099511627776):Ret Tryz.prog 57 [.agg cs,.agg ds,.str o] U (.bool (Ao a b o)) U:=by
 have lc:cs.length=4:=A4.len hR
 have ld:ds.length=4:=A4.len hS
 have hk1:=Da a true o
 have hk2:=Da a false o
 have hr1:=Lb a o
 refine Ae Z6 (Z0z rfl) trivial ?_
 have H:=((Hp.refl U).new 1 cs).new 1 ds
 simp +contextual (disch:=omega) only[go_sem,Mo,I5,A2 lc]
 obtain⟨r1,N1,R1,K1⟩:=Ml _ cs a (A4.pre hR H.sub) o hl
 refine Ck R1 K1 ?_
 have H:=H.add K1
 simp only[Zaa,Zab] at H
 generalize hn2:(U++[some (Blk.row 1 cs)]).length=n2 at*
 generalize hn1:U.length=n1 at*
 simp +contextual (disch:=omega) only[go_sem,A3 (H.pt 2 rfl),A2 lc]
 refine A9 (Hl _ cs a (A4.pre hR H.sub) o hl) ?_
 simp +contextual (disch:=omega) only[go_sem,A3 (H.pt 1 rfl),A2 ld]
 refine A9 (Hl _ ds b (A4.pre hS H.sub) o hm) ?_
 cases h1:decide (Az a o=Az b o) with
 |false=>
  have hE:Ao a b o=false:=by simp[Ao,h1]
  simp +contextual (disch:=omega) only[go_sem,Xi,h1,hE,H.sub]
 |true=>
  simp +contextual (disch:=omega) only[go_sem,Xi,h1,A3 (H.pt 2 rfl),A2 lc]
  obtain⟨r2,N2,R2,K2⟩:=L4 _ cs a (A4.pre hR H.sub) o hl
  refine Ck R2 K2 ?_
  have H:=H.add K2
  simp only[Zaa,Zab] at H
  simp +contextual (disch:=omega) only[go_sem,Xi,h1,A3 (H.pt 2 rfl),A2 ld]
  obtain⟨r3,N3,R3,K3⟩:=L4 _ ds b (A4.pre hS H.sub) o hm
  refine Ck R3 K3 ?_
  have H:=H.add K3
  simp only[Zaa,Zab] at H
  simp +contextual (disch:=omega) only[go_sem,Xi,h1]
  refine A9 (P9 _ _ _ _ _ (H.sl 1 rfl) (H.sl 0 rfl) (by omega)) ?_
  cases h2:decide (Ag a false o=Ag b false o) with
  |false=>
   have hE:Ao a b o=false:=by simp[Ao,h2]
   simp +contextual (disch:=omega) only[go_sem,hE,H.sub]
  |true=>
   simp +contextual (disch:=omega) only[go_sem,A3 (H.pt 3 rfl),A2 ld]
   obtain⟨r4,N4,R4,K4⟩:=Ml _ ds b (A4.pre hS H.sub) o hm
   refine Ck R4 K4 ?_
   have H:=H.add K4
   simp only[Zaa,Zab] at H
   simp +contextual (disch:=omega) only[go_sem]
   refine A9 (P9 _ _ _ _ _ (H.sl 3 rfl) (H.sl 0 rfl) (by omega)) ?_
   cases h3:decide (Ag a true o=Ag b true o) with
   |false=>
    have hE:Ao a b o=false:=by simp[Ao,h3]
    simp +contextual (disch:=omega) only[go_sem,hE,H.sub]
   |true=>
    simp +contextual (disch:=omega) only[go_sem,A3 (H.pt 5 rfl),A2 lc]
    obtain⟨r5,N5,R5,K5⟩:=L9 _ cs a (A4.pre hR H.sub) o hl
    refine Ck R5 K5 ?_
    have H:=H.add K5
    simp only[Zaa,Zab] at H
    simp +contextual (disch:=omega) only[go_sem,A3 (H.pt 5 rfl),A2 ld]
    obtain⟨r6,N6,R6,K6⟩:=L9 _ ds b (A4.pre hS H.sub) o hm
    refine Ck R6 K6 ?_
    have H:=H.add K6
    simp only[Zaa,Zab] at H
    simp +contextual (disch:=omega) only[go_sem]
    refine A9 (A69 _ _ _ _ _ (H.sl 1 rfl) (H.sl 0 rfl) (by omega)) ?_
    cases h4:decide (Hh a o=Hh b o) with
    |false=>
     have hE:Ao a b o=false:=by simp[Ao,h4]
     simp +contextual (disch:=omega) only[go_sem,hE,H.sub]
    |true=>
     have hE:Ao a b o=Ce a b o (Ag a true o):=by simp[Ao,h1,h2,h3,h4]
     rw[hE]
     generalize hks:Ag a true o=ks at*
     simp +contextual (disch:=omega) only[go_sem]
     refine A0w ks.length 8 0 (fun i env N=>env 2= .str o/\env 3= .ptr n1 0/\env 4= .ptr n2 0/\env 7=r1/\(∀ j (hj:j<i) (hl:j<ks.length),Gr a o ks[j]=Gr b o ks[j])/\Hp U N [ow pS.kd r1 ks,pt 1 n2 ds,pt 1 n1 cs]) (fun env N=>Ce a b o ks=true/\U <+: N) (fun env N=>env 6= .bool false/\Ce a b o ks=false/\U <+: N) rfl ⟨rfl,rfl,rfl,rfl,fun j hj=>by omega,H.drop1.drop1.drop1.drop1.drop1⟩ ?_ ?_ ?_ ?_
     ·clear H
      rintro J Yq Wq hJ hY hW i env N hi e8 c0 ⟨e2,e3,e4,e7,ha,H⟩
      have i1:=Ih (H.sl 0 rfl) hi
      have hln:=(H.sl 0 rfl).len
      obtain⟨q1,N7,Q1,L1⟩:=L6 _ cs a (A4.pre hR H.sub) o ks[i] hl
      simp +contextual (disch:=omega) only[go_sem,c0,e2,e3,e4,e7,e8,i1,hln,A3 (H.pt 2 rfl),A2 lc]
      refine Ck Q1 L1 ?_
      have H1:=H.add L1
      simp only[Zaa,Zab] at H1
      have i2:=Ih (H1.sl 1 rfl) hi
      obtain⟨q2,N8,Q2,L2⟩:=L6 _ ds b (A4.pre hS H1.sub) o ks[i] hm
      simp +contextual (disch:=omega) only[go_sem,e2,e3,e4,e7,e8,i2,A3 (H1.pt 2 rfl),A2 ld]
      refine Ck Q2 L2 ?_
      have H2:=H1.add L2
      simp only[Zaa,Zab] at H2
      simp +contextual (disch:=omega) only[go_sem]
      have hml:=La a o ks[i]
      refine A9 (A69 _ _ _ _ _ (H2.sl 1 rfl) (H2.sl 0 rfl) (by omega)) ?_
      cases hq:decide (Gr a o ks[i]=Gr b o ks[i]) with
      |false=>
       have hno:Ce a b o ks=false:=by
        unfold Ce
        rw[Zbc]
        exact⟨ks[i],Zag hi,by rw[hq];simp⟩
       simp +contextual (disch:=omega) only[go_sem]
       refine hW _ _ ⟨?_,hno,H2.sub⟩
       simp +contextual (disch:=omega) only[go_sem]
      |true=>
       simp +contextual (disch:=omega) only[go_sem,e2,e3,e4,e7,e8]
       refine hJ _ _ _ ⟨?_,?_,?_,?_,fun j hj hl=> ?_,H2.drop1.drop1⟩
       all_goals first|(simp +contextual (disch:=omega) only[go_sem,e2,e3,e4,e7,e8];done)|skip
       rcases Za3 j i with h|h
       ·exact ha j h hl
       ·have:j=i:=by omega
        subst this;simpa using hq
     ·clear H
      rintro Yq hY env N e8 c0 ⟨e2,e3,e4,e7,ha,H⟩
      have hln:=(H.sl 0 rfl).len
      have hyes:Ce a b o ks=true:=by
       unfold Ce
       rw[Zbd]
       intro x hx
       obtain⟨j,hj,rfl⟩:=Zas hx
       simpa using ha j hj hj
      simp +contextual (disch:=omega) only[go_sem,c0,e2,e3,e4,e7,e8,hln]
      exact hY _ _ ⟨hyes,H.sub⟩
     ·clear H
      rintro env N ⟨hy,hp⟩
      simp +contextual (disch:=omega) only[go_sem,hy,hp]
     ·clear H
      rintro env N ⟨e6,hy,hp⟩
      simp +contextual (disch:=omega) only[go_sem,e6,hy,hp]
theorem Jy (U:St) (cs:List GV) (a:State) (hR:A4.R U a cs) (ds:List GV) (b:State) (hS:A4.R U b ds) (o:ByteArray) (hl:Aa a<=1099511627776) (hm:Aa b<=1099511627776) (ho:o.size<=1099511627776):Ret Tryz.prog 52 [.agg cs,.agg ds,.str o] U (.bool (Ao a b o)) U:=by
 have lc:cs.length=4:=A4.len hR
 have ld:ds.length=4:=A4.len hS
 have hk1:=Da a true o
 have hk2:=Da a false o
 have hr1:=Lb a o
 refine Ae Z7 (Z0z rfl) trivial ?_
 have H:=((Hp.refl U).new 1 cs).new 1 ds
 simp +contextual (disch:=omega) only[go_sem,Mq,I5,A2 lc]
 obtain⟨r1,N1,R1,K1⟩:=Mm _ cs a (A4.pre hR H.sub) o hl
 refine Ck R1 K1 ?_
 have H:=H.add K1
 simp only[Zaa,Zab] at H
 generalize hn2:(U++[some (Blk.row 1 cs)]).length=n2 at*
 generalize hn1:U.length=n1 at*
 simp +contextual (disch:=omega) only[go_sem,A3 (H.pt 2 rfl),A2 lc]
 refine A9 (Hm _ cs a (A4.pre hR H.sub) o hl) ?_
 simp +contextual (disch:=omega) only[go_sem,A3 (H.pt 1 rfl),A2 ld]
 refine A9 (Hm _ ds b (A4.pre hS H.sub) o hm) ?_
 cases h1:decide (Az a o=Az b o) with
 |false=>
  have hE:Ao a b o=false:=by simp[Ao,h1]
  simp +contextual (disch:=omega) only[go_sem,Xi,h1,hE,H.sub]
 |true=>
  simp +contextual (disch:=omega) only[go_sem,Xi,h1,A3 (H.pt 2 rfl),A2 lc]
  obtain⟨r2,N2,R2,K2⟩:=L5 _ cs a (A4.pre hR H.sub) o hl
  refine Ck R2 K2 ?_
  have H:=H.add K2
  simp only[Zaa,Zab] at H
  simp +contextual (disch:=omega) only[go_sem,Xi,h1,A3 (H.pt 2 rfl),A2 ld]
  obtain⟨r3,N3,R3,K3⟩:=L5 _ ds b (A4.pre hS H.sub) o hm
  refine Ck R3 K3 ?_
  have H:=H.add K3
  simp only[Zaa,Zab] at H
  simp +contextual (disch:=omega) only[go_sem,Xi,h1]
  refine A9 (Fh _ _ _ _ _ (H.sl 1 rfl) (H.sl 0 rfl) (by omega)) ?_
  cases h2:decide (Ag a false o=Ag b false o) with
  |false=>
   have hE:Ao a b o=false:=by simp[Ao,h2]
   simp +contextual (disch:=omega) only[go_sem,hE,H.sub]
  |true=>
   simp +contextual (disch:=omega) only[go_sem,A3 (H.pt 3 rfl),A2 ld]
   obtain⟨r4,N4,R4,K4⟩:=Mm _ ds b (A4.pre hS H.sub) o hm
   refine Ck R4 K4 ?_
   have H:=H.add K4
   simp only[Zaa,Zab] at H
   simp +contextual (disch:=omega) only[go_sem]
   refine A9 (Fh _ _ _ _ _ (H.sl 3 rfl) (H.sl 0 rfl) (by omega)) ?_
   cases h3:decide (Ag a true o=Ag b true o) with
   |false=>
    have hE:Ao a b o=false:=by simp[Ao,h3]
    simp +contextual (disch:=omega) only[go_sem,hE,H.sub]
   |true=>
    have hE:Ao a b o=(decide (Hh a o=Hh b o)&&Ce a b o (Ag a true o)):=by simp[Ao,h1,h2,h3]
    rw[hE]
    generalize hks:Ag a true o=ks at*
    have hlnk:=(H.sl 3 rfl).len
    simp +contextual (disch:=omega) only[go_sem,hlnk]
    refine A0w ks.length 40 0 (fun i env N=>env 2= .str o/\env 3= .ptr n1 0/\env 4= .ptr n2 0/\env 38=r1/\env 39=gi ks.length/\(∀ j (hj:j<i) (hl:j<ks.length),Gr a o ks[j]=Gr b o ks[j])/\Hp U N [ow pS.kd r1 ks,pt 1 n2 ds,pt 1 n1 cs]) (fun env N=>env 2= .str o/\env 3= .ptr n1 0/\env 4= .ptr n2 0/\Ce a b o ks=true/\Hp U N [ow pS.kd r1 ks,pt 1 n2 ds,pt 1 n1 cs]) (fun env N=>env 6= .bool false/\Ce a b o ks=false/\U <+: N) rfl ⟨rfl,rfl,rfl,rfl,rfl,fun j hj=>by omega,H.drop1.drop1.drop1⟩ ?_ ?_ ?_ ?_
    ·clear H
     rintro J Yq Wq hJ hY hW i env N hi e8 c0 ⟨e2,e3,e4,e7,e9,ha,H⟩
     have i1:=Ih (H.sl 0 rfl) hi
     obtain⟨q1,N7,Q1,L1⟩:=L7 _ cs a (A4.pre hR H.sub) o ks[i] hl
     simp +contextual (disch:=omega) only[go_sem,c0,e2,e3,e4,e7,e8,e9,i1,A3 (H.pt 2 rfl),A2 lc]
     refine Ck Q1 L1 ?_
     have H1:=H.add L1
     simp only[Zaa,Zab] at H1
     obtain⟨q2,N8,Q2,L2⟩:=L7 _ ds b (A4.pre hS H1.sub) o ks[i] hm
     simp +contextual (disch:=omega) only[go_sem,e2,e3,e4,e7,e8,e9,A3 (H1.pt 2 rfl),A2 ld]
     refine Ck Q2 L2 ?_
     have H2:=H1.add L2
     simp only[Zaa,Zab] at H2
     simp +contextual (disch:=omega) only[go_sem]
     have hml:=La a o ks[i]
     refine A9 (Gy _ _ _ _ _ (H2.sl 1 rfl) (H2.sl 0 rfl) (by omega)) ?_
     cases hq:decide (Gr a o ks[i]=Gr b o ks[i]) with
     |false=>
      have hno:Ce a b o ks=false:=by
       unfold Ce
       rw[Zbc]
       exact⟨ks[i],Zag hi,by rw[hq];simp⟩
      simp +contextual (disch:=omega) only[go_sem]
      refine hW _ _ ⟨?_,hno,H2.sub⟩
      simp +contextual (disch:=omega) only[go_sem]
     |true=>
      simp +contextual (disch:=omega) only[go_sem,e2,e3,e4,e7,e8,e9]
      refine hJ _ _ _ ⟨?_,?_,?_,?_,?_,fun j hj hl=> ?_,H2.drop1.drop1⟩
      all_goals first|(simp +contextual (disch:=omega) only[go_sem,e2,e3,e4,e7,e8,e9];done)|skip
      rcases Za3 j i with h|h
      ·exact ha j h hl
      ·have:j=i:=by omega
       subst this;simpa using hq
    ·clear H
     rintro Yq hY env N e8 c0 ⟨e2,e3,e4,e7,e9,ha,H⟩
     have hyes:Ce a b o ks=true:=by
      unfold Ce
      rw[Zbd]
      intro x hx
      obtain⟨j,hj,rfl⟩:=Zas hx
      simpa using ha j hj hj
     simp +contextual (disch:=omega) only[go_sem,c0,e2,e3,e4,e7,e8,e9]
     refine hY _ _ ⟨?_,?_,?_,hyes,H⟩
     all_goals simp +contextual (disch:=omega) only[go_sem,e2,e3,e4]
    ·clear H
     rintro env N ⟨e2,e3,e4,hy,H⟩
     simp +contextual (disch:=omega) only[go_sem,e2,e3,e4,A3 (H.pt 2 rfl),A2 lc]
     obtain⟨r5,N5,R5,K5⟩:=L8 _ cs a (A4.pre hR H.sub) o hl
     refine Ck R5 K5 ?_
     have H:=H.add K5
     simp only[Zaa,Zab] at H
     simp +contextual (disch:=omega) only[go_sem,e2,e3,e4,A3 (H.pt 2 rfl),A2 ld]
     obtain⟨r6,N6,R6,K6⟩:=L8 _ ds b (A4.pre hS H.sub) o hm
     refine Ck R6 K6 ?_
     have H:=H.add K6
     simp only[Zaa,Zab] at H
     simp +contextual (disch:=omega) only[go_sem]
     refine A9 (Gy _ _ _ _ _ (H.sl 1 rfl) (H.sl 0 rfl) (by omega)) ?_
     simp +contextual (disch:=omega) only[go_sem,hy,Zbg,H.sub]
    ·clear H
     rintro env N ⟨e6,hy,hp⟩
     simp +contextual (disch:=omega) only[go_sem,e6,hy,Bool.and_false,hp]
def A2l:Fn1:=⟨5,[.t 2],(rg [o 2 (.mov (.k s0))] (rg [oM 3 0,oC 4 249 3,oM 2 4] .ret))⟩
theorem Aci:A6 Tryz.prog 173=some A2l:=by kernel_rfl
def Agl:Fn1:=⟨25,[.t 4],(rg [o 4 (.mov (.k s0))] (rg [o 8 (.lit 1 0 [] []),oM 5 8] (.seq (rg [oM 9 0,oN 10 9,oV 11 (ki 0)] (oH 0 (rg [oB 12 .lss 11 10] (.seq (oJ 12 0) (.seq (.blk 1 (rg [oI 13 1 9 11,oL 14 13,oM 7 14] (.reg [oM 15 5,oM 16 7,o 17 (.mm true (.t 16) (ki 0)),oC 18 173 17,o 19 (.lit 1 1 [s0] [(0,1,(.t 18))]),o 20 (.app 1 16 [s0] (.t 15) (.t 19)),oM 5 20]))) (.reg [oZ 21 11 1,oM 11 21])))))) (rg [oM 22 5,oM 23 1,oD 24 104 22 23,oM 4 24] .ret))))⟩
theorem Ak7:A6 Tryz.prog 102=some Agl:=by kernel_rfl
def mx0 (n:Int):Int:=if(0:Int)>n then 0 else n
theorem Ak8 (n:Int):0<=mx0 n:=by unfold mx0;split<;>omega
theorem Ak9 {n m:Int} (h:n<=m) (h0:0<=m):mx0 n<=m:=by unfold mx0;split<;>omega
def Db (l:List Int):List ByteArray:=l.map fun n=>itB (mx0 n)
def tolB (l:List Int) (sep:ByteArray):ByteArray:=joB (Db l) sep
theorem Ef (b:ByteArray):b.data.toList.length=b.size:=by rw[Array.length_toList];rfl
theorem A90 {n:Int} (h0:0<=n) (h1:n<=9223372036854775807):(itB n).size<=21:=by
 have:=Lib.itoa_length_le n (by omega) h1
 have e:=Ef (itB n)
 have e2:(itB n).data.toList=Lib.itoa n:=by simp[itB]
 rw[e2] at e;omega
theorem Q3 {l:List Int} (h:∀ x∈l,x≤9223372036854775807):∀ s∈Db l,s.size<=21:=fun s hs=>by
 obtain⟨n,hn,rfl⟩:=Zay.1 hs
 exact A90 (Ak8 n) (Ak9 (h n hn) (by omega))
theorem Aoc {l:List ByteArray} {b:Nat} (h:∀ x∈l,x.size<=b):Lib.lens (l.map (·.data.toList))<=l.length*b:=by
 induction l with
 |nil=>simp[Lib.lens]
 |cons x l ih=>
  have h1:=ih fun y hy=>h y (Za6 _ hy)
  have h2:=h x Zba
  have e:=Ef x
  simp only[Lib.lens,Zat,List.sum_cons,Zak,Nat.add_mul,Nat.one_mul] at h1 ⊢
  omega
theorem Aka {l:List ByteArray} {sep:ByteArray} {b:Nat} (h:∀ x∈l,x.size<=b):(Lib.join (l.map (·.data.toList)) sep.data.toList).length<=l.length*(b+sep.size):=by
 cases l with
 |nil=>simp[Lib.join_nil]
 |cons x l=>
  have h1:=Aoc (l:=l) fun y hy=>h y (Za6 _ hy)
  have h2:=h x Zba
  have e:=Ef x
  have e2:=Ef sep
  rw[Zat,Lib.join_cons,Zah,Lib.joinTail_length,Zaf,Zak,Nat.add_mul,Nat.mul_add,Nat.mul_comm sep.data.toList.length]
  rw[e2]
  omega
theorem Iw (l:List ByteArray) (sep:ByteArray):(joB l sep).data.toList=Lib.join (l.map (·.data.toList)) sep.data.toList:=by simp[joB]
theorem Zr {l:List ByteArray} {sep:ByteArray} {b:Nat} (h:∀ x∈l,x.size<=b):(joB l sep).size<=l.length*(b+sep.size):=by
 rw[<- Ef,Iw];exact Aka h
theorem Mr {a b:ByteArray} (h:a.data.toList=b.data.toList):a=b:=ByteArray.ext (Array.ext' h)
theorem Oo (a b:ByteArray):(a++b).data.toList=a.data.toList++b.data.toList:=by rw[ByteArray.data_append,Array.toList_append]
theorem Aod (x sep:ByteArray):joB [x] sep=x:=Mr (by rw[Iw];simp[Lib.join_one])
theorem Aln {l:List ByteArray} (hl:l≠[]) (x sep:ByteArray):joB (l++[x]) sep=joB l sep++sep++x:=by
 cases l with
 |nil=>exact absurd rfl hl
 |cons y l=>
  refine Mr ?_
  rw[Oo,Oo,Iw,Iw,Zaa,Zat,Zat,Lib.join_cons,Lib.join_cons,Zaw]
  simp[Lib.joinTail]
theorem A91 (U:St) (n:Int) (h0: -9223372036854775808<=n) (h1:n<=9223372036854775807):Ret Tryz.prog 173 [gi n] U (.str (itB n)) U:=by
 refine Lq Aci (Z0z rfl) trivial ?_
 simp +contextual (disch:=omega) only[go_sem,A2l]
 refine by_r (Hx.refl U) (Ala U n h0 h1) ?_
 simp +contextual (disch:=omega) only[go_sem]
theorem A2m {l:List Int} {i:Nat} (h:i<l.length):Db (l.take (i+1))=Db (l.take i)++[itB (mx0 l[i])]:=Qz h
theorem Hu (U:St) (v:GV) (l:List Int) (hR:RS pI.kd U v l) (sep:ByteArray) (hs:sep.size<=8) (hI:∀ x∈l,x≤9223372036854775807) (hl:l.length<=1099511627776):Ret Tryz.prog 102 [v,.str sep] U (.str (tolB l sep)) U:=by
 refine Lq Ak7 (Z0z rfl) trivial ?_
 simp +contextual (disch:=omega) only[go_sem,Agl,hR.len]
 intro n f N H
 have H:=H.emp pS.kd rfl
 refine M8 l.length 11 0 (fun i env h=>env 1= .str sep/\env 9=v/\env 10=gi l.length/\∃ u,env 5=u/\h=[.th (ow pS.kd u (Db (l.take i)))]) (fun env h=>env 1= .str sep/\∃ u,env 5=u/\h=[.th (ow pS.kd u (Db l))]) (fun env h=>False) _ H (by simp +contextual (disch:=omega) only[go_sem]) ⟨by simp +contextual (disch:=omega) only[go_sem],by simp +contextual (disch:=omega) only[go_sem],by simp +contextual (disch:=omega) only[go_sem],_,by simp +contextual (disch:=omega) only[go_sem],rfl⟩ ?_ ?_ ?_ (fun _ _ _ _ h=>h.elim)
 ·rintro J Yq Wq hJ hY hW i env h N hi ei c0 H ⟨e1,e9,e10,u,e5,rfl⟩
  have L1:=Cx (hR.pre H.sub) hi
  have hx:=hI _ (Zag hi)
  have hmx:(if (0:Int)>l[i] then 0 else l[i])=mx0 l[i]:=rfl
  simp +contextual (disch:=omega) only[go_sem,c0,e1,e9,e10,e5,ei,A5,Pn H L1.2,L1,hmx]
  have m0:=Ak8 l[i]
  have m1:=Ak9 hx (by omega)
  refine by_r H (A91 N (mx0 l[i]) (by omega) m1) ?_
  simp +contextual (disch:=omega) only[go_sem,e5]
  intro n f N2 H2
  refine J7 (p:=pS) H2 1 rfl (itB (mx0 l[i])) J6 (by decide) (by rw[Db,Zaf,Zal];omega) fun w' N4 H4=> ?_
  simp +contextual (disch:=omega) only[go_sem,e1,e9,e10,ei]
  exact hJ _ _ _ _ (H4.re [1] (by decide)) ⟨by simp +contextual (disch:=omega) only[go_sem,e1],by simp +contextual (disch:=omega) only[go_sem,e9],by simp +contextual (disch:=omega) only[go_sem,e10],w',by simp +contextual (disch:=omega) only[go_sem],by rw[A2m hi];rfl⟩
 ·rintro Yq hY env h N ei c0 H ⟨e1,e9,e10,u,e5,rfl⟩
  rw[Zae] at H
  simp +contextual (disch:=omega) only[go_sem,c0,e10,ei]
  exact hY _ _ _ H ⟨by simp +contextual (disch:=omega) only[go_sem,e1],u,by simp +contextual (disch:=omega) only[go_sem,e5],rfl⟩
 ·rintro env h N H ⟨e1,u,e5,rfl⟩
  obtain⟨fp,ho,_⟩:=H.hp.see (i:=0) rfl
  simp +contextual (disch:=omega) only[go_sem,e1,e5]
  have hn:(Db l).length=l.length:=by simp[Db]
  have hj:=Aka (l:=Db l) (sep:=sep) (Q3 hI)
  refine by_r H (Zn N u (Db l) fp ho sep (by omega) (by
   have:(Db l).length*(21+sep.size)<=1099511627776*29:=Zax (by omega) (by omega)
   omega)) ?_
  simp +contextual (disch:=omega) only[go_sem]
  exact fun _=>rfl
def Rx:Fn1:=⟨12,[.t 2],(rg [o 2 (.mov (.k (.int .u8 0)))] (.seq (rg [oM 3 0,oE 4 .lss 3 10] (oG 4 (rg [oM 5 0,o 6 (.bin .add (ki 48) (.t 5)),o 7 (.cvi .u8 (.t 6)),oM 2 7] .ret))) (rg [oM 8 0,o 9 (.bin .add (ki 97) (.t 8)),oE 10 .sub 9 10,o 11 (.cvi .u8 (.t 10)),oM 2 11] .ret)))⟩
theorem A4n:A6 Tryz.prog 237=some Rx:=by kernel_rfl
def Q4:Fn1:=⟨30,[.t 2],(rg [o 2 (.mov (.k s0))] (.seq (rg [oM 6 0,oE 7 .eql 6 0] (oG 7 (rg [o 2 (.mov (.k (.str ⟨#[48]⟩)))] .ret))) (rg [oM 8 0,oE 9 .lss 8 0,oM 3 9] (rg [o 4 (.mov (.k s0))] (.seq (oH 0 (.seq (rg [oM 10 0,oE 11 .neq 10 0] (oJ 11 0)) (.blk 1 (rg [oM 12 0,oE 13 .rem 12 10,oM 5 13] (.seq (rg [oM 14 5,oE 15 .lss 14 0] (oG 15 (.reg [oM 16 5,o 17 (.un .neg (.t 16)),oM 5 17]))) (rg [oM 18 5,oC 19 237 18,o 20 (.lit 1 1 [(.int .u8 0)] [(0,1,(.t 19))]),o 21 (.bts (.t 20)),oM 22 4,oB 23 .add 21 22,oM 4 23] (.reg [oM 24 0,oE 25 .quo 24 10,oM 0 25]))))))) (.seq (rg [oM 26 3] (oG 26 (rg [oM 27 4,o 28 (.bin .add (.k (.str ⟨#[45]⟩)) (.t 27)),oM 2 28] .ret))) (rg [oM 29 4,oM 2 29] .ret)))))))⟩
theorem Acj:A6 Tryz.prog 159=some Q4:=by kernel_rfl
def A2p:Fn1:=⟨33,[.t 4],(rg [o 4 (.mov (.k s0))] (rg [o 5 (.mov (.k s0))] (.seq (rg [oV 6 (ki 0)] (oH 0 (.seq (rg [oM 7 6,oM 8 0,oN 9 8,oB 10 .lss 7 9] (oJ 10 0)) (.seq (.blk 1 (.seq (rg [oM 13 6,oE 14 .gtr 13 0] (oG 14 (.reg [oM 15 5,oM 16 1,oB 17 .add 15 16,oM 5 17]))) (rg [oM 18 0,oM 19 6,oI 20 1 18 19,oL 21 20,oE 22 .gtr 21 0] (cn 22 (.reg [oM 23 5,oM 24 0,oM 25 6,oI 26 1 24 25,oL 27 26,oC 28 159 27,oB 29 .add 23 28,oM 5 29]) (.reg [oM 30 5,o 31 (.bin .add (.t 30) (.k (.str ⟨#[48]⟩))),oM 5 31]))))) (.reg [oM 11 6,oZ 12 11 1,oM 6 12]))))) (rg [oM 32 5,oM 4 32] .ret))))⟩
theorem Ack:A6 Tryz.prog 130=some A2p:=by kernel_rfl
def Xk:Fn1:=⟨22,[.t 2],(rg [o 2 (.mov (.k s0))] (rg [o 3 (.mov (.k s0))] (.seq (rg [oV 4 (ki 0)] (oH 0 (.seq (rg [oM 5 4,oM 6 0,oN 7 6,oB 8 .lss 5 7] (oJ 8 0)) (.seq (.blk 1 (.seq (rg [oM 11 4,oE 12 .gtr 11 0] (oG 12 (.reg [oM 13 3,o 14 (.bin .add (.t 13) (.k (.str ⟨#[44]⟩))),oM 3 14]))) (.reg [oM 15 3,oM 16 0,oM 17 4,oI 18 1 16 17,oL 19 18,oB 20 .add 15 19,oM 3 20]))) (.reg [oM 9 4,oZ 10 9 1,oM 4 10]))))) (rg [oM 21 3,oM 2 21] .ret))))⟩
theorem A92:A6 Tryz.prog 132=some Xk:=by kernel_rfl
theorem A2q (U:St) (d:Nat) (hd:d<10):Ret Tryz.prog 237 [gi d] U (.int .u8 (48+d)) U:=by
 have c1:decide ((d:Int)<10)=true:=decide_eq_true (by omega)
 have hw:IntKind.u8.wrap (48+(d:Int))=48+(d:Int):=Ahb (by omega) (by omega)
 refine Lq A4n (Z0z rfl) trivial ?_
 simp +contextual (disch:=omega) only[go_sem,Rx,c1,hw]
def ddL (k:Nat):List UInt8:=if k=0 then[] else Lib.decDigits k
theorem Alo {k:Nat} (h:k≠0):ddL k=ddL (k / 10)++[UInt8.ofNat (48+k % 10)]:=by
 unfold ddL
 rw[if_neg h,Lib.decDigits]
 by_cases h1:k<10
 ·rw[dif_pos h1,if_pos (by omega),Nat.mod_eq_of_lt h1];rfl
 ·rw[dif_neg h1,if_neg (by omega)]
theorem Agm {Y:Type} {x y:Y}:(if (10:Int)=0 then x else y)=y:=by rw[if_neg (by omega)]
theorem tmod10 (k:Nat):(k:Int).tmod 10=((k % 10:Nat):Int):=by rw[Int.tmod_eq_emod_of_nonneg (by omega)];omega
theorem tdiv10 (k:Nat):(k:Int).tdiv 10=((k / 10:Nat):Int):=by rw[Int.tdiv_eq_ediv_of_nonneg (by omega)];omega
theorem Afb (u:Nat):(itB u).data.toList=Lib.decDigits u:=by simp[itB,Lib.itoa_nonneg]
theorem A93:itB 0=⟨#[48]⟩:=Mr (by have:=Afb 0;rw[Za8] at this;rw[this,Lib.decDigits_one (by omega)];rfl)
theorem Aoe (d:Nat):(txt [48+(d:Int)]).data.toList=[UInt8.ofNat (48+d)]:=by
 have:(48+(d:Int)).toNat=48+d:=by omega
 simp[txt,this]
theorem Ry (U:St) (u:Nat) (h1:u<=9223372036854775807):Ret Tryz.prog 159 [gi u] U (.str (itB u)) U:=by
 refine Lq Acj (Z0z rfl) trivial ?_
 by_cases h0:u=0
 ·subst h0
  simp +contextual (disch:=omega) only[go_sem,Q4,Za8,beq_self_eq_true]
  exact fun _=>A93.symm
 have c0:((u:Int)==0)=false:=by simpa using h0
 have c1:decide ((u:Int)<0)=false:=decide_eq_false (by omega)
 have hd:(Lib.decDigits u).length<=21:=by
  have:=A90 (n:=u) (by omega) (by omega)
  rw[<- Ef,Afb] at this;exact this
 simp +contextual (disch:=omega) only[go_sem,Q4,c0,c1]
 refine Ab0 u 0 (fun k env h=>k<=u/\env 0=gi k/\env 3= .bool false/\(∃ t,env 4= .str t/\ddL k++t.data.toList=Lib.decDigits u)/\h=[]) (fun env h=>env 3= .bool false/\env 4= .str (itB u)) (fun env h=>False) _ (Hx.refl U) ⟨Nat.le_refl _,by simp +contextual (disch:=omega) only[go_sem],by simp +contextual (disch:=omega) only[go_sem],⟨⟨#[]⟩,by simp +contextual (disch:=omega) only[go_sem],by simp[ddL,h0]⟩,rfl⟩ ?_ ?_ (fun _ _ _ _ h=>h.elim)
 ·rintro J Yq Wq hJ hY hW k env h N H ⟨hk,e0,e3,⟨t,e4,ht⟩,rfl⟩
  have hts:t.size<=21:=by
   rw[<- Ef]
   have:=congrArg Zbe ht
   rw[Zah] at this;omega
  by_cases hz:k=0
  ·subst hz
   simp +contextual (disch:=omega) only[go_sem,e0,Za8,bne_self_eq_false]
   refine hY _ _ _ H ⟨by simp +contextual (disch:=omega) only[go_sem,e3],?_⟩
   simp +contextual (disch:=omega) only[go_sem,e4]
   refine Mr ?_
   rw[Afb,<-ht];rfl
  ·have b1:((k:Int) != 0)=true:=by simpa using hz
   have b2:decide (((k % 10:Nat):Int)<0)=false:=decide_eq_false (by omega)
   simp +contextual (disch:=omega) only[go_sem,e0,b1,Agm,tmod10,b2]
   refine by_r H (A2q N (k % 10) (by omega)) ?_
   simp +contextual (disch:=omega) only[go_sem]
   intro n f N2 H2
   have hu:=Alc (A5s (p:=pB) (x:=48+((k % 10:Nat):Int)) (H2.hp.pt 0 rfl))
   have hsz:(txt [48+((k % 10:Nat):Int)]).size+t.size<=9223372036854775807:=by rw[Ii];simp;omega
   simp +contextual (disch:=omega) only[go_sem,hu,e4,e0,hsz,Agm,tdiv10]
   refine⟨k / 10,by omega,hJ _ _ _ _ (H2.re [] (by decide)) ⟨by omega,by simp +contextual (disch:=omega) only[go_sem],by simp +contextual (disch:=omega) only[go_sem,e3],⟨txt [48+((k % 10:Nat):Int)]++t,by simp +contextual (disch:=omega) only[go_sem],?_⟩,rfl⟩⟩
   rw[Oo,Aoe,<-List.append_assoc,<-Alo hz];exact ht
 ·rintro env h N H ⟨e3,e4⟩
  simp +contextual (disch:=omega) only[go_sem,e3,e4]
theorem A2r (b:ByteArray):(⟨#[]⟩:ByteArray)++b=b:=Mr (by rw[Oo];rfl)
theorem Agn (l:List ByteArray) (x sep:ByteArray):joB (l++[x]) sep=if l=[] then x else joB l sep++sep++x:=by
 split
 ·rename_i h;subst h;exact Aod x sep
 ·rename_i h;exact Aln h x sep
theorem Aof {l:List Int} {i:Nat} (hi:i<l.length) (h:0<i):Db (l.take i)≠[]:=fun e=>by
 have:=congrArg Zbe e
 rw[Db,Zaf,Zal,Zao] at this
 omega
theorem E1 (U:St) (v:GV) (l:List Int) (hR:RS pI.kd U v l) (sep:ByteArray) (hs:sep.size<=8) (hI:∀ x∈l,x≤9223372036854775807) (hl:l.length<=1099511627776):Ret Tryz.prog 130 [v,.str sep] U (.str (tolB l sep)) U:=by
 refine Lq Ack (Z0z rfl) trivial ?_
 simp +contextual (disch:=omega) only[go_sem,A2p]
 refine M8 l.length 6 0 (fun i env h=>env 0=v/\env 1= .str sep/\env 5= .str (joB (Db (l.take i)) sep)/\h=[]) (fun env h=>env 5= .str (tolB l sep)) (fun env h=>False) _ (Hx.refl U) (by simp +contextual (disch:=omega) only[go_sem]) ⟨by simp +contextual (disch:=omega) only[go_sem],by simp +contextual (disch:=omega) only[go_sem],by simp +contextual (disch:=omega) only[go_sem];rfl,rfl⟩ ?_ ?_ ?_ (fun _ _ _ _ h=>h.elim)
 ·rintro J Yq Wq hJ hY hW i env h N hi ei c0 H ⟨e0,e1,e5,rfl⟩
  have L1:=Cx hR hi
  have hx:=hI _ (Zag hi)
  have hT:(joB (Db (l.take i)) sep).size<=i*(21+sep.size):=by
   have:=Zr (sep:=sep) (Q3 (l:=l.take i) fun x hx=>hI x (Za7 hx))
   have e:(Db (l.take i)).length=i:=by simp[Db,Zal];omega
   rw[e] at this;exact this
  have hT2:i*(21+sep.size)<=1099511627776*29:=Zax (by omega) (by omega)
  have hn:=Agn (Db (l.take i)) (itB (mx0 l[i])) sep
  rw[<- A2m hi] at hn
  have hz:i=0->joB (Db (l.take i)) sep=⟨#[]⟩:=fun e=>by subst e;rfl
  have hm:=A90 (Ak8 l[i]) (Ak9 hx (by omega))
  generalize joB (Db (l.take i)) sep=T at*
  rcases Zbb i with h0|h0
  ·have hT0:=hz h0
   subst hT0
   have hn':joB (Db (l.take (i+1))) sep=itB (mx0 l[i]):=by rw[hn,if_pos (by rw[h0];rfl)]
   have i0:decide ((0:Int)<i)=false:=decide_eq_false (by omega)
   cases c2:decide (0<l[i]) with
   |true=>
    have hp:=of_decide_eq_true c2
    obtain⟨u,hu⟩:∃ u:Nat,l[i]=u:=⟨l[i].toNat,by omega⟩
    have hmu:mx0 l[i]=u:=by unfold mx0;rw[if_neg (by omega)];exact hu
    rw[hmu] at hm hn'
    rw[hu] at c2
    have b3:(#[]:Array UInt8).size+(itB u).size<=9223372036854775807:=by
     have:(#[]:Array UInt8).size=0:=rfl
     omega
    simp +contextual (disch:=omega) only[go_sem,c0,e0,e1,e5,ei,hR.len,A5,L1,i0,hu,c2]
    refine by_r H (Ry N u (by omega)) ?_
    simp +contextual (disch:=omega) only[go_sem,e0,e1,e5,ei,b3]
    exact hJ _ _ _ _ H ⟨by simp +contextual (disch:=omega) only[go_sem,e0],by simp +contextual (disch:=omega) only[go_sem,e1],by rw[hn'];simp +contextual (disch:=omega) only[go_sem,A2r],rfl⟩
   |false=>
    have hp:=of_decide_eq_false c2
    have hmu:mx0 l[i]=0:=by unfold mx0;split<;>omega
    rw[hmu,A93] at hn'
    have b3:(#[]:Array UInt8).size+(#[48]:Array UInt8).size<=9223372036854775807:=by decide
    simp +contextual (disch:=omega) only[go_sem,c0,e0,e1,e5,ei,hR.len,A5,L1,i0,c2,b3]
    exact hJ _ _ _ _ H ⟨by simp +contextual (disch:=omega) only[go_sem,e0],by simp +contextual (disch:=omega) only[go_sem,e1],by rw[hn'];simp +contextual (disch:=omega) only[go_sem,A2r],rfl⟩
  ·have hn':joB (Db (l.take (i+1))) sep=T++sep++itB (mx0 l[i]):=by rw[hn,if_neg (Aof hi h0)]
   have i0:decide ((0:Int)<i)=true:=decide_eq_true (by omega)
   have b1:T.size+sep.size<=9223372036854775807:=by omega
   cases c2:decide (0<l[i]) with
   |true=>
    have hp:=of_decide_eq_true c2
    obtain⟨u,hu⟩:∃ u:Nat,l[i]=u:=⟨l[i].toNat,by omega⟩
    have hmu:mx0 l[i]=u:=by unfold mx0;rw[if_neg (by omega)];exact hu
    rw[hmu] at hm hn'
    rw[hu] at c2
    have b3:T.size+sep.size+(itB u).size<=9223372036854775807:=by omega
    simp +contextual (disch:=omega) only[go_sem,c0,e0,e1,e5,ei,hR.len,A5,L1,i0,b1,hu,c2]
    refine by_r H (Ry N u (by omega)) ?_
    simp +contextual (disch:=omega) only[go_sem,e0,e1,e5,ei,ByteArray.size_append,b3]
    exact hJ _ _ _ _ H ⟨by simp +contextual (disch:=omega) only[go_sem,e0],by simp +contextual (disch:=omega) only[go_sem,e1],by rw[hn'];simp +contextual (disch:=omega) only[go_sem],rfl⟩
   |false=>
    have hp:=of_decide_eq_false c2
    have hmu:mx0 l[i]=0:=by unfold mx0;split<;>omega
    rw[hmu,A93] at hn'
    have b4:(#[48]:Array UInt8).size=1:=rfl
    have b3:T.size+sep.size+(#[48]:Array UInt8).size<=9223372036854775807:=by omega
    simp +contextual (disch:=omega) only[go_sem,c0,e0,e1,e5,ei,hR.len,A5,L1,i0,b1,c2,ByteArray.size_append,b3]
    exact hJ _ _ _ _ H ⟨by simp +contextual (disch:=omega) only[go_sem,e0],by simp +contextual (disch:=omega) only[go_sem,e1],by rw[hn'];simp +contextual (disch:=omega) only[go_sem],rfl⟩
 ·rintro Yq hY env h N ei c0 H ⟨e0,e1,e5,rfl⟩
  rw[Zae] at e5
  simp +contextual (disch:=omega) only[go_sem,c0,e0,ei,hR.len]
  exact hY _ _ _ H (by simp +contextual (disch:=omega) only[go_sem,e5];rfl)
 ·rintro env h N H e5
  simp +contextual (disch:=omega) only[go_sem,e5]
theorem Je (U:St) (v:GV) (l:List ByteArray) (hR:RS pS.kd U v l) (b:Nat) (hb:∀ x∈l,x.size<=b) (hj:l.length*(b+1)<=140737488355328) (hl:l.length<=1099511627776):Ret Tryz.prog 132 [v] U (.str (joB l ⟨#[44]⟩)) U:=by
 refine Lq A92 (Z0z rfl) trivial ?_
 simp +contextual (disch:=omega) only[go_sem,Xk]
 refine M8 l.length 4 0 (fun i env h=>env 0=v/\env 3= .str (joB (l.take i) ⟨#[44]⟩)/\h=[]) (fun env h=>env 3= .str (joB l ⟨#[44]⟩)) (fun env h=>False) _ (Hx.refl U) (by simp +contextual (disch:=omega) only[go_sem]) ⟨by simp +contextual (disch:=omega) only[go_sem],by simp +contextual (disch:=omega) only[go_sem];rfl,rfl⟩ ?_ ?_ ?_ (fun _ _ _ _ h=>h.elim)
 ·rintro J Yq Wq hJ hY hW i env h N hi ei c0 H ⟨e0,e3,rfl⟩
  have L1:=Ih hR hi
  have hx:=hb _ (Zag hi)
  have hT:(joB (l.take i) ⟨#[44]⟩).size<=i*(b+1):=by
   have:=Zr (sep:=⟨#[44]⟩) (l:=l.take i) fun x hx=>hb x (Za7 hx)
   have e:(l.take i).length=i:=by rw[Zal];omega
   rw[e] at this;exact this
  have hT2:i*(b+1)+(b+1)<=l.length*(b+1):=by rw[<- Nat.succ_mul];exact Zaz _ hi
  have hn:=Agn (l.take i) l[i] ⟨#[44]⟩
  rw[<- Ax hi] at hn
  have hz:i=0->joB (l.take i) ⟨#[44]⟩=⟨#[]⟩:=fun e=>by subst e;rfl
  generalize joB (l.take i) ⟨#[44]⟩=T at*
  rcases Zbb i with h0|h0
  ·have hT0:=hz h0
   subst hT0
   have hn':joB (l.take (i+1)) ⟨#[44]⟩=l[i]:=by rw[hn,if_pos (by rw[h0];rfl)]
   have i0:decide ((0:Int)<i)=false:=decide_eq_false (by omega)
   have b3:(#[]:Array UInt8).size+l[i].size<=9223372036854775807:=by
    have:(#[]:Array UInt8).size=0:=rfl
    omega
   simp +contextual (disch:=omega) only[go_sem,c0,e0,e3,ei,hR.len,A5,L1,i0,b3]
   exact hJ _ _ _ _ H ⟨by simp +contextual (disch:=omega) only[go_sem,e0],by rw[hn'];simp +contextual (disch:=omega) only[go_sem,A2r],rfl⟩
  ·have hne:l.take i≠[]:=fun e=>by
    have:=congrArg Zbe e
    rw[Zal,Zao] at this
    omega
   have hn':joB (l.take (i+1)) ⟨#[44]⟩=T++⟨#[44]⟩++l[i]:=by rw[hn,if_neg hne]
   have i0:decide ((0:Int)<i)=true:=decide_eq_true (by omega)
   have b4:(#[44]:Array UInt8).size=1:=rfl
   have b1:T.size+(#[44]:Array UInt8).size<=9223372036854775807:=by omega
   have b3:T.size+(#[44]:Array UInt8).size+l[i].size<=9223372036854775807:=by omega
   simp +contextual (disch:=omega) only[go_sem,c0,e0,e3,ei,hR.len,A5,L1,i0,b1,ByteArray.size_append,b3]
   exact hJ _ _ _ _ H ⟨by simp +contextual (disch:=omega) only[go_sem,e0],by rw[hn'];simp +contextual (disch:=omega) only[go_sem],rfl⟩
 ·rintro Yq hY env h N ei c0 H ⟨e0,e3,rfl⟩
  rw[Zae] at e3
  simp +contextual (disch:=omega) only[go_sem,c0,e0,ei,hR.len]
  exact hY _ _ _ H (by simp +contextual (disch:=omega) only[go_sem,e3])
 ·rintro env h N H e5
  simp +contextual (disch:=omega) only[go_sem,e5]
def Mt:Fn1:=⟨52,[.t 4],(rg [oX 2 0,o 4 (.mov (.k s0))] (rg [o 9 (.lit 1 0 [] []),oM 5 9] (.seq (rg [oW 10 4 2,oM 11 1,oD 12 144 10 11,oN 13 12,oV 14 (ki 0)] (oH 0 (rg [oB 15 .lss 14 13] (.seq (oJ 15 0) (.seq (.blk 1 (rg [oI 16 1 12 14,oL 17 16,oM 7 17] (.reg [oM 18 5,oM 19 7,o 20 (.bin .add (.t 19) (.k (.str ⟨#[61]⟩))),oW 21 4 2,oM 22 1,oM 23 7,o 24 (.call 106 (oT [21,22,23])),o 25 (.call 102 [(.t 24),(.k (.str ⟨#[124]⟩))]),oB 26 .add 20 25,o 27 (.lit 1 1 [s0] [(0,1,(.t 26))]),o 28 (.app 1 16 [s0] (.t 18) (.t 27)),oM 5 28]))) (.reg [oZ 29 14 1,oM 14 29])))))) (rg [oW 30 4 2,oM 31 1,oD 32 103 30 31,o 33 (.lit 1 1 [z0] [(0,1,(.t 32))]),o 34 (.call 102 [(.t 33),(.k s0)]),oM 8 34] (dw [oM 35 8,o 36 (.bin .add (.t 35) (.k (.str ⟨#[32]⟩))),oW 37 4 2,oM 38 1,oD 39 105 37 38,o 40 (.call 104 [(.t 39),(.k (.str ⟨#[44]⟩))]),oB 41 .add 36 40,o 42 (.bin .add (.t 41) (.k (.str ⟨#[32]⟩))),oM 43 5,o 44 (.call 104 [(.t 43),(.k (.str ⟨#[44]⟩))]),oB 45 .add 42 44,o 46 (.bin .add (.t 45) (.k (.str ⟨#[32]⟩))),oW 47 4 2] [oM 48 1,oD 49 107 47 48,o 50 (.call 102 [(.t 49),(.k (.str ⟨#[44]⟩))]),oB 51 .add 46 50,oM 4 51] .ret)))))⟩
theorem Z8:A6 Tryz.prog 53=some Mt:=by kernel_rfl
def Mv:Fn1:=⟨56,[.t 4],(rg [oX 2 0,o 4 (.mov (.k s0))] (rg [oW 8 4 2,oM 9 1,oD 10 151 8 9,oM 5 10] (rg [o 11 (.lit 1 0 [] []),oM 6 11] (.seq (rg [oV 7 (ki 0)] (oH 0 (.seq (rg [oM 12 7,oM 13 5,oN 14 13,oB 15 .lss 12 14] (oJ 15 0)) (.seq (.blk 1 (.drw [oM 18 6,oM 19 5,oM 20 7,oI 21 1 19 20,oL 22 21,o 23 (.bin .add (.t 22) (.k (.str ⟨#[61]⟩))),oW 24 4 2,oM 25 1,oM 26 5,oM 27 7,oI 28 1 26 27,oL 29 28,o 30 (.call 50 (oT [24,25,29])),o 31 (.call 130 [(.t 30),(.k (.str ⟨#[124]⟩))])] [oB 32 .add 23 31,o 33 (.lit 1 1 [s0] [(0,1,(.t 32))]),o 34 (.app 1 16 [s0] (.t 18) (.t 33)),oM 6 34])) (.reg [oM 16 7,oZ 17 16 1,oM 7 17]))))) (dw [oW 35 4 2,oM 36 1,oD 37 131 35 36,o 38 (.lit 1 1 [z0] [(0,1,(.t 37))]),o 39 (.call 130 [(.t 38),(.k s0)]),o 40 (.bin .add (.t 39) (.k (.str ⟨#[32]⟩))),oW 41 4 2,oM 42 1,oD 43 116 41 42,oC 44 132 43,oB 45 .add 40 44,o 46 (.bin .add (.t 45) (.k (.str ⟨#[32]⟩))),oM 47 6,oC 48 132 47,oB 49 .add 46 48,o 50 (.bin .add (.t 49) (.k (.str ⟨#[32]⟩))),oW 51 4 2] [oM 52 1,oD 53 133 51 52,o 54 (.call 130 [(.t 53),(.k (.str ⟨#[44]⟩))]),oB 55 .add 50 54,oM 4 55] .ret)))))⟩
theorem Z9:A6 Tryz.prog 63=some Mv:=by kernel_rfl
def stI (s:State):Prop:=(∀ x∈s.lives,x.val<=9223372036854775807)/\∀ x∈s.cells,x.val<=9223372036854775807
theorem A2s {s:State} (h:stI s) (o k:ByteArray):∀ x∈Gr s o k,x≤9223372036854775807:=fun x hx=>by
 unfold Gr at hx
 obtain⟨y,hy,rfl⟩:=Zay.1 ((Cl _ _).mem_iff.1 hx)
 exact h.1 y (Za5.1 hy).1
theorem A2t {s:State} (h:stI s) (o:ByteArray):∀ x∈Hh s o,x≤9223372036854775807:=fun x hx=>by
 obtain⟨c,hc,rfl⟩:=Zay.1 hx
 obtain⟨T,_,h2,_,h4⟩:=rowT s o
 rw[h2] at hc
 obtain⟨k,hk,_,e⟩:=h4 c (Za5.1 hc).1
 exact h.2 c (e ▸ Zag hk)
theorem Mw (s:State) (o:ByteArray):∀ x∈[Az s o],x≤9223372036854775807:=fun x hx=>by
 have:=A23 (l:=s.tallies) (o:=o) (n:=0) (by decide)
 rw[List.mem_singleton] at hx
 subst hx
 unfold Az;omega
theorem Lc {s:State} {n:Nat} (h:Aa s<=n) (m:Bool) (o:ByteArray):∀ x∈Ag s m o,x.size<=n:=fun x hx=>by
 have:=((Ps (lt:=txLt) (fun x y z=>Ht) Zq _).2 x).1 hx
 obtain⟨l,hl,rfl⟩:=Zay.1 this
 have h6:l.obj.size+l.key.size<=sumL Cr s.lives:=He (f:=Cr) (Za5.1 hl).1
 unfold Aa at h;omega
def mapT (s:State) (o k:ByteArray):ByteArray:=k++⟨#[61]⟩++tolB (Gr s o k) ⟨#[124]⟩
def Za (s:State) (o:ByteArray):ByteArray:=tolB [Az s o] ⟨#[]⟩++⟨#[32]⟩++joB (Ag s false o) ⟨#[44]⟩++⟨#[32]⟩++joB ((Ag s true o).map (mapT s o)) ⟨#[44]⟩++⟨#[32]⟩++tolB (Hh s o) ⟨#[44]⟩
theorem A2u {l:List Int} {sep:ByteArray} (hI:∀ x∈l,x≤9223372036854775807) {n m:Nat} (hl:l.length<=n) (hm:n*(21+sep.size)<=m):(tolB l sep).size<=m:=by
 have:=Zr (sep:=sep) (Q3 hI)
 have e:(Db l).length=l.length:=by simp[Db]
 rw[e] at this
 exact Zau this (Zau (Zaz _ hl) hm)
theorem Acl {l:List ByteArray} {sep:ByteArray} {b n m:Nat} (h:∀ x∈l,x.size<=b) (hl:l.length<=n) (hm:n*(b+sep.size)<=m):(joB l sep).size<=m:=Zau (Zr h) (Zau (Zaz _ hl) hm)
theorem A94 {s:State} (h:stI s) (hl:Aa s<=1048576) (o k:ByteArray):(tolB (Gr s o k) ⟨#[124]⟩).size<=23068672:=A2u (A2s h o k) (Zau (La s o k) hl) (by decide)
theorem Acm {s:State} (h:stI s) (hl:Aa s<=1048576) {o k:ByteArray} (hk:k.size<=1048576):(mapT s o k).size<=24117249:=by
 have h1:=A94 h hl o k
 have h2:(⟨#[61]⟩:ByteArray).size=1:=rfl
 rw[mapT,ByteArray.size_append,ByteArray.size_append];omega
theorem sz1 {a:UInt8}:(#[a]:Array UInt8).size=1:=rfl
theorem A95 {s:State} (o:ByteArray):(tolB [Az s o] ⟨#[]⟩).size<=21:=A2u (Mw s o) (n:=1) (by simp) (by decide)
theorem Zs {s:State} (hl:Aa s<=1048576) (m:Bool) (o:ByteArray):(joB (Ag s m o) ⟨#[44]⟩).size<=1099512676352:=Acl (Lc hl m o) (Zau (Da s m o) hl) (by decide)
theorem A2v {s:State} (h:stI s) (hl:Aa s<=1048576) (o:ByteArray):(joB ((Ag s true o).map (mapT s o)) ⟨#[44]⟩).size<=25288769536000:=Acl (b:=24117249) (fun x hx=>by
 obtain⟨k,hk,rfl⟩:=Zay.1 hx
 exact Acm h hl (Lc hl true o k hk)) (n:=1048576) (by rw[Zaf];exact Zau (Da s true o) hl) (by decide)
theorem A96 {s:State} (h:stI s) (o:ByteArray):(tolB (Hh s o) ⟨#[44]⟩).size<=26402640:=A2u (A2t h o) (Lb s o) (by decide)
theorem G9 (U:St) (cs:List GV) (s:State) (hR:A4.R U s cs) (o:ByteArray) (hl:Aa s<=1048576) (hI:stI s):Ret Tryz.prog 53 [.agg cs,.str o] U (.str (Za s o)) U:=by
 have gl:cs.length=4:=A4.len hR
 have hl':Aa s<=1099511627776:=by omega
 have hk1:=Da s true o
 have hk2:=Da s false o
 refine Lq Z8 (Z0z rfl) trivial ?_
 simp +contextual (disch:=omega) only[go_sem,Mt]
 intro n f N _ n2 f2 N2 H2
 have H2:=H2.emp pS.kd rfl
 simp +contextual (disch:=omega) only[go_sem,A2 gl,gl]
 obtain⟨r,N3,R3,K3⟩:=Mm N2 cs s (A4.pre hR H2.sub) o hl'
 refine by_c H2 R3 K3 fun H3=> ?_
 simp +contextual (disch:=omega) only[go_sem,(H3.hp.sl 0 rfl).len]
 refine M8 (Ag s true o).length 14 0 (fun i env h=>env 1= .str o/\env 2= .ptr n 0/\env 12=r/\env 13=gi (Ag s true o).length/\∃ u,env 5=u/\h=[.th (ow pS.kd r (Ag s true o)),.th (ow pS.kd u (((Ag s true o).take i).map (mapT s o))),.box 1 n cs]) (fun env h=>env 1= .str o/\env 2= .ptr n 0/\∃ u,env 5=u/\h=[.th (ow pS.kd u ((Ag s true o).map (mapT s o))),.box 1 n cs]) (fun env h=>False) _ H3 (by simp +contextual (disch:=omega) only[go_sem]) ⟨by simp +contextual (disch:=omega) only[go_sem],by simp +contextual (disch:=omega) only[go_sem],by simp +contextual (disch:=omega) only[go_sem],by simp +contextual (disch:=omega) only[go_sem],_,by simp +contextual (disch:=omega) only[go_sem],rfl⟩ ?_ ?_ ?_ (fun _ _ _ _ h=>h.elim)
 ·clear H2 H3 K3 R3
  rintro J Yq Wq hJ hY hW i env h N hi ei c0 H ⟨e1,e2,e12,e13,u,e5,rfl⟩
  have L1:=Ih (H.hp.sl 0 rfl) hi
  have hk:=Lc hl true o _ (Zag hi)
  have hm:=A94 hI hl o (Ag s true o)[i]
  have b1:(Ag s true o)[i].size+(#[61]:Array UInt8).size<=9223372036854775807:=by rw[sz1];omega
  simp +contextual (disch:=omega) only[go_sem,c0,e1,e2,e12,e13,e5,ei,A5,Pn H L1.2,L1,b1,A2 gl,gl]
  obtain⟨m,N4,R4,K4⟩:=L7 N cs s (A4.pre hR H.sub) o (Ag s true o)[i] hl'
  refine by_c H R4 K4 fun H4=> ?_
  simp +contextual (disch:=omega) only[go_sem]
  refine by_r H4 (Hu N4 m _ (H4.hp.sl 0 rfl) ⟨#[124]⟩ (by decide) (A2s hI o _) (by have:=La s o (Ag s true o)[i];omega)) ?_
  have b2:(Ag s true o)[i].size+(#[61]:Array UInt8).size+(tolB (Gr s o (Ag s true o)[i]) ⟨#[124]⟩).size<=9223372036854775807:=by rw[sz1];omega
  simp +contextual (disch:=omega) only[go_sem,ByteArray.size_append,b2]
  intro n5 f5 N5 H5
  refine J7 (p:=pS) H5 3 rfl (mapT s o (Ag s true o)[i]) J6 (by decide) (by rw[Zaf,Zal];omega) fun w' N6 H6=> ?_
  simp +contextual (disch:=omega) only[go_sem,e1,e2,e12,e13,ei]
  exact hJ _ _ _ _ (H6.re [2,3,4] (by decide)) ⟨by simp +contextual (disch:=omega) only[go_sem,e1],by simp +contextual (disch:=omega) only[go_sem,e2],by simp +contextual (disch:=omega) only[go_sem,e12],by simp +contextual (disch:=omega) only[go_sem,e13],w',by simp +contextual (disch:=omega) only[go_sem],by rw[Qz hi];rfl⟩
 ·rintro Yq hY env h N ei c0 H ⟨e1,e2,e12,e13,u,e5,rfl⟩
  rw[Zae] at H
  simp +contextual (disch:=omega) only[go_sem,c0,e13,ei]
  exact hY _ _ _ (H.re [1,2] (by decide)) ⟨by simp +contextual (disch:=omega) only[go_sem,e1],by simp +contextual (disch:=omega) only[go_sem,e2],u,by simp +contextual (disch:=omega) only[go_sem,e5],rfl⟩
 ·clear H2 H3 K3 R3
  rintro env h N H ⟨e1,e2,u,e5,rfl⟩
  simp +contextual (disch:=omega) only[go_sem,e1,e2,e5,A2 gl,gl]
  refine by_r H (Hm N cs s (A4.pre hR H.sub) o hl') ?_
  simp +contextual (disch:=omega) only[go_sem,e1,e2,e5]
  intro n7 f7 N7 H7
  refine by_r H7 (Hu N7 _ [Az s o] (A5s (p:=pI) (H7.hp.pt 0 rfl)) ⟨#[]⟩ (by decide) (Mw s o) (by simp)) ?_
  have z1:=A95 (s:=s) o
  have z2:=Zs hl false o
  have z3:=A2v hI hl o
  have z4:=A96 hI o
  have b1:(tolB [Az s o] ⟨#[]⟩).size+(#[32]:Array UInt8).size<=9223372036854775807:=by rw[sz1];omega
  simp +contextual (disch:=omega) only[go_sem,e1,e2,e5,b1,A2 gl,gl]
  obtain⟨r8,N8,R8,K8⟩:=L5 N7 cs s (A4.pre hR H7.sub) o hl'
  refine by_c H7 R8 K8 fun H8=> ?_
  simp +contextual (disch:=omega) only[go_sem,e1,e2,e5]
  obtain⟨fp8,ho8,_⟩:=H8.hp.see (i:=0) rfl
  refine by_r H8 (Zn N8 r8 _ fp8 ho8 ⟨#[44]⟩ (by omega) (by rw[<- Iw,Ef];omega)) ?_
  have b2:(tolB [Az s o] ⟨#[]⟩).size+(#[32]:Array UInt8).size+(joB (Ag s false o) ⟨#[44]⟩).size<=9223372036854775807:=by rw[sz1];omega
  have b3:(tolB [Az s o] ⟨#[]⟩).size+(#[32]:Array UInt8).size+(joB (Ag s false o) ⟨#[44]⟩).size+(#[32]:Array UInt8).size<=9223372036854775807:=by rw[sz1];omega
  simp +contextual (disch:=omega) only[go_sem,e1,e2,e5,ByteArray.size_append,b2,b3]
  obtain⟨fp9,ho9,_⟩:=H8.hp.see (i:=2) rfl
  refine by_r H8 (Zn N8 u _ fp9 ho9 ⟨#[44]⟩ (by rw[Zaf];omega) (by rw[<- Iw,Ef];omega)) ?_
  have b4:(tolB [Az s o] ⟨#[]⟩).size+(#[32]:Array UInt8).size+(joB (Ag s false o) ⟨#[44]⟩).size+(#[32]:Array UInt8).size+(joB ((Ag s true o).map (mapT s o)) ⟨#[44]⟩).size<=9223372036854775807:=by rw[sz1];omega
  have b5:(tolB [Az s o] ⟨#[]⟩).size+(#[32]:Array UInt8).size+(joB (Ag s false o) ⟨#[44]⟩).size+(#[32]:Array UInt8).size+(joB ((Ag s true o).map (mapT s o)) ⟨#[44]⟩).size+(#[32]:Array UInt8).size<=9223372036854775807:=by rw[sz1];omega
  simp +contextual (disch:=omega) only[go_sem,e1,e2,e5,ByteArray.size_append,b4,b5,A2 gl,gl]
  obtain⟨r10,N10,R10,K10⟩:=L8 N8 cs s (A4.pre hR H8.sub) o hl'
  refine by_c H8 R10 K10 fun H10=> ?_
  simp +contextual (disch:=omega) only[go_sem,e1,e2,e5]
  refine by_r H10 (Hu N10 r10 _ (H10.hp.sl 0 rfl) ⟨#[44]⟩ (by decide) (A2t hI o) (by have:=Lb s o;omega)) ?_
  have b6:(tolB [Az s o] ⟨#[]⟩).size+(#[32]:Array UInt8).size+(joB (Ag s false o) ⟨#[44]⟩).size+(#[32]:Array UInt8).size+(joB ((Ag s true o).map (mapT s o)) ⟨#[44]⟩).size+(#[32]:Array UInt8).size+(tolB (Hh s o) ⟨#[44]⟩).size<=9223372036854775807:=by rw[sz1];omega
  simp +contextual (disch:=omega) only[go_sem,ByteArray.size_append,b6]
  exact fun _=>rfl
theorem Tw (U:St) (cs:List GV) (s:State) (hR:A4.R U s cs) (o:ByteArray) (hl:Aa s<=1048576) (hI:stI s):Ret Tryz.prog 63 [.agg cs,.str o] U (.str (Za s o)) U:=by
 have gl:cs.length=4:=A4.len hR
 have hl':Aa s<=1099511627776:=by omega
 have hk1:=Da s true o
 have hk2:=Da s false o
 refine Lq Z9 (Z0z rfl) trivial ?_
 simp +contextual (disch:=omega) only[go_sem,Mv]
 intro n f N H
 simp +contextual (disch:=omega) only[go_sem,A2 gl,gl]
 obtain⟨r,N3,R3,K3⟩:=Ml N cs s (A4.pre hR H.sub) o hl'
 refine by_c H R3 K3 fun H3=> ?_
 simp +contextual (disch:=omega) only[go_sem]
 intro n2 f2 N2 H2
 have H2:=H2.emp pS.kd rfl
 refine M8 (Ag s true o).length 7 0 (fun i env h=>env 1= .str o/\env 2= .ptr n 0/\env 5=r/\∃ u,env 6=u/\h=[.th (ow pS.kd u (((Ag s true o).take i).map (mapT s o))),.th (ow pS.kd r (Ag s true o)),.box 1 n cs]) (fun env h=>env 1= .str o/\env 2= .ptr n 0/\∃ u,env 6=u/\h=[.th (ow pS.kd u ((Ag s true o).map (mapT s o))),.box 1 n cs]) (fun env h=>False) _ H2 (by simp +contextual (disch:=omega) only[go_sem]) ⟨by simp +contextual (disch:=omega) only[go_sem],by simp +contextual (disch:=omega) only[go_sem],by simp +contextual (disch:=omega) only[go_sem],_,by simp +contextual (disch:=omega) only[go_sem],rfl⟩ ?_ ?_ ?_ (fun _ _ _ _ h=>h.elim)
 ·clear H H2 H3 K3 R3
  rintro J Yq Wq hJ hY hW i env h N hi ei c0 H ⟨e1,e2,e5,u,e6,rfl⟩
  have L1:=Ih (H.hp.sl 1 rfl) hi
  have L2:=(H.hp.sl 1 rfl).len
  have hk:=Lc hl true o _ (Zag hi)
  have hm:=A94 hI hl o (Ag s true o)[i]
  have b1:(Ag s true o)[i].size+(#[61]:Array UInt8).size<=9223372036854775807:=by rw[sz1];omega
  simp +contextual (disch:=omega) only[go_sem,c0,e1,e2,e5,e6,ei,L2,A5,Pn H L1.2,L1,b1,A2 gl,gl]
  obtain⟨m,N4,R4,K4⟩:=L6 N cs s (A4.pre hR H.sub) o (Ag s true o)[i] hl'
  refine by_c H R4 K4 fun H4=> ?_
  simp +contextual (disch:=omega) only[go_sem]
  refine by_r H4 (E1 N4 m _ (H4.hp.sl 0 rfl) ⟨#[124]⟩ (by decide) (A2s hI o _) (by have:=La s o (Ag s true o)[i];omega)) ?_
  have b2:(Ag s true o)[i].size+(#[61]:Array UInt8).size+(tolB (Gr s o (Ag s true o)[i]) ⟨#[124]⟩).size<=9223372036854775807:=by rw[sz1];omega
  simp +contextual (disch:=omega) only[go_sem,ByteArray.size_append,b2]
  intro n5 f5 N5 H5
  refine J7 (p:=pS) H5 2 rfl (mapT s o (Ag s true o)[i]) J6 (by decide) (by rw[Zaf,Zal];omega) fun w' N6 H6=> ?_
  simp +contextual (disch:=omega) only[go_sem,e1,e2,e5,ei]
  exact hJ _ _ _ _ (H6.re [2,3,4] (by decide)) ⟨by simp +contextual (disch:=omega) only[go_sem,e1],by simp +contextual (disch:=omega) only[go_sem,e2],by simp +contextual (disch:=omega) only[go_sem,e5],w',by simp +contextual (disch:=omega) only[go_sem],by rw[Qz hi];rfl⟩
 ·rintro Yq hY env h N ei c0 H ⟨e1,e2,e5,u,e6,rfl⟩
  rw[Zae] at H
  have L2:=(H.hp.sl 1 rfl).len
  simp +contextual (disch:=omega) only[go_sem,c0,e5,L2,ei]
  exact hY _ _ _ (H.re [0,2] (by decide)) ⟨by simp +contextual (disch:=omega) only[go_sem,e1],by simp +contextual (disch:=omega) only[go_sem,e2],u,by simp +contextual (disch:=omega) only[go_sem,e6],rfl⟩
 ·clear H H2 H3 K3 R3
  rintro env h N H ⟨e1,e2,u,e6,rfl⟩
  simp +contextual (disch:=omega) only[go_sem,e1,e2,e6,A2 gl,gl]
  refine by_r H (Hl N cs s (A4.pre hR H.sub) o hl') ?_
  simp +contextual (disch:=omega) only[go_sem,e1,e2,e6]
  intro n7 f7 N7 H7
  refine by_r H7 (E1 N7 _ [Az s o] (A5s (p:=pI) (H7.hp.pt 0 rfl)) ⟨#[]⟩ (by decide) (Mw s o) (by simp)) ?_
  have z1:=A95 (s:=s) o
  have z2:=Zs hl false o
  have z3:=A2v hI hl o
  have z4:=A96 hI o
  have b1:(tolB [Az s o] ⟨#[]⟩).size+(#[32]:Array UInt8).size<=9223372036854775807:=by rw[sz1];omega
  simp +contextual (disch:=omega) only[go_sem,e1,e2,e6,b1,A2 gl,gl]
  obtain⟨r8,N8,R8,K8⟩:=L4 N7 cs s (A4.pre hR H7.sub) o hl'
  refine by_c H7 R8 K8 fun H8=> ?_
  simp +contextual (disch:=omega) only[go_sem,e1,e2,e6]
  refine by_r H8 (Je N8 r8 _ (H8.hp.sl 0 rfl) 1048576 (Lc hl false o) (by
   have:(Ag s false o).length*(1048576+1)<=1048576*1048577:=Zax (by omega) (by omega)
   omega) (by omega)) ?_
  have b2:(tolB [Az s o] ⟨#[]⟩).size+(#[32]:Array UInt8).size+(joB (Ag s false o) ⟨#[44]⟩).size<=9223372036854775807:=by rw[sz1];omega
  have b3:(tolB [Az s o] ⟨#[]⟩).size+(#[32]:Array UInt8).size+(joB (Ag s false o) ⟨#[44]⟩).size+(#[32]:Array UInt8).size<=9223372036854775807:=by rw[sz1];omega
  simp +contextual (disch:=omega) only[go_sem,e1,e2,e6,ByteArray.size_append,b2,b3]
  refine by_r H8 (Je N8 u _ (H8.hp.sl 2 rfl) 24117249 (fun x hx=>by
   obtain⟨k,hk,rfl⟩:=Zay.1 hx
   exact Acm hI hl (Lc hl true o k hk)) (by
   have:((Ag s true o).map (mapT s o)).length*(24117249+1)<=1048576*24117250:=Zax (by rw[Zaf];omega) (by omega)
   omega) (by rw[Zaf];omega)) ?_
  have b4:(tolB [Az s o] ⟨#[]⟩).size+(#[32]:Array UInt8).size+(joB (Ag s false o) ⟨#[44]⟩).size+(#[32]:Array UInt8).size+(joB ((Ag s true o).map (mapT s o)) ⟨#[44]⟩).size<=9223372036854775807:=by rw[sz1];omega
  have b5:(tolB [Az s o] ⟨#[]⟩).size+(#[32]:Array UInt8).size+(joB (Ag s false o) ⟨#[44]⟩).size+(#[32]:Array UInt8).size+(joB ((Ag s true o).map (mapT s o)) ⟨#[44]⟩).size+(#[32]:Array UInt8).size<=9223372036854775807:=by rw[sz1];omega
  simp +contextual (disch:=omega) only[go_sem,e1,e2,e6,ByteArray.size_append,b4,b5,A2 gl,gl]
  obtain⟨r10,N10,R10,K10⟩:=L9 N8 cs s (A4.pre hR H8.sub) o hl'
  refine by_c H8 R10 K10 fun H10=> ?_
  simp +contextual (disch:=omega) only[go_sem,e1,e2,e6]
  refine by_r H10 (E1 N10 r10 _ (H10.hp.sl 0 rfl) ⟨#[44]⟩ (by decide) (A2t hI o) (by have:=Lb s o;omega)) ?_
  have b6:(tolB [Az s o] ⟨#[]⟩).size+(#[32]:Array UInt8).size+(joB (Ag s false o) ⟨#[44]⟩).size+(#[32]:Array UInt8).size+(joB ((Ag s true o).map (mapT s o)) ⟨#[44]⟩).size+(#[32]:Array UInt8).size+(tolB (Hh s o) ⟨#[44]⟩).size<=9223372036854775807:=by rw[sz1];omega
  simp +contextual (disch:=omega) only[go_sem,ByteArray.size_append,b6]
  exact fun _=>rfl
theorem Alp {x:Tally} (h:zTally x):A57 x:=h.1
theorem Akb {x:List Tally} (h:((x).length<=9223372036854775807/\∀ y6∈x,zTally (y6))):x.length<=9223372036854775807/\∀ y∈x,A57 y:=⟨h.1,fun y hy=>Alp (h.2 y hy)⟩
theorem Aog {x:Live} (h:zLive x):Ajd x:=⟨h.2.1,h.2.2.1⟩
theorem Alq {x:List Live} (h:((x).length<=9223372036854775807/\∀ y5∈x,zLive (y5))):x.length<=9223372036854775807/\∀ y∈x,Ajd y:=⟨h.1,fun y hy=>Aog (h.2 y hy)⟩
theorem Aoh {x:Cell} (h:zCell x):Ahd x:=h.1
theorem Alr {x:List Cell} (h:((x).length<=9223372036854775807/\∀ y5∈x,zCell (y5))):x.length<=9223372036854775807/\∀ y∈x,Ahd y:=⟨h.1,fun y hy=>Aoh (h.2 y hy)⟩
theorem Als {x:Watch} (h:zWatch x):Am8 x:=⟨h.2.1,h.2.2⟩
theorem Ago {x:State} (h:zState x):Am9 x:=⟨h.1.1,Akb h.2.1,Alq h.2.2.1,Alr h.2.2.2⟩
def Fx:Fn1:=⟨34,[.t 4],(rg [oX 2 0,oV 4 kf] (.seq (rg [oM 9 1,o 10 (.len true (.t 9)),oE 11 .gtr 10 1048576] (oG 11 (oR 4 kt))) (rg [oV 5 (ki 1048576)] (rg [oW 12 4 2,oM 13 5,oD 14 14 12 13,oM 5 14] (.seq (rg [oM 15 5,oE 16 .lss 15 0] (oG 16 (oR 4 kt))) (rg [oW 17 4 2,oC 18 17 17,oM 19 1,oD 20 63 18 19,oM 6 20] (rg [oW 21 4 2,oC 22 17 21,o 7 (.new [.nilS,.nilS,.nilS,.nilS]),oS 4 7 22] (rg [oW 23 4 7,oM 24 1,oD 25 53 23 24,oM 8 25] (.seq (rg [oM 26 8,oM 27 6,oB 28 .neq 26 27] (oG 28 (oR 4 kf))) (.seq (dw [oW 29 4 7,oW 30 4 2,oC 31 17 30] [oD 32 21 29 31,oU 33 32] (oG 33 (oR 4 kf))) (oR 4 kt)))))))))))⟩
theorem Ld:A6 Tryz.prog 10=some Fx:=by kernel_rfl
theorem law_ReadingText (U:St) (cs0:List GV) (x0:State) (hR0:eState.R U x0 cs0) (hw0:zState x0) (x1:ByteArray) (hw1:x1.size<=9223372036854775807):∃ r N,Ret Tryz.prog 10 [.agg cs0,.str x1] U r N/\r= .bool true:=by
 have hst:stI x0:=⟨fun x hx=>(hw0.2.2.1.2 x hx).2.2.2.1.2,fun x hx=>(hw0.2.2.2.2 x hx).2.2.2.2.1.2⟩
 have hR0:=Ajc hR0
 have hl0:=A4.len hR0
 have hw0:=Ago hw0
 refine Ajb Ld (Z0z rfl) ?_
 have hB:U <+: U++[some (Blk.row 1 (cs0))]:=pre1 _ _
 have hb0:rdB (U++[some (Blk.row 1 (cs0))]) (U).length=some (cs0):=M4 (Zad _)
 have hs0:(seg cs0 0 4).bind (mkv true)=some (.agg cs0):=A2 hl0
 simp +contextual (disch:=omega) only[go_sem,Fx,A3 (Aj (Zad _) hb0),hs0,Zac]
 refine⟨fun _=>hB.length_le,fun hn=> ?_⟩
 have hz1:=of_decide_eq_false hn
 try simp only[Int.not_lt] at hz1
 try simp +contextual (disch:=omega) only[go_sem,Zac,ite_self,ne_eq,not_true_eq_false,bne_self_eq_false,beq_self_eq_true,A3 (Aj (Zad _) hb0),hs0]
 refine A9 (Qq _ cs0 x0 (A4.pre hR0 (hB.trans (Zad _))) (1048576) hw0 (by omega) (by omega)) ?_
 have ge0:= @Ahc (1048576) (Aa x0)
 have gm0:= @A46 (1048576) (Aa x0) (by omega)
 try simp +contextual (disch:=omega) only[go_sem,Zac,ite_self,ne_eq,not_true_eq_false,bne_self_eq_false,beq_self_eq_true,A3 (Aj (Zad _) hb0),hs0]
 refine⟨fun _=>hB.length_le,fun hn=> ?_⟩
 have hn:=of_decide_eq_false hn
 have hf0:=J5 hn
 have hu0:Aa x0<=1048576:=by omega
 try simp +contextual (disch:=omega) only[go_sem,Zac,ite_self,ne_eq,not_true_eq_false,bne_self_eq_false,beq_self_eq_true,A3 (Aj (Zad _) hb0),hs0]
 have H:=Hp.refl (U++[some (Blk.row 1 (cs0))])
 try simp +contextual (disch:=omega) only[go_sem,Zac,ite_self,ne_eq,not_true_eq_false,bne_self_eq_false,beq_self_eq_true,A3 (Aj H.sub hb0),hs0]
 obtain⟨_,N1,R1,_,d1,rfl,K1⟩:=Dx _ cs0 x0 (A4.pre hR0 (hB.trans H.sub)) (by omega)
 refine Ck R1 K1 ?_
 have H:=H.add K1
 try simp only[Zaa,Zab] at H
 have g1:=A2 (A4.len (K1.rd 0 rfl))
 have g1:(seg d1 0 4).bind (mkv true)=some (.agg d1):=g1
 have gl1:d1.length=4:=A4.len (K1.rd 0 rfl)
 try simp +contextual (disch:=omega) only[go_sem,Zac,ite_self,ne_eq,not_true_eq_false,bne_self_eq_false,beq_self_eq_true,A3 (Aj H.sub hb0),hs0,g1]
 refine A9 (Tw _ d1 x0 (H.rd 0 rfl) x1 (by omega) hst) ?_
 have hpw:=H.sub
 have H:=H.restart
 try simp +contextual (disch:=omega) only[go_sem,Zac,ite_self,ne_eq,not_true_eq_false,bne_self_eq_false,beq_self_eq_true,A3 (Aj (hpw.trans H.sub) hb0),hs0,g1]
 obtain⟨_,N3,R3,_,d3,rfl,K3⟩:=Dx _ cs0 x0 (A4.pre hR0 (hB.trans (hpw.trans H.sub))) (by omega)
 refine Ck R3 K3 ?_
 have H:=H.add K3
 try simp only[Zaa,Zab] at H
 have g3:=A2 (A4.len (K3.rd 0 rfl))
 have g3:(seg d3 0 4).bind (mkv true)=some (.agg d3):=g3
 have gl3:d3.length=4:=A4.len (K3.rd 0 rfl)
 try simp +contextual (disch:=omega) only[go_sem,Zac,ite_self,ne_eq,not_true_eq_false,bne_self_eq_false,beq_self_eq_true,A3 (Aj (hpw.trans H.sub) hb0),hs0,g1,g3]
 have H:=H.new 1 d3
 try simp +contextual (disch:=omega) only[go_sem,Zac,ite_self,ne_eq,not_true_eq_false,bne_self_eq_false,beq_self_eq_true,A3 (Aj (hpw.trans H.sub) hb0),hs0,A3 (H.pt 0 rfl),g1,g3,Ab (cs:=[GV.nilS,GV.nilS,GV.nilS,GV.nilS]) gl3 rfl,gl3]
 refine A9 (G9 _ d3 x0 (H.rd 1 rfl) x1 (by omega) hst) ?_
 try simp +contextual (disch:=omega) only[go_sem,Zac,ite_self,ne_eq,not_true_eq_false,bne_self_eq_false,beq_self_eq_true,A3 (Aj (hpw.trans H.sub) hb0),hs0,A3 (H.pt 0 rfl),g1,g3]
 try simp +contextual (disch:=omega) only[go_sem,Zac,ite_self,ne_eq,not_true_eq_false,bne_self_eq_false,beq_self_eq_true,A3 (Aj (hpw.trans H.sub) hb0),hs0,A3 (H.pt 0 rfl),g1,g3]
 try simp +contextual (disch:=omega) only[go_sem,Zac,ite_self,ne_eq,not_true_eq_false,bne_self_eq_false,beq_self_eq_true,A3 (Aj (hpw.trans H.sub) hb0),hs0,A3 (H.pt 0 rfl),g1,g3]
 obtain⟨_,N5,R5,_,d5,rfl,K5⟩:=Dx _ cs0 x0 (A4.pre hR0 (hB.trans (hpw.trans H.sub))) (by omega)
 refine Ck R5 K5 ?_
 have H:=H.add K5
 try simp only[Zaa,Zab] at H
 have g5:=A2 (A4.len (K5.rd 0 rfl))
 have g5:(seg d5 0 4).bind (mkv true)=some (.agg d5):=g5
 have gl5:d5.length=4:=A4.len (K5.rd 0 rfl)
 try simp +contextual (disch:=omega) only[go_sem,Zac,ite_self,ne_eq,not_true_eq_false,bne_self_eq_false,beq_self_eq_true,A3 (Aj (hpw.trans H.sub) hb0),hs0,A3 (H.pt 1 rfl),g1,g3,g5]
 refine A9 (Qp _ _ _ _ _ (H.rd 2 rfl) (H.rd 0 rfl) (by omega)) ?_
 try simp +contextual (disch:=omega) only[go_sem,Zac,ite_self,ne_eq,not_true_eq_false,bne_self_eq_false,beq_self_eq_true,A3 (Aj (hpw.trans H.sub) hb0),hs0,A3 (H.pt 1 rfl),g1,g3,g5,decide_true,eq_self]
 exact(hB.trans (hpw.trans H.sub)).length_le
def A2x:Fn1:=⟨20,[.t 4],(rg [oX 2 0,oV 4 (ki 0)] (rg [oM 5 1,oF 6 1 2,oL 7 6,o 8 (.len true (.t 7)),oB 9 .sub 5 8,oM 1 9] (.seq (rg [oM 10 1,oE 11 .lss 10 0] (oG 11 (rg [o 4 (.mov (ki (-1)))] .ret))) (rg [oM 12 1,oF 13 2 2,oL 14 13,o 15 (.len true (.t 14)),oB 16 .sub 12 15,oM 1 16] (.seq (rg [oM 17 1,oE 18 .lss 17 0] (oG 18 (rg [o 4 (.mov (ki (-1)))] .ret))) (rg [oM 19 1,oM 4 19] .ret))))))⟩
theorem Acn:A6 Tryz.prog 64=some A2x:=by kernel_rfl
theorem A97 (U:St) (x:Watch) (n:Int) (hw:Am8 x) (h0:0<=n) (h1:n<=1099511627776):Ret Tryz.prog 64 [.agg [.int .i64 x.kind,.str x.obj,.str x.key],gi n] U (gi (lf n (Bm x))) U:=by
 obtain⟨w0,w1⟩:=hw
 refine Ae Acn (Z0z rfl) trivial ?_
 simp +contextual (disch:=omega) only[go_sem,A2x,Zac]
 refine⟨fun hn=> ?_,fun hn=> ?_⟩
 ·have hn:=of_decide_eq_true hn
  unfold Bm lf;rw[if_pos (by omega)]
 have hn:=of_decide_eq_false hn
 try simp(disch:=omega) only[Bi]
 refine⟨fun hn=> ?_,fun hn=> ?_⟩
 ·have hn:=of_decide_eq_true hn
  unfold Bm lf;rw[if_pos (by omega)]
 have hn:=of_decide_eq_false hn
 try simp(disch:=omega) only[Bi]
 unfold Bm;rw[show lf n (x.obj.size+x.key.size)=n - ((x.obj.size+x.key.size:Nat):Int) by unfold lf;rw[if_neg (by omega)]];try omega
def A2z:Fn1:=⟨14,[.c 2 true 3],(rg [oX 1 0,o 2 (.new [z0,s0,s0])] (rg [o 3 (.new [z0,s0,s0])] (rg [oF 4 0 1,oL 5 4,oF 6 0 3,oS 1 6 5] (rg [oF 7 1 1,oL 8 7,oF 9 1 3,oS 1 9 8] (rg [oF 10 2 1,oL 11 10,oF 12 2 3,oS 1 12 11] (rg [oW 13 3 3,oS 3 2 13] .ret))))))⟩
theorem Aco:A6 Tryz.prog 65=some A2z:=by kernel_rfl
theorem Rz (U:St) (x:Watch):Ret Tryz.prog 65 [.agg [.int .i64 x.kind,.str x.obj,.str x.key]] U (.agg [.int .i64 x.kind,.str x.obj,.str x.key]) U:=by
 refine Ae Aco (Z0z rfl) (by simp[vLt,cLt,sLt]) ?_
 simp +contextual (disch:=omega) only[go_sem,A2z]
def A31:Fn1:=⟨22,[.t 2],(rg [oX 1 0,oV 2 kf] (.seq (rg [oF 3 0 1,oL 4 3,o 5 (.call 128 [(.t 4),(ki 1),(ki 4)]),oU 6 5,oM 7 6,vF 8 7 1 1,vL 9 7 8,vC 10 7 129 9,vU 11 7 10,oP 12 7 11] (oG 12 (oR 2 kf))) (.seq (rg [oF 13 0 1,oL 14 13,oE 15 .eql 14 3] (oG 15 (rg [oF 16 2 1,oL 17 16,oC 18 129 17,oM 2 18] .ret))) (rg [oF 19 2 1,oL 20 19,o 21 (.bin .eql (.t 20) (.k s0)),oM 2 21] .ret))))⟩
theorem Acp:A6 Tryz.prog 46=some A31:=by kernel_rfl
def Q5:Fn1:=⟨24,[.t 2],(rg [oX 1 0,oV 2 kf] (rg [oF 4 2 1,oL 5 4,o 6 (.bin .eql (.t 5) (.k s0)),oM 3 6] (.seq (rg [oF 7 0 1,oL 8 7,oE 9 .eql 8 3] (oG 9 (.reg [oF 10 2 1,oL 11 10,oC 12 108 11,oM 3 12]))) (rg [oF 13 0 1,oL 14 13,o 15 (.call 109 [(.t 14),(ki 1),(ki 4)]),oM 16 15,jF 17 16 1 1,jL 18 16 17,jC 19 16 108 18,oQ 20 16 19,oM 21 20,jM 22 21 3,oQ 23 21 22,oM 2 23] .ret))))⟩
theorem Acq:A6 Tryz.prog 33=some Q5:=by kernel_rfl
def S4:Fn1:=⟨17,[.t 2],(rg [oX 1 0,o 2 (.mov (.k s0))] (.seq (rg [oW 3 3 1,oC 4 46 3,oU 5 4] (oG 5 (rg [o 2 (.mov (.k s0))] .ret))) (dw [oF 6 0 1,oL 7 6,oC 8 134 7,oF 9 1 1,oL 10 9,oC 11 135 10,oB 12 .add 8 11,oF 13 2 1,oL 14 13] [oC 15 135 14,oB 16 .add 12 15,oM 2 16] .ret)))⟩
theorem A4o:A6 Tryz.prog 48=some S4:=by kernel_rfl
def S6:Fn1:=⟨17,[.t 2],(rg [oX 1 0,o 2 (.mov (.k s0))] (.seq (rg [oW 3 3 1,oC 4 33 3,oU 5 4] (oG 5 (rg [o 2 (.mov (.k s0))] .ret))) (dw [oF 6 0 1,oL 7 6,o 8 (.lit 1 1 [z0] [(0,1,(.t 7))]),oC 9 112 8,oF 10 1 1,oL 11 10,oF 12 2 1,oL 13 12,o 14 (.lit 1 2 [s0,s0] [(0,1,(.t 11)),(1,1,(.t 13))])] [oC 15 113 14,oB 16 .add 9 15,oM 2 16] .ret)))⟩
theorem A4p:A6 Tryz.prog 35=some S6:=by kernel_rfl
def Ge (w:Watch):Bool:=if w.kind==3 then Bw w.key else decide (w.key=⟨#[]⟩)
def Cm (w:Watch):Bool:=inB w.kind 1 4&&(Bw w.obj&&Ge w)
theorem Lf (U:St) (w:Watch) (ho:w.obj.size<=1099511627776) (hk:w.key.size<=1099511627776):Ret Tryz.prog 46 [.agg [gi w.kind,.str w.obj,.str w.key]] U (.bool (Cm w)) U:=by
 refine Ae Acp (Z0z rfl) trivial ?_
 simp +contextual (disch:=omega) only[go_sem,A31]
 refine Ac (Ay _ _ _ _) (fun h1=> ?_) (fun h1=> ?_)
 ·simp +contextual (disch:=omega) only[go_sem]
  refine Ac (Cy _ w.obj ho) (fun h2=> ?_) (fun h2=> ?_)
  ·cases h3:(w.kind==3) with
   |true=>
    simp +contextual (disch:=omega) only[go_sem,h3]
    refine A9 (Cy _ w.key hk) ?_
    simp +contextual (disch:=omega) only[go_sem,Cm,Ge,h1,h2,h3]
   |false=>simp +contextual (disch:=omega) only[go_sem,h3,Cm,Ge,h1,h2]
  ·simp +contextual (disch:=omega) only[go_sem,Cm,h1,h2]
 ·simp +contextual (disch:=omega) only[go_sem,Cm,h1]
theorem Ho (U:St) (w:Watch) (ho:w.obj.size<=1099511627776) (hk:w.key.size<=1099511627776):Ret Tryz.prog 33 [.agg [gi w.kind,.str w.obj,.str w.key]] U (.bool (Cm w)) U:=by
 refine Ae Acq (Z0z rfl) trivial ?_
 cases h3:(w.kind==3) with
 |true=>
  simp +contextual (disch:=omega) only[go_sem,Q5,h3]
  refine Ac (Cz _ w.key hk) (fun h4=> ?_) (fun h4=> ?_)
  ·simp +contextual (disch:=omega) only[go_sem]
   refine Ac (B9 _ _ _ _) (fun h1=> ?_) (fun h1=> ?_)
   ·simp +contextual (disch:=omega) only[go_sem]
    refine Ac (Cz _ w.obj ho) (fun h2=> ?_) (fun h2=> ?_)
    ·simp +contextual (disch:=omega) only[go_sem,Cm,Ge,h1,h2,h3,h4]
    ·simp +contextual (disch:=omega) only[go_sem,Cm,Ge,h1,h2,h3,h4]
   ·simp +contextual (disch:=omega) only[go_sem,Cm,h1]
  ·simp +contextual (disch:=omega) only[go_sem]
   refine Ac (B9 _ _ _ _) (fun h1=> ?_) (fun h1=> ?_)
   ·simp +contextual (disch:=omega) only[go_sem]
    refine Ac (Cz _ w.obj ho) (fun h2=> ?_) (fun h2=> ?_)
    ·simp +contextual (disch:=omega) only[go_sem,Cm,Ge,h1,h2,h3,h4]
    ·simp +contextual (disch:=omega) only[go_sem,Cm,Ge,h1,h2,h3,h4]
   ·simp +contextual (disch:=omega) only[go_sem,Cm,h1]
 |false=>
  simp +contextual (disch:=omega) only[go_sem,Q5,h3]
  refine Ac (B9 _ _ _ _) (fun h1=> ?_) (fun h1=> ?_)
  ·simp +contextual (disch:=omega) only[go_sem]
   refine Ac (Cz _ w.obj ho) (fun h2=> ?_) (fun h2=> ?_)
   ·simp +contextual (disch:=omega) only[go_sem,Cm,Ge,h1,h2,h3]
   ·simp +contextual (disch:=omega) only[go_sem,Cm,Ge,h1,h2,h3]
  ·simp +contextual (disch:=omega) only[go_sem,Cm,h1]
theorem A33 {s:ByteArray} (h:Bw s=true):1<=s.size/\s.size<=8:=by
 simp only[Bw,Zap] at h
 have:=Bn.1 h.2;omega
theorem A34 {w:Watch} (h:Cm w=true):(1<=w.kind/\w.kind<=4)/\w.obj.size<=8/\w.key.size<=8:=by
 simp only[Cm,Zap] at h
 obtain⟨h1,h2,h3⟩:=h
 refine⟨Bn.1 h1,(A33 h2).2,?_⟩
 unfold Ge at h3
 split at h3
 ·exact(A33 h3).2
 ·rw[of_decide_eq_true h3];decide
def Cn (w:Watch):ByteArray:=if Cm w then Ou w.kind++(Bt w.obj++Bt w.key) else⟨#[]⟩
theorem Ia (U:St) (w:Watch) (hl:Bm w<=1099511627776):Ret Tryz.prog 48 [.agg [gi w.kind,.str w.obj,.str w.key]] U (.str (Cn w)) U:=by
 unfold Bm at hl
 refine Ae A4o (Z0z rfl) trivial ?_
 simp +contextual (disch:=omega) only[go_sem,S4]
 refine Ac (Lf _ w (by omega) (by omega)) (fun h=> ?_) (fun h=> ?_)
 ·have hw:=A34 h
  obtain⟨m,hm⟩:∃ m:Nat,w.kind=m:=⟨w.kind.toNat,by omega⟩
  have v1:=Tm m (by omega)
  have v2:=Tm w.obj.size (by omega)
  have v3:=Tm w.key.size (by omega)
  simp +contextual (disch:=omega) only[go_sem,hm]
  refine A9 (M9 _ m (by omega)) ?_
  simp +contextual (disch:=omega) only[go_sem]
  refine A9 (P3 _ w.obj (by omega)) ?_
  have hle:(vb m).length+((vb w.obj.size).length+w.obj.size)<=9223372036854775807:=by omega
  simp +contextual (disch:=omega) only[go_sem,ByteArray.size_append,Ii,hle]
  refine A9 (P3 _ w.key (by omega)) ?_
  have hle:(vb m).length+((vb w.obj.size).length+w.obj.size)+((vb w.key.size).length+w.key.size)<=9223372036854775807:=by omega
  simp +contextual (disch:=omega) only[go_sem,ByteArray.size_append,Ii,hle]
  rw[Cn,if_pos h,hm,Qw (by omega),Bt,if_pos (by omega),Bt,if_pos (by omega),ByteArray.append_assoc]
 ·simp +contextual (disch:=omega) only[go_sem,Cn,h]
theorem Mx (U:St) (w:Watch) (hl:Bm w<=1099511627776):Ret Tryz.prog 35 [.agg [gi w.kind,.str w.obj,.str w.key]] U (.str (Cn w)) U:=by
 unfold Bm at hl
 refine Ae A4p (Z0z rfl) trivial ?_
 simp +contextual (disch:=omega) only[go_sem,S6]
 refine Ac (Ho _ w (by omega) (by omega)) (fun h=> ?_) (fun h=> ?_)
 ·have hw:=A34 h
  have v1:=Oj w.kind
  have v2:=Es w.obj
  have v3:=Es w.key
  have c1:catS [Ou w.kind]=Ou w.kind:=ByteArray.empty_append
  have c2:catS [Bt w.obj,Bt w.key]=Bt w.obj++Bt w.key:=by show⟨#[]⟩++Bt w.obj++Bt w.key=_;rw[show (⟨#[]⟩:ByteArray)++Bt w.obj=Bt w.obj from ByteArray.empty_append]
  simp +contextual (disch:=omega) only[go_sem]
  refine A9 (A4e _ _ [w.kind] (Aa6 _ [w.kind] rfl rfl rfl) (by simp)) ?_
  simp +contextual (disch:=omega) only[go_sem,c1]
  refine A9 (Xy _ _ [w.obj,w.key] (Aa6 _ [w.obj,w.key] rfl rfl rfl) (by simp) (by simp;omega)) ?_
  have hle:(Ou w.kind).size+((Bt w.obj).size+(Bt w.key).size)<=9223372036854775807:=by omega
  simp +contextual (disch:=omega) only[go_sem,c2,ByteArray.size_append,hle,Cn,h,A0 pre2]
 ·simp +contextual (disch:=omega) only[go_sem,Cn,h]
def S8:Fn1:=⟨39,[.t 4],(rg [oX 2 0,oX 3 1,o 4 (.mov (.k s0))] (.seq (rg [oW 5 3 3,oC 6 33 5,oU 7 6] (oG 7 (rg [o 4 (.mov (.k s0))] .ret))) (.seq (rg [oF 8 0 3,oL 9 8] (.blk 0 (rg [oE 11 .eql 9 1,oM 10 11] (cn 10 (rg [oW 12 4 2,oF 13 1 3,oL 14 13,oD 15 103 12 14,o 16 (.lit 1 1 [z0] [(0,1,(.t 15))]),o 17 (.call 102 [(.t 16),(.k s0)]),oM 4 17] .ret) (rg [oE 19 .eql 9 2,oM 18 19] (cn 18 (rg [oW 20 4 2,oF 21 1 3,oL 22 21,oD 23 105 20 22,o 24 (.call 104 [(.t 23),(.k (.str ⟨#[44]⟩))]),oM 4 24] .ret) (rg [oE 26 .eql 9 3,oM 25 26] (oG 25 (rg [oW 27 4 2,oF 28 1 3,oL 29 28,oF 30 2 3,oL 31 30,o 32 (.call 106 (oT [27,29,31])),o 33 (.call 102 [(.t 32),(.k (.str ⟨#[124]⟩))]),oM 4 33] .ret))))))))) (rg [oW 34 4 2,oF 35 1 3,oL 36 35,oD 37 107 34 36,o 38 (.call 102 [(.t 37),(.k (.str ⟨#[44]⟩))]),oM 4 38] .ret))))⟩
theorem A4q:A6 Tryz.prog 32=some S8:=by kernel_rfl
def Sa:Fn1:=⟨39,[.t 4],(rg [oX 2 0,oX 3 1,o 4 (.mov (.k s0))] (.seq (rg [oW 5 3 3,oC 6 46 5,oU 7 6] (oG 7 (rg [o 4 (.mov (.k s0))] .ret))) (.seq (rg [oF 8 0 3,oL 9 8] (.blk 0 (rg [oE 11 .eql 9 1,oM 10 11] (cn 10 (rg [oW 12 4 2,oF 13 1 3,oL 14 13,oD 15 131 12 14,o 16 (.lit 1 1 [z0] [(0,1,(.t 15))]),o 17 (.call 130 [(.t 16),(.k s0)]),oM 4 17] .ret) (rg [oE 19 .eql 9 2,oM 18 19] (cn 18 (rg [oW 20 4 2,oF 21 1 3,oL 22 21,oD 23 116 20 22,oC 24 132 23,oM 4 24] .ret) (rg [oE 26 .eql 9 3,oM 25 26] (oG 25 (rg [oW 27 4 2,oF 28 1 3,oL 29 28,oF 30 2 3,oL 31 30,o 32 (.call 50 (oT [27,29,31])),o 33 (.call 130 [(.t 32),(.k (.str ⟨#[124]⟩))]),oM 4 33] .ret))))))))) (rg [oW 34 4 2,oF 35 1 3,oL 36 35,oD 37 133 34 36,o 38 (.call 130 [(.t 37),(.k (.str ⟨#[44]⟩))]),oM 4 38] .ret))))⟩
theorem A4r:A6 Tryz.prog 47=some Sa:=by kernel_rfl
def Gn (s:State) (w:Watch):ByteArray:=if Cm w then(if w.kind=1 then tolB [Az s w.obj] ⟨#[]⟩ else if w.kind=2 then joB (Ag s false w.obj) ⟨#[44]⟩ else if w.kind=3 then tolB (Gr s w.obj w.key) ⟨#[124]⟩ else tolB (Hh s w.obj) ⟨#[44]⟩) else⟨#[]⟩
theorem Fi (U:St) (cs:List GV) (s:State) (hR:A4.R U s cs) (w:Watch) (hl:Aa s<=1048576) (hw:Bm w<=1099511627776) (hI:stI s):Ret Tryz.prog 32 [.agg cs,.agg [gi w.kind,.str w.obj,.str w.key]] U (.str (Gn s w)) U:=by
 have gl:cs.length=4:=A4.len hR
 unfold Bm at hw
 have hl':Aa s<=1099511627776:=by omega
 have hk1:=Da s false w.obj
 refine Lq A4q (Z0z rfl) trivial ?_
 simp +contextual (disch:=omega) only[go_sem,S8]
 intro n f N _ n2 f2 N H
 refine by_b H (Ho N w (by omega) (by omega)) (fun hok=> ?_) (fun hok=> ?_)
 rotate_left
 ·simp +contextual (disch:=omega) only[go_sem]
  simp[Gn,hok]
 by_cases k1:w.kind=1
 ·have c1:(w.kind==1)=true:=by simpa using k1
  have hE:Gn s w=tolB [Az s w.obj] ⟨#[]⟩:=by simp[Gn,hok,k1]
  simp +contextual (disch:=omega) only[go_sem,c1,A2 gl,gl]
  refine by_r H (Hm N cs s (A4.pre hR H.sub) w.obj hl') ?_
  simp +contextual (disch:=omega) only[go_sem]
  intro n7 f7 N7 H7
  refine by_r H7 (Hu N7 _ [Az s w.obj] (A5s (p:=pI) (H7.hp.pt 0 rfl)) ⟨#[]⟩ (by decide) (Mw s w.obj) (by simp)) ?_
  simp +contextual (disch:=omega) only[go_sem,hE]
 have b1:(w.kind==1)=false:=by simpa using k1
 by_cases k2:w.kind=2
 ·have c2:(w.kind==2)=true:=by simpa using k2
  have hE:Gn s w=joB (Ag s false w.obj) ⟨#[44]⟩:=by simp[Gn,hok,k2]
  simp +contextual (disch:=omega) only[go_sem,b1,c2,A2 gl,gl]
  obtain⟨r8,N8,R8,K8⟩:=L5 N cs s (A4.pre hR H.sub) w.obj hl'
  refine by_c H R8 K8 fun H8=> ?_
  simp +contextual (disch:=omega) only[go_sem]
  obtain⟨fp8,ho8,_⟩:=H8.hp.see (i:=0) rfl
  have z2:=Zs hl false w.obj
  refine by_r H8 (Zn N8 r8 _ fp8 ho8 ⟨#[44]⟩ (by omega) (by rw[<- Iw,Ef];omega)) ?_
  simp +contextual (disch:=omega) only[go_sem,hE]
 have b2:(w.kind==2)=false:=by simpa using k2
 by_cases k3:w.kind=3
 ·have c3:(w.kind==3)=true:=by simpa using k3
  have hE:Gn s w=tolB (Gr s w.obj w.key) ⟨#[124]⟩:=by simp[Gn,hok,k3]
  simp +contextual (disch:=omega) only[go_sem,b1,b2,c3,A2 gl,gl]
  obtain⟨m,N4,R4,K4⟩:=L7 N cs s (A4.pre hR H.sub) w.obj w.key hl'
  refine by_c H R4 K4 fun H4=> ?_
  simp +contextual (disch:=omega) only[go_sem]
  refine by_r H4 (Hu N4 m _ (H4.hp.sl 0 rfl) ⟨#[124]⟩ (by decide) (A2s hI _ _) (by have:=La s w.obj w.key;omega)) ?_
  simp +contextual (disch:=omega) only[go_sem,hE]
 have b3:(w.kind==3)=false:=by simpa using k3
 have hE:Gn s w=tolB (Hh s w.obj) ⟨#[44]⟩:=by simp[Gn,hok,k1,k2,k3]
 simp +contextual (disch:=omega) only[go_sem,b1,b2,b3,A2 gl,gl]
 obtain⟨r10,N10,R10,K10⟩:=L8 N cs s (A4.pre hR H.sub) w.obj hl'
 refine by_c H R10 K10 fun H10=> ?_
 simp +contextual (disch:=omega) only[go_sem]
 refine by_r H10 (Hu N10 r10 _ (H10.hp.sl 0 rfl) ⟨#[44]⟩ (by decide) (A2t hI _) (by have:=Lb s w.obj;omega)) ?_
 simp +contextual (disch:=omega) only[go_sem,hE]
theorem Fj (U:St) (cs:List GV) (s:State) (hR:A4.R U s cs) (w:Watch) (hl:Aa s<=1048576) (hw:Bm w<=1099511627776) (hI:stI s):Ret Tryz.prog 47 [.agg cs,.agg [gi w.kind,.str w.obj,.str w.key]] U (.str (Gn s w)) U:=by
 have gl:cs.length=4:=A4.len hR
 unfold Bm at hw
 have hl':Aa s<=1099511627776:=by omega
 have hk1:=Da s false w.obj
 refine Lq A4r (Z0z rfl) trivial ?_
 simp +contextual (disch:=omega) only[go_sem,Sa]
 intro n f N _ n2 f2 N H
 refine by_b H (Lf N w (by omega) (by omega)) (fun hok=> ?_) (fun hok=> ?_)
 rotate_left
 ·simp +contextual (disch:=omega) only[go_sem]
  simp[Gn,hok]
 by_cases k1:w.kind=1
 ·have c1:(w.kind==1)=true:=by simpa using k1
  have hE:Gn s w=tolB [Az s w.obj] ⟨#[]⟩:=by simp[Gn,hok,k1]
  simp +contextual (disch:=omega) only[go_sem,c1,A2 gl,gl]
  refine by_r H (Hl N cs s (A4.pre hR H.sub) w.obj hl') ?_
  simp +contextual (disch:=omega) only[go_sem]
  intro n7 f7 N7 H7
  refine by_r H7 (E1 N7 _ [Az s w.obj] (A5s (p:=pI) (H7.hp.pt 0 rfl)) ⟨#[]⟩ (by decide) (Mw s w.obj) (by simp)) ?_
  simp +contextual (disch:=omega) only[go_sem,hE]
 have b1:(w.kind==1)=false:=by simpa using k1
 by_cases k2:w.kind=2
 ·have c2:(w.kind==2)=true:=by simpa using k2
  have hE:Gn s w=joB (Ag s false w.obj) ⟨#[44]⟩:=by simp[Gn,hok,k2]
  simp +contextual (disch:=omega) only[go_sem,b1,c2,A2 gl,gl]
  obtain⟨r8,N8,R8,K8⟩:=L4 N cs s (A4.pre hR H.sub) w.obj hl'
  refine by_c H R8 K8 fun H8=> ?_
  simp +contextual (disch:=omega) only[go_sem]
  refine by_r H8 (Je N8 r8 _ (H8.hp.sl 0 rfl) 1048576 (Lc hl false w.obj) (by
   have:(Ag s false w.obj).length*(1048576+1)<=1048576*1048577:=Zax (by omega) (by omega)
   omega) (by omega)) ?_
  simp +contextual (disch:=omega) only[go_sem,hE]
 have b2:(w.kind==2)=false:=by simpa using k2
 by_cases k3:w.kind=3
 ·have c3:(w.kind==3)=true:=by simpa using k3
  have hE:Gn s w=tolB (Gr s w.obj w.key) ⟨#[124]⟩:=by simp[Gn,hok,k3]
  simp +contextual (disch:=omega) only[go_sem,b1,b2,c3,A2 gl,gl]
  obtain⟨m,N4,R4,K4⟩:=L6 N cs s (A4.pre hR H.sub) w.obj w.key hl'
  refine by_c H R4 K4 fun H4=> ?_
  simp +contextual (disch:=omega) only[go_sem]
  refine by_r H4 (E1 N4 m _ (H4.hp.sl 0 rfl) ⟨#[124]⟩ (by decide) (A2s hI _ _) (by have:=La s w.obj w.key;omega)) ?_
  simp +contextual (disch:=omega) only[go_sem,hE]
 have b3:(w.kind==3)=false:=by simpa using k3
 have hE:Gn s w=tolB (Hh s w.obj) ⟨#[44]⟩:=by simp[Gn,hok,k1,k2,k3]
 simp +contextual (disch:=omega) only[go_sem,b1,b2,b3,A2 gl,gl]
 obtain⟨r10,N10,R10,K10⟩:=L9 N cs s (A4.pre hR H.sub) w.obj hl'
 refine by_c H R10 K10 fun H10=> ?_
 simp +contextual (disch:=omega) only[go_sem]
 refine by_r H10 (E1 N10 r10 _ (H10.hp.sl 0 rfl) ⟨#[44]⟩ (by decide) (A2t hI _) (by have:=Lb s w.obj;omega)) ?_
 simp +contextual (disch:=omega) only[go_sem,hE]
def Ha:Fn1:=⟨38,[.t 4],(rg [oX 2 0,oX 3 1,oV 4 kf] (rg [oV 5 (ki 1048576)] (rg [oW 9 4 2,oM 10 5,oD 11 14 9 10,oM 5 11] (.seq (rg [oM 12 5,oE 13 .lss 12 0] (oG 13 (oR 4 kt))) (rg [oW 14 3 3,oM 15 5,oD 16 64 14 15,oM 5 16] (.seq (rg [oM 17 5,oE 18 .lss 17 0] (oG 18 (oR 4 kt))) (dw [oW 19 4 2,oC 20 17 19,oW 21 3 3] [oC 22 65 21,oD 23 47 20 22,oM 6 23] (rg [oW 24 4 2,oC 25 17 24,o 7 (.new [.nilS,.nilS,.nilS,.nilS]),oS 4 7 25] (dw [oW 26 4 7,oW 27 3 3,oC 28 65 27] [oD 29 32 26 28,oM 8 29] (.seq (rg [oM 30 8,oM 31 6,oB 32 .neq 30 31] (oG 32 (oR 4 kf))) (.seq (dw [oW 33 4 7,oW 34 4 2,oC 35 17 34] [oD 36 21 33 35,oU 37 36] (oG 37 (oR 4 kf))) (oR 4 kt))))))))))))⟩
theorem My:A6 Tryz.prog 11=some Ha:=by kernel_rfl
theorem law_ShowWatch (U:St) (cs0:List GV) (x0:State) (hR0:eState.R U x0 cs0) (hw0:zState x0) (cs1:List GV) (x1:Watch) (hR1:eWatch.R U x1 cs1) (hw1:zWatch x1):∃ r N,Ret Tryz.prog 11 [.agg cs0,.agg cs1] U r N/\r= .bool true:=by
 have hst:stI x0:=⟨fun x hx=>(hw0.2.2.1.2 x hx).2.2.2.1.2,fun x hx=>(hw0.2.2.2.2 x hx).2.2.2.2.1.2⟩
 have hR0:=Ajc hR0
 have hl0:=A4.len hR0
 have hw0:=Ago hw0
 obtain rfl:cs1=Lp.enc x1:=Ant hR1
 simp only[Aja]
 refine Ajb My (Z0z rfl) ?_
 have hB:U <+: U++[some (Blk.row 1 (cs0))]++[some (Blk.row 1 ([.int .i64 x1.kind,.str x1.obj,.str x1.key]))]:=pre2
 have hb0:rdB (U++[some (Blk.row 1 (cs0))]++[some (Blk.row 1 ([.int .i64 x1.kind,.str x1.obj,.str x1.key]))]) (U).length=some (cs0):=A7x (Zad _)
 have hs0:(seg cs0 0 4).bind (mkv true)=some (.agg cs0):=A2 hl0
 have hb1:rdB (U++[some (Blk.row 1 (cs0))]++[some (Blk.row 1 ([.int .i64 x1.kind,.str x1.obj,.str x1.key]))]) (U++[some (Blk.row 1 (cs0))]).length=some ([.int .i64 x1.kind,.str x1.obj,.str x1.key]):=M4 (Zad _)
 simp +contextual (disch:=omega) only[go_sem,Ha,A3 (Aj (Zad _) hb0),hs0,A3 (Aj (Zad _) hb1),Zac]
 refine A9 (Qq _ cs0 x0 (A4.pre hR0 (hB.trans (Zad _))) (1048576) hw0 (by omega) (by omega)) ?_
 have ge0:= @Ahc (1048576) (Aa x0)
 have gm0:= @A46 (1048576) (Aa x0) (by omega)
 try simp +contextual (disch:=omega) only[go_sem,Zac,ite_self,ne_eq,not_true_eq_false,bne_self_eq_false,beq_self_eq_true,A3 (Aj (Zad _) hb0),hs0,A3 (Aj (Zad _) hb1)]
 refine⟨fun _=>hB.length_le,fun hn=> ?_⟩
 have hn:=of_decide_eq_false hn
 have hf0:=J5 hn
 have hu0:Aa x0<=1048576:=by omega
 try simp +contextual (disch:=omega) only[go_sem,Zac,ite_self,ne_eq,not_true_eq_false,bne_self_eq_false,beq_self_eq_true,A3 (Aj (Zad _) hb0),hs0,A3 (Aj (Zad _) hb1)]
 refine A9 (A97 _ x1 (lf (1048576) (Aa x0)) (Als hw1) (by omega) (by omega)) ?_
 have ge1:= @Ahc (lf (1048576) (Aa x0)) (Bm x1)
 have gm1:= @A46 (lf (1048576) (Aa x0)) (Bm x1) (by omega)
 try simp +contextual (disch:=omega) only[go_sem,Zac,ite_self,ne_eq,not_true_eq_false,bne_self_eq_false,beq_self_eq_true,A3 (Aj (Zad _) hb0),hs0,A3 (Aj (Zad _) hb1)]
 refine⟨fun _=>hB.length_le,fun hn=> ?_⟩
 have hn:=of_decide_eq_false hn
 have hf1:=J5 hn
 try simp +contextual (disch:=omega) only[go_sem,Zac,ite_self,ne_eq,not_true_eq_false,bne_self_eq_false,beq_self_eq_true,A3 (Aj (Zad _) hb0),hs0,A3 (Aj (Zad _) hb1)]
 have H:=Hp.refl (U++[some (Blk.row 1 (cs0))]++[some (Blk.row 1 ([.int .i64 x1.kind,.str x1.obj,.str x1.key]))])
 try simp +contextual (disch:=omega) only[go_sem,Zac,ite_self,ne_eq,not_true_eq_false,bne_self_eq_false,beq_self_eq_true,A3 (Aj H.sub hb0),hs0,A3 (Aj H.sub hb1)]
 obtain⟨_,N1,R1,_,d1,rfl,K1⟩:=Dx _ cs0 x0 (A4.pre hR0 (hB.trans H.sub)) (by omega)
 refine Ck R1 K1 ?_
 have H:=H.add K1
 try simp only[Zaa,Zab] at H
 have g1:=A2 (A4.len (K1.rd 0 rfl))
 have g1:(seg d1 0 4).bind (mkv true)=some (.agg d1):=g1
 have gl1:d1.length=4:=A4.len (K1.rd 0 rfl)
 try simp +contextual (disch:=omega) only[go_sem,Zac,ite_self,ne_eq,not_true_eq_false,bne_self_eq_false,beq_self_eq_true,A3 (Aj H.sub hb0),hs0,A3 (Aj H.sub hb1),g1]
 refine A9 (Rz _ x1) ?_
 try simp +contextual (disch:=omega) only[go_sem,Zac,ite_self,ne_eq,not_true_eq_false,bne_self_eq_false,beq_self_eq_true,A3 (Aj H.sub hb0),hs0,A3 (Aj H.sub hb1),g1]
 refine A9 (Fj _ d1 x0 (H.rd 0 rfl) x1 (by omega) (by omega) hst) ?_
 have hpw:=H.sub
 have H:=H.restart
 try simp +contextual (disch:=omega) only[go_sem,Zac,ite_self,ne_eq,not_true_eq_false,bne_self_eq_false,beq_self_eq_true,A3 (Aj (hpw.trans H.sub) hb0),hs0,A3 (Aj (hpw.trans H.sub) hb1),g1]
 obtain⟨_,N4,R4,_,d4,rfl,K4⟩:=Dx _ cs0 x0 (A4.pre hR0 (hB.trans (hpw.trans H.sub))) (by omega)
 refine Ck R4 K4 ?_
 have H:=H.add K4
 try simp only[Zaa,Zab] at H
 have g4:=A2 (A4.len (K4.rd 0 rfl))
 have g4:(seg d4 0 4).bind (mkv true)=some (.agg d4):=g4
 have gl4:d4.length=4:=A4.len (K4.rd 0 rfl)
 try simp +contextual (disch:=omega) only[go_sem,Zac,ite_self,ne_eq,not_true_eq_false,bne_self_eq_false,beq_self_eq_true,A3 (Aj (hpw.trans H.sub) hb0),hs0,A3 (Aj (hpw.trans H.sub) hb1),g1,g4]
 have H:=H.new 1 d4
 try simp +contextual (disch:=omega) only[go_sem,Zac,ite_self,ne_eq,not_true_eq_false,bne_self_eq_false,beq_self_eq_true,A3 (Aj (hpw.trans H.sub) hb0),hs0,A3 (Aj (hpw.trans H.sub) hb1),A3 (H.pt 0 rfl),g1,g4,Ab (cs:=[GV.nilS,GV.nilS,GV.nilS,GV.nilS]) gl4 rfl,gl4]
 refine A9 (Rz _ x1) ?_
 try simp +contextual (disch:=omega) only[go_sem,Zac,ite_self,ne_eq,not_true_eq_false,bne_self_eq_false,beq_self_eq_true,A3 (Aj (hpw.trans H.sub) hb0),hs0,A3 (Aj (hpw.trans H.sub) hb1),A3 (H.pt 0 rfl),g1,g4]
 refine A9 (Fi _ d4 x0 (H.rd 1 rfl) x1 (by omega) (by omega) hst) ?_
 try simp +contextual (disch:=omega) only[go_sem,Zac,ite_self,ne_eq,not_true_eq_false,bne_self_eq_false,beq_self_eq_true,A3 (Aj (hpw.trans H.sub) hb0),hs0,A3 (Aj (hpw.trans H.sub) hb1),A3 (H.pt 0 rfl),g1,g4]
 try simp +contextual (disch:=omega) only[go_sem,Zac,ite_self,ne_eq,not_true_eq_false,bne_self_eq_false,beq_self_eq_true,A3 (Aj (hpw.trans H.sub) hb0),hs0,A3 (Aj (hpw.trans H.sub) hb1),A3 (H.pt 0 rfl),g1,g4]
 try simp +contextual (disch:=omega) only[go_sem,Zac,ite_self,ne_eq,not_true_eq_false,bne_self_eq_false,beq_self_eq_true,A3 (Aj (hpw.trans H.sub) hb0),hs0,A3 (Aj (hpw.trans H.sub) hb1),A3 (H.pt 0 rfl),g1,g4]
 obtain⟨_,N7,R7,_,d7,rfl,K7⟩:=Dx _ cs0 x0 (A4.pre hR0 (hB.trans (hpw.trans H.sub))) (by omega)
 refine Ck R7 K7 ?_
 have H:=H.add K7
 try simp only[Zaa,Zab] at H
 have g7:=A2 (A4.len (K7.rd 0 rfl))
 have g7:(seg d7 0 4).bind (mkv true)=some (.agg d7):=g7
 have gl7:d7.length=4:=A4.len (K7.rd 0 rfl)
 try simp +contextual (disch:=omega) only[go_sem,Zac,ite_self,ne_eq,not_true_eq_false,bne_self_eq_false,beq_self_eq_true,A3 (Aj (hpw.trans H.sub) hb0),hs0,A3 (Aj (hpw.trans H.sub) hb1),A3 (H.pt 1 rfl),g1,g4,g7]
 refine A9 (Qp _ _ _ _ _ (H.rd 2 rfl) (H.rd 0 rfl) (by omega)) ?_
 try simp +contextual (disch:=omega) only[go_sem,Zac,ite_self,ne_eq,not_true_eq_false,bne_self_eq_false,beq_self_eq_true,A3 (Aj (hpw.trans H.sub) hb0),hs0,A3 (Aj (hpw.trans H.sub) hb1),A3 (H.pt 1 rfl),g1,g4,g7,decide_true,eq_self]
 exact(hB.trans (hpw.trans H.sub)).length_le
def A6w:Fn1:=⟨32,[.t 2],(rg [o 2 (.mov (.k .nilP))] (rg [oM 5 0,oN 6 5,o 7 (.bin .add (ki 93901) (.t 6)),oM 3 7] (.seq (rg [oV 4 (ki 0)] (oH 0 (.seq (rg [oM 8 4,oM 9 0,oN 10 9,oB 11 .lss 8 10,oM 12 11,jM 13 12 4,jE 14 12 .lss 13 4000,oQ 15 12 14] (oJ 15 0)) (.seq (.blk 1 (.reg [oM 18 3,oE 19 .mul 18 131,oM 20 0,oM 21 4,oI 22 1 20 21,oL 23 22,o 24 (.cvi .i64 (.t 23)),oB 25 .add 19 24,oZ 26 25 7,oE 27 .and 26 1073741823,oM 3 27])) (.reg [oM 16 4,oZ 17 16 1,oM 4 17]))))) (rg [oM 28 0,oM 29 3,o 30 (.build [.nilS,z0,z0] [(0,1,(.t 28)),(2,1,(.t 29))]),oX 31 30,oM 2 31] .ret))))⟩
theorem Afc:A6 Tryz.prog 89=some A6w:=by kernel_rfl
def A35:Fn1:=⟨58,[.t 2],(rg [oV 2 (ki 0)] (rg [oM 4 0,oM 5 0,oK 6 5,oF 7 2 6,oL 8 7,oE 9 .mul 8 6364136223846793005,oZ 10 9 1442695040888963407,oK 11 4,oF 12 2 11,oS 1 12 10] (dw [oM 13 0,oK 14 13,oF 15 2 14,oL 16 15,o 17 (.bin .shr (.t 16) (.k (.int .u64 33))),oM 18 0,oK 19 18,oF 20 2 19,oL 21 20] [o 22 (.bin .shr (.t 21) (.k (.int .u64 45))),oB 23 .xor 17 22,oE 24 .and 23 255,oM 3 24] (.seq (dw [oM 25 0,oK 26 25,oF 27 1 26,oL 28 27,oM 29 0,oK 30 29,oF 31 0 30,oL 32 31] [oN 33 32,oB 34 .lss 28 33] (oG 34 (dw [oM 35 3,oM 36 0,oK 37 36,oF 38 0 37,oL 39 38,oM 40 0,oK 41 40,oF 42 1 41,oL 43 42] [oI 44 1 39 43,oL 45 44,o 46 (.cvi .i64 (.t 45)),oB 47 .add 35 46,oE 48 .and 47 255,oM 3 48] (.reg [oM 49 0,oM 50 0,oK 51 50,oF 52 1 51,oL 53 52,oZ 54 53 1,oK 55 49,oF 56 1 55,oS 1 56 54])))) (rg [oM 57 3,oM 2 57] .ret)))))⟩
theorem Acr:A6 Tryz.prog 191=some A35:=by kernel_rfl
def Iy:Fn1:=⟨37,[.t 4],(rg [oV 4 (ki 0)] (.seq (rg [oM 9 1,oE 10 .leq 9 0] (oG 10 (oR 4 (ki 0)))) (.seq (rg [oM 11 1,oE 12 .leq 11 256] (oG 12 (rg [oM 13 0,oC 14 191 13,oM 15 1,oB 16 .rem 14 15,oM 4 16] .ret))) (rg [oM 17 0,oC 18 191 17,oM 5 18] (rg [oM 19 0,oC 20 191 19,oM 6 20] (rg [oM 21 0,oC 22 191 21,oM 7 22] (rg [oM 23 0,oC 24 191 23,oM 8 24] (rg [oM 25 5,oE 26 .mul 25 16777216,oM 27 6,oE 28 .mul 27 65536,oB 29 .add 26 28,oM 30 7,oE 31 .mul 30 256,oB 32 .add 29 31,oM 33 8,oB 34 .add 32 33,oM 35 1,oB 36 .rem 34 35,oM 4 36] .ret))))))))⟩
theorem A98:A6 Tryz.prog 92=some Iy:=by kernel_rfl
theorem Acs (U:St) (v:GV) (bs:List Int) (hv:RS pB.kd U v bs) (hl:bs.length<=1099511627776):∃ c N,Ret Tryz.prog 89 [v] U c N/\Hp U N [crs c v bs.length]:=by
 refine A56 (rs:=fun c=>[crs c v bs.length]) Afc (Z0z rfl) ?_
 obtain⟨fa,ha,_⟩:=Ame 1073741823 (by decide)
 have ha:∀ a,binG .and (.int .i64 a) (.int .i64 1073741823)=some (.int .i64 (fa a)):=ha
 simp +contextual (disch:=omega) only[go_sem,A6w,hv.len]
 refine Bk (min bs.length 4000) 4 (fun i env N=>env 0=v/\(∃ h:Int,env 3=gi h)/\U=N) rfl ⟨rfl,⟨_,rfl⟩,rfl⟩ ?_ ?_
 ·rintro i env N hi e4 c0 ⟨e0,⟨h,e3⟩,rfl⟩
  have hi':i<bs.length:=by omega
  have c1:decide ((i:Int)<bs.length)=true:=by simp;omega
  have c2:decide ((i:Int)<4000)=true:=by simp;omega
  simp +contextual (disch:=omega) only[go_sem,c1,c2,e0,e3,e4,hv.len,Aem hv hi',ha]
  exact⟨_,rfl⟩
 ·rintro env N e4 c0 ⟨e0,⟨h,e3⟩,rfl⟩
  by_cases hb:bs.length<=4000
  ·have c1:decide (((min bs.length 4000:Nat):Int)<bs.length)=false:=by simp;omega
   simp +contextual (disch:=omega) only[go_sem,c1,e0,e3,e4,hv.len,hv.cell]
   exact⟨_,rfl,((Hp.refl U).new 1 _).ptCur⟩
  ·have c1:decide (((min bs.length 4000:Nat):Int)<bs.length)=true:=by simp;omega
   have c2:decide (((min bs.length 4000:Nat):Int)<4000)=false:=by simp;omega
   simp +contextual (disch:=omega) only[go_sem,c1,c2,e0,e3,e4,hv.len,hv.cell]
   exact⟨_,rfl,((Hp.refl U).new 1 _).ptCur⟩
theorem E2 {U0 U:St} {rs:List Thg} (H:Hp U0 U rs) {k:Nat} {c v:GV} {bs:List Int} (hk:rs[k]? =some (crs c v bs.length)) (hv:RS pB.kd U0 v bs) (hl:bs.length<=1099511627776):
  ∃ r N,Ret Tryz.prog 191 [c] U r N/\∃ x:Int,r=gi x/\0<=x/\x<=255/\Hp U0 N rs:=by
 obtain⟨g,i,h,rfl,hi,hB,hm⟩:=H.crs hk
 refine Ch Acr (Z0z rfl) ?_
 obtain⟨fa,ha,hfa⟩:=Ame 255 (by decide)
 have ha:∀ a,binG .and (.int .i64 a) (.int .i64 255)=some (.int .i64 (fa a)):=ha
 obtain⟨f33,h33⟩:=Amd 33 (by decide)
 obtain⟨f45,h45⟩:=Amd 45 (by decide)
 obtain⟨fx,hx⟩:=xor_ex
 have hs1:∀ y:Int,stG 1 U (.ptr g 2) (.int .i64 y)=some (.tup [],U.set g (some (.row 1 [v,gi i,gi y]))):=fun y=>Amb (x:=.int .i64 y) (n:=1) hB (by simp) (by decide) rfl
 have hs2:∀ y x:Int,stG 1 (U.set g (some (.row 1 [v,gi i,gi y]))) (.ptr g 1) (.int .i64 x)=some (.tup [],U.set g (some (.row 1 [v,gi x,gi y]))):=fun y x=>by
  rw[Amb (x:=.int .i64 x) (n:=1) (Ajr hB) (by simp) (by decide) rfl,List.set_set];rfl
 have hr:∀ y:Int,rdB (U.set g (some (.row 1 [v,gi i,gi y]))) g=some [v,gi i,gi y]:=fun y=>Amc (Ajr hB)
 have hlen:∀ y x:Int,(U.set g (some (.row 1 [v,gi x,gi y]))).length=U.length:=fun y x=>by simp
 simp +contextual (disch:=omega) only[go_sem,A35,A3 (Amc hB),hs1,A3 (hr _),h33,h45,hx,ha,hv.len,hv.notup]
 refine⟨fun hn=> ?_,fun hn=> ?_⟩
 ·have hi':i<bs.length:=by simpa using hn
  have hb1:=(Aem hv hi').1
  have hb2:∀ y:Int,ldG false 1 (U.set g (some (.row 1 [v,gi i,gi y]))) (atz 1 v i)=some (.int .u8 bs[i]):=fun y=>(Aem (hv.pre (hm i y hi).sub) hi').2
  simp +contextual (disch:=omega) only[go_sem,A3 (hr _),hb1,hb2,ha,hs2]
  exact⟨_,rfl,_,rfl,(hfa _).1,(hfa _).2,hm _ _ hi'⟩
 ·exact⟨_,rfl,_,rfl,(hfa _).1,(hfa _).2,hm _ _ hi⟩
theorem Pa {U0 U:St} {rs:List Thg} (H:Hp U0 U rs) {k:Nat} {c v:GV} {bs:List Int} (hk:rs[k]? =some (crs c v bs.length)) (hv:RS pB.kd U0 v bs) (hl:bs.length<=1099511627776) (n:Int) (hn:n<=4611686018427387904):
  ∃ r N,Ret Tryz.prog 92 [c,gi n] U r N/\∃ x:Int,r=gi x/\0<=x/\(n<=0->x=0)/\(0<n->x<n)/\Hp U0 N rs:=by
 refine Ch A98 (Z0z rfl) ?_
 by_cases h0:n<=0
 ·have c0:decide (n<=0)=true:=decide_eq_true h0
  simp +contextual (disch:=omega) only[go_sem,Iy,c0]
  exact⟨_,rfl,0,rfl,by omega,fun _=>rfl,fun h=>by omega,H⟩
 ·have c0:decide (n<=0)=false:=decide_eq_false h0
  have hn0:¬ (n=0):=by omega
  by_cases h1:n<=256
  ·have c1:decide (n<=256)=true:=decide_eq_true h1
   simp +contextual (disch:=omega) only[go_sem,Iy,c0,c1]
   obtain⟨r,N,R,x,rfl,hx0,hx1,H1⟩:=E2 H hk hv hl
   refine Am R ?_
   simp +contextual (disch:=omega) only[go_sem,hn0]
   exact⟨_,rfl,_,rfl,Zbf _ hx0,fun h=>by omega,fun h=>Zav _ h,H1⟩
  ·have c1:decide (n<=256)=false:=decide_eq_false h1
   simp +contextual (disch:=omega) only[go_sem,Iy,c0,c1]
   obtain⟨r,N1,R,x,rfl,hx0,hx1,H1⟩:=E2 H hk hv hl
   refine Am R ?_
   simp +contextual (disch:=omega) only[go_sem]
   obtain⟨r,N2,R,y,rfl,hy0,hy1,H2⟩:=E2 H1 hk hv hl
   refine Am R ?_
   simp +contextual (disch:=omega) only[go_sem]
   obtain⟨r,N3,R,z,rfl,hz0,hz1,H3⟩:=E2 H2 hk hv hl
   refine Am R ?_
   simp +contextual (disch:=omega) only[go_sem]
   obtain⟨r,N4,R,w,rfl,hw0,hw1,H4⟩:=E2 H3 hk hv hl
   refine Am R ?_
   simp +contextual (disch:=omega) only[go_sem,hn0]
   exact⟨_,rfl,_,rfl,Zbf _ (by omega),fun h=>by omega,fun h=>Zav _ h,H4⟩
theorem Hp.cp {Y:Type} {p:Pl Y} {by8:Nat} {U N:St} {rs:List Thg} {x:GV} {m:List Y} (H:Hp U N rs) (hx:RS p.kd N x m) (hz:0<p.z) (hb:m.length*by8<=140737488355328):
  ∃ v' N',appV p.z by8 (N++[some (.row p.z [])]) (.sl N.length 0 0) x=some (v',N')/\N++[some (.row p.z [])] <+: N'/\Hp U N' (ow p.kd v' m::rs):=by
 have hx':RdN p.en (N++[some (.row p.z [])]) x m:=RdN.pre hx (pre1 _ _)
 have ha:appV p.z by8 (N++[some (.row p.z [])]) (.sl N.length 0 0) x=appG p.z by8 (N++[some (.row p.z [])]) (.sl N.length 0 0) m.length (p.cells m):=by
  have he:=hx'.elems
  unfold appV
  rcases hx' with⟨rfl,rfl|rfl⟩|⟨g,off,cs,rfl,_⟩<;>simp only[he,Option.bind_some]
 rw[ha]
 have H1:=H.newNil p.kd
 by_cases hm:m.length=0
 ·have:m=[]:=List.eq_nil_of_length_eq_zero hm
  subst this
  exact⟨_,_,by simp[appG,isSl],Zad _,H1⟩
 ·refine⟨.sl (N.length+1) 0 m.length,N++[some (.row p.z [])]++[some (.row p.z (p.cells m))],?_,pre1 _ _,?_⟩
  ·have hB:(N++[some (Blk.row p.z [])])[N.length]? =some (some (.row p.z [])):=by simp
   simp only[appG,hB,if_neg hm]
   rw[if_pos ⟨trivial,trivial,trivial,trivial,hb⟩]
   simp
  ·have H2:=(((H.grow (pre1 N (some (Blk.row p.z [])))).new p.z (p.cells m)).toRow 0 rfl m rfl rfl _ rfl)
   have e:(N++[some (Blk.row p.z [])]).length=N.length+1:=by simp
   rw[e] at H2
   exact H2
theorem Hp.cp_int {U N:St} {rs:List Thg} {x:GV} {m:List Int} (H:Hp U N rs) (hx:RS pI.kd N x m) (hb:m.length<=1099511627776):∃ v' N',appV 1 8 (N++[some (.row 1 [])]) (.sl N.length 0 0) x=some (v',N')/\N++[some (.row 1 [])] <+: N'/\Hp U N' (ow pI.kd v' m::rs):=H.cp hx (by decide) (by omega)
theorem Hp.cp_Tally {U N:St} {rs:List Thg} {x:GV} {m:List Tally} (H:Hp U N rs) (hx:RS Ba.kd N x m) (hb:m.length<=1099511627776):∃ v' N',appV 3 32 (N++[some (.row 3 [])]) (.sl N.length 0 0) x=some (v',N')/\N++[some (.row 3 [])] <+: N'/\Hp U N' (ow Ba.kd v' m::rs):=H.cp hx (by decide) (by omega)
theorem Hp.cp_Live {U N:St} {rs:List Thg} {x:GV} {m:List Live} (H:Hp U N rs) (hx:RS Bp.kd N x m) (hb:m.length<=1099511627776):∃ v' N',appV 6 64 (N++[some (.row 6 [])]) (.sl N.length 0 0) x=some (v',N')/\N++[some (.row 6 [])] <+: N'/\Hp U N' (ow Bp.kd v' m::rs):=H.cp hx (by decide) (by omega)
theorem Hp.cp_Cell {U N:St} {rs:List Thg} {x:GV} {m:List Cell} (H:Hp U N rs) (hx:RS Ak.kd N x m) (hb:m.length<=1099511627776):∃ v' N',appV 8 72 (N++[some (.row 8 [])]) (.sl N.length 0 0) x=some (v',N')/\N++[some (.row 8 [])] <+: N'/\Hp U N' (ow Ak.kd v' m::rs):=H.cp hx (by decide) (by omega)
theorem Fk (U:St) (cs:List GV) (s:State) (hR:A4.R U s cs) (hl:Aa s<=1099511627776):∃ ds N,Ret Tryz.prog 95 [.agg cs] U (.agg ds) N/\Hp U N [own A4 ds s]:=by
 obtain⟨a,b,c,v,rfl,hk,ht,hv,hc⟩:=hR
 obtain⟨l1,l2,l3,l4,_⟩:=Aq hl
 have key:∃ r N,Ret Tryz.prog 95 [.agg [a,b,c,v]] U r N/\∃ ds,r= .agg ds/\Hp U N [own A4 ds s]:=by
  refine Ch Abp (Z0z rfl) ?_
  have H:=((Hp.refl U).new 1 [a,b,c,v]).new 1 [GV.nilS,GV.nilS,GV.nilS,GV.nilS]
  simp +contextual (disch:=omega) only[go_sem,A1q]
  obtain⟨u1,N1,e1,q1,H1⟩:=H.cp_int (hk.pre H.sub) l1
  have z1:=Tj (H1.pt 2 rfl) [some (Blk.row 3 [])]
  simp +contextual (disch:=omega) only[go_sem,e1,q1,A3 z1]
  obtain⟨u2,N2,e2,q2,H2⟩:=H1.cp_Tally (ht.pre H1.sub) l2
  have z2:=Tj (H2.pt 3 rfl) [some (Blk.row 6 [])]
  simp +contextual (disch:=omega) only[go_sem,e2,q2,A3 z2]
  obtain⟨u3,N3,e3,q3,H3⟩:=H2.cp_Live (hv.pre H2.sub) l3
  have z3:=Tj (H3.pt 4 rfl) [some (Blk.row 8 [])]
  simp +contextual (disch:=omega) only[go_sem,e3,q3,A3 z3]
  obtain⟨u4,N4,e4,q4,H4⟩:=H3.cp_Cell (hc.pre H3.sub) l4
  have c1:=(H4.sl 3 rfl).cell
  have c2:=(H4.sl 2 rfl).cell
  have c3:=(H4.sl 1 rfl).cell
  have c4:=(H4.sl 0 rfl).cell
  obtain⟨N5,e5,H5,_⟩:=H4.st 4 rfl 4 0 (.agg [u1,u2,u3,u4]) rfl (by decide) (by simp)
  have z5:=H5.pt 4 rfl
  have z5:rdB N5 (U++[some (Blk.row 1 [a,b,c,v])]).length=some [u1,u2,u3,u4]:=z5
  simp +contextual (disch:=omega) only[go_sem,e4,q4,c1,c2,c3,c4,e5,A3 z5]
  exact⟨_,rfl,_,rfl,(((((H5.pick 1 rfl).pick 2 rfl).pick 3 rfl).ownState).one)⟩
 obtain⟨r,N,R,ds,rfl,H⟩:=key
 exact⟨ds,N,R,H⟩
section
variable {Y:Type} {d:En Y} {U N:St} {v:GV} {l:List Y}
end
abbrev Ai2 (x:Live):List GV:=[.bool x.map,.str x.obj,.str x.key,.int .i64 x.val,.int .i64 x.dot.rep,.int .i64 x.dot.seq]
theorem A99 {n:Nat}:decide ((120:Int)<(n:Int))=decide (120<n):=by rw[decide_eq_decide];omega
abbrev Acu (x:Tally):List GV:=[.str x.obj,.int .i64 x.rep,.int .i64 x.sum]
def A37:Fn1:=⟨45,[.t 4],(rg [oX 3 1,o 4 (.mov (.k .nilS))] (rg [o 8 (.lit 6 0 [] []),oM 5 8] (rg [oV 6 kf] (.seq (rg [oV 7 (ki 0)] (oH 0 (.seq (rg [oM 9 7,oM 10 0,oN 11 10,oB 12 .lss 9 11] (oJ 12 0)) (.seq (.blk 1 (.seq (dw [oM 15 6,oU 16 15,oM 17 16,jF 18 17 4 3,jW 19 17 2 18,jM 20 17 0,jM 21 17 7,jI 22 17 6 20 21,jF 23 17 4 22,jW 24 17 2 23] [jD 25 17 233 19 24,oQ 26 17 25] (oG 26 (rg [oM 27 5,oW 28 6 3,o 29 (.lit 6 1 [(.bool false),s0,s0,z0,z0,z0] [(0,6,(.t 28))]),o 30 (.app 6 64 [(.bool false),s0,s0,z0,z0,z0] (.t 27) (.t 29)),oM 5 30] (.reg [oV 6 kt])))) (.reg [oM 31 5,oM 32 0,oM 33 7,oI 34 6 32 33,oW 35 6 34,o 36 (.lit 6 1 [(.bool false),s0,s0,z0,z0,z0] [(0,6,(.t 35))]),o 37 (.app 6 64 [(.bool false),s0,s0,z0,z0,z0] (.t 31) (.t 36)),oM 5 37]))) (.reg [oM 13 7,oZ 14 13 1,oM 7 14]))))) (.seq (rg [oM 38 6,oU 39 38] (oG 39 (.reg [oM 40 5,oW 41 6 3,o 42 (.lit 6 1 [(.bool false),s0,s0,z0,z0,z0] [(0,6,(.t 41))]),o 43 (.app 6 64 [(.bool false),s0,s0,z0,z0,z0] (.t 40) (.t 42)),oM 5 43]))) (rg [oM 44 5,oM 4 44] .ret))))))⟩
theorem Acv:A6 Tryz.prog 199=some A37:=by kernel_rfl
def A39:Fn1:=⟨45,[.t 4],(rg [oX 3 1,o 4 (.mov (.k .nilS))] (rg [o 8 (.lit 8 0 [] []),oM 5 8] (rg [oV 6 kf] (.seq (rg [oV 7 (ki 0)] (oH 0 (.seq (rg [oM 9 7,oM 10 0,oN 11 10,oB 12 .lss 9 11] (oJ 12 0)) (.seq (.blk 1 (.seq (dw [oM 15 6,oU 16 15,oM 17 16,jF 18 17 1 3,jW 19 17 2 18,jM 20 17 0,jM 21 17 7,jI 22 17 8 20 21,jF 23 17 1 22,jW 24 17 2 23] [jD 25 17 233 19 24,oQ 26 17 25] (oG 26 (rg [oM 27 5,oW 28 8 3,o 29 (.lit 8 1 [s0,z0,z0,z0,z0,z0,z0,(.bool false)] [(0,8,(.t 28))]),o 30 (.app 8 72 [s0,z0,z0,z0,z0,z0,z0,(.bool false)] (.t 27) (.t 29)),oM 5 30] (.reg [oV 6 kt])))) (.reg [oM 31 5,oM 32 0,oM 33 7,oI 34 8 32 33,oW 35 8 34,o 36 (.lit 8 1 [s0,z0,z0,z0,z0,z0,z0,(.bool false)] [(0,8,(.t 35))]),o 37 (.app 8 72 [s0,z0,z0,z0,z0,z0,z0,(.bool false)] (.t 31) (.t 36)),oM 5 37]))) (.reg [oM 13 7,oZ 14 13 1,oM 7 14]))))) (.seq (rg [oM 38 6,oU 39 38] (oG 39 (.reg [oM 40 5,oW 41 8 3,o 42 (.lit 8 1 [s0,z0,z0,z0,z0,z0,z0,(.bool false)] [(0,8,(.t 41))]),o 43 (.app 8 72 [s0,z0,z0,z0,z0,z0,z0,(.bool false)] (.t 40) (.t 42)),oM 5 43]))) (rg [oM 44 5,oM 4 44] .ret))))))⟩
theorem Acw:A6 Tryz.prog 201=some A39:=by kernel_rfl
def Ga:Fn1:=⟨53,[.t 4],(rg [oX 2 0,oX 3 1,oV 4 kf] (.seq (rg [oF 6 4 3,oL 7 6,oE 8 .neq 7 7,oM 9 8,jF 10 9 4 3,jL 11 9 10,jE 12 9 .neq 11 6,jM 13 9 12,vF 14 13 8 3,vW 15 13 2 14,og 16 13 false (.build [z0,z0] []),og 17 13 false (.eqs false [.i .i64,.i .i64] (.t 15) (.t 16)),og 18 9 true (.pick (.t 13) kt (.t 17)),oQ 19 9 18] (oG 19 (oR 4 kt))) (rg [oW 20 4 2,oF 21 8 3,oW 22 2 21,oD 23 120 20 22,oM 5 23] (dw [oM 24 5,oE 25 .geq 24 0,oM 26 25,jF 27 26 3 2,jL 28 26 27,jM 29 26 5,jI 30 26 8 28 29,jF 31 26 0 30,jL 32 26 31,jF 33 26 5 3,jL 34 26 33,jB 35 26 .eql 32 34,oQ 36 26 35,oM 37 36,jF 38 37 4 3,jL 39 37 38,jE 40 37 .eql 39 7,jM 41 37 40,vF 42 41 3 2,vL 43 41 42,vM 44 41 5,vI 45 41 8 43 44,vF 46 41 3 45,vL 47 41 46,vF 48 41 2 3,vL 49 41 48] [vB 50 41 .lss 47 49,og 51 37 true (.pick (.t 41) kt (.t 50)),oQ 52 37 51,oM 4 52] .ret))))⟩
theorem Afd:A6 Tryz.prog 99=some Ga:=by kernel_rfl
theorem Sb (U:St) (v:GV) (l:List Live) (h:RS Bp.kd U v l) (x:Live) (hl:l.length<=1099511627776):∃ r N,Ret Tryz.prog 199 [v,.agg (Ai2 x)] U r N/\Hp U N [ow Bp.kd r (Kw x l)]:=by
 refine Ch Acv (Z0z rfl) ?_
 have H:=((Hp.refl U).new 1 (Ai2 x)).nil_Live
 simp +contextual (disch:=omega) only[go_sem,A37]
 generalize hn1:U.length=n1 at*
 refine F9 l.length 7 0 (fun i env N=>env 0=v/\env 3= .ptr n1 0/\∃(u:GV) (put:Bool) (nxt:List Live),env 5=u/\env 6= .bool put/\insG Et x l nxt i put/\Hp U N [ow Bp.kd u nxt,pt 1 n1 (Ai2 x)]) (fun env N=>env 3= .ptr n1 0/\∃(u:GV) (put:Bool) (nxt:List Live),env 5=u/\env 6= .bool put/\insG Et x l nxt l.length put/\Hp U N [ow Bp.kd u nxt,pt 1 n1 (Ai2 x)]) rfl ⟨rfl,rfl,_,false,[],rfl,rfl,Om,H⟩ ?_ ?_ ?_
 ·clear H
  rintro J Yq hJ hY i env N hi e7 c0 ⟨e0,e3,u,put,nxt,e5,e6,hok,H⟩
  have hnl:=C9 hok
  have hln:=(h.pre H.sub).len
  have C1:=A7 (h.pre H.sub) hi
  cases put with
  |true=>
   obtain⟨w',N3,e8,H3⟩:=H.app_Live 0 rfl l[i] (by omega)
   simp +contextual (disch:=omega) only[go_sem,c0,e0,e3,e5,e6,e7,hln,C1,e8]
   refine hJ _ _ _ ⟨?_,?_,w',true,_,?_,?_,Cv hok hi (.inl rfl),H3⟩
   all_goals simp +contextual (disch:=omega) only[go_sem,e0,e3,e6]
  |false=>
   simp +contextual (disch:=omega) only[go_sem,c0,e0,e3,e5,e6,e7,hln,C1,A3 (H.pt 1 rfl)]
   refine A9 (Ct _ _ _) ?_
   cases hq:C8 x.dot l[i].dot with
   |false=>
    have hq2:Et x l[i]=false:=hq
    obtain⟨w',N3,e8,H3⟩:=H.app_Live 0 rfl l[i] (by omega)
    simp +contextual (disch:=omega) only[go_sem,c0,e0,e3,e5,e6,e7,hln,C1,e8]
    refine hJ _ _ _ ⟨?_,?_,w',false,_,?_,?_,Cv hok hi (.inr hq2),H3⟩
    all_goals simp +contextual (disch:=omega) only[go_sem,e0,e3,e6]
   |true=>
    have hq2:Et x l[i]=true:=hq
    obtain⟨w',N3,e8,H3⟩:=H.app_Live 0 rfl x (by omega)
    have H3:Hp U N3 [ow Bp.kd w' (nxt++[x]),pt 1 n1 (Ai2 x)]:=H3
    have hp:=Ky hok hi hq2
    have hnl2:=C9 hp
    simp only[Zah,Zak,Zao] at hnl2
    have C2:=A7 (h.pre H3.sub) hi
    obtain⟨w2,N4,e9,H4⟩:=H3.app_Live 0 rfl l[i] (by simp;omega)
    simp +contextual (disch:=omega) only[go_sem,c0,e0,e3,e5,e6,e7,hln,C1,A3 (H.pt 1 rfl),e8,C2,e9]
    refine hJ _ _ _ ⟨?_,?_,w2,true,_,?_,?_,hp,H4⟩
    all_goals simp +contextual (disch:=omega) only[go_sem,e0,e3,e6]
 ·clear H
  rintro Yq hY env N e7 c0 ⟨e0,e3,u,put,nxt,e5,e6,hok,H⟩
  have hln:=(h.pre H.sub).len
  simp +contextual (disch:=omega) only[go_sem,c0,e0,e3,e5,e6,e7,hln]
  refine hY _ _ ⟨?_,u,put,nxt,?_,?_,hok,H⟩
  all_goals simp +contextual (disch:=omega) only[go_sem,e3,e5,e6]
 ·clear H
  rintro env N ⟨e3,u,put,nxt,e5,e6,hok,H⟩
  have hnl:=C9 hok
  have hend:=On hok
  cases put with
  |true=>
   simp +contextual (disch:=omega) only[go_sem,e3,e5,e6]
   refine⟨_,rfl,?_⟩
   rw[Kw,<-hend]
   exact H.one
  |false=>
   obtain⟨w',N3,e8,H3⟩:=H.app_Live 0 rfl x (by omega)
   simp +contextual (disch:=omega) only[go_sem,e3,e5,e6,A3 (H.pt 1 rfl),e8]
   refine⟨_,rfl,?_⟩
   rw[Kw,<-hend]
   exact H3.one
theorem A9a (U:St) (v:GV) (l:List Cell) (h:RS Ak.kd U v l) (x:Cell) (hl:l.length<=1099511627776):∃ r N,Ret Tryz.prog 201 [v,.agg (Tt x)] U r N/\Hp U N [ow Ak.kd r (Pv x l)]:=by
 refine Ch Acw (Z0z rfl) ?_
 have H:=((Hp.refl U).new 1 (Tt x)).nil_Cell
 simp +contextual (disch:=omega) only[go_sem,A39]
 generalize hn1:U.length=n1 at*
 refine F9 l.length 7 0 (fun i env N=>env 0=v/\env 3= .ptr n1 0/\∃(u:GV) (put:Bool) (nxt:List Cell),env 5=u/\env 6= .bool put/\insG Fs x l nxt i put/\Hp U N [ow Ak.kd u nxt,pt 1 n1 (Tt x)]) (fun env N=>env 3= .ptr n1 0/\∃(u:GV) (put:Bool) (nxt:List Cell),env 5=u/\env 6= .bool put/\insG Fs x l nxt l.length put/\Hp U N [ow Ak.kd u nxt,pt 1 n1 (Tt x)]) rfl ⟨rfl,rfl,_,false,[],rfl,rfl,Om,H⟩ ?_ ?_ ?_
 ·clear H
  rintro J Yq hJ hY i env N hi e7 c0 ⟨e0,e3,u,put,nxt,e5,e6,hok,H⟩
  have hnl:=C9 hok
  have hln:=(h.pre H.sub).len
  have C1:=A8 (h.pre H.sub) hi
  cases put with
  |true=>
   obtain⟨w',N3,e8,H3⟩:=H.app_Cell 0 rfl l[i] (by omega)
   simp +contextual (disch:=omega) only[go_sem,c0,e0,e3,e5,e6,e7,hln,C1,e8]
   refine hJ _ _ _ ⟨?_,?_,w',true,_,?_,?_,Cv hok hi (.inl rfl),H3⟩
   all_goals simp +contextual (disch:=omega) only[go_sem,e0,e3,e6]
  |false=>
   simp +contextual (disch:=omega) only[go_sem,c0,e0,e3,e5,e6,e7,hln,C1,A3 (H.pt 1 rfl)]
   refine A9 (Ct _ _ _) ?_
   cases hq:C8 x.dot l[i].dot with
   |false=>
    have hq2:Fs x l[i]=false:=hq
    obtain⟨w',N3,e8,H3⟩:=H.app_Cell 0 rfl l[i] (by omega)
    simp +contextual (disch:=omega) only[go_sem,c0,e0,e3,e5,e6,e7,hln,C1,e8]
    refine hJ _ _ _ ⟨?_,?_,w',false,_,?_,?_,Cv hok hi (.inr hq2),H3⟩
    all_goals simp +contextual (disch:=omega) only[go_sem,e0,e3,e6]
   |true=>
    have hq2:Fs x l[i]=true:=hq
    obtain⟨w',N3,e8,H3⟩:=H.app_Cell 0 rfl x (by omega)
    have H3:Hp U N3 [ow Ak.kd w' (nxt++[x]),pt 1 n1 (Tt x)]:=H3
    have hp:=Ky hok hi hq2
    have hnl2:=C9 hp
    simp only[Zah,Zak,Zao] at hnl2
    have C2:=A8 (h.pre H3.sub) hi
    obtain⟨w2,N4,e9,H4⟩:=H3.app_Cell 0 rfl l[i] (by simp;omega)
    simp +contextual (disch:=omega) only[go_sem,c0,e0,e3,e5,e6,e7,hln,C1,A3 (H.pt 1 rfl),e8,C2,e9]
    refine hJ _ _ _ ⟨?_,?_,w2,true,_,?_,?_,hp,H4⟩
    all_goals simp +contextual (disch:=omega) only[go_sem,e0,e3,e6]
 ·clear H
  rintro Yq hY env N e7 c0 ⟨e0,e3,u,put,nxt,e5,e6,hok,H⟩
  have hln:=(h.pre H.sub).len
  simp +contextual (disch:=omega) only[go_sem,c0,e0,e3,e5,e6,e7,hln]
  refine hY _ _ ⟨?_,u,put,nxt,?_,?_,hok,H⟩
  all_goals simp +contextual (disch:=omega) only[go_sem,e3,e5,e6]
 ·clear H
  rintro env N ⟨e3,u,put,nxt,e5,e6,hok,H⟩
  have hnl:=C9 hok
  have hend:=On hok
  cases put with
  |true=>
   simp +contextual (disch:=omega) only[go_sem,e3,e5,e6]
   refine⟨_,rfl,?_⟩
   rw[Pv,<-hend]
   exact H.one
  |false=>
   obtain⟨w',N3,e8,H3⟩:=H.app_Cell 0 rfl x (by omega)
   simp +contextual (disch:=omega) only[go_sem,e3,e5,e6,A3 (H.pt 1 rfl),e8]
   refine⟨_,rfl,?_⟩
   rw[Pv,<-hend]
   exact H3.one
theorem Acx (U:St) (cs:List GV) (s:State) (hR:A4.R U s cs) (as':List GV) (a:Act) (hS:kAct.R U a as') (hl:Aa s<=1099511627776):Ret Tryz.prog 99 [.agg cs,.agg as'] U (.bool (Z3 s a)) U:=by
 have hR0:=hR
 have hlc:cs.length=4:=A4.len hR
 obtain⟨a1,b1,c1,v1,rfl,_,_,_,hc⟩:=hR
 obtain⟨kv,rfl,hk⟩:=hS
 obtain⟨l1,l2,l3,l4,_⟩:=Aq hl
 refine Ae Afd (Z0z rfl) trivial ?_
 have H:=((Hp.refl U).new 1 [a1,b1,c1,v1]).new 1 [.int .i64 a.dot.rep,.int .i64 a.dot.seq,.int .i64 a.time,kv,.int .i64 a.kind,.str a.obj,.str a.key,.int .i64 a.val,.int .i64 a.ref.rep,.int .i64 a.ref.seq]
 have z1:=A3 (a:=false) (n:=1) (off:=4) (H.pt 0 rfl)
 by_cases hin:a.kind=7∨(a.kind=6/\a.ref≠d0)
 ·have CA:=X2 _ _ s (A4.pre hR0 H.sub) a.ref hl
  cases hx:Eu s.cells a.ref with
  |none=>
   have hE:Z3 s a=false:=by simp[Z3,hin,hx]
   have hno:Ev s.cells a.ref= -1:=by simp[Ev,hx]
   rw[hno] at CA
   have cm:decide ((0:Int)<= -1)=false:=rfl
   by_cases h7:a.kind=7
   ·have c7:(a.kind != 7)=false:=by simp[h7]
    simp +contextual (disch:=omega) only[go_sem,Ga,c7]
    refine A9 CA ?_
    simp +contextual (disch:=omega) only[go_sem,cm,hE,H.sub]
   ·have h6:a.kind=6/\a.ref≠d0:=hin.resolve_left h7
    have c7:(a.kind != 7)=true:=by simp[h7]
    have c6:(a.kind != 6)=false:=by simp[h6.1]
    have cr:decide (a.ref=⟨0,0⟩)=false:=decide_eq_false h6.2
    simp +contextual (disch:=omega) only[go_sem,Ga,c7,c6,cr,Za9,Zam]
    refine A9 CA ?_
    simp +contextual (disch:=omega) only[go_sem,cm,hE,H.sub]
  |some k=>
   obtain⟨hk,hk2⟩:=Do hx
   have hE:Z3 s a=(decide (s.cells[k].obj=a.obj)&&(decide (a.kind=7)||decide (s.cells[k].time<a.time))):=by simp[Z3,hin,hx,Cp hk]
   have hno:Ev s.cells a.ref=k:=by simp[Ev,hx]
   rw[hno] at CA
   have cm:decide ((0:Int)<=(k:Int))=true:=by simp
   have C2:=A8 (hc.pre H.sub) hk
   by_cases h7:a.kind=7
   ·have c7:(a.kind != 7)=false:=by simp[h7]
    have d7:(a.kind==7)=true:=by simp[h7]
    rw[decide_eq_true h7,Bool.true_or,Zbg] at hE
    simp +contextual (disch:=omega) only[go_sem,Ga,c7]
    refine A9 CA ?_
    cases ho:decide (s.cells[k].obj=a.obj) with
    |true=>simp +contextual (disch:=omega) only[go_sem,cm,A5,C2,ho,d7,hE,H.sub]
    |false=>simp +contextual (disch:=omega) only[go_sem,cm,A5,C2,ho,hE,H.sub]
   ·have h6:a.kind=6/\a.ref≠d0:=hin.resolve_left h7
    have c7:(a.kind != 7)=true:=by simp[h7]
    have d7:(a.kind==7)=false:=by simp[h7]
    have c6:(a.kind != 6)=false:=by simp[h6.1]
    have cr:decide (a.ref=⟨0,0⟩)=false:=decide_eq_false h6.2
    rw[decide_eq_false h7,Bool.false_or] at hE
    simp +contextual (disch:=omega) only[go_sem,Ga,c7,c6,cr,Za9,Zam]
    refine A9 CA ?_
    cases ho:decide (s.cells[k].obj=a.obj) with
    |true=>simp +contextual (disch:=omega) only[go_sem,cm,A5,C2,ho,d7,hE,H.sub,Bool.true_and]
    |false=>simp +contextual (disch:=omega) only[go_sem,cm,A5,C2,ho,hE,H.sub,Bool.false_and]
 ·have hE:Z3 s a=true:=by unfold Z3;rw[if_neg hin]
  have h7:¬ a.kind=7:=fun h=>hin (.inl h)
  have c7:(a.kind != 7)=true:=by simp[h7]
  by_cases h6:a.kind=6
  ·have hr:a.ref=d0:=by
    by_cases h:a.ref=d0
    ·exact h
    ·exact absurd (.inr ⟨h6,h⟩) hin
   have c6:(a.kind != 6)=false:=by simp[h6]
   have cr:decide (a.ref=⟨0,0⟩)=true:=decide_eq_true hr
   simp +contextual (disch:=omega) only[go_sem,Ga,c7,c6,cr,Za9,Zam,hE,H.sub]
  ·have c6:(a.kind != 6)=true:=by simp[h6]
   simp +contextual (disch:=omega) only[go_sem,Ga,c7,c6,hE,H.sub]
def Xl:Fn1:=⟨61,[],(rg [o 13 (.lit 6 0 [] []),oM 10 13] (.seq (rg [oV 11 (ki 0)] (oH 0 (.seq (rg [oM 14 11,oM 15 0,oK 16 15,oF 17 2 16,oL 18 17,oN 19 18,oB 20 .lss 14 19] (oJ 20 0)) (.seq (.blk 1 (rg [oM 23 0,oK 24 23,oF 25 2 24,oL 26 25,oM 27 11,oI 28 6 26 27,oW 29 6 28,o 12 (.new [(.bool false),s0,s0,z0,z0,z0]),oS 6 12 29] (rg [oF 30 0 12,oL 31 30,oM 32 1,o 33 (.eqb true (.t 31) (.t 32)),oM 34 33,vF 35 34 1 12,vL 36 34 35,vM 37 34 2,vB 38 34 .neq 36 37,oP 39 34 38,oM 40 39,vF 41 40 2 12,vL 42 40 41,vM 43 40 3,vB 44 40 .neq 42 43,oP 45 40 44,oM 46 45,vM 47 46 4,vF 48 46 4 12,vW 49 46 2 48,vD 50 46 97 47 49,vU 51 46 50,oP 52 46 51] (oG 52 (.reg [oM 53 10,oW 54 6 12,o 55 (.lit 6 1 [(.bool false),s0,s0,z0,z0,z0] [(0,6,(.t 54))]),o 56 (.app 6 64 [(.bool false),s0,s0,z0,z0,z0] (.t 53) (.t 55)),oM 10 56]))))) (.reg [oM 21 11,oZ 22 21 1,oM 11 22]))))) (.reg [oM 57 0,oM 58 10,oK 59 57,oF 60 2 59,oS 1 60 58])))⟩
theorem A9b:A6 Tryz.prog 200=some Xl:=by kernel_rfl
def Xm:Fn1:=⟨113,[],(.seq (rg [oV 8 (ki 0)] (oH 0 (.seq (rg [oM 14 8,oM 15 0,oK 16 15,oF 17 1 16,oL 18 17,oN 19 18,oB 20 .lss 14 19] (oJ 20 0)) (.seq (.blk 1 (rg [oM 23 0,oK 24 23,oF 25 1 24,oL 26 25,oM 27 8,oI 28 3 26 27,oW 29 3 28,o 9 (.new [s0,z0,z0]),oS 3 9 29] (rg [oF 30 0 9,oL 31 30,oM 32 1,oB 33 .eql 31 32,oM 34 33,jF 35 34 1 9,jL 36 34 35,jM 37 34 2,jB 38 34 .eql 36 37,oQ 39 34 38] (oG 39 (dw [oM 40 0,oK 41 40,oF 42 1 41,oL 43 42,oM 44 8,oF 45 2 9,oL 46 45] [oM 47 3,oB 48 .add 46 47,oE 49 .rem 48 1000000,oI 50 3 43 44,oF 51 2 50,oS 1 51 49] .ret))))) (.reg [oM 21 8,oZ 22 21 1,oM 8 22]))))) (rg [o 52 (.lit 3 0 [] []),oM 10 52] (rg [oV 11 kf] (.seq (rg [oV 12 (ki 0)] (oH 2 (.seq (rg [oM 53 12,oM 54 0,oK 55 54,oF 56 1 55,oL 57 56,oN 58 57,oB 59 .lss 53 58] (oJ 59 2)) (.seq (.blk 3 (rg [oM 62 0,oK 63 62,oF 64 1 63,oL 65 64,oM 66 12,oI 67 3 65 66,oW 68 3 67,o 13 (.new [s0,z0,z0]),oS 3 13 68] (.seq (rg [oM 69 11,oU 70 69,oM 71 70,jF 72 71 0 13,jL 73 71 72,jM 74 71 1,jB 75 71 .gtr 73 74,jM 76 71 75,vF 77 76 0 13,vL 78 76 77,vM 79 76 1,vB 80 76 .eql 78 79,vM 81 76 80,jF 82 81 1 13,jL 83 81 82,jM 84 81 2,jB 85 81 .gtr 83 84,og 86 76 false (.pick (.t 81) (.t 85) kf),og 87 71 true (.pick (.t 76) kt (.t 86)),oQ 88 71 87] (oG 88 (rg [oM 89 10,oM 90 1,oM 91 2,oM 92 3,o 93 (.build [s0,z0,z0] [(0,1,(.t 90)),(1,1,(.t 91)),(2,1,(.t 92))]),o 94 (.lit 3 1 [s0,z0,z0] [(0,3,(.t 93))]),o 95 (.app 3 32 [s0,z0,z0] (.t 89) (.t 94)),oM 10 95] (.reg [oV 11 kt])))) (.reg [oM 96 10,oW 97 3 13,o 98 (.lit 3 1 [s0,z0,z0] [(0,3,(.t 97))]),o 99 (.app 3 32 [s0,z0,z0] (.t 96) (.t 98)),oM 10 99])))) (.reg [oM 60 12,oZ 61 60 1,oM 12 61]))))) (.seq (rg [oM 100 11,oU 101 100] (oG 101 (.reg [oM 102 10,oM 103 1,oM 104 2,oM 105 3,o 106 (.build [s0,z0,z0] [(0,1,(.t 103)),(1,1,(.t 104)),(2,1,(.t 105))]),o 107 (.lit 3 1 [s0,z0,z0] [(0,3,(.t 106))]),o 108 (.app 3 32 [s0,z0,z0] (.t 102) (.t 107)),oM 10 108]))) (.reg [oM 109 0,oM 110 10,oK 111 109,oF 112 1 111,oS 1 112 110]))))))⟩
theorem A9c:A6 Tryz.prog 198=some Xm:=by kernel_rfl
def SPtr (U0 N:St) (g:Nat) (s:State) (rest:List Thg):Prop:=∃ v0 v1 v2 v3,Hp U0 N (ow pI.kd v0 s.know::ow Ba.kd v1 s.tallies::ow Bp.kd v2 s.lives::ow Ak.kd v3 s.cells::pt 1 g [v0,v1,v2,v3]::rest)
theorem Jf {U0 U:St} {g:Nat} {s:State} {rest:List Thg} (H:SPtr U0 U g s rest) (m:Bool) (o k:ByteArray) (kv:GV) (knew:List Int) (hk:RS pI.kd U0 kv knew) (hl:Aa s<=1099511627776) (hkl:knew.length<=1099511627776):∃ N,Ret Tryz.prog 200 [.ptr g 0,.bool m,.str o,.str k,kv] U (.tup []) N/\SPtr U0 N g {s with lives:=s.lives.filter (Z2 m o k knew)} rest:=by
 obtain⟨v0,v1,v2,v3,H⟩:=H
 obtain⟨l1,l2,l3,l4,_⟩:=Aq hl
 have key:∃ r N,Ret Tryz.prog 200 [.ptr g 0,.bool m,.str o,.str k,kv] U r N/\r= .tup []/\SPtr U0 N g {s with lives:=s.lives.filter (Z2 m o k knew)} rest:=by
  refine Ch A9b (Z0z rfl) ?_
  have H:=H.nil_Live
  simp +contextual (disch:=omega) only[go_sem,Xl]
  generalize hp:Z2 m o k knew=p
  refine F9 s.lives.length 11 0 (fun i env N=>env 0= .ptr g 0/\env 1= .bool m/\env 2= .str o/\env 3= .str k/\env 4=kv/\∃ w,env 10=w/\Hp U0 N (ow Bp.kd w ((s.lives.take i).filter p)::ow pI.kd v0 s.know::ow Ba.kd v1 s.tallies::ow Bp.kd v2 s.lives::ow Ak.kd v3 s.cells::pt 1 g [v0,v1,v2,v3]::rest)) (fun env N=>env 0= .ptr g 0/\∃ w,env 10=w/\Hp U0 N (ow Bp.kd w (s.lives.filter p)::ow pI.kd v0 s.know::ow Ba.kd v1 s.tallies::ow Bp.kd v2 s.lives::ow Ak.kd v3 s.cells::pt 1 g [v0,v1,v2,v3]::rest)) rfl ⟨rfl,rfl,rfl,rfl,rfl,_,rfl,H⟩ ?_ ?_ ?_
  ·clear H
   rintro J Yq hJ hY i env N hi e11 c0 ⟨e0,e1,e2,e3,e4,w,e10,H⟩
   have hfl:=Cb s.lives p i
   have hsn:=Ew (p:=p) hi
   have C1:=A7 (H.sl 3 rfl) hi
   have hln:=(H.sl 3 rfl).len
   have zb:=H.pt 5 rfl
   have G:=H.grow (pre1 N (some (Blk.row 1 (Ai2 s.lives[i]))))
   have hkeep:p s.lives[i]=(!(s.lives[i].map==m)||(!decide (s.lives[i].obj=o)||(!decide (s.lives[i].key=k)|| !Bq knew s.lives[i].dot))):=by rw[<- hp];rfl
   obtain⟨w',N3,e8,H3⟩:=G.app_Live 0 rfl s.lives[i] (by omega)
   have kn:=G0 _ kv knew s.lives[i].dot (hk.pre G.sub) hkl
   cases h1:(s.lives[i].map==m) with
   |false=>
    rw[h1] at hkeep
    have hk0:p s.lives[i]=true:=by rw[hkeep];rfl
    rw[hk0,if_pos rfl] at hsn
    simp +contextual (disch:=omega) only[go_sem,c0,e0,e1,e2,e3,e4,e10,e11,A3 zb,hln,C1,h1,Bool.xor_false,Za2,Zan,e8]
    refine hJ _ _ _ ⟨?_,?_,?_,?_,?_,w',?_,by rw[hsn];exact H3⟩
    all_goals simp +contextual (disch:=omega) only[go_sem,e0,e1,e2,e3,e4,e10]
   |true=>
    cases h2:decide (s.lives[i].obj=o) with
    |false=>
     rw[h1,h2] at hkeep
     have hk0:p s.lives[i]=true:=by rw[hkeep];rfl
     rw[hk0,if_pos rfl] at hsn
     simp +contextual (disch:=omega) only[go_sem,c0,e0,e1,e2,e3,e4,e10,e11,A3 zb,hln,C1,h1,h2,Za2,Zan,Za0,e8]
     refine hJ _ _ _ ⟨?_,?_,?_,?_,?_,w',?_,by rw[hsn];exact H3⟩
     all_goals simp +contextual (disch:=omega) only[go_sem,e0,e1,e2,e3,e4,e10]
    |true=>
     cases h3:decide (s.lives[i].key=k) with
     |false=>
      rw[h1,h2,h3] at hkeep
      have hk0:p s.lives[i]=true:=by rw[hkeep];rfl
      rw[hk0,if_pos rfl] at hsn
      simp +contextual (disch:=omega) only[go_sem,c0,e0,e1,e2,e3,e4,e10,e11,A3 zb,hln,C1,h1,h2,h3,Za2,Zan,Za0,e8]
      refine hJ _ _ _ ⟨?_,?_,?_,?_,?_,w',?_,by rw[hsn];exact H3⟩
      all_goals simp +contextual (disch:=omega) only[go_sem,e0,e1,e2,e3,e4,e10]
     |true=>
      simp +contextual (disch:=omega) only[go_sem,c0,e0,e1,e2,e3,e4,e10,e11,A3 zb,hln,C1,h1,h2,h3,Za2,Zan,Za0]
      refine A9 kn ?_
      cases h4:Bq knew s.lives[i].dot with
      |false=>
       rw[h1,h2,h3,h4] at hkeep
       have hk0:p s.lives[i]=true:=by rw[hkeep];rfl
       rw[hk0,if_pos rfl] at hsn
       simp +contextual (disch:=omega) only[go_sem,e0,e1,e2,e3,e4,e10,e11,C1,h4,e8]
       refine hJ _ _ _ ⟨?_,?_,?_,?_,?_,w',?_,by rw[hsn];exact H3⟩
       all_goals simp +contextual (disch:=omega) only[go_sem,e0,e1,e2,e3,e4,e10]
      |true=>
       rw[h1,h2,h3,h4] at hkeep
       have hk0:p s.lives[i]=false:=by rw[hkeep];rfl
       rw[hk0,if_neg (by simp),Zac] at hsn
       simp +contextual (disch:=omega) only[go_sem,e0,e1,e2,e3,e4,e10,e11,h4]
       refine hJ _ _ _ ⟨?_,?_,?_,?_,?_,w,?_,by rw[hsn];exact G⟩
       all_goals simp +contextual (disch:=omega) only[go_sem,e0,e1,e2,e3,e4,e10]
  ·clear H
   rintro Yq hY env N e11 c0 ⟨e0,e1,e2,e3,e4,w,e10,H⟩
   rw[Zae] at H
   have hln:=(H.sl 3 rfl).len
   simp +contextual (disch:=omega) only[go_sem,c0,e0,e1,e2,e3,e4,e10,e11,A3 (H.pt 5 rfl),hln]
   refine hY _ _ ⟨?_,w,?_,H⟩
   all_goals simp +contextual (disch:=omega) only[go_sem,e0,e10]
  ·clear H
   rintro env N ⟨e0,w,e10,H⟩
   have c1:=(H.sl 0 rfl).cell
   obtain⟨N1,s1,H1,_⟩:=H.st 5 rfl 1 2 w (by rw[c1];rfl) (by decide) (by simp)
   simp +contextual (disch:=omega) only[go_sem,e0,e10,s1]
   refine⟨_,rfl,rfl,v0,v1,w,v3,?_⟩
   simp only[c1,Zaq,Zar,Av,Au,B4] at H1
   exact Hp.moveTo H1 2 rfl
 obtain⟨r,N,R,rfl,h⟩:=key
 exact⟨N,R,h⟩
theorem Ty {Y:Type} (f:Y->Y):∀ {l:List Y} {i:Nat} (hi:i<l.length),l.modify i f=l.set i (f l[i])
 |x::l,0,_=>by simp
 |x::l,i+1,hi=>by
  rw[List.modify_succ_cons,Ty f (by simpa using hi)]
  simp
theorem Ai3 {l:List Tally} {o:ByteArray} {r:Int} {i:Nat} (hi:i<l.length) (ha:∀ j (hj:j<l.length),j<i->Pu o r l[j]=false) (h:Pu o r l[i]=true):l.findIdx? (Pu o r)=some i:=by
 rw[List.findIdx?_eq_some_iff_getElem]
 exact⟨hi,h,fun j hj=>by rw[ha j (by omega) hj];simp⟩
theorem A4s {U0 U:St} {g:Nat} {s:State} {rest:List Thg} (H:SPtr U0 U g s rest) (o:ByteArray) (rep val:Int) (hl:Aa s<=1099511627776) (hv: -1000000<=val/\val<=1000000) (hs:∀ t∈s.tallies,-1000000<=t.sum/\t.sum<=1000000):∃ N,Ret Tryz.prog 198 [.ptr g 0,.str o,gi rep,gi val] U (.tup []) N/\SPtr U0 N g {s with tallies:=Jp s.tallies o rep val} rest:=by
 obtain⟨v0,v1,v2,v3,H⟩:=H
 obtain⟨l1,l2,l3,l4,_⟩:=Aq hl
 have key:∃ r N,Ret Tryz.prog 198 [.ptr g 0,.str o,gi rep,gi val] U r N/\r= .tup []/\SPtr U0 N g {s with tallies:=Jp s.tallies o rep val} rest:=by
  refine Ch A9c (Z0z rfl) ?_
  simp +contextual (disch:=omega) only[go_sem,Xm]
  refine A0w s.tallies.length 8 0 (fun i env N=>env 0= .ptr g 0/\env 1= .str o/\env 2=gi rep/\env 3=gi val/\(∀ j (hj:j<s.tallies.length),j<i->Pu o rep s.tallies[j]=false)/\Hp U0 N (ow pI.kd v0 s.know::ow Ba.kd v1 s.tallies::ow Bp.kd v2 s.lives::ow Ak.kd v3 s.cells::pt 1 g [v0,v1,v2,v3]::rest)) (fun env N=>env 0= .ptr g 0/\env 1= .str o/\env 2=gi rep/\env 3=gi val/\s.tallies.findIdx? (Pu o rep)=none/\Hp U0 N (ow pI.kd v0 s.know::ow Ba.kd v1 s.tallies::ow Bp.kd v2 s.lives::ow Ak.kd v3 s.cells::pt 1 g [v0,v1,v2,v3]::rest)) (fun env N=>SPtr U0 N g {s with tallies:=Jp s.tallies o rep val} rest) rfl ⟨rfl,rfl,rfl,rfl,fun j _ hj=>by omega,H⟩ ?_ ?_ ?_ ?_
  ·clear H
   rintro J Yq Wq hJ hY hW i env N hi e8 c0 ⟨e0,e1,e2,e3,ha,H⟩
   have C1:=Ad (H.sl 1 rfl) hi
   have hln:=(H.sl 1 rfl).len
   have zb:=H.pt 4 rfl
   have G:=H.grow (pre1 N (some (Blk.row 1 (Acu s.tallies[i]))))
   have hno:Pu o rep s.tallies[i]=false->∀ j (hj:j<s.tallies.length),j<i+1->Pu o rep s.tallies[j]=false:=fun h j hj hji=>by
    rcases Za3 j i with h2|h2
    ·exact ha j hj h2
    ·have:j=i:=by omega
     subst this;exact h
   cases h1:decide (s.tallies[i].obj=o) with
   |false=>
    simp +contextual (disch:=omega) only[go_sem,c0,e0,e1,e2,e3,e8,A3 zb,hln,C1,h1]
    refine hJ _ _ _ ⟨?_,?_,?_,?_,hno (by simp[Pu,h1]),G⟩
    all_goals simp +contextual (disch:=omega) only[go_sem,e0,e1,e2,e3]
   |true=>
    have o1:s.tallies[i].obj=o:=by simpa using h1
    cases h2:decide (s.tallies[i].rep=rep) with
    |false=>
     have b2:(s.tallies[i].rep==rep)=false:=h2
     simp +contextual (disch:=omega) only[go_sem,c0,e0,e1,e2,e3,e8,A3 zb,hln,C1,h1,b2]
     refine hJ _ _ _ ⟨?_,?_,?_,?_,hno (by simp[Pu,h2]),G⟩
     all_goals simp +contextual (disch:=omega) only[go_sem,e0,e1,e2,e3]
    |true=>
     have b2:(s.tallies[i].rep==rep)=true:=h2
     have hf:=Ai3 hi ha (by simp only[Pu,h1,h2];rfl)
     have hsb:=hs _ (Zag hi)
     have w1:IntKind.i64.wrap (s.tallies[i].sum+val)=s.tallies[i].sum+val:=Bi (by omega) (by omega)
     have C2:=Ad (G.sl 1 rfl) hi
     obtain⟨N1,s1,H1⟩:=G.ste 1 rfl hi 1 2 (gi (addM s.tallies[i].sum val)) {s.tallies[i] with sum:=addM s.tallies[i].sum val} rfl (by decide) (by decide) rfl
     have s1:stG 1 _ (fld 2 (atz 3 v1 i)) (.int .i64 ((s.tallies[i].sum+val).tmod 1000000))=some (.tup [],N1):=s1
     have zc:=G.pt 4 rfl
     simp +contextual (disch:=omega) only[go_sem,c0,e0,e1,e2,e3,e8,A3 zb,A3 zc,hln,C1,C2,h1,b2,A5,w1,s1]
     refine hW _ _ ⟨v0,v1,v2,v3,?_⟩
     have hE:Jp s.tallies o rep val=s.tallies.set i {s.tallies[i] with sum:=addM s.tallies[i].sum val}:=by
      unfold Jp
      rw[hf]
      simp only[]
      rw[Ty _ hi]
     show Hp U0 N1 (ow pI.kd v0 s.know::ow Ba.kd v1 (Jp s.tallies o rep val)::ow Bp.kd v2 s.lives::ow Ak.kd v3 s.cells::pt 1 g [v0,v1,v2,v3]::rest)
     rw[hE]
     exact H1
  ·clear H
   rintro Yq hY env N e8 c0 ⟨e0,e1,e2,e3,ha,H⟩
   have hln:=(H.sl 1 rfl).len
   have hnf:s.tallies.findIdx? (Pu o rep)=none:=by
    rw[List.findIdx?_eq_none_iff]
    intro t ht
    obtain⟨j,hj,rfl⟩:=Zas ht
    exact ha j hj hj
   simp +contextual (disch:=omega) only[go_sem,c0,e0,e1,e2,e3,e8,A3 (H.pt 4 rfl),hln]
   refine hY _ _ ⟨?_,?_,?_,?_,hnf,H⟩
   all_goals simp +contextual (disch:=omega) only[go_sem,e0,e1,e2,e3]
  ·clear H
   rintro env N ⟨e0,e1,e2,e3,hnf,H⟩
   have hE:Jp s.tallies o rep val=insB Be ⟨o,rep,val⟩ s.tallies:=by unfold Jp;rw[hnf]
   rw[hE]
   have H:=H.nil_Tally
   simp +contextual (disch:=omega) only[go_sem,e0,e1,e2,e3]
   refine F9 s.tallies.length 12 2 (fun i env N=>env 0= .ptr g 0/\env 1= .str o/\env 2=gi rep/\env 3=gi val/\∃(u:GV) (put:Bool) (nxt:List Tally),env 10=u/\env 11= .bool put/\insG Be ⟨o,rep,val⟩ s.tallies nxt i put/\Hp U0 N (ow Ba.kd u nxt::ow pI.kd v0 s.know::ow Ba.kd v1 s.tallies::ow Bp.kd v2 s.lives::ow Ak.kd v3 s.cells::pt 1 g [v0,v1,v2,v3]::rest)) (fun env N=>env 0= .ptr g 0/\env 1= .str o/\env 2=gi rep/\env 3=gi val/\∃(u:GV) (put:Bool) (nxt:List Tally),env 10=u/\env 11= .bool put/\insG Be ⟨o,rep,val⟩ s.tallies nxt s.tallies.length put/\Hp U0 N (ow Ba.kd u nxt::ow pI.kd v0 s.know::ow Ba.kd v1 s.tallies::ow Bp.kd v2 s.lives::ow Ak.kd v3 s.cells::pt 1 g [v0,v1,v2,v3]::rest)) rfl ⟨by simp +contextual (disch:=omega) only[go_sem,e0],by simp +contextual (disch:=omega) only[go_sem,e1],by simp +contextual (disch:=omega) only[go_sem,e2],by simp +contextual (disch:=omega) only[go_sem,e3],_,false,[],by simp +contextual (disch:=omega) only[go_sem],by simp +contextual (disch:=omega) only[go_sem],Om,H⟩ ?_ ?_ ?_
   ·clear H e0 e1 e2 e3
    rintro J Yq hJ hY i env N hi e12 c0 ⟨e0,e1,e2,e3,u,put,nxt,e10,e11,hok,H⟩
    have hnl:=C9 hok
    have C1:=Ad (H.sl 2 rfl) hi
    have hln:=(H.sl 2 rfl).len
    have zb:=H.pt 5 rfl
    have G:=H.grow (pre1 N (some (Blk.row 1 (Acu s.tallies[i]))))
    have hlt:Be ⟨o,rep,val⟩ s.tallies[i]=(txLt o s.tallies[i].obj||(decide (s.tallies[i].obj=o)&&decide (rep<s.tallies[i].rep))):=by
     unfold Be
     have:decide (o=s.tallies[i].obj)=decide (s.tallies[i].obj=o):=by rw[decide_eq_decide];exact eq_comm
     rw[this]
    have HN:=H.new 1 (Acu s.tallies[i])
    cases put with
    |true=>
     obtain⟨w',N3,e8,H3⟩:=G.app_Tally 0 rfl s.tallies[i] (by omega)
     simp +contextual (disch:=omega) only[go_sem,c0,e0,e1,e2,e3,e10,e11,e12,A3 zb,hln,C1,Za0,e8]
     refine hJ _ _ _ ⟨?_,?_,?_,?_,w',true,_,?_,?_,Cv hok hi (.inl rfl),H3⟩
     all_goals simp +contextual (disch:=omega) only[go_sem,e0,e1,e2,e3,e11]
    |false=>
     cases h1:txLt o s.tallies[i].obj with
     |true=>
      have hq:Be ⟨o,rep,val⟩ s.tallies[i]=true:=by rw[hlt,h1];rfl
      have hp:=Ky hok hi hq
      have hnl2:=C9 hp
      simp only[Zah,Zak,Zao] at hnl2
      obtain⟨w4,N4,e9,H4⟩:=HN.app_Tally 1 rfl ⟨o,rep,val⟩ (by omega)
      have H4:Hp U0 N4 (pt 1 N.length (Acu s.tallies[i])::ow Ba.kd w4 (nxt++[⟨o,rep,val⟩])::ow pI.kd v0 s.know::ow Ba.kd v1 s.tallies::ow Bp.kd v2 s.lives::ow Ak.kd v3 s.cells::pt 1 g [v0,v1,v2,v3]::rest):=H4
      have zx:=A3 (a:=true) (n:=3) (off:=0) (H4.pt 0 rfl)
      obtain⟨w5,N5,e13,H5⟩:=H4.app_Tally 1 rfl s.tallies[i] (by simp;omega)
      simp +contextual (disch:=omega) only[go_sem,c0,e0,e1,e2,e3,e10,e11,e12,A3 zb,hln,C1,Zan,h1,e9,zx,e13]
      refine hJ _ _ _ ⟨?_,?_,?_,?_,w5,true,_,?_,?_,hp,H5.drop1⟩
      all_goals simp +contextual (disch:=omega) only[go_sem,e0,e1,e2,e3,e11]
     |false=>
      cases h2:decide (s.tallies[i].obj=o) with
      |false=>
       obtain⟨w',N3,e8,H3⟩:=G.app_Tally 0 rfl s.tallies[i] (by omega)
       simp +contextual (disch:=omega) only[go_sem,c0,e0,e1,e2,e3,e10,e11,e12,A3 zb,hln,C1,Zan,h1,h2,e8]
       refine hJ _ _ _ ⟨?_,?_,?_,?_,w',false,_,?_,?_,Cv hok hi (.inr (by rw[hlt,h1,h2];rfl)),H3⟩
       all_goals simp +contextual (disch:=omega) only[go_sem,e0,e1,e2,e3,e11]
      |true=>
       cases h3:decide (rep<s.tallies[i].rep) with
       |true=>
        have hq:Be ⟨o,rep,val⟩ s.tallies[i]=true:=by rw[hlt,h1,h2,h3];rfl
        have hp:=Ky hok hi hq
        have hnl2:=C9 hp
        simp only[Zah,Zak,Zao] at hnl2
        obtain⟨w4,N4,e9,H4⟩:=HN.app_Tally 1 rfl ⟨o,rep,val⟩ (by omega)
        have H4:Hp U0 N4 (pt 1 N.length (Acu s.tallies[i])::ow Ba.kd w4 (nxt++[⟨o,rep,val⟩])::ow pI.kd v0 s.know::ow Ba.kd v1 s.tallies::ow Bp.kd v2 s.lives::ow Ak.kd v3 s.cells::pt 1 g [v0,v1,v2,v3]::rest):=H4
        have zx:=A3 (a:=true) (n:=3) (off:=0) (H4.pt 0 rfl)
        obtain⟨w5,N5,e13,H5⟩:=H4.app_Tally 1 rfl s.tallies[i] (by simp;omega)
        simp +contextual (disch:=omega) only[go_sem,c0,e0,e1,e2,e3,e10,e11,e12,A3 zb,hln,C1,Zan,h1,h2,h3,e9,zx,e13]
        refine hJ _ _ _ ⟨?_,?_,?_,?_,w5,true,_,?_,?_,hp,H5.drop1⟩
        all_goals simp +contextual (disch:=omega) only[go_sem,e0,e1,e2,e3,e11]
       |false=>
        obtain⟨w',N3,e8,H3⟩:=G.app_Tally 0 rfl s.tallies[i] (by omega)
        simp +contextual (disch:=omega) only[go_sem,c0,e0,e1,e2,e3,e10,e11,e12,A3 zb,hln,C1,Zan,h1,h2,h3,e8]
        refine hJ _ _ _ ⟨?_,?_,?_,?_,w',false,_,?_,?_,Cv hok hi (.inr (by rw[hlt,h1,h2,h3];rfl)),H3⟩
        all_goals simp +contextual (disch:=omega) only[go_sem,e0,e1,e2,e3,e11]
   ·clear H e0 e1 e2 e3
    rintro Yq hY env N e12 c0 ⟨e0,e1,e2,e3,u,put,nxt,e10,e11,hok,H⟩
    have hln:=(H.sl 2 rfl).len
    simp +contextual (disch:=omega) only[go_sem,c0,e0,e1,e2,e3,e10,e11,e12,A3 (H.pt 5 rfl),hln]
    refine hY _ _ ⟨?_,?_,?_,?_,u,put,nxt,?_,?_,hok,H⟩
    all_goals simp +contextual (disch:=omega) only[go_sem,e0,e1,e2,e3,e10,e11]
   ·clear H e0 e1 e2 e3
    rintro env N ⟨e0,e1,e2,e3,u,put,nxt,e10,e11,hok,H⟩
    have hnl:=C9 hok
    have hend:=On hok
    cases put with
    |true=>
     have c1:=(H.sl 0 rfl).cell
     obtain⟨N1,s1,H1,_⟩:=H.st 5 rfl 1 1 u (by rw[c1];rfl) (by decide) (by simp)
     simp +contextual (disch:=omega) only[go_sem,e0,e1,e2,e3,e10,e11,Za0,s1]
     refine⟨_,rfl,rfl,v0,u,v2,v3,?_⟩
     simp only[c1,Zaq,Zar,Av,Au,B4] at H1
     rw[<- hend]
     exact Hp.moveTo H1 1 rfl
    |false=>
     obtain⟨w',N3,e8,H3⟩:=H.app_Tally 0 rfl ⟨o,rep,val⟩ (by omega)
     have H3:Hp U0 N3 (ow Ba.kd w' (nxt++[⟨o,rep,val⟩])::ow pI.kd v0 s.know::ow Ba.kd v1 s.tallies::ow Bp.kd v2 s.lives::ow Ak.kd v3 s.cells::pt 1 g [v0,v1,v2,v3]::rest):=H3
     have c1:=(H3.sl 0 rfl).cell
     obtain⟨N1,s1,H1,_⟩:=H3.st 5 rfl 1 1 w' (by rw[c1];rfl) (by decide) (by simp)
     simp +contextual (disch:=omega) only[go_sem,e0,e1,e2,e3,e10,e11,Zan,e8,s1]
     refine⟨_,rfl,rfl,v0,w',v2,v3,?_⟩
     simp only[c1,Zaq,Zar,Av,Au,B4] at H1
     rw[<- hend]
     exact Hp.moveTo H1 1 rfl
  ·clear H
   rintro env N h
   simp +contextual (disch:=omega) only[go_sem]
   exact⟨_,rfl,rfl,h⟩
 obtain⟨r,N,R,rfl,h⟩:=key
 exact⟨N,R,h⟩
def Acy:Fn1:=⟨127,[],(rg [oX 3 1] (dw [oM 4 0,oK 5 4,oF 6 0 5,oL 7 6,oF 8 0 3,oF 9 0 8,oL 10 9,oF 11 0 3,oF 12 1 11,oL 13 12] [oI 14 1 7 10,oS 1 14 13] (rg [oF 15 4 3,oL 16 15] (.blk 0 (rg [oE 18 .eql 16 1,oM 17 18] (cn 17 (.reg [oM 19 0,oF 20 5 3,oL 21 20,oF 22 0 3,oF 23 0 22,oL 24 23,oF 25 7 3,oL 26 25,o 27 (.call 198 (oT [19,21,24,26]))]) (rg [oE 29 .eql 16 2,oM 28 29] (cn 28 (.drw [oM 30 0,oM 31 0,oK 32 31,oF 33 2 32,oL 34 33,oF 35 5 3,oL 36 35,oF 37 6 3,oL 38 37,oF 39 0 3,oW 40 2 39] [o 41 (.build [(.bool false),s0,s0,z0,z0,z0] [(1,1,(.t 36)),(2,1,(.t 38)),(4,2,(.t 40))]),oD 42 199 34 41,oK 43 30,oF 44 2 43,oS 1 44 42]) (rg [oE 46 .eql 16 3,oM 45 46] (cn 45 (.reg [oM 47 0,oF 48 5 3,oL 49 48,oF 50 6 3,oL 51 50,oF 52 3 3,oL 53 52,o 54 (.call 200 [(.t 47),kf,(.t 49),(.t 51),(.t 53)])]) (rg [oE 56 .eql 16 4,oM 55 56] (cn 55 (rg [oM 57 0,oF 58 5 3,oL 59 58,oF 60 6 3,oL 61 60,oF 62 3 3,oL 63 62,o 64 (.call 200 [(.t 57),kt,(.t 59),(.t 61),(.t 63)])] (.drw [oM 65 0,oM 66 0,oK 67 66,oF 68 2 67,oL 69 68,oF 70 5 3,oL 71 70,oF 72 6 3,oL 73 72,oF 74 7 3,oL 75 74,oF 76 0 3,oW 77 2 76] [o 78 (.build [(.bool false),s0,s0,z0,z0,z0] [(0,1,kt),(1,1,(.t 71)),(2,1,(.t 73)),(3,1,(.t 75)),(4,2,(.t 77))]),oD 79 199 69 78,oK 80 65,oF 81 2 80,oS 1 81 79])) (rg [oE 83 .eql 16 5,oM 82 83] (cn 82 (.reg [oM 84 0,oF 85 5 3,oL 86 85,oF 87 6 3,oL 88 87,oF 89 3 3,oL 90 89,o 91 (.call 200 [(.t 84),kt,(.t 86),(.t 88),(.t 90)])]) (rg [oE 93 .eql 16 6,oM 92 93] (cn 92 (.drw [oM 94 0,oM 95 0,oK 96 95,oF 97 3 96,oL 98 97,oF 99 5 3,oL 100 99,oF 101 0 3,oW 102 2 101,oF 103 2 3,oL 104 103,oF 105 8 3,oW 106 2 105,oF 107 7 3,oL 108 107] [o 109 (.build [s0,z0,z0,z0,z0,z0,z0,(.bool false)] [(0,1,(.t 100)),(1,2,(.t 102)),(3,1,(.t 104)),(4,2,(.t 106)),(6,1,(.t 108))]),oD 110 201 98 109,oK 111 94,oF 112 3 111,oS 1 112 110]) (rg [oE 114 .eql 16 7,oM 113 114] (oG 113 (.drw [oM 115 0,oK 116 115,oF 117 3 116,oL 118 117,oM 119 0,oK 120 119,oW 121 4 120,oF 122 8 3,oW 123 2 122,oD 124 120 121 123] [oI 125 8 118 124,oF 126 7 125,on (.st 1 (.t 126) kt)])))))))))))))))))))⟩
theorem Ai4:A6 Tryz.prog 100=some Acy:=by kernel_rfl
def Acz:Fn1:=⟨57,[.c 4 true 4,.t 5],(rg [oX 2 0,oX 3 1,o 4 (.new [.nilS,.nilS,.nilS,.nilS]),oV 5 (ki 0)] (rg [oW 7 4 2,oC 8 95 7,o 6 (.new [.nilS,.nilS,.nilS,.nilS]),oS 4 6 8] (.seq (rg [oW 9 4 2,oC 10 54 9,oU 11 10,oM 12 11,vW 13 12 10 3,vC 14 12 96 13,vU 15 12 14,oP 16 12 15] (oG 16 (rg [oW 17 4 6,oS 4 4 17,oV 5 (ki 3)] .ret))) (.seq (rg [oF 18 0 2,oL 19 18,oF 20 0 3,oW 21 2 20,oD 22 97 19 21] (oG 22 (rg [oW 23 4 6,oS 4 4 23,oV 5 (ki 1)] .ret))) (.seq (rg [oF 24 3 3,oL 25 24,oF 26 0 2,oL 27 26,oD 28 98 25 27,oU 29 28] (oG 29 (rg [oW 30 4 6,oS 4 4 30,oV 5 (ki 2)] .ret))) (.seq (rg [oW 31 4 2,oW 32 10 3,oD 33 99 31 32,oU 34 33] (oG 34 (rg [oW 35 4 6,oS 4 4 35,oV 5 (ki 3)] .ret))) (rg [oW 36 10 3,oD 37 100 6 36] (.seq (rg [oF 38 1 6,oL 39 38,oN 40 39,oE 41 .gtr 40 120,oM 42 41,vF 43 42 2 6,vL 44 42 43,og 45 42 false (.len false (.t 44)),vE 46 42 .gtr 45 120,oP 47 42 46,oM 48 47,vF 49 48 3 6,vL 50 48 49,og 51 48 false (.len false (.t 50)),vE 52 48 .gtr 51 120,oP 53 48 52] (oG 53 (rg [oW 54 4 2,oC 55 95 54,oS 4 4 55,oV 5 (ki 4)] .ret))) (rg [oW 56 4 6,oS 4 4 56,oV 5 (ki 0)] .ret)))))))))⟩
theorem Ai5:A6 Tryz.prog 29=some Acz:=by kernel_rfl
theorem Akc {a:Act} (h:Ku a=true):(0<=a.dot.rep/\a.dot.rep<=2)/\(1<=a.kind/\a.kind<=7)/\(0<=a.val/\a.val<=999999)/\a.knew.length=3:=by
 simp only[Ku,I7,Em,Zap] at h
 obtain⟨⟨h1,h2,_⟩,⟨h3,_,_,h4⟩,_⟩:=h
 refine⟨(Qu.1 h1).1,Bn.1 h3,?_,I6 h2⟩
 simp only[A8p,Bool.or_eq_true,beq_iff_eq,Zap,Bn] at h4
 rcases h4 with h4|⟨_,h4⟩
 ·omega
 ·exact h4
theorem Akd {s:State} (h:Bf s=true):s.know.length=3/\∀ t∈s.tallies,-1000000<=t.sum/\t.sum<=1000000:=by
 simp only[Bf,Zap] at h
 obtain⟨h1,h2,_⟩:=h
 refine⟨I6 h1,fun t ht=> ?_⟩
 simp only[Jl,Zap,Ko,talP] at h2
 obtain⟨i,hi,rfl⟩:=Zas ht
 have:=(h2.1 i hi).1
 rw[Cp hi] at this
 simp only[tal1,Zap,Bn] at this
 omega
theorem SPtr.drop {U0 N:St} {g:Nat} {s:State} {x:Thg} {rest:List Thg} (H:SPtr U0 N g s (x::rest)):SPtr U0 N g s rest:=by
 obtain⟨v0,v1,v2,v3,H⟩:=H
 exact⟨v0,v1,v2,v3,(H.pick 5 rfl).drop1⟩
theorem SPtr.push {U0 N:St} {g:Nat} {s:State} {rest:List Thg} (H:SPtr U0 N g s rest) (z:Nat) (cs:List GV):SPtr U0 (N++[some (.row z cs)]) g s (pt z N.length cs::rest):=by
 obtain⟨v0,v1,v2,v3,H⟩:=H
 refine⟨v0,v1,v2,v3,?_⟩
 exact(H.new z cs).perm (List.perm_middle (l₁:=[_,_,_,_,_])).symm
abbrev actV (a:Act) (kv:GV):List GV:=[.int .i64 a.dot.rep,.int .i64 a.dot.seq,.int .i64 a.time,kv,.int .i64 a.kind,.str a.obj,.str a.key,.int .i64 a.val,.int .i64 a.ref.rep,.int .i64 a.ref.seq]
theorem Afe {s:State} {i:Nat} {x:Int}:Aa {s with know:=s.know.set i x}=Aa s:=by simp[Aa]
theorem Aff {U0 U:St} {g:Nat} {s:State} {rest:List Thg} (H:SPtr U0 U g s rest) (a:Act) (kv:GV) (hk:RS pI.kd U0 kv a.knew) (hok:Bf s=true) (hao:Ku a=true) (hri:Z3 s a=true) (hl:Aa s<=1099511627776):∃ N,Ret Tryz.prog 100 [.ptr g 0,.agg (actV a kv)] U (.tup []) N/\SPtr U0 N g (Mh s a) rest:=by
 obtain⟨⟨f1,f2⟩,⟨f3,f4⟩,⟨f5,f6⟩,f7⟩:=Akc hao
 obtain⟨t1,t2⟩:=Akd hok
 obtain⟨r,hr⟩:∃ r:Nat,a.dot.rep=(r:Int):=⟨a.dot.rep.toNat,by omega⟩
 have hrl:r<s.know.length:=by omega
 have key:∃ q N,Ret Tryz.prog 100 [.ptr g 0,.agg (actV a kv)] U q N/\q= .tup []/\SPtr U0 N g (Mh s a) rest:=by
  refine Ch Ai4 (Z0z rfl) ?_
  have H:=H.push 1 (actV a kv)
  obtain⟨v0,v1,v2,v3,H⟩:=H
  have i0:=RdN.iad (H.sl 0 rfl) hrl
  have i0:iadG 1 v0 (some r)=some (atz 1 v0 r):=i0
  have n0:B5 (some (.int .i64 a.dot.rep))=some r:=by rw[hr];exact A5
  obtain⟨N1,st0,H1⟩:=H.stw 0 rfl (j:=r) hrl 1 (gi a.dot.seq) a.dot.seq rfl rfl (by decide)
  have st0:stG 1 _ (atz 1 v0 r) (.int .i64 a.dot.seq)=some (.tup [],N1):=st0
  have H1:Hp U0 N1 (ow pI.kd v0 (s.know.set r a.dot.seq)::ow Ba.kd v1 s.tallies::ow Bp.kd v2 s.lives::ow Ak.kd v3 s.cells::pt 1 g [v0,v1,v2,v3]::pt 1 U.length (actV a kv)::rest):=H1
  obtain⟨s1,hs1⟩:∃ s1:State,s1={s with know:=s.know.set r a.dot.seq}:=⟨_,rfl⟩
  have hm1:Aa s1<=1099511627776:=by rw[hs1,Afe];exact hl
  have hdo:Mh s a=Gk s1 a:=by
   unfold Mh
   rw[hs1,hr];simp
  have S1:SPtr U0 N1 g s1 (pt 1 U.length (actV a kv)::rest):=by rw[hs1];exact⟨v0,v1,v2,v3,H1⟩
  obtain⟨l1,l2,l3,l4,_⟩:=Aq hl
  rw[hdo]
  have e1:s1.tallies=s.tallies:=by rw[hs1]
  have e2:s1.lives=s.lives:=by rw[hs1]
  have e3:s1.cells=s.cells:=by rw[hs1]
  simp +contextual (disch:=omega) only[go_sem,Acy,A3 (H.pt 4 rfl),n0,i0,st0,A3 (H1.pt 5 rfl)]
  by_cases k1:a.kind=1
  ·have b1:(a.kind==1)=true:=by simp[k1]
   have hd:Gk s1 a={s1 with tallies:=Jp s1.tallies a.obj a.dot.rep a.val}:=by unfold Gk;rw[if_pos k1]
   rw[hd]
   obtain⟨N2,R2,S2⟩:=A4s S1 a.obj a.dot.rep a.val hm1 (by omega) (by rw[e1];exact t2)
   simp +contextual (disch:=omega) only[go_sem,b1,A3 (H1.pt 5 rfl)]
   refine Am R2 ?_
   simp +contextual (disch:=omega) only[go_sem]
   exact⟨_,rfl,rfl,S2.drop⟩
  have b1:(a.kind==1)=false:=by simp[k1]
  by_cases k2:a.kind=2
  ·have b2:(a.kind==2)=true:=by simp[k2]
   have hd:Gk s1 a={s1 with lives:=Kw ⟨false,a.obj,a.key,0,a.dot⟩ s1.lives}:=by unfold Gk;rw[if_neg k1,if_pos k2]
   rw[hd,e2]
   obtain⟨w,N2,R2,K2⟩:=Sb N1 v2 s.lives (H1.sl 2 rfl) ⟨false,a.obj,a.key,0,a.dot⟩ l3
   have H2:=H1.add K2
   simp only[Zaa,Zab] at H2
   have c1:=(H2.sl 0 rfl).cell
   obtain⟨N3,st3,H3,_⟩:=H2.st 5 rfl 1 2 w (by rw[c1];rfl) (by decide) (by simp)
   simp +contextual (disch:=omega) only[go_sem,b1,b2,A3 (H1.pt 4 rfl),A3 (H1.pt 5 rfl)]
   refine Ck R2 K2 ?_
   simp +contextual (disch:=omega) only[go_sem,st3]
   refine⟨_,rfl,rfl,v0,v1,w,v3,?_⟩
   simp only[c1,Zaq,Zar,Av,Au,B4] at H3
   rw[hs1]
   exact((Hp.moveTo H3 2 rfl).pick 5 rfl).drop1
  have b2:(a.kind==2)=false:=by simp[k2]
  by_cases k3:a.kind=3
  ·have b3:(a.kind==3)=true:=by simp[k3]
   have hd:Gk s1 a={s1 with lives:=s1.lives.filter (Z2 false a.obj a.key a.knew)}:=by unfold Gk;rw[if_neg k1,if_neg k2,if_pos k3]
   rw[hd]
   obtain⟨N2,R2,S2⟩:=Jf S1 false a.obj a.key kv a.knew hk hm1 (by omega)
   simp +contextual (disch:=omega) only[go_sem,b1,b2,b3,A3 (H1.pt 5 rfl)]
   refine Am R2 ?_
   simp +contextual (disch:=omega) only[go_sem]
   exact⟨_,rfl,rfl,S2.drop⟩
  have b3:(a.kind==3)=false:=by simp[k3]
  by_cases k4:a.kind=4
  ·have b4:(a.kind==4)=true:=by simp[k4]
   have hd:Gk s1 a={s1 with lives:=Kw ⟨true,a.obj,a.key,a.val,a.dot⟩ (s1.lives.filter (Z2 true a.obj a.key a.knew))}:=by unfold Gk;rw[if_neg k1,if_neg k2,if_neg k3,if_pos k4]
   rw[hd,e2]
   obtain⟨N2,R2,u0,u1,u2,u3,H2⟩:=Jf S1 true a.obj a.key kv a.knew hk hm1 (by omega)
   have hfl:=Zaj (Z2 true a.obj a.key a.knew) s.lives
   have H2l:=H2.sl 2 rfl
   have H2l:RS Bp.kd N2 u2 (s.lives.filter (Z2 true a.obj a.key a.knew)):=by rw[<- e2];exact H2l
   obtain⟨w,N3,R3,K3⟩:=Sb N2 u2 _ H2l ⟨true,a.obj,a.key,a.val,a.dot⟩ (by omega)
   have H3:=H2.add K3
   simp only[Zaa,Zab] at H3
   have c1:=(H3.sl 0 rfl).cell
   obtain⟨N4,st4,H4,_⟩:=H3.st 5 rfl 1 2 w (by rw[c1];rfl) (by decide) (by simp)
   simp +contextual (disch:=omega) only[go_sem,b1,b2,b3,b4,A3 (H1.pt 5 rfl)]
   refine Am R2 ?_
   simp +contextual (disch:=omega) only[go_sem,A3 (H2.pt 4 rfl),A3 (H2.pt 5 rfl)]
   refine Ck R3 K3 ?_
   simp +contextual (disch:=omega) only[go_sem,st4]
   refine⟨_,rfl,rfl,u0,u1,w,u3,?_⟩
   simp only[c1,Zaq,Zar,Av,Au,B4] at H4
   exact((Hp.moveTo H4 2 rfl).pick 5 rfl).drop1
  have b4:(a.kind==4)=false:=by simp[k4]
  by_cases k5:a.kind=5
  ·have b5:(a.kind==5)=true:=by simp[k5]
   have hd:Gk s1 a={s1 with lives:=s1.lives.filter (Z2 true a.obj a.key a.knew)}:=by unfold Gk;rw[if_neg k1,if_neg k2,if_neg k3,if_neg k4,if_pos k5]
   rw[hd]
   obtain⟨N2,R2,S2⟩:=Jf S1 true a.obj a.key kv a.knew hk hm1 (by omega)
   simp +contextual (disch:=omega) only[go_sem,b1,b2,b3,b4,b5,A3 (H1.pt 5 rfl)]
   refine Am R2 ?_
   simp +contextual (disch:=omega) only[go_sem]
   exact⟨_,rfl,rfl,S2.drop⟩
  have b5:(a.kind==5)=false:=by simp[k5]
  by_cases k6:a.kind=6
  ·have b6:(a.kind==6)=true:=by simp[k6]
   have hd:Gk s1 a={s1 with cells:=Pv ⟨a.obj,a.dot,a.time,a.ref,a.val,false⟩ s1.cells}:=by unfold Gk;rw[if_neg k1,if_neg k2,if_neg k3,if_neg k4,if_neg k5,if_pos k6]
   rw[hd,e3]
   obtain⟨w,N2,R2,K2⟩:=A9a N1 v3 s.cells (H1.sl 3 rfl) ⟨a.obj,a.dot,a.time,a.ref,a.val,false⟩ l4
   have H2:=H1.add K2
   simp only[Zaa,Zab] at H2
   have c1:=(H2.sl 0 rfl).cell
   obtain⟨N3,st3,H3,_⟩:=H2.st 5 rfl 1 3 w (by rw[c1];rfl) (by decide) (by simp)
   simp +contextual (disch:=omega) only[go_sem,b1,b2,b3,b4,b5,b6,A3 (H1.pt 4 rfl),A3 (H1.pt 5 rfl)]
   refine Ck R2 K2 ?_
   simp +contextual (disch:=omega) only[go_sem,st3]
   refine⟨_,rfl,rfl,v0,v1,v2,w,?_⟩
   simp only[c1,Zaq,Zar,Av,Au,B4] at H3
   rw[hs1]
   exact((Hp.moveTo H3 3 rfl).pick 5 rfl).drop1
  have b6:(a.kind==6)=false:=by simp[k6]
  have k7:a.kind=7:=by omega
  have b7:(a.kind==7)=true:=by simp[k7]
  have hd:Gk s1 a={s1 with cells:=Jq s1.cells a.ref}:=by unfold Gk;rw[if_neg k1,if_neg k2,if_neg k3,if_neg k4,if_neg k5,if_neg k6]
  rw[hd,e3]
  cases hx:Eu s.cells a.ref with
  |none=>simp[Z3,k7,hx] at hri
  |some k=>
   obtain⟨hkl,hke⟩:=Do hx
   have hno:Ev s1.cells a.ref=k:=by simp[Ev,e3,hx]
   have CA:=X2 N1 [v0,v1,v2,v3] s1 ⟨v0,v1,v2,v3,rfl,by rw[hs1];exact H1.sl 0 rfl,by rw[e1];exact H1.sl 1 rfl,by rw[e2];exact H1.sl 2 rfl,by rw[e3];exact H1.sl 3 rfl⟩ a.ref hm1
   rw[hno] at CA
   have C2:=A8 (H1.sl 3 rfl) hkl
   obtain⟨N2,st2,H2⟩:=H1.ste 3 rfl hkl 1 7 (.bool true) {s.cells[k] with gone:=true} rfl (by decide) (by decide) rfl
   have st2:stG 1 N1 (fld 7 (atz 8 v3 k)) (.bool true)=some (.tup [],N2):=st2
   simp +contextual (disch:=omega) only[go_sem,b1,b2,b3,b4,b5,b6,b7,A3 (H1.pt 4 rfl),A3 (H1.pt 5 rfl),A2 (cs:=[v0,v1,v2,v3]) rfl]
   refine A9 CA ?_
   simp +contextual (disch:=omega) only[go_sem,A5,C2,st2]
   refine⟨_,rfl,rfl,v0,v1,v2,v3,?_⟩
   have hE:Jq s.cells a.ref=s.cells.set k {s.cells[k] with gone:=true}:=by
    unfold Jq
    rw[hx]
    exact Ty _ hkl
   rw[hE,hs1]
   exact(H2.pick 5 rfl).drop1
 obtain⟨q,N,R,rfl,h⟩:=key
 exact⟨N,R,h⟩
theorem Alt {U N:St} {rs:List Thg} {x:State} {cs:List GV} {g:Nat} (H:Hp U N (pt 1 g cs::own A4 cs x::rs)):SPtr U N g x rs:=by
 obtain⟨v0,v1,v2,v3,rfl,H⟩:=(H.pick 1 rfl).splitState
 exact⟨v0,v1,v2,v3,H⟩
theorem SPtr.own {U N:St} {rs:List Thg} {x:State} {g:Nat} (H:SPtr U N g x rs):∃ v0 v1 v2 v3,rdB N g=some [v0,v1,v2,v3]/\lenG false v1=some (x.tallies.length:Int)/\lenG false v2=some (x.lives.length:Int)/\lenG false v3=some (x.cells.length:Int)/\Hp U N (own A4 [v0,v1,v2,v3] x::rs):=by
 obtain⟨v0,v1,v2,v3,H⟩:=H
 refine⟨v0,v1,v2,v3,H.pt 4 rfl,(H.sl 1 rfl).len,(H.sl 2 rfl).len,(H.sl 3 rfl).len,?_⟩
 exact Hp.ownState ((H.pick 4 rfl).drop1)
theorem A3c (U:St) (cs:List GV) (s:State) (hR:A4.R U s cs) (as':List GV) (a:Act) (hS:kAct.R U a as') (hl:Aa s<=1099511627776) (hm:Adz a<=1099511627776):∃ ds N,Ret Tryz.prog 29 [.agg cs,.agg as'] U (.tup [.agg ds,gi (F1 s a).2]) N/\Hp U N [own A4 ds (F1 s a).1]:=by
 have hR0:=hR
 have hS0:=hS
 have hS1:∀ {N:St},U <+: N->kAct.R N a as':=fun h=>kAct.pre hS0 h
 obtain⟨a1,b1,c1,v1,rfl,hkn,_,_,_⟩:=hR
 obtain⟨kv,rfl,hkv⟩:=hS
 obtain⟨l1,l2,l3,l4,_⟩:=Aq hl
 have hkl:a.knew.length<=1099511627776:=by unfold Adz at hm;omega
 have key:∃ q N,Ret Tryz.prog 29 [.agg [a1,b1,c1,v1],.agg (actV a kv)] U q N/\∃ ds,q= .tup [.agg ds,gi (F1 s a).2]/\Hp U N [own A4 ds (F1 s a).1]:=by
  refine Ch Ai5 (Z0z rfl) ?_
  have H:=(((Hp.refl U).new 1 [a1,b1,c1,v1]).new 1 (actV a kv)).new 1 [GV.nilS,GV.nilS,GV.nilS,GV.nilS]
  have z0:=H.pt 2 rfl
  simp +contextual (disch:=omega) only[go_sem,Acz,A3 z0,A2 (cs:=[a1,b1,c1,v1]) rfl]
  obtain⟨es,N1,R1,K1⟩:=Fk _ _ s (A4.pre hR0 H.sub) hl
  refine Ck R1 K1 ?_
  have H:=H.add K1
  simp only[Zaa,Zab] at H
  have gl:es.length=4:=A4.len (K1.rd 0 rfl)
  have H:=H.new 1 es
  generalize hn6:N1.length=n6 at*
  generalize hn4:(U++[some (Blk.row 1 [a1,b1,c1,v1])]++[some (Blk.row 1 (actV a kv))]).length=n4 at*
  generalize hn2:(U++[some (Blk.row 1 [a1,b1,c1,v1])]).length=n2 at*
  generalize hn1:U.length=n1 at*
  simp +contextual (disch:=omega) only[go_sem,Ab (cs:=[GV.nilS,GV.nilS,GV.nilS,GV.nilS]) gl rfl,gl,A3 (H.pt 4 rfl),A2 (cs:=[a1,b1,c1,v1]) rfl]
  obtain⟨Nr,sr,Hr,_⟩:=H.st 2 rfl 4 0 (.agg es) gl (by decide) (by simp)
  have zr:rdB Nr n4=some (Ar [GV.nilS,GV.nilS,GV.nilS,GV.nilS] 0 es):=Hr.pt 2 rfl
  rw[Ab gl rfl] at zr
  refine Ac (Hg _ _ s (A4.pre hR0 H.sub) hl) (fun hok=> ?_) (fun hok=> ?_)
  rotate_left
  ·have hd:F1 s a=(s,3):=by simp[F1,hok]
   simp +contextual (disch:=omega) only[go_sem,A3 (H.pt 0 rfl),A2 gl,sr,A3 zr]
   exact⟨_,rfl,es,by rw[hd],by rw[hd];exact(Hr.pick 1 rfl).one⟩
  simp +contextual (disch:=omega) only[go_sem,A3 (H.pt 3 rfl),A2 (cs:=actV a kv) rfl]
  refine Ac (A1u _ _ a (hS1 H.sub) hm) (fun hao=> ?_) (fun hao=> ?_)
  rotate_left
  ·have hd:F1 s a=(s,3):=by simp[F1,hok,hao]
   simp +contextual (disch:=omega) only[go_sem,A3 (H.pt 0 rfl),A2 gl,sr,A3 zr]
   exact⟨_,rfl,es,by rw[hd],by rw[hd];exact(Hr.pick 1 rfl).one⟩
  simp +contextual (disch:=omega) only[go_sem,A3 (H.pt 3 rfl),A3 (H.pt 4 rfl)]
  refine Ac (G0 _ a1 s.know a.dot (hkn.pre H.sub) l1) (fun hkn1=> ?_) (fun hkn1=> ?_)
  ·have hd:F1 s a=(s,1):=by simp[F1,hok,hao,hkn1]
   simp +contextual (disch:=omega) only[go_sem,A3 (H.pt 0 rfl),A2 gl,sr,A3 zr]
   exact⟨_,rfl,es,by rw[hd],by rw[hd];exact(Hr.pick 1 rfl).one⟩
  simp +contextual (disch:=omega) only[go_sem,A3 (H.pt 3 rfl),A3 (H.pt 4 rfl)]
  refine Ac (Abm _ kv a1 a.knew s.know (hkv.pre H.sub) (hkn.pre H.sub) hkl l1) (fun hkn2=> ?_) (fun hkn2=> ?_)
  rotate_left
  ·have hd:F1 s a=(s,2):=by simp[F1,hok,hao,hkn1,hkn2]
   simp +contextual (disch:=omega) only[go_sem,A3 (H.pt 0 rfl),A2 gl,sr,A3 zr]
   exact⟨_,rfl,es,by rw[hd],by rw[hd];exact(Hr.pick 1 rfl).one⟩
  simp +contextual (disch:=omega) only[go_sem,A3 (H.pt 3 rfl),A3 (H.pt 4 rfl),A2 (cs:=actV a kv) rfl,A2 (cs:=[a1,b1,c1,v1]) rfl]
  refine Ac (Acx _ _ s (A4.pre hR0 H.sub) _ a (hS1 H.sub) hl) (fun hri=> ?_) (fun hri=> ?_)
  rotate_left
  ·have hd:F1 s a=(s,3):=by simp[F1,hok,hao,hkn1,hkn2,hri]
   simp +contextual (disch:=omega) only[go_sem,A3 (H.pt 0 rfl),A2 gl,sr,A3 zr]
   exact⟨_,rfl,es,by rw[hd],by rw[hd];exact(Hr.pick 1 rfl).one⟩
  obtain⟨N2,R2,S2⟩:=Aff (Alt H) a kv hkv hok hao hri hl
  simp +contextual (disch:=omega) only[go_sem,A3 (H.pt 3 rfl),A2 (cs:=actV a kv) rfl]
  rw[hn6]
  refine Am R2 ?_
  obtain⟨w0,w1,w2,w3,z6,q1,q2,q3,H3⟩:=S2.own
  cases h1:decide (120<(Mh s a).tallies.length) with
  |true=>
   have ht:Gq (Mh s a)=true:=by simp[Gq,h1]
   have hd:F1 s a=(s,4):=by simp[F1,hok,hao,hkn1,hkn2,hri,ht]
   simp +contextual (disch:=omega) only[go_sem,A3 z6,q1,q2,q3,A99,h1,A3 (H3.pt 3 rfl),A2 (cs:=[a1,b1,c1,v1]) rfl]
   obtain⟨fs,N4,R4,K4⟩:=Fk _ _ s (A4.pre hR0 H3.sub) hl
   refine Ck R4 K4 ?_
   have H4:=H3.add K4
   simp only[Zaa,Zab] at H4
   have gl4:fs.length=4:=A4.len (K4.rd 0 rfl)
   obtain⟨N5,s5,H5,_⟩:=H4.st 2 rfl 4 0 (.agg fs) gl4 (by decide) (by simp)
   have z5:rdB N5 n4=some (Ar [GV.nilS,GV.nilS,GV.nilS,GV.nilS] 0 fs):=H5.pt 2 rfl
   rw[Ab gl4 rfl] at z5
   simp +contextual (disch:=omega) only[go_sem,s5,A3 z5,A2 gl4]
   exact⟨_,rfl,fs,by rw[hd],by rw[hd];exact H5.one⟩
  |false=>
   cases h2:decide (120<(Mh s a).lives.length) with
   |true=>
    have ht:Gq (Mh s a)=true:=by simp[Gq,h1,h2]
    have hd:F1 s a=(s,4):=by simp[F1,hok,hao,hkn1,hkn2,hri,ht]
    simp +contextual (disch:=omega) only[go_sem,A3 z6,q1,q2,q3,A99,h1,h2,A3 (H3.pt 3 rfl),A2 (cs:=[a1,b1,c1,v1]) rfl]
    obtain⟨fs,N4,R4,K4⟩:=Fk _ _ s (A4.pre hR0 H3.sub) hl
    refine Ck R4 K4 ?_
    have H4:=H3.add K4
    simp only[Zaa,Zab] at H4
    have gl4:fs.length=4:=A4.len (K4.rd 0 rfl)
    obtain⟨N5,s5,H5,_⟩:=H4.st 2 rfl 4 0 (.agg fs) gl4 (by decide) (by simp)
    have z5:rdB N5 n4=some (Ar [GV.nilS,GV.nilS,GV.nilS,GV.nilS] 0 fs):=H5.pt 2 rfl
    rw[Ab gl4 rfl] at z5
    simp +contextual (disch:=omega) only[go_sem,s5,A3 z5,A2 gl4]
    exact⟨_,rfl,fs,by rw[hd],by rw[hd];exact H5.one⟩
   |false=>
    cases h3:decide (120<(Mh s a).cells.length) with
    |true=>
     have ht:Gq (Mh s a)=true:=by simp[Gq,h1,h2,h3]
     have hd:F1 s a=(s,4):=by simp[F1,hok,hao,hkn1,hkn2,hri,ht]
     simp +contextual (disch:=omega) only[go_sem,A3 z6,q1,q2,q3,A99,h1,h2,h3,A3 (H3.pt 3 rfl),A2 (cs:=[a1,b1,c1,v1]) rfl]
     obtain⟨fs,N4,R4,K4⟩:=Fk _ _ s (A4.pre hR0 H3.sub) hl
     refine Ck R4 K4 ?_
     have H4:=H3.add K4
     simp only[Zaa,Zab] at H4
     have gl4:fs.length=4:=A4.len (K4.rd 0 rfl)
     obtain⟨N5,s5,H5,_⟩:=H4.st 2 rfl 4 0 (.agg fs) gl4 (by decide) (by simp)
     have z5:rdB N5 n4=some (Ar [GV.nilS,GV.nilS,GV.nilS,GV.nilS] 0 fs):=H5.pt 2 rfl
     rw[Ab gl4 rfl] at z5
     simp +contextual (disch:=omega) only[go_sem,s5,A3 z5,A2 gl4]
     exact⟨_,rfl,fs,by rw[hd],by rw[hd];exact H5.one⟩
    |false=>
     have ht:Gq (Mh s a)=false:=by simp only[Gq,h1,h2,h3];rfl
     have hd:F1 s a=(Mh s a,0):=by simp[F1,hok,hao,hkn1,hkn2,hri,ht]
     obtain⟨N5,s5,H5,_⟩:=H3.st 1 rfl 4 0 (.agg [w0,w1,w2,w3]) rfl (by decide) (by simp)
     have z5:rdB N5 n4=some [w0,w1,w2,w3]:=H5.pt 1 rfl
     simp +contextual (disch:=omega) only[go_sem,A3 z6,q1,q2,q3,A99,h1,h2,h3,A2 (cs:=[w0,w1,w2,w3]) rfl,s5,A3 z5]
     exact⟨_,rfl,_,by rw[hd],by rw[hd];exact H5.one⟩
 obtain⟨q,N,R,ds,rfl,h⟩:=key
 exact⟨ds,N,R,h⟩
end Go.Proofs.YtnknigikcdgebaaGreatDoor.Sy
