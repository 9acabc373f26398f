/- Texts of this proof, one behind the other. -/
import Derived.Test.YtnknigikcdgebaaGreatDoorBTurned3
import Derived.Test.YtnknigikcdgebaaGreatDoorProg
import Derived.KernelRfl
set_option linter.unusedSimpArgs false
set_option linter.unusedVariables false
set_option maxRecDepth 4000
set_option maxHeartbeats 4000000
open List renaming append_nil→Zaa,cons_append→Zab,prefix_refl→Zac,nil_append→Zad,length_map→Zae,take_length→Zaf,length_filter_le→Zag,take_succ_eq_append_getElem→Zah,map_cons→Zai,length_take→Zaj,getElem_mem→Zak,map_append→Zam,set_cons_succ→Zan,set_cons_zero→Zao,length_append→Zap,length_cons→Zaq,map_nil→Zar,length_nil→Zas,mem_map→Zat,mem_filter→Zau,mem_cons_of_mem→Zav,mem_of_mem_take→Zaw,mem_cons_self→Za0,filter_append→Za2,filter_cons→Za4,length→Za5,range_succ→Za6
open Bool renaming false_bne→Zal
open Nat renaming mul_le_mul_right→Zax,mul_le_mul→Zay,eq_zero_or_pos→Za1,le_trans→Za3
open Int renaming ofNat_zero→Zaz
namespace Go.Proofs.YtnknigikcdgebaaGreatDoor.Sy
open Go Go.RowKit
def Sn:Fn1:=⟨44,[.t 6],(rg [oX 3 0,o 6 (.mov (.k .nilS))] (rg [o 9 (.lit 1 0 [] []),oM 7 9] (.seq (rg [oV 8 (ki 0)] (oH 0 (.seq (rg [oM 10 8,oF 11 2 3,oL 12 11,oN 13 12,oB 14 .lss 10 13] (oJ 14 0)) (.seq (.blk 1 (rg [oF 17 2 3,oL 18 17,oM 19 8,oI 20 6 18 19,oF 21 0 20,oL 22 21,oM 23 1,o 24 (.eqb false (.t 22) (.t 23)),oM 25 24,jF 26 25 2 3,jL 27 25 26,jM 28 25 8,jI 29 25 6 27 28,jF 30 25 1 29,jL 31 25 30,jM 32 25 2,jB 33 25 .eql 31 32,oQ 34 25 33] (oG 34 (.reg [oM 35 7,oF 36 2 3,oL 37 36,oM 38 8,oI 39 6 37 38,oF 40 2 39,oL 41 40,oD 42 236 35 41,oM 7 42])))) (.reg [oM 15 8,oZ 16 15 1,oM 8 16]))))) (rg [oM 43 7,oM 6 43] .ret))))⟩
theorem A2y:A5 Tryz.prog 213=some Sn:=by kernel_rfl
def Xg:Fn1:=⟨38,[.t 6],(rg [oX 3 0,o 6 (.mov (.k .nilS))] (rg [o 10 (.lit 1 0 [] []),oM 7 10] (.seq (rg [oF 11 2 3,oL 12 11,oN 13 12,oV 14 (ki 0)] (oH 0 (rg [oB 15 .lss 14 13] (.seq (oJ 15 0) (.seq (.blk 1 (rg [oI 16 6 12 14,oW 17 6 16,o 9 (.new [(.bool false),s0,s0,z0,z0,z0]),oS 6 9 17] (rg [oF 18 0 9,oL 19 18,oM 20 1,o 21 (.eqb false (.t 19) (.t 20)),oM 22 21,jF 23 22 1 9,jL 24 22 23,jM 25 22 2,jB 26 22 .eql 24 25,oQ 27 22 26] (oG 27 (.reg [oM 28 7,oF 29 2 9,oL 30 29,o 31 (.lit 1 1 [s0] [(0,1,(.t 30))]),o 32 (.app 1 16 [s0] (.t 28) (.t 31)),oM 7 32]))))) (.reg [oZ 33 14 1,oM 14 33])))))) (rg [oM 34 7,oC 35 243 34] (rg [oM 36 7,oC 37 244 36,oM 6 37] .ret)))))⟩
theorem A5a:A5 Tryz.prog 205=some Xg:=by kernel_rfl
def A30:Fn1:=⟨8,[.t 4],(rg [oX 2 0,o 4 (.mov (.k .nilS))] (rg [oW 5 4 2,oM 6 1,o 7 (.call 213 [(.t 5),kf,(.t 6)]),oM 4 7] .ret))⟩
theorem A7j:A5 Tryz.prog 116=some A30:=by kernel_rfl
def A32:Fn1:=⟨8,[.t 4],(rg [oX 2 0,o 4 (.mov (.k .nilS))] (rg [oW 5 4 2,oM 6 1,o 7 (.call 205 [(.t 5),kf,(.t 6)]),oM 4 7] .ret))⟩
theorem A7k:A5 Tryz.prog 105=some A32:=by kernel_rfl
def A34:Fn1:=⟨72,[.t 6],(rg [oX 3 0,o 6 (.mov (.k .nilS))] (rg [o 13 (.lit 1 0 [] []),oM 7 13] (rg [oW 14 4 3,oM 15 1,oM 16 2,o 17 (.call 141 [(.t 14),kt,(.t 15),(.t 16)]),oM 8 17] (.seq (rg [oV 9 (ki 0)] (oH 0 (.seq (rg [oM 18 9,oM 19 8,oN 20 19,oB 21 .lss 18 20] (oJ 21 0)) (.seq (.blk 1 (rg [o 24 (.lit 1 0 [] []),oM 10 24] (rg [oV 11 kf] (.seq (rg [oV 12 (ki 0)] (oH 2 (.seq (rg [oM 25 12,oM 26 7,oN 27 26,oB 28 .lss 25 27] (oJ 28 2)) (.seq (.blk 3 (.seq (dw [oM 31 11,oU 32 31,oM 33 32,jM 34 33 7,jM 35 33 12,jI 36 33 1 34 35,jL 37 33 36,jM 38 33 8,jM 39 33 9,jI 40 33 6 38 39,jF 41 33 3 40,jL 42 33 41] [jB 43 33 .gtr 37 42,oQ 44 33 43] (oG 44 (rg [oM 45 10,oM 46 8,oM 47 9,oI 48 6 46 47,oF 49 3 48,oL 50 49,o 51 (.lit 1 1 [z0] [(0,1,(.t 50))]),o 52 (.app 1 8 [z0] (.t 45) (.t 51)),oM 10 52] (.reg [oV 11 kt])))) (.reg [oM 53 10,oM 54 7,oM 55 12,oI 56 1 54 55,oL 57 56,o 58 (.lit 1 1 [z0] [(0,1,(.t 57))]),o 59 (.app 1 8 [z0] (.t 53) (.t 58)),oM 10 59]))) (.reg [oM 29 12,oZ 30 29 1,oM 12 30]))))) (.seq (rg [oM 60 11,oU 61 60] (oG 61 (.reg [oM 62 10,oM 63 8,oM 64 9,oI 65 6 63 64,oF 66 3 65,oL 67 66,o 68 (.lit 1 1 [z0] [(0,1,(.t 67))]),o 69 (.app 1 8 [z0] (.t 62) (.t 68)),oM 10 69]))) (.reg [oM 70 10,oM 7 70])))))) (.reg [oM 22 9,oZ 23 22 1,oM 9 23]))))) (rg [oM 71 7,oM 6 71] .ret)))))⟩
theorem A7l:A5 Tryz.prog 50=some A34:=by kernel_rfl
def A36:Fn1:=⟨29,[.t 6],(rg [oX 3 0,o 6 (.mov (.k .nilS))] (rg [o 10 (.lit 1 0 [] []),oM 7 10] (.seq (rg [oW 11 4 3,oM 12 1,oM 13 2,o 14 (.call 206 [(.t 11),kt,(.t 12),(.t 13)]),oN 15 14,oV 16 (ki 0)] (oH 0 (rg [oB 17 .lss 16 15] (.seq (oJ 17 0) (.seq (.blk 1 (rg [oI 18 6 14 16,oW 19 6 18,o 9 (.new [(.bool false),s0,s0,z0,z0,z0]),oS 6 9 19] (.reg [oM 20 7,oF 21 3 9,oL 22 21,o 23 (.lit 1 1 [z0] [(0,1,(.t 22))]),o 24 (.app 1 8 [z0] (.t 20) (.t 23)),oM 7 24]))) (.reg [oZ 25 16 1,oM 16 25])))))) (rg [oM 26 7,oC 27 207 26] (rg [oM 28 7,oM 6 28] .ret)))))⟩
theorem A7m:A5 Tryz.prog 106=some A36:=by kernel_rfl
def A38:Fn1:=⟨37,[.t 4],(rg [oX 2 0,o 4 (.mov (.k .nilS))] (rg [o 8 (.lit 1 0 [] []),oM 5 8] (.seq (rg [oW 9 4 2,oC 10 54 9,oU 11 10] (oG 11 (rg [oM 12 5,oM 4 12] .ret))) (rg [oW 13 4 2,oM 14 1,oD 15 119 13 14,oM 6 15] (.seq (rg [oV 7 (ki 0)] (oH 0 (.seq (rg [oM 16 7,oM 17 6,oN 18 17,oB 19 .lss 16 18] (oJ 19 0)) (.seq (.blk 1 (rg [oM 22 6,oM 23 7,oI 24 8 22 23,oF 25 7 24,oL 26 25,oU 27 26] (oG 27 (.reg [oM 28 5,oM 29 6,oM 30 7,oI 31 8 29 30,oF 32 6 31,oL 33 32,o 34 (.lit 1 1 [z0] [(0,1,(.t 33))]),o 35 (.app 1 8 [z0] (.t 28) (.t 34)),oM 5 35])))) (.reg [oM 20 7,oZ 21 20 1,oM 7 21]))))) (rg [oM 36 5,oM 4 36] .ret))))))⟩
theorem A7n:A5 Tryz.prog 133=some A38:=by kernel_rfl
def A3a:Fn1:=⟨24,[.t 4],(rg [oX 2 0,o 4 (.mov (.k .nilS))] (rg [o 8 (.lit 1 0 [] []),oM 5 8] (.seq (rg [oW 9 4 2,oM 10 1,oD 11 208 9 10,oN 12 11,oV 13 (ki 0)] (oH 0 (rg [oB 14 .lss 13 12] (.seq (oJ 14 0) (.seq (.blk 1 (rg [oI 15 8 11 13,oW 16 8 15,o 7 (.new [s0,z0,z0,z0,z0,z0,z0,(.bool false)]),oS 8 7 16] (.reg [oM 17 5,oF 18 6 7,oL 19 18,o 20 (.lit 1 1 [z0] [(0,1,(.t 19))]),o 21 (.app 1 8 [z0] (.t 17) (.t 20)),oM 5 21]))) (.reg [oZ 22 13 1,oM 13 22])))))) (rg [oM 23 5,oM 4 23] .ret))))⟩
theorem A7o:A5 Tryz.prog 107=some A3a:=by kernel_rfl
def eqS:Eqs elS:=⟨fun x y=>by
 show binG .eql (.str x) (.str y)=_
 simp only[A9x],fun x y=>by
 show binG .neq (.str x) (.str y)=_
 simp only[A9y],[.str ⟨#[]⟩],rfl⟩
theorem Gt:A5 Tryz.prog 244=some (Lc elS.p.z elS.g eqS.ze):=by kernel_rfl
theorem G8 {N0 N:St} {rs:List Thg} {v:GV} {l:List ByteArray} (H:Hp N0 N rs) (k:Nat) (hk:rs[k]? =some (ow pS.kd v l)) (hl:l.length<=1099511627776):∃ v' U,Ret Tryz.prog 244 [v] N v' U/\Hp N0 U (rs.set k (ow pS.kd v' (Au l))):=
 A57 eqS Gt H k hk hl
theorem A3b {l:List Live} {m:Bool} {o:ByteArray} {i:Nat} (hi:i<l.length):((l.take (i+1)).filter (B5 m o)).map (·.key)=if B5 m o l[i] then((l.take i).filter (B5 m o)).map (·.key)++[l[i].key] else((l.take i).filter (B5 m o)).map (·.key):=by
 rw[Eh hi]
 split<;>simp
theorem A0d (N:St) (cs:List GV) (s:State) (hR:A9.R N s cs) (m:Bool) (o:ByteArray) (hl:Aa s<=1099511627776):∃ r U,Ret Tryz.prog 213 [.agg cs,.bool m,.str o] N r U/\Hp N U [ow pS.kd r (Fh s m o)]:=by
 obtain⟨a,b,c,v,rfl,_,_,hv,_⟩:=hR
 obtain⟨l1,l2,l3,l4,_⟩:=Ax hl
 refine Fg A2y (Z0z rfl) ?_
 have H:=((Hp.refl N).new 1 [a,b,c,v]).nil_str
 simp +contextual (disch:=omega) only[go_sem,Sn]
 generalize hb:N.length=n1 at*
 refine G6 s.lives.length 8 0 (fun i env U=>env 1= .bool m/\env 2= .str o/\env 3= .ptr n1 0/\∃ w,env 7=w/\Hp N U [ow pS.kd w (If txLt (((s.lives.take i).filter (B5 m o)).map (·.key))),pt 1 n1 [a,b,c,v]]) (fun env U=>∃ w,env 7=w/\Hp N U [ow pS.kd w (Fh s m o)]) rfl ⟨rfl,rfl,rfl,_,rfl,H⟩ ?_ ?_ ?_
 ·clear H
  rintro J Yq hJ hY i env U hi e8 c0 ⟨e1,e2,e3,w,e7,H⟩
  have hfl:=Bq s.lives (B5 m o) i
  have hpl:=L5 txLt (((s.lives.take i).filter (B5 m o)).map (·.key))
  rw[Zae] at hpl
  have C1:=A3 (hv.pre H.sub) hi
  have hln:=(hv.pre H.sub).len
  have hks:=A3b (m:=m) (o:=o) hi
  cases hm:(s.lives[i].map==m) with
  |false=>
   have hk0:B5 m o s.lives[i]=false:=by simp[B5,hm]
   rw[hk0,if_neg (by simp)] at hks
   simp +contextual (disch:=omega) only[go_sem,c0,e1,e2,e3,e7,e8,C1,A1 (H.pt 1 rfl),hln,hm,Zal]
   refine hJ _ _ _ ⟨?_,?_,?_,w,?_,by rw[hks];exact H⟩
   all_goals simp +contextual (disch:=omega) only[go_sem,e1,e2,e3,e7]
  |true=>
   cases ho:decide (s.lives[i].obj=o) with
   |false=>
    have hk0:B5 m o s.lives[i]=false:=by simp[B5,hm,ho]
    rw[hk0,if_neg (by simp)] at hks
    simp +contextual (disch:=omega) only[go_sem,c0,e1,e2,e3,e7,e8,C1,A1 (H.pt 1 rfl),hln,hm,ho,Zal]
    refine hJ _ _ _ ⟨?_,?_,?_,w,?_,by rw[hks];exact H⟩
    all_goals simp +contextual (disch:=omega) only[go_sem,e1,e2,e3,e7]
   |true=>
    have hk0:B5 m o s.lives[i]=true:=by simp[B5,hm,ho]
    rw[hk0,if_pos rfl] at hks
    obtain⟨w',U3,R3,H3⟩:=A2x s.lives[i].key H 0 rfl (by omega)
    simp +contextual (disch:=omega) only[go_sem,c0,e1,e2,e3,e7,e8,C1,A1 (H.pt 1 rfl),hln,hm,ho,Zal]
    refine Ag R3 ?_
    simp +contextual (disch:=omega) only[go_sem,e1,e2,e3,e7,e8]
    refine hJ _ _ _ ⟨?_,?_,?_,w',?_,?_⟩
    all_goals first|(simp +contextual (disch:=omega) only[go_sem,e1,e2,e3,e7];done)|skip
    rw[hks,A4w]
    exact H3
 ·clear H
  rintro Yq hY env U e8 c0 ⟨e1,e2,e3,w,e7,H⟩
  rw[Zaf] at H
  have hln:=(hv.pre H.sub).len
  simp +contextual (disch:=omega) only[go_sem,c0,e1,e2,e3,e7,e8,A1 (H.pt 1 rfl),hln]
  refine hY _ _ ⟨w,?_,H.one⟩
  simp +contextual (disch:=omega) only[go_sem,e7]
 ·clear H
  rintro env U ⟨w,e7,H⟩
  simp +contextual (disch:=omega) only[go_sem,e7]
  exact⟨_,rfl,H⟩
theorem A3c (N:St) (cs:List GV) (s:State) (hR:A9.R N s cs) (m:Bool) (o:ByteArray) (hl:Aa s<=1099511627776):∃ r U,Ret Tryz.prog 205 [.agg cs,.bool m,.str o] N r U/\Hp N U [ow pS.kd r (Fh s m o)]:=by
 obtain⟨a,b,c,v,rfl,_,_,hv,_⟩:=hR
 obtain⟨l1,l2,l3,l4,_⟩:=Ax hl
 refine Fg A5a (Z0z rfl) ?_
 have H:=((Hp.refl N).new 1 [a,b,c,v]).nil_str
 simp +contextual (disch:=omega) only[go_sem,Xg,hv.len]
 generalize hb:N.length=n1 at*
 refine G6 s.lives.length 14 0 (fun i env U=>env 1= .bool m/\env 2= .str o/\env 12=c/\env 13=gi s.lives.length/\∃ w,env 7=w/\Hp N U [ow pS.kd w (((s.lives.take i).filter (B5 m o)).map (·.key)),pt 1 n1 [a,b,c,v]]) (fun env U=>∃ w,env 7=w/\Hp N U [ow pS.kd w ((s.lives.filter (B5 m o)).map (·.key)),pt 1 n1 [a,b,c,v]]) rfl ⟨rfl,rfl,rfl,rfl,_,rfl,H⟩ ?_ ?_ ?_
 ·clear H
  rintro J Yq hJ hY i env U hi e14 c0 ⟨e1,e2,e12,e13,w,e7,H⟩
  have hfl:=Bq s.lives (B5 m o) i
  have C1:=A3 (hv.pre H.sub) hi
  have G:=H.grow (pre1 U (some (Blk.row 1 [.bool s.lives[i].map,.str s.lives[i].obj,.str s.lives[i].key,gi s.lives[i].val,gi s.lives[i].dot.rep,gi s.lives[i].dot.seq])))
  have hks:=A3b (m:=m) (o:=o) hi
  cases hm:(s.lives[i].map==m) with
  |false=>
   have hk0:B5 m o s.lives[i]=false:=by simp[B5,hm]
   rw[hk0,if_neg (by simp)] at hks
   simp +contextual (disch:=omega) only[go_sem,c0,e1,e2,e12,e13,e7,e14,C1,hm,Zal]
   refine hJ _ _ _ ⟨?_,?_,?_,?_,w,?_,by rw[hks];exact G⟩
   all_goals simp +contextual (disch:=omega) only[go_sem,e1,e2,e12,e13,e7]
  |true=>
   cases ho:decide (s.lives[i].obj=o) with
   |false=>
    have hk0:B5 m o s.lives[i]=false:=by simp[B5,hm,ho]
    rw[hk0,if_neg (by simp)] at hks
    simp +contextual (disch:=omega) only[go_sem,c0,e1,e2,e12,e13,e7,e14,C1,hm,ho,Zal]
    refine hJ _ _ _ ⟨?_,?_,?_,?_,w,?_,by rw[hks];exact G⟩
    all_goals simp +contextual (disch:=omega) only[go_sem,e1,e2,e12,e13,e7]
   |true=>
    have hk0:B5 m o s.lives[i]=true:=by simp[B5,hm,ho]
    rw[hk0,if_pos rfl] at hks
    obtain⟨w',U3,e8,H3⟩:=G.app_str 0 rfl s.lives[i].key (by rw[Zae];omega)
    simp +contextual (disch:=omega) only[go_sem,c0,e1,e2,e12,e13,e7,e14,C1,hm,ho,Zal,e8]
    refine hJ _ _ _ ⟨?_,?_,?_,?_,w',?_,?_⟩
    all_goals first|(simp +contextual (disch:=omega) only[go_sem,e1,e2,e12,e13,e7];done)|skip
    rw[hks]
    exact H3
 ·clear H
  rintro Yq hY env U e14 c0 ⟨e1,e2,e12,e13,w,e7,H⟩
  rw[Zaf] at H
  simp +contextual (disch:=omega) only[go_sem,c0,e1,e2,e12,e13,e7,e14]
  refine hY _ _ ⟨w,?_,H⟩
  simp +contextual (disch:=omega) only[go_sem,e7]
 ·clear H
  rintro env U ⟨w,e7,H⟩
  have hfl:=Zag (B5 m o) s.lives
  generalize hK:(s.lives.filter (B5 m o)).map (·.key)=K at*
  have hKl:K.length<=1099511627776:=by rw[<- hK,Zae];omega
  obtain⟨U2,R2,H2⟩:=Hr H 0 rfl hKl
  simp +contextual (disch:=omega) only[go_sem,e7]
  refine Ag R2 ?_
  simp +contextual (disch:=omega) only[go_sem,e7]
  obtain⟨w3,U3,R3,H3⟩:=G8 H2 0 rfl (by rw[Dp];exact hKl)
  refine Ag R3 ?_
  simp +contextual (disch:=omega) only[go_sem]
  refine⟨_,rfl,?_⟩
  have hE:Au (Bc txLt K)=Fh s m o:=by
   rw[Fh,hK]
   exact Tl Zx Zy (Bm _ _) (L3 Zx _)
  rw[<- hE]
  exact H3.one
theorem A5b (N:St) (cs:List GV) (s:State) (hR:A9.R N s cs) (o:ByteArray) (hl:Aa s<=1099511627776):∃ r U,Ret Tryz.prog 116 [.agg cs,.str o] N r U/\Hp N U [ow pS.kd r (Fh s false o)]:=by
 have hlen:cs.length=4:=A9.len hR
 refine Fg A7j (Z0z rfl) ?_
 have H:=(Hp.refl N).new 1 cs
 simp +contextual (disch:=omega) only[go_sem,A30,Mn,Ah hlen]
 obtain⟨r,U,R,K⟩:=A0d _ cs s (A9.pre hR H.sub) false o hl
 refine Er R K ?_
 have H:=H.add K
 simp +contextual (disch:=omega) only[go_sem]
 exact⟨_,rfl,H.one⟩
theorem A5c (N:St) (cs:List GV) (s:State) (hR:A9.R N s cs) (o:ByteArray) (hl:Aa s<=1099511627776):∃ r U,Ret Tryz.prog 105 [.agg cs,.str o] N r U/\Hp N U [ow pS.kd r (Fh s false o)]:=by
 have hlen:cs.length=4:=A9.len hR
 refine Fg A7k (Z0z rfl) ?_
 have H:=(Hp.refl N).new 1 cs
 simp +contextual (disch:=omega) only[go_sem,A32,Mn,Ah hlen]
 obtain⟨r,U,R,K⟩:=A3c _ cs s (A9.pre hR H.sub) false o hl
 refine Er R K ?_
 have H:=H.add K
 simp +contextual (disch:=omega) only[go_sem]
 exact⟨_,rfl,H.one⟩
theorem A99 {l:List Live} {i:Nat} (hi:i<l.length):Bc ltI ((l.take (i+1)).map (·.val))=insB ltI l[i].val (Bc ltI ((l.take i).map (·.val))):=by
 rw[Zah hi,Zam,Zai,Zar,Rr]
theorem A5d (N:St) (cs:List GV) (s:State) (hR:A9.R N s cs) (o k:ByteArray) (hl:Aa s<=1099511627776):∃ r U,Ret Tryz.prog 50 [.agg cs,.str o,.str k] N r U/\Hp N U [ow pI.kd r (S2 s o k)]:=by
 have hR0:=hR
 obtain⟨a,b,c,v,rfl,_,_,hv,_⟩:=hR
 obtain⟨l1,l2,l3,l4,_⟩:=Ax hl
 refine Fg A7l (Z0z rfl) ?_
 have H:=((Hp.refl N).new 1 [a,b,c,v]).nil_int
 simp +contextual (disch:=omega) only[go_sem,A34,I0,Ah (cs:=[a,b,c,v]) rfl]
 obtain⟨r1,U1,R1,K1⟩:=A09 _ _ s (A9.pre hR0 H.sub) true o k hl
 refine Er R1 K1 ?_
 have H:=H.add K1
 simp only[Zab,Zad] at H
 generalize hL:Ig s true o k=L at*
 have hLl:L.length<=1099511627776:=by
  have:=Zag (Bp true o k) s.lives
  rw[<- hL];unfold Ig;omega
 simp +contextual (disch:=omega) only[go_sem]
 refine G6 L.length 9 0 (fun i env U=>env 8=r1/\∃ w n1,env 7=w/\Hp N U [ow pI.kd w (Bc ltI ((L.take i).map (·.val))),ow Cb.kd r1 L,pt 1 n1 [a,b,c,v]]) (fun env U=>∃ w,env 7=w/\Hp N U [ow pI.kd w (Bc ltI (L.map (·.val)))]) rfl ⟨rfl,_,_,rfl,(H.pick 1 rfl)⟩ ?_ ?_ ?_
 ·clear H
  rintro J Yq hJ hY i env U hi e9 c0 ⟨e8,w,n1,e7,H⟩
  have hlen:=(H.sl 1 rfl).len
  have hal:=Dp ltI ((L.take i).map (·.val))
  rw[Zae,Zaj] at hal
  have hsn:=A99 hi
  generalize hacc:Bc ltI ((L.take i).map (·.val))=acc at*
  have H1:=H.nil_int
  simp +contextual (disch:=omega) only[go_sem,c0,e7,e8,e9,hlen]
  refine G6 acc.length 12 2 (fun j env U=>env 8=r1/\env 9=gi i/\env 7=w/\∃(u:GV) (put:Bool) (nxt:List Int),env 10=u/\env 11= .bool put/\insG ltI L[i].val acc nxt j put/\Hp N U [ow pI.kd u nxt,ow pI.kd w acc,ow Cb.kd r1 L,pt 1 n1 [a,b,c,v]]) (fun env U=>env 8=r1/\env 9=gi i/\env 7=w/\∃(u:GV) (put:Bool) (nxt:List Int),env 10=u/\env 11= .bool put/\insG ltI L[i].val acc nxt acc.length put/\Hp N U [ow pI.kd u nxt,ow pI.kd w acc,ow Cb.kd r1 L,pt 1 n1 [a,b,c,v]]) rfl ⟨by simp +contextual (disch:=omega) only[go_sem,e8],by simp +contextual (disch:=omega) only[go_sem,e9],by simp +contextual (disch:=omega) only[go_sem,e7],_,false,[],by simp +contextual (disch:=omega) only[go_sem],by simp +contextual (disch:=omega) only[go_sem],A01,H1⟩ ?_ ?_ ?_
  ·clear e7 e8 e9 H H1
   rintro J2 Yq2 hJ2 hY2 j env U hj e12 c1 ⟨e8,e9,e7,u,put,nxt,e10,e11,hok,H⟩
   have hnl:=F4 hok
   have i1:=Fm (H.sl 1 rfl) hj
   have hlen:=(H.sl 1 rfl).len
   have C1:=A3 (H.sl 2 rfl) hi
   cases put with
   |true=>
    obtain⟨w',U3,e5,H3⟩:=H.app_int 0 rfl acc[j] (by omega)
    simp +contextual (disch:=omega) only[go_sem,c1,e7,e8,e9,e10,e11,e12,i1,hlen,e5]
    refine hJ2 _ _ _ ⟨?_,?_,?_,w',true,_,?_,?_,Gl hok hj (.inl rfl),H3⟩
    all_goals simp +contextual (disch:=omega) only[go_sem,e7,e8,e9,e11]
   |false=>
    cases hlt:decide (L[i].val<acc[j]) with
    |false=>
     obtain⟨w',U3,e5,H3⟩:=H.app_int 0 rfl acc[j] (by omega)
     simp +contextual (disch:=omega) only[go_sem,c1,e7,e8,e9,e10,e11,e12,i1,hlen,C1,hlt,e5]
     refine hJ2 _ _ _ ⟨?_,?_,?_,w',false,_,?_,?_,Gl hok hj (.inr hlt),H3⟩
     all_goals simp +contextual (disch:=omega) only[go_sem,e7,e8,e9,e11]
    |true=>
     obtain⟨w',U3,e5,H3⟩:=H.app_int 0 rfl L[i].val (by omega)
     have H3:Hp N U3 [ow pI.kd w' (nxt++[L[i].val]),ow pI.kd w acc,ow Cb.kd r1 L,pt 1 n1 [a,b,c,v]]:=H3
     have hp:=A02 hok hj hlt
     have hnl2:=F4 hp
     simp only[Zap,Zaq,Zas] at hnl2
     have i2:=Fm (H3.sl 1 rfl) hj
     obtain⟨w2,U4,e6,H4⟩:=H3.app_int 0 rfl acc[j] (by simp;omega)
     simp +contextual (disch:=omega) only[go_sem,c1,e7,e8,e9,e10,e11,e12,i1,hlen,C1,hlt,e5,i2,e6]
     refine hJ2 _ _ _ ⟨?_,?_,?_,w2,true,_,?_,?_,hp,H4⟩
     all_goals simp +contextual (disch:=omega) only[go_sem,e7,e8,e9,e11]
  ·clear e7 e8 e9 H H1
   rintro Yq2 hY2 env U e12 c1 ⟨e8,e9,e7,u,put,nxt,e10,e11,hok,H⟩
   have hlen:=(H.sl 1 rfl).len
   simp +contextual (disch:=omega) only[go_sem,c1,e7,e8,e9,e10,e11,e12,hlen]
   refine hY2 _ _ ⟨?_,?_,?_,u,put,nxt,?_,?_,hok,H⟩
   all_goals simp +contextual (disch:=omega) only[go_sem,e7,e8,e9,e10,e11]
  ·clear e7 e8 e9 H H1
   rintro env U ⟨e8,e9,e7,u,put,nxt,e10,e11,hok,H⟩
   have hnl:=F4 hok
   have hend:=A03 hok
   have C1:=A3 (H.sl 2 rfl) hi
   cases put with
   |true=>
    simp +contextual (disch:=omega) only[go_sem,e7,e8,e9,e10,e11]
    refine hJ _ _ _ ⟨?_,u,n1,?_,?_⟩
    all_goals first|(simp +contextual (disch:=omega) only[go_sem,e7,e8,e9,e10,e11];done)|skip
    rw[hsn,<-hend]
    exact(H.pick 1 rfl).drop1
   |false=>
    obtain⟨w',U3,e5,H3⟩:=H.app_int 0 rfl L[i].val (by omega)
    simp +contextual (disch:=omega) only[go_sem,e7,e8,e9,e10,e11,C1,e5]
    refine hJ _ _ _ ⟨?_,w',n1,?_,?_⟩
    all_goals first|(simp +contextual (disch:=omega) only[go_sem,e7,e8,e9,e10,e11];done)|skip
    rw[hsn,<-hend]
    exact(H3.pick 1 rfl).drop1
 ·clear H
  rintro Yq hY env U e9 c0 ⟨e8,w,n1,e7,H⟩
  rw[Zaf] at H
  have hlen:=(H.sl 1 rfl).len
  simp +contextual (disch:=omega) only[go_sem,c0,e7,e8,e9,hlen]
  refine hY _ _ ⟨w,?_,H.one⟩
  simp +contextual (disch:=omega) only[go_sem,e7]
 ·clear H
  rintro env U ⟨w,e7,H⟩
  simp +contextual (disch:=omega) only[go_sem,e7]
  exact⟨_,rfl,by rw[S2,hL];exact H⟩
theorem A5e (N:St) (cs:List GV) (s:State) (hR:A9.R N s cs) (o k:ByteArray) (hl:Aa s<=1099511627776):∃ r U,Ret Tryz.prog 106 [.agg cs,.str o,.str k] N r U/\Hp N U [ow pI.kd r (S2 s o k)]:=by
 have hR0:=hR
 obtain⟨a,b,c,v,rfl,_,_,hv,_⟩:=hR
 obtain⟨l1,l2,l3,l4,_⟩:=Ax hl
 refine Fg A7m (Z0z rfl) ?_
 have H:=((Hp.refl N).new 1 [a,b,c,v]).nil_int
 simp +contextual (disch:=omega) only[go_sem,A36,I0,Ah (cs:=[a,b,c,v]) rfl]
 obtain⟨r1,U1,R1,K1⟩:=A0a _ _ s (A9.pre hR0 H.sub) true o k hl
 refine Er R1 K1 ?_
 have H:=H.add K1
 simp only[Zab,Zad] at H
 generalize hL:Ig s true o k=L at*
 have hLl:L.length<=1099511627776:=by
  have:=Zag (Bp true o k) s.lives
  rw[<- hL];unfold Ig;omega
 have hlen0:=(H.sl 0 rfl).len
 simp +contextual (disch:=omega) only[go_sem,hlen0]
 refine G6 L.length 16 0 (fun i env U=>env 14=r1/\env 15=gi L.length/\∃ w n1,env 7=w/\Hp N U [ow pI.kd w ((L.take i).map (·.val)),ow Cb.kd r1 L,pt 1 n1 [a,b,c,v]]) (fun env U=>∃ w,env 7=w/\Hp N U [ow pI.kd w (L.map (·.val))]) rfl ⟨rfl,rfl,_,_,rfl,(H.pick 1 rfl)⟩ ?_ ?_ ?_
 ·clear H
  rintro J Yq hJ hY i env U hi e16 c0 ⟨e14,e15,w,n1,e7,H⟩
  have C1:=A3 (H.sl 1 rfl) hi
  have G:=H.grow (pre1 U (some (Blk.row 1 [.bool L[i].map,.str L[i].obj,.str L[i].key,gi L[i].val,gi L[i].dot.rep,gi L[i].dot.seq])))
  obtain⟨w',U3,e5,H3⟩:=G.app_int 0 rfl L[i].val (by simp;omega)
  simp +contextual (disch:=omega) only[go_sem,c0,e7,e14,e15,e16,C1,e5]
  refine hJ _ _ _ ⟨?_,?_,w',n1,?_,?_⟩
  all_goals first|(simp +contextual (disch:=omega) only[go_sem,e7,e14,e15,e16];done)|skip
  rw[Zah hi,Zam,Zai,Zar]
  exact H3
 ·clear H
  rintro Yq hY env U e16 c0 ⟨e14,e15,w,n1,e7,H⟩
  rw[Zaf] at H
  simp +contextual (disch:=omega) only[go_sem,c0,e7,e14,e15,e16]
  refine hY _ _ ⟨w,?_,H.one⟩
  simp +contextual (disch:=omega) only[go_sem,e7]
 ·clear H
  rintro env U ⟨w,e7,H⟩
  obtain⟨U2,R2,H2⟩:=Jp H 0 rfl (by simp;omega)
  simp +contextual (disch:=omega) only[go_sem,e7]
  refine Ag R2 ?_
  simp +contextual (disch:=omega) only[go_sem,e7]
  exact⟨_,rfl,by rw[S2,hL];exact H2⟩
theorem A5f (N:St) (cs:List GV) (s:State) (hR:A9.R N s cs) (o:ByteArray) (hl:Aa s<=1099511627776):∃ r U,Ret Tryz.prog 107 [.agg cs,.str o] N r U/\Hp N U [ow pI.kd r (M9 s o)]:=by
 have hlen:=A9.len hR
 have hlen:cs.length=4:=hlen
 refine Fg A7o (Z0z rfl) ?_
 have H:=((Hp.refl N).new 1 cs).nil_int
 simp +contextual (disch:=omega) only[go_sem,A3a,Mn,I0,Ah hlen]
 obtain⟨r1,U1,R1,K1⟩:=Tn _ cs s (A9.pre hR H.sub) o hl
 have hb:=A67 s o
 rw[M9]
 generalize rowL s o=T at*
 refine Er R1 K1 ?_
 have H:=H.add K1
 simp only[Zab,Zad] at H
 have hlen0:=(H.sl 0 rfl).len
 simp +contextual (disch:=omega) only[go_sem,hlen0]
 generalize hn1:N.length=n1 at*
 refine M3 T.length 13 (fun i env U=>env 11=r1/\env 12=gi T.length/\∃ u,env 5=u/\Hp N U [ow pI.kd u ((T.take i).map (·.val)),ow Aj.kd r1 T,pt 1 n1 cs]) rfl ⟨rfl,rfl,_,rfl,H.pick 1 rfl⟩ ?_ ?_
 ·clear H
  rintro J hJ i env U hi e13 c0 ⟨e11,e12,u,e5,H⟩
  have C1:=A4 (H.sl 1 rfl) hi
  have G:=H.grow (pre1 U (some (Blk.row 1 (A2n T[i]))))
  obtain⟨w',U3,e8,H3⟩:=G.app_int 0 rfl T[i].val (by simp;omega)
  simp +contextual (disch:=omega) only[go_sem,c0,e5,e11,e12,e13,C1,e8]
  refine hJ _ _ _ ⟨?_,?_,w',?_,?_⟩
  all_goals first|(simp +contextual (disch:=omega) only[go_sem,e5,e11,e12,e13];done)|skip
  rw[Zah hi,Zam,Zai,Zar]
  exact H3
 ·clear H
  rintro env U e13 c0 ⟨e11,e12,u,e5,H⟩
  rw[Zaf] at H
  simp +contextual (disch:=omega) only[go_sem,c0,e5,e11,e12,e13]
  exact⟨_,rfl,H.one⟩
theorem A5g (N:St) (cs:List GV) (s:State) (hR:A9.R N s cs) (o:ByteArray) (hl:Aa s<=1099511627776):∃ r U,Ret Tryz.prog 133 [.agg cs,.str o] N r U/\Hp N U [ow pI.kd r (M9 s o)]:=by
 have hlen:=A9.len hR
 have hlen:cs.length=4:=hlen
 refine Fg A7n (Z0z rfl) ?_
 have H:=((Hp.refl N).new 1 cs).nil_int
 simp +contextual (disch:=omega) only[go_sem,A38,Mn,I0,Ah hlen]
 refine Ae (Zw _ _ s (A9.pre hR H.sub) hl) (fun hok=> ?_) (fun hok=> ?_)
 rotate_left
 ·have e:M9 s o=[]:=by simp[M9,rowL,hok]
  simp +contextual (disch:=omega) only[go_sem]
  exact⟨_,rfl,by rw[e];exact H.one⟩
 have e:M9 s o=((rowC s o).filter C4).map (·.val):=by simp only[M9,rowL,hok,if_true];rfl
 rw[e]
 simp +contextual (disch:=omega) only[go_sem,Mn,I0,Ah hlen]
 obtain⟨r1,U1,R1,K1⟩:=A2p _ cs s (A9.pre hR H.sub) o hok hl
 refine Er R1 K1 ?_
 have H:=H.add K1
 simp only[Zab,Zad] at H
 have hb:=L8 (M8 hok) o
 generalize rowC s o=T at*
 simp +contextual (disch:=omega) only[go_sem]
 generalize hn1:N.length=n1 at*
 refine M3 T.length 7 (fun i env U=>env 6=r1/\∃ u,env 5=u/\Hp N U [ow pI.kd u (((T.take i).filter C4).map (·.val)),ow Aj.kd r1 T,pt 1 n1 cs]) rfl ⟨rfl,_,rfl,H.pick 1 rfl⟩ ?_ ?_
 ·clear H
  rintro J hJ i env U hi e7 c0 ⟨e6,u,e5,H⟩
  have hfl:=Bq T C4 i
  have hsn:=A2r hi
  have C1:=A4 (H.sl 1 rfl) hi
  have hln:=(H.sl 1 rfl).len
  cases hg:T[i].gone with
  |true=>
   have hk0:C4 T[i]=false:=by simp[C4,hg]
   rw[hk0,if_neg (by simp)] at hsn
   simp +contextual (disch:=omega) only[go_sem,c0,e5,e6,e7,hln,C1,hg]
   refine hJ _ _ _ ⟨?_,u,?_,by rw[hsn];exact H⟩
   all_goals simp +contextual (disch:=omega) only[go_sem,e5,e6,e7]
  |false=>
   have hk0:C4 T[i]=true:=by simp[C4,hg]
   rw[hk0,if_pos rfl] at hsn
   obtain⟨w',U3,e8,H3⟩:=H.app_int 0 rfl T[i].val (by simp;omega)
   simp +contextual (disch:=omega) only[go_sem,c0,e5,e6,e7,hln,C1,hg,e8]
   refine hJ _ _ _ ⟨?_,w',?_,?_⟩
   all_goals first|(simp +contextual (disch:=omega) only[go_sem,e5,e6,e7];done)|skip
   rw[hsn,Zam,Zai,Zar]
   exact H3
 ·clear H
  rintro env U e7 c0 ⟨e6,u,e5,H⟩
  rw[Zaf] at H
  have hln:=(H.sl 1 rfl).len
  simp +contextual (disch:=omega) only[go_sem,c0,e5,e6,e7,hln]
  exact⟨_,rfl,H.one⟩
theorem Sp (s:State) (m:Bool) (o:ByteArray):(Fh s m o).length<=Aa s:=by
 have h1:=L5 txLt ((s.lives.filter (B5 m o)).map (·.key))
 rw[Zae] at h1
 have h2:(s.lives.filter (B5 m o)).length<=s.lives.length:=Zag _ _
 have h3:s.lives.length<=Aa s:=by unfold Aa;omega
 unfold Fh;omega
theorem A6a (s:State) (o k:ByteArray):(S2 s o k).length<=Aa s:=by
 have h2:(Ig s true o k).length<=s.lives.length:=Zag _ _
 have h3:s.lives.length<=Aa s:=by unfold Aa;omega
 rw[S2,Dp,Zae];omega
theorem A6b (s:State) (o:ByteArray):(M9 s o).length<=1200120:=by
 rw[M9,Zae];exact A67 s o
def Sr:Fn1:=⟨5,[.t 2],(rg [o 2 (.mov (.k s0))] (rg [oM 3 0,oC 4 249 3,oM 2 4] .ret))⟩
theorem A3d:A5 Tryz.prog 173=some Sr:=by kernel_rfl
def A6d:Fn1:=⟨25,[.t 4],(rg [o 4 (.mov (.k s0))] (rg [o 8 (.lit 1 0 [] []),oM 5 8] (.seq (rg [oM 9 0,oN 10 9,oV 11 (ki 0)] (oH 0 (rg [oB 12 .lss 11 10] (.seq (oJ 12 0) (.seq (.blk 1 (rg [oI 13 1 9 11,oL 14 13,oM 7 14] (.reg [oM 15 5,oM 16 7,o 17 (.mm true (.t 16) (ki 0)),oC 18 173 17,o 19 (.lit 1 1 [s0] [(0,1,(.t 18))]),o 20 (.app 1 16 [s0] (.t 15) (.t 19)),oM 5 20]))) (.reg [oZ 21 11 1,oM 11 21])))))) (rg [oM 22 5,oM 23 1,oD 24 104 22 23,oM 4 24] .ret))))⟩
theorem A9a:A5 Tryz.prog 102=some A6d:=by kernel_rfl
def mx0 (n:Int):Int:=if(0:Int)>n then 0 else n
theorem A9b (n:Int):0<=mx0 n:=by unfold mx0;split<;>omega
theorem A9c {n m:Int} (h:n<=m) (h0:0<=m):mx0 n<=m:=by unfold mx0;split<;>omega
def Ci (l:List Int):List ByteArray:=l.map fun n=>itB (mx0 n)
def tolB (l:List Int) (sep:ByteArray):ByteArray:=joB (Ci l) sep
theorem Eo (b:ByteArray):b.data.toList.length=b.size:=by rw[Array.length_toList];rfl
theorem A0e {n:Int} (h0:0<=n) (h1:n<=9223372036854775807):(itB n).size<=21:=by
 have:=Lib.itoa_length_le n (by omega) h1
 have e:=Eo (itB n)
 have e2:(itB n).data.toList=Lib.itoa n:=by simp[itB]
 rw[e2] at e;omega
theorem Ss {l:List Int} (h:∀ x∈l,x≤9223372036854775807):∀ s∈Ci l,s.size<=21:=fun s hs=>by
 obtain⟨n,hn,rfl⟩:=Zat.1 hs
 exact A0e (A9b n) (A9c (h n hn) (by omega))
theorem Acn {l:List ByteArray} {b:Nat} (h:∀ x∈l,x.size<=b):Lib.lens (l.map (·.data.toList))<=l.length*b:=by
 induction l with
 |nil=>simp[Lib.lens]
 |cons x l ih=>
  have h1:=ih fun y hy=>h y (Zav _ hy)
  have h2:=h x Za0
  have e:=Eo x
  simp only[Lib.lens,Zai,List.sum_cons,Zaq,Nat.add_mul,Nat.one_mul] at h1 ⊢
  omega
theorem A9d {l:List ByteArray} {sep:ByteArray} {b:Nat} (h:∀ x∈l,x.size<=b):(Lib.join (l.map (·.data.toList)) sep.data.toList).length<=l.length*(b+sep.size):=by
 cases l with
 |nil=>simp[Lib.join_nil]
 |cons x l=>
  have h1:=Acn (l:=l) fun y hy=>h y (Zav _ hy)
  have h2:=h x Za0
  have e:=Eo x
  have e2:=Eo sep
  rw[Zai,Lib.join_cons,Zap,Lib.joinTail_length,Zae,Zaq,Nat.add_mul,Nat.mul_add,Nat.mul_comm sep.data.toList.length]
  rw[e2]
  omega
theorem Lh (l:List ByteArray) (sep:ByteArray):(joB l sep).data.toList=Lib.join (l.map (·.data.toList)) sep.data.toList:=by simp[joB]
theorem A0f {l:List ByteArray} {sep:ByteArray} {b:Nat} (h:∀ x∈l,x.size<=b):(joB l sep).size<=l.length*(b+sep.size):=by
 rw[<- Eo,Lh];exact A9d h
theorem Ij {a b:ByteArray} (h:a.data.toList=b.data.toList):a=b:=ByteArray.ext (Array.ext' h)
theorem Pf (a b:ByteArray):(a++b).data.toList=a.data.toList++b.data.toList:=by rw[ByteArray.data_append,Array.toList_append]
theorem Aco (x sep:ByteArray):joB [x] sep=x:=Ij (by rw[Lh];simp[Lib.join_one])
theorem Aad {l:List ByteArray} (hl:l≠[]) (x sep:ByteArray):joB (l++[x]) sep=joB l sep++sep++x:=by
 cases l with
 |nil=>exact absurd rfl hl
 |cons y l=>
  refine Ij ?_
  rw[Pf,Pf,Lh,Lh,Zab,Zai,Zai,Lib.join_cons,Lib.join_cons,Zam]
  simp[Lib.joinTail]
theorem A0g (N:St) (n:Int) (h0: -9223372036854775808<=n) (h1:n<=9223372036854775807):Ret Tryz.prog 173 [gi n] N (.str (itB n)) N:=by
 refine O8 A3d (Z0z rfl) trivial ?_
 simp +contextual (disch:=omega) only[go_sem,Sr]
 refine by_r (Hx.refl N) (Aa3 N n h0 h1) ?_
 simp +contextual (disch:=omega) only[go_sem]
theorem Su {l:List Int} {i:Nat} (h:i<l.length):Ci (l.take (i+1))=Ci (l.take i)++[itB (mx0 l[i])]:=Aa4 h
theorem Me (N:St) (v:GV) (l:List Int) (hR:RS pI.kd N v l) (sep:ByteArray) (hs:sep.size<=8) (hI:∀ x∈l,x≤9223372036854775807) (hl:l.length<=1099511627776):Ret Tryz.prog 102 [v,.str sep] N (.str (tolB l sep)) N:=by
 refine O8 A9a (Z0z rfl) trivial ?_
 simp +contextual (disch:=omega) only[go_sem,A6d,hR.len]
 intro n f U H
 have H:=H.emp pS.kd rfl
 refine A20 l.length 11 0 (fun i env h=>env 1= .str sep/\env 9=v/\env 10=gi l.length/\∃ u,env 5=u/\h=[.th (ow pS.kd u (Ci (l.take i)))]) (fun env h=>env 1= .str sep/\∃ u,env 5=u/\h=[.th (ow pS.kd u (Ci l))]) (fun env h=>False) _ H (by simp +contextual (disch:=omega) only[go_sem]) ⟨by simp +contextual (disch:=omega) only[go_sem],by simp +contextual (disch:=omega) only[go_sem],by simp +contextual (disch:=omega) only[go_sem],_,by simp +contextual (disch:=omega) only[go_sem],rfl⟩ ?_ ?_ ?_ (fun _ _ _ _ h=>h.elim)
 ·rintro J Yq Wq hJ hY hW i env h U hi ei c0 H ⟨e1,e9,e10,u,e5,rfl⟩
  have L1:=Fm (hR.pre H.sub) hi
  have hx:=hI _ (Zak hi)
  have hmx:(if (0:Int)>l[i] then 0 else l[i])=mx0 l[i]:=rfl
  simp +contextual (disch:=omega) only[go_sem,c0,e1,e9,e10,e5,ei,A2,Ac8 H L1.2,L1,hmx]
  have m0:=A9b l[i]
  have m1:=A9c hx (by omega)
  refine by_r H (A0g U (mx0 l[i]) (by omega) m1) ?_
  simp +contextual (disch:=omega) only[go_sem,e5]
  intro n f U2 H2
  refine A4c (p:=pS) H2 1 rfl (itB (mx0 l[i])) A4b (by decide) (by rw[Ci,Zae,Zaj];omega) fun w' U4 H4=> ?_
  simp +contextual (disch:=omega) only[go_sem,e1,e9,e10,ei]
  exact hJ _ _ _ _ (H4.re [1] (by decide)) ⟨by simp +contextual (disch:=omega) only[go_sem,e1],by simp +contextual (disch:=omega) only[go_sem,e9],by simp +contextual (disch:=omega) only[go_sem,e10],w',by simp +contextual (disch:=omega) only[go_sem],by rw[Su hi];rfl⟩
 ·rintro Yq hY env h U ei c0 H ⟨e1,e9,e10,u,e5,rfl⟩
  rw[Zaf] at H
  simp +contextual (disch:=omega) only[go_sem,c0,e10,ei]
  exact hY _ _ _ H ⟨by simp +contextual (disch:=omega) only[go_sem,e1],u,by simp +contextual (disch:=omega) only[go_sem,e5],rfl⟩
 ·rintro env h U H ⟨e1,u,e5,rfl⟩
  obtain⟨fp,ho,_⟩:=H.hp.see (i:=0) rfl
  simp +contextual (disch:=omega) only[go_sem,e1,e5]
  have hn:(Ci l).length=l.length:=by simp[Ci]
  have hj:=A9d (l:=Ci l) (sep:=sep) (Ss hI)
  refine by_r H (A60 U u (Ci l) fp ho sep (by omega) (by
   have:(Ci l).length*(21+sep.size)<=1099511627776*29:=Zay (by omega) (by omega)
   omega)) ?_
  simp +contextual (disch:=omega) only[go_sem]
  exact fun _=>rfl
def Lj:Fn1:=⟨12,[.t 2],(rg [o 2 (.mov (.k (.int .u8 0)))] (.seq (rg [oM 3 0,oE 4 .lss 3 10] (oG 4 (rg [oM 5 0,o 6 (.bin .add (ki 48) (.t 5)),o 7 (.cvi .u8 (.t 6)),oM 2 7] .ret))) (rg [oM 8 0,o 9 (.bin .add (ki 97) (.t 8)),oE 10 .sub 9 10,o 11 (.cvi .u8 (.t 10)),oM 2 11] .ret)))⟩
theorem To:A5 Tryz.prog 237=some Lj:=by kernel_rfl
def Jr:Fn1:=⟨30,[.t 2],(rg [o 2 (.mov (.k s0))] (.seq (rg [oM 6 0,oE 7 .eql 6 0] (oG 7 (rg [o 2 (.mov (.k (.str ⟨#[48]⟩)))] .ret))) (rg [oM 8 0,oE 9 .lss 8 0,oM 3 9] (rg [o 4 (.mov (.k s0))] (.seq (oH 0 (.seq (rg [oM 10 0,oE 11 .neq 10 0] (oJ 11 0)) (.blk 1 (rg [oM 12 0,oE 13 .rem 12 10,oM 5 13] (.seq (rg [oM 14 5,oE 15 .lss 14 0] (oG 15 (.reg [oM 16 5,o 17 (.un .neg (.t 16)),oM 5 17]))) (rg [oM 18 5,oC 19 237 18,o 20 (.lit 1 1 [(.int .u8 0)] [(0,1,(.t 19))]),o 21 (.bts (.t 20)),oM 22 4,oB 23 .add 21 22,oM 4 23] (.reg [oM 24 0,oE 25 .quo 24 10,oM 0 25]))))))) (.seq (rg [oM 26 3] (oG 26 (rg [oM 27 4,o 28 (.bin .add (.k (.str ⟨#[45]⟩)) (.t 27)),oM 2 28] .ret))) (rg [oM 29 4,oM 2 29] .ret)))))))⟩
theorem A3e:A5 Tryz.prog 159=some Jr:=by kernel_rfl
def Sz:Fn1:=⟨33,[.t 4],(rg [o 4 (.mov (.k s0))] (rg [o 5 (.mov (.k s0))] (.seq (rg [oV 6 (ki 0)] (oH 0 (.seq (rg [oM 7 6,oM 8 0,oN 9 8,oB 10 .lss 7 9] (oJ 10 0)) (.seq (.blk 1 (.seq (rg [oM 13 6,oE 14 .gtr 13 0] (oG 14 (.reg [oM 15 5,oM 16 1,oB 17 .add 15 16,oM 5 17]))) (rg [oM 18 0,oM 19 6,oI 20 1 18 19,oL 21 20,oE 22 .gtr 21 0] (cn 22 (.reg [oM 23 5,oM 24 0,oM 25 6,oI 26 1 24 25,oL 27 26,oC 28 159 27,oB 29 .add 23 28,oM 5 29]) (.reg [oM 30 5,o 31 (.bin .add (.t 30) (.k (.str ⟨#[48]⟩))),oM 5 31]))))) (.reg [oM 11 6,oZ 12 11 1,oM 6 12]))))) (rg [oM 32 5,oM 4 32] .ret))))⟩
theorem A3f:A5 Tryz.prog 130=some Sz:=by kernel_rfl
def Ow:Fn1:=⟨22,[.t 2],(rg [o 2 (.mov (.k s0))] (rg [o 3 (.mov (.k s0))] (.seq (rg [oV 4 (ki 0)] (oH 0 (.seq (rg [oM 5 4,oM 6 0,oN 7 6,oB 8 .lss 5 7] (oJ 8 0)) (.seq (.blk 1 (.seq (rg [oM 11 4,oE 12 .gtr 11 0] (oG 12 (.reg [oM 13 3,o 14 (.bin .add (.t 13) (.k (.str ⟨#[44]⟩))),oM 3 14]))) (.reg [oM 15 3,oM 16 0,oM 17 4,oI 18 1 16 17,oL 19 18,oB 20 .add 15 19,oM 3 20]))) (.reg [oM 9 4,oZ 10 9 1,oM 4 10]))))) (rg [oM 21 3,oM 2 21] .ret))))⟩
theorem A0h:A5 Tryz.prog 132=some Ow:=by kernel_rfl
theorem T0 (N:St) (d:Nat) (hd:d<10):Ret Tryz.prog 237 [gi d] N (.int .u8 (48+d)) N:=by
 have c1:decide ((d:Int)<10)=true:=decide_eq_true (by omega)
 have hw:IntKind.u8.wrap (48+(d:Int))=48+(d:Int):=wrap8 (by omega) (by omega)
 refine O8 To (Z0z rfl) trivial ?_
 simp +contextual (disch:=omega) only[go_sem,Lj,c1,hw]
def ddL (k:Nat):List UInt8:=if k=0 then[] else Lib.decDigits k
theorem Aae {k:Nat} (h:k≠0):ddL k=ddL (k / 10)++[UInt8.ofNat (48+k % 10)]:=by
 unfold ddL
 rw[if_neg h,Lib.decDigits]
 by_cases h1:k<10
 ·rw[dif_pos h1,if_pos (by omega),Nat.mod_eq_of_lt h1];rfl
 ·rw[dif_neg h1,if_neg (by omega)]
theorem A6e {Y:Type} {x y:Y}:(if (10:Int)=0 then x else y)=y:=by rw[if_neg (by omega)]
theorem tmod10 (k:Nat):(k:Int).tmod 10=((k % 10:Nat):Int):=by rw[Int.tmod_eq_emod_of_nonneg (by omega)];omega
theorem tdiv10 (k:Nat):(k:Int).tdiv 10=((k / 10:Nat):Int):=by rw[Int.tdiv_eq_ediv_of_nonneg (by omega)];omega
theorem A5h (u:Nat):(itB u).data.toList=Lib.decDigits u:=by simp[itB,Lib.itoa_nonneg]
theorem A0i:itB 0=⟨#[48]⟩:=Ij (by have:=A5h 0;rw[Zaz] at this;rw[this,Lib.decDigits_one (by omega)];rfl)
theorem Acp (d:Nat):(txt [48+(d:Int)]).data.toList=[UInt8.ofNat (48+d)]:=by
 have:(48+(d:Int)).toNat=48+d:=by omega
 simp[txt,this]
theorem Lk (N:St) (u:Nat) (h1:u<=9223372036854775807):Ret Tryz.prog 159 [gi u] N (.str (itB u)) N:=by
 refine O8 A3e (Z0z rfl) trivial ?_
 by_cases h0:u=0
 ·subst h0
  simp +contextual (disch:=omega) only[go_sem,Jr,Zaz,beq_self_eq_true]
  exact fun _=>A0i.symm
 have c0:((u:Int)==0)=false:=by simpa using h0
 have c1:decide ((u:Int)<0)=false:=decide_eq_false (by omega)
 have hd:(Lib.decDigits u).length<=21:=by
  have:=A0e (n:=u) (by omega) (by omega)
  rw[<- Eo,A5h] at this;exact this
 simp +contextual (disch:=omega) only[go_sem,Jr,c0,c1]
 refine Aaw u 0 (fun k env h=>k<=u/\env 0=gi k/\env 3= .bool false/\(∃ t,env 4= .str t/\ddL k++t.data.toList=Lib.decDigits u)/\h=[]) (fun env h=>env 3= .bool false/\env 4= .str (itB u)) (fun env h=>False) _ (Hx.refl N) ⟨Nat.le_refl _,by simp +contextual (disch:=omega) only[go_sem],by simp +contextual (disch:=omega) only[go_sem],⟨⟨#[]⟩,by simp +contextual (disch:=omega) only[go_sem],by simp[ddL,h0]⟩,rfl⟩ ?_ ?_ (fun _ _ _ _ h=>h.elim)
 ·rintro J Yq Wq hJ hY hW k env h U H ⟨hk,e0,e3,⟨t,e4,ht⟩,rfl⟩
  have hts:t.size<=21:=by
   rw[<- Eo]
   have:=congrArg Za5 ht
   rw[Zap] at this;omega
  by_cases hz:k=0
  ·subst hz
   simp +contextual (disch:=omega) only[go_sem,e0,Zaz,bne_self_eq_false]
   refine hY _ _ _ H ⟨by simp +contextual (disch:=omega) only[go_sem,e3],?_⟩
   simp +contextual (disch:=omega) only[go_sem,e4]
   refine Ij ?_
   rw[A5h,<-ht];rfl
  ·have b1:((k:Int) != 0)=true:=by simpa using hz
   have b2:decide (((k % 10:Nat):Int)<0)=false:=decide_eq_false (by omega)
   simp +contextual (disch:=omega) only[go_sem,e0,b1,A6e,tmod10,b2]
   refine by_r H (T0 U (k % 10) (by omega)) ?_
   simp +contextual (disch:=omega) only[go_sem]
   intro n f U2 H2
   have hu:=u8_at (A5z (p:=pB) (x:=48+((k % 10:Nat):Int)) (H2.hp.pt 0 rfl))
   have hsz:(txt [48+((k % 10:Nat):Int)]).size+t.size<=9223372036854775807:=by rw[Z3];simp;omega
   simp +contextual (disch:=omega) only[go_sem,hu,e4,e0,hsz,A6e,tdiv10]
   refine⟨k / 10,by omega,hJ _ _ _ _ (H2.re [] (by decide)) ⟨by omega,by simp +contextual (disch:=omega) only[go_sem],by simp +contextual (disch:=omega) only[go_sem,e3],⟨txt [48+((k % 10:Nat):Int)]++t,by simp +contextual (disch:=omega) only[go_sem],?_⟩,rfl⟩⟩
   rw[Pf,Acp,<-List.append_assoc,<-Aae hz];exact ht
 ·rintro env h U H ⟨e3,e4⟩
  simp +contextual (disch:=omega) only[go_sem,e3,e4]
theorem T1 (b:ByteArray):(⟨#[]⟩:ByteArray)++b=b:=Ij (by rw[Pf];rfl)
theorem A6f (l:List ByteArray) (x sep:ByteArray):joB (l++[x]) sep=if l=[] then x else joB l sep++sep++x:=by
 split
 ·rename_i h;subst h;exact Aco x sep
 ·rename_i h;exact Aad h x sep
theorem Acq {l:List Int} {i:Nat} (hi:i<l.length) (h:0<i):Ci (l.take i)≠[]:=fun e=>by
 have:=congrArg Za5 e
 rw[Ci,Zae,Zaj,Zas] at this
 omega
theorem Hj (N:St) (v:GV) (l:List Int) (hR:RS pI.kd N v l) (sep:ByteArray) (hs:sep.size<=8) (hI:∀ x∈l,x≤9223372036854775807) (hl:l.length<=1099511627776):Ret Tryz.prog 130 [v,.str sep] N (.str (tolB l sep)) N:=by
 refine O8 A3f (Z0z rfl) trivial ?_
 simp +contextual (disch:=omega) only[go_sem,Sz]
 refine A20 l.length 6 0 (fun i env h=>env 0=v/\env 1= .str sep/\env 5= .str (joB (Ci (l.take i)) sep)/\h=[]) (fun env h=>env 5= .str (tolB l sep)) (fun env h=>False) _ (Hx.refl N) (by simp +contextual (disch:=omega) only[go_sem]) ⟨by simp +contextual (disch:=omega) only[go_sem],by simp +contextual (disch:=omega) only[go_sem],by simp +contextual (disch:=omega) only[go_sem];rfl,rfl⟩ ?_ ?_ ?_ (fun _ _ _ _ h=>h.elim)
 ·rintro J Yq Wq hJ hY hW i env h U hi ei c0 H ⟨e0,e1,e5,rfl⟩
  have L1:=Fm hR hi
  have hx:=hI _ (Zak hi)
  have hT:(joB (Ci (l.take i)) sep).size<=i*(21+sep.size):=by
   have:=A0f (sep:=sep) (Ss (l:=l.take i) fun x hx=>hI x (Zaw hx))
   have e:(Ci (l.take i)).length=i:=by simp[Ci,Zaj];omega
   rw[e] at this;exact this
  have hT2:i*(21+sep.size)<=1099511627776*29:=Zay (by omega) (by omega)
  have hn:=A6f (Ci (l.take i)) (itB (mx0 l[i])) sep
  rw[<- Su hi] at hn
  have hz:i=0->joB (Ci (l.take i)) sep=⟨#[]⟩:=fun e=>by subst e;rfl
  have hm:=A0e (A9b l[i]) (A9c hx (by omega))
  generalize joB (Ci (l.take i)) sep=T at*
  rcases Za1 i with h0|h0
  ·have hT0:=hz h0
   subst hT0
   have hn':joB (Ci (l.take (i+1))) sep=itB (mx0 l[i]):=by rw[hn,if_pos (by rw[h0];rfl)]
   have i0:decide ((0:Int)<i)=false:=decide_eq_false (by omega)
   cases c2:decide (0<l[i]) with
   |true=>
    have hp:=of_decide_eq_true c2
    obtain⟨u,hu⟩:∃ u:Nat,l[i]=u:=⟨l[i].toNat,by omega⟩
    have hmu:mx0 l[i]=u:=by unfold mx0;rw[if_neg (by omega)];exact hu
    rw[hmu] at hm hn'
    rw[hu] at c2
    have b3:(#[]:Array UInt8).size+(itB u).size<=9223372036854775807:=by
     have:(#[]:Array UInt8).size=0:=rfl
     omega
    simp +contextual (disch:=omega) only[go_sem,c0,e0,e1,e5,ei,hR.len,A2,L1,i0,hu,c2]
    refine by_r H (Lk U u (by omega)) ?_
    simp +contextual (disch:=omega) only[go_sem,e0,e1,e5,ei,b3]
    exact hJ _ _ _ _ H ⟨by simp +contextual (disch:=omega) only[go_sem,e0],by simp +contextual (disch:=omega) only[go_sem,e1],by rw[hn'];simp +contextual (disch:=omega) only[go_sem,T1],rfl⟩
   |false=>
    have hp:=of_decide_eq_false c2
    have hmu:mx0 l[i]=0:=by unfold mx0;split<;>omega
    rw[hmu,A0i] at hn'
    have b3:(#[]:Array UInt8).size+(#[48]:Array UInt8).size<=9223372036854775807:=by decide
    simp +contextual (disch:=omega) only[go_sem,c0,e0,e1,e5,ei,hR.len,A2,L1,i0,c2,b3]
    exact hJ _ _ _ _ H ⟨by simp +contextual (disch:=omega) only[go_sem,e0],by simp +contextual (disch:=omega) only[go_sem,e1],by rw[hn'];simp +contextual (disch:=omega) only[go_sem,T1],rfl⟩
  ·have hn':joB (Ci (l.take (i+1))) sep=T++sep++itB (mx0 l[i]):=by rw[hn,if_neg (Acq hi h0)]
   have i0:decide ((0:Int)<i)=true:=decide_eq_true (by omega)
   have b1:T.size+sep.size<=9223372036854775807:=by omega
   cases c2:decide (0<l[i]) with
   |true=>
    have hp:=of_decide_eq_true c2
    obtain⟨u,hu⟩:∃ u:Nat,l[i]=u:=⟨l[i].toNat,by omega⟩
    have hmu:mx0 l[i]=u:=by unfold mx0;rw[if_neg (by omega)];exact hu
    rw[hmu] at hm hn'
    rw[hu] at c2
    have b3:T.size+sep.size+(itB u).size<=9223372036854775807:=by omega
    simp +contextual (disch:=omega) only[go_sem,c0,e0,e1,e5,ei,hR.len,A2,L1,i0,b1,hu,c2]
    refine by_r H (Lk U u (by omega)) ?_
    simp +contextual (disch:=omega) only[go_sem,e0,e1,e5,ei,ByteArray.size_append,b3]
    exact hJ _ _ _ _ H ⟨by simp +contextual (disch:=omega) only[go_sem,e0],by simp +contextual (disch:=omega) only[go_sem,e1],by rw[hn'];simp +contextual (disch:=omega) only[go_sem],rfl⟩
   |false=>
    have hp:=of_decide_eq_false c2
    have hmu:mx0 l[i]=0:=by unfold mx0;split<;>omega
    rw[hmu,A0i] at hn'
    have b4:(#[48]:Array UInt8).size=1:=rfl
    have b3:T.size+sep.size+(#[48]:Array UInt8).size<=9223372036854775807:=by omega
    simp +contextual (disch:=omega) only[go_sem,c0,e0,e1,e5,ei,hR.len,A2,L1,i0,b1,c2,ByteArray.size_append,b3]
    exact hJ _ _ _ _ H ⟨by simp +contextual (disch:=omega) only[go_sem,e0],by simp +contextual (disch:=omega) only[go_sem,e1],by rw[hn'];simp +contextual (disch:=omega) only[go_sem],rfl⟩
 ·rintro Yq hY env h U ei c0 H ⟨e0,e1,e5,rfl⟩
  rw[Zaf] at e5
  simp +contextual (disch:=omega) only[go_sem,c0,e0,ei,hR.len]
  exact hY _ _ _ H (by simp +contextual (disch:=omega) only[go_sem,e5];rfl)
 ·rintro env h U H e5
  simp +contextual (disch:=omega) only[go_sem,e5]
theorem Tp (N:St) (v:GV) (l:List ByteArray) (hR:RS pS.kd N v l) (b:Nat) (hb:∀ x∈l,x.size<=b) (hj:l.length*(b+1)<=140737488355328) (hl:l.length<=1099511627776):Ret Tryz.prog 132 [v] N (.str (joB l ⟨#[44]⟩)) N:=by
 refine O8 A0h (Z0z rfl) trivial ?_
 simp +contextual (disch:=omega) only[go_sem,Ow]
 refine A20 l.length 4 0 (fun i env h=>env 0=v/\env 3= .str (joB (l.take i) ⟨#[44]⟩)/\h=[]) (fun env h=>env 3= .str (joB l ⟨#[44]⟩)) (fun env h=>False) _ (Hx.refl N) (by simp +contextual (disch:=omega) only[go_sem]) ⟨by simp +contextual (disch:=omega) only[go_sem],by simp +contextual (disch:=omega) only[go_sem];rfl,rfl⟩ ?_ ?_ ?_ (fun _ _ _ _ h=>h.elim)
 ·rintro J Yq Wq hJ hY hW i env h U hi ei c0 H ⟨e0,e3,rfl⟩
  have L1:=A8k hR hi
  have hx:=hb _ (Zak hi)
  have hT:(joB (l.take i) ⟨#[44]⟩).size<=i*(b+1):=by
   have:=A0f (sep:=⟨#[44]⟩) (l:=l.take i) fun x hx=>hb x (Zaw hx)
   have e:(l.take i).length=i:=by rw[Zaj];omega
   rw[e] at this;exact this
  have hT2:i*(b+1)+(b+1)<=l.length*(b+1):=by rw[<- Nat.succ_mul];exact Zax _ hi
  have hn:=A6f (l.take i) l[i] ⟨#[44]⟩
  rw[<- B7 hi] at hn
  have hz:i=0->joB (l.take i) ⟨#[44]⟩=⟨#[]⟩:=fun e=>by subst e;rfl
  generalize joB (l.take i) ⟨#[44]⟩=T at*
  rcases Za1 i with h0|h0
  ·have hT0:=hz h0
   subst hT0
   have hn':joB (l.take (i+1)) ⟨#[44]⟩=l[i]:=by rw[hn,if_pos (by rw[h0];rfl)]
   have i0:decide ((0:Int)<i)=false:=decide_eq_false (by omega)
   have b3:(#[]:Array UInt8).size+l[i].size<=9223372036854775807:=by
    have:(#[]:Array UInt8).size=0:=rfl
    omega
   simp +contextual (disch:=omega) only[go_sem,c0,e0,e3,ei,hR.len,A2,L1,i0,b3]
   exact hJ _ _ _ _ H ⟨by simp +contextual (disch:=omega) only[go_sem,e0],by rw[hn'];simp +contextual (disch:=omega) only[go_sem,T1],rfl⟩
  ·have hne:l.take i≠[]:=fun e=>by
    have:=congrArg Za5 e
    rw[Zaj,Zas] at this
    omega
   have hn':joB (l.take (i+1)) ⟨#[44]⟩=T++⟨#[44]⟩++l[i]:=by rw[hn,if_neg hne]
   have i0:decide ((0:Int)<i)=true:=decide_eq_true (by omega)
   have b4:(#[44]:Array UInt8).size=1:=rfl
   have b1:T.size+(#[44]:Array UInt8).size<=9223372036854775807:=by omega
   have b3:T.size+(#[44]:Array UInt8).size+l[i].size<=9223372036854775807:=by omega
   simp +contextual (disch:=omega) only[go_sem,c0,e0,e3,ei,hR.len,A2,L1,i0,b1,ByteArray.size_append,b3]
   exact hJ _ _ _ _ H ⟨by simp +contextual (disch:=omega) only[go_sem,e0],by rw[hn'];simp +contextual (disch:=omega) only[go_sem],rfl⟩
 ·rintro Yq hY env h U ei c0 H ⟨e0,e3,rfl⟩
  rw[Zaf] at e3
  simp +contextual (disch:=omega) only[go_sem,c0,e0,ei,hR.len]
  exact hY _ _ _ H (by simp +contextual (disch:=omega) only[go_sem,e3])
 ·rintro env h U H e5
  simp +contextual (disch:=omega) only[go_sem,e5]
def stI (s:State):Prop:=(∀ x∈s.lives,x.val<=9223372036854775807)/\∀ x∈s.cells,x.val<=9223372036854775807
theorem A9e {s:State} (h:stI s) (o k:ByteArray):∀ x∈S2 s o k,x≤9223372036854775807:=fun x hx=>by
 unfold S2 at hx
 obtain⟨y,hy,rfl⟩:=Zat.1 ((Bm _ _).mem_iff.1 hx)
 exact h.1 y (Zau.1 hy).1
theorem A9f {s:State} (h:stI s) (o:ByteArray):∀ x∈M9 s o,x≤9223372036854775807:=fun x hx=>by
 obtain⟨c,hc,rfl⟩:=Zat.1 hx
 obtain⟨T,_,h2,_,h4⟩:=rowT s o
 rw[h2] at hc
 obtain⟨k,hk,_,e⟩:=h4 c (Zau.1 hc).1
 exact h.2 c (e ▸ Zak hk)
theorem A3g (s:State) (o:ByteArray):∀ x∈[E7 s o],x≤9223372036854775807:=fun x hx=>by
 have:=S3 (l:=s.tallies) (o:=o) (n:=0) (by decide)
 rw[List.mem_singleton] at hx
 subst hx
 unfold E7;omega
theorem A6g {s:State} {n:Nat} (h:Aa s<=n) (m:Bool) (o:ByteArray):∀ x∈Fh s m o,x.size<=n:=fun x hx=>by
 have:=((Rw (lt:=txLt) (fun x y z=>Iv) Zy _).2 x).1 hx
 obtain⟨l,hl,rfl⟩:=Zat.1 this
 have h6:l.obj.size+l.key.size<=sumL C5 s.lives:=Ee (f:=C5) (Zau.1 hl).1
 unfold Aa at h;omega
theorem A9g {l:List ByteArray} {sep:ByteArray} {b n m:Nat} (h:∀ x∈l,x.size<=b) (hl:l.length<=n) (hm:n*(b+sep.size)<=m):(joB l sep).size<=m:=Za3 (A0f h) (Za3 (Zax _ hl) hm)
theorem Aaf {s:State} (hl:Aa s<=1048576) (m:Bool) (o:ByteArray):(joB (Fh s m o) ⟨#[44]⟩).size<=1099512676352:=A9g (A6g hl m o) (Za3 (Sp s m o) hl) (by decide)
def T3:Fn1:=⟨22,[.t 2],(rg [oX 1 0,oV 2 kf] (.seq (rg [oF 3 0 1,oL 4 3,o 5 (.call 128 [(.t 4),(ki 1),(ki 4)]),oU 6 5,oM 7 6,vF 8 7 1 1,vL 9 7 8,vC 10 7 129 9,vU 11 7 10,oP 12 7 11] (oG 12 (oR 2 kf))) (.seq (rg [oF 13 0 1,oL 14 13,oE 15 .eql 14 3] (oG 15 (rg [oF 16 2 1,oL 17 16,oC 18 129 17,oM 2 18] .ret))) (rg [oF 19 2 1,oL 20 19,o 21 (.bin .eql (.t 20) (.k s0)),oM 2 21] .ret))))⟩
theorem A3h:A5 Tryz.prog 46=some T3:=by kernel_rfl
def Js:Fn1:=⟨24,[.t 2],(rg [oX 1 0,oV 2 kf] (rg [oF 4 2 1,oL 5 4,o 6 (.bin .eql (.t 5) (.k s0)),oM 3 6] (.seq (rg [oF 7 0 1,oL 8 7,oE 9 .eql 8 3] (oG 9 (.reg [oF 10 2 1,oL 11 10,oC 12 108 11,oM 3 12]))) (rg [oF 13 0 1,oL 14 13,o 15 (.call 109 [(.t 14),(ki 1),(ki 4)]),oM 16 15,jF 17 16 1 1,jL 18 16 17,jC 19 16 108 18,oQ 20 16 19,oM 21 20,jM 22 21 3,oQ 23 21 22,oM 2 23] .ret))))⟩
theorem A3i:A5 Tryz.prog 33=some Js:=by kernel_rfl
def F7 (w:Watch):Bool:=if w.kind==3 then Db w.key else decide (w.key=⟨#[]⟩)
def Cv (w:Watch):Bool:=inB w.kind 1 4&&(Db w.obj&&F7 w)
theorem A0j (N:St) (w:Watch) (ho:w.obj.size<=1099511627776) (hk:w.key.size<=1099511627776):Ret Tryz.prog 46 [.agg [gi w.kind,.str w.obj,.str w.key]] N (.bool (Cv w)) N:=by
 refine Af A3h (Z0z rfl) trivial ?_
 simp +contextual (disch:=omega) only[go_sem,T3]
 refine Ae (Bl _ _ _ _) (fun h1=> ?_) (fun h1=> ?_)
 ·simp +contextual (disch:=omega) only[go_sem]
  refine Ae (Dc _ w.obj ho) (fun h2=> ?_) (fun h2=> ?_)
  ·cases h3:(w.kind==3) with
   |true=>
    simp +contextual (disch:=omega) only[go_sem,h3]
    refine A7 (Dc _ w.key hk) ?_
    simp +contextual (disch:=omega) only[go_sem,Cv,F7,h1,h2,h3]
   |false=>simp +contextual (disch:=omega) only[go_sem,h3,Cv,F7,h1,h2]
  ·simp +contextual (disch:=omega) only[go_sem,Cv,h1,h2]
 ·simp +contextual (disch:=omega) only[go_sem,Cv,h1]
theorem A0k (N:St) (w:Watch) (ho:w.obj.size<=1099511627776) (hk:w.key.size<=1099511627776):Ret Tryz.prog 33 [.agg [gi w.kind,.str w.obj,.str w.key]] N (.bool (Cv w)) N:=by
 refine Af A3i (Z0z rfl) trivial ?_
 cases h3:(w.kind==3) with
 |true=>
  simp +contextual (disch:=omega) only[go_sem,Js,h3]
  refine Ae (Bs _ w.key hk) (fun h4=> ?_) (fun h4=> ?_)
  ·simp +contextual (disch:=omega) only[go_sem]
   refine Ae (Ar _ _ _ _) (fun h1=> ?_) (fun h1=> ?_)
   ·simp +contextual (disch:=omega) only[go_sem]
    refine Ae (Bs _ w.obj ho) (fun h2=> ?_) (fun h2=> ?_)
    ·simp +contextual (disch:=omega) only[go_sem,Cv,F7,h1,h2,h3,h4]
    ·simp +contextual (disch:=omega) only[go_sem,Cv,F7,h1,h2,h3,h4]
   ·simp +contextual (disch:=omega) only[go_sem,Cv,h1]
  ·simp +contextual (disch:=omega) only[go_sem]
   refine Ae (Ar _ _ _ _) (fun h1=> ?_) (fun h1=> ?_)
   ·simp +contextual (disch:=omega) only[go_sem]
    refine Ae (Bs _ w.obj ho) (fun h2=> ?_) (fun h2=> ?_)
    ·simp +contextual (disch:=omega) only[go_sem,Cv,F7,h1,h2,h3,h4]
    ·simp +contextual (disch:=omega) only[go_sem,Cv,F7,h1,h2,h3,h4]
   ·simp +contextual (disch:=omega) only[go_sem,Cv,h1]
 |false=>
  simp +contextual (disch:=omega) only[go_sem,Js,h3]
  refine Ae (Ar _ _ _ _) (fun h1=> ?_) (fun h1=> ?_)
  ·simp +contextual (disch:=omega) only[go_sem]
   refine Ae (Bs _ w.obj ho) (fun h2=> ?_) (fun h2=> ?_)
   ·simp +contextual (disch:=omega) only[go_sem,Cv,F7,h1,h2,h3]
   ·simp +contextual (disch:=omega) only[go_sem,Cv,F7,h1,h2,h3]
  ·simp +contextual (disch:=omega) only[go_sem,Cv,h1]
def Lm:Fn1:=⟨39,[.t 4],(rg [oX 2 0,oX 3 1,o 4 (.mov (.k s0))] (.seq (rg [oW 5 3 3,oC 6 33 5,oU 7 6] (oG 7 (rg [o 4 (.mov (.k s0))] .ret))) (.seq (rg [oF 8 0 3,oL 9 8] (.blk 0 (rg [oE 11 .eql 9 1,oM 10 11] (cn 10 (rg [oW 12 4 2,oF 13 1 3,oL 14 13,oD 15 103 12 14,o 16 (.lit 1 1 [z0] [(0,1,(.t 15))]),o 17 (.call 102 [(.t 16),(.k s0)]),oM 4 17] .ret) (rg [oE 19 .eql 9 2,oM 18 19] (cn 18 (rg [oW 20 4 2,oF 21 1 3,oL 22 21,oD 23 105 20 22,o 24 (.call 104 [(.t 23),(.k (.str ⟨#[44]⟩))]),oM 4 24] .ret) (rg [oE 26 .eql 9 3,oM 25 26] (oG 25 (rg [oW 27 4 2,oF 28 1 3,oL 29 28,oF 30 2 3,oL 31 30,o 32 (.call 106 (oT [27,29,31])),o 33 (.call 102 [(.t 32),(.k (.str ⟨#[124]⟩))]),oM 4 33] .ret))))))))) (rg [oW 34 4 2,oF 35 1 3,oL 36 35,oD 37 107 34 36,o 38 (.call 102 [(.t 37),(.k (.str ⟨#[44]⟩))]),oM 4 38] .ret))))⟩
theorem Tq:A5 Tryz.prog 32=some Lm:=by kernel_rfl
def Lo:Fn1:=⟨39,[.t 4],(rg [oX 2 0,oX 3 1,o 4 (.mov (.k s0))] (.seq (rg [oW 5 3 3,oC 6 46 5,oU 7 6] (oG 7 (rg [o 4 (.mov (.k s0))] .ret))) (.seq (rg [oF 8 0 3,oL 9 8] (.blk 0 (rg [oE 11 .eql 9 1,oM 10 11] (cn 10 (rg [oW 12 4 2,oF 13 1 3,oL 14 13,oD 15 131 12 14,o 16 (.lit 1 1 [z0] [(0,1,(.t 15))]),o 17 (.call 130 [(.t 16),(.k s0)]),oM 4 17] .ret) (rg [oE 19 .eql 9 2,oM 18 19] (cn 18 (rg [oW 20 4 2,oF 21 1 3,oL 22 21,oD 23 116 20 22,oC 24 132 23,oM 4 24] .ret) (rg [oE 26 .eql 9 3,oM 25 26] (oG 25 (rg [oW 27 4 2,oF 28 1 3,oL 29 28,oF 30 2 3,oL 31 30,o 32 (.call 50 (oT [27,29,31])),o 33 (.call 130 [(.t 32),(.k (.str ⟨#[124]⟩))]),oM 4 33] .ret))))))))) (rg [oW 34 4 2,oF 35 1 3,oL 36 35,oD 37 133 34 36,o 38 (.call 130 [(.t 37),(.k (.str ⟨#[44]⟩))]),oM 4 38] .ret))))⟩
theorem Tr:A5 Tryz.prog 47=some Lo:=by kernel_rfl
def Ep (s:State) (w:Watch):ByteArray:=if Cv w then(if w.kind=1 then tolB [E7 s w.obj] ⟨#[]⟩ else if w.kind=2 then joB (Fh s false w.obj) ⟨#[44]⟩ else if w.kind=3 then tolB (S2 s w.obj w.key) ⟨#[124]⟩ else tolB (M9 s w.obj) ⟨#[44]⟩) else⟨#[]⟩
theorem Ik (N:St) (cs:List GV) (s:State) (hR:A9.R N s cs) (w:Watch) (hl:Aa s<=1048576) (hw:Bb w<=1099511627776) (hI:stI s):Ret Tryz.prog 32 [.agg cs,.agg [gi w.kind,.str w.obj,.str w.key]] N (.str (Ep s w)) N:=by
 have gl:cs.length=4:=A9.len hR
 unfold Bb at hw
 have hl':Aa s<=1099511627776:=by omega
 have hk1:=Sp s false w.obj
 refine O8 Tq (Z0z rfl) trivial ?_
 simp +contextual (disch:=omega) only[go_sem,Lm]
 intro n f U _ n2 f2 U H
 refine by_b H (A0k U w (by omega) (by omega)) (fun hok=> ?_) (fun hok=> ?_)
 rotate_left
 ·simp +contextual (disch:=omega) only[go_sem]
  simp[Ep,hok]
 by_cases k1:w.kind=1
 ·have c1:(w.kind==1)=true:=by simpa using k1
  have hE:Ep s w=tolB [E7 s w.obj] ⟨#[]⟩:=by simp[Ep,hok,k1]
  simp +contextual (disch:=omega) only[go_sem,c1,Ah gl,gl]
  refine by_r H (A0c U cs s (A9.pre hR H.sub) w.obj hl') ?_
  simp +contextual (disch:=omega) only[go_sem]
  intro n7 f7 U7 H7
  refine by_r H7 (Me U7 _ [E7 s w.obj] (A5z (p:=pI) (H7.hp.pt 0 rfl)) ⟨#[]⟩ (by decide) (A3g s w.obj) (by simp)) ?_
  simp +contextual (disch:=omega) only[go_sem,hE]
 have b1:(w.kind==1)=false:=by simpa using k1
 by_cases k2:w.kind=2
 ·have c2:(w.kind==2)=true:=by simpa using k2
  have hE:Ep s w=joB (Fh s false w.obj) ⟨#[44]⟩:=by simp[Ep,hok,k2]
  simp +contextual (disch:=omega) only[go_sem,b1,c2,Ah gl,gl]
  obtain⟨r8,U8,R8,K8⟩:=A5c U cs s (A9.pre hR H.sub) w.obj hl'
  refine by_c H R8 K8 fun H8=> ?_
  simp +contextual (disch:=omega) only[go_sem]
  obtain⟨fp8,ho8,_⟩:=H8.hp.see (i:=0) rfl
  have z2:=Aaf hl false w.obj
  refine by_r H8 (A60 U8 r8 _ fp8 ho8 ⟨#[44]⟩ (by omega) (by rw[<- Lh,Eo];omega)) ?_
  simp +contextual (disch:=omega) only[go_sem,hE]
 have b2:(w.kind==2)=false:=by simpa using k2
 by_cases k3:w.kind=3
 ·have c3:(w.kind==3)=true:=by simpa using k3
  have hE:Ep s w=tolB (S2 s w.obj w.key) ⟨#[124]⟩:=by simp[Ep,hok,k3]
  simp +contextual (disch:=omega) only[go_sem,b1,b2,c3,Ah gl,gl]
  obtain⟨m,U4,R4,K4⟩:=A5e U cs s (A9.pre hR H.sub) w.obj w.key hl'
  refine by_c H R4 K4 fun H4=> ?_
  simp +contextual (disch:=omega) only[go_sem]
  refine by_r H4 (Me U4 m _ (H4.hp.sl 0 rfl) ⟨#[124]⟩ (by decide) (A9e hI _ _) (by have:=A6a s w.obj w.key;omega)) ?_
  simp +contextual (disch:=omega) only[go_sem,hE]
 have b3:(w.kind==3)=false:=by simpa using k3
 have hE:Ep s w=tolB (M9 s w.obj) ⟨#[44]⟩:=by simp[Ep,hok,k1,k2,k3]
 simp +contextual (disch:=omega) only[go_sem,b1,b2,b3,Ah gl,gl]
 obtain⟨r10,U10,R10,K10⟩:=A5f U cs s (A9.pre hR H.sub) w.obj hl'
 refine by_c H R10 K10 fun H10=> ?_
 simp +contextual (disch:=omega) only[go_sem]
 refine by_r H10 (Me U10 r10 _ (H10.hp.sl 0 rfl) ⟨#[44]⟩ (by decide) (A9f hI _) (by have:=A6b s w.obj;omega)) ?_
 simp +contextual (disch:=omega) only[go_sem,hE]
theorem Il (N:St) (cs:List GV) (s:State) (hR:A9.R N s cs) (w:Watch) (hl:Aa s<=1048576) (hw:Bb w<=1099511627776) (hI:stI s):Ret Tryz.prog 47 [.agg cs,.agg [gi w.kind,.str w.obj,.str w.key]] N (.str (Ep s w)) N:=by
 have gl:cs.length=4:=A9.len hR
 unfold Bb at hw
 have hl':Aa s<=1099511627776:=by omega
 have hk1:=Sp s false w.obj
 refine O8 Tr (Z0z rfl) trivial ?_
 simp +contextual (disch:=omega) only[go_sem,Lo]
 intro n f U _ n2 f2 U H
 refine by_b H (A0j U w (by omega) (by omega)) (fun hok=> ?_) (fun hok=> ?_)
 rotate_left
 ·simp +contextual (disch:=omega) only[go_sem]
  simp[Ep,hok]
 by_cases k1:w.kind=1
 ·have c1:(w.kind==1)=true:=by simpa using k1
  have hE:Ep s w=tolB [E7 s w.obj] ⟨#[]⟩:=by simp[Ep,hok,k1]
  simp +contextual (disch:=omega) only[go_sem,c1,Ah gl,gl]
  refine by_r H (A0b U cs s (A9.pre hR H.sub) w.obj hl') ?_
  simp +contextual (disch:=omega) only[go_sem]
  intro n7 f7 U7 H7
  refine by_r H7 (Hj U7 _ [E7 s w.obj] (A5z (p:=pI) (H7.hp.pt 0 rfl)) ⟨#[]⟩ (by decide) (A3g s w.obj) (by simp)) ?_
  simp +contextual (disch:=omega) only[go_sem,hE]
 have b1:(w.kind==1)=false:=by simpa using k1
 by_cases k2:w.kind=2
 ·have c2:(w.kind==2)=true:=by simpa using k2
  have hE:Ep s w=joB (Fh s false w.obj) ⟨#[44]⟩:=by simp[Ep,hok,k2]
  simp +contextual (disch:=omega) only[go_sem,b1,c2,Ah gl,gl]
  obtain⟨r8,U8,R8,K8⟩:=A5b U cs s (A9.pre hR H.sub) w.obj hl'
  refine by_c H R8 K8 fun H8=> ?_
  simp +contextual (disch:=omega) only[go_sem]
  refine by_r H8 (Tp U8 r8 _ (H8.hp.sl 0 rfl) 1048576 (A6g hl false w.obj) (by
   have:(Fh s false w.obj).length*(1048576+1)<=1048576*1048577:=Zay (by omega) (by omega)
   omega) (by omega)) ?_
  simp +contextual (disch:=omega) only[go_sem,hE]
 have b2:(w.kind==2)=false:=by simpa using k2
 by_cases k3:w.kind=3
 ·have c3:(w.kind==3)=true:=by simpa using k3
  have hE:Ep s w=tolB (S2 s w.obj w.key) ⟨#[124]⟩:=by simp[Ep,hok,k3]
  simp +contextual (disch:=omega) only[go_sem,b1,b2,c3,Ah gl,gl]
  obtain⟨m,U4,R4,K4⟩:=A5d U cs s (A9.pre hR H.sub) w.obj w.key hl'
  refine by_c H R4 K4 fun H4=> ?_
  simp +contextual (disch:=omega) only[go_sem]
  refine by_r H4 (Hj U4 m _ (H4.hp.sl 0 rfl) ⟨#[124]⟩ (by decide) (A9e hI _ _) (by have:=A6a s w.obj w.key;omega)) ?_
  simp +contextual (disch:=omega) only[go_sem,hE]
 have b3:(w.kind==3)=false:=by simpa using k3
 have hE:Ep s w=tolB (M9 s w.obj) ⟨#[44]⟩:=by simp[Ep,hok,k1,k2,k3]
 simp +contextual (disch:=omega) only[go_sem,b1,b2,b3,Ah gl,gl]
 obtain⟨r10,U10,R10,K10⟩:=A5g U cs s (A9.pre hR H.sub) w.obj hl'
 refine by_c H R10 K10 fun H10=> ?_
 simp +contextual (disch:=omega) only[go_sem]
 refine by_r H10 (Hj U10 r10 _ (H10.hp.sl 0 rfl) ⟨#[44]⟩ (by decide) (A9f hI _) (by have:=A6b s w.obj;omega)) ?_
 simp +contextual (disch:=omega) only[go_sem,hE]
def Xi:Fn1:=⟨31,[.t 6],(rg [oX 3 0,oX 4 1,o 6 (.mov (.k .nilS))] (rg [o 10 (.lit 1 0 [] []),oM 7 10] (.seq (rg [oM 11 2,oN 12 11,oV 13 (ki 0)] (oH 0 (rg [oB 14 .lss 13 12] (.seq (oJ 14 0) (.seq (.blk 1 (rg [oM 15 13,oI 16 3 11 13,oW 17 3 16,o 9 (.new [z0,s0,s0]),oM 8 15,oS 3 9 17] (dw [oW 18 4 3,oW 19 3 9,oD 20 32 18 19,oW 21 4 4,oW 22 3 9] [oD 23 32 21 22,oB 24 .neq 20 23] (oG 24 (.reg [oM 25 7,oM 26 8,o 27 (.lit 1 1 [z0] [(0,1,(.t 26))]),o 28 (.app 1 8 [z0] (.t 25) (.t 27)),oM 7 28]))))) (.reg [oZ 29 13 1,oM 13 29])))))) (rg [oM 30 7,oM 6 30] .ret))))⟩
theorem A5i:A5 Tryz.prog 19=some Xi:=by kernel_rfl
def Xk:Fn1:=⟨34,[.t 6],(rg [oX 3 0,oX 4 1,o 6 (.mov (.k .nilS))] (rg [o 9 (.lit 1 0 [] []),oM 7 9] (.seq (rg [oV 8 (ki 0)] (oH 0 (.seq (rg [oM 10 8,oM 11 2,oN 12 11,oB 13 .lss 10 12] (oJ 13 0)) (.seq (.blk 1 (dw [oW 16 4 3,oM 17 2,oM 18 8,oI 19 3 17 18,oW 20 3 19,oD 21 47 16 20,oW 22 4 4,oM 23 2,oM 24 8,oI 25 3 23 24,oW 26 3 25] [oD 27 47 22 26,oB 28 .neq 21 27] (oG 28 (.reg [oM 29 7,oM 30 8,o 31 (.lit 1 1 [z0] [(0,1,(.t 30))]),o 32 (.app 1 8 [z0] (.t 29) (.t 31)),oM 7 32])))) (.reg [oM 14 8,oZ 15 14 1,oM 8 15]))))) (rg [oM 33 7,oM 6 33] .ret))))⟩
theorem A5j:A5 Tryz.prog 16=some Xk:=by kernel_rfl
def Lp (a b:State) (w:Watch):Bool:= !decide (Ep a w=Ep b w)
def G0 (a b:State) (l:List Watch) (i:Nat):List Int:=((List.range i).filter fun j=>onI l j (Lp a b)).map fun j:Nat=>(j:Int)
theorem Eq (a b:State) (l:List Watch) (i:Nat):(G0 a b l i).length<=i:=by
 have:=Zag (fun j=>onI l j (Lp a b)) (List.range i)
 rw[G0,Zae]
 rw[List.length_range] at this;exact this
theorem A6h {a b:State} {l:List Watch} {i:Nat} (hi:i<l.length) (h:Lp a b l[i]=true):G0 a b l (i+1)=G0 a b l i++[(i:Int)]:=by
 have e:onI l i (Lp a b)=true:=by rw[Bx hi];exact h
 simp[G0,Za6,Za2,Za4,e]
theorem A6i {a b:State} {l:List Watch} {i:Nat} (hi:i<l.length) (h:Lp a b l[i]=false):G0 a b l (i+1)=G0 a b l i:=by
 have e:onI l i (Lp a b)=false:=by rw[Bx hi];exact h
 simp[G0,Za6,Za2,Za4,e]
theorem Ox (N:St) (cs:List GV) (a:State) (hR:A9.R N a cs) (ds:List GV) (b:State) (hS:A9.R N b ds) (v:GV) (l:List Watch) (hW:RS Dm.kd N v l) (hl:Aa a<=1048576) (hm:Aa b<=1048576) (hw:l.length+sumL Bb l<=1099511627776) (hI:stI a) (hJ':stI b):∃ r U,Ret Tryz.prog 19 [.agg cs,.agg ds,v] N r U/\Hp N U [ow pI.kd r (G0 a b l l.length)]:=by
 have gl:cs.length=4:=A9.len hR
 have gm:ds.length=4:=A9.len hS
 refine ret_x A5i (Z0z rfl) (Hx.refl N) ?_
 simp +contextual (disch:=omega) only[go_sem,Xi,hW.len]
 intro n f U _ n2 f2 U1 _ n3 f3 U2 H
 have H:=H.emp pI.kd rfl
 refine A20 l.length 13 0 (fun i env h=>env 3= .ptr n 0/\env 4= .ptr n2 0/\env 11=v/\env 12=gi l.length/\∃ u,env 7=u/\h=[.th (ow pI.kd u (G0 a b l i)),.box 1 n2 ds,.box 1 n cs]) (fun env h=>∃ u,env 7=u/\h=[.th (ow pI.kd u (G0 a b l l.length)),.box 1 n2 ds,.box 1 n cs]) (fun env h=>False) _ H (by simp +contextual (disch:=omega) only[go_sem]) ⟨by simp +contextual (disch:=omega) only[go_sem],by simp +contextual (disch:=omega) only[go_sem],by simp +contextual (disch:=omega) only[go_sem],by simp +contextual (disch:=omega) only[go_sem],_,by simp +contextual (disch:=omega) only[go_sem],rfl⟩ ?_ ?_ ?_ (fun _ _ _ _ h=>h.elim)
 ·clear H
  rintro J Yq Wq hJ hY hWW i env h U hi ei c0 H ⟨e3,e4,e11,e12,u,e7,rfl⟩
  have L1:=F3 hW hi
  have hwi:Bb l[i]<=1099511627776:=by
   have:=Ee (f:=Bb) (Zak hi)
   omega
  simp +contextual (disch:=omega) only[go_sem,c0,e3,e4,e11,e12,e7,ei,A2,L1]
  intro n5 f5 U5 _ U6 H6
  simp +contextual (disch:=omega) only[go_sem,e3,e4,Ah gl,gl]
  refine by_r H6 (Ik U6 cs a (A9.pre hR H6.sub) l[i] hl hwi hI) ?_
  simp +contextual (disch:=omega) only[go_sem,e3,e4,Ah gm,gm]
  refine by_r H6 (Ik U6 ds b (A9.pre hS H6.sub) l[i] hm hwi hJ') ?_
  cases ht:decide (Ep a l[i]=Ep b l[i]) with
  |true=>
   have hT:Lp a b l[i]=false:=by simp[Lp,ht]
   simp +contextual (disch:=omega) only[go_sem,ht,e3,e4,e11,e12,e7,ei]
   exact hJ _ _ _ _ (H6.re [1,2,3] (by decide)) ⟨by simp +contextual (disch:=omega) only[go_sem,e3],by simp +contextual (disch:=omega) only[go_sem,e4],by simp +contextual (disch:=omega) only[go_sem,e11],by simp +contextual (disch:=omega) only[go_sem,e12],u,by simp +contextual (disch:=omega) only[go_sem,e7],by rw[A6i hi hT];rfl⟩
  |false=>
   have hT:Lp a b l[i]=true:=by simp[Lp,ht]
   have hle:=Eq a b l i
   simp +contextual (disch:=omega) only[go_sem,ht,e3,e4,e11,e12,e7,ei]
   intro n7 f7 U7 H7
   refine A4c (p:=pI) H7 2 rfl (i:Int) A4b (by decide) (by omega) fun w' U8 H8=> ?_
   simp +contextual (disch:=omega) only[go_sem,e3,e4,e11,e12,ei]
   exact hJ _ _ _ _ (H8.re [2,3,4] (by decide)) ⟨by simp +contextual (disch:=omega) only[go_sem,e3],by simp +contextual (disch:=omega) only[go_sem,e4],by simp +contextual (disch:=omega) only[go_sem,e11],by simp +contextual (disch:=omega) only[go_sem,e12],w',by simp +contextual (disch:=omega) only[go_sem],by rw[A6h hi hT];rfl⟩
 ·rintro Yq hY env h U ei c0 H ⟨e3,e4,e11,e12,u,e7,rfl⟩
  simp +contextual (disch:=omega) only[go_sem,c0,e12,ei]
  exact hY _ _ _ H ⟨u,by simp +contextual (disch:=omega) only[go_sem,e7],rfl⟩
 ·rintro env h U H ⟨u,e7,rfl⟩
  simp +contextual (disch:=omega) only[go_sem,e7]
  exact fun H=>⟨u,rfl,H.re [0] (by decide)⟩
theorem A3j (N:St) (cs:List GV) (a:State) (hR:A9.R N a cs) (ds:List GV) (b:State) (hS:A9.R N b ds) (v:GV) (l:List Watch) (hW:RS Dm.kd N v l) (hl:Aa a<=1048576) (hm:Aa b<=1048576) (hw:l.length+sumL Bb l<=1099511627776) (hI:stI a) (hJ':stI b):∃ r U,Ret Tryz.prog 16 [.agg cs,.agg ds,v] N r U/\Hp N U [ow pI.kd r (G0 a b l l.length)]:=by
 have gl:cs.length=4:=A9.len hR
 have gm:ds.length=4:=A9.len hS
 refine ret_x A5j (Z0z rfl) (Hx.refl N) ?_
 simp +contextual (disch:=omega) only[go_sem,Xk,hW.len]
 intro n f U _ n2 f2 U1 _ n3 f3 U2 H
 have H:=H.emp pI.kd rfl
 refine A20 l.length 8 0 (fun i env h=>env 2=v/\env 3= .ptr n 0/\env 4= .ptr n2 0/\∃ u,env 7=u/\h=[.th (ow pI.kd u (G0 a b l i)),.box 1 n2 ds,.box 1 n cs]) (fun env h=>∃ u,env 7=u/\h=[.th (ow pI.kd u (G0 a b l l.length)),.box 1 n2 ds,.box 1 n cs]) (fun env h=>False) _ H (by simp +contextual (disch:=omega) only[go_sem]) ⟨by simp +contextual (disch:=omega) only[go_sem],by simp +contextual (disch:=omega) only[go_sem],by simp +contextual (disch:=omega) only[go_sem],_,by simp +contextual (disch:=omega) only[go_sem],rfl⟩ ?_ ?_ ?_ (fun _ _ _ _ h=>h.elim)
 ·clear H
  rintro J Yq Wq hJ hY hWW i env h U hi ei c0 H ⟨e2,e3,e4,u,e7,rfl⟩
  have L1:=F3 hW hi
  have hwi:Bb l[i]<=1099511627776:=by
   have:=Ee (f:=Bb) (Zak hi)
   omega
  simp +contextual (disch:=omega) only[go_sem,c0,e2,e3,e4,e7,ei,A2,L1,hW.len,Ah gl,gl]
  refine by_r H (Il U cs a (A9.pre hR H.sub) l[i] hl hwi hI) ?_
  simp +contextual (disch:=omega) only[go_sem,e2,e3,e4,e7,ei,A2,L1,hW.len,Ah gm,gm]
  refine by_r H (Il U ds b (A9.pre hS H.sub) l[i] hm hwi hJ') ?_
  cases ht:decide (Ep a l[i]=Ep b l[i]) with
  |true=>
   have hT:Lp a b l[i]=false:=by simp[Lp,ht]
   simp +contextual (disch:=omega) only[go_sem,ht,e2,e3,e4,e7,ei]
   exact hJ _ _ _ _ H ⟨by simp +contextual (disch:=omega) only[go_sem,e2],by simp +contextual (disch:=omega) only[go_sem,e3],by simp +contextual (disch:=omega) only[go_sem,e4],u,by simp +contextual (disch:=omega) only[go_sem,e7],by rw[A6i hi hT]⟩
  |false=>
   have hT:Lp a b l[i]=true:=by simp[Lp,ht]
   have hle:=Eq a b l i
   simp +contextual (disch:=omega) only[go_sem,ht,e2,e3,e4,e7,ei]
   intro n7 f7 U7 H7
   refine A4c (p:=pI) H7 1 rfl (i:Int) A4b (by decide) (by omega) fun w' U8 H8=> ?_
   simp +contextual (disch:=omega) only[go_sem,e2,e3,e4,ei]
   exact hJ _ _ _ _ (H8.re [1,2,3] (by decide)) ⟨by simp +contextual (disch:=omega) only[go_sem,e2],by simp +contextual (disch:=omega) only[go_sem,e3],by simp +contextual (disch:=omega) only[go_sem,e4],w',by simp +contextual (disch:=omega) only[go_sem],by rw[A6h hi hT];rfl⟩
 ·rintro Yq hY env h U ei c0 H ⟨e2,e3,e4,u,e7,rfl⟩
  simp +contextual (disch:=omega) only[go_sem,c0,e2,ei,hW.len]
  exact hY _ _ _ H ⟨u,by simp +contextual (disch:=omega) only[go_sem,e7],rfl⟩
 ·rintro env h U H ⟨u,e7,rfl⟩
  simp +contextual (disch:=omega) only[go_sem,e7]
  exact fun H=>⟨u,rfl,H.re [0] (by decide)⟩
theorem Aag {x:Tally} (h:zTally x):Tx x:=h.1
theorem A9h {x:List Tally} (h:((x).length<=9223372036854775807/\∀ y6∈x,zTally (y6))):x.length<=9223372036854775807/\∀ y∈x,Tx y:=⟨h.1,fun y hy=>Aag (h.2 y hy)⟩
theorem Acr {x:Live} (h:zLive x):A8p x:=⟨h.2.1,h.2.2.1⟩
theorem Aah {x:List Live} (h:((x).length<=9223372036854775807/\∀ y5∈x,zLive (y5))):x.length<=9223372036854775807/\∀ y∈x,A8p y:=⟨h.1,fun y hy=>Acr (h.2 y hy)⟩
theorem Acs {x:Cell} (h:zCell x):A70 x:=h.1
theorem Aai {x:List Cell} (h:((x).length<=9223372036854775807/\∀ y5∈x,zCell (y5))):x.length<=9223372036854775807/\∀ y∈x,A70 y:=⟨h.1,fun y hy=>Acs (h.2 y hy)⟩
theorem Aaj {x:Watch} (h:zWatch x):A5x x:=⟨h.2.1,h.2.2⟩
theorem A9i {x:List Watch} (h:((x).length<=9223372036854775807/\∀ y6∈x,zWatch (y6))):x.length<=9223372036854775807/\∀ y∈x,A5x y:=⟨h.1,fun y hy=>Aaj (h.2 y hy)⟩
theorem A6j {x:State} (h:zState x):Aau x:=⟨h.1.1,A9h h.2.1,Aah h.2.2.1,Aai h.2.2.2⟩
def Gv:Fn1:=⟨115,[.t 6],(rg [oX 3 0,oX 4 1,oV 6 kf] (rg [oV 7 (ki 1048576)] (rg [oW 17 4 3,oM 18 7,oD 19 14 17 18,oM 7 19] (.seq (rg [oM 20 7,oE 21 .lss 20 0] (oG 21 (oR 6 kt))) (rg [oW 22 4 4,oM 23 7,oD 24 14 22 23,oM 7 24] (.seq (rg [oM 25 7,oE 26 .lss 25 0] (oG 26 (oR 6 kt))) (rg [oM 27 2,oM 28 7,oD 29 15 27 28,oM 7 29] (.seq (rg [oM 30 7,oE 31 .lss 30 0] (oG 31 (oR 6 kt))) (dw [oW 32 4 3,oC 33 17 32,oW 34 4 4] [oC 35 17 34,oM 36 2,oC 37 18 36,o 38 (.call 16 (oT [33,35,37])),oM 8 38] (rg [oW 39 4 3,oC 40 17 39,o 9 (.new [.nilS,.nilS,.nilS,.nilS]),oS 4 9 40] (rg [oW 41 4 4,oC 42 17 41,o 10 (.new [.nilS,.nilS,.nilS,.nilS]),oS 4 10 42] (rg [oM 43 2,oC 44 18 43,oM 11 44] (rg [oW 45 4 9,oW 46 4 10,oM 47 11,o 48 (.call 19 (oT [45,46,47])),oM 12 48] (.seq (rg [oM 49 12,oM 50 8,oD 51 20 49 50,oU 52 51] (oG 52 (oR 6 kf))) (.seq (dw [oW 53 4 9,oW 54 4 3,oC 55 17 54] [oD 56 21 53 55,oU 57 56] (oG 57 (oR 6 kf))) (.seq (dw [oW 58 4 10,oW 59 4 4,oC 60 17 59] [oD 61 21 58 60,oU 62 61] (oG 62 (oR 6 kf))) (.seq (rg [oM 63 11,oM 64 2,oC 65 18 64,oD 66 22 63 65,oU 67 66] (oG 67 (oR 6 kf))) (rg [oV 13 (ki 1)] (rg [oW 68 4 9,oM 69 13,oD 70 23 68 69,oM 13 70] (rg [oW 71 4 10,oM 72 13,oD 73 23 71 72,oM 13 73] (rg [oM 74 11,oM 75 13,oD 76 24 74 75,oM 13 76] (.seq (rg [oM 77 13,oE 78 .lss 77 0,oM 79 78,vM 80 79 12,vM 81 79 8,vD 82 79 20 80 81,vU 83 79 82,oP 84 79 83] (oG 84 (oR 6 kf))) (rg [oV 14 (ki 1)] (rg [oM 85 12,oM 86 14,oD 87 25 85 86,oM 14 87] (rg [oV 15 (ki 1)] (rg [oM 88 12,oM 89 15,oD 90 26 88 89,oM 15 90] (.seq (rg [oM 91 15,oE 92 .lss 91 0] (oG 92 (oR 6 kf))) (.seq (rg [oM 93 15,oM 94 14,oB 95 .neq 93 94] (oG 95 (oR 6 kf))) (dw [oW 96 4 3,oC 97 17 96,oW 98 4 4] [oC 99 17 98,oM 100 2,oC 101 18 100,o 102 (.call 19 (oT [97,99,101])),oM 16 102] (.seq (rg [oM 103 16,oM 104 8,oD 105 20 103 104,oU 106 105] (oG 106 (oR 6 kf))) (rg [oV 15 (ki 1)] (rg [oM 107 12,oM 108 15,oD 109 26 107 108,oM 15 109] (.seq (rg [oM 110 15,oE 111 .lss 110 0] (oG 111 (oR 6 kf))) (.seq (rg [oM 112 15,oM 113 14,oB 114 .neq 112 113] (oG 114 (oR 6 kf))) (oR 6 kt)))))))))))))))))))))))))))))))))))⟩
theorem Lq:A5 Tryz.prog 3=some Gv:=by kernel_rfl
theorem law_Turned (N:St) (cs0:List GV) (x0:State) (hR0:eState.R N x0 cs0) (hw0:zState x0) (cs1:List GV) (x1:State) (hR1:eState.R N x1 cs1) (hw1:zState x1) (v2:GV) (x2:List Watch) (hR2:Sl eWatch N v2 x2) (hw2:((x2).length<=9223372036854775807/\∀ y6∈x2,zWatch (y6))):∃ r U,Ret Tryz.prog 3 [.agg cs0,.agg cs1,v2] N r U/\r= .bool true:=by
 have hst1:stI x1:=⟨fun x hx=>(hw1.2.2.1.2 x hx).2.2.2.1.2,fun x hx=>(hw1.2.2.2.2 x hx).2.2.2.2.1.2⟩
 have hst0:stI x0:=⟨fun x hx=>(hw0.2.2.1.2 x hx).2.2.2.1.2,fun x hx=>(hw0.2.2.2.2 x hx).2.2.2.2.1.2⟩
 have hR0:=A8n hR0
 have hl0:=A9.len hR0
 have hw0:=A6j hw0
 have hR1:=A8n hR1
 have hl1:=A9.len hR1
 have hw1:=A6j hw1
 have hR2:RS Dm.kd N v2 x2:=hR2.rs rfl (Ac4)
 have hw2:=A9i hw2
 refine Ac0 Lq (Z0z rfl) ?_
 have hB:N <+: N++[some (Blk.row 1 (cs0))]++[some (Blk.row 1 (cs1))]:=pre2
 have hb0:rdB (N++[some (Blk.row 1 (cs0))]++[some (Blk.row 1 (cs1))]) (N).length=some (cs0):=Z1 (Zac _)
 have hs0:(seg cs0 0 4).bind (mkv true)=some (.agg cs0):=Ah hl0
 have hb1:rdB (N++[some (Blk.row 1 (cs0))]++[some (Blk.row 1 (cs1))]) (N++[some (Blk.row 1 (cs0))]).length=some (cs1):=J3 (Zac _)
 have hs1:(seg cs1 0 4).bind (mkv true)=some (.agg cs1):=Ah hl1
 simp +contextual (disch:=omega) only[go_sem,Gv,A1 (A6 (Zac _) hb0),hs0,A1 (A6 (Zac _) hb1),hs1,hR2.len,Zaa]
 refine A7 (Ko _ cs0 x0 (A9.pre hR0 (hB.trans (Zac _))) (1048576) hw0 (by omega) (by omega)) ?_
 have ge0:= @A3y (1048576) (Aa x0)
 have gm0:= @Pu (1048576) (Aa x0) (by omega)
 try simp +contextual (disch:=omega) only[go_sem,Zaa,ite_self,ne_eq,not_true_eq_false,bne_self_eq_false,beq_self_eq_true,A1 (A6 (Zac _) hb0),hs0,A1 (A6 (Zac _) hb1),hs1,hR2.len]
 refine⟨fun _=>hB.length_le,fun hn=> ?_⟩
 have hn:=of_decide_eq_false hn
 have hf0:=Fe hn
 have hu0:Aa x0<=1048576:=by omega
 have hc0:=V6 x0
 try simp +contextual (disch:=omega) only[go_sem,Zaa,ite_self,ne_eq,not_true_eq_false,bne_self_eq_false,beq_self_eq_true,A1 (A6 (Zac _) hb0),hs0,A1 (A6 (Zac _) hb1),hs1,hR2.len]
 refine A7 (Ko _ cs1 x1 (A9.pre hR1 (hB.trans (Zac _))) (lf (1048576) (Aa x0)) hw1 (by omega) (by omega)) ?_
 have ge1:= @A3y (lf (1048576) (Aa x0)) (Aa x1)
 have gm1:= @Pu (lf (1048576) (Aa x0)) (Aa x1) (by omega)
 try simp +contextual (disch:=omega) only[go_sem,Zaa,ite_self,ne_eq,not_true_eq_false,bne_self_eq_false,beq_self_eq_true,A1 (A6 (Zac _) hb0),hs0,A1 (A6 (Zac _) hb1),hs1,hR2.len]
 refine⟨fun _=>hB.length_le,fun hn=> ?_⟩
 have hn:=of_decide_eq_false hn
 have hf1:=Fe hn
 have hu1:Aa x1<=1048576:=by omega
 have hc1:=V6 x1
 try simp +contextual (disch:=omega) only[go_sem,Zaa,ite_self,ne_eq,not_true_eq_false,bne_self_eq_false,beq_self_eq_true,A1 (A6 (Zac _) hb0),hs0,A1 (A6 (Zac _) hb1),hs1,hR2.len]
 refine A7 (Tc _ v2 x2 (hR2.pre (hB.trans (Zac _))) (lf (lf (1048576) (Aa x0)) (Aa x1)) hw2 (by omega) (by omega)) ?_
 have ge2:= @A3y (lf (lf (1048576) (Aa x0)) (Aa x1)) ((x2.length+sumL Bb x2))
 have gm2:= @Pu (lf (lf (1048576) (Aa x0)) (Aa x1)) ((x2.length+sumL Bb x2)) (by omega)
 try simp +contextual (disch:=omega) only[go_sem,Zaa,ite_self,ne_eq,not_true_eq_false,bne_self_eq_false,beq_self_eq_true,A1 (A6 (Zac _) hb0),hs0,A1 (A6 (Zac _) hb1),hs1,hR2.len]
 refine⟨fun _=>hB.length_le,fun hn=> ?_⟩
 have hn:=of_decide_eq_false hn
 have hf2:=Fe hn
 try simp +contextual (disch:=omega) only[go_sem,Zaa,ite_self,ne_eq,not_true_eq_false,bne_self_eq_false,beq_self_eq_true,A1 (A6 (Zac _) hb0),hs0,A1 (A6 (Zac _) hb1),hs1,hR2.len]
 have H:=Hp.refl (N++[some (Blk.row 1 (cs0))]++[some (Blk.row 1 (cs1))])
 try simp +contextual (disch:=omega) only[go_sem,Zaa,ite_self,ne_eq,not_true_eq_false,bne_self_eq_false,beq_self_eq_true,A1 (A6 H.sub hb0),hs0,A1 (A6 H.sub hb1),hs1,hR2.len]
 obtain⟨_,U1,R1,_,d1,rfl,K1⟩:=Bj _ cs0 x0 (A9.pre hR0 (hB.trans H.sub)) (by omega)
 refine Er R1 K1 ?_
 have H:=H.add K1
 try simp only[Zab,Zad] at H
 have g1:=Ah (A9.len (K1.rd 0 rfl))
 have g1:(seg d1 0 4).bind (mkv true)=some (.agg d1):=g1
 have gl1:d1.length=4:=A9.len (K1.rd 0 rfl)
 try simp +contextual (disch:=omega) only[go_sem,Zaa,ite_self,ne_eq,not_true_eq_false,bne_self_eq_false,beq_self_eq_true,A1 (A6 H.sub hb0),hs0,A1 (A6 H.sub hb1),hs1,hR2.len,g1]
 obtain⟨_,U2,R2,_,d2,rfl,K2⟩:=Bj _ cs1 x1 (A9.pre hR1 (hB.trans H.sub)) (by omega)
 refine Er R2 K2 ?_
 have H:=H.add K2
 try simp only[Zab,Zad] at H
 have g2:=Ah (A9.len (K2.rd 0 rfl))
 have g2:(seg d2 0 4).bind (mkv true)=some (.agg d2):=g2
 have gl2:d2.length=4:=A9.len (K2.rd 0 rfl)
 try simp +contextual (disch:=omega) only[go_sem,Zaa,ite_self,ne_eq,not_true_eq_false,bne_self_eq_false,beq_self_eq_true,A1 (A6 H.sub hb0),hs0,A1 (A6 H.sub hb1),hs1,hR2.len,g1,g2]
 obtain⟨u3,U3,R3,K3⟩:=Ef _ v2 x2 (hR2.pre (hB.trans H.sub)) (by omega)
 refine Er R3 K3 ?_
 have H:=H.add K3
 try simp only[Zab,Zad] at H
 try simp +contextual (disch:=omega) only[go_sem,Zaa,ite_self,ne_eq,not_true_eq_false,bne_self_eq_false,beq_self_eq_true,A1 (A6 H.sub hb0),hs0,A1 (A6 H.sub hb1),hs1,hR2.len,g1,g2]
 obtain⟨c4_0,U4,R4,p4⟩:=A3j _ d1 x0 (H.rd 2 rfl) d2 x1 (H.rd 1 rfl) u3 x2 (H.sl 0 rfl) (by omega) (by omega) (by omega) hst0 hst1
 have q4_0:=p4.sl 0 rfl
 have p4:=p4.sub
 refine Aar R4 p4 ?_
 have hpw:=H.sub.trans p4
 have H:=Hp.refl U4
 have nt4_0:=RdN.notup q4_0
 try simp +contextual (disch:=omega) only[go_sem,Zaa,ite_self,ne_eq,not_true_eq_false,bne_self_eq_false,beq_self_eq_true,A1 (A6 (hpw.trans H.sub) hb0),hs0,A1 (A6 (hpw.trans H.sub) hb1),hs1,hR2.len,g1,g2]
 obtain⟨_,U5,R5,_,d5,rfl,K5⟩:=Bj _ cs0 x0 (A9.pre hR0 (hB.trans (hpw.trans H.sub))) (by omega)
 refine Er R5 K5 ?_
 have H:=H.add K5
 try simp only[Zab,Zad] at H
 have g5:=Ah (A9.len (K5.rd 0 rfl))
 have g5:(seg d5 0 4).bind (mkv true)=some (.agg d5):=g5
 have gl5:d5.length=4:=A9.len (K5.rd 0 rfl)
 try simp +contextual (disch:=omega) only[go_sem,Zaa,ite_self,ne_eq,not_true_eq_false,bne_self_eq_false,beq_self_eq_true,A1 (A6 (hpw.trans H.sub) hb0),hs0,A1 (A6 (hpw.trans H.sub) hb1),hs1,hR2.len,g1,g2,g5]
 have H:=H.new 1 d5
 try simp +contextual (disch:=omega) only[go_sem,Zaa,ite_self,ne_eq,not_true_eq_false,bne_self_eq_false,beq_self_eq_true,A1 (A6 (hpw.trans H.sub) hb0),hs0,A1 (A6 (hpw.trans H.sub) hb1),hs1,hR2.len,A1 (H.pt 0 rfl),g1,g2,g5,Pt (cs:=[GV.nilS,GV.nilS,GV.nilS,GV.nilS]) gl5 rfl,gl5]
 obtain⟨_,U6,R6,_,d6,rfl,K6⟩:=Bj _ cs1 x1 (A9.pre hR1 (hB.trans (hpw.trans H.sub))) (by omega)
 refine Er R6 K6 ?_
 have H:=H.add K6
 try simp only[Zab,Zad] at H
 have g6:=Ah (A9.len (K6.rd 0 rfl))
 have g6:(seg d6 0 4).bind (mkv true)=some (.agg d6):=g6
 have gl6:d6.length=4:=A9.len (K6.rd 0 rfl)
 try simp +contextual (disch:=omega) only[go_sem,Zaa,ite_self,ne_eq,not_true_eq_false,bne_self_eq_false,beq_self_eq_true,A1 (A6 (hpw.trans H.sub) hb0),hs0,A1 (A6 (hpw.trans H.sub) hb1),hs1,hR2.len,A1 (H.pt 1 rfl),g1,g2,g5,g6]
 have H:=H.new 1 d6
 try simp +contextual (disch:=omega) only[go_sem,Zaa,ite_self,ne_eq,not_true_eq_false,bne_self_eq_false,beq_self_eq_true,A1 (A6 (hpw.trans H.sub) hb0),hs0,A1 (A6 (hpw.trans H.sub) hb1),hs1,hR2.len,A1 (H.pt 0 rfl),A1 (H.pt 2 rfl),g1,g2,g5,g6,Pt (cs:=[GV.nilS,GV.nilS,GV.nilS,GV.nilS]) gl6 rfl,gl6]
 obtain⟨u7,U7,R7,K7⟩:=Ef _ v2 x2 (hR2.pre (hB.trans (hpw.trans H.sub))) (by omega)
 refine Er R7 K7 ?_
 have H:=H.add K7
 try simp only[Zab,Zad] at H
 try simp +contextual (disch:=omega) only[go_sem,Zaa,ite_self,ne_eq,not_true_eq_false,bne_self_eq_false,beq_self_eq_true,A1 (A6 (hpw.trans H.sub) hb0),hs0,A1 (A6 (hpw.trans H.sub) hb1),hs1,hR2.len,A1 (H.pt 1 rfl),A1 (H.pt 3 rfl),g1,g2,g5,g6]
 obtain⟨c8_0,U8,R8,K8⟩:=Ox _ d5 x0 (H.rd 4 rfl) d6 x1 (H.rd 2 rfl) u7 x2 (H.sl 0 rfl) (by omega) (by omega) (by omega) hst0 hst1
 refine Er R8 K8 ?_
 have H:=H.add K8
 try simp only[Zab,Zad] at H
 have nt8_0:=RdN.notup (K8.sl 0 rfl)
 try simp +contextual (disch:=omega) only[go_sem,Zaa,ite_self,ne_eq,not_true_eq_false,bne_self_eq_false,beq_self_eq_true,A1 (A6 (hpw.trans H.sub) hb0),hs0,A1 (A6 (hpw.trans H.sub) hb1),hs1,hR2.len,A1 (H.pt 2 rfl),A1 (H.pt 4 rfl),g1,g2,g5,g6]
 try simp +contextual (disch:=omega) only[go_sem,Zaa,ite_self,ne_eq,not_true_eq_false,bne_self_eq_false,beq_self_eq_true,A1 (A6 (hpw.trans H.sub) hb0),hs0,A1 (A6 (hpw.trans H.sub) hb1),hs1,hR2.len,A1 (H.pt 2 rfl),A1 (H.pt 4 rfl),g1,g2,g5,g6]
 refine A7 (Fo _ _ _ _ _ (H.sl 0 rfl) (q4_0.pre H.sub) (by have:=Eq x0 x1 x2 x2.length;omega)) ?_
 try simp +contextual (disch:=omega) only[go_sem,Zaa,ite_self,ne_eq,not_true_eq_false,bne_self_eq_false,beq_self_eq_true,A1 (A6 (hpw.trans H.sub) hb0),hs0,A1 (A6 (hpw.trans H.sub) hb1),hs1,hR2.len,A1 (H.pt 2 rfl),A1 (H.pt 4 rfl),g1,g2,g5,g6,decide_true,eq_self]
 try simp +contextual (disch:=omega) only[go_sem,Zaa,ite_self,ne_eq,not_true_eq_false,bne_self_eq_false,beq_self_eq_true,A1 (A6 (hpw.trans H.sub) hb0),hs0,A1 (A6 (hpw.trans H.sub) hb1),hs1,hR2.len,A1 (H.pt 2 rfl),A1 (H.pt 4 rfl),g1,g2,g5,g6]
 obtain⟨_,U9,R9,_,d9,rfl,K9⟩:=Bj _ cs0 x0 (A9.pre hR0 (hB.trans (hpw.trans H.sub))) (by omega)
 refine Er R9 K9 ?_
 have H:=H.add K9
 try simp only[Zab,Zad] at H
 have g9:=Ah (A9.len (K9.rd 0 rfl))
 have g9:(seg d9 0 4).bind (mkv true)=some (.agg d9):=g9
 have gl9:d9.length=4:=A9.len (K9.rd 0 rfl)
 try simp +contextual (disch:=omega) only[go_sem,Zaa,ite_self,ne_eq,not_true_eq_false,bne_self_eq_false,beq_self_eq_true,A1 (A6 (hpw.trans H.sub) hb0),hs0,A1 (A6 (hpw.trans H.sub) hb1),hs1,hR2.len,A1 (H.pt 3 rfl),A1 (H.pt 5 rfl),g1,g2,g5,g6,g9]
 refine A7 (Kh _ _ _ _ _ (H.rd 6 rfl) (H.rd 0 rfl) (by omega)) ?_
 try simp +contextual (disch:=omega) only[go_sem,Zaa,ite_self,ne_eq,not_true_eq_false,bne_self_eq_false,beq_self_eq_true,A1 (A6 (hpw.trans H.sub) hb0),hs0,A1 (A6 (hpw.trans H.sub) hb1),hs1,hR2.len,A1 (H.pt 3 rfl),A1 (H.pt 5 rfl),g1,g2,g5,g6,g9,decide_true,eq_self]
 try simp +contextual (disch:=omega) only[go_sem,Zaa,ite_self,ne_eq,not_true_eq_false,bne_self_eq_false,beq_self_eq_true,A1 (A6 (hpw.trans H.sub) hb0),hs0,A1 (A6 (hpw.trans H.sub) hb1),hs1,hR2.len,A1 (H.pt 3 rfl),A1 (H.pt 5 rfl),g1,g2,g5,g6,g9]
 obtain⟨_,U10,R10,_,d10,rfl,K10⟩:=Bj _ cs1 x1 (A9.pre hR1 (hB.trans (hpw.trans H.sub))) (by omega)
 refine Er R10 K10 ?_
 have H:=H.add K10
 try simp only[Zab,Zad] at H
 have g10:=Ah (A9.len (K10.rd 0 rfl))
 have g10:(seg d10 0 4).bind (mkv true)=some (.agg d10):=g10
 have gl10:d10.length=4:=A9.len (K10.rd 0 rfl)
 try simp +contextual (disch:=omega) only[go_sem,Zaa,ite_self,ne_eq,not_true_eq_false,bne_self_eq_false,beq_self_eq_true,A1 (A6 (hpw.trans H.sub) hb0),hs0,A1 (A6 (hpw.trans H.sub) hb1),hs1,hR2.len,A1 (H.pt 4 rfl),A1 (H.pt 6 rfl),g1,g2,g5,g6,g9,g10]
 refine A7 (Kh _ _ _ _ _ (H.rd 5 rfl) (H.rd 0 rfl) (by omega)) ?_
 try simp +contextual (disch:=omega) only[go_sem,Zaa,ite_self,ne_eq,not_true_eq_false,bne_self_eq_false,beq_self_eq_true,A1 (A6 (hpw.trans H.sub) hb0),hs0,A1 (A6 (hpw.trans H.sub) hb1),hs1,hR2.len,A1 (H.pt 4 rfl),A1 (H.pt 6 rfl),g1,g2,g5,g6,g9,g10,decide_true,eq_self]
 try simp +contextual (disch:=omega) only[go_sem,Zaa,ite_self,ne_eq,not_true_eq_false,bne_self_eq_false,beq_self_eq_true,A1 (A6 (hpw.trans H.sub) hb0),hs0,A1 (A6 (hpw.trans H.sub) hb1),hs1,hR2.len,A1 (H.pt 4 rfl),A1 (H.pt 6 rfl),g1,g2,g5,g6,g9,g10]
 obtain⟨u11,U11,R11,K11⟩:=Ef _ v2 x2 (hR2.pre (hB.trans (hpw.trans H.sub))) (by omega)
 refine Er R11 K11 ?_
 have H:=H.add K11
 try simp only[Zab,Zad] at H
 try simp +contextual (disch:=omega) only[go_sem,Zaa,ite_self,ne_eq,not_true_eq_false,bne_self_eq_false,beq_self_eq_true,A1 (A6 (hpw.trans H.sub) hb0),hs0,A1 (A6 (hpw.trans H.sub) hb1),hs1,hR2.len,A1 (H.pt 5 rfl),A1 (H.pt 7 rfl),g1,g2,g5,g6,g9,g10]
 refine A7 (T7 _ _ _ _ _ (H.sl 4 rfl) (H.sl 0 rfl) (by omega)) ?_
 try simp +contextual (disch:=omega) only[go_sem,Zaa,ite_self,ne_eq,not_true_eq_false,bne_self_eq_false,beq_self_eq_true,A1 (A6 (hpw.trans H.sub) hb0),hs0,A1 (A6 (hpw.trans H.sub) hb1),hs1,hR2.len,A1 (H.pt 5 rfl),A1 (H.pt 7 rfl),g1,g2,g5,g6,g9,g10,decide_true,eq_self]
 obtain⟨U12,R12,H⟩:=I3 8 d5 x0 (1) H rfl (by omega) (by omega)
 refine Ag R12 ?_
 try simp only[Zan,Zao] at H
 try simp +contextual (disch:=omega) only[go_sem,Zaa,ite_self,ne_eq,not_true_eq_false,bne_self_eq_false,beq_self_eq_true,A1 (A6 (hpw.trans H.sub) hb0),hs0,A1 (A6 (hpw.trans H.sub) hb1),hs1,hR2.len,A1 (H.pt 5 rfl),A1 (H.pt 7 rfl),g1,g2,g5,g6,g9,g10]
 obtain⟨U13,R13,H⟩:=I3 6 d6 x1 (((1:Int))+((Es x0:Nat):Int)) H rfl (by omega) (by omega)
 refine Ag R13 ?_
 try simp only[Zan,Zao] at H
 try simp +contextual (disch:=omega) only[go_sem,Zaa,ite_self,ne_eq,not_true_eq_false,bne_self_eq_false,beq_self_eq_true,A1 (A6 (hpw.trans H.sub) hb0),hs0,A1 (A6 (hpw.trans H.sub) hb1),hs1,hR2.len,A1 (H.pt 5 rfl),A1 (H.pt 7 rfl),g1,g2,g5,g6,g9,g10]
 obtain⟨U14,R14,H⟩:=P1 4 u7 x2 ((((1:Int))+((Es x0:Nat):Int))+((Es x1:Nat):Int)) H rfl (by omega) (by omega)
 refine Ag R14 ?_
 try simp only[Zan,Zao] at H
 try simp +contextual (disch:=omega) only[go_sem,Zaa,ite_self,ne_eq,not_true_eq_false,bne_self_eq_false,beq_self_eq_true,A1 (A6 (hpw.trans H.sub) hb0),hs0,A1 (A6 (hpw.trans H.sub) hb1),hs1,hR2.len,A1 (H.pt 5 rfl),A1 (H.pt 7 rfl),g1,g2,g5,g6,g9,g10]
 have hng:decide (((((1:Int))+((Es x0:Nat):Int))+((Es x1:Nat):Int))+3*((x2.length:Nat):Int)<0)=false:=decide_eq_false (by omega)
 try simp +contextual (disch:=omega) only[go_sem,Zaa,ite_self,ne_eq,not_true_eq_false,bne_self_eq_false,beq_self_eq_true,A1 (A6 (hpw.trans H.sub) hb0),hs0,A1 (A6 (hpw.trans H.sub) hb1),hs1,hR2.len,A1 (H.pt 5 rfl),A1 (H.pt 7 rfl),g1,g2,g5,g6,g9,g10,A3w,A3x,hng]
 refine A7 (Fo _ _ _ _ _ (H.sl 3 rfl) (q4_0.pre H.sub) (by have:=Eq x0 x1 x2 x2.length;omega)) ?_
 try simp +contextual (disch:=omega) only[go_sem,Zaa,ite_self,ne_eq,not_true_eq_false,bne_self_eq_false,beq_self_eq_true,A1 (A6 (hpw.trans H.sub) hb0),hs0,A1 (A6 (hpw.trans H.sub) hb1),hs1,hR2.len,A1 (H.pt 5 rfl),A1 (H.pt 7 rfl),g1,g2,g5,g6,g9,g10,decide_true,eq_self]
 obtain⟨U15,R15,H⟩:=J5 3 c8_0 _ (1) H rfl (by omega) (by have:=Eq x0 x1 x2 x2.length;omega)
 refine Ag R15 ?_
 try simp only[Zan,Zao] at H
 try simp +contextual (disch:=omega) only[go_sem,Zaa,ite_self,ne_eq,not_true_eq_false,bne_self_eq_false,beq_self_eq_true,A1 (A6 (hpw.trans H.sub) hb0),hs0,A1 (A6 (hpw.trans H.sub) hb1),hs1,hR2.len,A1 (H.pt 5 rfl),A1 (H.pt 7 rfl),g1,g2,g5,g6,g9,g10]
 refine A7 (J4 _ _ _ 1 (H.sl 3 rfl) (by omega) (by have:=Eq x0 x1 x2 x2.length;omega)) ?_
 try simp +contextual (disch:=omega) only[go_sem,Zaa,ite_self,ne_eq,not_true_eq_false,bne_self_eq_false,beq_self_eq_true,A1 (A6 (hpw.trans H.sub) hb0),hs0,A1 (A6 (hpw.trans H.sub) hb1),hs1,hR2.len,A1 (H.pt 5 rfl),A1 (H.pt 7 rfl),g1,g2,g5,g6,g9,g10,A3w,A3x]
 try simp +contextual (disch:=omega) only[go_sem,Zaa,ite_self,ne_eq,not_true_eq_false,bne_self_eq_false,beq_self_eq_true,A1 (A6 (hpw.trans H.sub) hb0),hs0,A1 (A6 (hpw.trans H.sub) hb1),hs1,hR2.len,A1 (H.pt 5 rfl),A1 (H.pt 7 rfl),g1,g2,g5,g6,g9,g10,A3w,A3x]
 try simp +contextual (disch:=omega) only[go_sem,Zaa,ite_self,ne_eq,not_true_eq_false,bne_self_eq_false,beq_self_eq_true,A1 (A6 (hpw.trans H.sub) hb0),hs0,A1 (A6 (hpw.trans H.sub) hb1),hs1,hR2.len,A1 (H.pt 5 rfl),A1 (H.pt 7 rfl),g1,g2,g5,g6,g9,g10,A3w,A3x]
 obtain⟨_,U16,R16,_,d16,rfl,K16⟩:=Bj _ cs0 x0 (A9.pre hR0 (hB.trans (hpw.trans H.sub))) (by omega)
 refine Er R16 K16 ?_
 have H:=H.add K16
 try simp only[Zab,Zad] at H
 have g16:=Ah (A9.len (K16.rd 0 rfl))
 have g16:(seg d16 0 4).bind (mkv true)=some (.agg d16):=g16
 have gl16:d16.length=4:=A9.len (K16.rd 0 rfl)
 try simp +contextual (disch:=omega) only[go_sem,Zaa,ite_self,ne_eq,not_true_eq_false,bne_self_eq_false,beq_self_eq_true,A1 (A6 (hpw.trans H.sub) hb0),hs0,A1 (A6 (hpw.trans H.sub) hb1),hs1,hR2.len,A1 (H.pt 6 rfl),A1 (H.pt 8 rfl),g1,g2,g5,g6,g9,g10,g16]
 obtain⟨_,U17,R17,_,d17,rfl,K17⟩:=Bj _ cs1 x1 (A9.pre hR1 (hB.trans (hpw.trans H.sub))) (by omega)
 refine Er R17 K17 ?_
 have H:=H.add K17
 try simp only[Zab,Zad] at H
 have g17:=Ah (A9.len (K17.rd 0 rfl))
 have g17:(seg d17 0 4).bind (mkv true)=some (.agg d17):=g17
 have gl17:d17.length=4:=A9.len (K17.rd 0 rfl)
 try simp +contextual (disch:=omega) only[go_sem,Zaa,ite_self,ne_eq,not_true_eq_false,bne_self_eq_false,beq_self_eq_true,A1 (A6 (hpw.trans H.sub) hb0),hs0,A1 (A6 (hpw.trans H.sub) hb1),hs1,hR2.len,A1 (H.pt 7 rfl),A1 (H.pt 9 rfl),g1,g2,g5,g6,g9,g10,g16,g17]
 obtain⟨u18,U18,R18,K18⟩:=Ef _ v2 x2 (hR2.pre (hB.trans (hpw.trans H.sub))) (by omega)
 refine Er R18 K18 ?_
 have H:=H.add K18
 try simp only[Zab,Zad] at H
 try simp +contextual (disch:=omega) only[go_sem,Zaa,ite_self,ne_eq,not_true_eq_false,bne_self_eq_false,beq_self_eq_true,A1 (A6 (hpw.trans H.sub) hb0),hs0,A1 (A6 (hpw.trans H.sub) hb1),hs1,hR2.len,A1 (H.pt 8 rfl),A1 (H.pt 10 rfl),g1,g2,g5,g6,g9,g10,g16,g17]
 obtain⟨c19_0,U19,R19,K19⟩:=Ox _ d16 x0 (H.rd 2 rfl) d17 x1 (H.rd 1 rfl) u18 x2 (H.sl 0 rfl) (by omega) (by omega) (by omega) hst0 hst1
 refine Er R19 K19 ?_
 have H:=H.add K19
 try simp only[Zab,Zad] at H
 have nt19_0:=RdN.notup (K19.sl 0 rfl)
 try simp +contextual (disch:=omega) only[go_sem,Zaa,ite_self,ne_eq,not_true_eq_false,bne_self_eq_false,beq_self_eq_true,A1 (A6 (hpw.trans H.sub) hb0),hs0,A1 (A6 (hpw.trans H.sub) hb1),hs1,hR2.len,A1 (H.pt 9 rfl),A1 (H.pt 11 rfl),g1,g2,g5,g6,g9,g10,g16,g17]
 try simp +contextual (disch:=omega) only[go_sem,Zaa,ite_self,ne_eq,not_true_eq_false,bne_self_eq_false,beq_self_eq_true,A1 (A6 (hpw.trans H.sub) hb0),hs0,A1 (A6 (hpw.trans H.sub) hb1),hs1,hR2.len,A1 (H.pt 9 rfl),A1 (H.pt 11 rfl),g1,g2,g5,g6,g9,g10,g16,g17]
 refine A7 (Fo _ _ _ _ _ (H.sl 0 rfl) (q4_0.pre H.sub) (by have:=Eq x0 x1 x2 x2.length;omega)) ?_
 try simp +contextual (disch:=omega) only[go_sem,Zaa,ite_self,ne_eq,not_true_eq_false,bne_self_eq_false,beq_self_eq_true,A1 (A6 (hpw.trans H.sub) hb0),hs0,A1 (A6 (hpw.trans H.sub) hb1),hs1,hR2.len,A1 (H.pt 9 rfl),A1 (H.pt 11 rfl),g1,g2,g5,g6,g9,g10,g16,g17,decide_true,eq_self]
 refine A7 (J4 _ _ _ 1 (H.sl 7 rfl) (by omega) (by have:=Eq x0 x1 x2 x2.length;omega)) ?_
 try simp +contextual (disch:=omega) only[go_sem,Zaa,ite_self,ne_eq,not_true_eq_false,bne_self_eq_false,beq_self_eq_true,A1 (A6 (hpw.trans H.sub) hb0),hs0,A1 (A6 (hpw.trans H.sub) hb1),hs1,hR2.len,A1 (H.pt 9 rfl),A1 (H.pt 11 rfl),g1,g2,g5,g6,g9,g10,g16,g17,A3w,A3x]
 try simp +contextual (disch:=omega) only[go_sem,Zaa,ite_self,ne_eq,not_true_eq_false,bne_self_eq_false,beq_self_eq_true,A1 (A6 (hpw.trans H.sub) hb0),hs0,A1 (A6 (hpw.trans H.sub) hb1),hs1,hR2.len,A1 (H.pt 9 rfl),A1 (H.pt 11 rfl),g1,g2,g5,g6,g9,g10,g16,g17,A3w,A3x]
 try simp +contextual (disch:=omega) only[go_sem,Zaa,ite_self,ne_eq,not_true_eq_false,bne_self_eq_false,beq_self_eq_true,A1 (A6 (hpw.trans H.sub) hb0),hs0,A1 (A6 (hpw.trans H.sub) hb1),hs1,hR2.len,A1 (H.pt 9 rfl),A1 (H.pt 11 rfl),g1,g2,g5,g6,g9,g10,g16,g17,A3w,A3x]
 exact(hB.trans (hpw.trans H.sub)).length_le
end Go.Proofs.YtnknigikcdgebaaGreatDoor.Sy
