/- Texts of this proof, one behind the other. -/
import Derived.Test.YtnknigikcdgebaaGreatDoorBTa4
import Derived.Test.YtnknigikcdgebaaGreatDoorProg
import Derived.KernelRfl
set_option linter.unusedSimpArgs false
set_option linter.unusedVariables false
set_option maxRecDepth 4000
set_option maxHeartbeats 4000000
open Bool renaming and_eq_true→Zaa,false_and→Zas,true_or→Zay,false_or→Za2,false_eq_true→Zba,and_false→Zbj,and_true→Zbl,or_eq_true→Zbr
open List renaming set_cons_succ→Zab,set_cons_zero→Zac,cons_append→Zae,mem_cons_self→Zaf,mem_cons_of_mem→Zag,nil_append→Zah,mem_cons→Zaj,length_append→Zal,countP_append→Zam,getElem_mem→Zan,mem_or_eq_of_mem_set→Zap,modify_succ_cons→Zaq,length_singleton→Zar,drop_eq_getElem_cons→Zat,take_length→Zau,not_mem_nil→Zav,length_set→Zaw,pairwise_map→Zax,length_cons→Zaz,countP_cons→Za0,length_drop→Za1,map_cons→Za3,mem_filter→Za4,mem_append→Za5,getD_eq_getElem?_getD→Za6,filter_append→Za7,pairwise_cons→Za8,mem_map→Za9,append_assoc→Zbd,length→Zbf,getLast?_cons_cons→Zbg,all_eq_true→Zbh,prefix_refl→Zbi,mem_singleton→Zbm,length_take→Zbo,filter_cons→Zbp,length_nil→Zbq,countP_nil→Zbt,range_succ→Zbu,take_zero→Zbv,range→Zbw
open Option renaming bind_some→Zad,bind_none→Zao,isNone_none→Zbb,isNone_some→Zbc
open Int renaming tmod_eq_emod_of_nonneg→Zai,le_refl→Zbs
open Nat renaming reduceAdd→Zak,zero_le→Zbe,mul_le_mul→Zbk,pow_succ→Zbn
namespace Go.Proofs.YtnknigikcdgebaaGreatDoor.Sy
open Go Go.RowKit
def Oq:Fn1:=⟨34,[.t 2],(rg [oX 1 0,oV 2 kf] (rg [oF 4 0 1,oL 5 4,oE 6 .eql 5 6,oM 7 6,vF 8 7 0 1,vL 9 7 8,vE 10 7 .eql 9 7,oP 11 7 10,oM 3 11] (rg [oF 12 0 1,oL 13 12,oF 14 1 1,oL 15 14,oF 16 2 1,oL 17 16,oF 18 3 1,oL 19 18,o 20 (.call 197 (oT [13,15,17,19])),oM 21 20,jF 22 21 4 1,jL 23 21 22,jE 24 21 .geq 23 0,oQ 25 21 24,oM 26 25,jM 27 26 3,jM 28 26 27,vF 29 28 4 1,vL 30 28 29,vE 31 28 .eql 30 0,og 32 26 true (.pick (.t 28) kt (.t 31)),oQ 33 26 32,oM 2 33] .ret)))⟩
theorem Afg:A6 Tryz.prog 188=some Oq:=by kernel_rfl
def A3e:Fn1:=⟨42,[.c 6 true 2,.t 7],(rg [oX 3 0,o 6 (.new [z0,z0]),oV 7 kf] (.seq (rg [oW 10 4 3,oC 11 54 10,oU 12 11,oM 13 12,vM 14 13 2,vE 15 13 .lss 14 0,oP 16 13 15] (oG 16 (rg [o 17 (.build [z0,z0] []),oS 2 6 17,oV 7 kf] .ret))) (rg [oW 18 4 3,oM 19 1,oD 20 119 18 19,oM 8 20] (.seq (rg [oV 9 (ki 0)] (oH 0 (.seq (rg [oM 21 9,oM 22 8,oN 23 22,oB 24 .lss 21 23] (oJ 24 0)) (.seq (.blk 1 (.seq (rg [oM 27 8,oM 28 9,oI 29 8 27 28,oF 30 7 29,oL 31 30] (oG 31 (.ext 1))) (.seq (rg [oM 32 2,oE 33 .eql 32 0] (oG 33 (rg [oM 34 8,oM 35 9,oI 36 8 34 35,oF 37 1 36,oW 38 2 37,oS 2 6 38,oV 7 kt] .ret))) (.reg [oM 39 2,oE 40 .sub 39 1,oM 2 40])))) (.reg [oM 25 9,oZ 26 25 1,oM 9 26]))))) (rg [o 41 (.build [z0,z0] []),oS 2 6 41,oV 7 kf] .ret)))))⟩
theorem Ad0:A6 Tryz.prog 189=some A3e:=by kernel_rfl
def Lu (e:Edit):Bool:=Em e.kind e.obj e.key e.val&&(decide (0<=e.place)&&((e.kind==6||e.kind==7)||e.place==0))
theorem Ad1 (U:St) (e:Edit) (ho:e.obj.size<=1099511627776) (hk:e.key.size<=1099511627776):Ret Tryz.prog 188 [.agg [gi e.kind,.str e.obj,.str e.key,gi e.val,gi e.place]] U (.bool (Lu e)) U:=by
 refine Ae Afg (Z0z rfl) trivial ?_
 cases h6:(e.kind==6) with
 |true=>
  simp +contextual (disch:=omega) only[go_sem,Oq,h6]
  refine Ac (Ks _ _ _ _ _ ho hk) (fun h1=> ?_) (fun h1=> ?_)
  ·cases h2:decide (0<=e.place) with
   |true=>simp +contextual (disch:=omega) only[go_sem,h2,Lu,h1,h6,Zay,Zbl]
   |false=>simp +contextual (disch:=omega) only[go_sem,h2,Lu,h1,h6,Zas,Zbj]
  ·simp +contextual (disch:=omega) only[go_sem,Lu,h1,Zas]
 |false=>
  cases h7:(e.kind==7) with
  |true=>
   simp +contextual (disch:=omega) only[go_sem,Oq,h6,h7]
   refine Ac (Ks _ _ _ _ _ ho hk) (fun h1=> ?_) (fun h1=> ?_)
   ·cases h2:decide (0<=e.place) with
    |true=>simp +contextual (disch:=omega) only[go_sem,h2,Lu,h1,h6,h7,Zay,Za2,Zbl]
    |false=>simp +contextual (disch:=omega) only[go_sem,h2,Lu,h1,h6,Zas,Zbj]
   ·simp +contextual (disch:=omega) only[go_sem,Lu,h1,Zas]
  |false=>
   simp +contextual (disch:=omega) only[go_sem,Oq,h6,h7]
   refine Ac (Ks _ _ _ _ _ ho hk) (fun h1=> ?_) (fun h1=> ?_)
   ·cases h2:decide (0<=e.place) with
    |true=>simp +contextual (disch:=omega) only[go_sem,h2,Lu,h1,h6,h7,Zay,Za2,Bool.true_and,Zbl]
    |false=>simp +contextual (disch:=omega) only[go_sem,h2,Lu,h1,h6,Zas,Zbj]
   ·simp +contextual (disch:=omega) only[go_sem,Lu,h1,Zas]
def Cc (s:State) (o:ByteArray) (i:Int):Dot×Bool:=if h:0<=i/\i.toNat<(rowL s o).length then((rowL s o)[i.toNat].dot,true) else(⟨0,0⟩,false)
theorem flt_at {Y:Type} {l:List Y} {p:Y->Bool} {k:Nat} (hk:k<l.length) (hp:p l[k]=true):∃ h:((l.take k).filter p).length<(l.filter p).length,(l.filter p)[((l.take k).filter p).length]=l[k]:=by
 have e:l.filter p=(l.take k).filter p++l[k]::(l.drop (k+1)).filter p:=by
  have h1:l=l.take k++l[k]::l.drop (k+1):=by rw[<- Zat hk,List.take_append_drop]
  have h2:l.filter p=(l.take k++l[k]::l.drop (k+1)).filter p:=congrArg _ h1
  rw[h2,Za7,List.filter_cons_of_pos hp]
 refine⟨by rw[e];simp,?_⟩
 simp[e]
theorem Sd (U:St) (cs:List GV) (s:State) (hR:A4.R U s cs) (o:ByteArray) (i:Int) (hl:Aa s<=1099511627776) (hi6:i<=9223372036854775807):Ret Tryz.prog 189 [.agg cs,.str o,gi i] U (.tup [.agg [gi (Cc s o i).1.rep,gi (Cc s o i).1.seq],.bool (Cc s o i).2]) U:=by
 have hlen:cs.length=4:=A4.len hR
 refine Ae Ad0 (Z0z rfl) (by simp[vLt,cLt,sLt]) ?_
 have H:=((Hp.refl U).new 1 cs).new 1 [gi 0,gi 0]
 simp +contextual (disch:=omega) only[go_sem,A3e,I5,A2 hlen]
 generalize hn2:(U++[some (Blk.row 1 cs)]).length=n2 at*
 have hno:¬ (0<=i/\i.toNat<(rowL s o).length)->Cc s o i=(⟨0,0⟩,false):=fun h=>by unfold Cc;rw[dif_neg h]
 refine Ac (Hg _ _ s (A4.pre hR H.sub) hl) (fun hok=> ?_) (fun hok=> ?_)
 rotate_left
 ·have hpl:=hno (by simp[rowL,hok])
  obtain⟨N2,s2,H2,_⟩:=H.st 0 rfl 2 0 (.agg [gi 0,gi 0]) rfl (by decide) (by simp)
  have z2:rdB N2 n2=some [gi 0,gi 0]:=H2.pt 0 rfl
  simp +contextual (disch:=omega) only[go_sem,s2,A3 z2,A2 (cs:=[gi 0,gi 0]) rfl,hpl,H2.sub]
 by_cases hi:i<0
 ·have hpl:=hno (by omega)
  have ci:decide (i<0)=true:=decide_eq_true hi
  obtain⟨N2,s2,H2,_⟩:=H.st 0 rfl 2 0 (.agg [gi 0,gi 0]) rfl (by decide) (by simp)
  have z2:rdB N2 n2=some [gi 0,gi 0]:=H2.pt 0 rfl
  simp +contextual (disch:=omega) only[go_sem,ci,s2,A3 z2,A2 (cs:=[gi 0,gi 0]) rfl,hpl,H2.sub]
 have ci:decide (i<0)=false:=decide_eq_false hi
 obtain⟨m,rfl⟩:∃ m:Nat,i=(m:Int):=⟨i.toNat,by omega⟩
 have hrl:rowL s o=(rowC s o).filter Bg:=by simp only[rowL,hok,if_true];rfl
 have hrb:=Ol (Pt hok) o
 simp +contextual (disch:=omega) only[go_sem,ci,A3 (H.pt 1 rfl),A2 hlen]
 obtain⟨r1,N1,R1,K1⟩:=Xa _ cs s (A4.pre hR H.sub) o hok hl
 refine Ck R1 K1 ?_
 have H:=H.add K1
 simp only[Zae,Zah] at H
 rw[hrl] at hno
 have hyes:∀ h:m<((rowC s o).filter Bg).length,Cc s o m=(((rowC s o).filter Bg)[m].dot,true):=fun h=>by
  unfold Cc
  rw[dif_pos ⟨by omega,by rw[hrl];simpa using h⟩]
  simp only[hrl,Int.toNat_natCast]
 generalize hT:rowC s o=T at*
 simp +contextual (disch:=omega) only[go_sem]
 have H:Hp U N1 [ow Ak.kd r1 T,pt 1 n2 [gi 0,gi 0]]:=(((H.pick 2 rfl).drop1))
 refine A0w T.length 9 0 (fun k env N=>env 2=gi ((m:Int) - (((T.take k).filter Bg).length:Nat))/\((T.take k).filter Bg).length<=m/\env 6= .ptr n2 0/\env 8=r1/\Hp U N [ow Ak.kd r1 T,pt 1 n2 [gi 0,gi 0]]) (fun env N=>env 6= .ptr n2 0/\Cc s o m=(⟨0,0⟩,false)/\Hp U N [pt 1 n2 [gi 0,gi 0]]) (fun env N=>env 6= .ptr n2 0/\env 7= .bool true/\(Cc s o m).2=true/\Hp U N [pt 1 n2 [gi (Cc s o m).1.rep,gi (Cc s o m).1.seq]]) rfl ⟨by simp +contextual (disch:=omega) only[go_sem,Zbv,List.filter_nil,Zbq,Int.natCast_zero,Int.sub_zero],Zbe _,rfl,rfl,H⟩ ?_ ?_ ?_ ?_
 ·clear H
  rintro J Yq Wq hJ hY hW k env N hk e9 c0 ⟨e2,hc,e6,e8,H⟩
  have C1:=A8 (H.sl 0 rfl) hk
  have hln:=(H.sl 0 rfl).len
  have hsn:=A28 hk
  generalize hcc:((T.take k).filter Bg).length=c at*
  cases hg:T[k].gone with
  |true=>
   have hk0:Bg T[k]=false:=by simp[Bg,hg]
   rw[hk0,if_neg (by simp)] at hsn
   simp +contextual (disch:=omega) only[go_sem,c0,e2,e6,e8,e9,hln,C1,hg]
   refine hJ _ _ _ ⟨?_,by rw[hsn,hcc];exact hc,?_,?_,H⟩
   all_goals simp +contextual (disch:=omega) only[go_sem,e2,e6,e8,hsn,hcc]
  |false=>
   have hk0:Bg T[k]=true:=by simp[Bg,hg]
   obtain⟨hf1,hf2⟩:=flt_at hk hk0
   rw[hk0,if_pos rfl] at hsn
   by_cases hm:c=m
   ·have z:((m:Int) - c==0)=true:=by simp;omega
    have hlt:m<(T.filter Bg).length:=by omega
    have hpl:=hyes hlt
    have hix:(T.filter Bg)[m]=T[k]:=by
     have:((T.take k).filter Bg).length=m:=by omega
     rw[<- hf2];congr 1;exact this.symm
    rw[hix] at hpl
    obtain⟨N2,s2,H2,_⟩:=H.st 1 rfl 2 0 (.agg [gi T[k].dot.rep,gi T[k].dot.seq]) rfl (by decide) (by simp)
    have H2:Hp U N2 [ow Ak.kd r1 T,pt 1 n2 [gi T[k].dot.rep,gi T[k].dot.seq]]:=H2
    simp +contextual (disch:=omega) only[go_sem,c0,e2,e6,e8,e9,hln,C1,hg,z,s2]
    refine hW _ _ ⟨?_,?_,by rw[hpl],by rw[hpl];exact H2.drop1⟩
    all_goals simp +contextual (disch:=omega) only[go_sem,e6]
   ·have z:((m:Int) - c==0)=false:=by simp;omega
    have hl1:((T.take (k+1)).filter Bg).length=c+1:=by rw[hsn];simp[hcc]
    have hI:(m:Int) - c - 1=(m:Int) - ((c:Int)+1):=by omega
    simp +contextual (disch:=omega) only[go_sem,c0,e2,e6,e8,e9,hln,C1,hg,z]
    refine hJ _ _ _ ⟨?_,by rw[hl1];omega,?_,?_,H⟩
    all_goals simp +contextual (disch:=omega) only[go_sem,e2,e6,e8,hl1,hI]
 ·clear H
  rintro Yq hY env N e9 c0 ⟨e2,hc,e6,e8,H⟩
  rw[Zau] at hc
  have hln:=(H.sl 0 rfl).len
  simp +contextual (disch:=omega) only[go_sem,c0,e2,e6,e8,e9,hln]
  refine hY _ _ ⟨?_,hno (by simp;omega),H.drop1⟩
  simp +contextual (disch:=omega) only[go_sem,e6]
 ·clear H
  rintro env N ⟨e6,hpl,H⟩
  obtain⟨N2,s2,H2,_⟩:=H.st 0 rfl 2 0 (.agg [gi 0,gi 0]) rfl (by decide) (by simp)
  have z2:rdB N2 n2=some [gi 0,gi 0]:=H2.pt 0 rfl
  simp +contextual (disch:=omega) only[go_sem,e6,s2,A3 z2,A2 (cs:=[gi 0,gi 0]) rfl,hpl,H2.sub]
 ·clear H
  rintro env N ⟨e6,e7,h2,H⟩
  simp +contextual (disch:=omega) only[go_sem,e6,e7,A3 (H.pt 0 rfl),A2 (cs:=[gi (Cc s o m).1.rep,gi (Cc s o m).1.seq]) rfl,h2,H.sub]
def Ad2:Fn1:=⟨98,[.c 8 true 10,.t 9],(rg [oX 4 0,oX 7 3,o 8 (.new [z0,z0,z0,.nilS,z0,s0,s0,z0,z0,z0]),oV 9 (ki 0)] (.seq (rg [oW 12 4 4,oC 13 54 12,oU 14 13,oM 15 14,vW 16 15 5 7,vC 17 15 188 16,vU 18 15 17,oP 19 15 18,oM 20 19,vM 21 20 1,og 22 20 false (.call 128 [(.t 21),(ki 0),(ki 2)]),vU 23 20 22,oP 24 20 23,oM 25 24,vM 26 25 2,og 27 25 false (.call 128 [(.t 26),(ki 1),(ki 10000)]),vU 28 25 27,oP 29 25 28] (oG 29 (rg [o 30 (.build [z0,z0,z0,.nilS,z0,s0,s0,z0,z0,z0] []),oS 10 8 30,oV 9 (ki 3)] .ret))) (dw [oM 31 1,oF 32 0 4,oL 33 32,oM 34 1,oI 35 1 33 34,oL 36 35,oZ 37 36 1,o 38 (.build [z0,z0] [(0,1,(.t 31)),(1,1,(.t 37))]),oM 39 2,o 40 (.lit 1 0 [] []),oF 41 0 4,oL 42 41,o 43 (.app 1 8 [z0] (.t 40) (.t 42)),oF 44 0 7,oL 45 44,oF 46 1 7,oL 47 46,oF 48 2 7,oL 49 48,oF 50 3 7,oL 51 50,o 52 (.build [z0,z0,z0,.nilS,z0,s0,s0,z0,z0,z0] [(0,2,(.t 38)),(2,1,(.t 39)),(3,1,(.t 43)),(4,1,(.t 45)),(5,1,(.t 47)),(6,1,(.t 49)),(7,1,(.t 51))]),o 10 (.new [z0,z0,z0,.nilS,z0,s0,s0,z0,z0,z0])] [oS 10 10 52] (rg [oV 11 kt] (.seq (rg [oF 53 0 7,oL 54 53,oE 55 .eql 54 7] (oG 55 (.reg [oW 57 4 4,oF 58 1 7,oL 59 58,oF 60 4 7,oL 61 60,o 62 (.call 189 (oT [57,59,61])),oM 56 62,o 63 (.ext 0 (.t 56)),o 64 (.ext 1 (.t 56)),oF 65 8 10,oS 2 65 63,oM 11 64]))) (.seq (rg [oF 66 0 7,oL 67 66,oE 68 .eql 67 6,oM 69 68,jF 70 69 4 7,jL 71 69 70,jE 72 69 .gtr 71 0,oQ 73 69 72] (oG 73 (.reg [oW 75 4 4,oF 76 1 7,oL 77 76,oF 78 4 7,oL 79 78,oE 80 .sub 79 1,o 81 (.call 189 (oT [75,77,80])),oM 74 81,o 82 (.ext 0 (.t 74)),o 83 (.ext 1 (.t 74)),oF 84 8 10,oS 2 84 82,oM 11 83]))) (.seq (rg [oF 85 0 10,oW 86 2 85,oC 87 190 86,oU 88 87] (oG 88 (rg [o 89 (.build [z0,z0,z0,.nilS,z0,s0,s0,z0,z0,z0] []),oS 10 8 89,oV 9 (ki 3)] .ret))) (.seq (rg [oM 90 11,oU 91 90] (oG 91 (rg [o 92 (.build [z0,z0,z0,.nilS,z0,s0,s0,z0,z0,z0] []),oS 10 8 92,oV 9 (ki 5)] .ret))) (.seq (rg [oW 93 10 10,oC 94 96 93,oU 95 94] (oG 95 (rg [o 96 (.build [z0,z0,z0,.nilS,z0,s0,s0,z0,z0,z0] []),oS 10 8 96,oV 9 (ki 3)] .ret))) (rg [oW 97 10 10,oS 10 8 97,oV 9 (ki 0)] .ret))))))))))⟩
theorem Ai6:A6 Tryz.prog 91=some Ad2:=by kernel_rfl
def Du (s:State) (e:Edit):Dot×Bool:=if e.kind=7 then Cc s e.obj e.place else if e.kind=6/\0<e.place then Cc s e.obj (e.place - 1) else(d0,true)
def act0:Act:=⟨d0,0,[],0,⟨#[]⟩,⟨#[]⟩,0,d0⟩
def Ake (s:State) (rep time:Int) (e:Edit) (d:Dot):Act:=⟨⟨rep,at0 s.know rep+1⟩,time,s.know,e.kind,e.obj,e.key,e.val,d⟩
def A6z (s:State) (rep time:Int) (e:Edit):Act:=Ake s rep time e (Du s e).1
abbrev awV (s:State) (rep time:Int) (e:Edit) (kv:GV) (d:Dot):List GV:=[gi rep,gi (at0 s.know rep+1),gi time,kv,gi e.kind,.str e.obj,.str e.key,gi e.val,gi d.rep,gi d.seq]
def E9 (s:State) (rep time:Int) (e:Edit):Act×Int:=
 if Bf s&&(Lu e&&(inB rep 0 2&&inB time 1 10000)) then
  if Hf ⟨rep,at0 s.know rep+1⟩ then
   if(Du s e).2 then
    if Ku (A6z s rep time e) then(A6z s rep time e,0) else(act0,3)
   else(act0,5)
  else(act0,3)
 else(act0,3)
abbrev edV (e:Edit):List GV:=[gi e.kind,.str e.obj,.str e.key,gi e.val,gi e.place]
abbrev zeV:List GV:=[gi 0,gi 0,gi 0,GV.nilS,gi 0,.str ⟨#[]⟩,.str ⟨#[]⟩,gi 0,gi 0,gi 0]
theorem own0 {U N:St} {rs:List Thg} (H:Hp U N rs):Hp U N [own kAct zeV act0]:=Hp.one (Hp.ownAct (x:=act0) (Hp.nilS H))
theorem Aoi {s:State} (hok:Bf s=true) {rep:Int} (h:inB rep 0 2=true):∃ r:Nat,rep=(r:Int)/\∃ h:r<s.know.length,at0 s.know rep=s.know[r]/\0<=s.know[r]/\s.know[r]<=1000:=by
 have h2:=Bn.1 h
 have hk:okK s.know=true:=by simp only[Bf,Zaa] at hok;exact hok.1
 have hl:=I6 hk
 obtain⟨r,rfl⟩:∃ r:Nat,rep=(r:Int):=⟨rep.toNat,by omega⟩
 have hr:r<s.know.length:=by omega
 refine⟨r,rfl,hr,?_,?_⟩
 ·simp[at0,hr]
 ·have:=(Zbh.1 (by simp only[okK,Zaa] at hk;exact hk.1)) _ (Zan hr)
  simpa [seqB,inB] using this
theorem A3g (U:St) (cs:List GV) (s:State) (hR:A4.R U s cs) (rep time:Int) (e:Edit) (hl:Aa s<=1099511627776) (ho:e.obj.size<=1099511627776) (hk:e.key.size<=1099511627776) (hp:e.place<=9223372036854775807) (hm:s.know.length+e.obj.size+e.key.size<=1099511627776):∃ ds N,Ret Tryz.prog 91 [.agg cs,gi rep,gi time,.agg (edV e)] U (.tup [.agg ds,gi (E9 s rep time e).2]) N/\Hp U N [own kAct ds (E9 s rep time e).1]:=by
 have hR0:=hR
 obtain⟨a1,b1,c1,v1,rfl,hkn,hb,hc,hv⟩:=hR
 obtain⟨l1,l2,l3,l4,_⟩:=Aq hl
 have key:∃ q N,Ret Tryz.prog 91 [.agg [a1,b1,c1,v1],gi rep,gi time,.agg (edV e)] U q N/\∃ ds,q= .tup [.agg ds,gi (E9 s rep time e).2]/\Hp U N [own kAct ds (E9 s rep time e).1]:=by
  refine Ch Ai6 (Z0z rfl) ?_
  have H:=(((Hp.refl U).new 1 [a1,b1,c1,v1]).new 1 (edV e)).new 1 zeV
  simp only[Ad2]
  obtain⟨n3,hn3⟩:∃ n,n=(U++[some (Blk.row 1 [a1,b1,c1,v1])]++[some (Blk.row 1 (edV e))]).length:=⟨_,rfl⟩
  obtain⟨n2,hn2⟩:∃ n,n=(U++[some (Blk.row 1 [a1,b1,c1,v1])]).length:=⟨_,rfl⟩
  obtain⟨n1,hn1⟩:∃ n,n=U.length:=⟨_,rfl⟩
  rw[<- hn3,<-hn2,<-hn1] at H
  refine Cf (fun env N=>env 1=gi rep/\env 2=gi time/\env 4= .ptr n1 0/\env 7= .ptr n2 0/\env 8= .ptr n3 0/\Hp U N [pt 1 n3 zeV,pt 1 n2 (edV e),pt 1 n1 [a1,b1,c1,v1]]) (fun Yq hY=>by
   simp +contextual (disch:=omega) only[go_sem]
   refine hY _ _ ⟨?_,?_,?_,?_,?_,H⟩
   all_goals simp +contextual (disch:=omega) only[go_sem,hn1,hn2,hn3]) ?_
  clear H
  rintro env N ⟨e1,e2,e4,e7,e8,H⟩
  have bad:∀ c,E9 s rep time e=(act0,c)->∃ Nr,stG 10 N (.ptr n3 0) (.agg zeV)=some (.tup [],Nr)/\ldG true 10 Nr (.ptr n3 0)=some (.agg zeV)/\∃ ds,(GV.tup [.agg zeV,gi c])= .tup [.agg ds,gi (E9 s rep time e).2]/\Hp U Nr [own kAct ds (E9 s rep time e).1]:=fun c hc=>by
   obtain⟨Nr,sr,Hr,_⟩:=H.st 0 rfl 10 0 (.agg zeV) rfl (by decide) (by simp)
   have zr:rdB Nr n3=some zeV:=Hr.pt 0 rfl
   refine⟨Nr,sr,?_,zeV,by rw[hc],by rw[hc];exact own0 Hr⟩
   simp +contextual (disch:=omega) only[go_sem,A3 zr,A2 (cs:=zeV) rfl]
  refine Cf (fun env N'=>env 1=gi rep/\env 2=gi time/\env 4= .ptr n1 0/\env 7= .ptr n2 0/\env 8= .ptr n3 0/\N=N'/\(Bf s&&(Lu e&&(inB rep 0 2&&inB time 1 10000)))=true) (fun Yq hY=>by
   simp +contextual (disch:=omega) only[go_sem,e1,e2,e4,e7,e8,A3 (H.pt 2 rfl),A2 (cs:=[a1,b1,c1,v1]) rfl]
   refine Ac (Hg _ _ s (A4.pre hR0 H.sub) hl) (fun h1=> ?_) (fun h1=> ?_)
   rotate_left
   ·obtain⟨Nr,q1,q2,q3⟩:=bad 3 (by simp[E9,h1])
    simp +contextual (disch:=omega) only[go_sem,e1,e2,e4,e7,e8,q1,q2]
    exact⟨_,rfl,q3⟩
   simp +contextual (disch:=omega) only[go_sem,e1,e2,e4,e7,e8,A3 (H.pt 1 rfl),A2 (cs:=edV e) rfl]
   refine Ac (Ad1 _ e ho hk) (fun h2=> ?_) (fun h2=> ?_)
   rotate_left
   ·obtain⟨Nr,q1,q2,q3⟩:=bad 3 (by simp[E9,h1,h2])
    simp +contextual (disch:=omega) only[go_sem,e1,e2,e4,e7,e8,q1,q2]
    exact⟨_,rfl,q3⟩
   simp +contextual (disch:=omega) only[go_sem,e1,e2,e4,e7,e8]
   refine Ac (Ay _ rep 0 2) (fun h3=> ?_) (fun h3=> ?_)
   rotate_left
   ·obtain⟨Nr,q1,q2,q3⟩:=bad 3 (by simp[E9,h1,h2,h3])
    simp +contextual (disch:=omega) only[go_sem,e1,e2,e4,e7,e8,q1,q2]
    exact⟨_,rfl,q3⟩
   simp +contextual (disch:=omega) only[go_sem,e1,e2,e4,e7,e8]
   refine Ac (Ay _ time 1 10000) (fun h4=> ?_) (fun h4=> ?_)
   rotate_left
   ·obtain⟨Nr,q1,q2,q3⟩:=bad 3 (by simp[E9,h1,h2,h3,h4])
    simp +contextual (disch:=omega) only[go_sem,e1,e2,e4,e7,e8,q1,q2]
    exact⟨_,rfl,q3⟩
   simp +contextual (disch:=omega) only[go_sem,e1,e2,e4,e7,e8]
   refine hY _ _ ⟨?_,?_,?_,?_,?_,rfl,by simp[h1,h2,h3,h4]⟩
   all_goals simp +contextual (disch:=omega) only[go_sem,e1,e2,e4,e7,e8]) ?_
  clear e1 e2 e4 e7 e8
  rintro env N' ⟨e1,e2,e4,e7,e8,rfl,hh⟩
  have hh0:=hh
  simp only[Zaa] at hh
  obtain⟨r,hr,hrl,hat,hr0,hr1⟩:=Aoi hh.1 hh.2.2.1
  have A1:=Cx (hkn.pre H.sub) hrl
  have n0:B5 (some (.int .i64 rep))=some r:=by rw[hr];exact A5
  refine Cf (fun env N=>∃ n10 kv,env 1=gi rep/\env 2=gi time/\env 4= .ptr n1 0/\env 7= .ptr n2 0/\env 8= .ptr n3 0/\env 10= .ptr n10 0/\Hp U N [pt 1 n10 (awV s rep time e kv d0),ow pI.kd kv s.know,pt 1 n3 zeV,pt 1 n2 (edV e),pt 1 n1 [a1,b1,c1,v1]]) (fun Yq hY=>by
   have z1:=Tj (H.pt 2 rfl) [some (Blk.row 1 [])]
   obtain⟨kv,Nk,ek,qk,Hk⟩:=H.cp_int (hkn.pre H.sub) l1
   have ck:=(Hk.sl 0 rfl).cell
   have Hn:=(Hk.new 1 (awV s rep time e kv d0))
   simp +contextual (disch:=omega) only[go_sem,e1,e2,e4,e7,e8,A3 (H.pt 2 rfl),A3 (H.pt 1 rfl),A3 z1,A3 (Hk.pt 2 rfl),n0,A1,ek,qk,ck,<-hat]
   refine hY _ _ ⟨Nk.length,kv,?_,?_,?_,?_,?_,?_,Hn⟩
   all_goals simp +contextual (disch:=omega) only[go_sem,e1,e2,e4,e7,e8]) ?_
  clear H e1 e2 e4 e7 e8 bad A1
  rintro env N ⟨n10,kv,e1,e2,e4,e7,e8,e10,H⟩
  refine Cf (fun env N'=>N=N'/\env 1=gi rep/\env 2=gi time/\env 4= .ptr n1 0/\env 7= .ptr n2 0/\env 8= .ptr n3 0/\env 10= .ptr n10 0/\env 11= .bool true) (fun Yq hY=>by
   simp +contextual (disch:=omega) only[go_sem,e1,e2,e4,e7,e8,e10]
   refine hY _ _ ⟨rfl,?_,?_,?_,?_,?_,?_,?_⟩
   all_goals simp +contextual (disch:=omega) only[go_sem,e1,e2,e4,e7,e8,e10]) ?_
  clear e1 e2 e4 e7 e8 e10
  rintro env N' ⟨rfl,e1,e2,e4,e7,e8,e10,e11⟩
  refine Cf (fun env N=>env 4= .ptr n1 0/\env 7= .ptr n2 0/\env 8= .ptr n3 0/\env 10= .ptr n10 0/\env 11= .bool (if e.kind=7 then Cc s e.obj e.place else(d0,true)).2/\Hp U N [pt 1 n10 (awV s rep time e kv (if e.kind=7 then Cc s e.obj e.place else(d0,true)).1),ow pI.kd kv s.know,pt 1 n3 zeV,pt 1 n2 (edV e),pt 1 n1 [a1,b1,c1,v1]]) (fun Yq hY=>by
   by_cases k7:e.kind=7
   ·have b7:(e.kind==7)=true:=by simp[k7]
    simp only[if_pos k7] at hY
    have PR:=Sd N _ s (A4.pre hR0 H.sub) e.obj e.place hl hp
    obtain⟨N2,st2,H2,_⟩:=H.st 0 rfl 2 8 (.agg [gi (Cc s e.obj e.place).1.rep,gi (Cc s e.obj e.place).1.seq]) rfl (by decide) (by simp)
    simp +contextual (disch:=omega) only[go_sem,e4,e7,e8,e10,b7,A3 (H.pt 3 rfl),A3 (H.pt 4 rfl),A2 (cs:=[a1,b1,c1,v1]) rfl]
    refine A9 PR ?_
    simp +contextual (disch:=omega) only[go_sem,e4,e7,e8,e10,st2]
    refine hY _ _ ⟨?_,?_,?_,?_,?_,H2⟩
    all_goals simp +contextual (disch:=omega) only[go_sem,e4,e7,e8,e10]
   ·have b7:(e.kind==7)=false:=by simp[k7]
    simp only[if_neg k7] at hY
    simp +contextual (disch:=omega) only[go_sem,e4,e7,e8,e10,e11,b7,A3 (H.pt 3 rfl)]
    refine hY _ _ ⟨?_,?_,?_,?_,?_,H⟩
    all_goals simp +contextual (disch:=omega) only[go_sem,e4,e7,e8,e10,e11]) ?_
  clear H e1 e2 e4 e7 e8 e10 e11
  rintro env N ⟨e4,e7,e8,e10,e11,H⟩
  refine Cf (fun env N=>env 4= .ptr n1 0/\env 7= .ptr n2 0/\env 8= .ptr n3 0/\env 10= .ptr n10 0/\env 11= .bool (Du s e).2/\Hp U N [pt 1 n10 (awV s rep time e kv (Du s e).1),ow pI.kd kv s.know,pt 1 n3 zeV,pt 1 n2 (edV e),pt 1 n1 [a1,b1,c1,v1]]) (fun Yq hY=>by
   by_cases k7:e.kind=7
   ·have b6:(e.kind==6)=false:=by simp[k7]
    have hq:Du s e=Cc s e.obj e.place:=if_pos k7
    rw[if_pos k7] at H e11
    simp +contextual (disch:=omega) only[go_sem,e4,e7,e8,e10,e11,b6,A3 (H.pt 3 rfl)]
    refine hY _ _ ⟨?_,?_,?_,?_,?_,by rw[hq];exact H⟩
    all_goals simp +contextual (disch:=omega) only[go_sem,e4,e7,e8,e10,e11,hq]
   rw[if_neg k7] at H e11
   by_cases k6:e.kind=6
   ·have b6:(e.kind==6)=true:=by simp[k6]
    by_cases kp:0<e.place
    ·have bp:decide (0<e.place)=true:=decide_eq_true kp
     have hq:Du s e=Cc s e.obj (e.place - 1):=by unfold Du;rw[if_neg k7,if_pos ⟨k6,kp⟩]
     have PR:=Sd N _ s (A4.pre hR0 H.sub) e.obj (e.place - 1) hl (by omega)
     obtain⟨N2,st2,H2,_⟩:=H.st 0 rfl 2 8 (.agg [gi (Cc s e.obj (e.place - 1)).1.rep,gi (Cc s e.obj (e.place - 1)).1.seq]) rfl (by decide) (by simp)
     simp +contextual (disch:=omega) only[go_sem,e4,e7,e8,e10,b6,bp,A3 (H.pt 3 rfl),A3 (H.pt 4 rfl),A2 (cs:=[a1,b1,c1,v1]) rfl]
     refine A9 PR ?_
     simp +contextual (disch:=omega) only[go_sem,e4,e7,e8,e10,st2]
     refine hY _ _ ⟨?_,?_,?_,?_,?_,by rw[hq];exact H2⟩
     all_goals simp +contextual (disch:=omega) only[go_sem,e4,e7,e8,e10,hq]
    ·have bp:decide (0<e.place)=false:=decide_eq_false kp
     have hq:Du s e=(d0,true):=by unfold Du;rw[if_neg k7,if_neg (fun h=>kp h.2)]
     simp +contextual (disch:=omega) only[go_sem,e4,e7,e8,e10,e11,b6,bp,A3 (H.pt 3 rfl)]
     refine hY _ _ ⟨?_,?_,?_,?_,?_,by rw[hq];exact H⟩
     all_goals simp +contextual (disch:=omega) only[go_sem,e4,e7,e8,e10,e11,hq]
   ·have b6:(e.kind==6)=false:=by simp[k6]
    have hq:Du s e=(d0,true):=by unfold Du;rw[if_neg k7,if_neg (fun h=>k6 h.1)]
    simp +contextual (disch:=omega) only[go_sem,e4,e7,e8,e10,e11,b6,A3 (H.pt 3 rfl)]
    refine hY _ _ ⟨?_,?_,?_,?_,?_,by rw[hq];exact H⟩
    all_goals simp +contextual (disch:=omega) only[go_sem,e4,e7,e8,e10,e11,hq]) ?_
  clear H e4 e7 e8 e10 e11
  rintro env N ⟨e4,e7,e8,e10,e11,H⟩
  have bad:∀ c,E9 s rep time e=(act0,c)->∃ Nr,stG 10 N (.ptr n3 0) (.agg zeV)=some (.tup [],Nr)/\ldG true 10 Nr (.ptr n3 0)=some (.agg zeV)/\∃ ds,(GV.tup [.agg zeV,gi c])= .tup [.agg ds,gi (E9 s rep time e).2]/\Hp U Nr [own kAct ds (E9 s rep time e).1]:=fun c hc=>by
   obtain⟨Nr,sr,Hr,_⟩:=H.st 2 rfl 10 0 (.agg zeV) rfl (by decide) (by simp)
   have zr:rdB Nr n3=some zeV:=Hr.pt 2 rfl
   refine⟨Nr,sr,?_,zeV,by rw[hc],by rw[hc];exact own0 Hr⟩
   simp +contextual (disch:=omega) only[go_sem,A3 zr,A2 (cs:=zeV) rfl]
  simp +contextual (disch:=omega) only[go_sem,e4,e7,e8,e10,e11,A3 (H.pt 0 rfl)]
  refine Ac (Fz N ⟨rep,at0 s.know rep+1⟩) (fun h5=> ?_) (fun h5=> ?_)
  rotate_left
  ·obtain⟨Nr,q1,q2,q3⟩:=bad 3 (by unfold E9;rw[if_pos hh0,if_neg (by simp[h5])])
   simp +contextual (disch:=omega) only[go_sem,e4,e7,e8,e10,e11,q1,q2]
   exact⟨_,rfl,q3⟩
  cases h6:(Du s e).2 with
  |false=>
   rw[h6] at e11
   obtain⟨Nr,q1,q2,q3⟩:=bad 5 (by unfold E9;rw[if_pos hh0,if_pos h5,if_neg (by simp[h6])])
   simp +contextual (disch:=omega) only[go_sem,e4,e7,e8,e10,e11,q1,q2]
   exact⟨_,rfl,q3⟩
  |true=>
   rw[h6] at e11
   simp +contextual (disch:=omega) only[go_sem,e4,e7,e8,e10,e11,A3 (H.pt 0 rfl),A2 (cs:=awV s rep time e kv (Du s e).1) rfl]
   refine Ac (A1u N (awV s rep time e kv (Du s e).1) (A6z s rep time e) ⟨kv,rfl,H.sl 1 rfl⟩ (by unfold Adz;exact hm)) (fun h7=> ?_) (fun h7=> ?_)
   rotate_left
   ·obtain⟨Nr,q1,q2,q3⟩:=bad 3 (by unfold E9;rw[if_pos hh0,if_pos h5,if_pos h6,if_neg (by simp[h7])])
    simp +contextual (disch:=omega) only[go_sem,e4,e7,e8,e10,e11,q1,q2]
    exact⟨_,rfl,q3⟩
   have hd:E9 s rep time e=(A6z s rep time e,0):=by unfold E9;rw[if_pos hh0,if_pos h5,if_pos h6,if_pos h7]
   obtain⟨Nr,sr,Hr,_⟩:=H.st 2 rfl 10 0 (.agg (awV s rep time e kv (Du s e).1)) rfl (by decide) (by simp)
   have zr:rdB Nr n3=some (awV s rep time e kv (Du s e).1):=Hr.pt 2 rfl
   simp +contextual (disch:=omega) only[go_sem,e4,e7,e8,e10,e11,A3 (H.pt 0 rfl),sr,A3 zr,A2 (cs:=awV s rep time e kv (Du s e).1) rfl]
   exact⟨_,rfl,_,by rw[hd],by rw[hd];exact((Hr.pick 1 rfl).ownAct (x:=A6z s rep time e)).one⟩
 obtain⟨q,N,R,ds,rfl,h⟩:=key
 exact⟨ds,N,R,h⟩
section
variable {U N:St} {rs:List Thg} {Y:Type} {d:Kd Y} {v:GV} {l:List Y} {cs:List GV} {j:Nat}
end
section
variable {P:Program} {U N:St} {h:List Item} {K:Kx} {v:GV} {Y:Type} {l:List Y} {d:Kd Y} {cs:List GV} {j:Nat}
end
def restP {Y:Type} (d:Kd Y) (v:GV) (l:List Y) (j:Nat) (N:St) (fp:List Nat):Prop:=
 (l=[]/\v= .nilS/\fp=[])∨∃ g pre c1 c2 post f2,v= .sl g pre.length l.length/\bk N g=some (.row d.z (pre++(c1++c2.flatten)++post))/\c1.length=j*d.z/\All3 (d.O N) (l.drop j) c2 f2/\fp=g::f2.flatten
def rest {Y:Type} (d:Kd Y) (v:GV) (l:List Y) (j:Nat):Thg:=⟨restP d v l j,fun {U N fp} h hf=>by
 rcases h with h|⟨g,pre,c1,c2,post,f2,h1,h2,h3,h4,rfl⟩
 ·exact .inl h
 refine .inr ⟨g,pre,c1,c2,post,f2,h1,by rw[hf g Zaf];exact h2,h3,h4.imp fun a b c hc ho=>d.loc ho fun g' hg'=>hf g' ?_,rfl⟩
 exact Zag _ (List.mem_flatten.2 ⟨c,hc,hg'⟩)⟩
section
variable {U N:St} {rs:List Thg} {Y:Type} {d:Kd Y} {v:GV} {l:List Y} {j:Nat}
end
section
variable {U N:St} {rs:List Thg} {Y:Type} {d:Kd Y} {v:GV} {l:List Y} {cs:List GV} {j:Nat}
end
def A3h:Fn1:=⟨9,[.t 4],(rg [oV 4 kf] (rg [oM 5 0,oM 6 1,oD 7 92 5 6,oE 8 .eql 7 0,oM 4 8] .ret))⟩
theorem Ad3:A6 Tryz.prog 124=some A3h:=by kernel_rfl
def A3i:Fn1:=⟨12,[.t 4],(rg [o 4 (.mov (.k s0))] (rg [oM 5 1,oM 6 0,oM 7 1,oN 8 7,oD 9 92 6 8,oI 10 1 5 9,oL 11 10,oM 4 11] .ret))⟩
theorem Ad4:A6 Tryz.prog 215=some A3i:=by kernel_rfl
def Pb:Fn1:=⟨12,[.t 4],(rg [oV 4 (ki 0)] (rg [oM 5 1,oM 6 0,oM 7 1,oN 8 7,oD 9 92 6 8,oI 10 1 5 9,oL 11 10,oM 4 11] .ret))⟩
theorem A3j:A6 Tryz.prog 192=some Pb:=by kernel_rfl
def A70:Fn1:=⟨6,[.t 2],(rg [o 2 (.mov (.k s0))] (rg [oM 3 0,o 4 (.lit 1 3 [s0,s0,s0] [(0,1,(.k (.str ⟨#[97]⟩))),(1,1,(.k (.str ⟨#[98]⟩))),(2,1,(.k (.str ⟨#[116,97,108,108,121]⟩)))]),oD 5 215 3 4,oM 2 5] .ret))⟩
theorem Afh:A6 Tryz.prog 150=some A70:=by kernel_rfl
def A71:Fn1:=⟨6,[.t 2],(rg [o 2 (.mov (.k s0))] (rg [oM 3 0,o 4 (.lit 1 3 [s0,s0,s0] [(0,1,(.k (.str ⟨#[120]⟩))),(1,1,(.k (.str ⟨#[121]⟩))),(2,1,(.k (.str ⟨#[122,111,111]⟩)))]),oD 5 215 3 4,oM 2 5] .ret))⟩
theorem Afi:A6 Tryz.prog 194=some A71:=by kernel_rfl
def A3k:Fn1:=⟨30,[.c 2 true 5],(rg [o 2 (.new [z0,s0,s0,z0,z0])] (rg [oM 4 0,o 5 (.lit 1 9 [z0,z0,z0,z0,z0,z0,z0,z0,z0] [(0,1,(ki 1)),(1,1,(ki 2)),(2,1,(ki 3)),(3,1,(ki 4)),(4,1,(ki 5)),(5,1,(ki 6)),(6,1,(ki 6)),(7,1,(ki 6)),(8,1,(ki 7))]),oD 6 192 4 5,oM 7 0,oC 8 150 7,o 9 (.build [z0,s0,s0,z0,z0] [(0,1,(.t 6)),(1,1,(.t 8))]),o 3 (.new [z0,s0,s0,z0,z0]),oS 5 3 9] (.seq (rg [oF 10 0 3,oL 11 10,oC 12 193 11] (oG 12 (.reg [oM 13 0,oC 14 194 13,oF 15 2 3,oS 1 15 14]))) (.seq (rg [oF 16 0 3,oL 17 16,oC 18 195 17] (oG 18 (.reg [oM 19 0,o 20 (.lit 1 4 [z0,z0,z0,z0] [(0,1,(ki 0)),(1,1,(ki 1)),(2,1,(ki 7)),(3,1,(ki 999999))]),oD 21 192 19 20,oF 22 3 3,oS 1 22 21]))) (.seq (rg [oF 23 0 3,oL 24 23,oE 25 .geq 24 6] (oG 25 (.reg [oM 26 0,o 27 (.call 92 [(.t 26),(ki 3)]),oF 28 4 3,oS 1 28 27]))) (rg [oW 29 5 3,oS 5 2 29] .ret))))))⟩
theorem Ad5:A6 Tryz.prog 93=some A3k:=by kernel_rfl
section
variable {P:Program} {D:Bool} {U0 U N N':St} {h:List Item} {k:Kx} {f:Nat} {args:List GV} {v:GV}
theorem by_k (R:Ret P f args N v N') (H:Hx U N' h) (kk:k v h N'):Aax P U false N f args k:=by_m R H kk
theorem Ap:∀ {h:List Item} {n:Nat},frX U0 h n->U0.length<=n
 |[],_,h=>h
 | .box _ _ _::h,_,hf=>Ap (h:=h) hf.2
 | .th _::h,_,hf=>Ap (h:=h) hf
theorem Hx.tl {x:Item} (H:Hx U N (x::h)):Hx U N h:=Hp.drop1 H
end
structure Dr (U0:St) (v:GV) (bs:List Int):Prop where
 hv:RS pB.kd U0 v bs
 hl:bs.length<=1099511627776
abbrev cuI (c v:GV) (bs:List Int):Item:=.th (crs c v bs.length)
section
variable {U0 U:St} {h:List Item} {c v:GV} {bs:List Int}
theorem Co (H:Hx U0 U h) (k:Nat) (hk:h[k]? =some (cuI c v bs)) (D:Dr U0 v bs) (n:Int) (hn:0<n) (hn2:n<=4611686018427387904):∃(x:Nat) (N:St),(x:Int)<n/\Ret Tryz.prog 92 [c,gi n] U (gi x) N/\Hx U0 N h:=by
 obtain⟨r,N,R,x,rfl,h1,_,h2,H'⟩:=Pa (U0:=U0) H (at_t hk) D.hv D.hl n hn2
 obtain⟨y,rfl⟩:∃ y:Nat,x=y:=⟨x.toNat,by omega⟩
 exact⟨y,N,h2 hn,R,H'⟩
theorem Alu (H:Hx U0 U h) (k:Nat) (hk:h[k]? =some (cuI c v bs)) (D:Dr U0 v bs) (n:Int) (hn2:n<=4611686018427387904):∃(x:Nat) (N:St),(0<n->(x:Int)<n)/\Ret Tryz.prog 92 [c,gi n] U (gi x) N/\Hx U0 N h:=by
 obtain⟨r,N,R,x,rfl,h1,_,h2,H'⟩:=Pa (U0:=U0) H (at_t hk) D.hv D.hl n hn2
 obtain⟨y,rfl⟩:∃ y:Nat,x=y:=⟨x.toNat,by omega⟩
 exact⟨y,N,h2,R,H'⟩
theorem Se (H:Hx U0 U h) (k:Nat) (hk:h[k]? =some (cuI c v bs)) (D:Dr U0 v bs) (n:Int) (hn2:n<=4611686018427387904):∃(b:Bool) (N:St),Ret Tryz.prog 124 [c,gi n] U (.bool b) N/\Hx U0 N h:=by
 have key:∃ w N,Ret Tryz.prog 124 [c,gi n] U w N/\∃ b,w= .bool b/\Hx U0 N h:=by
  refine Gi Ad3 (Z0z rfl) H ?_
  simp +contextual (disch:=omega) only[go_sem,A3h]
  obtain⟨x,N1,hx,R1,H1⟩:=Alu H k hk D n hn2
  refine by_k R1 H1 ?_
  simp +contextual (disch:=omega) only[go_sem]
  exact fun _=>⟨_,rfl,_,rfl⟩
 obtain⟨w,N,R,b,rfl,H'⟩:=key
 exact⟨b,N,R,H'⟩
theorem Lg (H:Hx U0 U h) (k:Nat) (hk:h[k]? =some (cuI c v bs)) (D:Dr U0 v bs) {u:GV} {l:List ByteArray} (hu:∀ N',Hx U0 N' h->RS pS.kd N' u l) (hl:0<l.length) (hl2:l.length<=1000):∃(s:ByteArray) (N:St),s∈l/\Ret Tryz.prog 215 [c,u] U (.str s) N/\Hx U0 N h:=by
 have key:∃ w N,Ret Tryz.prog 215 [c,u] U w N/\∃ s,w= .str s/\s∈l/\Hx U0 N h:=by
  refine Gi Ad4 (Z0z rfl) H ?_
  have hn:=(hu U H).len
  simp +contextual (disch:=omega) only[go_sem,A3i,hn]
  obtain⟨x,N1,hx,R1,H1⟩:=Co H k hk D l.length (by omega) (by omega)
  refine by_k R1 H1 ?_
  have L:=Ih (hu N1 H1) (i:=x) (by omega)
  have L2:=Pn H1 L.2
  simp +contextual (disch:=omega) only[go_sem,A5,L.1,L2]
  exact fun _=>⟨_,rfl,_,rfl,Zan _⟩
 obtain⟨w,N,R,s,rfl,hs,H'⟩:=key
 exact⟨s,N,hs,R,H'⟩
theorem Cg (H:Hx U0 U h) (k:Nat) (hk:h[k]? =some (cuI c v bs)) (D:Dr U0 v bs) {u:GV} {l:List Int} (hu:∀ N',Hx U0 N' h->RS pI.kd N' u l) (hl:0<l.length) (hl2:l.length<=1000):∃(s:Int) (N:St),s∈l/\Ret Tryz.prog 192 [c,u] U (gi s) N/\Hx U0 N h:=by
 have key:∃ w N,Ret Tryz.prog 192 [c,u] U w N/\∃ s,w=gi s/\s∈l/\Hx U0 N h:=by
  refine Gi A3j (Z0z rfl) H ?_
  have hn:=(hu U H).len
  simp +contextual (disch:=omega) only[go_sem,Pb,hn]
  obtain⟨x,N1,hx,R1,H1⟩:=Co H k hk D l.length (by omega) (by omega)
  refine by_k R1 H1 ?_
  have L:=Cx (hu N1 H1) (i:=x) (by omega)
  have L2:=Pn H1 L.2
  simp +contextual (disch:=omega) only[go_sem,A5,L.1,L2]
  exact fun _=>⟨_,rfl,_,rfl,Zan _⟩
 obtain⟨w,N,R,s,rfl,hs,H'⟩:=key
 exact⟨s,N,hs,R,H'⟩
theorem litS {n:Nat} {l:List ByteArray} {cs:List GV} (e:cs=pS.cells l) (hl:0<l.length):∀ N,Hx U0 N (.box 1 n cs::h)->RS pS.kd N (.sl n 0 l.length) l:=fun N H=>(Hp.toRow (p:=pS) H.hp 0 (by rw[e];rfl) l rfl rfl _ rfl).sl 0 rfl
theorem litI {n:Nat} {l:List Int} {cs:List GV} (e:cs=pI.cells l) (hl:0<l.length):∀ N,Hx U0 N (.box 1 n cs::h)->RS pI.kd N (.sl n 0 l.length) l:=fun N H=>(Hp.toRow (p:=pI) H.hp 0 (by rw[e];rfl) l rfl rfl _ rfl).sl 0 rfl
def A9d:List ByteArray:=[⟨#[97]⟩,⟨#[98]⟩,⟨#[116,97,108,108,121]⟩]
def Afj:List ByteArray:=[⟨#[120]⟩,⟨#[121]⟩,⟨#[122,111,111]⟩]
theorem O1 (H:Hx U0 U h) (k:Nat) (hk:h[k]? =some (cuI c v bs)) (D:Dr U0 v bs):∃(s:ByteArray) (N:St),s∈A9d/\Ret Tryz.prog 150 [c] U (.str s) N/\Hx U0 N h:=by
 have key:∃ w N,Ret Tryz.prog 150 [c] U w N/\∃ s,w= .str s/\s∈A9d/\Hx U0 N h:=by
  refine Gi Afh (Z0z rfl) H ?_
  simp +contextual (disch:=omega) only[go_sem,A70]
  intro n1 f1 N1 H1
  have g1:=Ap (by first|exact f1|exact f1.2|exact f1.2.2|exact f1.2.2.2:frX U0 h n1)
  obtain⟨s,N2,hs,R2,H2⟩:=Lg H1 (k+1) hk D (litS (l:=A9d) rfl (by decide)) (by decide) (by decide)
  refine by_k R2 H2 ?_
  simp +contextual (disch:=omega) only[go_sem]
  exact fun _=>⟨_,rfl,_,rfl,hs,H2.tl⟩
 obtain⟨w,N,R,s,rfl,hs,H'⟩:=key
 exact⟨s,N,hs,R,H'⟩
theorem Gp (H:Hx U0 U h) (k:Nat) (hk:h[k]? =some (cuI c v bs)) (D:Dr U0 v bs):∃(s:ByteArray) (N:St),s∈Afj/\Ret Tryz.prog 194 [c] U (.str s) N/\Hx U0 N h:=by
 have key:∃ w N,Ret Tryz.prog 194 [c] U w N/\∃ s,w= .str s/\s∈Afj/\Hx U0 N h:=by
  refine Gi Afi (Z0z rfl) H ?_
  simp +contextual (disch:=omega) only[go_sem,A71]
  intro n1 f1 N1 H1
  have g1:=Ap (by first|exact f1|exact f1.2|exact f1.2.2|exact f1.2.2.2:frX U0 h n1)
  obtain⟨s,N2,hs,R2,H2⟩:=Lg H1 (k+1) hk D (litS (l:=Afj) rfl (by decide)) (by decide) (by decide)
  refine by_k R2 H2 ?_
  simp +contextual (disch:=omega) only[go_sem]
  exact fun _=>⟨_,rfl,_,rfl,hs,H2.tl⟩
 obtain⟨w,N,R,s,rfl,hs,H'⟩:=key
 exact⟨s,N,hs,R,H'⟩
structure EdD (e:Edit):Prop where
 kind:1<=e.kind/\e.kind<=7
 obj:e.obj∈A9d
 key:if Ahr e.kind then e.key∈Afj else e.key=noS
 val:e.val=0∨(A1t e.kind=true/\e.val∈[0,1,7,999999])
 place:0<=e.place/\e.place<=2/\(e.kind<6->e.place=0)
theorem A9e {s:ByteArray} (h:s∈A9d):Bw s=true/\s.size<=5:=by
 simp only[A9d,Zaj,Zav,or_false] at h
 rcases h with rfl|rfl|rfl<;>decide
theorem Afk {s:ByteArray} (h:s∈Afj):Bw s=true/\s.size<=3:=by
 simp only[Afj,Zaj,Zav,or_false] at h
 rcases h with rfl|rfl|rfl<;>decide
theorem EdD.size {e:Edit} (h:EdD e):e.obj.size<=5/\e.key.size<=3:=by
 refine⟨(A9e h.obj).2,?_⟩
 have:=h.key
 split at this
 ·exact(Afk this).2
 ·rw[this];decide
theorem Sf (H:Hx U0 U h) (k:Nat) (hk:h[k]? =some (cuI c v bs)) (D:Dr U0 v bs):∃(e:Edit) (N:St),EdD e/\Ret Tryz.prog 93 [c] U (.agg (edV e)) N/\Hx U0 N h:=by
 have key:∃ w N,Ret Tryz.prog 93 [c] U w N/\∃ e:Edit,w= .agg (edV e)/\EdD e/\Hx U0 N h:=by
  refine Gi Ad5 (Z0z rfl) H ?_
  simp +contextual (disch:=omega) only[go_sem,A3k]
  intro n1 f1 N1 H1 n2 f2 N2 H2
  have g1:=Ap (by first|exact f1|exact f1.2|exact f1.2.2|exact f1.2.2.2:frX U0 h n1)
  have g2:=Ap (by first|exact f2|exact f2.2|exact f2.2.2|exact f2.2.2.2:frX U0 h n2)
  obtain⟨kd,N3,hkd,R3,H3⟩:=Cg H2 (k+2) hk D (litI (l:=[1,2,3,4,5,6,6,6,7]) rfl (by decide)) (by decide) (by decide)
  have hkd:1<=kd/\kd<=7:=by
   simp only[Zaj,Zav,or_false] at hkd
   omega
  refine by_k R3 H3 ?_
  simp +contextual (disch:=omega) only[go_sem]
  obtain⟨ob,N4,hob,R4,H4⟩:=O1 H3 (k+2) hk D
  refine by_k R4 H4 ?_
  simp +contextual (disch:=omega) only[go_sem]
  intro n5 f5 N5 H5 N6 H6
  have g5:=Ap (by first|exact f5|exact f5.2|exact f5.2.2|exact f5.2.2.2:frX U0 h n5)
  refine by_r H6 (Kr _ kd) ?_
  cases hk1:Ahr kd with
  |true=>
   cases hv1:A1t kd with
   |true=>
    cases hp1:decide (6<=kd) with
    |true=>
     simp +contextual (disch:=omega) only[go_sem,hk1,hv1,hp1]
     obtain⟨ky,N7,hky,R7,H7⟩:=Gp H6 (k+3) hk D
     refine by_k R7 H7 ?_
     simp +contextual (disch:=omega) only[go_sem,hk1,hv1,hp1]
     intro N8 H8
     refine by_r H8 (Ca _ kd) ?_
     simp +contextual (disch:=omega) only[go_sem,hk1,hv1,hp1]
     intro n9 f9 N9 H9
     have g9:=Ap (by first|exact f9|exact f9.2|exact f9.2.2|exact f9.2.2.2:frX U0 h n9)
     obtain⟨vl,N10,hvl,R10,H10⟩:=Cg H9 (k+4) hk D (litI (l:=[0,1,7,999999]) rfl (by decide)) (by decide) (by decide)
     refine by_k R10 H10 ?_
     simp +contextual (disch:=omega) only[go_sem,hk1,hv1,hp1]
     intro N11 H11
     try simp +contextual (disch:=omega) only[go_sem,hk1,hv1,hp1]
     obtain⟨pl,N12,hpl,R12,H12⟩:=Co H11 (k+4) hk D 3 (by decide) (by decide)
     refine by_k R12 H12 ?_
     simp +contextual (disch:=omega) only[go_sem,hk1,hv1,hp1]
     intro N13 H13
     intro N14 H14
     exact⟨_,rfl,⟨kd,ob,ky,vl,pl⟩,rfl,⟨hkd,hob,by simp only[hk1];exact hky,.inr ⟨hv1,hvl⟩,by simp only[decide_eq_true_eq,decide_eq_false_iff_not] at hp1;refine⟨by simp,by simp;try omega,fun h=> ?_⟩;simp only at h;first|rfl|omega⟩,H14.tl.tl.tl.tl⟩
    |false=>
     simp +contextual (disch:=omega) only[go_sem,hk1,hv1,hp1]
     obtain⟨ky,N7,hky,R7,H7⟩:=Gp H6 (k+3) hk D
     refine by_k R7 H7 ?_
     simp +contextual (disch:=omega) only[go_sem,hk1,hv1,hp1]
     intro N8 H8
     refine by_r H8 (Ca _ kd) ?_
     simp +contextual (disch:=omega) only[go_sem,hk1,hv1,hp1]
     intro n9 f9 N9 H9
     have g9:=Ap (by first|exact f9|exact f9.2|exact f9.2.2|exact f9.2.2.2:frX U0 h n9)
     obtain⟨vl,N10,hvl,R10,H10⟩:=Cg H9 (k+4) hk D (litI (l:=[0,1,7,999999]) rfl (by decide)) (by decide) (by decide)
     refine by_k R10 H10 ?_
     simp +contextual (disch:=omega) only[go_sem,hk1,hv1,hp1]
     intro N11 H11
     try simp +contextual (disch:=omega) only[go_sem,hk1,hv1,hp1]
     intro N14 H14
     exact⟨_,rfl,⟨kd,ob,ky,vl,0⟩,rfl,⟨hkd,hob,by simp only[hk1];exact hky,.inr ⟨hv1,hvl⟩,by simp only[decide_eq_true_eq,decide_eq_false_iff_not] at hp1;refine⟨by simp,by simp;try omega,fun h=> ?_⟩;simp only at h;first|rfl|omega⟩,H14.tl.tl.tl.tl⟩
   |false=>
    cases hp1:decide (6<=kd) with
    |true=>
     simp +contextual (disch:=omega) only[go_sem,hk1,hv1,hp1]
     obtain⟨ky,N7,hky,R7,H7⟩:=Gp H6 (k+3) hk D
     refine by_k R7 H7 ?_
     simp +contextual (disch:=omega) only[go_sem,hk1,hv1,hp1]
     intro N8 H8
     refine by_r H8 (Ca _ kd) ?_
     simp +contextual (disch:=omega) only[go_sem,hk1,hv1,hp1]
     obtain⟨pl,N12,hpl,R12,H12⟩:=Co H8 (k+3) hk D 3 (by decide) (by decide)
     refine by_k R12 H12 ?_
     simp +contextual (disch:=omega) only[go_sem,hk1,hv1,hp1]
     intro N13 H13
     intro N14 H14
     exact⟨_,rfl,⟨kd,ob,ky,0,pl⟩,rfl,⟨hkd,hob,by simp only[hk1];exact hky,.inl rfl,by simp only[decide_eq_true_eq,decide_eq_false_iff_not] at hp1;refine⟨by simp,by simp;try omega,fun h=> ?_⟩;simp only at h;first|rfl|omega⟩,H14.tl.tl.tl⟩
    |false=>
     simp +contextual (disch:=omega) only[go_sem,hk1,hv1,hp1]
     obtain⟨ky,N7,hky,R7,H7⟩:=Gp H6 (k+3) hk D
     refine by_k R7 H7 ?_
     simp +contextual (disch:=omega) only[go_sem,hk1,hv1,hp1]
     intro N8 H8
     refine by_r H8 (Ca _ kd) ?_
     simp +contextual (disch:=omega) only[go_sem,hk1,hv1,hp1]
     intro N14 H14
     exact⟨_,rfl,⟨kd,ob,ky,0,0⟩,rfl,⟨hkd,hob,by simp only[hk1];exact hky,.inl rfl,by simp only[decide_eq_true_eq,decide_eq_false_iff_not] at hp1;refine⟨by simp,by simp;try omega,fun h=> ?_⟩;simp only at h;first|rfl|omega⟩,H14.tl.tl.tl⟩
  |false=>
   cases hv1:A1t kd with
   |true=>
    cases hp1:decide (6<=kd) with
    |true=>
     simp +contextual (disch:=omega) only[go_sem,hk1,hv1,hp1]
     refine by_r H6 (Ca _ kd) ?_
     simp +contextual (disch:=omega) only[go_sem,hk1,hv1,hp1]
     intro n9 f9 N9 H9
     have g9:=Ap (by first|exact f9|exact f9.2|exact f9.2.2|exact f9.2.2.2:frX U0 h n9)
     obtain⟨vl,N10,hvl,R10,H10⟩:=Cg H9 (k+4) hk D (litI (l:=[0,1,7,999999]) rfl (by decide)) (by decide) (by decide)
     refine by_k R10 H10 ?_
     simp +contextual (disch:=omega) only[go_sem,hk1,hv1,hp1]
     intro N11 H11
     try simp +contextual (disch:=omega) only[go_sem,hk1,hv1,hp1]
     obtain⟨pl,N12,hpl,R12,H12⟩:=Co H11 (k+4) hk D 3 (by decide) (by decide)
     refine by_k R12 H12 ?_
     simp +contextual (disch:=omega) only[go_sem,hk1,hv1,hp1]
     intro N13 H13
     intro N14 H14
     exact⟨_,rfl,⟨kd,ob,noS,vl,pl⟩,rfl,⟨hkd,hob,by simp only[hk1];simp,.inr ⟨hv1,hvl⟩,by simp only[decide_eq_true_eq,decide_eq_false_iff_not] at hp1;refine⟨by simp,by simp;try omega,fun h=> ?_⟩;simp only at h;first|rfl|omega⟩,H14.tl.tl.tl.tl⟩
    |false=>
     simp +contextual (disch:=omega) only[go_sem,hk1,hv1,hp1]
     refine by_r H6 (Ca _ kd) ?_
     simp +contextual (disch:=omega) only[go_sem,hk1,hv1,hp1]
     intro n9 f9 N9 H9
     have g9:=Ap (by first|exact f9|exact f9.2|exact f9.2.2|exact f9.2.2.2:frX U0 h n9)
     obtain⟨vl,N10,hvl,R10,H10⟩:=Cg H9 (k+4) hk D (litI (l:=[0,1,7,999999]) rfl (by decide)) (by decide) (by decide)
     refine by_k R10 H10 ?_
     simp +contextual (disch:=omega) only[go_sem,hk1,hv1,hp1]
     intro N11 H11
     try simp +contextual (disch:=omega) only[go_sem,hk1,hv1,hp1]
     intro N14 H14
     exact⟨_,rfl,⟨kd,ob,noS,vl,0⟩,rfl,⟨hkd,hob,by simp only[hk1];simp,.inr ⟨hv1,hvl⟩,by simp only[decide_eq_true_eq,decide_eq_false_iff_not] at hp1;refine⟨by simp,by simp;try omega,fun h=> ?_⟩;simp only at h;first|rfl|omega⟩,H14.tl.tl.tl.tl⟩
   |false=>
    cases hp1:decide (6<=kd) with
    |true=>
     simp +contextual (disch:=omega) only[go_sem,hk1,hv1,hp1]
     refine by_r H6 (Ca _ kd) ?_
     simp +contextual (disch:=omega) only[go_sem,hk1,hv1,hp1]
     obtain⟨pl,N12,hpl,R12,H12⟩:=Co H6 (k+3) hk D 3 (by decide) (by decide)
     refine by_k R12 H12 ?_
     simp +contextual (disch:=omega) only[go_sem,hk1,hv1,hp1]
     intro N13 H13
     intro N14 H14
     exact⟨_,rfl,⟨kd,ob,noS,0,pl⟩,rfl,⟨hkd,hob,by simp only[hk1];simp,.inl rfl,by simp only[decide_eq_true_eq,decide_eq_false_iff_not] at hp1;refine⟨by simp,by simp;try omega,fun h=> ?_⟩;simp only at h;first|rfl|omega⟩,H14.tl.tl.tl⟩
    |false=>
     simp +contextual (disch:=omega) only[go_sem,hk1,hv1,hp1]
     refine by_r H6 (Ca _ kd) ?_
     simp +contextual (disch:=omega) only[go_sem,hk1,hv1,hp1]
     intro N14 H14
     exact⟨_,rfl,⟨kd,ob,noS,0,0⟩,rfl,⟨hkd,hob,by simp only[hk1];simp,.inl rfl,by simp only[decide_eq_true_eq,decide_eq_false_iff_not] at hp1;refine⟨by simp,by simp;try omega,fun h=> ?_⟩;simp only at h;first|rfl|omega⟩,H14.tl.tl.tl⟩
 obtain⟨w,N,R,e,rfl,he,H'⟩:=key
 exact⟨e,N,he,R,H'⟩
end
structure OkS (s:State):Prop where
 kn:okK s.know=true
 tl:s.tallies.Pairwise fun a b=>Be a b=true
 t1:∀ t∈s.tallies,tal1 t=true
 tn:s.tallies.length<=120
 ll:s.lives.Pairwise fun a b=>C8 a.dot b.dot=true
 l1:∀ x∈s.lives,Bq s.know x.dot=true/\liv1 x=true
 ln:s.lives.length<=120
 cl:s.cells.Pairwise fun a b=>C8 a.dot b.dot=true
 c1:∀ x∈s.cells,Bq s.know x.dot=true/\cel1 x=true
 cn:s.cells.length<=120
 rf:∀ c∈s.cells,c.ref=d0∨∃ y∈s.cells,y.dot=c.ref/\y.obj=c.obj/\y.time<c.time
theorem Lh {Y:Type} {lt:Y->Y->Bool} {x y:Y} {l:List Y}:y∈insB lt x l↔y=x∨y∈l:=by
 rw[(I8 lt x l).mem_iff,Zaj]
theorem A9f {Y:Type} {lt:Y->Y->Bool} (ht:∀ a b c,lt a b=true->lt b c=true->lt a c=true) {x:Y}:∀ {l:List Y},l.Pairwise (fun a b=>lt a b=true)->(∀ y∈l,lt x y=true∨lt y x=true)->(insB lt x l).Pairwise fun a b=>lt a b=true
 |[],_,_=>by simp[insB]
 |k::r,h,hx=>by
  obtain⟨h1,h2⟩:=Za8.1 h
  unfold insB
  split
  ·rename_i hk
   refine Za8.2 ⟨fun y hy=> ?_,h⟩
   rcases Zaj.1 hy with rfl|hy
   ·exact hk
   ·exact ht _ _ _ hk (h1 y hy)
  ·rename_i hk
   refine Za8.2 ⟨fun y hy=> ?_,A9f ht h2 fun y hy=>hx y (Zag _ hy)⟩
   rcases Lh.1 hy with rfl|hy
   ·exact(hx k Zaf).resolve_left hk
   ·exact h1 y hy
theorem V3 {Y β:Type} {f:Y->Y} {g:Y->β} (h:∀ x,g (f x)=g x):∀(l:List Y) (k:Nat),(l.modify k f).map g=l.map g
 |[],k=>by simp
 |x::l,0=>by simp[h]
 |x::l,k+1=>by simp[Zaq,V3 h l k]
theorem V4 {Y:Type} {f:Y->Y}:∀ {l:List Y} {k:Nat} {x:Y},x∈l.modify k f->∃ y∈l,x=y∨x=f y
 |[],k,x,h=>by simp at h
 |y::l,0,x,h=>by
  simp only[List.modify_zero_cons,Zaj] at h
  rcases h with h|h
  ·exact⟨y,Zaf,.inr h⟩
  ·exact⟨x,Zag _ h,.inl rfl⟩
 |y::l,k+1,x,h=>by
  simp only[Zaq,Zaj] at h
  rcases h with h|h
  ·exact⟨y,Zaf,.inl h⟩
  ·obtain⟨z,hz,e⟩:=V4 h
   exact⟨z,Zag _ hz,e⟩
theorem A72 {Y:Type} {f:Y->Y}:∀ {l:List Y} {k:Nat} {y:Y},y∈l->∃ x∈l.modify k f,x=y∨x=f y
 |[],k,x,h=>by simp at h
 |y::l,0,x,h=>by
  rcases Zaj.1 h with rfl|h
  ·exact⟨f x,by simp,.inr rfl⟩
  ·exact⟨x,by simp[h],.inl rfl⟩
 |y::l,k+1,x,h=>by
  rcases Zaj.1 h with rfl|h
  ·exact⟨x,by simp[Zaq],.inl rfl⟩
  ·obtain⟨z,hz,e⟩:=A72 (k:=k) h
   exact⟨z,by simp[Zaq,hz],e⟩
theorem Akf {l:List Int} {r q:Int} {v:Int} (hr:0<=r) (hq:0<=q) (hl:r.toNat<l.length):at0 (l.set r.toNat v) q=if q=r then v else at0 l q:=by
 unfold at0
 rw[Za6,Za6,List.getElem?_set]
 by_cases h:q=r
 ·subst h;simp[hl]
 ·have:¬ r.toNat=q.toNat:=by omega
  rw[if_neg this,if_neg h]
structure Fits (s:State) (a:Act):Prop where
 dot:Hf a.dot=true
 seq:a.dot.seq=at0 s.know a.dot.rep+1
 new:Bq s.know a.dot=false
 kn:okK (s.know.set a.dot.rep.toNat a.dot.seq)=true
 mono:∀ d,Bq s.know d=true->Bq (s.know.set a.dot.rep.toNat a.dot.seq) d=true
 self:Bq (s.know.set a.dot.rep.toNat a.dot.seq) a.dot=true
theorem kLe_at:∀ {a b:List Int},a.length=b.length->kLe a b=true->∀ i:Nat,a.getD i 0<=b.getD i 0:=by
 intro a
 induction a with
 |nil=>intro b hl _ i;cases b with
  |nil=>simp
  |cons _ _=>simp at hl
 |cons x a ih=>
  intro b hl h i
  cases b with
  |nil=>simp at hl
  |cons y b=>
   simp only[kLe,Zaa,decide_eq_true_eq] at h
   cases i with
   |zero=>simpa using h.1
   |succ i=>simpa using ih (by simpa using hl) h.2 i
theorem Aoj {s:State} {a:Act} (hs:okK s.know=true) (ha:I7 a=true) (hn:Bq s.know a.dot=false) (hk:Mf a.knew s.know=true):Fits s a:=by
 simp only[I7,Zaa,decide_eq_true_eq] at ha
 obtain⟨h1,h2,h3,h4⟩:=ha
 simp only[Mf,Zaa] at hk
 have hle:=kLe_at (by rw[I6 hk.1,I6 hs]) hk.2.2 a.dot.rep.toNat
 have hle:at0 a.knew a.dot.rep<=at0 s.know a.dot.rep:=hle
 have hd:=h1
 simp only[Hf,Zaa,Bn] at hd
 have hnot:¬ a.dot.seq<=at0 s.know a.dot.rep:=by
  intro h
  have:Bq s.know a.dot=true:=by unfold Bq;rw[hs,h1];simpa using h
  rw[hn] at this;cases this
 have hlen:=I6 hs
 have hr:a.dot.rep.toNat<s.know.length:=by omega
 have e:a.dot.seq=at0 s.know a.dot.rep+1:=by omega
 have hkn:okK (s.know.set a.dot.rep.toNat a.dot.seq)=true:=by
  simp only[okK,Zaa,Zbh,decide_eq_true_eq] at hs ⊢
  refine⟨fun x hx=> ?_,by rw[Zaw];exact hs.2⟩
  rcases Zap hx with h|h
  ·exact hs.1 x h
  ·rw[h];exact Bn.2 ⟨by omega,by omega⟩
 refine⟨h1,e,hn,hkn,fun d hd'=> ?_,?_⟩
 ·simp only[Bq,Zaa,decide_eq_true_eq] at hd' ⊢
  refine⟨⟨hkn,hd'.1.2⟩,?_⟩
  have hq:=hd'.1.2
  simp only[Hf,Zaa,Bn] at hq
  rw[Akf (by omega) (by omega) hr]
  split
  ·rename_i hq2;rw[hq2] at hd';omega
  ·exact hd'.2
 ·simp only[Bq,Zaa,decide_eq_true_eq]
  refine⟨⟨hkn,h1⟩,?_⟩
  rw[Akf (by omega) (by omega) hr,if_pos rfl]
  omega
theorem Akg {l:List Tally} {obj:ByteArray} {rep val:Int} (hp:l.Pairwise fun a b=>Be a b=true) (h1:∀ t∈l,tal1 t=true) (hn:Bw obj=true) (hr:inB rep 0 2=true) (hv:0<=val/\val<=999999):
  (Jp l obj rep val).Pairwise (fun a b=>Be a b=true)/\∀ t∈Jp l obj rep val,tal1 t=true:=by
 unfold Jp
 split
 ·rename_i i hi
  constructor
  ·have e:((l.modify i fun t=>{t with sum:=addM t.sum val}).map fun t=>(⟨t.obj,t.rep,0⟩:Tally))=l.map fun t=>(⟨t.obj,t.rep,0⟩:Tally):=V3 (f:=fun t=>{t with sum:=addM t.sum val}) (g:=fun t=>(⟨t.obj,t.rep,0⟩:Tally)) (fun _=>rfl) l i
   have h2:(l.map fun t=>(⟨t.obj,t.rep,0⟩:Tally)).Pairwise fun a b=>Be a b=true:=Zax.2 (hp.imp fun h=>h)
   rw[<- e] at h2
   exact(Zax.1 h2).imp fun h=>h
  ·intro t ht
   obtain⟨y,hy,e⟩:=V4 ht
   have hy1:=h1 y hy
   rcases e with rfl|rfl
   ·exact hy1
   ·simp only[tal1,Zaa,Bn] at hy1 ⊢
    refine⟨hy1.1,hy1.2.1,?_⟩
    unfold addM
    rw[Zai (by omega)]
    omega
 ·rename_i hi
  constructor
  ·refine A9f (fun a b c=>Ajw.trans a b c) hp fun y hy=> ?_
   have:=List.findIdx?_eq_none_iff.1 hi y hy
   cases h2:Be ⟨obj,rep,val⟩ y with
   |true=>exact .inl rfl
   |false=>
    cases h3:Be y ⟨obj,rep,val⟩ with
    |true=>exact .inr rfl
    |false=>
     obtain⟨e1,e2⟩:=Ajx h2 h3
     have:Pu obj rep y=true:=Ajy.2 ⟨e1.symm,e2.symm⟩
     simp_all
  ·intro t ht
   rcases Lh.1 ht with rfl|ht
   ·simp only[tal1,Zaa]
    exact⟨hn,hr,Bn.2 hv⟩
   ·exact h1 t ht
theorem Akh {k:List Int} {a d:Dot} (hn:Bq k a=false) (hd:Bq k d=true):C8 a d=true∨C8 d a=true:=by
 cases h1:C8 a d with
 |true=>exact .inl rfl
 |false=>
  cases h2:C8 d a with
  |true=>exact .inr rfl
  |false=>rw[Ajp h1 h2,hd] at hn;cases hn
theorem A73 {l:List Live} {k k':List Int} {x:Live} (hp:l.Pairwise fun a b=>C8 a.dot b.dot=true) (h1:∀ y∈l,Bq k y.dot=true/\liv1 y=true) (hm:∀ d,Bq k d=true->Bq k' d=true) (hn:Bq k x.dot=false) (hx:Bq k' x.dot=true/\liv1 x=true):
  (Kw x l).Pairwise (fun a b=>C8 a.dot b.dot=true)/\∀ y∈Kw x l,Bq k' y.dot=true/\liv1 y=true:=by
 constructor
 ·exact A9f (lt:=Et) (fun a b c h1 h2=>Po h1 h2) hp fun y hy=>Akh hn (h1 y hy).1
 ·intro y hy
  rcases Lh.1 hy with rfl|hy
  ·exact hx
  ·exact⟨hm _ (h1 y hy).1,(h1 y hy).2⟩
theorem Ai7 {l:List Cell} {k k':List Int} {x:Cell} (hp:l.Pairwise fun a b=>C8 a.dot b.dot=true) (h1:∀ y∈l,Bq k y.dot=true/\cel1 y=true) (hm:∀ d,Bq k d=true->Bq k' d=true) (hn:Bq k x.dot=false) (hx:Bq k' x.dot=true/\cel1 x=true):
  (Pv x l).Pairwise (fun a b=>C8 a.dot b.dot=true)/\∀ y∈Pv x l,Bq k' y.dot=true/\cel1 y=true:=by
 constructor
 ·exact A9f (lt:=Fs) (fun a b c h1 h2=>Po h1 h2) hp fun y hy=>Akh hn (h1 y hy).1
 ·intro y hy
  rcases Lh.1 hy with rfl|hy
  ·exact hx
  ·exact⟨hm _ (h1 y hy).1,(h1 y hy).2⟩
theorem A74 {l:List Cell} {d:Dot} {x:Cell} (h:x∈Jq l d):∃ y∈l,x=y∨x={y with gone:=true}:=by
 unfold Jq at h
 split at h
 ·exact V4 h
 ·exact⟨x,h,.inl rfl⟩
theorem Ai8 {l:List Cell} {d:Dot} {y:Cell} (h:y∈l):∃ x∈Jq l d,x=y∨x={y with gone:=true}:=by
 unfold Jq
 split
 ·exact A72 h
 ·exact⟨y,h,.inl rfl⟩
theorem A3l (l:List Cell) (d:Dot):(Jq l d).map (·.dot)=l.map (·.dot):=by
 unfold Jq
 split
 ·exact V3 (f:=fun c:Cell=>{c with gone:=true}) (g:=fun c=>c.dot) (fun _=>rfl) _ _
 ·rfl
theorem Ai9 (l:List Cell) (d:Dot):(Jq l d).length=l.length:=by
 have:=congrArg Zbf (A3l l d)
 simpa using this
theorem Alv {s:State} {a:Act} (h:OkS s) (ha:Ku a=true) (hn:Bq s.know a.dot=false) (hk:Mf a.knew s.know=true) (hr:Z3 s a=true) (ht:Gq (Mh s a)=false):OkS (Mh s a):=by
 simp only[Ku,Zaa] at ha
 obtain⟨hh,hpl,hrf⟩:=ha
 have F:=Aoj h.kn hh hn hk
 simp only[Em,Zaa,Bn] at hpl
 obtain⟨hkd,hob,hky,hvl⟩:=hpl
 simp only[Gq,Bool.or_eq_false_iff,decide_eq_false_iff_not,Nat.not_lt] at ht
 obtain⟨ht1,ht2,ht3⟩:=ht
 have hd:=F.dot
 simp only[Hf,Zaa] at hd
 have htime:inB a.time 1 10000=true:=by
  simp only[I7,Zaa] at hh;exact hh.2.2.2
 have L1:∀ x∈s.lives,Bq (s.know.set a.dot.rep.toNat a.dot.seq) x.dot=true/\liv1 x=true:=fun x hx=>⟨F.mono _ (h.l1 x hx).1,(h.l1 x hx).2⟩
 have C1:∀ x∈s.cells,Bq (s.know.set a.dot.rep.toNat a.dot.seq) x.dot=true/\cel1 x=true:=fun x hx=>⟨F.mono _ (h.c1 x hx).1,(h.c1 x hx).2⟩
 have hval:A1t a.kind=true->0<=a.val/\a.val<=999999:=fun hv=>by
  simp only[A8p,Zbr,Zaa,beq_iff_eq,Bn] at hvl
  rcases hvl with h|h
  ·omega
  ·exact h.2
 have hkeyed:Ahr a.kind=true->Bw a.key=true:=fun hk=>by rw[if_pos hk] at hky;exact hky
 revert ht1 ht2 ht3
 unfold Mh Gk
 repeat' split
 all_goals intro ht1 ht2 ht3
 ·rename_i hkind
  have T:=Akg (obj:=a.obj) (rep:=a.dot.rep) (val:=a.val) h.tl h.t1 hob hd.1 (hval (by rw[hkind];rfl))
  exact {kn:=F.kn,tl:=T.1,t1:=T.2,tn:=ht1,ll:=h.ll,l1:=L1,ln:=h.ln,cl:=h.cl,c1:=C1,cn:=h.cn,rf:=h.rf}
 ·rename_i _ hkind
  have T:=A73 (x:=⟨false,a.obj,a.key,0,a.dot⟩) h.ll h.l1 F.mono F.new ⟨F.self,by simp only[liv1,Zaa];exact⟨hob,hkeyed (by rw[hkind];rfl),by decide,by simp⟩⟩
  exact {kn:=F.kn,tl:=h.tl,t1:=h.t1,tn:=h.tn,ll:=T.1,l1:=T.2,ln:=ht2,cl:=h.cl,c1:=C1,cn:=h.cn,rf:=h.rf}
 ·exact {kn:=F.kn,tl:=h.tl,t1:=h.t1,tn:=h.tn,ll:=h.ll.filter _,l1:=fun x hx=>L1 x (Za4.1 hx).1,ln:=ht2,cl:=h.cl,c1:=C1,cn:=h.cn,rf:=h.rf}
 ·rename_i _ _ _ hkind
  have T:=A73 (l:=s.lives.filter (Z2 true a.obj a.key a.knew)) (x:=⟨true,a.obj,a.key,a.val,a.dot⟩) (h.ll.filter _) (fun y hy=>h.l1 y (Za4.1 hy).1) F.mono F.new ⟨F.self,by simp only[liv1,Zaa];exact⟨hob,hkeyed (by rw[hkind];rfl),Bn.2 (hval (by rw[hkind];rfl)),by simp⟩⟩
  exact {kn:=F.kn,tl:=h.tl,t1:=h.t1,tn:=h.tn,ll:=T.1,l1:=T.2,ln:=ht2,cl:=h.cl,c1:=C1,cn:=h.cn,rf:=h.rf}
 ·exact {kn:=F.kn,tl:=h.tl,t1:=h.t1,tn:=h.tn,ll:=h.ll.filter _,l1:=fun x hx=>L1 x (Za4.1 hx).1,ln:=ht2,cl:=h.cl,c1:=C1,cn:=h.cn,rf:=h.rf}
 ·rename_i _ _ _ _ _ hkind
  have T:=Ai7 (x:=⟨a.obj,a.dot,a.time,a.ref,a.val,false⟩) h.cl h.c1 F.mono F.new ⟨F.self,by simp only[cel1,Zaa];exact⟨hob,Bn.2 (hval (by rw[hkind];rfl)),htime⟩⟩
  refine {kn:=F.kn,tl:=h.tl,t1:=h.t1,tn:=h.tn,ll:=h.ll,l1:=L1,ln:=h.ln,cl:=T.1,c1:=T.2,cn:=ht3,rf:=fun c hc=> ?_}
  rcases Lh.1 hc with rfl|hc
  ·by_cases hz:a.ref=d0
   ·exact .inl hz
   ·right
    unfold Z3 at hr
    rw[if_pos (.inr ⟨hkind,hz⟩)] at hr
    split at hr
    ·rename_i k hkx
     obtain⟨hkl,e⟩:=Do hkx
     rw[Cp hkl] at hr
     simp only[Zaa,Zbr,decide_eq_true_eq] at hr
     exact⟨s.cells[k],Lh.2 (.inr (Zan hkl)),e,hr.1,hr.2.resolve_left (by omega)⟩
    ·cases hr
  ·rcases h.rf c hc with hz|⟨y,hy,e⟩
   ·exact .inl hz
   ·exact .inr ⟨y,Lh.2 (.inr hy),e⟩
 ·have hdots:(Jq s.cells a.ref).Pairwise fun a b=>C8 a.dot b.dot=true:=by
   have h2:(s.cells.map (·.dot)).Pairwise fun a b=>C8 a b=true:=Zax.2 h.cl
   rw[<- A3l s.cells a.ref] at h2
   exact Zax.1 h2
  refine {kn:=F.kn,tl:=h.tl,t1:=h.t1,tn:=h.tn,ll:=h.ll,l1:=L1,ln:=h.ln,cl:=hdots,c1:=fun x hx=> ?_,cn:=by rw[Ai9];exact h.cn,rf:=fun c hc=> ?_}
  ·obtain⟨y,hy,e⟩:=A74 hx
   rcases e with rfl|rfl
   ·exact C1 x hy
   ·exact C1 y hy
  ·obtain⟨y,hy,e⟩:=A74 hc
   have key:∀ r,(r=d0∨∃ z∈s.cells,z.dot=r/\z.obj=y.obj/\z.time<y.time)->r=d0∨∃ z∈Jq s.cells a.ref,z.dot=r/\z.obj=y.obj/\z.time<y.time:=fun r hr=>hr.imp id fun⟨z,hz,q1,q2,q3⟩=>by
    obtain⟨x,hx,e⟩:=Ai8 (d:=a.ref) hz
    rcases e with rfl|rfl
    ·exact⟨x,hx,q1,q2,q3⟩
    ·exact⟨_,hx,q1,q2,q3⟩
   have:=key _ (h.rf y hy)
   rcases e with rfl|rfl
   ·exact this
   ·exact this
theorem Alw {s:State} (a:Act) (h:OkS s):OkS (F1 s a).1:=by
 unfold F1
 split
 ·exact h
 ·rename_i h1
  have h1:Bf s=true/\Ku a=true:=by simpa using h1
  split
  ·exact h
  ·rename_i h2
   split
   ·exact h
   ·rename_i h3
    split
    ·exact h
    ·rename_i h4
     split
     ·exact h
     ·rename_i h5
      exact Alv h h1.2 (by simpa using h2) (by simpa using h3) (by simpa using h4) (by simpa using h5)
theorem Sg {s:ByteArray} (h:Bw s=true):s.size<=8:=by
 simp only[Bw,Zaa,Bn] at h
 omega
theorem Afl {Y:Type} {f:Y->Nat} {l:List Y} {n:Nat} (h:∀ x∈l,f x<=n):sumL f l<=l.length*n:=by
 induction l with
 |nil=>simp[sumL]
 |cons x l ih=>
  have h1:=h x Zaf
  have h2:=ih fun y hy=>h y (Zag _ hy)
  have:sumL f (x::l)=f x+sumL f l:=by simp[sumL]
  rw[this,Zaz,Nat.add_mul];omega
theorem OkS.ms {s:State} (h:OkS s):Aa s<=5000:=by
 have k:=I6 h.kn
 have a1:=Afl (f:=C5) (l:=s.tallies) (n:=8) fun t ht=>by
  have:=h.t1 t ht
  simp only[tal1,Zaa] at this
  exact Sg this.1
 have a2:=Afl (f:=Cr) (l:=s.lives) (n:=16) fun t ht=>by
  have:=(h.l1 t ht).2
  simp only[liv1,Zaa] at this
  have h1:=Sg this.1
  have h2:=Sg this.2.1
  unfold Cr;omega
 have a3:=Afl (f:=Dm) (l:=s.cells) (n:=8) fun t ht=>by
  have:=(h.c1 t ht).2
  simp only[cel1,Zaa] at this
  exact Sg this.1
 have:=h.tn
 have:=h.ln
 have:=h.cn
 unfold Aa
 omega
theorem OkS.time {s:State} (h:OkS s):∀ c∈s.cells,1≤c.time/\c.time<=10000:=fun c hc=>by
 have:=(h.c1 c hc).2
 simp only[cel1,Zaa,Bn] at this
 exact this.2.2
theorem A3m:OkS ⟨[0,0,0],[],[],[]⟩:={kn:=by decide,tl:=.nil,t1:=fun _ h=>(by cases h),tn:=by decide,ll:=.nil,l1:=fun _ h=>(by cases h),ln:=by decide,cl:=.nil,c1:=fun _ h=>(by cases h),cn:=by decide,rf:=fun _ h=>(by cases h)}
def newL (k:List Int) (l:List Live) (i:Nat):Bool:=onI l i fun x=> !Bq k x.dot
def deadP (k:List Int) (l:List Dot) (i:Nat):Bool:=onI l i (Bq k)&&upI C8 l i
def refP (l:List Cell) (i:Nat):Bool:=onI l i refD
def Aki (d:Delta):Bool:=Mf d.base d.know&&(Jl d.tallies&&(A19 d.lives d.know&&(P5 d.cells d.know&&(decide (d.dead.length<=120)&&(allR d.lives.length (newL d.base d.lives)&&(allR d.dead.length (deadP d.base d.dead)&&allR d.cells.length (refP d.cells)))))))
section
variable {Y:Type} {lt:Y->Y->Bool}
end
def Ami (f:Int->Bool) (a b:List Tally):List Tally:=Br Be (a.filter (fun t=> !f t.rep)++b.filter fun t=>f t.rep)
def goneBy (b:List Cell) (c:Cell):Cell:={c with gone:=c.gone||b.any fun x=>decide (x.dot=c.dot)&&x.gone}
def isNewC (a:List Cell) (x:Cell):Bool:= !a.any fun c=>decide (c.dot=x.dot)
def joinC (a b:List Cell):List Cell:=a.map (goneBy b)++b.filter (isNewC a)
def Amj (a b:List Cell):List Cell:=Br Fs (joinC a b)
instance:Inhabited Tally:=⟨⟨.empty,0,0⟩⟩
instance:Inhabited Live:=⟨⟨false,.empty,.empty,0,⟨0,0⟩⟩⟩
def fromD (s:State) (d:Delta) (rep:Int):Bool:=decide (at0 s.know rep<at0 d.know rep)
def keepD (d:Delta) (l:Live):Bool:= !(Bq d.know l.dot&&(!Bq d.base l.dot&& !decide (l∈d.lives)))&& !decide (l.dot∈d.dead)
def newD (s:State) (l:Live):Bool:= !Bq s.know l.dot
def Aok (s:State) (d:Delta):State:=⟨kMax s.know d.know,Ami (fromD s d) s.tallies d.tallies,Br Et (s.lives.filter (keepD d)++d.lives.filter (newD s)),Amj s.cells d.cells⟩
def Aol (s:State) (d:Delta):State×Int:=
 if !(Bf s&&Aki d) then(s,3) else if Mf d.know s.know then(s,1) else if !Mf d.base s.know then(s,2) else
 if Gq (Aok s d) then(s,4) else if !Bf (Aok s d) then(s,3) else(Aok s d,0)
abbrev z4:List GV:=[GV.nilS,GV.nilS,GV.nilS,GV.nilS]
theorem Agp (s:State) (rep t:Int) (e:Edit):Adz (E9 s rep t e).1<=s.know.length+e.obj.size+e.key.size:=by
 unfold E9
 repeat' split
 all_goals simp only[A6z,Ake,act0,Adz,show(ByteArray.mk #[]).size=0 from rfl,Zbq]
 all_goals omega
theorem Xn (s:State):s.know.length<=Aa s:=by unfold Aa;omega
def Xo:Fn1:=⟨3,[.c 0 true 4],(rg [o 0 (.new [.nilS,.nilS,.nilS,.nilS])] (rg [o 1 (.call 196 []),o 2 (.build [.nilS,.nilS,.nilS,.nilS] [(0,1,(.t 1))]),oS 4 0 2] .ret))⟩
theorem A9g:A6 Tryz.prog 94=some Xo:=by kernel_rfl
def Amk (s:State) (u:Unit_):State×Int:=if u.batch then Aol s u.delta else F1 s u.act
def st0:State:=⟨[0,0,0],[],[],[]⟩
theorem Pc (U:St):∃ r N,Ret Tryz.prog 94 [] U (.agg r) N/\Hp U N [own A4 r st0]:=by
 have key:∃ q N,Ret Tryz.prog 94 [] U q N/\∃ r,q= .agg r/\Hp U N [own A4 r st0]:=by
  refine Gi A9g (Z0z rfl) (Hx.refl U) ?_
  simp +contextual (disch:=omega) only[go_sem,Xo]
  intro n f N H
  obtain⟨kv,N1,R1,K1⟩:=A8n N
  refine by_c H R1 K1 fun H1=> ?_
  have ck:=(H1.hp.sl 0 rfl).cell
  simp +contextual (disch:=omega) only[go_sem,ck]
  intro N2 H2
  exact⟨_,rfl,_,rfl,Hp.ownState (x:=st0) (((((H2.sel [0] (by decide)).nilS (d:=Ak.kd)).nilS (d:=Bp.kd)).nilS (d:=Ba.kd)).sel [3,0,1,2] (by decide))⟩
 obtain⟨q,N,R,r,rfl,h⟩:=key
 exact⟨r,N,R,h⟩
def runU (us:List Unit_):Nat->Option State
 |0=>some st0
 |i+1=>(runU us i).bind fun s=>if h:i<us.length then(if (Amk s us[i]).2=0 then some (Amk s us[i]).1 else none) else some s
def A76:Fn1:=⟨27,[.t 2],(rg [oX 1 0,oV 2 (ki 0)] (rg [oV 3 (ki 0)] (.seq (rg [oV 4 (ki 0)] (oH 0 (.seq (rg [oM 5 4,oF 6 3 1,oL 7 6,oN 8 7,oB 9 .lss 5 8] (oJ 9 0)) (.seq (.blk 1 (rg [oF 12 3 1,oL 13 12,oM 14 4,oI 15 8 13 14,oF 16 3 15,oL 17 16,oM 18 3,oB 19 .gtr 17 18] (oG 19 (.reg [oF 20 3 1,oL 21 20,oM 22 4,oI 23 8 21 22,oF 24 3 23,oL 25 24,oM 3 25])))) (.reg [oM 10 4,oZ 11 10 1,oM 4 11]))))) (rg [oM 26 3,oM 2 26] .ret))))⟩
theorem Afm:A6 Tryz.prog 39=some A76:=by kernel_rfl
def Xp:Fn1:=⟨43,[.c 6 true 4],(rg [oX 4 1,o 6 (.new [.nilS,.nilS,.nilS,.nilS])] (.seq (rg [oV 7 (ki 0)] (oH 0 (.seq (rg [oM 12 7,oM 13 2,oB 14 .lss 12 13] (oJ 14 0)) (.seq (.blk 1 (rg [oM 17 0,o 18 (.call 92 [(.t 17),(ki 3)]),oM 8 18] (rg [oM 19 0,oC 20 93 19,o 9 (.new [z0,s0,s0,z0,z0]),oS 5 9 20] (dw [oW 30 5 9,o 10 (.new [z0,z0,z0,.nilS,z0,s0,s0,z0,z0,z0])] [oW 22 4 4,oM 23 8,oW 24 4 4,oC 25 39 24,on (.chk 22 (.ld true 4 (.t 4))),on (.chk 30 (.ld true 5 (.t 9))),on (.blc 10 [z0,z0,z0,.nilS,z0,s0,s0,z0,z0,z0]),oZ 26 25 1,oM 27 0,o 28 (.call 92 [(.t 27),(ki 2)]),on (.chk 22 (.ld true 4 (.t 4))),on (.chk 30 (.ld true 5 (.t 9))),on (.blc 10 [z0,z0,z0,.nilS,z0,s0,s0,z0,z0,z0]),oB 29 .add 26 28,o 31 (.call 91 (oT [22,23,29,30])),on (.blc 10 [z0,z0,z0,.nilS,z0,s0,s0,z0,z0,z0]),oM 21 31,o 32 (.ext 0 (.t 21)),o 33 (.ext 1 (.t 21)),oS 10 10 32,oM 11 33] (rg [oM 34 11,oE 35 .eql 34 0] (oG 35 (.reg [oW 37 4 4,oW 38 10 10,oD 39 29 37 38,oM 36 39,o 40 (.ext 0 (.t 36)),o 41 (.ext 1 (.t 36)),oS 4 4 40]))))))) (.reg [oM 15 7,oZ 16 15 1,oM 7 16]))))) (rg [oW 42 4 4,oS 4 6 42] .ret)))⟩
theorem A9h:E4 true Tryz.prog 187=some Xp:=by kernel_rfl
def Xq:Fn1:=⟨9,[.c 2 true 4],(rg [o 2 (.new [.nilS,.nilS,.nilS,.nilS])] (rg [oM 3 0,o 4 (.call 94 []),oM 5 0,o 6 (.call 92 [(.t 5),(ki 9)]),o 7 (.bin .add (ki 2) (.t 6)),o 8 (.call 187 (oT [3,4,7])),oS 4 2 8] .ret))⟩
theorem A9i:A6 Tryz.prog 90=some Xq:=by kernel_rfl
def A77:Fn1:=⟨89,[.c 2 true 4],(rg [o 2 (.new [.nilS,.nilS,.nilS,.nilS])] (rg [oM 6 0,o 7 (.call 92 [(.t 6),(ki 14)]),oM 3 7] (rg [oM 8 0,o 9 (.call 92 [(.t 8),(ki 60)]),oM 4 9] (rg [oM 10 0,oC 11 90 10,oC 12 95 11,o 5 (.new [.nilS,.nilS,.nilS,.nilS]),oS 4 5 12] (.seq (rg [oM 13 3] (.blk 0 (rg [oE 15 .eql 13 0,oM 14 15] (cn 14 (.drw [] [oF 16 0 5,oL 17 16,oM 18 4,oE 19 .rem 18 3,o 20 (.lit 1 3 [z0,z0,z0] [(0,1,(ki 0)),(1,1,(ki (-1))),(2,1,(ki 1001))]),on (.chk 17 (.ld false 1 (.t 16))),oM 21 4,oE 22 .rem 21 3,oI 23 1 20 22,oL 24 23,oI 25 1 17 19,oS 1 25 24]) (rg [oE 27 .eql 13 1,oM 26 27] (cn 26 (.reg [oF 28 1 5,oL 29 28,oM 30 4,oE 31 .rem 30 4,oM 32 4,o 33 (.build [s0,z0,z0] [(0,1,(.k (.str ⟨#[97]⟩))),(1,1,(.t 31)),(2,1,(.t 32))]),o 34 (.lit 3 1 [s0,z0,z0] [(0,3,(.t 33))]),o 35 (.app 3 32 [s0,z0,z0] (.t 29) (.t 34)),oF 36 1 5,oS 1 36 35]) (rg [oE 38 .eql 13 2,oM 37 38] (cn 37 (.reg [oF 39 2 5,oL 40 39,oM 41 4,oE 42 .rem 41 2,oE 43 .eql 42 0,oM 44 4,oE 45 .rem 44 3,oM 46 4,oE 47 .rem 46 4,oM 48 4,oE 49 .rem 48 5,o 50 (.bin .add (ki 1) (.t 49)),o 51 (.build [z0,z0] [(0,1,(.t 47)),(1,1,(.t 50))]),o 52 (.build [(.bool false),s0,s0,z0,z0,z0] [(0,1,(.t 43)),(1,1,(.k (.str ⟨#[97]⟩))),(2,1,(.k (.str ⟨#[120]⟩))),(3,1,(.t 45)),(4,2,(.t 51))]),o 53 (.lit 6 1 [(.bool false),s0,s0,z0,z0,z0] [(0,6,(.t 52))]),o 54 (.app 6 64 [(.bool false),s0,s0,z0,z0,z0] (.t 40) (.t 53)),oF 55 2 5,oS 1 55 54]) (rg [oE 57 .eql 13 3,oM 56 57] (cn 56 (.reg [oF 58 3 5,oL 59 58,oM 60 4,oE 61 .rem 60 9,o 62 (.bin .add (ki 1) (.t 61)),o 63 (.build [z0,z0] [(0,1,(ki 2)),(1,1,(.t 62))]),oM 64 4,oE 65 .rem 64 9,oM 66 4,oE 67 .rem 66 3,o 68 (.build [z0,z0] [(0,1,(ki 0)),(1,1,(.t 67))]),o 69 (.build [s0,z0,z0,z0,z0,z0,z0,(.bool false)] [(0,1,(.k (.str ⟨#[97]⟩))),(1,2,(.t 63)),(3,1,(.t 65)),(4,2,(.t 68))]),o 70 (.lit 8 1 [s0,z0,z0,z0,z0,z0,z0,(.bool false)] [(0,8,(.t 69))]),o 71 (.app 8 72 [s0,z0,z0,z0,z0,z0,z0,(.bool false)] (.t 59) (.t 70)),oF 72 3 5,oS 1 72 71]) (rg [oE 74 .eql 13 4,oM 73 74] (oG 73 (rg [oF 75 3 5,oL 76 75,oN 77 76,oE 78 .gtr 77 0] (oG 78 (.drw [] [oF 79 3 5,oL 80 79,oM 81 4,oF 82 3 5,oL 83 82,oN 84 83,oB 85 .rem 81 84,oI 86 8 80 85,oF 87 0 86,on (.st 1 (.t 87) (.k (.str ⟨#[98]⟩)))]))))))))))))))) (rg [oW 88 4 5,oS 4 2 88] .ret))))))⟩
theorem Afn:E4 true Tryz.prog 122=some A77:=by kernel_rfl
def Fl (l:List Cell):Int:=l.foldl (fun n c=>if c.time>n then c.time else n) 0
theorem Ad6 {l:List Cell} {i:Nat} (hi:i<l.length):Fl (l.take (i+1))=if l[i].time>Fl (l.take i) then l[i].time else Fl (l.take i):=by
 unfold Fl;rw[Ax hi,List.foldl_append];rfl
theorem A78 {l:List Cell} (h:∀ c∈l,c.time<=10000):0<=Fl l/\Fl l<=10000:=by
 have key:∀(l:List Cell) (n:Int),0≤n/\n<=10000->(∀ c∈l,c.time<=10000)->0<=l.foldl (fun n c=>if c.time>n then c.time else n) n/\l.foldl (fun n c=>if c.time>n then c.time else n) n<=10000:=by
  intro l
  induction l with
  |nil=>intro n hn _;exact hn
  |cons x l ih=>
   intro n hn hx
   rw[List.foldl_cons]
   refine ih _ ?_ fun c hc=>hx c (Zag _ hc)
   have:=hx x Zaf
   split<;>omega
 exact key l 0 (by omega) h
theorem Xr (U:St) (cs:List GV) (s:State) (hR:A4.R U s cs) (hl:Aa s<=1099511627776):Ret Tryz.prog 39 [.agg cs] U (gi (Fl s.cells)) U:=by
 obtain⟨v0,v1,v2,v3,rfl,q0,q1,q2,q3⟩:=hR
 have hlc:s.cells.length<=1099511627776:=by unfold Aa at hl;omega
 refine Lq Afm (Z0z rfl) trivial ?_
 simp +contextual (disch:=omega) only[go_sem,A76]
 intro n1 f1 N1 H1
 refine M8 s.cells.length 4 0 (fun i env h=>env 1= .ptr n1 0/\env 3=gi (Fl (s.cells.take i))/\h=[.box 1 n1 [v0,v1,v2,v3]]) (fun env h=>env 3=gi (Fl s.cells)) (fun _ _=>False) _ H1 (by simp +contextual (disch:=omega) only[go_sem]) ⟨by simp +contextual (disch:=omega) only[go_sem],by simp +contextual (disch:=omega) only[go_sem];rfl,rfl⟩ ?_ ?_ ?_ (fun _ _ _ _ h=>h.elim)
 ·clear H1
  rintro J Yq Wq hJ hY hW i env h' N hi ei c0 H ⟨e1,e3,rfl⟩
  have hl3:=q3.len
  have L:=A8 q3 hi
  obtain⟨q,hq⟩:∃ q,q=Fl (s.cells.take i):=⟨_,rfl⟩
  have hsn:=Ad6 hi
  rw[<- hq] at e3 hsn
  cases hc:decide (q<s.cells[i].time) with
  |true=>
   rw[if_pos (of_decide_eq_true hc)] at hsn
   simp +contextual (disch:=omega) only[go_sem,c0,e1,e3,ei,A5,hl3,L,hc]
   exact hJ _ _ _ _ H ⟨by simp +contextual (disch:=omega) only[go_sem,e1],by simp +contextual (disch:=omega) only[go_sem,hsn],rfl⟩
  |false=>
   rw[if_neg (of_decide_eq_false hc)] at hsn
   simp +contextual (disch:=omega) only[go_sem,c0,e1,e3,ei,A5,hl3,L,hc]
   exact hJ _ _ _ _ H ⟨by simp +contextual (disch:=omega) only[go_sem,e1],by simp +contextual (disch:=omega) only[go_sem,e3,hsn],rfl⟩
 ·clear H1
  rintro Yq hY env h' N ei c0 H ⟨e1,e3,rfl⟩
  have hl3:=q3.len
  simp +contextual (disch:=omega) only[go_sem,c0,e1,ei,hl3]
  exact hY _ _ _ H (by simp +contextual (disch:=omega) only[go_sem,e3,Zau])
 ·rintro env h' N H e3
  simp +contextual (disch:=omega) only[go_sem,e3]
section
variable {U0 U:St} {h:List Item} {c v:GV} {bs:List Int}
theorem Hx.fst {x:Item} (H:Hx U0 U h) (i:Nat) (hi:h[i]? =some x):Hx U0 U (x::h.eraseIdx i):=by
 have H1:=H.hp.pick i (by rw[List.getElem?_map,hi];rfl:(h.map Item.t)[i]? =some x.t)
 rw[Ajj] at H1
 exact H1
theorem Hx.era (H:Hx U0 U h) (i:Nat):Hx U0 U (h.eraseIdx i):=by
 cases hi:h[i]? with
 |none=>rw[List.eraseIdx_of_length_le (List.getElem?_eq_none_iff.1 hi)];exact H
 |some x=>exact(H.fst i hi).tl
inductive Grw (s0:State):State->Prop
 |nil:Grw s0 s0
 |act {s:State} (rep dt:Int) (e:Edit):Grw s0 s->0<=rep->rep<=2->0<=dt->dt<=1->EdD e->(E9 s rep (Fl s.cells+1+dt) e).2=0->Grw s0 (F1 s (E9 s rep (Fl s.cells+1+dt) e).1).1
def nmS (s:State):Prop:=(∀ x∈s.lives,Bw x.obj=true/\Bw x.key=true/\0<=x.val/\x.val<=999999)/\∀ x∈s.cells,0≤x.val/\x.val<=999999
theorem OkS.nm {s:State} (h:OkS s):nmS s:=by
 refine⟨fun x hx=> ?_,fun x hx=> ?_⟩
 ·have:=(h.l1 x hx).2
  simp only[liv1,Zaa] at this
  have h2:=Bn.1 this.2.2.1
  exact⟨this.1,this.2.1,h2.1,h2.2⟩
 ·have:=(h.c1 x hx).2
  simp only[cel1,Zaa] at this
  exact Bn.1 this.2.1
theorem Grw.ok {s0 s:State} (h:Grw s0 s) (h0:OkS s0):OkS s:=by
 induction h with
 |nil=>exact h0
 |act rep dt e _ _ _ _ _ _ _ ih=>exact Alw _ ih
theorem Pd {cs:List GV} {s:State} (H:Hx U0 U (.th (own A4 cs s)::h)) (k:Nat) (hk:h[k]? =some (cuI c v bs)) (D:Dr U0 v bs) (hs:OkS s) (n:Nat) (hn:n<=1000):
  ∃(ds:List GV) (s':State) (N:St),Grw s s'/\Ret Tryz.prog 187 [c,.agg cs,gi n] U (.agg ds) N/\Hx U0 N (.th (own A4 ds s')::h):=by
 have hlen:cs.length=4:=A4.len (H.hp.rd 0 rfl)
 have key:∃ w N,Ret Tryz.prog 187 [c,.agg cs,gi n] U w N/\∃ ds s',w= .agg ds/\Grw s s'/\Hx U0 N (.th (own A4 ds s')::h):=by
  refine Gi A9h (Z0z rfl) H ?_
  simp +contextual (disch:=omega) only[go_sem,Xp]
  intro n4 f4 N4 H4 n6 f6 N6 H6
  have g4:=Ap (h:=h) f4
  have g6:=Ap (h:=h) f6.2
  have ne46:=f6.1
  clear H4 f4 f6
  refine M8 n 7 0 (fun i env hh=>env 0=c/\env 2=gi n/\env 4= .ptr n4 0/\env 6= .ptr n6 0/\∃ ds s',Grw s s'/\ds.length=4/\hh= .box 1 n6 z4::.box 1 n4 ds::.th (own A4 ds s')::h) (fun env hh=>env 4= .ptr n4 0/\env 6= .ptr n6 0/\∃ ds s',Grw s s'/\ds.length=4/\hh= .box 1 n6 z4::.box 1 n4 ds::.th (own A4 ds s')::h) (fun _ _=>False) _ H6 (by simp +contextual (disch:=omega) only[go_sem]) ⟨by simp +contextual (disch:=omega) only[go_sem],by simp +contextual (disch:=omega) only[go_sem],by simp +contextual (disch:=omega) only[go_sem],by simp +contextual (disch:=omega) only[go_sem],cs,s,.nil,hlen,rfl⟩ ?_ ?_ ?_ (fun _ _ _ _ h=>h.elim)
  ·clear H6
   rintro J Yq Wq hJ hY hW i env h' N hi ei c0 H ⟨e0,e2,e4,e6,ds,s',hg,gl,rfl⟩
   have hok:=hg.ok hs
   have hms:=hok.ms
   have htm:=A78 fun c hc=>(hok.time c hc).2
   simp +contextual (disch:=omega) only[go_sem,c0,e0,e2,e4,e6,ei]
   obtain⟨rep,N1,hrep,R1,H1⟩:=Co H (k+3) hk D 3 (by decide) (by decide)
   refine by_k R1 H1 ?_
   simp +contextual (disch:=omega) only[go_sem,e0,e2,e4,e6,ei]
   obtain⟨e,N2,he,R2,H2⟩:=Sf H1 (k+3) hk D
   refine by_k R2 H2 ?_
   simp +contextual (disch:=omega) only[go_sem,e0,e2,e4,e6,ei]
   intro n9 f9 N3 H3 N5 H5 n10 f10 N7 H7
   have g9:=Ap (h:=h) f9.2.2
   have g10:=Ap (h:=h) f10.2.2.2
   simp +contextual (disch:=omega) only[go_sem,e0,e2,e4,e6,ei,A2 gl]
   refine by_r H7 (Xr _ ds s' (H7.hp.rd 4 rfl) (by omega)) ?_
   obtain⟨tm,htm'⟩:∃ tm,tm=Fl s'.cells:=⟨_,rfl⟩
   rw[<- htm'] at htm ⊢
   simp +contextual (disch:=omega) only[go_sem,e0,e2,e4,e6,ei,A2 gl]
   obtain⟨dt,N8,hdt,R8,H8⟩:=Co H7 (k+5) hk D 2 (by decide) (by decide)
   refine by_k R8 H8 ?_
   simp +contextual (disch:=omega) only[go_sem,e0,e2,e4,e6,ei,A2 gl,Bi]
   have hsz:=he.size
   have hkn:=Xn s'
   obtain⟨as',N9,R9,K9⟩:=A3g N8 ds s' (H8.hp.rd 4 rfl) rep (tm+1+dt) e (by omega) (by omega) (by omega) (by have:=he.place;omega) (by omega)
   have al:as'.length=10:=kAct.len (K9.rd 0 rfl)
   refine by_c H8 R9 K9 fun H9=> ?_
   have hma:=Agp s' rep (tm+1+dt) e
   have hstep:(E9 s' rep (tm+1+dt) e).2=0->Grw s (F1 s' (E9 s' rep (tm+1+dt) e).1).1:=fun hz=>by
    rw[htm'] at hz ⊢
    exact .act rep dt e hg (by omega) (by omega) (by omega) (by omega) he hz
   generalize E9 s' rep (tm+1+dt) e=A at*
   cases hz:(A.2==0) with
   |false=>
    simp +contextual (disch:=omega) only[go_sem,e0,e2,e4,e6,ei,A2 gl,Ab (cs:=zeV) al rfl,al,hz]
    intro N11 H11
    have HA:=(((H11.era 0).era 0).era 0)
    exact hJ _ _ _ _ HA ⟨by simp +contextual (disch:=omega) only[go_sem,e0],by simp +contextual (disch:=omega) only[go_sem,e2],by simp +contextual (disch:=omega) only[go_sem,e4],by simp +contextual (disch:=omega) only[go_sem,e6],ds,s',hg,gl,rfl⟩
   |true=>
    simp +contextual (disch:=omega) only[go_sem,e0,e2,e4,e6,ei,A2 gl,Ab (cs:=zeV) al rfl,al,hz,A2 al]
    intro N11 H11
    obtain⟨ds2,N12,R12,K12⟩:=A3c N11 ds s' (H11.hp.rd 5 rfl) as' A.1 (H11.hp.rd 0 rfl) (by omega) (by omega)
    have gl2:ds2.length=4:=A4.len (K12.rd 0 rfl)
    refine by_c H11 R12 K12 fun H12=> ?_
    simp +contextual (disch:=omega) only[go_sem,e0,e2,e4,e6,ei,Ab (cs:=ds) gl2 gl,gl2,gl,hz]
    intro N13 H13
    have HA:=((((H13.era 6).era 3).era 2).era 1)
    have HB:=(HA.fst 2 rfl).fst 2 rfl
    exact hJ _ _ _ _ HB ⟨by simp +contextual (disch:=omega) only[go_sem,e0],by simp +contextual (disch:=omega) only[go_sem,e2],by simp +contextual (disch:=omega) only[go_sem,e4],by simp +contextual (disch:=omega) only[go_sem,e6],ds2,_,hstep (by simpa using hz),gl2,rfl⟩
  ·clear H6
   rintro Yq hY env h' N ei c0 H ⟨e0,e2,e4,e6,ds,s',hg,gl,rfl⟩
   simp +contextual (disch:=omega) only[go_sem,c0,e2,ei]
   exact hY _ _ _ H ⟨by simp +contextual (disch:=omega) only[go_sem,e4],by simp +contextual (disch:=omega) only[go_sem,e6],ds,s',hg,gl,rfl⟩
  ·rintro env h' N H ⟨e4,e6,ds,s',hg,gl,rfl⟩
   simp +contextual (disch:=omega) only[go_sem,e4,e6,A2 gl,Ab (cs:=z4) gl rfl,gl]
   intro N1 H1
   exact⟨_,rfl,ds,s',rfl,hg,(H1.era 1).era 0⟩
 obtain⟨w,N,R,ds,s',rfl,hg,H'⟩:=key
 exact⟨ds,s',N,hg,R,H'⟩
theorem Pe (H:Hx U0 U h) (k:Nat) (hk:h[k]? =some (cuI c v bs)) (D:Dr U0 v bs):
  ∃(ds:List GV) (s:State) (N:St),Grw st0 s/\Ret Tryz.prog 90 [c] U (.agg ds) N/\Hx U0 N (.th (own A4 ds s)::h):=by
 have key:∃ w N,Ret Tryz.prog 90 [c] U w N/\∃ ds s,w= .agg ds/\Grw st0 s/\Hx U0 N (.th (own A4 ds s)::h):=by
  refine Gi A9i (Z0z rfl) H ?_
  simp +contextual (disch:=omega) only[go_sem,Xq]
  intro n2 f2 N2 H2
  have g2:=Ap (h:=h) f2
  obtain⟨cs,N3,R3,K3⟩:=Pc N2
  refine by_c H2 R3 K3 fun H3=> ?_
  simp +contextual (disch:=omega) only[go_sem]
  obtain⟨x,N4,hx,R4,H4⟩:=Co H3 (k+2) hk D 9 (by decide) (by decide)
  refine by_k R4 H4 ?_
  obtain⟨q,hq⟩:∃ q:Nat,q=2+x:=⟨_,rfl⟩
  have e:(2:Int)+x=(q:Int):=by omega
  simp +contextual (disch:=omega) only[go_sem,e]
  obtain⟨ds,s,N5,hg,R5,H5⟩:=Pd H4 (k+1) hk D A3m q (by omega)
  have gl:ds.length=4:=A4.len (H5.hp.rd 0 rfl)
  refine by_k R5 H5 ?_
  simp +contextual (disch:=omega) only[go_sem,Ab (cs:=z4) gl rfl,gl,A2 gl]
  intro N6 H6
  exact⟨_,rfl,ds,s,rfl,hg,H6.era 1⟩
 obtain⟨w,N,R,ds,s,rfl,hg,H'⟩:=key
 exact⟨ds,s,N,hg,R,H'⟩
theorem Hx.ownS {N:St} {v0 v1 v2 v3:GV} {kn:List Int} {tl:List Tally} {lv:List Live} {cl:List Cell} (H:Hx U0 N (.th (ow pI.kd v0 kn)::.th (ow Ba.kd v1 tl)::.th (ow Bp.kd v2 lv)::.th (ow Ak.kd v3 cl)::h)):Hx U0 N (.th (own A4 [v0,v1,v2,v3] ⟨kn,tl,lv,cl⟩)::h):=Hp.ownState (x:=⟨kn,tl,lv,cl⟩) H
theorem A3n {Y:Type} {f:Y->Nat}:∀(l:List Y) (j:Nat) (y:Y),sumL f (l.set j y)<=sumL f l+f y
 |[],j,y=>by simp[sumL]
 |x::l,0,y=>by simp[sumL];omega
 |x::l,j+1,y=>by
  have:=A3n (f:=f) l j y
  simp only[sumL,Zab,Za3,List.sum_cons] at*
  omega
theorem A9j {Y:Type} {f:Y->Nat} (l:List Y) (y:Y):sumL f (l++[y])=sumL f l+f y:=by simp[sumL]
theorem V6 (H:Hx U0 U h) (k:Nat) (hk:h[k]? =some (cuI c v bs)) (D:Dr U0 v bs):
  ∃(ds:List GV) (s:State) (N:St),Aa s<=6000/\nmS s/\Ret Tryz.prog 122 [c] U (.agg ds) N/\Hx U0 N (.th (own A4 ds s)::h):=by
 have key:∃ w N,Ret Tryz.prog 122 [c] U w N/\∃ ds s,w= .agg ds/\(Aa s<=6000/\nmS s)/\Hx U0 N (.th (own A4 ds s)::h):=by
  refine Gi Afn (Z0z rfl) H ?_
  simp +contextual (disch:=omega) only[go_sem,A77]
  intro n2 f2 N2 H2
  have g2:=Ap (h:=h) f2
  obtain⟨x,N3,hx,R3,H3⟩:=Co H2 (k+1) hk D 14 (by decide) (by decide)
  refine by_k R3 H3 ?_
  simp +contextual (disch:=omega) only[go_sem]
  obtain⟨y,N4,hy,R4,H4⟩:=Co H3 (k+1) hk D 60 (by decide) (by decide)
  refine by_k R4 H4 ?_
  simp +contextual (disch:=omega) only[go_sem]
  obtain⟨os,s,N5,hg,R5,H5⟩:=Pe H4 (k+1) hk D
  have hok:=hg.ok A3m
  have hms:=hok.ms
  have hnm:=hok.nm
  refine by_k R5 H5 ?_
  simp +contextual (disch:=omega) only[go_sem]
  obtain⟨ds,N6,R6,K6⟩:=Fk N5 os s (H5.hp.rd 0 rfl) (by omega)
  have H6:Hx U0 N6 (.th (own A4 ds s)::.box 1 n2 z4::h):=Hx.era (h:=.th (own A4 ds s)::.th (own A4 os s)::.box 1 n2 z4::h) (H5.hp.add K6) 1
  obtain⟨v0,v1,v2,v3,rfl,HS⟩:=Hp.splitState H6.hp
  have HS:Hx U0 N6 (.th (ow pI.kd v0 s.know)::.th (ow Ba.kd v1 s.tallies)::.th (ow Bp.kd v2 s.lives)::.th (ow Ak.kd v3 s.cells)::.box 1 n2 z4::h):=HS
  refine by_m R6 HS ?_
  have k0:=(HS.hp.sl 0 rfl).cell
  have k1:=(HS.hp.sl 1 rfl).cell
  have k2:=(HS.hp.sl 2 rfl).cell
  have k3:=(HS.hp.sl 3 rfl).cell
  clear K6 R6 R5 H5 H6 R4 R3 H4 H3 H2
  have m3:¬ ((3:Int)=0):=by decide
  have m4:¬ ((4:Int)=0):=by decide
  have m2:¬ ((2:Int)=0):=by decide
  have m5:¬ ((5:Int)=0):=by decide
  have m9:¬ ((9:Int)=0):=by decide
  simp +contextual (disch:=omega) only[go_sem,k0,k1,k2,k3]
  intro n5 f5 N7 H7 N8 H8
  have g5:=Ap (h:=h) f5.2
  have ne25:=f5.1
  clear HS H7 f5 f2
  have hkl:=I6 hok.kn
  have nn0:B5 (some (GV.int .i64 0))=some 0:=rfl
  have nn1:B5 (some (GV.int .i64 1))=some 1:=rfl
  have nn2:B5 (some (GV.int .i64 2))=some 2:=rfl
  have fin:∀ {w0 w1 w2 w3:GV} {kn:List Int} {tl:List Tally} {lv:List Live} {cl:List Cell} {b1 b2:List GV} {N:St},Hx U0 N (.box 1 n5 b1::.th (ow pI.kd w0 kn)::.th (ow Ba.kd w1 tl)::.th (ow Bp.kd w2 lv)::.th (ow Ak.kd w3 cl)::.box 1 n2 b2::h)->Hx U0 N (.th (own A4 [w0,w1,w2,w3] ⟨kn,tl,lv,cl⟩)::h):=fun H=>((H.era 5).era 0).ownS
  by_cases hx0:x=0
  ·have c0:((x:Int)==0)=true:=by simp[hx0]
   rcases(show y % 3=0∨y % 3=1∨y % 3=2 by omega) with e|e|e
   ·have t3:(y:Int).tmod 3=0:=by rw[Zai (by omega)];omega
    simp +contextual (disch:=omega) only[go_sem,c0,k0,k1,k2,k3,m3,t3]
    intro n20 f20 N9 H9
    have g20:=Ap (h:=h) f20.2.2
    have hj:0<s.know.length:=by omega
    have L:=(Cx (H9.hp.sl 2 rfl) hj).1
    have I0:iadG 1 (GV.sl n20 0 3) (some 0)=some (.ptr n20 0):=rfl
    simp +contextual (disch:=omega) only[go_sem,c0,k0,k1,k2,k3,m3,t3,nn0,I0,L]
    refine Ajk (p:=pI) H9 2 rfl hj (x:=gi 0) (0) rfl rfl (by decide) fun N10 H10=> ?_
    simp +contextual (disch:=omega) only[go_sem,c0,k0,k1,k2,k3]
    intro N11 H11
    exact⟨_,rfl,_,⟨_,_,_,_⟩,rfl,⟨by have:=hms;unfold Aa at *;simp only[Zaw];omega,by exact⟨hnm.1,hnm.2⟩⟩,fin H11.tl⟩
   ·have t3:(y:Int).tmod 3=1:=by rw[Zai (by omega)];omega
    simp +contextual (disch:=omega) only[go_sem,c0,k0,k1,k2,k3,m3,t3]
    intro n20 f20 N9 H9
    have g20:=Ap (h:=h) f20.2.2
    have hj:1<s.know.length:=by omega
    have L:=(Cx (H9.hp.sl 2 rfl) hj).1
    have I0:iadG 1 (GV.sl n20 0 3) (some 1)=some (.ptr n20 1):=rfl
    simp +contextual (disch:=omega) only[go_sem,c0,k0,k1,k2,k3,m3,t3,nn1,I0,L]
    refine Ajk (p:=pI) H9 2 rfl hj (x:=gi (-1)) (-1) rfl rfl (by decide) fun N10 H10=> ?_
    simp +contextual (disch:=omega) only[go_sem,c0,k0,k1,k2,k3]
    intro N11 H11
    exact⟨_,rfl,_,⟨_,_,_,_⟩,rfl,⟨by have:=hms;unfold Aa at *;simp only[Zaw];omega,by exact⟨hnm.1,hnm.2⟩⟩,fin H11.tl⟩
   ·have t3:(y:Int).tmod 3=2:=by rw[Zai (by omega)];omega
    simp +contextual (disch:=omega) only[go_sem,c0,k0,k1,k2,k3,m3,t3]
    intro n20 f20 N9 H9
    have g20:=Ap (h:=h) f20.2.2
    have hj:2<s.know.length:=by omega
    have L:=(Cx (H9.hp.sl 2 rfl) hj).1
    have I0:iadG 1 (GV.sl n20 0 3) (some 2)=some (.ptr n20 2):=rfl
    simp +contextual (disch:=omega) only[go_sem,c0,k0,k1,k2,k3,m3,t3,nn2,I0,L]
    refine Ajk (p:=pI) H9 2 rfl hj (x:=gi 1001) (1001) rfl rfl (by decide) fun N10 H10=> ?_
    simp +contextual (disch:=omega) only[go_sem,c0,k0,k1,k2,k3]
    intro N11 H11
    exact⟨_,rfl,_,⟨_,_,_,_⟩,rfl,⟨by have:=hms;unfold Aa at *;simp only[Zaw];omega,by exact⟨hnm.1,hnm.2⟩⟩,fin H11.tl⟩
  have c0:((x:Int)==0)=false:=by simp;omega
  by_cases hx1:x=1
  ·have c1:((x:Int)==1)=true:=by simp[hx1]
   obtain⟨q4,hq4⟩:∃ q,q=(y:Int).tmod 4:=⟨_,rfl⟩
   simp +contextual (disch:=omega) only[go_sem,c0,c1,k0,k1,k2,k3,m4,<-hq4]
   intro n20 f20 N9 H9
   have g20:=Ap (h:=h) f20.2.2
   have lb:=hok.tn
   refine J7 (p:=Ba) H9 3 rfl ⟨⟨#[97]⟩,q4,y⟩ J6 (by decide) (by omega) fun v' N10 H10=> ?_
   have w1:=(H10.hp.sl 3 rfl).cell
   simp +contextual (disch:=omega) only[go_sem,c0,c1,k0,k1,k2,k3,w1]
   intro N11 H11
   intro N12 H12
   exact⟨_,rfl,_,⟨_,_,_,_⟩,rfl,⟨by have:=hms;unfold Aa at *;simp only[Zal,Zar,A9j,C5,show(ByteArray.mk #[97]).size=1 from rfl];omega,by exact⟨hnm.1,hnm.2⟩⟩,fin H12.tl⟩
  have c1:((x:Int)==1)=false:=by simp;omega
  by_cases hx2:x=2
  ·have c2:((x:Int)==2)=true:=by simp[hx2]
   obtain⟨q4,hq4⟩:∃ q,q=(y:Int).tmod 4:=⟨_,rfl⟩
   obtain⟨q2,hq2⟩:∃ q,q=(y:Int).tmod 2:=⟨_,rfl⟩
   obtain⟨q3,hq3⟩:∃ q,q=(y:Int).tmod 3:=⟨_,rfl⟩
   obtain⟨q5,hq5⟩:∃ q,q=IntKind.i64.wrap (1+(y:Int).tmod 5):=⟨_,rfl⟩
   simp +contextual (disch:=omega) only[go_sem,c0,c1,c2,k0,k1,k2,k3,m2,m3,m4,m5,<-hq2,<-hq3,<-hq4,<-hq5]
   intro n20 f20 N9 H9
   have g20:=Ap (h:=h) f20.2.2
   have lb:=hok.ln
   refine J7 (p:=Bp) H9 4 rfl ⟨q2==0,⟨#[97]⟩,⟨#[120]⟩,q3,⟨q4,q5⟩⟩ J6 (by decide) (by omega) fun v' N10 H10=> ?_
   have w2:=(H10.hp.sl 4 rfl).cell
   simp +contextual (disch:=omega) only[go_sem,c0,c1,c2,k0,k1,k2,k3,w2]
   intro N11 H11
   intro N12 H12
   exact⟨_,rfl,_,⟨_,_,_,_⟩,rfl,⟨by have:=hms;unfold Aa at *;simp only[Zal,Zar,A9j,Cr,show(ByteArray.mk #[97]).size=1 from rfl,show(ByteArray.mk #[120]).size=1 from rfl];omega,by exact⟨fun z hz=>(Za5.1 hz).elim (hnm.1 z) (fun hh=>by rw[Zbm] at hh;subst hh;exact⟨(A9e (by simp[A9d])).1,(Afk (by simp[Afj])).1,by show 0<=q3;rw[hq3,Zai (by omega)];omega,by show q3<=999999;rw[hq3,Zai (by omega)];omega⟩),hnm.2⟩⟩,fin H12.tl⟩
  have c2:((x:Int)==2)=false:=by simp;omega
  by_cases hx3:x=3
  ·have c3:((x:Int)==3)=true:=by simp[hx3]
   obtain⟨q3,hq3⟩:∃ q,q=(y:Int).tmod 3:=⟨_,rfl⟩
   obtain⟨q9,hq9⟩:∃ q,q=(y:Int).tmod 9:=⟨_,rfl⟩
   obtain⟨p9,hp9⟩:∃ q,q=IntKind.i64.wrap (1+q9):=⟨_,rfl⟩
   simp +contextual (disch:=omega) only[go_sem,c0,c1,c2,c3,k0,k1,k2,k3,m9,m3,<-hq3,<-hq9,<-hp9]
   intro n20 f20 N9 H9
   have g20:=Ap (h:=h) f20.2.2
   have lb:=hok.cn
   refine J7 (p:=Ak) H9 5 rfl ⟨⟨#[97]⟩,⟨2,p9⟩,q9,⟨0,q3⟩,0,false⟩ J6 (by decide) (by omega) fun v' N10 H10=> ?_
   have w3:=(H10.hp.sl 5 rfl).cell
   simp +contextual (disch:=omega) only[go_sem,c0,c1,c2,c3,k0,k1,k2,k3,w3]
   intro N11 H11
   intro N12 H12
   exact⟨_,rfl,_,⟨_,_,_,_⟩,rfl,⟨by have:=hms;unfold Aa at *;simp only[Zal,Zar,A9j,Dm,show(ByteArray.mk #[97]).size=1 from rfl];omega,by exact⟨hnm.1,fun z hz=>(Za5.1 hz).elim (hnm.2 z) (fun hh=>by rw[Zbm] at hh;subst hh;exact⟨Zbs 0,by show(0:Int)<=999999;omega⟩)⟩⟩,fin H12.tl⟩
  have c3:((x:Int)==3)=false:=by simp;omega
  by_cases hx4:x=4
  ·have c4:((x:Int)==4)=true:=by simp[hx4]
   have hlc:=(H8.hp.sl 4 rfl).len
   cases hb:decide (0<(s.cells.length:Int)) with
   |false=>
    simp +contextual (disch:=omega) only[go_sem,c0,c1,c2,c3,c4,k0,k1,k2,k3,hlc,hb]
    intro N9 H9
    exact⟨_,rfl,_,⟨_,_,_,_⟩,rfl,⟨by show Aa s<=6000;omega,by exact⟨hnm.1,hnm.2⟩⟩,fin H9⟩
   |true=>
    have hb1:0<s.cells.length:=by simpa using hb
    have ml:¬ ((s.cells.length:Int)=0):=by omega
    have hj:y % s.cells.length<s.cells.length:=Nat.mod_lt _ hb1
    have tl:B5 (some (GV.int .i64 ((y:Int).tmod s.cells.length)))=some (y % s.cells.length):=Bh (by rw[Zai (by omega)];omega)
    have L:=Alb H8 4 rfl hj
    simp +contextual (disch:=omega) only[go_sem,c0,c1,c2,c3,c4,k0,k1,k2,k3,hlc,hb,ml,tl,L]
    obtain⟨C,hC⟩:∃ C:Cell,C={s.cells[y % s.cells.length] with obj:=⟨#[98]⟩}:=⟨_,rfl⟩
    have hC1:Dm C=1:=by rw[hC];rfl
    have h1:=A3n (f:=Dm) s.cells (y % s.cells.length) C
    have hbd:Aa ⟨s.know,s.tallies,s.lives,s.cells.set (y % s.cells.length) C⟩<=Aa s+1:=by simp only[Aa,Zaw];omega
    refine Ama (p:=Ak) H8 4 rfl hj (m:=0) (n:=1) (x:=.str ⟨#[98]⟩) C rfl (by decide) (by decide) (by rw[hC];rfl) fun N9 H9=> ?_
    have w3:=(H9.hp.sl 4 rfl).cell
    simp +contextual (disch:=omega) only[go_sem,k0,k1,k2,w3]
    intro N10 H10
    exact⟨_,rfl,_,⟨_,_,_,_⟩,rfl,⟨Nat.le_trans hbd (by omega),by exact⟨hnm.1,fun z hz=>(Zap hz).elim (hnm.2 z) (fun hh=>by have h5:=hnm.2 _ (Zan hj);rw[hh,hC];exact h5)⟩⟩,fin H10⟩
  have c4:((x:Int)==4)=false:=by simp;omega
  simp +contextual (disch:=omega) only[go_sem,c0,c1,c2,c3,c4,k0,k1,k2,k3]
  intro N9 H9
  exact⟨_,rfl,_,⟨_,_,_,_⟩,rfl,⟨by show Aa s<=6000;omega,by exact⟨hnm.1,hnm.2⟩⟩,fin H9⟩
 obtain⟨w,N,R,ds,s,rfl,hg,H'⟩:=key
 exact⟨ds,s,N,hg.1,hg.2,R,H'⟩
end
section
variable {P:Program} {U0 U N:St} {h:List Item} {c v:GV} {bs:List Int} {Y:Type} {l:List Y}
theorem Dr.pre (D:Dr U0 v bs) (hp:U0 <+: U):Dr U v bs:=⟨D.hv.pre hp,D.hl⟩
theorem Aia (H:Hx U0 U h) (D:Dr U0 v bs):∃(c:GV) (N:St),Ret Tryz.prog 89 [v] U c N/\Hx U0 N (cuI c v bs::h):=by
 obtain⟨c,N,R,K⟩:=Acs U v bs (D.hv.pre H.sub) D.hl
 exact⟨c,N,R,H.hp.add K⟩
end
def Akk:Fn1:=⟨6,[.t 2],(rg [oV 2 kf] (rg [oM 3 0,oN 4 3,oE 5 .gtr 4 1048576,oM 2 5] .ret))⟩
theorem Alx:A6 Tryz.prog 27=some Akk:=by kernel_rfl
def Xt:Fn1:=⟨26,[.t 4],(rg [oV 4 kf] (.seq (rg [oM 6 0,oN 7 6,oM 8 1,oN 9 8,oB 10 .neq 7 9] (oG 10 (oR 4 kf))) (.seq (rg [oV 5 (ki 0)] (oH 0 (.seq (rg [oM 11 5,oM 12 0,oN 13 12,oB 14 .lss 11 13] (oJ 14 0)) (.seq (.blk 1 (dw [oM 17 0,oM 18 5,oI 19 1 17 18,oL 20 19,oM 21 1,oM 22 5,oI 23 1 21 22,oL 24 23] [oB 25 .neq 20 24] (oG 25 (oR 4 kf)))) (.reg [oM 15 5,oZ 16 15 1,oM 5 16]))))) (oR 4 kt))))⟩
theorem A9k:A6 Tryz.prog 40=some Xt:=by kernel_rfl
theorem Ad7 (U:St) (v:GV) (l:List Int) (h:RS pB.kd U v l):Ret Tryz.prog 27 [v] U (.bool (decide ((1048576:Int)<l.length))) U:=by
 refine Lq Alx (Z0z rfl) trivial ?_
 simp +contextual (disch:=omega) only[go_sem,Akk,h.len]
 try exact fun _=>rfl
theorem A4t (U:St) (v u:GV) (a b:List Int) (ha:RS pI.kd U v a) (hb:RS pI.kd U u b) (hla:a.length<=1099511627776):Ret Tryz.prog 40 [v,u] U (.bool (decide (a=b))) U:=by
 refine Ae A9k (Z0z rfl) trivial ?_
 simp +contextual (disch:=omega) only[go_sem,Xt,ha.len,hb.len]
 refine⟨fun hn=> ?_,fun hn=> ?_⟩
 ·have:a≠b:=fun h=>by subst h;simp at hn
  simp[this]
 ·have hlm:a.length=b.length:=by
                     have h2:(a.length:Int)=b.length:=by simpa using hn
                     omega
  refine Bk a.length 5 (fun i env N=>env 0=v/\env 1=u/\a.take i=b.take i/\U <+: N) rfl ⟨rfl,rfl,rfl,Zbi _⟩ ?_ ?_
  ·rintro i env N hi e5 c0 ⟨e0,e1,he,hp⟩
   have hj:i<b.length:=by omega
   have hne:a[i]≠b[i]->a≠b:=fun h h'=>h (by subst h';rfl)
   have hst:a[i]=b[i]->a.take (i+1)=b.take (i+1):=fun h=>by rw[Ax hi,Ax hj,he,h]
   simp +contextual (disch:=omega) only[go_sem,c0,e0,e1,e5,ha.len,hb.len,Cx (ha.pre hp) hi,Cx (hb.pre hp) hj,hp]
   refine⟨fun h=> ?_,fun h=> ?_⟩
   ·simp[hne (by simpa using h)]
   ·simpa using hst (by simpa using h)
  ·rintro env N e5 c0 ⟨e0,e1,he,hp⟩
   rw[Zau,hlm,Zau] at he
   simp +contextual (disch:=omega) only[go_sem,c0,e0,e1,e5,ha.len,hb.len,hp]
   simp[he]
def Sh:Fn1:=⟨6,[.c 2 true 4],(rg [o 2 (.new [.nilS,.nilS,.nilS,.nilS])] (rg [oM 3 0,oC 4 89 3,oC 5 90 4,oS 4 2 5] .ret))⟩
theorem A4u:A6 Tryz.prog 56=some Sh:=by kernel_rfl
section
variable {U0 U N:St} {h:List Item} {c v:GV} {bs:List Int}
theorem byte_x (H:Hx U0 U h) (k:Nat) (hk:h[k]? =some (cuI c v bs)) (D:Dr U0 v bs):∃(x:Nat) (N:St),x≤255/\Ret Tryz.prog 191 [c] U (gi x) N/\Hx U0 N h:=by
 obtain⟨r,N,R,x,rfl,h1,h2,H'⟩:=E2 (U0:=U0) H (at_t hk) D.hv D.hl
 obtain⟨y,rfl⟩:∃ y:Nat,x=y:=⟨x.toNat,by omega⟩
 exact⟨y,N,by omega,R,H'⟩
theorem A3o (H:Hx U0 U h) (D:Dr U0 v bs):∃(ds:List GV) (s:State) (N:St),Grw st0 s/\Ret Tryz.prog 56 [v] U (.agg ds) N/\Hx U0 N (.th (own A4 ds s)::h):=by
 have key:∃ w N,Ret Tryz.prog 56 [v] U w N/\∃ ds s,w= .agg ds/\Grw st0 s/\Hx U0 N (.th (own A4 ds s)::h):=by
  refine Gi A4u (Z0z rfl) H ?_
  simp +contextual (disch:=omega) only[go_sem,Sh]
  intro n1 f1 N1 H1
  have g1:=Ap (h:=h) f1
  obtain⟨c,N2,R2,H2⟩:=Aia H1 D
  refine by_k R2 H2 ?_
  simp +contextual (disch:=omega) only[go_sem]
  obtain⟨ds,s,N3,hg,R3,H3⟩:=Pe H2 0 rfl D
  have gl:ds.length=4:=A4.len (H3.hp.rd 0 rfl)
  refine by_k R3 H3 ?_
  simp +contextual (disch:=omega) only[go_sem,Ab (cs:=z4) gl rfl,gl,A2 gl]
  intro N4 H4
  exact⟨_,rfl,ds,s,rfl,hg,(H4.era 2).era 1⟩
 obtain⟨w,N,R,ds,s,rfl,h1,h2⟩:=key
 exact⟨ds,s,N,h1,R,h2⟩
end
def Ib:Fn1:=⟨23,[.c 2 true 4,.c 3 true 4,.t 4],(rg [o 2 (.new [.nilS,.nilS,.nilS,.nilS]),o 3 (.new [.nilS,.nilS,.nilS,.nilS]),o 4 (.mov (.k s0))] (rg [oM 8 0,oC 9 89 8,oM 5 9] (rg [oM 10 5,oC 11 150 10,oM 6 11] (rg [oM 12 5,oC 13 122 12,o 7 (.new [.nilS,.nilS,.nilS,.nilS]),oS 4 7 13] (.seq (rg [oM 14 5,o 15 (.call 124 [(.t 14),(ki 2)])] (oG 15 (dw [] [oW 16 4 7,oW 17 4 7,oM 18 6,oS 4 2 16,on (.chk 17 (.ld true 4 (.t 7))),oS 4 3 17,oM 4 18] .ret))) (dw [] [oW 19 4 7,oM 20 5,oC 21 122 20,on (.chk 19 (.ld true 4 (.t 7))),oM 22 6,oS 4 2 19,oS 4 3 21,oM 4 22] .ret))))))⟩
theorem Ow:E4 true Tryz.prog 55=some Ib:=by kernel_rfl
section
variable {U0 U N:St} {h:List Item} {bs:List Int} {c v:GV}
theorem Qa (H:Hx U0 U h) (D:Dr U0 v bs):∃(ds:List GV) (a:State) (es:List GV) (b:State) (o:ByteArray) (N:St) (h':List Item),(Aa a<=6000/\nmS a)/\(Aa b<=6000/\nmS b)/\o∈A9d/\Ret Tryz.prog 55 [v] U (.tup [.agg ds,.agg es,.str o]) N/\Hx U0 N h'/\∀ N',Hx U0 N' h'->A4.R N' a ds/\A4.R N' b es:=by
 have key:∃ w N,Ret Tryz.prog 55 [v] U w N/\∃(ds:List GV) (a:State) (es:List GV) (b:State) (o:ByteArray) (h':List Item),w= .tup [.agg ds,.agg es,.str o]/\(Aa a<=6000/\nmS a)/\(Aa b<=6000/\nmS b)/\o∈A9d/\Hx U0 N h'/\∀ N',Hx U0 N' h'->A4.R N' a ds/\A4.R N' b es:=by
  refine Gi Ow (Z0z rfl) H ?_
  simp +contextual (disch:=omega) only[go_sem,Ib]
  intro n2 f2 N1 _ n3 f3 N2 H2
  have g2:=Ap (h:=h) f2
  have g3:=Ap (h:=h) f3.2
  have ne23:=f3.1
  obtain⟨c,N3,R3,H3⟩:=Aia H2 D
  refine by_k R3 H3 ?_
  simp +contextual (disch:=omega) only[go_sem]
  obtain⟨o,N4,ho,R4,H4⟩:=O1 H3 0 rfl D
  refine by_k R4 H4 ?_
  simp +contextual (disch:=omega) only[go_sem]
  obtain⟨ds,a,N5,ha,na,R5,H5⟩:=V6 H4 0 rfl D
  have gl:ds.length=4:=A4.len (H5.hp.rd 0 rfl)
  refine by_k R5 H5 ?_
  simp +contextual (disch:=omega) only[go_sem,Ab (cs:=z4) gl rfl,gl,A2 gl]
  intro n7 f7 N6 _ N7 H7
  have g7:U0.length<=n7:=Ap (h:=h) (by simpa [frX] using f7.2.2)
  obtain⟨b,N8,R8,H8⟩:=Se H7 2 rfl D 2 (by decide)
  refine by_k R8 H8 ?_
  cases b with
  |true=>
   simp +contextual (disch:=omega) only[go_sem,Ab (cs:=z4) gl rfl,gl,A2 gl]
   intro N9 _ N10 H10
   exact⟨_,rfl,ds,a,ds,a,o,_,rfl,⟨ha,na⟩,⟨ha,na⟩,ho,H10.re [1] (by decide),fun N' H'=>⟨H'.hp.rd 0 rfl,H'.hp.rd 0 rfl⟩⟩
  |false=>
   simp +contextual (disch:=omega) only[go_sem,Ab (cs:=z4) gl rfl,gl,A2 gl]
   obtain⟨es,b,N9,hb,nb,R9,H9⟩:=V6 H8 2 rfl D
   have gm:es.length=4:=A4.len (H9.hp.rd 0 rfl)
   refine by_k R9 H9 ?_
   simp +contextual (disch:=omega) only[go_sem,Ab (cs:=z4) gl rfl,gl,A2 gl,Ab (cs:=z4) gm rfl,gm,A2 gm]
   intro N10 _ N11 H11
   exact⟨_,rfl,ds,a,es,b,o,_,rfl,⟨ha,na⟩,⟨hb,nb⟩,ho,H11.re [2,0] (by decide),fun N' H'=>⟨H'.hp.rd 0 rfl,H'.hp.rd 1 rfl⟩⟩
 obtain⟨w,N,R,ds,a,es,b,o,h',rfl,h1,h2,h3,h4,h5⟩:=key
 exact⟨ds,a,es,b,o,N,h',h1,h2,h3,R,h4,h5⟩
end
theorem nmS.stI {s:State} (h:nmS s):stI s:=⟨fun x hx=>by have:=(h.1 x hx).2.2.2;omega,fun x hx=>by have:=(h.2 x hx).2;omega⟩
def isBl (b:UInt8):Bool:=(b.toNat:Int)==32
def no32 (b:ByteArray):Prop:=b.data.toList.countP isBl=0
theorem Agq {a b:ByteArray} (h:no32 a) (k:no32 b):no32 (a++b):=by unfold no32 at *;rw[Oo,Zam,h,k]
theorem A9l {sep:ByteArray} (hs:no32 sep):∀ {l:List ByteArray},(∀ x∈l,no32 x)->no32 (joB l sep):=by
 intro l h
 unfold no32
 rw[Iw]
 cases l with
 |nil=>rfl
 |cons x l=>
  rw[Za3,Lib.join_cons,Zam,show x.data.toList.countP isBl=0 from h x Zaf,Nat.zero_add]
  have key:∀ l:List ByteArray,(∀ x∈l,no32 x)->(Lib.joinTail sep.data.toList (l.map (·.data.toList))).countP isBl=0:=by
   intro l
   induction l with
   |nil=>intro _;rfl
   |cons y l ih=>
    intro h
    have e:Lib.joinTail sep.data.toList ((y::l).map (·.data.toList))=sep.data.toList++y.data.toList++Lib.joinTail sep.data.toList (l.map (·.data.toList)):=by simp[Lib.joinTail]
    rw[e,Zam,Zam,ih fun z hz=>h z (Zag _ hz),show sep.data.toList.countP isBl=0 from hs,show y.data.toList.countP isBl=0 from h y Zaf]
  exact key l fun y hy=>h y (Zag _ hy)
theorem Agr (u:Nat):(Lib.decDigits u).countP isBl=0:=by
 have dg:∀ d,d<10->isBl (UInt8.ofNat (48+d))=false:=by decide
 induction u using Nat.strongRecOn with
 |_ u ih=>
  rw[Lib.decDigits]
  split
  ·rename_i h
   rw[Za0,dg u h];rfl
  ·rw[Zam,ih (u / 10) (by omega),Za0,dg (u % 10) (by omega)];rfl
theorem Aly (n:Int):no32 (itB n):=by
 have e:(itB n).data.toList=Lib.itoa n:=by simp[itB]
 unfold no32
 rw[e,Lib.itoa]
 split
 ·rw[Za0,Agr];rfl
 ·exact Agr _
theorem A3p {sep:ByteArray} (hs:no32 sep) (l:List Int):no32 (tolB l sep):=A9l hs fun x hx=>by
 obtain⟨n,_,rfl⟩:=Za9.1 hx
 exact Aly _
theorem Ad8 {s:ByteArray} (h:Bw s=true):no32 s:=by
 unfold Bw at h
 rw[Zaa,Zbh] at h
 refine List.countP_eq_zero.2 fun b hb=> ?_
 have:=h.1 b hb
 unfold lowB at this
 have:=Bn.1 this
 simp[isBl];omega
theorem A3q {s:State} (h:nmS s) (m:Bool) (o:ByteArray):∀ x∈Ag s m o,Bw x=true:=fun x hx=>by
 have:=((Ps (lt:=txLt) (fun x y z=>Ht) Zq _).2 x).1 hx
 obtain⟨l,hl,rfl⟩:=Za9.1 this
 exact(h.1 l (Za4.1 hl).1).2.1
theorem Afo {s:State} (h:nmS s) (o:ByteArray):(Za s o).data.toList.countP isBl=3:=by
 have c0:no32 ⟨#[44]⟩:=by unfold no32;decide
 have c1:no32 ⟨#[124]⟩:=by unfold no32;decide
 have c2:no32 ⟨#[]⟩:=by unfold no32;decide
 have c3:no32 ⟨#[61]⟩:=by unfold no32;decide
 have h1:no32 (tolB [Az s o] ⟨#[]⟩):=A3p c2 _
 have h2:no32 (joB (Ag s false o) ⟨#[44]⟩):=A9l c0 fun x hx=>Ad8 (A3q h false o x hx)
 have h3:no32 (joB ((Ag s true o).map (mapT s o)) ⟨#[44]⟩):=A9l c0 fun x hx=>by
  obtain⟨k,hk,rfl⟩:=Za9.1 hx
  exact Agq (Agq (Ad8 (A3q h true o k hk)) c3) (A3p c1 _)
 have h4:no32 (tolB (Hh s o) ⟨#[44]⟩):=A3p c0 _
 unfold no32 at h1 h2 h3 h4
 have e:([32]:List UInt8).countP isBl=1:=by decide
 simp only[Za,Oo,Zam,h1,h2,h3,h4,e]
theorem Ad9 {a b:State} {o:ByteArray}:∀ {ks:List ByteArray},Ce a b o ks=true->ks.map (mapT a o)=ks.map (mapT b o)
 |[],_=>rfl
 |k::ks,h=>by
  simp only[Ce,List.all_cons,Zaa,decide_eq_true_eq] at h
  rw[Za3,Za3,Ad9 (ks:=ks) h.2,mapT,mapT,h.1]
theorem Akl {a b:State} {o:ByteArray} (h:Ao a b o=true):Za a o=Za b o:=by
 simp only[Ao,Zaa,decide_eq_true_eq] at h
 obtain⟨h1,h2,h3,h4,h5⟩:=h
 rw[Za,Za,h1,h2,h4,Ad9 h5,h3]
theorem Akm (s:State) (o:ByteArray):Ao s s o=true:=by simp[Ao,Ce]
theorem Afp {l:List UInt8} {i:Nat} (hi:i<l.length):(l.take (i+1)).countP isBl=(l.take i).countP isBl+(if isBl l[i] then 1 else 0):=by
 rw[List.take_succ_eq_append_getElem hi,Zam,Za0,Zbt,Nat.zero_add]
theorem Akn {s:State} (hI:stI s) (hl:Aa s<=1048576) (o:ByteArray):(Za s o).size<=30000000000000:=by
 have z1:=A95 (s:=s) o
 have z2:=Zs hl false o
 have z3:=A2v hI hl o
 have z4:=A96 hI o
 have e:(⟨#[32]⟩:ByteArray).size=1:=rfl
 simp only[Za,ByteArray.size_append,e];omega
def J0:Fn1:=⟨69,[.t 2],(rg [oV 2 kf] (.seq (rg [oM 11 0,oC 12 27 11] (oG 12 (oR 2 kt))) (rg [oM 14 0,oC 15 55 14,oM 13 15,o 16 (.ext 0 (.t 13)),o 17 (.ext 1 (.t 13)),o 18 (.ext 2 (.t 13)),o 3 (.new [.nilS,.nilS,.nilS,.nilS]),o 4 (.new [.nilS,.nilS,.nilS,.nilS]),oS 4 3 16,oS 4 4 17,oM 5 18] (rg [oW 19 4 3,oM 20 5,oD 21 53 19 20,oM 6 21] (rg [oW 22 4 4,oM 23 5,oD 24 53 22 23,oM 7 24] (rg [oV 8 (ki 0)] (.seq (rg [oV 9 (ki 0)] (oH 0 (.seq (rg [oM 25 9,oM 26 6,o 27 (.len true (.t 26)),oB 28 .lss 25 27] (oJ 28 0)) (.seq (.blk 1 (rg [oM 31 6,oM 32 9,o 33 (.idx (.t 31) (.t 32)),o 34 (.bin .eql (.t 33) (.k (.int .u8 32)))] (oG 34 (.reg [oM 35 8,oZ 36 35 1,oM 8 36])))) (.reg [oM 29 9,oZ 30 29 1,oM 9 30]))))) (rg [oM 37 0,oC 38 56 37,o 10 (.new [.nilS,.nilS,.nilS,.nilS]),oS 4 10 38] (dw [oW 39 4 3,oW 40 4 4,oM 41 5,o 42 (.call 52 (oT [39,40,41])),oU 43 42,oM 44 43,vM 45 44 6,vM 46 44 7,vB 47 44 .eql 45 46,oP 48 44 47,oM 49 48,jW 50 49 4 10,jW 51 49 4 10,og 52 49 true (.call 52 [(.t 50),(.t 51),(.k (.str ⟨#[97]⟩))]),oQ 53 49 52,oM 54 53,jM 55 54 8,jE 56 54 .eql 55 3,oQ 57 54 56,oM 58 57,jW 59 58 4 3,jW 60 58 4 4,jM 61 58 5,og 62 58 true (.call 52 (oT [59,60,61])),jW 63 58 4 3,jW 64 58 4 4] [jM 65 58 5,og 66 58 true (.call 57 (oT [63,64,65])),og 67 58 true (.eqb false (.t 62) (.t 66)),oQ 68 58 67,oM 2 68] .ret)))))))))⟩
theorem Qb:A6 Tryz.prog 8=some J0:=by kernel_rfl
theorem law_BacksReading (U:St) (v:GV) (bs:List Int) (hv:Sl (Ek.int .u8) U v bs) (hw:bs.length<=9223372036854775807/\∀ y∈bs,(Lit.int .u8 y).wf=true):∃ r N,Ret Tryz.prog 8 [v] U r N/\r= .bool true:=by
 have hv:RS pB.kd U v bs:=hv.rs rfl (fun h=>h)
 refine Gi Qb (Z0z rfl) (Hx.refl U) ?_
 simp +contextual (disch:=omega) only[go_sem,J0]
 refine by_b (Hx.refl U) (Ad7 U v bs hv) (fun h0=> ?_) (fun h0=> ?_)
 ·simp +contextual (disch:=omega) only[go_sem]
  try exact fun _=>⟨_,rfl,rfl⟩
 have h0:=of_decide_eq_false h0
 have D:Dr U v bs:=⟨hv,by omega⟩
 simp +contextual (disch:=omega) only[go_sem]
 obtain⟨ds,a,es,b,o,N1,h',⟨ha,na⟩,⟨hb,nb⟩,ho,R1,H1,K1⟩:=Qa (Hx.refl U) D
 have gl:ds.length=4:=A4.len (K1 _ H1).1
 have gm:es.length=4:=A4.len (K1 _ H1).2
 refine by_k R1 H1 ?_
 simp +contextual (disch:=omega) only[go_sem,Ab (cs:=z4) gl rfl,gl,A2 gl,Ab (cs:=z4) gm rfl,gm,A2 gm]
 intro n3 f3 N2 _ n4 f4 N3 H3
 have g3:U.length<=n3:=Ap (h:=h') f3
 have g4:U.length<=n4:=Ap (h:=h') f4.2
 have ne34:=f4.1
 simp +contextual (disch:=omega) only[go_sem,Ab (cs:=z4) gl rfl,gl,A2 gl,Ab (cs:=z4) gm rfl,gm,A2 gm]
 intro N4 _ N5 H5
 have hos:=(A9e ho).2
 have Ka:=fun {N} (H:Hx U N (.box 1 n4 es::.box 1 n3 ds::h'))=>(K1 N H.tl.tl).1
 have Kb:=fun {N} (H:Hx U N (.box 1 n4 es::.box 1 n3 ds::h'))=>(K1 N H.tl.tl).2
 refine by_r H5 (G9 N5 ds a (Ka H5) o (by omega) na.stI) ?_
 simp +contextual (disch:=omega) only[go_sem,A2 gl,A2 gm]
 refine by_r H5 (G9 N5 es b (Kb H5) o (by omega) nb.stI) ?_
 simp +contextual (disch:=omega) only[go_sem]
 have hz:=Akn na.stI (by omega) o
 have hbk:=Afo na o
 have hsr:=fun h=>Akl (a:=a) (b:=b) (o:=o) h
 generalize Za a o=t at*
 generalize Za b o=t2 at*
 refine M8 t.size 9 0 (fun i env h=>env 0=v/\env 3= .ptr n3 0/\env 4= .ptr n4 0/\env 5= .str o/\env 6= .str t/\env 7= .str t2/\env 8=gi (((bl t).take i).countP isBl)/\h= .box 1 n4 es::.box 1 n3 ds::h') (fun env h=>env 0=v/\env 3= .ptr n3 0/\env 4= .ptr n4 0/\env 5= .str o/\env 6= .str t/\env 7= .str t2/\env 8=gi 3/\h= .box 1 n4 es::.box 1 n3 ds::h') (fun env h=>False) _ H5 (by simp +contextual (disch:=omega) only[go_sem]) ⟨by simp +contextual (disch:=omega) only[go_sem],by simp +contextual (disch:=omega) only[go_sem],by simp +contextual (disch:=omega) only[go_sem],by simp +contextual (disch:=omega) only[go_sem],by simp +contextual (disch:=omega) only[go_sem],by simp +contextual (disch:=omega) only[go_sem],by simp +contextual (disch:=omega) only[go_sem,Zbv,Zbt],rfl⟩ ?_ ?_ ?_ (fun _ _ _ _ h=>h.elim)
 ·clear H5 H3 H1 R1
  rintro J Yq Wq hJ hY hW i env h N hi ei c0 H ⟨e0,e3,e4,e5,e6,e7,e8,rfl⟩
  have hi':i<(bl t).length:=by rw[Cs];exact hi
  have hs:=Afp hi'
  have hle:((bl t).take i).countP isBl<=i:=Nat.le_trans List.countP_le_length (by rw[Zbo];omega)
  cases hb:((((bl t)[i].toNat:Nat):Int)==32) with
  |true=>
   have hs2:((bl t).take (i+1)).countP isBl=((bl t).take i).countP isBl+1:=by rw[hs,if_pos (show isBl (bl t)[i]=true from hb)]
   simp +contextual (disch:=omega) only[go_sem,c0,e0,e3,e4,e5,e6,e7,e8,ei,A5,A10 hi',hb]
   exact hJ _ _ _ _ H ⟨by simp +contextual (disch:=omega) only[go_sem,e0],by simp +contextual (disch:=omega) only[go_sem,e3],by simp +contextual (disch:=omega) only[go_sem,e4],by simp +contextual (disch:=omega) only[go_sem,e5],by simp +contextual (disch:=omega) only[go_sem,e6],by simp +contextual (disch:=omega) only[go_sem,e7],by rw[hs2];simp +contextual (disch:=omega) only[go_sem],rfl⟩
  |false=>
   have hs2:((bl t).take (i+1)).countP isBl=((bl t).take i).countP isBl:=by rw[hs,if_neg (by rw[show isBl (bl t)[i]=false from hb];decide)];rfl
   simp +contextual (disch:=omega) only[go_sem,c0,e0,e3,e4,e5,e6,e7,e8,ei,A5,A10 hi',hb]
   exact hJ _ _ _ _ H ⟨by simp +contextual (disch:=omega) only[go_sem,e0],by simp +contextual (disch:=omega) only[go_sem,e3],by simp +contextual (disch:=omega) only[go_sem,e4],by simp +contextual (disch:=omega) only[go_sem,e5],by simp +contextual (disch:=omega) only[go_sem,e6],by simp +contextual (disch:=omega) only[go_sem,e7],by rw[hs2];simp +contextual (disch:=omega) only[go_sem,e8],rfl⟩
 ·clear H5 H3 H1 R1
  rintro Yq hY env h N ei c0 H ⟨e0,e3,e4,e5,e6,e7,e8,rfl⟩
  have e8':env 8=gi 3:=by
   rw[e8,<-Cs,Zau]
   rw[show (bl t).countP isBl=3 from hbk];rfl
  simp +contextual (disch:=omega) only[go_sem,c0,e6,ei]
  exact hY _ _ _ H ⟨by simp +contextual (disch:=omega) only[go_sem,e0],by simp +contextual (disch:=omega) only[go_sem,e3],by simp +contextual (disch:=omega) only[go_sem,e4],by simp +contextual (disch:=omega) only[go_sem,e5],by simp +contextual (disch:=omega) only[go_sem,e6],by simp +contextual (disch:=omega) only[go_sem,e7],by simp +contextual (disch:=omega) only[go_sem,e8'],rfl⟩
 clear H5 H3 H1 R1
 rintro env h N H ⟨e0,e3,e4,e5,e6,e7,e8,rfl⟩
 simp +contextual (disch:=omega) only[go_sem,e0]
 obtain⟨fs,x,N6,hg,R6,H6⟩:=A3o H D
 have gx:fs.length=4:=A4.len (H6.hp.rd 0 rfl)
 have okx:=hg.ok A3m
 have hmx:=okx.ms
 refine by_k R6 H6 ?_
 simp +contextual (disch:=omega) only[go_sem,Ab (cs:=z4) gx rfl,gx,A2 gx]
 intro n10 f10 N7 _ N8 H8
 have g10:U.length<=n10:=Ap (h:=h') (by simpa [frX] using f10.2.2)
 have Ka':=fun {N} (H:Hx U N (.box 1 n10 fs::.th (own A4 fs x)::.box 1 n4 es::.box 1 n3 ds::h'))=>(K1 N H.tl.tl.tl.tl).1
 have Kb':=fun {N} (H:Hx U N (.box 1 n10 fs::.th (own A4 fs x)::.box 1 n4 es::.box 1 n3 ds::h'))=>(K1 N H.tl.tl.tl.tl).2
 simp +contextual (disch:=omega) only[go_sem,e3,e4,e5,e6,e7,e8,A2 gl,A2 gm]
 have C1:=Jy N8 ds a (Ka' H8) es b (Kb' H8) o (by omega) (by omega) (by omega)
 have C2:=Tv N8 ds a (Ka' H8) es b (Kb' H8) o (by omega) (by omega) (by omega)
 have C3:=Jy N8 fs x (H8.hp.rd 1 rfl) fs x (H8.hp.rd 1 rfl) ⟨#[97]⟩ (by omega) (by omega) (by decide)
 rw[Akm] at C3
 cases hs:Ao a b o with
 |true=>
  rw[hs] at C1 C2
  have ht:=hsr hs
  subst ht
  refine by_r H8 C1 ?_
  simp +contextual (disch:=omega) only[go_sem,Ab (cs:=z4) gx rfl,gx,A2 gx,e3,e4,e5,e6,e7,e8,A2 gl,A2 gm]
  refine by_r H8 C3 ?_
  simp +contextual (disch:=omega) only[go_sem,show((3:Int)==3)=true from(rfl),A2 gx,e3,e4,e5,e6,e7,e8,A2 gl,A2 gm]
  refine by_r H8 C1 ?_
  simp +contextual (disch:=omega) only[go_sem,show((3:Int)==3)=true from(rfl),A2 gx,e3,e4,e5,e6,e7,e8,A2 gl,A2 gm]
  refine by_r H8 C2 ?_
  simp +contextual (disch:=omega) only[go_sem]
  try exact fun _=>⟨_,rfl,rfl⟩
 |false=>
  rw[hs] at C1 C2
  refine by_r H8 C1 ?_
  simp +contextual (disch:=omega) only[go_sem,Ab (cs:=z4) gx rfl,gx,A2 gx,e3,e4,e5,e6,e7,e8,A2 gl,A2 gm]
  refine by_r H8 C3 ?_
  simp +contextual (disch:=omega) only[go_sem,show((3:Int)==3)=true from(rfl),A2 gx,e3,e4,e5,e6,e7,e8,A2 gl,A2 gm]
  refine by_r H8 C1 ?_
  simp +contextual (disch:=omega) only[go_sem,show((3:Int)==3)=true from(rfl),A2 gx,e3,e4,e5,e6,e7,e8,A2 gl,A2 gm]
  refine by_r H8 C2 ?_
  simp +contextual (disch:=omega) only[go_sem]
  try exact fun _=>⟨_,rfl,rfl⟩
def noAct (a:Act):Bool:=decide (a.dot=⟨0,0⟩)&&(a.time==0&&(a.knew.isEmpty&&(a.kind==0&&(decide (a.obj=⟨#[]⟩)&&(decide (a.key=⟨#[]⟩)&&(a.val==0&&decide (a.ref=⟨0,0⟩)))))))
abbrev delta0:Delta:=⟨[],[],[],[],[],[]⟩
def Aom (d:Delta):Bool:=d.base.isEmpty&&(d.know.isEmpty&&(d.tallies.isEmpty&&(d.lives.isEmpty&&(d.dead.isEmpty&&d.cells.isEmpty))))
def Aml (u:Unit_):Bool:=if u.batch then Aki u.delta&&noAct u.act else Ku u.act&&Aom u.delta
def told {Y:Type} (d:Kd Y):Kd (Y×List GV) where
 z:=d.z
 R U x cs:=d.R U x.1 cs/\cs=x.2
 O U x cs fp:=d.O U x.1 cs fp/\cs=x.2
 len:=fun h=>d.len h.1
 pre:=fun h hp=>⟨d.pre h.1 hp,h.2⟩
 rd:=fun h=>⟨d.rd h.1,h.2⟩
 loc:=fun h hf=>⟨d.loc h.1 hf,h.2⟩
section
variable {Y:Type} {d:Kd Y} {U N:St} {rs:List Thg} {v:GV} {l:List Y} {m:List (Y×List GV)} {h:List Item}
def shs (d:Kd Y) (l:List (List GV×Y)):Thg:=⟨fun N fp=>∃ os:List (List GV×Y),sat N (os.map fun x=>own d x.1 x.2) fp/\∀ x∈l,x∈os,fun {U N fp} h hf=>by
 obtain⟨os,hs,hm⟩:=h
 exact⟨os,sat.loc hs hf,hm⟩⟩
variable {s s':List (List GV×Y)} {cs:List GV} {x:Y}
theorem Hp.shs1 (H:Hp U N (own d cs x::rs)):Hp U N (shs d [(cs,x)]::rs):=
 H.conv fun fp h=>⟨[(cs,x)],⟨fp,[],h,rfl,by simp⟩,fun y hy=>hy⟩
theorem Hp.shsLe (hl:∀ y∈s',y∈s) (H:Hp U N (shs d s::rs)):Hp U N (shs d s'::rs):=
 H.conv fun fp ⟨os,h1,h2⟩=>⟨os,h1,fun y hy=>h2 y (hl y hy)⟩
theorem Hp.shsAdd (H:Hp U N (own d cs x::shs d s::rs)):Hp U N (shs d ((cs,x)::s)::rs):=by
 obtain⟨h,fp,⟨a,_,hr,⟨b,c,⟨os,h1,h2⟩,hs,rfl⟩,rfl⟩,hn,hb⟩:=H
 refine⟨h,_,⟨a++b,c,⟨(cs,x)::os,⟨a,b,hr,h1,rfl⟩,fun y hy=> ?_⟩,hs,rfl⟩,by rw[Zbd];exact hn,fun g hg=>hb g (by rw[Zbd] at hg;exact hg)⟩
 rcases Zaj.1 hy with rfl|hy
 ·exact Zaf
 ·exact Zag _ (h2 y hy)
theorem sat_rd {os:List (List GV×Y)} {N:St}:∀ {fp:List Nat},sat N (os.map fun x=>own d x.1 x.2) fp->∀ y∈os,d.R N y.2 y.1:=by
 induction os with
 |nil=>intro fp _ y hy;cases hy
 |cons z os ih=>
  rintro fp ⟨a,b,hr,hs,rfl⟩ y hy
  rcases Zaj.1 hy with rfl|hy
  ·exact d.rd hr
  ·exact ih hs y hy
theorem Hp.shs_rd (H:Hp U N rs) (i:Nat) (hi:rs[i]? =some (shs d s)) {y:List GV×Y} (hy:y∈s):d.R N y.2 y.1:=by
 obtain⟨fp,⟨os,h1,h2⟩,_⟩:=(H.pick i hi).turn
 exact sat_rd h1 y (h2 y hy)
end
section
variable {P:Program} {U:St} {env:Env} {h:List Item} {N:St} {Q:Qx} {a b:Cd}
end
section
variable {U0 U:St} {h:List Item} {c v:GV} {bs:List Int}
end
section
variable {Y:Type} {f:Int->Y->Y} {c:Y->Nat}
end
structure LogG (l:Log):Prop where
 rp:0<=l.rep/\l.rep<=2
 tm:0<=l.time/\l.time<=1000000
 st:OkS l.state
 un:∀ u∈l.units,Aml u=true
 wa:∀ u∈l.waits,Aml u=true
 nu:l.units.length<=60
 nw:l.waits.length<=6
 ub:∀ u∈l.units,u.batch=false
 wb:∀ u∈l.waits,u.batch=false
 run:runU l.units l.units.length=some l.state
theorem Aon {r:Int} (h:0<=r/\r<=2):LogG ⟨r,0,⟨[0,0,0],[],[],[]⟩,[],[]⟩:=⟨h,⟨Zbs 0,by show(0:Int)<=1000000;decide⟩,A3m,fun _ h=>(by cases h),fun _ h=>(by cases h),Zbe _,Zbe _,fun _ h=>(by cases h),fun _ h=>(by cases h),rfl⟩
def EdS (l:Log) (e:Edit) (l':Log):Prop:=l'=l∨((E9 l.state l.rep (l.time+1) e).2=0/\(F1 l.state (E9 l.state l.rep (l.time+1) e).1).2=0/\l'={l with state:=(F1 l.state (E9 l.state l.rep (l.time+1) e).1).1,units:=l.units++[⟨false,(E9 l.state l.rep (l.time+1) e).1,delta0⟩],time:=l.time+1})
def HeS (l:Log) (x:Unit_) (l':Log):Prop:=l'.rep=l.rep/\(∀ y∈l'.units,y∈l.units∨y∈l.waits∨y=x)/\∀ y∈l'.waits,y∈l.waits∨y=x
def news (n:Nat):List Log:=(Zbw n).map fun k:Nat=>⟨(k:Int),0,st0,[],[]⟩
inductive Lgs:List Log->Prop
 |new:Lgs (news 3)
 |edit {ls:List Log} {r:Nat} {l:Log} (e:Edit) {l':Log}:Lgs ls->ls[r]? =some l->EdD e->EdS l e l'->LogG l'->Lgs (ls.set r l')
 |hear {ls:List Log} {r f:Nat} {l g:Log} (u:Unit_) {l':Log}:Lgs ls->ls[r]? =some l->ls[f]? =some g->u∈g.units->HeS l u l'->LogG l'->Lgs (ls.set r l')
theorem Lgs.g {ls:List Log} (h:Lgs ls):∀ l∈ls,LogG l:=by
 induction h with
 |new=>
  intro l hl
  obtain⟨k,hk,rfl⟩:=Za9.1 hl
  have:=List.mem_range.1 hk
  exact Aon ⟨by omega,by omega⟩
 |edit _ _ _ _ _ hg ih=>
  intro l hl
  rcases Zap hl with h|h
  ·exact ih l h
  ·rw[h];exact hg
 |hear _ _ _ _ _ _ hg ih=>
  intro l hl
  rcases Zap hl with h|h
  ·exact ih l h
  ·rw[h];exact hg
section
variable {U0 U:St} {h:List Item} {c v:GV} {bs:List Int}
end
def fromS (a b:State) (rep:Int):Bool:=decide (at0 a.know rep<at0 b.know rep)
def keepS (b:State) (l:Live):Bool:=decide (l∈b.lives)|| !Bq b.know l.dot
def mrgTo (a b:State):State:=⟨kMax a.know b.know,Ami (fromS a b) a.tallies b.tallies,Br Et (a.lives.filter (keepS b)++b.lives.filter (newD a)),Amj a.cells b.cells⟩
def mergeS (a b:State):State:=if Bf a then(if Bf b then(if Bf (mrgTo a b) then mrgTo a b else a) else a) else a
def behind (a b:State):Bool:=Bf a&&(Bf b&&decide (mergeS a b=b))
def A3r:Fn1:=⟨32,[.c 6 true 4],(rg [oX 4 1,o 6 (.new [.nilS,.nilS,.nilS,.nilS])] (dw [o 7 (.new [z0,z0,z0,.nilS,z0,s0,s0,z0,z0,z0])] [oW 12 4 4,oM 13 2,oW 14 4 4,oC 15 39 14,on (.chk 12 (.ld true 4 (.t 4))),on (.blc 7 [z0,z0,z0,.nilS,z0,s0,s0,z0,z0,z0]),oZ 16 15 1,oM 17 0,oC 18 93 17,on (.chk 12 (.ld true 4 (.t 4))),on (.blc 7 [z0,z0,z0,.nilS,z0,s0,s0,z0,z0,z0]),o 19 (.call 91 (oT [12,13,16,18])),on (.blc 7 [z0,z0,z0,.nilS,z0,s0,s0,z0,z0,z0]),oM 11 19,o 20 (.ext 0 (.t 11)),o 21 (.ext 1 (.t 11)),oS 10 7 20,oM 8 21] (.seq (rg [oM 22 8,oE 23 .neq 22 0] (oG 23 (rg [oW 24 4 4,oS 4 6 24] .ret))) (rg [oW 26 4 4,oW 27 10 7,oD 28 29 26 27,oM 25 28,o 29 (.ext 0 (.t 25)),o 30 (.ext 1 (.t 25)),o 9 (.new [.nilS,.nilS,.nilS,.nilS]),oS 4 9 29,oM 10 30] (rg [oW 31 4 9,oS 4 6 31] .ret)))))⟩
theorem Ada:E4 true Tryz.prog 216=some A3r:=by kernel_rfl
def A79:Fn1:=⟨39,[.c 2 true 4,.c 3 true 4,.c 4 true 4],(rg [o 2 (.new [.nilS,.nilS,.nilS,.nilS]),o 3 (.new [.nilS,.nilS,.nilS,.nilS]),o 4 (.new [.nilS,.nilS,.nilS,.nilS])] (rg [oM 10 0,o 11 (.call 94 []),oM 12 0,o 13 (.call 92 [(.t 12),(ki 5)]),o 14 (.bin .add (ki 1) (.t 13)),o 15 (.call 187 (oT [10,11,14])),o 5 (.new [.nilS,.nilS,.nilS,.nilS]),oS 4 5 15] (rg [oW 16 4 5,o 6 (.new [.nilS,.nilS,.nilS,.nilS]),oS 4 6 16] (rg [oW 17 4 5,o 7 (.new [.nilS,.nilS,.nilS,.nilS]),oS 4 7 17] (.seq (rg [oV 8 (ki 0)] (oH 0 (.seq (rg [oM 18 8,oM 19 0,o 20 (.call 92 [(.t 19),(ki 5)]),oB 21 .lss 18 20] (oJ 21 0)) (.seq (.blk 1 (.reg [oM 24 0,oW 25 4 6,o 26 (.call 216 [(.t 24),(.t 25),(ki 0)]),oS 4 6 26])) (.reg [oM 22 8,oZ 23 22 1,oM 8 23]))))) (.seq (rg [oV 9 (ki 0)] (oH 2 (.seq (rg [oM 27 9,oM 28 0,o 29 (.call 92 [(.t 28),(ki 5)]),oB 30 .lss 27 29] (oJ 30 2)) (.seq (.blk 3 (.reg [oM 33 0,oW 34 4 7,o 35 (.call 216 [(.t 33),(.t 34),(ki 1)]),oS 4 7 35])) (.reg [oM 31 9,oZ 32 31 1,oM 9 32]))))) (dw [] [oW 36 4 5,oW 37 4 6,oW 38 4 7,oS 4 2 36,on (.chk 37 (.ld true 4 (.t 6))),on (.chk 38 (.ld true 4 (.t 7))),oS 4 3 37,on (.chk 38 (.ld true 4 (.t 7))),oS 4 4 38] .ret)))))))⟩
theorem Afq:A6 Tryz.prog 123=some A79:=by kernel_rfl
section
variable {U0 U:St} {h:List Item} {c v:GV} {bs:List Int}
theorem Afr {cs:List GV} {s:State} (H:Hx U0 U h) (k:Nat) (hk:h[k]? =some (cuI c v bs)) (D:Dr U0 v bs) (hS:∀ N,Hx U0 N h->A4.R N s cs) (hs:OkS s) (rep:Int) (hr:0<=rep/\rep<=2):
  ∃(ds:List GV) (s':State) (N:St),Ret Tryz.prog 216 [c,.agg cs,gi rep] U (.agg ds) N/\Grw s s'/\((ds=cs/\s'=s/\Hx U0 N h)∨Hx U0 N (.th (own A4 ds s')::h)):=by
 have gl:cs.length=4:=A4.len (hS U H)
 have hms:=hs.ms
 have htm:=A78 fun c hc=>(hs.time c hc).2
 have key:∃ w N,Ret Tryz.prog 216 [c,.agg cs,gi rep] U w N/\∃ ds s',w= .agg ds/\Grw s s'/\((ds=cs/\s'=s/\Hx U0 N h)∨Hx U0 N (.th (own A4 ds s')::h)):=by
  refine Gi Ada (Z0z rfl) H ?_
  simp +contextual (disch:=omega) only[go_sem,A3r]
  intro n4 f4 N4 H4 n6 f6 N6 H6
  have g4:=Ap (h:=h) f4
  have g6:=Ap (h:=h) f6.2
  have ne46:=f6.1
  simp +contextual (disch:=omega) only[go_sem,A2 gl]
  intro n7 f7 N70 H70
  have g7:=Ap (h:=h) f7.2.2
  have ne74:=f7.2.1
  have ne76:=f7.1
  try simp +contextual (disch:=omega) only[go_sem,A2 gl]
  refine by_r H70 (Xr _ cs s (hS _ H70.tl.tl.tl) (by omega)) ?_
  obtain⟨tm,htm'⟩:∃ tm,tm=Fl s.cells:=⟨_,rfl⟩
  rw[<- htm'] at htm ⊢
  simp +contextual (disch:=omega) only[go_sem,A2 gl,Bi]
  obtain⟨e,N7,he,R7,H7⟩:=Sf H70 (k+3) hk D
  refine by_k R7 H7 ?_
  simp +contextual (disch:=omega) only[go_sem,A2 gl,Bi]
  have hsz:=he.size
  have hkn:=Xn s
  obtain⟨as',N9,R9,K9⟩:=A3g N7 cs s (hS _ H7.tl.tl.tl) rep (tm+1) e (by omega) (by omega) (by omega) (by have:=he.place;omega) (by omega)
  have al:as'.length=10:=kAct.len (K9.rd 0 rfl)
  refine by_c H7 R9 K9 fun H9=> ?_
  have hma:=Agp s rep (tm+1) e
  have hstep:(E9 s rep (tm+1) e).2=0->Grw s (F1 s (E9 s rep (tm+1) e).1).1:=fun hz=>by
   have:=Grw.act (s0:=s) rep 0 e .nil hr.1 hr.2 (Zbs 0) (by decide) he (by rw[<- htm'];simpa using hz)
   rw[<- htm'] at this
   simpa using this
  generalize E9 s rep (tm+1) e=A at*
  simp +contextual (disch:=omega) only[go_sem,Ab (cs:=zeV) al rfl,al,A2 gl]
  intro N11 H11
  cases hz:(A.2 != 0) with
  |true=>
   simp +contextual (disch:=omega) only[go_sem,hz,A2 gl,Ab (cs:=z4) gl rfl,gl]
   intro N12 H12
   exact⟨_,rfl,cs,s,rfl,.nil,.inl ⟨rfl,rfl,H12.tl.tl.tl.tl⟩⟩
  |false=>
   simp +contextual (disch:=omega) only[go_sem,hz,A2 gl,A2 al]
   obtain⟨ds,N12,R12,K12⟩:=A3c N11 cs s (hS _ H11.tl.tl.tl.tl) as' A.1 (H11.hp.rd 0 rfl) (by omega) (by omega)
   have gl2:ds.length=4:=A4.len (K12.rd 0 rfl)
   refine by_c H11 R12 K12 fun H12=> ?_
   simp +contextual (disch:=omega) only[go_sem,Ab (cs:=z4) gl2 rfl,gl2,A2 gl2]
   intro n9 f9 N13 _ N14 H14
   try simp +contextual (disch:=omega) only[go_sem,Ab (cs:=z4) gl2 rfl,gl2,A2 gl2]
   intro N15 H15
   exact⟨_,rfl,ds,_,rfl,hstep (by simpa using hz),.inr (((((H15.era 5).era 4).era 3).era 2).era 0)⟩
 obtain⟨w,N,R,ds,s',rfl,h'⟩:=key
 exact⟨ds,s',N,R,h'⟩
theorem Xu {cs:List GV} {s:State} {L:List (List GV×State)} (H:Hx U0 U (.th (shs A4 L)::h)) (k:Nat) (hk:h[k]? =some (cuI c v bs)) (D:Dr U0 v bs) (hm:(cs,s)∈L) (hs:OkS s) (rep:Int) (hr:0<=rep/\rep<=2):
  ∃(ds:List GV) (s':State) (N:St),Ret Tryz.prog 216 [c,.agg cs,gi rep] U (.agg ds) N/\Grw s s'/\Hx U0 N (.th (shs A4 ((ds,s')::L))::h):=by
 obtain⟨ds,s',N,R,hg,h'⟩:=Afr H (k+1) hk D (fun N H'=>H'.hp.shs_rd 0 rfl hm) hs rep hr
 refine⟨ds,s',N,R,hg,?_⟩
 rcases h' with⟨rfl,rfl,h'⟩|h'
 ·exact Hp.shsLe (fun y hy=>by
   rcases Zaj.1 hy with rfl|hy
   ·exact hm
   ·exact hy) h'.hp
 ·exact Hp.shsAdd h'.hp
theorem Grw.trans {a b d:State} (h:Grw a b) (k:Grw b d):Grw a d:=by
 induction k with
 |nil=>exact h
 |act rep dt e _ h1 h2 h3 h4 h5 h6 ih=>exact .act rep dt e ih h1 h2 h3 h4 h5 h6
theorem Aib (H:Hx U0 U h) (k:Nat) (hk:h[k]? =some (cuI c v bs)) (D:Dr U0 v bs):
  ∃(cb ca cd:List GV) (b0 a d:State) (N:St),Grw st0 b0/\Grw b0 a/\Grw b0 d/\Ret Tryz.prog 123 [c] U (.tup [.agg cb,.agg ca,.agg cd]) N/\Hx U0 N (.th (shs A4 [(cb,b0),(ca,a),(cd,d)])::h):=by
 have key:∃ w N,Ret Tryz.prog 123 [c] U w N/\∃ cb ca cd b0 a d,w= .tup [.agg cb,.agg ca,.agg cd]/\Grw st0 b0/\Grw b0 a/\Grw b0 d/\Hx U0 N (.th (shs A4 [(cb,b0),(ca,a),(cd,d)])::h):=by
  refine Gi Afq (Z0z rfl) H ?_
  simp +contextual (disch:=omega) only[go_sem,A79]
  intro n2 f2 N2 _ n3 f3 N3 _ n4 f4 N4 H4
  have g2:=Ap (h:=h) f2
  have g3:=Ap (h:=h) f3.2
  have g4:=Ap (h:=h) f4.2.2
  have ne32:=f3.1
  have ne43:=f4.1
  obtain⟨cs,N5,R5,K5⟩:=Pc N4
  refine by_c H4 R5 K5 fun H5=> ?_
  simp +contextual (disch:=omega) only[go_sem]
  obtain⟨x,N6,hx,R6,H6⟩:=Co H5 (k+4) hk D 5 (by decide) (by decide)
  refine by_k R6 H6 ?_
  obtain⟨q,hq⟩:∃ q:Nat,q=1+x:=⟨_,rfl⟩
  have e:(1:Int)+x=(q:Int):=by omega
  simp +contextual (disch:=omega) only[go_sem,e]
  obtain⟨cb,b0,N7,hg,R7,H7⟩:=Pd H6 (k+3) hk D A3m q (by omega)
  have hob:=hg.ok A3m
  have gb:cb.length=4:=A4.len (H7.hp.rd 0 rfl)
  have H8:Hx U0 N7 (.th (shs A4 [(cb,b0)])::.box 1 n4 z4::.box 1 n3 z4::.box 1 n2 z4::h):=Hp.shs1 H7.hp
  refine by_k R7 H8 ?_
  simp +contextual (disch:=omega) only[go_sem,Ab (cs:=z4) gb rfl,gb,A2 gb]
  intro n5 f5 N9 _ N10 _ n6 f6 N11 _ N12 _ n7 f7 N13 _ N14 H14
  have g5:n4<n5:=f5.1
  have g6:n5<n6:=f6.1
  have g7:n6<n7:=f7.1
  have H15:Hx U0 N14 (.th (shs A4 [(cb,b0)])::.box 1 n7 cb::.box 1 n6 cb::.box 1 n5 cb::.box 1 n4 z4::.box 1 n3 z4::.box 1 n2 z4::h):=H14.fst 3 rfl
  have H16:Hx U0 N14 (.th (shs A4 [(cb,b0),(cb,b0),(cb,b0)])::.box 1 n7 cb::.box 1 n6 cb::.box 1 n5 cb::.box 1 n4 z4::.box 1 n3 z4::.box 1 n2 z4::h):=Hp.shsLe (fun y hy=>by simpa using hy) H15.hp
  clear H15 H14 H8 H7 H6 H5 H4
  refine Ab0 6 0 (fun kk env hh=>env 0=c/\env 2= .ptr n2 0/\env 3= .ptr n3 0/\env 4= .ptr n4 0/\env 5= .ptr n5 0/\env 6= .ptr n6 0/\env 7= .ptr n7 0/\∃(i:Int) (ca:List GV) (a:State),env 8=gi i/\0<=i/\i<=5/\kk=(6 - i).toNat/\ca.length=4/\Grw b0 a/\hh= .th (shs A4 [(cb,b0),(ca,a),(cb,b0)])::.box 1 n7 cb::.box 1 n6 ca::.box 1 n5 cb::.box 1 n4 z4::.box 1 n3 z4::.box 1 n2 z4::h) (fun env hh=>env 0=c/\env 2= .ptr n2 0/\env 3= .ptr n3 0/\env 4= .ptr n4 0/\env 5= .ptr n5 0/\env 6= .ptr n6 0/\env 7= .ptr n7 0/\∃(ca:List GV) (a:State),ca.length=4/\Grw b0 a/\hh= .th (shs A4 [(cb,b0),(ca,a),(cb,b0)])::.box 1 n7 cb::.box 1 n6 ca::.box 1 n5 cb::.box 1 n4 z4::.box 1 n3 z4::.box 1 n2 z4::h) (fun _ _=>False) _ H16 ⟨by simp +contextual (disch:=omega) only[go_sem],by simp +contextual (disch:=omega) only[go_sem],by simp +contextual (disch:=omega) only[go_sem],by simp +contextual (disch:=omega) only[go_sem],by simp +contextual (disch:=omega) only[go_sem],by simp +contextual (disch:=omega) only[go_sem],by simp +contextual (disch:=omega) only[go_sem],0,cb,b0,by simp +contextual (disch:=omega) only[go_sem],by decide,by decide,rfl,gb,.nil,rfl⟩ ?_ ?_ (fun _ _ _ _ h=>h.elim)
  ·clear H16
   rintro J Yq Wq hJ hY hW kk env h' N H ⟨e0,e2,e3,e4,e5,e6,e7,i,ca,a,e8,hi0,hi5,rfl,gl,hga,rfl⟩
   simp +contextual (disch:=omega) only[go_sem,e0,e8]
   obtain⟨x,N1,hx,R1,H1⟩:=Co H (k+7) hk D 5 (by decide) (by decide)
   refine by_k R1 H1 ?_
   cases hb:decide (i<(x:Int)) with
   |false=>
    simp +contextual (disch:=omega) only[go_sem,hb]
    exact hY _ _ _ H1 ⟨by simp +contextual (disch:=omega) only[go_sem,e0],by simp +contextual (disch:=omega) only[go_sem,e2],by simp +contextual (disch:=omega) only[go_sem,e3],by simp +contextual (disch:=omega) only[go_sem,e4],by simp +contextual (disch:=omega) only[go_sem,e5],by simp +contextual (disch:=omega) only[go_sem,e6],by simp +contextual (disch:=omega) only[go_sem,e7],ca,a,gl,hga,rfl⟩
   |true=>
    have hlt:=of_decide_eq_true hb
    simp +contextual (disch:=omega) only[go_sem,hb,e0,e6,A2 gl]
    obtain⟨ds,s',N2,R2,hg2,H2⟩:=Xu H1 (k+6) hk D (cs:=ca) (s:=a) (by simp) (hga.ok hob) 0 (by decide)
    have gd:ds.length=4:=by
     have:=H2.hp.shs_rd 0 rfl (y:=(ds,s')) Zaf
     exact A4.len this
    refine by_k R2 H2 ?_
    simp +contextual (disch:=omega) only[go_sem,e6,e8,Ab (cs:=ca) gd gl,gd,gl]
    intro N3 H3
    have H4:Hx U0 N3 (.th (shs A4 [(cb,b0),(ds,s'),(cb,b0)])::.box 1 n7 cb::.box 1 n6 ds::.box 1 n5 cb::.box 1 n4 z4::.box 1 n3 z4::.box 1 n2 z4::h):=Hp.shsLe (fun y hy=>by
     simp only[Zaj,Zav,or_false] at hy ⊢
     rcases hy with rfl|rfl|rfl<;>simp) H3.hp
    exact⟨(6 - (i+1)).toNat,by omega,hJ _ _ _ _ H4 ⟨by simp +contextual (disch:=omega) only[go_sem,e0],by simp +contextual (disch:=omega) only[go_sem,e2],by simp +contextual (disch:=omega) only[go_sem,e3],by simp +contextual (disch:=omega) only[go_sem,e4],by simp +contextual (disch:=omega) only[go_sem,e5],by simp +contextual (disch:=omega) only[go_sem,e6],by simp +contextual (disch:=omega) only[go_sem,e7],i+1,ds,s',by simp +contextual (disch:=omega) only[go_sem],by omega,by omega,rfl,gd,hga.trans hg2,rfl⟩⟩
  clear H16
  rintro env h' N14 H ⟨e0,e2,e3,e4,e5,e6,e7,ca,a,ga,hga,rfl⟩
  simp +contextual (disch:=omega) only[go_sem,e0]
  refine Ab0 6 2 (fun kk env hh=>env 0=c/\env 2= .ptr n2 0/\env 3= .ptr n3 0/\env 4= .ptr n4 0/\env 5= .ptr n5 0/\env 6= .ptr n6 0/\env 7= .ptr n7 0/\∃(i:Int) (cd:List GV) (d:State),env 9=gi i/\0<=i/\i<=5/\kk=(6 - i).toNat/\cd.length=4/\Grw b0 d/\hh= .th (shs A4 [(cb,b0),(ca,a),(cd,d)])::.box 1 n7 cd::.box 1 n6 ca::.box 1 n5 cb::.box 1 n4 z4::.box 1 n3 z4::.box 1 n2 z4::h) (fun env hh=>env 2= .ptr n2 0/\env 3= .ptr n3 0/\env 4= .ptr n4 0/\env 5= .ptr n5 0/\env 6= .ptr n6 0/\env 7= .ptr n7 0/\∃(cd:List GV) (d:State),cd.length=4/\Grw b0 d/\hh= .th (shs A4 [(cb,b0),(ca,a),(cd,d)])::.box 1 n7 cd::.box 1 n6 ca::.box 1 n5 cb::.box 1 n4 z4::.box 1 n3 z4::.box 1 n2 z4::h) (fun _ _=>False) _ H ⟨by simp +contextual (disch:=omega) only[go_sem,e0],by simp +contextual (disch:=omega) only[go_sem,e2],by simp +contextual (disch:=omega) only[go_sem,e3],by simp +contextual (disch:=omega) only[go_sem,e4],by simp +contextual (disch:=omega) only[go_sem,e5],by simp +contextual (disch:=omega) only[go_sem,e6],by simp +contextual (disch:=omega) only[go_sem,e7],0,cb,b0,by simp +contextual (disch:=omega) only[go_sem],by decide,by decide,rfl,gb,.nil,rfl⟩ ?_ ?_ (fun _ _ _ _ h=>h.elim)
  ·clear H e0 e2 e3 e4 e5 e6 e7
   rintro J Yq Wq hJ hY hW kk env h' N H ⟨e0,e2,e3,e4,e5,e6,e7,i,cd,d,e9,hi0,hi5,rfl,gl,hgd,rfl⟩
   simp +contextual (disch:=omega) only[go_sem,e0,e9]
   obtain⟨x,N1,hx,R1,H1⟩:=Co H (k+7) hk D 5 (by decide) (by decide)
   refine by_k R1 H1 ?_
   cases hb:decide (i<(x:Int)) with
   |false=>
    simp +contextual (disch:=omega) only[go_sem,hb]
    exact hY _ _ _ H1 ⟨by simp +contextual (disch:=omega) only[go_sem,e2],by simp +contextual (disch:=omega) only[go_sem,e3],by simp +contextual (disch:=omega) only[go_sem,e4],by simp +contextual (disch:=omega) only[go_sem,e5],by simp +contextual (disch:=omega) only[go_sem,e6],by simp +contextual (disch:=omega) only[go_sem,e7],cd,d,gl,hgd,rfl⟩
   |true=>
    have hlt:=of_decide_eq_true hb
    simp +contextual (disch:=omega) only[go_sem,hb,e0,e7,A2 gl]
    obtain⟨ds,s',N2,R2,hg2,H2⟩:=Xu H1 (k+6) hk D (cs:=cd) (s:=d) (by simp) (hgd.ok hob) 1 (by decide)
    have gd:ds.length=4:=by
     have:=H2.hp.shs_rd 0 rfl (y:=(ds,s')) Zaf
     exact A4.len this
    refine by_k R2 H2 ?_
    simp +contextual (disch:=omega) only[go_sem,e7,e9,Ab (cs:=cd) gd gl,gd,gl]
    intro N3 H3
    have H4:Hx U0 N3 (.th (shs A4 [(cb,b0),(ca,a),(ds,s')])::.box 1 n7 ds::.box 1 n6 ca::.box 1 n5 cb::.box 1 n4 z4::.box 1 n3 z4::.box 1 n2 z4::h):=Hp.shsLe (fun y hy=>by
     simp only[Zaj,Zav,or_false] at hy ⊢
     rcases hy with rfl|rfl|rfl<;>simp) H3.hp
    exact⟨(6 - (i+1)).toNat,by omega,hJ _ _ _ _ H4 ⟨by simp +contextual (disch:=omega) only[go_sem,e0],by simp +contextual (disch:=omega) only[go_sem,e2],by simp +contextual (disch:=omega) only[go_sem,e3],by simp +contextual (disch:=omega) only[go_sem,e4],by simp +contextual (disch:=omega) only[go_sem,e5],by simp +contextual (disch:=omega) only[go_sem,e6],by simp +contextual (disch:=omega) only[go_sem,e7],i+1,ds,s',by simp +contextual (disch:=omega) only[go_sem],by omega,by omega,rfl,gd,hgd.trans hg2,rfl⟩⟩
  ·clear H e0 e2 e3 e4 e5 e6 e7
   rintro env h' N H ⟨e2,e3,e4,e5,e6,e7,cd,d,gd,hgd,rfl⟩
   simp +contextual (disch:=omega) only[go_sem,e2,e3,e4,e5,e6,e7,A2 gb,A2 ga,A2 gd,Ab (cs:=z4) gb rfl,Ab (cs:=z4) ga rfl,Ab (cs:=z4) gd rfl,gb,ga,gd]
   intro N1 _ N2 _ N3 H3
   exact⟨_,rfl,cb,ca,cd,b0,a,d,rfl,hg,hga,hgd,(((((H3.era 6).era 5).era 4).era 3).era 2).era 1⟩
 obtain⟨w,N,R,cb,ca,cd,b0,a,d,rfl,h1,h2,h3,h4⟩:=key
 exact⟨cb,ca,cd,b0,a,d,N,h1,h2,h3,R,h4⟩
end
def A7b:Fn1:=⟨31,[.t 6],(rg [oX 3 0,oX 4 1,o 6 (.mov (.k .nilS))] (rg [o 10 (.lit 1 0 [] []),oM 7 10] (.seq (rg [oM 11 2,oN 12 11,oV 13 (ki 0)] (oH 0 (rg [oB 14 .lss 13 12] (.seq (oJ 14 0) (.seq (.blk 1 (rg [oM 15 13,oI 16 3 11 13,oW 17 3 16,o 9 (.new [z0,s0,s0]),oM 8 15,oS 3 9 17] (dw [oW 18 4 3,oW 19 3 9,oD 20 32 18 19,oW 21 4 4,oW 22 3 9] [oD 23 32 21 22,oB 24 .neq 20 23] (oG 24 (.reg [oM 25 7,oM 26 8,o 27 (.lit 1 1 [z0] [(0,1,(.t 26))]),o 28 (.app 1 8 [z0] (.t 25) (.t 27)),oM 7 28]))))) (.reg [oZ 29 13 1,oM 13 29])))))) (rg [oM 30 7,oM 6 30] .ret))))⟩
theorem Afs:A6 Tryz.prog 19=some A7b:=by kernel_rfl
def A7d:Fn1:=⟨34,[.t 6],(rg [oX 3 0,oX 4 1,o 6 (.mov (.k .nilS))] (rg [o 9 (.lit 1 0 [] []),oM 7 9] (.seq (rg [oV 8 (ki 0)] (oH 0 (.seq (rg [oM 10 8,oM 11 2,oN 12 11,oB 13 .lss 10 12] (oJ 13 0)) (.seq (.blk 1 (dw [oW 16 4 3,oM 17 2,oM 18 8,oI 19 3 17 18,oW 20 3 19,oD 21 47 16 20,oW 22 4 4,oM 23 2,oM 24 8,oI 25 3 23 24,oW 26 3 25] [oD 27 47 22 26,oB 28 .neq 21 27] (oG 28 (.reg [oM 29 7,oM 30 8,o 31 (.lit 1 1 [z0] [(0,1,(.t 30))]),o 32 (.app 1 8 [z0] (.t 29) (.t 31)),oM 7 32])))) (.reg [oM 14 8,oZ 15 14 1,oM 8 15]))))) (rg [oM 33 7,oM 6 33] .ret))))⟩
theorem Aft:A6 Tryz.prog 16=some A7d:=by kernel_rfl
def Sm (a b:State) (w:Watch):Bool:= !decide (Gn a w=Gn b w)
def J1 (a b:State) (l:List Watch) (i:Nat):List Int:=((Zbw i).filter fun j=>onI l j (Sm a b)).map fun j:Nat=>(j:Int)
theorem A3s (a b:State) (l:List Watch) (i:Nat):(J1 a b l i).length<=i:=by
 have:=List.length_filter_le (fun j=>onI l j (Sm a b)) (Zbw i)
 rw[J1,List.length_map]
 rw[List.length_range] at this;exact this
theorem Ags {a b:State} {l:List Watch} {i:Nat} (hi:i<l.length) (h:Sm a b l[i]=true):J1 a b l (i+1)=J1 a b l i++[(i:Int)]:=by
 have e:onI l i (Sm a b)=true:=by rw[Cp hi];exact h
 simp[J1,Zbu,Za7,Zbp,e]
theorem Agt {a b:State} {l:List Watch} {i:Nat} (hi:i<l.length) (h:Sm a b l[i]=false):J1 a b l (i+1)=J1 a b l i:=by
 have e:onI l i (Sm a b)=false:=by rw[Cp hi];exact h
 simp[J1,Zbu,Za7,Zbp,e]
theorem Adb (U:St) (cs:List GV) (a:State) (hR:A4.R U a cs) (ds:List GV) (b:State) (hS:A4.R U b ds) (v:GV) (l:List Watch) (hW:RS Lp.kd U v l) (hl:Aa a<=1048576) (hm:Aa b<=1048576) (hw:l.length+sumL Bm l<=1099511627776) (hI:stI a) (hJ':stI b):∃ r N,Ret Tryz.prog 19 [.agg cs,.agg ds,v] U r N/\Hp U N [ow pI.kd r (J1 a b l l.length)]:=by
 have gl:cs.length=4:=A4.len hR
 have gm:ds.length=4:=A4.len hS
 refine Gi Afs (Z0z rfl) (Hx.refl U) ?_
 simp +contextual (disch:=omega) only[go_sem,A7b,hW.len]
 intro n f N _ n2 f2 N1 _ n3 f3 N2 H
 have H:=H.emp pI.kd rfl
 refine M8 l.length 13 0 (fun i env h=>env 3= .ptr n 0/\env 4= .ptr n2 0/\env 11=v/\env 12=gi l.length/\∃ u,env 7=u/\h=[.th (ow pI.kd u (J1 a b l i)),.box 1 n2 ds,.box 1 n cs]) (fun env h=>∃ u,env 7=u/\h=[.th (ow pI.kd u (J1 a b l l.length)),.box 1 n2 ds,.box 1 n cs]) (fun env h=>False) _ H (by simp +contextual (disch:=omega) only[go_sem]) ⟨by simp +contextual (disch:=omega) only[go_sem],by simp +contextual (disch:=omega) only[go_sem],by simp +contextual (disch:=omega) only[go_sem],by simp +contextual (disch:=omega) only[go_sem],_,by simp +contextual (disch:=omega) only[go_sem],rfl⟩ ?_ ?_ ?_ (fun _ _ _ _ h=>h.elim)
 ·clear H
  rintro J Yq Wq hJ hY hWW i env h N hi ei c0 H ⟨e3,e4,e11,e12,u,e7,rfl⟩
  have L1:=Aga hW hi
  have hwi:Bm l[i]<=1099511627776:=by
   have:=He (f:=Bm) (Zan hi)
   omega
  simp +contextual (disch:=omega) only[go_sem,c0,e3,e4,e11,e12,e7,ei,A5,L1]
  intro n5 f5 N5 _ N6 H6
  simp +contextual (disch:=omega) only[go_sem,e3,e4,A2 gl,gl]
  refine by_r H6 (Fi N6 cs a (A4.pre hR H6.sub) l[i] hl hwi hI) ?_
  simp +contextual (disch:=omega) only[go_sem,e3,e4,A2 gm,gm]
  refine by_r H6 (Fi N6 ds b (A4.pre hS H6.sub) l[i] hm hwi hJ') ?_
  cases ht:decide (Gn a l[i]=Gn b l[i]) with
  |true=>
   have hT:Sm a b l[i]=false:=by simp[Sm,ht]
   simp +contextual (disch:=omega) only[go_sem,ht,e3,e4,e11,e12,e7,ei]
   exact hJ _ _ _ _ (H6.re [1,2,3] (by decide)) ⟨by simp +contextual (disch:=omega) only[go_sem,e3],by simp +contextual (disch:=omega) only[go_sem,e4],by simp +contextual (disch:=omega) only[go_sem,e11],by simp +contextual (disch:=omega) only[go_sem,e12],u,by simp +contextual (disch:=omega) only[go_sem,e7],by rw[Agt hi hT];rfl⟩
  |false=>
   have hT:Sm a b l[i]=true:=by simp[Sm,ht]
   have hle:=A3s a b l i
   simp +contextual (disch:=omega) only[go_sem,ht,e3,e4,e11,e12,e7,ei]
   intro n7 f7 N7 H7
   refine J7 (p:=pI) H7 2 rfl (i:Int) J6 (by decide) (by omega) fun w' N8 H8=> ?_
   simp +contextual (disch:=omega) only[go_sem,e3,e4,e11,e12,ei]
   exact hJ _ _ _ _ (H8.re [2,3,4] (by decide)) ⟨by simp +contextual (disch:=omega) only[go_sem,e3],by simp +contextual (disch:=omega) only[go_sem,e4],by simp +contextual (disch:=omega) only[go_sem,e11],by simp +contextual (disch:=omega) only[go_sem,e12],w',by simp +contextual (disch:=omega) only[go_sem],by rw[Ags hi hT];rfl⟩
 ·rintro Yq hY env h N ei c0 H ⟨e3,e4,e11,e12,u,e7,rfl⟩
  simp +contextual (disch:=omega) only[go_sem,c0,e12,ei]
  exact hY _ _ _ H ⟨u,by simp +contextual (disch:=omega) only[go_sem,e7],rfl⟩
 ·rintro env h N H ⟨u,e7,rfl⟩
  simp +contextual (disch:=omega) only[go_sem,e7]
  exact fun H=>⟨u,rfl,H.re [0] (by decide)⟩
theorem Adc (U:St) (cs:List GV) (a:State) (hR:A4.R U a cs) (ds:List GV) (b:State) (hS:A4.R U b ds) (v:GV) (l:List Watch) (hW:RS Lp.kd U v l) (hl:Aa a<=1048576) (hm:Aa b<=1048576) (hw:l.length+sumL Bm l<=1099511627776) (hI:stI a) (hJ':stI b):∃ r N,Ret Tryz.prog 16 [.agg cs,.agg ds,v] U r N/\Hp U N [ow pI.kd r (J1 a b l l.length)]:=by
 have gl:cs.length=4:=A4.len hR
 have gm:ds.length=4:=A4.len hS
 refine Gi Aft (Z0z rfl) (Hx.refl U) ?_
 simp +contextual (disch:=omega) only[go_sem,A7d,hW.len]
 intro n f N _ n2 f2 N1 _ n3 f3 N2 H
 have H:=H.emp pI.kd rfl
 refine M8 l.length 8 0 (fun i env h=>env 2=v/\env 3= .ptr n 0/\env 4= .ptr n2 0/\∃ u,env 7=u/\h=[.th (ow pI.kd u (J1 a b l i)),.box 1 n2 ds,.box 1 n cs]) (fun env h=>∃ u,env 7=u/\h=[.th (ow pI.kd u (J1 a b l l.length)),.box 1 n2 ds,.box 1 n cs]) (fun env h=>False) _ H (by simp +contextual (disch:=omega) only[go_sem]) ⟨by simp +contextual (disch:=omega) only[go_sem],by simp +contextual (disch:=omega) only[go_sem],by simp +contextual (disch:=omega) only[go_sem],_,by simp +contextual (disch:=omega) only[go_sem],rfl⟩ ?_ ?_ ?_ (fun _ _ _ _ h=>h.elim)
 ·clear H
  rintro J Yq Wq hJ hY hWW i env h N hi ei c0 H ⟨e2,e3,e4,u,e7,rfl⟩
  have L1:=Aga hW hi
  have hwi:Bm l[i]<=1099511627776:=by
   have:=He (f:=Bm) (Zan hi)
   omega
  simp +contextual (disch:=omega) only[go_sem,c0,e2,e3,e4,e7,ei,A5,L1,hW.len,A2 gl,gl]
  refine by_r H (Fj N cs a (A4.pre hR H.sub) l[i] hl hwi hI) ?_
  simp +contextual (disch:=omega) only[go_sem,e2,e3,e4,e7,ei,A5,L1,hW.len,A2 gm,gm]
  refine by_r H (Fj N ds b (A4.pre hS H.sub) l[i] hm hwi hJ') ?_
  cases ht:decide (Gn a l[i]=Gn b l[i]) with
  |true=>
   have hT:Sm a b l[i]=false:=by simp[Sm,ht]
   simp +contextual (disch:=omega) only[go_sem,ht,e2,e3,e4,e7,ei]
   exact hJ _ _ _ _ H ⟨by simp +contextual (disch:=omega) only[go_sem,e2],by simp +contextual (disch:=omega) only[go_sem,e3],by simp +contextual (disch:=omega) only[go_sem,e4],u,by simp +contextual (disch:=omega) only[go_sem,e7],by rw[Agt hi hT]⟩
  |false=>
   have hT:Sm a b l[i]=true:=by simp[Sm,ht]
   have hle:=A3s a b l i
   simp +contextual (disch:=omega) only[go_sem,ht,e2,e3,e4,e7,ei]
   intro n7 f7 N7 H7
   refine J7 (p:=pI) H7 1 rfl (i:Int) J6 (by decide) (by omega) fun w' N8 H8=> ?_
   simp +contextual (disch:=omega) only[go_sem,e2,e3,e4,ei]
   exact hJ _ _ _ _ (H8.re [1,2,3] (by decide)) ⟨by simp +contextual (disch:=omega) only[go_sem,e2],by simp +contextual (disch:=omega) only[go_sem,e3],by simp +contextual (disch:=omega) only[go_sem,e4],w',by simp +contextual (disch:=omega) only[go_sem],by rw[Ags hi hT];rfl⟩
 ·rintro Yq hY env h N ei c0 H ⟨e2,e3,e4,u,e7,rfl⟩
  simp +contextual (disch:=omega) only[go_sem,c0,e2,ei,hW.len]
  exact hY _ _ _ H ⟨u,by simp +contextual (disch:=omega) only[go_sem,e7],rfl⟩
 ·rintro env h N H ⟨u,e7,rfl⟩
  simp +contextual (disch:=omega) only[go_sem,e7]
  exact fun H=>⟨u,rfl,H.re [0] (by decide)⟩
def vval:List UInt8->Nat
 |[]=>0
 |b::r=>b.toNat % 128+128*vval r
def rdv:Nat->List UInt8->Option (List UInt8)
 |0,_=>none
 |_,[]=>none
 |f+1,b::r=>if b.toNat<=127 then some [b] else(rdv f r).map (b::·)
theorem Afu:∀ {pre r:List UInt8} {f:Nat},(∀ b∈pre,127<b.toNat)->pre.length<=f->rdv f (pre++r)=(rdv (f - pre.length) r).map (pre++·)
 |[],r,f,_,_=>by simp
 |b::pre,r,0,_,h=>by simp at h
 |b::pre,r,f+1,h,hl=>by
  have hb:¬ b.toNat<=127:=by have:=h b Zaf;omega
  simp only[Zae,rdv,if_neg hb,Zaz,Nat.add_sub_add_right]
  rw[Afu (fun x hx=>h x (Zag _ hx)) (by simpa using hl),Option.map_map]
  rfl
theorem Agu:∀(pre r:List UInt8),vval (pre++r)=vval pre+128 ^ pre.length*vval r
 |[],r=>by simp[vval]
 |b::pre,r=>by
  simp only[Zae,vval,Zaz,Agu pre r,Zbn,Nat.mul_add]
  rw[<- Nat.mul_assoc,Nat.mul_comm 128 (128 ^ pre.length)]
  omega
theorem Afv:∀(l:List UInt8),vval l<128 ^ l.length
 |[]=>by simp[vval]
 |b::r=>by
  have:=Afv r
  simp only[vval,Zaz,Zbn]
  omega
theorem A9m:∀ {f:Nat} {l ds:List UInt8},rdv f l=some ds->ds.length<=f/\ds≠[]/\ds <+: l
 |0,_,_,h=>by simp[rdv] at h
 |f+1,[],_,h=>by simp[rdv] at h
 |f+1,b::r,ds,h=>by
  simp only[rdv] at h
  split at h
  ·injection h with h;subst h;exact⟨by simp,by simp,⟨r,rfl⟩⟩
  ·obtain⟨d,hd,rfl⟩:=Z2z.1 h
   obtain⟨h1,h2,t,h3⟩:=A9m hd
   exact⟨by simp;omega,by simp,⟨t,by rw[<- h3];rfl⟩⟩
def nats (l:List UInt8):List Int:=l.map fun b=>((b.toNat:Nat):Int)
theorem Ako:∀ {f:Nat} {l ds:List UInt8},rdv f l=some ds->(vb (vval ds)=nats ds↔(ds.length=1∨ds.getLast? ≠some 0))
 |0,_,_,h=>by simp[rdv] at h
 |f+1,[],_,h=>by simp[rdv] at h
 |f+1,b::r,ds,h=>by
  simp only[rdv] at h
  split at h
  ·rename_i hb
   injection h with h;subst h
   have e:vval [b]=b.toNat:=by simp only[vval];omega
   rw[e,vb,if_neg (by omega)]
   simp[nats]
  ·rename_i hb
   obtain⟨d,hd,rfl⟩:=Z2z.1 h
   have ih:=Ako hd
   obtain⟨_,hne,_⟩:=A9m hd
   have h8:=b.toNat_lt
   have hl:(b::d).getLast? =d.getLast? :=by
    cases d with
    |nil=>exact absurd rfl hne
    |cons x d=>simp[Zbg]
   have h1:(b::d).length≠1:=by cases d with|nil=>exact absurd rfl hne|cons x d=>simp
   rw[hl]
   simp only[h1,false_or]
   have hv:vval (b::d)=b.toNat % 128+128*vval d:=rfl
   rcases Nat.eq_zero_or_pos (vval d) with h0|h0
   ·
    have hlast:d.getLast? =some 0:=by
     have key:∀ {f:Nat} {l d:List UInt8},rdv f l=some d->vval d=0->d.getLast? =some 0:=by
      intro f
      induction f with
      |zero=>intro l d h;simp[rdv] at h
      |succ f ihf=>
       intro l d h h0
       cases l with
       |nil=>simp[rdv] at h
       |cons x l=>
        simp only[rdv] at h
        split at h
        ·rename_i hx
         injection h with h;subst h
         simp only[vval] at h0
         have:x.toNat=0:=by omega
         have:x=0:=UInt8.toNat_inj.1 this
         subst this;rfl
        ·obtain⟨d',hd',rfl⟩:=Z2z.1 h
         obtain⟨_,hne',_⟩:=A9m hd'
         simp only[vval] at h0
         have:=ihf hd' (by omega)
         cases d' with
         |nil=>exact absurd rfl hne'
         |cons y d'=>rw[Zbg];exact this
     exact key hd h0
    constructor
    ·intro hvb
     rw[hv,h0,Nat.mul_zero,Nat.add_zero,vb,if_neg (by omega)] at hvb
     have:=congrArg Zbf hvb
     simp[nats] at this
     exact absurd this hne
    ·intro h;exact absurd hlast h
   ·have hgt:vval (b::d)>127:=by rw[hv];omega
    rw[vb,if_pos hgt,hv]
    have e1:(b.toNat % 128+128*vval d) % 128+128=b.toNat:=by omega
    have e2:(b.toNat % 128+128*vval d) / 128=vval d:=by omega
    rw[e1,e2]
    have e3:nats (b::d)=((b.toNat:Nat):Int)::nats d:=rfl
    rw[e3,List.cons.injEq]
    simp only[true_and]
    rw[ih]
    constructor
    ·rintro(h|h)
     ·cases d with
      |nil=>exact absurd rfl hne
      |cons x d=>
       cases d with
       |nil=>
        intro e
        simp at e
        subst e
        simp[vval] at h0
       |cons y d=>simp at h
     ·exact h
    ·exact .inr
theorem Agv (l:List UInt8):txt (nats l)=⟨l.toArray⟩:=by
 unfold txt nats
 rw[List.map_map]
 congr 1
 congr 1
 conv=>rhs;rw[<- List.map_id l]
 refine List.map_congr_left fun b _=> ?_
 simp
def Uq8 (l:List Int):Prop:=∀ x∈l,0≤x/\x<256
theorem Aoo (l:List UInt8):Uq8 (nats l):=fun x hx=>by
 obtain⟨b,_,rfl⟩:=Za9.1 hx
 have:=b.toNat_lt
 omega
theorem vb_u8 (n:Nat):Uq8 (vb n):=by
 induction n using Nat.strongRecOn with
 |_ n ih=>
  intro x hx
  rw[vb] at hx
  split at hx
  ·rcases Zaj.1 hx with rfl|hx
   ·omega
   ·exact ih (n / 128) (by omega) x hx
  ·simp at hx;omega
theorem Aic {a b:List Int} (ha:Uq8 a) (hb:Uq8 b) (h:txt a=txt b):a=b:=by
 have key:∀ {a b:List Int},Uq8 a->Uq8 b->(a.map fun n=>UInt8.ofNat n.toNat)=(b.map fun n=>UInt8.ofNat n.toNat)->a=b:=by
  intro a
  induction a with
  |nil=>intro b _ _ h;cases b with
   |nil=>rfl
   |cons y b=>simp at h
  |cons x a ih=>
   intro b ha hb h
   cases b with
   |nil=>simp at h
   |cons y b=>
    simp only[Za3,List.cons.injEq] at h
    have hx:=ha x Zaf
    have hy:=hb y Zaf
    have e:=congrArg UInt8.toNat h.1
    simp only[UInt8.toNat_ofNat'] at e
    rw[ih (fun z hz=>ha z (Zag _ hz)) (fun z hz=>hb z (Zag _ hz)) h.2]
    congr 1
    omega
 refine key ha hb ?_
 have:=congrArg bl h
 exact this
def Dv (t:ByteArray) (p:Nat):Option (Nat×Nat):=(rdv 5 ((bl t).drop p)).bind fun ds=>if vval ds<=1000000000/\(ds.length=1∨ds.getLast? ≠some 0) then some (vval ds,p+ds.length) else none
def B6 (t:ByteArray) (p:Int):Option (Nat×Nat):=if inB p 0 t.size then Dv t p.toNat else none
theorem Akp {s t:ByteArray} (h:bl s=bl t):s=t:=ByteArray.ext (Array.ext' h)
theorem bl_mk (l:List UInt8):bl ⟨l.toArray⟩=l:=rfl
theorem Akq (s t:ByteArray):bl (s++t)=bl s++bl t:=by
 unfold bl;rw[ByteArray.data_append,Array.toList_append]
theorem A7e (t:ByteArray) (a b:Nat):bl (t.extract a b)=((bl t).drop a).take (b - a):=by
 unfold bl
 rw[ByteArray.data_extract,Array.toList_extract]
 first|done|rfl
theorem F0 {t:ByteArray} {p n q:Nat} (h:Dv t p=some (n,q)):n<=1000000000/\p<q/\q<=p+5/\q<=t.size/\t.extract p q=txt (vb n):=by
 unfold Dv at h
 obtain⟨ds,hds,h⟩:=Z1z.1 h
 split at h
 ·rename_i hc
  injection h with h
  injection h with h1 h2
  subst h1 h2
  obtain⟨hl,hne,r,hr⟩:=A9m hds
  have hpos:0<ds.length:=List.length_pos_iff.2 hne
  have hsz:p+ds.length<=t.size:=by
   have:=congrArg Zbf hr
   rw[Zal,Za1,Cs] at this
   omega
  refine⟨hc.1,by omega,by omega,hsz,?_⟩
  rw[(Ako hds).2 hc.2,Agv]
  apply Akp
  rw[A7e,bl_mk ds,<-hr,Nat.add_sub_cancel_left,List.take_left]
 ·cases h
def Cj (t:ByteArray) (p:Nat):Option (ByteArray×Nat):=(Dv t p).bind fun r=>if r.1<=20000/\r.1+r.2<=t.size then some (t.extract r.2 (r.2+r.1),r.2+r.1) else none
def Bo (t:ByteArray) (p:Int):Option (ByteArray×Nat):=if inB p 0 t.size then Cj t p.toNat else none
theorem Lk (t:ByteArray) {a b c:Nat} (h1:a<=b) (h2:b<=c):t.extract a c=t.extract a b++t.extract b c:=by
 apply Akp
 rw[Akq,A7e,A7e,A7e]
 rw[show c - a=(b - a)+(c - b) by omega,List.take_add,List.drop_drop,show a+(b - a)=b by omega]
theorem Sn (t:ByteArray) {a b:Nat} (h2:b<=t.size):(t.extract a b).size=b - a:=by
 rw[<- Cs,A7e,Zbo,Za1,Cs];omega
theorem Dc {t s:ByteArray} {p q:Nat} (h:Cj t p=some (s,q)):s.size<=20000/\p<q/\q<=t.size/\t.extract p q=Bt s:=by
 unfold Cj at h
 obtain⟨⟨n,m⟩,hv,h⟩:=Z1z.1 h
 simp only at h
 split at h
 ·rename_i hc
  injection h with h
  injection h with h1 h2
  subst h1 h2
  obtain⟨h1,h2,h3,h4,h5⟩:=F0 hv
  have hsz:(t.extract m (m+n)).size=n:=by rw[Sn t (by omega)];omega
  refine⟨by omega,by omega,by omega,?_⟩
  rw[Lk t (b:=m) (by omega) (by omega),h5,Bt,if_pos (by omega),hsz]
 ·cases h
def Jz (t:ByteArray):Option Watch:=(Dv t 0).bind fun k=>(Cj t k.2).bind fun o=>(Cj t o.2).bind fun y=>if Cn ⟨k.1,o.1,y.1⟩=t then some ⟨k.1,o.1,y.1⟩ else none
theorem Sp {t:ByteArray} {k a b c:Nat} {o y:ByteArray} (h1:Dv t 0=some (k,a)) (h2:Cj t a=some (o,b)) (h3:Cj t b=some (y,c)) (h:Cn ⟨k,o,y⟩=t):Cm ⟨k,o,y⟩=true/\c=t.size:=by
 obtain⟨k1,k2,k3,k4,k5⟩:=F0 h1
 obtain⟨o1,o2,o3,o4⟩:=Dc h2
 obtain⟨y1,y2,y3,y4⟩:=Dc h3
 cases hw:Cm ⟨k,o,y⟩ with
 |false=>
  rw[Cn,hw] at h
  have:t.size=0:=by rw[<- h];rfl
  omega
 |true=>
  refine⟨rfl,?_⟩
  rw[Cn,if_pos hw] at h
  have e:t.extract 0 c=t:=by
   rw[Lk t (b:=a) (by omega) (by omega),Lk t (a:=a) (b:=b) (by omega) (by omega),k5,o4,y4,<-Qw k1]
   exact h
  have:=congrArg ByteArray.size e
  rw[Sn t y3] at this
  omega
def A3u:Fn1:=⟨58,[.t 4,.t 5,.t 6],(rg [oV 4 (ki 0),oV 5 (ki 0),oV 6 kf] (.seq (rg [oM 10 1,oM 11 0,o 12 (.len true (.t 11)),o 13 (.call 128 [(.t 10),(ki 0),(.t 12)]),oU 14 13] (oG 14 (rg [oV 4 (ki 0),oV 5 (ki 0),oV 6 kf] .ret))) (rg [oV 7 (ki 0)] (rg [oV 8 (ki 1)] (.seq (rg [oM 15 1,oM 9 15] (oH 0 (.seq (rg [oM 16 9,oM 17 0,o 18 (.len true (.t 17)),oB 19 .lss 16 18,oM 20 19,jM 21 20 9,jM 22 20 1,jE 23 20 .add 22 5,jB 24 20 .lss 21 23,oQ 25 20 24] (oJ 25 0)) (.seq (.blk 1 (rg [oM 28 7,oM 29 0,oM 30 9,o 31 (.idx (.t 29) (.t 30)),o 32 (.cvi .i64 (.t 31)),oE 33 .rem 32 128,oM 34 8,oB 35 .mul 33 34,oB 36 .add 28 35,oM 7 36] (rg [oM 37 8,oE 38 .mul 37 128,oM 8 38] (rg [oM 39 0,oM 40 9,o 41 (.idx (.t 39) (.t 40)),o 42 (.bin .lss (.t 41) (.k (.int .u8 128)))] (oG 42 (.seq (dw [] [oM 43 7,oE 44 .gtr 43 1000000000,oM 45 44,vM 46 45 7,vC 47 45 134 46,vM 48 45 0,vM 49 45 1,vM 50 45 9,vE 51 45 .add 50 1,og 52 45 false (.cutS (.t 48) (some (.t 49)) (some (.t 51))),vB 53 45 .neq 47 52,oP 54 45 53] (oG 54 (rg [oV 4 (ki 0),oV 5 (ki 0),oV 6 kf] .ret))) (rg [oM 55 7,oM 56 9,oZ 57 56 1,oM 4 55,oM 5 57,oV 6 kt] .ret))))))) (.reg [oM 26 9,oZ 27 26 1,oM 9 27]))))) (rg [oV 4 (ki 0),oV 5 (ki 0),oV 6 kf] .ret))))))⟩
theorem Add:A6 Tryz.prog 126=some A3u:=by kernel_rfl
def A3w:Fn1:=⟨57,[.t 4,.t 5,.t 6],(rg [oV 4 (ki 0),oV 5 (ki 0),oV 6 kf] (.seq (rg [oM 10 1,oM 11 0,o 12 (.len true (.t 11)),o 13 (.call 109 [(.t 10),(ki 0),(.t 12)]),oU 14 13] (oG 14 (rg [oV 4 (ki 0),oV 5 (ki 0),oV 6 kf] .ret))) (rg [oV 7 (ki 0)] (.seq (rg [oV 8 (ki 0)] (oH 0 (.seq (rg [oM 15 8,oE 16 .lss 15 5,oM 17 16,jM 18 17 1,jM 19 17 8,jB 20 17 .add 18 19,jM 21 17 0,og 22 17 true (.len true (.t 21)),jB 23 17 .lss 20 22,oQ 24 17 23] (oJ 24 0)) (.seq (.blk 1 (rg [oM 27 0,oM 28 1,oM 29 8,oB 30 .add 28 29,o 31 (.idx (.t 27) (.t 30)),o 32 (.cvi .i64 (.t 31)),oM 9 32] (rg [oM 33 7,oM 34 9,oE 35 .rem 34 128,oM 36 8,o 37 (.bin .mul (ki 7) (.t 36)),oB 38 .shl 35 37,oB 39 .add 33 38,oM 7 39] (.seq (rg [oM 40 9,oE 41 .gtr 40 127] (oG 41 (.ext 1))) (.seq (rg [oM 42 8,oE 43 .gtr 42 0,oM 44 43,jM 45 44 9,jE 46 44 .eql 45 0,oQ 47 44 46,oM 48 47,vM 49 48 7,vE 50 48 .gtr 49 1000000000,oP 51 48 50] (oG 51 (rg [oV 4 (ki 0),oV 5 (ki 0),oV 6 kf] .ret))) (rg [oM 52 7,oM 53 1,oM 54 8,oB 55 .add 53 54,oZ 56 55 1,oM 4 52,oM 5 56,oV 6 kt] .ret)))))) (.reg [oM 25 8,oZ 26 25 1,oM 8 26]))))) (rg [oV 4 (ki 0),oV 5 (ki 0),oV 6 kf] .ret)))))⟩
theorem Ade:A6 Tryz.prog 209=some A3w:=by kernel_rfl
def Sr:Fn1:=⟨40,[.t 4,.t 5,.t 6],(rg [o 4 (.mov (.k s0)),oV 5 (ki 0),oV 6 kf] (rg [oM 11 0,oM 12 1,oD 13 126 11 12,oM 10 13,o 14 (.ext 0 (.t 10)),o 15 (.ext 1 (.t 10)),o 16 (.ext 2 (.t 10)),oM 7 14,oM 8 15,oM 9 16] (.seq (rg [oM 17 9,oU 18 17,oM 19 18,vM 20 19 7,vE 21 19 .gtr 20 20000,oP 22 19 21,oM 23 22,vM 24 23 7,vM 25 23 0,og 26 23 false (.len true (.t 25)),vM 27 23 8,vB 28 23 .sub 26 27,vB 29 23 .gtr 24 28,oP 30 23 29] (oG 30 (rg [o 4 (.mov (.k s0)),oV 5 (ki 0),oV 6 kf] .ret))) (rg [oM 31 0,oM 32 8,oM 33 8,oM 34 7,oB 35 .add 33 34,o 36 (.cutS (.t 31) (some (.t 32)) (some (.t 35))),oM 37 8,oM 38 7,oB 39 .add 37 38,oM 4 36,oM 5 39,oV 6 kt] .ret))))⟩
theorem A4v:A6 Tryz.prog 127=some Sr:=by kernel_rfl
def Su:Fn1:=⟨40,[.t 4,.t 5,.t 6],(rg [o 4 (.mov (.k s0)),oV 5 (ki 0),oV 6 kf] (rg [oM 11 0,oM 12 1,oD 13 209 11 12,oM 10 13,o 14 (.ext 0 (.t 10)),o 15 (.ext 1 (.t 10)),o 16 (.ext 2 (.t 10)),oM 7 14,oM 8 15,oM 9 16] (.seq (rg [oM 17 9,oU 18 17,oM 19 18,vM 20 19 7,vE 21 19 .gtr 20 20000,oP 22 19 21,oM 23 22,vM 24 23 7,vM 25 23 0,og 26 23 false (.len true (.t 25)),vM 27 23 8,vB 28 23 .sub 26 27,vB 29 23 .gtr 24 28,oP 30 23 29] (oG 30 (rg [o 4 (.mov (.k s0)),oV 5 (ki 0),oV 6 kf] .ret))) (rg [oM 31 0,oM 32 8,oM 33 8,oM 34 7,oB 35 .add 33 34,o 36 (.cutS (.t 31) (some (.t 32)) (some (.t 35))),oM 37 8,oM 38 7,oB 39 .add 37 38,oM 4 36,oM 5 39,oV 6 kt] .ret))))⟩
theorem A4w:A6 Tryz.prog 210=some Su:=by kernel_rfl
def J3:Fn1:=⟨35,[.t 2],(rg [oV 2 (ki 0)] (dw [oM 7 0,oK 8 7,oF 9 0 8,oL 10 9,oM 11 0,oK 12 11,oF 13 1 12,oL 14 13] [oD 15 209 10 14,oM 6 15,o 16 (.ext 0 (.t 6)),o 17 (.ext 1 (.t 6)),o 18 (.ext 2 (.t 6)),oM 3 16,oM 4 17,oM 5 18] (.seq (rg [oM 19 0,oK 20 19,oF 21 2 20,oL 22 21,oM 23 22,vM 24 23 5,vU 25 23 24,oP 26 23 25] (oG 26 (rg [oM 27 0,oK 28 27,oF 29 2 28,on (.st 1 (.t 29) kt)] (oR 2 (ki 0))))) (rg [oM 30 0,oM 31 4,oK 32 30,oF 33 1 32,oS 1 33 31] (rg [oM 34 3,oM 2 34] .ret)))))⟩
theorem Qc:A6 Tryz.prog 110=some J3:=by kernel_rfl
def Kc:Fn1:=⟨35,[.t 2],(rg [o 2 (.mov (.k s0))] (dw [oM 7 0,oK 8 7,oF 9 0 8,oL 10 9,oM 11 0,oK 12 11,oF 13 1 12,oL 14 13] [oD 15 210 10 14,oM 6 15,o 16 (.ext 0 (.t 6)),o 17 (.ext 1 (.t 6)),o 18 (.ext 2 (.t 6)),oM 3 16,oM 4 17,oM 5 18] (.seq (rg [oM 19 0,oK 20 19,oF 21 2 20,oL 22 21,oM 23 22,vM 24 23 5,vU 25 23 24,oP 26 23 25] (oG 26 (rg [oM 27 0,oK 28 27,oF 29 2 28,on (.st 1 (.t 29) kt)] (rg [o 2 (.mov (.k s0))] .ret)))) (rg [oM 30 0,oM 31 4,oK 32 30,oF 33 1 32,oS 1 33 31] (rg [oM 34 3,oM 2 34] .ret)))))⟩
theorem Sv:A6 Tryz.prog 111=some Kc:=by kernel_rfl
def rvG:Option (Nat×Nat)->GV
 |none=>.tup [gi 0,gi 0,.bool false]
 |some (n,q)=>.tup [gi n,gi q,.bool true]
theorem Amm (m:Nat) (r:Option (Nat×Nat)):vLt m (rvG r):=by
 cases r with
 |none=>intro v hv;simp at hv;rcases hv with rfl|rfl|rfl<;>trivial
 |some q=>intro v hv;simp at hv;rcases hv with rfl|rfl|rfl<;>trivial
theorem Ll {t:ByteArray} {p k:Nat} {pre:List UInt8} (hp:(bl t).drop p=pre++(bl t).drop (p+k)) (hl:pre.length=k) (h7:∀ b∈pre,127<b.toNat) (hk:k<=5) (he:p+k=t.size∨k=5):Dv t p=none:=by
 unfold Dv
 rw[hp,Afu h7 (by omega)]
 have:rdv (5 - pre.length) ((bl t).drop (p+k))=none:=by
  rcases he with he|he
  ·rw[he,<-Cs,List.drop_length]
   cases 5 - pre.length<;>rfl
  ·rw[hl,he];rfl
 rw[this];rfl
theorem A3x {t:ByteArray} {p k:Nat} {pre:List UInt8} (hp:(bl t).drop p=pre++(bl t).drop (p+k)) (hl:pre.length=k) (h7:∀ b∈pre,127<b.toNat) (hk:k<5) (hi:p+k<(bl t).length) (hb:(bl t)[p+k].toNat<=127):
  Dv t p=(if vval (pre++[(bl t)[p+k]])<=1000000000/\(k=0∨(bl t)[p+k]≠0) then some (vval (pre++[(bl t)[p+k]]),p+k+1) else none)/\rdv 5 ((bl t).drop p)=some (pre++[(bl t)[p+k]]):=by
 have e:rdv 5 ((bl t).drop p)=some (pre++[(bl t)[p+k]]):=by
  rw[hp,Afu h7 (by omega),Zat hi]
  obtain⟨f,hf⟩:∃ f,5 - pre.length=f+1:=⟨4 - pre.length,by omega⟩
  rw[hf,rdv,if_pos hb];rfl
 refine⟨?_,e⟩
 unfold Dv
 rw[e]
 simp only[Zad,Zal,Zar,hl,List.getLast?_append,List.getLast?_singleton,Option.some_or,ne_eq,Option.some.injEq]
 have:(k+1=1∨¬(bl t)[p+k]=0)↔(k=0∨¬(bl t)[p+k]=0):=by simp
 simp only[this]
 rw[show p+(k+1)=p+k+1 by omega]
theorem Adf {t:ByteArray} {p k:Nat} {pre:List UInt8} (hp:(bl t).drop p=pre++(bl t).drop (p+k)) (hi:p+k<(bl t).length):(bl t).drop p=(pre++[(bl t)[p+k]])++(bl t).drop (p+(k+1)):=by
 rw[hp,Zat hi,Zbd];rfl
theorem Adg {pre:List UInt8} {b:UInt8} {k:Nat} (hl:pre.length=k):vval (pre++[b])=vval pre+b.toNat % 128*128 ^ k:=by
 rw[Agu,hl];simp only[vval];rw[Nat.mul_comm];simp
theorem Akr {k:Nat} (hk:k<=4):128 ^ k<=268435456:=by
 have:128 ^ k<=128 ^ 4:=Nat.pow_le_pow_right (by omega) hk
 exact this
theorem Sw (U:St) (t:ByteArray) (p:Int) (ht:t.size<=1099511627776):Ret Tryz.prog 126 [.str t,gi p] U (rvG (B6 t p)) U:=by
 refine Ae Add (Z0z rfl) (Amm _ _) ?_
 simp +contextual (disch:=omega) only[go_sem,A3u]
 refine Ac (Ay _ _ _ _) (fun h=> ?_) (fun h=> ?_)
 rotate_left
 ·simp +contextual (disch:=omega) only[go_sem]
  simp[B6,h,rvG]
 have hpb:=Bn.1 h
 obtain⟨p,rfl⟩:∃ q:Nat,p=q:=⟨p.toNat,by omega⟩
 have hrv:B6 t p=Dv t p:=by simp[B6,h]
 rw[hrv]
 have hbl:=Cs t
 simp +contextual (disch:=omega) only[go_sem]
 refine Oy (fun m env N=>∃(k i v:Nat) (pre:List UInt8) (sc:Nat),m=5 - k/\k<=5/\i=p+k/\v=vval pre/\env 0= .str t/\env 1=gi p/\env 9=gi i/\env 7=gi v/\env 8=gi sc/\sc=128 ^ k/\pre.length=k/\(∀ b∈pre,127<b.toNat)/\(bl t).drop p=pre++(bl t).drop (p+k)/\U <+: N) 5 ⟨0,p,0,[],1,rfl,by omega,rfl,rfl,rfl,rfl,rfl,rfl,rfl,rfl,rfl,by simp,by simp,Zbi _⟩ ?_
 rintro m env N ⟨k,i,v,pre,sc,rfl,hk,hik,hv,e0,e1,e9,e7,e8,hsc,hl,h7,hd,hp⟩
 have hvl:=Afv pre
 rw[hl,<-hv] at hvl
 by_cases hc1:i<t.size
 ·have d1:decide ((i:Int)<(t.size:Int))=true:=decide_eq_true (by omega)
  by_cases hc2:k<5
  ·have d2:decide ((i:Int)<(p:Int)+5)=true:=decide_eq_true (by omega)
   have hi:i<(bl t).length:=by omega
   have hpw:=Akr (k:=k) (by omega)
   rw[<- hsc] at hpw hvl
   have hi':p+k<(bl t).length:=by omega
   have hbi:(bl t)[p+k]=(bl t)[i]:=by congr 1;exact hik.symm
   have h8:=Anx (bl t)[i]
   obtain⟨B,hB⟩:∃ B,B=(bl t)[i].toNat:=⟨_,rfl⟩
   obtain⟨r,hr0⟩:∃ r,r=B % 128:=⟨_,rfl⟩
   obtain⟨q,hq0⟩:∃ q,q=r*sc:=⟨_,rfl⟩
   obtain⟨nv,hnv⟩:∃ nv,nv=vval (pre++[(bl t)[i]]):=⟨_,rfl⟩
   have hq:q<=127*268435456:=by rw[hq0];exact Zbk (by omega) hpw
   have hvs:nv=v+q:=by rw[hnv,Adg hl,hq0,hr0,hB,hsc,hv]
   have hix:=A10 hi
   rw[<- hB] at hix
   have t1:((B:Nat):Int).tmod 128=(r:Int):=by rw[A7v,hr0]
   have t2:(r:Int)*(sc:Int)=(q:Int):=by rw[hq0];simp
   have t3:(v:Int)+(q:Int)=(nv:Int):=by rw[hvs];simp
   have hvb:nv<=1099511627776:=by omega
   have hd':=Adf hd hi'
   rw[hbi] at hd'
   by_cases hb:B<=127
   ·have d3:decide ((B:Int)<128)=true:=decide_eq_true (by omega)
    obtain⟨hr,hds⟩:=A3x hd hl h7 hc2 hi' (by rw[hbi,<-hB];exact hb)
    have hcan:=Ako hds
    rw[hbi,<-hnv] at hcan hr
    rw[<- hik] at hr
    by_cases hbig:nv<=1000000000
    ·have d4:decide (1000000000<(nv:Int))=false:=decide_eq_false (by omega)
     have n1:B5 (some (.int .i64 ((p:Nat):Int)))=some p:=A5
     have n2:B5 (some (.int .i64 ((i:Int)+1)))=some (i+1):=A5 (n:=i+1)
     have hcut:Qg (.str t) (some (.int .i64 ((p:Nat):Int))) (some (.int .i64 ((i:Int)+1)))=some (.str (t.extract p (i+1))):=by
      simp only[Qg,bndG,n1,n2,Zad]
      rw[if_pos (by omega)]
      simp only[Zad]
      rw[if_pos (by omega)]
      simp only[Zad]
     have hex:t.extract p (i+1)=txt (nats (pre++[(bl t)[i]])):=by
      rw[Agv]
      apply Akp
      rw[A7e,bl_mk (pre++_),hd',List.take_left' (by simp[hl];omega)]
     simp +contextual (disch:=omega) only[go_sem,e0,e1,e9,e7,e8,d1,d2,hix,I4,Lo,t1,t2,t3,d3,d4,hcut]
     refine A9 (M9 _ _ hvb) ?_
     by_cases hw:k=0∨(bl t)[i]≠0
     ·have hv:vb nv=nats (pre++[(bl t)[i]]):=hcan.2 (by simpa [hl] using hw)
      have d5:decide (txt (vb nv)=t.extract p (i+1))=true:=decide_eq_true (by rw[hex,hv])
      simp +contextual (disch:=omega) only[go_sem,hcut,d5,e0,e1,e9,e7,e8]
      rw[hr,if_pos ⟨hbig,hw⟩]
      exact⟨by simp[rvG,tup3,Al],hp⟩
     ·have d5:decide (txt (vb nv)=t.extract p (i+1))=false:=by
       refine decide_eq_false fun e=>hw ?_
       rw[hex] at e
       have:vb nv=nats (pre++[(bl t)[i]]):=Aic (vb_u8 _) (Aoo _) e
       have:=hcan.1 this
       simpa [hl] using this
      simp +contextual (disch:=omega) only[go_sem,hcut,d5,e0,e1,e9,e7,e8]
      rw[hr,if_neg (fun h=>hw h.2)]
      exact⟨by simp[rvG,tup3,Al],hp⟩
    ·have d4:decide (1000000000<(nv:Int))=true:=decide_eq_true (by omega)
     simp +contextual (disch:=omega) only[go_sem,e0,e1,e9,e7,e8,d1,d2,hix,I4,Lo,t1,t2,t3,d3,d4]
     rw[hr,if_neg (fun h=>hbig h.1)]
     exact⟨by simp[rvG,tup3,Al],hp⟩
   ·have d3:decide ((B:Int)<128)=false:=decide_eq_false (by omega)
    obtain⟨sc',hsc'⟩:∃ s,s=sc*128:=⟨_,rfl⟩
    have t4:(sc:Int)*128=(sc':Int):=by rw[hsc'];simp
    simp +contextual (disch:=omega) only[go_sem,e0,e1,e9,e7,e8,d1,d2,hix,I4,Lo,t1,t2,t3,t4,d3]
    refine⟨4 - k,by omega,k+1,i+1,nv,pre++[(bl t)[i]],sc',by omega,by omega,by omega,hnv,by omega,rfl,rfl,?_,by simp[hl],?_,by simpa using hd',hp⟩
    ·rw[hsc',hsc,Zbn]
    ·intro b hb'
     rcases Za5.1 hb' with h|h
     ·exact h7 b h
     ·simp at h;subst h;omega
  ·have d2:decide ((i:Int)<(p:Int)+5)=false:=decide_eq_false (by omega)
   simp +contextual (disch:=omega) only[go_sem,e0,e1,e9,e7,e8,d1,d2]
   rw[Ll hd hl h7 hk (.inr (by omega))]
   exact⟨by simp[rvG,tup3,Al],hp⟩
 ·have d1:decide ((i:Int)<(t.size:Int))=false:=decide_eq_false (by omega)
  have:p+k=t.size:=by
   have:=congrArg Zbf hd
   simp only[Za1,Zal,hl] at this
   omega
  simp +contextual (disch:=omega) only[go_sem,e0,e1,e9,e7,e8,d1]
  rw[Ll hd hl h7 hk (.inl this)]
  exact⟨by simp[rvG,tup3,Al],hp⟩
theorem shl_at {r k:Nat} (hr:r<=127) (hk:k<=4):E3 .shl .i64 (r:Int) (7*(k:Int))=some (.int .i64 ((r*128 ^ k:Nat):Int)):=by
 have hp:=Akr hk
 have h1:r*128 ^ k<=127*268435456:=Zbk hr hp
 unfold E3
 rw[if_neg (by omega)]
 have e1:min (7*(k:Int)).toNat IntKind.i64.bits=7*k:=by show min _ 64=_;omega
 have e2:(r:Int)*2 ^ (7*k)=((r*128 ^ k:Nat):Int):=by
  rw[Int.pow_mul];simp
 simp only[e1,e2]
 rw[Bi (by omega) (by omega)]
theorem Sz (U:St) (t:ByteArray) (p:Int) (ht:t.size<=1099511627776):Ret Tryz.prog 209 [.str t,gi p] U (rvG (B6 t p)) U:=by
 refine Ae Ade (Z0z rfl) (Amm _ _) ?_
 simp +contextual (disch:=omega) only[go_sem,A3w]
 refine Ac (B9 _ _ _ _) (fun h=> ?_) (fun h=> ?_)
 rotate_left
 ·simp +contextual (disch:=omega) only[go_sem]
  simp[B6,h,rvG]
 have hpb:=Bn.1 h
 obtain⟨p,rfl⟩:∃ q:Nat,p=q:=⟨p.toNat,by omega⟩
 have hrv:B6 t p=Dv t p:=by simp[B6,h]
 rw[hrv]
 have hbl:=Cs t
 simp +contextual (disch:=omega) only[go_sem]
 refine C4 (fun m env N=>∃(k v:Nat) (pre:List UInt8),m=5 - k/\k<=5/\v=vval pre/\env 0= .str t/\env 1=gi p/\env 8=gi k/\env 7=gi v/\pre.length=k/\(∀ b∈pre,127<b.toNat)/\(bl t).drop p=pre++(bl t).drop (p+k)/\U <+: N) 5 ⟨0,0,[],rfl,by omega,rfl,rfl,rfl,rfl,rfl,rfl,by simp,by simp,Zbi _⟩ ?_
 rintro J hJ m env N ⟨k,v,pre,rfl,hk,hv,e0,e1,e8,e7,hl,h7,hd,hp⟩
 have hvl:=Afv pre
 rw[hl,<-hv] at hvl
 by_cases hc2:k<5
 ·have d2:decide ((k:Int)<5)=true:=decide_eq_true (by omega)
  by_cases hc1:p+k<t.size
  ·have d1:decide ((p:Int)+(k:Int)<(t.size:Int))=true:=decide_eq_true (by omega)
   have hi:p+k<(bl t).length:=by omega
   have hpw:=Akr (k:=k) (by omega)
   have h8:=Anx (bl t)[p+k]
   obtain⟨B,hB⟩:∃ B,B=(bl t)[p+k].toNat:=⟨_,rfl⟩
   obtain⟨r,hr0⟩:∃ r,r=B % 128:=⟨_,rfl⟩
   obtain⟨q,hq0⟩:∃ q,q=r*128 ^ k:=⟨_,rfl⟩
   obtain⟨nv,hnv⟩:∃ nv,nv=vval (pre++[(bl t)[p+k]]):=⟨_,rfl⟩
   have hq:q<=127*268435456:=by rw[hq0];exact Zbk (by omega) hpw
   have hvs:nv=v+q:=by rw[hnv,Adg hl,hq0,hr0,hB,hv]
   have hn1:B5 (some (gi ((p:Int)+(k:Int))))=some (p+k):=A5 (n:=p+k)
   have hix:=A10 hi
   rw[<- hB] at hix
   have t1:((B:Nat):Int).tmod 128=(r:Int):=by rw[A7v,hr0]
   have t2:E3 .shl .i64 (r:Int) (7*(k:Int))=some (.int .i64 (q:Int)):=by rw[hq0];exact shl_at (by omega) (by omega)
   have t3:(v:Int)+(q:Int)=(nv:Int):=by rw[hvs];simp
   have hvb:nv<=1099511627776:=by omega
   have hd':=Adf hd hi
   by_cases hb:B<=127
   ·have d3:decide (127<(B:Int))=false:=decide_eq_false (by omega)
    obtain⟨hr,hds⟩:=A3x hd hl h7 hc2 hi (by rw[<- hB];exact hb)
    rw[<- hnv] at hr
    have hz:(bl t)[p+k]=0↔B=0:=by
     rw[hB]
     constructor
     ·intro e;rw[e];rfl
     ·intro e;exact UInt8.toNat_inj.1 e
    by_cases hw:k=0∨(bl t)[p+k]≠0
    ·by_cases hbig:nv<=1000000000
     ·have d4:decide (1000000000<(nv:Int))=false:=decide_eq_false (by omega)
      rw[hr,if_pos ⟨hbig,hw⟩]
      by_cases hk0:k=0
      ·have d5:decide (0<(k:Int))=false:=decide_eq_false (by omega)
       simp +contextual (disch:=omega) only[go_sem,e0,e1,e8,e7,d1,d2,hn1,hix,I4,Lo,t1,t2,t3,d3,d4,d5]
       exact⟨by simp[rvG,tup3,Al],hp⟩
      ·have d5:decide (0<(k:Int))=true:=decide_eq_true (by omega)
       have d6:((B:Int)==0)=false:=by
        have:B≠0:=fun e=>(hw.resolve_left hk0) (hz.2 e)
        simp;exact this
       simp +contextual (disch:=omega) only[go_sem,e0,e1,e8,e7,d1,d2,hn1,hix,I4,Lo,t1,t2,t3,d3,d4,d5,d6]
       exact⟨by simp[rvG,tup3,Al],hp⟩
     ·have d4:decide (1000000000<(nv:Int))=true:=decide_eq_true (by omega)
      rw[hr,if_neg (fun h=>hbig h.1)]
      by_cases hk0:k=0
      ·have d5:decide (0<(k:Int))=false:=decide_eq_false (by omega)
       simp +contextual (disch:=omega) only[go_sem,e0,e1,e8,e7,d1,d2,hn1,hix,I4,Lo,t1,t2,t3,d3,d4,d5]
       exact⟨by simp[rvG,tup3,Al],hp⟩
      ·have d5:decide (0<(k:Int))=true:=decide_eq_true (by omega)
       cases d6:((B:Int)==0) with
       |false=>
        simp +contextual (disch:=omega) only[go_sem,e0,e1,e8,e7,d1,d2,hn1,hix,I4,Lo,t1,t2,t3,d3,d4,d5,d6]
        exact⟨by simp[rvG,tup3,Al],hp⟩
       |true=>
        simp +contextual (disch:=omega) only[go_sem,e0,e1,e8,e7,d1,d2,hn1,hix,I4,Lo,t1,t2,t3,d3,d4,d5,d6]
        exact⟨by simp[rvG,tup3,Al],hp⟩
    ·rw[hr,if_neg (fun h=>hw h.2)]
     have hk0:k≠0:=fun e=>hw (.inl e)
     have hB0:B=0:=hz.1 (Classical.byContradiction fun e=>hw (.inr e))
     have d5:decide (0<(k:Int))=true:=decide_eq_true (by omega)
     have d6:((B:Int)==0)=true:=by rw[hB0];rfl
     simp +contextual (disch:=omega) only[go_sem,e0,e1,e8,e7,d1,d2,hn1,hix,I4,Lo,t1,t2,t3,d3,d5,d6]
     exact⟨by simp[rvG,tup3,Al],hp⟩
   ·have d3:decide (127<(B:Int))=true:=decide_eq_true (by omega)
    simp +contextual (disch:=omega) only[go_sem,e0,e1,e8,e7,d1,d2,hn1,hix,I4,Lo,t1,t2,t3,d3]
    refine⟨4 - k,by omega,hJ _ _ _ ⟨k+1,nv,pre++[(bl t)[p+k]],by omega,by omega,hnv,?_,?_,?_,?_,by simp[hl],fun b hb'=> ?_,by simpa using hd',hp⟩⟩
    ·simp +contextual (disch:=omega) only[go_sem,e0]
    ·simp +contextual (disch:=omega) only[go_sem,e1]
    ·simp +contextual (disch:=omega) only[go_sem,e8]
    ·simp +contextual (disch:=omega) only[go_sem,e7]
    rcases Za5.1 hb' with h|h
    ·exact h7 b h
    ·simp at h;subst h;omega
  ·have d1:decide ((p:Int)+(k:Int)<(t.size:Int))=false:=decide_eq_false (by omega)
   have:p+k=t.size:=by
    have:=congrArg Zbf hd
    simp only[Za1,Zal,hl] at this
    omega
   simp +contextual (disch:=omega) only[go_sem,e0,e1,e8,e7,d1,d2]
   rw[Ll hd hl h7 hk (.inl this)]
   exact⟨by simp[rvG,tup3,Al],hp⟩
 ·have d2:decide ((k:Int)<5)=false:=decide_eq_false (by omega)
  simp +contextual (disch:=omega) only[go_sem,e0,e1,e8,e7,d2]
  rw[Ll hd hl h7 hk (.inr (by omega))]
  exact⟨by simp[rvG,tup3,Al],hp⟩
def rsG:Option (ByteArray×Nat)->GV
 |none=>.tup [.str ⟨#[]⟩,gi 0,.bool false]
 |some (n,q)=>.tup [.str n,gi q,.bool true]
theorem Amn (m:Nat) (r:Option (ByteArray×Nat)):vLt m (rsG r):=by
 cases r with
 |none=>intro v hv;simp at hv;rcases hv with rfl|rfl|rfl<;>trivial
 |some q=>intro v hv;simp at hv;rcases hv with rfl|rfl|rfl<;>trivial
theorem Amo {t:ByteArray} {a n:Nat} (h:n+a<=t.size):Qg (.str t) (some (gi a)) (some (gi ((a:Int)+(n:Int))))=some (.str (t.extract a (a+n))):=by
 have n1:B5 (some (gi ((a:Nat):Int)))=some a:=A5
 have n2:B5 (some (gi ((a:Int)+(n:Int))))=some (a+n):=A5 (n:=a+n)
 simp only[Qg,bndG,n1,n2,Zad]
 rw[if_pos (by omega)]
 simp only[Zad]
 rw[if_pos (by omega)]
 simp only[Zad]
theorem O5 (U:St) (t:ByteArray) (p:Int) (ht:t.size<=1099511627776):Ret Tryz.prog 127 [.str t,gi p] U (rsG (Bo t p)) U:=by
 refine Ae A4v (Z0z rfl) (Amn _ _) ?_
 simp +contextual (disch:=omega) only[go_sem,Sr]
 refine A9 (Sw U t p ht) ?_
 have hz:Bo t p=(B6 t p).bind fun r=>if r.1<=20000/\r.1+r.2<=t.size then some (t.extract r.2 (r.2+r.1),r.2+r.1) else none:=by
  unfold Bo B6 Cj
  split<;>rfl
 rw[hz]
 cases hv:B6 t p with
 |none=>
  simp +contextual (disch:=omega) only[go_sem,rvG,Zao]
  simp[rsG,tup3,Al]
 |some r=>
  obtain⟨n,q⟩:=r
  have hb:n<=1000000000/\q<=t.size:=by
   unfold B6 at hv
   split at hv
   ·have:=F0 hv;omega
   ·cases hv
  by_cases h1:n<=20000
  ·have d1:decide (20000<(n:Int))=false:=decide_eq_false (by omega)
   by_cases h2:n+q<=t.size
   ·have d2:decide ((t.size:Int) - (q:Int)<(n:Int))=false:=decide_eq_false (by omega)
    simp +contextual (disch:=omega) only[go_sem,rvG,d1,d2,Amo h2,Zad]
    rw[if_pos ⟨h1,h2⟩]
    simp[rsG,tup3,Al]
   ·have d2:decide ((t.size:Int) - (q:Int)<(n:Int))=true:=decide_eq_true (by omega)
    simp +contextual (disch:=omega) only[go_sem,rvG,d1,d2,Zad]
    rw[if_neg (fun h=>h2 h.2)]
    simp[rsG,tup3,Al]
  ·have d1:decide (20000<(n:Int))=true:=decide_eq_true (by omega)
   simp +contextual (disch:=omega) only[go_sem,rvG,d1,Zad]
   rw[if_neg (fun h=>h1 h.1)]
   simp[rsG,tup3,Al]
theorem A3y (U:St) (t:ByteArray) (p:Int) (ht:t.size<=1099511627776):Ret Tryz.prog 210 [.str t,gi p] U (rsG (Bo t p)) U:=by
 refine Ae A4w (Z0z rfl) (Amn _ _) ?_
 simp +contextual (disch:=omega) only[go_sem,Su]
 refine A9 (Sz U t p ht) ?_
 have hz:Bo t p=(B6 t p).bind fun r=>if r.1<=20000/\r.1+r.2<=t.size then some (t.extract r.2 (r.2+r.1),r.2+r.1) else none:=by
  unfold Bo B6 Cj
  split<;>rfl
 rw[hz]
 cases hv:B6 t p with
 |none=>
  simp +contextual (disch:=omega) only[go_sem,rvG,Zao]
  simp[rsG,tup3,Al]
 |some r=>
  obtain⟨n,q⟩:=r
  have hb:n<=1000000000/\q<=t.size:=by
   unfold B6 at hv
   split at hv
   ·have:=F0 hv;omega
   ·cases hv
  by_cases h1:n<=20000
  ·have d1:decide (20000<(n:Int))=false:=decide_eq_false (by omega)
   by_cases h2:n+q<=t.size
   ·have d2:decide ((t.size:Int) - (q:Int)<(n:Int))=false:=decide_eq_false (by omega)
    simp +contextual (disch:=omega) only[go_sem,rvG,d1,d2,Amo h2,Zad]
    rw[if_pos ⟨h1,h2⟩]
    simp[rsG,tup3,Al]
   ·have d2:decide ((t.size:Int) - (q:Int)<(n:Int))=true:=decide_eq_true (by omega)
    simp +contextual (disch:=omega) only[go_sem,rvG,d1,d2,Zad]
    rw[if_neg (fun h=>h2 h.2)]
    simp[rsG,tup3,Al]
  ·have d1:decide (20000<(n:Int))=true:=decide_eq_true (by omega)
   simp +contextual (disch:=omega) only[go_sem,rvG,d1,Zad]
   rw[if_neg (fun h=>h1 h.1)]
   simp[rsG,tup3,Al]
theorem A3z {U0 U:St} {rs:List Thg} {g:Nat} {t:ByteArray} {p:Int} {bad:Bool} (H:Hp U0 U rs) (i:Nat) (hi:rs[i]? =some (pt 1 g [.str t,gi p,.bool bad])) (ht:t.size<=1099511627776):
  ∃ N,Ret Tryz.prog 110 [.ptr g 0] U (gi (if bad then 0 else match B6 t p with|some r=>(r.1:Int)|none=>0)) N/\
   Hp U0 N (rs.set i (pt 1 g [.str t,gi (if bad then p else match B6 t p with|some r=>(r.2:Int)|none=>p),.bool (bad||(B6 t p).isNone)])):=by
 have key:∃ r N,Ret Tryz.prog 110 [.ptr g 0] U r N/\r=gi (if bad then 0 else match B6 t p with|some r=>(r.1:Int)|none=>0)/\
   Hp U0 N (rs.set i (pt 1 g [.str t,gi (if bad then p else match B6 t p with|some r=>(r.2:Int)|none=>p),.bool (bad||(B6 t p).isNone)])):=by
  refine Ch Qc (Z0z rfl) ?_
  have z:=H.pt i hi
  simp +contextual (disch:=omega) only[go_sem,J3,A3 z]
  refine A9 (Sz U t p ht) ?_
  cases bad with
  |true=>
   obtain⟨N,e,H1,_⟩:=H.st i hi 1 2 (.bool true) rfl (by decide) (by simp)
   cases hv:B6 t p with
   |none=>
    simp +contextual (disch:=omega) only[go_sem,rvG,A3 z,e]
    exact⟨_,rfl,rfl,H1⟩
   |some r=>
    obtain⟨n,q⟩:=r
    simp +contextual (disch:=omega) only[go_sem,rvG,A3 z,e]
    exact⟨_,rfl,rfl,H1⟩
  |false=>
   cases hv:B6 t p with
   |none=>
    obtain⟨N,e,H1,_⟩:=H.st i hi 1 2 (.bool true) rfl (by decide) (by simp)
    simp +contextual (disch:=omega) only[go_sem,rvG,A3 z,e]
    exact⟨_,rfl,rfl,H1⟩
   |some r=>
    obtain⟨n,q⟩:=r
    obtain⟨N,e,H1,_⟩:=H.st i hi 1 1 (gi q) rfl (by decide) (by simp)
    simp +contextual (disch:=omega) only[go_sem,rvG,A3 z,e]
    exact⟨_,rfl,rfl,H1⟩
 obtain⟨r,N,R,rfl,H⟩:=key
 exact⟨N,R,H⟩
theorem Eg {U0 U:St} {rs:List Thg} {g:Nat} {t:ByteArray} {p:Int} {bad:Bool} (H:Hp U0 U rs) (i:Nat) (hi:rs[i]? =some (pt 1 g [.str t,gi p,.bool bad])) (ht:t.size<=1099511627776):
  ∃ N,Ret Tryz.prog 111 [.ptr g 0] U (.str (if bad then⟨#[]⟩ else match Bo t p with|some r=>r.1|none=>⟨#[]⟩)) N/\
   Hp U0 N (rs.set i (pt 1 g [.str t,gi (if bad then p else match Bo t p with|some r=>(r.2:Int)|none=>p),.bool (bad||(Bo t p).isNone)])):=by
 have key:∃ r N,Ret Tryz.prog 111 [.ptr g 0] U r N/\r= .str (if bad then⟨#[]⟩ else match Bo t p with|some r=>r.1|none=>⟨#[]⟩)/\
   Hp U0 N (rs.set i (pt 1 g [.str t,gi (if bad then p else match Bo t p with|some r=>(r.2:Int)|none=>p),.bool (bad||(Bo t p).isNone)])):=by
  refine Ch Sv (Z0z rfl) ?_
  have z:=H.pt i hi
  simp +contextual (disch:=omega) only[go_sem,Kc,A3 z]
  refine A9 (A3y U t p ht) ?_
  cases bad with
  |true=>
   obtain⟨N,e,H1,_⟩:=H.st i hi 1 2 (.bool true) rfl (by decide) (by simp)
   cases hv:Bo t p with
   |none=>
    simp +contextual (disch:=omega) only[go_sem,rsG,A3 z,e]
    exact⟨_,rfl,rfl,H1⟩
   |some r=>
    obtain⟨n,q⟩:=r
    simp +contextual (disch:=omega) only[go_sem,rsG,A3 z,e]
    exact⟨_,rfl,rfl,H1⟩
  |false=>
   cases hv:Bo t p with
   |none=>
    obtain⟨N,e,H1,_⟩:=H.st i hi 1 2 (.bool true) rfl (by decide) (by simp)
    simp +contextual (disch:=omega) only[go_sem,rsG,A3 z,e]
    exact⟨_,rfl,rfl,H1⟩
   |some r=>
    obtain⟨n,q⟩:=r
    obtain⟨N,e,H1,_⟩:=H.st i hi 1 1 (gi q) rfl (by decide) (by simp)
    simp +contextual (disch:=omega) only[go_sem,rsG,A3 z,e]
    exact⟨_,rfl,rfl,H1⟩
 obtain⟨r,N,R,rfl,H⟩:=key
 exact⟨N,R,H⟩
def T1:Fn1:=⟨60,[.c 2 true 3,.t 3],(rg [o 2 (.new [z0,s0,s0]),oV 3 kf] (rg [oM 15 0,o 16 (.call 126 [(.t 15),(ki 0)]),oM 14 16,o 17 (.ext 0 (.t 14)),o 18 (.ext 1 (.t 14)),o 19 (.ext 2 (.t 14)),oM 4 17,oM 5 18,oM 6 19] (.seq (rg [oM 20 6,oU 21 20] (oG 21 (rg [o 22 (.build [z0,s0,s0] []),oS 3 2 22,oV 3 kf] .ret))) (rg [oM 24 0,oM 25 5,oD 26 127 24 25,oM 23 26,o 27 (.ext 0 (.t 23)),o 28 (.ext 1 (.t 23)),o 29 (.ext 2 (.t 23)),oM 7 27,oM 8 28,oM 9 29] (.seq (rg [oM 30 9,oU 31 30] (oG 31 (rg [o 32 (.build [z0,s0,s0] []),oS 3 2 32,oV 3 kf] .ret))) (rg [oM 34 0,oM 35 8,oD 36 127 34 35,oM 33 36,o 37 (.ext 0 (.t 33)),o 38 (.ext 1 (.t 33)),o 39 (.ext 2 (.t 33)),oM 10 37,oM 11 38,oM 12 39] (rg [oM 40 4,oM 41 7,oM 42 10,o 43 (.build [z0,s0,s0] [(0,1,(.t 40)),(1,1,(.t 41)),(2,1,(.t 42))]),o 13 (.new [z0,s0,s0]),oS 3 13 43] (.seq (rg [oM 44 12,oU 45 44,oM 46 45,vM 47 46 11,vM 48 46 0,og 49 46 false (.len true (.t 48)),vB 50 46 .neq 47 49,oP 51 46 50,oM 52 51,vW 53 52 3 13,vC 54 52 48 53,vM 55 52 0,vB 56 52 .neq 54 55,oP 57 52 56] (oG 57 (rg [o 58 (.build [z0,s0,s0] []),oS 3 2 58,oV 3 kf] .ret))) (rg [oW 59 3 13,oS 3 2 59,oV 3 kt] .ret)))))))))⟩
theorem A4x:A6 Tryz.prog 45=some T1:=by kernel_rfl
def T3:Fn1:=⟨36,[.c 2 true 3,.t 3],(rg [o 2 (.new [z0,s0,s0]),oV 3 kf] (rg [oM 6 0,o 7 (.build [s0,z0,(.bool false)] [(0,1,(.t 6))]),oX 8 7,oM 4 8] (rg [o 9 (.build [z0,s0,s0] []),o 5 (.new [z0,s0,s0]),oS 3 5 9] (rg [oM 10 4,oC 11 110 10,oF 12 0 5,oS 1 12 11] (rg [oM 13 4,oC 14 111 13,oF 15 1 5,oS 1 15 14] (rg [oM 16 4,oC 17 111 16,oF 18 2 5,oS 1 18 17] (.seq (rg [oM 19 4,oK 20 19,oF 21 2 20,oL 22 21,oM 23 22,vW 24 23 3 5,vC 25 23 33 24,vU 26 23 25,oP 27 23 26,oM 28 27,vW 29 28 3 5,vC 30 28 35 29,vM 31 28 0,vB 32 28 .neq 30 31,oP 33 28 32] (oG 33 (rg [o 34 (.build [z0,s0,s0] []),oS 3 2 34,oV 3 kf] .ret))) (rg [oW 35 3 5,oS 3 2 35,oV 3 kt] .ret))))))))⟩
theorem A4y:A6 Tryz.prog 34=some T3:=by kernel_rfl
def rwG:Option Watch->GV
 |none=>.tup [.agg [gi 0,.str ⟨#[]⟩,.str ⟨#[]⟩],.bool false]
 |some w=>.tup [.agg [gi w.kind,.str w.obj,.str w.key],.bool true]
theorem Amp (m:Nat) (r:Option Watch):vLt m (rwG r):=by
 cases r with
 |none=>intro v hv;simp at hv;rcases hv with rfl|rfl<;>simp[cLt,sLt]
 |some q=>intro v hv;simp at hv;rcases hv with rfl|rfl<;>simp[cLt,sLt]
theorem Xv {t:ByteArray} {p:Nat} (h:p<=t.size):B6 t p=Dv t p:=by
 unfold B6
 rw[if_pos (Bn.2 (by omega))];rfl
theorem Gf {t:ByteArray} {p:Nat} (h:p<=t.size):Bo t p=Cj t p:=by
 unfold Bo
 rw[if_pos (Bn.2 (by omega))];rfl
theorem A40 (U:St) (t:ByteArray) (ht:t.size<=1099511627776):Ret Tryz.prog 45 [.str t] U (rwG (Jz t)) U:=by
 refine Ae A4x (Z0z rfl) (Amp _ _) ?_
 simp +contextual (disch:=omega) only[go_sem,T1]
 refine A9 (Sw _ t 0 ht) ?_
 have e0:B6 t 0=Dv t 0:=Xv (p:=0) (Zbe _)
 rw[e0]
 unfold Jz
 cases h1:Dv t 0 with
 |none=>
  simp +contextual (disch:=omega) only[go_sem,rvG,Zao]
  simp[rwG,tup2,Al]
 |some r1=>
  obtain⟨k,a⟩:=r1
  obtain⟨k1,k2,k3,k4,k5⟩:=F0 h1
  simp +contextual (disch:=omega) only[go_sem,rvG,Zad]
  refine A9 (O5 _ t a ht) ?_
  rw[Gf k4]
  cases h2:Cj t a with
  |none=>
   simp +contextual (disch:=omega) only[go_sem,rsG,Zao]
   simp[rwG,tup2,Al]
  |some r2=>
   obtain⟨o,b⟩:=r2
   obtain⟨o1,o2,o3,o4⟩:=Dc h2
   simp +contextual (disch:=omega) only[go_sem,rsG,Zad]
   refine A9 (O5 _ t b ht) ?_
   rw[Gf o3]
   cases h3:Cj t b with
   |none=>
    simp +contextual (disch:=omega) only[go_sem,rsG,Zao]
    simp[rwG,tup2,Al]
   |some r3=>
    obtain⟨y,c⟩:=r3
    obtain⟨y1,y2,y3,y4⟩:=Dc h3
    by_cases hc:c=t.size
    ·have d1:((c:Int) != (t.size:Int))=false:=by rw[hc];simp
     simp +contextual (disch:=omega) only[go_sem,rsG,Zad,d1]
     refine A9 (Ia _ ⟨k,o,y⟩ (by unfold Bm;simp only;omega)) ?_
     by_cases hw:Cn ⟨k,o,y⟩=t
     ·have d2:decide (Cn ⟨k,o,y⟩=t)=true:=decide_eq_true hw
      simp +contextual (disch:=omega) only[go_sem,d2]
      rw[if_pos hw]
      simp[rwG,tup2,Al]
     ·have d2:decide (Cn ⟨k,o,y⟩=t)=false:=decide_eq_false hw
      simp +contextual (disch:=omega) only[go_sem,d2]
      rw[if_neg hw]
      simp[rwG,tup2,Al]
    ·have d1:((c:Int) != (t.size:Int))=true:=by simp;omega
     have hw:¬ Cn ⟨k,o,y⟩=t:=fun e=>hc (Sp h1 h2 h3 e).2
     simp +contextual (disch:=omega) only[go_sem,rsG,Zad,d1]
     rw[if_neg hw]
     simp[rwG,tup2,Al]
theorem A41 (U:St) (t:ByteArray) (ht:t.size<=1099511627776):Ret Tryz.prog 34 [.str t] U (rwG (Jz t)) U:=by
 refine Ae A4y (Z0z rfl) (Amp _ _) ?_
 have H:=(((Hp.refl U).new 1 [gi 0,.str ⟨#[]⟩,.str ⟨#[]⟩]).new 1 [.str t,gi 0,.bool false]).new 1 [gi 0,.str ⟨#[]⟩,.str ⟨#[]⟩]
 simp +contextual (disch:=omega) only[go_sem,T3]
 obtain⟨N1,R1,H1⟩:=A3z H 1 rfl ht
 have e0:B6 t 0=Dv t 0:=Xv (p:=0) (Zbe _)
 rw[e0] at H1 R1
 refine Am R1 ?_
 simp only[Zba,if_false,Za2,Zac,Zab] at H1 ⊢
 generalize hb4:(U++[some (Blk.row 1 [gi 0,GV.str ⟨#[]⟩,GV.str ⟨#[]⟩])]).length=b4 at*
 generalize hb5:(U++[some (Blk.row 1 [gi 0,GV.str ⟨#[]⟩,GV.str ⟨#[]⟩])]++[some (Blk.row 1 [GV.str t,gi 0,GV.bool false])]).length=b5 at*
 generalize hb2:U.length=b2 at*
 unfold Jz
 cases h1:Dv t 0 with
 |none=>
  rw[h1] at H1
  simp only[Zbb] at H1
  obtain⟨N2,e2,H2,_⟩:=H1.st 0 rfl 1 0 (gi 0) rfl (by decide) (by simp)
  simp only[Zac,Zab,Av,Au,B4,GV.cells,Zak,Zae,Zah] at H2
  simp +contextual (disch:=omega) only[go_sem,e2]
  obtain⟨N3,R3,H3⟩:=Eg H2 1 rfl ht
  refine Am R3 ?_
  simp only[if_true,Zay,Zac,Zab] at H3 ⊢
  obtain⟨N4,e4,H4,_⟩:=H3.st 0 rfl 1 1 (.str ⟨#[]⟩) rfl (by decide) (by simp)
  simp only[Zac,Zab,Av,Au,B4,GV.cells,Zak,Zae,Zah] at H4
  simp +contextual (disch:=omega) only[go_sem,e4]
  obtain⟨N5,R5,H5⟩:=Eg H4 1 rfl ht
  refine Am R5 ?_
  simp only[if_true,Zay,Zac,Zab] at H5 ⊢
  obtain⟨N6,e6,H6,_⟩:=H5.st 0 rfl 1 2 (.str ⟨#[]⟩) rfl (by decide) (by simp)
  simp only[Zac,Zab,Av,Au,B4,GV.cells,Zak,Zae,Zah] at H6
  obtain⟨N7,e7,H7,_⟩:=H6.st 2 rfl 3 0 (.agg [gi 0,.str ⟨#[]⟩,.str ⟨#[]⟩]) rfl (by decide) (by simp)
  simp only[Zac,Zab,Av,Au,B4,GV.cells,Zak,Zae,Zah] at H7
  simp +contextual (disch:=omega) only[go_sem,e6,A3 (H6.pt 1 rfl),e7,A3 (H7.pt 2 rfl)]
  refine⟨by simp[rwG,tup2,Al],H7.sub⟩
 |some r1=>
  obtain⟨k,a⟩:=r1
  obtain⟨k1,k2,k3,k4,k5⟩:=F0 h1
  rw[h1] at H1
  simp only[Zbc] at H1
  obtain⟨N2,e2,H2,_⟩:=H1.st 0 rfl 1 0 (gi k) rfl (by decide) (by simp)
  simp only[Zac,Zab,Av,Au,B4,GV.cells,Zak,Zae,Zah] at H2
  simp +contextual (disch:=omega) only[go_sem,e2]
  obtain⟨N3,R3,H3⟩:=Eg H2 1 rfl ht
  rw[Gf k4] at R3 H3
  refine Am R3 ?_
  simp only[Zba,if_false,Za2,Zac,Zab] at H3 ⊢
  cases h2:Cj t a with
  |none=>
   rw[h2] at H3
   simp only[Zbb] at H3
   obtain⟨N4,e4,H4,_⟩:=H3.st 0 rfl 1 1 (.str ⟨#[]⟩) rfl (by decide) (by simp)
   simp only[Zac,Zab,Av,Au,B4,GV.cells,Zak,Zae,Zah] at H4
   simp +contextual (disch:=omega) only[go_sem,e4]
   obtain⟨N5,R5,H5⟩:=Eg H4 1 rfl ht
   refine Am R5 ?_
   simp only[if_true,Zay,Zac,Zab] at H5 ⊢
   obtain⟨N6,e6,H6,_⟩:=H5.st 0 rfl 1 2 (.str ⟨#[]⟩) rfl (by decide) (by simp)
   simp only[Zac,Zab,Av,Au,B4,GV.cells,Zak,Zae,Zah] at H6
   obtain⟨N7,e7,H7,_⟩:=H6.st 2 rfl 3 0 (.agg [gi 0,.str ⟨#[]⟩,.str ⟨#[]⟩]) rfl (by decide) (by simp)
   simp only[Zac,Zab,Av,Au,B4,GV.cells,Zak,Zae,Zah] at H7
   simp +contextual (disch:=omega) only[go_sem,e6,A3 (H6.pt 1 rfl),e7,A3 (H7.pt 2 rfl),Zao]
   refine⟨by simp[rwG,tup2,Al],H7.sub⟩
  |some r2=>
   obtain⟨o,b⟩:=r2
   obtain⟨o1,o2,o3,o4⟩:=Dc h2
   rw[h2] at H3
   simp only[Zbc] at H3
   obtain⟨N4,e4,H4,_⟩:=H3.st 0 rfl 1 1 (.str o) rfl (by decide) (by simp)
   simp only[Zac,Zab,Av,Au,B4,GV.cells,Zak,Zae,Zah] at H4
   simp +contextual (disch:=omega) only[go_sem,e4]
   obtain⟨N5,R5,H5⟩:=Eg H4 1 rfl ht
   rw[Gf o3] at R5 H5
   refine Am R5 ?_
   simp only[Zba,if_false,Za2,Zac,Zab] at H5 ⊢
   cases h3:Cj t b with
   |none=>
    rw[h3] at H5
    simp only[Zbb] at H5
    obtain⟨N6,e6,H6,_⟩:=H5.st 0 rfl 1 2 (.str ⟨#[]⟩) rfl (by decide) (by simp)
    simp only[Zac,Zab,Av,Au,B4,GV.cells,Zak,Zae,Zah] at H6
    obtain⟨N7,e7,H7,_⟩:=H6.st 2 rfl 3 0 (.agg [gi 0,.str ⟨#[]⟩,.str ⟨#[]⟩]) rfl (by decide) (by simp)
    simp only[Zac,Zab,Av,Au,B4,GV.cells,Zak,Zae,Zah] at H7
    simp +contextual (disch:=omega) only[go_sem,e6,A3 (H6.pt 1 rfl),e7,A3 (H7.pt 2 rfl),Zao,Zad]
    refine⟨by simp[rwG,tup2,Al],H7.sub⟩
   |some r3=>
    obtain⟨y,c⟩:=r3
    obtain⟨y1,y2,y3,y4⟩:=Dc h3
    rw[h3] at H5
    simp only[Zbc] at H5
    obtain⟨N6,e6,H6,_⟩:=H5.st 0 rfl 1 2 (.str y) rfl (by decide) (by simp)
    simp only[Zac,Zab,Av,Au,B4,GV.cells,Zak,Zae,Zah] at H6
    have z5:rdB N6 b5=some [gi k,.str o,.str y]:=H6.pt 0 rfl
    have hms:Bm ⟨k,o,y⟩<=1099511627776:=by unfold Bm;simp only;omega
    simp +contextual (disch:=omega) only[go_sem,e6,A3 (H6.pt 1 rfl),A3 z5]
    obtain⟨N7,e7,H7,_⟩:=H6.st 2 rfl 3 0 (.agg [gi 0,.str ⟨#[]⟩,.str ⟨#[]⟩]) rfl (by decide) (by simp)
    simp only[Zac,Zab,Av,Au,B4,GV.cells,Zak,Zae,Zah] at H7
    refine Ac (Ho _ ⟨k,o,y⟩ (by simp only;omega) (by simp only;omega)) (fun hok=> ?_) (fun hok=> ?_)
    rotate_left
    ·have hw:¬ Cn ⟨k,o,y⟩=t:=fun e=>by
      have:=(Sp h1 h2 h3 e).1
      rw[hok] at this;cases this
     simp +contextual (disch:=omega) only[go_sem,e7,A3 (H7.pt 2 rfl),Zad]
     rw[if_neg hw]
     refine⟨by simp[rwG,tup2,Al],H7.sub⟩
    simp +contextual (disch:=omega) only[go_sem,A3 z5]
    refine A9 (Mx _ ⟨k,o,y⟩ hms) ?_
    by_cases hw:Cn ⟨k,o,y⟩=t
    ·have d2:decide (Cn ⟨k,o,y⟩=t)=true:=decide_eq_true hw
     obtain⟨N8,e8,H8,_⟩:=H6.st 2 rfl 3 0 (.agg [gi k,.str o,.str y]) rfl (by decide) (by simp)
     simp only[Zac,Zab,Av,Au,B4,GV.cells,Zak,Zae,Zah] at H8
     simp +contextual (disch:=omega) only[go_sem,d2,A3 z5,e8,A3 (H8.pt 2 rfl),Zad]
     rw[if_pos hw]
     refine⟨by simp[rwG,tup2,Al],H8.sub⟩
    ·have d2:decide (Cn ⟨k,o,y⟩=t)=false:=decide_eq_false hw
     simp +contextual (disch:=omega) only[go_sem,d2,e7,A3 (H7.pt 2 rfl),Zad]
     rw[if_neg hw]
     refine⟨by simp[rwG,tup2,Al],H7.sub⟩
end Go.Proofs.YtnknigikcdgebaaGreatDoor.Sy
