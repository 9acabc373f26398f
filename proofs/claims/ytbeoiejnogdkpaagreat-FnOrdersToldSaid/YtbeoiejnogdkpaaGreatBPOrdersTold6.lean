/- Texts of this proof, one behind the other. -/
import Derived.Test.YtbeoiejnogdkpaaGreatBPOrdersTold5
import Derived.Test.YtbeoiejnogdkpaaGreatProg
import Derived.KernelRfl
set_option linter.unusedSimpArgs false
set_option linter.unusedVariables false
set_option maxRecDepth 4000
set_option maxHeartbeats 4000000
open Nat renaming lt_or_ge→Zaa,le_refl→Zae,lt_trichotomy→Zap,min_eq_right→Zau,min_eq_left→Zaw,mul_le_mul_left→Za6,dvd_refl→Za9,dvd_add→Zbf
open List renaming getElem?_append_right→Zab,append_assoc→Zac,getElem_mem→Zad,getElem?_append_left→Zaf,length_singleton→Zag,length_map→Zah,filter_cons→Zai,length_append→Zaj,filter_append→Zak,pairwise_cons→Zal,getElem?_eq_getElem→Zam,take_length→Zan,mem_cons→Zao,getElem?_take_of_lt→Zaq,length_nil→Zar,flatten_cons→Zas,mem_map→Zat,getElem_of_mem→Zav,getElem?_drop→Zax,mem_or_eq_of_mem_set→Zay,exists_mem_of_ne_nil→Zaz,not_mem_nil→Za0,getElem?_set_self→Za1,take_append_drop→Za2,mem_filter→Za3,getElem?_set_ne→Za4,length_zipWith→Za5,mem_singleton→Za7,length_take→Zba,length_set→Zbc,mem_append→Zbd,foldl_cons→Zbe,take_add→Zbh,map_cons→Zbi
open Bool renaming not_eq_true'→Za8,and_eq_true→Zbb,and_self→Zbg
open Option renaming some→Zbj
namespace Go.Proofs.YtbeoiejnogdkpaaGreat.Sy
open Go Go.RowKit
def A1s:Fn1:=⟨21,[.c 2 true 6],(rg [o 2 (.new [.nilS,.nilS,.nilS,.nilS,.nilS,.nilS])] (rg [oM 9 0,oC 10 363 9,oM 8 10,o 11 (.ext 0 (.t 8)),o 12 (.ext 1 (.t 8)),o 13 (.ext 2 (.t 8)),o 3 (.new [.nilS,.nilS,.nilS,.nilS]),o 4 (.new [.nilS,.nilS,.nilS,.nilS]),o 5 (.new [.nilS,.nilS,.nilS,.nilS]),oS 4 3 11,oS 4 4 12,oS 4 5 13] (rg [oW 15 4 3,oW 16 4 4,oD 17 123 15 16,oM 14 17,o 18 (.ext 0 (.t 14)),o 19 (.ext 1 (.t 14)),o 6 (.new [.nilS,.nilS,.nilS,.nilS,.nilS,.nilS]),oS 6 6 18,oM 7 19] (rg [oW 20 6 6,oS 6 2 20] .ret))))⟩
theorem Ac2:A8 Tryz.prog 297=some A1s:=by kernel_rfl
def A9i:Fn1:=⟨69,[.c 2 true 6],(rg [o 2 (.new [.nilS,.nilS,.nilS,.nilS,.nilS,.nilS])] (rg [oM 6 0,o 7 (.call 163 [(.t 6),(ki 12)]),oM 3 7] (rg [oM 8 0,o 9 (.call 163 [(.t 8),(ki 60)]),oM 4 9] (rg [oM 10 0,oC 11 297 10,oC 12 223 11,o 5 (.new [.nilS,.nilS,.nilS,.nilS,.nilS,.nilS]),oS 6 5 12] (.seq (rg [oM 13 3] (.blk 0 (rg [oE 15 .eql 13 0,oM 14 15] (cn 14 (.reg [oM 16 4,oE 17 .rem 16 4,oM 18 4,oE 19 .rem 18 3,oM 20 4,oE 21 .rem 20 5,o 22 (.lit 1 3 [z0,z0,z0] [(0,1,(.t 17)),(1,1,(.t 19)),(2,1,(.t 21))]),oF 23 1 5,oS 1 23 22]) (rg [oE 25 .eql 13 1,oM 24 25] (cn 24 (.reg [oF 26 4 5,oL 27 26,oM 28 4,oE 29 .rem 28 4,oM 30 4,oE 31 .rem 30 5,o 32 (.build [z0,z0] [(0,1,(.t 29)),(1,1,(.t 31))]),o 33 (.lit 2 1 [z0,z0] [(0,2,(.t 32))]),o 34 (.app 2 16 [z0,z0] (.t 27) (.t 33)),oF 35 4 5,oS 1 35 34]) (rg [oE 37 .eql 13 2,oM 36 37] (cn 36 (.reg [oF 38 3 5,oL 39 38,oM 40 4,oE 41 .rem 40 6,o 42 (.build [z0,z0] [(0,1,(ki 2)),(1,1,(.t 41))]),o 43 (.build [(.bool false),s0,s0,z0,z0,z0] [(1,1,(.k (.str ⟨#[97]⟩))),(2,1,(.k (.str ⟨#[120]⟩))),(4,2,(.t 42))]),o 44 (.lit 6 1 [(.bool false),s0,s0,z0,z0,z0] [(0,6,(.t 43))]),o 45 (.app 6 64 [(.bool false),s0,s0,z0,z0,z0] (.t 39) (.t 44)),oF 46 3 5,oS 1 46 45]) (rg [oE 48 .eql 13 3,oM 47 48] (cn 47 (.reg [o 49 (.lit 1 0 [] []),oF 50 0 5,oS 1 50 49]) (rg [oE 52 .eql 13 4,oM 51 52] (oG 51 (.reg [oF 53 5 5,oL 54 53,oM 55 4,oE 56 .rem 55 5,o 57 (.bin .add (ki 1) (.t 56)),o 58 (.build [z0,z0] [(0,1,(ki 2)),(1,1,(.t 57))]),oM 59 4,oE 60 .rem 59 4,oM 61 4,oE 62 .rem 61 3,o 63 (.build [z0,z0] [(0,1,(ki 1)),(1,1,(.t 62))]),o 64 (.build [s0,z0,z0,z0,z0,z0,z0,(.bool false)] [(0,1,(.k (.str ⟨#[97]⟩))),(1,2,(.t 58)),(3,1,(.t 60)),(4,2,(.t 63))]),o 65 (.lit 8 1 [s0,z0,z0,z0,z0,z0,z0,(.bool false)] [(0,8,(.t 64))]),o 66 (.app 8 72 [s0,z0,z0,z0,z0,z0,z0,(.bool false)] (.t 54) (.t 65)),oF 67 5 5,oS 1 67 66]))))))))))))) (rg [oW 68 6 5,oS 6 2 68] .ret))))))⟩
theorem Ain:A8 Tryz.prog 296=some A9i:=by kernel_rfl
def S4:Fn1:=⟨18,[.c 2 true 17],(rg [o 2 (.new [(.bool false),z0,z0,z0,.nilS,z0,s0,s0,z0,z0,z0,.nilS,.nilS,.nilS,.nilS,.nilS,.nilS])] (.seq (rg [oM 4 0,o 5 (.call 202 [(.t 4),(ki 3)])] (oG 5 (rg [oM 6 0,oC 7 296 6,o 8 (.build [(.bool false),z0,z0,z0,.nilS,z0,s0,s0,z0,z0,z0,.nilS,.nilS,.nilS,.nilS,.nilS,.nilS] [(0,1,kt),(11,6,(.t 7))]),oS 17 2 8] .ret))) (rg [oM 9 0,oC 10 175 9,o 11 (.build [(.bool false),z0,z0,z0,.nilS,z0,s0,s0,z0,z0,z0,.nilS,.nilS,.nilS,.nilS,.nilS,.nilS] [(1,10,(.t 10))]),o 3 (.new [(.bool false),z0,z0,z0,.nilS,z0,s0,s0,z0,z0,z0,.nilS,.nilS,.nilS,.nilS,.nilS,.nilS]),oS 17 3 11] (.seq (rg [oM 12 0,o 13 (.call 202 [(.t 12),(ki 12)])] (oG 13 (.reg [oM 14 0,oC 15 297 14,oF 16 11 3,oS 6 16 15]))) (rg [oW 17 17 3,oS 17 2 17] .ret)))))⟩
theorem A6d:A8 Tryz.prog 205=some S4:=by kernel_rfl
def S5:Fn1:=⟨27,[.t 2,.t 3],(rg [o 2 (.mov (.k .nilS)),oV 3 (ki 0)] (rg [oM 8 0,oC 9 161 8,oM 4 9] (rg [oM 10 4,o 11 (.call 163 [(.t 10),(ki 5)]),oE 12 .sub 11 1,oM 5 12] (rg [oM 13 4,oC 14 203 13,o 6 (.new [z0,z0,.nilS,.nilS,.nilS,.nilS,.nilS,.nilS]),oS 8 6 14] (rg [oF 15 6 6,oL 16 15,oC 17 204 16,oM 7 17] (.seq (rg [oM 18 4,o 19 (.call 202 [(.t 18),(ki 4)])] (oG 19 (.reg [oM 20 7,oM 21 4,oC 22 205 21,o 23 (.lit 17 1 [(.bool false),z0,z0,z0,.nilS,z0,s0,s0,z0,z0,z0,.nilS,.nilS,.nilS,.nilS,.nilS,.nilS] [(0,17,(.t 22))]),o 24 (.app 17 264 [(.bool false),z0,z0,z0,.nilS,z0,s0,s0,z0,z0,z0,.nilS,.nilS,.nilS,.nilS,.nilS,.nilS] (.t 20) (.t 23)),oM 7 24]))) (rg [oM 25 7,oM 26 5,oM 2 25,oM 3 26] .ret)))))))⟩
theorem A6e:A8 Tryz.prog 75=some S5:=by kernel_rfl
theorem Alk (a b:State):Au (Lo a b).1<=Ad a+2*Ad b:=by
 unfold Lo
 split
 ·exact ms_dif a b
 ·simp only[Au,sumL,List.map_nil,List.sum_nil,Zar];omega
section
variable {N0 N:St} {h:List Item} {c v:GV} {bs:List Int}
theorem Hx.ownD {U:St} {v0 v1 v2 v3 v4 v5:GV} {ba kn:List Int} {tl:List Tally} {lv:List Live} {dd:List Dot} {cl:List Cell} {b2:List GV} {n2:Nat} (H:Hx N0 U (.th (ow pI.kd v0 ba)::.th (ow pI.kd v1 kn)::.th (ow Ah.kd v2 tl)::.th (ow Ap.kd v3 lv)::.th (ow pDot.kd v4 dd)::.th (ow Ai.kd v5 cl)::.box 1 n2 b2::h)):Hx N0 U (.th (own Aw [v0,v1,v2,v3,v4,v5] ⟨ba,kn,tl,lv,dd,cl⟩)::h):=Hp.ownDelta (x:=⟨ba,kn,tl,lv,dd,cl⟩) (H.era 6).hp
theorem A1t (H:Hx N0 N h) (k:Nat) (hk:h[k]? =some (cuI c v bs)) (D:Dr N0 v bs):∃(ds:List GV) (d:Delta) (U:St),Au d<=15000/\Ret Tryz.prog 297 [c] N (.agg ds) U/\Hx N0 U (.th (own Aw ds d)::h):=by
 have key:∃ w U,Ret Tryz.prog 297 [c] N w U/\∃ ds d,w= .agg ds/\Au d<=15000/\Hx N0 U (.th (own Aw ds d)::h):=by
  refine Bg Ac2 (Z0z rfl) H ?_
  simp only[go_sem,A1s]
  intro n2 f2 U2 H2
  have g2:=Av (h:=h) f2
  obtain⟨cb,ca,cd,b0,a,d,U3,hg,hga,hgd,R3,H3⟩:=Alj H2 (k+1) hk D
  have hb0:=hg.ok A8y
  have m1:=hb0.ms
  have m2:=(hga.ok hb0).ms
  have gb:cb.length=4:=A4.len (H3.hp.shs_rd 0 rfl (y:=(cb,b0)) (by simp))
  have ga:ca.length=4:=A4.len (H3.hp.shs_rd 0 rfl (y:=(ca,a)) (by simp))
  have gd:cd.length=4:=A4.len (H3.hp.shs_rd 0 rfl (y:=(cd,d)) (by simp))
  refine by_k R3 H3 ?_
  have x2:extG 2 (GV.tup [GV.agg cb,GV.agg ca,GV.agg cd])=some (.agg cd):=rfl
  simp +contextual (disch:=omega) only[go_sem,x2,A5 (cs:=z4) gb rfl,A5 (cs:=z4) ga rfl,A5 (cs:=z4) gd rfl,gb,ga,gd]
  intro n3 f3 U30 _ n4 f4 U31 _ n5 f5 U32 _ U33 _ U34 _ U6 H6
  have g3:=Av (h:=h) f3.2
  have g4:=Av (h:=h) f4.2.2
  have g5:=Av (h:=h) f5.2.2.2
  have ne54:=f5.1
  have ne53:=f5.2.1
  have ne43:=f4.1
  try simp(disch:=omega) only[go_sem,A6 gb,A6 ga,A6 gd]
  obtain⟨r,U7,R7,K7⟩:=Ac1 U6 cb b0 (H6.hp.shs_rd 3 rfl (y:=(cb,b0)) (by simp)) ca a (H6.hp.shs_rd 3 rfl (y:=(ca,a)) (by simp)) (by omega) (by omega)
  have gr:r.length=6:=Aw.len (K7.rd 0 rfl)
  refine by_c H6 R7 K7 fun H7=> ?_
  simp +contextual (disch:=omega) only[go_sem,A5 (cs:=z6') gr rfl,gr]
  intro n8 f8 U80 _ U8 H8
  try simp +contextual (disch:=omega) only[go_sem,A5 (cs:=z6') gr rfl,gr,A6 gr]
  intro U9 H9
  have hms:=Alk b0 a
  exact⟨_,rfl,r,_,rfl,by omega,(((((H9.era 6).era 5).era 4).era 3).era 2).era 0⟩
 obtain⟨w,U,R,ds,d,rfl,h1,h2⟩:=key
 exact⟨ds,d,U,h1,R,h2⟩
theorem Alm (H:Hx N0 N h) (k:Nat) (hk:h[k]? =some (cuI c v bs)) (D:Dr N0 v bs):∃(ds:List GV) (d:Delta) (U:St),Au d<=20000/\Ret Tryz.prog 296 [c] N (.agg ds) U/\Hx N0 U (.th (own Aw ds d)::h):=by
 have key:∃ w U,Ret Tryz.prog 296 [c] N w U/\∃ ds d,w= .agg ds/\Au d<=20000/\Hx N0 U (.th (own Aw ds d)::h):=by
  refine Bg Ain (Z0z rfl) H ?_
  simp only[go_sem,A9i]
  intro n2 f2 U2 H2
  have g2:=Av (h:=h) f2
  obtain⟨x,U3,hx,R3,H3⟩:=Bn H2 (k+1) hk D 12 (by decide) (by decide)
  refine by_k R3 H3 ?_
  simp only[go_sem]
  obtain⟨y,U4,hy,R4,H4⟩:=Bn H3 (k+1) hk D 60 (by decide) (by decide)
  refine by_k R4 H4 ?_
  simp only[go_sem]
  obtain⟨os,d,U5,hms,R5,H5⟩:=A1t H4 (k+1) hk D
  refine by_k R5 H5 ?_
  simp only[go_sem]
  obtain⟨ds,U6,R6,K6⟩:=Xb U5 os d (H5.hp.rd 0 rfl) (by omega)
  have H6:Hx N0 U6 (.th (own Aw ds d)::.box 1 n2 z6'::h):=Hx.era (h:=.th (own Aw ds d)::.th (own Aw os d)::.box 1 n2 z6'::h) (H5.hp.add K6) 1
  obtain⟨v0,v1,v2,v3,v4,v5,rfl,HS⟩:=Hp.splitDelta H6.hp
  have HS:Hx N0 U6 (.th (ow pI.kd v0 d.base)::.th (ow pI.kd v1 d.know)::.th (ow Ah.kd v2 d.tallies)::.th (ow Ap.kd v3 d.lives)::.th (ow pDot.kd v4 d.dead)::.th (ow Ai.kd v5 d.cells)::.box 1 n2 z6'::h):=HS
  refine by_m R6 HS ?_
  have k0:=(HS.hp.sl 0 rfl).cell
  have k1:=(HS.hp.sl 1 rfl).cell
  have k2:=(HS.hp.sl 2 rfl).cell
  have k3:=(HS.hp.sl 3 rfl).cell
  have k4:=(HS.hp.sl 4 rfl).cell
  have k5:=(HS.hp.sl 5 rfl).cell
  clear K6 R6 R5 H5 H6 R4 R3 H4 H3 H2
  have m2:¬ ((2:Int)=0):=by decide
  have m3:¬ ((3:Int)=0):=by decide
  have m4:¬ ((4:Int)=0):=by decide
  have m5:¬ ((5:Int)=0):=by decide
  have m6:¬ ((6:Int)=0):=by decide
  simp only[go_sem,k0,k1,k2,k3,k4,k5]
  intro n5 f5 U7 _ U8 H8
  have g5:=Av (h:=h) f5.2
  have ne25:=f5.1
  clear HS f5 f2
  have hm:=hms
  unfold Au at hm
  by_cases hx0:x=0
  ·have c0:((x:Int)==0)=true:=by simp[hx0]
   obtain⟨q3,hq3⟩:∃ q,q=(y:Int).tmod 3:=⟨_,rfl⟩
   obtain⟨q4,hq4⟩:∃ q,q=(y:Int).tmod 4:=⟨_,rfl⟩
   obtain⟨q5,hq5⟩:∃ q,q=(y:Int).tmod 5:=⟨_,rfl⟩
   simp +contextual (disch:=omega) only[go_sem,c0,k0,k1,k2,k3,k4,k5,m3,m4,m5,<-hq3,<-hq4,<-hq5]
   intro n20 f20 U9 _ U10 _ U11 H11
   have ne20:=f20.1
   have H12:Hx N0 U11 (.th (ow pI.kd (.sl n20 0 3) [q4,q3,q5])::.box 1 n5 [v0,.sl n20 0 3,v2,v3,v4,v5]::.th (ow pI.kd v0 d.base)::.th (ow pI.kd v1 d.know)::.th (ow Ah.kd v2 d.tallies)::.th (ow Ap.kd v3 d.lives)::.th (ow pDot.kd v4 d.dead)::.th (ow Ai.kd v5 d.cells)::.box 1 n2 [v0,.sl n20 0 3,v2,v3,v4,v5]::h):=Hp.toRow (p:=pI) H11.hp 0 rfl [q4,q3,q5] rfl rfl _ rfl
   refine⟨_,rfl,_,_,rfl,?_,((((H12.era 3).fst 2 rfl).era 2)).ownD⟩
   simp only[Au,List.length_cons,Zar];omega
  have c0:((x:Int)==0)=false:=by simp;omega
  by_cases hx1:x=1
  ·have c1:((x:Int)==1)=true:=by simp[hx1]
   obtain⟨q4,hq4⟩:∃ q,q=(y:Int).tmod 4:=⟨_,rfl⟩
   obtain⟨q5,hq5⟩:∃ q,q=(y:Int).tmod 5:=⟨_,rfl⟩
   simp(disch:=omega) only[go_sem,c0,c1,k0,k1,k2,k3,k4,k5,m3,m4,m5,<-hq4,<-hq5]
   intro n20 f20 U9 H9
   have ne20:=f20.1
   refine E8 (p:=pDot) H9 6 rfl ⟨q4,q5⟩ Be (by decide) (by omega) fun v' U10 H10=> ?_
   have cv:=(H10.hp.sl 6 rfl).cell
   simp +contextual (disch:=omega) only[go_sem,c0,c1,k0,k1,k2,k3,k5,cv]
   intro U11 _ U12 H12
   refine⟨_,rfl,_,_,rfl,?_,H12.tl.tl.ownD⟩
   simp only[Au,Zaj,Zag];omega
  have c1:((x:Int)==1)=false:=by simp;omega
  by_cases hx2:x=2
  ·have c2:((x:Int)==2)=true:=by simp[hx2]
   obtain⟨q6,hq6⟩:∃ q,q=(y:Int).tmod 6:=⟨_,rfl⟩
   simp(disch:=omega) only[go_sem,c0,c1,c2,k0,k1,k2,k3,k4,k5,m6,<-hq6]
   intro n20 f20 U9 H9
   have ne20:=f20.1
   refine E8 (p:=Ap) H9 5 rfl ⟨false,⟨#[97]⟩,⟨#[120]⟩,0,⟨2,q6⟩⟩ Be (by decide) (by omega) fun v' U10 H10=> ?_
   have cv:=(H10.hp.sl 5 rfl).cell
   simp +contextual (disch:=omega) only[go_sem,c0,c1,c2,k0,k1,k2,k4,k5,cv]
   intro U11 _ U12 H12
   refine⟨_,rfl,_,_,rfl,?_,H12.tl.tl.ownD⟩
   simp only[Au,Zaj,Zag,Abn,G6,show(ByteArray.mk #[97]).size=1 from rfl,show(ByteArray.mk #[120]).size=1 from rfl];omega
  have c2:((x:Int)==2)=false:=by simp;omega
  by_cases hx3:x=3
  ·have c3:((x:Int)==3)=true:=by simp[hx3]
   simp +contextual (disch:=omega) only[go_sem,c0,c1,c2,c3,k0,k1,k2,k3,k4,k5]
   intro n20 f20 U9 _ U10 _ U11 H11
   have ne20:=f20.1
   have H12:Hx N0 U11 (.th (ow pI.kd (.sl n20 0 0) [])::.box 1 n5 [.sl n20 0 0,v1,v2,v3,v4,v5]::.th (ow pI.kd v0 d.base)::.th (ow pI.kd v1 d.know)::.th (ow Ah.kd v2 d.tallies)::.th (ow Ap.kd v3 d.lives)::.th (ow pDot.kd v4 d.dead)::.th (ow Ai.kd v5 d.cells)::.box 1 n2 [.sl n20 0 0,v1,v2,v3,v4,v5]::h):=H11.emp pI.kd rfl
   refine⟨_,rfl,_,_,rfl,?_,((H12.era 2).era 1).ownD⟩
   simp only[Au,Zar];omega
  have c3:((x:Int)==3)=false:=by simp;omega
  by_cases hx4:x=4
  ·have c4:((x:Int)==4)=true:=by simp[hx4]
   obtain⟨q3,hq3⟩:∃ q,q=(y:Int).tmod 3:=⟨_,rfl⟩
   obtain⟨q4,hq4⟩:∃ q,q=(y:Int).tmod 4:=⟨_,rfl⟩
   obtain⟨q5,hq5⟩:∃ q,q=IntKind.i64.wrap (1+(y:Int).tmod 5):=⟨_,rfl⟩
   simp(disch:=omega) only[go_sem,c0,c1,c2,c3,c4,k0,k1,k2,k3,k4,k5,m3,m4,m5,<-hq3,<-hq4,<-hq5]
   intro n20 f20 U9 H9
   have ne20:=f20.1
   refine E8 (p:=Ai) H9 7 rfl ⟨⟨#[97]⟩,⟨2,q5⟩,q4,⟨1,q3⟩,0,false⟩ Be (by decide) (by omega) fun v' U10 H10=> ?_
   have cv:=(H10.hp.sl 7 rfl).cell
   simp +contextual (disch:=omega) only[go_sem,c0,c1,c2,c3,c4,k0,k1,k2,k3,k4,cv]
   intro U11 _ U12 H12
   refine⟨_,rfl,_,_,rfl,?_,H12.tl.tl.ownD⟩
   simp only[Au,Zaj,Zag,Abn,Ht,show(ByteArray.mk #[97]).size=1 from rfl];omega
  have c4:((x:Int)==4)=false:=by simp;omega
  simp +contextual (disch:=omega) only[go_sem,c0,c1,c2,c3,c4,k0,k1,k2,k3,k4,k5]
  intro U9 H9
  refine⟨_,rfl,_,_,rfl,?_,H9.tl.ownD⟩
  simp only[Au];omega
 obtain⟨w,U,R,ds,d,rfl,h1,h2⟩:=key
 exact⟨ds,d,U,h1,R,h2⟩
theorem Hx.unitD {U:St} {ds:List GV} {d:Delta} (H:Hx N0 U (.th (own Aw ds d)::h)):Hx N0 U (.th (own A9 (GV.bool true::zeV++(ds++[])) ⟨true,act0,d⟩)::h):=by
 have X2:Hp N0 U (own kAct zeV act0::own Aw ds d::h.map Item.t):=Hp.ownAct (x:=act0) (H.nil pI.kd).hp
 exact Hp.ownUnit_ (x:=⟨true,act0,d⟩) X2
theorem Hx.unitAD {U:St} {ca ds:List GV} {a:Act} {d:Delta} (H:Hx N0 U (.th (own kAct ca a)::.th (own Aw ds d)::h)):Hx N0 U (.th (own A9 (GV.bool false::ca++(ds++[])) ⟨false,a,d⟩)::h):=Hp.ownUnit_ (x:=⟨false,a,d⟩) H.hp
theorem A7j (H:Hx N0 N h) (k:Nat) (hk:h[k]? =some (cuI c v bs)) (D:Dr N0 v bs):∃(ds:List GV) (u:Unit_) (U:St),Aj u<=20100/\Ret Tryz.prog 205 [c] N (.agg ds) U/\Hx N0 U (.th (own A9 ds u)::h):=by
 have key:∃ w U,Ret Tryz.prog 205 [c] N w U/\∃ ds u,w= .agg ds/\Aj u<=20100/\Hx N0 U (.th (own A9 ds u)::h):=by
  refine Bg A6d (Z0z rfl) H ?_
  simp only[go_sem,S4]
  intro n2 f2 U2 H2
  have g2:=Av (h:=h) f2
  obtain⟨b,U3,R3,H3⟩:=I4 H2 (k+1) hk D 3 (by decide)
  refine by_k R3 H3 ?_
  cases b with
  |true=>
   simp only[go_sem]
   obtain⟨ds,d,U4,hms,R4,H4⟩:=Alm H3 (k+1) hk D
   obtain⟨v0,v1,v2,v3,v4,v5,rfl,_⟩:=H4.hp.rd 0 rfl
   refine by_k R4 H4 ?_
   simp +contextual (disch:=omega) only[go_sem]
   intro U5 H5
   exact⟨_,rfl,_,⟨true,act0,d⟩,rfl,by simp only[Aj,Ck,act0];(have:(ByteArray.mk #[]).size=0:=rfl);simp only[Zar,this];omega,(H5.era 1).unitD⟩
  |false=>
   simp only[go_sem]
   obtain⟨ca,a,U4,⟨b1,b2,b3⟩,R4,H4⟩:=Mj H3 (k+1) hk D
   obtain⟨kv,rfl,_⟩:=H4.hp.rd 0 rfl
   refine by_k R4 H4 ?_
   simp only[go_sem]
   intro n3 f3 U5 _ U6 H6
   have g3:=Av (h:=h) f3.2
   have ne32:=f3.1
   obtain⟨b,U7,R7,H7⟩:=I4 H6 (k+3) hk D 12 (by decide)
   refine by_k R7 H7 ?_
   cases b with
   |false=>
    simp +contextual (disch:=omega) only[go_sem]
    intro U8 H8
    exact⟨_,rfl,_,⟨false,a,delta0⟩,rfl,by simp only[Aj,Ck,Au,sumL,List.map_nil,List.sum_nil,Zar];omega,(H8.tl.era 1).unitA⟩
   |true=>
    simp only[go_sem]
    obtain⟨ds,d,U8,hms,R8,H8⟩:=A1t H7 (k+3) hk D
    obtain⟨v0,v1,v2,v3,v4,v5,rfl,_⟩:=H8.hp.rd 0 rfl
    refine by_k R8 H8 ?_
    simp +contextual (disch:=omega) only[go_sem]
    intro U9 _ U10 H10
    exact⟨_,rfl,_,⟨false,a,d⟩,rfl,by simp only[Aj,Ck];omega,(((H10.era 3).era 1).fst 1 rfl).unitAD⟩
 obtain⟨w,U,R,ds,u,rfl,h1,h2⟩:=key
 exact⟨ds,u,U,h1,R,h2⟩
theorem Or (H:Hx N0 N h) (D:Dr N0 v bs):∃(r:GV) (l:List Unit_) (rep:Int) (U:St),(l.length<=61/\sumL Aj l<=400000)/\(-1<=rep/\rep<=4)/\Ret Tryz.prog 75 [v] N (.tup [r,gi rep]) U/\Hx N0 U (.th (ow A9 r l)::h):=by
 have key:∃ w U,Ret Tryz.prog 75 [v] N w U/\∃ r l rep,w= .tup [r,gi rep]/\(l.length<=61/\sumL Aj l<=400000)/\(-1<=rep/\rep<=4)/\Hx N0 U (.th (ow A9 r l)::h):=by
  refine Bg A6e (Z0z rfl) H ?_
  simp only[go_sem,S5]
  obtain⟨c,U2,R2,H2⟩:=Ao5 H D
  refine by_k R2 H2 ?_
  simp only[go_sem]
  obtain⟨x,U3,hx,R3,H3⟩:=Bn H2 0 rfl D 5 (by decide) (by decide)
  refine by_k R3 H3 ?_
  simp(disch:=omega) only[go_sem]
  obtain⟨ds,l,ls,U4,hLg,hl,R4,H4⟩:=Ali H3 0 rfl D
  have hG:=hLg.g l hl
  have hms:=hG.ms
  obtain⟨s0,s1,s2,s3,uu,ww,rfl,hS,hU,hW⟩:=Kl (H4.hp.rd 0 rfl)
  refine by_k R4 H4 ?_
  simp only[go_sem]
  intro n6 f6 U5 _ U6 H6
  have g6:=Av (h:=h) f6
  have hU6:=(log_R (H6.hp.rd 1 rfl)).2.1
  have hlen:l.units.length+sumL Aj l.units<=400000:=by unfold Amo at hms;omega
  have hnu:=hG.nu
  have hsu:=O4 (f:=Aj) (l:=l.units) (n:=5000) fun u hu=>Q7 (hG.un u hu)
  try simp(disch:=omega) only[go_sem]
  obtain⟨r,U7,R7,K7⟩:=Ln U6 uu l.units hU6 (by omega)
  refine by_c H6 R7 K7 fun H7=> ?_
  simp only[go_sem]
  obtain⟨b,U8,R8,H8⟩:=I4 H7 3 rfl D 4 (by decide)
  refine by_k R8 H8 ?_
  cases b with
  |false=>
   have nt:=RdN.notup (H8.hp.sl 0 rfl)
   simp only[go_sem,nt,if_true]
   exact fun _=>⟨_,rfl,_,l.units,(x:Int) - 1,rfl,⟨by omega,by omega⟩,⟨by omega,by omega⟩,((H8.era 3).era 2).era 1⟩
  |true=>
   simp only[go_sem]
   obtain⟨du,x2,U9,hxm,R9,H9⟩:=A7j H8 3 rfl D
   have gd:du.length=17:=A9.len (H9.hp.rd 0 rfl)
   refine by_k R9 H9 ?_
   simp only[go_sem,A5 (cs:=zeU) gd rfl,gd]
   intro n10 f10 U10 H10
   refine Ga H10 1 1 rfl rfl Be (by decide) (by omega) fun v' U11 H11=> ?_
   have nt:=RdN.notup (H11.hp.sl 1 rfl)
   simp only[go_sem,nt,if_true]
   exact fun _=>⟨_,rfl,_,l.units++[x2],(x:Int) - 1,rfl,⟨by simp only[Zaj,Zag];omega,by rw[Abn];omega⟩,⟨by omega,by omega⟩,(((H11.era 4).era 3).era 2).tl⟩
 obtain⟨w,U,R,r,l,rep,rfl,h1,h2,h3⟩:=key
 exact⟨r,l,rep,U,h1,h2,R,h3⟩
end
def A6g:Fn1:=⟨25,[.t 4],(rg [oV 4 (ki 0)] (.seq (rg [oM 5 0,oC 6 167 5,oU 7 6,oM 8 7,vM 9 8 1,vC 10 8 167 9,vU 11 8 10,oP 12 8 11] (oG 12 (oR 4 (ki 3)))) (.seq (.blk 0 (rg [oM 14 0,oM 15 1,oD 16 171 14 15,oM 13 16] (cn 13 (oR 4 (ki 0)) (rg [oM 18 0,oM 19 1,oD 20 178 18 19,oM 17 20] (cn 17 (rg [o 4 (.mov (ki (-1)))] .ret) (rg [oM 22 1,oM 23 0,oD 24 178 22 23,oM 21 24] (oG 21 (oR 4 (ki 1))))))))) (oR 4 (ki 2)))))⟩
theorem Ag1:A8 Tryz.prog 54=some A6g:=by kernel_rfl
def A6i:Fn1:=⟨43,[.t 4],(rg [o 4 (.mov (.k .nilS))] (rg [o 8 (.lit 1 0 [] []),oM 5 8] (.seq (rg [oM 9 0,oC 10 167 9,oU 11 10,oM 12 11,vM 13 12 1,vC 14 12 167 13,vU 15 12 14,oP 16 12 15] (oG 16 (rg [oM 17 5,oM 4 17] .ret))) (.seq (rg [oV 6 (ki 0)] (oH 0 (.seq (rg [oM 18 6,oM 19 0,oN 20 19,oB 21 .lss 18 20] (oJ 21 0)) (.seq (.blk 1 (rg [oM 24 0,oM 25 6,oI 26 1 24 25,oL 27 26,oM 7 27] (.seq (rg [oM 28 1,oM 29 6,oI 30 1 28 29,oL 31 30,oM 32 7,oB 33 .lss 31 32] (oG 33 (.reg [oM 34 1,oM 35 6,oI 36 1 34 35,oL 37 36,oM 7 37]))) (.reg [oM 38 5,oM 39 7,o 40 (.lit 1 1 [z0] [(0,1,(.t 39))]),o 41 (.app 1 8 [z0] (.t 38) (.t 40)),oM 5 41])))) (.reg [oM 22 6,oZ 23 22 1,oM 6 23]))))) (rg [oM 42 5,oM 4 42] .ret)))))⟩
theorem Ag2:A8 Tryz.prog 184=some A6i:=by kernel_rfl
def A6k:Fn1:=⟨26,[.t 2],(rg [o 2 (.mov (.k .nilS))] (rg [o 5 (.call 165 []),oM 3 5] (.seq (rg [oV 4 (ki 0)] (oH 0 (.seq (rg [oM 6 4,oM 7 0,oN 8 7,oB 9 .lss 6 8] (oJ 9 0)) (.seq (.blk 1 (.seq (rg [oM 12 0,oM 13 4,oI 14 1 12 13,oL 15 14,oC 16 167 15,oU 17 16] (oG 17 (rg [o 18 (.lit 1 0 [] []),oM 2 18] .ret))) (.reg [oM 19 3,oM 20 0,oM 21 4,oI 22 1 20 21,oL 23 22,oD 24 181 19 23,oM 3 24]))) (.reg [oM 10 4,oZ 11 10 1,oM 4 11]))))) (rg [oM 25 3,oM 2 25] .ret))))⟩
theorem Ag3:A8 Tryz.prog 57=some A6k:=by kernel_rfl
def A6m:Fn1:=⟨34,[.t 2],(rg [o 2 (.mov (.k .nilS))] (rg [o 5 (.lit 1 0 [] []),oM 3 5] (.seq (rg [oV 4 (ki 0)] (oH 0 (.seq (rg [oM 6 4,oM 7 0,oN 8 7,oB 9 .lss 6 8] (oJ 9 0)) (.seq (.blk 1 (.seq (rg [oM 12 0,oM 13 4,oI 14 1 12 13,oL 15 14,oC 16 167 15,oU 17 16] (oG 17 (rg [o 18 (.lit 1 0 [] []),oM 2 18] .ret))) (rg [oM 19 4,oE 20 .eql 19 0] (cn 20 (.reg [o 21 (.lit 1 0 [] []),oM 22 0,oM 23 4,oI 24 1 22 23,oL 25 24,o 26 (.app 1 8 [z0] (.t 21) (.t 25)),oM 3 26]) (.reg [oM 27 3,oM 28 0,oM 29 4,oI 30 1 28 29,oL 31 30,oD 32 184 27 31,oM 3 32]))))) (.reg [oM 10 4,oZ 11 10 1,oM 4 11]))))) (rg [oM 33 3,oM 2 33] .ret))))⟩
theorem Ag4:A8 Tryz.prog 59=some A6m:=by kernel_rfl
theorem Ac3 (N:St) (v u:GV) (a b:List Int) (ha:RS pI.kd N v a) (hb:RS pI.kd N u b) (hla:a.length<=1099511627776) (hlb:b.length<=1099511627776):Ret Tryz.prog 54 [v,u] N (gi (Mg a b)) N:=by
 refine Cb Ag1 (Z0z rfl) trivial ?_
 have H:=Hx.refl N
 simp only[go_sem,A6g]
 refine by_b H (Bv _ v a ha hla) (fun h1=> ?_) (fun h1=> ?_)
 rotate_left
 ·have d:Mg a b=3:=by simp[Mg,h1]
  simp only[go_sem,d]
  try exact fun _=>rfl
 simp only[go_sem]
 refine by_b H (Bv _ u b hb hlb) (fun h2=> ?_) (fun h2=> ?_)
 rotate_left
 ·have d:Mg a b=3:=by simp[Mg,h1,h2]
  simp only[go_sem,d]
  try exact fun _=>rfl
 simp only[go_sem]
 refine by_b H (Qm N v u a b ha hb hla) (fun h3=> ?_) (fun h3=> ?_)
 ·have d:Mg a b=0:=by simp[Mg,h1,h2,of_decide_eq_true h3]
  simp only[go_sem,d]
  try exact fun _=>rfl
 have h3:=of_decide_eq_false h3
 simp only[go_sem]
 refine by_b H (Hg N v u a b ha hb hla hlb) (fun h4=> ?_) (fun h4=> ?_)
 ·have d:Mg a b= -1:=by simp[Mg,h1,h2,h3,h4]
  simp only[go_sem,d]
  try exact fun _=>rfl
 simp only[go_sem]
 refine by_b H (Hg N u v b a hb ha hlb hla) (fun h5=> ?_) (fun h5=> ?_)
 ·have d:Mg a b=1:=by simp[Mg,h1,h2,h3,h4,h5]
  simp only[go_sem,d]
  try exact fun _=>rfl
 ·have d:Mg a b=2:=by simp[Mg,h1,h2,h3,h4,h5]
  simp only[go_sem,d]
  try exact fun _=>rfl
theorem Ac4 (N:St) (v u:GV) (a b:List Int) (ha:RS pI.kd N v a) (hb:RS pI.kd N u b) (hla:a.length<=1099511627776) (hlb:b.length<=1099511627776):∃ r U,Ret Tryz.prog 184 [v,u] N r U/\Hp N U [ow pI.kd r (kMin a b)]:=by
 refine Bg Ag2 (Z0z rfl) (Hx.refl N) ?_
 simp only[go_sem,A6i]
 intro n1 f1 U1 H1
 have H2:Hx N U1 [.th (ow pI.kd (.sl n1 0 0) [])]:=H1.emp pI.kd rfl
 refine by_b H1 (Bv _ v a (ha.pre H1.sub) hla) (fun h1=> ?_) (fun h1=> ?_)
 rotate_left
 ·have d:kMin a b=[]:=by simp[kMin,zipK,h1]
  simp only[go_sem,d]
  exact fun _=>⟨_,rfl,H2.hp⟩
 simp only[go_sem]
 refine by_b H1 (Bv _ u b (hb.pre H1.sub) hlb) (fun h2=> ?_) (fun h2=> ?_)
 rotate_left
 ·have d:kMin a b=[]:=by simp[kMin,zipK,h1,h2]
  simp only[go_sem,d]
  exact fun _=>⟨_,rfl,H2.hp⟩
 have hk:kMin a b=List.zipWith mn a b:=A3p h1 h2
 have la:=D8 h1
 have lb:=D8 h2
 simp only[go_sem]
 refine Ax a.length 6 0 (fun i env h=>env 0=v/\env 1=u/\∃ w,env 5=w/\h=[.th (ow pI.kd w ((kMin a b).take i))]) (fun env h=>∃ w,env 5=w/\h=[.th (ow pI.kd w (kMin a b))]) (fun _ _=>False) _ H2 (rfl) ⟨rfl,rfl,.sl n1 0 0,rfl,rfl⟩ ?_ ?_ ?_ (fun _ _ _ _ h=>h.elim)
 ·clear H1 H2
  rintro J Yq Wq hJ hY hW i env h' U hi ei c0 H ⟨e0,e1,w,e5,rfl⟩
  have hj:i<b.length:=by omega
  have hn:(kMin a b).take (i+1)=(kMin a b).take i++[mn a[i] b[i]]:=by rw[hk];exact Aaa hi hj
  have hlk:((kMin a b).take i).length<=3:=by rw[Zba,hk,Za5];omega
  by_cases hc:b[i]<a[i]
  ·have hm:mn a[i] b[i]=b[i]:=if_pos hc
   have hd:decide (b[i]<a[i])=true:=decide_eq_true hc
   simp only[go_sem,c0,e0,e1,e5,ei,A0,ha.len,Cw ha hi,Cw hb hj,hd]
   intro n3 f3 U3 H3
   refine E8 (p:=pI) H3 1 rfl b[i] Be (by decide) (by omega) fun w' U4 H4=> ?_
   simp(disch:=omega) only[go_sem,ei]
   exact hJ _ _ _ _ (H4.re [1] (by decide)) ⟨e0,e1,w',rfl,by rw[hn,hm];rfl⟩
  ·have hm:mn a[i] b[i]=a[i]:=if_neg hc
   have hd:decide (b[i]<a[i])=false:=decide_eq_false hc
   simp only[go_sem,c0,e0,e1,e5,ei,A0,ha.len,Cw ha hi,Cw hb hj,hd]
   intro n3 f3 U3 H3
   refine E8 (p:=pI) H3 1 rfl a[i] Be (by decide) (by omega) fun w' U4 H4=> ?_
   simp(disch:=omega) only[go_sem,ei]
   exact hJ _ _ _ _ (H4.re [1] (by decide)) ⟨e0,e1,w',rfl,by rw[hn,hm];rfl⟩
 ·clear H1 H2
  rintro Yq hY env h' U ei c0 H ⟨e0,e1,w,e5,rfl⟩
  simp only[go_sem,c0,e0,ei,ha.len]
  have hl:(kMin a b).take a.length=kMin a b:=List.take_of_length_le (by rw[hk,Za5];omega)
  exact hY _ _ _ H ⟨w,e5,by rw[hl]⟩
 ·rintro env h' U H ⟨w,e5,rfl⟩
  simp only[go_sem,e5]
  exact fun _=>⟨_,rfl,H.hp⟩
theorem Ac5 (N:St) (v:GV) (ll:List (List Int)) (h:RS pI.kd.sl N v ll) (hl:ll.length<=1099511627776) (hll:∀ l∈ll,l.length<=1099511627776):∃ r U,Ret Tryz.prog 57 [v] N r U/\Hp N U [ow pI.kd r (Zl ll)]:=by
 refine Bg Ag3 (Z0z rfl) (Hx.refl N) ?_
 simp only[go_sem,A6k]
 obtain⟨r,U,R,K⟩:=V6 N
 refine by_c (Hx.refl N) R K fun H=> ?_
 simp only[go_sem,h.len]
 refine Ax ll.length 4 0 (fun i env h=>env 0=v/\(ll.take i).all okK=true/\∃ w,env 3=w/\h=[.th (ow pI.kd w ((ll.take i).foldl kMax [0,0,0]))]) (fun env h=>ll.all okK=true/\∃ w,env 3=w/\h=[.th (ow pI.kd w (ll.foldl kMax [0,0,0]))]) (fun env h=>Zl ll=[]/\∃ w,env 2=w/\h=[.th (ow pI.kd w [])]) _ H (rfl) ⟨rfl,rfl,r,rfl,rfl⟩ ?_ ?_ ?_ ?_
 ·clear H
  rintro J Yq Wq hJ hY hW i env h' U1 hi ei c0 H ⟨e0,ha,w,e3,rfl⟩
  have hf:=fun h=>Cp (p:=okK) hi h
  have ht:=C6 hi ha
  obtain⟨c,⟨hc1,hc2⟩,hr⟩:=RdN.cells1 h hi
  have hlc:=hll _ (Zad hi)
  simp only[go_sem,c0,e0,e3,ei,A0,h.len,hc1,hc2]
  refine by_b H (Bv U1 c _ (hr.pre H.sub) hlc) (fun h1=> ?_) (fun h1=> ?_)
  ·simp only[go_sem,c0,e0,e3,ei,A0,hc1,hc2]
   have hlf:=Px (ll.take i) [0,0,0] (by simp)
   obtain⟨r2,U2,R2,K2⟩:=Mt U1 w c _ _ (H.hp.sl 0 rfl) (hr.pre H.sub) (by omega) hlc
   refine by_c H R2 K2 fun H2=> ?_
   simp(disch:=omega) only[go_sem,ei]
   exact hJ _ _ _ _ (H2.re [0] (by decide)) ⟨e0,ht h1,r2,rfl,by rw[Ak hi,List.foldl_append];rfl⟩
  ·simp only[go_sem]
   intro n2 f2 U2 H2
   exact hW _ _ _ ((H2.emp pI.kd rfl).re [0] (by decide)) ⟨by simp[Zl,hf h1],.sl n2 0 0,rfl,rfl⟩
 ·clear H
  rintro Yq hY env h' U1 ei c0 H ⟨e0,ha,w,e3,rfl⟩
  simp only[go_sem,c0,e0,ei,h.len]
  rw[Zan] at ha
  exact hY _ _ _ H ⟨ha,w,e3,by rw[Zan]⟩
 ·clear H
  rintro env h' U1 H ⟨ha,w,e3,rfl⟩
  have d:Zl ll=ll.foldl kMax [0,0,0]:=by simp[Zl,ha]
  simp only[go_sem,e3,d]
  exact fun _=>⟨_,rfl,H.hp⟩
 ·clear H
  rintro env h' U1 H ⟨d,w,e2,rfl⟩
  simp only[go_sem,e2,d]
  exact fun _=>⟨_,rfl,H.hp⟩
theorem Ao6 {a:List Int} (h:okK a=true):kMin a a=a:=by
 have hk:kMin a a=List.zipWith mn a a:=A3p h h
 rw[hk]
 clear h hk
 induction a with
 |nil=>rfl
 |cons x a ih=>rw[List.zipWith_cons_cons,ih];simp[mn]
theorem Ao7 {a:List Int} (h:okK a=true):Zm [a]=a:=Ao6 h
theorem Aln {ll:List (List Int)} (k:List Int) (h:ll.length≠0):Zm (ll++[k])=kMin (Zm ll) k:=by rw[Zo,if_neg h]
theorem Ac6 (N:St) (v:GV) (ll:List (List Int)) (h:RS pI.kd.sl N v ll) (hl:ll.length<=1099511627776) (hll:∀ l∈ll,l.length<=1099511627776):∃ r U,Ret Tryz.prog 59 [v] N r U/\Hp N U [ow pI.kd r (Zn ll)]:=by
 refine Bg Ag4 (Z0z rfl) (Hx.refl N) ?_
 simp only[go_sem,A6m]
 intro n0 f0 U0 H0
 refine Ax ll.length 4 0 (fun i env h=>env 0=v/\(ll.take i).all okK=true/\∃ w,env 3=w/\h=[.th (ow pI.kd w (Zm (ll.take i)))]) (fun env h=>ll.all okK=true/\∃ w,env 3=w/\h=[.th (ow pI.kd w (Zm ll))]) (fun env h=>Zn ll=[]/\∃ w,env 2=w/\h=[.th (ow pI.kd w [])]) _ (H0.emp pI.kd rfl) (rfl) ⟨rfl,rfl,.sl n0 0 0,rfl,rfl⟩ ?_ ?_ ?_ ?_
 ·clear H0
  rintro J Yq Wq hJ hY hW i env h' U1 hi ei c0 H ⟨e0,ha,w,e3,rfl⟩
  have hf:=fun h=>Cp (p:=okK) hi h
  have ht:=C6 hi ha
  obtain⟨c,⟨hc1,hc2⟩,hr⟩:=RdN.cells1 h hi
  have hlc:=hll _ (Zad hi)
  simp only[go_sem,c0,e0,e3,ei,A0,h.len,hc1,hc2]
  refine by_b H (Bv U1 c _ (hr.pre H.sub) hlc) (fun h1=> ?_) (fun h1=> ?_)
  ·by_cases hi0:i=0
   ·have b0:((i:Int)==0)=true:=by simp[hi0]
    simp only[go_sem,c0,e0,e3,ei,A0,hc1,hc2,b0]
    intro n2 f2 U2 H2
    refine Qy (p:=pI) H2 (hr.pre H2.sub) (by decide) (by omega) fun r2 U3 H3=> ?_
    simp(disch:=omega) only[go_sem,ei]
    exact hJ _ _ _ _ (H3.re [0] (by decide)) ⟨e0,ht h1,r2,rfl,by
     subst hi0
     have:ll.take (0+1)=[ll[0]]:=by rw[Ak hi];rfl
     rw[this,Ao7 h1];rfl⟩
   ·have b0:((i:Int)==0)=false:=by simp[hi0]
    simp only[go_sem,c0,e0,e3,ei,A0,hc1,hc2,b0]
    have hlf:=A5b (ll.take i)
    obtain⟨r2,U2,R2,K2⟩:=Ac4 U1 w c _ _ (H.hp.sl 0 rfl) (hr.pre H.sub) (by omega) hlc
    refine by_c H R2 K2 fun H2=> ?_
    simp(disch:=omega) only[go_sem,ei]
    exact hJ _ _ _ _ (H2.re [0] (by decide)) ⟨e0,ht h1,r2,rfl,by rw[Ak hi,Aln _ (by rw[Zba];omega)];rfl⟩
  ·simp only[go_sem]
   intro n2 f2 U2 H2
   exact hW _ _ _ ((H2.emp pI.kd rfl).re [0] (by decide)) ⟨by simp[Zn,hf h1],.sl n2 0 0,rfl,rfl⟩
 ·clear H0
  rintro Yq hY env h' U1 ei c0 H ⟨e0,ha,w,e3,rfl⟩
  simp only[go_sem,c0,e0,ei,h.len]
  rw[Zan] at ha
  exact hY _ _ _ H ⟨ha,w,e3,by rw[Zan]⟩
 ·clear H0
  rintro env h' U1 H ⟨ha,w,e3,rfl⟩
  have d:Zn ll=Zm ll:=by simp[Zn,ha]
  simp only[go_sem,e3,d]
  exact fun _=>⟨_,rfl,H.hp⟩
 ·clear H0
  rintro env h' U1 H ⟨d,w,e2,rfl⟩
  simp only[go_sem,e2,d]
  exact fun _=>⟨_,rfl,H.hp⟩
def Ag6:Fn1:=⟨36,[.c 4 true 4,.t 5],(rg [oX 2 0,o 4 (.new [.nilS,.nilS,.nilS,.nilS]),o 5 (.mov (.k .nilS))] (rg [oW 11 4 2,oC 12 247 11,o 6 (.new [.nilS,.nilS,.nilS,.nilS]),oS 4 6 12] (rg [o 13 (.lit 1 0 [] []),oM 7 13] (.seq (rg [oV 8 (ki 0)] (oH 0 (.seq (rg [oM 14 8,oM 15 1,oN 16 15,oB 17 .lss 14 16] (oJ 17 0)) (.seq (.blk 1 (dw [oW 21 4 6,oM 22 1,oM 23 8,oI 24 10 22 23,oW 25 10 24,oD 26 140 21 25,oM 20 26,o 27 (.ext 0 (.t 20)),o 28 (.ext 1 (.t 20)),o 9 (.new [.nilS,.nilS,.nilS,.nilS])] [oS 4 9 27,oM 10 28] (rg [oW 29 4 9,oS 4 6 29] (.reg [oM 30 7,oM 31 10,o 32 (.lit 1 1 [z0] [(0,1,(.t 31))]),o 33 (.app 1 8 [z0] (.t 30) (.t 32)),oM 7 33])))) (.reg [oM 18 8,oZ 19 18 1,oM 8 19]))))) (rg [oW 34 4 6,oM 35 7,oS 4 4 34,oM 5 35] .ret)))))⟩
theorem Alo:A8 Tryz.prog 275=some Ag6:=by kernel_rfl
def A6n:Fn1:=⟨85,[.t 4],(rg [o 4 (.mov (.k .nilS))] (rg [o 16 (.lit 4 0 [] []),oM 5 16] (.seq (rg [oV 6 (ki 0)] (oH 0 (.seq (rg [oM 17 6,oE 18 .lss 17 3] (oJ 18 0)) (.seq (.blk 1 (.reg [oM 21 5,o 22 (.call 43 []),o 23 (.lit 4 1 [.nilS,.nilS,.nilS,.nilS] [(0,4,(.t 22))]),o 24 (.app 4 96 [.nilS,.nilS,.nilS,.nilS] (.t 21) (.t 23)),oM 5 24])) (.reg [oM 19 6,oZ 20 19 1,oM 6 20]))))) (rg [o 25 (.lit 10 0 [] []),oM 7 25] (.seq (rg [oV 8 (ki 0)] (oH 2 (.seq (rg [oM 26 8,oM 27 1,oB 28 .lss 26 27] (oJ 28 2)) (.seq (.blk 3 (rg [oM 31 0,o 32 (.call 163 [(.t 31),(ki 3)]),oM 9 32] (.seq (rg [oM 33 0,o 34 (.call 202 [(.t 33),(ki 3)])] (oG 34 (rg [oM 36 5,oM 37 9,oI 38 4 36 37,oW 39 4 38,oM 40 7,oD 41 275 39 40,oM 35 41,o 42 (.ext 0 (.t 35)),o 43 (.ext 1 (.t 35)),o 10 (.new [.nilS,.nilS,.nilS,.nilS]),oS 4 10 42,oM 11 43] (.reg [oM 44 5,oM 45 9,oW 46 4 10,oI 47 4 44 45,oS 4 47 46])))) (dw [o 12 (.new [z0,z0,z0,.nilS,z0,s0,s0,z0,z0,z0])] [oM 49 5,oM 50 9,oI 51 4 49 50,oW 52 4 51,oM 53 9,oM 54 5,oM 55 9,oI 56 4 54 55,oW 57 4 56,oC 58 277 57,on (.chk 52 (.ld true 4 (.t 51))),on (.blc 12 [z0,z0,z0,.nilS,z0,s0,s0,z0,z0,z0]),oZ 59 58 1,oM 60 0,oC 61 269 60,on (.chk 52 (.ld true 4 (.t 51))),on (.blc 12 [z0,z0,z0,.nilS,z0,s0,s0,z0,z0,z0]),o 62 (.call 276 (oT [52,53,59,61])),on (.blc 12 [z0,z0,z0,.nilS,z0,s0,s0,z0,z0,z0]),oM 48 62,o 63 (.ext 0 (.t 48)),o 64 (.ext 1 (.t 48)),oS 10 12 63,oM 13 64] (.seq (rg [oM 65 13,oE 66 .neq 65 0] (oG 66 (.ext 3))) (dw [o 14 (.new [.nilS,.nilS,.nilS,.nilS])] [oM 68 5,oM 69 9,oI 70 4 68 69,oW 71 4 70,oW 72 10 12,oD 73 140 71 72,on (.blc 14 [.nilS,.nilS,.nilS,.nilS]),oM 67 73,o 74 (.ext 0 (.t 67)),o 75 (.ext 1 (.t 67)),oS 4 14 74,oM 15 75] (rg [oM 76 5,oM 77 9,oW 78 4 14,oI 79 4 76 77,oS 4 79 78] (.reg [oM 80 7,oW 81 10 12,o 82 (.lit 10 1 [z0,z0,z0,.nilS,z0,s0,s0,z0,z0,z0] [(0,10,(.t 81))]),o 83 (.app 10 112 [z0,z0,z0,.nilS,z0,s0,s0,z0,z0,z0] (.t 80) (.t 82)),oM 7 83])))))))) (.reg [oM 29 8,oZ 30 29 1,oM 8 30]))))) (rg [oM 84 7,oM 4 84] .ret))))))⟩
theorem Ag7:F3 true Tryz.prog 174=some A6n:=by kernel_rfl
def A1u:Fn1:=⟨18,[.t 2],(rg [o 2 (.mov (.k .nilS))] (rg [o 5 (.lit 1 0 [] []),oM 3 5] (.seq (rg [oV 4 (ki 0)] (oH 0 (.seq (rg [oM 6 4,oM 7 0,o 8 (.call 163 [(.t 7),(ki 4)]),oB 9 .lss 6 8] (oJ 9 0)) (.seq (.blk 1 (.reg [oM 12 3,oM 13 0,oC 14 274 13,o 15 (.lit 1 1 [.nilS] [(0,1,(.t 14))]),o 16 (.app 1 24 [.nilS] (.t 12) (.t 15)),oM 3 16])) (.reg [oM 10 4,oZ 11 10 1,oM 4 11]))))) (rg [oM 17 3,oM 2 17] .ret))))⟩
theorem Ac7:A8 Tryz.prog 173=some A1u:=by kernel_rfl
def A6p:Fn1:=⟨13,[.t 2,.t 3],(rg [o 2 (.mov (.k .nilS)),o 3 (.mov (.k .nilS))] (rg [oM 6 0,oC 7 161 6,oM 4 7] (rg [oM 8 4,oC 9 274 8,oM 5 9] (rg [oM 10 5,oM 11 4,oC 12 274 11,oM 2 10,oM 3 12] .ret))))⟩
theorem Ag8:A8 Tryz.prog 172=some A6p:=by kernel_rfl
def Qa:Fn1:=⟨8,[.t 2,.t 3],(rg [o 2 (.mov (.k .nilS)),o 3 (.mov (.k .nilS))] (rg [oM 4 0,oC 5 172 4,o 6 (.ext 0 (.t 5)),o 7 (.ext 1 (.t 5)),oM 2 6,oM 3 7] .ret))⟩
theorem A2b:A8 Tryz.prog 48=some Qa:=by kernel_rfl
def Qb:Fn1:=⟨6,[.t 2],(rg [o 2 (.mov (.k .nilS))] (rg [oM 3 0,oC 4 161 3,oC 5 173 4,oM 2 5] .ret))⟩
theorem A2c:A8 Tryz.prog 49=some Qb:=by kernel_rfl
def Ot:Fn1:=⟨40,[.c 2 true 10,.c 3 true 10],(rg [o 2 (.new [z0,z0,z0,.nilS,z0,s0,s0,z0,z0,z0]),o 3 (.new [z0,z0,z0,.nilS,z0,s0,s0,z0,z0,z0])] (rg [oM 8 0,oC 9 161 8,oM 4 9] (rg [oM 10 4,o 11 (.call 163 [(.t 10),(ki 4)]),oM 5 11] (rg [oM 12 4,o 13 (.call 174 [(.t 12),(ki 8)]),oM 6 13] (.seq (rg [oM 14 5,oE 15 .eql 14 0,oM 16 15,vM 17 16 6,og 18 16 false (.len false (.t 17)),vE 19 16 .lss 18 2,oP 20 16 19] (oG 20 (rg [oM 21 4,oC 22 175 21,o 7 (.new [z0,z0,z0,.nilS,z0,s0,s0,z0,z0,z0]),oS 10 7 22] (dw [] [oW 23 10 7,oM 24 4,oC 25 175 24,on (.chk 23 (.ld true 10 (.t 7))),oS 10 2 23,oS 10 3 25] .ret)))) (dw [] [oM 26 6,oM 27 4,oM 28 6,oN 29 28,oD 30 163 27 29,oI 31 10 26 30,oW 32 10 31,oM 33 6,oM 34 4,oM 35 6,oN 36 35,oD 37 163 34 36,on (.chk 32 (.ld true 10 (.t 31))),oI 38 10 33 37,oW 39 10 38,oS 10 2 32,on (.chk 39 (.ld true 10 (.t 38))),oS 10 3 39] .ret))))))⟩
theorem A00:F3 true Tryz.prog 50=some Ot:=by kernel_rfl
def Qc:Fn1:=⟨11,[.t 2],(rg [o 2 (.mov (.k .nilS))] (rg [oM 6 0,oC 7 75 6,oM 5 7,o 8 (.ext 0 (.t 5)),o 9 (.ext 1 (.t 5)),oM 3 8,oM 4 9] (rg [oM 10 3,oM 2 10] .ret)))⟩
theorem A2d:A8 Tryz.prog 51=some Qc:=by kernel_rfl
def Ou:Fn1:=⟨26,[.t 2],(rg [o 2 (.mov (.k .nilS))] (rg [oM 7 0,oC 8 161 7,oM 3 8] (rg [oM 9 3,o 10 (.call 163 [(.t 9),(ki 3)]),oM 4 10] (rg [oM 12 0,oC 13 75 12,oM 11 13,o 14 (.ext 0 (.t 11)),o 15 (.ext 1 (.t 11)),oM 5 14,oM 6 15] (.seq (rg [oM 16 4,oE 17 .eql 16 0,oM 18 17,jM 19 18 5,og 20 18 true (.len false (.t 19)),jE 21 18 .gtr 20 1,oQ 22 18 21] (oG 22 (rg [oM 23 5,o 24 (.cut 17 (.t 23) (some (ki 1)) none),oM 2 24] .ret))) (rg [oM 25 5,oM 2 25] .ret))))))⟩
theorem A01:A8 Tryz.prog 52=some Ou:=by kernel_rfl
theorem Ao8 (N:St) (cs:List GV) (s:State) (hR:A4.R N s cs) (hs:OkS s) (v:GV) (l:List Act) (hv:RS kAct N v l) (hl:l.length<=1000) (hm:∀ a∈l,Ck a<=1000):∃ q U,Ret Tryz.prog 275 [.agg cs,v] N q U/\∃ ds s' w codes,q= .tup [.agg ds,w]/\OkS s'/\Hp N U [own A4 ds s',ow pI.kd w codes]:=by
 have gc:cs.length=4:=A4.len hR
 have hms:=hs.ms
 refine Bg Alo (Z0z rfl) (Hx.refl N) ?_
 simp +contextual (disch:=omega) only[go_sem,Ag6]
 intro n2 f2 U2 _ n4 f4 U4 H4
 have ne42:=f4.1
 try simp only[go_sem,A6 gc]
 obtain⟨es,U5,R5,K5⟩:=Cn U4 cs s (A4.pre hR H4.sub) (by omega)
 have ge:es.length=4:=A4.len (K5.rd 0 rfl)
 refine by_c H4 R5 K5 fun H5=> ?_
 simp only[go_sem,A5 (cs:=z4) ge rfl,ge]
 intro n6 f6 U60 _ U6 H6
 have ne64:=f6.1
 try simp only[go_sem]
 intro n7 f7 U7 H7
 refine Ax l.length 8 0 (fun i env h=>env 1=v/\env 4= .ptr n4 0/\env 6= .ptr n6 0/\∃ w codes ds s',env 7=w/\OkS s'/\codes.length=i/\ds.length=4/\h=[.th (ow pI.kd w codes),.box 1 n6 ds,.th (own A4 ds s'),.box 1 n4 z4,.box 1 n2 cs]) (fun env h=>env 4= .ptr n4 0/\env 6= .ptr n6 0/\∃ w codes ds s',env 7=w/\OkS s'/\ds.length=4/\h=[.th (ow pI.kd w codes),.box 1 n6 ds,.th (own A4 ds s'),.box 1 n4 z4,.box 1 n2 cs]) (fun _ _=>False) _ (H7.emp pI.kd rfl) (rfl) ⟨rfl,rfl,rfl,.sl n7 0 0,[],es,s,rfl,hs,rfl,ge,rfl⟩ ?_ ?_ ?_ (fun _ _ _ _ h=>h.elim)
 ·clear H4 H5 H6 H7
  rintro J Yq Wq hJ hY hW i env h' U hi ei c0 H ⟨e1,e4,e6,w,codes,ds,s',e7,hs',hcl,gd,rfl⟩
  have hms':=hs'.ms
  obtain⟨ca,⟨c1,_,_,c4,_⟩,hRa⟩:=RdN.cellsN hv hi
  have c1:iadG 10 v (some i)=some (atz 10 v i):=c1
  have c4:ldX N [.th (ow pI.kd w codes),.box 1 n6 ds,.th (own A4 ds s'),.box 1 n4 z4,.box 1 n2 cs] U true 10 (atz 10 v i)=some (.agg ca):=Aeh c4
  have hma:=hm _ (Zad hi)
  simp(disch:=omega) only[go_sem,c0,e1,e4,e6,e7,ei,A0,hv.len,c1,c4,A6 gd]
  obtain⟨q,U1,R1,K1⟩:=Gt U ds s' (H.hp.rd 2 rfl) ca l[i] (kAct.pre hRa H.sub) (by omega) (by omega)
  have gq:q.length=4:=A4.len (K1.rd 0 rfl)
  refine by_c H R1 K1 fun H1=> ?_
  simp +contextual (disch:=omega) only[go_sem,e6,e7,A5 (cs:=z4) gq rfl,A5 (cs:=ds) gq gd,gq,gd,A6 gq]
  intro n9 f9 U2 _ U3 H3
  have ne96:n6<n9:=f9.1
  try simp only[go_sem,e6,e7,A5 (cs:=z4) gq rfl,A5 (cs:=ds) gq gd,gq,gd,A6 gq]
  intro U4 H4
  try simp only[go_sem,e7]
  intro nl fl U5 H5
  refine E8 (p:=pI) H5 3 rfl (Bi s' l[i]).2 Be (by decide) (by omega) fun w' U6 H6=> ?_
  simp(disch:=omega) only[go_sem,ei]
  exact hJ _ _ _ _ (H6.re [3,4,2,6,7] (by decide)) ⟨e1,e4,e6,w',codes++[(Bi s' l[i]).2],q,_,rfl,A2m _ hs',by simp[hcl],gq,rfl⟩
 ·clear H4 H5 H6 H7
  rintro Yq hY env h' U ei c0 H ⟨e1,e4,e6,w,codes,ds,s',e7,hs',hcl,gd,rfl⟩
  simp only[go_sem,c0,e1,ei,hv.len]
  exact hY _ _ _ H ⟨e4,e6,w,codes,ds,s',e7,hs',gd,rfl⟩
 ·clear H4 H5 H6 H7
  rintro env h' U H ⟨e4,e6,w,codes,ds,s',e7,hs',gd,rfl⟩
  have nt:=RdN.notup (H.hp.sl 0 rfl)
  simp +contextual (disch:=omega) only[go_sem,e4,e6,e7,A6 gd,A5 (cs:=z4) gd rfl,gd,nt,if_true]
  intro U1 H1
  exact⟨_,rfl,ds,s',w,codes,rfl,hs',H1.sel [2,0] (by decide)⟩
section
variable {N0 N:St} {h:List Item} {c v:GV} {bs:List Int}
theorem dropX {U:St}:∀ {X:List Item} {a:Item} {Yq:List Item},Hx N0 U (a::(X++Yq))->Hx N0 U (a::Yq)
 |[],_,_,H=>H
 |x::X,a,Yq,H=>dropX (X:=X) (H.era 1)
def sts (n:Nat):List State:=List.replicate n st0
theorem Aq4 (n:Nat):sts (n+1)=sts n++[st0]:=by unfold sts;rw[List.replicate_succ']
theorem Aio (H:Hx N0 N h) (k:Nat) (hk:h[k]? =some (cuI c v bs)) (D:Dr N0 v bs) (n:Nat) (hn:n<=100):∃(r:GV) (l:List Act) (U:St),(l.length<=n/\∀ a∈l,Dj a=true)/\Ret Tryz.prog 174 [c,gi n] N r U/\Hx N0 U (.th (ow kAct r l)::h):=by
 have key:∃ w U,Ret Tryz.prog 174 [c,gi n] N w U/\∃ l,(l.length<=n/\∀ a∈l,Dj a=true)/\Hx N0 U (.th (ow kAct w l)::h):=by
  refine Bg Ag7 (Z0z rfl) H ?_
  simp only[go_sem,A6n]
  intro n1 f1 U1 H1
  have g1:=Av f1
  refine Ax 3 6 0 (fun i env hh=>env 0=c/\env 1=gi n/\∃ w,env 5=w/\hh= .th (ow A4 w (sts i))::h) (fun env hh=>env 0=c/\env 1=gi n/\∃ w,env 5=w/\hh= .th (ow A4 w (sts 3))::h) (fun _ _=>False) _ (H1.emp A4 rfl) (rfl) ⟨rfl,rfl,.sl n1 0 0,rfl,rfl⟩ ?_ ?_ ?_ (fun _ _ _ _ h=>h.elim)
  ·clear H1
   rintro J Yq Wq hJ hY hW i env h' U hi ei c0 H ⟨e0,e1,w,e5,rfl⟩
   have c0:decide ((i:Int)<3)=true:=c0
   simp only[go_sem,c0,e0,e1,e5,ei]
   obtain⟨cs,U2,R2,K2⟩:=Gk U
   have gl:cs.length=4:=A4.len (K2.rd 0 rfl)
   refine by_c H R2 K2 fun H2=> ?_
   simp only[go_sem,A5 (cs:=z4) gl rfl,gl]
   intro n3 f3 U3 H3
   refine Ga H3 1 1 rfl rfl Be (by decide) (by simp only[sts,List.length_replicate];omega) fun w' U4 H4=> ?_
   simp(disch:=omega) only[go_sem,ei]
   exact hJ _ _ _ _ H4.tl ⟨e0,e1,w',rfl,by rw[Aq4];rfl⟩
  ·clear H1
   rintro Yq hY env h' U ei c0 H ⟨e0,e1,w,e5,rfl⟩
   have ei:env 6=gi 3:=ei
   have c3:decide ((3:Int)<3)=false:=rfl
   simp only[go_sem,ei,c3]
   exact hY _ _ _ H ⟨e0,e1,w,e5,rfl⟩
  ·clear H1
   rintro env h' U H ⟨e0,e1,w,e5,rfl⟩
   simp only[go_sem,e0,e1,e5]
   intro n7 f7 U7 H7
   have H8:Hx N0 U7 (.th (ow A4 w (sts 3))::.th (ow kAct (.sl n7 0 0) [])::h):=(H7.emp kAct rfl).fst 1 rfl
   refine Ax n 8 2 (fun i env hh=>env 0=c/\env 1=gi n/\∃ w u S l,env 5=w/\env 7=u/\S.length=3/\(∀ s∈S,OkS s)/\l.length<=i/\(∀ a∈l,Dj a=true)/\hh= .th (ow A4 w S)::.th (ow kAct u l)::h) (fun env hh=>∃ w u S l,env 7=u/\l.length<=n/\(∀ a∈l,Dj a=true)/\hh= .th (ow A4 w S)::.th (ow kAct u l)::h) (fun _ _=>False) _ H8 (rfl) ⟨e0,e1,w,.sl n7 0 0,sts 3,[],e5,rfl,rfl,fun s hs=>by rw[List.eq_of_mem_replicate hs];exact A8y,Zae _,fun a ha=>(by cases ha),rfl⟩ ?_ ?_ ?_ (fun _ _ _ _ h=>h.elim)
   ·clear H H7 H8 e0 e1 e5
    rintro J Yq Wq hJ hY hW i env h' U hi ei c0 H ⟨e0,e1,w,u,S,l,e5,e7,hS3,hSo,hli,hla,rfl⟩
    simp only[go_sem,c0,e0,e1,e5,e7,ei]
    obtain⟨r,U1,hr,R1,H1⟩:=Bn H (k+2) hk D 3 (by decide) (by decide)
    refine by_k R1 H1 ?_
    simp only[go_sem,e0,e1,e5,e7,ei]
    have hrS:r<S.length:=by omega
    obtain⟨b,U2,R2,H2⟩:=I4 H1 (k+2) hk D 3 (by decide)
    refine by_k R2 H2 ?_
    simp only[go_sem,e0,e1,e5,e7,ei]
    refine Ajm (fun env h' U=>env 0=c/\env 1=gi n/\env 5=w/\env 7=u/\env 8=gi i/\env 9=gi r/\∃(X:List Item) (S':List State),S'.length=3/\(∀ s∈S',OkS s)/\h'=X++(.th (ow A4 w S')::.th (ow kAct u l)::h)/\Hx N0 U (X++(.th (ow A4 w S')::.th (ow kAct u l)::h))) ?_ ?_
    ·cases b with
     |false=>
      simp only[go_sem,e0,e1,e5,e7,ei]
      exact⟨[],S,hS3,hSo,rfl,H2⟩
     |true=>
      have hsr:OkS S[r]:=hSo _ (Zad hrS)
      obtain⟨cs,⟨c1,_,_,c4,_⟩,hR⟩:=RdN.cellsN (H2.hp.sl 0 rfl) hrS
      have c1:iadG 4 w (some r)=some (atz 4 w r):=c1
      have c4:=F8 H2 c4
      have c4:ldX N0 (.th (ow A4 w S)::.th (ow kAct u l)::h) U2 true 4 (atz 4 w r)=some (.agg cs):=c4
      simp only[go_sem,e0,e1,e5,e7,ei,A0,c1,c4]
      obtain⟨_,U3,R3,ds,s',w2,codes,rfl,hs',K3⟩:=Ao8 U2 cs S[r] hR hsr u l (H2.hp.sl 1 rfl) (by omega) (fun a ha=>by have:=Afk (hla a ha);omega)
      have gd:ds.length=4:=A4.len (K3.rd 0 rfl)
      have nt:=RdN.notup (K3.sl 1 rfl)
      have x0:extG 0 (GV.tup [GV.agg ds,w2])=some (.agg ds):=rfl
      have x1:extG 1 (GV.tup [GV.agg ds,w2])=some w2:=Tp rfl nt
      have H3:Hx N0 U3 (.th (own A4 ds s')::.th (ow pI.kd w2 codes)::.th (ow A4 w S)::.th (ow kAct u l)::h):=H2.hp.add K3
      refine by_m R3 H3 ?_
      simp only[go_sem,x0,x1,e5,A5 (cs:=z4) gd rfl,gd]
      intro n10 f10 U4 _ U5 H5
      have g10:N0.length<=n10:=Av (h:=h) f10
      simp(disch:=omega) only[go_sem,e5,A0,c1,A6 gd]
      refine Aav (d:=A4) H5 1 2 rfl rfl (by decide) hrS fun U6 H6=> ?_
      simp only[go_sem,e0,e1,e5,e7,ei]
      refine⟨[.box 1 n10 ds,.th (ow pI.kd w2 codes)],S.set r s',by rw[Zbc];exact hS3,fun s hs=> ?_,rfl,H6⟩
      rcases Zay hs with h|h
      ·exact hSo s h
      ·rw[h];exact hs'
    clear H H1 H2 e0 e1 e5 e7 ei hS3 hSo hrS
    rintro env h' U ⟨e0,e1,e5,e7,ei,e9,X,S',hS3,hSo,rfl,H⟩
    simp only[go_sem,e0,e5,e9]
    intro n12 f12 U3 H3
    have g12:=Av f12
    have H4:Hx N0 U3 (.box 1 n12 zeV::.th (ow A4 w S')::.th (ow kAct u l)::h):=dropX H3
    obtain⟨m,rfl,H5⟩:=Hp.tell (H4.fst 1 rfl).hp
    have H5:Hx N0 U3 (.th (ow (told A4) w m)::.box 1 n12 zeV::.th (ow kAct u l)::h):=H5
    rw[Zah] at hS3
    have hrm:r<m.length:=by omega
    have hmr:m[r].1∈m.map Prod.fst:=Zat.2 ⟨_,Zad hrm,rfl⟩
    have hsr:OkS m[r].1:=hSo _ hmr
    have hms:=hsr.ms
    have htm:=Qs fun c hc=>(hsr.time c hc).2
    obtain⟨cs,⟨c1,_,_,c4,_⟩,hR,rfl⟩:=RdN.cellsN (d:=told A4) (H5.hp.sl 0 rfl) hrm
    have gc:m[r].2.length=4:=A4.len hR
    have c1:iadG 4 w (some r)=some (atz 4 w r):=c1
    have c4:=F8 H3 c4
    have c4:ldX N0 (.box 1 n12 zeV::(X++(.th (ow A4 w (m.map Prod.fst))::.th (ow kAct u l)::h))) U3 true 4 (atz 4 w r)=some (.agg m[r].2):=c4
    simp only[go_sem,e0,e5,e9,A0,c1,c4]
    obtain⟨tm,htm'⟩:∃ tm,tm=Fx m[r].1.cells:=⟨_,rfl⟩
    have RT:=J6 U3 m[r].2 m[r].1 hR (by omega)
    rw[<- htm'] at htm RT
    refine by_m RT H5 ?_
    have M:=(H5.told_rd 0 rfl hrm).2.2.2.1
    have M:ldX N0 (.th (ow (told A4) w m)::.box 1 n12 zeV::.th (ow kAct u l)::h) U3 true 4 (atz 4 w r)=some (.agg m[r].2):=M
    simp(disch:=omega) only[go_sem,e0,e5,e9,A0,c1,M,Eu]
    obtain⟨e,U7,he,R7,H7⟩:=Jq H5 (k+3) hk D
    have M7:=(H7.told_rd 0 rfl hrm)
    have M4:ldX N0 (.th (ow (told A4) w m)::.box 1 n12 zeV::.th (ow kAct u l)::h) U7 true 4 (atz 4 w r)=some (.agg m[r].2):=M7.2.2.2.1
    refine by_k R7 H7 ?_
    simp only[go_sem,e0,e5,e9,A0,c1,M4,Eu]
    have hsz:=he.size
    have hkn:=Pz m[r].1
    obtain⟨ac,U9,R9,K9⟩:=O0 U7 m[r].2 m[r].1 M7.2.2.2.2.2 r (tm+1) e (by omega) (by omega) (by omega) (by have:=he.place;omega) (by omega)
    have al:ac.length=10:=kAct.len (K9.rd 0 rfl)
    refine by_c H7 R9 K9 fun H9=> ?_
    have hma:=Abf m[r].1 r (tm+1) e
    have hok:(E7 m[r].1 r (tm+1) e).2=0->Dj (E7 m[r].1 r (tm+1) e).1=true:=Ajp
    generalize E7 m[r].1 r (tm+1) e=A at*
    simp only[go_sem,A5 (cs:=zeV) al rfl,al]
    intro U11 H11
    cases hz:(A.2 != 0) with
    |true=>
     simp(disch:=omega) only[go_sem,hz,ei]
     have H12:Hx N0 U11 (.th (ow A4 w (m.map Prod.fst))::.box 1 n12 ac::.th (ow kAct u l)::h):=Hp.untell H11.tl.hp
     exact hJ _ _ _ _ (H12.era 1) ⟨e0,e1,w,u,_,l,e5,e7,by rw[Zah];exact hS3,hSo,by omega,hla,rfl⟩
    |false=>
     have hA:=hok (by simpa using hz)
     simp only[go_sem,hz,e5,e9]
     intro n14 f14 U14 H14
     have ne1412:n12<n14:=by first|exact f14.1|exact f14.2.1
     have Nq:=(H14.told_rd 2 rfl hrm)
     have Nq4:ldX N0 (.box 1 n14 z4::.th (own kAct ac A.1)::.th (ow (told A4) w m)::.box 1 n12 ac::.th (ow kAct u l)::h) U14 true 4 (atz 4 w r)=some (.agg m[r].2):=Nq.2.2.2.1
     simp(disch:=omega) only[go_sem,e5,e9,A0,c1,Nq4,A6 al]
     obtain⟨ds,U15,R15,K15⟩:=Gt U14 m[r].2 m[r].1 Nq.2.2.2.2.2 ac A.1 (H14.hp.rd 1 rfl) (by omega) (by omega)
     have gd:ds.length=4:=A4.len (K15.rd 0 rfl)
     have H15:Hx N0 U15 (.th (own A4 ds (Bi m[r].1 A.1).1)::.box 1 n14 z4::.th (own kAct ac A.1)::.th (ow (told A4) w m)::.box 1 n12 ac::.th (ow kAct u l)::h):=H14.hp.add K15
     have H16:Hx N0 U15 (.th (ow A4 w (m.map Prod.fst))::.th (own A4 ds (Bi m[r].1 A.1).1)::.box 1 n14 z4::.th (own kAct ac A.1)::.box 1 n12 ac::.th (ow kAct u l)::h):=Hp.untell (H15.fst 3 rfl).hp
     refine by_m R15 H16 ?_
     simp(disch:=omega) only[go_sem,A5 (cs:=z4) gd rfl,gd,e5,e9,e7,A6 gd,A0,c1]
     intro U17 H17
     try simp only[go_sem,e5,e9,A6 gd,A0,c1]
     refine Aav (d:=A4) H17 1 0 rfl rfl (by decide) (by rw[Zah];exact hrm) fun U18 H18=> ?_
     simp(disch:=omega) only[go_sem,e7,A6 al,A5 (cs:=zeV) al rfl,al]
     intro nl fl U19 H19
     refine Ga H19 3 4 rfl rfl Be (by decide) (by omega) fun u' U20 H20=> ?_
     simp(disch:=omega) only[go_sem,ei]
     refine hJ _ _ _ _ (((H20.tl.era 1).era 1)) ⟨e0,e1,w,u',_,l++[A.1],e5,rfl,by rw[Zbc,Zah];exact hS3,fun s hs=> ?_,by rw[Zaj,Zag];omega,fun a ha=> ?_,rfl⟩
     ·rcases Zay hs with h|h
      ·exact hSo s h
      ·rw[h];exact A2m _ hsr
     ·rcases Zbd.1 ha with h|h
      ·exact hla a h
      ·rw[Za7.1 h];exact hA
   ·clear H H7 H8 e0 e1 e5
    rintro Yq hY env h' U ei c0 H ⟨e0,e1,w,u,S,l,e5,e7,hS3,hSo,hli,hla,rfl⟩
    simp only[go_sem,c0,e1,ei]
    exact hY _ _ _ H ⟨w,u,S,l,e7,hli,hla,rfl⟩
   ·clear H H7 H8 e0 e1 e5
    rintro env h' U H ⟨w,u,S,l,e7,hli,hla,rfl⟩
    simp only[go_sem,e7]
    exact fun _=>⟨_,rfl,l,⟨hli,hla⟩,H.tl⟩
 obtain⟨w,U,R,l,h1,H'⟩:=key
 exact⟨w,l,U,h1,R,H'⟩
theorem Hp.toSl {U:St} {rs:List Thg} {kv:GV} {kn:List Int} (H:Hp N0 U (ow pI.kd kv kn::rs)):Hp N0 U (own pI.kd.sl [kv] kn::rs):=H.conv fun fp ho=>⟨kv,rfl,ho⟩
theorem Ag9 (H:Hx N0 N h) (k:Nat) (hk:h[k]? =some (cuI c v bs)) (D:Dr N0 v bs):∃(r:GV) (ll:List (List Int)) (U:St),(ll.length<=4/\∀ l∈ll,l.length<=4)/\Ret Tryz.prog 173 [c] N r U/\Hx N0 U (.th (ow pI.kd.sl r ll)::h):=by
 have key:∃ w U,Ret Tryz.prog 173 [c] N w U/\∃ ll,(ll.length<=4/\∀ l∈ll,l.length<=4)/\Hx N0 U (.th (ow pI.kd.sl w ll)::h):=by
  refine Bg Ac7 (Z0z rfl) H ?_
  simp only[go_sem,A1u]
  intro n1 f1 U1 H1
  have g1:=Av f1
  have H2:Hx N0 U1 (.th (ow pI.kd.sl (.sl n1 0 0) [])::h):=H1.emp pI.kd.sl rfl
  refine J4 5 0 (fun kk env hh=>env 0=c/\∃(i:Int) (w:GV) (ll:List (List Int)),env 4=gi i/\env 3=w/\0<=i/\i<=4/\kk=(5 - i).toNat/\(ll.length:Int)<=i/\(∀ l∈ll,l.length<=4)/\hh= .th (ow pI.kd.sl w ll)::h) (fun env hh=>∃(w:GV) (ll:List (List Int)),env 3=w/\ll.length<=4/\(∀ l∈ll,l.length<=4)/\hh= .th (ow pI.kd.sl w ll)::h) (fun _ _=>False) _ H2 ⟨rfl,0,.sl n1 0 0,[],rfl,rfl,by decide,by decide,rfl,by simp,fun l hl=>(by cases hl),rfl⟩ ?_ ?_ (fun _ _ _ _ h=>h.elim)
  ·clear H1 H2
   rintro J Yq Wq hJ hY hW kk env h' U H ⟨e0,i,w,ll,e4,e3,hi0,hi4,rfl,hll,hla,rfl⟩
   simp only[go_sem,e0,e4]
   obtain⟨x,U1,hx,R1,H1⟩:=Bn H (k+1) hk D 4 (by decide) (by decide)
   refine by_k R1 H1 ?_
   cases hb:decide (i<(x:Int)) with
   |false=>
    simp only[go_sem,hb]
    exact hY _ _ _ H1 ⟨w,ll,e3,by omega,hla,rfl⟩
   |true=>
    have hlt:=of_decide_eq_true hb
    simp only[go_sem,hb,e0,e3]
    obtain⟨kv,kn,U2,⟨hk4,hk3⟩,R2,H2⟩:=Ps H1 (k+1) hk D
    have ck:=(H2.hp.sl 0 rfl).cell
    have H3:Hx N0 U2 (.th (own pI.kd.sl [kv] kn)::.th (ow pI.kd.sl w ll)::h):=Hp.toSl H2.hp
    refine by_k R2 H3 ?_
    simp only[go_sem,ck]
    intro n3 f3 U3 H4
    refine Ga H4 1 1 rfl rfl Be (by decide) (by omega) fun w' U5 H5=> ?_
    simp(disch:=omega) only[go_sem,e4]
    refine⟨(5 - (i+1)).toNat,by omega,hJ _ _ _ _ H5.tl ⟨e0,i+1,w',ll++[kn],rfl,rfl,by omega,by omega,rfl,by simp only[Zaj,Zag];omega,fun l hl=> ?_,rfl⟩⟩
    rcases Zbd.1 hl with h|h
    ·exact hla l h
    ·rw[Za7.1 h];exact hk4
  ·clear H1 H2
   rintro env h' U H ⟨w,ll,e3,hll,hla,rfl⟩
   simp only[go_sem,e3]
   exact fun _=>⟨_,rfl,ll,⟨hll,hla⟩,H⟩
 obtain⟨w,U,R,ll,h1,H'⟩:=key
 exact⟨w,ll,U,h1,R,H'⟩
theorem A02 (H:Hx N0 N h) (D:Dr N0 v bs):∃(u w:GV) (a b:List Int) (U:St),(a.length<=4/\b.length<=4)/\Ret Tryz.prog 48 [v] N (.tup [u,w]) U/\Hx N0 U (.th (ow pI.kd w b)::.th (ow pI.kd u a)::h):=by
 have pair:∃ w0 U,Ret Tryz.prog 172 [v] N w0 U/\∃(u w:GV) (a b:List Int),w0= .tup [u,w]/\(a.length<=4/\b.length<=4)/\Hx N0 U (.th (ow pI.kd w b)::.th (ow pI.kd u a)::h):=by
  refine Bg Ag8 (Z0z rfl) H ?_
  simp only[go_sem,A6p]
  obtain⟨c,U2,R2,H2⟩:=Ao5 H D
  refine by_k R2 H2 ?_
  simp only[go_sem]
  obtain⟨u,a,U3,⟨ha,_⟩,R3,H3⟩:=Ps H2 0 rfl D
  refine by_k R3 H3 ?_
  simp only[go_sem]
  obtain⟨w,b,U4,⟨hb,_⟩,R4,H4⟩:=Ps H3 1 rfl D
  refine by_k R4 H4 ?_
  have nt1:=RdN.notup (H4.hp.sl 0 rfl)
  have nt2:=RdN.notup (H4.hp.sl 1 rfl)
  simp only[go_sem,nt1,nt2,Zbg,if_true]
  exact fun _=>⟨_,rfl,u,w,a,b,rfl,⟨ha,hb⟩,H4.era 2⟩
 obtain⟨_,U1,R1,u,w,a,b,rfl,hab,H1⟩:=pair
 have key:∃ w0 U,Ret Tryz.prog 48 [v] N w0 U/\w0= .tup [u,w]/\Hx N0 U (.th (ow pI.kd w b)::.th (ow pI.kd u a)::h):=by
  refine Bg A2b (Z0z rfl) H ?_
  simp only[go_sem,Qa]
  have nt1:=RdN.notup (H1.hp.sl 0 rfl)
  have nt2:=RdN.notup (H1.hp.sl 1 rfl)
  have x0:extG 0 (GV.tup [u,w])=some u:=Tp rfl nt2
  have x1:extG 1 (GV.tup [u,w])=some w:=Tp rfl nt1
  refine by_k R1 H1 ?_
  simp +contextual only[go_sem,x0,x1,nt1,nt2,Zbg,if_true]
  exact fun _=>⟨_,rfl,rfl⟩
 obtain⟨_,U,R,rfl,H'⟩:=key
 exact⟨u,w,a,b,U,hab,R,H'⟩
theorem A03 (H:Hx N0 N h) (D:Dr N0 v bs):∃(r:GV) (ll:List (List Int)) (U:St),(ll.length<=4/\∀ l∈ll,l.length<=4)/\Ret Tryz.prog 49 [v] N r U/\Hx N0 U (.th (ow pI.kd.sl r ll)::h):=by
 have key:∃ w U,Ret Tryz.prog 49 [v] N w U/\∃ ll,(ll.length<=4/\∀ l∈ll,l.length<=4)/\Hx N0 U (.th (ow pI.kd.sl w ll)::h):=by
  refine Bg A2c (Z0z rfl) H ?_
  simp only[go_sem,Qb]
  obtain⟨c,U2,R2,H2⟩:=Ao5 H D
  refine by_k R2 H2 ?_
  simp only[go_sem]
  obtain⟨r,ll,U3,hl,R3,H3⟩:=Ag9 H2 0 rfl D
  refine by_k R3 H3 ?_
  simp only[go_sem]
  exact fun _=>⟨_,rfl,ll,hl,H3.era 1⟩
 obtain⟨w,U,R,ll,h1,H'⟩:=key
 exact⟨w,ll,U,h1,R,H'⟩
theorem Aq5 {Y:Type} {d:Kd Y} {U:St} {m:List (Y×List GV)} {css:List (List GV)} {fps:List (List Nat)} (h:All3 ((told d).O U) m css fps):sat U ((m.map fun p=>(p.2,p.1)).map fun x=>own d x.1 x.2) fps.flatten:=by
 induction h with
 |nil=>rfl
 | @cons a b c' l' bs' cs' h _ ih=>
  obtain⟨h1,rfl⟩:=h
  exact⟨c',_,h1,ih,by simp⟩
theorem Hp.rowShs {Y:Type} {d:Kd Y} {U:St} {rs:List Thg} {w:GV} {m:List (Y×List GV)} (H:Hp N0 U (ow (told d) w m::rs)):Hp N0 U (shs d (m.map fun p=>(p.2,p.1))::rs):=by
 obtain⟨h,_,⟨a,b,hr,hs,rfl⟩,hn,hb⟩:=H
 rcases hr with⟨rfl,rfl,rfl⟩|⟨g,pre,css,post,fps,rfl,hB,hA,rfl⟩
 ·exact⟨h,_,⟨[],b,⟨[],rfl,fun y hy=>hy⟩,hs,rfl⟩,hn,hb⟩
 ·have hsub:(fps.flatten++b).Sublist (g::fps.flatten++b):=List.sublist_cons_self _ _
  exact⟨h,_,⟨fps.flatten,b,⟨_,Aq5 hA,fun y hy=>hy⟩,hs,rfl⟩,hsub.nodup hn,fun g' hg'=>hb g' (hsub.subset hg')⟩
theorem Xg (H:Hx N0 N h) (D:Dr N0 v bs):∃(ca cb:List GV) (a b:Act) (U:St),(Ck a<=100/\Ck b<=100)/\Ret Tryz.prog 50 [v] N (.tup [.agg ca,.agg cb]) U/\Hx N0 U (.th (shs kAct [(ca,a),(cb,b)])::h):=by
 have key:∃ w0 U,Ret Tryz.prog 50 [v] N w0 U/\∃ ca cb a b,w0= .tup [.agg ca,.agg cb]/\(Ck a<=100/\Ck b<=100)/\Hx N0 U (.th (shs kAct [(ca,a),(cb,b)])::h):=by
  refine Bg A00 (Z0z rfl) H ?_
  simp only[go_sem,Ot]
  intro n2 f2 U2 _ n3 f3 U3 H3
  have g2:=Av (h:=h) f2
  have g3:=Av (h:=h) f3.2
  have ne32:=f3.1
  obtain⟨c,U4,R4,H4⟩:=Ao5 H3 D
  refine by_k R4 H4 ?_
  simp only[go_sem]
  obtain⟨x,U5,hx,R5,H5⟩:=Bn H4 0 rfl D 4 (by decide) (by decide)
  refine by_k R5 H5 ?_
  simp only[go_sem]
  obtain⟨r,l,U6,⟨hl8,hla⟩,R6,H6⟩:=Aio H5 0 rfl D 8 (by decide)
  have R6:Ret Tryz.prog 174 [c,gi 8] U5 r U6:=R6
  have hrl:=(H6.hp.sl 0 rfl).len
  refine by_k R6 H6 ?_
  cases h0:((x:Int)==0) with
  |true=>
   simp only[go_sem,h0]
   obtain⟨ca,a,U7,⟨b1,b2,b3⟩,R7,H7⟩:=Mj H6 1 rfl D
   have al:ca.length=10:=kAct.len (H7.hp.rd 0 rfl)
   refine by_k R7 H7 ?_
   simp +contextual (disch:=omega) only[go_sem,A5 (cs:=zeV) al rfl,al,A6 al]
   intro n7 f7 U8 _ U9 H9
   have ne72:n2<n7:=by have:=f7;(try simp only[Aaq,Ajf] at this);omega
   have ne73:n3<n7:=by have:=f7;(try simp only[Aaq,Ajf] at this);omega
   try simp only[go_sem,A6 al]
   obtain⟨cb,b,U10,⟨b4,b5,b6⟩,R10,H10⟩:=Mj H9 3 rfl D
   have bl:cb.length=10:=kAct.len (H10.hp.rd 0 rfl)
   refine by_k R10 H10 ?_
   simp +contextual (disch:=omega) only[go_sem,A5 (cs:=zeV) al rfl,al,A5 (cs:=zeV) bl rfl,bl,A6 al,A6 bl]
   intro U11 _ U12 H12
   have X1:Hx N0 U12 (.th (own kAct ca a)::.th (own kAct cb b)::h):=(((((H12.era 6).era 5).era 4).era 3).era 1).fst 1 rfl
   have X2:Hx N0 U12 (.th (own kAct cb b)::.th (shs kAct [(ca,a)])::h):=Hx.fst (h:=.th (shs kAct [(ca,a)])::.th (own kAct cb b)::h) (Hp.shs1 X1.hp) 1 rfl
   have X3:Hx N0 U12 (.th (shs kAct [(cb,b),(ca,a)])::h):=Hp.shsAdd X2.hp
   exact⟨_,rfl,ca,cb,a,b,rfl,⟨by unfold Ck;omega,by unfold Ck;omega⟩,Hp.shsLe (fun y hy=>by
    simp only[Zao,Za0,or_false] at hy ⊢
    rcases hy with rfl|rfl<;>simp) X3.hp⟩
  |false=>
   cases h1:decide ((l.length:Int)<2) with
   |true=>
    simp only[go_sem,h0,h1,hrl]
    obtain⟨ca,a,U7,⟨b1,b2,b3⟩,R7,H7⟩:=Mj H6 1 rfl D
    have al:ca.length=10:=kAct.len (H7.hp.rd 0 rfl)
    refine by_k R7 H7 ?_
    simp +contextual (disch:=omega) only[go_sem,A5 (cs:=zeV) al rfl,al,A6 al]
    intro n7 f7 U8 _ U9 H9
    have ne72:n2<n7:=by have:=f7;(try simp only[Aaq,Ajf] at this);omega
    have ne73:n3<n7:=by have:=f7;(try simp only[Aaq,Ajf] at this);omega
    try simp only[go_sem,A6 al]
    obtain⟨cb,b,U10,⟨b4,b5,b6⟩,R10,H10⟩:=Mj H9 3 rfl D
    have bl:cb.length=10:=kAct.len (H10.hp.rd 0 rfl)
    refine by_k R10 H10 ?_
    simp +contextual (disch:=omega) only[go_sem,A5 (cs:=zeV) al rfl,al,A5 (cs:=zeV) bl rfl,bl,A6 al,A6 bl]
    intro U11 _ U12 H12
    have X1:Hx N0 U12 (.th (own kAct ca a)::.th (own kAct cb b)::h):=(((((H12.era 6).era 5).era 4).era 3).era 1).fst 1 rfl
    have X2:Hx N0 U12 (.th (own kAct cb b)::.th (shs kAct [(ca,a)])::h):=Hx.fst (h:=.th (shs kAct [(ca,a)])::.th (own kAct cb b)::h) (Hp.shs1 X1.hp) 1 rfl
    have X3:Hx N0 U12 (.th (shs kAct [(cb,b),(ca,a)])::h):=Hp.shsAdd X2.hp
    exact⟨_,rfl,ca,cb,a,b,rfl,⟨by unfold Ck;omega,by unfold Ck;omega⟩,Hp.shsLe (fun y hy=>by
     simp only[Zao,Za0,or_false] at hy ⊢
     rcases hy with rfl|rfl<;>simp) X3.hp⟩
   |false=>
    have hl2:2<=l.length:=by have:=of_decide_eq_false h1;omega
    simp only[go_sem,h0,h1,hrl]
    obtain⟨y1,U7,hy1,R7,H7⟩:=Bn H6 1 rfl D l.length (by omega) (by omega)
    obtain⟨m,rfl,H7'⟩:=Hp.tell H7.hp
    have H7':Hx N0 U7 (.th (ow (told kAct) r m)::cuI c v bs::.box 1 n3 zeV::.box 1 n2 zeV::h):=H7'
    rw[Zah] at hy1 hl2 hrl
    have hm1:y1<m.length:=by omega
    have L:=H7'.told_rd 0 rfl hm1
    have L1:iadG 10 r (some y1)=some (atz 10 r y1):=L.1
    have L4:ldX N0 (.th (ow (told kAct) r m)::cuI c v bs::.box 1 n3 zeV::.box 1 n2 zeV::h) U7 true 10 (atz 10 r y1)=some (.agg m[y1].2):=L.2.2.2.1
    have a1:m[y1].2.length=10:=kAct.len L.2.2.2.2.2
    refine by_k R7 H7' ?_
    simp only[go_sem,A0,L1,L4,hrl]
    obtain⟨y2,U8,hy2,R8,H8⟩:=Bn H7' 1 rfl D m.length (by omega) (by simp only[Zah] at hl8;omega)
    have hm2:y2<m.length:=by omega
    have M:=H8.told_rd 0 rfl hm2
    have M1:iadG 10 r (some y2)=some (atz 10 r y2):=M.1
    have M4:ldX N0 (.th (ow (told kAct) r m)::cuI c v bs::.box 1 n3 zeV::.box 1 n2 zeV::h) U8 true 10 (atz 10 r y2)=some (.agg m[y2].2):=M.2.2.2.1
    have M5:ldX N0 (.th (ow (told kAct) r m)::cuI c v bs::.box 1 n3 zeV::.box 1 n2 zeV::h) U8 true 10 (atz 10 r y1)=some (.agg m[y1].2):=(H8.told_rd 0 rfl hm1).2.2.2.1
    have a2:m[y2].2.length=10:=kAct.len M.2.2.2.2.2
    refine by_k R8 H8 ?_
    simp +contextual (disch:=omega) only[go_sem,A0,L1,M1,M4,M5,A5 (cs:=zeV) a1 rfl,a1,A5 (cs:=zeV) a2 rfl,a2]
    intro U9 H9
    have Nq4:ldX N0 (.th (ow (told kAct) r m)::cuI c v bs::.box 1 n3 zeV::.box 1 n2 m[y1].2::h) U9 true 10 (atz 10 r y2)=some (.agg m[y2].2):=(H9.told_rd 0 rfl hm2).2.2.2.1
    try simp only[go_sem,Nq4,A5 (cs:=zeV) a2 rfl,a2,A6 a1,A6 a2]
    refine⟨Nq4,?_⟩
    intro U10 H10
    have X1:Hx N0 U10 (.th (shs kAct (m.map fun p=>(p.2,p.1)))::cuI c v bs::.box 1 n3 m[y2].2::.box 1 n2 m[y1].2::h):=Hp.rowShs H10.hp
    have q1:Dj m[y1].1=true:=hla _ (Zat.2 ⟨_,Zad hm1,rfl⟩)
    have q2:Dj m[y2].1=true:=hla _ (Zat.2 ⟨_,Zad hm2,rfl⟩)
    exact⟨_,rfl,m[y1].2,m[y2].2,m[y1].1,m[y2].1,rfl,⟨by have:=Afk q1;omega,by have:=Afk q2;omega⟩,Hp.shsLe (fun y hy=>by
     simp only[Zao,Za0,or_false] at hy
     rcases hy with rfl|rfl
     ·exact Zat.2 ⟨_,Zad hm1,rfl⟩
     ·exact Zat.2 ⟨_,Zad hm2,rfl⟩) (((X1.era 3).era 2).era 1).hp⟩
 obtain⟨w,U,R,ca,cb,a,b,rfl,h1,H'⟩:=key
 exact⟨ca,cb,a,b,U,h1,R,H'⟩
theorem A04 (H:Hx N0 N h) (D:Dr N0 v bs):∃(r:GV) (l:List Unit_) (U:St),(l.length<=61/\sumL Aj l<=400000)/\Ret Tryz.prog 51 [v] N r U/\Hx N0 U (.th (ow A9 r l)::h):=by
 have key:∃ w U,Ret Tryz.prog 51 [v] N w U/\∃ l,(l.length<=61/\sumL Aj l<=400000)/\Hx N0 U (.th (ow A9 w l)::h):=by
  refine Bg A2d (Z0z rfl) H ?_
  simp only[go_sem,Qc]
  obtain⟨r,l,rep,U2,hl,_,R2,H2⟩:=Or H D
  have nt:=RdN.notup (H2.hp.sl 0 rfl)
  have x0:extG 0 (GV.tup [r,gi rep])=some r:=Tp rfl nt
  refine by_k R2 H2 ?_
  simp only[go_sem,x0]
  exact fun _=>⟨_,rfl,l,hl,H2⟩
 obtain⟨w,U,R,l,h1,H'⟩:=key
 exact⟨w,l,U,h1,R,H'⟩
theorem Ao9 {Y:Type} (f:Y->Nat) (l:List Y) (k:Nat):sumL f (l.drop k)<=sumL f l:=by
 have h:sumL f l=sumL f (l.take k)+sumL f (l.drop k):=by
  rw[<- Kh,Za2]
 omega
theorem Xh (H:Hx N0 N h) (D:Dr N0 v bs):∃(r r0:GV) (l l0:List Unit_) (U:St),(l.length<=61/\sumL Aj l<=400000)/\(∀ U',RS A9 U' r0 l0->RS A9 U' r l)/\Ret Tryz.prog 52 [v] N r U/\Hx N0 U (.th (ow A9 r0 l0)::h):=by
 have key:∃ w U,Ret Tryz.prog 52 [v] N w U/\∃ r0 l l0,(l.length<=61/\sumL Aj l<=400000)/\(∀ U',RS A9 U' r0 l0->RS A9 U' w l)/\Hx N0 U (.th (ow A9 r0 l0)::h):=by
  refine Bg A01 (Z0z rfl) H ?_
  simp only[go_sem,Ou]
  obtain⟨c,U2,R2,H2⟩:=Ao5 H D
  refine by_k R2 H2 ?_
  simp only[go_sem]
  obtain⟨x,U3,hx,R3,H3⟩:=Bn H2 0 rfl D 3 (by decide) (by decide)
  refine by_k R3 H3 ?_
  simp only[go_sem]
  obtain⟨r,l,rep,U4,hl,_,R4,H4⟩:=Or H3 D
  have nt:=RdN.notup (H4.hp.sl 0 rfl)
  have x0:extG 0 (GV.tup [r,gi rep])=some r:=Tp rfl nt
  have hrl:=(H4.hp.sl 0 rfl).len
  refine by_k R4 H4 ?_
  cases h0:((x:Int)==0) with
  |false=>
   simp only[go_sem,x0,h0]
   exact fun _=>⟨_,rfl,r,l,l,hl,fun _ h=>h,H4.era 1⟩
  |true=>
   cases h1:decide (1<(l.length:Int)) with
   |false=>
    simp only[go_sem,x0,h0,h1,hrl]
    exact fun _=>⟨_,rfl,r,l,l,hl,fun _ h=>h,H4.era 1⟩
   |true=>
    have hl1:1<=l.length:=by have:=of_decide_eq_true h1;omega
    have hz:zOk U4 17 r=true:=H4.hp.zok (d:=A9) 0 rfl
    obtain⟨u,hu1,hu2⟩:=RdN.cutLo (H4.hp.sl 0 rfl) hl1
    have hu1:cutG 17 r (some (gi 1)) none=some u:=hu1
    simp only[go_sem,x0,h0,h1,hrl,hz,hu1,if_true,Option.map_some,Option.map_none]
    refine fun _=>⟨_,rfl,r,l.drop 1,l,⟨by rw[List.length_drop];omega,by have:=Ao9 Aj l 1;omega⟩,fun U' h=> ?_,H4.era 1⟩
    obtain⟨u',h1,h2⟩:=RdN.cutLo h hl1
    have h1:cutG 17 r (some (gi 1)) none=some u':=h1
    rw[hu1] at h1
    injection h1 with h1
    subst h1;exact h2
 obtain⟨w,U,R,r0,l,l0,h1,h2,H'⟩:=key
 exact⟨w,r0,l,l0,U,h1,h2,R,H'⟩
end
def Aob:Fn1:=⟨6,[.t 2],(rg [oV 2 kf] (rg [oM 3 0,oN 4 3,oE 5 .gtr 4 1048576,oM 2 5] .ret))⟩
theorem Aq6:A8 Tryz.prog 40=some Aob:=by kernel_rfl
def A1w:Fn1:=⟨26,[.t 4],(rg [oV 4 kf] (.seq (rg [oM 6 0,oN 7 6,oM 8 1,oN 9 8,oB 10 .neq 7 9] (oG 10 (oR 4 kf))) (.seq (rg [oV 5 (ki 0)] (oH 0 (.seq (rg [oM 11 5,oM 12 0,oN 13 12,oB 14 .lss 11 13] (oJ 14 0)) (.seq (.blk 1 (dw [oM 17 0,oM 18 5,oI 19 1 17 18,oL 20 19,oM 21 1,oM 22 5,oI 23 1 21 22,oL 24 23] [oB 25 .neq 20 24] (oG 25 (oR 4 kf)))) (.reg [oM 15 5,oZ 16 15 1,oM 5 16]))))) (oR 4 kt))))⟩
theorem Ac8:A8 Tryz.prog 55=some A1w:=by kernel_rfl
theorem Aoc (N:St) (v:GV) (l:List Int) (h:RS pB.kd N v l):Ret Tryz.prog 40 [v] N (.bool (decide ((1048576:Int)<l.length))) N:=by
 refine Cb Aq6 (Z0z rfl) trivial ?_
 simp only[go_sem,Aob,h.len]
 try exact fun _=>rfl
theorem S6 (N:St) (v u:GV) (a b:List Int) (ha:RS pI.kd N v a) (hb:RS pI.kd N u b) (hla:a.length<=1099511627776):Ret Tryz.prog 55 [v,u] N (.bool (decide (a=b))) N:=by
 refine B7 Ac8 (Z0z rfl) trivial ?_
 simp +contextual only[go_sem,A1w,ha.len,hb.len]
 refine⟨fun hn=> ?_,fun hn=> ?_⟩
 ·have:a≠b:=fun h=>by subst h;simp at hn
  simp[this]
 ·have hlm:a.length=b.length:=by
                     have h2:(a.length:Int)=b.length:=by simpa using hn
                     omega
  refine Dg a.length 5 (fun i env U=>env 0=v/\env 1=u/\a.take i=b.take i/\N <+: U) rfl ⟨rfl,rfl,rfl,List.prefix_refl _⟩ ?_ ?_
  ·rintro i env U hi e5 c0 ⟨e0,e1,he,hp⟩
   have hj:i<b.length:=by omega
   have hne:a[i]≠b[i]->a≠b:=fun h h'=>h (by subst h';rfl)
   have hst:a[i]=b[i]->a.take (i+1)=b.take (i+1):=fun h=>by rw[Ak hi,Ak hj,he,h]
   simp(disch:=omega) only[go_sem,c0,e0,e1,e5,ha.len,hb.len,Cw (ha.pre hp) hi,Cw (hb.pre hp) hj,hp]
   refine⟨fun h=> ?_,fun h=> ?_⟩
   ·simp[hne (by simpa using h)]
   ·simpa using hst (by simpa using h)
  ·rintro env U e5 c0 ⟨e0,e1,he,hp⟩
   rw[Zan,hlm,Zan] at he
   simp only[go_sem,c0,e0,e1,e5,ha.len,hb.len,hp]
   simp[he]
section
variable {Y:Type} {lt:Y->Y->Bool}
open Go.Sort (SWO)
def Ir (lt:Y->Y->Bool) (y x:Y):Bool:= !lt x y&& !lt y x
def Sim (lt:Y->Y->Bool) (l m:List Y):Prop:=∀ y,l.filter (Ir lt y)=m.filter (Ir lt y)
theorem Sim.refl (l:List Y):Sim lt l l:=fun _=>rfl
theorem Sim.trans {l m n:List Y} (h:Sim lt l m) (k:Sim lt m n):Sim lt l n:=fun y=>(h y).trans (k y)
theorem Sim.symm {l m:List Y} (h:Sim lt l m):Sim lt m l:=fun y=>(h y).symm
theorem Sim.app {a b c d:List Y} (h:Sim lt a b) (k:Sim lt c d):Sim lt (a++c) (b++d):=fun y=>by
 rw[Zak,Zak,h y,k y]
theorem Aod (h:SWO lt) {x y z:Y} (hx:Ir lt y x=true) (hz:Ir lt y z=true):lt z x=false:=by
 simp only[Ir,Zbb,Za8] at hx hz
 exact h.ntrans _ _ _ hz.1 hx.2
theorem Sim.swap (h:SWO lt) {A B:List Y} (hab:∀ x∈A,∀ y∈B,lt y x=true):Sim lt (A++B) (B++A):=fun y=>by
 rw[Zak,Zak]
 by_cases hA:A.filter (Ir lt y)=[]
 ·rw[hA];simp
 ·by_cases hB:B.filter (Ir lt y)=[]
  ·rw[hB];simp
  ·exfalso
   obtain⟨x,hx⟩:=Zaz _ hA
   obtain⟨z,hz⟩:=Zaz _ hB
   rw[Za3] at hx hz
   have h1:=hab x hx.1 z hz.1
   have h2:=Aod h hx.2 hz.2
   rw[h1] at h2;cases h2
theorem A05 (h:SWO lt) (x:Y):Ir lt x x=true:=by simp[Ir,h.irrefl]
theorem Sim.mem (h:SWO lt) {l m:List Y} (s:Sim lt l m) {x:Y} (hx:x∈l):x∈m:=by
 have:x∈l.filter (Ir lt x):=Za3.2 ⟨hx,A05 h x⟩
 rw[s x] at this
 exact(Za3.1 this).1
theorem Sim.one (h:SWO lt):∀ {l m:List Y},Sim lt l m->Up lt l->Up lt m->l=m
 |[],[],_,_,_=>rfl
 |[],b::m,s,_,_=>by have:=s.symm.mem h (x:=b) (by simp);simp at this
 |a::l,[],s,_,_=>by have:=s.mem h (x:=a) (by simp);simp at this
 |a::l,b::m,s,hl,hm=>by
  have h1:lt a b=false:=by
   rcases Zao.1 (s.mem h (x:=a) (by simp)) with e|e
   ·rw[e];exact h.irrefl b
   ·exact(Zal.1 hm).1 a e
  have h2:lt b a=false:=by
   rcases Zao.1 (s.symm.mem h (x:=b) (by simp)) with e|e
   ·rw[e];exact h.irrefl a
   ·exact(Zal.1 hl).1 b e
  have h3:Ir lt a b=true:=by simp[Ir,h1,h2]
  have e:=s a
  rw[Zai,Zai,if_pos (A05 h a),if_pos h3] at e
  injection e with e1 e2
  subst e1
  rw[Sim.one h (l:=l) (m:=m) (fun y=>by
   have:=s y
   rw[Zai,Zai] at this
   split at this
   ·injection this
   ·exact this) (Zal.1 hl).2 (Zal.1 hm).2]
theorem Ajr (h:SWO lt) {x:Y}:∀ {l:List Y},Up lt l->Sim lt (insB lt x l) (l++[x])
 |[],_=>Sim.refl _
 |k::r,hl=>by
  unfold insB
  split
  ·rename_i hx
   refine(Sim.swap h (A:=k::r) (B:=[x]) fun a ha y hy=> ?_).symm
   obtain rfl:y=x:=by simpa using hy
   rcases Zao.1 ha with rfl|ha
   ·exact hx
   ·have:=(Zal.1 hl).1 a ha
    cases e:lt y a with
    |true=>rfl
    |false=>rw[h.ntrans _ _ _ e this] at hx;cases hx
  ·exact Sim.app (a:=[k]) (b:=[k]) (Sim.refl _) (Ajr h (Zal.1 hl).2)
theorem Alp (h:SWO lt) (l:List Y):Sim lt (Ar lt l) l:=by
 have key:∀(l acc:List Y),Up lt acc->Sim lt (l.foldl (fun acc x=>insB lt x acc) acc) (acc++l):=by
  intro l
  induction l with
  |nil=>intro acc _;rw[List.append_nil];exact Sim.refl _
  |cons x l ih=>
   intro acc ha
   rw[Zbe]
   refine(ih _ (Ahf h ha)).trans ?_
   have:=Sim.app (Ajr h ha (x:=x)) (Sim.refl (lt:=lt) l)
   rwa [Zac] at this
 exact key l [] .nil
theorem Ac9 (h:SWO lt) {l m:List Y} (s:Sim lt l m) (hu:Up lt m):m=Ar lt l:=
 Sim.one h (s.symm.trans (Alp h l).symm) hu (Vb h l)
def rotF {β:Type} (f:Nat->β) (lo mid hi t:Nat):β:=if lo<=t/\t<lo+(hi - mid) then f (t - lo+mid) else if lo+(hi - mid)<=t/\t<hi then f (t - (lo+(hi - mid))+lo) else f t
def swF {β:Type} (f:Nat->β) (p q n t:Nat):β:=if p<=t/\t<p+n then f (t - p+q) else if q<=t/\t<q+n then f (t - q+p) else f t
theorem rot_gt {β:Type} (f:Nat->β) {m i j:Nat} (hm:i<=m) (h:j<i):rotF (swF f (m - i) m j) (m - (i - j)) m (m+j)=rotF f (m - i) m (m+j):=by
 funext t
 simp only[rotF,swF]
 repeat' split
 all_goals first|omega|(congr 1<;>omega)
theorem rot_lt {β:Type} (f:Nat->β) {m i j:Nat} (hm:i<=m) (h:i<j):rotF (swF f (m - i) (m+j - i) i) (m - i) m (m+(j - i))=rotF f (m - i) m (m+j):=by
 funext t
 simp only[rotF,swF]
 repeat' split
 all_goals first|omega|(congr 1<;>omega)
theorem rot_eq {β:Type} (f:Nat->β) {m i:Nat} (hm:i<=m):swF f (m - i) m i=rotF f (m - i) m (m+i):=by
 funext t
 simp only[rotF,swF]
 repeat' split
 all_goals first|omega|(congr 1<;>omega)
theorem rot_up {β:Type} (f:Nat->β) {a k:Nat} (h:a<=k):swF (rotF f a (a+1) (k+1)) k (k+1) 1=rotF f a (a+1) (k+2):=by
 funext t
 simp only[rotF,swF]
 repeat' split
 all_goals first|omega|(congr 1<;>omega)
theorem Ar1 {β:Type} (f:Nat->β) {m k:Nat} (h:k+1<=m):swF (rotF f (k+1) m (m+1)) k (k+1) 1=rotF f k m (m+1):=by
 funext t
 simp only[rotF,swF]
 repeat' split
 all_goals first|omega|(congr 1<;>omega)
theorem Aoe {β:Type} (f:Nat->β) {a m:Nat}:rotF f a m m=f:=by
 funext t
 simp only[rotF]
 repeat' split
 all_goals first|omega|(congr 1<;>omega)
theorem Aip {β:Type} (f:Nat->β) {m b:Nat}:rotF f m m b=f:=by
 funext t
 simp only[rotF]
 repeat' split
 all_goals first|omega|(congr 1<;>omega)
def ga {β:Type} (L:List β):Nat->Option β:=fun t=>L[t]?
theorem ga_ext {β:Type} {L M:List β} (h:ga L=ga M):L=M:=List.ext_getElem? fun i=>congrFun h i
theorem Aiq {β:Type} {L:List β} {p q:Nat} (hp:p<L.length) (hq:q<L.length) (hpq:p<q):ga ((L.set p L[q]).set q L[p])=swF (ga L) p q 1:=by
 funext t
 simp only[ga,swF]
 by_cases h1:t=q
 ·subst h1
  rw[Za1 (by simpa using hq),if_neg (by omega),if_pos (by omega),Nat.sub_self,Nat.zero_add,Zam hp]
 ·rw[Za4 (Ne.symm h1)]
  by_cases h2:t=p
  ·subst h2
   rw[Za1 hp,if_pos (by omega),Nat.sub_self,Nat.zero_add,Zam hq]
  ·rw[Za4 (Ne.symm h2),if_neg (by omega),if_neg (by omega)]
theorem Asw {β:Type} (f:Nat->β) {p q i:Nat} (h:p+i<q):swF (swF f p q i) (p+i) (q+i) 1=swF f p q (i+1):=by
 funext t
 simp only[swF]
 repeat' split
 all_goals first|omega|(congr 1<;>omega)
theorem Asx {β:Type} (f:Nat->β) {p q:Nat}:swF f p q 0=f:=by
 funext t
 simp only[swF]
 repeat' split
 all_goals first|omega|rfl
theorem Aq7 {β:Type} {L M:List β} {a m b:Nat} (ha:a<=m) (hm:m<=b) (hb:b<=L.length) (h:ga M=rotF (ga L) a m b):
  ∃ X A B Yq,L=X++(A++B)++Yq/\M=X++(B++A)++Yq/\X.length=a/\A.length=m - a/\B.length=b - m:=by
 refine⟨L.take a,(L.drop a).take (m - a),(L.drop m).take (b - m),L.drop b,?_,?_,by simp;omega,by simp;omega,by simp;omega⟩
 ·have e1:(L.drop a).take (m - a)++(L.drop m).take (b - m)=(L.drop a).take (b - a):=by
   rw[show L.drop m=(L.drop a).drop (m - a) by rw[List.drop_drop];congr 1;omega,show b - a=(m - a)+(b - m) by omega,Zbh]
  have e2:L.take a++(L.drop a).take (b - a)=L.take b:=by
   conv=>rhs;rw[show b=a+(b - a) by omega,Zbh]
  rw[e1,e2,Za2]
 ·refine ga_ext ?_
  rw[h]
  funext t
  have hl1:(L.take a).length=a:=by simp;omega
  have hl2:((L.drop m).take (b - m)).length=b - m:=by simp;omega
  have hl3:((L.drop a).take (m - a)).length=m - a:=by simp;omega
  simp only[rotF,ga]
  by_cases c1:t<a
  ·rw[if_neg (by omega),if_neg (by omega),Zac,Zaf (by omega),Zaq c1]
  ·by_cases c2:t<a+(b - m)
   ·rw[if_pos (by omega),Zac,Zab (by omega),hl1,Zac,Zaf (by omega),Zaq (by omega),Zax]
    congr 1;omega
   ·by_cases c3:t<b
    ·rw[if_neg (by omega),if_pos (by omega),Zac,Zab (by omega),hl1,Zac,Zab (by omega),hl2,Zaf (by omega),Zaq (by omega),Zax]
     congr 1;omega
    ·rw[if_neg (by omega),if_neg (by omega),Zac,Zab (by omega),hl1,Zac,Zab (by omega),hl2,Zab (by omega),hl3,Zax]
     congr 1;omega
theorem Aca (hS:SWO lt) {L M:List Y} {a m b:Nat} (ha:a<=m) (hm:m<=b) (hb:b<=L.length) (h:ga M=rotF (ga L) a m b) (hc:∀ i j x y,a≤i->i<m->m<=j->j<b->ga L i=some x->ga L j=some y->lt y x=true):Sim lt L M:=by
 obtain⟨X,A,B,Yq,rfl,rfl,h1,h2,h3⟩:=Aq7 ha hm hb h
 refine Sim.app (Sim.app (Sim.refl _) (Sim.swap hS fun x hx y hy=> ?_)) (Sim.refl _)
 obtain⟨i,hi,ex⟩:=Zav hx
 obtain⟨j,hj,ey⟩:=Zav hy
 refine hc (a+i) (m+j) x y (by omega) (by omega) (by omega) (by omega) ?_ ?_
 ·simp only[ga]
  rw[Zac,Zab (by omega),Zac,Zaf (by omega),h1,show a+i - a=i by omega,Zam hi,ex]
 ·simp only[ga]
  rw[Zac,Zab (by omega),Zac,Zab (by omega),Zaf (by omega),h1,h2,show m+j - a - (m - a)=j by omega,Zam hj,ey]
def Srt (lt:Y->Y->Bool) (f:Nat->Option Y) (a b:Nat):Prop:=∀ i j x y,a≤i->i<j->j<b->f i=some x->f j=some y->lt y x=false
def Crs (lt:Y->Y->Bool) (f:Nat->Option Y) (a m b:Nat):Prop:=∀ i j x y,a≤i->i<m->m<=j->j<b->f i=some x->f j=some y->lt y x=false
def Frm (f g:Nat->Option Y) (a b:Nat):Prop:=(∀ t,t<a∨b<=t->g t=f t)/\∀ t,a≤t->t<b->∃ s,a≤s/\s<b/\g t=f s
theorem Srt.join {f:Nat->Option Y} {a m b:Nat} (h1:Srt lt f a m) (h2:Srt lt f m b) (h3:Crs lt f a m b):Srt lt f a b:=fun i j x y hi hij hj ex ey=>by
 by_cases c1:j<m
 ·exact h1 i j x y hi hij c1 ex ey
 ·by_cases c2:i<m
  ·exact h3 i j x y hi c2 (by omega) hj ex ey
  ·exact h2 i j x y (by omega) hij hj ex ey
theorem Srt.one {f:Nat->Option Y} {a b:Nat} (h:b<=a+1):Srt lt f a b:=fun i j x y hi hij hj ex ey=>by omega
theorem Frm.refl (f:Nat->Option Y) (a b:Nat):Frm f f a b:=⟨fun _ _=>rfl,fun t h1 h2=>⟨t,h1,h2,rfl⟩⟩
theorem Frm.trans {f g h:Nat->Option Y} {a b:Nat} (k1:Frm f g a b) (k2:Frm g h a b):Frm f h a b:=⟨fun t ht=>(k2.1 t ht).trans (k1.1 t ht),fun t h1 h2=>by
 obtain⟨s,s1,s2,e⟩:=k2.2 t h1 h2
 obtain⟨r,r1,r2,e2⟩:=k1.2 s s1 s2
 exact⟨r,r1,r2,e.trans e2⟩⟩
theorem Frm.wide {f g:Nat->Option Y} {a b a' b':Nat} (k:Frm f g a b) (ha:a'<=a) (hb:b<=b'):Frm f g a' b':=⟨fun t ht=>k.1 t (by omega),fun t h1 h2=>by
 by_cases c:a<=t/\t<b
 ·obtain⟨s,s1,s2,e⟩:=k.2 t c.1 c.2
  exact⟨s,by omega,by omega,e⟩
 ·exact⟨t,h1,h2,k.1 t (by omega)⟩⟩
theorem Frm.rot (f:Nat->Option Y) {a m b:Nat} (ha:a<=m) (hm:m<=b):Frm f (rotF f a m b) a b:=⟨fun t ht=>by
 simp only[rotF];rw[if_neg (by omega),if_neg (by omega)],fun t h1 h2=>by
 simp only[rotF]
 by_cases c:t<a+(b - m)
 ·exact⟨t - a+m,by omega,by omega,by rw[if_pos (by omega)]⟩
 ·exact⟨t - (a+(b - m))+a,by omega,by omega,by rw[if_neg (by omega),if_pos (by omega)]⟩⟩
theorem Srt.frm {f g:Nat->Option Y} {a b c d:Nat} (h:Srt lt f c d) (k:Frm f g a b) (hd:d<=a∨b<=c):Srt lt g c d:=fun i j x y hi hij hj ex ey=>by
 rw[k.1 i (by omega)] at ex
 rw[k.1 j (by omega)] at ey
 exact h i j x y hi hij hj ex ey
theorem Crs.frm {f g:Nat->Option Y} {a m b:Nat} (h:Crs lt f a m b) (h1:Frm f g a m∨Frm f g m b):Crs lt g a m b:=fun i j x y hi him hmj hj ex ey=>by
 rcases h1 with k|k
 ·obtain⟨s,s1,s2,e⟩:=k.2 i hi him
  rw[e] at ex
  rw[k.1 j (by omega)] at ey
  exact h s j x y s1 s2 hmj hj ex ey
 ·obtain⟨s,s1,s2,e⟩:=k.2 j hmj hj
  rw[e] at ey
  rw[k.1 i (by omega)] at ex
  exact h i s x y hi him s1 s2 ex ey
theorem Aga (hS:SWO lt) {f:Nat->Option Y} {a s m e b mid:Nat} (h1:a<=s) (h2:s<=m) (h3:m<=e) (h4:e<=b) (hmid:mid=s+(e - m)) (sa:Srt lt f a m) (sb:Srt lt f m b)
  (p1:∀ i j x y,s≤i->i<m->m<=j->j<e->f i=some x->f j=some y->lt y x=true) (p2:∀ i j x y,a≤i->i<s->e<=j->j<b->f i=some x->f j=some y->lt y x=false):
  Srt lt (rotF f s m e) a s/\Srt lt (rotF f s m e) s mid/\Srt lt (rotF f s m e) mid e/\Srt lt (rotF f s m e) e b/\Crs lt (rotF f s m e) a mid b:=by
 have lo:∀ t,t<s->rotF f s m e t=f t:=fun t ht=>by simp only[rotF];rw[if_neg (by omega),if_neg (by omega)]
 have hi:∀ t,e≤t->rotF f s m e t=f t:=fun t ht=>by simp only[rotF];rw[if_neg (by omega),if_neg (by omega)]
 have m1:∀ t,s≤t->t<mid->rotF f s m e t=f (t - s+m):=fun t h h'=>by simp only[rotF];rw[if_pos (by omega)]
 have m2:∀ t,mid≤t->t<e->rotF f s m e t=f (t - mid+s):=fun t h h'=>by simp only[rotF];rw[if_neg (by omega),if_pos (by omega),hmid]
 refine⟨fun i j x y k1 k2 k3 ex ey=> ?_,fun i j x y k1 k2 k3 ex ey=> ?_,fun i j x y k1 k2 k3 ex ey=> ?_,fun i j x y k1 k2 k3 ex ey=> ?_,fun i j x y k1 k2 k3 k4 ex ey=> ?_⟩
 ·rw[lo i (by omega)] at ex;rw[lo j (by omega)] at ey;exact sa i j x y k1 k2 (by omega) ex ey
 ·rw[m1 i (by omega) (by omega)] at ex;rw[m1 j (by omega) (by omega)] at ey;exact sb _ _ x y (by omega) (by omega) (by omega) ex ey
 ·rw[m2 i (by omega) (by omega)] at ex;rw[m2 j (by omega) (by omega)] at ey;exact sa _ _ x y (by omega) (by omega) (by omega) ex ey
 ·rw[hi i (by omega)] at ex;rw[hi j (by omega)] at ey;exact sb _ _ x y (by omega) (by omega) (by omega) ex ey
 ·by_cases c1:i<s
  ·rw[lo i c1] at ex
   by_cases c2:j<e
   ·rw[m2 j k3 c2] at ey;exact sa _ _ x y k1 (by omega) (by omega) ex ey
   ·rw[hi j (by omega)] at ey;exact p2 _ _ x y k1 c1 (by omega) k4 ex ey
  ·rw[m1 i (by omega) k2] at ex
   by_cases c2:j<e
   ·rw[m2 j k3 c2] at ey
    exact SWO.asym hS (p1 _ _ y x (by omega) (by omega) (by omega) (by omega) ey ex)
   ·rw[hi j (by omega)] at ey;exact sb _ _ x y (by omega) (by omega) (by omega) ex ey
theorem Ar2 (hS:SWO lt) {f:Nat->Option Y} {a m b n s:Nat} (sa:Srt lt f a m) (sb:Srt lt f m b) (hf:∀ t,a≤t->t<b->∃ x,f t=some x) (h1:a<=s) (h2:s<=m) (h3:m<=n - s) (h4:n - s<=b) (hn:s<=n)
  (q1:s<m->m<n - s->∀ x y,f s=some x->f (n - 1 - s)=some y->lt y x=true) (q2:a<s->n - s<b->∀ x y,f (s - 1)=some x->f (n - s)=some y->lt y x=false):
  (∀ i j x y,s≤i->i<m->m<=j->j<n - s->f i=some x->f j=some y->lt y x=true)/\(∀ i j x y,a≤i->i<s->n - s<=j->j<b->f i=some x->f j=some y->lt y x=false):=by
 refine⟨fun i j x y k1 k2 k3 k4 ex ey=> ?_,fun i j x y k1 k2 k3 k4 ex ey=> ?_⟩
 ·obtain⟨x0,e0⟩:=hf s (by omega) (by omega)
  obtain⟨y0,f0⟩:=hf (n - 1 - s) (by omega) (by omega)
  have c:=q1 (by omega) (by omega) x0 y0 e0 f0
  have cx:lt x x0=false:=by
   rcases Zaa s i with h|h
   ·exact sa s i x0 x (by omega) h (by omega) e0 ex
   ·obtain rfl:i=s:=by omega
    rw[e0] at ex;cases ex;exact hS.irrefl _
  have cy:lt y0 y=false:=by
   rcases Zaa j (n - 1 - s) with h|h
   ·exact sb j (n - 1 - s) y y0 (by omega) h (by omega) ey f0
   ·obtain rfl:j=n - 1 - s:=by omega
    rw[f0] at ey;cases ey;exact hS.irrefl _
  cases e:lt y x with
  |true=>rfl
  |false=>rw[hS.ntrans _ _ _ cy (hS.ntrans _ _ _ e cx)] at c;cases c
 ·obtain⟨x0,e0⟩:=hf (s - 1) (by omega) (by omega)
  obtain⟨y0,f0⟩:=hf (n - s) (by omega) (by omega)
  have c:=q2 (by omega) (by omega) x0 y0 e0 f0
  have cx:lt x0 x=false:=by
   rcases Zaa i (s - 1) with h|h
   ·exact sa i (s - 1) x x0 (by omega) h (by omega) ex e0
   ·obtain rfl:i=s - 1:=by omega
    rw[e0] at ex;cases ex;exact hS.irrefl _
  have cy:lt y y0=false:=by
   rcases Zaa (n - s) j with h|h
   ·exact sb (n - s) j y0 y (by omega) h (by omega) f0 ey
   ·obtain rfl:j=n - s:=by omega
    rw[f0] at ey;cases ey;exact hS.irrefl _
  exact hS.ntrans _ _ _ cy (hS.ntrans _ _ _ c cx)
theorem srt_up {L:List Y} (h:Srt lt (ga L) 0 L.length):Up lt L:=by
 rw[Up,List.pairwise_iff_getElem]
 intro i j hi hj hij
 exact h i j L[i] L[j] (Nat.zero_le _) hij hj (by simp[ga,hi]) (by simp[ga,hj])
end
section
variable {Y:Type} {lt:Y->Y->Bool}
open Go.Sort (SWO)
theorem Agb (hS:SWO lt) {f:Nat->Option Y} {a s i:Nat} {x:Y} (h1:a<=s) (h2:s<=i) (hx:f i=some x) (hf:∀ t,a≤t->t<i->∃ y,f t=some y) (sa:Srt lt f a i) (p1:∀ t y,s≤t->t<i->f t=some y->lt x y=true) (p2:a<s->∀ y,f (s - 1)=some y->lt x y=false):Srt lt (rotF f s i (i+1)) a (i+1):=by
 have lo:∀ t,t<s->rotF f s i (i+1) t=f t:=fun t ht=>by simp only[rotF];rw[if_neg (by omega),if_neg (by omega)]
 have at0:rotF f s i (i+1) s=f i:=by simp only[rotF];rw[if_pos (by omega)];congr 1;omega
 have up:∀ t,s<t->t<i+1->rotF f s i (i+1) t=f (t - 1):=fun t h h'=>by simp only[rotF];rw[if_neg (by omega),if_pos (by omega)];congr 1;omega
 intro p q y z hp hpq hq ep eq
 rcases Zap q s with c|c|c
 ·rw[lo p (by omega)] at ep;rw[lo q c] at eq;exact sa p q y z hp hpq (by omega) ep eq
 ·subst c
  rw[lo p (by omega)] at ep;rw[at0,hx] at eq;cases eq
  obtain⟨w,hw⟩:=hf (q - 1) (by omega) (by omega)
  have e1:=p2 (by omega) w hw
  rcases Zaa p (q - 1) with h|h
  ·exact hS.ntrans _ _ _ e1 (sa p (q - 1) y w hp h (by omega) ep hw)
  ·have:p=q - 1:=by omega
   subst this;rw[hw] at ep;cases ep;exact e1
 ·rw[up q c hq] at eq
  rcases Zap p s with d|d|d
  ·rw[lo p d] at ep;exact sa p (q - 1) y z hp (by omega) (by omega) ep eq
  ·subst d
   rw[at0,hx] at ep;cases ep
   exact SWO.asym hS (p1 (q - 1) z (by omega) (by omega) eq)
  ·rw[up p d (by omega)] at ep;exact sa (p - 1) (q - 1) y z (by omega) (by omega) (by omega) ep eq
theorem Aof (hS:SWO lt) {L M:List Y} {s i:Nat} {x:Y} (h2:s<=i) (hi:i<L.length) (hx:ga L i=some x) (p1:∀ t y,s≤t->t<i->ga L t=some y->lt x y=true) (h:ga M=rotF (ga L) s i (i+1)):Sim lt L M:=
 Aca hS h2 (by omega) (by omega) h fun p q y z k1 k2 k3 k4 ep eq=>by
  have:q=i:=by omega
  subst this
  rw[hx] at eq;cases eq
  exact p1 p y k1 k2 ep
theorem Aq8 (hS:SWO lt) {f:Nat->Option Y} {a i b:Nat} {x:Y} (h1:a+1<=i) (h2:i<=b) (hx:f a=some x) (sb:Srt lt f (a+1) b) (p1:∀ t y,a+1<=t->t<i->f t=some y->lt y x=true) (p2:∀ t y,i≤t->t<b->f t=some y->lt y x=false):Srt lt (rotF f a (a+1) i) a b:=by
 have lo:∀ t,a≤t->t<i - 1->rotF f a (a+1) i t=f (t+1):=fun t h ht=>by simp only[rotF];rw[if_pos (by omega)];congr 1;omega
 have at0:rotF f a (a+1) i (i - 1)=f a:=by simp only[rotF];rw[if_neg (by omega),if_pos (by omega)];congr 1;omega
 have up:∀ t,i≤t->rotF f a (a+1) i t=f t:=fun t h=>by simp only[rotF];rw[if_neg (by omega),if_neg (by omega)]
 intro p q y z hp hpq hq ep eq
 by_cases c1:q<i - 1
 ·rw[lo p hp (by omega)] at ep;rw[lo q (by omega) c1] at eq;exact sb _ _ y z (by omega) (by omega) (by omega) ep eq
 ·by_cases c2:q=i - 1
  ·subst c2
   rw[lo p hp (by omega)] at ep;rw[at0,hx] at eq;cases eq
   exact SWO.asym hS (p1 (p+1) y (by omega) (by omega) ep)
  ·rw[up q (by omega)] at eq
   by_cases c3:p<i - 1
   ·rw[lo p hp c3] at ep;exact sb _ _ y z (by omega) (by omega) hq ep eq
   ·by_cases c4:p=i - 1
    ·subst c4
     rw[at0,hx] at ep;cases ep
     exact p2 q z (by omega) hq eq
    ·rw[up p (by omega)] at ep;exact sb _ _ y z (by omega) hpq hq ep eq
theorem up_sim (hS:SWO lt) {L M:List Y} {a i:Nat} {x:Y} (h1:a+1<=i) (h2:i<=L.length) (hx:ga L a=some x) (p1:∀ t y,a+1<=t->t<i->ga L t=some y->lt y x=true) (h:ga M=rotF (ga L) a (a+1) i):Sim lt L M:=
 Aca hS (by omega) h1 h2 h fun p q y z k1 k2 k3 k4 ep eq=>by
  have:p=a:=by omega
  subst this
  rw[hx] at ep;cases ep
  exact p1 q z k3 k4 eq
theorem Cs {L:List Y} {i:Nat} (h:i<L.length):ga L i=some L[i]:=by simp[ga,h]
structure Outs (lt:Y->Y->Bool) (L M:List Y) (a b:Nat):Prop where
 len:M.length=L.length
 sim:Sim lt L M
 frm:Frm (ga L) (ga M) a b
 srt:Srt lt (ga M) a b
theorem Sim.perm (hS:SWO lt):∀ {l m:List Y},Sim lt l m->l.Perm m
 |[],m,s=>by
  cases m with
  |nil=>exact .refl _
  |cons b m=>have:=s.symm.mem hS (x:=b) (by simp);simp at this
 |a::l,m,s=>by
  have e:=s a
  rw[Zai,if_pos (A05 hS a)] at e
  obtain⟨m1,m2,hm,h1⟩:∃ m1 m2,m=m1++a::m2/\∀ z∈m1,Ir lt a z=false:=by
   have key:∀(m:List Y) (r:List Y),m.filter (Ir lt a)=a::r->∃ m1 m2,m=m1++a::m2/\∀ z∈m1,Ir lt a z=false:=by
    intro m
    induction m with
    |nil=>intro r h;simp at h
    |cons b m ih=>
     intro r h
     rw[Zai] at h
     split at h
     ·injection h with h1 h2
      subst h1
      exact⟨[],m,rfl,by simp⟩
     ·rename_i hb
      obtain⟨m1,m2,e1,e2⟩:=ih r h
      exact⟨b::m1,m2,by rw[e1];rfl,fun z hz=>by
       rcases Zao.1 hz with rfl|hz
       ·simpa using hb
       ·exact e2 z hz⟩
   exact key m _ e.symm
  subst hm
  have s2:Sim lt l (m1++m2):=fun y=>by
   have e:=s y
   rw[Zai,Zak,Zai] at e
   rw[Zak]
   by_cases hy:Ir lt y a=true
   ·rw[if_pos hy,if_pos hy] at e
    have:m1.filter (Ir lt y)=[]:=List.filter_eq_nil_iff.2 fun z hz hyz=>by
     have h3:=h1 z hz
     have:Ir lt a z=true:=by
      simp only[Ir,Zbb,Za8] at*
      exact⟨hS.ntrans _ _ _ hyz.1 hy.2,hS.ntrans _ _ _ hy.1 hyz.2⟩
     rw[h3] at this;cases this
    rw[this] at e ⊢
    simpa using e
   ·rw[if_neg hy,if_neg hy] at e
    exact e
  exact((Sim.perm hS s2).cons a).trans List.perm_middle.symm
end
section
open Go Go.RowKit Go.Sort
def Dt:Fn1:=⟨38,[],(rg [oV 10 (ki 0)] (oH 0 (.seq (rg [oM 11 10,oM 12 3,oB 13 .lss 11 12] (oJ 13 0)) (.seq (.blk 1 (.drw [] [oM 16 0,oM 17 1,oM 18 10,oB 19 .add 17 18,oM 20 0,oM 21 2,oM 22 10,oB 23 .add 21 22,oM 24 0,oM 25 2,oM 26 10,oB 27 .add 25 26,oI 28 17 24 27,oW 29 17 28,oM 30 0,oM 31 1,oM 32 10,oB 33 .add 31 32,oI 34 17 30 33,oW 35 17 34,oI 36 17 16 19,oS 17 36 29,oI 37 17 20 23,oS 17 37 35])) (.reg [oM 14 10,oZ 15 14 1,oM 10 15])))))⟩
theorem Gl:F3 true Tryz.prog 391=some Dt:=by kernel_rfl
def Eg:Fn1:=⟨58,[],(rg [oM 12 2,oM 13 1,oB 14 .sub 12 13,oM 10 14] (rg [oM 15 3,oM 16 2,oB 17 .sub 15 16,oM 11 17] (.seq (oH 0 (.seq (rg [oM 18 10,oM 19 11,oB 20 .neq 18 19] (oJ 20 0)) (.blk 1 (rg [oM 21 10,oM 22 11,oB 23 .gtr 21 22] (cn 23 (rg [oM 24 0,oM 25 2,oM 26 10,oB 27 .sub 25 26,oM 28 2,oM 29 11,oM 30 4,o 31 (.call 391 (oT [24,27,28,29,30]))] (.reg [oM 32 10,oM 33 11,oB 34 .sub 32 33,oM 10 34])) (rg [oM 35 0,oM 36 2,oM 37 10,oB 38 .sub 36 37,oM 39 2,oM 40 11,oB 41 .add 39 40,oM 42 10,oB 43 .sub 41 42,oM 44 10,oM 45 4,o 46 (.call 391 (oT [35,38,43,44,45]))] (.reg [oM 47 11,oM 48 10,oB 49 .sub 47 48,oM 11 49]))))))) (.reg [oM 50 0,oM 51 2,oM 52 10,oB 53 .sub 51 52,oM 54 2,oM 55 10,oM 56 4,o 57 (.call 391 (oT [50,53,54,55,56]))]))))⟩
theorem Ia:A8 Tryz.prog 370=some Eg:=by kernel_rfl
def Cu:Fn1:=⟨53,[],(rg [oM 10 1,oZ 11 10 1,oM 8 11] (oH 0 (.seq (rg [oM 12 8,oM 13 2,oB 14 .lss 12 13] (oJ 14 0)) (.seq (.blk 1 (rg [oM 17 8,oM 9 17] (oH 2 (.seq (dw [oM 18 9,oM 19 1,oB 20 .gtr 18 19,oM 21 20,jM 22 21 3,jM 23 21 0,jM 24 21 9,jI 25 21 17 23 24,jW 26 21 17 25,jM 27 21 0,jM 28 21 9,jE 29 21 .sub 28 1,jI 30 21 17 27 29,jW 31 21 17 30] [og 32 21 true (.callv (.t 22) (oT [26,31])),jE 33 21 .lss 32 0,oQ 34 21 33] (oJ 34 2)) (.seq (.blk 3 (.drw [] [oM 37 0,oM 38 9,oM 39 0,oM 40 9,oE 41 .sub 40 1,oM 42 0,oM 43 9,oE 44 .sub 43 1,oI 45 17 42 44,oW 46 17 45,oM 47 0,oM 48 9,oI 49 17 47 48,oW 50 17 49,oI 51 17 37 38,oS 17 51 46,oI 52 17 39 41,oS 17 52 50])) (.reg [oM 35 9,oE 36 .sub 35 1,oM 9 36])))))) (.reg [oM 15 8,oZ 16 15 1,oM 8 16])))))⟩
theorem Fk:F3 true Tryz.prog 312=some Cu:=by kernel_rfl
def UC:Type:={p:Unit_×List GV // p.2.length=17}
def pU:Pl UC:=⟨17,fun x=>x.1.2,fun x=>x.2⟩
def ltU (x y:UC):Bool:=Ja x.1.1 y.1.1
theorem A6q:SWO (fun a b:Unit_=>Ja a b) where
 irrefl:=fun a=>by simp[Ja,A28]
 trans:=fun a b c h k=>by
  simp only[Ja,A28] at*
  split at h<;>split at k<;>split<;>simp_all<;>omega
 ntrans:=fun a b c h k=>by
  simp only[Ja,A28] at*
  split at h<;>split at k<;>split<;>simp_all<;>omega
theorem Du:SWO ltU where
 irrefl:=fun a=>A6q.irrefl _
 trans:=fun a b c h k=>A6q.trans _ _ _ h k
 ntrans:=fun a b c h k=>A6q.ntrans _ _ _ h k
section
variable {N0 N U:St} {v g:GV} {L L0:List UC} {R:List Item} {a b m n:Nat}
theorem Rb {h:List Item} (H:Hx N0 U h) (i:Nat) (hi:h[i]? =some (.th (ow pU.kd v L))) {j:Nat} (hj:j<L.length):iadG 17 v (some j)=some (atz 17 v j)/\ldX N0 h U true 17 (atz 17 v j)=some (.agg (pU.enc L[j])):=by
 obtain⟨p1,-,-,p4,-⟩:=Aqs H i hi hj
 exact⟨p1,p4⟩
theorem Ajs {β:Type} {L:List β} {p q:Nat} (hp:p<L.length) (hq:q<L.length) (hpq:q<p):ga ((L.set p L[q]).set q L[p])=swF (ga L) q p 1:=by
 rw[List.set_comm _ _ (by omega),Aiq hq hp hpq]
theorem Air (H:Hx N0 N (.th (ow pU.kd v L)::R)) (hab:a+n<=b) (hb:b+n<=L.length) (hs:L.length<=1099511627776):∃ q U,Ret Tryz.prog 391 [v,gi a,gi b,gi n,g] N q U/\q= .tup []/\∃ M,Hx N0 U (.th (ow pU.kd v M)::R)/\M.length=L.length/\ga M=swF (ga L) a b n:=by
 refine Bg Gl (Z0z rfl) H ?_
 simp only[go_sem,Dt]
 refine Ax n 10 0 (fun i env h=>env 0=v/\env 1=gi a/\env 2=gi b/\env 3=gi n/\∃ M,M.length=L.length/\ga M=swF (ga L) a b i/\h= .th (ow pU.kd v M)::R) (fun env h=>∃ M,M.length=L.length/\ga M=swF (ga L) a b n/\h= .th (ow pU.kd v M)::R) (fun _ _=>False) _ H (rfl) ⟨rfl,rfl,rfl,rfl,L,rfl,(Asx _).symm,rfl⟩ ?_ ?_ ?_ (fun _ _ _ _ h=>h.elim)
 ·rintro J Yq Wq hJ hY hW i env h' U hi ei c0 H ⟨e0,e1,e2,e3,M,hM,hE,rfl⟩
  have hp:a+i<M.length:=by omega
  have hq:b+i<M.length:=by omega
  obtain⟨p1,p4⟩:=Rb H 0 rfl hp
  obtain⟨q1,q4⟩:=Rb H 0 rfl hq
  have n1:Bu (some (.int .i64 ((a:Int)+i)))=some (a+i):=Df (by simp)
  have n2:Bu (some (.int .i64 ((b:Int)+i)))=some (b+i):=Df (by simp)
  simp(disch:=omega) only[go_sem,c0,e0,e1,e2,e3,ei,n1,n2,p1,p4,q1,q4]
  refine Rn H 0 rfl hp M[b+i] rfl rfl (by decide) fun U1 H1=> ?_
  simp only[go_sem,c0,e0,e1,e2,e3,ei,n1,n2,p1,p4,q1,q4]
  refine Rn H1 0 rfl (by simpa using hq) M[a+i] rfl rfl (by decide) fun U2 H2=> ?_
  simp(disch:=omega) only[go_sem,e0,e1,e2,e3,ei]
  exact hJ _ _ _ _ H2 ⟨e0,e1,e2,e3,_,by simp[hM],by rw[Aiq hp hq (by omega),hE];exact Asw _ (by omega),rfl⟩
 ·rintro Yq hY env h' U ej c0 H ⟨e0,e1,e2,e3,M,hM,hE,rfl⟩
  simp only[go_sem,c0,e3,ej]
  exact hY _ _ _ H ⟨M,hM,hE,rfl⟩
 ·rintro env h' U H ⟨M,hM,hE,rfl⟩
  simp only[go_sem]
  exact fun _=>⟨_,rfl,rfl,M,H,hM,hE⟩
theorem Ajt (H:Hx N0 N (.th (ow pU.kd v L)::R)) (ham:a<m) (hmb:m<b) (hb:b<=L.length) (hs:L.length<=1099511627776):∃ q U,Ret Tryz.prog 370 [v,gi a,gi m,gi b,g] N q U/\q= .tup []/\∃ M,Hx N0 U (.th (ow pU.kd v M)::R)/\M.length=L.length/\ga M=rotF (ga L) a m b:=by
 refine Bg Ia (Z0z rfl) H ?_
 obtain⟨i0,hi0⟩:∃ q:Nat,q=m - a:=⟨_,rfl⟩
 obtain⟨j0,hj0⟩:∃ q:Nat,q=b - m:=⟨_,rfl⟩
 have s1:(m:Int) - a=i0:=by omega
 have s2:(b:Int) - m=j0:=by omega
 simp(disch:=omega) only[go_sem,Eg,s1,s2]
 refine J4 (i0+j0) 0 (fun k env h=>env 0=v/\env 2=gi m/\env 4=g/\∃(i j:Nat) (M:List UC),env 10=gi i/\env 11=gi j/\k=i+j/\0<i/\0<j/\i<=i0/\j<=j0/\M.length=L.length/\rotF (ga M) (m - i) m (m+j)=rotF (ga L) a m b/\h= .th (ow pU.kd v M)::R) (fun env h=>env 0=v/\env 2=gi m/\env 4=g/\∃(i:Nat) (M:List UC),env 10=gi i/\0<i/\i<=i0/\i<=j0/\M.length=L.length/\swF (ga M) (m - i) m i=rotF (ga L) a m b/\h= .th (ow pU.kd v M)::R) (fun _ _=>False) _ H ⟨rfl,rfl,rfl,i0,j0,L,rfl,rfl,rfl,by omega,by omega,by omega,by omega,rfl,by rw[hi0,hj0,show m - (m - a)=a by omega,show m+(b - m)=b by omega],rfl⟩ ?_ ?_ (fun _ _ _ _ h=>h.elim)
 ·rintro J Yq Wq hJ hY hW k env h' U H ⟨e0,e2,e4,i,j,M,e10,e11,rfl,hi,hj,hi',hj',hM,hE,rfl⟩
  rcases Zap i j with hl|rfl|hl
  ·have c1:((i:Int) != j)=true:=by simp;omega
   have c2:decide ((j:Int)<i)=false:=by simp;omega
   have s3:(m:Int) - i=((m - i:Nat):Int):=by omega
   have s4:(m:Int)+j - i=((m+j - i:Nat):Int):=by omega
   have s5:(j:Int) - i=((j - i:Nat):Int):=by omega
   obtain⟨x1,hx1⟩:∃ q:Nat,q=m - i:=⟨_,rfl⟩
   obtain⟨x2,hx2⟩:∃ q:Nat,q=m+j - i:=⟨_,rfl⟩
   obtain⟨x3,hx3⟩:∃ q:Nat,q=j - i:=⟨_,rfl⟩
   rw[<- hx1] at s3;rw[<- hx2] at s4;rw[<- hx3] at s5
   simp(disch:=omega) only[go_sem,e0,e2,e4,e10,e11,c1,c2,s3,s4,s5]
   obtain⟨_,U1,R1,rfl,Nq,H1,hN,hE1⟩:=Air (g:=g) (a:=x1) (b:=x2) (n:=i) H (by omega) (by omega) (by omega)
   refine by_m R1 H1 ?_
   simp(disch:=omega) only[go_sem,e0,e2,e4,e10,e11,s5]
   refine⟨i+x3,by omega,hJ _ _ _ _ H1 ⟨e0,e2,e4,i,x3,Nq,e10,rfl,rfl,hi,by omega,hi',by omega,by omega,?_,rfl⟩⟩
   rw[hE1,hx1,hx2,hx3,rot_lt _ (by omega) hl,hE]
  ·have c1:((i:Int) != i)=false:=by simp
   simp only[go_sem,e0,e2,e4,e10,e11,c1]
   exact hY _ _ _ H ⟨e0,e2,e4,i,M,e10,hi,hi',hj',hM,by rw[rot_eq _ (by omega)];exact hE,rfl⟩
  ·have c1:((i:Int) != j)=true:=by simp;omega
   have c2:decide ((j:Int)<i)=true:=by simp;omega
   have s3:(m:Int) - i=((m - i:Nat):Int):=by omega
   have s5:(i:Int) - j=((i - j:Nat):Int):=by omega
   obtain⟨x1,hx1⟩:∃ q:Nat,q=m - i:=⟨_,rfl⟩
   obtain⟨x3,hx3⟩:∃ q:Nat,q=i - j:=⟨_,rfl⟩
   rw[<- hx1] at s3;rw[<- hx3] at s5
   simp(disch:=omega) only[go_sem,e0,e2,e4,e10,e11,c1,c2,s3,s5]
   obtain⟨_,U1,R1,rfl,Nq,H1,hN,hE1⟩:=Air (g:=g) (a:=x1) (b:=m) (n:=j) H (by omega) (by omega) (by omega)
   refine by_m R1 H1 ?_
   simp(disch:=omega) only[go_sem,e0,e2,e4,e10,e11,s5]
   refine⟨x3+j,by omega,hJ _ _ _ _ H1 ⟨e0,e2,e4,x3,j,Nq,rfl,e11,rfl,by omega,hj,by omega,hj',by omega,?_,rfl⟩⟩
   rw[hE1,hx1,hx3,rot_gt _ (by omega) hl,hE]
 ·rintro env h' U H ⟨e0,e2,e4,i,M,e10,hi,hi',hj',hM,hE,rfl⟩
  have s3:(m:Int) - i=((m - i:Nat):Int):=by omega
  obtain⟨x1,hx1⟩:∃ q:Nat,q=m - i:=⟨_,rfl⟩
  rw[<- hx1] at s3
  simp(disch:=omega) only[go_sem,e0,e2,e4,e10,s3]
  obtain⟨_,U1,R1,rfl,Nq,H1,hN,hE1⟩:=Air (g:=g) (a:=x1) (b:=m) (n:=i) H (by omega) (by omega) (by omega)
  refine by_m R1 H1 ?_
  simp only[go_sem]
  exact fun _=>⟨_,rfl,rfl,Nq,H1,by omega,by rw[hE1,hx1,hE]⟩
theorem Aog {β:Type} (f:Nat->β) {i:Nat}:rotF f i i (i+1)=f:=Aip f
def Aoh (N0:St) (R:List Item) (L0:List UC):Prop:=∀ U v L,Hx N0 U (.th (ow pU.kd v L)::R)->∀ x∈L0,∀ y∈L0,Ret Tryz.prog 104 [.agg (pU.enc x),.agg (pU.enc y)] U (gi (cmpU x.1.1 y.1.1)) U
theorem Agc (x y:UC):decide (cmpU x.1.1 y.1.1<0)=ltU x y:=Asu _ _
theorem rot_lo {β:Type} (f:Nat->β) {j i t:Nat} (h:t<j):rotF f j i (i+1) t=f t:=by simp only[rotF];rw[if_neg (by omega),if_neg (by omega)]
theorem rot_hd {β:Type} (f:Nat->β) {j i:Nat} (h:j<=i):rotF f j i (i+1) j=f i:=by simp only[rotF];rw[if_pos (by omega)];congr 1;omega
theorem Aju (C:Aoh N0 R L0) (H:Hx N0 N (.th (ow pU.kd v L)::R)) (hm:∀ x∈L,x∈L0) (hab:a<=b) (hb:b<=L.length) (hs:L.length<=1099511627776):∃ q U,Ret Tryz.prog 312 [v,gi a,gi b,.fn 104 []] N q U/\q= .tup []/\∃ M,Hx N0 U (.th (ow pU.kd v M)::R)/\Outs ltU L M a b:=by
 refine Bg Fk (Z0z rfl) H ?_
 simp(disch:=omega) only[go_sem,Cu]
 refine J4 (b - (a+1)) 0 (fun k env h=>env 0=v/\env 1=gi a/\env 2=gi b/\env 3= .fn 104 []/\∃(i:Nat) (M:List UC),env 8=gi i/\k=b - i/\a+1<=i/\(i<=b∨i=a+1)/\M.length=L.length/\Sim ltU L M/\Frm (ga L) (ga M) a b/\Srt ltU (ga M) a i/\h= .th (ow pU.kd v M)::R) (fun env h=>∃ M,Outs ltU L M a b/\h= .th (ow pU.kd v M)::R) (fun _ _=>False) _ H ⟨rfl,rfl,rfl,rfl,a+1,L,rfl,rfl,by omega,.inr rfl,rfl,Sim.refl _,Frm.refl _ _ _,Srt.one (by omega),rfl⟩ ?_ ?_ (fun _ _ _ _ h=>h.elim)
 ·rintro J Yq Wq hJ hY hW k env h' U H ⟨e0,e1,e2,e3,i,M,e8,rfl,hi1,hi2,hM,hS,hF,hT,rfl⟩
  rcases Zaa i b with hi|hi
  ·have c0:decide ((i:Int)<b)=true:=by simp;omega
   have hml:i<M.length:=by omega
   have hx:ga M i=some M[i]:=Cs hml
   have hmM:∀ x∈M,x∈L0:=fun x hx=>hm x ((Sim.perm Du hS).mem_iff.2 hx)
   simp only[go_sem,c0,e0,e1,e2,e3,e8]
   refine J4 i 2 (fun k env h=>env 0=v/\env 1=gi a/\env 2=gi b/\env 3= .fn 104 []/\env 8=gi i/\env 9=gi k/\a<=k/\k<=i/\(∀ t y,k≤t->t<i->ga M t=some y->ltU M[i] y=true)/\∃ Nq:List UC,Nq.length=L.length/\ga Nq=rotF (ga M) k i (i+1)/\h= .th (ow pU.kd v Nq)::R) (fun env h=>env 0=v/\env 1=gi a/\env 2=gi b/\env 3= .fn 104 []/\env 8=gi i/\∃ Nq:List UC,Nq.length=L.length/\Sim ltU L Nq/\Frm (ga L) (ga Nq) a b/\Srt ltU (ga Nq) a (i+1)/\h= .th (ow pU.kd v Nq)::R) (fun _ _=>False) _ H ⟨e0,e1,e2,e3,e8,rfl,by omega,by omega,fun t y h1 h2=>by omega,M,hM,(Aog _).symm,rfl⟩ ?_ ?_ (fun _ _ _ _ h=>h.elim)
   ·clear H e0 e1 e2 e3 e8
    rintro J2 Yq2 Wq2 hJ2 hY2 hW2 j env h' U H ⟨e0,e1,e2,e3,e8,e9,haj,hji,hp,Nq,hN,hE,rfl⟩
    have fin:(a<j->∀ y,ga M (j - 1)=some y->ltU M[i] y=false)->Sim ltU L Nq/\Frm (ga L) (ga Nq) a b/\Srt ltU (ga Nq) a (i+1):=fun h2=>by
     refine⟨hS.trans (Aof Du hji hml hx hp hE),hF.trans ?_,?_⟩
     ·rw[hE];exact(Frm.rot _ hji (Nat.le_succ i)).wide haj (by omega)
     ·rw[hE];exact Agb Du haj hji hx (fun t h1 h2=>⟨_,Cs (by omega)⟩) hT hp h2
    rcases Zaa a j with hc|hc
    ·have c1:decide ((a:Int)<j)=true:=by simp;omega
     obtain⟨t,rfl⟩:∃ t,j=t+1:=⟨j - 1,by omega⟩
     have n1:Bu (some (.int .i64 ((t:Int)+1)))=some (t+1):=Df (by simp)
     have m1:(t:Int)+1 - 1=t:=by omega
     have c1:decide ((a:Int)<(t:Int)+1)=true:=c1
     have e9:env 9=gi ((t:Int)+1):=e9
     have h1:t+1<Nq.length:=by omega
     have h0:t<Nq.length:=by omega
     have k1:Nq[t+1]=M[i]:=by
      have:=congrFun hE (t+1)
      rw[rot_hd _ hji,hx,Cs h1] at this
      exact Zbj.inj this
     have k0:ga M t=some Nq[t]:=by
      have:=congrFun hE t
      rw[rot_lo _ (by omega),Cs h0] at this
      exact this.symm
     obtain⟨p1,p4⟩:=Rb H 0 rfl h1
     obtain⟨q1,q4⟩:=Rb H 0 rfl h0
     have R1:=C _ _ _ H Nq[t+1] (by rw[k1];exact hmM _ (Zad _)) Nq[t] (hmM _ (by
      have e:M[t]'(by omega)=Nq[t]:=Zbj.inj ((Cs (by omega)).symm.trans k0)
      rw[<- e];exact Zad _))
     have kl:=Agc Nq[t+1] Nq[t]
     simp(disch:=omega) only[go_sem,e0,e1,e2,e3,e8,e9,c1,n1,m1,A0,p1,p4,q1,q4]
     refine by_r H R1 ?_
     cases hl:ltU Nq[t+1] Nq[t] with
     |true=>
      simp(disch:=omega) only[go_sem,e0,e1,e2,e3,e8,e9,c1,n1,m1,A0,p1,p4,q1,q4,kl,hl]
      refine Rn H 0 rfl h1 Nq[t] rfl rfl (by decide) fun U1 H1=> ?_
      simp only[go_sem,e0,e1,e2,e3,e8,e9,c1,n1,m1,A0,p1,p4,q1,q4]
      refine Rn H1 0 rfl (by simpa using h0) Nq[t+1] rfl rfl (by decide) fun U2 H2=> ?_
      simp(disch:=omega) only[go_sem,e0,e1,e2,e3,e8,e9,m1]
      refine⟨t,by omega,hJ2 _ _ _ _ H2 ⟨e0,e1,e2,e3,e8,rfl,by omega,by omega,fun u y h1 h2 hu=> ?_,_,by simp[hN],by rw[Ajs h1 h0 (by omega),hE];exact Ar1 _ (by omega),rfl⟩⟩
      rcases Zaa t u with h|h
      ·exact hp u y (by omega) h2 hu
      ·have:u=t:=by omega
       subst this
       rw[k0] at hu;cases hu
       rw[<- k1];exact hl
     |false=>
      simp only[go_sem,e0,e1,e2,e3,e8,e9,c1,n1,m1,kl,hl]
      obtain⟨f1,f2,f3⟩:=fin fun _ y hy=>by
       rw[show t+1 - 1=t from rfl,k0] at hy;cases hy
       rw[<- k1];exact hl
      exact hY2 _ _ _ H ⟨e0,e1,e2,e3,e8,Nq,hN,f1,f2,f3,rfl⟩
    ·have c1:decide ((a:Int)<j)=false:=by simp;omega
     simp only[go_sem,e0,e1,e2,e3,e8,e9,c1]
     obtain⟨f1,f2,f3⟩:=fin fun h=>by omega
     exact hY2 _ _ _ H ⟨e0,e1,e2,e3,e8,Nq,hN,f1,f2,f3,rfl⟩
   ·clear H e0 e1 e2 e3 e8
    rintro env h' U H ⟨e0,e1,e2,e3,e8,Nq,hN,f1,f2,f3,rfl⟩
    simp(disch:=omega) only[go_sem,e0,e1,e2,e3,e8]
    exact⟨b - (i+1),by omega,hJ _ _ _ _ H ⟨e0,e1,e2,e3,i+1,Nq,rfl,rfl,by omega,.inl (by omega),hN,f1,f2,f3,rfl⟩⟩
  ·have c0:decide ((i:Int)<b)=false:=by simp;omega
   simp only[go_sem,c0,e0,e1,e2,e3,e8]
   exact hY _ _ _ H ⟨M,⟨hM,hS,hF,fun p q y z h1 h2 h3=>hT p q y z h1 h2 (by omega)⟩,rfl⟩
 ·rintro env h' U H ⟨M,hO,rfl⟩
  simp only[go_sem]
  exact fun _=>⟨_,rfl,rfl,M,H,hO⟩
end
end
section
open Go Go.RowKit Go.Sort
def B4:Fn1:=⟨220,[],(.seq (rg [oM 25 2,oM 26 1,oB 27 .sub 25 26,oE 28 .eql 27 1] (oG 28 (rg [oM 29 2,oM 10 29] (rg [oM 30 3,oM 11 30] (.seq (oH 0 (.seq (rg [oM 31 10,oM 32 11,oB 33 .lss 31 32] (oJ 33 0)) (.blk 1 (rg [oM 34 10,oM 35 11,oB 36 .add 34 35,o 37 (.cvi .u64 (.t 36)),o 38 (.bin .shr (.t 37) (.k (.int .u64 1))),o 39 (.cvi .i64 (.t 38)),oM 12 39] (dw [] [oM 40 4,oM 41 0,oM 42 12,oI 43 17 41 42,oW 44 17 43,oM 45 0,oM 46 1,oI 47 17 45 46,oW 48 17 47,o 49 (.callv (.t 40) (oT [44,48])),oE 50 .lss 49 0] (cn 50 (.reg [oM 51 12,oZ 52 51 1,oM 10 52]) (.reg [oM 53 12,oM 11 53]))))))) (.seq (rg [oM 54 1,oM 13 54] (oH 2 (.seq (rg [oM 55 13,oM 56 10,oE 57 .sub 56 1,oB 58 .lss 55 57] (oJ 58 2)) (.seq (.blk 3 (.drw [] [oM 61 0,oM 62 13,oM 63 0,oM 64 13,oZ 65 64 1,oM 66 0,oM 67 13,oZ 68 67 1,oI 69 17 66 68,oW 70 17 69,oM 71 0,oM 72 13,oI 73 17 71 72,oW 74 17 73,oI 75 17 61 62,oS 17 75 70,oI 76 17 63 65,oS 17 76 74])) (.reg [oM 59 13,oZ 60 59 1,oM 13 60]))))) .ret)))))) (.seq (rg [oM 77 3,oM 78 2,oB 79 .sub 77 78,oE 80 .eql 79 1] (oG 80 (rg [oM 81 1,oM 14 81] (rg [oM 82 2,oM 15 82] (.seq (oH 4 (.seq (rg [oM 83 14,oM 84 15,oB 85 .lss 83 84] (oJ 85 4)) (.blk 5 (rg [oM 86 14,oM 87 15,oB 88 .add 86 87,o 89 (.cvi .u64 (.t 88)),o 90 (.bin .shr (.t 89) (.k (.int .u64 1))),o 91 (.cvi .i64 (.t 90)),oM 16 91] (dw [] [oM 92 4,oM 93 0,oM 94 2,oI 95 17 93 94,oW 96 17 95,oM 97 0,oM 98 16,oI 99 17 97 98,oW 100 17 99,o 101 (.callv (.t 92) (oT [96,100])),oE 102 .lss 101 0,oU 103 102] (cn 103 (.reg [oM 104 16,oZ 105 104 1,oM 14 105]) (.reg [oM 106 16,oM 15 106]))))))) (.seq (rg [oM 107 2,oM 17 107] (oH 6 (.seq (rg [oM 108 17,oM 109 14,oB 110 .gtr 108 109] (oJ 110 6)) (.seq (.blk 7 (.drw [] [oM 113 0,oM 114 17,oM 115 0,oM 116 17,oE 117 .sub 116 1,oM 118 0,oM 119 17,oE 120 .sub 119 1,oI 121 17 118 120,oW 122 17 121,oM 123 0,oM 124 17,oI 125 17 123 124,oW 126 17 125,oI 127 17 113 114,oS 17 127 122,oI 128 17 115 117,oS 17 128 126])) (.reg [oM 111 17,oE 112 .sub 111 1,oM 17 112]))))) .ret)))))) (rg [oM 129 1,oM 130 3,oB 131 .add 129 130,o 132 (.cvi .u64 (.t 131)),o 133 (.bin .shr (.t 132) (.k (.int .u64 1))),o 134 (.cvi .i64 (.t 133)),oM 18 134] (rg [oM 135 18,oM 136 2,oB 137 .add 135 136,oM 19 137] (rg [oV 20 (ki 0),oV 21 (ki 0)] (.seq (rg [oM 138 2,oM 139 18,oB 140 .gtr 138 139] (cn 140 (rg [oM 141 19,oM 142 3,oB 143 .sub 141 142,oM 20 143] (.reg [oM 144 18,oM 21 144])) (rg [oM 145 1,oM 20 145] (.reg [oM 146 2,oM 21 146])))) (rg [oM 147 19,oE 148 .sub 147 1,oM 22 148] (.seq (oH 8 (.seq (rg [oM 149 20,oM 150 21,oB 151 .lss 149 150] (oJ 151 8)) (.blk 9 (rg [oM 152 20,oM 153 21,oB 154 .add 152 153,o 155 (.cvi .u64 (.t 154)),o 156 (.bin .shr (.t 155) (.k (.int .u64 1))),o 157 (.cvi .i64 (.t 156)),oM 23 157] (dw [] [oM 158 4,oM 159 0,oM 160 22,oM 161 23,oB 162 .sub 160 161,oI 163 17 159 162,oW 164 17 163,oM 165 0,oM 166 23,oI 167 17 165 166,oW 168 17 167,o 169 (.callv (.t 158) (oT [164,168])),oE 170 .lss 169 0,oU 171 170] (cn 171 (.reg [oM 172 23,oZ 173 172 1,oM 20 173]) (.reg [oM 174 23,oM 21 174]))))))) (rg [oM 175 19,oM 176 20,oB 177 .sub 175 176,oM 24 177] (.seq (rg [oM 178 20,oM 179 2,oB 180 .lss 178 179,oM 181 180,jM 182 181 2,jM 183 181 24,jB 184 181 .lss 182 183,oQ 185 181 184] (oG 185 (.reg [oM 186 0,oM 187 20,oM 188 2,oM 189 24,oM 190 4,o 191 (.call 370 (oT [186,187,188,189,190]))]))) (.seq (rg [oM 192 1,oM 193 20,oB 194 .lss 192 193,oM 195 194,jM 196 195 20,jM 197 195 18,jB 198 195 .lss 196 197,oQ 199 195 198] (oG 199 (.reg [oM 200 0,oM 201 1,oM 202 20,oM 203 18,oM 204 4,o 205 (.call 313 (oT [200,201,202,203,204]))]))) (rg [oM 206 18,oM 207 24,oB 208 .lss 206 207,oM 209 208,jM 210 209 24,jM 211 209 3,jB 212 209 .lss 210 211,oQ 213 209 212] (oG 213 (.reg [oM 214 0,oM 215 18,oM 216 24,oM 217 3,oM 218 4,o 219 (.call 313 (oT [214,215,216,217,218]))]))))))))))))))⟩
theorem Hc:F3 true Tryz.prog 313=some B4:=by kernel_rfl
section cuts
variable {P:Program} {N:St} {env:Env} {h:List Item} {U:St} {Q:Qx} {a b c d:Cd}
theorem A06 (Z:Env->List Item->St->Prop) (h1:sxc P N a (fun e env h U=>e= .nxt/\Z env h U) env h U) (h2:∀ env h U,Z env h U->sxc P N d Q env h U):sxc P N (.seq a d) Q env h U:=by
 rw[xc_seq]
 refine Vq (fun e env h U q=> ?_) h1
 obtain⟨rfl,q⟩:=q
 exact h2 _ _ _ q
end cuts
theorem A6r {i j:Nat} (h:i+j<=1125899906842624):IntKind.u64.wrap ((i:Int)+j)=(i:Int)+j/\Hd .shr .u64 ((i:Int)+j) 1=some (.int .u64 (((i+j) / 2:Nat):Int)):=by
 refine⟨?_,?_⟩
 ·exact Sr (by omega) (by omega)
 ·have:=shrU (x:=i+j) (c:=1) (by decide)
  simpa using this
section
variable {N0:St} {v:GV} {L0:List UC} {R:List Item}
theorem Qu (C:Aoh N0 R L0):∀(w a m b:Nat) (L:List UC) (N:St),b - a<=w->Hx N0 N (.th (ow pU.kd v L)::R)->(∀ x∈L,x∈L0)->a<m->m<b->b<=L.length->L.length<=1099511627776->Srt ltU (ga L) a m->Srt ltU (ga L) m b->∃ q U,Ret Tryz.prog 313 [v,gi a,gi m,gi b,.fn 104 []] N q U/\q= .tup []/\∃ M,Hx N0 U (.th (ow pU.kd v M)::R)/\Outs ltU L M a b
 |0,a,m,b,L,N,hw,H,hm,ham,hmb,hb,hs,sa,sb=>by omega
 |w+1,a,m,b,L,N,hw,H,hm,ham,hmb,hb,hs,sa,sb=>by
  refine Bg Hc (Z0z rfl) H ?_
  obtain⟨d1,hd1⟩:∃ q:Nat,q=m - a:=⟨_,rfl⟩
  have s1:(m:Int) - a=d1:=by omega
  obtain⟨d2,hd2⟩:∃ q:Nat,q=b - m:=⟨_,rfl⟩
  have s2:(b:Int) - m=d2:=by omega
  have pres:∀ t (ht:t<L.length),L[t]∈L0:=fun t ht=>hm _ (Zad ht)
  by_cases c1:d1=1
  ·have b1:((d1:Int)==1)=true:=by simp;omega
   have hx:ga L a=some L[a]:=Cs (by omega)
   obtain rfl:m=a+1:=by omega
   have s1:((a:Int)+1) - a=d1:=s1
   simp(disch:=omega) only[go_sem,B4,s1,b1]
   refine J4 (b - (a+1)) 0 (fun k env h=>env 0=v/\env 1=gi a/\env 4= .fn 104 []/\∃ i j:Nat,env 10=gi i/\env 11=gi j/\k=j - i/\a+1<=i/\i<=j/\j<=b/\(∀ t y,a+1<=t->t<i->ga L t=some y->ltU y L[a]=true)/\(∀ t y,j≤t->t<b->ga L t=some y->ltU y L[a]=false)/\h= .th (ow pU.kd v L)::R) (fun env h=>env 0=v/\env 1=gi a/\∃ i:Nat,env 10=gi i/\a+1<=i/\i<=b/\(∀ t y,a+1<=t->t<i->ga L t=some y->ltU y L[a]=true)/\(∀ t y,i≤t->t<b->ga L t=some y->ltU y L[a]=false)/\h= .th (ow pU.kd v L)::R) (fun _ _=>False) _ H ⟨by simp only[go_sem],by simp only[go_sem],by simp only[go_sem],a+1,b,by simp only[go_sem],by simp only[go_sem],rfl,by omega,by omega,by omega,fun t y h1 h2=>by omega,fun t y h1 h2=>by omega,rfl⟩ ?_ ?_ (fun _ _ _ _ h=>h.elim)
   ·clear H
    rintro J Yq Wq hJ hY hW k env h' U H ⟨e0,e1,e4,i,j,e10,e11,rfl,hi,hij,hj,p1,p2,rfl⟩
    rcases Zaa i j with hl|hl
    ·have c0:decide ((i:Int)<j)=true:=by simp;omega
     obtain⟨u1,u2⟩:=A6r (i:=i) (j:=j) (by omega)
     obtain⟨q,hq⟩:∃ q:Nat,q=(i+j) / 2:=⟨_,rfl⟩
     rw[<- hq] at u2
     have hqL:q<L.length:=by omega
     obtain⟨x1,x4⟩:=Rb H 0 rfl hqL
     obtain⟨y1,y4⟩:=Rb H 0 rfl (show a<L.length by omega)
     have R1:=C _ _ _ H L[q] (pres _ _) L[a] (pres _ _)
     have kl:=Agc L[q] L[a]
     simp(disch:=omega) only[go_sem,c0,e0,e1,e4,e10,e11,u1,u2,A0,x1,x4,y1,y4]
     refine by_r H R1 ?_
     cases hl:ltU L[q] L[a] with
     |true=>
      simp(disch:=omega) only[go_sem,e0,e1,e4,e10,e11,kl,hl]
      refine⟨j - (q+1),by omega,hJ _ _ _ _ H ⟨by simp only[go_sem,e0],by simp only[go_sem,e1],by simp only[go_sem,e4],q+1,j,by simp only[go_sem],by simp only[go_sem,e11],rfl,by omega,by omega,hj,fun t y h1 h2 hy=> ?_,p2,rfl⟩⟩
      rcases Zaa t q with h|h
      ·have h3:=sb t q y L[q] h1 h (by omega) hy (Cs hqL)
       cases h4:ltU y L[a] with
       |true=>rfl
       |false=>rw[Du.ntrans _ _ _ h3 h4] at hl;cases hl
      ·obtain rfl:t=q:=by omega
       rw[Cs hqL] at hy;cases hy;exact hl
     |false=>
      simp only[go_sem,e0,e1,e4,e10,e11,kl,hl]
      refine⟨q - i,by omega,hJ _ _ _ _ H ⟨by simp only[go_sem,e0],by simp only[go_sem,e1],by simp only[go_sem,e4],i,q,by simp only[go_sem,e10],by simp only[go_sem],rfl,by omega,by omega,by omega,p1,fun t y h1 h2 hy=> ?_,rfl⟩⟩
      rcases Zaa q t with h|h
      ·exact Du.ntrans _ _ _ (sb q t L[q] y (by omega) h h2 (Cs hqL) hy) hl
      ·obtain rfl:t=q:=by omega
       rw[Cs hqL] at hy;cases hy;exact hl
    ·have c0:decide ((i:Int)<j)=false:=by simp;omega
     simp only[go_sem,c0,e0,e1,e4,e10,e11]
     exact hY _ _ _ H ⟨by simp only[go_sem,e0],by simp only[go_sem,e1],i,by simp only[go_sem,e10],hi,by omega,p1,fun t y h1=>p2 t y (by omega),rfl⟩
   ·clear H
    rintro env h' U H ⟨e0,e1,i,e10,hi,hib,p1,p2,rfl⟩
    obtain⟨i1,rfl⟩:∃ i1,i=i1+1:=⟨i - 1,by omega⟩
    have s3:((i1:Int)+1) - 1=i1:=by omega
    have e10:env 10=gi ((i1:Int)+1):=e10
    simp only[go_sem,e0,e1,e10]
    refine J4 (i1 - a) 2 (fun k env h=>env 0=v/\env 10=gi ((i1:Int)+1)/\∃(j:Nat) (Nq:List UC),env 13=gi j/\k=i1 - j/\a<=j/\j<=i1/\Nq.length=L.length/\ga Nq=rotF (ga L) a (a+1) (j+1)/\h= .th (ow pU.kd v Nq)::R) (fun env h=>∃ Nq:List UC,Nq.length=L.length/\ga Nq=rotF (ga L) a (a+1) (i1+1)/\h= .th (ow pU.kd v Nq)::R) (fun _ _=>False) _ H ⟨by simp only[go_sem,e0],by simp only[go_sem,e10],a,L,by simp only[go_sem],rfl,by omega,by omega,rfl,(Aoe _).symm,rfl⟩ ?_ ?_ (fun _ _ _ _ h=>h.elim)
    ·clear H e0 e1 e10
     rintro J Yq Wq hJ hY hW k env h' U H ⟨e0,e10,j,Nq,e13,rfl,haj,hj,hN,hE,rfl⟩
     rcases Zaa j i1 with hl|hl
     ·have c0:decide ((j:Int)<i1)=true:=by simp;omega
      have h0:j<Nq.length:=by omega
      have h1:j+1<Nq.length:=by omega
      have n1:Bu (some (.int .i64 ((j:Int)+1)))=some (j+1):=Df (by simp)
      obtain⟨x1,x4⟩:=Rb H 0 rfl h0
      obtain⟨y1,y4⟩:=Rb H 0 rfl h1
      simp(disch:=omega) only[go_sem,e0,e10,s3,c0,e13,A0,n1,x1,x4,y1,y4]
      refine Rn H 0 rfl h0 Nq[j+1] rfl rfl (by decide) fun U1 H1=> ?_
      simp only[go_sem,e0,e10,s3,c0,e13,A0,n1,x1,x4,y1,y4]
      refine Rn H1 0 rfl (by simpa using h1) Nq[j] rfl rfl (by decide) fun U2 H2=> ?_
      simp(disch:=omega) only[go_sem,e0,e10,e13]
      exact⟨i1 - (j+1),by omega,hJ _ _ _ _ H2 ⟨by simp only[go_sem,e0],by simp only[go_sem,e10],j+1,_,by simp only[go_sem],rfl,by omega,by omega,by simp[hN],by rw[Aiq h0 h1 (by omega),hE];exact rot_up _ (by omega),rfl⟩⟩
     ·have c0:decide ((j:Int)<i1)=false:=by simp;omega
      simp(disch:=omega) only[go_sem,e0,e10,s3,c0,e13]
      obtain rfl:j=i1:=by omega
      exact hY _ _ _ H ⟨Nq,hN,hE,rfl⟩
    ·clear H e0 e1 e10
     rintro env h' U H ⟨Nq,hN,hE,rfl⟩
     simp only[go_sem]
     exact fun _=>⟨_,rfl,rfl,Nq,H,hN,up_sim Du hi (by omega) hx p1 hE,by rw[hE];exact(Frm.rot _ (by omega) hi).wide (by omega) hib,by rw[hE];exact Aq8 Du hi hib hx sb p1 p2⟩
  ·have b1:((d1:Int)==1)=false:=by simp;omega
   by_cases c2:d2=1
   ·have b2:((d2:Int)==1)=true:=by simp;omega
    have hx:ga L m=some L[m]:=Cs (by omega)
    obtain rfl:b=m+1:=by omega
    have s2:((m:Int)+1) - m=d2:=s2
    simp(disch:=omega) only[go_sem,B4,s1,b1,s2,b2]
    refine J4 (m - a) 4 (fun k env h=>env 0=v/\env 2=gi m/\env 4= .fn 104 []/\∃ i j:Nat,env 14=gi i/\env 15=gi j/\k=j - i/\a<=i/\i<=j/\j<=m/\(∀ t y,a≤t->t<i->ga L t=some y->ltU L[m] y=false)/\(∀ t y,j≤t->t<m->ga L t=some y->ltU L[m] y=true)/\h= .th (ow pU.kd v L)::R) (fun env h=>env 0=v/\env 2=gi m/\∃ i:Nat,env 14=gi i/\a<=i/\i<=m/\(∀ t y,a≤t->t<i->ga L t=some y->ltU L[m] y=false)/\(∀ t y,i≤t->t<m->ga L t=some y->ltU L[m] y=true)/\h= .th (ow pU.kd v L)::R) (fun _ _=>False) _ H ⟨by simp only[go_sem],by simp only[go_sem],by simp only[go_sem],a,m,by simp only[go_sem],by simp only[go_sem],rfl,by omega,by omega,by omega,fun t y h1 h2=>by omega,fun t y h1 h2=>by omega,rfl⟩ ?_ ?_ (fun _ _ _ _ h=>h.elim)
    ·clear H
     rintro J Yq Wq hJ hY hW k env h' U H ⟨e0,e2,e4,i,j,e10,e11,rfl,hi,hij,hj,p1,p2,rfl⟩
     rcases Zaa i j with hl|hl
     ·have c0:decide ((i:Int)<j)=true:=by simp;omega
      obtain⟨u1,u2⟩:=A6r (i:=i) (j:=j) (by omega)
      obtain⟨q,hq⟩:∃ q:Nat,q=(i+j) / 2:=⟨_,rfl⟩
      rw[<- hq] at u2
      have hqL:q<L.length:=by omega
      obtain⟨x1,x4⟩:=Rb H 0 rfl hqL
      obtain⟨y1,y4⟩:=Rb H 0 rfl (show m<L.length by omega)
      have R1:=C _ _ _ H L[m] (pres _ _) L[q] (pres _ _)
      have kl:=Agc L[m] L[q]
      simp(disch:=omega) only[go_sem,c0,e0,e2,e4,e10,e11,u1,u2,A0,x1,x4,y1,y4]
      refine by_r H R1 ?_
      cases hl:ltU L[m] L[q] with
      |false=>
       simp(disch:=omega) only[go_sem,e0,e2,e4,e10,e11,kl,hl]
       refine⟨j - (q+1),by omega,hJ _ _ _ _ H ⟨by simp only[go_sem,e0],by simp only[go_sem,e2],by simp only[go_sem,e4],q+1,j,by simp only[go_sem],by simp only[go_sem,e11],rfl,by omega,by omega,hj,fun t y h1 h2 hy=> ?_,p2,rfl⟩⟩
       rcases Zaa t q with h|h
       ·exact Du.ntrans _ _ _ hl (sa t q y L[q] h1 h (by omega) hy (Cs hqL))
       ·obtain rfl:t=q:=by omega
        rw[Cs hqL] at hy;cases hy;exact hl
      |true=>
       simp only[go_sem,e0,e2,e4,e10,e11,kl,hl]
       refine⟨q - i,by omega,hJ _ _ _ _ H ⟨by simp only[go_sem,e0],by simp only[go_sem,e2],by simp only[go_sem,e4],i,q,by simp only[go_sem,e10],by simp only[go_sem],rfl,by omega,by omega,by omega,p1,fun t y h1 h2 hy=> ?_,rfl⟩⟩
       rcases Zaa q t with h|h
       ·have h3:=sa q t L[q] y (by omega) h h2 (Cs hqL) hy
        cases h4:ltU L[m] y with
        |true=>rfl
        |false=>rw[Du.ntrans _ _ _ h4 h3] at hl;cases hl
       ·obtain rfl:t=q:=by omega
        rw[Cs hqL] at hy;cases hy;exact hl
     ·have c0:decide ((i:Int)<j)=false:=by simp;omega
      simp only[go_sem,c0,e0,e2,e4,e10,e11]
      exact hY _ _ _ H ⟨by simp only[go_sem,e0],by simp only[go_sem,e2],i,by simp only[go_sem,e10],hi,by omega,p1,fun t y h1=>p2 t y (by omega),rfl⟩
    ·clear H
     rintro env h' U H ⟨e0,e2,i,e10,hi,hib,p1,p2,rfl⟩
     simp only[go_sem,e0,e2,e10]
     refine J4 m 6 (fun k env h=>env 0=v/\env 14=gi i/\env 17=gi k/\i<=k/\k<=m/\∃(Nq:List UC),Nq.length=L.length/\ga Nq=rotF (ga L) k m (m+1)/\h= .th (ow pU.kd v Nq)::R) (fun env h=>∃ Nq:List UC,Nq.length=L.length/\ga Nq=rotF (ga L) i m (m+1)/\h= .th (ow pU.kd v Nq)::R) (fun _ _=>False) _ H ⟨by simp only[go_sem,e0],by simp only[go_sem,e10],by simp only[go_sem],by omega,by omega,L,rfl,(Aog _).symm,rfl⟩ ?_ ?_ (fun _ _ _ _ h=>h.elim)
     ·clear H e0 e2 e10
      rintro J Yq Wq hJ hY hW k env h' U H ⟨e0,e10,e13,hik,hkm,Nq,hN,hE,rfl⟩
      rcases Zaa i k with hl|hl
      ·obtain⟨j,rfl⟩:∃ j,k=j+1:=⟨k - 1,by omega⟩
       have c0:decide ((i:Int)<(j:Int)+1)=true:=by simp;omega
       have s3:((j:Int)+1) - 1=j:=by omega
       have e13:env 17=gi ((j:Int)+1):=e13
       have h0:j<Nq.length:=by omega
       have h1:j+1<Nq.length:=by omega
       have n1:Bu (some (.int .i64 ((j:Int)+1)))=some (j+1):=Df (by simp)
       obtain⟨x1,x4⟩:=Rb H 0 rfl h0
       obtain⟨y1,y4⟩:=Rb H 0 rfl h1
       simp(disch:=omega) only[go_sem,e0,e10,s3,c0,e13,A0,n1,x1,x4,y1,y4]
       refine Rn H 0 rfl h1 Nq[j] rfl rfl (by decide) fun U1 H1=> ?_
       simp only[go_sem,e0,e10,s3,c0,e13,A0,n1,x1,x4,y1,y4]
       refine Rn H1 0 rfl (by simpa using h0) Nq[j+1] rfl rfl (by decide) fun U2 H2=> ?_
       simp(disch:=omega) only[go_sem,e0,e10,s3,e13]
       exact⟨j,by omega,hJ _ _ _ _ H2 ⟨by simp only[go_sem,e0],by simp only[go_sem,e10],by simp only[go_sem],by omega,by omega,_,by simp[hN],by rw[Ajs h1 h0 (by omega),hE];exact Ar1 _ (by omega),rfl⟩⟩
      ·have c0:decide ((i:Int)<k)=false:=by simp;omega
       simp only[go_sem,e0,e10,c0,e13]
       obtain rfl:k=i:=by omega
       exact hY _ _ _ H ⟨Nq,hN,hE,rfl⟩
     ·clear H e0 e2 e10
      rintro env h' U H ⟨Nq,hN,hE,rfl⟩
      simp only[go_sem]
      exact fun _=>⟨_,rfl,rfl,Nq,H,hN,Aof Du hib (by omega) hx p2 hE,by rw[hE];exact(Frm.rot _ (by omega) (by omega)).wide (by omega) (by omega),by rw[hE];exact Agb Du hi hib hx (fun t h1 h2=>⟨_,Cs (by omega)⟩) sa p2 fun h y hy=>p1 (i - 1) y (by omega) (by omega) hy⟩
   ·have b2:((d2:Int)==1)=false:=by simp;omega
    obtain⟨v1,v2⟩:=A6r (i:=a) (j:=b) (by omega)
    obtain⟨c,hc⟩:∃ q:Nat,q=(a+b) / 2:=⟨_,rfl⟩
    rw[<- hc] at v2
    obtain⟨n0,hn0⟩:∃ q:Nat,q=c+m:=⟨_,rfl⟩
    have t1:(c:Int)+m=n0:=by omega
    obtain⟨n1,hn1⟩:∃ q:Nat,q=n0 - 1:=⟨_,rfl⟩
    have t2:(n0:Int) - 1=n1:=by omega
    rcases Zaa c m with hcm|hcm
    ·have b3:decide ((c:Int)<m)=true:=by simp;omega
     obtain⟨s0,hs0⟩:∃ q:Nat,q=n0 - b:=⟨_,rfl⟩
     have t3:(n0:Int) - b=s0:=by omega
     have g:a<=s0/\s0<=c/\c<=m/\n0 - s0<=b/\m<=n0 - c/\c<=n0/\(n0 - s0=b∨s0=a)/\(n0 - c=m∨c=m):=by omega
     simp(disch:=omega) only[go_sem,B4,s1,b1,s2,b2,v1,v2,t1,t2,b3,t3]
     obtain⟨g1,g2,g3,g4,g5,g6,g7,g8⟩:=g
     refine J4 (c - s0) 8 (fun k env h=>env 0=v/\env 1=gi a/\env 2=gi m/\env 3=gi b/\env 4= .fn 104 []/\env 18=gi c/\env 19=gi n0/\env 22=gi n1/\∃ s r:Nat,env 20=gi s/\env 21=gi r/\k=r - s/\s0<=s/\s<=r/\r<=c/\(s=s0∨∀ x y,ga L (s - 1)=some x->ga L (n0 - s)=some y->ltU y x=false)/\(r=c∨∀ x y,ga L r=some x->ga L (n0 - 1 - r)=some y->ltU y x=true)/\h= .th (ow pU.kd v L)::R) (fun env h=>env 0=v/\env 1=gi a/\env 2=gi m/\env 3=gi b/\env 4= .fn 104 []/\env 18=gi c/\env 19=gi n0/\∃ s:Nat,env 20=gi s/\s0<=s/\s<=c/\(s=s0∨∀ x y,ga L (s - 1)=some x->ga L (n0 - s)=some y->ltU y x=false)/\(s=c∨∀ x y,ga L s=some x->ga L (n0 - 1 - s)=some y->ltU y x=true)/\h= .th (ow pU.kd v L)::R) (fun _ _=>False) _ H ⟨by simp only[go_sem],by simp only[go_sem],by simp only[go_sem],by simp only[go_sem],by simp only[go_sem],by simp only[go_sem],by simp only[go_sem],by simp only[go_sem],s0,c,by simp only[go_sem],by simp only[go_sem],rfl,by omega,by omega,by omega,.inl rfl,.inl rfl,rfl⟩ ?_ ?_ (fun _ _ _ _ h=>h.elim)
     ·clear H
      rintro J Yq Wq hJ hY hW k env h' U H ⟨e0,e1,e2,e3,e4,e18,e19,e22,s,r,e20,e21,rfl,h1,h2,h3,p1,p2,rfl⟩
      rcases Zaa s r with hl|hl
      ·have c0:decide ((s:Int)<r)=true:=by simp;omega
       obtain⟨u1,u2⟩:=A6r (i:=s) (j:=r) (by omega)
       obtain⟨q,hq⟩:∃ q:Nat,q=(s+r) / 2:=⟨_,rfl⟩
       rw[<- hq] at u2
       obtain⟨q2,hq2⟩:∃ q2:Nat,q2=n1 - q:=⟨_,rfl⟩
       have u3:(n1:Int) - q=q2:=by omega
       have hqL:q<L.length:=by omega
       have hq2L:q2<L.length:=by omega
       obtain⟨x1,x4⟩:=Rb H 0 rfl hqL
       obtain⟨y1,y4⟩:=Rb H 0 rfl hq2L
       have R1:=C _ _ _ H L[q2] (pres _ _) L[q] (pres _ _)
       have kl:=Agc L[q2] L[q]
       simp(disch:=omega) only[go_sem,c0,e0,e1,e2,e3,e4,e18,e19,e22,e20,e21,u1,u2,u3,A0,x1,x4,y1,y4]
       refine by_r H R1 ?_
       cases hl:ltU L[q2] L[q] with
       |false=>
        simp(disch:=omega) only[go_sem,e0,e1,e2,e3,e4,e18,e19,e22,e20,e21,kl,hl]
        refine⟨r - (q+1),by omega,hJ _ _ _ _ H ⟨by simp only[go_sem,e0],by simp only[go_sem,e1],by simp only[go_sem,e2],by simp only[go_sem,e3],by simp only[go_sem,e4],by simp only[go_sem,e18],by simp only[go_sem,e19],by simp only[go_sem,e22],q+1,r,by simp only[go_sem],by simp only[go_sem,e21],rfl,by omega,by omega,h3,.inr fun x y hx hy=> ?_,p2,rfl⟩⟩
        rw[show q+1 - 1=q from rfl,Cs hqL] at hx;cases hx
        rw[show n0 - (q+1)=q2 by omega,Cs hq2L] at hy;cases hy
        exact hl
       |true=>
        simp only[go_sem,e0,e1,e2,e3,e4,e18,e19,e22,e20,e21,kl,hl]
        refine⟨q - s,by omega,hJ _ _ _ _ H ⟨by simp only[go_sem,e0],by simp only[go_sem,e1],by simp only[go_sem,e2],by simp only[go_sem,e3],by simp only[go_sem,e4],by simp only[go_sem,e18],by simp only[go_sem,e19],by simp only[go_sem,e22],s,q,by simp only[go_sem,e20],by simp only[go_sem],rfl,by omega,by omega,by omega,p1,.inr fun x y hx hy=> ?_,rfl⟩⟩
        rw[Cs hqL] at hx;cases hx
        rw[show n0 - 1 - q=q2 by omega,Cs hq2L] at hy;cases hy
        exact hl
      ·have c0:decide ((s:Int)<r)=false:=by simp;omega
       obtain rfl:s=r:=by omega
       simp only[go_sem,c0,e0,e1,e2,e3,e4,e18,e19,e22,e20,e21]
       exact hY _ _ _ H ⟨by simp only[go_sem,e0],by simp only[go_sem,e1],by simp only[go_sem,e2],by simp only[go_sem,e3],by simp only[go_sem,e4],by simp only[go_sem,e18],by simp only[go_sem,e19],s,by simp only[go_sem,e20],h1,h3,p1,p2,rfl⟩
     ·clear H
      rintro env h' U H ⟨e0,e1,e2,e3,e4,e18,e19,s,e20,h1,h2,p1,p2,rfl⟩
      simp only[↓reduceIte]
      obtain⟨e,he⟩:∃ q:Nat,q=n0 - s:=⟨_,rfl⟩
      have t4:(n0:Int) - s=e:=by omega
      obtain⟨k1,k2⟩:=Ar2 Du (n:=n0) (s:=s) sa sb (fun t _ h=>⟨_,Cs (by omega)⟩) (by omega) (by omega) (by omega) (by omega) (by omega) (fun h3 h4=>p2.resolve_left (by omega)) (fun h3 h4=>p1.resolve_left (by omega))
      obtain⟨k3,k4,k5,k6,k7⟩:=Aga Du (s:=s) (mid:=c) (e:=e) (by omega) (by omega) (by omega) (by omega) (by omega) sa sb (by rw[he];exact k1) (by rw[he];exact k2)
      refine A06 (fun env h U=>env 0=v/\env 1=gi a/\env 2=gi m/\env 3=gi b/\env 4= .fn 104 []/\env 18=gi c/\env 20=gi s/\env 24=gi e/\h= .th (ow pU.kd v L)::R/\Hx N0 U h) ?_ ?_
      ·simp(disch:=omega) only[go_sem,e0,e1,e2,e3,e4,e18,e19,e20,t4]
       exact H
      clear H e0 e1 e2 e3 e4 e18 e19 e20
      rintro env h' U ⟨e0,e1,e2,e3,e4,e18,e20,e24,rfl,H⟩
      refine A06 (fun env h U=>env 0=v/\env 1=gi a/\env 3=gi b/\env 4= .fn 104 []/\env 18=gi c/\env 20=gi s/\env 24=gi e/\∃ M,M.length=L.length/\ga M=rotF (ga L) s m e/\h= .th (ow pU.kd v M)::R/\Hx N0 U h) ?_ ?_
      ·by_cases q1:s<m
       ·have d1:decide ((s:Int)<m)=true:=by simp;omega
        by_cases q2:m<e
        ·have d2:decide ((m:Int)<e)=true:=by simp;omega
         simp only[go_sem,e0,e1,e2,e3,e4,e18,e20,e24,d1,d2]
         obtain⟨_,U1,R1,rfl,M,H1,hM,hE⟩:=Ajt (g:=.fn 104 []) H q1 q2 (by omega) hs
         refine by_m R1 H1 ?_
         simp only[go_sem,e0,e1,e3,e4,e18,e20,e24]
         exact⟨M,hM,hE,rfl,H1⟩
        ·have d2:decide ((m:Int)<e)=false:=by simp;omega
         simp only[go_sem,e0,e1,e2,e3,e4,e18,e20,e24,d1,d2]
         exact⟨L,rfl,by rw[show e=m by omega];exact(Aoe _).symm,rfl,H⟩
       ·have d1:decide ((s:Int)<m)=false:=by simp;omega
        simp only[go_sem,e0,e1,e2,e3,e4,e18,e20,e24,d1]
        exact⟨L,rfl,by rw[show s=m by omega];exact(Aip _).symm,rfl,H⟩
      clear H e0 e1 e2 e3 e4 e18 e20 e24
      rintro env h' U ⟨e0,e1,e3,e4,e18,e20,e24,M,hM,hE,rfl,H⟩
      rw[<- hE] at k3 k4 k5 k6 k7
      have hSM:Sim ltU L M:=Aca Du (by omega) (by omega) (by omega) hE (by rw[he];exact k1)
      have hFM:Frm (ga L) (ga M) a b:=by rw[hE];exact(Frm.rot _ (by omega) (by omega)).wide (by omega) (by omega)
      have hmM:∀ x∈M,x∈L0:=fun x hx=>hm x ((Sim.perm Du hSM).mem_iff.2 hx)
      refine A06 (fun env h U=>env 0=v/\env 3=gi b/\env 4= .fn 104 []/\env 18=gi c/\env 24=gi e/\∃ Nq,Outs ltU M Nq a c/\h= .th (ow pU.kd v Nq)::R/\Hx N0 U h) ?_ ?_
      ·by_cases q1:a<s
       ·have d1:decide ((a:Int)<s)=true:=by simp;omega
        by_cases q2:s<c
        ·have d2:decide ((s:Int)<c)=true:=by simp;omega
         simp only[go_sem,e0,e1,e3,e4,e18,e20,e24,d1,d2]
         obtain⟨_,U1,R1,rfl,Nq,H1,hO⟩:=Qu C w a s c M U (by omega) H hmM q1 q2 (by omega) (by omega) k3 k4
         refine by_m R1 H1 ?_
         simp only[go_sem,e0,e3,e4,e18,e24]
         exact⟨Nq,hO,rfl,H1⟩
        ·have d2:decide ((s:Int)<c)=false:=by simp;omega
         simp only[go_sem,e0,e1,e3,e4,e18,e20,e24,d1,d2]
         exact⟨M,⟨rfl,Sim.refl _,Frm.refl _ _ _,by rw[show c=s by omega];exact k3⟩,rfl,H⟩
       ·have d1:decide ((a:Int)<s)=false:=by simp;omega
        simp only[go_sem,e0,e1,e3,e4,e18,e20,e24,d1]
        exact⟨M,⟨rfl,Sim.refl _,Frm.refl _ _ _,by rw[show a=s by omega];exact k4⟩,rfl,H⟩
      clear H e0 e1 e3 e4 e18 e20 e24
      rintro env h' U ⟨e0,e3,e4,e18,e24,Nq,hO,rfl,H⟩
      have hmN:∀ x∈Nq,x∈L0:=fun x hx=>hmM x ((Sim.perm Du hO.sim).mem_iff.2 hx)
      have j1:Srt ltU (ga Nq) c e:=k5.frm hO.frm (.inr (Zae _))
      have j2:Srt ltU (ga Nq) e b:=k6.frm hO.frm (.inr (by omega))
      have j3:Crs ltU (ga Nq) a c b:=k7.frm (.inl hO.frm)
      have hNl:=hO.len
      have fin:∀ K,Outs ltU Nq K c b->Outs ltU L K a b:=fun K hK=>⟨by have:=hK.len;omega,(hSM.trans hO.sim).trans hK.sim,(hFM.trans (hO.frm.wide (Zae _) (by omega))).trans (hK.frm.wide (by omega) (Zae _)),(hO.srt.frm hK.frm (.inl (Zae _))).join hK.srt (j3.frm (.inr hK.frm))⟩
      by_cases q1:c<e
      ·have d1:decide ((c:Int)<e)=true:=by simp;omega
       by_cases q2:e<b
       ·have d2:decide ((e:Int)<b)=true:=by simp;omega
        simp only[go_sem,e0,e3,e4,e18,e24,d1,d2]
        obtain⟨_,U1,R1,rfl,K,H1,hK⟩:=Qu C w c e b Nq U (by omega) H hmN q1 q2 (by omega) (by omega) j1 j2
        refine by_m R1 H1 ?_
        simp only[go_sem]
        exact fun _=>⟨_,rfl,rfl,K,H1,fin K hK⟩
       ·have d2:decide ((e:Int)<b)=false:=by simp;omega
        simp only[go_sem,e0,e3,e4,e18,e24,d1,d2]
        exact fun _=>⟨_,rfl,rfl,Nq,H,fin Nq ⟨rfl,Sim.refl _,Frm.refl _ _ _,by rw[show b=e by omega];exact j1⟩⟩
      ·have d1:decide ((c:Int)<e)=false:=by simp;omega
       simp only[go_sem,e0,e3,e4,e18,e24,d1]
       exact fun _=>⟨_,rfl,rfl,Nq,H,fin Nq ⟨rfl,Sim.refl _,Frm.refl _ _ _,by rw[show c=e by omega];exact j2⟩⟩
    ·have b3:decide ((c:Int)<m)=false:=by simp;omega
     have g:a<=a/\a<=m/\m<=m/\n0 - a<=b/\m<=n0 - m/\m<=n0/\(n0 - a=b∨a=a)/\(n0 - m=m∨m=m):=by omega
     simp(disch:=omega) only[go_sem,B4,s1,b1,s2,b2,v1,v2,t1,t2,b3]
     obtain⟨g1,g2,g3,g4,g5,g6,g7,g8⟩:=g
     refine J4 (m - a) 8 (fun k env h=>env 0=v/\env 1=gi a/\env 2=gi m/\env 3=gi b/\env 4= .fn 104 []/\env 18=gi c/\env 19=gi n0/\env 22=gi n1/\∃ s r:Nat,env 20=gi s/\env 21=gi r/\k=r - s/\a<=s/\s<=r/\r<=m/\(s=a∨∀ x y,ga L (s - 1)=some x->ga L (n0 - s)=some y->ltU y x=false)/\(r=m∨∀ x y,ga L r=some x->ga L (n0 - 1 - r)=some y->ltU y x=true)/\h= .th (ow pU.kd v L)::R) (fun env h=>env 0=v/\env 1=gi a/\env 2=gi m/\env 3=gi b/\env 4= .fn 104 []/\env 18=gi c/\env 19=gi n0/\∃ s:Nat,env 20=gi s/\a<=s/\s<=m/\(s=a∨∀ x y,ga L (s - 1)=some x->ga L (n0 - s)=some y->ltU y x=false)/\(s=m∨∀ x y,ga L s=some x->ga L (n0 - 1 - s)=some y->ltU y x=true)/\h= .th (ow pU.kd v L)::R) (fun _ _=>False) _ H ⟨by simp only[go_sem],by simp only[go_sem],by simp only[go_sem],by simp only[go_sem],by simp only[go_sem],by simp only[go_sem],by simp only[go_sem],by simp only[go_sem],a,m,by simp only[go_sem],by simp only[go_sem],rfl,by omega,by omega,by omega,.inl rfl,.inl rfl,rfl⟩ ?_ ?_ (fun _ _ _ _ h=>h.elim)
     ·clear H
      rintro J Yq Wq hJ hY hW k env h' U H ⟨e0,e1,e2,e3,e4,e18,e19,e22,s,r,e20,e21,rfl,h1,h2,h3,p1,p2,rfl⟩
      rcases Zaa s r with hl|hl
      ·have c0:decide ((s:Int)<r)=true:=by simp;omega
       obtain⟨u1,u2⟩:=A6r (i:=s) (j:=r) (by omega)
       obtain⟨q,hq⟩:∃ q:Nat,q=(s+r) / 2:=⟨_,rfl⟩
       rw[<- hq] at u2
       obtain⟨q2,hq2⟩:∃ q2:Nat,q2=n1 - q:=⟨_,rfl⟩
       have u3:(n1:Int) - q=q2:=by omega
       have hqL:q<L.length:=by omega
       have hq2L:q2<L.length:=by omega
       obtain⟨x1,x4⟩:=Rb H 0 rfl hqL
       obtain⟨y1,y4⟩:=Rb H 0 rfl hq2L
       have R1:=C _ _ _ H L[q2] (pres _ _) L[q] (pres _ _)
       have kl:=Agc L[q2] L[q]
       simp(disch:=omega) only[go_sem,c0,e0,e1,e2,e3,e4,e18,e19,e22,e20,e21,u1,u2,u3,A0,x1,x4,y1,y4]
       refine by_r H R1 ?_
       cases hl:ltU L[q2] L[q] with
       |false=>
        simp(disch:=omega) only[go_sem,e0,e1,e2,e3,e4,e18,e19,e22,e20,e21,kl,hl]
        refine⟨r - (q+1),by omega,hJ _ _ _ _ H ⟨by simp only[go_sem,e0],by simp only[go_sem,e1],by simp only[go_sem,e2],by simp only[go_sem,e3],by simp only[go_sem,e4],by simp only[go_sem,e18],by simp only[go_sem,e19],by simp only[go_sem,e22],q+1,r,by simp only[go_sem],by simp only[go_sem,e21],rfl,by omega,by omega,h3,.inr fun x y hx hy=> ?_,p2,rfl⟩⟩
        rw[show q+1 - 1=q from rfl,Cs hqL] at hx;cases hx
        rw[show n0 - (q+1)=q2 by omega,Cs hq2L] at hy;cases hy
        exact hl
       |true=>
        simp only[go_sem,e0,e1,e2,e3,e4,e18,e19,e22,e20,e21,kl,hl]
        refine⟨q - s,by omega,hJ _ _ _ _ H ⟨by simp only[go_sem,e0],by simp only[go_sem,e1],by simp only[go_sem,e2],by simp only[go_sem,e3],by simp only[go_sem,e4],by simp only[go_sem,e18],by simp only[go_sem,e19],by simp only[go_sem,e22],s,q,by simp only[go_sem,e20],by simp only[go_sem],rfl,by omega,by omega,by omega,p1,.inr fun x y hx hy=> ?_,rfl⟩⟩
        rw[Cs hqL] at hx;cases hx
        rw[show n0 - 1 - q=q2 by omega,Cs hq2L] at hy;cases hy
        exact hl
      ·have c0:decide ((s:Int)<r)=false:=by simp;omega
       obtain rfl:s=r:=by omega
       simp only[go_sem,c0,e0,e1,e2,e3,e4,e18,e19,e22,e20,e21]
       exact hY _ _ _ H ⟨by simp only[go_sem,e0],by simp only[go_sem,e1],by simp only[go_sem,e2],by simp only[go_sem,e3],by simp only[go_sem,e4],by simp only[go_sem,e18],by simp only[go_sem,e19],s,by simp only[go_sem,e20],h1,h3,p1,p2,rfl⟩
     ·clear H
      rintro env h' U H ⟨e0,e1,e2,e3,e4,e18,e19,s,e20,h1,h2,p1,p2,rfl⟩
      simp only[↓reduceIte]
      obtain⟨e,he⟩:∃ q:Nat,q=n0 - s:=⟨_,rfl⟩
      have t4:(n0:Int) - s=e:=by omega
      obtain⟨k1,k2⟩:=Ar2 Du (n:=n0) (s:=s) sa sb (fun t _ h=>⟨_,Cs (by omega)⟩) (by omega) (by omega) (by omega) (by omega) (by omega) (fun h3 h4=>p2.resolve_left (by omega)) (fun h3 h4=>p1.resolve_left (by omega))
      obtain⟨k3,k4,k5,k6,k7⟩:=Aga Du (s:=s) (mid:=c) (e:=e) (by omega) (by omega) (by omega) (by omega) (by omega) sa sb (by rw[he];exact k1) (by rw[he];exact k2)
      refine A06 (fun env h U=>env 0=v/\env 1=gi a/\env 2=gi m/\env 3=gi b/\env 4= .fn 104 []/\env 18=gi c/\env 20=gi s/\env 24=gi e/\h= .th (ow pU.kd v L)::R/\Hx N0 U h) ?_ ?_
      ·simp(disch:=omega) only[go_sem,e0,e1,e2,e3,e4,e18,e19,e20,t4]
       exact H
      clear H e0 e1 e2 e3 e4 e18 e19 e20
      rintro env h' U ⟨e0,e1,e2,e3,e4,e18,e20,e24,rfl,H⟩
      refine A06 (fun env h U=>env 0=v/\env 1=gi a/\env 3=gi b/\env 4= .fn 104 []/\env 18=gi c/\env 20=gi s/\env 24=gi e/\∃ M,M.length=L.length/\ga M=rotF (ga L) s m e/\h= .th (ow pU.kd v M)::R/\Hx N0 U h) ?_ ?_
      ·by_cases q1:s<m
       ·have d1:decide ((s:Int)<m)=true:=by simp;omega
        by_cases q2:m<e
        ·have d2:decide ((m:Int)<e)=true:=by simp;omega
         simp only[go_sem,e0,e1,e2,e3,e4,e18,e20,e24,d1,d2]
         obtain⟨_,U1,R1,rfl,M,H1,hM,hE⟩:=Ajt (g:=.fn 104 []) H q1 q2 (by omega) hs
         refine by_m R1 H1 ?_
         simp only[go_sem,e0,e1,e3,e4,e18,e20,e24]
         exact⟨M,hM,hE,rfl,H1⟩
        ·have d2:decide ((m:Int)<e)=false:=by simp;omega
         simp only[go_sem,e0,e1,e2,e3,e4,e18,e20,e24,d1,d2]
         exact⟨L,rfl,by rw[show e=m by omega];exact(Aoe _).symm,rfl,H⟩
       ·have d1:decide ((s:Int)<m)=false:=by simp;omega
        simp only[go_sem,e0,e1,e2,e3,e4,e18,e20,e24,d1]
        exact⟨L,rfl,by rw[show s=m by omega];exact(Aip _).symm,rfl,H⟩
      clear H e0 e1 e2 e3 e4 e18 e20 e24
      rintro env h' U ⟨e0,e1,e3,e4,e18,e20,e24,M,hM,hE,rfl,H⟩
      rw[<- hE] at k3 k4 k5 k6 k7
      have hSM:Sim ltU L M:=Aca Du (by omega) (by omega) (by omega) hE (by rw[he];exact k1)
      have hFM:Frm (ga L) (ga M) a b:=by rw[hE];exact(Frm.rot _ (by omega) (by omega)).wide (by omega) (by omega)
      have hmM:∀ x∈M,x∈L0:=fun x hx=>hm x ((Sim.perm Du hSM).mem_iff.2 hx)
      refine A06 (fun env h U=>env 0=v/\env 3=gi b/\env 4= .fn 104 []/\env 18=gi c/\env 24=gi e/\∃ Nq,Outs ltU M Nq a c/\h= .th (ow pU.kd v Nq)::R/\Hx N0 U h) ?_ ?_
      ·by_cases q1:a<s
       ·have d1:decide ((a:Int)<s)=true:=by simp;omega
        by_cases q2:s<c
        ·have d2:decide ((s:Int)<c)=true:=by simp;omega
         simp only[go_sem,e0,e1,e3,e4,e18,e20,e24,d1,d2]
         obtain⟨_,U1,R1,rfl,Nq,H1,hO⟩:=Qu C w a s c M U (by omega) H hmM q1 q2 (by omega) (by omega) k3 k4
         refine by_m R1 H1 ?_
         simp only[go_sem,e0,e3,e4,e18,e24]
         exact⟨Nq,hO,rfl,H1⟩
        ·have d2:decide ((s:Int)<c)=false:=by simp;omega
         simp only[go_sem,e0,e1,e3,e4,e18,e20,e24,d1,d2]
         exact⟨M,⟨rfl,Sim.refl _,Frm.refl _ _ _,by rw[show c=s by omega];exact k3⟩,rfl,H⟩
       ·have d1:decide ((a:Int)<s)=false:=by simp;omega
        simp only[go_sem,e0,e1,e3,e4,e18,e20,e24,d1]
        exact⟨M,⟨rfl,Sim.refl _,Frm.refl _ _ _,by rw[show a=s by omega];exact k4⟩,rfl,H⟩
      clear H e0 e1 e3 e4 e18 e20 e24
      rintro env h' U ⟨e0,e3,e4,e18,e24,Nq,hO,rfl,H⟩
      have hmN:∀ x∈Nq,x∈L0:=fun x hx=>hmM x ((Sim.perm Du hO.sim).mem_iff.2 hx)
      have j1:Srt ltU (ga Nq) c e:=k5.frm hO.frm (.inr (Zae _))
      have j2:Srt ltU (ga Nq) e b:=k6.frm hO.frm (.inr (by omega))
      have j3:Crs ltU (ga Nq) a c b:=k7.frm (.inl hO.frm)
      have hNl:=hO.len
      have fin:∀ K,Outs ltU Nq K c b->Outs ltU L K a b:=fun K hK=>⟨by have:=hK.len;omega,(hSM.trans hO.sim).trans hK.sim,(hFM.trans (hO.frm.wide (Zae _) (by omega))).trans (hK.frm.wide (by omega) (Zae _)),(hO.srt.frm hK.frm (.inl (Zae _))).join hK.srt (j3.frm (.inr hK.frm))⟩
      by_cases q1:c<e
      ·have d1:decide ((c:Int)<e)=true:=by simp;omega
       by_cases q2:e<b
       ·have d2:decide ((e:Int)<b)=true:=by simp;omega
        simp only[go_sem,e0,e3,e4,e18,e24,d1,d2]
        obtain⟨_,U1,R1,rfl,K,H1,hK⟩:=Qu C w c e b Nq U (by omega) H hmN q1 q2 (by omega) (by omega) j1 j2
        refine by_m R1 H1 ?_
        simp only[go_sem]
        exact fun _=>⟨_,rfl,rfl,K,H1,fin K hK⟩
       ·have d2:decide ((e:Int)<b)=false:=by simp;omega
        simp only[go_sem,e0,e3,e4,e18,e24,d1,d2]
        exact fun _=>⟨_,rfl,rfl,Nq,H,fin Nq ⟨rfl,Sim.refl _,Frm.refl _ _ _,by rw[show b=e by omega];exact j1⟩⟩
      ·have d1:decide ((c:Int)<e)=false:=by simp;omega
       simp only[go_sem,e0,e3,e4,e18,e24,d1]
       exact fun _=>⟨_,rfl,rfl,Nq,H,fin Nq ⟨rfl,Sim.refl _,Frm.refl _ _ _,by rw[show c=e by omega];exact j2⟩⟩
end
end
section
open Go Go.RowKit Go.Sort
def Ej:Fn1:=⟨63,[],(rg [oV 6 (ki 20)] (rg [oM 10 6,oV 7 (ki 0),oM 8 10] (.seq (oH 0 (.seq (rg [oM 11 8,oM 12 1,oB 13 .leq 11 12] (oJ 13 0)) (.blk 1 (rg [oM 14 0,oM 15 7,oM 16 8,oM 17 2,o 18 (.call 312 (oT [14,15,16,17]))] (rg [oM 19 8,oM 7 19] (.reg [oM 20 8,oM 21 6,oB 22 .add 20 21,oM 8 22])))))) (rg [oM 23 0,oM 24 7,oM 25 1,oM 26 2,o 27 (.call 312 (oT [23,24,25,26]))] (oH 2 (.seq (rg [oM 28 6,oM 29 1,oB 30 .lss 28 29] (oJ 30 2)) (.blk 3 (rg [oM 31 6,o 32 (.bin .mul (ki 2) (.t 31)),oV 7 (ki 0),oM 8 32] (.seq (oH 4 (.seq (rg [oM 33 8,oM 34 1,oB 35 .leq 33 34] (oJ 35 4)) (.blk 5 (rg [oM 36 0,oM 37 7,oM 38 7,oM 39 6,oB 40 .add 38 39,oM 41 8,oM 42 2,o 43 (.call 313 (oT [36,37,40,41,42]))] (rg [oM 44 8,oM 7 44] (.reg [oM 45 8,oM 46 6,o 47 (.bin .mul (ki 2) (.t 46)),oB 48 .add 45 47,oM 8 48])))))) (.seq (rg [oM 49 7,oM 50 6,oB 51 .add 49 50,oM 9 51] (rg [oM 52 9,oM 53 1,oB 54 .lss 52 53] (oG 54 (.reg [oM 55 0,oM 56 7,oM 57 9,oM 58 1,oM 59 2,o 60 (.call 313 (oT [55,56,57,58,59]))])))) (.reg [oM 61 6,oE 62 .mul 61 2,oM 6 62])))))))))))⟩
theorem Ib:A8 Tryz.prog 229=some Ej:=by kernel_rfl
def Ca:Fn1:=⟨9,[],(.reg [oM 4 0,oM 5 0,oN 6 5,oM 7 1,o 8 (.call 229 (oT [4,6,7]))])⟩
theorem Et:A8 Tryz.prog 103=some Ca:=by kernel_rfl
def Pcs (f:Nat->Option UC) (d n:Nat):Prop:=∀ a,d∣a->Srt ltU f a (min (a+d) n)
theorem Aq9 {d a b:Nat} (ha:d∣a) (hb:d∣b) (h:a<b):a+d<=b:=by
 obtain⟨x,rfl⟩:=ha
 obtain⟨y,rfl⟩:=hb
 have h1:x<y:=by
  rcases Zaa x y with h2|h2
  ·exact h2
  ·exact absurd (Za6 d h2) (by omega)
 have:=Za6 d (show x+1<=y from h1)
 rw[Nat.mul_add,Nat.mul_one] at this
 exact this
theorem Ajv {f g:Nat->Option UC} {a d n:Nat} (hd:0<d) (ha:d∣a) (hb:a+d<=n) (h:∀ p,d∣p->p<a->Srt ltU f p (min (p+d) n)) (hF:Frm f g a (a+d)) (hs:Srt ltU g a (a+d)):∀ p,d∣p->p<a+d->Srt ltU g p (min (p+d) n):=fun p hp hpa=>by
 rcases Zap p a with h1|rfl|h1
 ·have:=Aq9 hp ha h1
  exact(h p hp h1).frm hF (.inl (by omega))
 ·rw[Zaw hb];exact hs
 ·have:=Aq9 ha hp h1
  omega
theorem Ais {f g:Nat->Option UC} {a d n:Nat} (ha:d∣a) (hb:n<a+d) (h:∀ p,d∣p->p<a->Srt ltU f p (min (p+d) n)) (hF:Frm f g a n) (hs:Srt ltU g a n):Pcs g d n:=fun p hp=>by
 rcases Zap p a with h1|rfl|h1
 ·have:=Aq9 hp ha h1
  exact(h p hp h1).frm hF (.inl (by omega))
 ·rw[Zau (by omega)];exact hs
 ·have:=Aq9 ha hp h1
  exact Srt.one (by omega)
section
variable {N0 N:St} {v:GV} {L L0:List UC} {R:List Item}
theorem Aqa (C:Aoh N0 R L0) (H:Hx N0 N (.th (ow pU.kd v L)::R)) (hm:∀ x∈L,x∈L0) (hs:L.length<=1099511627776):∃ q U,Ret Tryz.prog 229 [v,gi L.length,.fn 104 []] N q U/\q= .tup []/\Hx N0 U (.th (ow pU.kd v (Ar ltU L))::R):=by
 refine Bg Ib (Z0z rfl) H ?_
 obtain⟨n,hn⟩:∃ n,n=L.length:=⟨_,rfl⟩
 rw[<- hn]
 have mem:∀ {M:List UC},Sim ltU L M->∀ x∈M,x∈L0:=fun hS x hx=>hm x ((Sim.perm Du hS).mem_iff.2 hx)
 simp only[go_sem,Ej]
 refine J4 n 0 (fun k env h=>env 0=v/\env 1=gi n/\env 2= .fn 104 []/\env 6=gi 20/\∃(a:Nat) (M:List UC),env 7=gi a/\env 8=gi ((a:Int)+20)/\k=n - a/\a<=n/\20∣a/\M.length=n/\Sim ltU L M/\(∀ p,20∣p->p<a->Srt ltU (ga M) p (min (p+20) n))/\h= .th (ow pU.kd v M)::R) (fun env h=>env 0=v/\env 1=gi n/\env 2= .fn 104 []/\env 6=gi 20/\∃(a:Nat) (M:List UC),env 7=gi a/\a<=n/\n<a+20/\20∣a/\M.length=n/\Sim ltU L M/\(∀ p,20∣p->p<a->Srt ltU (ga M) p (min (p+20) n))/\h= .th (ow pU.kd v M)::R) (fun _ _=>False) _ H ⟨rfl,rfl,rfl,rfl,0,L,rfl,by simp only[go_sem,Int.zero_add],by omega,by omega,⟨0,rfl⟩,hn.symm,Sim.refl _,fun p _ h=>by omega,rfl⟩ ?_ ?_ (fun _ _ _ _ h=>h.elim)
 ·clear H
  rintro J Yq Wq hJ hY hW k env h' U H ⟨e0,e1,e2,e6,a,M,e7,e8,rfl,han,hda,hM,hS,hP,rfl⟩
  rcases Zaa n (a+20) with hl|hl
  ·have c0:decide ((a:Int)+20<=n)=false:=by simp;omega
   simp only[go_sem,c0,e0,e1,e2,e6,e7,e8]
   exact hY _ _ _ H ⟨e0,e1,e2,e6,a,M,e7,han,hl,hda,hM,hS,hP,rfl⟩
  ·have c0:decide ((a:Int)+20<=n)=true:=by simp;omega
   obtain⟨b,hb⟩:∃ b:Nat,b=a+20:=⟨_,rfl⟩
   have hb':(a:Int)+20=b:=by omega
   rw[hb'] at c0 e8
   simp only[go_sem,c0,e0,e1,e2,e6,e7,e8]
   obtain⟨_,U1,R1,rfl,Nq,H1,hO⟩:=Aju (a:=a) (b:=b) C H (mem hS) (by omega) (by omega) (by omega)
   refine by_m R1 H1 ?_
   simp(disch:=omega) only[go_sem,e0,e1,e2,e6,e7,e8]
   have hNl:=hO.len
   refine⟨n - b,by omega,hJ _ _ _ _ H1 ⟨e0,e1,e2,e6,b,Nq,rfl,rfl,rfl,by omega,by omega,by omega,hS.trans hO.sim,?_,rfl⟩⟩
   subst hb
   exact Ajv (by omega) hda hl hP hO.frm hO.srt
 ·clear H
  rintro env h' U H ⟨e0,e1,e2,e6,a,M,e7,han,hl,hda,hM,hS,hP,rfl⟩
  simp only[go_sem,e0,e1,e2,e6,e7]
  obtain⟨_,U1,R1,rfl,Nq,H1,hO⟩:=Aju (a:=a) (b:=n) C H (mem hS) (by omega) (by omega) (by omega)
  refine by_m R1 H1 ?_
  simp only[go_sem,e0,e1,e2,e6,e7]
  have hNl:=hO.len
  have hPN:Pcs (ga Nq) 20 n:=Ais hda hl hP hO.frm hO.srt
  have hSN:=hS.trans hO.sim
  clear hP hO R1 H hS e7 han hl hda
  refine J4 (n - 20) 2 (fun k env h=>env 0=v/\env 1=gi n/\env 2= .fn 104 []/\∃(d:Nat) (M:List UC),env 6=gi d/\k=n - d/\0<d/\d<=2*n+20/\M.length=n/\Sim ltU L M/\Pcs (ga M) d n/\h= .th (ow pU.kd v M)::R) (fun env h=>h= .th (ow pU.kd v (Ar ltU L))::R) (fun _ _=>False) _ H1 ⟨e0,e1,e2,20,Nq,e6,rfl,by omega,by omega,by omega,hSN,hPN,rfl⟩ ?_ ?_ (fun _ _ _ _ h=>h.elim)
  ·clear H1 e0 e1 e2 e6 hPN hSN hNl Nq U1
   rintro J Yq Wq hJ hY hW k env h' U H ⟨e0,e1,e2,d,M,e6,rfl,hd,hd2,hM,hS,hP,rfl⟩
   rcases Zaa d n with hl|hl
   ·have c0:decide ((d:Int)<n)=true:=by simp;omega
    obtain⟨d2,hdd⟩:∃ q:Nat,q=2*d:=⟨_,rfl⟩
    have s1:2*(d:Int)=d2:=by omega
    have s2:(d:Int)*2=d2:=by omega
    simp(disch:=omega) only[go_sem,c0,e0,e1,e2,e6,s1]
    refine J4 n 4 (fun k env h=>env 0=v/\env 1=gi n/\env 2= .fn 104 []/\env 6=gi d/\∃(a:Nat) (M:List UC),env 7=gi a/\env 8=gi ((a:Int)+d2)/\k=n - a/\a<=n/\d2∣a/\M.length=n/\Sim ltU L M/\(∀ p,d2∣p->p<a->Srt ltU (ga M) p (min (p+d2) n))/\(∀ p,d∣p->a<=p->Srt ltU (ga M) p (min (p+d) n))/\h= .th (ow pU.kd v M)::R) (fun env h=>env 0=v/\env 1=gi n/\env 2= .fn 104 []/\env 6=gi d/\∃(a:Nat) (M:List UC),env 7=gi a/\a<=n/\n<a+d2/\d2∣a/\M.length=n/\Sim ltU L M/\(∀ p,d2∣p->p<a->Srt ltU (ga M) p (min (p+d2) n))/\(∀ p,d∣p->a<=p->Srt ltU (ga M) p (min (p+d) n))/\h= .th (ow pU.kd v M)::R) (fun _ _=>False) _ H ⟨e0,e1,e2,e6,0,M,rfl,by simp only[go_sem,Int.zero_add],by omega,by omega,⟨0,rfl⟩,hM,hS,fun p _ h=>by omega,fun p hp _=>hP p hp,rfl⟩ ?_ ?_ (fun _ _ _ _ h=>h.elim)
    ·clear H e0 e1 e2 e6 hP hS hM M hJ hY hW J Yq Wq
     rintro J Yq Wq hJ hY hW k env h' U H ⟨e0,e1,e2,e6,a,M,e7,e8,rfl,han,hda,hM,hS,hP,hP2,rfl⟩
     have hda1:d∣a:=Nat.dvd_trans ⟨2,by omega⟩ hda
     rcases Zaa n (a+d2) with hl|hl
     ·have c0:decide ((a:Int)+d2<=n)=false:=by simp;omega
      simp only[go_sem,c0,e0,e1,e2,e6,e7,e8]
      exact hY _ _ _ H ⟨e0,e1,e2,e6,a,M,e7,han,hl,hda,hM,hS,hP,hP2,rfl⟩
     ·obtain⟨b,hb⟩:∃ b:Nat,b=a+d2:=⟨_,rfl⟩
      have hb':(a:Int)+d2=b:=by omega
      obtain⟨m,hmm⟩:∃ m:Nat,m=a+d:=⟨_,rfl⟩
      have hm':(a:Int)+d=m:=by omega
      rw[hb'] at e8
      have c0:decide ((b:Int)<=n)=true:=by simp;omega
      simp(disch:=omega) only[go_sem,c0,e0,e1,e2,e6,e7,e8,hm',s1]
      have q1:Srt ltU (ga M) a m:=by have:=hP2 a hda1 (Zae _);rw[Zaw (by omega)] at this;rw[hmm];exact this
      have q2:Srt ltU (ga M) m b:=by
       have:=hP2 m (by rw[hmm];exact Zbf hda1 (Za9 _)) (by omega)
       rw[Zaw (by omega)] at this
       rw[show b=m+d by omega];exact this
      obtain⟨_,U1,R1,rfl,Nq,H1,hO⟩:=Qu C (b - a) a m b M U (Zae _) H (mem hS) (by omega) (by omega) (by omega) (by omega) q1 q2
      refine by_m R1 H1 ?_
      simp(disch:=omega) only[go_sem,e0,e1,e2,e6,e7,e8,s1]
      have hNl:=hO.len
      refine⟨n - b,by omega,hJ _ _ _ _ H1 ⟨e0,e1,e2,e6,b,Nq,rfl,rfl,rfl,by omega,by rw[hb];exact Zbf hda (Za9 _),by omega,hS.trans hO.sim,?_,fun p hp hbp=>(hP2 p hp (by omega)).frm hO.frm (.inr hbp),rfl⟩⟩
      subst hb
      exact Ajv (by omega) hda hl hP hO.frm hO.srt
    ·clear H e0 e1 e2 e6 hP hS hM M
     rintro env h' U H ⟨e0,e1,e2,e6,a,M,e7,han,hln,hda,hM,hS,hP,hP2,rfl⟩
     have hda1:d∣a:=Nat.dvd_trans ⟨2,by omega⟩ hda
     obtain⟨m,hmm⟩:∃ m:Nat,m=a+d:=⟨_,rfl⟩
     have hm':(a:Int)+d=m:=by omega
     rcases Zaa m n with hmn|hmn
     ·have c1:decide ((m:Int)<n)=true:=by simp;omega
      simp(disch:=omega) only[go_sem,e0,e1,e2,e6,e7,hm',c1]
      have q1:Srt ltU (ga M) a m:=by have:=hP2 a hda1 (Zae _);rw[Zaw (by omega)] at this;rw[hmm];exact this
      have q2:Srt ltU (ga M) m n:=by
       have:=hP2 m (by rw[hmm];exact Zbf hda1 (Za9 _)) (by omega)
       rw[Zau (by omega)] at this
       exact this
      obtain⟨_,U1,R1,rfl,Nq,H1,hO⟩:=Qu C (n - a) a m n M U (Zae _) H (mem hS) (by omega) (by omega) (by omega) (by omega) q1 q2
      refine by_m R1 H1 ?_
      simp(disch:=omega) only[go_sem,e0,e1,e2,e6,e7,s2]
      have hNl:=hO.len
      exact⟨n - d2,by omega,hJ _ _ _ _ H1 ⟨e0,e1,e2,d2,Nq,rfl,rfl,by omega,by omega,by omega,hS.trans hO.sim,Ais hda hln hP hO.frm hO.srt,rfl⟩⟩
     ·have c1:decide ((m:Int)<n)=false:=by simp;omega
      simp(disch:=omega) only[go_sem,e0,e1,e2,e6,e7,hm',c1,s2]
      exact⟨n - d2,by omega,hJ _ _ _ _ H ⟨e0,e1,e2,d2,M,rfl,rfl,by omega,by omega,hM,hS,Ais hda hln hP (Frm.refl _ _ _) (by
       have:=hP2 a hda1 (Zae _)
       rw[Zau (by omega)] at this
       exact this),rfl⟩⟩
   ·have c0:decide ((d:Int)<n)=false:=by simp;omega
    simp only[go_sem,c0,e0,e1,e2,e6]
    refine hY _ _ _ H ?_
    have h0:=hP 0 ⟨0,rfl⟩
    rw[Zau (by omega),<-hM] at h0
    rw[Ac9 Du hS (srt_up h0)]
  ·rintro env h' U H rfl
   simp +contextual only[go_sem]
   exact fun _=>⟨_,rfl,rfl⟩
theorem Aqb (C:Aoh N0 R L0) (H:Hx N0 N (.th (ow pU.kd v L)::R)) (hm:∀ x∈L,x∈L0) (hs:L.length<=1099511627776):∃ q U,Ret Tryz.prog 103 [v,.fn 104 []] N q U/\q= .tup []/\Hx N0 U (.th (ow pU.kd v (Ar ltU L))::R):=by
 refine Bg Et (Z0z rfl) H ?_
 have hl:lenG false v=some (L.length:Int):=(H.hp.sl 0 rfl).len
 simp only[go_sem,Ca,hl]
 obtain⟨_,U1,R1,rfl,H1⟩:=Aqa C H hm hs
 refine by_m R1 H1 ?_
 simp +contextual only[go_sem]
 exact fun _=>⟨_,rfl,rfl⟩
end
end
section
open Go Go.RowKit Go.Sort
def A6s:Fn1:=⟨26,[.t 2,.t 3],(rg [o 2 (.mov (.k .nilS)),oV 3 kf] (.seq (rg [oM 7 0,oN 8 7,oV 9 (ki 0)] (oH 0 (rg [oB 10 .lss 9 8] (.seq (oJ 10 0) (.seq (.blk 1 (rg [oI 11 17 7 9,oW 12 17 11,o 5 (.new [(.bool false),z0,z0,z0,.nilS,z0,s0,s0,z0,z0,z0,.nilS,.nilS,.nilS,.nilS,.nilS,.nilS]),oS 17 5 12] (rg [oF 13 0 5,oL 14 13,oM 15 14,vW 16 15 17 5,vC 17 15 101 16,vU 18 15 17,oP 19 15 18] (oG 19 (rg [o 2 (.mov (.k .nilS)),oV 3 kf] .ret))))) (.reg [oZ 20 9 1,oM 9 20])))))) (rg [oM 21 0,oC 22 102 21,oM 6 22] (rg [oM 23 6,o 24 (.call 103 [(.t 23),(.k (.fn 104 []))])] (rg [oM 25 6,oM 2 25,oV 3 kt] .ret)))))⟩
theorem Agd:A8 Tryz.prog 14=some A6s:=by kernel_rfl
def innP (ps:List UC) (U:St) (fp:List Nat):Prop:=∃ fps,All3 (A9.O U) (ps.map fun x=>x.1.1) (ps.map fun x=>x.1.2) fps/\fp=fps.flatten
def inn (ps:List UC):Thg:=⟨innP ps,fun⟨fps,hA,e⟩ hf=>⟨fps,hA.imp fun a b c hc ho=>A9.loc ho fun g hg=>hf g (by rw[e];exact List.mem_flatten.2 ⟨c,hc,hg⟩),e⟩⟩
section
variable {N U:St} {v:GV} {l:List Unit_} {ps qs:List UC} {rs:List Thg}
theorem Aqc (h:ps.Perm qs):∀ fps,All3 (A9.O U) (ps.map fun x=>x.1.1) (ps.map fun x=>x.1.2) fps->∃ fps',All3 (A9.O U) (qs.map fun x=>x.1.1) (qs.map fun x=>x.1.2) fps'/\fps.flatten.Perm fps'.flatten:=by
 induction h with
 |nil=>exact fun fps h=>⟨fps,h,.refl _⟩
 |cons x _ ih=>
  intro fps h
  cases h with
  |cons hx hA=>
   obtain⟨f',h1,h2⟩:=ih _ hA
   exact⟨_::f',.cons hx h1,by rw[Zas,Zas];exact h2.append_left _⟩
 |swap x y l=>
  intro fps h
  cases h with
  |cons hx hA=>
   cases hA with
   |cons hy hA=>
    refine⟨_::_::_,.cons hy (.cons hx hA),?_⟩
    simp only[Zas]
    rw[<- Zac,<-Zac]
    exact List.perm_append_comm.append_right _
 |trans _ _ ih1 ih2=>
  intro fps h
  obtain⟨f1,h1,h2⟩:=ih1 _ h
  obtain⟨f2,h3,h4⟩:=ih2 _ h1
  exact⟨f2,h3,h2.trans h4⟩
theorem Ar3:∀ {l:List Unit_} {css:List (List GV)} {fps:List (List Nat)},All3 (A9.O U) l css fps->∃ ps:List UC,(ps.map fun x=>x.1.1)=l/\(ps.map fun x=>x.1.2)=css
 |_,_,_,.nil=>⟨[],rfl,rfl⟩
 |_,_,_,.cons (a:=a) (b:=b) hx hA=>by
  obtain⟨ps,h1,h2⟩:=Ar3 hA
  exact⟨⟨(a,b),A9.len (A9.rd hx)⟩::ps,congrArg (a::·) h1,congrArg (b::·) h2⟩
theorem Aoi:∀ ps:List UC,All3 (pU.kd.O U) ps (ps.map fun x=>x.1.2) (ps.map fun _=>[])
 |[]=>.nil
 |x::ps=>.cons ⟨rfl,rfl⟩ (Aoi ps)
theorem Aoj:∀ {ps:List UC} {css:List (List GV)} {fps:List (List Nat)},All3 (pU.kd.O U) ps css fps->css=(ps.map fun x=>x.1.2)/\fps.flatten=[]
 |_,_,_,.nil=>⟨rfl,rfl⟩
 |_,_,_,.cons hx hA=>by
  obtain⟨h1,h2⟩:=Aoj hA
  obtain⟨h3,h4⟩:=hx
  exact⟨by rw[h1,h3];rfl,by rw[Zas,h2,h4];rfl⟩
theorem Hp.toUC (H:Hp N U (ow A9 v l::rs)):∃ ps:List UC,(ps.map fun x=>x.1.1)=l/\Hp N U (ow pU.kd v ps::inn ps::rs):=by
 obtain⟨h,_,⟨a,b,hO,hs,rfl⟩,hn,hb⟩:=H
 rcases hO with⟨rfl,rfl,rfl⟩|⟨g,pre,css,post,fps,rfl,hB,hA,rfl⟩
 ·exact⟨[],rfl,h,_,⟨[],b,.inl ⟨rfl,rfl,rfl⟩,⟨[],b,⟨[],.nil,rfl⟩,hs,rfl⟩,rfl⟩,hn,hb⟩
 ·obtain⟨ps,rfl,rfl⟩:=Ar3 hA
  refine⟨ps,rfl,h,_,⟨[g],fps.flatten++b,.inr ⟨g,pre,_,post,_,by rw[Zah],hB,Aoi ps,?_⟩,⟨fps.flatten,b,⟨fps,hA,rfl⟩,hs,rfl⟩,by simp⟩,hn,hb⟩
  rw[(Aoj (Aoi (U:=U) ps)).2]
theorem Hp.ofUC (H:Hp N U (ow pU.kd v qs::inn ps::rs)) (hp:ps.Perm qs):Hp N U (ow A9 v (qs.map fun x=>x.1.1)::rs):=by
 obtain⟨h,_,⟨a,_,hO,⟨_,b,⟨fps,hA,rfl⟩,hs,rfl⟩,rfl⟩,hn,hb⟩:=H
 obtain⟨f',hA',hP⟩:=Aqc hp fps hA
 rcases hO with⟨rfl,rfl,rfl⟩|⟨g,pre,css,post,f0,rfl,hB,h3,rfl⟩
 ·cases hA'
  have e:fps.flatten=[]:=by simpa using hP
  rw[e] at hn hb
  exact⟨h,_,⟨[],b,.inl ⟨rfl,rfl,rfl⟩,hs,rfl⟩,hn,hb⟩
 ·obtain⟨rfl,e⟩:=Aoj h3
  rw[e] at hn hb
  have hQ:([g]++(fps.flatten++b)).Perm ((g::f'.flatten)++b):=by
   rw[List.singleton_append,List.cons_append]
   exact(hP.append_right b).cons g
  exact⟨h,_,⟨g::f'.flatten,b,.inr ⟨g,pre,_,post,f',by rw[Zah],hB,hA',rfl⟩,hs,rfl⟩,hQ.nodup_iff.1 hn,fun x hx=>hb x (hQ.mem_iff.2 hx)⟩
theorem Ar4 (H:Hp N U rs) (i:Nat) (hi:rs[i]? =some (inn ps)) {x:UC} (hx:x∈ps):A9.R U x.1.1 x.1.2:=by
 obtain⟨_,_,⟨a,b,⟨fps,hA,_⟩,_,_⟩,_,_⟩:=H.pick i hi
 obtain⟨j,hj,rfl⟩:=Zav hx
 obtain⟨cs,f,h1,_,h2⟩:=hA.get (j:=j) (a:=ps[j].1.1) (by simp[hj])
 have:cs=ps[j].1.2:=by simp[hj] at h1;exact h1.symm
 subst this
 exact A9.rd h2
theorem Ajw (x:UC):∀ l:List UC,((insB ltU x l).map fun x=>x.1.1)=insB Ja x.1.1 (l.map fun x=>x.1.1)
 |[]=>rfl
 |y::l=>by
  simp only[insB,Zbi]
  by_cases h:ltU x y=true
  ·rw[if_pos h,if_pos (show Ja x.1.1 y.1.1=true from h)];rfl
  ·rw[if_neg h,if_neg (show ¬ Ja x.1.1 y.1.1=true from h),Zbi,Ajw x l]
theorem Alq (l:List UC):((Ar ltU l).map fun x=>x.1.1)=Ar Ja (l.map fun x=>x.1.1):=by
 have key:∀(l acc:List UC),((l.foldl (fun acc x=>insB ltU x acc) acc).map fun x=>x.1.1)=(l.map fun x=>x.1.1).foldl (fun acc x=>insB Ja x acc) (acc.map fun x=>x.1.1):=by
  intro l
  induction l with
  |nil=>intro acc;rfl
  |cons x l ih=>intro acc;rw[Zbe,ih,Ajw];rfl
 exact key l []
end
theorem Ait (N:St) (v:GV) (l:List Unit_) (h:RS A9 N v l) (hl:l.length+sumL Aj l<=1048576):∃ q U,Ret Tryz.prog 14 [v] N q U/\∃ w,q= .tup [w,.bool (Kj l)]/\Hp N U [ow A9 w (Fz l)]:=by
 refine Bg Agd (Z0z rfl) (Hx.refl N) ?_
 simp only[go_sem,A6s,h.len]
 refine Ax l.length 9 0 (fun i env h=>env 0=v/\env 7=v/\env 8=gi l.length/\(∀ j (hj:j<l.length),j<i->fitU l[j]=true)/\h=[]) (fun env h=>env 0=v/\Kj l=true/\h=[]) (fun env h=>Kj l=false/\env 2= .nilS/\env 3= .bool false/\h=[]) _ (Hx.refl N) (rfl) ⟨rfl,rfl,rfl,fun j hj hh=>by omega,rfl⟩ ?_ ?_ ?_ ?_
 ·rintro J Yq Wq hJ hY hW i env h' U hi ei c0 H ⟨e0,e7,e8,ha,rfl⟩
  obtain⟨kv,d0,d1,d2,d3,d4,d5,Uq,hU,hA,hD⟩:=Ob h hi
  have hmu:Aj l[i]<=sumL Aj l:=Ev (f:=Aj) (Zad hi)
  simp +contextual only[go_sem,c0,e0,e7,e8,ei,A0,Uq]
  intro n2 f2 U2 _ U3 H3
  cases hb:l[i].batch with
  |true=>
   have hf:fitU l[i]=false:=by simp[fitU,hb]
   simp only[go_sem,c0,e0,e7,e8,ei,hb]
   exact hW _ _ _ (H3.re [] (by decide)) ⟨Ajn hi hf,rfl,rfl,rfl⟩
  |false=>
   simp(disch:=omega) only[go_sem,c0,e0,e7,e8,ei,hb]
   simp only[unV,hb] at hU
   refine by_b H3 (Afb _ _ l[i] (A9.pre hU H3.sub) (by omega)) (fun h1=> ?_) (fun h1=> ?_)
   ·have hf:fitU l[i]=true:=by simp[fitU,hb,h1]
    simp(disch:=omega) only[go_sem,c0,e0,e7,e8,ei]
    exact hJ _ _ _ _ (H3.re [] (by decide)) ⟨e0,e7,e8,Abu hi ha hf,rfl⟩
   ·have hf:fitU l[i]=false:=by simp[fitU,hb,h1]
    simp only[go_sem,c0,e0,e7,e8,ei]
    exact hW _ _ _ (H3.re [] (by decide)) ⟨Ajn hi hf,rfl,rfl,rfl⟩
 ·rintro Yq hY env h' U ei c0 H ⟨e0,e7,e8,ha,rfl⟩
  simp only[go_sem,c0,e8,ei]
  exact hY _ _ _ H ⟨e0,Any ha,rfl⟩
 ·rintro env h' U H ⟨e0,hf,rfl⟩
  have hb:Fz l=Ar Ja l:=by unfold Fz;rw[if_pos hf]
  simp only[go_sem,e0]
  obtain⟨w,U1,R1,K1⟩:=A5s U v l (h.pre H.sub) hl
  refine by_c H R1 K1 fun H1=> ?_
  simp only[go_sem]
  obtain⟨ps,hps,K2⟩:=Hp.toUC H1.hp
  have H2:Hx N U1 [.th (ow pU.kd w ps),.th (inn ps)]:=K2
  have hpl:ps.length=l.length:=by rw[<- hps,Zah]
  have C:Aoh N [.th (inn ps)] ps:=fun U v L H x hx y hy=>by
   have bd:∀ z∈ps,z.1.1.act.knew.length<=1099511627776:=fun z hz=>by
    have h1:z.1.1∈l:=by rw[<- hps];exact Zat.2 ⟨z,hz,rfl⟩
    have h2:Aj z.1.1<=sumL Aj l:=Ev (f:=Aj) h1
    have h3:z.1.1.act.knew.length<=Aj z.1.1:=by unfold Aj Ck;omega
    omega
   exact Alc U x.1.2 y.1.2 x.1.1 y.1.1 (Ar4 H.hp 1 rfl hx) (Ar4 H.hp 1 rfl hy) (bd x hx) (bd y hy)
  obtain⟨_,U2,R2,rfl,H3⟩:=Aqb C H2 (fun x hx=>hx) (by omega)
  refine by_m R2 H3 ?_
  have nt:=RdN.notup (H3.hp.sl 0 rfl)
  have K4:=Hp.ofUC (v:=w) (qs:=Ar ltU ps) (ps:=ps) (rs:=[]) H3.hp (Bb _ _).symm
  rw[Alq,hps,<-hb] at K4
  simp only[go_sem,hf,nt]
  exact fun _=>⟨_,rfl,w,rfl,K4⟩
 ·rintro env h' U H ⟨hf,e2,e3,rfl⟩
  have hb:Fz l=[]:=by unfold Fz;rw[if_neg (by simp[hf])]
  simp only[go_sem,e2,e3,hf]
  exact fun _=>⟨_,rfl,_,rfl,by rw[hb];exact(H.nil A9).hp⟩
end
theorem Acb (N:St) (v:GV) (l:List Unit_) (h:RS A9 N v l) (hl:l.length+sumL Aj l<=1048576):∃ w U,Ret Tryz.prog 12 [v] N (.tup [w,.bool (Kj l)]) U/\Hp N U [ow A9 w (Fz l)]:=by
 obtain⟨_,U,R,w,rfl,H⟩:=Aid N v l h hl
 exact⟨w,U,R,H⟩
theorem Acc (N:St) (v:GV) (l:List Unit_) (h:RS A9 N v l) (hl:l.length+sumL Aj l<=1048576):∃ w U,Ret Tryz.prog 14 [v] N (.tup [w,.bool (Kj l)]) U/\Hp N U [ow A9 w (Fz l)]:=by
 obtain⟨_,U,R,w,rfl,H⟩:=Ait N v l h hl
 exact⟨w,U,R,H⟩
def Ow:Fn1:=⟨89,[.t 2],(rg [oV 2 kf] (.seq (rg [oM 14 0,oC 15 40 14] (oG 15 (oR 2 kt))) (rg [oM 17 0,oC 18 48 17,oM 16 18,o 19 (.ext 0 (.t 16)),o 20 (.ext 1 (.t 16)),oM 3 19,oM 4 20] (rg [oM 21 0,oC 22 49 21,oM 5 22] (rg [oM 24 0,oC 25 50 24,oM 23 25,o 26 (.ext 0 (.t 23)),o 27 (.ext 1 (.t 23)),o 6 (.new [z0,z0,z0,.nilS,z0,s0,s0,z0,z0,z0]),o 7 (.new [z0,z0,z0,.nilS,z0,s0,s0,z0,z0,z0]),oS 10 6 26,oS 10 7 27] (rg [oM 28 0,oC 29 51 28,oM 8 29] (rg [oM 31 8,oC 32 14 31,oM 30 32,o 33 (.ext 0 (.t 30)),o 34 (.ext 1 (.t 30)),oM 9 33,oM 10 34] (rg [oM 36 8,oC 37 12 36,oM 35 37,o 38 (.ext 0 (.t 35)),o 39 (.ext 1 (.t 35)),oM 11 38,oM 12 39] (rg [oM 40 0,oC 41 52 40,oM 13 41] (dw [oM 42 3,oM 43 4,oD 44 53 42 43,oM 45 3,oM 46 4,oD 47 54 45 46,oB 48 .eql 44 47,oM 49 48,jM 50 49 5,jC 51 49 56 50,jM 52 49 5,jC 53 49 57 52,jD 54 49 55 51 53,oQ 55 49 54,oM 56 55,jM 57 56 5,jC 58 56 58 57,jM 59 56 5,jC 60 56 59 59,jD 61 56 55 58 60,oQ 62 56 61,oM 63 62,jW 64 63 10 6,jW 65 63 10 7,jD 66 63 46 64 65,jW 67 63 10 6,jW 68 63 10 7] [jD 69 63 60 67 68,og 70 63 true (.eqb false (.t 66) (.t 69)),oQ 71 63 70,oM 72 71,jM 73 72 10,jM 74 72 12,og 75 72 true (.eqb false (.t 73) (.t 74)),oQ 76 72 75,oM 77 76,jM 78 77 9,jM 79 77 11,jD 80 77 61 78 79,oQ 81 77 80,oM 82 81,jM 83 82 13,jC 84 82 42 83,jM 85 82 13,jC 86 82 62 85,og 87 82 true (.eqb false (.t 84) (.t 86)),oQ 88 82 87,oM 2 88] .ret))))))))))⟩
theorem A07:A8 Tryz.prog 7=some Ow:=by kernel_rfl
def Xj:Fn1:=⟨27,[.t 4],(rg [oV 4 kf] (.seq (rg [oM 6 0,oN 7 6,oM 8 1,oN 9 8,oB 10 .neq 7 9] (oG 10 (oR 4 kf))) (.seq (rg [oV 5 (ki 0)] (oH 0 (.seq (rg [oM 11 5,oM 12 0,oN 13 12,oB 14 .lss 11 13] (oJ 14 0)) (.seq (.blk 1 (dw [oM 17 0,oM 18 5,oI 19 17 17 18,oW 20 17 19,oM 21 1,oM 22 5,oI 23 17 21 22,oW 24 17 23] [oD 25 186 20 24,oU 26 25] (oG 26 (oR 4 kf)))) (.reg [oM 15 5,oZ 16 15 1,oM 5 16]))))) (oR 4 kt))))⟩
theorem A7k:A8 Tryz.prog 61=some Xj:=by kernel_rfl
theorem A7l (N:St) (v u:GV) (l:List Unit_) (hv:RS A9 N v l) (hu:RS A9 N u l) (hl:sumL Aj l<=1048576) (hn:l.length<=1048576):Ret Tryz.prog 61 [v,u] N (.bool true) N:=by
 refine Cb A7k (Z0z rfl) trivial ?_
 have b:((l.length:Int) != (l.length:Int))=false:=by simp
 simp only[go_sem,Xj,hv.len,hu.len,b]
 refine Ax l.length 5 0 (fun i env h=>env 0=v/\env 1=u/\h=[]) (fun env h=>True) (fun env h=>False) _ (Hx.refl N) (rfl) ⟨rfl,rfl,rfl⟩ ?_ ?_ ?_ (fun _ _ _ _ h=>h.elim)
 ·rintro J Yq Wq hJ hY hW i env h' U hi ei c0 H ⟨e0,e1,rfl⟩
  obtain⟨cs,⟨c1,_,_,c4,_⟩,hR⟩:=RdN.cellsN hv hi
  obtain⟨ds,⟨d1,_,_,d4,_⟩,hS⟩:=RdN.cellsN hu hi
  have c1:iadG 17 v (some i)=some (atz 17 v i):=c1
  have d1:iadG 17 u (some i)=some (atz 17 u i):=d1
  have c4:ldX N [] U true 17 (atz 17 v i)=some (.agg cs):=Aeh c4
  have d4:ldX N [] U true 17 (atz 17 u i)=some (.agg ds):=Aeh d4
  have hm:Aj l[i]<=sumL Aj l:=Ev (f:=Aj) (Zad hi)
  have dd:decide (l[i]=l[i])=true:=decide_eq_true rfl
  simp only[go_sem,c0,e0,e1,ei,A0,hv.len,c1,d1,c4,d4]
  refine by_r H (Ry _ cs ds l[i] l[i] (A9.pre hR H.sub) (A9.pre hS H.sub) (by omega) (by omega)) ?_
  simp(disch:=omega) only[go_sem,dd,e0,e1,ei]
  exact hJ _ _ _ _ H ⟨by first|exact e0|simp only[go_sem,e0],by first|exact e1|simp only[go_sem,e1],rfl⟩
 ·rintro Yq hY env h' U ei c0 H ⟨e0,e1,rfl⟩
  simp only[go_sem,c0,e0,e1,ei,hv.len]
  exact hY _ _ _ H trivial
 ·rintro env h' U H _
  simp only[go_sem]
  try exact fun _=>rfl
theorem Aiu (l:List Unit_):(Fz l).length<=l.length:=by
 unfold Fz
 split
 ·rw[Cm];exact Zae _
 ·exact Nat.zero_le _
theorem Aiv (l:List Unit_):sumL Aj (Fz l)<=sumL Aj l:=by
 unfold Fz
 split
 ·rw[M9 Aj (Bb _ _)];exact Zae _
 ·simp[sumL]
theorem Aok (ll:List (List Int)):(Zl ll).length<=3:=by
 unfold Zl
 split
 ·exact Px ll _ (by simp)
 ·simp
theorem Aol (ll:List (List Int)):(Zn ll).length<=3:=by
 unfold Zn
 split
 ·exact A5b ll
 ·simp
theorem law_OrdersTold (N:St) (v:GV) (bs:List Int) (hv:Sl (Ek.int .u8) N v bs) (hw:bs.length<=9223372036854775807/\∀ y∈bs,(Lit.int .u8 y).wf=true):∃ r U,Ret Tryz.prog 7 [v] N r U/\r= .bool true:=by
 have hv:RS pB.kd N v bs:=hv.rs rfl (fun h=>h)
 refine Bg A07 (Z0z rfl) (Hx.refl N) ?_
 simp only[go_sem,Ow]
 refine by_b (Hx.refl N) (Aoc N v bs hv) (fun h0=> ?_) (fun h0=> ?_)
 ·simp only[go_sem]
  try exact fun _=>⟨_,rfl,rfl⟩
 have h0:=of_decide_eq_false h0
 have D:Dr N v bs:=⟨hv,by omega⟩
 simp only[go_sem]
 obtain⟨u,w,a,b,U1,⟨ha,hb⟩,R1,H1⟩:=A02 (Hx.refl N) D
 have nt1:=RdN.notup (H1.hp.sl 0 rfl)
 have nt2:=RdN.notup (H1.hp.sl 1 rfl)
 have x0:extG 0 (GV.tup [u,w])=some u:=Tp rfl nt2
 have x1:extG 1 (GV.tup [u,w])=some w:=Tp rfl nt1
 refine by_k R1 H1 ?_
 simp only[go_sem,x0,x1]
 obtain⟨r,ll,U2,⟨hl4,hll⟩,R2,H2⟩:=A03 H1 D
 refine by_k R2 H2 ?_
 simp only[go_sem]
 obtain⟨ca,cb,A,B,U3,⟨mA,mB⟩,R3,H3⟩:=Xg H2 D
 have gA:ca.length=10:=kAct.len (H3.hp.shs_rd 0 rfl (y:=(ca,A)) (by simp))
 have gB:cb.length=10:=kAct.len (H3.hp.shs_rd 0 rfl (y:=(cb,B)) (by simp))
 refine by_k R3 H3 ?_
 simp +contextual (disch:=omega) only[go_sem,A5 (cs:=zeV) gA rfl,A5 (cs:=zeV) gB rfl,gA,gB]
 intro n6 f6 U4 _ n7 f7 U5 _ U6 _ U7 H7
 have g6:N.length<=n6:=f6
 have g7:N.length<=n7:=f7.2
 have ne76:n6<n7:=f7.1
 try simp only[go_sem]
 obtain⟨q,l,U8,⟨hq1,hq2⟩,R8,H8⟩:=A04 H7 D
 refine by_k R8 H8 ?_
 simp only[go_sem]
 obtain⟨w1,U9,R9,K9⟩:=Acc U8 q l (H8.hp.sl 0 rfl) (by omega)
 have nt9:=RdN.notup (K9.sl 0 rfl)
 have y9:extG 0 (GV.tup [w1,.bool (Kj l)])=some w1:=Tp rfl nt9
 refine by_c H8 R9 K9 fun H9=> ?_
 simp only[go_sem,y9]
 obtain⟨w2,U10,R10,K10⟩:=Acb U9 q l (H9.hp.sl 1 rfl) (by omega)
 have nt10:=RdN.notup (K10.sl 0 rfl)
 have y10:extG 0 (GV.tup [w2,.bool (Kj l)])=some w2:=Tp rfl nt10
 refine by_c H9 R10 K10 fun H10=> ?_
 simp only[go_sem,y10]
 obtain⟨e,e0,E,E0,U11,⟨hE1,hE2⟩,hE,R11,H11⟩:=Xh H10 D
 refine by_k R11 H11 ?_
 have L1:=Aiu l
 have L2:=Aiv l
 have hll':∀ x∈ll,x.length<=1099511627776:=fun x hx=>Nat.le_trans (hll x hx) (by decide)
 simp only[go_sem]
 refine by_r H11 (Ab5 U11 u w a b (H11.hp.sl 9 rfl) (H11.hp.sl 8 rfl) (by omega) (by omega)) ?_
 simp only[go_sem]
 refine by_r H11 (Ac3 U11 u w a b (H11.hp.sl 9 rfl) (H11.hp.sl 8 rfl) (by omega) (by omega)) ?_
 simp only[go_sem,beq_self_eq_true]
 obtain⟨j1,U12,R12,K12⟩:=Ab6 U11 r ll (H11.hp.sl 7 rfl) (by omega) hll'
 refine by_c H11 R12 K12 fun H12=> ?_
 simp only[go_sem]
 obtain⟨j2,U13,R13,K13⟩:=Ac5 U12 r ll (H12.hp.sl 8 rfl) (by omega) hll'
 refine by_c H12 R13 K13 fun H13=> ?_
 simp only[go_sem]
 refine by_r H13 (S6 U13 j1 j2 _ _ (H13.hp.sl 1 rfl) (H13.hp.sl 0 rfl) (by have:=Aok ll;omega)) ?_
 simp only[go_sem,decide_true]
 obtain⟨k1,U14,R14,K14⟩:=Ab7 U13 r ll (H13.hp.sl 9 rfl) (by omega) hll'
 refine by_c H13 R14 K14 fun H14=> ?_
 simp only[go_sem]
 obtain⟨k2,U15,R15,K15⟩:=Ac6 U14 r ll (H14.hp.sl 10 rfl) (by omega) hll'
 refine by_c H14 R15 K15 fun H15=> ?_
 simp only[go_sem]
 refine by_r H15 (S6 U15 k1 k2 _ _ (H15.hp.sl 1 rfl) (H15.hp.sl 0 rfl) (by have:=Aol ll;omega)) ?_
 simp(disch:=omega) only[go_sem,decide_true,A6 gA,A6 gB]
 have RA:=H15.hp.shs_rd 10 rfl (y:=(ca,A)) (by simp)
 have RB:=H15.hp.shs_rd 10 rfl (y:=(cb,B)) (by simp)
 refine by_r H15 (A72 U15 ca A RA cb B RB (by omega) (by omega)) ?_
 simp(disch:=omega) only[go_sem,A6 gA,A6 gB]
 refine by_r H15 (A71 U15 ca A RA cb B RB (by omega) (by omega)) ?_
 simp only[go_sem,beq_self_eq_true]
 refine by_r H15 (A7l U15 w1 w2 (Fz l) (H15.hp.sl 6 rfl) (H15.hp.sl 5 rfl) (by omega) (by omega)) ?_
 simp only[go_sem]
 refine by_r H15 (A7a U15 e E (hE _ (H15.hp.sl 4 rfl)) (by omega)) ?_
 simp only[go_sem]
 refine by_r H15 (A79 U15 e E (hE _ (H15.hp.sl 4 rfl)) (by omega)) ?_
 simp only[go_sem,beq_self_eq_true]
 exact fun _=>⟨_,rfl,rfl⟩
end Go.Proofs.YtbeoiejnogdkpaaGreat.Sy
