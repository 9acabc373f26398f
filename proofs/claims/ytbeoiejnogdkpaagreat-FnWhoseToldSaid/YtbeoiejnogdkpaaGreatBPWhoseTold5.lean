/- Texts of this proof, one behind the other. -/
import Derived.Test.YtbeoiejnogdkpaaGreatBPWhoseTold4
import Derived.Test.YtbeoiejnogdkpaaGreatProg
import Derived.KernelRfl
import Derived.Sort.LotC
set_option linter.unusedSimpArgs false
set_option linter.unusedVariables false
set_option maxRecDepth 4000
set_option maxHeartbeats 4000000
open List renaming getElem_mem→Zaa,take_length→Zad,length_map→Zaf,length_singleton→Zag,length_append→Zah,length_filter_le→Zai,length_nil→Zaj,mem_append→Zak,mem_singleton→Zal,findIdx?_eq_some_iff_getElem→Zam,prefix_refl→Zan,getElem_of_mem→Zao,mem_cons_self→Zap,mem_or_eq_of_mem_set→Zaq,getElem?_eq_getElem→Zar,append_assoc→Zas,all_eq_true→Zat,mem_filter→Zau,mem_of_getElem?→Zav,mem_of_mem_take→Zaw,mem_cons→Zay,findIdx?_cons→Zaz,getElem?_map→Za0,map_nil→Za1,sum_nil→Za2,not_mem_nil→Za3,drop_length→Za4,length_set→Za5,filter_nil→Za6,append_nil→Za7,take_zero→Za8
open Nat renaming le_refl→Zab,lt_or_ge→Zac
open Bool renaming and_eq_true→Zae
open Int renaming le_refl→Zax
namespace Go.Proofs.YtbeoiejnogdkpaaGreat.Sy
open Go Go.RowKit
abbrev A1l:Nat:=268
def A1m:Fn1:=⟨70,[.c 4 true 8,.c 5 true 17,.t 6],(rg [oX 2 0,oX 3 1,o 4 (.new [z0,z0,.nilS,.nilS,.nilS,.nilS,.nilS,.nilS]),o 5 (.new [(.bool false),z0,z0,z0,.nilS,z0,s0,s0,z0,z0,z0,.nilS,.nilS,.nilS,.nilS,.nilS,.nilS]),oV 6 (ki 0)] (rg [oW 12 8 2,oC 13 327 12,o 7 (.new [z0,z0,.nilS,.nilS,.nilS,.nilS,.nilS,.nilS]),oS 8 7 13] (.seq (rg [oW 14 8 2,oC 15 328 14,oU 16 15] (cn 16 (rg [oW 17 8 7,o 18 (.build [(.bool false),z0,z0,z0,.nilS,z0,s0,s0,z0,z0,z0,.nilS,.nilS,.nilS,.nilS,.nilS,.nilS] []),oS 8 4 17,oS 17 5 18,oV 6 (ki 3)] .ret) .skip)) (rg [oF 20 2 2,oW 21 4 20,oF 22 0 2,oL 23 22,oF 24 1 2,oL 25 24,oZ 26 25 1,oW 27 5 3,o 28 (.call 276 [(.t 21),(.t 23),(.t 26),(.t 27)]),oM 19 28,o 29 (.ext 0 (.t 19)),o 30 (.ext 1 (.t 19)),o 8 (.new [z0,z0,z0,.nilS,z0,s0,s0,z0,z0,z0]),oS 10 8 29,oM 9 30] (.seq (rg [oM 31 9,oE 32 .neq 31 0] (cn 32 (rg [oW 33 8 7,o 34 (.build [(.bool false),z0,z0,z0,.nilS,z0,s0,s0,z0,z0,z0,.nilS,.nilS,.nilS,.nilS,.nilS,.nilS] []),oM 35 9,oS 8 4 33,oS 17 5 34,oM 6 35] .ret) .skip)) (rg [oF 37 2 2,oW 38 4 37,oW 39 10 8,oD 40 140 38 39,oM 36 40,o 41 (.ext 0 (.t 36)),o 42 (.ext 1 (.t 36)),o 10 (.new [.nilS,.nilS,.nilS,.nilS]),oS 4 10 41,oM 11 42] (.seq (rg [oM 43 11,oE 44 .neq 43 0,oM 45 44,vF 46 45 6 2,vL 47 45 46,og 48 45 false (.len false (.t 47)),vE 49 45 .geq 48 60,oP 50 45 49] (cn 50 (rg [oW 51 8 7,o 52 (.build [(.bool false),z0,z0,z0,.nilS,z0,s0,s0,z0,z0,z0,.nilS,.nilS,.nilS,.nilS,.nilS,.nilS] []),oS 8 4 51,oS 17 5 52,oV 6 (ki 4)] .ret) .skip)) (rg [oW 53 4 10,oF 54 2 7,oS 4 54 53] (rg [oF 55 1 2,oL 56 55,oZ 57 56 1,oF 58 1 7,oS 1 58 57] (dw [oF 59 6 7,oL 60 59,oW 61 10 8,oC 62 211 61,o 63 (.build [(.bool false),z0,z0,z0,.nilS,z0,s0,s0,z0,z0,z0,.nilS,.nilS,.nilS,.nilS,.nilS,.nilS] [(1,10,(.t 62))]),o 64 (.lit 17 1 [(.bool false),z0,z0,z0,.nilS,z0,s0,s0,z0,z0,z0,.nilS,.nilS,.nilS,.nilS,.nilS,.nilS] [(0,17,(.t 63))])] [o 65 (.app 17 264 [(.bool false),z0,z0,z0,.nilS,z0,s0,s0,z0,z0,z0,.nilS,.nilS,.nilS,.nilS,.nilS,.nilS] (.t 60) (.t 64)),oF 66 6 7,oS 1 66 65] (dw [] [oW 67 8 7,oW 68 10 8,o 69 (.build [(.bool false),z0,z0,z0,.nilS,z0,s0,s0,z0,z0,z0,.nilS,.nilS,.nilS,.nilS,.nilS,.nilS] [(1,10,(.t 68))]),oS 8 4 67,on (.chk 68 (.ld true 10 (.t 8))),oS 17 5 69,oV 6 (ki 0)] .ret)))))))))))⟩
theorem A9j:A6 Tryz.prog A1l=some A1m:=by kernel_rfl
abbrev Ol:List GV:=[gi 0,gi 0,.nilS,.nilS,.nilS,.nilS,.nilS,.nilS]
theorem Hx.unitA {σ τ:St} {h:List Item} {ca:List GV} {a:Act} (H:Hx σ τ (.th (own kAct ca a)::h)):Hx σ τ (.th (own Ad (GV.bool false::ca++([GV.nilS,GV.nilS,GV.nilS,GV.nilS,GV.nilS,GV.nilS]++[])) ⟨false,a,delta0⟩)::h):=by
 have X1:=(((((H.nil Ag.kd).nil pDot.kd).nil As.kd).nil Am.kd).nil pI.kd).nil pI.kd
 have X2:Hp σ τ (own B9 [GV.nilS,GV.nilS,GV.nilS,GV.nilS,GV.nilS,GV.nilS] delta0::own kAct ca a::h.map Item.t):=Hp.ownDelta (x:=delta0) X1
 exact Hp.ownUnit_ (x:=⟨false,a,delta0⟩) (X2.perm (.swap _ _ _))
theorem Afx {s:State} {r m:Int} {e:Edit} (h:(Dg s r m e).2=0):Eb (Dg s r m e).1=true:=by
 unfold Dg at h ⊢
 split at h
 ·split at h
  ·split at h
   ·split at h
    ·simp_all
    ·cases h
   ·cases h
  ·cases h
 ·cases h
def EdS (l:Log) (e:Edit) (l':Log):Prop:=l'=l∨((Dg l.state l.rep (l.time+1) e).2=0/\(Do l.state (Dg l.state l.rep (l.time+1) e).1).2=0/\l'={l with state:=(Do l.state (Dg l.state l.rep (l.time+1) e).1).1,units:=l.units++[⟨false,(Dg l.state l.rep (l.time+1) e).1,delta0⟩],time:=l.time+1})
theorem Ac0 (σ:St) (cs:List GV) (l:Log) (hR:kLog.R σ l cs) (hG:LogG l) (e:Edit) (ho:e.obj.size<=1048576) (hk:e.key.size<=1048576) (hp:e.place<=9223372036854775807):∃ q τ,Ret Tryz.prog A1l [.agg cs,.agg (edV e)] σ q τ/\∃ ds us c l',q= .tup [.agg ds,.agg us,gi c]/\us.length=17/\LogG l'/\EdS l e l'/\Hp σ τ [own kLog ds l']:=by
 have hlm:=hG.ms
 have hst:=hG.st.ms
 have hR0:=hR
 obtain⟨s0,s1,s2,s3,u,w,rfl,hS,hU,hW⟩:=I6 hR
 have hkn:=Cw hG.st.kn
 refine D8 A9j (Z0z rfl) (Hx.refl σ) ?_
 simp +contextual (disch:=omega) only[go_sem,A1m]
 intro n2 f2 τ1 _ n3 f3 τ2 _ n4 f4 τ3 _ n5 f5 τ4 H4
 obtain⟨ds,τ5,R5,K5⟩:=Q8 τ4 _ l (kLog.pre hR0 H4.sub) (by omega)
 have gd:ds.length=8:=kLog.len (K5.rd 0 rfl)
 refine by_c H4 R5 K5 fun H5=> ?_
 simp +contextual (disch:=omega) only[go_sem,Ab (cs:=Ol) gd rfl,gd]
 intro n7 f7 τ60 _ τ6 H6
 try simp +contextual (disch:=omega) only[go_sem]
 obtain⟨_,τ7,R7,b,rfl,K7,hb⟩:=Y5 τ6 _ l (kLog.pre hR0 H6.sub) hG
 have H7:Hp σ τ7 (([]:List Thg)++_):=H6.hp.add K7
 obtain⟨v2,v3,v4,rfl,X⟩:=Hp.splitLog (H7.pick 1 rfl)
 obtain⟨t0,t1,t2,t3,rfl,_⟩:=X.rd 0 rfl
 have H8:Hx σ τ7 [.th (own A5 [t0,t1,t2,t3] l.state),.th (ow Ad v3 l.units),.th (ow Ad v4 l.waits),.box 1 n7 (logV l t0 t1 t2 t3 v3 v4),.box 1 n5 zeU,.box 1 n4 Ol,.box 1 n3 (edV e),.box 1 n2 (logV l s0 s1 s2 s3 u w)]:=X
 refine by_m R7 H8 ?_
 cases b with
 |false=>
  simp +contextual (disch:=omega) only[go_sem]
  intro τ8 _ τ9 H9
  exact⟨_,rfl,_,_,_,l,rfl,rfl,hG,.inl rfl,Hp.ownLog (x:=l) (H9.re [0,1,2] (by decide)).hp⟩
 |true=>
  have htm:=hb rfl
  have htm0:=hG.tm.1
  simp +contextual (disch:=omega) only[go_sem]
  obtain⟨ac,τ9,R9,K9⟩:=O8 τ7 _ l.state (A5.pre hS H8.sub) l.rep (l.time+1) e (by omega) (by omega) (by omega) hp (by omega)
  have ga:ac.length=10:=kAct.len (K9.rd 0 rfl)
  refine by_c H8 R9 K9 fun H9=> ?_
  simp +contextual (disch:=omega) only[go_sem,Ab (cs:=zeV) ga rfl,ga]
  intro n8 f8 τ100 _ τ10 H10
  by_cases hc:(Dg l.state l.rep (l.time+1) e).2=0
  rotate_left
  ·have bc:((Dg l.state l.rep (l.time+1) e).2 != 0)=true:=by simp[hc]
   simp +contextual (disch:=omega) only[go_sem,bc]
   intro τ11 _ τ12 H12
   exact⟨_,rfl,_,_,_,l,rfl,rfl,hG,.inl rfl,Hp.ownLog (x:=l) (H12.re [2,3,4] (by decide)).hp⟩
  have bc:((Dg l.state l.rep (l.time+1) e).2 != 0)=false:=by simp[hc]
  obtain⟨a,ha⟩:∃ a,a=(Dg l.state l.rep (l.time+1) e).1:=⟨_,rfl⟩
  have hao:Eb a=true:=by rw[ha];exact Afx hc
  have ham:=Agm hao
  rw[<- ha] at H10
  obtain⟨kc,rfl,_⟩:=H10.hp.rd 1 rfl
  simp +contextual (disch:=omega) only[go_sem,bc]
  obtain⟨q,τ11,R11,K11⟩:=Kj τ10 _ l.state (A5.pre hS H10.sub) _ a (H10.hp.rd 1 rfl) (by omega) (by omega)
  obtain⟨q0,q1,q2,q3,rfl,_⟩:=K11.rd 0 rfl
  refine by_c H10 R11 K11 fun H11=> ?_
  simp +contextual (disch:=omega) only[go_sem]
  intro n10 f10 τ120 _ τ12 H12
  by_cases hd:(Do l.state a).2=0
  rotate_left
  ·have bd:((Do l.state a).2 != 0)=true:=by simp[hd]
   simp +contextual (disch:=omega) only[go_sem,bd]
   intro τ13 _ τ14 H14
   exact⟨_,rfl,_,_,_,l,rfl,rfl,hG,.inl rfl,Hp.ownLog (x:=l) (H14.re [4,5,6] (by decide)).hp⟩
  have bd:((Do l.state a).2 != 0)=false:=by simp[hd]
  by_cases hn:60<=l.units.length
  ·have bn:decide (60<=(l.units.length:Int))=true:=by simp;omega
   simp +contextual (disch:=omega) only[go_sem,bd,bn,hU.len]
   intro τ13 _ τ14 H14
   exact⟨_,rfl,_,_,_,l,rfl,rfl,hG,.inl rfl,Hp.ownLog (x:=l) (H14.re [4,5,6] (by decide)).hp⟩
  have bn:decide (60<=(l.units.length:Int))=false:=by simp;omega
  simp +contextual (disch:=omega) only[go_sem,bd,bn,hU.len]
  intro τ13 _ τ14 H14
  try simp +contextual (disch:=omega) only[go_sem]
  obtain⟨a2,τ15,R15,K15⟩:=Hh τ14 _ a (H14.hp.rd 3 rfl) (by unfold Dm at ham;omega)
  obtain⟨ka,rfl,_⟩:=K15.rd 0 rfl
  refine by_c H14 R15 K15 fun H15=> ?_
  simp +contextual (disch:=omega) only[go_sem]
  intro n16 f16 τ16 H16
  have H17:=Hx.unitA (H16.re [1,0,3,4,5,7,8,9,10,11,12,13] (by decide))
  have H18:Hx σ τ16 [.box 17 n16 (unV ⟨false,a,delta0⟩ ka .nilS .nilS .nilS .nilS .nilS .nilS),.th (own Ad (unV ⟨false,a,delta0⟩ ka .nilS .nilS .nilS .nilS .nilS .nilS) ⟨false,a,delta0⟩),.th (own A5 [q0,q1,q2,q3] (Do l.state a).1),.box 1 n8 (actV a kc),.th (own kAct (actV a kc) a),.th (ow Ad v3 l.units),.th (ow Ad v4 l.waits),.box 1 n7 [gi l.rep,gi (l.time+1),q0,q1,q2,q3,v3,v4],.box 1 n5 zeU,.box 1 n4 Ol,.box 1 n3 (edV e),.box 1 n2 (logV l s0 s1 s2 s3 u w)]:=H17.re [1,0,2,3,4,5,6,7,8,9,10,11] (by decide)
  refine Kl H18 1 4 rfl rfl Cq (by decide) (by omega) fun v' τ17 H19=> ?_
  have cv:=(H19.hp.sl 4 rfl).cell
  simp +contextual (disch:=omega) only[go_sem,cv]
  intro τ18 _ τ19 _ τ20 H20
  have hu:E6 ⟨false,a,delta0⟩=true:=by simp[E6,hao,Kr]
  exact⟨_,rfl,_,_,_,{l with state:=(Do l.state a).1,units:=l.units++[⟨false,a,delta0⟩],time:=l.time+1},rfl,rfl,A3l hG hu rfl hd (by omega) ⟨by omega,by omega⟩,.inr ⟨hc,by rw[<- ha];exact hd,by rw[<- ha]⟩,Hp.ownLog (x:={l with state:=(Do l.state a).1,units:=l.units++[⟨false,a,delta0⟩],time:=l.time+1}) (H20.re [1,4,5] (by decide)).hp⟩
abbrev Om:Nat:=329
def Y8:Fn1:=⟨33,[],(rg [oX 4 1,oX 5 2] (rg [oM 6 0,oW 7 4 5,oK 8 6,oF 9 2 8,oS 4 9 7] (dw [oM 10 0,oM 11 0,oK 12 11,oF 13 6 12,oL 14 13,oW 15 17 4,oC 16 99 15,o 17 (.lit 17 1 [(.bool false),z0,z0,z0,.nilS,z0,s0,s0,z0,z0,z0,.nilS,.nilS,.nilS,.nilS,.nilS,.nilS] [(0,17,(.t 16))])] [o 18 (.app 17 264 [(.bool false),z0,z0,z0,.nilS,z0,s0,s0,z0,z0,z0,.nilS,.nilS,.nilS,.nilS,.nilS,.nilS] (.t 14) (.t 17)),oK 19 10,oF 20 6 19,oS 1 20 18] (dw [oW 21 17 4,oC 22 378 21,oM 23 0,oK 24 23,oF 25 1 24,oL 26 25] [oB 27 .gtr 22 26] (cn 27 (.reg [oM 28 0,oW 29 17 4,oC 30 378 29,oK 31 28,oF 32 1 31,oS 1 32 30]) .skip)))))⟩
theorem A6u:A6 Tryz.prog Om=some Y8:=by kernel_rfl
abbrev On:Nat:=330
def Y9:Fn1:=⟨69,[],(rg [oV 2 kt] (.blk 0 (.lop (.seq (rg [oM 7 2] (cn 7 .skip (.ext 0))) (.blk 1 (rg [oV 2 kf] (rg [o 8 (.lit 17 0 [] []),oM 3 8] (.seq (rg [oV 4 (ki 0)] (.blk 2 (.lop (.seq (rg [oM 9 4,oM 10 0,oK 11 10,oF 12 7 11,oL 13 12,oN 14 13,oB 15 .lss 9 14] (cn 15 .skip (.ext 2))) (.seq (.blk 3 (dw [oM 19 0,oK 20 19,oF 21 2 20,oW 22 4 21,oM 23 0,oK 24 23,oF 25 7 24,oL 26 25,oM 27 4,oI 28 17 26 27,oW 29 17 28,oD 30 44 22 29,oM 18 30,o 31 (.ext 0 (.t 18)),o 32 (.ext 1 (.t 18)),o 5 (.new [.nilS,.nilS,.nilS,.nilS])] [oS 4 5 31,oM 6 32] (.seq (rg [oM 33 6,oE 34 .eql 33 0,oM 35 34,jM 36 35 0,og 37 35 true (.nck (.t 36)),jF 38 35 6 37,jL 39 35 38,og 40 35 true (.len false (.t 39)),jE 41 35 .lss 40 60,oQ 42 35 41] (cn 42 (dw [oM 43 0,oM 44 0,oK 45 44,oF 46 7 45,oL 47 46,oM 48 4,oI 49 17 47 48,oW 50 17 49,oW 51 4 5] [o 52 (.call 329 [(.t 43),(.t 50),(.t 51)])] (rg [oV 2 kt] (.ext 3))) .skip)) (rg [oM 53 6,oE 54 .neq 53 1] (cn 54 (.reg [oM 55 3,oM 56 0,oK 57 56,oF 58 7 57,oL 59 58,oM 60 4,oI 61 17 59 60,oW 62 17 61,o 63 (.lit 17 1 [(.bool false),z0,z0,z0,.nilS,z0,s0,s0,z0,z0,z0,.nilS,.nilS,.nilS,.nilS,.nilS,.nilS] [(0,17,(.t 62))]),o 64 (.app 17 264 [(.bool false),z0,z0,z0,.nilS,z0,s0,s0,z0,z0,z0,.nilS,.nilS,.nilS,.nilS,.nilS,.nilS] (.t 55) (.t 63)),oM 3 64]) .skip))))) (.reg [oM 16 4,oZ 17 16 1,oM 4 17])))))) (.reg [oM 65 0,oM 66 3,oK 67 65,oF 68 7 67,oS 1 68 66])))))))))⟩
theorem A6v:A6 Tryz.prog On=some Y9:=by kernel_rfl
theorem A6w {u:Unit_} (h:E6 u=true):0<=Er u/\Er u<=10000:=by
 unfold E6 at h
 unfold Er
 split at h
 ·rename_i hb
  rw[if_pos hb]
  simp only[Zae] at h
  have h1:=h.1
  simp only[Ca,Zae] at h1
  have h4:=h1.2.2.2.1
  simp only[Gv,celP,Zae,Bl] at h4
  refine Rw fun c hc=> ?_
  have:=V8 (p:=cel1) (fun i hi=>(h4.1 i hi).2.1) c hc
  simp only[cel1,Zae] at this
  exact(Ck.1 this.2.2).2
 ·rename_i hb
  rw[if_neg hb]
  simp only[Zae] at h
  have h1:=h.1
  simp only[Eb,Dk,Zae] at h1
  have:=Ck.1 h1.1.2.2.2
  omega
def Ya (l:Log) (x:Unit_):Int:=if l.time<Er x then Er x else l.time
theorem Yb {σ0 σ:St} {h:List Item} (l:Log) (n:Nat) (s0 s1 s2 s3 uu ww q0 q1 q2 q3:GV) (H:Hx σ0 σ (.box 1 n (logV l s0 s1 s2 s3 uu ww)::.th (ow Ad uu l.units)::h)) (hg:σ0.length<=n) (cu:List GV) (x:Unit_) (hu:∀ τ,Hx σ0 τ h->Ad.R τ x cu) (hm:Aw x<=1048576) (hn:l.units.length<=1000):∃ u' τ,Ret Tryz.prog Om [.ptr n 0,.agg cu,.agg [q0,q1,q2,q3]] σ (.tup []) τ/\Hx σ0 τ (.box 1 n [gi l.rep,gi (Ya l x),q0,q1,q2,q3,u',ww]::.th (ow Ad u' (l.units++[x]))::h):=by
 have gu:cu.length=17:=Ad.len (hu σ H.tl.tl)
 have key:∃ q τ,Ret Tryz.prog Om [.ptr n 0,.agg cu,.agg [q0,q1,q2,q3]] σ q τ/\∃ u',q= .tup []/\Hx σ0 τ (.box 1 n [gi l.rep,gi (Ya l x),q0,q1,q2,q3,u',ww]::.th (ow Ad u' (l.units++[x]))::h):=by
  refine D8 A6u (Z0z rfl) H ?_
  simp +contextual (disch:=omega) only[go_sem,Y8]
  intro n4 f4 τ1 _ n5 f5 τ2 H2
  have g4:n<n4:=f4.1
  have g5:n4<n5:=f5.1
  simp +contextual (disch:=omega) only[go_sem,A4 gu]
  intro τ3 H3
  try simp +contextual (disch:=omega) only[go_sem,A4 gu]
  obtain⟨q,τ4,R4,K4⟩:=Gh τ3 cu x (hu _ H3.tl.tl.tl.tl) (by omega)
  have ql:q.length=17:=Ad.len (K4.rd 0 rfl)
  refine by_c H3 R4 K4 fun H4=> ?_
  simp +contextual (disch:=omega) only[go_sem,Ab (cs:=zeU) ql rfl,ql]
  intro n6 f6 τ5 H5
  refine Kl H5 1 4 rfl rfl Cq (by decide) (by omega) fun v' τ6 H6=> ?_
  have cv:=(H6.hp.sl 4 rfl).cell
  have g6:n5<n6:=f6.1
  simp +contextual (disch:=omega) only[go_sem,cv]
  intro τ7 H7
  try simp +contextual (disch:=omega) only[go_sem,A4 gu]
  refine by_r H7 (Ku _ cu x (hu _ H7.tl.tl.tl.tl.tl) (by omega)) ?_
  obtain⟨t,ht⟩:∃ t,t=Er x:=⟨_,rfl⟩
  cases hlt:decide (l.time<Er x) with
  |true=>
   have e:Ya l x=Er x:=if_pos (of_decide_eq_true hlt)
   simp +contextual (disch:=omega) only[go_sem,hlt,A4 gu]
   refine by_r H7 (Ku _ cu x (hu _ H7.tl.tl.tl.tl.tl) (by omega)) ?_
   simp +contextual (disch:=omega) only[go_sem]
   intro τ8 H8
   exact⟨_,rfl,v',rfl,by rw[e];exact H8.tl.tl.tl⟩
  |false=>
   have e:Ya l x=l.time:=if_neg (of_decide_eq_false hlt)
   simp +contextual (disch:=omega) only[go_sem,hlt]
   exact fun _=>⟨_,rfl,v',rfl,by rw[e];exact H7.tl.tl.tl⟩
 obtain⟨q,τ,R,u',rfl,h'⟩:=key
 exact⟨u',τ,R,h'⟩
def WkS (l l':Log):Prop:=l'.rep=l.rep/\(∀ x∈l'.units,x∈l.units∨x∈l.waits)/\∀ x∈l'.waits,x∈l.waits
theorem WkS.refl (l:Log):WkS l l:=⟨rfl,fun x h=>.inl h,fun x h=>h⟩
theorem WkS.trans {a b c:Log} (h:WkS a b) (k:WkS b c):WkS a c:=⟨k.1.trans h.1,fun x hx=>(k.2.1 x hx).elim (h.2.1 x) fun h'=>.inr (h.2.2 x h'),fun x hx=>h.2.2 x (k.2.2 x hx)⟩
abbrev lgI (n:Nat) (l:Log) (t0 t1 t2 t3 u w:GV) (r:Thg):List Item:=[.box 1 n (logV l t0 t1 t2 t3 u w),.th (own A5 [t0,t1,t2,t3] l.state),.th (ow Ad u l.units),.th (ow Ad w l.waits),.th r]
def wkR (n:Nat) (l:Log) (W:List Unit_) (t0 t1 t2 t3 u v w:GV) (r:Thg) (L:List Unit_) (i:Nat) (h:List Item):Prop:=
 (∃ hi:i<W.length,∃ cs,h=[.box 1 n (logV l t0 t1 t2 t3 u w),.th (own A5 [t0,t1,t2,t3] l.state),.th (ow Ad u l.units),.th (ow Ad v L),.th (own Ad cs W[i]),.th (rst Ad w W i cs),.th r])∨
 (i=W.length/\h=[.box 1 n (logV l t0 t1 t2 t3 u w),.th (own A5 [t0,t1,t2,t3] l.state),.th (ow Ad u l.units),.th (ow Ad v L),.th (rest Ad w W i),.th r])
theorem Aap {σ τ:St} {n:Nat} {l:Log} {W:List Unit_} {t0 t1 t2 t3 u v w:GV} {r:Thg} {L:List Unit_} {i:Nat} (H:Hx σ τ [.box 1 n (logV l t0 t1 t2 t3 u w),.th (own A5 [t0,t1,t2,t3] l.state),.th (ow Ad u l.units),.th (ow Ad v L),.th (rest Ad w W i),.th r]) (hle:i<=W.length):∃ h,Hx σ τ h/\wkR n l W t0 t1 t2 t3 u v w r L i h:=by
 by_cases hi:i<W.length
 ·obtain⟨cs,Z⟩:=Hp.toRst ((H.re [4,0,1,2,3,5] (by decide)).hp) hi
  have Z:Hx σ τ [.th (own Ad cs W[i]),.th (rst Ad w W i cs),.box 1 n (logV l t0 t1 t2 t3 u w),.th (own A5 [t0,t1,t2,t3] l.state),.th (ow Ad u l.units),.th (ow Ad v L),.th r]:=Z
  exact⟨_,Z.re [2,3,4,5,0,1,6] (by decide),.inl ⟨hi,cs,rfl⟩⟩
 ·exact⟨_,H,.inr ⟨by omega,rfl⟩⟩
theorem A3p {σ τ:St} {a b c d:Item} {r:Thg} {w:GV} {W:List Unit_} {i:Nat} {cs:List GV} (H:Hx σ τ [a,b,c,d,.th (rst Ad w W i cs),.th r]):Hx σ τ [a,b,c,d,.th (rest Ad w W (i+1)),.th r]:=by
 have Z:Hx σ τ [.th (rest Ad w W (i+1)),a,b,c,d,.th r]:=Hp.ofRst ((H.re [4,0,1,2,3,5] (by decide)).hp)
 exact Z.re [1,2,3,4,0,5] (by decide)
theorem A9k {σ0 σ:St} (l:Log) (hG:LogG l) (n:Nat) (t0 t1 t2 t3 u w:GV) (r:Thg) (H:Hx σ0 σ (lgI n l t0 t1 t2 t3 u w r)) (hg:σ0.length<=n):∃ τ l' t0 t1 t2 t3 u w,Ret Tryz.prog On [.ptr n 0] σ (.tup []) τ/\LogG l'/\WkS l l'/\Hx σ0 τ (lgI n l' t0 t1 t2 t3 u w r):=by
 have key:∃ q τ,Ret Tryz.prog On [.ptr n 0] σ q τ/\∃ l' t0 t1 t2 t3 u w,q= .tup []/\LogG l'/\WkS l l'/\Hx σ0 τ (lgI n l' t0 t1 t2 t3 u w r):=by
  refine D8 A6v (Z0z rfl) H ?_
  simp +contextual (disch:=omega) only[go_sem,Y9]
  refine Aag (2*l.waits.length+1) 0 (fun k env h=>env 0= .ptr n 0/\∃(b:Bool) (l':Log) (t0 t1 t2 t3 u w:GV),env 2= .bool b/\LogG l'/\WkS l l'/\k=2*l'.waits.length+(if b then 1 else 0)/\h=lgI n l' t0 t1 t2 t3 u w r) (fun env h=>∃(l':Log) (t0 t1 t2 t3 u w:GV),LogG l'/\WkS l l'/\h=lgI n l' t0 t1 t2 t3 u w r) (fun _ _=>False) _ H ⟨by simp +contextual (disch:=omega) only[go_sem],true,l,t0,t1,t2,t3,u,w,by simp +contextual (disch:=omega) only[go_sem],hG,WkS.refl l,rfl,rfl⟩ ?_ ?_ (fun _ _ _ _ h=>h.elim)
  ·clear H
   rintro J Y W' hJ hY hW k env h τ H ⟨e0,b,l1,t0,t1,t2,t3,u,w,e2,hG1,hS1,rfl,rfl⟩
   cases b with
   |false=>
    simp +contextual (disch:=omega) only[go_sem,e0,e2]
    exact hY _ _ _ H ⟨l1,t0,t1,t2,t3,u,w,hG1,hS1,rfl⟩
   |true=>
    have hwl:lenG false w=some (l1.waits.length:Int):=(H.hp.sl 3 rfl).len
    simp +contextual (disch:=omega) only[go_sem,e0,e2]
    intro n3 f3 τ3 H3
    have g3:n<n3:=f3.1
    obtain⟨W,hW0⟩:∃ W,W=l1.waits:=⟨_,rfl⟩
    rw[<- hW0] at hwl
    have hWn:W.length<=6:=by rw[hW0];exact hG1.nw
    have hWa:∀ x∈W,E6 x=true:=by rw[hW0];exact hG1.wa
    have hWb:∀ x∈W,x.batch=false:=by rw[hW0];exact hG1.wb
    have H4:Hx σ0 τ3 [.th (ow Ad w W),.box 1 n (logV l1 t0 t1 t2 t3 u w),.th (own A5 [t0,t1,t2,t3] l1.state),.th (ow Ad u l1.units),.th (ow Ad (.sl n3 0 0) []),.th r]:=by rw[hW0];exact(H3.emp Ad rfl).re [4,1,2,3,0,5] (by decide)
    have H5:Hx σ0 τ3 [.th (rest Ad w W 0),.box 1 n (logV l1 t0 t1 t2 t3 u w),.th (own A5 [t0,t1,t2,t3] l1.state),.th (ow Ad u l1.units),.th (ow Ad (.sl n3 0 0) []),.th r]:=Hp.toRest H4.hp
    obtain⟨hz,HZ,Z0⟩:=Aap (H5.re [1,2,3,4,0,5] (by decide)) (Nat.zero_le _)
    refine Bu W.length 4 2 (fun i env h=>env 0= .ptr n 0/\∃(b:Bool) (l2:Log) (t0 t1 t2 t3 u v:GV) (L:List Unit_),env 2= .bool b/\env 3=v/\LogG l2/\l2.waits=W/\WkS l1 l2/\(∀ x∈L,x∈W)/\L.length+(if b then 1 else 0)<=i/\wkR n l2 W t0 t1 t2 t3 u v w r L i h) (fun env h=>env 0= .ptr n 0/\∃(b:Bool) (l2:Log) (t0 t1 t2 t3 u v:GV) (L:List Unit_),env 2= .bool b/\env 3=v/\LogG l2/\l2.waits=W/\WkS l1 l2/\(∀ x∈L,x∈W)/\L.length+(if b then 1 else 0)<=W.length/\h=[.box 1 n (logV l2 t0 t1 t2 t3 u w),.th (own A5 [t0,t1,t2,t3] l2.state),.th (ow Ad u l2.units),.th (ow Ad v L),.th (rest Ad w W W.length),.th r]) (fun _ _=>False) hz HZ (by simp +contextual (disch:=omega) only[go_sem]) ⟨by simp +contextual (disch:=omega) only[go_sem,e0],false,l1,t0,t1,t2,t3,u,.sl n3 0 0,[],by simp +contextual (disch:=omega) only[go_sem],by simp +contextual (disch:=omega) only[go_sem],hG1,hW0.symm,WkS.refl _,by simp,by simp,Z0⟩ ?_ ?_ ?_ (fun _ _ _ _ h=>h.elim)
    ·clear H H3 H4 H5 HZ Z0 e0 e2 hG1
     rintro J2 Y2 W2 hJ2 hY2 hW2 i env h τ hi ei c0 H ⟨e0,b,l2,t0,t1,t2,t3,u,v,L,e2,e3,hG2,hw2,hS2,hL,hLb,hz⟩
     rcases hz with⟨_,cs,rfl⟩|⟨hz,_⟩
     rotate_left
     ·omega
     have hcl:cs.length=17:=Ad.len (H.hp.rd 4 rfl)
     have hok:=hWa W[i] (Zaa hi)
     have hbt:=hWb W[i] (Zaa hi)
     have hmu:=Mf hok
     have hms:=hG2.st.ms
     have hnu:=hG2.nu
     obtain⟨z1,z2,z3,z4,z5⟩:=H.rst_rd 5 rfl hi
     have z1:iadG 17 w (some i)=some (atz 17 w i):=z1
     have z4:=Gf H z4
     have z4:ldX σ0 [.box 1 n (logV l2 t0 t1 t2 t3 u w),.th (own A5 [t0,t1,t2,t3] l2.state),.th (ow Ad u l2.units),.th (ow Ad v L),.th (own Ad cs W[i]),.th (rst Ad w W i cs),.th r] τ true 17 (atz 17 w i)=some (.agg cs):=z4
     have hul:lenG false u=some (l2.units.length:Int):=(H.hp.sl 2 rfl).len
     simp +contextual (disch:=omega) only[go_sem,c0,e0,e2,e3,ei,A0,hwl,z1,z4]
     obtain⟨q,τ5,R5,K5⟩:=Oe τ [t0,t1,t2,t3] l2.state (H.hp.rd 1 rfl) cs W[i] (H.hp.rd 4 rfl) (by omega) (by omega) hbt
     obtain⟨q0,q1,q2,q3,rfl,_⟩:=K5.rd 0 rfl
     refine by_c H R5 K5 fun H5=> ?_
     simp +contextual (disch:=omega) only[go_sem,e0,e2,e3,ei]
     intro n6 f6 τ60 _ τ6 H6
     have g6:n<n6:=f6.1
     obtain⟨y1,y2,y3,y4,y5⟩:=H6.rst_rd 7 rfl hi
     have y1:iadG 17 w (some i)=some (atz 17 w i):=y1
     have y4:=Gf H6 y4
     have y4:ldX σ0 [.box 1 n6 [q0,q1,q2,q3],.th (own A5 [q0,q1,q2,q3] (Cr l2.state W[i]).1),.box 1 n (logV l2 t0 t1 t2 t3 u w),.th (own A5 [t0,t1,t2,t3] l2.state),.th (ow Ad u l2.units),.th (ow Ad v L),.th (own Ad cs W[i]),.th (rst Ad w W i cs),.th r] τ6 true 17 (atz 17 w i)=some (.agg cs):=y4
     have stay:∀ env',env' 0= .ptr n 0->env' 2= .bool b->env' 3=v->J2 (i+1) env' τ6:=fun env' a0 a2 a3=>by
      obtain⟨hz,HZ,Z0⟩:=Aap (A3p (H6.re [2,3,4,5,7,8] (by decide))) (by omega)
      exact hJ2 _ _ _ _ HZ ⟨a0,b,l2,t0,t1,t2,t3,u,v,L,a2,a3,hG2,hw2,hS2,hL,by omega,Z0⟩
     have wait:∀ n9:Nat,∀ τ9,Hx σ0 τ9 [.box 17 n9 cs,.box 1 n6 [q0,q1,q2,q3],.th (own A5 [q0,q1,q2,q3] (Cr l2.state W[i]).1),.box 1 n (logV l2 t0 t1 t2 t3 u w),.th (own A5 [t0,t1,t2,t3] l2.state),.th (ow Ad u l2.units),.th (ow Ad v L),.th (own Ad cs W[i]),.th (rst Ad w W i cs),.th r]->∀ k:Kx,(∀ v' h' τ',(∀ env',env' 0= .ptr n 0->env' 2= .bool b->env' 3=v'->J2 (i+1) env' τ')->k v' h' τ')->genX σ0 false τ9 (appV 17 264 τ9 v (.sl n9 0 1)) k:=fun n9 τ9 H9 k hk=>by
      refine Kl H9 7 6 rfl rfl Cq (by decide) (by omega) fun v' τ10 H10=> ?_
      refine hk _ _ _ fun env' a0 a2 a3=> ?_
      obtain⟨hz,HZ,Z0⟩:=Aap (A3p (H10.re [3,4,5,6,7,8] (by decide))) (by omega)
      refine hJ2 _ _ _ _ HZ ⟨a0,b,l2,t0,t1,t2,t3,u,v',L++[W[i]],a2,a3,hG2,hw2,hS2,fun x hx=> ?_,by rw[Zah,Zag];omega,Z0⟩
      rcases Zak.1 hx with hx|hx
      ·exact hL x hx
      ·rw[Zal.1 hx];exact Zaa hi
     obtain⟨c,hc⟩:∃ c,c=(Cr l2.state W[i]).2:=⟨_,rfl⟩
     rw[<- hc]
     by_cases h0:c=0
     ·subst h0
      have b0:((0:Int)==0)=true:=rfl
      have b1:((0:Int) != 1)=true:=rfl
      by_cases hn:l2.units.length<60
      ·have bn:decide ((l2.units.length:Int)<60)=true:=by simp;omega
       simp +contextual (disch:=omega) only[go_sem,e0,e2,e3,ei,A0,hwl,hul,bn,b0,b1,y1,y4,Ab (cs:=zeU) hcl rfl,hcl]
       obtain⟨u',τ7,R7,H7⟩:=Yb l2 n t0 t1 t2 t3 u w q0 q1 q2 q3 (H6.re [2,4,1,5,6,7,8] (by decide)) hg cs W[i] (fun τ' H'=>H'.hp.rd 2 rfl) (by omega) (by omega)
       refine by_m R7 H7 ?_
       simp +contextual (disch:=omega) only[go_sem,e0,e2,e3,ei]
       obtain⟨hz,HZ,Z0⟩:=Aap (l:={l2 with state:=(Cr l2.state W[i]).1,units:=l2.units++[W[i]],time:=Ya l2 W[i]}) (L:=L) (v:=v) (A3p (H7.re [0,2,1,3,5,6] (by decide))) (by omega)
       have htm:=A6w hok
       have htl:=hG2.tm
       refine hJ2 _ _ _ _ HZ ⟨by simp +contextual (disch:=omega) only[go_sem,e0],true,{l2 with state:=(Cr l2.state W[i]).1,units:=l2.units++[W[i]],time:=Ya l2 W[i]},q0,q1,q2,q3,u',v,L,by simp +contextual (disch:=omega) only[go_sem],by simp +contextual (disch:=omega) only[go_sem,e3],A3l hG2 hok hbt hc.symm hn (by unfold Ya;split<;>omega),hw2,⟨hS2.1,fun x hx=> ?_,hS2.2.2⟩,hL,by(try simp only[if_true]);split at hLb<;>omega,Z0⟩
       rcases Zak.1 hx with hx|hx
       ·exact hS2.2.1 x hx
       ·rw[Zal.1 hx,<-hW0];exact .inr (Zaa hi)
      ·have bn:decide ((l2.units.length:Int)<60)=false:=by simp;omega
       simp +contextual (disch:=omega) only[go_sem,e0,e2,e3,ei,A0,hwl,hul,bn,b0,b1,y1,y4,Ab (cs:=zeU) hcl rfl,hcl]
       intro n9 f9 τ9 H9
       refine wait n9 τ9 H9 _ fun v' h' τ' hk=> ?_
       simp +contextual (disch:=omega) only[go_sem,e0,e2,e3,ei]
       exact hk _ (by simp +contextual (disch:=omega) only[go_sem,e0]) (by simp +contextual (disch:=omega) only[go_sem,e2]) (by simp +contextual (disch:=omega) only[go_sem])
     ·have b0:(c==0)=false:=by simpa using h0
      by_cases h1:c=1
      ·have b1:(c != 1)=false:=by simp[h1]
       simp +contextual (disch:=omega) only[go_sem,e0,e2,e3,ei,b0,b1]
       exact stay _ (by simp +contextual (disch:=omega) only[go_sem,e0]) (by simp +contextual (disch:=omega) only[go_sem,e2]) (by simp +contextual (disch:=omega) only[go_sem,e3])
      ·have b1:(c != 1)=true:=by simpa using h1
       simp +contextual (disch:=omega) only[go_sem,e0,e2,e3,ei,A0,hwl,hul,b0,b1,y1,y4,Ab (cs:=zeU) hcl rfl,hcl]
       intro n9 f9 τ9 H9
       refine wait n9 τ9 H9 _ fun v' h' τ' hk=> ?_
       simp +contextual (disch:=omega) only[go_sem,e0,e2,e3,ei]
       exact hk _ (by simp +contextual (disch:=omega) only[go_sem,e0]) (by simp +contextual (disch:=omega) only[go_sem,e2]) (by simp +contextual (disch:=omega) only[go_sem])
    ·clear H H3 H4 H5 HZ Z0 e0 e2 hG1
     rintro Y2 hY2 env h τ ei c0 H ⟨e0,b,l2,t0,t1,t2,t3,u,v,L,e2,e3,hG2,hw2,hS2,hL,hLb,hz⟩
     rcases hz with⟨hz,_⟩|⟨_,rfl⟩
     ·exact absurd hz (Nat.lt_irrefl _)
     simp +contextual (disch:=omega) only[go_sem,c0,e0,e2,e3,ei,hwl]
     exact hY2 _ _ _ H ⟨e0,b,l2,t0,t1,t2,t3,u,v,L,e2,e3,hG2,hw2,hS2,hL,hLb,rfl⟩
    ·clear H H3 H4 H5 HZ Z0 e0 e2
     rintro env h τ H ⟨e0,b,l2,t0,t1,t2,t3,u,v,L,e2,e3,hG2,hw2,hS2,hL,hLb,rfl⟩
     have cv:=(H.hp.sl 3 rfl).cell
     simp +contextual (disch:=omega) only[go_sem,e0,e2,e3,cv]
     intro τ7 H7
     have hwn:=hG2.nw
     rw[hw2] at hwn
     refine⟨2*L.length+(if b then 1 else 0),?_,hJ _ _ _ _ (H7.re [0,1,2,3,5] (by decide)) ⟨by simp +contextual (disch:=omega) only[go_sem,e0],b,{l2 with waits:=L},t0,t1,t2,t3,u,v,by simp +contextual (disch:=omega) only[go_sem,e2],⟨hG2.rp,hG2.tm,hG2.st,hG2.un,fun x hx=>hWa x (hL x hx),hG2.nu,by show L.length<=6;split at hLb<;>omega,hG2.ub,fun x hx=>hWb x (hL x hx),hG2.run⟩,hS1.trans ⟨hS2.1,hS2.2.1,fun x hx=>by rw[<- hW0];exact hL x hx⟩,rfl,rfl⟩⟩
     rw[<- hW0]
     cases b<;>simp only[if_true,Bool.false_eq_true,if_false] at hLb ⊢ <;>omega
  ·rintro env h τ H ⟨l',t0,t1,t2,t3,u,w,hG',hS',rfl⟩
   simp +contextual (disch:=omega) only[go_sem]
   exact fun _=>⟨_,rfl,l',t0,t1,t2,t3,u,w,rfl,hG',hS',H⟩
 obtain⟨q,τ,R,l',t0,t1,t2,t3,u,w,rfl,h⟩:=key
 exact⟨τ,l',t0,t1,t2,t3,u,w,R,h⟩
abbrev A6x:Nat:=267
def A6y:Fn1:=⟨77,[.c 4 true 8,.t 5],(rg [oX 2 0,oX 3 1,o 4 (.new [z0,z0,.nilS,.nilS,.nilS,.nilS,.nilS,.nilS]),oV 5 (ki 0)] (rg [oW 11 8 2,oC 12 327 11,o 6 (.new [z0,z0,.nilS,.nilS,.nilS,.nilS,.nilS,.nilS]),oS 8 6 12] (.seq (rg [oW 13 17 3,oC 14 97 13,oU 15 14,oM 16 15,vW 17 16 8 2,vC 18 16 328 17,vU 19 16 18,oP 20 16 19] (cn 20 (rg [oW 21 8 6,oS 8 4 21,oV 5 (ki 3)] .ret) .skip)) (rg [oF 23 2 2,oW 24 4 23,oW 25 17 3,oD 26 44 24 25,oM 22 26,o 27 (.ext 0 (.t 22)),o 28 (.ext 1 (.t 22)),o 7 (.new [.nilS,.nilS,.nilS,.nilS]),oS 4 7 27,oM 8 28] (.seq (rg [oM 29 8,oE 30 .eql 29 2] (cn 30 (rg [oF 31 7 2,oL 32 31,oN 33 32,oE 34 .geq 33 6,oM 9 34] (.seq (rg [oV 10 (ki 0)] (.blk 0 (.lop (.seq (rg [oM 35 10,oF 36 7 2,oL 37 36,oN 38 37,oB 39 .lss 35 38] (cn 39 .skip (.ext 0))) (.seq (.blk 1 (.drw [oM 42 9,oM 43 42,vF 44 43 7 2,vL 45 43 44,vM 46 43 10,vI 47 43 17 45 46,vW 48 43 17 47,vW 49 43 17 3] [vD 50 43 186 48 49,oP 51 43 50,oM 9 51])) (.reg [oM 40 10,oZ 41 40 1,oM 10 41])))))) (.seq (rg [oM 52 9,oU 53 52] (cn 53 (.drw [oF 54 7 6,oL 55 54,oW 56 17 3,oC 57 99 56,o 58 (.lit 17 1 [(.bool false),z0,z0,z0,.nilS,z0,s0,s0,z0,z0,z0,.nilS,.nilS,.nilS,.nilS,.nilS,.nilS] [(0,17,(.t 57))])] [o 59 (.app 17 264 [(.bool false),z0,z0,z0,.nilS,z0,s0,s0,z0,z0,z0,.nilS,.nilS,.nilS,.nilS,.nilS,.nilS] (.t 55) (.t 58)),oF 60 7 6,oS 1 60 59]) .skip)) (rg [oW 61 8 6,oM 62 8,oS 8 4 61,oM 5 62] .ret)))) .skip)) (.seq (rg [oM 63 8,oE 64 .neq 63 0] (cn 64 (rg [oW 65 8 6,oM 66 8,oS 8 4 65,oM 5 66] .ret) .skip)) (.seq (rg [oF 67 6 2,oL 68 67,oN 69 68,oE 70 .geq 69 60] (cn 70 (rg [oW 71 8 6,oS 8 4 71,oV 5 (ki 4)] .ret) .skip)) (rg [oW 72 17 3,oW 73 4 7,o 74 (.call 329 [(.t 6),(.t 72),(.t 73)])] (rg [oC 75 330 6] (rg [oW 76 8 6,oS 8 4 76,oV 5 (ki 0)] .ret))))))))))⟩
theorem Ac1:A6 Tryz.prog A6x=some A6y:=by kernel_rfl
def HeS (l:Log) (x:Unit_) (l':Log):Prop:=l'.rep=l.rep/\(∀ y∈l'.units,y∈l.units∨y∈l.waits∨y=x)/\∀ y∈l'.waits,y∈l.waits∨y=x
theorem HeS.refl (l:Log) (x:Unit_):HeS l x l:=⟨rfl,fun y h=>.inl h,fun y h=>.inl h⟩
theorem Ae8 (σ:St) (cs:List GV) (l:Log) (hR:kLog.R σ l cs) (hG:LogG l) (us:List GV) (x:Unit_) (hU:Ad.R σ x us) (hx:E6 x=true) (hb:x.batch=false):∃ q τ,Ret Tryz.prog A6x [.agg cs,.agg us] σ q τ/\∃ ds c l',q= .tup [.agg ds,gi c]/\LogG l'/\HeS l x l'/\Hp σ τ [own kLog ds l']:=by
 have hlm:=hG.ms
 have hst:=hG.st.ms
 have hxm:=Mf hx
 have hnw:=hG.nw
 have hnu:=hG.nu
 have gu:us.length=17:=Ad.len hU
 have hR0:=hR
 obtain⟨s0,s1,s2,s3,u,w,rfl,hS,hUn,hW⟩:=I6 hR
 refine D8 Ac1 (Z0z rfl) (Hx.refl σ) ?_
 simp +contextual (disch:=omega) only[go_sem,A6y]
 intro n2 f2 τ1 _ n3 f3 τ2 _ n4 f4 τ3 H3
 obtain⟨ds,τ5,R5,K5⟩:=Q8 τ3 _ l (kLog.pre hR0 H3.sub) (by omega)
 have gd:ds.length=8:=kLog.len (K5.rd 0 rfl)
 refine by_c H3 R5 K5 fun H5=> ?_
 simp +contextual (disch:=omega) only[go_sem,Ab (cs:=Ol) gd rfl,gd]
 intro n6 f6 τ60 _ τ6 H6
 try simp +contextual (disch:=omega) only[go_sem,A4 gu]
 refine by_r H6 (Hg _ us x (Ad.pre hU H6.sub) (by omega)) ?_
 simp +contextual (disch:=omega) only[go_sem,hx]
 obtain⟨_,τ7,R7,b,rfl,K7,hbt⟩:=Y5 τ6 _ l (kLog.pre hR0 H6.sub) hG
 have H7:Hp σ τ7 (([]:List Thg)++_):=H6.hp.add K7
 obtain⟨v2,v3,v4,rfl,X⟩:=Hp.splitLog (H7.pick 1 rfl)
 obtain⟨t0,t1,t2,t3,rfl,_⟩:=X.rd 0 rfl
 have H8:Hx σ τ7 [.th (own A5 [t0,t1,t2,t3] l.state),.th (ow Ad v3 l.units),.th (ow Ad v4 l.waits),.box 1 n6 (logV l t0 t1 t2 t3 v3 v4),.box 1 n4 Ol,.box 1 n3 us,.box 1 n2 (logV l s0 s1 s2 s3 u w)]:=X
 refine by_m R7 H8 ?_
 have fin:∀(τ:St) (l':Log) (p0 p1 p2 p3 p4 p5:GV) (rs:List Thg),Hp σ τ (own A5 [p0,p1,p2,p3] l'.state::ow Ad p4 l'.units::ow Ad p5 l'.waits::rs)->Hp σ τ [own kLog (logV l' p0 p1 p2 p3 p4 p5) l']:=fun τ l' p0 p1 p2 p3 p4 p5 rs H=>(Hp.ownLog (x:=l') H).sel [0] (by decide)
 cases b with
 |false=>
  simp +contextual (disch:=omega) only[go_sem]
  intro τ8 H8
  exact⟨_,rfl,_,_,l,rfl,hG,HeS.refl l x,fin _ l _ _ _ _ _ _ _ H8.hp⟩
 |true=>
  simp +contextual (disch:=omega) only[go_sem]
  obtain⟨q,τ9,R9,K9⟩:=Oe τ7 _ l.state (A5.pre hS H8.sub) us x (Ad.pre hU H8.sub) (by omega) (by omega) hb
  obtain⟨q0,q1,q2,q3,rfl,_⟩:=K9.rd 0 rfl
  try simp +contextual (disch:=omega) only[go_sem,A4 gu]
  refine by_c H8 R9 K9 fun H9=> ?_
  simp +contextual (disch:=omega) only[go_sem]
  intro n7 f7 τ100 _ τ10 H10
  obtain⟨c,hc⟩:∃ c,c=(Cr l.state x).2:=⟨_,rfl⟩
  rw[<- hc]
  by_cases h2:c=2
  ·subst h2
   have b2:((2:Int)==2)=true:=rfl
   simp +contextual (disch:=omega) only[go_sem,hW.len,b2]
   obtain⟨b0,hb0⟩:∃ b0,b0=decide (6<=(l.waits.length:Int)):=⟨_,rfl⟩
   rw[<- hb0]
   refine Bu l.waits.length 10 0 (fun i env h=>env 2= .ptr n2 0/\env 3= .ptr n3 0/\env 4= .ptr n4 0/\env 6= .ptr n6 0/\env 8=gi 2/\∃ b:Bool,env 9= .bool b/\(b=false->l.waits.length<6)/\h=[.box 1 n7 [q0,q1,q2,q3],.th (own A5 [q0,q1,q2,q3] (Cr l.state x).1),.th (own A5 [t0,t1,t2,t3] l.state),.th (ow Ad v3 l.units),.th (ow Ad v4 l.waits),.box 1 n6 (logV l t0 t1 t2 t3 v3 v4),.box 1 n4 Ol,.box 1 n3 us,.box 1 n2 (logV l s0 s1 s2 s3 u w)]) (fun env h=>env 3= .ptr n3 0/\env 4= .ptr n4 0/\env 6= .ptr n6 0/\env 8=gi 2/\∃ b:Bool,env 9= .bool b/\(b=false->l.waits.length<6)/\h=[.box 1 n7 [q0,q1,q2,q3],.th (own A5 [q0,q1,q2,q3] (Cr l.state x).1),.th (own A5 [t0,t1,t2,t3] l.state),.th (ow Ad v3 l.units),.th (ow Ad v4 l.waits),.box 1 n6 (logV l t0 t1 t2 t3 v3 v4),.box 1 n4 Ol,.box 1 n3 us,.box 1 n2 (logV l s0 s1 s2 s3 u w)]) (fun _ _=>False) _ H10 (by simp +contextual (disch:=omega) only[go_sem]) ⟨by simp +contextual (disch:=omega) only[go_sem],by simp +contextual (disch:=omega) only[go_sem],by simp +contextual (disch:=omega) only[go_sem],by simp +contextual (disch:=omega) only[go_sem],by simp +contextual (disch:=omega) only[go_sem],b0,by simp +contextual (disch:=omega) only[go_sem],fun h=>by rw[hb0] at h;have:=of_decide_eq_false h;omega,rfl⟩ ?_ ?_ ?_ (fun _ _ _ _ h=>h.elim)
   ·clear H3 H5 H6 H7 X H8 H9 H10
    rintro J Y W' hJ hY hW' i env h τ hi ei c0 H ⟨e2,e3,e4,e6,e8,b,e9,hb9,rfl⟩
    cases b with
    |true=>
     simp +contextual (disch:=omega) only[go_sem,c0,e2,e3,e4,e6,e8,e9,ei,hW.len]
     exact hJ _ _ _ _ H ⟨by simp +contextual (disch:=omega) only[go_sem,e2],by simp +contextual (disch:=omega) only[go_sem,e3],by simp +contextual (disch:=omega) only[go_sem,e4],by simp +contextual (disch:=omega) only[go_sem,e6],by simp +contextual (disch:=omega) only[go_sem,e8],true,by simp +contextual (disch:=omega) only[go_sem],hb9,rfl⟩
    |false=>
     obtain⟨kv,d0,d1,d2,d3,d4,d5,U,hUw,_,_⟩:=Mz hW hi
     have hwm:=Mf (hG.wa l.waits[i] (Zaa hi))
     simp +contextual (disch:=omega) only[go_sem,c0,e2,e3,e4,e6,e8,e9,ei,hW.len,A0,U,A4 gu]
     refine by_r H (Zl _ _ us l.waits[i] x (Ad.pre hUw H.sub) (Ad.pre hU H.sub) (by omega) (by omega)) ?_
     simp +contextual (disch:=omega) only[go_sem,ei]
     exact hJ _ _ _ _ H ⟨by simp +contextual (disch:=omega) only[go_sem,e2],by simp +contextual (disch:=omega) only[go_sem,e3],by simp +contextual (disch:=omega) only[go_sem,e4],by simp +contextual (disch:=omega) only[go_sem,e6],by simp +contextual (disch:=omega) only[go_sem,e8],decide (l.waits[i]=x),by simp +contextual (disch:=omega) only[go_sem],fun _=>hb9 rfl,rfl⟩
   ·clear H3 H5 H6 H7 X H8 H9 H10
    rintro Y hY env h τ ei c0 H ⟨e2,e3,e4,e6,e8,b,e9,hb9,rfl⟩
    simp +contextual (disch:=omega) only[go_sem,c0,e2,ei,hW.len]
    exact hY _ _ _ H ⟨e3,e4,e6,e8,b,e9,hb9,rfl⟩
   ·clear H3 H5 H6 H7 X H8 H9 H10
    rintro env h τ H ⟨e3,e4,e6,e8,b,e9,hb9,rfl⟩
    cases b with
    |true=>
     simp +contextual (disch:=omega) only[go_sem,e4,e6,e8,e9]
     intro τ11 H11
     exact⟨_,rfl,_,_,l,rfl,hG,HeS.refl l x,fin _ l _ _ _ _ _ _ _ (H11.re [2,3,4] (by decide)).hp⟩
    |false=>
     have hlt:=hb9 rfl
     simp +contextual (disch:=omega) only[go_sem,e3,e4,e6,e8,e9,A4 gu]
     obtain⟨a,τ11,R11,K11⟩:=Gh τ us x (Ad.pre hU H.sub) (by omega)
     have al:a.length=17:=Ad.len (K11.rd 0 rfl)
     refine by_c H R11 K11 fun H11=> ?_
     simp +contextual (disch:=omega) only[go_sem,Ab (cs:=zeU) al rfl,al]
     intro n12 f12 τ12 H12
     refine Kl H12 1 5 rfl rfl Cq (by decide) (by omega) fun v' τ13 H13=> ?_
     have cv:=(H13.hp.sl 5 rfl).cell
     simp +contextual (disch:=omega) only[go_sem,e4,e6,e8,cv]
     intro τ14 _ τ15 H15
     exact⟨_,rfl,_,_,{l with waits:=l.waits++[x]},rfl,Afv hG hx hb hlt,⟨rfl,fun y h=>.inl h,fun y h=>(Zak.1 h).imp id fun h=>Zal.1 h⟩,fin _ {l with waits:=l.waits++[x]} _ _ _ _ _ _ _ (H15.re [3,4,5] (by decide)).hp⟩
  have b2:(c==2)=false:=by simpa using h2
  by_cases h0:c=0
  rotate_left
  ·have b0:(c != 0)=true:=by simpa using h0
   simp +contextual (disch:=omega) only[go_sem,b2,b0]
   intro τ11 H11
   exact⟨_,rfl,_,_,l,rfl,hG,HeS.refl l x,fin _ l _ _ _ _ _ _ _ (H11.re [2,3,4] (by decide)).hp⟩
  subst h0
  have b0:((0:Int) != 0)=false:=rfl
  by_cases hn:60<=l.units.length
  ·have bn:decide (60<=(l.units.length:Int))=true:=by simp;omega
   simp +contextual (disch:=omega) only[go_sem,hUn.len,bn,b0,b2]
   intro τ11 H11
   exact⟨_,rfl,_,_,l,rfl,hG,HeS.refl l x,fin _ l _ _ _ _ _ _ _ (H11.re [2,3,4] (by decide)).hp⟩
  have bn:decide (60<=(l.units.length:Int))=false:=by simp;omega
  simp +contextual (disch:=omega) only[go_sem,hUn.len,bn,b0,b2,A4 gu]
  obtain⟨u',τ11,R11,H11⟩:=Yb l n6 t0 t1 t2 t3 v3 v4 q0 q1 q2 q3 (H10.re [5,3,1,4,6,7,8] (by decide)) f6.2.2.2 us x (fun τ' H'=>Ad.pre hU H'.sub) (by omega) (by omega)
  have H11:Hx σ τ11 [.box 1 n6 (logV {l with state:=(Cr l.state x).1,units:=l.units++[x],time:=Ya l x} q0 q1 q2 q3 u' v4),.th (ow Ad u' (l.units++[x])),.th (own A5 [q0,q1,q2,q3] (Cr l.state x).1),.th (ow Ad v4 l.waits),.box 1 n4 Ol,.box 1 n3 us,.box 1 n2 (logV l s0 s1 s2 s3 u w)]:=H11
  refine by_m R11 H11 ?_
  simp +contextual (disch:=omega) only[go_sem]
  have htm:=A6w hx
  have htl:=hG.tm
  have hG1:LogG {l with state:=(Cr l.state x).1,units:=l.units++[x],time:=Ya l x}:=A3l hG hx hb hc.symm (by omega) (by unfold Ya;split<;>omega)
  have H12:Hx σ τ11 (lgI n6 {l with state:=(Cr l.state x).1,units:=l.units++[x],time:=Ya l x} q0 q1 q2 q3 u' v4 (bun [pt 1 n4 Ol])):=Hp.bun [_,_,_,_] [pt 1 n4 Ol] ((H11.re [0,2,1,3,4] (by decide)).hp)
  obtain⟨τ13,l',p0,p1,p2,p3,p4,p5,R13,hG',hS',H13⟩:=A9k _ hG1 n6 q0 q1 q2 q3 u' v4 _ H12 f6.2.2.2
  have H14:Hx σ τ13 [.box 1 n6 (logV l' p0 p1 p2 p3 p4 p5),.th (own A5 [p0,p1,p2,p3] l'.state),.th (ow Ad p4 l'.units),.th (ow Ad p5 l'.waits),.box 1 n4 Ol]:=Hp.unbun [_,_,_,_] [pt 1 n4 Ol] H13.hp
  refine by_m R13 H14 ?_
  simp +contextual (disch:=omega) only[go_sem]
  intro τ15 H15
  refine⟨_,rfl,_,_,l',rfl,hG',⟨hS'.1,fun y hy=> ?_,fun y hy=>.inl (hS'.2.2 y hy)⟩,fin _ l' _ _ _ _ _ _ _ (H15.re [1,2,3] (by decide)).hp⟩
  rcases hS'.2.1 y hy with h|h
  ·rcases Zak.1 h with h|h
   ·exact .inl h
   ·exact .inr (.inr (Zal.1 h))
  ·exact .inr (.inl h)
abbrev Oo:Nat:=162
def Yc:Fn1:=⟨73,[.t 4],(rg [o 4 (.mov (.k .nilS))] (rg [o 10 (.lit 8 0 [] []),oM 5 10] (.seq (rg [oV 6 (ki 0)] (.blk 0 (.lop (.seq (rg [oM 11 6,oE 12 .lss 11 3] (cn 12 .skip (.ext 0))) (.seq (.blk 1 (.reg [oM 15 5,oM 16 6,oC 17 266 16,o 18 (.lit 8 1 [z0,z0,.nilS,.nilS,.nilS,.nilS,.nilS,.nilS] [(0,8,(.t 17))]),o 19 (.app 8 160 [z0,z0,.nilS,.nilS,.nilS,.nilS,.nilS,.nilS] (.t 15) (.t 18)),oM 5 19])) (.reg [oM 13 6,oZ 14 13 1,oM 6 14])))))) (.seq (rg [oV 7 (ki 0)] (.blk 2 (.lop (.seq (rg [oM 20 7,oM 21 1,oB 22 .lss 20 21] (cn 22 .skip (.ext 2))) (.seq (.blk 3 (rg [oM 25 0,o 26 (.call 163 [(.t 25),(ki 3)]),oM 8 26] (.seq (rg [oM 27 0,o 28 (.call 202 [(.t 27),(ki 3)])] (cn 28 (rg [oM 29 5,oM 30 0,o 31 (.call 163 [(.t 30),(ki 3)]),oI 32 8 29 31,oW 33 8 32,o 9 (.new [z0,z0,.nilS,.nilS,.nilS,.nilS,.nilS,.nilS]),oS 8 9 33] (.seq (rg [oF 34 6 9,oL 35 34,oN 36 35,oE 37 .gtr 36 0] (cn 37 (.drw [] [oM 39 5,oM 40 8,oM 41 5,oM 42 8,oI 43 8 41 42,oW 44 8 43,oF 45 6 9,oL 46 45,oM 47 0,oF 48 6 9,oL 49 48,oN 50 49,oD 51 163 47 50,on (.chk 44 (.ld true 8 (.t 43))),on (.chk 46 (.ld false 1 (.t 45))),oI 52 17 46 51,oW 53 17 52,oD 54 267 44 53,oM 38 54,o 55 (.ext 0 (.t 38)),o 56 (.ext 1 (.t 38)),oI 57 8 39 40,oS 8 57 55]) .skip)) (.ext 3))) .skip)) (.drw [] [oM 59 5,oM 60 8,oM 61 5,oM 62 8,oI 63 8 61 62,oW 64 8 63,oM 65 0,oC 66 269 65,on (.chk 64 (.ld true 8 (.t 63))),oD 67 268 64 66,oM 58 67,o 68 (.ext 0 (.t 58)),o 69 (.ext 1 (.t 58)),o 70 (.ext 2 (.t 58)),oI 71 8 59 60,oS 8 71 68])))) (.reg [oM 23 7,oZ 24 23 1,oM 7 24])))))) (rg [oM 72 5,oM 4 72] .ret)))))⟩
theorem A6z:Es true Tryz.prog Oo=some Yc:=by kernel_rfl
abbrev S6:Nat:=203
def A1n:Fn1:=⟨16,[.c 2 true 8],(rg [o 2 (.new [z0,z0,.nilS,.nilS,.nilS,.nilS,.nilS,.nilS])] (rg [oM 4 0,oM 5 0,o 6 (.call 163 [(.t 5),(ki 8)]),o 7 (.bin .add (ki 3) (.t 6)),oD 8 162 4 7,oM 3 8] (rg [oM 9 3,oM 10 0,oM 11 3,oN 12 11,oD 13 163 10 12,oI 14 8 9 13,oW 15 8 14,oS 8 2 15] .ret)))⟩
theorem A9l:A6 Tryz.prog S6=some A1n:=by kernel_rfl
def news (n:Nat):List Log:=(List.range n).map fun k:Nat=>⟨(k:Int),0,st0,[],[]⟩
theorem Ae9 (n:Nat):news (n+1)=news n++[⟨(n:Int),0,st0,[],[]⟩]:=by unfold news;rw[List.range_succ,List.map_append];rfl
theorem Afy (n:Nat):(news n).length=n:=by simp[news]
inductive Lgs:List Log->Prop
 |new:Lgs (news 3)
 |edit {ls:List Log} {r:Nat} {l:Log} (e:Edit) {l':Log}:Lgs ls->ls[r]? =some l->EdD e->EdS l e l'->LogG l'->Lgs (ls.set r l')
 |hear {ls:List Log} {r f:Nat} {l g:Log} (u:Unit_) {l':Log}:Lgs ls->ls[r]? =some l->ls[f]? =some g->u∈g.units->HeS l u l'->LogG l'->Lgs (ls.set r l')
theorem Lgs.len {ls:List Log} (h:Lgs ls):ls.length=3:=by
 induction h with
 |new=>rfl
 |edit _ _ _ _ _ _ ih=>rw[Za5];exact ih
 |hear _ _ _ _ _ _ _ ih=>rw[Za5];exact ih
theorem Lgs.g {ls:List Log} (h:Lgs ls):∀ l∈ls,LogG l:=by
 induction h with
 |new=>
  intro l hl
  obtain⟨k,hk,rfl⟩:=List.mem_map.1 hl
  have:=List.mem_range.1 hk
  exact Aib ⟨by omega,by omega⟩
 |edit _ _ _ _ _ hg ih=>
  intro l hl
  rcases Zaq hl with h|h
  ·exact ih l h
  ·rw[h];exact hg
 |hear _ _ _ _ _ _ hg ih=>
  intro l hl
  rcases Zaq hl with h|h
  ·exact ih l h
  ·rw[h];exact hg
theorem log_R {σ:St} {x:Log} {s0 s1 s2 s3 u w:GV} (h:kLog.R σ x (logV x s0 s1 s2 s3 u w)):A5.R σ x.state [s0,s1,s2,s3]/\RS Ad σ u x.units/\RS Ad σ w x.waits:=by
 obtain⟨t0,t1,t2,t3,u',w',e,h1,h2,h3⟩:=I6 h
 injection e with _ e;injection e with _ e;injection e with e0 e;injection e with e1 e;injection e with e2 e;injection e with e3 e;injection e with e4 e;injection e with e5 _
 subst e0 e1 e2 e3 e4 e5
 exact⟨h1,h2,h3⟩
section
variable {σ0 σ:St} {h:List Item} {c v:GV} {bs:List Int}
theorem A9m (H:Hx σ0 σ h) (k:Nat) (hk:h[k]? =some (cuI c v bs)) (D:Dr σ0 v bs) (n:Nat) (hn:n<=1000):∃(r:GV) (ls:List Log) (τ:St),Lgs ls/\Ret Tryz.prog Oo [c,gi n] σ r τ/\Hx σ0 τ (.th (ow kLog r ls)::h):=by
 have key:∃ w τ,Ret Tryz.prog Oo [c,gi n] σ w τ/\∃ ls,Lgs ls/\Hx σ0 τ (.th (ow kLog w ls)::h):=by
  refine D8 A6z (Z0z rfl) H ?_
  simp +contextual (disch:=omega) only[go_sem,Yc]
  intro n1 f1 τ1 H1
  have g1:=Al f1
  refine Bu 3 6 0 (fun i env hh=>env 0=c/\env 1=gi n/\∃ w,env 5=w/\hh= .th (ow kLog w (news i))::h) (fun env hh=>env 0=c/\env 1=gi n/\∃ w,env 5=w/\hh= .th (ow kLog w (news 3))::h) (fun _ _=>False) _ (H1.emp kLog rfl) (by simp +contextual (disch:=omega) only[go_sem]) ⟨by simp +contextual (disch:=omega) only[go_sem],by simp +contextual (disch:=omega) only[go_sem],.sl n1 0 0,by simp +contextual (disch:=omega) only[go_sem],rfl⟩ ?_ ?_ ?_ (fun _ _ _ _ h=>h.elim)
  ·clear H1
   rintro J Y W hJ hY hW i env h' τ hi ei c0 H ⟨e0,e1,w,e5,rfl⟩
   have c0:decide ((i:Int)<3)=true:=c0
   simp +contextual (disch:=omega) only[go_sem,c0,e0,e1,e5,ei]
   obtain⟨cs,τ2,R2,K2⟩:=A6q τ i
   have gl:cs.length=8:=kLog.len (K2.rd 0 rfl)
   refine by_c H R2 K2 fun H2=> ?_
   simp +contextual (disch:=omega) only[go_sem,Ab (cs:=Ol) gl rfl,gl]
   intro n3 f3 τ3 H3
   refine Kl H3 1 1 rfl rfl Cq (by decide) (by rw[Afy];omega) fun w' τ4 H4=> ?_
   simp +contextual (disch:=omega) only[go_sem,ei]
   exact hJ _ _ _ _ H4.tl ⟨by simp +contextual (disch:=omega) only[go_sem,e0],by simp +contextual (disch:=omega) only[go_sem,e1],w',by simp +contextual (disch:=omega) only[go_sem],by rw[Ae9];rfl⟩
  ·clear H1
   rintro Y hY env h' τ ei c0 H ⟨e0,e1,w,e5,rfl⟩
   have ei:env 6=gi 3:=ei
   have c3:decide ((3:Int)<3)=false:=rfl
   simp +contextual (disch:=omega) only[go_sem,ei,c3]
   exact hY _ _ _ H ⟨e0,e1,w,e5,rfl⟩
  ·clear H1
   rintro env h' τ H ⟨e0,e1,w,e5,rfl⟩
   simp +contextual (disch:=omega) only[go_sem,e0,e1,e5]
   refine Bu n 7 2 (fun i env hh=>env 0=c/\env 1=gi n/\∃ w ls,env 5=w/\Lgs ls/\hh= .th (ow kLog w ls)::h) (fun env hh=>∃ w ls,env 5=w/\Lgs ls/\hh= .th (ow kLog w ls)::h) (fun _ _=>False) _ H (by simp +contextual (disch:=omega) only[go_sem]) ⟨by simp +contextual (disch:=omega) only[go_sem,e0],by simp +contextual (disch:=omega) only[go_sem,e1],w,_,by simp +contextual (disch:=omega) only[go_sem,e5],.new,rfl⟩ ?_ ?_ ?_ (fun _ _ _ _ h=>h.elim)
   ·clear H e0 e1 e5
    rintro J Y W hJ hY hW i env h' τ hi ei c0 H ⟨e0,e1,w,ls,e5,hLg,rfl⟩
    have hg:=hLg.g
    have hl3:=hLg.len
    simp +contextual (disch:=omega) only[go_sem,c0,e0,e1,e5,ei]
    obtain⟨r,τ1,hr,R1,H1⟩:=Bw H (k+1) hk D 3 (by decide) (by decide)
    refine by_k R1 H1 ?_
    simp +contextual (disch:=omega) only[go_sem,e0,e1,e5,ei]
    obtain⟨b,τ2,R2,H2⟩:=Fo H1 (k+1) hk D 3 (by decide)
    obtain⟨m,rfl,H2'⟩:=Hp.tell H2.hp
    have H2':Hx σ0 τ2 (.th (ow (told kLog) w m)::h):=H2'
    rw[Zaf] at hl3
    have hrm:r<m.length:=by omega
    have hmr:(m.map Prod.fst)[r]? =some m[r].1:=by rw[Za0,Zar hrm];rfl
    have hGr:LogG m[r].1:=hg _ (Zav hmr)
    refine by_k R2 H2' ?_
    cases b with
    |false=>
     have L:=H2'.told_rd 0 rfl hrm
     have L1:iadG 8 w (some r)=some (atz 8 w r):=L.1
     have L4:ldX σ0 (.th (ow (told kLog) w m)::h) τ2 true 8 (atz 8 w r)=some (.agg m[r].2):=L.2.2.2.1
     simp +contextual (disch:=omega) only[go_sem,e0,e1,e5,ei,A0,L1,L4]
     obtain⟨e,τ3,he,R3,H3⟩:=Km H2' (k+1) hk D
     have M:=H3.told_rd 0 rfl hrm
     have M4:ldX σ0 (.th (ow (told kLog) w m)::h) τ3 true 8 (atz 8 w r)=some (.agg m[r].2):=M.2.2.2.1
     refine by_k R3 H3 ?_
     simp +contextual (disch:=omega) only[go_sem,A0,L1,M4]
     have hsz:=he.size
     obtain⟨_,τ4,R4,ds,us,cc,l',rfl,ul,hG',hE,K4⟩:=Ac0 τ3 m[r].2 m[r].1 M.2.2.2.2.2 hGr e (by omega) (by omega) (by have:=he.place;omega)
     have H4:Hx σ0 τ4 (.th (own kLog ds l')::.th (ow (told kLog) w m)::h):=H3.hp.add K4
     have H5:Hx σ0 τ4 (.th (ow kLog w (m.map Prod.fst))::.th (own kLog ds l')::h):=Hp.untell (H4.fst 1 rfl).hp
     refine by_m R4 H5 ?_
     simp +contextual (disch:=omega) only[go_sem,e5,A0,L1]
     refine Adw (d:=kLog) H5 1 0 rfl rfl (by decide) (by rw[Zaf];exact hrm) fun τ6 H6=> ?_
     simp +contextual (disch:=omega) only[go_sem,ei]
     exact hJ _ _ _ _ H6 ⟨by simp +contextual (disch:=omega) only[go_sem,e0],by simp +contextual (disch:=omega) only[go_sem,e1],w,_,by simp +contextual (disch:=omega) only[go_sem,e5],.edit e hLg hmr he hE hG',rfl⟩
    |true=>
     simp +contextual (disch:=omega) only[go_sem,e0,e1,e5,ei]
     obtain⟨x,τ3,hx,R3,H3⟩:=Bw H2' (k+1) hk D 3 (by decide) (by decide)
     have hxm:x<m.length:=by omega
     have hmx:(m.map Prod.fst)[x]? =some m[x].1:=by rw[Za0,Zar hxm];rfl
     have hGx:LogG m[x].1:=hg _ (Zav hmx)
     have X:=H3.told_rd 0 rfl hxm
     obtain⟨s0,s1,s2,s3,uu,ww,hcs,hS,hUn,hW'⟩:=I6 X.2.2.2.2.2
     have X1:iadG 8 w (some x)=some (atz 8 w x):=X.1
     have X4:ldX σ0 (.th (ow (told kLog) w m)::h) τ3 true 8 (atz 8 w x)=some (.agg (logV m[x].1 s0 s1 s2 s3 uu ww)):=by rw[<- hcs];exact X.2.2.2.1
     refine by_k R3 H3 ?_
     simp +contextual (disch:=omega) only[go_sem,e0,e1,e5,ei,A0,X1,X4]
     intro n9 f9 τ50 _ τ5 H5
     have g9:σ0.length<=n9:=Al f9
     have hul:=hUn.len
     have hnu:=hGx.nu
     cases hb:decide (0<(m[x].1.units.length:Int)) with
     |false=>
      simp +contextual (disch:=omega) only[go_sem,hul,hb,ei]
      have H6:Hx σ0 τ5 (.th (ow kLog w (m.map Prod.fst))::h):=Hp.untell H5.tl.hp
      exact hJ _ _ _ _ H6 ⟨by simp +contextual (disch:=omega) only[go_sem,e0],by simp +contextual (disch:=omega) only[go_sem,e1],w,_,by simp +contextual (disch:=omega) only[go_sem,e5],hLg,rfl⟩
     |true=>
      have hpos:0<m[x].1.units.length:=by have:=of_decide_eq_true hb;omega
      have L:=H5.told_rd 1 rfl hrm
      have L1:iadG 8 w (some r)=some (atz 8 w r):=L.1
      have L4:ldX σ0 (.box 1 n9 (logV m[x].1 s0 s1 s2 s3 uu ww)::.th (ow (told kLog) w m)::h) τ5 true 8 (atz 8 w r)=some (.agg m[r].2):=L.2.2.2.1
      simp +contextual (disch:=omega) only[go_sem,e0,e1,e5,ei,A0,L1,L4,hul,hb]
      obtain⟨y,τ6,hy,R6,H6⟩:=Bw H5 (k+2) hk D m[x].1.units.length (by omega) (by omega)
      have M:=H6.told_rd 1 rfl hrm
      have M4:ldX σ0 (.box 1 n9 (logV m[x].1 s0 s1 s2 s3 uu ww)::.th (ow (told kLog) w m)::h) τ6 true 8 (atz 8 w r)=some (.agg m[r].2):=M.2.2.2.1
      have X6:=(H6.told_rd 1 rfl hxm).2.2.2.2.2
      rw[hcs] at X6
      have hU6:=(log_R X6).2.1
      have hyl:y<m[x].1.units.length:=by omega
      obtain⟨cu,⟨c1,_,_,c4,_⟩,hRu⟩:=RdN.cellsN hU6 hyl
      have c1:iadG 17 uu (some y)=some (atz 17 uu y):=c1
      have c4:=Gf H6 c4
      have c4:ldX σ0 (.box 1 n9 (logV m[x].1 s0 s1 s2 s3 uu ww)::.th (ow (told kLog) w m)::h) τ6 true 17 (atz 17 uu y)=some (.agg cu):=c4
      refine by_k R6 H6 ?_
      simp +contextual (disch:=omega) only[go_sem,A0,L1,M4,c1,c4]
      have hmem:m[x].1.units[y]∈m[x].1.units:=Zaa hyl
      obtain⟨_,τ7,R7,ds,cc,l',rfl,hG',hE,K7⟩:=Ae8 τ6 m[r].2 m[r].1 M.2.2.2.2.2 hGr cu m[x].1.units[y] hRu (hGx.un _ hmem) (hGx.ub _ hmem)
      have H7:Hx σ0 τ7 (.th (own kLog ds l')::.box 1 n9 (logV m[x].1 s0 s1 s2 s3 uu ww)::.th (ow (told kLog) w m)::h):=H6.hp.add K7
      have H8:Hx σ0 τ7 (.th (ow kLog w (m.map Prod.fst))::.th (own kLog ds l')::h):=Hp.untell ((H7.era 1).fst 1 rfl).hp
      refine by_m R7 H8 ?_
      simp +contextual (disch:=omega) only[go_sem,e5,A0,L1]
      refine Adw (d:=kLog) H8 1 0 rfl rfl (by decide) (by rw[Zaf];exact hrm) fun τ9 H9=> ?_
      simp +contextual (disch:=omega) only[go_sem,ei]
      exact hJ _ _ _ _ H9 ⟨by simp +contextual (disch:=omega) only[go_sem,e0],by simp +contextual (disch:=omega) only[go_sem,e1],w,_,by simp +contextual (disch:=omega) only[go_sem,e5],.hear _ hLg hmr hmx hmem hE hG',rfl⟩
   ·clear H e0 e1 e5
    rintro Y hY env h' τ ei c0 H ⟨e0,e1,w,ls,e5,hLg,rfl⟩
    simp +contextual (disch:=omega) only[go_sem,c0,e1,ei]
    exact hY _ _ _ H ⟨w,ls,e5,hLg,rfl⟩
   ·clear H e0 e1 e5
    rintro env h' τ H ⟨w,ls,e5,hLg,rfl⟩
    simp +contextual (disch:=omega) only[go_sem,e5]
    exact fun _=>⟨_,rfl,ls,hLg,H⟩
 obtain⟨w,τ,R,ls,hLg,H'⟩:=key
 exact⟨w,ls,τ,hLg,R,H'⟩
theorem Ac2 (H:Hx σ0 σ h) (k:Nat) (hk:h[k]? =some (cuI c v bs)) (D:Dr σ0 v bs):∃(ds:List GV) (l:Log) (ls:List Log) (τ:St),Lgs ls/\l∈ls/\Ret Tryz.prog S6 [c] σ (.agg ds) τ/\Hx σ0 τ (.th (own kLog ds l)::h):=by
 have key:∃ w τ,Ret Tryz.prog S6 [c] σ w τ/\∃ ds l ls,w= .agg ds/\Lgs ls/\l∈ls/\Hx σ0 τ (.th (own kLog ds l)::h):=by
  refine D8 A9l (Z0z rfl) H ?_
  simp +contextual (disch:=omega) only[go_sem,A1n]
  intro n2 f2 τ2 H2
  have g2:=Al f2
  obtain⟨x,τ3,hx,R3,H3⟩:=Bw H2 (k+1) hk D 8 (by decide) (by decide)
  refine by_k R3 H3 ?_
  obtain⟨q,hq⟩:∃ q:Nat,q=3+x:=⟨_,rfl⟩
  have e:(3:Int)+x=(q:Int):=by omega
  simp +contextual (disch:=omega) only[go_sem,e]
  obtain⟨r,ls,τ4,hLg,R4,H4⟩:=A9m H3 (k+1) hk D q (by omega)
  have hl3:=hLg.len
  have hrl:=(H4.hp.sl 0 rfl).len
  refine by_k R4 H4 ?_
  simp +contextual (disch:=omega) only[go_sem,hrl]
  obtain⟨y,τ5,hy,R5,H5⟩:=Bw H4 (k+2) hk D ls.length (by omega) (by omega)
  have hyl:y<ls.length:=by omega
  obtain⟨cs,Z⟩:=Hp.zoom H5.hp hyl
  have Z:Hx σ0 τ5 (.th (own kLog cs ls[y])::.th (hole kLog r ls y cs)::.box 1 n2 Ol::h):=Z
  have gl:cs.length=8:=kLog.len (Z.hp.rd 0 rfl)
  obtain⟨z1,z2,z3,z5⟩:=Z.hole_rd 1 rfl hyl
  have z1:iadG 8 r (some y)=some (atz 8 r y):=z1
  have z4:ldG true 8 τ5 (atz 8 r y)=some (.agg cs):=by
   have h1:=z5 0 8 true (by decide)
   have h2:fld 0 (atz 8 r y)=atz 8 r y:=by cases r<;>rfl
   have h1:ldG true 8 τ5 (fld 0 (atz 8 r y))=(seg cs 0 8).bind (mkv true):=h1
   rw[h2] at h1
   rw[h1]
   simp only[A4 gl,Option.bind_some]
   try rfl
  have z4:=Gf Z z4
  refine by_k R5 Z ?_
  simp +contextual (disch:=omega) only[go_sem,A0,z1,z4,Ab (cs:=Ol) gl rfl,gl,A4 gl]
  intro τ6 H6
  exact⟨_,rfl,cs,ls[y],ls,rfl,hLg,Zaa hyl,(H6.era 1).era 1⟩
 obtain⟨w,τ,R,ds,l,ls,rfl,h1,h2,h3⟩:=key
 exact⟨ds,l,ls,τ,h1,h2,R,h3⟩
end
theorem N0 {s:State} (hs:Au s=true):okK s.know=true/\s.tallies.Pairwise (fun a b=>Ak a b=true)/\(∀ t∈s.tallies,0≤t.rep/\t.rep<=2)/\s.cells.Pairwise (fun a b=>Bj a.dot b.dot=true)/\s.lives.Pairwise (fun a b=>Bj a.dot b.dot=true)/\(∀ l∈s.lives,Ax s.know l.dot=true)/\∀ t∈s.tallies,-1000000<=t.sum/\t.sum<=1000000:=by
 have hk:=(A8w hs).2.1
 simp only[Au,Zae] at hs
 obtain⟨a1,a2,a3,a4,_⟩:=hs
 exact⟨a1,Ai9 a2,fun t ht=>Afm a2 ht,A2g a4,Aa6 a3,hk,fun t ht=>Afo a2 ht⟩
def Cs (a b:State) (rep:Int):Bool:=decide (at0 a.know rep<at0 b.know rep)
def Zm (b:State) (l:Live):Bool:=decide (l∈b.lives)|| !Ax b.know l.dot
def A9n (a b:State):State:=⟨kMax a.know b.know,L8 (Cs a b) a.tallies b.tallies,Az Dc (a.lives.filter (Zm b)++b.lives.filter (newD a)),Dh a.cells b.cells⟩
def I7 (a b:State):State:=if Au a then(if Au b then(if Au (A9n a b) then A9n a b else a) else a) else a
def behind (a b:State):Bool:=Au a&&(Au b&&decide (I7 a b=b))
theorem Agn (a b:State):Aa (A9n a b)<=Aa a+Aa b+3:=by
 have h1:=Ae2 (Cs a b) a.tallies b.tallies
 have h2:=A6a a.cells b.cells
 have h3:=Afn (Zm b) (newD a) a.lives b.lives
 have h4:=Afl a.know b.know
 simp only[A9n,Aa]
 omega
theorem Afz (a b:State):Aa (I7 a b)<=Aa a+Aa b+3:=by
 have:=Agn a b
 unfold I7
 repeat' split
 all_goals omega
def newC (p:State) (x:Cell):Bool:=match Cf p.cells x.dot with
 |none=>true
 |some i=>x.gone&& !(p.cells[i]?.getD x).gone
def Aea (p c:State):Delta:=⟨p.know,c.know,c.tallies.filter fun t=>Cs p c t.rep,c.lives.filter (newD p),(p.lives.filter fun l=> !decide (l∈c.lives)).map (·.dot),c.cells.filter (newC p)⟩
def J9 (p c:State):Delta×Bool:=if behind p c then(Aea p c,true) else(delta0,false)
theorem ms_dif (p c:State):Ay (Aea p c)<=Aa p+2*Aa c:=by
 have h1:=Zai (fun t:Tally=>Cs p c t.rep) c.tallies
 have h2:=Fp Bv (fun t:Tally=>Cs p c t.rep) c.tallies
 have h3:=Zai (newD p) c.lives
 have h4:=Fp F0 (newD p) c.lives
 have h5:=Zai (fun l:Live=> !decide (l∈c.lives)) p.lives
 have h6:=Zai (newC p) c.cells
 have h7:=Fp F1 (newC p) c.cells
 simp only[Aea,Ay,Aa,Zaf]
 omega
abbrev Ni:Nat:=371
def Nj:Fn1:=⟨77,[.t 4],(rg [oX 2 0,oX 3 1,o 4 (.mov (.k .nilS))] (rg [o 10 (.build [.nilS,.nilS,.nilS,.nilS] []),o 5 (.new [.nilS,.nilS,.nilS,.nilS]),oS 4 5 10] (.seq (rg [oV 6 (ki 0)] (.blk 0 (.lop (.seq (rg [oM 11 6,oF 12 1 2,oL 13 12,oN 14 13,oB 15 .lss 11 14] (cn 15 .skip (.ext 0))) (.seq (.blk 1 (rg [oF 18 1 2,oL 19 18,oM 20 6,oI 21 3 19 20,oW 22 3 21,o 7 (.new [s0,z0,z0]),oS 3 7 22] (dw [oF 23 0 2,oL 24 23,oF 25 1 7,oL 26 25,oI 27 1 24 26,oL 28 27,oF 29 0 3,oL 30 29,oF 31 1 7,oL 32 31,oI 33 1 30 32,oL 34 33] [oB 35 .geq 28 34] (cn 35 (.reg [oF 36 0 7,oL 37 36,oF 38 1 7,oL 39 38,oF 40 2 7,oL 41 40,o 42 (.call 319 [(.t 5),(.t 37),(.t 39),(.t 41)])]) .skip)))) (.reg [oM 16 6,oZ 17 16 1,oM 6 17])))))) (.seq (rg [oV 8 (ki 0)] (.blk 2 (.lop (.seq (rg [oM 43 8,oF 44 1 3,oL 45 44,oN 46 45,oB 47 .lss 43 46] (cn 47 .skip (.ext 2))) (.seq (.blk 3 (rg [oF 50 1 3,oL 51 50,oM 52 8,oI 53 3 51 52,oW 54 3 53,o 9 (.new [s0,z0,z0]),oS 3 9 54] (dw [oF 55 0 3,oL 56 55,oF 57 1 9,oL 58 57,oI 59 1 56 58,oL 60 59,oF 61 0 2,oL 62 61,oF 63 1 9,oL 64 63,oI 65 1 62 64,oL 66 65] [oB 67 .gtr 60 66] (cn 67 (.reg [oF 68 0 9,oL 69 68,oF 70 1 9,oL 71 70,oF 72 2 9,oL 73 72,o 74 (.call 319 [(.t 5),(.t 69),(.t 71),(.t 73)])]) .skip)))) (.reg [oM 48 8,oZ 49 48 1,oM 8 49])))))) (rg [oF 75 1 5,oL 76 75,oM 4 76] .ret)))))⟩
theorem Yd:A6 Tryz.prog Ni=some Nj:=by kernel_rfl
abbrev Ja:Nat:=314
def Nk:Fn1:=⟨95,[.c 4 true 4],(rg [oX 2 0,oX 3 1,o 4 (.new [.nilS,.nilS,.nilS,.nilS])] (.seq (rg [oW 9 4 2,oC 10 199 9,oU 11 10,oM 12 11,vW 13 12 4 3,vC 14 12 199 13,vU 15 12 14,oP 16 12 15] (cn 16 (rg [oW 17 4 2,oC 18 247 17,oS 4 4 18] .ret) .skip)) (dw [oF 19 0 2,oL 20 19,oF 21 0 3,oL 22 21,oD 23 181 20 22,oW 24 4 2,oW 25 4 3,oD 26 371 24 25,oF 27 3 2,oL 28 27,oF 29 3 3,oL 30 29,oD 31 339 28 30,o 32 (.build [.nilS,.nilS,.nilS,.nilS] [(0,1,(.t 23)),(1,1,(.t 26)),(3,1,(.t 31))]),o 5 (.new [.nilS,.nilS,.nilS,.nilS])] [oS 4 5 32] (.seq (rg [oV 6 (ki 0)] (.blk 0 (.lop (.seq (rg [oM 33 6,oF 34 2 2,oL 35 34,oN 36 35,oB 37 .lss 33 36] (cn 37 .skip (.ext 0))) (.seq (.blk 1 (rg [oF 40 2 2,oL 41 40,oM 42 6,oI 43 6 41 42,oW 44 6 43,o 7 (.new [(.bool false),s0,s0,z0,z0,z0]),oS 6 7 44] (rg [oF 45 0 3,oL 46 45,oF 47 4 7,oW 48 2 47,oD 49 45 46 48,oU 50 49,oM 51 50,vF 52 51 2 3,vL 53 51 52,vW 54 51 6 7,vD 55 51 234 53 54,oP 56 51 55] (cn 56 (.reg [oF 57 2 5,oL 58 57,oW 59 6 7,o 60 (.lit 6 1 [(.bool false),s0,s0,z0,z0,z0] [(0,6,(.t 59))]),o 61 (.app 6 64 [(.bool false),s0,s0,z0,z0,z0] (.t 58) (.t 60)),oF 62 2 5,oS 1 62 61]) .skip)))) (.reg [oM 38 6,oZ 39 38 1,oM 6 39])))))) (.seq (rg [oV 8 (ki 0)] (.blk 2 (.lop (.seq (rg [oM 63 8,oF 64 2 3,oL 65 64,oN 66 65,oB 67 .lss 63 66] (cn 67 .skip (.ext 2))) (.seq (.blk 3 (dw [oF 70 0 2,oL 71 70,oF 72 2 3,oL 73 72,oM 74 8,oI 75 6 73 74,oF 76 4 75,oW 77 2 76] [oD 78 45 71 77,oU 79 78] (cn 79 (.drw [oF 80 2 5,oL 81 80,oF 82 2 3,oL 83 82,oM 84 8,oI 85 6 83 84,oW 86 6 85] [oD 87 320 81 86,oF 88 2 5,oS 1 88 87]) .skip))) (.reg [oM 68 8,oZ 69 68 1,oM 8 69])))))) (.seq (rg [oW 89 4 5,oC 90 199 89,oU 91 90] (cn 91 (rg [oW 92 4 2,oC 93 247 92,oS 4 4 93] .ret) .skip)) (rg [oW 94 4 5,oS 4 4 94] .ret)))))))⟩
theorem Ye:A6 Tryz.prog Ja=some Nk:=by kernel_rfl
abbrev A1o:Nat:=233
def A1p:Fn1:=⟨18,[.t 4],(rg [oX 2 0,oX 3 1,oV 4 kf] (dw [oW 5 4 2,oC 6 199 5,oM 7 6,jW 8 7 4 3,jC 9 7 199 8,oQ 10 7 9,oM 11 10,jW 12 11 4 2,jW 13 11 4 3,jD 14 11 314 12 13,jW 15 11 4 3] [jD 16 11 47 14 15,oQ 17 11 16,oM 4 17] .ret))⟩
theorem A9o:A6 Tryz.prog A1o=some A1p:=by kernel_rfl
theorem Aeb {s t:State} {r:Int}:decide (at0 t.know r<=at0 s.know r)= !Cs s t r:=by
 unfold Cs
 rw[<- Bool.not_not (b:=decide (at0 t.know r<=at0 s.know r)),<-decide_not]
 congr 2
 exact propext Int.not_le
theorem Aec {s t:State} {T:List Tally} (hT:T.length<=s.tallies.length+t.tallies.length/\sumL Bv T<=sumL Bv s.tallies+sumL Bv t.tallies):Aa ⟨[],T,[],[]⟩<=Aa s+Aa t:=by
 simp only[Aa,sumL,Za1,Za2,Zaj] at*
 omega
theorem Un (σ:St) (cs:List GV) (s:State) (hR:A5.R σ s cs) (ds:List GV) (t:State) (hD:A5.R σ t ds) (hl:Aa s<=1073741824) (hm:Aa t<=1073741824) (hok:Au s=true) (hdk:Au t=true):∃ w τ,Ret Tryz.prog Ni [.agg cs,.agg ds] σ w τ/\Hp σ τ [ow Am.kd w (L8 (Cs s t) s.tallies t.tallies)]:=by
 obtain⟨a,b,c,v,rfl,qa,qb,qc,qv⟩:=hR
 obtain⟨w0,w1,w2,w3,rfl,p0,p1,p2,p3⟩:=hD
 obtain⟨ls0,ls1,ls2,ls3⟩:=Rt hl
 obtain⟨m0,m1,m2,m3⟩:=Rt hm
 obtain⟨o1,t1,r1,_,_,_,u1⟩:=N0 hok
 obtain⟨o2,t2,r2,_,_,_,u2⟩:=N0 hdk
 have hmk:=Abq (f:=Cs s t) t1 t2
 refine D8 Yd (Z0z rfl) (Hx.refl σ) ?_
 simp +contextual (disch:=omega) only[go_sem,Nj]
 intro n2 f2 τ2 H2 n3 f3 τ3 H3 n5 f5 τ7 _ τ8 H8
 have H9:=(((H8.nil Ag.kd).nil As.kd).nil Am.kd).nil pI.kd
 refine Bu s.tallies.length 6 0 (fun i env h=>∃ v0 v1 v2 v3,env 2= .ptr n2 0/\env 3= .ptr n3 0/\env 5= .ptr n5 0/\h=[.box 1 n5 [v0,v1,v2,v3],.th (ow pI.kd v0 []),.th (ow Am.kd v1 (Az Ak ((s.tallies.take i).filter fun x=> !Cs s t x.rep))),.th (ow As.kd v2 []),.th (ow Ag.kd v3 []),.box 1 n3 [w0,w1,w2,w3],.box 1 n2 [a,b,c,v]]) (fun env h=>∃ v0 v1 v2 v3,env 2= .ptr n2 0/\env 3= .ptr n3 0/\env 5= .ptr n5 0/\h=[.box 1 n5 [v0,v1,v2,v3],.th (ow pI.kd v0 []),.th (ow Am.kd v1 (Az Ak (s.tallies.filter fun x=> !Cs s t x.rep))),.th (ow As.kd v2 []),.th (ow Ag.kd v3 []),.box 1 n3 [w0,w1,w2,w3],.box 1 n2 [a,b,c,v]]) (fun env h=>False) _ (H9.re [4,0,1,2,3,5,6] (by decide)) (by simp +contextual (disch:=omega) only[go_sem]) ⟨.nilS,.nilS,.nilS,.nilS,by simp +contextual (disch:=omega) only[go_sem],by simp +contextual (disch:=omega) only[go_sem],by simp +contextual (disch:=omega) only[go_sem],rfl⟩ ?_ ?_ ?_ (fun _ _ _ _ h=>h.elim)
 ·clear H2 H3 H8 H9
  rintro J Y W hJ hY hW i env h τ hi ei k0 H ⟨v0,v1,v2,v3,e2,e3,e5,rfl⟩
  have B1:=Ae qb hi
  have hin:=r1 s.tallies[i] (Zaa hi)
  have A1:=N6 p0 o2 hin.1 hin.2
  have A2:=N6 qa o1 hin.1 hin.2
  simp +contextual (disch:=omega) only[go_sem,k0,e2,e3,e5,ei,A0,B1,qb.len]
  intro n7 f7 τ1 _ τ2 H2
  cases hf:Cs s t s.tallies[i].rep with
  |true=>
   simp +contextual (disch:=omega) only[go_sem,e2,e3,e5,ei,A1,A2,Aeb,hf,Bool.not_true]
   exact hJ _ _ _ _ (H2.re [1,2,3,4,5,6,7] (by decide)) ⟨v0,v1,v2,v3,by simp +contextual (disch:=omega) only[go_sem,e2],by simp +contextual (disch:=omega) only[go_sem,e3],by simp +contextual (disch:=omega) only[go_sem,e5],by rw[Zf hi (by rw[hf];rfl)];rfl⟩
  |false=>
   simp +contextual (disch:=omega) only[go_sem,e2,e3,e5,ei,A1,A2,Aeb,hf,Bool.not_false]
   have hpm:=Aam (fun x=> !Cs s t x.rep) (fun x=>Cs s t x.rep) s.tallies t.tallies i 0
   rw[Za8,Za6,Za7] at hpm
   have hpm:=Aec hpm
   obtain⟨τ3,R3,v0',v1',v2',v3',H3⟩:=J5 (s:=⟨[],(Az Ak ((s.tallies.take i).filter fun x=> !Cs s t x.rep)),[],[]⟩) (rest:=[pt 1 n7 [.str s.tallies[i].obj,gi s.tallies[i].rep,gi s.tallies[i].sum],pt 1 n3 [w0,w1,w2,w3],pt 1 n2 [a,b,c,v]]) ⟨v0,v1,v2,v3,H2.sel [2,3,4,5,1,0,6,7] (by decide)⟩ s.tallies[i].obj s.tallies[i].rep s.tallies[i].sum (Nat.le_trans hpm (by omega)) (u1 _ (Zaa hi)) (fun x hx=>u1 x (Zaw (Zau.1 (A16.1 hx)).1))
   have H3':Hx σ τ3 [.box 1 n5 [v0',v1',v2',v3'],.th (ow pI.kd v0' []),.th (ow Am.kd v1' (G0 (Az Ak ((s.tallies.take i).filter fun x=> !Cs s t x.rep)) s.tallies[i].obj s.tallies[i].rep s.tallies[i].sum)),.th (ow As.kd v2' []),.th (ow Ag.kd v3' []),.box 1 n3 [w0,w1,w2,w3],.box 1 n2 [a,b,c,v]]:=H3.sel [4,0,1,2,3,6,7] (by decide)
   refine by_m R3 H3' ?_
   simp +contextual (disch:=omega) only[go_sem,ei]
   refine hJ _ _ _ _ H3' ⟨v0',v1',v2',v3',by simp +contextual (disch:=omega) only[go_sem,e2],by simp +contextual (disch:=omega) only[go_sem,e3],by simp +contextual (disch:=omega) only[go_sem,e5],?_⟩
   have hfl:(s.tallies.take (i+1)).filter (fun x=> !Cs s t x.rep)=(s.tallies.take i).filter (fun x=> !Cs s t x.rep)++[s.tallies[i]]:=X8 hi (by rw[hf];rfl)
   rw[hfl,<-A6b hmk (by rw[<- hfl];exact(Ae3 _ _ _).trans (List.sublist_append_left _ _))]
 ·clear H2 H3 H8 H9
  rintro Y hY env h τ ei k0 H ⟨v0,v1,v2,v3,e2,e3,e5,rfl⟩
  simp +contextual (disch:=omega) only[go_sem,k0,e2,ei,qb.len]
  exact hY _ _ _ H ⟨v0,v1,v2,v3,e2,e3,e5,by rw[Zad]⟩
 clear H2 H3 H8 H9
 rintro env h τ H ⟨v0,v1,v2,v3,e2,e3,e5,rfl⟩
 simp +contextual (disch:=omega) only[go_sem]
 refine Bu t.tallies.length 8 2 (fun i env h=>∃ v0 v1 v2 v3,env 2= .ptr n2 0/\env 3= .ptr n3 0/\env 5= .ptr n5 0/\h=[.box 1 n5 [v0,v1,v2,v3],.th (ow pI.kd v0 []),.th (ow Am.kd v1 (Az Ak (s.tallies.filter (fun x=> !Cs s t x.rep)++(t.tallies.take i).filter fun x=>Cs s t x.rep))),.th (ow As.kd v2 []),.th (ow Ag.kd v3 []),.box 1 n3 [w0,w1,w2,w3],.box 1 n2 [a,b,c,v]]) (fun env h=>∃ v0 v1 v2 v3,env 5= .ptr n5 0/\h=[.box 1 n5 [v0,v1,v2,v3],.th (ow pI.kd v0 []),.th (ow Am.kd v1 (L8 (Cs s t) s.tallies t.tallies)),.th (ow As.kd v2 []),.th (ow Ag.kd v3 []),.box 1 n3 [w0,w1,w2,w3],.box 1 n2 [a,b,c,v]]) (fun env h=>False) _ H (by simp +contextual (disch:=omega) only[go_sem]) ⟨v0,v1,v2,v3,by simp +contextual (disch:=omega) only[go_sem,e2],by simp +contextual (disch:=omega) only[go_sem,e3],by simp +contextual (disch:=omega) only[go_sem,e5],by simp⟩ ?_ ?_ ?_ (fun _ _ _ _ h=>h.elim)
 ·clear H e2 e3 e5
  rintro J Y W hJ hY hW i env h τ hi ei k0 H ⟨v0,v1,v2,v3,e2,e3,e5,rfl⟩
  have B1:=Ae p1 hi
  have hin:=r2 t.tallies[i] (Zaa hi)
  have A1:=N6 p0 o2 hin.1 hin.2
  have A2:=N6 qa o1 hin.1 hin.2
  have gt:decide (at0 s.know t.tallies[i].rep<at0 t.know t.tallies[i].rep)=Cs s t t.tallies[i].rep:=rfl
  simp +contextual (disch:=omega) only[go_sem,k0,e2,e3,e5,ei,A0,B1,p1.len]
  intro n7 f7 τ1 _ τ2 H2
  cases hf:Cs s t t.tallies[i].rep with
  |false=>
   simp +contextual (disch:=omega) only[go_sem,e2,e3,e5,ei,A1,A2,gt,hf]
   exact hJ _ _ _ _ (H2.re [1,2,3,4,5,6,7] (by decide)) ⟨v0,v1,v2,v3,by simp +contextual (disch:=omega) only[go_sem,e2],by simp +contextual (disch:=omega) only[go_sem,e3],by simp +contextual (disch:=omega) only[go_sem,e5],by rw[Zf hi hf];rfl⟩
  |true=>
   simp +contextual (disch:=omega) only[go_sem,e2,e3,e5,ei,A1,A2,gt,hf]
   have hpm:=Aam (fun x=> !Cs s t x.rep) (fun x=>Cs s t x.rep) s.tallies t.tallies s.tallies.length i
   rw[Zad] at hpm
   have hpm:=Aec hpm
   obtain⟨τ3,R3,v0',v1',v2',v3',H3⟩:=J5 (s:=⟨[],(Az Ak (s.tallies.filter (fun x=> !Cs s t x.rep)++(t.tallies.take i).filter fun x=>Cs s t x.rep)),[],[]⟩) (rest:=[pt 1 n7 [.str t.tallies[i].obj,gi t.tallies[i].rep,gi t.tallies[i].sum],pt 1 n3 [w0,w1,w2,w3],pt 1 n2 [a,b,c,v]]) ⟨v0,v1,v2,v3,H2.sel [2,3,4,5,1,0,6,7] (by decide)⟩ t.tallies[i].obj t.tallies[i].rep t.tallies[i].sum (Nat.le_trans hpm (by omega)) (u2 _ (Zaa hi)) (fun x hx=>(Zak.1 (A16.1 hx)).elim (fun h=>u1 x (Zau.1 h).1) fun h=>u2 x (Zaw (Zau.1 h).1))
   have H3':Hx σ τ3 [.box 1 n5 [v0',v1',v2',v3'],.th (ow pI.kd v0' []),.th (ow Am.kd v1' (G0 (Az Ak (s.tallies.filter (fun x=> !Cs s t x.rep)++(t.tallies.take i).filter fun x=>Cs s t x.rep)) t.tallies[i].obj t.tallies[i].rep t.tallies[i].sum)),.th (ow As.kd v2' []),.th (ow Ag.kd v3' []),.box 1 n3 [w0,w1,w2,w3],.box 1 n2 [a,b,c,v]]:=H3.sel [4,0,1,2,3,6,7] (by decide)
   refine by_m R3 H3' ?_
   simp +contextual (disch:=omega) only[go_sem,ei]
   refine hJ _ _ _ _ H3' ⟨v0',v1',v2',v3',by simp +contextual (disch:=omega) only[go_sem,e2],by simp +contextual (disch:=omega) only[go_sem,e3],by simp +contextual (disch:=omega) only[go_sem,e5],?_⟩
   have hfl:(t.tallies.take (i+1)).filter (fun x=>Cs s t x.rep)=(t.tallies.take i).filter (fun x=>Cs s t x.rep)++[t.tallies[i]]:=X8 hi hf
   rw[hfl,<-Zas,<-A6b hmk (by rw[Zas,<-hfl];exact List.Sublist.append (List.Sublist.refl _) (Ae3 _ _ _))]
 ·clear H e2 e3 e5
  rintro Y hY env h τ ei k0 H ⟨v0,v1,v2,v3,e2,e3,e5,rfl⟩
  simp +contextual (disch:=omega) only[go_sem,k0,e3,ei,p1.len]
  exact hY _ _ _ H ⟨v0,v1,v2,v3,e5,by rw[Zad];rfl⟩
 clear H e2 e3 e5 v0 v1 v2 v3
 rintro env h τ H ⟨v0,v1,v2,v3,e5,rfl⟩
 simp +contextual (disch:=omega) only[go_sem,e5]
 exact fun _=>⟨_,rfl,H.sel [2] (by decide)⟩
theorem Uo (σ:St) (cs:List GV) (s:State) (hR:A5.R σ s cs) (ds:List GV) (t:State) (hD:A5.R σ t ds) (hl:Aa s<=1073741824) (hm:Aa t<=1073741824):∃ r τ,Ret Tryz.prog Ja [.agg cs,.agg ds] σ (.agg r) τ/\Hp σ τ [own A5 r (I7 s t)]:=by
 have hR0:=hR
 have hD0:=hD
 obtain⟨a,b,c,v,rfl,qa,qb,qc,qv⟩:=hR
 obtain⟨w0,w1,w2,w3,rfl,p0,p1,p2,p3⟩:=hD
 obtain⟨ls0,ls1,ls2,ls3⟩:=Rt hl
 obtain⟨m0,m1,m2,m3⟩:=Rt hm
 have key:∃ q τ,Ret Tryz.prog Ja [.agg [a,b,c,v],.agg [w0,w1,w2,w3]] σ q τ/\∃ r,q= .agg r/\Hp σ τ [own A5 r (I7 s t)]:=by
  refine D8 Ye (Z0z rfl) (Hx.refl σ) ?_
  simp +contextual (disch:=omega) only[go_sem,Nk]
  intro n2 f2 τ2 H2 n3 f3 τ3 H3 n4 f4 τ4 H4
  refine by_b H4 (C7 _ _ s (A5.pre hR0 H4.sub) (by omega)) (fun hok=> ?_) (fun hok=> ?_)
  rotate_left
  ·have hd:I7 s t=s:=by simp[I7,hok]
   simp +contextual (disch:=omega) only[go_sem]
   obtain⟨es,τ5,R5,K5⟩:=Cl τ4 _ s (A5.pre hR0 H4.sub) (by omega)
   have gl:es.length=4:=A5.len (K5.rd 0 rfl)
   refine by_c H4 R5 K5 fun H5=> ?_
   simp +contextual (disch:=omega) only[go_sem,Ab (cs:=z4') gl rfl,gl,A4 gl]
   intro τ8 H8
   exact⟨_,rfl,es,rfl,by rw[hd];exact H8.sel [0] (by decide)⟩
  simp +contextual (disch:=omega) only[go_sem]
  refine by_b H4 (C7 _ _ t (A5.pre hD0 H4.sub) (by omega)) (fun hdk=> ?_) (fun hdk=> ?_)
  rotate_left
  ·have hd:I7 s t=s:=by simp[I7,hok,hdk]
   simp +contextual (disch:=omega) only[go_sem]
   obtain⟨es,τ5,R5,K5⟩:=Cl τ4 _ s (A5.pre hR0 H4.sub) (by omega)
   have gl:es.length=4:=A5.len (K5.rd 0 rfl)
   refine by_c H4 R5 K5 fun H5=> ?_
   simp +contextual (disch:=omega) only[go_sem,Ab (cs:=z4') gl rfl,gl,A4 gl]
   intro τ8 H8
   exact⟨_,rfl,es,rfl,by rw[hd];exact H8.sel [0] (by decide)⟩
  obtain⟨o1,t1,r1,c1,l5,l7,_⟩:=N0 hok
  obtain⟨o2,t2,r2,c2,l6,_,_⟩:=N0 hdk
  simp +contextual (disch:=omega) only[go_sem]
  obtain⟨kv,τ9,R9,K9⟩:=A2m τ4 a w0 _ _ (qa.pre H4.sub) (p0.pre H4.sub) (by omega) (by omega)
  refine by_c H4 R9 K9 fun H9=> ?_
  have ck:=(H9.hp.sl 0 rfl).cell
  simp +contextual (disch:=omega) only[go_sem,ck]
  obtain⟨tv,τ10,R10,K10⟩:=Un τ9 _ s (A5.pre hR0 H9.sub) _ t (A5.pre hD0 H9.sub) hl hm hok hdk
  refine by_c H9 R10 K10 fun H10=> ?_
  have ct:=(H10.hp.sl 0 rfl).cell
  simp +contextual (disch:=omega) only[go_sem,ck,ct]
  obtain⟨cv,τ11,R11,K11⟩:=Zg τ10 v w3 s.cells t.cells (qv.pre H10.sub) (p3.pre H10.sub) (by omega) (by omega) c1 (Xo c2)
  refine by_c H10 R11 K11 fun H11=> ?_
  have cc:=(H11.hp.sl 0 rfl).cell
  simp +contextual (disch:=omega) only[go_sem,ck,ct,cc]
  intro n5 f5 τ12 _ τ13 H13
  have H14:=H13.nil As.kd
  have hX:Hx σ τ13 [.th (ow As.kd .nilS []),.box 1 n5 [kv,tv,.nilS,cv],.th (ow Ag.kd cv (Dh s.cells t.cells)),.th (ow Am.kd tv (L8 (Cs s t) s.tallies t.tallies)),.th (ow pI.kd kv (kMax s.know t.know)),.box 1 n4 z4',.box 1 n3 [w0,w1,w2,w3],.box 1 n2 [a,b,c,v]]:=H14
  clear H14 H13 H11 H10 H9 H4 H3 H2
  refine Bu s.lives.length 6 0 (fun i env h=>∃ w,env 2= .ptr n2 0/\env 3= .ptr n3 0/\env 4= .ptr n4 0/\env 5= .ptr n5 0/\h=[.th (ow As.kd w ((s.lives.take i).filter (Zm t))),.box 1 n5 [kv,tv,w,cv],.th (ow Ag.kd cv (Dh s.cells t.cells)),.th (ow Am.kd tv (L8 (Cs s t) s.tallies t.tallies)),.th (ow pI.kd kv (kMax s.know t.know)),.box 1 n4 z4',.box 1 n3 [w0,w1,w2,w3],.box 1 n2 [a,b,c,v]]) (fun env h=>∃ w,env 2= .ptr n2 0/\env 3= .ptr n3 0/\env 4= .ptr n4 0/\env 5= .ptr n5 0/\h=[.th (ow As.kd w (s.lives.filter (Zm t))),.box 1 n5 [kv,tv,w,cv],.th (ow Ag.kd cv (Dh s.cells t.cells)),.th (ow Am.kd tv (L8 (Cs s t) s.tallies t.tallies)),.th (ow pI.kd kv (kMax s.know t.know)),.box 1 n4 z4',.box 1 n3 [w0,w1,w2,w3],.box 1 n2 [a,b,c,v]]) (fun env h=>False) _ hX (by simp +contextual (disch:=omega) only[go_sem]) ⟨_,by simp +contextual (disch:=omega) only[go_sem],by simp +contextual (disch:=omega) only[go_sem],by simp +contextual (disch:=omega) only[go_sem],by simp +contextual (disch:=omega) only[go_sem],rfl⟩ ?_ ?_ ?_ (fun _ _ _ _ h=>h.elim)
  ·clear hX
   rintro J Y W hJ hY hW i env h τ hi ei k0 H ⟨w,e2,e3,e4,e5,rfl⟩
   have L1:=A7 qc hi
   have cw:=(H.hp.sl 0 rfl).cell
   have hbd:=Tq (p:=Zm t) (l:=s.lives) (i:=i) (n:=1073741824) (by omega)
   simp +contextual (disch:=omega) only[go_sem,k0,e2,e3,e4,e5,ei,A0,L1,qc.len]
   intro n9 f9 τ1 _ τ2 H2
   try simp +contextual (disch:=omega) only[go_sem,e3]
   refine by_r H2 (Bt _ w0 _ _ (p0.pre H2.sub) (by omega)) ?_
   have kE:Zm t s.lives[i]=(decide (s.lives[i]∈t.lives)|| !Ax t.know s.lives[i].dot):=rfl
   cases h2:Ax t.know s.lives[i].dot with
   |false=>
    rw[h2] at kE
    have kE:Zm t s.lives[i]=true:=by rw[kE];simp
    simp +contextual (disch:=omega) only[go_sem,e5,ei,cw]
    intro nl fl τ3 H3
    refine Fn (p:=As) H3 2 rfl s.lives[i] Cq (by decide) (by omega) fun w' τ4 H4=> ?_
    have cw':=(H4.hp.sl 2 rfl).cell
    simp +contextual (disch:=omega) only[go_sem,e5,ei,cw']
    intro τ5 H5
    exact hJ _ _ _ _ (H5.re [2,3,4,5,6,7,8,9] (by decide)) ⟨w',by simp +contextual (disch:=omega) only[go_sem,e2],by simp +contextual (disch:=omega) only[go_sem,e3],by simp +contextual (disch:=omega) only[go_sem,e4],by simp +contextual (disch:=omega) only[go_sem,e5],by rw[X8 hi kE];rfl⟩
   |true=>
    simp +contextual (disch:=omega) only[go_sem,e3,ei]
    refine by_r H2 (Ts _ w2 _ (p2.pre H2.sub) s.lives[i] (by omega)) ?_
    cases h1:decide (s.lives[i]∈t.lives) with
    |false=>
     rw[h1,h2] at kE
     simp +contextual (disch:=omega) only[go_sem,ei]
     exact hJ _ _ _ _ (H2.re [1,2,3,4,5,6,7,8] (by decide)) ⟨w,by simp +contextual (disch:=omega) only[go_sem,e2],by simp +contextual (disch:=omega) only[go_sem,e3],by simp +contextual (disch:=omega) only[go_sem,e4],by simp +contextual (disch:=omega) only[go_sem,e5],by rw[Zf hi kE];rfl⟩
    |true=>
     rw[h1] at kE
     simp +contextual (disch:=omega) only[go_sem,e5,ei,cw]
     intro nl fl τ3 H3
     refine Fn (p:=As) H3 2 rfl s.lives[i] Cq (by decide) (by omega) fun w' τ4 H4=> ?_
     have cw':=(H4.hp.sl 2 rfl).cell
     simp +contextual (disch:=omega) only[go_sem,e5,ei,cw']
     intro τ5 H5
     exact hJ _ _ _ _ (H5.re [2,3,4,5,6,7,8,9] (by decide)) ⟨w',by simp +contextual (disch:=omega) only[go_sem,e2],by simp +contextual (disch:=omega) only[go_sem,e3],by simp +contextual (disch:=omega) only[go_sem,e4],by simp +contextual (disch:=omega) only[go_sem,e5],by rw[X8 hi kE];rfl⟩
  ·clear hX
   rintro Y hY env h τ ei k0 H ⟨w,e2,e3,e4,e5,rfl⟩
   simp +contextual (disch:=omega) only[go_sem,k0,e2,ei,qc.len]
   exact hY _ _ _ H ⟨w,e2,e3,e4,e5,by rw[Zad]⟩
  clear hX
  rintro env h τ H ⟨w,e2,e3,e4,e5,rfl⟩
  simp +contextual (disch:=omega) only[go_sem]
  refine Bu t.lives.length 8 2 (fun i env h=>∃ w,env 2= .ptr n2 0/\env 3= .ptr n3 0/\env 4= .ptr n4 0/\env 5= .ptr n5 0/\h=[.th (ow As.kd w (Az Dc (s.lives.filter (Zm t)++(t.lives.take i).filter (newD s)))),.box 1 n5 [kv,tv,w,cv],.th (ow Ag.kd cv (Dh s.cells t.cells)),.th (ow Am.kd tv (L8 (Cs s t) s.tallies t.tallies)),.th (ow pI.kd kv (kMax s.know t.know)),.box 1 n4 z4',.box 1 n3 [w0,w1,w2,w3],.box 1 n2 [a,b,c,v]]) (fun env h=>∃ w,env 2= .ptr n2 0/\env 4= .ptr n4 0/\env 5= .ptr n5 0/\h=[.th (ow As.kd w (Az Dc (s.lives.filter (Zm t)++t.lives.filter (newD s)))),.box 1 n5 [kv,tv,w,cv],.th (ow Ag.kd cv (Dh s.cells t.cells)),.th (ow Am.kd tv (L8 (Cs s t) s.tallies t.tallies)),.th (ow pI.kd kv (kMax s.know t.know)),.box 1 n4 z4',.box 1 n3 [w0,w1,w2,w3],.box 1 n2 [a,b,c,v]]) (fun env h=>False) _ H (by simp +contextual (disch:=omega) only[go_sem]) ⟨w,by simp +contextual (disch:=omega) only[go_sem,e2],by simp +contextual (disch:=omega) only[go_sem,e3],by simp +contextual (disch:=omega) only[go_sem,e4],by simp +contextual (disch:=omega) only[go_sem,e5],by rw[Za8,Za6,Za7,Q0 swo_lv (l5.filter _)]⟩ ?_ ?_ ?_ (fun _ _ _ _ h=>h.elim)
  ·clear H e2 e3 e4 e5
   rintro J Y W hJ hY hW i env h τ hi ei k0 H ⟨w,e2,e3,e4,e5,rfl⟩
   have B1:=A7 p2 hi
   have d2:=(H.hp.sl 0 rfl).cell
   simp +contextual (disch:=omega) only[go_sem,k0,e2,e3,e4,e5,ei,A0,B1,p2.len]
   refine by_b H (Bt _ a _ _ (qa.pre H.sub) (by omega)) (fun k1=> ?_) (fun k1=> ?_)
   ·simp +contextual (disch:=omega) only[go_sem,ei]
    exact hJ _ _ _ _ H ⟨w,by simp +contextual (disch:=omega) only[go_sem,e2],by simp +contextual (disch:=omega) only[go_sem,e3],by simp +contextual (disch:=omega) only[go_sem,e4],by simp +contextual (disch:=omega) only[go_sem,e5],by rw[Zf hi (by simp[newD,k1])]⟩
   ·have hll:=app_le (p:=Zm t) (q:=newD s) (a:=s.lives) (b:=t.lives) (i:=i) (n:=1073741824) (by omega) (by omega)
    simp +contextual (disch:=omega) only[go_sem,e3,e5,ei,A0,B1,d2]
    obtain⟨w',τ2,R2,K2⟩:=Ki τ w _ (H.hp.sl 0 rfl) t.lives[i] (by rw[D6];omega)
    refine by_c H R2 K2 fun H2=> ?_
    have d3:=(H2.hp.sl 0 rfl).cell
    simp +contextual (disch:=omega) only[go_sem,e5,ei,d3]
    intro τ5 H5
    refine hJ _ _ _ _ (H5.re [0,2,3,4,5,6,7,8] (by decide)) ⟨w',by simp +contextual (disch:=omega) only[go_sem,e2],by simp +contextual (disch:=omega) only[go_sem,e3],by simp +contextual (disch:=omega) only[go_sem,e4],by simp +contextual (disch:=omega) only[go_sem,e5],?_⟩
    rw[X8 hi (by simp[newD,k1]),<-Zas,Kb]
    rfl
  ·clear H e2 e3 e4 e5
   rintro Y hY env h τ ei k0 H ⟨w,e2,e3,e4,e5,rfl⟩
   simp +contextual (disch:=omega) only[go_sem,k0,e3,ei,p2.len]
   exact hY _ _ _ H ⟨w,e2,e4,e5,by rw[Zad]⟩
  clear H e2 e3 e4 e5
  rintro env h τ H ⟨w,e2,e4,e5,rfl⟩
  have hst:A5.R τ (A9n s t) [kv,tv,w,cv]:=⟨_,_,_,_,rfl,H.hp.sl 4 rfl,H.hp.sl 3 rfl,H.hp.sl 0 rfl,H.hp.sl 2 rfl⟩
  have hms:=Agn s t
  simp +contextual (disch:=omega) only[go_sem,e5]
  refine by_b H (C7 _ _ _ hst (by omega)) (fun k4=> ?_) (fun k4=> ?_)
  rotate_left
  ·have hd:I7 s t=s:=by simp[I7,hok,hdk,k4]
   simp +contextual (disch:=omega) only[go_sem,e2,e4]
   obtain⟨es,τ5,R5,K5⟩:=Cl τ _ s (A5.pre hR0 H.sub) (by omega)
   have gl:es.length=4:=A5.len (K5.rd 0 rfl)
   refine by_c H R5 K5 fun H5=> ?_
   simp +contextual (disch:=omega) only[go_sem,e4,Ab (cs:=z4') gl rfl,gl,A4 gl]
   intro τ8 H8
   exact⟨_,rfl,es,rfl,by rw[hd];exact H8.sel [0] (by decide)⟩
  have hd:I7 s t=A9n s t:=by simp[I7,hok,hdk,k4]
  simp +contextual (disch:=omega) only[go_sem,e4,e5]
  intro τ8 H8
  exact⟨_,rfl,[kv,tv,w,cv],rfl,by rw[hd];exact Hp.ownState (x:=A9n s t) (H8.sel [4,3,0,2] (by decide))⟩
 obtain⟨q,τ,R,r,rfl,h⟩:=key
 exact⟨r,τ,R,h⟩
theorem A70 (σ:St) (cs ds:List GV) (a b:State) (hR:A5.R σ a cs) (hS:A5.R σ b ds) (hl:Aa a<=1073741824) (hm:Aa b<=1073741824):Ret Tryz.prog A1o [.agg cs,.agg ds] σ (.bool (behind a b)) σ:=by
 have ga:cs.length=4:=A5.len hR
 have gb:ds.length=4:=A5.len hS
 refine E5 A9o (Z0z rfl) trivial ?_
 simp +contextual (disch:=omega) only[go_sem,A1p]
 intro n1 f1 τ0 _ n2 f2 τ H
 have S:=H.sub
 simp +contextual (disch:=omega) only[go_sem,A4 ga,A4 gb]
 refine by_b H (C7 _ _ a (A5.pre hR S) (by omega)) (fun h0=> ?_) (fun h0=> ?_)
 rotate_left
 ·have d:behind a b=false:=by simp[behind,h0]
  simp +contextual (disch:=omega) only[go_sem,d]
  try exact fun _=>rfl
 simp +contextual (disch:=omega) only[go_sem,A4 ga,A4 gb]
 refine by_b H (C7 _ _ b (A5.pre hS S) (by omega)) (fun h1=> ?_) (fun h1=> ?_)
 rotate_left
 ·have d:behind a b=false:=by simp[behind,h0,h1]
  simp +contextual (disch:=omega) only[go_sem,d]
  try exact fun _=>rfl
 simp +contextual (disch:=omega) only[go_sem,A4 ga,A4 gb]
 obtain⟨r,τ2,R2,K2⟩:=Uo τ cs a (A5.pre hR S) ds b (A5.pre hS S) hl hm
 refine by_c H R2 K2 fun H2=> ?_
 simp +contextual (disch:=omega) only[go_sem,A4 ga,A4 gb]
 have hmm:=Afz a b
 refine by_r H2 (I5 _ r ds (I7 a b) b (H2.hp.rd 0 rfl) (A5.pre hS H2.sub) (by omega) (by omega)) ?_
 have d:behind a b=decide (I7 a b=b):=by simp[behind,h0,h1]
 simp +contextual (disch:=omega) only[go_sem,d]
 try exact fun _=>rfl
abbrev z6':List GV:=[GV.nilS,GV.nilS,GV.nilS,GV.nilS,GV.nilS,GV.nilS]
theorem Hx.delta0 {σ τ:St} {h:List Item} (H:Hx σ τ h):Hx σ τ (.th (own B9 z6' Sy.delta0)::h):=Hp.ownDelta (x:=Sy.delta0) ((((((H.nil Ag.kd).nil pDot.kd).nil As.kd).nil Am.kd).nil pI.kd).nil pI.kd).hp
abbrev Oq:Nat:=123
def Yf:Fn1:=⟨160,[.c 4 true 6,.t 5],(rg [oX 2 0,oX 3 1,o 4 (.new [.nilS,.nilS,.nilS,.nilS,.nilS,.nilS]),oV 5 kf] (.seq (rg [oW 13 4 2,oW 14 4 3,oD 15 233 13 14,oU 16 15] (cn 16 (rg [o 17 (.build [.nilS,.nilS,.nilS,.nilS,.nilS,.nilS] []),oS 6 4 17,oV 5 kf] .ret) .skip)) (dw [o 18 (.lit 1 0 [] []),oF 19 0 2,oL 20 19,o 21 (.app 1 8 [z0] (.t 18) (.t 20)),o 22 (.lit 1 0 [] []),oF 23 0 3,oL 24 23,o 25 (.app 1 8 [z0] (.t 22) (.t 24)),o 26 (.build [.nilS,.nilS,.nilS,.nilS,.nilS,.nilS] [(0,1,(.t 21)),(1,1,(.t 25))]),o 6 (.new [.nilS,.nilS,.nilS,.nilS,.nilS,.nilS])] [oS 6 6 26] (.seq (rg [oV 7 (ki 0)] (.blk 0 (.lop (.seq (rg [oM 27 7,oF 28 1 3,oL 29 28,oN 30 29,oB 31 .lss 27 30] (cn 31 .skip (.ext 0))) (.seq (.blk 1 (rg [oF 34 1 3,oL 35 34,oM 36 7,oI 37 3 35 36,oF 38 1 37,oL 39 38,oM 8 39] (dw [oF 40 0 3,oL 41 40,oM 42 8,oI 43 1 41 42,oL 44 43,oF 45 0 2,oL 46 45,oM 47 8,oI 48 1 46 47,oL 49 48] [oB 50 .gtr 44 49] (cn 50 (.drw [oF 51 2 6,oL 52 51,oF 53 1 3,oL 54 53,oM 55 7,oI 56 3 54 55,oW 57 3 56,o 58 (.lit 3 1 [s0,z0,z0] [(0,3,(.t 57))])] [o 59 (.app 3 32 [s0,z0,z0] (.t 52) (.t 58)),oF 60 2 6,oS 1 60 59]) .skip)))) (.reg [oM 32 7,oZ 33 32 1,oM 7 33])))))) (.seq (rg [oV 9 (ki 0)] (.blk 2 (.lop (.seq (rg [oM 61 9,oF 62 2 3,oL 63 62,oN 64 63,oB 65 .lss 61 64] (cn 65 .skip (.ext 2))) (.seq (.blk 3 (dw [oF 68 0 2,oL 69 68,oF 70 2 3,oL 71 70,oM 72 9,oI 73 6 71 72,oF 74 4 73,oW 75 2 74] [oD 76 45 69 75,oU 77 76] (cn 77 (.drw [oF 78 3 6,oL 79 78,oF 80 2 3,oL 81 80,oM 82 9,oI 83 6 81 82,oW 84 6 83,o 85 (.lit 6 1 [(.bool false),s0,s0,z0,z0,z0] [(0,6,(.t 84))])] [o 86 (.app 6 64 [(.bool false),s0,s0,z0,z0,z0] (.t 79) (.t 85)),oF 87 3 6,oS 1 87 86]) .skip))) (.reg [oM 66 9,oZ 67 66 1,oM 9 67])))))) (.seq (rg [oV 10 (ki 0)] (.blk 4 (.lop (.seq (rg [oM 88 10,oF 89 2 2,oL 90 89,oN 91 90,oB 92 .lss 88 91] (cn 92 .skip (.ext 4))) (.seq (.blk 5 (dw [oF 95 2 3,oL 96 95,oF 97 2 2,oL 98 97,oM 99 10,oI 100 6 98 99,oW 101 6 100] [oD 102 234 96 101,oU 103 102] (cn 103 (.drw [oF 104 4 6,oL 105 104,oF 106 2 2,oL 107 106,oM 108 10,oI 109 6 107 108,oF 110 4 109,oW 111 2 110,o 112 (.lit 2 1 [z0,z0] [(0,2,(.t 111))])] [o 113 (.app 2 16 [z0,z0] (.t 105) (.t 112)),oF 114 4 6,oS 1 114 113]) .skip))) (.reg [oM 93 10,oZ 94 93 1,oM 10 94])))))) (.seq (rg [oV 11 (ki 0)] (.blk 6 (.lop (.seq (rg [oM 115 11,oF 116 3 3,oL 117 116,oN 118 117,oB 119 .lss 115 118] (cn 119 .skip (.ext 6))) (.seq (.blk 7 (dw [oW 122 4 2,oF 123 3 3,oL 124 123,oM 125 11,oI 126 8 124 125,oF 127 1 126,oW 128 2 127] [oD 129 146 122 128,oM 12 129] (rg [oM 130 12,oE 131 .lss 130 0,oM 132 131,vF 133 132 3 3,vL 134 132 133,vM 135 132 11,vI 136 132 8 134 135,vF 137 132 7 136,vL 138 132 137,vM 139 132 138,jF 140 139 3 2,jL 141 139 140,jM 142 139 12,jI 143 139 8 141 142,jF 144 139 7 143,jL 145 139 144,jU 146 139 145,og 147 132 false (.pick (.t 139) (.t 146) kf),oP 148 132 147] (cn 148 (.drw [oF 149 5 6,oL 150 149,oF 151 3 3,oL 152 151,oM 153 11,oI 154 8 152 153,oW 155 8 154,o 156 (.lit 8 1 [s0,z0,z0,z0,z0,z0,z0,(.bool false)] [(0,8,(.t 155))])] [o 157 (.app 8 72 [s0,z0,z0,z0,z0,z0,z0,(.bool false)] (.t 150) (.t 156)),oF 158 5 6,oS 1 158 157]) .skip)))) (.reg [oM 120 11,oZ 121 120 1,oM 11 121])))))) (rg [oW 159 6 6,oS 6 4 159,oV 5 kt] .ret))))))))⟩
theorem A71:A6 Tryz.prog Oq=some Yf:=by kernel_rfl
theorem A3q (σ:St) (cs:List GV) (s:State) (hR:A5.R σ s cs) (ds:List GV) (t:State) (hD:A5.R σ t ds) (hl:Aa s<=1073741824) (hm:Aa t<=1073741824):∃ r τ,Ret Tryz.prog Oq [.agg cs,.agg ds] σ (.tup [.agg r,.bool (J9 s t).2]) τ/\Hp σ τ [own B9 r (J9 s t).1]:=by
 have hR0:=hR
 have hD0:=hD
 obtain⟨a,b,e,v,rfl,qa,qb,qe,qv⟩:=hR
 obtain⟨w0,w1,w2,w3,rfl,p0,p1,p2,p3⟩:=hD
 obtain⟨ls0,ls1,ls2,ls3⟩:=Rt hl
 obtain⟨m0,m1,m2,m3⟩:=Rt hm
 have key:∃ q τ,Ret Tryz.prog Oq [.agg [a,b,e,v],.agg [w0,w1,w2,w3]] σ q τ/\∃ r,q= .tup [.agg r,.bool (J9 s t).2]/\Hp σ τ [own B9 r (J9 s t).1]:=by
  refine D8 A71 (Z0z rfl) (Hx.refl σ) ?_
  simp +contextual (disch:=omega) only[go_sem,Yf]
  intro n2 f2 τ2 H2 n3 f3 τ3 H3 n4 f4 τ4 H4
  refine by_b H4 (A70 _ _ _ s t (A5.pre hR0 H4.sub) (A5.pre hD0 H4.sub) hl hm) (fun hbe=> ?_) (fun hbe=> ?_)
  rotate_left
  ·have hd:J9 s t=(delta0,false):=by simp[J9,hbe]
   simp +contextual (disch:=omega) only[go_sem]
   intro τ5 H5
   exact⟨_,rfl,_,by rw[hd],by rw[hd];exact(H5.delta0).hp.sel [0] (by decide)⟩
  have hd:J9 s t=(Aea s t,true):=by simp[J9,hbe]
  simp only[behind,Zae] at hbe
  obtain⟨hok,hdk,_⟩:=hbe
  obtain⟨o1,t1,r1,c1,l5,l7,_⟩:=N0 hok
  obtain⟨o2,t2,r2,c2,l6,_,_⟩:=N0 hdk
  simp +contextual (disch:=omega) only[go_sem]
  intro n7 f7 τ5 H5
  refine Ze (p:=pI) H5 (qa.pre H5.sub) (by decide) (by omega) fun k0 τ6 H6=> ?_
  have ck0:=(H6.hp.sl 0 rfl).cell
  simp +contextual (disch:=omega) only[go_sem,ck0]
  intro n8 f8 τ60 H60
  refine Ze (p:=pI) H60 (p0.pre H60.sub) (by decide) (by omega) fun k1 τ61 H61=> ?_
  have ck1:=(H61.hp.sl 0 rfl).cell
  simp +contextual (disch:=omega) only[go_sem,ck0,ck1]
  intro n6 f6 τ7 _ τ8 H8
  try simp +contextual (disch:=omega) only[go_sem]
  have H9:=((((H8.nil Ag.kd).nil pDot.kd).nil As.kd).nil Am.kd)
  have hX:Hx σ τ8 [.box 1 n6 [k0,k1,GV.nilS,GV.nilS,GV.nilS,GV.nilS],.th (ow pI.kd k0 s.know),.th (ow pI.kd k1 t.know),.th (ow Am.kd .nilS []),.th (ow As.kd .nilS []),.th (ow pDot.kd .nilS []),.th (ow Ag.kd .nilS []),.box 1 n4 z6',.box 1 n3 [w0,w1,w2,w3],.box 1 n2 [a,b,e,v]]:=H9.re [4,6,5,0,1,2,3,7,8,9] (by decide)
  clear H9 H8 H4 H3 H2
  refine Bu t.tallies.length 7 0 (fun i env h=>∃ x2 x3 x4 x5,env 2= .ptr n2 0/\env 3= .ptr n3 0/\env 4= .ptr n4 0/\env 6= .ptr n6 0/\h=[.box 1 n6 [k0,k1,x2,x3,x4,x5],.th (ow pI.kd k0 s.know),.th (ow pI.kd k1 t.know),.th (ow Am.kd x2 ((t.tallies.take i).filter fun x=>Cs s t x.rep)),.th (ow As.kd x3 []),.th (ow pDot.kd x4 []),.th (ow Ag.kd x5 []),.box 1 n4 z6',.box 1 n3 [w0,w1,w2,w3],.box 1 n2 [a,b,e,v]]) (fun env h=>∃ x2 x3 x4 x5,env 2= .ptr n2 0/\env 3= .ptr n3 0/\env 4= .ptr n4 0/\env 6= .ptr n6 0/\h=[.box 1 n6 [k0,k1,x2,x3,x4,x5],.th (ow pI.kd k0 s.know),.th (ow pI.kd k1 t.know),.th (ow Am.kd x2 (t.tallies.filter fun x=>Cs s t x.rep)),.th (ow As.kd x3 []),.th (ow pDot.kd x4 []),.th (ow Ag.kd x5 []),.box 1 n4 z6',.box 1 n3 [w0,w1,w2,w3],.box 1 n2 [a,b,e,v]]) (fun _ _=>False) _ hX (by simp +contextual (disch:=omega) only[go_sem]) ⟨.nilS,.nilS,.nilS,.nilS,by simp +contextual (disch:=omega) only[go_sem],by simp +contextual (disch:=omega) only[go_sem],by simp +contextual (disch:=omega) only[go_sem],by simp +contextual (disch:=omega) only[go_sem],rfl⟩ ?_ ?_ ?_ (fun _ _ _ _ h=>h.elim)
  ·clear hX
   rintro J Y W hJ hY hW i env h τ hi ei k9 H ⟨x2,x3,x4,x5,e2,e3,e4,e6,rfl⟩
   have L1:=Ae p1 hi
   have cw:=(H.hp.sl 3 rfl).cell
   have hin:=r2 t.tallies[i] (Zaa hi)
   have A1:=N6 p0 o2 hin.1 hin.2
   have A2:=N6 qa o1 hin.1 hin.2
   have gt:decide (at0 s.know t.tallies[i].rep<at0 t.know t.tallies[i].rep)=Cs s t t.tallies[i].rep:=rfl
   simp +contextual (disch:=omega) only[go_sem,k9,e2,e3,e4,e6,ei,A0,L1,p1.len,cw,A1,A2,gt]
   cases hf:Cs s t t.tallies[i].rep with
   |false=>
    simp +contextual (disch:=omega) only[go_sem,e2,e3,e4,e6,ei,A0,L1,A1,A2,gt,hf]
    exact hJ _ _ _ _ (H) ⟨x2,x3,x4,x5,by simp +contextual (disch:=omega) only[go_sem,e2],by simp +contextual (disch:=omega) only[go_sem,e3],by simp +contextual (disch:=omega) only[go_sem,e4],by simp +contextual (disch:=omega) only[go_sem,e6],by rw[Zf hi hf]⟩
   |true=>
    simp +contextual (disch:=omega) only[go_sem,e2,e3,e4,e6,ei,A0,L1,A1,A2,gt,hf,cw]
    intro nl fl τ3 H3
    refine Fn (p:=Am) H3 4 rfl t.tallies[i] Cq (by decide) (by have:=Tq (p:=(fun x=>Cs s t x.rep)) (l:=t.tallies) (i:=i) (n:=1073741824) (by omega);(try simp only[Zaf]);omega) fun w' τ4 H4=> ?_
    have cw':=(H4.hp.sl 4 rfl).cell
    simp +contextual (disch:=omega) only[go_sem,e2,e3,e4,e6,ei,cw']
    intro τ5 H5
    exact hJ _ _ _ _ (H5.re [1,2,3,4,5,6,7,8,9,10] (by decide)) ⟨w',x3,x4,x5,by simp +contextual (disch:=omega) only[go_sem,e2],by simp +contextual (disch:=omega) only[go_sem,e3],by simp +contextual (disch:=omega) only[go_sem,e4],by simp +contextual (disch:=omega) only[go_sem,e6],by rw[X8 hi hf];rfl⟩
  ·clear hX
   rintro Y hY env h τ ei k9 H ⟨x2,x3,x4,x5,e2,e3,e4,e6,rfl⟩
   simp +contextual (disch:=omega) only[go_sem,k9,e2,e3,e4,e6,ei,p1.len]
   exact hY _ _ _ H ⟨x2,x3,x4,x5,e2,e3,e4,e6,by rw[Zad]⟩
  clear hX
  rintro env h τ H ⟨x2,x3,x4,x5,e2,e3,e4,e6,rfl⟩
  try simp +contextual (disch:=omega) only[go_sem]
  refine Bu t.lives.length 9 2 (fun i env h=>∃ x2 x3 x4 x5,env 2= .ptr n2 0/\env 3= .ptr n3 0/\env 4= .ptr n4 0/\env 6= .ptr n6 0/\h=[.box 1 n6 [k0,k1,x2,x3,x4,x5],.th (ow pI.kd k0 s.know),.th (ow pI.kd k1 t.know),.th (ow Am.kd x2 (t.tallies.filter fun x=>Cs s t x.rep)),.th (ow As.kd x3 ((t.lives.take i).filter (newD s))),.th (ow pDot.kd x4 []),.th (ow Ag.kd x5 []),.box 1 n4 z6',.box 1 n3 [w0,w1,w2,w3],.box 1 n2 [a,b,e,v]]) (fun env h=>∃ x2 x3 x4 x5,env 2= .ptr n2 0/\env 3= .ptr n3 0/\env 4= .ptr n4 0/\env 6= .ptr n6 0/\h=[.box 1 n6 [k0,k1,x2,x3,x4,x5],.th (ow pI.kd k0 s.know),.th (ow pI.kd k1 t.know),.th (ow Am.kd x2 (t.tallies.filter fun x=>Cs s t x.rep)),.th (ow As.kd x3 (t.lives.filter (newD s))),.th (ow pDot.kd x4 []),.th (ow Ag.kd x5 []),.box 1 n4 z6',.box 1 n3 [w0,w1,w2,w3],.box 1 n2 [a,b,e,v]]) (fun _ _=>False) _ H (by simp +contextual (disch:=omega) only[go_sem]) ⟨x2,x3,x4,x5,by simp +contextual (disch:=omega) only[go_sem,e2],by simp +contextual (disch:=omega) only[go_sem,e3],by simp +contextual (disch:=omega) only[go_sem,e4],by simp +contextual (disch:=omega) only[go_sem,e6],by rfl⟩ ?_ ?_ ?_ (fun _ _ _ _ h=>h.elim)
  ·clear H e2 e3 e4 e6
   rintro J Y W hJ hY hW i env h τ hi ei k9 H ⟨x2,x3,x4,x5,e2,e3,e4,e6,rfl⟩
   have L1:=A7 p2 hi
   have cw:=(H.hp.sl 4 rfl).cell
   simp +contextual (disch:=omega) only[go_sem,k9,e2,e3,e4,e6,ei,A0,L1,p2.len,cw]
   refine by_b H (Bt _ a _ _ (qa.pre H.sub) (by omega)) (fun h1=> ?_) (fun h1=> ?_)
   ·simp +contextual (disch:=omega) only[go_sem,e2,e3,e4,e6,ei]
    exact hJ _ _ _ _ (H) ⟨x2,x3,x4,x5,by simp +contextual (disch:=omega) only[go_sem,e2],by simp +contextual (disch:=omega) only[go_sem,e3],by simp +contextual (disch:=omega) only[go_sem,e4],by simp +contextual (disch:=omega) only[go_sem,e6],by rw[Zf hi (by simp[newD,h1])]⟩
   ·simp +contextual (disch:=omega) only[go_sem,e2,e3,e4,e6,ei,A0,L1,cw]
    intro nl fl τ3 H3
    refine Fn (p:=As) H3 5 rfl t.lives[i] Cq (by decide) (by have:=Tq (p:=(newD s)) (l:=t.lives) (i:=i) (n:=1073741824) (by omega);(try simp only[Zaf]);omega) fun w' τ4 H4=> ?_
    have cw':=(H4.hp.sl 5 rfl).cell
    simp +contextual (disch:=omega) only[go_sem,e2,e3,e4,e6,ei,cw']
    intro τ5 H5
    exact hJ _ _ _ _ (H5.re [1,2,3,4,5,6,7,8,9,10] (by decide)) ⟨x2,w',x4,x5,by simp +contextual (disch:=omega) only[go_sem,e2],by simp +contextual (disch:=omega) only[go_sem,e3],by simp +contextual (disch:=omega) only[go_sem,e4],by simp +contextual (disch:=omega) only[go_sem,e6],by rw[X8 hi (by simp[newD,h1])];rfl⟩
  ·clear H e2 e3 e4 e6
   rintro Y hY env h τ ei k9 H ⟨x2,x3,x4,x5,e2,e3,e4,e6,rfl⟩
   simp +contextual (disch:=omega) only[go_sem,k9,e2,e3,e4,e6,ei,p2.len]
   exact hY _ _ _ H ⟨x2,x3,x4,x5,e2,e3,e4,e6,by rw[Zad]⟩
  clear H e2 e3 e4 e6
  rintro env h τ H ⟨x2,x3,x4,x5,e2,e3,e4,e6,rfl⟩
  try simp +contextual (disch:=omega) only[go_sem]
  refine Bu s.lives.length 10 4 (fun i env h=>∃ x2 x3 x4 x5,env 2= .ptr n2 0/\env 3= .ptr n3 0/\env 4= .ptr n4 0/\env 6= .ptr n6 0/\h=[.box 1 n6 [k0,k1,x2,x3,x4,x5],.th (ow pI.kd k0 s.know),.th (ow pI.kd k1 t.know),.th (ow Am.kd x2 (t.tallies.filter fun x=>Cs s t x.rep)),.th (ow As.kd x3 (t.lives.filter (newD s))),.th (ow pDot.kd x4 (((s.lives.take i).filter fun x=> !decide (x∈t.lives)).map (·.dot))),.th (ow Ag.kd x5 []),.box 1 n4 z6',.box 1 n3 [w0,w1,w2,w3],.box 1 n2 [a,b,e,v]]) (fun env h=>∃ x2 x3 x4 x5,env 2= .ptr n2 0/\env 3= .ptr n3 0/\env 4= .ptr n4 0/\env 6= .ptr n6 0/\h=[.box 1 n6 [k0,k1,x2,x3,x4,x5],.th (ow pI.kd k0 s.know),.th (ow pI.kd k1 t.know),.th (ow Am.kd x2 (t.tallies.filter fun x=>Cs s t x.rep)),.th (ow As.kd x3 (t.lives.filter (newD s))),.th (ow pDot.kd x4 ((s.lives.filter fun x=> !decide (x∈t.lives)).map (·.dot))),.th (ow Ag.kd x5 []),.box 1 n4 z6',.box 1 n3 [w0,w1,w2,w3],.box 1 n2 [a,b,e,v]]) (fun _ _=>False) _ H (by simp +contextual (disch:=omega) only[go_sem]) ⟨x2,x3,x4,x5,by simp +contextual (disch:=omega) only[go_sem,e2],by simp +contextual (disch:=omega) only[go_sem,e3],by simp +contextual (disch:=omega) only[go_sem,e4],by simp +contextual (disch:=omega) only[go_sem,e6],by rfl⟩ ?_ ?_ ?_ (fun _ _ _ _ h=>h.elim)
  ·clear H e2 e3 e4 e6
   rintro J Y W hJ hY hW i env h τ hi ei k9 H ⟨x2,x3,x4,x5,e2,e3,e4,e6,rfl⟩
   have L1:=A7 qe hi
   have cw:=(H.hp.sl 5 rfl).cell
   simp +contextual (disch:=omega) only[go_sem,k9,e2,e3,e4,e6,ei,A0,L1,qe.len,cw]
   refine by_b H (Ts _ w2 _ (p2.pre H.sub) s.lives[i] (by omega)) (fun h1=> ?_) (fun h1=> ?_)
   ·simp +contextual (disch:=omega) only[go_sem,e2,e3,e4,e6,ei]
    exact hJ _ _ _ _ (H) ⟨x2,x3,x4,x5,by simp +contextual (disch:=omega) only[go_sem,e2],by simp +contextual (disch:=omega) only[go_sem,e3],by simp +contextual (disch:=omega) only[go_sem,e4],by simp +contextual (disch:=omega) only[go_sem,e6],by rw[Zf hi (by simpa using h1)]⟩
   ·simp +contextual (disch:=omega) only[go_sem,e2,e3,e4,e6,ei,A0,L1,cw]
    intro nl fl τ3 H3
    refine Fn (p:=pDot) H3 6 rfl s.lives[i].dot Cq (by decide) (by have:=Tq (p:=(fun x=> !decide (x∈t.lives))) (l:=s.lives) (i:=i) (n:=1073741824) (by omega);(try simp only[Zaf]);omega) fun w' τ4 H4=> ?_
    have cw':=(H4.hp.sl 6 rfl).cell
    simp +contextual (disch:=omega) only[go_sem,e2,e3,e4,e6,ei,cw']
    intro τ5 H5
    exact hJ _ _ _ _ (H5.re [1,2,3,4,5,6,7,8,9,10] (by decide)) ⟨x2,x3,w',x5,by simp +contextual (disch:=omega) only[go_sem,e2],by simp +contextual (disch:=omega) only[go_sem,e3],by simp +contextual (disch:=omega) only[go_sem,e4],by simp +contextual (disch:=omega) only[go_sem,e6],by rw[X8 hi (by simpa using h1)];simp⟩
  ·clear H e2 e3 e4 e6
   rintro Y hY env h τ ei k9 H ⟨x2,x3,x4,x5,e2,e3,e4,e6,rfl⟩
   simp +contextual (disch:=omega) only[go_sem,k9,e2,e3,e4,e6,ei,qe.len]
   exact hY _ _ _ H ⟨x2,x3,x4,x5,e2,e3,e4,e6,by rw[Zad]⟩
  clear H e2 e3 e4 e6
  rintro env h τ H ⟨x2,x3,x4,x5,e2,e3,e4,e6,rfl⟩
  try simp +contextual (disch:=omega) only[go_sem]
  refine Bu t.cells.length 11 6 (fun i env h=>∃ x2 x3 x4 x5,env 2= .ptr n2 0/\env 3= .ptr n3 0/\env 4= .ptr n4 0/\env 6= .ptr n6 0/\h=[.box 1 n6 [k0,k1,x2,x3,x4,x5],.th (ow pI.kd k0 s.know),.th (ow pI.kd k1 t.know),.th (ow Am.kd x2 (t.tallies.filter fun x=>Cs s t x.rep)),.th (ow As.kd x3 (t.lives.filter (newD s))),.th (ow pDot.kd x4 ((s.lives.filter fun x=> !decide (x∈t.lives)).map (·.dot))),.th (ow Ag.kd x5 ((t.cells.take i).filter (newC s))),.box 1 n4 z6',.box 1 n3 [w0,w1,w2,w3],.box 1 n2 [a,b,e,v]]) (fun env h=>∃ x2 x3 x4 x5,env 4= .ptr n4 0/\env 6= .ptr n6 0/\h=[.box 1 n6 [k0,k1,x2,x3,x4,x5],.th (ow pI.kd k0 s.know),.th (ow pI.kd k1 t.know),.th (ow Am.kd x2 (t.tallies.filter fun x=>Cs s t x.rep)),.th (ow As.kd x3 (t.lives.filter (newD s))),.th (ow pDot.kd x4 ((s.lives.filter fun x=> !decide (x∈t.lives)).map (·.dot))),.th (ow Ag.kd x5 (t.cells.filter (newC s))),.box 1 n4 z6',.box 1 n3 [w0,w1,w2,w3],.box 1 n2 [a,b,e,v]]) (fun _ _=>False) _ H (by simp +contextual (disch:=omega) only[go_sem]) ⟨x2,x3,x4,x5,by simp +contextual (disch:=omega) only[go_sem,e2],by simp +contextual (disch:=omega) only[go_sem,e3],by simp +contextual (disch:=omega) only[go_sem,e4],by simp +contextual (disch:=omega) only[go_sem,e6],by rfl⟩ ?_ ?_ ?_ (fun _ _ _ _ h=>h.elim)
  ·clear H e2 e3 e4 e6
   rintro J Y W hJ hY hW i env h τ hi ei k9 H ⟨x2,x3,x4,x5,e2,e3,e4,e6,rfl⟩
   have L1:=A8 p3 hi
   have cw:=(H.hp.sl 6 rfl).cell
   simp +contextual (disch:=omega) only[go_sem,k9,e2,e3,e4,e6,ei,A0,L1,p3.len,cw]
   refine by_r H (Il _ _ s (A5.pre hR0 H.sub) t.cells[i].dot (by omega)) ?_
   cases hx:Cf s.cells t.cells[i].dot with
   |none=>
    have hno:C9 s.cells t.cells[i].dot= -1:=by simp[C9,hx]
    have kE:newC s t.cells[i]=true:=by simp[newC,hx]
    have b0:decide ((-1:Int)<0)=true:=rfl
    simp +contextual (disch:=omega) only[go_sem,hno,b0,e2,e3,e4,e6,ei,A0,L1,cw]
    intro nl fl τ3 H3
    refine Fn (p:=Ag) H3 7 rfl t.cells[i] Cq (by decide) (by have:=Tq (p:=(newC s)) (l:=t.cells) (i:=i) (n:=1073741824) (by omega);(try simp only[Zaf]);omega) fun w' τ4 H4=> ?_
    have cw':=(H4.hp.sl 7 rfl).cell
    simp +contextual (disch:=omega) only[go_sem,e2,e3,e4,e6,ei,cw']
    intro τ5 H5
    exact hJ _ _ _ _ (H5.re [1,2,3,4,5,6,7,8,9,10] (by decide)) ⟨x2,x3,x4,w',by simp +contextual (disch:=omega) only[go_sem,e2],by simp +contextual (disch:=omega) only[go_sem,e3],by simp +contextual (disch:=omega) only[go_sem,e4],by simp +contextual (disch:=omega) only[go_sem,e6],by rw[X8 hi kE];rfl⟩
   |some j=>
    obtain⟨hj,hjd⟩:=C5 hx
    have hno:C9 s.cells t.cells[i].dot=j:=by simp[C9,hx]
    have b0:decide ((j:Int)<0)=false:=by simp
    have L2:=A8 qv hj
    cases hg:t.cells[i].gone with
    |false=>
     have kE:newC s t.cells[i]=false:=by simp[newC,hx,hg]
     simp +contextual (disch:=omega) only[go_sem,hno,b0,hg,e2,e3,e4,e6,ei,A0,L1,cw]
     exact hJ _ _ _ _ (H) ⟨x2,x3,x4,x5,by simp +contextual (disch:=omega) only[go_sem,e2],by simp +contextual (disch:=omega) only[go_sem,e3],by simp +contextual (disch:=omega) only[go_sem,e4],by simp +contextual (disch:=omega) only[go_sem,e6],by rw[Zf hi kE]⟩
    |true=>
     cases hs:s.cells[j].gone with
     |true=>
      have kE:newC s t.cells[i]=false:=by simp[newC,hx,hg,hj,hs]
      simp +contextual (disch:=omega) only[go_sem,hno,b0,hg,hs,e2,e3,e4,e6,ei,A0,L1,L2,cw]
      exact hJ _ _ _ _ (H) ⟨x2,x3,x4,x5,by simp +contextual (disch:=omega) only[go_sem,e2],by simp +contextual (disch:=omega) only[go_sem,e3],by simp +contextual (disch:=omega) only[go_sem,e4],by simp +contextual (disch:=omega) only[go_sem,e6],by rw[Zf hi kE]⟩
     |false=>
      have kE:newC s t.cells[i]=true:=by simp[newC,hx,hg,hj,hs]
      simp +contextual (disch:=omega) only[go_sem,hno,b0,hg,hs,e2,e3,e4,e6,ei,A0,L1,L2,cw]
      intro nl fl τ3 H3
      refine Fn (p:=Ag) H3 7 rfl t.cells[i] (by simp only[Cq,A2a,hg]) (by decide) (by have:=Tq (p:=(newC s)) (l:=t.cells) (i:=i) (n:=1073741824) (by omega);(try simp only[Zaf]);omega) fun w' τ4 H4=> ?_
      have cw':=(H4.hp.sl 7 rfl).cell
      simp +contextual (disch:=omega) only[go_sem,e2,e3,e4,e6,ei,cw']
      intro τ5 H5
      exact hJ _ _ _ _ (H5.re [1,2,3,4,5,6,7,8,9,10] (by decide)) ⟨x2,x3,x4,w',by simp +contextual (disch:=omega) only[go_sem,e2],by simp +contextual (disch:=omega) only[go_sem,e3],by simp +contextual (disch:=omega) only[go_sem,e4],by simp +contextual (disch:=omega) only[go_sem,e6],by rw[X8 hi kE];rfl⟩
  ·clear H e2 e3 e4 e6
   rintro Y hY env h τ ei k9 H ⟨x2,x3,x4,x5,e2,e3,e4,e6,rfl⟩
   simp +contextual (disch:=omega) only[go_sem,k9,e2,e3,e4,e6,ei,p3.len]
   exact hY _ _ _ H ⟨x2,x3,x4,x5,e4,e6,by rw[Zad]⟩
  clear H e2 e3 e4 e6
  rintro env h τ H ⟨x2,x3,x4,x5,e4,e6,rfl⟩
  have cc2:=(H.hp.sl 3 rfl).cell
  have cc3:=(H.hp.sl 4 rfl).cell
  have cc4:=(H.hp.sl 5 rfl).cell
  have cc5:=(H.hp.sl 6 rfl).cell
  simp +contextual (disch:=omega) only[go_sem,e4,e6,cc2,cc3,cc4,cc5]
  intro τ8 H8
  exact⟨_,rfl,_,by rw[hd],by rw[hd];exact Hp.ownDelta (x:=Aea s t) (H8.sel [1,2,3,4,5,6] (by decide))⟩
 obtain⟨q,τ,R,r,rfl,h⟩:=key
 exact⟨r,τ,R,h⟩
abbrev Kv:Nat:=367
def Yg:Fn1:=⟨32,[.c 6 true 4],(rg [oX 4 1,o 6 (.new [.nilS,.nilS,.nilS,.nilS])] (dw [o 7 (.new [z0,z0,z0,.nilS,z0,s0,s0,z0,z0,z0])] [oW 12 4 4,oM 13 2,oW 14 4 4,oC 15 277 14,on (.chk 12 (.ld true 4 (.t 4))),on (.blc 7 [z0,z0,z0,.nilS,z0,s0,s0,z0,z0,z0]),oZ 16 15 1,oM 17 0,oC 18 269 17,on (.chk 12 (.ld true 4 (.t 4))),on (.blc 7 [z0,z0,z0,.nilS,z0,s0,s0,z0,z0,z0]),o 19 (.call 276 [(.t 12),(.t 13),(.t 16),(.t 18)]),on (.blc 7 [z0,z0,z0,.nilS,z0,s0,s0,z0,z0,z0]),oM 11 19,o 20 (.ext 0 (.t 11)),o 21 (.ext 1 (.t 11)),oS 10 7 20,oM 8 21] (.seq (rg [oM 22 8,oE 23 .neq 22 0] (cn 23 (rg [oW 24 4 4,oS 4 6 24] .ret) .skip)) (rg [oW 26 4 4,oW 27 10 7,oD 28 140 26 27,oM 25 28,o 29 (.ext 0 (.t 25)),o 30 (.ext 1 (.t 25)),o 9 (.new [.nilS,.nilS,.nilS,.nilS]),oS 4 9 29,oM 10 30] (rg [oW 31 4 9,oS 4 6 31] .ret)))))⟩
theorem A72:Es true Tryz.prog Kv=some Yg:=by kernel_rfl
abbrev S7:Nat:=363
def A1q:Fn1:=⟨39,[.c 2 true 4,.c 3 true 4,.c 4 true 4],(rg [o 2 (.new [.nilS,.nilS,.nilS,.nilS]),o 3 (.new [.nilS,.nilS,.nilS,.nilS]),o 4 (.new [.nilS,.nilS,.nilS,.nilS])] (rg [oM 10 0,o 11 (.call 43 []),oM 12 0,o 13 (.call 163 [(.t 12),(ki 5)]),o 14 (.bin .add (ki 1) (.t 13)),o 15 (.call 281 [(.t 10),(.t 11),(.t 14)]),o 5 (.new [.nilS,.nilS,.nilS,.nilS]),oS 4 5 15] (rg [oW 16 4 5,o 6 (.new [.nilS,.nilS,.nilS,.nilS]),oS 4 6 16] (rg [oW 17 4 5,o 7 (.new [.nilS,.nilS,.nilS,.nilS]),oS 4 7 17] (.seq (rg [oV 8 (ki 0)] (.blk 0 (.lop (.seq (rg [oM 18 8,oM 19 0,o 20 (.call 163 [(.t 19),(ki 5)]),oB 21 .lss 18 20] (cn 21 .skip (.ext 0))) (.seq (.blk 1 (.reg [oM 24 0,oW 25 4 6,o 26 (.call 367 [(.t 24),(.t 25),(ki 0)]),oS 4 6 26])) (.reg [oM 22 8,oZ 23 22 1,oM 8 23])))))) (.seq (rg [oV 9 (ki 0)] (.blk 2 (.lop (.seq (rg [oM 27 9,oM 28 0,o 29 (.call 163 [(.t 28),(ki 5)]),oB 30 .lss 27 29] (cn 30 .skip (.ext 2))) (.seq (.blk 3 (.reg [oM 33 0,oW 34 4 7,o 35 (.call 367 [(.t 33),(.t 34),(ki 1)]),oS 4 7 35])) (.reg [oM 31 9,oZ 32 31 1,oM 9 32])))))) (dw [] [oW 36 4 5,oW 37 4 6,oW 38 4 7,oS 4 2 36,on (.chk 37 (.ld true 4 (.t 6))),on (.chk 38 (.ld true 4 (.t 7))),oS 4 3 37,on (.chk 38 (.ld true 4 (.t 7))),oS 4 4 38] .ret)))))))⟩
theorem A9p:A6 Tryz.prog S7=some A1q:=by kernel_rfl
section
variable {σ0 σ:St} {h:List Item} {c v:GV} {bs:List Int}
theorem A9q {cs:List GV} {s:State} (H:Hx σ0 σ h) (k:Nat) (hk:h[k]? =some (cuI c v bs)) (D:Dr σ0 v bs) (hS:∀ τ,Hx σ0 τ h->A5.R τ s cs) (hs:OkS s) (rep:Int) (hr:0<=rep/\rep<=2):
  ∃(ds:List GV) (s':State) (τ:St),Ret Tryz.prog Kv [c,.agg cs,gi rep] σ (.agg ds) τ/\Grw s s'/\((ds=cs/\s'=s/\Hx σ0 τ h)∨Hx σ0 τ (.th (own A5 ds s')::h)):=by
 have gl:cs.length=4:=A5.len (hS σ H)
 have hms:=hs.ms
 have htm:=Rw fun c hc=>(hs.time c hc).2
 have key:∃ w τ,Ret Tryz.prog Kv [c,.agg cs,gi rep] σ w τ/\∃ ds s',w= .agg ds/\Grw s s'/\((ds=cs/\s'=s/\Hx σ0 τ h)∨Hx σ0 τ (.th (own A5 ds s')::h)):=by
  refine D8 A72 (Z0z rfl) H ?_
  simp +contextual (disch:=omega) only[go_sem,Yg]
  intro n4 f4 τ4 H4 n6 f6 τ6 H6
  have g4:=Al (h:=h) f4
  have g6:=Al (h:=h) f6.2
  have ne46:=f6.1
  simp +contextual (disch:=omega) only[go_sem,A4 gl]
  intro n7 f7 τ70 H70
  have g7:=Al (h:=h) f7.2.2
  have ne74:=f7.2.1
  have ne76:=f7.1
  try simp +contextual (disch:=omega) only[go_sem,A4 gl]
  refine by_r H70 (Iv _ cs s (hS _ H70.tl.tl.tl) (by omega)) ?_
  obtain⟨tm,htm'⟩:∃ tm,tm=Ee s.cells:=⟨_,rfl⟩
  rw[<- htm'] at htm ⊢
  simp +contextual (disch:=omega) only[go_sem,A4 gl,Ff]
  obtain⟨e,τ7,he,R7,H7⟩:=Km H70 (k+3) hk D
  refine by_k R7 H7 ?_
  simp +contextual (disch:=omega) only[go_sem,A4 gl,Ff]
  have hsz:=he.size
  have hkn:=Tv s
  obtain⟨as',τ9,R9,K9⟩:=O8 τ7 cs s (hS _ H7.tl.tl.tl) rep (tm+1) e (by omega) (by omega) (by omega) (by have:=he.place;omega) (by omega)
  have al:as'.length=10:=kAct.len (K9.rd 0 rfl)
  refine by_c H7 R9 K9 fun H9=> ?_
  have hma:=Aan s rep (tm+1) e
  have hstep:(Dg s rep (tm+1) e).2=0->Grw s (Do s (Dg s rep (tm+1) e).1).1:=fun hz=>by
   have:=Grw.act (s0:=s) rep 0 e .nil hr.1 hr.2 (Zax 0) (by decide) he (by rw[<- htm'];simpa using hz)
   rw[<- htm'] at this
   simpa using this
  generalize Dg s rep (tm+1) e=A at*
  simp +contextual (disch:=omega) only[go_sem,Ab (cs:=zeV) al rfl,al,A4 gl]
  intro τ11 H11
  cases hz:(A.2 != 0) with
  |true=>
   simp +contextual (disch:=omega) only[go_sem,hz,A4 gl,Ab (cs:=z4) gl rfl,gl]
   intro τ12 H12
   exact⟨_,rfl,cs,s,rfl,.nil,.inl ⟨rfl,rfl,H12.tl.tl.tl.tl⟩⟩
  |false=>
   simp +contextual (disch:=omega) only[go_sem,hz,A4 gl,A4 al]
   obtain⟨ds,τ12,R12,K12⟩:=Kj τ11 cs s (hS _ H11.tl.tl.tl.tl) as' A.1 (H11.hp.rd 0 rfl) (by omega) (by omega)
   have gl2:ds.length=4:=A5.len (K12.rd 0 rfl)
   refine by_c H11 R12 K12 fun H12=> ?_
   simp +contextual (disch:=omega) only[go_sem,Ab (cs:=z4) gl2 rfl,gl2,A4 gl2]
   intro n9 f9 τ13 _ τ14 H14
   try simp +contextual (disch:=omega) only[go_sem,Ab (cs:=z4) gl2 rfl,gl2,A4 gl2]
   intro τ15 H15
   exact⟨_,rfl,ds,_,rfl,hstep (by simpa using hz),.inr (((((H15.era 5).era 4).era 3).era 2).era 0)⟩
 obtain⟨w,τ,R,ds,s',rfl,h'⟩:=key
 exact⟨ds,s',τ,R,h'⟩
theorem U5 {cs:List GV} {s:State} {L:List (List GV×State)} (H:Hx σ0 σ (.th (shs A5 L)::h)) (k:Nat) (hk:h[k]? =some (cuI c v bs)) (D:Dr σ0 v bs) (hm:(cs,s)∈L) (hs:OkS s) (rep:Int) (hr:0<=rep/\rep<=2):
  ∃(ds:List GV) (s':State) (τ:St),Ret Tryz.prog Kv [c,.agg cs,gi rep] σ (.agg ds) τ/\Grw s s'/\Hx σ0 τ (.th (shs A5 ((ds,s')::L))::h):=by
 obtain⟨ds,s',τ,R,hg,h'⟩:=A9q H (k+1) hk D (fun τ H'=>H'.hp.shs_rd 0 rfl hm) hs rep hr
 refine⟨ds,s',τ,R,hg,?_⟩
 rcases h' with⟨rfl,rfl,h'⟩|h'
 ·exact Hp.shsLe (fun y hy=>by
   rcases Zay.1 hy with rfl|hy
   ·exact hm
   ·exact hy) h'.hp
 ·exact Hp.shsAdd h'.hp
theorem Grw.trans {a b d:State} (h:Grw a b) (k:Grw b d):Grw a d:=by
 induction k with
 |nil=>exact h
 |act rep dt e _ h1 h2 h3 h4 h5 h6 ih=>exact .act rep dt e ih h1 h2 h3 h4 h5 h6
theorem Ac3 (H:Hx σ0 σ h) (k:Nat) (hk:h[k]? =some (cuI c v bs)) (D:Dr σ0 v bs):
  ∃(cb ca cd:List GV) (b0 a d:State) (τ:St),Grw st0 b0/\Grw b0 a/\Grw b0 d/\Ret Tryz.prog S7 [c] σ (.tup [.agg cb,.agg ca,.agg cd]) τ/\Hx σ0 τ (.th (shs A5 [(cb,b0),(ca,a),(cd,d)])::h):=by
 have key:∃ w τ,Ret Tryz.prog S7 [c] σ w τ/\∃ cb ca cd b0 a d,w= .tup [.agg cb,.agg ca,.agg cd]/\Grw st0 b0/\Grw b0 a/\Grw b0 d/\Hx σ0 τ (.th (shs A5 [(cb,b0),(ca,a),(cd,d)])::h):=by
  refine D8 A9p (Z0z rfl) H ?_
  simp +contextual (disch:=omega) only[go_sem,A1q]
  intro n2 f2 τ2 _ n3 f3 τ3 _ n4 f4 τ4 H4
  have g2:=Al (h:=h) f2
  have g3:=Al (h:=h) f3.2
  have g4:=Al (h:=h) f4.2.2
  have ne32:=f3.1
  have ne43:=f4.1
  obtain⟨cs,τ5,R5,K5⟩:=Gk τ4
  refine by_c H4 R5 K5 fun H5=> ?_
  simp +contextual (disch:=omega) only[go_sem]
  obtain⟨x,τ6,hx,R6,H6⟩:=Bw H5 (k+4) hk D 5 (by decide) (by decide)
  refine by_k R6 H6 ?_
  obtain⟨q,hq⟩:∃ q:Nat,q=1+x:=⟨_,rfl⟩
  have e:(1:Int)+x=(q:Int):=by omega
  simp +contextual (disch:=omega) only[go_sem,e]
  obtain⟨cb,b0,τ7,hg,R7,H7⟩:=Nf H6 (k+3) hk D Xg q (by omega)
  have hob:=hg.ok Xg
  have gb:cb.length=4:=A5.len (H7.hp.rd 0 rfl)
  have H8:Hx σ0 τ7 (.th (shs A5 [(cb,b0)])::.box 1 n4 z4::.box 1 n3 z4::.box 1 n2 z4::h):=Hp.shs1 H7.hp
  refine by_k R7 H8 ?_
  simp +contextual (disch:=omega) only[go_sem,Ab (cs:=z4) gb rfl,gb,A4 gb]
  intro n5 f5 τ9 _ τ10 _ n6 f6 τ11 _ τ12 _ n7 f7 τ13 _ τ14 H14
  have g5:n4<n5:=f5.1
  have g6:n5<n6:=f6.1
  have g7:n6<n7:=f7.1
  have H15:Hx σ0 τ14 (.th (shs A5 [(cb,b0)])::.box 1 n7 cb::.box 1 n6 cb::.box 1 n5 cb::.box 1 n4 z4::.box 1 n3 z4::.box 1 n2 z4::h):=H14.fst 3 rfl
  have H16:Hx σ0 τ14 (.th (shs A5 [(cb,b0),(cb,b0),(cb,b0)])::.box 1 n7 cb::.box 1 n6 cb::.box 1 n5 cb::.box 1 n4 z4::.box 1 n3 z4::.box 1 n2 z4::h):=Hp.shsLe (fun y hy=>by simpa using hy) H15.hp
  clear H15 H14 H8 H7 H6 H5 H4
  refine Aag 6 0 (fun kk env hh=>env 0=c/\env 2= .ptr n2 0/\env 3= .ptr n3 0/\env 4= .ptr n4 0/\env 5= .ptr n5 0/\env 6= .ptr n6 0/\env 7= .ptr n7 0/\∃(i:Int) (ca:List GV) (a:State),env 8=gi i/\0<=i/\i<=5/\kk=(6 - i).toNat/\ca.length=4/\Grw b0 a/\hh= .th (shs A5 [(cb,b0),(ca,a),(cb,b0)])::.box 1 n7 cb::.box 1 n6 ca::.box 1 n5 cb::.box 1 n4 z4::.box 1 n3 z4::.box 1 n2 z4::h) (fun env hh=>env 0=c/\env 2= .ptr n2 0/\env 3= .ptr n3 0/\env 4= .ptr n4 0/\env 5= .ptr n5 0/\env 6= .ptr n6 0/\env 7= .ptr n7 0/\∃(ca:List GV) (a:State),ca.length=4/\Grw b0 a/\hh= .th (shs A5 [(cb,b0),(ca,a),(cb,b0)])::.box 1 n7 cb::.box 1 n6 ca::.box 1 n5 cb::.box 1 n4 z4::.box 1 n3 z4::.box 1 n2 z4::h) (fun _ _=>False) _ H16 ⟨by simp +contextual (disch:=omega) only[go_sem],by simp +contextual (disch:=omega) only[go_sem],by simp +contextual (disch:=omega) only[go_sem],by simp +contextual (disch:=omega) only[go_sem],by simp +contextual (disch:=omega) only[go_sem],by simp +contextual (disch:=omega) only[go_sem],by simp +contextual (disch:=omega) only[go_sem],0,cb,b0,by simp +contextual (disch:=omega) only[go_sem],by decide,by decide,rfl,gb,.nil,rfl⟩ ?_ ?_ (fun _ _ _ _ h=>h.elim)
  ·clear H16
   rintro J Y W hJ hY hW kk env h' τ H ⟨e0,e2,e3,e4,e5,e6,e7,i,ca,a,e8,hi0,hi5,rfl,gl,hga,rfl⟩
   simp +contextual (disch:=omega) only[go_sem,e0,e8]
   obtain⟨x,τ1,hx,R1,H1⟩:=Bw H (k+7) hk D 5 (by decide) (by decide)
   refine by_k R1 H1 ?_
   cases hb:decide (i<(x:Int)) with
   |false=>
    simp +contextual (disch:=omega) only[go_sem,hb]
    exact hY _ _ _ H1 ⟨by simp +contextual (disch:=omega) only[go_sem,e0],by simp +contextual (disch:=omega) only[go_sem,e2],by simp +contextual (disch:=omega) only[go_sem,e3],by simp +contextual (disch:=omega) only[go_sem,e4],by simp +contextual (disch:=omega) only[go_sem,e5],by simp +contextual (disch:=omega) only[go_sem,e6],by simp +contextual (disch:=omega) only[go_sem,e7],ca,a,gl,hga,rfl⟩
   |true=>
    have hlt:=of_decide_eq_true hb
    simp +contextual (disch:=omega) only[go_sem,hb,e0,e6,A4 gl]
    obtain⟨ds,s',τ2,R2,hg2,H2⟩:=U5 H1 (k+6) hk D (cs:=ca) (s:=a) (by simp) (hga.ok hob) 0 (by decide)
    have gd:ds.length=4:=by
     have:=H2.hp.shs_rd 0 rfl (y:=(ds,s')) Zap
     exact A5.len this
    refine by_k R2 H2 ?_
    simp +contextual (disch:=omega) only[go_sem,e6,e8,Ab (cs:=ca) gd gl,gd,gl]
    intro τ3 H3
    have H4:Hx σ0 τ3 (.th (shs A5 [(cb,b0),(ds,s'),(cb,b0)])::.box 1 n7 cb::.box 1 n6 ds::.box 1 n5 cb::.box 1 n4 z4::.box 1 n3 z4::.box 1 n2 z4::h):=Hp.shsLe (fun y hy=>by
     simp only[Zay,Za3,or_false] at hy ⊢
     rcases hy with rfl|rfl|rfl<;>simp) H3.hp
    exact⟨(6 - (i+1)).toNat,by omega,hJ _ _ _ _ H4 ⟨by simp +contextual (disch:=omega) only[go_sem,e0],by simp +contextual (disch:=omega) only[go_sem,e2],by simp +contextual (disch:=omega) only[go_sem,e3],by simp +contextual (disch:=omega) only[go_sem,e4],by simp +contextual (disch:=omega) only[go_sem,e5],by simp +contextual (disch:=omega) only[go_sem,e6],by simp +contextual (disch:=omega) only[go_sem,e7],i+1,ds,s',by simp +contextual (disch:=omega) only[go_sem],by omega,by omega,rfl,gd,hga.trans hg2,rfl⟩⟩
  clear H16
  rintro env h' τ14 H ⟨e0,e2,e3,e4,e5,e6,e7,ca,a,ga,hga,rfl⟩
  simp +contextual (disch:=omega) only[go_sem,e0]
  refine Aag 6 2 (fun kk env hh=>env 0=c/\env 2= .ptr n2 0/\env 3= .ptr n3 0/\env 4= .ptr n4 0/\env 5= .ptr n5 0/\env 6= .ptr n6 0/\env 7= .ptr n7 0/\∃(i:Int) (cd:List GV) (d:State),env 9=gi i/\0<=i/\i<=5/\kk=(6 - i).toNat/\cd.length=4/\Grw b0 d/\hh= .th (shs A5 [(cb,b0),(ca,a),(cd,d)])::.box 1 n7 cd::.box 1 n6 ca::.box 1 n5 cb::.box 1 n4 z4::.box 1 n3 z4::.box 1 n2 z4::h) (fun env hh=>env 2= .ptr n2 0/\env 3= .ptr n3 0/\env 4= .ptr n4 0/\env 5= .ptr n5 0/\env 6= .ptr n6 0/\env 7= .ptr n7 0/\∃(cd:List GV) (d:State),cd.length=4/\Grw b0 d/\hh= .th (shs A5 [(cb,b0),(ca,a),(cd,d)])::.box 1 n7 cd::.box 1 n6 ca::.box 1 n5 cb::.box 1 n4 z4::.box 1 n3 z4::.box 1 n2 z4::h) (fun _ _=>False) _ H ⟨by simp +contextual (disch:=omega) only[go_sem,e0],by simp +contextual (disch:=omega) only[go_sem,e2],by simp +contextual (disch:=omega) only[go_sem,e3],by simp +contextual (disch:=omega) only[go_sem,e4],by simp +contextual (disch:=omega) only[go_sem,e5],by simp +contextual (disch:=omega) only[go_sem,e6],by simp +contextual (disch:=omega) only[go_sem,e7],0,cb,b0,by simp +contextual (disch:=omega) only[go_sem],by decide,by decide,rfl,gb,.nil,rfl⟩ ?_ ?_ (fun _ _ _ _ h=>h.elim)
  ·clear H e0 e2 e3 e4 e5 e6 e7
   rintro J Y W hJ hY hW kk env h' τ H ⟨e0,e2,e3,e4,e5,e6,e7,i,cd,d,e9,hi0,hi5,rfl,gl,hgd,rfl⟩
   simp +contextual (disch:=omega) only[go_sem,e0,e9]
   obtain⟨x,τ1,hx,R1,H1⟩:=Bw H (k+7) hk D 5 (by decide) (by decide)
   refine by_k R1 H1 ?_
   cases hb:decide (i<(x:Int)) with
   |false=>
    simp +contextual (disch:=omega) only[go_sem,hb]
    exact hY _ _ _ H1 ⟨by simp +contextual (disch:=omega) only[go_sem,e2],by simp +contextual (disch:=omega) only[go_sem,e3],by simp +contextual (disch:=omega) only[go_sem,e4],by simp +contextual (disch:=omega) only[go_sem,e5],by simp +contextual (disch:=omega) only[go_sem,e6],by simp +contextual (disch:=omega) only[go_sem,e7],cd,d,gl,hgd,rfl⟩
   |true=>
    have hlt:=of_decide_eq_true hb
    simp +contextual (disch:=omega) only[go_sem,hb,e0,e7,A4 gl]
    obtain⟨ds,s',τ2,R2,hg2,H2⟩:=U5 H1 (k+6) hk D (cs:=cd) (s:=d) (by simp) (hgd.ok hob) 1 (by decide)
    have gd:ds.length=4:=by
     have:=H2.hp.shs_rd 0 rfl (y:=(ds,s')) Zap
     exact A5.len this
    refine by_k R2 H2 ?_
    simp +contextual (disch:=omega) only[go_sem,e7,e9,Ab (cs:=cd) gd gl,gd,gl]
    intro τ3 H3
    have H4:Hx σ0 τ3 (.th (shs A5 [(cb,b0),(ca,a),(ds,s')])::.box 1 n7 ds::.box 1 n6 ca::.box 1 n5 cb::.box 1 n4 z4::.box 1 n3 z4::.box 1 n2 z4::h):=Hp.shsLe (fun y hy=>by
     simp only[Zay,Za3,or_false] at hy ⊢
     rcases hy with rfl|rfl|rfl<;>simp) H3.hp
    exact⟨(6 - (i+1)).toNat,by omega,hJ _ _ _ _ H4 ⟨by simp +contextual (disch:=omega) only[go_sem,e0],by simp +contextual (disch:=omega) only[go_sem,e2],by simp +contextual (disch:=omega) only[go_sem,e3],by simp +contextual (disch:=omega) only[go_sem,e4],by simp +contextual (disch:=omega) only[go_sem,e5],by simp +contextual (disch:=omega) only[go_sem,e6],by simp +contextual (disch:=omega) only[go_sem,e7],i+1,ds,s',by simp +contextual (disch:=omega) only[go_sem],by omega,by omega,rfl,gd,hgd.trans hg2,rfl⟩⟩
  ·clear H e0 e2 e3 e4 e5 e6 e7
   rintro env h' τ H ⟨e2,e3,e4,e5,e6,e7,cd,d,gd,hgd,rfl⟩
   simp +contextual (disch:=omega) only[go_sem,e2,e3,e4,e5,e6,e7,A4 gb,A4 ga,A4 gd,Ab (cs:=z4) gb rfl,Ab (cs:=z4) ga rfl,Ab (cs:=z4) gd rfl,gb,ga,gd]
   intro τ1 _ τ2 _ τ3 H3
   exact⟨_,rfl,cb,ca,cd,b0,a,d,rfl,hg,hga,hgd,(((((H3.era 6).era 5).era 4).era 3).era 2).era 1⟩
 obtain⟨w,τ,R,cb,ca,cd,b0,a,d,rfl,h1,h2,h3,h4⟩:=key
 exact⟨cb,ca,cd,b0,a,d,τ,h1,h2,h3,R,h4⟩
end
abbrev Or:Nat:=200
def Yh:Fn1:=⟨13,[.c 2 true 4,.t 3],(rg [o 2 (.new [.nilS,.nilS,.nilS,.nilS]),o 3 (.mov (.k s0))] (rg [oM 6 0,oC 7 161 6,oM 4 7] (rg [oM 8 4,oC 9 293 8,oM 5 9] (rg [oM 10 4,oC 11 294 10,oM 12 5,oS 4 2 11,oM 3 12] .ret))))⟩
theorem A73:A6 Tryz.prog Or=some Yh:=by kernel_rfl
section
variable {P:Program} {σ0 σ τ:St} {h:List Item} {c v:GV} {bs:List Int} {α:Type} {l:List α}
theorem Dr.pre (D:Dr σ0 v bs) (hp:σ0 <+: σ):Dr σ v bs:=⟨D.hv.pre hp,D.hl⟩
theorem Aic (H:Hx σ0 σ h) (D:Dr σ0 v bs):∃(c:GV) (τ:St),Ret Tryz.prog Qz [v] σ c τ/\Hx σ0 τ (cuI c v bs::h):=by
 obtain⟨c,τ,R,K⟩:=A4l σ v bs (D.hv.pre H.sub) D.hl
 exact⟨c,τ,R,H.hp.add K⟩
theorem Qb (H:Hx σ0 σ h) (D:Dr σ0 v bs):∃(ds:List GV) (s:State) (o:ByteArray) (τ:St),Aa s<=6000/\o∈Uk/\Ret Tryz.prog Or [v] σ (.tup [.agg ds,.str o]) τ/\Hx σ0 τ (.th (own A5 ds s)::h):=by
 have key:∃ w τ,Ret Tryz.prog Or [v] σ w τ/\∃ ds s o,w= .tup [.agg ds,.str o]/\Aa s<=6000/\o∈Uk/\Hx σ0 τ (.th (own A5 ds s)::h):=by
  refine D8 A73 (Z0z rfl) H ?_
  simp +contextual (disch:=omega) only[go_sem,Yh]
  intro n1 f1 τ1 H1
  have g1:=Al (h:=h) f1
  obtain⟨c,τ2,R2,H2⟩:=Aic H1 D
  refine by_k R2 H2 ?_
  simp +contextual (disch:=omega) only[go_sem]
  obtain⟨o,τ3,ho,R3,H3⟩:=M8 H2 0 rfl D
  refine by_k R3 H3 ?_
  simp +contextual (disch:=omega) only[go_sem]
  obtain⟨ds,s,τ4,hs,R4,H4⟩:=A6d H3 0 rfl D
  have gl:ds.length=4:=A5.len (H4.hp.rd 0 rfl)
  refine by_k R4 H4 ?_
  simp +contextual (disch:=omega) only[go_sem,Ab (cs:=z4) gl rfl,gl,A4 gl]
  intro τ5 H5
  exact⟨_,rfl,ds,s,o,rfl,hs,ho,(H5.era 2).era 1⟩
 obtain⟨w,τ,R,ds,s,o,rfl,h1,h2,h3⟩:=key
 exact⟨ds,s,o,τ,h1,h2,R,h3⟩
end
abbrev Mg:Nat:=297
def U6:Fn1:=⟨21,[.c 2 true 6],(rg [o 2 (.new [.nilS,.nilS,.nilS,.nilS,.nilS,.nilS])] (rg [oM 9 0,oC 10 363 9,oM 8 10,o 11 (.ext 0 (.t 8)),o 12 (.ext 1 (.t 8)),o 13 (.ext 2 (.t 8)),o 3 (.new [.nilS,.nilS,.nilS,.nilS]),o 4 (.new [.nilS,.nilS,.nilS,.nilS]),o 5 (.new [.nilS,.nilS,.nilS,.nilS]),oS 4 3 11,oS 4 4 12,oS 4 5 13] (rg [oW 15 4 3,oW 16 4 4,oD 17 123 15 16,oM 14 17,o 18 (.ext 0 (.t 14)),o 19 (.ext 1 (.t 14)),o 6 (.new [.nilS,.nilS,.nilS,.nilS,.nilS,.nilS]),oS 6 6 18,oM 7 19] (rg [oW 20 6 6,oS 6 2 20] .ret))))⟩
theorem A3r:A6 Tryz.prog Mg=some U6:=by kernel_rfl
abbrev S8:Nat:=296
def A1r:Fn1:=⟨69,[.c 2 true 6],(rg [o 2 (.new [.nilS,.nilS,.nilS,.nilS,.nilS,.nilS])] (rg [oM 6 0,o 7 (.call 163 [(.t 6),(ki 12)]),oM 3 7] (rg [oM 8 0,o 9 (.call 163 [(.t 8),(ki 60)]),oM 4 9] (rg [oM 10 0,oC 11 297 10,oC 12 223 11,o 5 (.new [.nilS,.nilS,.nilS,.nilS,.nilS,.nilS]),oS 6 5 12] (.seq (rg [oM 13 3] (.blk 0 (rg [oE 15 .eql 13 0,oM 14 15] (cn 14 (.reg [oM 16 4,oE 17 .rem 16 4,oM 18 4,oE 19 .rem 18 3,oM 20 4,oE 21 .rem 20 5,o 22 (.lit 1 3 [z0,z0,z0] [(0,1,(.t 17)),(1,1,(.t 19)),(2,1,(.t 21))]),oF 23 1 5,oS 1 23 22]) (rg [oE 25 .eql 13 1,oM 24 25] (cn 24 (.reg [oF 26 4 5,oL 27 26,oM 28 4,oE 29 .rem 28 4,oM 30 4,oE 31 .rem 30 5,o 32 (.build [z0,z0] [(0,1,(.t 29)),(1,1,(.t 31))]),o 33 (.lit 2 1 [z0,z0] [(0,2,(.t 32))]),o 34 (.app 2 16 [z0,z0] (.t 27) (.t 33)),oF 35 4 5,oS 1 35 34]) (rg [oE 37 .eql 13 2,oM 36 37] (cn 36 (.reg [oF 38 3 5,oL 39 38,oM 40 4,oE 41 .rem 40 6,o 42 (.build [z0,z0] [(0,1,(ki 2)),(1,1,(.t 41))]),o 43 (.build [(.bool false),s0,s0,z0,z0,z0] [(1,1,(.k (.str ⟨#[97]⟩))),(2,1,(.k (.str ⟨#[120]⟩))),(4,2,(.t 42))]),o 44 (.lit 6 1 [(.bool false),s0,s0,z0,z0,z0] [(0,6,(.t 43))]),o 45 (.app 6 64 [(.bool false),s0,s0,z0,z0,z0] (.t 39) (.t 44)),oF 46 3 5,oS 1 46 45]) (rg [oE 48 .eql 13 3,oM 47 48] (cn 47 (.reg [o 49 (.lit 1 0 [] []),oF 50 0 5,oS 1 50 49]) (rg [oE 52 .eql 13 4,oM 51 52] (cn 51 (.reg [oF 53 5 5,oL 54 53,oM 55 4,oE 56 .rem 55 5,o 57 (.bin .add (ki 1) (.t 56)),o 58 (.build [z0,z0] [(0,1,(ki 2)),(1,1,(.t 57))]),oM 59 4,oE 60 .rem 59 4,oM 61 4,oE 62 .rem 61 3,o 63 (.build [z0,z0] [(0,1,(ki 1)),(1,1,(.t 62))]),o 64 (.build [s0,z0,z0,z0,z0,z0,z0,(.bool false)] [(0,1,(.k (.str ⟨#[97]⟩))),(1,2,(.t 58)),(3,1,(.t 60)),(4,2,(.t 63))]),o 65 (.lit 8 1 [s0,z0,z0,z0,z0,z0,z0,(.bool false)] [(0,8,(.t 64))]),o 66 (.app 8 72 [s0,z0,z0,z0,z0,z0,z0,(.bool false)] (.t 54) (.t 65)),oF 67 5 5,oS 1 67 66]) .skip)))))))))))) (rg [oW 68 6 5,oS 6 2 68] .ret))))))⟩
theorem A9r:A6 Tryz.prog S8=some A1r:=by kernel_rfl
abbrev Jb:Nat:=205
def Nl:Fn1:=⟨18,[.c 2 true 17],(rg [o 2 (.new [(.bool false),z0,z0,z0,.nilS,z0,s0,s0,z0,z0,z0,.nilS,.nilS,.nilS,.nilS,.nilS,.nilS])] (.seq (rg [oM 4 0,o 5 (.call 202 [(.t 4),(ki 3)])] (cn 5 (rg [oM 6 0,oC 7 296 6,o 8 (.build [(.bool false),z0,z0,z0,.nilS,z0,s0,s0,z0,z0,z0,.nilS,.nilS,.nilS,.nilS,.nilS,.nilS] [(0,1,kt),(11,6,(.t 7))]),oS 17 2 8] .ret) .skip)) (rg [oM 9 0,oC 10 175 9,o 11 (.build [(.bool false),z0,z0,z0,.nilS,z0,s0,s0,z0,z0,z0,.nilS,.nilS,.nilS,.nilS,.nilS,.nilS] [(1,10,(.t 10))]),o 3 (.new [(.bool false),z0,z0,z0,.nilS,z0,s0,s0,z0,z0,z0,.nilS,.nilS,.nilS,.nilS,.nilS,.nilS]),oS 17 3 11] (.seq (rg [oM 12 0,o 13 (.call 202 [(.t 12),(ki 12)])] (cn 13 (.reg [oM 14 0,oC 15 297 14,oF 16 11 3,oS 6 16 15]) .skip)) (rg [oW 17 17 3,oS 17 2 17] .ret)))))⟩
theorem Yi:A6 Tryz.prog Jb=some Nl:=by kernel_rfl
abbrev Jc:Nat:=75
def Nm:Fn1:=⟨27,[.t 2,.t 3],(rg [o 2 (.mov (.k .nilS)),oV 3 (ki 0)] (rg [oM 8 0,oC 9 161 8,oM 4 9] (rg [oM 10 4,o 11 (.call 163 [(.t 10),(ki 5)]),oE 12 .sub 11 1,oM 5 12] (rg [oM 13 4,oC 14 203 13,o 6 (.new [z0,z0,.nilS,.nilS,.nilS,.nilS,.nilS,.nilS]),oS 8 6 14] (rg [oF 15 6 6,oL 16 15,oC 17 204 16,oM 7 17] (.seq (rg [oM 18 4,o 19 (.call 202 [(.t 18),(ki 4)])] (cn 19 (.reg [oM 20 7,oM 21 4,oC 22 205 21,o 23 (.lit 17 1 [(.bool false),z0,z0,z0,.nilS,z0,s0,s0,z0,z0,z0,.nilS,.nilS,.nilS,.nilS,.nilS,.nilS] [(0,17,(.t 22))]),o 24 (.app 17 264 [(.bool false),z0,z0,z0,.nilS,z0,s0,s0,z0,z0,z0,.nilS,.nilS,.nilS,.nilS,.nilS,.nilS] (.t 20) (.t 23)),oM 7 24]) .skip)) (rg [oM 25 7,oM 26 5,oM 2 25,oM 3 26] .ret)))))))⟩
theorem Yj:A6 Tryz.prog Jc=some Nm:=by kernel_rfl
abbrev Fr:Nat:=74
def Iw:Fn1:=⟨26,[.c 2 true 4,.t 3,.t 4,.t 5],(rg [o 2 (.new [.nilS,.nilS,.nilS,.nilS]),oV 3 kf,o 4 (.mov (.k s0)),o 5 (.mov (.k s0))] (rg [oM 11 0,oC 12 161 11,oM 6 12] (rg [oM 13 6,oC 14 201 13,oM 7 14] (rg [oM 15 6,o 16 (.call 202 [(.t 15),(ki 2)]),oM 8 16] (rg [oM 18 0,oC 19 200 18,oM 17 19,o 20 (.ext 0 (.t 17)),o 21 (.ext 1 (.t 17)),o 9 (.new [.nilS,.nilS,.nilS,.nilS]),oS 4 9 20,oM 10 21] (rg [oW 22 4 9,oM 23 8,oM 24 10,oM 25 7,oS 4 2 22,oM 3 23,oM 4 24,oM 5 25] .ret))))))⟩
theorem Ot:A6 Tryz.prog Fr=some Iw:=by kernel_rfl
def tup4 (x y z u:Option GV):Option GV:=x.bind fun x=>y.bind fun y=>z.bind fun z=>u.bind fun u=>if Bs x&&(Bs y&&(Bs z&&Bs u)) then some (.tup [x,y,z,u]) else none
@[go_sem] theorem tup4_if {x y z u:GV}:tup4 (some x) (some y) (some z) (some u)=if Bs x&&(Bs y&&(Bs z&&Bs u)) then some (.tup [x,y,z,u]) else none:=(rfl)
@[go_sem] theorem resX_4 {σ:St} {h:List Item} {τ:St} {env:Env} {x y z u:Rs}:resX σ h τ env [x,y,z,u]=tup4 (rsX σ h τ env x) (rsX σ h τ env y) (rsX σ h τ env z) (rsX σ h τ env u):=by
 simp only[resX,Bg,tup4]
 cases rsX σ h τ env x with
 |none=>rfl
 |some a=>cases rsX σ h τ env y with
  |none=>rfl
  |some b=>cases rsX σ h τ env z with
   |none=>rfl
   |some d=>cases rsX σ h τ env u<;>simp
theorem Ac4 (a b:State):Ay (J9 a b).1<=Aa a+2*Aa b:=by
 unfold J9
 split
 ·exact ms_dif a b
 ·simp only[Ay,sumL,Za1,Za2,Zaj];omega
section
variable {σ0 σ:St} {h:List Item} {c v:GV} {bs:List Int}
theorem Hx.ownD {τ:St} {v0 v1 v2 v3 v4 v5:GV} {ba kn:List Int} {tl:List Tally} {lv:List Live} {dd:List Dot} {cl:List Cell} {b2:List GV} {n2:Nat} (H:Hx σ0 τ (.th (ow pI.kd v0 ba)::.th (ow pI.kd v1 kn)::.th (ow Am.kd v2 tl)::.th (ow As.kd v3 lv)::.th (ow pDot.kd v4 dd)::.th (ow Ag.kd v5 cl)::.box 1 n2 b2::h)):Hx σ0 τ (.th (own B9 [v0,v1,v2,v3,v4,v5] ⟨ba,kn,tl,lv,dd,cl⟩)::h):=Hp.ownDelta (x:=⟨ba,kn,tl,lv,dd,cl⟩) (H.era 6).hp
theorem U7 (H:Hx σ0 σ h) (k:Nat) (hk:h[k]? =some (cuI c v bs)) (D:Dr σ0 v bs):∃(ds:List GV) (d:Delta) (τ:St),Ay d<=15000/\Ret Tryz.prog Mg [c] σ (.agg ds) τ/\Hx σ0 τ (.th (own B9 ds d)::h):=by
 have key:∃ w τ,Ret Tryz.prog Mg [c] σ w τ/\∃ ds d,w= .agg ds/\Ay d<=15000/\Hx σ0 τ (.th (own B9 ds d)::h):=by
  refine D8 A3r (Z0z rfl) H ?_
  simp +contextual (disch:=omega) only[go_sem,U6]
  intro n2 f2 τ2 H2
  have g2:=Al (h:=h) f2
  obtain⟨cb,ca,cd,b0,a,d,τ3,hg,hga,hgd,R3,H3⟩:=Ac3 H2 (k+1) hk D
  have hb0:=hg.ok Xg
  have m1:=hb0.ms
  have m2:=(hga.ok hb0).ms
  have gb:cb.length=4:=A5.len (H3.hp.shs_rd 0 rfl (y:=(cb,b0)) (by simp))
  have ga:ca.length=4:=A5.len (H3.hp.shs_rd 0 rfl (y:=(ca,a)) (by simp))
  have gd:cd.length=4:=A5.len (H3.hp.shs_rd 0 rfl (y:=(cd,d)) (by simp))
  refine by_k R3 H3 ?_
  have x2:extG 2 (GV.tup [GV.agg cb,GV.agg ca,GV.agg cd])=some (.agg cd):=rfl
  simp +contextual (disch:=omega) only[go_sem,x2,Ab (cs:=z4) gb rfl,Ab (cs:=z4) ga rfl,Ab (cs:=z4) gd rfl,gb,ga,gd]
  intro n3 f3 τ30 _ n4 f4 τ31 _ n5 f5 τ32 _ τ33 _ τ34 _ τ6 H6
  have g3:=Al (h:=h) f3.2
  have g4:=Al (h:=h) f4.2.2
  have g5:=Al (h:=h) f5.2.2.2
  have ne54:=f5.1
  have ne53:=f5.2.1
  have ne43:=f4.1
  try simp +contextual (disch:=omega) only[go_sem,A4 gb,A4 ga,A4 gd]
  obtain⟨r,τ7,R7,K7⟩:=A3q τ6 cb b0 (H6.hp.shs_rd 3 rfl (y:=(cb,b0)) (by simp)) ca a (H6.hp.shs_rd 3 rfl (y:=(ca,a)) (by simp)) (by omega) (by omega)
  have gr:r.length=6:=B9.len (K7.rd 0 rfl)
  refine by_c H6 R7 K7 fun H7=> ?_
  simp +contextual (disch:=omega) only[go_sem,Ab (cs:=z6') gr rfl,gr]
  intro n8 f8 τ80 _ τ8 H8
  try simp +contextual (disch:=omega) only[go_sem,Ab (cs:=z6') gr rfl,gr,A4 gr]
  intro τ9 H9
  have hms:=Ac4 b0 a
  exact⟨_,rfl,r,_,rfl,by omega,(((((H9.era 6).era 5).era 4).era 3).era 2).era 0⟩
 obtain⟨w,τ,R,ds,d,rfl,h1,h2⟩:=key
 exact⟨ds,d,τ,h1,R,h2⟩
theorem Ac5 (H:Hx σ0 σ h) (k:Nat) (hk:h[k]? =some (cuI c v bs)) (D:Dr σ0 v bs):∃(ds:List GV) (d:Delta) (τ:St),Ay d<=20000/\Ret Tryz.prog S8 [c] σ (.agg ds) τ/\Hx σ0 τ (.th (own B9 ds d)::h):=by
 have key:∃ w τ,Ret Tryz.prog S8 [c] σ w τ/\∃ ds d,w= .agg ds/\Ay d<=20000/\Hx σ0 τ (.th (own B9 ds d)::h):=by
  refine D8 A9r (Z0z rfl) H ?_
  simp +contextual (disch:=omega) only[go_sem,A1r]
  intro n2 f2 τ2 H2
  have g2:=Al (h:=h) f2
  obtain⟨x,τ3,hx,R3,H3⟩:=Bw H2 (k+1) hk D 12 (by decide) (by decide)
  refine by_k R3 H3 ?_
  simp +contextual (disch:=omega) only[go_sem]
  obtain⟨y,τ4,hy,R4,H4⟩:=Bw H3 (k+1) hk D 60 (by decide) (by decide)
  refine by_k R4 H4 ?_
  simp +contextual (disch:=omega) only[go_sem]
  obtain⟨os,d,τ5,hms,R5,H5⟩:=U7 H4 (k+1) hk D
  refine by_k R5 H5 ?_
  simp +contextual (disch:=omega) only[go_sem]
  obtain⟨ds,τ6,R6,K6⟩:=Q5 τ5 os d (H5.hp.rd 0 rfl) (by omega)
  have H6:Hx σ0 τ6 (.th (own B9 ds d)::.box 1 n2 z6'::h):=Hx.era (h:=.th (own B9 ds d)::.th (own B9 os d)::.box 1 n2 z6'::h) (H5.hp.add K6) 1
  obtain⟨v0,v1,v2,v3,v4,v5,rfl,HS⟩:=Hp.splitDelta H6.hp
  have HS:Hx σ0 τ6 (.th (ow pI.kd v0 d.base)::.th (ow pI.kd v1 d.know)::.th (ow Am.kd v2 d.tallies)::.th (ow As.kd v3 d.lives)::.th (ow pDot.kd v4 d.dead)::.th (ow Ag.kd v5 d.cells)::.box 1 n2 z6'::h):=HS
  refine by_m R6 HS ?_
  have k0:=(HS.hp.sl 0 rfl).cell
  have k1:=(HS.hp.sl 1 rfl).cell
  have k2:=(HS.hp.sl 2 rfl).cell
  have k3:=(HS.hp.sl 3 rfl).cell
  have k4:=(HS.hp.sl 4 rfl).cell
  have k5:=(HS.hp.sl 5 rfl).cell
  clear K6 R6 R5 H5 H6 R4 R3 H4 H3 H2
  have m2:¬ ((2:Int)=0):=by decide
  have m3:¬ ((3:Int)=0):=by decide
  have m4:¬ ((4:Int)=0):=by decide
  have m5:¬ ((5:Int)=0):=by decide
  have m6:¬ ((6:Int)=0):=by decide
  simp +contextual (disch:=omega) only[go_sem,k0,k1,k2,k3,k4,k5]
  intro n5 f5 τ7 _ τ8 H8
  have g5:=Al (h:=h) f5.2
  have ne25:=f5.1
  clear HS f5 f2
  have hm:=hms
  unfold Ay at hm
  by_cases hx0:x=0
  ·have c0:((x:Int)==0)=true:=by simp[hx0]
   obtain⟨q3,hq3⟩:∃ q,q=(y:Int).tmod 3:=⟨_,rfl⟩
   obtain⟨q4,hq4⟩:∃ q,q=(y:Int).tmod 4:=⟨_,rfl⟩
   obtain⟨q5,hq5⟩:∃ q,q=(y:Int).tmod 5:=⟨_,rfl⟩
   simp +contextual (disch:=omega) only[go_sem,c0,k0,k1,k2,k3,k4,k5,m3,m4,m5,<-hq3,<-hq4,<-hq5]
   intro n20 f20 τ9 _ τ10 _ τ11 H11
   have ne20:=f20.1
   have H12:Hx σ0 τ11 (.th (ow pI.kd (.sl n20 0 3) [q4,q3,q5])::.box 1 n5 [v0,.sl n20 0 3,v2,v3,v4,v5]::.th (ow pI.kd v0 d.base)::.th (ow pI.kd v1 d.know)::.th (ow Am.kd v2 d.tallies)::.th (ow As.kd v3 d.lives)::.th (ow pDot.kd v4 d.dead)::.th (ow Ag.kd v5 d.cells)::.box 1 n2 [v0,.sl n20 0 3,v2,v3,v4,v5]::h):=Hp.toRow (p:=pI) H11.hp 0 rfl [q4,q3,q5] rfl rfl _ rfl
   refine⟨_,rfl,_,_,rfl,?_,((((H12.era 3).fst 2 rfl).era 2)).ownD⟩
   simp only[Ay,List.length_cons,Zaj];omega
  have c0:((x:Int)==0)=false:=by simp;omega
  by_cases hx1:x=1
  ·have c1:((x:Int)==1)=true:=by simp[hx1]
   obtain⟨q4,hq4⟩:∃ q,q=(y:Int).tmod 4:=⟨_,rfl⟩
   obtain⟨q5,hq5⟩:∃ q,q=(y:Int).tmod 5:=⟨_,rfl⟩
   simp +contextual (disch:=omega) only[go_sem,c0,c1,k0,k1,k2,k3,k4,k5,m3,m4,m5,<-hq4,<-hq5]
   intro n20 f20 τ9 H9
   have ne20:=f20.1
   refine Fn (p:=pDot) H9 6 rfl ⟨q4,q5⟩ Cq (by decide) (by omega) fun v' τ10 H10=> ?_
   have cv:=(H10.hp.sl 6 rfl).cell
   simp +contextual (disch:=omega) only[go_sem,c0,c1,k0,k1,k2,k3,k5,cv]
   intro τ11 _ τ12 H12
   refine⟨_,rfl,_,_,rfl,?_,H12.tl.tl.ownD⟩
   simp only[Ay,Zah,Zag];omega
  have c1:((x:Int)==1)=false:=by simp;omega
  by_cases hx2:x=2
  ·have c2:((x:Int)==2)=true:=by simp[hx2]
   obtain⟨q6,hq6⟩:∃ q,q=(y:Int).tmod 6:=⟨_,rfl⟩
   simp +contextual (disch:=omega) only[go_sem,c0,c1,c2,k0,k1,k2,k3,k4,k5,m6,<-hq6]
   intro n20 f20 τ9 H9
   have ne20:=f20.1
   refine Fn (p:=As) H9 5 rfl ⟨false,⟨#[97]⟩,⟨#[120]⟩,0,⟨2,q6⟩⟩ Cq (by decide) (by omega) fun v' τ10 H10=> ?_
   have cv:=(H10.hp.sl 5 rfl).cell
   simp +contextual (disch:=omega) only[go_sem,c0,c1,c2,k0,k1,k2,k4,k5,cv]
   intro τ11 _ τ12 H12
   refine⟨_,rfl,_,_,rfl,?_,H12.tl.tl.ownD⟩
   simp only[Ay,Zah,Zag,My,F0,show(ByteArray.mk #[97]).size=1 from rfl,show(ByteArray.mk #[120]).size=1 from rfl];omega
  have c2:((x:Int)==2)=false:=by simp;omega
  by_cases hx3:x=3
  ·have c3:((x:Int)==3)=true:=by simp[hx3]
   simp +contextual (disch:=omega) only[go_sem,c0,c1,c2,c3,k0,k1,k2,k3,k4,k5]
   intro n20 f20 τ9 _ τ10 _ τ11 H11
   have ne20:=f20.1
   have H12:Hx σ0 τ11 (.th (ow pI.kd (.sl n20 0 0) [])::.box 1 n5 [.sl n20 0 0,v1,v2,v3,v4,v5]::.th (ow pI.kd v0 d.base)::.th (ow pI.kd v1 d.know)::.th (ow Am.kd v2 d.tallies)::.th (ow As.kd v3 d.lives)::.th (ow pDot.kd v4 d.dead)::.th (ow Ag.kd v5 d.cells)::.box 1 n2 [.sl n20 0 0,v1,v2,v3,v4,v5]::h):=H11.emp pI.kd rfl
   refine⟨_,rfl,_,_,rfl,?_,((H12.era 2).era 1).ownD⟩
   simp only[Ay,Zaj];omega
  have c3:((x:Int)==3)=false:=by simp;omega
  by_cases hx4:x=4
  ·have c4:((x:Int)==4)=true:=by simp[hx4]
   obtain⟨q3,hq3⟩:∃ q,q=(y:Int).tmod 3:=⟨_,rfl⟩
   obtain⟨q4,hq4⟩:∃ q,q=(y:Int).tmod 4:=⟨_,rfl⟩
   obtain⟨q5,hq5⟩:∃ q,q=IntKind.i64.wrap (1+(y:Int).tmod 5):=⟨_,rfl⟩
   simp +contextual (disch:=omega) only[go_sem,c0,c1,c2,c3,c4,k0,k1,k2,k3,k4,k5,m3,m4,m5,<-hq3,<-hq4,<-hq5]
   intro n20 f20 τ9 H9
   have ne20:=f20.1
   refine Fn (p:=Ag) H9 7 rfl ⟨⟨#[97]⟩,⟨2,q5⟩,q4,⟨1,q3⟩,0,false⟩ Cq (by decide) (by omega) fun v' τ10 H10=> ?_
   have cv:=(H10.hp.sl 7 rfl).cell
   simp +contextual (disch:=omega) only[go_sem,c0,c1,c2,c3,c4,k0,k1,k2,k3,k4,cv]
   intro τ11 _ τ12 H12
   refine⟨_,rfl,_,_,rfl,?_,H12.tl.tl.ownD⟩
   simp only[Ay,Zah,Zag,My,F1,show(ByteArray.mk #[97]).size=1 from rfl];omega
  have c4:((x:Int)==4)=false:=by simp;omega
  simp +contextual (disch:=omega) only[go_sem,c0,c1,c2,c3,c4,k0,k1,k2,k3,k4,k5]
  intro τ9 H9
  refine⟨_,rfl,_,_,rfl,?_,H9.tl.ownD⟩
  simp only[Ay];omega
 obtain⟨w,τ,R,ds,d,rfl,h1,h2⟩:=key
 exact⟨ds,d,τ,h1,R,h2⟩
theorem Hx.unitD {τ:St} {ds:List GV} {d:Delta} (H:Hx σ0 τ (.th (own B9 ds d)::h)):Hx σ0 τ (.th (own Ad (GV.bool true::zeV++(ds++[])) ⟨true,act0,d⟩)::h):=by
 have X2:Hp σ0 τ (own kAct zeV act0::own B9 ds d::h.map Item.t):=Hp.ownAct (x:=act0) (H.nil pI.kd).hp
 exact Hp.ownUnit_ (x:=⟨true,act0,d⟩) X2
theorem Hx.unitAD {τ:St} {ca ds:List GV} {a:Act} {d:Delta} (H:Hx σ0 τ (.th (own kAct ca a)::.th (own B9 ds d)::h)):Hx σ0 τ (.th (own Ad (GV.bool false::ca++(ds++[])) ⟨false,a,d⟩)::h):=Hp.ownUnit_ (x:=⟨false,a,d⟩) H.hp
theorem Zn (H:Hx σ0 σ h) (k:Nat) (hk:h[k]? =some (cuI c v bs)) (D:Dr σ0 v bs):∃(ds:List GV) (u:Unit_) (τ:St),Aw u<=20100/\Ret Tryz.prog Jb [c] σ (.agg ds) τ/\Hx σ0 τ (.th (own Ad ds u)::h):=by
 have key:∃ w τ,Ret Tryz.prog Jb [c] σ w τ/\∃ ds u,w= .agg ds/\Aw u<=20100/\Hx σ0 τ (.th (own Ad ds u)::h):=by
  refine D8 Yi (Z0z rfl) H ?_
  simp +contextual (disch:=omega) only[go_sem,Nl]
  intro n2 f2 τ2 H2
  have g2:=Al (h:=h) f2
  obtain⟨b,τ3,R3,H3⟩:=Fo H2 (k+1) hk D 3 (by decide)
  refine by_k R3 H3 ?_
  cases b with
  |true=>
   simp +contextual (disch:=omega) only[go_sem]
   obtain⟨ds,d,τ4,hms,R4,H4⟩:=Ac5 H3 (k+1) hk D
   obtain⟨v0,v1,v2,v3,v4,v5,rfl,_⟩:=H4.hp.rd 0 rfl
   refine by_k R4 H4 ?_
   simp +contextual (disch:=omega) only[go_sem]
   intro τ5 H5
   exact⟨_,rfl,_,⟨true,act0,d⟩,rfl,by simp only[Aw,Dm,act0];(have:(ByteArray.mk #[]).size=0:=rfl);simp only[Zaj,this];omega,(H5.era 1).unitD⟩
  |false=>
   simp +contextual (disch:=omega) only[go_sem]
   obtain⟨ca,a,τ4,⟨b1,b2,b3⟩,R4,H4⟩:=Abw H3 (k+1) hk D
   obtain⟨kv,rfl,_⟩:=H4.hp.rd 0 rfl
   refine by_k R4 H4 ?_
   simp +contextual (disch:=omega) only[go_sem]
   intro n3 f3 τ5 _ τ6 H6
   have g3:=Al (h:=h) f3.2
   have ne32:=f3.1
   obtain⟨b,τ7,R7,H7⟩:=Fo H6 (k+3) hk D 12 (by decide)
   refine by_k R7 H7 ?_
   cases b with
   |false=>
    simp +contextual (disch:=omega) only[go_sem]
    intro τ8 H8
    exact⟨_,rfl,_,⟨false,a,delta0⟩,rfl,by simp only[Aw,Dm,Ay,sumL,Za1,Za2,Zaj];omega,(H8.tl.era 1).unitA⟩
   |true=>
    simp +contextual (disch:=omega) only[go_sem]
    obtain⟨ds,d,τ8,hms,R8,H8⟩:=U7 H7 (k+3) hk D
    obtain⟨v0,v1,v2,v3,v4,v5,rfl,_⟩:=H8.hp.rd 0 rfl
    refine by_k R8 H8 ?_
    simp +contextual (disch:=omega) only[go_sem]
    intro τ9 _ τ10 H10
    exact⟨_,rfl,_,⟨false,a,d⟩,rfl,by simp only[Aw,Dm];omega,(((H10.era 3).era 1).fst 1 rfl).unitAD⟩
 obtain⟨w,τ,R,ds,u,rfl,h1,h2⟩:=key
 exact⟨ds,u,τ,h1,R,h2⟩
theorem Uq (H:Hx σ0 σ h) (D:Dr σ0 v bs):∃(r:GV) (l:List Unit_) (rep:Int) (τ:St),(l.length<=61/\sumL Aw l<=400000)/\(-1<=rep/\rep<=4)/\Ret Tryz.prog Jc [v] σ (.tup [r,gi rep]) τ/\Hx σ0 τ (.th (ow Ad r l)::h):=by
 have key:∃ w τ,Ret Tryz.prog Jc [v] σ w τ/\∃ r l rep,w= .tup [r,gi rep]/\(l.length<=61/\sumL Aw l<=400000)/\(-1<=rep/\rep<=4)/\Hx σ0 τ (.th (ow Ad r l)::h):=by
  refine D8 Yj (Z0z rfl) H ?_
  simp +contextual (disch:=omega) only[go_sem,Nm]
  obtain⟨c,τ2,R2,H2⟩:=Aic H D
  refine by_k R2 H2 ?_
  simp +contextual (disch:=omega) only[go_sem]
  obtain⟨x,τ3,hx,R3,H3⟩:=Bw H2 0 rfl D 5 (by decide) (by decide)
  refine by_k R3 H3 ?_
  simp +contextual (disch:=omega) only[go_sem]
  obtain⟨ds,l,ls,τ4,hLg,hl,R4,H4⟩:=Ac2 H3 0 rfl D
  have hG:=hLg.g l hl
  have hms:=hG.ms
  obtain⟨s0,s1,s2,s3,uu,ww,rfl,hS,hU,hW⟩:=I6 (H4.hp.rd 0 rfl)
  refine by_k R4 H4 ?_
  simp +contextual (disch:=omega) only[go_sem]
  intro n6 f6 τ5 _ τ6 H6
  have g6:=Al (h:=h) f6
  have hU6:=(log_R (H6.hp.rd 1 rfl)).2.1
  have hlen:l.units.length+sumL Aw l.units<=400000:=by unfold Ad5 at hms;omega
  have hnu:=hG.nu
  have hsu:=Ko (f:=Aw) (l:=l.units) (n:=5000) fun u hu=>Mf (hG.un u hu)
  try simp +contextual (disch:=omega) only[go_sem]
  obtain⟨r,τ7,R7,K7⟩:=J8 τ6 uu l.units hU6 (by omega)
  refine by_c H6 R7 K7 fun H7=> ?_
  simp +contextual (disch:=omega) only[go_sem]
  obtain⟨b,τ8,R8,H8⟩:=Fo H7 3 rfl D 4 (by decide)
  refine by_k R8 H8 ?_
  cases b with
  |false=>
   have nt:=RdN.notup (H8.hp.sl 0 rfl)
   simp +contextual (disch:=omega) only[go_sem,nt,if_true]
   exact fun _=>⟨_,rfl,_,l.units,(x:Int) - 1,rfl,⟨by omega,by omega⟩,⟨by omega,by omega⟩,((H8.era 3).era 2).era 1⟩
  |true=>
   simp +contextual (disch:=omega) only[go_sem]
   obtain⟨du,x2,τ9,hxm,R9,H9⟩:=Zn H8 3 rfl D
   have gd:du.length=17:=Ad.len (H9.hp.rd 0 rfl)
   refine by_k R9 H9 ?_
   simp +contextual (disch:=omega) only[go_sem,Ab (cs:=zeU) gd rfl,gd]
   intro n10 f10 τ10 H10
   refine Kl H10 1 1 rfl rfl Cq (by decide) (by omega) fun v' τ11 H11=> ?_
   have nt:=RdN.notup (H11.hp.sl 1 rfl)
   simp +contextual (disch:=omega) only[go_sem,nt,if_true]
   exact fun _=>⟨_,rfl,_,l.units++[x2],(x:Int) - 1,rfl,⟨by simp only[Zah,Zag];omega,by rw[My];omega⟩,⟨by omega,by omega⟩,(((H11.era 4).era 3).era 2).tl⟩
 obtain⟨w,τ,R,r,l,rep,rfl,h1,h2,h3⟩:=key
 exact⟨r,l,rep,τ,h1,h2,R,h3⟩
theorem N4 (H:Hx σ0 σ h) (D:Dr σ0 v bs):∃(ds:List GV) (s:State) (b:Bool) (o ky:ByteArray) (τ:St),Aa s<=6000/\o∈Uk/\ky∈A63/\Ret Tryz.prog Fr [v] σ (.tup [.agg ds,.bool b,.str o,.str ky]) τ/\Hx σ0 τ (.th (own A5 ds s)::h):=by
 have key:∃ w τ,Ret Tryz.prog Fr [v] σ w τ/\∃ ds s b o ky,w= .tup [.agg ds,.bool b,.str o,.str ky]/\Aa s<=6000/\o∈Uk/\ky∈A63/\Hx σ0 τ (.th (own A5 ds s)::h):=by
  refine D8 Ot (Z0z rfl) H ?_
  simp +contextual (disch:=omega) only[go_sem,Iw]
  intro n1 f1 τ1 H1
  have g1:=Al (h:=h) f1
  obtain⟨c,τ2,R2,H2⟩:=Aic H1 D
  refine by_k R2 H2 ?_
  simp +contextual (disch:=omega) only[go_sem]
  obtain⟨ky,τ3,hky,R3,H3⟩:=F5 H2 0 rfl D
  refine by_k R3 H3 ?_
  simp +contextual (disch:=omega) only[go_sem]
  obtain⟨b,τ4,R4,H4⟩:=Fo H3 0 rfl D 2 (by decide)
  refine by_k R4 H4 ?_
  simp +contextual (disch:=omega) only[go_sem]
  obtain⟨ds,s,o,τ5,hs,ho,R5,H5⟩:=Qb H4 D
  have gl:ds.length=4:=A5.len (H5.hp.rd 0 rfl)
  refine by_k R5 H5 ?_
  simp +contextual (disch:=omega) only[go_sem,Ab (cs:=z4) gl rfl,gl,A4 gl]
  intro n6 f6 τ6 _ τ7 H7
  have ne61:n1<n6:=by have:=f6;(try simp only[Ai1,frX_th] at this);omega
  try simp +contextual (disch:=omega) only[go_sem,Ab (cs:=z4) gl rfl,gl,A4 gl]
  intro τ8 H8
  exact⟨_,rfl,ds,s,b,o,ky,rfl,hs,ho,hky,((H8.era 3).era 2).tl⟩
 obtain⟨w,τ,R,ds,s,b,o,ky,rfl,h1,h2,h3,h4⟩:=key
 exact⟨ds,s,b,o,ky,τ,h1,h2,h3,R,h4⟩
end
abbrev Aed:Nat:=40
def Aee:Fn1:=⟨6,[.t 2],(rg [oV 2 kf] (rg [oM 3 0,oN 4 3,oE 5 .gtr 4 1048576,oM 2 5] .ret))⟩
theorem Ag0:A6 Tryz.prog Aed=some Aee:=by kernel_rfl
abbrev U8:Nat:=55
def U9:Fn1:=⟨26,[.t 4],(rg [oV 4 kf] (.seq (rg [oM 6 0,oN 7 6,oM 8 1,oN 9 8,oB 10 .neq 7 9] (cn 10 (rg [oV 4 kf] .ret) .skip)) (.seq (rg [oV 5 (ki 0)] (.blk 0 (.lop (.seq (rg [oM 11 5,oM 12 0,oN 13 12,oB 14 .lss 11 13] (cn 14 .skip (.ext 0))) (.seq (.blk 1 (dw [oM 17 0,oM 18 5,oI 19 1 17 18,oL 20 19,oM 21 1,oM 22 5,oI 23 1 21 22,oL 24 23] [oB 25 .neq 20 24] (cn 25 (rg [oV 4 kf] .ret) .skip))) (.reg [oM 15 5,oZ 16 15 1,oM 5 16])))))) (rg [oV 4 kt] .ret))))⟩
theorem A3s:A6 Tryz.prog U8=some U9:=by kernel_rfl
theorem Aef (σ:St) (v:GV) (l:List Int) (h:RS pB.kd σ v l):Ret Tryz.prog Aed [v] σ (.bool (decide ((1048576:Int)<l.length))) σ:=by
 refine E5 Ag0 (Z0z rfl) trivial ?_
 simp +contextual (disch:=omega) only[go_sem,Aee,h.len]
 try exact fun _=>rfl
theorem Jd (σ:St) (v u:GV) (a b:List Int) (ha:RS pI.kd σ v a) (hb:RS pI.kd σ u b) (hla:a.length<=1099511627776):Ret Tryz.prog U8 [v,u] σ (.bool (decide (a=b))) σ:=by
 refine Ar A3s (Z0z rfl) trivial ?_
 simp +contextual (disch:=omega) only[go_sem,U9,ha.len,hb.len]
 refine⟨fun hn=> ?_,fun hn=> ?_⟩
 ·have:a≠b:=fun h=>by subst h;simp at hn
  simp[this]
 ·have hlm:a.length=b.length:=by
                     have h2:(a.length:Int)=b.length:=by simpa using hn
                     omega
  refine Ce a.length 5 (fun i env τ=>env 0=v/\env 1=u/\a.take i=b.take i/\σ <+: τ) rfl ⟨rfl,rfl,rfl,Zan _⟩ ?_ ?_
  ·rintro i env τ hi e5 c0 ⟨e0,e1,he,hp⟩
   have hj:i<b.length:=by omega
   have hne:a[i]≠b[i]->a≠b:=fun h h'=>h (by subst h';rfl)
   have hst:a[i]=b[i]->a.take (i+1)=b.take (i+1):=fun h=>by rw[Ap hi,Ap hj,he,h]
   simp +contextual (disch:=omega) only[go_sem,c0,e0,e1,e5,ha.len,hb.len,Cc (ha.pre hp) hi,Cc (hb.pre hp) hj,hp]
   refine⟨fun h=> ?_,fun h=> ?_⟩
   ·simp[hne (by simpa using h)]
   ·simpa using hst (by simpa using h)
  ·rintro env τ e5 c0 ⟨e0,e1,he,hp⟩
   rw[Zad,hlm,Zad] at he
   simp +contextual (disch:=omega) only[go_sem,c0,e0,e1,e5,ha.len,hb.len,hp]
   simp[he]
abbrev Yk:Nat:=209
def Yl:Fn1:=⟨39,[.t 6],(rg [oX 3 0,oV 6 (ki 0)] (.seq (rg [oV 7 (ki 0)] (.blk 0 (.lop (.seq (rg [oM 8 7,oF 9 1 3,oL 10 9,oN 11 10,oB 12 .lss 8 11] (cn 12 .skip (.ext 0))) (.seq (.blk 1 (rg [oF 15 1 3,oL 16 15,oM 17 7,oI 18 3 16 17,oF 19 0 18,oL 20 19,oM 21 1,oB 22 .eql 20 21,oM 23 22,jF 24 23 1 3,jL 25 23 24,jM 26 23 7,jI 27 23 3 25 26,jF 28 23 1 27,jL 29 23 28,jM 30 23 2,jB 31 23 .eql 29 30,oQ 32 23 31] (cn 32 (rg [oF 33 1 3,oL 34 33,oM 35 7,oI 36 3 34 35,oF 37 2 36,oL 38 37,oM 6 38] .ret) .skip))) (.reg [oM 13 7,oZ 14 13 1,oM 7 14])))))) (rg [oV 6 (ki 0)] .ret)))⟩
theorem A74:A6 Tryz.prog Yk=some Yl:=by kernel_rfl
abbrev Ym:Nat:=189
def Yn:Fn1:=⟨29,[.t 6],(rg [oX 3 0,oV 6 (ki 0)] (.seq (rg [oF 9 1 3,oL 10 9,oN 11 10,oV 12 (ki 0)] (.blk 0 (.lop (rg [oB 13 .lss 12 11] (.seq (cn 13 .skip (.ext 0)) (.seq (.blk 1 (rg [oI 14 3 10 12,oW 15 3 14,o 8 (.new [s0,z0,z0]),oS 3 8 15] (rg [oF 16 0 8,oL 17 16,oM 18 1,oB 19 .eql 17 18,oM 20 19,jF 21 20 1 8,jL 22 20 21,jM 23 20 2,jB 24 20 .eql 22 23,oQ 25 20 24] (cn 25 (rg [oF 26 2 8,oL 27 26,oM 6 27] .ret) .skip)))) (.reg [oZ 28 12 1,oM 12 28]))))))) (rg [oV 6 (ki 0)] .ret)))⟩
theorem A75:A6 Tryz.prog Ym=some Yn:=by kernel_rfl
abbrev Yo:Nat:=78
def Yp:Fn1:=⟨20,[.t 4],(rg [oX 2 0,o 4 (.mov (.k .nilS))] (rg [o 7 (.lit 1 0 [] []),oM 5 7] (.seq (rg [oV 6 (ki 0)] (.blk 0 (.lop (.seq (rg [oM 8 6,oE 9 .lss 8 3] (cn 9 .skip (.ext 0))) (.seq (.blk 1 (.reg [oM 12 5,oW 13 4 2,oM 14 1,oM 15 6,o 16 (.call 209 [(.t 13),(.t 14),(.t 15)]),o 17 (.lit 1 1 [z0] [(0,1,(.t 16))]),o 18 (.app 1 8 [z0] (.t 12) (.t 17)),oM 5 18])) (.reg [oM 10 6,oZ 11 10 1,oM 6 11])))))) (rg [oM 19 5,oM 4 19] .ret))))⟩
theorem A76:A6 Tryz.prog Yo=some Yp:=by kernel_rfl
abbrev Yq:Nat:=65
def Yr:Fn1:=⟨20,[.t 4],(rg [oX 2 0,o 4 (.mov (.k .nilS))] (rg [o 7 (.lit 1 0 [] []),oM 5 7] (.seq (rg [oV 8 (ki 0)] (.blk 0 (.lop (rg [oE 9 .lss 8 3] (.seq (cn 9 .skip (.ext 0)) (.seq (.blk 1 (rg [oM 10 8,oM 6 10] (.reg [oM 11 5,oW 12 4 2,oM 13 1,oM 14 6,o 15 (.call 189 [(.t 12),(.t 13),(.t 14)]),o 16 (.lit 1 1 [z0] [(0,1,(.t 15))]),o 17 (.app 1 8 [z0] (.t 11) (.t 16)),oM 5 17]))) (.reg [oZ 18 8 1,oM 8 18]))))))) (rg [oM 19 5,oM 4 19] .ret))))⟩
theorem A77:A6 Tryz.prog Yq=some Yr:=by kernel_rfl
def Ez (l:List Tally) (obj:ByteArray) (rep:Int):Int:=match l with
 |[]=>0
 |t::r=>if decide (t.obj=obj)&&(t.rep==rep) then t.sum else Ez r obj rep
theorem Ua {l:List Tally} {obj:ByteArray} {rep:Int} {i:Nat} (hi:i<l.length):Ez (l.drop i) obj rep=if decide (l[i].obj=obj)&&(l[i].rep==rep) then l[i].sum else Ez (l.drop (i+1)) obj rep:=by
 rw[List.drop_eq_getElem_cons hi];rfl
theorem A3t (σ:St) (cs:List GV) (s:State) (hR:A5.R σ s cs) (obj:ByteArray) (rep:Int) (hl:Aa s<=1099511627776):Ret Tryz.prog Yk [.agg cs,.str obj,gi rep] σ (gi (Ez s.tallies obj rep)) σ:=by
 obtain⟨a,v,b,c,rfl,_,h,_,_⟩:=hR
 have hl:s.tallies.length<=1099511627776:=by unfold Aa at hl;omega
 generalize s.tallies=l at h hl ⊢
 refine Ar A74 (Z0z rfl) trivial ?_
 simp +contextual (disch:=omega) only[go_sem,Yl]
 refine Ce l.length 7 (fun i env τ=>env 1= .str obj/\env 2=gi rep/\env 3= .ptr σ.length 0/\Ez (l.drop i) obj rep=Ez l obj rep/\σ++[some (.row 1 [a,v,b,c])] <+: τ) rfl ⟨rfl,rfl,rfl,rfl,Zan _⟩ ?_ ?_
 ·rintro i env τ hi e7 c0 ⟨e1,e2,e3,ht,hp⟩
  have h1:=h.pre (C3 hp)
  rw[Ua hi] at ht
  simp +contextual (disch:=omega) only[go_sem,c0,e1,e2,e3,e7,A9 (Ic hp),h.len,Ae h1 hi,hp,C3 hp]
  grind
 ·rintro env τ e7 c0 ⟨e1,e2,e3,ht,hp⟩
  rw[Za4] at ht
  simp +contextual (disch:=omega) only[go_sem,c0,e1,e2,e3,e7,A9 (Ic hp),h.len,hp,C3 hp]
  exact ht
theorem A3u (σ:St) (cs:List GV) (s:State) (hR:A5.R σ s cs) (obj:ByteArray) (rep:Int) (hl:Aa s<=1099511627776):Ret Tryz.prog Ym [.agg cs,.str obj,gi rep] σ (gi (Ez s.tallies obj rep)) σ:=by
 obtain⟨a,v,b,c,rfl,_,h,_,_⟩:=hR
 have hl:s.tallies.length<=1099511627776:=by unfold Aa at hl;omega
 generalize s.tallies=l at h hl ⊢
 refine Ar A75 (Z0z rfl) trivial ?_
 simp +contextual (disch:=omega) only[go_sem,Yn,h.len]
 refine Ce l.length 12 (fun i env τ=>env 1= .str obj/\env 2=gi rep/\env 10=v/\env 11=gi l.length/\Ez (l.drop i) obj rep=Ez l obj rep/\σ <+: τ) rfl ⟨rfl,rfl,rfl,rfl,rfl,pre1 _ _⟩ ?_ ?_
 ·rintro i env τ hi e12 c0 ⟨e1,e2,e10,e11,ht,hp⟩
  have h1:=h.pre hp
  rw[Ua hi] at ht
  simp +contextual (disch:=omega) only[go_sem,c0,e1,e2,e10,e11,e12,h.len,Ae h1 hi,A3 hp]
  grind
 ·rintro env τ e12 c0 ⟨e1,e2,e10,e11,ht,hp⟩
  rw[Za4] at ht
  simp +contextual (disch:=omega) only[go_sem,c0,e1,e2,e10,e11,e12,h.len,hp]
  exact ht
def Je (l:List Tally) (obj:ByteArray):List Int:=[Ez l obj 0,Ez l obj 1,Ez l obj 2]
theorem Ub {l:List Tally} {obj:ByteArray} {i:Nat} (hi:i<3):(Je l obj).take i++[Ez l obj i]=(Je l obj).take (i+1):=by
 rcases i with _|_|_|i
 ·rfl
 ·rfl
 ·rfl
 ·omega
theorem A3v (σ:St) (cs:List GV) (s:State) (hR:A5.R σ s cs) (obj:ByteArray) (hl:Aa s<=1099511627776) (ho:obj.size<=1099511627776):∃ r τ,Ret Tryz.prog Yo [.agg cs,.str obj] σ r τ/\σ <+: τ/\RS pI.kd τ r (Je s.tallies obj):=by
 have hlen:cs.length=4:=A5.len hR
 refine Ad0 A76 (Z0z rfl) ?_
 have H:=(Hp.refl (σ++[some (.row 1 cs)])).nil_int
 simp +contextual (disch:=omega) only[go_sem,Yp]
 refine Ce 3 6 (fun i env τ=>env 1= .str obj/\env 2= .ptr σ.length 0/\Hp (σ++[some (.row 1 cs)]) τ [ow pI.kd (env 5) ((Je s.tallies obj).take i)]) rfl ⟨rfl,rfl,H⟩ ?_ ?_
 ·rintro i env τ hi e6 c0 ⟨e1,e2,H⟩
  have c0:decide ((i:Int)<3)=true:=c0
  simp +contextual (disch:=omega) only[go_sem,c0,e1,e2,e6,A9 (Ic H.sub),A4 hlen]
  refine Af (A3t τ cs s (A5.pre hR (C3 H.sub)) obj i hl) ?_
  obtain⟨v',τ',e,H⟩:=H.app_int 0 rfl (Ez s.tallies obj i) (by simp[Je];omega)
  rw[Ub hi] at H
  simp +contextual (disch:=omega) only[go_sem,e1,e2,e6,e]
  exact H
 ·rintro env τ e6 c0 ⟨e1,e2,H⟩
  have c0:decide ((3:Int)<3)=false:=c0
  simp +contextual (disch:=omega) only[go_sem,c0,e1,e2,e6]
  exact⟨_,rfl,C3 H.sub,H.sl 0 rfl⟩
theorem A3w (σ:St) (cs:List GV) (s:State) (hR:A5.R σ s cs) (obj:ByteArray) (hl:Aa s<=1099511627776) (ho:obj.size<=1099511627776):∃ r τ,Ret Tryz.prog Yq [.agg cs,.str obj] σ r τ/\Hp σ τ [ow pI.kd r (Je s.tallies obj)]:=by
 have hlen:cs.length=4:=A5.len hR
 refine A4j (rs:=fun r=>[ow pI.kd r (Je s.tallies obj)]) A77 (Z0z rfl) ?_
 have H:=(Hp.refl (σ++[some (.row 1 cs)])).nil_int
 simp +contextual (disch:=omega) only[go_sem,Yr]
 refine Ce 3 8 (fun i env τ=>env 1= .str obj/\env 2= .ptr σ.length 0/\Hp (σ++[some (.row 1 cs)]) τ [ow pI.kd (env 5) ((Je s.tallies obj).take i)]) rfl ⟨rfl,rfl,H⟩ ?_ ?_
 ·rintro i env τ hi e8 c0 ⟨e1,e2,H⟩
  have c0:decide ((i:Int)<3)=true:=c0
  simp +contextual (disch:=omega) only[go_sem,c0,e1,e2,e8,A9 (Ic H.sub),A4 hlen]
  refine Af (A3u τ cs s (A5.pre hR (C3 H.sub)) obj i hl) ?_
  obtain⟨v',τ',e,H⟩:=H.app_int 0 rfl (Ez s.tallies obj i) (by simp[Je];omega)
  rw[Ub hi] at H
  simp +contextual (disch:=omega) only[go_sem,e1,e2,e8,e]
  exact H
 ·rintro env τ e8 c0 ⟨e1,e2,H⟩
  have c0:decide ((3:Int)<3)=false:=c0
  simp +contextual (disch:=omega) only[go_sem,c0,e1,e2,e8]
  exact⟨_,rfl,H.rebase (pre1 _ _)⟩
abbrev Qc:Nat:=81
def Qd:Fn1:=⟨28,[.t 2],(rg [oX 1 0,oV 2 (ki 0)] (.seq (rg [oW 5 4 1,oC 6 199 5,oU 7 6] (cn 7 (rg [o 2 (.mov (ki (-1)))] .ret) .skip)) (rg [oV 3 (ki 0)] (.seq (rg [oV 4 (ki 1)] (.blk 0 (.lop (.seq (rg [oM 8 4,oF 9 0 1,oL 10 9,oN 11 10,oB 12 .lss 8 11] (cn 12 .skip (.ext 0))) (.seq (.blk 1 (dw [oF 15 0 1,oL 16 15,oM 17 4,oI 18 1 16 17,oL 19 18,oF 20 0 1,oL 21 20,oM 22 3,oI 23 1 21 22,oL 24 23] [oB 25 .gtr 19 24] (cn 25 (.reg [oM 26 4,oM 3 26]) .skip))) (.reg [oM 13 4,oZ 14 13 1,oM 4 14])))))) (rg [oM 27 3,oM 2 27] .ret)))))⟩
theorem Zo:A6 Tryz.prog Qc=some Qd:=by kernel_rfl
abbrev Qe:Nat:=69
def Qf:Fn1:=⟨12,[.t 2],(rg [oX 1 0,oV 2 (ki 0)] (.seq (rg [oW 3 4 1,oC 4 195 3,oU 5 4] (cn 5 (rg [o 2 (.mov (ki (-1)))] .ret) .skip)) (dw [oF 6 0 1,oL 7 6,oF 8 0 1,oL 9 8,oC 10 197 9] [oD 11 196 7 10,oM 2 11] .ret)))⟩
theorem Zp:A6 Tryz.prog Qe=some Qf:=by kernel_rfl
abbrev Eg:Nat:=197
def Gz:Fn1:=⟨25,[.t 2],(rg [oV 2 (ki 0)] (.seq (rg [oM 5 0,oN 6 5,oE 7 .lss 6 1] (cn 7 (.reg [o 8 (.pan),on (.pan)]) .skip)) (rg [oM 9 0,o 10 (.iad 1 (.t 9) (ki 0)),oL 11 10,oM 3 11] (.seq (rg [oV 4 (ki 1)] (.blk 0 (.lop (.seq (rg [oM 12 4,oM 13 0,oN 14 13,oB 15 .lss 12 14] (cn 15 .skip (.ext 0))) (.seq (.blk 1 (.reg [oM 18 3,oM 19 0,oM 20 4,oI 21 1 19 20,oL 22 21,o 23 (.mm true (.t 18) (.t 22)),oM 3 23])) (.reg [oM 16 4,oZ 17 16 1,oM 4 17])))))) (rg [oM 24 3,oM 2 24] .ret)))))⟩
theorem Mh:A6 Tryz.prog Eg=some Gz:=by kernel_rfl
abbrev G3:Nat:=196
def G4:Fn1:=⟨19,[.t 4],(rg [oV 4 (ki 0)] (.seq (rg [oM 6 0,oN 7 6,oV 8 (ki 0)] (.blk 0 (.lop (rg [oB 9 .lss 8 7] (.seq (cn 9 .skip (.ext 0)) (.seq (.blk 1 (rg [oM 10 8,oM 5 10] (rg [oM 11 1,oM 12 0,oM 13 5,oI 14 1 12 13,oL 15 14,oB 16 .eql 11 15] (cn 16 (rg [oM 17 5,oM 4 17] .ret) .skip)))) (.reg [oZ 18 8 1,oM 8 18]))))))) (rg [o 4 (.mov (ki (-1)))] .ret)))⟩
theorem Kw:A6 Tryz.prog G3=some G4:=by kernel_rfl
theorem Aeg {P:Program} {a:Cd} {Q:Ex->Env->St->Prop} {env:Env} {σ:St} (m n ri:Nat) (hmn:m<=n) (I:Nat->Env->St->Prop) (hr:env ri=gi m) (h0:I m env σ)
  (hs:∀ i env σ,m≤i->i<n->env ri=gi i->decide ((i:Int)<n)=true->I i env σ->vc P a (fun e env' σ'=>match e with| .nxt=>env' ri=gi ((i:Int)+1)/\I (i+1) env' σ'|e=>Q e env' σ') env σ)
  (he:∀ env σ,env ri=gi n->decide ((n:Int)<n)=false->I n env σ->vc P a (fun e env' σ'=>match e with| .nxt=>False|e=>Q e env' σ') env σ):vc P (.lop a) Q env σ:=by
 refine Sm (fun k env σ=>∃ i:Nat,k=n - i/\m<=i/\i<=n/\env ri=gi i/\I i env σ) (n - m) ⟨m,rfl,Zab _,hmn,hr,h0⟩ ?_
 rintro k env σ ⟨i,rfl,hm,hi,h1,h2⟩
 rcases Zac i n with hlt|hge
 ·refine B4 (hs i env σ hm hlt h1 (by simp;omega) h2) fun e env' σ' he=> ?_
  cases e with
  |nxt=>
   obtain⟨h3,h4⟩:=he
   exact⟨n - (i+1),by omega,i+1,rfl,by omega,hlt,h3,h4⟩
  |ext j=>exact he
  |ret=>exact he
 ·obtain rfl:i=n:=by omega
  refine B4 (he env σ h1 (by simp) h2) fun e env' σ' he=> ?_
  cases e with
  |nxt=>exact he.elim
  |ext j=>exact he
  |ret=>exact he
def busy (l:List Int):Option Nat:=l.findIdx? fun x=>l.all fun y=>decide (y<=x)
theorem Aid {l:List Int} {b:Nat} (hb:b<l.length) (h1:∀ j (hj:j<l.length),l[j]<=l[b]) (h2:∀ j (hj:j<b),l[j]<l[b]):busy l=some b:=by
 unfold busy
 rw[Zam]
 refine⟨hb,?_,fun j hj=> ?_⟩
 ·rw[Zat]
  intro y hy
  obtain⟨j,hj,rfl⟩:=Zao hy
  simpa using h1 j hj
 ·intro h
  rw[Zat] at h
  have:=h l[b] (Zaa hb)
  have h3:=h2 j hj
  simp only[decide_eq_true_eq] at this
  omega
theorem Zq (σ:St) (v:GV) (l:List Int) (h:RS pI.kd σ v l) (hl:l.length<=1099511627776) (h0:0<l.length):∃ r,Ret Tryz.prog Eg [v] σ r σ/\∃ m,r=gi m/\m∈l/\∀ x∈l,x≤m:=by
 have key:∃ r,Ret Tryz.prog Eg [v] σ r σ/\(vLt σ.length r->True)/\∃ m,r=gi m/\m∈l/\∀ x∈l,x≤m:=by
  refine(ret_ex (Post:=fun r=>(vLt σ.length r->True)/\∃ m,r=gi m/\m∈l/\∀ x∈l,x≤m) Mh (Z0z rfl) ?_)
  have c1:decide ((l.length:Int)<1)=false:=by simp;omega
  have i0:=Cc h h0
  have n0:B8 (some (.int .i64 0))=some 0:=rfl
  simp +contextual (disch:=omega) only[go_sem,Gz,h.len,c1,n0,i0]
  refine Aeg 1 l.length 4 h0 (fun i env τ=>env 0=v/\σ=τ/\∃ m,env 3=gi m/\m∈l/\∀ j (hj:j<i) (hl:j<l.length),l[j]<=m) rfl ⟨rfl,rfl,l[0],rfl,Zaa h0,fun j hj hl=>by
   have:j=0:=by omega
   subst this;exact Zax _⟩ ?_ ?_
  ·rintro i env τ hm hi e4 c0 ⟨e0,rfl,m,e3,hml,ha⟩
   simp +contextual (disch:=omega) only[go_sem,c0,e0,e3,e4,h.len,Cc h hi]
   refine⟨_,rfl,?_,fun j hj hl=> ?_⟩
   ·split
    ·exact Zaa hi
    ·exact hml
   ·rcases Zac j i with h2|h2
    ·have:=ha j h2 hl
     split<;>omega
    ·have:j=i:=by omega
     subst this
     split<;>omega
  ·rintro env τ e4 c0 ⟨e0,rfl,m,e3,hml,ha⟩
   simp +contextual (disch:=omega) only[go_sem,c0,e0,e3,e4,h.len]
   refine⟨_,rfl,trivial,m,rfl,hml,fun x hx=> ?_⟩
   obtain⟨j,hj,rfl⟩:=Zao hx
   exact ha j hj hj
 obtain⟨r,R,_,h⟩:=key
 exact⟨r,R,h⟩
def ixOf (l:List Int) (x:Int):Int:=match l.findIdx? fun y=>decide (y=x) with
 |some k=>k
 |none=> -1
theorem Ur (σ:St) (v:GV) (l:List Int) (x:Int) (h:RS pI.kd σ v l) (hl:l.length<=1099511627776):Ret Tryz.prog G3 [v,gi x] σ (gi (ixOf l x)) σ:=by
 refine Ar Kw (Z0z rfl) trivial ?_
 simp +contextual (disch:=omega) only[go_sem,G4,h.len]
 refine Ce l.length 8 (fun i env τ=>env 0=v/\env 1=gi x/\env 6=v/\env 7=gi l.length/\(∀ j (hj:j<i) (hl:j<l.length),l[j]≠x)/\σ <+: τ) rfl ⟨rfl,rfl,rfl,rfl,fun j hj=>by omega,Zan _⟩ ?_ ?_
 ·rintro i env τ hi e8 c0 ⟨e0,e1,e6,e7,ha,hp⟩
  simp +contextual (disch:=omega) only[go_sem,c0,e0,e1,e6,e7,e8,Cc (h.pre hp) hi,hp]
  refine⟨fun hx=> ?_,fun hx j hj hl=> ?_⟩
  ·have hx:x=l[i]:=by simpa using hx
   have hq:l.findIdx? (fun y=>decide (y=x))=some i:=Zam.2 ⟨hi,by simp[hx],fun j hj=>by simp[ha j hj (by omega)]⟩
   simp[ixOf,hq]
  ·rcases Zac j i with h2|h2
   ·exact ha j h2 hl
   ·have:j=i:=by omega
    subst this
    have:x≠l[j]:=by simpa using hx
    exact fun e=>this e.symm
 ·rintro env τ e8 c0 ⟨e0,e1,e6,e7,ha,hp⟩
  have hq:l.findIdx? (fun y=>decide (y=x))=none:=by
   rw[List.findIdx?_eq_none_iff]
   intro y hy
   obtain⟨j,hj,rfl⟩:=Zao hy
   simpa using ha j hj hj
  simp +contextual (disch:=omega) only[go_sem,c0,e0,e1,e6,e7,e8,hp]
  simp[ixOf,hq]
theorem A1s {α:Type} {p q:α->Bool}:∀ {l:List α},(∀ x∈l,p x=q x)->l.findIdx? p=l.findIdx? q
 |[],_=>rfl
 |x::l,h=>by
  rw[Zaz,Zaz,h x Zap,A1s fun y hy=>h y (List.mem_cons_of_mem _ hy)]
theorem Ag1 {l:List Int} {m:Int} (hm:m∈l) (ha:∀ x∈l,x≤m):busy l=l.findIdx? fun y=>decide (y=m):=by
 unfold busy
 refine A1s fun x hx=> ?_
 rw[Bool.eq_iff_iff,Zat]
 simp only[decide_eq_true_eq]
 constructor
 ·intro h
  have:=h m hm
  have:=ha x hx
  omega
 ·rintro rfl y hy
  exact ha y hy
def bust (s:State):Int:=if Au s then(match busy s.know with|some b=>(b:Int)|none=> -1) else -1
theorem Ys (σ:St) (cs:List GV) (s:State) (hR:A5.R σ s cs) (hl:Aa s<=1099511627776):Ret Tryz.prog Qc [.agg cs] σ (gi (bust s)) σ:=by
 have hR0:=hR
 have hlen:cs.length=4:=A5.len hR
 have hsg:=A4 hlen
 obtain⟨a,b,c,v,rfl,hk,_,_,_⟩:=hR
 obtain⟨l1,_⟩:=Av hl
 refine Ar Zo (Z0z rfl) trivial ?_
 simp +contextual (disch:=omega) only[go_sem,Qd]
 refine Ac (C7 _ _ s (A5.pre hR0 (pre1 _ _)) hl) (fun h1=> ?_) (fun h1=> ?_)
 rotate_left
 ·simp +contextual (disch:=omega) only[go_sem]
  simp[bust,h1]
 have h3:s.know.length=3:=Cw (by simp only[Au,Zae] at h1;exact h1.1)
 simp +contextual (disch:=omega) only[go_sem]
 refine Aeg 1 s.know.length 4 (by omega) (fun i env τ=>env 1= .ptr σ.length 0/\σ++[some (.row 1 [a,b,c,v])] <+: τ/\∃ q:Nat,env 3=gi q/\∃ hq:q<s.know.length,q<i/\(∀ j (hj:j<i) (hl:j<s.know.length),s.know[j]<=s.know[q])/\∀ j (hj:j<q),s.know[j]<s.know[q]) rfl ⟨rfl,Zan _,0,rfl,by omega,by omega,fun j hj hl=>by
   have:j=0:=by omega
   subst this;exact Zax _,fun j hj=>by omega⟩ ?_ ?_
 ·rintro i env τ hm hi e4 c0 ⟨e1,hp,q,e3,hq,hqi,ha,hb⟩
  have hkk:=hk.pre (C3 hp)
  simp +contextual (disch:=omega) only[go_sem,c0,e1,e3,e4,A9 (Ic hp),hkk.len,Cc hkk hi,Cc hkk hq,hp]
  refine⟨fun hx=>⟨i,rfl,hi,by omega,fun j hj hl=> ?_,fun j hj=> ?_⟩,fun hx=>⟨q,rfl,hq,by omega,fun j hj hl=> ?_,hb⟩⟩
  ·have hx:=of_decide_eq_true hx
   rcases Zac j i with h2|h2
   ·have:=ha j h2 hl;omega
   ·have:j=i:=by omega
    subst this;exact Zax _
  ·have hx:=of_decide_eq_true hx
   have:=ha j hj (by omega)
   omega
  ·have hx:=of_decide_eq_false hx
   rcases Zac j i with h2|h2
   ·exact ha j h2 hl
   ·have:j=i:=by omega
    subst this;omega
 ·rintro env τ e4 c0 ⟨e1,hp,q,e3,hq,hqi,ha,hb⟩
  have hkk:=hk.pre (C3 hp)
  have hbu:=Aid hq (fun j hj=>ha j hj hj) hb
  simp +contextual (disch:=omega) only[go_sem,c0,e1,e3,e4,A9 (Ic hp),hkk.len,C3 hp]
  simp[bust,h1,hbu]
theorem Yt (σ:St) (cs:List GV) (s:State) (hR:A5.R σ s cs) (hl:Aa s<=1099511627776):Ret Tryz.prog Qe [.agg cs] σ (gi (bust s)) σ:=by
 have hR0:=hR
 obtain⟨a,b,c,v,rfl,hk,_,_,_⟩:=hR
 obtain⟨l1,_⟩:=Av hl
 have hkk:=hk.pre (pre1 σ (some (Blk.row 1 [a,b,c,v])))
 refine Ar Zp (Z0z rfl) trivial ?_
 simp +contextual (disch:=omega) only[go_sem,Qf]
 refine Ac (Pf _ _ s (A5.pre hR0 (pre1 _ _)) hl) (fun h1=> ?_) (fun h1=> ?_)
 rotate_left
 ·simp +contextual (disch:=omega) only[go_sem]
  simp[bust,h1]
 have h3:s.know.length=3:=Cw (by simp only[Au,Zae] at h1;exact h1.1)
 simp +contextual (disch:=omega) only[go_sem]
 obtain⟨_,R,m,rfl,hm,ha⟩:=Zq _ a s.know hkk l1 (by omega)
 refine Af R ?_
 simp +contextual (disch:=omega) only[go_sem]
 refine Af (Ur _ a s.know m hkk l1) ?_
 simp +contextual (disch:=omega) only[go_sem]
 simp only[bust,h1,if_true,ixOf,Ag1 hm ha]
namespace O
open Go Go.RowKit Go.Proofs.YtbeoiejnogdkpaaGreat.Sy Go.Sort
variable {α:Type} [Inhabited α] {lt:α->α->Bool} {σ0 σ:St} {rs:List Thg} {k:Nat} {v:GV} {d:Array α}
theorem ins_ret (S:SrtO α lt) (H:Holds S.e σ0 σ rs k v d) {a b:Nat} (hab:a<=b) (hb:b<=d.size) (hs:d.size<=1099511627776):∃ τ,Ret Tryz.prog S.q.insertionSort [v,gi a,gi b] σ (.tup []) τ/\Holds S.e σ0 τ rs k v (insertionSort lt d a b):=by
 have key:∃ r τ,Ret Tryz.prog S.q.insertionSort [v,gi a,gi b] σ r τ/\r= .tup []/\Holds S.e σ0 τ rs k v (insertionSort lt d a b):=by
  refine Bc S.h_insertionSort (Z0z rfl) ?_
  simp +contextual (disch:=omega) only[go_sem,Jp]
  refine Cj (fun n env τ=>∃(i:Nat) (D:Array α),env 0=v/\env 1=gi a/\env 2=gi b/\env 6=gi i/\b - i=n/\a<i/\D.size=d.size/\σ.length<=τ.length/\Holds S.e σ0 τ rs k v D/\insOuter lt a b i D=insertionSort lt d a b) (b - (a+1)) ⟨a+1,d,rfl,rfl,rfl,rfl,rfl,by omega,rfl,Zab _,H,rfl⟩ ?_
  rintro J hJ n env τ ⟨i,D,e0,e1,e2,ei,hn,hai,hD,hle,hH,hE⟩
  rw[insOuter] at hE
  rcases Zac i b with hi|hi
  ·rw[if_pos hi] at hE
   have c0:decide ((i:Int)<b)=true:=by simp;omega
   simp +contextual (disch:=omega) only[go_sem,e0,e1,e2,ei,c0]
   refine Cj (fun n env τ=>∃(j:Nat) (E:Array α),env 0=v/\env 1=gi a/\env 2=gi b/\env 6=gi i/\env 7=gi j/\j=n/\j<=i/\E.size=d.size/\σ.length<=τ.length/\Holds S.e σ0 τ rs k v E/\insInner lt a j E=insInner lt a i D) i ⟨i,D,by simp +contextual (disch:=omega) only[go_sem,e0],by simp +contextual (disch:=omega) only[go_sem,e1],by simp +contextual (disch:=omega) only[go_sem,e2],by simp +contextual (disch:=omega) only[go_sem,ei],rfl,rfl,Zab _,hD,hle,hH,rfl⟩ ?_
   clear hH hle e0 e1 e2 ei
   rintro J2 hJ2 n2 env τ ⟨j,E,e0,e1,e2,ei,ej,hnj,hji,hE2,hle,hH,hI⟩
   have fin:∀ env',env' 0=v->env' 1=gi a->env' 2=gi b->env' 6=gi ((i:Int)+1)->insInner lt a i D=E->∃ k',k'<n/\J k' env' τ:=fun env' h0 h1 h2 h6 hEq=>⟨b - (i+1),by omega,hJ _ _ _ ⟨i+1,E,h0,h1,h2,h6,rfl,by omega,hE2,hle,hH,by rw[<- hEq];exact hE⟩⟩
   have cj:decide ((a:Int)<j)=decide (a<j):=by simp
   by_cases hc:a<j
   ·obtain⟨m,rfl⟩:∃ m,j=m+1:=⟨j - 1,by omega⟩
    rw[decide_eq_true hc] at cj
    have cj:decide ((a:Int)<(m:Int)+1)=true:=cj
    have n1:B8 (some (.int .i64 ((m:Int)+1)))=some (m+1):=Bd (by simp)
    have m1:(m:Int)+1 - 1=m:=by omega
    obtain⟨τ1,τ2,s1,s2,hH2,hl2⟩:=hH.sw (a:=m+1) (b:=m) (by omega) (by omega)
    rw[insInner] at hI
    simp +contextual (disch:=omega) only[go_sem,e0,e1,e2,ei,ej,cj,n1,m1,A0,hH.iad (j:=m+1) (by omega),hH.ld (j:=m+1) (by omega),hH.iad (j:=m) (by omega),hH.ld (j:=m) (by omega)]
    refine Af (S.call _ _ _) ?_
    cases hl:lt E[m+1]! E[m]! with
    |true=>
     rw[if_pos (by simp[hl];omega)] at hI
     simp +contextual (disch:=omega) only[go_sem,e0,e1,e2,ei,ej,cj,n1,m1,A0,hl,hH.iad (j:=m+1) (by omega),hH.ld (j:=m+1) (by omega),hH.iad (j:=m) (by omega),hH.ld (j:=m) (by omega),s1,s2]
     refine⟨m,by omega,hJ2 _ _ _ ⟨m,swp E (m+1) m,?_,?_,?_,?_,?_,rfl,by omega,by rw[Go.Sort.swp_size];exact hE2,by omega,hH2,hI⟩⟩
     all_goals simp +contextual (disch:=omega) only[go_sem,e0,e1,e2,ei,ej,m1]
    |false=>
     rw[if_neg (by simp[hl])] at hI
     simp +contextual (disch:=omega) only[go_sem,e0,e1,e2,ei,ej,cj,hl,]
     refine fin _ ?_ ?_ ?_ ?_ hI.symm
     all_goals simp +contextual (disch:=omega) only[go_sem,e0,e1,e2,ei]
   ·rw[decide_eq_false hc] at cj
    have hI:insInner lt a i D=E:=by
     rw[<- hI]
     cases j with
     |zero=>rfl
     |succ j=>rw[insInner,if_neg (by simp;intro h;omega)]
    simp +contextual (disch:=omega) only[go_sem,e0,e1,e2,ei,ej,cj]
    refine fin _ ?_ ?_ ?_ ?_ hI
    all_goals simp +contextual (disch:=omega) only[go_sem,e0,e1,e2,ei]
  ·rw[if_neg (by omega)] at hE
   have c0:decide ((i:Int)<b)=false:=by simp;omega
   simp +contextual (disch:=omega) only[go_sem,e0,e1,e2,ei,c0]
   exact⟨_,rfl,hle,rfl,by rw[<- hE];exact hH⟩
 obtain⟨r,τ,R,rfl,h⟩:=key
 exact⟨τ,R,h⟩
end O
namespace O
open Go Go.RowKit Go.Proofs.YtbeoiejnogdkpaaGreat.Sy Go.Sort
variable {α:Type} [Inhabited α] {lt:α->α->Bool} {σ0 σ:St} {rs:List Thg} {k:Nat} {v:GV} {d:Array α}
theorem siftDown_size (lt:α->α->Bool) (hi F:Nat):∀(n root:Nat) (d:Array α),hi - root<=n->(siftDown lt hi F root d).size=d.size
 |0,root,d,h=>by rw[siftDown,dif_pos (by omega)]
 |n+1,root,d,h=>by
  rw[siftDown]
  split
  ·rfl
  ·split
   ·split
    ·rfl
    ·split
     ·rw[siftDown_size lt hi F n _ _ (by omega),Go.Sort.swp_size]
     ·rfl
   ·split
    ·rfl
    ·rw[siftDown_size lt hi F n _ _ (by omega),Go.Sort.swp_size]
theorem sift_ret (S:SrtO α lt) (H:Holds S.e σ0 σ rs k v d) {lo hi F:Nat} (hb:F+hi<=d.size) (hlo:lo<=d.size) (hs:d.size<=1099511627776):∃ τ,Ret Tryz.prog S.q.siftDown [v,gi lo,gi hi,gi F] σ (.tup []) τ/\Holds S.e σ0 τ rs k v (siftDown lt hi F lo d):=by
 have key:∃ r τ,Ret Tryz.prog S.q.siftDown [v,gi lo,gi hi,gi F] σ r τ/\r= .tup []/\Holds S.e σ0 τ rs k v (siftDown lt hi F lo d):=by
  refine Bc S.h_siftDown (Z0z rfl) ?_
  simp +contextual (disch:=omega) only[go_sem,Tc]
  refine Cj (fun n env τ=>∃(r:Nat) (D:Array α),env 0=v/\env 1=gi lo/\env 2=gi hi/\env 3=gi F/\env 8=gi r/\hi - r=n/\r<=d.size/\D.size=d.size/\σ.length<=τ.length/\Holds S.e σ0 τ rs k v D/\siftDown lt hi F r D=siftDown lt hi F lo d) (hi - lo) ⟨lo,d,rfl,rfl,rfl,rfl,rfl,rfl,hlo,rfl,Zab _,H,rfl⟩ ?_
  rintro J hJ n env τ ⟨r,D,e0,e1,e2,e3,er,hn,hr,hD,hle,hH,hE⟩
  rw[siftDown] at hE
  have w2:IntKind.i64.wrap (2*(r:Int))=2*(r:Int):=Ff (by omega) (by omega)
  by_cases h1:2*r+1≥hi
  ·rw[dif_pos h1] at hE
   have c1:decide ((hi:Int)<=2*(r:Int)+1)=true:=by simp;omega
   simp +contextual (disch:=omega) only[go_sem,e0,e1,e2,e3,er,w2,c1]
   exact⟨_,rfl,hle,rfl,by rw[<- hE];exact hH⟩
  ·rw[dif_neg h1] at hE
   have c1:decide ((hi:Int)<=2*(r:Int)+1)=false:=by simp;omega
   have nr:B8 (some (.int .i64 ((F:Int)+r)))=some (F+r):=Bd (by simp)
   have ir:=hH.iad (j:=F+r) (by omega)
   have lr:=hH.ld (j:=F+r) (by omega)
   by_cases hA:2*r+2<hi
   ·have cA:decide (2*(r:Int)+1+1<hi)=true:=by simp;omega
    have nc:B8 (some (.int .i64 ((F:Int)+(2*(r:Int)+1))))=some (F+(2*r+1)):=Bd (by simp)
    have nc2:B8 (some (.int .i64 ((F:Int)+(2*(r:Int)+1)+1)))=some (F+(2*r+1)+1):=Bd (by simp)
    have ic:=hH.iad (j:=F+(2*r+1)) (by omega)
    have lc:=hH.ld (j:=F+(2*r+1)) (by omega)
    have ic2:=hH.iad (j:=F+(2*r+1)+1) (by omega)
    have lc2:=hH.ld (j:=F+(2*r+1)+1) (by omega)
    simp +contextual (disch:=omega) only[go_sem,e0,e1,e2,e3,er,w2,c1,cA,nc,nc2,ic,lc,ic2,lc2]
    refine Af (S.call _ _ _) ?_
    cases hl1:lt D[F+(2*r+1)]! D[F+(2*r+1)+1]! with
    |true=>
     clear nc ic lc
     rw[if_pos (by simp[hl1];omega)] at hE
     rw[dif_pos hA] at hE
     obtain⟨c,hc⟩:∃ c,c=2*r+2:=⟨_,rfl⟩
     rw[<- hc] at hE
     have ncI:2*(r:Int)+1+1=c:=by omega
     have nc:B8 (some (.int .i64 ((F:Int)+c)))=some (F+c):=Bd (by simp)
     have ic:=hH.iad (j:=F+c) (by omega)
     have lc:=hH.ld (j:=F+c) (by omega)
     simp +contextual (disch:=omega) only[go_sem,e0,e1,e2,e3,er,w2,cA,nr,nc,ncI,hl1,ir,lr,ic,lc]
     obtain⟨τ1,τ2,s1,s2,hH2,hl2⟩:=hH.sw (a:=F+r) (b:=F+c) (by omega) (by omega)
     refine Af (S.call _ _ _) ?_
     cases hl:lt D[F+r]! D[F+c]! with
     |true=>
      rw[if_neg (by simp[hl])] at hE
      simp +contextual (disch:=omega) only[go_sem,e0,e1,e2,e3,er,w2,c1,cA,nr,nc,ncI,hl,ir,lr,ic,lc,s1,s2]
      refine⟨hi - c,by omega,hJ _ _ _ ⟨c,swp D (F+r) (F+c),?_,?_,?_,?_,?_,rfl,by omega,by rw[Go.Sort.swp_size];exact hD,by omega,hH2,hE⟩⟩
      all_goals simp +contextual (disch:=omega) only[go_sem,e0,e1,e2,e3,er,ncI]
     |false=>
      rw[if_pos (by simp[hl])] at hE
      simp +contextual (disch:=omega) only[go_sem,e0,e1,e2,e3,er,hl]
      exact⟨_,rfl,hle,rfl,by rw[<- hE];exact hH⟩
    |false=>
     rw[if_neg (by simp[hl1])] at hE
     obtain⟨c,hc⟩:∃ c,c=2*r+1:=⟨_,rfl⟩
     rw[<- hc] at hE ic lc
     have ncI:2*(r:Int)+1=c:=by omega
     rw[<- hc,ncI] at nc
     simp +contextual (disch:=omega) only[go_sem,e0,e1,e2,e3,er,w2,cA,nr,nc,ncI,hl1,ir,lr,ic,lc]
     obtain⟨τ1,τ2,s1,s2,hH2,hl2⟩:=hH.sw (a:=F+r) (b:=F+c) (by omega) (by omega)
     refine Af (S.call _ _ _) ?_
     cases hl:lt D[F+r]! D[F+c]! with
     |true=>
      rw[if_neg (by simp[hl])] at hE
      simp +contextual (disch:=omega) only[go_sem,e0,e1,e2,e3,er,w2,c1,cA,nr,nc,ncI,hl,ir,lr,ic,lc,s1,s2]
      refine⟨hi - c,by omega,hJ _ _ _ ⟨c,swp D (F+r) (F+c),?_,?_,?_,?_,?_,rfl,by omega,by rw[Go.Sort.swp_size];exact hD,by omega,hH2,hE⟩⟩
      all_goals simp +contextual (disch:=omega) only[go_sem,e0,e1,e2,e3,er,ncI]
     |false=>
      rw[if_pos (by simp[hl])] at hE
      simp +contextual (disch:=omega) only[go_sem,e0,e1,e2,e3,er,hl]
      exact⟨_,rfl,hle,rfl,by rw[<- hE];exact hH⟩
   ·have cA:decide (2*(r:Int)+1+1<hi)=false:=by simp;omega
    rw[if_neg (by simp;intro h;omega)] at hE
    obtain⟨c,hc⟩:∃ c,c=2*r+1:=⟨_,rfl⟩
    rw[<- hc] at hE
    have ncI:2*(r:Int)+1=c:=by omega
    have nc:B8 (some (.int .i64 ((F:Int)+c)))=some (F+c):=Bd (by simp)
    have ic:=hH.iad (j:=F+c) (by omega)
    have lc:=hH.ld (j:=F+c) (by omega)
    rw[ncI] at c1 cA
    simp +contextual (disch:=omega) only[go_sem,e0,e1,e2,e3,er,w2,c1,cA,nr,nc,ncI,ir,lr,ic,lc]
    obtain⟨τ1,τ2,s1,s2,hH2,hl2⟩:=hH.sw (a:=F+r) (b:=F+c) (by omega) (by omega)
    refine Af (S.call _ _ _) ?_
    cases hl:lt D[F+r]! D[F+c]! with
    |true=>
     rw[if_neg (by simp[hl])] at hE
     simp +contextual (disch:=omega) only[go_sem,e0,e1,e2,e3,er,w2,c1,cA,nr,nc,ncI,hl,ir,lr,ic,lc,s1,s2]
     refine⟨hi - c,by omega,hJ _ _ _ ⟨c,swp D (F+r) (F+c),?_,?_,?_,?_,?_,rfl,by omega,by rw[Go.Sort.swp_size];exact hD,by omega,hH2,hE⟩⟩
     all_goals simp +contextual (disch:=omega) only[go_sem,e0,e1,e2,e3,er,ncI]
    |false=>
     rw[if_pos (by simp[hl])] at hE
     simp +contextual (disch:=omega) only[go_sem,e0,e1,e2,e3,er,hl]
     exact⟨_,rfl,hle,rfl,by rw[<- hE];exact hH⟩
 obtain⟨r,τ,R,rfl,h⟩:=key
 exact⟨τ,R,h⟩
theorem heap_ret (S:SrtO α lt) (H:Holds S.e σ0 σ rs k v d) {a b:Nat} (hab:a<=b) (hb:b<=d.size) (hs:d.size<=1099511627776):∃ τ,Ret Tryz.prog S.q.heapSort [v,gi a,gi b] σ (.tup []) τ/\Holds S.e σ0 τ rs k v (heapSort lt d a b):=by
 have key:∃ r τ,Ret Tryz.prog S.q.heapSort [v,gi a,gi b] σ r τ/\r= .tup []/\Holds S.e σ0 τ rs k v (heapSort lt d a b):=by
  refine Bc S.h_heapSort (Z0z rfl) ?_
  obtain⟨h,hh⟩:∃ h,h=b - a:=⟨_,rfl⟩
  have hI:(b:Int) - a=h:=by omega
  have hq:((h:Int) - 1).tdiv 2=(((h - 1) / 2+1:Nat):Int) - 1:=by
   rcases Nat.eq_zero_or_pos h with rfl|hp
   ·rfl
   ·have:(h:Int) - 1=((h - 1:Nat):Int):=by omega
    rw[this]
    have h2:((h - 1:Nat):Int).tdiv 2=(((h - 1) / 2:Nat):Int):=rfl
    rw[h2];omega
  obtain⟨M,hM⟩:∃ M,M=(h - 1) / 2+1:=⟨_,rfl⟩
  rw[<- hM] at hq
  have hE:heapSort lt d a b=heapPop lt a h (heapBuild lt h a M d):=by rw[heapSort,hM,hh]
  rw[hE]
  simp +contextual (disch:=omega) only[go_sem,Ta,hI,hq]
  refine Cj (fun n env τ=>∃(m:Nat) (D:Array α),env 0=v/\env 1=gi a/\env 2=gi b/\env 6=gi a/\env 7=gi 0/\env 8=gi h/\env 9=gi ((m:Int) - 1)/\m=n/\m<=M/\D.size=d.size/\σ.length<=τ.length/\Holds S.e σ0 τ rs k v D/\heapBuild lt h a m D=heapBuild lt h a M d) M ⟨M,d,rfl,rfl,rfl,rfl,rfl,rfl,rfl,rfl,Zab _,rfl,Zab _,H,rfl⟩ ?_
  rintro J hJ n env τ ⟨m,D,e0,e1,e2,e6,e7,e8,e9,hn,hm,hD,hle,hH,hE⟩
  cases m with
  |succ j=>
   have e9:env 9=gi (j:Int):=by rw[e9];congr 1;omega
   have c0:decide ((0:Int)<=j)=true:=by simp
   rw[heapBuild] at hE
   simp +contextual (disch:=omega) only[go_sem,e0,e1,e2,e6,e7,e8,e9,c0]
   obtain⟨τ1,R,hH1⟩:=sift_ret S hH (lo:=j) (hi:=h) (F:=a) (by omega) (by omega) (by omega)
   have hl1:=R.2.1
   refine Ao R ?_
   simp +contextual (disch:=omega) only[go_sem,e0,e1,e2,e6,e7,e8,e9]
   refine⟨j,by omega,hJ _ _ _ ⟨j,_,?_,?_,?_,?_,?_,?_,?_,rfl,by omega,?_,by omega,hH1,hE⟩⟩
   all_goals first|(simp +contextual (disch:=omega) only[go_sem,e0,e1,e2,e6,e7,e8,e9];done)|(rw [siftDown_size lt h a _ _ _ (Zab _)];exact hD)
  |zero=>
   have e9:env 9=gi (-1):=e9
   rw[heapBuild] at hE
   simp +contextual (disch:=omega) only[go_sem,e0,e1,e2,e6,e7,e8,e9]
   have c0:decide ((0:Int)<= -1)=false:=rfl
   simp +contextual (disch:=omega) only[go_sem,e0,e1,e2,e6,e7,e8,e9,c0]
   refine Cj (fun n env τ=>∃(m:Nat) (E:Array α),env 0=v/\env 1=gi a/\env 2=gi b/\env 6=gi a/\env 7=gi 0/\env 8=gi h/\env 10=gi ((m:Int) - 1)/\m=n/\m<=h/\E.size=d.size/\σ.length<=τ.length/\Holds S.e σ0 τ rs k v E/\heapPop lt a m E=heapPop lt a h (heapBuild lt h a M d)) h ⟨h,D,by simp +contextual (disch:=omega) only[go_sem,e0],by simp +contextual (disch:=omega) only[go_sem,e1],by simp +contextual (disch:=omega) only[go_sem,e2],by simp +contextual (disch:=omega) only[go_sem,e6],by simp +contextual (disch:=omega) only[go_sem,e7],by simp +contextual (disch:=omega) only[go_sem,e8],rfl,rfl,Zab _,hD,hle,hH,by rw[hE]⟩ ?_
   clear hH hle e0 e1 e2 e6 e7 e8 e9
   rintro J2 hJ2 n2 env τ ⟨m,E,e0,e1,e2,e6,e7,e8,e9,hn2,hm,hE2,hle,hH,hP⟩
   cases m with
   |succ j=>
    have e9:env 10=gi (j:Int):=by rw[e9];congr 1;omega
    have c0:decide ((0:Int)<=j)=true:=by simp
    rw[heapPop] at hP
    have nr:B8 (some (.int .i64 ((a:Int)+j)))=some (a+j):=Bd (by simp)
    obtain⟨τ1,τ2,s1,s2,hH2,hl2⟩:=hH.sw (a:=a) (b:=a+j) (by omega) (by omega)
    obtain⟨τ3,R,hH3⟩:=sift_ret S hH2 (lo:=0) (hi:=j) (F:=a) (by rw[Go.Sort.swp_size];omega) (by omega) (by rw[Go.Sort.swp_size];omega)
    have hl3:=R.2.1
    simp +contextual (disch:=omega) only[go_sem,e0,e1,e2,e6,e7,e8,e9,c0,nr,A0,hH.iad (j:=a) (by omega),hH.ld (j:=a) (by omega),hH.iad (j:=a+j) (by omega),hH.ld (j:=a+j) (by omega),s1,s2]
    refine Ao R ?_
    simp +contextual (disch:=omega) only[go_sem,e0,e1,e2,e6,e7,e8,e9]
    refine⟨j,by omega,hJ2 _ _ _ ⟨j,_,?_,?_,?_,?_,?_,?_,?_,rfl,by omega,?_,by omega,hH3,hP⟩⟩
    all_goals first|(simp +contextual (disch:=omega) only[go_sem,e0,e1,e2,e6,e7,e8,e9];done)|(rw [siftDown_size lt _ a _ _ _ (Zab _),Go.Sort.swp_size];exact hE2)
   |zero=>
    have e9:env 10=gi (-1):=e9
    rw[heapPop] at hP
    simp +contextual (disch:=omega) only[go_sem,e0,e1,e2,e6,e7,e8,e9,c0]
    exact⟨_,rfl,hle,rfl,by rw[<- hP];exact hH⟩
 obtain⟨r,τ,R,rfl,h⟩:=key
 exact⟨τ,R,h⟩
theorem rev_ret (S:SrtO α lt) (H:Holds S.e σ0 σ rs k v d) {a b:Nat} (hab:a<b) (hb:b<=d.size) (hs:d.size<=1099511627776):∃ τ,Ret Tryz.prog S.q.reverseRange [v,gi a,gi b] σ (.tup []) τ/\Holds S.e σ0 τ rs k v (reverseRange d a b):=by
 have key:∃ r τ,Ret Tryz.prog S.q.reverseRange [v,gi a,gi b] σ r τ/\r= .tup []/\Holds S.e σ0 τ rs k v (reverseRange d a b):=by
  refine Bc S.h_reverseRange (Z0z rfl) ?_
  have hbI:(b:Int) - 1=((b - 1:Nat):Int):=by omega
  obtain⟨h,hh⟩:∃ h,h=b - 1:=⟨_,rfl⟩
  have hE:reverseRange d a b=reverseLoop a h d:=by rw[reverseRange,hh]
  rw[hE]
  rw[<- hh] at hbI
  simp +contextual (disch:=omega) only[go_sem,L5,hbI]
  refine Cj (fun n env τ=>∃(i j:Nat) (D:Array α),env 0=v/\env 6=gi i/\env 7=gi j/\j - i=n/\a<=i/\i<=d.size/\j<=h/\D.size=d.size/\σ.length<=τ.length/\Holds S.e σ0 τ rs k v D/\reverseLoop i j D=reverseLoop a h d) (h - a) ⟨a,h,d,rfl,rfl,rfl,rfl,Zab _,by omega,Zab _,rfl,Zab _,H,rfl⟩ ?_
  rintro J hJ n env τ ⟨i,j,D,e0,e6,e7,hn,hi,hi2,hj,hD,hle,hH,hE⟩
  rw[reverseLoop] at hE
  rcases Zac i j with hlt|hge
  ·rw[if_pos hlt] at hE
   have c0:decide ((i:Int)<j)=true:=by simp;omega
   obtain⟨τ1,τ2,s1,s2,hH2,hl2⟩:=hH.sw (a:=i) (b:=j) (by omega) (by omega)
   have j1:(j:Int) - 1=((j - 1:Nat):Int):=by omega
   simp +contextual (disch:=omega) only[go_sem,e0,e6,e7,c0,A0,hH.iad (j:=i) (by omega),hH.ld (j:=i) (by omega),hH.iad (j:=j) (by omega),hH.ld (j:=j) (by omega),s1,s2]
   refine⟨(j - 1) - (i+1),by omega,hJ _ _ _ ⟨i+1,j - 1,swp D i j,?_,?_,?_,rfl,by omega,by omega,by omega,by rw[Go.Sort.swp_size];exact hD,by omega,hH2,hE⟩⟩
   all_goals simp +contextual (disch:=omega) only[go_sem,e0,e6,e7,j1]
  ·rw[if_neg (by omega)] at hE
   have c0:decide ((i:Int)<j)=false:=by simp;omega
   simp +contextual (disch:=omega) only[go_sem,e0,e6,e7,c0]
   exact⟨_,rfl,hle,rfl,by rw[<- hE];exact hH⟩
 obtain⟨r,τ,R,rfl,h⟩:=key
 exact⟨τ,R,h⟩
end O
namespace O
open Go Go.RowKit Go.Proofs.YtbeoiejnogdkpaaGreat.Sy Go.Sort
variable {α:Type} [Inhabited α] {lt:α->α->Bool} {σ0 σ:St} {rs:List Thg} {k:Nat} {v:GV} {d:Array α}
theorem pe_ret (S:SrtO α lt) (H:Holds S.e σ0 σ rs k v d) {a b p:Nat} (hab:a<b) (hp:p<b) (hb:b<=d.size) (hs:d.size<=1099511627776):∃ τ,Ret Tryz.prog S.q.partitionEqual [v,gi a,gi b,gi p] σ (gi (partitionEqual lt d a b p).1) τ/\Holds S.e σ0 τ rs k v (partitionEqual lt d a b p).2:=by
 have key:∃ r τ,Ret Tryz.prog S.q.partitionEqual [v,gi a,gi b,gi p] σ r τ/\r=gi (partitionEqual lt d a b p).1/\Holds S.e σ0 τ rs k v (partitionEqual lt d a b p).2:=by
  refine Bc S.h_partitionEqual (Z0z rfl) ?_
  obtain⟨τ1,τ2,s1,s2,hH,hl2⟩:=H.sw (a:=a) (b:=p) (by omega) (by omega)
  obtain⟨h,hh⟩:∃ h,h=b - 1:=⟨_,rfl⟩
  have hbI:(b:Int) - 1=h:=by omega
  have hsz:=Go.Sort.swp_size d a p
  rw[partitionEqual,<-hh]
  obtain⟨D0,hD0⟩:∃ D0,D0=swp d a p:=⟨_,rfl⟩
  rw[<- hD0] at hH hsz
  simp +contextual (disch:=omega) only[go_sem,Iq,hbI,A0,H.iad (j:=a) (by omega),H.ld (j:=a) (by omega),H.iad (j:=p) (by omega),H.ld (j:=p) (by omega),s1,s2]
  rw[<- hD0]
  refine Cj (fun n env τ=>∃(i j:Nat) (D:Array α),env 0=v/\env 1=gi a/\env 9=gi i/\env 10=gi j/\j+1 - i=n/\1<=i/\i<=j+1/\j<b/\D.size=d.size/\σ.length<=τ.length/\Holds S.e σ0 τ rs k v D/\partEqLoop lt a i j D=partEqLoop lt a (a+1) h D0) (h+1 - (a+1)) ⟨a+1,h,D0,rfl,rfl,rfl,rfl,rfl,by omega,by omega,by omega,hsz,by omega,hH,rfl⟩ ?_
  clear hH
  rintro J hJ n env τ ⟨i,j,D,e0,e1,e9,e10,hn,hi,hij,hj,hD,hle,hH,hE⟩
  rw[partEqLoop_eq] at hE
  have ia:=hH.iad (j:=a) (by omega)
  have la:=hH.ld (j:=a) (by omega)
  simp +contextual (disch:=omega) only[go_sem]
  refine Df (fun n env τ'=>∃(x:Nat),env 0=v/\env 1=gi a/\env 9=gi x/\env 10=gi j/\j+1 - x=n/\i<=x/\x<=j+1/\τ=τ'/\scanUp (fun x=> !lt D[a]! x) D j x=scanUp (fun x=> !lt D[a]! x) D j i) (j+1 - i) 2 (fun env τ'=>env 0=v/\env 1=gi a/\env 9=gi (scanUp (fun x=> !lt D[a]! x) D j i:Nat)/\env 10=gi j/\τ=τ') ⟨i,e0,e1,e9,e10,rfl,Zab _,hij,rfl,rfl⟩ ?_ ?_
  ·clear e0 e1 e9 e10
   rintro J2 Y2 hJ2 hY2 n2 env τ' ⟨x,e0,e1,e9,e10,hn2,hx1,hx2,rfl,hU⟩
   rw[scanUp] at hU
   rcases Zac j x with hx|hx
   ·rw[if_neg (by simp;intro h;omega)] at hU
    have c0:decide ((x:Int)<=j)=false:=by simp;omega
    simp +contextual (disch:=omega) only[go_sem,e0,e1,e9,e10,c0]
    refine hY2 _ _ ⟨?_,?_,?_,?_,rfl⟩
    all_goals simp +contextual (disch:=omega) only[go_sem,e0,e1,e9,e10,hU]
   ·have c0:decide ((x:Int)<=j)=true:=by simp;omega
    simp +contextual (disch:=omega) only[go_sem,e0,e1,e9,e10,c0,A0,ia,la,hH.iad (j:=x) (by omega),hH.ld (j:=x) (by omega)]
    refine Af (S.call _ _ _) ?_
    cases hl:lt D[a]! D[x]! with
    |true=>
     rw[if_neg (by simp[hl])] at hU
     simp +contextual (disch:=omega) only[go_sem,e0,e1,e9,e10,c0,hl]
     refine hY2 _ _ ⟨?_,?_,?_,?_,rfl⟩
     all_goals simp +contextual (disch:=omega) only[go_sem,e0,e1,e9,e10,hU]
    |false=>
     rw[if_pos (by simp[hl];omega)] at hU
     simp +contextual (disch:=omega) only[go_sem,e0,e1,e9,e10,c0,hl]
     refine⟨j+1 - (x+1),by omega,hJ2 _ _ _ ⟨x+1,?_,?_,?_,?_,rfl,by omega,by omega,rfl,hU⟩⟩
     all_goals simp +contextual (disch:=omega) only[go_sem,e0,e1,e9,e10]
  ·clear e0 e1 e9 e10
   rintro env τ' ⟨e0,e1,e9,e10,rfl⟩
   obtain⟨u1,u2,-,u4⟩:=scanUp_spec (fun x=> !lt D[a]! x) D j _ i rfl
   have u2:=u2 hij
   obtain⟨x,hx⟩:∃ x,x=scanUp (fun x=> !lt D[a]! x) D j i:=⟨_,rfl⟩
   rw[<- hx] at hE e9 u1 u2 u4
   simp +contextual (disch:=omega) only[go_sem]
   refine Df (fun n env τ'=>∃(y:Nat),env 0=v/\env 1=gi a/\env 9=gi x/\env 10=gi y/\y+1=n/\y<=j/\x<=y+1/\τ=τ'/\scanDown (fun x=>lt D[a]! x) D x y=scanDown (fun x=>lt D[a]! x) D x j) (j+1) 4 (fun env τ'=>env 0=v/\env 1=gi a/\env 9=gi x/\env 10=gi (scanDown (fun x=>lt D[a]! x) D x j:Nat)/\τ=τ'/\x<=scanDown (fun x=>lt D[a]! x) D x j+1) ⟨j,e0,e1,e9,e10,rfl,Zab _,u2,rfl,rfl⟩ ?_ ?_
   ·clear e0 e1 e9 e10
    rintro J2 Y2 hJ2 hY2 n2 env τ' ⟨y,e0,e1,e9,e10,hn2,hy1,hy2,rfl,hU⟩
    rcases Zac y x with hlt|hge
    ·have hU:scanDown (fun x=>lt D[a]! x) D x j=y:=by
      rw[<- hU]
      cases y with
      |zero=>rfl
      |succ y=>rw[scanDown,if_neg (by simp;intro h;omega)]
     have c0:decide ((x:Int)<=y)=false:=by simp;omega
     simp +contextual (disch:=omega) only[go_sem,e0,e1,e9,e10,c0]
     refine hY2 _ _ ⟨?_,?_,?_,?_,rfl,by omega⟩
     all_goals simp +contextual (disch:=omega) only[go_sem,e0,e1,e9,e10,hU]
    ·have c0:decide ((x:Int)<=y)=true:=by simp;omega
     obtain⟨z,rfl⟩:∃ z,y=z+1:=⟨y - 1,by omega⟩
     rw[scanDown] at hU
     have c0:decide ((x:Int)<=(z:Int)+1)=true:=c0
     have n1:B8 (some (.int .i64 ((z:Int)+1)))=some (z+1):=Bd (by simp)
     have z1:(z:Int)+1 - 1=z:=by omega
     simp +contextual (disch:=omega) only[go_sem,e0,e1,e9,e10,c0,A0,n1,ia,la,hH.iad (j:=z+1) (by omega),hH.ld (j:=z+1) (by omega)]
     refine Af (S.call _ _ _) ?_
     cases hl:lt D[a]! D[z+1]! with
     |false=>
      rw[if_neg (by simp[hl])] at hU
      simp +contextual (disch:=omega) only[go_sem,e0,e1,e9,e10,c0,hl]
      refine hY2 _ _ ⟨?_,?_,?_,?_,rfl,by omega⟩
      all_goals simp +contextual (disch:=omega) only[go_sem,e0,e1,e9,e10,<-hU]
     |true=>
      rw[if_pos (by simp[hl];omega)] at hU
      simp +contextual (disch:=omega) only[go_sem,e0,e1,e9,e10,c0,z1,hl]
      refine⟨z+1,by omega,hJ2 _ _ _ ⟨z,?_,?_,?_,?_,rfl,by omega,by omega,rfl,hU⟩⟩
      all_goals simp +contextual (disch:=omega) only[go_sem,e0,e1,e9,e10]
   ·clear e0 e1 e9 e10
    rintro env τ' ⟨e0,e1,e9,e10,rfl,hxy⟩
    have w1:=scanDown_le (fun x=>lt D[a]! x) D x j
    have w4:=(scanDown_spec (fun x=>lt D[a]! x) D x j).2.2.2
    obtain⟨y,hy⟩:∃ y,y=scanDown (fun x=>lt D[a]! x) D x j:=⟨_,rfl⟩
    rw[<- hy] at hE e10 w1 w4 hxy
    rcases Zac y x with hlt|hge
    ·rw[if_pos hlt] at hE
     have c0:decide ((y:Int)<x)=true:=by simp;omega
     simp +contextual (disch:=omega) only[go_sem,e0,e1,e9,e10,c0]
     exact⟨_,rfl,hle,by rw[<- hE],by rw[<- hE];exact hH⟩
    ·rw[if_neg (by omega)] at hE
     have hne:x≠y:=by
      rintro rfl
      have q1:(!lt D[a]! D[x]!)=false:=u4 w1
      have q2:lt D[a]! D[x]! =false:=w4 (Zab _) (by omega)
      rw[q2] at q1;cases q1
     have c0:decide ((y:Int)<x)=false:=by simp;omega
     have y1:(y:Int) - 1=((y - 1:Nat):Int):=by omega
     obtain⟨τ3,τ4,s3,s4,hH4,hl4⟩:=hH.sw (a:=x) (b:=y) (by omega) (by omega)
     simp +contextual (disch:=omega) only[go_sem,e0,e1,e9,e10,c0,A0,hH.iad (j:=x) (by omega),hH.ld (j:=x) (by omega),hH.iad (j:=y) (by omega),hH.ld (j:=y) (by omega),s3,s4]
     refine⟨y - 1+1 - (x+1),by omega,hJ _ _ _ ⟨x+1,y - 1,swp D x y,?_,?_,?_,?_,rfl,by omega,by omega,by omega,by rw[Go.Sort.swp_size];exact hD,by omega,hH4,hE⟩⟩
     all_goals simp +contextual (disch:=omega) only[go_sem,e0,e1,e9,e10,y1]
 obtain⟨r,τ,R,rfl,h⟩:=key
 exact⟨τ,R,h⟩
theorem part_ret (S:SrtO α lt) (H:Holds S.e σ0 σ rs k v d) {a b p:Nat} (hab:a<b) (hp:p<b) (hb:b<=d.size) (hs:d.size<=1099511627776):∃ τ,Ret Tryz.prog S.q.partition [v,gi a,gi b,gi p] σ (.tup [gi (partition lt d a b p).1,.bool (partition lt d a b p).2.1]) τ/\Holds S.e σ0 τ rs k v (partition lt d a b p).2.2:=by
 have key:∃ r τ,Ret Tryz.prog S.q.partition [v,gi a,gi b,gi p] σ r τ/\r= .tup [gi (partition lt d a b p).1,.bool (partition lt d a b p).2.1]/\Holds S.e σ0 τ rs k v (partition lt d a b p).2.2:=by
  refine Bc S.h_partition (Z0z rfl) ?_
  obtain⟨τ1,τ,s1,s2,hH,hl2⟩:=H.sw (a:=a) (b:=p) (by omega) (by omega)
  obtain⟨j,hh⟩:∃ h,h=b - 1:=⟨_,rfl⟩
  have hbI:(b:Int) - 1=j:=by omega
  have hD:=Go.Sort.swp_size d a p
  obtain⟨P0,hP0⟩:∃ P0,P0=partition lt d a b p:=⟨_,rfl⟩
  rw[<- hP0]
  have hE:=hP0.symm
  simp only[partition] at hE
  rw[<- hh] at hE
  obtain⟨D,hD0⟩:∃ D0,D0=swp d a p:=⟨_,rfl⟩
  rw[<- hD0] at hH hD hE
  simp +contextual (disch:=omega) only[go_sem,Pq,hbI,A0,H.iad (j:=a) (by omega),H.ld (j:=a) (by omega),H.iad (j:=p) (by omega),H.ld (j:=p) (by omega),s1,s2]
  have ia:=hH.iad (j:=a) (by omega)
  have la:=hH.ld (j:=a) (by omega)
  obtain⟨i,hi⟩:∃ i,i=a+1:=⟨_,rfl⟩
  rw[<- hi] at hE
  have hij:i<=j+1:=by omega
  refine Df (fun n env τ'=>∃(x:Nat),env 0=v/\env 1=gi a/\env 10=gi x/\env 11=gi j/\j+1 - x=n/\i<=x/\x<=j+1/\τ=τ'/\scanUp (fun x=>lt x D[a]!) D j x=scanUp (fun x=>lt x D[a]!) D j i) (j+1 - i) 0 (fun env τ'=>env 0=v/\env 1=gi a/\env 10=gi (scanUp (fun x=>lt x D[a]!) D j i:Nat)/\env 11=gi j/\τ=τ') ⟨i,rfl,rfl,(by rw[hi];rfl),rfl,rfl,Zab _,hij,rfl,rfl⟩ ?_ ?_
  ·skip
   rintro J2 Y2 hJ2 hY2 n2 env τ' ⟨x,e0,e1,e9,e10,hn2,hx1,hx2,rfl,hU⟩
   rw[scanUp] at hU
   rcases Zac j x with hx|hx
   ·rw[if_neg (by simp;intro h;omega)] at hU
    have c0:decide ((x:Int)<=j)=false:=by simp;omega
    simp +contextual (disch:=omega) only[go_sem,e0,e1,e9,e10,c0]
    refine hY2 _ _ ⟨?_,?_,?_,?_,rfl⟩
    all_goals simp +contextual (disch:=omega) only[go_sem,e0,e1,e9,e10,hU]
   ·have c0:decide ((x:Int)<=j)=true:=by simp;omega
    simp +contextual (disch:=omega) only[go_sem,e0,e1,e9,e10,c0,A0,ia,la,hH.iad (j:=x) (by omega),hH.ld (j:=x) (by omega)]
    refine Af (S.call _ _ _) ?_
    cases hl:lt D[x]! D[a]! with
    |false=>
     rw[if_neg (by simp[hl])] at hU
     simp +contextual (disch:=omega) only[go_sem,e0,e1,e9,e10,c0,hl]
     refine hY2 _ _ ⟨?_,?_,?_,?_,rfl⟩
     all_goals simp +contextual (disch:=omega) only[go_sem,e0,e1,e9,e10,hU]
    |true=>
     rw[if_pos (by simp[hl];omega)] at hU
     simp +contextual (disch:=omega) only[go_sem,e0,e1,e9,e10,c0,hl]
     refine⟨j+1 - (x+1),by omega,hJ2 _ _ _ ⟨x+1,?_,?_,?_,?_,rfl,by omega,by omega,rfl,hU⟩⟩
     all_goals simp +contextual (disch:=omega) only[go_sem,e0,e1,e9,e10]
  skip
  rintro env τ' ⟨e0,e1,e9,e10,rfl⟩
  obtain⟨u1,u2,-,u4⟩:=scanUp_spec (fun x=>lt x D[a]!) D j _ i rfl
  have u2:=u2 hij
  obtain⟨x,hx⟩:∃ x,x=scanUp (fun x=>lt x D[a]!) D j i:=⟨_,rfl⟩
  rw[<- hx] at hE e9 u1 u2 u4
  simp +contextual (disch:=omega) only[go_sem]
  refine Df (fun n env τ'=>∃(y:Nat),env 0=v/\env 1=gi a/\env 10=gi x/\env 11=gi y/\y+1=n/\y<=j/\x<=y+1/\τ=τ'/\scanDown (fun x=> !lt x D[a]!) D x y=scanDown (fun x=> !lt x D[a]!) D x j) (j+1) 2 (fun env τ'=>env 0=v/\env 1=gi a/\env 10=gi x/\env 11=gi (scanDown (fun x=> !lt x D[a]!) D x j:Nat)/\τ=τ'/\x<=scanDown (fun x=> !lt x D[a]!) D x j+1) ⟨j,e0,e1,e9,e10,rfl,Zab _,u2,rfl,rfl⟩ ?_ ?_
  ·clear e0 e1 e9 e10
   rintro J2 Y2 hJ2 hY2 n2 env τ' ⟨y,e0,e1,e9,e10,hn2,hy1,hy2,rfl,hU⟩
   rcases Zac y x with hlt|hge
   ·have hU:scanDown (fun x=> !lt x D[a]!) D x j=y:=by
     rw[<- hU]
     cases y with
     |zero=>rfl
     |succ y=>rw[scanDown,if_neg (by simp;intro h;omega)]
    have c0:decide ((x:Int)<=y)=false:=by simp;omega
    simp +contextual (disch:=omega) only[go_sem,e0,e1,e9,e10,c0]
    refine hY2 _ _ ⟨?_,?_,?_,?_,rfl,by omega⟩
    all_goals simp +contextual (disch:=omega) only[go_sem,e0,e1,e9,e10,hU]
   ·obtain⟨z,rfl⟩:∃ z,y=z+1:=⟨y - 1,by omega⟩
    rw[scanDown] at hU
    have c0:decide ((x:Int)<=(z:Int)+1)=true:=by simp;omega
    have n1:B8 (some (.int .i64 ((z:Int)+1)))=some (z+1):=Bd (by simp)
    have z1:(z:Int)+1 - 1=z:=by omega
    simp +contextual (disch:=omega) only[go_sem,e0,e1,e9,e10,c0,A0,n1,ia,la,hH.iad (j:=z+1) (by omega),hH.ld (j:=z+1) (by omega)]
    refine Af (S.call _ _ _) ?_
    cases hl:lt D[z+1]! D[a]! with
    |true=>
     rw[if_neg (by simp[hl])] at hU
     simp +contextual (disch:=omega) only[go_sem,e0,e1,e9,e10,c0,hl]
     refine hY2 _ _ ⟨?_,?_,?_,?_,rfl,by omega⟩
     all_goals simp +contextual (disch:=omega) only[go_sem,e0,e1,e9,e10,<-hU]
    |false=>
     rw[if_pos (by simp[hl];omega)] at hU
     simp +contextual (disch:=omega) only[go_sem,e0,e1,e9,e10,c0,z1,hl]
     refine⟨z+1,by omega,hJ2 _ _ _ ⟨z,?_,?_,?_,?_,rfl,by omega,by omega,rfl,hU⟩⟩
     all_goals simp +contextual (disch:=omega) only[go_sem,e0,e1,e9,e10]
  clear e0 e1 e9 e10
  rintro env τ' ⟨e0,e1,e9,e10,rfl,hxy⟩
  have w1:=scanDown_le (fun x=> !lt x D[a]!) D x j
  have w4:=(scanDown_spec (fun x=> !lt x D[a]!) D x j).2.2.2
  obtain⟨y,hy⟩:∃ y,y=scanDown (fun x=> !lt x D[a]!) D x j:=⟨_,rfl⟩
  rw[<- hy] at hE e10 w1 w4 hxy
  have hne:x≠y:=by
   rintro rfl
   have q1:lt D[x]! D[a]! =false:=u4 w1
   have q2:(!lt D[x]! D[a]!)=false:=w4 (Zab _) (by omega)
   rw[q1] at q2;cases q2
  rcases Zac y x with hlt|hge
  ·rw[if_pos hlt] at hE
   subst hE
   have c0:decide ((y:Int)<x)=true:=by simp;omega
   obtain⟨τ3,τ4,s3,s4,hH4,hl4⟩:=hH.sw (a:=y) (b:=a) (by omega) (by omega)
   simp +contextual (disch:=omega) only[go_sem,e0,e1,e9,e10,c0,A0,hH.iad (j:=a) (by omega),hH.ld (j:=a) (by omega),hH.iad (j:=y) (by omega),hH.ld (j:=y) (by omega),s3,s4]
   exact⟨_,rfl,by omega,rfl,hH4⟩
  ·rw[if_neg (by omega)] at hE
   subst hE
   have c0:decide ((y:Int)<x)=false:=by simp;omega
   have y1:(y:Int) - 1=((y - 1:Nat):Int):=by omega
   obtain⟨τ3,τ4,s3,s4,hH4,hl4⟩:=hH.sw (a:=x) (b:=y) (by omega) (by omega)
   simp +contextual (disch:=omega) only[go_sem,e0,e1,e9,e10,c0,A0,hH.iad (j:=x) (by omega),hH.ld (j:=x) (by omega),hH.iad (j:=y) (by omega),hH.ld (j:=y) (by omega),s3,s4]
   obtain⟨x0,hx0⟩:∃ x0,x0=x+1:=⟨_,rfl⟩
   obtain⟨y0,hy0⟩:∃ y0,y0=y - 1:=⟨_,rfl⟩
   have hD4:(swp D x y).size=d.size:=by rw[Go.Sort.swp_size];exact hD
   obtain⟨D4,hD40⟩:∃ D4,D4=swp D x y:=⟨_,rfl⟩
   rw[<- hx0,<-hy0,<-hD40]
   rw[<- hD40] at hH4 hD4
   obtain⟨R,hR⟩:∃ R,R=partLoop lt a x0 y0 D4:=⟨_,rfl⟩
   rw[<- hR]
   refine Cj (fun n env τ=>∃(i j:Nat) (D:Array α),env 0=v/\env 1=gi a/\env 10=gi i/\env 11=gi j/\j+1 - i=n/\1<=i/\i<=j+1/\j<b/\D.size=d.size/\σ.length<=τ.length/\Holds S.e σ0 τ rs k v D/\partLoop lt a i j D=R) (y0+1 - x0) ⟨x0,y0,D4,by simp +contextual (disch:=omega) only[go_sem,e0],by simp +contextual (disch:=omega) only[go_sem,e1],by rw[hx0];simp +contextual (disch:=omega) only[go_sem,e9],by rw[hy0];simp +contextual (disch:=omega) only[go_sem,y1],rfl,by omega,by omega,by omega,hD4,by omega,hH4,hR.symm⟩ ?_
   clear hH hH4 hij ia la s1 s2 s3 s4 e0 e1 e9 e10 c0 y1 hi u1 u2 u4 w1 w4 hxy hne hge hx hy hx0 hy0 hD40 hD4 hD hD0 hl2 hl4
   rintro J hJ n env τ ⟨i,j,D,e0,e1,e9,e10,hn,hi,hij,hj,hD,hle,hH,hE⟩
   rw[partLoop_eq] at hE
   have ia:=hH.iad (j:=a) (by omega)
   have la:=hH.ld (j:=a) (by omega)
   simp +contextual (disch:=omega) only[go_sem]
   refine Df (fun n env τ'=>∃(x:Nat),env 0=v/\env 1=gi a/\env 10=gi x/\env 11=gi j/\j+1 - x=n/\i<=x/\x<=j+1/\τ=τ'/\scanUp (fun x=>lt x D[a]!) D j x=scanUp (fun x=>lt x D[a]!) D j i) (j+1 - i) 6 (fun env τ'=>env 0=v/\env 1=gi a/\env 10=gi (scanUp (fun x=>lt x D[a]!) D j i:Nat)/\env 11=gi j/\τ=τ') ⟨i,e0,e1,e9,e10,rfl,Zab _,hij,rfl,rfl⟩ ?_ ?_
   ·clear e0 e1 e9 e10
    rintro J2 Y2 hJ2 hY2 n2 env τ' ⟨x,e0,e1,e9,e10,hn2,hx1,hx2,rfl,hU⟩
    rw[scanUp] at hU
    rcases Zac j x with hx|hx
    ·rw[if_neg (by simp;intro h;omega)] at hU
     have c0:decide ((x:Int)<=j)=false:=by simp;omega
     simp +contextual (disch:=omega) only[go_sem,e0,e1,e9,e10,c0]
     refine hY2 _ _ ⟨?_,?_,?_,?_,rfl⟩
     all_goals simp +contextual (disch:=omega) only[go_sem,e0,e1,e9,e10,hU]
    ·have c0:decide ((x:Int)<=j)=true:=by simp;omega
     simp +contextual (disch:=omega) only[go_sem,e0,e1,e9,e10,c0,A0,ia,la,hH.iad (j:=x) (by omega),hH.ld (j:=x) (by omega)]
     refine Af (S.call _ _ _) ?_
     cases hl:lt D[x]! D[a]! with
     |false=>
      rw[if_neg (by simp[hl])] at hU
      simp +contextual (disch:=omega) only[go_sem,e0,e1,e9,e10,c0,hl]
      refine hY2 _ _ ⟨?_,?_,?_,?_,rfl⟩
      all_goals simp +contextual (disch:=omega) only[go_sem,e0,e1,e9,e10,hU]
     |true=>
      rw[if_pos (by simp[hl];omega)] at hU
      simp +contextual (disch:=omega) only[go_sem,e0,e1,e9,e10,c0,hl]
      refine⟨j+1 - (x+1),by omega,hJ2 _ _ _ ⟨x+1,?_,?_,?_,?_,rfl,by omega,by omega,rfl,hU⟩⟩
      all_goals simp +contextual (disch:=omega) only[go_sem,e0,e1,e9,e10]
   clear e0 e1 e9 e10
   rintro env τ' ⟨e0,e1,e9,e10,rfl⟩
   obtain⟨u1,u2,-,u4⟩:=scanUp_spec (fun x=>lt x D[a]!) D j _ i rfl
   have u2:=u2 hij
   obtain⟨x,hx⟩:∃ x,x=scanUp (fun x=>lt x D[a]!) D j i:=⟨_,rfl⟩
   rw[<- hx] at hE e9 u1 u2 u4
   simp +contextual (disch:=omega) only[go_sem]
   refine Df (fun n env τ'=>∃(y:Nat),env 0=v/\env 1=gi a/\env 10=gi x/\env 11=gi y/\y+1=n/\y<=j/\x<=y+1/\τ=τ'/\scanDown (fun x=> !lt x D[a]!) D x y=scanDown (fun x=> !lt x D[a]!) D x j) (j+1) 8 (fun env τ'=>env 0=v/\env 1=gi a/\env 10=gi x/\env 11=gi (scanDown (fun x=> !lt x D[a]!) D x j:Nat)/\τ=τ'/\x<=scanDown (fun x=> !lt x D[a]!) D x j+1) ⟨j,e0,e1,e9,e10,rfl,Zab _,u2,rfl,rfl⟩ ?_ ?_
   ·clear e0 e1 e9 e10
    rintro J2 Y2 hJ2 hY2 n2 env τ' ⟨y,e0,e1,e9,e10,hn2,hy1,hy2,rfl,hU⟩
    rcases Zac y x with hlt|hge
    ·have hU:scanDown (fun x=> !lt x D[a]!) D x j=y:=by
      rw[<- hU]
      cases y with
      |zero=>rfl
      |succ y=>rw[scanDown,if_neg (by simp;intro h;omega)]
     have c0:decide ((x:Int)<=y)=false:=by simp;omega
     simp +contextual (disch:=omega) only[go_sem,e0,e1,e9,e10,c0]
     refine hY2 _ _ ⟨?_,?_,?_,?_,rfl,by omega⟩
     all_goals simp +contextual (disch:=omega) only[go_sem,e0,e1,e9,e10,hU]
    ·obtain⟨z,rfl⟩:∃ z,y=z+1:=⟨y - 1,by omega⟩
     rw[scanDown] at hU
     have c0:decide ((x:Int)<=(z:Int)+1)=true:=by simp;omega
     have n1:B8 (some (.int .i64 ((z:Int)+1)))=some (z+1):=Bd (by simp)
     have z1:(z:Int)+1 - 1=z:=by omega
     simp +contextual (disch:=omega) only[go_sem,e0,e1,e9,e10,c0,A0,n1,ia,la,hH.iad (j:=z+1) (by omega),hH.ld (j:=z+1) (by omega)]
     refine Af (S.call _ _ _) ?_
     cases hl:lt D[z+1]! D[a]! with
     |true=>
      rw[if_neg (by simp[hl])] at hU
      simp +contextual (disch:=omega) only[go_sem,e0,e1,e9,e10,c0,hl]
      refine hY2 _ _ ⟨?_,?_,?_,?_,rfl,by omega⟩
      all_goals simp +contextual (disch:=omega) only[go_sem,e0,e1,e9,e10,<-hU]
     |false=>
      rw[if_pos (by simp[hl];omega)] at hU
      simp +contextual (disch:=omega) only[go_sem,e0,e1,e9,e10,c0,z1,hl]
      refine⟨z+1,by omega,hJ2 _ _ _ ⟨z,?_,?_,?_,?_,rfl,by omega,by omega,rfl,hU⟩⟩
      all_goals simp +contextual (disch:=omega) only[go_sem,e0,e1,e9,e10]
   clear e0 e1 e9 e10
   rintro env τ' ⟨e0,e1,e9,e10,rfl,hxy⟩
   have w1:=scanDown_le (fun x=> !lt x D[a]!) D x j
   have w4:=(scanDown_spec (fun x=> !lt x D[a]!) D x j).2.2.2
   obtain⟨y,hy⟩:∃ y,y=scanDown (fun x=> !lt x D[a]!) D x j:=⟨_,rfl⟩
   rw[<- hy] at hE e10 w1 w4 hxy
   have hne:x≠y:=by
    rintro rfl
    have q1:lt D[x]! D[a]! =false:=u4 w1
    have q2:(!lt D[x]! D[a]!)=false:=w4 (Zab _) (by omega)
    rw[q1] at q2;cases q2
   rcases Zac y x with hlt|hge
   ·rw[if_pos hlt] at hE
    subst hE
    have c0:decide ((y:Int)<x)=true:=by simp;omega
    obtain⟨τ3,τ4,s3,s4,hH4,hl4⟩:=hH.sw (a:=y) (b:=a) (by omega) (by omega)
    simp +contextual (disch:=omega) only[go_sem,e0,e1,e9,e10,c0,A0,hH.iad (j:=a) (by omega),hH.ld (j:=a) (by omega),hH.iad (j:=y) (by omega),hH.ld (j:=y) (by omega),s3,s4]
    exact⟨_,rfl,by omega,rfl,hH4⟩
   ·rw[if_neg (by omega)] at hE
    have c0:decide ((y:Int)<x)=false:=by simp;omega
    have y1:(y:Int) - 1=((y - 1:Nat):Int):=by omega
    obtain⟨τ3,τ4,s3,s4,hH4,hl4⟩:=hH.sw (a:=x) (b:=y) (by omega) (by omega)
    simp +contextual (disch:=omega) only[go_sem,e0,e1,e9,e10,c0,A0,hH.iad (j:=x) (by omega),hH.ld (j:=x) (by omega),hH.iad (j:=y) (by omega),hH.ld (j:=y) (by omega),s3,s4]
    refine⟨y - 1+1 - (x+1),by omega,hJ _ _ _ ⟨x+1,y - 1,swp D x y,?_,?_,?_,?_,rfl,by omega,by omega,by omega,by rw[Go.Sort.swp_size];exact hD,by omega,hH4,hE⟩⟩
    all_goals simp +contextual (disch:=omega) only[go_sem,e0,e1,e9,e10,y1]
 obtain⟨r,τ,R,rfl,h⟩:=key
 exact⟨τ,R,h⟩
end O
end Go.Proofs.YtbeoiejnogdkpaaGreat.Sy
