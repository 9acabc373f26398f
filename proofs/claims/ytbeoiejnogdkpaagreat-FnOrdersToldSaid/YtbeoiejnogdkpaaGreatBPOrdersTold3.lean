/- Texts of this proof, one behind the other. -/
import Derived.Test.YtbeoiejnogdkpaaGreatBPOrdersTold2
import Derived.Test.YtbeoiejnogdkpaaGreatProg
import Derived.KernelRfl
set_option linter.unusedSimpArgs false
set_option linter.unusedVariables false
set_option maxRecDepth 4000
set_option maxHeartbeats 4000000
open List renaming cons_append→Zaa,nil_append→Zab,mem_cons_of_mem→Zac,set_cons_zero→Zad,set_cons_succ→Zae,length_append→Zah,mem_cons_self→Zaj,mem_append_right→Zak,mem_flatten→Zal,mem_append_left→Zam,length_set→Zao,nodup_append→Zaq,flatten_cons→Zar,getElem_of_mem→Zas,nodup_cons→Zat,mem_cons→Zau,getElem?_eq_some_iff→Zav,take_append_of_le_length→Zaw,take_of_length_le→Zay,prefix_append→Zaz,length_filter_le→Za0,prefix_refl→Za2,filterMap_cons→Za4,length_nil→Za5,take_succ_eq_append_getElem→Za8,drop_eq_nil_of_le→Za9,getElem?_map→Zba,append_assoc→Zbb,length_cons→Zbc,getElem_mem→Zbd,drop_append_of_le_length→Zbe,map_cons→Zbf,filter_append→Zbg,getElem?_eq_getElem→Zbh,eraseIdx_cons_succ→Zbj,filter_cons→Zbk,length_take→Zbl,length_drop→Zbm,not_mem_nil→Zbn,getElem_cons_drop→Zbo,append_nil→Zbq,take_append_drop→Zbr,mem_append→Zbs,mem_of_getElem?→Zbt,take_zero→Zbx,drop_zero→Zby,length_modify→Zb0,take_length→Zb2,drop_drop→Zb3,drop_left→Zb4,sum_cons→Zb6
open Option renaming bind_some→Zaf,map_some→Za7
open Bool renaming and_eq_true→Zag,not_false→Zai,not_true→Zan,true_bne→Zap,false_and→Zax,true_xor→Za6,and_true→Zbi,true_or→Zbp,false_xor→Zbu,false_bne→Zbv,and_false→Zbw,false_or→Zbz,true_and→Zb5
open Nat renaming le_trans→Za1,le_refl→Za3,add_zero→Zb1
namespace Go.Proofs.YtbeoiejnogdkpaaGreat.Sy
open Go Go.RowKit
def A49:Fn1:=⟨45,[.t 4],(rg [oX 3 1,o 4 (.mov (.k .nilS))] (rg [o 8 (.lit 6 0 [] []),oM 5 8] (rg [oV 6 kf] (.seq (rg [oV 7 (ki 0)] (oH 0 (.seq (rg [oM 9 7,oM 10 0,oN 11 10,oB 12 .lss 9 11] (oJ 12 0)) (.seq (.blk 1 (.seq (dw [oM 15 6,oU 16 15,oM 17 16,jF 18 17 4 3,jW 19 17 2 18,jM 20 17 0,jM 21 17 7,jI 22 17 6 20 21,jF 23 17 4 22,jW 24 17 2 23] [jD 25 17 362 19 24,oQ 26 17 25] (oG 26 (rg [oM 27 5,oW 28 6 3,o 29 (.lit 6 1 [(.bool false),s0,s0,z0,z0,z0] [(0,6,(.t 28))]),o 30 (.app 6 64 [(.bool false),s0,s0,z0,z0,z0] (.t 27) (.t 29)),oM 5 30] (.reg [oV 6 kt])))) (.reg [oM 31 5,oM 32 0,oM 33 7,oI 34 6 32 33,oW 35 6 34,o 36 (.lit 6 1 [(.bool false),s0,s0,z0,z0,z0] [(0,6,(.t 35))]),o 37 (.app 6 64 [(.bool false),s0,s0,z0,z0,z0] (.t 31) (.t 36)),oM 5 37]))) (.reg [oM 13 7,oZ 14 13 1,oM 7 14]))))) (.seq (rg [oM 38 6,oU 39 38] (oG 39 (.reg [oM 40 5,oW 41 6 3,o 42 (.lit 6 1 [(.bool false),s0,s0,z0,z0,z0] [(0,6,(.t 41))]),o 43 (.app 6 64 [(.bool false),s0,s0,z0,z0,z0] (.t 40) (.t 42)),oM 5 43]))) (rg [oM 44 5,oM 4 44] .ret))))))⟩
theorem Ae4:A8 Tryz.prog 320=some A49:=by kernel_rfl
def A4b:Fn1:=⟨45,[.t 4],(rg [oX 3 1,o 4 (.mov (.k .nilS))] (rg [o 8 (.lit 8 0 [] []),oM 5 8] (rg [oV 6 kf] (.seq (rg [oV 7 (ki 0)] (oH 0 (.seq (rg [oM 9 7,oM 10 0,oN 11 10,oB 12 .lss 9 11] (oJ 12 0)) (.seq (.blk 1 (.seq (dw [oM 15 6,oU 16 15,oM 17 16,jF 18 17 1 3,jW 19 17 2 18,jM 20 17 0,jM 21 17 7,jI 22 17 8 20 21,jF 23 17 1 22,jW 24 17 2 23] [jD 25 17 362 19 24,oQ 26 17 25] (oG 26 (rg [oM 27 5,oW 28 8 3,o 29 (.lit 8 1 [s0,z0,z0,z0,z0,z0,z0,(.bool false)] [(0,8,(.t 28))]),o 30 (.app 8 72 [s0,z0,z0,z0,z0,z0,z0,(.bool false)] (.t 27) (.t 29)),oM 5 30] (.reg [oV 6 kt])))) (.reg [oM 31 5,oM 32 0,oM 33 7,oI 34 8 32 33,oW 35 8 34,o 36 (.lit 8 1 [s0,z0,z0,z0,z0,z0,z0,(.bool false)] [(0,8,(.t 35))]),o 37 (.app 8 72 [s0,z0,z0,z0,z0,z0,z0,(.bool false)] (.t 31) (.t 36)),oM 5 37]))) (.reg [oM 13 7,oZ 14 13 1,oM 7 14]))))) (.seq (rg [oM 38 6,oU 39 38] (oG 39 (.reg [oM 40 5,oW 41 8 3,o 42 (.lit 8 1 [s0,z0,z0,z0,z0,z0,z0,(.bool false)] [(0,8,(.t 41))]),o 43 (.app 8 72 [s0,z0,z0,z0,z0,z0,z0,(.bool false)] (.t 40) (.t 42)),oM 5 43]))) (rg [oM 44 5,oM 4 44] .ret))))))⟩
theorem Ae5:A8 Tryz.prog 322=some A4b:=by kernel_rfl
def Iq:Fn1:=⟨53,[.t 4],(rg [oX 2 0,oX 3 1,oV 4 kf] (.seq (rg [oF 6 4 3,oL 7 6,oE 8 .neq 7 7,oM 9 8,jF 10 9 4 3,jL 11 9 10,jE 12 9 .neq 11 6,jM 13 9 12,vF 14 13 8 3,vW 15 13 2 14,og 16 13 false (.build [z0,z0] []),og 17 13 false (.eqs false [.i .i64,.i .i64] (.t 15) (.t 16)),og 18 9 true (.pick (.t 13) kt (.t 17)),oQ 19 9 18] (oG 19 (oR 4 kt))) (rg [oW 20 4 2,oF 21 8 3,oW 22 2 21,oD 23 146 20 22,oM 5 23] (dw [oM 24 5,oE 25 .geq 24 0,oM 26 25,jF 27 26 3 2,jL 28 26 27,jM 29 26 5,jI 30 26 8 28 29,jF 31 26 0 30,jL 32 26 31,jF 33 26 5 3,jL 34 26 33,jB 35 26 .eql 32 34,oQ 36 26 35,oM 37 36,jF 38 37 4 3,jL 39 37 38,jE 40 37 .eql 39 7,jM 41 37 40,vF 42 41 3 2,vL 43 41 42,vM 44 41 5,vI 45 41 8 43 44,vF 46 41 3 45,vL 47 41 46,vF 48 41 2 3,vL 49 41 48] [vB 50 41 .lss 47 49,og 51 37 true (.pick (.t 41) kt (.t 50)),oQ 52 37 51,oM 4 52] .ret))))⟩
theorem Ahm:A8 Tryz.prog 248=some Iq:=by kernel_rfl
theorem Jp (N:St) (v:GV) (l:List Live) (h:RS Ap.kd N v l) (x:Live) (hl:l.length<=1099511627776):∃ r U,Ret Tryz.prog 320 [v,.agg (Qw x)] N r U/\Hp N U [ow Ap.kd r (Hy x l)]:=by
 refine Hu Ae4 (Z0z rfl) ?_
 have H:=((Hp.refl N).new 1 (Qw x)).nil_Live
 simp only[go_sem,A49]
 generalize hn1:N.length=n1 at*
 refine Sp l.length 7 0 (fun i env U=>env 0=v/\env 3= .ptr n1 0/\∃(u:GV) (put:Bool) (nxt:List Live),env 5=u/\env 6= .bool put/\insG C5 x l nxt i put/\Hp N U [ow Ap.kd u nxt,pt 1 n1 (Qw x)]) (fun env U=>env 3= .ptr n1 0/\∃(u:GV) (put:Bool) (nxt:List Live),env 5=u/\env 6= .bool put/\insG C5 x l nxt l.length put/\Hp N U [ow Ap.kd u nxt,pt 1 n1 (Qw x)]) rfl ⟨rfl,rfl,_,false,[],rfl,rfl,Vd,H⟩ ?_ ?_ ?_
 ·clear H
  rintro J Yq hJ hY i env U hi e7 c0 ⟨e0,e3,u,put,nxt,e5,e6,hok,H⟩
  have hnl:=Ey hok
  have hln:=(h.pre H.sub).len
  have C1:=Aa (h.pre H.sub) hi
  cases put with
  |true=>
   obtain⟨w',U3,e8,H3⟩:=H.app_Live 0 rfl l[i] (by omega)
   simp(disch:=omega) only[go_sem,c0,e0,e3,e5,e6,e7,hln,C1,e8]
   refine hJ _ _ _ ⟨?_,?_,w',true,_,?_,?_,Fo hok hi (.inl rfl),H3⟩
   all_goals simp only[go_sem,e0,e3,e6]
  |false=>
   simp only[go_sem,c0,e0,e3,e5,e6,e7,hln,C1,A7 (H.pt 1 rfl)]
   refine Ao (Dm _ _ _) ?_
   cases hq:Az x.dot l[i].dot with
   |false=>
    have hq2:C5 x l[i]=false:=hq
    obtain⟨w',U3,e8,H3⟩:=H.app_Live 0 rfl l[i] (by omega)
    simp(disch:=omega) only[go_sem,c0,e0,e3,e5,e6,e7,hln,C1,e8]
    refine hJ _ _ _ ⟨?_,?_,w',false,_,?_,?_,Fo hok hi (.inr hq2),H3⟩
    all_goals simp only[go_sem,e0,e3,e6]
   |true=>
    have hq2:C5 x l[i]=true:=hq
    obtain⟨w',U3,e8,H3⟩:=H.app_Live 0 rfl x (by omega)
    have H3:Hp N U3 [ow Ap.kd w' (nxt++[x]),pt 1 n1 (Qw x)]:=H3
    have hp:=Qn hok hi hq2
    have hnl2:=Ey hp
    simp only[Zah,Zbc,Za5] at hnl2
    have C2:=Aa (h.pre H3.sub) hi
    obtain⟨w2,U4,e9,H4⟩:=H3.app_Live 0 rfl l[i] (by simp;omega)
    simp(disch:=omega) only[go_sem,c0,e0,e3,e5,e6,e7,hln,C1,A7 (H.pt 1 rfl),e8,C2,e9]
    refine hJ _ _ _ ⟨?_,?_,w2,true,_,?_,?_,hp,H4⟩
    all_goals simp only[go_sem,e0,e3,e6]
 ·clear H
  rintro Yq hY env U e7 c0 ⟨e0,e3,u,put,nxt,e5,e6,hok,H⟩
  have hln:=(h.pre H.sub).len
  simp only[go_sem,c0,e0,e3,e5,e6,e7,hln]
  refine hY _ _ ⟨?_,u,put,nxt,?_,?_,hok,H⟩
  all_goals simp only[go_sem,e3,e5,e6]
 ·clear H
  rintro env U ⟨e3,u,put,nxt,e5,e6,hok,H⟩
  have hnl:=Ey hok
  have hend:=Ve hok
  cases put with
  |true=>
   simp only[go_sem,e3,e5,e6]
   refine⟨_,rfl,?_⟩
   rw[Hy,<-hend]
   exact H.one
  |false=>
   obtain⟨w',U3,e8,H3⟩:=H.app_Live 0 rfl x (by omega)
   simp only[go_sem,e3,e5,e6,A7 (H.pt 1 rfl),e8]
   refine⟨_,rfl,?_⟩
   rw[Hy,<-hend]
   exact H3.one
theorem Vn (N:St) (v:GV) (l:List Cell) (h:RS Ai.kd N v l) (x:Cell) (hl:l.length<=1099511627776):∃ r U,Ret Tryz.prog 322 [v,.agg (Ss x)] N r U/\Hp N U [ow Ai.kd r (Kc x l)]:=by
 refine Hu Ae5 (Z0z rfl) ?_
 have H:=((Hp.refl N).new 1 (Ss x)).nil_Cell
 simp only[go_sem,A4b]
 generalize hn1:N.length=n1 at*
 refine Sp l.length 7 0 (fun i env U=>env 0=v/\env 3= .ptr n1 0/\∃(u:GV) (put:Bool) (nxt:List Cell),env 5=u/\env 6= .bool put/\insG Dk x l nxt i put/\Hp N U [ow Ai.kd u nxt,pt 1 n1 (Ss x)]) (fun env U=>env 3= .ptr n1 0/\∃(u:GV) (put:Bool) (nxt:List Cell),env 5=u/\env 6= .bool put/\insG Dk x l nxt l.length put/\Hp N U [ow Ai.kd u nxt,pt 1 n1 (Ss x)]) rfl ⟨rfl,rfl,_,false,[],rfl,rfl,Vd,H⟩ ?_ ?_ ?_
 ·clear H
  rintro J Yq hJ hY i env U hi e7 c0 ⟨e0,e3,u,put,nxt,e5,e6,hok,H⟩
  have hnl:=Ey hok
  have hln:=(h.pre H.sub).len
  have C1:=Ab (h.pre H.sub) hi
  cases put with
  |true=>
   obtain⟨w',U3,e8,H3⟩:=H.app_Cell 0 rfl l[i] (by omega)
   simp(disch:=omega) only[go_sem,c0,e0,e3,e5,e6,e7,hln,C1,e8]
   refine hJ _ _ _ ⟨?_,?_,w',true,_,?_,?_,Fo hok hi (.inl rfl),H3⟩
   all_goals simp only[go_sem,e0,e3,e6]
  |false=>
   simp only[go_sem,c0,e0,e3,e5,e6,e7,hln,C1,A7 (H.pt 1 rfl)]
   refine Ao (Dm _ _ _) ?_
   cases hq:Az x.dot l[i].dot with
   |false=>
    have hq2:Dk x l[i]=false:=hq
    obtain⟨w',U3,e8,H3⟩:=H.app_Cell 0 rfl l[i] (by omega)
    simp(disch:=omega) only[go_sem,c0,e0,e3,e5,e6,e7,hln,C1,e8]
    refine hJ _ _ _ ⟨?_,?_,w',false,_,?_,?_,Fo hok hi (.inr hq2),H3⟩
    all_goals simp only[go_sem,e0,e3,e6]
   |true=>
    have hq2:Dk x l[i]=true:=hq
    obtain⟨w',U3,e8,H3⟩:=H.app_Cell 0 rfl x (by omega)
    have H3:Hp N U3 [ow Ai.kd w' (nxt++[x]),pt 1 n1 (Ss x)]:=H3
    have hp:=Qn hok hi hq2
    have hnl2:=Ey hp
    simp only[Zah,Zbc,Za5] at hnl2
    have C2:=Ab (h.pre H3.sub) hi
    obtain⟨w2,U4,e9,H4⟩:=H3.app_Cell 0 rfl l[i] (by simp;omega)
    simp(disch:=omega) only[go_sem,c0,e0,e3,e5,e6,e7,hln,C1,A7 (H.pt 1 rfl),e8,C2,e9]
    refine hJ _ _ _ ⟨?_,?_,w2,true,_,?_,?_,hp,H4⟩
    all_goals simp only[go_sem,e0,e3,e6]
 ·clear H
  rintro Yq hY env U e7 c0 ⟨e0,e3,u,put,nxt,e5,e6,hok,H⟩
  have hln:=(h.pre H.sub).len
  simp only[go_sem,c0,e0,e3,e5,e6,e7,hln]
  refine hY _ _ ⟨?_,u,put,nxt,?_,?_,hok,H⟩
  all_goals simp only[go_sem,e3,e5,e6]
 ·clear H
  rintro env U ⟨e3,u,put,nxt,e5,e6,hok,H⟩
  have hnl:=Ey hok
  have hend:=Ve hok
  cases put with
  |true=>
   simp only[go_sem,e3,e5,e6]
   refine⟨_,rfl,?_⟩
   rw[Kc,<-hend]
   exact H.one
  |false=>
   obtain⟨w',U3,e8,H3⟩:=H.app_Cell 0 rfl x (by omega)
   simp only[go_sem,e3,e5,e6,A7 (H.pt 1 rfl),e8]
   refine⟨_,rfl,?_⟩
   rw[Kc,<-hend]
   exact H3.one
theorem Ae6 (N:St) (cs:List GV) (s:State) (hR:A4.R N s cs) (as':List GV) (a:Act) (hS:kAct.R N a as') (hl:Ad s<=1099511627776):Ret Tryz.prog 248 [.agg cs,.agg as'] N (.bool (Jn s a)) N:=by
 have hR0:=hR
 have hlc:cs.length=4:=A4.len hR
 obtain⟨a1,b1,c1,v1,rfl,_,_,_,hc⟩:=hR
 obtain⟨kv,rfl,hk⟩:=hS
 obtain⟨l1,l2,l3,l4,_⟩:=C8 hl
 refine B7 Ahm (Z0z rfl) trivial ?_
 have H:=((Hp.refl N).new 1 [a1,b1,c1,v1]).new 1 [.int .i64 a.dot.rep,.int .i64 a.dot.seq,.int .i64 a.time,kv,.int .i64 a.kind,.str a.obj,.str a.key,.int .i64 a.val,.int .i64 a.ref.rep,.int .i64 a.ref.seq]
 have z1:=A7 (a:=false) (n:=1) (off:=4) (H.pt 0 rfl)
 by_cases hin:a.kind=7∨(a.kind=6/\a.ref≠d0)
 ·have CA:=Pj _ _ s (A4.pre hR0 H.sub) a.ref hl
  cases hx:Cx s.cells a.ref with
  |none=>
   have hE:Jn s a=false:=by simp[Jn,hin,hx]
   have hno:Bm s.cells a.ref= -1:=by simp[Bm,hx]
   rw[hno] at CA
   have cm:decide ((0:Int)<= -1)=false:=rfl
   by_cases h7:a.kind=7
   ·have c7:(a.kind != 7)=false:=by simp[h7]
    simp only[go_sem,Iq,c7]
    refine Ao CA ?_
    simp only[go_sem,cm,hE,H.sub]
   ·have h6:a.kind=6/\a.ref≠d0:=hin.resolve_left h7
    have c7:(a.kind != 7)=true:=by simp[h7]
    have c6:(a.kind != 6)=false:=by simp[h6.1]
    have cr:decide (a.ref=⟨0,0⟩)=false:=decide_eq_false h6.2
    simp only[go_sem,Iq,c7,c6,cr,Zbu,Zbv]
    refine Ao CA ?_
    simp only[go_sem,cm,hE,H.sub]
  |some k=>
   obtain⟨hk,hk2⟩:=Bs hx
   have hE:Jn s a=(decide (s.cells[k].obj=a.obj)&&(decide (a.kind=7)||decide (s.cells[k].time<a.time))):=by simp[Jn,hin,hx,Br hk]
   have hno:Bm s.cells a.ref=k:=by simp[Bm,hx]
   rw[hno] at CA
   have cm:decide ((0:Int)<=(k:Int))=true:=by simp
   have C2:=Ab (hc.pre H.sub) hk
   by_cases h7:a.kind=7
   ·have c7:(a.kind != 7)=false:=by simp[h7]
    have d7:(a.kind==7)=true:=by simp[h7]
    rw[decide_eq_true h7,Zbp,Zbi] at hE
    simp only[go_sem,Iq,c7]
    refine Ao CA ?_
    cases ho:decide (s.cells[k].obj=a.obj) with
    |true=>simp only[go_sem,cm,A0,C2,ho,d7,hE,H.sub]
    |false=>simp only[go_sem,cm,A0,C2,ho,hE,H.sub]
   ·have h6:a.kind=6/\a.ref≠d0:=hin.resolve_left h7
    have c7:(a.kind != 7)=true:=by simp[h7]
    have d7:(a.kind==7)=false:=by simp[h7]
    have c6:(a.kind != 6)=false:=by simp[h6.1]
    have cr:decide (a.ref=⟨0,0⟩)=false:=decide_eq_false h6.2
    rw[decide_eq_false h7,Zbz] at hE
    simp only[go_sem,Iq,c7,c6,cr,Zbu,Zbv]
    refine Ao CA ?_
    cases ho:decide (s.cells[k].obj=a.obj) with
    |true=>simp only[go_sem,cm,A0,C2,ho,d7,hE,H.sub,Zb5]
    |false=>simp only[go_sem,cm,A0,C2,ho,hE,H.sub,Zax]
 ·have hE:Jn s a=true:=by unfold Jn;rw[if_neg hin]
  have h7:¬ a.kind=7:=fun h=>hin (.inl h)
  have c7:(a.kind != 7)=true:=by simp[h7]
  by_cases h6:a.kind=6
  ·have hr:a.ref=d0:=by
    by_cases h:a.ref=d0
    ·exact h
    ·exact absurd (.inr ⟨h6,h⟩) hin
   have c6:(a.kind != 6)=false:=by simp[h6]
   have cr:decide (a.ref=⟨0,0⟩)=true:=decide_eq_true hr
   simp only[go_sem,Iq,c7,c6,cr,Zbu,Zbv,hE,H.sub]
  ·have c6:(a.kind != 6)=true:=by simp[h6]
   simp only[go_sem,Iq,c7,c6,hE,H.sub]
theorem Hp.moveTo {N U:St} {r r':Thg} {rs:List Thg} (H:Hp N U (r::rs)) (k:Nat) (hk:rs[k]? =some r'):Hp N U (rs.set k r):=by
 have hkl:=(Zav.1 hk).1
 have h1:=(H.pick (k+1) hk).drop1
 exact Hp.unpick h1 hkl
theorem An4 {P:Program} {a:Cd} {Q:Ex->Env->St->Prop} {env:Env} {N:St} (n ri j0:Nat) (I:Nat->Env->St->Prop) (X Z:Env->St->Prop) (hr:env ri=gi 0) (h0:I 0 env N)
  (hs:∀(J:Nat->Env->St->Prop) (Yq Wq:Env->St->Prop),(∀ i env N,I i env N->J i env N)->(∀ env N,X env N->Yq env N)->(∀ env N,Z env N->Wq env N)->∀ i env N,i<n->env ri=gi i->decide ((i:Int)<n)=true->I i env N->vc P a (fun e env' N'=>match e with| .nxt=>env' ri=gi ((i:Int)+1)/\J (i+1) env' N'| .ext j=>j=j0/\Yq env' N'| .ret=>Wq env' N') env N)
  (he:∀(Yq:Env->St->Prop),(∀ env N,X env N->Yq env N)->∀ env N,env ri=gi n->decide ((n:Int)<n)=false->I n env N->vc P a (fun e env' N'=>match e with| .nxt=>False| .ext j=>j=j0/\Yq env' N'| .ret=>False) env N)
  (hx:∀ env N,X env N->Q (.ext j0) env N) (hz:∀ env N,Z env N->Q .ret env N):vc P (.lop a) Q env N:=by
 refine Dg n ri I hr h0 (fun i env N h1 h2 h3 h4=>Bh (hs I X Z (fun _ _ _ h=>h) (fun _ _ h=>h) (fun _ _ h=>h) i env N h1 h2 h3 h4) fun e env' N' hq=> ?_) (fun env N h1 h2 h3=>Bh (he X (fun _ _ h=>h) env N h1 h2 h3) fun e env' N' hq=> ?_)
 ·cases e with
  |nxt=>exact hq
  |ret=>exact hz _ _ hq
  |ext j=>obtain⟨rfl,hq⟩:=hq;exact hx _ _ hq
 ·cases e with
  |nxt=>exact hq
  |ret=>exact hq.elim
  |ext j=>obtain⟨rfl,hq⟩:=hq;exact hx _ _ hq
def A17:Fn1:=⟨61,[],(rg [o 13 (.lit 6 0 [] []),oM 10 13] (.seq (rg [oV 11 (ki 0)] (oH 0 (.seq (rg [oM 14 11,oM 15 0,oK 16 15,oF 17 2 16,oL 18 17,oN 19 18,oB 20 .lss 14 19] (oJ 20 0)) (.seq (.blk 1 (rg [oM 23 0,oK 24 23,oF 25 2 24,oL 26 25,oM 27 11,oI 28 6 26 27,oW 29 6 28,o 12 (.new [(.bool false),s0,s0,z0,z0,z0]),oS 6 12 29] (rg [oF 30 0 12,oL 31 30,oM 32 1,o 33 (.eqb true (.t 31) (.t 32)),oM 34 33,vF 35 34 1 12,vL 36 34 35,vM 37 34 2,vB 38 34 .neq 36 37,oP 39 34 38,oM 40 39,vF 41 40 2 12,vL 42 40 41,vM 43 40 3,vB 44 40 .neq 42 43,oP 45 40 44,oM 46 45,vM 47 46 4,vF 48 46 4 12,vW 49 46 2 48,vD 50 46 45 47 49,vU 51 46 50,oP 52 46 51] (oG 52 (.reg [oM 53 10,oW 54 6 12,o 55 (.lit 6 1 [(.bool false),s0,s0,z0,z0,z0] [(0,6,(.t 54))]),o 56 (.app 6 64 [(.bool false),s0,s0,z0,z0,z0] (.t 53) (.t 55)),oM 10 56]))))) (.reg [oM 21 11,oZ 22 21 1,oM 11 22]))))) (.reg [oM 57 0,oM 58 10,oK 59 57,oF 60 2 59,oS 1 60 58])))⟩
theorem Aan:A8 Tryz.prog 321=some A17:=by kernel_rfl
def A18:Fn1:=⟨113,[],(.seq (rg [oV 8 (ki 0)] (oH 0 (.seq (rg [oM 14 8,oM 15 0,oK 16 15,oF 17 1 16,oL 18 17,oN 19 18,oB 20 .lss 14 19] (oJ 20 0)) (.seq (.blk 1 (rg [oM 23 0,oK 24 23,oF 25 1 24,oL 26 25,oM 27 8,oI 28 3 26 27,oW 29 3 28,o 9 (.new [s0,z0,z0]),oS 3 9 29] (rg [oF 30 0 9,oL 31 30,oM 32 1,oB 33 .eql 31 32,oM 34 33,jF 35 34 1 9,jL 36 34 35,jM 37 34 2,jB 38 34 .eql 36 37,oQ 39 34 38] (oG 39 (dw [oM 40 0,oK 41 40,oF 42 1 41,oL 43 42,oM 44 8,oF 45 2 9,oL 46 45] [oM 47 3,oB 48 .add 46 47,oE 49 .rem 48 1000000,oI 50 3 43 44,oF 51 2 50,oS 1 51 49] .ret))))) (.reg [oM 21 8,oZ 22 21 1,oM 8 22]))))) (rg [o 52 (.lit 3 0 [] []),oM 10 52] (rg [oV 11 kf] (.seq (rg [oV 12 (ki 0)] (oH 2 (.seq (rg [oM 53 12,oM 54 0,oK 55 54,oF 56 1 55,oL 57 56,oN 58 57,oB 59 .lss 53 58] (oJ 59 2)) (.seq (.blk 3 (rg [oM 62 0,oK 63 62,oF 64 1 63,oL 65 64,oM 66 12,oI 67 3 65 66,oW 68 3 67,o 13 (.new [s0,z0,z0]),oS 3 13 68] (.seq (rg [oM 69 11,oU 70 69,oM 71 70,jF 72 71 0 13,jL 73 71 72,jM 74 71 1,jB 75 71 .gtr 73 74,jM 76 71 75,vF 77 76 0 13,vL 78 76 77,vM 79 76 1,vB 80 76 .eql 78 79,vM 81 76 80,jF 82 81 1 13,jL 83 81 82,jM 84 81 2,jB 85 81 .gtr 83 84,og 86 76 false (.pick (.t 81) (.t 85) kf),og 87 71 true (.pick (.t 76) kt (.t 86)),oQ 88 71 87] (oG 88 (rg [oM 89 10,oM 90 1,oM 91 2,oM 92 3,o 93 (.build [s0,z0,z0] [(0,1,(.t 90)),(1,1,(.t 91)),(2,1,(.t 92))]),o 94 (.lit 3 1 [s0,z0,z0] [(0,3,(.t 93))]),o 95 (.app 3 32 [s0,z0,z0] (.t 89) (.t 94)),oM 10 95] (.reg [oV 11 kt])))) (.reg [oM 96 10,oW 97 3 13,o 98 (.lit 3 1 [s0,z0,z0] [(0,3,(.t 97))]),o 99 (.app 3 32 [s0,z0,z0] (.t 96) (.t 98)),oM 10 99])))) (.reg [oM 60 12,oZ 61 60 1,oM 12 61]))))) (.seq (rg [oM 100 11,oU 101 100] (oG 101 (.reg [oM 102 10,oM 103 1,oM 104 2,oM 105 3,o 106 (.build [s0,z0,z0] [(0,1,(.t 103)),(1,1,(.t 104)),(2,1,(.t 105))]),o 107 (.lit 3 1 [s0,z0,z0] [(0,3,(.t 106))]),o 108 (.app 3 32 [s0,z0,z0] (.t 102) (.t 107)),oM 10 108]))) (.reg [oM 109 0,oM 110 10,oK 111 109,oF 112 1 111,oS 1 112 110]))))))⟩
theorem Aao:A8 Tryz.prog 319=some A18:=by kernel_rfl
def SPtr (N0 U:St) (g:Nat) (s:State) (rest:List Thg):Prop:=∃ v0 v1 v2 v3,Hp N0 U (ow pI.kd v0 s.know::ow Ah.kd v1 s.tallies::ow Ap.kd v2 s.lives::ow Ai.kd v3 s.cells::pt 1 g [v0,v1,v2,v3]::rest)
theorem Lk {N0 N:St} {g:Nat} {s:State} {rest:List Thg} (H:SPtr N0 N g s rest) (m:Bool) (o k:ByteArray) (kv:GV) (knew:List Int) (hk:RS pI.kd N0 kv knew) (hl:Ad s<=1099511627776) (hkl:knew.length<=1099511627776):∃ U,Ret Tryz.prog 321 [.ptr g 0,.bool m,.str o,.str k,kv] N (.tup []) U/\SPtr N0 U g {s with lives:=s.lives.filter (Lz m o k knew)} rest:=by
 obtain⟨v0,v1,v2,v3,H⟩:=H
 obtain⟨l1,l2,l3,l4,_⟩:=C8 hl
 have key:∃ r U,Ret Tryz.prog 321 [.ptr g 0,.bool m,.str o,.str k,kv] N r U/\r= .tup []/\SPtr N0 U g {s with lives:=s.lives.filter (Lz m o k knew)} rest:=by
  refine Hu Aan (Z0z rfl) ?_
  have H:=H.nil_Live
  simp only[go_sem,A17]
  generalize hp:Lz m o k knew=p
  refine Sp s.lives.length 11 0 (fun i env U=>env 0= .ptr g 0/\env 1= .bool m/\env 2= .str o/\env 3= .str k/\env 4=kv/\∃ w,env 10=w/\Hp N0 U (ow Ap.kd w ((s.lives.take i).filter p)::ow pI.kd v0 s.know::ow Ah.kd v1 s.tallies::ow Ap.kd v2 s.lives::ow Ai.kd v3 s.cells::pt 1 g [v0,v1,v2,v3]::rest)) (fun env U=>env 0= .ptr g 0/\∃ w,env 10=w/\Hp N0 U (ow Ap.kd w (s.lives.filter p)::ow pI.kd v0 s.know::ow Ah.kd v1 s.tallies::ow Ap.kd v2 s.lives::ow Ai.kd v3 s.cells::pt 1 g [v0,v1,v2,v3]::rest)) rfl ⟨rfl,rfl,rfl,rfl,rfl,_,rfl,H⟩ ?_ ?_ ?_
  ·clear H
   rintro J Yq hJ hY i env U hi e11 c0 ⟨e0,e1,e2,e3,e4,w,e10,H⟩
   have hfl:=Ke s.lives p i
   have hsn:=L8 (p:=p) hi
   have C1:=Aa (H.sl 3 rfl) hi
   have hln:=(H.sl 3 rfl).len
   have zb:=H.pt 5 rfl
   have G:=H.grow (pre1 U (some (Blk.row 1 (Qw s.lives[i]))))
   have hkeep:p s.lives[i]=(!(s.lives[i].map==m)||(!decide (s.lives[i].obj=o)||(!decide (s.lives[i].key=k)|| !As knew s.lives[i].dot))):=by rw[<- hp];rfl
   obtain⟨w',U3,e8,H3⟩:=G.app_Live 0 rfl s.lives[i] (by omega)
   have kn:=Ba _ kv knew s.lives[i].dot (hk.pre G.sub) hkl
   cases h1:(s.lives[i].map==m) with
   |false=>
    rw[h1] at hkeep
    have hk0:p s.lives[i]=true:=by rw[hkeep];rfl
    rw[hk0,if_pos rfl] at hsn
    simp(disch:=omega) only[go_sem,c0,e0,e1,e2,e3,e4,e10,e11,A7 zb,hln,C1,h1,Bool.xor_false,Zap,Zai,e8]
    refine hJ _ _ _ ⟨?_,?_,?_,?_,?_,w',?_,by rw[hsn];exact H3⟩
    all_goals simp only[go_sem,e0,e1,e2,e3,e4,e10]
   |true=>
    cases h2:decide (s.lives[i].obj=o) with
    |false=>
     rw[h1,h2] at hkeep
     have hk0:p s.lives[i]=true:=by rw[hkeep];rfl
     rw[hk0,if_pos rfl] at hsn
     simp(disch:=omega) only[go_sem,c0,e0,e1,e2,e3,e4,e10,e11,A7 zb,hln,C1,h1,h2,Zap,Zai,Zan,e8]
     refine hJ _ _ _ ⟨?_,?_,?_,?_,?_,w',?_,by rw[hsn];exact H3⟩
     all_goals simp only[go_sem,e0,e1,e2,e3,e4,e10]
    |true=>
     cases h3:decide (s.lives[i].key=k) with
     |false=>
      rw[h1,h2,h3] at hkeep
      have hk0:p s.lives[i]=true:=by rw[hkeep];rfl
      rw[hk0,if_pos rfl] at hsn
      simp(disch:=omega) only[go_sem,c0,e0,e1,e2,e3,e4,e10,e11,A7 zb,hln,C1,h1,h2,h3,Zap,Zai,Zan,e8]
      refine hJ _ _ _ ⟨?_,?_,?_,?_,?_,w',?_,by rw[hsn];exact H3⟩
      all_goals simp only[go_sem,e0,e1,e2,e3,e4,e10]
     |true=>
      simp only[go_sem,c0,e0,e1,e2,e3,e4,e10,e11,A7 zb,hln,C1,h1,h2,h3,Zap,Zai,Zan]
      refine Ao kn ?_
      cases h4:As knew s.lives[i].dot with
      |false=>
       rw[h1,h2,h3,h4] at hkeep
       have hk0:p s.lives[i]=true:=by rw[hkeep];rfl
       rw[hk0,if_pos rfl] at hsn
       simp(disch:=omega) only[go_sem,e0,e1,e2,e3,e4,e10,e11,C1,h4,e8]
       refine hJ _ _ _ ⟨?_,?_,?_,?_,?_,w',?_,by rw[hsn];exact H3⟩
       all_goals simp only[go_sem,e0,e1,e2,e3,e4,e10]
      |true=>
       rw[h1,h2,h3,h4] at hkeep
       have hk0:p s.lives[i]=false:=by rw[hkeep];rfl
       rw[hk0,if_neg (by simp),Zbq] at hsn
       simp(disch:=omega) only[go_sem,e0,e1,e2,e3,e4,e10,e11,h4]
       refine hJ _ _ _ ⟨?_,?_,?_,?_,?_,w,?_,by rw[hsn];exact G⟩
       all_goals simp only[go_sem,e0,e1,e2,e3,e4,e10]
  ·clear H
   rintro Yq hY env U e11 c0 ⟨e0,e1,e2,e3,e4,w,e10,H⟩
   rw[Zb2] at H
   have hln:=(H.sl 3 rfl).len
   simp only[go_sem,c0,e0,e1,e2,e3,e4,e10,e11,A7 (H.pt 5 rfl),hln]
   refine hY _ _ ⟨?_,w,?_,H⟩
   all_goals simp only[go_sem,e0,e10]
  ·clear H
   rintro env U ⟨e0,w,e10,H⟩
   have c1:=(H.sl 0 rfl).cell
   obtain⟨U1,s1,H1,_⟩:=H.st 5 rfl 1 2 w (by rw[c1];rfl) (by decide) (by simp)
   simp only[go_sem,e0,e10,s1]
   refine⟨_,rfl,rfl,v0,v1,w,v3,?_⟩
   simp only[c1,Zad,Zae,D7,D6,E2] at H1
   exact Hp.moveTo H1 2 rfl
 obtain⟨r,U,R,rfl,h⟩:=key
 exact⟨U,R,h⟩
theorem Js {Y:Type} (f:Y->Y):∀ {l:List Y} {i:Nat} (hi:i<l.length),l.modify i f=l.set i (f l[i])
 |x::l,0,_=>by simp
 |x::l,i+1,hi=>by
  rw[List.modify_succ_cons,Js f (by simpa using hi)]
  simp
theorem Akp {l:List Tally} {o:ByteArray} {r:Int} {i:Nat} (hi:i<l.length) (ha:∀ j (hj:j<l.length),j<i->In o r l[j]=false) (h:In o r l[i]=true):l.findIdx? (In o r)=some i:=by
 rw[List.findIdx?_eq_some_iff_getElem]
 exact⟨hi,h,fun j hj=>by rw[ha j (by omega) hj];simp⟩
theorem Gg {N0 N:St} {g:Nat} {s:State} {rest:List Thg} (H:SPtr N0 N g s rest) (o:ByteArray) (rep val:Int) (hl:Ad s<=1099511627776) (hv: -1000000<=val/\val<=1000000) (hs:∀ t∈s.tallies,-1000000<=t.sum/\t.sum<=1000000):∃ U,Ret Tryz.prog 319 [.ptr g 0,.str o,gi rep,gi val] N (.tup []) U/\SPtr N0 U g {s with tallies:=Eb s.tallies o rep val} rest:=by
 obtain⟨v0,v1,v2,v3,H⟩:=H
 obtain⟨l1,l2,l3,l4,_⟩:=C8 hl
 have key:∃ r U,Ret Tryz.prog 319 [.ptr g 0,.str o,gi rep,gi val] N r U/\r= .tup []/\SPtr N0 U g {s with tallies:=Eb s.tallies o rep val} rest:=by
  refine Hu Aao (Z0z rfl) ?_
  simp only[go_sem,A18]
  refine An4 s.tallies.length 8 0 (fun i env U=>env 0= .ptr g 0/\env 1= .str o/\env 2=gi rep/\env 3=gi val/\(∀ j (hj:j<s.tallies.length),j<i->In o rep s.tallies[j]=false)/\Hp N0 U (ow pI.kd v0 s.know::ow Ah.kd v1 s.tallies::ow Ap.kd v2 s.lives::ow Ai.kd v3 s.cells::pt 1 g [v0,v1,v2,v3]::rest)) (fun env U=>env 0= .ptr g 0/\env 1= .str o/\env 2=gi rep/\env 3=gi val/\s.tallies.findIdx? (In o rep)=none/\Hp N0 U (ow pI.kd v0 s.know::ow Ah.kd v1 s.tallies::ow Ap.kd v2 s.lives::ow Ai.kd v3 s.cells::pt 1 g [v0,v1,v2,v3]::rest)) (fun env U=>SPtr N0 U g {s with tallies:=Eb s.tallies o rep val} rest) rfl ⟨rfl,rfl,rfl,rfl,fun j _ hj=>by omega,H⟩ ?_ ?_ ?_ ?_
  ·clear H
   rintro J Yq Wq hJ hY hW i env U hi e8 c0 ⟨e0,e1,e2,e3,ha,H⟩
   have C1:=Ae (H.sl 1 rfl) hi
   have hln:=(H.sl 1 rfl).len
   have zb:=H.pt 4 rfl
   have G:=H.grow (pre1 U (some (Blk.row 1 (Ae3 s.tallies[i]))))
   have hno:In o rep s.tallies[i]=false->∀ j (hj:j<s.tallies.length),j<i+1->In o rep s.tallies[j]=false:=fun h j hj hji=>by
    rcases Nat.lt_or_ge j i with h2|h2
    ·exact ha j hj h2
    ·have:j=i:=by omega
     subst this;exact h
   cases h1:decide (s.tallies[i].obj=o) with
   |false=>
    simp(disch:=omega) only[go_sem,c0,e0,e1,e2,e3,e8,A7 zb,hln,C1,h1]
    refine hJ _ _ _ ⟨?_,?_,?_,?_,hno (by simp[In,h1]),G⟩
    all_goals simp only[go_sem,e0,e1,e2,e3]
   |true=>
    have o1:s.tallies[i].obj=o:=by simpa using h1
    cases h2:decide (s.tallies[i].rep=rep) with
    |false=>
     have b2:(s.tallies[i].rep==rep)=false:=h2
     simp(disch:=omega) only[go_sem,c0,e0,e1,e2,e3,e8,A7 zb,hln,C1,h1,b2]
     refine hJ _ _ _ ⟨?_,?_,?_,?_,hno (by simp[In,h2]),G⟩
     all_goals simp only[go_sem,e0,e1,e2,e3]
    |true=>
     have b2:(s.tallies[i].rep==rep)=true:=h2
     have hf:=Akp hi ha (by simp only[In,h1,h2];rfl)
     have hsb:=hs _ (Zbd hi)
     have w1:IntKind.i64.wrap (s.tallies[i].sum+val)=s.tallies[i].sum+val:=Eu (by omega) (by omega)
     have C2:=Ae (G.sl 1 rfl) hi
     obtain⟨U1,s1,H1⟩:=G.ste 1 rfl hi 1 2 (gi (addM s.tallies[i].sum val)) {s.tallies[i] with sum:=addM s.tallies[i].sum val} rfl (by decide) (by decide) rfl
     have s1:stG 1 _ (fld 2 (atz 3 v1 i)) (.int .i64 ((s.tallies[i].sum+val).tmod 1000000))=some (.tup [],U1):=s1
     have zc:=G.pt 4 rfl
     simp only[go_sem,c0,e0,e1,e2,e3,e8,A7 zb,A7 zc,hln,C1,C2,h1,b2,A0,w1,s1]
     refine hW _ _ ⟨v0,v1,v2,v3,?_⟩
     have hE:Eb s.tallies o rep val=s.tallies.set i {s.tallies[i] with sum:=addM s.tallies[i].sum val}:=by
      unfold Eb
      rw[hf]
      simp only[]
      rw[Js _ hi]
     show Hp N0 U1 (ow pI.kd v0 s.know::ow Ah.kd v1 (Eb s.tallies o rep val)::ow Ap.kd v2 s.lives::ow Ai.kd v3 s.cells::pt 1 g [v0,v1,v2,v3]::rest)
     rw[hE]
     exact H1
  ·clear H
   rintro Yq hY env U e8 c0 ⟨e0,e1,e2,e3,ha,H⟩
   have hln:=(H.sl 1 rfl).len
   have hnf:s.tallies.findIdx? (In o rep)=none:=by
    rw[List.findIdx?_eq_none_iff]
    intro t ht
    obtain⟨j,hj,rfl⟩:=Zas ht
    exact ha j hj hj
   simp only[go_sem,c0,e0,e1,e2,e3,e8,A7 (H.pt 4 rfl),hln]
   refine hY _ _ ⟨?_,?_,?_,?_,hnf,H⟩
   all_goals simp only[go_sem,e0,e1,e2,e3]
  ·clear H
   rintro env U ⟨e0,e1,e2,e3,hnf,H⟩
   have hE:Eb s.tallies o rep val=insB Af ⟨o,rep,val⟩ s.tallies:=by unfold Eb;rw[hnf]
   rw[hE]
   have H:=H.nil_Tally
   simp only[go_sem,e0,e1,e2,e3]
   refine Sp s.tallies.length 12 2 (fun i env U=>env 0= .ptr g 0/\env 1= .str o/\env 2=gi rep/\env 3=gi val/\∃(u:GV) (put:Bool) (nxt:List Tally),env 10=u/\env 11= .bool put/\insG Af ⟨o,rep,val⟩ s.tallies nxt i put/\Hp N0 U (ow Ah.kd u nxt::ow pI.kd v0 s.know::ow Ah.kd v1 s.tallies::ow Ap.kd v2 s.lives::ow Ai.kd v3 s.cells::pt 1 g [v0,v1,v2,v3]::rest)) (fun env U=>env 0= .ptr g 0/\env 1= .str o/\env 2=gi rep/\env 3=gi val/\∃(u:GV) (put:Bool) (nxt:List Tally),env 10=u/\env 11= .bool put/\insG Af ⟨o,rep,val⟩ s.tallies nxt s.tallies.length put/\Hp N0 U (ow Ah.kd u nxt::ow pI.kd v0 s.know::ow Ah.kd v1 s.tallies::ow Ap.kd v2 s.lives::ow Ai.kd v3 s.cells::pt 1 g [v0,v1,v2,v3]::rest)) rfl ⟨e0,e1,e2,e3,_,false,[],rfl,rfl,Vd,H⟩ ?_ ?_ ?_
   ·clear H e0 e1 e2 e3
    rintro J Yq hJ hY i env U hi e12 c0 ⟨e0,e1,e2,e3,u,put,nxt,e10,e11,hok,H⟩
    have hnl:=Ey hok
    have C1:=Ae (H.sl 2 rfl) hi
    have hln:=(H.sl 2 rfl).len
    have zb:=H.pt 5 rfl
    have G:=H.grow (pre1 U (some (Blk.row 1 (Ae3 s.tallies[i]))))
    have hlt:Af ⟨o,rep,val⟩ s.tallies[i]=(txLt o s.tallies[i].obj||(decide (s.tallies[i].obj=o)&&decide (rep<s.tallies[i].rep))):=by
     unfold Af
     have:decide (o=s.tallies[i].obj)=decide (s.tallies[i].obj=o):=by rw[decide_eq_decide];exact eq_comm
     rw[this]
    have HN:=H.new 1 (Ae3 s.tallies[i])
    cases put with
    |true=>
     obtain⟨w',U3,e8,H3⟩:=G.app_Tally 0 rfl s.tallies[i] (by omega)
     simp(disch:=omega) only[go_sem,c0,e0,e1,e2,e3,e10,e11,e12,A7 zb,hln,C1,Zan,e8]
     refine hJ _ _ _ ⟨?_,?_,?_,?_,w',true,_,?_,?_,Fo hok hi (.inl rfl),H3⟩
     all_goals simp only[go_sem,e0,e1,e2,e3,e11]
    |false=>
     cases h1:txLt o s.tallies[i].obj with
     |true=>
      have hq:Af ⟨o,rep,val⟩ s.tallies[i]=true:=by rw[hlt,h1];rfl
      have hp:=Qn hok hi hq
      have hnl2:=Ey hp
      simp only[Zah,Zbc,Za5] at hnl2
      obtain⟨w4,U4,e9,H4⟩:=HN.app_Tally 1 rfl ⟨o,rep,val⟩ (by omega)
      have H4:Hp N0 U4 (pt 1 U.length (Ae3 s.tallies[i])::ow Ah.kd w4 (nxt++[⟨o,rep,val⟩])::ow pI.kd v0 s.know::ow Ah.kd v1 s.tallies::ow Ap.kd v2 s.lives::ow Ai.kd v3 s.cells::pt 1 g [v0,v1,v2,v3]::rest):=H4
      have zx:=A7 (a:=true) (n:=3) (off:=0) (H4.pt 0 rfl)
      obtain⟨w5,U5,e13,H5⟩:=H4.app_Tally 1 rfl s.tallies[i] (by simp;omega)
      simp(disch:=omega) only[go_sem,c0,e0,e1,e2,e3,e10,e11,e12,A7 zb,hln,C1,Zai,h1,e9,zx,e13]
      refine hJ _ _ _ ⟨?_,?_,?_,?_,w5,true,_,?_,?_,hp,H5.drop1⟩
      all_goals simp only[go_sem,e0,e1,e2,e3,e11]
     |false=>
      cases h2:decide (s.tallies[i].obj=o) with
      |false=>
       obtain⟨w',U3,e8,H3⟩:=G.app_Tally 0 rfl s.tallies[i] (by omega)
       simp(disch:=omega) only[go_sem,c0,e0,e1,e2,e3,e10,e11,e12,A7 zb,hln,C1,Zai,h1,h2,e8]
       refine hJ _ _ _ ⟨?_,?_,?_,?_,w',false,_,?_,?_,Fo hok hi (.inr (by rw[hlt,h1,h2];rfl)),H3⟩
       all_goals simp only[go_sem,e0,e1,e2,e3,e11]
      |true=>
       cases h3:decide (rep<s.tallies[i].rep) with
       |true=>
        have hq:Af ⟨o,rep,val⟩ s.tallies[i]=true:=by rw[hlt,h1,h2,h3];rfl
        have hp:=Qn hok hi hq
        have hnl2:=Ey hp
        simp only[Zah,Zbc,Za5] at hnl2
        obtain⟨w4,U4,e9,H4⟩:=HN.app_Tally 1 rfl ⟨o,rep,val⟩ (by omega)
        have H4:Hp N0 U4 (pt 1 U.length (Ae3 s.tallies[i])::ow Ah.kd w4 (nxt++[⟨o,rep,val⟩])::ow pI.kd v0 s.know::ow Ah.kd v1 s.tallies::ow Ap.kd v2 s.lives::ow Ai.kd v3 s.cells::pt 1 g [v0,v1,v2,v3]::rest):=H4
        have zx:=A7 (a:=true) (n:=3) (off:=0) (H4.pt 0 rfl)
        obtain⟨w5,U5,e13,H5⟩:=H4.app_Tally 1 rfl s.tallies[i] (by simp;omega)
        simp(disch:=omega) only[go_sem,c0,e0,e1,e2,e3,e10,e11,e12,A7 zb,hln,C1,Zai,h1,h2,h3,e9,zx,e13]
        refine hJ _ _ _ ⟨?_,?_,?_,?_,w5,true,_,?_,?_,hp,H5.drop1⟩
        all_goals simp only[go_sem,e0,e1,e2,e3,e11]
       |false=>
        obtain⟨w',U3,e8,H3⟩:=G.app_Tally 0 rfl s.tallies[i] (by omega)
        simp(disch:=omega) only[go_sem,c0,e0,e1,e2,e3,e10,e11,e12,A7 zb,hln,C1,Zai,h1,h2,h3,e8]
        refine hJ _ _ _ ⟨?_,?_,?_,?_,w',false,_,?_,?_,Fo hok hi (.inr (by rw[hlt,h1,h2,h3];rfl)),H3⟩
        all_goals simp only[go_sem,e0,e1,e2,e3,e11]
   ·clear H e0 e1 e2 e3
    rintro Yq hY env U e12 c0 ⟨e0,e1,e2,e3,u,put,nxt,e10,e11,hok,H⟩
    have hln:=(H.sl 2 rfl).len
    simp only[go_sem,c0,e0,e1,e2,e3,e10,e11,e12,A7 (H.pt 5 rfl),hln]
    refine hY _ _ ⟨?_,?_,?_,?_,u,put,nxt,?_,?_,hok,H⟩
    all_goals simp only[go_sem,e0,e1,e2,e3,e10,e11]
   ·clear H e0 e1 e2 e3
    rintro env U ⟨e0,e1,e2,e3,u,put,nxt,e10,e11,hok,H⟩
    have hnl:=Ey hok
    have hend:=Ve hok
    cases put with
    |true=>
     have c1:=(H.sl 0 rfl).cell
     obtain⟨U1,s1,H1,_⟩:=H.st 5 rfl 1 1 u (by rw[c1];rfl) (by decide) (by simp)
     simp only[go_sem,e0,e1,e2,e3,e10,e11,Zan,s1]
     refine⟨_,rfl,rfl,v0,u,v2,v3,?_⟩
     simp only[c1,Zad,Zae,D7,D6,E2] at H1
     rw[<- hend]
     exact Hp.moveTo H1 1 rfl
    |false=>
     obtain⟨w',U3,e8,H3⟩:=H.app_Tally 0 rfl ⟨o,rep,val⟩ (by omega)
     have H3:Hp N0 U3 (ow Ah.kd w' (nxt++[⟨o,rep,val⟩])::ow pI.kd v0 s.know::ow Ah.kd v1 s.tallies::ow Ap.kd v2 s.lives::ow Ai.kd v3 s.cells::pt 1 g [v0,v1,v2,v3]::rest):=H3
     have c1:=(H3.sl 0 rfl).cell
     obtain⟨U1,s1,H1,_⟩:=H3.st 5 rfl 1 1 w' (by rw[c1];rfl) (by decide) (by simp)
     simp only[go_sem,e0,e1,e2,e3,e10,e11,Zai,e8,s1]
     refine⟨_,rfl,rfl,v0,w',v2,v3,?_⟩
     simp only[c1,Zad,Zae,D7,D6,E2] at H1
     rw[<- hend]
     exact Hp.moveTo H1 1 rfl
  ·clear H
   rintro env U h
   simp only[go_sem]
   exact⟨_,rfl,rfl,h⟩
 obtain⟨r,U,R,rfl,h⟩:=key
 exact⟨U,R,h⟩
def Ae7:Fn1:=⟨127,[],(rg [oX 3 1] (dw [oM 4 0,oK 5 4,oF 6 0 5,oL 7 6,oF 8 0 3,oF 9 0 8,oL 10 9,oF 11 0 3,oF 12 1 11,oL 13 12] [oI 14 1 7 10,oS 1 14 13] (rg [oF 15 4 3,oL 16 15] (.blk 0 (rg [oE 18 .eql 16 1,oM 17 18] (cn 17 (.reg [oM 19 0,oF 20 5 3,oL 21 20,oF 22 0 3,oF 23 0 22,oL 24 23,oF 25 7 3,oL 26 25,o 27 (.call 319 (oT [19,21,24,26]))]) (rg [oE 29 .eql 16 2,oM 28 29] (cn 28 (.drw [oM 30 0,oM 31 0,oK 32 31,oF 33 2 32,oL 34 33,oF 35 5 3,oL 36 35,oF 37 6 3,oL 38 37,oF 39 0 3,oW 40 2 39] [o 41 (.build [(.bool false),s0,s0,z0,z0,z0] [(1,1,(.t 36)),(2,1,(.t 38)),(4,2,(.t 40))]),oD 42 320 34 41,oK 43 30,oF 44 2 43,oS 1 44 42]) (rg [oE 46 .eql 16 3,oM 45 46] (cn 45 (.reg [oM 47 0,oF 48 5 3,oL 49 48,oF 50 6 3,oL 51 50,oF 52 3 3,oL 53 52,o 54 (.call 321 [(.t 47),kf,(.t 49),(.t 51),(.t 53)])]) (rg [oE 56 .eql 16 4,oM 55 56] (cn 55 (rg [oM 57 0,oF 58 5 3,oL 59 58,oF 60 6 3,oL 61 60,oF 62 3 3,oL 63 62,o 64 (.call 321 [(.t 57),kt,(.t 59),(.t 61),(.t 63)])] (.drw [oM 65 0,oM 66 0,oK 67 66,oF 68 2 67,oL 69 68,oF 70 5 3,oL 71 70,oF 72 6 3,oL 73 72,oF 74 7 3,oL 75 74,oF 76 0 3,oW 77 2 76] [o 78 (.build [(.bool false),s0,s0,z0,z0,z0] [(0,1,kt),(1,1,(.t 71)),(2,1,(.t 73)),(3,1,(.t 75)),(4,2,(.t 77))]),oD 79 320 69 78,oK 80 65,oF 81 2 80,oS 1 81 79])) (rg [oE 83 .eql 16 5,oM 82 83] (cn 82 (.reg [oM 84 0,oF 85 5 3,oL 86 85,oF 87 6 3,oL 88 87,oF 89 3 3,oL 90 89,o 91 (.call 321 [(.t 84),kt,(.t 86),(.t 88),(.t 90)])]) (rg [oE 93 .eql 16 6,oM 92 93] (cn 92 (.drw [oM 94 0,oM 95 0,oK 96 95,oF 97 3 96,oL 98 97,oF 99 5 3,oL 100 99,oF 101 0 3,oW 102 2 101,oF 103 2 3,oL 104 103,oF 105 8 3,oW 106 2 105,oF 107 7 3,oL 108 107] [o 109 (.build [s0,z0,z0,z0,z0,z0,z0,(.bool false)] [(0,1,(.t 100)),(1,2,(.t 102)),(3,1,(.t 104)),(4,2,(.t 106)),(6,1,(.t 108))]),oD 110 322 98 109,oK 111 94,oF 112 3 111,oS 1 112 110]) (rg [oE 114 .eql 16 7,oM 113 114] (oG 113 (.drw [oM 115 0,oK 116 115,oF 117 3 116,oL 118 117,oM 119 0,oK 120 119,oW 121 4 120,oF 122 8 3,oW 123 2 122,oD 124 146 121 123] [oI 125 8 118 124,oF 126 7 125,on (.st 1 (.t 126) kt)])))))))))))))))))))⟩
theorem Akq:A8 Tryz.prog 249=some Ae7:=by kernel_rfl
def Ae8:Fn1:=⟨57,[.c 4 true 4,.t 5],(rg [oX 2 0,oX 3 1,o 4 (.new [.nilS,.nilS,.nilS,.nilS]),oV 5 (ki 0)] (rg [oW 7 4 2,oC 8 247 7,o 6 (.new [.nilS,.nilS,.nilS,.nilS]),oS 4 6 8] (.seq (rg [oW 9 4 2,oC 10 199 9,oU 11 10,oM 12 11,vW 13 12 10 3,vC 14 12 185 13,vU 15 12 14,oP 16 12 15] (oG 16 (rg [oW 17 4 6,oS 4 4 17,oV 5 (ki 3)] .ret))) (.seq (rg [oF 18 0 2,oL 19 18,oF 20 0 3,oW 21 2 20,oD 22 45 19 21] (oG 22 (rg [oW 23 4 6,oS 4 4 23,oV 5 (ki 1)] .ret))) (.seq (rg [oF 24 3 3,oL 25 24,oF 26 0 2,oL 27 26,oD 28 178 25 27,oU 29 28] (oG 29 (rg [oW 30 4 6,oS 4 4 30,oV 5 (ki 2)] .ret))) (.seq (rg [oW 31 4 2,oW 32 10 3,oD 33 248 31 32,oU 34 33] (oG 34 (rg [oW 35 4 6,oS 4 4 35,oV 5 (ki 3)] .ret))) (rg [oW 36 10 3,oD 37 249 6 36] (.seq (rg [oF 38 1 6,oL 39 38,oN 40 39,oE 41 .gtr 40 120,oM 42 41,vF 43 42 2 6,vL 44 42 43,og 45 42 false (.len false (.t 44)),vE 46 42 .gtr 45 120,oP 47 42 46,oM 48 47,vF 49 48 3 6,vL 50 48 49,og 51 48 false (.len false (.t 50)),vE 52 48 .gtr 51 120,oP 53 48 52] (oG 53 (rg [oW 54 4 2,oC 55 247 54,oS 4 4 55,oV 5 (ki 4)] .ret))) (rg [oW 56 4 6,oS 4 4 56,oV 5 (ki 0)] .ret)))))))))⟩
theorem Akr:A8 Tryz.prog 140=some Ae8:=by kernel_rfl
theorem Ae9 {a:Act} (h:Dj a=true):(0<=a.dot.rep/\a.dot.rep<=2)/\(1<=a.kind/\a.kind<=7)/\(0<=a.val/\a.val<=999999)/\a.knew.length=3:=by
 simp only[Dj,Ew,C7,Zag] at h
 obtain⟨⟨h1,h2,_⟩,⟨h3,_,_,h4⟩,_⟩:=h
 refine⟨(Pa.1 h1).1,Di.1 h3,?_,D8 h2⟩
 simp only[Se,Bool.or_eq_true,beq_iff_eq,Zag,Di] at h4
 rcases h4 with h4|⟨_,h4⟩
 ·omega
 ·exact h4
theorem Aea {s:State} (h:B6 s=true):s.know.length=3/\∀ t∈s.tallies,-1000000<=t.sum/\t.sum<=1000000:=by
 simp only[B6,Zag] at h
 obtain⟨h1,h2,_⟩:=h
 refine⟨D8 h1,fun t ht=> ?_⟩
 simp only[Fc,Zag,Bp,talP] at h2
 obtain⟨i,hi,rfl⟩:=Zas ht
 have:=(h2.1 i hi).1
 rw[Br hi] at this
 simp only[tal1,Zag,Di] at this
 omega
theorem SPtr.drop {N0 U:St} {g:Nat} {s:State} {x:Thg} {rest:List Thg} (H:SPtr N0 U g s (x::rest)):SPtr N0 U g s rest:=by
 obtain⟨v0,v1,v2,v3,H⟩:=H
 exact⟨v0,v1,v2,v3,(H.pick 5 rfl).drop1⟩
theorem SPtr.push {N0 U:St} {g:Nat} {s:State} {rest:List Thg} (H:SPtr N0 U g s rest) (z:Nat) (cs:List GV):SPtr N0 (U++[some (.row z cs)]) g s (pt z U.length cs::rest):=by
 obtain⟨v0,v1,v2,v3,H⟩:=H
 refine⟨v0,v1,v2,v3,?_⟩
 exact(H.new z cs).perm (List.perm_middle (l₁:=[_,_,_,_,_])).symm
abbrev actV (a:Act) (kv:GV):List GV:=[.int .i64 a.dot.rep,.int .i64 a.dot.seq,.int .i64 a.time,kv,.int .i64 a.kind,.str a.obj,.str a.key,.int .i64 a.val,.int .i64 a.ref.rep,.int .i64 a.ref.seq]
theorem Ahn {s:State} {i:Nat} {x:Int}:Ad {s with know:=s.know.set i x}=Ad s:=by simp[Ad]
theorem Aho {N0 N:St} {g:Nat} {s:State} {rest:List Thg} (H:SPtr N0 N g s rest) (a:Act) (kv:GV) (hk:RS pI.kd N0 kv a.knew) (hok:B6 s=true) (hao:Dj a=true) (hri:Jn s a=true) (hl:Ad s<=1099511627776):∃ U,Ret Tryz.prog 249 [.ptr g 0,.agg (actV a kv)] N (.tup []) U/\SPtr N0 U g (Jm s a) rest:=by
 obtain⟨⟨f1,f2⟩,⟨f3,f4⟩,⟨f5,f6⟩,f7⟩:=Ae9 hao
 obtain⟨t1,t2⟩:=Aea hok
 obtain⟨r,hr⟩:∃ r:Nat,a.dot.rep=(r:Int):=⟨a.dot.rep.toNat,by omega⟩
 have hrl:r<s.know.length:=by omega
 have key:∃ q U,Ret Tryz.prog 249 [.ptr g 0,.agg (actV a kv)] N q U/\q= .tup []/\SPtr N0 U g (Jm s a) rest:=by
  refine Hu Akq (Z0z rfl) ?_
  have H:=H.push 1 (actV a kv)
  obtain⟨v0,v1,v2,v3,H⟩:=H
  have i0:=RdN.iad (H.sl 0 rfl) hrl
  have i0:iadG 1 v0 (some r)=some (atz 1 v0 r):=i0
  have n0:Bu (some (.int .i64 a.dot.rep))=some r:=by rw[hr];exact A0
  obtain⟨U1,st0,H1⟩:=H.stw 0 rfl (j:=r) hrl 1 (gi a.dot.seq) a.dot.seq rfl rfl (by decide)
  have st0:stG 1 _ (atz 1 v0 r) (.int .i64 a.dot.seq)=some (.tup [],U1):=st0
  have H1:Hp N0 U1 (ow pI.kd v0 (s.know.set r a.dot.seq)::ow Ah.kd v1 s.tallies::ow Ap.kd v2 s.lives::ow Ai.kd v3 s.cells::pt 1 g [v0,v1,v2,v3]::pt 1 N.length (actV a kv)::rest):=H1
  obtain⟨s1,hs1⟩:∃ s1:State,s1={s with know:=s.know.set r a.dot.seq}:=⟨_,rfl⟩
  have hm1:Ad s1<=1099511627776:=by rw[hs1,Ahn];exact hl
  have hdo:Jm s a=Da s1 a:=by
   unfold Jm
   rw[hs1,hr];simp
  have S1:SPtr N0 U1 g s1 (pt 1 N.length (actV a kv)::rest):=by rw[hs1];exact⟨v0,v1,v2,v3,H1⟩
  obtain⟨l1,l2,l3,l4,_⟩:=C8 hl
  rw[hdo]
  have e1:s1.tallies=s.tallies:=by rw[hs1]
  have e2:s1.lives=s.lives:=by rw[hs1]
  have e3:s1.cells=s.cells:=by rw[hs1]
  simp +contextual only[go_sem,Ae7,A7 (H.pt 4 rfl),n0,i0,st0,A7 (H1.pt 5 rfl)]
  by_cases k1:a.kind=1
  ·have b1:(a.kind==1)=true:=by simp[k1]
   have hd:Da s1 a={s1 with tallies:=Eb s1.tallies a.obj a.dot.rep a.val}:=by unfold Da;rw[if_pos k1]
   rw[hd]
   obtain⟨U2,R2,S2⟩:=Gg S1 a.obj a.dot.rep a.val hm1 (by omega) (by rw[e1];exact t2)
   simp only[go_sem,b1,A7 (H1.pt 5 rfl)]
   refine Ce R2 ?_
   simp only[go_sem]
   exact⟨_,rfl,rfl,S2.drop⟩
  have b1:(a.kind==1)=false:=by simp[k1]
  by_cases k2:a.kind=2
  ·have b2:(a.kind==2)=true:=by simp[k2]
   have hd:Da s1 a={s1 with lives:=Hy ⟨false,a.obj,a.key,0,a.dot⟩ s1.lives}:=by unfold Da;rw[if_neg k1,if_pos k2]
   rw[hd,e2]
   obtain⟨w,U2,R2,K2⟩:=Jp U1 v2 s.lives (H1.sl 2 rfl) ⟨false,a.obj,a.key,0,a.dot⟩ l3
   have H2:=H1.add K2
   simp only[Zaa,Zab] at H2
   have c1:=(H2.sl 0 rfl).cell
   obtain⟨U3,st3,H3,_⟩:=H2.st 5 rfl 1 2 w (by rw[c1];rfl) (by decide) (by simp)
   simp only[go_sem,b1,b2,A7 (H1.pt 4 rfl),A7 (H1.pt 5 rfl)]
   refine J8 R2 K2 ?_
   simp only[go_sem,st3]
   refine⟨_,rfl,rfl,v0,v1,w,v3,?_⟩
   simp only[c1,Zad,Zae,D7,D6,E2] at H3
   rw[hs1]
   exact((Hp.moveTo H3 2 rfl).pick 5 rfl).drop1
  have b2:(a.kind==2)=false:=by simp[k2]
  by_cases k3:a.kind=3
  ·have b3:(a.kind==3)=true:=by simp[k3]
   have hd:Da s1 a={s1 with lives:=s1.lives.filter (Lz false a.obj a.key a.knew)}:=by unfold Da;rw[if_neg k1,if_neg k2,if_pos k3]
   rw[hd]
   obtain⟨U2,R2,S2⟩:=Lk S1 false a.obj a.key kv a.knew hk hm1 (by omega)
   simp only[go_sem,b1,b2,b3,A7 (H1.pt 5 rfl)]
   refine Ce R2 ?_
   simp only[go_sem]
   exact⟨_,rfl,rfl,S2.drop⟩
  have b3:(a.kind==3)=false:=by simp[k3]
  by_cases k4:a.kind=4
  ·have b4:(a.kind==4)=true:=by simp[k4]
   have hd:Da s1 a={s1 with lives:=Hy ⟨true,a.obj,a.key,a.val,a.dot⟩ (s1.lives.filter (Lz true a.obj a.key a.knew))}:=by unfold Da;rw[if_neg k1,if_neg k2,if_neg k3,if_pos k4]
   rw[hd,e2]
   obtain⟨U2,R2,u0,u1,u2,u3,H2⟩:=Lk S1 true a.obj a.key kv a.knew hk hm1 (by omega)
   have hfl:=Za0 (Lz true a.obj a.key a.knew) s.lives
   have H2l:=H2.sl 2 rfl
   have H2l:RS Ap.kd U2 u2 (s.lives.filter (Lz true a.obj a.key a.knew)):=by rw[<- e2];exact H2l
   obtain⟨w,U3,R3,K3⟩:=Jp U2 u2 _ H2l ⟨true,a.obj,a.key,a.val,a.dot⟩ (by omega)
   have H3:=H2.add K3
   simp only[Zaa,Zab] at H3
   have c1:=(H3.sl 0 rfl).cell
   obtain⟨U4,st4,H4,_⟩:=H3.st 5 rfl 1 2 w (by rw[c1];rfl) (by decide) (by simp)
   simp only[go_sem,b1,b2,b3,b4,A7 (H1.pt 5 rfl)]
   refine Ce R2 ?_
   simp only[go_sem,A7 (H2.pt 4 rfl),A7 (H2.pt 5 rfl)]
   refine J8 R3 K3 ?_
   simp only[go_sem,st4]
   refine⟨_,rfl,rfl,u0,u1,w,u3,?_⟩
   simp only[c1,Zad,Zae,D7,D6,E2] at H4
   exact((Hp.moveTo H4 2 rfl).pick 5 rfl).drop1
  have b4:(a.kind==4)=false:=by simp[k4]
  by_cases k5:a.kind=5
  ·have b5:(a.kind==5)=true:=by simp[k5]
   have hd:Da s1 a={s1 with lives:=s1.lives.filter (Lz true a.obj a.key a.knew)}:=by unfold Da;rw[if_neg k1,if_neg k2,if_neg k3,if_neg k4,if_pos k5]
   rw[hd]
   obtain⟨U2,R2,S2⟩:=Lk S1 true a.obj a.key kv a.knew hk hm1 (by omega)
   simp only[go_sem,b1,b2,b3,b4,b5,A7 (H1.pt 5 rfl)]
   refine Ce R2 ?_
   simp only[go_sem]
   exact⟨_,rfl,rfl,S2.drop⟩
  have b5:(a.kind==5)=false:=by simp[k5]
  by_cases k6:a.kind=6
  ·have b6:(a.kind==6)=true:=by simp[k6]
   have hd:Da s1 a={s1 with cells:=Kc ⟨a.obj,a.dot,a.time,a.ref,a.val,false⟩ s1.cells}:=by unfold Da;rw[if_neg k1,if_neg k2,if_neg k3,if_neg k4,if_neg k5,if_pos k6]
   rw[hd,e3]
   obtain⟨w,U2,R2,K2⟩:=Vn U1 v3 s.cells (H1.sl 3 rfl) ⟨a.obj,a.dot,a.time,a.ref,a.val,false⟩ l4
   have H2:=H1.add K2
   simp only[Zaa,Zab] at H2
   have c1:=(H2.sl 0 rfl).cell
   obtain⟨U3,st3,H3,_⟩:=H2.st 5 rfl 1 3 w (by rw[c1];rfl) (by decide) (by simp)
   simp only[go_sem,b1,b2,b3,b4,b5,b6,A7 (H1.pt 4 rfl),A7 (H1.pt 5 rfl)]
   refine J8 R2 K2 ?_
   simp only[go_sem,st3]
   refine⟨_,rfl,rfl,v0,v1,v2,w,?_⟩
   simp only[c1,Zad,Zae,D7,D6,E2] at H3
   rw[hs1]
   exact((Hp.moveTo H3 3 rfl).pick 5 rfl).drop1
  have b6:(a.kind==6)=false:=by simp[k6]
  have k7:a.kind=7:=by omega
  have b7:(a.kind==7)=true:=by simp[k7]
  have hd:Da s1 a={s1 with cells:=J1 s1.cells a.ref}:=by unfold Da;rw[if_neg k1,if_neg k2,if_neg k3,if_neg k4,if_neg k5,if_neg k6]
  rw[hd,e3]
  cases hx:Cx s.cells a.ref with
  |none=>simp[Jn,k7,hx] at hri
  |some k=>
   obtain⟨hkl,hke⟩:=Bs hx
   have hno:Bm s1.cells a.ref=k:=by simp[Bm,e3,hx]
   have CA:=Pj U1 [v0,v1,v2,v3] s1 ⟨v0,v1,v2,v3,rfl,by rw[hs1];exact H1.sl 0 rfl,by rw[e1];exact H1.sl 1 rfl,by rw[e2];exact H1.sl 2 rfl,by rw[e3];exact H1.sl 3 rfl⟩ a.ref hm1
   rw[hno] at CA
   have C2:=Ab (H1.sl 3 rfl) hkl
   obtain⟨U2,st2,H2⟩:=H1.ste 3 rfl hkl 1 7 (.bool true) {s.cells[k] with gone:=true} rfl (by decide) (by decide) rfl
   have st2:stG 1 U1 (fld 7 (atz 8 v3 k)) (.bool true)=some (.tup [],U2):=st2
   simp only[go_sem,b1,b2,b3,b4,b5,b6,b7,A7 (H1.pt 4 rfl),A7 (H1.pt 5 rfl),A6 (cs:=[v0,v1,v2,v3]) rfl]
   refine Ao CA ?_
   simp only[go_sem,A0,C2,st2]
   refine⟨_,rfl,rfl,v0,v1,v2,v3,?_⟩
   have hE:J1 s.cells a.ref=s.cells.set k {s.cells[k] with gone:=true}:=by
    unfold J1
    rw[hx]
    exact Js _ hkl
   rw[hE,hs1]
   exact(H2.pick 5 rfl).drop1
 obtain⟨q,U,R,rfl,h⟩:=key
 exact⟨U,R,h⟩
theorem Aje {N U:St} {rs:List Thg} {x:State} {cs:List GV} {g:Nat} (H:Hp N U (pt 1 g cs::own A4 cs x::rs)):SPtr N U g x rs:=by
 obtain⟨v0,v1,v2,v3,rfl,H⟩:=(H.pick 1 rfl).splitState
 exact⟨v0,v1,v2,v3,H⟩
theorem SPtr.own {N U:St} {rs:List Thg} {x:State} {g:Nat} (H:SPtr N U g x rs):∃ v0 v1 v2 v3,rdB U g=some [v0,v1,v2,v3]/\lenG false v1=some (x.tallies.length:Int)/\lenG false v2=some (x.lives.length:Int)/\lenG false v3=some (x.cells.length:Int)/\Hp N U (own A4 [v0,v1,v2,v3] x::rs):=by
 obtain⟨v0,v1,v2,v3,H⟩:=H
 refine⟨v0,v1,v2,v3,H.pt 4 rfl,(H.sl 1 rfl).len,(H.sl 2 rfl).len,(H.sl 3 rfl).len,?_⟩
 exact Hp.ownState ((H.pick 4 rfl).drop1)
theorem Gt (N:St) (cs:List GV) (s:State) (hR:A4.R N s cs) (as':List GV) (a:Act) (hS:kAct.R N a as') (hl:Ad s<=1099511627776) (hm:Ck a<=1099511627776):∃ ds U,Ret Tryz.prog 140 [.agg cs,.agg as'] N (.tup [.agg ds,gi (Bi s a).2]) U/\Hp N U [own A4 ds (Bi s a).1]:=by
 have hR0:=hR
 have hS0:=hS
 have hS1:∀ {U:St},N <+: U->kAct.R U a as':=fun h=>kAct.pre hS0 h
 obtain⟨a1,b1,c1,v1,rfl,hkn,_,_,_⟩:=hR
 obtain⟨kv,rfl,hkv⟩:=hS
 obtain⟨l1,l2,l3,l4,_⟩:=C8 hl
 have hkl:a.knew.length<=1099511627776:=by unfold Ck at hm;omega
 have key:∃ q U,Ret Tryz.prog 140 [.agg [a1,b1,c1,v1],.agg (actV a kv)] N q U/\∃ ds,q= .tup [.agg ds,gi (Bi s a).2]/\Hp N U [own A4 ds (Bi s a).1]:=by
  refine Hu Akr (Z0z rfl) ?_
  have H:=(((Hp.refl N).new 1 [a1,b1,c1,v1]).new 1 (actV a kv)).new 1 [GV.nilS,GV.nilS,GV.nilS,GV.nilS]
  have z0:=H.pt 2 rfl
  simp only[go_sem,Ae8,A7 z0,A6 (cs:=[a1,b1,c1,v1]) rfl]
  obtain⟨es,U1,R1,K1⟩:=Cn _ _ s (A4.pre hR0 H.sub) hl
  refine J8 R1 K1 ?_
  have H:=H.add K1
  simp only[Zaa,Zab] at H
  have gl:es.length=4:=A4.len (K1.rd 0 rfl)
  have H:=H.new 1 es
  generalize hn6:U1.length=n6 at*
  generalize hn4:(N++[some (Blk.row 1 [a1,b1,c1,v1])]++[some (Blk.row 1 (actV a kv))]).length=n4 at*
  generalize hn2:(N++[some (Blk.row 1 [a1,b1,c1,v1])]).length=n2 at*
  generalize hn1:N.length=n1 at*
  simp only[go_sem,A5 (cs:=[GV.nilS,GV.nilS,GV.nilS,GV.nilS]) gl rfl,gl,A7 (H.pt 4 rfl),A6 (cs:=[a1,b1,c1,v1]) rfl]
  obtain⟨Ur,sr,Hr,_⟩:=H.st 2 rfl 4 0 (.agg es) gl (by decide) (by simp)
  have zr:rdB Ur n4=some (B5 [GV.nilS,GV.nilS,GV.nilS,GV.nilS] 0 es):=Hr.pt 2 rfl
  rw[A5 gl rfl] at zr
  refine Ac (Cl _ _ s (A4.pre hR0 H.sub) hl) (fun hok=> ?_) (fun hok=> ?_)
  rotate_left
  ·have hd:Bi s a=(s,3):=by simp[Bi,hok]
   simp only[go_sem,A7 (H.pt 0 rfl),A6 gl,sr,A7 zr]
   exact⟨_,rfl,es,by rw[hd],by rw[hd];exact(Hr.pick 1 rfl).one⟩
  simp only[go_sem,A7 (H.pt 3 rfl),A6 (cs:=actV a kv) rfl]
  refine Ac (K0 _ _ a (hS1 H.sub) hm) (fun hao=> ?_) (fun hao=> ?_)
  rotate_left
  ·have hd:Bi s a=(s,3):=by simp[Bi,hok,hao]
   simp only[go_sem,A7 (H.pt 0 rfl),A6 gl,sr,A7 zr]
   exact⟨_,rfl,es,by rw[hd],by rw[hd];exact(Hr.pick 1 rfl).one⟩
  simp only[go_sem,A7 (H.pt 3 rfl),A7 (H.pt 4 rfl)]
  refine Ac (Ba _ a1 s.know a.dot (hkn.pre H.sub) l1) (fun hkn1=> ?_) (fun hkn1=> ?_)
  ·have hd:Bi s a=(s,1):=by simp[Bi,hok,hao,hkn1]
   simp only[go_sem,A7 (H.pt 0 rfl),A6 gl,sr,A7 zr]
   exact⟨_,rfl,es,by rw[hd],by rw[hd];exact(Hr.pick 1 rfl).one⟩
  simp only[go_sem,A7 (H.pt 3 rfl),A7 (H.pt 4 rfl)]
  refine Ac (Hg _ kv a1 a.knew s.know (hkv.pre H.sub) (hkn.pre H.sub) hkl l1) (fun hkn2=> ?_) (fun hkn2=> ?_)
  rotate_left
  ·have hd:Bi s a=(s,2):=by simp[Bi,hok,hao,hkn1,hkn2]
   simp only[go_sem,A7 (H.pt 0 rfl),A6 gl,sr,A7 zr]
   exact⟨_,rfl,es,by rw[hd],by rw[hd];exact(Hr.pick 1 rfl).one⟩
  simp only[go_sem,A7 (H.pt 3 rfl),A7 (H.pt 4 rfl),A6 (cs:=actV a kv) rfl,A6 (cs:=[a1,b1,c1,v1]) rfl]
  refine Ac (Ae6 _ _ s (A4.pre hR0 H.sub) _ a (hS1 H.sub) hl) (fun hri=> ?_) (fun hri=> ?_)
  rotate_left
  ·have hd:Bi s a=(s,3):=by simp[Bi,hok,hao,hkn1,hkn2,hri]
   simp only[go_sem,A7 (H.pt 0 rfl),A6 gl,sr,A7 zr]
   exact⟨_,rfl,es,by rw[hd],by rw[hd];exact(Hr.pick 1 rfl).one⟩
  obtain⟨U2,R2,S2⟩:=Aho (Aje H) a kv hkv hok hao hri hl
  simp only[go_sem,A7 (H.pt 3 rfl),A6 (cs:=actV a kv) rfl]
  rw[hn6]
  refine Ce R2 ?_
  obtain⟨w0,w1,w2,w3,z6,q1,q2,q3,H3⟩:=S2.own
  cases h1:decide (120<(Jm s a).tallies.length) with
  |true=>
   have ht:F6 (Jm s a)=true:=by simp[F6,h1]
   have hd:Bi s a=(s,4):=by simp[Bi,hok,hao,hkn1,hkn2,hri,ht]
   simp only[go_sem,A7 z6,q1,q2,q3,Ip,h1,A7 (H3.pt 3 rfl),A6 (cs:=[a1,b1,c1,v1]) rfl]
   obtain⟨fs,U4,R4,K4⟩:=Cn _ _ s (A4.pre hR0 H3.sub) hl
   refine J8 R4 K4 ?_
   have H4:=H3.add K4
   simp only[Zaa,Zab] at H4
   have gl4:fs.length=4:=A4.len (K4.rd 0 rfl)
   obtain⟨U5,s5,H5,_⟩:=H4.st 2 rfl 4 0 (.agg fs) gl4 (by decide) (by simp)
   have z5:rdB U5 n4=some (B5 [GV.nilS,GV.nilS,GV.nilS,GV.nilS] 0 fs):=H5.pt 2 rfl
   rw[A5 gl4 rfl] at z5
   simp only[go_sem,s5,A7 z5,A6 gl4]
   exact⟨_,rfl,fs,by rw[hd],by rw[hd];exact H5.one⟩
  |false=>
   cases h2:decide (120<(Jm s a).lives.length) with
   |true=>
    have ht:F6 (Jm s a)=true:=by simp[F6,h1,h2]
    have hd:Bi s a=(s,4):=by simp[Bi,hok,hao,hkn1,hkn2,hri,ht]
    simp only[go_sem,A7 z6,q1,q2,q3,Ip,h1,h2,A7 (H3.pt 3 rfl),A6 (cs:=[a1,b1,c1,v1]) rfl]
    obtain⟨fs,U4,R4,K4⟩:=Cn _ _ s (A4.pre hR0 H3.sub) hl
    refine J8 R4 K4 ?_
    have H4:=H3.add K4
    simp only[Zaa,Zab] at H4
    have gl4:fs.length=4:=A4.len (K4.rd 0 rfl)
    obtain⟨U5,s5,H5,_⟩:=H4.st 2 rfl 4 0 (.agg fs) gl4 (by decide) (by simp)
    have z5:rdB U5 n4=some (B5 [GV.nilS,GV.nilS,GV.nilS,GV.nilS] 0 fs):=H5.pt 2 rfl
    rw[A5 gl4 rfl] at z5
    simp only[go_sem,s5,A7 z5,A6 gl4]
    exact⟨_,rfl,fs,by rw[hd],by rw[hd];exact H5.one⟩
   |false=>
    cases h3:decide (120<(Jm s a).cells.length) with
    |true=>
     have ht:F6 (Jm s a)=true:=by simp[F6,h1,h2,h3]
     have hd:Bi s a=(s,4):=by simp[Bi,hok,hao,hkn1,hkn2,hri,ht]
     simp only[go_sem,A7 z6,q1,q2,q3,Ip,h1,h2,h3,A7 (H3.pt 3 rfl),A6 (cs:=[a1,b1,c1,v1]) rfl]
     obtain⟨fs,U4,R4,K4⟩:=Cn _ _ s (A4.pre hR0 H3.sub) hl
     refine J8 R4 K4 ?_
     have H4:=H3.add K4
     simp only[Zaa,Zab] at H4
     have gl4:fs.length=4:=A4.len (K4.rd 0 rfl)
     obtain⟨U5,s5,H5,_⟩:=H4.st 2 rfl 4 0 (.agg fs) gl4 (by decide) (by simp)
     have z5:rdB U5 n4=some (B5 [GV.nilS,GV.nilS,GV.nilS,GV.nilS] 0 fs):=H5.pt 2 rfl
     rw[A5 gl4 rfl] at z5
     simp only[go_sem,s5,A7 z5,A6 gl4]
     exact⟨_,rfl,fs,by rw[hd],by rw[hd];exact H5.one⟩
    |false=>
     have ht:F6 (Jm s a)=false:=by simp only[F6,h1,h2,h3];rfl
     have hd:Bi s a=(Jm s a,0):=by simp[Bi,hok,hao,hkn1,hkn2,hri,ht]
     obtain⟨U5,s5,H5,_⟩:=H3.st 1 rfl 4 0 (.agg [w0,w1,w2,w3]) rfl (by decide) (by simp)
     have z5:rdB U5 n4=some [w0,w1,w2,w3]:=H5.pt 1 rfl
     simp only[go_sem,A7 z6,q1,q2,q3,Ip,h1,h2,h3,A6 (cs:=[w0,w1,w2,w3]) rfl,s5,A7 z5]
     exact⟨_,rfl,_,by rw[hd],by rw[hd];exact H5.one⟩
 obtain⟨q,U,R,ds,rfl,h⟩:=key
 exact⟨ds,U,R,h⟩
def Aeb:Fn1:=⟨176,[.c 4 true 4,.t 5],(rg [oX 2 0,oX 3 1,o 4 (.new [.nilS,.nilS,.nilS,.nilS]),oV 5 (ki 0)] (rg [oW 10 4 2,oC 11 255 10,o 6 (.new [.nilS,.nilS,.nilS,.nilS]),oS 4 6 11] (.seq (.blk 0 (rg [oW 13 4 2,oC 14 195 13,oU 15 14,oM 16 15,vW 17 16 10 3,vC 18 16 169 17,vU 19 16 18,oP 20 16 19,oM 12 20] (cn 12 (rg [oW 21 4 6,oS 4 4 21,oV 5 (ki 3)] .ret) (rg [oF 23 0 2,oL 24 23,oF 25 0 3,oW 26 2 25,oD 27 170 24 26,oM 22 27] (cn 22 (rg [oW 28 4 6,oS 4 4 28,oV 5 (ki 1)] .ret) (rg [oF 30 3 3,oL 31 30,oF 32 0 2,oL 33 32,oD 34 177 31 33,oU 35 34,oM 29 35] (oG 29 (rg [oW 36 4 6,oS 4 4 36,oV 5 (ki 2)] .ret)))))))) (rg [oW 37 4 2,oF 38 8 3,oW 39 2 38,oD 40 158 37 39,oM 7 40] (.seq (dw [oF 41 8 3,oW 42 2 41,o 43 (.build [z0,z0] []),o 44 (.eqs true [.i .i64,.i .i64] (.t 42) (.t 43)),oM 45 44,jM 46 45 7,jE 47 45 .lss 46 0,jM 48 45 47,vF 49 48 3 2,vL 50 48 49,vM 51 48 7,vI 52 48 8 50 51,vF 53 48 0 52,vL 54 48 53,vF 55 48 5 3,vL 56 48 55,vB 57 48 .neq 54 56,og 58 45 true (.pick (.t 48) kt (.t 57)),jM 59 45 58,vF 60 59 4 3,vL 61 59 60,vE 62 59 .eql 61 6,vM 63 59 62,jF 64 63 2 3,jL 65 63 64,jF 66 63 3 2,jL 67 63 66,jM 68 63 7,jI 69 63 8 67 68,jF 70 63 3 69,jL 71 63 70] [jB 72 63 .leq 65 71,og 73 59 false (.pick (.t 63) (.t 72) kf),og 74 45 true (.pick (.t 59) kt (.t 73)),oQ 75 45 74] (oG 75 (rg [oW 76 4 6,oS 4 4 76,oV 5 (ki 3)] .ret))) (rg [oW 77 4 2,oC 78 255 77,o 8 (.new [.nilS,.nilS,.nilS,.nilS]),oS 4 8 78] (rg [oF 79 0 8,oL 80 79,oF 81 0 3,oF 82 0 81,oL 83 82,oF 84 0 3,oF 85 1 84,oL 86 85,oI 87 1 80 83,oS 1 87 86] (.seq (rg [oF 88 4 3,oL 89 88] (.blk 1 (rg [oE 91 .eql 89 1,oM 90 91] (cn 90 (.reg [oF 92 1 2,oL 93 92,oF 94 5 3,oL 95 94,oF 96 0 3,oF 97 0 96,oL 98 97,oF 99 7 3,oL 100 99,o 101 (.call 256 (oT [93,95,98,100])),oF 102 1 8,oS 1 102 101]) (rg [oE 104 .eql 89 2,oM 103 104] (cn 103 (.reg [oF 105 2 2,oL 106 105,oF 107 5 3,oL 108 107,oF 109 6 3,oL 110 109,oF 111 0 3,oW 112 2 111,o 113 (.build [(.bool false),s0,s0,z0,z0,z0] [(1,1,(.t 108)),(2,1,(.t 110)),(4,2,(.t 112))]),oD 114 257 106 113,oF 115 2 8,oS 1 115 114]) (rg [oE 117 .eql 89 3,oM 116 117] (cn 116 (.reg [oF 118 2 2,oL 119 118,oW 120 10 3,o 121 (.call 258 [(.t 119),kf,(.t 120)]),oF 122 2 8,oS 1 122 121]) (rg [oE 124 .eql 89 4,oM 123 124] (cn 123 (rg [oF 125 2 2,oL 126 125,oW 127 10 3,o 128 (.call 258 [(.t 126),kt,(.t 127)]),oM 9 128] (.reg [oM 129 9,oF 130 5 3,oL 131 130,oF 132 6 3,oL 133 132,oF 134 7 3,oL 135 134,oF 136 0 3,oW 137 2 136,o 138 (.build [(.bool false),s0,s0,z0,z0,z0] [(0,1,kt),(1,1,(.t 131)),(2,1,(.t 133)),(3,1,(.t 135)),(4,2,(.t 137))]),oD 139 257 129 138,oF 140 2 8,oS 1 140 139])) (rg [oE 142 .eql 89 5,oM 141 142] (cn 141 (.reg [oF 143 2 2,oL 144 143,oW 145 10 3,o 146 (.call 258 [(.t 144),kt,(.t 145)]),oF 147 2 8,oS 1 147 146]) (rg [oE 149 .eql 89 6,oM 148 149] (cn 148 (.reg [oF 150 3 2,oL 151 150,oF 152 5 3,oL 153 152,oF 154 0 3,oW 155 2 154,oF 156 2 3,oL 157 156,oF 158 8 3,oW 159 2 158,oF 160 7 3,oL 161 160,o 162 (.build [s0,z0,z0,z0,z0,z0,z0,(.bool false)] [(0,1,(.t 153)),(1,2,(.t 155)),(3,1,(.t 157)),(4,2,(.t 159)),(6,1,(.t 161))]),oD 163 259 151 162,oF 164 3 8,oS 1 164 163]) (rg [oE 166 .eql 89 7,oM 165 166] (oG 165 (.reg [oF 167 3 8,oL 168 167,oM 169 7,oI 170 8 168 169,oF 171 7 170,on (.st 1 (.t 171) kt)]))))))))))))))))) (.seq (rg [oW 172 4 8,oC 173 260 172] (oG 173 (rg [oW 174 4 6,oS 4 4 174,oV 5 (ki 4)] .ret))) (rg [oW 175 4 8,oS 4 4 175,oV 5 (ki 0)] .ret))))))))))⟩
theorem Aks:A8 Tryz.prog 152=some Aeb:=by kernel_rfl
theorem Su {s:State} (h:B6 s=true):s.tallies.Pairwise (fun a b=>Af a b=true)/\(∀ x∈s.lives,As s.know x.dot=true)/\∀ x∈s.cells,As s.know x.dot=true:=by
 simp only[B6,Zag] at h
 obtain⟨_,h2,h3,h4,_⟩:=h
 refine⟨?_,fun x hx=> ?_,fun x hx=> ?_⟩
 ·simp only[Fc,Zag,Bp,talP] at h2
  exact Tv (lt:=Af) (fun a b c h1 h2=>Kb.trans _ _ _ h1 h2) fun i hi=>(h2.1 i hi).2
 ·simp only[Kz,Zag,Bp,livP] at h3
  obtain⟨i,hi,rfl⟩:=Zas hx
  have:=(h3.1 i hi).1
  rw[Br hi] at this
  exact this
 ·simp only[Je,Zag,Bp,celP] at h4
  obtain⟨i,hi,rfl⟩:=Zas hx
  have:=(h4.1 i hi).1
  rw[Br hi] at this
  exact this
theorem A4f {l:List Live} {k:List Int} {x:Live} (h:∀ y∈l,As k y.dot=true) (hx:As k x.dot=false):insW (fun y:Live=>Az y.dot x.dot) x l=Hy x l:=
 A41 fun y hy=>Adw fun e=>by have:=h y hy;rw[<- e,hx] at this;cases this
theorem Ahp {l:List Cell} {k:List Int} {x:Cell} (h:∀ y∈l,As k y.dot=true) (hx:As k x.dot=false):insW (fun y:Cell=>Az y.dot x.dot) x l=Kc x l:=
 A41 fun y hy=>Adw fun e=>by have:=h y hy;rw[<- e,hx] at this;cases this
theorem Ape {s:State} {a:Act} (hao:Dj a=true) (hr:a.ref=d0):Jn s a=true:=by
 have hk:¬ a.kind=7:=fun h7=>by
  simp only[Dj,Zag] at hao
  have h2:=hao.2.2
  unfold Sf at h2
  rw[if_pos (by simp[h7])] at h2
  have:=Ix h2
  rw[hr] at this
  exact absurd this (by decide)
 unfold Jn
 rw[if_neg (by rintro(h|h);exact hk h;exact h.2 hr)]
theorem Apf {a:Act} (hao:Dj a=true) (hr:a.ref≠d0):a.kind=7∨a.kind=6:=by
 simp only[Dj,Zag] at hao
 have h2:=hao.2.2
 unfold Sf at h2
 by_cases h7:a.kind=7
 ·exact .inl h7
 ·rw[if_neg (by simpa using h7)] at h2
  by_cases h6:a.kind=6
  ·exact .inr h6
  ·rw[if_neg (by simpa using h6)] at h2
   exact absurd (by simpa using h2) hr
def zSt (N:St) (cs:List GV):Prop:=∃ a b c v,cs=[a,b,c,v]/\zOk N 3 b=true/\zOk N 6 c=true/\zOk N 8 v=true
theorem Ahq (N:St) (cs:List GV) (s:State) (hR:A4.R N s cs) (hz:zSt N cs) (as':List GV) (a:Act) (hS:kAct.R N a as') (hl:Ad s<=1099511627776) (hm:Ck a<=1099511627776):∃ ds U,Ret Tryz.prog 152 [.agg cs,.agg as'] N (.tup [.agg ds,gi (Bi s a).2]) U/\Hp N U [own A4 ds (Bi s a).1]:=by
 have hR0:=hR
 have hS0:=hS
 have hS1:∀ {U:St},N <+: U->kAct.R U a as':=fun h=>kAct.pre hS0 h
 obtain⟨a1,b1,c1,v1,rfl,hkn,hb,hc,hv⟩:=hR
 obtain⟨_,_,_,_,hq,hz3,hz6,hz8⟩:=hz
 injection hq with q1 q2;injection q2 with q2 q3;injection q3 with q3 q4;injection q4 with q4 _
 subst q1 q2 q3 q4
 obtain⟨kv,rfl,hkv⟩:=hS
 obtain⟨l1,l2,l3,l4,_⟩:=C8 hl
 have hkl:a.knew.length<=1099511627776:=by unfold Ck at hm;omega
 have key:∃ q U,Ret Tryz.prog 152 [.agg [a1,b1,c1,v1],.agg (actV a kv)] N q U/\∃ ds,q= .tup [.agg ds,gi (Bi s a).2]/\Hp N U [own A4 ds (Bi s a).1]:=by
  refine Hu Aks (Z0z rfl) ?_
  have H:=(((Hp.refl N).new 1 [a1,b1,c1,v1]).new 1 (actV a kv)).new 1 [GV.nilS,GV.nilS,GV.nilS,GV.nilS]
  simp only[Aeb]
  obtain⟨n4,hn4⟩:∃ n,n=(N++[some (Blk.row 1 [a1,b1,c1,v1])]++[some (Blk.row 1 (actV a kv))]).length:=⟨_,rfl⟩
  obtain⟨n2,hn2⟩:∃ n,n=(N++[some (Blk.row 1 [a1,b1,c1,v1])]).length:=⟨_,rfl⟩
  obtain⟨n1,hn1⟩:∃ n,n=N.length:=⟨_,rfl⟩
  rw[<- hn4,<-hn2,<-hn1] at H
  refine E1 (fun env U=>env 2= .ptr n1 0/\env 3= .ptr n2 0/\env 4= .ptr n4 0/\Hp N U [pt 1 n4 [GV.nilS,GV.nilS,GV.nilS,GV.nilS],pt 1 n2 (actV a kv),pt 1 n1 [a1,b1,c1,v1]]) (fun Yq hY=>by
   simp only[go_sem]
   refine hY _ _ ⟨?_,?_,?_,H⟩
   all_goals simp only[go_sem,hn1,hn2,hn4]) ?_
  clear H
  rintro env U ⟨e2,e3,e4,H⟩
  refine E1 (fun env U=>∃ n6 es,es.length=4/\env 2= .ptr n1 0/\env 3= .ptr n2 0/\env 4= .ptr n4 0/\env 6= .ptr n6 0/\Hp N U [pt 1 n6 es,own A4 es s,pt 1 n4 [GV.nilS,GV.nilS,GV.nilS,GV.nilS],pt 1 n2 (actV a kv),pt 1 n1 [a1,b1,c1,v1]]) (fun Yq hY=>by
   simp only[go_sem,e2,e3,e4,A7 (H.pt 2 rfl),A6 (cs:=[a1,b1,c1,v1]) rfl]
   obtain⟨es,U1,R1,K1⟩:=Kf _ _ s (A4.pre hR0 H.sub) hl
   refine J8 R1 K1 ?_
   have H:=H.add K1
   simp only[Zaa,Zab] at H
   have gl:es.length=4:=A4.len (K1.rd 0 rfl)
   have H:=H.new 1 es
   simp only[go_sem,A5 (cs:=[GV.nilS,GV.nilS,GV.nilS,GV.nilS]) gl rfl,gl,e2,e3,e4]
   refine hY _ _ ⟨U1.length,es,gl,?_,?_,?_,?_,H⟩
   all_goals simp only[go_sem,e2,e3,e4]) ?_
  clear H e2 e3 e4
  rintro env U ⟨n6,es,gl,e2,e3,e4,e6,H⟩
  refine E1 (fun env U'=>env 2= .ptr n1 0/\env 3= .ptr n2 0/\env 4= .ptr n4 0/\env 6= .ptr n6 0/\U=U'/\B6 s=true/\Dj a=true/\As s.know a.dot=false/\Gf a.knew s.know=true) (fun Yq hY=>by
   obtain⟨Ur,sr,Hr,_⟩:=H.st 2 rfl 4 0 (.agg es) gl (by decide) (by simp)
   have zr:rdB Ur n4=some (B5 [GV.nilS,GV.nilS,GV.nilS,GV.nilS] 0 es):=Hr.pt 2 rfl
   rw[A5 gl rfl] at zr
   simp only[go_sem,e2,e3,e4,e6,A7 (H.pt 4 rfl),A6 (cs:=[a1,b1,c1,v1]) rfl]
   refine Ac (Mw _ _ s (A4.pre hR0 H.sub) hl) (fun hok=> ?_) (fun hok=> ?_)
   rotate_left
   ·have hd:Bi s a=(s,3):=by simp[Bi,hok]
    simp only[go_sem,e2,e3,e4,e6,A7 (H.pt 0 rfl),A6 gl,sr,A7 zr]
    exact⟨_,rfl,es,by rw[hd],by rw[hd];exact(Hr.pick 1 rfl).one⟩
   simp only[go_sem,e2,e3,e4,e6,A7 (H.pt 3 rfl),A6 (cs:=actV a kv) rfl]
   refine Ac (Mq _ _ a (hS1 H.sub) hm) (fun hao=> ?_) (fun hao=> ?_)
   rotate_left
   ·have hd:Bi s a=(s,3):=by simp[Bi,hok,hao]
    simp only[go_sem,e2,e3,e4,e6,A7 (H.pt 0 rfl),A6 gl,sr,A7 zr]
    exact⟨_,rfl,es,by rw[hd],by rw[hd];exact(Hr.pick 1 rfl).one⟩
   simp only[go_sem,e2,e3,e4,e6,A7 (H.pt 3 rfl),A7 (H.pt 4 rfl)]
   refine Ac (Ch _ a1 s.know a.dot (hkn.pre H.sub) l1) (fun hkn1=> ?_) (fun hkn1=> ?_)
   ·have hd:Bi s a=(s,1):=by simp[Bi,hok,hao,hkn1]
    simp only[go_sem,e2,e3,e4,e6,A7 (H.pt 0 rfl),A6 gl,sr,A7 zr]
    exact⟨_,rfl,es,by rw[hd],by rw[hd];exact(Hr.pick 1 rfl).one⟩
   simp only[go_sem,e2,e3,e4,e6,A7 (H.pt 3 rfl),A7 (H.pt 4 rfl)]
   refine Ac (Hh _ kv a1 a.knew s.know (hkv.pre H.sub) (hkn.pre H.sub) hkl l1) (fun hkn2=> ?_) (fun hkn2=> ?_)
   rotate_left
   ·have hd:Bi s a=(s,2):=by simp[Bi,hok,hao,hkn1,hkn2]
    simp only[go_sem,e2,e3,e4,e6,A7 (H.pt 0 rfl),A6 gl,sr,A7 zr]
    exact⟨_,rfl,es,by rw[hd],by rw[hd];exact(Hr.pick 1 rfl).one⟩
   simp only[go_sem,e2,e3,e4,e6]
   refine hY _ _ ⟨?_,?_,?_,?_,rfl,hok,hao,hkn1,hkn2⟩
   all_goals simp only[go_sem,e2,e3,e4,e6]) ?_
  clear e2 e3 e4 e6
  rintro env U' ⟨e2,e3,e4,e6,rfl,hok,hao,hkn1,hkn2⟩
  obtain⟨⟨f1,f2⟩,⟨f3,f4⟩,⟨f5,f6⟩,f7⟩:=Ae9 hao
  obtain⟨t1,t2⟩:=Aea hok
  obtain⟨kf1,kf2,kf3⟩:=Su hok
  have CA:=Ads U _ s (A4.pre hR0 H.sub) a.ref hl
  refine E1 (fun env U'=>env 2= .ptr n1 0/\env 3= .ptr n2 0/\env 4= .ptr n4 0/\env 6= .ptr n6 0/\env 7=gi (Bm s.cells a.ref)/\U=U') (fun Yq hY=>by
   simp only[go_sem,e2,e3,e4,e6,A7 (H.pt 4 rfl),A7 (H.pt 3 rfl),A6 (cs:=[a1,b1,c1,v1]) rfl]
   refine Ao CA ?_
   simp only[go_sem,e2,e3,e4,e6]
   refine hY _ _ ⟨?_,?_,?_,?_,?_,rfl⟩
   all_goals simp only[go_sem,e2,e3,e4,e6]) ?_
  clear e2 e3 e4 e6
  rintro env U' ⟨e2,e3,e4,e6,e7,rfl⟩
  refine E1 (fun env U'=>env 2= .ptr n1 0/\env 3= .ptr n2 0/\env 4= .ptr n4 0/\env 6= .ptr n6 0/\env 7=gi (Bm s.cells a.ref)/\U=U'/\Jn s a=true) (fun Yq hY=>by
   obtain⟨Ur,sr,Hr,_⟩:=H.st 2 rfl 4 0 (.agg es) gl (by decide) (by simp)
   have zr:rdB Ur n4=some (B5 [GV.nilS,GV.nilS,GV.nilS,GV.nilS] 0 es):=Hr.pt 2 rfl
   rw[A5 gl rfl] at zr
   by_cases hr0:a.ref=d0
   ·have cr:decide (a.ref=⟨0,0⟩)=true:=decide_eq_true hr0
    have hri:=Ape (s:=s) hao hr0
    simp only[go_sem,e2,e3,e4,e6,e7,A7 (H.pt 3 rfl),A7 (H.pt 4 rfl),cr,Za6,Zap,Zan,Zai]
    refine hY _ _ ⟨?_,?_,?_,?_,?_,rfl,hri⟩
    all_goals simp only[go_sem,e2,e3,e4,e6,e7]
   ·have cr:decide (a.ref=⟨0,0⟩)=false:=decide_eq_false hr0
    have h67:=Apf hao hr0
    have hin:a.kind=7∨(a.kind=6/\a.ref≠d0):=h67.imp id fun h=>⟨h,hr0⟩
    cases hx:Cx s.cells a.ref with
    |none=>
     have hno:Bm s.cells a.ref= -1:=by simp[Bm,hx]
     rw[hno] at e7
     have cm:decide ((-1:Int)<0)=true:=rfl
     have hrf:Jn s a=false:=by simp[Jn,hin,hx]
     have hd:Bi s a=(s,3):=by simp[Bi,hok,hao,hkn1,hkn2,hrf]
     simp only[go_sem,e2,e3,e4,e6,e7,A7 (H.pt 3 rfl),A7 (H.pt 4 rfl),cr,cm,Za6,Zap,Zan,Zai,A7 (H.pt 0 rfl),A6 gl,sr,A7 zr]
     exact⟨_,rfl,es,by rw[hd],by rw[hd];exact(Hr.pick 1 rfl).one⟩
    |some k=>
     obtain⟨hk,hk2⟩:=Bs hx
     have hno:Bm s.cells a.ref=k:=by simp[Bm,hx]
     have hE:Jn s a=(decide (s.cells[k].obj=a.obj)&&(decide (a.kind=7)||decide (s.cells[k].time<a.time))):=by simp[Jn,hin,hx,Br hk]
     rw[hno] at e7
     have cm:decide ((k:Int)<0)=false:=by simp
     have C2:=Ab (hv.pre H.sub) hk
     cases ho:decide (s.cells[k].obj=a.obj) with
     |false=>
      have hrf:Jn s a=false:=by rw[hE,ho];rfl
      have hd:Bi s a=(s,3):=by simp[Bi,hok,hao,hkn1,hkn2,hrf]
      simp only[go_sem,e2,e3,e4,e6,e7,A7 (H.pt 3 rfl),A7 (H.pt 4 rfl),cr,cm,A0,C2,ho,Za6,Zap,Zan,Zai,A7 (H.pt 0 rfl),A6 gl,sr,A7 zr]
      exact⟨_,rfl,es,by rw[hd],by rw[hd];exact(Hr.pick 1 rfl).one⟩
     |true=>
      by_cases h6:a.kind=6
      ·have b6:(a.kind==6)=true:=by simp[h6]
       have h7:¬ a.kind=7:=by omega
       rw[ho,decide_eq_false h7] at hE
       cases ht:decide (a.time<=s.cells[k].time) with
       |true=>
        have ht2:decide (s.cells[k].time<a.time)=false:=by
         have:=of_decide_eq_true ht
         exact decide_eq_false (by omega)
        have hrf:Jn s a=false:=by rw[hE,ht2];rfl
        have hd:Bi s a=(s,3):=by simp[Bi,hok,hao,hkn1,hkn2,hrf]
        simp only[go_sem,e2,e3,e4,e6,e7,A7 (H.pt 3 rfl),A7 (H.pt 4 rfl),cr,cm,A0,C2,ho,b6,ht,Za6,Zap,Zan,Zai,A7 (H.pt 0 rfl),A6 gl,sr,A7 zr]
        exact⟨_,rfl,es,by rw[hd],by rw[hd];exact(Hr.pick 1 rfl).one⟩
       |false=>
        have ht2:decide (s.cells[k].time<a.time)=true:=by
         have:=of_decide_eq_false ht
         exact decide_eq_true (by omega)
        have hri:Jn s a=true:=by rw[hE,ht2];rfl
        simp only[go_sem,e2,e3,e4,e6,e7,A7 (H.pt 3 rfl),A7 (H.pt 4 rfl),cr,cm,A0,C2,ho,b6,ht,Za6,Zap,Zan,Zai]
        refine hY _ _ ⟨?_,?_,?_,?_,?_,rfl,hri⟩
        all_goals simp only[go_sem,e2,e3,e4,e6,e7,hno]
      ·have b6:(a.kind==6)=false:=by simp[h6]
       have h7:a.kind=7:=by omega
       have hri:Jn s a=true:=by rw[hE,ho,decide_eq_true h7];rfl
       simp only[go_sem,e2,e3,e4,e6,e7,A7 (H.pt 3 rfl),A7 (H.pt 4 rfl),cr,cm,A0,C2,ho,b6,Za6,Zap,Zan,Zai]
       refine hY _ _ ⟨?_,?_,?_,?_,?_,rfl,hri⟩
       all_goals simp only[go_sem,e2,e3,e4,e6,e7,hno]) ?_
  clear e2 e3 e4 e6 e7
  rintro env U' ⟨e2,e3,e4,e6,e7,rfl,hri⟩
  refine E1 (fun env U=>∃ n8 fs,fs.length=4/\env 2= .ptr n1 0/\env 3= .ptr n2 0/\env 4= .ptr n4 0/\env 6= .ptr n6 0/\env 7=gi (Bm s.cells a.ref)/\env 8= .ptr n8 0/\Hp N U [pt 1 n8 fs,own A4 fs s,pt 1 n6 es,own A4 es s,pt 1 n4 [GV.nilS,GV.nilS,GV.nilS,GV.nilS],pt 1 n2 (actV a kv),pt 1 n1 [a1,b1,c1,v1]]) (fun Yq hY=>by
   simp only[go_sem,e2,e3,e4,e6,e7,A7 (H.pt 4 rfl),A6 (cs:=[a1,b1,c1,v1]) rfl]
   obtain⟨fs,U1,R1,K1⟩:=Kf _ _ s (A4.pre hR0 H.sub) hl
   refine J8 R1 K1 ?_
   have H:=H.add K1
   simp only[Zaa,Zab] at H
   have gf:fs.length=4:=A4.len (K1.rd 0 rfl)
   have H:=H.new 1 fs
   simp only[go_sem,A5 (cs:=[GV.nilS,GV.nilS,GV.nilS,GV.nilS]) gf rfl,gf,e2,e3,e4,e6,e7]
   refine hY _ _ ⟨U1.length,fs,gf,?_,?_,?_,?_,?_,?_,H⟩
   all_goals simp only[go_sem,e2,e3,e4,e6,e7]) ?_
  clear H e2 e3 e4 e6 e7 CA
  rintro env U ⟨n8,fs,gf,e2,e3,e4,e6,e7,e8,H⟩
  obtain⟨r,hr⟩:∃ r:Nat,a.dot.rep=(r:Int):=⟨a.dot.rep.toNat,by omega⟩
  have hrl:r<s.know.length:=by omega
  have hdo:Jm s a=Da {s with know:=s.know.set r a.dot.seq} a:=by
   unfold Jm
   rw[hr];simp
  refine E1 (fun env U=>env 2= .ptr n1 0/\env 3= .ptr n2 0/\env 4= .ptr n4 0/\env 6= .ptr n6 0/\env 7=gi (Bm s.cells a.ref)/\env 8= .ptr n8 0/\SPtr N U n8 {s with know:=s.know.set r a.dot.seq} [pt 1 n6 es,own A4 es s,pt 1 n4 [GV.nilS,GV.nilS,GV.nilS,GV.nilS],pt 1 n2 (actV a kv),pt 1 n1 [a1,b1,c1,v1]]) (fun Yq hY=>by
   obtain⟨u0,u1,u2,u3,H⟩:=Aje H
   have i0:iadG 1 u0 (some r)=some (atz 1 u0 r):=RdN.iad (H.sl 0 rfl) hrl
   have n0:Bu (some (.int .i64 a.dot.rep))=some r:=by rw[hr];exact A0
   obtain⟨U1,st0,H1⟩:=H.stw 0 rfl (j:=r) hrl 1 (gi a.dot.seq) a.dot.seq rfl rfl (by decide)
   have st0:stG 1 _ (atz 1 u0 r) (.int .i64 a.dot.seq)=some (.tup [],U1):=st0
   simp only[go_sem,e2,e3,e4,e6,e7,e8,A7 (H.pt 4 rfl),A7 (H.pt 8 rfl),n0,i0,st0]
   refine hY _ _ ⟨?_,?_,?_,?_,?_,?_,u0,u1,u2,u3,H1⟩
   all_goals simp only[go_sem,e2,e3,e4,e6,e7,e8]) ?_
  clear H e2 e3 e4 e6 e7 e8
  rintro env U ⟨e2,e3,e4,e6,e7,e8,S1⟩
  refine E1 (fun env U=>env 2= .ptr n1 0/\env 3= .ptr n2 0/\env 4= .ptr n4 0/\env 6= .ptr n6 0/\env 8= .ptr n8 0/\SPtr N U n8 (Jm s a) [pt 1 n6 es,own A4 es s,pt 1 n4 [GV.nilS,GV.nilS,GV.nilS,GV.nilS],pt 1 n2 (actV a kv),pt 1 n1 [a1,b1,c1,v1]]) (fun Yq hY=>by
   obtain⟨u0,u1,u2,u3,H⟩:=S1
   have e89:=A7 (a:=false) (n:=1) (off:=4) (H.pt 8 rfl)
   by_cases k1:a.kind=1
   ·have kb1:(a.kind==1)=true:=by simp[k1]
    have hd:Da {s with know:=s.know.set r a.dot.seq} a={s with know:=s.know.set r a.dot.seq,tallies:=Eb s.tallies a.obj a.dot.rep a.val}:=by unfold Da;rw[if_pos k1]
    obtain⟨w,U2,R2,K2⟩:=A47 U b1 s.tallies (hb.pre H.sub) (Gs hz3 H.sub) a.obj a.dot.rep a.val l2 (by omega) t2
    rw[Adv ⟨f5,f6⟩ kf1] at K2
    have H2:=H.add K2
    simp only[Zaa,Zab] at H2
    have cc:=(H2.sl 0 rfl).cell
    obtain⟨U3,st3,H3,_⟩:=H2.st 5 rfl 1 1 w (by rw[cc];rfl) (by decide) (by simp)
    simp only[go_sem,e2,e3,e4,e6,e7,e8,e89,A7 (H.pt 9 rfl),A7 (H.pt 8 rfl),kb1]
    refine J8 R2 K2 ?_
    simp only[go_sem,e2,e3,e4,e6,e7,e8,st3]
    refine hY _ _ ⟨?_,?_,?_,?_,?_,u0,w,u2,u3,?_⟩
    all_goals first|(simp only[go_sem,e2,e3,e4,e6,e7,e8];done)|skip
    simp only[cc,Zad,Zae,D7,D6,E2] at H3
    rw[hdo,hd]
    exact Hp.moveTo H3 1 rfl
   have kb1:(a.kind==1)=false:=by simp[k1]
   by_cases k2:a.kind=2
   ·have kb2:(a.kind==2)=true:=by simp[k2]
    have hd:Da {s with know:=s.know.set r a.dot.seq} a={s with know:=s.know.set r a.dot.seq,lives:=Hy ⟨false,a.obj,a.key,0,a.dot⟩ s.lives}:=by unfold Da;rw[if_neg k1,if_pos k2]
    obtain⟨w,U2,R2,K2⟩:=Rl U c1 s.lives (hc.pre H.sub) (Gs hz6 H.sub) ⟨false,a.obj,a.key,0,a.dot⟩ l3
    rw[A4f kf2 hkn1] at K2
    have H2:=H.add K2
    simp only[Zaa,Zab] at H2
    have cc:=(H2.sl 0 rfl).cell
    obtain⟨U3,st3,H3,_⟩:=H2.st 5 rfl 1 2 w (by rw[cc];rfl) (by decide) (by simp)
    simp only[go_sem,e2,e3,e4,e6,e7,e8,e89,A7 (H.pt 9 rfl),A7 (H.pt 8 rfl),kb1,kb2]
    refine J8 R2 K2 ?_
    simp only[go_sem,e2,e3,e4,e6,e7,e8,st3]
    refine hY _ _ ⟨?_,?_,?_,?_,?_,u0,u1,w,u3,?_⟩
    all_goals first|(simp only[go_sem,e2,e3,e4,e6,e7,e8];done)|skip
    simp only[cc,Zad,Zae,D7,D6,E2] at H3
    rw[hdo,hd]
    exact Hp.moveTo H3 2 rfl
   have kb2:(a.kind==2)=false:=by simp[k2]
   by_cases k3:a.kind=3
   ·have kb3:(a.kind==3)=true:=by simp[k3]
    have hd:Da {s with know:=s.know.set r a.dot.seq} a={s with know:=s.know.set r a.dot.seq,lives:=s.lives.filter (Lz false a.obj a.key a.knew)}:=by unfold Da;rw[if_neg k1,if_neg k2,if_pos k3]
    obtain⟨w,U2,R2,K2⟩:=I3 U c1 s.lives (hc.pre H.sub) false _ a (hS1 H.sub) l3 hm
    have H2:=H.add K2
    simp only[Zaa,Zab] at H2
    have cc:=(H2.sl 0 rfl).cell
    obtain⟨U3,st3,H3,_⟩:=H2.st 5 rfl 1 2 w (by rw[cc];rfl) (by decide) (by simp)
    simp only[go_sem,e2,e3,e4,e6,e7,e8,e89,A7 (H.pt 9 rfl),A7 (H.pt 8 rfl),A6 (cs:=actV a kv) rfl,kb1,kb2,kb3]
    refine J8 R2 K2 ?_
    simp only[go_sem,e2,e3,e4,e6,e7,e8,st3]
    refine hY _ _ ⟨?_,?_,?_,?_,?_,u0,u1,w,u3,?_⟩
    all_goals first|(simp only[go_sem,e2,e3,e4,e6,e7,e8];done)|skip
    simp only[cc,Zad,Zae,D7,D6,E2] at H3
    rw[hdo,hd]
    exact Hp.moveTo H3 2 rfl
   have kb3:(a.kind==3)=false:=by simp[k3]
   by_cases k4:a.kind=4
   ·have kb4:(a.kind==4)=true:=by simp[k4]
    have hd:Da {s with know:=s.know.set r a.dot.seq} a={s with know:=s.know.set r a.dot.seq,lives:=Hy ⟨true,a.obj,a.key,a.val,a.dot⟩ (s.lives.filter (Lz true a.obj a.key a.knew))}:=by unfold Da;rw[if_neg k1,if_neg k2,if_neg k3,if_pos k4]
    obtain⟨y,U2,R2,K2⟩:=I3 U c1 s.lives (hc.pre H.sub) true _ a (hS1 H.sub) l3 hm
    have H2':=H.add K2
    simp only[Zaa,Zab] at H2'
    have hfl:=Za0 (Lz true a.obj a.key a.knew) s.lives
    obtain⟨w,U3',R3,K3⟩:=Rl U2 y _ (H2'.sl 0 rfl) (H2'.zok 0 rfl) ⟨true,a.obj,a.key,a.val,a.dot⟩ (by omega)
    rw[A4f (fun y hy=>kf2 y (List.mem_filter.1 hy).1) hkn1] at K3
    have H2:=(H2'.drop1).add K3
    simp only[Zaa,Zab] at H2
    have cc:=(H2.sl 0 rfl).cell
    obtain⟨U3,st3,H3,_⟩:=H2.st 5 rfl 1 2 w (by rw[cc];rfl) (by decide) (by simp)
    simp only[go_sem,e2,e3,e4,e6,e7,e8,e89,A7 (H.pt 9 rfl),A7 (H.pt 8 rfl),A6 (cs:=actV a kv) rfl,kb1,kb2,kb3,kb4]
    refine J8 R2 K2 ?_
    simp only[go_sem,e2,e3,e4,e6,e7,e8,e89,A7 (H2'.pt 9 rfl)]
    refine J8 R3 K3 ?_
    simp only[go_sem,e2,e3,e4,e6,e7,e8,st3]
    refine hY _ _ ⟨?_,?_,?_,?_,?_,u0,u1,w,u3,?_⟩
    all_goals first|(simp only[go_sem,e2,e3,e4,e6,e7,e8];done)|skip
    simp only[cc,Zad,Zae,D7,D6,E2] at H3
    rw[hdo,hd]
    exact Hp.moveTo H3 2 rfl
   have kb4:(a.kind==4)=false:=by simp[k4]
   by_cases k5:a.kind=5
   ·have kb5:(a.kind==5)=true:=by simp[k5]
    have hd:Da {s with know:=s.know.set r a.dot.seq} a={s with know:=s.know.set r a.dot.seq,lives:=s.lives.filter (Lz true a.obj a.key a.knew)}:=by unfold Da;rw[if_neg k1,if_neg k2,if_neg k3,if_neg k4,if_pos k5]
    obtain⟨w,U2,R2,K2⟩:=I3 U c1 s.lives (hc.pre H.sub) true _ a (hS1 H.sub) l3 hm
    have H2:=H.add K2
    simp only[Zaa,Zab] at H2
    have cc:=(H2.sl 0 rfl).cell
    obtain⟨U3,st3,H3,_⟩:=H2.st 5 rfl 1 2 w (by rw[cc];rfl) (by decide) (by simp)
    simp only[go_sem,e2,e3,e4,e6,e7,e8,e89,A7 (H.pt 9 rfl),A7 (H.pt 8 rfl),A6 (cs:=actV a kv) rfl,kb1,kb2,kb3,kb4,kb5]
    refine J8 R2 K2 ?_
    simp only[go_sem,e2,e3,e4,e6,e7,e8,st3]
    refine hY _ _ ⟨?_,?_,?_,?_,?_,u0,u1,w,u3,?_⟩
    all_goals first|(simp only[go_sem,e2,e3,e4,e6,e7,e8];done)|skip
    simp only[cc,Zad,Zae,D7,D6,E2] at H3
    rw[hdo,hd]
    exact Hp.moveTo H3 2 rfl
   have kb5:(a.kind==5)=false:=by simp[k5]
   by_cases k6:a.kind=6
   ·have kb6:(a.kind==6)=true:=by simp[k6]
    have hd:Da {s with know:=s.know.set r a.dot.seq} a={s with know:=s.know.set r a.dot.seq,cells:=Kc ⟨a.obj,a.dot,a.time,a.ref,a.val,false⟩ s.cells}:=by unfold Da;rw[if_neg k1,if_neg k2,if_neg k3,if_neg k4,if_neg k5,if_pos k6]
    obtain⟨w,U2,R2,K2⟩:=A75 U v1 s.cells (hv.pre H.sub) (Gs hz8 H.sub) ⟨a.obj,a.dot,a.time,a.ref,a.val,false⟩ l4
    rw[Ahp kf3 hkn1] at K2
    have H2:=H.add K2
    simp only[Zaa,Zab] at H2
    have cc:=(H2.sl 0 rfl).cell
    obtain⟨U3,st3,H3,_⟩:=H2.st 5 rfl 1 3 w (by rw[cc];rfl) (by decide) (by simp)
    simp only[go_sem,e2,e3,e4,e6,e7,e8,e89,A7 (H.pt 9 rfl),A7 (H.pt 8 rfl),kb1,kb2,kb3,kb4,kb5,kb6]
    refine J8 R2 K2 ?_
    simp only[go_sem,e2,e3,e4,e6,e7,e8,st3]
    refine hY _ _ ⟨?_,?_,?_,?_,?_,u0,u1,u2,w,?_⟩
    all_goals first|(simp only[go_sem,e2,e3,e4,e6,e7,e8];done)|skip
    simp only[cc,Zad,Zae,D7,D6,E2] at H3
    rw[hdo,hd]
    exact Hp.moveTo H3 3 rfl
   have kb6:(a.kind==6)=false:=by simp[k6]
   have k7:a.kind=7:=by omega
   have kb7:(a.kind==7)=true:=by simp[k7]
   have hd:Da {s with know:=s.know.set r a.dot.seq} a={s with know:=s.know.set r a.dot.seq,cells:=J1 s.cells a.ref}:=by unfold Da;rw[if_neg k1,if_neg k2,if_neg k3,if_neg k4,if_neg k5,if_neg k6]
   cases hx:Cx s.cells a.ref with
   |none=>simp[Jn,k7,hx] at hri
   |some k=>
    obtain⟨hkl2,hke⟩:=Bs hx
    have hno:Bm s.cells a.ref=k:=by simp[Bm,hx]
    rw[hno] at e7
    have C2:=Ab (H.sl 3 rfl) hkl2
    obtain⟨U2,st2,H2⟩:=H.ste 3 rfl hkl2 1 7 (.bool true) {s.cells[k] with gone:=true} rfl (by decide) (by decide) rfl
    have st2:stG 1 U (fld 7 (atz 8 u3 k)) (.bool true)=some (.tup [],U2):=st2
    simp only[go_sem,e2,e3,e4,e6,e7,e8,kb1,kb2,kb3,kb4,kb5,kb6,kb7,A7 (H.pt 8 rfl),A7 (H.pt 4 rfl),A0,C2,st2]
    refine hY _ _ ⟨?_,?_,?_,?_,?_,u0,u1,u2,u3,?_⟩
    all_goals first|(simp only[go_sem,e2,e3,e4,e6,e7,e8];done)|skip
    have hE:J1 s.cells a.ref=s.cells.set k {s.cells[k] with gone:=true}:=by
     unfold J1
     rw[hx]
     exact Js _ hkl2
    rw[hdo,hd,hE]
    exact H2) ?_
  clear e2 e3 e4 e6 e7 e8 S1
  rintro env U ⟨e2,e3,e4,e6,e8,S1⟩
  obtain⟨w0,w1,w2,w3,z6,q1,q2,q3,H3⟩:=S1.own
  have TM:=Vk U [w0,w1,w2,w3] (Jm s a) (H3.rd 0 rfl)
  simp only[go_sem,e2,e3,e4,e6,e8,A7 z6,A6 (cs:=[w0,w1,w2,w3]) rfl]
  refine Ac TM (fun ht=> ?_) (fun ht=> ?_)
  ·have hd:Bi s a=(s,4):=by simp[Bi,hok,hao,hkn1,hkn2,hri,ht]
   obtain⟨U5,s5,H5,_⟩:=H3.st 3 rfl 4 0 (.agg es) gl (by decide) (by simp)
   have z5:rdB U5 n4=some (B5 [GV.nilS,GV.nilS,GV.nilS,GV.nilS] 0 es):=H5.pt 3 rfl
   rw[A5 gl rfl] at z5
   simp only[go_sem,e2,e3,e4,e6,e8,A7 (H3.pt 1 rfl),A6 gl,s5,A7 z5]
   exact⟨_,rfl,es,by rw[hd],by rw[hd];exact(H5.pick 2 rfl).one⟩
  ·have hd:Bi s a=(Jm s a,0):=by simp[Bi,hok,hao,hkn1,hkn2,hri,ht]
   obtain⟨U5,s5,H5,_⟩:=H3.st 3 rfl 4 0 (.agg [w0,w1,w2,w3]) rfl (by decide) (by simp)
   have z5:rdB U5 n4=some [w0,w1,w2,w3]:=H5.pt 3 rfl
   simp only[go_sem,e2,e3,e4,e6,e8,A7 z6,A6 (cs:=[w0,w1,w2,w3]) rfl,s5,A7 z5]
   exact⟨_,rfl,_,by rw[hd],by rw[hd];exact H5.one⟩
 obtain⟨q,U,R,ds,rfl,h⟩:=key
 exact⟨ds,U,R,h⟩
def F7 (c:Cell):Bool:= !c.gone
theorem An5 {l:List Cell} {i:Nat} (hi:i<l.length):(l.take (i+1)).filter F7=if F7 l[i] then(l.take i).filter F7++[l[i]] else(l.take i).filter F7:=by
 rw[L8 hi]
 split<;>simp
def Qo:Fn1:=⟨34,[.t 2],(rg [oX 1 0,oV 2 kf] (rg [oF 4 0 1,oL 5 4,oE 6 .eql 5 6,oM 7 6,vF 8 7 0 1,vL 9 7 8,vE 10 7 .eql 9 7,oP 11 7 10,oM 3 11] (rg [oF 12 0 1,oL 13 12,oF 14 1 1,oL 15 14,oF 16 2 1,oL 17 16,oF 18 3 1,oL 19 18,o 20 (.call 279 (oT [13,15,17,19])),oM 21 20,jF 22 21 4 1,jL 23 21 22,jE 24 21 .geq 23 0,oQ 25 21 24,oM 26 25,jM 27 26 3,jM 28 26 27,vF 29 28 4 1,vL 30 28 29,vE 31 28 .eql 30 0,og 32 26 true (.pick (.t 28) kt (.t 31)),oQ 33 26 32,oM 2 33] .ret)))⟩
theorem Ahr:A8 Tryz.prog 345=some Qo:=by kernel_rfl
def A4h:Fn1:=⟨42,[.c 6 true 2,.t 7],(rg [oX 3 0,o 6 (.new [z0,z0]),oV 7 kf] (.seq (rg [oW 10 4 3,oC 11 199 10,oU 12 11,oM 13 12,vM 14 13 2,vE 15 13 .lss 14 0,oP 16 13 15] (oG 16 (rg [o 17 (.build [z0,z0] []),oS 2 6 17,oV 7 kf] .ret))) (rg [oW 18 4 3,oM 19 1,oD 20 145 18 19,oM 8 20] (.seq (rg [oV 9 (ki 0)] (oH 0 (.seq (rg [oM 21 9,oM 22 8,oN 23 22,oB 24 .lss 21 23] (oJ 24 0)) (.seq (.blk 1 (.seq (rg [oM 27 8,oM 28 9,oI 29 8 27 28,oF 30 7 29,oL 31 30] (oG 31 (.ext 1))) (.seq (rg [oM 32 2,oE 33 .eql 32 0] (oG 33 (rg [oM 34 8,oM 35 9,oI 36 8 34 35,oF 37 1 36,oW 38 2 37,oS 2 6 38,oV 7 kt] .ret))) (.reg [oM 39 2,oE 40 .sub 39 1,oM 2 40])))) (.reg [oM 25 9,oZ 26 25 1,oM 9 26]))))) (rg [o 41 (.build [z0,z0] []),oS 2 6 41,oV 7 kf] .ret)))))⟩
theorem Aec:A8 Tryz.prog 346=some A4h:=by kernel_rfl
def Om (e:Edit):Bool:=C7 e.kind e.obj e.key e.val&&(decide (0<=e.place)&&((e.kind==6||e.kind==7)||e.place==0))
theorem Aed (N:St) (e:Edit) (ho:e.obj.size<=1099511627776) (hk:e.key.size<=1099511627776):Ret Tryz.prog 345 [.agg [gi e.kind,.str e.obj,.str e.key,gi e.val,gi e.place]] N (.bool (Om e)) N:=by
 refine B7 Ahr (Z0z rfl) trivial ?_
 cases h6:(e.kind==6) with
 |true=>
  simp only[go_sem,Qo,h6]
  refine Ac (Mp _ _ _ _ _ ho hk) (fun h1=> ?_) (fun h1=> ?_)
  ·cases h2:decide (0<=e.place) with
   |true=>simp only[go_sem,h2,Om,h1,h6,Zbp,Zbi]
   |false=>simp only[go_sem,h2,Om,h1,h6,Zax,Zbw]
  ·simp only[go_sem,Om,h1,Zax]
 |false=>
  cases h7:(e.kind==7) with
  |true=>
   simp only[go_sem,Qo,h6,h7]
   refine Ac (Mp _ _ _ _ _ ho hk) (fun h1=> ?_) (fun h1=> ?_)
   ·cases h2:decide (0<=e.place) with
    |true=>simp only[go_sem,h2,Om,h1,h6,h7,Zbp,Zbz,Zbi]
    |false=>simp only[go_sem,h2,Om,h1,h6,Zax,Zbw]
   ·simp only[go_sem,Om,h1,Zax]
  |false=>
   simp only[go_sem,Qo,h6,h7]
   refine Ac (Mp _ _ _ _ _ ho hk) (fun h1=> ?_) (fun h1=> ?_)
   ·cases h2:decide (0<=e.place) with
    |true=>simp only[go_sem,h2,Om,h1,h6,h7,Zbp,Zbz,Zb5,Zbi]
    |false=>simp only[go_sem,h2,Om,h1,h6,Zax,Zbw]
   ·simp only[go_sem,Om,h1,Zax]
def Dn (s:State) (o:ByteArray) (i:Int):Dot×Bool:=if h:0<=i/\i.toNat<(rowL s o).length then((rowL s o)[i.toNat].dot,true) else(⟨0,0⟩,false)
theorem flt_at {Y:Type} {l:List Y} {p:Y->Bool} {k:Nat} (hk:k<l.length) (hp:p l[k]=true):∃ h:((l.take k).filter p).length<(l.filter p).length,(l.filter p)[((l.take k).filter p).length]=l[k]:=by
 have e:l.filter p=(l.take k).filter p++l[k]::(l.drop (k+1)).filter p:=by
  have h1:l=l.take k++l[k]::l.drop (k+1):=by rw[<- List.drop_eq_getElem_cons hk,Zbr]
  have h2:l.filter p=(l.take k++l[k]::l.drop (k+1)).filter p:=congrArg _ h1
  rw[h2,Zbg,List.filter_cons_of_pos hp]
 refine⟨by rw[e];simp,?_⟩
 simp[e]
theorem Vo (N:St) (cs:List GV) (s:State) (hR:A4.R N s cs) (o:ByteArray) (i:Int) (hl:Ad s<=1099511627776) (hi6:i<=9223372036854775807):Ret Tryz.prog 346 [.agg cs,.str o,gi i] N (.tup [.agg [gi (Dn s o i).1.rep,gi (Dn s o i).1.seq],.bool (Dn s o i).2]) N:=by
 have hlen:cs.length=4:=A4.len hR
 refine B7 Aec (Z0z rfl) (by simp[vLt,cLt,sLt]) ?_
 have H:=((Hp.refl N).new 1 cs).new 1 [gi 0,gi 0]
 simp only[go_sem,A4h,Amm,A6 hlen]
 generalize hn2:(N++[some (Blk.row 1 cs)]).length=n2 at*
 have hno:¬ (0<=i/\i.toNat<(rowL s o).length)->Dn s o i=(⟨0,0⟩,false):=fun h=>by unfold Dn;rw[dif_neg h]
 refine Ac (Cl _ _ s (A4.pre hR H.sub) hl) (fun hok=> ?_) (fun hok=> ?_)
 rotate_left
 ·have hpl:=hno (by simp[rowL,hok])
  obtain⟨U2,s2,H2,_⟩:=H.st 0 rfl 2 0 (.agg [gi 0,gi 0]) rfl (by decide) (by simp)
  have z2:rdB U2 n2=some [gi 0,gi 0]:=H2.pt 0 rfl
  simp only[go_sem,s2,A7 z2,A6 (cs:=[gi 0,gi 0]) rfl,hpl,H2.sub]
 by_cases hi:i<0
 ·have hpl:=hno (by omega)
  have ci:decide (i<0)=true:=decide_eq_true hi
  obtain⟨U2,s2,H2,_⟩:=H.st 0 rfl 2 0 (.agg [gi 0,gi 0]) rfl (by decide) (by simp)
  have z2:rdB U2 n2=some [gi 0,gi 0]:=H2.pt 0 rfl
  simp only[go_sem,ci,s2,A7 z2,A6 (cs:=[gi 0,gi 0]) rfl,hpl,H2.sub]
 have ci:decide (i<0)=false:=decide_eq_false hi
 obtain⟨m,rfl⟩:∃ m:Nat,i=(m:Int):=⟨i.toNat,by omega⟩
 have hrl:rowL s o=(rowC s o).filter F7:=by simp only[rowL,hok,if_true];rfl
 have hrb:=Ajb (Amw hok) o
 simp only[go_sem,ci,A7 (H.pt 1 rfl),A6 hlen]
 obtain⟨r1,U1,R1,K1⟩:=Ae1 _ cs s (A4.pre hR H.sub) o hok hl
 refine J8 R1 K1 ?_
 have H:=H.add K1
 simp only[Zaa,Zab] at H
 rw[hrl] at hno
 have hyes:∀ h:m<((rowC s o).filter F7).length,Dn s o m=(((rowC s o).filter F7)[m].dot,true):=fun h=>by
  unfold Dn
  rw[dif_pos ⟨by omega,by rw[hrl];simpa using h⟩]
  simp only[hrl,Int.toNat_natCast]
 generalize hT:rowC s o=T at*
 simp only[go_sem]
 have H:Hp N U1 [ow Ai.kd r1 T,pt 1 n2 [gi 0,gi 0]]:=(((H.pick 2 rfl).drop1))
 refine An4 T.length 9 0 (fun k env U=>env 2=gi ((m:Int) - (((T.take k).filter F7).length:Nat))/\((T.take k).filter F7).length<=m/\env 6= .ptr n2 0/\env 8=r1/\Hp N U [ow Ai.kd r1 T,pt 1 n2 [gi 0,gi 0]]) (fun env U=>env 6= .ptr n2 0/\Dn s o m=(⟨0,0⟩,false)/\Hp N U [pt 1 n2 [gi 0,gi 0]]) (fun env U=>env 6= .ptr n2 0/\env 7= .bool true/\(Dn s o m).2=true/\Hp N U [pt 1 n2 [gi (Dn s o m).1.rep,gi (Dn s o m).1.seq]]) rfl ⟨by simp only[go_sem,Zbx,List.filter_nil,Za5,Int.natCast_zero,Int.sub_zero],Nat.zero_le _,rfl,rfl,H⟩ ?_ ?_ ?_ ?_
 ·clear H
  rintro J Yq Wq hJ hY hW k env U hk e9 c0 ⟨e2,hc,e6,e8,H⟩
  have C1:=Ab (H.sl 0 rfl) hk
  have hln:=(H.sl 0 rfl).len
  have hsn:=An5 hk
  generalize hcc:((T.take k).filter F7).length=c at*
  cases hg:T[k].gone with
  |true=>
   have hk0:F7 T[k]=false:=by simp[F7,hg]
   rw[hk0,if_neg (by simp)] at hsn
   simp(disch:=omega) only[go_sem,c0,e2,e6,e8,e9,hln,C1,hg]
   refine hJ _ _ _ ⟨?_,by rw[hsn,hcc];exact hc,?_,?_,H⟩
   all_goals simp only[go_sem,e2,e6,e8,hsn,hcc]
  |false=>
   have hk0:F7 T[k]=true:=by simp[F7,hg]
   obtain⟨hf1,hf2⟩:=flt_at hk hk0
   rw[hk0,if_pos rfl] at hsn
   by_cases hm:c=m
   ·have z:((m:Int) - c==0)=true:=by simp;omega
    have hlt:m<(T.filter F7).length:=by omega
    have hpl:=hyes hlt
    have hix:(T.filter F7)[m]=T[k]:=by
     have:((T.take k).filter F7).length=m:=by omega
     rw[<- hf2];congr 1;exact this.symm
    rw[hix] at hpl
    obtain⟨U2,s2,H2,_⟩:=H.st 1 rfl 2 0 (.agg [gi T[k].dot.rep,gi T[k].dot.seq]) rfl (by decide) (by simp)
    have H2:Hp N U2 [ow Ai.kd r1 T,pt 1 n2 [gi T[k].dot.rep,gi T[k].dot.seq]]:=H2
    simp only[go_sem,c0,e2,e6,e8,e9,hln,C1,hg,z,s2]
    refine hW _ _ ⟨?_,?_,by rw[hpl],by rw[hpl];exact H2.drop1⟩
    all_goals simp only[go_sem,e6]
   ·have z:((m:Int) - c==0)=false:=by simp;omega
    have hl1:((T.take (k+1)).filter F7).length=c+1:=by rw[hsn];simp[hcc]
    have hI:(m:Int) - c - 1=(m:Int) - ((c:Int)+1):=by omega
    simp(disch:=omega) only[go_sem,c0,e2,e6,e8,e9,hln,C1,hg,z]
    refine hJ _ _ _ ⟨?_,by rw[hl1];omega,?_,?_,H⟩
    all_goals simp only[go_sem,e2,e6,e8,hl1,hI]
 ·clear H
  rintro Yq hY env U e9 c0 ⟨e2,hc,e6,e8,H⟩
  rw[Zb2] at hc
  have hln:=(H.sl 0 rfl).len
  simp only[go_sem,c0,e2,e6,e8,e9,hln]
  refine hY _ _ ⟨?_,hno (by simp;omega),H.drop1⟩
  simp only[go_sem,e6]
 ·clear H
  rintro env U ⟨e6,hpl,H⟩
  obtain⟨U2,s2,H2,_⟩:=H.st 0 rfl 2 0 (.agg [gi 0,gi 0]) rfl (by decide) (by simp)
  have z2:rdB U2 n2=some [gi 0,gi 0]:=H2.pt 0 rfl
  simp only[go_sem,e6,s2,A7 z2,A6 (cs:=[gi 0,gi 0]) rfl,hpl,H2.sub]
 ·clear H
  rintro env U ⟨e6,e7,h2,H⟩
  simp only[go_sem,e6,e7,A7 (H.pt 0 rfl),A6 (cs:=[gi (Dn s o m).1.rep,gi (Dn s o m).1.seq]) rfl,h2,H.sub]
def Aee:Fn1:=⟨98,[.c 8 true 10,.t 9],(rg [oX 4 0,oX 7 3,o 8 (.new [z0,z0,z0,.nilS,z0,s0,s0,z0,z0,z0]),oV 9 (ki 0)] (.seq (rg [oW 12 4 4,oC 13 199 12,oU 14 13,oM 15 14,vW 16 15 5 7,vC 17 15 345 16,vU 18 15 17,oP 19 15 18,oM 20 19,vM 21 20 1,og 22 20 false (.call 122 [(.t 21),(ki 0),(ki 2)]),vU 23 20 22,oP 24 20 23,oM 25 24,vM 26 25 2,og 27 25 false (.call 122 [(.t 26),(ki 1),(ki 10000)]),vU 28 25 27,oP 29 25 28] (oG 29 (rg [o 30 (.build [z0,z0,z0,.nilS,z0,s0,s0,z0,z0,z0] []),oS 10 8 30,oV 9 (ki 3)] .ret))) (dw [oM 31 1,oF 32 0 4,oL 33 32,oM 34 1,oI 35 1 33 34,oL 36 35,oZ 37 36 1,o 38 (.build [z0,z0] [(0,1,(.t 31)),(1,1,(.t 37))]),oM 39 2,o 40 (.lit 1 0 [] []),oF 41 0 4,oL 42 41,o 43 (.app 1 8 [z0] (.t 40) (.t 42)),oF 44 0 7,oL 45 44,oF 46 1 7,oL 47 46,oF 48 2 7,oL 49 48,oF 50 3 7,oL 51 50,o 52 (.build [z0,z0,z0,.nilS,z0,s0,s0,z0,z0,z0] [(0,2,(.t 38)),(2,1,(.t 39)),(3,1,(.t 43)),(4,1,(.t 45)),(5,1,(.t 47)),(6,1,(.t 49)),(7,1,(.t 51))]),o 10 (.new [z0,z0,z0,.nilS,z0,s0,s0,z0,z0,z0])] [oS 10 10 52] (rg [oV 11 kt] (.seq (rg [oF 53 0 7,oL 54 53,oE 55 .eql 54 7] (oG 55 (.reg [oW 57 4 4,oF 58 1 7,oL 59 58,oF 60 4 7,oL 61 60,o 62 (.call 346 (oT [57,59,61])),oM 56 62,o 63 (.ext 0 (.t 56)),o 64 (.ext 1 (.t 56)),oF 65 8 10,oS 2 65 63,oM 11 64]))) (.seq (rg [oF 66 0 7,oL 67 66,oE 68 .eql 67 6,oM 69 68,jF 70 69 4 7,jL 71 69 70,jE 72 69 .gtr 71 0,oQ 73 69 72] (oG 73 (.reg [oW 75 4 4,oF 76 1 7,oL 77 76,oF 78 4 7,oL 79 78,oE 80 .sub 79 1,o 81 (.call 346 (oT [75,77,80])),oM 74 81,o 82 (.ext 0 (.t 74)),o 83 (.ext 1 (.t 74)),oF 84 8 10,oS 2 84 82,oM 11 83]))) (.seq (rg [oF 85 0 10,oW 86 2 85,oC 87 168 86,oU 88 87] (oG 88 (rg [o 89 (.build [z0,z0,z0,.nilS,z0,s0,s0,z0,z0,z0] []),oS 10 8 89,oV 9 (ki 3)] .ret))) (.seq (rg [oM 90 11,oU 91 90] (oG 91 (rg [o 92 (.build [z0,z0,z0,.nilS,z0,s0,s0,z0,z0,z0] []),oS 10 8 92,oV 9 (ki 5)] .ret))) (.seq (rg [oW 93 10 10,oC 94 185 93,oU 95 94] (oG 95 (rg [o 96 (.build [z0,z0,z0,.nilS,z0,s0,s0,z0,z0,z0] []),oS 10 8 96,oV 9 (ki 3)] .ret))) (rg [oW 97 10 10,oS 10 8 97,oV 9 (ki 0)] .ret))))))))))⟩
theorem Akt:A8 Tryz.prog 276=some Aee:=by kernel_rfl
def Fr (s:State) (e:Edit):Dot×Bool:=if e.kind=7 then Dn s e.obj e.place else if e.kind=6/\0<e.place then Dn s e.obj (e.place - 1) else(d0,true)
def act0:Act:=⟨d0,0,[],0,⟨#[]⟩,⟨#[]⟩,0,d0⟩
def An6 (s:State) (rep time:Int) (e:Edit) (d:Dot):Act:=⟨⟨rep,at0 s.know rep+1⟩,time,s.know,e.kind,e.obj,e.key,e.val,d⟩
def A8o (s:State) (rep time:Int) (e:Edit):Act:=An6 s rep time e (Fr s e).1
abbrev awV (s:State) (rep time:Int) (e:Edit) (kv:GV) (d:Dot):List GV:=[gi rep,gi (at0 s.know rep+1),gi time,kv,gi e.kind,.str e.obj,.str e.key,gi e.val,gi d.rep,gi d.seq]
def E7 (s:State) (rep time:Int) (e:Edit):Act×Int:=
 if B6 s&&(Om e&&(inB rep 0 2&&inB time 1 10000)) then
  if Ik ⟨rep,at0 s.know rep+1⟩ then
   if(Fr s e).2 then
    if Dj (A8o s rep time e) then(A8o s rep time e,0) else(act0,3)
   else(act0,5)
  else(act0,3)
 else(act0,3)
abbrev edV (e:Edit):List GV:=[gi e.kind,.str e.obj,.str e.key,gi e.val,gi e.place]
abbrev zeV:List GV:=[gi 0,gi 0,gi 0,GV.nilS,gi 0,.str ⟨#[]⟩,.str ⟨#[]⟩,gi 0,gi 0,gi 0]
theorem own0 {N U:St} {rs:List Thg} (H:Hp N U rs):Hp N U [own kAct zeV act0]:=Hp.one (Hp.ownAct (x:=act0) (Hp.nilS H))
theorem Ask {s:State} (hok:B6 s=true) {rep:Int} (h:inB rep 0 2=true):∃ r:Nat,rep=(r:Int)/\∃ h:r<s.know.length,at0 s.know rep=s.know[r]/\0<=s.know[r]/\s.know[r]<=1000:=by
 have h2:=Di.1 h
 have hk:okK s.know=true:=by simp only[B6,Zag] at hok;exact hok.1
 have hl:=D8 hk
 obtain⟨r,rfl⟩:∃ r:Nat,rep=(r:Int):=⟨rep.toNat,by omega⟩
 have hr:r<s.know.length:=by omega
 refine⟨r,rfl,hr,?_,?_⟩
 ·simp[at0,hr]
 ·have:=(List.all_eq_true.1 (by simp only[okK,Zag] at hk;exact hk.1)) _ (Zbd hr)
  simpa [seqB,inB] using this
theorem O0 (N:St) (cs:List GV) (s:State) (hR:A4.R N s cs) (rep time:Int) (e:Edit) (hl:Ad s<=1099511627776) (ho:e.obj.size<=1099511627776) (hk:e.key.size<=1099511627776) (hp:e.place<=9223372036854775807) (hm:s.know.length+e.obj.size+e.key.size<=1099511627776):∃ ds U,Ret Tryz.prog 276 [.agg cs,gi rep,gi time,.agg (edV e)] N (.tup [.agg ds,gi (E7 s rep time e).2]) U/\Hp N U [own kAct ds (E7 s rep time e).1]:=by
 have hR0:=hR
 obtain⟨a1,b1,c1,v1,rfl,hkn,hb,hc,hv⟩:=hR
 obtain⟨l1,l2,l3,l4,_⟩:=C8 hl
 have key:∃ q U,Ret Tryz.prog 276 [.agg [a1,b1,c1,v1],gi rep,gi time,.agg (edV e)] N q U/\∃ ds,q= .tup [.agg ds,gi (E7 s rep time e).2]/\Hp N U [own kAct ds (E7 s rep time e).1]:=by
  refine Hu Akt (Z0z rfl) ?_
  have H:=(((Hp.refl N).new 1 [a1,b1,c1,v1]).new 1 (edV e)).new 1 zeV
  simp only[Aee]
  obtain⟨n3,hn3⟩:∃ n,n=(N++[some (Blk.row 1 [a1,b1,c1,v1])]++[some (Blk.row 1 (edV e))]).length:=⟨_,rfl⟩
  obtain⟨n2,hn2⟩:∃ n,n=(N++[some (Blk.row 1 [a1,b1,c1,v1])]).length:=⟨_,rfl⟩
  obtain⟨n1,hn1⟩:∃ n,n=N.length:=⟨_,rfl⟩
  rw[<- hn3,<-hn2,<-hn1] at H
  refine E1 (fun env U=>env 1=gi rep/\env 2=gi time/\env 4= .ptr n1 0/\env 7= .ptr n2 0/\env 8= .ptr n3 0/\Hp N U [pt 1 n3 zeV,pt 1 n2 (edV e),pt 1 n1 [a1,b1,c1,v1]]) (fun Yq hY=>by
   simp only[go_sem]
   refine hY _ _ ⟨?_,?_,?_,?_,?_,H⟩
   all_goals simp only[go_sem,hn1,hn2,hn3]) ?_
  clear H
  rintro env U ⟨e1,e2,e4,e7,e8,H⟩
  have bad:∀ c,E7 s rep time e=(act0,c)->∃ Ur,stG 10 U (.ptr n3 0) (.agg zeV)=some (.tup [],Ur)/\ldG true 10 Ur (.ptr n3 0)=some (.agg zeV)/\∃ ds,(GV.tup [.agg zeV,gi c])= .tup [.agg ds,gi (E7 s rep time e).2]/\Hp N Ur [own kAct ds (E7 s rep time e).1]:=fun c hc=>by
   obtain⟨Ur,sr,Hr,_⟩:=H.st 0 rfl 10 0 (.agg zeV) rfl (by decide) (by simp)
   have zr:rdB Ur n3=some zeV:=Hr.pt 0 rfl
   refine⟨Ur,sr,?_,zeV,by rw[hc],by rw[hc];exact own0 Hr⟩
   simp only[go_sem,A7 zr,A6 (cs:=zeV) rfl]
  refine E1 (fun env U'=>env 1=gi rep/\env 2=gi time/\env 4= .ptr n1 0/\env 7= .ptr n2 0/\env 8= .ptr n3 0/\U=U'/\(B6 s&&(Om e&&(inB rep 0 2&&inB time 1 10000)))=true) (fun Yq hY=>by
   simp only[go_sem,e1,e2,e4,e7,e8,A7 (H.pt 2 rfl),A6 (cs:=[a1,b1,c1,v1]) rfl]
   refine Ac (Cl _ _ s (A4.pre hR0 H.sub) hl) (fun h1=> ?_) (fun h1=> ?_)
   rotate_left
   ·obtain⟨Ur,q1,q2,q3⟩:=bad 3 (by simp[E7,h1])
    simp only[go_sem,e1,e2,e4,e7,e8,q1,q2]
    exact⟨_,rfl,q3⟩
   simp only[go_sem,e1,e2,e4,e7,e8,A7 (H.pt 1 rfl),A6 (cs:=edV e) rfl]
   refine Ac (Aed _ e ho hk) (fun h2=> ?_) (fun h2=> ?_)
   rotate_left
   ·obtain⟨Ur,q1,q2,q3⟩:=bad 3 (by simp[E7,h1,h2])
    simp only[go_sem,e1,e2,e4,e7,e8,q1,q2]
    exact⟨_,rfl,q3⟩
   simp only[go_sem,e1,e2,e4,e7,e8]
   refine Ac (Bd _ rep 0 2) (fun h3=> ?_) (fun h3=> ?_)
   rotate_left
   ·obtain⟨Ur,q1,q2,q3⟩:=bad 3 (by simp[E7,h1,h2,h3])
    simp only[go_sem,e1,e2,e4,e7,e8,q1,q2]
    exact⟨_,rfl,q3⟩
   simp only[go_sem,e1,e2,e4,e7,e8]
   refine Ac (Bd _ time 1 10000) (fun h4=> ?_) (fun h4=> ?_)
   rotate_left
   ·obtain⟨Ur,q1,q2,q3⟩:=bad 3 (by simp[E7,h1,h2,h3,h4])
    simp only[go_sem,e1,e2,e4,e7,e8,q1,q2]
    exact⟨_,rfl,q3⟩
   simp only[go_sem,e1,e2,e4,e7,e8]
   refine hY _ _ ⟨?_,?_,?_,?_,?_,rfl,by simp[h1,h2,h3,h4]⟩
   all_goals simp only[go_sem,e1,e2,e4,e7,e8]) ?_
  clear e1 e2 e4 e7 e8
  rintro env U' ⟨e1,e2,e4,e7,e8,rfl,hh⟩
  have hh0:=hh
  simp only[Zag] at hh
  obtain⟨r,hr,hrl,hat,hr0,hr1⟩:=Ask hh.1 hh.2.2.1
  have A1:=Cw (hkn.pre H.sub) hrl
  have n0:Bu (some (.int .i64 rep))=some r:=by rw[hr];exact A0
  refine E1 (fun env U=>∃ n10 kv,env 1=gi rep/\env 2=gi time/\env 4= .ptr n1 0/\env 7= .ptr n2 0/\env 8= .ptr n3 0/\env 10= .ptr n10 0/\Hp N U [pt 1 n10 (awV s rep time e kv d0),ow pI.kd kv s.know,pt 1 n3 zeV,pt 1 n2 (edV e),pt 1 n1 [a1,b1,c1,v1]]) (fun Yq hY=>by
   have z1:=Mo (H.pt 2 rfl) [some (Blk.row 1 [])]
   obtain⟨kv,Uk,ek,qk,Hk⟩:=H.cp_int (hkn.pre H.sub) l1
   have ck:=(Hk.sl 0 rfl).cell
   have Hn:=(Hk.new 1 (awV s rep time e kv d0))
   simp(disch:=omega) only[go_sem,e1,e2,e4,e7,e8,A7 (H.pt 2 rfl),A7 (H.pt 1 rfl),A7 z1,A7 (Hk.pt 2 rfl),n0,A1,ek,qk,ck,<-hat]
   refine hY _ _ ⟨Uk.length,kv,?_,?_,?_,?_,?_,?_,Hn⟩
   all_goals simp only[go_sem,e1,e2,e4,e7,e8]) ?_
  clear H e1 e2 e4 e7 e8 bad A1
  rintro env U ⟨n10,kv,e1,e2,e4,e7,e8,e10,H⟩
  refine E1 (fun env U'=>U=U'/\env 1=gi rep/\env 2=gi time/\env 4= .ptr n1 0/\env 7= .ptr n2 0/\env 8= .ptr n3 0/\env 10= .ptr n10 0/\env 11= .bool true) (fun Yq hY=>by
   simp only[go_sem,e1,e2,e4,e7,e8,e10]
   refine hY _ _ ⟨rfl,?_,?_,?_,?_,?_,?_,?_⟩
   all_goals simp only[go_sem,e1,e2,e4,e7,e8,e10]) ?_
  clear e1 e2 e4 e7 e8 e10
  rintro env U' ⟨rfl,e1,e2,e4,e7,e8,e10,e11⟩
  refine E1 (fun env U=>env 4= .ptr n1 0/\env 7= .ptr n2 0/\env 8= .ptr n3 0/\env 10= .ptr n10 0/\env 11= .bool (if e.kind=7 then Dn s e.obj e.place else(d0,true)).2/\Hp N U [pt 1 n10 (awV s rep time e kv (if e.kind=7 then Dn s e.obj e.place else(d0,true)).1),ow pI.kd kv s.know,pt 1 n3 zeV,pt 1 n2 (edV e),pt 1 n1 [a1,b1,c1,v1]]) (fun Yq hY=>by
   by_cases k7:e.kind=7
   ·have b7:(e.kind==7)=true:=by simp[k7]
    simp only[if_pos k7] at hY
    have PR:=Vo U _ s (A4.pre hR0 H.sub) e.obj e.place hl hp
    obtain⟨U2,st2,H2,_⟩:=H.st 0 rfl 2 8 (.agg [gi (Dn s e.obj e.place).1.rep,gi (Dn s e.obj e.place).1.seq]) rfl (by decide) (by simp)
    simp only[go_sem,e4,e7,e8,e10,b7,A7 (H.pt 3 rfl),A7 (H.pt 4 rfl),A6 (cs:=[a1,b1,c1,v1]) rfl]
    refine Ao PR ?_
    simp only[go_sem,e4,e7,e8,e10,st2]
    refine hY _ _ ⟨?_,?_,?_,?_,?_,H2⟩
    all_goals simp only[go_sem,e4,e7,e8,e10]
   ·have b7:(e.kind==7)=false:=by simp[k7]
    simp only[if_neg k7] at hY
    simp only[go_sem,e4,e7,e8,e10,e11,b7,A7 (H.pt 3 rfl)]
    refine hY _ _ ⟨?_,?_,?_,?_,?_,H⟩
    all_goals simp only[go_sem,e4,e7,e8,e10,e11]) ?_
  clear H e1 e2 e4 e7 e8 e10 e11
  rintro env U ⟨e4,e7,e8,e10,e11,H⟩
  refine E1 (fun env U=>env 4= .ptr n1 0/\env 7= .ptr n2 0/\env 8= .ptr n3 0/\env 10= .ptr n10 0/\env 11= .bool (Fr s e).2/\Hp N U [pt 1 n10 (awV s rep time e kv (Fr s e).1),ow pI.kd kv s.know,pt 1 n3 zeV,pt 1 n2 (edV e),pt 1 n1 [a1,b1,c1,v1]]) (fun Yq hY=>by
   by_cases k7:e.kind=7
   ·have b6:(e.kind==6)=false:=by simp[k7]
    have hq:Fr s e=Dn s e.obj e.place:=if_pos k7
    rw[if_pos k7] at H e11
    simp only[go_sem,e4,e7,e8,e10,e11,b6,A7 (H.pt 3 rfl)]
    refine hY _ _ ⟨?_,?_,?_,?_,?_,by rw[hq];exact H⟩
    all_goals simp only[go_sem,e4,e7,e8,e10,e11,hq]
   rw[if_neg k7] at H e11
   by_cases k6:e.kind=6
   ·have b6:(e.kind==6)=true:=by simp[k6]
    by_cases kp:0<e.place
    ·have bp:decide (0<e.place)=true:=decide_eq_true kp
     have hq:Fr s e=Dn s e.obj (e.place - 1):=by unfold Fr;rw[if_neg k7,if_pos ⟨k6,kp⟩]
     have PR:=Vo U _ s (A4.pre hR0 H.sub) e.obj (e.place - 1) hl (by omega)
     obtain⟨U2,st2,H2,_⟩:=H.st 0 rfl 2 8 (.agg [gi (Dn s e.obj (e.place - 1)).1.rep,gi (Dn s e.obj (e.place - 1)).1.seq]) rfl (by decide) (by simp)
     simp(disch:=omega) only[go_sem,e4,e7,e8,e10,b6,bp,A7 (H.pt 3 rfl),A7 (H.pt 4 rfl),A6 (cs:=[a1,b1,c1,v1]) rfl]
     refine Ao PR ?_
     simp only[go_sem,e4,e7,e8,e10,st2]
     refine hY _ _ ⟨?_,?_,?_,?_,?_,by rw[hq];exact H2⟩
     all_goals simp only[go_sem,e4,e7,e8,e10,hq]
    ·have bp:decide (0<e.place)=false:=decide_eq_false kp
     have hq:Fr s e=(d0,true):=by unfold Fr;rw[if_neg k7,if_neg (fun h=>kp h.2)]
     simp only[go_sem,e4,e7,e8,e10,e11,b6,bp,A7 (H.pt 3 rfl)]
     refine hY _ _ ⟨?_,?_,?_,?_,?_,by rw[hq];exact H⟩
     all_goals simp only[go_sem,e4,e7,e8,e10,e11,hq]
   ·have b6:(e.kind==6)=false:=by simp[k6]
    have hq:Fr s e=(d0,true):=by unfold Fr;rw[if_neg k7,if_neg (fun h=>k6 h.1)]
    simp only[go_sem,e4,e7,e8,e10,e11,b6,A7 (H.pt 3 rfl)]
    refine hY _ _ ⟨?_,?_,?_,?_,?_,by rw[hq];exact H⟩
    all_goals simp only[go_sem,e4,e7,e8,e10,e11,hq]) ?_
  clear H e4 e7 e8 e10 e11
  rintro env U ⟨e4,e7,e8,e10,e11,H⟩
  have bad:∀ c,E7 s rep time e=(act0,c)->∃ Ur,stG 10 U (.ptr n3 0) (.agg zeV)=some (.tup [],Ur)/\ldG true 10 Ur (.ptr n3 0)=some (.agg zeV)/\∃ ds,(GV.tup [.agg zeV,gi c])= .tup [.agg ds,gi (E7 s rep time e).2]/\Hp N Ur [own kAct ds (E7 s rep time e).1]:=fun c hc=>by
   obtain⟨Ur,sr,Hr,_⟩:=H.st 2 rfl 10 0 (.agg zeV) rfl (by decide) (by simp)
   have zr:rdB Ur n3=some zeV:=Hr.pt 2 rfl
   refine⟨Ur,sr,?_,zeV,by rw[hc],by rw[hc];exact own0 Hr⟩
   simp only[go_sem,A7 zr,A6 (cs:=zeV) rfl]
  simp only[go_sem,e4,e7,e8,e10,e11,A7 (H.pt 0 rfl)]
  refine Ac (Gq U ⟨rep,at0 s.know rep+1⟩) (fun h5=> ?_) (fun h5=> ?_)
  rotate_left
  ·obtain⟨Ur,q1,q2,q3⟩:=bad 3 (by unfold E7;rw[if_pos hh0,if_neg (by simp[h5])])
   simp only[go_sem,e4,e7,e8,e10,e11,q1,q2]
   exact⟨_,rfl,q3⟩
  cases h6:(Fr s e).2 with
  |false=>
   rw[h6] at e11
   obtain⟨Ur,q1,q2,q3⟩:=bad 5 (by unfold E7;rw[if_pos hh0,if_pos h5,if_neg (by simp[h6])])
   simp only[go_sem,e4,e7,e8,e10,e11,q1,q2]
   exact⟨_,rfl,q3⟩
  |true=>
   rw[h6] at e11
   simp only[go_sem,e4,e7,e8,e10,e11,A7 (H.pt 0 rfl),A6 (cs:=awV s rep time e kv (Fr s e).1) rfl]
   refine Ac (K0 U (awV s rep time e kv (Fr s e).1) (A8o s rep time e) ⟨kv,rfl,H.sl 1 rfl⟩ (by unfold Ck;exact hm)) (fun h7=> ?_) (fun h7=> ?_)
   rotate_left
   ·obtain⟨Ur,q1,q2,q3⟩:=bad 3 (by unfold E7;rw[if_pos hh0,if_pos h5,if_pos h6,if_neg (by simp[h7])])
    simp only[go_sem,e4,e7,e8,e10,e11,q1,q2]
    exact⟨_,rfl,q3⟩
   have hd:E7 s rep time e=(A8o s rep time e,0):=by unfold E7;rw[if_pos hh0,if_pos h5,if_pos h6,if_pos h7]
   obtain⟨Ur,sr,Hr,_⟩:=H.st 2 rfl 10 0 (.agg (awV s rep time e kv (Fr s e).1)) rfl (by decide) (by simp)
   have zr:rdB Ur n3=some (awV s rep time e kv (Fr s e).1):=Hr.pt 2 rfl
   simp only[go_sem,e4,e7,e8,e10,e11,A7 (H.pt 0 rfl),sr,A7 zr,A6 (cs:=awV s rep time e kv (Fr s e).1) rfl]
   exact⟨_,rfl,_,by rw[hd],by rw[hd];exact((Hr.pick 1 rfl).ownAct (x:=A8o s rep time e)).one⟩
 obtain⟨q,U,R,ds,rfl,h⟩:=key
 exact⟨ds,U,R,h⟩
inductive Item where
 |box (z n:Nat) (cs:List GV)
 |th (r:Thg)
def Item.t:Item->Thg
 | .box z n cs=>pt z n cs
 | .th r=>r
def Hx (N U:St) (h:List Item):Prop:=Hp N U (h.map Item.t)
def look:List Item->Nat->Option (List GV)
 |[],_=>none
 | .box _ m cs::h,n=>if m=n then some cs else look h n
 | .th _::h,n=>look h n
def upd:List Item->Nat->List GV->List Item
 |[],_,_=>[]
 | .box z m cs::h,n,ds=>if m=n then .box z m ds::h else .box z m cs::upd h n ds
 | .th r::h,n,ds=>.th r::upd h n ds
def frX (N:St):List Item->Nat->Prop
 |[],n=>N.length<=n
 | .box _ m _::h,n=>m<n/\frX N h n
 | .th _::h,n=>frX N h n
abbrev Kx:=GV->List Item->St->Prop
def J3 (v:Option GV) (k:Kx) (h:List Item) (U:St):Prop:=match v with
 |some v=>k v h U
 |none=>False
def orX (a b:Option GV):Option GV:=match a with
 |some x=>some x
 |none=>b
def A4j:List Item->Nat->Option (Nat×List GV)
 |[],_=>none
 | .box z m cs::h,n=>if m=n then some (z,cs) else A4j h n
 | .th _::h,n=>A4j h n
def blcX (h:List Item) (cs:List GV):GV->Prop
 | .ptr b 0=>A4j h b=some (1,cs)
 |_=>False
def ldB (c:Option (List GV)) (g:Bool) (n off:Nat) (e:Option GV):Option GV:=match c with
 |some cs=>(seg cs off n).bind (mkv g)
 |none=>e
def ldY (h:List Item) (U:St) (g:Bool) (n:Nat):GV->Option GV
 | .ptr b off=>ldB (look h b) g n off (ldG g n U (.ptr b off))
 |a=>ldG g n U a
def ldX (N:St) (h:List Item) (U:St) (g:Bool) (n:Nat) (a:GV):Option GV:=orX (ldG g n N a) (ldY h U g n a)
def Pp (N:St) (h:List Item) (z:Nat) (cs:List GV) (v:Nat->GV) (k:Kx):Prop:=∀ n,frX N h n->∀ U',Hx N U' (.box z n cs::h)->k (v n) (.box z n cs::h) U'
def genX (N:St) (D:Bool) (U:St) (e:Option (GV×St)) (k:Kx):Prop:=∃ v U' h',e=some (v,U')/\(D=true->U <+: U')/\Hx N U' h'/\k v h' U'
def stB (N:St) (D:Bool) (h:List Item) (U:St) (n:Nat) (k:Kx) (b off:Nat) (x:GV) (c:Option (List GV)):Prop:=match c with
 |some cs=>(D=false/\off+n<=cs.length/\0<n/\x.cells.length=n)/\∀ U',Hx N U' (upd h b (B5 cs off x.cells))->k (.tup []) (upd h b (B5 cs off x.cells)) U'
 |none=>genX N D U (stG n U (.ptr b off) x) k
def stX (N:St) (D:Bool) (h:List Item) (U:St) (n:Nat) (k:Kx) (a x:GV):Prop:=match a with
 | .ptr b off=>stB N D h U n k b off x (look h b)
 |a=>genX N D U (stG n U a x) k
def fnX (P:Program) (N:St) (D:Bool) (U:St) (args:List GV) (k:Kx):GV->Prop
 | .fn f caps=>∃ v U' h',Ret P f (args++caps.map fun c=>.ptr c.1 c.2) U v U'/\(D=true->U <+: U')/\Hx N U' h'/\k v h' U'
 |_=>False
def litX (N:St) (h:List Item) (z len:Nat) (k:Kx):Option (List GV)->Prop
 |some cs=>Pp N h z cs (fun n=>.sl n 0 len) k
 |none=>False
def A22 (P:Program) (N:St) (D:Bool) (U:St) (f:Nat) (args:List GV) (k:Kx):Prop:=∃ v U' h',Ret P f args U v U'/\(D=true->U <+: U')/\Hx N U' h'/\k v h' U'
def mksX (N:St) (h:List Item) (z b:Nat) (ze:List GV) (k:Kx):Option Nat->Option Nat->Prop
 |some n,some c=>n=c/\n*b<=140737488355328/\Pp N h z (reps n ze) (fun g=>.sl g 0 n) k
 |_,_=>False
def sxI (P:Program) (D:Bool) (N:St) (env:Env) (h:List Item) (U:St) (k:Kx):Ins->Prop
 | .new cs=>Pp N h 1 cs (fun n=>.ptr n 0) k
 | .box x=>Eq (x.ev env)=true/\Pp N h 1 (x.ev env).cells (fun n=>.ptr n 0) k
 | .lit z len zero parts=>litX N h z len k (Kq zero (parts.map fun p=>(p.1,p.2.1,p.2.2.ev env)))
 | .mks z b ze n c=>mksX N h z b ze k (Bu (some (n.ev env))) (Bu (some (c.ev env)))
 | .ld g n a=>J3 (ldX N h U g n (a.ev env)) k h U
 | .st n a x=>stX N D h U n k (a.ev env) (x.ev env)
 | .call f xs=>A22 P N D U f (xs.map (·.ev env)) k
 | .callv x xs=>fnX P N D U (xs.map (·.ev env)) k (x.ev env)
 | .chk d (.ld g n (.t t))=>ldX N h U g n (env t)=some (env d)/\k (.tup []) h U
 | .chk _ _=>False
 | .blc t cs=>blcX h cs (env t)/\k (.tup []) h U
 | .mlk ks z ok m k'=>J3 (mlkG U ks z ok (m.ev env) (k'.ev env)) k h U
 | .bts x=>J3 ((elems U 1 (x.ev env)).bind fun r=>(P1 r.2).map fun bs=>.str ⟨bs.toArray⟩) k h U
 | .cut z x lo hi=>J3 (if zOk U z (x.ev env) then cutG z (x.ev env) (lo.map (·.ev env)) (hi.map (·.ev env)) else none) k h U
 | .app z b ze s x=>genX N D U (appV z b U (s.ev env) (x.ev env)) k
 | .clr z ze x=>genX N D U (clrG z ze U (x.ev env)) k
 | .mkm=>genX N D U (some (.mp U.length,U++[some (.map [])])) k
 | .mup ks m k' v=>genX N D U (mupG U ks (m.ev env) (k'.ev env) (v.ev env)) k
 |i=>J3 ((exec env [] i).map (·.1)) k h U
def gdX (c:Option (Option Bool×Bool)) (A B:Prop):Prop:=match c with
 |none=>A
 |some (some c,b)=>(c=b->A)/\(c= !b->B)
 |some (none,_)=>B
def sx (P:Program) (D:Bool) (N:St):List Op1->(Env->List Item->St->Prop)->Env->List Item->St->Prop
 |[],K,env,h,U=>K env h U
 |o::r,K,env,h,U=>gdX (o.g.map fun g=>((env g.1).bit,g.2)) (sxI P D N env h U (fun v h' U'=>sx P D N r K (upo env o.d v) h' U') o.i) (sx P D N r K (upo env o.d (.tup [])) h U)
def ifX (c:Option Bool) (A B:Prop):Prop:=match c with
 |some c=>(c=true->A)/\(c=false->B)
 |none=>False
abbrev Qx:=Ex->Env->List Item->St->Prop
def sxc (P:Program) (N:St):Cd->Qx->Env->List Item->St->Prop
 | .skip,Q=>Q .nxt
 | .reg ops,Q=>sx P false N ops (Q .nxt)
 | .drw a1 bs,Q=>sx P true N a1 (sx P false N bs (Q .nxt))
 | .seq a b,Q=>sxc P N a fun e=>match e with
  | .nxt=>sxc P N b Q
  |e=>Q e
 | .cnd c a b,Q=>fun env h U=>ifX (c.ev env).bit (sxc P N a Q env h U) (sxc P N b Q env h U)
 | .blk id a,Q=>sxc P N a fun e=>match e with
  | .ext j=>if j=id then Q .nxt else Q (.ext j)
  |e=>Q e
 | .lop a,Q=>fun env h U=>∃(I:Nat->Env->List Item->St->Prop) (n:Nat) (h0:List Item),Hx N U h0/\I n env h0 U/\∀ k env h U,Hx N U h->I k env h U->sxc P N a (fun e env' h' U'=>match e with
  | .nxt=>∃ k' h1,k'<k/\Hx N U' h1/\I k' env' h1 U'
  |e=>∃ h1,Hx N U' h1/\Q e env' h1 U') env h U
 | .ext id,Q=>Q (.ext id)
 | .ret,Q=>Q .ret
section sound
variable {P:Program} {N:St} {D:Bool}
theorem Hx.hp {U:St} {h:List Item} (H:Hx N U h):Hp N U (h.map Item.t):=H
theorem Hx.sub {U:St} {h:List Item} (H:Hx N U h):N <+: U:=H.hp.sub
theorem Hx.refl (N:St):Hx N N []:=Hp.refl N
theorem Sv:∀ {h:List Item} {n:Nat} {cs:List GV},look h n=some cs->∃ z,∃ i:Nat,(h.map Item.t)[i]? =some (pt z n cs)/\∀ ds,(upd h n ds).map Item.t=(h.map Item.t).set i (pt z n ds)
 |[],_,_,e=>by cases e
 | .box z m cs'::h,n,cs,e=>by
  simp only[look] at e
  by_cases hm:m=n
  ·rw[if_pos hm] at e
   injection e with e;subst e hm
   exact⟨z,0,rfl,fun ds=>by simp[upd,Item.t]⟩
  ·rw[if_neg hm] at e
   obtain⟨z',i,h1,h2⟩:=Sv e
   exact⟨z',i+1,by simpa using h1,fun ds=>by simp[upd,hm,h2 ds]⟩
 | .th r::h,n,cs,e=>by
  obtain⟨z',i,h1,h2⟩:=Sv (h:=h) (by simpa [look] using e)
  exact⟨z',i+1,by simpa using h1,fun ds=>by simp[upd,h2 ds]⟩
theorem Aap:∀ {h:List Item} {n z:Nat} {cs:List GV},A4j h n=some (z,cs)->∃ i:Nat,(h.map Item.t)[i]? =some (pt z n cs)
 |[],_,_,_,e=>by cases e
 | .box z' m cs'::h,n,z,cs,e=>by
  simp only[A4j] at e
  by_cases hm:m=n
  ·rw[if_pos hm] at e
   simp only[Option.some.injEq,Prod.mk.injEq] at e
   obtain⟨rfl,rfl⟩:=e
   subst hm
   exact⟨0,rfl⟩
  ·rw[if_neg hm] at e
   obtain⟨i,h1⟩:=Aap e
   exact⟨i+1,by simpa using h1⟩
 | .th r::h,n,z,cs,e=>by
  obtain⟨i,h1⟩:=Aap (h:=h) (by simpa [A4j] using e)
  exact⟨i+1,by simpa using h1⟩
theorem An7 {U:St} {g:Bool} {n:Nat} {a x:GV} (h:ldG g n N a=some x) (hp:N <+: U):ldG g n U a=some x:=by
 cases a with
 |ptr b off=>
  simp only[ldG] at h ⊢
  obtain⟨cs,h1,h2⟩:=Z1z.1 h
  rw[Xv hp h1];exact h2
 |_=>cases h
theorem A4k {h:List Item} {U:St} (H:Hx N U h) {g:Bool} {n:Nat} {a x:GV} (e:ldX N h U g n a=some x):ldG g n U a=some x:=by
 unfold ldX orX ldY at e
 split at e
 ·rename_i y hy
  injection e with e;subst e
  exact An7 hy H.sub
 ·cases a with
  |ptr b off=>
   simp only at e
   cases hl:look h b with
   |none=>rw[hl] at e;exact e
   |some cs=>
    rw[hl] at e
    obtain⟨z,i,h1,_⟩:=Sv hl
    have:=H.hp.pt i h1
    simp only[ldG,this,Zaf]
    exact e
  |_=>exact e
theorem An8 {n:Nat}:∀ {h:List Item},N.length<=n->(∀ z m cs,Item.box z m cs∈h->m<n)->frX N h n
 |[],hl,_=>hl
 | .box z m cs::h,hl,hb=>⟨hb z m cs Zaj,An8 (h:=h) hl fun z m cs hm=>hb z m cs (Zac _ hm)⟩
 | .th r::h',hl,hb=>An8 (h:=h') hl fun z m cs hm=>hb z m cs (Zac _ hm)
theorem box_lt {h:List Item} {U:St} (H:Hx N U h) {z m:Nat} {cs:List GV} (hm:Item.box z m cs∈h):m<U.length:=by
 obtain⟨i,hi,e⟩:=Zas hm
 have h1:(h.map Item.t)[i]? =some (pt z m cs):=by
  rw[Zba,Zbh hi,e];rfl
 obtain⟨a,ha,_,hb⟩:=H.hp.see h1
 exact(hb m (by rw[ha.1];exact Zaj)).2
theorem O2 {h:List Item} {U:St} {z:Nat} {cs:List GV} {v:Nat->GV} {k:Kx} (H:Hx N U h) (e:Pp N h z cs v k):∃ h',Hx N (U++[some (.row z cs)]) h'/\k (v U.length) h' (U++[some (.row z cs)]):=
 ⟨.box z U.length cs::h,H.hp.new z cs,e U.length (An8 (h:=h) H.sub.length_le (fun _ _ _ hm=>box_lt H hm)) _ (H.hp.new z cs)⟩
theorem Pq {U:St} {e:Option (GV×St)} {k:Kx} (h:genX N D U e k):∃ v U',e=some (v,U')/\(D=true->U <+: U')/\∃ h',Hx N U' h'/\k v h' U':=by
 obtain⟨v,U',h',h1,h2,h3,h4⟩:=h
 exact⟨v,U',h1,h2,h',h3,h4⟩
theorem An9 {env:Env} {h:List Item} {U:St} {k:Kx} (H:Hx N U h):∀ {i:Ins},sxI P D N env h U k i->∃ v U',Step P env U i v U'/\(D=true->U <+: U')/\∃ h',Hx N U' h'/\k v h' U':=by
 intro i e
 have same:∀ {v:Option GV},J3 v k h U->(∀ v',v=some v'->Step P env U i v' U)->∃ v U',Step P env U i v U'/\(D=true->U <+: U')/\∃ h',Hx N U' h'/\k v h' U':=by
  intro v hb hs
  cases v with
  |none=>exact hb.elim
  |some v=>exact⟨v,U,hs v rfl,fun _=>Za2 _,h,H,hb⟩
 have pure:Ak2 i=true->J3 ((exec env [] i).map (·.1)) k h U->i.isCall=false->(∀ v',exec env U i=some (v',U)->Step P env U i v' U)->∃ v U',Step P env U i v U'/\(D=true->U <+: U')/\∃ h',Hx N U' h'/\k v h' U':=by
  intro hp hb _ hs
  refine same hb fun v' hv=>hs v' ?_
  obtain⟨⟨w,s⟩,hw,rfl⟩:=Z2z.1 hv
  exact(Aco hp hw).2 U
 cases i with
 |new cs=>
  obtain⟨h',h1,h2⟩:=O2 H e
  exact⟨_,_,rfl,fun _=>Zaz _ _,h',h1,h2⟩
 |box x=>
  obtain⟨h0,e⟩:=e
  obtain⟨h',h1,h2⟩:=O2 H e
  exact⟨_,_,by show boxG U _=_;unfold boxG;rw[if_pos h0],fun _=>Zaz _ _,h',h1,h2⟩
 |lit z len zero parts=>
  simp only[sxI] at e
  unfold litX at e
  split at e
  ·rename_i cs hc
   obtain⟨h',h1,h2⟩:=O2 H e
   exact⟨_,_,by show exec env U _=_;simp only[exec,hc];rfl,fun _=>Zaz _ _,h',h1,h2⟩
  ·exact e.elim
 |mks z b ze n c=>
  simp only[sxI] at e
  unfold mksX at e
  split at e
  ·rename_i n' c' hn hc
   obtain⟨h0,h3,e⟩:=e
   obtain⟨h',h1,h2⟩:=O2 H e
   exact⟨_,_,by show exec env U _=_;simp only[exec,hn,hc,Zaf,if_pos (And.intro h0 h3)],fun _=>Zaz _ _,h',h1,h2⟩
  ·exact e.elim
 |ld g n a=>
  refine same e fun v' hv=> ?_
  have:=A4k H hv
  show exec env U _=_
  simp only[exec]
  revert this
  cases a.ev env with
  |ptr b off=>
   intro h1
   simp only[ldG] at h1
   simp only[ptrG,Zaf]
   obtain⟨cs,h2,h3⟩:=Z1z.1 h1
   obtain⟨r,h4,h5⟩:=Z1z.1 h3
   simp only[h2,Zaf,h4,h5,Za7]
  |_=>intro h1;cases h1
 |st n a x=>
  simp only[sxI] at e
  have hst:∀ {y:GV} {U'},stG n U (a.ev env) (x.ev env)=some (y,U')->Step P env U (.st n a x) y U':=by
   intro y U' he
   show exec env U _=_
   simp only[exec]
   revert he
   cases a.ev env<;>intro he<;>first|cases he;done|exact he
  have gen:genX N D U (stG n U (a.ev env) (x.ev env)) k->∃ v U',Step P env U (.st n a x) v U'/\(D=true->U <+: U')/\∃ h',Hx N U' h'/\k v h' U':=fun hg=>by
   obtain⟨v,U',h1,h2⟩:=Pq hg
   exact⟨v,U',hst h1,h2⟩
  unfold stX at e
  split at e
  ·rename_i b off hb
   unfold stB at e
   split at e
   ·rename_i cs hl
    obtain⟨⟨h0,h1,h2,h3⟩,h4⟩:=e
    obtain⟨z,i,h5,h6⟩:=Sv hl
    obtain⟨U',s1,s2,_⟩:=H.hp.st i h5 n off (x.ev env) h3 h2 h1
    have s3:Hx N U' (upd h b (B5 cs off (x.ev env).cells)):=by unfold Hx;rw[h6];exact s2
    exact⟨_,U',hst (by rw[hb];exact s1),(fun hd=>by rw[hd] at h0;cases h0),_,s3,h4 _ s3⟩
   ·rw[<- hb] at e;exact gen e
  ·exact gen e
 |call f xs=>
  obtain⟨v,U',h',h1,h2,h3,h4⟩:=e
  exact⟨v,U',h1,h2,h',h3,h4⟩
 |callv x xs=>
  simp only[sxI] at e
  unfold fnX at e
  split at e
  ·rename_i f caps hf
   obtain⟨v,U',h',h1,h2,h3,h4⟩:=e
   exact⟨v,U',⟨f,caps,hf,h1⟩,h2,h',h3,h4⟩
  ·exact e.elim
 |chk d x=>
  cases x with
  |ld g n a=>cases a with
   |t t=>
    obtain⟨h1,h2⟩:=e
    refine⟨_,U,⟨rfl,rfl,?_⟩,fun _=>Za2 _,h,H,h2⟩
    have h3:=A4k H h1
    simp only[exec,Opd.ev]
    revert h3
    cases env t with
    |ptr b off=>
     intro h1
     simp only[ldG] at h1
     simp only[ptrG,Zaf]
     obtain⟨cs,h2,h3⟩:=Z1z.1 h1
     obtain⟨r,h4,h5⟩:=Z1z.1 h3
     simp only[h2,Zaf,h4,h5,Za7]
    |_=>intro h1;cases h1
   |k v=>exact e.elim
  |_=>exact e.elim
 |blc t cs=>
  obtain⟨h1,h2⟩:=e
  revert h1
  unfold blcX
  split
  ·rename_i b hb
   intro h1
   obtain⟨i,h3⟩:=Aap h1
   obtain⟨a,ha,_⟩:=H.hp.see h3
   exact⟨_,U,⟨rfl,rfl,b,hb,Co.1 ha.2⟩,fun _=>Za2 _,h,H,h2⟩
  ·exact fun h1=>h1.elim
 |mlk ks z ok m k'=>exact same e fun v' hv=>by show exec env U _=_;simp only[exec,hv,Za7]
 |bts x=>
  refine same e fun v' hv=> ?_
  show exec env U _=_
  simp only[exec]
  obtain⟨r,h1,h2⟩:=Z1z.1 hv
  obtain⟨bs,h3,rfl⟩:=Z2z.1 h2
  rw[h1,Zaf,h3];rfl
 |cut z x lo hi=>
  refine same e fun v' hv=> ?_
  show exec env U _=_
  simp only[exec]
  split at hv
  ·rename_i hz
   rw[if_pos hz,hv];rfl
  ·cases hv
 |app z b ze s x=>exact Pq e
 |clr z ze x=>exact Pq e
 |mkm=>exact Pq e
 |mup ks m k' v=>exact Pq e
 |mkf f caps=>
  refine same e fun v' hv=> ?_
  show exec env U _=_
  simp only[exec] at hv ⊢
  obtain⟨⟨w,s⟩,hw,rfl⟩:=Z2z.1 hv
  obtain⟨cs,h1,h2⟩:=Z2z.1 hw
  injection h2 with h2 h3;subst h2
  rw[h1];rfl
 |pan=>exact e.elim
 |_=>exact pure rfl e rfl fun _ h=>h
theorem Vp:∀ {os:List Op1} {K:Env->List Item->St->Prop} {env:Env} {h:List Item} {U:St},Hx N U h->sx P D N os K env h U->Al D P os (fun env' U'=>U.length<=U'.length/\∃ h',Hx N U' h'/\K env' h' U') env U
 |[],K,env,h,U,H,e=>⟨Za3 _,h,H,e⟩
 |o::r,K,env,h,U,H,e=>by
  have yes:sxI P D N env h U (fun v h' U'=>sx P D N r K (upo env o.d v) h' U') o.i->∃ v N',Step P env U o.i v N'/\(D=true->U <+: N')/\Al D P r (fun env' U'=>U.length<=U'.length/\∃ h',Hx N U' h'/\K env' h' U') (upo env o.d v) N':=fun e=>by
   obtain⟨v,U',h1,h2,h',h3,h4⟩:=An9 H e
   have hl:=A2i h1
   exact⟨v,U',h1,h2,Cv (Vp h3 h4) fun _ _ hk=>⟨Za1 hl hk.1,hk.2⟩⟩
  have no:sx P D N r K (upo env o.d (.tup [])) h U->Al D P r (fun env' U'=>U.length<=U'.length/\∃ h',Hx N U' h'/\K env' h' U') (upo env o.d (.tup [])) U:=fun e=>Vp H e
  simp only[Al]
  simp only[sx] at e
  cases hg:o.g with
  |none=>
   rw[hg] at e
   rw[if_pos (by simp[Aq])]
   exact yes e
  |some q=>
   obtain⟨g,b⟩:=q
   rw[hg] at e
   simp only[Za7] at e
   cases hc:(env g).bit with
   |none=>
    rw[hc] at e
    rw[if_neg (by simp[Aq,hc])]
    exact no e
   |some c=>
    rw[hc] at e
    by_cases hcb:c=b
    ·rw[if_pos (by simp[Aq,hc,hcb])]
     exact yes (e.1 hcb)
    ·rw[if_neg (by simp[Aq,hc,hcb])]
     exact no (e.2 (by cases c<;>cases b<;>simp_all))
theorem Aef {d:Cd}:∀ {Q:Qx} {env:Env} {h:List Item} {U:St},Hx N U h->sxc P N d Q env h U->vc P d (fun e env' U'=>U.length<=U'.length/\∃ h',Hx N U' h'/\Q e env' h' U') env U:=by
 induction d with
 |skip=>intro Q env h U H e;exact⟨Za3 _,h,H,e⟩
 |reg ops=>intro Q env h U H e;exact Vp H e
 |drw a1 bs=>
  intro Q env h U H e
  show Al true P a1 _ env U
  refine Cv (Vp H e) fun env' U' hk=> ?_
  obtain⟨hl,h',H',hk⟩:=hk
  exact Cv (Vp H' hk) fun _ _ hq=>⟨Za1 hl hq.1,hq.2⟩
 |seq a b iha ihb=>
  intro Q env h U H e
  show vc P a _ env U
  refine Bh (iha H e) fun e env' U' hk=> ?_
  obtain⟨hl,h',H',hk⟩:=hk
  cases e with
  |nxt=>exact Bh (ihb H' hk) fun _ _ _ hq=>⟨Za1 hl hq.1,hq.2⟩
  |ext j=>exact⟨hl,h',H',hk⟩
  |ret=>exact⟨hl,h',H',hk⟩
 |cnd c a b iha ihb=>
  intro Q env h U H e
  simp only[sxc] at e
  unfold ifX at e
  split at e
  ·rename_i t ht
   exact⟨t,ht,fun k=>iha H (e.1 k),fun k=>ihb H (e.2 k)⟩
  ·exact e.elim
 |blk id a ih=>
  intro Q env h U H e
  show vc P a _ env U
  refine Bh (ih H e) fun e env' U' hk=> ?_
  obtain⟨hl,h',H',hk⟩:=hk
  cases e with
  |nxt=>exact⟨hl,h',H',hk⟩
  |ext j=>
   simp only at hk ⊢
   split at hk
   ·rename_i hj;rw[if_pos hj];exact⟨hl,h',H',hk⟩
   ·rename_i hj;rw[if_neg hj];exact⟨hl,h',H',hk⟩
  |ret=>exact⟨hl,h',H',hk⟩
 |lop a ih=>
  intro Q env h U H e
  obtain⟨I,n,h0,H0,hI,hs⟩:=e
  refine A7q (fun k env' U'=>U.length<=U'.length/\∃ h,Hx N U' h/\I k env' h U') n ⟨Za3 _,h0,H0,hI⟩ ?_
  rintro k env1 U1 ⟨hl,h1,H1,hI1⟩
  refine Bh (ih H1 (hs k env1 h1 U1 H1 hI1)) fun e env' U' hk=> ?_
  obtain⟨hl2,h',H',hk⟩:=hk
  cases e with
  |nxt=>
   obtain⟨k',h3,h4,h5,h6⟩:=hk
   exact⟨k',h4,Za1 hl hl2,h3,h5,h6⟩
  |ext j=>exact⟨Za1 hl hl2,hk⟩
  |ret=>exact⟨Za1 hl hl2,hk⟩
 |ext id=>intro Q env h U H e;exact⟨Za3 _,h,H,e⟩
 |ret=>intro Q env h U H e;exact⟨Za3 _,h,H,e⟩
def rsX (N:St) (h:List Item) (U:St) (env:Env):Rs->Option GV
 | .t n=>some (env n)
 | .c a g n=>ldX N h U g n (env a)
def resX (N:St) (h:List Item) (U:St) (env:Env):List Rs->Option GV
 |[r]=>rsX N h U env r
 |rs=>(Bq (rsX N h U env) rs).bind fun vs=>if vs.all Eq then some (.tup vs) else none
theorem Aeg {h:List Item} {U:St} (H:Hx N U h) {env:Env} {r:Rs} {v:GV} (e:rsX N h U env r=some v):r.ev env U=some v:=by
 cases r with
 |t n=>exact e
 |c a g n=>rw[rs_c];exact A4k H e
theorem A8p {Y β:Type} {f g:Y->Option β} (h:∀ x y,f x=some y->g x=some y):∀ {l:List Y} {r:List β},Bq f l=some r->Bq g l=some r
 |[],r,e=>e
 |x::l,r,e=>by
  simp only[Bq,Z1z,Z2z] at e ⊢
  obtain⟨y,h1,ys,h2,rfl⟩:=e
  exact⟨y,h _ _ h1,ys,A8p h h2,rfl⟩
theorem A8q {h:List Item} {U:St} (H:Hx N U h) {env:Env} {rs:List Rs} {v:GV} (e:resX N h U env rs=some v):resG env U rs=some v:=by
 unfold resX at e
 unfold resG
 split at e
 ·exact Aeg H e
 ·rename_i hne
  split
  ·exact absurd rfl (hne _)
  ·obtain⟨vs,h1,h2⟩:=Z1z.1 e
   rw[A8p (fun x y=>Aeg H) h1];exact h2
theorem Bg {md:Bool} {f:Nat} {F:Fn1} {args:List GV} {N1:St} {h0:List Item} {Post:GV->St->Prop} (hF:F3 md P f=some F) (hl:args.length<=F.n) (H:Hx N N1 h0)
  (hc:sxc P N F.c (fun e env h U=>Hx N U h->A6u e=true/\∃ r,resX N h U env F.rs=some r/\Post r U) (env0 args) h0 N1):∃ r U,Ret P f args N1 r U/\Post r U:=
 F4 hF hl (Bh (Aef H hc) fun e env U he=>by
  obtain⟨hl,h,H,hq⟩:=he
  obtain⟨ho,r,hr,hp⟩:=hq H
  exact⟨ho,r,A8q H hr,hl,hp⟩)
end sound
def Ana (P:Program) (D:Bool) (N:St) (r:List Op1) (K:Env->List Item->St->Prop) (env:Env) (d:Option Nat):Kx:=fun v h' U'=>sx P D N r K (upo env d v) h' U'
def gdS (P:Program) (D:Bool) (N:St) (env:Env) (h:List Item) (U:St) (k:Kx) (i:Ins) (b:Bool) (c:Option Bool):Prop:=match c with
 |some c=>(c=b->sxI P D N env h U k i)/\(c= !b->k (.tup []) h U)
 |none=>k (.tup []) h U
def ifS (P:Program) (N:St) (a b:Cd) (Q:Qx) (env:Env) (h:List Item) (U:St) (c:Option Bool):Prop:=match c with
 |some c=>(c=true->sxc P N a Q env h U)/\(c=false->sxc P N b Q env h U)
 |none=>False
section words
variable {P:Program} {D:Bool} {N U:St} {env:Env} {h:List Item} {r:List Op1} {K:Env->List Item->St->Prop} {k:Kx} {d:Option Nat} {Q:Qx}
@[go_sem] theorem nextX_ap {v:GV}:Ana P D N r K env d v h U=sx P D N r K (upo env d v) h U:=(rfl)
@[go_sem] theorem sx_nil:sx P D N [] K env h U=K env h U:=(rfl)
@[go_sem] theorem sx_one {i:Ins}:sx P D N (⟨d,none,i⟩::r) K env h U=sxI P D N env h U (Ana P D N r K env d) i:=(rfl)
@[go_sem] theorem sx_grd {g:Nat} {b:Bool} {i:Ins}:sx P D N (⟨d,some (g,b),i⟩::r) K env h U=gdS P D N env h U (Ana P D N r K env d) i b (env g).bit:=by
 show gdX (some ((env g).bit,b)) _ _=_
 cases(env g).bit<;>rfl
@[go_sem] theorem gdS_tt {b:Bool} {i:Ins}:gdS P D N env h U k i b (some b)=sxI P D N env h U k i:=by cases b<;>simp[gdS]
@[go_sem] theorem gdS_tf {i:Ins}:gdS P D N env h U k i false (some true)=k (.tup []) h U:=by simp[gdS]
@[go_sem] theorem gdS_ft {i:Ins}:gdS P D N env h U k i true (some false)=k (.tup []) h U:=by simp[gdS]
@[go_sem] theorem gdS_n {b:Bool} {i:Ins}:gdS P D N env h U k i b none=k (.tup []) h U:=(rfl)
@[go_sem] theorem bindX_some {v:GV}:J3 (some v) k h U=k v h U:=(rfl)
@[go_sem] theorem ifS_t {a b:Cd}:ifS P N a b Q env h U (some true)=sxc P N a Q env h U:=by simp[ifS]
@[go_sem] theorem ifS_f {a b:Cd}:ifS P N a b Q env h U (some false)=sxc P N b Q env h U:=by simp[ifS]
theorem ifS_v {c:Bool} {a b:Cd}:ifS P N a b Q env h U (some c)=((c=true->sxc P N a Q env h U)/\(c=false->sxc P N b Q env h U)):=(rfl)
theorem Anb {v:Option GV}:(Option.map (·.1) (v.map fun v=>(v,([]:St))))=v:=by cases v<;>rfl
@[go_sem] theorem xi_mov {x:Opd}:sxI P D N env h U k (.mov x)=k (x.ev env) h U:=(rfl)
@[go_sem] theorem xi_pick {c a b:Opd}:sxI P D N env h U k (.pick c a b)=J3 ((c.ev env).bit.map fun t=>if t then a.ev env else b.ev env) k h U:=by
 simp only[sxI,exec]
 cases(c.ev env).bit<;>rfl
@[go_sem] theorem xi_new {cs:List GV}:sxI P D N env h U k (.new cs)=Pp N h 1 cs (fun n=>.ptr n 0) k:=(rfl)
@[go_sem] theorem xi_box {x:Opd}:sxI P D N env h U k (.box x)=(Eq (x.ev env)=true/\Pp N h 1 (x.ev env).cells (fun n=>.ptr n 0) k):=(rfl)
@[go_sem] theorem xi_build {z:List GV} {ps:List (Nat×Nat×Opd)}:sxI P D N env h U k (.build z ps)=J3 ((Kq z (ps.map fun p=>(p.1,p.2.1,p.2.2.ev env))).map .agg) k h U:=by
 simp only[sxI,exec]
 cases Kq z (ps.map fun p=>(p.1,p.2.1,p.2.2.ev env))<;>rfl
@[go_sem] theorem xi_lit {z l:Nat} {ze:List GV} {ps:List (Nat×Nat×Opd)}:sxI P D N env h U k (.lit z l ze ps)=litX N h z l k (Kq ze (ps.map fun p=>(p.1,p.2.1,p.2.2.ev env))):=(rfl)
@[go_sem] theorem litX_some {z l:Nat} {cs:List GV}:litX N h z l k (some cs)=Pp N h z cs (fun n=>.sl n 0 l) k:=(rfl)
@[go_sem] theorem xi_ld {g:Bool} {n:Nat} {a:Opd}:sxI P D N env h U k (.ld g n a)=J3 (ldX N h U g n (a.ev env)) k h U:=(rfl)
@[go_sem] theorem xi_st {n:Nat} {a x:Opd}:sxI P D N env h U k (.st n a x)=stX N D h U n k (a.ev env) (x.ev env):=(rfl)
@[go_sem] theorem stX_ptr {n b off:Nat} {x:GV}:stX N D h U n k (.ptr b off) x=stB N D h U n k b off x (look h b):=(rfl)
@[go_sem] theorem stB_some {n b off:Nat} {x:GV} {cs:List GV}:stB N D h U n k b off x (some cs)=((D=false/\off+n<=cs.length/\0<n/\x.cells.length=n)/\∀ U',Hx N U' (upd h b (B5 cs off x.cells))->k (.tup []) (upd h b (B5 cs off x.cells)) U'):=(rfl)
@[go_sem] theorem xi_nck {x:Opd}:sxI P D N env h U k (.nck x)=J3 (nckG (x.ev env)) k h U:=by simp only[sxI,exec,Anb]
@[go_sem] theorem xi_bin {op:BinOp} {x y:Opd}:sxI P D N env h U k (.bin op x y)=J3 (binG op (x.ev env) (y.ev env)) k h U:=by simp only[sxI,exec,Anb]
@[go_sem] theorem xi_eqb {n:Bool} {x y:Opd}:sxI P D N env h U k (.eqb n x y)=J3 (eqbG n (x.ev env) (y.ev env)) k h U:=by
 simp only[sxI,exec,eqbG]
 cases(x.ev env).bit with
 |none=>rfl
 |some a=>cases(y.ev env).bit<;>rfl
@[go_sem] theorem xi_eqs {n:Bool} {ks:List Sc} {x y:Opd}:sxI P D N env h U k (.eqs n ks x y)=J3 (eqsG n ks (x.ev env) (y.ev env)) k h U:=by
 simp only[sxI,exec]
 cases x.ev env<;>first|rfl|skip
 cases y.ev env<;>first|rfl|skip
 simp only[eqsG]
 cases Ez ks _ _<;>rfl
@[go_sem] theorem xi_un {op:UnOp} {x:Opd}:sxI P D N env h U k (.un op x)=J3 (unG op (x.ev env)) k h U:=by simp only[sxI,exec,Anb]
@[go_sem] theorem xi_cvi {kd:IntKind} {x:Opd}:sxI P D N env h U k (.cvi kd x)=J3 (cviG kd (x.ev env)) k h U:=by
 simp only[sxI,exec]
 cases x.ev env<;>rfl
@[go_sem] theorem xi_mkf {f:Nat} {cs:List Opd}:sxI P D N env h U k (.mkf f cs)=J3 ((cs.mapM fun c=>Acf (c.ev env)).map fun cs=>.fn f cs) k h U:=by
 simp only[sxI,exec]
 cases cs.mapM fun c=>Acf (c.ev env)<;>rfl
@[go_sem] theorem xi_cut {z:Nat} {x:Opd} {lo hi:Option Opd}:sxI P D N env h U k (.cut z x lo hi)=J3 (if zOk U z (x.ev env) then cutG z (x.ev env) (lo.map (·.ev env)) (hi.map (·.ev env)) else none) k h U:=(rfl)
@[go_sem] theorem xi_fad {n:Nat} {a:Opd}:sxI P D N env h U k (.fad n a)=J3 (fadG n (a.ev env)) k h U:=by
 simp only[sxI,exec]
 cases a.ev env<;>rfl
@[go_sem] theorem xi_iad {z:Nat} {x i:Opd}:sxI P D N env h U k (.iad z x i)=J3 (iadG z (x.ev env) (Bu (some (i.ev env)))) k h U:=by
 simp only[sxI,exec]
 cases x.ev env with
 |sl g off len=>
  simp only
  cases Bu (some (i.ev env)) with
  |none=>rfl
  |some n=>
   simp only[Zaf,iadG]
   split<;>rfl
 |_=>rfl
@[go_sem] theorem xi_ext {i:Nat} {x:Opd}:sxI P D N env h U k (.ext i x)=J3 (extG i (x.ev env)) k h U:=by
 simp only[sxI,exec]
 cases x.ev env with
 |tup vs=>
  simp only[extG]
  cases vs[i]? with
  |none=>rfl
  |some v=>cases v<;>rfl
 |_=>rfl
@[go_sem] theorem xi_len {s:Bool} {x:Opd}:sxI P D N env h U k (.len s x)=J3 ((lenG s (x.ev env)).map fun n=>.int .i64 n) k h U:=by
 simp only[sxI,exec]
 cases lenG s (x.ev env)<;>rfl
@[go_sem] theorem xi_app {z b:Nat} {ze:List GV} {s x:Opd}:sxI P D N env h U k (.app z b ze s x)=genX N D U (appV z b U (s.ev env) (x.ev env)) k:=(rfl)
@[go_sem] theorem xi_mkm:sxI P D N env h U k .mkm=genX N D U (some (.mp U.length,U++[some (.map [])])) k:=(rfl)
@[go_sem] theorem xi_mlk {ks:List Sc} {z:GV} {ok:Bool} {m k':Opd}:sxI P D N env h U k (.mlk ks z ok m k')=J3 (mlkG U ks z ok (m.ev env) (k'.ev env)) k h U:=(rfl)
@[go_sem] theorem xi_mup {ks:List Sc} {m k' v:Opd}:sxI P D N env h U k (.mup ks m k' v)=genX N D U (mupG U ks (m.ev env) (k'.ev env) (v.ev env)) k:=(rfl)
@[go_sem] theorem xi_call {f:Nat} {xs:List Opd}:sxI P D N env h U k (.call f xs)=A22 P N D U f (xs.map (·.ev env)) k:=(rfl)
@[go_sem] theorem xi_callv {x:Opd} {xs:List Opd}:sxI P D N env h U k (.callv x xs)=fnX P N D U (xs.map (·.ev env)) k (x.ev env):=(rfl)
@[go_sem] theorem fnX_fn {f:Nat} {caps:List (Nat×Nat)} {args:List GV}:fnX P N D U args k (.fn f caps)=A22 P N D U f (args++caps.map fun c=>.ptr c.1 c.2) k:=(rfl)
@[go_sem] theorem xi_chk {d' n t:Nat} {g:Bool}:sxI P D N env h U k (.chk d' (.ld g n (.t t)))=(ldX N h U g n (env t)=some (env d')/\k (.tup []) h U):=(rfl)
@[go_sem] theorem xi_blc {t:Nat} {cs:List GV}:sxI P D N env h U k (.blc t cs)=(blcX h cs (env t)/\k (.tup []) h U):=(rfl)
@[go_sem] theorem blcX_ptr {b:Nat} {cs:List GV}:blcX h cs (.ptr b 0)=(A4j h b=some (1,cs)):=(rfl)
@[go_sem] theorem lookZ_eq {z n:Nat} {cs:List GV}:A4j (.box z n cs::h) n=some (z,cs):=by simp[A4j]
@[go_sem] theorem lookZ_th {n:Nat} {q:Thg}:A4j (.th q::h) n=A4j h n:=(rfl)
@[go_sem] theorem allocX_def {z:Nat} {cs:List GV} {v:Nat->GV}:Pp N h z cs v k=∀ n,frX N h n->∀ U',Hx N U' (.box z n cs::h)->k (v n) (.box z n cs::h) U':=(rfl)
@[go_sem] theorem frX_nil {n:Nat}:frX N [] n=(N.length<=n):=(rfl)
@[go_sem] theorem Aaq {z m n:Nat} {cs:List GV}:frX N (.box z m cs::h) n=(m<n/\frX N h n):=(rfl)
@[go_sem] theorem Ajf {n:Nat} {q:Thg}:frX N (.th q::h) n=frX N h n:=(rfl)
@[go_sem] theorem Be {z n:Nat} {cs:List GV}:look (.box z n cs::h) n=some cs:=by simp[look]
@[go_sem low] theorem look_ne {z m n:Nat} {cs:List GV} (hn:m≠n):look (.box z m cs::h) n=look h n:=by simp[look,hn]
@[go_sem] theorem look_th {n:Nat} {q:Thg}:look (.th q::h) n=look h n:=(rfl)
@[go_sem] theorem upd_eq {z n:Nat} {cs ds:List GV}:upd (.box z n cs::h) n ds= .box z n ds::h:=by simp[upd]
@[go_sem low] theorem upd_ne {z m n:Nat} {cs ds:List GV} (hn:m≠n):upd (.box z m cs::h) n ds= .box z m cs::upd h n ds:=by simp[upd,hn]
@[go_sem] theorem upd_th {n:Nat} {q:Thg} {ds:List GV}:upd (.th q::h) n ds= .th q::upd h n ds:=(rfl)
@[go_sem] theorem ldX_ptr {g:Bool} {n b off:Nat} (hb:N.length<=b):ldX N h U g n (.ptr b off)=ldB (look h b) g n off (ldG g n U (.ptr b off)):=by
 have:ldG g n N (.ptr b off)=none:=by
  simp only[ldG,rdB]
  rw[List.getElem?_eq_none hb];rfl
 simp only[ldX,this,orX,ldY]
@[go_sem] theorem ldX_at {g:Bool} {n z i:Nat} {v:GV}:ldX N h U g n (atz z v i)=orX (ldG g n N (atz z v i)) (ldY h U g n (atz z v i)):=(rfl)
@[go_sem] theorem ldX_fld {g:Bool} {n z i m:Nat} {v:GV}:ldX N h U g n (fld m (atz z v i))=orX (ldG g n N (fld m (atz z v i))) (ldY h U g n (fld m (atz z v i))):=(rfl)
@[go_sem] theorem orX_some {x:GV} {b:Option GV}:orX (some x) b=some x:=(rfl)
@[go_sem] theorem ldB_some {cs:List GV} {g:Bool} {n off:Nat} {e:Option GV}:ldB (some cs) g n off e=(seg cs off n).bind (mkv g):=(rfl)
@[go_sem] theorem xc_skip:sxc P N .skip Q env h U=Q .nxt env h U:=(rfl)
@[go_sem] theorem xc_reg {os:List Op1}:sxc P N (.reg os) Q env h U=sx P false N os (Q .nxt) env h U:=(rfl)
@[go_sem] theorem xc_drw {a1 bs:List Op1}:sxc P N (.drw a1 bs) Q env h U=sx P true N a1 (sx P false N bs (Q .nxt)) env h U:=(rfl)
@[go_sem] theorem xc_seq {a b:Cd}:sxc P N (.seq a b) Q env h U=sxc P N a (fun e=>match e with
  | .nxt=>sxc P N b Q
  |e=>Q e) env h U:=(rfl)
@[go_sem] theorem xc_cnd {c:Opd} {a b:Cd}:sxc P N (.cnd c a b) Q env h U=ifS P N a b Q env h U (c.ev env).bit:=by
 show ifX _ _ _=_
 cases(c.ev env).bit<;>rfl
@[go_sem] theorem xc_blk {id:Nat} {a:Cd}:sxc P N (.blk id a) Q env h U=sxc P N a (fun e=>match e with
  | .ext j=>if j=id then Q .nxt else Q (.ext j)
  |e=>Q e) env h U:=(rfl)
@[go_sem] theorem xc_ext {id:Nat}:sxc P N (.ext id) Q env h U=Q (.ext id) env h U:=(rfl)
@[go_sem] theorem xc_ret:sxc P N .ret Q env h U=Q .ret env h U:=(rfl)
@[go_sem] theorem rsX_t {n:Nat}:rsX N h U env (.t n)=some (env n):=(rfl)
@[go_sem] theorem rsX_c {a n:Nat} {g:Bool}:rsX N h U env (.c a g n)=ldX N h U g n (env a):=(rfl)
@[go_sem] theorem resX_1 {x:Rs}:resX N h U env [x]=rsX N h U env x:=(rfl)
@[go_sem] theorem resX_0:resX N h U env []=some (.tup []):=(rfl)
@[go_sem] theorem resX_2 {x y:Rs}:resX N h U env [x,y]=tup2 (rsX N h U env x) (rsX N h U env y):=by
 simp only[resX,Bq,tup2]
 cases rsX N h U env x with
 |none=>rfl
 |some u=>cases rsX N h U env y<;>simp
@[go_sem] theorem resX_3 {x y z:Rs}:resX N h U env [x,y,z]=tup3 (rsX N h U env x) (rsX N h U env y) (rsX N h U env z):=by
 simp only[resX,Bq,tup3]
 cases rsX N h U env x with
 |none=>rfl
 |some u=>cases rsX N h U env y with
  |none=>rfl
  |some v=>cases rsX N h U env z<;>simp
end words
theorem Aar {U:St}:∀ {rs:List Thg} {fp:List Nat},sat U rs fp->fp.Nodup->∃ F:Nat->List Nat,(∀ (i:Nat) (r:Thg),rs[i]? =some r->r.P U (F i))/\(∀ i,(F i).Nodup)/\(∀ i j,i≠j->∀ g∈F i,g∉F j)/\∀ i,∀ g∈F i,g∈fp
 |[],fp,h,hn=>⟨fun _=>[],by simp,by simp,by simp,by simp⟩
 |r::rs,_,⟨a,b,hr,hs,rfl⟩,hn=>by
  rw[Zaq] at hn
  obtain⟨F,h1,h2,h3,h4⟩:=Aar hs hn.2.1
  refine⟨fun i=>match i with|0=>a|i+1=>F i,?_,?_,?_,?_⟩
  ·intro i s hi
   cases i with
   |zero=>simp at hi;subst hi;exact hr
   |succ i=>exact h1 i s (by simpa using hi)
  ·intro i;cases i with
   |zero=>exact hn.1
   |succ i=>exact h2 i
  ·intro i j hij g hg
   cases i with
   |zero=>cases j with
    |zero=>exact absurd rfl hij
    |succ j=>exact fun h=>hn.2.2 g hg g (h4 j g h) rfl
   |succ i=>cases j with
    |zero=>exact fun h=>hn.2.2 g h g (h4 i g hg) rfl
    |succ j=>exact h3 i j (by omega) g hg
  ·intro i g hg
   cases i with
   |zero=>exact Zam _ hg
   |succ i=>exact Zak _ (h4 i g hg)
theorem Anc {U:St} {rs:List Thg} {F:Nat->List Nat} (h1:∀(i:Nat) (r:Thg),rs[i]? =some r->r.P U (F i)) (h2:∀ i,(F i).Nodup) (h3:∀ i j,i≠j->∀ g∈F i,g∉F j):∀ {is:List Nat},is.Nodup->∃ fp,sat U (is.filterMap (rs[·]?)) fp/\fp.Nodup/\∀ g∈fp,∃ i∈is,g∈F i
 |[],_=>⟨[],rfl,by simp,by simp⟩
 |i::is,hn=>by
  rw[Zat] at hn
  obtain⟨fp,k1,k2,k3⟩:=Anc h1 h2 h3 hn.2
  cases hi:rs[i]? with
  |none=>exact⟨fp,by rw[Za4,hi];exact k1,k2,fun g hg=>by obtain⟨j,hj,h⟩:=k3 g hg;exact⟨j,Zac _ hj,h⟩⟩
  |some r=>
   refine⟨F i++fp,by rw[Za4,hi];exact⟨F i,fp,h1 i r hi,k1,rfl⟩,Zaq.2 ⟨h2 i,k2,fun x hx y hy e=> ?_⟩,fun g hg=> ?_⟩
   ·subst e
    obtain⟨j,hj,h⟩:=k3 x hy
    exact h3 i j (fun e=>hn.1 (by rw[e];exact hj)) x hx h
   ·rcases Zbs.1 hg with hg|hg
    ·exact⟨i,Zaj,hg⟩
    ·obtain⟨j,hj,h⟩:=k3 g hg;exact⟨j,Zac _ hj,h⟩
theorem Hp.sel {N U:St} {rs:List Thg} (H:Hp N U rs) (is:List Nat) (hn:is.Nodup):Hp N U (is.filterMap (rs[·]?)):=by
 obtain⟨h,fp,hs,hnd,hb⟩:=H
 obtain⟨F,h1,h2,h3,h4⟩:=Aar hs hnd
 obtain⟨fp',k1,k2,k3⟩:=Anc h1 h2 h3 hn
 exact⟨h,fp',k1,k2,fun g hg=>by obtain⟨i,_,hi⟩:=k3 g hg;exact hb g (h4 i g hi)⟩
theorem Hx.sel {N U:St} {h:List Item} (H:Hx N U h) (is:List Nat) (hn:is.Nodup):Hp N U (is.filterMap ((h.map Item.t)[·]?)):=Hp.sel H is hn
theorem Hx.re {N U:St} {h:List Item} (H:Hx N U h) (is:List Nat) (hn:is.Nodup):Hx N U (is.filterMap (h[·]?)):=by
 have e:(is.filterMap (h[·]?)).map Item.t=is.filterMap ((h.map Item.t)[·]?):=by
  induction is with
  |nil=>rfl
  |cons i is ih=>
   have ih:=ih (Zat.1 hn).2
   rw[Za4,Za4,Zba]
   cases h[i]? with
   |none=>exact ih
   |some x=>simp only[Za7,Zbf,ih]
 unfold Hx
 rw[e]
 exact H.sel is hn
section os
variable {Y:Type} {d:Kd Y} {N U:St} {l:List Y} {v:GV} {fp:List Nat}
theorem OS.appc {by8:Nat} {x:Y} {cs:List GV} {fx:List Nat} (h:OS d U l v fp) (hx:d.O U x cs fx) (hn:(fp++fx).Nodup) (hlt:∀ g∈fp++fx,g<U.length) (hz:0<d.z) (hb:(l.length+1)*by8<=140737488355328):
  ∃ v' U' fp',appG d.z by8 U v 1 cs=some (v',U')/\OS d U' (l++[x]) v' fp'/\Turn U U' (fp++fx) fp':=by
 have hcl:=d.len (d.rd hx)
 rcases h with⟨rfl,rfl,rfl⟩|⟨g,pre,css,post,fps,rfl,hB,hA,rfl⟩
 ·have hb':1*by8<=140737488355328:=by simpa using hb
  refine⟨.sl U.length 0 1,U++[some (.row d.z cs)],U.length::fx,?_,?_,?_⟩
  ·simp only[appG]
   rw[if_neg (by omega),if_pos hb']
  ·refine .inr ⟨U.length,[],[cs],[],[fx],rfl,?_,.cons (d.loc hx fun g hg=> ?_) .nil,by simp⟩
   ·rw[Iv];simp
   ·rw[E3 (hlt g (by simpa using hg))]
  ·refine⟨?_,?_,by simp,fun g hg _=>by rw[E3 hg]⟩
   ·rw[Zat]
    exact⟨fun h=>by have:=hlt U.length (by simpa using h);omega,by simpa using hn⟩
   ·intro g hg
    rcases Zau.1 hg with rfl|hg
    ·right;simp
    ·left;simpa using hg
 ·rw[Zaa,Zat] at hn
  have hgt:g<U.length:=hlt g (by simp)
  have hfl:=Tq hA
  have e:((pre++css.flatten++post).drop pre.length).take (l.length*d.z)=css.flatten:=by
   rw[Zbb,List.drop_append,Za9 (Za3 _),Zab,Nat.sub_self,Zby,Zaw (by omega),Zay (by omega)]
  have c1:pre.length+l.length*d.z<=(pre++css.flatten++post).length:=by simp only[Zah];omega
  obtain⟨N1,e1,hs⟩:=Agp (bytes:=by8) (n:=1) (new:=cs) (Co.1 hB) (by omega) c1 hb
  have hsl:N1.length=U.length:=by rcases hs with rfl|rfl<;>simp
  have hbk:∀ g',g≠g'->bk N1 g'=bk U g':=fun g' hne=>by
   rcases hs with rfl|rfl
   ·rfl
   ·exact Iw hne
  rw[e] at e1
  refine⟨.sl U.length 0 (l.length+1),N1++[some (.row d.z (css.flatten++cs))],U.length::(fps.flatten++fx),e1,?_,?_⟩
  ·have keep:∀ g'∈fps.flatten++fx,bk (N1++[some (.row d.z (css.flatten++cs))]) g'=bk U g':=fun g' hg'=>by
    have h1:g'<U.length:=hlt g' (by simp only[Zaa];exact Zac _ hg')
    have h2:g≠g':=fun e=>hn.1 (by rw[e];exact hg')
    rw[E3 (by rw[hsl];omega),hbk g' h2]
   refine .inr ⟨U.length,[],css++[cs],[],fps++[fx],by simp,?_,(hA.imp fun a b c hc ho=>d.loc ho fun g' hg'=>keep g' (Zam _ (Zal.2 ⟨c,hc,hg'⟩))).append (.cons (d.loc hx fun g' hg'=>keep g' (Zak _ hg')) .nil),by simp⟩
   rw[<- hsl,Iv];simp
  ·refine⟨?_,?_,by simp[hsl],fun g' hg' hne=> ?_⟩
   ·rw[Zat]
    exact⟨fun h=>by have:=hlt U.length (by simp only[Zaa];exact Zac _ h);omega,hn.2⟩
   ·intro g' hg'
    rcases Zau.1 hg' with rfl|hg'
    ·right;simp[hsl]
    ·left;simp only[Zaa];exact Zac _ hg'
   ·have h2:g≠g':=fun e=>hne (by rw[e];simp)
    rw[E3 (by rw[hsl];exact hg'),hbk g' h2]
end os
theorem Hp.appc {Y:Type} {d:Kd Y} {N U:St} {rs:List Thg} {v:GV} {l:List Y} {by8:Nat} {x:Y} {cs:List GV} (H:Hp N U (own d cs x::rs)) (i:Nat) (hi:rs[i]? =some (ow d v l)) (hz:0<d.z) (hb:(l.length+1)*by8<=140737488355328):
  ∃ v' U',appG d.z by8 U v 1 cs=some (v',U')/\Hp N U' (rs.set i (ow d v' (l++[x]))):=by
 have hp:(own d cs x::rs).Perm (ow d v l::own d cs x::rs.eraseIdx i):=((pick_perm hi).cons _).trans (List.Perm.swap _ _ _)
 obtain⟨a,⟨a1,a2,h1,h2,rfl⟩,hn,hbd,ht⟩:=(H.perm hp).join.turn
 obtain⟨v',U',fp',e,ho,hT⟩:=OS.appc (by8:=by8) (x:=x) (cs:=cs) (fx:=a2) h1 h2 hn (fun g hg=>(hbd g hg).2) hz hb
 exact⟨v',U',e,unpick (ht hT ho) (Zav.1 hi).1⟩
theorem RS_one {Y:Type} {p:Pl Y} {U:St} {n:Nat} {x:Y} (h:rdB U n=some (p.enc x)):RS p.kd U (.sl n 0 1) [x]:=by
 refine .inr ⟨n,0,p.enc x,rfl,h,?_,fun i y hy=> ?_⟩
 ·show 0+1*p.z<=_;rw[p.len];omega
 ·have hi:i<1:=by simpa using (Zav.1 hy).1
  have hi:i=0:=by omega
  subst hi
  simp at hy;subst hy
  show List.take p.z (List.drop (0+0*p.z) (p.enc x))=p.enc x
  simp only[Nat.zero_mul,Zb1,Zby]
  exact Zay (by rw[p.len];exact Za3 _)
section rules
variable {P:Program} {D:Bool} {N U U':St} {env:Env} {h:List Item} {k:Kx} {f:Nat} {args:List GV} {v:GV} {Y:Type}
theorem Aqr {rs:List Thg} {h:List Item}:(rs.map Item.th++h).map Item.t=rs++h.map Item.t:=by
 rw[List.map_append,List.map_map]
 congr 1
 exact List.map_id _
theorem by_cs {rs:List Thg} (H:Hx N U h) (R:Ret P f args U v U') (K:Hp U U' rs) (kk:Hx N U' (rs.map Item.th++h)->k v (rs.map Item.th++h) U'):A22 P N D U f args k:=by
 have H':Hx N U' (rs.map Item.th++h):=by unfold Hx;rw[Aqr];exact H.hp.add K
 exact⟨v,U',_,R,fun _=>K.sub,H',kk H'⟩
theorem by_c {r:Thg} (H:Hx N U h) (R:Ret P f args U v U') (K:Hp U U' [r]) (kk:Hx N U' (.th r::h)->k v (.th r::h) U'):A22 P N D U f args k:=by_cs H R K kk
theorem by_r (H:Hx N U h) (R:Ret P f args U v U) (kk:k v h U):A22 P N D U f args k:=⟨v,U,h,R,fun _=>Za2 _,H,kk⟩
theorem by_b {b:Bool} (H:Hx N U h) (R:Ret P f args U (.bool b) U) (h1:b=true->k (.bool true) h U) (h2:b=false->k (.bool false) h U):A22 P N D U f args k:=by
 refine by_r H R ?_
 cases b with
 |true=>exact h1 rfl
 |false=>exact h2 rfl
theorem by_m {h':List Item} (R:Ret P f args U v U') (H:Hx N U' h') (kk:k v h' U'):A22 P N false U f args k:=⟨v,U',h',R,(fun h=>by cases h),H,kk⟩
theorem Aku {h:List Item} {i:Nat} {r:Thg}:(h.set i (.th r)).map Item.t=(h.map Item.t).set i r:=List.map_set ..
theorem at_t {h:List Item} {i:Nat} {r:Thg} (hi:h[i]? =some (.th r)):(h.map Item.t)[i]? =some r:=by rw[Zba,hi];rfl
theorem E8 {p:Pl Y} {b8 n:Nat} {l:List Y} (H:Hx N U h) (i:Nat) (hi:h[i]? =some (.th (ow p.kd v l))) (x:Y) (hl:look h n=some (p.enc x)) (hz:0<p.z) (hb:(l.length+1)*b8<=140737488355328)
  (kk:∀ v' U',Hx N U' (h.set i (.th (ow p.kd v' (l++[x]))))->k v' (h.set i (.th (ow p.kd v' (l++[x])))) U'):genX N false U (appV p.z b8 U v (.sl n 0 1)) k:=by
 obtain⟨z,j,h1,_⟩:=Sv hl
 obtain⟨v',U',e,H'⟩:=H.hp.app (by8:=b8) i (at_t hi) (RS_one (H.hp.pt j h1)) hz hb
 rw[<- Aku] at H'
 exact⟨v',U',_,e,(fun h=>by cases h),H',kk v' U' H'⟩
theorem Aas:∀(h:List Item) (j:Nat),(h.map Item.t).eraseIdx j=(h.eraseIdx j).map Item.t
 |[],_=>rfl
 |x::h,0=>rfl
 |x::h,j+1=>by simp only[Zbf,Zbj,Aas h j]
theorem Ga {d:Kd Y} {b8 n:Nat} {l:List Y} {x:Y} {cs:List GV} (H:Hx N U h) (j i:Nat) (hj:h[j]? =some (.th (own d cs x))) (hi:(h.eraseIdx j)[i]? =some (.th (ow d v l))) (hl:look h n=some cs) (hz:0<d.z) (hb:(l.length+1)*b8<=140737488355328)
  (kk:∀ v' U',Hx N U' ((h.eraseIdx j).set i (.th (ow d v' (l++[x]))))->k v' ((h.eraseIdx j).set i (.th (ow d v' (l++[x])))) U'):genX N false U (appV d.z b8 U v (.sl n 0 1)) k:=by
 obtain⟨z,m,h1,_⟩:=Sv hl
 have hB:=H.hp.pt m h1
 have hcl:cs.length=d.z:=d.len (H.hp.rd j (at_t hj))
 have H1:=H.hp.pick j (at_t hj)
 rw[Aas] at H1
 obtain⟨v',U',e,H'⟩:=H1.appc (by8:=b8) i (at_t hi) hz hb
 rw[<- Aku] at H'
 refine⟨v',U',_,?_,(fun h=>by cases h),H',kk v' U' H'⟩
 rw[<- e]
 unfold appV
 have el:elems U d.z (.sl n 0 1)=some (1,cs):=by
  simp only[elems,hB,Zaf,seg]
  rw[if_pos (by omega)]
  simp
  exact Zay (by omega)
 simp only[el,Zaf]
theorem Qy {p:Pl Y} {b8 n:Nat} {m:List Y} {u:GV} (H:Hx N U (.box p.z n []::h)) (hu:RS p.kd U u m) (hz:0<p.z) (hb:m.length*b8<=140737488355328)
  (kk:∀ v' U',Hx N U' (.th (ow p.kd v' m)::h)->k v' (.th (ow p.kd v' m)::h) U'):genX N D U (appV p.z b8 U (.sl n 0 0) u) k:=by
 have hu':RdN p.en U u m:=hu
 have ha:appV p.z b8 U (.sl n 0 0) u=appG p.z b8 U (.sl n 0 0) m.length (p.cells m):=by
  have he:=hu'.elems
  unfold appV
  rcases hu' with⟨rfl,rfl|rfl⟩|⟨g,off,cs,rfl,_⟩<;>simp only[he,Zaf]
 rw[ha]
 by_cases hm:m.length=0
 ·have:m=[]:=List.eq_nil_of_length_eq_zero hm
  subst this
  have H1:Hx N U (.th (ow p.kd (.sl n 0 0) [])::h):=H.hp.toNil (d:=p.kd) 0 rfl rfl
  exact⟨.sl n 0 0,U,_,by simp[appG,isSl],fun _=>Za2 _,H1,kk _ _ H1⟩
 ·obtain⟨a,ha,_⟩:=H.hp.see (i:=0) rfl
  have hB:=Co.1 ha.2
  have H1:Hx N (U++[some (.row p.z (p.cells m))]) (.th (ow p.kd (.sl U.length 0 m.length) m)::h):=(H.hp.drop1.new p.z (p.cells m)).toRow 0 rfl m rfl rfl _ rfl
  refine⟨.sl U.length 0 m.length,U++[some (.row p.z (p.cells m))],_,?_,fun _=>pre1 _ _,H1,kk _ _ H1⟩
  simp only[appG,hB,if_neg hm]
  rw[if_pos ⟨trivial,trivial,trivial,trivial,hb⟩]
theorem M8 {e:Option (GV×St)} {k k':Kx} (hk:∀ v h U,k v h U->k' v h U):genX N D U e k->genX N D U e k':=fun⟨v,U',h',h1,h2,h3,h4⟩=>⟨v,U',h',h1,h2,h3,hk _ _ _ h4⟩
theorem Qp {z:Nat} {cs:List GV} {w:Nat->GV} {k k':Kx} (hk:∀ v h U,k v h U->k' v h U) (e:Pp N h z cs w k):Pp N h z cs w k':=fun n hf U' H=>hk _ _ _ (e n hf U' H)
theorem Apg {k k':Kx} (hk:∀ v h U,k v h U->k' v h U):∀ {i:Ins},sxI P D N env h U k i->sxI P D N env h U k' i:=by
 have bm:∀ {v:Option GV},J3 v k h U->J3 v k' h U:=fun {v} e=>by
  cases v with
  |none=>exact e
  |some v=>exact hk _ _ _ e
 intro i e
 cases i with
 |new cs=>exact Qp hk e
 |box x=>exact⟨e.1,Qp hk e.2⟩
 |lit z len zero parts=>
  simp only[sxI] at e ⊢
  revert e
  cases Kq zero (parts.map fun p=>(p.1,p.2.1,p.2.2.ev env)) with
  |none=>exact id
  |some cs=>exact Qp hk
 |mks z b ze n c=>
  simp only[sxI] at e ⊢
  revert e
  cases Bu (some (n.ev env)) with
  |none=>exact id
  |some n=>cases Bu (some (c.ev env)) with
   |none=>exact id
   |some c=>exact fun e=>⟨e.1,e.2.1,Qp hk e.2.2⟩
 |st n a x=>
  simp only[sxI] at e ⊢
  revert e
  cases a.ev env with
  |ptr b off=>
   simp only[stX]
   unfold stB
   cases look h b with
   |none=>exact M8 hk
   |some cs=>exact fun e=>⟨e.1,fun U' H=>hk _ _ _ (e.2 U' H)⟩
  |_=>exact M8 hk
 |call f xs=>
  obtain⟨v,U',h',h1,h2,h3,h4⟩:=e
  exact⟨v,U',h',h1,h2,h3,hk _ _ _ h4⟩
 |callv x xs=>
  simp only[sxI] at e ⊢
  revert e
  cases x.ev env with
  |fn f caps=>exact fun⟨v,U',h',h1,h2,h3,h4⟩=>⟨v,U',h',h1,h2,h3,hk _ _ _ h4⟩
  |_=>exact id
 |chk d x=>
  cases x with
  |ld g n a=>cases a with
   |t t=>exact⟨e.1,hk _ _ _ e.2⟩
   |k v=>exact e
  |_=>exact e
 |blc t cs=>exact⟨e.1,hk _ _ _ e.2⟩
 |app z b ze s x=>exact M8 hk e
 |clr z ze x=>exact M8 hk e
 |mkm=>exact M8 hk e
 |mup ks m k2 v=>exact M8 hk e
 |mov x=>exact hk _ _ _ e
 |pan=>exact e
 |_=>exact bm e
theorem Za:∀ {os:List Op1} {K K':Env->List Item->St->Prop} {env:Env} {h:List Item} {U:St},(∀ env h U,K env h U->K' env h U)->sx P D N os K env h U->sx P D N os K' env h U
 |[],K,K',env,h,U,hk,e=>hk _ _ _ e
 |o::r,K,K',env,h,U,hk,e=>by
  simp only[sx] at e ⊢
  have y:sxI P D N env h U (fun v h' U'=>sx P D N r K (upo env o.d v) h' U') o.i->sxI P D N env h U (fun v h' U'=>sx P D N r K' (upo env o.d v) h' U') o.i:=Apg fun v h U=>Za hk
  have n:sx P D N r K (upo env o.d (.tup [])) h U->sx P D N r K' (upo env o.d (.tup [])) h U:=Za hk
  revert e
  cases o.g.map fun g=>((env g.1).bit,g.2) with
  |none=>exact y
  |some q=>
   obtain⟨c,b⟩:=q
   cases c with
   |none=>exact n
   |some c=>exact fun e=>⟨fun hc=>y (e.1 hc),fun hc=>n (e.2 hc)⟩
theorem Vq {d:Cd}:∀ {Q Q':Qx} {env:Env} {h:List Item} {U:St},(∀ e env h U,Q e env h U->Q' e env h U)->sxc P N d Q env h U->sxc P N d Q' env h U:=by
 induction d with
 |skip=>intro Q Q' env h U hq e;exact hq _ _ _ _ e
 |reg ops=>intro Q Q' env h U hq e;exact Za (hq _) e
 |drw a1 bs=>intro Q Q' env h U hq e;exact Za (fun _ _ _=>Za (hq _)) e
 |seq a b iha ihb=>
  intro Q Q' env h U hq e
  refine iha (fun e env h U he=> ?_) e
  cases e with
  |nxt=>exact ihb hq he
  |ext j=>exact hq _ _ _ _ he
  |ret=>exact hq _ _ _ _ he
 |cnd c a b iha ihb=>
  intro Q Q' env h U hq e
  simp only[sxc] at e ⊢
  unfold ifX at e ⊢
  split
  ·rename_i hc;rw[hc] at e;exact⟨fun k=>iha hq (e.1 k),fun k=>ihb hq (e.2 k)⟩
  ·rename_i hc;rw[hc] at e;exact e
 |blk id a ih=>
  intro Q Q' env h U hq e
  refine ih (fun e env h U he=> ?_) e
  cases e with
  |nxt=>exact hq _ _ _ _ he
  |ext j=>
   simp only at he ⊢
   split at he
   ·rename_i hj;rw[if_pos hj];exact hq _ _ _ _ he
   ·rename_i hj;rw[if_neg hj];exact hq _ _ _ _ he
  |ret=>exact hq _ _ _ _ he
 |lop a ih=>
  intro Q Q' env h U hq e
  obtain⟨I,n,h0,H0,hI,hs⟩:=e
  refine⟨I,n,h0,H0,hI,fun k env h U H hi=>ih (fun e env' h' U' he=> ?_) (hs k env h U H hi)⟩
  cases e with
  |nxt=>exact he
  |ext j=>obtain⟨h1,H1,he⟩:=he;exact⟨h1,H1,hq _ _ _ _ he⟩
  |ret=>obtain⟨h1,H1,he⟩:=he;exact⟨h1,H1,hq _ _ _ _ he⟩
 |ext id=>intro Q Q' env h U hq e;exact hq _ _ _ _ e
 |ret=>intro Q Q' env h U hq e;exact hq _ _ _ _ e
variable {a b:Cd} {Q:Qx}
theorem J4 (n j0:Nat) (I:Nat->Env->List Item->Prop) (X Z:Env->List Item->Prop) (h0:List Item) (H0:Hx N U h0) (hI:I n env h0)
  (hs:∀(J:Nat->Env->St->Prop) (Yq Wq:Env->St->Prop),(∀ i env h U,Hx N U h->I i env h->J i env U)->(∀ env h U,Hx N U h->X env h->Yq env U)->(∀ env h U,Hx N U h->Z env h->Wq env U)->∀ i env h U,Hx N U h->I i env h->sxc P N a (fun e env' h' U'=>match e with
   | .nxt=>∃ i',i'<i/\J i' env' U'
   | .ext j=>j=j0/\Yq env' U'
   | .ret=>Wq env' U') env h U)
  (hx:∀ env h U,Hx N U h->X env h->Q (.ext j0) env h U) (hz:∀ env h U,Hx N U h->Z env h->Q .ret env h U):sxc P N (.lop a) Q env h U:=by
 refine⟨fun i env h U=>I i env h,n,h0,H0,hI,fun i env h U H hi=>Vq (fun e env' h' U' he=> ?_) (hs (fun i env U=>∃ h,Hx N U h/\I i env h) (fun env U=>∃ h,Hx N U h/\X env h) (fun env U=>∃ h,Hx N U h/\Z env h) (fun _ _ h _ H e=>⟨h,H,e⟩) (fun _ h _ H e=>⟨h,H,e⟩) (fun _ h _ H e=>⟨h,H,e⟩) i env h U H hi)⟩
 cases e with
 |nxt=>obtain⟨i',h1,h2,h3,h4⟩:=he;exact⟨i',h2,h1,h3,h4⟩
 |ext j=>obtain⟨rfl,h2,h3,h4⟩:=he;exact⟨h2,h3,hx _ _ _ h3 h4⟩
 |ret=>obtain⟨h2,h3,h4⟩:=he;exact⟨h2,h3,hz _ _ _ h3 h4⟩
theorem Ax (n ri j0:Nat) (I:Nat->Env->List Item->Prop) (X Z:Env->List Item->Prop) (h0:List Item) (H0:Hx N U h0) (hr:env ri=gi 0) (hI:I 0 env h0)
  (hs:∀(J:Nat->Env->St->Prop) (Yq Wq:Env->St->Prop),(∀ i env h U,Hx N U h->I i env h->J i env U)->(∀ env h U,Hx N U h->X env h->Yq env U)->(∀ env h U,Hx N U h->Z env h->Wq env U)->∀ i env h U,i<n->env ri=gi i->decide ((i:Int)<n)=true->Hx N U h->I i env h->sxc P N a (fun e env' h' U'=>match e with
   | .nxt=>env' ri=gi ((i:Int)+1)/\J (i+1) env' U'
   | .ext j=>j=j0/\Yq env' U'
   | .ret=>Wq env' U') env h U)
  (he:∀(Yq:Env->St->Prop),(∀ env h U,Hx N U h->X env h->Yq env U)->∀ env h U,env ri=gi n->decide ((n:Int)<n)=false->Hx N U h->I n env h->sxc P N a (fun e env' h' U'=>match e with
   | .nxt=>False
   | .ext j=>j=j0/\Yq env' U'
   | .ret=>False) env h U)
  (hx:∀ env h U,Hx N U h->X env h->Q (.ext j0) env h U) (hz:∀ env h U,Hx N U h->Z env h->Q .ret env h U):sxc P N (.lop a) Q env h U:=by
 refine J4 n j0 (fun k env h=>∃ i:Nat,k=n - i/\i<=n/\env ri=gi i/\I i env h) X Z h0 H0 ⟨0,rfl,Nat.zero_le _,hr,hI⟩ (fun J Yq Wq hJ hY hW k env h U H hi=> ?_) hx hz
 obtain⟨i,rfl,h1,h2,h3⟩:=hi
 rcases Nat.lt_or_ge i n with hlt|hge
 ·refine Vq (fun e env' h' U' q=> ?_) (hs (fun i' env U=>i'<=n->env ri=gi i'->J (n - i') env U) Yq Wq (fun j env h U H e hj hr=>hJ _ env h U H ⟨j,rfl,hj,hr,e⟩) hY hW i env h U hlt h2 (by simp;omega) H h3)
  cases e with
  |nxt=>exact⟨n - (i+1),by omega,q.2 (by omega) q.1⟩
  |ext j=>exact q
  |ret=>exact q
 ·obtain rfl:i=n:=by omega
  refine Vq (fun e env' h' U' q=> ?_) (he Yq hY env h U h2 (by simp) H h3)
  cases e with
  |nxt=>exact q.elim
  |ext j=>exact q
  |ret=>exact q.elim
theorem Cb {md:Bool} {F:Fn1} {r:GV} (hF:F3 md P f=some F) (hl:args.length<=F.n) (hr:vLt N.length r)
  (hc:sxc P N F.c (fun e env h U=>Hx N U h->A6u e=true/\resX N h U env F.rs=some r) (env0 args) [] N):Ret P f args N r N:=
 B7 hF hl hr (Bh (Aef (Hx.refl N) hc) fun e env U he=>by
  obtain⟨_,h,H,hq⟩:=he
  exact⟨(hq H).1,A8q H (hq H).2,H.sub⟩)
end rules
attribute [go_sem] Zad Zae Zbj List.eraseIdx_cons_zero Zbf List.map_nil Zaa Zab
section
variable {P:Program} {D:Bool} {N U:St} {env:Env} {h:List Item} {k:Kx} {v:GV} {Y:Type} {l:List Y}
theorem Oy {p:Y->Bool} {i:Nat} (hi:i<l.length) (hp:p l[i]=true):(l.take (i+1)).filter p=(l.take i).filter p++[l[i]]:=by
 rw[Za8 hi,Zbg,Zbk,hp];rfl
theorem Pr {p:Y->Bool} {i:Nat} (hi:i<l.length) (hp:p l[i]=false):(l.take (i+1)).filter p=(l.take i).filter p:=by
 rw[Za8 hi,Zbg,Zbk,hp];simp
theorem Rm {p:Y->Bool} {i n:Nat} (hl:l.length<=n):((l.take i).filter p).length<=n:=Za1 (Za0 _ _) (Za1 (by rw[Zbl];omega) hl)
theorem Hx.of {rs:List Thg} (H:Hp N U rs):Hx N U (rs.map Item.th):=by
 have e:(rs.map Item.th).map Item.t=rs:=by
  have:=Aqr (rs:=rs) (h:=[])
  simpa using this
 unfold Hx
 rw[e];exact H
theorem Hx.nil (H:Hx N U h) (d:Kd Y):Hx N U (.th (ow d .nilS ([]:List Y))::h):=Hp.nilS H
theorem Hx.emp {z n:Nat} (H:Hx N U (.box z n []::h)) (d:Kd Y) (hz:z=d.z):Hx N U (.th (ow d (.sl n 0 0) ([]:List Y))::h):=H.hp.toNil 0 rfl hz
theorem Asl {f:Nat} {args:List GV} {w:GV} {U':St} {r:Thg} (i:Nat) (R:Ret P f args U w U') (K:Hp N U' ((h.map Item.t).set i r)) (kk:Hx N U' (h.set i (.th r))->k w (h.set i (.th r)) U'):A22 P N false U f args k:=by
 rw[<- Aku] at K
 exact by_m R K (kk K)
theorem Aeh {g:Bool} {n:Nat} {a x:GV} (e:ldG g n N a=some x):ldX N h U g n a=some x:=by unfold ldX orX;rw[e]
theorem kp {p:Nat->Prop} {env0 env:Env} {d:Nat} {v:GV} (hd:¬ p d) (h:∀ r,p r->env r=env0 r):∀ r,p r->up env d v r=env0 r:=fun r hr=>by
 unfold up
 rw[if_neg (fun e:r=d=>hd (by rw[<- e];exact hr))]
 exact h r hr
theorem Ajg {f:Nat} {args:List GV} {r:List Op1} {K:Env->List Item->St->Prop} {d:Option Nat} (H:Hx N U h) (m x:Nat) (g:GV)
  (ha:∀ Yq:Env->List Item->St->Prop,(∀ env',(∀ r,r<m/\r≠x->env' r=env r)->env' x=g->Yq env' h U)->A22 P N D U f args (Ana P D N r Yq env d))
  (hb:∀ env',(∀ r,r<m/\r≠x->env' r=env r)->env' x=g->K env' h U):A22 P N D U f args (Ana P D N r K env d):=by
 obtain⟨v,U',h',h1,h2,h3,h4⟩:=ha (fun env' h' U'=>(∀ r,r<m/\r≠x->env' r=env r)/\env' x=g/\h'=h/\U'=U) fun env' h1 h2=>⟨h1,h2,rfl,rfl⟩
 refine⟨v,U',h',h1,h2,h3,Za (fun env' h'' U'' hk=> ?_) h4⟩
 obtain⟨k1,k2,rfl,rfl⟩:=hk
 exact hb env' k1 k2
theorem by_mkm (H:Hx N U h) (kk:∀ m U',Hx N U' (.th (mpt m [])::h)->k m (.th (mpt m [])::h) U'):genX N D U (some (.mp U.length,U++[some (.map [])])) k:=by
 have H':Hx N (U++[some (.map [])]) (.th (mpt (.mp U.length) [])::h):=H.hp.newMap
 exact⟨_,_,_,rfl,fun _=>Zaz _ _,H',kk _ _ H'⟩
theorem by_mup {m:GV} {ps:List (Dot×Int)} (H:Hx N U h) (i:Nat) (hi:h[i]? =some (.th (mpt m ps))) (d:Dot) (n:Int) (hd:Mr ps d=none)
  (kk:∀ U',Hx N U' (h.set i (.th (mpt m (ps++[(d,n)]))))->k (.tup []) (h.set i (.th (mpt m (ps++[(d,n)])))) U'):genX N false U (mupG U [.i .i64,.i .i64] m (.agg [gi d.rep,gi d.seq]) (gi n)) k:=by
 obtain⟨U',e,H'⟩:=H.hp.mup i (at_t hi) d n hd
 rw[<- Aku] at H'
 exact⟨_,U',_,e,(fun h=>by cases h),H',kk U' H'⟩
theorem Hx.mlk {m:GV} {ps:List (Dot×Int)} (H:Hx N U h) (i:Nat) (hi:h[i]? =some (.th (mpt m ps))) (d:Dot):mlkG U [.i .i64,.i .i64] (gi 0) true m (.agg [gi d.rep,gi d.seq])=some (.tup [gi ((Mr ps d).getD 0),.bool (Mr ps d).isSome]):=H.hp.mlk i (at_t hi) d
theorem F8 (H:Hx N U h) {g:Bool} {n:Nat} {a x:GV} (e:ldG g n U a=some x):ldX N h U g n a=some x:=by
 unfold ldX orX
 cases h1:ldG g n N a with
 |some y=>have:=An7 h1 H.sub;rw[e] at this;exact this.symm
 |none=>
  show ldY h U g n a=some x
  cases a with
  |ptr b off=>
   simp only[ldY]
   cases hl:look h b with
   |none=>exact e
   |some cs=>
    obtain⟨z,i,h2,_⟩:=Sv hl
    have:=H.hp.pt i h2
    simp only[ldG,this,Zaf] at e
    exact e
  |_=>exact e
theorem Aqs {p:Pl Y} (H:Hx N U h) (i:Nat) (hi:h[i]? =some (.th (ow p.kd v l))) {j:Nat} (hj:j<l.length):iadG p.z v (some j)=some (atz p.z v j)/\(∀ k,fadG k (atz p.z v j)=some (fld k (atz p.z v j)))/\(∀ k m,fadG k (fld m (atz p.z v j))=some (fld (m+k) (atz p.z v j)))/\ldX N h U true p.z (atz p.z v j)=some (.agg (p.enc l[j]))/\∀ k n a,0<n->k+n<=p.z->ldX N h U a n (fld k (atz p.z v j))=(seg (p.enc l[j]) k n).bind (mkv a):=by
 obtain⟨cs,⟨h1,h2,h3,h4,h5⟩,rfl⟩:=RdN.cellsN (d:=p.kd) (H.hp.sl i (at_t hi)) hj
 refine⟨h1,h2,h3,F8 H h4,fun k n a hn hk=> ?_⟩
 have h6:=h5 k n a hk
 have hl:(p.enc l[j]).length=p.z:=p.len _
 have e:seg (p.enc l[j]) k n=some (((p.enc l[j]).drop k).take n):=by unfold seg;rw[if_pos (by omega)]
 obtain⟨x,hx⟩:∃ x,mkv a (((p.enc l[j]).drop k).take n)=some x:=by
  cases a with
  |true=>exact⟨_,rfl⟩
  |false=>
   cases hc:((p.enc l[j]).drop k).take n with
   |nil=>
        have:(((p.enc l[j]).drop k).take n).length=0:=by rw[hc];rfl
        simp only[Zbl,Zbm] at this;omega
   |cons y ys=>exact⟨y,rfl⟩
 rw[e,Zaf,hx] at h6 ⊢
 exact F8 H h6
theorem Aat {l:List Cell} (H:Hx N U h) (i:Nat) (hi:h[i]? =some (.th (ow Ai.kd v l))) {j:Nat} (hj:j<l.length):iadG 8 v (some j)=some (atz 8 v j)/\(∀ k,fadG k (atz 8 v j)=some (fld k (atz 8 v j)))/\(∀ k m,fadG k (fld m (atz 8 v j))=some (fld (m+k) (atz 8 v j)))/\ldX N h U true 8 (atz 8 v j)=some (.agg [.str l[j].obj,gi l[j].dot.rep,gi l[j].dot.seq,gi l[j].time,gi l[j].ref.rep,gi l[j].ref.seq,gi l[j].val,.bool l[j].gone])/\∀ k n a,0<n->k+n<=8->ldX N h U a n (fld k (atz 8 v j))=(seg [.str l[j].obj,gi l[j].dot.rep,gi l[j].dot.seq,gi l[j].time,gi l[j].ref.rep,gi l[j].ref.seq,gi l[j].val,.bool l[j].gone] k n).bind (mkv a):=Aqs H i hi hj
theorem Aau:∀ {h:List Item} {n:Nat} {cs:List GV},look h n=some cs->∃ z,∃ i:Nat,h[i]? =some (.box z n cs)
 |[],_,_,e=>by cases e
 | .box z m cs'::h,n,cs,e=>by
  simp only[look] at e
  by_cases hm:m=n
  ·rw[if_pos hm] at e
   injection e with e;subst e hm
   exact⟨z,0,rfl⟩
  ·rw[if_neg hm] at e
   obtain⟨z',i,h1⟩:=Aau e
   exact⟨z',i+1,by simpa using h1⟩
 | .th r::h,n,cs,e=>by
  obtain⟨z',i,h1⟩:=Aau (h:=h) (by simpa [look] using e)
  exact⟨z',i+1,by simpa using h1⟩
theorem Aqt (H:Hx N U h) {i:Nat} {r:Thg} (hi:h[i]? =some (.th r)) {b:Nat} (hb:∀ fp,r.P U fp->b∈fp):look h b=none:=by
 cases hl:look h b with
 |none=>rfl
 |some cs=>
  obtain⟨z,j,h1⟩:=Aau hl
  obtain⟨_,fp,hs,hn,_⟩:=H.hp
  obtain⟨F,k1,k2,k3,_⟩:=Aar hs hn
  have hj:=k1 j (pt z b cs) (by rw[Zba,h1];rfl)
  have hr:=k1 i _ (at_t hi)
  have hij:i≠j:=by
   rintro rfl
   rw[hi] at h1;cases h1
  have h2:b∈F j:=by rw[hj.1];exact Zaj
  exact(k3 i j hij b (hb _ hr) h2).elim
theorem Asm (H:Hx N U h) {p:Pl Y} {i:Nat} (hi:h[i]? =some (.th (ow p.kd v l))) {j:Nat} (hj:j<l.length) {m n:Nat} {x:GV} (e:genX N false U (stG n U (fld m (atz p.z v j)) x) k):stX N false h U n k (fld m (atz p.z v j)) x:=by
 obtain⟨fp,ho,_⟩:=H.hp.see (at_t hi)
 rcases OS.flat.1 ho with⟨rfl,_⟩|⟨g,pre,post,rfl,hB,rfl⟩
 ·simp at hj
 ·have hn:look h g=none:=Aqt H hi fun fp' ho'=>by
   rcases OS.flat.1 ho' with⟨rfl,_⟩|⟨g',pre',post',e',_,rfl⟩
   ·simp at hj
   ·injection e' with e1;rw[e1];exact Zaj
  show stB N false h U n k g _ x (look h g)
  rw[hn]
  exact e
theorem Ajh {p:Pl Y} (H:Hx N U h) (i:Nat) (hi:h[i]? =some (.th (ow p.kd v l))) {j:Nat} (hj:j<l.length) {m n:Nat} {x:GV} (y:Y) (hx:x.cells.length=n) (hn:0<n) (hk:m+n<=p.z) (hy:p.enc y=B5 (p.enc l[j]) m x.cells)
  (kk:∀ U',Hx N U' (h.set i (.th (ow p.kd v (l.set j y))))->k (.tup []) (h.set i (.th (ow p.kd v (l.set j y)))) U'):stX N false h U n k (fld m (atz p.z v j)) x:=by
 obtain⟨U',e,H'⟩:=H.hp.ste i (at_t hi) hj n m x y hx hn hk hy
 rw[<- Aku] at H'
 exact Asm H hi hj ⟨_,U',_,e,(fun h=>by cases h),H',kk U' H'⟩
theorem Rn {p:Pl Y} (H:Hx N U h) (i:Nat) (hi:h[i]? =some (.th (ow p.kd v l))) {j:Nat} (hj:j<l.length) {n:Nat} {x:GV} (y:Y) (hx:x.cells=p.enc y) (hn:n=p.z) (hz:0<n)
  (kk:∀ U',Hx N U' (h.set i (.th (ow p.kd v (l.set j y))))->k (.tup []) (h.set i (.th (ow p.kd v (l.set j y)))) U'):stX N false h U n k (atz p.z v j) x:=by
 subst hn
 have e:atz p.z v j=fld 0 (atz p.z v j):=by cases v<;>rfl
 rw[e]
 exact Ajh H i hi hj y (by rw[hx,p.len]) hz (by omega) (by rw[hx];unfold B5;rw[Zbx,Zab,p.len,Za9 (by rw[p.len];omega),Zbq]) kk
end
theorem Lc {fps:List (List Nat)} {j:Nat} {fx:List Nat} {g:Nat} (h:g∈(fps.set j fx).flatten):g∈fps.flatten∨g∈fx:=by
 obtain⟨f,hf,hg⟩:=Zal.1 h
 rcases List.mem_or_eq_of_mem_set hf with h1|h1
 ·exact .inl (Zal.2 ⟨f,h1,hg⟩)
 ·exact .inr (h1 ▸ hg)
theorem Ro:∀ {fps:List (List Nat)} {j:Nat} {fx:List Nat},fps.flatten.Nodup->fx.Nodup->(∀ g∈fx,g∉fps.flatten)->(fps.set j fx).flatten.Nodup
 |[],j,fx,_,_,_=>by simp
 |f::fps,0,fx,h,hx,hd=>by
  rw[Zar,Zaq] at h
  rw[Zad,Zar,Zaq]
  refine⟨hx,h.2.1,fun a ha b hb e=> ?_⟩
  subst e
  exact hd a ha (by rw[Zar];exact Zak _ hb)
 |f::fps,j+1,fx,h,hx,hd=>by
  rw[Zar,Zaq] at h
  rw[Zae,Zar,Zaq]
  refine⟨h.1,Ro h.2.1 hx fun g hg hm=>hd g hg (by rw[Zar];exact Zak _ hm),fun a ha b hb e=> ?_⟩
  subst e
  rcases Lc hb with h1|h1
  ·exact h.2.2 a ha a h1 rfl
  ·exact hd a h1 (by rw[Zar];exact Zam _ ha)
section os
variable {Y:Type} {d:Kd Y} {N U:St} {l:List Y} {v:GV} {fp:List Nat}
theorem Aji {css:List (List GV)} {fps:List (List Nat)} (h:All3 (d.O U) l css fps):∀ c∈css,c.length=d.z:=by
 induction h with
 |nil=>simp
 |cons h _ ih=>
  intro c hc
  rcases Zau.1 hc with rfl|hc
  ·exact d.len (d.rd h)
  ·exact ih c hc
theorem OS.setc {x:Y} {cs:List GV} {fx:List Nat} (h:OS d U l v fp) (hx:d.O U x cs fx) (hn:(fp++fx).Nodup) (hlt:∀ g∈fp++fx,g<U.length) (hz:0<d.z) {j:Nat} (hj:j<l.length):
  ∃ U' fp',stG d.z U (atz d.z v j) (.agg cs)=some (.tup [],U')/\OS d U' (l.set j x) v fp'/\Turn U U' (fp++fx) fp':=by
 have hcl:=d.len (d.rd hx)
 rcases h with⟨rfl,rfl,rfl⟩|⟨g,pre,css,post,fps,rfl,hB,hA,rfl⟩
 ·simp at hj
 ·rw[Zaa,Zat] at hn
  obtain⟨hg,hn⟩:=hn
  rw[Zaq] at hn
  have hgt:g<U.length:=hlt g (by simp)
  have hfl:=Tq hA
  obtain⟨c,f,hc,_,_⟩:=hA.get (j:=j) (a:=l[j]) (by simp[hj])
  have hcz:=Aji hA c (Zbt hc)
  have hm:(j+1)*d.z<=l.length*d.z:=Nat.mul_le_mul_right _ hj
  rw[Nat.add_mul,Nat.one_mul] at hm
  have e1:B5 css.flatten (j*d.z+0) cs=(css.set j cs).flatten:=by
   rw[A33 (Aji hA) hc (by omega)]
   congr 2
   unfold B5
   rw[Zbx,Zab,Za9 (by omega),Zbq]
  have e2:B5 (pre++css.flatten++post) (pre.length+(j*d.z+0)) cs=pre++(css.set j cs).flatten++post:=by
   rw[Xw (by omega),e1]
  have keep:∀ g',g'≠g->bk (U.set g (some (.row d.z (pre++(css.set j cs).flatten++post)))) g'=bk U g':=fun g' hne=>Iw (Ne.symm hne)
  refine⟨U.set g (some (.row d.z (pre++(css.set j cs).flatten++post))),g::(fps.set j fx).flatten,?_,.inr ⟨g,pre,css.set j cs,post,fps.set j fx,by simp,Co.2 (by rw[List.getElem?_set_self hgt]),?_,rfl⟩,⟨?_,?_,by simp,?_⟩⟩
  ·simp only[atz,stG,Co.1 hB]
   rw[if_pos ⟨by simp only[Zah];omega,hz,hcl⟩]
   rw[Zb1] at e2
   rw[show (GV.agg cs).cells=cs from rfl,e2]
  ·refine(hA.set j hx).imp fun a b c hc ho=>d.loc ho fun g' hg'=>keep g' fun e=> ?_
   subst e
   rcases Lc (Zal.2 ⟨c,hc,hg'⟩) with h1|h1
   ·exact hg (Zam _ h1)
   ·exact hg (Zak _ h1)
  ·rw[Zat]
   refine⟨fun h1=> ?_,Ro hn.1 hn.2.1 fun g' h1 h2=>hn.2.2 g' h2 g' h1 rfl⟩
   rcases Lc h1 with h1|h1
   ·exact hg (Zam _ h1)
   ·exact hg (Zak _ h1)
  ·intro g' hg'
   refine .inl ?_
   rcases Zau.1 hg' with rfl|h1
   ·simp
   ·rcases Lc h1 with h1|h1
    ·simp only[Zaa,Zau,Zbs];exact .inr (.inl h1)
    ·simp only[Zaa,Zau,Zbs];exact .inr (.inr h1)
  ·intro g' hg' hne
   exact keep g' fun e=>hne (by rw[e];simp)
end os
section rules
variable {P:Program} {D:Bool} {N U:St} {h:List Item} {k:Kx} {v:GV} {Y:Type} {l:List Y} {d:Kd Y}
theorem Aav {x:Y} {cs:List GV} (H:Hx N U h) (m i:Nat) (hm:h[m]? =some (.th (own d cs x))) (hi:(h.eraseIdx m)[i]? =some (.th (ow d v l))) (hz:0<d.z) {j:Nat} (hj:j<l.length)
  (kk:∀ U',Hx N U' ((h.eraseIdx m).set i (.th (ow d v (l.set j x))))->k (.tup []) ((h.eraseIdx m).set i (.th (ow d v (l.set j x)))) U'):stX N false h U d.z k (atz d.z v j) (.agg cs):=by
 have H1:=H.hp.pick m (at_t hm)
 rw[Aas] at H1
 have hp:(own d cs x::(h.eraseIdx m).map Item.t).Perm (ow d v l::own d cs x::((h.eraseIdx m).map Item.t).eraseIdx i):=((Hp.pick_perm (at_t hi)).cons _).trans (List.Perm.swap _ _ _)
 obtain⟨a,⟨a1,a2,h1,h2,rfl⟩,hn,hbd,ht⟩:=(H1.perm hp).join.turn
 obtain⟨U',fp',e,ho,hT⟩:=OS.setc h1 h2 hn (fun g hg=>(hbd g hg).2) hz hj
 have H':=Hp.unpick (ht (r':=ow d v (l.set j x)) hT ho) (Zav.1 (at_t hi)).1
 rw[<- Aku] at H'
 have g:genX N false U (stG d.z U (atz d.z v j) (.agg cs)) k:=⟨_,U',_,e,(fun h=>by cases h),H',kk U' H'⟩
 rcases h1 with⟨rfl,_⟩|⟨gb,pre,css,post,fps,rfl,hB,hA,rfl⟩
 ·simp at hj
 ·have hno:look h gb=none:=by
   obtain⟨i0,hi0⟩:∃ i0:Nat,h[i0]? =some (.th (ow d (.sl gb pre.length l.length) l)):=by
    have:=Zbt hi
    have:=List.mem_of_mem_eraseIdx this
    obtain⟨i0,h1,h2⟩:=Zas this
    exact⟨i0,by rw[Zbh h1,h2]⟩
   refine Aqt H hi0 fun fp'' ho'=> ?_
   rcases ho' with⟨rfl,_⟩|⟨g',pre',css',post',fps',e',_,_,rfl⟩
   ·simp at hj
   ·injection e' with e1;rw[e1];exact Zaj
  show stB N false h U d.z k gb _ (.agg cs) (look h gb)
  rw[hno]
  exact g
end rules
theorem All3.cut {Y β γ:Type} {R:Y->β->γ->Prop}:∀ {x y:List Y} {bs:List β} {cs:List γ},All3 R (x++y) bs cs->∃ b1 b2 c1 c2,bs=b1++b2/\cs=c1++c2/\All3 R x b1 c1/\All3 R y b2 c2
 |[],y,bs,cs,h=>⟨[],bs,[],cs,rfl,rfl,.nil,h⟩
 |a::x,y,_,_,.cons h t=>by
  obtain⟨b1,b2,c1,c2,rfl,rfl,h1,h2⟩:=All3.cut t
  exact⟨_::b1,b2,_::c1,c2,rfl,rfl,.cons h h1,h2⟩
theorem Ajj (a b c:List Nat):(a++(b++c)).Perm (b++(a++c)):=by
 rw[<- Zbb,<-Zbb];exact List.Perm.append_right _ List.perm_append_comm
def holeP {Y:Type} (d:Kd Y) (v:GV) (l:List Y) (j:Nat) (cs:List GV) (U:St) (fp:List Nat):Prop:=
 ∃ g pre c1 c2 post f1 f2,v= .sl g pre.length l.length/\bk U g=some (.row d.z (pre++(c1.flatten++(cs++c2.flatten))++post))/\cs.length=d.z/\All3 (d.O U) (l.take j) c1 f1/\All3 (d.O U) (l.drop (j+1)) c2 f2/\fp=g::(f1.flatten++f2.flatten)
def hole {Y:Type} (d:Kd Y) (v:GV) (l:List Y) (j:Nat) (cs:List GV):Thg:=⟨holeP d v l j cs,fun {N U fp} h hf=>by
 obtain⟨g,pre,c1,c2,post,f1,f2,h1,h2,h3,h4,h5,rfl⟩:=h
 refine⟨g,pre,c1,c2,post,f1,f2,h1,by rw[hf g Zaj];exact h2,h3,h4.imp fun a b c hc ho=>d.loc ho fun g' hg'=>hf g' ?_,h5.imp fun a b c hc ho=>d.loc ho fun g' hg'=>hf g' ?_,rfl⟩
 ·exact Zac _ (Zam _ (Zal.2 ⟨c,hc,hg'⟩))
 ·exact Zac _ (Zak _ (Zal.2 ⟨c,hc,hg'⟩))⟩
section
variable {N U:St} {rs:List Thg} {Y:Type} {d:Kd Y} {v:GV} {l:List Y} {cs:List GV} {j:Nat}
theorem Hp.zoom (H:Hp N U (ow d v l::rs)) (hj:j<l.length):∃ cs,Hp N U (own d cs l[j]::hole d v l j cs::rs):=by
 obtain⟨h,_,⟨a,b,hr,hs,rfl⟩,hn,hb⟩:=H
 rcases hr with⟨rfl,_,_⟩|⟨g,pre,css,post,fps,hv,hB,hA,rfl⟩
 ·simp at hj
 have el:l=l.take j++(l[j]::l.drop (j+1)):=by rw[Zbo,Zbr]
 have hA':All3 (d.O U) (l.take j++(l[j]::l.drop (j+1))) css fps:=by rw[<- el];exact hA
 obtain⟨c1,c2',f1,f2',rfl,rfl,h1,h2⟩:=All3.cut hA'
 cases h2 with
 | @cons _ cs fx _ c2 f2 hx h2=>
  have hp:(g::(f1++fx::f2).flatten++b).Perm (fx++((g::(f1.flatten++f2.flatten))++b)):=by
   have e:g::(f1++fx::f2).flatten++b=(g::f1.flatten)++(fx++(f2.flatten++b)):=by simp
   have e2:fx++((g::(f1.flatten++f2.flatten))++b)=fx++((g::f1.flatten)++(f2.flatten++b)):=by simp
   rw[e,e2];exact Ajj _ _ _
  refine⟨cs,h,_,⟨fx,_,hx,⟨_,b,⟨g,pre,c1,c2,post,f1,f2,hv,?_,d.len (d.rd hx),h1,h2,rfl⟩,hs,rfl⟩,rfl⟩,hp.nodup_iff.1 hn,fun g' hg'=>hb g' (hp.mem_iff.2 hg')⟩
  rw[hB];simp
theorem Asn {fp:List Nat} (h:(hole d v l j cs).P U fp) (hj:j<l.length):∃ g off,g∈fp/\v= .sl g off l.length/\atz d.z v j= .ptr g (off+j*d.z)/\∃ A B,off+j*d.z=A.length/\cs.length=d.z/\bk U g=some (.row d.z (A++cs++B))/\∀(U':St) (cs':List GV),cs'.length=d.z->bk U' g=some (.row d.z (A++cs'++B))->(∀ g'∈fp,g'≠g->bk U' g'=bk U g')->fp.Nodup->(hole d v l j cs').P U' fp:=by
 obtain⟨g,pre,c1,c2,post,f1,f2,rfl,h2,h3,h4,h5,rfl⟩:=h
 have hc:c1.flatten.length=j*d.z:=by rw[Tq h4,Zbl,Nat.min_eq_left (by omega)]
 refine⟨g,pre.length,Zaj,rfl,rfl,pre++c1.flatten,c2.flatten++post,by rw[Zah,hc],h3,by rw[h2];simp,fun U' cs' hl hB hk hn=> ?_⟩
 rw[Zat] at hn
 refine⟨g,pre,c1,c2,post,f1,f2,rfl,by rw[hB];simp,hl,h4.imp fun a b c hc ho=>d.loc ho fun g' hg'=> ?_,h5.imp fun a b c hc ho=>d.loc ho fun g' hg'=> ?_,rfl⟩
 ·have hm:g'∈f1.flatten++f2.flatten:=Zam _ (Zal.2 ⟨c,hc,hg'⟩)
  exact hk g' (Zac _ hm) fun e=>hn.1 (e ▸ hm)
 ·have hm:g'∈f1.flatten++f2.flatten:=Zak _ (Zal.2 ⟨c,hc,hg'⟩)
  exact hk g' (Zac _ hm) fun e=>hn.1 (e ▸ hm)
end
section
variable {P:Program} {N U:St} {h:List Item} {K:Kx} {v:GV} {Y:Type} {l:List Y} {d:Kd Y} {cs:List GV} {j:Nat}
theorem Hx.hole_rd (H:Hx N U h) (i:Nat) (hi:h[i]? =some (.th (hole d v l j cs))) (hj:j<l.length):iadG d.z v (some j)=some (atz d.z v j)/\(∀ k,fadG k (atz d.z v j)=some (fld k (atz d.z v j)))/\(∀ k m,fadG k (fld m (atz d.z v j))=some (fld (m+k) (atz d.z v j)))/\(∀ k n a,k+n<=d.z->ldG a n U (fld k (atz d.z v j))=(seg cs k n).bind (mkv a)):=by
 obtain⟨fp,hP,_⟩:=(H.hp.pick i (at_t hi)).turn
 obtain⟨g,off,hg,rfl,e,A,B,h1,h2,h3,_⟩:=Asn hP hj
 rw[e]
 have hi':iadG d.z (.sl g off l.length) (some j)=some (.ptr g (off+j*d.z)):=by simp only[iadG];rw[if_pos hj]
 refine⟨hi',fun k=>rfl,fun k m=>by simp only[fld,fadG];rw[Nat.add_assoc],fun k n a hk=> ?_⟩
 simp only[fld,ldG]
 have hr:rdB U g=some (A++cs++B):=by unfold rdB;rw[Co.1 h3];rfl
 rw[hr,Zaf,h1]
 congr 1
 unfold seg
 rw[if_pos (by simp only[Zah];omega),if_pos (by omega)]
 congr 1
 rw[Zbb,<-Zb3,Zb4,Zbe (by omega),Zaw (by rw[Zbm];omega)]
end
def restP {Y:Type} (d:Kd Y) (v:GV) (l:List Y) (j:Nat) (U:St) (fp:List Nat):Prop:=
 (l=[]/\v= .nilS/\fp=[])∨∃ g pre c1 c2 post f2,v= .sl g pre.length l.length/\bk U g=some (.row d.z (pre++(c1++c2.flatten)++post))/\c1.length=j*d.z/\All3 (d.O U) (l.drop j) c2 f2/\fp=g::f2.flatten
def rest {Y:Type} (d:Kd Y) (v:GV) (l:List Y) (j:Nat):Thg:=⟨restP d v l j,fun {N U fp} h hf=>by
 rcases h with h|⟨g,pre,c1,c2,post,f2,h1,h2,h3,h4,rfl⟩
 ·exact .inl h
 refine .inr ⟨g,pre,c1,c2,post,f2,h1,by rw[hf g Zaj];exact h2,h3,h4.imp fun a b c hc ho=>d.loc ho fun g' hg'=>hf g' ?_,rfl⟩
 exact Zac _ (Zal.2 ⟨c,hc,hg'⟩)⟩
section
variable {N U:St} {rs:List Thg} {Y:Type} {d:Kd Y} {v:GV} {l:List Y} {j:Nat}
theorem Hp.toRest (H:Hp N U (ow d v l::rs)):Hp N U (rest d v l 0::rs):=
 H.conv fun fp h=>by
  rcases h with h|⟨g,pre,css,post,fps,h1,h2,h3,h4⟩
  ·exact .inl ⟨h.1,h.2.1,h.2.2⟩
  ·exact .inr ⟨g,pre,[],css,post,fps,h1,by rw[h2];rfl,by simp,h3,h4⟩
end
def rstP {Y:Type} (d:Kd Y) (v:GV) (l:List Y) (j:Nat) (cs:List GV) (U:St) (fp:List Nat):Prop:=
 ∃ g pre c1 c2 post f2,v= .sl g pre.length l.length/\bk U g=some (.row d.z (pre++(c1++(cs++c2.flatten))++post))/\c1.length=j*d.z/\cs.length=d.z/\All3 (d.O U) (l.drop (j+1)) c2 f2/\fp=g::f2.flatten
def rst {Y:Type} (d:Kd Y) (v:GV) (l:List Y) (j:Nat) (cs:List GV):Thg:=⟨rstP d v l j cs,fun {N U fp} h hf=>by
 obtain⟨g,pre,c1,c2,post,f2,h1,h2,h3,h5,h4,rfl⟩:=h
 refine⟨g,pre,c1,c2,post,f2,h1,by rw[hf g Zaj];exact h2,h3,h5,h4.imp fun a b c hc ho=>d.loc ho fun g' hg'=>hf g' ?_,rfl⟩
 exact Zac _ (Zal.2 ⟨c,hc,hg'⟩)⟩
section
variable {N U:St} {rs:List Thg} {Y:Type} {d:Kd Y} {v:GV} {l:List Y} {cs:List GV} {j:Nat}
theorem Hp.toRst (H:Hp N U (rest d v l j::rs)) (hj:j<l.length):∃ cs,Hp N U (own d cs l[j]::rst d v l j cs::rs):=by
 obtain⟨h,_,⟨a,b,hr,hs,rfl⟩,hn,hb⟩:=H
 rcases hr with⟨rfl,_,_⟩|⟨g,pre,c1,c2,post,f2,rfl,hB,hc,hA,rfl⟩
 ·simp at hj
 rw[<- Zbo hj] at hA
 cases hA with
 | @cons _ cs fx _ c2 f2 hx hA=>
  have hcl:cs.length=d.z:=d.len (d.rd hx)
  have hp:(g::(fx::f2).flatten++b).Perm (fx++((g::f2.flatten)++b)):=by
   have e:g::(fx::f2).flatten++b=[g]++(fx++(f2.flatten++b)):=by simp
   have e2:fx++((g::f2.flatten)++b)=fx++([g]++(f2.flatten++b)):=by simp
   rw[e,e2];exact Ajj _ _ _
  exact⟨cs,h,_,⟨fx,_,hx,⟨_,b,⟨g,pre,c1,c2,post,f2,rfl,by rw[hB];simp,hc,hcl,hA,rfl⟩,hs,rfl⟩,rfl⟩,hp.nodup_iff.1 hn,fun g' hg'=>hb g' (hp.mem_iff.2 hg')⟩
theorem Hp.ofRst (H:Hp N U (rst d v l j cs::rs)):Hp N U (rest d v l (j+1)::rs):=
 H.conv fun fp h=>by
  obtain⟨g,pre,c1,c2,post,f2,h1,h2,h3,h5,h4,h6⟩:=h
  exact .inr ⟨g,pre,c1++cs,c2,post,f2,h1,by rw[h2];simp,by rw[Zah,h3,h5,Nat.add_mul,Nat.one_mul],h4,h6⟩
theorem Hx.rst_rd {h:List Item} (H:Hx N U h) (i:Nat) (hi:h[i]? =some (.th (rst d v l j cs))) (hj:j<l.length):iadG d.z v (some j)=some (atz d.z v j)/\(∀ k,fadG k (atz d.z v j)=some (fld k (atz d.z v j)))/\(∀ k m,fadG k (fld m (atz d.z v j))=some (fld (m+k) (atz d.z v j)))/\ldG true d.z U (atz d.z v j)=some (.agg cs)/\∀ k n a,k+n<=d.z->ldG a n U (fld k (atz d.z v j))=(seg cs k n).bind (mkv a):=by
 obtain⟨fp,hP,_⟩:=(H.hp.pick i (at_t hi)).turn
 obtain⟨g,pre,c1,c2,post,f2,rfl,hB,hc,hcl,hA,rfl⟩:=hP
 have hr:rdB U g=some (pre++(c1++(cs++c2.flatten))++post):=by unfold rdB;rw[Co.1 hB];rfl
 have key:∀ k n a,k+n<=d.z->ldG a n U (.ptr g (pre.length+j*d.z+k))=(seg cs k n).bind (mkv a):=by
  intro k n a hk
  simp only[ldG]
  rw[hr,Zaf]
  congr 1
  have e:pre++(c1++(cs++c2.flatten))++post=(pre++c1)++(cs++(c2.flatten++post)):=by simp
  rw[e]
  unfold seg
  rw[if_pos (by simp only[Zah];omega),if_pos (by omega)]
  congr 1
  rw[show pre.length+j*d.z+k=(pre++c1).length+k by rw[Zah,hc],<-Zb3,Zb4,Zbe (by omega),Zaw (by rw[Zbm];omega)]
 refine⟨by simp only[iadG];rw[if_pos hj];rfl,fun k=>rfl,fun k m=>by simp only[atz,fld,fadG];rw[Nat.add_assoc],?_,fun k n a hk=>key k n a hk⟩
 have:=key 0 d.z true (by omega)
 rw[Zb1] at this
 simp only[atz]
 rw[this]
 have e:seg cs 0 d.z=some cs:=by unfold seg;rw[if_pos (by omega),Zby,Zay (by omega)]
 rw[e];rfl
end
def A4l:Fn1:=⟨9,[.t 4],(rg [oV 4 kf] (rg [oM 5 0,oM 6 1,oD 7 163 5 6,oE 8 .eql 7 0,oM 4 8] .ret))⟩
theorem Aei:A8 Tryz.prog 202=some A4l:=by kernel_rfl
def A4m:Fn1:=⟨12,[.t 4],(rg [o 4 (.mov (.k s0))] (rg [oM 5 1,oM 6 0,oM 7 1,oN 8 7,oD 9 163 6 8,oI 10 1 5 9,oL 11 10,oM 4 11] .ret))⟩
theorem Aej:A8 Tryz.prog 295=some A4m:=by kernel_rfl
def Rp:Fn1:=⟨12,[.t 4],(rg [oV 4 (ki 0)] (rg [oM 5 1,oM 6 0,oM 7 1,oN 8 7,oD 9 163 6 8,oI 10 1 5 9,oL 11 10,oM 4 11] .ret))⟩
theorem A4n:A8 Tryz.prog 331=some Rp:=by kernel_rfl
def A8r:Fn1:=⟨6,[.t 2],(rg [o 2 (.mov (.k s0))] (rg [oM 3 0,o 4 (.lit 1 3 [s0,s0,s0] [(0,1,(.k (.str ⟨#[97]⟩))),(1,1,(.k (.str ⟨#[98]⟩))),(2,1,(.k (.str ⟨#[116,97,108,108,121]⟩)))]),oD 5 295 3 4,oM 2 5] .ret))⟩
theorem Ahs:A8 Tryz.prog 293=some A8r:=by kernel_rfl
def A8s:Fn1:=⟨6,[.t 2],(rg [o 2 (.mov (.k s0))] (rg [oM 3 0,o 4 (.lit 1 3 [s0,s0,s0] [(0,1,(.k (.str ⟨#[120]⟩))),(1,1,(.k (.str ⟨#[121]⟩))),(2,1,(.k (.str ⟨#[122,111,111]⟩)))]),oD 5 295 3 4,oM 2 5] .ret))⟩
theorem Aht:A8 Tryz.prog 201=some A8s:=by kernel_rfl
def A8t:Fn1:=⟨9,[.c 2 true 2],(rg [o 2 (.new [z0,z0])] (rg [oM 3 0,o 4 (.call 163 [(.t 3),(ki 3)]),oM 5 0,o 6 (.call 163 [(.t 5),(ki 5)]),o 7 (.bin .add (ki 1) (.t 6)),o 8 (.build [z0,z0] [(0,1,(.t 4)),(1,1,(.t 7))]),oS 2 2 8] .ret))⟩
theorem Ahu:A8 Tryz.prog 347=some A8t:=by kernel_rfl
def A8u:Fn1:=⟨23,[.t 2],(rg [o 2 (.mov (.k .nilS))] (rg [oM 5 0,o 6 (.call 163 [(.t 5),(ki 12)]),oM 3 6] (rg [oM 7 0,oC 8 344 7,oM 4 8] (.seq (rg [oM 9 3] (.blk 0 (rg [oE 11 .eql 9 0,oM 10 11] (cn 10 (.reg [oM 12 4,o 13 (.lit 1 1 [z0] [(0,1,(ki 1))]),o 14 (.app 1 8 [z0] (.t 12) (.t 13)),oM 4 14]) (rg [oE 16 .eql 9 1,oM 15 16] (oG 15 (.reg [oM 17 4,oM 18 0,o 19 (.lit 1 3 [z0,z0,z0] [(0,1,(ki (-1))),(1,1,(ki 1000)),(2,1,(ki 1001))]),oD 20 331 18 19,o 21 (.iad 1 (.t 17) (ki 0)),oS 1 21 20]))))))) (rg [oM 22 4,oM 2 22] .ret)))))⟩
theorem Ahv:A8 Tryz.prog 274=some A8u:=by kernel_rfl
def A4o:Fn1:=⟨30,[.c 2 true 5],(rg [o 2 (.new [z0,s0,s0,z0,z0])] (rg [oM 4 0,o 5 (.lit 1 9 [z0,z0,z0,z0,z0,z0,z0,z0,z0] [(0,1,(ki 1)),(1,1,(ki 2)),(2,1,(ki 3)),(3,1,(ki 4)),(4,1,(ki 5)),(5,1,(ki 6)),(6,1,(ki 6)),(7,1,(ki 6)),(8,1,(ki 7))]),oD 6 331 4 5,oM 7 0,oC 8 293 7,o 9 (.build [z0,s0,s0,z0,z0] [(0,1,(.t 6)),(1,1,(.t 8))]),o 3 (.new [z0,s0,s0,z0,z0]),oS 5 3 9] (.seq (rg [oF 10 0 3,oL 11 10,oC 12 332 11] (oG 12 (.reg [oM 13 0,oC 14 201 13,oF 15 2 3,oS 1 15 14]))) (.seq (rg [oF 16 0 3,oL 17 16,oC 18 333 17] (oG 18 (.reg [oM 19 0,o 20 (.lit 1 4 [z0,z0,z0,z0] [(0,1,(ki 0)),(1,1,(ki 1)),(2,1,(ki 7)),(3,1,(ki 999999))]),oD 21 331 19 20,oF 22 3 3,oS 1 22 21]))) (.seq (rg [oF 23 0 3,oL 24 23,oE 25 .geq 24 6] (oG 25 (.reg [oM 26 0,o 27 (.call 163 [(.t 26),(ki 3)]),oF 28 4 3,oS 1 28 27]))) (rg [oW 29 5 3,oS 5 2 29] .ret))))))⟩
theorem Aek:A8 Tryz.prog 269=some A4o:=by kernel_rfl
section
variable {P:Program} {D:Bool} {N0 N U U':St} {h:List Item} {k:Kx} {f:Nat} {args:List GV} {v:GV}
theorem by_k (R:Ret P f args U v U') (H:Hx N U' h) (kk:k v h U'):A22 P N false U f args k:=by_m R H kk
theorem Av:∀ {h:List Item} {n:Nat},frX N0 h n->N0.length<=n
 |[],_,h=>h
 | .box _ _ _::h,_,hf=>Av (h:=h) hf.2
 | .th _::h,_,hf=>Av (h:=h) hf
theorem Hx.tl {x:Item} (H:Hx N U (x::h)):Hx N U h:=Hp.drop1 H
end
structure Dr (N0:St) (v:GV) (bs:List Int):Prop where
 hv:RS pB.kd N0 v bs
 hl:bs.length<=1099511627776
abbrev cuI (c v:GV) (bs:List Int):Item:=.th (crs c v bs.length)
section
variable {N0 N:St} {h:List Item} {c v:GV} {bs:List Int}
theorem Bn (H:Hx N0 N h) (k:Nat) (hk:h[k]? =some (cuI c v bs)) (D:Dr N0 v bs) (n:Int) (hn:0<n) (hn2:n<=4611686018427387904):∃(x:Nat) (U:St),(x:Int)<n/\Ret Tryz.prog 163 [c,gi n] N (gi x) U/\Hx N0 U h:=by
 obtain⟨r,U,R,x,rfl,h1,_,h2,H'⟩:=Lg (N0:=N0) H (at_t hk) D.hv D.hl n hn2
 obtain⟨y,rfl⟩:∃ y:Nat,x=y:=⟨x.toNat,by omega⟩
 exact⟨y,U,h2 hn,R,H'⟩
theorem Aph (H:Hx N0 N h) (k:Nat) (hk:h[k]? =some (cuI c v bs)) (D:Dr N0 v bs) (n:Int) (hn2:n<=4611686018427387904):∃(x:Nat) (U:St),(0<n->(x:Int)<n)/\Ret Tryz.prog 163 [c,gi n] N (gi x) U/\Hx N0 U h:=by
 obtain⟨r,U,R,x,rfl,h1,_,h2,H'⟩:=Lg (N0:=N0) H (at_t hk) D.hv D.hl n hn2
 obtain⟨y,rfl⟩:∃ y:Nat,x=y:=⟨x.toNat,by omega⟩
 exact⟨y,U,h2,R,H'⟩
theorem I4 (H:Hx N0 N h) (k:Nat) (hk:h[k]? =some (cuI c v bs)) (D:Dr N0 v bs) (n:Int) (hn2:n<=4611686018427387904):∃(b:Bool) (U:St),Ret Tryz.prog 202 [c,gi n] N (.bool b) U/\Hx N0 U h:=by
 have key:∃ w U,Ret Tryz.prog 202 [c,gi n] N w U/\∃ b,w= .bool b/\Hx N0 U h:=by
  refine Bg Aei (Z0z rfl) H ?_
  simp only[go_sem,A4l]
  obtain⟨x,U1,hx,R1,H1⟩:=Aph H k hk D n hn2
  refine by_k R1 H1 ?_
  simp +contextual only[go_sem]
  exact fun _=>⟨_,rfl,_,rfl⟩
 obtain⟨w,U,R,b,rfl,H'⟩:=key
 exact⟨b,U,R,H'⟩
theorem Vr (H:Hx N0 N h) (k:Nat) (hk:h[k]? =some (cuI c v bs)) (D:Dr N0 v bs) {u:GV} {l:List ByteArray} (hu:∀ U',Hx N0 U' h->RS pS.kd U' u l) (hl:0<l.length) (hl2:l.length<=1000):∃(s:ByteArray) (U:St),s∈l/\Ret Tryz.prog 295 [c,u] N (.str s) U/\Hx N0 U h:=by
 have key:∃ w U,Ret Tryz.prog 295 [c,u] N w U/\∃ s,w= .str s/\s∈l/\Hx N0 U h:=by
  refine Bg Aej (Z0z rfl) H ?_
  have hn:=(hu N H).len
  simp only[go_sem,A4m,hn]
  obtain⟨x,U1,hx,R1,H1⟩:=Bn H k hk D l.length (by omega) (by omega)
  refine by_k R1 H1 ?_
  have L:=Aqk (hu U1 H1) (i:=x) (by omega)
  have L2:=F8 H1 L.2
  simp +contextual only[go_sem,A0,L.1,L2]
  exact fun _=>⟨_,rfl,_,rfl,Zbd _⟩
 obtain⟨w,U,R,s,rfl,hs,H'⟩:=key
 exact⟨s,U,hs,R,H'⟩
theorem D9 (H:Hx N0 N h) (k:Nat) (hk:h[k]? =some (cuI c v bs)) (D:Dr N0 v bs) {u:GV} {l:List Int} (hu:∀ U',Hx N0 U' h->RS pI.kd U' u l) (hl:0<l.length) (hl2:l.length<=1000):∃(s:Int) (U:St),s∈l/\Ret Tryz.prog 331 [c,u] N (gi s) U/\Hx N0 U h:=by
 have key:∃ w U,Ret Tryz.prog 331 [c,u] N w U/\∃ s,w=gi s/\s∈l/\Hx N0 U h:=by
  refine Bg A4n (Z0z rfl) H ?_
  have hn:=(hu N H).len
  simp only[go_sem,Rp,hn]
  obtain⟨x,U1,hx,R1,H1⟩:=Bn H k hk D l.length (by omega) (by omega)
  refine by_k R1 H1 ?_
  have L:=Cw (hu U1 H1) (i:=x) (by omega)
  have L2:=F8 H1 L.2
  simp +contextual only[go_sem,A0,L.1,L2]
  exact fun _=>⟨_,rfl,_,rfl,Zbd _⟩
 obtain⟨w,U,R,s,rfl,hs,H'⟩:=key
 exact⟨s,U,hs,R,H'⟩
theorem litS {n:Nat} {l:List ByteArray} {cs:List GV} (e:cs=pS.cells l) (hl:0<l.length):∀ U,Hx N0 U (.box 1 n cs::h)->RS pS.kd U (.sl n 0 l.length) l:=fun U H=>(Hp.toRow (p:=pS) H.hp 0 (by rw[e];rfl) l rfl rfl _ rfl).sl 0 rfl
theorem litI {n:Nat} {l:List Int} {cs:List GV} (e:cs=pI.cells l) (hl:0<l.length):∀ U,Hx N0 U (.box 1 n cs::h)->RS pI.kd U (.sl n 0 l.length) l:=fun U H=>(Hp.toRow (p:=pI) H.hp 0 (by rw[e];rfl) l rfl rfl _ rfl).sl 0 rfl
def Akv:List ByteArray:=[⟨#[97]⟩,⟨#[98]⟩,⟨#[116,97,108,108,121]⟩]
def Akw:List ByteArray:=[⟨#[120]⟩,⟨#[121]⟩,⟨#[122,111,111]⟩]
theorem A19 (H:Hx N0 N h) (k:Nat) (hk:h[k]? =some (cuI c v bs)) (D:Dr N0 v bs):∃(s:ByteArray) (U:St),s∈Akv/\Ret Tryz.prog 293 [c] N (.str s) U/\Hx N0 U h:=by
 have key:∃ w U,Ret Tryz.prog 293 [c] N w U/\∃ s,w= .str s/\s∈Akv/\Hx N0 U h:=by
  refine Bg Ahs (Z0z rfl) H ?_
  simp only[go_sem,A8r]
  intro n1 f1 U1 H1
  have g1:=Av (by first|exact f1|exact f1.2|exact f1.2.2|exact f1.2.2.2:frX N0 h n1)
  obtain⟨s,U2,hs,R2,H2⟩:=Vr H1 (k+1) hk D (litS (l:=Akv) rfl (by decide)) (by decide) (by decide)
  refine by_k R2 H2 ?_
  simp only[go_sem]
  exact fun _=>⟨_,rfl,_,rfl,hs,H2.tl⟩
 obtain⟨w,U,R,s,rfl,hs,H'⟩:=key
 exact⟨s,U,hs,R,H'⟩
theorem J5 (H:Hx N0 N h) (k:Nat) (hk:h[k]? =some (cuI c v bs)) (D:Dr N0 v bs):∃(s:ByteArray) (U:St),s∈Akw/\Ret Tryz.prog 201 [c] N (.str s) U/\Hx N0 U h:=by
 have key:∃ w U,Ret Tryz.prog 201 [c] N w U/\∃ s,w= .str s/\s∈Akw/\Hx N0 U h:=by
  refine Bg Aht (Z0z rfl) H ?_
  simp only[go_sem,A8s]
  intro n1 f1 U1 H1
  have g1:=Av (by first|exact f1|exact f1.2|exact f1.2.2|exact f1.2.2.2:frX N0 h n1)
  obtain⟨s,U2,hs,R2,H2⟩:=Vr H1 (k+1) hk D (litS (l:=Akw) rfl (by decide)) (by decide) (by decide)
  refine by_k R2 H2 ?_
  simp only[go_sem]
  exact fun _=>⟨_,rfl,_,rfl,hs,H2.tl⟩
 obtain⟨w,U,R,s,rfl,hs,H'⟩:=key
 exact⟨s,U,hs,R,H'⟩
theorem A1a (H:Hx N0 N h) (k:Nat) (hk:h[k]? =some (cuI c v bs)) (D:Dr N0 v bs):∃(d:Dot) (U:St),(0<=d.rep/\d.rep<3/\1<=d.seq/\d.seq<6)/\Ret Tryz.prog 347 [c] N (.agg [gi d.rep,gi d.seq]) U/\Hx N0 U h:=by
 have key:∃ w U,Ret Tryz.prog 347 [c] N w U/\∃ d:Dot,w= .agg [gi d.rep,gi d.seq]/\(0<=d.rep/\d.rep<3/\1<=d.seq/\d.seq<6)/\Hx N0 U h:=by
  refine Bg Ahu (Z0z rfl) H ?_
  simp only[go_sem,A8t]
  intro n1 f1 U1 H1
  have g1:=Av (by first|exact f1|exact f1.2|exact f1.2.2|exact f1.2.2.2:frX N0 h n1)
  obtain⟨x,U2,hx,R2,H2⟩:=Bn H1 (k+1) hk D 3 (by decide) (by decide)
  refine by_k R2 H2 ?_
  simp only[go_sem]
  obtain⟨y,U3,hy,R3,H3⟩:=Bn H2 (k+1) hk D 5 (by decide) (by decide)
  refine by_k R3 H3 ?_
  simp +contextual (disch:=omega) only[go_sem]
  intro U4 H4
  exact⟨_,rfl,⟨x,1+y⟩,rfl,⟨by simp,hx,by show(1:Int)<=1+(y:Int);omega,by show 1+(y:Int)<6;omega⟩,H4.tl⟩
 obtain⟨w,U,R,d,rfl,hd,H'⟩:=key
 exact⟨d,U,hd,R,H'⟩
theorem Aqu (H:Hx N0 N h) (k:Nat) (hk:h[k]? =some (cuI c v bs)) (D:Dr N0 v bs):∃(r:GV) (l:List Int) (U:St),low5 l/\Ret Tryz.prog 344 [c] N r U/\Hx N0 U (.th (ow pI.kd r l)::h):=by
 obtain⟨r,U,R,l,hl,H'⟩:=Aa3 (N0:=N0) H (at_t hk) D.hv D.hl
 exact⟨r,l,U,hl,R,H'⟩
theorem Ps (H:Hx N0 N h) (k:Nat) (hk:h[k]? =some (cuI c v bs)) (D:Dr N0 v bs):∃(r:GV) (l:List Int) (U:St),(l.length<=4/\3<=l.length)/\Ret Tryz.prog 274 [c] N r U/\Hx N0 U (.th (ow pI.kd r l)::h):=by
 have key:∃ w U,Ret Tryz.prog 274 [c] N w U/\∃ l:List Int,(l.length<=4/\3<=l.length)/\Hx N0 U (.th (ow pI.kd w l)::h):=by
  refine Bg Ahv (Z0z rfl) H ?_
  simp only[go_sem,A8u]
  obtain⟨x,U1,hx,R1,H1⟩:=Bn H k hk D 12 (by decide) (by decide)
  refine by_k R1 H1 ?_
  simp only[go_sem]
  obtain⟨r,l,U2,hl,R2,H2⟩:=Aqu H1 k hk D
  have hl3:=hl.1
  refine by_m R2 H2 ?_
  cases hb0:((x:Int)==0) with
  |true=>
   simp only[go_sem,hb0]
   intro n3 f3 U3 H3
   have g3:=Av (by first|exact f3|exact f3.2|exact f3.2.2|exact f3.2.2.2:frX N0 h n3)
   refine E8 (p:=pI) H3 1 rfl 1 Be (by decide) (by omega) fun v' U4 H4=> ?_
   simp only[go_sem]
   exact fun _=>⟨_,rfl,_,⟨by simp[hl3],by simp[hl3]⟩,H4.tl⟩
  |false=>
   cases hb1:((x:Int)==1) with
   |true=>
    simp only[go_sem,hb0,hb1]
    intro n3 f3 U3 H3
    have g3:=Av (by first|exact f3|exact f3.2|exact f3.2.2|exact f3.2.2.2:frX N0 h n3)
    obtain⟨y,U4,hy,R4,H4⟩:=D9 H3 (k+2) hk D (litI (l:=[-1,1000,1001]) rfl (by decide)) (by decide) (by decide)
    refine by_k R4 H4 ?_
    have hj:0<l.length:=by omega
    have L:=(Cw (H4.hp.sl 1 rfl) hj).1
    have n0:Bu (some (GV.int .i64 0))=some 0:=rfl
    simp only[go_sem,n0,L]
    refine Rn (p:=pI) H4 1 rfl hj (x:=gi y) y rfl rfl (by decide) fun U5 H5=> ?_
    simp only[go_sem]
    exact fun _=>⟨_,rfl,_,⟨by simp[hl3],by simp[hl3]⟩,H5.tl⟩
   |false=>
    simp only[go_sem,hb0,hb1]
    exact fun _=>⟨_,rfl,_,⟨by omega,by omega⟩,H2⟩
 obtain⟨w,U,R,l,hl,H'⟩:=key
 exact⟨w,l,U,hl,R,H'⟩
structure EdD (e:Edit):Prop where
 kind:1<=e.kind/\e.kind<=7
 obj:e.obj∈Akv
 key:if A6w e.kind then e.key∈Akw else e.key=noS
 val:e.val=0∨(Rd e.kind=true/\e.val∈[0,1,7,999999])
 place:0<=e.place/\e.place<=2/\(e.kind<6->e.place=0)
theorem Ane {s:ByteArray} (h:s∈Akv):Ea s=true/\s.size<=5:=by
 simp only[Akv,Zau,Zbn,or_false] at h
 rcases h with rfl|rfl|rfl<;>decide
theorem Ahw {s:ByteArray} (h:s∈Akw):Ea s=true/\s.size<=3:=by
 simp only[Akw,Zau,Zbn,or_false] at h
 rcases h with rfl|rfl|rfl<;>decide
theorem EdD.size {e:Edit} (h:EdD e):e.obj.size<=5/\e.key.size<=3:=by
 refine⟨(Ane h.obj).2,?_⟩
 have:=h.key
 split at this
 ·exact(Ahw this).2
 ·rw[this];decide
theorem Jq (H:Hx N0 N h) (k:Nat) (hk:h[k]? =some (cuI c v bs)) (D:Dr N0 v bs):∃(e:Edit) (U:St),EdD e/\Ret Tryz.prog 269 [c] N (.agg (edV e)) U/\Hx N0 U h:=by
 have key:∃ w U,Ret Tryz.prog 269 [c] N w U/\∃ e:Edit,w= .agg (edV e)/\EdD e/\Hx N0 U h:=by
  refine Bg Aek (Z0z rfl) H ?_
  simp only[go_sem,A4o]
  intro n1 f1 U1 H1 n2 f2 U2 H2
  have g1:=Av (by first|exact f1|exact f1.2|exact f1.2.2|exact f1.2.2.2:frX N0 h n1)
  have g2:=Av (by first|exact f2|exact f2.2|exact f2.2.2|exact f2.2.2.2:frX N0 h n2)
  obtain⟨kd,U3,hkd,R3,H3⟩:=D9 H2 (k+2) hk D (litI (l:=[1,2,3,4,5,6,6,6,7]) rfl (by decide)) (by decide) (by decide)
  have hkd:1<=kd/\kd<=7:=by
   simp only[Zau,Zbn,or_false] at hkd
   omega
  refine by_k R3 H3 ?_
  simp only[go_sem]
  obtain⟨ob,U4,hob,R4,H4⟩:=A19 H3 (k+2) hk D
  refine by_k R4 H4 ?_
  simp +contextual (disch:=omega) only[go_sem]
  intro n5 f5 U5 H5 U6 H6
  have g5:=Av (by first|exact f5|exact f5.2|exact f5.2.2|exact f5.2.2.2:frX N0 h n5)
  refine by_r H6 (Jz _ kd) ?_
  cases hk1:A6w kd with
  |true=>
   cases hv1:Rd kd with
   |true=>
    cases hp1:decide (6<=kd) with
    |true=>
     simp only[go_sem,hk1,hv1,hp1]
     obtain⟨ky,U7,hky,R7,H7⟩:=J5 H6 (k+3) hk D
     refine by_k R7 H7 ?_
     simp(disch:=omega) only[go_sem,hk1,hv1,hp1]
     intro U8 H8
     refine by_r H8 (Cq _ kd) ?_
     simp only[go_sem,hk1,hv1,hp1]
     intro n9 f9 U9 H9
     have g9:=Av (by first|exact f9|exact f9.2|exact f9.2.2|exact f9.2.2.2:frX N0 h n9)
     obtain⟨vl,U10,hvl,R10,H10⟩:=D9 H9 (k+4) hk D (litI (l:=[0,1,7,999999]) rfl (by decide)) (by decide) (by decide)
     refine by_k R10 H10 ?_
     simp(disch:=omega) only[go_sem,hk1,hv1,hp1]
     intro U11 H11
     try simp only[go_sem,hk1,hv1,hp1]
     obtain⟨pl,U12,hpl,R12,H12⟩:=Bn H11 (k+4) hk D 3 (by decide) (by decide)
     refine by_k R12 H12 ?_
     simp +contextual (disch:=omega) only[go_sem,hk1,hv1,hp1]
     intro U13 H13
     intro U14 H14
     exact⟨_,rfl,⟨kd,ob,ky,vl,pl⟩,rfl,⟨hkd,hob,by simp only[hk1];exact hky,.inr ⟨hv1,hvl⟩,by simp only[decide_eq_true_eq,decide_eq_false_iff_not] at hp1;refine⟨by simp,by simp;try omega,fun h=> ?_⟩;simp only at h;first|rfl|omega⟩,H14.tl.tl.tl.tl⟩
    |false=>
     simp only[go_sem,hk1,hv1,hp1]
     obtain⟨ky,U7,hky,R7,H7⟩:=J5 H6 (k+3) hk D
     refine by_k R7 H7 ?_
     simp(disch:=omega) only[go_sem,hk1,hv1,hp1]
     intro U8 H8
     refine by_r H8 (Cq _ kd) ?_
     simp only[go_sem,hk1,hv1,hp1]
     intro n9 f9 U9 H9
     have g9:=Av (by first|exact f9|exact f9.2|exact f9.2.2|exact f9.2.2.2:frX N0 h n9)
     obtain⟨vl,U10,hvl,R10,H10⟩:=D9 H9 (k+4) hk D (litI (l:=[0,1,7,999999]) rfl (by decide)) (by decide) (by decide)
     refine by_k R10 H10 ?_
     simp +contextual (disch:=omega) only[go_sem,hk1,hv1,hp1]
     intro U11 H11
     try simp only[go_sem,hk1,hv1,hp1]
     intro U14 H14
     exact⟨_,rfl,⟨kd,ob,ky,vl,0⟩,rfl,⟨hkd,hob,by simp only[hk1];exact hky,.inr ⟨hv1,hvl⟩,by simp only[decide_eq_true_eq,decide_eq_false_iff_not] at hp1;refine⟨by simp,by simp;try omega,fun h=> ?_⟩;simp only at h;first|rfl|omega⟩,H14.tl.tl.tl.tl⟩
   |false=>
    cases hp1:decide (6<=kd) with
    |true=>
     simp only[go_sem,hk1,hv1,hp1]
     obtain⟨ky,U7,hky,R7,H7⟩:=J5 H6 (k+3) hk D
     refine by_k R7 H7 ?_
     simp(disch:=omega) only[go_sem,hk1,hv1,hp1]
     intro U8 H8
     refine by_r H8 (Cq _ kd) ?_
     simp(disch:=omega) only[go_sem,hk1,hv1,hp1]
     obtain⟨pl,U12,hpl,R12,H12⟩:=Bn H8 (k+3) hk D 3 (by decide) (by decide)
     refine by_k R12 H12 ?_
     simp +contextual (disch:=omega) only[go_sem,hk1,hv1,hp1]
     intro U13 H13
     intro U14 H14
     exact⟨_,rfl,⟨kd,ob,ky,0,pl⟩,rfl,⟨hkd,hob,by simp only[hk1];exact hky,.inl rfl,by simp only[decide_eq_true_eq,decide_eq_false_iff_not] at hp1;refine⟨by simp,by simp;try omega,fun h=> ?_⟩;simp only at h;first|rfl|omega⟩,H14.tl.tl.tl⟩
    |false=>
     simp only[go_sem,hk1,hv1,hp1]
     obtain⟨ky,U7,hky,R7,H7⟩:=J5 H6 (k+3) hk D
     refine by_k R7 H7 ?_
     simp(disch:=omega) only[go_sem,hk1,hv1,hp1]
     intro U8 H8
     refine by_r H8 (Cq _ kd) ?_
     simp +contextual (disch:=omega) only[go_sem,hk1,hv1,hp1]
     intro U14 H14
     exact⟨_,rfl,⟨kd,ob,ky,0,0⟩,rfl,⟨hkd,hob,by simp only[hk1];exact hky,.inl rfl,by simp only[decide_eq_true_eq,decide_eq_false_iff_not] at hp1;refine⟨by simp,by simp;try omega,fun h=> ?_⟩;simp only at h;first|rfl|omega⟩,H14.tl.tl.tl⟩
  |false=>
   cases hv1:Rd kd with
   |true=>
    cases hp1:decide (6<=kd) with
    |true=>
     simp(disch:=omega) only[go_sem,hk1,hv1,hp1]
     refine by_r H6 (Cq _ kd) ?_
     simp only[go_sem,hk1,hv1,hp1]
     intro n9 f9 U9 H9
     have g9:=Av (by first|exact f9|exact f9.2|exact f9.2.2|exact f9.2.2.2:frX N0 h n9)
     obtain⟨vl,U10,hvl,R10,H10⟩:=D9 H9 (k+4) hk D (litI (l:=[0,1,7,999999]) rfl (by decide)) (by decide) (by decide)
     refine by_k R10 H10 ?_
     simp(disch:=omega) only[go_sem,hk1,hv1,hp1]
     intro U11 H11
     try simp only[go_sem,hk1,hv1,hp1]
     obtain⟨pl,U12,hpl,R12,H12⟩:=Bn H11 (k+4) hk D 3 (by decide) (by decide)
     refine by_k R12 H12 ?_
     simp +contextual (disch:=omega) only[go_sem,hk1,hv1,hp1]
     intro U13 H13
     intro U14 H14
     exact⟨_,rfl,⟨kd,ob,noS,vl,pl⟩,rfl,⟨hkd,hob,by simp only[hk1];simp,.inr ⟨hv1,hvl⟩,by simp only[decide_eq_true_eq,decide_eq_false_iff_not] at hp1;refine⟨by simp,by simp;try omega,fun h=> ?_⟩;simp only at h;first|rfl|omega⟩,H14.tl.tl.tl.tl⟩
    |false=>
     simp(disch:=omega) only[go_sem,hk1,hv1,hp1]
     refine by_r H6 (Cq _ kd) ?_
     simp only[go_sem,hk1,hv1,hp1]
     intro n9 f9 U9 H9
     have g9:=Av (by first|exact f9|exact f9.2|exact f9.2.2|exact f9.2.2.2:frX N0 h n9)
     obtain⟨vl,U10,hvl,R10,H10⟩:=D9 H9 (k+4) hk D (litI (l:=[0,1,7,999999]) rfl (by decide)) (by decide) (by decide)
     refine by_k R10 H10 ?_
     simp +contextual (disch:=omega) only[go_sem,hk1,hv1,hp1]
     intro U11 H11
     try simp only[go_sem,hk1,hv1,hp1]
     intro U14 H14
     exact⟨_,rfl,⟨kd,ob,noS,vl,0⟩,rfl,⟨hkd,hob,by simp only[hk1];simp,.inr ⟨hv1,hvl⟩,by simp only[decide_eq_true_eq,decide_eq_false_iff_not] at hp1;refine⟨by simp,by simp;try omega,fun h=> ?_⟩;simp only at h;first|rfl|omega⟩,H14.tl.tl.tl.tl⟩
   |false=>
    cases hp1:decide (6<=kd) with
    |true=>
     simp(disch:=omega) only[go_sem,hk1,hv1,hp1]
     refine by_r H6 (Cq _ kd) ?_
     simp(disch:=omega) only[go_sem,hk1,hv1,hp1]
     obtain⟨pl,U12,hpl,R12,H12⟩:=Bn H6 (k+3) hk D 3 (by decide) (by decide)
     refine by_k R12 H12 ?_
     simp +contextual (disch:=omega) only[go_sem,hk1,hv1,hp1]
     intro U13 H13
     intro U14 H14
     exact⟨_,rfl,⟨kd,ob,noS,0,pl⟩,rfl,⟨hkd,hob,by simp only[hk1];simp,.inl rfl,by simp only[decide_eq_true_eq,decide_eq_false_iff_not] at hp1;refine⟨by simp,by simp;try omega,fun h=> ?_⟩;simp only at h;first|rfl|omega⟩,H14.tl.tl.tl⟩
    |false=>
     simp(disch:=omega) only[go_sem,hk1,hv1,hp1]
     refine by_r H6 (Cq _ kd) ?_
     simp +contextual (disch:=omega) only[go_sem,hk1,hv1,hp1]
     intro U14 H14
     exact⟨_,rfl,⟨kd,ob,noS,0,0⟩,rfl,⟨hkd,hob,by simp only[hk1];simp,.inl rfl,by simp only[decide_eq_true_eq,decide_eq_false_iff_not] at hp1;refine⟨by simp,by simp;try omega,fun h=> ?_⟩;simp only at h;first|rfl|omega⟩,H14.tl.tl.tl⟩
 obtain⟨w,U,R,e,rfl,he,H'⟩:=key
 exact⟨e,U,he,R,H'⟩
end
theorem M9 {Y:Type} (f:Y->Nat) {l k:List Y} (h:l.Perm k):sumL f l=sumL f k:=by
 unfold sumL
 exact(h.map f).sum_nat
theorem Vs {Y:Type} (f:Y->Nat) (lt:Y->Y->Bool) (x:Y) (l:List Y):sumL f (insB lt x l)=sumL f l+f x:=by
 rw[M9 f (Ly lt x l)]
 simp[sumL];omega
theorem Api {Y:Type} (f:Y->Nat) {l:List Y} {k:Nat} {y:Y} (hk:k<l.length) (hf:f y=f l[k]):sumL f (l.set k y)=sumL f l:=by
 unfold sumL
 rw[List.map_set,hf]
 congr 1
 have:f l[k]=(l.map f)[k]'(by simpa using hk):=by simp
 rw[this,List.set_getElem_self]
theorem A4p {Y:Type} (f:Y->Nat) {l:List Y} {k:Nat} {g:Y->Y} (hf:∀ x,f (g x)=f x):sumL f (l.modify k g)=sumL f l:=by
 by_cases hk:k<l.length
 ·rw[Js g hk,Api f hk (hf _)]
 ·rw[List.modify_eq_self (by omega)]
theorem Gn {Y:Type} (f:Y->Nat) (p:Y->Bool):∀ l:List Y,sumL f (l.filter p)<=sumL f l
 |[]=>Za3 _
 |x::l=>by
  have:=Gn f p l
  rw[Zbk]
  split
  ·simp only[sumL,Zbf,Zb6] at *;omega
  ·simp only[sumL,Zbf,Zb6] at *;omega
theorem Apj (s:State) (a:Act):Ad (Jm s a)<=Ad s+a.obj.size+a.key.size+1:=by
 have hf:=fun(b:Bool)=>Gn G6 (Lz b a.obj a.key a.knew) s.lives
 have hg:=fun(b:Bool)=>Za0 (Lz b a.obj a.key a.knew) s.lives
 have h0:=hf false
 have h1:=hf true
 have g0:=hg false
 have g1:=hg true
 unfold Jm Da
 split
 ·unfold Eb
  split
  ·simp only[Ad,Zao,Zb0]
   rw[A4p Bl (g:=fun t=>{t with sum:=addM t.sum a.val}) (fun x=>rfl)]
   omega
  ·simp only[Ad,Zao,Ka,Vs]
   simp only[Bl];omega
 split
 ·simp only[Ad,Zao,Hy,Ka,Vs,G6];omega
 split
 ·simp only[Ad,Zao];omega
 split
 ·simp only[Ad,Zao,Hy,Ka,Vs]
  simp only[show ∀ m:Bool,∀ v:Int,G6 ⟨m,a.obj,a.key,v,a.dot⟩=a.obj.size+a.key.size from fun _ _=>rfl]
  omega
 split
 ·simp only[Ad,Zao];omega
 split
 ·simp only[Ad,Zao,Kc,Ka,Vs,Ht];omega
 ·unfold J1
  split
  ·simp only[Ad,Zao,Zb0]
   rw[A4p Ht (g:=fun c=>{c with gone:=true}) (fun x=>rfl)]
   omega
  ·simp only[Ad,Zao];omega
theorem Apk (s:State) (a:Act):Ad (Bi s a).1<=Ad s+a.obj.size+a.key.size+1:=by
 have:=Apj s a
 unfold Bi
 repeat' split
 all_goals first|exact this|(simp only[];omega)
end Go.Proofs.YtbeoiejnogdkpaaGreat.Sy
