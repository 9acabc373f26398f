/- Texts of this proof, one behind the other. -/
import Derived.Test.YtbeoiejnogdkpaaGreatBPWhoseTold2
import Derived.Test.YtbeoiejnogdkpaaGreatProg
import Derived.KernelRfl
set_option linter.unusedSimpArgs false
set_option linter.unusedVariables false
set_option maxRecDepth 4000
set_option maxHeartbeats 4000000
open Bool renaming and_eq_true→Zaa,not_false→Zap,false_and→Zax,or_eq_true→Zbb,not_true→Zbl,and_true→Zbu,true_bne→Zbv,true_or→Zb0,false_xor→Zb9,false_bne→Zca,and_false→Zcb,false_or→Zcf,true_and→Zcl
open List renaming mem_cons_of_mem→Zab,cons_append→Zac,mem_cons_self→Zae,nil_append→Zaf,length_append→Zag,mem_cons→Zah,getElem_of_mem→Zai,mem_append_right→Zaj,getElem_mem→Zak,mem_flatten→Zal,set_cons_zero→Zam,set_cons_succ→Zan,mem_append_left→Zao,nodup_append→Zaq,flatten_cons→Zar,nodup_cons→Zas,modify_succ_cons→Zat,getElem?_eq_some_iff→Zau,take_succ_eq_append_getElem→Zav,take_append_of_le_length→Zaw,take_of_length_le→Zay,map_cons→Za0,findIdx?_eq_none_iff→Za1,pairwise_iff_getElem→Za2,length_take→Za3,length_drop→Za4,length_cons→Za5,take_length→Za6,prefix_refl→Za7,filterMap_cons→Za9,length_nil→Zba,prefix_append→Zbc,drop_eq_nil_of_le→Zbe,getElem?_map→Zbf,append_assoc→Zbg,pairwise_map→Zbh,all_eq_true→Zbi,drop_append_of_le_length→Zbj,not_mem_nil→Zbk,length_map→Zbm,getD_eq_getElem?_getD→Zbn,filter_append→Zbo,pairwise_cons→Zbp,mem_or_eq_of_mem_set→Zbq,replicate→Zbr,getElem?_eq_getElem→Zbs,eraseIdx_cons_succ→Zbw,filter_cons→Zbx,getElem_cons_drop→Zby,append_nil→Zb1,length_filter_le→Zb2,map_append→Zb3,take_append_drop→Zb4,mem_append→Zb5,mem_filter→Zb6,mem_of_getElem?→Zb8,take_zero→Zcc,drop_zero→Zcd,map_nil→Zcg,getElem_map→Zci,drop_drop→Zcj,drop_left→Zck,sum_cons→Zcm
open Option renaming bind_some→Zad,map_some→Zbd
open Nat renaming le_trans→Zaz,le_refl→Za8,add_mul→Zbt,min_eq_left→Zbz,mul_le_mul_right→Zb7,add_assoc→Zce,add_zero→Zch
namespace Go.Proofs.YtbeoiejnogdkpaaGreat.Sy
open Go Go.RowKit
theorem Cl (σ:St) (cs:List GV) (s:State) (hR:A5.R σ s cs) (hl:Aa s<=1099511627776):∃ ds τ,Ret Tryz.prog O0 [.agg cs] σ (.agg ds) τ/\Hp σ τ [own A5 ds s]:=by
 obtain⟨a,b,c,v,rfl,hk,ht,hv,hc⟩:=hR
 obtain⟨l1,l2,l3,l4,_⟩:=Av hl
 have key:∃ r τ,Ret Tryz.prog O0 [.agg [a,b,c,v]] σ r τ/\∃ ds,r= .agg ds/\Hp σ τ [own A5 ds s]:=by
  refine Ea A5d (Z0z rfl) ?_
  have H:=((Hp.refl σ).new 1 [a,b,c,v]).new 1 [GV.nilS,GV.nilS,GV.nilS,GV.nilS]
  simp +contextual (disch:=omega) only[go_sem,We]
  obtain⟨u1,τ1,e1,q1,H1⟩:=H.cp_int (hk.pre H.sub) l1
  have z1:=Qy (H1.pt 2 rfl) [some (Blk.row 3 [])]
  simp +contextual (disch:=omega) only[go_sem,e1,q1,A9 z1]
  obtain⟨u2,τ2,e2,q2,H2⟩:=H1.cp_Tally (ht.pre H1.sub) l2
  have z2:=Qy (H2.pt 3 rfl) [some (Blk.row 6 [])]
  simp +contextual (disch:=omega) only[go_sem,e2,q2,A9 z2]
  obtain⟨u3,τ3,e3,q3,H3⟩:=H2.cp_Live (hv.pre H2.sub) l3
  have z3:=Qy (H3.pt 4 rfl) [some (Blk.row 8 [])]
  simp +contextual (disch:=omega) only[go_sem,e3,q3,A9 z3]
  obtain⟨u4,τ4,e4,q4,H4⟩:=H3.cp_Cell (hc.pre H3.sub) l4
  have c1:=(H4.sl 3 rfl).cell
  have c2:=(H4.sl 2 rfl).cell
  have c3:=(H4.sl 1 rfl).cell
  have c4:=(H4.sl 0 rfl).cell
  obtain⟨τ5,e5,H5,_⟩:=H4.st 4 rfl 4 0 (.agg [u1,u2,u3,u4]) rfl (by decide) (by simp)
  have z5:=H5.pt 4 rfl
  have z5:rdB τ5 (σ++[some (Blk.row 1 [a,b,c,v])]).length=some [u1,u2,u3,u4]:=z5
  simp +contextual (disch:=omega) only[go_sem,e4,q4,c1,c2,c3,c4,e5,A9 z5]
  exact⟨_,rfl,_,rfl,(((((H5.pick 1 rfl).pick 2 rfl).pick 3 rfl).ownState).one)⟩
 obtain⟨r,τ,R,ds,rfl,H⟩:=key
 exact⟨ds,τ,R,H⟩
section
variable {α:Type} {d:En α} {σ τ:St} {v:GV} {l:List α}
theorem RdN.cutHi (h:RdN d σ v l) {k:Nat} (hk:k<=l.length):∃ u,cutG d.z v none (some (gi (k:Nat)))=some u/\RdN d σ u (l.take k):=by
 rcases h with⟨rfl,rfl|rfl⟩|⟨g,off,cs,rfl,hr,hb,ha⟩
 ·have:k=0:=by simpa using hk
  subst this
  exact⟨.nilS,by simp[cutG,bndG,B8],.inl ⟨by simp,.inl rfl⟩⟩
 ·have:k=0:=by simpa using hk
  subst this
  exact⟨.emp,by simp[cutG,bndG,B8],.inl ⟨by simp,.inr rfl⟩⟩
 ·refine⟨.sl g off k,Sy.cutHi hk,.inr ⟨g,off,cs,by rw[Za3,Zbz hk],hr,?_,fun i x hx=> ?_⟩⟩
  ·rw[Za3,Zbz hk]
   have:=Zb7 d.z hk
   omega
  ·rw[List.getElem?_take] at hx
   split at hx
   ·exact ha i x hx
   ·cases hx
theorem RdN.cutLo (h:RdN d σ v l) {k:Nat} (hk:k<=l.length):∃ u,cutG d.z v (some (gi (k:Nat))) none=some u/\RdN d σ u (l.drop k):=by
 rcases h with⟨rfl,rfl|rfl⟩|⟨g,off,cs,rfl,hr,hb,ha⟩
 ·have:k=0:=by simpa using hk
  subst this
  exact⟨.nilS,by simp[cutG,bndG,B8],.inl ⟨by simp,.inl rfl⟩⟩
 ·have:k=0:=by simpa using hk
  subst this
  exact⟨.emp,by simp[cutG,bndG,B8],.inl ⟨by simp,.inr rfl⟩⟩
 ·refine⟨.sl g (off+k*d.z) (l.length - k),Sy.cutLo hk,.inr ⟨g,off+k*d.z,cs,by rw[Za4],hr,?_,fun i x hx=> ?_⟩⟩
  ·rw[Za4]
   have:k*d.z+(l.length - k)*d.z=l.length*d.z:=by rw[<- Zbt];congr 1;omega
   omega
  ·rw[List.getElem?_drop] at hx
   have:=ha (k+i) x hx
   rw[Zbt,<-Zce] at this
   exact this
end
abbrev A5n (x:Live):List GV:=[.bool x.map,.str x.obj,.str x.key,.int .i64 x.val,.int .i64 x.dot.rep,.int .i64 x.dot.seq]
theorem Rk {n:Nat}:decide ((120:Int)<(n:Int))=decide (120<n):=by rw[decide_eq_decide];omega
abbrev A5o (x:Tally):List GV:=[.str x.obj,.int .i64 x.rep,.int .i64 x.sum]
abbrev Ws:Nat:=320
def Wt:Fn1:=⟨45,[.t 4],(rg [oX 3 1,o 4 (.mov (.k .nilS))] (rg [o 8 (.lit 6 0 [] []),oM 5 8] (rg [oV 6 kf] (.seq (rg [oV 7 (ki 0)] (.blk 0 (.lop (.seq (rg [oM 9 7,oM 10 0,oN 11 10,oB 12 .lss 9 11] (cn 12 .skip (.ext 0))) (.seq (.blk 1 (.seq (dw [oM 15 6,oU 16 15,oM 17 16,jF 18 17 4 3,jW 19 17 2 18,jM 20 17 0,jM 21 17 7,jI 22 17 6 20 21,jF 23 17 4 22,jW 24 17 2 23] [jD 25 17 362 19 24,oQ 26 17 25] (cn 26 (rg [oM 27 5,oW 28 6 3,o 29 (.lit 6 1 [(.bool false),s0,s0,z0,z0,z0] [(0,6,(.t 28))]),o 30 (.app 6 64 [(.bool false),s0,s0,z0,z0,z0] (.t 27) (.t 29)),oM 5 30] (.reg [oV 6 kt])) .skip)) (.reg [oM 31 5,oM 32 0,oM 33 7,oI 34 6 32 33,oW 35 6 34,o 36 (.lit 6 1 [(.bool false),s0,s0,z0,z0,z0] [(0,6,(.t 35))]),o 37 (.app 6 64 [(.bool false),s0,s0,z0,z0,z0] (.t 31) (.t 36)),oM 5 37]))) (.reg [oM 13 7,oZ 14 13 1,oM 7 14])))))) (.seq (rg [oM 38 6,oU 39 38] (cn 39 (.reg [oM 40 5,oW 41 6 3,o 42 (.lit 6 1 [(.bool false),s0,s0,z0,z0,z0] [(0,6,(.t 41))]),o 43 (.app 6 64 [(.bool false),s0,s0,z0,z0,z0] (.t 40) (.t 42)),oM 5 43]) .skip)) (rg [oM 44 5,oM 4 44] .ret))))))⟩
theorem A5p:A6 Tryz.prog Ws=some Wt:=by kernel_rfl
abbrev Wu:Nat:=322
def Wv:Fn1:=⟨45,[.t 4],(rg [oX 3 1,o 4 (.mov (.k .nilS))] (rg [o 8 (.lit 8 0 [] []),oM 5 8] (rg [oV 6 kf] (.seq (rg [oV 7 (ki 0)] (.blk 0 (.lop (.seq (rg [oM 9 7,oM 10 0,oN 11 10,oB 12 .lss 9 11] (cn 12 .skip (.ext 0))) (.seq (.blk 1 (.seq (dw [oM 15 6,oU 16 15,oM 17 16,jF 18 17 1 3,jW 19 17 2 18,jM 20 17 0,jM 21 17 7,jI 22 17 8 20 21,jF 23 17 1 22,jW 24 17 2 23] [jD 25 17 362 19 24,oQ 26 17 25] (cn 26 (rg [oM 27 5,oW 28 8 3,o 29 (.lit 8 1 [s0,z0,z0,z0,z0,z0,z0,(.bool false)] [(0,8,(.t 28))]),o 30 (.app 8 72 [s0,z0,z0,z0,z0,z0,z0,(.bool false)] (.t 27) (.t 29)),oM 5 30] (.reg [oV 6 kt])) .skip)) (.reg [oM 31 5,oM 32 0,oM 33 7,oI 34 8 32 33,oW 35 8 34,o 36 (.lit 8 1 [s0,z0,z0,z0,z0,z0,z0,(.bool false)] [(0,8,(.t 35))]),o 37 (.app 8 72 [s0,z0,z0,z0,z0,z0,z0,(.bool false)] (.t 31) (.t 36)),oM 5 37]))) (.reg [oM 13 7,oZ 14 13 1,oM 7 14])))))) (.seq (rg [oM 38 6,oU 39 38] (cn 39 (.reg [oM 40 5,oW 41 8 3,o 42 (.lit 8 1 [s0,z0,z0,z0,z0,z0,z0,(.bool false)] [(0,8,(.t 41))]),o 43 (.app 8 72 [s0,z0,z0,z0,z0,z0,z0,(.bool false)] (.t 40) (.t 42)),oM 5 43]) .skip)) (rg [oM 44 5,oM 4 44] .ret))))))⟩
theorem A5q:A6 Tryz.prog Wu=some Wv:=by kernel_rfl
abbrev A0t:Nat:=248
def Ge:Fn1:=⟨53,[.t 4],(rg [oX 2 0,oX 3 1,oV 4 kf] (.seq (rg [oF 6 4 3,oL 7 6,oE 8 .neq 7 7,oM 9 8,jF 10 9 4 3,jL 11 9 10,jE 12 9 .neq 11 6,jM 13 9 12,vF 14 13 8 3,vW 15 13 2 14,og 16 13 false (.build [z0,z0] []),og 17 13 false (.eqs false [.i .i64,.i .i64] (.t 15) (.t 16)),og 18 9 true (.pick (.t 13) kt (.t 17)),oQ 19 9 18] (cn 19 (rg [oV 4 kt] .ret) .skip)) (rg [oW 20 4 2,oF 21 8 3,oW 22 2 21,oD 23 146 20 22,oM 5 23] (dw [oM 24 5,oE 25 .geq 24 0,oM 26 25,jF 27 26 3 2,jL 28 26 27,jM 29 26 5,jI 30 26 8 28 29,jF 31 26 0 30,jL 32 26 31,jF 33 26 5 3,jL 34 26 33,jB 35 26 .eql 32 34,oQ 36 26 35,oM 37 36,jF 38 37 4 3,jL 39 37 38,jE 40 37 .eql 39 7,jM 41 37 40,vF 42 41 3 2,vL 43 41 42,vM 44 41 5,vI 45 41 8 43 44,vF 46 41 3 45,vL 47 41 46,vF 48 41 2 3,vL 49 41 48] [vB 50 41 .lss 47 49,og 51 37 true (.pick (.t 41) kt (.t 50)),oQ 52 37 51,oM 4 52] .ret))))⟩
theorem A8t:A6 Tryz.prog A0t=some Ge:=by kernel_rfl
theorem Ki (σ:St) (v:GV) (l:List Live) (h:RS As.kd σ v l) (x:Live) (hl:l.length<=1099511627776):∃ r τ,Ret Tryz.prog Ws [v,.agg (A5n x)] σ r τ/\Hp σ τ [ow As.kd r (Ke x l)]:=by
 refine Ea A5p (Z0z rfl) ?_
 have H:=((Hp.refl σ).new 1 (A5n x)).nil_Live
 simp +contextual (disch:=omega) only[go_sem,Wt]
 generalize hn1:σ.length=n1 at*
 refine M0 l.length 7 0 (fun i env τ=>env 0=v/\env 3= .ptr n1 0/\∃(u:GV) (put:Bool) (nxt:List Live),env 5=u/\env 6= .bool put/\insG Dc x l nxt i put/\Hp σ τ [ow As.kd u nxt,pt 1 n1 (A5n x)]) (fun env τ=>env 3= .ptr n1 0/\∃(u:GV) (put:Bool) (nxt:List Live),env 5=u/\env 6= .bool put/\insG Dc x l nxt l.length put/\Hp σ τ [ow As.kd u nxt,pt 1 n1 (A5n x)]) rfl ⟨rfl,rfl,_,false,[],rfl,rfl,V5,H⟩ ?_ ?_ ?_
 ·clear H
  rintro J Y hJ hY i env τ hi e7 c0 ⟨e0,e3,u,put,nxt,e5,e6,hok,H⟩
  have hnl:=E8 hok
  have hln:=(h.pre H.sub).len
  have C1:=A7 (h.pre H.sub) hi
  cases put with
  |true=>
   obtain⟨w',τ3,e8,H3⟩:=H.app_Live 0 rfl l[i] (by omega)
   simp +contextual (disch:=omega) only[go_sem,c0,e0,e3,e5,e6,e7,hln,C1,e8]
   refine hJ _ _ _ ⟨?_,?_,w',true,_,?_,?_,Fh hok hi (.inl rfl),H3⟩
   all_goals simp +contextual (disch:=omega) only[go_sem,e0,e3,e6]
  |false=>
   simp +contextual (disch:=omega) only[go_sem,c0,e0,e3,e5,e6,e7,hln,C1,A9 (H.pt 1 rfl)]
   refine Af (Co _ _ _) ?_
   cases hq:Bj x.dot l[i].dot with
   |false=>
    have hq2:Dc x l[i]=false:=hq
    obtain⟨w',τ3,e8,H3⟩:=H.app_Live 0 rfl l[i] (by omega)
    simp +contextual (disch:=omega) only[go_sem,c0,e0,e3,e5,e6,e7,hln,C1,e8]
    refine hJ _ _ _ ⟨?_,?_,w',false,_,?_,?_,Fh hok hi (.inr hq2),H3⟩
    all_goals simp +contextual (disch:=omega) only[go_sem,e0,e3,e6]
   |true=>
    have hq2:Dc x l[i]=true:=hq
    obtain⟨w',τ3,e8,H3⟩:=H.app_Live 0 rfl x (by omega)
    have H3:Hp σ τ3 [ow As.kd w' (nxt++[x]),pt 1 n1 (A5n x)]:=H3
    have hp:=Pn hok hi hq2
    have hnl2:=E8 hp
    simp only[Zag,Za5,Zba] at hnl2
    have C2:=A7 (h.pre H3.sub) hi
    obtain⟨w2,τ4,e9,H4⟩:=H3.app_Live 0 rfl l[i] (by simp;omega)
    simp +contextual (disch:=omega) only[go_sem,c0,e0,e3,e5,e6,e7,hln,C1,A9 (H.pt 1 rfl),e8,C2,e9]
    refine hJ _ _ _ ⟨?_,?_,w2,true,_,?_,?_,hp,H4⟩
    all_goals simp +contextual (disch:=omega) only[go_sem,e0,e3,e6]
 ·clear H
  rintro Y hY env τ e7 c0 ⟨e0,e3,u,put,nxt,e5,e6,hok,H⟩
  have hln:=(h.pre H.sub).len
  simp +contextual (disch:=omega) only[go_sem,c0,e0,e3,e5,e6,e7,hln]
  refine hY _ _ ⟨?_,u,put,nxt,?_,?_,hok,H⟩
  all_goals simp +contextual (disch:=omega) only[go_sem,e3,e5,e6]
 ·clear H
  rintro env τ ⟨e3,u,put,nxt,e5,e6,hok,H⟩
  have hnl:=E8 hok
  have hend:=V6 hok
  cases put with
  |true=>
   simp +contextual (disch:=omega) only[go_sem,e3,e5,e6]
   refine⟨_,rfl,?_⟩
   rw[Ke,<-hend]
   exact H.one
  |false=>
   obtain⟨w',τ3,e8,H3⟩:=H.app_Live 0 rfl x (by omega)
   simp +contextual (disch:=omega) only[go_sem,e3,e5,e6,A9 (H.pt 1 rfl),e8]
   refine⟨_,rfl,?_⟩
   rw[Ke,<-hend]
   exact H3.one
theorem Pu (σ:St) (v:GV) (l:List Cell) (h:RS Ag.kd σ v l) (x:Cell) (hl:l.length<=1099511627776):∃ r τ,Ret Tryz.prog Wu [v,.agg (Rj x)] σ r τ/\Hp σ τ [ow Ag.kd r (Ly x l)]:=by
 refine Ea A5q (Z0z rfl) ?_
 have H:=((Hp.refl σ).new 1 (Rj x)).nil_Cell
 simp +contextual (disch:=omega) only[go_sem,Wv]
 generalize hn1:σ.length=n1 at*
 refine M0 l.length 7 0 (fun i env τ=>env 0=v/\env 3= .ptr n1 0/\∃(u:GV) (put:Bool) (nxt:List Cell),env 5=u/\env 6= .bool put/\insG Dq x l nxt i put/\Hp σ τ [ow Ag.kd u nxt,pt 1 n1 (Rj x)]) (fun env τ=>env 3= .ptr n1 0/\∃(u:GV) (put:Bool) (nxt:List Cell),env 5=u/\env 6= .bool put/\insG Dq x l nxt l.length put/\Hp σ τ [ow Ag.kd u nxt,pt 1 n1 (Rj x)]) rfl ⟨rfl,rfl,_,false,[],rfl,rfl,V5,H⟩ ?_ ?_ ?_
 ·clear H
  rintro J Y hJ hY i env τ hi e7 c0 ⟨e0,e3,u,put,nxt,e5,e6,hok,H⟩
  have hnl:=E8 hok
  have hln:=(h.pre H.sub).len
  have C1:=A8 (h.pre H.sub) hi
  cases put with
  |true=>
   obtain⟨w',τ3,e8,H3⟩:=H.app_Cell 0 rfl l[i] (by omega)
   simp +contextual (disch:=omega) only[go_sem,c0,e0,e3,e5,e6,e7,hln,C1,e8]
   refine hJ _ _ _ ⟨?_,?_,w',true,_,?_,?_,Fh hok hi (.inl rfl),H3⟩
   all_goals simp +contextual (disch:=omega) only[go_sem,e0,e3,e6]
  |false=>
   simp +contextual (disch:=omega) only[go_sem,c0,e0,e3,e5,e6,e7,hln,C1,A9 (H.pt 1 rfl)]
   refine Af (Co _ _ _) ?_
   cases hq:Bj x.dot l[i].dot with
   |false=>
    have hq2:Dq x l[i]=false:=hq
    obtain⟨w',τ3,e8,H3⟩:=H.app_Cell 0 rfl l[i] (by omega)
    simp +contextual (disch:=omega) only[go_sem,c0,e0,e3,e5,e6,e7,hln,C1,e8]
    refine hJ _ _ _ ⟨?_,?_,w',false,_,?_,?_,Fh hok hi (.inr hq2),H3⟩
    all_goals simp +contextual (disch:=omega) only[go_sem,e0,e3,e6]
   |true=>
    have hq2:Dq x l[i]=true:=hq
    obtain⟨w',τ3,e8,H3⟩:=H.app_Cell 0 rfl x (by omega)
    have H3:Hp σ τ3 [ow Ag.kd w' (nxt++[x]),pt 1 n1 (Rj x)]:=H3
    have hp:=Pn hok hi hq2
    have hnl2:=E8 hp
    simp only[Zag,Za5,Zba] at hnl2
    have C2:=A8 (h.pre H3.sub) hi
    obtain⟨w2,τ4,e9,H4⟩:=H3.app_Cell 0 rfl l[i] (by simp;omega)
    simp +contextual (disch:=omega) only[go_sem,c0,e0,e3,e5,e6,e7,hln,C1,A9 (H.pt 1 rfl),e8,C2,e9]
    refine hJ _ _ _ ⟨?_,?_,w2,true,_,?_,?_,hp,H4⟩
    all_goals simp +contextual (disch:=omega) only[go_sem,e0,e3,e6]
 ·clear H
  rintro Y hY env τ e7 c0 ⟨e0,e3,u,put,nxt,e5,e6,hok,H⟩
  have hln:=(h.pre H.sub).len
  simp +contextual (disch:=omega) only[go_sem,c0,e0,e3,e5,e6,e7,hln]
  refine hY _ _ ⟨?_,u,put,nxt,?_,?_,hok,H⟩
  all_goals simp +contextual (disch:=omega) only[go_sem,e3,e5,e6]
 ·clear H
  rintro env τ ⟨e3,u,put,nxt,e5,e6,hok,H⟩
  have hnl:=E8 hok
  have hend:=V6 hok
  cases put with
  |true=>
   simp +contextual (disch:=omega) only[go_sem,e3,e5,e6]
   refine⟨_,rfl,?_⟩
   rw[Ly,<-hend]
   exact H.one
  |false=>
   obtain⟨w',τ3,e8,H3⟩:=H.app_Cell 0 rfl x (by omega)
   simp +contextual (disch:=omega) only[go_sem,e3,e5,e6,A9 (H.pt 1 rfl),e8]
   refine⟨_,rfl,?_⟩
   rw[Ly,<-hend]
   exact H3.one
theorem A5r (σ:St) (cs:List GV) (s:State) (hR:A5.R σ s cs) (as':List GV) (a:Act) (hS:kAct.R σ a as') (hl:Aa s<=1099511627776):Ret Tryz.prog A0t [.agg cs,.agg as'] σ (.bool (Ui s a)) σ:=by
 have hR0:=hR
 have hlc:cs.length=4:=A5.len hR
 obtain⟨a1,b1,c1,v1,rfl,_,_,_,hc⟩:=hR
 obtain⟨kv,rfl,hk⟩:=hS
 obtain⟨l1,l2,l3,l4,_⟩:=Av hl
 refine Ar A8t (Z0z rfl) trivial ?_
 have H:=((Hp.refl σ).new 1 [a1,b1,c1,v1]).new 1 [.int .i64 a.dot.rep,.int .i64 a.dot.seq,.int .i64 a.time,kv,.int .i64 a.kind,.str a.obj,.str a.key,.int .i64 a.val,.int .i64 a.ref.rep,.int .i64 a.ref.seq]
 have z1:=A9 (a:=false) (n:=1) (off:=4) (H.pt 0 rfl)
 by_cases hin:a.kind=7∨(a.kind=6/\a.ref≠d0)
 ·have CA:=Il _ _ s (A5.pre hR0 H.sub) a.ref hl
  cases hx:Cf s.cells a.ref with
  |none=>
   have hE:Ui s a=false:=by simp[Ui,hin,hx]
   have hno:C9 s.cells a.ref= -1:=by simp[C9,hx]
   rw[hno] at CA
   have cm:decide ((0:Int)<= -1)=false:=rfl
   by_cases h7:a.kind=7
   ·have c7:(a.kind != 7)=false:=by simp[h7]
    simp +contextual (disch:=omega) only[go_sem,Ge,c7]
    refine Af CA ?_
    simp +contextual (disch:=omega) only[go_sem,cm,hE,H.sub]
   ·have h6:a.kind=6/\a.ref≠d0:=hin.resolve_left h7
    have c7:(a.kind != 7)=true:=by simp[h7]
    have c6:(a.kind != 6)=false:=by simp[h6.1]
    have cr:decide (a.ref=⟨0,0⟩)=false:=decide_eq_false h6.2
    simp +contextual (disch:=omega) only[go_sem,Ge,c7,c6,cr,Zb9,Zca]
    refine Af CA ?_
    simp +contextual (disch:=omega) only[go_sem,cm,hE,H.sub]
  |some k=>
   obtain⟨hk,hk2⟩:=C5 hx
   have hE:Ui s a=(decide (s.cells[k].obj=a.obj)&&(decide (a.kind=7)||decide (s.cells[k].time<a.time))):=by simp[Ui,hin,hx,Bn hk]
   have hno:C9 s.cells a.ref=k:=by simp[C9,hx]
   rw[hno] at CA
   have cm:decide ((0:Int)<=(k:Int))=true:=by simp
   have C2:=A8 (hc.pre H.sub) hk
   by_cases h7:a.kind=7
   ·have c7:(a.kind != 7)=false:=by simp[h7]
    have d7:(a.kind==7)=true:=by simp[h7]
    rw[decide_eq_true h7,Zb0,Zbu] at hE
    simp +contextual (disch:=omega) only[go_sem,Ge,c7]
    refine Af CA ?_
    cases ho:decide (s.cells[k].obj=a.obj) with
    |true=>simp +contextual (disch:=omega) only[go_sem,cm,A0,C2,ho,d7,hE,H.sub]
    |false=>simp +contextual (disch:=omega) only[go_sem,cm,A0,C2,ho,hE,H.sub]
   ·have h6:a.kind=6/\a.ref≠d0:=hin.resolve_left h7
    have c7:(a.kind != 7)=true:=by simp[h7]
    have d7:(a.kind==7)=false:=by simp[h7]
    have c6:(a.kind != 6)=false:=by simp[h6.1]
    have cr:decide (a.ref=⟨0,0⟩)=false:=decide_eq_false h6.2
    rw[decide_eq_false h7,Zcf] at hE
    simp +contextual (disch:=omega) only[go_sem,Ge,c7,c6,cr,Zb9,Zca]
    refine Af CA ?_
    cases ho:decide (s.cells[k].obj=a.obj) with
    |true=>simp +contextual (disch:=omega) only[go_sem,cm,A0,C2,ho,d7,hE,H.sub,Zcl]
    |false=>simp +contextual (disch:=omega) only[go_sem,cm,A0,C2,ho,hE,H.sub,Zax]
 ·have hE:Ui s a=true:=by unfold Ui;rw[if_neg hin]
  have h7:¬ a.kind=7:=fun h=>hin (.inl h)
  have c7:(a.kind != 7)=true:=by simp[h7]
  by_cases h6:a.kind=6
  ·have hr:a.ref=d0:=by
    by_cases h:a.ref=d0
    ·exact h
    ·exact absurd (.inr ⟨h6,h⟩) hin
   have c6:(a.kind != 6)=false:=by simp[h6]
   have cr:decide (a.ref=⟨0,0⟩)=true:=decide_eq_true hr
   simp +contextual (disch:=omega) only[go_sem,Ge,c7,c6,cr,Zb9,Zca,hE,H.sub]
  ·have c6:(a.kind != 6)=true:=by simp[h6]
   simp +contextual (disch:=omega) only[go_sem,Ge,c7,c6,hE,H.sub]
theorem Hp.moveTo {σ τ:St} {r r':Thg} {rs:List Thg} (H:Hp σ τ (r::rs)) (k:Nat) (hk:rs[k]? =some r'):Hp σ τ (rs.set k r):=by
 have hkl:=(Zau.1 hk).1
 have h1:=(H.pick (k+1) hk).drop1
 exact Hp.unpick h1 hkl
theorem Adm {P:Program} {a:Cd} {Q:Ex->Env->St->Prop} {env:Env} {σ:St} (n ri j0:Nat) (I:Nat->Env->St->Prop) (X Z:Env->St->Prop) (hr:env ri=gi 0) (h0:I 0 env σ)
  (hs:∀(J:Nat->Env->St->Prop) (Y W:Env->St->Prop),(∀ i env σ,I i env σ->J i env σ)->(∀ env σ,X env σ->Y env σ)->(∀ env σ,Z env σ->W env σ)->∀ i env σ,i<n->env ri=gi i->decide ((i:Int)<n)=true->I i env σ->vc P a (fun e env' σ'=>match e with| .nxt=>env' ri=gi ((i:Int)+1)/\J (i+1) env' σ'| .ext j=>j=j0/\Y env' σ'| .ret=>W env' σ') env σ)
  (he:∀(Y:Env->St->Prop),(∀ env σ,X env σ->Y env σ)->∀ env σ,env ri=gi n->decide ((n:Int)<n)=false->I n env σ->vc P a (fun e env' σ'=>match e with| .nxt=>False| .ext j=>j=j0/\Y env' σ'| .ret=>False) env σ)
  (hx:∀ env σ,X env σ->Q (.ext j0) env σ) (hz:∀ env σ,Z env σ->Q .ret env σ):vc P (.lop a) Q env σ:=by
 refine Ce n ri I hr h0 (fun i env σ h1 h2 h3 h4=>B4 (hs I X Z (fun _ _ _ h=>h) (fun _ _ h=>h) (fun _ _ h=>h) i env σ h1 h2 h3 h4) fun e env' σ' hq=> ?_) (fun env σ h1 h2 h3=>B4 (he X (fun _ _ h=>h) env σ h1 h2 h3) fun e env' σ' hq=> ?_)
 ·cases e with
  |nxt=>exact hq
  |ret=>exact hz _ _ hq
  |ext j=>obtain⟨rfl,hq⟩:=hq;exact hx _ _ hq
 ·cases e with
  |nxt=>exact hq
  |ret=>exact hq.elim
  |ext j=>obtain⟨rfl,hq⟩:=hq;exact hx _ _ hq
abbrev M5:Nat:=321
def Ti:Fn1:=⟨61,[],(rg [o 13 (.lit 6 0 [] []),oM 10 13] (.seq (rg [oV 11 (ki 0)] (.blk 0 (.lop (.seq (rg [oM 14 11,oM 15 0,oK 16 15,oF 17 2 16,oL 18 17,oN 19 18,oB 20 .lss 14 19] (cn 20 .skip (.ext 0))) (.seq (.blk 1 (rg [oM 23 0,oK 24 23,oF 25 2 24,oL 26 25,oM 27 11,oI 28 6 26 27,oW 29 6 28,o 12 (.new [(.bool false),s0,s0,z0,z0,z0]),oS 6 12 29] (rg [oF 30 0 12,oL 31 30,oM 32 1,o 33 (.eqb true (.t 31) (.t 32)),oM 34 33,vF 35 34 1 12,vL 36 34 35,vM 37 34 2,vB 38 34 .neq 36 37,oP 39 34 38,oM 40 39,vF 41 40 2 12,vL 42 40 41,vM 43 40 3,vB 44 40 .neq 42 43,oP 45 40 44,oM 46 45,vM 47 46 4,vF 48 46 4 12,vW 49 46 2 48,vD 50 46 45 47 49,vU 51 46 50,oP 52 46 51] (cn 52 (.reg [oM 53 10,oW 54 6 12,o 55 (.lit 6 1 [(.bool false),s0,s0,z0,z0,z0] [(0,6,(.t 54))]),o 56 (.app 6 64 [(.bool false),s0,s0,z0,z0,z0] (.t 53) (.t 55)),oM 10 56]) .skip)))) (.reg [oM 21 11,oZ 22 21 1,oM 11 22])))))) (.reg [oM 57 0,oM 58 10,oK 59 57,oF 60 2 59,oS 1 60 58])))⟩
theorem A2u:A6 Tryz.prog M5=some Ti:=by kernel_rfl
abbrev M6:Nat:=319
def Tj:Fn1:=⟨113,[],(.seq (rg [oV 8 (ki 0)] (.blk 0 (.lop (.seq (rg [oM 14 8,oM 15 0,oK 16 15,oF 17 1 16,oL 18 17,oN 19 18,oB 20 .lss 14 19] (cn 20 .skip (.ext 0))) (.seq (.blk 1 (rg [oM 23 0,oK 24 23,oF 25 1 24,oL 26 25,oM 27 8,oI 28 3 26 27,oW 29 3 28,o 9 (.new [s0,z0,z0]),oS 3 9 29] (rg [oF 30 0 9,oL 31 30,oM 32 1,oB 33 .eql 31 32,oM 34 33,jF 35 34 1 9,jL 36 34 35,jM 37 34 2,jB 38 34 .eql 36 37,oQ 39 34 38] (cn 39 (dw [oM 40 0,oK 41 40,oF 42 1 41,oL 43 42,oM 44 8,oF 45 2 9,oL 46 45] [oM 47 3,oB 48 .add 46 47,oE 49 .rem 48 1000000,oI 50 3 43 44,oF 51 2 50,oS 1 51 49] .ret) .skip)))) (.reg [oM 21 8,oZ 22 21 1,oM 8 22])))))) (rg [o 52 (.lit 3 0 [] []),oM 10 52] (rg [oV 11 kf] (.seq (rg [oV 12 (ki 0)] (.blk 2 (.lop (.seq (rg [oM 53 12,oM 54 0,oK 55 54,oF 56 1 55,oL 57 56,oN 58 57,oB 59 .lss 53 58] (cn 59 .skip (.ext 2))) (.seq (.blk 3 (rg [oM 62 0,oK 63 62,oF 64 1 63,oL 65 64,oM 66 12,oI 67 3 65 66,oW 68 3 67,o 13 (.new [s0,z0,z0]),oS 3 13 68] (.seq (rg [oM 69 11,oU 70 69,oM 71 70,jF 72 71 0 13,jL 73 71 72,jM 74 71 1,jB 75 71 .gtr 73 74,jM 76 71 75,vF 77 76 0 13,vL 78 76 77,vM 79 76 1,vB 80 76 .eql 78 79,vM 81 76 80,jF 82 81 1 13,jL 83 81 82,jM 84 81 2,jB 85 81 .gtr 83 84,og 86 76 false (.pick (.t 81) (.t 85) kf),og 87 71 true (.pick (.t 76) kt (.t 86)),oQ 88 71 87] (cn 88 (rg [oM 89 10,oM 90 1,oM 91 2,oM 92 3,o 93 (.build [s0,z0,z0] [(0,1,(.t 90)),(1,1,(.t 91)),(2,1,(.t 92))]),o 94 (.lit 3 1 [s0,z0,z0] [(0,3,(.t 93))]),o 95 (.app 3 32 [s0,z0,z0] (.t 89) (.t 94)),oM 10 95] (.reg [oV 11 kt])) .skip)) (.reg [oM 96 10,oW 97 3 13,o 98 (.lit 3 1 [s0,z0,z0] [(0,3,(.t 97))]),o 99 (.app 3 32 [s0,z0,z0] (.t 96) (.t 98)),oM 10 99])))) (.reg [oM 60 12,oZ 61 60 1,oM 12 61])))))) (.seq (rg [oM 100 11,oU 101 100] (cn 101 (.reg [oM 102 10,oM 103 1,oM 104 2,oM 105 3,o 106 (.build [s0,z0,z0] [(0,1,(.t 103)),(1,1,(.t 104)),(2,1,(.t 105))]),o 107 (.lit 3 1 [s0,z0,z0] [(0,3,(.t 106))]),o 108 (.app 3 32 [s0,z0,z0] (.t 102) (.t 107)),oM 10 108]) .skip)) (.reg [oM 109 0,oM 110 10,oK 111 109,oF 112 1 111,oS 1 112 110]))))))⟩
theorem A2v:A6 Tryz.prog M6=some Tj:=by kernel_rfl
def SPtr (σ0 τ:St) (g:Nat) (s:State) (rest:List Thg):Prop:=∃ v0 v1 v2 v3,Hp σ0 τ (ow pI.kd v0 s.know::ow Am.kd v1 s.tallies::ow As.kd v2 s.lives::ow Ag.kd v3 s.cells::pt 1 g [v0,v1,v2,v3]::rest)
theorem J4 {σ0 σ:St} {g:Nat} {s:State} {rest:List Thg} (H:SPtr σ0 σ g s rest) (m:Bool) (o k:ByteArray) (kv:GV) (knew:List Int) (hk:RS pI.kd σ0 kv knew) (hl:Aa s<=1099511627776) (hkl:knew.length<=1099511627776):∃ τ,Ret Tryz.prog M5 [.ptr g 0,.bool m,.str o,.str k,kv] σ (.tup []) τ/\SPtr σ0 τ g {s with lives:=s.lives.filter (Uh m o k knew)} rest:=by
 obtain⟨v0,v1,v2,v3,H⟩:=H
 obtain⟨l1,l2,l3,l4,_⟩:=Av hl
 have key:∃ r τ,Ret Tryz.prog M5 [.ptr g 0,.bool m,.str o,.str k,kv] σ r τ/\r= .tup []/\SPtr σ0 τ g {s with lives:=s.lives.filter (Uh m o k knew)} rest:=by
  refine Ea A2u (Z0z rfl) ?_
  have H:=H.nil_Live
  simp +contextual (disch:=omega) only[go_sem,Ti]
  generalize hp:Uh m o k knew=p
  refine M0 s.lives.length 11 0 (fun i env τ=>env 0= .ptr g 0/\env 1= .bool m/\env 2= .str o/\env 3= .str k/\env 4=kv/\∃ w,env 10=w/\Hp σ0 τ (ow As.kd w ((s.lives.take i).filter p)::ow pI.kd v0 s.know::ow Am.kd v1 s.tallies::ow As.kd v2 s.lives::ow Ag.kd v3 s.cells::pt 1 g [v0,v1,v2,v3]::rest)) (fun env τ=>env 0= .ptr g 0/\∃ w,env 10=w/\Hp σ0 τ (ow As.kd w (s.lives.filter p)::ow pI.kd v0 s.know::ow Am.kd v1 s.tallies::ow As.kd v2 s.lives::ow Ag.kd v3 s.cells::pt 1 g [v0,v1,v2,v3]::rest)) rfl ⟨rfl,rfl,rfl,rfl,rfl,_,rfl,H⟩ ?_ ?_ ?_
  ·clear H
   rintro J Y hJ hY i env τ hi e11 c0 ⟨e0,e1,e2,e3,e4,w,e10,H⟩
   have hfl:=E1 s.lives p i
   have hsn:=Gq (p:=p) hi
   have C1:=A7 (H.sl 3 rfl) hi
   have hln:=(H.sl 3 rfl).len
   have zb:=H.pt 5 rfl
   have G:=H.grow (pre1 τ (some (Blk.row 1 (A5n s.lives[i]))))
   have hkeep:p s.lives[i]=(!(s.lives[i].map==m)||(!decide (s.lives[i].obj=o)||(!decide (s.lives[i].key=k)|| !Ax knew s.lives[i].dot))):=by rw[<- hp];rfl
   obtain⟨w',τ3,e8,H3⟩:=G.app_Live 0 rfl s.lives[i] (by omega)
   have kn:=Bt _ kv knew s.lives[i].dot (hk.pre G.sub) hkl
   cases h1:(s.lives[i].map==m) with
   |false=>
    rw[h1] at hkeep
    have hk0:p s.lives[i]=true:=by rw[hkeep];rfl
    rw[hk0,if_pos rfl] at hsn
    simp +contextual (disch:=omega) only[go_sem,c0,e0,e1,e2,e3,e4,e10,e11,A9 zb,hln,C1,h1,Bool.xor_false,Zbv,Zap,e8]
    refine hJ _ _ _ ⟨?_,?_,?_,?_,?_,w',?_,by rw[hsn];exact H3⟩
    all_goals simp +contextual (disch:=omega) only[go_sem,e0,e1,e2,e3,e4,e10]
   |true=>
    cases h2:decide (s.lives[i].obj=o) with
    |false=>
     rw[h1,h2] at hkeep
     have hk0:p s.lives[i]=true:=by rw[hkeep];rfl
     rw[hk0,if_pos rfl] at hsn
     simp +contextual (disch:=omega) only[go_sem,c0,e0,e1,e2,e3,e4,e10,e11,A9 zb,hln,C1,h1,h2,Zbv,Zap,Zbl,e8]
     refine hJ _ _ _ ⟨?_,?_,?_,?_,?_,w',?_,by rw[hsn];exact H3⟩
     all_goals simp +contextual (disch:=omega) only[go_sem,e0,e1,e2,e3,e4,e10]
    |true=>
     cases h3:decide (s.lives[i].key=k) with
     |false=>
      rw[h1,h2,h3] at hkeep
      have hk0:p s.lives[i]=true:=by rw[hkeep];rfl
      rw[hk0,if_pos rfl] at hsn
      simp +contextual (disch:=omega) only[go_sem,c0,e0,e1,e2,e3,e4,e10,e11,A9 zb,hln,C1,h1,h2,h3,Zbv,Zap,Zbl,e8]
      refine hJ _ _ _ ⟨?_,?_,?_,?_,?_,w',?_,by rw[hsn];exact H3⟩
      all_goals simp +contextual (disch:=omega) only[go_sem,e0,e1,e2,e3,e4,e10]
     |true=>
      simp +contextual (disch:=omega) only[go_sem,c0,e0,e1,e2,e3,e4,e10,e11,A9 zb,hln,C1,h1,h2,h3,Zbv,Zap,Zbl]
      refine Af kn ?_
      cases h4:Ax knew s.lives[i].dot with
      |false=>
       rw[h1,h2,h3,h4] at hkeep
       have hk0:p s.lives[i]=true:=by rw[hkeep];rfl
       rw[hk0,if_pos rfl] at hsn
       simp +contextual (disch:=omega) only[go_sem,e0,e1,e2,e3,e4,e10,e11,C1,h4,e8]
       refine hJ _ _ _ ⟨?_,?_,?_,?_,?_,w',?_,by rw[hsn];exact H3⟩
       all_goals simp +contextual (disch:=omega) only[go_sem,e0,e1,e2,e3,e4,e10]
      |true=>
       rw[h1,h2,h3,h4] at hkeep
       have hk0:p s.lives[i]=false:=by rw[hkeep];rfl
       rw[hk0,if_neg (by simp),Zb1] at hsn
       simp +contextual (disch:=omega) only[go_sem,e0,e1,e2,e3,e4,e10,e11,h4]
       refine hJ _ _ _ ⟨?_,?_,?_,?_,?_,w,?_,by rw[hsn];exact G⟩
       all_goals simp +contextual (disch:=omega) only[go_sem,e0,e1,e2,e3,e4,e10]
  ·clear H
   rintro Y hY env τ e11 c0 ⟨e0,e1,e2,e3,e4,w,e10,H⟩
   rw[Za6] at H
   have hln:=(H.sl 3 rfl).len
   simp +contextual (disch:=omega) only[go_sem,c0,e0,e1,e2,e3,e4,e10,e11,A9 (H.pt 5 rfl),hln]
   refine hY _ _ ⟨?_,w,?_,H⟩
   all_goals simp +contextual (disch:=omega) only[go_sem,e0,e10]
  ·clear H
   rintro env τ ⟨e0,w,e10,H⟩
   have c1:=(H.sl 0 rfl).cell
   obtain⟨τ1,s1,H1,_⟩:=H.st 5 rfl 1 2 w (by rw[c1];rfl) (by decide) (by simp)
   simp +contextual (disch:=omega) only[go_sem,e0,e10,s1]
   refine⟨_,rfl,rfl,v0,v1,w,v3,?_⟩
   simp only[c1,Zam,Zan,G6,G5,Hl] at H1
   exact Hp.moveTo H1 2 rfl
 obtain⟨r,τ,R,rfl,h⟩:=key
 exact⟨τ,R,h⟩
theorem Mv {α:Type} (f:α->α):∀ {l:List α} {i:Nat} (hi:i<l.length),l.modify i f=l.set i (f l[i])
 |x::l,0,_=>by simp
 |x::l,i+1,hi=>by
  rw[Zat,Mv f (by simpa using hi)]
  simp
theorem Abh {l:List Tally} {o:ByteArray} {r:Int} {i:Nat} (hi:i<l.length) (ha:∀ j (hj:j<l.length),j<i->Lx o r l[j]=false) (h:Lx o r l[i]=true):l.findIdx? (Lx o r)=some i:=by
 rw[List.findIdx?_eq_some_iff_getElem]
 exact⟨hi,h,fun j hj=>by rw[ha j (by omega) hj];simp⟩
theorem J5 {σ0 σ:St} {g:Nat} {s:State} {rest:List Thg} (H:SPtr σ0 σ g s rest) (o:ByteArray) (rep val:Int) (hl:Aa s<=1099511627776) (hv: -1000000<=val/\val<=1000000) (hs:∀ t∈s.tallies,-1000000<=t.sum/\t.sum<=1000000):∃ τ,Ret Tryz.prog M6 [.ptr g 0,.str o,gi rep,gi val] σ (.tup []) τ/\SPtr σ0 τ g {s with tallies:=G0 s.tallies o rep val} rest:=by
 obtain⟨v0,v1,v2,v3,H⟩:=H
 obtain⟨l1,l2,l3,l4,_⟩:=Av hl
 have key:∃ r τ,Ret Tryz.prog M6 [.ptr g 0,.str o,gi rep,gi val] σ r τ/\r= .tup []/\SPtr σ0 τ g {s with tallies:=G0 s.tallies o rep val} rest:=by
  refine Ea A2v (Z0z rfl) ?_
  simp +contextual (disch:=omega) only[go_sem,Tj]
  refine Adm s.tallies.length 8 0 (fun i env τ=>env 0= .ptr g 0/\env 1= .str o/\env 2=gi rep/\env 3=gi val/\(∀ j (hj:j<s.tallies.length),j<i->Lx o rep s.tallies[j]=false)/\Hp σ0 τ (ow pI.kd v0 s.know::ow Am.kd v1 s.tallies::ow As.kd v2 s.lives::ow Ag.kd v3 s.cells::pt 1 g [v0,v1,v2,v3]::rest)) (fun env τ=>env 0= .ptr g 0/\env 1= .str o/\env 2=gi rep/\env 3=gi val/\s.tallies.findIdx? (Lx o rep)=none/\Hp σ0 τ (ow pI.kd v0 s.know::ow Am.kd v1 s.tallies::ow As.kd v2 s.lives::ow Ag.kd v3 s.cells::pt 1 g [v0,v1,v2,v3]::rest)) (fun env τ=>SPtr σ0 τ g {s with tallies:=G0 s.tallies o rep val} rest) rfl ⟨rfl,rfl,rfl,rfl,fun j _ hj=>by omega,H⟩ ?_ ?_ ?_ ?_
  ·clear H
   rintro J Y W hJ hY hW i env τ hi e8 c0 ⟨e0,e1,e2,e3,ha,H⟩
   have C1:=Ae (H.sl 1 rfl) hi
   have hln:=(H.sl 1 rfl).len
   have zb:=H.pt 4 rfl
   have G:=H.grow (pre1 τ (some (Blk.row 1 (A5o s.tallies[i]))))
   have hno:Lx o rep s.tallies[i]=false->∀ j (hj:j<s.tallies.length),j<i+1->Lx o rep s.tallies[j]=false:=fun h j hj hji=>by
    rcases Nat.lt_or_ge j i with h2|h2
    ·exact ha j hj h2
    ·have:j=i:=by omega
     subst this;exact h
   cases h1:decide (s.tallies[i].obj=o) with
   |false=>
    simp +contextual (disch:=omega) only[go_sem,c0,e0,e1,e2,e3,e8,A9 zb,hln,C1,h1]
    refine hJ _ _ _ ⟨?_,?_,?_,?_,hno (by simp[Lx,h1]),G⟩
    all_goals simp +contextual (disch:=omega) only[go_sem,e0,e1,e2,e3]
   |true=>
    have o1:s.tallies[i].obj=o:=by simpa using h1
    cases h2:decide (s.tallies[i].rep=rep) with
    |false=>
     have b2:(s.tallies[i].rep==rep)=false:=h2
     simp +contextual (disch:=omega) only[go_sem,c0,e0,e1,e2,e3,e8,A9 zb,hln,C1,h1,b2]
     refine hJ _ _ _ ⟨?_,?_,?_,?_,hno (by simp[Lx,h2]),G⟩
     all_goals simp +contextual (disch:=omega) only[go_sem,e0,e1,e2,e3]
    |true=>
     have b2:(s.tallies[i].rep==rep)=true:=h2
     have hf:=Abh hi ha (by simp only[Lx,h1,h2];rfl)
     have hsb:=hs _ (Zak hi)
     have w1:IntKind.i64.wrap (s.tallies[i].sum+val)=s.tallies[i].sum+val:=Ff (by omega) (by omega)
     have C2:=Ae (G.sl 1 rfl) hi
     obtain⟨τ1,s1,H1⟩:=G.ste 1 rfl hi 1 2 (gi (addM s.tallies[i].sum val)) {s.tallies[i] with sum:=addM s.tallies[i].sum val} rfl (by decide) (by decide) rfl
     have s1:stG 1 _ (fld 2 (atz 3 v1 i)) (.int .i64 ((s.tallies[i].sum+val).tmod 1000000))=some (.tup [],τ1):=s1
     have zc:=G.pt 4 rfl
     simp +contextual (disch:=omega) only[go_sem,c0,e0,e1,e2,e3,e8,A9 zb,A9 zc,hln,C1,C2,h1,b2,A0,w1,s1]
     refine hW _ _ ⟨v0,v1,v2,v3,?_⟩
     have hE:G0 s.tallies o rep val=s.tallies.set i {s.tallies[i] with sum:=addM s.tallies[i].sum val}:=by
      unfold G0
      rw[hf]
      simp only[]
      rw[Mv _ hi]
     show Hp σ0 τ1 (ow pI.kd v0 s.know::ow Am.kd v1 (G0 s.tallies o rep val)::ow As.kd v2 s.lives::ow Ag.kd v3 s.cells::pt 1 g [v0,v1,v2,v3]::rest)
     rw[hE]
     exact H1
  ·clear H
   rintro Y hY env τ e8 c0 ⟨e0,e1,e2,e3,ha,H⟩
   have hln:=(H.sl 1 rfl).len
   have hnf:s.tallies.findIdx? (Lx o rep)=none:=by
    rw[Za1]
    intro t ht
    obtain⟨j,hj,rfl⟩:=Zai ht
    exact ha j hj hj
   simp +contextual (disch:=omega) only[go_sem,c0,e0,e1,e2,e3,e8,A9 (H.pt 4 rfl),hln]
   refine hY _ _ ⟨?_,?_,?_,?_,hnf,H⟩
   all_goals simp +contextual (disch:=omega) only[go_sem,e0,e1,e2,e3]
  ·clear H
   rintro env τ ⟨e0,e1,e2,e3,hnf,H⟩
   have hE:G0 s.tallies o rep val=insB Ak ⟨o,rep,val⟩ s.tallies:=by unfold G0;rw[hnf]
   rw[hE]
   have H:=H.nil_Tally
   simp +contextual (disch:=omega) only[go_sem,e0,e1,e2,e3]
   refine M0 s.tallies.length 12 2 (fun i env τ=>env 0= .ptr g 0/\env 1= .str o/\env 2=gi rep/\env 3=gi val/\∃(u:GV) (put:Bool) (nxt:List Tally),env 10=u/\env 11= .bool put/\insG Ak ⟨o,rep,val⟩ s.tallies nxt i put/\Hp σ0 τ (ow Am.kd u nxt::ow pI.kd v0 s.know::ow Am.kd v1 s.tallies::ow As.kd v2 s.lives::ow Ag.kd v3 s.cells::pt 1 g [v0,v1,v2,v3]::rest)) (fun env τ=>env 0= .ptr g 0/\env 1= .str o/\env 2=gi rep/\env 3=gi val/\∃(u:GV) (put:Bool) (nxt:List Tally),env 10=u/\env 11= .bool put/\insG Ak ⟨o,rep,val⟩ s.tallies nxt s.tallies.length put/\Hp σ0 τ (ow Am.kd u nxt::ow pI.kd v0 s.know::ow Am.kd v1 s.tallies::ow As.kd v2 s.lives::ow Ag.kd v3 s.cells::pt 1 g [v0,v1,v2,v3]::rest)) rfl ⟨by simp +contextual (disch:=omega) only[go_sem,e0],by simp +contextual (disch:=omega) only[go_sem,e1],by simp +contextual (disch:=omega) only[go_sem,e2],by simp +contextual (disch:=omega) only[go_sem,e3],_,false,[],by simp +contextual (disch:=omega) only[go_sem],by simp +contextual (disch:=omega) only[go_sem],V5,H⟩ ?_ ?_ ?_
   ·clear H e0 e1 e2 e3
    rintro J Y hJ hY i env τ hi e12 c0 ⟨e0,e1,e2,e3,u,put,nxt,e10,e11,hok,H⟩
    have hnl:=E8 hok
    have C1:=Ae (H.sl 2 rfl) hi
    have hln:=(H.sl 2 rfl).len
    have zb:=H.pt 5 rfl
    have G:=H.grow (pre1 τ (some (Blk.row 1 (A5o s.tallies[i]))))
    have hlt:Ak ⟨o,rep,val⟩ s.tallies[i]=(txLt o s.tallies[i].obj||(decide (s.tallies[i].obj=o)&&decide (rep<s.tallies[i].rep))):=by
     unfold Ak
     have:decide (o=s.tallies[i].obj)=decide (s.tallies[i].obj=o):=by rw[decide_eq_decide];exact eq_comm
     rw[this]
    have HN:=H.new 1 (A5o s.tallies[i])
    cases put with
    |true=>
     obtain⟨w',τ3,e8,H3⟩:=G.app_Tally 0 rfl s.tallies[i] (by omega)
     simp +contextual (disch:=omega) only[go_sem,c0,e0,e1,e2,e3,e10,e11,e12,A9 zb,hln,C1,Zbl,e8]
     refine hJ _ _ _ ⟨?_,?_,?_,?_,w',true,_,?_,?_,Fh hok hi (.inl rfl),H3⟩
     all_goals simp +contextual (disch:=omega) only[go_sem,e0,e1,e2,e3,e11]
    |false=>
     cases h1:txLt o s.tallies[i].obj with
     |true=>
      have hq:Ak ⟨o,rep,val⟩ s.tallies[i]=true:=by rw[hlt,h1];rfl
      have hp:=Pn hok hi hq
      have hnl2:=E8 hp
      simp only[Zag,Za5,Zba] at hnl2
      obtain⟨w4,τ4,e9,H4⟩:=HN.app_Tally 1 rfl ⟨o,rep,val⟩ (by omega)
      have H4:Hp σ0 τ4 (pt 1 τ.length (A5o s.tallies[i])::ow Am.kd w4 (nxt++[⟨o,rep,val⟩])::ow pI.kd v0 s.know::ow Am.kd v1 s.tallies::ow As.kd v2 s.lives::ow Ag.kd v3 s.cells::pt 1 g [v0,v1,v2,v3]::rest):=H4
      have zx:=A9 (a:=true) (n:=3) (off:=0) (H4.pt 0 rfl)
      obtain⟨w5,τ5,e13,H5⟩:=H4.app_Tally 1 rfl s.tallies[i] (by simp;omega)
      simp +contextual (disch:=omega) only[go_sem,c0,e0,e1,e2,e3,e10,e11,e12,A9 zb,hln,C1,Zap,h1,e9,zx,e13]
      refine hJ _ _ _ ⟨?_,?_,?_,?_,w5,true,_,?_,?_,hp,H5.drop1⟩
      all_goals simp +contextual (disch:=omega) only[go_sem,e0,e1,e2,e3,e11]
     |false=>
      cases h2:decide (s.tallies[i].obj=o) with
      |false=>
       obtain⟨w',τ3,e8,H3⟩:=G.app_Tally 0 rfl s.tallies[i] (by omega)
       simp +contextual (disch:=omega) only[go_sem,c0,e0,e1,e2,e3,e10,e11,e12,A9 zb,hln,C1,Zap,h1,h2,e8]
       refine hJ _ _ _ ⟨?_,?_,?_,?_,w',false,_,?_,?_,Fh hok hi (.inr (by rw[hlt,h1,h2];rfl)),H3⟩
       all_goals simp +contextual (disch:=omega) only[go_sem,e0,e1,e2,e3,e11]
      |true=>
       cases h3:decide (rep<s.tallies[i].rep) with
       |true=>
        have hq:Ak ⟨o,rep,val⟩ s.tallies[i]=true:=by rw[hlt,h1,h2,h3];rfl
        have hp:=Pn hok hi hq
        have hnl2:=E8 hp
        simp only[Zag,Za5,Zba] at hnl2
        obtain⟨w4,τ4,e9,H4⟩:=HN.app_Tally 1 rfl ⟨o,rep,val⟩ (by omega)
        have H4:Hp σ0 τ4 (pt 1 τ.length (A5o s.tallies[i])::ow Am.kd w4 (nxt++[⟨o,rep,val⟩])::ow pI.kd v0 s.know::ow Am.kd v1 s.tallies::ow As.kd v2 s.lives::ow Ag.kd v3 s.cells::pt 1 g [v0,v1,v2,v3]::rest):=H4
        have zx:=A9 (a:=true) (n:=3) (off:=0) (H4.pt 0 rfl)
        obtain⟨w5,τ5,e13,H5⟩:=H4.app_Tally 1 rfl s.tallies[i] (by simp;omega)
        simp +contextual (disch:=omega) only[go_sem,c0,e0,e1,e2,e3,e10,e11,e12,A9 zb,hln,C1,Zap,h1,h2,h3,e9,zx,e13]
        refine hJ _ _ _ ⟨?_,?_,?_,?_,w5,true,_,?_,?_,hp,H5.drop1⟩
        all_goals simp +contextual (disch:=omega) only[go_sem,e0,e1,e2,e3,e11]
       |false=>
        obtain⟨w',τ3,e8,H3⟩:=G.app_Tally 0 rfl s.tallies[i] (by omega)
        simp +contextual (disch:=omega) only[go_sem,c0,e0,e1,e2,e3,e10,e11,e12,A9 zb,hln,C1,Zap,h1,h2,h3,e8]
        refine hJ _ _ _ ⟨?_,?_,?_,?_,w',false,_,?_,?_,Fh hok hi (.inr (by rw[hlt,h1,h2,h3];rfl)),H3⟩
        all_goals simp +contextual (disch:=omega) only[go_sem,e0,e1,e2,e3,e11]
   ·clear H e0 e1 e2 e3
    rintro Y hY env τ e12 c0 ⟨e0,e1,e2,e3,u,put,nxt,e10,e11,hok,H⟩
    have hln:=(H.sl 2 rfl).len
    simp +contextual (disch:=omega) only[go_sem,c0,e0,e1,e2,e3,e10,e11,e12,A9 (H.pt 5 rfl),hln]
    refine hY _ _ ⟨?_,?_,?_,?_,u,put,nxt,?_,?_,hok,H⟩
    all_goals simp +contextual (disch:=omega) only[go_sem,e0,e1,e2,e3,e10,e11]
   ·clear H e0 e1 e2 e3
    rintro env τ ⟨e0,e1,e2,e3,u,put,nxt,e10,e11,hok,H⟩
    have hnl:=E8 hok
    have hend:=V6 hok
    cases put with
    |true=>
     have c1:=(H.sl 0 rfl).cell
     obtain⟨τ1,s1,H1,_⟩:=H.st 5 rfl 1 1 u (by rw[c1];rfl) (by decide) (by simp)
     simp +contextual (disch:=omega) only[go_sem,e0,e1,e2,e3,e10,e11,Zbl,s1]
     refine⟨_,rfl,rfl,v0,u,v2,v3,?_⟩
     simp only[c1,Zam,Zan,G6,G5,Hl] at H1
     rw[<- hend]
     exact Hp.moveTo H1 1 rfl
    |false=>
     obtain⟨w',τ3,e8,H3⟩:=H.app_Tally 0 rfl ⟨o,rep,val⟩ (by omega)
     have H3:Hp σ0 τ3 (ow Am.kd w' (nxt++[⟨o,rep,val⟩])::ow pI.kd v0 s.know::ow Am.kd v1 s.tallies::ow As.kd v2 s.lives::ow Ag.kd v3 s.cells::pt 1 g [v0,v1,v2,v3]::rest):=H3
     have c1:=(H3.sl 0 rfl).cell
     obtain⟨τ1,s1,H1,_⟩:=H3.st 5 rfl 1 1 w' (by rw[c1];rfl) (by decide) (by simp)
     simp +contextual (disch:=omega) only[go_sem,e0,e1,e2,e3,e10,e11,Zap,e8,s1]
     refine⟨_,rfl,rfl,v0,w',v2,v3,?_⟩
     simp only[c1,Zam,Zan,G6,G5,Hl] at H1
     rw[<- hend]
     exact Hp.moveTo H1 1 rfl
  ·clear H
   rintro env τ h
   simp +contextual (disch:=omega) only[go_sem]
   exact⟨_,rfl,rfl,h⟩
 obtain⟨r,τ,R,rfl,h⟩:=key
 exact⟨τ,R,h⟩
abbrev Ww:Nat:=249
def A5s:Fn1:=⟨127,[],(rg [oX 3 1] (dw [oM 4 0,oK 5 4,oF 6 0 5,oL 7 6,oF 8 0 3,oF 9 0 8,oL 10 9,oF 11 0 3,oF 12 1 11,oL 13 12] [oI 14 1 7 10,oS 1 14 13] (rg [oF 15 4 3,oL 16 15] (.blk 0 (rg [oE 18 .eql 16 1,oM 17 18] (cn 17 (.reg [oM 19 0,oF 20 5 3,oL 21 20,oF 22 0 3,oF 23 0 22,oL 24 23,oF 25 7 3,oL 26 25,o 27 (.call 319 [(.t 19),(.t 21),(.t 24),(.t 26)])]) (rg [oE 29 .eql 16 2,oM 28 29] (cn 28 (.drw [oM 30 0,oM 31 0,oK 32 31,oF 33 2 32,oL 34 33,oF 35 5 3,oL 36 35,oF 37 6 3,oL 38 37,oF 39 0 3,oW 40 2 39] [o 41 (.build [(.bool false),s0,s0,z0,z0,z0] [(1,1,(.t 36)),(2,1,(.t 38)),(4,2,(.t 40))]),oD 42 320 34 41,oK 43 30,oF 44 2 43,oS 1 44 42]) (rg [oE 46 .eql 16 3,oM 45 46] (cn 45 (.reg [oM 47 0,oF 48 5 3,oL 49 48,oF 50 6 3,oL 51 50,oF 52 3 3,oL 53 52,o 54 (.call 321 [(.t 47),kf,(.t 49),(.t 51),(.t 53)])]) (rg [oE 56 .eql 16 4,oM 55 56] (cn 55 (rg [oM 57 0,oF 58 5 3,oL 59 58,oF 60 6 3,oL 61 60,oF 62 3 3,oL 63 62,o 64 (.call 321 [(.t 57),kt,(.t 59),(.t 61),(.t 63)])] (.drw [oM 65 0,oM 66 0,oK 67 66,oF 68 2 67,oL 69 68,oF 70 5 3,oL 71 70,oF 72 6 3,oL 73 72,oF 74 7 3,oL 75 74,oF 76 0 3,oW 77 2 76] [o 78 (.build [(.bool false),s0,s0,z0,z0,z0] [(0,1,kt),(1,1,(.t 71)),(2,1,(.t 73)),(3,1,(.t 75)),(4,2,(.t 77))]),oD 79 320 69 78,oK 80 65,oF 81 2 80,oS 1 81 79])) (rg [oE 83 .eql 16 5,oM 82 83] (cn 82 (.reg [oM 84 0,oF 85 5 3,oL 86 85,oF 87 6 3,oL 88 87,oF 89 3 3,oL 90 89,o 91 (.call 321 [(.t 84),kt,(.t 86),(.t 88),(.t 90)])]) (rg [oE 93 .eql 16 6,oM 92 93] (cn 92 (.drw [oM 94 0,oM 95 0,oK 96 95,oF 97 3 96,oL 98 97,oF 99 5 3,oL 100 99,oF 101 0 3,oW 102 2 101,oF 103 2 3,oL 104 103,oF 105 8 3,oW 106 2 105,oF 107 7 3,oL 108 107] [o 109 (.build [s0,z0,z0,z0,z0,z0,z0,(.bool false)] [(0,1,(.t 100)),(1,2,(.t 102)),(3,1,(.t 104)),(4,2,(.t 106)),(6,1,(.t 108))]),oD 110 322 98 109,oK 111 94,oF 112 3 111,oS 1 112 110]) (rg [oE 114 .eql 16 7,oM 113 114] (cn 113 (.drw [oM 115 0,oK 116 115,oF 117 3 116,oL 118 117,oM 119 0,oK 120 119,oW 121 4 120,oF 122 8 3,oW 123 2 122,oD 124 146 121 123] [oI 125 8 118 124,oF 126 7 125,on (.st 1 (.t 126) kt)]) .skip))))))))))))))))))⟩
theorem Abi:A6 Tryz.prog Ww=some A5s:=by kernel_rfl
abbrev Wx:Nat:=140
def A5t:Fn1:=⟨57,[.c 4 true 4,.t 5],(rg [oX 2 0,oX 3 1,o 4 (.new [.nilS,.nilS,.nilS,.nilS]),oV 5 (ki 0)] (rg [oW 7 4 2,oC 8 247 7,o 6 (.new [.nilS,.nilS,.nilS,.nilS]),oS 4 6 8] (.seq (rg [oW 9 4 2,oC 10 199 9,oU 11 10,oM 12 11,vW 13 12 10 3,vC 14 12 185 13,vU 15 12 14,oP 16 12 15] (cn 16 (rg [oW 17 4 6,oS 4 4 17,oV 5 (ki 3)] .ret) .skip)) (.seq (rg [oF 18 0 2,oL 19 18,oF 20 0 3,oW 21 2 20,oD 22 45 19 21] (cn 22 (rg [oW 23 4 6,oS 4 4 23,oV 5 (ki 1)] .ret) .skip)) (.seq (rg [oF 24 3 3,oL 25 24,oF 26 0 2,oL 27 26,oD 28 178 25 27,oU 29 28] (cn 29 (rg [oW 30 4 6,oS 4 4 30,oV 5 (ki 2)] .ret) .skip)) (.seq (rg [oW 31 4 2,oW 32 10 3,oD 33 248 31 32,oU 34 33] (cn 34 (rg [oW 35 4 6,oS 4 4 35,oV 5 (ki 3)] .ret) .skip)) (rg [oW 36 10 3,oD 37 249 6 36] (.seq (rg [oF 38 1 6,oL 39 38,oN 40 39,oE 41 .gtr 40 120,oM 42 41,vF 43 42 2 6,vL 44 42 43,og 45 42 false (.len false (.t 44)),vE 46 42 .gtr 45 120,oP 47 42 46,oM 48 47,vF 49 48 3 6,vL 50 48 49,og 51 48 false (.len false (.t 50)),vE 52 48 .gtr 51 120,oP 53 48 52] (cn 53 (rg [oW 54 4 2,oC 55 247 54,oS 4 4 55,oV 5 (ki 4)] .ret) .skip)) (rg [oW 56 4 6,oS 4 4 56,oV 5 (ki 0)] .ret)))))))))⟩
theorem Abj:A6 Tryz.prog Wx=some A5t:=by kernel_rfl
theorem Adn {a:Act} (h:Eb a=true):(0<=a.dot.rep/\a.dot.rep<=2)/\(1<=a.kind/\a.kind<=7)/\(0<=a.val/\a.val<=999999)/\a.knew.length=3:=by
 simp only[Eb,Dk,Bo,Zaa] at h
 obtain⟨⟨h1,h2,_⟩,⟨h3,_,_,h4⟩,_⟩:=h
 refine⟨(Lo.1 h1).1,Ck.1 h3,?_,Cw h2⟩
 simp only[Lp,Zbb,beq_iff_eq,Zaa,Ck] at h4
 rcases h4 with h4|⟨_,h4⟩
 ·omega
 ·exact h4
theorem Ado {s:State} (h:Au s=true):s.know.length=3/\∀ t∈s.tallies,-1000000<=t.sum/\t.sum<=1000000:=by
 simp only[Au,Zaa] at h
 obtain⟨h1,h2,_⟩:=h
 refine⟨Cw h1,fun t ht=> ?_⟩
 simp only[Dp,Zaa,Bl,talP] at h2
 obtain⟨i,hi,rfl⟩:=Zai ht
 have:=(h2.1 i hi).1
 rw[Bn hi] at this
 simp only[tal1,Zaa,Ck] at this
 omega
theorem SPtr.drop {σ0 τ:St} {g:Nat} {s:State} {x:Thg} {rest:List Thg} (H:SPtr σ0 τ g s (x::rest)):SPtr σ0 τ g s rest:=by
 obtain⟨v0,v1,v2,v3,H⟩:=H
 exact⟨v0,v1,v2,v3,(H.pick 5 rfl).drop1⟩
theorem SPtr.push {σ0 τ:St} {g:Nat} {s:State} {rest:List Thg} (H:SPtr σ0 τ g s rest) (z:Nat) (cs:List GV):SPtr σ0 (τ++[some (.row z cs)]) g s (pt z τ.length cs::rest):=by
 obtain⟨v0,v1,v2,v3,H⟩:=H
 refine⟨v0,v1,v2,v3,?_⟩
 exact(H.new z cs).perm (List.perm_middle (l₁:=[_,_,_,_,_])).symm
abbrev actV (a:Act) (kv:GV):List GV:=[.int .i64 a.dot.rep,.int .i64 a.dot.seq,.int .i64 a.time,kv,.int .i64 a.kind,.str a.obj,.str a.key,.int .i64 a.val,.int .i64 a.ref.rep,.int .i64 a.ref.seq]
theorem A8u {s:State} {i:Nat} {x:Int}:Aa {s with know:=s.know.set i x}=Aa s:=by simp[Aa]
theorem A8v {σ0 σ:St} {g:Nat} {s:State} {rest:List Thg} (H:SPtr σ0 σ g s rest) (a:Act) (kv:GV) (hk:RS pI.kd σ0 kv a.knew) (hok:Au s=true) (hao:Eb a=true) (hri:Ui s a=true) (hl:Aa s<=1099511627776):∃ τ,Ret Tryz.prog Ww [.ptr g 0,.agg (actV a kv)] σ (.tup []) τ/\SPtr σ0 τ g (Lz s a) rest:=by
 obtain⟨⟨f1,f2⟩,⟨f3,f4⟩,⟨f5,f6⟩,f7⟩:=Adn hao
 obtain⟨t1,t2⟩:=Ado hok
 obtain⟨r,hr⟩:∃ r:Nat,a.dot.rep=(r:Int):=⟨a.dot.rep.toNat,by omega⟩
 have hrl:r<s.know.length:=by omega
 have key:∃ q τ,Ret Tryz.prog Ww [.ptr g 0,.agg (actV a kv)] σ q τ/\q= .tup []/\SPtr σ0 τ g (Lz s a) rest:=by
  refine Ea Abi (Z0z rfl) ?_
  have H:=H.push 1 (actV a kv)
  obtain⟨v0,v1,v2,v3,H⟩:=H
  have i0:=RdN.iad (H.sl 0 rfl) hrl
  have i0:iadG 1 v0 (some r)=some (atz 1 v0 r):=i0
  have n0:B8 (some (.int .i64 a.dot.rep))=some r:=by rw[hr];exact A0
  obtain⟨τ1,st0,H1⟩:=H.stw 0 rfl (j:=r) hrl 1 (gi a.dot.seq) a.dot.seq rfl rfl (by decide)
  have st0:stG 1 _ (atz 1 v0 r) (.int .i64 a.dot.seq)=some (.tup [],τ1):=st0
  have H1:Hp σ0 τ1 (ow pI.kd v0 (s.know.set r a.dot.seq)::ow Am.kd v1 s.tallies::ow As.kd v2 s.lives::ow Ag.kd v3 s.cells::pt 1 g [v0,v1,v2,v3]::pt 1 σ.length (actV a kv)::rest):=H1
  obtain⟨s1,hs1⟩:∃ s1:State,s1={s with know:=s.know.set r a.dot.seq}:=⟨_,rfl⟩
  have hm1:Aa s1<=1099511627776:=by rw[hs1,A8u];exact hl
  have hdo:Lz s a=Gp s1 a:=by
   unfold Lz
   rw[hs1,hr];simp
  have S1:SPtr σ0 τ1 g s1 (pt 1 σ.length (actV a kv)::rest):=by rw[hs1];exact⟨v0,v1,v2,v3,H1⟩
  obtain⟨l1,l2,l3,l4,_⟩:=Av hl
  rw[hdo]
  have e1:s1.tallies=s.tallies:=by rw[hs1]
  have e2:s1.lives=s.lives:=by rw[hs1]
  have e3:s1.cells=s.cells:=by rw[hs1]
  simp +contextual (disch:=omega) only[go_sem,A5s,A9 (H.pt 4 rfl),n0,i0,st0,A9 (H1.pt 5 rfl)]
  by_cases k1:a.kind=1
  ·have b1:(a.kind==1)=true:=by simp[k1]
   have hd:Gp s1 a={s1 with tallies:=G0 s1.tallies a.obj a.dot.rep a.val}:=by unfold Gp;rw[if_pos k1]
   rw[hd]
   obtain⟨τ2,R2,S2⟩:=J5 S1 a.obj a.dot.rep a.val hm1 (by omega) (by rw[e1];exact t2)
   simp +contextual (disch:=omega) only[go_sem,b1,A9 (H1.pt 5 rfl)]
   refine Ao R2 ?_
   simp +contextual (disch:=omega) only[go_sem]
   exact⟨_,rfl,rfl,S2.drop⟩
  have b1:(a.kind==1)=false:=by simp[k1]
  by_cases k2:a.kind=2
  ·have b2:(a.kind==2)=true:=by simp[k2]
   have hd:Gp s1 a={s1 with lives:=Ke ⟨false,a.obj,a.key,0,a.dot⟩ s1.lives}:=by unfold Gp;rw[if_neg k1,if_pos k2]
   rw[hd,e2]
   obtain⟨w,τ2,R2,K2⟩:=Ki τ1 v2 s.lives (H1.sl 2 rfl) ⟨false,a.obj,a.key,0,a.dot⟩ l3
   have H2:=H1.add K2
   simp only[Zac,Zaf] at H2
   have c1:=(H2.sl 0 rfl).cell
   obtain⟨τ3,st3,H3,_⟩:=H2.st 5 rfl 1 2 w (by rw[c1];rfl) (by decide) (by simp)
   simp +contextual (disch:=omega) only[go_sem,b1,b2,A9 (H1.pt 4 rfl),A9 (H1.pt 5 rfl)]
   refine P3 R2 K2 ?_
   simp +contextual (disch:=omega) only[go_sem,st3]
   refine⟨_,rfl,rfl,v0,v1,w,v3,?_⟩
   simp only[c1,Zam,Zan,G6,G5,Hl] at H3
   rw[hs1]
   exact((Hp.moveTo H3 2 rfl).pick 5 rfl).drop1
  have b2:(a.kind==2)=false:=by simp[k2]
  by_cases k3:a.kind=3
  ·have b3:(a.kind==3)=true:=by simp[k3]
   have hd:Gp s1 a={s1 with lives:=s1.lives.filter (Uh false a.obj a.key a.knew)}:=by unfold Gp;rw[if_neg k1,if_neg k2,if_pos k3]
   rw[hd]
   obtain⟨τ2,R2,S2⟩:=J4 S1 false a.obj a.key kv a.knew hk hm1 (by omega)
   simp +contextual (disch:=omega) only[go_sem,b1,b2,b3,A9 (H1.pt 5 rfl)]
   refine Ao R2 ?_
   simp +contextual (disch:=omega) only[go_sem]
   exact⟨_,rfl,rfl,S2.drop⟩
  have b3:(a.kind==3)=false:=by simp[k3]
  by_cases k4:a.kind=4
  ·have b4:(a.kind==4)=true:=by simp[k4]
   have hd:Gp s1 a={s1 with lives:=Ke ⟨true,a.obj,a.key,a.val,a.dot⟩ (s1.lives.filter (Uh true a.obj a.key a.knew))}:=by unfold Gp;rw[if_neg k1,if_neg k2,if_neg k3,if_pos k4]
   rw[hd,e2]
   obtain⟨τ2,R2,u0,u1,u2,u3,H2⟩:=J4 S1 true a.obj a.key kv a.knew hk hm1 (by omega)
   have hfl:=Zb2 (Uh true a.obj a.key a.knew) s.lives
   have H2l:=H2.sl 2 rfl
   have H2l:RS As.kd τ2 u2 (s.lives.filter (Uh true a.obj a.key a.knew)):=by rw[<- e2];exact H2l
   obtain⟨w,τ3,R3,K3⟩:=Ki τ2 u2 _ H2l ⟨true,a.obj,a.key,a.val,a.dot⟩ (by omega)
   have H3:=H2.add K3
   simp only[Zac,Zaf] at H3
   have c1:=(H3.sl 0 rfl).cell
   obtain⟨τ4,st4,H4,_⟩:=H3.st 5 rfl 1 2 w (by rw[c1];rfl) (by decide) (by simp)
   simp +contextual (disch:=omega) only[go_sem,b1,b2,b3,b4,A9 (H1.pt 5 rfl)]
   refine Ao R2 ?_
   simp +contextual (disch:=omega) only[go_sem,A9 (H2.pt 4 rfl),A9 (H2.pt 5 rfl)]
   refine P3 R3 K3 ?_
   simp +contextual (disch:=omega) only[go_sem,st4]
   refine⟨_,rfl,rfl,u0,u1,w,u3,?_⟩
   simp only[c1,Zam,Zan,G6,G5,Hl] at H4
   exact((Hp.moveTo H4 2 rfl).pick 5 rfl).drop1
  have b4:(a.kind==4)=false:=by simp[k4]
  by_cases k5:a.kind=5
  ·have b5:(a.kind==5)=true:=by simp[k5]
   have hd:Gp s1 a={s1 with lives:=s1.lives.filter (Uh true a.obj a.key a.knew)}:=by unfold Gp;rw[if_neg k1,if_neg k2,if_neg k3,if_neg k4,if_pos k5]
   rw[hd]
   obtain⟨τ2,R2,S2⟩:=J4 S1 true a.obj a.key kv a.knew hk hm1 (by omega)
   simp +contextual (disch:=omega) only[go_sem,b1,b2,b3,b4,b5,A9 (H1.pt 5 rfl)]
   refine Ao R2 ?_
   simp +contextual (disch:=omega) only[go_sem]
   exact⟨_,rfl,rfl,S2.drop⟩
  have b5:(a.kind==5)=false:=by simp[k5]
  by_cases k6:a.kind=6
  ·have b6:(a.kind==6)=true:=by simp[k6]
   have hd:Gp s1 a={s1 with cells:=Ly ⟨a.obj,a.dot,a.time,a.ref,a.val,false⟩ s1.cells}:=by unfold Gp;rw[if_neg k1,if_neg k2,if_neg k3,if_neg k4,if_neg k5,if_pos k6]
   rw[hd,e3]
   obtain⟨w,τ2,R2,K2⟩:=Pu τ1 v3 s.cells (H1.sl 3 rfl) ⟨a.obj,a.dot,a.time,a.ref,a.val,false⟩ l4
   have H2:=H1.add K2
   simp only[Zac,Zaf] at H2
   have c1:=(H2.sl 0 rfl).cell
   obtain⟨τ3,st3,H3,_⟩:=H2.st 5 rfl 1 3 w (by rw[c1];rfl) (by decide) (by simp)
   simp +contextual (disch:=omega) only[go_sem,b1,b2,b3,b4,b5,b6,A9 (H1.pt 4 rfl),A9 (H1.pt 5 rfl)]
   refine P3 R2 K2 ?_
   simp +contextual (disch:=omega) only[go_sem,st3]
   refine⟨_,rfl,rfl,v0,v1,v2,w,?_⟩
   simp only[c1,Zam,Zan,G6,G5,Hl] at H3
   rw[hs1]
   exact((Hp.moveTo H3 3 rfl).pick 5 rfl).drop1
  have b6:(a.kind==6)=false:=by simp[k6]
  have k7:a.kind=7:=by omega
  have b7:(a.kind==7)=true:=by simp[k7]
  have hd:Gp s1 a={s1 with cells:=Jl s1.cells a.ref}:=by unfold Gp;rw[if_neg k1,if_neg k2,if_neg k3,if_neg k4,if_neg k5,if_neg k6]
  rw[hd,e3]
  cases hx:Cf s.cells a.ref with
  |none=>simp[Ui,k7,hx] at hri
  |some k=>
   obtain⟨hkl,hke⟩:=C5 hx
   have hno:C9 s1.cells a.ref=k:=by simp[C9,e3,hx]
   have CA:=Il τ1 [v0,v1,v2,v3] s1 ⟨v0,v1,v2,v3,rfl,by rw[hs1];exact H1.sl 0 rfl,by rw[e1];exact H1.sl 1 rfl,by rw[e2];exact H1.sl 2 rfl,by rw[e3];exact H1.sl 3 rfl⟩ a.ref hm1
   rw[hno] at CA
   have C2:=A8 (H1.sl 3 rfl) hkl
   obtain⟨τ2,st2,H2⟩:=H1.ste 3 rfl hkl 1 7 (.bool true) {s.cells[k] with gone:=true} rfl (by decide) (by decide) rfl
   have st2:stG 1 τ1 (fld 7 (atz 8 v3 k)) (.bool true)=some (.tup [],τ2):=st2
   simp +contextual (disch:=omega) only[go_sem,b1,b2,b3,b4,b5,b6,b7,A9 (H1.pt 4 rfl),A9 (H1.pt 5 rfl),A4 (cs:=[v0,v1,v2,v3]) rfl]
   refine Af CA ?_
   simp +contextual (disch:=omega) only[go_sem,A0,C2,st2]
   refine⟨_,rfl,rfl,v0,v1,v2,v3,?_⟩
   have hE:Jl s.cells a.ref=s.cells.set k {s.cells[k] with gone:=true}:=by
    unfold Jl
    rw[hx]
    exact Mv _ hkl
   rw[hE,hs1]
   exact(H2.pick 5 rfl).drop1
 obtain⟨q,τ,R,rfl,h⟩:=key
 exact⟨τ,R,h⟩
theorem Afb {σ τ:St} {rs:List Thg} {x:State} {cs:List GV} {g:Nat} (H:Hp σ τ (pt 1 g cs::own A5 cs x::rs)):SPtr σ τ g x rs:=by
 obtain⟨v0,v1,v2,v3,rfl,H⟩:=(H.pick 1 rfl).splitState
 exact⟨v0,v1,v2,v3,H⟩
theorem SPtr.own {σ τ:St} {rs:List Thg} {x:State} {g:Nat} (H:SPtr σ τ g x rs):∃ v0 v1 v2 v3,rdB τ g=some [v0,v1,v2,v3]/\lenG false v1=some (x.tallies.length:Int)/\lenG false v2=some (x.lives.length:Int)/\lenG false v3=some (x.cells.length:Int)/\Hp σ τ (own A5 [v0,v1,v2,v3] x::rs):=by
 obtain⟨v0,v1,v2,v3,H⟩:=H
 refine⟨v0,v1,v2,v3,H.pt 4 rfl,(H.sl 1 rfl).len,(H.sl 2 rfl).len,(H.sl 3 rfl).len,?_⟩
 exact Hp.ownState ((H.pick 4 rfl).drop1)
theorem Kj (σ:St) (cs:List GV) (s:State) (hR:A5.R σ s cs) (as':List GV) (a:Act) (hS:kAct.R σ a as') (hl:Aa s<=1099511627776) (hm:Dm a<=1099511627776):∃ ds τ,Ret Tryz.prog Wx [.agg cs,.agg as'] σ (.tup [.agg ds,gi (Do s a).2]) τ/\Hp σ τ [own A5 ds (Do s a).1]:=by
 have hR0:=hR
 have hS0:=hS
 have hS1:∀ {τ:St},σ <+: τ->kAct.R τ a as':=fun h=>kAct.pre hS0 h
 obtain⟨a1,b1,c1,v1,rfl,hkn,_,_,_⟩:=hR
 obtain⟨kv,rfl,hkv⟩:=hS
 obtain⟨l1,l2,l3,l4,_⟩:=Av hl
 have hkl:a.knew.length<=1099511627776:=by unfold Dm at hm;omega
 have key:∃ q τ,Ret Tryz.prog Wx [.agg [a1,b1,c1,v1],.agg (actV a kv)] σ q τ/\∃ ds,q= .tup [.agg ds,gi (Do s a).2]/\Hp σ τ [own A5 ds (Do s a).1]:=by
  refine Ea Abj (Z0z rfl) ?_
  have H:=(((Hp.refl σ).new 1 [a1,b1,c1,v1]).new 1 (actV a kv)).new 1 [GV.nilS,GV.nilS,GV.nilS,GV.nilS]
  have z0:=H.pt 2 rfl
  simp +contextual (disch:=omega) only[go_sem,A5t,A9 z0,A4 (cs:=[a1,b1,c1,v1]) rfl]
  obtain⟨es,τ1,R1,K1⟩:=Cl _ _ s (A5.pre hR0 H.sub) hl
  refine P3 R1 K1 ?_
  have H:=H.add K1
  simp only[Zac,Zaf] at H
  have gl:es.length=4:=A5.len (K1.rd 0 rfl)
  have H:=H.new 1 es
  generalize hn6:τ1.length=n6 at*
  generalize hn4:(σ++[some (Blk.row 1 [a1,b1,c1,v1])]++[some (Blk.row 1 (actV a kv))]).length=n4 at*
  generalize hn2:(σ++[some (Blk.row 1 [a1,b1,c1,v1])]).length=n2 at*
  generalize hn1:σ.length=n1 at*
  simp +contextual (disch:=omega) only[go_sem,Ab (cs:=[GV.nilS,GV.nilS,GV.nilS,GV.nilS]) gl rfl,gl,A9 (H.pt 4 rfl),A4 (cs:=[a1,b1,c1,v1]) rfl]
  obtain⟨τr,sr,Hr,_⟩:=H.st 2 rfl 4 0 (.agg es) gl (by decide) (by simp)
  have zr:rdB τr n4=some (Aq [GV.nilS,GV.nilS,GV.nilS,GV.nilS] 0 es):=Hr.pt 2 rfl
  rw[Ab gl rfl] at zr
  refine Ac (C7 _ _ s (A5.pre hR0 H.sub) hl) (fun hok=> ?_) (fun hok=> ?_)
  rotate_left
  ·have hd:Do s a=(s,3):=by simp[Do,hok]
   simp +contextual (disch:=omega) only[go_sem,A9 (H.pt 0 rfl),A4 gl,sr,A9 zr]
   exact⟨_,rfl,es,by rw[hd],by rw[hd];exact(Hr.pick 1 rfl).one⟩
  simp +contextual (disch:=omega) only[go_sem,A9 (H.pt 3 rfl),A4 (cs:=actV a kv) rfl]
  refine Ac (Nx _ _ a (hS1 H.sub) hm) (fun hao=> ?_) (fun hao=> ?_)
  rotate_left
  ·have hd:Do s a=(s,3):=by simp[Do,hok,hao]
   simp +contextual (disch:=omega) only[go_sem,A9 (H.pt 0 rfl),A4 gl,sr,A9 zr]
   exact⟨_,rfl,es,by rw[hd],by rw[hd];exact(Hr.pick 1 rfl).one⟩
  simp +contextual (disch:=omega) only[go_sem,A9 (H.pt 3 rfl),A9 (H.pt 4 rfl)]
  refine Ac (Bt _ a1 s.know a.dot (hkn.pre H.sub) l1) (fun hkn1=> ?_) (fun hkn1=> ?_)
  ·have hd:Do s a=(s,1):=by simp[Do,hok,hao,hkn1]
   simp +contextual (disch:=omega) only[go_sem,A9 (H.pt 0 rfl),A4 gl,sr,A9 zr]
   exact⟨_,rfl,es,by rw[hd],by rw[hd];exact(Hr.pick 1 rfl).one⟩
  simp +contextual (disch:=omega) only[go_sem,A9 (H.pt 3 rfl),A9 (H.pt 4 rfl)]
  refine Ac (T6 _ kv a1 a.knew s.know (hkv.pre H.sub) (hkn.pre H.sub) hkl l1) (fun hkn2=> ?_) (fun hkn2=> ?_)
  rotate_left
  ·have hd:Do s a=(s,2):=by simp[Do,hok,hao,hkn1,hkn2]
   simp +contextual (disch:=omega) only[go_sem,A9 (H.pt 0 rfl),A4 gl,sr,A9 zr]
   exact⟨_,rfl,es,by rw[hd],by rw[hd];exact(Hr.pick 1 rfl).one⟩
  simp +contextual (disch:=omega) only[go_sem,A9 (H.pt 3 rfl),A9 (H.pt 4 rfl),A4 (cs:=actV a kv) rfl,A4 (cs:=[a1,b1,c1,v1]) rfl]
  refine Ac (A5r _ _ s (A5.pre hR0 H.sub) _ a (hS1 H.sub) hl) (fun hri=> ?_) (fun hri=> ?_)
  rotate_left
  ·have hd:Do s a=(s,3):=by simp[Do,hok,hao,hkn1,hkn2,hri]
   simp +contextual (disch:=omega) only[go_sem,A9 (H.pt 0 rfl),A4 gl,sr,A9 zr]
   exact⟨_,rfl,es,by rw[hd],by rw[hd];exact(Hr.pick 1 rfl).one⟩
  obtain⟨τ2,R2,S2⟩:=A8v (Afb H) a kv hkv hok hao hri hl
  simp +contextual (disch:=omega) only[go_sem,A9 (H.pt 3 rfl),A4 (cs:=actV a kv) rfl]
  rw[hn6]
  refine Ao R2 ?_
  obtain⟨w0,w1,w2,w3,z6,q1,q2,q3,H3⟩:=S2.own
  cases h1:decide (120<(Lz s a).tallies.length) with
  |true=>
   have ht:Gs (Lz s a)=true:=by simp[Gs,h1]
   have hd:Do s a=(s,4):=by simp[Do,hok,hao,hkn1,hkn2,hri,ht]
   simp +contextual (disch:=omega) only[go_sem,A9 z6,q1,q2,q3,Rk,h1,A9 (H3.pt 3 rfl),A4 (cs:=[a1,b1,c1,v1]) rfl]
   obtain⟨fs,τ4,R4,K4⟩:=Cl _ _ s (A5.pre hR0 H3.sub) hl
   refine P3 R4 K4 ?_
   have H4:=H3.add K4
   simp only[Zac,Zaf] at H4
   have gl4:fs.length=4:=A5.len (K4.rd 0 rfl)
   obtain⟨τ5,s5,H5,_⟩:=H4.st 2 rfl 4 0 (.agg fs) gl4 (by decide) (by simp)
   have z5:rdB τ5 n4=some (Aq [GV.nilS,GV.nilS,GV.nilS,GV.nilS] 0 fs):=H5.pt 2 rfl
   rw[Ab gl4 rfl] at z5
   simp +contextual (disch:=omega) only[go_sem,s5,A9 z5,A4 gl4]
   exact⟨_,rfl,fs,by rw[hd],by rw[hd];exact H5.one⟩
  |false=>
   cases h2:decide (120<(Lz s a).lives.length) with
   |true=>
    have ht:Gs (Lz s a)=true:=by simp[Gs,h1,h2]
    have hd:Do s a=(s,4):=by simp[Do,hok,hao,hkn1,hkn2,hri,ht]
    simp +contextual (disch:=omega) only[go_sem,A9 z6,q1,q2,q3,Rk,h1,h2,A9 (H3.pt 3 rfl),A4 (cs:=[a1,b1,c1,v1]) rfl]
    obtain⟨fs,τ4,R4,K4⟩:=Cl _ _ s (A5.pre hR0 H3.sub) hl
    refine P3 R4 K4 ?_
    have H4:=H3.add K4
    simp only[Zac,Zaf] at H4
    have gl4:fs.length=4:=A5.len (K4.rd 0 rfl)
    obtain⟨τ5,s5,H5,_⟩:=H4.st 2 rfl 4 0 (.agg fs) gl4 (by decide) (by simp)
    have z5:rdB τ5 n4=some (Aq [GV.nilS,GV.nilS,GV.nilS,GV.nilS] 0 fs):=H5.pt 2 rfl
    rw[Ab gl4 rfl] at z5
    simp +contextual (disch:=omega) only[go_sem,s5,A9 z5,A4 gl4]
    exact⟨_,rfl,fs,by rw[hd],by rw[hd];exact H5.one⟩
   |false=>
    cases h3:decide (120<(Lz s a).cells.length) with
    |true=>
     have ht:Gs (Lz s a)=true:=by simp[Gs,h1,h2,h3]
     have hd:Do s a=(s,4):=by simp[Do,hok,hao,hkn1,hkn2,hri,ht]
     simp +contextual (disch:=omega) only[go_sem,A9 z6,q1,q2,q3,Rk,h1,h2,h3,A9 (H3.pt 3 rfl),A4 (cs:=[a1,b1,c1,v1]) rfl]
     obtain⟨fs,τ4,R4,K4⟩:=Cl _ _ s (A5.pre hR0 H3.sub) hl
     refine P3 R4 K4 ?_
     have H4:=H3.add K4
     simp only[Zac,Zaf] at H4
     have gl4:fs.length=4:=A5.len (K4.rd 0 rfl)
     obtain⟨τ5,s5,H5,_⟩:=H4.st 2 rfl 4 0 (.agg fs) gl4 (by decide) (by simp)
     have z5:rdB τ5 n4=some (Aq [GV.nilS,GV.nilS,GV.nilS,GV.nilS] 0 fs):=H5.pt 2 rfl
     rw[Ab gl4 rfl] at z5
     simp +contextual (disch:=omega) only[go_sem,s5,A9 z5,A4 gl4]
     exact⟨_,rfl,fs,by rw[hd],by rw[hd];exact H5.one⟩
    |false=>
     have ht:Gs (Lz s a)=false:=by simp only[Gs,h1,h2,h3];rfl
     have hd:Do s a=(Lz s a,0):=by simp[Do,hok,hao,hkn1,hkn2,hri,ht]
     obtain⟨τ5,s5,H5,_⟩:=H3.st 1 rfl 4 0 (.agg [w0,w1,w2,w3]) rfl (by decide) (by simp)
     have z5:rdB τ5 n4=some [w0,w1,w2,w3]:=H5.pt 1 rfl
     simp +contextual (disch:=omega) only[go_sem,A9 z6,q1,q2,q3,Rk,h1,h2,h3,A4 (cs:=[w0,w1,w2,w3]) rfl,s5,A9 z5]
     exact⟨_,rfl,_,by rw[hd],by rw[hd];exact H5.one⟩
 obtain⟨q,τ,R,ds,rfl,h⟩:=key
 exact⟨ds,τ,R,h⟩
theorem A8w {s:State} (h:Au s=true):s.tallies.Pairwise (fun a b=>Ak a b=true)/\(∀ x∈s.lives,Ax s.know x.dot=true)/\∀ x∈s.cells,Ax s.know x.dot=true:=by
 simp only[Au,Zaa] at h
 obtain⟨_,h2,h3,h4,_⟩:=h
 refine⟨?_,fun x hx=> ?_,fun x hx=> ?_⟩
 ·simp only[Dp,Zaa,Bl,talP] at h2
  exact P6 (lt:=Ak) (fun a b c h1 h2=>Pm.trans _ _ _ h1 h2) fun i hi=>(h2.1 i hi).2
 ·simp only[Ig,Zaa,Bl,livP] at h3
  obtain⟨i,hi,rfl⟩:=Zai hx
  have:=(h3.1 i hi).1
  rw[Bn hi] at this
  exact this
 ·simp only[Gv,Zaa,Bl,celP] at h4
  obtain⟨i,hi,rfl⟩:=Zai hx
  have:=(h4.1 i hi).1
  rw[Bn hi] at this
  exact this
abbrev Tk:Nat:=198
def Tl:Fn1:=⟨34,[.t 4],(rg [oX 2 0,o 4 (.mov (.k .nilS))] (rg [o 9 (.lit 8 0 [] []),oM 5 9] (.seq (rg [oW 10 4 2,oM 11 1,oD 12 289 10 11,oN 13 12,oV 14 (ki 0)] (.blk 0 (.lop (rg [oB 15 .lss 14 13] (.seq (cn 15 .skip (.ext 0)) (.seq (.blk 1 (rg [oI 16 2 12 14,oW 17 2 16,o 7 (.new [z0,z0]),oS 2 7 17] (dw [oF 18 3 2,oL 19 18,oW 20 4 2,oW 21 2 7,oD 22 158 20 21,oI 23 8 19 22,oW 24 8 23,o 8 (.new [s0,z0,z0,z0,z0,z0,z0,(.bool false)])] [oS 8 8 24] (rg [oF 25 7 8,oL 26 25,oU 27 26] (cn 27 (.reg [oM 28 5,oW 29 8 8,o 30 (.lit 8 1 [s0,z0,z0,z0,z0,z0,z0,(.bool false)] [(0,8,(.t 29))]),o 31 (.app 8 72 [s0,z0,z0,z0,z0,z0,z0,(.bool false)] (.t 28) (.t 30)),oM 5 31]) .skip))))) (.reg [oZ 32 14 1,oM 14 32]))))))) (rg [oM 33 5,oM 4 33] .ret))))⟩
theorem A2w:A6 Tryz.prog Tk=some Tl:=by kernel_rfl
abbrev Tm:Nat:=76
def Tn:Fn1:=⟨45,[.t 4],(rg [oX 2 0,o 4 (.mov (.k .nilS))] (rg [o 9 (.lit 1 0 [] []),oM 5 9] (rg [oW 10 4 2,oM 11 1,oD 12 206 10 11,oM 6 12] (.seq (rg [oV 7 (ki 0)] (.blk 0 (.lop (.seq (rg [oM 13 7,oM 14 6,oN 15 14,oB 16 .lss 13 15] (cn 16 .skip (.ext 0))) (.seq (.blk 1 (dw [oW 19 4 2,oM 20 6,oM 21 7,oI 22 2 20 21,oW 23 2 22] [oD 24 146 19 23,oM 8 24] (rg [oM 25 8,oE 26 .geq 25 0,oM 27 26,jF 28 27 3 2,jL 29 27 28,jM 30 27 8,jI 31 27 8 29 30,jF 32 27 7 31,jL 33 27 32,jU 34 27 33,oQ 35 27 34] (cn 35 (.reg [oM 36 5,oM 37 6,oM 38 7,oI 39 2 37 38,oF 40 0 39,oL 41 40,o 42 (.lit 1 1 [z0] [(0,1,(.t 41))]),o 43 (.app 1 8 [z0] (.t 36) (.t 42)),oM 5 43]) .skip)))) (.reg [oM 17 7,oZ 18 17 1,oM 7 18])))))) (rg [oM 44 5,oM 4 44] .ret)))))⟩
theorem A2x:A6 Tryz.prog Tm=some Tn:=by kernel_rfl
abbrev To:Nat:=71
def Tp:Fn1:=⟨25,[.t 4],(rg [oX 2 0,o 4 (.mov (.k .nilS))] (rg [o 8 (.lit 1 0 [] []),oM 5 8] (.seq (rg [oW 9 4 2,oM 10 1,oD 11 198 9 10,oN 12 11,oV 13 (ki 0)] (.blk 0 (.lop (rg [oB 14 .lss 13 12] (.seq (cn 14 .skip (.ext 0)) (.seq (.blk 1 (rg [oI 15 8 11 13,oW 16 8 15,o 7 (.new [s0,z0,z0,z0,z0,z0,z0,(.bool false)]),oS 8 7 16] (.reg [oM 17 5,oF 18 1 7,oF 19 0 18,oL 20 19,o 21 (.lit 1 1 [z0] [(0,1,(.t 20))]),o 22 (.app 1 8 [z0] (.t 17) (.t 21)),oM 5 22]))) (.reg [oZ 23 13 1,oM 13 23]))))))) (rg [oM 24 5,oM 4 24] .ret))))⟩
theorem A2y:A6 Tryz.prog To=some Tp:=by kernel_rfl
def Bm (c:Cell):Bool:= !c.gone
theorem rowT (s:State) (o:ByteArray):∃ T:List Cell,rowD s o=T.map (·.dot)/\rowL s o=T.filter Bm/\T.length<=1200120/\∀ c∈T,∃ k,∃ hk:k<s.cells.length,C9 s.cells c.dot=k/\s.cells[k]=c:=by
 cases h:Au s with
 |true=>
  refine⟨rowC s o,by simp[rowD,h],by simp only[rowL,h,if_true];rfl,Mt (O4 h) o,fun c hc=> ?_⟩
  obtain⟨k,hk,h1,h2⟩:=Ade h hc
  exact⟨k,hk,by simp[C9,h1],h2⟩
 |false=>exact⟨[],by simp[rowD,h],by simp[rowL,h],by simp,fun c hc=>by simp at hc⟩
theorem Wy {l:List Cell} {i:Nat} (hi:i<l.length):(l.take (i+1)).filter Bm=if Bm l[i] then(l.take i).filter Bm++[l[i]] else(l.take i).filter Bm:=by
 rw[Gq hi]
 split<;>simp
theorem Zd (σ:St) (cs:List GV) (s:State) (hR:A5.R σ s cs) (o:ByteArray) (hl:Aa s<=1099511627776):∃ r τ,Ret Tryz.prog Tk [.agg cs,.str o] σ r τ/\Hp σ τ [ow Ag.kd r (rowL s o)]:=by
 have hR0:=hR
 obtain⟨a,b,c,v,rfl,_,_,_,hc⟩:=hR
 obtain⟨l1,l2,l3,l4,_⟩:=Av hl
 refine Ea A2w (Z0z rfl) ?_
 have H:=((Hp.refl σ).new 1 [a,b,c,v]).nil_Cell
 simp +contextual (disch:=omega) only[go_sem,Tl,Vn,Ix,A4 (cs:=[a,b,c,v]) rfl]
 obtain⟨r1,τ1,R1,K1⟩:=A2t _ _ s (A5.pre hR0 H.sub) o hl
 obtain⟨T,hT1,hT2,hT3,hT4⟩:=rowT s o
 rw[hT1] at K1
 rw[hT2]
 refine P3 R1 K1 ?_
 have H:=H.add K1
 simp only[Zac,Zaf] at H
 have hlen0:=(H.sl 0 rfl).len
 rw[Zbm] at hlen0
 simp +contextual (disch:=omega) only[go_sem,hlen0]
 generalize hn1:σ.length=n1 at*
 refine Jx T.length 14 (fun i env τ=>env 2= .ptr n1 0/\env 12=r1/\env 13=gi T.length/\∃ u,env 5=u/\Hp σ τ [ow Ag.kd u ((T.take i).filter Bm),ow pDot.kd r1 (T.map fun x:Cell=>x.dot),pt 1 n1 [a,b,c,v]]) rfl ⟨rfl,rfl,rfl,_,rfl,H.pick 1 rfl⟩ ?_ ?_
 ·clear H
  rintro J hJ i env τ hi e14 c0 ⟨e2,e12,e13,u,e5,H⟩
  have hfl:=E1 T Bm i
  have hsn:=Wy hi
  have C1:=Ky (H.sl 1 rfl) (i:=i) (by simpa using hi)
  rw[Zci] at C1
  obtain⟨k,hk,hk1,hk2⟩:=hT4 T[i] (Zak hi)
  have G:=H.grow (pre1 τ (some (Blk.row 1 [gi T[i].dot.rep,gi T[i].dot.seq])))
  have CA:=A5f _ _ s (A5.pre hR0 G.sub) T[i].dot hl
  rw[hk1] at CA
  have C2:=A8 (hc.pre G.sub) hk
  rw[hk2] at C2
  simp +contextual (disch:=omega) only[go_sem,c0,e2,e5,e12,e13,e14,C1,A9 (G.pt 2 rfl),A4 (cs:=[a,b,c,v]) rfl]
  refine Af CA ?_
  cases hg:T[i].gone with
  |true=>
   have hk0:Bm T[i]=false:=by simp[Bm,hg]
   rw[hk0,if_neg (by simp)] at hsn
   have G2:=G.grow (pre1 _ (some (Blk.row 1 [.str T[i].obj,gi T[i].dot.rep,gi T[i].dot.seq,gi T[i].time,gi T[i].ref.rep,gi T[i].ref.seq,gi T[i].val,.bool true])))
   simp +contextual (disch:=omega) only[go_sem,c0,e2,e5,e12,e13,e14,A0,C2,hg]
   refine hJ _ _ _ ⟨?_,?_,?_,u,?_,by rw[hsn];exact G2⟩
   all_goals simp +contextual (disch:=omega) only[go_sem,e2,e5,e12,e13,e14]
  |false=>
   have hk0:Bm T[i]=true:=by simp[Bm,hg]
   rw[hk0,if_pos rfl] at hsn
   have G2:=G.grow (pre1 _ (some (Blk.row 1 [.str T[i].obj,gi T[i].dot.rep,gi T[i].dot.seq,gi T[i].time,gi T[i].ref.rep,gi T[i].ref.seq,gi T[i].val,.bool false])))
   obtain⟨w',τ3,e8,H3⟩:=G2.app_Cell 0 rfl T[i] (by omega)
   simp only[hg] at e8
   simp +contextual (disch:=omega) only[go_sem,c0,e2,e5,e12,e13,e14,A0,C2,hg,e8]
   refine hJ _ _ _ ⟨?_,?_,?_,w',?_,by rw[hsn];exact H3⟩
   all_goals simp +contextual (disch:=omega) only[go_sem,e2,e5,e12,e13,e14]
 ·clear H
  rintro env τ e14 c0 ⟨e2,e12,e13,u,e5,H⟩
  rw[Za6] at H
  simp +contextual (disch:=omega) only[go_sem,c0,e2,e5,e12,e13,e14]
  exact⟨_,rfl,H.one⟩
theorem A2z (σ:St) (cs:List GV) (s:State) (hR:A5.R σ s cs) (o:ByteArray) (hl:Aa s<=1099511627776):∃ r τ,Ret Tryz.prog To [.agg cs,.str o] σ r τ/\Hp σ τ [ow pI.kd r (Mu s o)]:=by
 have hlen:=A5.len hR
 have hlen:cs.length=4:=hlen
 refine Ea A2y (Z0z rfl) ?_
 have H:=((Hp.refl σ).new 1 cs).nil_int
 simp +contextual (disch:=omega) only[go_sem,Tp,Vn,Ix,A4 hlen]
 obtain⟨r1,τ1,R1,K1⟩:=Zd _ cs s (A5.pre hR H.sub) o hl
 have hb:=Aad s o
 rw[Mu]
 generalize rowL s o=T at*
 refine P3 R1 K1 ?_
 have H:=H.add K1
 simp only[Zac,Zaf] at H
 have hlen0:=(H.sl 0 rfl).len
 simp +contextual (disch:=omega) only[go_sem,hlen0]
 generalize hn1:σ.length=n1 at*
 refine Jx T.length 13 (fun i env τ=>env 11=r1/\env 12=gi T.length/\∃ u,env 5=u/\Hp σ τ [ow pI.kd u ((T.take i).map (·.dot.rep)),ow Ag.kd r1 T,pt 1 n1 cs]) rfl ⟨rfl,rfl,_,rfl,H.pick 1 rfl⟩ ?_ ?_
 ·clear H
  rintro J hJ i env τ hi e13 c0 ⟨e11,e12,u,e5,H⟩
  have C1:=A8 (H.sl 1 rfl) hi
  have G:=H.grow (pre1 τ (some (Blk.row 1 (Rj T[i]))))
  obtain⟨w',τ3,e8,H3⟩:=G.app_int 0 rfl T[i].dot.rep (by simp;omega)
  simp +contextual (disch:=omega) only[go_sem,c0,e5,e11,e12,e13,C1,e8]
  refine hJ _ _ _ ⟨?_,?_,w',?_,?_⟩
  all_goals first|(simp +contextual (disch:=omega) only[go_sem,e5,e11,e12,e13];done)|skip
  rw[Zav hi,Zb3,Za0,Zcg]
  exact H3
 ·clear H
  rintro env τ e13 c0 ⟨e11,e12,u,e5,H⟩
  rw[Za6] at H
  simp +contextual (disch:=omega) only[go_sem,c0,e5,e11,e12,e13]
  exact⟨_,rfl,H.one⟩
theorem A30 (σ:St) (cs:List GV) (s:State) (hR:A5.R σ s cs) (o:ByteArray) (hl:Aa s<=1099511627776):∃ r τ,Ret Tryz.prog Tm [.agg cs,.str o] σ r τ/\Hp σ τ [ow pI.kd r (Mu s o)]:=by
 have hR0:=hR
 obtain⟨a,b,c,v,rfl,_,_,_,hc⟩:=hR
 obtain⟨l1,l2,l3,l4,_⟩:=Av hl
 refine Ea A2x (Z0z rfl) ?_
 have H:=((Hp.refl σ).new 1 [a,b,c,v]).nil_int
 simp +contextual (disch:=omega) only[go_sem,Tn,Vn,Ix,A4 (cs:=[a,b,c,v]) rfl]
 obtain⟨r1,τ1,R1,K1⟩:=A2s _ _ s (A5.pre hR0 H.sub) o hl
 obtain⟨T,hT1,hT2,hT3,hT4⟩:=rowT s o
 rw[hT1] at K1
 rw[Mu,hT2]
 refine P3 R1 K1 ?_
 have H:=H.add K1
 simp only[Zac,Zaf] at H
 simp +contextual (disch:=omega) only[go_sem]
 generalize hn1:σ.length=n1 at*
 refine Jx T.length 7 (fun i env τ=>env 2= .ptr n1 0/\env 6=r1/\∃ u,env 5=u/\Hp σ τ [ow pI.kd u (((T.take i).filter Bm).map (·.dot.rep)),ow pDot.kd r1 (T.map fun x:Cell=>x.dot),pt 1 n1 [a,b,c,v]]) rfl ⟨rfl,rfl,_,rfl,H.pick 1 rfl⟩ ?_ ?_
 ·clear H
  rintro J hJ i env τ hi e7 c0 ⟨e2,e6,u,e5,H⟩
  have hfl:=E1 T Bm i
  have hsn:=Wy hi
  have C1:=Ky (H.sl 1 rfl) (i:=i) (by simpa using hi)
  rw[Zci] at C1
  have hlen0:=(H.sl 1 rfl).len
  rw[Zbm] at hlen0
  obtain⟨k,hk,hk1,hk2⟩:=hT4 T[i] (Zak hi)
  have CA:=Il _ _ s (A5.pre hR0 H.sub) T[i].dot hl
  rw[hk1] at CA
  have C2:=A8 (hc.pre H.sub) hk
  rw[hk2] at C2
  have c9:decide ((0:Int)<=(k:Int))=true:=by simp
  simp +contextual (disch:=omega) only[go_sem,c0,e2,e5,e6,e7,hlen0,C1,A9 (H.pt 2 rfl),A4 (cs:=[a,b,c,v]) rfl]
  refine Af CA ?_
  cases hg:T[i].gone with
  |true=>
   have hk0:Bm T[i]=false:=by simp[Bm,hg]
   rw[hk0,if_neg (by simp)] at hsn
   simp +contextual (disch:=omega) only[go_sem,c0,e2,e5,e6,e7,c9,A0,C2,hg,A9 (H.pt 2 rfl)]
   refine hJ _ _ _ ⟨?_,?_,u,?_,by rw[hsn];exact H⟩
   all_goals simp +contextual (disch:=omega) only[go_sem,e2,e5,e6,e7]
  |false=>
   have hk0:Bm T[i]=true:=by simp[Bm,hg]
   rw[hk0,if_pos rfl] at hsn
   obtain⟨w',τ3,e8,H3⟩:=H.app_int 0 rfl T[i].dot.rep (by simp;omega)
   simp +contextual (disch:=omega) only[go_sem,c0,e2,e5,e6,e7,c9,A0,C1,C2,hg,A9 (H.pt 2 rfl),e8]
   refine hJ _ _ _ ⟨?_,?_,w',?_,?_⟩
   all_goals first|(simp +contextual (disch:=omega) only[go_sem,e2,e5,e6,e7];done)|skip
   rw[hsn,Zb3,Za0,Zcg]
   exact H3
 ·clear H
  rintro env τ e7 c0 ⟨e2,e6,u,e5,H⟩
  rw[Za6] at H
  have hlen0:=(H.sl 1 rfl).len
  rw[Zbm] at hlen0
  simp +contextual (disch:=omega) only[go_sem,c0,e2,e5,e6,e7,hlen0]
  exact⟨_,rfl,H.one⟩
theorem A8x (s:State) (o:ByteArray):(Mu s o).length<=1200120:=by
 rw[Mu,Zbm];exact Aad s o
abbrev A0u:Nat:=345
def Mw:Fn1:=⟨34,[.t 2],(rg [oX 1 0,oV 2 kf] (rg [oF 4 0 1,oL 5 4,oE 6 .eql 5 6,oM 7 6,vF 8 7 0 1,vL 9 7 8,vE 10 7 .eql 9 7,oP 11 7 10,oM 3 11] (rg [oF 12 0 1,oL 13 12,oF 14 1 1,oL 15 14,oF 16 2 1,oL 17 16,oF 18 3 1,oL 19 18,o 20 (.call 279 [(.t 13),(.t 15),(.t 17),(.t 19)]),oM 21 20,jF 22 21 4 1,jL 23 21 22,jE 24 21 .geq 23 0,oQ 25 21 24,oM 26 25,jM 27 26 3,jM 28 26 27,vF 29 28 4 1,vL 30 28 29,vE 31 28 .eql 30 0,og 32 26 true (.pick (.t 28) kt (.t 31)),oQ 33 26 32,oM 2 33] .ret)))⟩
theorem A8y:A6 Tryz.prog A0u=some Mw:=by kernel_rfl
abbrev Wz:Nat:=346
def X0:Fn1:=⟨42,[.c 6 true 2,.t 7],(rg [oX 3 0,o 6 (.new [z0,z0]),oV 7 kf] (.seq (rg [oW 10 4 3,oC 11 199 10,oU 12 11,oM 13 12,vM 14 13 2,vE 15 13 .lss 14 0,oP 16 13 15] (cn 16 (rg [o 17 (.build [z0,z0] []),oS 2 6 17,oV 7 kf] .ret) .skip)) (rg [oW 18 4 3,oM 19 1,oD 20 145 18 19,oM 8 20] (.seq (rg [oV 9 (ki 0)] (.blk 0 (.lop (.seq (rg [oM 21 9,oM 22 8,oN 23 22,oB 24 .lss 21 23] (cn 24 .skip (.ext 0))) (.seq (.blk 1 (.seq (rg [oM 27 8,oM 28 9,oI 29 8 27 28,oF 30 7 29,oL 31 30] (cn 31 (.ext 1) .skip)) (.seq (rg [oM 32 2,oE 33 .eql 32 0] (cn 33 (rg [oM 34 8,oM 35 9,oI 36 8 34 35,oF 37 1 36,oW 38 2 37,oS 2 6 38,oV 7 kt] .ret) .skip)) (.reg [oM 39 2,oE 40 .sub 39 1,oM 2 40])))) (.reg [oM 25 9,oZ 26 25 1,oM 9 26])))))) (rg [o 41 (.build [z0,z0] []),oS 2 6 41,oV 7 kf] .ret)))))⟩
theorem A5u:A6 Tryz.prog Wz=some X0:=by kernel_rfl
def It (e:Edit):Bool:=Bo e.kind e.obj e.key e.val&&(decide (0<=e.place)&&((e.kind==6||e.kind==7)||e.place==0))
theorem A5v (σ:St) (e:Edit) (ho:e.obj.size<=1099511627776) (hk:e.key.size<=1099511627776):Ret Tryz.prog A0u [.agg [gi e.kind,.str e.obj,.str e.key,gi e.val,gi e.place]] σ (.bool (It e)) σ:=by
 refine Ar A8y (Z0z rfl) trivial ?_
 cases h6:(e.kind==6) with
 |true=>
  simp +contextual (disch:=omega) only[go_sem,Mw,h6]
  refine Ac (Jy _ _ _ _ _ ho hk) (fun h1=> ?_) (fun h1=> ?_)
  ·cases h2:decide (0<=e.place) with
   |true=>simp +contextual (disch:=omega) only[go_sem,h2,It,h1,h6,Zb0,Zbu]
   |false=>simp +contextual (disch:=omega) only[go_sem,h2,It,h1,h6,Zax,Zcb]
  ·simp +contextual (disch:=omega) only[go_sem,It,h1,Zax]
 |false=>
  cases h7:(e.kind==7) with
  |true=>
   simp +contextual (disch:=omega) only[go_sem,Mw,h6,h7]
   refine Ac (Jy _ _ _ _ _ ho hk) (fun h1=> ?_) (fun h1=> ?_)
   ·cases h2:decide (0<=e.place) with
    |true=>simp +contextual (disch:=omega) only[go_sem,h2,It,h1,h6,h7,Zb0,Zcf,Zbu]
    |false=>simp +contextual (disch:=omega) only[go_sem,h2,It,h1,h6,Zax,Zcb]
   ·simp +contextual (disch:=omega) only[go_sem,It,h1,Zax]
  |false=>
   simp +contextual (disch:=omega) only[go_sem,Mw,h6,h7]
   refine Ac (Jy _ _ _ _ _ ho hk) (fun h1=> ?_) (fun h1=> ?_)
   ·cases h2:decide (0<=e.place) with
    |true=>simp +contextual (disch:=omega) only[go_sem,h2,It,h1,h6,h7,Zb0,Zcf,Zcl,Zbu]
    |false=>simp +contextual (disch:=omega) only[go_sem,h2,It,h1,h6,Zax,Zcb]
   ·simp +contextual (disch:=omega) only[go_sem,It,h1,Zax]
def Cp (s:State) (o:ByteArray) (i:Int):Dot×Bool:=if h:0<=i/\i.toNat<(rowL s o).length then((rowL s o)[i.toNat].dot,true) else(⟨0,0⟩,false)
theorem flt_at {α:Type} {l:List α} {p:α->Bool} {k:Nat} (hk:k<l.length) (hp:p l[k]=true):∃ h:((l.take k).filter p).length<(l.filter p).length,(l.filter p)[((l.take k).filter p).length]=l[k]:=by
 have e:l.filter p=(l.take k).filter p++l[k]::(l.drop (k+1)).filter p:=by
  have h1:l=l.take k++l[k]::l.drop (k+1):=by rw[<- List.drop_eq_getElem_cons hk,Zb4]
  have h2:l.filter p=(l.take k++l[k]::l.drop (k+1)).filter p:=congrArg _ h1
  rw[h2,Zbo,List.filter_cons_of_pos hp]
 refine⟨by rw[e];simp,?_⟩
 simp[e]
theorem Pv (σ:St) (cs:List GV) (s:State) (hR:A5.R σ s cs) (o:ByteArray) (i:Int) (hl:Aa s<=1099511627776) (hi6:i<=9223372036854775807):Ret Tryz.prog Wz [.agg cs,.str o,gi i] σ (.tup [.agg [gi (Cp s o i).1.rep,gi (Cp s o i).1.seq],.bool (Cp s o i).2]) σ:=by
 have hlen:cs.length=4:=A5.len hR
 refine Ar A5u (Z0z rfl) (by simp[vLt,cLt,sLt]) ?_
 have H:=((Hp.refl σ).new 1 cs).new 1 [gi 0,gi 0]
 simp +contextual (disch:=omega) only[go_sem,X0,Ix,A4 hlen]
 generalize hn2:(σ++[some (Blk.row 1 cs)]).length=n2 at*
 have hno:¬ (0<=i/\i.toNat<(rowL s o).length)->Cp s o i=(⟨0,0⟩,false):=fun h=>by unfold Cp;rw[dif_neg h]
 refine Ac (C7 _ _ s (A5.pre hR H.sub) hl) (fun hok=> ?_) (fun hok=> ?_)
 rotate_left
 ·have hpl:=hno (by simp[rowL,hok])
  obtain⟨τ2,s2,H2,_⟩:=H.st 0 rfl 2 0 (.agg [gi 0,gi 0]) rfl (by decide) (by simp)
  have z2:rdB τ2 n2=some [gi 0,gi 0]:=H2.pt 0 rfl
  simp +contextual (disch:=omega) only[go_sem,s2,A9 z2,A4 (cs:=[gi 0,gi 0]) rfl,hpl,H2.sub]
 by_cases hi:i<0
 ·have hpl:=hno (by omega)
  have ci:decide (i<0)=true:=decide_eq_true hi
  obtain⟨τ2,s2,H2,_⟩:=H.st 0 rfl 2 0 (.agg [gi 0,gi 0]) rfl (by decide) (by simp)
  have z2:rdB τ2 n2=some [gi 0,gi 0]:=H2.pt 0 rfl
  simp +contextual (disch:=omega) only[go_sem,ci,s2,A9 z2,A4 (cs:=[gi 0,gi 0]) rfl,hpl,H2.sub]
 have ci:decide (i<0)=false:=decide_eq_false hi
 obtain⟨m,rfl⟩:∃ m:Nat,i=(m:Int):=⟨i.toNat,by omega⟩
 have hrl:rowL s o=(rowC s o).filter Bm:=by simp only[rowL,hok,if_true];rfl
 have hrb:=Mt (O4 hok) o
 simp +contextual (disch:=omega) only[go_sem,ci,A9 (H.pt 1 rfl),A4 hlen]
 obtain⟨r1,τ1,R1,K1⟩:=Tf _ cs s (A5.pre hR H.sub) o hok hl
 refine P3 R1 K1 ?_
 have H:=H.add K1
 simp only[Zac,Zaf] at H
 rw[hrl] at hno
 have hyes:∀ h:m<((rowC s o).filter Bm).length,Cp s o m=(((rowC s o).filter Bm)[m].dot,true):=fun h=>by
  unfold Cp
  rw[dif_pos ⟨by omega,by rw[hrl];simpa using h⟩]
  simp only[hrl,Int.toNat_natCast]
 generalize hT:rowC s o=T at*
 simp +contextual (disch:=omega) only[go_sem]
 have H:Hp σ τ1 [ow Ag.kd r1 T,pt 1 n2 [gi 0,gi 0]]:=(((H.pick 2 rfl).drop1))
 refine Adm T.length 9 0 (fun k env τ=>env 2=gi ((m:Int) - (((T.take k).filter Bm).length:Nat))/\((T.take k).filter Bm).length<=m/\env 6= .ptr n2 0/\env 8=r1/\Hp σ τ [ow Ag.kd r1 T,pt 1 n2 [gi 0,gi 0]]) (fun env τ=>env 6= .ptr n2 0/\Cp s o m=(⟨0,0⟩,false)/\Hp σ τ [pt 1 n2 [gi 0,gi 0]]) (fun env τ=>env 6= .ptr n2 0/\env 7= .bool true/\(Cp s o m).2=true/\Hp σ τ [pt 1 n2 [gi (Cp s o m).1.rep,gi (Cp s o m).1.seq]]) rfl ⟨by simp +contextual (disch:=omega) only[go_sem,Zcc,List.filter_nil,Zba,Int.natCast_zero,Int.sub_zero],Nat.zero_le _,rfl,rfl,H⟩ ?_ ?_ ?_ ?_
 ·clear H
  rintro J Y W hJ hY hW k env τ hk e9 c0 ⟨e2,hc,e6,e8,H⟩
  have C1:=A8 (H.sl 0 rfl) hk
  have hln:=(H.sl 0 rfl).len
  have hsn:=Wy hk
  generalize hcc:((T.take k).filter Bm).length=c at*
  cases hg:T[k].gone with
  |true=>
   have hk0:Bm T[k]=false:=by simp[Bm,hg]
   rw[hk0,if_neg (by simp)] at hsn
   simp +contextual (disch:=omega) only[go_sem,c0,e2,e6,e8,e9,hln,C1,hg]
   refine hJ _ _ _ ⟨?_,by rw[hsn,hcc];exact hc,?_,?_,H⟩
   all_goals simp +contextual (disch:=omega) only[go_sem,e2,e6,e8,hsn,hcc]
  |false=>
   have hk0:Bm T[k]=true:=by simp[Bm,hg]
   obtain⟨hf1,hf2⟩:=flt_at hk hk0
   rw[hk0,if_pos rfl] at hsn
   by_cases hm:c=m
   ·have z:((m:Int) - c==0)=true:=by simp;omega
    have hlt:m<(T.filter Bm).length:=by omega
    have hpl:=hyes hlt
    have hix:(T.filter Bm)[m]=T[k]:=by
     have:((T.take k).filter Bm).length=m:=by omega
     rw[<- hf2];congr 1;exact this.symm
    rw[hix] at hpl
    obtain⟨τ2,s2,H2,_⟩:=H.st 1 rfl 2 0 (.agg [gi T[k].dot.rep,gi T[k].dot.seq]) rfl (by decide) (by simp)
    have H2:Hp σ τ2 [ow Ag.kd r1 T,pt 1 n2 [gi T[k].dot.rep,gi T[k].dot.seq]]:=H2
    simp +contextual (disch:=omega) only[go_sem,c0,e2,e6,e8,e9,hln,C1,hg,z,s2]
    refine hW _ _ ⟨?_,?_,by rw[hpl],by rw[hpl];exact H2.drop1⟩
    all_goals simp +contextual (disch:=omega) only[go_sem,e6]
   ·have z:((m:Int) - c==0)=false:=by simp;omega
    have hl1:((T.take (k+1)).filter Bm).length=c+1:=by rw[hsn];simp[hcc]
    have hI:(m:Int) - c - 1=(m:Int) - ((c:Int)+1):=by omega
    simp +contextual (disch:=omega) only[go_sem,c0,e2,e6,e8,e9,hln,C1,hg,z]
    refine hJ _ _ _ ⟨?_,by rw[hl1];omega,?_,?_,H⟩
    all_goals simp +contextual (disch:=omega) only[go_sem,e2,e6,e8,hl1,hI]
 ·clear H
  rintro Y hY env τ e9 c0 ⟨e2,hc,e6,e8,H⟩
  rw[Za6] at hc
  have hln:=(H.sl 0 rfl).len
  simp +contextual (disch:=omega) only[go_sem,c0,e2,e6,e8,e9,hln]
  refine hY _ _ ⟨?_,hno (by simp;omega),H.drop1⟩
  simp +contextual (disch:=omega) only[go_sem,e6]
 ·clear H
  rintro env τ ⟨e6,hpl,H⟩
  obtain⟨τ2,s2,H2,_⟩:=H.st 0 rfl 2 0 (.agg [gi 0,gi 0]) rfl (by decide) (by simp)
  have z2:rdB τ2 n2=some [gi 0,gi 0]:=H2.pt 0 rfl
  simp +contextual (disch:=omega) only[go_sem,e6,s2,A9 z2,A4 (cs:=[gi 0,gi 0]) rfl,hpl,H2.sub]
 ·clear H
  rintro env τ ⟨e6,e7,h2,H⟩
  simp +contextual (disch:=omega) only[go_sem,e6,e7,A9 (H.pt 0 rfl),A4 (cs:=[gi (Cp s o m).1.rep,gi (Cp s o m).1.seq]) rfl,h2,H.sub]
abbrev X3:Nat:=276
def A5w:Fn1:=⟨98,[.c 8 true 10,.t 9],(rg [oX 4 0,oX 7 3,o 8 (.new [z0,z0,z0,.nilS,z0,s0,s0,z0,z0,z0]),oV 9 (ki 0)] (.seq (rg [oW 12 4 4,oC 13 199 12,oU 14 13,oM 15 14,vW 16 15 5 7,vC 17 15 345 16,vU 18 15 17,oP 19 15 18,oM 20 19,vM 21 20 1,og 22 20 false (.call 122 [(.t 21),(ki 0),(ki 2)]),vU 23 20 22,oP 24 20 23,oM 25 24,vM 26 25 2,og 27 25 false (.call 122 [(.t 26),(ki 1),(ki 10000)]),vU 28 25 27,oP 29 25 28] (cn 29 (rg [o 30 (.build [z0,z0,z0,.nilS,z0,s0,s0,z0,z0,z0] []),oS 10 8 30,oV 9 (ki 3)] .ret) .skip)) (dw [oM 31 1,oF 32 0 4,oL 33 32,oM 34 1,oI 35 1 33 34,oL 36 35,oZ 37 36 1,o 38 (.build [z0,z0] [(0,1,(.t 31)),(1,1,(.t 37))]),oM 39 2,o 40 (.lit 1 0 [] []),oF 41 0 4,oL 42 41,o 43 (.app 1 8 [z0] (.t 40) (.t 42)),oF 44 0 7,oL 45 44,oF 46 1 7,oL 47 46,oF 48 2 7,oL 49 48,oF 50 3 7,oL 51 50,o 52 (.build [z0,z0,z0,.nilS,z0,s0,s0,z0,z0,z0] [(0,2,(.t 38)),(2,1,(.t 39)),(3,1,(.t 43)),(4,1,(.t 45)),(5,1,(.t 47)),(6,1,(.t 49)),(7,1,(.t 51))]),o 10 (.new [z0,z0,z0,.nilS,z0,s0,s0,z0,z0,z0])] [oS 10 10 52] (rg [oV 11 kt] (.seq (rg [oF 53 0 7,oL 54 53,oE 55 .eql 54 7] (cn 55 (.reg [oW 57 4 4,oF 58 1 7,oL 59 58,oF 60 4 7,oL 61 60,o 62 (.call 346 [(.t 57),(.t 59),(.t 61)]),oM 56 62,o 63 (.ext 0 (.t 56)),o 64 (.ext 1 (.t 56)),oF 65 8 10,oS 2 65 63,oM 11 64]) .skip)) (.seq (rg [oF 66 0 7,oL 67 66,oE 68 .eql 67 6,oM 69 68,jF 70 69 4 7,jL 71 69 70,jE 72 69 .gtr 71 0,oQ 73 69 72] (cn 73 (.reg [oW 75 4 4,oF 76 1 7,oL 77 76,oF 78 4 7,oL 79 78,oE 80 .sub 79 1,o 81 (.call 346 [(.t 75),(.t 77),(.t 80)]),oM 74 81,o 82 (.ext 0 (.t 74)),o 83 (.ext 1 (.t 74)),oF 84 8 10,oS 2 84 82,oM 11 83]) .skip)) (.seq (rg [oF 85 0 10,oW 86 2 85,oC 87 168 86,oU 88 87] (cn 88 (rg [o 89 (.build [z0,z0,z0,.nilS,z0,s0,s0,z0,z0,z0] []),oS 10 8 89,oV 9 (ki 3)] .ret) .skip)) (.seq (rg [oM 90 11,oU 91 90] (cn 91 (rg [o 92 (.build [z0,z0,z0,.nilS,z0,s0,s0,z0,z0,z0] []),oS 10 8 92,oV 9 (ki 5)] .ret) .skip)) (.seq (rg [oW 93 10 10,oC 94 185 93,oU 95 94] (cn 95 (rg [o 96 (.build [z0,z0,z0,.nilS,z0,s0,s0,z0,z0,z0] []),oS 10 8 96,oV 9 (ki 3)] .ret) .skip)) (rg [oW 97 10 10,oS 10 8 97,oV 9 (ki 0)] .ret))))))))))⟩
theorem Abk:A6 Tryz.prog X3=some A5w:=by kernel_rfl
def E4 (s:State) (e:Edit):Dot×Bool:=if e.kind=7 then Cp s e.obj e.place else if e.kind=6/\0<e.place then Cp s e.obj (e.place - 1) else(d0,true)
def act0:Act:=⟨d0,0,[],0,⟨#[]⟩,⟨#[]⟩,0,d0⟩
def Adp (s:State) (rep time:Int) (e:Edit) (d:Dot):Act:=⟨⟨rep,at0 s.know rep+1⟩,time,s.know,e.kind,e.obj,e.key,e.val,d⟩
def A0v (s:State) (rep time:Int) (e:Edit):Act:=Adp s rep time e (E4 s e).1
abbrev awV (s:State) (rep time:Int) (e:Edit) (kv:GV) (d:Dot):List GV:=[gi rep,gi (at0 s.know rep+1),gi time,kv,gi e.kind,.str e.obj,.str e.key,gi e.val,gi d.rep,gi d.seq]
def Dg (s:State) (rep time:Int) (e:Edit):Act×Int:=
 if Au s&&(It e&&(inB rep 0 2&&inB time 1 10000)) then
  if G7 ⟨rep,at0 s.know rep+1⟩ then
   if(E4 s e).2 then
    if Eb (A0v s rep time e) then(A0v s rep time e,0) else(act0,3)
   else(act0,5)
  else(act0,3)
 else(act0,3)
abbrev edV (e:Edit):List GV:=[gi e.kind,.str e.obj,.str e.key,gi e.val,gi e.place]
abbrev zeV:List GV:=[gi 0,gi 0,gi 0,GV.nilS,gi 0,.str ⟨#[]⟩,.str ⟨#[]⟩,gi 0,gi 0,gi 0]
theorem own0 {σ τ:St} {rs:List Thg} (H:Hp σ τ rs):Hp σ τ [own kAct zeV act0]:=Hp.one (Hp.ownAct (x:=act0) (Hp.nilS H))
theorem Ahz {s:State} (hok:Au s=true) {rep:Int} (h:inB rep 0 2=true):∃ r:Nat,rep=(r:Int)/\∃ h:r<s.know.length,at0 s.know rep=s.know[r]/\0<=s.know[r]/\s.know[r]<=1000:=by
 have h2:=Ck.1 h
 have hk:okK s.know=true:=by simp only[Au,Zaa] at hok;exact hok.1
 have hl:=Cw hk
 obtain⟨r,rfl⟩:∃ r:Nat,rep=(r:Int):=⟨rep.toNat,by omega⟩
 have hr:r<s.know.length:=by omega
 refine⟨r,rfl,hr,?_,?_⟩
 ·simp[at0,hr]
 ·have:=(Zbi.1 (by simp only[okK,Zaa] at hk;exact hk.1)) _ (Zak hr)
  simpa [seqB,inB] using this
theorem O8 (σ:St) (cs:List GV) (s:State) (hR:A5.R σ s cs) (rep time:Int) (e:Edit) (hl:Aa s<=1099511627776) (ho:e.obj.size<=1099511627776) (hk:e.key.size<=1099511627776) (hp:e.place<=9223372036854775807) (hm:s.know.length+e.obj.size+e.key.size<=1099511627776):∃ ds τ,Ret Tryz.prog X3 [.agg cs,gi rep,gi time,.agg (edV e)] σ (.tup [.agg ds,gi (Dg s rep time e).2]) τ/\Hp σ τ [own kAct ds (Dg s rep time e).1]:=by
 have hR0:=hR
 obtain⟨a1,b1,c1,v1,rfl,hkn,hb,hc,hv⟩:=hR
 obtain⟨l1,l2,l3,l4,_⟩:=Av hl
 have key:∃ q τ,Ret Tryz.prog X3 [.agg [a1,b1,c1,v1],gi rep,gi time,.agg (edV e)] σ q τ/\∃ ds,q= .tup [.agg ds,gi (Dg s rep time e).2]/\Hp σ τ [own kAct ds (Dg s rep time e).1]:=by
  refine Ea Abk (Z0z rfl) ?_
  have H:=(((Hp.refl σ).new 1 [a1,b1,c1,v1]).new 1 (edV e)).new 1 zeV
  simp only[A5w]
  obtain⟨n3,hn3⟩:∃ n,n=(σ++[some (Blk.row 1 [a1,b1,c1,v1])]++[some (Blk.row 1 (edV e))]).length:=⟨_,rfl⟩
  obtain⟨n2,hn2⟩:∃ n,n=(σ++[some (Blk.row 1 [a1,b1,c1,v1])]).length:=⟨_,rfl⟩
  obtain⟨n1,hn1⟩:∃ n,n=σ.length:=⟨_,rfl⟩
  rw[<- hn3,<-hn2,<-hn1] at H
  refine Cx (fun env τ=>env 1=gi rep/\env 2=gi time/\env 4= .ptr n1 0/\env 7= .ptr n2 0/\env 8= .ptr n3 0/\Hp σ τ [pt 1 n3 zeV,pt 1 n2 (edV e),pt 1 n1 [a1,b1,c1,v1]]) (fun Y hY=>by
   simp +contextual (disch:=omega) only[go_sem]
   refine hY _ _ ⟨?_,?_,?_,?_,?_,H⟩
   all_goals simp +contextual (disch:=omega) only[go_sem,hn1,hn2,hn3]) ?_
  clear H
  rintro env τ ⟨e1,e2,e4,e7,e8,H⟩
  have bad:∀ c,Dg s rep time e=(act0,c)->∃ τr,stG 10 τ (.ptr n3 0) (.agg zeV)=some (.tup [],τr)/\ldG true 10 τr (.ptr n3 0)=some (.agg zeV)/\∃ ds,(GV.tup [.agg zeV,gi c])= .tup [.agg ds,gi (Dg s rep time e).2]/\Hp σ τr [own kAct ds (Dg s rep time e).1]:=fun c hc=>by
   obtain⟨τr,sr,Hr,_⟩:=H.st 0 rfl 10 0 (.agg zeV) rfl (by decide) (by simp)
   have zr:rdB τr n3=some zeV:=Hr.pt 0 rfl
   refine⟨τr,sr,?_,zeV,by rw[hc],by rw[hc];exact own0 Hr⟩
   simp +contextual (disch:=omega) only[go_sem,A9 zr,A4 (cs:=zeV) rfl]
  refine Cx (fun env τ'=>env 1=gi rep/\env 2=gi time/\env 4= .ptr n1 0/\env 7= .ptr n2 0/\env 8= .ptr n3 0/\τ=τ'/\(Au s&&(It e&&(inB rep 0 2&&inB time 1 10000)))=true) (fun Y hY=>by
   simp +contextual (disch:=omega) only[go_sem,e1,e2,e4,e7,e8,A9 (H.pt 2 rfl),A4 (cs:=[a1,b1,c1,v1]) rfl]
   refine Ac (C7 _ _ s (A5.pre hR0 H.sub) hl) (fun h1=> ?_) (fun h1=> ?_)
   rotate_left
   ·obtain⟨τr,q1,q2,q3⟩:=bad 3 (by simp[Dg,h1])
    simp +contextual (disch:=omega) only[go_sem,e1,e2,e4,e7,e8,q1,q2]
    exact⟨_,rfl,q3⟩
   simp +contextual (disch:=omega) only[go_sem,e1,e2,e4,e7,e8,A9 (H.pt 1 rfl),A4 (cs:=edV e) rfl]
   refine Ac (A5v _ e ho hk) (fun h2=> ?_) (fun h2=> ?_)
   rotate_left
   ·obtain⟨τr,q1,q2,q3⟩:=bad 3 (by simp[Dg,h1,h2])
    simp +contextual (disch:=omega) only[go_sem,e1,e2,e4,e7,e8,q1,q2]
    exact⟨_,rfl,q3⟩
   simp +contextual (disch:=omega) only[go_sem,e1,e2,e4,e7,e8]
   refine Ac (B6 _ rep 0 2) (fun h3=> ?_) (fun h3=> ?_)
   rotate_left
   ·obtain⟨τr,q1,q2,q3⟩:=bad 3 (by simp[Dg,h1,h2,h3])
    simp +contextual (disch:=omega) only[go_sem,e1,e2,e4,e7,e8,q1,q2]
    exact⟨_,rfl,q3⟩
   simp +contextual (disch:=omega) only[go_sem,e1,e2,e4,e7,e8]
   refine Ac (B6 _ time 1 10000) (fun h4=> ?_) (fun h4=> ?_)
   rotate_left
   ·obtain⟨τr,q1,q2,q3⟩:=bad 3 (by simp[Dg,h1,h2,h3,h4])
    simp +contextual (disch:=omega) only[go_sem,e1,e2,e4,e7,e8,q1,q2]
    exact⟨_,rfl,q3⟩
   simp +contextual (disch:=omega) only[go_sem,e1,e2,e4,e7,e8]
   refine hY _ _ ⟨?_,?_,?_,?_,?_,rfl,by simp[h1,h2,h3,h4]⟩
   all_goals simp +contextual (disch:=omega) only[go_sem,e1,e2,e4,e7,e8]) ?_
  clear e1 e2 e4 e7 e8
  rintro env τ' ⟨e1,e2,e4,e7,e8,rfl,hh⟩
  have hh0:=hh
  simp only[Zaa] at hh
  obtain⟨r,hr,hrl,hat,hr0,hr1⟩:=Ahz hh.1 hh.2.2.1
  have A1:=Cc (hkn.pre H.sub) hrl
  have n0:B8 (some (.int .i64 rep))=some r:=by rw[hr];exact A0
  refine Cx (fun env τ=>∃ n10 kv,env 1=gi rep/\env 2=gi time/\env 4= .ptr n1 0/\env 7= .ptr n2 0/\env 8= .ptr n3 0/\env 10= .ptr n10 0/\Hp σ τ [pt 1 n10 (awV s rep time e kv d0),ow pI.kd kv s.know,pt 1 n3 zeV,pt 1 n2 (edV e),pt 1 n1 [a1,b1,c1,v1]]) (fun Y hY=>by
   have z1:=Qy (H.pt 2 rfl) [some (Blk.row 1 [])]
   obtain⟨kv,τk,ek,qk,Hk⟩:=H.cp_int (hkn.pre H.sub) l1
   have ck:=(Hk.sl 0 rfl).cell
   have Hn:=(Hk.new 1 (awV s rep time e kv d0))
   simp +contextual (disch:=omega) only[go_sem,e1,e2,e4,e7,e8,A9 (H.pt 2 rfl),A9 (H.pt 1 rfl),A9 z1,A9 (Hk.pt 2 rfl),n0,A1,ek,qk,ck,<-hat]
   refine hY _ _ ⟨τk.length,kv,?_,?_,?_,?_,?_,?_,Hn⟩
   all_goals simp +contextual (disch:=omega) only[go_sem,e1,e2,e4,e7,e8]) ?_
  clear H e1 e2 e4 e7 e8 bad A1
  rintro env τ ⟨n10,kv,e1,e2,e4,e7,e8,e10,H⟩
  refine Cx (fun env τ'=>τ=τ'/\env 1=gi rep/\env 2=gi time/\env 4= .ptr n1 0/\env 7= .ptr n2 0/\env 8= .ptr n3 0/\env 10= .ptr n10 0/\env 11= .bool true) (fun Y hY=>by
   simp +contextual (disch:=omega) only[go_sem,e1,e2,e4,e7,e8,e10]
   refine hY _ _ ⟨rfl,?_,?_,?_,?_,?_,?_,?_⟩
   all_goals simp +contextual (disch:=omega) only[go_sem,e1,e2,e4,e7,e8,e10]) ?_
  clear e1 e2 e4 e7 e8 e10
  rintro env τ' ⟨rfl,e1,e2,e4,e7,e8,e10,e11⟩
  refine Cx (fun env τ=>env 4= .ptr n1 0/\env 7= .ptr n2 0/\env 8= .ptr n3 0/\env 10= .ptr n10 0/\env 11= .bool (if e.kind=7 then Cp s e.obj e.place else(d0,true)).2/\Hp σ τ [pt 1 n10 (awV s rep time e kv (if e.kind=7 then Cp s e.obj e.place else(d0,true)).1),ow pI.kd kv s.know,pt 1 n3 zeV,pt 1 n2 (edV e),pt 1 n1 [a1,b1,c1,v1]]) (fun Y hY=>by
   by_cases k7:e.kind=7
   ·have b7:(e.kind==7)=true:=by simp[k7]
    simp only[if_pos k7] at hY
    have PR:=Pv τ _ s (A5.pre hR0 H.sub) e.obj e.place hl hp
    obtain⟨τ2,st2,H2,_⟩:=H.st 0 rfl 2 8 (.agg [gi (Cp s e.obj e.place).1.rep,gi (Cp s e.obj e.place).1.seq]) rfl (by decide) (by simp)
    simp +contextual (disch:=omega) only[go_sem,e4,e7,e8,e10,b7,A9 (H.pt 3 rfl),A9 (H.pt 4 rfl),A4 (cs:=[a1,b1,c1,v1]) rfl]
    refine Af PR ?_
    simp +contextual (disch:=omega) only[go_sem,e4,e7,e8,e10,st2]
    refine hY _ _ ⟨?_,?_,?_,?_,?_,H2⟩
    all_goals simp +contextual (disch:=omega) only[go_sem,e4,e7,e8,e10]
   ·have b7:(e.kind==7)=false:=by simp[k7]
    simp only[if_neg k7] at hY
    simp +contextual (disch:=omega) only[go_sem,e4,e7,e8,e10,e11,b7,A9 (H.pt 3 rfl)]
    refine hY _ _ ⟨?_,?_,?_,?_,?_,H⟩
    all_goals simp +contextual (disch:=omega) only[go_sem,e4,e7,e8,e10,e11]) ?_
  clear H e1 e2 e4 e7 e8 e10 e11
  rintro env τ ⟨e4,e7,e8,e10,e11,H⟩
  refine Cx (fun env τ=>env 4= .ptr n1 0/\env 7= .ptr n2 0/\env 8= .ptr n3 0/\env 10= .ptr n10 0/\env 11= .bool (E4 s e).2/\Hp σ τ [pt 1 n10 (awV s rep time e kv (E4 s e).1),ow pI.kd kv s.know,pt 1 n3 zeV,pt 1 n2 (edV e),pt 1 n1 [a1,b1,c1,v1]]) (fun Y hY=>by
   by_cases k7:e.kind=7
   ·have b6:(e.kind==6)=false:=by simp[k7]
    have hq:E4 s e=Cp s e.obj e.place:=if_pos k7
    rw[if_pos k7] at H e11
    simp +contextual (disch:=omega) only[go_sem,e4,e7,e8,e10,e11,b6,A9 (H.pt 3 rfl)]
    refine hY _ _ ⟨?_,?_,?_,?_,?_,by rw[hq];exact H⟩
    all_goals simp +contextual (disch:=omega) only[go_sem,e4,e7,e8,e10,e11,hq]
   rw[if_neg k7] at H e11
   by_cases k6:e.kind=6
   ·have b6:(e.kind==6)=true:=by simp[k6]
    by_cases kp:0<e.place
    ·have bp:decide (0<e.place)=true:=decide_eq_true kp
     have hq:E4 s e=Cp s e.obj (e.place - 1):=by unfold E4;rw[if_neg k7,if_pos ⟨k6,kp⟩]
     have PR:=Pv τ _ s (A5.pre hR0 H.sub) e.obj (e.place - 1) hl (by omega)
     obtain⟨τ2,st2,H2,_⟩:=H.st 0 rfl 2 8 (.agg [gi (Cp s e.obj (e.place - 1)).1.rep,gi (Cp s e.obj (e.place - 1)).1.seq]) rfl (by decide) (by simp)
     simp +contextual (disch:=omega) only[go_sem,e4,e7,e8,e10,b6,bp,A9 (H.pt 3 rfl),A9 (H.pt 4 rfl),A4 (cs:=[a1,b1,c1,v1]) rfl]
     refine Af PR ?_
     simp +contextual (disch:=omega) only[go_sem,e4,e7,e8,e10,st2]
     refine hY _ _ ⟨?_,?_,?_,?_,?_,by rw[hq];exact H2⟩
     all_goals simp +contextual (disch:=omega) only[go_sem,e4,e7,e8,e10,hq]
    ·have bp:decide (0<e.place)=false:=decide_eq_false kp
     have hq:E4 s e=(d0,true):=by unfold E4;rw[if_neg k7,if_neg (fun h=>kp h.2)]
     simp +contextual (disch:=omega) only[go_sem,e4,e7,e8,e10,e11,b6,bp,A9 (H.pt 3 rfl)]
     refine hY _ _ ⟨?_,?_,?_,?_,?_,by rw[hq];exact H⟩
     all_goals simp +contextual (disch:=omega) only[go_sem,e4,e7,e8,e10,e11,hq]
   ·have b6:(e.kind==6)=false:=by simp[k6]
    have hq:E4 s e=(d0,true):=by unfold E4;rw[if_neg k7,if_neg (fun h=>k6 h.1)]
    simp +contextual (disch:=omega) only[go_sem,e4,e7,e8,e10,e11,b6,A9 (H.pt 3 rfl)]
    refine hY _ _ ⟨?_,?_,?_,?_,?_,by rw[hq];exact H⟩
    all_goals simp +contextual (disch:=omega) only[go_sem,e4,e7,e8,e10,e11,hq]) ?_
  clear H e4 e7 e8 e10 e11
  rintro env τ ⟨e4,e7,e8,e10,e11,H⟩
  have bad:∀ c,Dg s rep time e=(act0,c)->∃ τr,stG 10 τ (.ptr n3 0) (.agg zeV)=some (.tup [],τr)/\ldG true 10 τr (.ptr n3 0)=some (.agg zeV)/\∃ ds,(GV.tup [.agg zeV,gi c])= .tup [.agg ds,gi (Dg s rep time e).2]/\Hp σ τr [own kAct ds (Dg s rep time e).1]:=fun c hc=>by
   obtain⟨τr,sr,Hr,_⟩:=H.st 2 rfl 10 0 (.agg zeV) rfl (by decide) (by simp)
   have zr:rdB τr n3=some zeV:=Hr.pt 2 rfl
   refine⟨τr,sr,?_,zeV,by rw[hc],by rw[hc];exact own0 Hr⟩
   simp +contextual (disch:=omega) only[go_sem,A9 zr,A4 (cs:=zeV) rfl]
  simp +contextual (disch:=omega) only[go_sem,e4,e7,e8,e10,e11,A9 (H.pt 0 rfl)]
  refine Ac (Et τ ⟨rep,at0 s.know rep+1⟩) (fun h5=> ?_) (fun h5=> ?_)
  rotate_left
  ·obtain⟨τr,q1,q2,q3⟩:=bad 3 (by unfold Dg;rw[if_pos hh0,if_neg (by simp[h5])])
   simp +contextual (disch:=omega) only[go_sem,e4,e7,e8,e10,e11,q1,q2]
   exact⟨_,rfl,q3⟩
  cases h6:(E4 s e).2 with
  |false=>
   rw[h6] at e11
   obtain⟨τr,q1,q2,q3⟩:=bad 5 (by unfold Dg;rw[if_pos hh0,if_pos h5,if_neg (by simp[h6])])
   simp +contextual (disch:=omega) only[go_sem,e4,e7,e8,e10,e11,q1,q2]
   exact⟨_,rfl,q3⟩
  |true=>
   rw[h6] at e11
   simp +contextual (disch:=omega) only[go_sem,e4,e7,e8,e10,e11,A9 (H.pt 0 rfl),A4 (cs:=awV s rep time e kv (E4 s e).1) rfl]
   refine Ac (Nx τ (awV s rep time e kv (E4 s e).1) (A0v s rep time e) ⟨kv,rfl,H.sl 1 rfl⟩ (by unfold Dm;exact hm)) (fun h7=> ?_) (fun h7=> ?_)
   rotate_left
   ·obtain⟨τr,q1,q2,q3⟩:=bad 3 (by unfold Dg;rw[if_pos hh0,if_pos h5,if_pos h6,if_neg (by simp[h7])])
    simp +contextual (disch:=omega) only[go_sem,e4,e7,e8,e10,e11,q1,q2]
    exact⟨_,rfl,q3⟩
   have hd:Dg s rep time e=(A0v s rep time e,0):=by unfold Dg;rw[if_pos hh0,if_pos h5,if_pos h6,if_pos h7]
   obtain⟨τr,sr,Hr,_⟩:=H.st 2 rfl 10 0 (.agg (awV s rep time e kv (E4 s e).1)) rfl (by decide) (by simp)
   have zr:rdB τr n3=some (awV s rep time e kv (E4 s e).1):=Hr.pt 2 rfl
   simp +contextual (disch:=omega) only[go_sem,e4,e7,e8,e10,e11,A9 (H.pt 0 rfl),sr,A9 zr,A4 (cs:=awV s rep time e kv (E4 s e).1) rfl]
   exact⟨_,rfl,_,by rw[hd],by rw[hd];exact((Hr.pick 1 rfl).ownAct (x:=A0v s rep time e)).one⟩
 obtain⟨q,τ,R,ds,rfl,h⟩:=key
 exact⟨ds,τ,R,h⟩
inductive Item where
 |box (z n:Nat) (cs:List GV)
 |th (r:Thg)
def Item.t:Item->Thg
 | .box z n cs=>pt z n cs
 | .th r=>r
def Hx (σ τ:St) (h:List Item):Prop:=Hp σ τ (h.map Item.t)
def look:List Item->Nat->Option (List GV)
 |[],_=>none
 | .box _ m cs::h,n=>if m=n then some cs else look h n
 | .th _::h,n=>look h n
def upd:List Item->Nat->List GV->List Item
 |[],_,_=>[]
 | .box z m cs::h,n,ds=>if m=n then .box z m ds::h else .box z m cs::upd h n ds
 | .th r::h,n,ds=>.th r::upd h n ds
def frX (σ:St):List Item->Nat->Prop
 |[],n=>σ.length<=n
 | .box _ m _::h,n=>m<n/\frX σ h n
 | .th _::h,n=>frX σ h n
abbrev Kx:=GV->List Item->St->Prop
def Eo (v:Option GV) (k:Kx) (h:List Item) (τ:St):Prop:=match v with
 |some v=>k v h τ
 |none=>False
def orX (a b:Option GV):Option GV:=match a with
 |some x=>some x
 |none=>b
def Pw:List Item->Nat->Option (Nat×List GV)
 |[],_=>none
 | .box z m cs::h,n=>if m=n then some (z,cs) else Pw h n
 | .th _::h,n=>Pw h n
def blcX (h:List Item) (cs:List GV):GV->Prop
 | .ptr b 0=>Pw h b=some (1,cs)
 |_=>False
def ldB (c:Option (List GV)) (g:Bool) (n off:Nat) (e:Option GV):Option GV:=match c with
 |some cs=>(seg cs off n).bind (mkv g)
 |none=>e
def ldY (h:List Item) (τ:St) (g:Bool) (n:Nat):GV->Option GV
 | .ptr b off=>ldB (look h b) g n off (ldG g n τ (.ptr b off))
 |a=>ldG g n τ a
def ldX (σ:St) (h:List Item) (τ:St) (g:Bool) (n:Nat) (a:GV):Option GV:=orX (ldG g n σ a) (ldY h τ g n a)
def L7 (σ:St) (h:List Item) (z:Nat) (cs:List GV) (v:Nat->GV) (k:Kx):Prop:=∀ n,frX σ h n->∀ τ',Hx σ τ' (.box z n cs::h)->k (v n) (.box z n cs::h) τ'
def genX (σ:St) (D:Bool) (τ:St) (e:Option (GV×St)) (k:Kx):Prop:=∃ v τ' h',e=some (v,τ')/\(D=true->τ <+: τ')/\Hx σ τ' h'/\k v h' τ'
def stB (σ:St) (D:Bool) (h:List Item) (τ:St) (n:Nat) (k:Kx) (b off:Nat) (x:GV) (c:Option (List GV)):Prop:=match c with
 |some cs=>(D=false/\off+n<=cs.length/\0<n/\x.cells.length=n)/\∀ τ',Hx σ τ' (upd h b (Aq cs off x.cells))->k (.tup []) (upd h b (Aq cs off x.cells)) τ'
 |none=>genX σ D τ (stG n τ (.ptr b off) x) k
def stX (σ:St) (D:Bool) (h:List Item) (τ:St) (n:Nat) (k:Kx) (a x:GV):Prop:=match a with
 | .ptr b off=>stB σ D h τ n k b off x (look h b)
 |a=>genX σ D τ (stG n τ a x) k
def fnX (P:Program) (σ:St) (D:Bool) (τ:St) (args:List GV) (k:Kx):GV->Prop
 | .fn f caps=>∃ v τ' h',Ret P f (args++caps.map fun c=>.ptr c.1 c.2) τ v τ'/\(D=true->τ <+: τ')/\Hx σ τ' h'/\k v h' τ'
 |_=>False
def litX (σ:St) (h:List Item) (z len:Nat) (k:Kx):Option (List GV)->Prop
 |some cs=>L7 σ h z cs (fun n=>.sl n 0 len) k
 |none=>False
def A31 (P:Program) (σ:St) (D:Bool) (τ:St) (f:Nat) (args:List GV) (k:Kx):Prop:=∃ v τ' h',Ret P f args τ v τ'/\(D=true->τ <+: τ')/\Hx σ τ' h'/\k v h' τ'
def mksX (σ:St) (h:List Item) (z b:Nat) (ze:List GV) (k:Kx):Option Nat->Option Nat->Prop
 |some n,some c=>n=c/\n*b<=140737488355328/\L7 σ h z (reps n ze) (fun g=>.sl g 0 n) k
 |_,_=>False
def sxI (P:Program) (D:Bool) (σ:St) (env:Env) (h:List Item) (τ:St) (k:Kx):Ins->Prop
 | .new cs=>L7 σ h 1 cs (fun n=>.ptr n 0) k
 | .box x=>Bs (x.ev env)=true/\L7 σ h 1 (x.ev env).cells (fun n=>.ptr n 0) k
 | .lit z len zero parts=>litX σ h z len k (Hb zero (parts.map fun p=>(p.1,p.2.1,p.2.2.ev env)))
 | .mks z b ze n c=>mksX σ h z b ze k (B8 (some (n.ev env))) (B8 (some (c.ev env)))
 | .ld g n a=>Eo (ldX σ h τ g n (a.ev env)) k h τ
 | .st n a x=>stX σ D h τ n k (a.ev env) (x.ev env)
 | .call f xs=>A31 P σ D τ f (xs.map (·.ev env)) k
 | .callv x xs=>fnX P σ D τ (xs.map (·.ev env)) k (x.ev env)
 | .chk d (.ld g n (.t t))=>ldX σ h τ g n (env t)=some (env d)/\k (.tup []) h τ
 | .chk _ _=>False
 | .blc t cs=>blcX h cs (env t)/\k (.tup []) h τ
 | .mlk ks z ok m k'=>Eo (mlkG τ ks z ok (m.ev env) (k'.ev env)) k h τ
 | .bts x=>Eo ((elems τ 1 (x.ev env)).bind fun r=>(Hm r.2).map fun bs=>.str ⟨bs.toArray⟩) k h τ
 | .cut z x lo hi=>Eo (if zOk τ z (x.ev env) then cutG z (x.ev env) (lo.map (·.ev env)) (hi.map (·.ev env)) else none) k h τ
 | .app z b ze s x=>genX σ D τ (appV z b τ (s.ev env) (x.ev env)) k
 | .clr z ze x=>genX σ D τ (clrG z ze τ (x.ev env)) k
 | .mkm=>genX σ D τ (some (.mp τ.length,τ++[some (.map [])])) k
 | .mup ks m k' v=>genX σ D τ (mupG τ ks (m.ev env) (k'.ev env) (v.ev env)) k
 |i=>Eo ((exec env [] i).map (·.1)) k h τ
def gdX (c:Option (Option Bool×Bool)) (A B:Prop):Prop:=match c with
 |none=>A
 |some (some c,b)=>(c=b->A)/\(c= !b->B)
 |some (none,_)=>B
def sx (P:Program) (D:Bool) (σ:St):List Op1->(Env->List Item->St->Prop)->Env->List Item->St->Prop
 |[],K,env,h,τ=>K env h τ
 |o::r,K,env,h,τ=>gdX (o.g.map fun g=>((env g.1).bit,g.2)) (sxI P D σ env h τ (fun v h' τ'=>sx P D σ r K (upo env o.d v) h' τ') o.i) (sx P D σ r K (upo env o.d (.tup [])) h τ)
def ifX (c:Option Bool) (A B:Prop):Prop:=match c with
 |some c=>(c=true->A)/\(c=false->B)
 |none=>False
abbrev Qx:=Ex->Env->List Item->St->Prop
def sxc (P:Program) (σ:St):Cd->Qx->Env->List Item->St->Prop
 | .skip,Q=>Q .nxt
 | .reg ops,Q=>sx P false σ ops (Q .nxt)
 | .drw a1 bs,Q=>sx P true σ a1 (sx P false σ bs (Q .nxt))
 | .seq a b,Q=>sxc P σ a fun e=>match e with
  | .nxt=>sxc P σ b Q
  |e=>Q e
 | .cnd c a b,Q=>fun env h τ=>ifX (c.ev env).bit (sxc P σ a Q env h τ) (sxc P σ b Q env h τ)
 | .blk id a,Q=>sxc P σ a fun e=>match e with
  | .ext j=>if j=id then Q .nxt else Q (.ext j)
  |e=>Q e
 | .lop a,Q=>fun env h τ=>∃(I:Nat->Env->List Item->St->Prop) (n:Nat) (h0:List Item),Hx σ τ h0/\I n env h0 τ/\∀ k env h τ,Hx σ τ h->I k env h τ->sxc P σ a (fun e env' h' τ'=>match e with
  | .nxt=>∃ k' h1,k'<k/\Hx σ τ' h1/\I k' env' h1 τ'
  |e=>∃ h1,Hx σ τ' h1/\Q e env' h1 τ') env h τ
 | .ext id,Q=>Q (.ext id)
 | .ret,Q=>Q .ret
section sound
variable {P:Program} {σ:St} {D:Bool}
theorem Hx.hp {τ:St} {h:List Item} (H:Hx σ τ h):Hp σ τ (h.map Item.t):=H
theorem Hx.sub {τ:St} {h:List Item} (H:Hx σ τ h):σ <+: τ:=H.hp.sub
theorem Hx.refl (σ:St):Hx σ σ []:=Hp.refl σ
theorem O9:∀ {h:List Item} {n:Nat} {cs:List GV},look h n=some cs->∃ z,∃ i:Nat,(h.map Item.t)[i]? =some (pt z n cs)/\∀ ds,(upd h n ds).map Item.t=(h.map Item.t).set i (pt z n ds)
 |[],_,_,e=>by cases e
 | .box z m cs'::h,n,cs,e=>by
  simp only[look] at e
  by_cases hm:m=n
  ·rw[if_pos hm] at e
   injection e with e;subst e hm
   exact⟨z,0,rfl,fun ds=>by simp[upd,Item.t]⟩
  ·rw[if_neg hm] at e
   obtain⟨z',i,h1,h2⟩:=O9 e
   exact⟨z',i+1,by simpa using h1,fun ds=>by simp[upd,hm,h2 ds]⟩
 | .th r::h,n,cs,e=>by
  obtain⟨z',i,h1,h2⟩:=O9 (h:=h) (by simpa [look] using e)
  exact⟨z',i+1,by simpa using h1,fun ds=>by simp[upd,h2 ds]⟩
theorem A32:∀ {h:List Item} {n z:Nat} {cs:List GV},Pw h n=some (z,cs)->∃ i:Nat,(h.map Item.t)[i]? =some (pt z n cs)
 |[],_,_,_,e=>by cases e
 | .box z' m cs'::h,n,z,cs,e=>by
  simp only[Pw] at e
  by_cases hm:m=n
  ·rw[if_pos hm] at e
   simp only[Option.some.injEq,Prod.mk.injEq] at e
   obtain⟨rfl,rfl⟩:=e
   subst hm
   exact⟨0,rfl⟩
  ·rw[if_neg hm] at e
   obtain⟨i,h1⟩:=A32 e
   exact⟨i+1,by simpa using h1⟩
 | .th r::h,n,z,cs,e=>by
  obtain⟨i,h1⟩:=A32 (h:=h) (by simpa [Pw] using e)
  exact⟨i+1,by simpa using h1⟩
theorem Adr {τ:St} {g:Bool} {n:Nat} {a x:GV} (h:ldG g n σ a=some x) (hp:σ <+: τ):ldG g n τ a=some x:=by
 cases a with
 |ptr b off=>
  simp only[ldG] at h ⊢
  obtain⟨cs,h1,h2⟩:=Z1z.1 h
  rw[Qu hp h1];exact h2
 |_=>cases h
theorem X5 {h:List Item} {τ:St} (H:Hx σ τ h) {g:Bool} {n:Nat} {a x:GV} (e:ldX σ h τ g n a=some x):ldG g n τ a=some x:=by
 unfold ldX orX ldY at e
 split at e
 ·rename_i y hy
  injection e with e;subst e
  exact Adr hy H.sub
 ·cases a with
  |ptr b off=>
   simp only at e
   cases hl:look h b with
   |none=>rw[hl] at e;exact e
   |some cs=>
    rw[hl] at e
    obtain⟨z,i,h1,_⟩:=O9 hl
    have:=H.hp.pt i h1
    simp only[ldG,this,Zad]
    exact e
  |_=>exact e
theorem Ads {n:Nat}:∀ {h:List Item},σ.length<=n->(∀ z m cs,Item.box z m cs∈h->m<n)->frX σ h n
 |[],hl,_=>hl
 | .box z m cs::h,hl,hb=>⟨hb z m cs Zae,Ads (h:=h) hl fun z m cs hm=>hb z m cs (Zab _ hm)⟩
 | .th r::h',hl,hb=>Ads (h:=h') hl fun z m cs hm=>hb z m cs (Zab _ hm)
theorem box_lt {h:List Item} {τ:St} (H:Hx σ τ h) {z m:Nat} {cs:List GV} (hm:Item.box z m cs∈h):m<τ.length:=by
 obtain⟨i,hi,e⟩:=Zai hm
 have h1:(h.map Item.t)[i]? =some (pt z m cs):=by
  rw[Zbf,Zbs hi,e];rfl
 obtain⟨a,ha,_,hb⟩:=H.hp.see h1
 exact(hb m (by rw[ha.1];exact Zae)).2
theorem Kk {h:List Item} {τ:St} {z:Nat} {cs:List GV} {v:Nat->GV} {k:Kx} (H:Hx σ τ h) (e:L7 σ h z cs v k):∃ h',Hx σ (τ++[some (.row z cs)]) h'/\k (v τ.length) h' (τ++[some (.row z cs)]):=
 ⟨.box z τ.length cs::h,H.hp.new z cs,e τ.length (Ads (h:=h) H.sub.length_le (fun _ _ _ hm=>box_lt H hm)) _ (H.hp.new z cs)⟩
theorem M7 {τ:St} {e:Option (GV×St)} {k:Kx} (h:genX σ D τ e k):∃ v τ',e=some (v,τ')/\(D=true->τ <+: τ')/\∃ h',Hx σ τ' h'/\k v h' τ':=by
 obtain⟨v,τ',h',h1,h2,h3,h4⟩:=h
 exact⟨v,τ',h1,h2,h',h3,h4⟩
theorem Adt {env:Env} {h:List Item} {τ:St} {k:Kx} (H:Hx σ τ h):∀ {i:Ins},sxI P D σ env h τ k i->∃ v τ',Step P env τ i v τ'/\(D=true->τ <+: τ')/\∃ h',Hx σ τ' h'/\k v h' τ':=by
 intro i e
 have same:∀ {v:Option GV},Eo v k h τ->(∀ v',v=some v'->Step P env τ i v' τ)->∃ v τ',Step P env τ i v τ'/\(D=true->τ <+: τ')/\∃ h',Hx σ τ' h'/\k v h' τ':=by
  intro v hb hs
  cases v with
  |none=>exact hb.elim
  |some v=>exact⟨v,τ,hs v rfl,fun _=>Za7 _,h,H,hb⟩
 have pure:Aaw i=true->Eo ((exec env [] i).map (·.1)) k h τ->i.isCall=false->(∀ v',exec env τ i=some (v',τ)->Step P env τ i v' τ)->∃ v τ',Step P env τ i v τ'/\(D=true->τ <+: τ')/\∃ h',Hx σ τ' h'/\k v h' τ':=by
  intro hp hb _ hs
  refine same hb fun v' hv=>hs v' ?_
  obtain⟨⟨w,s⟩,hw,rfl⟩:=Z2z.1 hv
  exact(A4d hp hw).2 τ
 cases i with
 |new cs=>
  obtain⟨h',h1,h2⟩:=Kk H e
  exact⟨_,_,rfl,fun _=>Zbc _ _,h',h1,h2⟩
 |box x=>
  obtain⟨h0,e⟩:=e
  obtain⟨h',h1,h2⟩:=Kk H e
  exact⟨_,_,by show boxG τ _=_;unfold boxG;rw[if_pos h0],fun _=>Zbc _ _,h',h1,h2⟩
 |lit z len zero parts=>
  simp only[sxI] at e
  unfold litX at e
  split at e
  ·rename_i cs hc
   obtain⟨h',h1,h2⟩:=Kk H e
   exact⟨_,_,by show exec env τ _=_;simp only[exec,hc];rfl,fun _=>Zbc _ _,h',h1,h2⟩
  ·exact e.elim
 |mks z b ze n c=>
  simp only[sxI] at e
  unfold mksX at e
  split at e
  ·rename_i n' c' hn hc
   obtain⟨h0,h3,e⟩:=e
   obtain⟨h',h1,h2⟩:=Kk H e
   exact⟨_,_,by show exec env τ _=_;simp only[exec,hn,hc,Zad,if_pos (And.intro h0 h3)],fun _=>Zbc _ _,h',h1,h2⟩
  ·exact e.elim
 |ld g n a=>
  refine same e fun v' hv=> ?_
  have:=X5 H hv
  show exec env τ _=_
  simp only[exec]
  revert this
  cases a.ev env with
  |ptr b off=>
   intro h1
   simp only[ldG] at h1
   simp only[ptrG,Zad]
   obtain⟨cs,h2,h3⟩:=Z1z.1 h1
   obtain⟨r,h4,h5⟩:=Z1z.1 h3
   simp only[h2,Zad,h4,h5,Zbd]
  |_=>intro h1;cases h1
 |st n a x=>
  simp only[sxI] at e
  have hst:∀ {y:GV} {τ'},stG n τ (a.ev env) (x.ev env)=some (y,τ')->Step P env τ (.st n a x) y τ':=by
   intro y τ' he
   show exec env τ _=_
   simp only[exec]
   revert he
   cases a.ev env<;>intro he<;>first|cases he;done|exact he
  have gen:genX σ D τ (stG n τ (a.ev env) (x.ev env)) k->∃ v τ',Step P env τ (.st n a x) v τ'/\(D=true->τ <+: τ')/\∃ h',Hx σ τ' h'/\k v h' τ':=fun hg=>by
   obtain⟨v,τ',h1,h2⟩:=M7 hg
   exact⟨v,τ',hst h1,h2⟩
  unfold stX at e
  split at e
  ·rename_i b off hb
   unfold stB at e
   split at e
   ·rename_i cs hl
    obtain⟨⟨h0,h1,h2,h3⟩,h4⟩:=e
    obtain⟨z,i,h5,h6⟩:=O9 hl
    obtain⟨τ',s1,s2,_⟩:=H.hp.st i h5 n off (x.ev env) h3 h2 h1
    have s3:Hx σ τ' (upd h b (Aq cs off (x.ev env).cells)):=by unfold Hx;rw[h6];exact s2
    exact⟨_,τ',hst (by rw[hb];exact s1),(fun hd=>by rw[hd] at h0;cases h0),_,s3,h4 _ s3⟩
   ·rw[<- hb] at e;exact gen e
  ·exact gen e
 |call f xs=>
  obtain⟨v,τ',h',h1,h2,h3,h4⟩:=e
  exact⟨v,τ',h1,h2,h',h3,h4⟩
 |callv x xs=>
  simp only[sxI] at e
  unfold fnX at e
  split at e
  ·rename_i f caps hf
   obtain⟨v,τ',h',h1,h2,h3,h4⟩:=e
   exact⟨v,τ',⟨f,caps,hf,h1⟩,h2,h',h3,h4⟩
  ·exact e.elim
 |chk d x=>
  cases x with
  |ld g n a=>cases a with
   |t t=>
    obtain⟨h1,h2⟩:=e
    refine⟨_,τ,⟨rfl,rfl,?_⟩,fun _=>Za7 _,h,H,h2⟩
    have h3:=X5 H h1
    simp only[exec,Opd.ev]
    revert h3
    cases env t with
    |ptr b off=>
     intro h1
     simp only[ldG] at h1
     simp only[ptrG,Zad]
     obtain⟨cs,h2,h3⟩:=Z1z.1 h1
     obtain⟨r,h4,h5⟩:=Z1z.1 h3
     simp only[h2,Zad,h4,h5,Zbd]
    |_=>intro h1;cases h1
   |k v=>exact e.elim
  |_=>exact e.elim
 |blc t cs=>
  obtain⟨h1,h2⟩:=e
  revert h1
  unfold blcX
  split
  ·rename_i b hb
   intro h1
   obtain⟨i,h3⟩:=A32 h1
   obtain⟨a,ha,_⟩:=H.hp.see h3
   exact⟨_,τ,⟨rfl,rfl,b,hb,B5.1 ha.2⟩,fun _=>Za7 _,h,H,h2⟩
  ·exact fun h1=>h1.elim
 |mlk ks z ok m k'=>exact same e fun v' hv=>by show exec env τ _=_;simp only[exec,hv,Zbd]
 |bts x=>
  refine same e fun v' hv=> ?_
  show exec env τ _=_
  simp only[exec]
  obtain⟨r,h1,h2⟩:=Z1z.1 hv
  obtain⟨bs,h3,rfl⟩:=Z2z.1 h2
  rw[h1,Zad,h3];rfl
 |cut z x lo hi=>
  refine same e fun v' hv=> ?_
  show exec env τ _=_
  simp only[exec]
  split at hv
  ·rename_i hz
   rw[if_pos hz,hv];rfl
  ·cases hv
 |app z b ze s x=>exact M7 e
 |clr z ze x=>exact M7 e
 |mkm=>exact M7 e
 |mup ks m k' v=>exact M7 e
 |mkf f caps=>
  refine same e fun v' hv=> ?_
  show exec env τ _=_
  simp only[exec] at hv ⊢
  obtain⟨⟨w,s⟩,hw,rfl⟩:=Z2z.1 hv
  obtain⟨cs,h1,h2⟩:=Z2z.1 hw
  injection h2 with h2 h3;subst h2
  rw[h1];rfl
 |pan=>exact e.elim
 |_=>exact pure rfl e rfl fun _ h=>h
theorem Px:∀ {os:List Op1} {K:Env->List Item->St->Prop} {env:Env} {h:List Item} {τ:St},Hx σ τ h->sx P D σ os K env h τ->Ah D P os (fun env' τ'=>τ.length<=τ'.length/\∃ h',Hx σ τ' h'/\K env' h' τ') env τ
 |[],K,env,h,τ,H,e=>⟨Za8 _,h,H,e⟩
 |o::r,K,env,h,τ,H,e=>by
  have yes:sxI P D σ env h τ (fun v h' τ'=>sx P D σ r K (upo env o.d v) h' τ') o.i->∃ v σ',Step P env τ o.i v σ'/\(D=true->τ <+: σ')/\Ah D P r (fun env' τ'=>τ.length<=τ'.length/\∃ h',Hx σ τ' h'/\K env' h' τ') (upo env o.d v) σ':=fun e=>by
   obtain⟨v,τ',h1,h2,h',h3,h4⟩:=Adt H e
   have hl:=Uy h1
   exact⟨v,τ',h1,h2,Cb (Px h3 h4) fun _ _ hk=>⟨Zaz hl hk.1,hk.2⟩⟩
  have no:sx P D σ r K (upo env o.d (.tup [])) h τ->Ah D P r (fun env' τ'=>τ.length<=τ'.length/\∃ h',Hx σ τ' h'/\K env' h' τ') (upo env o.d (.tup [])) τ:=fun e=>Px H e
  simp only[Ah]
  simp only[sx] at e
  cases hg:o.g with
  |none=>
   rw[hg] at e
   rw[if_pos (by simp[Aj])]
   exact yes e
  |some q=>
   obtain⟨g,b⟩:=q
   rw[hg] at e
   simp only[Zbd] at e
   cases hc:(env g).bit with
   |none=>
    rw[hc] at e
    rw[if_neg (by simp[Aj,hc])]
    exact no e
   |some c=>
    rw[hc] at e
    by_cases hcb:c=b
    ·rw[if_pos (by simp[Aj,hc,hcb])]
     exact yes (e.1 hcb)
    ·rw[if_neg (by simp[Aj,hc,hcb])]
     exact no (e.2 (by cases c<;>cases b<;>simp_all))
theorem A5x {d:Cd}:∀ {Q:Qx} {env:Env} {h:List Item} {τ:St},Hx σ τ h->sxc P σ d Q env h τ->vc P d (fun e env' τ'=>τ.length<=τ'.length/\∃ h',Hx σ τ' h'/\Q e env' h' τ') env τ:=by
 induction d with
 |skip=>intro Q env h τ H e;exact⟨Za8 _,h,H,e⟩
 |reg ops=>intro Q env h τ H e;exact Px H e
 |drw a1 bs=>
  intro Q env h τ H e
  show Ah true P a1 _ env τ
  refine Cb (Px H e) fun env' τ' hk=> ?_
  obtain⟨hl,h',H',hk⟩:=hk
  exact Cb (Px H' hk) fun _ _ hq=>⟨Zaz hl hq.1,hq.2⟩
 |seq a b iha ihb=>
  intro Q env h τ H e
  show vc P a _ env τ
  refine B4 (iha H e) fun e env' τ' hk=> ?_
  obtain⟨hl,h',H',hk⟩:=hk
  cases e with
  |nxt=>exact B4 (ihb H' hk) fun _ _ _ hq=>⟨Zaz hl hq.1,hq.2⟩
  |ext j=>exact⟨hl,h',H',hk⟩
  |ret=>exact⟨hl,h',H',hk⟩
 |cnd c a b iha ihb=>
  intro Q env h τ H e
  simp only[sxc] at e
  unfold ifX at e
  split at e
  ·rename_i t ht
   exact⟨t,ht,fun k=>iha H (e.1 k),fun k=>ihb H (e.2 k)⟩
  ·exact e.elim
 |blk id a ih=>
  intro Q env h τ H e
  show vc P a _ env τ
  refine B4 (ih H e) fun e env' τ' hk=> ?_
  obtain⟨hl,h',H',hk⟩:=hk
  cases e with
  |nxt=>exact⟨hl,h',H',hk⟩
  |ext j=>
   simp only at hk ⊢
   split at hk
   ·rename_i hj;rw[if_pos hj];exact⟨hl,h',H',hk⟩
   ·rename_i hj;rw[if_neg hj];exact⟨hl,h',H',hk⟩
  |ret=>exact⟨hl,h',H',hk⟩
 |lop a ih=>
  intro Q env h τ H e
  obtain⟨I,n,h0,H0,hI,hs⟩:=e
  refine Sm (fun k env' τ'=>τ.length<=τ'.length/\∃ h,Hx σ τ' h/\I k env' h τ') n ⟨Za8 _,h0,H0,hI⟩ ?_
  rintro k env1 τ1 ⟨hl,h1,H1,hI1⟩
  refine B4 (ih H1 (hs k env1 h1 τ1 H1 hI1)) fun e env' τ' hk=> ?_
  obtain⟨hl2,h',H',hk⟩:=hk
  cases e with
  |nxt=>
   obtain⟨k',h3,h4,h5,h6⟩:=hk
   exact⟨k',h4,Zaz hl hl2,h3,h5,h6⟩
  |ext j=>exact⟨Zaz hl hl2,hk⟩
  |ret=>exact⟨Zaz hl hl2,hk⟩
 |ext id=>intro Q env h τ H e;exact⟨Za8 _,h,H,e⟩
 |ret=>intro Q env h τ H e;exact⟨Za8 _,h,H,e⟩
def rsX (σ:St) (h:List Item) (τ:St) (env:Env):Rs->Option GV
 | .t n=>some (env n)
 | .c a g n=>ldX σ h τ g n (env a)
def resX (σ:St) (h:List Item) (τ:St) (env:Env):List Rs->Option GV
 |[r]=>rsX σ h τ env r
 |rs=>(Bg (rsX σ h τ env) rs).bind fun vs=>if vs.all Bs then some (.tup vs) else none
theorem A5y {h:List Item} {τ:St} (H:Hx σ τ h) {env:Env} {r:Rs} {v:GV} (e:rsX σ h τ env r=some v):r.ev env τ=some v:=by
 cases r with
 |t n=>exact e
 |c a g n=>rw[rs_c];exact X5 H e
theorem A0w {α β:Type} {f g:α->Option β} (h:∀ x y,f x=some y->g x=some y):∀ {l:List α} {r:List β},Bg f l=some r->Bg g l=some r
 |[],r,e=>e
 |x::l,r,e=>by
  simp only[Bg,Z1z,Z2z] at e ⊢
  obtain⟨y,h1,ys,h2,rfl⟩:=e
  exact⟨y,h _ _ h1,ys,A0w h h2,rfl⟩
theorem A0x {h:List Item} {τ:St} (H:Hx σ τ h) {env:Env} {rs:List Rs} {v:GV} (e:resX σ h τ env rs=some v):resG env τ rs=some v:=by
 unfold resX at e
 unfold resG
 split at e
 ·exact A5y H e
 ·rename_i hne
  split
  ·exact absurd rfl (hne _)
  ·obtain⟨vs,h1,h2⟩:=Z1z.1 e
   rw[A0w (fun x y=>A5y H) h1];exact h2
theorem D8 {md:Bool} {f:Nat} {F:Fn1} {args:List GV} {σ1:St} {h0:List Item} {Post:GV->St->Prop} (hF:Es md P f=some F) (hl:args.length<=F.n) (H:Hx σ σ1 h0)
  (hc:sxc P σ F.c (fun e env h τ=>Hx σ τ h->Vj e=true/\∃ r,resX σ h τ env F.rs=some r/\Post r τ) (env0 args) h0 σ1):∃ r τ,Ret P f args σ1 r τ/\Post r τ:=
 Bc hF hl (B4 (A5x H hc) fun e env τ he=>by
  obtain⟨hl,h,H,hq⟩:=he
  obtain⟨ho,r,hr,hp⟩:=hq H
  exact⟨ho,r,A0x H hr,hl,hp⟩)
end sound
def Ai0 (P:Program) (D:Bool) (σ:St) (r:List Op1) (K:Env->List Item->St->Prop) (env:Env) (d:Option Nat):Kx:=fun v h' τ'=>sx P D σ r K (upo env d v) h' τ'
def gdS (P:Program) (D:Bool) (σ:St) (env:Env) (h:List Item) (τ:St) (k:Kx) (i:Ins) (b:Bool) (c:Option Bool):Prop:=match c with
 |some c=>(c=b->sxI P D σ env h τ k i)/\(c= !b->k (.tup []) h τ)
 |none=>k (.tup []) h τ
def ifS (P:Program) (σ:St) (a b:Cd) (Q:Qx) (env:Env) (h:List Item) (τ:St) (c:Option Bool):Prop:=match c with
 |some c=>(c=true->sxc P σ a Q env h τ)/\(c=false->sxc P σ b Q env h τ)
 |none=>False
section words
variable {P:Program} {D:Bool} {σ τ:St} {env:Env} {h:List Item} {r:List Op1} {K:Env->List Item->St->Prop} {k:Kx} {d:Option Nat} {Q:Qx}
@[go_sem] theorem nextX_ap {v:GV}:Ai0 P D σ r K env d v h τ=sx P D σ r K (upo env d v) h τ:=(rfl)
@[go_sem] theorem sx_nil:sx P D σ [] K env h τ=K env h τ:=(rfl)
@[go_sem] theorem sx_one {i:Ins}:sx P D σ (⟨d,none,i⟩::r) K env h τ=sxI P D σ env h τ (Ai0 P D σ r K env d) i:=(rfl)
@[go_sem] theorem sx_grd {g:Nat} {b:Bool} {i:Ins}:sx P D σ (⟨d,some (g,b),i⟩::r) K env h τ=gdS P D σ env h τ (Ai0 P D σ r K env d) i b (env g).bit:=by
 show gdX (some ((env g).bit,b)) _ _=_
 cases(env g).bit<;>rfl
@[go_sem] theorem gdS_tt {b:Bool} {i:Ins}:gdS P D σ env h τ k i b (some b)=sxI P D σ env h τ k i:=by cases b<;>simp[gdS]
@[go_sem] theorem gdS_tf {i:Ins}:gdS P D σ env h τ k i false (some true)=k (.tup []) h τ:=by simp[gdS]
@[go_sem] theorem gdS_ft {i:Ins}:gdS P D σ env h τ k i true (some false)=k (.tup []) h τ:=by simp[gdS]
@[go_sem] theorem gdS_n {b:Bool} {i:Ins}:gdS P D σ env h τ k i b none=k (.tup []) h τ:=(rfl)
@[go_sem] theorem bindX_some {v:GV}:Eo (some v) k h τ=k v h τ:=(rfl)
@[go_sem] theorem ifS_t {a b:Cd}:ifS P σ a b Q env h τ (some true)=sxc P σ a Q env h τ:=by simp[ifS]
@[go_sem] theorem ifS_f {a b:Cd}:ifS P σ a b Q env h τ (some false)=sxc P σ b Q env h τ:=by simp[ifS]
theorem ifS_v {c:Bool} {a b:Cd}:ifS P σ a b Q env h τ (some c)=((c=true->sxc P σ a Q env h τ)/\(c=false->sxc P σ b Q env h τ)):=(rfl)
theorem A5z {v:Option GV}:(Option.map (·.1) (v.map fun v=>(v,([]:St))))=v:=by cases v<;>rfl
@[go_sem] theorem xi_mov {x:Opd}:sxI P D σ env h τ k (.mov x)=k (x.ev env) h τ:=(rfl)
@[go_sem] theorem xi_pick {c a b:Opd}:sxI P D σ env h τ k (.pick c a b)=Eo ((c.ev env).bit.map fun t=>if t then a.ev env else b.ev env) k h τ:=by
 simp only[sxI,exec]
 cases(c.ev env).bit<;>rfl
@[go_sem] theorem xi_new {cs:List GV}:sxI P D σ env h τ k (.new cs)=L7 σ h 1 cs (fun n=>.ptr n 0) k:=(rfl)
@[go_sem] theorem xi_box {x:Opd}:sxI P D σ env h τ k (.box x)=(Bs (x.ev env)=true/\L7 σ h 1 (x.ev env).cells (fun n=>.ptr n 0) k):=(rfl)
@[go_sem] theorem xi_build {z:List GV} {ps:List (Nat×Nat×Opd)}:sxI P D σ env h τ k (.build z ps)=Eo ((Hb z (ps.map fun p=>(p.1,p.2.1,p.2.2.ev env))).map .agg) k h τ:=by
 simp only[sxI,exec]
 cases Hb z (ps.map fun p=>(p.1,p.2.1,p.2.2.ev env))<;>rfl
@[go_sem] theorem xi_lit {z l:Nat} {ze:List GV} {ps:List (Nat×Nat×Opd)}:sxI P D σ env h τ k (.lit z l ze ps)=litX σ h z l k (Hb ze (ps.map fun p=>(p.1,p.2.1,p.2.2.ev env))):=(rfl)
@[go_sem] theorem litX_some {z l:Nat} {cs:List GV}:litX σ h z l k (some cs)=L7 σ h z cs (fun n=>.sl n 0 l) k:=(rfl)
@[go_sem] theorem xi_mks {z b:Nat} {ze:List GV} {n c:Opd}:sxI P D σ env h τ k (.mks z b ze n c)=mksX σ h z b ze k (B8 (some (n.ev env))) (B8 (some (c.ev env))):=(rfl)
@[go_sem] theorem mksX_some {z b:Nat} {ze:List GV} {n c:Nat}:mksX σ h z b ze k (some n) (some c)=(n=c/\n*b<=140737488355328/\L7 σ h z (reps n ze) (fun g=>.sl g 0 n) k):=(rfl)
@[go_sem] theorem xi_ld {g:Bool} {n:Nat} {a:Opd}:sxI P D σ env h τ k (.ld g n a)=Eo (ldX σ h τ g n (a.ev env)) k h τ:=(rfl)
@[go_sem] theorem xi_st {n:Nat} {a x:Opd}:sxI P D σ env h τ k (.st n a x)=stX σ D h τ n k (a.ev env) (x.ev env):=(rfl)
@[go_sem] theorem stX_ptr {n b off:Nat} {x:GV}:stX σ D h τ n k (.ptr b off) x=stB σ D h τ n k b off x (look h b):=(rfl)
@[go_sem] theorem stB_some {n b off:Nat} {x:GV} {cs:List GV}:stB σ D h τ n k b off x (some cs)=((D=false/\off+n<=cs.length/\0<n/\x.cells.length=n)/\∀ τ',Hx σ τ' (upd h b (Aq cs off x.cells))->k (.tup []) (upd h b (Aq cs off x.cells)) τ'):=(rfl)
@[go_sem] theorem xi_nck {x:Opd}:sxI P D σ env h τ k (.nck x)=Eo (nckG (x.ev env)) k h τ:=by simp only[sxI,exec,A5z]
@[go_sem] theorem xi_bin {op:BinOp} {x y:Opd}:sxI P D σ env h τ k (.bin op x y)=Eo (binG op (x.ev env) (y.ev env)) k h τ:=by simp only[sxI,exec,A5z]
@[go_sem] theorem xi_eqb {n:Bool} {x y:Opd}:sxI P D σ env h τ k (.eqb n x y)=Eo (eqbG n (x.ev env) (y.ev env)) k h τ:=by
 simp only[sxI,exec,eqbG]
 cases(x.ev env).bit with
 |none=>rfl
 |some a=>cases(y.ev env).bit<;>rfl
@[go_sem] theorem xi_eqn {p n:Bool} {x y:Opd}:sxI P D σ env h τ k (.eqn p n x y)=Eo ((nilG p (x.ev env) (y.ev env)).map fun b=>.bool (n ^^ b)) k h τ:=by
 simp only[sxI,exec]
 cases nilG p (x.ev env) (y.ev env)<;>rfl
@[go_sem] theorem xi_eqs {n:Bool} {ks:List Sc} {x y:Opd}:sxI P D σ env h τ k (.eqs n ks x y)=Eo (eqsG n ks (x.ev env) (y.ev env)) k h τ:=by
 simp only[sxI,exec]
 cases x.ev env<;>first|rfl|skip
 cases y.ev env<;>first|rfl|skip
 simp only[eqsG]
 cases Cz ks _ _<;>rfl
@[go_sem] theorem xi_un {op:UnOp} {x:Opd}:sxI P D σ env h τ k (.un op x)=Eo (unG op (x.ev env)) k h τ:=by simp only[sxI,exec,A5z]
@[go_sem] theorem xi_cvi {kd:IntKind} {x:Opd}:sxI P D σ env h τ k (.cvi kd x)=Eo (cviG kd (x.ev env)) k h τ:=by
 simp only[sxI,exec]
 cases x.ev env<;>rfl
@[go_sem] theorem xi_bts {x:Opd}:sxI P D σ env h τ k (.bts x)=Eo ((elems τ 1 (x.ev env)).bind fun r=>(Hm r.2).map fun bs=>.str ⟨bs.toArray⟩) k h τ:=(rfl)
@[go_sem] theorem xi_mkf {f:Nat} {cs:List Opd}:sxI P D σ env h τ k (.mkf f cs)=Eo ((cs.mapM fun c=>A44 (c.ev env)).map fun cs=>.fn f cs) k h τ:=by
 simp only[sxI,exec]
 cases cs.mapM fun c=>A44 (c.ev env)<;>rfl
@[go_sem] theorem xi_cutS {x:Opd} {lo hi:Option Opd}:sxI P D σ env h τ k (.cutS x lo hi)=Eo (Aaq (x.ev env) (lo.map (·.ev env)) (hi.map (·.ev env))) k h τ:=by simp only[sxI,exec,A5z]
@[go_sem] theorem xi_cut {z:Nat} {x:Opd} {lo hi:Option Opd}:sxI P D σ env h τ k (.cut z x lo hi)=Eo (if zOk τ z (x.ev env) then cutG z (x.ev env) (lo.map (·.ev env)) (hi.map (·.ev env)) else none) k h τ:=(rfl)
@[go_sem] theorem xi_fad {n:Nat} {a:Opd}:sxI P D σ env h τ k (.fad n a)=Eo (fadG n (a.ev env)) k h τ:=by
 simp only[sxI,exec]
 cases a.ev env<;>rfl
@[go_sem] theorem xi_part {g:Bool} {off n:Nat} {x:Opd}:sxI P D σ env h τ k (.part g off n x)=Eo (Aex g off n (x.ev env)) k h τ:=by
 simp only[sxI,exec]
 cases x.ev env with
 |agg cs=>
  simp only[Aex]
  cases seg cs off n with
  |none=>rfl
  |some q=>simp only[Zad,A5z]
 |_=>rfl
@[go_sem] theorem xi_iad {z:Nat} {x i:Opd}:sxI P D σ env h τ k (.iad z x i)=Eo (iadG z (x.ev env) (B8 (some (i.ev env)))) k h τ:=by
 simp only[sxI,exec]
 cases x.ev env with
 |sl g off len=>
  simp only
  cases B8 (some (i.ev env)) with
  |none=>rfl
  |some n=>
   simp only[Zad,iadG]
   split<;>rfl
 |_=>rfl
@[go_sem] theorem xi_idx {x i:Opd}:sxI P D σ env h τ k (.idx x i)=Eo (idxG (x.ev env) (B8 (some (i.ev env)))) k h τ:=by
 simp only[sxI,exec]
 cases x.ev env with
 |str s=>
  simp only
  cases B8 (some (i.ev env)) with
  |none=>rfl
  |some n=>
   simp only[Zad,idxG]
   cases s[n]? <;>rfl
 |_=>rfl
@[go_sem] theorem xi_ext {i:Nat} {x:Opd}:sxI P D σ env h τ k (.ext i x)=Eo (extG i (x.ev env)) k h τ:=by
 simp only[sxI,exec]
 cases x.ev env with
 |tup vs=>
  simp only[extG]
  cases vs[i]? with
  |none=>rfl
  |some v=>cases v<;>rfl
 |_=>rfl
@[go_sem] theorem xi_len {s:Bool} {x:Opd}:sxI P D σ env h τ k (.len s x)=Eo ((lenG s (x.ev env)).map fun n=>.int .i64 n) k h τ:=by
 simp only[sxI,exec]
 cases lenG s (x.ev env)<;>rfl
@[go_sem] theorem xi_app {z b:Nat} {ze:List GV} {s x:Opd}:sxI P D σ env h τ k (.app z b ze s x)=genX σ D τ (appV z b τ (s.ev env) (x.ev env)) k:=(rfl)
@[go_sem] theorem xi_mm {m:Bool} {x y:Opd}:sxI P D σ env h τ k (.mm m x y)=Eo (mmG m (x.ev env) (y.ev env)) k h τ:=by
 simp only[sxI,exec]
 cases x.ev env<;>first|rfl|skip
 cases y.ev env<;>rfl
@[go_sem] theorem xi_clr {z:Nat} {ze:List GV} {x:Opd}:sxI P D σ env h τ k (.clr z ze x)=genX σ D τ (clrG z ze τ (x.ev env)) k:=(rfl)
@[go_sem] theorem xi_pan:sxI P D σ env h τ k .pan=False:=(rfl)
@[go_sem] theorem xi_mkm:sxI P D σ env h τ k .mkm=genX σ D τ (some (.mp τ.length,τ++[some (.map [])])) k:=(rfl)
@[go_sem] theorem xi_mlk {ks:List Sc} {z:GV} {ok:Bool} {m k':Opd}:sxI P D σ env h τ k (.mlk ks z ok m k')=Eo (mlkG τ ks z ok (m.ev env) (k'.ev env)) k h τ:=(rfl)
@[go_sem] theorem xi_mup {ks:List Sc} {m k' v:Opd}:sxI P D σ env h τ k (.mup ks m k' v)=genX σ D τ (mupG τ ks (m.ev env) (k'.ev env) (v.ev env)) k:=(rfl)
@[go_sem] theorem xi_call {f:Nat} {xs:List Opd}:sxI P D σ env h τ k (.call f xs)=A31 P σ D τ f (xs.map (·.ev env)) k:=(rfl)
@[go_sem] theorem xi_callv {x:Opd} {xs:List Opd}:sxI P D σ env h τ k (.callv x xs)=fnX P σ D τ (xs.map (·.ev env)) k (x.ev env):=(rfl)
@[go_sem] theorem fnX_fn {f:Nat} {caps:List (Nat×Nat)} {args:List GV}:fnX P σ D τ args k (.fn f caps)=A31 P σ D τ f (args++caps.map fun c=>.ptr c.1 c.2) k:=(rfl)
@[go_sem] theorem xi_chk {d' n t:Nat} {g:Bool}:sxI P D σ env h τ k (.chk d' (.ld g n (.t t)))=(ldX σ h τ g n (env t)=some (env d')/\k (.tup []) h τ):=(rfl)
@[go_sem] theorem xi_blc {t:Nat} {cs:List GV}:sxI P D σ env h τ k (.blc t cs)=(blcX h cs (env t)/\k (.tup []) h τ):=(rfl)
@[go_sem] theorem blcX_ptr {b:Nat} {cs:List GV}:blcX h cs (.ptr b 0)=(Pw h b=some (1,cs)):=(rfl)
@[go_sem] theorem lookZ_eq {z n:Nat} {cs:List GV}:Pw (.box z n cs::h) n=some (z,cs):=by simp[Pw]
@[go_sem low] theorem lookZ_ne {z m n:Nat} {cs:List GV} (hn:m≠n):Pw (.box z m cs::h) n=Pw h n:=by simp[Pw,hn]
@[go_sem] theorem lookZ_th {n:Nat} {q:Thg}:Pw (.th q::h) n=Pw h n:=(rfl)
@[go_sem] theorem allocX_def {z:Nat} {cs:List GV} {v:Nat->GV}:L7 σ h z cs v k=∀ n,frX σ h n->∀ τ',Hx σ τ' (.box z n cs::h)->k (v n) (.box z n cs::h) τ':=(rfl)
@[go_sem] theorem frX_nil {n:Nat}:frX σ [] n=(σ.length<=n):=(rfl)
@[go_sem] theorem Ai1 {z m n:Nat} {cs:List GV}:frX σ (.box z m cs::h) n=(m<n/\frX σ h n):=(rfl)
@[go_sem] theorem frX_th {n:Nat} {q:Thg}:frX σ (.th q::h) n=frX σ h n:=(rfl)
@[go_sem] theorem Cq {z n:Nat} {cs:List GV}:look (.box z n cs::h) n=some cs:=by simp[look]
@[go_sem low] theorem look_ne {z m n:Nat} {cs:List GV} (hn:m≠n):look (.box z m cs::h) n=look h n:=by simp[look,hn]
@[go_sem] theorem look_th {n:Nat} {q:Thg}:look (.th q::h) n=look h n:=(rfl)
@[go_sem] theorem upd_eq {z n:Nat} {cs ds:List GV}:upd (.box z n cs::h) n ds= .box z n ds::h:=by simp[upd]
@[go_sem low] theorem upd_ne {z m n:Nat} {cs ds:List GV} (hn:m≠n):upd (.box z m cs::h) n ds= .box z m cs::upd h n ds:=by simp[upd,hn]
@[go_sem] theorem upd_th {n:Nat} {q:Thg} {ds:List GV}:upd (.th q::h) n ds= .th q::upd h n ds:=(rfl)
@[go_sem] theorem ldX_ptr {g:Bool} {n b off:Nat} (hb:σ.length<=b):ldX σ h τ g n (.ptr b off)=ldB (look h b) g n off (ldG g n τ (.ptr b off)):=by
 have:ldG g n σ (.ptr b off)=none:=by
  simp only[ldG,rdB]
  rw[List.getElem?_eq_none hb];rfl
 simp only[ldX,this,orX,ldY]
@[go_sem] theorem ldX_at {g:Bool} {n z i:Nat} {v:GV}:ldX σ h τ g n (atz z v i)=orX (ldG g n σ (atz z v i)) (ldY h τ g n (atz z v i)):=(rfl)
@[go_sem] theorem ldX_fld {g:Bool} {n z i m:Nat} {v:GV}:ldX σ h τ g n (fld m (atz z v i))=orX (ldG g n σ (fld m (atz z v i))) (ldY h τ g n (fld m (atz z v i))):=(rfl)
@[go_sem] theorem orX_some {x:GV} {b:Option GV}:orX (some x) b=some x:=(rfl)
@[go_sem] theorem orX_none {b:Option GV}:orX none b=b:=(rfl)
@[go_sem] theorem ldB_some {cs:List GV} {g:Bool} {n off:Nat} {e:Option GV}:ldB (some cs) g n off e=(seg cs off n).bind (mkv g):=(rfl)
@[go_sem] theorem cells_i {kd:IntKind} {n:Int}:(GV.int kd n).cells=[.int kd n]:=(rfl)
@[go_sem] theorem cells_s {s:ByteArray}:(GV.str s).cells=[.str s]:=(rfl)
@[go_sem] theorem cells_b {b:Bool}:(GV.bool b).cells=[.bool b]:=(rfl)
@[go_sem] theorem cells_p {n o:Nat}:(GV.ptr n o).cells=[.ptr n o]:=(rfl)
@[go_sem] theorem cells_l {n o l:Nat}:(GV.sl n o l).cells=[.sl n o l]:=(rfl)
@[go_sem] theorem cells_a {cs:List GV}:(GV.agg cs).cells=cs:=(rfl)
@[go_sem] theorem cells_n:(GV.nilS).cells=[.nilS]:=(rfl)
@[go_sem] theorem cells_m {n:Nat}:(GV.mp n).cells=[.mp n]:=(rfl)
@[go_sem] theorem cells_f {f:Nat} {c:List (Nat×Nat)}:(GV.fn f c).cells=[.fn f c]:=(rfl)
@[go_sem] theorem notTup_p {n o:Nat}:Bs (.ptr n o)=true:=(rfl)
@[go_sem] theorem notTup_m {n:Nat}:Bs (.mp n)=true:=(rfl)
@[go_sem] theorem notTup_f {f:Nat} {c:List (Nat×Nat)}:Bs (.fn f c)=true:=(rfl)
@[go_sem] theorem xc_skip:sxc P σ .skip Q env h τ=Q .nxt env h τ:=(rfl)
@[go_sem] theorem xc_reg {os:List Op1}:sxc P σ (.reg os) Q env h τ=sx P false σ os (Q .nxt) env h τ:=(rfl)
@[go_sem] theorem xc_drw {a1 bs:List Op1}:sxc P σ (.drw a1 bs) Q env h τ=sx P true σ a1 (sx P false σ bs (Q .nxt)) env h τ:=(rfl)
@[go_sem] theorem xc_seq {a b:Cd}:sxc P σ (.seq a b) Q env h τ=sxc P σ a (fun e=>match e with
  | .nxt=>sxc P σ b Q
  |e=>Q e) env h τ:=(rfl)
@[go_sem] theorem xc_cnd {c:Opd} {a b:Cd}:sxc P σ (.cnd c a b) Q env h τ=ifS P σ a b Q env h τ (c.ev env).bit:=by
 show ifX _ _ _=_
 cases(c.ev env).bit<;>rfl
@[go_sem] theorem xc_blk {id:Nat} {a:Cd}:sxc P σ (.blk id a) Q env h τ=sxc P σ a (fun e=>match e with
  | .ext j=>if j=id then Q .nxt else Q (.ext j)
  |e=>Q e) env h τ:=(rfl)
@[go_sem] theorem xc_ext {id:Nat}:sxc P σ (.ext id) Q env h τ=Q (.ext id) env h τ:=(rfl)
@[go_sem] theorem xc_ret:sxc P σ .ret Q env h τ=Q .ret env h τ:=(rfl)
@[go_sem] theorem rsX_t {n:Nat}:rsX σ h τ env (.t n)=some (env n):=(rfl)
@[go_sem] theorem rsX_c {a n:Nat} {g:Bool}:rsX σ h τ env (.c a g n)=ldX σ h τ g n (env a):=(rfl)
@[go_sem] theorem resX_1 {x:Rs}:resX σ h τ env [x]=rsX σ h τ env x:=(rfl)
@[go_sem] theorem resX_0:resX σ h τ env []=some (.tup []):=(rfl)
@[go_sem] theorem resX_2 {x y:Rs}:resX σ h τ env [x,y]=tup2 (rsX σ h τ env x) (rsX σ h τ env y):=by
 simp only[resX,Bg,tup2]
 cases rsX σ h τ env x with
 |none=>rfl
 |some u=>cases rsX σ h τ env y<;>simp
@[go_sem] theorem resX_3 {x y z:Rs}:resX σ h τ env [x,y,z]=tup3 (rsX σ h τ env x) (rsX σ h τ env y) (rsX σ h τ env z):=by
 simp only[resX,Bg,tup3]
 cases rsX σ h τ env x with
 |none=>rfl
 |some u=>cases rsX σ h τ env y with
  |none=>rfl
  |some v=>cases rsX σ h τ env z<;>simp
end words
theorem A33 {τ:St}:∀ {rs:List Thg} {fp:List Nat},sat τ rs fp->fp.Nodup->∃ F:Nat->List Nat,(∀ (i:Nat) (r:Thg),rs[i]? =some r->r.P τ (F i))/\(∀ i,(F i).Nodup)/\(∀ i j,i≠j->∀ g∈F i,g∉F j)/\∀ i,∀ g∈F i,g∈fp
 |[],fp,h,hn=>⟨fun _=>[],by simp,by simp,by simp,by simp⟩
 |r::rs,_,⟨a,b,hr,hs,rfl⟩,hn=>by
  rw[Zaq] at hn
  obtain⟨F,h1,h2,h3,h4⟩:=A33 hs hn.2.1
  refine⟨fun i=>match i with|0=>a|i+1=>F i,?_,?_,?_,?_⟩
  ·intro i s hi
   cases i with
   |zero=>simp at hi;subst hi;exact hr
   |succ i=>exact h1 i s (by simpa using hi)
  ·intro i;cases i with
   |zero=>exact hn.1
   |succ i=>exact h2 i
  ·intro i j hij g hg
   cases i with
   |zero=>cases j with
    |zero=>exact absurd rfl hij
    |succ j=>exact fun h=>hn.2.2 g hg g (h4 j g h) rfl
   |succ i=>cases j with
    |zero=>exact fun h=>hn.2.2 g h g (h4 i g hg) rfl
    |succ j=>exact h3 i j (by omega) g hg
  ·intro i g hg
   cases i with
   |zero=>exact Zao _ hg
   |succ i=>exact Zaj _ (h4 i g hg)
theorem Adu {τ:St} {rs:List Thg} {F:Nat->List Nat} (h1:∀(i:Nat) (r:Thg),rs[i]? =some r->r.P τ (F i)) (h2:∀ i,(F i).Nodup) (h3:∀ i j,i≠j->∀ g∈F i,g∉F j):∀ {is:List Nat},is.Nodup->∃ fp,sat τ (is.filterMap (rs[·]?)) fp/\fp.Nodup/\∀ g∈fp,∃ i∈is,g∈F i
 |[],_=>⟨[],rfl,by simp,by simp⟩
 |i::is,hn=>by
  rw[Zas] at hn
  obtain⟨fp,k1,k2,k3⟩:=Adu h1 h2 h3 hn.2
  cases hi:rs[i]? with
  |none=>exact⟨fp,by rw[Za9,hi];exact k1,k2,fun g hg=>by obtain⟨j,hj,h⟩:=k3 g hg;exact⟨j,Zab _ hj,h⟩⟩
  |some r=>
   refine⟨F i++fp,by rw[Za9,hi];exact⟨F i,fp,h1 i r hi,k1,rfl⟩,Zaq.2 ⟨h2 i,k2,fun x hx y hy e=> ?_⟩,fun g hg=> ?_⟩
   ·subst e
    obtain⟨j,hj,h⟩:=k3 x hy
    exact h3 i j (fun e=>hn.1 (by rw[e];exact hj)) x hx h
   ·rcases Zb5.1 hg with hg|hg
    ·exact⟨i,Zae,hg⟩
    ·obtain⟨j,hj,h⟩:=k3 g hg;exact⟨j,Zab _ hj,h⟩
theorem Hp.sel {σ τ:St} {rs:List Thg} (H:Hp σ τ rs) (is:List Nat) (hn:is.Nodup):Hp σ τ (is.filterMap (rs[·]?)):=by
 obtain⟨h,fp,hs,hnd,hb⟩:=H
 obtain⟨F,h1,h2,h3,h4⟩:=A33 hs hnd
 obtain⟨fp',k1,k2,k3⟩:=Adu h1 h2 h3 hn
 exact⟨h,fp',k1,k2,fun g hg=>by obtain⟨i,_,hi⟩:=k3 g hg;exact hb g (h4 i g hi)⟩
theorem Hx.sel {σ τ:St} {h:List Item} (H:Hx σ τ h) (is:List Nat) (hn:is.Nodup):Hp σ τ (is.filterMap ((h.map Item.t)[·]?)):=Hp.sel H is hn
theorem Hx.re {σ τ:St} {h:List Item} (H:Hx σ τ h) (is:List Nat) (hn:is.Nodup):Hx σ τ (is.filterMap (h[·]?)):=by
 have e:(is.filterMap (h[·]?)).map Item.t=is.filterMap ((h.map Item.t)[·]?):=by
  induction is with
  |nil=>rfl
  |cons i is ih=>
   have ih:=ih (Zas.1 hn).2
   rw[Za9,Za9,Zbf]
   cases h[i]? with
   |none=>exact ih
   |some x=>simp only[Zbd,Za0,ih]
 unfold Hx
 rw[e]
 exact H.sel is hn
section os
variable {α:Type} {d:Kd α} {σ τ:St} {l:List α} {v:GV} {fp:List Nat}
theorem OS.appc {by8:Nat} {x:α} {cs:List GV} {fx:List Nat} (h:OS d τ l v fp) (hx:d.O τ x cs fx) (hn:(fp++fx).Nodup) (hlt:∀ g∈fp++fx,g<τ.length) (hz:0<d.z) (hb:(l.length+1)*by8<=140737488355328):
  ∃ v' τ' fp',appG d.z by8 τ v 1 cs=some (v',τ')/\OS d τ' (l++[x]) v' fp'/\Turn τ τ' (fp++fx) fp':=by
 have hcl:=d.len (d.rd hx)
 rcases h with⟨rfl,rfl,rfl⟩|⟨g,pre,css,post,fps,rfl,hB,hA,rfl⟩
 ·have hb':1*by8<=140737488355328:=by simpa using hb
  refine⟨.sl τ.length 0 1,τ++[some (.row d.z cs)],τ.length::fx,?_,?_,?_⟩
  ·simp only[appG]
   rw[if_neg (by omega),if_pos hb']
  ·refine .inr ⟨τ.length,[],[cs],[],[fx],rfl,?_,.cons (d.loc hx fun g hg=> ?_) .nil,by simp⟩
   ·rw[Cn];simp
   ·rw[D5 (hlt g (by simpa using hg))]
  ·refine⟨?_,?_,by simp,fun g hg _=>by rw[D5 hg]⟩
   ·rw[Zas]
    exact⟨fun h=>by have:=hlt τ.length (by simpa using h);omega,by simpa using hn⟩
   ·intro g hg
    rcases Zah.1 hg with rfl|hg
    ·right;simp
    ·left;simpa using hg
 ·rw[Zac,Zas] at hn
  have hgt:g<τ.length:=hlt g (by simp)
  have hfl:=P2 hA
  have e:((pre++css.flatten++post).drop pre.length).take (l.length*d.z)=css.flatten:=by
   rw[Zbg,List.drop_append,Zbe (Za8 _),Zaf,Nat.sub_self,Zcd,Zaw (by omega),Zay (by omega)]
  have c1:pre.length+l.length*d.z<=(pre++css.flatten++post).length:=by simp only[Zag];omega
  obtain⟨σ1,e1,hs⟩:=Qv (bytes:=by8) (n:=1) (new:=cs) (B5.1 hB) (by omega) c1 hb
  have hsl:σ1.length=τ.length:=by rcases hs with rfl|rfl<;>simp
  have hbk:∀ g',g≠g'->bk σ1 g'=bk τ g':=fun g' hne=>by
   rcases hs with rfl|rfl
   ·rfl
   ·exact Em hne
  rw[e] at e1
  refine⟨.sl τ.length 0 (l.length+1),σ1++[some (.row d.z (css.flatten++cs))],τ.length::(fps.flatten++fx),e1,?_,?_⟩
  ·have keep:∀ g'∈fps.flatten++fx,bk (σ1++[some (.row d.z (css.flatten++cs))]) g'=bk τ g':=fun g' hg'=>by
    have h1:g'<τ.length:=hlt g' (by simp only[Zac];exact Zab _ hg')
    have h2:g≠g':=fun e=>hn.1 (by rw[e];exact hg')
    rw[D5 (by rw[hsl];omega),hbk g' h2]
   refine .inr ⟨τ.length,[],css++[cs],[],fps++[fx],by simp,?_,(hA.imp fun a b c hc ho=>d.loc ho fun g' hg'=>keep g' (Zao _ (Zal.2 ⟨c,hc,hg'⟩))).append (.cons (d.loc hx fun g' hg'=>keep g' (Zaj _ hg')) .nil),by simp⟩
   rw[<- hsl,Cn];simp
  ·refine⟨?_,?_,by simp[hsl],fun g' hg' hne=> ?_⟩
   ·rw[Zas]
    exact⟨fun h=>by have:=hlt τ.length (by simp only[Zac];exact Zab _ h);omega,hn.2⟩
   ·intro g' hg'
    rcases Zah.1 hg' with rfl|hg'
    ·right;simp[hsl]
    ·left;simp only[Zac];exact Zab _ hg'
   ·have h2:g≠g':=fun e=>hne (by rw[e];simp)
    rw[D5 (by rw[hsl];exact hg'),hbk g' h2]
end os
theorem Hp.appc {α:Type} {d:Kd α} {σ τ:St} {rs:List Thg} {v:GV} {l:List α} {by8:Nat} {x:α} {cs:List GV} (H:Hp σ τ (own d cs x::rs)) (i:Nat) (hi:rs[i]? =some (ow d v l)) (hz:0<d.z) (hb:(l.length+1)*by8<=140737488355328):
  ∃ v' τ',appG d.z by8 τ v 1 cs=some (v',τ')/\Hp σ τ' (rs.set i (ow d v' (l++[x]))):=by
 have hp:(own d cs x::rs).Perm (ow d v l::own d cs x::rs.eraseIdx i):=((pick_perm hi).cons _).trans (List.Perm.swap _ _ _)
 obtain⟨a,⟨a1,a2,h1,h2,rfl⟩,hn,hbd,ht⟩:=(H.perm hp).join.turn
 obtain⟨v',τ',fp',e,ho,hT⟩:=OS.appc (by8:=by8) (x:=x) (cs:=cs) (fx:=a2) h1 h2 hn (fun g hg=>(hbd g hg).2) hz hb
 exact⟨v',τ',e,unpick (ht hT ho) (Zau.1 hi).1⟩
theorem RS_one {α:Type} {p:Pl α} {τ:St} {n:Nat} {x:α} (h:rdB τ n=some (p.enc x)):RS p.kd τ (.sl n 0 1) [x]:=by
 refine .inr ⟨n,0,p.enc x,rfl,h,?_,fun i y hy=> ?_⟩
 ·show 0+1*p.z<=_;rw[p.len];omega
 ·have hi:i<1:=by simpa using (Zau.1 hy).1
  have hi:i=0:=by omega
  subst hi
  simp at hy;subst hy
  show List.take p.z (List.drop (0+0*p.z) (p.enc x))=p.enc x
  simp only[Nat.zero_mul,Zch,Zcd]
  exact Zay (by rw[p.len];exact Za8 _)
section rules
variable {P:Program} {D:Bool} {σ τ τ':St} {env:Env} {h:List Item} {k:Kx} {f:Nat} {args:List GV} {v:GV} {α:Type}
theorem Agh {rs:List Thg} {h:List Item}:(rs.map Item.th++h).map Item.t=rs++h.map Item.t:=by
 rw[Zb3,List.map_map]
 congr 1
 exact List.map_id _
theorem by_cs {rs:List Thg} (H:Hx σ τ h) (R:Ret P f args τ v τ') (K:Hp τ τ' rs) (kk:Hx σ τ' (rs.map Item.th++h)->k v (rs.map Item.th++h) τ'):A31 P σ D τ f args k:=by
 have H':Hx σ τ' (rs.map Item.th++h):=by unfold Hx;rw[Agh];exact H.hp.add K
 exact⟨v,τ',_,R,fun _=>K.sub,H',kk H'⟩
theorem by_c {r:Thg} (H:Hx σ τ h) (R:Ret P f args τ v τ') (K:Hp τ τ' [r]) (kk:Hx σ τ' (.th r::h)->k v (.th r::h) τ'):A31 P σ D τ f args k:=by_cs H R K kk
theorem by_r (H:Hx σ τ h) (R:Ret P f args τ v τ) (kk:k v h τ):A31 P σ D τ f args k:=⟨v,τ,h,R,fun _=>Za7 _,H,kk⟩
theorem by_b {b:Bool} (H:Hx σ τ h) (R:Ret P f args τ (.bool b) τ) (h1:b=true->k (.bool true) h τ) (h2:b=false->k (.bool false) h τ):A31 P σ D τ f args k:=by
 refine by_r H R ?_
 cases b with
 |true=>exact h1 rfl
 |false=>exact h2 rfl
theorem by_m {h':List Item} (R:Ret P f args τ v τ') (H:Hx σ τ' h') (kk:k v h' τ'):A31 P σ false τ f args k:=⟨v,τ',h',R,(fun h=>by cases h),H,kk⟩
theorem Afc {h:List Item} {i:Nat} {r:Thg}:(h.set i (.th r)).map Item.t=(h.map Item.t).set i r:=List.map_set ..
theorem at_t {h:List Item} {i:Nat} {r:Thg} (hi:h[i]? =some (.th r)):(h.map Item.t)[i]? =some r:=by rw[Zbf,hi];rfl
theorem Fn {p:Pl α} {b8 n:Nat} {l:List α} (H:Hx σ τ h) (i:Nat) (hi:h[i]? =some (.th (ow p.kd v l))) (x:α) (hl:look h n=some (p.enc x)) (hz:0<p.z) (hb:(l.length+1)*b8<=140737488355328)
  (kk:∀ v' τ',Hx σ τ' (h.set i (.th (ow p.kd v' (l++[x]))))->k v' (h.set i (.th (ow p.kd v' (l++[x])))) τ'):genX σ false τ (appV p.z b8 τ v (.sl n 0 1)) k:=by
 obtain⟨z,j,h1,_⟩:=O9 hl
 obtain⟨v',τ',e,H'⟩:=H.hp.app (by8:=b8) i (at_t hi) (RS_one (H.hp.pt j h1)) hz hb
 rw[<- Afc] at H'
 exact⟨v',τ',_,e,(fun h=>by cases h),H',kk v' τ' H'⟩
theorem A34:∀(h:List Item) (j:Nat),(h.map Item.t).eraseIdx j=(h.eraseIdx j).map Item.t
 |[],_=>rfl
 |x::h,0=>rfl
 |x::h,j+1=>by simp only[Za0,Zbw,A34 h j]
theorem Kl {d:Kd α} {b8 n:Nat} {l:List α} {x:α} {cs:List GV} (H:Hx σ τ h) (j i:Nat) (hj:h[j]? =some (.th (own d cs x))) (hi:(h.eraseIdx j)[i]? =some (.th (ow d v l))) (hl:look h n=some cs) (hz:0<d.z) (hb:(l.length+1)*b8<=140737488355328)
  (kk:∀ v' τ',Hx σ τ' ((h.eraseIdx j).set i (.th (ow d v' (l++[x]))))->k v' ((h.eraseIdx j).set i (.th (ow d v' (l++[x])))) τ'):genX σ false τ (appV d.z b8 τ v (.sl n 0 1)) k:=by
 obtain⟨z,m,h1,_⟩:=O9 hl
 have hB:=H.hp.pt m h1
 have hcl:cs.length=d.z:=d.len (H.hp.rd j (at_t hj))
 have H1:=H.hp.pick j (at_t hj)
 rw[A34] at H1
 obtain⟨v',τ',e,H'⟩:=H1.appc (by8:=b8) i (at_t hi) hz hb
 rw[<- Afc] at H'
 refine⟨v',τ',_,?_,(fun h=>by cases h),H',kk v' τ' H'⟩
 rw[<- e]
 unfold appV
 have el:elems τ d.z (.sl n 0 1)=some (1,cs):=by
  simp only[elems,hB,Zad,seg]
  rw[if_pos (by omega)]
  simp
  exact Zay (by omega)
 simp only[el,Zad]
theorem Ze {p:Pl α} {b8 n:Nat} {m:List α} {u:GV} (H:Hx σ τ (.box p.z n []::h)) (hu:RS p.kd τ u m) (hz:0<p.z) (hb:m.length*b8<=140737488355328)
  (kk:∀ v' τ',Hx σ τ' (.th (ow p.kd v' m)::h)->k v' (.th (ow p.kd v' m)::h) τ'):genX σ D τ (appV p.z b8 τ (.sl n 0 0) u) k:=by
 have hu':RdN p.en τ u m:=hu
 have ha:appV p.z b8 τ (.sl n 0 0) u=appG p.z b8 τ (.sl n 0 0) m.length (p.cells m):=by
  have he:=hu'.elems
  unfold appV
  rcases hu' with⟨rfl,rfl|rfl⟩|⟨g,off,cs,rfl,_⟩<;>simp only[he,Zad]
 rw[ha]
 by_cases hm:m.length=0
 ·have:m=[]:=List.eq_nil_of_length_eq_zero hm
  subst this
  have H1:Hx σ τ (.th (ow p.kd (.sl n 0 0) [])::h):=H.hp.toNil (d:=p.kd) 0 rfl rfl
  exact⟨.sl n 0 0,τ,_,by simp[appG,isSl],fun _=>Za7 _,H1,kk _ _ H1⟩
 ·obtain⟨a,ha,_⟩:=H.hp.see (i:=0) rfl
  have hB:=B5.1 ha.2
  have H1:Hx σ (τ++[some (.row p.z (p.cells m))]) (.th (ow p.kd (.sl τ.length 0 m.length) m)::h):=(H.hp.drop1.new p.z (p.cells m)).toRow 0 rfl m rfl rfl _ rfl
  refine⟨.sl τ.length 0 m.length,τ++[some (.row p.z (p.cells m))],_,?_,fun _=>pre1 _ _,H1,kk _ _ H1⟩
  simp only[appG,hB,if_neg hm]
  rw[if_pos ⟨trivial,trivial,trivial,trivial,hb⟩]
theorem Jr {e:Option (GV×St)} {k k':Kx} (hk:∀ v h τ,k v h τ->k' v h τ):genX σ D τ e k->genX σ D τ e k':=fun⟨v,τ',h',h1,h2,h3,h4⟩=>⟨v,τ',h',h1,h2,h3,hk _ _ _ h4⟩
theorem Mx {z:Nat} {cs:List GV} {w:Nat->GV} {k k':Kx} (hk:∀ v h τ,k v h τ->k' v h τ) (e:L7 σ h z cs w k):L7 σ h z cs w k':=fun n hf τ' H=>hk _ _ _ (e n hf τ' H)
theorem Afd {k k':Kx} (hk:∀ v h τ,k v h τ->k' v h τ):∀ {i:Ins},sxI P D σ env h τ k i->sxI P D σ env h τ k' i:=by
 have bm:∀ {v:Option GV},Eo v k h τ->Eo v k' h τ:=fun {v} e=>by
  cases v with
  |none=>exact e
  |some v=>exact hk _ _ _ e
 intro i e
 cases i with
 |new cs=>exact Mx hk e
 |box x=>exact⟨e.1,Mx hk e.2⟩
 |lit z len zero parts=>
  simp only[sxI] at e ⊢
  revert e
  cases Hb zero (parts.map fun p=>(p.1,p.2.1,p.2.2.ev env)) with
  |none=>exact id
  |some cs=>exact Mx hk
 |mks z b ze n c=>
  simp only[sxI] at e ⊢
  revert e
  cases B8 (some (n.ev env)) with
  |none=>exact id
  |some n=>cases B8 (some (c.ev env)) with
   |none=>exact id
   |some c=>exact fun e=>⟨e.1,e.2.1,Mx hk e.2.2⟩
 |st n a x=>
  simp only[sxI] at e ⊢
  revert e
  cases a.ev env with
  |ptr b off=>
   simp only[stX]
   unfold stB
   cases look h b with
   |none=>exact Jr hk
   |some cs=>exact fun e=>⟨e.1,fun τ' H=>hk _ _ _ (e.2 τ' H)⟩
  |_=>exact Jr hk
 |call f xs=>
  obtain⟨v,τ',h',h1,h2,h3,h4⟩:=e
  exact⟨v,τ',h',h1,h2,h3,hk _ _ _ h4⟩
 |callv x xs=>
  simp only[sxI] at e ⊢
  revert e
  cases x.ev env with
  |fn f caps=>exact fun⟨v,τ',h',h1,h2,h3,h4⟩=>⟨v,τ',h',h1,h2,h3,hk _ _ _ h4⟩
  |_=>exact id
 |chk d x=>
  cases x with
  |ld g n a=>cases a with
   |t t=>exact⟨e.1,hk _ _ _ e.2⟩
   |k v=>exact e
  |_=>exact e
 |blc t cs=>exact⟨e.1,hk _ _ _ e.2⟩
 |app z b ze s x=>exact Jr hk e
 |clr z ze x=>exact Jr hk e
 |mkm=>exact Jr hk e
 |mup ks m k2 v=>exact Jr hk e
 |mov x=>exact hk _ _ _ e
 |pan=>exact e
 |_=>exact bm e
theorem X7:∀ {os:List Op1} {K K':Env->List Item->St->Prop} {env:Env} {h:List Item} {τ:St},(∀ env h τ,K env h τ->K' env h τ)->sx P D σ os K env h τ->sx P D σ os K' env h τ
 |[],K,K',env,h,τ,hk,e=>hk _ _ _ e
 |o::r,K,K',env,h,τ,hk,e=>by
  simp only[sx] at e ⊢
  have y:sxI P D σ env h τ (fun v h' τ'=>sx P D σ r K (upo env o.d v) h' τ') o.i->sxI P D σ env h τ (fun v h' τ'=>sx P D σ r K' (upo env o.d v) h' τ') o.i:=Afd fun v h τ=>X7 hk
  have n:sx P D σ r K (upo env o.d (.tup [])) h τ->sx P D σ r K' (upo env o.d (.tup [])) h τ:=X7 hk
  revert e
  cases o.g.map fun g=>((env g.1).bit,g.2) with
  |none=>exact y
  |some q=>
   obtain⟨c,b⟩:=q
   cases c with
   |none=>exact n
   |some c=>exact fun e=>⟨fun hc=>y (e.1 hc),fun hc=>n (e.2 hc)⟩
theorem V7 {d:Cd}:∀ {Q Q':Qx} {env:Env} {h:List Item} {τ:St},(∀ e env h τ,Q e env h τ->Q' e env h τ)->sxc P σ d Q env h τ->sxc P σ d Q' env h τ:=by
 induction d with
 |skip=>intro Q Q' env h τ hq e;exact hq _ _ _ _ e
 |reg ops=>intro Q Q' env h τ hq e;exact X7 (hq _) e
 |drw a1 bs=>intro Q Q' env h τ hq e;exact X7 (fun _ _ _=>X7 (hq _)) e
 |seq a b iha ihb=>
  intro Q Q' env h τ hq e
  refine iha (fun e env h τ he=> ?_) e
  cases e with
  |nxt=>exact ihb hq he
  |ext j=>exact hq _ _ _ _ he
  |ret=>exact hq _ _ _ _ he
 |cnd c a b iha ihb=>
  intro Q Q' env h τ hq e
  simp only[sxc] at e ⊢
  unfold ifX at e ⊢
  split
  ·rename_i hc;rw[hc] at e;exact⟨fun k=>iha hq (e.1 k),fun k=>ihb hq (e.2 k)⟩
  ·rename_i hc;rw[hc] at e;exact e
 |blk id a ih=>
  intro Q Q' env h τ hq e
  refine ih (fun e env h τ he=> ?_) e
  cases e with
  |nxt=>exact hq _ _ _ _ he
  |ext j=>
   simp only at he ⊢
   split at he
   ·rename_i hj;rw[if_pos hj];exact hq _ _ _ _ he
   ·rename_i hj;rw[if_neg hj];exact hq _ _ _ _ he
  |ret=>exact hq _ _ _ _ he
 |lop a ih=>
  intro Q Q' env h τ hq e
  obtain⟨I,n,h0,H0,hI,hs⟩:=e
  refine⟨I,n,h0,H0,hI,fun k env h τ H hi=>ih (fun e env' h' τ' he=> ?_) (hs k env h τ H hi)⟩
  cases e with
  |nxt=>exact he
  |ext j=>obtain⟨h1,H1,he⟩:=he;exact⟨h1,H1,hq _ _ _ _ he⟩
  |ret=>obtain⟨h1,H1,he⟩:=he;exact⟨h1,H1,hq _ _ _ _ he⟩
 |ext id=>intro Q Q' env h τ hq e;exact hq _ _ _ _ e
 |ret=>intro Q Q' env h τ hq e;exact hq _ _ _ _ e
variable {a b:Cd} {Q:Qx}
theorem Aag (n j0:Nat) (I:Nat->Env->List Item->Prop) (X Z:Env->List Item->Prop) (h0:List Item) (H0:Hx σ τ h0) (hI:I n env h0)
  (hs:∀(J:Nat->Env->St->Prop) (Y W:Env->St->Prop),(∀ i env h τ,Hx σ τ h->I i env h->J i env τ)->(∀ env h τ,Hx σ τ h->X env h->Y env τ)->(∀ env h τ,Hx σ τ h->Z env h->W env τ)->∀ i env h τ,Hx σ τ h->I i env h->sxc P σ a (fun e env' h' τ'=>match e with
   | .nxt=>∃ i',i'<i/\J i' env' τ'
   | .ext j=>j=j0/\Y env' τ'
   | .ret=>W env' τ') env h τ)
  (hx:∀ env h τ,Hx σ τ h->X env h->Q (.ext j0) env h τ) (hz:∀ env h τ,Hx σ τ h->Z env h->Q .ret env h τ):sxc P σ (.lop a) Q env h τ:=by
 refine⟨fun i env h τ=>I i env h,n,h0,H0,hI,fun i env h τ H hi=>V7 (fun e env' h' τ' he=> ?_) (hs (fun i env τ=>∃ h,Hx σ τ h/\I i env h) (fun env τ=>∃ h,Hx σ τ h/\X env h) (fun env τ=>∃ h,Hx σ τ h/\Z env h) (fun _ _ h _ H e=>⟨h,H,e⟩) (fun _ h _ H e=>⟨h,H,e⟩) (fun _ h _ H e=>⟨h,H,e⟩) i env h τ H hi)⟩
 cases e with
 |nxt=>obtain⟨i',h1,h2,h3,h4⟩:=he;exact⟨i',h2,h1,h3,h4⟩
 |ext j=>obtain⟨rfl,h2,h3,h4⟩:=he;exact⟨h2,h3,hx _ _ _ h3 h4⟩
 |ret=>obtain⟨h2,h3,h4⟩:=he;exact⟨h2,h3,hz _ _ _ h3 h4⟩
theorem Bu (n ri j0:Nat) (I:Nat->Env->List Item->Prop) (X Z:Env->List Item->Prop) (h0:List Item) (H0:Hx σ τ h0) (hr:env ri=gi 0) (hI:I 0 env h0)
  (hs:∀(J:Nat->Env->St->Prop) (Y W:Env->St->Prop),(∀ i env h τ,Hx σ τ h->I i env h->J i env τ)->(∀ env h τ,Hx σ τ h->X env h->Y env τ)->(∀ env h τ,Hx σ τ h->Z env h->W env τ)->∀ i env h τ,i<n->env ri=gi i->decide ((i:Int)<n)=true->Hx σ τ h->I i env h->sxc P σ a (fun e env' h' τ'=>match e with
   | .nxt=>env' ri=gi ((i:Int)+1)/\J (i+1) env' τ'
   | .ext j=>j=j0/\Y env' τ'
   | .ret=>W env' τ') env h τ)
  (he:∀(Y:Env->St->Prop),(∀ env h τ,Hx σ τ h->X env h->Y env τ)->∀ env h τ,env ri=gi n->decide ((n:Int)<n)=false->Hx σ τ h->I n env h->sxc P σ a (fun e env' h' τ'=>match e with
   | .nxt=>False
   | .ext j=>j=j0/\Y env' τ'
   | .ret=>False) env h τ)
  (hx:∀ env h τ,Hx σ τ h->X env h->Q (.ext j0) env h τ) (hz:∀ env h τ,Hx σ τ h->Z env h->Q .ret env h τ):sxc P σ (.lop a) Q env h τ:=by
 refine Aag n j0 (fun k env h=>∃ i:Nat,k=n - i/\i<=n/\env ri=gi i/\I i env h) X Z h0 H0 ⟨0,rfl,Nat.zero_le _,hr,hI⟩ (fun J Y W hJ hY hW k env h τ H hi=> ?_) hx hz
 obtain⟨i,rfl,h1,h2,h3⟩:=hi
 rcases Nat.lt_or_ge i n with hlt|hge
 ·refine V7 (fun e env' h' τ' q=> ?_) (hs (fun i' env τ=>i'<=n->env ri=gi i'->J (n - i') env τ) Y W (fun j env h τ H e hj hr=>hJ _ env h τ H ⟨j,rfl,hj,hr,e⟩) hY hW i env h τ hlt h2 (by simp;omega) H h3)
  cases e with
  |nxt=>exact⟨n - (i+1),by omega,q.2 (by omega) q.1⟩
  |ext j=>exact q
  |ret=>exact q
 ·obtain rfl:i=n:=by omega
  refine V7 (fun e env' h' τ' q=> ?_) (he Y hY env h τ h2 (by simp) H h3)
  cases e with
  |nxt=>exact q.elim
  |ext j=>exact q
  |ret=>exact q.elim
theorem E5 {md:Bool} {F:Fn1} {r:GV} (hF:Es md P f=some F) (hl:args.length<=F.n) (hr:vLt σ.length r)
  (hc:sxc P σ F.c (fun e env h τ=>Hx σ τ h->Vj e=true/\resX σ h τ env F.rs=some r) (env0 args) [] σ):Ret P f args σ r σ:=
 Ar hF hl hr (B4 (A5x (Hx.refl σ) hc) fun e env τ he=>by
  obtain⟨_,h,H,hq⟩:=he
  exact⟨(hq H).1,A0x H (hq H).2,H.sub⟩)
end rules
attribute [go_sem] Zam Zan Zbw List.eraseIdx_cons_zero Za0 Zcg Zac Zaf
section
variable {P:Program} {D:Bool} {σ τ:St} {env:Env} {h:List Item} {k:Kx} {v:GV} {α:Type} {l:List α}
theorem X8 {p:α->Bool} {i:Nat} (hi:i<l.length) (hp:p l[i]=true):(l.take (i+1)).filter p=(l.take i).filter p++[l[i]]:=by
 rw[Zav hi,Zbo,Zbx,hp];rfl
theorem Zf {p:α->Bool} {i:Nat} (hi:i<l.length) (hp:p l[i]=false):(l.take (i+1)).filter p=(l.take i).filter p:=by
 rw[Zav hi,Zbo,Zbx,hp];simp
theorem Tq {p:α->Bool} {i n:Nat} (hl:l.length<=n):((l.take i).filter p).length<=n:=Zaz (Zb2 _ _) (Zaz (by rw[Za3];omega) hl)
theorem Hx.of {rs:List Thg} (H:Hp σ τ rs):Hx σ τ (rs.map Item.th):=by
 have e:(rs.map Item.th).map Item.t=rs:=by
  have:=Agh (rs:=rs) (h:=[])
  simpa using this
 unfold Hx
 rw[e];exact H
theorem Hx.nil (H:Hx σ τ h) (d:Kd α):Hx σ τ (.th (ow d .nilS ([]:List α))::h):=Hp.nilS H
theorem Hx.emp {z n:Nat} (H:Hx σ τ (.box z n []::h)) (d:Kd α) (hz:z=d.z):Hx σ τ (.th (ow d (.sl n 0 0) ([]:List α))::h):=H.hp.toNil 0 rfl hz
theorem Agi {g:Bool} {n:Nat} {a x:GV} (e:ldG g n σ a=some x):ldX σ h τ g n a=some x:=by unfold ldX orX;rw[e]
theorem kp {p:Nat->Prop} {env0 env:Env} {d:Nat} {v:GV} (hd:¬ p d) (h:∀ r,p r->env r=env0 r):∀ r,p r->up env d v r=env0 r:=fun r hr=>by
 unfold up
 rw[if_neg (fun e:r=d=>hd (by rw[<- e];exact hr))]
 exact h r hr
theorem Hx.mlk {m:GV} {ps:List (Dot×Int)} (H:Hx σ τ h) (i:Nat) (hi:h[i]? =some (.th (mpt m ps))) (d:Dot):mlkG τ [.i .i64,.i .i64] (gi 0) true m (.agg [gi d.rep,gi d.seq])=some (.tup [gi ((Lc ps d).getD 0),.bool (Lc ps d).isSome]):=H.hp.mlk i (at_t hi) d
theorem Gf (H:Hx σ τ h) {g:Bool} {n:Nat} {a x:GV} (e:ldG g n τ a=some x):ldX σ h τ g n a=some x:=by
 unfold ldX orX
 cases h1:ldG g n σ a with
 |some y=>have:=Adr h1 H.sub;rw[e] at this;exact this.symm
 |none=>
  show ldY h τ g n a=some x
  cases a with
  |ptr b off=>
   simp only[ldY]
   cases hl:look h b with
   |none=>exact e
   |some cs=>
    obtain⟨z,i,h2,_⟩:=O9 hl
    have:=H.hp.pt i h2
    simp only[ldG,this,Zad] at e
    exact e
  |_=>exact e
theorem own_at {p:Pl α} (H:Hx σ τ h) (i:Nat) (hi:h[i]? =some (.th (ow p.kd v l))) {j:Nat} (hj:j<l.length):iadG p.z v (some j)=some (atz p.z v j)/\(∀ k,fadG k (atz p.z v j)=some (fld k (atz p.z v j)))/\(∀ k m,fadG k (fld m (atz p.z v j))=some (fld (m+k) (atz p.z v j)))/\ldX σ h τ true p.z (atz p.z v j)=some (.agg (p.enc l[j]))/\∀ k n a,0<n->k+n<=p.z->ldX σ h τ a n (fld k (atz p.z v j))=(seg (p.enc l[j]) k n).bind (mkv a):=by
 obtain⟨cs,⟨h1,h2,h3,h4,h5⟩,rfl⟩:=RdN.cellsN (d:=p.kd) (H.hp.sl i (at_t hi)) hj
 refine⟨h1,h2,h3,Gf H h4,fun k n a hn hk=> ?_⟩
 have h6:=h5 k n a hk
 have hl:(p.enc l[j]).length=p.z:=p.len _
 have e:seg (p.enc l[j]) k n=some (((p.enc l[j]).drop k).take n):=by unfold seg;rw[if_pos (by omega)]
 obtain⟨x,hx⟩:∃ x,mkv a (((p.enc l[j]).drop k).take n)=some x:=by
  cases a with
  |true=>exact⟨_,rfl⟩
  |false=>
   cases hc:((p.enc l[j]).drop k).take n with
   |nil=>
        have:(((p.enc l[j]).drop k).take n).length=0:=by rw[hc];rfl
        simp only[Za3,Za4] at this;omega
   |cons y ys=>exact⟨y,rfl⟩
 rw[e,Zad,hx] at h6 ⊢
 exact Gf H h6
theorem A35 {l:List Cell} (H:Hx σ τ h) (i:Nat) (hi:h[i]? =some (.th (ow Ag.kd v l))) {j:Nat} (hj:j<l.length):iadG 8 v (some j)=some (atz 8 v j)/\(∀ k,fadG k (atz 8 v j)=some (fld k (atz 8 v j)))/\(∀ k m,fadG k (fld m (atz 8 v j))=some (fld (m+k) (atz 8 v j)))/\ldX σ h τ true 8 (atz 8 v j)=some (.agg [.str l[j].obj,gi l[j].dot.rep,gi l[j].dot.seq,gi l[j].time,gi l[j].ref.rep,gi l[j].ref.seq,gi l[j].val,.bool l[j].gone])/\∀ k n a,0<n->k+n<=8->ldX σ h τ a n (fld k (atz 8 v j))=(seg [.str l[j].obj,gi l[j].dot.rep,gi l[j].dot.seq,gi l[j].time,gi l[j].ref.rep,gi l[j].ref.seq,gi l[j].val,.bool l[j].gone] k n).bind (mkv a):=own_at H i hi hj
theorem A36:∀ {h:List Item} {n:Nat} {cs:List GV},look h n=some cs->∃ z,∃ i:Nat,h[i]? =some (.box z n cs)
 |[],_,_,e=>by cases e
 | .box z m cs'::h,n,cs,e=>by
  simp only[look] at e
  by_cases hm:m=n
  ·rw[if_pos hm] at e
   injection e with e;subst e hm
   exact⟨z,0,rfl⟩
  ·rw[if_neg hm] at e
   obtain⟨z',i,h1⟩:=A36 e
   exact⟨z',i+1,by simpa using h1⟩
 | .th r::h,n,cs,e=>by
  obtain⟨z',i,h1⟩:=A36 (h:=h) (by simpa [look] using e)
  exact⟨z',i+1,by simpa using h1⟩
theorem Agj (H:Hx σ τ h) {i:Nat} {r:Thg} (hi:h[i]? =some (.th r)) {b:Nat} (hb:∀ fp,r.P τ fp->b∈fp):look h b=none:=by
 cases hl:look h b with
 |none=>rfl
 |some cs=>
  obtain⟨z,j,h1⟩:=A36 hl
  obtain⟨_,fp,hs,hn,_⟩:=H.hp
  obtain⟨F,k1,k2,k3,_⟩:=A33 hs hn
  have hj:=k1 j (pt z b cs) (by rw[Zbf,h1];rfl)
  have hr:=k1 i _ (at_t hi)
  have hij:i≠j:=by
   rintro rfl
   rw[hi] at h1;cases h1
  have h2:b∈F j:=by rw[hj.1];exact Zae
  exact(k3 i j hij b (hb _ hr) h2).elim
theorem Ai2 (H:Hx σ τ h) {p:Pl α} {i:Nat} (hi:h[i]? =some (.th (ow p.kd v l))) {j:Nat} (hj:j<l.length) {m n:Nat} {x:GV} (e:genX σ false τ (stG n τ (fld m (atz p.z v j)) x) k):stX σ false h τ n k (fld m (atz p.z v j)) x:=by
 obtain⟨fp,ho,_⟩:=H.hp.see (at_t hi)
 rcases OS.flat.1 ho with⟨rfl,_⟩|⟨g,pre,post,rfl,hB,rfl⟩
 ·simp at hj
 ·have hn:look h g=none:=Agj H hi fun fp' ho'=>by
   rcases OS.flat.1 ho' with⟨rfl,_⟩|⟨g',pre',post',e',_,rfl⟩
   ·simp at hj
   ·injection e' with e1;rw[e1];exact Zae
  show stB σ false h τ n k g _ x (look h g)
  rw[hn]
  exact e
theorem Adv {p:Pl α} (H:Hx σ τ h) (i:Nat) (hi:h[i]? =some (.th (ow p.kd v l))) {j:Nat} (hj:j<l.length) {m n:Nat} {x:GV} (y:α) (hx:x.cells.length=n) (hn:0<n) (hk:m+n<=p.z) (hy:p.enc y=Aq (p.enc l[j]) m x.cells)
  (kk:∀ τ',Hx σ τ' (h.set i (.th (ow p.kd v (l.set j y))))->k (.tup []) (h.set i (.th (ow p.kd v (l.set j y)))) τ'):stX σ false h τ n k (fld m (atz p.z v j)) x:=by
 obtain⟨τ',e,H'⟩:=H.hp.ste i (at_t hi) hj n m x y hx hn hk hy
 rw[<- Afc] at H'
 exact Ai2 H hi hj ⟨_,τ',_,e,(fun h=>by cases h),H',kk τ' H'⟩
theorem Aah {p:Pl α} (H:Hx σ τ h) (i:Nat) (hi:h[i]? =some (.th (ow p.kd v l))) {j:Nat} (hj:j<l.length) {n:Nat} {x:GV} (y:α) (hx:x.cells=p.enc y) (hn:n=p.z) (hz:0<n)
  (kk:∀ τ',Hx σ τ' (h.set i (.th (ow p.kd v (l.set j y))))->k (.tup []) (h.set i (.th (ow p.kd v (l.set j y)))) τ'):stX σ false h τ n k (atz p.z v j) x:=by
 subst hn
 have e:atz p.z v j=fld 0 (atz p.z v j):=by cases v<;>rfl
 rw[e]
 exact Adv H i hi hj y (by rw[hx,p.len]) hz (by omega) (by rw[hx];unfold Aq;rw[Zcc,Zaf,p.len,Zbe (by rw[p.len];omega),Zb1]) kk
end
theorem Iu {fps:List (List Nat)} {j:Nat} {fx:List Nat} {g:Nat} (h:g∈(fps.set j fx).flatten):g∈fps.flatten∨g∈fx:=by
 obtain⟨f,hf,hg⟩:=Zal.1 h
 rcases Zbq hf with h1|h1
 ·exact .inl (Zal.2 ⟨f,h1,hg⟩)
 ·exact .inr (h1 ▸ hg)
theorem Nc:∀ {fps:List (List Nat)} {j:Nat} {fx:List Nat},fps.flatten.Nodup->fx.Nodup->(∀ g∈fx,g∉fps.flatten)->(fps.set j fx).flatten.Nodup
 |[],j,fx,_,_,_=>by simp
 |f::fps,0,fx,h,hx,hd=>by
  rw[Zar,Zaq] at h
  rw[Zam,Zar,Zaq]
  refine⟨hx,h.2.1,fun a ha b hb e=> ?_⟩
  subst e
  exact hd a ha (by rw[Zar];exact Zaj _ hb)
 |f::fps,j+1,fx,h,hx,hd=>by
  rw[Zar,Zaq] at h
  rw[Zan,Zar,Zaq]
  refine⟨h.1,Nc h.2.1 hx fun g hg hm=>hd g hg (by rw[Zar];exact Zaj _ hm),fun a ha b hb e=> ?_⟩
  subst e
  rcases Iu hb with h1|h1
  ·exact h.2.2 a ha a h1 rfl
  ·exact hd a h1 (by rw[Zar];exact Zao _ ha)
section os
variable {α:Type} {d:Kd α} {σ τ:St} {l:List α} {v:GV} {fp:List Nat}
theorem Aai {css:List (List GV)} {fps:List (List Nat)} (h:All3 (d.O τ) l css fps):∀ c∈css,c.length=d.z:=by
 induction h with
 |nil=>simp
 |cons h _ ih=>
  intro c hc
  rcases Zah.1 hc with rfl|hc
  ·exact d.len (d.rd h)
  ·exact ih c hc
theorem OS.setc {x:α} {cs:List GV} {fx:List Nat} (h:OS d τ l v fp) (hx:d.O τ x cs fx) (hn:(fp++fx).Nodup) (hlt:∀ g∈fp++fx,g<τ.length) (hz:0<d.z) {j:Nat} (hj:j<l.length):
  ∃ τ' fp',stG d.z τ (atz d.z v j) (.agg cs)=some (.tup [],τ')/\OS d τ' (l.set j x) v fp'/\Turn τ τ' (fp++fx) fp':=by
 have hcl:=d.len (d.rd hx)
 rcases h with⟨rfl,rfl,rfl⟩|⟨g,pre,css,post,fps,rfl,hB,hA,rfl⟩
 ·simp at hj
 ·rw[Zac,Zas] at hn
  obtain⟨hg,hn⟩:=hn
  rw[Zaq] at hn
  have hgt:g<τ.length:=hlt g (by simp)
  have hfl:=P2 hA
  obtain⟨c,f,hc,_,_⟩:=hA.get (j:=j) (a:=l[j]) (by simp[hj])
  have hcz:=Aai hA c (Zb8 hc)
  have hm:(j+1)*d.z<=l.length*d.z:=Zb7 _ hj
  rw[Zbt,Nat.one_mul] at hm
  have e1:Aq css.flatten (j*d.z+0) cs=(css.set j cs).flatten:=by
   rw[Vm (Aai hA) hc (by omega)]
   congr 2
   unfold Aq
   rw[Zcc,Zaf,Zbe (by omega),Zb1]
  have e2:Aq (pre++css.flatten++post) (pre.length+(j*d.z+0)) cs=pre++(css.set j cs).flatten++post:=by
   rw[Qw (by omega),e1]
  have keep:∀ g',g'≠g->bk (τ.set g (some (.row d.z (pre++(css.set j cs).flatten++post)))) g'=bk τ g':=fun g' hne=>Em (Ne.symm hne)
  refine⟨τ.set g (some (.row d.z (pre++(css.set j cs).flatten++post))),g::(fps.set j fx).flatten,?_,.inr ⟨g,pre,css.set j cs,post,fps.set j fx,by simp,B5.2 (by rw[List.getElem?_set_self hgt]),?_,rfl⟩,⟨?_,?_,by simp,?_⟩⟩
  ·simp only[atz,stG,B5.1 hB]
   rw[if_pos ⟨by simp only[Zag];omega,hz,hcl⟩]
   rw[Zch] at e2
   rw[show (GV.agg cs).cells=cs from rfl,e2]
  ·refine(hA.set j hx).imp fun a b c hc ho=>d.loc ho fun g' hg'=>keep g' fun e=> ?_
   subst e
   rcases Iu (Zal.2 ⟨c,hc,hg'⟩) with h1|h1
   ·exact hg (Zao _ h1)
   ·exact hg (Zaj _ h1)
  ·rw[Zas]
   refine⟨fun h1=> ?_,Nc hn.1 hn.2.1 fun g' h1 h2=>hn.2.2 g' h2 g' h1 rfl⟩
   rcases Iu h1 with h1|h1
   ·exact hg (Zao _ h1)
   ·exact hg (Zaj _ h1)
  ·intro g' hg'
   refine .inl ?_
   rcases Zah.1 hg' with rfl|h1
   ·simp
   ·rcases Iu h1 with h1|h1
    ·simp only[Zac,Zah,Zb5];exact .inr (.inl h1)
    ·simp only[Zac,Zah,Zb5];exact .inr (.inr h1)
  ·intro g' hg' hne
   exact keep g' fun e=>hne (by rw[e];simp)
theorem OS.fresh {x0:α} {ze:List GV} {n len:Nat} (h0:∀ τ,d.O τ x0 ze []) (hB:bk τ n=some (.row d.z (reps len ze))):OS d τ (Zbr len x0) (.sl n 0 len) [n]:=by
 refine .inr ⟨n,[],Zbr len ze,[],Zbr len [],by simp,by rw[hB];simp[reps],?_,?_⟩
 ·clear hB
  induction len with
  |zero=>exact .nil
  |succ k ih=>exact .cons (h0 τ) ih
 ·simp
end os
section rules
variable {P:Program} {D:Bool} {σ τ:St} {h:List Item} {k:Kx} {v:GV} {α:Type} {l:List α} {d:Kd α}
theorem Hx.mk {x0:α} {ze:List GV} {n len z:Nat} (H:Hx σ τ (.box z n (reps len ze)::h)) (d:Kd α) (hz:z=d.z) (h0:∀ τ,d.O τ x0 ze []):Hx σ τ (.th (ow d (.sl n 0 len) (Zbr len x0))::h):=
 H.hp.conv fun fp hp=>by
  obtain⟨rfl,hB⟩:=hp
  exact OS.fresh h0 (hz ▸ hB)
theorem Adw {x:α} {cs:List GV} (H:Hx σ τ h) (m i:Nat) (hm:h[m]? =some (.th (own d cs x))) (hi:(h.eraseIdx m)[i]? =some (.th (ow d v l))) (hz:0<d.z) {j:Nat} (hj:j<l.length)
  (kk:∀ τ',Hx σ τ' ((h.eraseIdx m).set i (.th (ow d v (l.set j x))))->k (.tup []) ((h.eraseIdx m).set i (.th (ow d v (l.set j x)))) τ'):stX σ false h τ d.z k (atz d.z v j) (.agg cs):=by
 have H1:=H.hp.pick m (at_t hm)
 rw[A34] at H1
 have hp:(own d cs x::(h.eraseIdx m).map Item.t).Perm (ow d v l::own d cs x::((h.eraseIdx m).map Item.t).eraseIdx i):=((Hp.pick_perm (at_t hi)).cons _).trans (List.Perm.swap _ _ _)
 obtain⟨a,⟨a1,a2,h1,h2,rfl⟩,hn,hbd,ht⟩:=(H1.perm hp).join.turn
 obtain⟨τ',fp',e,ho,hT⟩:=OS.setc h1 h2 hn (fun g hg=>(hbd g hg).2) hz hj
 have H':=Hp.unpick (ht (r':=ow d v (l.set j x)) hT ho) (Zau.1 (at_t hi)).1
 rw[<- Afc] at H'
 have g:genX σ false τ (stG d.z τ (atz d.z v j) (.agg cs)) k:=⟨_,τ',_,e,(fun h=>by cases h),H',kk τ' H'⟩
 rcases h1 with⟨rfl,_⟩|⟨gb,pre,css,post,fps,rfl,hB,hA,rfl⟩
 ·simp at hj
 ·have hno:look h gb=none:=by
   obtain⟨i0,hi0⟩:∃ i0:Nat,h[i0]? =some (.th (ow d (.sl gb pre.length l.length) l)):=by
    have:=Zb8 hi
    have:=List.mem_of_mem_eraseIdx this
    obtain⟨i0,h1,h2⟩:=Zai this
    exact⟨i0,by rw[Zbs h1,h2]⟩
   refine Agj H hi0 fun fp'' ho'=> ?_
   rcases ho' with⟨rfl,_⟩|⟨g',pre',css',post',fps',e',_,_,rfl⟩
   ·simp at hj
   ·injection e' with e1;rw[e1];exact Zae
  show stB σ false h τ d.z k gb _ (.agg cs) (look h gb)
  rw[hno]
  exact g
end rules
theorem All3.cut {α β γ:Type} {R:α->β->γ->Prop}:∀ {x y:List α} {bs:List β} {cs:List γ},All3 R (x++y) bs cs->∃ b1 b2 c1 c2,bs=b1++b2/\cs=c1++c2/\All3 R x b1 c1/\All3 R y b2 c2
 |[],y,bs,cs,h=>⟨[],bs,[],cs,rfl,rfl,.nil,h⟩
 |a::x,y,_,_,.cons h t=>by
  obtain⟨b1,b2,c1,c2,rfl,rfl,h1,h2⟩:=All3.cut t
  exact⟨_::b1,b2,_::c1,c2,rfl,rfl,.cons h h1,h2⟩
theorem Aaj (a b c:List Nat):(a++(b++c)).Perm (b++(a++c)):=by
 rw[<- Zbg,<-Zbg];exact List.Perm.append_right _ List.perm_append_comm
def holeP {α:Type} (d:Kd α) (v:GV) (l:List α) (j:Nat) (cs:List GV) (τ:St) (fp:List Nat):Prop:=
 ∃ g pre c1 c2 post f1 f2,v= .sl g pre.length l.length/\bk τ g=some (.row d.z (pre++(c1.flatten++(cs++c2.flatten))++post))/\cs.length=d.z/\All3 (d.O τ) (l.take j) c1 f1/\All3 (d.O τ) (l.drop (j+1)) c2 f2/\fp=g::(f1.flatten++f2.flatten)
def hole {α:Type} (d:Kd α) (v:GV) (l:List α) (j:Nat) (cs:List GV):Thg:=⟨holeP d v l j cs,fun {σ τ fp} h hf=>by
 obtain⟨g,pre,c1,c2,post,f1,f2,h1,h2,h3,h4,h5,rfl⟩:=h
 refine⟨g,pre,c1,c2,post,f1,f2,h1,by rw[hf g Zae];exact h2,h3,h4.imp fun a b c hc ho=>d.loc ho fun g' hg'=>hf g' ?_,h5.imp fun a b c hc ho=>d.loc ho fun g' hg'=>hf g' ?_,rfl⟩
 ·exact Zab _ (Zao _ (Zal.2 ⟨c,hc,hg'⟩))
 ·exact Zab _ (Zaj _ (Zal.2 ⟨c,hc,hg'⟩))⟩
section
variable {σ τ:St} {rs:List Thg} {α:Type} {d:Kd α} {v:GV} {l:List α} {cs:List GV} {j:Nat}
theorem Hp.zoom (H:Hp σ τ (ow d v l::rs)) (hj:j<l.length):∃ cs,Hp σ τ (own d cs l[j]::hole d v l j cs::rs):=by
 obtain⟨h,_,⟨a,b,hr,hs,rfl⟩,hn,hb⟩:=H
 rcases hr with⟨rfl,_,_⟩|⟨g,pre,css,post,fps,hv,hB,hA,rfl⟩
 ·simp at hj
 have el:l=l.take j++(l[j]::l.drop (j+1)):=by rw[Zby,Zb4]
 have hA':All3 (d.O τ) (l.take j++(l[j]::l.drop (j+1))) css fps:=by rw[<- el];exact hA
 obtain⟨c1,c2',f1,f2',rfl,rfl,h1,h2⟩:=All3.cut hA'
 cases h2 with
 | @cons _ cs fx _ c2 f2 hx h2=>
  have hp:(g::(f1++fx::f2).flatten++b).Perm (fx++((g::(f1.flatten++f2.flatten))++b)):=by
   have e:g::(f1++fx::f2).flatten++b=(g::f1.flatten)++(fx++(f2.flatten++b)):=by simp
   have e2:fx++((g::(f1.flatten++f2.flatten))++b)=fx++((g::f1.flatten)++(f2.flatten++b)):=by simp
   rw[e,e2];exact Aaj _ _ _
  refine⟨cs,h,_,⟨fx,_,hx,⟨_,b,⟨g,pre,c1,c2,post,f1,f2,hv,?_,d.len (d.rd hx),h1,h2,rfl⟩,hs,rfl⟩,rfl⟩,hp.nodup_iff.1 hn,fun g' hg'=>hb g' (hp.mem_iff.2 hg')⟩
  rw[hB];simp
theorem Ai3 {fp:List Nat} (h:(hole d v l j cs).P τ fp) (hj:j<l.length):∃ g off,g∈fp/\v= .sl g off l.length/\atz d.z v j= .ptr g (off+j*d.z)/\∃ A B,off+j*d.z=A.length/\cs.length=d.z/\bk τ g=some (.row d.z (A++cs++B))/\∀(τ':St) (cs':List GV),cs'.length=d.z->bk τ' g=some (.row d.z (A++cs'++B))->(∀ g'∈fp,g'≠g->bk τ' g'=bk τ g')->fp.Nodup->(hole d v l j cs').P τ' fp:=by
 obtain⟨g,pre,c1,c2,post,f1,f2,rfl,h2,h3,h4,h5,rfl⟩:=h
 have hc:c1.flatten.length=j*d.z:=by rw[P2 h4,Za3,Zbz (by omega)]
 refine⟨g,pre.length,Zae,rfl,rfl,pre++c1.flatten,c2.flatten++post,by rw[Zag,hc],h3,by rw[h2];simp,fun τ' cs' hl hB hk hn=> ?_⟩
 rw[Zas] at hn
 refine⟨g,pre,c1,c2,post,f1,f2,rfl,by rw[hB];simp,hl,h4.imp fun a b c hc ho=>d.loc ho fun g' hg'=> ?_,h5.imp fun a b c hc ho=>d.loc ho fun g' hg'=> ?_,rfl⟩
 ·have hm:g'∈f1.flatten++f2.flatten:=Zao _ (Zal.2 ⟨c,hc,hg'⟩)
  exact hk g' (Zab _ hm) fun e=>hn.1 (e ▸ hm)
 ·have hm:g'∈f1.flatten++f2.flatten:=Zaj _ (Zal.2 ⟨c,hc,hg'⟩)
  exact hk g' (Zab _ hm) fun e=>hn.1 (e ▸ hm)
end
section
variable {P:Program} {σ τ:St} {h:List Item} {K:Kx} {v:GV} {α:Type} {l:List α} {d:Kd α} {cs:List GV} {j:Nat}
theorem Hx.hole_rd (H:Hx σ τ h) (i:Nat) (hi:h[i]? =some (.th (hole d v l j cs))) (hj:j<l.length):iadG d.z v (some j)=some (atz d.z v j)/\(∀ k,fadG k (atz d.z v j)=some (fld k (atz d.z v j)))/\(∀ k m,fadG k (fld m (atz d.z v j))=some (fld (m+k) (atz d.z v j)))/\(∀ k n a,k+n<=d.z->ldG a n τ (fld k (atz d.z v j))=(seg cs k n).bind (mkv a)):=by
 obtain⟨fp,hP,_⟩:=(H.hp.pick i (at_t hi)).turn
 obtain⟨g,off,hg,rfl,e,A,B,h1,h2,h3,_⟩:=Ai3 hP hj
 rw[e]
 have hi':iadG d.z (.sl g off l.length) (some j)=some (.ptr g (off+j*d.z)):=by simp only[iadG];rw[if_pos hj]
 refine⟨hi',fun k=>rfl,fun k m=>by simp only[fld,fadG];rw[Zce],fun k n a hk=> ?_⟩
 simp only[fld,ldG]
 have hr:rdB τ g=some (A++cs++B):=by unfold rdB;rw[B5.1 h3];rfl
 rw[hr,Zad,h1]
 congr 1
 unfold seg
 rw[if_pos (by simp only[Zag];omega),if_pos (by omega)]
 congr 1
 rw[Zbg,<-Zcj,Zck,Zbj (by omega),Zaw (by rw[Za4];omega)]
end
def restP {α:Type} (d:Kd α) (v:GV) (l:List α) (j:Nat) (τ:St) (fp:List Nat):Prop:=
 (l=[]/\v= .nilS/\fp=[])∨∃ g pre c1 c2 post f2,v= .sl g pre.length l.length/\bk τ g=some (.row d.z (pre++(c1++c2.flatten)++post))/\c1.length=j*d.z/\All3 (d.O τ) (l.drop j) c2 f2/\fp=g::f2.flatten
def rest {α:Type} (d:Kd α) (v:GV) (l:List α) (j:Nat):Thg:=⟨restP d v l j,fun {σ τ fp} h hf=>by
 rcases h with h|⟨g,pre,c1,c2,post,f2,h1,h2,h3,h4,rfl⟩
 ·exact .inl h
 refine .inr ⟨g,pre,c1,c2,post,f2,h1,by rw[hf g Zae];exact h2,h3,h4.imp fun a b c hc ho=>d.loc ho fun g' hg'=>hf g' ?_,rfl⟩
 exact Zab _ (Zal.2 ⟨c,hc,hg'⟩)⟩
section
variable {σ τ:St} {rs:List Thg} {α:Type} {d:Kd α} {v:GV} {l:List α} {j:Nat}
theorem Hp.toRest (H:Hp σ τ (ow d v l::rs)):Hp σ τ (rest d v l 0::rs):=
 H.conv fun fp h=>by
  rcases h with h|⟨g,pre,css,post,fps,h1,h2,h3,h4⟩
  ·exact .inl ⟨h.1,h.2.1,h.2.2⟩
  ·exact .inr ⟨g,pre,[],css,post,fps,h1,by rw[h2];rfl,by simp,h3,h4⟩
end
def rstP {α:Type} (d:Kd α) (v:GV) (l:List α) (j:Nat) (cs:List GV) (τ:St) (fp:List Nat):Prop:=
 ∃ g pre c1 c2 post f2,v= .sl g pre.length l.length/\bk τ g=some (.row d.z (pre++(c1++(cs++c2.flatten))++post))/\c1.length=j*d.z/\cs.length=d.z/\All3 (d.O τ) (l.drop (j+1)) c2 f2/\fp=g::f2.flatten
def rst {α:Type} (d:Kd α) (v:GV) (l:List α) (j:Nat) (cs:List GV):Thg:=⟨rstP d v l j cs,fun {σ τ fp} h hf=>by
 obtain⟨g,pre,c1,c2,post,f2,h1,h2,h3,h5,h4,rfl⟩:=h
 refine⟨g,pre,c1,c2,post,f2,h1,by rw[hf g Zae];exact h2,h3,h5,h4.imp fun a b c hc ho=>d.loc ho fun g' hg'=>hf g' ?_,rfl⟩
 exact Zab _ (Zal.2 ⟨c,hc,hg'⟩)⟩
section
variable {σ τ:St} {rs:List Thg} {α:Type} {d:Kd α} {v:GV} {l:List α} {cs:List GV} {j:Nat}
theorem Hp.toRst (H:Hp σ τ (rest d v l j::rs)) (hj:j<l.length):∃ cs,Hp σ τ (own d cs l[j]::rst d v l j cs::rs):=by
 obtain⟨h,_,⟨a,b,hr,hs,rfl⟩,hn,hb⟩:=H
 rcases hr with⟨rfl,_,_⟩|⟨g,pre,c1,c2,post,f2,rfl,hB,hc,hA,rfl⟩
 ·simp at hj
 rw[<- Zby hj] at hA
 cases hA with
 | @cons _ cs fx _ c2 f2 hx hA=>
  have hcl:cs.length=d.z:=d.len (d.rd hx)
  have hp:(g::(fx::f2).flatten++b).Perm (fx++((g::f2.flatten)++b)):=by
   have e:g::(fx::f2).flatten++b=[g]++(fx++(f2.flatten++b)):=by simp
   have e2:fx++((g::f2.flatten)++b)=fx++([g]++(f2.flatten++b)):=by simp
   rw[e,e2];exact Aaj _ _ _
  exact⟨cs,h,_,⟨fx,_,hx,⟨_,b,⟨g,pre,c1,c2,post,f2,rfl,by rw[hB];simp,hc,hcl,hA,rfl⟩,hs,rfl⟩,rfl⟩,hp.nodup_iff.1 hn,fun g' hg'=>hb g' (hp.mem_iff.2 hg')⟩
theorem Hp.ofRst (H:Hp σ τ (rst d v l j cs::rs)):Hp σ τ (rest d v l (j+1)::rs):=
 H.conv fun fp h=>by
  obtain⟨g,pre,c1,c2,post,f2,h1,h2,h3,h5,h4,h6⟩:=h
  exact .inr ⟨g,pre,c1++cs,c2,post,f2,h1,by rw[h2];simp,by rw[Zag,h3,h5,Zbt,Nat.one_mul],h4,h6⟩
theorem Hx.rst_rd {h:List Item} (H:Hx σ τ h) (i:Nat) (hi:h[i]? =some (.th (rst d v l j cs))) (hj:j<l.length):iadG d.z v (some j)=some (atz d.z v j)/\(∀ k,fadG k (atz d.z v j)=some (fld k (atz d.z v j)))/\(∀ k m,fadG k (fld m (atz d.z v j))=some (fld (m+k) (atz d.z v j)))/\ldG true d.z τ (atz d.z v j)=some (.agg cs)/\∀ k n a,k+n<=d.z->ldG a n τ (fld k (atz d.z v j))=(seg cs k n).bind (mkv a):=by
 obtain⟨fp,hP,_⟩:=(H.hp.pick i (at_t hi)).turn
 obtain⟨g,pre,c1,c2,post,f2,rfl,hB,hc,hcl,hA,rfl⟩:=hP
 have hr:rdB τ g=some (pre++(c1++(cs++c2.flatten))++post):=by unfold rdB;rw[B5.1 hB];rfl
 have key:∀ k n a,k+n<=d.z->ldG a n τ (.ptr g (pre.length+j*d.z+k))=(seg cs k n).bind (mkv a):=by
  intro k n a hk
  simp only[ldG]
  rw[hr,Zad]
  congr 1
  have e:pre++(c1++(cs++c2.flatten))++post=(pre++c1)++(cs++(c2.flatten++post)):=by simp
  rw[e]
  unfold seg
  rw[if_pos (by simp only[Zag];omega),if_pos (by omega)]
  congr 1
  rw[show pre.length+j*d.z+k=(pre++c1).length+k by rw[Zag,hc],<-Zcj,Zck,Zbj (by omega),Zaw (by rw[Za4];omega)]
 refine⟨by simp only[iadG];rw[if_pos hj];rfl,fun k=>rfl,fun k m=>by simp only[atz,fld,fadG];rw[Zce],?_,fun k n a hk=>key k n a hk⟩
 have:=key 0 d.z true (by omega)
 rw[Zch] at this
 simp only[atz]
 rw[this]
 have e:seg cs 0 d.z=some cs:=by unfold seg;rw[if_pos (by omega),Zcd,Zay (by omega)]
 rw[e];rfl
end
abbrev Oa:Nat:=202
def X9:Fn1:=⟨9,[.t 4],(rg [oV 4 kf] (rg [oM 5 0,oM 6 1,oD 7 163 5 6,oE 8 .eql 7 0,oM 4 8] .ret))⟩
theorem A60:A6 Tryz.prog Oa=some X9:=by kernel_rfl
abbrev Ob:Nat:=295
def Xa:Fn1:=⟨12,[.t 4],(rg [o 4 (.mov (.k s0))] (rg [oM 5 1,oM 6 0,oM 7 1,oN 8 7,oD 9 163 6 8,oI 10 1 5 9,oL 11 10,oM 4 11] .ret))⟩
theorem A61:A6 Tryz.prog Ob=some Xa:=by kernel_rfl
abbrev J6:Nat:=331
def Nd:Fn1:=⟨12,[.t 4],(rg [oV 4 (ki 0)] (rg [oM 5 1,oM 6 0,oM 7 1,oN 8 7,oD 9 163 6 8,oI 10 1 5 9,oL 11 10,oM 4 11] .ret))⟩
theorem Xb:A6 Tryz.prog J6=some Nd:=by kernel_rfl
abbrev Rl:Nat:=293
def A0y:Fn1:=⟨6,[.t 2],(rg [o 2 (.mov (.k s0))] (rg [oM 3 0,o 4 (.lit 1 3 [s0,s0,s0] [(0,1,(.k (.str ⟨#[97]⟩))),(1,1,(.k (.str ⟨#[98]⟩))),(2,1,(.k (.str ⟨#[116,97,108,108,121]⟩)))]),oD 5 295 3 4,oM 2 5] .ret))⟩
theorem A8z:A6 Tryz.prog Rl=some A0y:=by kernel_rfl
abbrev Rm:Nat:=201
def A0z:Fn1:=⟨6,[.t 2],(rg [o 2 (.mov (.k s0))] (rg [oM 3 0,o 4 (.lit 1 3 [s0,s0,s0] [(0,1,(.k (.str ⟨#[120]⟩))),(1,1,(.k (.str ⟨#[121]⟩))),(2,1,(.k (.str ⟨#[122,111,111]⟩)))]),oD 5 295 3 4,oM 2 5] .ret))⟩
theorem A90:A6 Tryz.prog Rm=some A0z:=by kernel_rfl
abbrev Rn:Nat:=347
def A10:Fn1:=⟨9,[.c 2 true 2],(rg [o 2 (.new [z0,z0])] (rg [oM 3 0,o 4 (.call 163 [(.t 3),(ki 3)]),oM 5 0,o 6 (.call 163 [(.t 5),(ki 5)]),o 7 (.bin .add (ki 1) (.t 6)),o 8 (.build [z0,z0] [(0,1,(.t 4)),(1,1,(.t 7))]),oS 2 2 8] .ret))⟩
theorem A91:A6 Tryz.prog Rn=some A10:=by kernel_rfl
abbrev Oc:Nat:=269
def Xc:Fn1:=⟨30,[.c 2 true 5],(rg [o 2 (.new [z0,s0,s0,z0,z0])] (rg [oM 4 0,o 5 (.lit 1 9 [z0,z0,z0,z0,z0,z0,z0,z0,z0] [(0,1,(ki 1)),(1,1,(ki 2)),(2,1,(ki 3)),(3,1,(ki 4)),(4,1,(ki 5)),(5,1,(ki 6)),(6,1,(ki 6)),(7,1,(ki 6)),(8,1,(ki 7))]),oD 6 331 4 5,oM 7 0,oC 8 293 7,o 9 (.build [z0,s0,s0,z0,z0] [(0,1,(.t 6)),(1,1,(.t 8))]),o 3 (.new [z0,s0,s0,z0,z0]),oS 5 3 9] (.seq (rg [oF 10 0 3,oL 11 10,oC 12 332 11] (cn 12 (.reg [oM 13 0,oC 14 201 13,oF 15 2 3,oS 1 15 14]) .skip)) (.seq (rg [oF 16 0 3,oL 17 16,oC 18 333 17] (cn 18 (.reg [oM 19 0,o 20 (.lit 1 4 [z0,z0,z0,z0] [(0,1,(ki 0)),(1,1,(ki 1)),(2,1,(ki 7)),(3,1,(ki 999999))]),oD 21 331 19 20,oF 22 3 3,oS 1 22 21]) .skip)) (.seq (rg [oF 23 0 3,oL 24 23,oE 25 .geq 24 6] (cn 25 (.reg [oM 26 0,o 27 (.call 163 [(.t 26),(ki 3)]),oF 28 4 3,oS 1 28 27]) .skip)) (rg [oW 29 5 3,oS 5 2 29] .ret))))))⟩
theorem A62:A6 Tryz.prog Oc=some Xc:=by kernel_rfl
section
variable {P:Program} {D:Bool} {σ0 σ τ τ':St} {h:List Item} {k:Kx} {f:Nat} {args:List GV} {v:GV}
theorem by_k (R:Ret P f args τ v τ') (H:Hx σ τ' h) (kk:k v h τ'):A31 P σ false τ f args k:=by_m R H kk
theorem Al:∀ {h:List Item} {n:Nat},frX σ0 h n->σ0.length<=n
 |[],_,h=>h
 | .box _ _ _::h,_,hf=>Al (h:=h) hf.2
 | .th _::h,_,hf=>Al (h:=h) hf
theorem Hx.tl {x:Item} (H:Hx σ τ (x::h)):Hx σ τ h:=Hp.drop1 H
end
structure Dr (σ0:St) (v:GV) (bs:List Int):Prop where
 hv:RS pB.kd σ0 v bs
 hl:bs.length<=1099511627776
abbrev cuI (c v:GV) (bs:List Int):Item:=.th (crs c v bs.length)
section
variable {σ0 σ:St} {h:List Item} {c v:GV} {bs:List Int}
theorem Bw (H:Hx σ0 σ h) (k:Nat) (hk:h[k]? =some (cuI c v bs)) (D:Dr σ0 v bs) (n:Int) (hn:0<n) (hn2:n<=4611686018427387904):∃(x:Nat) (τ:St),(x:Int)<n/\Ret Tryz.prog Id [c,gi n] σ (gi x) τ/\Hx σ0 τ h:=by
 obtain⟨r,τ,R,x,rfl,h1,_,h2,H'⟩:=Iy (σ0:=σ0) H (at_t hk) D.hv D.hl n hn2
 obtain⟨y,rfl⟩:∃ y:Nat,x=y:=⟨x.toNat,by omega⟩
 exact⟨y,τ,h2 hn,R,H'⟩
theorem Afe (H:Hx σ0 σ h) (k:Nat) (hk:h[k]? =some (cuI c v bs)) (D:Dr σ0 v bs) (n:Int) (hn2:n<=4611686018427387904):∃(x:Nat) (τ:St),(0<n->(x:Int)<n)/\Ret Tryz.prog Id [c,gi n] σ (gi x) τ/\Hx σ0 τ h:=by
 obtain⟨r,τ,R,x,rfl,h1,_,h2,H'⟩:=Iy (σ0:=σ0) H (at_t hk) D.hv D.hl n hn2
 obtain⟨y,rfl⟩:∃ y:Nat,x=y:=⟨x.toNat,by omega⟩
 exact⟨y,τ,h2,R,H'⟩
theorem Fo (H:Hx σ0 σ h) (k:Nat) (hk:h[k]? =some (cuI c v bs)) (D:Dr σ0 v bs) (n:Int) (hn2:n<=4611686018427387904):∃(b:Bool) (τ:St),Ret Tryz.prog Oa [c,gi n] σ (.bool b) τ/\Hx σ0 τ h:=by
 have key:∃ w τ,Ret Tryz.prog Oa [c,gi n] σ w τ/\∃ b,w= .bool b/\Hx σ0 τ h:=by
  refine D8 A60 (Z0z rfl) H ?_
  simp +contextual (disch:=omega) only[go_sem,X9]
  obtain⟨x,τ1,hx,R1,H1⟩:=Afe H k hk D n hn2
  refine by_k R1 H1 ?_
  simp +contextual (disch:=omega) only[go_sem]
  exact fun _=>⟨_,rfl,_,rfl⟩
 obtain⟨w,τ,R,b,rfl,H'⟩:=key
 exact⟨b,τ,R,H'⟩
theorem Py (H:Hx σ0 σ h) (k:Nat) (hk:h[k]? =some (cuI c v bs)) (D:Dr σ0 v bs) {u:GV} {l:List ByteArray} (hu:∀ τ',Hx σ0 τ' h->RS pS.kd τ' u l) (hl:0<l.length) (hl2:l.length<=1000):∃(s:ByteArray) (τ:St),s∈l/\Ret Tryz.prog Ob [c,u] σ (.str s) τ/\Hx σ0 τ h:=by
 have key:∃ w τ,Ret Tryz.prog Ob [c,u] σ w τ/\∃ s,w= .str s/\s∈l/\Hx σ0 τ h:=by
  refine D8 A61 (Z0z rfl) H ?_
  have hn:=(hu σ H).len
  simp +contextual (disch:=omega) only[go_sem,Xa,hn]
  obtain⟨x,τ1,hx,R1,H1⟩:=Bw H k hk D l.length (by omega) (by omega)
  refine by_k R1 H1 ?_
  have L:=Ag9 (hu τ1 H1) (i:=x) (by omega)
  have L2:=Gf H1 L.2
  simp +contextual (disch:=omega) only[go_sem,A0,L.1,L2]
  exact fun _=>⟨_,rfl,_,rfl,Zak _⟩
 obtain⟨w,τ,R,s,rfl,hs,H'⟩:=key
 exact⟨s,τ,hs,R,H'⟩
theorem Cy (H:Hx σ0 σ h) (k:Nat) (hk:h[k]? =some (cuI c v bs)) (D:Dr σ0 v bs) {u:GV} {l:List Int} (hu:∀ τ',Hx σ0 τ' h->RS pI.kd τ' u l) (hl:0<l.length) (hl2:l.length<=1000):∃(s:Int) (τ:St),s∈l/\Ret Tryz.prog J6 [c,u] σ (gi s) τ/\Hx σ0 τ h:=by
 have key:∃ w τ,Ret Tryz.prog J6 [c,u] σ w τ/\∃ s,w=gi s/\s∈l/\Hx σ0 τ h:=by
  refine D8 Xb (Z0z rfl) H ?_
  have hn:=(hu σ H).len
  simp +contextual (disch:=omega) only[go_sem,Nd,hn]
  obtain⟨x,τ1,hx,R1,H1⟩:=Bw H k hk D l.length (by omega) (by omega)
  refine by_k R1 H1 ?_
  have L:=Cc (hu τ1 H1) (i:=x) (by omega)
  have L2:=Gf H1 L.2
  simp +contextual (disch:=omega) only[go_sem,A0,L.1,L2]
  exact fun _=>⟨_,rfl,_,rfl,Zak _⟩
 obtain⟨w,τ,R,s,rfl,hs,H'⟩:=key
 exact⟨s,τ,hs,R,H'⟩
theorem litS {n:Nat} {l:List ByteArray} {cs:List GV} (e:cs=pS.cells l) (hl:0<l.length):∀ τ,Hx σ0 τ (.box 1 n cs::h)->RS pS.kd τ (.sl n 0 l.length) l:=fun τ H=>(Hp.toRow (p:=pS) H.hp 0 (by rw[e];rfl) l rfl rfl _ rfl).sl 0 rfl
theorem litI {n:Nat} {l:List Int} {cs:List GV} (e:cs=pI.cells l) (hl:0<l.length):∀ τ,Hx σ0 τ (.box 1 n cs::h)->RS pI.kd τ (.sl n 0 l.length) l:=fun τ H=>(Hp.toRow (p:=pI) H.hp 0 (by rw[e];rfl) l rfl rfl _ rfl).sl 0 rfl
def Uk:List ByteArray:=[⟨#[97]⟩,⟨#[98]⟩,⟨#[116,97,108,108,121]⟩]
def A63:List ByteArray:=[⟨#[120]⟩,⟨#[121]⟩,⟨#[122,111,111]⟩]
theorem M8 (H:Hx σ0 σ h) (k:Nat) (hk:h[k]? =some (cuI c v bs)) (D:Dr σ0 v bs):∃(s:ByteArray) (τ:St),s∈Uk/\Ret Tryz.prog Rl [c] σ (.str s) τ/\Hx σ0 τ h:=by
 have key:∃ w τ,Ret Tryz.prog Rl [c] σ w τ/\∃ s,w= .str s/\s∈Uk/\Hx σ0 τ h:=by
  refine D8 A8z (Z0z rfl) H ?_
  simp +contextual (disch:=omega) only[go_sem,A0y]
  intro n1 f1 τ1 H1
  have g1:=Al (by first|exact f1|exact f1.2|exact f1.2.2|exact f1.2.2.2:frX σ0 h n1)
  obtain⟨s,τ2,hs,R2,H2⟩:=Py H1 (k+1) hk D (litS (l:=Uk) rfl (by decide)) (by decide) (by decide)
  refine by_k R2 H2 ?_
  simp +contextual (disch:=omega) only[go_sem]
  exact fun _=>⟨_,rfl,_,rfl,hs,H2.tl⟩
 obtain⟨w,τ,R,s,rfl,hs,H'⟩:=key
 exact⟨s,τ,hs,R,H'⟩
theorem F5 (H:Hx σ0 σ h) (k:Nat) (hk:h[k]? =some (cuI c v bs)) (D:Dr σ0 v bs):∃(s:ByteArray) (τ:St),s∈A63/\Ret Tryz.prog Rm [c] σ (.str s) τ/\Hx σ0 τ h:=by
 have key:∃ w τ,Ret Tryz.prog Rm [c] σ w τ/\∃ s,w= .str s/\s∈A63/\Hx σ0 τ h:=by
  refine D8 A90 (Z0z rfl) H ?_
  simp +contextual (disch:=omega) only[go_sem,A0z]
  intro n1 f1 τ1 H1
  have g1:=Al (by first|exact f1|exact f1.2|exact f1.2.2|exact f1.2.2.2:frX σ0 h n1)
  obtain⟨s,τ2,hs,R2,H2⟩:=Py H1 (k+1) hk D (litS (l:=A63) rfl (by decide)) (by decide) (by decide)
  refine by_k R2 H2 ?_
  simp +contextual (disch:=omega) only[go_sem]
  exact fun _=>⟨_,rfl,_,rfl,hs,H2.tl⟩
 obtain⟨w,τ,R,s,rfl,hs,H'⟩:=key
 exact⟨s,τ,hs,R,H'⟩
theorem Tr (H:Hx σ0 σ h) (k:Nat) (hk:h[k]? =some (cuI c v bs)) (D:Dr σ0 v bs):∃(d:Dot) (τ:St),(0<=d.rep/\d.rep<3/\1<=d.seq/\d.seq<6)/\Ret Tryz.prog Rn [c] σ (.agg [gi d.rep,gi d.seq]) τ/\Hx σ0 τ h:=by
 have key:∃ w τ,Ret Tryz.prog Rn [c] σ w τ/\∃ d:Dot,w= .agg [gi d.rep,gi d.seq]/\(0<=d.rep/\d.rep<3/\1<=d.seq/\d.seq<6)/\Hx σ0 τ h:=by
  refine D8 A91 (Z0z rfl) H ?_
  simp +contextual (disch:=omega) only[go_sem,A10]
  intro n1 f1 τ1 H1
  have g1:=Al (by first|exact f1|exact f1.2|exact f1.2.2|exact f1.2.2.2:frX σ0 h n1)
  obtain⟨x,τ2,hx,R2,H2⟩:=Bw H1 (k+1) hk D 3 (by decide) (by decide)
  refine by_k R2 H2 ?_
  simp +contextual (disch:=omega) only[go_sem]
  obtain⟨y,τ3,hy,R3,H3⟩:=Bw H2 (k+1) hk D 5 (by decide) (by decide)
  refine by_k R3 H3 ?_
  simp +contextual (disch:=omega) only[go_sem]
  intro τ4 H4
  exact⟨_,rfl,⟨x,1+y⟩,rfl,⟨by simp,hx,by show(1:Int)<=1+(y:Int);omega,by show 1+(y:Int)<6;omega⟩,H4.tl⟩
 obtain⟨w,τ,R,d,rfl,hd,H'⟩:=key
 exact⟨d,τ,hd,R,H'⟩
theorem know_x (H:Hx σ0 σ h) (k:Nat) (hk:h[k]? =some (cuI c v bs)) (D:Dr σ0 v bs):∃(r:GV) (l:List Int) (τ:St),low5 l/\Ret Tryz.prog Nw [c] σ r τ/\Hx σ0 τ (.th (ow pI.kd r l)::h):=by
 obtain⟨r,τ,R,l,hl,H'⟩:=A2f (σ0:=σ0) H (at_t hk) D.hv D.hl
 exact⟨r,l,τ,hl,R,H'⟩
structure EdD (e:Edit):Prop where
 kind:1<=e.kind/\e.kind<=7
 obj:e.obj∈Uk
 key:if Vu e.kind then e.key∈A63 else e.key=noS
 val:e.val=0∨(N7 e.kind=true/\e.val∈[0,1,7,999999])
 place:0<=e.place/\e.place<=2/\(e.kind<6->e.place=0)
theorem Xd {s:ByteArray} (h:s∈Uk):Ct s=true/\s.size<=5:=by
 simp only[Uk,Zah,Zbk,or_false] at h
 rcases h with rfl|rfl|rfl<;>decide
theorem Xe {s:ByteArray} (h:s∈A63):Ct s=true/\s.size<=3:=by
 simp only[A63,Zah,Zbk,or_false] at h
 rcases h with rfl|rfl|rfl<;>decide
theorem EdD.size {e:Edit} (h:EdD e):e.obj.size<=5/\e.key.size<=3:=by
 refine⟨(Xd h.obj).2,?_⟩
 have:=h.key
 split at this
 ·exact(Xe this).2
 ·rw[this];decide
theorem EdD.ok {e:Edit} (h:EdD e):It e=true:=by
 have h1:inB e.kind 1 7=true:=Ck.2 h.kind
 have h2:Ct e.obj=true:=(Xd h.obj).1
 have h3:(if Vu e.kind then Ct e.key else decide (e.key=noS))=true:=by
  have:=h.key
  split at this
  ·rename_i hk;rw[if_pos hk];exact(Xe this).1
  ·rename_i hk;rw[if_neg hk];simp[this]
 have h4:Lp e.kind e.val=true:=by
  unfold Lp
  rcases h.val with h|⟨hv,h⟩
  ·simp[h]
  ·have:inB e.val 0 999999=true:=by
    simp only[Zah,Zbk,or_false] at h
    rcases h with h|h|h|h<;>rw[h]<;>decide
   simp[hv,this]
 have h5:decide (0<=e.place)=true:=decide_eq_true h.place.1
 have h6:((e.kind==6||e.kind==7)||e.place==0)=true:=by
  by_cases hk:e.kind<6
  ·simp[h.place.2.2 hk]
  ·have:=h.kind
   have:e.kind=6∨e.kind=7:=by omega
   rcases this with h|h<;>simp[h]
 unfold It Bo
 rw[h1,h2,h3,h4,h5,h6];rfl
theorem Km (H:Hx σ0 σ h) (k:Nat) (hk:h[k]? =some (cuI c v bs)) (D:Dr σ0 v bs):∃(e:Edit) (τ:St),EdD e/\Ret Tryz.prog Oc [c] σ (.agg (edV e)) τ/\Hx σ0 τ h:=by
 have key:∃ w τ,Ret Tryz.prog Oc [c] σ w τ/\∃ e:Edit,w= .agg (edV e)/\EdD e/\Hx σ0 τ h:=by
  refine D8 A62 (Z0z rfl) H ?_
  simp +contextual (disch:=omega) only[go_sem,Xc]
  intro n1 f1 τ1 H1 n2 f2 τ2 H2
  have g1:=Al (by first|exact f1|exact f1.2|exact f1.2.2|exact f1.2.2.2:frX σ0 h n1)
  have g2:=Al (by first|exact f2|exact f2.2|exact f2.2.2|exact f2.2.2.2:frX σ0 h n2)
  obtain⟨kd,τ3,hkd,R3,H3⟩:=Cy H2 (k+2) hk D (litI (l:=[1,2,3,4,5,6,6,6,7]) rfl (by decide)) (by decide) (by decide)
  have hkd:1<=kd/\kd<=7:=by
   simp only[Zah,Zbk,or_false] at hkd
   omega
  refine by_k R3 H3 ?_
  simp +contextual (disch:=omega) only[go_sem]
  obtain⟨ob,τ4,hob,R4,H4⟩:=M8 H3 (k+2) hk D
  refine by_k R4 H4 ?_
  simp +contextual (disch:=omega) only[go_sem]
  intro n5 f5 τ5 H5 τ6 H6
  have g5:=Al (by first|exact f5|exact f5.2|exact f5.2.2|exact f5.2.2.2:frX σ0 h n5)
  refine by_r H6 (Hw _ kd) ?_
  cases hk1:Vu kd with
  |true=>
   cases hv1:N7 kd with
   |true=>
    cases hp1:decide (6<=kd) with
    |true=>
     simp +contextual (disch:=omega) only[go_sem,hk1,hv1,hp1]
     obtain⟨ky,τ7,hky,R7,H7⟩:=F5 H6 (k+3) hk D
     refine by_k R7 H7 ?_
     simp +contextual (disch:=omega) only[go_sem,hk1,hv1,hp1]
     intro τ8 H8
     refine by_r H8 (C8 _ kd) ?_
     simp +contextual (disch:=omega) only[go_sem,hk1,hv1,hp1]
     intro n9 f9 τ9 H9
     have g9:=Al (by first|exact f9|exact f9.2|exact f9.2.2|exact f9.2.2.2:frX σ0 h n9)
     obtain⟨vl,τ10,hvl,R10,H10⟩:=Cy H9 (k+4) hk D (litI (l:=[0,1,7,999999]) rfl (by decide)) (by decide) (by decide)
     refine by_k R10 H10 ?_
     simp +contextual (disch:=omega) only[go_sem,hk1,hv1,hp1]
     intro τ11 H11
     try simp +contextual (disch:=omega) only[go_sem,hk1,hv1,hp1]
     obtain⟨pl,τ12,hpl,R12,H12⟩:=Bw H11 (k+4) hk D 3 (by decide) (by decide)
     refine by_k R12 H12 ?_
     simp +contextual (disch:=omega) only[go_sem,hk1,hv1,hp1]
     intro τ13 H13
     intro τ14 H14
     exact⟨_,rfl,⟨kd,ob,ky,vl,pl⟩,rfl,⟨hkd,hob,by simp only[hk1];exact hky,.inr ⟨hv1,hvl⟩,by simp only[decide_eq_true_eq,decide_eq_false_iff_not] at hp1;refine⟨by simp,by simp;try omega,fun h=> ?_⟩;simp only at h;first|rfl|omega⟩,H14.tl.tl.tl.tl⟩
    |false=>
     simp +contextual (disch:=omega) only[go_sem,hk1,hv1,hp1]
     obtain⟨ky,τ7,hky,R7,H7⟩:=F5 H6 (k+3) hk D
     refine by_k R7 H7 ?_
     simp +contextual (disch:=omega) only[go_sem,hk1,hv1,hp1]
     intro τ8 H8
     refine by_r H8 (C8 _ kd) ?_
     simp +contextual (disch:=omega) only[go_sem,hk1,hv1,hp1]
     intro n9 f9 τ9 H9
     have g9:=Al (by first|exact f9|exact f9.2|exact f9.2.2|exact f9.2.2.2:frX σ0 h n9)
     obtain⟨vl,τ10,hvl,R10,H10⟩:=Cy H9 (k+4) hk D (litI (l:=[0,1,7,999999]) rfl (by decide)) (by decide) (by decide)
     refine by_k R10 H10 ?_
     simp +contextual (disch:=omega) only[go_sem,hk1,hv1,hp1]
     intro τ11 H11
     try simp +contextual (disch:=omega) only[go_sem,hk1,hv1,hp1]
     intro τ14 H14
     exact⟨_,rfl,⟨kd,ob,ky,vl,0⟩,rfl,⟨hkd,hob,by simp only[hk1];exact hky,.inr ⟨hv1,hvl⟩,by simp only[decide_eq_true_eq,decide_eq_false_iff_not] at hp1;refine⟨by simp,by simp;try omega,fun h=> ?_⟩;simp only at h;first|rfl|omega⟩,H14.tl.tl.tl.tl⟩
   |false=>
    cases hp1:decide (6<=kd) with
    |true=>
     simp +contextual (disch:=omega) only[go_sem,hk1,hv1,hp1]
     obtain⟨ky,τ7,hky,R7,H7⟩:=F5 H6 (k+3) hk D
     refine by_k R7 H7 ?_
     simp +contextual (disch:=omega) only[go_sem,hk1,hv1,hp1]
     intro τ8 H8
     refine by_r H8 (C8 _ kd) ?_
     simp +contextual (disch:=omega) only[go_sem,hk1,hv1,hp1]
     obtain⟨pl,τ12,hpl,R12,H12⟩:=Bw H8 (k+3) hk D 3 (by decide) (by decide)
     refine by_k R12 H12 ?_
     simp +contextual (disch:=omega) only[go_sem,hk1,hv1,hp1]
     intro τ13 H13
     intro τ14 H14
     exact⟨_,rfl,⟨kd,ob,ky,0,pl⟩,rfl,⟨hkd,hob,by simp only[hk1];exact hky,.inl rfl,by simp only[decide_eq_true_eq,decide_eq_false_iff_not] at hp1;refine⟨by simp,by simp;try omega,fun h=> ?_⟩;simp only at h;first|rfl|omega⟩,H14.tl.tl.tl⟩
    |false=>
     simp +contextual (disch:=omega) only[go_sem,hk1,hv1,hp1]
     obtain⟨ky,τ7,hky,R7,H7⟩:=F5 H6 (k+3) hk D
     refine by_k R7 H7 ?_
     simp +contextual (disch:=omega) only[go_sem,hk1,hv1,hp1]
     intro τ8 H8
     refine by_r H8 (C8 _ kd) ?_
     simp +contextual (disch:=omega) only[go_sem,hk1,hv1,hp1]
     intro τ14 H14
     exact⟨_,rfl,⟨kd,ob,ky,0,0⟩,rfl,⟨hkd,hob,by simp only[hk1];exact hky,.inl rfl,by simp only[decide_eq_true_eq,decide_eq_false_iff_not] at hp1;refine⟨by simp,by simp;try omega,fun h=> ?_⟩;simp only at h;first|rfl|omega⟩,H14.tl.tl.tl⟩
  |false=>
   cases hv1:N7 kd with
   |true=>
    cases hp1:decide (6<=kd) with
    |true=>
     simp +contextual (disch:=omega) only[go_sem,hk1,hv1,hp1]
     refine by_r H6 (C8 _ kd) ?_
     simp +contextual (disch:=omega) only[go_sem,hk1,hv1,hp1]
     intro n9 f9 τ9 H9
     have g9:=Al (by first|exact f9|exact f9.2|exact f9.2.2|exact f9.2.2.2:frX σ0 h n9)
     obtain⟨vl,τ10,hvl,R10,H10⟩:=Cy H9 (k+4) hk D (litI (l:=[0,1,7,999999]) rfl (by decide)) (by decide) (by decide)
     refine by_k R10 H10 ?_
     simp +contextual (disch:=omega) only[go_sem,hk1,hv1,hp1]
     intro τ11 H11
     try simp +contextual (disch:=omega) only[go_sem,hk1,hv1,hp1]
     obtain⟨pl,τ12,hpl,R12,H12⟩:=Bw H11 (k+4) hk D 3 (by decide) (by decide)
     refine by_k R12 H12 ?_
     simp +contextual (disch:=omega) only[go_sem,hk1,hv1,hp1]
     intro τ13 H13
     intro τ14 H14
     exact⟨_,rfl,⟨kd,ob,noS,vl,pl⟩,rfl,⟨hkd,hob,by simp only[hk1];simp,.inr ⟨hv1,hvl⟩,by simp only[decide_eq_true_eq,decide_eq_false_iff_not] at hp1;refine⟨by simp,by simp;try omega,fun h=> ?_⟩;simp only at h;first|rfl|omega⟩,H14.tl.tl.tl.tl⟩
    |false=>
     simp +contextual (disch:=omega) only[go_sem,hk1,hv1,hp1]
     refine by_r H6 (C8 _ kd) ?_
     simp +contextual (disch:=omega) only[go_sem,hk1,hv1,hp1]
     intro n9 f9 τ9 H9
     have g9:=Al (by first|exact f9|exact f9.2|exact f9.2.2|exact f9.2.2.2:frX σ0 h n9)
     obtain⟨vl,τ10,hvl,R10,H10⟩:=Cy H9 (k+4) hk D (litI (l:=[0,1,7,999999]) rfl (by decide)) (by decide) (by decide)
     refine by_k R10 H10 ?_
     simp +contextual (disch:=omega) only[go_sem,hk1,hv1,hp1]
     intro τ11 H11
     try simp +contextual (disch:=omega) only[go_sem,hk1,hv1,hp1]
     intro τ14 H14
     exact⟨_,rfl,⟨kd,ob,noS,vl,0⟩,rfl,⟨hkd,hob,by simp only[hk1];simp,.inr ⟨hv1,hvl⟩,by simp only[decide_eq_true_eq,decide_eq_false_iff_not] at hp1;refine⟨by simp,by simp;try omega,fun h=> ?_⟩;simp only at h;first|rfl|omega⟩,H14.tl.tl.tl.tl⟩
   |false=>
    cases hp1:decide (6<=kd) with
    |true=>
     simp +contextual (disch:=omega) only[go_sem,hk1,hv1,hp1]
     refine by_r H6 (C8 _ kd) ?_
     simp +contextual (disch:=omega) only[go_sem,hk1,hv1,hp1]
     obtain⟨pl,τ12,hpl,R12,H12⟩:=Bw H6 (k+3) hk D 3 (by decide) (by decide)
     refine by_k R12 H12 ?_
     simp +contextual (disch:=omega) only[go_sem,hk1,hv1,hp1]
     intro τ13 H13
     intro τ14 H14
     exact⟨_,rfl,⟨kd,ob,noS,0,pl⟩,rfl,⟨hkd,hob,by simp only[hk1];simp,.inl rfl,by simp only[decide_eq_true_eq,decide_eq_false_iff_not] at hp1;refine⟨by simp,by simp;try omega,fun h=> ?_⟩;simp only at h;first|rfl|omega⟩,H14.tl.tl.tl⟩
    |false=>
     simp +contextual (disch:=omega) only[go_sem,hk1,hv1,hp1]
     refine by_r H6 (C8 _ kd) ?_
     simp +contextual (disch:=omega) only[go_sem,hk1,hv1,hp1]
     intro τ14 H14
     exact⟨_,rfl,⟨kd,ob,noS,0,0⟩,rfl,⟨hkd,hob,by simp only[hk1];simp,.inl rfl,by simp only[decide_eq_true_eq,decide_eq_false_iff_not] at hp1;refine⟨by simp,by simp;try omega,fun h=> ?_⟩;simp only at h;first|rfl|omega⟩,H14.tl.tl.tl⟩
 obtain⟨w,τ,R,e,rfl,he,H'⟩:=key
 exact⟨e,τ,he,R,H'⟩
end
theorem Pz {α:Type} (f:α->Nat) {l k:List α} (h:l.Perm k):sumL f l=sumL f k:=by
 unfold sumL
 exact(h.map f).sum_nat
theorem Fp {α:Type} (f:α->Nat) (p:α->Bool):∀ l:List α,sumL f (l.filter p)<=sumL f l
 |[]=>Za8 _
 |x::l=>by
  have:=Fp f p l
  rw[Zbx]
  split
  ·simp only[sumL,Za0,Zcm] at *;omega
  ·simp only[sumL,Za0,Zcm] at *;omega
structure OkS (s:State):Prop where
 kn:okK s.know=true
 tl:s.tallies.Pairwise fun a b=>Ak a b=true
 t1:∀ t∈s.tallies,tal1 t=true
 tn:s.tallies.length<=120
 ll:s.lives.Pairwise fun a b=>Bj a.dot b.dot=true
 l1:∀ x∈s.lives,Ax s.know x.dot=true/\liv1 x=true
 ln:s.lives.length<=120
 cl:s.cells.Pairwise fun a b=>Bj a.dot b.dot=true
 c1:∀ x∈s.cells,Ax s.know x.dot=true/\cel1 x=true
 cn:s.cells.length<=120
 rf:∀ c∈s.cells,c.ref=d0∨∃ y∈s.cells,y.dot=c.ref/\y.obj=c.obj/\y.time<c.time
theorem A37 {α:Type} {lt:α->α->Bool} {l:List α} (h:l.Pairwise fun a b=>lt a b=true) (i:Nat) (hi:i<l.length):upI lt l i=true:=by
 by_cases h0:i=0
 ·subst h0;rfl
 ·rw[Jh h0 hi (by omega)]
  exact Za2.1 h (i - 1) i (by omega) hi (by omega)
theorem I3 {α:Type} {l:List α} {p:α->Bool}:(∀ i,i<l.length->onI l i p=true)↔∀ x∈l,p x=true:=by
 constructor
 ·intro h x hx
  obtain⟨i,hi,rfl⟩:=Zai hx
  have:=h i hi
  rwa [Bn hi] at this
 ·intro h i hi
  rw[Bn hi];exact h _ (Zak hi)
theorem Aff {l:List Cell} (h:l.Pairwise fun a b=>Bj a.dot b.dot=true) {x y:Cell} (hx:x∈l) (hy:y∈l) (e:x.dot=y.dot):x=y:=by
 obtain⟨i,hi,rfl⟩:=Zai hx
 obtain⟨j,hj,rfl⟩:=Zai hy
 rcases Nat.lt_trichotomy i j with h1|h1|h1
 ·have:=Za2.1 h i j hi hj h1
  rw[e,Hy] at this;cases this
 ·subst h1;rfl
 ·have:=Za2.1 h j i hj hi h1
  rw[e,Hy] at this;cases this
theorem Abl {l:List Cell} (h:l.Pairwise fun a b=>Bj a.dot b.dot=true) {y:Cell} (hy:y∈l):∃ k,Cf l y.dot=some k/\∃ hk:k<l.length,l[k]=y:=by
 cases hc:Cf l y.dot with
 |none=>
  exfalso
  have:=Za1.1 hc y hy
  simp at this
 |some k=>
  obtain⟨hk,e⟩:=C5 hc
  exact⟨k,rfl,hk,Aff h (Zak hk) hy e⟩
theorem Ai4 {s:State}:Au s=true↔OkS s:=by
 unfold Au
 simp only[Zaa]
 constructor
 ·rintro⟨h1,h2,h3,h4,h5⟩
  have hc:=A2g h4
  have hl:=Aa6 h3
  simp only[Dp,Zaa,Bl,talP,decide_eq_true_eq] at h2
  simp only[Ig,Zaa,Bl,livP,decide_eq_true_eq] at h3
  simp only[Gv,Zaa,Bl,celP,decide_eq_true_eq] at h4
  refine {kn:=h1,tl:=P6 (lt:=Ak) (fun a b c=>Pm.trans a b c) fun i hi=>(h2.1 i hi).2,t1:=I3.1 fun i hi=>(h2.1 i hi).1,tn:=h2.2,ll:=hl,l1:=fun x hx=>⟨I3.1 (fun i hi=>(h3.1 i hi).1) x hx,I3.1 (fun i hi=>(h3.1 i hi).2.1) x hx⟩,ln:=h3.2,cl:=hc,c1:=fun x hx=>⟨I3.1 (fun i hi=>(h4.1 i hi).1) x hx,I3.1 (fun i hi=>(h4.1 i hi).2.1) x hx⟩,cn:=h4.2,rf:=fun c hcm=> ?_}
  have:=Zbi.1 h5 c hcm
  unfold ref1 at this
  simp only[Zbb,decide_eq_true_eq] at this
  refine this.imp (fun h=>h) fun h=> ?_
  split at h
  ·cases h
  ·rename_i k hk
   obtain⟨hkl,e⟩:=C5 hk
   rw[Bn hkl] at h
   simp only[Zaa,decide_eq_true_eq] at h
   exact⟨_,Zak hkl,e,h.1,h.2⟩
 ·intro h
  refine⟨h.kn,?_,?_,?_,?_⟩
  ·simp only[Dp,Zaa,Bl,talP,decide_eq_true_eq]
   exact⟨fun i hi=>⟨I3.2 h.t1 i hi,A37 h.tl i hi⟩,h.tn⟩
  ·simp only[Ig,Zaa,Bl,livP,decide_eq_true_eq]
   exact⟨fun i hi=>⟨I3.2 (fun x hx=>(h.l1 x hx).1) i hi,I3.2 (fun x hx=>(h.l1 x hx).2) i hi,A37 (lt:=Dc) h.ll i hi⟩,h.ln⟩
  ·simp only[Gv,Zaa,Bl,celP,decide_eq_true_eq]
   exact⟨fun i hi=>⟨I3.2 (fun x hx=>(h.c1 x hx).1) i hi,I3.2 (fun x hx=>(h.c1 x hx).2) i hi,A37 (lt:=Dq) h.cl i hi⟩,h.cn⟩
  ·refine Zbi.2 fun c hc=> ?_
   unfold ref1
   simp only[Zbb,decide_eq_true_eq]
   refine(h.rf c hc).imp (fun h=>h) fun⟨y,hy,e1,e2,e3⟩=> ?_
   obtain⟨k,hk,hkl,ek⟩:=Abl h.cl hy
   rw[<- e1,hk]
   simp only
   rw[Bn hkl,ek]
   simp[e2,e3]
theorem Kn {α:Type} {lt:α->α->Bool} {x y:α} {l:List α}:y∈insB lt x l↔y=x∨y∈l:=by
 rw[(I2 lt x l).mem_iff,Zah]
theorem A38 {α:Type} {lt:α->α->Bool} (ht:∀ a b c,lt a b=true->lt b c=true->lt a c=true) {x:α}:∀ {l:List α},l.Pairwise (fun a b=>lt a b=true)->(∀ y∈l,lt x y=true∨lt y x=true)->(insB lt x l).Pairwise fun a b=>lt a b=true
 |[],_,_=>by simp[insB]
 |k::r,h,hx=>by
  obtain⟨h1,h2⟩:=Zbp.1 h
  unfold insB
  split
  ·rename_i hk
   refine Zbp.2 ⟨fun y hy=> ?_,h⟩
   rcases Zah.1 hy with rfl|hy
   ·exact hk
   ·exact ht _ _ _ hk (h1 y hy)
  ·rename_i hk
   refine Zbp.2 ⟨fun y hy=> ?_,A38 ht h2 fun y hy=>hx y (Zab _ hy)⟩
   rcases Kn.1 hy with rfl|hy
   ·exact(hx k Zae).resolve_left hk
   ·exact h1 y hy
theorem Ro {α β:Type} {f:α->α} {g:α->β} (h:∀ x,g (f x)=g x):∀(l:List α) (k:Nat),(l.modify k f).map g=l.map g
 |[],k=>by simp
 |x::l,0=>by simp[h]
 |x::l,k+1=>by simp[Zat,Ro h l k]
theorem Rp {α:Type} {f:α->α}:∀ {l:List α} {k:Nat} {x:α},x∈l.modify k f->∃ y∈l,x=y∨x=f y
 |[],k,x,h=>by simp at h
 |y::l,0,x,h=>by
  simp only[List.modify_zero_cons,Zah] at h
  rcases h with h|h
  ·exact⟨y,Zae,.inr h⟩
  ·exact⟨x,Zab _ h,.inl rfl⟩
 |y::l,k+1,x,h=>by
  simp only[Zat,Zah] at h
  rcases h with h|h
  ·exact⟨y,Zae,.inl h⟩
  ·obtain⟨z,hz,e⟩:=Rp h
   exact⟨z,Zab _ hz,e⟩
theorem A11 {α:Type} {f:α->α}:∀ {l:List α} {k:Nat} {y:α},y∈l->∃ x∈l.modify k f,x=y∨x=f y
 |[],k,x,h=>by simp at h
 |y::l,0,x,h=>by
  rcases Zah.1 h with rfl|h
  ·exact⟨f x,by simp,.inr rfl⟩
  ·exact⟨x,by simp[h],.inl rfl⟩
 |y::l,k+1,x,h=>by
  rcases Zah.1 h with rfl|h
  ·exact⟨x,by simp[Zat],.inl rfl⟩
  ·obtain⟨z,hz,e⟩:=A11 (k:=k) h
   exact⟨z,by simp[Zat,hz],e⟩
theorem Adx {l:List Int} {r q:Int} {v:Int} (hr:0<=r) (hq:0<=q) (hl:r.toNat<l.length):at0 (l.set r.toNat v) q=if q=r then v else at0 l q:=by
 unfold at0
 rw[Zbn,Zbn,List.getElem?_set]
 by_cases h:q=r
 ·subst h;simp[hl]
 ·have:¬ r.toNat=q.toNat:=by omega
  rw[if_neg this,if_neg h]
structure Fits (s:State) (a:Act):Prop where
 dot:G7 a.dot=true
 seq:a.dot.seq=at0 s.know a.dot.rep+1
 new:Ax s.know a.dot=false
 kn:okK (s.know.set a.dot.rep.toNat a.dot.seq)=true
 mono:∀ d,Ax s.know d=true->Ax (s.know.set a.dot.rep.toNat a.dot.seq) d=true
 self:Ax (s.know.set a.dot.rep.toNat a.dot.seq) a.dot=true
theorem kLe_at:∀ {a b:List Int},a.length=b.length->kLe a b=true->∀ i:Nat,a.getD i 0<=b.getD i 0:=by
 intro a
 induction a with
 |nil=>intro b hl _ i;cases b with
  |nil=>simp
  |cons _ _=>simp at hl
 |cons x a ih=>
  intro b hl h i
  cases b with
  |nil=>simp at hl
  |cons y b=>
   simp only[kLe,Zaa,decide_eq_true_eq] at h
   cases i with
   |zero=>simpa using h.1
   |succ i=>simpa using ih (by simpa using hl) h.2 i
theorem Ai5 {s:State} {a:Act} (hs:okK s.know=true) (ha:Dk a=true) (hn:Ax s.know a.dot=false) (hk:Gn a.knew s.know=true):Fits s a:=by
 simp only[Dk,Zaa,decide_eq_true_eq] at ha
 obtain⟨h1,h2,h3,h4⟩:=ha
 simp only[Gn,Zaa] at hk
 have hle:=kLe_at (by rw[Cw hk.1,Cw hs]) hk.2.2 a.dot.rep.toNat
 have hle:at0 a.knew a.dot.rep<=at0 s.know a.dot.rep:=hle
 have hd:=h1
 simp only[G7,Zaa,Ck] at hd
 have hnot:¬ a.dot.seq<=at0 s.know a.dot.rep:=by
  intro h
  have:Ax s.know a.dot=true:=by unfold Ax;rw[hs,h1];simpa using h
  rw[hn] at this;cases this
 have hlen:=Cw hs
 have hr:a.dot.rep.toNat<s.know.length:=by omega
 have e:a.dot.seq=at0 s.know a.dot.rep+1:=by omega
 have hkn:okK (s.know.set a.dot.rep.toNat a.dot.seq)=true:=by
  simp only[okK,Zaa,Zbi,decide_eq_true_eq] at hs ⊢
  refine⟨fun x hx=> ?_,by rw[List.length_set];exact hs.2⟩
  rcases Zbq hx with h|h
  ·exact hs.1 x h
  ·rw[h];exact Ck.2 ⟨by omega,by omega⟩
 refine⟨h1,e,hn,hkn,fun d hd'=> ?_,?_⟩
 ·simp only[Ax,Zaa,decide_eq_true_eq] at hd' ⊢
  refine⟨⟨hkn,hd'.1.2⟩,?_⟩
  have hq:=hd'.1.2
  simp only[G7,Zaa,Ck] at hq
  rw[Adx (by omega) (by omega) hr]
  split
  ·rename_i hq2;rw[hq2] at hd';omega
  ·exact hd'.2
 ·simp only[Ax,Zaa,decide_eq_true_eq]
  refine⟨⟨hkn,h1⟩,?_⟩
  rw[Adx (by omega) (by omega) hr,if_pos rfl]
  omega
theorem Ady {l:List Tally} {obj:ByteArray} {rep val:Int} (hp:l.Pairwise fun a b=>Ak a b=true) (h1:∀ t∈l,tal1 t=true) (hn:Ct obj=true) (hr:inB rep 0 2=true) (hv:0<=val/\val<=999999):
  (G0 l obj rep val).Pairwise (fun a b=>Ak a b=true)/\∀ t∈G0 l obj rep val,tal1 t=true:=by
 unfold G0
 split
 ·rename_i i hi
  constructor
  ·have e:((l.modify i fun t=>{t with sum:=addM t.sum val}).map fun t=>(⟨t.obj,t.rep,0⟩:Tally))=l.map fun t=>(⟨t.obj,t.rep,0⟩:Tally):=Ro (f:=fun t=>{t with sum:=addM t.sum val}) (g:=fun t=>(⟨t.obj,t.rep,0⟩:Tally)) (fun _=>rfl) l i
   have h2:(l.map fun t=>(⟨t.obj,t.rep,0⟩:Tally)).Pairwise fun a b=>Ak a b=true:=Zbh.2 (hp.imp fun h=>h)
   rw[<- e] at h2
   exact(Zbh.1 h2).imp fun h=>h
  ·intro t ht
   obtain⟨y,hy,e⟩:=Rp ht
   have hy1:=h1 y hy
   rcases e with rfl|rfl
   ·exact hy1
   ·simp only[tal1,Zaa,Ck] at hy1 ⊢
    refine⟨hy1.1,hy1.2.1,?_⟩
    unfold addM
    rw[Int.tmod_eq_emod_of_nonneg (by omega)]
    omega
 ·rename_i hi
  constructor
  ·refine A38 (fun a b c=>Pm.trans a b c) hp fun y hy=> ?_
   have:=Za1.1 hi y hy
   cases h2:Ak ⟨obj,rep,val⟩ y with
   |true=>exact .inl rfl
   |false=>
    cases h3:Ak y ⟨obj,rep,val⟩ with
    |true=>exact .inr rfl
    |false=>
     obtain⟨e1,e2⟩:=Adf h2 h3
     have:Lx obj rep y=true:=A5i.2 ⟨e1.symm,e2.symm⟩
     simp_all
  ·intro t ht
   rcases Kn.1 ht with rfl|ht
   ·simp only[tal1,Zaa]
    exact⟨hn,hr,Ck.2 hv⟩
   ·exact h1 t ht
theorem Adz {k:List Int} {a d:Dot} (hn:Ax k a=false) (hd:Ax k d=true):Bj a d=true∨Bj d a=true:=by
 cases h1:Bj a d with
 |true=>exact .inl rfl
 |false=>
  cases h2:Bj d a with
  |true=>exact .inr rfl
  |false=>rw[Ada h1 h2,hd] at hn;cases hn
theorem A12 {l:List Live} {k k':List Int} {x:Live} (hp:l.Pairwise fun a b=>Bj a.dot b.dot=true) (h1:∀ y∈l,Ax k y.dot=true/\liv1 y=true) (hm:∀ d,Ax k d=true->Ax k' d=true) (hn:Ax k x.dot=false) (hx:Ax k' x.dot=true/\liv1 x=true):
  (Ke x l).Pairwise (fun a b=>Bj a.dot b.dot=true)/\∀ y∈Ke x l,Ax k' y.dot=true/\liv1 y=true:=by
 constructor
 ·exact A38 (lt:=Dc) (fun a b c h1 h2=>Hz h1 h2) hp fun y hy=>Adz hn (h1 y hy).1
 ·intro y hy
  rcases Kn.1 hy with rfl|hy
  ·exact hx
  ·exact⟨hm _ (h1 y hy).1,(h1 y hy).2⟩
theorem Abm {l:List Cell} {k k':List Int} {x:Cell} (hp:l.Pairwise fun a b=>Bj a.dot b.dot=true) (h1:∀ y∈l,Ax k y.dot=true/\cel1 y=true) (hm:∀ d,Ax k d=true->Ax k' d=true) (hn:Ax k x.dot=false) (hx:Ax k' x.dot=true/\cel1 x=true):
  (Ly x l).Pairwise (fun a b=>Bj a.dot b.dot=true)/\∀ y∈Ly x l,Ax k' y.dot=true/\cel1 y=true:=by
 constructor
 ·exact A38 (lt:=Dq) (fun a b c h1 h2=>Hz h1 h2) hp fun y hy=>Adz hn (h1 y hy).1
 ·intro y hy
  rcases Kn.1 hy with rfl|hy
  ·exact hx
  ·exact⟨hm _ (h1 y hy).1,(h1 y hy).2⟩
theorem A13 {l:List Cell} {d:Dot} {x:Cell} (h:x∈Jl l d):∃ y∈l,x=y∨x={y with gone:=true}:=by
 unfold Jl at h
 split at h
 ·exact Rp h
 ·exact⟨x,h,.inl rfl⟩
theorem Abn {l:List Cell} {d:Dot} {y:Cell} (h:y∈l):∃ x∈Jl l d,x=y∨x={y with gone:=true}:=by
 unfold Jl
 split
 ·exact A11 h
 ·exact⟨y,h,.inl rfl⟩
theorem Xf (l:List Cell) (d:Dot):(Jl l d).map (·.dot)=l.map (·.dot):=by
 unfold Jl
 split
 ·exact Ro (f:=fun c:Cell=>{c with gone:=true}) (g:=fun c=>c.dot) (fun _=>rfl) _ _
 ·rfl
theorem Abo (l:List Cell) (d:Dot):(Jl l d).length=l.length:=by
 have:=congrArg List.length (Xf l d)
 simpa using this
theorem Afg {s:State} {a:Act} (h:OkS s) (ha:Eb a=true) (hn:Ax s.know a.dot=false) (hk:Gn a.knew s.know=true) (hr:Ui s a=true) (ht:Gs (Lz s a)=false):OkS (Lz s a):=by
 simp only[Eb,Zaa] at ha
 obtain⟨hh,hpl,hrf⟩:=ha
 have F:=Ai5 h.kn hh hn hk
 simp only[Bo,Zaa,Ck] at hpl
 obtain⟨hkd,hob,hky,hvl⟩:=hpl
 simp only[Gs,Bool.or_eq_false_iff,decide_eq_false_iff_not,Nat.not_lt] at ht
 obtain⟨ht1,ht2,ht3⟩:=ht
 have hd:=F.dot
 simp only[G7,Zaa] at hd
 have htime:inB a.time 1 10000=true:=by
  simp only[Dk,Zaa] at hh;exact hh.2.2.2
 have L1:∀ x∈s.lives,Ax (s.know.set a.dot.rep.toNat a.dot.seq) x.dot=true/\liv1 x=true:=fun x hx=>⟨F.mono _ (h.l1 x hx).1,(h.l1 x hx).2⟩
 have C1:∀ x∈s.cells,Ax (s.know.set a.dot.rep.toNat a.dot.seq) x.dot=true/\cel1 x=true:=fun x hx=>⟨F.mono _ (h.c1 x hx).1,(h.c1 x hx).2⟩
 have hval:N7 a.kind=true->0<=a.val/\a.val<=999999:=fun hv=>by
  simp only[Lp,Zbb,Zaa,beq_iff_eq,Ck] at hvl
  rcases hvl with h|h
  ·omega
  ·exact h.2
 have hkeyed:Vu a.kind=true->Ct a.key=true:=fun hk=>by rw[if_pos hk] at hky;exact hky
 revert ht1 ht2 ht3
 unfold Lz Gp
 repeat' split
 all_goals intro ht1 ht2 ht3
 ·rename_i hkind
  have T:=Ady (obj:=a.obj) (rep:=a.dot.rep) (val:=a.val) h.tl h.t1 hob hd.1 (hval (by rw[hkind];rfl))
  exact {kn:=F.kn,tl:=T.1,t1:=T.2,tn:=ht1,ll:=h.ll,l1:=L1,ln:=h.ln,cl:=h.cl,c1:=C1,cn:=h.cn,rf:=h.rf}
 ·rename_i _ hkind
  have T:=A12 (x:=⟨false,a.obj,a.key,0,a.dot⟩) h.ll h.l1 F.mono F.new ⟨F.self,by simp only[liv1,Zaa];exact⟨hob,hkeyed (by rw[hkind];rfl),by decide,by simp⟩⟩
  exact {kn:=F.kn,tl:=h.tl,t1:=h.t1,tn:=h.tn,ll:=T.1,l1:=T.2,ln:=ht2,cl:=h.cl,c1:=C1,cn:=h.cn,rf:=h.rf}
 ·exact {kn:=F.kn,tl:=h.tl,t1:=h.t1,tn:=h.tn,ll:=h.ll.filter _,l1:=fun x hx=>L1 x (Zb6.1 hx).1,ln:=ht2,cl:=h.cl,c1:=C1,cn:=h.cn,rf:=h.rf}
 ·rename_i _ _ _ hkind
  have T:=A12 (l:=s.lives.filter (Uh true a.obj a.key a.knew)) (x:=⟨true,a.obj,a.key,a.val,a.dot⟩) (h.ll.filter _) (fun y hy=>h.l1 y (Zb6.1 hy).1) F.mono F.new ⟨F.self,by simp only[liv1,Zaa];exact⟨hob,hkeyed (by rw[hkind];rfl),Ck.2 (hval (by rw[hkind];rfl)),by simp⟩⟩
  exact {kn:=F.kn,tl:=h.tl,t1:=h.t1,tn:=h.tn,ll:=T.1,l1:=T.2,ln:=ht2,cl:=h.cl,c1:=C1,cn:=h.cn,rf:=h.rf}
 ·exact {kn:=F.kn,tl:=h.tl,t1:=h.t1,tn:=h.tn,ll:=h.ll.filter _,l1:=fun x hx=>L1 x (Zb6.1 hx).1,ln:=ht2,cl:=h.cl,c1:=C1,cn:=h.cn,rf:=h.rf}
 ·rename_i _ _ _ _ _ hkind
  have T:=Abm (x:=⟨a.obj,a.dot,a.time,a.ref,a.val,false⟩) h.cl h.c1 F.mono F.new ⟨F.self,by simp only[cel1,Zaa];exact⟨hob,Ck.2 (hval (by rw[hkind];rfl)),htime⟩⟩
  refine {kn:=F.kn,tl:=h.tl,t1:=h.t1,tn:=h.tn,ll:=h.ll,l1:=L1,ln:=h.ln,cl:=T.1,c1:=T.2,cn:=ht3,rf:=fun c hc=> ?_}
  rcases Kn.1 hc with rfl|hc
  ·by_cases hz:a.ref=d0
   ·exact .inl hz
   ·right
    unfold Ui at hr
    rw[if_pos (.inr ⟨hkind,hz⟩)] at hr
    split at hr
    ·rename_i k hkx
     obtain⟨hkl,e⟩:=C5 hkx
     rw[Bn hkl] at hr
     simp only[Zaa,Zbb,decide_eq_true_eq] at hr
     exact⟨s.cells[k],Kn.2 (.inr (Zak hkl)),e,hr.1,hr.2.resolve_left (by omega)⟩
    ·cases hr
  ·rcases h.rf c hc with hz|⟨y,hy,e⟩
   ·exact .inl hz
   ·exact .inr ⟨y,Kn.2 (.inr hy),e⟩
 ·have hdots:(Jl s.cells a.ref).Pairwise fun a b=>Bj a.dot b.dot=true:=by
   have h2:(s.cells.map (·.dot)).Pairwise fun a b=>Bj a b=true:=Zbh.2 h.cl
   rw[<- Xf s.cells a.ref] at h2
   exact Zbh.1 h2
  refine {kn:=F.kn,tl:=h.tl,t1:=h.t1,tn:=h.tn,ll:=h.ll,l1:=L1,ln:=h.ln,cl:=hdots,c1:=fun x hx=> ?_,cn:=by rw[Abo];exact h.cn,rf:=fun c hc=> ?_}
  ·obtain⟨y,hy,e⟩:=A13 hx
   rcases e with rfl|rfl
   ·exact C1 x hy
   ·exact C1 y hy
  ·obtain⟨y,hy,e⟩:=A13 hc
   have key:∀ r,(r=d0∨∃ z∈s.cells,z.dot=r/\z.obj=y.obj/\z.time<y.time)->r=d0∨∃ z∈Jl s.cells a.ref,z.dot=r/\z.obj=y.obj/\z.time<y.time:=fun r hr=>hr.imp id fun⟨z,hz,q1,q2,q3⟩=>by
    obtain⟨x,hx,e⟩:=Abn (d:=a.ref) hz
    rcases e with rfl|rfl
    ·exact⟨x,hx,q1,q2,q3⟩
    ·exact⟨_,hx,q1,q2,q3⟩
   have:=key _ (h.rf y hy)
   rcases e with rfl|rfl
   ·exact this
   ·exact this
theorem Aak {s:State} (a:Act) (h:OkS s):OkS (Do s a).1:=by
 unfold Do
 split
 ·exact h
 ·rename_i h1
  have h1:Au s=true/\Eb a=true:=by simpa using h1
  split
  ·exact h
  ·rename_i h2
   split
   ·exact h
   ·rename_i h3
    split
    ·exact h
    ·rename_i h4
     split
     ·exact h
     ·rename_i h5
      exact Afg h h1.2 (by simpa using h2) (by simpa using h3) (by simpa using h4) (by simpa using h5)
theorem Ep {s:ByteArray} (h:Ct s=true):s.size<=8:=by
 simp only[Ct,Zaa,Ck] at h
 omega
theorem Ko {α:Type} {f:α->Nat} {l:List α} {n:Nat} (h:∀ x∈l,f x<=n):sumL f l<=l.length*n:=by
 induction l with
 |nil=>simp[sumL]
 |cons x l ih=>
  have h1:=h x Zae
  have h2:=ih fun y hy=>h y (Zab _ hy)
  have:sumL f (x::l)=f x+sumL f l:=by simp[sumL]
  rw[this,Za5,Zbt];omega
theorem OkS.ms {s:State} (h:OkS s):Aa s<=5000:=by
 have k:=Cw h.kn
 have a1:=Ko (f:=Bv) (l:=s.tallies) (n:=8) fun t ht=>by
  have:=h.t1 t ht
  simp only[tal1,Zaa] at this
  exact Ep this.1
 have a2:=Ko (f:=F0) (l:=s.lives) (n:=16) fun t ht=>by
  have:=(h.l1 t ht).2
  simp only[liv1,Zaa] at this
  have h1:=Ep this.1
  have h2:=Ep this.2.1
  unfold F0;omega
 have a3:=Ko (f:=F1) (l:=s.cells) (n:=8) fun t ht=>by
  have:=(h.c1 t ht).2
  simp only[cel1,Zaa] at this
  exact Ep this.1
 have:=h.tn
 have:=h.ln
 have:=h.cn
 unfold Aa
 omega
theorem OkS.time {s:State} (h:OkS s):∀ c∈s.cells,1≤c.time/\c.time<=10000:=fun c hc=>by
 have:=(h.c1 c hc).2
 simp only[cel1,Zaa,Ck] at this
 exact this.2.2
theorem Xg:OkS ⟨[0,0,0],[],[],[]⟩:={kn:=by decide,tl:=.nil,t1:=fun _ h=>(by cases h),tn:=by decide,ll:=.nil,l1:=fun _ h=>(by cases h),ln:=by decide,cl:=.nil,c1:=fun _ h=>(by cases h),cn:=by decide,rf:=fun _ h=>(by cases h)}
end Go.Proofs.YtbeoiejnogdkpaaGreat.Sy
