/- Texts of this proof, one behind the other. -/
import Derived.Test.YtbeoiejnogdkpaaGreatBPWhose2
import Derived.Test.YtbeoiejnogdkpaaGreatProg
import Derived.KernelRfl
set_option linter.unusedSimpArgs false
set_option linter.unusedVariables false
set_option maxRecDepth 4000
set_option maxHeartbeats 4000000
open Bool renaming and_eq_true→Zaa,not_false→Zal,false_and→Zav,or_eq_true→Za4,not_true→Zbd,and_true→Zbk,true_bne→Zbl,true_or→Zbp,false_xor→Zbu,false_bne→Zbv,and_false→Zbw,false_or→Zbx,true_and→Zb5
open List renaming cons_append→Zab,mem_cons_of_mem→Zad,nil_append→Zae,mem_cons_self→Zaf,set_cons_zero→Zag,set_cons_succ→Zah,mem_cons→Zai,getElem_of_mem→Zaj,mem_append_right→Zak,nodup_append→Zam,flatten_cons→Zan,getElem_mem→Zao,length_append→Zap,modify_succ_cons→Zaq,getElem?_eq_some_iff→Zar,take_succ_eq_append_getElem→Zas,mem_append_left→Zat,nodup_cons→Zau,take_of_length_le→Zaw,length_nil→Zax,findIdx?_eq_none_iff→Zaz,pairwise_iff_getElem→Za0,length_cons→Za1,prefix_refl→Za2,filterMap_cons→Za3,prefix_append→Za5,pairwise_map→Za7,getElem?_map→Za8,take_length→Zba,all_eq_true→Zbb,mem_flatten→Zbc,getD_eq_getElem?_getD→Zbe,filter_append→Zbf,pairwise_cons→Zbg,mem_or_eq_of_mem_set→Zbh,replicate→Zbi,getElem?_eq_getElem→Zbj,map_cons→Zbm,eraseIdx_cons_succ→Zbn,drop_eq_nil_of_le→Zbo,length_filter_le→Zbq,mem_filter→Zbr,mem_append→Zbs,mem_of_getElem?→Zbt,filter_cons→Zbz,append_nil→Zb0,map_append→Zb1,take_zero→Zb2,drop_zero→Zb3
open Option renaming bind_some→Zac,map_some→Za6
open Nat renaming le_trans→Zay,le_refl→Za9,eq_zero_or_pos→Zby
open Int renaming ofNat_zero→Zb4
namespace Go.Proofs.YtbeoiejnogdkpaaGreat.Sy
open Go Go.RowKit
abbrev Ud:Nat:=320
def Ue:Fn1:=⟨45,[.t 4],(rg [oX 3 1,o 4 (.mov (.k .nilS))] (rg [o 8 (.lit 6 0 [] []),oM 5 8] (rg [oV 6 kf] (.seq (rg [oV 7 (ki 0)] (.blk 0 (.lop (.seq (rg [oM 9 7,oM 10 0,oN 11 10,oB 12 .lss 9 11] (cn 12 .skip (.ext 0))) (.seq (.blk 1 (.seq (dw [oM 15 6,oU 16 15,oM 17 16,jF 18 17 4 3,jW 19 17 2 18,jM 20 17 0,jM 21 17 7,jI 22 17 6 20 21,jF 23 17 4 22,jW 24 17 2 23] [jD 25 17 362 19 24,oQ 26 17 25] (cn 26 (rg [oM 27 5,oW 28 6 3,o 29 (.lit 6 1 [(.bool false),s0,s0,z0,z0,z0] [(0,6,(.t 28))]),o 30 (.app 6 64 [(.bool false),s0,s0,z0,z0,z0] (.t 27) (.t 29)),oM 5 30] (.reg [oV 6 kt])) .skip)) (.reg [oM 31 5,oM 32 0,oM 33 7,oI 34 6 32 33,oW 35 6 34,o 36 (.lit 6 1 [(.bool false),s0,s0,z0,z0,z0] [(0,6,(.t 35))]),o 37 (.app 6 64 [(.bool false),s0,s0,z0,z0,z0] (.t 31) (.t 36)),oM 5 37]))) (.reg [oM 13 7,oZ 14 13 1,oM 7 14])))))) (.seq (rg [oM 38 6,oU 39 38] (cn 39 (.reg [oM 40 5,oW 41 6 3,o 42 (.lit 6 1 [(.bool false),s0,s0,z0,z0,z0] [(0,6,(.t 41))]),o 43 (.app 6 64 [(.bool false),s0,s0,z0,z0,z0] (.t 40) (.t 42)),oM 5 43]) .skip)) (rg [oM 44 5,oM 4 44] .ret))))))⟩
theorem A24:A6 Tryz.prog Ud=some Ue:=by kernel_rfl
abbrev Uf:Nat:=322
def Ug:Fn1:=⟨45,[.t 4],(rg [oX 3 1,o 4 (.mov (.k .nilS))] (rg [o 8 (.lit 8 0 [] []),oM 5 8] (rg [oV 6 kf] (.seq (rg [oV 7 (ki 0)] (.blk 0 (.lop (.seq (rg [oM 9 7,oM 10 0,oN 11 10,oB 12 .lss 9 11] (cn 12 .skip (.ext 0))) (.seq (.blk 1 (.seq (dw [oM 15 6,oU 16 15,oM 17 16,jF 18 17 1 3,jW 19 17 2 18,jM 20 17 0,jM 21 17 7,jI 22 17 8 20 21,jF 23 17 1 22,jW 24 17 2 23] [jD 25 17 362 19 24,oQ 26 17 25] (cn 26 (rg [oM 27 5,oW 28 8 3,o 29 (.lit 8 1 [s0,z0,z0,z0,z0,z0,z0,(.bool false)] [(0,8,(.t 28))]),o 30 (.app 8 72 [s0,z0,z0,z0,z0,z0,z0,(.bool false)] (.t 27) (.t 29)),oM 5 30] (.reg [oV 6 kt])) .skip)) (.reg [oM 31 5,oM 32 0,oM 33 7,oI 34 8 32 33,oW 35 8 34,o 36 (.lit 8 1 [s0,z0,z0,z0,z0,z0,z0,(.bool false)] [(0,8,(.t 35))]),o 37 (.app 8 72 [s0,z0,z0,z0,z0,z0,z0,(.bool false)] (.t 31) (.t 36)),oM 5 37]))) (.reg [oM 13 7,oZ 14 13 1,oM 7 14])))))) (.seq (rg [oM 38 6,oU 39 38] (cn 39 (.reg [oM 40 5,oW 41 8 3,o 42 (.lit 8 1 [s0,z0,z0,z0,z0,z0,z0,(.bool false)] [(0,8,(.t 41))]),o 43 (.app 8 72 [s0,z0,z0,z0,z0,z0,z0,(.bool false)] (.t 40) (.t 42)),oM 5 43]) .skip)) (rg [oM 44 5,oM 4 44] .ret))))))⟩
theorem A25:A6 Tryz.prog Uf=some Ug:=by kernel_rfl
abbrev Y0:Nat:=248
def G3:Fn1:=⟨53,[.t 4],(rg [oX 2 0,oX 3 1,oV 4 kf] (.seq (rg [oF 6 4 3,oL 7 6,oE 8 .neq 7 7,oM 9 8,jF 10 9 4 3,jL 11 9 10,jE 12 9 .neq 11 6,jM 13 9 12,vF 14 13 8 3,vW 15 13 2 14,og 16 13 false (.build [z0,z0] []),og 17 13 false (.eqs false [.i .i64,.i .i64] (.t 15) (.t 16)),og 18 9 true (.pick (.t 13) kt (.t 17)),oQ 19 9 18] (cn 19 (rg [oV 4 kt] .ret) .skip)) (rg [oW 20 4 2,oF 21 8 3,oW 22 2 21,oD 23 146 20 22,oM 5 23] (dw [oM 24 5,oE 25 .geq 24 0,oM 26 25,jF 27 26 3 2,jL 28 26 27,jM 29 26 5,jI 30 26 8 28 29,jF 31 26 0 30,jL 32 26 31,jF 33 26 5 3,jL 34 26 33,jB 35 26 .eql 32 34,oQ 36 26 35,oM 37 36,jF 38 37 4 3,jL 39 37 38,jE 40 37 .eql 39 7,jM 41 37 40,vF 42 41 3 2,vL 43 41 42,vM 44 41 5,vI 45 41 8 43 44,vF 46 41 3 45,vL 47 41 46,vF 48 41 2 3,vL 49 41 48] [vB 50 41 .lss 47 49,og 51 37 true (.pick (.t 41) kt (.t 50)),oQ 52 37 51,oM 4 52] .ret))))⟩
theorem A57:A6 Tryz.prog Y0=some G3:=by kernel_rfl
theorem Oe (σ:St) (v:GV) (l:List Live) (h:RS Cl.kd σ v l) (x:Live) (hl:l.length<=1099511627776):∃ r τ,Ret Tryz.prog Ud [v,.agg (A7n x)] σ r τ/\Hp σ τ [ow Cl.kd r (Je x l)]:=by
 refine E8 A24 (Z0z rfl) ?_
 have H:=((Hp.refl σ).new 1 (A7n x)).nil_Live
 simp +contextual (disch:=omega) only[go_sem,Ue]
 generalize hn1:σ.length=n1 at*
 refine Jg l.length 7 0 (fun i env τ=>env 0=v/\env 3= .ptr n1 0/\∃(u:GV) (put:Bool) (nxt:List Live),env 5=u/\env 6= .bool put/\insG E7 x l nxt i put/\Hp σ τ [ow Cl.kd u nxt,pt 1 n1 (A7n x)]) (fun env τ=>env 3= .ptr n1 0/\∃(u:GV) (put:Bool) (nxt:List Live),env 5=u/\env 6= .bool put/\insG E7 x l nxt l.length put/\Hp σ τ [ow Cl.kd u nxt,pt 1 n1 (A7n x)]) rfl ⟨rfl,rfl,_,false,[],rfl,rfl,O6,H⟩ ?_ ?_ ?_
 ·clear H
  rintro J Y hJ hY i env τ hi e7 c0 ⟨e0,e3,u,put,nxt,e5,e6,hok,H⟩
  have hnl:=Cu hok
  have hln:=(h.pre H.sub).len
  have C1:=A5 (h.pre H.sub) hi
  cases put with
  |true=>
   obtain⟨w',τ3,e8,H3⟩:=H.app_Live 0 rfl l[i] (by omega)
   simp +contextual (disch:=omega) only[go_sem,c0,e0,e3,e5,e6,e7,hln,C1,e8]
   refine hJ _ _ _ ⟨?_,?_,w',true,_,?_,?_,Do hok hi (.inl rfl),H3⟩
   all_goals simp +contextual (disch:=omega) only[go_sem,e0,e3,e6]
  |false=>
   simp +contextual (disch:=omega) only[go_sem,c0,e0,e3,e5,e6,e7,hln,C1,A7 (H.pt 1 rfl)]
   refine Ad (Ca _ _ _) ?_
   cases hq:Bh x.dot l[i].dot with
   |false=>
    have hq2:E7 x l[i]=false:=hq
    obtain⟨w',τ3,e8,H3⟩:=H.app_Live 0 rfl l[i] (by omega)
    simp +contextual (disch:=omega) only[go_sem,c0,e0,e3,e5,e6,e7,hln,C1,e8]
    refine hJ _ _ _ ⟨?_,?_,w',false,_,?_,?_,Do hok hi (.inr hq2),H3⟩
    all_goals simp +contextual (disch:=omega) only[go_sem,e0,e3,e6]
   |true=>
    have hq2:E7 x l[i]=true:=hq
    obtain⟨w',τ3,e8,H3⟩:=H.app_Live 0 rfl x (by omega)
    have H3:Hp σ τ3 [ow Cl.kd w' (nxt++[x]),pt 1 n1 (A7n x)]:=H3
    have hp:=Lv hok hi hq2
    have hnl2:=Cu hp
    simp only[Zap,Za1,Zax] at hnl2
    have C2:=A5 (h.pre H3.sub) hi
    obtain⟨w2,τ4,e9,H4⟩:=H3.app_Live 0 rfl l[i] (by simp;omega)
    simp +contextual (disch:=omega) only[go_sem,c0,e0,e3,e5,e6,e7,hln,C1,A7 (H.pt 1 rfl),e8,C2,e9]
    refine hJ _ _ _ ⟨?_,?_,w2,true,_,?_,?_,hp,H4⟩
    all_goals simp +contextual (disch:=omega) only[go_sem,e0,e3,e6]
 ·clear H
  rintro Y hY env τ e7 c0 ⟨e0,e3,u,put,nxt,e5,e6,hok,H⟩
  have hln:=(h.pre H.sub).len
  simp +contextual (disch:=omega) only[go_sem,c0,e0,e3,e5,e6,e7,hln]
  refine hY _ _ ⟨?_,u,put,nxt,?_,?_,hok,H⟩
  all_goals simp +contextual (disch:=omega) only[go_sem,e3,e5,e6]
 ·clear H
  rintro env τ ⟨e3,u,put,nxt,e5,e6,hok,H⟩
  have hnl:=Cu hok
  have hend:=O7 hok
  cases put with
  |true=>
   simp +contextual (disch:=omega) only[go_sem,e3,e5,e6]
   refine⟨_,rfl,?_⟩
   rw[Je,<-hend]
   exact H.one
  |false=>
   obtain⟨w',τ3,e8,H3⟩:=H.app_Live 0 rfl x (by omega)
   simp +contextual (disch:=omega) only[go_sem,e3,e5,e6,A7 (H.pt 1 rfl),e8]
   refine⟨_,rfl,?_⟩
   rw[Je,<-hend]
   exact H3.one
theorem Zj (σ:St) (v:GV) (l:List Cell) (h:RS Aj.kd σ v l) (x:Cell) (hl:l.length<=1099511627776):∃ r τ,Ret Tryz.prog Uf [v,.agg (Ps x)] σ r τ/\Hp σ τ [ow Aj.kd r (Mt x l)]:=by
 refine E8 A25 (Z0z rfl) ?_
 have H:=((Hp.refl σ).new 1 (Ps x)).nil_Cell
 simp +contextual (disch:=omega) only[go_sem,Ug]
 generalize hn1:σ.length=n1 at*
 refine Jg l.length 7 0 (fun i env τ=>env 0=v/\env 3= .ptr n1 0/\∃(u:GV) (put:Bool) (nxt:List Cell),env 5=u/\env 6= .bool put/\insG F5 x l nxt i put/\Hp σ τ [ow Aj.kd u nxt,pt 1 n1 (Ps x)]) (fun env τ=>env 3= .ptr n1 0/\∃(u:GV) (put:Bool) (nxt:List Cell),env 5=u/\env 6= .bool put/\insG F5 x l nxt l.length put/\Hp σ τ [ow Aj.kd u nxt,pt 1 n1 (Ps x)]) rfl ⟨rfl,rfl,_,false,[],rfl,rfl,O6,H⟩ ?_ ?_ ?_
 ·clear H
  rintro J Y hJ hY i env τ hi e7 c0 ⟨e0,e3,u,put,nxt,e5,e6,hok,H⟩
  have hnl:=Cu hok
  have hln:=(h.pre H.sub).len
  have C1:=A4 (h.pre H.sub) hi
  cases put with
  |true=>
   obtain⟨w',τ3,e8,H3⟩:=H.app_Cell 0 rfl l[i] (by omega)
   simp +contextual (disch:=omega) only[go_sem,c0,e0,e3,e5,e6,e7,hln,C1,e8]
   refine hJ _ _ _ ⟨?_,?_,w',true,_,?_,?_,Do hok hi (.inl rfl),H3⟩
   all_goals simp +contextual (disch:=omega) only[go_sem,e0,e3,e6]
  |false=>
   simp +contextual (disch:=omega) only[go_sem,c0,e0,e3,e5,e6,e7,hln,C1,A7 (H.pt 1 rfl)]
   refine Ad (Ca _ _ _) ?_
   cases hq:Bh x.dot l[i].dot with
   |false=>
    have hq2:F5 x l[i]=false:=hq
    obtain⟨w',τ3,e8,H3⟩:=H.app_Cell 0 rfl l[i] (by omega)
    simp +contextual (disch:=omega) only[go_sem,c0,e0,e3,e5,e6,e7,hln,C1,e8]
    refine hJ _ _ _ ⟨?_,?_,w',false,_,?_,?_,Do hok hi (.inr hq2),H3⟩
    all_goals simp +contextual (disch:=omega) only[go_sem,e0,e3,e6]
   |true=>
    have hq2:F5 x l[i]=true:=hq
    obtain⟨w',τ3,e8,H3⟩:=H.app_Cell 0 rfl x (by omega)
    have H3:Hp σ τ3 [ow Aj.kd w' (nxt++[x]),pt 1 n1 (Ps x)]:=H3
    have hp:=Lv hok hi hq2
    have hnl2:=Cu hp
    simp only[Zap,Za1,Zax] at hnl2
    have C2:=A4 (h.pre H3.sub) hi
    obtain⟨w2,τ4,e9,H4⟩:=H3.app_Cell 0 rfl l[i] (by simp;omega)
    simp +contextual (disch:=omega) only[go_sem,c0,e0,e3,e5,e6,e7,hln,C1,A7 (H.pt 1 rfl),e8,C2,e9]
    refine hJ _ _ _ ⟨?_,?_,w2,true,_,?_,?_,hp,H4⟩
    all_goals simp +contextual (disch:=omega) only[go_sem,e0,e3,e6]
 ·clear H
  rintro Y hY env τ e7 c0 ⟨e0,e3,u,put,nxt,e5,e6,hok,H⟩
  have hln:=(h.pre H.sub).len
  simp +contextual (disch:=omega) only[go_sem,c0,e0,e3,e5,e6,e7,hln]
  refine hY _ _ ⟨?_,u,put,nxt,?_,?_,hok,H⟩
  all_goals simp +contextual (disch:=omega) only[go_sem,e3,e5,e6]
 ·clear H
  rintro env τ ⟨e3,u,put,nxt,e5,e6,hok,H⟩
  have hnl:=Cu hok
  have hend:=O7 hok
  cases put with
  |true=>
   simp +contextual (disch:=omega) only[go_sem,e3,e5,e6]
   refine⟨_,rfl,?_⟩
   rw[Mt,<-hend]
   exact H.one
  |false=>
   obtain⟨w',τ3,e8,H3⟩:=H.app_Cell 0 rfl x (by omega)
   simp +contextual (disch:=omega) only[go_sem,e3,e5,e6,A7 (H.pt 1 rfl),e8]
   refine⟨_,rfl,?_⟩
   rw[Mt,<-hend]
   exact H3.one
theorem A26 (σ:St) (cs:List GV) (s:State) (hR:A8.R σ s cs) (as':List GV) (a:Act) (hS:kAct.R σ a as') (hl:Ah s<=1099511627776):Ret Tryz.prog Y0 [.agg cs,.agg as'] σ (.bool (Pn s a)) σ:=by
 have hR0:=hR
 have hlc:cs.length=4:=A8.len hR
 obtain⟨a1,b1,c1,v1,rfl,_,_,_,hc⟩:=hR
 obtain⟨kv,rfl,hk⟩:=hS
 obtain⟨l1,l2,l3,l4,_⟩:=Ao hl
 refine Am A57 (Z0z rfl) trivial ?_
 have H:=((Hp.refl σ).new 1 [a1,b1,c1,v1]).new 1 [.int .i64 a.dot.rep,.int .i64 a.dot.seq,.int .i64 a.time,kv,.int .i64 a.kind,.str a.obj,.str a.key,.int .i64 a.val,.int .i64 a.ref.rep,.int .i64 a.ref.seq]
 have z1:=A7 (a:=false) (n:=1) (off:=4) (H.pt 0 rfl)
 by_cases hin:a.kind=7∨(a.kind=6/\a.ref≠d0)
 ·have CA:=Qu _ _ s (A8.pre hR0 H.sub) a.ref hl
  cases hx:Dw s.cells a.ref with
  |none=>
   have hE:Pn s a=false:=by simp[Pn,hin,hx]
   have hno:Eq s.cells a.ref= -1:=by simp[Eq,hx]
   rw[hno] at CA
   have cm:decide ((0:Int)<= -1)=false:=rfl
   by_cases h7:a.kind=7
   ·have c7:(a.kind != 7)=false:=by simp[h7]
    simp +contextual (disch:=omega) only[go_sem,G3,c7]
    refine Ad CA ?_
    simp +contextual (disch:=omega) only[go_sem,cm,hE,H.sub]
   ·have h6:a.kind=6/\a.ref≠d0:=hin.resolve_left h7
    have c7:(a.kind != 7)=true:=by simp[h7]
    have c6:(a.kind != 6)=false:=by simp[h6.1]
    have cr:decide (a.ref=⟨0,0⟩)=false:=decide_eq_false h6.2
    simp +contextual (disch:=omega) only[go_sem,G3,c7,c6,cr,Zbu,Zbv]
    refine Ad CA ?_
    simp +contextual (disch:=omega) only[go_sem,cm,hE,H.sub]
  |some k=>
   obtain⟨hk,hk2⟩:=Cp hx
   have hE:Pn s a=(decide (s.cells[k].obj=a.obj)&&(decide (a.kind=7)||decide (s.cells[k].time<a.time))):=by simp[Pn,hin,hx,Bl hk]
   have hno:Eq s.cells a.ref=k:=by simp[Eq,hx]
   rw[hno] at CA
   have cm:decide ((0:Int)<=(k:Int))=true:=by simp
   have C2:=A4 (hc.pre H.sub) hk
   by_cases h7:a.kind=7
   ·have c7:(a.kind != 7)=false:=by simp[h7]
    have d7:(a.kind==7)=true:=by simp[h7]
    rw[decide_eq_true h7,Zbp,Zbk] at hE
    simp +contextual (disch:=omega) only[go_sem,G3,c7]
    refine Ad CA ?_
    cases ho:decide (s.cells[k].obj=a.obj) with
    |true=>simp +contextual (disch:=omega) only[go_sem,cm,A3,C2,ho,d7,hE,H.sub]
    |false=>simp +contextual (disch:=omega) only[go_sem,cm,A3,C2,ho,hE,H.sub]
   ·have h6:a.kind=6/\a.ref≠d0:=hin.resolve_left h7
    have c7:(a.kind != 7)=true:=by simp[h7]
    have d7:(a.kind==7)=false:=by simp[h7]
    have c6:(a.kind != 6)=false:=by simp[h6.1]
    have cr:decide (a.ref=⟨0,0⟩)=false:=decide_eq_false h6.2
    rw[decide_eq_false h7,Zbx] at hE
    simp +contextual (disch:=omega) only[go_sem,G3,c7,c6,cr,Zbu,Zbv]
    refine Ad CA ?_
    cases ho:decide (s.cells[k].obj=a.obj) with
    |true=>simp +contextual (disch:=omega) only[go_sem,cm,A3,C2,ho,d7,hE,H.sub,Zb5]
    |false=>simp +contextual (disch:=omega) only[go_sem,cm,A3,C2,ho,hE,H.sub,Zav]
 ·have hE:Pn s a=true:=by unfold Pn;rw[if_neg hin]
  have h7:¬ a.kind=7:=fun h=>hin (.inl h)
  have c7:(a.kind != 7)=true:=by simp[h7]
  by_cases h6:a.kind=6
  ·have hr:a.ref=d0:=by
    by_cases h:a.ref=d0
    ·exact h
    ·exact absurd (.inr ⟨h6,h⟩) hin
   have c6:(a.kind != 6)=false:=by simp[h6]
   have cr:decide (a.ref=⟨0,0⟩)=true:=decide_eq_true hr
   simp +contextual (disch:=omega) only[go_sem,G3,c7,c6,cr,Zbu,Zbv,hE,H.sub]
  ·have c6:(a.kind != 6)=true:=by simp[h6]
   simp +contextual (disch:=omega) only[go_sem,G3,c7,c6,hE,H.sub]
theorem Hp.moveTo {σ τ:St} {r r':Thg} {rs:List Thg} (H:Hp σ τ (r::rs)) (k:Nat) (hk:rs[k]? =some r'):Hp σ τ (rs.set k r):=by
 have hkl:=(Zar.1 hk).1
 have h1:=(H.pick (k+1) hk).drop1
 exact Hp.unpick h1 hkl
theorem A58 {P:Program} {a:Cd} {Q:Ex->Env->St->Prop} {env:Env} {σ:St} (n ri j0:Nat) (I:Nat->Env->St->Prop) (X Z:Env->St->Prop) (hr:env ri=gi 0) (h0:I 0 env σ)
  (hs:∀(J:Nat->Env->St->Prop) (Y W:Env->St->Prop),(∀ i env σ,I i env σ->J i env σ)->(∀ env σ,X env σ->Y env σ)->(∀ env σ,Z env σ->W env σ)->∀ i env σ,i<n->env ri=gi i->decide ((i:Int)<n)=true->I i env σ->vc P a (fun e env' σ'=>match e with| .nxt=>env' ri=gi ((i:Int)+1)/\J (i+1) env' σ'| .ext j=>j=j0/\Y env' σ'| .ret=>W env' σ') env σ)
  (he:∀(Y:Env->St->Prop),(∀ env σ,X env σ->Y env σ)->∀ env σ,env ri=gi n->decide ((n:Int)<n)=false->I n env σ->vc P a (fun e env' σ'=>match e with| .nxt=>False| .ext j=>j=j0/\Y env' σ'| .ret=>False) env σ)
  (hx:∀ env σ,X env σ->Q (.ext j0) env σ) (hz:∀ env σ,Z env σ->Q .ret env σ):vc P (.lop a) Q env σ:=by
 refine Cr n ri I hr h0 (fun i env σ h1 h2 h3 h4=>Aq (hs I X Z (fun _ _ _ h=>h) (fun _ _ h=>h) (fun _ _ h=>h) i env σ h1 h2 h3 h4) fun e env' σ' hq=> ?_) (fun env σ h1 h2 h3=>Aq (he X (fun _ _ h=>h) env σ h1 h2 h3) fun e env' σ' hq=> ?_)
 ·cases e with
  |nxt=>exact hq
  |ret=>exact hz _ _ hq
  |ext j=>obtain⟨rfl,hq⟩:=hq;exact hx _ _ hq
 ·cases e with
  |nxt=>exact hq
  |ret=>exact hq.elim
  |ext j=>obtain⟨rfl,hq⟩:=hq;exact hx _ _ hq
abbrev L5:Nat:=321
def Rk:Fn1:=⟨61,[],(rg [o 13 (.lit 6 0 [] []),oM 10 13] (.seq (rg [oV 11 (ki 0)] (.blk 0 (.lop (.seq (rg [oM 14 11,oM 15 0,oK 16 15,oF 17 2 16,oL 18 17,oN 19 18,oB 20 .lss 14 19] (cn 20 .skip (.ext 0))) (.seq (.blk 1 (rg [oM 23 0,oK 24 23,oF 25 2 24,oL 26 25,oM 27 11,oI 28 6 26 27,oW 29 6 28,o 12 (.new [(.bool false),s0,s0,z0,z0,z0]),oS 6 12 29] (rg [oF 30 0 12,oL 31 30,oM 32 1,o 33 (.eqb true (.t 31) (.t 32)),oM 34 33,vF 35 34 1 12,vL 36 34 35,vM 37 34 2,vB 38 34 .neq 36 37,oP 39 34 38,oM 40 39,vF 41 40 2 12,vL 42 40 41,vM 43 40 3,vB 44 40 .neq 42 43,oP 45 40 44,oM 46 45,vM 47 46 4,vF 48 46 4 12,vW 49 46 2 48,vD 50 46 45 47 49,vU 51 46 50,oP 52 46 51] (cn 52 (.reg [oM 53 10,oW 54 6 12,o 55 (.lit 6 1 [(.bool false),s0,s0,z0,z0,z0] [(0,6,(.t 54))]),o 56 (.app 6 64 [(.bool false),s0,s0,z0,z0,z0] (.t 53) (.t 55)),oM 10 56]) .skip)))) (.reg [oM 21 11,oZ 22 21 1,oM 11 22])))))) (.reg [oM 57 0,oM 58 10,oK 59 57,oF 60 2 59,oS 1 60 58])))⟩
theorem Zk:A6 Tryz.prog L5=some Rk:=by kernel_rfl
abbrev L6:Nat:=319
def Rl:Fn1:=⟨113,[],(.seq (rg [oV 8 (ki 0)] (.blk 0 (.lop (.seq (rg [oM 14 8,oM 15 0,oK 16 15,oF 17 1 16,oL 18 17,oN 19 18,oB 20 .lss 14 19] (cn 20 .skip (.ext 0))) (.seq (.blk 1 (rg [oM 23 0,oK 24 23,oF 25 1 24,oL 26 25,oM 27 8,oI 28 3 26 27,oW 29 3 28,o 9 (.new [s0,z0,z0]),oS 3 9 29] (rg [oF 30 0 9,oL 31 30,oM 32 1,oB 33 .eql 31 32,oM 34 33,jF 35 34 1 9,jL 36 34 35,jM 37 34 2,jB 38 34 .eql 36 37,oQ 39 34 38] (cn 39 (dw [oM 40 0,oK 41 40,oF 42 1 41,oL 43 42,oM 44 8,oF 45 2 9,oL 46 45] [oM 47 3,oB 48 .add 46 47,oE 49 .rem 48 1000000,oI 50 3 43 44,oF 51 2 50,oS 1 51 49] .ret) .skip)))) (.reg [oM 21 8,oZ 22 21 1,oM 8 22])))))) (rg [o 52 (.lit 3 0 [] []),oM 10 52] (rg [oV 11 kf] (.seq (rg [oV 12 (ki 0)] (.blk 2 (.lop (.seq (rg [oM 53 12,oM 54 0,oK 55 54,oF 56 1 55,oL 57 56,oN 58 57,oB 59 .lss 53 58] (cn 59 .skip (.ext 2))) (.seq (.blk 3 (rg [oM 62 0,oK 63 62,oF 64 1 63,oL 65 64,oM 66 12,oI 67 3 65 66,oW 68 3 67,o 13 (.new [s0,z0,z0]),oS 3 13 68] (.seq (rg [oM 69 11,oU 70 69,oM 71 70,jF 72 71 0 13,jL 73 71 72,jM 74 71 1,jB 75 71 .gtr 73 74,jM 76 71 75,vF 77 76 0 13,vL 78 76 77,vM 79 76 1,vB 80 76 .eql 78 79,vM 81 76 80,jF 82 81 1 13,jL 83 81 82,jM 84 81 2,jB 85 81 .gtr 83 84,og 86 76 false (.pick (.t 81) (.t 85) kf),og 87 71 true (.pick (.t 76) kt (.t 86)),oQ 88 71 87] (cn 88 (rg [oM 89 10,oM 90 1,oM 91 2,oM 92 3,o 93 (.build [s0,z0,z0] [(0,1,(.t 90)),(1,1,(.t 91)),(2,1,(.t 92))]),o 94 (.lit 3 1 [s0,z0,z0] [(0,3,(.t 93))]),o 95 (.app 3 32 [s0,z0,z0] (.t 89) (.t 94)),oM 10 95] (.reg [oV 11 kt])) .skip)) (.reg [oM 96 10,oW 97 3 13,o 98 (.lit 3 1 [s0,z0,z0] [(0,3,(.t 97))]),o 99 (.app 3 32 [s0,z0,z0] (.t 96) (.t 98)),oM 10 99])))) (.reg [oM 60 12,oZ 61 60 1,oM 12 61])))))) (.seq (rg [oM 100 11,oU 101 100] (cn 101 (.reg [oM 102 10,oM 103 1,oM 104 2,oM 105 3,o 106 (.build [s0,z0,z0] [(0,1,(.t 103)),(1,1,(.t 104)),(2,1,(.t 105))]),o 107 (.lit 3 1 [s0,z0,z0] [(0,3,(.t 106))]),o 108 (.app 3 32 [s0,z0,z0] (.t 102) (.t 107)),oM 10 108]) .skip)) (.reg [oM 109 0,oM 110 10,oK 111 109,oF 112 1 111,oS 1 112 110]))))))⟩
theorem Zl:A6 Tryz.prog L6=some Rl:=by kernel_rfl
def SPtr (σ0 τ:St) (g:Nat) (s:State) (rest:List Thg):Prop:=∃ v0 v1 v2 v3,Hp σ0 τ (ow pI.kd v0 s.know::ow Bi.kd v1 s.tallies::ow Cl.kd v2 s.lives::ow Aj.kd v3 s.cells::pt 1 g [v0,v1,v2,v3]::rest)
theorem Id {σ0 σ:St} {g:Nat} {s:State} {rest:List Thg} (H:SPtr σ0 σ g s rest) (m:Bool) (o k:ByteArray) (kv:GV) (knew:List Int) (hk:RS pI.kd σ0 kv knew) (hl:Ah s<=1099511627776) (hkl:knew.length<=1099511627776):∃ τ,Ret Tryz.prog L5 [.ptr g 0,.bool m,.str o,.str k,kv] σ (.tup []) τ/\SPtr σ0 τ g {s with lives:=s.lives.filter (S9 m o k knew)} rest:=by
 obtain⟨v0,v1,v2,v3,H⟩:=H
 obtain⟨l1,l2,l3,l4,_⟩:=Ao hl
 have key:∃ r τ,Ret Tryz.prog L5 [.ptr g 0,.bool m,.str o,.str k,kv] σ r τ/\r= .tup []/\SPtr σ0 τ g {s with lives:=s.lives.filter (S9 m o k knew)} rest:=by
  refine E8 Zk (Z0z rfl) ?_
  have H:=H.nil_Live
  simp +contextual (disch:=omega) only[go_sem,Rk]
  generalize hp:S9 m o k knew=p
  refine Jg s.lives.length 11 0 (fun i env τ=>env 0= .ptr g 0/\env 1= .bool m/\env 2= .str o/\env 3= .str k/\env 4=kv/\∃ w,env 10=w/\Hp σ0 τ (ow Cl.kd w ((s.lives.take i).filter p)::ow pI.kd v0 s.know::ow Bi.kd v1 s.tallies::ow Cl.kd v2 s.lives::ow Aj.kd v3 s.cells::pt 1 g [v0,v1,v2,v3]::rest)) (fun env τ=>env 0= .ptr g 0/\∃ w,env 10=w/\Hp σ0 τ (ow Cl.kd w (s.lives.filter p)::ow pI.kd v0 s.know::ow Bi.kd v1 s.tallies::ow Cl.kd v2 s.lives::ow Aj.kd v3 s.cells::pt 1 g [v0,v1,v2,v3]::rest)) rfl ⟨rfl,rfl,rfl,rfl,rfl,_,rfl,H⟩ ?_ ?_ ?_
  ·clear H
   rintro J Y hJ hY i env τ hi e11 c0 ⟨e0,e1,e2,e3,e4,w,e10,H⟩
   have hfl:=Cx s.lives p i
   have hsn:=Er (p:=p) hi
   have C1:=A5 (H.sl 3 rfl) hi
   have hln:=(H.sl 3 rfl).len
   have zb:=H.pt 5 rfl
   have G:=H.grow (pre1 τ (some (Blk.row 1 (A7n s.lives[i]))))
   have hkeep:p s.lives[i]=(!(s.lives[i].map==m)||(!decide (s.lives[i].obj=o)||(!decide (s.lives[i].key=k)|| !Ap knew s.lives[i].dot))):=by rw[<- hp];rfl
   obtain⟨w',τ3,e8,H3⟩:=G.app_Live 0 rfl s.lives[i] (by omega)
   have kn:=Co _ kv knew s.lives[i].dot (hk.pre G.sub) hkl
   cases h1:(s.lives[i].map==m) with
   |false=>
    rw[h1] at hkeep
    have hk0:p s.lives[i]=true:=by rw[hkeep];rfl
    rw[hk0,if_pos rfl] at hsn
    simp +contextual (disch:=omega) only[go_sem,c0,e0,e1,e2,e3,e4,e10,e11,A7 zb,hln,C1,h1,Bool.xor_false,Zbl,Zal,e8]
    refine hJ _ _ _ ⟨?_,?_,?_,?_,?_,w',?_,by rw[hsn];exact H3⟩
    all_goals simp +contextual (disch:=omega) only[go_sem,e0,e1,e2,e3,e4,e10]
   |true=>
    cases h2:decide (s.lives[i].obj=o) with
    |false=>
     rw[h1,h2] at hkeep
     have hk0:p s.lives[i]=true:=by rw[hkeep];rfl
     rw[hk0,if_pos rfl] at hsn
     simp +contextual (disch:=omega) only[go_sem,c0,e0,e1,e2,e3,e4,e10,e11,A7 zb,hln,C1,h1,h2,Zbl,Zal,Zbd,e8]
     refine hJ _ _ _ ⟨?_,?_,?_,?_,?_,w',?_,by rw[hsn];exact H3⟩
     all_goals simp +contextual (disch:=omega) only[go_sem,e0,e1,e2,e3,e4,e10]
    |true=>
     cases h3:decide (s.lives[i].key=k) with
     |false=>
      rw[h1,h2,h3] at hkeep
      have hk0:p s.lives[i]=true:=by rw[hkeep];rfl
      rw[hk0,if_pos rfl] at hsn
      simp +contextual (disch:=omega) only[go_sem,c0,e0,e1,e2,e3,e4,e10,e11,A7 zb,hln,C1,h1,h2,h3,Zbl,Zal,Zbd,e8]
      refine hJ _ _ _ ⟨?_,?_,?_,?_,?_,w',?_,by rw[hsn];exact H3⟩
      all_goals simp +contextual (disch:=omega) only[go_sem,e0,e1,e2,e3,e4,e10]
     |true=>
      simp +contextual (disch:=omega) only[go_sem,c0,e0,e1,e2,e3,e4,e10,e11,A7 zb,hln,C1,h1,h2,h3,Zbl,Zal,Zbd]
      refine Ad kn ?_
      cases h4:Ap knew s.lives[i].dot with
      |false=>
       rw[h1,h2,h3,h4] at hkeep
       have hk0:p s.lives[i]=true:=by rw[hkeep];rfl
       rw[hk0,if_pos rfl] at hsn
       simp +contextual (disch:=omega) only[go_sem,e0,e1,e2,e3,e4,e10,e11,C1,h4,e8]
       refine hJ _ _ _ ⟨?_,?_,?_,?_,?_,w',?_,by rw[hsn];exact H3⟩
       all_goals simp +contextual (disch:=omega) only[go_sem,e0,e1,e2,e3,e4,e10]
      |true=>
       rw[h1,h2,h3,h4] at hkeep
       have hk0:p s.lives[i]=false:=by rw[hkeep];rfl
       rw[hk0,if_neg (by simp),Zb0] at hsn
       simp +contextual (disch:=omega) only[go_sem,e0,e1,e2,e3,e4,e10,e11,h4]
       refine hJ _ _ _ ⟨?_,?_,?_,?_,?_,w,?_,by rw[hsn];exact G⟩
       all_goals simp +contextual (disch:=omega) only[go_sem,e0,e1,e2,e3,e4,e10]
  ·clear H
   rintro Y hY env τ e11 c0 ⟨e0,e1,e2,e3,e4,w,e10,H⟩
   rw[Zba] at H
   have hln:=(H.sl 3 rfl).len
   simp +contextual (disch:=omega) only[go_sem,c0,e0,e1,e2,e3,e4,e10,e11,A7 (H.pt 5 rfl),hln]
   refine hY _ _ ⟨?_,w,?_,H⟩
   all_goals simp +contextual (disch:=omega) only[go_sem,e0,e10]
  ·clear H
   rintro env τ ⟨e0,w,e10,H⟩
   have c1:=(H.sl 0 rfl).cell
   obtain⟨τ1,s1,H1,_⟩:=H.st 5 rfl 1 2 w (by rw[c1];rfl) (by decide) (by simp)
   simp +contextual (disch:=omega) only[go_sem,e0,e10,s1]
   refine⟨_,rfl,rfl,v0,v1,w,v3,?_⟩
   simp only[c1,Zag,Zah,Fu,Ft,Gt] at H1
   exact Hp.moveTo H1 2 rfl
 obtain⟨r,τ,R,rfl,h⟩:=key
 exact⟨τ,R,h⟩
theorem Pu {α:Type} (f:α->α):∀ {l:List α} {i:Nat} (hi:i<l.length),l.modify i f=l.set i (f l[i])
 |x::l,0,_=>by simp
 |x::l,i+1,hi=>by
  rw[Zaq,Pu f (by simpa using hi)]
  simp
theorem A7o {l:List Tally} {o:ByteArray} {r:Int} {i:Nat} (hi:i<l.length) (ha:∀ j (hj:j<l.length),j<i->Ms o r l[j]=false) (h:Ms o r l[i]=true):l.findIdx? (Ms o r)=some i:=by
 rw[List.findIdx?_eq_some_iff_getElem]
 exact⟨hi,h,fun j hj=>by rw[ha j (by omega) hj];simp⟩
theorem Wj {σ0 σ:St} {g:Nat} {s:State} {rest:List Thg} (H:SPtr σ0 σ g s rest) (o:ByteArray) (rep val:Int) (hl:Ah s<=1099511627776) (hv: -1000000<=val/\val<=1000000) (hs:∀ t∈s.tallies,-1000000<=t.sum/\t.sum<=1000000):∃ τ,Ret Tryz.prog L6 [.ptr g 0,.str o,gi rep,gi val] σ (.tup []) τ/\SPtr σ0 τ g {s with tallies:=Io s.tallies o rep val} rest:=by
 obtain⟨v0,v1,v2,v3,H⟩:=H
 obtain⟨l1,l2,l3,l4,_⟩:=Ao hl
 have key:∃ r τ,Ret Tryz.prog L6 [.ptr g 0,.str o,gi rep,gi val] σ r τ/\r= .tup []/\SPtr σ0 τ g {s with tallies:=Io s.tallies o rep val} rest:=by
  refine E8 Zl (Z0z rfl) ?_
  simp +contextual (disch:=omega) only[go_sem,Rl]
  refine A58 s.tallies.length 8 0 (fun i env τ=>env 0= .ptr g 0/\env 1= .str o/\env 2=gi rep/\env 3=gi val/\(∀ j (hj:j<s.tallies.length),j<i->Ms o rep s.tallies[j]=false)/\Hp σ0 τ (ow pI.kd v0 s.know::ow Bi.kd v1 s.tallies::ow Cl.kd v2 s.lives::ow Aj.kd v3 s.cells::pt 1 g [v0,v1,v2,v3]::rest)) (fun env τ=>env 0= .ptr g 0/\env 1= .str o/\env 2=gi rep/\env 3=gi val/\s.tallies.findIdx? (Ms o rep)=none/\Hp σ0 τ (ow pI.kd v0 s.know::ow Bi.kd v1 s.tallies::ow Cl.kd v2 s.lives::ow Aj.kd v3 s.cells::pt 1 g [v0,v1,v2,v3]::rest)) (fun env τ=>SPtr σ0 τ g {s with tallies:=Io s.tallies o rep val} rest) rfl ⟨rfl,rfl,rfl,rfl,fun j _ hj=>by omega,H⟩ ?_ ?_ ?_ ?_
  ·clear H
   rintro J Y W hJ hY hW i env τ hi e8 c0 ⟨e0,e1,e2,e3,ha,H⟩
   have C1:=Ac (H.sl 1 rfl) hi
   have hln:=(H.sl 1 rfl).len
   have zb:=H.pt 4 rfl
   have G:=H.grow (pre1 τ (some (Blk.row 1 (A23 s.tallies[i]))))
   have hno:Ms o rep s.tallies[i]=false->∀ j (hj:j<s.tallies.length),j<i+1->Ms o rep s.tallies[j]=false:=fun h j hj hji=>by
    rcases Nat.lt_or_ge j i with h2|h2
    ·exact ha j hj h2
    ·have:j=i:=by omega
     subst this;exact h
   cases h1:decide (s.tallies[i].obj=o) with
   |false=>
    simp +contextual (disch:=omega) only[go_sem,c0,e0,e1,e2,e3,e8,A7 zb,hln,C1,h1]
    refine hJ _ _ _ ⟨?_,?_,?_,?_,hno (by simp[Ms,h1]),G⟩
    all_goals simp +contextual (disch:=omega) only[go_sem,e0,e1,e2,e3]
   |true=>
    have o1:s.tallies[i].obj=o:=by simpa using h1
    cases h2:decide (s.tallies[i].rep=rep) with
    |false=>
     have b2:(s.tallies[i].rep==rep)=false:=h2
     simp +contextual (disch:=omega) only[go_sem,c0,e0,e1,e2,e3,e8,A7 zb,hln,C1,h1,b2]
     refine hJ _ _ _ ⟨?_,?_,?_,?_,hno (by simp[Ms,h2]),G⟩
     all_goals simp +contextual (disch:=omega) only[go_sem,e0,e1,e2,e3]
    |true=>
     have b2:(s.tallies[i].rep==rep)=true:=h2
     have hf:=A7o hi ha (by simp only[Ms,h1,h2];rfl)
     have hsb:=hs _ (Zao hi)
     have w1:IntKind.i64.wrap (s.tallies[i].sum+val)=s.tallies[i].sum+val:=Eb (by omega) (by omega)
     have C2:=Ac (G.sl 1 rfl) hi
     obtain⟨τ1,s1,H1⟩:=G.ste 1 rfl hi 1 2 (gi (addM s.tallies[i].sum val)) {s.tallies[i] with sum:=addM s.tallies[i].sum val} rfl (by decide) (by decide) rfl
     have s1:stG 1 _ (fld 2 (atz 3 v1 i)) (.int .i64 ((s.tallies[i].sum+val).tmod 1000000))=some (.tup [],τ1):=s1
     have zc:=G.pt 4 rfl
     simp +contextual (disch:=omega) only[go_sem,c0,e0,e1,e2,e3,e8,A7 zb,A7 zc,hln,C1,C2,h1,b2,A3,w1,s1]
     refine hW _ _ ⟨v0,v1,v2,v3,?_⟩
     have hE:Io s.tallies o rep val=s.tallies.set i {s.tallies[i] with sum:=addM s.tallies[i].sum val}:=by
      unfold Io
      rw[hf]
      simp only[]
      rw[Pu _ hi]
     show Hp σ0 τ1 (ow pI.kd v0 s.know::ow Bi.kd v1 (Io s.tallies o rep val)::ow Cl.kd v2 s.lives::ow Aj.kd v3 s.cells::pt 1 g [v0,v1,v2,v3]::rest)
     rw[hE]
     exact H1
  ·clear H
   rintro Y hY env τ e8 c0 ⟨e0,e1,e2,e3,ha,H⟩
   have hln:=(H.sl 1 rfl).len
   have hnf:s.tallies.findIdx? (Ms o rep)=none:=by
    rw[Zaz]
    intro t ht
    obtain⟨j,hj,rfl⟩:=Zaj ht
    exact ha j hj hj
   simp +contextual (disch:=omega) only[go_sem,c0,e0,e1,e2,e3,e8,A7 (H.pt 4 rfl),hln]
   refine hY _ _ ⟨?_,?_,?_,?_,hnf,H⟩
   all_goals simp +contextual (disch:=omega) only[go_sem,e0,e1,e2,e3]
  ·clear H
   rintro env τ ⟨e0,e1,e2,e3,hnf,H⟩
   have hE:Io s.tallies o rep val=insB Az ⟨o,rep,val⟩ s.tallies:=by unfold Io;rw[hnf]
   rw[hE]
   have H:=H.nil_Tally
   simp +contextual (disch:=omega) only[go_sem,e0,e1,e2,e3]
   refine Jg s.tallies.length 12 2 (fun i env τ=>env 0= .ptr g 0/\env 1= .str o/\env 2=gi rep/\env 3=gi val/\∃(u:GV) (put:Bool) (nxt:List Tally),env 10=u/\env 11= .bool put/\insG Az ⟨o,rep,val⟩ s.tallies nxt i put/\Hp σ0 τ (ow Bi.kd u nxt::ow pI.kd v0 s.know::ow Bi.kd v1 s.tallies::ow Cl.kd v2 s.lives::ow Aj.kd v3 s.cells::pt 1 g [v0,v1,v2,v3]::rest)) (fun env τ=>env 0= .ptr g 0/\env 1= .str o/\env 2=gi rep/\env 3=gi val/\∃(u:GV) (put:Bool) (nxt:List Tally),env 10=u/\env 11= .bool put/\insG Az ⟨o,rep,val⟩ s.tallies nxt s.tallies.length put/\Hp σ0 τ (ow Bi.kd u nxt::ow pI.kd v0 s.know::ow Bi.kd v1 s.tallies::ow Cl.kd v2 s.lives::ow Aj.kd v3 s.cells::pt 1 g [v0,v1,v2,v3]::rest)) rfl ⟨by simp +contextual (disch:=omega) only[go_sem,e0],by simp +contextual (disch:=omega) only[go_sem,e1],by simp +contextual (disch:=omega) only[go_sem,e2],by simp +contextual (disch:=omega) only[go_sem,e3],_,false,[],by simp +contextual (disch:=omega) only[go_sem],by simp +contextual (disch:=omega) only[go_sem],O6,H⟩ ?_ ?_ ?_
   ·clear H e0 e1 e2 e3
    rintro J Y hJ hY i env τ hi e12 c0 ⟨e0,e1,e2,e3,u,put,nxt,e10,e11,hok,H⟩
    have hnl:=Cu hok
    have C1:=Ac (H.sl 2 rfl) hi
    have hln:=(H.sl 2 rfl).len
    have zb:=H.pt 5 rfl
    have G:=H.grow (pre1 τ (some (Blk.row 1 (A23 s.tallies[i]))))
    have hlt:Az ⟨o,rep,val⟩ s.tallies[i]=(txLt o s.tallies[i].obj||(decide (s.tallies[i].obj=o)&&decide (rep<s.tallies[i].rep))):=by
     unfold Az
     have:decide (o=s.tallies[i].obj)=decide (s.tallies[i].obj=o):=by rw[decide_eq_decide];exact eq_comm
     rw[this]
    have HN:=H.new 1 (A23 s.tallies[i])
    cases put with
    |true=>
     obtain⟨w',τ3,e8,H3⟩:=G.app_Tally 0 rfl s.tallies[i] (by omega)
     simp +contextual (disch:=omega) only[go_sem,c0,e0,e1,e2,e3,e10,e11,e12,A7 zb,hln,C1,Zbd,e8]
     refine hJ _ _ _ ⟨?_,?_,?_,?_,w',true,_,?_,?_,Do hok hi (.inl rfl),H3⟩
     all_goals simp +contextual (disch:=omega) only[go_sem,e0,e1,e2,e3,e11]
    |false=>
     cases h1:txLt o s.tallies[i].obj with
     |true=>
      have hq:Az ⟨o,rep,val⟩ s.tallies[i]=true:=by rw[hlt,h1];rfl
      have hp:=Lv hok hi hq
      have hnl2:=Cu hp
      simp only[Zap,Za1,Zax] at hnl2
      obtain⟨w4,τ4,e9,H4⟩:=HN.app_Tally 1 rfl ⟨o,rep,val⟩ (by omega)
      have H4:Hp σ0 τ4 (pt 1 τ.length (A23 s.tallies[i])::ow Bi.kd w4 (nxt++[⟨o,rep,val⟩])::ow pI.kd v0 s.know::ow Bi.kd v1 s.tallies::ow Cl.kd v2 s.lives::ow Aj.kd v3 s.cells::pt 1 g [v0,v1,v2,v3]::rest):=H4
      have zx:=A7 (a:=true) (n:=3) (off:=0) (H4.pt 0 rfl)
      obtain⟨w5,τ5,e13,H5⟩:=H4.app_Tally 1 rfl s.tallies[i] (by simp;omega)
      simp +contextual (disch:=omega) only[go_sem,c0,e0,e1,e2,e3,e10,e11,e12,A7 zb,hln,C1,Zal,h1,e9,zx,e13]
      refine hJ _ _ _ ⟨?_,?_,?_,?_,w5,true,_,?_,?_,hp,H5.drop1⟩
      all_goals simp +contextual (disch:=omega) only[go_sem,e0,e1,e2,e3,e11]
     |false=>
      cases h2:decide (s.tallies[i].obj=o) with
      |false=>
       obtain⟨w',τ3,e8,H3⟩:=G.app_Tally 0 rfl s.tallies[i] (by omega)
       simp +contextual (disch:=omega) only[go_sem,c0,e0,e1,e2,e3,e10,e11,e12,A7 zb,hln,C1,Zal,h1,h2,e8]
       refine hJ _ _ _ ⟨?_,?_,?_,?_,w',false,_,?_,?_,Do hok hi (.inr (by rw[hlt,h1,h2];rfl)),H3⟩
       all_goals simp +contextual (disch:=omega) only[go_sem,e0,e1,e2,e3,e11]
      |true=>
       cases h3:decide (rep<s.tallies[i].rep) with
       |true=>
        have hq:Az ⟨o,rep,val⟩ s.tallies[i]=true:=by rw[hlt,h1,h2,h3];rfl
        have hp:=Lv hok hi hq
        have hnl2:=Cu hp
        simp only[Zap,Za1,Zax] at hnl2
        obtain⟨w4,τ4,e9,H4⟩:=HN.app_Tally 1 rfl ⟨o,rep,val⟩ (by omega)
        have H4:Hp σ0 τ4 (pt 1 τ.length (A23 s.tallies[i])::ow Bi.kd w4 (nxt++[⟨o,rep,val⟩])::ow pI.kd v0 s.know::ow Bi.kd v1 s.tallies::ow Cl.kd v2 s.lives::ow Aj.kd v3 s.cells::pt 1 g [v0,v1,v2,v3]::rest):=H4
        have zx:=A7 (a:=true) (n:=3) (off:=0) (H4.pt 0 rfl)
        obtain⟨w5,τ5,e13,H5⟩:=H4.app_Tally 1 rfl s.tallies[i] (by simp;omega)
        simp +contextual (disch:=omega) only[go_sem,c0,e0,e1,e2,e3,e10,e11,e12,A7 zb,hln,C1,Zal,h1,h2,h3,e9,zx,e13]
        refine hJ _ _ _ ⟨?_,?_,?_,?_,w5,true,_,?_,?_,hp,H5.drop1⟩
        all_goals simp +contextual (disch:=omega) only[go_sem,e0,e1,e2,e3,e11]
       |false=>
        obtain⟨w',τ3,e8,H3⟩:=G.app_Tally 0 rfl s.tallies[i] (by omega)
        simp +contextual (disch:=omega) only[go_sem,c0,e0,e1,e2,e3,e10,e11,e12,A7 zb,hln,C1,Zal,h1,h2,h3,e8]
        refine hJ _ _ _ ⟨?_,?_,?_,?_,w',false,_,?_,?_,Do hok hi (.inr (by rw[hlt,h1,h2,h3];rfl)),H3⟩
        all_goals simp +contextual (disch:=omega) only[go_sem,e0,e1,e2,e3,e11]
   ·clear H e0 e1 e2 e3
    rintro Y hY env τ e12 c0 ⟨e0,e1,e2,e3,u,put,nxt,e10,e11,hok,H⟩
    have hln:=(H.sl 2 rfl).len
    simp +contextual (disch:=omega) only[go_sem,c0,e0,e1,e2,e3,e10,e11,e12,A7 (H.pt 5 rfl),hln]
    refine hY _ _ ⟨?_,?_,?_,?_,u,put,nxt,?_,?_,hok,H⟩
    all_goals simp +contextual (disch:=omega) only[go_sem,e0,e1,e2,e3,e10,e11]
   ·clear H e0 e1 e2 e3
    rintro env τ ⟨e0,e1,e2,e3,u,put,nxt,e10,e11,hok,H⟩
    have hnl:=Cu hok
    have hend:=O7 hok
    cases put with
    |true=>
     have c1:=(H.sl 0 rfl).cell
     obtain⟨τ1,s1,H1,_⟩:=H.st 5 rfl 1 1 u (by rw[c1];rfl) (by decide) (by simp)
     simp +contextual (disch:=omega) only[go_sem,e0,e1,e2,e3,e10,e11,Zbd,s1]
     refine⟨_,rfl,rfl,v0,u,v2,v3,?_⟩
     simp only[c1,Zag,Zah,Fu,Ft,Gt] at H1
     rw[<- hend]
     exact Hp.moveTo H1 1 rfl
    |false=>
     obtain⟨w',τ3,e8,H3⟩:=H.app_Tally 0 rfl ⟨o,rep,val⟩ (by omega)
     have H3:Hp σ0 τ3 (ow Bi.kd w' (nxt++[⟨o,rep,val⟩])::ow pI.kd v0 s.know::ow Bi.kd v1 s.tallies::ow Cl.kd v2 s.lives::ow Aj.kd v3 s.cells::pt 1 g [v0,v1,v2,v3]::rest):=H3
     have c1:=(H3.sl 0 rfl).cell
     obtain⟨τ1,s1,H1,_⟩:=H3.st 5 rfl 1 1 w' (by rw[c1];rfl) (by decide) (by simp)
     simp +contextual (disch:=omega) only[go_sem,e0,e1,e2,e3,e10,e11,Zal,e8,s1]
     refine⟨_,rfl,rfl,v0,w',v2,v3,?_⟩
     simp only[c1,Zag,Zah,Fu,Ft,Gt] at H1
     rw[<- hend]
     exact Hp.moveTo H1 1 rfl
  ·clear H
   rintro env τ h
   simp +contextual (disch:=omega) only[go_sem]
   exact⟨_,rfl,rfl,h⟩
 obtain⟨r,τ,R,rfl,h⟩:=key
 exact⟨τ,R,h⟩
abbrev Uh:Nat:=249
def A27:Fn1:=⟨127,[],(rg [oX 3 1] (dw [oM 4 0,oK 5 4,oF 6 0 5,oL 7 6,oF 8 0 3,oF 9 0 8,oL 10 9,oF 11 0 3,oF 12 1 11,oL 13 12] [oI 14 1 7 10,oS 1 14 13] (rg [oF 15 4 3,oL 16 15] (.blk 0 (rg [oE 18 .eql 16 1,oM 17 18] (cn 17 (.reg [oM 19 0,oF 20 5 3,oL 21 20,oF 22 0 3,oF 23 0 22,oL 24 23,oF 25 7 3,oL 26 25,o 27 (.call 319 [(.t 19),(.t 21),(.t 24),(.t 26)])]) (rg [oE 29 .eql 16 2,oM 28 29] (cn 28 (.drw [oM 30 0,oM 31 0,oK 32 31,oF 33 2 32,oL 34 33,oF 35 5 3,oL 36 35,oF 37 6 3,oL 38 37,oF 39 0 3,oW 40 2 39] [o 41 (.build [(.bool false),s0,s0,z0,z0,z0] [(1,1,(.t 36)),(2,1,(.t 38)),(4,2,(.t 40))]),oD 42 320 34 41,oK 43 30,oF 44 2 43,oS 1 44 42]) (rg [oE 46 .eql 16 3,oM 45 46] (cn 45 (.reg [oM 47 0,oF 48 5 3,oL 49 48,oF 50 6 3,oL 51 50,oF 52 3 3,oL 53 52,o 54 (.call 321 [(.t 47),kf,(.t 49),(.t 51),(.t 53)])]) (rg [oE 56 .eql 16 4,oM 55 56] (cn 55 (rg [oM 57 0,oF 58 5 3,oL 59 58,oF 60 6 3,oL 61 60,oF 62 3 3,oL 63 62,o 64 (.call 321 [(.t 57),kt,(.t 59),(.t 61),(.t 63)])] (.drw [oM 65 0,oM 66 0,oK 67 66,oF 68 2 67,oL 69 68,oF 70 5 3,oL 71 70,oF 72 6 3,oL 73 72,oF 74 7 3,oL 75 74,oF 76 0 3,oW 77 2 76] [o 78 (.build [(.bool false),s0,s0,z0,z0,z0] [(0,1,kt),(1,1,(.t 71)),(2,1,(.t 73)),(3,1,(.t 75)),(4,2,(.t 77))]),oD 79 320 69 78,oK 80 65,oF 81 2 80,oS 1 81 79])) (rg [oE 83 .eql 16 5,oM 82 83] (cn 82 (.reg [oM 84 0,oF 85 5 3,oL 86 85,oF 87 6 3,oL 88 87,oF 89 3 3,oL 90 89,o 91 (.call 321 [(.t 84),kt,(.t 86),(.t 88),(.t 90)])]) (rg [oE 93 .eql 16 6,oM 92 93] (cn 92 (.drw [oM 94 0,oM 95 0,oK 96 95,oF 97 3 96,oL 98 97,oF 99 5 3,oL 100 99,oF 101 0 3,oW 102 2 101,oF 103 2 3,oL 104 103,oF 105 8 3,oW 106 2 105,oF 107 7 3,oL 108 107] [o 109 (.build [s0,z0,z0,z0,z0,z0,z0,(.bool false)] [(0,1,(.t 100)),(1,2,(.t 102)),(3,1,(.t 104)),(4,2,(.t 106)),(6,1,(.t 108))]),oD 110 322 98 109,oK 111 94,oF 112 3 111,oS 1 112 110]) (rg [oE 114 .eql 16 7,oM 113 114] (cn 113 (.drw [oM 115 0,oK 116 115,oF 117 3 116,oL 118 117,oM 119 0,oK 120 119,oW 121 4 120,oF 122 8 3,oW 123 2 122,oD 124 146 121 123] [oI 125 8 118 124,oF 126 7 125,on (.st 1 (.t 126) kt)]) .skip))))))))))))))))))⟩
theorem A7p:A6 Tryz.prog Uh=some A27:=by kernel_rfl
abbrev Ui:Nat:=140
def A28:Fn1:=⟨57,[.c 4 true 4,.t 5],(rg [oX 2 0,oX 3 1,o 4 (.new [.nilS,.nilS,.nilS,.nilS]),oV 5 (ki 0)] (rg [oW 7 4 2,oC 8 247 7,o 6 (.new [.nilS,.nilS,.nilS,.nilS]),oS 4 6 8] (.seq (rg [oW 9 4 2,oC 10 199 9,oU 11 10,oM 12 11,vW 13 12 10 3,vC 14 12 185 13,vU 15 12 14,oP 16 12 15] (cn 16 (rg [oW 17 4 6,oS 4 4 17,oV 5 (ki 3)] .ret) .skip)) (.seq (rg [oF 18 0 2,oL 19 18,oF 20 0 3,oW 21 2 20,oD 22 45 19 21] (cn 22 (rg [oW 23 4 6,oS 4 4 23,oV 5 (ki 1)] .ret) .skip)) (.seq (rg [oF 24 3 3,oL 25 24,oF 26 0 2,oL 27 26,oD 28 178 25 27,oU 29 28] (cn 29 (rg [oW 30 4 6,oS 4 4 30,oV 5 (ki 2)] .ret) .skip)) (.seq (rg [oW 31 4 2,oW 32 10 3,oD 33 248 31 32,oU 34 33] (cn 34 (rg [oW 35 4 6,oS 4 4 35,oV 5 (ki 3)] .ret) .skip)) (rg [oW 36 10 3,oD 37 249 6 36] (.seq (rg [oF 38 1 6,oL 39 38,oN 40 39,oE 41 .gtr 40 120,oM 42 41,vF 43 42 2 6,vL 44 42 43,og 45 42 false (.len false (.t 44)),vE 46 42 .gtr 45 120,oP 47 42 46,oM 48 47,vF 49 48 3 6,vL 50 48 49,og 51 48 false (.len false (.t 50)),vE 52 48 .gtr 51 120,oP 53 48 52] (cn 53 (rg [oW 54 4 2,oC 55 247 54,oS 4 4 55,oV 5 (ki 4)] .ret) .skip)) (rg [oW 56 4 6,oS 4 4 56,oV 5 (ki 0)] .ret)))))))))⟩
theorem A7q:A6 Tryz.prog Ui=some A28:=by kernel_rfl
theorem A9m {a:Act} (h:De a=true):(0<=a.dot.rep/\a.dot.rep<=2)/\(1<=a.kind/\a.kind<=7)/\(0<=a.val/\a.val<=999999)/\a.knew.length=3:=by
 simp only[De,Cq,Bd,Zaa] at h
 obtain⟨⟨h1,h2,_⟩,⟨h3,_,_,h4⟩,_⟩:=h
 refine⟨(Kn.1 h1).1,Br.1 h3,?_,D8 h2⟩
 simp only[Ky,Za4,beq_iff_eq,Zaa,Br] at h4
 rcases h4 with h4|⟨_,h4⟩
 ·omega
 ·exact h4
theorem A9n {s:State} (h:B6 s=true):s.know.length=3/\∀ t∈s.tallies,-1000000<=t.sum/\t.sum<=1000000:=by
 simp only[B6,Zaa] at h
 obtain⟨h1,h2,_⟩:=h
 refine⟨D8 h1,fun t ht=> ?_⟩
 simp only[Ga,Zaa,C4,talP] at h2
 obtain⟨i,hi,rfl⟩:=Zaj ht
 have:=(h2.1 i hi).1
 rw[Bl hi] at this
 simp only[tal1,Zaa,Br] at this
 omega
theorem SPtr.drop {σ0 τ:St} {g:Nat} {s:State} {x:Thg} {rest:List Thg} (H:SPtr σ0 τ g s (x::rest)):SPtr σ0 τ g s rest:=by
 obtain⟨v0,v1,v2,v3,H⟩:=H
 exact⟨v0,v1,v2,v3,(H.pick 5 rfl).drop1⟩
theorem SPtr.push {σ0 τ:St} {g:Nat} {s:State} {rest:List Thg} (H:SPtr σ0 τ g s rest) (z:Nat) (cs:List GV):SPtr σ0 (τ++[some (.row z cs)]) g s (pt z τ.length cs::rest):=by
 obtain⟨v0,v1,v2,v3,H⟩:=H
 refine⟨v0,v1,v2,v3,?_⟩
 exact(H.new z cs).perm (List.perm_middle (l₁:=[_,_,_,_,_])).symm
abbrev actV (a:Act) (kv:GV):List GV:=[.int .i64 a.dot.rep,.int .i64 a.dot.seq,.int .i64 a.time,kv,.int .i64 a.kind,.str a.obj,.str a.key,.int .i64 a.val,.int .i64 a.ref.rep,.int .i64 a.ref.seq]
theorem A59 {s:State} {i:Nat} {x:Int}:Ah {s with know:=s.know.set i x}=Ah s:=by simp[Ah]
theorem A5a {σ0 σ:St} {g:Nat} {s:State} {rest:List Thg} (H:SPtr σ0 σ g s rest) (a:Act) (kv:GV) (hk:RS pI.kd σ0 kv a.knew) (hok:B6 s=true) (hao:De a=true) (hri:Pn s a=true) (hl:Ah s<=1099511627776):∃ τ,Ret Tryz.prog Uh [.ptr g 0,.agg (actV a kv)] σ (.tup []) τ/\SPtr σ0 τ g (Jf s a) rest:=by
 obtain⟨⟨f1,f2⟩,⟨f3,f4⟩,⟨f5,f6⟩,f7⟩:=A9m hao
 obtain⟨t1,t2⟩:=A9n hok
 obtain⟨r,hr⟩:∃ r:Nat,a.dot.rep=(r:Int):=⟨a.dot.rep.toNat,by omega⟩
 have hrl:r<s.know.length:=by omega
 have key:∃ q τ,Ret Tryz.prog Uh [.ptr g 0,.agg (actV a kv)] σ q τ/\q= .tup []/\SPtr σ0 τ g (Jf s a) rest:=by
  refine E8 A7p (Z0z rfl) ?_
  have H:=H.push 1 (actV a kv)
  obtain⟨v0,v1,v2,v3,H⟩:=H
  have i0:=RdN.iad (H.sl 0 rfl) hrl
  have i0:iadG 1 v0 (some r)=some (atz 1 v0 r):=i0
  have n0:Aw (some (.int .i64 a.dot.rep))=some r:=by rw[hr];exact A3
  obtain⟨τ1,st0,H1⟩:=H.stw 0 rfl (j:=r) hrl 1 (gi a.dot.seq) a.dot.seq rfl rfl (by decide)
  have st0:stG 1 _ (atz 1 v0 r) (.int .i64 a.dot.seq)=some (.tup [],τ1):=st0
  have H1:Hp σ0 τ1 (ow pI.kd v0 (s.know.set r a.dot.seq)::ow Bi.kd v1 s.tallies::ow Cl.kd v2 s.lives::ow Aj.kd v3 s.cells::pt 1 g [v0,v1,v2,v3]::pt 1 σ.length (actV a kv)::rest):=H1
  obtain⟨s1,hs1⟩:∃ s1:State,s1={s with know:=s.know.set r a.dot.seq}:=⟨_,rfl⟩
  have hm1:Ah s1<=1099511627776:=by rw[hs1,A59];exact hl
  have hdo:Jf s a=Fo s1 a:=by
   unfold Jf
   rw[hs1,hr];simp
  have S1:SPtr σ0 τ1 g s1 (pt 1 σ.length (actV a kv)::rest):=by rw[hs1];exact⟨v0,v1,v2,v3,H1⟩
  obtain⟨l1,l2,l3,l4,_⟩:=Ao hl
  rw[hdo]
  have e1:s1.tallies=s.tallies:=by rw[hs1]
  have e2:s1.lives=s.lives:=by rw[hs1]
  have e3:s1.cells=s.cells:=by rw[hs1]
  simp +contextual (disch:=omega) only[go_sem,A27,A7 (H.pt 4 rfl),n0,i0,st0,A7 (H1.pt 5 rfl)]
  by_cases k1:a.kind=1
  ·have b1:(a.kind==1)=true:=by simp[k1]
   have hd:Fo s1 a={s1 with tallies:=Io s1.tallies a.obj a.dot.rep a.val}:=by unfold Fo;rw[if_pos k1]
   rw[hd]
   obtain⟨τ2,R2,S2⟩:=Wj S1 a.obj a.dot.rep a.val hm1 (by omega) (by rw[e1];exact t2)
   simp +contextual (disch:=omega) only[go_sem,b1,A7 (H1.pt 5 rfl)]
   refine Ak R2 ?_
   simp +contextual (disch:=omega) only[go_sem]
   exact⟨_,rfl,rfl,S2.drop⟩
  have b1:(a.kind==1)=false:=by simp[k1]
  by_cases k2:a.kind=2
  ·have b2:(a.kind==2)=true:=by simp[k2]
   have hd:Fo s1 a={s1 with lives:=Je ⟨false,a.obj,a.key,0,a.dot⟩ s1.lives}:=by unfold Fo;rw[if_neg k1,if_pos k2]
   rw[hd,e2]
   obtain⟨w,τ2,R2,K2⟩:=Oe τ1 v2 s.lives (H1.sl 2 rfl) ⟨false,a.obj,a.key,0,a.dot⟩ l3
   have H2:=H1.add K2
   simp only[Zab,Zae] at H2
   have c1:=(H2.sl 0 rfl).cell
   obtain⟨τ3,st3,H3,_⟩:=H2.st 5 rfl 1 2 w (by rw[c1];rfl) (by decide) (by simp)
   simp +contextual (disch:=omega) only[go_sem,b1,b2,A7 (H1.pt 4 rfl),A7 (H1.pt 5 rfl)]
   refine Pg R2 K2 ?_
   simp +contextual (disch:=omega) only[go_sem,st3]
   refine⟨_,rfl,rfl,v0,v1,w,v3,?_⟩
   simp only[c1,Zag,Zah,Fu,Ft,Gt] at H3
   rw[hs1]
   exact((Hp.moveTo H3 2 rfl).pick 5 rfl).drop1
  have b2:(a.kind==2)=false:=by simp[k2]
  by_cases k3:a.kind=3
  ·have b3:(a.kind==3)=true:=by simp[k3]
   have hd:Fo s1 a={s1 with lives:=s1.lives.filter (S9 false a.obj a.key a.knew)}:=by unfold Fo;rw[if_neg k1,if_neg k2,if_pos k3]
   rw[hd]
   obtain⟨τ2,R2,S2⟩:=Id S1 false a.obj a.key kv a.knew hk hm1 (by omega)
   simp +contextual (disch:=omega) only[go_sem,b1,b2,b3,A7 (H1.pt 5 rfl)]
   refine Ak R2 ?_
   simp +contextual (disch:=omega) only[go_sem]
   exact⟨_,rfl,rfl,S2.drop⟩
  have b3:(a.kind==3)=false:=by simp[k3]
  by_cases k4:a.kind=4
  ·have b4:(a.kind==4)=true:=by simp[k4]
   have hd:Fo s1 a={s1 with lives:=Je ⟨true,a.obj,a.key,a.val,a.dot⟩ (s1.lives.filter (S9 true a.obj a.key a.knew))}:=by unfold Fo;rw[if_neg k1,if_neg k2,if_neg k3,if_pos k4]
   rw[hd,e2]
   obtain⟨τ2,R2,u0,u1,u2,u3,H2⟩:=Id S1 true a.obj a.key kv a.knew hk hm1 (by omega)
   have hfl:=Zbq (S9 true a.obj a.key a.knew) s.lives
   have H2l:=H2.sl 2 rfl
   have H2l:RS Cl.kd τ2 u2 (s.lives.filter (S9 true a.obj a.key a.knew)):=by rw[<- e2];exact H2l
   obtain⟨w,τ3,R3,K3⟩:=Oe τ2 u2 _ H2l ⟨true,a.obj,a.key,a.val,a.dot⟩ (by omega)
   have H3:=H2.add K3
   simp only[Zab,Zae] at H3
   have c1:=(H3.sl 0 rfl).cell
   obtain⟨τ4,st4,H4,_⟩:=H3.st 5 rfl 1 2 w (by rw[c1];rfl) (by decide) (by simp)
   simp +contextual (disch:=omega) only[go_sem,b1,b2,b3,b4,A7 (H1.pt 5 rfl)]
   refine Ak R2 ?_
   simp +contextual (disch:=omega) only[go_sem,A7 (H2.pt 4 rfl),A7 (H2.pt 5 rfl)]
   refine Pg R3 K3 ?_
   simp +contextual (disch:=omega) only[go_sem,st4]
   refine⟨_,rfl,rfl,u0,u1,w,u3,?_⟩
   simp only[c1,Zag,Zah,Fu,Ft,Gt] at H4
   exact((Hp.moveTo H4 2 rfl).pick 5 rfl).drop1
  have b4:(a.kind==4)=false:=by simp[k4]
  by_cases k5:a.kind=5
  ·have b5:(a.kind==5)=true:=by simp[k5]
   have hd:Fo s1 a={s1 with lives:=s1.lives.filter (S9 true a.obj a.key a.knew)}:=by unfold Fo;rw[if_neg k1,if_neg k2,if_neg k3,if_neg k4,if_pos k5]
   rw[hd]
   obtain⟨τ2,R2,S2⟩:=Id S1 true a.obj a.key kv a.knew hk hm1 (by omega)
   simp +contextual (disch:=omega) only[go_sem,b1,b2,b3,b4,b5,A7 (H1.pt 5 rfl)]
   refine Ak R2 ?_
   simp +contextual (disch:=omega) only[go_sem]
   exact⟨_,rfl,rfl,S2.drop⟩
  have b5:(a.kind==5)=false:=by simp[k5]
  by_cases k6:a.kind=6
  ·have b6:(a.kind==6)=true:=by simp[k6]
   have hd:Fo s1 a={s1 with cells:=Mt ⟨a.obj,a.dot,a.time,a.ref,a.val,false⟩ s1.cells}:=by unfold Fo;rw[if_neg k1,if_neg k2,if_neg k3,if_neg k4,if_neg k5,if_pos k6]
   rw[hd,e3]
   obtain⟨w,τ2,R2,K2⟩:=Zj τ1 v3 s.cells (H1.sl 3 rfl) ⟨a.obj,a.dot,a.time,a.ref,a.val,false⟩ l4
   have H2:=H1.add K2
   simp only[Zab,Zae] at H2
   have c1:=(H2.sl 0 rfl).cell
   obtain⟨τ3,st3,H3,_⟩:=H2.st 5 rfl 1 3 w (by rw[c1];rfl) (by decide) (by simp)
   simp +contextual (disch:=omega) only[go_sem,b1,b2,b3,b4,b5,b6,A7 (H1.pt 4 rfl),A7 (H1.pt 5 rfl)]
   refine Pg R2 K2 ?_
   simp +contextual (disch:=omega) only[go_sem,st3]
   refine⟨_,rfl,rfl,v0,v1,v2,w,?_⟩
   simp only[c1,Zag,Zah,Fu,Ft,Gt] at H3
   rw[hs1]
   exact((Hp.moveTo H3 3 rfl).pick 5 rfl).drop1
  have b6:(a.kind==6)=false:=by simp[k6]
  have k7:a.kind=7:=by omega
  have b7:(a.kind==7)=true:=by simp[k7]
  have hd:Fo s1 a={s1 with cells:=Ip s1.cells a.ref}:=by unfold Fo;rw[if_neg k1,if_neg k2,if_neg k3,if_neg k4,if_neg k5,if_neg k6]
  rw[hd,e3]
  cases hx:Dw s.cells a.ref with
  |none=>simp[Pn,k7,hx] at hri
  |some k=>
   obtain⟨hkl,hke⟩:=Cp hx
   have hno:Eq s1.cells a.ref=k:=by simp[Eq,e3,hx]
   have CA:=Qu τ1 [v0,v1,v2,v3] s1 ⟨v0,v1,v2,v3,rfl,by rw[hs1];exact H1.sl 0 rfl,by rw[e1];exact H1.sl 1 rfl,by rw[e2];exact H1.sl 2 rfl,by rw[e3];exact H1.sl 3 rfl⟩ a.ref hm1
   rw[hno] at CA
   have C2:=A4 (H1.sl 3 rfl) hkl
   obtain⟨τ2,st2,H2⟩:=H1.ste 3 rfl hkl 1 7 (.bool true) {s.cells[k] with gone:=true} rfl (by decide) (by decide) rfl
   have st2:stG 1 τ1 (fld 7 (atz 8 v3 k)) (.bool true)=some (.tup [],τ2):=st2
   simp +contextual (disch:=omega) only[go_sem,b1,b2,b3,b4,b5,b6,b7,A7 (H1.pt 4 rfl),A7 (H1.pt 5 rfl),A9 (cs:=[v0,v1,v2,v3]) rfl]
   refine Ad CA ?_
   simp +contextual (disch:=omega) only[go_sem,A3,C2,st2]
   refine⟨_,rfl,rfl,v0,v1,v2,v3,?_⟩
   have hE:Ip s.cells a.ref=s.cells.set k {s.cells[k] with gone:=true}:=by
    unfold Ip
    rw[hx]
    exact Pu _ hkl
   rw[hE,hs1]
   exact(H2.pick 5 rfl).drop1
 obtain⟨q,τ,R,rfl,h⟩:=key
 exact⟨τ,R,h⟩
theorem Aaz {σ τ:St} {rs:List Thg} {x:State} {cs:List GV} {g:Nat} (H:Hp σ τ (pt 1 g cs::own A8 cs x::rs)):SPtr σ τ g x rs:=by
 obtain⟨v0,v1,v2,v3,rfl,H⟩:=(H.pick 1 rfl).splitState
 exact⟨v0,v1,v2,v3,H⟩
theorem SPtr.own {σ τ:St} {rs:List Thg} {x:State} {g:Nat} (H:SPtr σ τ g x rs):∃ v0 v1 v2 v3,rdB τ g=some [v0,v1,v2,v3]/\lenG false v1=some (x.tallies.length:Int)/\lenG false v2=some (x.lives.length:Int)/\lenG false v3=some (x.cells.length:Int)/\Hp σ τ (own A8 [v0,v1,v2,v3] x::rs):=by
 obtain⟨v0,v1,v2,v3,H⟩:=H
 refine⟨v0,v1,v2,v3,H.pt 4 rfl,(H.sl 1 rfl).len,(H.sl 2 rfl).len,(H.sl 3 rfl).len,?_⟩
 exact Hp.ownState ((H.pick 4 rfl).drop1)
theorem Mx (σ:St) (cs:List GV) (s:State) (hR:A8.R σ s cs) (as':List GV) (a:Act) (hS:kAct.R σ a as') (hl:Ah s<=1099511627776) (hm:Ha a<=1099511627776):∃ ds τ,Ret Tryz.prog Ui [.agg cs,.agg as'] σ (.tup [.agg ds,gi (Cw s a).2]) τ/\Hp σ τ [own A8 ds (Cw s a).1]:=by
 have hR0:=hR
 have hS0:=hS
 have hS1:∀ {τ:St},σ <+: τ->kAct.R τ a as':=fun h=>kAct.pre hS0 h
 obtain⟨a1,b1,c1,v1,rfl,hkn,_,_,_⟩:=hR
 obtain⟨kv,rfl,hkv⟩:=hS
 obtain⟨l1,l2,l3,l4,_⟩:=Ao hl
 have hkl:a.knew.length<=1099511627776:=by unfold Ha at hm;omega
 have key:∃ q τ,Ret Tryz.prog Ui [.agg [a1,b1,c1,v1],.agg (actV a kv)] σ q τ/\∃ ds,q= .tup [.agg ds,gi (Cw s a).2]/\Hp σ τ [own A8 ds (Cw s a).1]:=by
  refine E8 A7q (Z0z rfl) ?_
  have H:=(((Hp.refl σ).new 1 [a1,b1,c1,v1]).new 1 (actV a kv)).new 1 [GV.nilS,GV.nilS,GV.nilS,GV.nilS]
  have z0:=H.pt 2 rfl
  simp +contextual (disch:=omega) only[go_sem,A28,A7 z0,A9 (cs:=[a1,b1,c1,v1]) rfl]
  obtain⟨es,τ1,R1,K1⟩:=Fb _ _ s (A8.pre hR0 H.sub) hl
  refine Pg R1 K1 ?_
  have H:=H.add K1
  simp only[Zab,Zae] at H
  have gl:es.length=4:=A8.len (K1.rd 0 rfl)
  have H:=H.new 1 es
  generalize hn6:τ1.length=n6 at*
  generalize hn4:(σ++[some (Blk.row 1 [a1,b1,c1,v1])]++[some (Blk.row 1 (actV a kv))]).length=n4 at*
  generalize hn2:(σ++[some (Blk.row 1 [a1,b1,c1,v1])]).length=n2 at*
  generalize hn1:σ.length=n1 at*
  simp +contextual (disch:=omega) only[go_sem,Ai (cs:=[GV.nilS,GV.nilS,GV.nilS,GV.nilS]) gl rfl,gl,A7 (H.pt 4 rfl),A9 (cs:=[a1,b1,c1,v1]) rfl]
  obtain⟨τr,sr,Hr,_⟩:=H.st 2 rfl 4 0 (.agg es) gl (by decide) (by simp)
  have zr:rdB τr n4=some (Al [GV.nilS,GV.nilS,GV.nilS,GV.nilS] 0 es):=Hr.pt 2 rfl
  rw[Ai gl rfl] at zr
  refine Aa (Gp _ _ s (A8.pre hR0 H.sub) hl) (fun hok=> ?_) (fun hok=> ?_)
  rotate_left
  ·have hd:Cw s a=(s,3):=by simp[Cw,hok]
   simp +contextual (disch:=omega) only[go_sem,A7 (H.pt 0 rfl),A9 gl,sr,A7 zr]
   exact⟨_,rfl,es,by rw[hd],by rw[hd];exact(Hr.pick 1 rfl).one⟩
  simp +contextual (disch:=omega) only[go_sem,A7 (H.pt 3 rfl),A9 (cs:=actV a kv) rfl]
  refine Aa (Mq _ _ a (hS1 H.sub) hm) (fun hao=> ?_) (fun hao=> ?_)
  rotate_left
  ·have hd:Cw s a=(s,3):=by simp[Cw,hok,hao]
   simp +contextual (disch:=omega) only[go_sem,A7 (H.pt 0 rfl),A9 gl,sr,A7 zr]
   exact⟨_,rfl,es,by rw[hd],by rw[hd];exact(Hr.pick 1 rfl).one⟩
  simp +contextual (disch:=omega) only[go_sem,A7 (H.pt 3 rfl),A7 (H.pt 4 rfl)]
  refine Aa (Co _ a1 s.know a.dot (hkn.pre H.sub) l1) (fun hkn1=> ?_) (fun hkn1=> ?_)
  ·have hd:Cw s a=(s,1):=by simp[Cw,hok,hao,hkn1]
   simp +contextual (disch:=omega) only[go_sem,A7 (H.pt 0 rfl),A9 gl,sr,A7 zr]
   exact⟨_,rfl,es,by rw[hd],by rw[hd];exact(Hr.pick 1 rfl).one⟩
  simp +contextual (disch:=omega) only[go_sem,A7 (H.pt 3 rfl),A7 (H.pt 4 rfl)]
  refine Aa (Qt _ kv a1 a.knew s.know (hkv.pre H.sub) (hkn.pre H.sub) hkl l1) (fun hkn2=> ?_) (fun hkn2=> ?_)
  rotate_left
  ·have hd:Cw s a=(s,2):=by simp[Cw,hok,hao,hkn1,hkn2]
   simp +contextual (disch:=omega) only[go_sem,A7 (H.pt 0 rfl),A9 gl,sr,A7 zr]
   exact⟨_,rfl,es,by rw[hd],by rw[hd];exact(Hr.pick 1 rfl).one⟩
  simp +contextual (disch:=omega) only[go_sem,A7 (H.pt 3 rfl),A7 (H.pt 4 rfl),A9 (cs:=actV a kv) rfl,A9 (cs:=[a1,b1,c1,v1]) rfl]
  refine Aa (A26 _ _ s (A8.pre hR0 H.sub) _ a (hS1 H.sub) hl) (fun hri=> ?_) (fun hri=> ?_)
  rotate_left
  ·have hd:Cw s a=(s,3):=by simp[Cw,hok,hao,hkn1,hkn2,hri]
   simp +contextual (disch:=omega) only[go_sem,A7 (H.pt 0 rfl),A9 gl,sr,A7 zr]
   exact⟨_,rfl,es,by rw[hd],by rw[hd];exact(Hr.pick 1 rfl).one⟩
  obtain⟨τ2,R2,S2⟩:=A5a (Aaz H) a kv hkv hok hao hri hl
  simp +contextual (disch:=omega) only[go_sem,A7 (H.pt 3 rfl),A9 (cs:=actV a kv) rfl]
  rw[hn6]
  refine Ak R2 ?_
  obtain⟨w0,w1,w2,w3,z6,q1,q2,q3,H3⟩:=S2.own
  cases h1:decide (120<(Jf s a).tallies.length) with
  |true=>
   have ht:Fy (Jf s a)=true:=by simp[Fy,h1]
   have hd:Cw s a=(s,4):=by simp[Cw,hok,hao,hkn1,hkn2,hri,ht]
   simp +contextual (disch:=omega) only[go_sem,A7 z6,q1,q2,q3,Pt,h1,A7 (H3.pt 3 rfl),A9 (cs:=[a1,b1,c1,v1]) rfl]
   obtain⟨fs,τ4,R4,K4⟩:=Fb _ _ s (A8.pre hR0 H3.sub) hl
   refine Pg R4 K4 ?_
   have H4:=H3.add K4
   simp only[Zab,Zae] at H4
   have gl4:fs.length=4:=A8.len (K4.rd 0 rfl)
   obtain⟨τ5,s5,H5,_⟩:=H4.st 2 rfl 4 0 (.agg fs) gl4 (by decide) (by simp)
   have z5:rdB τ5 n4=some (Al [GV.nilS,GV.nilS,GV.nilS,GV.nilS] 0 fs):=H5.pt 2 rfl
   rw[Ai gl4 rfl] at z5
   simp +contextual (disch:=omega) only[go_sem,s5,A7 z5,A9 gl4]
   exact⟨_,rfl,fs,by rw[hd],by rw[hd];exact H5.one⟩
  |false=>
   cases h2:decide (120<(Jf s a).lives.length) with
   |true=>
    have ht:Fy (Jf s a)=true:=by simp[Fy,h1,h2]
    have hd:Cw s a=(s,4):=by simp[Cw,hok,hao,hkn1,hkn2,hri,ht]
    simp +contextual (disch:=omega) only[go_sem,A7 z6,q1,q2,q3,Pt,h1,h2,A7 (H3.pt 3 rfl),A9 (cs:=[a1,b1,c1,v1]) rfl]
    obtain⟨fs,τ4,R4,K4⟩:=Fb _ _ s (A8.pre hR0 H3.sub) hl
    refine Pg R4 K4 ?_
    have H4:=H3.add K4
    simp only[Zab,Zae] at H4
    have gl4:fs.length=4:=A8.len (K4.rd 0 rfl)
    obtain⟨τ5,s5,H5,_⟩:=H4.st 2 rfl 4 0 (.agg fs) gl4 (by decide) (by simp)
    have z5:rdB τ5 n4=some (Al [GV.nilS,GV.nilS,GV.nilS,GV.nilS] 0 fs):=H5.pt 2 rfl
    rw[Ai gl4 rfl] at z5
    simp +contextual (disch:=omega) only[go_sem,s5,A7 z5,A9 gl4]
    exact⟨_,rfl,fs,by rw[hd],by rw[hd];exact H5.one⟩
   |false=>
    cases h3:decide (120<(Jf s a).cells.length) with
    |true=>
     have ht:Fy (Jf s a)=true:=by simp[Fy,h1,h2,h3]
     have hd:Cw s a=(s,4):=by simp[Cw,hok,hao,hkn1,hkn2,hri,ht]
     simp +contextual (disch:=omega) only[go_sem,A7 z6,q1,q2,q3,Pt,h1,h2,h3,A7 (H3.pt 3 rfl),A9 (cs:=[a1,b1,c1,v1]) rfl]
     obtain⟨fs,τ4,R4,K4⟩:=Fb _ _ s (A8.pre hR0 H3.sub) hl
     refine Pg R4 K4 ?_
     have H4:=H3.add K4
     simp only[Zab,Zae] at H4
     have gl4:fs.length=4:=A8.len (K4.rd 0 rfl)
     obtain⟨τ5,s5,H5,_⟩:=H4.st 2 rfl 4 0 (.agg fs) gl4 (by decide) (by simp)
     have z5:rdB τ5 n4=some (Al [GV.nilS,GV.nilS,GV.nilS,GV.nilS] 0 fs):=H5.pt 2 rfl
     rw[Ai gl4 rfl] at z5
     simp +contextual (disch:=omega) only[go_sem,s5,A7 z5,A9 gl4]
     exact⟨_,rfl,fs,by rw[hd],by rw[hd];exact H5.one⟩
    |false=>
     have ht:Fy (Jf s a)=false:=by simp only[Fy,h1,h2,h3];rfl
     have hd:Cw s a=(Jf s a,0):=by simp[Cw,hok,hao,hkn1,hkn2,hri,ht]
     obtain⟨τ5,s5,H5,_⟩:=H3.st 1 rfl 4 0 (.agg [w0,w1,w2,w3]) rfl (by decide) (by simp)
     have z5:rdB τ5 n4=some [w0,w1,w2,w3]:=H5.pt 1 rfl
     simp +contextual (disch:=omega) only[go_sem,A7 z6,q1,q2,q3,Pt,h1,h2,h3,A9 (cs:=[w0,w1,w2,w3]) rfl,s5,A7 z5]
     exact⟨_,rfl,_,by rw[hd],by rw[hd];exact H5.one⟩
 obtain⟨q,τ,R,ds,rfl,h⟩:=key
 exact⟨ds,τ,R,h⟩
abbrev Rm:Nat:=198
def Rn:Fn1:=⟨34,[.t 4],(rg [oX 2 0,o 4 (.mov (.k .nilS))] (rg [o 9 (.lit 8 0 [] []),oM 5 9] (.seq (rg [oW 10 4 2,oM 11 1,oD 12 289 10 11,oN 13 12,oV 14 (ki 0)] (.blk 0 (.lop (rg [oB 15 .lss 14 13] (.seq (cn 15 .skip (.ext 0)) (.seq (.blk 1 (rg [oI 16 2 12 14,oW 17 2 16,o 7 (.new [z0,z0]),oS 2 7 17] (dw [oF 18 3 2,oL 19 18,oW 20 4 2,oW 21 2 7,oD 22 158 20 21,oI 23 8 19 22,oW 24 8 23,o 8 (.new [s0,z0,z0,z0,z0,z0,z0,(.bool false)])] [oS 8 8 24] (rg [oF 25 7 8,oL 26 25,oU 27 26] (cn 27 (.reg [oM 28 5,oW 29 8 8,o 30 (.lit 8 1 [s0,z0,z0,z0,z0,z0,z0,(.bool false)] [(0,8,(.t 29))]),o 31 (.app 8 72 [s0,z0,z0,z0,z0,z0,z0,(.bool false)] (.t 28) (.t 30)),oM 5 31]) .skip))))) (.reg [oZ 32 14 1,oM 14 32]))))))) (rg [oM 33 5,oM 4 33] .ret))))⟩
theorem Zm:A6 Tryz.prog Rm=some Rn:=by kernel_rfl
abbrev Ro:Nat:=71
def Rp:Fn1:=⟨25,[.t 4],(rg [oX 2 0,o 4 (.mov (.k .nilS))] (rg [o 8 (.lit 1 0 [] []),oM 5 8] (.seq (rg [oW 9 4 2,oM 10 1,oD 11 198 9 10,oN 12 11,oV 13 (ki 0)] (.blk 0 (.lop (rg [oB 14 .lss 13 12] (.seq (cn 14 .skip (.ext 0)) (.seq (.blk 1 (rg [oI 15 8 11 13,oW 16 8 15,o 7 (.new [s0,z0,z0,z0,z0,z0,z0,(.bool false)]),oS 8 7 16] (.reg [oM 17 5,oF 18 1 7,oF 19 0 18,oL 20 19,o 21 (.lit 1 1 [z0] [(0,1,(.t 20))]),o 22 (.app 1 8 [z0] (.t 17) (.t 21)),oM 5 22]))) (.reg [oZ 23 13 1,oM 13 23]))))))) (rg [oM 24 5,oM 4 24] .ret))))⟩
theorem Zn:A6 Tryz.prog Ro=some Rp:=by kernel_rfl
def Bb (c:Cell):Bool:= !c.gone
theorem rowT (s:State) (o:ByteArray):∃ T:List Cell,rowD s o=T.map (·.dot)/\rowL s o=T.filter Bb/\T.length<=1200120/\∀ c∈T,∃ k,∃ hk:k<s.cells.length,Eq s.cells c.dot=k/\s.cells[k]=c:=by
 cases h:B6 s with
 |true=>
  refine⟨rowC s o,by simp[rowD,h],by simp only[rowL,h,if_true];rfl,Lu (Mr h) o,fun c hc=> ?_⟩
  obtain⟨k,hk,h1,h2⟩:=A9c h hc
  exact⟨k,hk,by simp[Eq,h1],h2⟩
 |false=>exact⟨[],by simp[rowD,h],by simp[rowL,h],by simp,fun c hc=>by simp at hc⟩
theorem Uj {l:List Cell} {i:Nat} (hi:i<l.length):(l.take (i+1)).filter Bb=if Bb l[i] then(l.take i).filter Bb++[l[i]] else(l.take i).filter Bb:=by
 rw[Er hi]
 split<;>simp
theorem Wk (σ:St) (cs:List GV) (s:State) (hR:A8.R σ s cs) (o:ByteArray) (hl:Ah s<=1099511627776):∃ r τ,Ret Tryz.prog Rm [.agg cs,.str o] σ r τ/\Hp σ τ [ow Aj.kd r (rowL s o)]:=by
 have hR0:=hR
 obtain⟨a,b,c,v,rfl,_,_,_,hc⟩:=hR
 obtain⟨l1,l2,l3,l4,_⟩:=Ao hl
 refine E8 Zm (Z0z rfl) ?_
 have H:=((Hp.refl σ).new 1 [a,b,c,v]).nil_Cell
 simp +contextual (disch:=omega) only[go_sem,Rn,Tf,Kk,A9 (cs:=[a,b,c,v]) rfl]
 obtain⟨r1,τ1,R1,K1⟩:=Zi _ _ s (A8.pre hR0 H.sub) o hl
 obtain⟨T,hT1,hT2,hT3,hT4⟩:=rowT s o
 rw[hT1] at K1
 rw[hT2]
 refine Pg R1 K1 ?_
 have H:=H.add K1
 simp only[Zab,Zae] at H
 have hlen0:=(H.sl 0 rfl).len
 rw[List.length_map] at hlen0
 simp +contextual (disch:=omega) only[go_sem,hlen0]
 generalize hn1:σ.length=n1 at*
 refine Pe T.length 14 (fun i env τ=>env 2= .ptr n1 0/\env 12=r1/\env 13=gi T.length/\∃ u,env 5=u/\Hp σ τ [ow Aj.kd u ((T.take i).filter Bb),ow pDot.kd r1 (T.map fun x:Cell=>x.dot),pt 1 n1 [a,b,c,v]]) rfl ⟨rfl,rfl,rfl,_,rfl,H.pick 1 rfl⟩ ?_ ?_
 ·clear H
  rintro J hJ i env τ hi e14 c0 ⟨e2,e12,e13,u,e5,H⟩
  have hfl:=Cx T Bb i
  have hsn:=Uj hi
  have C1:=Kj (H.sl 1 rfl) (i:=i) (by simpa using hi)
  rw[List.getElem_map] at C1
  obtain⟨k,hk,hk1,hk2⟩:=hT4 T[i] (Zao hi)
  have G:=H.grow (pre1 τ (some (Blk.row 1 [gi T[i].dot.rep,gi T[i].dot.seq])))
  have CA:=A1w _ _ s (A8.pre hR0 G.sub) T[i].dot hl
  rw[hk1] at CA
  have C2:=A4 (hc.pre G.sub) hk
  rw[hk2] at C2
  simp +contextual (disch:=omega) only[go_sem,c0,e2,e5,e12,e13,e14,C1,A7 (G.pt 2 rfl),A9 (cs:=[a,b,c,v]) rfl]
  refine Ad CA ?_
  cases hg:T[i].gone with
  |true=>
   have hk0:Bb T[i]=false:=by simp[Bb,hg]
   rw[hk0,if_neg (by simp)] at hsn
   have G2:=G.grow (pre1 _ (some (Blk.row 1 [.str T[i].obj,gi T[i].dot.rep,gi T[i].dot.seq,gi T[i].time,gi T[i].ref.rep,gi T[i].ref.seq,gi T[i].val,.bool true])))
   simp +contextual (disch:=omega) only[go_sem,c0,e2,e5,e12,e13,e14,A3,C2,hg]
   refine hJ _ _ _ ⟨?_,?_,?_,u,?_,by rw[hsn];exact G2⟩
   all_goals simp +contextual (disch:=omega) only[go_sem,e2,e5,e12,e13,e14]
  |false=>
   have hk0:Bb T[i]=true:=by simp[Bb,hg]
   rw[hk0,if_pos rfl] at hsn
   have G2:=G.grow (pre1 _ (some (Blk.row 1 [.str T[i].obj,gi T[i].dot.rep,gi T[i].dot.seq,gi T[i].time,gi T[i].ref.rep,gi T[i].ref.seq,gi T[i].val,.bool false])))
   obtain⟨w',τ3,e8,H3⟩:=G2.app_Cell 0 rfl T[i] (by omega)
   simp only[hg] at e8
   simp +contextual (disch:=omega) only[go_sem,c0,e2,e5,e12,e13,e14,A3,C2,hg,e8]
   refine hJ _ _ _ ⟨?_,?_,?_,w',?_,by rw[hsn];exact H3⟩
   all_goals simp +contextual (disch:=omega) only[go_sem,e2,e5,e12,e13,e14]
 ·clear H
  rintro env τ e14 c0 ⟨e2,e12,e13,u,e5,H⟩
  rw[Zba] at H
  simp +contextual (disch:=omega) only[go_sem,c0,e2,e5,e12,e13,e14]
  exact⟨_,rfl,H.one⟩
theorem Zo (σ:St) (cs:List GV) (s:State) (hR:A8.R σ s cs) (o:ByteArray) (hl:Ah s<=1099511627776):∃ r τ,Ret Tryz.prog Ro [.agg cs,.str o] σ r τ/\Hp σ τ [ow pI.kd r (Sz s o)]:=by
 have hlen:=A8.len hR
 have hlen:cs.length=4:=hlen
 refine E8 Zn (Z0z rfl) ?_
 have H:=((Hp.refl σ).new 1 cs).nil_int
 simp +contextual (disch:=omega) only[go_sem,Rp,Tf,Kk,A9 hlen]
 obtain⟨r1,τ1,R1,K1⟩:=Wk _ cs s (A8.pre hR H.sub) o hl
 have hb:=Aaw s o
 rw[Sz]
 generalize rowL s o=T at*
 refine Pg R1 K1 ?_
 have H:=H.add K1
 simp only[Zab,Zae] at H
 have hlen0:=(H.sl 0 rfl).len
 simp +contextual (disch:=omega) only[go_sem,hlen0]
 generalize hn1:σ.length=n1 at*
 refine Pe T.length 13 (fun i env τ=>env 11=r1/\env 12=gi T.length/\∃ u,env 5=u/\Hp σ τ [ow pI.kd u ((T.take i).map (·.dot.rep)),ow Aj.kd r1 T,pt 1 n1 cs]) rfl ⟨rfl,rfl,_,rfl,H.pick 1 rfl⟩ ?_ ?_
 ·clear H
  rintro J hJ i env τ hi e13 c0 ⟨e11,e12,u,e5,H⟩
  have C1:=A4 (H.sl 1 rfl) hi
  have G:=H.grow (pre1 τ (some (Blk.row 1 (Ps T[i]))))
  obtain⟨w',τ3,e8,H3⟩:=G.app_int 0 rfl T[i].dot.rep (by simp;omega)
  simp +contextual (disch:=omega) only[go_sem,c0,e5,e11,e12,e13,C1,e8]
  refine hJ _ _ _ ⟨?_,?_,w',?_,?_⟩
  all_goals first|(simp +contextual (disch:=omega) only[go_sem,e5,e11,e12,e13];done)|skip
  rw[Zas hi,Zb1,Zbm,List.map_nil]
  exact H3
 ·clear H
  rintro env τ e13 c0 ⟨e11,e12,u,e5,H⟩
  rw[Zba] at H
  simp +contextual (disch:=omega) only[go_sem,c0,e5,e11,e12,e13]
  exact⟨_,rfl,H.one⟩
abbrev Y1:Nat:=345
def Lw:Fn1:=⟨34,[.t 2],(rg [oX 1 0,oV 2 kf] (rg [oF 4 0 1,oL 5 4,oE 6 .eql 5 6,oM 7 6,vF 8 7 0 1,vL 9 7 8,vE 10 7 .eql 9 7,oP 11 7 10,oM 3 11] (rg [oF 12 0 1,oL 13 12,oF 14 1 1,oL 15 14,oF 16 2 1,oL 17 16,oF 18 3 1,oL 19 18,o 20 (.call 279 [(.t 13),(.t 15),(.t 17),(.t 19)]),oM 21 20,jF 22 21 4 1,jL 23 21 22,jE 24 21 .geq 23 0,oQ 25 21 24,oM 26 25,jM 27 26 3,jM 28 26 27,vF 29 28 4 1,vL 30 28 29,vE 31 28 .eql 30 0,og 32 26 true (.pick (.t 28) kt (.t 31)),oQ 33 26 32,oM 2 33] .ret)))⟩
theorem A5b:A6 Tryz.prog Y1=some Lw:=by kernel_rfl
abbrev Uk:Nat:=346
def Ul:Fn1:=⟨42,[.c 6 true 2,.t 7],(rg [oX 3 0,o 6 (.new [z0,z0]),oV 7 kf] (.seq (rg [oW 10 4 3,oC 11 199 10,oU 12 11,oM 13 12,vM 14 13 2,vE 15 13 .lss 14 0,oP 16 13 15] (cn 16 (rg [o 17 (.build [z0,z0] []),oS 2 6 17,oV 7 kf] .ret) .skip)) (rg [oW 18 4 3,oM 19 1,oD 20 145 18 19,oM 8 20] (.seq (rg [oV 9 (ki 0)] (.blk 0 (.lop (.seq (rg [oM 21 9,oM 22 8,oN 23 22,oB 24 .lss 21 23] (cn 24 .skip (.ext 0))) (.seq (.blk 1 (.seq (rg [oM 27 8,oM 28 9,oI 29 8 27 28,oF 30 7 29,oL 31 30] (cn 31 (.ext 1) .skip)) (.seq (rg [oM 32 2,oE 33 .eql 32 0] (cn 33 (rg [oM 34 8,oM 35 9,oI 36 8 34 35,oF 37 1 36,oW 38 2 37,oS 2 6 38,oV 7 kt] .ret) .skip)) (.reg [oM 39 2,oE 40 .sub 39 1,oM 2 40])))) (.reg [oM 25 9,oZ 26 25 1,oM 9 26])))))) (rg [o 41 (.build [z0,z0] []),oS 2 6 41,oV 7 kf] .ret)))))⟩
theorem A29:A6 Tryz.prog Uk=some Ul:=by kernel_rfl
def I3 (e:Edit):Bool:=Bd e.kind e.obj e.key e.val&&(decide (0<=e.place)&&((e.kind==6||e.kind==7)||e.place==0))
theorem A2a (σ:St) (e:Edit) (ho:e.obj.size<=1099511627776) (hk:e.key.size<=1099511627776):Ret Tryz.prog Y1 [.agg [gi e.kind,.str e.obj,.str e.key,gi e.val,gi e.place]] σ (.bool (I3 e)) σ:=by
 refine Am A5b (Z0z rfl) trivial ?_
 cases h6:(e.kind==6) with
 |true=>
  simp +contextual (disch:=omega) only[go_sem,Lw,h6]
  refine Aa (Jb _ _ _ _ _ ho hk) (fun h1=> ?_) (fun h1=> ?_)
  ·cases h2:decide (0<=e.place) with
   |true=>simp +contextual (disch:=omega) only[go_sem,h2,I3,h1,h6,Zbp,Zbk]
   |false=>simp +contextual (disch:=omega) only[go_sem,h2,I3,h1,h6,Zav,Zbw]
  ·simp +contextual (disch:=omega) only[go_sem,I3,h1,Zav]
 |false=>
  cases h7:(e.kind==7) with
  |true=>
   simp +contextual (disch:=omega) only[go_sem,Lw,h6,h7]
   refine Aa (Jb _ _ _ _ _ ho hk) (fun h1=> ?_) (fun h1=> ?_)
   ·cases h2:decide (0<=e.place) with
    |true=>simp +contextual (disch:=omega) only[go_sem,h2,I3,h1,h6,h7,Zbp,Zbx,Zbk]
    |false=>simp +contextual (disch:=omega) only[go_sem,h2,I3,h1,h6,Zav,Zbw]
   ·simp +contextual (disch:=omega) only[go_sem,I3,h1,Zav]
  |false=>
   simp +contextual (disch:=omega) only[go_sem,Lw,h6,h7]
   refine Aa (Jb _ _ _ _ _ ho hk) (fun h1=> ?_) (fun h1=> ?_)
   ·cases h2:decide (0<=e.place) with
    |true=>simp +contextual (disch:=omega) only[go_sem,h2,I3,h1,h6,h7,Zbp,Zbx,Zb5,Zbk]
    |false=>simp +contextual (disch:=omega) only[go_sem,h2,I3,h1,h6,Zav,Zbw]
   ·simp +contextual (disch:=omega) only[go_sem,I3,h1,Zav]
def Cb (s:State) (o:ByteArray) (i:Int):Dot×Bool:=if h:0<=i/\i.toNat<(rowL s o).length then((rowL s o)[i.toNat].dot,true) else(⟨0,0⟩,false)
theorem flt_at {α:Type} {l:List α} {p:α->Bool} {k:Nat} (hk:k<l.length) (hp:p l[k]=true):∃ h:((l.take k).filter p).length<(l.filter p).length,(l.filter p)[((l.take k).filter p).length]=l[k]:=by
 have e:l.filter p=(l.take k).filter p++l[k]::(l.drop (k+1)).filter p:=by
  have h1:l=l.take k++l[k]::l.drop (k+1):=by rw[<- List.drop_eq_getElem_cons hk,List.take_append_drop]
  have h2:l.filter p=(l.take k++l[k]::l.drop (k+1)).filter p:=congrArg _ h1
  rw[h2,Zbf,List.filter_cons_of_pos hp]
 refine⟨by rw[e];simp,?_⟩
 simp[e]
theorem Og (σ:St) (cs:List GV) (s:State) (hR:A8.R σ s cs) (o:ByteArray) (i:Int) (hl:Ah s<=1099511627776) (hi6:i<=9223372036854775807):Ret Tryz.prog Uk [.agg cs,.str o,gi i] σ (.tup [.agg [gi (Cb s o i).1.rep,gi (Cb s o i).1.seq],.bool (Cb s o i).2]) σ:=by
 have hlen:cs.length=4:=A8.len hR
 refine Am A29 (Z0z rfl) (by simp[vLt,cLt,sLt]) ?_
 have H:=((Hp.refl σ).new 1 cs).new 1 [gi 0,gi 0]
 simp +contextual (disch:=omega) only[go_sem,Ul,Kk,A9 hlen]
 generalize hn2:(σ++[some (Blk.row 1 cs)]).length=n2 at*
 have hno:¬ (0<=i/\i.toNat<(rowL s o).length)->Cb s o i=(⟨0,0⟩,false):=fun h=>by unfold Cb;rw[dif_neg h]
 refine Aa (Gp _ _ s (A8.pre hR H.sub) hl) (fun hok=> ?_) (fun hok=> ?_)
 rotate_left
 ·have hpl:=hno (by simp[rowL,hok])
  obtain⟨τ2,s2,H2,_⟩:=H.st 0 rfl 2 0 (.agg [gi 0,gi 0]) rfl (by decide) (by simp)
  have z2:rdB τ2 n2=some [gi 0,gi 0]:=H2.pt 0 rfl
  simp +contextual (disch:=omega) only[go_sem,s2,A7 z2,A9 (cs:=[gi 0,gi 0]) rfl,hpl,H2.sub]
 by_cases hi:i<0
 ·have hpl:=hno (by omega)
  have ci:decide (i<0)=true:=decide_eq_true hi
  obtain⟨τ2,s2,H2,_⟩:=H.st 0 rfl 2 0 (.agg [gi 0,gi 0]) rfl (by decide) (by simp)
  have z2:rdB τ2 n2=some [gi 0,gi 0]:=H2.pt 0 rfl
  simp +contextual (disch:=omega) only[go_sem,ci,s2,A7 z2,A9 (cs:=[gi 0,gi 0]) rfl,hpl,H2.sub]
 have ci:decide (i<0)=false:=decide_eq_false hi
 obtain⟨m,rfl⟩:∃ m:Nat,i=(m:Int):=⟨i.toNat,by omega⟩
 have hrl:rowL s o=(rowC s o).filter Bb:=by simp only[rowL,hok,if_true];rfl
 have hrb:=Lu (Mr hok) o
 simp +contextual (disch:=omega) only[go_sem,ci,A7 (H.pt 1 rfl),A9 hlen]
 obtain⟨r1,τ1,R1,K1⟩:=Rh _ cs s (A8.pre hR H.sub) o hok hl
 refine Pg R1 K1 ?_
 have H:=H.add K1
 simp only[Zab,Zae] at H
 rw[hrl] at hno
 have hyes:∀ h:m<((rowC s o).filter Bb).length,Cb s o m=(((rowC s o).filter Bb)[m].dot,true):=fun h=>by
  unfold Cb
  rw[dif_pos ⟨by omega,by rw[hrl];simpa using h⟩]
  simp only[hrl,Int.toNat_natCast]
 generalize hT:rowC s o=T at*
 simp +contextual (disch:=omega) only[go_sem]
 have H:Hp σ τ1 [ow Aj.kd r1 T,pt 1 n2 [gi 0,gi 0]]:=(((H.pick 2 rfl).drop1))
 refine A58 T.length 9 0 (fun k env τ=>env 2=gi ((m:Int) - (((T.take k).filter Bb).length:Nat))/\((T.take k).filter Bb).length<=m/\env 6= .ptr n2 0/\env 8=r1/\Hp σ τ [ow Aj.kd r1 T,pt 1 n2 [gi 0,gi 0]]) (fun env τ=>env 6= .ptr n2 0/\Cb s o m=(⟨0,0⟩,false)/\Hp σ τ [pt 1 n2 [gi 0,gi 0]]) (fun env τ=>env 6= .ptr n2 0/\env 7= .bool true/\(Cb s o m).2=true/\Hp σ τ [pt 1 n2 [gi (Cb s o m).1.rep,gi (Cb s o m).1.seq]]) rfl ⟨by simp +contextual (disch:=omega) only[go_sem,Zb2,List.filter_nil,Zax,Int.natCast_zero,Int.sub_zero],Nat.zero_le _,rfl,rfl,H⟩ ?_ ?_ ?_ ?_
 ·clear H
  rintro J Y W hJ hY hW k env τ hk e9 c0 ⟨e2,hc,e6,e8,H⟩
  have C1:=A4 (H.sl 0 rfl) hk
  have hln:=(H.sl 0 rfl).len
  have hsn:=Uj hk
  generalize hcc:((T.take k).filter Bb).length=c at*
  cases hg:T[k].gone with
  |true=>
   have hk0:Bb T[k]=false:=by simp[Bb,hg]
   rw[hk0,if_neg (by simp)] at hsn
   simp +contextual (disch:=omega) only[go_sem,c0,e2,e6,e8,e9,hln,C1,hg]
   refine hJ _ _ _ ⟨?_,by rw[hsn,hcc];exact hc,?_,?_,H⟩
   all_goals simp +contextual (disch:=omega) only[go_sem,e2,e6,e8,hsn,hcc]
  |false=>
   have hk0:Bb T[k]=true:=by simp[Bb,hg]
   obtain⟨hf1,hf2⟩:=flt_at hk hk0
   rw[hk0,if_pos rfl] at hsn
   by_cases hm:c=m
   ·have z:((m:Int) - c==0)=true:=by simp;omega
    have hlt:m<(T.filter Bb).length:=by omega
    have hpl:=hyes hlt
    have hix:(T.filter Bb)[m]=T[k]:=by
     have:((T.take k).filter Bb).length=m:=by omega
     rw[<- hf2];congr 1;exact this.symm
    rw[hix] at hpl
    obtain⟨τ2,s2,H2,_⟩:=H.st 1 rfl 2 0 (.agg [gi T[k].dot.rep,gi T[k].dot.seq]) rfl (by decide) (by simp)
    have H2:Hp σ τ2 [ow Aj.kd r1 T,pt 1 n2 [gi T[k].dot.rep,gi T[k].dot.seq]]:=H2
    simp +contextual (disch:=omega) only[go_sem,c0,e2,e6,e8,e9,hln,C1,hg,z,s2]
    refine hW _ _ ⟨?_,?_,by rw[hpl],by rw[hpl];exact H2.drop1⟩
    all_goals simp +contextual (disch:=omega) only[go_sem,e6]
   ·have z:((m:Int) - c==0)=false:=by simp;omega
    have hl1:((T.take (k+1)).filter Bb).length=c+1:=by rw[hsn];simp[hcc]
    have hI:(m:Int) - c - 1=(m:Int) - ((c:Int)+1):=by omega
    simp +contextual (disch:=omega) only[go_sem,c0,e2,e6,e8,e9,hln,C1,hg,z]
    refine hJ _ _ _ ⟨?_,by rw[hl1];omega,?_,?_,H⟩
    all_goals simp +contextual (disch:=omega) only[go_sem,e2,e6,e8,hl1,hI]
 ·clear H
  rintro Y hY env τ e9 c0 ⟨e2,hc,e6,e8,H⟩
  rw[Zba] at hc
  have hln:=(H.sl 0 rfl).len
  simp +contextual (disch:=omega) only[go_sem,c0,e2,e6,e8,e9,hln]
  refine hY _ _ ⟨?_,hno (by simp;omega),H.drop1⟩
  simp +contextual (disch:=omega) only[go_sem,e6]
 ·clear H
  rintro env τ ⟨e6,hpl,H⟩
  obtain⟨τ2,s2,H2,_⟩:=H.st 0 rfl 2 0 (.agg [gi 0,gi 0]) rfl (by decide) (by simp)
  have z2:rdB τ2 n2=some [gi 0,gi 0]:=H2.pt 0 rfl
  simp +contextual (disch:=omega) only[go_sem,e6,s2,A7 z2,A9 (cs:=[gi 0,gi 0]) rfl,hpl,H2.sub]
 ·clear H
  rintro env τ ⟨e6,e7,h2,H⟩
  simp +contextual (disch:=omega) only[go_sem,e6,e7,A7 (H.pt 0 rfl),A9 (cs:=[gi (Cb s o m).1.rep,gi (Cb s o m).1.seq]) rfl,h2,H.sub]
abbrev Um:Nat:=276
def A2b:Fn1:=⟨98,[.c 8 true 10,.t 9],(rg [oX 4 0,oX 7 3,o 8 (.new [z0,z0,z0,.nilS,z0,s0,s0,z0,z0,z0]),oV 9 (ki 0)] (.seq (rg [oW 12 4 4,oC 13 199 12,oU 14 13,oM 15 14,vW 16 15 5 7,vC 17 15 345 16,vU 18 15 17,oP 19 15 18,oM 20 19,vM 21 20 1,og 22 20 false (.call 122 [(.t 21),(ki 0),(ki 2)]),vU 23 20 22,oP 24 20 23,oM 25 24,vM 26 25 2,og 27 25 false (.call 122 [(.t 26),(ki 1),(ki 10000)]),vU 28 25 27,oP 29 25 28] (cn 29 (rg [o 30 (.build [z0,z0,z0,.nilS,z0,s0,s0,z0,z0,z0] []),oS 10 8 30,oV 9 (ki 3)] .ret) .skip)) (dw [oM 31 1,oF 32 0 4,oL 33 32,oM 34 1,oI 35 1 33 34,oL 36 35,oZ 37 36 1,o 38 (.build [z0,z0] [(0,1,(.t 31)),(1,1,(.t 37))]),oM 39 2,o 40 (.lit 1 0 [] []),oF 41 0 4,oL 42 41,o 43 (.app 1 8 [z0] (.t 40) (.t 42)),oF 44 0 7,oL 45 44,oF 46 1 7,oL 47 46,oF 48 2 7,oL 49 48,oF 50 3 7,oL 51 50,o 52 (.build [z0,z0,z0,.nilS,z0,s0,s0,z0,z0,z0] [(0,2,(.t 38)),(2,1,(.t 39)),(3,1,(.t 43)),(4,1,(.t 45)),(5,1,(.t 47)),(6,1,(.t 49)),(7,1,(.t 51))]),o 10 (.new [z0,z0,z0,.nilS,z0,s0,s0,z0,z0,z0])] [oS 10 10 52] (rg [oV 11 kt] (.seq (rg [oF 53 0 7,oL 54 53,oE 55 .eql 54 7] (cn 55 (.reg [oW 57 4 4,oF 58 1 7,oL 59 58,oF 60 4 7,oL 61 60,o 62 (.call 346 [(.t 57),(.t 59),(.t 61)]),oM 56 62,o 63 (.ext 0 (.t 56)),o 64 (.ext 1 (.t 56)),oF 65 8 10,oS 2 65 63,oM 11 64]) .skip)) (.seq (rg [oF 66 0 7,oL 67 66,oE 68 .eql 67 6,oM 69 68,jF 70 69 4 7,jL 71 69 70,jE 72 69 .gtr 71 0,oQ 73 69 72] (cn 73 (.reg [oW 75 4 4,oF 76 1 7,oL 77 76,oF 78 4 7,oL 79 78,oE 80 .sub 79 1,o 81 (.call 346 [(.t 75),(.t 77),(.t 80)]),oM 74 81,o 82 (.ext 0 (.t 74)),o 83 (.ext 1 (.t 74)),oF 84 8 10,oS 2 84 82,oM 11 83]) .skip)) (.seq (rg [oF 85 0 10,oW 86 2 85,oC 87 168 86,oU 88 87] (cn 88 (rg [o 89 (.build [z0,z0,z0,.nilS,z0,s0,s0,z0,z0,z0] []),oS 10 8 89,oV 9 (ki 3)] .ret) .skip)) (.seq (rg [oM 90 11,oU 91 90] (cn 91 (rg [o 92 (.build [z0,z0,z0,.nilS,z0,s0,s0,z0,z0,z0] []),oS 10 8 92,oV 9 (ki 5)] .ret) .skip)) (.seq (rg [oW 93 10 10,oC 94 185 93,oU 95 94] (cn 95 (rg [o 96 (.build [z0,z0,z0,.nilS,z0,s0,s0,z0,z0,z0] []),oS 10 8 96,oV 9 (ki 3)] .ret) .skip)) (rg [oW 97 10 10,oS 10 8 97,oV 9 (ki 0)] .ret))))))))))⟩
theorem A7r:A6 Tryz.prog Um=some A2b:=by kernel_rfl
def Ds (s:State) (e:Edit):Dot×Bool:=if e.kind=7 then Cb s e.obj e.place else if e.kind=6/\0<e.place then Cb s e.obj (e.place - 1) else(d0,true)
def act0:Act:=⟨d0,0,[],0,⟨#[]⟩,⟨#[]⟩,0,d0⟩
def A9o (s:State) (rep time:Int) (e:Edit) (d:Dot):Act:=⟨⟨rep,at0 s.know rep+1⟩,time,s.know,e.kind,e.obj,e.key,e.val,d⟩
def Y3 (s:State) (rep time:Int) (e:Edit):Act:=A9o s rep time e (Ds s e).1
abbrev awV (s:State) (rep time:Int) (e:Edit) (kv:GV) (d:Dot):List GV:=[gi rep,gi (at0 s.know rep+1),gi time,kv,gi e.kind,.str e.obj,.str e.key,gi e.val,gi d.rep,gi d.seq]
def Df (s:State) (rep time:Int) (e:Edit):Act×Int:=
 if B6 s&&(I3 e&&(inB rep 0 2&&inB time 1 10000)) then
  if F4 ⟨rep,at0 s.know rep+1⟩ then
   if(Ds s e).2 then
    if De (Y3 s rep time e) then(Y3 s rep time e,0) else(act0,3)
   else(act0,5)
  else(act0,3)
 else(act0,3)
abbrev edV (e:Edit):List GV:=[gi e.kind,.str e.obj,.str e.key,gi e.val,gi e.place]
abbrev zeV:List GV:=[gi 0,gi 0,gi 0,GV.nilS,gi 0,.str ⟨#[]⟩,.str ⟨#[]⟩,gi 0,gi 0,gi 0]
theorem own0 {σ τ:St} {rs:List Thg} (H:Hp σ τ rs):Hp σ τ [own kAct zeV act0]:=Hp.one (Hp.ownAct (x:=act0) (Hp.nilS H))
theorem Adb {s:State} (hok:B6 s=true) {rep:Int} (h:inB rep 0 2=true):∃ r:Nat,rep=(r:Int)/\∃ h:r<s.know.length,at0 s.know rep=s.know[r]/\0<=s.know[r]/\s.know[r]<=1000:=by
 have h2:=Br.1 h
 have hk:okK s.know=true:=by simp only[B6,Zaa] at hok;exact hok.1
 have hl:=D8 hk
 obtain⟨r,rfl⟩:∃ r:Nat,rep=(r:Int):=⟨rep.toNat,by omega⟩
 have hr:r<s.know.length:=by omega
 refine⟨r,rfl,hr,?_,?_⟩
 ·simp[at0,hr]
 ·have:=(Zbb.1 (by simp only[okK,Zaa] at hk;exact hk.1)) _ (Zao hr)
  simpa [seqB,inB] using this
theorem Un (σ:St) (cs:List GV) (s:State) (hR:A8.R σ s cs) (rep time:Int) (e:Edit) (hl:Ah s<=1099511627776) (ho:e.obj.size<=1099511627776) (hk:e.key.size<=1099511627776) (hp:e.place<=9223372036854775807) (hm:s.know.length+e.obj.size+e.key.size<=1099511627776):∃ ds τ,Ret Tryz.prog Um [.agg cs,gi rep,gi time,.agg (edV e)] σ (.tup [.agg ds,gi (Df s rep time e).2]) τ/\Hp σ τ [own kAct ds (Df s rep time e).1]:=by
 have hR0:=hR
 obtain⟨a1,b1,c1,v1,rfl,hkn,hb,hc,hv⟩:=hR
 obtain⟨l1,l2,l3,l4,_⟩:=Ao hl
 have key:∃ q τ,Ret Tryz.prog Um [.agg [a1,b1,c1,v1],gi rep,gi time,.agg (edV e)] σ q τ/\∃ ds,q= .tup [.agg ds,gi (Df s rep time e).2]/\Hp σ τ [own kAct ds (Df s rep time e).1]:=by
  refine E8 A7r (Z0z rfl) ?_
  have H:=(((Hp.refl σ).new 1 [a1,b1,c1,v1]).new 1 (edV e)).new 1 zeV
  simp only[A2b]
  obtain⟨n3,hn3⟩:∃ n,n=(σ++[some (Blk.row 1 [a1,b1,c1,v1])]++[some (Blk.row 1 (edV e))]).length:=⟨_,rfl⟩
  obtain⟨n2,hn2⟩:∃ n,n=(σ++[some (Blk.row 1 [a1,b1,c1,v1])]).length:=⟨_,rfl⟩
  obtain⟨n1,hn1⟩:∃ n,n=σ.length:=⟨_,rfl⟩
  rw[<- hn3,<-hn2,<-hn1] at H
  refine Ci (fun env τ=>env 1=gi rep/\env 2=gi time/\env 4= .ptr n1 0/\env 7= .ptr n2 0/\env 8= .ptr n3 0/\Hp σ τ [pt 1 n3 zeV,pt 1 n2 (edV e),pt 1 n1 [a1,b1,c1,v1]]) (fun Y hY=>by
   simp +contextual (disch:=omega) only[go_sem]
   refine hY _ _ ⟨?_,?_,?_,?_,?_,H⟩
   all_goals simp +contextual (disch:=omega) only[go_sem,hn1,hn2,hn3]) ?_
  clear H
  rintro env τ ⟨e1,e2,e4,e7,e8,H⟩
  have bad:∀ c,Df s rep time e=(act0,c)->∃ τr,stG 10 τ (.ptr n3 0) (.agg zeV)=some (.tup [],τr)/\ldG true 10 τr (.ptr n3 0)=some (.agg zeV)/\∃ ds,(GV.tup [.agg zeV,gi c])= .tup [.agg ds,gi (Df s rep time e).2]/\Hp σ τr [own kAct ds (Df s rep time e).1]:=fun c hc=>by
   obtain⟨τr,sr,Hr,_⟩:=H.st 0 rfl 10 0 (.agg zeV) rfl (by decide) (by simp)
   have zr:rdB τr n3=some zeV:=Hr.pt 0 rfl
   refine⟨τr,sr,?_,zeV,by rw[hc],by rw[hc];exact own0 Hr⟩
   simp +contextual (disch:=omega) only[go_sem,A7 zr,A9 (cs:=zeV) rfl]
  refine Ci (fun env τ'=>env 1=gi rep/\env 2=gi time/\env 4= .ptr n1 0/\env 7= .ptr n2 0/\env 8= .ptr n3 0/\τ=τ'/\(B6 s&&(I3 e&&(inB rep 0 2&&inB time 1 10000)))=true) (fun Y hY=>by
   simp +contextual (disch:=omega) only[go_sem,e1,e2,e4,e7,e8,A7 (H.pt 2 rfl),A9 (cs:=[a1,b1,c1,v1]) rfl]
   refine Aa (Gp _ _ s (A8.pre hR0 H.sub) hl) (fun h1=> ?_) (fun h1=> ?_)
   rotate_left
   ·obtain⟨τr,q1,q2,q3⟩:=bad 3 (by simp[Df,h1])
    simp +contextual (disch:=omega) only[go_sem,e1,e2,e4,e7,e8,q1,q2]
    exact⟨_,rfl,q3⟩
   simp +contextual (disch:=omega) only[go_sem,e1,e2,e4,e7,e8,A7 (H.pt 1 rfl),A9 (cs:=edV e) rfl]
   refine Aa (A2a _ e ho hk) (fun h2=> ?_) (fun h2=> ?_)
   rotate_left
   ·obtain⟨τr,q1,q2,q3⟩:=bad 3 (by simp[Df,h1,h2])
    simp +contextual (disch:=omega) only[go_sem,e1,e2,e4,e7,e8,q1,q2]
    exact⟨_,rfl,q3⟩
   simp +contextual (disch:=omega) only[go_sem,e1,e2,e4,e7,e8]
   refine Aa (As _ rep 0 2) (fun h3=> ?_) (fun h3=> ?_)
   rotate_left
   ·obtain⟨τr,q1,q2,q3⟩:=bad 3 (by simp[Df,h1,h2,h3])
    simp +contextual (disch:=omega) only[go_sem,e1,e2,e4,e7,e8,q1,q2]
    exact⟨_,rfl,q3⟩
   simp +contextual (disch:=omega) only[go_sem,e1,e2,e4,e7,e8]
   refine Aa (As _ time 1 10000) (fun h4=> ?_) (fun h4=> ?_)
   rotate_left
   ·obtain⟨τr,q1,q2,q3⟩:=bad 3 (by simp[Df,h1,h2,h3,h4])
    simp +contextual (disch:=omega) only[go_sem,e1,e2,e4,e7,e8,q1,q2]
    exact⟨_,rfl,q3⟩
   simp +contextual (disch:=omega) only[go_sem,e1,e2,e4,e7,e8]
   refine hY _ _ ⟨?_,?_,?_,?_,?_,rfl,by simp[h1,h2,h3,h4]⟩
   all_goals simp +contextual (disch:=omega) only[go_sem,e1,e2,e4,e7,e8]) ?_
  clear e1 e2 e4 e7 e8
  rintro env τ' ⟨e1,e2,e4,e7,e8,rfl,hh⟩
  have hh0:=hh
  simp only[Zaa] at hh
  obtain⟨r,hr,hrl,hat,hr0,hr1⟩:=Adb hh.1 hh.2.2.1
  have A1:=E6 (hkn.pre H.sub) hrl
  have n0:Aw (some (.int .i64 rep))=some r:=by rw[hr];exact A3
  refine Ci (fun env τ=>∃ n10 kv,env 1=gi rep/\env 2=gi time/\env 4= .ptr n1 0/\env 7= .ptr n2 0/\env 8= .ptr n3 0/\env 10= .ptr n10 0/\Hp σ τ [pt 1 n10 (awV s rep time e kv d0),ow pI.kd kv s.know,pt 1 n3 zeV,pt 1 n2 (edV e),pt 1 n1 [a1,b1,c1,v1]]) (fun Y hY=>by
   have z1:=Pf (H.pt 2 rfl) [some (Blk.row 1 [])]
   obtain⟨kv,τk,ek,qk,Hk⟩:=H.cp_int (hkn.pre H.sub) l1
   have ck:=(Hk.sl 0 rfl).cell
   have Hn:=(Hk.new 1 (awV s rep time e kv d0))
   simp +contextual (disch:=omega) only[go_sem,e1,e2,e4,e7,e8,A7 (H.pt 2 rfl),A7 (H.pt 1 rfl),A7 z1,A7 (Hk.pt 2 rfl),n0,A1,ek,qk,ck,<-hat]
   refine hY _ _ ⟨τk.length,kv,?_,?_,?_,?_,?_,?_,Hn⟩
   all_goals simp +contextual (disch:=omega) only[go_sem,e1,e2,e4,e7,e8]) ?_
  clear H e1 e2 e4 e7 e8 bad A1
  rintro env τ ⟨n10,kv,e1,e2,e4,e7,e8,e10,H⟩
  refine Ci (fun env τ'=>τ=τ'/\env 1=gi rep/\env 2=gi time/\env 4= .ptr n1 0/\env 7= .ptr n2 0/\env 8= .ptr n3 0/\env 10= .ptr n10 0/\env 11= .bool true) (fun Y hY=>by
   simp +contextual (disch:=omega) only[go_sem,e1,e2,e4,e7,e8,e10]
   refine hY _ _ ⟨rfl,?_,?_,?_,?_,?_,?_,?_⟩
   all_goals simp +contextual (disch:=omega) only[go_sem,e1,e2,e4,e7,e8,e10]) ?_
  clear e1 e2 e4 e7 e8 e10
  rintro env τ' ⟨rfl,e1,e2,e4,e7,e8,e10,e11⟩
  refine Ci (fun env τ=>env 4= .ptr n1 0/\env 7= .ptr n2 0/\env 8= .ptr n3 0/\env 10= .ptr n10 0/\env 11= .bool (if e.kind=7 then Cb s e.obj e.place else(d0,true)).2/\Hp σ τ [pt 1 n10 (awV s rep time e kv (if e.kind=7 then Cb s e.obj e.place else(d0,true)).1),ow pI.kd kv s.know,pt 1 n3 zeV,pt 1 n2 (edV e),pt 1 n1 [a1,b1,c1,v1]]) (fun Y hY=>by
   by_cases k7:e.kind=7
   ·have b7:(e.kind==7)=true:=by simp[k7]
    simp only[if_pos k7] at hY
    have PR:=Og τ _ s (A8.pre hR0 H.sub) e.obj e.place hl hp
    obtain⟨τ2,st2,H2,_⟩:=H.st 0 rfl 2 8 (.agg [gi (Cb s e.obj e.place).1.rep,gi (Cb s e.obj e.place).1.seq]) rfl (by decide) (by simp)
    simp +contextual (disch:=omega) only[go_sem,e4,e7,e8,e10,b7,A7 (H.pt 3 rfl),A7 (H.pt 4 rfl),A9 (cs:=[a1,b1,c1,v1]) rfl]
    refine Ad PR ?_
    simp +contextual (disch:=omega) only[go_sem,e4,e7,e8,e10,st2]
    refine hY _ _ ⟨?_,?_,?_,?_,?_,H2⟩
    all_goals simp +contextual (disch:=omega) only[go_sem,e4,e7,e8,e10]
   ·have b7:(e.kind==7)=false:=by simp[k7]
    simp only[if_neg k7] at hY
    simp +contextual (disch:=omega) only[go_sem,e4,e7,e8,e10,e11,b7,A7 (H.pt 3 rfl)]
    refine hY _ _ ⟨?_,?_,?_,?_,?_,H⟩
    all_goals simp +contextual (disch:=omega) only[go_sem,e4,e7,e8,e10,e11]) ?_
  clear H e1 e2 e4 e7 e8 e10 e11
  rintro env τ ⟨e4,e7,e8,e10,e11,H⟩
  refine Ci (fun env τ=>env 4= .ptr n1 0/\env 7= .ptr n2 0/\env 8= .ptr n3 0/\env 10= .ptr n10 0/\env 11= .bool (Ds s e).2/\Hp σ τ [pt 1 n10 (awV s rep time e kv (Ds s e).1),ow pI.kd kv s.know,pt 1 n3 zeV,pt 1 n2 (edV e),pt 1 n1 [a1,b1,c1,v1]]) (fun Y hY=>by
   by_cases k7:e.kind=7
   ·have b6:(e.kind==6)=false:=by simp[k7]
    have hq:Ds s e=Cb s e.obj e.place:=if_pos k7
    rw[if_pos k7] at H e11
    simp +contextual (disch:=omega) only[go_sem,e4,e7,e8,e10,e11,b6,A7 (H.pt 3 rfl)]
    refine hY _ _ ⟨?_,?_,?_,?_,?_,by rw[hq];exact H⟩
    all_goals simp +contextual (disch:=omega) only[go_sem,e4,e7,e8,e10,e11,hq]
   rw[if_neg k7] at H e11
   by_cases k6:e.kind=6
   ·have b6:(e.kind==6)=true:=by simp[k6]
    by_cases kp:0<e.place
    ·have bp:decide (0<e.place)=true:=decide_eq_true kp
     have hq:Ds s e=Cb s e.obj (e.place - 1):=by unfold Ds;rw[if_neg k7,if_pos ⟨k6,kp⟩]
     have PR:=Og τ _ s (A8.pre hR0 H.sub) e.obj (e.place - 1) hl (by omega)
     obtain⟨τ2,st2,H2,_⟩:=H.st 0 rfl 2 8 (.agg [gi (Cb s e.obj (e.place - 1)).1.rep,gi (Cb s e.obj (e.place - 1)).1.seq]) rfl (by decide) (by simp)
     simp +contextual (disch:=omega) only[go_sem,e4,e7,e8,e10,b6,bp,A7 (H.pt 3 rfl),A7 (H.pt 4 rfl),A9 (cs:=[a1,b1,c1,v1]) rfl]
     refine Ad PR ?_
     simp +contextual (disch:=omega) only[go_sem,e4,e7,e8,e10,st2]
     refine hY _ _ ⟨?_,?_,?_,?_,?_,by rw[hq];exact H2⟩
     all_goals simp +contextual (disch:=omega) only[go_sem,e4,e7,e8,e10,hq]
    ·have bp:decide (0<e.place)=false:=decide_eq_false kp
     have hq:Ds s e=(d0,true):=by unfold Ds;rw[if_neg k7,if_neg (fun h=>kp h.2)]
     simp +contextual (disch:=omega) only[go_sem,e4,e7,e8,e10,e11,b6,bp,A7 (H.pt 3 rfl)]
     refine hY _ _ ⟨?_,?_,?_,?_,?_,by rw[hq];exact H⟩
     all_goals simp +contextual (disch:=omega) only[go_sem,e4,e7,e8,e10,e11,hq]
   ·have b6:(e.kind==6)=false:=by simp[k6]
    have hq:Ds s e=(d0,true):=by unfold Ds;rw[if_neg k7,if_neg (fun h=>k6 h.1)]
    simp +contextual (disch:=omega) only[go_sem,e4,e7,e8,e10,e11,b6,A7 (H.pt 3 rfl)]
    refine hY _ _ ⟨?_,?_,?_,?_,?_,by rw[hq];exact H⟩
    all_goals simp +contextual (disch:=omega) only[go_sem,e4,e7,e8,e10,e11,hq]) ?_
  clear H e4 e7 e8 e10 e11
  rintro env τ ⟨e4,e7,e8,e10,e11,H⟩
  have bad:∀ c,Df s rep time e=(act0,c)->∃ τr,stG 10 τ (.ptr n3 0) (.agg zeV)=some (.tup [],τr)/\ldG true 10 τr (.ptr n3 0)=some (.agg zeV)/\∃ ds,(GV.tup [.agg zeV,gi c])= .tup [.agg ds,gi (Df s rep time e).2]/\Hp σ τr [own kAct ds (Df s rep time e).1]:=fun c hc=>by
   obtain⟨τr,sr,Hr,_⟩:=H.st 2 rfl 10 0 (.agg zeV) rfl (by decide) (by simp)
   have zr:rdB τr n3=some zeV:=Hr.pt 2 rfl
   refine⟨τr,sr,?_,zeV,by rw[hc],by rw[hc];exact own0 Hr⟩
   simp +contextual (disch:=omega) only[go_sem,A7 zr,A9 (cs:=zeV) rfl]
  simp +contextual (disch:=omega) only[go_sem,e4,e7,e8,e10,e11,A7 (H.pt 0 rfl)]
  refine Aa (Ee τ ⟨rep,at0 s.know rep+1⟩) (fun h5=> ?_) (fun h5=> ?_)
  rotate_left
  ·obtain⟨τr,q1,q2,q3⟩:=bad 3 (by unfold Df;rw[if_pos hh0,if_neg (by simp[h5])])
   simp +contextual (disch:=omega) only[go_sem,e4,e7,e8,e10,e11,q1,q2]
   exact⟨_,rfl,q3⟩
  cases h6:(Ds s e).2 with
  |false=>
   rw[h6] at e11
   obtain⟨τr,q1,q2,q3⟩:=bad 5 (by unfold Df;rw[if_pos hh0,if_pos h5,if_neg (by simp[h6])])
   simp +contextual (disch:=omega) only[go_sem,e4,e7,e8,e10,e11,q1,q2]
   exact⟨_,rfl,q3⟩
  |true=>
   rw[h6] at e11
   simp +contextual (disch:=omega) only[go_sem,e4,e7,e8,e10,e11,A7 (H.pt 0 rfl),A9 (cs:=awV s rep time e kv (Ds s e).1) rfl]
   refine Aa (Mq τ (awV s rep time e kv (Ds s e).1) (Y3 s rep time e) ⟨kv,rfl,H.sl 1 rfl⟩ (by unfold Ha;exact hm)) (fun h7=> ?_) (fun h7=> ?_)
   rotate_left
   ·obtain⟨τr,q1,q2,q3⟩:=bad 3 (by unfold Df;rw[if_pos hh0,if_pos h5,if_pos h6,if_neg (by simp[h7])])
    simp +contextual (disch:=omega) only[go_sem,e4,e7,e8,e10,e11,q1,q2]
    exact⟨_,rfl,q3⟩
   have hd:Df s rep time e=(Y3 s rep time e,0):=by unfold Df;rw[if_pos hh0,if_pos h5,if_pos h6,if_pos h7]
   obtain⟨τr,sr,Hr,_⟩:=H.st 2 rfl 10 0 (.agg (awV s rep time e kv (Ds s e).1)) rfl (by decide) (by simp)
   have zr:rdB τr n3=some (awV s rep time e kv (Ds s e).1):=Hr.pt 2 rfl
   simp +contextual (disch:=omega) only[go_sem,e4,e7,e8,e10,e11,A7 (H.pt 0 rfl),sr,A7 zr,A9 (cs:=awV s rep time e kv (Ds s e).1) rfl]
   exact⟨_,rfl,_,by rw[hd],by rw[hd];exact((Hr.pick 1 rfl).ownAct (x:=Y3 s rep time e)).one⟩
 obtain⟨q,τ,R,ds,rfl,h⟩:=key
 exact⟨ds,τ,R,h⟩
structure OkS (s:State):Prop where
 kn:okK s.know=true
 tl:s.tallies.Pairwise fun a b=>Az a b=true
 t1:∀ t∈s.tallies,tal1 t=true
 tn:s.tallies.length<=120
 ll:s.lives.Pairwise fun a b=>Bh a.dot b.dot=true
 l1:∀ x∈s.lives,Ap s.know x.dot=true/\liv1 x=true
 ln:s.lives.length<=120
 cl:s.cells.Pairwise fun a b=>Bh a.dot b.dot=true
 c1:∀ x∈s.cells,Ap s.know x.dot=true/\cel1 x=true
 cn:s.cells.length<=120
 rf:∀ c∈s.cells,c.ref=d0∨∃ y∈s.cells,y.dot=c.ref/\y.obj=c.obj/\y.time<c.time
theorem Zp {α:Type} {lt:α->α->Bool} {l:List α} (h:l.Pairwise fun a b=>lt a b=true) (i:Nat) (hi:i<l.length):upI lt l i=true:=by
 by_cases h0:i=0
 ·subst h0;rfl
 ·rw[Ij h0 hi (by omega)]
  exact Za0.1 h (i - 1) i (by omega) hi (by omega)
theorem He {α:Type} {l:List α} {p:α->Bool}:(∀ i,i<l.length->onI l i p=true)↔∀ x∈l,p x=true:=by
 constructor
 ·intro h x hx
  obtain⟨i,hi,rfl⟩:=Zaj hx
  have:=h i hi
  rwa [Bl hi] at this
 ·intro h i hi
  rw[Bl hi];exact h _ (Zao hi)
theorem Ab0 {l:List Cell} (h:l.Pairwise fun a b=>Bh a.dot b.dot=true) {x y:Cell} (hx:x∈l) (hy:y∈l) (e:x.dot=y.dot):x=y:=by
 obtain⟨i,hi,rfl⟩:=Zaj hx
 obtain⟨j,hj,rfl⟩:=Zaj hy
 rcases Nat.lt_trichotomy i j with h1|h1|h1
 ·have:=Za0.1 h i j hi hj h1
  rw[e,Kp] at this;cases this
 ·subst h1;rfl
 ·have:=Za0.1 h j i hj hi h1
  rw[e,Kp] at this;cases this
theorem A7s {l:List Cell} (h:l.Pairwise fun a b=>Bh a.dot b.dot=true) {y:Cell} (hy:y∈l):∃ k,Dw l y.dot=some k/\∃ hk:k<l.length,l[k]=y:=by
 cases hc:Dw l y.dot with
 |none=>
  exfalso
  have:=Zaz.1 hc y hy
  simp at this
 |some k=>
  obtain⟨hk,e⟩:=Cp hc
  exact⟨k,rfl,hk,Ab0 h (Zao hk) hy e⟩
theorem A5c {s:State}:B6 s=true↔OkS s:=by
 unfold B6
 simp only[Zaa]
 constructor
 ·rintro⟨h1,h2,h3,h4,h5⟩
  have hc:=A4d h4
  have hl:=Aar h3
  simp only[Ga,Zaa,C4,talP,decide_eq_true_eq] at h2
  simp only[Ik,Zaa,C4,livP,decide_eq_true_eq] at h3
  simp only[Hb,Zaa,C4,celP,decide_eq_true_eq] at h4
  refine {kn:=h1,tl:=Z7 (lt:=Az) (fun a b c=>A1z.trans a b c) fun i hi=>(h2.1 i hi).2,t1:=He.1 fun i hi=>(h2.1 i hi).1,tn:=h2.2,ll:=hl,l1:=fun x hx=>⟨He.1 (fun i hi=>(h3.1 i hi).1) x hx,He.1 (fun i hi=>(h3.1 i hi).2.1) x hx⟩,ln:=h3.2,cl:=hc,c1:=fun x hx=>⟨He.1 (fun i hi=>(h4.1 i hi).1) x hx,He.1 (fun i hi=>(h4.1 i hi).2.1) x hx⟩,cn:=h4.2,rf:=fun c hcm=> ?_}
  have:=Zbb.1 h5 c hcm
  unfold ref1 at this
  simp only[Za4,decide_eq_true_eq] at this
  refine this.imp (fun h=>h) fun h=> ?_
  split at h
  ·cases h
  ·rename_i k hk
   obtain⟨hkl,e⟩:=Cp hk
   rw[Bl hkl] at h
   simp only[Zaa,decide_eq_true_eq] at h
   exact⟨_,Zao hkl,e,h.1,h.2⟩
 ·intro h
  refine⟨h.kn,?_,?_,?_,?_⟩
  ·simp only[Ga,Zaa,C4,talP,decide_eq_true_eq]
   exact⟨fun i hi=>⟨He.2 h.t1 i hi,Zp h.tl i hi⟩,h.tn⟩
  ·simp only[Ik,Zaa,C4,livP,decide_eq_true_eq]
   exact⟨fun i hi=>⟨He.2 (fun x hx=>(h.l1 x hx).1) i hi,He.2 (fun x hx=>(h.l1 x hx).2) i hi,Zp (lt:=E7) h.ll i hi⟩,h.ln⟩
  ·simp only[Hb,Zaa,C4,celP,decide_eq_true_eq]
   exact⟨fun i hi=>⟨He.2 (fun x hx=>(h.c1 x hx).1) i hi,He.2 (fun x hx=>(h.c1 x hx).2) i hi,Zp (lt:=F5) h.cl i hi⟩,h.cn⟩
  ·refine Zbb.2 fun c hc=> ?_
   unfold ref1
   simp only[Za4,decide_eq_true_eq]
   refine(h.rf c hc).imp (fun h=>h) fun⟨y,hy,e1,e2,e3⟩=> ?_
   obtain⟨k,hk,hkl,ek⟩:=A7s h.cl hy
   rw[<- e1,hk]
   simp only
   rw[Bl hkl,ek]
   simp[e2,e3]
theorem Jj {α:Type} {lt:α->α->Bool} {x y:α} {l:List α}:y∈insB lt x l↔y=x∨y∈l:=by
 rw[(Hd lt x l).mem_iff,Zai]
theorem Zq {α:Type} {lt:α->α->Bool} (ht:∀ a b c,lt a b=true->lt b c=true->lt a c=true) {x:α}:∀ {l:List α},l.Pairwise (fun a b=>lt a b=true)->(∀ y∈l,lt x y=true∨lt y x=true)->(insB lt x l).Pairwise fun a b=>lt a b=true
 |[],_,_=>by simp[insB]
 |k::r,h,hx=>by
  obtain⟨h1,h2⟩:=Zbg.1 h
  unfold insB
  split
  ·rename_i hk
   refine Zbg.2 ⟨fun y hy=> ?_,h⟩
   rcases Zai.1 hy with rfl|hy
   ·exact hk
   ·exact ht _ _ _ hk (h1 y hy)
  ·rename_i hk
   refine Zbg.2 ⟨fun y hy=> ?_,Zq ht h2 fun y hy=>hx y (Zad _ hy)⟩
   rcases Jj.1 hy with rfl|hy
   ·exact(hx k Zaf).resolve_left hk
   ·exact h1 y hy
theorem Pv {α β:Type} {f:α->α} {g:α->β} (h:∀ x,g (f x)=g x):∀(l:List α) (k:Nat),(l.modify k f).map g=l.map g
 |[],k=>by simp
 |x::l,0=>by simp[h]
 |x::l,k+1=>by simp[Zaq,Pv h l k]
theorem Pw {α:Type} {f:α->α}:∀ {l:List α} {k:Nat} {x:α},x∈l.modify k f->∃ y∈l,x=y∨x=f y
 |[],k,x,h=>by simp at h
 |y::l,0,x,h=>by
  simp only[List.modify_zero_cons,Zai] at h
  rcases h with h|h
  ·exact⟨y,Zaf,.inr h⟩
  ·exact⟨x,Zad _ h,.inl rfl⟩
 |y::l,k+1,x,h=>by
  simp only[Zaq,Zai] at h
  rcases h with h|h
  ·exact⟨y,Zaf,.inl h⟩
  ·obtain⟨z,hz,e⟩:=Pw h
   exact⟨z,Zad _ hz,e⟩
theorem Y4 {α:Type} {f:α->α}:∀ {l:List α} {k:Nat} {y:α},y∈l->∃ x∈l.modify k f,x=y∨x=f y
 |[],k,x,h=>by simp at h
 |y::l,0,x,h=>by
  rcases Zai.1 h with rfl|h
  ·exact⟨f x,by simp,.inr rfl⟩
  ·exact⟨x,by simp[h],.inl rfl⟩
 |y::l,k+1,x,h=>by
  rcases Zai.1 h with rfl|h
  ·exact⟨x,by simp[Zaq],.inl rfl⟩
  ·obtain⟨z,hz,e⟩:=Y4 (k:=k) h
   exact⟨z,by simp[Zaq,hz],e⟩
theorem A5d {l:List Int} {r q:Int} {v:Int} (hr:0<=r) (hq:0<=q) (hl:r.toNat<l.length):at0 (l.set r.toNat v) q=if q=r then v else at0 l q:=by
 unfold at0
 rw[Zbe,Zbe,List.getElem?_set]
 by_cases h:q=r
 ·subst h;simp[hl]
 ·have:¬ r.toNat=q.toNat:=by omega
  rw[if_neg this,if_neg h]
structure Fits (s:State) (a:Act):Prop where
 dot:F4 a.dot=true
 seq:a.dot.seq=at0 s.know a.dot.rep+1
 new:Ap s.know a.dot=false
 kn:okK (s.know.set a.dot.rep.toNat a.dot.seq)=true
 mono:∀ d,Ap s.know d=true->Ap (s.know.set a.dot.rep.toNat a.dot.seq) d=true
 self:Ap (s.know.set a.dot.rep.toNat a.dot.seq) a.dot=true
theorem kLe_at:∀ {a b:List Int},a.length=b.length->kLe a b=true->∀ i:Nat,a.getD i 0<=b.getD i 0:=by
 intro a
 induction a with
 |nil=>intro b hl _ i;cases b with
  |nil=>simp
  |cons _ _=>simp at hl
 |cons x a ih=>
  intro b hl h i
  cases b with
  |nil=>simp at hl
  |cons y b=>
   simp only[kLe,Zaa,decide_eq_true_eq] at h
   cases i with
   |zero=>simpa using h.1
   |succ i=>simpa using ih (by simpa using hl) h.2 i
theorem Adc {s:State} {a:Act} (hs:okK s.know=true) (ha:Cq a=true) (hn:Ap s.know a.dot=false) (hk:Fn a.knew s.know=true):Fits s a:=by
 simp only[Cq,Zaa,decide_eq_true_eq] at ha
 obtain⟨h1,h2,h3,h4⟩:=ha
 simp only[Fn,Zaa] at hk
 have hle:=kLe_at (by rw[D8 hk.1,D8 hs]) hk.2.2 a.dot.rep.toNat
 have hle:at0 a.knew a.dot.rep<=at0 s.know a.dot.rep:=hle
 have hd:=h1
 simp only[F4,Zaa,Br] at hd
 have hnot:¬ a.dot.seq<=at0 s.know a.dot.rep:=by
  intro h
  have:Ap s.know a.dot=true:=by unfold Ap;rw[hs,h1];simpa using h
  rw[hn] at this;cases this
 have hlen:=D8 hs
 have hr:a.dot.rep.toNat<s.know.length:=by omega
 have e:a.dot.seq=at0 s.know a.dot.rep+1:=by omega
 have hkn:okK (s.know.set a.dot.rep.toNat a.dot.seq)=true:=by
  simp only[okK,Zaa,Zbb,decide_eq_true_eq] at hs ⊢
  refine⟨fun x hx=> ?_,by rw[List.length_set];exact hs.2⟩
  rcases Zbh hx with h|h
  ·exact hs.1 x h
  ·rw[h];exact Br.2 ⟨by omega,by omega⟩
 refine⟨h1,e,hn,hkn,fun d hd'=> ?_,?_⟩
 ·simp only[Ap,Zaa,decide_eq_true_eq] at hd' ⊢
  refine⟨⟨hkn,hd'.1.2⟩,?_⟩
  have hq:=hd'.1.2
  simp only[F4,Zaa,Br] at hq
  rw[A5d (by omega) (by omega) hr]
  split
  ·rename_i hq2;rw[hq2] at hd';omega
  ·exact hd'.2
 ·simp only[Ap,Zaa,decide_eq_true_eq]
  refine⟨⟨hkn,h1⟩,?_⟩
  rw[A5d (by omega) (by omega) hr,if_pos rfl]
  omega
theorem A9p {l:List Tally} {obj:ByteArray} {rep val:Int} (hp:l.Pairwise fun a b=>Az a b=true) (h1:∀ t∈l,tal1 t=true) (hn:Cc obj=true) (hr:inB rep 0 2=true) (hv:0<=val/\val<=999999):
  (Io l obj rep val).Pairwise (fun a b=>Az a b=true)/\∀ t∈Io l obj rep val,tal1 t=true:=by
 unfold Io
 split
 ·rename_i i hi
  constructor
  ·have e:((l.modify i fun t=>{t with sum:=addM t.sum val}).map fun t=>(⟨t.obj,t.rep,0⟩:Tally))=l.map fun t=>(⟨t.obj,t.rep,0⟩:Tally):=Pv (f:=fun t=>{t with sum:=addM t.sum val}) (g:=fun t=>(⟨t.obj,t.rep,0⟩:Tally)) (fun _=>rfl) l i
   have h2:(l.map fun t=>(⟨t.obj,t.rep,0⟩:Tally)).Pairwise fun a b=>Az a b=true:=Za7.2 (hp.imp fun h=>h)
   rw[<- e] at h2
   exact(Za7.1 h2).imp fun h=>h
  ·intro t ht
   obtain⟨y,hy,e⟩:=Pw ht
   have hy1:=h1 y hy
   rcases e with rfl|rfl
   ·exact hy1
   ·simp only[tal1,Zaa,Br] at hy1 ⊢
    refine⟨hy1.1,hy1.2.1,?_⟩
    unfold addM
    rw[Int.tmod_eq_emod_of_nonneg (by omega)]
    omega
 ·rename_i hi
  constructor
  ·refine Zq (fun a b c=>A1z.trans a b c) hp fun y hy=> ?_
   have:=Zaz.1 hi y hy
   cases h2:Az ⟨obj,rep,val⟩ y with
   |true=>exact .inl rfl
   |false=>
    cases h3:Az y ⟨obj,rep,val⟩ with
    |true=>exact .inr rfl
    |false=>
     obtain⟨e1,e2⟩:=A9d h2 h3
     have:Ms obj rep y=true:=A9e.2 ⟨e1.symm,e2.symm⟩
     simp_all
  ·intro t ht
   rcases Jj.1 ht with rfl|ht
   ·simp only[tal1,Zaa]
    exact⟨hn,hr,Br.2 hv⟩
   ·exact h1 t ht
theorem A9q {k:List Int} {a d:Dot} (hn:Ap k a=false) (hd:Ap k d=true):Bh a d=true∨Bh d a=true:=by
 cases h1:Bh a d with
 |true=>exact .inl rfl
 |false=>
  cases h2:Bh d a with
  |true=>exact .inr rfl
  |false=>rw[A97 h1 h2,hd] at hn;cases hn
theorem Y5 {l:List Live} {k k':List Int} {x:Live} (hp:l.Pairwise fun a b=>Bh a.dot b.dot=true) (h1:∀ y∈l,Ap k y.dot=true/\liv1 y=true) (hm:∀ d,Ap k d=true->Ap k' d=true) (hn:Ap k x.dot=false) (hx:Ap k' x.dot=true/\liv1 x=true):
  (Je x l).Pairwise (fun a b=>Bh a.dot b.dot=true)/\∀ y∈Je x l,Ap k' y.dot=true/\liv1 y=true:=by
 constructor
 ·exact Zq (lt:=E7) (fun a b c h1 h2=>J7 h1 h2) hp fun y hy=>A9q hn (h1 y hy).1
 ·intro y hy
  rcases Jj.1 hy with rfl|hy
  ·exact hx
  ·exact⟨hm _ (h1 y hy).1,(h1 y hy).2⟩
theorem A7t {l:List Cell} {k k':List Int} {x:Cell} (hp:l.Pairwise fun a b=>Bh a.dot b.dot=true) (h1:∀ y∈l,Ap k y.dot=true/\cel1 y=true) (hm:∀ d,Ap k d=true->Ap k' d=true) (hn:Ap k x.dot=false) (hx:Ap k' x.dot=true/\cel1 x=true):
  (Mt x l).Pairwise (fun a b=>Bh a.dot b.dot=true)/\∀ y∈Mt x l,Ap k' y.dot=true/\cel1 y=true:=by
 constructor
 ·exact Zq (lt:=F5) (fun a b c h1 h2=>J7 h1 h2) hp fun y hy=>A9q hn (h1 y hy).1
 ·intro y hy
  rcases Jj.1 hy with rfl|hy
  ·exact hx
  ·exact⟨hm _ (h1 y hy).1,(h1 y hy).2⟩
theorem Y6 {l:List Cell} {d:Dot} {x:Cell} (h:x∈Ip l d):∃ y∈l,x=y∨x={y with gone:=true}:=by
 unfold Ip at h
 split at h
 ·exact Pw h
 ·exact⟨x,h,.inl rfl⟩
theorem A7u {l:List Cell} {d:Dot} {y:Cell} (h:y∈l):∃ x∈Ip l d,x=y∨x={y with gone:=true}:=by
 unfold Ip
 split
 ·exact Y4 h
 ·exact⟨y,h,.inl rfl⟩
theorem Uo (l:List Cell) (d:Dot):(Ip l d).map (·.dot)=l.map (·.dot):=by
 unfold Ip
 split
 ·exact Pv (f:=fun c:Cell=>{c with gone:=true}) (g:=fun c=>c.dot) (fun _=>rfl) _ _
 ·rfl
theorem A7v (l:List Cell) (d:Dot):(Ip l d).length=l.length:=by
 have:=congrArg List.length (Uo l d)
 simpa using this
theorem Ab1 {s:State} {a:Act} (h:OkS s) (ha:De a=true) (hn:Ap s.know a.dot=false) (hk:Fn a.knew s.know=true) (hr:Pn s a=true) (ht:Fy (Jf s a)=false):OkS (Jf s a):=by
 simp only[De,Zaa] at ha
 obtain⟨hh,hpl,hrf⟩:=ha
 have F:=Adc h.kn hh hn hk
 simp only[Bd,Zaa,Br] at hpl
 obtain⟨hkd,hob,hky,hvl⟩:=hpl
 simp only[Fy,Bool.or_eq_false_iff,decide_eq_false_iff_not,Nat.not_lt] at ht
 obtain⟨ht1,ht2,ht3⟩:=ht
 have hd:=F.dot
 simp only[F4,Zaa] at hd
 have htime:inB a.time 1 10000=true:=by
  simp only[Cq,Zaa] at hh;exact hh.2.2.2
 have L1:∀ x∈s.lives,Ap (s.know.set a.dot.rep.toNat a.dot.seq) x.dot=true/\liv1 x=true:=fun x hx=>⟨F.mono _ (h.l1 x hx).1,(h.l1 x hx).2⟩
 have C1:∀ x∈s.cells,Ap (s.know.set a.dot.rep.toNat a.dot.seq) x.dot=true/\cel1 x=true:=fun x hx=>⟨F.mono _ (h.c1 x hx).1,(h.c1 x hx).2⟩
 have hval:O0 a.kind=true->0<=a.val/\a.val<=999999:=fun hv=>by
  simp only[Ky,Za4,Zaa,beq_iff_eq,Br] at hvl
  rcases hvl with h|h
  ·omega
  ·exact h.2
 have hkeyed:Wg a.kind=true->Cc a.key=true:=fun hk=>by rw[if_pos hk] at hky;exact hky
 revert ht1 ht2 ht3
 unfold Jf Fo
 repeat' split
 all_goals intro ht1 ht2 ht3
 ·rename_i hkind
  have T:=A9p (obj:=a.obj) (rep:=a.dot.rep) (val:=a.val) h.tl h.t1 hob hd.1 (hval (by rw[hkind];rfl))
  exact {kn:=F.kn,tl:=T.1,t1:=T.2,tn:=ht1,ll:=h.ll,l1:=L1,ln:=h.ln,cl:=h.cl,c1:=C1,cn:=h.cn,rf:=h.rf}
 ·rename_i _ hkind
  have T:=Y5 (x:=⟨false,a.obj,a.key,0,a.dot⟩) h.ll h.l1 F.mono F.new ⟨F.self,by simp only[liv1,Zaa];exact⟨hob,hkeyed (by rw[hkind];rfl),by decide,by simp⟩⟩
  exact {kn:=F.kn,tl:=h.tl,t1:=h.t1,tn:=h.tn,ll:=T.1,l1:=T.2,ln:=ht2,cl:=h.cl,c1:=C1,cn:=h.cn,rf:=h.rf}
 ·exact {kn:=F.kn,tl:=h.tl,t1:=h.t1,tn:=h.tn,ll:=h.ll.filter _,l1:=fun x hx=>L1 x (Zbr.1 hx).1,ln:=ht2,cl:=h.cl,c1:=C1,cn:=h.cn,rf:=h.rf}
 ·rename_i _ _ _ hkind
  have T:=Y5 (l:=s.lives.filter (S9 true a.obj a.key a.knew)) (x:=⟨true,a.obj,a.key,a.val,a.dot⟩) (h.ll.filter _) (fun y hy=>h.l1 y (Zbr.1 hy).1) F.mono F.new ⟨F.self,by simp only[liv1,Zaa];exact⟨hob,hkeyed (by rw[hkind];rfl),Br.2 (hval (by rw[hkind];rfl)),by simp⟩⟩
  exact {kn:=F.kn,tl:=h.tl,t1:=h.t1,tn:=h.tn,ll:=T.1,l1:=T.2,ln:=ht2,cl:=h.cl,c1:=C1,cn:=h.cn,rf:=h.rf}
 ·exact {kn:=F.kn,tl:=h.tl,t1:=h.t1,tn:=h.tn,ll:=h.ll.filter _,l1:=fun x hx=>L1 x (Zbr.1 hx).1,ln:=ht2,cl:=h.cl,c1:=C1,cn:=h.cn,rf:=h.rf}
 ·rename_i _ _ _ _ _ hkind
  have T:=A7t (x:=⟨a.obj,a.dot,a.time,a.ref,a.val,false⟩) h.cl h.c1 F.mono F.new ⟨F.self,by simp only[cel1,Zaa];exact⟨hob,Br.2 (hval (by rw[hkind];rfl)),htime⟩⟩
  refine {kn:=F.kn,tl:=h.tl,t1:=h.t1,tn:=h.tn,ll:=h.ll,l1:=L1,ln:=h.ln,cl:=T.1,c1:=T.2,cn:=ht3,rf:=fun c hc=> ?_}
  rcases Jj.1 hc with rfl|hc
  ·by_cases hz:a.ref=d0
   ·exact .inl hz
   ·right
    unfold Pn at hr
    rw[if_pos (.inr ⟨hkind,hz⟩)] at hr
    split at hr
    ·rename_i k hkx
     obtain⟨hkl,e⟩:=Cp hkx
     rw[Bl hkl] at hr
     simp only[Zaa,Za4,decide_eq_true_eq] at hr
     exact⟨s.cells[k],Jj.2 (.inr (Zao hkl)),e,hr.1,hr.2.resolve_left (by omega)⟩
    ·cases hr
  ·rcases h.rf c hc with hz|⟨y,hy,e⟩
   ·exact .inl hz
   ·exact .inr ⟨y,Jj.2 (.inr hy),e⟩
 ·have hdots:(Ip s.cells a.ref).Pairwise fun a b=>Bh a.dot b.dot=true:=by
   have h2:(s.cells.map (·.dot)).Pairwise fun a b=>Bh a b=true:=Za7.2 h.cl
   rw[<- Uo s.cells a.ref] at h2
   exact Za7.1 h2
  refine {kn:=F.kn,tl:=h.tl,t1:=h.t1,tn:=h.tn,ll:=h.ll,l1:=L1,ln:=h.ln,cl:=hdots,c1:=fun x hx=> ?_,cn:=by rw[A7v];exact h.cn,rf:=fun c hc=> ?_}
  ·obtain⟨y,hy,e⟩:=Y6 hx
   rcases e with rfl|rfl
   ·exact C1 x hy
   ·exact C1 y hy
  ·obtain⟨y,hy,e⟩:=Y6 hc
   have key:∀ r,(r=d0∨∃ z∈s.cells,z.dot=r/\z.obj=y.obj/\z.time<y.time)->r=d0∨∃ z∈Ip s.cells a.ref,z.dot=r/\z.obj=y.obj/\z.time<y.time:=fun r hr=>hr.imp id fun⟨z,hz,q1,q2,q3⟩=>by
    obtain⟨x,hx,e⟩:=A7u (d:=a.ref) hz
    rcases e with rfl|rfl
    ·exact⟨x,hx,q1,q2,q3⟩
    ·exact⟨_,hx,q1,q2,q3⟩
   have:=key _ (h.rf y hy)
   rcases e with rfl|rfl
   ·exact this
   ·exact this
theorem Zr {s:State} (a:Act) (h:OkS s):OkS (Cw s a).1:=by
 unfold Cw
 split
 ·exact h
 ·rename_i h1
  have h1:B6 s=true/\De a=true:=by simpa using h1
  split
  ·exact h
  ·rename_i h2
   split
   ·exact h
   ·rename_i h3
    split
    ·exact h
    ·rename_i h4
     split
     ·exact h
     ·rename_i h5
      exact Ab1 h h1.2 (by simpa using h2) (by simpa using h3) (by simpa using h4) (by simpa using h5)
theorem E9 {s:ByteArray} (h:Cc s=true):s.size<=8:=by
 simp only[Cc,Zaa,Br] at h
 omega
theorem L7 {α:Type} {f:α->Nat} {l:List α} {n:Nat} (h:∀ x∈l,f x<=n):sumL f l<=l.length*n:=by
 induction l with
 |nil=>simp[sumL]
 |cons x l ih=>
  have h1:=h x Zaf
  have h2:=ih fun y hy=>h y (Zad _ hy)
  have:sumL f (x::l)=f x+sumL f l:=by simp[sumL]
  rw[this,Za1,Nat.add_mul];omega
theorem OkS.ms {s:State} (h:OkS s):Ah s<=5000:=by
 have k:=D8 h.kn
 have a1:=L7 (f:=J5) (l:=s.tallies) (n:=8) fun t ht=>by
  have:=h.t1 t ht
  simp only[tal1,Zaa] at this
  exact E9 this.1
 have a2:=L7 (f:=Kl) (l:=s.lives) (n:=16) fun t ht=>by
  have:=(h.l1 t ht).2
  simp only[liv1,Zaa] at this
  have h1:=E9 this.1
  have h2:=E9 this.2.1
  unfold Kl;omega
 have a3:=L7 (f:=No) (l:=s.cells) (n:=8) fun t ht=>by
  have:=(h.c1 t ht).2
  simp only[cel1,Zaa] at this
  exact E9 this.1
 have:=h.tn
 have:=h.ln
 have:=h.cn
 unfold Ah
 omega
theorem OkS.time {s:State} (h:OkS s):∀ c∈s.cells,1≤c.time/\c.time<=10000:=fun c hc=>by
 have:=(h.c1 c hc).2
 simp only[cel1,Zaa,Br] at this
 exact this.2.2
theorem A6o:OkS ⟨[0,0,0],[],[],[]⟩:={kn:=by decide,tl:=.nil,t1:=fun _ h=>(by cases h),tn:=by decide,ll:=.nil,l1:=fun _ h=>(by cases h),ln:=by decide,cl:=.nil,c1:=fun _ h=>(by cases h),cn:=by decide,rf:=fun _ h=>(by cases h)}
inductive Item where
 |box (z n:Nat) (cs:List GV)
 |th (r:Thg)
def Item.t:Item->Thg
 | .box z n cs=>pt z n cs
 | .th r=>r
def Hx (σ τ:St) (h:List Item):Prop:=Hp σ τ (h.map Item.t)
def look:List Item->Nat->Option (List GV)
 |[],_=>none
 | .box _ m cs::h,n=>if m=n then some cs else look h n
 | .th _::h,n=>look h n
def upd:List Item->Nat->List GV->List Item
 |[],_,_=>[]
 | .box z m cs::h,n,ds=>if m=n then .box z m ds::h else .box z m cs::upd h n ds
 | .th r::h,n,ds=>.th r::upd h n ds
def frX (σ:St):List Item->Nat->Prop
 |[],n=>σ.length<=n
 | .box _ m _::h,n=>m<n/\frX σ h n
 | .th _::h,n=>frX σ h n
abbrev Kx:=GV->List Item->St->Prop
def Ea (v:Option GV) (k:Kx) (h:List Item) (τ:St):Prop:=match v with
 |some v=>k v h τ
 |none=>False
def orX (a b:Option GV):Option GV:=match a with
 |some x=>some x
 |none=>b
def Oh:List Item->Nat->Option (Nat×List GV)
 |[],_=>none
 | .box z m cs::h,n=>if m=n then some (z,cs) else Oh h n
 | .th _::h,n=>Oh h n
def blcX (h:List Item) (cs:List GV):GV->Prop
 | .ptr b 0=>Oh h b=some (1,cs)
 |_=>False
def ldB (c:Option (List GV)) (g:Bool) (n off:Nat) (e:Option GV):Option GV:=match c with
 |some cs=>(seg cs off n).bind (mkv g)
 |none=>e
def ldY (h:List Item) (τ:St) (g:Bool) (n:Nat):GV->Option GV
 | .ptr b off=>ldB (look h b) g n off (ldG g n τ (.ptr b off))
 |a=>ldG g n τ a
def ldX (σ:St) (h:List Item) (τ:St) (g:Bool) (n:Nat) (a:GV):Option GV:=orX (ldG g n σ a) (ldY h τ g n a)
def Jy (σ:St) (h:List Item) (z:Nat) (cs:List GV) (v:Nat->GV) (k:Kx):Prop:=∀ n,frX σ h n->∀ τ',Hx σ τ' (.box z n cs::h)->k (v n) (.box z n cs::h) τ'
def genX (σ:St) (D:Bool) (τ:St) (e:Option (GV×St)) (k:Kx):Prop:=∃ v τ' h',e=some (v,τ')/\(D=true->τ <+: τ')/\Hx σ τ' h'/\k v h' τ'
def stB (σ:St) (D:Bool) (h:List Item) (τ:St) (n:Nat) (k:Kx) (b off:Nat) (x:GV) (c:Option (List GV)):Prop:=match c with
 |some cs=>(D=false/\off+n<=cs.length/\0<n/\x.cells.length=n)/\∀ τ',Hx σ τ' (upd h b (Al cs off x.cells))->k (.tup []) (upd h b (Al cs off x.cells)) τ'
 |none=>genX σ D τ (stG n τ (.ptr b off) x) k
def stX (σ:St) (D:Bool) (h:List Item) (τ:St) (n:Nat) (k:Kx) (a x:GV):Prop:=match a with
 | .ptr b off=>stB σ D h τ n k b off x (look h b)
 |a=>genX σ D τ (stG n τ a x) k
def fnX (P:Program) (σ:St) (D:Bool) (τ:St) (args:List GV) (k:Kx):GV->Prop
 | .fn f caps=>∃ v τ' h',Ret P f (args++caps.map fun c=>.ptr c.1 c.2) τ v τ'/\(D=true->τ <+: τ')/\Hx σ τ' h'/\k v h' τ'
 |_=>False
def litX (σ:St) (h:List Item) (z len:Nat) (k:Kx):Option (List GV)->Prop
 |some cs=>Jy σ h z cs (fun n=>.sl n 0 len) k
 |none=>False
def Zs (P:Program) (σ:St) (D:Bool) (τ:St) (f:Nat) (args:List GV) (k:Kx):Prop:=∃ v τ' h',Ret P f args τ v τ'/\(D=true->τ <+: τ')/\Hx σ τ' h'/\k v h' τ'
def mksX (σ:St) (h:List Item) (z b:Nat) (ze:List GV) (k:Kx):Option Nat->Option Nat->Prop
 |some n,some c=>n=c/\n*b<=140737488355328/\Jy σ h z (reps n ze) (fun g=>.sl g 0 n) k
 |_,_=>False
def sxI (P:Program) (D:Bool) (σ:St) (env:Env) (h:List Item) (τ:St) (k:Kx):Ins->Prop
 | .new cs=>Jy σ h 1 cs (fun n=>.ptr n 0) k
 | .box x=>C7 (x.ev env)=true/\Jy σ h 1 (x.ev env).cells (fun n=>.ptr n 0) k
 | .lit z len zero parts=>litX σ h z len k (Gk zero (parts.map fun p=>(p.1,p.2.1,p.2.2.ev env)))
 | .mks z b ze n c=>mksX σ h z b ze k (Aw (some (n.ev env))) (Aw (some (c.ev env)))
 | .ld g n a=>Ea (ldX σ h τ g n (a.ev env)) k h τ
 | .st n a x=>stX σ D h τ n k (a.ev env) (x.ev env)
 | .call f xs=>Zs P σ D τ f (xs.map (·.ev env)) k
 | .callv x xs=>fnX P σ D τ (xs.map (·.ev env)) k (x.ev env)
 | .chk d (.ld g n (.t t))=>ldX σ h τ g n (env t)=some (env d)/\k (.tup []) h τ
 | .chk _ _=>False
 | .blc t cs=>blcX h cs (env t)/\k (.tup []) h τ
 | .mlk ks z ok m k'=>Ea (mlkG τ ks z ok (m.ev env) (k'.ev env)) k h τ
 | .bts x=>Ea ((elems τ 1 (x.ev env)).bind fun r=>(Gu r.2).map fun bs=>.str ⟨bs.toArray⟩) k h τ
 | .cut z x lo hi=>Ea (if zOk τ z (x.ev env) then cutG z (x.ev env) (lo.map (·.ev env)) (hi.map (·.ev env)) else none) k h τ
 | .app z b ze s x=>genX σ D τ (appV z b τ (s.ev env) (x.ev env)) k
 | .clr z ze x=>genX σ D τ (clrG z ze τ (x.ev env)) k
 | .mkm=>genX σ D τ (some (.mp τ.length,τ++[some (.map [])])) k
 | .mup ks m k' v=>genX σ D τ (mupG τ ks (m.ev env) (k'.ev env) (v.ev env)) k
 |i=>Ea ((exec env [] i).map (·.1)) k h τ
def gdX (c:Option (Option Bool×Bool)) (A B:Prop):Prop:=match c with
 |none=>A
 |some (some c,b)=>(c=b->A)/\(c= !b->B)
 |some (none,_)=>B
def sx (P:Program) (D:Bool) (σ:St):List Op1->(Env->List Item->St->Prop)->Env->List Item->St->Prop
 |[],K,env,h,τ=>K env h τ
 |o::r,K,env,h,τ=>gdX (o.g.map fun g=>((env g.1).bit,g.2)) (sxI P D σ env h τ (fun v h' τ'=>sx P D σ r K (upo env o.d v) h' τ') o.i) (sx P D σ r K (upo env o.d (.tup [])) h τ)
def ifX (c:Option Bool) (A B:Prop):Prop:=match c with
 |some c=>(c=true->A)/\(c=false->B)
 |none=>False
abbrev Qx:=Ex->Env->List Item->St->Prop
def sxc (P:Program) (σ:St):Cd->Qx->Env->List Item->St->Prop
 | .skip,Q=>Q .nxt
 | .reg ops,Q=>sx P false σ ops (Q .nxt)
 | .drw a1 bs,Q=>sx P true σ a1 (sx P false σ bs (Q .nxt))
 | .seq a b,Q=>sxc P σ a fun e=>match e with
  | .nxt=>sxc P σ b Q
  |e=>Q e
 | .cnd c a b,Q=>fun env h τ=>ifX (c.ev env).bit (sxc P σ a Q env h τ) (sxc P σ b Q env h τ)
 | .blk id a,Q=>sxc P σ a fun e=>match e with
  | .ext j=>if j=id then Q .nxt else Q (.ext j)
  |e=>Q e
 | .lop a,Q=>fun env h τ=>∃(I:Nat->Env->List Item->St->Prop) (n:Nat) (h0:List Item),Hx σ τ h0/\I n env h0 τ/\∀ k env h τ,Hx σ τ h->I k env h τ->sxc P σ a (fun e env' h' τ'=>match e with
  | .nxt=>∃ k' h1,k'<k/\Hx σ τ' h1/\I k' env' h1 τ'
  |e=>∃ h1,Hx σ τ' h1/\Q e env' h1 τ') env h τ
 | .ext id,Q=>Q (.ext id)
 | .ret,Q=>Q .ret
section sound
variable {P:Program} {σ:St} {D:Bool}
theorem Hx.hp {τ:St} {h:List Item} (H:Hx σ τ h):Hp σ τ (h.map Item.t):=H
theorem Hx.sub {τ:St} {h:List Item} (H:Hx σ τ h):σ <+: τ:=H.hp.sub
theorem Hx.refl (σ:St):Hx σ σ []:=Hp.refl σ
theorem My:∀ {h:List Item} {n:Nat} {cs:List GV},look h n=some cs->∃ z,∃ i:Nat,(h.map Item.t)[i]? =some (pt z n cs)/\∀ ds,(upd h n ds).map Item.t=(h.map Item.t).set i (pt z n ds)
 |[],_,_,e=>by cases e
 | .box z m cs'::h,n,cs,e=>by
  simp only[look] at e
  by_cases hm:m=n
  ·rw[if_pos hm] at e
   injection e with e;subst e hm
   exact⟨z,0,rfl,fun ds=>by simp[upd,Item.t]⟩
  ·rw[if_neg hm] at e
   obtain⟨z',i,h1,h2⟩:=My e
   exact⟨z',i+1,by simpa using h1,fun ds=>by simp[upd,hm,h2 ds]⟩
 | .th r::h,n,cs,e=>by
  obtain⟨z',i,h1,h2⟩:=My (h:=h) (by simpa [look] using e)
  exact⟨z',i+1,by simpa using h1,fun ds=>by simp[upd,h2 ds]⟩
theorem Zt:∀ {h:List Item} {n z:Nat} {cs:List GV},Oh h n=some (z,cs)->∃ i:Nat,(h.map Item.t)[i]? =some (pt z n cs)
 |[],_,_,_,e=>by cases e
 | .box z' m cs'::h,n,z,cs,e=>by
  simp only[Oh] at e
  by_cases hm:m=n
  ·rw[if_pos hm] at e
   simp only[Option.some.injEq,Prod.mk.injEq] at e
   obtain⟨rfl,rfl⟩:=e
   subst hm
   exact⟨0,rfl⟩
  ·rw[if_neg hm] at e
   obtain⟨i,h1⟩:=Zt e
   exact⟨i+1,by simpa using h1⟩
 | .th r::h,n,z,cs,e=>by
  obtain⟨i,h1⟩:=Zt (h:=h) (by simpa [Oh] using e)
  exact⟨i+1,by simpa using h1⟩
theorem A9r {τ:St} {g:Bool} {n:Nat} {a x:GV} (h:ldG g n σ a=some x) (hp:σ <+: τ):ldG g n τ a=some x:=by
 cases a with
 |ptr b off=>
  simp only[ldG] at h ⊢
  obtain⟨cs,h1,h2⟩:=Z1z.1 h
  rw[J4 hp h1];exact h2
 |_=>cases h
theorem Uq {h:List Item} {τ:St} (H:Hx σ τ h) {g:Bool} {n:Nat} {a x:GV} (e:ldX σ h τ g n a=some x):ldG g n τ a=some x:=by
 unfold ldX orX ldY at e
 split at e
 ·rename_i y hy
  injection e with e;subst e
  exact A9r hy H.sub
 ·cases a with
  |ptr b off=>
   simp only at e
   cases hl:look h b with
   |none=>rw[hl] at e;exact e
   |some cs=>
    rw[hl] at e
    obtain⟨z,i,h1,_⟩:=My hl
    have:=H.hp.pt i h1
    simp only[ldG,this,Zac]
    exact e
  |_=>exact e
theorem A9s {n:Nat}:∀ {h:List Item},σ.length<=n->(∀ z m cs,Item.box z m cs∈h->m<n)->frX σ h n
 |[],hl,_=>hl
 | .box z m cs::h,hl,hb=>⟨hb z m cs Zaf,A9s (h:=h) hl fun z m cs hm=>hb z m cs (Zad _ hm)⟩
 | .th r::h',hl,hb=>A9s (h:=h') hl fun z m cs hm=>hb z m cs (Zad _ hm)
theorem box_lt {h:List Item} {τ:St} (H:Hx σ τ h) {z m:Nat} {cs:List GV} (hm:Item.box z m cs∈h):m<τ.length:=by
 obtain⟨i,hi,e⟩:=Zaj hm
 have h1:(h.map Item.t)[i]? =some (pt z m cs):=by
  rw[Za8,Zbj hi,e];rfl
 obtain⟨a,ha,_,hb⟩:=H.hp.see h1
 exact(hb m (by rw[ha.1];exact Zaf)).2
theorem Jk {h:List Item} {τ:St} {z:Nat} {cs:List GV} {v:Nat->GV} {k:Kx} (H:Hx σ τ h) (e:Jy σ h z cs v k):∃ h',Hx σ (τ++[some (.row z cs)]) h'/\k (v τ.length) h' (τ++[some (.row z cs)]):=
 ⟨.box z τ.length cs::h,H.hp.new z cs,e τ.length (A9s (h:=h) H.sub.length_le (fun _ _ _ hm=>box_lt H hm)) _ (H.hp.new z cs)⟩
theorem L8 {τ:St} {e:Option (GV×St)} {k:Kx} (h:genX σ D τ e k):∃ v τ',e=some (v,τ')/\(D=true->τ <+: τ')/\∃ h',Hx σ τ' h'/\k v h' τ':=by
 obtain⟨v,τ',h',h1,h2,h3,h4⟩:=h
 exact⟨v,τ',h1,h2,h',h3,h4⟩
theorem A9t {env:Env} {h:List Item} {τ:St} {k:Kx} (H:Hx σ τ h):∀ {i:Ins},sxI P D σ env h τ k i->∃ v τ',Step P env τ i v τ'/\(D=true->τ <+: τ')/\∃ h',Hx σ τ' h'/\k v h' τ':=by
 intro i e
 have same:∀ {v:Option GV},Ea v k h τ->(∀ v',v=some v'->Step P env τ i v' τ)->∃ v τ',Step P env τ i v τ'/\(D=true->τ <+: τ')/\∃ h',Hx σ τ' h'/\k v h' τ':=by
  intro v hb hs
  cases v with
  |none=>exact hb.elim
  |some v=>exact⟨v,τ,hs v rfl,fun _=>Za2 _,h,H,hb⟩
 have pure:A72 i=true->Ea ((exec env [] i).map (·.1)) k h τ->i.isCall=false->(∀ v',exec env τ i=some (v',τ)->Step P env τ i v' τ)->∃ v τ',Step P env τ i v τ'/\(D=true->τ <+: τ')/\∃ h',Hx σ τ' h'/\k v h' τ':=by
  intro hp hb _ hs
  refine same hb fun v' hv=>hs v' ?_
  obtain⟨⟨w,s⟩,hw,rfl⟩:=Z2z.1 hv
  exact(A0y hp hw).2 τ
 cases i with
 |new cs=>
  obtain⟨h',h1,h2⟩:=Jk H e
  exact⟨_,_,rfl,fun _=>Za5 _ _,h',h1,h2⟩
 |box x=>
  obtain⟨h0,e⟩:=e
  obtain⟨h',h1,h2⟩:=Jk H e
  exact⟨_,_,by show boxG τ _=_;unfold boxG;rw[if_pos h0],fun _=>Za5 _ _,h',h1,h2⟩
 |lit z len zero parts=>
  simp only[sxI] at e
  unfold litX at e
  split at e
  ·rename_i cs hc
   obtain⟨h',h1,h2⟩:=Jk H e
   exact⟨_,_,by show exec env τ _=_;simp only[exec,hc];rfl,fun _=>Za5 _ _,h',h1,h2⟩
  ·exact e.elim
 |mks z b ze n c=>
  simp only[sxI] at e
  unfold mksX at e
  split at e
  ·rename_i n' c' hn hc
   obtain⟨h0,h3,e⟩:=e
   obtain⟨h',h1,h2⟩:=Jk H e
   exact⟨_,_,by show exec env τ _=_;simp only[exec,hn,hc,Zac,if_pos (And.intro h0 h3)],fun _=>Za5 _ _,h',h1,h2⟩
  ·exact e.elim
 |ld g n a=>
  refine same e fun v' hv=> ?_
  have:=Uq H hv
  show exec env τ _=_
  simp only[exec]
  revert this
  cases a.ev env with
  |ptr b off=>
   intro h1
   simp only[ldG] at h1
   simp only[ptrG,Zac]
   obtain⟨cs,h2,h3⟩:=Z1z.1 h1
   obtain⟨r,h4,h5⟩:=Z1z.1 h3
   simp only[h2,Zac,h4,h5,Za6]
  |_=>intro h1;cases h1
 |st n a x=>
  simp only[sxI] at e
  have hst:∀ {y:GV} {τ'},stG n τ (a.ev env) (x.ev env)=some (y,τ')->Step P env τ (.st n a x) y τ':=by
   intro y τ' he
   show exec env τ _=_
   simp only[exec]
   revert he
   cases a.ev env<;>intro he<;>first|cases he;done|exact he
  have gen:genX σ D τ (stG n τ (a.ev env) (x.ev env)) k->∃ v τ',Step P env τ (.st n a x) v τ'/\(D=true->τ <+: τ')/\∃ h',Hx σ τ' h'/\k v h' τ':=fun hg=>by
   obtain⟨v,τ',h1,h2⟩:=L8 hg
   exact⟨v,τ',hst h1,h2⟩
  unfold stX at e
  split at e
  ·rename_i b off hb
   unfold stB at e
   split at e
   ·rename_i cs hl
    obtain⟨⟨h0,h1,h2,h3⟩,h4⟩:=e
    obtain⟨z,i,h5,h6⟩:=My hl
    obtain⟨τ',s1,s2,_⟩:=H.hp.st i h5 n off (x.ev env) h3 h2 h1
    have s3:Hx σ τ' (upd h b (Al cs off (x.ev env).cells)):=by unfold Hx;rw[h6];exact s2
    exact⟨_,τ',hst (by rw[hb];exact s1),(fun hd=>by rw[hd] at h0;cases h0),_,s3,h4 _ s3⟩
   ·rw[<- hb] at e;exact gen e
  ·exact gen e
 |call f xs=>
  obtain⟨v,τ',h',h1,h2,h3,h4⟩:=e
  exact⟨v,τ',h1,h2,h',h3,h4⟩
 |callv x xs=>
  simp only[sxI] at e
  unfold fnX at e
  split at e
  ·rename_i f caps hf
   obtain⟨v,τ',h',h1,h2,h3,h4⟩:=e
   exact⟨v,τ',⟨f,caps,hf,h1⟩,h2,h',h3,h4⟩
  ·exact e.elim
 |chk d x=>
  cases x with
  |ld g n a=>cases a with
   |t t=>
    obtain⟨h1,h2⟩:=e
    refine⟨_,τ,⟨rfl,rfl,?_⟩,fun _=>Za2 _,h,H,h2⟩
    have h3:=Uq H h1
    simp only[exec,Opd.ev]
    revert h3
    cases env t with
    |ptr b off=>
     intro h1
     simp only[ldG] at h1
     simp only[ptrG,Zac]
     obtain⟨cs,h2,h3⟩:=Z1z.1 h1
     obtain⟨r,h4,h5⟩:=Z1z.1 h3
     simp only[h2,Zac,h4,h5,Za6]
    |_=>intro h1;cases h1
   |k v=>exact e.elim
  |_=>exact e.elim
 |blc t cs=>
  obtain⟨h1,h2⟩:=e
  revert h1
  unfold blcX
  split
  ·rename_i b hb
   intro h1
   obtain⟨i,h3⟩:=Zt h1
   obtain⟨a,ha,_⟩:=H.hp.see h3
   exact⟨_,τ,⟨rfl,rfl,b,hb,Ar.1 ha.2⟩,fun _=>Za2 _,h,H,h2⟩
  ·exact fun h1=>h1.elim
 |mlk ks z ok m k'=>exact same e fun v' hv=>by show exec env τ _=_;simp only[exec,hv,Za6]
 |bts x=>
  refine same e fun v' hv=> ?_
  show exec env τ _=_
  simp only[exec]
  obtain⟨r,h1,h2⟩:=Z1z.1 hv
  obtain⟨bs,h3,rfl⟩:=Z2z.1 h2
  rw[h1,Zac,h3];rfl
 |cut z x lo hi=>
  refine same e fun v' hv=> ?_
  show exec env τ _=_
  simp only[exec]
  split at hv
  ·rename_i hz
   rw[if_pos hz,hv];rfl
  ·cases hv
 |app z b ze s x=>exact L8 e
 |clr z ze x=>exact L8 e
 |mkm=>exact L8 e
 |mup ks m k' v=>exact L8 e
 |mkf f caps=>
  refine same e fun v' hv=> ?_
  show exec env τ _=_
  simp only[exec] at hv ⊢
  obtain⟨⟨w,s⟩,hw,rfl⟩:=Z2z.1 hv
  obtain⟨cs,h1,h2⟩:=Z2z.1 hw
  injection h2 with h2 h3;subst h2
  rw[h1];rfl
 |pan=>exact e.elim
 |_=>exact pure rfl e rfl fun _ h=>h
theorem Oi:∀ {os:List Op1} {K:Env->List Item->St->Prop} {env:Env} {h:List Item} {τ:St},Hx σ τ h->sx P D σ os K env h τ->Ae D P os (fun env' τ'=>τ.length<=τ'.length/\∃ h',Hx σ τ' h'/\K env' h' τ') env τ
 |[],K,env,h,τ,H,e=>⟨Za9 _,h,H,e⟩
 |o::r,K,env,h,τ,H,e=>by
  have yes:sxI P D σ env h τ (fun v h' τ'=>sx P D σ r K (upo env o.d v) h' τ') o.i->∃ v σ',Step P env τ o.i v σ'/\(D=true->τ <+: σ')/\Ae D P r (fun env' τ'=>τ.length<=τ'.length/\∃ h',Hx σ τ' h'/\K env' h' τ') (upo env o.d v) σ':=fun e=>by
   obtain⟨v,τ',h1,h2,h',h3,h4⟩:=A9t H e
   have hl:=Sr h1
   exact⟨v,τ',h1,h2,Bu (Oi h3 h4) fun _ _ hk=>⟨Zay hl hk.1,hk.2⟩⟩
  have no:sx P D σ r K (upo env o.d (.tup [])) h τ->Ae D P r (fun env' τ'=>τ.length<=τ'.length/\∃ h',Hx σ τ' h'/\K env' h' τ') (upo env o.d (.tup [])) τ:=fun e=>Oi H e
  simp only[Ae]
  simp only[sx] at e
  cases hg:o.g with
  |none=>
   rw[hg] at e
   rw[if_pos (by simp[Ag])]
   exact yes e
  |some q=>
   obtain⟨g,b⟩:=q
   rw[hg] at e
   simp only[Za6] at e
   cases hc:(env g).bit with
   |none=>
    rw[hc] at e
    rw[if_neg (by simp[Ag,hc])]
    exact no e
   |some c=>
    rw[hc] at e
    by_cases hcb:c=b
    ·rw[if_pos (by simp[Ag,hc,hcb])]
     exact yes (e.1 hcb)
    ·rw[if_neg (by simp[Ag,hc,hcb])]
     exact no (e.2 (by cases c<;>cases b<;>simp_all))
theorem A2c {d:Cd}:∀ {Q:Qx} {env:Env} {h:List Item} {τ:St},Hx σ τ h->sxc P σ d Q env h τ->vc P d (fun e env' τ'=>τ.length<=τ'.length/\∃ h',Hx σ τ' h'/\Q e env' h' τ') env τ:=by
 induction d with
 |skip=>intro Q env h τ H e;exact⟨Za9 _,h,H,e⟩
 |reg ops=>intro Q env h τ H e;exact Oi H e
 |drw a1 bs=>
  intro Q env h τ H e
  show Ae true P a1 _ env τ
  refine Bu (Oi H e) fun env' τ' hk=> ?_
  obtain⟨hl,h',H',hk⟩:=hk
  exact Bu (Oi H' hk) fun _ _ hq=>⟨Zay hl hq.1,hq.2⟩
 |seq a b iha ihb=>
  intro Q env h τ H e
  show vc P a _ env τ
  refine Aq (iha H e) fun e env' τ' hk=> ?_
  obtain⟨hl,h',H',hk⟩:=hk
  cases e with
  |nxt=>exact Aq (ihb H' hk) fun _ _ _ hq=>⟨Zay hl hq.1,hq.2⟩
  |ext j=>exact⟨hl,h',H',hk⟩
  |ret=>exact⟨hl,h',H',hk⟩
 |cnd c a b iha ihb=>
  intro Q env h τ H e
  simp only[sxc] at e
  unfold ifX at e
  split at e
  ·rename_i t ht
   exact⟨t,ht,fun k=>iha H (e.1 k),fun k=>ihb H (e.2 k)⟩
  ·exact e.elim
 |blk id a ih=>
  intro Q env h τ H e
  show vc P a _ env τ
  refine Aq (ih H e) fun e env' τ' hk=> ?_
  obtain⟨hl,h',H',hk⟩:=hk
  cases e with
  |nxt=>exact⟨hl,h',H',hk⟩
  |ext j=>
   simp only at hk ⊢
   split at hk
   ·rename_i hj;rw[if_pos hj];exact⟨hl,h',H',hk⟩
   ·rename_i hj;rw[if_neg hj];exact⟨hl,h',H',hk⟩
  |ret=>exact⟨hl,h',H',hk⟩
 |lop a ih=>
  intro Q env h τ H e
  obtain⟨I,n,h0,H0,hI,hs⟩:=e
  refine Qg (fun k env' τ'=>τ.length<=τ'.length/\∃ h,Hx σ τ' h/\I k env' h τ') n ⟨Za9 _,h0,H0,hI⟩ ?_
  rintro k env1 τ1 ⟨hl,h1,H1,hI1⟩
  refine Aq (ih H1 (hs k env1 h1 τ1 H1 hI1)) fun e env' τ' hk=> ?_
  obtain⟨hl2,h',H',hk⟩:=hk
  cases e with
  |nxt=>
   obtain⟨k',h3,h4,h5,h6⟩:=hk
   exact⟨k',h4,Zay hl hl2,h3,h5,h6⟩
  |ext j=>exact⟨Zay hl hl2,hk⟩
  |ret=>exact⟨Zay hl hl2,hk⟩
 |ext id=>intro Q env h τ H e;exact⟨Za9 _,h,H,e⟩
 |ret=>intro Q env h τ H e;exact⟨Za9 _,h,H,e⟩
def rsX (σ:St) (h:List Item) (τ:St) (env:Env):Rs->Option GV
 | .t n=>some (env n)
 | .c a g n=>ldX σ h τ g n (env a)
def resX (σ:St) (h:List Item) (τ:St) (env:Env):List Rs->Option GV
 |[r]=>rsX σ h τ env r
 |rs=>(Ba (rsX σ h τ env) rs).bind fun vs=>if vs.all C7 then some (.tup vs) else none
theorem A2d {h:List Item} {τ:St} (H:Hx σ τ h) {env:Env} {r:Rs} {v:GV} (e:rsX σ h τ env r=some v):r.ev env τ=some v:=by
 cases r with
 |t n=>exact e
 |c a g n=>rw[rs_c];exact Uq H e
theorem Y7 {α β:Type} {f g:α->Option β} (h:∀ x y,f x=some y->g x=some y):∀ {l:List α} {r:List β},Ba f l=some r->Ba g l=some r
 |[],r,e=>e
 |x::l,r,e=>by
  simp only[Ba,Z1z,Z2z] at e ⊢
  obtain⟨y,h1,ys,h2,rfl⟩:=e
  exact⟨y,h _ _ h1,ys,Y7 h h2,rfl⟩
theorem Y8 {h:List Item} {τ:St} (H:Hx σ τ h) {env:Env} {rs:List Rs} {v:GV} (e:resX σ h τ env rs=some v):resG env τ rs=some v:=by
 unfold resX at e
 unfold resG
 split at e
 ·exact A2d H e
 ·rename_i hne
  split
  ·exact absurd rfl (hne _)
  ·obtain⟨vs,h1,h2⟩:=Z1z.1 e
   rw[Y7 (fun x y=>A2d H) h1];exact h2
theorem Fi {md:Bool} {f:Nat} {F:Fn1} {args:List GV} {σ1:St} {h0:List Item} {Post:GV->St->Prop} (hF:Fs md P f=some F) (hl:args.length<=F.n) (H:Hx σ σ1 h0)
  (hc:sxc P σ F.c (fun e env h τ=>Hx σ τ h->Tb e=true/\∃ r,resX σ h τ env F.rs=some r/\Post r τ) (env0 args) h0 σ1):∃ r τ,Ret P f args σ1 r τ/\Post r τ:=
 Ay hF hl (Aq (A2c H hc) fun e env τ he=>by
  obtain⟨hl,h,H,hq⟩:=he
  obtain⟨ho,r,hr,hp⟩:=hq H
  exact⟨ho,r,Y8 H hr,hl,hp⟩)
end sound
def Add (P:Program) (D:Bool) (σ:St) (r:List Op1) (K:Env->List Item->St->Prop) (env:Env) (d:Option Nat):Kx:=fun v h' τ'=>sx P D σ r K (upo env d v) h' τ'
def gdS (P:Program) (D:Bool) (σ:St) (env:Env) (h:List Item) (τ:St) (k:Kx) (i:Ins) (b:Bool) (c:Option Bool):Prop:=match c with
 |some c=>(c=b->sxI P D σ env h τ k i)/\(c= !b->k (.tup []) h τ)
 |none=>k (.tup []) h τ
def ifS (P:Program) (σ:St) (a b:Cd) (Q:Qx) (env:Env) (h:List Item) (τ:St) (c:Option Bool):Prop:=match c with
 |some c=>(c=true->sxc P σ a Q env h τ)/\(c=false->sxc P σ b Q env h τ)
 |none=>False
section words
variable {P:Program} {D:Bool} {σ τ:St} {env:Env} {h:List Item} {r:List Op1} {K:Env->List Item->St->Prop} {k:Kx} {d:Option Nat} {Q:Qx}
@[go_sem] theorem nextX_ap {v:GV}:Add P D σ r K env d v h τ=sx P D σ r K (upo env d v) h τ:=(rfl)
@[go_sem] theorem sx_nil:sx P D σ [] K env h τ=K env h τ:=(rfl)
@[go_sem] theorem sx_one {i:Ins}:sx P D σ (⟨d,none,i⟩::r) K env h τ=sxI P D σ env h τ (Add P D σ r K env d) i:=(rfl)
@[go_sem] theorem sx_grd {g:Nat} {b:Bool} {i:Ins}:sx P D σ (⟨d,some (g,b),i⟩::r) K env h τ=gdS P D σ env h τ (Add P D σ r K env d) i b (env g).bit:=by
 show gdX (some ((env g).bit,b)) _ _=_
 cases(env g).bit<;>rfl
@[go_sem] theorem gdS_tt {b:Bool} {i:Ins}:gdS P D σ env h τ k i b (some b)=sxI P D σ env h τ k i:=by cases b<;>simp[gdS]
@[go_sem] theorem gdS_tf {i:Ins}:gdS P D σ env h τ k i false (some true)=k (.tup []) h τ:=by simp[gdS]
@[go_sem] theorem gdS_ft {i:Ins}:gdS P D σ env h τ k i true (some false)=k (.tup []) h τ:=by simp[gdS]
@[go_sem] theorem gdS_n {b:Bool} {i:Ins}:gdS P D σ env h τ k i b none=k (.tup []) h τ:=(rfl)
@[go_sem] theorem bindX_some {v:GV}:Ea (some v) k h τ=k v h τ:=(rfl)
@[go_sem] theorem ifS_t {a b:Cd}:ifS P σ a b Q env h τ (some true)=sxc P σ a Q env h τ:=by simp[ifS]
@[go_sem] theorem ifS_f {a b:Cd}:ifS P σ a b Q env h τ (some false)=sxc P σ b Q env h τ:=by simp[ifS]
theorem A2e {v:Option GV}:(Option.map (·.1) (v.map fun v=>(v,([]:St))))=v:=by cases v<;>rfl
@[go_sem] theorem xi_mov {x:Opd}:sxI P D σ env h τ k (.mov x)=k (x.ev env) h τ:=(rfl)
@[go_sem] theorem xi_pick {c a b:Opd}:sxI P D σ env h τ k (.pick c a b)=Ea ((c.ev env).bit.map fun t=>if t then a.ev env else b.ev env) k h τ:=by
 simp only[sxI,exec]
 cases(c.ev env).bit<;>rfl
@[go_sem] theorem xi_new {cs:List GV}:sxI P D σ env h τ k (.new cs)=Jy σ h 1 cs (fun n=>.ptr n 0) k:=(rfl)
@[go_sem] theorem xi_box {x:Opd}:sxI P D σ env h τ k (.box x)=(C7 (x.ev env)=true/\Jy σ h 1 (x.ev env).cells (fun n=>.ptr n 0) k):=(rfl)
@[go_sem] theorem xi_build {z:List GV} {ps:List (Nat×Nat×Opd)}:sxI P D σ env h τ k (.build z ps)=Ea ((Gk z (ps.map fun p=>(p.1,p.2.1,p.2.2.ev env))).map .agg) k h τ:=by
 simp only[sxI,exec]
 cases Gk z (ps.map fun p=>(p.1,p.2.1,p.2.2.ev env))<;>rfl
@[go_sem] theorem xi_lit {z l:Nat} {ze:List GV} {ps:List (Nat×Nat×Opd)}:sxI P D σ env h τ k (.lit z l ze ps)=litX σ h z l k (Gk ze (ps.map fun p=>(p.1,p.2.1,p.2.2.ev env))):=(rfl)
@[go_sem] theorem litX_some {z l:Nat} {cs:List GV}:litX σ h z l k (some cs)=Jy σ h z cs (fun n=>.sl n 0 l) k:=(rfl)
@[go_sem] theorem xi_mks {z b:Nat} {ze:List GV} {n c:Opd}:sxI P D σ env h τ k (.mks z b ze n c)=mksX σ h z b ze k (Aw (some (n.ev env))) (Aw (some (c.ev env))):=(rfl)
@[go_sem] theorem mksX_some {z b:Nat} {ze:List GV} {n c:Nat}:mksX σ h z b ze k (some n) (some c)=(n=c/\n*b<=140737488355328/\Jy σ h z (reps n ze) (fun g=>.sl g 0 n) k):=(rfl)
@[go_sem] theorem xi_ld {g:Bool} {n:Nat} {a:Opd}:sxI P D σ env h τ k (.ld g n a)=Ea (ldX σ h τ g n (a.ev env)) k h τ:=(rfl)
@[go_sem] theorem xi_st {n:Nat} {a x:Opd}:sxI P D σ env h τ k (.st n a x)=stX σ D h τ n k (a.ev env) (x.ev env):=(rfl)
@[go_sem] theorem stX_ptr {n b off:Nat} {x:GV}:stX σ D h τ n k (.ptr b off) x=stB σ D h τ n k b off x (look h b):=(rfl)
@[go_sem] theorem stB_some {n b off:Nat} {x:GV} {cs:List GV}:stB σ D h τ n k b off x (some cs)=((D=false/\off+n<=cs.length/\0<n/\x.cells.length=n)/\∀ τ',Hx σ τ' (upd h b (Al cs off x.cells))->k (.tup []) (upd h b (Al cs off x.cells)) τ'):=(rfl)
@[go_sem] theorem xi_nck {x:Opd}:sxI P D σ env h τ k (.nck x)=Ea (nckG (x.ev env)) k h τ:=by simp only[sxI,exec,A2e]
@[go_sem] theorem xi_bin {op:BinOp} {x y:Opd}:sxI P D σ env h τ k (.bin op x y)=Ea (binG op (x.ev env) (y.ev env)) k h τ:=by simp only[sxI,exec,A2e]
@[go_sem] theorem xi_eqb {n:Bool} {x y:Opd}:sxI P D σ env h τ k (.eqb n x y)=Ea (eqbG n (x.ev env) (y.ev env)) k h τ:=by
 simp only[sxI,exec,eqbG]
 cases(x.ev env).bit with
 |none=>rfl
 |some a=>cases(y.ev env).bit<;>rfl
@[go_sem] theorem xi_eqn {p n:Bool} {x y:Opd}:sxI P D σ env h τ k (.eqn p n x y)=Ea ((nilG p (x.ev env) (y.ev env)).map fun b=>.bool (n ^^ b)) k h τ:=by
 simp only[sxI,exec]
 cases nilG p (x.ev env) (y.ev env)<;>rfl
@[go_sem] theorem xi_eqs {n:Bool} {ks:List Sc} {x y:Opd}:sxI P D σ env h τ k (.eqs n ks x y)=Ea (eqsG n ks (x.ev env) (y.ev env)) k h τ:=by
 simp only[sxI,exec]
 cases x.ev env<;>first|rfl|skip
 cases y.ev env<;>first|rfl|skip
 simp only[eqsG]
 cases Cj ks _ _<;>rfl
@[go_sem] theorem xi_un {op:UnOp} {x:Opd}:sxI P D σ env h τ k (.un op x)=Ea (unG op (x.ev env)) k h τ:=by simp only[sxI,exec,A2e]
@[go_sem] theorem xi_cvi {kd:IntKind} {x:Opd}:sxI P D σ env h τ k (.cvi kd x)=Ea (cviG kd (x.ev env)) k h τ:=by
 simp only[sxI,exec]
 cases x.ev env<;>rfl
@[go_sem] theorem xi_bts {x:Opd}:sxI P D σ env h τ k (.bts x)=Ea ((elems τ 1 (x.ev env)).bind fun r=>(Gu r.2).map fun bs=>.str ⟨bs.toArray⟩) k h τ:=(rfl)
@[go_sem] theorem xi_mkf {f:Nat} {cs:List Opd}:sxI P D σ env h τ k (.mkf f cs)=Ea ((cs.mapM fun c=>A0p (c.ev env)).map fun cs=>.fn f cs) k h τ:=by
 simp only[sxI,exec]
 cases cs.mapM fun c=>A0p (c.ev env)<;>rfl
@[go_sem] theorem xi_cutS {x:Opd} {lo hi:Option Opd}:sxI P D σ env h τ k (.cutS x lo hi)=Ea (A6w (x.ev env) (lo.map (·.ev env)) (hi.map (·.ev env))) k h τ:=by simp only[sxI,exec,A2e]
@[go_sem] theorem xi_cut {z:Nat} {x:Opd} {lo hi:Option Opd}:sxI P D σ env h τ k (.cut z x lo hi)=Ea (if zOk τ z (x.ev env) then cutG z (x.ev env) (lo.map (·.ev env)) (hi.map (·.ev env)) else none) k h τ:=(rfl)
@[go_sem] theorem xi_fad {n:Nat} {a:Opd}:sxI P D σ env h τ k (.fad n a)=Ea (fadG n (a.ev env)) k h τ:=by
 simp only[sxI,exec]
 cases a.ev env<;>rfl
@[go_sem] theorem xi_part {g:Bool} {off n:Nat} {x:Opd}:sxI P D σ env h τ k (.part g off n x)=Ea (Aam g off n (x.ev env)) k h τ:=by
 simp only[sxI,exec]
 cases x.ev env with
 |agg cs=>
  simp only[Aam]
  cases seg cs off n with
  |none=>rfl
  |some q=>simp only[Zac,A2e]
 |_=>rfl
@[go_sem] theorem xi_iad {z:Nat} {x i:Opd}:sxI P D σ env h τ k (.iad z x i)=Ea (iadG z (x.ev env) (Aw (some (i.ev env)))) k h τ:=by
 simp only[sxI,exec]
 cases x.ev env with
 |sl g off len=>
  simp only
  cases Aw (some (i.ev env)) with
  |none=>rfl
  |some n=>
   simp only[Zac,iadG]
   split<;>rfl
 |_=>rfl
@[go_sem] theorem xi_idx {x i:Opd}:sxI P D σ env h τ k (.idx x i)=Ea (idxG (x.ev env) (Aw (some (i.ev env)))) k h τ:=by
 simp only[sxI,exec]
 cases x.ev env with
 |str s=>
  simp only
  cases Aw (some (i.ev env)) with
  |none=>rfl
  |some n=>
   simp only[Zac,idxG]
   cases s[n]? <;>rfl
 |_=>rfl
@[go_sem] theorem xi_ext {i:Nat} {x:Opd}:sxI P D σ env h τ k (.ext i x)=Ea (extG i (x.ev env)) k h τ:=by
 simp only[sxI,exec]
 cases x.ev env with
 |tup vs=>
  simp only[extG]
  cases vs[i]? with
  |none=>rfl
  |some v=>cases v<;>rfl
 |_=>rfl
@[go_sem] theorem xi_len {s:Bool} {x:Opd}:sxI P D σ env h τ k (.len s x)=Ea ((lenG s (x.ev env)).map fun n=>.int .i64 n) k h τ:=by
 simp only[sxI,exec]
 cases lenG s (x.ev env)<;>rfl
@[go_sem] theorem xi_app {z b:Nat} {ze:List GV} {s x:Opd}:sxI P D σ env h τ k (.app z b ze s x)=genX σ D τ (appV z b τ (s.ev env) (x.ev env)) k:=(rfl)
@[go_sem] theorem xi_mm {m:Bool} {x y:Opd}:sxI P D σ env h τ k (.mm m x y)=Ea (mmG m (x.ev env) (y.ev env)) k h τ:=by
 simp only[sxI,exec]
 cases x.ev env<;>first|rfl|skip
 cases y.ev env<;>rfl
@[go_sem] theorem xi_clr {z:Nat} {ze:List GV} {x:Opd}:sxI P D σ env h τ k (.clr z ze x)=genX σ D τ (clrG z ze τ (x.ev env)) k:=(rfl)
@[go_sem] theorem xi_pan:sxI P D σ env h τ k .pan=False:=(rfl)
@[go_sem] theorem xi_mkm:sxI P D σ env h τ k .mkm=genX σ D τ (some (.mp τ.length,τ++[some (.map [])])) k:=(rfl)
@[go_sem] theorem xi_mlk {ks:List Sc} {z:GV} {ok:Bool} {m k':Opd}:sxI P D σ env h τ k (.mlk ks z ok m k')=Ea (mlkG τ ks z ok (m.ev env) (k'.ev env)) k h τ:=(rfl)
@[go_sem] theorem xi_mup {ks:List Sc} {m k' v:Opd}:sxI P D σ env h τ k (.mup ks m k' v)=genX σ D τ (mupG τ ks (m.ev env) (k'.ev env) (v.ev env)) k:=(rfl)
@[go_sem] theorem xi_call {f:Nat} {xs:List Opd}:sxI P D σ env h τ k (.call f xs)=Zs P σ D τ f (xs.map (·.ev env)) k:=(rfl)
@[go_sem] theorem xi_callv {x:Opd} {xs:List Opd}:sxI P D σ env h τ k (.callv x xs)=fnX P σ D τ (xs.map (·.ev env)) k (x.ev env):=(rfl)
@[go_sem] theorem fnX_fn {f:Nat} {caps:List (Nat×Nat)} {args:List GV}:fnX P σ D τ args k (.fn f caps)=Zs P σ D τ f (args++caps.map fun c=>.ptr c.1 c.2) k:=(rfl)
@[go_sem] theorem xi_chk {d' n t:Nat} {g:Bool}:sxI P D σ env h τ k (.chk d' (.ld g n (.t t)))=(ldX σ h τ g n (env t)=some (env d')/\k (.tup []) h τ):=(rfl)
@[go_sem] theorem xi_blc {t:Nat} {cs:List GV}:sxI P D σ env h τ k (.blc t cs)=(blcX h cs (env t)/\k (.tup []) h τ):=(rfl)
@[go_sem] theorem blcX_ptr {b:Nat} {cs:List GV}:blcX h cs (.ptr b 0)=(Oh h b=some (1,cs)):=(rfl)
@[go_sem] theorem lookZ_eq {z n:Nat} {cs:List GV}:Oh (.box z n cs::h) n=some (z,cs):=by simp[Oh]
@[go_sem low] theorem lookZ_ne {z m n:Nat} {cs:List GV} (hn:m≠n):Oh (.box z m cs::h) n=Oh h n:=by simp[Oh,hn]
@[go_sem] theorem lookZ_th {n:Nat} {q:Thg}:Oh (.th q::h) n=Oh h n:=(rfl)
@[go_sem] theorem allocX_def {z:Nat} {cs:List GV} {v:Nat->GV}:Jy σ h z cs v k=∀ n,frX σ h n->∀ τ',Hx σ τ' (.box z n cs::h)->k (v n) (.box z n cs::h) τ':=(rfl)
@[go_sem] theorem frX_nil {n:Nat}:frX σ [] n=(σ.length<=n):=(rfl)
@[go_sem] theorem Ade {z m n:Nat} {cs:List GV}:frX σ (.box z m cs::h) n=(m<n/\frX σ h n):=(rfl)
@[go_sem] theorem frX_th {n:Nat} {q:Thg}:frX σ (.th q::h) n=frX σ h n:=(rfl)
@[go_sem] theorem L9 {z n:Nat} {cs:List GV}:look (.box z n cs::h) n=some cs:=by simp[look]
@[go_sem low] theorem look_ne {z m n:Nat} {cs:List GV} (hn:m≠n):look (.box z m cs::h) n=look h n:=by simp[look,hn]
@[go_sem] theorem look_th {n:Nat} {q:Thg}:look (.th q::h) n=look h n:=(rfl)
@[go_sem] theorem upd_eq {z n:Nat} {cs ds:List GV}:upd (.box z n cs::h) n ds= .box z n ds::h:=by simp[upd]
@[go_sem low] theorem upd_ne {z m n:Nat} {cs ds:List GV} (hn:m≠n):upd (.box z m cs::h) n ds= .box z m cs::upd h n ds:=by simp[upd,hn]
@[go_sem] theorem upd_th {n:Nat} {q:Thg} {ds:List GV}:upd (.th q::h) n ds= .th q::upd h n ds:=(rfl)
@[go_sem] theorem ldX_ptr {g:Bool} {n b off:Nat} (hb:σ.length<=b):ldX σ h τ g n (.ptr b off)=ldB (look h b) g n off (ldG g n τ (.ptr b off)):=by
 have:ldG g n σ (.ptr b off)=none:=by
  simp only[ldG,rdB]
  rw[List.getElem?_eq_none hb];rfl
 simp only[ldX,this,orX,ldY]
@[go_sem] theorem ldX_at {g:Bool} {n z i:Nat} {v:GV}:ldX σ h τ g n (atz z v i)=orX (ldG g n σ (atz z v i)) (ldY h τ g n (atz z v i)):=(rfl)
@[go_sem] theorem ldX_fld {g:Bool} {n z i m:Nat} {v:GV}:ldX σ h τ g n (fld m (atz z v i))=orX (ldG g n σ (fld m (atz z v i))) (ldY h τ g n (fld m (atz z v i))):=(rfl)
@[go_sem] theorem orX_some {x:GV} {b:Option GV}:orX (some x) b=some x:=(rfl)
@[go_sem] theorem orX_none {b:Option GV}:orX none b=b:=(rfl)
@[go_sem] theorem ldB_some {cs:List GV} {g:Bool} {n off:Nat} {e:Option GV}:ldB (some cs) g n off e=(seg cs off n).bind (mkv g):=(rfl)
@[go_sem] theorem cells_i {kd:IntKind} {n:Int}:(GV.int kd n).cells=[.int kd n]:=(rfl)
@[go_sem] theorem cells_s {s:ByteArray}:(GV.str s).cells=[.str s]:=(rfl)
@[go_sem] theorem cells_b {b:Bool}:(GV.bool b).cells=[.bool b]:=(rfl)
@[go_sem] theorem cells_p {n o:Nat}:(GV.ptr n o).cells=[.ptr n o]:=(rfl)
@[go_sem] theorem cells_l {n o l:Nat}:(GV.sl n o l).cells=[.sl n o l]:=(rfl)
@[go_sem] theorem cells_a {cs:List GV}:(GV.agg cs).cells=cs:=(rfl)
@[go_sem] theorem cells_n:(GV.nilS).cells=[.nilS]:=(rfl)
@[go_sem] theorem cells_m {n:Nat}:(GV.mp n).cells=[.mp n]:=(rfl)
@[go_sem] theorem cells_f {f:Nat} {c:List (Nat×Nat)}:(GV.fn f c).cells=[.fn f c]:=(rfl)
@[go_sem] theorem notTup_p {n o:Nat}:C7 (.ptr n o)=true:=(rfl)
@[go_sem] theorem notTup_m {n:Nat}:C7 (.mp n)=true:=(rfl)
@[go_sem] theorem notTup_f {f:Nat} {c:List (Nat×Nat)}:C7 (.fn f c)=true:=(rfl)
@[go_sem] theorem xc_skip:sxc P σ .skip Q env h τ=Q .nxt env h τ:=(rfl)
@[go_sem] theorem xc_reg {os:List Op1}:sxc P σ (.reg os) Q env h τ=sx P false σ os (Q .nxt) env h τ:=(rfl)
@[go_sem] theorem xc_drw {a1 bs:List Op1}:sxc P σ (.drw a1 bs) Q env h τ=sx P true σ a1 (sx P false σ bs (Q .nxt)) env h τ:=(rfl)
@[go_sem] theorem xc_seq {a b:Cd}:sxc P σ (.seq a b) Q env h τ=sxc P σ a (fun e=>match e with
  | .nxt=>sxc P σ b Q
  |e=>Q e) env h τ:=(rfl)
@[go_sem] theorem xc_cnd {c:Opd} {a b:Cd}:sxc P σ (.cnd c a b) Q env h τ=ifS P σ a b Q env h τ (c.ev env).bit:=by
 show ifX _ _ _=_
 cases(c.ev env).bit<;>rfl
@[go_sem] theorem xc_blk {id:Nat} {a:Cd}:sxc P σ (.blk id a) Q env h τ=sxc P σ a (fun e=>match e with
  | .ext j=>if j=id then Q .nxt else Q (.ext j)
  |e=>Q e) env h τ:=(rfl)
@[go_sem] theorem xc_ext {id:Nat}:sxc P σ (.ext id) Q env h τ=Q (.ext id) env h τ:=(rfl)
@[go_sem] theorem xc_ret:sxc P σ .ret Q env h τ=Q .ret env h τ:=(rfl)
@[go_sem] theorem rsX_t {n:Nat}:rsX σ h τ env (.t n)=some (env n):=(rfl)
@[go_sem] theorem rsX_c {a n:Nat} {g:Bool}:rsX σ h τ env (.c a g n)=ldX σ h τ g n (env a):=(rfl)
@[go_sem] theorem resX_1 {x:Rs}:resX σ h τ env [x]=rsX σ h τ env x:=(rfl)
@[go_sem] theorem resX_0:resX σ h τ env []=some (.tup []):=(rfl)
@[go_sem] theorem resX_2 {x y:Rs}:resX σ h τ env [x,y]=tup2 (rsX σ h τ env x) (rsX σ h τ env y):=by
 simp only[resX,Ba,tup2]
 cases rsX σ h τ env x with
 |none=>rfl
 |some u=>cases rsX σ h τ env y<;>simp
@[go_sem] theorem resX_3 {x y z:Rs}:resX σ h τ env [x,y,z]=tup3 (rsX σ h τ env x) (rsX σ h τ env y) (rsX σ h τ env z):=by
 simp only[resX,Ba,tup3]
 cases rsX σ h τ env x with
 |none=>rfl
 |some u=>cases rsX σ h τ env y with
  |none=>rfl
  |some v=>cases rsX σ h τ env z<;>simp
end words
theorem Zu {τ:St}:∀ {rs:List Thg} {fp:List Nat},sat τ rs fp->fp.Nodup->∃ F:Nat->List Nat,(∀ (i:Nat) (r:Thg),rs[i]? =some r->r.P τ (F i))/\(∀ i,(F i).Nodup)/\(∀ i j,i≠j->∀ g∈F i,g∉F j)/\∀ i,∀ g∈F i,g∈fp
 |[],fp,h,hn=>⟨fun _=>[],by simp,by simp,by simp,by simp⟩
 |r::rs,_,⟨a,b,hr,hs,rfl⟩,hn=>by
  rw[Zam] at hn
  obtain⟨F,h1,h2,h3,h4⟩:=Zu hs hn.2.1
  refine⟨fun i=>match i with|0=>a|i+1=>F i,?_,?_,?_,?_⟩
  ·intro i s hi
   cases i with
   |zero=>simp at hi;subst hi;exact hr
   |succ i=>exact h1 i s (by simpa using hi)
  ·intro i;cases i with
   |zero=>exact hn.1
   |succ i=>exact h2 i
  ·intro i j hij g hg
   cases i with
   |zero=>cases j with
    |zero=>exact absurd rfl hij
    |succ j=>exact fun h=>hn.2.2 g hg g (h4 j g h) rfl
   |succ i=>cases j with
    |zero=>exact fun h=>hn.2.2 g h g (h4 i g hg) rfl
    |succ j=>exact h3 i j (by omega) g hg
  ·intro i g hg
   cases i with
   |zero=>exact Zat _ hg
   |succ i=>exact Zak _ (h4 i g hg)
theorem A9u {τ:St} {rs:List Thg} {F:Nat->List Nat} (h1:∀(i:Nat) (r:Thg),rs[i]? =some r->r.P τ (F i)) (h2:∀ i,(F i).Nodup) (h3:∀ i j,i≠j->∀ g∈F i,g∉F j):∀ {is:List Nat},is.Nodup->∃ fp,sat τ (is.filterMap (rs[·]?)) fp/\fp.Nodup/\∀ g∈fp,∃ i∈is,g∈F i
 |[],_=>⟨[],rfl,by simp,by simp⟩
 |i::is,hn=>by
  rw[Zau] at hn
  obtain⟨fp,k1,k2,k3⟩:=A9u h1 h2 h3 hn.2
  cases hi:rs[i]? with
  |none=>exact⟨fp,by rw[Za3,hi];exact k1,k2,fun g hg=>by obtain⟨j,hj,h⟩:=k3 g hg;exact⟨j,Zad _ hj,h⟩⟩
  |some r=>
   refine⟨F i++fp,by rw[Za3,hi];exact⟨F i,fp,h1 i r hi,k1,rfl⟩,Zam.2 ⟨h2 i,k2,fun x hx y hy e=> ?_⟩,fun g hg=> ?_⟩
   ·subst e
    obtain⟨j,hj,h⟩:=k3 x hy
    exact h3 i j (fun e=>hn.1 (by rw[e];exact hj)) x hx h
   ·rcases Zbs.1 hg with hg|hg
    ·exact⟨i,Zaf,hg⟩
    ·obtain⟨j,hj,h⟩:=k3 g hg;exact⟨j,Zad _ hj,h⟩
theorem Hp.sel {σ τ:St} {rs:List Thg} (H:Hp σ τ rs) (is:List Nat) (hn:is.Nodup):Hp σ τ (is.filterMap (rs[·]?)):=by
 obtain⟨h,fp,hs,hnd,hb⟩:=H
 obtain⟨F,h1,h2,h3,h4⟩:=Zu hs hnd
 obtain⟨fp',k1,k2,k3⟩:=A9u h1 h2 h3 hn
 exact⟨h,fp',k1,k2,fun g hg=>by obtain⟨i,_,hi⟩:=k3 g hg;exact hb g (h4 i g hi)⟩
theorem Hx.sel {σ τ:St} {h:List Item} (H:Hx σ τ h) (is:List Nat) (hn:is.Nodup):Hp σ τ (is.filterMap ((h.map Item.t)[·]?)):=Hp.sel H is hn
theorem Hx.re {σ τ:St} {h:List Item} (H:Hx σ τ h) (is:List Nat) (hn:is.Nodup):Hx σ τ (is.filterMap (h[·]?)):=by
 have e:(is.filterMap (h[·]?)).map Item.t=is.filterMap ((h.map Item.t)[·]?):=by
  induction is with
  |nil=>rfl
  |cons i is ih=>
   have ih:=ih (Zau.1 hn).2
   rw[Za3,Za3,Za8]
   cases h[i]? with
   |none=>exact ih
   |some x=>simp only[Za6,Zbm,ih]
 unfold Hx
 rw[e]
 exact H.sel is hn
section os
variable {α:Type} {d:Kd α} {σ τ:St} {l:List α} {v:GV} {fp:List Nat}
theorem OS.appc {by8:Nat} {x:α} {cs:List GV} {fx:List Nat} (h:OS d τ l v fp) (hx:d.O τ x cs fx) (hn:(fp++fx).Nodup) (hlt:∀ g∈fp++fx,g<τ.length) (hz:0<d.z) (hb:(l.length+1)*by8<=140737488355328):
  ∃ v' τ' fp',appG d.z by8 τ v 1 cs=some (v',τ')/\OS d τ' (l++[x]) v' fp'/\Turn τ τ' (fp++fx) fp':=by
 have hcl:=d.len (d.rd hx)
 rcases h with⟨rfl,rfl,rfl⟩|⟨g,pre,css,post,fps,rfl,hB,hA,rfl⟩
 ·have hb':1*by8<=140737488355328:=by simpa using hb
  refine⟨.sl τ.length 0 1,τ++[some (.row d.z cs)],τ.length::fx,?_,?_,?_⟩
  ·simp only[appG]
   rw[if_neg (by omega),if_pos hb']
  ·refine .inr ⟨τ.length,[],[cs],[],[fx],rfl,?_,.cons (d.loc hx fun g hg=> ?_) .nil,by simp⟩
   ·rw[C8];simp
   ·rw[Ck (hlt g (by simpa using hg))]
  ·refine⟨?_,?_,by simp,fun g hg _=>by rw[Ck hg]⟩
   ·rw[Zau]
    exact⟨fun h=>by have:=hlt τ.length (by simpa using h);omega,by simpa using hn⟩
   ·intro g hg
    rcases Zai.1 hg with rfl|hg
    ·right;simp
    ·left;simpa using hg
 ·rw[Zab,Zau] at hn
  have hgt:g<τ.length:=hlt g (by simp)
  have hfl:=Nn hA
  have e:((pre++css.flatten++post).drop pre.length).take (l.length*d.z)=css.flatten:=by
   rw[List.append_assoc,List.drop_append,Zbo (Za9 _),Zae,Nat.sub_self,Zb3,List.take_append_of_le_length (by omega),Zaw (by omega)]
  have c1:pre.length+l.length*d.z<=(pre++css.flatten++post).length:=by simp only[Zap];omega
  obtain⟨σ1,e1,hs⟩:=Pc (bytes:=by8) (n:=1) (new:=cs) (Ar.1 hB) (by omega) c1 hb
  have hsl:σ1.length=τ.length:=by rcases hs with rfl|rfl<;>simp
  have hbk:∀ g',g≠g'->bk σ1 g'=bk τ g':=fun g' hne=>by
   rcases hs with rfl|rfl
   ·rfl
   ·exact E5 hne
  rw[e] at e1
  refine⟨.sl τ.length 0 (l.length+1),σ1++[some (.row d.z (css.flatten++cs))],τ.length::(fps.flatten++fx),e1,?_,?_⟩
  ·have keep:∀ g'∈fps.flatten++fx,bk (σ1++[some (.row d.z (css.flatten++cs))]) g'=bk τ g':=fun g' hg'=>by
    have h1:g'<τ.length:=hlt g' (by simp only[Zab];exact Zad _ hg')
    have h2:g≠g':=fun e=>hn.1 (by rw[e];exact hg')
    rw[Ck (by rw[hsl];omega),hbk g' h2]
   refine .inr ⟨τ.length,[],css++[cs],[],fps++[fx],by simp,?_,(hA.imp fun a b c hc ho=>d.loc ho fun g' hg'=>keep g' (Zat _ (Zbc.2 ⟨c,hc,hg'⟩))).append (.cons (d.loc hx fun g' hg'=>keep g' (Zak _ hg')) .nil),by simp⟩
   rw[<- hsl,C8];simp
  ·refine⟨?_,?_,by simp[hsl],fun g' hg' hne=> ?_⟩
   ·rw[Zau]
    exact⟨fun h=>by have:=hlt τ.length (by simp only[Zab];exact Zad _ h);omega,hn.2⟩
   ·intro g' hg'
    rcases Zai.1 hg' with rfl|hg'
    ·right;simp[hsl]
    ·left;simp only[Zab];exact Zad _ hg'
   ·have h2:g≠g':=fun e=>hne (by rw[e];simp)
    rw[Ck (by rw[hsl];exact hg'),hbk g' h2]
end os
theorem Hp.appc {α:Type} {d:Kd α} {σ τ:St} {rs:List Thg} {v:GV} {l:List α} {by8:Nat} {x:α} {cs:List GV} (H:Hp σ τ (own d cs x::rs)) (i:Nat) (hi:rs[i]? =some (ow d v l)) (hz:0<d.z) (hb:(l.length+1)*by8<=140737488355328):
  ∃ v' τ',appG d.z by8 τ v 1 cs=some (v',τ')/\Hp σ τ' (rs.set i (ow d v' (l++[x]))):=by
 have hp:(own d cs x::rs).Perm (ow d v l::own d cs x::rs.eraseIdx i):=((pick_perm hi).cons _).trans (List.Perm.swap _ _ _)
 obtain⟨a,⟨a1,a2,h1,h2,rfl⟩,hn,hbd,ht⟩:=(H.perm hp).join.turn
 obtain⟨v',τ',fp',e,ho,hT⟩:=OS.appc (by8:=by8) (x:=x) (cs:=cs) (fx:=a2) h1 h2 hn (fun g hg=>(hbd g hg).2) hz hb
 exact⟨v',τ',e,unpick (ht hT ho) (Zar.1 hi).1⟩
theorem RS_one {α:Type} {p:Pl α} {τ:St} {n:Nat} {x:α} (h:rdB τ n=some (p.enc x)):RS p.kd τ (.sl n 0 1) [x]:=by
 refine .inr ⟨n,0,p.enc x,rfl,h,?_,fun i y hy=> ?_⟩
 ·show 0+1*p.z<=_;rw[p.len];omega
 ·have hi:i<1:=by simpa using (Zar.1 hy).1
  have hi:i=0:=by omega
  subst hi
  simp at hy;subst hy
  show List.take p.z (List.drop (0+0*p.z) (p.enc x))=p.enc x
  simp only[Nat.zero_mul,Nat.add_zero,Zb3]
  exact Zaw (by rw[p.len];exact Za9 _)
section rules
variable {P:Program} {D:Bool} {σ τ τ':St} {env:Env} {h:List Item} {k:Kx} {f:Nat} {args:List GV} {v:GV} {α:Type}
theorem Abw {rs:List Thg} {h:List Item}:(rs.map Item.th++h).map Item.t=rs++h.map Item.t:=by
 rw[Zb1,List.map_map]
 congr 1
 exact List.map_id _
theorem by_cs {rs:List Thg} (H:Hx σ τ h) (R:Ret P f args τ v τ') (K:Hp τ τ' rs) (kk:Hx σ τ' (rs.map Item.th++h)->k v (rs.map Item.th++h) τ'):Zs P σ D τ f args k:=by
 have H':Hx σ τ' (rs.map Item.th++h):=by unfold Hx;rw[Abw];exact H.hp.add K
 exact⟨v,τ',_,R,fun _=>K.sub,H',kk H'⟩
theorem by_c {r:Thg} (H:Hx σ τ h) (R:Ret P f args τ v τ') (K:Hp τ τ' [r]) (kk:Hx σ τ' (.th r::h)->k v (.th r::h) τ'):Zs P σ D τ f args k:=by_cs H R K kk
theorem by_r (H:Hx σ τ h) (R:Ret P f args τ v τ) (kk:k v h τ):Zs P σ D τ f args k:=⟨v,τ,h,R,fun _=>Za2 _,H,kk⟩
theorem by_b {b:Bool} (H:Hx σ τ h) (R:Ret P f args τ (.bool b) τ) (h1:b=true->k (.bool true) h τ) (h2:b=false->k (.bool false) h τ):Zs P σ D τ f args k:=by
 refine by_r H R ?_
 cases b with
 |true=>exact h1 rfl
 |false=>exact h2 rfl
theorem by_m {h':List Item} (R:Ret P f args τ v τ') (H:Hx σ τ' h') (kk:k v h' τ'):Zs P σ false τ f args k:=⟨v,τ',h',R,(fun h=>by cases h),H,kk⟩
theorem Adf {h:List Item} {i:Nat} {r:Thg}:(h.set i (.th r)).map Item.t=(h.map Item.t).set i r:=List.map_set ..
theorem at_t {h:List Item} {i:Nat} {r:Thg} (hi:h[i]? =some (.th r)):(h.map Item.t)[i]? =some r:=by rw[Za8,hi];rfl
theorem Adg {p:Pl α} {b8 n:Nat} {l:List α} (H:Hx σ τ h) (i:Nat) (hi:h[i]? =some (.th (ow p.kd v l))) (x:α) (hl:look h n=some (p.enc x)) (hz:0<p.z) (hb:(l.length+1)*b8<=140737488355328)
  (kk:∀ v' τ',Hx σ τ' (h.set i (.th (ow p.kd v' (l++[x]))))->k v' (h.set i (.th (ow p.kd v' (l++[x])))) τ'):genX σ false τ (appV p.z b8 τ v (.sl n 0 1)) k:=by
 obtain⟨z,j,h1,_⟩:=My hl
 obtain⟨v',τ',e,H'⟩:=H.hp.app (by8:=b8) i (at_t hi) (RS_one (H.hp.pt j h1)) hz hb
 rw[<- Adf] at H'
 exact⟨v',τ',_,e,(fun h=>by cases h),H',kk v' τ' H'⟩
theorem Zv:∀(h:List Item) (j:Nat),(h.map Item.t).eraseIdx j=(h.eraseIdx j).map Item.t
 |[],_=>rfl
 |x::h,0=>rfl
 |x::h,j+1=>by simp only[Zbm,Zbn,Zv h j]
theorem Mz {d:Kd α} {b8 n:Nat} {l:List α} {x:α} {cs:List GV} (H:Hx σ τ h) (j i:Nat) (hj:h[j]? =some (.th (own d cs x))) (hi:(h.eraseIdx j)[i]? =some (.th (ow d v l))) (hl:look h n=some cs) (hz:0<d.z) (hb:(l.length+1)*b8<=140737488355328)
  (kk:∀ v' τ',Hx σ τ' ((h.eraseIdx j).set i (.th (ow d v' (l++[x]))))->k v' ((h.eraseIdx j).set i (.th (ow d v' (l++[x])))) τ'):genX σ false τ (appV d.z b8 τ v (.sl n 0 1)) k:=by
 obtain⟨z,m,h1,_⟩:=My hl
 have hB:=H.hp.pt m h1
 have hcl:cs.length=d.z:=d.len (H.hp.rd j (at_t hj))
 have H1:=H.hp.pick j (at_t hj)
 rw[Zv] at H1
 obtain⟨v',τ',e,H'⟩:=H1.appc (by8:=b8) i (at_t hi) hz hb
 rw[<- Adf] at H'
 refine⟨v',τ',_,?_,(fun h=>by cases h),H',kk v' τ' H'⟩
 rw[<- e]
 unfold appV
 have el:elems τ d.z (.sl n 0 1)=some (1,cs):=by
  simp only[elems,hB,Zac,seg]
  rw[if_pos (by omega)]
  simp
  exact Zaw (by omega)
 simp only[el,Zac]
theorem A5e {p:Pl α} {b8 n:Nat} {m:List α} {u:GV} (H:Hx σ τ (.box p.z n []::h)) (hu:RS p.kd τ u m) (hz:0<p.z) (hb:m.length*b8<=140737488355328)
  (kk:∀ v' τ',Hx σ τ' (.th (ow p.kd v' m)::h)->k v' (.th (ow p.kd v' m)::h) τ'):genX σ D τ (appV p.z b8 τ (.sl n 0 0) u) k:=by
 have hu':RdN p.en τ u m:=hu
 have ha:appV p.z b8 τ (.sl n 0 0) u=appG p.z b8 τ (.sl n 0 0) m.length (p.cells m):=by
  have he:=hu'.elems
  unfold appV
  rcases hu' with⟨rfl,rfl|rfl⟩|⟨g,off,cs,rfl,_⟩<;>simp only[he,Zac]
 rw[ha]
 by_cases hm:m.length=0
 ·have:m=[]:=List.eq_nil_of_length_eq_zero hm
  subst this
  have H1:Hx σ τ (.th (ow p.kd (.sl n 0 0) [])::h):=H.hp.toNil (d:=p.kd) 0 rfl rfl
  exact⟨.sl n 0 0,τ,_,by simp[appG,isSl],fun _=>Za2 _,H1,kk _ _ H1⟩
 ·obtain⟨a,ha,_⟩:=H.hp.see (i:=0) rfl
  have hB:=Ar.1 ha.2
  have H1:Hx σ (τ++[some (.row p.z (p.cells m))]) (.th (ow p.kd (.sl τ.length 0 m.length) m)::h):=(H.hp.drop1.new p.z (p.cells m)).toRow 0 rfl m rfl rfl _ rfl
  refine⟨.sl τ.length 0 m.length,τ++[some (.row p.z (p.cells m))],_,?_,fun _=>pre1 _ _,H1,kk _ _ H1⟩
  simp only[appG,hB,if_neg hm]
  rw[if_pos ⟨trivial,trivial,trivial,trivial,hb⟩]
theorem Iw {e:Option (GV×St)} {k k':Kx} (hk:∀ v h τ,k v h τ->k' v h τ):genX σ D τ e k->genX σ D τ e k':=fun⟨v,τ',h',h1,h2,h3,h4⟩=>⟨v,τ',h',h1,h2,h3,hk _ _ _ h4⟩
theorem Lx {z:Nat} {cs:List GV} {w:Nat->GV} {k k':Kx} (hk:∀ v h τ,k v h τ->k' v h τ) (e:Jy σ h z cs w k):Jy σ h z cs w k':=fun n hf τ' H=>hk _ _ _ (e n hf τ' H)
theorem Ab2 {k k':Kx} (hk:∀ v h τ,k v h τ->k' v h τ):∀ {i:Ins},sxI P D σ env h τ k i->sxI P D σ env h τ k' i:=by
 have bm:∀ {v:Option GV},Ea v k h τ->Ea v k' h τ:=fun {v} e=>by
  cases v with
  |none=>exact e
  |some v=>exact hk _ _ _ e
 intro i e
 cases i with
 |new cs=>exact Lx hk e
 |box x=>exact⟨e.1,Lx hk e.2⟩
 |lit z len zero parts=>
  simp only[sxI] at e ⊢
  revert e
  cases Gk zero (parts.map fun p=>(p.1,p.2.1,p.2.2.ev env)) with
  |none=>exact id
  |some cs=>exact Lx hk
 |mks z b ze n c=>
  simp only[sxI] at e ⊢
  revert e
  cases Aw (some (n.ev env)) with
  |none=>exact id
  |some n=>cases Aw (some (c.ev env)) with
   |none=>exact id
   |some c=>exact fun e=>⟨e.1,e.2.1,Lx hk e.2.2⟩
 |st n a x=>
  simp only[sxI] at e ⊢
  revert e
  cases a.ev env with
  |ptr b off=>
   simp only[stX]
   unfold stB
   cases look h b with
   |none=>exact Iw hk
   |some cs=>exact fun e=>⟨e.1,fun τ' H=>hk _ _ _ (e.2 τ' H)⟩
  |_=>exact Iw hk
 |call f xs=>
  obtain⟨v,τ',h',h1,h2,h3,h4⟩:=e
  exact⟨v,τ',h',h1,h2,h3,hk _ _ _ h4⟩
 |callv x xs=>
  simp only[sxI] at e ⊢
  revert e
  cases x.ev env with
  |fn f caps=>exact fun⟨v,τ',h',h1,h2,h3,h4⟩=>⟨v,τ',h',h1,h2,h3,hk _ _ _ h4⟩
  |_=>exact id
 |chk d x=>
  cases x with
  |ld g n a=>cases a with
   |t t=>exact⟨e.1,hk _ _ _ e.2⟩
   |k v=>exact e
  |_=>exact e
 |blc t cs=>exact⟨e.1,hk _ _ _ e.2⟩
 |app z b ze s x=>exact Iw hk e
 |clr z ze x=>exact Iw hk e
 |mkm=>exact Iw hk e
 |mup ks m k2 v=>exact Iw hk e
 |mov x=>exact hk _ _ _ e
 |pan=>exact e
 |_=>exact bm e
theorem Ur:∀ {os:List Op1} {K K':Env->List Item->St->Prop} {env:Env} {h:List Item} {τ:St},(∀ env h τ,K env h τ->K' env h τ)->sx P D σ os K env h τ->sx P D σ os K' env h τ
 |[],K,K',env,h,τ,hk,e=>hk _ _ _ e
 |o::r,K,K',env,h,τ,hk,e=>by
  simp only[sx] at e ⊢
  have y:sxI P D σ env h τ (fun v h' τ'=>sx P D σ r K (upo env o.d v) h' τ') o.i->sxI P D σ env h τ (fun v h' τ'=>sx P D σ r K' (upo env o.d v) h' τ') o.i:=Ab2 fun v h τ=>Ur hk
  have n:sx P D σ r K (upo env o.d (.tup [])) h τ->sx P D σ r K' (upo env o.d (.tup [])) h τ:=Ur hk
  revert e
  cases o.g.map fun g=>((env g.1).bit,g.2) with
  |none=>exact y
  |some q=>
   obtain⟨c,b⟩:=q
   cases c with
   |none=>exact n
   |some c=>exact fun e=>⟨fun hc=>y (e.1 hc),fun hc=>n (e.2 hc)⟩
theorem Zw {d:Cd}:∀ {Q Q':Qx} {env:Env} {h:List Item} {τ:St},(∀ e env h τ,Q e env h τ->Q' e env h τ)->sxc P σ d Q env h τ->sxc P σ d Q' env h τ:=by
 induction d with
 |skip=>intro Q Q' env h τ hq e;exact hq _ _ _ _ e
 |reg ops=>intro Q Q' env h τ hq e;exact Ur (hq _) e
 |drw a1 bs=>intro Q Q' env h τ hq e;exact Ur (fun _ _ _=>Ur (hq _)) e
 |seq a b iha ihb=>
  intro Q Q' env h τ hq e
  refine iha (fun e env h τ he=> ?_) e
  cases e with
  |nxt=>exact ihb hq he
  |ext j=>exact hq _ _ _ _ he
  |ret=>exact hq _ _ _ _ he
 |cnd c a b iha ihb=>
  intro Q Q' env h τ hq e
  simp only[sxc] at e ⊢
  unfold ifX at e ⊢
  split
  ·rename_i hc;rw[hc] at e;exact⟨fun k=>iha hq (e.1 k),fun k=>ihb hq (e.2 k)⟩
  ·rename_i hc;rw[hc] at e;exact e
 |blk id a ih=>
  intro Q Q' env h τ hq e
  refine ih (fun e env h τ he=> ?_) e
  cases e with
  |nxt=>exact hq _ _ _ _ he
  |ext j=>
   simp only at he ⊢
   split at he
   ·rename_i hj;rw[if_pos hj];exact hq _ _ _ _ he
   ·rename_i hj;rw[if_neg hj];exact hq _ _ _ _ he
  |ret=>exact hq _ _ _ _ he
 |lop a ih=>
  intro Q Q' env h τ hq e
  obtain⟨I,n,h0,H0,hI,hs⟩:=e
  refine⟨I,n,h0,H0,hI,fun k env h τ H hi=>ih (fun e env' h' τ' he=> ?_) (hs k env h τ H hi)⟩
  cases e with
  |nxt=>exact he
  |ext j=>obtain⟨h1,H1,he⟩:=he;exact⟨h1,H1,hq _ _ _ _ he⟩
  |ret=>obtain⟨h1,H1,he⟩:=he;exact⟨h1,H1,hq _ _ _ _ he⟩
 |ext id=>intro Q Q' env h τ hq e;exact hq _ _ _ _ e
 |ret=>intro Q Q' env h τ hq e;exact hq _ _ _ _ e
variable {a b:Cd} {Q:Qx}
theorem A9v (n j0:Nat) (I:Nat->Env->List Item->Prop) (X Z:Env->List Item->Prop) (h0:List Item) (H0:Hx σ τ h0) (hI:I n env h0)
  (hs:∀(J:Nat->Env->St->Prop) (Y W:Env->St->Prop),(∀ i env h τ,Hx σ τ h->I i env h->J i env τ)->(∀ env h τ,Hx σ τ h->X env h->Y env τ)->(∀ env h τ,Hx σ τ h->Z env h->W env τ)->∀ i env h τ,Hx σ τ h->I i env h->sxc P σ a (fun e env' h' τ'=>match e with
   | .nxt=>∃ i',i'<i/\J i' env' τ'
   | .ext j=>j=j0/\Y env' τ'
   | .ret=>W env' τ') env h τ)
  (hx:∀ env h τ,Hx σ τ h->X env h->Q (.ext j0) env h τ) (hz:∀ env h τ,Hx σ τ h->Z env h->Q .ret env h τ):sxc P σ (.lop a) Q env h τ:=by
 refine⟨fun i env h τ=>I i env h,n,h0,H0,hI,fun i env h τ H hi=>Zw (fun e env' h' τ' he=> ?_) (hs (fun i env τ=>∃ h,Hx σ τ h/\I i env h) (fun env τ=>∃ h,Hx σ τ h/\X env h) (fun env τ=>∃ h,Hx σ τ h/\Z env h) (fun _ _ h _ H e=>⟨h,H,e⟩) (fun _ h _ H e=>⟨h,H,e⟩) (fun _ h _ H e=>⟨h,H,e⟩) i env h τ H hi)⟩
 cases e with
 |nxt=>obtain⟨i',h1,h2,h3,h4⟩:=he;exact⟨i',h2,h1,h3,h4⟩
 |ext j=>obtain⟨rfl,h2,h3,h4⟩:=he;exact⟨h2,h3,hx _ _ _ h3 h4⟩
 |ret=>obtain⟨h2,h3,h4⟩:=he;exact⟨h2,h3,hz _ _ _ h3 h4⟩
theorem Cf (n ri j0:Nat) (I:Nat->Env->List Item->Prop) (X Z:Env->List Item->Prop) (h0:List Item) (H0:Hx σ τ h0) (hr:env ri=gi 0) (hI:I 0 env h0)
  (hs:∀(J:Nat->Env->St->Prop) (Y W:Env->St->Prop),(∀ i env h τ,Hx σ τ h->I i env h->J i env τ)->(∀ env h τ,Hx σ τ h->X env h->Y env τ)->(∀ env h τ,Hx σ τ h->Z env h->W env τ)->∀ i env h τ,i<n->env ri=gi i->decide ((i:Int)<n)=true->Hx σ τ h->I i env h->sxc P σ a (fun e env' h' τ'=>match e with
   | .nxt=>env' ri=gi ((i:Int)+1)/\J (i+1) env' τ'
   | .ext j=>j=j0/\Y env' τ'
   | .ret=>W env' τ') env h τ)
  (he:∀(Y:Env->St->Prop),(∀ env h τ,Hx σ τ h->X env h->Y env τ)->∀ env h τ,env ri=gi n->decide ((n:Int)<n)=false->Hx σ τ h->I n env h->sxc P σ a (fun e env' h' τ'=>match e with
   | .nxt=>False
   | .ext j=>j=j0/\Y env' τ'
   | .ret=>False) env h τ)
  (hx:∀ env h τ,Hx σ τ h->X env h->Q (.ext j0) env h τ) (hz:∀ env h τ,Hx σ τ h->Z env h->Q .ret env h τ):sxc P σ (.lop a) Q env h τ:=by
 refine A9v n j0 (fun k env h=>∃ i:Nat,k=n - i/\i<=n/\env ri=gi i/\I i env h) X Z h0 H0 ⟨0,rfl,Nat.zero_le _,hr,hI⟩ (fun J Y W hJ hY hW k env h τ H hi=> ?_) hx hz
 obtain⟨i,rfl,h1,h2,h3⟩:=hi
 rcases Nat.lt_or_ge i n with hlt|hge
 ·refine Zw (fun e env' h' τ' q=> ?_) (hs (fun i' env τ=>i'<=n->env ri=gi i'->J (n - i') env τ) Y W (fun j env h τ H e hj hr=>hJ _ env h τ H ⟨j,rfl,hj,hr,e⟩) hY hW i env h τ hlt h2 (by simp;omega) H h3)
  cases e with
  |nxt=>exact⟨n - (i+1),by omega,q.2 (by omega) q.1⟩
  |ext j=>exact q
  |ret=>exact q
 ·obtain rfl:i=n:=by omega
  refine Zw (fun e env' h' τ' q=> ?_) (he Y hY env h τ h2 (by simp) H h3)
  cases e with
  |nxt=>exact q.elim
  |ext j=>exact q
  |ret=>exact q.elim
theorem Eu {md:Bool} {F:Fn1} {r:GV} (hF:Fs md P f=some F) (hl:args.length<=F.n) (hr:vLt σ.length r)
  (hc:sxc P σ F.c (fun e env h τ=>Hx σ τ h->Tb e=true/\resX σ h τ env F.rs=some r) (env0 args) [] σ):Ret P f args σ r σ:=
 Am hF hl hr (Aq (A2c (Hx.refl σ) hc) fun e env τ he=>by
  obtain⟨_,h,H,hq⟩:=he
  exact⟨(hq H).1,Y8 H (hq H).2,H.sub⟩)
end rules
abbrev Us:Nat:=225
def Ut:Fn1:=⟨103,[.t 2],(rg [oX 1 0,oV 2 kf] (.seq (rg [oF 9 0 1,oL 10 9,oF 11 1 1,oL 12 11,oD 13 177 10 12,oU 14 13,oM 15 14,vF 16 15 2 1,vL 17 15 16,vC 18 15 285 17,vU 19 15 18,oP 20 15 19,oM 21 20,vF 22 21 3 1,vL 23 21 22,vF 24 21 1 1,vL 25 21 24,vD 26 21 286 23 25,vU 27 21 26,oP 28 21 27,oM 29 28,vF 30 29 5 1,vL 31 29 30,vF 32 29 1 1,vL 33 29 32,vD 34 29 287 31 33,vU 35 29 34,oP 36 29 35,oM 37 36,vF 38 37 4 1,vL 39 37 38,og 40 37 false (.len false (.t 39)),vE 41 37 .gtr 40 120,oP 42 37 41] (cn 42 (rg [oV 2 kf] .ret) .skip)) (.seq (rg [oF 43 3 1,oL 44 43,oN 45 44,oV 46 (ki 0)] (.blk 0 (.lop (rg [oB 47 .lss 46 45] (.seq (cn 47 .skip (.ext 0)) (.seq (.blk 1 (rg [oI 48 6 44 46,oW 49 6 48,o 4 (.new [(.bool false),s0,s0,z0,z0,z0]),oS 6 4 49] (rg [oF 50 0 1,oL 51 50,oF 52 4 4,oW 53 2 52,oD 54 170 51 53] (cn 54 (rg [oV 2 kf] .ret) .skip)))) (.reg [oZ 55 46 1,oM 46 55]))))))) (.seq (rg [oF 56 4 1,oL 57 56,oN 58 57,oV 59 (ki 0)] (.blk 2 (.lop (rg [oB 60 .lss 59 58] (.seq (cn 60 .skip (.ext 2)) (.seq (.blk 3 (rg [oM 61 59,oI 62 2 57 59,oW 63 2 62,o 6 (.new [z0,z0]),oM 5 61,oS 2 6 63] (dw [oF 64 0 1,oL 65 64,oW 66 2 6,oD 67 170 65 66,oU 68 67,oM 69 68,vM 70 69 5,vE 71 69 .gtr 70 0,vM 72 69 71,jF 73 72 4 1,jL 74 72 73,jM 75 72 5,jE 76 72 .sub 75 1,jI 77 72 2 74 76,jW 78 72 2 77,jW 79 72 2 6] [jD 80 72 306 78 79,jE 81 72 .geq 80 0,og 82 69 false (.pick (.t 72) (.t 81) kf),oP 83 69 82] (cn 83 (rg [oV 2 kf] .ret) .skip)))) (.reg [oZ 84 59 1,oM 59 84]))))))) (.seq (rg [oF 85 5 1,oL 86 85,oN 87 86,oV 88 (ki 0)] (.blk 4 (.lop (rg [oB 89 .lss 88 87] (.seq (cn 89 .skip (.ext 4)) (.seq (.blk 5 (rg [oI 90 8 86 88,oW 91 8 90,o 8 (.new [s0,z0,z0,z0,z0,z0,z0,(.bool false)]),oS 8 8 91] (rg [oF 92 4 8,oW 93 2 92,o 94 (.build [z0,z0] []),o 95 (.eqs true [.i .i64,.i .i64] (.t 93) (.t 94)),oM 96 95,jF 97 96 4 8,jW 98 96 2 97,jC 99 96 272 98,jU 100 96 99,oQ 101 96 100] (cn 101 (rg [oV 2 kf] .ret) .skip)))) (.reg [oZ 102 88 1,oM 88 102]))))))) (rg [oV 2 kt] .ret))))))⟩
theorem A2f:A6 Tryz.prog Us=some Ut:=by kernel_rfl
abbrev Uu:Nat:=304
def Uv:Fn1:=⟨36,[.t 2],(rg [oV 2 kf] (.seq (rg [oV 3 (ki 0)] (.blk 0 (.lop (.seq (rg [oM 4 3,oM 5 0,oN 6 5,oB 7 .lss 4 6] (cn 7 .skip (.ext 0))) (.seq (.blk 1 (dw [oM 10 0,oM 11 3,oI 12 2 10 11,oW 13 2 12,oC 14 168 13,oU 15 14,oM 16 15,vM 17 16 3,vE 18 16 .gtr 17 0,vM 19 16 18,jM 20 19 0,jM 21 19 3,jE 22 19 .sub 21 1,jI 23 19 2 20 22,jW 24 19 2 23,jM 25 19 0,jM 26 19 3,jI 27 19 2 25 26,jW 28 19 2 27] [jD 29 19 362 24 28,jU 30 19 29,og 31 16 false (.pick (.t 19) (.t 30) kf),oP 32 16 31] (cn 32 (rg [oV 2 kf] .ret) .skip))) (.reg [oM 8 3,oZ 9 8 1,oM 3 9])))))) (rg [oM 33 0,oN 34 33,oE 35 .leq 34 120,oM 2 35] .ret)))⟩
theorem A2g:A6 Tryz.prog Uu=some Uv:=by kernel_rfl
abbrev Uw:Nat:=219
def Ux:Fn1:=⟨97,[.t 2],(rg [oX 1 0,oV 2 kf] (.seq (rg [oF 6 0 1,oL 7 6,oF 8 1 1,oL 9 8,oD 10 178 7 9,oU 11 10,oM 12 11,vF 13 12 2 1,vL 14 12 13,vC 15 12 290 14,vU 16 12 15,oP 17 12 16,oM 18 17,vF 19 18 3 1,vL 20 18 19,vC 21 18 291 20,vU 22 18 21,oP 23 18 22,oM 24 23,vF 25 24 5 1,vL 26 24 25,vC 27 24 292 26,vU 28 24 27,oP 29 24 28,oM 30 29,vF 31 30 4 1,vL 32 30 31,vC 33 30 304 32,vU 34 30 33,oP 35 30 34] (cn 35 (rg [oV 2 kf] .ret) .skip)) (.seq (rg [oV 3 (ki 0)] (.blk 0 (.lop (.seq (rg [oM 36 3,oF 37 3 1,oL 38 37,oN 39 38,oB 40 .lss 36 39] (cn 40 .skip (.ext 0))) (.seq (.blk 1 (dw [oF 43 1 1,oL 44 43,oF 45 3 1,oL 46 45,oM 47 3,oI 48 6 46 47,oF 49 4 48,oW 50 2 49,oD 51 45 44 50,oU 52 51,oM 53 52,vF 54 53 0 1,vL 55 53 54,vF 56 53 3 1,vL 57 53 56,vM 58 53 3,vI 59 53 6 57 58,vF 60 53 4 59,vW 61 53 2 60] [vD 62 53 45 55 61,oP 63 53 62] (cn 63 (rg [oV 2 kf] .ret) .skip))) (.reg [oM 41 3,oZ 42 41 1,oM 3 42])))))) (.seq (rg [oV 4 (ki 0)] (.blk 2 (.lop (.seq (rg [oM 64 4,oF 65 4 1,oL 66 65,oN 67 66,oB 68 .lss 64 67] (cn 68 .skip (.ext 2))) (.seq (.blk 3 (dw [oF 71 0 1,oL 72 71,oF 73 4 1,oL 74 73,oM 75 4,oI 76 2 74 75,oW 77 2 76] [oD 78 45 72 77,oU 79 78] (cn 79 (rg [oV 2 kf] .ret) .skip))) (.reg [oM 69 4,oZ 70 69 1,oM 4 70])))))) (.seq (rg [oV 5 (ki 0)] (.blk 4 (.lop (.seq (rg [oM 80 5,oF 81 5 1,oL 82 81,oN 83 82,oB 84 .lss 80 83] (cn 84 .skip (.ext 4))) (.seq (.blk 5 (dw [oF 87 1 1,oL 88 87,oF 89 5 1,oL 90 89,oM 91 5,oI 92 8 90 91,oF 93 1 92,oW 94 2 93] [oD 95 45 88 94,oU 96 95] (cn 96 (rg [oV 2 kf] .ret) .skip))) (.reg [oM 85 5,oZ 86 85 1,oM 5 86])))))) (rg [oV 2 kt] .ret))))))⟩
theorem A2h:A6 Tryz.prog Uw=some Ux:=by kernel_rfl
def newL (k:List Int) (l:List Live) (i:Nat):Bool:=onI l i fun x=> !Ap k x.dot
def A5f (k:List Int) (l:List Dot) (i:Nat):Bool:=onI l i (Ap k)&&upI Bh l i
def dotP (l:List Dot) (i:Nat):Bool:=onI l i F4&&upI Bh l i
def Uy (l:List Dot):Bool:=allR l.length (dotP l)&&decide (l.length<=120)
def refP (l:List Cell) (i:Nat):Bool:=onI l i refD
def Bs (d:Delta):Bool:=Fn d.base d.know&&(Ga d.tallies&&(Ik d.lives d.know&&(Hb d.cells d.know&&(decide (d.dead.length<=120)&&(allR d.lives.length (newL d.base d.lives)&&(allR d.dead.length (A5f d.base d.dead)&&allR d.cells.length (refP d.cells)))))))
def midL (k b:List Int) (l:List Live) (i:Nat):Bool:=onI l i fun x=>Ap k x.dot&& !Ap b x.dot
def Cn (d:Delta):Bool:=Fn d.base d.know&&(Ga d.tallies&&(A1l d.lives&&(A1m d.cells&&(Uy d.dead&&(allR d.lives.length (midL d.know d.base d.lives)&&(allR d.dead.length (fun i=>onI d.dead i (Ap d.base))&&allR d.cells.length (fun i=>onI d.cells i fun x=>Ap d.know x.dot)))))))
theorem Adh {α:Type} (l:List α) (i:Nat) (p q:α->Bool):(onI l i fun x=>p x&&q x)=(onI l i p&&onI l i q):=by
 unfold onI
 cases l[i]? <;>rfl
theorem A5g {α:Type} {l:List α} {i:Nat} {p q:α->Bool} (h:∀ x,p x=true->q x=true) (hp:onI l i p=true):onI l i q=true:=by
 unfold onI at*
 cases hl:l[i]? with
 |none=>rfl
 |some x=>rw[hl] at hp;exact h x hp
theorem A5h (d:Delta):Cn d=Bs d:=by
 rw[Bool.eq_iff_iff]
 simp only[Cn,Bs,A1l,Ik,A1m,Hb,Uy,Zaa,C4,A4a,livP,A4b,celP,dotP,A5f,midL,newL,refP,Adh,decide_eq_true_eq]
 constructor
 ·rintro⟨h1,h2,⟨h3,h3'⟩,⟨h4,h4'⟩,⟨h5,h5'⟩,h6,h7,h8⟩
  exact⟨h1,h2,⟨fun i hi=>⟨(h6 i hi).1,(h3 i hi).2⟩,h3'⟩,⟨fun i hi=>⟨h8 i hi,(h4 i hi).2.1,(h4 i hi).2.2.2⟩,h4'⟩,h5',fun i hi=>(h6 i hi).2,fun i hi=>⟨h7 i hi,(h5 i hi).2⟩,fun i hi=>(h4 i hi).2.2.1⟩
 ·rintro⟨h1,h2,⟨h3,h3'⟩,⟨h4,h4'⟩,h5,h6,h7,h8⟩
  exact⟨h1,h2,⟨fun i hi=>⟨A5g (fun x=>Hc) (h3 i hi).1,(h3 i hi).2⟩,h3'⟩,⟨fun i hi=>⟨A5g (fun x=>Hc) (h4 i hi).1,(h4 i hi).2.1,h8 i hi,(h4 i hi).2.2⟩,h4'⟩,⟨fun i hi=>⟨A5g (fun x=>Hc) (h7 i hi).1,(h7 i hi).2⟩,h5⟩,fun i hi=>⟨(h3 i hi).1,h6 i hi⟩,fun i hi=>(h7 i hi).1,fun i hi=>(h4 i hi).1⟩
theorem Jl {d:Delta} {n:Nat} (h:C9 d<=n):d.base.length<=n/\d.know.length<=n/\d.tallies.length<=n/\d.lives.length<=n/\d.dead.length<=n/\d.cells.length<=n/\(∀ x∈d.tallies,x.obj.size<=n)/\(∀ x∈d.lives,x.obj.size<=n/\x.key.size<=n)/\∀ x∈d.cells,x.obj.size<=n:=by
 unfold C9 at h
 refine⟨by omega,by omega,by omega,by omega,by omega,by omega,fun x hx=> ?_,fun x hx=> ?_,fun x hx=> ?_⟩
 ·have:x.obj.size<=sumL J5 d.tallies:=Hm (f:=J5) hx
  omega
 ·have:x.obj.size+x.key.size<=sumL Kl d.lives:=Hm (f:=Kl) hx
  omega
 ·have:x.obj.size<=sumL No d.cells:=Hm (f:=No) hx
  omega
theorem Zx (σ:St) (cs:List GV) (d:Delta) (hR:Bx.R σ d cs) (hl:C9 d<=1099511627776):Ret Tryz.prog Us [.agg cs] σ (.bool (Bs d)) σ:=by
 obtain⟨v0,v1,v2,v3,v4,v5,rfl,q0,q1,q2,q3,q4,q5⟩:=hR
 obtain⟨l0,l1,l2,l3,l4,l5,t2,t3,t5⟩:=Jl hl
 refine Eu A2f (Z0z rfl) trivial ?_
 simp +contextual (disch:=omega) only[go_sem,Ut]
 intro n f τ H
 have S:=H.sub
 refine by_b H (A1r _ v0 v1 _ _ (q0.pre S) (q1.pre S) l0 l1) (fun h1=> ?_) (fun h1=> ?_)
 rotate_left
 ·simp +contextual (disch:=omega) only[go_sem]
  simp[Bs,h1]
 simp +contextual (disch:=omega) only[go_sem]
 refine by_b H (Kw _ v2 _ (q2.pre S) l2 t2) (fun h2=> ?_) (fun h2=> ?_)
 rotate_left
 ·simp +contextual (disch:=omega) only[go_sem]
  simp[Bs,h2]
 simp +contextual (disch:=omega) only[go_sem]
 refine by_b H (Nw _ v3 _ (q3.pre S) v1 _ (q1.pre S) l1 l3 t3) (fun h3=> ?_) (fun h3=> ?_)
 rotate_left
 ·simp +contextual (disch:=omega) only[go_sem]
  simp[Bs,h3]
 simp +contextual (disch:=omega) only[go_sem]
 refine by_b H (Nx _ v5 _ (q5.pre S) v1 _ (q1.pre S) l1 l5 t5) (fun h4=> ?_) (fun h4=> ?_)
 rotate_left
 ·simp +contextual (disch:=omega) only[go_sem]
  simp[Bs,h4]
 cases h5:decide (120<d.dead.length) with
 |true=>
  simp +contextual (disch:=omega) only[go_sem,q4.len,Pt,h5]
  have h5':=of_decide_eq_true h5
  have:decide (d.dead.length<=120)=false:=decide_eq_false (by omega)
  simp[Bs,this]
 |false=>
 have h5':d.dead.length<=120:=by have:=of_decide_eq_false h5;omega
 simp +contextual (disch:=omega) only[go_sem,q3.len,q4.len,Pt,h5]
 refine Cf d.lives.length 46 0 (fun i env h=>env 1= .ptr n 0/\env 44=v3/\env 45=gi d.lives.length/\(∀ j,j<i->newL d.base d.lives j=true)/\h=[.box 1 n [v0,v1,v2,v3,v4,v5]]) (fun env h=>env 1= .ptr n 0/\allR d.lives.length (newL d.base d.lives)=true/\h=[.box 1 n [v0,v1,v2,v3,v4,v5]]) (fun env h=>env 2= .bool (Bs d)) _ H (by simp +contextual (disch:=omega) only[go_sem]) ⟨by simp +contextual (disch:=omega) only[go_sem],by simp +contextual (disch:=omega) only[go_sem],by simp +contextual (disch:=omega) only[go_sem],fun j hj=>by omega,rfl⟩ ?_ ?_ ?_ ?_
 ·rintro J Y W hJ hY hW i env h τ hi ei c0 H ⟨e1,e44,e45,ha,rfl⟩
  have L1:=A5 q3 hi
  have hat:newL d.base d.lives i= !Ap d.base d.lives[i].dot:=Bl hi
  have no:newL d.base d.lives i=false->Bs d=false:=fun hh=>by simp[Bs,Fw hi hh]
  simp +contextual (disch:=omega) only[go_sem,c0,e1,e44,e45,ei,A3,L1]
  intro m fm τ1 _ τ2 H2
  refine by_b H2 (Fv _ v0 _ _ (q0.pre H2.sub) l0) (fun k1=> ?_) (fun k1=> ?_)
  ·simp +contextual (disch:=omega) only[go_sem]
   exact hW _ _ _ H2 (by simp +contextual (disch:=omega) only[go_sem,no (by rw[hat,k1];rfl)])
  ·simp +contextual (disch:=omega) only[go_sem,e1,e44,e45,ei]
   exact hJ _ _ _ _ (H2.re [1] (by decide)) ⟨by simp +contextual (disch:=omega) only[go_sem,e1],by simp +contextual (disch:=omega) only[go_sem,e44],by simp +contextual (disch:=omega) only[go_sem,e45],Bo ha (by rw[hat,k1];rfl),rfl⟩
 ·rintro Y hY env h τ ei c0 H ⟨e1,e44,e45,ha,rfl⟩
  simp +contextual (disch:=omega) only[go_sem,c0,e45,ei]
  exact hY _ _ _ H ⟨by simp +contextual (disch:=omega) only[go_sem,e1],Dt ha,rfl⟩
 rotate_left
 ·rintro env h τ H e2
  simp +contextual (disch:=omega) only[go_sem,e2]
 clear H S
 rintro env h τ H ⟨e1,h6,rfl⟩
 simp +contextual (disch:=omega) only[go_sem,e1,q4.len]
 refine Cf d.dead.length 59 2 (fun i env h=>env 1= .ptr n 0/\env 57=v4/\env 58=gi d.dead.length/\(∀ j,j<i->A5f d.base d.dead j=true)/\h=[.box 1 n [v0,v1,v2,v3,v4,v5]]) (fun env h=>env 1= .ptr n 0/\allR d.dead.length (A5f d.base d.dead)=true/\h=[.box 1 n [v0,v1,v2,v3,v4,v5]]) (fun env h=>env 2= .bool (Bs d)) _ H (by simp +contextual (disch:=omega) only[go_sem]) ⟨by simp +contextual (disch:=omega) only[go_sem,e1],by simp +contextual (disch:=omega) only[go_sem],by simp +contextual (disch:=omega) only[go_sem],fun j hj=>by omega,rfl⟩ ?_ ?_ ?_ ?_
 ·clear H e1
  rintro J Y W hJ hY hW i env h τ hi ei c0 H ⟨e1,e57,e58,ha,rfl⟩
  have L1:=Kj q4 hi
  have hat:A5f d.base d.dead i=(Ap d.base d.dead[i]&&upI Bh d.dead i):=by simp only[A5f,Bl hi]
  have no:A5f d.base d.dead i=false->Bs d=false:=fun hh=>by simp[Bs,Fw hi hh]
  simp +contextual (disch:=omega) only[go_sem,c0,e1,e57,e58,ei,A3,L1]
  intro m fm τ1 _ τ2 H2
  refine by_b H2 (Fv _ v0 _ _ (q0.pre H2.sub) l0) (fun k1=> ?_) (fun k1=> ?_)
  rotate_left
  ·simp +contextual (disch:=omega) only[go_sem]
   exact hW _ _ _ H2 (by simp +contextual (disch:=omega) only[go_sem,no (by rw[hat,k1];rfl)])
  rcases Zby i with hz|hz
  ·subst hz
   simp +contextual (disch:=omega) only[go_sem,Zb4,decide_false,Int.lt_irrefl,e1,e57,e58,ei]
   exact hJ _ _ _ _ (H2.re [1] (by decide)) ⟨by simp +contextual (disch:=omega) only[go_sem,e1],by simp +contextual (disch:=omega) only[go_sem,e57],by simp +contextual (disch:=omega) only[go_sem,e58],Bo ha (by rw[hat,k1];rfl),rfl⟩
  ·have c1:decide ((0:Int)<i)=true:=by simp;omega
   have hj:i - 1<d.dead.length:=by omega
   have hu:=Ij (lt:=Bh) (by omega) hi hj
   simp +contextual (disch:=omega) only[go_sem,c1,sub1 hz,Kj q4 hj,e1,e57,e58,ei]
   refine by_r H2 (Cv _ d.dead[i-1] d.dead[i]) ?_
   cases ho:Bh d.dead[i-1] d.dead[i] with
   |true=>
    simp +contextual (disch:=omega) only[go_sem,Ko,ho,e1,e57,e58,ei]
    exact hJ _ _ _ _ (H2.re [1] (by decide)) ⟨by simp +contextual (disch:=omega) only[go_sem,e1],by simp +contextual (disch:=omega) only[go_sem,e57],by simp +contextual (disch:=omega) only[go_sem,e58],Bo ha (by rw[hat,k1,hu,ho];rfl),rfl⟩
   |false=>
    simp +contextual (disch:=omega) only[go_sem,Ko,ho]
    exact hW _ _ _ H2 (by simp +contextual (disch:=omega) only[go_sem,no (by rw[hat,k1,hu,ho];rfl)])
 ·clear H e1
  rintro Y hY env h τ ei c0 H ⟨e1,e57,e58,ha,rfl⟩
  simp +contextual (disch:=omega) only[go_sem,c0,e58,ei]
  exact hY _ _ _ H ⟨by simp +contextual (disch:=omega) only[go_sem,e1],Dt ha,rfl⟩
 rotate_left
 ·rintro env h τ H e2
  simp +contextual (disch:=omega) only[go_sem,e2]
 clear H e1
 rintro env h τ H ⟨e1,h7,rfl⟩
 simp +contextual (disch:=omega) only[go_sem,e1,q5.len]
 refine Cf d.cells.length 88 4 (fun i env h=>env 86=v5/\env 87=gi d.cells.length/\(∀ j,j<i->refP d.cells j=true)/\h=[]) (fun env h=>allR d.cells.length (refP d.cells)=true/\h=[]) (fun env h=>env 2= .bool (Bs d)) _ (H.re [] (by decide)) (by simp +contextual (disch:=omega) only[go_sem]) ⟨by simp +contextual (disch:=omega) only[go_sem],by simp +contextual (disch:=omega) only[go_sem],fun j hj=>by omega,rfl⟩ ?_ ?_ ?_ ?_
 ·clear H e1
  rintro J Y W hJ hY hW i env h τ hi ei c0 H ⟨e86,e87,ha,rfl⟩
  have L1:=A4 q5 hi
  have hat:refP d.cells i=(decide (d.cells[i].ref=⟨0,0⟩)||F4 d.cells[i].ref):=Bl hi
  have no:refP d.cells i=false->Bs d=false:=fun hh=>by simp[Bs,Fw hi hh]
  cases k0:decide (d.cells[i].ref=⟨0,0⟩) with
  |true=>
   simp +contextual (disch:=omega) only[go_sem,c0,e86,e87,ei,A3,L1,k0]
   intro m fm τ1 _ τ2 H2
   exact hJ _ _ _ _ (H2.re [] (by decide)) ⟨by simp +contextual (disch:=omega) only[go_sem,e86],by simp +contextual (disch:=omega) only[go_sem,e87],Bo ha (by rw[hat,k0];rfl),rfl⟩
  |false=>
   simp +contextual (disch:=omega) only[go_sem,c0,e86,e87,ei,A3,L1,k0]
   intro m fm τ1 _ τ2 H2
   refine by_b H2 (Mm _ d.cells[i].ref) (fun k1=> ?_) (fun k1=> ?_)
   ·simp +contextual (disch:=omega) only[go_sem,e86,e87,ei]
    exact hJ _ _ _ _ (H2.re [] (by decide)) ⟨by simp +contextual (disch:=omega) only[go_sem,e86],by simp +contextual (disch:=omega) only[go_sem,e87],Bo ha (by rw[hat,k0,k1];rfl),rfl⟩
   ·simp +contextual (disch:=omega) only[go_sem]
    exact hW _ _ _ H2 (by simp +contextual (disch:=omega) only[go_sem,no (by rw[hat,k0,k1];rfl)])
 ·clear H e1
  rintro Y hY env h τ ei c0 H ⟨e86,e87,ha,rfl⟩
  simp +contextual (disch:=omega) only[go_sem,c0,e87,ei]
  exact hY _ _ _ H ⟨Dt ha,rfl⟩
 ·clear H e1
  rintro env h τ H ⟨h8,rfl⟩
  simp +contextual (disch:=omega) only[go_sem]
  exact fun _=>by simp[Bs,h1,h2,h3,h4,h5',h6,h7,h8]
 ·rintro env h τ H e2
  simp +contextual (disch:=omega) only[go_sem,e2]
theorem Zy (σ:St) (v:GV) (l:List Dot) (h:RS pDot.kd σ v l) (hl:l.length<=1099511627776):Ret Tryz.prog Uu [v] σ (.bool (Uy l)) σ:=by
 refine Eu A2g (Z0z rfl) trivial ?_
 simp +contextual (disch:=omega) only[go_sem,Uv]
 refine Cf l.length 3 0 (fun i env h=>env 0=v/\(∀ j,j<i->dotP l j=true)/\h=[]) (fun env h=>env 0=v/\allR l.length (dotP l)=true/\h=[]) (fun env h=>env 2= .bool (Uy l)) _ (Hx.refl σ) (by simp +contextual (disch:=omega) only[go_sem]) ⟨by simp +contextual (disch:=omega) only[go_sem],fun j hj=>by omega,rfl⟩ ?_ ?_ ?_ ?_
 ·rintro J Y W hJ hY hW i env h τ hi ei c0 H ⟨e0,ha,rfl⟩
  have L1:=Kj h hi
  have hat:dotP l i=(F4 l[i]&&upI Bh l i):=by simp only[dotP,Bl hi]
  have no:dotP l i=false->Uy l=false:=fun hh=>by simp[Uy,Fw hi hh]
  simp +contextual (disch:=omega) only[go_sem,c0,e0,ei,A3,L1,h.len]
  refine by_b H (Ee _ l[i]) (fun k1=> ?_) (fun k1=> ?_)
  rotate_left
  ·simp +contextual (disch:=omega) only[go_sem]
   exact hW _ _ _ H (by simp +contextual (disch:=omega) only[go_sem,no (by rw[hat,k1];rfl)])
  rcases Zby i with hz|hz
  ·subst hz
   simp +contextual (disch:=omega) only[go_sem,Zb4,decide_false,Int.lt_irrefl,e0,ei]
   exact hJ _ _ _ _ H ⟨by simp +contextual (disch:=omega) only[go_sem,e0],Bo ha (by rw[hat,k1];rfl),rfl⟩
  ·have c1:decide ((0:Int)<i)=true:=by simp;omega
   have hj:i - 1<l.length:=by omega
   have hu:=Ij (lt:=Bh) (by omega) hi hj
   simp +contextual (disch:=omega) only[go_sem,c1,sub1 hz,Kj h hj,L1,A3,e0,ei]
   refine by_r H (Ca _ l[i-1] l[i]) ?_
   cases ho:Bh l[i-1] l[i] with
   |true=>
    simp +contextual (disch:=omega) only[go_sem,e0,ei]
    exact hJ _ _ _ _ H ⟨by simp +contextual (disch:=omega) only[go_sem,e0],Bo ha (by rw[hat,k1,hu,ho];rfl),rfl⟩
   |false=>
    simp +contextual (disch:=omega) only[go_sem]
    exact hW _ _ _ H (by simp +contextual (disch:=omega) only[go_sem,no (by rw[hat,k1,hu,ho];rfl)])
 ·rintro Y hY env h τ ei c0 H ⟨e0,ha,rfl⟩
  simp +contextual (disch:=omega) only[go_sem,c0,e0,ei,h.len]
  exact hY _ _ _ H ⟨by simp +contextual (disch:=omega) only[go_sem,e0],Dt ha,rfl⟩
 ·rintro env h τ H ⟨e0,ha,rfl⟩
  simp +contextual (disch:=omega) only[go_sem,e0,h.len]
  have:decide ((l.length:Int)<=120)=decide (l.length<=120):=by rw[decide_eq_decide];omega
  exact fun _=>by simp[Uy,ha,this]
 ·rintro env h τ H e2
  simp +contextual (disch:=omega) only[go_sem,e2]
theorem Zz (σ:St) (cs:List GV) (d:Delta) (hR:Bx.R σ d cs) (hl:C9 d<=1099511627776):Ret Tryz.prog Uw [.agg cs] σ (.bool (Bs d)) σ:=by
 rw[<- A5h]
 obtain⟨v0,v1,v2,v3,v4,v5,rfl,q0,q1,q2,q3,q4,q5⟩:=hR
 obtain⟨l0,l1,l2,l3,l4,l5,t2,t3,t5⟩:=Jl hl
 refine Eu A2h (Z0z rfl) trivial ?_
 simp +contextual (disch:=omega) only[go_sem,Ux]
 intro n f τ H
 have S:=H.sub
 refine by_b H (Qt _ v0 v1 _ _ (q0.pre S) (q1.pre S) l0 l1) (fun h1=> ?_) (fun h1=> ?_)
 rotate_left
 ·simp +contextual (disch:=omega) only[go_sem]
  simp[Cn,h1]
 simp +contextual (disch:=omega) only[go_sem]
 refine by_b H (Ju _ v2 _ (q2.pre S) l2 t2) (fun h2=> ?_) (fun h2=> ?_)
 rotate_left
 ·simp +contextual (disch:=omega) only[go_sem]
  simp[Cn,h2]
 simp +contextual (disch:=omega) only[go_sem]
 refine by_b H (M7 _ v3 _ (q3.pre S) l3 t3) (fun h3=> ?_) (fun h3=> ?_)
 rotate_left
 ·simp +contextual (disch:=omega) only[go_sem]
  simp[Cn,h3]
 simp +contextual (disch:=omega) only[go_sem]
 refine by_b H (M8 _ v5 _ (q5.pre S) l5 t5) (fun h4=> ?_) (fun h4=> ?_)
 rotate_left
 ·simp +contextual (disch:=omega) only[go_sem]
  simp[Cn,h4]
 simp +contextual (disch:=omega) only[go_sem]
 refine by_b H (Zy _ v4 _ (q4.pre S) l4) (fun h5=> ?_) (fun h5=> ?_)
 rotate_left
 ·simp +contextual (disch:=omega) only[go_sem]
  simp[Cn,h5]
 simp +contextual (disch:=omega) only[go_sem]
 refine Cf d.lives.length 3 0 (fun i env h=>env 1= .ptr n 0/\(∀ j,j<i->midL d.know d.base d.lives j=true)/\h=[.box 1 n [v0,v1,v2,v3,v4,v5]]) (fun env h=>env 1= .ptr n 0/\allR d.lives.length (midL d.know d.base d.lives)=true/\h=[.box 1 n [v0,v1,v2,v3,v4,v5]]) (fun env h=>env 2= .bool (Cn d)) _ H (by simp +contextual (disch:=omega) only[go_sem]) ⟨by simp +contextual (disch:=omega) only[go_sem],fun j hj=>by omega,rfl⟩ ?_ ?_ ?_ ?_
 ·rintro J Y W hJ hY hW i env h τ hi ei c0 H ⟨e1,ha,rfl⟩
  have L1:=A5 q3 hi
  have hat:midL d.know d.base d.lives i=(Ap d.know d.lives[i].dot&& !Ap d.base d.lives[i].dot):=Bl hi
  have no:midL d.know d.base d.lives i=false->Cn d=false:=fun hh=>by simp[Cn,Fw hi hh]
  simp +contextual (disch:=omega) only[go_sem,c0,e1,ei,A3,L1,q3.len]
  refine by_b H (Co _ v1 _ _ (q1.pre H.sub) l1) (fun k1=> ?_) (fun k1=> ?_)
  rotate_left
  ·simp +contextual (disch:=omega) only[go_sem]
   exact hW _ _ _ H (by simp +contextual (disch:=omega) only[go_sem,no (by rw[hat,k1];rfl)])
  simp +contextual (disch:=omega) only[go_sem,e1,ei,A3,L1]
  refine by_b H (Co _ v0 _ _ (q0.pre H.sub) l0) (fun k2=> ?_) (fun k2=> ?_)
  ·simp +contextual (disch:=omega) only[go_sem]
   exact hW _ _ _ H (by simp +contextual (disch:=omega) only[go_sem,no (by rw[hat,k1,k2];rfl)])
  ·simp +contextual (disch:=omega) only[go_sem,e1,ei]
   exact hJ _ _ _ _ H ⟨by simp +contextual (disch:=omega) only[go_sem,e1],Bo ha (by rw[hat,k1,k2];rfl),rfl⟩
 ·rintro Y hY env h τ ei c0 H ⟨e1,ha,rfl⟩
  simp +contextual (disch:=omega) only[go_sem,c0,e1,ei,q3.len]
  exact hY _ _ _ H ⟨by simp +contextual (disch:=omega) only[go_sem,e1],Dt ha,rfl⟩
 rotate_left
 ·rintro env h τ H e2
  simp +contextual (disch:=omega) only[go_sem,e2]
 clear H S
 rintro env h τ H ⟨e1,h6,rfl⟩
 simp +contextual (disch:=omega) only[go_sem,e1]
 refine Cf d.dead.length 4 2 (fun i env h=>env 1= .ptr n 0/\(∀ j,j<i->onI d.dead j (Ap d.base)=true)/\h=[.box 1 n [v0,v1,v2,v3,v4,v5]]) (fun env h=>env 1= .ptr n 0/\allR d.dead.length (fun j=>onI d.dead j (Ap d.base))=true/\h=[.box 1 n [v0,v1,v2,v3,v4,v5]]) (fun env h=>env 2= .bool (Cn d)) _ H (by simp +contextual (disch:=omega) only[go_sem]) ⟨by simp +contextual (disch:=omega) only[go_sem,e1],fun j hj=>by omega,rfl⟩ ?_ ?_ ?_ ?_
 ·clear H e1
  rintro J Y W hJ hY hW i env h τ hi ei c0 H ⟨e1,ha,rfl⟩
  have L1:=Kj q4 hi
  have hat:onI d.dead i (Ap d.base)=Ap d.base d.dead[i]:=Bl hi
  have no:onI d.dead i (Ap d.base)=false->Cn d=false:=fun hh=>by simp[Cn,Fw (p:=fun j=>onI d.dead j (Ap d.base)) hi hh]
  simp +contextual (disch:=omega) only[go_sem,c0,e1,ei,A3,L1,q4.len]
  refine by_b H (Co _ v0 _ _ (q0.pre H.sub) l0) (fun k1=> ?_) (fun k1=> ?_)
  ·simp +contextual (disch:=omega) only[go_sem,e1,ei]
   exact hJ _ _ _ _ H ⟨by simp +contextual (disch:=omega) only[go_sem,e1],Bo ha (by rw[hat,k1]),rfl⟩
  ·simp +contextual (disch:=omega) only[go_sem]
   exact hW _ _ _ H (by simp +contextual (disch:=omega) only[go_sem,no (by rw[hat,k1])])
 ·clear H e1
  rintro Y hY env h τ ei c0 H ⟨e1,ha,rfl⟩
  simp +contextual (disch:=omega) only[go_sem,c0,e1,ei,q4.len]
  exact hY _ _ _ H ⟨by simp +contextual (disch:=omega) only[go_sem,e1],Dt ha,rfl⟩
 rotate_left
 ·rintro env h τ H e2
  simp +contextual (disch:=omega) only[go_sem,e2]
 clear H e1
 rintro env h τ H ⟨e1,h7,rfl⟩
 simp +contextual (disch:=omega) only[go_sem,e1]
 refine Cf d.cells.length 5 4 (fun i env h=>env 1= .ptr n 0/\(∀ j,j<i->(onI d.cells j fun x=>Ap d.know x.dot)=true)/\h=[.box 1 n [v0,v1,v2,v3,v4,v5]]) (fun env h=>allR d.cells.length (fun j=>onI d.cells j fun x=>Ap d.know x.dot)=true) (fun env h=>env 2= .bool (Cn d)) _ H (by simp +contextual (disch:=omega) only[go_sem]) ⟨by simp +contextual (disch:=omega) only[go_sem,e1],fun j hj=>by omega,rfl⟩ ?_ ?_ ?_ ?_
 ·clear H e1
  rintro J Y W hJ hY hW i env h τ hi ei c0 H ⟨e1,ha,rfl⟩
  have L1:=A4 q5 hi
  have hat:(onI d.cells i fun x=>Ap d.know x.dot)=Ap d.know d.cells[i].dot:=Bl hi
  have no:(onI d.cells i fun x=>Ap d.know x.dot)=false->Cn d=false:=fun hh=>by simp[Cn,Fw (p:=fun j=>onI d.cells j fun x=>Ap d.know x.dot) hi hh]
  simp +contextual (disch:=omega) only[go_sem,c0,e1,ei,A3,L1,q5.len]
  refine by_b H (Co _ v1 _ _ (q1.pre H.sub) l1) (fun k1=> ?_) (fun k1=> ?_)
  ·simp +contextual (disch:=omega) only[go_sem,e1,ei]
   exact hJ _ _ _ _ H ⟨by simp +contextual (disch:=omega) only[go_sem,e1],Bo ha (by rw[hat,k1]),rfl⟩
  ·simp +contextual (disch:=omega) only[go_sem]
   exact hW _ _ _ H (by simp +contextual (disch:=omega) only[go_sem,no (by rw[hat,k1])])
 ·clear H e1
  rintro Y hY env h τ ei c0 H ⟨e1,ha,rfl⟩
  simp +contextual (disch:=omega) only[go_sem,c0,e1,ei,q5.len]
  exact hY _ _ _ H (Dt ha)
 ·clear H e1
  rintro env h τ H h8
  simp +contextual (disch:=omega) only[go_sem]
  exact fun _=>by simp[Cn,h1,h2,h3,h4,h5,h6,h7,h8]
 ·rintro env h τ H e2
  simp +contextual (disch:=omega) only[go_sem,e2]
section
variable {α:Type} {lt:α->α->Bool}
end
def mergeT (f:Int->Bool) (a b:List Tally):List Tally:=Ce Az (a.filter (fun t=> !f t.rep)++b.filter fun t=>f t.rep)
def goneBy (b:List Cell) (c:Cell):Cell:={c with gone:=c.gone||b.any fun x=>decide (x.dot=c.dot)&&x.gone}
def isNewC (a:List Cell) (x:Cell):Bool:= !a.any fun c=>decide (c.dot=x.dot)
def joinC (a b:List Cell):List Cell:=a.map (goneBy b)++b.filter (isNewC a)
def mergeC (a b:List Cell):List Cell:=Ce F5 (joinC a b)
instance:Inhabited Tally:=⟨⟨.empty,0,0⟩⟩
instance:Inhabited Live:=⟨⟨false,.empty,.empty,0,⟨0,0⟩⟩⟩
attribute [go_sem] Zag Zah Zbn List.eraseIdx_cons_zero Zbm List.map_nil Zab Zae
section
variable {P:Program} {D:Bool} {σ τ:St} {env:Env} {h:List Item} {k:Kx} {v:GV} {α:Type} {l:List α}
theorem flt_t {p:α->Bool} {i:Nat} (hi:i<l.length) (hp:p l[i]=true):(l.take (i+1)).filter p=(l.take i).filter p++[l[i]]:=by
 rw[Zas hi,Zbf,Zbz,hp];rfl
theorem flt_f {p:α->Bool} {i:Nat} (hi:i<l.length) (hp:p l[i]=false):(l.take (i+1)).filter p=(l.take i).filter p:=by
 rw[Zas hi,Zbf,Zbz,hp];simp
theorem flt_le {p:α->Bool} {i n:Nat} (hl:l.length<=n):((l.take i).filter p).length<=n:=Zay (Zbq _ _) (Zay (by rw[List.length_take];omega) hl)
theorem Hx.of {rs:List Thg} (H:Hp σ τ rs):Hx σ τ (rs.map Item.th):=by
 have e:(rs.map Item.th).map Item.t=rs:=by
  have:=Abw (rs:=rs) (h:=[])
  simpa using this
 unfold Hx
 rw[e];exact H
theorem Hx.nil (H:Hx σ τ h) (d:Kd α):Hx σ τ (.th (ow d .nilS ([]:List α))::h):=Hp.nilS H
theorem Hx.emp {z n:Nat} (H:Hx σ τ (.box z n []::h)) (d:Kd α) (hz:z=d.z):Hx σ τ (.th (ow d (.sl n 0 0) ([]:List α))::h):=H.hp.toNil 0 rfl hz
theorem kp {p:Nat->Prop} {env0 env:Env} {d:Nat} {v:GV} (hd:¬ p d) (h:∀ r,p r->env r=env0 r):∀ r,p r->up env d v r=env0 r:=fun r hr=>by
 unfold up
 rw[if_neg (fun e:r=d=>hd (by rw[<- e];exact hr))]
 exact h r hr
theorem Hx.mlk {m:GV} {ps:List (Dot×Int)} (H:Hx σ τ h) (i:Nat) (hi:h[i]? =some (.th (mpt m ps))) (d:Dot):mlkG τ [.i .i64,.i .i64] (gi 0) true m (.agg [gi d.rep,gi d.seq])=some (.tup [gi ((K6 ps d).getD 0),.bool (K6 ps d).isSome]):=H.hp.mlk i (at_t hi) d
theorem Dz (H:Hx σ τ h) {g:Bool} {n:Nat} {a x:GV} (e:ldG g n τ a=some x):ldX σ h τ g n a=some x:=by
 unfold ldX orX
 cases h1:ldG g n σ a with
 |some y=>have:=A9r h1 H.sub;rw[e] at this;exact this.symm
 |none=>
  show ldY h τ g n a=some x
  cases a with
  |ptr b off=>
   simp only[ldY]
   cases hl:look h b with
   |none=>exact e
   |some cs=>
    obtain⟨z,i,h2,_⟩:=My hl
    have:=H.hp.pt i h2
    simp only[ldG,this,Zac] at e
    exact e
  |_=>exact e
theorem A00:∀ {h:List Item} {n:Nat} {cs:List GV},look h n=some cs->∃ z,∃ i:Nat,h[i]? =some (.box z n cs)
 |[],_,_,e=>by cases e
 | .box z m cs'::h,n,cs,e=>by
  simp only[look] at e
  by_cases hm:m=n
  ·rw[if_pos hm] at e
   injection e with e;subst e hm
   exact⟨z,0,rfl⟩
  ·rw[if_neg hm] at e
   obtain⟨z',i,h1⟩:=A00 e
   exact⟨z',i+1,by simpa using h1⟩
 | .th r::h,n,cs,e=>by
  obtain⟨z',i,h1⟩:=A00 (h:=h) (by simpa [look] using e)
  exact⟨z',i+1,by simpa using h1⟩
theorem no_box (H:Hx σ τ h) {i:Nat} {r:Thg} (hi:h[i]? =some (.th r)) {b:Nat} (hb:∀ fp,r.P τ fp->b∈fp):look h b=none:=by
 cases hl:look h b with
 |none=>rfl
 |some cs=>
  obtain⟨z,j,h1⟩:=A00 hl
  obtain⟨_,fp,hs,hn,_⟩:=H.hp
  obtain⟨F,k1,k2,k3,_⟩:=Zu hs hn
  have hj:=k1 j (pt z b cs) (by rw[Za8,h1];rfl)
  have hr:=k1 i _ (at_t hi)
  have hij:i≠j:=by
   rintro rfl
   rw[hi] at h1;cases h1
  have h2:b∈F j:=by rw[hj.1];exact Zaf
  exact(k3 i j hij b (hb _ hr) h2).elim
end
def fromD (s:State) (d:Delta) (rep:Int):Bool:=decide (at0 s.know rep<at0 d.know rep)
def keepD (d:Delta) (l:Live):Bool:= !(Ap d.know l.dot&&(!Ap d.base l.dot&& !decide (l∈d.lives)))&& !decide (l.dot∈d.dead)
def newD (s:State) (l:Live):Bool:= !Ap s.know l.dot
def Adi (s:State) (d:Delta):State:=⟨kMax s.know d.know,mergeT (fromD s d) s.tallies d.tallies,Ce E7 (s.lives.filter (keepD d)++d.lives.filter (newD s)),mergeC s.cells d.cells⟩
def A5i (s:State) (d:Delta):State×Int:=
 if !(B6 s&&Bs d) then(s,3) else if Fn d.know s.know then(s,1) else if !Fn d.base s.know then(s,2) else
 if Fy (Adi s d) then(s,4) else if !B6 (Adi s d) then(s,3) else(Adi s d,0)
abbrev z4:List GV:=[GV.nilS,GV.nilS,GV.nilS,GV.nilS]
theorem Ab3 (s:State) (rep t:Int) (e:Edit):Ha (Df s rep t e).1<=s.know.length+e.obj.size+e.key.size:=by
 unfold Df
 repeat' split
 all_goals simp only[Y3,A9o,act0,Ha,show(ByteArray.mk #[]).size=0 from rfl,Zax]
 all_goals omega
theorem A2i (s:State):s.know.length<=Ah s:=by unfold Ah;omega
abbrev Px:Nat:=44
def Y9:Fn1:=⟨20,[.c 4 true 4,.t 5],(rg [oX 2 0,oX 3 1,o 4 (.new [.nilS,.nilS,.nilS,.nilS]),oV 5 (ki 0)] (.seq (rg [oF 6 0 3,oL 7 6] (cn 7 (rg [oW 8 4 2,oF 9 11 3,oW 10 6 9,oD 11 166 8 10,o 12 (.ext 0 (.t 11)),o 13 (.ext 1 (.t 11)),oS 4 4 12,oM 5 13] .ret) .skip)) (rg [oW 14 4 2,oF 15 1 3,oW 16 10 15,oD 17 140 14 16,o 18 (.ext 0 (.t 17)),o 19 (.ext 1 (.t 17)),oS 4 4 18,oM 5 19] .ret)))⟩
theorem A5j:A6 Tryz.prog Px=some Y9:=by kernel_rfl
abbrev La:Nat:=43
def Rq:Fn1:=⟨3,[.c 0 true 4],(rg [o 0 (.new [.nilS,.nilS,.nilS,.nilS])] (rg [o 1 (.call 165 []),o 2 (.build [.nilS,.nilS,.nilS,.nilS] [(0,1,(.t 1))]),oS 4 0 2] .ret))⟩
theorem A01:A6 Tryz.prog La=some Rq:=by kernel_rfl
abbrev zeU:List GV:=[.bool false,gi 0,gi 0,gi 0,.nilS,gi 0,.str ⟨#[]⟩,.str ⟨#[]⟩,gi 0,gi 0,gi 0,.nilS,.nilS,.nilS,.nilS,.nilS,.nilS]
def Bz (s:State) (u:Unit_):State×Int:=if u.batch then A5i s u.delta else Cw s u.act
def st0:State:=⟨[0,0,0],[],[],[]⟩
theorem Ab4 {b:Bool} {v1 v2:List GV} (h1:v1.length=10) (h2:v2.length=6):(seg (.bool b::v1++(v2++[])) 1 10).bind (mkv true)=some (.agg v1)/\(seg (.bool b::v1++(v2++[])) 11 6).bind (mkv true)=some (.agg v2)/\(seg (.bool b::v1++(v2++[])) 0 1).bind (mkv false)=some (.bool b)/\(GV.bool b::v1++(v2++[])).length=17:=by
 refine⟨?_,?_,?_,by simp[h1,h2]⟩
 ·simp[seg,mkv,h1,h2]
 ·have:List.drop 10 (v1++v2)=v2:=by rw[<- h1,List.drop_left]
  simp[seg,mkv,h1,h2,this]
  exact Zaw (by omega)
 ·simp[seg,mkv]
theorem Ie (σ:St):∃ r τ,Ret Tryz.prog La [] σ (.agg r) τ/\Hp σ τ [own A8 r st0]:=by
 have key:∃ q τ,Ret Tryz.prog La [] σ q τ/\∃ r,q= .agg r/\Hp σ τ [own A8 r st0]:=by
  refine Fi A01 (Z0z rfl) (Hx.refl σ) ?_
  simp +contextual (disch:=omega) only[go_sem,Rq]
  intro n f τ H
  obtain⟨kv,τ1,R1,K1⟩:=Zc τ
  refine by_c H R1 K1 fun H1=> ?_
  have ck:=(H1.hp.sl 0 rfl).cell
  simp +contextual (disch:=omega) only[go_sem,ck]
  intro τ2 H2
  exact⟨_,rfl,_,rfl,Hp.ownState (x:=st0) (((((H2.sel [0] (by decide)).nilS (d:=Aj.kd)).nilS (d:=Cl.kd)).nilS (d:=Bi.kd)).sel [3,0,1,2] (by decide))⟩
 obtain⟨q,τ,R,r,rfl,h⟩:=key
 exact⟨r,τ,R,h⟩
theorem N0 (σ:St) (cs:List GV) (s:State) (hR:A8.R σ s cs) (ds:List GV) (u:Unit_) (hU:Ab.R σ u ds) (hl:Ah s<=1073741824) (hm:Bq u<=1073741824) (hb:u.batch=false):∃ r τ,Ret Tryz.prog Px [.agg cs,.agg ds] σ (.tup [.agg r,gi (Bz s u).2]) τ/\Hp σ τ [own A8 r (Bz s u).1]:=by
 obtain⟨v1,v2,rfl,hA,hD⟩:=hU
 obtain⟨g1,g2,g3,g4⟩:=Ab4 (b:=u.batch) (kAct.len hA) (Bx.len hD)
 have gl:cs.length=4:=A8.len hR
 have sg:=A9 gl
 have hma:Ha u.act<=1073741824/\C9 u.delta<=1073741824:=by unfold Bq at hm;omega
 generalize(.bool u.batch::v1++(v2++[]):List GV)=ds at*
 have key:∃ q τ,Ret Tryz.prog Px [.agg cs,.agg ds] σ q τ/\∃ r,q= .tup [.agg r,gi (Bz s u).2]/\Hp σ τ [own A8 r (Bz s u).1]:=by
  refine Fi A5j (Z0z rfl) (Hx.refl σ) ?_
  rw[hb] at g3
  have hd:Bz s u=Cw s u.act:=by unfold Bz;rw[if_neg (by simp[hb])]
  simp +contextual (disch:=omega) only[go_sem,Y9,g3,sg,g1]
  intro n2 f2 τ2 H2 n3 f3 τ3 H3 n4 f4 τ4 H4
  obtain⟨r,τ5,R5,K5⟩:=Mx τ4 _ s (A8.pre hR H4.sub) _ _ (kAct.pre hA H4.sub) (by omega) (by omega)
  have rl:r.length=4:=A8.len (K5.rd 0 rfl)
  refine by_c H4 R5 K5 fun H5=> ?_
  simp +contextual (disch:=omega) only[go_sem,Ai (cs:=z4) rl rfl,rl,A9 rl]
  intro τ6 H6
  exact⟨_,rfl,r,by rw[hd],by rw[hd];exact H6.sel [0] (by decide)⟩
 obtain⟨q,τ,R,r,rfl,h⟩:=key
 exact⟨r,τ,R,h⟩
def runU (us:List Unit_):Nat->Option State
 |0=>some st0
 |i+1=>(runU us i).bind fun s=>if h:i<us.length then(if (Bz s us[i]).2=0 then some (Bz s us[i]).1 else none) else some s
theorem Ab5 {us:List Unit_} {i:Nat} {s:State} (hi:i<us.length) (h:runU us i=some s) (h0:(Bz s us[i]).2=0):runU us (i+1)=some (Bz s us[i]).1:=by
 rw[runU,h,Zac,dif_pos hi,if_pos h0]
theorem I4 {fps:List (List Nat)} {j:Nat} {fx:List Nat} {g:Nat} (h:g∈(fps.set j fx).flatten):g∈fps.flatten∨g∈fx:=by
 obtain⟨f,hf,hg⟩:=Zbc.1 h
 rcases Zbh hf with h1|h1
 ·exact .inl (Zbc.2 ⟨f,h1,hg⟩)
 ·exact .inr (h1 ▸ hg)
theorem M9:∀ {fps:List (List Nat)} {j:Nat} {fx:List Nat},fps.flatten.Nodup->fx.Nodup->(∀ g∈fx,g∉fps.flatten)->(fps.set j fx).flatten.Nodup
 |[],j,fx,_,_,_=>by simp
 |f::fps,0,fx,h,hx,hd=>by
  rw[Zan,Zam] at h
  rw[Zag,Zan,Zam]
  refine⟨hx,h.2.1,fun a ha b hb e=> ?_⟩
  subst e
  exact hd a ha (by rw[Zan];exact Zak _ hb)
 |f::fps,j+1,fx,h,hx,hd=>by
  rw[Zan,Zam] at h
  rw[Zah,Zan,Zam]
  refine⟨h.1,M9 h.2.1 hx fun g hg hm=>hd g hg (by rw[Zan];exact Zak _ hm),fun a ha b hb e=> ?_⟩
  subst e
  rcases I4 hb with h1|h1
  ·exact h.2.2 a ha a h1 rfl
  ·exact hd a h1 (by rw[Zan];exact Zat _ ha)
section os
variable {α:Type} {d:Kd α} {σ τ:St} {l:List α} {v:GV} {fp:List Nat}
theorem A6p {css:List (List GV)} {fps:List (List Nat)} (h:All3 (d.O τ) l css fps):∀ c∈css,c.length=d.z:=by
 induction h with
 |nil=>simp
 |cons h _ ih=>
  intro c hc
  rcases Zai.1 hc with rfl|hc
  ·exact d.len (d.rd h)
  ·exact ih c hc
theorem OS.setc {x:α} {cs:List GV} {fx:List Nat} (h:OS d τ l v fp) (hx:d.O τ x cs fx) (hn:(fp++fx).Nodup) (hlt:∀ g∈fp++fx,g<τ.length) (hz:0<d.z) {j:Nat} (hj:j<l.length):
  ∃ τ' fp',stG d.z τ (atz d.z v j) (.agg cs)=some (.tup [],τ')/\OS d τ' (l.set j x) v fp'/\Turn τ τ' (fp++fx) fp':=by
 have hcl:=d.len (d.rd hx)
 rcases h with⟨rfl,rfl,rfl⟩|⟨g,pre,css,post,fps,rfl,hB,hA,rfl⟩
 ·simp at hj
 ·rw[Zab,Zau] at hn
  obtain⟨hg,hn⟩:=hn
  rw[Zam] at hn
  have hgt:g<τ.length:=hlt g (by simp)
  have hfl:=Nn hA
  obtain⟨c,f,hc,_,_⟩:=hA.get (j:=j) (a:=l[j]) (by simp[hj])
  have hcz:=A6p hA c (Zbt hc)
  have hm:(j+1)*d.z<=l.length*d.z:=Nat.mul_le_mul_right _ hj
  rw[Nat.add_mul,Nat.one_mul] at hm
  have e1:Al css.flatten (j*d.z+0) cs=(css.set j cs).flatten:=by
   rw[Te (A6p hA) hc (by omega)]
   congr 2
   unfold Al
   rw[Zb2,Zae,Zbo (by omega),Zb0]
  have e2:Al (pre++css.flatten++post) (pre.length+(j*d.z+0)) cs=pre++(css.set j cs).flatten++post:=by
   rw[Pd (by omega),e1]
  have keep:∀ g',g'≠g->bk (τ.set g (some (.row d.z (pre++(css.set j cs).flatten++post)))) g'=bk τ g':=fun g' hne=>E5 (Ne.symm hne)
  refine⟨τ.set g (some (.row d.z (pre++(css.set j cs).flatten++post))),g::(fps.set j fx).flatten,?_,.inr ⟨g,pre,css.set j cs,post,fps.set j fx,by simp,Ar.2 (by rw[List.getElem?_set_self hgt]),?_,rfl⟩,⟨?_,?_,by simp,?_⟩⟩
  ·simp only[atz,stG,Ar.1 hB]
   rw[if_pos ⟨by simp only[Zap];omega,hz,hcl⟩]
   rw[Nat.add_zero] at e2
   rw[show (GV.agg cs).cells=cs from rfl,e2]
  ·refine(hA.set j hx).imp fun a b c hc ho=>d.loc ho fun g' hg'=>keep g' fun e=> ?_
   subst e
   rcases I4 (Zbc.2 ⟨c,hc,hg'⟩) with h1|h1
   ·exact hg (Zat _ h1)
   ·exact hg (Zak _ h1)
  ·rw[Zau]
   refine⟨fun h1=> ?_,M9 hn.1 hn.2.1 fun g' h1 h2=>hn.2.2 g' h2 g' h1 rfl⟩
   rcases I4 h1 with h1|h1
   ·exact hg (Zat _ h1)
   ·exact hg (Zak _ h1)
  ·intro g' hg'
   refine .inl ?_
   rcases Zai.1 hg' with rfl|h1
   ·simp
   ·rcases I4 h1 with h1|h1
    ·simp only[Zab,Zai,Zbs];exact .inr (.inl h1)
    ·simp only[Zab,Zai,Zbs];exact .inr (.inr h1)
  ·intro g' hg' hne
   exact keep g' fun e=>hne (by rw[e];simp)
theorem OS.fresh {x0:α} {ze:List GV} {n len:Nat} (h0:∀ τ,d.O τ x0 ze []) (hB:bk τ n=some (.row d.z (reps len ze))):OS d τ (Zbi len x0) (.sl n 0 len) [n]:=by
 refine .inr ⟨n,[],Zbi len ze,[],Zbi len [],by simp,by rw[hB];simp[reps],?_,?_⟩
 ·clear hB
  induction len with
  |zero=>exact .nil
  |succ k ih=>exact .cons (h0 τ) ih
 ·simp
end os
section rules
variable {P:Program} {D:Bool} {σ τ:St} {h:List Item} {k:Kx} {v:GV} {α:Type} {l:List α} {d:Kd α}
theorem Hx.mk {x0:α} {ze:List GV} {n len z:Nat} (H:Hx σ τ (.box z n (reps len ze)::h)) (d:Kd α) (hz:z=d.z) (h0:∀ τ,d.O τ x0 ze []):Hx σ τ (.th (ow d (.sl n 0 len) (Zbi len x0))::h):=
 H.hp.conv fun fp hp=>by
  obtain⟨rfl,hB⟩:=hp
  exact OS.fresh h0 (hz ▸ hB)
theorem A9w {x:α} {cs:List GV} (H:Hx σ τ h) (m i:Nat) (hm:h[m]? =some (.th (own d cs x))) (hi:(h.eraseIdx m)[i]? =some (.th (ow d v l))) (hz:0<d.z) {j:Nat} (hj:j<l.length)
  (kk:∀ τ',Hx σ τ' ((h.eraseIdx m).set i (.th (ow d v (l.set j x))))->k (.tup []) ((h.eraseIdx m).set i (.th (ow d v (l.set j x)))) τ'):stX σ false h τ d.z k (atz d.z v j) (.agg cs):=by
 have H1:=H.hp.pick m (at_t hm)
 rw[Zv] at H1
 have hp:(own d cs x::(h.eraseIdx m).map Item.t).Perm (ow d v l::own d cs x::((h.eraseIdx m).map Item.t).eraseIdx i):=((Hp.pick_perm (at_t hi)).cons _).trans (List.Perm.swap _ _ _)
 obtain⟨a,⟨a1,a2,h1,h2,rfl⟩,hn,hbd,ht⟩:=(H1.perm hp).join.turn
 obtain⟨τ',fp',e,ho,hT⟩:=OS.setc h1 h2 hn (fun g hg=>(hbd g hg).2) hz hj
 have H':=Hp.unpick (ht (r':=ow d v (l.set j x)) hT ho) (Zar.1 (at_t hi)).1
 rw[<- Adf] at H'
 have g:genX σ false τ (stG d.z τ (atz d.z v j) (.agg cs)) k:=⟨_,τ',_,e,(fun h=>by cases h),H',kk τ' H'⟩
 rcases h1 with⟨rfl,_⟩|⟨gb,pre,css,post,fps,rfl,hB,hA,rfl⟩
 ·simp at hj
 ·have hno:look h gb=none:=by
   obtain⟨i0,hi0⟩:∃ i0:Nat,h[i0]? =some (.th (ow d (.sl gb pre.length l.length) l)):=by
    have:=Zbt hi
    have:=List.mem_of_mem_eraseIdx this
    obtain⟨i0,h1,h2⟩:=Zaj this
    exact⟨i0,by rw[Zbj h1,h2]⟩
   refine no_box H hi0 fun fp'' ho'=> ?_
   rcases ho' with⟨rfl,_⟩|⟨g',pre',css',post',fps',e',_,_,rfl⟩
   ·simp at hj
   ·injection e' with e1;rw[e1];exact Zaf
  show stB σ false h τ d.z k gb _ (.agg cs) (look h gb)
  rw[hno]
  exact g
end rules
def Adj:Act:=⟨⟨0,0⟩,0,[],0,⟨#[]⟩,⟨#[]⟩,0,⟨0,0⟩⟩
abbrev zeA:List GV:=[gi 0,gi 0,gi 0,.nilS,gi 0,.str ⟨#[]⟩,.str ⟨#[]⟩,gi 0,gi 0,gi 0]
abbrev zeD:List GV:=[.nilS,.nilS,.nilS,.nilS,.nilS,.nilS]
theorem Ab6 (τ:St):kAct.O τ Adj zeA []:=⟨.nilS,[],rfl,.inl ⟨rfl,rfl,rfl⟩,rfl⟩
theorem A7w (τ:St):Bx.O τ ⟨[],[],[],[],[],[]⟩ zeD []:=⟨.nilS,.nilS,.nilS,.nilS,.nilS,.nilS,[],[],[],[],[],[],rfl,.inl ⟨rfl,rfl,rfl⟩,.inl ⟨rfl,rfl,rfl⟩,.inl ⟨rfl,rfl,rfl⟩,.inl ⟨rfl,rfl,rfl⟩,.inl ⟨rfl,rfl,rfl⟩,.inl ⟨rfl,rfl,rfl⟩,rfl⟩
end Go.Proofs.YtbeoiejnogdkpaaGreat.Sy
