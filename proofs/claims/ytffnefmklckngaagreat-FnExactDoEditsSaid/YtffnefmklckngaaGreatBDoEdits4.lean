/- Texts of this proof, one behind the other. -/
import Derived.Test.YtffnefmklckngaaGreatBDoEdits3
import Derived.Test.YtffnefmklckngaaGreatProg
import Derived.KernelRfl
namespace Go.Proofs.YtffnefmklckngaaGreat.Sy
open Go Go.RowKit
set_option linter.unusedSimpArgs false
set_option linter.unusedVariables false
set_option maxRecDepth 4000
abbrev n_s_DoEdits:Nat:=26
def F_s_DoEdits:Fn1:=⟨53,[.c 8 true 4,.t 9],(.seq (.reg [o 4 (.box (.t 0)),o 8 (.new [.nilS,.nilS,.nilS,.nilS]),o 9 (.mov (.k (.int .i64 0)))]) (.seq (.reg [o 16 (.ld true 4 (.t 4)),o 17 (.call 89 [(.t 16)]),o 10 (.new [.nilS,.nilS,.nilS,.nilS]),on (.st 4 (.t 10) (.t 17))]) (.seq (.seq (.reg [o 11 (.mov (.k (.int .i64 0)))]) (.blk 0 (.lop (.seq (.seq (.reg [o 18 (.mov (.t 11)),o 19 (.mov (.t 3)),o 20 (.len false (.t 19)),o 21 (.bin .lss (.t 18) (.t 20))]) (.cnd (.t 21) .skip (.ext 0))) (.seq (.blk 1 (.seq (.drw [o 25 (.ld true 4 (.t 10)),o 26 (.mov (.t 1)),o 27 (.mov (.t 2)),o 28 (.mov (.t 11)),o 29 (.bin .add (.t 27) (.t 28)),o 30 (.mov (.t 3)),o 31 (.mov (.t 11)),o 32 (.iad 5 (.t 30) (.t 31)),o 33 (.ld true 5 (.t 32)),o 34 (.call 90 [(.t 25),(.t 26),(.t 29),(.t 33)]),o 24 (.mov (.t 34)),o 35 (.ext 0 (.t 24)),o 36 (.ext 1 (.t 24)),o 12 (.new [(.int .i64 0),(.int .i64 0),(.int .i64 0),.nilS,(.int .i64 0),(.str ⟨#[]⟩),(.str ⟨#[]⟩),(.int .i64 0),(.int .i64 0),(.int .i64 0)])] [on (.st 10 (.t 12) (.t 35)),o 13 (.mov (.t 36))]) (.seq (.seq (.reg [o 37 (.mov (.t 13)),o 38 (.bin .neq (.t 37) (.k (.int .i64 0)))]) (.cnd (.t 38) (.seq (.reg [o 39 (.ld true 4 (.t 10)),o 40 (.mov (.t 13)),on (.st 4 (.t 8) (.t 39)),o 9 (.mov (.t 40))]) .ret) .skip)) (.seq (.reg [o 42 (.ld true 4 (.t 10)),o 43 (.ld true 10 (.t 12)),o 44 (.call 91 [(.t 42),(.t 43)]),o 41 (.mov (.t 44)),o 45 (.ext 0 (.t 41)),o 46 (.ext 1 (.t 41)),o 14 (.new [.nilS,.nilS,.nilS,.nilS]),on (.st 4 (.t 14) (.t 45)),o 15 (.mov (.t 46))]) (.seq (.seq (.reg [o 47 (.mov (.t 15)),o 48 (.bin .neq (.t 47) (.k (.int .i64 0)))]) (.cnd (.t 48) (.seq (.reg [o 49 (.ld true 4 (.t 10)),o 50 (.mov (.t 15)),on (.st 4 (.t 8) (.t 49)),o 9 (.mov (.t 50))]) .ret) .skip)) (.reg [o 51 (.ld true 4 (.t 14)),on (.st 4 (.t 10) (.t 51))])))))) (.reg [o 22 (.mov (.t 11)),o 23 (.bin .add (.t 22) (.k (.int .i64 1))),o 11 (.mov (.t 23))])))))) (.seq (.reg [o 52 (.ld true 4 (.t 10)),on (.st 4 (.t 8) (.t 52)),o 9 (.mov (.k (.int .i64 0)))]) .ret))))⟩
theorem ir_s_DoEdits:compFn Tryz.prog n_s_DoEdits=some F_s_DoEdits:=by kernel_rfl
abbrev z4:List GV:=[GV.nilS,GV.nilS,GV.nilS,GV.nilS]
theorem msAct_of (s:State) (rep t:Int) (e:Edit):msAct (actOf s rep t e).1≤s.know.length+e.obj.size+e.key.size:=by
 unfold actOf
 repeat' split
 all_goals simp only[actRaw,actWith,act0,msAct,show(ByteArray.mk #[]).size=0 from rfl,List.length_nil]
 all_goals omega
theorem msState_know (s:State):s.know.length≤msState s:=by unfold msState;omega
theorem doAct_err {s:State} {a:Act} (h:¬ (doAct s a).2=0):doAct s a=(s,(doAct s a).2):=by
 revert h
 unfold doAct
 repeat' split
 all_goals simp
theorem doEdits_0 {s:State} {rep t:Int} {es:List Edit} {i:Nat} (hi:i<es.length) (h0:(runE s rep t es i).2=0) (h:¬ (actOf (runE s rep t es i).1 rep (IntKind.i64.wrap (t+i)) es[i]).2=0):doEdits s rep t es=((runE s rep t es i).1,(actOf (runE s rep t es i).1 rep (IntKind.i64.wrap (t+i)) es[i]).2):=by
 have h1:runE s rep t es (i+1)=((runE s rep t es i).1,(actOf (runE s rep t es i).1 rep (IntKind.i64.wrap (t+i)) es[i]).2):=by
  rw[runE_at hi h0,stepE,if_neg h]
 rw[runE_end (i:=i+1) (by omega) (by rw[h1];exact h),h1]
theorem runE_1 {s:State} {rep t:Int} {es:List Edit} {i:Nat} (hi:i<es.length) (h0:(runE s rep t es i).2=0) (h:(actOf (runE s rep t es i).1 rep (IntKind.i64.wrap (t+i)) es[i]).2=0):runE s rep t es (i+1)=doAct (runE s rep t es i).1 (actOf (runE s rep t es i).1 rep (IntKind.i64.wrap (t+i)) es[i]).1:=by
 rw[runE_at hi h0,stepE,if_pos h]
theorem doEdits_1 {s:State} {rep t:Int} {es:List Edit} {i:Nat} {a:Act} (hi:i<es.length) (h1:runE s rep t es (i+1)=doAct (runE s rep t es i).1 a) (h:¬ (doAct (runE s rep t es i).1 a).2=0):doEdits s rep t es=((runE s rep t es i).1,(doAct (runE s rep t es i).1 a).2):=by
 rw[runE_end (i:=i+1) (by omega) (by rw[h1];exact h),h1]
 exact doAct_err h
set_option maxHeartbeats 4000000 in
theorem s_DoEdits_ret (σ:St) (cs:List GV) (s:State) (hR:kState.R σ s cs) (rep time:Int) (v:GV) (es:List Edit) (hE:RS pEdit.kd σ v es) (hl:msState s≤1048576) (hE1:es.length+sumL msEdit es≤1048576) (hpl:∀ x∈es,x.place≤9223372036854775807):∃ ds τ,Ret Tryz.prog n_s_DoEdits [.agg cs,gi rep,gi time,v] σ (.tup [.agg ds,gi (doEdits s rep time es).2]) τ∧Hp σ τ [own kState ds (doEdits s rep time es).1]:=by
 have hlen:cs.length=4:=kState.len hR
 have hle:es.length≤1048576:=by omega
 have hms:sumL msEdit es≤1048576:=by omega
 have hln:=hE.len
 have key:∃ q τ,Ret Tryz.prog n_s_DoEdits [.agg cs,gi rep,gi time,v] σ q τ∧∃ ds,q= .tup [.agg ds,gi (doEdits s rep time es).2]∧Hp σ τ [own kState ds (doEdits s rep time es).1]:=by
  refine ret_x ir_s_DoEdits (Nat.le_of_ble_eq_true rfl) (Hx.refl σ) ?_
  simp +contextual (disch:=omega) only[go_sem,F_s_DoEdits,seg_full hlen]
  intro n4 f4 τ4 H4 n8 f8 τ8 H8
  obtain⟨ds,τ1,R1,K1⟩:=s_l06Copy_ret τ8 _ s (kState.pre hR H8.sub) (by omega)
  have gl:ds.length=4:=kState.len (K1.rd 0 rfl)
  refine by_c H8 R1 K1 fun H1=> ?_
  simp +contextual (disch:=omega) only[go_sem,splice_full (cs:=z4) gl rfl,gl,seg_full gl]
  intro n10 f10 τ2 _ τ3 H3
  refine sx_for es.length 11 0 (fun i env h=>env 1=gi rep∧env 2=gi time∧env 3=v∧env 8= .ptr n8 0∧env 10= .ptr n10 0∧(runE s rep time es i).2=0∧∃ ds,ds.length=4∧h=[.box 1 n10 ds,.th (own kState ds (runE s rep time es i).1),.box 1 n8 z4]) (fun env h=>env 8= .ptr n8 0∧env 10= .ptr n10 0∧(runE s rep time es es.length).2=0∧∃ ds,ds.length=4∧h=[.box 1 n10 ds,.th (own kState ds (runE s rep time es es.length).1),.box 1 n8 z4]) (fun env h=>env 8= .ptr n8 0∧env 9=gi (doEdits s rep time es).2∧∃ ds,ds.length=4∧h=[.box 1 n8 ds,.th (own kState ds (doEdits s rep time es).1)]) _ (H3.re [0,1,2] (by decide)) (by simp +contextual (disch:=omega) only[go_sem]) ⟨by simp +contextual (disch:=omega) only[go_sem],by simp +contextual (disch:=omega) only[go_sem],by simp +contextual (disch:=omega) only[go_sem],by simp +contextual (disch:=omega) only[go_sem],by simp +contextual (disch:=omega) only[go_sem],rfl,ds,gl,rfl⟩ ?_ ?_ ?_ ?_
  ·rintro J Y W hJ hY hW i env h τ hi e11 c0 H ⟨e1,e2,e3,e8,e10,hz0,ds,gl,rfl⟩
   have E1:=Edit_at hE hi
   have hmsi:=ms_runE s rep time es i (by omega)
   have htk:=sumL_take_le msEdit es i
   have hsm:es[i].obj.size+es[i].key.size≤sumL msEdit es:=sumL_mem (f:=msEdit) (List.getElem_mem hi)
   have hkn:=msState_know (runE s rep time es i).1
   have hma:=msAct_of (runE s rep time es i).1 rep (IntKind.i64.wrap (time+i)) es[i]
   have h0:=doEdits_0 hi hz0
   have h1:=runE_1 hi hz0
   obtain⟨as',τ1,R1,K1⟩:=s_ActOf_ret τ ds _ (H.hp.rd 1 rfl) rep (IntKind.i64.wrap (time+i)) es[i] (by omega) (by omega) (by omega) (hpl _ (List.getElem_mem hi)) (by omega)
   have al:as'.length=10:=kAct.len (K1.rd 0 rfl)
   simp +contextual (disch:=omega) only[go_sem,c0,e1,e2,e3,e8,e10,e11,seg_full gl,hln,natOf_nat,E1]
   refine by_c H R1 K1 fun H1=> ?_
   generalize actOf (runE s rep time es i).1 rep (IntKind.i64.wrap (time+i)) es[i]=A at*
   by_cases hA:A.2=0
   ·have b1:(A.2 != 0)=false:=by simp[hA]
    have h2:=doEdits_1 hi (h1 hA)
    simp +contextual (disch:=omega) only[go_sem,splice_full (cs:=zeV) al rfl,al,b1,e8,e10,seg_full al,seg_full gl]
    intro n12 f12 τ5 _ τ6 H6
    obtain⟨fs,τ7,R7,K7⟩:=s_DoAct_ret τ6 ds _ (H6.hp.rd 3 rfl) as' _ (H6.hp.rd 1 rfl) (by omega) (by omega)
    have fl:fs.length=4:=kState.len (K7.rd 0 rfl)
    refine by_c H6 R7 K7 fun H7=> ?_
    by_cases hB:(doAct (runE s rep time es i).1 A.1).2=0
    ·have b2:((doAct (runE s rep time es i).1 A.1).2 != 0)=false:=by simp[hB]
     simp +contextual (disch:=omega) only[go_sem,splice_full (cs:=z4) fl rfl,splice_full (cs:=ds) fl gl,fl,gl,b2,e8,e10,e11,seg_full fl]
     intro n14 f14 τ8 _ τ9 _ τ10 H10
     refine hJ _ _ _ _ (H10.re [4,1,6] (by decide)) ⟨?_,?_,?_,?_,?_,by rw[h1 hA];exact hB,fs,fl,by rw[h1 hA];rfl⟩
     all_goals simp +contextual (disch:=omega) only[go_sem,e1,e2,e3,e8,e10]
    ·have b2:((doAct (runE s rep time es i).1 A.1).2 != 0)=true:=by simp[hB]
     have hd:=h2 hB
     simp +contextual (disch:=omega) only[go_sem,splice_full (cs:=z4) fl rfl,splice_full (cs:=z4) gl rfl,fl,gl,b2,e8,e10,e11,seg_full fl,seg_full gl]
     intro n14 f14 τ8 _ τ9 _ τ10 H10
     exact hW _ _ _ (H10.re [6,5] (by decide)) ⟨by simp +contextual (disch:=omega) only[go_sem,e8],by simp +contextual (disch:=omega) only[go_sem,hd],ds,gl,by rw[hd];rfl⟩
   ·have b1:(A.2 != 0)=true:=by simp[hA]
    have hd:=h0 hA
    simp +contextual (disch:=omega) only[go_sem,splice_full (cs:=zeV) al rfl,splice_full (cs:=z4) gl rfl,al,gl,b1,e8,e10,seg_full al,seg_full gl]
    intro n12 f12 τ5 _ τ6 _ τ7 H7
    exact hW _ _ _ (H7.re [4,3] (by decide)) ⟨by simp +contextual (disch:=omega) only[go_sem,e8],by simp +contextual (disch:=omega) only[go_sem,hd],ds,gl,by rw[hd];rfl⟩
  ·rintro Y hY env h τ e11 c0 H ⟨e1,e2,e3,e8,e10,hz0,ds,gl,rfl⟩
   simp +contextual (disch:=omega) only[go_sem,c0,e3,e11,hln]
   exact hY _ _ _ H ⟨by simp +contextual (disch:=omega) only[go_sem,e8],by simp +contextual (disch:=omega) only[go_sem,e10],hz0,ds,gl,rfl⟩
  ·rintro env h τ H ⟨e8,e10,hz0,ds,gl,rfl⟩
   simp +contextual (disch:=omega) only[go_sem,e8,e10,seg_full gl,splice_full (cs:=z4) gl rfl,gl]
   intro τ1 H1
   exact⟨_,rfl,ds,by simp[doEdits,hz0],H1.sel [1] (by decide)⟩
  ·rintro env h τ H ⟨e8,e9,ds,gl,rfl⟩
   simp +contextual (disch:=omega) only[go_sem,e8,e9,seg_full gl]
   exact fun _=>⟨_,rfl,ds,rfl,H.sel [1] (by decide)⟩
 obtain⟨q,τ,R,ds,rfl,h⟩:=key
 exact⟨ds,τ,R,h⟩
end Go.Proofs.YtffnefmklckngaaGreat.Sy
namespace Go.Proofs.YtffnefmklckngaaGreat.Sy
open Go Go.RowKit
set_option linter.unusedSimpArgs false
set_option linter.unusedVariables false
set_option maxRecDepth 4000
abbrev n_i_DoEdits:Nat:=28
def F_i_DoEdits:Fn1:=⟨52,[.c 8 true 4,.t 9],(.seq (.reg [o 4 (.box (.t 0)),o 8 (.new [.nilS,.nilS,.nilS,.nilS]),o 9 (.mov (.k (.int .i64 0)))]) (.seq (.reg [o 16 (.ld true 4 (.t 4)),o 17 (.call 93 [(.t 16)]),o 10 (.new [.nilS,.nilS,.nilS,.nilS]),on (.st 4 (.t 10) (.t 17))]) (.seq (.seq (.reg [o 18 (.mov (.t 3)),o 19 (.len false (.t 18)),o 20 (.mov (.k (.int .i64 0)))]) (.blk 0 (.lop (.seq (.reg [o 21 (.bin .lss (.t 20) (.t 19))]) (.seq (.cnd (.t 21) .skip (.ext 0)) (.seq (.blk 1 (.seq (.reg [o 22 (.mov (.t 20)),o 23 (.iad 5 (.t 18) (.t 20)),o 24 (.ld true 5 (.t 23)),o 12 (.new [(.int .i64 0),(.str ⟨#[]⟩),(.str ⟨#[]⟩),(.int .i64 0),(.int .i64 0)]),o 11 (.mov (.t 22)),on (.st 5 (.t 12) (.t 24))]) (.seq (.reg [o 26 (.ld true 4 (.t 10)),o 27 (.mov (.t 1)),o 28 (.mov (.t 2)),o 29 (.mov (.t 11)),o 30 (.bin .add (.t 28) (.t 29)),o 31 (.ld true 5 (.t 12)),o 32 (.call 94 [(.t 26),(.t 27),(.t 30),(.t 31)]),o 25 (.mov (.t 32)),o 33 (.ext 0 (.t 25)),o 34 (.ext 1 (.t 25)),o 13 (.new [(.int .i64 0),(.int .i64 0),(.int .i64 0),.nilS,(.int .i64 0),(.str ⟨#[]⟩),(.str ⟨#[]⟩),(.int .i64 0),(.int .i64 0),(.int .i64 0)]),on (.st 10 (.t 13) (.t 33)),o 14 (.mov (.t 34))]) (.seq (.seq (.reg [o 35 (.mov (.t 14)),o 36 (.bin .neq (.t 35) (.k (.int .i64 0)))]) (.cnd (.t 36) (.seq (.reg [o 37 (.ld true 4 (.t 10)),o 38 (.mov (.t 14)),on (.st 4 (.t 8) (.t 37)),o 9 (.mov (.t 38))]) .ret) .skip)) (.seq (.reg [o 40 (.ld true 4 (.t 10)),o 41 (.ld true 10 (.t 13)),o 42 (.call 95 [(.t 40),(.t 41)]),o 39 (.mov (.t 42)),o 43 (.ext 0 (.t 39)),o 44 (.ext 1 (.t 39)),o 15 (.new [.nilS,.nilS,.nilS,.nilS]),on (.st 4 (.t 15) (.t 43)),o 14 (.mov (.t 44))]) (.seq (.seq (.reg [o 45 (.mov (.t 14)),o 46 (.bin .neq (.t 45) (.k (.int .i64 0)))]) (.cnd (.t 46) (.seq (.reg [o 47 (.ld true 4 (.t 10)),o 48 (.mov (.t 14)),on (.st 4 (.t 8) (.t 47)),o 9 (.mov (.t 48))]) .ret) .skip)) (.reg [o 49 (.ld true 4 (.t 15)),on (.st 4 (.t 10) (.t 49))]))))))) (.reg [o 50 (.bin .add (.t 20) (.k (.int .i64 1))),o 20 (.mov (.t 50))]))))))) (.seq (.reg [o 51 (.ld true 4 (.t 10)),on (.st 4 (.t 8) (.t 51)),o 9 (.mov (.k (.int .i64 0)))]) .ret))))⟩
theorem ir_i_DoEdits:compFn Tryz.prog n_i_DoEdits=some F_i_DoEdits:=by kernel_rfl
theorem zSt_own {σ τ:St} {h:List Item} (H:Hx σ τ h) {i:Nat} {cs:List GV} {s:State} (hi:h[i]? =some (.th (own kState cs s))):zSt τ cs:=by
 obtain⟨v0,v1,v2,v3,rfl,H'⟩:=(H.hp.pick i (at_t hi)).splitState
 exact⟨v0,v1,v2,v3,rfl,H'.zok 1 rfl,H'.zok 2 rfl,H'.zok 3 rfl⟩
set_option maxHeartbeats 4000000 in
theorem i_DoEdits_ret (σ:St) (cs:List GV) (s:State) (hR:kState.R σ s cs) (rep time:Int) (v:GV) (es:List Edit) (hE:RS pEdit.kd σ v es) (hl:msState s≤1048576) (hE1:es.length+sumL msEdit es≤1048576) (hpl:∀ x∈es,x.place≤9223372036854775807):∃ ds τ,Ret Tryz.prog n_i_DoEdits [.agg cs,gi rep,gi time,v] σ (.tup [.agg ds,gi (doEdits s rep time es).2]) τ∧Hp σ τ [own kState ds (doEdits s rep time es).1]:=by
 have hlen:cs.length=4:=kState.len hR
 have hle:es.length≤1048576:=by omega
 have hms:sumL msEdit es≤1048576:=by omega
 have hln:=hE.len
 have key:∃ q τ,Ret Tryz.prog n_i_DoEdits [.agg cs,gi rep,gi time,v] σ q τ∧∃ ds,q= .tup [.agg ds,gi (doEdits s rep time es).2]∧Hp σ τ [own kState ds (doEdits s rep time es).1]:=by
  refine ret_x ir_i_DoEdits (Nat.le_of_ble_eq_true rfl) (Hx.refl σ) ?_
  simp +contextual (disch:=omega) only[go_sem,F_i_DoEdits,seg_full hlen]
  intro n4 f4 τ4 H4 n8 f8 τ8 H8
  obtain⟨ds,τ1,R1,K1⟩:=i_copyState_ret τ8 _ s (kState.pre hR H8.sub) (by omega)
  have gl:ds.length=4:=kState.len (K1.rd 0 rfl)
  refine by_c H8 R1 K1 fun H1=> ?_
  simp +contextual (disch:=omega) only[go_sem,splice_full (cs:=z4) gl rfl,gl,seg_full gl,hln]
  intro n10 f10 τ2 _ τ3 H3
  refine sx_for es.length 20 0 (fun i env h=>env 1=gi rep∧env 2=gi time∧env 18=v∧env 19=gi es.length∧env 8= .ptr n8 0∧env 10= .ptr n10 0∧(runE s rep time es i).2=0∧∃ ds,ds.length=4∧h=[.box 1 n10 ds,.th (own kState ds (runE s rep time es i).1),.box 1 n8 z4]) (fun env h=>env 8= .ptr n8 0∧env 10= .ptr n10 0∧(runE s rep time es es.length).2=0∧∃ ds,ds.length=4∧h=[.box 1 n10 ds,.th (own kState ds (runE s rep time es es.length).1),.box 1 n8 z4]) (fun env h=>env 8= .ptr n8 0∧env 9=gi (doEdits s rep time es).2∧∃ ds,ds.length=4∧h=[.box 1 n8 ds,.th (own kState ds (doEdits s rep time es).1)]) _ (H3.re [0,1,2] (by decide)) (by simp +contextual (disch:=omega) only[go_sem]) ⟨by simp +contextual (disch:=omega) only[go_sem],by simp +contextual (disch:=omega) only[go_sem],by simp +contextual (disch:=omega) only[go_sem],by simp +contextual (disch:=omega) only[go_sem],by simp +contextual (disch:=omega) only[go_sem],by simp +contextual (disch:=omega) only[go_sem],rfl,ds,gl,rfl⟩ ?_ ?_ ?_ ?_
  ·rintro J Y W hJ hY hW i env h τ hi e20 c0 H ⟨e1,e2,e18,e19,e8,e10,hz0,ds,gl,rfl⟩
   have E1:=Edit_at hE hi
   have hmsi:=ms_runE s rep time es i (by omega)
   have htk:=sumL_take_le msEdit es i
   have hsm:es[i].obj.size+es[i].key.size≤sumL msEdit es:=sumL_mem (f:=msEdit) (List.getElem_mem hi)
   have hkn:=msState_know (runE s rep time es i).1
   have hma:=msAct_of (runE s rep time es i).1 rep (IntKind.i64.wrap (time+i)) es[i]
   have h0:=doEdits_0 hi hz0
   have h1:=runE_1 hi hz0
   simp +contextual (disch:=omega) only[go_sem,c0,e1,e2,e18,e19,e8,e10,e20,seg_full gl,natOf_nat,E1]
   intro n12 f12 τ0 _ τa Ha
   obtain⟨as',τ1,R1,K1⟩:=i_ActOf_ret τa ds _ (Ha.hp.rd 2 rfl) rep (IntKind.i64.wrap (time+i)) es[i] (by omega) (by omega) (by omega) (hpl _ (List.getElem_mem hi)) (by omega)
   have al:as'.length=10:=kAct.len (K1.rd 0 rfl)
   refine by_c Ha R1 K1 fun H1=> ?_
   generalize actOf (runE s rep time es i).1 rep (IntKind.i64.wrap (time+i)) es[i]=A at*
   by_cases hA:A.2=0
   ·have b1:(A.2 != 0)=false:=by simp[hA]
    have h2:=doEdits_1 hi (h1 hA)
    simp +contextual (disch:=omega) only[go_sem,splice_full (cs:=zeV) al rfl,al,b1,e8,e10,seg_full al,seg_full gl]
    intro n12 f12 τ5 _ τ6 H6
    obtain⟨fs,τ7,R7,K7⟩:=i_DoAct_ret τ6 ds _ (H6.hp.rd 4 rfl) (zSt_own H6 (i:=4) rfl) as' _ (H6.hp.rd 1 rfl) (by omega) (by omega)
    have fl:fs.length=4:=kState.len (K7.rd 0 rfl)
    refine by_c H6 R7 K7 fun H7=> ?_
    by_cases hB:(doAct (runE s rep time es i).1 A.1).2=0
    ·have b2:((doAct (runE s rep time es i).1 A.1).2 != 0)=false:=by simp[hB]
     simp +contextual (disch:=omega) only[go_sem,splice_full (cs:=z4) fl rfl,splice_full (cs:=ds) fl gl,fl,gl,b2,e8,e10,e20,seg_full fl]
     intro n14 f14 τ8 _ τ9 _ τ10 H10
     refine hJ _ _ _ _ (H10.re [5,1,7] (by decide)) ⟨?_,?_,?_,?_,?_,?_,by rw[h1 hA];exact hB,fs,fl,by rw[h1 hA];rfl⟩
     all_goals simp +contextual (disch:=omega) only[go_sem,e1,e2,e18,e19,e8,e10]
    ·have b2:((doAct (runE s rep time es i).1 A.1).2 != 0)=true:=by simp[hB]
     have hd:=h2 hB
     simp +contextual (disch:=omega) only[go_sem,splice_full (cs:=z4) fl rfl,splice_full (cs:=z4) gl rfl,fl,gl,b2,e8,e10,e20,seg_full fl,seg_full gl]
     intro n14 f14 τ8 _ τ9 _ τ10 H10
     exact hW _ _ _ (H10.re [7,6] (by decide)) ⟨by simp +contextual (disch:=omega) only[go_sem,e8],by simp +contextual (disch:=omega) only[go_sem,hd],ds,gl,by rw[hd];rfl⟩
   ·have b1:(A.2 != 0)=true:=by simp[hA]
    have hd:=h0 hA
    simp +contextual (disch:=omega) only[go_sem,splice_full (cs:=zeV) al rfl,splice_full (cs:=z4) gl rfl,al,gl,b1,e8,e10,seg_full al,seg_full gl]
    intro n12 f12 τ5 _ τ6 _ τ7 H7
    exact hW _ _ _ (H7.re [5,4] (by decide)) ⟨by simp +contextual (disch:=omega) only[go_sem,e8],by simp +contextual (disch:=omega) only[go_sem,hd],ds,gl,by rw[hd];rfl⟩
  ·rintro Y hY env h τ e20 c0 H ⟨e1,e2,e18,e19,e8,e10,hz0,ds,gl,rfl⟩
   simp +contextual (disch:=omega) only[go_sem,c0,e19,e20]
   exact hY _ _ _ H ⟨by simp +contextual (disch:=omega) only[go_sem,e8],by simp +contextual (disch:=omega) only[go_sem,e10],hz0,ds,gl,rfl⟩
  ·rintro env h τ H ⟨e8,e10,hz0,ds,gl,rfl⟩
   simp +contextual (disch:=omega) only[go_sem,e8,e10,seg_full gl,splice_full (cs:=z4) gl rfl,gl]
   intro τ1 H1
   exact⟨_,rfl,ds,by simp[doEdits,hz0],H1.sel [1] (by decide)⟩
  ·rintro env h τ H ⟨e8,e9,ds,gl,rfl⟩
   simp +contextual (disch:=omega) only[go_sem,e8,e9,seg_full gl]
   exact fun _=>⟨_,rfl,ds,rfl,H.sel [1] (by decide)⟩
 obtain⟨q,τ,R,ds,rfl,h⟩:=key
 exact⟨ds,τ,R,h⟩
theorem doEdits_ms (s:State) (rep t:Int) (es:List Edit):msState (doEdits s rep t es).1≤msState s+sumL msEdit es+es.length:=by
 have:=ms_runE s rep t es es.length (Nat.le_refl _)
 have h:=sumL_take_le msEdit es es.length
 unfold doEdits
 omega
end Go.Proofs.YtffnefmklckngaaGreat.Sy
namespace Go.Proofs.YtffnefmklckngaaGreat.Sy
open Go Go.RowKit
set_option linter.unusedSimpArgs false
set_option linter.unusedVariables false
abbrev n_l_eqEdit:Nat:=96
def F_l_eqEdit:Fn1:=⟨30,[.t 4],(.seq (.reg [o 2 (.box (.t 0)),o 3 (.box (.t 1)),o 4 (.mov (.k (.bool false)))]) (.seq (.seq (.reg [o 5 (.fad 0 (.t 2)),o 6 (.ld false 1 (.t 5)),o 7 (.fad 0 (.t 3)),o 8 (.ld false 1 (.t 7)),o 9 (.bin .neq (.t 6) (.t 8))]) (.cnd (.t 9) (.seq (.reg [o 4 (.mov (.k (.bool false)))]) .ret) .skip)) (.seq (.seq (.reg [o 10 (.fad 1 (.t 2)),o 11 (.ld false 1 (.t 10)),o 12 (.fad 1 (.t 3)),o 13 (.ld false 1 (.t 12)),o 14 (.bin .neq (.t 11) (.t 13))]) (.cnd (.t 14) (.seq (.reg [o 4 (.mov (.k (.bool false)))]) .ret) .skip)) (.seq (.seq (.reg [o 15 (.fad 2 (.t 2)),o 16 (.ld false 1 (.t 15)),o 17 (.fad 2 (.t 3)),o 18 (.ld false 1 (.t 17)),o 19 (.bin .neq (.t 16) (.t 18))]) (.cnd (.t 19) (.seq (.reg [o 4 (.mov (.k (.bool false)))]) .ret) .skip)) (.seq (.seq (.reg [o 20 (.fad 3 (.t 2)),o 21 (.ld false 1 (.t 20)),o 22 (.fad 3 (.t 3)),o 23 (.ld false 1 (.t 22)),o 24 (.bin .neq (.t 21) (.t 23))]) (.cnd (.t 24) (.seq (.reg [o 4 (.mov (.k (.bool false)))]) .ret) .skip)) (.seq (.seq (.reg [o 25 (.fad 4 (.t 2)),o 26 (.ld false 1 (.t 25)),o 27 (.fad 4 (.t 3)),o 28 (.ld false 1 (.t 27)),o 29 (.bin .neq (.t 26) (.t 28))]) (.cnd (.t 29) (.seq (.reg [o 4 (.mov (.k (.bool false)))]) .ret) .skip)) (.seq (.reg [o 4 (.mov (.k (.bool true)))]) .ret)))))))⟩
theorem ir_l_eqEdit:compFn Tryz.prog n_l_eqEdit=some F_l_eqEdit:=by kernel_rfl
theorem l_eqEdit_ret (σ:St) (x y:Edit):Ret Tryz.prog n_l_eqEdit [.agg [.int .i64 x.kind,.str x.obj,.str x.key,.int .i64 x.val,.int .i64 x.place],.agg [.int .i64 y.kind,.str y.obj,.str y.key,.int .i64 y.val,.int .i64 y.place]] σ (.bool (decide (x=y))) σ:=by
 refine ret_eq ir_l_eqEdit (Nat.le_of_ble_eq_true rfl) trivial ?_
 simp +contextual (disch:=omega) only[go_sem,F_l_eqEdit,List.append_nil]
 refine⟨fun hn=> ?_,fun hn=> ?_⟩
 ·simp only[Edit.eq_iff];simp at hn ⊢;simp[hn]
 have q0:x.kind=y.kind:=by simpa using hn
 refine⟨fun hn=> ?_,fun hn=> ?_⟩
 ·simp only[Edit.eq_iff];simp at hn ⊢;simp[hn]
 have q1:x.obj=y.obj:=by simpa using hn
 refine⟨fun hn=> ?_,fun hn=> ?_⟩
 ·simp only[Edit.eq_iff];simp at hn ⊢;simp[hn]
 have q2:x.key=y.key:=by simpa using hn
 refine⟨fun hn=> ?_,fun hn=> ?_⟩
 ·simp only[Edit.eq_iff];simp at hn ⊢;simp[hn]
 have q3:x.val=y.val:=by simpa using hn
 refine⟨fun hn=> ?_,fun hn=> ?_⟩
 ·simp only[Edit.eq_iff];simp at hn ⊢;simp[hn]
 have q4:x.place=y.place:=by simpa using hn
 simp only[Edit.eq_iff,q0,q1,q2,q3,q4,and_self,decide_true]
end Go.Proofs.YtffnefmklckngaaGreat.Sy
namespace Go.Proofs.YtffnefmklckngaaGreat.Sy
open Go Go.RowKit
set_option linter.unusedSimpArgs false
set_option linter.unusedVariables false
abbrev n_l_eqEditS:Nat:=29
def F_l_eqEditS:Fn1:=⟨27,[.t 4],(.seq (.reg [o 4 (.mov (.k (.bool false)))]) (.seq (.seq (.reg [o 6 (.mov (.t 0)),o 7 (.len false (.t 6)),o 8 (.mov (.t 1)),o 9 (.len false (.t 8)),o 10 (.bin .neq (.t 7) (.t 9))]) (.cnd (.t 10) (.seq (.reg [o 4 (.mov (.k (.bool false)))]) .ret) .skip)) (.seq (.seq (.reg [o 5 (.mov (.k (.int .i64 0)))]) (.blk 0 (.lop (.seq (.seq (.reg [o 11 (.mov (.t 5)),o 12 (.mov (.t 0)),o 13 (.len false (.t 12)),o 14 (.bin .lss (.t 11) (.t 13))]) (.cnd (.t 14) .skip (.ext 0))) (.seq (.blk 1 (.seq (.drw [o 17 (.mov (.t 0)),o 18 (.mov (.t 5)),o 19 (.iad 5 (.t 17) (.t 18)),o 20 (.ld true 5 (.t 19)),o 21 (.mov (.t 1)),o 22 (.mov (.t 5)),o 23 (.iad 5 (.t 21) (.t 22)),o 24 (.ld true 5 (.t 23))] [o 25 (.call 96 [(.t 20),(.t 24)]),o 26 (.un .not (.t 25))]) (.cnd (.t 26) (.seq (.reg [o 4 (.mov (.k (.bool false)))]) .ret) .skip))) (.reg [o 15 (.mov (.t 5)),o 16 (.bin .add (.t 15) (.k (.int .i64 1))),o 5 (.mov (.t 16))])))))) (.seq (.reg [o 4 (.mov (.k (.bool true)))]) .ret))))⟩
theorem ir_l_eqEditS:compFn Tryz.prog n_l_eqEditS=some F_l_eqEditS:=by kernel_rfl
theorem l_eqEditS_ret (σ:St) (v u:GV) (l m:List Edit) (hv:RS pEdit.kd σ v l) (hu:RS pEdit.kd σ u m) (hl:(l.length+sumL msEdit l)≤1099511627776):Ret Tryz.prog n_l_eqEditS [v,u] σ (.bool (decide (l=m))) σ:=by
 refine ret_eq ir_l_eqEditS (Nat.le_of_ble_eq_true rfl) trivial ?_
 simp +contextual (disch:=omega) only[go_sem,F_l_eqEditS,hv.len,hu.len]
 refine⟨fun hn=> ?_,fun hn=> ?_⟩
 ·have:l≠m:=fun h=>by subst h;simp at hn
  simp[this]
 have hlm:l.length=m.length:=by
                    have h2:(l.length:Int)=m.length:=by simpa using hn
                    omega
 refine vc_for l.length 5 (fun i env τ=>env 0=v∧env 1=u∧l.take i=m.take i∧σ <+: τ) rfl ⟨rfl,rfl,rfl,List.prefix_refl _⟩ ?_ ?_
 ·rintro i env τ hi e5 c0 ⟨e0,e1,he,hp⟩
  have hj:i<m.length:=by omega
  have h1:=hv.pre hp
  have h2:=hu.pre hp
  have hne:l[i]≠m[i]→l≠m:=fun h h'=>h (by subst h';rfl)
  have hst:l[i]=m[i]→l.take (i+1)=m.take (i+1):=fun h=>by rw[take_snoc hi,take_snoc hj,he,h]
  have hms:msEdit l[i]≤sumL msEdit l:=sumL_mem (List.getElem_mem hi)
  simp +contextual (disch:=omega) only[go_sem,c0,e0,e1,e5,hv.len,hu.len,Edit_at h1 hi,Edit_at h2 hj]
  refine by_ret (l_eqEdit_ret τ l[i] m[i]) ?_
  simp +contextual (disch:=omega) only[go_sem,e0,e1,e5,hp]
  refine⟨fun h=> ?_,fun h=> ?_⟩
  ·simp[hne (by simpa using h)]
  ·simpa using hst (by simpa using h)
 ·rintro env τ e5 c0 ⟨e0,e1,he,hp⟩
  rw[List.take_length,hlm,List.take_length] at he
  simp +contextual (disch:=omega) only[go_sem,c0,e0,e1,e5,hv.len,hu.len,hp]
  simp[he]
end Go.Proofs.YtffnefmklckngaaGreat.Sy
namespace Go.Proofs.YtffnefmklckngaaGreat.Sy
open Go Go.RowKit
set_option linter.unusedSimpArgs false
set_option linter.unusedVariables false
abbrev n_l_eqDot:Nat:=114
def F_l_eqDot:Fn1:=⟨15,[.t 4],(.seq (.reg [o 2 (.box (.t 0)),o 3 (.box (.t 1)),o 4 (.mov (.k (.bool false)))]) (.seq (.seq (.reg [o 5 (.fad 0 (.t 2)),o 6 (.ld false 1 (.t 5)),o 7 (.fad 0 (.t 3)),o 8 (.ld false 1 (.t 7)),o 9 (.bin .neq (.t 6) (.t 8))]) (.cnd (.t 9) (.seq (.reg [o 4 (.mov (.k (.bool false)))]) .ret) .skip)) (.seq (.seq (.reg [o 10 (.fad 1 (.t 2)),o 11 (.ld false 1 (.t 10)),o 12 (.fad 1 (.t 3)),o 13 (.ld false 1 (.t 12)),o 14 (.bin .neq (.t 11) (.t 13))]) (.cnd (.t 14) (.seq (.reg [o 4 (.mov (.k (.bool false)))]) .ret) .skip)) (.seq (.reg [o 4 (.mov (.k (.bool true)))]) .ret))))⟩
theorem ir_l_eqDot:compFn Tryz.prog n_l_eqDot=some F_l_eqDot:=by kernel_rfl
theorem l_eqDot_ret (σ:St) (x y:Dot):Ret Tryz.prog n_l_eqDot [.agg [.int .i64 x.rep,.int .i64 x.seq],.agg [.int .i64 y.rep,.int .i64 y.seq]] σ (.bool (decide (x=y))) σ:=by
 refine ret_eq ir_l_eqDot (Nat.le_of_ble_eq_true rfl) trivial ?_
 simp +contextual (disch:=omega) only[go_sem,F_l_eqDot,List.append_nil]
 refine⟨fun hn=> ?_,fun hn=> ?_⟩
 ·simp only[Dot.eq_iff];simp at hn ⊢;simp[hn]
 have q0:x.rep=y.rep:=by simpa using hn
 refine⟨fun hn=> ?_,fun hn=> ?_⟩
 ·simp only[Dot.eq_iff];simp at hn ⊢;simp[hn]
 have q1:x.seq=y.seq:=by simpa using hn
 simp only[Dot.eq_iff,q0,q1,and_self,decide_true]
end Go.Proofs.YtffnefmklckngaaGreat.Sy
namespace Go.Proofs.YtffnefmklckngaaGreat.Sy
open Go Go.RowKit
set_option linter.unusedSimpArgs false
set_option linter.unusedVariables false
abbrev n_l_eqCell:Nat:=137
def F_l_eqCell:Fn1:=⟨37,[.t 4],(.seq (.reg [o 2 (.box (.t 0)),o 3 (.box (.t 1)),o 4 (.mov (.k (.bool false)))]) (.seq (.seq (.reg [o 5 (.fad 0 (.t 2)),o 6 (.ld false 1 (.t 5)),o 7 (.fad 0 (.t 3)),o 8 (.ld false 1 (.t 7)),o 9 (.bin .neq (.t 6) (.t 8))]) (.cnd (.t 9) (.seq (.reg [o 4 (.mov (.k (.bool false)))]) .ret) .skip)) (.seq (.seq (.reg [o 10 (.fad 1 (.t 2)),o 11 (.ld true 2 (.t 10)),o 12 (.fad 1 (.t 3)),o 13 (.ld true 2 (.t 12)),o 14 (.call 114 [(.t 11),(.t 13)]),o 15 (.un .not (.t 14))]) (.cnd (.t 15) (.seq (.reg [o 4 (.mov (.k (.bool false)))]) .ret) .skip)) (.seq (.seq (.reg [o 16 (.fad 3 (.t 2)),o 17 (.ld false 1 (.t 16)),o 18 (.fad 3 (.t 3)),o 19 (.ld false 1 (.t 18)),o 20 (.bin .neq (.t 17) (.t 19))]) (.cnd (.t 20) (.seq (.reg [o 4 (.mov (.k (.bool false)))]) .ret) .skip)) (.seq (.seq (.reg [o 21 (.fad 4 (.t 2)),o 22 (.ld true 2 (.t 21)),o 23 (.fad 4 (.t 3)),o 24 (.ld true 2 (.t 23)),o 25 (.call 114 [(.t 22),(.t 24)]),o 26 (.un .not (.t 25))]) (.cnd (.t 26) (.seq (.reg [o 4 (.mov (.k (.bool false)))]) .ret) .skip)) (.seq (.seq (.reg [o 27 (.fad 6 (.t 2)),o 28 (.ld false 1 (.t 27)),o 29 (.fad 6 (.t 3)),o 30 (.ld false 1 (.t 29)),o 31 (.bin .neq (.t 28) (.t 30))]) (.cnd (.t 31) (.seq (.reg [o 4 (.mov (.k (.bool false)))]) .ret) .skip)) (.seq (.seq (.reg [o 32 (.fad 7 (.t 2)),o 33 (.ld false 1 (.t 32)),o 34 (.fad 7 (.t 3)),o 35 (.ld false 1 (.t 34)),o 36 (.eqb true (.t 33) (.t 35))]) (.cnd (.t 36) (.seq (.reg [o 4 (.mov (.k (.bool false)))]) .ret) .skip)) (.seq (.reg [o 4 (.mov (.k (.bool true)))]) .ret))))))))⟩
theorem ir_l_eqCell:compFn Tryz.prog n_l_eqCell=some F_l_eqCell:=by kernel_rfl
theorem l_eqCell_ret (σ:St) (x y:Cell):Ret Tryz.prog n_l_eqCell [.agg [.str x.obj,.int .i64 x.dot.rep,.int .i64 x.dot.seq,.int .i64 x.time,.int .i64 x.ref.rep,.int .i64 x.ref.seq,.int .i64 x.val,.bool x.gone],.agg [.str y.obj,.int .i64 y.dot.rep,.int .i64 y.dot.seq,.int .i64 y.time,.int .i64 y.ref.rep,.int .i64 y.ref.seq,.int .i64 y.val,.bool y.gone]] σ (.bool (decide (x=y))) σ:=by
 refine ret_eq ir_l_eqCell (Nat.le_of_ble_eq_true rfl) trivial ?_
 simp +contextual (disch:=omega) only[go_sem,F_l_eqCell,List.append_nil]
 refine⟨fun hn=> ?_,fun hn=> ?_⟩
 ·simp only[Cell.eq_iff];simp at hn ⊢;simp[hn]
 have q0:x.obj=y.obj:=by simpa using hn
 refine by_ret (l_eqDot_ret _ x.dot y.dot) ?_
 simp +contextual (disch:=omega) only[go_sem,List.append_nil]
 refine⟨fun hn=> ?_,fun hn=> ?_⟩
 ·simp only[Cell.eq_iff];simp at hn ⊢;simp[hn]
 have q1:x.dot=y.dot:=by simpa using hn
 refine⟨fun hn=> ?_,fun hn=> ?_⟩
 ·simp only[Cell.eq_iff];simp at hn ⊢;simp[hn]
 have q2:x.time=y.time:=by simpa using hn
 refine by_ret (l_eqDot_ret _ x.ref y.ref) ?_
 simp +contextual (disch:=omega) only[go_sem,List.append_nil]
 refine⟨fun hn=> ?_,fun hn=> ?_⟩
 ·simp only[Cell.eq_iff];simp at hn ⊢;simp[hn]
 have q3:x.ref=y.ref:=by simpa using hn
 refine⟨fun hn=> ?_,fun hn=> ?_⟩
 ·simp only[Cell.eq_iff];simp at hn ⊢;simp[hn]
 have q4:x.val=y.val:=by simpa using hn
 refine⟨fun hn=> ?_,fun hn=> ?_⟩
 ·simp only[Cell.eq_iff];simp at hn ⊢;simp[hn]
 have q5:x.gone=y.gone:=by simpa using hn
 simp only[Cell.eq_iff,q0,q1,q2,q3,q4,q5,and_self,decide_true]
end Go.Proofs.YtffnefmklckngaaGreat.Sy
namespace Go.Proofs.YtffnefmklckngaaGreat.Sy
open Go Go.RowKit
set_option linter.unusedSimpArgs false
set_option linter.unusedVariables false
abbrev n_l_eqCellS:Nat:=87
def F_l_eqCellS:Fn1:=⟨27,[.t 4],(.seq (.reg [o 4 (.mov (.k (.bool false)))]) (.seq (.seq (.reg [o 6 (.mov (.t 0)),o 7 (.len false (.t 6)),o 8 (.mov (.t 1)),o 9 (.len false (.t 8)),o 10 (.bin .neq (.t 7) (.t 9))]) (.cnd (.t 10) (.seq (.reg [o 4 (.mov (.k (.bool false)))]) .ret) .skip)) (.seq (.seq (.reg [o 5 (.mov (.k (.int .i64 0)))]) (.blk 0 (.lop (.seq (.seq (.reg [o 11 (.mov (.t 5)),o 12 (.mov (.t 0)),o 13 (.len false (.t 12)),o 14 (.bin .lss (.t 11) (.t 13))]) (.cnd (.t 14) .skip (.ext 0))) (.seq (.blk 1 (.seq (.drw [o 17 (.mov (.t 0)),o 18 (.mov (.t 5)),o 19 (.iad 8 (.t 17) (.t 18)),o 20 (.ld true 8 (.t 19)),o 21 (.mov (.t 1)),o 22 (.mov (.t 5)),o 23 (.iad 8 (.t 21) (.t 22)),o 24 (.ld true 8 (.t 23))] [o 25 (.call 137 [(.t 20),(.t 24)]),o 26 (.un .not (.t 25))]) (.cnd (.t 26) (.seq (.reg [o 4 (.mov (.k (.bool false)))]) .ret) .skip))) (.reg [o 15 (.mov (.t 5)),o 16 (.bin .add (.t 15) (.k (.int .i64 1))),o 5 (.mov (.t 16))])))))) (.seq (.reg [o 4 (.mov (.k (.bool true)))]) .ret))))⟩
theorem ir_l_eqCellS:compFn Tryz.prog n_l_eqCellS=some F_l_eqCellS:=by kernel_rfl
theorem l_eqCellS_ret (σ:St) (v u:GV) (l m:List Cell) (hv:RS pCell.kd σ v l) (hu:RS pCell.kd σ u m) (hl:(l.length+sumL msCell l)≤1099511627776):Ret Tryz.prog n_l_eqCellS [v,u] σ (.bool (decide (l=m))) σ:=by
 refine ret_eq ir_l_eqCellS (Nat.le_of_ble_eq_true rfl) trivial ?_
 simp +contextual (disch:=omega) only[go_sem,F_l_eqCellS,hv.len,hu.len]
 refine⟨fun hn=> ?_,fun hn=> ?_⟩
 ·have:l≠m:=fun h=>by subst h;simp at hn
  simp[this]
 have hlm:l.length=m.length:=by
                    have h2:(l.length:Int)=m.length:=by simpa using hn
                    omega
 refine vc_for l.length 5 (fun i env τ=>env 0=v∧env 1=u∧l.take i=m.take i∧σ <+: τ) rfl ⟨rfl,rfl,rfl,List.prefix_refl _⟩ ?_ ?_
 ·rintro i env τ hi e5 c0 ⟨e0,e1,he,hp⟩
  have hj:i<m.length:=by omega
  have h1:=hv.pre hp
  have h2:=hu.pre hp
  have hne:l[i]≠m[i]→l≠m:=fun h h'=>h (by subst h';rfl)
  have hst:l[i]=m[i]→l.take (i+1)=m.take (i+1):=fun h=>by rw[take_snoc hi,take_snoc hj,he,h]
  have hms:msCell l[i]≤sumL msCell l:=sumL_mem (List.getElem_mem hi)
  simp +contextual (disch:=omega) only[go_sem,c0,e0,e1,e5,hv.len,hu.len,Cell_at h1 hi,Cell_at h2 hj]
  refine by_ret (l_eqCell_ret τ l[i] m[i]) ?_
  simp +contextual (disch:=omega) only[go_sem,e0,e1,e5,hp]
  refine⟨fun h=> ?_,fun h=> ?_⟩
  ·simp[hne (by simpa using h)]
  ·simpa using hst (by simpa using h)
 ·rintro env τ e5 c0 ⟨e0,e1,he,hp⟩
  rw[List.take_length,hlm,List.take_length] at he
  simp +contextual (disch:=omega) only[go_sem,c0,e0,e1,e5,hv.len,hu.len,hp]
  simp[he]
end Go.Proofs.YtffnefmklckngaaGreat.Sy
namespace Go.Proofs.YtffnefmklckngaaGreat.Sy
open Go Go.RowKit
set_option linter.unusedSimpArgs false
set_option linter.unusedVariables false
abbrev n_l_eqIntS:Nat:=84
def F_l_eqIntS:Fn1:=⟨26,[.t 4],(.seq (.reg [o 4 (.mov (.k (.bool false)))]) (.seq (.seq (.reg [o 6 (.mov (.t 0)),o 7 (.len false (.t 6)),o 8 (.mov (.t 1)),o 9 (.len false (.t 8)),o 10 (.bin .neq (.t 7) (.t 9))]) (.cnd (.t 10) (.seq (.reg [o 4 (.mov (.k (.bool false)))]) .ret) .skip)) (.seq (.seq (.reg [o 5 (.mov (.k (.int .i64 0)))]) (.blk 0 (.lop (.seq (.seq (.reg [o 11 (.mov (.t 5)),o 12 (.mov (.t 0)),o 13 (.len false (.t 12)),o 14 (.bin .lss (.t 11) (.t 13))]) (.cnd (.t 14) .skip (.ext 0))) (.seq (.blk 1 (.seq (.drw [o 17 (.mov (.t 0)),o 18 (.mov (.t 5)),o 19 (.iad 1 (.t 17) (.t 18)),o 20 (.ld false 1 (.t 19)),o 21 (.mov (.t 1)),o 22 (.mov (.t 5)),o 23 (.iad 1 (.t 21) (.t 22)),o 24 (.ld false 1 (.t 23))] [o 25 (.bin .neq (.t 20) (.t 24))]) (.cnd (.t 25) (.seq (.reg [o 4 (.mov (.k (.bool false)))]) .ret) .skip))) (.reg [o 15 (.mov (.t 5)),o 16 (.bin .add (.t 15) (.k (.int .i64 1))),o 5 (.mov (.t 16))])))))) (.seq (.reg [o 4 (.mov (.k (.bool true)))]) .ret))))⟩
theorem ir_l_eqIntS:compFn Tryz.prog n_l_eqIntS=some F_l_eqIntS:=by kernel_rfl
theorem l_eqIntS_ret (σ:St) (v u:GV) (l m:List Int) (hv:RS pI.kd σ v l) (hu:RS pI.kd σ u m) (hl:l.length≤1099511627776):Ret Tryz.prog n_l_eqIntS [v,u] σ (.bool (decide (l=m))) σ:=by
 refine ret_eq ir_l_eqIntS (Nat.le_of_ble_eq_true rfl) trivial ?_
 simp +contextual (disch:=omega) only[go_sem,F_l_eqIntS,hv.len,hu.len]
 refine⟨fun hn=> ?_,fun hn=> ?_⟩
 ·have:l≠m:=fun h=>by subst h;simp at hn
  simp[this]
 have hlm:l.length=m.length:=by
                    have h2:(l.length:Int)=m.length:=by simpa using hn
                    omega
 refine vc_for l.length 5 (fun i env τ=>env 0=v∧env 1=u∧l.take i=m.take i∧σ <+: τ) rfl ⟨rfl,rfl,rfl,List.prefix_refl _⟩ ?_ ?_
 ·rintro i env τ hi e5 c0 ⟨e0,e1,he,hp⟩
  have hj:i<m.length:=by omega
  have h1:=hv.pre hp
  have h2:=hu.pre hp
  have hne:l[i]≠m[i]→l≠m:=fun h h'=>h (by subst h';rfl)
  have hst:l[i]=m[i]→l.take (i+1)=m.take (i+1):=fun h=>by rw[take_snoc hi,take_snoc hj,he,h]
  simp +contextual (disch:=omega) only[go_sem,c0,e0,e1,e5,hv.len,hu.len,int_at h1 hi,int_at h2 hj,hp]
  refine⟨fun h=> ?_,fun h=> ?_⟩
  ·simp[hne (by simpa using h)]
  ·simpa using hst (by simpa using h)
 ·rintro env τ e5 c0 ⟨e0,e1,he,hp⟩
  rw[List.take_length,hlm,List.take_length] at he
  simp +contextual (disch:=omega) only[go_sem,c0,e0,e1,e5,hv.len,hu.len,hp]
  simp[he]
end Go.Proofs.YtffnefmklckngaaGreat.Sy
namespace Go.Proofs.YtffnefmklckngaaGreat.Sy
open Go Go.RowKit
set_option linter.unusedSimpArgs false
set_option linter.unusedVariables false
abbrev n_l_eqLive:Nat:=136
def F_l_eqLive:Fn1:=⟨31,[.t 4],(.seq (.reg [o 2 (.box (.t 0)),o 3 (.box (.t 1)),o 4 (.mov (.k (.bool false)))]) (.seq (.seq (.reg [o 5 (.fad 0 (.t 2)),o 6 (.ld false 1 (.t 5)),o 7 (.fad 0 (.t 3)),o 8 (.ld false 1 (.t 7)),o 9 (.eqb true (.t 6) (.t 8))]) (.cnd (.t 9) (.seq (.reg [o 4 (.mov (.k (.bool false)))]) .ret) .skip)) (.seq (.seq (.reg [o 10 (.fad 1 (.t 2)),o 11 (.ld false 1 (.t 10)),o 12 (.fad 1 (.t 3)),o 13 (.ld false 1 (.t 12)),o 14 (.bin .neq (.t 11) (.t 13))]) (.cnd (.t 14) (.seq (.reg [o 4 (.mov (.k (.bool false)))]) .ret) .skip)) (.seq (.seq (.reg [o 15 (.fad 2 (.t 2)),o 16 (.ld false 1 (.t 15)),o 17 (.fad 2 (.t 3)),o 18 (.ld false 1 (.t 17)),o 19 (.bin .neq (.t 16) (.t 18))]) (.cnd (.t 19) (.seq (.reg [o 4 (.mov (.k (.bool false)))]) .ret) .skip)) (.seq (.seq (.reg [o 20 (.fad 3 (.t 2)),o 21 (.ld false 1 (.t 20)),o 22 (.fad 3 (.t 3)),o 23 (.ld false 1 (.t 22)),o 24 (.bin .neq (.t 21) (.t 23))]) (.cnd (.t 24) (.seq (.reg [o 4 (.mov (.k (.bool false)))]) .ret) .skip)) (.seq (.seq (.reg [o 25 (.fad 4 (.t 2)),o 26 (.ld true 2 (.t 25)),o 27 (.fad 4 (.t 3)),o 28 (.ld true 2 (.t 27)),o 29 (.call 114 [(.t 26),(.t 28)]),o 30 (.un .not (.t 29))]) (.cnd (.t 30) (.seq (.reg [o 4 (.mov (.k (.bool false)))]) .ret) .skip)) (.seq (.reg [o 4 (.mov (.k (.bool true)))]) .ret)))))))⟩
theorem ir_l_eqLive:compFn Tryz.prog n_l_eqLive=some F_l_eqLive:=by kernel_rfl
theorem l_eqLive_ret (σ:St) (x y:Live):Ret Tryz.prog n_l_eqLive [.agg [.bool x.map,.str x.obj,.str x.key,.int .i64 x.val,.int .i64 x.dot.rep,.int .i64 x.dot.seq],.agg [.bool y.map,.str y.obj,.str y.key,.int .i64 y.val,.int .i64 y.dot.rep,.int .i64 y.dot.seq]] σ (.bool (decide (x=y))) σ:=by
 refine ret_eq ir_l_eqLive (Nat.le_of_ble_eq_true rfl) trivial ?_
 simp +contextual (disch:=omega) only[go_sem,F_l_eqLive,List.append_nil]
 refine⟨fun hn=> ?_,fun hn=> ?_⟩
 ·simp only[Live.eq_iff];simp at hn ⊢;simp[hn]
 have q0:x.map=y.map:=by simpa using hn
 refine⟨fun hn=> ?_,fun hn=> ?_⟩
 ·simp only[Live.eq_iff];simp at hn ⊢;simp[hn]
 have q1:x.obj=y.obj:=by simpa using hn
 refine⟨fun hn=> ?_,fun hn=> ?_⟩
 ·simp only[Live.eq_iff];simp at hn ⊢;simp[hn]
 have q2:x.key=y.key:=by simpa using hn
 refine⟨fun hn=> ?_,fun hn=> ?_⟩
 ·simp only[Live.eq_iff];simp at hn ⊢;simp[hn]
 have q3:x.val=y.val:=by simpa using hn
 refine by_ret (l_eqDot_ret _ x.dot y.dot) ?_
 simp +contextual (disch:=omega) only[go_sem,List.append_nil]
 refine⟨fun hn=> ?_,fun hn=> ?_⟩
 ·simp only[Live.eq_iff];simp at hn ⊢;simp[hn]
 have q4:x.dot=y.dot:=by simpa using hn
 simp only[Live.eq_iff,q0,q1,q2,q3,q4,and_self,decide_true]
end Go.Proofs.YtffnefmklckngaaGreat.Sy
namespace Go.Proofs.YtffnefmklckngaaGreat.Sy
open Go Go.RowKit
set_option linter.unusedSimpArgs false
set_option linter.unusedVariables false
abbrev n_l_eqLiveS:Nat:=86
def F_l_eqLiveS:Fn1:=⟨27,[.t 4],(.seq (.reg [o 4 (.mov (.k (.bool false)))]) (.seq (.seq (.reg [o 6 (.mov (.t 0)),o 7 (.len false (.t 6)),o 8 (.mov (.t 1)),o 9 (.len false (.t 8)),o 10 (.bin .neq (.t 7) (.t 9))]) (.cnd (.t 10) (.seq (.reg [o 4 (.mov (.k (.bool false)))]) .ret) .skip)) (.seq (.seq (.reg [o 5 (.mov (.k (.int .i64 0)))]) (.blk 0 (.lop (.seq (.seq (.reg [o 11 (.mov (.t 5)),o 12 (.mov (.t 0)),o 13 (.len false (.t 12)),o 14 (.bin .lss (.t 11) (.t 13))]) (.cnd (.t 14) .skip (.ext 0))) (.seq (.blk 1 (.seq (.drw [o 17 (.mov (.t 0)),o 18 (.mov (.t 5)),o 19 (.iad 6 (.t 17) (.t 18)),o 20 (.ld true 6 (.t 19)),o 21 (.mov (.t 1)),o 22 (.mov (.t 5)),o 23 (.iad 6 (.t 21) (.t 22)),o 24 (.ld true 6 (.t 23))] [o 25 (.call 136 [(.t 20),(.t 24)]),o 26 (.un .not (.t 25))]) (.cnd (.t 26) (.seq (.reg [o 4 (.mov (.k (.bool false)))]) .ret) .skip))) (.reg [o 15 (.mov (.t 5)),o 16 (.bin .add (.t 15) (.k (.int .i64 1))),o 5 (.mov (.t 16))])))))) (.seq (.reg [o 4 (.mov (.k (.bool true)))]) .ret))))⟩
theorem ir_l_eqLiveS:compFn Tryz.prog n_l_eqLiveS=some F_l_eqLiveS:=by kernel_rfl
theorem l_eqLiveS_ret (σ:St) (v u:GV) (l m:List Live) (hv:RS pLive.kd σ v l) (hu:RS pLive.kd σ u m) (hl:(l.length+sumL msLive l)≤1099511627776):Ret Tryz.prog n_l_eqLiveS [v,u] σ (.bool (decide (l=m))) σ:=by
 refine ret_eq ir_l_eqLiveS (Nat.le_of_ble_eq_true rfl) trivial ?_
 simp +contextual (disch:=omega) only[go_sem,F_l_eqLiveS,hv.len,hu.len]
 refine⟨fun hn=> ?_,fun hn=> ?_⟩
 ·have:l≠m:=fun h=>by subst h;simp at hn
  simp[this]
 have hlm:l.length=m.length:=by
                    have h2:(l.length:Int)=m.length:=by simpa using hn
                    omega
 refine vc_for l.length 5 (fun i env τ=>env 0=v∧env 1=u∧l.take i=m.take i∧σ <+: τ) rfl ⟨rfl,rfl,rfl,List.prefix_refl _⟩ ?_ ?_
 ·rintro i env τ hi e5 c0 ⟨e0,e1,he,hp⟩
  have hj:i<m.length:=by omega
  have h1:=hv.pre hp
  have h2:=hu.pre hp
  have hne:l[i]≠m[i]→l≠m:=fun h h'=>h (by subst h';rfl)
  have hst:l[i]=m[i]→l.take (i+1)=m.take (i+1):=fun h=>by rw[take_snoc hi,take_snoc hj,he,h]
  have hms:msLive l[i]≤sumL msLive l:=sumL_mem (List.getElem_mem hi)
  simp +contextual (disch:=omega) only[go_sem,c0,e0,e1,e5,hv.len,hu.len,Live_at h1 hi,Live_at h2 hj]
  refine by_ret (l_eqLive_ret τ l[i] m[i]) ?_
  simp +contextual (disch:=omega) only[go_sem,e0,e1,e5,hp]
  refine⟨fun h=> ?_,fun h=> ?_⟩
  ·simp[hne (by simpa using h)]
  ·simpa using hst (by simpa using h)
 ·rintro env τ e5 c0 ⟨e0,e1,he,hp⟩
  rw[List.take_length,hlm,List.take_length] at he
  simp +contextual (disch:=omega) only[go_sem,c0,e0,e1,e5,hv.len,hu.len,hp]
  simp[he]
end Go.Proofs.YtffnefmklckngaaGreat.Sy
namespace Go.Proofs.YtffnefmklckngaaGreat.Sy
open Go Go.RowKit
set_option linter.unusedSimpArgs false
set_option linter.unusedVariables false
abbrev n_l_eqTally:Nat:=135
def F_l_eqTally:Fn1:=⟨20,[.t 4],(.seq (.reg [o 2 (.box (.t 0)),o 3 (.box (.t 1)),o 4 (.mov (.k (.bool false)))]) (.seq (.seq (.reg [o 5 (.fad 0 (.t 2)),o 6 (.ld false 1 (.t 5)),o 7 (.fad 0 (.t 3)),o 8 (.ld false 1 (.t 7)),o 9 (.bin .neq (.t 6) (.t 8))]) (.cnd (.t 9) (.seq (.reg [o 4 (.mov (.k (.bool false)))]) .ret) .skip)) (.seq (.seq (.reg [o 10 (.fad 1 (.t 2)),o 11 (.ld false 1 (.t 10)),o 12 (.fad 1 (.t 3)),o 13 (.ld false 1 (.t 12)),o 14 (.bin .neq (.t 11) (.t 13))]) (.cnd (.t 14) (.seq (.reg [o 4 (.mov (.k (.bool false)))]) .ret) .skip)) (.seq (.seq (.reg [o 15 (.fad 2 (.t 2)),o 16 (.ld false 1 (.t 15)),o 17 (.fad 2 (.t 3)),o 18 (.ld false 1 (.t 17)),o 19 (.bin .neq (.t 16) (.t 18))]) (.cnd (.t 19) (.seq (.reg [o 4 (.mov (.k (.bool false)))]) .ret) .skip)) (.seq (.reg [o 4 (.mov (.k (.bool true)))]) .ret)))))⟩
theorem ir_l_eqTally:compFn Tryz.prog n_l_eqTally=some F_l_eqTally:=by kernel_rfl
theorem l_eqTally_ret (σ:St) (x y:Tally):Ret Tryz.prog n_l_eqTally [.agg [.str x.obj,.int .i64 x.rep,.int .i64 x.sum],.agg [.str y.obj,.int .i64 y.rep,.int .i64 y.sum]] σ (.bool (decide (x=y))) σ:=by
 refine ret_eq ir_l_eqTally (Nat.le_of_ble_eq_true rfl) trivial ?_
 simp +contextual (disch:=omega) only[go_sem,F_l_eqTally,List.append_nil]
 refine⟨fun hn=> ?_,fun hn=> ?_⟩
 ·simp only[Tally.eq_iff];simp at hn ⊢;simp[hn]
 have q0:x.obj=y.obj:=by simpa using hn
 refine⟨fun hn=> ?_,fun hn=> ?_⟩
 ·simp only[Tally.eq_iff];simp at hn ⊢;simp[hn]
 have q1:x.rep=y.rep:=by simpa using hn
 refine⟨fun hn=> ?_,fun hn=> ?_⟩
 ·simp only[Tally.eq_iff];simp at hn ⊢;simp[hn]
 have q2:x.sum=y.sum:=by simpa using hn
 simp only[Tally.eq_iff,q0,q1,q2,and_self,decide_true]
end Go.Proofs.YtffnefmklckngaaGreat.Sy
namespace Go.Proofs.YtffnefmklckngaaGreat.Sy
open Go Go.RowKit
set_option linter.unusedSimpArgs false
set_option linter.unusedVariables false
abbrev n_l_eqTallyS:Nat:=85
def F_l_eqTallyS:Fn1:=⟨27,[.t 4],(.seq (.reg [o 4 (.mov (.k (.bool false)))]) (.seq (.seq (.reg [o 6 (.mov (.t 0)),o 7 (.len false (.t 6)),o 8 (.mov (.t 1)),o 9 (.len false (.t 8)),o 10 (.bin .neq (.t 7) (.t 9))]) (.cnd (.t 10) (.seq (.reg [o 4 (.mov (.k (.bool false)))]) .ret) .skip)) (.seq (.seq (.reg [o 5 (.mov (.k (.int .i64 0)))]) (.blk 0 (.lop (.seq (.seq (.reg [o 11 (.mov (.t 5)),o 12 (.mov (.t 0)),o 13 (.len false (.t 12)),o 14 (.bin .lss (.t 11) (.t 13))]) (.cnd (.t 14) .skip (.ext 0))) (.seq (.blk 1 (.seq (.drw [o 17 (.mov (.t 0)),o 18 (.mov (.t 5)),o 19 (.iad 3 (.t 17) (.t 18)),o 20 (.ld true 3 (.t 19)),o 21 (.mov (.t 1)),o 22 (.mov (.t 5)),o 23 (.iad 3 (.t 21) (.t 22)),o 24 (.ld true 3 (.t 23))] [o 25 (.call 135 [(.t 20),(.t 24)]),o 26 (.un .not (.t 25))]) (.cnd (.t 26) (.seq (.reg [o 4 (.mov (.k (.bool false)))]) .ret) .skip))) (.reg [o 15 (.mov (.t 5)),o 16 (.bin .add (.t 15) (.k (.int .i64 1))),o 5 (.mov (.t 16))])))))) (.seq (.reg [o 4 (.mov (.k (.bool true)))]) .ret))))⟩
theorem ir_l_eqTallyS:compFn Tryz.prog n_l_eqTallyS=some F_l_eqTallyS:=by kernel_rfl
theorem l_eqTallyS_ret (σ:St) (v u:GV) (l m:List Tally) (hv:RS pTally.kd σ v l) (hu:RS pTally.kd σ u m) (hl:(l.length+sumL msTally l)≤1099511627776):Ret Tryz.prog n_l_eqTallyS [v,u] σ (.bool (decide (l=m))) σ:=by
 refine ret_eq ir_l_eqTallyS (Nat.le_of_ble_eq_true rfl) trivial ?_
 simp +contextual (disch:=omega) only[go_sem,F_l_eqTallyS,hv.len,hu.len]
 refine⟨fun hn=> ?_,fun hn=> ?_⟩
 ·have:l≠m:=fun h=>by subst h;simp at hn
  simp[this]
 have hlm:l.length=m.length:=by
                    have h2:(l.length:Int)=m.length:=by simpa using hn
                    omega
 refine vc_for l.length 5 (fun i env τ=>env 0=v∧env 1=u∧l.take i=m.take i∧σ <+: τ) rfl ⟨rfl,rfl,rfl,List.prefix_refl _⟩ ?_ ?_
 ·rintro i env τ hi e5 c0 ⟨e0,e1,he,hp⟩
  have hj:i<m.length:=by omega
  have h1:=hv.pre hp
  have h2:=hu.pre hp
  have hne:l[i]≠m[i]→l≠m:=fun h h'=>h (by subst h';rfl)
  have hst:l[i]=m[i]→l.take (i+1)=m.take (i+1):=fun h=>by rw[take_snoc hi,take_snoc hj,he,h]
  have hms:msTally l[i]≤sumL msTally l:=sumL_mem (List.getElem_mem hi)
  simp +contextual (disch:=omega) only[go_sem,c0,e0,e1,e5,hv.len,hu.len,Tally_at h1 hi,Tally_at h2 hj]
  refine by_ret (l_eqTally_ret τ l[i] m[i]) ?_
  simp +contextual (disch:=omega) only[go_sem,e0,e1,e5,hp]
  refine⟨fun h=> ?_,fun h=> ?_⟩
  ·simp[hne (by simpa using h)]
  ·simpa using hst (by simpa using h)
 ·rintro env τ e5 c0 ⟨e0,e1,he,hp⟩
  rw[List.take_length,hlm,List.take_length] at he
  simp +contextual (disch:=omega) only[go_sem,c0,e0,e1,e5,hv.len,hu.len,hp]
  simp[he]
end Go.Proofs.YtffnefmklckngaaGreat.Sy
namespace Go.Proofs.YtffnefmklckngaaGreat.Sy
open Go Go.RowKit
set_option linter.unusedSimpArgs false
set_option linter.unusedVariables false
abbrev n_l_eqState:Nat:=24
def F_l_eqState:Fn1:=⟨29,[.t 4],(.seq (.reg [o 2 (.box (.t 0)),o 3 (.box (.t 1)),o 4 (.mov (.k (.bool false)))]) (.seq (.seq (.reg [o 5 (.fad 0 (.t 2)),o 6 (.ld false 1 (.t 5)),o 7 (.fad 0 (.t 3)),o 8 (.ld false 1 (.t 7)),o 9 (.call 84 [(.t 6),(.t 8)]),o 10 (.un .not (.t 9))]) (.cnd (.t 10) (.seq (.reg [o 4 (.mov (.k (.bool false)))]) .ret) .skip)) (.seq (.seq (.reg [o 11 (.fad 1 (.t 2)),o 12 (.ld false 1 (.t 11)),o 13 (.fad 1 (.t 3)),o 14 (.ld false 1 (.t 13)),o 15 (.call 85 [(.t 12),(.t 14)]),o 16 (.un .not (.t 15))]) (.cnd (.t 16) (.seq (.reg [o 4 (.mov (.k (.bool false)))]) .ret) .skip)) (.seq (.seq (.reg [o 17 (.fad 2 (.t 2)),o 18 (.ld false 1 (.t 17)),o 19 (.fad 2 (.t 3)),o 20 (.ld false 1 (.t 19)),o 21 (.call 86 [(.t 18),(.t 20)]),o 22 (.un .not (.t 21))]) (.cnd (.t 22) (.seq (.reg [o 4 (.mov (.k (.bool false)))]) .ret) .skip)) (.seq (.seq (.reg [o 23 (.fad 3 (.t 2)),o 24 (.ld false 1 (.t 23)),o 25 (.fad 3 (.t 3)),o 26 (.ld false 1 (.t 25)),o 27 (.call 87 [(.t 24),(.t 26)]),o 28 (.un .not (.t 27))]) (.cnd (.t 28) (.seq (.reg [o 4 (.mov (.k (.bool false)))]) .ret) .skip)) (.seq (.reg [o 4 (.mov (.k (.bool true)))]) .ret))))))⟩
theorem ir_l_eqState:compFn Tryz.prog n_l_eqState=some F_l_eqState:=by kernel_rfl
theorem l_eqState_ret (σ:St) (cs ds:List GV) (x y:State) (hx:kState.R σ x cs) (hy:kState.R σ y ds) (hl:msState x≤1099511627776):Ret Tryz.prog n_l_eqState [.agg cs,.agg ds] σ (.bool (decide (x=y))) σ:=by
 obtain⟨v0,v1,v2,v3,rfl,q0_,q1_,q2_,q3_⟩:=hx
 obtain⟨u0,u1,u2,u3,rfl,p0_,p1_,p2_,p3_⟩:=hy
 unfold msState at hl
 refine ret_eq ir_l_eqState (Nat.le_of_ble_eq_true rfl) trivial ?_
 simp +contextual (disch:=omega) only[go_sem,F_l_eqState,List.append_nil]
 refine by_ret (l_eqIntS_ret _ v0 u0 x.know y.know (q0_.pre pre2) (p0_.pre pre2) (by omega)) ?_
 simp +contextual (disch:=omega) only[go_sem,List.append_nil]
 refine⟨fun hn=> ?_,fun hn=> ?_⟩
 ·simp only[State.eq_iff];simp at hn ⊢;simp[hn]
 have q0:x.know=y.know:=by simpa using hn
 refine by_ret (l_eqTallyS_ret _ v1 u1 x.tallies y.tallies (q1_.pre pre2) (p1_.pre pre2) (by omega)) ?_
 simp +contextual (disch:=omega) only[go_sem,List.append_nil]
 refine⟨fun hn=> ?_,fun hn=> ?_⟩
 ·simp only[State.eq_iff];simp at hn ⊢;simp[hn]
 have q1:x.tallies=y.tallies:=by simpa using hn
 refine by_ret (l_eqLiveS_ret _ v2 u2 x.lives y.lives (q2_.pre pre2) (p2_.pre pre2) (by omega)) ?_
 simp +contextual (disch:=omega) only[go_sem,List.append_nil]
 refine⟨fun hn=> ?_,fun hn=> ?_⟩
 ·simp only[State.eq_iff];simp at hn ⊢;simp[hn]
 have q2:x.lives=y.lives:=by simpa using hn
 refine by_ret (l_eqCellS_ret _ v3 u3 x.cells y.cells (q3_.pre pre2) (p3_.pre pre2) (by omega)) ?_
 simp +contextual (disch:=omega) only[go_sem,List.append_nil]
 refine⟨fun hn=> ?_,fun hn=> ?_⟩
 ·simp only[State.eq_iff];simp at hn ⊢;simp[hn]
 have q3:x.cells=y.cells:=by simpa using hn
 simp only[State.eq_iff,q0,q1,q2,q3,and_self,decide_true]
end Go.Proofs.YtffnefmklckngaaGreat.Sy
namespace Go.Proofs.YtffnefmklckngaaGreat.Sy
open Go Go.RowKit
set_option linter.unusedSimpArgs false
set_option linter.unusedVariables false
def mInt (k:Int):Int:=k
def mString (k:Int):ByteArray:=mtx k
def mDot (k:Int):Dot:=⟨k,k+1⟩
def mTally (k:Int):Tally:=⟨mtx (k),k+1,k+1+1⟩
def mLive (k:Int):Live:=⟨((k).tmod 3==0),mtx (k+1),mtx (k+1+1),k+1+1+1,⟨k+1+1+1+1,k+1+1+1+1+1⟩⟩
def mCell (k:Int):Cell:=⟨mtx (k),⟨k+1,k+1+1⟩,k+1+1+1,⟨k+1+1+1+1,k+1+1+1+1+1⟩,k+1+1+1+1+1+1,((k+1+1+1+1+1+1+1).tmod 3==0)⟩
def mEdit (k:Int):Edit:=⟨k,mtx (k+1),mtx (k+1+1),k+1+1+1,k+1+1+1+1⟩
def mWatch (k:Int):Watch:=⟨k,mtx (k+1),mtx (k+1+1)⟩
def mClash (k:Int):Clash:=⟨mtx (k),mtx (k+1)⟩
def mFile (k:Int):File:=⟨mtx (k),k+1⟩
def mLetter (k:Int):Letter:=⟨k,mtx (k+1)⟩
def mEvent (k:Int):Event:=⟨k,k+1,k+1+1,⟨k+1+1+1,mtx (k+1+1+1+1),mtx (k+1+1+1+1+1),k+1+1+1+1+1+1,k+1+1+1+1+1+1+1⟩⟩
end Go.Proofs.YtffnefmklckngaaGreat.Sy
namespace Go.Proofs.YtffnefmklckngaaGreat.Sy
open Go Go.RowKit
set_option linter.unusedSimpArgs false
set_option linter.unusedVariables false
def ctState (x:State):Nat:=1*x.know.length+3*x.tallies.length+6*x.lives.length+8*x.cells.length
def mkState (k:Int) (x:State):State:={x with know:=(mkF mInt 1 (k) x.know.length),tallies:=(mkF mTally 3 (k+1*(x.know.length:Int)) x.tallies.length),lives:=(mkF mLive 6 (k+1*(x.know.length:Int)+3*(x.tallies.length:Int)) x.lives.length),cells:=(mkF mCell 8 (k+1*(x.know.length:Int)+3*(x.tallies.length:Int)+6*(x.lives.length:Int)) x.cells.length)}
theorem ctState_le (x:State):ctState x≤10*msState x:=by
 unfold ctState msState;omega
def ctAct (x:Act):Nat:=1*x.knew.length
def mkAct (k:Int) (x:Act):Act:={x with knew:=(mkF mInt 1 (k) x.knew.length)}
def ctDelta (x:Delta):Nat:=1*x.base.length+1*x.know.length+3*x.tallies.length+6*x.lives.length+2*x.dead.length+8*x.cells.length
def mkDelta (k:Int) (x:Delta):Delta:={x with base:=(mkF mInt 1 (k) x.base.length),know:=(mkF mInt 1 (k+1*(x.base.length:Int)) x.know.length),tallies:=(mkF mTally 3 (k+1*(x.base.length:Int)+1*(x.know.length:Int)) x.tallies.length),lives:=(mkF mLive 6 (k+1*(x.base.length:Int)+1*(x.know.length:Int)+3*(x.tallies.length:Int)) x.lives.length),dead:=(mkF mDot 2 (k+1*(x.base.length:Int)+1*(x.know.length:Int)+3*(x.tallies.length:Int)+6*(x.lives.length:Int)) x.dead.length),cells:=(mkF mCell 8 (k+1*(x.base.length:Int)+1*(x.know.length:Int)+3*(x.tallies.length:Int)+6*(x.lives.length:Int)+2*(x.dead.length:Int)) x.cells.length)}
end Go.Proofs.YtffnefmklckngaaGreat.Sy
namespace Go.Proofs.YtffnefmklckngaaGreat.Sy
open Go Go.RowKit
set_option linter.unusedSimpArgs false
set_option linter.unusedVariables false
abbrev n_l_heldCellS:Nat:=61
def F_l_heldCellS:Fn1:=⟨92,[.t 4],(.seq (.reg [o 4 (.mov (.k (.int .i64 0)))]) (.seq (.seq (.reg [o 5 (.mov (.k (.int .i64 0)))]) (.blk 0 (.lop (.seq (.seq (.reg [o 6 (.mov (.t 5)),o 7 (.mov (.t 0)),o 8 (.len false (.t 7)),o 9 (.bin .lss (.t 6) (.t 8))]) (.cnd (.t 9) .skip (.ext 0))) (.seq (.blk 1 (.seq (.seq (.drw [o 12 (.mov (.t 0)),o 13 (.mov (.t 5)),o 14 (.iad 8 (.t 12) (.t 13)),o 15 (.fad 0 (.t 14)),o 16 (.ld false 1 (.t 15)),o 17 (.mov (.t 1)),o 18 (.call 44 [(.t 17)])] [o 19 (.bin .neq (.t 16) (.t 18))]) (.cnd (.t 19) (.seq (.reg [o 4 (.mov (.k (.int .i64 (-1))))]) .ret) .skip)) (.seq (.reg [o 20 (.mov (.t 1)),o 21 (.bin .add (.t 20) (.k (.int .i64 1))),o 1 (.mov (.t 21))]) (.seq (.seq (.reg [o 22 (.mov (.t 0)),o 23 (.mov (.t 5)),o 24 (.iad 8 (.t 22) (.t 23)),o 25 (.fad 1 (.t 24)),o 26 (.fad 0 (.t 25)),o 27 (.ld false 1 (.t 26)),o 28 (.mov (.t 1)),o 29 (.bin .neq (.t 27) (.t 28))]) (.cnd (.t 29) (.seq (.reg [o 4 (.mov (.k (.int .i64 (-1))))]) .ret) .skip)) (.seq (.reg [o 30 (.mov (.t 1)),o 31 (.bin .add (.t 30) (.k (.int .i64 1))),o 1 (.mov (.t 31))]) (.seq (.seq (.reg [o 32 (.mov (.t 0)),o 33 (.mov (.t 5)),o 34 (.iad 8 (.t 32) (.t 33)),o 35 (.fad 1 (.t 34)),o 36 (.fad 1 (.t 35)),o 37 (.ld false 1 (.t 36)),o 38 (.mov (.t 1)),o 39 (.bin .neq (.t 37) (.t 38))]) (.cnd (.t 39) (.seq (.reg [o 4 (.mov (.k (.int .i64 (-1))))]) .ret) .skip)) (.seq (.reg [o 40 (.mov (.t 1)),o 41 (.bin .add (.t 40) (.k (.int .i64 1))),o 1 (.mov (.t 41))]) (.seq (.seq (.reg [o 42 (.mov (.t 0)),o 43 (.mov (.t 5)),o 44 (.iad 8 (.t 42) (.t 43)),o 45 (.fad 3 (.t 44)),o 46 (.ld false 1 (.t 45)),o 47 (.mov (.t 1)),o 48 (.bin .neq (.t 46) (.t 47))]) (.cnd (.t 48) (.seq (.reg [o 4 (.mov (.k (.int .i64 (-1))))]) .ret) .skip)) (.seq (.reg [o 49 (.mov (.t 1)),o 50 (.bin .add (.t 49) (.k (.int .i64 1))),o 1 (.mov (.t 50))]) (.seq (.seq (.reg [o 51 (.mov (.t 0)),o 52 (.mov (.t 5)),o 53 (.iad 8 (.t 51) (.t 52)),o 54 (.fad 4 (.t 53)),o 55 (.fad 0 (.t 54)),o 56 (.ld false 1 (.t 55)),o 57 (.mov (.t 1)),o 58 (.bin .neq (.t 56) (.t 57))]) (.cnd (.t 58) (.seq (.reg [o 4 (.mov (.k (.int .i64 (-1))))]) .ret) .skip)) (.seq (.reg [o 59 (.mov (.t 1)),o 60 (.bin .add (.t 59) (.k (.int .i64 1))),o 1 (.mov (.t 60))]) (.seq (.seq (.reg [o 61 (.mov (.t 0)),o 62 (.mov (.t 5)),o 63 (.iad 8 (.t 61) (.t 62)),o 64 (.fad 4 (.t 63)),o 65 (.fad 1 (.t 64)),o 66 (.ld false 1 (.t 65)),o 67 (.mov (.t 1)),o 68 (.bin .neq (.t 66) (.t 67))]) (.cnd (.t 68) (.seq (.reg [o 4 (.mov (.k (.int .i64 (-1))))]) .ret) .skip)) (.seq (.reg [o 69 (.mov (.t 1)),o 70 (.bin .add (.t 69) (.k (.int .i64 1))),o 1 (.mov (.t 70))]) (.seq (.seq (.reg [o 71 (.mov (.t 0)),o 72 (.mov (.t 5)),o 73 (.iad 8 (.t 71) (.t 72)),o 74 (.fad 6 (.t 73)),o 75 (.ld false 1 (.t 74)),o 76 (.mov (.t 1)),o 77 (.bin .neq (.t 75) (.t 76))]) (.cnd (.t 77) (.seq (.reg [o 4 (.mov (.k (.int .i64 (-1))))]) .ret) .skip)) (.seq (.reg [o 78 (.mov (.t 1)),o 79 (.bin .add (.t 78) (.k (.int .i64 1))),o 1 (.mov (.t 79))]) (.seq (.seq (.reg [o 80 (.mov (.t 0)),o 81 (.mov (.t 5)),o 82 (.iad 8 (.t 80) (.t 81)),o 83 (.fad 7 (.t 82)),o 84 (.ld false 1 (.t 83)),o 85 (.mov (.t 1)),o 86 (.bin .rem (.t 85) (.k (.int .i64 3))),o 87 (.bin .eql (.t 86) (.k (.int .i64 0))),o 88 (.eqb true (.t 84) (.t 87))]) (.cnd (.t 88) (.seq (.reg [o 4 (.mov (.k (.int .i64 (-1))))]) .ret) .skip)) (.reg [o 89 (.mov (.t 1)),o 90 (.bin .add (.t 89) (.k (.int .i64 1))),o 1 (.mov (.t 90))]))))))))))))))))) (.reg [o 10 (.mov (.t 5)),o 11 (.bin .add (.t 10) (.k (.int .i64 1))),o 5 (.mov (.t 11))])))))) (.seq (.reg [o 91 (.mov (.t 1)),o 4 (.mov (.t 91))]) .ret)))⟩
theorem ir_l_heldCellS:compFn Tryz.prog n_l_heldCellS=some F_l_heldCellS:=by kernel_rfl
theorem l_heldCellS_ret (σ:St) (v:GV) (n:Nat) (k:Int) (hR:RS pCell.kd σ v (mkF mCell 8 k n)) (h0:0≤k) (hk:k+8*n≤4611686018427387904):Ret Tryz.prog n_l_heldCellS [v,gi k] σ (gi (k+8*n)) σ:=by
 refine ret_eq ir_l_heldCellS (Nat.le_of_ble_eq_true rfl) trivial ?_
 have hln:=hR.len
 rw[mkF_length] at hln
 simp +contextual (maxSteps:=600000) (disch:=omega) only[go_sem,F_l_heldCellS]
 refine vc_for n 5 (fun i env τ=>env 0=v∧env 1=gi (k+8*(i:Int))∧σ <+: τ) rfl ⟨rfl,(by show gi k=gi (k+8*0);simp),List.prefix_refl _⟩ ?_ ?_
 ·rintro i env τ hi e5 c0 ⟨e0,e1,hp⟩
  have hj:i<(mkF mCell 8 k n).length:=by rw[mkF_length];exact hi
  have hat:=Cell_at (hR.pre hp) hj
  simp only[mkF_get,mCell] at hat
  simp +contextual (maxSteps:=600000) (disch:=omega) only[go_sem,c0,e0,e1,e5,hln,hat,hp,bne_self_eq_false,beq_self_eq_true]
  refine by_ret (l_markText_ret _ _ (by omega)) ?_
  simp +contextual (maxSteps:=600000) (disch:=omega) only[go_sem,c0,e0,e1,e5,hln,hat,hp,bne_self_eq_false,beq_self_eq_true]
  omega
 ·rintro env τ e5 c0 ⟨e0,e1,hp⟩
  simp +contextual (maxSteps:=600000) (disch:=omega) only[go_sem,c0,e0,e1,e5,hln,hp]
end Go.Proofs.YtffnefmklckngaaGreat.Sy
namespace Go.Proofs.YtffnefmklckngaaGreat.Sy
open Go Go.RowKit
set_option linter.unusedSimpArgs false
set_option linter.unusedVariables false
abbrev n_l_heldIntS:Nat:=49
def F_l_heldIntS:Fn1:=⟨21,[.t 4],(.seq (.reg [o 4 (.mov (.k (.int .i64 0)))]) (.seq (.seq (.reg [o 5 (.mov (.k (.int .i64 0)))]) (.blk 0 (.lop (.seq (.seq (.reg [o 6 (.mov (.t 5)),o 7 (.mov (.t 0)),o 8 (.len false (.t 7)),o 9 (.bin .lss (.t 6) (.t 8))]) (.cnd (.t 9) .skip (.ext 0))) (.seq (.blk 1 (.seq (.seq (.reg [o 12 (.mov (.t 0)),o 13 (.mov (.t 5)),o 14 (.iad 1 (.t 12) (.t 13)),o 15 (.ld false 1 (.t 14)),o 16 (.mov (.t 1)),o 17 (.bin .neq (.t 15) (.t 16))]) (.cnd (.t 17) (.seq (.reg [o 4 (.mov (.k (.int .i64 (-1))))]) .ret) .skip)) (.reg [o 18 (.mov (.t 1)),o 19 (.bin .add (.t 18) (.k (.int .i64 1))),o 1 (.mov (.t 19))]))) (.reg [o 10 (.mov (.t 5)),o 11 (.bin .add (.t 10) (.k (.int .i64 1))),o 5 (.mov (.t 11))])))))) (.seq (.reg [o 20 (.mov (.t 1)),o 4 (.mov (.t 20))]) .ret)))⟩
theorem ir_l_heldIntS:compFn Tryz.prog n_l_heldIntS=some F_l_heldIntS:=by kernel_rfl
theorem l_heldIntS_ret (σ:St) (v:GV) (n:Nat) (k:Int) (hR:RS pI.kd σ v (mkF mInt 1 k n)) (h0:0≤k) (hk:k+1*n≤4611686018427387904):Ret Tryz.prog n_l_heldIntS [v,gi k] σ (gi (k+1*n)) σ:=by
 refine ret_eq ir_l_heldIntS (Nat.le_of_ble_eq_true rfl) trivial ?_
 have hln:=hR.len
 rw[mkF_length] at hln
 simp +contextual (disch:=omega) only[go_sem,F_l_heldIntS]
 refine vc_for n 5 (fun i env τ=>env 0=v∧env 1=gi (k+1*(i:Int))∧σ <+: τ) rfl ⟨rfl,(by show gi k=gi (k+1*0);simp),List.prefix_refl _⟩ ?_ ?_
 ·rintro i env τ hi e5 c0 ⟨e0,e1,hp⟩
  have hj:i<(mkF mInt 1 k n).length:=by rw[mkF_length];exact hi
  have hat:=int_at (hR.pre hp) hj
  simp only[mkF_get,mInt] at hat
  simp +contextual (disch:=omega) only[go_sem,c0,e0,e1,e5,hln,hat,hp,bne_self_eq_false,beq_self_eq_true]
  omega
 ·rintro env τ e5 c0 ⟨e0,e1,hp⟩
  simp +contextual (disch:=omega) only[go_sem,c0,e0,e1,e5,hln,hp]
end Go.Proofs.YtffnefmklckngaaGreat.Sy
namespace Go.Proofs.YtffnefmklckngaaGreat.Sy
open Go Go.RowKit
set_option linter.unusedSimpArgs false
set_option linter.unusedVariables false
abbrev n_l_heldLiveS:Nat:=59
def F_l_heldLiveS:Fn1:=⟨73,[.t 4],(.seq (.reg [o 4 (.mov (.k (.int .i64 0)))]) (.seq (.seq (.reg [o 5 (.mov (.k (.int .i64 0)))]) (.blk 0 (.lop (.seq (.seq (.reg [o 6 (.mov (.t 5)),o 7 (.mov (.t 0)),o 8 (.len false (.t 7)),o 9 (.bin .lss (.t 6) (.t 8))]) (.cnd (.t 9) .skip (.ext 0))) (.seq (.blk 1 (.seq (.seq (.reg [o 12 (.mov (.t 0)),o 13 (.mov (.t 5)),o 14 (.iad 6 (.t 12) (.t 13)),o 15 (.fad 0 (.t 14)),o 16 (.ld false 1 (.t 15)),o 17 (.mov (.t 1)),o 18 (.bin .rem (.t 17) (.k (.int .i64 3))),o 19 (.bin .eql (.t 18) (.k (.int .i64 0))),o 20 (.eqb true (.t 16) (.t 19))]) (.cnd (.t 20) (.seq (.reg [o 4 (.mov (.k (.int .i64 (-1))))]) .ret) .skip)) (.seq (.reg [o 21 (.mov (.t 1)),o 22 (.bin .add (.t 21) (.k (.int .i64 1))),o 1 (.mov (.t 22))]) (.seq (.seq (.drw [o 23 (.mov (.t 0)),o 24 (.mov (.t 5)),o 25 (.iad 6 (.t 23) (.t 24)),o 26 (.fad 1 (.t 25)),o 27 (.ld false 1 (.t 26)),o 28 (.mov (.t 1)),o 29 (.call 44 [(.t 28)])] [o 30 (.bin .neq (.t 27) (.t 29))]) (.cnd (.t 30) (.seq (.reg [o 4 (.mov (.k (.int .i64 (-1))))]) .ret) .skip)) (.seq (.reg [o 31 (.mov (.t 1)),o 32 (.bin .add (.t 31) (.k (.int .i64 1))),o 1 (.mov (.t 32))]) (.seq (.seq (.drw [o 33 (.mov (.t 0)),o 34 (.mov (.t 5)),o 35 (.iad 6 (.t 33) (.t 34)),o 36 (.fad 2 (.t 35)),o 37 (.ld false 1 (.t 36)),o 38 (.mov (.t 1)),o 39 (.call 44 [(.t 38)])] [o 40 (.bin .neq (.t 37) (.t 39))]) (.cnd (.t 40) (.seq (.reg [o 4 (.mov (.k (.int .i64 (-1))))]) .ret) .skip)) (.seq (.reg [o 41 (.mov (.t 1)),o 42 (.bin .add (.t 41) (.k (.int .i64 1))),o 1 (.mov (.t 42))]) (.seq (.seq (.reg [o 43 (.mov (.t 0)),o 44 (.mov (.t 5)),o 45 (.iad 6 (.t 43) (.t 44)),o 46 (.fad 3 (.t 45)),o 47 (.ld false 1 (.t 46)),o 48 (.mov (.t 1)),o 49 (.bin .neq (.t 47) (.t 48))]) (.cnd (.t 49) (.seq (.reg [o 4 (.mov (.k (.int .i64 (-1))))]) .ret) .skip)) (.seq (.reg [o 50 (.mov (.t 1)),o 51 (.bin .add (.t 50) (.k (.int .i64 1))),o 1 (.mov (.t 51))]) (.seq (.seq (.reg [o 52 (.mov (.t 0)),o 53 (.mov (.t 5)),o 54 (.iad 6 (.t 52) (.t 53)),o 55 (.fad 4 (.t 54)),o 56 (.fad 0 (.t 55)),o 57 (.ld false 1 (.t 56)),o 58 (.mov (.t 1)),o 59 (.bin .neq (.t 57) (.t 58))]) (.cnd (.t 59) (.seq (.reg [o 4 (.mov (.k (.int .i64 (-1))))]) .ret) .skip)) (.seq (.reg [o 60 (.mov (.t 1)),o 61 (.bin .add (.t 60) (.k (.int .i64 1))),o 1 (.mov (.t 61))]) (.seq (.seq (.reg [o 62 (.mov (.t 0)),o 63 (.mov (.t 5)),o 64 (.iad 6 (.t 62) (.t 63)),o 65 (.fad 4 (.t 64)),o 66 (.fad 1 (.t 65)),o 67 (.ld false 1 (.t 66)),o 68 (.mov (.t 1)),o 69 (.bin .neq (.t 67) (.t 68))]) (.cnd (.t 69) (.seq (.reg [o 4 (.mov (.k (.int .i64 (-1))))]) .ret) .skip)) (.reg [o 70 (.mov (.t 1)),o 71 (.bin .add (.t 70) (.k (.int .i64 1))),o 1 (.mov (.t 71))]))))))))))))) (.reg [o 10 (.mov (.t 5)),o 11 (.bin .add (.t 10) (.k (.int .i64 1))),o 5 (.mov (.t 11))])))))) (.seq (.reg [o 72 (.mov (.t 1)),o 4 (.mov (.t 72))]) .ret)))⟩
theorem ir_l_heldLiveS:compFn Tryz.prog n_l_heldLiveS=some F_l_heldLiveS:=by kernel_rfl
theorem l_heldLiveS_ret (σ:St) (v:GV) (n:Nat) (k:Int) (hR:RS pLive.kd σ v (mkF mLive 6 k n)) (h0:0≤k) (hk:k+6*n≤4611686018427387904):Ret Tryz.prog n_l_heldLiveS [v,gi k] σ (gi (k+6*n)) σ:=by
 refine ret_eq ir_l_heldLiveS (Nat.le_of_ble_eq_true rfl) trivial ?_
 have hln:=hR.len
 rw[mkF_length] at hln
 simp +contextual (disch:=omega) only[go_sem,F_l_heldLiveS]
 refine vc_for n 5 (fun i env τ=>env 0=v∧env 1=gi (k+6*(i:Int))∧σ <+: τ) rfl ⟨rfl,(by show gi k=gi (k+6*0);simp),List.prefix_refl _⟩ ?_ ?_
 ·rintro i env τ hi e5 c0 ⟨e0,e1,hp⟩
  have hj:i<(mkF mLive 6 k n).length:=by rw[mkF_length];exact hi
  have hat:=Live_at (hR.pre hp) hj
  simp only[mkF_get,mLive] at hat
  simp +contextual (disch:=omega) only[go_sem,c0,e0,e1,e5,hln,hat,hp,bne_self_eq_false,beq_self_eq_true]
  refine by_ret (l_markText_ret _ _ (by omega)) ?_
  simp +contextual (disch:=omega) only[go_sem,c0,e0,e1,e5,hln,hat,hp,bne_self_eq_false,beq_self_eq_true]
  refine by_ret (l_markText_ret _ _ (by omega)) ?_
  simp +contextual (disch:=omega) only[go_sem,c0,e0,e1,e5,hln,hat,hp,bne_self_eq_false,beq_self_eq_true]
  omega
 ·rintro env τ e5 c0 ⟨e0,e1,hp⟩
  simp +contextual (disch:=omega) only[go_sem,c0,e0,e1,e5,hln,hp]
end Go.Proofs.YtffnefmklckngaaGreat.Sy
namespace Go.Proofs.YtffnefmklckngaaGreat.Sy
open Go Go.RowKit
set_option linter.unusedSimpArgs false
set_option linter.unusedVariables false
abbrev n_l_heldTallyS:Nat:=58
def F_l_heldTallyS:Fn1:=⟨41,[.t 4],(.seq (.reg [o 4 (.mov (.k (.int .i64 0)))]) (.seq (.seq (.reg [o 5 (.mov (.k (.int .i64 0)))]) (.blk 0 (.lop (.seq (.seq (.reg [o 6 (.mov (.t 5)),o 7 (.mov (.t 0)),o 8 (.len false (.t 7)),o 9 (.bin .lss (.t 6) (.t 8))]) (.cnd (.t 9) .skip (.ext 0))) (.seq (.blk 1 (.seq (.seq (.drw [o 12 (.mov (.t 0)),o 13 (.mov (.t 5)),o 14 (.iad 3 (.t 12) (.t 13)),o 15 (.fad 0 (.t 14)),o 16 (.ld false 1 (.t 15)),o 17 (.mov (.t 1)),o 18 (.call 44 [(.t 17)])] [o 19 (.bin .neq (.t 16) (.t 18))]) (.cnd (.t 19) (.seq (.reg [o 4 (.mov (.k (.int .i64 (-1))))]) .ret) .skip)) (.seq (.reg [o 20 (.mov (.t 1)),o 21 (.bin .add (.t 20) (.k (.int .i64 1))),o 1 (.mov (.t 21))]) (.seq (.seq (.reg [o 22 (.mov (.t 0)),o 23 (.mov (.t 5)),o 24 (.iad 3 (.t 22) (.t 23)),o 25 (.fad 1 (.t 24)),o 26 (.ld false 1 (.t 25)),o 27 (.mov (.t 1)),o 28 (.bin .neq (.t 26) (.t 27))]) (.cnd (.t 28) (.seq (.reg [o 4 (.mov (.k (.int .i64 (-1))))]) .ret) .skip)) (.seq (.reg [o 29 (.mov (.t 1)),o 30 (.bin .add (.t 29) (.k (.int .i64 1))),o 1 (.mov (.t 30))]) (.seq (.seq (.reg [o 31 (.mov (.t 0)),o 32 (.mov (.t 5)),o 33 (.iad 3 (.t 31) (.t 32)),o 34 (.fad 2 (.t 33)),o 35 (.ld false 1 (.t 34)),o 36 (.mov (.t 1)),o 37 (.bin .neq (.t 35) (.t 36))]) (.cnd (.t 37) (.seq (.reg [o 4 (.mov (.k (.int .i64 (-1))))]) .ret) .skip)) (.reg [o 38 (.mov (.t 1)),o 39 (.bin .add (.t 38) (.k (.int .i64 1))),o 1 (.mov (.t 39))]))))))) (.reg [o 10 (.mov (.t 5)),o 11 (.bin .add (.t 10) (.k (.int .i64 1))),o 5 (.mov (.t 11))])))))) (.seq (.reg [o 40 (.mov (.t 1)),o 4 (.mov (.t 40))]) .ret)))⟩
theorem ir_l_heldTallyS:compFn Tryz.prog n_l_heldTallyS=some F_l_heldTallyS:=by kernel_rfl
theorem l_heldTallyS_ret (σ:St) (v:GV) (n:Nat) (k:Int) (hR:RS pTally.kd σ v (mkF mTally 3 k n)) (h0:0≤k) (hk:k+3*n≤4611686018427387904):Ret Tryz.prog n_l_heldTallyS [v,gi k] σ (gi (k+3*n)) σ:=by
 refine ret_eq ir_l_heldTallyS (Nat.le_of_ble_eq_true rfl) trivial ?_
 have hln:=hR.len
 rw[mkF_length] at hln
 simp +contextual (disch:=omega) only[go_sem,F_l_heldTallyS]
 refine vc_for n 5 (fun i env τ=>env 0=v∧env 1=gi (k+3*(i:Int))∧σ <+: τ) rfl ⟨rfl,(by show gi k=gi (k+3*0);simp),List.prefix_refl _⟩ ?_ ?_
 ·rintro i env τ hi e5 c0 ⟨e0,e1,hp⟩
  have hj:i<(mkF mTally 3 k n).length:=by rw[mkF_length];exact hi
  have hat:=Tally_at (hR.pre hp) hj
  simp only[mkF_get,mTally] at hat
  simp +contextual (disch:=omega) only[go_sem,c0,e0,e1,e5,hln,hat,hp,bne_self_eq_false,beq_self_eq_true]
  refine by_ret (l_markText_ret _ _ (by omega)) ?_
  simp +contextual (disch:=omega) only[go_sem,c0,e0,e1,e5,hln,hat,hp,bne_self_eq_false,beq_self_eq_true]
  omega
 ·rintro env τ e5 c0 ⟨e0,e1,hp⟩
  simp +contextual (disch:=omega) only[go_sem,c0,e0,e1,e5,hln,hp]
end Go.Proofs.YtffnefmklckngaaGreat.Sy
namespace Go.Proofs.YtffnefmklckngaaGreat.Sy
open Go Go.RowKit
set_option linter.unusedSimpArgs false
set_option linter.unusedVariables false
abbrev n_l_heldState:Nat:=32
def F_l_heldState:Fn1:=⟨30,[.t 4],(.seq (.reg [o 2 (.box (.t 0)),o 4 (.mov (.k (.int .i64 0)))]) (.seq (.reg [o 5 (.fad 0 (.t 2)),o 6 (.ld false 1 (.t 5)),o 7 (.mov (.t 1)),o 8 (.call 49 [(.t 6),(.t 7)]),o 1 (.mov (.t 8))]) (.seq (.seq (.reg [o 9 (.mov (.t 1)),o 10 (.bin .lss (.t 9) (.k (.int .i64 0)))]) (.cnd (.t 10) (.seq (.reg [o 4 (.mov (.k (.int .i64 (-1))))]) .ret) .skip)) (.seq (.reg [o 11 (.fad 1 (.t 2)),o 12 (.ld false 1 (.t 11)),o 13 (.mov (.t 1)),o 14 (.call 58 [(.t 12),(.t 13)]),o 1 (.mov (.t 14))]) (.seq (.seq (.reg [o 15 (.mov (.t 1)),o 16 (.bin .lss (.t 15) (.k (.int .i64 0)))]) (.cnd (.t 16) (.seq (.reg [o 4 (.mov (.k (.int .i64 (-1))))]) .ret) .skip)) (.seq (.reg [o 17 (.fad 2 (.t 2)),o 18 (.ld false 1 (.t 17)),o 19 (.mov (.t 1)),o 20 (.call 59 [(.t 18),(.t 19)]),o 1 (.mov (.t 20))]) (.seq (.seq (.reg [o 21 (.mov (.t 1)),o 22 (.bin .lss (.t 21) (.k (.int .i64 0)))]) (.cnd (.t 22) (.seq (.reg [o 4 (.mov (.k (.int .i64 (-1))))]) .ret) .skip)) (.seq (.reg [o 23 (.fad 3 (.t 2)),o 24 (.ld false 1 (.t 23)),o 25 (.mov (.t 1)),o 26 (.call 61 [(.t 24),(.t 25)]),o 1 (.mov (.t 26))]) (.seq (.seq (.reg [o 27 (.mov (.t 1)),o 28 (.bin .lss (.t 27) (.k (.int .i64 0)))]) (.cnd (.t 28) (.seq (.reg [o 4 (.mov (.k (.int .i64 (-1))))]) .ret) .skip)) (.seq (.reg [o 29 (.mov (.t 1)),o 4 (.mov (.t 29))]) .ret))))))))))⟩
theorem ir_l_heldState:compFn Tryz.prog n_l_heldState=some F_l_heldState:=by kernel_rfl
theorem l_heldState_ret (σ:St) (cs:List GV) (x:State) (k:Int) (hR:kState.R σ (mkState k x) cs) (h0:0≤k) (hk:k+ctState x≤4611686018427387904):Ret Tryz.prog n_l_heldState [.agg cs,gi k] σ (gi (k+ctState x)) σ:=by
 obtain⟨v0,v1,v2,v3,rfl,q0,q1,q2,q3⟩:=hR
 unfold ctState at hk
 refine ret_eq ir_l_heldState (Nat.le_of_ble_eq_true rfl) trivial ?_
 simp +contextual (disch:=omega) only[go_sem,F_l_heldState,List.append_nil]
 refine by_ret (l_heldIntS_ret _ v0 x.know.length (k) (q0.pre (pre1 _ _)) (by omega) (by omega)) ?_
 have d0:decide (k+1*(x.know.length:Int)<0)=false:=decide_eq_false (by omega)
 simp +contextual (disch:=omega) only[go_sem,List.append_nil,d0]
 refine by_ret (l_heldTallyS_ret _ v1 x.tallies.length (k+1*(x.know.length:Int)) (q1.pre (pre1 _ _)) (by omega) (by omega)) ?_
 have d1:decide (k+1*(x.know.length:Int)+3*(x.tallies.length:Int)<0)=false:=decide_eq_false (by omega)
 simp +contextual (disch:=omega) only[go_sem,List.append_nil,d1]
 refine by_ret (l_heldLiveS_ret _ v2 x.lives.length (k+1*(x.know.length:Int)+3*(x.tallies.length:Int)) (q2.pre (pre1 _ _)) (by omega) (by omega)) ?_
 have d2:decide (k+1*(x.know.length:Int)+3*(x.tallies.length:Int)+6*(x.lives.length:Int)<0)=false:=decide_eq_false (by omega)
 simp +contextual (disch:=omega) only[go_sem,List.append_nil,d2]
 refine by_ret (l_heldCellS_ret _ v3 x.cells.length (k+1*(x.know.length:Int)+3*(x.tallies.length:Int)+6*(x.lives.length:Int)) (q3.pre (pre1 _ _)) (by omega) (by omega)) ?_
 have d3:decide (k+1*(x.know.length:Int)+3*(x.tallies.length:Int)+6*(x.lives.length:Int)+8*(x.cells.length:Int)<0)=false:=decide_eq_false (by omega)
 simp +contextual (disch:=omega) only[go_sem,List.append_nil,d3]
 unfold ctState;omega
end Go.Proofs.YtffnefmklckngaaGreat.Sy
namespace Go.Proofs.YtffnefmklckngaaGreat.Sy
open Go Go.RowKit
set_option linter.unusedSimpArgs false
set_option linter.unusedVariables false
abbrev n_l_markEditS:Nat:=31
def F_l_markEditS:Fn1:=⟨50,[.t 4],(.seq (.reg [o 4 (.mov (.k (.int .i64 0)))]) (.seq (.seq (.reg [o 5 (.mov (.k (.int .i64 0)))]) (.blk 0 (.lop (.seq (.seq (.reg [o 6 (.mov (.t 5)),o 7 (.mov (.t 0)),o 8 (.len false (.t 7)),o 9 (.bin .lss (.t 6) (.t 8))]) (.cnd (.t 9) .skip (.ext 0))) (.seq (.blk 1 (.seq (.reg [o 12 (.mov (.t 0)),o 13 (.mov (.t 5)),o 14 (.mov (.t 1)),o 15 (.iad 5 (.t 12) (.t 13)),o 16 (.fad 0 (.t 15)),on (.st 1 (.t 16) (.t 14))]) (.seq (.reg [o 17 (.mov (.t 1)),o 18 (.bin .add (.t 17) (.k (.int .i64 1))),o 1 (.mov (.t 18))]) (.seq (.reg [o 19 (.mov (.t 0)),o 20 (.mov (.t 5)),o 21 (.mov (.t 1)),o 22 (.call 44 [(.t 21)]),o 23 (.iad 5 (.t 19) (.t 20)),o 24 (.fad 1 (.t 23)),on (.st 1 (.t 24) (.t 22))]) (.seq (.reg [o 25 (.mov (.t 1)),o 26 (.bin .add (.t 25) (.k (.int .i64 1))),o 1 (.mov (.t 26))]) (.seq (.reg [o 27 (.mov (.t 0)),o 28 (.mov (.t 5)),o 29 (.mov (.t 1)),o 30 (.call 44 [(.t 29)]),o 31 (.iad 5 (.t 27) (.t 28)),o 32 (.fad 2 (.t 31)),on (.st 1 (.t 32) (.t 30))]) (.seq (.reg [o 33 (.mov (.t 1)),o 34 (.bin .add (.t 33) (.k (.int .i64 1))),o 1 (.mov (.t 34))]) (.seq (.reg [o 35 (.mov (.t 0)),o 36 (.mov (.t 5)),o 37 (.mov (.t 1)),o 38 (.iad 5 (.t 35) (.t 36)),o 39 (.fad 3 (.t 38)),on (.st 1 (.t 39) (.t 37))]) (.seq (.reg [o 40 (.mov (.t 1)),o 41 (.bin .add (.t 40) (.k (.int .i64 1))),o 1 (.mov (.t 41))]) (.seq (.reg [o 42 (.mov (.t 0)),o 43 (.mov (.t 5)),o 44 (.mov (.t 1)),o 45 (.iad 5 (.t 42) (.t 43)),o 46 (.fad 4 (.t 45)),on (.st 1 (.t 46) (.t 44))]) (.reg [o 47 (.mov (.t 1)),o 48 (.bin .add (.t 47) (.k (.int .i64 1))),o 1 (.mov (.t 48))]))))))))))) (.reg [o 10 (.mov (.t 5)),o 11 (.bin .add (.t 10) (.k (.int .i64 1))),o 5 (.mov (.t 11))])))))) (.seq (.reg [o 49 (.mov (.t 1)),o 4 (.mov (.t 49))]) .ret)))⟩
theorem ir_l_markEditS:compFn Tryz.prog n_l_markEditS=some F_l_markEditS:=by kernel_rfl
theorem l_markEditS_ret {σ τ:St} {rs:List Thg} (i0:Nat) (v:GV) (l:List Edit) (k:Int) (H:Hp σ τ rs) (hi0:rs[i0]? =some (ow pEdit.kd v l)) (h0:0≤k) (hk:k+5*l.length≤4611686018427387904):∃ τ',Ret Tryz.prog n_l_markEditS [v,gi k] τ (gi (k+5*l.length)) τ'∧Hp σ τ' (rs.set i0 (ow pEdit.kd v (mkF mEdit 5 k l.length))):=by
 have H:=H.pick i0 hi0
 have hlt:=(List.getElem?_eq_some_iff.1 hi0).1
 obtain⟨r,τ',hR,rfl,H'⟩:=ret_mut (P:=Tryz.prog) (σ:=τ) (args:=[v,gi k]) (Post:=fun r τ'=>r=gi (k+5*l.length)∧Hp σ τ' (ow pEdit.kd v (mkF mEdit 5 k l.length)::rs.eraseIdx i0)) ir_l_markEditS (Nat.le_of_ble_eq_true rfl) (by
  simp +contextual (disch:=omega) only[go_sem,F_l_markEditS]
  refine vc_for l.length 5 (fun i env τ'=>env 0=v∧env 1=gi (k+5*(i:Int))∧τ.length≤τ'.length∧Hp σ τ' (ow pEdit.kd v ((mkF mEdit 5 k l.length).take i++l.drop i)::rs.eraseIdx i0)) rfl ⟨rfl,(by show gi k=gi (k+5*0);simp),Nat.le_refl _,by simpa using H⟩ ?_ ?_
  ·rintro i env τ' hi e5 c0 ⟨e0,e1,hle,H⟩
   have hL:=mark_len (l:=l) (e:=mEdit) (c:=5) (k:=k) (i:=i)
   have hst:=mark_step (e:=mEdit) (c:=5) (k:=k) hi
   generalize(mkF mEdit 5 k l.length).take i++l.drop i=L at H hL hst
   have hj:i<L.length:=by omega
   have h1:=H.sl 0 rfl
   have hln:=h1.len
   rw[hL] at hln
   have hat:=Edit_at h1 hj
   rw[set_self hj] at H
   generalize hy:L[i]=y at H hat
   simp +contextual (disch:=omega) only[go_sem,c0,e0,e1,e5,hln,hat]
   obtain⟨τ0,es,H⟩:=H.sts hj 1 0 (.int .i64 (k+5*(i:Int))) (⟨k+5*(i:Int),y.obj,y.key,y.val,y.place⟩) rfl (by decide) (by decide) rfl
   have es:stG 1 τ' (fld 0 (atz 5 v i)) (.int .i64 (k+5*(i:Int)))=some (.tup [],τ0):=es
   have hl0:=stG_len es
   simp +contextual (disch:=omega) only[go_sem,e0,e1,e5,hat,es]
   refine by_ret (l_markText_ret _ _ (by omega)) ?_
   simp +contextual (disch:=omega) only[go_sem,e0,e1,hat]
   obtain⟨τ1,es,H⟩:=H.sts hj 1 1 (.str (mtx (k+5*(i:Int)+1))) (⟨k+5*(i:Int),mtx (k+5*(i:Int)+1),y.key,y.val,y.place⟩) rfl (by decide) (by decide) rfl
   have es:stG 1 τ0 (fld 1 (atz 5 v i)) (.str (mtx (k+5*(i:Int)+1)))=some (.tup [],τ1):=es
   have hl1:=stG_len es
   simp +contextual (disch:=omega) only[go_sem,e0,e1,e5,hat,es]
   refine by_ret (l_markText_ret _ _ (by omega)) ?_
   simp +contextual (disch:=omega) only[go_sem,e0,e1,hat]
   obtain⟨τ2,es,H⟩:=H.sts hj 1 2 (.str (mtx (k+5*(i:Int)+1+1))) (⟨k+5*(i:Int),mtx (k+5*(i:Int)+1),mtx (k+5*(i:Int)+1+1),y.val,y.place⟩) rfl (by decide) (by decide) rfl
   have es:stG 1 τ1 (fld 2 (atz 5 v i)) (.str (mtx (k+5*(i:Int)+1+1)))=some (.tup [],τ2):=es
   have hl2:=stG_len es
   simp +contextual (disch:=omega) only[go_sem,e0,e1,e5,hat,es]
   obtain⟨τ3,es,H⟩:=H.sts hj 1 3 (.int .i64 (k+5*(i:Int)+1+1+1)) (⟨k+5*(i:Int),mtx (k+5*(i:Int)+1),mtx (k+5*(i:Int)+1+1),k+5*(i:Int)+1+1+1,y.place⟩) rfl (by decide) (by decide) rfl
   have es:stG 1 τ2 (fld 3 (atz 5 v i)) (.int .i64 (k+5*(i:Int)+1+1+1))=some (.tup [],τ3):=es
   have hl3:=stG_len es
   simp +contextual (disch:=omega) only[go_sem,e0,e1,e5,hat,es]
   obtain⟨τ4,es,H⟩:=H.sts hj 1 4 (.int .i64 (k+5*(i:Int)+1+1+1+1)) (⟨k+5*(i:Int),mtx (k+5*(i:Int)+1),mtx (k+5*(i:Int)+1+1),k+5*(i:Int)+1+1+1,k+5*(i:Int)+1+1+1+1⟩) rfl (by decide) (by decide) rfl
   have es:stG 1 τ3 (fld 4 (atz 5 v i)) (.int .i64 (k+5*(i:Int)+1+1+1+1))=some (.tup [],τ4):=es
   have hl4:=stG_len es
   simp +contextual (disch:=omega) only[go_sem,e0,e1,e5,hat,es]
   have H2:Hp σ τ4 (ow pEdit.kd v (L.set i (mEdit (k+(5:Nat)*(i:Int))))::rs.eraseIdx i0):=H
   rw[hst] at H2
   exact⟨by omega,by omega,H2⟩
  ·rintro env τ' e5 c0 ⟨e0,e1,hle,H⟩
   rw[mark_end] at H
   have hln:=(H.sl 0 rfl).len
   rw[mkF_length] at hln
   simp +contextual (disch:=omega) only[go_sem,c0,e0,e1,e5,hln]
   exact⟨_,rfl,hle,rfl,H⟩)
 exact⟨τ',hR,H'.unpick hlt⟩
end Go.Proofs.YtffnefmklckngaaGreat.Sy
namespace Go.Proofs.YtffnefmklckngaaGreat.Sy
open Go Go.RowKit
set_option linter.unusedSimpArgs false
set_option linter.unusedVariables false
abbrev n_l_markCellS:Nat:=48
def F_l_markCellS:Fn1:=⟨76,[.t 4],(.seq (.reg [o 4 (.mov (.k (.int .i64 0)))]) (.seq (.seq (.reg [o 5 (.mov (.k (.int .i64 0)))]) (.blk 0 (.lop (.seq (.seq (.reg [o 6 (.mov (.t 5)),o 7 (.mov (.t 0)),o 8 (.len false (.t 7)),o 9 (.bin .lss (.t 6) (.t 8))]) (.cnd (.t 9) .skip (.ext 0))) (.seq (.blk 1 (.seq (.reg [o 12 (.mov (.t 0)),o 13 (.mov (.t 5)),o 14 (.mov (.t 1)),o 15 (.call 44 [(.t 14)]),o 16 (.iad 8 (.t 12) (.t 13)),o 17 (.fad 0 (.t 16)),on (.st 1 (.t 17) (.t 15))]) (.seq (.reg [o 18 (.mov (.t 1)),o 19 (.bin .add (.t 18) (.k (.int .i64 1))),o 1 (.mov (.t 19))]) (.seq (.reg [o 20 (.mov (.t 0)),o 21 (.mov (.t 5)),o 22 (.mov (.t 1)),o 23 (.iad 8 (.t 20) (.t 21)),o 24 (.fad 1 (.t 23)),o 25 (.fad 0 (.t 24)),on (.st 1 (.t 25) (.t 22))]) (.seq (.reg [o 26 (.mov (.t 1)),o 27 (.bin .add (.t 26) (.k (.int .i64 1))),o 1 (.mov (.t 27))]) (.seq (.reg [o 28 (.mov (.t 0)),o 29 (.mov (.t 5)),o 30 (.mov (.t 1)),o 31 (.iad 8 (.t 28) (.t 29)),o 32 (.fad 1 (.t 31)),o 33 (.fad 1 (.t 32)),on (.st 1 (.t 33) (.t 30))]) (.seq (.reg [o 34 (.mov (.t 1)),o 35 (.bin .add (.t 34) (.k (.int .i64 1))),o 1 (.mov (.t 35))]) (.seq (.reg [o 36 (.mov (.t 0)),o 37 (.mov (.t 5)),o 38 (.mov (.t 1)),o 39 (.iad 8 (.t 36) (.t 37)),o 40 (.fad 3 (.t 39)),on (.st 1 (.t 40) (.t 38))]) (.seq (.reg [o 41 (.mov (.t 1)),o 42 (.bin .add (.t 41) (.k (.int .i64 1))),o 1 (.mov (.t 42))]) (.seq (.reg [o 43 (.mov (.t 0)),o 44 (.mov (.t 5)),o 45 (.mov (.t 1)),o 46 (.iad 8 (.t 43) (.t 44)),o 47 (.fad 4 (.t 46)),o 48 (.fad 0 (.t 47)),on (.st 1 (.t 48) (.t 45))]) (.seq (.reg [o 49 (.mov (.t 1)),o 50 (.bin .add (.t 49) (.k (.int .i64 1))),o 1 (.mov (.t 50))]) (.seq (.reg [o 51 (.mov (.t 0)),o 52 (.mov (.t 5)),o 53 (.mov (.t 1)),o 54 (.iad 8 (.t 51) (.t 52)),o 55 (.fad 4 (.t 54)),o 56 (.fad 1 (.t 55)),on (.st 1 (.t 56) (.t 53))]) (.seq (.reg [o 57 (.mov (.t 1)),o 58 (.bin .add (.t 57) (.k (.int .i64 1))),o 1 (.mov (.t 58))]) (.seq (.reg [o 59 (.mov (.t 0)),o 60 (.mov (.t 5)),o 61 (.mov (.t 1)),o 62 (.iad 8 (.t 59) (.t 60)),o 63 (.fad 6 (.t 62)),on (.st 1 (.t 63) (.t 61))]) (.seq (.reg [o 64 (.mov (.t 1)),o 65 (.bin .add (.t 64) (.k (.int .i64 1))),o 1 (.mov (.t 65))]) (.seq (.reg [o 66 (.mov (.t 0)),o 67 (.mov (.t 5)),o 68 (.mov (.t 1)),o 69 (.bin .rem (.t 68) (.k (.int .i64 3))),o 70 (.bin .eql (.t 69) (.k (.int .i64 0))),o 71 (.iad 8 (.t 66) (.t 67)),o 72 (.fad 7 (.t 71)),on (.st 1 (.t 72) (.t 70))]) (.reg [o 73 (.mov (.t 1)),o 74 (.bin .add (.t 73) (.k (.int .i64 1))),o 1 (.mov (.t 74))]))))))))))))))))) (.reg [o 10 (.mov (.t 5)),o 11 (.bin .add (.t 10) (.k (.int .i64 1))),o 5 (.mov (.t 11))])))))) (.seq (.reg [o 75 (.mov (.t 1)),o 4 (.mov (.t 75))]) .ret)))⟩
theorem ir_l_markCellS:compFn Tryz.prog n_l_markCellS=some F_l_markCellS:=by kernel_rfl
theorem l_markCellS_ret {σ τ:St} {rs:List Thg} (i0:Nat) (v:GV) (l:List Cell) (k:Int) (H:Hp σ τ rs) (hi0:rs[i0]? =some (ow pCell.kd v l)) (h0:0≤k) (hk:k+8*l.length≤4611686018427387904):∃ τ',Ret Tryz.prog n_l_markCellS [v,gi k] τ (gi (k+8*l.length)) τ'∧Hp σ τ' (rs.set i0 (ow pCell.kd v (mkF mCell 8 k l.length))):=by
 have H:=H.pick i0 hi0
 have hlt:=(List.getElem?_eq_some_iff.1 hi0).1
 obtain⟨r,τ',hR,rfl,H'⟩:=ret_mut (P:=Tryz.prog) (σ:=τ) (args:=[v,gi k]) (Post:=fun r τ'=>r=gi (k+8*l.length)∧Hp σ τ' (ow pCell.kd v (mkF mCell 8 k l.length)::rs.eraseIdx i0)) ir_l_markCellS (Nat.le_of_ble_eq_true rfl) (by
  simp +contextual (disch:=omega) only[go_sem,F_l_markCellS]
  refine vc_for l.length 5 (fun i env τ'=>env 0=v∧env 1=gi (k+8*(i:Int))∧τ.length≤τ'.length∧Hp σ τ' (ow pCell.kd v ((mkF mCell 8 k l.length).take i++l.drop i)::rs.eraseIdx i0)) rfl ⟨rfl,(by show gi k=gi (k+8*0);simp),Nat.le_refl _,by simpa using H⟩ ?_ ?_
  ·rintro i env τ' hi e5 c0 ⟨e0,e1,hle,H⟩
   have hL:=mark_len (l:=l) (e:=mCell) (c:=8) (k:=k) (i:=i)
   have hst:=mark_step (e:=mCell) (c:=8) (k:=k) hi
   generalize(mkF mCell 8 k l.length).take i++l.drop i=L at H hL hst
   have hj:i<L.length:=by omega
   have h1:=H.sl 0 rfl
   have hln:=h1.len
   rw[hL] at hln
   have hat:=Cell_at h1 hj
   rw[set_self hj] at H
   generalize hy:L[i]=y at H hat
   simp +contextual (disch:=omega) only[go_sem,c0,e0,e1,e5,hln,hat]
   refine by_ret (l_markText_ret _ _ (by omega)) ?_
   simp +contextual (disch:=omega) only[go_sem,e0,e1,hat]
   obtain⟨τ0,es,H⟩:=H.sts hj 1 0 (.str (mtx (k+8*(i:Int)))) (⟨mtx (k+8*(i:Int)),⟨y.dot.rep,y.dot.seq⟩,y.time,⟨y.ref.rep,y.ref.seq⟩,y.val,y.gone⟩) rfl (by decide) (by decide) rfl
   have es:stG 1 τ' (fld 0 (atz 8 v i)) (.str (mtx (k+8*(i:Int))))=some (.tup [],τ0):=es
   have hl0:=stG_len es
   simp +contextual (disch:=omega) only[go_sem,e0,e1,e5,hat,es]
   obtain⟨τ1,es,H⟩:=H.sts hj 1 1 (.int .i64 (k+8*(i:Int)+1)) (⟨mtx (k+8*(i:Int)),⟨k+8*(i:Int)+1,y.dot.seq⟩,y.time,⟨y.ref.rep,y.ref.seq⟩,y.val,y.gone⟩) rfl (by decide) (by decide) rfl
   have es:stG 1 τ0 (fld 1 (atz 8 v i)) (.int .i64 (k+8*(i:Int)+1))=some (.tup [],τ1):=es
   have hl1:=stG_len es
   simp +contextual (disch:=omega) only[go_sem,e0,e1,e5,hat,es]
   obtain⟨τ2,es,H⟩:=H.sts hj 1 2 (.int .i64 (k+8*(i:Int)+1+1)) (⟨mtx (k+8*(i:Int)),⟨k+8*(i:Int)+1,k+8*(i:Int)+1+1⟩,y.time,⟨y.ref.rep,y.ref.seq⟩,y.val,y.gone⟩) rfl (by decide) (by decide) rfl
   have es:stG 1 τ1 (fld 2 (atz 8 v i)) (.int .i64 (k+8*(i:Int)+1+1))=some (.tup [],τ2):=es
   have hl2:=stG_len es
   simp +contextual (disch:=omega) only[go_sem,e0,e1,e5,hat,es]
   obtain⟨τ3,es,H⟩:=H.sts hj 1 3 (.int .i64 (k+8*(i:Int)+1+1+1)) (⟨mtx (k+8*(i:Int)),⟨k+8*(i:Int)+1,k+8*(i:Int)+1+1⟩,k+8*(i:Int)+1+1+1,⟨y.ref.rep,y.ref.seq⟩,y.val,y.gone⟩) rfl (by decide) (by decide) rfl
   have es:stG 1 τ2 (fld 3 (atz 8 v i)) (.int .i64 (k+8*(i:Int)+1+1+1))=some (.tup [],τ3):=es
   have hl3:=stG_len es
   simp +contextual (disch:=omega) only[go_sem,e0,e1,e5,hat,es]
   obtain⟨τ4,es,H⟩:=H.sts hj 1 4 (.int .i64 (k+8*(i:Int)+1+1+1+1)) (⟨mtx (k+8*(i:Int)),⟨k+8*(i:Int)+1,k+8*(i:Int)+1+1⟩,k+8*(i:Int)+1+1+1,⟨k+8*(i:Int)+1+1+1+1,y.ref.seq⟩,y.val,y.gone⟩) rfl (by decide) (by decide) rfl
   have es:stG 1 τ3 (fld 4 (atz 8 v i)) (.int .i64 (k+8*(i:Int)+1+1+1+1))=some (.tup [],τ4):=es
   have hl4:=stG_len es
   simp +contextual (disch:=omega) only[go_sem,e0,e1,e5,hat,es]
   obtain⟨τ5,es,H⟩:=H.sts hj 1 5 (.int .i64 (k+8*(i:Int)+1+1+1+1+1)) (⟨mtx (k+8*(i:Int)),⟨k+8*(i:Int)+1,k+8*(i:Int)+1+1⟩,k+8*(i:Int)+1+1+1,⟨k+8*(i:Int)+1+1+1+1,k+8*(i:Int)+1+1+1+1+1⟩,y.val,y.gone⟩) rfl (by decide) (by decide) rfl
   have es:stG 1 τ4 (fld 5 (atz 8 v i)) (.int .i64 (k+8*(i:Int)+1+1+1+1+1))=some (.tup [],τ5):=es
   have hl5:=stG_len es
   simp +contextual (disch:=omega) only[go_sem,e0,e1,e5,hat,es]
   obtain⟨τ6,es,H⟩:=H.sts hj 1 6 (.int .i64 (k+8*(i:Int)+1+1+1+1+1+1)) (⟨mtx (k+8*(i:Int)),⟨k+8*(i:Int)+1,k+8*(i:Int)+1+1⟩,k+8*(i:Int)+1+1+1,⟨k+8*(i:Int)+1+1+1+1,k+8*(i:Int)+1+1+1+1+1⟩,k+8*(i:Int)+1+1+1+1+1+1,y.gone⟩) rfl (by decide) (by decide) rfl
   have es:stG 1 τ5 (fld 6 (atz 8 v i)) (.int .i64 (k+8*(i:Int)+1+1+1+1+1+1))=some (.tup [],τ6):=es
   have hl6:=stG_len es
   simp +contextual (disch:=omega) only[go_sem,e0,e1,e5,hat,es]
   obtain⟨τ7,es,H⟩:=H.sts hj 1 7 (.bool ((k+8*(i:Int)+1+1+1+1+1+1+1).tmod 3==0)) (⟨mtx (k+8*(i:Int)),⟨k+8*(i:Int)+1,k+8*(i:Int)+1+1⟩,k+8*(i:Int)+1+1+1,⟨k+8*(i:Int)+1+1+1+1,k+8*(i:Int)+1+1+1+1+1⟩,k+8*(i:Int)+1+1+1+1+1+1,((k+8*(i:Int)+1+1+1+1+1+1+1).tmod 3==0)⟩) rfl (by decide) (by decide) rfl
   have es:stG 1 τ6 (fld 7 (atz 8 v i)) (.bool ((k+8*(i:Int)+1+1+1+1+1+1+1).tmod 3==0))=some (.tup [],τ7):=es
   have hl7:=stG_len es
   simp +contextual (disch:=omega) only[go_sem,e0,e1,e5,hat,es]
   have H2:Hp σ τ7 (ow pCell.kd v (L.set i (mCell (k+(8:Nat)*(i:Int))))::rs.eraseIdx i0):=H
   rw[hst] at H2
   exact⟨by omega,by omega,H2⟩
  ·rintro env τ' e5 c0 ⟨e0,e1,hle,H⟩
   rw[mark_end] at H
   have hln:=(H.sl 0 rfl).len
   rw[mkF_length] at hln
   simp +contextual (disch:=omega) only[go_sem,c0,e0,e1,e5,hln]
   exact⟨_,rfl,hle,rfl,H⟩)
 exact⟨τ',hR,H'.unpick hlt⟩
end Go.Proofs.YtffnefmklckngaaGreat.Sy
namespace Go.Proofs.YtffnefmklckngaaGreat.Sy
open Go Go.RowKit
set_option linter.unusedSimpArgs false
set_option linter.unusedVariables false
abbrev n_l_markIntS:Nat:=43
def F_l_markIntS:Fn1:=⟨19,[.t 4],(.seq (.reg [o 4 (.mov (.k (.int .i64 0)))]) (.seq (.seq (.reg [o 5 (.mov (.k (.int .i64 0)))]) (.blk 0 (.lop (.seq (.seq (.reg [o 6 (.mov (.t 5)),o 7 (.mov (.t 0)),o 8 (.len false (.t 7)),o 9 (.bin .lss (.t 6) (.t 8))]) (.cnd (.t 9) .skip (.ext 0))) (.seq (.blk 1 (.seq (.reg [o 12 (.mov (.t 0)),o 13 (.mov (.t 5)),o 14 (.mov (.t 1)),o 15 (.iad 1 (.t 12) (.t 13)),on (.st 1 (.t 15) (.t 14))]) (.reg [o 16 (.mov (.t 1)),o 17 (.bin .add (.t 16) (.k (.int .i64 1))),o 1 (.mov (.t 17))]))) (.reg [o 10 (.mov (.t 5)),o 11 (.bin .add (.t 10) (.k (.int .i64 1))),o 5 (.mov (.t 11))])))))) (.seq (.reg [o 18 (.mov (.t 1)),o 4 (.mov (.t 18))]) .ret)))⟩
theorem ir_l_markIntS:compFn Tryz.prog n_l_markIntS=some F_l_markIntS:=by kernel_rfl
theorem l_markIntS_ret {σ τ:St} {rs:List Thg} (i0:Nat) (v:GV) (l:List Int) (k:Int) (H:Hp σ τ rs) (hi0:rs[i0]? =some (ow pI.kd v l)) (h0:0≤k) (hk:k+1*l.length≤4611686018427387904):∃ τ',Ret Tryz.prog n_l_markIntS [v,gi k] τ (gi (k+1*l.length)) τ'∧Hp σ τ' (rs.set i0 (ow pI.kd v (mkF mInt 1 k l.length))):=by
 have H:=H.pick i0 hi0
 have hlt:=(List.getElem?_eq_some_iff.1 hi0).1
 obtain⟨r,τ',hR,rfl,H'⟩:=ret_mut (P:=Tryz.prog) (σ:=τ) (args:=[v,gi k]) (Post:=fun r τ'=>r=gi (k+1*l.length)∧Hp σ τ' (ow pI.kd v (mkF mInt 1 k l.length)::rs.eraseIdx i0)) ir_l_markIntS (Nat.le_of_ble_eq_true rfl) (by
  simp +contextual (disch:=omega) only[go_sem,F_l_markIntS]
  refine vc_for l.length 5 (fun i env τ'=>env 0=v∧env 1=gi (k+1*(i:Int))∧τ.length≤τ'.length∧Hp σ τ' (ow pI.kd v ((mkF mInt 1 k l.length).take i++l.drop i)::rs.eraseIdx i0)) rfl ⟨rfl,(by show gi k=gi (k+1*0);simp),Nat.le_refl _,by simpa using H⟩ ?_ ?_
  ·rintro i env τ' hi e5 c0 ⟨e0,e1,hle,H⟩
   have hL:=mark_len (l:=l) (e:=mInt) (c:=1) (k:=k) (i:=i)
   have hst:=mark_step (e:=mInt) (c:=1) (k:=k) hi
   generalize(mkF mInt 1 k l.length).take i++l.drop i=L at H hL hst
   have hj:i<L.length:=by omega
   have h1:=H.sl 0 rfl
   have hln:=h1.len
   rw[hL] at hln
   have hat:=int_at h1 hj
   simp +contextual (disch:=omega) only[go_sem,c0,e0,e1,e5,hln,hat]
   obtain⟨τ2,es,H2⟩:=H.stw 0 rfl hj 1 (.int .i64 (k+1*(i:Int))) (mInt (k+1*(i:Int))) rfl rfl (by decide)
   have es:stG 1 τ' (atz 1 v i) (.int .i64 (k+1*(i:Int)))=some (.tup [],τ2):=es
   have hlen:=stG_len es
   have H2:Hp σ τ2 (ow pI.kd v (L.set i (mInt (k+(1:Nat)*(i:Int))))::rs.eraseIdx i0):=H2
   rw[hst] at H2
   simp +contextual (disch:=omega) only[go_sem,c0,e0,e1,e5,hln,hat,es]
   exact⟨by omega,by omega,H2⟩
  ·rintro env τ' e5 c0 ⟨e0,e1,hle,H⟩
   rw[mark_end] at H
   have hln:=(H.sl 0 rfl).len
   rw[mkF_length] at hln
   simp +contextual (disch:=omega) only[go_sem,c0,e0,e1,e5,hln]
   exact⟨_,rfl,hle,rfl,H⟩)
 exact⟨τ',hR,H'.unpick hlt⟩
end Go.Proofs.YtffnefmklckngaaGreat.Sy
namespace Go.Proofs.YtffnefmklckngaaGreat.Sy
open Go Go.RowKit
set_option linter.unusedSimpArgs false
set_option linter.unusedVariables false
abbrev n_l_markLiveS:Nat:=46
def F_l_markLiveS:Fn1:=⟨61,[.t 4],(.seq (.reg [o 4 (.mov (.k (.int .i64 0)))]) (.seq (.seq (.reg [o 5 (.mov (.k (.int .i64 0)))]) (.blk 0 (.lop (.seq (.seq (.reg [o 6 (.mov (.t 5)),o 7 (.mov (.t 0)),o 8 (.len false (.t 7)),o 9 (.bin .lss (.t 6) (.t 8))]) (.cnd (.t 9) .skip (.ext 0))) (.seq (.blk 1 (.seq (.reg [o 12 (.mov (.t 0)),o 13 (.mov (.t 5)),o 14 (.mov (.t 1)),o 15 (.bin .rem (.t 14) (.k (.int .i64 3))),o 16 (.bin .eql (.t 15) (.k (.int .i64 0))),o 17 (.iad 6 (.t 12) (.t 13)),o 18 (.fad 0 (.t 17)),on (.st 1 (.t 18) (.t 16))]) (.seq (.reg [o 19 (.mov (.t 1)),o 20 (.bin .add (.t 19) (.k (.int .i64 1))),o 1 (.mov (.t 20))]) (.seq (.reg [o 21 (.mov (.t 0)),o 22 (.mov (.t 5)),o 23 (.mov (.t 1)),o 24 (.call 44 [(.t 23)]),o 25 (.iad 6 (.t 21) (.t 22)),o 26 (.fad 1 (.t 25)),on (.st 1 (.t 26) (.t 24))]) (.seq (.reg [o 27 (.mov (.t 1)),o 28 (.bin .add (.t 27) (.k (.int .i64 1))),o 1 (.mov (.t 28))]) (.seq (.reg [o 29 (.mov (.t 0)),o 30 (.mov (.t 5)),o 31 (.mov (.t 1)),o 32 (.call 44 [(.t 31)]),o 33 (.iad 6 (.t 29) (.t 30)),o 34 (.fad 2 (.t 33)),on (.st 1 (.t 34) (.t 32))]) (.seq (.reg [o 35 (.mov (.t 1)),o 36 (.bin .add (.t 35) (.k (.int .i64 1))),o 1 (.mov (.t 36))]) (.seq (.reg [o 37 (.mov (.t 0)),o 38 (.mov (.t 5)),o 39 (.mov (.t 1)),o 40 (.iad 6 (.t 37) (.t 38)),o 41 (.fad 3 (.t 40)),on (.st 1 (.t 41) (.t 39))]) (.seq (.reg [o 42 (.mov (.t 1)),o 43 (.bin .add (.t 42) (.k (.int .i64 1))),o 1 (.mov (.t 43))]) (.seq (.reg [o 44 (.mov (.t 0)),o 45 (.mov (.t 5)),o 46 (.mov (.t 1)),o 47 (.iad 6 (.t 44) (.t 45)),o 48 (.fad 4 (.t 47)),o 49 (.fad 0 (.t 48)),on (.st 1 (.t 49) (.t 46))]) (.seq (.reg [o 50 (.mov (.t 1)),o 51 (.bin .add (.t 50) (.k (.int .i64 1))),o 1 (.mov (.t 51))]) (.seq (.reg [o 52 (.mov (.t 0)),o 53 (.mov (.t 5)),o 54 (.mov (.t 1)),o 55 (.iad 6 (.t 52) (.t 53)),o 56 (.fad 4 (.t 55)),o 57 (.fad 1 (.t 56)),on (.st 1 (.t 57) (.t 54))]) (.reg [o 58 (.mov (.t 1)),o 59 (.bin .add (.t 58) (.k (.int .i64 1))),o 1 (.mov (.t 59))]))))))))))))) (.reg [o 10 (.mov (.t 5)),o 11 (.bin .add (.t 10) (.k (.int .i64 1))),o 5 (.mov (.t 11))])))))) (.seq (.reg [o 60 (.mov (.t 1)),o 4 (.mov (.t 60))]) .ret)))⟩
theorem ir_l_markLiveS:compFn Tryz.prog n_l_markLiveS=some F_l_markLiveS:=by kernel_rfl
theorem l_markLiveS_ret {σ τ:St} {rs:List Thg} (i0:Nat) (v:GV) (l:List Live) (k:Int) (H:Hp σ τ rs) (hi0:rs[i0]? =some (ow pLive.kd v l)) (h0:0≤k) (hk:k+6*l.length≤4611686018427387904):∃ τ',Ret Tryz.prog n_l_markLiveS [v,gi k] τ (gi (k+6*l.length)) τ'∧Hp σ τ' (rs.set i0 (ow pLive.kd v (mkF mLive 6 k l.length))):=by
 have H:=H.pick i0 hi0
 have hlt:=(List.getElem?_eq_some_iff.1 hi0).1
 obtain⟨r,τ',hR,rfl,H'⟩:=ret_mut (P:=Tryz.prog) (σ:=τ) (args:=[v,gi k]) (Post:=fun r τ'=>r=gi (k+6*l.length)∧Hp σ τ' (ow pLive.kd v (mkF mLive 6 k l.length)::rs.eraseIdx i0)) ir_l_markLiveS (Nat.le_of_ble_eq_true rfl) (by
  simp +contextual (disch:=omega) only[go_sem,F_l_markLiveS]
  refine vc_for l.length 5 (fun i env τ'=>env 0=v∧env 1=gi (k+6*(i:Int))∧τ.length≤τ'.length∧Hp σ τ' (ow pLive.kd v ((mkF mLive 6 k l.length).take i++l.drop i)::rs.eraseIdx i0)) rfl ⟨rfl,(by show gi k=gi (k+6*0);simp),Nat.le_refl _,by simpa using H⟩ ?_ ?_
  ·rintro i env τ' hi e5 c0 ⟨e0,e1,hle,H⟩
   have hL:=mark_len (l:=l) (e:=mLive) (c:=6) (k:=k) (i:=i)
   have hst:=mark_step (e:=mLive) (c:=6) (k:=k) hi
   generalize(mkF mLive 6 k l.length).take i++l.drop i=L at H hL hst
   have hj:i<L.length:=by omega
   have h1:=H.sl 0 rfl
   have hln:=h1.len
   rw[hL] at hln
   have hat:=Live_at h1 hj
   rw[set_self hj] at H
   generalize hy:L[i]=y at H hat
   simp +contextual (disch:=omega) only[go_sem,c0,e0,e1,e5,hln,hat]
   obtain⟨τ0,es,H⟩:=H.sts hj 1 0 (.bool ((k+6*(i:Int)).tmod 3==0)) (⟨((k+6*(i:Int)).tmod 3==0),y.obj,y.key,y.val,⟨y.dot.rep,y.dot.seq⟩⟩) rfl (by decide) (by decide) rfl
   have es:stG 1 τ' (fld 0 (atz 6 v i)) (.bool ((k+6*(i:Int)).tmod 3==0))=some (.tup [],τ0):=es
   have hl0:=stG_len es
   simp +contextual (disch:=omega) only[go_sem,e0,e1,e5,hat,es]
   refine by_ret (l_markText_ret _ _ (by omega)) ?_
   simp +contextual (disch:=omega) only[go_sem,e0,e1,hat]
   obtain⟨τ1,es,H⟩:=H.sts hj 1 1 (.str (mtx (k+6*(i:Int)+1))) (⟨((k+6*(i:Int)).tmod 3==0),mtx (k+6*(i:Int)+1),y.key,y.val,⟨y.dot.rep,y.dot.seq⟩⟩) rfl (by decide) (by decide) rfl
   have es:stG 1 τ0 (fld 1 (atz 6 v i)) (.str (mtx (k+6*(i:Int)+1)))=some (.tup [],τ1):=es
   have hl1:=stG_len es
   simp +contextual (disch:=omega) only[go_sem,e0,e1,e5,hat,es]
   refine by_ret (l_markText_ret _ _ (by omega)) ?_
   simp +contextual (disch:=omega) only[go_sem,e0,e1,hat]
   obtain⟨τ2,es,H⟩:=H.sts hj 1 2 (.str (mtx (k+6*(i:Int)+1+1))) (⟨((k+6*(i:Int)).tmod 3==0),mtx (k+6*(i:Int)+1),mtx (k+6*(i:Int)+1+1),y.val,⟨y.dot.rep,y.dot.seq⟩⟩) rfl (by decide) (by decide) rfl
   have es:stG 1 τ1 (fld 2 (atz 6 v i)) (.str (mtx (k+6*(i:Int)+1+1)))=some (.tup [],τ2):=es
   have hl2:=stG_len es
   simp +contextual (disch:=omega) only[go_sem,e0,e1,e5,hat,es]
   obtain⟨τ3,es,H⟩:=H.sts hj 1 3 (.int .i64 (k+6*(i:Int)+1+1+1)) (⟨((k+6*(i:Int)).tmod 3==0),mtx (k+6*(i:Int)+1),mtx (k+6*(i:Int)+1+1),k+6*(i:Int)+1+1+1,⟨y.dot.rep,y.dot.seq⟩⟩) rfl (by decide) (by decide) rfl
   have es:stG 1 τ2 (fld 3 (atz 6 v i)) (.int .i64 (k+6*(i:Int)+1+1+1))=some (.tup [],τ3):=es
   have hl3:=stG_len es
   simp +contextual (disch:=omega) only[go_sem,e0,e1,e5,hat,es]
   obtain⟨τ4,es,H⟩:=H.sts hj 1 4 (.int .i64 (k+6*(i:Int)+1+1+1+1)) (⟨((k+6*(i:Int)).tmod 3==0),mtx (k+6*(i:Int)+1),mtx (k+6*(i:Int)+1+1),k+6*(i:Int)+1+1+1,⟨k+6*(i:Int)+1+1+1+1,y.dot.seq⟩⟩) rfl (by decide) (by decide) rfl
   have es:stG 1 τ3 (fld 4 (atz 6 v i)) (.int .i64 (k+6*(i:Int)+1+1+1+1))=some (.tup [],τ4):=es
   have hl4:=stG_len es
   simp +contextual (disch:=omega) only[go_sem,e0,e1,e5,hat,es]
   obtain⟨τ5,es,H⟩:=H.sts hj 1 5 (.int .i64 (k+6*(i:Int)+1+1+1+1+1)) (⟨((k+6*(i:Int)).tmod 3==0),mtx (k+6*(i:Int)+1),mtx (k+6*(i:Int)+1+1),k+6*(i:Int)+1+1+1,⟨k+6*(i:Int)+1+1+1+1,k+6*(i:Int)+1+1+1+1+1⟩⟩) rfl (by decide) (by decide) rfl
   have es:stG 1 τ4 (fld 5 (atz 6 v i)) (.int .i64 (k+6*(i:Int)+1+1+1+1+1))=some (.tup [],τ5):=es
   have hl5:=stG_len es
   simp +contextual (disch:=omega) only[go_sem,e0,e1,e5,hat,es]
   have H2:Hp σ τ5 (ow pLive.kd v (L.set i (mLive (k+(6:Nat)*(i:Int))))::rs.eraseIdx i0):=H
   rw[hst] at H2
   exact⟨by omega,by omega,H2⟩
  ·rintro env τ' e5 c0 ⟨e0,e1,hle,H⟩
   rw[mark_end] at H
   have hln:=(H.sl 0 rfl).len
   rw[mkF_length] at hln
   simp +contextual (disch:=omega) only[go_sem,c0,e0,e1,e5,hln]
   exact⟨_,rfl,hle,rfl,H⟩)
 exact⟨τ',hR,H'.unpick hlt⟩
end Go.Proofs.YtffnefmklckngaaGreat.Sy
namespace Go.Proofs.YtffnefmklckngaaGreat.Sy
open Go Go.RowKit
set_option linter.unusedSimpArgs false
set_option linter.unusedVariables false
abbrev n_l_markTallyS:Nat:=45
def F_l_markTallyS:Fn1:=⟨35,[.t 4],(.seq (.reg [o 4 (.mov (.k (.int .i64 0)))]) (.seq (.seq (.reg [o 5 (.mov (.k (.int .i64 0)))]) (.blk 0 (.lop (.seq (.seq (.reg [o 6 (.mov (.t 5)),o 7 (.mov (.t 0)),o 8 (.len false (.t 7)),o 9 (.bin .lss (.t 6) (.t 8))]) (.cnd (.t 9) .skip (.ext 0))) (.seq (.blk 1 (.seq (.reg [o 12 (.mov (.t 0)),o 13 (.mov (.t 5)),o 14 (.mov (.t 1)),o 15 (.call 44 [(.t 14)]),o 16 (.iad 3 (.t 12) (.t 13)),o 17 (.fad 0 (.t 16)),on (.st 1 (.t 17) (.t 15))]) (.seq (.reg [o 18 (.mov (.t 1)),o 19 (.bin .add (.t 18) (.k (.int .i64 1))),o 1 (.mov (.t 19))]) (.seq (.reg [o 20 (.mov (.t 0)),o 21 (.mov (.t 5)),o 22 (.mov (.t 1)),o 23 (.iad 3 (.t 20) (.t 21)),o 24 (.fad 1 (.t 23)),on (.st 1 (.t 24) (.t 22))]) (.seq (.reg [o 25 (.mov (.t 1)),o 26 (.bin .add (.t 25) (.k (.int .i64 1))),o 1 (.mov (.t 26))]) (.seq (.reg [o 27 (.mov (.t 0)),o 28 (.mov (.t 5)),o 29 (.mov (.t 1)),o 30 (.iad 3 (.t 27) (.t 28)),o 31 (.fad 2 (.t 30)),on (.st 1 (.t 31) (.t 29))]) (.reg [o 32 (.mov (.t 1)),o 33 (.bin .add (.t 32) (.k (.int .i64 1))),o 1 (.mov (.t 33))]))))))) (.reg [o 10 (.mov (.t 5)),o 11 (.bin .add (.t 10) (.k (.int .i64 1))),o 5 (.mov (.t 11))])))))) (.seq (.reg [o 34 (.mov (.t 1)),o 4 (.mov (.t 34))]) .ret)))⟩
theorem ir_l_markTallyS:compFn Tryz.prog n_l_markTallyS=some F_l_markTallyS:=by kernel_rfl
theorem l_markTallyS_ret {σ τ:St} {rs:List Thg} (i0:Nat) (v:GV) (l:List Tally) (k:Int) (H:Hp σ τ rs) (hi0:rs[i0]? =some (ow pTally.kd v l)) (h0:0≤k) (hk:k+3*l.length≤4611686018427387904):∃ τ',Ret Tryz.prog n_l_markTallyS [v,gi k] τ (gi (k+3*l.length)) τ'∧Hp σ τ' (rs.set i0 (ow pTally.kd v (mkF mTally 3 k l.length))):=by
 have H:=H.pick i0 hi0
 have hlt:=(List.getElem?_eq_some_iff.1 hi0).1
 obtain⟨r,τ',hR,rfl,H'⟩:=ret_mut (P:=Tryz.prog) (σ:=τ) (args:=[v,gi k]) (Post:=fun r τ'=>r=gi (k+3*l.length)∧Hp σ τ' (ow pTally.kd v (mkF mTally 3 k l.length)::rs.eraseIdx i0)) ir_l_markTallyS (Nat.le_of_ble_eq_true rfl) (by
  simp +contextual (disch:=omega) only[go_sem,F_l_markTallyS]
  refine vc_for l.length 5 (fun i env τ'=>env 0=v∧env 1=gi (k+3*(i:Int))∧τ.length≤τ'.length∧Hp σ τ' (ow pTally.kd v ((mkF mTally 3 k l.length).take i++l.drop i)::rs.eraseIdx i0)) rfl ⟨rfl,(by show gi k=gi (k+3*0);simp),Nat.le_refl _,by simpa using H⟩ ?_ ?_
  ·rintro i env τ' hi e5 c0 ⟨e0,e1,hle,H⟩
   have hL:=mark_len (l:=l) (e:=mTally) (c:=3) (k:=k) (i:=i)
   have hst:=mark_step (e:=mTally) (c:=3) (k:=k) hi
   generalize(mkF mTally 3 k l.length).take i++l.drop i=L at H hL hst
   have hj:i<L.length:=by omega
   have h1:=H.sl 0 rfl
   have hln:=h1.len
   rw[hL] at hln
   have hat:=Tally_at h1 hj
   rw[set_self hj] at H
   generalize hy:L[i]=y at H hat
   simp +contextual (disch:=omega) only[go_sem,c0,e0,e1,e5,hln,hat]
   refine by_ret (l_markText_ret _ _ (by omega)) ?_
   simp +contextual (disch:=omega) only[go_sem,e0,e1,hat]
   obtain⟨τ0,es,H⟩:=H.sts hj 1 0 (.str (mtx (k+3*(i:Int)))) (⟨mtx (k+3*(i:Int)),y.rep,y.sum⟩) rfl (by decide) (by decide) rfl
   have es:stG 1 τ' (fld 0 (atz 3 v i)) (.str (mtx (k+3*(i:Int))))=some (.tup [],τ0):=es
   have hl0:=stG_len es
   simp +contextual (disch:=omega) only[go_sem,e0,e1,e5,hat,es]
   obtain⟨τ1,es,H⟩:=H.sts hj 1 1 (.int .i64 (k+3*(i:Int)+1)) (⟨mtx (k+3*(i:Int)),k+3*(i:Int)+1,y.sum⟩) rfl (by decide) (by decide) rfl
   have es:stG 1 τ0 (fld 1 (atz 3 v i)) (.int .i64 (k+3*(i:Int)+1))=some (.tup [],τ1):=es
   have hl1:=stG_len es
   simp +contextual (disch:=omega) only[go_sem,e0,e1,e5,hat,es]
   obtain⟨τ2,es,H⟩:=H.sts hj 1 2 (.int .i64 (k+3*(i:Int)+1+1)) (⟨mtx (k+3*(i:Int)),k+3*(i:Int)+1,k+3*(i:Int)+1+1⟩) rfl (by decide) (by decide) rfl
   have es:stG 1 τ1 (fld 2 (atz 3 v i)) (.int .i64 (k+3*(i:Int)+1+1))=some (.tup [],τ2):=es
   have hl2:=stG_len es
   simp +contextual (disch:=omega) only[go_sem,e0,e1,e5,hat,es]
   have H2:Hp σ τ2 (ow pTally.kd v (L.set i (mTally (k+(3:Nat)*(i:Int))))::rs.eraseIdx i0):=H
   rw[hst] at H2
   exact⟨by omega,by omega,H2⟩
  ·rintro env τ' e5 c0 ⟨e0,e1,hle,H⟩
   rw[mark_end] at H
   have hln:=(H.sl 0 rfl).len
   rw[mkF_length] at hln
   simp +contextual (disch:=omega) only[go_sem,c0,e0,e1,e5,hln]
   exact⟨_,rfl,hle,rfl,H⟩)
 exact⟨τ',hR,H'.unpick hlt⟩
end Go.Proofs.YtffnefmklckngaaGreat.Sy
namespace Go.Proofs.YtffnefmklckngaaGreat.Sy
open Go Go.RowKit
set_option linter.unusedSimpArgs false
set_option linter.unusedVariables false
abbrev n_l_markState:Nat:=30
def F_l_markState:Fn1:=⟨22,[.t 4],(.seq (.reg [o 2 (.box (.t 0)),o 4 (.mov (.k (.int .i64 0)))]) (.seq (.reg [o 5 (.fad 0 (.t 2)),o 6 (.ld false 1 (.t 5)),o 7 (.mov (.t 1)),o 8 (.call 43 [(.t 6),(.t 7)]),o 1 (.mov (.t 8))]) (.seq (.reg [o 9 (.fad 1 (.t 2)),o 10 (.ld false 1 (.t 9)),o 11 (.mov (.t 1)),o 12 (.call 45 [(.t 10),(.t 11)]),o 1 (.mov (.t 12))]) (.seq (.reg [o 13 (.fad 2 (.t 2)),o 14 (.ld false 1 (.t 13)),o 15 (.mov (.t 1)),o 16 (.call 46 [(.t 14),(.t 15)]),o 1 (.mov (.t 16))]) (.seq (.reg [o 17 (.fad 3 (.t 2)),o 18 (.ld false 1 (.t 17)),o 19 (.mov (.t 1)),o 20 (.call 48 [(.t 18),(.t 19)]),o 1 (.mov (.t 20))]) (.seq (.reg [o 21 (.mov (.t 1)),o 4 (.mov (.t 21))]) .ret))))))⟩
theorem ir_l_markState:compFn Tryz.prog n_l_markState=some F_l_markState:=by kernel_rfl
theorem l_markState_ret {σ τ:St} {rs:List Thg} (i0:Nat) (cs:List GV) (x:State) (k:Int) (H:Hp σ τ rs) (hi0:rs[i0]? =some (own kState cs x)) (h0:0≤k) (hk:k+ctState x≤4611686018427387904):∃ τ',Ret Tryz.prog n_l_markState [.agg cs,gi k] τ (gi (k+ctState x)) τ'∧Hp σ τ' (rs.set i0 (own kState cs (mkState k x))):=by
 have hlt:=(List.getElem?_eq_some_iff.1 hi0).1
 have hlen:=kState.len (H.rd i0 hi0)
 have hlen:cs.length=4:=hlen
 obtain⟨v0,v1,v2,v3,rfl,H⟩:=(H.pick i0 hi0).splitState
 unfold ctState at hk
 obtain⟨r,τ',hR,rfl,H'⟩:=ret_mut (P:=Tryz.prog) (σ:=τ) (args:=[.agg (v0::v1::v2::v3::[]),gi k]) (Post:=fun r τ'=>r=gi (k+ctState x)∧Hp σ τ' (own kState (v0::v1::v2::v3::[]) (mkState k x)::rs.eraseIdx i0)) ir_l_markState (Nat.le_of_ble_eq_true rfl) (by
  have H:=H.new 1 (v0::v1::v2::v3::[])
  simp +contextual (disch:=omega) only[go_sem,F_l_markState,List.append_nil]
  obtain⟨τ0,R0,H⟩:=l_markIntS_ret 1 v0 x.know (k) H rfl (by omega) (by omega)
  refine by_mut R0 ?_
  try simp only[List.set_cons_succ,List.set_cons_zero] at H
  have hl0:=R0.2.1
  try simp +contextual (disch:=omega) only[go_sem,List.append_nil,ld_ptr (H.pt 0 rfl)]
  obtain⟨τ1,R1,H⟩:=l_markTallyS_ret 2 v1 x.tallies (k+1*(x.know.length:Int)) H rfl (by omega) (by omega)
  refine by_mut R1 ?_
  try simp only[List.set_cons_succ,List.set_cons_zero] at H
  have hl1:=R1.2.1
  try simp +contextual (disch:=omega) only[go_sem,List.append_nil,ld_ptr (H.pt 0 rfl)]
  obtain⟨τ2,R2,H⟩:=l_markLiveS_ret 3 v2 x.lives (k+1*(x.know.length:Int)+3*(x.tallies.length:Int)) H rfl (by omega) (by omega)
  refine by_mut R2 ?_
  try simp only[List.set_cons_succ,List.set_cons_zero] at H
  have hl2:=R2.2.1
  try simp +contextual (disch:=omega) only[go_sem,List.append_nil,ld_ptr (H.pt 0 rfl)]
  obtain⟨τ3,R3,H⟩:=l_markCellS_ret 4 v3 x.cells (k+1*(x.know.length:Int)+3*(x.tallies.length:Int)+6*(x.lives.length:Int)) H rfl (by omega) (by omega)
  refine by_mut R3 ?_
  try simp only[List.set_cons_succ,List.set_cons_zero] at H
  have hl3:=R3.2.1
  try simp +contextual (disch:=omega) only[go_sem,List.append_nil,ld_ptr (H.pt 0 rfl)]
  try simp only[List.length_append,List.length_cons,List.length_nil] at hl0
  refine⟨_,rfl,by omega,by unfold ctState;congr 1;omega,H.drop1.ownState (x:=mkState k x)⟩)
 exact⟨τ',hR,H'.unpick hlt⟩
end Go.Proofs.YtffnefmklckngaaGreat.Sy
namespace Go.Proofs.YtffnefmklckngaaGreat.Sy
open Go Go.RowKit
set_option linter.unusedSimpArgs false
set_option linter.unusedVariables false
abbrev n_l_szEdit:Nat:=88
def F_l_szEdit:Fn1:=⟨20,[.t 4],(.seq (.reg [o 2 (.box (.t 0)),o 4 (.mov (.k (.int .i64 0)))]) (.seq (.reg [o 5 (.mov (.t 1)),o 6 (.fad 1 (.t 2)),o 7 (.ld false 1 (.t 6)),o 8 (.len true (.t 7)),o 9 (.bin .sub (.t 5) (.t 8)),o 1 (.mov (.t 9))]) (.seq (.seq (.reg [o 10 (.mov (.t 1)),o 11 (.bin .lss (.t 10) (.k (.int .i64 0)))]) (.cnd (.t 11) (.seq (.reg [o 4 (.mov (.k (.int .i64 (-1))))]) .ret) .skip)) (.seq (.reg [o 12 (.mov (.t 1)),o 13 (.fad 2 (.t 2)),o 14 (.ld false 1 (.t 13)),o 15 (.len true (.t 14)),o 16 (.bin .sub (.t 12) (.t 15)),o 1 (.mov (.t 16))]) (.seq (.seq (.reg [o 17 (.mov (.t 1)),o 18 (.bin .lss (.t 17) (.k (.int .i64 0)))]) (.cnd (.t 18) (.seq (.reg [o 4 (.mov (.k (.int .i64 (-1))))]) .ret) .skip)) (.seq (.reg [o 19 (.mov (.t 1)),o 4 (.mov (.t 19))]) .ret))))))⟩
theorem ir_l_szEdit:compFn Tryz.prog n_l_szEdit=some F_l_szEdit:=by kernel_rfl
theorem l_szEdit_ret (σ:St) (x:Edit) (n:Int) (hw:wEdit x) (h0:0≤n) (h1:n≤1099511627776):Ret Tryz.prog n_l_szEdit [.agg [.int .i64 x.kind,.str x.obj,.str x.key,.int .i64 x.val,.int .i64 x.place],gi n] σ (gi (lf n (msEdit x))) σ:=by
 obtain⟨w0,w1⟩:=hw
 refine ret_eq ir_l_szEdit (Nat.le_of_ble_eq_true rfl) trivial ?_
 simp +contextual (disch:=omega) only[go_sem,F_l_szEdit,List.append_nil]
 refine⟨fun hn=> ?_,fun hn=> ?_⟩
 ·have hn:=of_decide_eq_true hn
  unfold msEdit lf;rw[if_pos (by omega)]
 have hn:=of_decide_eq_false hn
 try simp(disch:=omega) only[wrap_add]
 refine⟨fun hn=> ?_,fun hn=> ?_⟩
 ·have hn:=of_decide_eq_true hn
  unfold msEdit lf;rw[if_pos (by omega)]
 have hn:=of_decide_eq_false hn
 try simp(disch:=omega) only[wrap_add]
 unfold msEdit;rw[show lf n (x.obj.size+x.key.size)=n - ((x.obj.size+x.key.size:Nat):Int) by unfold lf;rw[if_neg (by omega)]];try omega
end Go.Proofs.YtffnefmklckngaaGreat.Sy
namespace Go.Proofs.YtffnefmklckngaaGreat.Sy
open Go Go.RowKit
set_option linter.unusedSimpArgs false
set_option linter.unusedVariables false
abbrev n_l_szEditS:Nat:=25
def F_l_szEditS:Fn1:=⟨27,[.t 4],(.seq (.reg [o 4 (.mov (.k (.int .i64 0)))]) (.seq (.reg [o 6 (.mov (.t 1)),o 7 (.mov (.t 0)),o 8 (.len false (.t 7)),o 9 (.bin .sub (.t 6) (.t 8)),o 1 (.mov (.t 9))]) (.seq (.seq (.reg [o 10 (.mov (.t 1)),o 11 (.bin .lss (.t 10) (.k (.int .i64 0)))]) (.cnd (.t 11) (.seq (.reg [o 4 (.mov (.k (.int .i64 (-1))))]) .ret) .skip)) (.seq (.seq (.reg [o 5 (.mov (.k (.int .i64 0)))]) (.blk 0 (.lop (.seq (.seq (.reg [o 12 (.mov (.t 5)),o 13 (.mov (.t 0)),o 14 (.len false (.t 13)),o 15 (.bin .lss (.t 12) (.t 14))]) (.cnd (.t 15) .skip (.ext 0))) (.seq (.blk 1 (.seq (.reg [o 18 (.mov (.t 0)),o 19 (.mov (.t 5)),o 20 (.iad 5 (.t 18) (.t 19)),o 21 (.ld true 5 (.t 20)),o 22 (.mov (.t 1)),o 23 (.call 88 [(.t 21),(.t 22)]),o 1 (.mov (.t 23))]) (.seq (.reg [o 24 (.mov (.t 1)),o 25 (.bin .lss (.t 24) (.k (.int .i64 0)))]) (.cnd (.t 25) (.seq (.reg [o 4 (.mov (.k (.int .i64 (-1))))]) .ret) .skip)))) (.reg [o 16 (.mov (.t 5)),o 17 (.bin .add (.t 16) (.k (.int .i64 1))),o 5 (.mov (.t 17))])))))) (.seq (.reg [o 26 (.mov (.t 1)),o 4 (.mov (.t 26))]) .ret)))))⟩
theorem ir_l_szEditS:compFn Tryz.prog n_l_szEditS=some F_l_szEditS:=by kernel_rfl
theorem l_szEditS_ret (σ:St) (v:GV) (l:List Edit) (hR:RS pEdit.kd σ v l) (n:Int) (hw:l.length≤9223372036854775807∧∀ y∈l,wEdit y) (h0:0≤n) (h1:n≤1099511627776):Ret Tryz.prog n_l_szEditS [v,gi n] σ (gi (lf n (l.length+sumL msEdit l))) σ:=by
 obtain⟨wl,we⟩:=hw
 refine ret_eq ir_l_szEditS (Nat.le_of_ble_eq_true rfl) trivial ?_
 simp +contextual (disch:=omega) only[go_sem,F_l_szEditS,hR.len]
 refine⟨fun hn=> ?_,fun hn=> ?_⟩
 ·have hn:=of_decide_eq_true hn
  unfold lf;rw[if_pos (by omega)]
 have hn:=of_decide_eq_false hn
 refine vc_for l.length 5 (fun i env τ=>∃ m:Int,env 0=v∧env 1=gi m∧m=n - l.length - sumL msEdit (l.take i)∧0≤m∧σ <+: τ) rfl ⟨n - l.length,rfl,rfl,by simp[sumL],by omega,List.prefix_refl _⟩ ?_ ?_
 ·rintro i env τ hi e5 c0 ⟨m,e0,e1,em,hm,hp⟩
  have h1:=hR.pre hp
  have hs:=sumL_snoc (f:=msEdit) hi
  have hst:=sumL_take_le msEdit l (i+1)
  simp +contextual (disch:=omega) only[go_sem,c0,e0,e1,e5,hR.len,Edit_at h1 hi]
  refine by_ret (l_szEdit_ret τ l[i] m (we _ (List.getElem_mem hi)) hm (by omega)) ?_
  simp +contextual (disch:=omega) only[go_sem,c0,e0,e1,e5,hp]
  have g0:= @lf_le m (msEdit l[i]) hm
  have g1:= @lf_ge m (msEdit l[i])
  refine⟨fun hn=> ?_,fun hn=> ?_⟩
  ·have hn:=lf_neg.1 (of_decide_eq_true hn)
   unfold lf;rw[if_pos (by omega)]
  ·have hn:=of_decide_eq_false hn
   have f:=lf_some hn
   exact⟨_,rfl,by omega,by omega⟩
 ·rintro env τ e5 c0 ⟨m,e0,e1,em,hm,hp⟩
  rw[List.take_length] at em
  simp +contextual (disch:=omega) only[go_sem,c0,e0,e1,e5,hR.len,hp]
  unfold lf;rw[if_neg (by omega)];omega
end Go.Proofs.YtffnefmklckngaaGreat.Sy
namespace Go.Proofs.YtffnefmklckngaaGreat.Sy
open Go Go.RowKit
set_option linter.unusedSimpArgs false
set_option linter.unusedVariables false
abbrev n_l_szCell:Nat:=123
def F_l_szCell:Fn1:=⟨13,[.t 4],(.seq (.reg [o 2 (.box (.t 0)),o 4 (.mov (.k (.int .i64 0)))]) (.seq (.reg [o 5 (.mov (.t 1)),o 6 (.fad 0 (.t 2)),o 7 (.ld false 1 (.t 6)),o 8 (.len true (.t 7)),o 9 (.bin .sub (.t 5) (.t 8)),o 1 (.mov (.t 9))]) (.seq (.seq (.reg [o 10 (.mov (.t 1)),o 11 (.bin .lss (.t 10) (.k (.int .i64 0)))]) (.cnd (.t 11) (.seq (.reg [o 4 (.mov (.k (.int .i64 (-1))))]) .ret) .skip)) (.seq (.reg [o 12 (.mov (.t 1)),o 4 (.mov (.t 12))]) .ret))))⟩
theorem ir_l_szCell:compFn Tryz.prog n_l_szCell=some F_l_szCell:=by kernel_rfl
theorem l_szCell_ret (σ:St) (x:Cell) (n:Int) (hw:wCell x) (h0:0≤n) (h1:n≤1099511627776):Ret Tryz.prog n_l_szCell [.agg [.str x.obj,.int .i64 x.dot.rep,.int .i64 x.dot.seq,.int .i64 x.time,.int .i64 x.ref.rep,.int .i64 x.ref.seq,.int .i64 x.val,.bool x.gone],gi n] σ (gi (lf n (msCell x))) σ:=by
 have w0:=hw;unfold wCell at w0
 refine ret_eq ir_l_szCell (Nat.le_of_ble_eq_true rfl) trivial ?_
 simp +contextual (disch:=omega) only[go_sem,F_l_szCell,List.append_nil]
 refine⟨fun hn=> ?_,fun hn=> ?_⟩
 ·have hn:=of_decide_eq_true hn
  unfold msCell lf;rw[if_pos (by omega)]
 have hn:=of_decide_eq_false hn
 try simp(disch:=omega) only[wrap_add]
 unfold msCell;rw[show lf n (x.obj.size)=n - ((x.obj.size:Nat):Int) by unfold lf;rw[if_neg (by omega)]];try omega
end Go.Proofs.YtffnefmklckngaaGreat.Sy
namespace Go.Proofs.YtffnefmklckngaaGreat.Sy
open Go Go.RowKit
set_option linter.unusedSimpArgs false
set_option linter.unusedVariables false
abbrev n_l_szCellS:Nat:=65
def F_l_szCellS:Fn1:=⟨27,[.t 4],(.seq (.reg [o 4 (.mov (.k (.int .i64 0)))]) (.seq (.reg [o 6 (.mov (.t 1)),o 7 (.mov (.t 0)),o 8 (.len false (.t 7)),o 9 (.bin .sub (.t 6) (.t 8)),o 1 (.mov (.t 9))]) (.seq (.seq (.reg [o 10 (.mov (.t 1)),o 11 (.bin .lss (.t 10) (.k (.int .i64 0)))]) (.cnd (.t 11) (.seq (.reg [o 4 (.mov (.k (.int .i64 (-1))))]) .ret) .skip)) (.seq (.seq (.reg [o 5 (.mov (.k (.int .i64 0)))]) (.blk 0 (.lop (.seq (.seq (.reg [o 12 (.mov (.t 5)),o 13 (.mov (.t 0)),o 14 (.len false (.t 13)),o 15 (.bin .lss (.t 12) (.t 14))]) (.cnd (.t 15) .skip (.ext 0))) (.seq (.blk 1 (.seq (.reg [o 18 (.mov (.t 0)),o 19 (.mov (.t 5)),o 20 (.iad 8 (.t 18) (.t 19)),o 21 (.ld true 8 (.t 20)),o 22 (.mov (.t 1)),o 23 (.call 123 [(.t 21),(.t 22)]),o 1 (.mov (.t 23))]) (.seq (.reg [o 24 (.mov (.t 1)),o 25 (.bin .lss (.t 24) (.k (.int .i64 0)))]) (.cnd (.t 25) (.seq (.reg [o 4 (.mov (.k (.int .i64 (-1))))]) .ret) .skip)))) (.reg [o 16 (.mov (.t 5)),o 17 (.bin .add (.t 16) (.k (.int .i64 1))),o 5 (.mov (.t 17))])))))) (.seq (.reg [o 26 (.mov (.t 1)),o 4 (.mov (.t 26))]) .ret)))))⟩
theorem ir_l_szCellS:compFn Tryz.prog n_l_szCellS=some F_l_szCellS:=by kernel_rfl
theorem l_szCellS_ret (σ:St) (v:GV) (l:List Cell) (hR:RS pCell.kd σ v l) (n:Int) (hw:l.length≤9223372036854775807∧∀ y∈l,wCell y) (h0:0≤n) (h1:n≤1099511627776):Ret Tryz.prog n_l_szCellS [v,gi n] σ (gi (lf n (l.length+sumL msCell l))) σ:=by
 obtain⟨wl,we⟩:=hw
 refine ret_eq ir_l_szCellS (Nat.le_of_ble_eq_true rfl) trivial ?_
 simp +contextual (disch:=omega) only[go_sem,F_l_szCellS,hR.len]
 refine⟨fun hn=> ?_,fun hn=> ?_⟩
 ·have hn:=of_decide_eq_true hn
  unfold lf;rw[if_pos (by omega)]
 have hn:=of_decide_eq_false hn
 refine vc_for l.length 5 (fun i env τ=>∃ m:Int,env 0=v∧env 1=gi m∧m=n - l.length - sumL msCell (l.take i)∧0≤m∧σ <+: τ) rfl ⟨n - l.length,rfl,rfl,by simp[sumL],by omega,List.prefix_refl _⟩ ?_ ?_
 ·rintro i env τ hi e5 c0 ⟨m,e0,e1,em,hm,hp⟩
  have h1:=hR.pre hp
  have hs:=sumL_snoc (f:=msCell) hi
  have hst:=sumL_take_le msCell l (i+1)
  simp +contextual (disch:=omega) only[go_sem,c0,e0,e1,e5,hR.len,Cell_at h1 hi]
  refine by_ret (l_szCell_ret τ l[i] m (we _ (List.getElem_mem hi)) hm (by omega)) ?_
  simp +contextual (disch:=omega) only[go_sem,c0,e0,e1,e5,hp]
  have g0:= @lf_le m (msCell l[i]) hm
  have g1:= @lf_ge m (msCell l[i])
  refine⟨fun hn=> ?_,fun hn=> ?_⟩
  ·have hn:=lf_neg.1 (of_decide_eq_true hn)
   unfold lf;rw[if_pos (by omega)]
  ·have hn:=of_decide_eq_false hn
   have f:=lf_some hn
   exact⟨_,rfl,by omega,by omega⟩
 ·rintro env τ e5 c0 ⟨m,e0,e1,em,hm,hp⟩
  rw[List.take_length] at em
  simp +contextual (disch:=omega) only[go_sem,c0,e0,e1,e5,hR.len,hp]
  unfold lf;rw[if_neg (by omega)];omega
end Go.Proofs.YtffnefmklckngaaGreat.Sy
namespace Go.Proofs.YtffnefmklckngaaGreat.Sy
open Go Go.RowKit
set_option linter.unusedSimpArgs false
set_option linter.unusedVariables false
abbrev n_l_szIntS:Nat:=62
def F_l_szIntS:Fn1:=⟨12,[.t 4],(.seq (.reg [o 4 (.mov (.k (.int .i64 0)))]) (.seq (.reg [o 5 (.mov (.t 1)),o 6 (.mov (.t 0)),o 7 (.len false (.t 6)),o 8 (.bin .sub (.t 5) (.t 7)),o 1 (.mov (.t 8))]) (.seq (.seq (.reg [o 9 (.mov (.t 1)),o 10 (.bin .lss (.t 9) (.k (.int .i64 0)))]) (.cnd (.t 10) (.seq (.reg [o 4 (.mov (.k (.int .i64 (-1))))]) .ret) .skip)) (.seq (.reg [o 11 (.mov (.t 1)),o 4 (.mov (.t 11))]) .ret))))⟩
theorem ir_l_szIntS:compFn Tryz.prog n_l_szIntS=some F_l_szIntS:=by kernel_rfl
theorem l_szIntS_ret (σ:St) (v:GV) (l:List Int) (hR:RS pI.kd σ v l) (n:Int) (hw:l.length≤9223372036854775807) (h0:0≤n) (h1:n≤1099511627776):Ret Tryz.prog n_l_szIntS [v,gi n] σ (gi (lf n l.length)) σ:=by
 refine ret_eq ir_l_szIntS (Nat.le_of_ble_eq_true rfl) trivial ?_
 simp +contextual (disch:=omega) only[go_sem,F_l_szIntS,hR.len]
 refine⟨fun h=> ?_,fun h=> ?_⟩
 ·rw[lf,if_pos (of_decide_eq_true h)]
 ·rw[lf,if_neg (of_decide_eq_false h)]
end Go.Proofs.YtffnefmklckngaaGreat.Sy
namespace Go.Proofs.YtffnefmklckngaaGreat.Sy
open Go Go.RowKit
set_option linter.unusedSimpArgs false
set_option linter.unusedVariables false
abbrev n_l_szLive:Nat:=122
def F_l_szLive:Fn1:=⟨20,[.t 4],(.seq (.reg [o 2 (.box (.t 0)),o 4 (.mov (.k (.int .i64 0)))]) (.seq (.reg [o 5 (.mov (.t 1)),o 6 (.fad 1 (.t 2)),o 7 (.ld false 1 (.t 6)),o 8 (.len true (.t 7)),o 9 (.bin .sub (.t 5) (.t 8)),o 1 (.mov (.t 9))]) (.seq (.seq (.reg [o 10 (.mov (.t 1)),o 11 (.bin .lss (.t 10) (.k (.int .i64 0)))]) (.cnd (.t 11) (.seq (.reg [o 4 (.mov (.k (.int .i64 (-1))))]) .ret) .skip)) (.seq (.reg [o 12 (.mov (.t 1)),o 13 (.fad 2 (.t 2)),o 14 (.ld false 1 (.t 13)),o 15 (.len true (.t 14)),o 16 (.bin .sub (.t 12) (.t 15)),o 1 (.mov (.t 16))]) (.seq (.seq (.reg [o 17 (.mov (.t 1)),o 18 (.bin .lss (.t 17) (.k (.int .i64 0)))]) (.cnd (.t 18) (.seq (.reg [o 4 (.mov (.k (.int .i64 (-1))))]) .ret) .skip)) (.seq (.reg [o 19 (.mov (.t 1)),o 4 (.mov (.t 19))]) .ret))))))⟩
theorem ir_l_szLive:compFn Tryz.prog n_l_szLive=some F_l_szLive:=by kernel_rfl
theorem l_szLive_ret (σ:St) (x:Live) (n:Int) (hw:wLive x) (h0:0≤n) (h1:n≤1099511627776):Ret Tryz.prog n_l_szLive [.agg [.bool x.map,.str x.obj,.str x.key,.int .i64 x.val,.int .i64 x.dot.rep,.int .i64 x.dot.seq],gi n] σ (gi (lf n (msLive x))) σ:=by
 obtain⟨w0,w1⟩:=hw
 refine ret_eq ir_l_szLive (Nat.le_of_ble_eq_true rfl) trivial ?_
 simp +contextual (disch:=omega) only[go_sem,F_l_szLive,List.append_nil]
 refine⟨fun hn=> ?_,fun hn=> ?_⟩
 ·have hn:=of_decide_eq_true hn
  unfold msLive lf;rw[if_pos (by omega)]
 have hn:=of_decide_eq_false hn
 try simp(disch:=omega) only[wrap_add]
 refine⟨fun hn=> ?_,fun hn=> ?_⟩
 ·have hn:=of_decide_eq_true hn
  unfold msLive lf;rw[if_pos (by omega)]
 have hn:=of_decide_eq_false hn
 try simp(disch:=omega) only[wrap_add]
 unfold msLive;rw[show lf n (x.obj.size+x.key.size)=n - ((x.obj.size+x.key.size:Nat):Int) by unfold lf;rw[if_neg (by omega)]];try omega
end Go.Proofs.YtffnefmklckngaaGreat.Sy
namespace Go.Proofs.YtffnefmklckngaaGreat.Sy
open Go Go.RowKit
set_option linter.unusedSimpArgs false
set_option linter.unusedVariables false
abbrev n_l_szLiveS:Nat:=64
def F_l_szLiveS:Fn1:=⟨27,[.t 4],(.seq (.reg [o 4 (.mov (.k (.int .i64 0)))]) (.seq (.reg [o 6 (.mov (.t 1)),o 7 (.mov (.t 0)),o 8 (.len false (.t 7)),o 9 (.bin .sub (.t 6) (.t 8)),o 1 (.mov (.t 9))]) (.seq (.seq (.reg [o 10 (.mov (.t 1)),o 11 (.bin .lss (.t 10) (.k (.int .i64 0)))]) (.cnd (.t 11) (.seq (.reg [o 4 (.mov (.k (.int .i64 (-1))))]) .ret) .skip)) (.seq (.seq (.reg [o 5 (.mov (.k (.int .i64 0)))]) (.blk 0 (.lop (.seq (.seq (.reg [o 12 (.mov (.t 5)),o 13 (.mov (.t 0)),o 14 (.len false (.t 13)),o 15 (.bin .lss (.t 12) (.t 14))]) (.cnd (.t 15) .skip (.ext 0))) (.seq (.blk 1 (.seq (.reg [o 18 (.mov (.t 0)),o 19 (.mov (.t 5)),o 20 (.iad 6 (.t 18) (.t 19)),o 21 (.ld true 6 (.t 20)),o 22 (.mov (.t 1)),o 23 (.call 122 [(.t 21),(.t 22)]),o 1 (.mov (.t 23))]) (.seq (.reg [o 24 (.mov (.t 1)),o 25 (.bin .lss (.t 24) (.k (.int .i64 0)))]) (.cnd (.t 25) (.seq (.reg [o 4 (.mov (.k (.int .i64 (-1))))]) .ret) .skip)))) (.reg [o 16 (.mov (.t 5)),o 17 (.bin .add (.t 16) (.k (.int .i64 1))),o 5 (.mov (.t 17))])))))) (.seq (.reg [o 26 (.mov (.t 1)),o 4 (.mov (.t 26))]) .ret)))))⟩
theorem ir_l_szLiveS:compFn Tryz.prog n_l_szLiveS=some F_l_szLiveS:=by kernel_rfl
theorem l_szLiveS_ret (σ:St) (v:GV) (l:List Live) (hR:RS pLive.kd σ v l) (n:Int) (hw:l.length≤9223372036854775807∧∀ y∈l,wLive y) (h0:0≤n) (h1:n≤1099511627776):Ret Tryz.prog n_l_szLiveS [v,gi n] σ (gi (lf n (l.length+sumL msLive l))) σ:=by
 obtain⟨wl,we⟩:=hw
 refine ret_eq ir_l_szLiveS (Nat.le_of_ble_eq_true rfl) trivial ?_
 simp +contextual (disch:=omega) only[go_sem,F_l_szLiveS,hR.len]
 refine⟨fun hn=> ?_,fun hn=> ?_⟩
 ·have hn:=of_decide_eq_true hn
  unfold lf;rw[if_pos (by omega)]
 have hn:=of_decide_eq_false hn
 refine vc_for l.length 5 (fun i env τ=>∃ m:Int,env 0=v∧env 1=gi m∧m=n - l.length - sumL msLive (l.take i)∧0≤m∧σ <+: τ) rfl ⟨n - l.length,rfl,rfl,by simp[sumL],by omega,List.prefix_refl _⟩ ?_ ?_
 ·rintro i env τ hi e5 c0 ⟨m,e0,e1,em,hm,hp⟩
  have h1:=hR.pre hp
  have hs:=sumL_snoc (f:=msLive) hi
  have hst:=sumL_take_le msLive l (i+1)
  simp +contextual (disch:=omega) only[go_sem,c0,e0,e1,e5,hR.len,Live_at h1 hi]
  refine by_ret (l_szLive_ret τ l[i] m (we _ (List.getElem_mem hi)) hm (by omega)) ?_
  simp +contextual (disch:=omega) only[go_sem,c0,e0,e1,e5,hp]
  have g0:= @lf_le m (msLive l[i]) hm
  have g1:= @lf_ge m (msLive l[i])
  refine⟨fun hn=> ?_,fun hn=> ?_⟩
  ·have hn:=lf_neg.1 (of_decide_eq_true hn)
   unfold lf;rw[if_pos (by omega)]
  ·have hn:=of_decide_eq_false hn
   have f:=lf_some hn
   exact⟨_,rfl,by omega,by omega⟩
 ·rintro env τ e5 c0 ⟨m,e0,e1,em,hm,hp⟩
  rw[List.take_length] at em
  simp +contextual (disch:=omega) only[go_sem,c0,e0,e1,e5,hR.len,hp]
  unfold lf;rw[if_neg (by omega)];omega
end Go.Proofs.YtffnefmklckngaaGreat.Sy
namespace Go.Proofs.YtffnefmklckngaaGreat.Sy
open Go Go.RowKit
set_option linter.unusedSimpArgs false
set_option linter.unusedVariables false
abbrev n_l_szTally:Nat:=121
def F_l_szTally:Fn1:=⟨13,[.t 4],(.seq (.reg [o 2 (.box (.t 0)),o 4 (.mov (.k (.int .i64 0)))]) (.seq (.reg [o 5 (.mov (.t 1)),o 6 (.fad 0 (.t 2)),o 7 (.ld false 1 (.t 6)),o 8 (.len true (.t 7)),o 9 (.bin .sub (.t 5) (.t 8)),o 1 (.mov (.t 9))]) (.seq (.seq (.reg [o 10 (.mov (.t 1)),o 11 (.bin .lss (.t 10) (.k (.int .i64 0)))]) (.cnd (.t 11) (.seq (.reg [o 4 (.mov (.k (.int .i64 (-1))))]) .ret) .skip)) (.seq (.reg [o 12 (.mov (.t 1)),o 4 (.mov (.t 12))]) .ret))))⟩
theorem ir_l_szTally:compFn Tryz.prog n_l_szTally=some F_l_szTally:=by kernel_rfl
theorem l_szTally_ret (σ:St) (x:Tally) (n:Int) (hw:wTally x) (h0:0≤n) (h1:n≤1099511627776):Ret Tryz.prog n_l_szTally [.agg [.str x.obj,.int .i64 x.rep,.int .i64 x.sum],gi n] σ (gi (lf n (msTally x))) σ:=by
 have w0:=hw;unfold wTally at w0
 refine ret_eq ir_l_szTally (Nat.le_of_ble_eq_true rfl) trivial ?_
 simp +contextual (disch:=omega) only[go_sem,F_l_szTally,List.append_nil]
 refine⟨fun hn=> ?_,fun hn=> ?_⟩
 ·have hn:=of_decide_eq_true hn
  unfold msTally lf;rw[if_pos (by omega)]
 have hn:=of_decide_eq_false hn
 try simp(disch:=omega) only[wrap_add]
 unfold msTally;rw[show lf n (x.obj.size)=n - ((x.obj.size:Nat):Int) by unfold lf;rw[if_neg (by omega)]];try omega
end Go.Proofs.YtffnefmklckngaaGreat.Sy
namespace Go.Proofs.YtffnefmklckngaaGreat.Sy
open Go Go.RowKit
set_option linter.unusedSimpArgs false
set_option linter.unusedVariables false
abbrev n_l_szTallyS:Nat:=63
def F_l_szTallyS:Fn1:=⟨27,[.t 4],(.seq (.reg [o 4 (.mov (.k (.int .i64 0)))]) (.seq (.reg [o 6 (.mov (.t 1)),o 7 (.mov (.t 0)),o 8 (.len false (.t 7)),o 9 (.bin .sub (.t 6) (.t 8)),o 1 (.mov (.t 9))]) (.seq (.seq (.reg [o 10 (.mov (.t 1)),o 11 (.bin .lss (.t 10) (.k (.int .i64 0)))]) (.cnd (.t 11) (.seq (.reg [o 4 (.mov (.k (.int .i64 (-1))))]) .ret) .skip)) (.seq (.seq (.reg [o 5 (.mov (.k (.int .i64 0)))]) (.blk 0 (.lop (.seq (.seq (.reg [o 12 (.mov (.t 5)),o 13 (.mov (.t 0)),o 14 (.len false (.t 13)),o 15 (.bin .lss (.t 12) (.t 14))]) (.cnd (.t 15) .skip (.ext 0))) (.seq (.blk 1 (.seq (.reg [o 18 (.mov (.t 0)),o 19 (.mov (.t 5)),o 20 (.iad 3 (.t 18) (.t 19)),o 21 (.ld true 3 (.t 20)),o 22 (.mov (.t 1)),o 23 (.call 121 [(.t 21),(.t 22)]),o 1 (.mov (.t 23))]) (.seq (.reg [o 24 (.mov (.t 1)),o 25 (.bin .lss (.t 24) (.k (.int .i64 0)))]) (.cnd (.t 25) (.seq (.reg [o 4 (.mov (.k (.int .i64 (-1))))]) .ret) .skip)))) (.reg [o 16 (.mov (.t 5)),o 17 (.bin .add (.t 16) (.k (.int .i64 1))),o 5 (.mov (.t 17))])))))) (.seq (.reg [o 26 (.mov (.t 1)),o 4 (.mov (.t 26))]) .ret)))))⟩
theorem ir_l_szTallyS:compFn Tryz.prog n_l_szTallyS=some F_l_szTallyS:=by kernel_rfl
theorem l_szTallyS_ret (σ:St) (v:GV) (l:List Tally) (hR:RS pTally.kd σ v l) (n:Int) (hw:l.length≤9223372036854775807∧∀ y∈l,wTally y) (h0:0≤n) (h1:n≤1099511627776):Ret Tryz.prog n_l_szTallyS [v,gi n] σ (gi (lf n (l.length+sumL msTally l))) σ:=by
 obtain⟨wl,we⟩:=hw
 refine ret_eq ir_l_szTallyS (Nat.le_of_ble_eq_true rfl) trivial ?_
 simp +contextual (disch:=omega) only[go_sem,F_l_szTallyS,hR.len]
 refine⟨fun hn=> ?_,fun hn=> ?_⟩
 ·have hn:=of_decide_eq_true hn
  unfold lf;rw[if_pos (by omega)]
 have hn:=of_decide_eq_false hn
 refine vc_for l.length 5 (fun i env τ=>∃ m:Int,env 0=v∧env 1=gi m∧m=n - l.length - sumL msTally (l.take i)∧0≤m∧σ <+: τ) rfl ⟨n - l.length,rfl,rfl,by simp[sumL],by omega,List.prefix_refl _⟩ ?_ ?_
 ·rintro i env τ hi e5 c0 ⟨m,e0,e1,em,hm,hp⟩
  have h1:=hR.pre hp
  have hs:=sumL_snoc (f:=msTally) hi
  have hst:=sumL_take_le msTally l (i+1)
  simp +contextual (disch:=omega) only[go_sem,c0,e0,e1,e5,hR.len,Tally_at h1 hi]
  refine by_ret (l_szTally_ret τ l[i] m (we _ (List.getElem_mem hi)) hm (by omega)) ?_
  simp +contextual (disch:=omega) only[go_sem,c0,e0,e1,e5,hp]
  have g0:= @lf_le m (msTally l[i]) hm
  have g1:= @lf_ge m (msTally l[i])
  refine⟨fun hn=> ?_,fun hn=> ?_⟩
  ·have hn:=lf_neg.1 (of_decide_eq_true hn)
   unfold lf;rw[if_pos (by omega)]
  ·have hn:=of_decide_eq_false hn
   have f:=lf_some hn
   exact⟨_,rfl,by omega,by omega⟩
 ·rintro env τ e5 c0 ⟨m,e0,e1,em,hm,hp⟩
  rw[List.take_length] at em
  simp +contextual (disch:=omega) only[go_sem,c0,e0,e1,e5,hR.len,hp]
  unfold lf;rw[if_neg (by omega)];omega
end Go.Proofs.YtffnefmklckngaaGreat.Sy
namespace Go.Proofs.YtffnefmklckngaaGreat.Sy
open Go Go.RowKit
set_option linter.unusedSimpArgs false
set_option linter.unusedVariables false
abbrev n_l_szState:Nat:=20
def F_l_szState:Fn1:=⟨30,[.t 4],(.seq (.reg [o 2 (.box (.t 0)),o 4 (.mov (.k (.int .i64 0)))]) (.seq (.reg [o 5 (.fad 0 (.t 2)),o 6 (.ld false 1 (.t 5)),o 7 (.mov (.t 1)),o 8 (.call 62 [(.t 6),(.t 7)]),o 1 (.mov (.t 8))]) (.seq (.seq (.reg [o 9 (.mov (.t 1)),o 10 (.bin .lss (.t 9) (.k (.int .i64 0)))]) (.cnd (.t 10) (.seq (.reg [o 4 (.mov (.k (.int .i64 (-1))))]) .ret) .skip)) (.seq (.reg [o 11 (.fad 1 (.t 2)),o 12 (.ld false 1 (.t 11)),o 13 (.mov (.t 1)),o 14 (.call 63 [(.t 12),(.t 13)]),o 1 (.mov (.t 14))]) (.seq (.seq (.reg [o 15 (.mov (.t 1)),o 16 (.bin .lss (.t 15) (.k (.int .i64 0)))]) (.cnd (.t 16) (.seq (.reg [o 4 (.mov (.k (.int .i64 (-1))))]) .ret) .skip)) (.seq (.reg [o 17 (.fad 2 (.t 2)),o 18 (.ld false 1 (.t 17)),o 19 (.mov (.t 1)),o 20 (.call 64 [(.t 18),(.t 19)]),o 1 (.mov (.t 20))]) (.seq (.seq (.reg [o 21 (.mov (.t 1)),o 22 (.bin .lss (.t 21) (.k (.int .i64 0)))]) (.cnd (.t 22) (.seq (.reg [o 4 (.mov (.k (.int .i64 (-1))))]) .ret) .skip)) (.seq (.reg [o 23 (.fad 3 (.t 2)),o 24 (.ld false 1 (.t 23)),o 25 (.mov (.t 1)),o 26 (.call 65 [(.t 24),(.t 25)]),o 1 (.mov (.t 26))]) (.seq (.seq (.reg [o 27 (.mov (.t 1)),o 28 (.bin .lss (.t 27) (.k (.int .i64 0)))]) (.cnd (.t 28) (.seq (.reg [o 4 (.mov (.k (.int .i64 (-1))))]) .ret) .skip)) (.seq (.reg [o 29 (.mov (.t 1)),o 4 (.mov (.t 29))]) .ret))))))))))⟩
theorem ir_l_szState:compFn Tryz.prog n_l_szState=some F_l_szState:=by kernel_rfl
theorem l_szState_ret (σ:St) (cs:List GV) (x:State) (hR:kState.R σ x cs) (n:Int) (hw:wState x) (h0:0≤n) (h1:n≤1099511627776):Ret Tryz.prog n_l_szState [.agg cs,gi n] σ (gi (lf n (msState x))) σ:=by
 obtain⟨v0,v1,v2,v3,rfl,q0,q1,q2,q3⟩:=hR
 obtain⟨w0,w1,w2,w3⟩:=hw
 refine ret_eq ir_l_szState (Nat.le_of_ble_eq_true rfl) trivial ?_
 simp +contextual (disch:=omega) only[go_sem,F_l_szState,List.append_nil]
 refine by_ret (l_szIntS_ret _ v0 x.know (q0.pre (pre1 _ _)) (n) w0 (by omega) (by omega)) ?_
 simp +contextual (disch:=omega) only[go_sem,List.append_nil]
 have g0:= @lf_le (n) (x.know.length) (by omega)
 refine⟨fun hn=> ?_,fun hn=> ?_⟩
 ·have hn:=of_decide_eq_true hn
  have hn:=lf_neg.1 hn
  unfold msState lf;rw[if_pos (by omega)]
 have hn:=of_decide_eq_false hn
 have f0:=lf_some hn
 try simp(disch:=omega) only[wrap_add]
 refine by_ret (l_szTallyS_ret _ v1 x.tallies (q1.pre (pre1 _ _)) (lf (n) (x.know.length)) w1 (by omega) (by omega)) ?_
 simp +contextual (disch:=omega) only[go_sem,List.append_nil]
 have g1:= @lf_le (lf (n) (x.know.length)) ((x.tallies.length+sumL msTally x.tallies)) (by omega)
 refine⟨fun hn=> ?_,fun hn=> ?_⟩
 ·have hn:=of_decide_eq_true hn
  have hn:=lf_neg.1 hn
  unfold msState lf;rw[if_pos (by omega)]
 have hn:=of_decide_eq_false hn
 have f1:=lf_some hn
 try simp(disch:=omega) only[wrap_add]
 refine by_ret (l_szLiveS_ret _ v2 x.lives (q2.pre (pre1 _ _)) (lf (lf (n) (x.know.length)) ((x.tallies.length+sumL msTally x.tallies))) w2 (by omega) (by omega)) ?_
 simp +contextual (disch:=omega) only[go_sem,List.append_nil]
 have g2:= @lf_le (lf (lf (n) (x.know.length)) ((x.tallies.length+sumL msTally x.tallies))) ((x.lives.length+sumL msLive x.lives)) (by omega)
 refine⟨fun hn=> ?_,fun hn=> ?_⟩
 ·have hn:=of_decide_eq_true hn
  have hn:=lf_neg.1 hn
  unfold msState lf;rw[if_pos (by omega)]
 have hn:=of_decide_eq_false hn
 have f2:=lf_some hn
 try simp(disch:=omega) only[wrap_add]
 refine by_ret (l_szCellS_ret _ v3 x.cells (q3.pre (pre1 _ _)) (lf (lf (lf (n) (x.know.length)) ((x.tallies.length+sumL msTally x.tallies))) ((x.lives.length+sumL msLive x.lives))) w3 (by omega) (by omega)) ?_
 simp +contextual (disch:=omega) only[go_sem,List.append_nil]
 have g3:= @lf_le (lf (lf (lf (n) (x.know.length)) ((x.tallies.length+sumL msTally x.tallies))) ((x.lives.length+sumL msLive x.lives))) ((x.cells.length+sumL msCell x.cells)) (by omega)
 refine⟨fun hn=> ?_,fun hn=> ?_⟩
 ·have hn:=of_decide_eq_true hn
  have hn:=lf_neg.1 hn
  unfold msState lf;rw[if_pos (by omega)]
 have hn:=of_decide_eq_false hn
 have f3:=lf_some hn
 try simp(disch:=omega) only[wrap_add]
 unfold msState;rw[show lf n (x.know.length+(x.tallies.length+sumL msTally x.tallies)+(x.lives.length+sumL msLive x.lives)+(x.cells.length+sumL msCell x.cells))=n - ((x.know.length+(x.tallies.length+sumL msTally x.tallies)+(x.lives.length+sumL msLive x.lives)+(x.cells.length+sumL msCell x.cells):Nat):Int) by unfold lf;rw[if_neg (by omega)]];try omega
end Go.Proofs.YtffnefmklckngaaGreat.Sy
namespace Go.Proofs.YtffnefmklckngaaGreat.Sy
open Go Go.RowKit
set_option linter.unusedSimpArgs false
set_option linter.unusedVariables false
abbrev n_l_toEdit:Nat:=92
def F_l_toEdit:Fn1:=⟨20,[.c 2 true 5],(.seq (.reg [o 1 (.box (.t 0)),o 2 (.new [(.int .i64 0),(.str ⟨#[]⟩),(.str ⟨#[]⟩),(.int .i64 0),(.int .i64 0)])]) (.seq (.reg [o 3 (.new [(.int .i64 0),(.str ⟨#[]⟩),(.str ⟨#[]⟩),(.int .i64 0),(.int .i64 0)])]) (.seq (.reg [o 4 (.fad 0 (.t 1)),o 5 (.ld false 1 (.t 4)),o 6 (.fad 0 (.t 3)),on (.st 1 (.t 6) (.t 5))]) (.seq (.reg [o 7 (.fad 1 (.t 1)),o 8 (.ld false 1 (.t 7)),o 9 (.fad 1 (.t 3)),on (.st 1 (.t 9) (.t 8))]) (.seq (.reg [o 10 (.fad 2 (.t 1)),o 11 (.ld false 1 (.t 10)),o 12 (.fad 2 (.t 3)),on (.st 1 (.t 12) (.t 11))]) (.seq (.reg [o 13 (.fad 3 (.t 1)),o 14 (.ld false 1 (.t 13)),o 15 (.fad 3 (.t 3)),on (.st 1 (.t 15) (.t 14))]) (.seq (.reg [o 16 (.fad 4 (.t 1)),o 17 (.ld false 1 (.t 16)),o 18 (.fad 4 (.t 3)),on (.st 1 (.t 18) (.t 17))]) (.seq (.reg [o 19 (.ld true 5 (.t 3)),on (.st 5 (.t 2) (.t 19))]) .ret))))))))⟩
theorem ir_l_toEdit:compFn Tryz.prog n_l_toEdit=some F_l_toEdit:=by kernel_rfl
theorem l_toEdit_ret (σ:St) (x:Edit):Ret Tryz.prog n_l_toEdit [.agg [.int .i64 x.kind,.str x.obj,.str x.key,.int .i64 x.val,.int .i64 x.place]] σ (.agg [.int .i64 x.kind,.str x.obj,.str x.key,.int .i64 x.val,.int .i64 x.place]) σ:=by
 refine ret_eq ir_l_toEdit (Nat.le_of_ble_eq_true rfl) (by simp[vLt,cLt,sLt]) ?_
 simp +contextual (disch:=omega) only[go_sem,F_l_toEdit]
end Go.Proofs.YtffnefmklckngaaGreat.Sy
namespace Go.Proofs.YtffnefmklckngaaGreat.Sy
open Go Go.RowKit
set_option linter.unusedSimpArgs false
set_option linter.unusedVariables false
abbrev n_l_toEditS:Nat:=27
def F_l_toEditS:Fn1:=⟨23,[.t 2],(.seq (.reg [o 2 (.mov (.k .nilS))]) (.seq (.reg [o 5 (.mov (.t 0)),o 6 (.len false (.t 5)),o 7 (.mks 5 56 [(.int .i64 0),(.str ⟨#[]⟩),(.str ⟨#[]⟩),(.int .i64 0),(.int .i64 0)] (.t 6) (.t 6)),o 3 (.mov (.t 7))]) (.seq (.seq (.reg [o 4 (.mov (.k (.int .i64 0)))]) (.blk 0 (.lop (.seq (.seq (.reg [o 8 (.mov (.t 4)),o 9 (.mov (.t 0)),o 10 (.len false (.t 9)),o 11 (.bin .lss (.t 8) (.t 10))]) (.cnd (.t 11) .skip (.ext 0))) (.seq (.blk 1 (.reg [o 14 (.mov (.t 3)),o 15 (.mov (.t 4)),o 16 (.mov (.t 0)),o 17 (.mov (.t 4)),o 18 (.iad 5 (.t 16) (.t 17)),o 19 (.ld true 5 (.t 18)),o 20 (.call 92 [(.t 19)]),o 21 (.iad 5 (.t 14) (.t 15)),on (.st 5 (.t 21) (.t 20))])) (.reg [o 12 (.mov (.t 4)),o 13 (.bin .add (.t 12) (.k (.int .i64 1))),o 4 (.mov (.t 13))])))))) (.seq (.reg [o 22 (.mov (.t 3)),o 2 (.mov (.t 22))]) .ret))))⟩
theorem ir_l_toEditS:compFn Tryz.prog n_l_toEditS=some F_l_toEditS:=by kernel_rfl
theorem l_toEditS_ret (σ:St) (v:GV) (l:List Edit) (hR:RS pEdit.kd σ v l) (hl:l.length≤1099511627776):∃ r τ,Ret Tryz.prog n_l_toEditS [v] σ r τ∧Hp σ τ [ow pEdit.kd r l]:=by
 refine ret_hp (rs:=fun r=>[ow pEdit.kd r l]) ir_l_toEditS (Nat.le_of_ble_eq_true rfl) ?_
 have hmk:∀ ze,mksG 5 56 ze σ (some l.length) (some l.length)=some (.sl σ.length 0 l.length,σ++[some (.row 5 (reps l.length ze))]):=fun ze=>mks_ok (by omega)
 simp +contextual (disch:=omega) only[go_sem,F_l_toEditS,hR.len,hmk]
 have H0:=((Hp.refl σ).new 5 (reps l.length (pEdit.enc ⟨0,⟨#[]⟩,⟨#[]⟩,0,0⟩))).toRow 0 (p:=pEdit) rfl (List.replicate l.length ⟨0,⟨#[]⟩,⟨#[]⟩,0,0⟩) rfl (reps_enc _ _ _) l.length (by simp)
 refine vc_for l.length 4 (fun i env τ=>env 0=v∧env 3= .sl σ.length 0 l.length∧Hp σ τ [ow pEdit.kd (.sl σ.length 0 l.length) (l.take i++List.replicate (l.length - i) ⟨0,⟨#[]⟩,⟨#[]⟩,0,0⟩)]) rfl ⟨rfl,rfl,by rw[List.take_zero,List.nil_append,Nat.sub_zero];exact H0⟩ ?_ ?_
 ·rintro i env τ hi e4 c0 ⟨e0,e3,H⟩
  have h1:=hR.pre H.sub
  have h2:=H.sl 0 rfl
  have hj:=fill_len (z:=(⟨0,⟨#[]⟩,⟨#[]⟩,0,0⟩:Edit)) hi
  simp +contextual (disch:=omega) only[go_sem,e0,e3,e4,c0,hR.len,Edit_at h1 hi]
  refine by_ret (l_toEdit_ret τ l[i]) ?_
  obtain⟨τ',es,H'⟩:=H.stw 0 rfl hj 5 (.agg [.int .i64 l[i].kind,.str l[i].obj,.str l[i].key,.int .i64 l[i].val,.int .i64 l[i].place]) l[i] rfl rfl (by decide)
  rw[fill_step hi] at H'
  have es:stG 5 τ (atz 5 (.sl σ.length 0 l.length) i) (.agg [.int .i64 l[i].kind,.str l[i].obj,.str l[i].key,.int .i64 l[i].val,.int .i64 l[i].place])=some (.tup [],τ'):=es
  simp +contextual (disch:=omega) only[go_sem,e0,e3,e4,c0,hR.len,Edit_at h1 hi,Edit_at h2 hj,es]
  exact H'
 ·rintro env τ e4 c0 ⟨e0,e3,H⟩
  rw[fill_end] at H
  simp +contextual (disch:=omega) only[go_sem,e0,e3,e4,c0,hR.len]
  exact⟨_,rfl,H⟩
end Go.Proofs.YtffnefmklckngaaGreat.Sy
namespace Go.Proofs.YtffnefmklckngaaGreat.Sy
open Go Go.RowKit
set_option linter.unusedSimpArgs false
set_option linter.unusedVariables false
abbrev n_l_toDot:Nat:=169
def F_l_toDot:Fn1:=⟨11,[.c 2 true 2],(.seq (.reg [o 1 (.box (.t 0)),o 2 (.new [(.int .i64 0),(.int .i64 0)])]) (.seq (.reg [o 3 (.new [(.int .i64 0),(.int .i64 0)])]) (.seq (.reg [o 4 (.fad 0 (.t 1)),o 5 (.ld false 1 (.t 4)),o 6 (.fad 0 (.t 3)),on (.st 1 (.t 6) (.t 5))]) (.seq (.reg [o 7 (.fad 1 (.t 1)),o 8 (.ld false 1 (.t 7)),o 9 (.fad 1 (.t 3)),on (.st 1 (.t 9) (.t 8))]) (.seq (.reg [o 10 (.ld true 2 (.t 3)),on (.st 2 (.t 2) (.t 10))]) .ret)))))⟩
theorem ir_l_toDot:compFn Tryz.prog n_l_toDot=some F_l_toDot:=by kernel_rfl
theorem l_toDot_ret (σ:St) (x:Dot):Ret Tryz.prog n_l_toDot [.agg [.int .i64 x.rep,.int .i64 x.seq]] σ (.agg [.int .i64 x.rep,.int .i64 x.seq]) σ:=by
 refine ret_eq ir_l_toDot (Nat.le_of_ble_eq_true rfl) (by simp[vLt,cLt,sLt]) ?_
 simp +contextual (disch:=omega) only[go_sem,F_l_toDot]
end Go.Proofs.YtffnefmklckngaaGreat.Sy
namespace Go.Proofs.YtffnefmklckngaaGreat.Sy
open Go Go.RowKit
set_option linter.unusedSimpArgs false
set_option linter.unusedVariables false
abbrev n_l_toCell:Nat:=130
def F_l_toCell:Fn1:=⟨25,[.c 2 true 8],(.seq (.reg [o 1 (.box (.t 0)),o 2 (.new [(.str ⟨#[]⟩),(.int .i64 0),(.int .i64 0),(.int .i64 0),(.int .i64 0),(.int .i64 0),(.int .i64 0),(.bool false)])]) (.seq (.reg [o 3 (.new [(.str ⟨#[]⟩),(.int .i64 0),(.int .i64 0),(.int .i64 0),(.int .i64 0),(.int .i64 0),(.int .i64 0),(.bool false)])]) (.seq (.reg [o 4 (.fad 0 (.t 1)),o 5 (.ld false 1 (.t 4)),o 6 (.fad 0 (.t 3)),on (.st 1 (.t 6) (.t 5))]) (.seq (.reg [o 7 (.fad 1 (.t 1)),o 8 (.ld true 2 (.t 7)),o 9 (.call 169 [(.t 8)]),o 10 (.fad 1 (.t 3)),on (.st 2 (.t 10) (.t 9))]) (.seq (.reg [o 11 (.fad 3 (.t 1)),o 12 (.ld false 1 (.t 11)),o 13 (.fad 3 (.t 3)),on (.st 1 (.t 13) (.t 12))]) (.seq (.reg [o 14 (.fad 4 (.t 1)),o 15 (.ld true 2 (.t 14)),o 16 (.call 169 [(.t 15)]),o 17 (.fad 4 (.t 3)),on (.st 2 (.t 17) (.t 16))]) (.seq (.reg [o 18 (.fad 6 (.t 1)),o 19 (.ld false 1 (.t 18)),o 20 (.fad 6 (.t 3)),on (.st 1 (.t 20) (.t 19))]) (.seq (.reg [o 21 (.fad 7 (.t 1)),o 22 (.ld false 1 (.t 21)),o 23 (.fad 7 (.t 3)),on (.st 1 (.t 23) (.t 22))]) (.seq (.reg [o 24 (.ld true 8 (.t 3)),on (.st 8 (.t 2) (.t 24))]) .ret)))))))))⟩
theorem ir_l_toCell:compFn Tryz.prog n_l_toCell=some F_l_toCell:=by kernel_rfl
theorem l_toCell_ret (σ:St) (x:Cell):Ret Tryz.prog n_l_toCell [.agg [.str x.obj,.int .i64 x.dot.rep,.int .i64 x.dot.seq,.int .i64 x.time,.int .i64 x.ref.rep,.int .i64 x.ref.seq,.int .i64 x.val,.bool x.gone]] σ (.agg [.str x.obj,.int .i64 x.dot.rep,.int .i64 x.dot.seq,.int .i64 x.time,.int .i64 x.ref.rep,.int .i64 x.ref.seq,.int .i64 x.val,.bool x.gone]) σ:=by
 refine ret_eq ir_l_toCell (Nat.le_of_ble_eq_true rfl) (by simp[vLt,cLt,sLt]) ?_
 simp +contextual (disch:=omega) only[go_sem,F_l_toCell]
 refine by_ret (l_toDot_ret _ x.dot) ?_
 simp +contextual (disch:=omega) only[go_sem,List.append_nil]
 refine by_ret (l_toDot_ret _ x.ref) ?_
 simp +contextual (disch:=omega) only[go_sem,List.append_nil]
end Go.Proofs.YtffnefmklckngaaGreat.Sy
namespace Go.Proofs.YtffnefmklckngaaGreat.Sy
open Go Go.RowKit
set_option linter.unusedSimpArgs false
set_option linter.unusedVariables false
abbrev n_l_toCellS:Nat:=76
def F_l_toCellS:Fn1:=⟨23,[.t 2],(.seq (.reg [o 2 (.mov (.k .nilS))]) (.seq (.reg [o 5 (.mov (.t 0)),o 6 (.len false (.t 5)),o 7 (.mks 8 72 [(.str ⟨#[]⟩),(.int .i64 0),(.int .i64 0),(.int .i64 0),(.int .i64 0),(.int .i64 0),(.int .i64 0),(.bool false)] (.t 6) (.t 6)),o 3 (.mov (.t 7))]) (.seq (.seq (.reg [o 4 (.mov (.k (.int .i64 0)))]) (.blk 0 (.lop (.seq (.seq (.reg [o 8 (.mov (.t 4)),o 9 (.mov (.t 0)),o 10 (.len false (.t 9)),o 11 (.bin .lss (.t 8) (.t 10))]) (.cnd (.t 11) .skip (.ext 0))) (.seq (.blk 1 (.reg [o 14 (.mov (.t 3)),o 15 (.mov (.t 4)),o 16 (.mov (.t 0)),o 17 (.mov (.t 4)),o 18 (.iad 8 (.t 16) (.t 17)),o 19 (.ld true 8 (.t 18)),o 20 (.call 130 [(.t 19)]),o 21 (.iad 8 (.t 14) (.t 15)),on (.st 8 (.t 21) (.t 20))])) (.reg [o 12 (.mov (.t 4)),o 13 (.bin .add (.t 12) (.k (.int .i64 1))),o 4 (.mov (.t 13))])))))) (.seq (.reg [o 22 (.mov (.t 3)),o 2 (.mov (.t 22))]) .ret))))⟩
theorem ir_l_toCellS:compFn Tryz.prog n_l_toCellS=some F_l_toCellS:=by kernel_rfl
theorem l_toCellS_ret (σ:St) (v:GV) (l:List Cell) (hR:RS pCell.kd σ v l) (hl:l.length≤1099511627776):∃ r τ,Ret Tryz.prog n_l_toCellS [v] σ r τ∧Hp σ τ [ow pCell.kd r l]:=by
 refine ret_hp (rs:=fun r=>[ow pCell.kd r l]) ir_l_toCellS (Nat.le_of_ble_eq_true rfl) ?_
 have hmk:∀ ze,mksG 8 72 ze σ (some l.length) (some l.length)=some (.sl σ.length 0 l.length,σ++[some (.row 8 (reps l.length ze))]):=fun ze=>mks_ok (by omega)
 simp +contextual (disch:=omega) only[go_sem,F_l_toCellS,hR.len,hmk]
 have H0:=((Hp.refl σ).new 8 (reps l.length (pCell.enc ⟨⟨#[]⟩,⟨0,0⟩,0,⟨0,0⟩,0,false⟩))).toRow 0 (p:=pCell) rfl (List.replicate l.length ⟨⟨#[]⟩,⟨0,0⟩,0,⟨0,0⟩,0,false⟩) rfl (reps_enc _ _ _) l.length (by simp)
 refine vc_for l.length 4 (fun i env τ=>env 0=v∧env 3= .sl σ.length 0 l.length∧Hp σ τ [ow pCell.kd (.sl σ.length 0 l.length) (l.take i++List.replicate (l.length - i) ⟨⟨#[]⟩,⟨0,0⟩,0,⟨0,0⟩,0,false⟩)]) rfl ⟨rfl,rfl,by rw[List.take_zero,List.nil_append,Nat.sub_zero];exact H0⟩ ?_ ?_
 ·rintro i env τ hi e4 c0 ⟨e0,e3,H⟩
  have h1:=hR.pre H.sub
  have h2:=H.sl 0 rfl
  have hj:=fill_len (z:=(⟨⟨#[]⟩,⟨0,0⟩,0,⟨0,0⟩,0,false⟩:Cell)) hi
  simp +contextual (disch:=omega) only[go_sem,e0,e3,e4,c0,hR.len,Cell_at h1 hi]
  refine by_ret (l_toCell_ret τ l[i]) ?_
  obtain⟨τ',es,H'⟩:=H.stw 0 rfl hj 8 (.agg [.str l[i].obj,.int .i64 l[i].dot.rep,.int .i64 l[i].dot.seq,.int .i64 l[i].time,.int .i64 l[i].ref.rep,.int .i64 l[i].ref.seq,.int .i64 l[i].val,.bool l[i].gone]) l[i] rfl rfl (by decide)
  rw[fill_step hi] at H'
  have es:stG 8 τ (atz 8 (.sl σ.length 0 l.length) i) (.agg [.str l[i].obj,.int .i64 l[i].dot.rep,.int .i64 l[i].dot.seq,.int .i64 l[i].time,.int .i64 l[i].ref.rep,.int .i64 l[i].ref.seq,.int .i64 l[i].val,.bool l[i].gone])=some (.tup [],τ'):=es
  simp +contextual (disch:=omega) only[go_sem,e0,e3,e4,c0,hR.len,Cell_at h1 hi,Cell_at h2 hj,es]
  exact H'
 ·rintro env τ e4 c0 ⟨e0,e3,H⟩
  rw[fill_end] at H
  simp +contextual (disch:=omega) only[go_sem,e0,e3,e4,c0,hR.len]
  exact⟨_,rfl,H⟩
end Go.Proofs.YtffnefmklckngaaGreat.Sy
namespace Go.Proofs.YtffnefmklckngaaGreat.Sy
open Go Go.RowKit
set_option linter.unusedSimpArgs false
set_option linter.unusedVariables false
abbrev n_l_toIntS:Nat:=73
def F_l_toIntS:Fn1:=⟨22,[.t 2],(.seq (.reg [o 2 (.mov (.k .nilS))]) (.seq (.reg [o 5 (.mov (.t 0)),o 6 (.len false (.t 5)),o 7 (.mks 1 8 [(.int .i64 0)] (.t 6) (.t 6)),o 3 (.mov (.t 7))]) (.seq (.seq (.reg [o 4 (.mov (.k (.int .i64 0)))]) (.blk 0 (.lop (.seq (.seq (.reg [o 8 (.mov (.t 4)),o 9 (.mov (.t 0)),o 10 (.len false (.t 9)),o 11 (.bin .lss (.t 8) (.t 10))]) (.cnd (.t 11) .skip (.ext 0))) (.seq (.blk 1 (.reg [o 14 (.mov (.t 3)),o 15 (.mov (.t 4)),o 16 (.mov (.t 0)),o 17 (.mov (.t 4)),o 18 (.iad 1 (.t 16) (.t 17)),o 19 (.ld false 1 (.t 18)),o 20 (.iad 1 (.t 14) (.t 15)),on (.st 1 (.t 20) (.t 19))])) (.reg [o 12 (.mov (.t 4)),o 13 (.bin .add (.t 12) (.k (.int .i64 1))),o 4 (.mov (.t 13))])))))) (.seq (.reg [o 21 (.mov (.t 3)),o 2 (.mov (.t 21))]) .ret))))⟩
theorem ir_l_toIntS:compFn Tryz.prog n_l_toIntS=some F_l_toIntS:=by kernel_rfl
theorem l_toIntS_ret (σ:St) (v:GV) (l:List Int) (hR:RS pI.kd σ v l) (hl:l.length≤1099511627776):∃ r τ,Ret Tryz.prog n_l_toIntS [v] σ r τ∧Hp σ τ [ow pI.kd r l]:=by
 refine ret_hp (rs:=fun r=>[ow pI.kd r l]) ir_l_toIntS (Nat.le_of_ble_eq_true rfl) ?_
 have hmk:∀ ze,mksG 1 8 ze σ (some l.length) (some l.length)=some (.sl σ.length 0 l.length,σ++[some (.row 1 (reps l.length ze))]):=fun ze=>mks_ok (by omega)
 simp +contextual (disch:=omega) only[go_sem,F_l_toIntS,hR.len,hmk]
 have H0:=((Hp.refl σ).new 1 (reps l.length (pI.enc 0))).toRow 0 (p:=pI) rfl (List.replicate l.length 0) rfl (reps_enc _ _ _) l.length (by simp)
 refine vc_for l.length 4 (fun i env τ=>env 0=v∧env 3= .sl σ.length 0 l.length∧Hp σ τ [ow pI.kd (.sl σ.length 0 l.length) (l.take i++List.replicate (l.length - i) 0)]) rfl ⟨rfl,rfl,by rw[List.take_zero,List.nil_append,Nat.sub_zero];exact H0⟩ ?_ ?_
 ·rintro i env τ hi e4 c0 ⟨e0,e3,H⟩
  have h1:=hR.pre H.sub
  have h2:=H.sl 0 rfl
  have hj:=fill_len (z:=(0:Int)) hi
  obtain⟨τ',es,H'⟩:=H.stw 0 rfl hj 1 (.int .i64 l[i]) l[i] rfl rfl (by decide)
  rw[fill_step hi] at H'
  have es:stG 1 τ (atz 1 (.sl σ.length 0 l.length) i) (.int .i64 l[i])=some (.tup [],τ'):=es
  simp +contextual (disch:=omega) only[go_sem,e0,e3,e4,c0,hR.len,int_at h1 hi,int_at h2 hj,es]
  exact H'
 ·rintro env τ e4 c0 ⟨e0,e3,H⟩
  rw[fill_end] at H
  simp +contextual (disch:=omega) only[go_sem,e0,e3,e4,c0,hR.len]
  exact⟨_,rfl,H⟩
end Go.Proofs.YtffnefmklckngaaGreat.Sy
namespace Go.Proofs.YtffnefmklckngaaGreat.Sy
open Go Go.RowKit
set_option linter.unusedSimpArgs false
set_option linter.unusedVariables false
abbrev n_l_toLive:Nat:=129
def F_l_toLive:Fn1:=⟨21,[.c 2 true 6],(.seq (.reg [o 1 (.box (.t 0)),o 2 (.new [(.bool false),(.str ⟨#[]⟩),(.str ⟨#[]⟩),(.int .i64 0),(.int .i64 0),(.int .i64 0)])]) (.seq (.reg [o 3 (.new [(.bool false),(.str ⟨#[]⟩),(.str ⟨#[]⟩),(.int .i64 0),(.int .i64 0),(.int .i64 0)])]) (.seq (.reg [o 4 (.fad 0 (.t 1)),o 5 (.ld false 1 (.t 4)),o 6 (.fad 0 (.t 3)),on (.st 1 (.t 6) (.t 5))]) (.seq (.reg [o 7 (.fad 1 (.t 1)),o 8 (.ld false 1 (.t 7)),o 9 (.fad 1 (.t 3)),on (.st 1 (.t 9) (.t 8))]) (.seq (.reg [o 10 (.fad 2 (.t 1)),o 11 (.ld false 1 (.t 10)),o 12 (.fad 2 (.t 3)),on (.st 1 (.t 12) (.t 11))]) (.seq (.reg [o 13 (.fad 3 (.t 1)),o 14 (.ld false 1 (.t 13)),o 15 (.fad 3 (.t 3)),on (.st 1 (.t 15) (.t 14))]) (.seq (.reg [o 16 (.fad 4 (.t 1)),o 17 (.ld true 2 (.t 16)),o 18 (.call 169 [(.t 17)]),o 19 (.fad 4 (.t 3)),on (.st 2 (.t 19) (.t 18))]) (.seq (.reg [o 20 (.ld true 6 (.t 3)),on (.st 6 (.t 2) (.t 20))]) .ret))))))))⟩
theorem ir_l_toLive:compFn Tryz.prog n_l_toLive=some F_l_toLive:=by kernel_rfl
theorem l_toLive_ret (σ:St) (x:Live):Ret Tryz.prog n_l_toLive [.agg [.bool x.map,.str x.obj,.str x.key,.int .i64 x.val,.int .i64 x.dot.rep,.int .i64 x.dot.seq]] σ (.agg [.bool x.map,.str x.obj,.str x.key,.int .i64 x.val,.int .i64 x.dot.rep,.int .i64 x.dot.seq]) σ:=by
 refine ret_eq ir_l_toLive (Nat.le_of_ble_eq_true rfl) (by simp[vLt,cLt,sLt]) ?_
 simp +contextual (disch:=omega) only[go_sem,F_l_toLive]
 refine by_ret (l_toDot_ret _ x.dot) ?_
 simp +contextual (disch:=omega) only[go_sem,List.append_nil]
end Go.Proofs.YtffnefmklckngaaGreat.Sy
namespace Go.Proofs.YtffnefmklckngaaGreat.Sy
open Go Go.RowKit
set_option linter.unusedSimpArgs false
set_option linter.unusedVariables false
abbrev n_l_toLiveS:Nat:=75
def F_l_toLiveS:Fn1:=⟨23,[.t 2],(.seq (.reg [o 2 (.mov (.k .nilS))]) (.seq (.reg [o 5 (.mov (.t 0)),o 6 (.len false (.t 5)),o 7 (.mks 6 64 [(.bool false),(.str ⟨#[]⟩),(.str ⟨#[]⟩),(.int .i64 0),(.int .i64 0),(.int .i64 0)] (.t 6) (.t 6)),o 3 (.mov (.t 7))]) (.seq (.seq (.reg [o 4 (.mov (.k (.int .i64 0)))]) (.blk 0 (.lop (.seq (.seq (.reg [o 8 (.mov (.t 4)),o 9 (.mov (.t 0)),o 10 (.len false (.t 9)),o 11 (.bin .lss (.t 8) (.t 10))]) (.cnd (.t 11) .skip (.ext 0))) (.seq (.blk 1 (.reg [o 14 (.mov (.t 3)),o 15 (.mov (.t 4)),o 16 (.mov (.t 0)),o 17 (.mov (.t 4)),o 18 (.iad 6 (.t 16) (.t 17)),o 19 (.ld true 6 (.t 18)),o 20 (.call 129 [(.t 19)]),o 21 (.iad 6 (.t 14) (.t 15)),on (.st 6 (.t 21) (.t 20))])) (.reg [o 12 (.mov (.t 4)),o 13 (.bin .add (.t 12) (.k (.int .i64 1))),o 4 (.mov (.t 13))])))))) (.seq (.reg [o 22 (.mov (.t 3)),o 2 (.mov (.t 22))]) .ret))))⟩
theorem ir_l_toLiveS:compFn Tryz.prog n_l_toLiveS=some F_l_toLiveS:=by kernel_rfl
theorem l_toLiveS_ret (σ:St) (v:GV) (l:List Live) (hR:RS pLive.kd σ v l) (hl:l.length≤1099511627776):∃ r τ,Ret Tryz.prog n_l_toLiveS [v] σ r τ∧Hp σ τ [ow pLive.kd r l]:=by
 refine ret_hp (rs:=fun r=>[ow pLive.kd r l]) ir_l_toLiveS (Nat.le_of_ble_eq_true rfl) ?_
 have hmk:∀ ze,mksG 6 64 ze σ (some l.length) (some l.length)=some (.sl σ.length 0 l.length,σ++[some (.row 6 (reps l.length ze))]):=fun ze=>mks_ok (by omega)
 simp +contextual (disch:=omega) only[go_sem,F_l_toLiveS,hR.len,hmk]
 have H0:=((Hp.refl σ).new 6 (reps l.length (pLive.enc ⟨false,⟨#[]⟩,⟨#[]⟩,0,⟨0,0⟩⟩))).toRow 0 (p:=pLive) rfl (List.replicate l.length ⟨false,⟨#[]⟩,⟨#[]⟩,0,⟨0,0⟩⟩) rfl (reps_enc _ _ _) l.length (by simp)
 refine vc_for l.length 4 (fun i env τ=>env 0=v∧env 3= .sl σ.length 0 l.length∧Hp σ τ [ow pLive.kd (.sl σ.length 0 l.length) (l.take i++List.replicate (l.length - i) ⟨false,⟨#[]⟩,⟨#[]⟩,0,⟨0,0⟩⟩)]) rfl ⟨rfl,rfl,by rw[List.take_zero,List.nil_append,Nat.sub_zero];exact H0⟩ ?_ ?_
 ·rintro i env τ hi e4 c0 ⟨e0,e3,H⟩
  have h1:=hR.pre H.sub
  have h2:=H.sl 0 rfl
  have hj:=fill_len (z:=(⟨false,⟨#[]⟩,⟨#[]⟩,0,⟨0,0⟩⟩:Live)) hi
  simp +contextual (disch:=omega) only[go_sem,e0,e3,e4,c0,hR.len,Live_at h1 hi]
  refine by_ret (l_toLive_ret τ l[i]) ?_
  obtain⟨τ',es,H'⟩:=H.stw 0 rfl hj 6 (.agg [.bool l[i].map,.str l[i].obj,.str l[i].key,.int .i64 l[i].val,.int .i64 l[i].dot.rep,.int .i64 l[i].dot.seq]) l[i] rfl rfl (by decide)
  rw[fill_step hi] at H'
  have es:stG 6 τ (atz 6 (.sl σ.length 0 l.length) i) (.agg [.bool l[i].map,.str l[i].obj,.str l[i].key,.int .i64 l[i].val,.int .i64 l[i].dot.rep,.int .i64 l[i].dot.seq])=some (.tup [],τ'):=es
  simp +contextual (disch:=omega) only[go_sem,e0,e3,e4,c0,hR.len,Live_at h1 hi,Live_at h2 hj,es]
  exact H'
 ·rintro env τ e4 c0 ⟨e0,e3,H⟩
  rw[fill_end] at H
  simp +contextual (disch:=omega) only[go_sem,e0,e3,e4,c0,hR.len]
  exact⟨_,rfl,H⟩
end Go.Proofs.YtffnefmklckngaaGreat.Sy
namespace Go.Proofs.YtffnefmklckngaaGreat.Sy
open Go Go.RowKit
set_option linter.unusedSimpArgs false
set_option linter.unusedVariables false
abbrev n_l_toTally:Nat:=128
def F_l_toTally:Fn1:=⟨14,[.c 2 true 3],(.seq (.reg [o 1 (.box (.t 0)),o 2 (.new [(.str ⟨#[]⟩),(.int .i64 0),(.int .i64 0)])]) (.seq (.reg [o 3 (.new [(.str ⟨#[]⟩),(.int .i64 0),(.int .i64 0)])]) (.seq (.reg [o 4 (.fad 0 (.t 1)),o 5 (.ld false 1 (.t 4)),o 6 (.fad 0 (.t 3)),on (.st 1 (.t 6) (.t 5))]) (.seq (.reg [o 7 (.fad 1 (.t 1)),o 8 (.ld false 1 (.t 7)),o 9 (.fad 1 (.t 3)),on (.st 1 (.t 9) (.t 8))]) (.seq (.reg [o 10 (.fad 2 (.t 1)),o 11 (.ld false 1 (.t 10)),o 12 (.fad 2 (.t 3)),on (.st 1 (.t 12) (.t 11))]) (.seq (.reg [o 13 (.ld true 3 (.t 3)),on (.st 3 (.t 2) (.t 13))]) .ret))))))⟩
theorem ir_l_toTally:compFn Tryz.prog n_l_toTally=some F_l_toTally:=by kernel_rfl
theorem l_toTally_ret (σ:St) (x:Tally):Ret Tryz.prog n_l_toTally [.agg [.str x.obj,.int .i64 x.rep,.int .i64 x.sum]] σ (.agg [.str x.obj,.int .i64 x.rep,.int .i64 x.sum]) σ:=by
 refine ret_eq ir_l_toTally (Nat.le_of_ble_eq_true rfl) (by simp[vLt,cLt,sLt]) ?_
 simp +contextual (disch:=omega) only[go_sem,F_l_toTally]
end Go.Proofs.YtffnefmklckngaaGreat.Sy
namespace Go.Proofs.YtffnefmklckngaaGreat.Sy
open Go Go.RowKit
set_option linter.unusedSimpArgs false
set_option linter.unusedVariables false
abbrev n_l_toTallyS:Nat:=74
def F_l_toTallyS:Fn1:=⟨23,[.t 2],(.seq (.reg [o 2 (.mov (.k .nilS))]) (.seq (.reg [o 5 (.mov (.t 0)),o 6 (.len false (.t 5)),o 7 (.mks 3 32 [(.str ⟨#[]⟩),(.int .i64 0),(.int .i64 0)] (.t 6) (.t 6)),o 3 (.mov (.t 7))]) (.seq (.seq (.reg [o 4 (.mov (.k (.int .i64 0)))]) (.blk 0 (.lop (.seq (.seq (.reg [o 8 (.mov (.t 4)),o 9 (.mov (.t 0)),o 10 (.len false (.t 9)),o 11 (.bin .lss (.t 8) (.t 10))]) (.cnd (.t 11) .skip (.ext 0))) (.seq (.blk 1 (.reg [o 14 (.mov (.t 3)),o 15 (.mov (.t 4)),o 16 (.mov (.t 0)),o 17 (.mov (.t 4)),o 18 (.iad 3 (.t 16) (.t 17)),o 19 (.ld true 3 (.t 18)),o 20 (.call 128 [(.t 19)]),o 21 (.iad 3 (.t 14) (.t 15)),on (.st 3 (.t 21) (.t 20))])) (.reg [o 12 (.mov (.t 4)),o 13 (.bin .add (.t 12) (.k (.int .i64 1))),o 4 (.mov (.t 13))])))))) (.seq (.reg [o 22 (.mov (.t 3)),o 2 (.mov (.t 22))]) .ret))))⟩
theorem ir_l_toTallyS:compFn Tryz.prog n_l_toTallyS=some F_l_toTallyS:=by kernel_rfl
theorem l_toTallyS_ret (σ:St) (v:GV) (l:List Tally) (hR:RS pTally.kd σ v l) (hl:l.length≤1099511627776):∃ r τ,Ret Tryz.prog n_l_toTallyS [v] σ r τ∧Hp σ τ [ow pTally.kd r l]:=by
 refine ret_hp (rs:=fun r=>[ow pTally.kd r l]) ir_l_toTallyS (Nat.le_of_ble_eq_true rfl) ?_
 have hmk:∀ ze,mksG 3 32 ze σ (some l.length) (some l.length)=some (.sl σ.length 0 l.length,σ++[some (.row 3 (reps l.length ze))]):=fun ze=>mks_ok (by omega)
 simp +contextual (disch:=omega) only[go_sem,F_l_toTallyS,hR.len,hmk]
 have H0:=((Hp.refl σ).new 3 (reps l.length (pTally.enc ⟨⟨#[]⟩,0,0⟩))).toRow 0 (p:=pTally) rfl (List.replicate l.length ⟨⟨#[]⟩,0,0⟩) rfl (reps_enc _ _ _) l.length (by simp)
 refine vc_for l.length 4 (fun i env τ=>env 0=v∧env 3= .sl σ.length 0 l.length∧Hp σ τ [ow pTally.kd (.sl σ.length 0 l.length) (l.take i++List.replicate (l.length - i) ⟨⟨#[]⟩,0,0⟩)]) rfl ⟨rfl,rfl,by rw[List.take_zero,List.nil_append,Nat.sub_zero];exact H0⟩ ?_ ?_
 ·rintro i env τ hi e4 c0 ⟨e0,e3,H⟩
  have h1:=hR.pre H.sub
  have h2:=H.sl 0 rfl
  have hj:=fill_len (z:=(⟨⟨#[]⟩,0,0⟩:Tally)) hi
  simp +contextual (disch:=omega) only[go_sem,e0,e3,e4,c0,hR.len,Tally_at h1 hi]
  refine by_ret (l_toTally_ret τ l[i]) ?_
  obtain⟨τ',es,H'⟩:=H.stw 0 rfl hj 3 (.agg [.str l[i].obj,.int .i64 l[i].rep,.int .i64 l[i].sum]) l[i] rfl rfl (by decide)
  rw[fill_step hi] at H'
  have es:stG 3 τ (atz 3 (.sl σ.length 0 l.length) i) (.agg [.str l[i].obj,.int .i64 l[i].rep,.int .i64 l[i].sum])=some (.tup [],τ'):=es
  simp +contextual (disch:=omega) only[go_sem,e0,e3,e4,c0,hR.len,Tally_at h1 hi,Tally_at h2 hj,es]
  exact H'
 ·rintro env τ e4 c0 ⟨e0,e3,H⟩
  rw[fill_end] at H
  simp +contextual (disch:=omega) only[go_sem,e0,e3,e4,c0,hR.len]
  exact⟨_,rfl,H⟩
end Go.Proofs.YtffnefmklckngaaGreat.Sy
namespace Go.Proofs.YtffnefmklckngaaGreat.Sy
open Go Go.RowKit
set_option linter.unusedSimpArgs false
set_option linter.unusedVariables false
abbrev n_l_toState:Nat:=22
def F_l_toState:Fn1:=⟨21,[.c 2 true 4],(.seq (.reg [o 1 (.box (.t 0)),o 2 (.new [.nilS,.nilS,.nilS,.nilS])]) (.seq (.reg [o 3 (.new [.nilS,.nilS,.nilS,.nilS])]) (.seq (.reg [o 4 (.fad 0 (.t 1)),o 5 (.ld false 1 (.t 4)),o 6 (.call 73 [(.t 5)]),o 7 (.fad 0 (.t 3)),on (.st 1 (.t 7) (.t 6))]) (.seq (.reg [o 8 (.fad 1 (.t 1)),o 9 (.ld false 1 (.t 8)),o 10 (.call 74 [(.t 9)]),o 11 (.fad 1 (.t 3)),on (.st 1 (.t 11) (.t 10))]) (.seq (.reg [o 12 (.fad 2 (.t 1)),o 13 (.ld false 1 (.t 12)),o 14 (.call 75 [(.t 13)]),o 15 (.fad 2 (.t 3)),on (.st 1 (.t 15) (.t 14))]) (.seq (.reg [o 16 (.fad 3 (.t 1)),o 17 (.ld false 1 (.t 16)),o 18 (.call 76 [(.t 17)]),o 19 (.fad 3 (.t 3)),on (.st 1 (.t 19) (.t 18))]) (.seq (.reg [o 20 (.ld true 4 (.t 3)),on (.st 4 (.t 2) (.t 20))]) .ret)))))))⟩
theorem ir_l_toState:compFn Tryz.prog n_l_toState=some F_l_toState:=by kernel_rfl
theorem l_toState_ret (σ:St) (cs:List GV) (x:State) (hR:kState.R σ x cs) (hl:msState x≤1099511627776):∃ r τ,Ret Tryz.prog n_l_toState [.agg cs] σ r τ∧σ <+: τ∧∃ ds,r= .agg ds∧Hp σ τ [own kState ds x]:=by
 have hlen:=kState.len hR
 have hlen:cs.length=4:=hlen
 obtain⟨v0,v1,v2,v3,rfl,q0,q1,q2,q3⟩:=hR
 unfold msState at hl
 refine ret_new ir_l_toState (Nat.le_of_ble_eq_true rfl) ?_
 simp +contextual (disch:=omega) only[go_sem,F_l_toState,List.append_nil]
 have H:=(((Hp.refl σ).new 1 (v0::v1::v2::v3::[])).new 1 [GV.nilS,GV.nilS,GV.nilS,GV.nilS]).new 1 [GV.nilS,GV.nilS,GV.nilS,GV.nilS]
 obtain⟨r0,τ0,R0,K0⟩:=l_toIntS_ret _ v0 x.know (q0.pre H.sub) (by omega)
 refine by_hp R0 K0 ?_
 have e0:=(K0.sl 0 rfl).cell
 have H:=H.add K0
 try simp only[go_sem] at H
 try simp +contextual (disch:=omega) only[go_sem,List.append_nil,ld_ptr (H.pt 3 rfl),ld_ptr (H.pt 1 rfl)]
 obtain⟨_,es,H,_⟩:=H.st 1 rfl 1 0 (r0) (by rw[e0];rfl) (by decide) (Nat.le_of_ble_eq_true rfl)
 try simp only[go_sem,List.set_cons_zero,List.set_cons_succ,e0] at H
 try simp +contextual (disch:=omega) only[go_sem,List.append_nil,es,ld_ptr (H.pt 3 rfl),ld_ptr (H.pt 1 rfl)]
 obtain⟨r1,τ1,R1,K1⟩:=l_toTallyS_ret _ v1 x.tallies (q1.pre H.sub) (by omega)
 refine by_hp R1 K1 ?_
 have e1:=(K1.sl 0 rfl).cell
 have H:=H.add K1
 try simp only[go_sem] at H
 try simp +contextual (disch:=omega) only[go_sem,List.append_nil,ld_ptr (H.pt 4 rfl),ld_ptr (H.pt 2 rfl)]
 obtain⟨_,es,H,_⟩:=H.st 2 rfl 1 1 (r1) (by rw[e1];rfl) (by decide) (Nat.le_of_ble_eq_true rfl)
 try simp only[go_sem,List.set_cons_zero,List.set_cons_succ,e1] at H
 try simp +contextual (disch:=omega) only[go_sem,List.append_nil,es,ld_ptr (H.pt 4 rfl),ld_ptr (H.pt 2 rfl)]
 obtain⟨r2,τ2,R2,K2⟩:=l_toLiveS_ret _ v2 x.lives (q2.pre H.sub) (by omega)
 refine by_hp R2 K2 ?_
 have e2:=(K2.sl 0 rfl).cell
 have H:=H.add K2
 try simp only[go_sem] at H
 try simp +contextual (disch:=omega) only[go_sem,List.append_nil,ld_ptr (H.pt 5 rfl),ld_ptr (H.pt 3 rfl)]
 obtain⟨_,es,H,_⟩:=H.st 3 rfl 1 2 (r2) (by rw[e2];rfl) (by decide) (Nat.le_of_ble_eq_true rfl)
 try simp only[go_sem,List.set_cons_zero,List.set_cons_succ,e2] at H
 try simp +contextual (disch:=omega) only[go_sem,List.append_nil,es,ld_ptr (H.pt 5 rfl),ld_ptr (H.pt 3 rfl)]
 obtain⟨r3,τ3,R3,K3⟩:=l_toCellS_ret _ v3 x.cells (q3.pre H.sub) (by omega)
 refine by_hp R3 K3 ?_
 have e3:=(K3.sl 0 rfl).cell
 have H:=H.add K3
 try simp only[go_sem] at H
 try simp +contextual (disch:=omega) only[go_sem,List.append_nil,ld_ptr (H.pt 6 rfl),ld_ptr (H.pt 4 rfl)]
 obtain⟨_,es,H,_⟩:=H.st 4 rfl 1 3 (r3) (by rw[e3];rfl) (by decide) (Nat.le_of_ble_eq_true rfl)
 try simp only[go_sem,List.set_cons_zero,List.set_cons_succ,e3] at H
 try simp +contextual (disch:=omega) only[go_sem,List.append_nil,es,ld_ptr (H.pt 6 rfl),ld_ptr (H.pt 4 rfl)]
 obtain⟨_,es,H,_⟩:=H.st 5 rfl 4 0 (.agg (r0::r1::r2::r3::[])) (rfl) (by decide) (Nat.le_of_ble_eq_true rfl)
 try simp only[go_sem,List.set_cons_zero,List.set_cons_succ] at H
 try simp +contextual (disch:=omega) only[go_sem,List.append_nil,es,ld_ptr (H.pt 5 rfl)]
 have h0:=H.sub
 have H:=(((H.pick 1 rfl).pick 2 rfl).pick 3 rfl)
 try simp only[List.eraseIdx_cons_succ,List.eraseIdx_cons_zero] at H
 exact⟨_,rfl,h0,_,rfl,H.ownState.one⟩
end Go.Proofs.YtffnefmklckngaaGreat.Sy
namespace Go.Proofs.YtffnefmklckngaaGreat.Sy
open Go Go.RowKit
theorem zTally_w {x:Tally} (h:zTally x):wTally x:=h.1
theorem zTallyS_w {x:List Tally} (h:((x).length≤9223372036854775807∧∀ y6∈x,zTally (y6))):x.length≤9223372036854775807∧∀ y∈x,wTally y:=⟨h.1,fun y hy=>zTally_w (h.2 y hy)⟩
theorem zLive_w {x:Live} (h:zLive x):wLive x:=⟨h.2.1,h.2.2.1⟩
theorem zLiveS_w {x:List Live} (h:((x).length≤9223372036854775807∧∀ y5∈x,zLive (y5))):x.length≤9223372036854775807∧∀ y∈x,wLive y:=⟨h.1,fun y hy=>zLive_w (h.2 y hy)⟩
theorem zCell_w {x:Cell} (h:zCell x):wCell x:=h.1
theorem zCellS_w {x:List Cell} (h:((x).length≤9223372036854775807∧∀ y5∈x,zCell (y5))):x.length≤9223372036854775807∧∀ y∈x,wCell y:=⟨h.1,fun y hy=>zCell_w (h.2 y hy)⟩
theorem zEdit_w {x:Edit} (h:zEdit x):wEdit x:=⟨h.2.1,h.2.2.1⟩
theorem zEditS_w {x:List Edit} (h:((x).length≤9223372036854775807∧∀ y5∈x,zEdit (y5))):x.length≤9223372036854775807∧∀ y∈x,wEdit y:=⟨h.1,fun y hy=>zEdit_w (h.2 y hy)⟩
theorem zState_w {x:State} (h:zState x):wState x:=⟨h.1.1,zTallyS_w h.2.1,zLiveS_w h.2.2.1,zCellS_w h.2.2.2⟩
end Go.Proofs.YtffnefmklckngaaGreat.Sy
namespace Go.Proofs.YtffnefmklckngaaGreat.Sy
open Go Go.RowKit
set_option linter.unusedSimpArgs false
set_option linter.unusedVariables false
set_option maxRecDepth 4000
abbrev n_l_FnExactDoEdits:Nat:=6
def F_l_FnExactDoEdits:Fn1:=⟨129,[.t 8],(.seq (.reg [o 4 (.box (.t 0)),o 8 (.mov (.k (.bool false)))]) (.seq (.reg [o 9 (.mov (.k (.int .i64 1048576)))]) (.seq (.reg [o 21 (.ld true 4 (.t 4)),o 22 (.mov (.t 9)),o 23 (.call 20 [(.t 21),(.t 22)]),o 9 (.mov (.t 23))]) (.seq (.seq (.reg [o 24 (.mov (.t 9)),o 25 (.bin .lss (.t 24) (.k (.int .i64 0)))]) (.cnd (.t 25) (.seq (.reg [o 8 (.mov (.k (.bool true)))]) .ret) .skip)) (.seq (.reg [o 26 (.mov (.t 3)),o 27 (.mov (.t 9)),o 28 (.call 25 [(.t 26),(.t 27)]),o 9 (.mov (.t 28))]) (.seq (.seq (.reg [o 29 (.mov (.t 9)),o 30 (.bin .lss (.t 29) (.k (.int .i64 0)))]) (.cnd (.t 30) (.seq (.reg [o 8 (.mov (.k (.bool true)))]) .ret) .skip)) (.seq (.reg [o 32 (.ld true 4 (.t 4)),o 33 (.call 22 [(.t 32)]),o 34 (.mov (.t 1)),o 35 (.mov (.t 2)),o 36 (.mov (.t 3)),o 37 (.call 27 [(.t 36)]),o 38 (.call 26 [(.t 33),(.t 34),(.t 35),(.t 37)]),o 31 (.mov (.t 38)),o 39 (.ext 0 (.t 31)),o 40 (.ext 1 (.t 31)),o 10 (.new [.nilS,.nilS,.nilS,.nilS]),on (.st 4 (.t 10) (.t 39)),o 11 (.mov (.t 40))]) (.seq (.reg [o 41 (.ld true 4 (.t 4)),o 42 (.call 22 [(.t 41)]),o 12 (.new [.nilS,.nilS,.nilS,.nilS]),on (.st 4 (.t 12) (.t 42))]) (.seq (.reg [o 43 (.mov (.t 3)),o 44 (.call 27 [(.t 43)]),o 13 (.mov (.t 44))]) (.seq (.reg [o 46 (.ld true 4 (.t 12)),o 47 (.mov (.t 1)),o 48 (.mov (.t 2)),o 49 (.mov (.t 13)),o 50 (.call 28 [(.t 46),(.t 47),(.t 48),(.t 49)]),o 45 (.mov (.t 50)),o 51 (.ext 0 (.t 45)),o 52 (.ext 1 (.t 45)),o 14 (.new [.nilS,.nilS,.nilS,.nilS]),on (.st 4 (.t 14) (.t 51)),o 15 (.mov (.t 52))]) (.seq (.seq (.reg [o 53 (.ld true 4 (.t 14)),o 54 (.ld true 4 (.t 10)),o 55 (.call 24 [(.t 53),(.t 54)]),o 56 (.un .not (.t 55)),o 57 (.mov (.t 56)),og 58 57 false (.mov (.t 15)),og 59 57 false (.mov (.t 11)),og 60 57 false (.bin .neq (.t 58) (.t 59)),o 61 (.pick (.t 57) (.k (.bool true)) (.t 60))]) (.cnd (.t 61) (.seq (.reg [o 8 (.mov (.k (.bool false)))]) .ret) .skip)) (.seq (.seq (.drw [o 62 (.ld true 4 (.t 12)),o 63 (.ld true 4 (.t 4)),o 64 (.call 22 [(.t 63)])] [o 65 (.call 24 [(.t 62),(.t 64)]),o 66 (.un .not (.t 65))]) (.cnd (.t 66) (.seq (.reg [o 8 (.mov (.k (.bool false)))]) .ret) .skip)) (.seq (.seq (.reg [o 67 (.mov (.t 13)),o 68 (.mov (.t 3)),o 69 (.call 27 [(.t 68)]),o 70 (.call 29 [(.t 67),(.t 69)]),o 71 (.un .not (.t 70))]) (.cnd (.t 71) (.seq (.reg [o 8 (.mov (.k (.bool false)))]) .ret) .skip)) (.seq (.reg [o 16 (.mov (.k (.int .i64 1)))]) (.seq (.reg [o 72 (.ld true 4 (.t 12)),o 73 (.mov (.t 16)),o 74 (.call 30 [(.t 72),(.t 73)]),o 16 (.mov (.t 74))]) (.seq (.reg [o 75 (.mov (.t 13)),o 76 (.mov (.t 16)),o 77 (.call 31 [(.t 75),(.t 76)]),o 16 (.mov (.t 77))]) (.seq (.seq (.reg [o 78 (.mov (.t 16)),o 79 (.bin .lss (.t 78) (.k (.int .i64 0))),o 80 (.mov (.t 79)),og 81 80 false (.ld true 4 (.t 14)),og 82 80 false (.ld true 4 (.t 10)),og 83 80 false (.call 24 [(.t 81),(.t 82)]),og 84 80 false (.un .not (.t 83)),o 85 (.pick (.t 80) (.k (.bool true)) (.t 84)),o 86 (.mov (.t 85)),og 87 86 false (.mov (.t 15)),og 88 86 false (.mov (.t 11)),og 89 86 false (.bin .neq (.t 87) (.t 88)),o 90 (.pick (.t 86) (.k (.bool true)) (.t 89))]) (.cnd (.t 90) (.seq (.reg [o 8 (.mov (.k (.bool false)))]) .ret) .skip)) (.seq (.reg [o 17 (.mov (.k (.int .i64 1)))]) (.seq (.reg [o 91 (.ld true 4 (.t 14)),o 92 (.mov (.t 17)),o 93 (.call 30 [(.t 91),(.t 92)]),o 17 (.mov (.t 93))]) (.seq (.reg [o 18 (.mov (.k (.int .i64 1)))]) (.seq (.reg [o 94 (.ld true 4 (.t 14)),o 95 (.mov (.t 18)),o 96 (.call 32 [(.t 94),(.t 95)]),o 18 (.mov (.t 96))]) (.seq (.seq (.reg [o 97 (.mov (.t 18)),o 98 (.bin .lss (.t 97) (.k (.int .i64 0)))]) (.cnd (.t 98) (.seq (.reg [o 8 (.mov (.k (.bool false)))]) .ret) .skip)) (.seq (.seq (.reg [o 99 (.mov (.t 18)),o 100 (.mov (.t 17)),o 101 (.bin .neq (.t 99) (.t 100))]) (.cnd (.t 101) (.seq (.reg [o 8 (.mov (.k (.bool false)))]) .ret) .skip)) (.seq (.reg [o 103 (.ld true 4 (.t 4)),o 104 (.call 22 [(.t 103)]),o 105 (.mov (.t 1)),o 106 (.mov (.t 2)),o 107 (.mov (.t 3)),o 108 (.call 27 [(.t 107)]),o 109 (.call 28 [(.t 104),(.t 105),(.t 106),(.t 108)]),o 102 (.mov (.t 109)),o 110 (.ext 0 (.t 102)),o 111 (.ext 1 (.t 102)),o 19 (.new [.nilS,.nilS,.nilS,.nilS]),on (.st 4 (.t 19) (.t 110)),o 20 (.mov (.t 111))]) (.seq (.seq (.reg [o 112 (.ld true 4 (.t 19)),o 113 (.ld true 4 (.t 10)),o 114 (.call 24 [(.t 112),(.t 113)]),o 115 (.un .not (.t 114)),o 116 (.mov (.t 115)),og 117 116 false (.mov (.t 20)),og 118 116 false (.mov (.t 11)),og 119 116 false (.bin .neq (.t 117) (.t 118)),o 120 (.pick (.t 116) (.k (.bool true)) (.t 119))]) (.cnd (.t 120) (.seq (.reg [o 8 (.mov (.k (.bool false)))]) .ret) .skip)) (.seq (.reg [o 18 (.mov (.k (.int .i64 1)))]) (.seq (.reg [o 121 (.ld true 4 (.t 14)),o 122 (.mov (.t 18)),o 123 (.call 32 [(.t 121),(.t 122)]),o 18 (.mov (.t 123))]) (.seq (.seq (.reg [o 124 (.mov (.t 18)),o 125 (.bin .lss (.t 124) (.k (.int .i64 0)))]) (.cnd (.t 125) (.seq (.reg [o 8 (.mov (.k (.bool false)))]) .ret) .skip)) (.seq (.seq (.reg [o 126 (.mov (.t 18)),o 127 (.mov (.t 17)),o 128 (.bin .neq (.t 126) (.t 127))]) (.cnd (.t 128) (.seq (.reg [o 8 (.mov (.k (.bool false)))]) .ret) .skip)) (.seq (.reg [o 8 (.mov (.k (.bool true)))]) .ret))))))))))))))))))))))))))))))⟩
theorem ir_l_FnExactDoEdits:compFn Tryz.prog n_l_FnExactDoEdits=some F_l_FnExactDoEdits:=by kernel_rfl
theorem law_DoEdits (σ:St) (cs0:List GV) (x0:State) (hR0:eState.R σ x0 cs0) (hw0:zState x0) (x1:Int) (hw1:I64 x1) (x2:Int) (hw2:I64 x2) (v3:GV) (x3:List Edit) (hR3:Sl eEdit σ v3 x3) (hw3:((x3).length≤9223372036854775807∧∀ y5∈x3,zEdit (y5))):∃ r τ,Ret Tryz.prog n_l_FnExactDoEdits [.agg cs0,.int .i64 x1,.int .i64 x2,v3] σ r τ∧r= .bool true:=by
 have hpl:∀ x∈x3,x.place≤9223372036854775807:=fun x hx=>(hw3.2 x hx).2.2.2.2.2
 have hR0:=brState hR0
 have hl0:=kState.len hR0
 have hw0:=zState_w hw0
 have hR3:RS pEdit.kd σ v3 x3:=hR3.rs rfl (brEdit)
 have hw3:=zEditS_w hw3
 refine ret_law ir_l_FnExactDoEdits (Nat.le_of_ble_eq_true rfl) ?_
 have hB:σ <+: σ++[some (Blk.row 1 (cs0))]:=pre1 _ _
 have hb0:rdB (σ++[some (Blk.row 1 (cs0))]) (σ).length=some (cs0):=box_rd (List.prefix_refl _)
 have hs0:(seg cs0 0 4).bind (mkv true)=some (.agg cs0):=seg_full hl0
 simp +contextual (disch:=omega) only[go_sem,F_l_FnExactDoEdits,ld_ptr (rdB_pre (List.prefix_refl _) hb0),hs0,hR3.len,List.append_nil]
 refine by_ret (l_szState_ret _ cs0 x0 (kState.pre hR0 (hB.trans (List.prefix_refl _))) (1048576) hw0 (by omega) (by omega)) ?_
 have ge0:= @lf_ge (1048576) (msState x0)
 have gm0:= @lf_le (1048576) (msState x0) (by omega)
 try simp +contextual (disch:=omega) only[go_sem,List.append_nil,ite_self,ne_eq,not_true_eq_false,bne_self_eq_false,beq_self_eq_true,ld_ptr (rdB_pre (List.prefix_refl _) hb0),hs0,hR3.len]
 refine⟨fun _=>hB.length_le,fun hn=> ?_⟩
 have hn:=of_decide_eq_false hn
 have hf0:=lf_some hn
 have hu0:msState x0≤1048576:=by omega
 have hc0:=ctState_le x0
 try simp +contextual (disch:=omega) only[go_sem,List.append_nil,ite_self,ne_eq,not_true_eq_false,bne_self_eq_false,beq_self_eq_true,ld_ptr (rdB_pre (List.prefix_refl _) hb0),hs0,hR3.len]
 refine by_ret (l_szEditS_ret _ v3 x3 (hR3.pre (hB.trans (List.prefix_refl _))) (lf (1048576) (msState x0)) hw3 (by omega) (by omega)) ?_
 have ge3:= @lf_ge (lf (1048576) (msState x0)) ((x3.length+sumL msEdit x3))
 have gm3:= @lf_le (lf (1048576) (msState x0)) ((x3.length+sumL msEdit x3)) (by omega)
 try simp +contextual (disch:=omega) only[go_sem,List.append_nil,ite_self,ne_eq,not_true_eq_false,bne_self_eq_false,beq_self_eq_true,ld_ptr (rdB_pre (List.prefix_refl _) hb0),hs0,hR3.len]
 refine⟨fun _=>hB.length_le,fun hn=> ?_⟩
 have hn:=of_decide_eq_false hn
 have hf3:=lf_some hn
 try simp +contextual (disch:=omega) only[go_sem,List.append_nil,ite_self,ne_eq,not_true_eq_false,bne_self_eq_false,beq_self_eq_true,ld_ptr (rdB_pre (List.prefix_refl _) hb0),hs0,hR3.len]
 have H:=Hp.refl (σ++[some (Blk.row 1 (cs0))])
 try simp +contextual (disch:=omega) only[go_sem,List.append_nil,ite_self,ne_eq,not_true_eq_false,bne_self_eq_false,beq_self_eq_true,ld_ptr (rdB_pre H.sub hb0),hs0,hR3.len]
 obtain⟨_,τ1,R1,_,d1,rfl,K1⟩:=l_toState_ret _ cs0 x0 (kState.pre hR0 (hB.trans H.sub)) (by omega)
 refine by_hp R1 K1 ?_
 have H:=H.add K1
 try simp only[List.cons_append,List.nil_append] at H
 have g1:=seg_full (kState.len (K1.rd 0 rfl))
 have g1:(seg d1 0 4).bind (mkv true)=some (.agg d1):=g1
 have gl1:d1.length=4:=kState.len (K1.rd 0 rfl)
 try simp +contextual (disch:=omega) only[go_sem,List.append_nil,ite_self,ne_eq,not_true_eq_false,bne_self_eq_false,beq_self_eq_true,ld_ptr (rdB_pre H.sub hb0),hs0,hR3.len,g1]
 obtain⟨u2,τ2,R2,K2⟩:=l_toEditS_ret _ v3 x3 (hR3.pre (hB.trans H.sub)) (by omega)
 refine by_hp R2 K2 ?_
 have H:=H.add K2
 try simp only[List.cons_append,List.nil_append] at H
 try simp +contextual (disch:=omega) only[go_sem,List.append_nil,ite_self,ne_eq,not_true_eq_false,bne_self_eq_false,beq_self_eq_true,ld_ptr (rdB_pre H.sub hb0),hs0,hR3.len,g1]
 obtain⟨c3_0,τ3,R3,p3⟩:=s_DoEdits_ret _ d1 x0 (H.rd 1 rfl) x1 x2 u2 x3 (H.sl 0 rfl) (by omega) (by omega) hpl
 have q3_0:=p3.rd 0 rfl
 have p3:=p3.sub
 refine by_new R3 p3 ?_
 have hpw:=H.sub.trans p3
 have H:=Hp.refl τ3
 have gl3_0:c3_0.length=4:=kState.len q3_0
 have g3_0:(seg c3_0 0 4).bind (mkv true)=some (.agg c3_0):=seg_full gl3_0
 try simp +contextual (disch:=omega) only[go_sem,List.append_nil,ite_self,ne_eq,not_true_eq_false,bne_self_eq_false,beq_self_eq_true,ld_ptr (rdB_pre (hpw.trans H.sub) hb0),hs0,hR3.len,g1,g3_0,gl3_0]
 have H:=H.new 1 c3_0
 try simp +contextual (disch:=omega) only[go_sem,List.append_nil,ite_self,ne_eq,not_true_eq_false,bne_self_eq_false,beq_self_eq_true,ld_ptr (rdB_pre (hpw.trans H.sub) hb0),hs0,hR3.len,ld_ptr (H.pt 0 rfl),g1,g3_0,gl3_0,splice_full (cs:=[GV.nilS,GV.nilS,GV.nilS,GV.nilS]) gl3_0 rfl,gl3_0]
 obtain⟨_,τ4,R4,_,d4,rfl,K4⟩:=l_toState_ret _ cs0 x0 (kState.pre hR0 (hB.trans (hpw.trans H.sub))) (by omega)
 refine by_hp R4 K4 ?_
 have H:=H.add K4
 try simp only[List.cons_append,List.nil_append] at H
 have g4:=seg_full (kState.len (K4.rd 0 rfl))
 have g4:(seg d4 0 4).bind (mkv true)=some (.agg d4):=g4
 have gl4:d4.length=4:=kState.len (K4.rd 0 rfl)
 try simp +contextual (disch:=omega) only[go_sem,List.append_nil,ite_self,ne_eq,not_true_eq_false,bne_self_eq_false,beq_self_eq_true,ld_ptr (rdB_pre (hpw.trans H.sub) hb0),hs0,hR3.len,ld_ptr (H.pt 1 rfl),g1,g3_0,gl3_0,g4]
 have H:=H.new 1 d4
 try simp +contextual (disch:=omega) only[go_sem,List.append_nil,ite_self,ne_eq,not_true_eq_false,bne_self_eq_false,beq_self_eq_true,ld_ptr (rdB_pre (hpw.trans H.sub) hb0),hs0,hR3.len,ld_ptr (H.pt 0 rfl),ld_ptr (H.pt 2 rfl),g1,g3_0,gl3_0,g4,splice_full (cs:=[GV.nilS,GV.nilS,GV.nilS,GV.nilS]) gl4 rfl,gl4]
 obtain⟨u5,τ5,R5,K5⟩:=l_toEditS_ret _ v3 x3 (hR3.pre (hB.trans (hpw.trans H.sub))) (by omega)
 refine by_hp R5 K5 ?_
 have H:=H.add K5
 try simp only[List.cons_append,List.nil_append] at H
 try simp +contextual (disch:=omega) only[go_sem,List.append_nil,ite_self,ne_eq,not_true_eq_false,bne_self_eq_false,beq_self_eq_true,ld_ptr (rdB_pre (hpw.trans H.sub) hb0),hs0,hR3.len,ld_ptr (H.pt 1 rfl),ld_ptr (H.pt 3 rfl),g1,g3_0,gl3_0,g4]
 obtain⟨c6_0,τ6,R6,K6⟩:=i_DoEdits_ret _ d4 x0 (H.rd 2 rfl) x1 x2 u5 x3 (H.sl 0 rfl) (by omega) (by omega) hpl
 refine by_hp R6 K6 ?_
 have H:=H.add K6
 try simp only[List.cons_append,List.nil_append] at H
 have gl6_0:c6_0.length=4:=kState.len (K6.rd 0 rfl)
 have g6_0:(seg c6_0 0 4).bind (mkv true)=some (.agg c6_0):=seg_full gl6_0
 try simp +contextual (disch:=omega) only[go_sem,List.append_nil,ite_self,ne_eq,not_true_eq_false,bne_self_eq_false,beq_self_eq_true,ld_ptr (rdB_pre (hpw.trans H.sub) hb0),hs0,hR3.len,ld_ptr (H.pt 2 rfl),ld_ptr (H.pt 4 rfl),g1,g3_0,gl3_0,g4,g6_0,gl6_0]
 have H:=H.new 1 c6_0
 try simp +contextual (disch:=omega) only[go_sem,List.append_nil,ite_self,ne_eq,not_true_eq_false,bne_self_eq_false,beq_self_eq_true,ld_ptr (rdB_pre (hpw.trans H.sub) hb0),hs0,hR3.len,ld_ptr (H.pt 0 rfl),ld_ptr (H.pt 3 rfl),ld_ptr (H.pt 5 rfl),g1,g3_0,gl3_0,g4,g6_0,gl6_0,splice_full (cs:=[GV.nilS,GV.nilS,GV.nilS,GV.nilS]) gl6_0 rfl,gl6_0]
 refine by_ret (l_eqState_ret _ _ _ _ _ (H.rd 1 rfl) (kState.pre q3_0 H.sub) (by have:=doEdits_ms x0 x1 x2 x3;omega)) ?_
 try simp +contextual (disch:=omega) only[go_sem,List.append_nil,ite_self,ne_eq,not_true_eq_false,bne_self_eq_false,beq_self_eq_true,ld_ptr (rdB_pre (hpw.trans H.sub) hb0),hs0,hR3.len,ld_ptr (H.pt 0 rfl),ld_ptr (H.pt 3 rfl),ld_ptr (H.pt 5 rfl),g1,g3_0,gl3_0,g4,g6_0,gl6_0,decide_true,eq_self]
 try simp +contextual (disch:=omega) only[go_sem,List.append_nil,ite_self,ne_eq,not_true_eq_false,bne_self_eq_false,beq_self_eq_true,ld_ptr (rdB_pre (hpw.trans H.sub) hb0),hs0,hR3.len,ld_ptr (H.pt 0 rfl),ld_ptr (H.pt 3 rfl),ld_ptr (H.pt 5 rfl),g1,g3_0,gl3_0,g4,g6_0,gl6_0]
 obtain⟨_,τ7,R7,_,d7,rfl,K7⟩:=l_toState_ret _ cs0 x0 (kState.pre hR0 (hB.trans (hpw.trans H.sub))) (by omega)
 refine by_hp R7 K7 ?_
 have H:=H.add K7
 try simp only[List.cons_append,List.nil_append] at H
 have g7:=seg_full (kState.len (K7.rd 0 rfl))
 have g7:(seg d7 0 4).bind (mkv true)=some (.agg d7):=g7
 have gl7:d7.length=4:=kState.len (K7.rd 0 rfl)
 try simp +contextual (disch:=omega) only[go_sem,List.append_nil,ite_self,ne_eq,not_true_eq_false,bne_self_eq_false,beq_self_eq_true,ld_ptr (rdB_pre (hpw.trans H.sub) hb0),hs0,hR3.len,ld_ptr (H.pt 1 rfl),ld_ptr (H.pt 4 rfl),ld_ptr (H.pt 6 rfl),g1,g3_0,gl3_0,g4,g6_0,gl6_0,g7]
 refine by_ret (l_eqState_ret _ _ _ _ _ (H.rd 5 rfl) (H.rd 0 rfl) (by omega)) ?_
 try simp +contextual (disch:=omega) only[go_sem,List.append_nil,ite_self,ne_eq,not_true_eq_false,bne_self_eq_false,beq_self_eq_true,ld_ptr (rdB_pre (hpw.trans H.sub) hb0),hs0,hR3.len,ld_ptr (H.pt 1 rfl),ld_ptr (H.pt 4 rfl),ld_ptr (H.pt 6 rfl),g1,g3_0,gl3_0,g4,g6_0,gl6_0,g7,decide_true,eq_self]
 try simp +contextual (disch:=omega) only[go_sem,List.append_nil,ite_self,ne_eq,not_true_eq_false,bne_self_eq_false,beq_self_eq_true,ld_ptr (rdB_pre (hpw.trans H.sub) hb0),hs0,hR3.len,ld_ptr (H.pt 1 rfl),ld_ptr (H.pt 4 rfl),ld_ptr (H.pt 6 rfl),g1,g3_0,gl3_0,g4,g6_0,gl6_0,g7]
 obtain⟨u8,τ8,R8,K8⟩:=l_toEditS_ret _ v3 x3 (hR3.pre (hB.trans (hpw.trans H.sub))) (by omega)
 refine by_hp R8 K8 ?_
 have H:=H.add K8
 try simp only[List.cons_append,List.nil_append] at H
 try simp +contextual (disch:=omega) only[go_sem,List.append_nil,ite_self,ne_eq,not_true_eq_false,bne_self_eq_false,beq_self_eq_true,ld_ptr (rdB_pre (hpw.trans H.sub) hb0),hs0,hR3.len,ld_ptr (H.pt 2 rfl),ld_ptr (H.pt 5 rfl),ld_ptr (H.pt 7 rfl),g1,g3_0,gl3_0,g4,g6_0,gl6_0,g7]
 refine by_ret (l_eqEditS_ret _ _ _ _ _ (H.sl 4 rfl) (H.sl 0 rfl) (by omega)) ?_
 try simp +contextual (disch:=omega) only[go_sem,List.append_nil,ite_self,ne_eq,not_true_eq_false,bne_self_eq_false,beq_self_eq_true,ld_ptr (rdB_pre (hpw.trans H.sub) hb0),hs0,hR3.len,ld_ptr (H.pt 2 rfl),ld_ptr (H.pt 5 rfl),ld_ptr (H.pt 7 rfl),g1,g3_0,gl3_0,g4,g6_0,gl6_0,g7,decide_true,eq_self]
 obtain⟨τ9,R9,H⟩:=l_markState_ret 6 d4 x0 (1) H rfl (by omega) (by omega)
 refine by_mut R9 ?_
 try simp only[List.set_cons_succ,List.set_cons_zero] at H
 try simp +contextual (disch:=omega) only[go_sem,List.append_nil,ite_self,ne_eq,not_true_eq_false,bne_self_eq_false,beq_self_eq_true,ld_ptr (rdB_pre (hpw.trans H.sub) hb0),hs0,hR3.len,ld_ptr (H.pt 2 rfl),ld_ptr (H.pt 5 rfl),ld_ptr (H.pt 7 rfl),g1,g3_0,gl3_0,g4,g6_0,gl6_0,g7]
 obtain⟨τ10,R10,H⟩:=l_markEditS_ret 4 u5 x3 (((1:Int))+((ctState x0:Nat):Int)) H rfl (by omega) (by omega)
 refine by_mut R10 ?_
 try simp only[List.set_cons_succ,List.set_cons_zero] at H
 try simp +contextual (disch:=omega) only[go_sem,List.append_nil,ite_self,ne_eq,not_true_eq_false,bne_self_eq_false,beq_self_eq_true,ld_ptr (rdB_pre (hpw.trans H.sub) hb0),hs0,hR3.len,ld_ptr (H.pt 2 rfl),ld_ptr (H.pt 5 rfl),ld_ptr (H.pt 7 rfl),g1,g3_0,gl3_0,g4,g6_0,gl6_0,g7]
 have hng:decide ((((1:Int))+((ctState x0:Nat):Int))+5*((x3.length:Nat):Int)<0)=false:=decide_eq_false (by omega)
 try simp +contextual (disch:=omega) only[go_sem,List.append_nil,ite_self,ne_eq,not_true_eq_false,bne_self_eq_false,beq_self_eq_true,ld_ptr (rdB_pre (hpw.trans H.sub) hb0),hs0,hR3.len,ld_ptr (H.pt 2 rfl),ld_ptr (H.pt 5 rfl),ld_ptr (H.pt 7 rfl),g1,g3_0,gl3_0,g4,g6_0,gl6_0,g7,dneg1,dneg2,hng]
 refine by_ret (l_eqState_ret _ _ _ _ _ (H.rd 3 rfl) (kState.pre q3_0 H.sub) (by have:=doEdits_ms x0 x1 x2 x3;omega)) ?_
 try simp +contextual (disch:=omega) only[go_sem,List.append_nil,ite_self,ne_eq,not_true_eq_false,bne_self_eq_false,beq_self_eq_true,ld_ptr (rdB_pre (hpw.trans H.sub) hb0),hs0,hR3.len,ld_ptr (H.pt 2 rfl),ld_ptr (H.pt 5 rfl),ld_ptr (H.pt 7 rfl),g1,g3_0,gl3_0,g4,g6_0,gl6_0,g7,decide_true,eq_self]
 obtain⟨τ11,R11,H⟩:=l_markState_ret 3 c6_0 _ (1) H rfl (by omega) (by have:=ctState_le (doEdits x0 x1 x2 x3).1;have:=doEdits_ms x0 x1 x2 x3;omega)
 refine by_mut R11 ?_
 try simp only[List.set_cons_succ,List.set_cons_zero] at H
 try simp +contextual (disch:=omega) only[go_sem,List.append_nil,ite_self,ne_eq,not_true_eq_false,bne_self_eq_false,beq_self_eq_true,ld_ptr (rdB_pre (hpw.trans H.sub) hb0),hs0,hR3.len,ld_ptr (H.pt 2 rfl),ld_ptr (H.pt 5 rfl),ld_ptr (H.pt 7 rfl),g1,g3_0,gl3_0,g4,g6_0,gl6_0,g7]
 refine by_ret (l_heldState_ret _ _ _ 1 (H.rd 3 rfl) (by omega) (by have:=ctState_le (doEdits x0 x1 x2 x3).1;have:=doEdits_ms x0 x1 x2 x3;omega)) ?_
 try simp +contextual (disch:=omega) only[go_sem,List.append_nil,ite_self,ne_eq,not_true_eq_false,bne_self_eq_false,beq_self_eq_true,ld_ptr (rdB_pre (hpw.trans H.sub) hb0),hs0,hR3.len,ld_ptr (H.pt 2 rfl),ld_ptr (H.pt 5 rfl),ld_ptr (H.pt 7 rfl),g1,g3_0,gl3_0,g4,g6_0,gl6_0,g7,dneg1,dneg2]
 try simp +contextual (disch:=omega) only[go_sem,List.append_nil,ite_self,ne_eq,not_true_eq_false,bne_self_eq_false,beq_self_eq_true,ld_ptr (rdB_pre (hpw.trans H.sub) hb0),hs0,hR3.len,ld_ptr (H.pt 2 rfl),ld_ptr (H.pt 5 rfl),ld_ptr (H.pt 7 rfl),g1,g3_0,gl3_0,g4,g6_0,gl6_0,g7,dneg1,dneg2]
 try simp +contextual (disch:=omega) only[go_sem,List.append_nil,ite_self,ne_eq,not_true_eq_false,bne_self_eq_false,beq_self_eq_true,ld_ptr (rdB_pre (hpw.trans H.sub) hb0),hs0,hR3.len,ld_ptr (H.pt 2 rfl),ld_ptr (H.pt 5 rfl),ld_ptr (H.pt 7 rfl),g1,g3_0,gl3_0,g4,g6_0,gl6_0,g7,dneg1,dneg2]
 obtain⟨_,τ12,R12,_,d12,rfl,K12⟩:=l_toState_ret _ cs0 x0 (kState.pre hR0 (hB.trans (hpw.trans H.sub))) (by omega)
 refine by_hp R12 K12 ?_
 have H:=H.add K12
 try simp only[List.cons_append,List.nil_append] at H
 have g12:=seg_full (kState.len (K12.rd 0 rfl))
 have g12:(seg d12 0 4).bind (mkv true)=some (.agg d12):=g12
 have gl12:d12.length=4:=kState.len (K12.rd 0 rfl)
 try simp +contextual (disch:=omega) only[go_sem,List.append_nil,ite_self,ne_eq,not_true_eq_false,bne_self_eq_false,beq_self_eq_true,ld_ptr (rdB_pre (hpw.trans H.sub) hb0),hs0,hR3.len,ld_ptr (H.pt 3 rfl),ld_ptr (H.pt 6 rfl),ld_ptr (H.pt 8 rfl),g1,g3_0,gl3_0,g4,g6_0,gl6_0,g7,g12]
 obtain⟨u13,τ13,R13,K13⟩:=l_toEditS_ret _ v3 x3 (hR3.pre (hB.trans (hpw.trans H.sub))) (by omega)
 refine by_hp R13 K13 ?_
 have H:=H.add K13
 try simp only[List.cons_append,List.nil_append] at H
 try simp +contextual (disch:=omega) only[go_sem,List.append_nil,ite_self,ne_eq,not_true_eq_false,bne_self_eq_false,beq_self_eq_true,ld_ptr (rdB_pre (hpw.trans H.sub) hb0),hs0,hR3.len,ld_ptr (H.pt 4 rfl),ld_ptr (H.pt 7 rfl),ld_ptr (H.pt 9 rfl),g1,g3_0,gl3_0,g4,g6_0,gl6_0,g7,g12]
 obtain⟨c14_0,τ14,R14,K14⟩:=i_DoEdits_ret _ d12 x0 (H.rd 1 rfl) x1 x2 u13 x3 (H.sl 0 rfl) (by omega) (by omega) hpl
 refine by_hp R14 K14 ?_
 have H:=H.add K14
 try simp only[List.cons_append,List.nil_append] at H
 have gl14_0:c14_0.length=4:=kState.len (K14.rd 0 rfl)
 have g14_0:(seg c14_0 0 4).bind (mkv true)=some (.agg c14_0):=seg_full gl14_0
 try simp +contextual (disch:=omega) only[go_sem,List.append_nil,ite_self,ne_eq,not_true_eq_false,bne_self_eq_false,beq_self_eq_true,ld_ptr (rdB_pre (hpw.trans H.sub) hb0),hs0,hR3.len,ld_ptr (H.pt 5 rfl),ld_ptr (H.pt 8 rfl),ld_ptr (H.pt 10 rfl),g1,g3_0,gl3_0,g4,g6_0,gl6_0,g7,g12,g14_0,gl14_0]
 have H:=H.new 1 c14_0
 try simp +contextual (disch:=omega) only[go_sem,List.append_nil,ite_self,ne_eq,not_true_eq_false,bne_self_eq_false,beq_self_eq_true,ld_ptr (rdB_pre (hpw.trans H.sub) hb0),hs0,hR3.len,ld_ptr (H.pt 0 rfl),ld_ptr (H.pt 6 rfl),ld_ptr (H.pt 9 rfl),ld_ptr (H.pt 11 rfl),g1,g3_0,gl3_0,g4,g6_0,gl6_0,g7,g12,g14_0,gl14_0,splice_full (cs:=[GV.nilS,GV.nilS,GV.nilS,GV.nilS]) gl14_0 rfl,gl14_0]
 refine by_ret (l_eqState_ret _ _ _ _ _ (H.rd 1 rfl) (kState.pre q3_0 H.sub) (by have:=doEdits_ms x0 x1 x2 x3;omega)) ?_
 try simp +contextual (disch:=omega) only[go_sem,List.append_nil,ite_self,ne_eq,not_true_eq_false,bne_self_eq_false,beq_self_eq_true,ld_ptr (rdB_pre (hpw.trans H.sub) hb0),hs0,hR3.len,ld_ptr (H.pt 0 rfl),ld_ptr (H.pt 6 rfl),ld_ptr (H.pt 9 rfl),ld_ptr (H.pt 11 rfl),g1,g3_0,gl3_0,g4,g6_0,gl6_0,g7,g12,g14_0,gl14_0,decide_true,eq_self]
 refine by_ret (l_heldState_ret _ _ _ 1 (H.rd 7 rfl) (by omega) (by have:=ctState_le (doEdits x0 x1 x2 x3).1;have:=doEdits_ms x0 x1 x2 x3;omega)) ?_
 try simp +contextual (disch:=omega) only[go_sem,List.append_nil,ite_self,ne_eq,not_true_eq_false,bne_self_eq_false,beq_self_eq_true,ld_ptr (rdB_pre (hpw.trans H.sub) hb0),hs0,hR3.len,ld_ptr (H.pt 0 rfl),ld_ptr (H.pt 6 rfl),ld_ptr (H.pt 9 rfl),ld_ptr (H.pt 11 rfl),g1,g3_0,gl3_0,g4,g6_0,gl6_0,g7,g12,g14_0,gl14_0,dneg1,dneg2]
 try simp +contextual (disch:=omega) only[go_sem,List.append_nil,ite_self,ne_eq,not_true_eq_false,bne_self_eq_false,beq_self_eq_true,ld_ptr (rdB_pre (hpw.trans H.sub) hb0),hs0,hR3.len,ld_ptr (H.pt 0 rfl),ld_ptr (H.pt 6 rfl),ld_ptr (H.pt 9 rfl),ld_ptr (H.pt 11 rfl),g1,g3_0,gl3_0,g4,g6_0,gl6_0,g7,g12,g14_0,gl14_0,dneg1,dneg2]
 try simp +contextual (disch:=omega) only[go_sem,List.append_nil,ite_self,ne_eq,not_true_eq_false,bne_self_eq_false,beq_self_eq_true,ld_ptr (rdB_pre (hpw.trans H.sub) hb0),hs0,hR3.len,ld_ptr (H.pt 0 rfl),ld_ptr (H.pt 6 rfl),ld_ptr (H.pt 9 rfl),ld_ptr (H.pt 11 rfl),g1,g3_0,gl3_0,g4,g6_0,gl6_0,g7,g12,g14_0,gl14_0,dneg1,dneg2]
 exact(hB.trans (hpw.trans H.sub)).length_le
end Go.Proofs.YtffnefmklckngaaGreat.Sy
