/- Texts of this proof, one behind the other. -/
import Derived.Test.YtffnefmklckngaaGreatBMayStand2
import Derived.Test.YtffnefmklckngaaGreatProg
import Derived.KernelRfl
namespace Go.Proofs.YtffnefmklckngaaGreat.Sy
open Go Go.RowKit
set_option linter.unusedSimpArgs false
set_option linter.unusedVariables false
set_option maxRecDepth 4000
abbrev n_s_l07Live:Nat:=195
def F_s_l07Live:Fn1:=⟨45,[.t 4],(.seq (.reg [o 3 (.box (.t 1)),o 4 (.mov (.k .nilS))]) (.seq (.reg [o 8 (.lit 6 0 [] []),o 5 (.mov (.t 8))]) (.seq (.reg [o 6 (.mov (.k (.bool false)))]) (.seq (.seq (.reg [o 7 (.mov (.k (.int .i64 0)))]) (.blk 0 (.lop (.seq (.seq (.reg [o 9 (.mov (.t 7)),o 10 (.mov (.t 0)),o 11 (.len false (.t 10)),o 12 (.bin .lss (.t 9) (.t 11))]) (.cnd (.t 12) .skip (.ext 0))) (.seq (.blk 1 (.seq (.seq (.drw [o 15 (.mov (.t 6)),o 16 (.un .not (.t 15)),o 17 (.mov (.t 16)),og 18 17 true (.fad 4 (.t 3)),og 19 17 true (.ld true 2 (.t 18)),og 20 17 true (.mov (.t 0)),og 21 17 true (.mov (.t 7)),og 22 17 true (.iad 6 (.t 20) (.t 21)),og 23 17 true (.fad 4 (.t 22)),og 24 17 true (.ld true 2 (.t 23))] [og 25 17 true (.call 211 [(.t 19),(.t 24)]),o 26 (.pick (.t 17) (.t 25) (.k (.bool false)))]) (.cnd (.t 26) (.seq (.reg [o 27 (.mov (.t 5)),o 28 (.ld true 6 (.t 3)),o 29 (.lit 6 1 [(.bool false),(.str ⟨#[]⟩),(.str ⟨#[]⟩),(.int .i64 0),(.int .i64 0),(.int .i64 0)] [(0,6,(.t 28))]),o 30 (.app 6 64 [(.bool false),(.str ⟨#[]⟩),(.str ⟨#[]⟩),(.int .i64 0),(.int .i64 0),(.int .i64 0)] (.t 27) (.t 29)),o 5 (.mov (.t 30))]) (.reg [o 6 (.mov (.k (.bool true)))])) .skip)) (.reg [o 31 (.mov (.t 5)),o 32 (.mov (.t 0)),o 33 (.mov (.t 7)),o 34 (.iad 6 (.t 32) (.t 33)),o 35 (.ld true 6 (.t 34)),o 36 (.lit 6 1 [(.bool false),(.str ⟨#[]⟩),(.str ⟨#[]⟩),(.int .i64 0),(.int .i64 0),(.int .i64 0)] [(0,6,(.t 35))]),o 37 (.app 6 64 [(.bool false),(.str ⟨#[]⟩),(.str ⟨#[]⟩),(.int .i64 0),(.int .i64 0),(.int .i64 0)] (.t 31) (.t 36)),o 5 (.mov (.t 37))]))) (.reg [o 13 (.mov (.t 7)),o 14 (.bin .add (.t 13) (.k (.int .i64 1))),o 7 (.mov (.t 14))])))))) (.seq (.seq (.reg [o 38 (.mov (.t 6)),o 39 (.un .not (.t 38))]) (.cnd (.t 39) (.reg [o 40 (.mov (.t 5)),o 41 (.ld true 6 (.t 3)),o 42 (.lit 6 1 [(.bool false),(.str ⟨#[]⟩),(.str ⟨#[]⟩),(.int .i64 0),(.int .i64 0),(.int .i64 0)] [(0,6,(.t 41))]),o 43 (.app 6 64 [(.bool false),(.str ⟨#[]⟩),(.str ⟨#[]⟩),(.int .i64 0),(.int .i64 0),(.int .i64 0)] (.t 40) (.t 42)),o 5 (.mov (.t 43))]) .skip)) (.seq (.reg [o 44 (.mov (.t 5)),o 4 (.mov (.t 44))]) .ret))))))⟩
theorem ir_s_l07Live:compFn Tryz.prog n_s_l07Live=some F_s_l07Live:=by kernel_rfl
abbrev n_s_l07Cell:Nat:=197
def F_s_l07Cell:Fn1:=⟨45,[.t 4],(.seq (.reg [o 3 (.box (.t 1)),o 4 (.mov (.k .nilS))]) (.seq (.reg [o 8 (.lit 8 0 [] []),o 5 (.mov (.t 8))]) (.seq (.reg [o 6 (.mov (.k (.bool false)))]) (.seq (.seq (.reg [o 7 (.mov (.k (.int .i64 0)))]) (.blk 0 (.lop (.seq (.seq (.reg [o 9 (.mov (.t 7)),o 10 (.mov (.t 0)),o 11 (.len false (.t 10)),o 12 (.bin .lss (.t 9) (.t 11))]) (.cnd (.t 12) .skip (.ext 0))) (.seq (.blk 1 (.seq (.seq (.drw [o 15 (.mov (.t 6)),o 16 (.un .not (.t 15)),o 17 (.mov (.t 16)),og 18 17 true (.fad 1 (.t 3)),og 19 17 true (.ld true 2 (.t 18)),og 20 17 true (.mov (.t 0)),og 21 17 true (.mov (.t 7)),og 22 17 true (.iad 8 (.t 20) (.t 21)),og 23 17 true (.fad 1 (.t 22)),og 24 17 true (.ld true 2 (.t 23))] [og 25 17 true (.call 211 [(.t 19),(.t 24)]),o 26 (.pick (.t 17) (.t 25) (.k (.bool false)))]) (.cnd (.t 26) (.seq (.reg [o 27 (.mov (.t 5)),o 28 (.ld true 8 (.t 3)),o 29 (.lit 8 1 [(.str ⟨#[]⟩),(.int .i64 0),(.int .i64 0),(.int .i64 0),(.int .i64 0),(.int .i64 0),(.int .i64 0),(.bool false)] [(0,8,(.t 28))]),o 30 (.app 8 72 [(.str ⟨#[]⟩),(.int .i64 0),(.int .i64 0),(.int .i64 0),(.int .i64 0),(.int .i64 0),(.int .i64 0),(.bool false)] (.t 27) (.t 29)),o 5 (.mov (.t 30))]) (.reg [o 6 (.mov (.k (.bool true)))])) .skip)) (.reg [o 31 (.mov (.t 5)),o 32 (.mov (.t 0)),o 33 (.mov (.t 7)),o 34 (.iad 8 (.t 32) (.t 33)),o 35 (.ld true 8 (.t 34)),o 36 (.lit 8 1 [(.str ⟨#[]⟩),(.int .i64 0),(.int .i64 0),(.int .i64 0),(.int .i64 0),(.int .i64 0),(.int .i64 0),(.bool false)] [(0,8,(.t 35))]),o 37 (.app 8 72 [(.str ⟨#[]⟩),(.int .i64 0),(.int .i64 0),(.int .i64 0),(.int .i64 0),(.int .i64 0),(.int .i64 0),(.bool false)] (.t 31) (.t 36)),o 5 (.mov (.t 37))]))) (.reg [o 13 (.mov (.t 7)),o 14 (.bin .add (.t 13) (.k (.int .i64 1))),o 7 (.mov (.t 14))])))))) (.seq (.seq (.reg [o 38 (.mov (.t 6)),o 39 (.un .not (.t 38))]) (.cnd (.t 39) (.reg [o 40 (.mov (.t 5)),o 41 (.ld true 8 (.t 3)),o 42 (.lit 8 1 [(.str ⟨#[]⟩),(.int .i64 0),(.int .i64 0),(.int .i64 0),(.int .i64 0),(.int .i64 0),(.int .i64 0),(.bool false)] [(0,8,(.t 41))]),o 43 (.app 8 72 [(.str ⟨#[]⟩),(.int .i64 0),(.int .i64 0),(.int .i64 0),(.int .i64 0),(.int .i64 0),(.int .i64 0),(.bool false)] (.t 40) (.t 42)),o 5 (.mov (.t 43))]) .skip)) (.seq (.reg [o 44 (.mov (.t 5)),o 4 (.mov (.t 44))]) .ret))))))⟩
theorem ir_s_l07Cell:compFn Tryz.prog n_s_l07Cell=some F_s_l07Cell:=by kernel_rfl
abbrev n_s_l07Ref:Nat:=144
def F_s_l07Ref:Fn1:=⟨53,[.t 4],(.seq (.reg [o 2 (.box (.t 0)),o 3 (.box (.t 1)),o 4 (.mov (.k (.bool false)))]) (.seq (.seq (.reg [o 6 (.fad 4 (.t 3)),o 7 (.ld false 1 (.t 6)),o 8 (.bin .neq (.t 7) (.k (.int .i64 7))),o 9 (.mov (.t 8)),og 10 9 true (.fad 4 (.t 3)),og 11 9 true (.ld false 1 (.t 10)),og 12 9 true (.bin .neq (.t 11) (.k (.int .i64 6))),og 13 9 true (.mov (.t 12)),og 14 13 false (.fad 8 (.t 3)),og 15 13 false (.ld true 2 (.t 14)),og 16 13 false (.build [(.int .i64 0),(.int .i64 0)] []),og 17 13 false (.eqs false [.i .i64,.i .i64] (.t 15) (.t 16)),og 18 9 true (.pick (.t 13) (.k (.bool true)) (.t 17)),o 19 (.pick (.t 9) (.t 18) (.k (.bool false)))]) (.cnd (.t 19) (.seq (.reg [o 4 (.mov (.k (.bool true)))]) .ret) .skip)) (.seq (.reg [o 20 (.ld true 4 (.t 2)),o 21 (.fad 8 (.t 3)),o 22 (.ld true 2 (.t 21)),o 23 (.call 187 [(.t 20),(.t 22)]),o 5 (.mov (.t 23))]) (.seq (.drw [o 24 (.mov (.t 5)),o 25 (.bin .geq (.t 24) (.k (.int .i64 0))),o 26 (.mov (.t 25)),og 27 26 true (.fad 3 (.t 2)),og 28 26 true (.ld false 1 (.t 27)),og 29 26 true (.mov (.t 5)),og 30 26 true (.iad 8 (.t 28) (.t 29)),og 31 26 true (.fad 0 (.t 30)),og 32 26 true (.ld false 1 (.t 31)),og 33 26 true (.fad 5 (.t 3)),og 34 26 true (.ld false 1 (.t 33)),og 35 26 true (.bin .eql (.t 32) (.t 34)),o 36 (.pick (.t 26) (.t 35) (.k (.bool false))),o 37 (.mov (.t 36)),og 38 37 true (.fad 4 (.t 3)),og 39 37 true (.ld false 1 (.t 38)),og 40 37 true (.bin .eql (.t 39) (.k (.int .i64 7))),og 41 37 true (.mov (.t 40)),og 42 41 false (.fad 3 (.t 2)),og 43 41 false (.ld false 1 (.t 42)),og 44 41 false (.mov (.t 5)),og 45 41 false (.iad 8 (.t 43) (.t 44)),og 46 41 false (.fad 3 (.t 45)),og 47 41 false (.ld false 1 (.t 46)),og 48 41 false (.fad 2 (.t 3)),og 49 41 false (.ld false 1 (.t 48))] [og 50 41 false (.bin .lss (.t 47) (.t 49)),og 51 37 true (.pick (.t 41) (.k (.bool true)) (.t 50)),o 52 (.pick (.t 37) (.t 51) (.k (.bool false))),o 4 (.mov (.t 52))]) .ret))))⟩
theorem ir_s_l07Ref:compFn Tryz.prog n_s_l07Ref=some F_s_l07Ref:=by kernel_rfl
set_option maxHeartbeats 2000000 in
theorem s_l07Live_ret (σ:St) (v:GV) (l:List Live) (h:RS pLive.kd σ v l) (x:Live) (hl:l.length≤1099511627776):∃ r τ,Ret Tryz.prog n_s_l07Live [v,.agg (liveV x)] σ r τ∧Hp σ τ [ow pLive.kd r (insLive x l)]:=by
 refine ret_dr ir_s_l07Live (Nat.le_of_ble_eq_true rfl) ?_
 have H:=((Hp.refl σ).new 1 (liveV x)).nil_Live
 simp +contextual (disch:=omega) only[go_sem,F_s_l07Live]
 generalize hn1:σ.length=n1 at*
 refine vc_forX l.length 7 0 (fun i env τ=>env 0=v∧env 3= .ptr n1 0∧∃(u:GV) (put:Bool) (nxt:List Live),env 5=u∧env 6= .bool put∧insG liveLt x l nxt i put∧Hp σ τ [ow pLive.kd u nxt,pt 1 n1 (liveV x)]) (fun env τ=>env 3= .ptr n1 0∧∃(u:GV) (put:Bool) (nxt:List Live),env 5=u∧env 6= .bool put∧insG liveLt x l nxt l.length put∧Hp σ τ [ow pLive.kd u nxt,pt 1 n1 (liveV x)]) rfl ⟨rfl,rfl,_,false,[],rfl,rfl,insG_nil,H⟩ ?_ ?_ ?_
 ·clear H
  rintro J Y hJ hY i env τ hi e7 c0 ⟨e0,e3,u,put,nxt,e5,e6,hok,H⟩
  have hnl:=insG_len hok
  have hln:=(h.pre H.sub).len
  have C1:=Live_at (h.pre H.sub) hi
  cases put with
  |true=>
   obtain⟨w',τ3,e8,H3⟩:=H.app_Live 0 rfl l[i] (by omega)
   simp +contextual (disch:=omega) only[go_sem,c0,e0,e3,e5,e6,e7,hln,C1,e8]
   refine hJ _ _ _ ⟨?_,?_,w',true,_,?_,?_,insG_step hok hi (.inl rfl),H3⟩
   all_goals simp +contextual (disch:=omega) only[go_sem,e0,e3,e6]
  |false=>
   simp +contextual (disch:=omega) only[go_sem,c0,e0,e3,e5,e6,e7,hln,C1,ld_ptr (H.pt 1 rfl)]
   refine by_ret (s_l06Before_ret _ _ _) ?_
   cases hq:dotLt x.dot l[i].dot with
   |false=>
    have hq2:liveLt x l[i]=false:=hq
    obtain⟨w',τ3,e8,H3⟩:=H.app_Live 0 rfl l[i] (by omega)
    simp +contextual (disch:=omega) only[go_sem,c0,e0,e3,e5,e6,e7,hln,C1,e8]
    refine hJ _ _ _ ⟨?_,?_,w',false,_,?_,?_,insG_step hok hi (.inr hq2),H3⟩
    all_goals simp +contextual (disch:=omega) only[go_sem,e0,e3,e6]
   |true=>
    have hq2:liveLt x l[i]=true:=hq
    obtain⟨w',τ3,e8,H3⟩:=H.app_Live 0 rfl x (by omega)
    have H3:Hp σ τ3 [ow pLive.kd w' (nxt++[x]),pt 1 n1 (liveV x)]:=H3
    have hp:=insG_put hok hi hq2
    have hnl2:=insG_len hp
    simp only[List.length_append,List.length_cons,List.length_nil] at hnl2
    have C2:=Live_at (h.pre H3.sub) hi
    obtain⟨w2,τ4,e9,H4⟩:=H3.app_Live 0 rfl l[i] (by simp;omega)
    simp +contextual (disch:=omega) only[go_sem,c0,e0,e3,e5,e6,e7,hln,C1,ld_ptr (H.pt 1 rfl),e8,C2,e9]
    refine hJ _ _ _ ⟨?_,?_,w2,true,_,?_,?_,hp,H4⟩
    all_goals simp +contextual (disch:=omega) only[go_sem,e0,e3,e6]
 ·clear H
  rintro Y hY env τ e7 c0 ⟨e0,e3,u,put,nxt,e5,e6,hok,H⟩
  have hln:=(h.pre H.sub).len
  simp +contextual (disch:=omega) only[go_sem,c0,e0,e3,e5,e6,e7,hln]
  refine hY _ _ ⟨?_,u,put,nxt,?_,?_,hok,H⟩
  all_goals simp +contextual (disch:=omega) only[go_sem,e3,e5,e6]
 ·clear H
  rintro env τ ⟨e3,u,put,nxt,e5,e6,hok,H⟩
  have hnl:=insG_len hok
  have hend:=insG_end hok
  cases put with
  |true=>
   simp +contextual (disch:=omega) only[go_sem,e3,e5,e6]
   refine⟨_,rfl,?_⟩
   rw[insLive,←hend]
   exact H.one
  |false=>
   obtain⟨w',τ3,e8,H3⟩:=H.app_Live 0 rfl x (by omega)
   simp +contextual (disch:=omega) only[go_sem,e3,e5,e6,ld_ptr (H.pt 1 rfl),e8]
   refine⟨_,rfl,?_⟩
   rw[insLive,←hend]
   exact H3.one
set_option maxHeartbeats 2000000 in
theorem s_l07Cell_ret (σ:St) (v:GV) (l:List Cell) (h:RS pCell.kd σ v l) (x:Cell) (hl:l.length≤1099511627776):∃ r τ,Ret Tryz.prog n_s_l07Cell [v,.agg (cellV x)] σ r τ∧Hp σ τ [ow pCell.kd r (insCell x l)]:=by
 refine ret_dr ir_s_l07Cell (Nat.le_of_ble_eq_true rfl) ?_
 have H:=((Hp.refl σ).new 1 (cellV x)).nil_Cell
 simp +contextual (disch:=omega) only[go_sem,F_s_l07Cell]
 generalize hn1:σ.length=n1 at*
 refine vc_forX l.length 7 0 (fun i env τ=>env 0=v∧env 3= .ptr n1 0∧∃(u:GV) (put:Bool) (nxt:List Cell),env 5=u∧env 6= .bool put∧insG cellLt x l nxt i put∧Hp σ τ [ow pCell.kd u nxt,pt 1 n1 (cellV x)]) (fun env τ=>env 3= .ptr n1 0∧∃(u:GV) (put:Bool) (nxt:List Cell),env 5=u∧env 6= .bool put∧insG cellLt x l nxt l.length put∧Hp σ τ [ow pCell.kd u nxt,pt 1 n1 (cellV x)]) rfl ⟨rfl,rfl,_,false,[],rfl,rfl,insG_nil,H⟩ ?_ ?_ ?_
 ·clear H
  rintro J Y hJ hY i env τ hi e7 c0 ⟨e0,e3,u,put,nxt,e5,e6,hok,H⟩
  have hnl:=insG_len hok
  have hln:=(h.pre H.sub).len
  have C1:=Cell_at (h.pre H.sub) hi
  cases put with
  |true=>
   obtain⟨w',τ3,e8,H3⟩:=H.app_Cell 0 rfl l[i] (by omega)
   simp +contextual (disch:=omega) only[go_sem,c0,e0,e3,e5,e6,e7,hln,C1,e8]
   refine hJ _ _ _ ⟨?_,?_,w',true,_,?_,?_,insG_step hok hi (.inl rfl),H3⟩
   all_goals simp +contextual (disch:=omega) only[go_sem,e0,e3,e6]
  |false=>
   simp +contextual (disch:=omega) only[go_sem,c0,e0,e3,e5,e6,e7,hln,C1,ld_ptr (H.pt 1 rfl)]
   refine by_ret (s_l06Before_ret _ _ _) ?_
   cases hq:dotLt x.dot l[i].dot with
   |false=>
    have hq2:cellLt x l[i]=false:=hq
    obtain⟨w',τ3,e8,H3⟩:=H.app_Cell 0 rfl l[i] (by omega)
    simp +contextual (disch:=omega) only[go_sem,c0,e0,e3,e5,e6,e7,hln,C1,e8]
    refine hJ _ _ _ ⟨?_,?_,w',false,_,?_,?_,insG_step hok hi (.inr hq2),H3⟩
    all_goals simp +contextual (disch:=omega) only[go_sem,e0,e3,e6]
   |true=>
    have hq2:cellLt x l[i]=true:=hq
    obtain⟨w',τ3,e8,H3⟩:=H.app_Cell 0 rfl x (by omega)
    have H3:Hp σ τ3 [ow pCell.kd w' (nxt++[x]),pt 1 n1 (cellV x)]:=H3
    have hp:=insG_put hok hi hq2
    have hnl2:=insG_len hp
    simp only[List.length_append,List.length_cons,List.length_nil] at hnl2
    have C2:=Cell_at (h.pre H3.sub) hi
    obtain⟨w2,τ4,e9,H4⟩:=H3.app_Cell 0 rfl l[i] (by simp;omega)
    simp +contextual (disch:=omega) only[go_sem,c0,e0,e3,e5,e6,e7,hln,C1,ld_ptr (H.pt 1 rfl),e8,C2,e9]
    refine hJ _ _ _ ⟨?_,?_,w2,true,_,?_,?_,hp,H4⟩
    all_goals simp +contextual (disch:=omega) only[go_sem,e0,e3,e6]
 ·clear H
  rintro Y hY env τ e7 c0 ⟨e0,e3,u,put,nxt,e5,e6,hok,H⟩
  have hln:=(h.pre H.sub).len
  simp +contextual (disch:=omega) only[go_sem,c0,e0,e3,e5,e6,e7,hln]
  refine hY _ _ ⟨?_,u,put,nxt,?_,?_,hok,H⟩
  all_goals simp +contextual (disch:=omega) only[go_sem,e3,e5,e6]
 ·clear H
  rintro env τ ⟨e3,u,put,nxt,e5,e6,hok,H⟩
  have hnl:=insG_len hok
  have hend:=insG_end hok
  cases put with
  |true=>
   simp +contextual (disch:=omega) only[go_sem,e3,e5,e6]
   refine⟨_,rfl,?_⟩
   rw[insCell,←hend]
   exact H.one
  |false=>
   obtain⟨w',τ3,e8,H3⟩:=H.app_Cell 0 rfl x (by omega)
   simp +contextual (disch:=omega) only[go_sem,e3,e5,e6,ld_ptr (H.pt 1 rfl),e8]
   refine⟨_,rfl,?_⟩
   rw[insCell,←hend]
   exact H3.one
theorem s_l07Ref_ret (σ:St) (cs:List GV) (s:State) (hR:kState.R σ s cs) (as':List GV) (a:Act) (hS:kAct.R σ a as') (hl:msState s≤1099511627776):Ret Tryz.prog n_s_l07Ref [.agg cs,.agg as'] σ (.bool (refIn s a)) σ:=by
 have hR0:=hR
 have hlc:cs.length=4:=kState.len hR
 obtain⟨a1,b1,c1,v1,rfl,_,_,_,hc⟩:=hR
 obtain⟨kv,rfl,hk⟩:=hS
 obtain⟨l1,l2,l3,l4,_⟩:=msState_all hl
 refine ret_eq ir_s_l07Ref (Nat.le_of_ble_eq_true rfl) trivial ?_
 have H:=((Hp.refl σ).new 1 [a1,b1,c1,v1]).new 1 [.int .i64 a.dot.rep,.int .i64 a.dot.seq,.int .i64 a.time,kv,.int .i64 a.kind,.str a.obj,.str a.key,.int .i64 a.val,.int .i64 a.ref.rep,.int .i64 a.ref.seq]
 have z1:=ld_ptr (a:=false) (n:=1) (off:=4) (H.pt 0 rfl)
 by_cases hin:a.kind=7∨(a.kind=6∧a.ref≠d0)
 ·have CA:=s_CellAt_ret _ _ s (kState.pre hR0 H.sub) a.ref hl
  cases hx:cellIx s.cells a.ref with
  |none=>
   have hE:refIn s a=false:=by simp[refIn,hin,hx]
   have hno:cellNo s.cells a.ref= -1:=by simp[cellNo,hx]
   rw[hno] at CA
   have cm:decide ((0:Int)≤ -1)=false:=rfl
   by_cases h7:a.kind=7
   ·have c7:(a.kind != 7)=false:=by simp[h7]
    simp +contextual (disch:=omega) only[go_sem,F_s_l07Ref,c7]
    refine by_ret CA ?_
    simp +contextual (disch:=omega) only[go_sem,cm,hE,H.sub]
   ·have h6:a.kind=6∧a.ref≠d0:=hin.resolve_left h7
    have c7:(a.kind != 7)=true:=by simp[h7]
    have c6:(a.kind != 6)=false:=by simp[h6.1]
    have cr:decide (a.ref=⟨0,0⟩)=false:=decide_eq_false h6.2
    simp +contextual (disch:=omega) only[go_sem,F_s_l07Ref,c7,c6,cr,Bool.false_xor,Bool.false_bne]
    refine by_ret CA ?_
    simp +contextual (disch:=omega) only[go_sem,cm,hE,H.sub]
  |some k=>
   obtain⟨hk,hk2⟩:=cellIx_some hx
   have hE:refIn s a=(decide (s.cells[k].obj=a.obj)&&(decide (a.kind=7)||decide (s.cells[k].time<a.time))):=by simp[refIn,hin,hx,onI_at hk]
   have hno:cellNo s.cells a.ref=k:=by simp[cellNo,hx]
   rw[hno] at CA
   have cm:decide ((0:Int)≤(k:Int))=true:=by simp
   have C2:=Cell_at (hc.pre H.sub) hk
   by_cases h7:a.kind=7
   ·have c7:(a.kind != 7)=false:=by simp[h7]
    have d7:(a.kind==7)=true:=by simp[h7]
    rw[decide_eq_true h7,Bool.true_or,Bool.and_true] at hE
    simp +contextual (disch:=omega) only[go_sem,F_s_l07Ref,c7]
    refine by_ret CA ?_
    cases ho:decide (s.cells[k].obj=a.obj) with
    |true=>simp +contextual (disch:=omega) only[go_sem,cm,natOf_nat,C2,ho,d7,hE,H.sub]
    |false=>simp +contextual (disch:=omega) only[go_sem,cm,natOf_nat,C2,ho,hE,H.sub]
   ·have h6:a.kind=6∧a.ref≠d0:=hin.resolve_left h7
    have c7:(a.kind != 7)=true:=by simp[h7]
    have d7:(a.kind==7)=false:=by simp[h7]
    have c6:(a.kind != 6)=false:=by simp[h6.1]
    have cr:decide (a.ref=⟨0,0⟩)=false:=decide_eq_false h6.2
    rw[decide_eq_false h7,Bool.false_or] at hE
    simp +contextual (disch:=omega) only[go_sem,F_s_l07Ref,c7,c6,cr,Bool.false_xor,Bool.false_bne]
    refine by_ret CA ?_
    cases ho:decide (s.cells[k].obj=a.obj) with
    |true=>simp +contextual (disch:=omega) only[go_sem,cm,natOf_nat,C2,ho,d7,hE,H.sub,Bool.true_and]
    |false=>simp +contextual (disch:=omega) only[go_sem,cm,natOf_nat,C2,ho,hE,H.sub,Bool.false_and]
 ·have hE:refIn s a=true:=by unfold refIn;rw[if_neg hin]
  have h7:¬ a.kind=7:=fun h=>hin (.inl h)
  have c7:(a.kind != 7)=true:=by simp[h7]
  by_cases h6:a.kind=6
  ·have hr:a.ref=d0:=by
    by_cases h:a.ref=d0
    ·exact h
    ·exact absurd (.inr ⟨h6,h⟩) hin
   have c6:(a.kind != 6)=false:=by simp[h6]
   have cr:decide (a.ref=⟨0,0⟩)=true:=decide_eq_true hr
   simp +contextual (disch:=omega) only[go_sem,F_s_l07Ref,c7,c6,cr,Bool.false_xor,Bool.false_bne,hE,H.sub]
  ·have c6:(a.kind != 6)=true:=by simp[h6]
   simp +contextual (disch:=omega) only[go_sem,F_s_l07Ref,c7,c6,hE,H.sub]
end Go.Proofs.YtffnefmklckngaaGreat.Sy
namespace Go.Proofs.YtffnefmklckngaaGreat.Sy
open Go Go.RowKit
set_option linter.unusedSimpArgs false
set_option linter.unusedVariables false
theorem Hp.moveTo {σ τ:St} {r r':Thg} {rs:List Thg} (H:Hp σ τ (r::rs)) (k:Nat) (hk:rs[k]? =some r'):Hp σ τ (rs.set k r):=by
 have hkl:=(List.getElem?_eq_some_iff.1 hk).1
 have h1:=(H.pick (k+1) hk).drop1
 exact Hp.unpick h1 hkl
theorem vc_forR {P:Program} {a:Cd} {Q:Ex→Env→St→Prop} {env:Env} {σ:St} (n ri j0:Nat) (I:Nat→Env→St→Prop) (X Z:Env→St→Prop) (hr:env ri=gi 0) (h0:I 0 env σ)
  (hs:∀(J:Nat→Env→St→Prop) (Y W:Env→St→Prop),(∀ i env σ,I i env σ→J i env σ)→(∀ env σ,X env σ→Y env σ)→(∀ env σ,Z env σ→W env σ)→∀ i env σ,i<n→env ri=gi i→decide ((i:Int)<n)=true→I i env σ→vc P a (fun e env' σ'=>match e with| .nxt=>env' ri=gi ((i:Int)+1)∧J (i+1) env' σ'| .ext j=>j=j0∧Y env' σ'| .ret=>W env' σ') env σ)
  (he:∀(Y:Env→St→Prop),(∀ env σ,X env σ→Y env σ)→∀ env σ,env ri=gi n→decide ((n:Int)<n)=false→I n env σ→vc P a (fun e env' σ'=>match e with| .nxt=>False| .ext j=>j=j0∧Y env' σ'| .ret=>False) env σ)
  (hx:∀ env σ,X env σ→Q (.ext j0) env σ) (hz:∀ env σ,Z env σ→Q .ret env σ):vc P (.lop a) Q env σ:=by
 refine vc_for n ri I hr h0 (fun i env σ h1 h2 h3 h4=>vc_mono (hs I X Z (fun _ _ _ h=>h) (fun _ _ h=>h) (fun _ _ h=>h) i env σ h1 h2 h3 h4) fun e env' σ' hq=> ?_) (fun env σ h1 h2 h3=>vc_mono (he X (fun _ _ h=>h) env σ h1 h2 h3) fun e env' σ' hq=> ?_)
 ·cases e with
  |nxt=>exact hq
  |ret=>exact hz _ _ hq
  |ext j=>obtain⟨rfl,hq⟩:=hq;exact hx _ _ hq
 ·cases e with
  |nxt=>exact hq
  |ret=>exact hq.elim
  |ext j=>obtain⟨rfl,hq⟩:=hq;exact hx _ _ hq
end Go.Proofs.YtffnefmklckngaaGreat.Sy
namespace Go.Proofs.YtffnefmklckngaaGreat.Sy
open Go Go.RowKit
set_option linter.unusedSimpArgs false
set_option linter.unusedVariables false
set_option maxRecDepth 4000
abbrev n_s_l07Clear:Nat:=196
def F_s_l07Clear:Fn1:=⟨61,[],(.seq (.reg [o 13 (.lit 6 0 [] []),o 10 (.mov (.t 13))]) (.seq (.seq (.reg [o 11 (.mov (.k (.int .i64 0)))]) (.blk 0 (.lop (.seq (.seq (.reg [o 14 (.mov (.t 11)),o 15 (.mov (.t 0)),o 16 (.nck (.t 15)),o 17 (.fad 2 (.t 16)),o 18 (.ld false 1 (.t 17)),o 19 (.len false (.t 18)),o 20 (.bin .lss (.t 14) (.t 19))]) (.cnd (.t 20) .skip (.ext 0))) (.seq (.blk 1 (.seq (.reg [o 23 (.mov (.t 0)),o 24 (.nck (.t 23)),o 25 (.fad 2 (.t 24)),o 26 (.ld false 1 (.t 25)),o 27 (.mov (.t 11)),o 28 (.iad 6 (.t 26) (.t 27)),o 29 (.ld true 6 (.t 28)),o 12 (.new [(.bool false),(.str ⟨#[]⟩),(.str ⟨#[]⟩),(.int .i64 0),(.int .i64 0),(.int .i64 0)]),on (.st 6 (.t 12) (.t 29))]) (.seq (.reg [o 30 (.fad 0 (.t 12)),o 31 (.ld false 1 (.t 30)),o 32 (.mov (.t 1)),o 33 (.eqb true (.t 31) (.t 32)),o 34 (.mov (.t 33)),og 35 34 false (.fad 1 (.t 12)),og 36 34 false (.ld false 1 (.t 35)),og 37 34 false (.mov (.t 2)),og 38 34 false (.bin .neq (.t 36) (.t 37)),o 39 (.pick (.t 34) (.k (.bool true)) (.t 38)),o 40 (.mov (.t 39)),og 41 40 false (.fad 2 (.t 12)),og 42 40 false (.ld false 1 (.t 41)),og 43 40 false (.mov (.t 3)),og 44 40 false (.bin .neq (.t 42) (.t 43)),o 45 (.pick (.t 40) (.k (.bool true)) (.t 44)),o 46 (.mov (.t 45)),og 47 46 false (.mov (.t 4)),og 48 46 false (.fad 4 (.t 12)),og 49 46 false (.ld true 2 (.t 48)),og 50 46 false (.call 142 [(.t 47),(.t 49)]),og 51 46 false (.un .not (.t 50)),o 52 (.pick (.t 46) (.k (.bool true)) (.t 51))]) (.cnd (.t 52) (.reg [o 53 (.mov (.t 10)),o 54 (.ld true 6 (.t 12)),o 55 (.lit 6 1 [(.bool false),(.str ⟨#[]⟩),(.str ⟨#[]⟩),(.int .i64 0),(.int .i64 0),(.int .i64 0)] [(0,6,(.t 54))]),o 56 (.app 6 64 [(.bool false),(.str ⟨#[]⟩),(.str ⟨#[]⟩),(.int .i64 0),(.int .i64 0),(.int .i64 0)] (.t 53) (.t 55)),o 10 (.mov (.t 56))]) .skip)))) (.reg [o 21 (.mov (.t 11)),o 22 (.bin .add (.t 21) (.k (.int .i64 1))),o 11 (.mov (.t 22))])))))) (.reg [o 57 (.mov (.t 0)),o 58 (.mov (.t 10)),o 59 (.nck (.t 57)),o 60 (.fad 2 (.t 59)),on (.st 1 (.t 60) (.t 58))])))⟩
theorem ir_s_l07Clear:compFn Tryz.prog n_s_l07Clear=some F_s_l07Clear:=by kernel_rfl
abbrev n_s_l07Tally:Nat:=194
def F_s_l07Tally:Fn1:=⟨113,[],(.seq (.seq (.reg [o 8 (.mov (.k (.int .i64 0)))]) (.blk 0 (.lop (.seq (.seq (.reg [o 14 (.mov (.t 8)),o 15 (.mov (.t 0)),o 16 (.nck (.t 15)),o 17 (.fad 1 (.t 16)),o 18 (.ld false 1 (.t 17)),o 19 (.len false (.t 18)),o 20 (.bin .lss (.t 14) (.t 19))]) (.cnd (.t 20) .skip (.ext 0))) (.seq (.blk 1 (.seq (.reg [o 23 (.mov (.t 0)),o 24 (.nck (.t 23)),o 25 (.fad 1 (.t 24)),o 26 (.ld false 1 (.t 25)),o 27 (.mov (.t 8)),o 28 (.iad 3 (.t 26) (.t 27)),o 29 (.ld true 3 (.t 28)),o 9 (.new [(.str ⟨#[]⟩),(.int .i64 0),(.int .i64 0)]),on (.st 3 (.t 9) (.t 29))]) (.seq (.reg [o 30 (.fad 0 (.t 9)),o 31 (.ld false 1 (.t 30)),o 32 (.mov (.t 1)),o 33 (.bin .eql (.t 31) (.t 32)),o 34 (.mov (.t 33)),og 35 34 true (.fad 1 (.t 9)),og 36 34 true (.ld false 1 (.t 35)),og 37 34 true (.mov (.t 2)),og 38 34 true (.bin .eql (.t 36) (.t 37)),o 39 (.pick (.t 34) (.t 38) (.k (.bool false)))]) (.cnd (.t 39) (.seq (.drw [o 40 (.mov (.t 0)),o 41 (.nck (.t 40)),o 42 (.fad 1 (.t 41)),o 43 (.ld false 1 (.t 42)),o 44 (.mov (.t 8)),o 45 (.fad 2 (.t 9)),o 46 (.ld false 1 (.t 45))] [o 47 (.mov (.t 3)),o 48 (.bin .add (.t 46) (.t 47)),o 49 (.bin .rem (.t 48) (.k (.int .i64 1000000))),o 50 (.iad 3 (.t 43) (.t 44)),o 51 (.fad 2 (.t 50)),on (.st 1 (.t 51) (.t 49))]) .ret) .skip)))) (.reg [o 21 (.mov (.t 8)),o 22 (.bin .add (.t 21) (.k (.int .i64 1))),o 8 (.mov (.t 22))])))))) (.seq (.reg [o 52 (.lit 3 0 [] []),o 10 (.mov (.t 52))]) (.seq (.reg [o 11 (.mov (.k (.bool false)))]) (.seq (.seq (.reg [o 12 (.mov (.k (.int .i64 0)))]) (.blk 2 (.lop (.seq (.seq (.reg [o 53 (.mov (.t 12)),o 54 (.mov (.t 0)),o 55 (.nck (.t 54)),o 56 (.fad 1 (.t 55)),o 57 (.ld false 1 (.t 56)),o 58 (.len false (.t 57)),o 59 (.bin .lss (.t 53) (.t 58))]) (.cnd (.t 59) .skip (.ext 2))) (.seq (.blk 3 (.seq (.reg [o 62 (.mov (.t 0)),o 63 (.nck (.t 62)),o 64 (.fad 1 (.t 63)),o 65 (.ld false 1 (.t 64)),o 66 (.mov (.t 12)),o 67 (.iad 3 (.t 65) (.t 66)),o 68 (.ld true 3 (.t 67)),o 13 (.new [(.str ⟨#[]⟩),(.int .i64 0),(.int .i64 0)]),on (.st 3 (.t 13) (.t 68))]) (.seq (.seq (.reg [o 69 (.mov (.t 11)),o 70 (.un .not (.t 69)),o 71 (.mov (.t 70)),og 72 71 true (.fad 0 (.t 13)),og 73 71 true (.ld false 1 (.t 72)),og 74 71 true (.mov (.t 1)),og 75 71 true (.bin .gtr (.t 73) (.t 74)),og 76 71 true (.mov (.t 75)),og 77 76 false (.fad 0 (.t 13)),og 78 76 false (.ld false 1 (.t 77)),og 79 76 false (.mov (.t 1)),og 80 76 false (.bin .eql (.t 78) (.t 79)),og 81 76 false (.mov (.t 80)),og 82 81 true (.fad 1 (.t 13)),og 83 81 true (.ld false 1 (.t 82)),og 84 81 true (.mov (.t 2)),og 85 81 true (.bin .gtr (.t 83) (.t 84)),og 86 76 false (.pick (.t 81) (.t 85) (.k (.bool false))),og 87 71 true (.pick (.t 76) (.k (.bool true)) (.t 86)),o 88 (.pick (.t 71) (.t 87) (.k (.bool false)))]) (.cnd (.t 88) (.seq (.reg [o 89 (.mov (.t 10)),o 90 (.mov (.t 1)),o 91 (.mov (.t 2)),o 92 (.mov (.t 3)),o 93 (.build [(.str ⟨#[]⟩),(.int .i64 0),(.int .i64 0)] [(0,1,(.t 90)),(1,1,(.t 91)),(2,1,(.t 92))]),o 94 (.lit 3 1 [(.str ⟨#[]⟩),(.int .i64 0),(.int .i64 0)] [(0,3,(.t 93))]),o 95 (.app 3 32 [(.str ⟨#[]⟩),(.int .i64 0),(.int .i64 0)] (.t 89) (.t 94)),o 10 (.mov (.t 95))]) (.reg [o 11 (.mov (.k (.bool true)))])) .skip)) (.reg [o 96 (.mov (.t 10)),o 97 (.ld true 3 (.t 13)),o 98 (.lit 3 1 [(.str ⟨#[]⟩),(.int .i64 0),(.int .i64 0)] [(0,3,(.t 97))]),o 99 (.app 3 32 [(.str ⟨#[]⟩),(.int .i64 0),(.int .i64 0)] (.t 96) (.t 98)),o 10 (.mov (.t 99))])))) (.reg [o 60 (.mov (.t 12)),o 61 (.bin .add (.t 60) (.k (.int .i64 1))),o 12 (.mov (.t 61))])))))) (.seq (.seq (.reg [o 100 (.mov (.t 11)),o 101 (.un .not (.t 100))]) (.cnd (.t 101) (.reg [o 102 (.mov (.t 10)),o 103 (.mov (.t 1)),o 104 (.mov (.t 2)),o 105 (.mov (.t 3)),o 106 (.build [(.str ⟨#[]⟩),(.int .i64 0),(.int .i64 0)] [(0,1,(.t 103)),(1,1,(.t 104)),(2,1,(.t 105))]),o 107 (.lit 3 1 [(.str ⟨#[]⟩),(.int .i64 0),(.int .i64 0)] [(0,3,(.t 106))]),o 108 (.app 3 32 [(.str ⟨#[]⟩),(.int .i64 0),(.int .i64 0)] (.t 102) (.t 107)),o 10 (.mov (.t 108))]) .skip)) (.reg [o 109 (.mov (.t 0)),o 110 (.mov (.t 10)),o 111 (.nck (.t 109)),o 112 (.fad 1 (.t 111)),on (.st 1 (.t 112) (.t 110))]))))))⟩
theorem ir_s_l07Tally:compFn Tryz.prog n_s_l07Tally=some F_s_l07Tally:=by kernel_rfl
def SPtr (σ0 τ:St) (g:Nat) (s:State) (rest:List Thg):Prop:=∃ v0 v1 v2 v3,Hp σ0 τ (ow pI.kd v0 s.know::ow pTally.kd v1 s.tallies::ow pLive.kd v2 s.lives::ow pCell.kd v3 s.cells::pt 1 g [v0,v1,v2,v3]::rest)
set_option maxHeartbeats 2000000 in
theorem s_l07Clear_ret {σ0 σ:St} {g:Nat} {s:State} {rest:List Thg} (H:SPtr σ0 σ g s rest) (m:Bool) (o k:ByteArray) (kv:GV) (knew:List Int) (hk:RS pI.kd σ0 kv knew) (hl:msState s≤1099511627776) (hkl:knew.length≤1099511627776):∃ τ,Ret Tryz.prog n_s_l07Clear [.ptr g 0,.bool m,.str o,.str k,kv] σ (.tup []) τ∧SPtr σ0 τ g {s with lives:=s.lives.filter (keepL m o k knew)} rest:=by
 obtain⟨v0,v1,v2,v3,H⟩:=H
 obtain⟨l1,l2,l3,l4,_⟩:=msState_all hl
 have key:∃ r τ,Ret Tryz.prog n_s_l07Clear [.ptr g 0,.bool m,.str o,.str k,kv] σ r τ∧r= .tup []∧SPtr σ0 τ g {s with lives:=s.lives.filter (keepL m o k knew)} rest:=by
  refine ret_dr ir_s_l07Clear (Nat.le_of_ble_eq_true rfl) ?_
  have H:=H.nil_Live
  simp +contextual (disch:=omega) only[go_sem,F_s_l07Clear]
  generalize hp:keepL m o k knew=p
  refine vc_forX s.lives.length 11 0 (fun i env τ=>env 0= .ptr g 0∧env 1= .bool m∧env 2= .str o∧env 3= .str k∧env 4=kv∧∃ w,env 10=w∧Hp σ0 τ (ow pLive.kd w ((s.lives.take i).filter p)::ow pI.kd v0 s.know::ow pTally.kd v1 s.tallies::ow pLive.kd v2 s.lives::ow pCell.kd v3 s.cells::pt 1 g [v0,v1,v2,v3]::rest)) (fun env τ=>env 0= .ptr g 0∧∃ w,env 10=w∧Hp σ0 τ (ow pLive.kd w (s.lives.filter p)::ow pI.kd v0 s.know::ow pTally.kd v1 s.tallies::ow pLive.kd v2 s.lives::ow pCell.kd v3 s.cells::pt 1 g [v0,v1,v2,v3]::rest)) rfl ⟨rfl,rfl,rfl,rfl,rfl,_,rfl,H⟩ ?_ ?_ ?_
  ·clear H
   rintro J Y hJ hY i env τ hi e11 c0 ⟨e0,e1,e2,e3,e4,w,e10,H⟩
   have hfl:=filter_take_len s.lives p i
   have hsn:=filter_snoc' (p:=p) hi
   have C1:=Live_at (H.sl 3 rfl) hi
   have hln:=(H.sl 3 rfl).len
   have zb:=H.pt 5 rfl
   have G:=H.grow (pre1 τ (some (Blk.row 1 (liveV s.lives[i]))))
   have hkeep:p s.lives[i]=(!(s.lives[i].map==m)||(!decide (s.lives[i].obj=o)||(!decide (s.lives[i].key=k)|| !knows knew s.lives[i].dot))):=by rw[← hp];rfl
   obtain⟨w',τ3,e8,H3⟩:=G.app_Live 0 rfl s.lives[i] (by omega)
   have kn:=s_Knows_ret _ kv knew s.lives[i].dot (hk.pre G.sub) hkl
   cases h1:(s.lives[i].map==m) with
   |false=>
    rw[h1] at hkeep
    have hk0:p s.lives[i]=true:=by rw[hkeep];rfl
    rw[hk0,if_pos rfl] at hsn
    simp +contextual (disch:=omega) only[go_sem,c0,e0,e1,e2,e3,e4,e10,e11,ld_ptr zb,hln,C1,h1,Bool.xor_false,Bool.true_bne,Bool.not_false,e8]
    refine hJ _ _ _ ⟨?_,?_,?_,?_,?_,w',?_,by rw[hsn];exact H3⟩
    all_goals simp +contextual (disch:=omega) only[go_sem,e0,e1,e2,e3,e4,e10]
   |true=>
    cases h2:decide (s.lives[i].obj=o) with
    |false=>
     rw[h1,h2] at hkeep
     have hk0:p s.lives[i]=true:=by rw[hkeep];rfl
     rw[hk0,if_pos rfl] at hsn
     simp +contextual (disch:=omega) only[go_sem,c0,e0,e1,e2,e3,e4,e10,e11,ld_ptr zb,hln,C1,h1,h2,Bool.true_bne,Bool.not_false,Bool.not_true,e8]
     refine hJ _ _ _ ⟨?_,?_,?_,?_,?_,w',?_,by rw[hsn];exact H3⟩
     all_goals simp +contextual (disch:=omega) only[go_sem,e0,e1,e2,e3,e4,e10]
    |true=>
     cases h3:decide (s.lives[i].key=k) with
     |false=>
      rw[h1,h2,h3] at hkeep
      have hk0:p s.lives[i]=true:=by rw[hkeep];rfl
      rw[hk0,if_pos rfl] at hsn
      simp +contextual (disch:=omega) only[go_sem,c0,e0,e1,e2,e3,e4,e10,e11,ld_ptr zb,hln,C1,h1,h2,h3,Bool.true_bne,Bool.not_false,Bool.not_true,e8]
      refine hJ _ _ _ ⟨?_,?_,?_,?_,?_,w',?_,by rw[hsn];exact H3⟩
      all_goals simp +contextual (disch:=omega) only[go_sem,e0,e1,e2,e3,e4,e10]
     |true=>
      simp +contextual (disch:=omega) only[go_sem,c0,e0,e1,e2,e3,e4,e10,e11,ld_ptr zb,hln,C1,h1,h2,h3,Bool.true_bne,Bool.not_false,Bool.not_true]
      refine by_ret kn ?_
      cases h4:knows knew s.lives[i].dot with
      |false=>
       rw[h1,h2,h3,h4] at hkeep
       have hk0:p s.lives[i]=true:=by rw[hkeep];rfl
       rw[hk0,if_pos rfl] at hsn
       simp +contextual (disch:=omega) only[go_sem,e0,e1,e2,e3,e4,e10,e11,C1,h4,e8]
       refine hJ _ _ _ ⟨?_,?_,?_,?_,?_,w',?_,by rw[hsn];exact H3⟩
       all_goals simp +contextual (disch:=omega) only[go_sem,e0,e1,e2,e3,e4,e10]
      |true=>
       rw[h1,h2,h3,h4] at hkeep
       have hk0:p s.lives[i]=false:=by rw[hkeep];rfl
       rw[hk0,if_neg (by simp),List.append_nil] at hsn
       simp +contextual (disch:=omega) only[go_sem,e0,e1,e2,e3,e4,e10,e11,h4]
       refine hJ _ _ _ ⟨?_,?_,?_,?_,?_,w,?_,by rw[hsn];exact G⟩
       all_goals simp +contextual (disch:=omega) only[go_sem,e0,e1,e2,e3,e4,e10]
  ·clear H
   rintro Y hY env τ e11 c0 ⟨e0,e1,e2,e3,e4,w,e10,H⟩
   rw[List.take_length] at H
   have hln:=(H.sl 3 rfl).len
   simp +contextual (disch:=omega) only[go_sem,c0,e0,e1,e2,e3,e4,e10,e11,ld_ptr (H.pt 5 rfl),hln]
   refine hY _ _ ⟨?_,w,?_,H⟩
   all_goals simp +contextual (disch:=omega) only[go_sem,e0,e10]
  ·clear H
   rintro env τ ⟨e0,w,e10,H⟩
   have c1:=(H.sl 0 rfl).cell
   obtain⟨τ1,s1,H1,_⟩:=H.st 5 rfl 1 2 w (by rw[c1];rfl) (by decide) (by simp)
   simp +contextual (disch:=omega) only[go_sem,e0,e10,s1]
   refine⟨_,rfl,rfl,v0,v1,w,v3,?_⟩
   simp only[c1,List.set_cons_zero,List.set_cons_succ,splice_succ,splice_cons,splice_nil] at H1
   exact Hp.moveTo H1 2 rfl
 obtain⟨r,τ,R,rfl,h⟩:=key
 exact⟨τ,R,h⟩
theorem modify_set {α:Type} (f:α→α):∀ {l:List α} {i:Nat} (hi:i<l.length),l.modify i f=l.set i (f l[i])
 |x::l,0,_=>by simp
 |x::l,i+1,hi=>by
  rw[List.modify_succ_cons,modify_set f (by simpa using hi)]
  simp
theorem isTal_find {l:List Tally} {o:ByteArray} {r:Int} {i:Nat} (hi:i<l.length) (ha:∀ j (hj:j<l.length),j<i→isTal o r l[j]=false) (h:isTal o r l[i]=true):l.findIdx? (isTal o r)=some i:=by
 rw[List.findIdx?_eq_some_iff_getElem]
 exact⟨hi,h,fun j hj=>by rw[ha j (by omega) hj];simp⟩
set_option maxHeartbeats 2000000 in
theorem s_l07Tally_ret {σ0 σ:St} {g:Nat} {s:State} {rest:List Thg} (H:SPtr σ0 σ g s rest) (o:ByteArray) (rep val:Int) (hl:msState s≤1099511627776) (hv: -1000000≤val∧val≤1000000) (hs:∀ t∈s.tallies,-1000000≤t.sum∧t.sum≤1000000):∃ τ,Ret Tryz.prog n_s_l07Tally [.ptr g 0,.str o,gi rep,gi val] σ (.tup []) τ∧SPtr σ0 τ g {s with tallies:=talPut s.tallies o rep val} rest:=by
 obtain⟨v0,v1,v2,v3,H⟩:=H
 obtain⟨l1,l2,l3,l4,_⟩:=msState_all hl
 have key:∃ r τ,Ret Tryz.prog n_s_l07Tally [.ptr g 0,.str o,gi rep,gi val] σ r τ∧r= .tup []∧SPtr σ0 τ g {s with tallies:=talPut s.tallies o rep val} rest:=by
  refine ret_dr ir_s_l07Tally (Nat.le_of_ble_eq_true rfl) ?_
  simp +contextual (disch:=omega) only[go_sem,F_s_l07Tally]
  refine vc_forR s.tallies.length 8 0 (fun i env τ=>env 0= .ptr g 0∧env 1= .str o∧env 2=gi rep∧env 3=gi val∧(∀ j (hj:j<s.tallies.length),j<i→isTal o rep s.tallies[j]=false)∧Hp σ0 τ (ow pI.kd v0 s.know::ow pTally.kd v1 s.tallies::ow pLive.kd v2 s.lives::ow pCell.kd v3 s.cells::pt 1 g [v0,v1,v2,v3]::rest)) (fun env τ=>env 0= .ptr g 0∧env 1= .str o∧env 2=gi rep∧env 3=gi val∧s.tallies.findIdx? (isTal o rep)=none∧Hp σ0 τ (ow pI.kd v0 s.know::ow pTally.kd v1 s.tallies::ow pLive.kd v2 s.lives::ow pCell.kd v3 s.cells::pt 1 g [v0,v1,v2,v3]::rest)) (fun env τ=>SPtr σ0 τ g {s with tallies:=talPut s.tallies o rep val} rest) rfl ⟨rfl,rfl,rfl,rfl,fun j _ hj=>by omega,H⟩ ?_ ?_ ?_ ?_
  ·clear H
   rintro J Y W hJ hY hW i env τ hi e8 c0 ⟨e0,e1,e2,e3,ha,H⟩
   have C1:=Tally_at (H.sl 1 rfl) hi
   have hln:=(H.sl 1 rfl).len
   have zb:=H.pt 4 rfl
   have G:=H.grow (pre1 τ (some (Blk.row 1 (tallyV s.tallies[i]))))
   have hno:isTal o rep s.tallies[i]=false→∀ j (hj:j<s.tallies.length),j<i+1→isTal o rep s.tallies[j]=false:=fun h j hj hji=>by
    rcases Nat.lt_or_ge j i with h2|h2
    ·exact ha j hj h2
    ·have:j=i:=by omega
     subst this;exact h
   cases h1:decide (s.tallies[i].obj=o) with
   |false=>
    simp +contextual (disch:=omega) only[go_sem,c0,e0,e1,e2,e3,e8,ld_ptr zb,hln,C1,h1]
    refine hJ _ _ _ ⟨?_,?_,?_,?_,hno (by simp[isTal,h1]),G⟩
    all_goals simp +contextual (disch:=omega) only[go_sem,e0,e1,e2,e3]
   |true=>
    have o1:s.tallies[i].obj=o:=by simpa using h1
    cases h2:decide (s.tallies[i].rep=rep) with
    |false=>
     have b2:(s.tallies[i].rep==rep)=false:=h2
     simp +contextual (disch:=omega) only[go_sem,c0,e0,e1,e2,e3,e8,ld_ptr zb,hln,C1,h1,b2]
     refine hJ _ _ _ ⟨?_,?_,?_,?_,hno (by simp[isTal,h2]),G⟩
     all_goals simp +contextual (disch:=omega) only[go_sem,e0,e1,e2,e3]
    |true=>
     have b2:(s.tallies[i].rep==rep)=true:=h2
     have hf:=isTal_find hi ha (by simp only[isTal,h1,h2];rfl)
     have hsb:=hs _ (List.getElem_mem hi)
     have w1:IntKind.i64.wrap (s.tallies[i].sum+val)=s.tallies[i].sum+val:=wrap_add (by omega) (by omega)
     have C2:=Tally_at (G.sl 1 rfl) hi
     obtain⟨τ1,s1,H1⟩:=G.ste 1 rfl hi 1 2 (gi (addM s.tallies[i].sum val)) {s.tallies[i] with sum:=addM s.tallies[i].sum val} rfl (by decide) (by decide) rfl
     have s1:stG 1 _ (fld 2 (atz 3 v1 i)) (.int .i64 ((s.tallies[i].sum+val).tmod 1000000))=some (.tup [],τ1):=s1
     have zc:=G.pt 4 rfl
     simp +contextual (disch:=omega) only[go_sem,c0,e0,e1,e2,e3,e8,ld_ptr zb,ld_ptr zc,hln,C1,C2,h1,b2,natOf_nat,w1,s1]
     refine hW _ _ ⟨v0,v1,v2,v3,?_⟩
     have hE:talPut s.tallies o rep val=s.tallies.set i {s.tallies[i] with sum:=addM s.tallies[i].sum val}:=by
      unfold talPut
      rw[hf]
      simp only[]
      rw[modify_set _ hi]
     show Hp σ0 τ1 (ow pI.kd v0 s.know::ow pTally.kd v1 (talPut s.tallies o rep val)::ow pLive.kd v2 s.lives::ow pCell.kd v3 s.cells::pt 1 g [v0,v1,v2,v3]::rest)
     rw[hE]
     exact H1
  ·clear H
   rintro Y hY env τ e8 c0 ⟨e0,e1,e2,e3,ha,H⟩
   have hln:=(H.sl 1 rfl).len
   have hnf:s.tallies.findIdx? (isTal o rep)=none:=by
    rw[List.findIdx?_eq_none_iff]
    intro t ht
    obtain⟨j,hj,rfl⟩:=List.getElem_of_mem ht
    exact ha j hj hj
   simp +contextual (disch:=omega) only[go_sem,c0,e0,e1,e2,e3,e8,ld_ptr (H.pt 4 rfl),hln]
   refine hY _ _ ⟨?_,?_,?_,?_,hnf,H⟩
   all_goals simp +contextual (disch:=omega) only[go_sem,e0,e1,e2,e3]
  ·clear H
   rintro env τ ⟨e0,e1,e2,e3,hnf,H⟩
   have hE:talPut s.tallies o rep val=insB tallyLt ⟨o,rep,val⟩ s.tallies:=by unfold talPut;rw[hnf]
   rw[hE]
   have H:=H.nil_Tally
   simp +contextual (disch:=omega) only[go_sem,e0,e1,e2,e3]
   refine vc_forX s.tallies.length 12 2 (fun i env τ=>env 0= .ptr g 0∧env 1= .str o∧env 2=gi rep∧env 3=gi val∧∃(u:GV) (put:Bool) (nxt:List Tally),env 10=u∧env 11= .bool put∧insG tallyLt ⟨o,rep,val⟩ s.tallies nxt i put∧Hp σ0 τ (ow pTally.kd u nxt::ow pI.kd v0 s.know::ow pTally.kd v1 s.tallies::ow pLive.kd v2 s.lives::ow pCell.kd v3 s.cells::pt 1 g [v0,v1,v2,v3]::rest)) (fun env τ=>env 0= .ptr g 0∧env 1= .str o∧env 2=gi rep∧env 3=gi val∧∃(u:GV) (put:Bool) (nxt:List Tally),env 10=u∧env 11= .bool put∧insG tallyLt ⟨o,rep,val⟩ s.tallies nxt s.tallies.length put∧Hp σ0 τ (ow pTally.kd u nxt::ow pI.kd v0 s.know::ow pTally.kd v1 s.tallies::ow pLive.kd v2 s.lives::ow pCell.kd v3 s.cells::pt 1 g [v0,v1,v2,v3]::rest)) rfl ⟨by simp +contextual (disch:=omega) only[go_sem,e0],by simp +contextual (disch:=omega) only[go_sem,e1],by simp +contextual (disch:=omega) only[go_sem,e2],by simp +contextual (disch:=omega) only[go_sem,e3],_,false,[],by simp +contextual (disch:=omega) only[go_sem],by simp +contextual (disch:=omega) only[go_sem],insG_nil,H⟩ ?_ ?_ ?_
   ·clear H e0 e1 e2 e3
    rintro J Y hJ hY i env τ hi e12 c0 ⟨e0,e1,e2,e3,u,put,nxt,e10,e11,hok,H⟩
    have hnl:=insG_len hok
    have C1:=Tally_at (H.sl 2 rfl) hi
    have hln:=(H.sl 2 rfl).len
    have zb:=H.pt 5 rfl
    have G:=H.grow (pre1 τ (some (Blk.row 1 (tallyV s.tallies[i]))))
    have hlt:tallyLt ⟨o,rep,val⟩ s.tallies[i]=(txLt o s.tallies[i].obj||(decide (s.tallies[i].obj=o)&&decide (rep<s.tallies[i].rep))):=by
     unfold tallyLt
     have:decide (o=s.tallies[i].obj)=decide (s.tallies[i].obj=o):=by rw[decide_eq_decide];exact eq_comm
     rw[this]
    have HN:=H.new 1 (tallyV s.tallies[i])
    cases put with
    |true=>
     obtain⟨w',τ3,e8,H3⟩:=G.app_Tally 0 rfl s.tallies[i] (by omega)
     simp +contextual (disch:=omega) only[go_sem,c0,e0,e1,e2,e3,e10,e11,e12,ld_ptr zb,hln,C1,Bool.not_true,e8]
     refine hJ _ _ _ ⟨?_,?_,?_,?_,w',true,_,?_,?_,insG_step hok hi (.inl rfl),H3⟩
     all_goals simp +contextual (disch:=omega) only[go_sem,e0,e1,e2,e3,e11]
    |false=>
     cases h1:txLt o s.tallies[i].obj with
     |true=>
      have hq:tallyLt ⟨o,rep,val⟩ s.tallies[i]=true:=by rw[hlt,h1];rfl
      have hp:=insG_put hok hi hq
      have hnl2:=insG_len hp
      simp only[List.length_append,List.length_cons,List.length_nil] at hnl2
      obtain⟨w4,τ4,e9,H4⟩:=HN.app_Tally 1 rfl ⟨o,rep,val⟩ (by omega)
      have H4:Hp σ0 τ4 (pt 1 τ.length (tallyV s.tallies[i])::ow pTally.kd w4 (nxt++[⟨o,rep,val⟩])::ow pI.kd v0 s.know::ow pTally.kd v1 s.tallies::ow pLive.kd v2 s.lives::ow pCell.kd v3 s.cells::pt 1 g [v0,v1,v2,v3]::rest):=H4
      have zx:=ld_ptr (a:=true) (n:=3) (off:=0) (H4.pt 0 rfl)
      obtain⟨w5,τ5,e13,H5⟩:=H4.app_Tally 1 rfl s.tallies[i] (by simp;omega)
      simp +contextual (disch:=omega) only[go_sem,c0,e0,e1,e2,e3,e10,e11,e12,ld_ptr zb,hln,C1,Bool.not_false,h1,e9,zx,e13]
      refine hJ _ _ _ ⟨?_,?_,?_,?_,w5,true,_,?_,?_,hp,H5.drop1⟩
      all_goals simp +contextual (disch:=omega) only[go_sem,e0,e1,e2,e3,e11]
     |false=>
      cases h2:decide (s.tallies[i].obj=o) with
      |false=>
       obtain⟨w',τ3,e8,H3⟩:=G.app_Tally 0 rfl s.tallies[i] (by omega)
       simp +contextual (disch:=omega) only[go_sem,c0,e0,e1,e2,e3,e10,e11,e12,ld_ptr zb,hln,C1,Bool.not_false,h1,h2,e8]
       refine hJ _ _ _ ⟨?_,?_,?_,?_,w',false,_,?_,?_,insG_step hok hi (.inr (by rw[hlt,h1,h2];rfl)),H3⟩
       all_goals simp +contextual (disch:=omega) only[go_sem,e0,e1,e2,e3,e11]
      |true=>
       cases h3:decide (rep<s.tallies[i].rep) with
       |true=>
        have hq:tallyLt ⟨o,rep,val⟩ s.tallies[i]=true:=by rw[hlt,h1,h2,h3];rfl
        have hp:=insG_put hok hi hq
        have hnl2:=insG_len hp
        simp only[List.length_append,List.length_cons,List.length_nil] at hnl2
        obtain⟨w4,τ4,e9,H4⟩:=HN.app_Tally 1 rfl ⟨o,rep,val⟩ (by omega)
        have H4:Hp σ0 τ4 (pt 1 τ.length (tallyV s.tallies[i])::ow pTally.kd w4 (nxt++[⟨o,rep,val⟩])::ow pI.kd v0 s.know::ow pTally.kd v1 s.tallies::ow pLive.kd v2 s.lives::ow pCell.kd v3 s.cells::pt 1 g [v0,v1,v2,v3]::rest):=H4
        have zx:=ld_ptr (a:=true) (n:=3) (off:=0) (H4.pt 0 rfl)
        obtain⟨w5,τ5,e13,H5⟩:=H4.app_Tally 1 rfl s.tallies[i] (by simp;omega)
        simp +contextual (disch:=omega) only[go_sem,c0,e0,e1,e2,e3,e10,e11,e12,ld_ptr zb,hln,C1,Bool.not_false,h1,h2,h3,e9,zx,e13]
        refine hJ _ _ _ ⟨?_,?_,?_,?_,w5,true,_,?_,?_,hp,H5.drop1⟩
        all_goals simp +contextual (disch:=omega) only[go_sem,e0,e1,e2,e3,e11]
       |false=>
        obtain⟨w',τ3,e8,H3⟩:=G.app_Tally 0 rfl s.tallies[i] (by omega)
        simp +contextual (disch:=omega) only[go_sem,c0,e0,e1,e2,e3,e10,e11,e12,ld_ptr zb,hln,C1,Bool.not_false,h1,h2,h3,e8]
        refine hJ _ _ _ ⟨?_,?_,?_,?_,w',false,_,?_,?_,insG_step hok hi (.inr (by rw[hlt,h1,h2,h3];rfl)),H3⟩
        all_goals simp +contextual (disch:=omega) only[go_sem,e0,e1,e2,e3,e11]
   ·clear H e0 e1 e2 e3
    rintro Y hY env τ e12 c0 ⟨e0,e1,e2,e3,u,put,nxt,e10,e11,hok,H⟩
    have hln:=(H.sl 2 rfl).len
    simp +contextual (disch:=omega) only[go_sem,c0,e0,e1,e2,e3,e10,e11,e12,ld_ptr (H.pt 5 rfl),hln]
    refine hY _ _ ⟨?_,?_,?_,?_,u,put,nxt,?_,?_,hok,H⟩
    all_goals simp +contextual (disch:=omega) only[go_sem,e0,e1,e2,e3,e10,e11]
   ·clear H e0 e1 e2 e3
    rintro env τ ⟨e0,e1,e2,e3,u,put,nxt,e10,e11,hok,H⟩
    have hnl:=insG_len hok
    have hend:=insG_end hok
    cases put with
    |true=>
     have c1:=(H.sl 0 rfl).cell
     obtain⟨τ1,s1,H1,_⟩:=H.st 5 rfl 1 1 u (by rw[c1];rfl) (by decide) (by simp)
     simp +contextual (disch:=omega) only[go_sem,e0,e1,e2,e3,e10,e11,Bool.not_true,s1]
     refine⟨_,rfl,rfl,v0,u,v2,v3,?_⟩
     simp only[c1,List.set_cons_zero,List.set_cons_succ,splice_succ,splice_cons,splice_nil] at H1
     rw[← hend]
     exact Hp.moveTo H1 1 rfl
    |false=>
     obtain⟨w',τ3,e8,H3⟩:=H.app_Tally 0 rfl ⟨o,rep,val⟩ (by omega)
     have H3:Hp σ0 τ3 (ow pTally.kd w' (nxt++[⟨o,rep,val⟩])::ow pI.kd v0 s.know::ow pTally.kd v1 s.tallies::ow pLive.kd v2 s.lives::ow pCell.kd v3 s.cells::pt 1 g [v0,v1,v2,v3]::rest):=H3
     have c1:=(H3.sl 0 rfl).cell
     obtain⟨τ1,s1,H1,_⟩:=H3.st 5 rfl 1 1 w' (by rw[c1];rfl) (by decide) (by simp)
     simp +contextual (disch:=omega) only[go_sem,e0,e1,e2,e3,e10,e11,Bool.not_false,e8,s1]
     refine⟨_,rfl,rfl,v0,w',v2,v3,?_⟩
     simp only[c1,List.set_cons_zero,List.set_cons_succ,splice_succ,splice_cons,splice_nil] at H1
     rw[← hend]
     exact Hp.moveTo H1 1 rfl
  ·clear H
   rintro env τ h
   simp +contextual (disch:=omega) only[go_sem]
   exact⟨_,rfl,rfl,h⟩
 obtain⟨r,τ,R,rfl,h⟩:=key
 exact⟨τ,R,h⟩
end Go.Proofs.YtffnefmklckngaaGreat.Sy
namespace Go.Proofs.YtffnefmklckngaaGreat.Sy
open Go Go.RowKit
set_option linter.unusedSimpArgs false
set_option linter.unusedVariables false
set_option maxRecDepth 4000
abbrev n_s_l07Do:Nat:=145
def F_s_l07Do:Fn1:=⟨127,[],(.seq (.reg [o 3 (.box (.t 1))]) (.seq (.drw [o 4 (.mov (.t 0)),o 5 (.nck (.t 4)),o 6 (.fad 0 (.t 5)),o 7 (.ld false 1 (.t 6)),o 8 (.fad 0 (.t 3)),o 9 (.fad 0 (.t 8)),o 10 (.ld false 1 (.t 9)),o 11 (.fad 0 (.t 3)),o 12 (.fad 1 (.t 11)),o 13 (.ld false 1 (.t 12))] [o 14 (.iad 1 (.t 7) (.t 10)),on (.st 1 (.t 14) (.t 13))]) (.seq (.reg [o 15 (.fad 4 (.t 3)),o 16 (.ld false 1 (.t 15))]) (.blk 0 (.seq (.reg [o 18 (.bin .eql (.t 16) (.k (.int .i64 1))),o 17 (.mov (.t 18))]) (.cnd (.t 17) (.reg [o 19 (.mov (.t 0)),o 20 (.fad 5 (.t 3)),o 21 (.ld false 1 (.t 20)),o 22 (.fad 0 (.t 3)),o 23 (.fad 0 (.t 22)),o 24 (.ld false 1 (.t 23)),o 25 (.fad 7 (.t 3)),o 26 (.ld false 1 (.t 25)),o 27 (.call 194 [(.t 19),(.t 21),(.t 24),(.t 26)])]) (.seq (.reg [o 29 (.bin .eql (.t 16) (.k (.int .i64 2))),o 28 (.mov (.t 29))]) (.cnd (.t 28) (.drw [o 30 (.mov (.t 0)),o 31 (.mov (.t 0)),o 32 (.nck (.t 31)),o 33 (.fad 2 (.t 32)),o 34 (.ld false 1 (.t 33)),o 35 (.fad 5 (.t 3)),o 36 (.ld false 1 (.t 35)),o 37 (.fad 6 (.t 3)),o 38 (.ld false 1 (.t 37)),o 39 (.fad 0 (.t 3)),o 40 (.ld true 2 (.t 39))] [o 41 (.build [(.bool false),(.str ⟨#[]⟩),(.str ⟨#[]⟩),(.int .i64 0),(.int .i64 0),(.int .i64 0)] [(1,1,(.t 36)),(2,1,(.t 38)),(4,2,(.t 40))]),o 42 (.call 195 [(.t 34),(.t 41)]),o 43 (.nck (.t 30)),o 44 (.fad 2 (.t 43)),on (.st 1 (.t 44) (.t 42))]) (.seq (.reg [o 46 (.bin .eql (.t 16) (.k (.int .i64 3))),o 45 (.mov (.t 46))]) (.cnd (.t 45) (.reg [o 47 (.mov (.t 0)),o 48 (.fad 5 (.t 3)),o 49 (.ld false 1 (.t 48)),o 50 (.fad 6 (.t 3)),o 51 (.ld false 1 (.t 50)),o 52 (.fad 3 (.t 3)),o 53 (.ld false 1 (.t 52)),o 54 (.call 196 [(.t 47),(.k (.bool false)),(.t 49),(.t 51),(.t 53)])]) (.seq (.reg [o 56 (.bin .eql (.t 16) (.k (.int .i64 4))),o 55 (.mov (.t 56))]) (.cnd (.t 55) (.seq (.reg [o 57 (.mov (.t 0)),o 58 (.fad 5 (.t 3)),o 59 (.ld false 1 (.t 58)),o 60 (.fad 6 (.t 3)),o 61 (.ld false 1 (.t 60)),o 62 (.fad 3 (.t 3)),o 63 (.ld false 1 (.t 62)),o 64 (.call 196 [(.t 57),(.k (.bool true)),(.t 59),(.t 61),(.t 63)])]) (.drw [o 65 (.mov (.t 0)),o 66 (.mov (.t 0)),o 67 (.nck (.t 66)),o 68 (.fad 2 (.t 67)),o 69 (.ld false 1 (.t 68)),o 70 (.fad 5 (.t 3)),o 71 (.ld false 1 (.t 70)),o 72 (.fad 6 (.t 3)),o 73 (.ld false 1 (.t 72)),o 74 (.fad 7 (.t 3)),o 75 (.ld false 1 (.t 74)),o 76 (.fad 0 (.t 3)),o 77 (.ld true 2 (.t 76))] [o 78 (.build [(.bool false),(.str ⟨#[]⟩),(.str ⟨#[]⟩),(.int .i64 0),(.int .i64 0),(.int .i64 0)] [(0,1,(.k (.bool true))),(1,1,(.t 71)),(2,1,(.t 73)),(3,1,(.t 75)),(4,2,(.t 77))]),o 79 (.call 195 [(.t 69),(.t 78)]),o 80 (.nck (.t 65)),o 81 (.fad 2 (.t 80)),on (.st 1 (.t 81) (.t 79))])) (.seq (.reg [o 83 (.bin .eql (.t 16) (.k (.int .i64 5))),o 82 (.mov (.t 83))]) (.cnd (.t 82) (.reg [o 84 (.mov (.t 0)),o 85 (.fad 5 (.t 3)),o 86 (.ld false 1 (.t 85)),o 87 (.fad 6 (.t 3)),o 88 (.ld false 1 (.t 87)),o 89 (.fad 3 (.t 3)),o 90 (.ld false 1 (.t 89)),o 91 (.call 196 [(.t 84),(.k (.bool true)),(.t 86),(.t 88),(.t 90)])]) (.seq (.reg [o 93 (.bin .eql (.t 16) (.k (.int .i64 6))),o 92 (.mov (.t 93))]) (.cnd (.t 92) (.drw [o 94 (.mov (.t 0)),o 95 (.mov (.t 0)),o 96 (.nck (.t 95)),o 97 (.fad 3 (.t 96)),o 98 (.ld false 1 (.t 97)),o 99 (.fad 5 (.t 3)),o 100 (.ld false 1 (.t 99)),o 101 (.fad 0 (.t 3)),o 102 (.ld true 2 (.t 101)),o 103 (.fad 2 (.t 3)),o 104 (.ld false 1 (.t 103)),o 105 (.fad 8 (.t 3)),o 106 (.ld true 2 (.t 105)),o 107 (.fad 7 (.t 3)),o 108 (.ld false 1 (.t 107))] [o 109 (.build [(.str ⟨#[]⟩),(.int .i64 0),(.int .i64 0),(.int .i64 0),(.int .i64 0),(.int .i64 0),(.int .i64 0),(.bool false)] [(0,1,(.t 100)),(1,2,(.t 102)),(3,1,(.t 104)),(4,2,(.t 106)),(6,1,(.t 108))]),o 110 (.call 197 [(.t 98),(.t 109)]),o 111 (.nck (.t 94)),o 112 (.fad 3 (.t 111)),on (.st 1 (.t 112) (.t 110))]) (.seq (.reg [o 114 (.bin .eql (.t 16) (.k (.int .i64 7))),o 113 (.mov (.t 114))]) (.cnd (.t 113) (.drw [o 115 (.mov (.t 0)),o 116 (.nck (.t 115)),o 117 (.fad 3 (.t 116)),o 118 (.ld false 1 (.t 117)),o 119 (.mov (.t 0)),o 120 (.nck (.t 119)),o 121 (.ld true 4 (.t 120)),o 122 (.fad 8 (.t 3)),o 123 (.ld true 2 (.t 122)),o 124 (.call 187 [(.t 121),(.t 123)])] [o 125 (.iad 8 (.t 118) (.t 124)),o 126 (.fad 7 (.t 125)),on (.st 1 (.t 126) (.k (.bool true)))]) .skip))))))))))))))))))⟩
theorem ir_s_l07Do:compFn Tryz.prog n_s_l07Do=some F_s_l07Do:=by kernel_rfl
abbrev n_s_DoAct:Nat:=91
def F_s_DoAct:Fn1:=⟨57,[.c 4 true 4,.t 5],(.seq (.reg [o 2 (.box (.t 0)),o 3 (.box (.t 1)),o 4 (.new [.nilS,.nilS,.nilS,.nilS]),o 5 (.mov (.k (.int .i64 0)))]) (.seq (.reg [o 7 (.ld true 4 (.t 2)),o 8 (.call 89 [(.t 7)]),o 6 (.new [.nilS,.nilS,.nilS,.nilS]),on (.st 4 (.t 6) (.t 8))]) (.seq (.seq (.reg [o 9 (.ld true 4 (.t 2)),o 10 (.call 125 [(.t 9)]),o 11 (.un .not (.t 10)),o 12 (.mov (.t 11)),og 13 12 false (.ld true 10 (.t 3)),og 14 12 false (.call 105 [(.t 13)]),og 15 12 false (.un .not (.t 14)),o 16 (.pick (.t 12) (.k (.bool true)) (.t 15))]) (.cnd (.t 16) (.seq (.reg [o 17 (.ld true 4 (.t 6)),on (.st 4 (.t 4) (.t 17)),o 5 (.mov (.k (.int .i64 3)))]) .ret) .skip)) (.seq (.seq (.reg [o 18 (.fad 0 (.t 2)),o 19 (.ld false 1 (.t 18)),o 20 (.fad 0 (.t 3)),o 21 (.ld true 2 (.t 20)),o 22 (.call 142 [(.t 19),(.t 21)])]) (.cnd (.t 22) (.seq (.reg [o 23 (.ld true 4 (.t 6)),on (.st 4 (.t 4) (.t 23)),o 5 (.mov (.k (.int .i64 1)))]) .ret) .skip)) (.seq (.seq (.reg [o 24 (.fad 3 (.t 3)),o 25 (.ld false 1 (.t 24)),o 26 (.fad 0 (.t 2)),o 27 (.ld false 1 (.t 26)),o 28 (.call 143 [(.t 25),(.t 27)]),o 29 (.un .not (.t 28))]) (.cnd (.t 29) (.seq (.reg [o 30 (.ld true 4 (.t 6)),on (.st 4 (.t 4) (.t 30)),o 5 (.mov (.k (.int .i64 2)))]) .ret) .skip)) (.seq (.seq (.reg [o 31 (.ld true 4 (.t 2)),o 32 (.ld true 10 (.t 3)),o 33 (.call 144 [(.t 31),(.t 32)]),o 34 (.un .not (.t 33))]) (.cnd (.t 34) (.seq (.reg [o 35 (.ld true 4 (.t 6)),on (.st 4 (.t 4) (.t 35)),o 5 (.mov (.k (.int .i64 3)))]) .ret) .skip)) (.seq (.reg [o 36 (.ld true 10 (.t 3)),o 37 (.call 145 [(.t 6),(.t 36)])]) (.seq (.seq (.reg [o 38 (.fad 1 (.t 6)),o 39 (.ld false 1 (.t 38)),o 40 (.len false (.t 39)),o 41 (.bin .gtr (.t 40) (.k (.int .i64 120))),o 42 (.mov (.t 41)),og 43 42 false (.fad 2 (.t 6)),og 44 42 false (.ld false 1 (.t 43)),og 45 42 false (.len false (.t 44)),og 46 42 false (.bin .gtr (.t 45) (.k (.int .i64 120))),o 47 (.pick (.t 42) (.k (.bool true)) (.t 46)),o 48 (.mov (.t 47)),og 49 48 false (.fad 3 (.t 6)),og 50 48 false (.ld false 1 (.t 49)),og 51 48 false (.len false (.t 50)),og 52 48 false (.bin .gtr (.t 51) (.k (.int .i64 120))),o 53 (.pick (.t 48) (.k (.bool true)) (.t 52))]) (.cnd (.t 53) (.seq (.reg [o 54 (.ld true 4 (.t 2)),o 55 (.call 89 [(.t 54)]),on (.st 4 (.t 4) (.t 55)),o 5 (.mov (.k (.int .i64 4)))]) .ret) .skip)) (.seq (.reg [o 56 (.ld true 4 (.t 6)),on (.st 4 (.t 4) (.t 56)),o 5 (.mov (.k (.int .i64 0)))]) .ret)))))))))⟩
theorem ir_s_DoAct:compFn Tryz.prog n_s_DoAct=some F_s_DoAct:=by kernel_rfl
theorem act_facts {a:Act} (h:actOk a=true):(0≤a.dot.rep∧a.dot.rep≤2)∧(1≤a.kind∧a.kind≤7)∧(0≤a.val∧a.val≤999999)∧a.knew.length=3:=by
 simp only[actOk,actHead,plainOk,Bool.and_eq_true] at h
 obtain⟨⟨h1,h2,_⟩,⟨h3,_,_,h4⟩,_⟩:=h
 refine⟨(dotOk_iff.1 h1).1,inB_iff.1 h3,?_,okK_len h2⟩
 simp only[valOk,Bool.or_eq_true,beq_iff_eq,Bool.and_eq_true,inB_iff] at h4
 rcases h4 with h4|⟨_,h4⟩
 ·omega
 ·exact h4
theorem tal_facts {s:State} (h:stateOk s=true):s.know.length=3∧∀ t∈s.tallies,-1000000≤t.sum∧t.sum≤1000000:=by
 simp only[stateOk,Bool.and_eq_true] at h
 obtain⟨h1,h2,_⟩:=h
 refine⟨okK_len h1,fun t ht=> ?_⟩
 simp only[talsOk,Bool.and_eq_true,allR_iff,talP] at h2
 obtain⟨i,hi,rfl⟩:=List.getElem_of_mem ht
 have:=(h2.1 i hi).1
 rw[onI_at hi] at this
 simp only[tal1,Bool.and_eq_true,inB_iff] at this
 omega
theorem SPtr.drop {σ0 τ:St} {g:Nat} {s:State} {x:Thg} {rest:List Thg} (H:SPtr σ0 τ g s (x::rest)):SPtr σ0 τ g s rest:=by
 obtain⟨v0,v1,v2,v3,H⟩:=H
 exact⟨v0,v1,v2,v3,(H.pick 5 rfl).drop1⟩
theorem SPtr.push {σ0 τ:St} {g:Nat} {s:State} {rest:List Thg} (H:SPtr σ0 τ g s rest) (z:Nat) (cs:List GV):SPtr σ0 (τ++[some (.row z cs)]) g s (pt z τ.length cs::rest):=by
 obtain⟨v0,v1,v2,v3,H⟩:=H
 refine⟨v0,v1,v2,v3,?_⟩
 exact(H.new z cs).perm (List.perm_middle (l₁:=[_,_,_,_,_])).symm
abbrev actV (a:Act) (kv:GV):List GV:=[.int .i64 a.dot.rep,.int .i64 a.dot.seq,.int .i64 a.time,kv,.int .i64 a.kind,.str a.obj,.str a.key,.int .i64 a.val,.int .i64 a.ref.rep,.int .i64 a.ref.seq]
theorem msState_set {s:State} {i:Nat} {x:Int}:msState {s with know:=s.know.set i x}=msState s:=by simp[msState]
set_option maxHeartbeats 4000000 in
theorem s_l07Do_ret {σ0 σ:St} {g:Nat} {s:State} {rest:List Thg} (H:SPtr σ0 σ g s rest) (a:Act) (kv:GV) (hk:RS pI.kd σ0 kv a.knew) (hok:stateOk s=true) (hao:actOk a=true) (hri:refIn s a=true) (hl:msState s≤1099511627776):∃ τ,Ret Tryz.prog n_s_l07Do [.ptr g 0,.agg (actV a kv)] σ (.tup []) τ∧SPtr σ0 τ g (doOne s a) rest:=by
 obtain⟨⟨f1,f2⟩,⟨f3,f4⟩,⟨f5,f6⟩,f7⟩:=act_facts hao
 obtain⟨t1,t2⟩:=tal_facts hok
 obtain⟨r,hr⟩:∃ r:Nat,a.dot.rep=(r:Int):=⟨a.dot.rep.toNat,by omega⟩
 have hrl:r<s.know.length:=by omega
 have key:∃ q τ,Ret Tryz.prog n_s_l07Do [.ptr g 0,.agg (actV a kv)] σ q τ∧q= .tup []∧SPtr σ0 τ g (doOne s a) rest:=by
  refine ret_dr ir_s_l07Do (Nat.le_of_ble_eq_true rfl) ?_
  have H:=H.push 1 (actV a kv)
  obtain⟨v0,v1,v2,v3,H⟩:=H
  have i0:=RdN.iad (H.sl 0 rfl) hrl
  have i0:iadG 1 v0 (some r)=some (atz 1 v0 r):=i0
  have n0:natOf (some (.int .i64 a.dot.rep))=some r:=by rw[hr];exact natOf_nat
  obtain⟨τ1,st0,H1⟩:=H.stw 0 rfl (j:=r) hrl 1 (gi a.dot.seq) a.dot.seq rfl rfl (by decide)
  have st0:stG 1 _ (atz 1 v0 r) (.int .i64 a.dot.seq)=some (.tup [],τ1):=st0
  have H1:Hp σ0 τ1 (ow pI.kd v0 (s.know.set r a.dot.seq)::ow pTally.kd v1 s.tallies::ow pLive.kd v2 s.lives::ow pCell.kd v3 s.cells::pt 1 g [v0,v1,v2,v3]::pt 1 σ.length (actV a kv)::rest):=H1
  obtain⟨s1,hs1⟩:∃ s1:State,s1={s with know:=s.know.set r a.dot.seq}:=⟨_,rfl⟩
  have hm1:msState s1≤1099511627776:=by rw[hs1,msState_set];exact hl
  have hdo:doOne s a=doKind s1 a:=by
   unfold doOne
   rw[hs1,hr];simp
  have S1:SPtr σ0 τ1 g s1 (pt 1 σ.length (actV a kv)::rest):=by rw[hs1];exact⟨v0,v1,v2,v3,H1⟩
  obtain⟨l1,l2,l3,l4,_⟩:=msState_all hl
  rw[hdo]
  have e1:s1.tallies=s.tallies:=by rw[hs1]
  have e2:s1.lives=s.lives:=by rw[hs1]
  have e3:s1.cells=s.cells:=by rw[hs1]
  simp +contextual (disch:=omega) only[go_sem,F_s_l07Do,ld_ptr (H.pt 4 rfl),n0,i0,st0,ld_ptr (H1.pt 5 rfl)]
  by_cases k1:a.kind=1
  ·have b1:(a.kind==1)=true:=by simp[k1]
   have hd:doKind s1 a={s1 with tallies:=talPut s1.tallies a.obj a.dot.rep a.val}:=by unfold doKind;rw[if_pos k1]
   rw[hd]
   obtain⟨τ2,R2,S2⟩:=s_l07Tally_ret S1 a.obj a.dot.rep a.val hm1 (by omega) (by rw[e1];exact t2)
   simp +contextual (disch:=omega) only[go_sem,b1,ld_ptr (H1.pt 5 rfl)]
   refine by_mut R2 ?_
   simp +contextual (disch:=omega) only[go_sem]
   exact⟨_,rfl,rfl,S2.drop⟩
  have b1:(a.kind==1)=false:=by simp[k1]
  by_cases k2:a.kind=2
  ·have b2:(a.kind==2)=true:=by simp[k2]
   have hd:doKind s1 a={s1 with lives:=insLive ⟨false,a.obj,a.key,0,a.dot⟩ s1.lives}:=by unfold doKind;rw[if_neg k1,if_pos k2]
   rw[hd,e2]
   obtain⟨w,τ2,R2,K2⟩:=s_l07Live_ret τ1 v2 s.lives (H1.sl 2 rfl) ⟨false,a.obj,a.key,0,a.dot⟩ l3
   have H2:=H1.add K2
   simp only[List.cons_append,List.nil_append] at H2
   have c1:=(H2.sl 0 rfl).cell
   obtain⟨τ3,st3,H3,_⟩:=H2.st 5 rfl 1 2 w (by rw[c1];rfl) (by decide) (by simp)
   simp +contextual (disch:=omega) only[go_sem,b1,b2,ld_ptr (H1.pt 4 rfl),ld_ptr (H1.pt 5 rfl)]
   refine by_hp R2 K2 ?_
   simp +contextual (disch:=omega) only[go_sem,st3]
   refine⟨_,rfl,rfl,v0,v1,w,v3,?_⟩
   simp only[c1,List.set_cons_zero,List.set_cons_succ,splice_succ,splice_cons,splice_nil] at H3
   rw[hs1]
   exact((Hp.moveTo H3 2 rfl).pick 5 rfl).drop1
  have b2:(a.kind==2)=false:=by simp[k2]
  by_cases k3:a.kind=3
  ·have b3:(a.kind==3)=true:=by simp[k3]
   have hd:doKind s1 a={s1 with lives:=s1.lives.filter (keepL false a.obj a.key a.knew)}:=by unfold doKind;rw[if_neg k1,if_neg k2,if_pos k3]
   rw[hd]
   obtain⟨τ2,R2,S2⟩:=s_l07Clear_ret S1 false a.obj a.key kv a.knew hk hm1 (by omega)
   simp +contextual (disch:=omega) only[go_sem,b1,b2,b3,ld_ptr (H1.pt 5 rfl)]
   refine by_mut R2 ?_
   simp +contextual (disch:=omega) only[go_sem]
   exact⟨_,rfl,rfl,S2.drop⟩
  have b3:(a.kind==3)=false:=by simp[k3]
  by_cases k4:a.kind=4
  ·have b4:(a.kind==4)=true:=by simp[k4]
   have hd:doKind s1 a={s1 with lives:=insLive ⟨true,a.obj,a.key,a.val,a.dot⟩ (s1.lives.filter (keepL true a.obj a.key a.knew))}:=by unfold doKind;rw[if_neg k1,if_neg k2,if_neg k3,if_pos k4]
   rw[hd,e2]
   obtain⟨τ2,R2,u0,u1,u2,u3,H2⟩:=s_l07Clear_ret S1 true a.obj a.key kv a.knew hk hm1 (by omega)
   have hfl:=List.length_filter_le (keepL true a.obj a.key a.knew) s.lives
   have H2l:=H2.sl 2 rfl
   have H2l:RS pLive.kd τ2 u2 (s.lives.filter (keepL true a.obj a.key a.knew)):=by rw[← e2];exact H2l
   obtain⟨w,τ3,R3,K3⟩:=s_l07Live_ret τ2 u2 _ H2l ⟨true,a.obj,a.key,a.val,a.dot⟩ (by omega)
   have H3:=H2.add K3
   simp only[List.cons_append,List.nil_append] at H3
   have c1:=(H3.sl 0 rfl).cell
   obtain⟨τ4,st4,H4,_⟩:=H3.st 5 rfl 1 2 w (by rw[c1];rfl) (by decide) (by simp)
   simp +contextual (disch:=omega) only[go_sem,b1,b2,b3,b4,ld_ptr (H1.pt 5 rfl)]
   refine by_mut R2 ?_
   simp +contextual (disch:=omega) only[go_sem,ld_ptr (H2.pt 4 rfl),ld_ptr (H2.pt 5 rfl)]
   refine by_hp R3 K3 ?_
   simp +contextual (disch:=omega) only[go_sem,st4]
   refine⟨_,rfl,rfl,u0,u1,w,u3,?_⟩
   simp only[c1,List.set_cons_zero,List.set_cons_succ,splice_succ,splice_cons,splice_nil] at H4
   exact((Hp.moveTo H4 2 rfl).pick 5 rfl).drop1
  have b4:(a.kind==4)=false:=by simp[k4]
  by_cases k5:a.kind=5
  ·have b5:(a.kind==5)=true:=by simp[k5]
   have hd:doKind s1 a={s1 with lives:=s1.lives.filter (keepL true a.obj a.key a.knew)}:=by unfold doKind;rw[if_neg k1,if_neg k2,if_neg k3,if_neg k4,if_pos k5]
   rw[hd]
   obtain⟨τ2,R2,S2⟩:=s_l07Clear_ret S1 true a.obj a.key kv a.knew hk hm1 (by omega)
   simp +contextual (disch:=omega) only[go_sem,b1,b2,b3,b4,b5,ld_ptr (H1.pt 5 rfl)]
   refine by_mut R2 ?_
   simp +contextual (disch:=omega) only[go_sem]
   exact⟨_,rfl,rfl,S2.drop⟩
  have b5:(a.kind==5)=false:=by simp[k5]
  by_cases k6:a.kind=6
  ·have b6:(a.kind==6)=true:=by simp[k6]
   have hd:doKind s1 a={s1 with cells:=insCell ⟨a.obj,a.dot,a.time,a.ref,a.val,false⟩ s1.cells}:=by unfold doKind;rw[if_neg k1,if_neg k2,if_neg k3,if_neg k4,if_neg k5,if_pos k6]
   rw[hd,e3]
   obtain⟨w,τ2,R2,K2⟩:=s_l07Cell_ret τ1 v3 s.cells (H1.sl 3 rfl) ⟨a.obj,a.dot,a.time,a.ref,a.val,false⟩ l4
   have H2:=H1.add K2
   simp only[List.cons_append,List.nil_append] at H2
   have c1:=(H2.sl 0 rfl).cell
   obtain⟨τ3,st3,H3,_⟩:=H2.st 5 rfl 1 3 w (by rw[c1];rfl) (by decide) (by simp)
   simp +contextual (disch:=omega) only[go_sem,b1,b2,b3,b4,b5,b6,ld_ptr (H1.pt 4 rfl),ld_ptr (H1.pt 5 rfl)]
   refine by_hp R2 K2 ?_
   simp +contextual (disch:=omega) only[go_sem,st3]
   refine⟨_,rfl,rfl,v0,v1,v2,w,?_⟩
   simp only[c1,List.set_cons_zero,List.set_cons_succ,splice_succ,splice_cons,splice_nil] at H3
   rw[hs1]
   exact((Hp.moveTo H3 3 rfl).pick 5 rfl).drop1
  have b6:(a.kind==6)=false:=by simp[k6]
  have k7:a.kind=7:=by omega
  have b7:(a.kind==7)=true:=by simp[k7]
  have hd:doKind s1 a={s1 with cells:=goneAt s1.cells a.ref}:=by unfold doKind;rw[if_neg k1,if_neg k2,if_neg k3,if_neg k4,if_neg k5,if_neg k6]
  rw[hd,e3]
  cases hx:cellIx s.cells a.ref with
  |none=>simp[refIn,k7,hx] at hri
  |some k=>
   obtain⟨hkl,hke⟩:=cellIx_some hx
   have hno:cellNo s1.cells a.ref=k:=by simp[cellNo,e3,hx]
   have CA:=s_CellAt_ret τ1 [v0,v1,v2,v3] s1 ⟨v0,v1,v2,v3,rfl,by rw[hs1];exact H1.sl 0 rfl,by rw[e1];exact H1.sl 1 rfl,by rw[e2];exact H1.sl 2 rfl,by rw[e3];exact H1.sl 3 rfl⟩ a.ref hm1
   rw[hno] at CA
   have C2:=Cell_at (H1.sl 3 rfl) hkl
   obtain⟨τ2,st2,H2⟩:=H1.ste 3 rfl hkl 1 7 (.bool true) {s.cells[k] with gone:=true} rfl (by decide) (by decide) rfl
   have st2:stG 1 τ1 (fld 7 (atz 8 v3 k)) (.bool true)=some (.tup [],τ2):=st2
   simp +contextual (disch:=omega) only[go_sem,b1,b2,b3,b4,b5,b6,b7,ld_ptr (H1.pt 4 rfl),ld_ptr (H1.pt 5 rfl),seg_full (cs:=[v0,v1,v2,v3]) rfl]
   refine by_ret CA ?_
   simp +contextual (disch:=omega) only[go_sem,natOf_nat,C2,st2]
   refine⟨_,rfl,rfl,v0,v1,v2,v3,?_⟩
   have hE:goneAt s.cells a.ref=s.cells.set k {s.cells[k] with gone:=true}:=by
    unfold goneAt
    rw[hx]
    exact modify_set _ hkl
   rw[hE,hs1]
   exact(H2.pick 5 rfl).drop1
 obtain⟨q,τ,R,rfl,h⟩:=key
 exact⟨τ,R,h⟩
theorem ownSplit {σ τ:St} {rs:List Thg} {x:State} {cs:List GV} {g:Nat} (H:Hp σ τ (pt 1 g cs::own kState cs x::rs)):SPtr σ τ g x rs:=by
 obtain⟨v0,v1,v2,v3,rfl,H⟩:=(H.pick 1 rfl).splitState
 exact⟨v0,v1,v2,v3,H⟩
theorem SPtr.own {σ τ:St} {rs:List Thg} {x:State} {g:Nat} (H:SPtr σ τ g x rs):∃ v0 v1 v2 v3,rdB τ g=some [v0,v1,v2,v3]∧lenG false v1=some (x.tallies.length:Int)∧lenG false v2=some (x.lives.length:Int)∧lenG false v3=some (x.cells.length:Int)∧Hp σ τ (own kState [v0,v1,v2,v3] x::rs):=by
 obtain⟨v0,v1,v2,v3,H⟩:=H
 refine⟨v0,v1,v2,v3,H.pt 4 rfl,(H.sl 1 rfl).len,(H.sl 2 rfl).len,(H.sl 3 rfl).len,?_⟩
 exact Hp.ownState ((H.pick 4 rfl).drop1)
set_option maxHeartbeats 4000000 in
theorem s_DoAct_ret (σ:St) (cs:List GV) (s:State) (hR:kState.R σ s cs) (as':List GV) (a:Act) (hS:kAct.R σ a as') (hl:msState s≤1099511627776) (hm:msAct a≤1099511627776):∃ ds τ,Ret Tryz.prog n_s_DoAct [.agg cs,.agg as'] σ (.tup [.agg ds,gi (doAct s a).2]) τ∧Hp σ τ [own kState ds (doAct s a).1]:=by
 have hR0:=hR
 have hS0:=hS
 have hS1:∀ {τ:St},σ <+: τ→kAct.R τ a as':=fun h=>kAct.pre hS0 h
 obtain⟨a1,b1,c1,v1,rfl,hkn,_,_,_⟩:=hR
 obtain⟨kv,rfl,hkv⟩:=hS
 obtain⟨l1,l2,l3,l4,_⟩:=msState_all hl
 have hkl:a.knew.length≤1099511627776:=by unfold msAct at hm;omega
 have key:∃ q τ,Ret Tryz.prog n_s_DoAct [.agg [a1,b1,c1,v1],.agg (actV a kv)] σ q τ∧∃ ds,q= .tup [.agg ds,gi (doAct s a).2]∧Hp σ τ [own kState ds (doAct s a).1]:=by
  refine ret_dr ir_s_DoAct (Nat.le_of_ble_eq_true rfl) ?_
  have H:=(((Hp.refl σ).new 1 [a1,b1,c1,v1]).new 1 (actV a kv)).new 1 [GV.nilS,GV.nilS,GV.nilS,GV.nilS]
  have z0:=H.pt 2 rfl
  simp +contextual (disch:=omega) only[go_sem,F_s_DoAct,ld_ptr z0,seg_full (cs:=[a1,b1,c1,v1]) rfl]
  obtain⟨es,τ1,R1,K1⟩:=s_l06Copy_ret _ _ s (kState.pre hR0 H.sub) hl
  refine by_hp R1 K1 ?_
  have H:=H.add K1
  simp only[List.cons_append,List.nil_append] at H
  have gl:es.length=4:=kState.len (K1.rd 0 rfl)
  have H:=H.new 1 es
  generalize hn6:τ1.length=n6 at*
  generalize hn4:(σ++[some (Blk.row 1 [a1,b1,c1,v1])]++[some (Blk.row 1 (actV a kv))]).length=n4 at*
  generalize hn2:(σ++[some (Blk.row 1 [a1,b1,c1,v1])]).length=n2 at*
  generalize hn1:σ.length=n1 at*
  simp +contextual (disch:=omega) only[go_sem,splice_full (cs:=[GV.nilS,GV.nilS,GV.nilS,GV.nilS]) gl rfl,gl,ld_ptr (H.pt 4 rfl),seg_full (cs:=[a1,b1,c1,v1]) rfl]
  obtain⟨τr,sr,Hr,_⟩:=H.st 2 rfl 4 0 (.agg es) gl (by decide) (by simp)
  have zr:rdB τr n4=some (splice [GV.nilS,GV.nilS,GV.nilS,GV.nilS] 0 es):=Hr.pt 2 rfl
  rw[splice_full gl rfl] at zr
  refine by_bool (s_StateOk_ret _ _ s (kState.pre hR0 H.sub) hl) (fun hok=> ?_) (fun hok=> ?_)
  rotate_left
  ·have hd:doAct s a=(s,3):=by simp[doAct,hok]
   simp +contextual (disch:=omega) only[go_sem,ld_ptr (H.pt 0 rfl),seg_full gl,sr,ld_ptr zr]
   exact⟨_,rfl,es,by rw[hd],by rw[hd];exact(Hr.pick 1 rfl).one⟩
  simp +contextual (disch:=omega) only[go_sem,ld_ptr (H.pt 3 rfl),seg_full (cs:=actV a kv) rfl]
  refine by_bool (s_ActOk_ret _ _ a (hS1 H.sub) hm) (fun hao=> ?_) (fun hao=> ?_)
  rotate_left
  ·have hd:doAct s a=(s,3):=by simp[doAct,hok,hao]
   simp +contextual (disch:=omega) only[go_sem,ld_ptr (H.pt 0 rfl),seg_full gl,sr,ld_ptr zr]
   exact⟨_,rfl,es,by rw[hd],by rw[hd];exact(Hr.pick 1 rfl).one⟩
  simp +contextual (disch:=omega) only[go_sem,ld_ptr (H.pt 3 rfl),ld_ptr (H.pt 4 rfl)]
  refine by_bool (s_Knows_ret _ a1 s.know a.dot (hkn.pre H.sub) l1) (fun hkn1=> ?_) (fun hkn1=> ?_)
  ·have hd:doAct s a=(s,1):=by simp[doAct,hok,hao,hkn1]
   simp +contextual (disch:=omega) only[go_sem,ld_ptr (H.pt 0 rfl),seg_full gl,sr,ld_ptr zr]
   exact⟨_,rfl,es,by rw[hd],by rw[hd];exact(Hr.pick 1 rfl).one⟩
  simp +contextual (disch:=omega) only[go_sem,ld_ptr (H.pt 3 rfl),ld_ptr (H.pt 4 rfl)]
  refine by_bool (s_KnowIn_ret _ kv a1 a.knew s.know (hkv.pre H.sub) (hkn.pre H.sub) hkl l1) (fun hkn2=> ?_) (fun hkn2=> ?_)
  rotate_left
  ·have hd:doAct s a=(s,2):=by simp[doAct,hok,hao,hkn1,hkn2]
   simp +contextual (disch:=omega) only[go_sem,ld_ptr (H.pt 0 rfl),seg_full gl,sr,ld_ptr zr]
   exact⟨_,rfl,es,by rw[hd],by rw[hd];exact(Hr.pick 1 rfl).one⟩
  simp +contextual (disch:=omega) only[go_sem,ld_ptr (H.pt 3 rfl),ld_ptr (H.pt 4 rfl),seg_full (cs:=actV a kv) rfl,seg_full (cs:=[a1,b1,c1,v1]) rfl]
  refine by_bool (s_l07Ref_ret _ _ s (kState.pre hR0 H.sub) _ a (hS1 H.sub) hl) (fun hri=> ?_) (fun hri=> ?_)
  rotate_left
  ·have hd:doAct s a=(s,3):=by simp[doAct,hok,hao,hkn1,hkn2,hri]
   simp +contextual (disch:=omega) only[go_sem,ld_ptr (H.pt 0 rfl),seg_full gl,sr,ld_ptr zr]
   exact⟨_,rfl,es,by rw[hd],by rw[hd];exact(Hr.pick 1 rfl).one⟩
  obtain⟨τ2,R2,S2⟩:=s_l07Do_ret (ownSplit H) a kv hkv hok hao hri hl
  simp +contextual (disch:=omega) only[go_sem,ld_ptr (H.pt 3 rfl),seg_full (cs:=actV a kv) rfl]
  rw[hn6]
  refine by_mut R2 ?_
  obtain⟨w0,w1,w2,w3,z6,q1,q2,q3,H3⟩:=S2.own
  cases h1:decide (120<(doOne s a).tallies.length) with
  |true=>
   have ht:tooMany (doOne s a)=true:=by simp[tooMany,h1]
   have hd:doAct s a=(s,4):=by simp[doAct,hok,hao,hkn1,hkn2,hri,ht]
   simp +contextual (disch:=omega) only[go_sem,ld_ptr z6,q1,q2,q3,gt_cast,h1,ld_ptr (H3.pt 3 rfl),seg_full (cs:=[a1,b1,c1,v1]) rfl]
   obtain⟨fs,τ4,R4,K4⟩:=s_l06Copy_ret _ _ s (kState.pre hR0 H3.sub) hl
   refine by_hp R4 K4 ?_
   have H4:=H3.add K4
   simp only[List.cons_append,List.nil_append] at H4
   have gl4:fs.length=4:=kState.len (K4.rd 0 rfl)
   obtain⟨τ5,s5,H5,_⟩:=H4.st 2 rfl 4 0 (.agg fs) gl4 (by decide) (by simp)
   have z5:rdB τ5 n4=some (splice [GV.nilS,GV.nilS,GV.nilS,GV.nilS] 0 fs):=H5.pt 2 rfl
   rw[splice_full gl4 rfl] at z5
   simp +contextual (disch:=omega) only[go_sem,s5,ld_ptr z5,seg_full gl4]
   exact⟨_,rfl,fs,by rw[hd],by rw[hd];exact H5.one⟩
  |false=>
   cases h2:decide (120<(doOne s a).lives.length) with
   |true=>
    have ht:tooMany (doOne s a)=true:=by simp[tooMany,h1,h2]
    have hd:doAct s a=(s,4):=by simp[doAct,hok,hao,hkn1,hkn2,hri,ht]
    simp +contextual (disch:=omega) only[go_sem,ld_ptr z6,q1,q2,q3,gt_cast,h1,h2,ld_ptr (H3.pt 3 rfl),seg_full (cs:=[a1,b1,c1,v1]) rfl]
    obtain⟨fs,τ4,R4,K4⟩:=s_l06Copy_ret _ _ s (kState.pre hR0 H3.sub) hl
    refine by_hp R4 K4 ?_
    have H4:=H3.add K4
    simp only[List.cons_append,List.nil_append] at H4
    have gl4:fs.length=4:=kState.len (K4.rd 0 rfl)
    obtain⟨τ5,s5,H5,_⟩:=H4.st 2 rfl 4 0 (.agg fs) gl4 (by decide) (by simp)
    have z5:rdB τ5 n4=some (splice [GV.nilS,GV.nilS,GV.nilS,GV.nilS] 0 fs):=H5.pt 2 rfl
    rw[splice_full gl4 rfl] at z5
    simp +contextual (disch:=omega) only[go_sem,s5,ld_ptr z5,seg_full gl4]
    exact⟨_,rfl,fs,by rw[hd],by rw[hd];exact H5.one⟩
   |false=>
    cases h3:decide (120<(doOne s a).cells.length) with
    |true=>
     have ht:tooMany (doOne s a)=true:=by simp[tooMany,h1,h2,h3]
     have hd:doAct s a=(s,4):=by simp[doAct,hok,hao,hkn1,hkn2,hri,ht]
     simp +contextual (disch:=omega) only[go_sem,ld_ptr z6,q1,q2,q3,gt_cast,h1,h2,h3,ld_ptr (H3.pt 3 rfl),seg_full (cs:=[a1,b1,c1,v1]) rfl]
     obtain⟨fs,τ4,R4,K4⟩:=s_l06Copy_ret _ _ s (kState.pre hR0 H3.sub) hl
     refine by_hp R4 K4 ?_
     have H4:=H3.add K4
     simp only[List.cons_append,List.nil_append] at H4
     have gl4:fs.length=4:=kState.len (K4.rd 0 rfl)
     obtain⟨τ5,s5,H5,_⟩:=H4.st 2 rfl 4 0 (.agg fs) gl4 (by decide) (by simp)
     have z5:rdB τ5 n4=some (splice [GV.nilS,GV.nilS,GV.nilS,GV.nilS] 0 fs):=H5.pt 2 rfl
     rw[splice_full gl4 rfl] at z5
     simp +contextual (disch:=omega) only[go_sem,s5,ld_ptr z5,seg_full gl4]
     exact⟨_,rfl,fs,by rw[hd],by rw[hd];exact H5.one⟩
    |false=>
     have ht:tooMany (doOne s a)=false:=by simp only[tooMany,h1,h2,h3];rfl
     have hd:doAct s a=(doOne s a,0):=by simp[doAct,hok,hao,hkn1,hkn2,hri,ht]
     obtain⟨τ5,s5,H5,_⟩:=H3.st 1 rfl 4 0 (.agg [w0,w1,w2,w3]) rfl (by decide) (by simp)
     have z5:rdB τ5 n4=some [w0,w1,w2,w3]:=H5.pt 1 rfl
     simp +contextual (disch:=omega) only[go_sem,ld_ptr z6,q1,q2,q3,gt_cast,h1,h2,h3,seg_full (cs:=[w0,w1,w2,w3]) rfl,s5,ld_ptr z5]
     exact⟨_,rfl,_,by rw[hd],by rw[hd];exact H5.one⟩
 obtain⟨q,τ,R,ds,rfl,h⟩:=key
 exact⟨ds,τ,R,h⟩
end Go.Proofs.YtffnefmklckngaaGreat.Sy
namespace Go.Proofs.YtffnefmklckngaaGreat.Sy
open Go Go.RowKit
set_option linter.unusedSimpArgs false
set_option linter.unusedVariables false
set_option maxRecDepth 4000
abbrev n_i_DoAct:Nat:=95
def F_i_DoAct:Fn1:=⟨176,[.c 4 true 4,.t 5],(.seq (.reg [o 2 (.box (.t 0)),o 3 (.box (.t 1)),o 4 (.new [.nilS,.nilS,.nilS,.nilS]),o 5 (.mov (.k (.int .i64 0)))]) (.seq (.reg [o 10 (.ld true 4 (.t 2)),o 11 (.call 93 [(.t 10)]),o 6 (.new [.nilS,.nilS,.nilS,.nilS]),on (.st 4 (.t 6) (.t 11))]) (.seq (.blk 0 (.seq (.reg [o 13 (.ld true 4 (.t 2)),o 14 (.call 146 [(.t 13)]),o 15 (.un .not (.t 14)),o 16 (.mov (.t 15)),og 17 16 false (.ld true 10 (.t 3)),og 18 16 false (.call 111 [(.t 17)]),og 19 16 false (.un .not (.t 18)),o 20 (.pick (.t 16) (.k (.bool true)) (.t 19)),o 12 (.mov (.t 20))]) (.cnd (.t 12) (.seq (.reg [o 21 (.ld true 4 (.t 6)),on (.st 4 (.t 4) (.t 21)),o 5 (.mov (.k (.int .i64 3)))]) .ret) (.seq (.reg [o 23 (.fad 0 (.t 2)),o 24 (.ld false 1 (.t 23)),o 25 (.fad 0 (.t 3)),o 26 (.ld true 2 (.t 25)),o 27 (.call 150 [(.t 24),(.t 26)]),o 22 (.mov (.t 27))]) (.cnd (.t 22) (.seq (.reg [o 28 (.ld true 4 (.t 6)),on (.st 4 (.t 4) (.t 28)),o 5 (.mov (.k (.int .i64 1)))]) .ret) (.seq (.reg [o 30 (.fad 3 (.t 3)),o 31 (.ld false 1 (.t 30)),o 32 (.fad 0 (.t 2)),o 33 (.ld false 1 (.t 32)),o 34 (.call 151 [(.t 31),(.t 33)]),o 35 (.un .not (.t 34)),o 29 (.mov (.t 35))]) (.cnd (.t 29) (.seq (.reg [o 36 (.ld true 4 (.t 6)),on (.st 4 (.t 4) (.t 36)),o 5 (.mov (.k (.int .i64 2)))]) .ret) .skip))))))) (.seq (.reg [o 37 (.ld true 4 (.t 2)),o 38 (.fad 8 (.t 3)),o 39 (.ld true 2 (.t 38)),o 40 (.call 152 [(.t 37),(.t 39)]),o 7 (.mov (.t 40))]) (.seq (.seq (.drw [o 41 (.fad 8 (.t 3)),o 42 (.ld true 2 (.t 41)),o 43 (.build [(.int .i64 0),(.int .i64 0)] []),o 44 (.eqs true [.i .i64,.i .i64] (.t 42) (.t 43)),o 45 (.mov (.t 44)),og 46 45 true (.mov (.t 7)),og 47 45 true (.bin .lss (.t 46) (.k (.int .i64 0))),og 48 45 true (.mov (.t 47)),og 49 48 false (.fad 3 (.t 2)),og 50 48 false (.ld false 1 (.t 49)),og 51 48 false (.mov (.t 7)),og 52 48 false (.iad 8 (.t 50) (.t 51)),og 53 48 false (.fad 0 (.t 52)),og 54 48 false (.ld false 1 (.t 53)),og 55 48 false (.fad 5 (.t 3)),og 56 48 false (.ld false 1 (.t 55)),og 57 48 false (.bin .neq (.t 54) (.t 56)),og 58 45 true (.pick (.t 48) (.k (.bool true)) (.t 57)),og 59 45 true (.mov (.t 58)),og 60 59 false (.fad 4 (.t 3)),og 61 59 false (.ld false 1 (.t 60)),og 62 59 false (.bin .eql (.t 61) (.k (.int .i64 6))),og 63 59 false (.mov (.t 62)),og 64 63 true (.fad 2 (.t 3)),og 65 63 true (.ld false 1 (.t 64)),og 66 63 true (.fad 3 (.t 2)),og 67 63 true (.ld false 1 (.t 66)),og 68 63 true (.mov (.t 7)),og 69 63 true (.iad 8 (.t 67) (.t 68)),og 70 63 true (.fad 3 (.t 69)),og 71 63 true (.ld false 1 (.t 70))] [og 72 63 true (.bin .leq (.t 65) (.t 71)),og 73 59 false (.pick (.t 63) (.t 72) (.k (.bool false))),og 74 45 true (.pick (.t 59) (.k (.bool true)) (.t 73)),o 75 (.pick (.t 45) (.t 74) (.k (.bool false)))]) (.cnd (.t 75) (.seq (.reg [o 76 (.ld true 4 (.t 6)),on (.st 4 (.t 4) (.t 76)),o 5 (.mov (.k (.int .i64 3)))]) .ret) .skip)) (.seq (.reg [o 77 (.ld true 4 (.t 2)),o 78 (.call 93 [(.t 77)]),o 8 (.new [.nilS,.nilS,.nilS,.nilS]),on (.st 4 (.t 8) (.t 78))]) (.seq (.reg [o 79 (.fad 0 (.t 8)),o 80 (.ld false 1 (.t 79)),o 81 (.fad 0 (.t 3)),o 82 (.fad 0 (.t 81)),o 83 (.ld false 1 (.t 82)),o 84 (.fad 0 (.t 3)),o 85 (.fad 1 (.t 84)),o 86 (.ld false 1 (.t 85)),o 87 (.iad 1 (.t 80) (.t 83)),on (.st 1 (.t 87) (.t 86))]) (.seq (.seq (.reg [o 88 (.fad 4 (.t 3)),o 89 (.ld false 1 (.t 88))]) (.blk 1 (.seq (.reg [o 91 (.bin .eql (.t 89) (.k (.int .i64 1))),o 90 (.mov (.t 91))]) (.cnd (.t 90) (.reg [o 92 (.fad 1 (.t 2)),o 93 (.ld false 1 (.t 92)),o 94 (.fad 5 (.t 3)),o 95 (.ld false 1 (.t 94)),o 96 (.fad 0 (.t 3)),o 97 (.fad 0 (.t 96)),o 98 (.ld false 1 (.t 97)),o 99 (.fad 7 (.t 3)),o 100 (.ld false 1 (.t 99)),o 101 (.call 153 [(.t 93),(.t 95),(.t 98),(.t 100)]),o 102 (.fad 1 (.t 8)),on (.st 1 (.t 102) (.t 101))]) (.seq (.reg [o 104 (.bin .eql (.t 89) (.k (.int .i64 2))),o 103 (.mov (.t 104))]) (.cnd (.t 103) (.reg [o 105 (.fad 2 (.t 2)),o 106 (.ld false 1 (.t 105)),o 107 (.fad 5 (.t 3)),o 108 (.ld false 1 (.t 107)),o 109 (.fad 6 (.t 3)),o 110 (.ld false 1 (.t 109)),o 111 (.fad 0 (.t 3)),o 112 (.ld true 2 (.t 111)),o 113 (.build [(.bool false),(.str ⟨#[]⟩),(.str ⟨#[]⟩),(.int .i64 0),(.int .i64 0),(.int .i64 0)] [(1,1,(.t 108)),(2,1,(.t 110)),(4,2,(.t 112))]),o 114 (.call 154 [(.t 106),(.t 113)]),o 115 (.fad 2 (.t 8)),on (.st 1 (.t 115) (.t 114))]) (.seq (.reg [o 117 (.bin .eql (.t 89) (.k (.int .i64 3))),o 116 (.mov (.t 117))]) (.cnd (.t 116) (.reg [o 118 (.fad 2 (.t 2)),o 119 (.ld false 1 (.t 118)),o 120 (.ld true 10 (.t 3)),o 121 (.call 155 [(.t 119),(.k (.bool false)),(.t 120)]),o 122 (.fad 2 (.t 8)),on (.st 1 (.t 122) (.t 121))]) (.seq (.reg [o 124 (.bin .eql (.t 89) (.k (.int .i64 4))),o 123 (.mov (.t 124))]) (.cnd (.t 123) (.seq (.reg [o 125 (.fad 2 (.t 2)),o 126 (.ld false 1 (.t 125)),o 127 (.ld true 10 (.t 3)),o 128 (.call 155 [(.t 126),(.k (.bool true)),(.t 127)]),o 9 (.mov (.t 128))]) (.reg [o 129 (.mov (.t 9)),o 130 (.fad 5 (.t 3)),o 131 (.ld false 1 (.t 130)),o 132 (.fad 6 (.t 3)),o 133 (.ld false 1 (.t 132)),o 134 (.fad 7 (.t 3)),o 135 (.ld false 1 (.t 134)),o 136 (.fad 0 (.t 3)),o 137 (.ld true 2 (.t 136)),o 138 (.build [(.bool false),(.str ⟨#[]⟩),(.str ⟨#[]⟩),(.int .i64 0),(.int .i64 0),(.int .i64 0)] [(0,1,(.k (.bool true))),(1,1,(.t 131)),(2,1,(.t 133)),(3,1,(.t 135)),(4,2,(.t 137))]),o 139 (.call 154 [(.t 129),(.t 138)]),o 140 (.fad 2 (.t 8)),on (.st 1 (.t 140) (.t 139))])) (.seq (.reg [o 142 (.bin .eql (.t 89) (.k (.int .i64 5))),o 141 (.mov (.t 142))]) (.cnd (.t 141) (.reg [o 143 (.fad 2 (.t 2)),o 144 (.ld false 1 (.t 143)),o 145 (.ld true 10 (.t 3)),o 146 (.call 155 [(.t 144),(.k (.bool true)),(.t 145)]),o 147 (.fad 2 (.t 8)),on (.st 1 (.t 147) (.t 146))]) (.seq (.reg [o 149 (.bin .eql (.t 89) (.k (.int .i64 6))),o 148 (.mov (.t 149))]) (.cnd (.t 148) (.reg [o 150 (.fad 3 (.t 2)),o 151 (.ld false 1 (.t 150)),o 152 (.fad 5 (.t 3)),o 153 (.ld false 1 (.t 152)),o 154 (.fad 0 (.t 3)),o 155 (.ld true 2 (.t 154)),o 156 (.fad 2 (.t 3)),o 157 (.ld false 1 (.t 156)),o 158 (.fad 8 (.t 3)),o 159 (.ld true 2 (.t 158)),o 160 (.fad 7 (.t 3)),o 161 (.ld false 1 (.t 160)),o 162 (.build [(.str ⟨#[]⟩),(.int .i64 0),(.int .i64 0),(.int .i64 0),(.int .i64 0),(.int .i64 0),(.int .i64 0),(.bool false)] [(0,1,(.t 153)),(1,2,(.t 155)),(3,1,(.t 157)),(4,2,(.t 159)),(6,1,(.t 161))]),o 163 (.call 156 [(.t 151),(.t 162)]),o 164 (.fad 3 (.t 8)),on (.st 1 (.t 164) (.t 163))]) (.seq (.reg [o 166 (.bin .eql (.t 89) (.k (.int .i64 7))),o 165 (.mov (.t 166))]) (.cnd (.t 165) (.reg [o 167 (.fad 3 (.t 8)),o 168 (.ld false 1 (.t 167)),o 169 (.mov (.t 7)),o 170 (.iad 8 (.t 168) (.t 169)),o 171 (.fad 7 (.t 170)),on (.st 1 (.t 171) (.k (.bool true)))]) .skip)))))))))))))))) (.seq (.seq (.reg [o 172 (.ld true 4 (.t 8)),o 173 (.call 157 [(.t 172)])]) (.cnd (.t 173) (.seq (.reg [o 174 (.ld true 4 (.t 6)),on (.st 4 (.t 4) (.t 174)),o 5 (.mov (.k (.int .i64 4)))]) .ret) .skip)) (.seq (.reg [o 175 (.ld true 4 (.t 8)),on (.st 4 (.t 4) (.t 175)),o 5 (.mov (.k (.int .i64 0)))]) .ret))))))))))⟩
theorem ir_i_DoAct:compFn Tryz.prog n_i_DoAct=some F_i_DoAct:=by kernel_rfl
theorem known_facts {s:State} (h:stateOk s=true):s.tallies.Pairwise (fun a b=>tallyLt a b=true)∧(∀ x∈s.lives,knows s.know x.dot=true)∧∀ x∈s.cells,knows s.know x.dot=true:=by
 simp only[stateOk,Bool.and_eq_true] at h
 obtain⟨_,h2,h3,h4,_⟩:=h
 refine⟨?_,fun x hx=> ?_,fun x hx=> ?_⟩
 ·simp only[talsOk,Bool.and_eq_true,allR_iff,talP] at h2
  exact pairs_up (lt:=tallyLt) (fun a b c h1 h2=>swo_tally.trans _ _ _ h1 h2) fun i hi=>(h2.1 i hi).2
 ·simp only[livsOk,Bool.and_eq_true,allR_iff,livP] at h3
  obtain⟨i,hi,rfl⟩:=List.getElem_of_mem hx
  have:=(h3.1 i hi).1
  rw[onI_at hi] at this
  exact this
 ·simp only[celsOk,Bool.and_eq_true,allR_iff,celP] at h4
  obtain⟨i,hi,rfl⟩:=List.getElem_of_mem hx
  have:=(h4.1 i hi).1
  rw[onI_at hi] at this
  exact this
theorem withLive_eq {l:List Live} {k:List Int} {x:Live} (h:∀ y∈l,knows k y.dot=true) (hx:knows k x.dot=false):insW (fun y:Live=>dotLt y.dot x.dot) x l=insLive x l:=
 insW_insB fun y hy=>dotLt_not fun e=>by have:=h y hy;rw[← e,hx] at this;cases this
theorem withCell_eq {l:List Cell} {k:List Int} {x:Cell} (h:∀ y∈l,knows k y.dot=true) (hx:knows k x.dot=false):insW (fun y:Cell=>dotLt y.dot x.dot) x l=insCell x l:=
 insW_insB fun y hy=>dotLt_not fun e=>by have:=h y hy;rw[← e,hx] at this;cases this
theorem ref_zero {s:State} {a:Act} (hao:actOk a=true) (hr:a.ref=d0):refIn s a=true:=by
 have hk:¬ a.kind=7:=fun h7=>by
  simp only[actOk,Bool.and_eq_true] at hao
  have h2:=hao.2.2
  unfold refOk at h2
  rw[if_pos (by simp[h7])] at h2
  have:=knows_dot h2
  rw[hr] at this
  exact absurd this (by decide)
 unfold refIn
 rw[if_neg (by rintro(h|h);exact hk h;exact h.2 hr)]
theorem ref_some {a:Act} (hao:actOk a=true) (hr:a.ref≠d0):a.kind=7∨a.kind=6:=by
 simp only[actOk,Bool.and_eq_true] at hao
 have h2:=hao.2.2
 unfold refOk at h2
 by_cases h7:a.kind=7
 ·exact .inl h7
 ·rw[if_neg (by simpa using h7)] at h2
  by_cases h6:a.kind=6
  ·exact .inr h6
  ·rw[if_neg (by simpa using h6)] at h2
   exact absurd (by simpa using h2) hr
def zSt (σ:St) (cs:List GV):Prop:=∃ a b c v,cs=[a,b,c,v]∧zOk σ 3 b=true∧zOk σ 6 c=true∧zOk σ 8 v=true
set_option maxHeartbeats 4000000 in
theorem i_DoAct_ret (σ:St) (cs:List GV) (s:State) (hR:kState.R σ s cs) (hz:zSt σ cs) (as':List GV) (a:Act) (hS:kAct.R σ a as') (hl:msState s≤1099511627776) (hm:msAct a≤1099511627776):∃ ds τ,Ret Tryz.prog n_i_DoAct [.agg cs,.agg as'] σ (.tup [.agg ds,gi (doAct s a).2]) τ∧Hp σ τ [own kState ds (doAct s a).1]:=by
 have hR0:=hR
 have hS0:=hS
 have hS1:∀ {τ:St},σ <+: τ→kAct.R τ a as':=fun h=>kAct.pre hS0 h
 obtain⟨a1,b1,c1,v1,rfl,hkn,hb,hc,hv⟩:=hR
 obtain⟨_,_,_,_,hq,hz3,hz6,hz8⟩:=hz
 injection hq with q1 q2;injection q2 with q2 q3;injection q3 with q3 q4;injection q4 with q4 _
 subst q1 q2 q3 q4
 obtain⟨kv,rfl,hkv⟩:=hS
 obtain⟨l1,l2,l3,l4,_⟩:=msState_all hl
 have hkl:a.knew.length≤1099511627776:=by unfold msAct at hm;omega
 have key:∃ q τ,Ret Tryz.prog n_i_DoAct [.agg [a1,b1,c1,v1],.agg (actV a kv)] σ q τ∧∃ ds,q= .tup [.agg ds,gi (doAct s a).2]∧Hp σ τ [own kState ds (doAct s a).1]:=by
  refine ret_dr ir_i_DoAct (Nat.le_of_ble_eq_true rfl) ?_
  have H:=(((Hp.refl σ).new 1 [a1,b1,c1,v1]).new 1 (actV a kv)).new 1 [GV.nilS,GV.nilS,GV.nilS,GV.nilS]
  simp only[F_i_DoAct]
  obtain⟨n4,hn4⟩:∃ n,n=(σ++[some (Blk.row 1 [a1,b1,c1,v1])]++[some (Blk.row 1 (actV a kv))]).length:=⟨_,rfl⟩
  obtain⟨n2,hn2⟩:∃ n,n=(σ++[some (Blk.row 1 [a1,b1,c1,v1])]).length:=⟨_,rfl⟩
  obtain⟨n1,hn1⟩:∃ n,n=σ.length:=⟨_,rfl⟩
  rw[← hn4,←hn2,←hn1] at H
  refine vc_seqX (fun env τ=>env 2= .ptr n1 0∧env 3= .ptr n2 0∧env 4= .ptr n4 0∧Hp σ τ [pt 1 n4 [GV.nilS,GV.nilS,GV.nilS,GV.nilS],pt 1 n2 (actV a kv),pt 1 n1 [a1,b1,c1,v1]]) (fun Y hY=>by
   simp +contextual (disch:=omega) only[go_sem]
   refine hY _ _ ⟨?_,?_,?_,H⟩
   all_goals simp +contextual (disch:=omega) only[go_sem,hn1,hn2,hn4]) ?_
  clear H
  rintro env τ ⟨e2,e3,e4,H⟩
  refine vc_seqX (fun env τ=>∃ n6 es,es.length=4∧env 2= .ptr n1 0∧env 3= .ptr n2 0∧env 4= .ptr n4 0∧env 6= .ptr n6 0∧Hp σ τ [pt 1 n6 es,own kState es s,pt 1 n4 [GV.nilS,GV.nilS,GV.nilS,GV.nilS],pt 1 n2 (actV a kv),pt 1 n1 [a1,b1,c1,v1]]) (fun Y hY=>by
   simp +contextual (disch:=omega) only[go_sem,e2,e3,e4,ld_ptr (H.pt 2 rfl),seg_full (cs:=[a1,b1,c1,v1]) rfl]
   obtain⟨es,τ1,R1,K1⟩:=i_copyState_ret _ _ s (kState.pre hR0 H.sub) hl
   refine by_hp R1 K1 ?_
   have H:=H.add K1
   simp only[List.cons_append,List.nil_append] at H
   have gl:es.length=4:=kState.len (K1.rd 0 rfl)
   have H:=H.new 1 es
   simp +contextual (disch:=omega) only[go_sem,splice_full (cs:=[GV.nilS,GV.nilS,GV.nilS,GV.nilS]) gl rfl,gl,e2,e3,e4]
   refine hY _ _ ⟨τ1.length,es,gl,?_,?_,?_,?_,H⟩
   all_goals simp +contextual (disch:=omega) only[go_sem,e2,e3,e4]) ?_
  clear H e2 e3 e4
  rintro env τ ⟨n6,es,gl,e2,e3,e4,e6,H⟩
  refine vc_seqX (fun env τ'=>env 2= .ptr n1 0∧env 3= .ptr n2 0∧env 4= .ptr n4 0∧env 6= .ptr n6 0∧τ=τ'∧stateOk s=true∧actOk a=true∧knows s.know a.dot=false∧knowIn a.knew s.know=true) (fun Y hY=>by
   obtain⟨τr,sr,Hr,_⟩:=H.st 2 rfl 4 0 (.agg es) gl (by decide) (by simp)
   have zr:rdB τr n4=some (splice [GV.nilS,GV.nilS,GV.nilS,GV.nilS] 0 es):=Hr.pt 2 rfl
   rw[splice_full gl rfl] at zr
   simp +contextual (disch:=omega) only[go_sem,e2,e3,e4,e6,ld_ptr (H.pt 4 rfl),seg_full (cs:=[a1,b1,c1,v1]) rfl]
   refine by_bool (i_StateOk_ret _ _ s (kState.pre hR0 H.sub) hl) (fun hok=> ?_) (fun hok=> ?_)
   rotate_left
   ·have hd:doAct s a=(s,3):=by simp[doAct,hok]
    simp +contextual (disch:=omega) only[go_sem,e2,e3,e4,e6,ld_ptr (H.pt 0 rfl),seg_full gl,sr,ld_ptr zr]
    exact⟨_,rfl,es,by rw[hd],by rw[hd];exact(Hr.pick 1 rfl).one⟩
   simp +contextual (disch:=omega) only[go_sem,e2,e3,e4,e6,ld_ptr (H.pt 3 rfl),seg_full (cs:=actV a kv) rfl]
   refine by_bool (i_ActOk_ret _ _ a (hS1 H.sub) hm) (fun hao=> ?_) (fun hao=> ?_)
   rotate_left
   ·have hd:doAct s a=(s,3):=by simp[doAct,hok,hao]
    simp +contextual (disch:=omega) only[go_sem,e2,e3,e4,e6,ld_ptr (H.pt 0 rfl),seg_full gl,sr,ld_ptr zr]
    exact⟨_,rfl,es,by rw[hd],by rw[hd];exact(Hr.pick 1 rfl).one⟩
   simp +contextual (disch:=omega) only[go_sem,e2,e3,e4,e6,ld_ptr (H.pt 3 rfl),ld_ptr (H.pt 4 rfl)]
   refine by_bool (i_Knows_ret _ a1 s.know a.dot (hkn.pre H.sub) l1) (fun hkn1=> ?_) (fun hkn1=> ?_)
   ·have hd:doAct s a=(s,1):=by simp[doAct,hok,hao,hkn1]
    simp +contextual (disch:=omega) only[go_sem,e2,e3,e4,e6,ld_ptr (H.pt 0 rfl),seg_full gl,sr,ld_ptr zr]
    exact⟨_,rfl,es,by rw[hd],by rw[hd];exact(Hr.pick 1 rfl).one⟩
   simp +contextual (disch:=omega) only[go_sem,e2,e3,e4,e6,ld_ptr (H.pt 3 rfl),ld_ptr (H.pt 4 rfl)]
   refine by_bool (i_KnowIn_ret _ kv a1 a.knew s.know (hkv.pre H.sub) (hkn.pre H.sub) hkl l1) (fun hkn2=> ?_) (fun hkn2=> ?_)
   rotate_left
   ·have hd:doAct s a=(s,2):=by simp[doAct,hok,hao,hkn1,hkn2]
    simp +contextual (disch:=omega) only[go_sem,e2,e3,e4,e6,ld_ptr (H.pt 0 rfl),seg_full gl,sr,ld_ptr zr]
    exact⟨_,rfl,es,by rw[hd],by rw[hd];exact(Hr.pick 1 rfl).one⟩
   simp +contextual (disch:=omega) only[go_sem,e2,e3,e4,e6]
   refine hY _ _ ⟨?_,?_,?_,?_,rfl,hok,hao,hkn1,hkn2⟩
   all_goals simp +contextual (disch:=omega) only[go_sem,e2,e3,e4,e6]) ?_
  clear e2 e3 e4 e6
  rintro env τ' ⟨e2,e3,e4,e6,rfl,hok,hao,hkn1,hkn2⟩
  obtain⟨⟨f1,f2⟩,⟨f3,f4⟩,⟨f5,f6⟩,f7⟩:=act_facts hao
  obtain⟨t1,t2⟩:=tal_facts hok
  obtain⟨kf1,kf2,kf3⟩:=known_facts hok
  have CA:=i_CellAt_ret τ _ s (kState.pre hR0 H.sub) a.ref hl
  refine vc_seqX (fun env τ'=>env 2= .ptr n1 0∧env 3= .ptr n2 0∧env 4= .ptr n4 0∧env 6= .ptr n6 0∧env 7=gi (cellNo s.cells a.ref)∧τ=τ') (fun Y hY=>by
   simp +contextual (disch:=omega) only[go_sem,e2,e3,e4,e6,ld_ptr (H.pt 4 rfl),ld_ptr (H.pt 3 rfl),seg_full (cs:=[a1,b1,c1,v1]) rfl]
   refine by_ret CA ?_
   simp +contextual (disch:=omega) only[go_sem,e2,e3,e4,e6]
   refine hY _ _ ⟨?_,?_,?_,?_,?_,rfl⟩
   all_goals simp +contextual (disch:=omega) only[go_sem,e2,e3,e4,e6]) ?_
  clear e2 e3 e4 e6
  rintro env τ' ⟨e2,e3,e4,e6,e7,rfl⟩
  refine vc_seqX (fun env τ'=>env 2= .ptr n1 0∧env 3= .ptr n2 0∧env 4= .ptr n4 0∧env 6= .ptr n6 0∧env 7=gi (cellNo s.cells a.ref)∧τ=τ'∧refIn s a=true) (fun Y hY=>by
   obtain⟨τr,sr,Hr,_⟩:=H.st 2 rfl 4 0 (.agg es) gl (by decide) (by simp)
   have zr:rdB τr n4=some (splice [GV.nilS,GV.nilS,GV.nilS,GV.nilS] 0 es):=Hr.pt 2 rfl
   rw[splice_full gl rfl] at zr
   by_cases hr0:a.ref=d0
   ·have cr:decide (a.ref=⟨0,0⟩)=true:=decide_eq_true hr0
    have hri:=ref_zero (s:=s) hao hr0
    simp +contextual (disch:=omega) only[go_sem,e2,e3,e4,e6,e7,ld_ptr (H.pt 3 rfl),ld_ptr (H.pt 4 rfl),cr,Bool.true_xor,Bool.true_bne,Bool.not_true,Bool.not_false]
    refine hY _ _ ⟨?_,?_,?_,?_,?_,rfl,hri⟩
    all_goals simp +contextual (disch:=omega) only[go_sem,e2,e3,e4,e6,e7]
   ·have cr:decide (a.ref=⟨0,0⟩)=false:=decide_eq_false hr0
    have h67:=ref_some hao hr0
    have hin:a.kind=7∨(a.kind=6∧a.ref≠d0):=h67.imp id fun h=>⟨h,hr0⟩
    cases hx:cellIx s.cells a.ref with
    |none=>
     have hno:cellNo s.cells a.ref= -1:=by simp[cellNo,hx]
     rw[hno] at e7
     have cm:decide ((-1:Int)<0)=true:=rfl
     have hrf:refIn s a=false:=by simp[refIn,hin,hx]
     have hd:doAct s a=(s,3):=by simp[doAct,hok,hao,hkn1,hkn2,hrf]
     simp +contextual (disch:=omega) only[go_sem,e2,e3,e4,e6,e7,ld_ptr (H.pt 3 rfl),ld_ptr (H.pt 4 rfl),cr,cm,Bool.true_xor,Bool.true_bne,Bool.not_true,Bool.not_false,ld_ptr (H.pt 0 rfl),seg_full gl,sr,ld_ptr zr]
     exact⟨_,rfl,es,by rw[hd],by rw[hd];exact(Hr.pick 1 rfl).one⟩
    |some k=>
     obtain⟨hk,hk2⟩:=cellIx_some hx
     have hno:cellNo s.cells a.ref=k:=by simp[cellNo,hx]
     have hE:refIn s a=(decide (s.cells[k].obj=a.obj)&&(decide (a.kind=7)||decide (s.cells[k].time<a.time))):=by simp[refIn,hin,hx,onI_at hk]
     rw[hno] at e7
     have cm:decide ((k:Int)<0)=false:=by simp
     have C2:=Cell_at (hv.pre H.sub) hk
     cases ho:decide (s.cells[k].obj=a.obj) with
     |false=>
      have hrf:refIn s a=false:=by rw[hE,ho];rfl
      have hd:doAct s a=(s,3):=by simp[doAct,hok,hao,hkn1,hkn2,hrf]
      simp +contextual (disch:=omega) only[go_sem,e2,e3,e4,e6,e7,ld_ptr (H.pt 3 rfl),ld_ptr (H.pt 4 rfl),cr,cm,natOf_nat,C2,ho,Bool.true_xor,Bool.true_bne,Bool.not_true,Bool.not_false,ld_ptr (H.pt 0 rfl),seg_full gl,sr,ld_ptr zr]
      exact⟨_,rfl,es,by rw[hd],by rw[hd];exact(Hr.pick 1 rfl).one⟩
     |true=>
      by_cases h6:a.kind=6
      ·have b6:(a.kind==6)=true:=by simp[h6]
       have h7:¬ a.kind=7:=by omega
       rw[ho,decide_eq_false h7] at hE
       cases ht:decide (a.time≤s.cells[k].time) with
       |true=>
        have ht2:decide (s.cells[k].time<a.time)=false:=by
         have:=of_decide_eq_true ht
         exact decide_eq_false (by omega)
        have hrf:refIn s a=false:=by rw[hE,ht2];rfl
        have hd:doAct s a=(s,3):=by simp[doAct,hok,hao,hkn1,hkn2,hrf]
        simp +contextual (disch:=omega) only[go_sem,e2,e3,e4,e6,e7,ld_ptr (H.pt 3 rfl),ld_ptr (H.pt 4 rfl),cr,cm,natOf_nat,C2,ho,b6,ht,Bool.true_xor,Bool.true_bne,Bool.not_true,Bool.not_false,ld_ptr (H.pt 0 rfl),seg_full gl,sr,ld_ptr zr]
        exact⟨_,rfl,es,by rw[hd],by rw[hd];exact(Hr.pick 1 rfl).one⟩
       |false=>
        have ht2:decide (s.cells[k].time<a.time)=true:=by
         have:=of_decide_eq_false ht
         exact decide_eq_true (by omega)
        have hri:refIn s a=true:=by rw[hE,ht2];rfl
        simp +contextual (disch:=omega) only[go_sem,e2,e3,e4,e6,e7,ld_ptr (H.pt 3 rfl),ld_ptr (H.pt 4 rfl),cr,cm,natOf_nat,C2,ho,b6,ht,Bool.true_xor,Bool.true_bne,Bool.not_true,Bool.not_false]
        refine hY _ _ ⟨?_,?_,?_,?_,?_,rfl,hri⟩
        all_goals simp +contextual (disch:=omega) only[go_sem,e2,e3,e4,e6,e7,hno]
      ·have b6:(a.kind==6)=false:=by simp[h6]
       have h7:a.kind=7:=by omega
       have hri:refIn s a=true:=by rw[hE,ho,decide_eq_true h7];rfl
       simp +contextual (disch:=omega) only[go_sem,e2,e3,e4,e6,e7,ld_ptr (H.pt 3 rfl),ld_ptr (H.pt 4 rfl),cr,cm,natOf_nat,C2,ho,b6,Bool.true_xor,Bool.true_bne,Bool.not_true,Bool.not_false]
       refine hY _ _ ⟨?_,?_,?_,?_,?_,rfl,hri⟩
       all_goals simp +contextual (disch:=omega) only[go_sem,e2,e3,e4,e6,e7,hno]) ?_
  clear e2 e3 e4 e6 e7
  rintro env τ' ⟨e2,e3,e4,e6,e7,rfl,hri⟩
  refine vc_seqX (fun env τ=>∃ n8 fs,fs.length=4∧env 2= .ptr n1 0∧env 3= .ptr n2 0∧env 4= .ptr n4 0∧env 6= .ptr n6 0∧env 7=gi (cellNo s.cells a.ref)∧env 8= .ptr n8 0∧Hp σ τ [pt 1 n8 fs,own kState fs s,pt 1 n6 es,own kState es s,pt 1 n4 [GV.nilS,GV.nilS,GV.nilS,GV.nilS],pt 1 n2 (actV a kv),pt 1 n1 [a1,b1,c1,v1]]) (fun Y hY=>by
   simp +contextual (disch:=omega) only[go_sem,e2,e3,e4,e6,e7,ld_ptr (H.pt 4 rfl),seg_full (cs:=[a1,b1,c1,v1]) rfl]
   obtain⟨fs,τ1,R1,K1⟩:=i_copyState_ret _ _ s (kState.pre hR0 H.sub) hl
   refine by_hp R1 K1 ?_
   have H:=H.add K1
   simp only[List.cons_append,List.nil_append] at H
   have gf:fs.length=4:=kState.len (K1.rd 0 rfl)
   have H:=H.new 1 fs
   simp +contextual (disch:=omega) only[go_sem,splice_full (cs:=[GV.nilS,GV.nilS,GV.nilS,GV.nilS]) gf rfl,gf,e2,e3,e4,e6,e7]
   refine hY _ _ ⟨τ1.length,fs,gf,?_,?_,?_,?_,?_,?_,H⟩
   all_goals simp +contextual (disch:=omega) only[go_sem,e2,e3,e4,e6,e7]) ?_
  clear H e2 e3 e4 e6 e7 CA
  rintro env τ ⟨n8,fs,gf,e2,e3,e4,e6,e7,e8,H⟩
  obtain⟨r,hr⟩:∃ r:Nat,a.dot.rep=(r:Int):=⟨a.dot.rep.toNat,by omega⟩
  have hrl:r<s.know.length:=by omega
  have hdo:doOne s a=doKind {s with know:=s.know.set r a.dot.seq} a:=by
   unfold doOne
   rw[hr];simp
  refine vc_seqX (fun env τ=>env 2= .ptr n1 0∧env 3= .ptr n2 0∧env 4= .ptr n4 0∧env 6= .ptr n6 0∧env 7=gi (cellNo s.cells a.ref)∧env 8= .ptr n8 0∧SPtr σ τ n8 {s with know:=s.know.set r a.dot.seq} [pt 1 n6 es,own kState es s,pt 1 n4 [GV.nilS,GV.nilS,GV.nilS,GV.nilS],pt 1 n2 (actV a kv),pt 1 n1 [a1,b1,c1,v1]]) (fun Y hY=>by
   obtain⟨u0,u1,u2,u3,H⟩:=ownSplit H
   have i0:iadG 1 u0 (some r)=some (atz 1 u0 r):=RdN.iad (H.sl 0 rfl) hrl
   have n0:natOf (some (.int .i64 a.dot.rep))=some r:=by rw[hr];exact natOf_nat
   obtain⟨τ1,st0,H1⟩:=H.stw 0 rfl (j:=r) hrl 1 (gi a.dot.seq) a.dot.seq rfl rfl (by decide)
   have st0:stG 1 _ (atz 1 u0 r) (.int .i64 a.dot.seq)=some (.tup [],τ1):=st0
   simp +contextual (disch:=omega) only[go_sem,e2,e3,e4,e6,e7,e8,ld_ptr (H.pt 4 rfl),ld_ptr (H.pt 8 rfl),n0,i0,st0]
   refine hY _ _ ⟨?_,?_,?_,?_,?_,?_,u0,u1,u2,u3,H1⟩
   all_goals simp +contextual (disch:=omega) only[go_sem,e2,e3,e4,e6,e7,e8]) ?_
  clear H e2 e3 e4 e6 e7 e8
  rintro env τ ⟨e2,e3,e4,e6,e7,e8,S1⟩
  refine vc_seqX (fun env τ=>env 2= .ptr n1 0∧env 3= .ptr n2 0∧env 4= .ptr n4 0∧env 6= .ptr n6 0∧env 8= .ptr n8 0∧SPtr σ τ n8 (doOne s a) [pt 1 n6 es,own kState es s,pt 1 n4 [GV.nilS,GV.nilS,GV.nilS,GV.nilS],pt 1 n2 (actV a kv),pt 1 n1 [a1,b1,c1,v1]]) (fun Y hY=>by
   obtain⟨u0,u1,u2,u3,H⟩:=S1
   have e89:=ld_ptr (a:=false) (n:=1) (off:=4) (H.pt 8 rfl)
   by_cases k1:a.kind=1
   ·have kb1:(a.kind==1)=true:=by simp[k1]
    have hd:doKind {s with know:=s.know.set r a.dot.seq} a={s with know:=s.know.set r a.dot.seq,tallies:=talPut s.tallies a.obj a.dot.rep a.val}:=by unfold doKind;rw[if_pos k1]
    obtain⟨w,τ2,R2,K2⟩:=i_withTally_ret τ b1 s.tallies (hb.pre H.sub) (zOk_pre hz3 H.sub) a.obj a.dot.rep a.val l2 (by omega) t2
    rw[talPut_eq ⟨f5,f6⟩ kf1] at K2
    have H2:=H.add K2
    simp only[List.cons_append,List.nil_append] at H2
    have cc:=(H2.sl 0 rfl).cell
    obtain⟨τ3,st3,H3,_⟩:=H2.st 5 rfl 1 1 w (by rw[cc];rfl) (by decide) (by simp)
    simp +contextual (disch:=omega) only[go_sem,e2,e3,e4,e6,e7,e8,e89,ld_ptr (H.pt 9 rfl),ld_ptr (H.pt 8 rfl),kb1]
    refine by_hp R2 K2 ?_
    simp +contextual (disch:=omega) only[go_sem,e2,e3,e4,e6,e7,e8,st3]
    refine hY _ _ ⟨?_,?_,?_,?_,?_,u0,w,u2,u3,?_⟩
    all_goals first|(simp +contextual (disch:=omega) only[go_sem,e2,e3,e4,e6,e7,e8];done)|skip
    simp only[cc,List.set_cons_zero,List.set_cons_succ,splice_succ,splice_cons,splice_nil] at H3
    rw[hdo,hd]
    exact Hp.moveTo H3 1 rfl
   have kb1:(a.kind==1)=false:=by simp[k1]
   by_cases k2:a.kind=2
   ·have kb2:(a.kind==2)=true:=by simp[k2]
    have hd:doKind {s with know:=s.know.set r a.dot.seq} a={s with know:=s.know.set r a.dot.seq,lives:=insLive ⟨false,a.obj,a.key,0,a.dot⟩ s.lives}:=by unfold doKind;rw[if_neg k1,if_pos k2]
    obtain⟨w,τ2,R2,K2⟩:=i_withLive_ret τ c1 s.lives (hc.pre H.sub) (zOk_pre hz6 H.sub) ⟨false,a.obj,a.key,0,a.dot⟩ l3
    rw[withLive_eq kf2 hkn1] at K2
    have H2:=H.add K2
    simp only[List.cons_append,List.nil_append] at H2
    have cc:=(H2.sl 0 rfl).cell
    obtain⟨τ3,st3,H3,_⟩:=H2.st 5 rfl 1 2 w (by rw[cc];rfl) (by decide) (by simp)
    simp +contextual (disch:=omega) only[go_sem,e2,e3,e4,e6,e7,e8,e89,ld_ptr (H.pt 9 rfl),ld_ptr (H.pt 8 rfl),kb1,kb2]
    refine by_hp R2 K2 ?_
    simp +contextual (disch:=omega) only[go_sem,e2,e3,e4,e6,e7,e8,st3]
    refine hY _ _ ⟨?_,?_,?_,?_,?_,u0,u1,w,u3,?_⟩
    all_goals first|(simp +contextual (disch:=omega) only[go_sem,e2,e3,e4,e6,e7,e8];done)|skip
    simp only[cc,List.set_cons_zero,List.set_cons_succ,splice_succ,splice_cons,splice_nil] at H3
    rw[hdo,hd]
    exact Hp.moveTo H3 2 rfl
   have kb2:(a.kind==2)=false:=by simp[k2]
   by_cases k3:a.kind=3
   ·have kb3:(a.kind==3)=true:=by simp[k3]
    have hd:doKind {s with know:=s.know.set r a.dot.seq} a={s with know:=s.know.set r a.dot.seq,lives:=s.lives.filter (keepL false a.obj a.key a.knew)}:=by unfold doKind;rw[if_neg k1,if_neg k2,if_pos k3]
    obtain⟨w,τ2,R2,K2⟩:=i_withoutKnown_ret τ c1 s.lives (hc.pre H.sub) false _ a (hS1 H.sub) l3 hm
    have H2:=H.add K2
    simp only[List.cons_append,List.nil_append] at H2
    have cc:=(H2.sl 0 rfl).cell
    obtain⟨τ3,st3,H3,_⟩:=H2.st 5 rfl 1 2 w (by rw[cc];rfl) (by decide) (by simp)
    simp +contextual (disch:=omega) only[go_sem,e2,e3,e4,e6,e7,e8,e89,ld_ptr (H.pt 9 rfl),ld_ptr (H.pt 8 rfl),seg_full (cs:=actV a kv) rfl,kb1,kb2,kb3]
    refine by_hp R2 K2 ?_
    simp +contextual (disch:=omega) only[go_sem,e2,e3,e4,e6,e7,e8,st3]
    refine hY _ _ ⟨?_,?_,?_,?_,?_,u0,u1,w,u3,?_⟩
    all_goals first|(simp +contextual (disch:=omega) only[go_sem,e2,e3,e4,e6,e7,e8];done)|skip
    simp only[cc,List.set_cons_zero,List.set_cons_succ,splice_succ,splice_cons,splice_nil] at H3
    rw[hdo,hd]
    exact Hp.moveTo H3 2 rfl
   have kb3:(a.kind==3)=false:=by simp[k3]
   by_cases k4:a.kind=4
   ·have kb4:(a.kind==4)=true:=by simp[k4]
    have hd:doKind {s with know:=s.know.set r a.dot.seq} a={s with know:=s.know.set r a.dot.seq,lives:=insLive ⟨true,a.obj,a.key,a.val,a.dot⟩ (s.lives.filter (keepL true a.obj a.key a.knew))}:=by unfold doKind;rw[if_neg k1,if_neg k2,if_neg k3,if_pos k4]
    obtain⟨y,τ2,R2,K2⟩:=i_withoutKnown_ret τ c1 s.lives (hc.pre H.sub) true _ a (hS1 H.sub) l3 hm
    have H2':=H.add K2
    simp only[List.cons_append,List.nil_append] at H2'
    have hfl:=List.length_filter_le (keepL true a.obj a.key a.knew) s.lives
    obtain⟨w,τ3',R3,K3⟩:=i_withLive_ret τ2 y _ (H2'.sl 0 rfl) (H2'.zok 0 rfl) ⟨true,a.obj,a.key,a.val,a.dot⟩ (by omega)
    rw[withLive_eq (fun y hy=>kf2 y (List.mem_filter.1 hy).1) hkn1] at K3
    have H2:=(H2'.drop1).add K3
    simp only[List.cons_append,List.nil_append] at H2
    have cc:=(H2.sl 0 rfl).cell
    obtain⟨τ3,st3,H3,_⟩:=H2.st 5 rfl 1 2 w (by rw[cc];rfl) (by decide) (by simp)
    simp +contextual (disch:=omega) only[go_sem,e2,e3,e4,e6,e7,e8,e89,ld_ptr (H.pt 9 rfl),ld_ptr (H.pt 8 rfl),seg_full (cs:=actV a kv) rfl,kb1,kb2,kb3,kb4]
    refine by_hp R2 K2 ?_
    simp +contextual (disch:=omega) only[go_sem,e2,e3,e4,e6,e7,e8,e89,ld_ptr (H2'.pt 9 rfl)]
    refine by_hp R3 K3 ?_
    simp +contextual (disch:=omega) only[go_sem,e2,e3,e4,e6,e7,e8,st3]
    refine hY _ _ ⟨?_,?_,?_,?_,?_,u0,u1,w,u3,?_⟩
    all_goals first|(simp +contextual (disch:=omega) only[go_sem,e2,e3,e4,e6,e7,e8];done)|skip
    simp only[cc,List.set_cons_zero,List.set_cons_succ,splice_succ,splice_cons,splice_nil] at H3
    rw[hdo,hd]
    exact Hp.moveTo H3 2 rfl
   have kb4:(a.kind==4)=false:=by simp[k4]
   by_cases k5:a.kind=5
   ·have kb5:(a.kind==5)=true:=by simp[k5]
    have hd:doKind {s with know:=s.know.set r a.dot.seq} a={s with know:=s.know.set r a.dot.seq,lives:=s.lives.filter (keepL true a.obj a.key a.knew)}:=by unfold doKind;rw[if_neg k1,if_neg k2,if_neg k3,if_neg k4,if_pos k5]
    obtain⟨w,τ2,R2,K2⟩:=i_withoutKnown_ret τ c1 s.lives (hc.pre H.sub) true _ a (hS1 H.sub) l3 hm
    have H2:=H.add K2
    simp only[List.cons_append,List.nil_append] at H2
    have cc:=(H2.sl 0 rfl).cell
    obtain⟨τ3,st3,H3,_⟩:=H2.st 5 rfl 1 2 w (by rw[cc];rfl) (by decide) (by simp)
    simp +contextual (disch:=omega) only[go_sem,e2,e3,e4,e6,e7,e8,e89,ld_ptr (H.pt 9 rfl),ld_ptr (H.pt 8 rfl),seg_full (cs:=actV a kv) rfl,kb1,kb2,kb3,kb4,kb5]
    refine by_hp R2 K2 ?_
    simp +contextual (disch:=omega) only[go_sem,e2,e3,e4,e6,e7,e8,st3]
    refine hY _ _ ⟨?_,?_,?_,?_,?_,u0,u1,w,u3,?_⟩
    all_goals first|(simp +contextual (disch:=omega) only[go_sem,e2,e3,e4,e6,e7,e8];done)|skip
    simp only[cc,List.set_cons_zero,List.set_cons_succ,splice_succ,splice_cons,splice_nil] at H3
    rw[hdo,hd]
    exact Hp.moveTo H3 2 rfl
   have kb5:(a.kind==5)=false:=by simp[k5]
   by_cases k6:a.kind=6
   ·have kb6:(a.kind==6)=true:=by simp[k6]
    have hd:doKind {s with know:=s.know.set r a.dot.seq} a={s with know:=s.know.set r a.dot.seq,cells:=insCell ⟨a.obj,a.dot,a.time,a.ref,a.val,false⟩ s.cells}:=by unfold doKind;rw[if_neg k1,if_neg k2,if_neg k3,if_neg k4,if_neg k5,if_pos k6]
    obtain⟨w,τ2,R2,K2⟩:=i_withCell_ret τ v1 s.cells (hv.pre H.sub) (zOk_pre hz8 H.sub) ⟨a.obj,a.dot,a.time,a.ref,a.val,false⟩ l4
    rw[withCell_eq kf3 hkn1] at K2
    have H2:=H.add K2
    simp only[List.cons_append,List.nil_append] at H2
    have cc:=(H2.sl 0 rfl).cell
    obtain⟨τ3,st3,H3,_⟩:=H2.st 5 rfl 1 3 w (by rw[cc];rfl) (by decide) (by simp)
    simp +contextual (disch:=omega) only[go_sem,e2,e3,e4,e6,e7,e8,e89,ld_ptr (H.pt 9 rfl),ld_ptr (H.pt 8 rfl),kb1,kb2,kb3,kb4,kb5,kb6]
    refine by_hp R2 K2 ?_
    simp +contextual (disch:=omega) only[go_sem,e2,e3,e4,e6,e7,e8,st3]
    refine hY _ _ ⟨?_,?_,?_,?_,?_,u0,u1,u2,w,?_⟩
    all_goals first|(simp +contextual (disch:=omega) only[go_sem,e2,e3,e4,e6,e7,e8];done)|skip
    simp only[cc,List.set_cons_zero,List.set_cons_succ,splice_succ,splice_cons,splice_nil] at H3
    rw[hdo,hd]
    exact Hp.moveTo H3 3 rfl
   have kb6:(a.kind==6)=false:=by simp[k6]
   have k7:a.kind=7:=by omega
   have kb7:(a.kind==7)=true:=by simp[k7]
   have hd:doKind {s with know:=s.know.set r a.dot.seq} a={s with know:=s.know.set r a.dot.seq,cells:=goneAt s.cells a.ref}:=by unfold doKind;rw[if_neg k1,if_neg k2,if_neg k3,if_neg k4,if_neg k5,if_neg k6]
   cases hx:cellIx s.cells a.ref with
   |none=>simp[refIn,k7,hx] at hri
   |some k=>
    obtain⟨hkl2,hke⟩:=cellIx_some hx
    have hno:cellNo s.cells a.ref=k:=by simp[cellNo,hx]
    rw[hno] at e7
    have C2:=Cell_at (H.sl 3 rfl) hkl2
    obtain⟨τ2,st2,H2⟩:=H.ste 3 rfl hkl2 1 7 (.bool true) {s.cells[k] with gone:=true} rfl (by decide) (by decide) rfl
    have st2:stG 1 τ (fld 7 (atz 8 u3 k)) (.bool true)=some (.tup [],τ2):=st2
    simp +contextual (disch:=omega) only[go_sem,e2,e3,e4,e6,e7,e8,kb1,kb2,kb3,kb4,kb5,kb6,kb7,ld_ptr (H.pt 8 rfl),ld_ptr (H.pt 4 rfl),natOf_nat,C2,st2]
    refine hY _ _ ⟨?_,?_,?_,?_,?_,u0,u1,u2,u3,?_⟩
    all_goals first|(simp +contextual (disch:=omega) only[go_sem,e2,e3,e4,e6,e7,e8];done)|skip
    have hE:goneAt s.cells a.ref=s.cells.set k {s.cells[k] with gone:=true}:=by
     unfold goneAt
     rw[hx]
     exact modify_set _ hkl2
    rw[hdo,hd,hE]
    exact H2) ?_
  clear e2 e3 e4 e6 e7 e8 S1
  rintro env τ ⟨e2,e3,e4,e6,e8,S1⟩
  obtain⟨w0,w1,w2,w3,z6,q1,q2,q3,H3⟩:=S1.own
  have TM:=i_tooMany_ret τ [w0,w1,w2,w3] (doOne s a) (H3.rd 0 rfl)
  simp +contextual (disch:=omega) only[go_sem,e2,e3,e4,e6,e8,ld_ptr z6,seg_full (cs:=[w0,w1,w2,w3]) rfl]
  refine by_bool TM (fun ht=> ?_) (fun ht=> ?_)
  ·have hd:doAct s a=(s,4):=by simp[doAct,hok,hao,hkn1,hkn2,hri,ht]
   obtain⟨τ5,s5,H5,_⟩:=H3.st 3 rfl 4 0 (.agg es) gl (by decide) (by simp)
   have z5:rdB τ5 n4=some (splice [GV.nilS,GV.nilS,GV.nilS,GV.nilS] 0 es):=H5.pt 3 rfl
   rw[splice_full gl rfl] at z5
   simp +contextual (disch:=omega) only[go_sem,e2,e3,e4,e6,e8,ld_ptr (H3.pt 1 rfl),seg_full gl,s5,ld_ptr z5]
   exact⟨_,rfl,es,by rw[hd],by rw[hd];exact(H5.pick 2 rfl).one⟩
  ·have hd:doAct s a=(doOne s a,0):=by simp[doAct,hok,hao,hkn1,hkn2,hri,ht]
   obtain⟨τ5,s5,H5,_⟩:=H3.st 3 rfl 4 0 (.agg [w0,w1,w2,w3]) rfl (by decide) (by simp)
   have z5:rdB τ5 n4=some [w0,w1,w2,w3]:=H5.pt 3 rfl
   simp +contextual (disch:=omega) only[go_sem,e2,e3,e4,e6,e8,ld_ptr z6,seg_full (cs:=[w0,w1,w2,w3]) rfl,s5,ld_ptr z5]
   exact⟨_,rfl,_,by rw[hd],by rw[hd];exact H5.one⟩
 obtain⟨q,τ,R,ds,rfl,h⟩:=key
 exact⟨ds,τ,R,h⟩
end Go.Proofs.YtffnefmklckngaaGreat.Sy
namespace Go.Proofs.YtffnefmklckngaaGreat.Sy
open Go Go.RowKit
set_option linter.unusedSimpArgs false
set_option linter.unusedVariables false
set_option maxRecDepth 4000
abbrev n_i_rowCells:Nat:=134
def F_i_rowCells:Fn1:=⟨34,[.t 4],(.seq (.reg [o 2 (.box (.t 0)),o 4 (.mov (.k .nilS))]) (.seq (.reg [o 9 (.lit 8 0 [] []),o 5 (.mov (.t 9))]) (.seq (.seq (.reg [o 10 (.ld true 4 (.t 2)),o 11 (.mov (.t 1)),o 12 (.call 193 [(.t 10),(.t 11)]),o 13 (.len false (.t 12)),o 14 (.mov (.k (.int .i64 0)))]) (.blk 0 (.lop (.seq (.reg [o 15 (.bin .lss (.t 14) (.t 13))]) (.seq (.cnd (.t 15) .skip (.ext 0)) (.seq (.blk 1 (.seq (.reg [o 16 (.iad 2 (.t 12) (.t 14)),o 17 (.ld true 2 (.t 16)),o 7 (.new [(.int .i64 0),(.int .i64 0)]),on (.st 2 (.t 7) (.t 17))]) (.seq (.drw [o 18 (.fad 3 (.t 2)),o 19 (.ld false 1 (.t 18)),o 20 (.ld true 4 (.t 2)),o 21 (.ld true 2 (.t 7)),o 22 (.call 152 [(.t 20),(.t 21)]),o 23 (.iad 8 (.t 19) (.t 22)),o 24 (.ld true 8 (.t 23)),o 8 (.new [(.str ⟨#[]⟩),(.int .i64 0),(.int .i64 0),(.int .i64 0),(.int .i64 0),(.int .i64 0),(.int .i64 0),(.bool false)])] [on (.st 8 (.t 8) (.t 24))]) (.seq (.reg [o 25 (.fad 7 (.t 8)),o 26 (.ld false 1 (.t 25)),o 27 (.un .not (.t 26))]) (.cnd (.t 27) (.reg [o 28 (.mov (.t 5)),o 29 (.ld true 8 (.t 8)),o 30 (.lit 8 1 [(.str ⟨#[]⟩),(.int .i64 0),(.int .i64 0),(.int .i64 0),(.int .i64 0),(.int .i64 0),(.int .i64 0),(.bool false)] [(0,8,(.t 29))]),o 31 (.app 8 72 [(.str ⟨#[]⟩),(.int .i64 0),(.int .i64 0),(.int .i64 0),(.int .i64 0),(.int .i64 0),(.int .i64 0),(.bool false)] (.t 28) (.t 30)),o 5 (.mov (.t 31))]) .skip))))) (.reg [o 32 (.bin .add (.t 14) (.k (.int .i64 1))),o 14 (.mov (.t 32))]))))))) (.seq (.reg [o 33 (.mov (.t 5)),o 4 (.mov (.t 33))]) .ret))))⟩
def goneNot (c:Cell):Bool:= !c.gone
end Go.Proofs.YtffnefmklckngaaGreat.Sy
namespace Go.Proofs.YtffnefmklckngaaGreat.Sy
open Go Go.RowKit
set_option linter.unusedSimpArgs false
set_option linter.unusedVariables false
set_option maxRecDepth 4000
abbrev n_s_EditOk:Nat:=138
def F_s_EditOk:Fn1:=⟨34,[.t 2],(.seq (.reg [o 1 (.box (.t 0)),o 2 (.mov (.k (.bool false)))]) (.seq (.reg [o 4 (.fad 0 (.t 1)),o 5 (.ld false 1 (.t 4)),o 6 (.bin .eql (.t 5) (.k (.int .i64 6))),o 7 (.mov (.t 6)),og 8 7 false (.fad 0 (.t 1)),og 9 7 false (.ld false 1 (.t 8)),og 10 7 false (.bin .eql (.t 9) (.k (.int .i64 7))),o 11 (.pick (.t 7) (.k (.bool true)) (.t 10)),o 3 (.mov (.t 11))]) (.seq (.reg [o 12 (.fad 0 (.t 1)),o 13 (.ld false 1 (.t 12)),o 14 (.fad 1 (.t 1)),o 15 (.ld false 1 (.t 14)),o 16 (.fad 2 (.t 1)),o 17 (.ld false 1 (.t 16)),o 18 (.fad 3 (.t 1)),o 19 (.ld false 1 (.t 18)),o 20 (.call 168 [(.t 13),(.t 15),(.t 17),(.t 19)]),o 21 (.mov (.t 20)),og 22 21 true (.fad 4 (.t 1)),og 23 21 true (.ld false 1 (.t 22)),og 24 21 true (.bin .geq (.t 23) (.k (.int .i64 0))),o 25 (.pick (.t 21) (.t 24) (.k (.bool false))),o 26 (.mov (.t 25)),og 27 26 true (.mov (.t 3)),og 28 26 true (.mov (.t 27)),og 29 28 false (.fad 4 (.t 1)),og 30 28 false (.ld false 1 (.t 29)),og 31 28 false (.bin .eql (.t 30) (.k (.int .i64 0))),og 32 26 true (.pick (.t 28) (.k (.bool true)) (.t 31)),o 33 (.pick (.t 26) (.t 32) (.k (.bool false))),o 2 (.mov (.t 33))]) .ret)))⟩
abbrev n_i_EditOk:Nat:=147
def F_i_EditOk:Fn1:=⟨32,[.t 2],(.seq (.reg [o 1 (.box (.t 0)),o 2 (.mov (.k (.bool false)))]) (.seq (.reg [o 3 (.fad 0 (.t 1)),o 4 (.ld false 1 (.t 3)),o 5 (.fad 1 (.t 1)),o 6 (.ld false 1 (.t 5)),o 7 (.fad 2 (.t 1)),o 8 (.ld false 1 (.t 7)),o 9 (.fad 3 (.t 1)),o 10 (.ld false 1 (.t 9)),o 11 (.call 177 [(.t 4),(.t 6),(.t 8),(.t 10)]),o 12 (.mov (.t 11)),og 13 12 true (.fad 4 (.t 1)),og 14 12 true (.ld false 1 (.t 13)),og 15 12 true (.bin .eql (.t 14) (.k (.int .i64 0))),og 16 12 true (.mov (.t 15)),og 17 16 false (.fad 4 (.t 1)),og 18 16 false (.ld false 1 (.t 17)),og 19 16 false (.bin .gtr (.t 18) (.k (.int .i64 0))),og 20 16 false (.mov (.t 19)),og 21 20 true (.fad 0 (.t 1)),og 22 20 true (.ld false 1 (.t 21)),og 23 20 true (.bin .eql (.t 22) (.k (.int .i64 6))),og 24 20 true (.mov (.t 23)),og 25 24 false (.fad 0 (.t 1)),og 26 24 false (.ld false 1 (.t 25)),og 27 24 false (.bin .eql (.t 26) (.k (.int .i64 7))),og 28 20 true (.pick (.t 24) (.k (.bool true)) (.t 27)),og 29 16 false (.pick (.t 20) (.t 28) (.k (.bool false))),og 30 12 true (.pick (.t 16) (.k (.bool true)) (.t 29)),o 31 (.pick (.t 12) (.t 30) (.k (.bool false))),o 2 (.mov (.t 31))]) .ret))⟩
abbrev n_s_PlaceIn:Nat:=140
def F_s_PlaceIn:Fn1:=⟨42,[.c 6 true 2,.t 7],(.seq (.reg [o 3 (.box (.t 0)),o 6 (.new [(.int .i64 0),(.int .i64 0)]),o 7 (.mov (.k (.bool false)))]) (.seq (.seq (.reg [o 10 (.ld true 4 (.t 3)),o 11 (.call 125 [(.t 10)]),o 12 (.un .not (.t 11)),o 13 (.mov (.t 12)),og 14 13 false (.mov (.t 2)),og 15 13 false (.bin .lss (.t 14) (.k (.int .i64 0))),o 16 (.pick (.t 13) (.k (.bool true)) (.t 15))]) (.cnd (.t 16) (.seq (.reg [o 17 (.build [(.int .i64 0),(.int .i64 0)] []),on (.st 2 (.t 6) (.t 17)),o 7 (.mov (.k (.bool false)))]) .ret) .skip)) (.seq (.reg [o 18 (.ld true 4 (.t 3)),o 19 (.mov (.t 1)),o 20 (.call 126 [(.t 18),(.t 19)]),o 8 (.mov (.t 20))]) (.seq (.seq (.reg [o 9 (.mov (.k (.int .i64 0)))]) (.blk 0 (.lop (.seq (.seq (.reg [o 21 (.mov (.t 9)),o 22 (.mov (.t 8)),o 23 (.len false (.t 22)),o 24 (.bin .lss (.t 21) (.t 23))]) (.cnd (.t 24) .skip (.ext 0))) (.seq (.blk 1 (.seq (.seq (.reg [o 27 (.mov (.t 8)),o 28 (.mov (.t 9)),o 29 (.iad 8 (.t 27) (.t 28)),o 30 (.fad 7 (.t 29)),o 31 (.ld false 1 (.t 30))]) (.cnd (.t 31) (.ext 1) .skip)) (.seq (.seq (.reg [o 32 (.mov (.t 2)),o 33 (.bin .eql (.t 32) (.k (.int .i64 0)))]) (.cnd (.t 33) (.seq (.reg [o 34 (.mov (.t 8)),o 35 (.mov (.t 9)),o 36 (.iad 8 (.t 34) (.t 35)),o 37 (.fad 1 (.t 36)),o 38 (.ld true 2 (.t 37)),on (.st 2 (.t 6) (.t 38)),o 7 (.mov (.k (.bool true)))]) .ret) .skip)) (.reg [o 39 (.mov (.t 2)),o 40 (.bin .sub (.t 39) (.k (.int .i64 1))),o 2 (.mov (.t 40))])))) (.reg [o 25 (.mov (.t 9)),o 26 (.bin .add (.t 25) (.k (.int .i64 1))),o 9 (.mov (.t 26))])))))) (.seq (.reg [o 41 (.build [(.int .i64 0),(.int .i64 0)] []),on (.st 2 (.t 6) (.t 41)),o 7 (.mov (.k (.bool false)))]) .ret)))))⟩
abbrev n_i_PlaceIn:Nat:=149
def F_i_PlaceIn:Fn1:=⟨24,[.c 6 true 2,.t 7],(.seq (.reg [o 3 (.box (.t 0)),o 6 (.new [(.int .i64 0),(.int .i64 0)]),o 7 (.mov (.k (.bool false)))]) (.seq (.reg [o 9 (.ld true 4 (.t 3)),o 10 (.mov (.t 1)),o 11 (.call 134 [(.t 9),(.t 10)]),o 8 (.mov (.t 11))]) (.seq (.seq (.reg [o 12 (.mov (.t 2)),o 13 (.mov (.t 8)),o 14 (.len false (.t 13)),o 15 (.bin .sub (.t 14) (.k (.int .i64 1))),o 16 (.call 148 [(.t 12),(.k (.int .i64 0)),(.t 15)]),o 17 (.un .not (.t 16))]) (.cnd (.t 17) (.seq (.reg [o 18 (.build [(.int .i64 0),(.int .i64 0)] []),on (.st 2 (.t 6) (.t 18)),o 7 (.mov (.k (.bool false)))]) .ret) .skip)) (.seq (.reg [o 19 (.mov (.t 8)),o 20 (.mov (.t 2)),o 21 (.iad 8 (.t 19) (.t 20)),o 22 (.fad 1 (.t 21)),o 23 (.ld true 2 (.t 22)),on (.st 2 (.t 6) (.t 23)),o 7 (.mov (.k (.bool true)))]) .ret))))⟩
def editOk (e:Edit):Bool:=plainOk e.kind e.obj e.key e.val&&(decide (0≤e.place)&&((e.kind==6||e.kind==7)||e.place==0))
def placeIn (s:State) (o:ByteArray) (i:Int):Dot×Bool:=if h:0≤i∧i.toNat<(rowL s o).length then((rowL s o)[i.toNat].dot,true) else(⟨0,0⟩,false)
end Go.Proofs.YtffnefmklckngaaGreat.Sy
namespace Go.Proofs.YtffnefmklckngaaGreat.Sy
open Go Go.RowKit
set_option linter.unusedSimpArgs false
set_option linter.unusedVariables false
set_option maxRecDepth 4000
abbrev n_s_ActOf:Nat:=90
def F_s_ActOf:Fn1:=⟨98,[.c 8 true 10,.t 9],(.seq (.reg [o 4 (.box (.t 0)),o 7 (.box (.t 3)),o 8 (.new [(.int .i64 0),(.int .i64 0),(.int .i64 0),.nilS,(.int .i64 0),(.str ⟨#[]⟩),(.str ⟨#[]⟩),(.int .i64 0),(.int .i64 0),(.int .i64 0)]),o 9 (.mov (.k (.int .i64 0)))]) (.seq (.seq (.reg [o 12 (.ld true 4 (.t 4)),o 13 (.call 125 [(.t 12)]),o 14 (.un .not (.t 13)),o 15 (.mov (.t 14)),og 16 15 false (.ld true 5 (.t 7)),og 17 15 false (.call 138 [(.t 16)]),og 18 15 false (.un .not (.t 17)),o 19 (.pick (.t 15) (.k (.bool true)) (.t 18)),o 20 (.mov (.t 19)),og 21 20 false (.mov (.t 1)),og 22 20 false (.call 139 [(.t 21),(.k (.int .i64 0)),(.k (.int .i64 2))]),og 23 20 false (.un .not (.t 22)),o 24 (.pick (.t 20) (.k (.bool true)) (.t 23)),o 25 (.mov (.t 24)),og 26 25 false (.mov (.t 2)),og 27 25 false (.call 139 [(.t 26),(.k (.int .i64 1)),(.k (.int .i64 10000))]),og 28 25 false (.un .not (.t 27)),o 29 (.pick (.t 25) (.k (.bool true)) (.t 28))]) (.cnd (.t 29) (.seq (.reg [o 30 (.build [(.int .i64 0),(.int .i64 0),(.int .i64 0),.nilS,(.int .i64 0),(.str ⟨#[]⟩),(.str ⟨#[]⟩),(.int .i64 0),(.int .i64 0),(.int .i64 0)] []),on (.st 10 (.t 8) (.t 30)),o 9 (.mov (.k (.int .i64 3)))]) .ret) .skip)) (.seq (.drw [o 31 (.mov (.t 1)),o 32 (.fad 0 (.t 4)),o 33 (.ld false 1 (.t 32)),o 34 (.mov (.t 1)),o 35 (.iad 1 (.t 33) (.t 34)),o 36 (.ld false 1 (.t 35)),o 37 (.bin .add (.t 36) (.k (.int .i64 1))),o 38 (.build [(.int .i64 0),(.int .i64 0)] [(0,1,(.t 31)),(1,1,(.t 37))]),o 39 (.mov (.t 2)),o 40 (.lit 1 0 [] []),o 41 (.fad 0 (.t 4)),o 42 (.ld false 1 (.t 41)),o 43 (.app 1 8 [(.int .i64 0)] (.t 40) (.t 42)),o 44 (.fad 0 (.t 7)),o 45 (.ld false 1 (.t 44)),o 46 (.fad 1 (.t 7)),o 47 (.ld false 1 (.t 46)),o 48 (.fad 2 (.t 7)),o 49 (.ld false 1 (.t 48)),o 50 (.fad 3 (.t 7)),o 51 (.ld false 1 (.t 50)),o 52 (.build [(.int .i64 0),(.int .i64 0),(.int .i64 0),.nilS,(.int .i64 0),(.str ⟨#[]⟩),(.str ⟨#[]⟩),(.int .i64 0),(.int .i64 0),(.int .i64 0)] [(0,2,(.t 38)),(2,1,(.t 39)),(3,1,(.t 43)),(4,1,(.t 45)),(5,1,(.t 47)),(6,1,(.t 49)),(7,1,(.t 51))]),o 10 (.new [(.int .i64 0),(.int .i64 0),(.int .i64 0),.nilS,(.int .i64 0),(.str ⟨#[]⟩),(.str ⟨#[]⟩),(.int .i64 0),(.int .i64 0),(.int .i64 0)])] [on (.st 10 (.t 10) (.t 52))]) (.seq (.reg [o 11 (.mov (.k (.bool true)))]) (.seq (.seq (.reg [o 53 (.fad 0 (.t 7)),o 54 (.ld false 1 (.t 53)),o 55 (.bin .eql (.t 54) (.k (.int .i64 7)))]) (.cnd (.t 55) (.reg [o 57 (.ld true 4 (.t 4)),o 58 (.fad 1 (.t 7)),o 59 (.ld false 1 (.t 58)),o 60 (.fad 4 (.t 7)),o 61 (.ld false 1 (.t 60)),o 62 (.call 140 [(.t 57),(.t 59),(.t 61)]),o 56 (.mov (.t 62)),o 63 (.ext 0 (.t 56)),o 64 (.ext 1 (.t 56)),o 65 (.fad 8 (.t 10)),on (.st 2 (.t 65) (.t 63)),o 11 (.mov (.t 64))]) .skip)) (.seq (.seq (.reg [o 66 (.fad 0 (.t 7)),o 67 (.ld false 1 (.t 66)),o 68 (.bin .eql (.t 67) (.k (.int .i64 6))),o 69 (.mov (.t 68)),og 70 69 true (.fad 4 (.t 7)),og 71 69 true (.ld false 1 (.t 70)),og 72 69 true (.bin .gtr (.t 71) (.k (.int .i64 0))),o 73 (.pick (.t 69) (.t 72) (.k (.bool false)))]) (.cnd (.t 73) (.reg [o 75 (.ld true 4 (.t 4)),o 76 (.fad 1 (.t 7)),o 77 (.ld false 1 (.t 76)),o 78 (.fad 4 (.t 7)),o 79 (.ld false 1 (.t 78)),o 80 (.bin .sub (.t 79) (.k (.int .i64 1))),o 81 (.call 140 [(.t 75),(.t 77),(.t 80)]),o 74 (.mov (.t 81)),o 82 (.ext 0 (.t 74)),o 83 (.ext 1 (.t 74)),o 84 (.fad 8 (.t 10)),on (.st 2 (.t 84) (.t 82)),o 11 (.mov (.t 83))]) .skip)) (.seq (.seq (.reg [o 85 (.fad 0 (.t 10)),o 86 (.ld true 2 (.t 85)),o 87 (.call 141 [(.t 86)]),o 88 (.un .not (.t 87))]) (.cnd (.t 88) (.seq (.reg [o 89 (.build [(.int .i64 0),(.int .i64 0),(.int .i64 0),.nilS,(.int .i64 0),(.str ⟨#[]⟩),(.str ⟨#[]⟩),(.int .i64 0),(.int .i64 0),(.int .i64 0)] []),on (.st 10 (.t 8) (.t 89)),o 9 (.mov (.k (.int .i64 3)))]) .ret) .skip)) (.seq (.seq (.reg [o 90 (.mov (.t 11)),o 91 (.un .not (.t 90))]) (.cnd (.t 91) (.seq (.reg [o 92 (.build [(.int .i64 0),(.int .i64 0),(.int .i64 0),.nilS,(.int .i64 0),(.str ⟨#[]⟩),(.str ⟨#[]⟩),(.int .i64 0),(.int .i64 0),(.int .i64 0)] []),on (.st 10 (.t 8) (.t 92)),o 9 (.mov (.k (.int .i64 5)))]) .ret) .skip)) (.seq (.seq (.reg [o 93 (.ld true 10 (.t 10)),o 94 (.call 105 [(.t 93)]),o 95 (.un .not (.t 94))]) (.cnd (.t 95) (.seq (.reg [o 96 (.build [(.int .i64 0),(.int .i64 0),(.int .i64 0),.nilS,(.int .i64 0),(.str ⟨#[]⟩),(.str ⟨#[]⟩),(.int .i64 0),(.int .i64 0),(.int .i64 0)] []),on (.st 10 (.t 8) (.t 96)),o 9 (.mov (.k (.int .i64 3)))]) .ret) .skip)) (.seq (.reg [o 97 (.ld true 10 (.t 10)),on (.st 10 (.t 8) (.t 97)),o 9 (.mov (.k (.int .i64 0)))]) .ret))))))))))⟩
def placeOf (s:State) (e:Edit):Dot×Bool:=if e.kind=7 then placeIn s e.obj e.place else if e.kind=6∧0<e.place then placeIn s e.obj (e.place - 1) else(d0,true)
def act0:Act:=⟨d0,0,[],0,⟨#[]⟩,⟨#[]⟩,0,d0⟩
def actWith (s:State) (rep time:Int) (e:Edit) (d:Dot):Act:=⟨⟨rep,at0 s.know rep+1⟩,time,s.know,e.kind,e.obj,e.key,e.val,d⟩
def actRaw (s:State) (rep time:Int) (e:Edit):Act:=actWith s rep time e (placeOf s e).1
abbrev awV (s:State) (rep time:Int) (e:Edit) (kv:GV) (d:Dot):List GV:=[gi rep,gi (at0 s.know rep+1),gi time,kv,gi e.kind,.str e.obj,.str e.key,gi e.val,gi d.rep,gi d.seq]
def actOf (s:State) (rep time:Int) (e:Edit):Act×Int:=
 if stateOk s&&(editOk e&&(inB rep 0 2&&inB time 1 10000)) then
  if dotOk ⟨rep,at0 s.know rep+1⟩ then
   if(placeOf s e).2 then
    if actOk (actRaw s rep time e) then(actRaw s rep time e,0) else(act0,3)
   else(act0,5)
  else(act0,3)
 else(act0,3)
abbrev edV (e:Edit):List GV:=[gi e.kind,.str e.obj,.str e.key,gi e.val,gi e.place]
abbrev zeV:List GV:=[gi 0,gi 0,gi 0,GV.nilS,gi 0,.str ⟨#[]⟩,.str ⟨#[]⟩,gi 0,gi 0,gi 0]
end Go.Proofs.YtffnefmklckngaaGreat.Sy
namespace Go.Proofs.YtffnefmklckngaaGreat.Sy
open Go Go.RowKit
set_option linter.unusedSimpArgs false
set_option linter.unusedVariables false
set_option maxRecDepth 4000
abbrev n_i_ActOf:Nat:=94
def F_i_ActOf:Fn1:=⟨102,[.c 8 true 10,.t 9],(.seq (.reg [o 4 (.box (.t 0)),o 7 (.box (.t 3)),o 8 (.new [(.int .i64 0),(.int .i64 0),(.int .i64 0),.nilS,(.int .i64 0),(.str ⟨#[]⟩),(.str ⟨#[]⟩),(.int .i64 0),(.int .i64 0),(.int .i64 0)]),o 9 (.mov (.k (.int .i64 0)))]) (.seq (.seq (.reg [o 12 (.ld true 4 (.t 4)),o 13 (.call 146 [(.t 12)]),o 14 (.un .not (.t 13)),o 15 (.mov (.t 14)),og 16 15 false (.ld true 5 (.t 7)),og 17 15 false (.call 147 [(.t 16)]),og 18 15 false (.un .not (.t 17)),o 19 (.pick (.t 15) (.k (.bool true)) (.t 18)),o 20 (.mov (.t 19)),og 21 20 false (.mov (.t 1)),og 22 20 false (.call 148 [(.t 21),(.k (.int .i64 0)),(.k (.int .i64 2))]),og 23 20 false (.un .not (.t 22)),o 24 (.pick (.t 20) (.k (.bool true)) (.t 23)),o 25 (.mov (.t 24)),og 26 25 false (.mov (.t 2)),og 27 25 false (.call 148 [(.t 26),(.k (.int .i64 1)),(.k (.int .i64 10000))]),og 28 25 false (.un .not (.t 27)),o 29 (.pick (.t 25) (.k (.bool true)) (.t 28)),o 30 (.mov (.t 29)),og 31 30 false (.fad 0 (.t 4)),og 32 30 false (.ld false 1 (.t 31)),og 33 30 false (.mov (.t 1)),og 34 30 false (.iad 1 (.t 32) (.t 33)),og 35 30 false (.ld false 1 (.t 34)),og 36 30 false (.bin .geq (.t 35) (.k (.int .i64 1000))),o 37 (.pick (.t 30) (.k (.bool true)) (.t 36))]) (.cnd (.t 37) (.seq (.reg [o 38 (.build [(.int .i64 0),(.int .i64 0),(.int .i64 0),.nilS,(.int .i64 0),(.str ⟨#[]⟩),(.str ⟨#[]⟩),(.int .i64 0),(.int .i64 0),(.int .i64 0)] []),on (.st 10 (.t 8) (.t 38)),o 9 (.mov (.k (.int .i64 3)))]) .ret) .skip)) (.seq (.drw [o 39 (.mov (.t 1)),o 40 (.fad 0 (.t 4)),o 41 (.ld false 1 (.t 40)),o 42 (.mov (.t 1)),o 43 (.iad 1 (.t 41) (.t 42)),o 44 (.ld false 1 (.t 43)),o 45 (.bin .add (.t 44) (.k (.int .i64 1))),o 46 (.build [(.int .i64 0),(.int .i64 0)] [(0,1,(.t 39)),(1,1,(.t 45))]),o 47 (.mov (.t 2)),o 48 (.fad 0 (.t 4)),o 49 (.ld false 1 (.t 48)),o 50 (.call 113 [(.t 49)]),o 51 (.fad 0 (.t 7)),o 52 (.ld false 1 (.t 51)),o 53 (.fad 1 (.t 7)),o 54 (.ld false 1 (.t 53)),o 55 (.fad 2 (.t 7)),o 56 (.ld false 1 (.t 55)),o 57 (.fad 3 (.t 7)),o 58 (.ld false 1 (.t 57)),o 59 (.build [(.int .i64 0),(.int .i64 0),(.int .i64 0),.nilS,(.int .i64 0),(.str ⟨#[]⟩),(.str ⟨#[]⟩),(.int .i64 0),(.int .i64 0),(.int .i64 0)] [(0,2,(.t 46)),(2,1,(.t 47)),(3,1,(.t 50)),(4,1,(.t 52)),(5,1,(.t 54)),(6,1,(.t 56)),(7,1,(.t 58))]),o 10 (.new [(.int .i64 0),(.int .i64 0),(.int .i64 0),.nilS,(.int .i64 0),(.str ⟨#[]⟩),(.str ⟨#[]⟩),(.int .i64 0),(.int .i64 0),(.int .i64 0)])] [on (.st 10 (.t 10) (.t 59))]) (.seq (.reg [o 11 (.mov (.k (.bool true)))]) (.seq (.blk 0 (.seq (.reg [o 61 (.fad 0 (.t 7)),o 62 (.ld false 1 (.t 61)),o 63 (.bin .eql (.t 62) (.k (.int .i64 6))),o 64 (.mov (.t 63)),og 65 64 true (.fad 4 (.t 7)),og 66 64 true (.ld false 1 (.t 65)),og 67 64 true (.bin .gtr (.t 66) (.k (.int .i64 0))),o 68 (.pick (.t 64) (.t 67) (.k (.bool false))),o 60 (.mov (.t 68))]) (.cnd (.t 60) (.reg [o 70 (.ld true 4 (.t 4)),o 71 (.fad 1 (.t 7)),o 72 (.ld false 1 (.t 71)),o 73 (.fad 4 (.t 7)),o 74 (.ld false 1 (.t 73)),o 75 (.bin .sub (.t 74) (.k (.int .i64 1))),o 76 (.call 149 [(.t 70),(.t 72),(.t 75)]),o 69 (.mov (.t 76)),o 77 (.ext 0 (.t 69)),o 78 (.ext 1 (.t 69)),o 79 (.fad 8 (.t 10)),on (.st 2 (.t 79) (.t 77)),o 11 (.mov (.t 78))]) (.seq (.reg [o 81 (.fad 0 (.t 7)),o 82 (.ld false 1 (.t 81)),o 83 (.bin .eql (.t 82) (.k (.int .i64 7))),o 80 (.mov (.t 83))]) (.cnd (.t 80) (.reg [o 85 (.ld true 4 (.t 4)),o 86 (.fad 1 (.t 7)),o 87 (.ld false 1 (.t 86)),o 88 (.fad 4 (.t 7)),o 89 (.ld false 1 (.t 88)),o 90 (.call 149 [(.t 85),(.t 87),(.t 89)]),o 84 (.mov (.t 90)),o 91 (.ext 0 (.t 84)),o 92 (.ext 1 (.t 84)),o 93 (.fad 8 (.t 10)),on (.st 2 (.t 93) (.t 91)),o 11 (.mov (.t 92))]) .skip))))) (.seq (.seq (.reg [o 94 (.mov (.t 11)),o 95 (.un .not (.t 94))]) (.cnd (.t 95) (.seq (.reg [o 96 (.build [(.int .i64 0),(.int .i64 0),(.int .i64 0),.nilS,(.int .i64 0),(.str ⟨#[]⟩),(.str ⟨#[]⟩),(.int .i64 0),(.int .i64 0),(.int .i64 0)] []),on (.st 10 (.t 8) (.t 96)),o 9 (.mov (.k (.int .i64 5)))]) .ret) .skip)) (.seq (.seq (.reg [o 97 (.ld true 10 (.t 10)),o 98 (.call 111 [(.t 97)]),o 99 (.un .not (.t 98))]) (.cnd (.t 99) (.seq (.reg [o 100 (.build [(.int .i64 0),(.int .i64 0),(.int .i64 0),.nilS,(.int .i64 0),(.str ⟨#[]⟩),(.str ⟨#[]⟩),(.int .i64 0),(.int .i64 0),(.int .i64 0)] []),on (.st 10 (.t 8) (.t 100)),o 9 (.mov (.k (.int .i64 3)))]) .ret) .skip)) (.seq (.reg [o 101 (.ld true 10 (.t 10)),on (.st 10 (.t 8) (.t 101)),o 9 (.mov (.k (.int .i64 0)))]) .ret))))))))⟩
end Go.Proofs.YtffnefmklckngaaGreat.Sy
namespace Go.Proofs.YtffnefmklckngaaGreat.Sy
open Go Go.RowKit
set_option linter.unusedSimpArgs false
set_option linter.unusedVariables false
set_option maxRecDepth 4000
theorem sumL_perm {α:Type} (f:α→Nat) {l k:List α} (h:l.Perm k):sumL f l=sumL f k:=by
 unfold sumL
 exact(h.map f).sum_nat
theorem sumL_insB {α:Type} (f:α→Nat) (lt:α→α→Bool) (x:α) (l:List α):sumL f (insB lt x l)=sumL f l+f x:=by
 rw[sumL_perm f (insB_perm lt x l)]
 simp[sumL];omega
theorem sumL_set {α:Type} (f:α→Nat) {l:List α} {k:Nat} {y:α} (hk:k<l.length) (hf:f y=f l[k]):sumL f (l.set k y)=sumL f l:=by
 unfold sumL
 rw[List.map_set,hf]
 congr 1
 have:f l[k]=(l.map f)[k]'(by simpa using hk):=by simp
 rw[this,List.set_getElem_self]
theorem sumL_modify {α:Type} (f:α→Nat) {l:List α} {k:Nat} {g:α→α} (hf:∀ x,f (g x)=f x):sumL f (l.modify k g)=sumL f l:=by
 by_cases hk:k<l.length
 ·rw[modify_set g hk,sumL_set f hk (hf _)]
 ·rw[List.modify_eq_self (by omega)]
theorem sumL_flt {α:Type} (f:α→Nat) (p:α→Bool):∀ l:List α,sumL f (l.filter p)≤sumL f l
 |[]=>Nat.le_refl _
 |x::l=>by
  have:=sumL_flt f p l
  rw[List.filter_cons]
  split
  ·simp only[sumL,List.map_cons,List.sum_cons] at *;omega
  ·simp only[sumL,List.map_cons,List.sum_cons] at *;omega
theorem ms_doOne (s:State) (a:Act):msState (doOne s a)≤msState s+a.obj.size+a.key.size+1:=by
 have hf:=fun(b:Bool)=>sumL_flt msLive (keepL b a.obj a.key a.knew) s.lives
 have hg:=fun(b:Bool)=>List.length_filter_le (keepL b a.obj a.key a.knew) s.lives
 have h0:=hf false
 have h1:=hf true
 have g0:=hg false
 have g1:=hg true
 unfold doOne doKind
 split
 ·unfold talPut
  split
  ·simp only[msState,List.length_set,List.length_modify]
   rw[sumL_modify msTally (g:=fun t=>{t with sum:=addM t.sum a.val}) (fun x=>rfl)]
   omega
  ·simp only[msState,List.length_set,insB_length,sumL_insB]
   simp only[msTally];omega
 split
 ·simp only[msState,List.length_set,insLive,insB_length,sumL_insB,msLive];omega
 split
 ·simp only[msState,List.length_set];omega
 split
 ·simp only[msState,List.length_set,insLive,insB_length,sumL_insB]
  simp only[show ∀ m:Bool,∀ v:Int,msLive ⟨m,a.obj,a.key,v,a.dot⟩=a.obj.size+a.key.size from fun _ _=>rfl]
  omega
 split
 ·simp only[msState,List.length_set];omega
 split
 ·simp only[msState,List.length_set,insCell,insB_length,sumL_insB,msCell];omega
 ·unfold goneAt
  split
  ·simp only[msState,List.length_set,List.length_modify]
   rw[sumL_modify msCell (g:=fun c=>{c with gone:=true}) (fun x=>rfl)]
   omega
  ·simp only[msState,List.length_set];omega
theorem ms_doAct (s:State) (a:Act):msState (doAct s a).1≤msState s+a.obj.size+a.key.size+1:=by
 have:=ms_doOne s a
 unfold doAct
 repeat' split
 all_goals first|exact this|(simp only[];omega)
def stepE (s:State) (rep t:Int) (e:Edit):State×Int:=if(actOf s rep t e).2=0 then doAct s (actOf s rep t e).1 else(s,(actOf s rep t e).2)
def runE (s:State) (rep t:Int) (es:List Edit):Nat→State×Int
 |0=>(s,0)
 |i+1=>if(runE s rep t es i).2=0 then(if h:i<es.length then stepE (runE s rep t es i).1 rep (IntKind.i64.wrap (t+i)) es[i] else runE s rep t es i) else runE s rep t es i
def doEdits (s:State) (rep t:Int) (es:List Edit):State×Int:=runE s rep t es es.length
end Go.Proofs.YtffnefmklckngaaGreat.Sy
namespace Go.Proofs.YtffnefmklckngaaGreat.Sy
open Go Go.RowKit
set_option linter.unusedSimpArgs false
set_option linter.unusedVariables false
inductive Item where
 |box (z n:Nat) (cs:List GV)
 |th (r:Thg)
def Item.t:Item→Thg
 | .box z n cs=>pt z n cs
 | .th r=>r
def Hx (σ τ:St) (h:List Item):Prop:=Hp σ τ (h.map Item.t)
def look:List Item→Nat→Option (List GV)
 |[],_=>none
 | .box _ m cs::h,n=>if m=n then some cs else look h n
 | .th _::h,n=>look h n
def upd:List Item→Nat→List GV→List Item
 |[],_,_=>[]
 | .box z m cs::h,n,ds=>if m=n then .box z m ds::h else .box z m cs::upd h n ds
 | .th r::h,n,ds=>.th r::upd h n ds
def frX (σ:St):List Item→Nat→Prop
 |[],n=>σ.length≤n
 | .box _ m _::h,n=>m<n∧frX σ h n
 | .th _::h,n=>frX σ h n
abbrev Kx:=GV→List Item→St→Prop
def bindX (v:Option GV) (k:Kx) (h:List Item) (τ:St):Prop:=match v with
 |some v=>k v h τ
 |none=>False
def orX (a b:Option GV):Option GV:=match a with
 |some x=>some x
 |none=>b
def ldB (c:Option (List GV)) (g:Bool) (n off:Nat) (e:Option GV):Option GV:=match c with
 |some cs=>(seg cs off n).bind (mkv g)
 |none=>e
def ldY (h:List Item) (τ:St) (g:Bool) (n:Nat):GV→Option GV
 | .ptr b off=>ldB (look h b) g n off (ldG g n τ (.ptr b off))
 |a=>ldG g n τ a
def ldX (σ:St) (h:List Item) (τ:St) (g:Bool) (n:Nat) (a:GV):Option GV:=orX (ldG g n σ a) (ldY h τ g n a)
def allocX (σ:St) (h:List Item) (z:Nat) (cs:List GV) (v:Nat→GV) (k:Kx):Prop:=∀ n,frX σ h n→∀ τ',Hx σ τ' (.box z n cs::h)→k (v n) (.box z n cs::h) τ'
def genX (σ:St) (D:Bool) (τ:St) (e:Option (GV×St)) (k:Kx):Prop:=∃ v τ' h',e=some (v,τ')∧(D=true→τ <+: τ')∧Hx σ τ' h'∧k v h' τ'
def stB (σ:St) (D:Bool) (h:List Item) (τ:St) (n:Nat) (k:Kx) (b off:Nat) (x:GV) (c:Option (List GV)):Prop:=match c with
 |some cs=>(D=false∧off+n≤cs.length∧0<n∧x.cells.length=n)∧∀ τ',Hx σ τ' (upd h b (splice cs off x.cells))→k (.tup []) (upd h b (splice cs off x.cells)) τ'
 |none=>genX σ D τ (stG n τ (.ptr b off) x) k
def stX (σ:St) (D:Bool) (h:List Item) (τ:St) (n:Nat) (k:Kx) (a x:GV):Prop:=match a with
 | .ptr b off=>stB σ D h τ n k b off x (look h b)
 |a=>genX σ D τ (stG n τ a x) k
def fnX (P:Program) (σ:St) (D:Bool) (τ:St) (args:List GV) (k:Kx):GV→Prop
 | .fn f caps=>∃ v τ' h',Ret P f (args++caps.map fun c=>.ptr c.1 c.2) τ v τ'∧(D=true→τ <+: τ')∧Hx σ τ' h'∧k v h' τ'
 |_=>False
def litX (σ:St) (h:List Item) (z len:Nat) (k:Kx):Option (List GV)→Prop
 |some cs=>allocX σ h z cs (fun n=>.sl n 0 len) k
 |none=>False
def callX (P:Program) (σ:St) (D:Bool) (τ:St) (f:Nat) (args:List GV) (k:Kx):Prop:=∃ v τ' h',Ret P f args τ v τ'∧(D=true→τ <+: τ')∧Hx σ τ' h'∧k v h' τ'
def mksX (σ:St) (h:List Item) (z b:Nat) (ze:List GV) (k:Kx):Option Nat→Option Nat→Prop
 |some n,some c=>n=c∧n*b≤140737488355328∧allocX σ h z (reps n ze) (fun g=>.sl g 0 n) k
 |_,_=>False
def sxI (P:Program) (D:Bool) (σ:St) (env:Env) (h:List Item) (τ:St) (k:Kx):Ins→Prop
 | .new cs=>allocX σ h 1 cs (fun n=>.ptr n 0) k
 | .box x=>notTup (x.ev env)=true∧allocX σ h 1 (x.ev env).cells (fun n=>.ptr n 0) k
 | .lit z len zero parts=>litX σ h z len k (fillG zero (parts.map fun p=>(p.1,p.2.1,p.2.2.ev env)))
 | .mks z b ze n c=>mksX σ h z b ze k (natOf (some (n.ev env))) (natOf (some (c.ev env)))
 | .ld g n a=>bindX (ldX σ h τ g n (a.ev env)) k h τ
 | .st n a x=>stX σ D h τ n k (a.ev env) (x.ev env)
 | .call f xs=>callX P σ D τ f (xs.map (·.ev env)) k
 | .callv x xs=>fnX P σ D τ (xs.map (·.ev env)) k (x.ev env)
 | .chk d (.ld g n (.t t))=>ldX σ h τ g n (env t)=some (env d)∧k (.tup []) h τ
 | .chk _ _=>False
 | .mlk ks z ok m k'=>bindX (mlkG τ ks z ok (m.ev env) (k'.ev env)) k h τ
 | .bts x=>bindX ((elems τ 1 (x.ev env)).bind fun r=>(bytesOf r.2).map fun bs=>.str ⟨bs.toArray⟩) k h τ
 | .cut z x lo hi=>bindX (if zOk τ z (x.ev env) then cutG z (x.ev env) (lo.map (·.ev env)) (hi.map (·.ev env)) else none) k h τ
 | .app z b ze s x=>genX σ D τ (appV z b τ (s.ev env) (x.ev env)) k
 | .clr z ze x=>genX σ D τ (clrG z ze τ (x.ev env)) k
 | .mkm=>genX σ D τ (some (.mp τ.length,τ++[some (.map [])])) k
 | .mup ks m k' v=>genX σ D τ (mupG τ ks (m.ev env) (k'.ev env) (v.ev env)) k
 |i=>bindX ((exec env [] i).map (·.1)) k h τ
def gdX (c:Option (Option Bool×Bool)) (A B:Prop):Prop:=match c with
 |none=>A
 |some (some c,b)=>(c=b→A)∧(c= !b→B)
 |some (none,_)=>B
def sx (P:Program) (D:Bool) (σ:St):List Op1→(Env→List Item→St→Prop)→Env→List Item→St→Prop
 |[],K,env,h,τ=>K env h τ
 |o::r,K,env,h,τ=>gdX (o.g.map fun g=>((env g.1).bit,g.2)) (sxI P D σ env h τ (fun v h' τ'=>sx P D σ r K (upo env o.d v) h' τ') o.i) (sx P D σ r K (upo env o.d (.tup [])) h τ)
def ifX (c:Option Bool) (A B:Prop):Prop:=match c with
 |some c=>(c=true→A)∧(c=false→B)
 |none=>False
abbrev Qx:=Ex→Env→List Item→St→Prop
def sxc (P:Program) (σ:St):Cd→Qx→Env→List Item→St→Prop
 | .skip,Q=>Q .nxt
 | .reg ops,Q=>sx P false σ ops (Q .nxt)
 | .drw a1 bs,Q=>sx P true σ a1 (sx P false σ bs (Q .nxt))
 | .seq a b,Q=>sxc P σ a fun e=>match e with
  | .nxt=>sxc P σ b Q
  |e=>Q e
 | .cnd c a b,Q=>fun env h τ=>ifX (c.ev env).bit (sxc P σ a Q env h τ) (sxc P σ b Q env h τ)
 | .blk id a,Q=>sxc P σ a fun e=>match e with
  | .ext j=>if j=id then Q .nxt else Q (.ext j)
  |e=>Q e
 | .lop a,Q=>fun env h τ=>∃(I:Nat→Env→List Item→St→Prop) (n:Nat) (h0:List Item),Hx σ τ h0∧I n env h0 τ∧∀ k env h τ,Hx σ τ h→I k env h τ→sxc P σ a (fun e env' h' τ'=>match e with
  | .nxt=>∃ k' h1,k'<k∧Hx σ τ' h1∧I k' env' h1 τ'
  |e=>∃ h1,Hx σ τ' h1∧Q e env' h1 τ') env h τ
 | .ext id,Q=>Q (.ext id)
 | .ret,Q=>Q .ret
section sound
variable {P:Program} {σ:St} {D:Bool}
theorem Hx.hp {τ:St} {h:List Item} (H:Hx σ τ h):Hp σ τ (h.map Item.t):=H
theorem Hx.sub {τ:St} {h:List Item} (H:Hx σ τ h):σ <+: τ:=H.hp.sub
theorem Hx.refl (σ:St):Hx σ σ []:=Hp.refl σ
theorem look_at:∀ {h:List Item} {n:Nat} {cs:List GV},look h n=some cs→∃ z,∃ i:Nat,(h.map Item.t)[i]? =some (pt z n cs)∧∀ ds,(upd h n ds).map Item.t=(h.map Item.t).set i (pt z n ds)
 |[],_,_,e=>by cases e
 | .box z m cs'::h,n,cs,e=>by
  simp only[look] at e
  by_cases hm:m=n
  ·rw[if_pos hm] at e
   injection e with e;subst e hm
   exact⟨z,0,rfl,fun ds=>by simp[upd,Item.t]⟩
  ·rw[if_neg hm] at e
   obtain⟨z',i,h1,h2⟩:=look_at e
   exact⟨z',i+1,by simpa using h1,fun ds=>by simp[upd,hm,h2 ds]⟩
 | .th r::h,n,cs,e=>by
  obtain⟨z',i,h1,h2⟩:=look_at (h:=h) (by simpa [look] using e)
  exact⟨z',i+1,by simpa using h1,fun ds=>by simp[upd,h2 ds]⟩
theorem ldG_pre {τ:St} {g:Bool} {n:Nat} {a x:GV} (h:ldG g n σ a=some x) (hp:σ <+: τ):ldG g n τ a=some x:=by
 cases a with
 |ptr b off=>
  simp only[ldG] at h ⊢
  obtain⟨cs,h1,h2⟩:=Option.bind_eq_some_iff.1 h
  rw[rdB_pre hp h1];exact h2
 |_=>cases h
theorem ldX_sound {h:List Item} {τ:St} (H:Hx σ τ h) {g:Bool} {n:Nat} {a x:GV} (e:ldX σ h τ g n a=some x):ldG g n τ a=some x:=by
 unfold ldX orX ldY at e
 split at e
 ·rename_i y hy
  injection e with e;subst e
  exact ldG_pre hy H.sub
 ·cases a with
  |ptr b off=>
   simp only at e
   cases hl:look h b with
   |none=>rw[hl] at e;exact e
   |some cs=>
    rw[hl] at e
    obtain⟨z,i,h1,_⟩:=look_at hl
    have:=H.hp.pt i h1
    simp only[ldG,this,Option.bind_some]
    exact e
  |_=>exact e
theorem fr_use {n:Nat}:∀ {h:List Item},σ.length≤n→(∀ z m cs,Item.box z m cs∈h→m<n)→frX σ h n
 |[],hl,_=>hl
 | .box z m cs::h,hl,hb=>⟨hb z m cs List.mem_cons_self,fr_use (h:=h) hl fun z m cs hm=>hb z m cs (List.mem_cons_of_mem _ hm)⟩
 | .th r::h',hl,hb=>fr_use (h:=h') hl fun z m cs hm=>hb z m cs (List.mem_cons_of_mem _ hm)
theorem box_lt {h:List Item} {τ:St} (H:Hx σ τ h) {z m:Nat} {cs:List GV} (hm:Item.box z m cs∈h):m<τ.length:=by
 obtain⟨i,hi,e⟩:=List.getElem_of_mem hm
 have h1:(h.map Item.t)[i]? =some (pt z m cs):=by
  rw[List.getElem?_map,List.getElem?_eq_getElem hi,e];rfl
 obtain⟨a,ha,_,hb⟩:=H.hp.see h1
 exact(hb m (by rw[ha.1];exact List.mem_cons_self)).2
theorem alloc_sound {h:List Item} {τ:St} {z:Nat} {cs:List GV} {v:Nat→GV} {k:Kx} (H:Hx σ τ h) (e:allocX σ h z cs v k):∃ h',Hx σ (τ++[some (.row z cs)]) h'∧k (v τ.length) h' (τ++[some (.row z cs)]):=
 ⟨.box z τ.length cs::h,H.hp.new z cs,e τ.length (fr_use (h:=h) H.sub.length_le (fun _ _ _ hm=>box_lt H hm)) _ (H.hp.new z cs)⟩
theorem gen_sound {τ:St} {e:Option (GV×St)} {k:Kx} (h:genX σ D τ e k):∃ v τ',e=some (v,τ')∧(D=true→τ <+: τ')∧∃ h',Hx σ τ' h'∧k v h' τ':=by
 obtain⟨v,τ',h',h1,h2,h3,h4⟩:=h
 exact⟨v,τ',h1,h2,h',h3,h4⟩
theorem sxI_sound {env:Env} {h:List Item} {τ:St} {k:Kx} (H:Hx σ τ h):∀ {i:Ins},sxI P D σ env h τ k i→∃ v τ',Step P env τ i v τ'∧(D=true→τ <+: τ')∧∃ h',Hx σ τ' h'∧k v h' τ':=by
 intro i e
 have same:∀ {v:Option GV},bindX v k h τ→(∀ v',v=some v'→Step P env τ i v' τ)→∃ v τ',Step P env τ i v τ'∧(D=true→τ <+: τ')∧∃ h',Hx σ τ' h'∧k v h' τ':=by
  intro v hb hs
  cases v with
  |none=>exact hb.elim
  |some v=>exact⟨v,τ,hs v rfl,fun _=>List.prefix_refl _,h,H,hb⟩
 have pure:pureI i=true→bindX ((exec env [] i).map (·.1)) k h τ→i.isCall=false→(∀ v',exec env τ i=some (v',τ)→Step P env τ i v' τ)→∃ v τ',Step P env τ i v τ'∧(D=true→τ <+: τ')∧∃ h',Hx σ τ' h'∧k v h' τ':=by
  intro hp hb _ hs
  refine same hb fun v' hv=>hs v' ?_
  obtain⟨⟨w,s⟩,hw,rfl⟩:=Option.map_eq_some_iff.1 hv
  exact(exec_pure hp hw).2 τ
 cases i with
 |new cs=>
  obtain⟨h',h1,h2⟩:=alloc_sound H e
  exact⟨_,_,rfl,fun _=>List.prefix_append _ _,h',h1,h2⟩
 |box x=>
  obtain⟨h0,e⟩:=e
  obtain⟨h',h1,h2⟩:=alloc_sound H e
  exact⟨_,_,by show boxG τ _=_;unfold boxG;rw[if_pos h0],fun _=>List.prefix_append _ _,h',h1,h2⟩
 |lit z len zero parts=>
  simp only[sxI] at e
  unfold litX at e
  split at e
  ·rename_i cs hc
   obtain⟨h',h1,h2⟩:=alloc_sound H e
   exact⟨_,_,by show exec env τ _=_;simp only[exec,hc];rfl,fun _=>List.prefix_append _ _,h',h1,h2⟩
  ·exact e.elim
 |mks z b ze n c=>
  simp only[sxI] at e
  unfold mksX at e
  split at e
  ·rename_i n' c' hn hc
   obtain⟨h0,h3,e⟩:=e
   obtain⟨h',h1,h2⟩:=alloc_sound H e
   exact⟨_,_,by show exec env τ _=_;simp only[exec,hn,hc,Option.bind_some,if_pos (And.intro h0 h3)],fun _=>List.prefix_append _ _,h',h1,h2⟩
  ·exact e.elim
 |ld g n a=>
  refine same e fun v' hv=> ?_
  have:=ldX_sound H hv
  show exec env τ _=_
  simp only[exec]
  revert this
  cases a.ev env with
  |ptr b off=>
   intro h1
   simp only[ldG] at h1
   simp only[ptrG,Option.bind_some]
   obtain⟨cs,h2,h3⟩:=Option.bind_eq_some_iff.1 h1
   obtain⟨r,h4,h5⟩:=Option.bind_eq_some_iff.1 h3
   simp only[h2,Option.bind_some,h4,h5,Option.map_some]
  |_=>intro h1;cases h1
 |st n a x=>
  simp only[sxI] at e
  have hst:∀ {y:GV} {τ'},stG n τ (a.ev env) (x.ev env)=some (y,τ')→Step P env τ (.st n a x) y τ':=by
   intro y τ' he
   show exec env τ _=_
   simp only[exec]
   revert he
   cases a.ev env<;>intro he<;>first|cases he;done|exact he
  have gen:genX σ D τ (stG n τ (a.ev env) (x.ev env)) k→∃ v τ',Step P env τ (.st n a x) v τ'∧(D=true→τ <+: τ')∧∃ h',Hx σ τ' h'∧k v h' τ':=fun hg=>by
   obtain⟨v,τ',h1,h2⟩:=gen_sound hg
   exact⟨v,τ',hst h1,h2⟩
  unfold stX at e
  split at e
  ·rename_i b off hb
   unfold stB at e
   split at e
   ·rename_i cs hl
    obtain⟨⟨h0,h1,h2,h3⟩,h4⟩:=e
    obtain⟨z,i,h5,h6⟩:=look_at hl
    obtain⟨τ',s1,s2,_⟩:=H.hp.st i h5 n off (x.ev env) h3 h2 h1
    have s3:Hx σ τ' (upd h b (splice cs off (x.ev env).cells)):=by unfold Hx;rw[h6];exact s2
    exact⟨_,τ',hst (by rw[hb];exact s1),(fun hd=>by rw[hd] at h0;cases h0),_,s3,h4 _ s3⟩
   ·rw[← hb] at e;exact gen e
  ·exact gen e
 |call f xs=>
  obtain⟨v,τ',h',h1,h2,h3,h4⟩:=e
  exact⟨v,τ',h1,h2,h',h3,h4⟩
 |callv x xs=>
  simp only[sxI] at e
  unfold fnX at e
  split at e
  ·rename_i f caps hf
   obtain⟨v,τ',h',h1,h2,h3,h4⟩:=e
   exact⟨v,τ',⟨f,caps,hf,h1⟩,h2,h',h3,h4⟩
  ·exact e.elim
 |chk d x=>
  cases x with
  |ld g n a=>cases a with
   |t t=>
    obtain⟨h1,h2⟩:=e
    refine⟨_,τ,⟨rfl,rfl,?_⟩,fun _=>List.prefix_refl _,h,H,h2⟩
    have h3:=ldX_sound H h1
    simp only[exec,Opd.ev]
    revert h3
    cases env t with
    |ptr b off=>
     intro h1
     simp only[ldG] at h1
     simp only[ptrG,Option.bind_some]
     obtain⟨cs,h2,h3⟩:=Option.bind_eq_some_iff.1 h1
     obtain⟨r,h4,h5⟩:=Option.bind_eq_some_iff.1 h3
     simp only[h2,Option.bind_some,h4,h5,Option.map_some]
    |_=>intro h1;cases h1
   |k v=>exact e.elim
  |_=>exact e.elim
 |mlk ks z ok m k'=>exact same e fun v' hv=>by show exec env τ _=_;simp only[exec,hv,Option.map_some]
 |bts x=>
  refine same e fun v' hv=> ?_
  show exec env τ _=_
  simp only[exec]
  obtain⟨r,h1,h2⟩:=Option.bind_eq_some_iff.1 hv
  obtain⟨bs,h3,rfl⟩:=Option.map_eq_some_iff.1 h2
  rw[h1,Option.bind_some,h3];rfl
 |cut z x lo hi=>
  refine same e fun v' hv=> ?_
  show exec env τ _=_
  simp only[exec]
  split at hv
  ·rename_i hz
   rw[if_pos hz,hv];rfl
  ·cases hv
 |app z b ze s x=>exact gen_sound e
 |clr z ze x=>exact gen_sound e
 |mkm=>exact gen_sound e
 |mup ks m k' v=>exact gen_sound e
 |mkf f caps=>
  refine same e fun v' hv=> ?_
  show exec env τ _=_
  simp only[exec] at hv ⊢
  obtain⟨⟨w,s⟩,hw,rfl⟩:=Option.map_eq_some_iff.1 hv
  obtain⟨cs,h1,h2⟩:=Option.map_eq_some_iff.1 hw
  injection h2 with h2 h3;subst h2
  rw[h1];rfl
 |pan=>exact e.elim
 |_=>exact pure rfl e rfl fun _ h=>h
theorem sx_sound:∀ {os:List Op1} {K:Env→List Item→St→Prop} {env:Env} {h:List Item} {τ:St},Hx σ τ h→sx P D σ os K env h τ→vcOps D P os (fun env' τ'=>τ.length≤τ'.length∧∃ h',Hx σ τ' h'∧K env' h' τ') env τ
 |[],K,env,h,τ,H,e=>⟨Nat.le_refl _,h,H,e⟩
 |o::r,K,env,h,τ,H,e=>by
  have yes:sxI P D σ env h τ (fun v h' τ'=>sx P D σ r K (upo env o.d v) h' τ') o.i→∃ v σ',Step P env τ o.i v σ'∧(D=true→τ <+: σ')∧vcOps D P r (fun env' τ'=>τ.length≤τ'.length∧∃ h',Hx σ τ' h'∧K env' h' τ') (upo env o.d v) σ':=fun e=>by
   obtain⟨v,τ',h1,h2,h',h3,h4⟩:=sxI_sound H e
   have hl:=step_len h1
   exact⟨v,τ',h1,h2,vcOps_mono (sx_sound h3 h4) fun _ _ hk=>⟨Nat.le_trans hl hk.1,hk.2⟩⟩
  have no:sx P D σ r K (upo env o.d (.tup [])) h τ→vcOps D P r (fun env' τ'=>τ.length≤τ'.length∧∃ h',Hx σ τ' h'∧K env' h' τ') (upo env o.d (.tup [])) τ:=fun e=>sx_sound H e
  simp only[vcOps]
  simp only[sx] at e
  cases hg:o.g with
  |none=>
   rw[hg] at e
   rw[if_pos (by simp[wantedG])]
   exact yes e
  |some q=>
   obtain⟨g,b⟩:=q
   rw[hg] at e
   simp only[Option.map_some] at e
   cases hc:(env g).bit with
   |none=>
    rw[hc] at e
    rw[if_neg (by simp[wantedG,hc])]
    exact no e
   |some c=>
    rw[hc] at e
    by_cases hcb:c=b
    ·rw[if_pos (by simp[wantedG,hc,hcb])]
     exact yes (e.1 hcb)
    ·rw[if_neg (by simp[wantedG,hc,hcb])]
     exact no (e.2 (by cases c<;>cases b<;>simp_all))
theorem sxc_sound {d:Cd}:∀ {Q:Qx} {env:Env} {h:List Item} {τ:St},Hx σ τ h→sxc P σ d Q env h τ→vc P d (fun e env' τ'=>τ.length≤τ'.length∧∃ h',Hx σ τ' h'∧Q e env' h' τ') env τ:=by
 induction d with
 |skip=>intro Q env h τ H e;exact⟨Nat.le_refl _,h,H,e⟩
 |reg ops=>intro Q env h τ H e;exact sx_sound H e
 |drw a1 bs=>
  intro Q env h τ H e
  show vcOps true P a1 _ env τ
  refine vcOps_mono (sx_sound H e) fun env' τ' hk=> ?_
  obtain⟨hl,h',H',hk⟩:=hk
  exact vcOps_mono (sx_sound H' hk) fun _ _ hq=>⟨Nat.le_trans hl hq.1,hq.2⟩
 |seq a b iha ihb=>
  intro Q env h τ H e
  show vc P a _ env τ
  refine vc_mono (iha H e) fun e env' τ' hk=> ?_
  obtain⟨hl,h',H',hk⟩:=hk
  cases e with
  |nxt=>exact vc_mono (ihb H' hk) fun _ _ _ hq=>⟨Nat.le_trans hl hq.1,hq.2⟩
  |ext j=>exact⟨hl,h',H',hk⟩
  |ret=>exact⟨hl,h',H',hk⟩
 |cnd c a b iha ihb=>
  intro Q env h τ H e
  simp only[sxc] at e
  unfold ifX at e
  split at e
  ·rename_i t ht
   exact⟨t,ht,fun k=>iha H (e.1 k),fun k=>ihb H (e.2 k)⟩
  ·exact e.elim
 |blk id a ih=>
  intro Q env h τ H e
  show vc P a _ env τ
  refine vc_mono (ih H e) fun e env' τ' hk=> ?_
  obtain⟨hl,h',H',hk⟩:=hk
  cases e with
  |nxt=>exact⟨hl,h',H',hk⟩
  |ext j=>
   simp only at hk ⊢
   split at hk
   ·rename_i hj;rw[if_pos hj];exact⟨hl,h',H',hk⟩
   ·rename_i hj;rw[if_neg hj];exact⟨hl,h',H',hk⟩
  |ret=>exact⟨hl,h',H',hk⟩
 |lop a ih=>
  intro Q env h τ H e
  obtain⟨I,n,h0,H0,hI,hs⟩:=e
  refine vc_lop (fun k env' τ'=>τ.length≤τ'.length∧∃ h,Hx σ τ' h∧I k env' h τ') n ⟨Nat.le_refl _,h0,H0,hI⟩ ?_
  rintro k env1 τ1 ⟨hl,h1,H1,hI1⟩
  refine vc_mono (ih H1 (hs k env1 h1 τ1 H1 hI1)) fun e env' τ' hk=> ?_
  obtain⟨hl2,h',H',hk⟩:=hk
  cases e with
  |nxt=>
   obtain⟨k',h3,h4,h5,h6⟩:=hk
   exact⟨k',h4,Nat.le_trans hl hl2,h3,h5,h6⟩
  |ext j=>exact⟨Nat.le_trans hl hl2,hk⟩
  |ret=>exact⟨Nat.le_trans hl hl2,hk⟩
 |ext id=>intro Q env h τ H e;exact⟨Nat.le_refl _,h,H,e⟩
 |ret=>intro Q env h τ H e;exact⟨Nat.le_refl _,h,H,e⟩
def rsX (σ:St) (h:List Item) (τ:St) (env:Env):Rs→Option GV
 | .t n=>some (env n)
 | .c a g n=>ldX σ h τ g n (env a)
def resX (σ:St) (h:List Item) (τ:St) (env:Env):List Rs→Option GV
 |[r]=>rsX σ h τ env r
 |rs=>(optAll (rsX σ h τ env) rs).bind fun vs=>if vs.all notTup then some (.tup vs) else none
theorem rsX_sound {h:List Item} {τ:St} (H:Hx σ τ h) {env:Env} {r:Rs} {v:GV} (e:rsX σ h τ env r=some v):r.ev env τ=some v:=by
 cases r with
 |t n=>exact e
 |c a g n=>rw[rs_c];exact ldX_sound H e
theorem optAll_imp {α β:Type} {f g:α→Option β} (h:∀ x y,f x=some y→g x=some y):∀ {l:List α} {r:List β},optAll f l=some r→optAll g l=some r
 |[],r,e=>e
 |x::l,r,e=>by
  simp only[optAll,Option.bind_eq_some_iff,Option.map_eq_some_iff] at e ⊢
  obtain⟨y,h1,ys,h2,rfl⟩:=e
  exact⟨y,h _ _ h1,ys,optAll_imp h h2,rfl⟩
theorem resX_sound {h:List Item} {τ:St} (H:Hx σ τ h) {env:Env} {rs:List Rs} {v:GV} (e:resX σ h τ env rs=some v):resG env τ rs=some v:=by
 unfold resX at e
 unfold resG
 split at e
 ·exact rsX_sound H e
 ·rename_i hne
  split
  ·exact absurd rfl (hne _)
  ·obtain⟨vs,h1,h2⟩:=Option.bind_eq_some_iff.1 e
   rw[optAll_imp (fun x y=>rsX_sound H) h1];exact h2
theorem ret_x {f:Nat} {F:Fn1} {args:List GV} {σ1:St} {h0:List Item} {Post:GV→St→Prop} (hF:compFn P f=some F) (hl:args.length≤F.n) (H:Hx σ σ1 h0)
  (hc:sxc P σ F.c (fun e env h τ=>Hx σ τ h→isOut e=true∧∃ r,resX σ h τ env F.rs=some r∧Post r τ) (env0 args) h0 σ1):∃ r τ,Ret P f args σ1 r τ∧Post r τ:=
 ret_mut hF hl (vc_mono (sxc_sound H hc) fun e env τ he=>by
  obtain⟨hl,h,H,hq⟩:=he
  obtain⟨ho,r,hr,hp⟩:=hq H
  exact⟨ho,r,resX_sound H hr,hl,hp⟩)
end sound
end Go.Proofs.YtffnefmklckngaaGreat.Sy
namespace Go.Proofs.YtffnefmklckngaaGreat.Sy
open Go Go.RowKit
set_option linter.unusedSimpArgs false
set_option linter.unusedVariables false
def nextX (P:Program) (D:Bool) (σ:St) (r:List Op1) (K:Env→List Item→St→Prop) (env:Env) (d:Option Nat):Kx:=fun v h' τ'=>sx P D σ r K (upo env d v) h' τ'
def gdS (P:Program) (D:Bool) (σ:St) (env:Env) (h:List Item) (τ:St) (k:Kx) (i:Ins) (b:Bool) (c:Option Bool):Prop:=match c with
 |some c=>(c=b→sxI P D σ env h τ k i)∧(c= !b→k (.tup []) h τ)
 |none=>k (.tup []) h τ
def ifS (P:Program) (σ:St) (a b:Cd) (Q:Qx) (env:Env) (h:List Item) (τ:St) (c:Option Bool):Prop:=match c with
 |some c=>(c=true→sxc P σ a Q env h τ)∧(c=false→sxc P σ b Q env h τ)
 |none=>False
section words
variable {P:Program} {D:Bool} {σ τ:St} {env:Env} {h:List Item} {r:List Op1} {K:Env→List Item→St→Prop} {k:Kx} {d:Option Nat} {Q:Qx}
@[go_sem] theorem nextX_ap {v:GV}:nextX P D σ r K env d v h τ=sx P D σ r K (upo env d v) h τ:=(rfl)
@[go_sem] theorem sx_nil:sx P D σ [] K env h τ=K env h τ:=(rfl)
@[go_sem] theorem sx_one {i:Ins}:sx P D σ (⟨d,none,i⟩::r) K env h τ=sxI P D σ env h τ (nextX P D σ r K env d) i:=(rfl)
@[go_sem] theorem sx_grd {g:Nat} {b:Bool} {i:Ins}:sx P D σ (⟨d,some (g,b),i⟩::r) K env h τ=gdS P D σ env h τ (nextX P D σ r K env d) i b (env g).bit:=by
 show gdX (some ((env g).bit,b)) _ _=_
 cases(env g).bit<;>rfl
@[go_sem] theorem gdS_tt {b:Bool} {i:Ins}:gdS P D σ env h τ k i b (some b)=sxI P D σ env h τ k i:=by cases b<;>simp[gdS]
@[go_sem] theorem gdS_tf {i:Ins}:gdS P D σ env h τ k i false (some true)=k (.tup []) h τ:=by simp[gdS]
@[go_sem] theorem gdS_ft {i:Ins}:gdS P D σ env h τ k i true (some false)=k (.tup []) h τ:=by simp[gdS]
@[go_sem] theorem gdS_n {b:Bool} {i:Ins}:gdS P D σ env h τ k i b none=k (.tup []) h τ:=(rfl)
@[go_sem] theorem bindX_some {v:GV}:bindX (some v) k h τ=k v h τ:=(rfl)
@[go_sem] theorem ifS_t {a b:Cd}:ifS P σ a b Q env h τ (some true)=sxc P σ a Q env h τ:=by simp[ifS]
@[go_sem] theorem ifS_f {a b:Cd}:ifS P σ a b Q env h τ (some false)=sxc P σ b Q env h τ:=by simp[ifS]
theorem mapfst {v:Option GV}:(Option.map (·.1) (v.map fun v=>(v,([]:St))))=v:=by cases v<;>rfl
@[go_sem] theorem xi_mov {x:Opd}:sxI P D σ env h τ k (.mov x)=k (x.ev env) h τ:=(rfl)
@[go_sem] theorem xi_pick {c a b:Opd}:sxI P D σ env h τ k (.pick c a b)=bindX ((c.ev env).bit.map fun t=>if t then a.ev env else b.ev env) k h τ:=by
 simp only[sxI,exec]
 cases(c.ev env).bit<;>rfl
@[go_sem] theorem xi_new {cs:List GV}:sxI P D σ env h τ k (.new cs)=allocX σ h 1 cs (fun n=>.ptr n 0) k:=(rfl)
@[go_sem] theorem xi_box {x:Opd}:sxI P D σ env h τ k (.box x)=(notTup (x.ev env)=true∧allocX σ h 1 (x.ev env).cells (fun n=>.ptr n 0) k):=(rfl)
@[go_sem] theorem xi_build {z:List GV} {ps:List (Nat×Nat×Opd)}:sxI P D σ env h τ k (.build z ps)=bindX ((fillG z (ps.map fun p=>(p.1,p.2.1,p.2.2.ev env))).map .agg) k h τ:=by
 simp only[sxI,exec]
 cases fillG z (ps.map fun p=>(p.1,p.2.1,p.2.2.ev env))<;>rfl
@[go_sem] theorem xi_lit {z l:Nat} {ze:List GV} {ps:List (Nat×Nat×Opd)}:sxI P D σ env h τ k (.lit z l ze ps)=litX σ h z l k (fillG ze (ps.map fun p=>(p.1,p.2.1,p.2.2.ev env))):=(rfl)
@[go_sem] theorem litX_some {z l:Nat} {cs:List GV}:litX σ h z l k (some cs)=allocX σ h z cs (fun n=>.sl n 0 l) k:=(rfl)
@[go_sem] theorem xi_mks {z b:Nat} {ze:List GV} {n c:Opd}:sxI P D σ env h τ k (.mks z b ze n c)=mksX σ h z b ze k (natOf (some (n.ev env))) (natOf (some (c.ev env))):=(rfl)
@[go_sem] theorem mksX_some {z b:Nat} {ze:List GV} {n c:Nat}:mksX σ h z b ze k (some n) (some c)=(n=c∧n*b≤140737488355328∧allocX σ h z (reps n ze) (fun g=>.sl g 0 n) k):=(rfl)
@[go_sem] theorem xi_ld {g:Bool} {n:Nat} {a:Opd}:sxI P D σ env h τ k (.ld g n a)=bindX (ldX σ h τ g n (a.ev env)) k h τ:=(rfl)
@[go_sem] theorem xi_st {n:Nat} {a x:Opd}:sxI P D σ env h τ k (.st n a x)=stX σ D h τ n k (a.ev env) (x.ev env):=(rfl)
@[go_sem] theorem stX_ptr {n b off:Nat} {x:GV}:stX σ D h τ n k (.ptr b off) x=stB σ D h τ n k b off x (look h b):=(rfl)
@[go_sem] theorem stB_some {n b off:Nat} {x:GV} {cs:List GV}:stB σ D h τ n k b off x (some cs)=((D=false∧off+n≤cs.length∧0<n∧x.cells.length=n)∧∀ τ',Hx σ τ' (upd h b (splice cs off x.cells))→k (.tup []) (upd h b (splice cs off x.cells)) τ'):=(rfl)
@[go_sem] theorem xi_nck {x:Opd}:sxI P D σ env h τ k (.nck x)=bindX (nckG (x.ev env)) k h τ:=by simp only[sxI,exec,mapfst]
@[go_sem] theorem xi_bin {op:BinOp} {x y:Opd}:sxI P D σ env h τ k (.bin op x y)=bindX (binG op (x.ev env) (y.ev env)) k h τ:=by simp only[sxI,exec,mapfst]
@[go_sem] theorem xi_eqb {n:Bool} {x y:Opd}:sxI P D σ env h τ k (.eqb n x y)=bindX (eqbG n (x.ev env) (y.ev env)) k h τ:=by
 simp only[sxI,exec,eqbG]
 cases(x.ev env).bit with
 |none=>rfl
 |some a=>cases(y.ev env).bit<;>rfl
@[go_sem] theorem xi_eqn {p n:Bool} {x y:Opd}:sxI P D σ env h τ k (.eqn p n x y)=bindX ((nilG p (x.ev env) (y.ev env)).map fun b=>.bool (n ^^ b)) k h τ:=by
 simp only[sxI,exec]
 cases nilG p (x.ev env) (y.ev env)<;>rfl
@[go_sem] theorem xi_eqs {n:Bool} {ks:List Sc} {x y:Opd}:sxI P D σ env h τ k (.eqs n ks x y)=bindX (eqsG n ks (x.ev env) (y.ev env)) k h τ:=by
 simp only[sxI,exec]
 cases x.ev env<;>first|rfl|skip
 cases y.ev env<;>first|rfl|skip
 simp only[eqsG]
 cases scsEq ks _ _<;>rfl
@[go_sem] theorem xi_un {op:UnOp} {x:Opd}:sxI P D σ env h τ k (.un op x)=bindX (unG op (x.ev env)) k h τ:=by simp only[sxI,exec,mapfst]
@[go_sem] theorem xi_cvi {kd:IntKind} {x:Opd}:sxI P D σ env h τ k (.cvi kd x)=bindX (cviG kd (x.ev env)) k h τ:=by
 simp only[sxI,exec]
 cases x.ev env<;>rfl
@[go_sem] theorem xi_bts {x:Opd}:sxI P D σ env h τ k (.bts x)=bindX ((elems τ 1 (x.ev env)).bind fun r=>(bytesOf r.2).map fun bs=>.str ⟨bs.toArray⟩) k h τ:=(rfl)
@[go_sem] theorem xi_mkf {f:Nat} {cs:List Opd}:sxI P D σ env h τ k (.mkf f cs)=bindX ((cs.mapM fun c=>capOf (c.ev env)).map fun cs=>.fn f cs) k h τ:=by
 simp only[sxI,exec]
 cases cs.mapM fun c=>capOf (c.ev env)<;>rfl
@[go_sem] theorem xi_cutS {x:Opd} {lo hi:Option Opd}:sxI P D σ env h τ k (.cutS x lo hi)=bindX (cutSG (x.ev env) (lo.map (·.ev env)) (hi.map (·.ev env))) k h τ:=by simp only[sxI,exec,mapfst]
@[go_sem] theorem xi_cut {z:Nat} {x:Opd} {lo hi:Option Opd}:sxI P D σ env h τ k (.cut z x lo hi)=bindX (if zOk τ z (x.ev env) then cutG z (x.ev env) (lo.map (·.ev env)) (hi.map (·.ev env)) else none) k h τ:=(rfl)
@[go_sem] theorem xi_fad {n:Nat} {a:Opd}:sxI P D σ env h τ k (.fad n a)=bindX (fadG n (a.ev env)) k h τ:=by
 simp only[sxI,exec]
 cases a.ev env<;>rfl
@[go_sem] theorem xi_part {g:Bool} {off n:Nat} {x:Opd}:sxI P D σ env h τ k (.part g off n x)=bindX (partV g off n (x.ev env)) k h τ:=by
 simp only[sxI,exec]
 cases x.ev env with
 |agg cs=>
  simp only[partV]
  cases seg cs off n with
  |none=>rfl
  |some q=>simp only[Option.bind_some,mapfst]
 |_=>rfl
@[go_sem] theorem xi_iad {z:Nat} {x i:Opd}:sxI P D σ env h τ k (.iad z x i)=bindX (iadG z (x.ev env) (natOf (some (i.ev env)))) k h τ:=by
 simp only[sxI,exec]
 cases x.ev env with
 |sl g off len=>
  simp only
  cases natOf (some (i.ev env)) with
  |none=>rfl
  |some n=>
   simp only[Option.bind_some,iadG]
   split<;>rfl
 |_=>rfl
@[go_sem] theorem xi_idx {x i:Opd}:sxI P D σ env h τ k (.idx x i)=bindX (idxG (x.ev env) (natOf (some (i.ev env)))) k h τ:=by
 simp only[sxI,exec]
 cases x.ev env with
 |str s=>
  simp only
  cases natOf (some (i.ev env)) with
  |none=>rfl
  |some n=>
   simp only[Option.bind_some,idxG]
   cases s[n]? <;>rfl
 |_=>rfl
@[go_sem] theorem xi_ext {i:Nat} {x:Opd}:sxI P D σ env h τ k (.ext i x)=bindX (extG i (x.ev env)) k h τ:=by
 simp only[sxI,exec]
 cases x.ev env with
 |tup vs=>
  simp only[extG]
  cases vs[i]? with
  |none=>rfl
  |some v=>cases v<;>rfl
 |_=>rfl
@[go_sem] theorem xi_len {s:Bool} {x:Opd}:sxI P D σ env h τ k (.len s x)=bindX ((lenG s (x.ev env)).map fun n=>.int .i64 n) k h τ:=by
 simp only[sxI,exec]
 cases lenG s (x.ev env)<;>rfl
@[go_sem] theorem xi_app {z b:Nat} {ze:List GV} {s x:Opd}:sxI P D σ env h τ k (.app z b ze s x)=genX σ D τ (appV z b τ (s.ev env) (x.ev env)) k:=(rfl)
@[go_sem] theorem xi_mm {m:Bool} {x y:Opd}:sxI P D σ env h τ k (.mm m x y)=bindX (mmG m (x.ev env) (y.ev env)) k h τ:=by
 simp only[sxI,exec]
 cases x.ev env<;>first|rfl|skip
 cases y.ev env<;>rfl
@[go_sem] theorem xi_clr {z:Nat} {ze:List GV} {x:Opd}:sxI P D σ env h τ k (.clr z ze x)=genX σ D τ (clrG z ze τ (x.ev env)) k:=(rfl)
@[go_sem] theorem xi_pan:sxI P D σ env h τ k .pan=False:=(rfl)
@[go_sem] theorem xi_mkm:sxI P D σ env h τ k .mkm=genX σ D τ (some (.mp τ.length,τ++[some (.map [])])) k:=(rfl)
@[go_sem] theorem xi_mlk {ks:List Sc} {z:GV} {ok:Bool} {m k':Opd}:sxI P D σ env h τ k (.mlk ks z ok m k')=bindX (mlkG τ ks z ok (m.ev env) (k'.ev env)) k h τ:=(rfl)
@[go_sem] theorem xi_mup {ks:List Sc} {m k' v:Opd}:sxI P D σ env h τ k (.mup ks m k' v)=genX σ D τ (mupG τ ks (m.ev env) (k'.ev env) (v.ev env)) k:=(rfl)
@[go_sem] theorem xi_call {f:Nat} {xs:List Opd}:sxI P D σ env h τ k (.call f xs)=callX P σ D τ f (xs.map (·.ev env)) k:=(rfl)
@[go_sem] theorem xi_callv {x:Opd} {xs:List Opd}:sxI P D σ env h τ k (.callv x xs)=fnX P σ D τ (xs.map (·.ev env)) k (x.ev env):=(rfl)
@[go_sem] theorem fnX_fn {f:Nat} {caps:List (Nat×Nat)} {args:List GV}:fnX P σ D τ args k (.fn f caps)=callX P σ D τ f (args++caps.map fun c=>.ptr c.1 c.2) k:=(rfl)
@[go_sem] theorem xi_chk {d' n t:Nat} {g:Bool}:sxI P D σ env h τ k (.chk d' (.ld g n (.t t)))=(ldX σ h τ g n (env t)=some (env d')∧k (.tup []) h τ):=(rfl)
@[go_sem] theorem allocX_def {z:Nat} {cs:List GV} {v:Nat→GV}:allocX σ h z cs v k=∀ n,frX σ h n→∀ τ',Hx σ τ' (.box z n cs::h)→k (v n) (.box z n cs::h) τ':=(rfl)
@[go_sem] theorem frX_nil {n:Nat}:frX σ [] n=(σ.length≤n):=(rfl)
@[go_sem] theorem frX_box {z m n:Nat} {cs:List GV}:frX σ (.box z m cs::h) n=(m<n∧frX σ h n):=(rfl)
@[go_sem] theorem frX_th {n:Nat} {q:Thg}:frX σ (.th q::h) n=frX σ h n:=(rfl)
@[go_sem] theorem look_eq {z n:Nat} {cs:List GV}:look (.box z n cs::h) n=some cs:=by simp[look]
@[go_sem low] theorem look_ne {z m n:Nat} {cs:List GV} (hn:m≠n):look (.box z m cs::h) n=look h n:=by simp[look,hn]
@[go_sem] theorem look_th {n:Nat} {q:Thg}:look (.th q::h) n=look h n:=(rfl)
@[go_sem] theorem upd_eq {z n:Nat} {cs ds:List GV}:upd (.box z n cs::h) n ds= .box z n ds::h:=by simp[upd]
@[go_sem low] theorem upd_ne {z m n:Nat} {cs ds:List GV} (hn:m≠n):upd (.box z m cs::h) n ds= .box z m cs::upd h n ds:=by simp[upd,hn]
@[go_sem] theorem upd_th {n:Nat} {q:Thg} {ds:List GV}:upd (.th q::h) n ds= .th q::upd h n ds:=(rfl)
@[go_sem] theorem ldX_ptr {g:Bool} {n b off:Nat} (hb:σ.length≤b):ldX σ h τ g n (.ptr b off)=ldB (look h b) g n off (ldG g n τ (.ptr b off)):=by
 have:ldG g n σ (.ptr b off)=none:=by
  simp only[ldG,rdB]
  rw[List.getElem?_eq_none hb];rfl
 simp only[ldX,this,orX,ldY]
@[go_sem] theorem ldX_at {g:Bool} {n z i:Nat} {v:GV}:ldX σ h τ g n (atz z v i)=orX (ldG g n σ (atz z v i)) (ldY h τ g n (atz z v i)):=(rfl)
@[go_sem] theorem ldX_fld {g:Bool} {n z i m:Nat} {v:GV}:ldX σ h τ g n (fld m (atz z v i))=orX (ldG g n σ (fld m (atz z v i))) (ldY h τ g n (fld m (atz z v i))):=(rfl)
@[go_sem] theorem orX_some {x:GV} {b:Option GV}:orX (some x) b=some x:=(rfl)
@[go_sem] theorem orX_none {b:Option GV}:orX none b=b:=(rfl)
@[go_sem] theorem ldB_some {cs:List GV} {g:Bool} {n off:Nat} {e:Option GV}:ldB (some cs) g n off e=(seg cs off n).bind (mkv g):=(rfl)
@[go_sem] theorem cells_i {kd:IntKind} {n:Int}:(GV.int kd n).cells=[.int kd n]:=(rfl)
@[go_sem] theorem cells_s {s:ByteArray}:(GV.str s).cells=[.str s]:=(rfl)
@[go_sem] theorem cells_b {b:Bool}:(GV.bool b).cells=[.bool b]:=(rfl)
@[go_sem] theorem cells_p {n o:Nat}:(GV.ptr n o).cells=[.ptr n o]:=(rfl)
@[go_sem] theorem cells_l {n o l:Nat}:(GV.sl n o l).cells=[.sl n o l]:=(rfl)
@[go_sem] theorem cells_a {cs:List GV}:(GV.agg cs).cells=cs:=(rfl)
@[go_sem] theorem cells_n:(GV.nilS).cells=[.nilS]:=(rfl)
@[go_sem] theorem cells_m {n:Nat}:(GV.mp n).cells=[.mp n]:=(rfl)
@[go_sem] theorem cells_f {f:Nat} {c:List (Nat×Nat)}:(GV.fn f c).cells=[.fn f c]:=(rfl)
@[go_sem] theorem notTup_p {n o:Nat}:notTup (.ptr n o)=true:=(rfl)
@[go_sem] theorem notTup_m {n:Nat}:notTup (.mp n)=true:=(rfl)
@[go_sem] theorem notTup_f {f:Nat} {c:List (Nat×Nat)}:notTup (.fn f c)=true:=(rfl)
@[go_sem] theorem xc_skip:sxc P σ .skip Q env h τ=Q .nxt env h τ:=(rfl)
@[go_sem] theorem xc_reg {os:List Op1}:sxc P σ (.reg os) Q env h τ=sx P false σ os (Q .nxt) env h τ:=(rfl)
@[go_sem] theorem xc_drw {a1 bs:List Op1}:sxc P σ (.drw a1 bs) Q env h τ=sx P true σ a1 (sx P false σ bs (Q .nxt)) env h τ:=(rfl)
@[go_sem] theorem xc_seq {a b:Cd}:sxc P σ (.seq a b) Q env h τ=sxc P σ a (fun e=>match e with
  | .nxt=>sxc P σ b Q
  |e=>Q e) env h τ:=(rfl)
@[go_sem] theorem xc_cnd {c:Opd} {a b:Cd}:sxc P σ (.cnd c a b) Q env h τ=ifS P σ a b Q env h τ (c.ev env).bit:=by
 show ifX _ _ _=_
 cases(c.ev env).bit<;>rfl
@[go_sem] theorem xc_blk {id:Nat} {a:Cd}:sxc P σ (.blk id a) Q env h τ=sxc P σ a (fun e=>match e with
  | .ext j=>if j=id then Q .nxt else Q (.ext j)
  |e=>Q e) env h τ:=(rfl)
@[go_sem] theorem xc_ext {id:Nat}:sxc P σ (.ext id) Q env h τ=Q (.ext id) env h τ:=(rfl)
@[go_sem] theorem xc_ret:sxc P σ .ret Q env h τ=Q .ret env h τ:=(rfl)
@[go_sem] theorem rsX_t {n:Nat}:rsX σ h τ env (.t n)=some (env n):=(rfl)
@[go_sem] theorem rsX_c {a n:Nat} {g:Bool}:rsX σ h τ env (.c a g n)=ldX σ h τ g n (env a):=(rfl)
@[go_sem] theorem resX_1 {x:Rs}:resX σ h τ env [x]=rsX σ h τ env x:=(rfl)
@[go_sem] theorem resX_0:resX σ h τ env []=some (.tup []):=(rfl)
@[go_sem] theorem resX_2 {x y:Rs}:resX σ h τ env [x,y]=tup2 (rsX σ h τ env x) (rsX σ h τ env y):=by
 simp only[resX,optAll,tup2]
 cases rsX σ h τ env x with
 |none=>rfl
 |some u=>cases rsX σ h τ env y<;>simp
@[go_sem] theorem resX_3 {x y z:Rs}:resX σ h τ env [x,y,z]=tup3 (rsX σ h τ env x) (rsX σ h τ env y) (rsX σ h τ env z):=by
 simp only[resX,optAll,tup3]
 cases rsX σ h τ env x with
 |none=>rfl
 |some u=>cases rsX σ h τ env y with
  |none=>rfl
  |some v=>cases rsX σ h τ env z<;>simp
end words
end Go.Proofs.YtffnefmklckngaaGreat.Sy
namespace Go.Proofs.YtffnefmklckngaaGreat.Sy
open Go Go.RowKit
set_option linter.unusedSimpArgs false
set_option linter.unusedVariables false
theorem sat_feet {τ:St}:∀ {rs:List Thg} {fp:List Nat},sat τ rs fp→fp.Nodup→∃ F:Nat→List Nat,(∀ (i:Nat) (r:Thg),rs[i]? =some r→r.P τ (F i))∧(∀ i,(F i).Nodup)∧(∀ i j,i≠j→∀ g∈F i,g∉F j)∧∀ i,∀ g∈F i,g∈fp
 |[],fp,h,hn=>⟨fun _=>[],by simp,by simp,by simp,by simp⟩
 |r::rs,_,⟨a,b,hr,hs,rfl⟩,hn=>by
  rw[List.nodup_append] at hn
  obtain⟨F,h1,h2,h3,h4⟩:=sat_feet hs hn.2.1
  refine⟨fun i=>match i with|0=>a|i+1=>F i,?_,?_,?_,?_⟩
  ·intro i s hi
   cases i with
   |zero=>simp at hi;subst hi;exact hr
   |succ i=>exact h1 i s (by simpa using hi)
  ·intro i;cases i with
   |zero=>exact hn.1
   |succ i=>exact h2 i
  ·intro i j hij g hg
   cases i with
   |zero=>cases j with
    |zero=>exact absurd rfl hij
    |succ j=>exact fun h=>hn.2.2 g hg g (h4 j g h) rfl
   |succ i=>cases j with
    |zero=>exact fun h=>hn.2.2 g h g (h4 i g hg) rfl
    |succ j=>exact h3 i j (by omega) g hg
  ·intro i g hg
   cases i with
   |zero=>exact List.mem_append_left _ hg
   |succ i=>exact List.mem_append_right _ (h4 i g hg)
theorem sat_sel {τ:St} {rs:List Thg} {F:Nat→List Nat} (h1:∀(i:Nat) (r:Thg),rs[i]? =some r→r.P τ (F i)) (h2:∀ i,(F i).Nodup) (h3:∀ i j,i≠j→∀ g∈F i,g∉F j):∀ {is:List Nat},is.Nodup→∃ fp,sat τ (is.filterMap (rs[·]?)) fp∧fp.Nodup∧∀ g∈fp,∃ i∈is,g∈F i
 |[],_=>⟨[],rfl,by simp,by simp⟩
 |i::is,hn=>by
  rw[List.nodup_cons] at hn
  obtain⟨fp,k1,k2,k3⟩:=sat_sel h1 h2 h3 hn.2
  cases hi:rs[i]? with
  |none=>exact⟨fp,by rw[List.filterMap_cons,hi];exact k1,k2,fun g hg=>by obtain⟨j,hj,h⟩:=k3 g hg;exact⟨j,List.mem_cons_of_mem _ hj,h⟩⟩
  |some r=>
   refine⟨F i++fp,by rw[List.filterMap_cons,hi];exact⟨F i,fp,h1 i r hi,k1,rfl⟩,List.nodup_append.2 ⟨h2 i,k2,fun x hx y hy e=> ?_⟩,fun g hg=> ?_⟩
   ·subst e
    obtain⟨j,hj,h⟩:=k3 x hy
    exact h3 i j (fun e=>hn.1 (by rw[e];exact hj)) x hx h
   ·rcases List.mem_append.1 hg with hg|hg
    ·exact⟨i,List.mem_cons_self,hg⟩
    ·obtain⟨j,hj,h⟩:=k3 g hg;exact⟨j,List.mem_cons_of_mem _ hj,h⟩
theorem Hp.sel {σ τ:St} {rs:List Thg} (H:Hp σ τ rs) (is:List Nat) (hn:is.Nodup):Hp σ τ (is.filterMap (rs[·]?)):=by
 obtain⟨h,fp,hs,hnd,hb⟩:=H
 obtain⟨F,h1,h2,h3,h4⟩:=sat_feet hs hnd
 obtain⟨fp',k1,k2,k3⟩:=sat_sel h1 h2 h3 hn
 exact⟨h,fp',k1,k2,fun g hg=>by obtain⟨i,_,hi⟩:=k3 g hg;exact hb g (h4 i g hi)⟩
theorem Hx.sel {σ τ:St} {h:List Item} (H:Hx σ τ h) (is:List Nat) (hn:is.Nodup):Hp σ τ (is.filterMap ((h.map Item.t)[·]?)):=Hp.sel H is hn
theorem Hx.re {σ τ:St} {h:List Item} (H:Hx σ τ h) (is:List Nat) (hn:is.Nodup):Hx σ τ (is.filterMap (h[·]?)):=by
 have e:(is.filterMap (h[·]?)).map Item.t=is.filterMap ((h.map Item.t)[·]?):=by
  induction is with
  |nil=>rfl
  |cons i is ih=>
   have ih:=ih (List.nodup_cons.1 hn).2
   rw[List.filterMap_cons,List.filterMap_cons,List.getElem?_map]
   cases h[i]? with
   |none=>exact ih
   |some x=>simp only[Option.map_some,List.map_cons,ih]
 unfold Hx
 rw[e]
 exact H.sel is hn
section os
variable {α:Type} {d:Kd α} {σ τ:St} {l:List α} {v:GV} {fp:List Nat}
end os
theorem RS_one {α:Type} {p:Pl α} {τ:St} {n:Nat} {x:α} (h:rdB τ n=some (p.enc x)):RS p.kd τ (.sl n 0 1) [x]:=by
 refine .inr ⟨n,0,p.enc x,rfl,h,?_,fun i y hy=> ?_⟩
 ·show 0+1*p.z≤_;rw[p.len];omega
 ·have hi:i<1:=by simpa using (List.getElem?_eq_some_iff.1 hy).1
  have hi:i=0:=by omega
  subst hi
  simp at hy;subst hy
  show List.take p.z (List.drop (0+0*p.z) (p.enc x))=p.enc x
  simp only[Nat.zero_mul,Nat.add_zero,List.drop_zero]
  exact List.take_of_length_le (by rw[p.len];exact Nat.le_refl _)
section rules
variable {P:Program} {D:Bool} {σ τ τ':St} {env:Env} {h:List Item} {k:Kx} {f:Nat} {args:List GV} {v:GV} {α:Type}
theorem map_th {rs:List Thg} {h:List Item}:(rs.map Item.th++h).map Item.t=rs++h.map Item.t:=by
 rw[List.map_append,List.map_map]
 congr 1
 exact List.map_id _
theorem by_cs {rs:List Thg} (H:Hx σ τ h) (R:Ret P f args τ v τ') (K:Hp τ τ' rs) (kk:Hx σ τ' (rs.map Item.th++h)→k v (rs.map Item.th++h) τ'):callX P σ D τ f args k:=by
 have H':Hx σ τ' (rs.map Item.th++h):=by unfold Hx;rw[map_th];exact H.hp.add K
 exact⟨v,τ',_,R,fun _=>K.sub,H',kk H'⟩
theorem by_c {r:Thg} (H:Hx σ τ h) (R:Ret P f args τ v τ') (K:Hp τ τ' [r]) (kk:Hx σ τ' (.th r::h)→k v (.th r::h) τ'):callX P σ D τ f args k:=by_cs H R K kk
theorem by_r (H:Hx σ τ h) (R:Ret P f args τ v τ) (kk:k v h τ):callX P σ D τ f args k:=⟨v,τ,h,R,fun _=>List.prefix_refl _,H,kk⟩
theorem by_b {b:Bool} (H:Hx σ τ h) (R:Ret P f args τ (.bool b) τ) (h1:b=true→k (.bool true) h τ) (h2:b=false→k (.bool false) h τ):callX P σ D τ f args k:=by
 refine by_r H R ?_
 cases b with
 |true=>exact h1 rfl
 |false=>exact h2 rfl
theorem by_m {h':List Item} (R:Ret P f args τ v τ') (H:Hx σ τ' h') (kk:k v h' τ'):callX P σ false τ f args k:=⟨v,τ',h',R,(fun h=>by cases h),H,kk⟩
theorem set_t {h:List Item} {i:Nat} {r:Thg}:(h.set i (.th r)).map Item.t=(h.map Item.t).set i r:=List.map_set ..
theorem at_t {h:List Item} {i:Nat} {r:Thg} (hi:h[i]? =some (.th r)):(h.map Item.t)[i]? =some r:=by rw[List.getElem?_map,hi];rfl
theorem by_app1 {p:Pl α} {b8 n:Nat} {l:List α} (H:Hx σ τ h) (i:Nat) (hi:h[i]? =some (.th (ow p.kd v l))) (x:α) (hl:look h n=some (p.enc x)) (hz:0<p.z) (hb:(l.length+1)*b8≤140737488355328)
  (kk:∀ v' τ',Hx σ τ' (h.set i (.th (ow p.kd v' (l++[x]))))→k v' (h.set i (.th (ow p.kd v' (l++[x])))) τ'):genX σ false τ (appV p.z b8 τ v (.sl n 0 1)) k:=by
 obtain⟨z,j,h1,_⟩:=look_at hl
 obtain⟨v',τ',e,H'⟩:=H.hp.app (by8:=b8) i (at_t hi) (RS_one (H.hp.pt j h1)) hz hb
 rw[← set_t] at H'
 exact⟨v',τ',_,e,(fun h=>by cases h),H',kk v' τ' H'⟩
theorem map_era:∀(h:List Item) (j:Nat),(h.map Item.t).eraseIdx j=(h.eraseIdx j).map Item.t
 |[],_=>rfl
 |x::h,0=>rfl
 |x::h,j+1=>by simp only[List.map_cons,List.eraseIdx_cons_succ,map_era h j]
theorem by_cp {p:Pl α} {b8 n:Nat} {m:List α} {u:GV} (H:Hx σ τ (.box p.z n []::h)) (hu:RS p.kd τ u m) (hz:0<p.z) (hb:m.length*b8≤140737488355328)
  (kk:∀ v' τ',Hx σ τ' (.th (ow p.kd v' m)::h)→k v' (.th (ow p.kd v' m)::h) τ'):genX σ D τ (appV p.z b8 τ (.sl n 0 0) u) k:=by
 have hu':RdN p.en τ u m:=hu
 have ha:appV p.z b8 τ (.sl n 0 0) u=appG p.z b8 τ (.sl n 0 0) m.length (p.cells m):=by
  have he:=hu'.elems
  unfold appV
  rcases hu' with⟨rfl,rfl|rfl⟩|⟨g,off,cs,rfl,_⟩<;>simp only[he,Option.bind_some]
 rw[ha]
 by_cases hm:m.length=0
 ·have:m=[]:=List.eq_nil_of_length_eq_zero hm
  subst this
  have H1:Hx σ τ (.th (ow p.kd (.sl n 0 0) [])::h):=H.hp.toNil (d:=p.kd) 0 rfl rfl
  exact⟨.sl n 0 0,τ,_,by simp[appG,isSl],fun _=>List.prefix_refl _,H1,kk _ _ H1⟩
 ·obtain⟨a,ha,_⟩:=H.hp.see (i:=0) rfl
  have hB:=bk_some.1 ha.2
  have H1:Hx σ (τ++[some (.row p.z (p.cells m))]) (.th (ow p.kd (.sl τ.length 0 m.length) m)::h):=(H.hp.drop1.new p.z (p.cells m)).toRow 0 rfl m rfl rfl _ rfl
  refine⟨.sl τ.length 0 m.length,τ++[some (.row p.z (p.cells m))],_,?_,fun _=>pre1 _ _,H1,kk _ _ H1⟩
  simp only[appG,hB,if_neg hm]
  rw[if_pos ⟨trivial,trivial,trivial,trivial,hb⟩]
theorem genX_mono {e:Option (GV×St)} {k k':Kx} (hk:∀ v h τ,k v h τ→k' v h τ):genX σ D τ e k→genX σ D τ e k':=fun⟨v,τ',h',h1,h2,h3,h4⟩=>⟨v,τ',h',h1,h2,h3,hk _ _ _ h4⟩
theorem alloc_mono {z:Nat} {cs:List GV} {w:Nat→GV} {k k':Kx} (hk:∀ v h τ,k v h τ→k' v h τ) (e:allocX σ h z cs w k):allocX σ h z cs w k':=fun n hf τ' H=>hk _ _ _ (e n hf τ' H)
theorem sxI_mono {k k':Kx} (hk:∀ v h τ,k v h τ→k' v h τ):∀ {i:Ins},sxI P D σ env h τ k i→sxI P D σ env h τ k' i:=by
 have bm:∀ {v:Option GV},bindX v k h τ→bindX v k' h τ:=fun {v} e=>by
  cases v with
  |none=>exact e
  |some v=>exact hk _ _ _ e
 intro i e
 cases i with
 |new cs=>exact alloc_mono hk e
 |box x=>exact⟨e.1,alloc_mono hk e.2⟩
 |lit z len zero parts=>
  simp only[sxI] at e ⊢
  revert e
  cases fillG zero (parts.map fun p=>(p.1,p.2.1,p.2.2.ev env)) with
  |none=>exact id
  |some cs=>exact alloc_mono hk
 |mks z b ze n c=>
  simp only[sxI] at e ⊢
  revert e
  cases natOf (some (n.ev env)) with
  |none=>exact id
  |some n=>cases natOf (some (c.ev env)) with
   |none=>exact id
   |some c=>exact fun e=>⟨e.1,e.2.1,alloc_mono hk e.2.2⟩
 |st n a x=>
  simp only[sxI] at e ⊢
  revert e
  cases a.ev env with
  |ptr b off=>
   simp only[stX]
   unfold stB
   cases look h b with
   |none=>exact genX_mono hk
   |some cs=>exact fun e=>⟨e.1,fun τ' H=>hk _ _ _ (e.2 τ' H)⟩
  |_=>exact genX_mono hk
 |call f xs=>
  obtain⟨v,τ',h',h1,h2,h3,h4⟩:=e
  exact⟨v,τ',h',h1,h2,h3,hk _ _ _ h4⟩
 |callv x xs=>
  simp only[sxI] at e ⊢
  revert e
  cases x.ev env with
  |fn f caps=>exact fun⟨v,τ',h',h1,h2,h3,h4⟩=>⟨v,τ',h',h1,h2,h3,hk _ _ _ h4⟩
  |_=>exact id
 |chk d x=>
  cases x with
  |ld g n a=>cases a with
   |t t=>exact⟨e.1,hk _ _ _ e.2⟩
   |k v=>exact e
  |_=>exact e
 |app z b ze s x=>exact genX_mono hk e
 |clr z ze x=>exact genX_mono hk e
 |mkm=>exact genX_mono hk e
 |mup ks m k2 v=>exact genX_mono hk e
 |mov x=>exact hk _ _ _ e
 |pan=>exact e
 |_=>exact bm e
theorem sx_mono:∀ {os:List Op1} {K K':Env→List Item→St→Prop} {env:Env} {h:List Item} {τ:St},(∀ env h τ,K env h τ→K' env h τ)→sx P D σ os K env h τ→sx P D σ os K' env h τ
 |[],K,K',env,h,τ,hk,e=>hk _ _ _ e
 |o::r,K,K',env,h,τ,hk,e=>by
  simp only[sx] at e ⊢
  have y:sxI P D σ env h τ (fun v h' τ'=>sx P D σ r K (upo env o.d v) h' τ') o.i→sxI P D σ env h τ (fun v h' τ'=>sx P D σ r K' (upo env o.d v) h' τ') o.i:=sxI_mono fun v h τ=>sx_mono hk
  have n:sx P D σ r K (upo env o.d (.tup [])) h τ→sx P D σ r K' (upo env o.d (.tup [])) h τ:=sx_mono hk
  revert e
  cases o.g.map fun g=>((env g.1).bit,g.2) with
  |none=>exact y
  |some q=>
   obtain⟨c,b⟩:=q
   cases c with
   |none=>exact n
   |some c=>exact fun e=>⟨fun hc=>y (e.1 hc),fun hc=>n (e.2 hc)⟩
theorem sxc_mono {d:Cd}:∀ {Q Q':Qx} {env:Env} {h:List Item} {τ:St},(∀ e env h τ,Q e env h τ→Q' e env h τ)→sxc P σ d Q env h τ→sxc P σ d Q' env h τ:=by
 induction d with
 |skip=>intro Q Q' env h τ hq e;exact hq _ _ _ _ e
 |reg ops=>intro Q Q' env h τ hq e;exact sx_mono (hq _) e
 |drw a1 bs=>intro Q Q' env h τ hq e;exact sx_mono (fun _ _ _=>sx_mono (hq _)) e
 |seq a b iha ihb=>
  intro Q Q' env h τ hq e
  refine iha (fun e env h τ he=> ?_) e
  cases e with
  |nxt=>exact ihb hq he
  |ext j=>exact hq _ _ _ _ he
  |ret=>exact hq _ _ _ _ he
 |cnd c a b iha ihb=>
  intro Q Q' env h τ hq e
  simp only[sxc] at e ⊢
  unfold ifX at e ⊢
  split
  ·rename_i hc;rw[hc] at e;exact⟨fun k=>iha hq (e.1 k),fun k=>ihb hq (e.2 k)⟩
  ·rename_i hc;rw[hc] at e;exact e
 |blk id a ih=>
  intro Q Q' env h τ hq e
  refine ih (fun e env h τ he=> ?_) e
  cases e with
  |nxt=>exact hq _ _ _ _ he
  |ext j=>
   simp only at he ⊢
   split at he
   ·rename_i hj;rw[if_pos hj];exact hq _ _ _ _ he
   ·rename_i hj;rw[if_neg hj];exact hq _ _ _ _ he
  |ret=>exact hq _ _ _ _ he
 |lop a ih=>
  intro Q Q' env h τ hq e
  obtain⟨I,n,h0,H0,hI,hs⟩:=e
  refine⟨I,n,h0,H0,hI,fun k env h τ H hi=>ih (fun e env' h' τ' he=> ?_) (hs k env h τ H hi)⟩
  cases e with
  |nxt=>exact he
  |ext j=>obtain⟨h1,H1,he⟩:=he;exact⟨h1,H1,hq _ _ _ _ he⟩
  |ret=>obtain⟨h1,H1,he⟩:=he;exact⟨h1,H1,hq _ _ _ _ he⟩
 |ext id=>intro Q Q' env h τ hq e;exact hq _ _ _ _ e
 |ret=>intro Q Q' env h τ hq e;exact hq _ _ _ _ e
variable {a b:Cd} {Q:Qx}
theorem sx_lop (n j0:Nat) (I:Nat→Env→List Item→Prop) (X Z:Env→List Item→Prop) (h0:List Item) (H0:Hx σ τ h0) (hI:I n env h0)
  (hs:∀(J:Nat→Env→St→Prop) (Y W:Env→St→Prop),(∀ i env h τ,Hx σ τ h→I i env h→J i env τ)→(∀ env h τ,Hx σ τ h→X env h→Y env τ)→(∀ env h τ,Hx σ τ h→Z env h→W env τ)→∀ i env h τ,Hx σ τ h→I i env h→sxc P σ a (fun e env' h' τ'=>match e with
   | .nxt=>∃ i',i'<i∧J i' env' τ'
   | .ext j=>j=j0∧Y env' τ'
   | .ret=>W env' τ') env h τ)
  (hx:∀ env h τ,Hx σ τ h→X env h→Q (.ext j0) env h τ) (hz:∀ env h τ,Hx σ τ h→Z env h→Q .ret env h τ):sxc P σ (.lop a) Q env h τ:=by
 refine⟨fun i env h τ=>I i env h,n,h0,H0,hI,fun i env h τ H hi=>sxc_mono (fun e env' h' τ' he=> ?_) (hs (fun i env τ=>∃ h,Hx σ τ h∧I i env h) (fun env τ=>∃ h,Hx σ τ h∧X env h) (fun env τ=>∃ h,Hx σ τ h∧Z env h) (fun _ _ h _ H e=>⟨h,H,e⟩) (fun _ h _ H e=>⟨h,H,e⟩) (fun _ h _ H e=>⟨h,H,e⟩) i env h τ H hi)⟩
 cases e with
 |nxt=>obtain⟨i',h1,h2,h3,h4⟩:=he;exact⟨i',h2,h1,h3,h4⟩
 |ext j=>obtain⟨rfl,h2,h3,h4⟩:=he;exact⟨h2,h3,hx _ _ _ h3 h4⟩
 |ret=>obtain⟨h2,h3,h4⟩:=he;exact⟨h2,h3,hz _ _ _ h3 h4⟩
theorem sx_for (n ri j0:Nat) (I:Nat→Env→List Item→Prop) (X Z:Env→List Item→Prop) (h0:List Item) (H0:Hx σ τ h0) (hr:env ri=gi 0) (hI:I 0 env h0)
  (hs:∀(J:Nat→Env→St→Prop) (Y W:Env→St→Prop),(∀ i env h τ,Hx σ τ h→I i env h→J i env τ)→(∀ env h τ,Hx σ τ h→X env h→Y env τ)→(∀ env h τ,Hx σ τ h→Z env h→W env τ)→∀ i env h τ,i<n→env ri=gi i→decide ((i:Int)<n)=true→Hx σ τ h→I i env h→sxc P σ a (fun e env' h' τ'=>match e with
   | .nxt=>env' ri=gi ((i:Int)+1)∧J (i+1) env' τ'
   | .ext j=>j=j0∧Y env' τ'
   | .ret=>W env' τ') env h τ)
  (he:∀(Y:Env→St→Prop),(∀ env h τ,Hx σ τ h→X env h→Y env τ)→∀ env h τ,env ri=gi n→decide ((n:Int)<n)=false→Hx σ τ h→I n env h→sxc P σ a (fun e env' h' τ'=>match e with
   | .nxt=>False
   | .ext j=>j=j0∧Y env' τ'
   | .ret=>False) env h τ)
  (hx:∀ env h τ,Hx σ τ h→X env h→Q (.ext j0) env h τ) (hz:∀ env h τ,Hx σ τ h→Z env h→Q .ret env h τ):sxc P σ (.lop a) Q env h τ:=by
 refine sx_lop n j0 (fun k env h=>∃ i:Nat,k=n - i∧i≤n∧env ri=gi i∧I i env h) X Z h0 H0 ⟨0,rfl,Nat.zero_le _,hr,hI⟩ (fun J Y W hJ hY hW k env h τ H hi=> ?_) hx hz
 obtain⟨i,rfl,h1,h2,h3⟩:=hi
 rcases Nat.lt_or_ge i n with hlt|hge
 ·refine sxc_mono (fun e env' h' τ' q=> ?_) (hs (fun i' env τ=>i'≤n→env ri=gi i'→J (n - i') env τ) Y W (fun j env h τ H e hj hr=>hJ _ env h τ H ⟨j,rfl,hj,hr,e⟩) hY hW i env h τ hlt h2 (by simp;omega) H h3)
  cases e with
  |nxt=>exact⟨n - (i+1),by omega,q.2 (by omega) q.1⟩
  |ext j=>exact q
  |ret=>exact q
 ·obtain rfl:i=n:=by omega
  refine sxc_mono (fun e env' h' τ' q=> ?_) (he Y hY env h τ h2 (by simp) H h3)
  cases e with
  |nxt=>exact q.elim
  |ext j=>exact q
  |ret=>exact q.elim
theorem ret_xe {F:Fn1} {r:GV} (hF:compFn P f=some F) (hl:args.length≤F.n) (hr:vLt σ.length r)
  (hc:sxc P σ F.c (fun e env h τ=>Hx σ τ h→isOut e=true∧resX σ h τ env F.rs=some r) (env0 args) [] σ):Ret P f args σ r σ:=
 ret_eq hF hl hr (vc_mono (sxc_sound (Hx.refl σ) hc) fun e env τ he=>by
  obtain⟨_,h,H,hq⟩:=he
  exact⟨(hq H).1,resX_sound H (hq H).2,H.sub⟩)
end rules
end Go.Proofs.YtffnefmklckngaaGreat.Sy
namespace Go.Proofs.YtffnefmklckngaaGreat.Sy
open Go Go.RowKit
set_option linter.unusedSimpArgs false
set_option linter.unusedVariables false
set_option maxRecDepth 4000
abbrev n_i_DeltaOk:Nat:=109
def F_i_DeltaOk:Fn1:=⟨103,[.t 2],(.seq (.reg [o 1 (.box (.t 0)),o 2 (.mov (.k (.bool false)))]) (.seq (.seq (.reg [o 9 (.fad 0 (.t 1)),o 10 (.ld false 1 (.t 9)),o 11 (.fad 1 (.t 1)),o 12 (.ld false 1 (.t 11)),o 13 (.call 151 [(.t 10),(.t 12)]),o 14 (.un .not (.t 13)),o 15 (.mov (.t 14)),og 16 15 false (.fad 2 (.t 1)),og 17 15 false (.ld false 1 (.t 16)),og 18 15 false (.call 171 [(.t 17)]),og 19 15 false (.un .not (.t 18)),o 20 (.pick (.t 15) (.k (.bool true)) (.t 19)),o 21 (.mov (.t 20)),og 22 21 false (.fad 3 (.t 1)),og 23 21 false (.ld false 1 (.t 22)),og 24 21 false (.fad 1 (.t 1)),og 25 21 false (.ld false 1 (.t 24)),og 26 21 false (.call 172 [(.t 23),(.t 25)]),og 27 21 false (.un .not (.t 26)),o 28 (.pick (.t 21) (.k (.bool true)) (.t 27)),o 29 (.mov (.t 28)),og 30 29 false (.fad 5 (.t 1)),og 31 29 false (.ld false 1 (.t 30)),og 32 29 false (.fad 1 (.t 1)),og 33 29 false (.ld false 1 (.t 32)),og 34 29 false (.call 173 [(.t 31),(.t 33)]),og 35 29 false (.un .not (.t 34)),o 36 (.pick (.t 29) (.k (.bool true)) (.t 35)),o 37 (.mov (.t 36)),og 38 37 false (.fad 4 (.t 1)),og 39 37 false (.ld false 1 (.t 38)),og 40 37 false (.len false (.t 39)),og 41 37 false (.bin .gtr (.t 40) (.k (.int .i64 120))),o 42 (.pick (.t 37) (.k (.bool true)) (.t 41))]) (.cnd (.t 42) (.seq (.reg [o 2 (.mov (.k (.bool false)))]) .ret) .skip)) (.seq (.seq (.reg [o 43 (.fad 3 (.t 1)),o 44 (.ld false 1 (.t 43)),o 45 (.len false (.t 44)),o 46 (.mov (.k (.int .i64 0)))]) (.blk 0 (.lop (.seq (.reg [o 47 (.bin .lss (.t 46) (.t 45))]) (.seq (.cnd (.t 47) .skip (.ext 0)) (.seq (.blk 1 (.seq (.reg [o 48 (.iad 6 (.t 44) (.t 46)),o 49 (.ld true 6 (.t 48)),o 4 (.new [(.bool false),(.str ⟨#[]⟩),(.str ⟨#[]⟩),(.int .i64 0),(.int .i64 0),(.int .i64 0)]),on (.st 6 (.t 4) (.t 49))]) (.seq (.reg [o 50 (.fad 0 (.t 1)),o 51 (.ld false 1 (.t 50)),o 52 (.fad 4 (.t 4)),o 53 (.ld true 2 (.t 52)),o 54 (.call 150 [(.t 51),(.t 53)])]) (.cnd (.t 54) (.seq (.reg [o 2 (.mov (.k (.bool false)))]) .ret) .skip)))) (.reg [o 55 (.bin .add (.t 46) (.k (.int .i64 1))),o 46 (.mov (.t 55))]))))))) (.seq (.seq (.reg [o 56 (.fad 4 (.t 1)),o 57 (.ld false 1 (.t 56)),o 58 (.len false (.t 57)),o 59 (.mov (.k (.int .i64 0)))]) (.blk 2 (.lop (.seq (.reg [o 60 (.bin .lss (.t 59) (.t 58))]) (.seq (.cnd (.t 60) .skip (.ext 2)) (.seq (.blk 3 (.seq (.reg [o 61 (.mov (.t 59)),o 62 (.iad 2 (.t 57) (.t 59)),o 63 (.ld true 2 (.t 62)),o 6 (.new [(.int .i64 0),(.int .i64 0)]),o 5 (.mov (.t 61)),on (.st 2 (.t 6) (.t 63))]) (.seq (.drw [o 64 (.fad 0 (.t 1)),o 65 (.ld false 1 (.t 64)),o 66 (.ld true 2 (.t 6)),o 67 (.call 150 [(.t 65),(.t 66)]),o 68 (.un .not (.t 67)),o 69 (.mov (.t 68)),og 70 69 false (.mov (.t 5)),og 71 69 false (.bin .gtr (.t 70) (.k (.int .i64 0))),og 72 69 false (.mov (.t 71)),og 73 72 true (.fad 4 (.t 1)),og 74 72 true (.ld false 1 (.t 73)),og 75 72 true (.mov (.t 5)),og 76 72 true (.bin .sub (.t 75) (.k (.int .i64 1))),og 77 72 true (.iad 2 (.t 74) (.t 76)),og 78 72 true (.ld true 2 (.t 77)),og 79 72 true (.ld true 2 (.t 6))] [og 80 72 true (.call 174 [(.t 78),(.t 79)]),og 81 72 true (.bin .geq (.t 80) (.k (.int .i64 0))),og 82 69 false (.pick (.t 72) (.t 81) (.k (.bool false))),o 83 (.pick (.t 69) (.k (.bool true)) (.t 82))]) (.cnd (.t 83) (.seq (.reg [o 2 (.mov (.k (.bool false)))]) .ret) .skip)))) (.reg [o 84 (.bin .add (.t 59) (.k (.int .i64 1))),o 59 (.mov (.t 84))]))))))) (.seq (.seq (.reg [o 85 (.fad 5 (.t 1)),o 86 (.ld false 1 (.t 85)),o 87 (.len false (.t 86)),o 88 (.mov (.k (.int .i64 0)))]) (.blk 4 (.lop (.seq (.reg [o 89 (.bin .lss (.t 88) (.t 87))]) (.seq (.cnd (.t 89) .skip (.ext 4)) (.seq (.blk 5 (.seq (.reg [o 90 (.iad 8 (.t 86) (.t 88)),o 91 (.ld true 8 (.t 90)),o 8 (.new [(.str ⟨#[]⟩),(.int .i64 0),(.int .i64 0),(.int .i64 0),(.int .i64 0),(.int .i64 0),(.int .i64 0),(.bool false)]),on (.st 8 (.t 8) (.t 91))]) (.seq (.reg [o 92 (.fad 4 (.t 8)),o 93 (.ld true 2 (.t 92)),o 94 (.build [(.int .i64 0),(.int .i64 0)] []),o 95 (.eqs true [.i .i64,.i .i64] (.t 93) (.t 94)),o 96 (.mov (.t 95)),og 97 96 true (.fad 4 (.t 8)),og 98 96 true (.ld true 2 (.t 97)),og 99 96 true (.call 175 [(.t 98)]),og 100 96 true (.un .not (.t 99)),o 101 (.pick (.t 96) (.t 100) (.k (.bool false)))]) (.cnd (.t 101) (.seq (.reg [o 2 (.mov (.k (.bool false)))]) .ret) .skip)))) (.reg [o 102 (.bin .add (.t 88) (.k (.int .i64 1))),o 88 (.mov (.t 102))]))))))) (.seq (.reg [o 2 (.mov (.k (.bool true)))]) .ret))))))⟩
theorem ir_i_DeltaOk:compFn Tryz.prog n_i_DeltaOk=some F_i_DeltaOk:=by kernel_rfl
abbrev n_s_l11Dots:Nat:=166
def F_s_l11Dots:Fn1:=⟨36,[.t 2],(.seq (.reg [o 2 (.mov (.k (.bool false)))]) (.seq (.seq (.reg [o 3 (.mov (.k (.int .i64 0)))]) (.blk 0 (.lop (.seq (.seq (.reg [o 4 (.mov (.t 3)),o 5 (.mov (.t 0)),o 6 (.len false (.t 5)),o 7 (.bin .lss (.t 4) (.t 6))]) (.cnd (.t 7) .skip (.ext 0))) (.seq (.blk 1 (.seq (.drw [o 10 (.mov (.t 0)),o 11 (.mov (.t 3)),o 12 (.iad 2 (.t 10) (.t 11)),o 13 (.ld true 2 (.t 12)),o 14 (.call 141 [(.t 13)]),o 15 (.un .not (.t 14)),o 16 (.mov (.t 15)),og 17 16 false (.mov (.t 3)),og 18 16 false (.bin .gtr (.t 17) (.k (.int .i64 0))),og 19 16 false (.mov (.t 18)),og 20 19 true (.mov (.t 0)),og 21 19 true (.mov (.t 3)),og 22 19 true (.bin .sub (.t 21) (.k (.int .i64 1))),og 23 19 true (.iad 2 (.t 20) (.t 22)),og 24 19 true (.ld true 2 (.t 23)),og 25 19 true (.mov (.t 0)),og 26 19 true (.mov (.t 3)),og 27 19 true (.iad 2 (.t 25) (.t 26)),og 28 19 true (.ld true 2 (.t 27))] [og 29 19 true (.call 211 [(.t 24),(.t 28)]),og 30 19 true (.un .not (.t 29)),og 31 16 false (.pick (.t 19) (.t 30) (.k (.bool false))),o 32 (.pick (.t 16) (.k (.bool true)) (.t 31))]) (.cnd (.t 32) (.seq (.reg [o 2 (.mov (.k (.bool false)))]) .ret) .skip))) (.reg [o 8 (.mov (.t 3)),o 9 (.bin .add (.t 8) (.k (.int .i64 1))),o 3 (.mov (.t 9))])))))) (.seq (.reg [o 33 (.mov (.t 0)),o 34 (.len false (.t 33)),o 35 (.bin .leq (.t 34) (.k (.int .i64 120))),o 2 (.mov (.t 35))]) .ret)))⟩
theorem ir_s_l11Dots:compFn Tryz.prog n_s_l11Dots=some F_s_l11Dots:=by kernel_rfl
abbrev n_s_DeltaOk:Nat:=103
def F_s_DeltaOk:Fn1:=⟨97,[.t 2],(.seq (.reg [o 1 (.box (.t 0)),o 2 (.mov (.k (.bool false)))]) (.seq (.seq (.reg [o 6 (.fad 0 (.t 1)),o 7 (.ld false 1 (.t 6)),o 8 (.fad 1 (.t 1)),o 9 (.ld false 1 (.t 8)),o 10 (.call 143 [(.t 7),(.t 9)]),o 11 (.un .not (.t 10)),o 12 (.mov (.t 11)),og 13 12 false (.fad 2 (.t 1)),og 14 12 false (.ld false 1 (.t 13)),og 15 12 false (.call 163 [(.t 14)]),og 16 12 false (.un .not (.t 15)),o 17 (.pick (.t 12) (.k (.bool true)) (.t 16)),o 18 (.mov (.t 17)),og 19 18 false (.fad 3 (.t 1)),og 20 18 false (.ld false 1 (.t 19)),og 21 18 false (.call 164 [(.t 20)]),og 22 18 false (.un .not (.t 21)),o 23 (.pick (.t 18) (.k (.bool true)) (.t 22)),o 24 (.mov (.t 23)),og 25 24 false (.fad 5 (.t 1)),og 26 24 false (.ld false 1 (.t 25)),og 27 24 false (.call 165 [(.t 26)]),og 28 24 false (.un .not (.t 27)),o 29 (.pick (.t 24) (.k (.bool true)) (.t 28)),o 30 (.mov (.t 29)),og 31 30 false (.fad 4 (.t 1)),og 32 30 false (.ld false 1 (.t 31)),og 33 30 false (.call 166 [(.t 32)]),og 34 30 false (.un .not (.t 33)),o 35 (.pick (.t 30) (.k (.bool true)) (.t 34))]) (.cnd (.t 35) (.seq (.reg [o 2 (.mov (.k (.bool false)))]) .ret) .skip)) (.seq (.seq (.reg [o 3 (.mov (.k (.int .i64 0)))]) (.blk 0 (.lop (.seq (.seq (.reg [o 36 (.mov (.t 3)),o 37 (.fad 3 (.t 1)),o 38 (.ld false 1 (.t 37)),o 39 (.len false (.t 38)),o 40 (.bin .lss (.t 36) (.t 39))]) (.cnd (.t 40) .skip (.ext 0))) (.seq (.blk 1 (.seq (.drw [o 43 (.fad 1 (.t 1)),o 44 (.ld false 1 (.t 43)),o 45 (.fad 3 (.t 1)),o 46 (.ld false 1 (.t 45)),o 47 (.mov (.t 3)),o 48 (.iad 6 (.t 46) (.t 47)),o 49 (.fad 4 (.t 48)),o 50 (.ld true 2 (.t 49)),o 51 (.call 142 [(.t 44),(.t 50)]),o 52 (.un .not (.t 51)),o 53 (.mov (.t 52)),og 54 53 false (.fad 0 (.t 1)),og 55 53 false (.ld false 1 (.t 54)),og 56 53 false (.fad 3 (.t 1)),og 57 53 false (.ld false 1 (.t 56)),og 58 53 false (.mov (.t 3)),og 59 53 false (.iad 6 (.t 57) (.t 58)),og 60 53 false (.fad 4 (.t 59)),og 61 53 false (.ld true 2 (.t 60))] [og 62 53 false (.call 142 [(.t 55),(.t 61)]),o 63 (.pick (.t 53) (.k (.bool true)) (.t 62))]) (.cnd (.t 63) (.seq (.reg [o 2 (.mov (.k (.bool false)))]) .ret) .skip))) (.reg [o 41 (.mov (.t 3)),o 42 (.bin .add (.t 41) (.k (.int .i64 1))),o 3 (.mov (.t 42))])))))) (.seq (.seq (.reg [o 4 (.mov (.k (.int .i64 0)))]) (.blk 2 (.lop (.seq (.seq (.reg [o 64 (.mov (.t 4)),o 65 (.fad 4 (.t 1)),o 66 (.ld false 1 (.t 65)),o 67 (.len false (.t 66)),o 68 (.bin .lss (.t 64) (.t 67))]) (.cnd (.t 68) .skip (.ext 2))) (.seq (.blk 3 (.seq (.drw [o 71 (.fad 0 (.t 1)),o 72 (.ld false 1 (.t 71)),o 73 (.fad 4 (.t 1)),o 74 (.ld false 1 (.t 73)),o 75 (.mov (.t 4)),o 76 (.iad 2 (.t 74) (.t 75)),o 77 (.ld true 2 (.t 76))] [o 78 (.call 142 [(.t 72),(.t 77)]),o 79 (.un .not (.t 78))]) (.cnd (.t 79) (.seq (.reg [o 2 (.mov (.k (.bool false)))]) .ret) .skip))) (.reg [o 69 (.mov (.t 4)),o 70 (.bin .add (.t 69) (.k (.int .i64 1))),o 4 (.mov (.t 70))])))))) (.seq (.seq (.reg [o 5 (.mov (.k (.int .i64 0)))]) (.blk 4 (.lop (.seq (.seq (.reg [o 80 (.mov (.t 5)),o 81 (.fad 5 (.t 1)),o 82 (.ld false 1 (.t 81)),o 83 (.len false (.t 82)),o 84 (.bin .lss (.t 80) (.t 83))]) (.cnd (.t 84) .skip (.ext 4))) (.seq (.blk 5 (.seq (.drw [o 87 (.fad 1 (.t 1)),o 88 (.ld false 1 (.t 87)),o 89 (.fad 5 (.t 1)),o 90 (.ld false 1 (.t 89)),o 91 (.mov (.t 5)),o 92 (.iad 8 (.t 90) (.t 91)),o 93 (.fad 1 (.t 92)),o 94 (.ld true 2 (.t 93))] [o 95 (.call 142 [(.t 88),(.t 94)]),o 96 (.un .not (.t 95))]) (.cnd (.t 96) (.seq (.reg [o 2 (.mov (.k (.bool false)))]) .ret) .skip))) (.reg [o 85 (.mov (.t 5)),o 86 (.bin .add (.t 85) (.k (.int .i64 1))),o 5 (.mov (.t 86))])))))) (.seq (.reg [o 2 (.mov (.k (.bool true)))]) .ret))))))⟩
theorem ir_s_DeltaOk:compFn Tryz.prog n_s_DeltaOk=some F_s_DeltaOk:=by kernel_rfl
def newL (k:List Int) (l:List Live) (i:Nat):Bool:=onI l i fun x=> !knows k x.dot
def deadP (k:List Int) (l:List Dot) (i:Nat):Bool:=onI l i (knows k)&&upI dotLt l i
def dotP (l:List Dot) (i:Nat):Bool:=onI l i dotOk&&upI dotLt l i
def dotsOk (l:List Dot):Bool:=allR l.length (dotP l)&&decide (l.length≤120)
def refP (l:List Cell) (i:Nat):Bool:=onI l i refD
def deltaOk (d:Delta):Bool:=knowIn d.base d.know&&(talsOk d.tallies&&(livsOk d.lives d.know&&(celsOk d.cells d.know&&(decide (d.dead.length≤120)&&(allR d.lives.length (newL d.base d.lives)&&(allR d.dead.length (deadP d.base d.dead)&&allR d.cells.length (refP d.cells)))))))
def midL (k b:List Int) (l:List Live) (i:Nat):Bool:=onI l i fun x=>knows k x.dot&& !knows b x.dot
def deltaOkS (d:Delta):Bool:=knowIn d.base d.know&&(talsOk d.tallies&&(livsS d.lives&&(celsS d.cells&&(dotsOk d.dead&&(allR d.lives.length (midL d.know d.base d.lives)&&(allR d.dead.length (fun i=>onI d.dead i (knows d.base))&&allR d.cells.length (fun i=>onI d.cells i fun x=>knows d.know x.dot)))))))
theorem onI_and {α:Type} (l:List α) (i:Nat) (p q:α→Bool):(onI l i fun x=>p x&&q x)=(onI l i p&&onI l i q):=by
 unfold onI
 cases l[i]? <;>rfl
theorem onI_imp {α:Type} {l:List α} {i:Nat} {p q:α→Bool} (h:∀ x,p x=true→q x=true) (hp:onI l i p=true):onI l i q=true:=by
 unfold onI at*
 cases hl:l[i]? with
 |none=>rfl
 |some x=>rw[hl] at hp;exact h x hp
theorem deltaOkS_eq (d:Delta):deltaOkS d=deltaOk d:=by
 rw[Bool.eq_iff_iff]
 simp only[deltaOkS,deltaOk,livsS,livsOk,celsS,celsOk,dotsOk,Bool.and_eq_true,allR_iff,livSP,livP,celSP,celP,dotP,deadP,midL,newL,refP,onI_and,decide_eq_true_eq]
 constructor
 ·rintro⟨h1,h2,⟨h3,h3'⟩,⟨h4,h4'⟩,⟨h5,h5'⟩,h6,h7,h8⟩
  exact⟨h1,h2,⟨fun i hi=>⟨(h6 i hi).1,(h3 i hi).2⟩,h3'⟩,⟨fun i hi=>⟨h8 i hi,(h4 i hi).2.1,(h4 i hi).2.2.2⟩,h4'⟩,h5',fun i hi=>(h6 i hi).2,fun i hi=>⟨h7 i hi,(h5 i hi).2⟩,fun i hi=>(h4 i hi).2.2.1⟩
 ·rintro⟨h1,h2,⟨h3,h3'⟩,⟨h4,h4'⟩,h5,h6,h7,h8⟩
  exact⟨h1,h2,⟨fun i hi=>⟨onI_imp (fun x=>knows_dot) (h3 i hi).1,(h3 i hi).2⟩,h3'⟩,⟨fun i hi=>⟨onI_imp (fun x=>knows_dot) (h4 i hi).1,(h4 i hi).2.1,h8 i hi,(h4 i hi).2.2⟩,h4'⟩,⟨fun i hi=>⟨onI_imp (fun x=>knows_dot) (h7 i hi).1,(h7 i hi).2⟩,h5⟩,fun i hi=>⟨(h3 i hi).1,h6 i hi⟩,fun i hi=>(h7 i hi).1,fun i hi=>(h4 i hi).1⟩
theorem msDelta_all {d:Delta} {n:Nat} (h:msDelta d≤n):d.base.length≤n∧d.know.length≤n∧d.tallies.length≤n∧d.lives.length≤n∧d.dead.length≤n∧d.cells.length≤n∧(∀ x∈d.tallies,x.obj.size≤n)∧(∀ x∈d.lives,x.obj.size≤n∧x.key.size≤n)∧∀ x∈d.cells,x.obj.size≤n:=by
 unfold msDelta at h
 refine⟨by omega,by omega,by omega,by omega,by omega,by omega,fun x hx=> ?_,fun x hx=> ?_,fun x hx=> ?_⟩
 ·have:x.obj.size≤sumL msTally d.tallies:=sumL_mem (f:=msTally) hx
  omega
 ·have:x.obj.size+x.key.size≤sumL msLive d.lives:=sumL_mem (f:=msLive) hx
  omega
 ·have:x.obj.size≤sumL msCell d.cells:=sumL_mem (f:=msCell) hx
  omega
set_option maxHeartbeats 2000000 in
theorem i_DeltaOk_ret (σ:St) (cs:List GV) (d:Delta) (hR:kDelta.R σ d cs) (hl:msDelta d≤1099511627776):Ret Tryz.prog n_i_DeltaOk [.agg cs] σ (.bool (deltaOk d)) σ:=by
 obtain⟨v0,v1,v2,v3,v4,v5,rfl,q0,q1,q2,q3,q4,q5⟩:=hR
 obtain⟨l0,l1,l2,l3,l4,l5,t2,t3,t5⟩:=msDelta_all hl
 refine ret_xe ir_i_DeltaOk (Nat.le_of_ble_eq_true rfl) trivial ?_
 simp +contextual (disch:=omega) only[go_sem,F_i_DeltaOk]
 intro n f τ H
 have S:=H.sub
 refine by_b H (i_KnowIn_ret _ v0 v1 _ _ (q0.pre S) (q1.pre S) l0 l1) (fun h1=> ?_) (fun h1=> ?_)
 rotate_left
 ·simp +contextual (disch:=omega) only[go_sem]
  simp[deltaOk,h1]
 simp +contextual (disch:=omega) only[go_sem]
 refine by_b H (i_talliesOk_ret _ v2 _ (q2.pre S) l2 t2) (fun h2=> ?_) (fun h2=> ?_)
 rotate_left
 ·simp +contextual (disch:=omega) only[go_sem]
  simp[deltaOk,h2]
 simp +contextual (disch:=omega) only[go_sem]
 refine by_b H (i_livesOk_ret _ v3 _ (q3.pre S) v1 _ (q1.pre S) l1 l3 t3) (fun h3=> ?_) (fun h3=> ?_)
 rotate_left
 ·simp +contextual (disch:=omega) only[go_sem]
  simp[deltaOk,h3]
 simp +contextual (disch:=omega) only[go_sem]
 refine by_b H (i_cellsOk_ret _ v5 _ (q5.pre S) v1 _ (q1.pre S) l1 l5 t5) (fun h4=> ?_) (fun h4=> ?_)
 rotate_left
 ·simp +contextual (disch:=omega) only[go_sem]
  simp[deltaOk,h4]
 cases h5:decide (120<d.dead.length) with
 |true=>
  simp +contextual (disch:=omega) only[go_sem,q4.len,gt_cast,h5]
  have h5':=of_decide_eq_true h5
  have:decide (d.dead.length≤120)=false:=decide_eq_false (by omega)
  simp[deltaOk,this]
 |false=>
 have h5':d.dead.length≤120:=by have:=of_decide_eq_false h5;omega
 simp +contextual (disch:=omega) only[go_sem,q3.len,q4.len,gt_cast,h5]
 refine sx_for d.lives.length 46 0 (fun i env h=>env 1= .ptr n 0∧env 44=v3∧env 45=gi d.lives.length∧(∀ j,j<i→newL d.base d.lives j=true)∧h=[.box 1 n [v0,v1,v2,v3,v4,v5]]) (fun env h=>env 1= .ptr n 0∧allR d.lives.length (newL d.base d.lives)=true∧h=[.box 1 n [v0,v1,v2,v3,v4,v5]]) (fun env h=>env 2= .bool (deltaOk d)) _ H (by simp +contextual (disch:=omega) only[go_sem]) ⟨by simp +contextual (disch:=omega) only[go_sem],by simp +contextual (disch:=omega) only[go_sem],by simp +contextual (disch:=omega) only[go_sem],fun j hj=>by omega,rfl⟩ ?_ ?_ ?_ ?_
 ·rintro J Y W hJ hY hW i env h τ hi ei c0 H ⟨e1,e44,e45,ha,rfl⟩
  have L1:=Live_at q3 hi
  have hat:newL d.base d.lives i= !knows d.base d.lives[i].dot:=onI_at hi
  have no:newL d.base d.lives i=false→deltaOk d=false:=fun hh=>by simp[deltaOk,allR_no hi hh]
  simp +contextual (disch:=omega) only[go_sem,c0,e1,e44,e45,ei,natOf_nat,L1]
  intro m fm τ1 _ τ2 H2
  refine by_b H2 (i_Knows_ret _ v0 _ _ (q0.pre H2.sub) l0) (fun k1=> ?_) (fun k1=> ?_)
  ·simp +contextual (disch:=omega) only[go_sem]
   exact hW _ _ _ H2 (by simp +contextual (disch:=omega) only[go_sem,no (by rw[hat,k1];rfl)])
  ·simp +contextual (disch:=omega) only[go_sem,e1,e44,e45,ei]
   exact hJ _ _ _ _ (H2.re [1] (by decide)) ⟨by simp +contextual (disch:=omega) only[go_sem,e1],by simp +contextual (disch:=omega) only[go_sem,e44],by simp +contextual (disch:=omega) only[go_sem,e45],lt_snoc ha (by rw[hat,k1];rfl),rfl⟩
 ·rintro Y hY env h τ ei c0 H ⟨e1,e44,e45,ha,rfl⟩
  simp +contextual (disch:=omega) only[go_sem,c0,e45,ei]
  exact hY _ _ _ H ⟨by simp +contextual (disch:=omega) only[go_sem,e1],allR_yes ha,rfl⟩
 rotate_left
 ·rintro env h τ H e2
  simp +contextual (disch:=omega) only[go_sem,e2]
 clear H S
 rintro env h τ H ⟨e1,h6,rfl⟩
 simp +contextual (disch:=omega) only[go_sem,e1,q4.len]
 refine sx_for d.dead.length 59 2 (fun i env h=>env 1= .ptr n 0∧env 57=v4∧env 58=gi d.dead.length∧(∀ j,j<i→deadP d.base d.dead j=true)∧h=[.box 1 n [v0,v1,v2,v3,v4,v5]]) (fun env h=>env 1= .ptr n 0∧allR d.dead.length (deadP d.base d.dead)=true∧h=[.box 1 n [v0,v1,v2,v3,v4,v5]]) (fun env h=>env 2= .bool (deltaOk d)) _ H (by simp +contextual (disch:=omega) only[go_sem]) ⟨by simp +contextual (disch:=omega) only[go_sem,e1],by simp +contextual (disch:=omega) only[go_sem],by simp +contextual (disch:=omega) only[go_sem],fun j hj=>by omega,rfl⟩ ?_ ?_ ?_ ?_
 ·clear H e1
  rintro J Y W hJ hY hW i env h τ hi ei c0 H ⟨e1,e57,e58,ha,rfl⟩
  have L1:=Dot_at q4 hi
  have hat:deadP d.base d.dead i=(knows d.base d.dead[i]&&upI dotLt d.dead i):=by simp only[deadP,onI_at hi]
  have no:deadP d.base d.dead i=false→deltaOk d=false:=fun hh=>by simp[deltaOk,allR_no hi hh]
  simp +contextual (disch:=omega) only[go_sem,c0,e1,e57,e58,ei,natOf_nat,L1]
  intro m fm τ1 _ τ2 H2
  refine by_b H2 (i_Knows_ret _ v0 _ _ (q0.pre H2.sub) l0) (fun k1=> ?_) (fun k1=> ?_)
  rotate_left
  ·simp +contextual (disch:=omega) only[go_sem]
   exact hW _ _ _ H2 (by simp +contextual (disch:=omega) only[go_sem,no (by rw[hat,k1];rfl)])
  rcases Nat.eq_zero_or_pos i with hz|hz
  ·subst hz
   simp +contextual (disch:=omega) only[go_sem,Int.ofNat_zero,decide_false,Int.lt_irrefl,e1,e57,e58,ei]
   exact hJ _ _ _ _ (H2.re [1] (by decide)) ⟨by simp +contextual (disch:=omega) only[go_sem,e1],by simp +contextual (disch:=omega) only[go_sem,e57],by simp +contextual (disch:=omega) only[go_sem,e58],lt_snoc ha (by rw[hat,k1];rfl),rfl⟩
  ·have c1:decide ((0:Int)<i)=true:=by simp;omega
   have hj:i - 1<d.dead.length:=by omega
   have hu:=upI_at (lt:=dotLt) (by omega) hi hj
   simp +contextual (disch:=omega) only[go_sem,c1,sub1 hz,Dot_at q4 hj,e1,e57,e58,ei]
   refine by_r H2 (i_compareDots_ret _ d.dead[i-1] d.dead[i]) ?_
   cases ho:dotLt d.dead[i-1] d.dead[i] with
   |true=>
    simp +contextual (disch:=omega) only[go_sem,cmpDot_ge,ho,e1,e57,e58,ei]
    exact hJ _ _ _ _ (H2.re [1] (by decide)) ⟨by simp +contextual (disch:=omega) only[go_sem,e1],by simp +contextual (disch:=omega) only[go_sem,e57],by simp +contextual (disch:=omega) only[go_sem,e58],lt_snoc ha (by rw[hat,k1,hu,ho];rfl),rfl⟩
   |false=>
    simp +contextual (disch:=omega) only[go_sem,cmpDot_ge,ho]
    exact hW _ _ _ H2 (by simp +contextual (disch:=omega) only[go_sem,no (by rw[hat,k1,hu,ho];rfl)])
 ·clear H e1
  rintro Y hY env h τ ei c0 H ⟨e1,e57,e58,ha,rfl⟩
  simp +contextual (disch:=omega) only[go_sem,c0,e58,ei]
  exact hY _ _ _ H ⟨by simp +contextual (disch:=omega) only[go_sem,e1],allR_yes ha,rfl⟩
 rotate_left
 ·rintro env h τ H e2
  simp +contextual (disch:=omega) only[go_sem,e2]
 clear H e1
 rintro env h τ H ⟨e1,h7,rfl⟩
 simp +contextual (disch:=omega) only[go_sem,e1,q5.len]
 refine sx_for d.cells.length 88 4 (fun i env h=>env 86=v5∧env 87=gi d.cells.length∧(∀ j,j<i→refP d.cells j=true)∧h=[]) (fun env h=>allR d.cells.length (refP d.cells)=true∧h=[]) (fun env h=>env 2= .bool (deltaOk d)) _ (H.re [] (by decide)) (by simp +contextual (disch:=omega) only[go_sem]) ⟨by simp +contextual (disch:=omega) only[go_sem],by simp +contextual (disch:=omega) only[go_sem],fun j hj=>by omega,rfl⟩ ?_ ?_ ?_ ?_
 ·clear H e1
  rintro J Y W hJ hY hW i env h τ hi ei c0 H ⟨e86,e87,ha,rfl⟩
  have L1:=Cell_at q5 hi
  have hat:refP d.cells i=(decide (d.cells[i].ref=⟨0,0⟩)||dotOk d.cells[i].ref):=onI_at hi
  have no:refP d.cells i=false→deltaOk d=false:=fun hh=>by simp[deltaOk,allR_no hi hh]
  cases k0:decide (d.cells[i].ref=⟨0,0⟩) with
  |true=>
   simp +contextual (disch:=omega) only[go_sem,c0,e86,e87,ei,natOf_nat,L1,k0]
   intro m fm τ1 _ τ2 H2
   exact hJ _ _ _ _ (H2.re [] (by decide)) ⟨by simp +contextual (disch:=omega) only[go_sem,e86],by simp +contextual (disch:=omega) only[go_sem,e87],lt_snoc ha (by rw[hat,k0];rfl),rfl⟩
  |false=>
   simp +contextual (disch:=omega) only[go_sem,c0,e86,e87,ei,natOf_nat,L1,k0]
   intro m fm τ1 _ τ2 H2
   refine by_b H2 (i_DotOk_ret _ d.cells[i].ref) (fun k1=> ?_) (fun k1=> ?_)
   ·simp +contextual (disch:=omega) only[go_sem,e86,e87,ei]
    exact hJ _ _ _ _ (H2.re [] (by decide)) ⟨by simp +contextual (disch:=omega) only[go_sem,e86],by simp +contextual (disch:=omega) only[go_sem,e87],lt_snoc ha (by rw[hat,k0,k1];rfl),rfl⟩
   ·simp +contextual (disch:=omega) only[go_sem]
    exact hW _ _ _ H2 (by simp +contextual (disch:=omega) only[go_sem,no (by rw[hat,k0,k1];rfl)])
 ·clear H e1
  rintro Y hY env h τ ei c0 H ⟨e86,e87,ha,rfl⟩
  simp +contextual (disch:=omega) only[go_sem,c0,e87,ei]
  exact hY _ _ _ H ⟨allR_yes ha,rfl⟩
 ·clear H e1
  rintro env h τ H ⟨h8,rfl⟩
  simp +contextual (disch:=omega) only[go_sem]
  exact fun _=>by simp[deltaOk,h1,h2,h3,h4,h5',h6,h7,h8]
 ·rintro env h τ H e2
  simp +contextual (disch:=omega) only[go_sem,e2]
theorem s_l11Dots_ret (σ:St) (v:GV) (l:List Dot) (h:RS pDot.kd σ v l) (hl:l.length≤1099511627776):Ret Tryz.prog n_s_l11Dots [v] σ (.bool (dotsOk l)) σ:=by
 refine ret_xe ir_s_l11Dots (Nat.le_of_ble_eq_true rfl) trivial ?_
 simp +contextual (disch:=omega) only[go_sem,F_s_l11Dots]
 refine sx_for l.length 3 0 (fun i env h=>env 0=v∧(∀ j,j<i→dotP l j=true)∧h=[]) (fun env h=>env 0=v∧allR l.length (dotP l)=true∧h=[]) (fun env h=>env 2= .bool (dotsOk l)) _ (Hx.refl σ) (by simp +contextual (disch:=omega) only[go_sem]) ⟨by simp +contextual (disch:=omega) only[go_sem],fun j hj=>by omega,rfl⟩ ?_ ?_ ?_ ?_
 ·rintro J Y W hJ hY hW i env h τ hi ei c0 H ⟨e0,ha,rfl⟩
  have L1:=Dot_at h hi
  have hat:dotP l i=(dotOk l[i]&&upI dotLt l i):=by simp only[dotP,onI_at hi]
  have no:dotP l i=false→dotsOk l=false:=fun hh=>by simp[dotsOk,allR_no hi hh]
  simp +contextual (disch:=omega) only[go_sem,c0,e0,ei,natOf_nat,L1,h.len]
  refine by_b H (s_DotOk_ret _ l[i]) (fun k1=> ?_) (fun k1=> ?_)
  rotate_left
  ·simp +contextual (disch:=omega) only[go_sem]
   exact hW _ _ _ H (by simp +contextual (disch:=omega) only[go_sem,no (by rw[hat,k1];rfl)])
  rcases Nat.eq_zero_or_pos i with hz|hz
  ·subst hz
   simp +contextual (disch:=omega) only[go_sem,Int.ofNat_zero,decide_false,Int.lt_irrefl,e0,ei]
   exact hJ _ _ _ _ H ⟨by simp +contextual (disch:=omega) only[go_sem,e0],lt_snoc ha (by rw[hat,k1];rfl),rfl⟩
  ·have c1:decide ((0:Int)<i)=true:=by simp;omega
   have hj:i - 1<l.length:=by omega
   have hu:=upI_at (lt:=dotLt) (by omega) hi hj
   simp +contextual (disch:=omega) only[go_sem,c1,sub1 hz,Dot_at h hj,L1,natOf_nat,e0,ei]
   refine by_r H (s_l06Before_ret _ l[i-1] l[i]) ?_
   cases ho:dotLt l[i-1] l[i] with
   |true=>
    simp +contextual (disch:=omega) only[go_sem,e0,ei]
    exact hJ _ _ _ _ H ⟨by simp +contextual (disch:=omega) only[go_sem,e0],lt_snoc ha (by rw[hat,k1,hu,ho];rfl),rfl⟩
   |false=>
    simp +contextual (disch:=omega) only[go_sem]
    exact hW _ _ _ H (by simp +contextual (disch:=omega) only[go_sem,no (by rw[hat,k1,hu,ho];rfl)])
 ·rintro Y hY env h τ ei c0 H ⟨e0,ha,rfl⟩
  simp +contextual (disch:=omega) only[go_sem,c0,e0,ei,h.len]
  exact hY _ _ _ H ⟨by simp +contextual (disch:=omega) only[go_sem,e0],allR_yes ha,rfl⟩
 ·rintro env h τ H ⟨e0,ha,rfl⟩
  simp +contextual (disch:=omega) only[go_sem,e0,h.len]
  have:decide ((l.length:Int)≤120)=decide (l.length≤120):=by rw[decide_eq_decide];omega
  exact fun _=>by simp[dotsOk,ha,this]
 ·rintro env h τ H e2
  simp +contextual (disch:=omega) only[go_sem,e2]
theorem s_DeltaOk_ret (σ:St) (cs:List GV) (d:Delta) (hR:kDelta.R σ d cs) (hl:msDelta d≤1099511627776):Ret Tryz.prog n_s_DeltaOk [.agg cs] σ (.bool (deltaOk d)) σ:=by
 rw[← deltaOkS_eq]
 obtain⟨v0,v1,v2,v3,v4,v5,rfl,q0,q1,q2,q3,q4,q5⟩:=hR
 obtain⟨l0,l1,l2,l3,l4,l5,t2,t3,t5⟩:=msDelta_all hl
 refine ret_xe ir_s_DeltaOk (Nat.le_of_ble_eq_true rfl) trivial ?_
 simp +contextual (disch:=omega) only[go_sem,F_s_DeltaOk]
 intro n f τ H
 have S:=H.sub
 refine by_b H (s_KnowIn_ret _ v0 v1 _ _ (q0.pre S) (q1.pre S) l0 l1) (fun h1=> ?_) (fun h1=> ?_)
 rotate_left
 ·simp +contextual (disch:=omega) only[go_sem]
  simp[deltaOkS,h1]
 simp +contextual (disch:=omega) only[go_sem]
 refine by_b H (s_l06Tallies_ret _ v2 _ (q2.pre S) l2 t2) (fun h2=> ?_) (fun h2=> ?_)
 rotate_left
 ·simp +contextual (disch:=omega) only[go_sem]
  simp[deltaOkS,h2]
 simp +contextual (disch:=omega) only[go_sem]
 refine by_b H (s_l06Lives_ret _ v3 _ (q3.pre S) l3 t3) (fun h3=> ?_) (fun h3=> ?_)
 rotate_left
 ·simp +contextual (disch:=omega) only[go_sem]
  simp[deltaOkS,h3]
 simp +contextual (disch:=omega) only[go_sem]
 refine by_b H (s_l06Cells_ret _ v5 _ (q5.pre S) l5 t5) (fun h4=> ?_) (fun h4=> ?_)
 rotate_left
 ·simp +contextual (disch:=omega) only[go_sem]
  simp[deltaOkS,h4]
 simp +contextual (disch:=omega) only[go_sem]
 refine by_b H (s_l11Dots_ret _ v4 _ (q4.pre S) l4) (fun h5=> ?_) (fun h5=> ?_)
 rotate_left
 ·simp +contextual (disch:=omega) only[go_sem]
  simp[deltaOkS,h5]
 simp +contextual (disch:=omega) only[go_sem]
 refine sx_for d.lives.length 3 0 (fun i env h=>env 1= .ptr n 0∧(∀ j,j<i→midL d.know d.base d.lives j=true)∧h=[.box 1 n [v0,v1,v2,v3,v4,v5]]) (fun env h=>env 1= .ptr n 0∧allR d.lives.length (midL d.know d.base d.lives)=true∧h=[.box 1 n [v0,v1,v2,v3,v4,v5]]) (fun env h=>env 2= .bool (deltaOkS d)) _ H (by simp +contextual (disch:=omega) only[go_sem]) ⟨by simp +contextual (disch:=omega) only[go_sem],fun j hj=>by omega,rfl⟩ ?_ ?_ ?_ ?_
 ·rintro J Y W hJ hY hW i env h τ hi ei c0 H ⟨e1,ha,rfl⟩
  have L1:=Live_at q3 hi
  have hat:midL d.know d.base d.lives i=(knows d.know d.lives[i].dot&& !knows d.base d.lives[i].dot):=onI_at hi
  have no:midL d.know d.base d.lives i=false→deltaOkS d=false:=fun hh=>by simp[deltaOkS,allR_no hi hh]
  simp +contextual (disch:=omega) only[go_sem,c0,e1,ei,natOf_nat,L1,q3.len]
  refine by_b H (s_Knows_ret _ v1 _ _ (q1.pre H.sub) l1) (fun k1=> ?_) (fun k1=> ?_)
  rotate_left
  ·simp +contextual (disch:=omega) only[go_sem]
   exact hW _ _ _ H (by simp +contextual (disch:=omega) only[go_sem,no (by rw[hat,k1];rfl)])
  simp +contextual (disch:=omega) only[go_sem,e1,ei,natOf_nat,L1]
  refine by_b H (s_Knows_ret _ v0 _ _ (q0.pre H.sub) l0) (fun k2=> ?_) (fun k2=> ?_)
  ·simp +contextual (disch:=omega) only[go_sem]
   exact hW _ _ _ H (by simp +contextual (disch:=omega) only[go_sem,no (by rw[hat,k1,k2];rfl)])
  ·simp +contextual (disch:=omega) only[go_sem,e1,ei]
   exact hJ _ _ _ _ H ⟨by simp +contextual (disch:=omega) only[go_sem,e1],lt_snoc ha (by rw[hat,k1,k2];rfl),rfl⟩
 ·rintro Y hY env h τ ei c0 H ⟨e1,ha,rfl⟩
  simp +contextual (disch:=omega) only[go_sem,c0,e1,ei,q3.len]
  exact hY _ _ _ H ⟨by simp +contextual (disch:=omega) only[go_sem,e1],allR_yes ha,rfl⟩
 rotate_left
 ·rintro env h τ H e2
  simp +contextual (disch:=omega) only[go_sem,e2]
 clear H S
 rintro env h τ H ⟨e1,h6,rfl⟩
 simp +contextual (disch:=omega) only[go_sem,e1]
 refine sx_for d.dead.length 4 2 (fun i env h=>env 1= .ptr n 0∧(∀ j,j<i→onI d.dead j (knows d.base)=true)∧h=[.box 1 n [v0,v1,v2,v3,v4,v5]]) (fun env h=>env 1= .ptr n 0∧allR d.dead.length (fun j=>onI d.dead j (knows d.base))=true∧h=[.box 1 n [v0,v1,v2,v3,v4,v5]]) (fun env h=>env 2= .bool (deltaOkS d)) _ H (by simp +contextual (disch:=omega) only[go_sem]) ⟨by simp +contextual (disch:=omega) only[go_sem,e1],fun j hj=>by omega,rfl⟩ ?_ ?_ ?_ ?_
 ·clear H e1
  rintro J Y W hJ hY hW i env h τ hi ei c0 H ⟨e1,ha,rfl⟩
  have L1:=Dot_at q4 hi
  have hat:onI d.dead i (knows d.base)=knows d.base d.dead[i]:=onI_at hi
  have no:onI d.dead i (knows d.base)=false→deltaOkS d=false:=fun hh=>by simp[deltaOkS,allR_no (p:=fun j=>onI d.dead j (knows d.base)) hi hh]
  simp +contextual (disch:=omega) only[go_sem,c0,e1,ei,natOf_nat,L1,q4.len]
  refine by_b H (s_Knows_ret _ v0 _ _ (q0.pre H.sub) l0) (fun k1=> ?_) (fun k1=> ?_)
  ·simp +contextual (disch:=omega) only[go_sem,e1,ei]
   exact hJ _ _ _ _ H ⟨by simp +contextual (disch:=omega) only[go_sem,e1],lt_snoc ha (by rw[hat,k1]),rfl⟩
  ·simp +contextual (disch:=omega) only[go_sem]
   exact hW _ _ _ H (by simp +contextual (disch:=omega) only[go_sem,no (by rw[hat,k1])])
 ·clear H e1
  rintro Y hY env h τ ei c0 H ⟨e1,ha,rfl⟩
  simp +contextual (disch:=omega) only[go_sem,c0,e1,ei,q4.len]
  exact hY _ _ _ H ⟨by simp +contextual (disch:=omega) only[go_sem,e1],allR_yes ha,rfl⟩
 rotate_left
 ·rintro env h τ H e2
  simp +contextual (disch:=omega) only[go_sem,e2]
 clear H e1
 rintro env h τ H ⟨e1,h7,rfl⟩
 simp +contextual (disch:=omega) only[go_sem,e1]
 refine sx_for d.cells.length 5 4 (fun i env h=>env 1= .ptr n 0∧(∀ j,j<i→(onI d.cells j fun x=>knows d.know x.dot)=true)∧h=[.box 1 n [v0,v1,v2,v3,v4,v5]]) (fun env h=>allR d.cells.length (fun j=>onI d.cells j fun x=>knows d.know x.dot)=true) (fun env h=>env 2= .bool (deltaOkS d)) _ H (by simp +contextual (disch:=omega) only[go_sem]) ⟨by simp +contextual (disch:=omega) only[go_sem,e1],fun j hj=>by omega,rfl⟩ ?_ ?_ ?_ ?_
 ·clear H e1
  rintro J Y W hJ hY hW i env h τ hi ei c0 H ⟨e1,ha,rfl⟩
  have L1:=Cell_at q5 hi
  have hat:(onI d.cells i fun x=>knows d.know x.dot)=knows d.know d.cells[i].dot:=onI_at hi
  have no:(onI d.cells i fun x=>knows d.know x.dot)=false→deltaOkS d=false:=fun hh=>by simp[deltaOkS,allR_no (p:=fun j=>onI d.cells j fun x=>knows d.know x.dot) hi hh]
  simp +contextual (disch:=omega) only[go_sem,c0,e1,ei,natOf_nat,L1,q5.len]
  refine by_b H (s_Knows_ret _ v1 _ _ (q1.pre H.sub) l1) (fun k1=> ?_) (fun k1=> ?_)
  ·simp +contextual (disch:=omega) only[go_sem,e1,ei]
   exact hJ _ _ _ _ H ⟨by simp +contextual (disch:=omega) only[go_sem,e1],lt_snoc ha (by rw[hat,k1]),rfl⟩
  ·simp +contextual (disch:=omega) only[go_sem]
   exact hW _ _ _ H (by simp +contextual (disch:=omega) only[go_sem,no (by rw[hat,k1])])
 ·clear H e1
  rintro Y hY env h τ ei c0 H ⟨e1,ha,rfl⟩
  simp +contextual (disch:=omega) only[go_sem,c0,e1,ei,q5.len]
  exact hY _ _ _ H (allR_yes ha)
 ·clear H e1
  rintro env h τ H h8
  simp +contextual (disch:=omega) only[go_sem]
  exact fun _=>by simp[deltaOkS,h1,h2,h3,h4,h5,h6,h7,h8]
 ·rintro env h τ H e2
  simp +contextual (disch:=omega) only[go_sem,e2]
end Go.Proofs.YtffnefmklckngaaGreat.Sy
namespace Go.Proofs.YtffnefmklckngaaGreat.Sy
open Go Go.RowKit
set_option linter.unusedSimpArgs false
set_option linter.unusedVariables false
set_option maxRecDepth 4000
abbrev n_s_l10Has:Nat:=236
def F_s_l10Has:Fn1:=⟨18,[.t 4],(.seq (.reg [o 3 (.box (.t 1)),o 4 (.mov (.k (.bool false)))]) (.seq (.seq (.reg [o 5 (.mov (.k (.int .i64 0)))]) (.blk 0 (.lop (.seq (.seq (.reg [o 6 (.mov (.t 5)),o 7 (.mov (.t 0)),o 8 (.len false (.t 7)),o 9 (.bin .lss (.t 6) (.t 8))]) (.cnd (.t 9) .skip (.ext 0))) (.seq (.blk 1 (.seq (.drw [o 12 (.mov (.t 0)),o 13 (.mov (.t 5)),o 14 (.iad 6 (.t 12) (.t 13)),o 15 (.ld true 6 (.t 14)),o 16 (.ld true 6 (.t 3))] [o 17 (.eqs false [.b,.s,.s,.i .i64,.i .i64,.i .i64] (.t 15) (.t 16))]) (.cnd (.t 17) (.seq (.reg [o 4 (.mov (.k (.bool true)))]) .ret) .skip))) (.reg [o 10 (.mov (.t 5)),o 11 (.bin .add (.t 10) (.k (.int .i64 1))),o 5 (.mov (.t 11))])))))) (.seq (.reg [o 4 (.mov (.k (.bool false)))]) .ret)))⟩
theorem ir_s_l10Has:compFn Tryz.prog n_s_l10Has=some F_s_l10Has:=by kernel_rfl
abbrev n_s_l11Dead:Nat:=237
def F_s_l11Dead:Fn1:=⟨18,[.t 4],(.seq (.reg [o 3 (.box (.t 1)),o 4 (.mov (.k (.bool false)))]) (.seq (.seq (.reg [o 5 (.mov (.k (.int .i64 0)))]) (.blk 0 (.lop (.seq (.seq (.reg [o 6 (.mov (.t 5)),o 7 (.mov (.t 0)),o 8 (.len false (.t 7)),o 9 (.bin .lss (.t 6) (.t 8))]) (.cnd (.t 9) .skip (.ext 0))) (.seq (.blk 1 (.seq (.drw [o 12 (.mov (.t 0)),o 13 (.mov (.t 5)),o 14 (.iad 2 (.t 12) (.t 13)),o 15 (.ld true 2 (.t 14)),o 16 (.ld true 2 (.t 3))] [o 17 (.eqs false [.i .i64,.i .i64] (.t 15) (.t 16))]) (.cnd (.t 17) (.seq (.reg [o 4 (.mov (.k (.bool true)))]) .ret) .skip))) (.reg [o 10 (.mov (.t 5)),o 11 (.bin .add (.t 10) (.k (.int .i64 1))),o 5 (.mov (.t 11))])))))) (.seq (.reg [o 4 (.mov (.k (.bool false)))]) .ret)))⟩
theorem ir_s_l11Dead:compFn Tryz.prog n_s_l11Dead=some F_s_l11Dead:=by kernel_rfl
abbrev n_slices_Index_impl_Live_impl_Live:Nat:=239
def F_slices_Index_impl_Live_impl_Live:Fn1:=⟨19,[.t 4],(.seq (.reg [o 3 (.box (.t 1)),o 4 (.mov (.k (.int .i64 0)))]) (.seq (.seq (.reg [o 6 (.mov (.t 0)),o 7 (.len false (.t 6)),o 8 (.mov (.k (.int .i64 0)))]) (.blk 0 (.lop (.seq (.reg [o 9 (.bin .lss (.t 8) (.t 7))]) (.seq (.cnd (.t 9) .skip (.ext 0)) (.seq (.blk 1 (.seq (.reg [o 10 (.mov (.t 8)),o 5 (.mov (.t 10))]) (.seq (.drw [o 11 (.ld true 6 (.t 3)),o 12 (.mov (.t 0)),o 13 (.mov (.t 5)),o 14 (.iad 6 (.t 12) (.t 13)),o 15 (.ld true 6 (.t 14))] [o 16 (.eqs false [.b,.s,.s,.i .i64,.i .i64,.i .i64] (.t 11) (.t 15))]) (.cnd (.t 16) (.seq (.reg [o 17 (.mov (.t 5)),o 4 (.mov (.t 17))]) .ret) .skip)))) (.reg [o 18 (.bin .add (.t 8) (.k (.int .i64 1))),o 8 (.mov (.t 18))]))))))) (.seq (.reg [o 4 (.mov (.k (.int .i64 (-1))))]) .ret)))⟩
theorem ir_slices_Index_impl_Live_impl_Live:compFn Tryz.prog n_slices_Index_impl_Live_impl_Live=some F_slices_Index_impl_Live_impl_Live:=by kernel_rfl
abbrev n_slices_Contains_impl_Live_impl_Live:Nat:=206
def F_slices_Contains_impl_Live_impl_Live:Fn1:=⟨9,[.t 4],(.seq (.reg [o 3 (.box (.t 1)),o 4 (.mov (.k (.bool false)))]) (.seq (.reg [o 5 (.mov (.t 0)),o 6 (.ld true 6 (.t 3)),o 7 (.call 239 [(.t 5),(.t 6)]),o 8 (.bin .geq (.t 7) (.k (.int .i64 0))),o 4 (.mov (.t 8))]) .ret))⟩
theorem ir_slices_Contains_impl_Live_impl_Live:compFn Tryz.prog n_slices_Contains_impl_Live_impl_Live=some F_slices_Contains_impl_Live_impl_Live:=by kernel_rfl
abbrev n_slices_Index_impl_Dot_impl_Dot:Nat:=240
def F_slices_Index_impl_Dot_impl_Dot:Fn1:=⟨19,[.t 4],(.seq (.reg [o 3 (.box (.t 1)),o 4 (.mov (.k (.int .i64 0)))]) (.seq (.seq (.reg [o 6 (.mov (.t 0)),o 7 (.len false (.t 6)),o 8 (.mov (.k (.int .i64 0)))]) (.blk 0 (.lop (.seq (.reg [o 9 (.bin .lss (.t 8) (.t 7))]) (.seq (.cnd (.t 9) .skip (.ext 0)) (.seq (.blk 1 (.seq (.reg [o 10 (.mov (.t 8)),o 5 (.mov (.t 10))]) (.seq (.drw [o 11 (.ld true 2 (.t 3)),o 12 (.mov (.t 0)),o 13 (.mov (.t 5)),o 14 (.iad 2 (.t 12) (.t 13)),o 15 (.ld true 2 (.t 14))] [o 16 (.eqs false [.i .i64,.i .i64] (.t 11) (.t 15))]) (.cnd (.t 16) (.seq (.reg [o 17 (.mov (.t 5)),o 4 (.mov (.t 17))]) .ret) .skip)))) (.reg [o 18 (.bin .add (.t 8) (.k (.int .i64 1))),o 8 (.mov (.t 18))]))))))) (.seq (.reg [o 4 (.mov (.k (.int .i64 (-1))))]) .ret)))⟩
theorem ir_slices_Index_impl_Dot_impl_Dot:compFn Tryz.prog n_slices_Index_impl_Dot_impl_Dot=some F_slices_Index_impl_Dot_impl_Dot:=by kernel_rfl
abbrev n_slices_Contains_impl_Dot_impl_Dot:Nat:=207
def F_slices_Contains_impl_Dot_impl_Dot:Fn1:=⟨9,[.t 4],(.seq (.reg [o 3 (.box (.t 1)),o 4 (.mov (.k (.bool false)))]) (.seq (.reg [o 5 (.mov (.t 0)),o 6 (.ld true 2 (.t 3)),o 7 (.call 240 [(.t 5),(.t 6)]),o 8 (.bin .geq (.t 7) (.k (.int .i64 0))),o 4 (.mov (.t 8))]) .ret))⟩
theorem ir_slices_Contains_impl_Dot_impl_Dot:compFn Tryz.prog n_slices_Contains_impl_Dot_impl_Dot=some F_slices_Contains_impl_Dot_impl_Dot:=by kernel_rfl
def placeI {α:Type} [DecidableEq α] (l:List α) (x:α):Int:=match l.findIdx? (fun y=>decide (y=x)) with
 |some k=>k
 |none=> -1
theorem placeI_at {α:Type} [DecidableEq α] {l:List α} {x:α} {i:Nat} (hi:i<l.length) (ha:∀ j (hj:j<l.length),j<i→l[j]≠x) (h:l[i]=x):placeI l x=i:=by
 have:l.findIdx? (fun y=>decide (y=x))=some i:=List.findIdx?_eq_some_iff_getElem.2 ⟨hi,by simpa using h,fun j hj=>by simpa using ha j (by omega) hj⟩
 simp[placeI,this]
theorem placeI_no {α:Type} [DecidableEq α] {l:List α} {x:α} (h:x∉l):placeI l x= -1:=by
 have:l.findIdx? (fun y=>decide (y=x))=none:=by
  rw[List.findIdx?_eq_none_iff]
  intro y hy
  simp only[decide_eq_false_iff_not]
  rintro rfl;exact h hy
 simp[placeI,this]
theorem not_memI {α:Type} {l:List α} {x:α} (h:∀ j (hj:j<l.length),l[j]≠x):x∉l:=fun hx=>by
 obtain⟨i,hi,e⟩:=List.getElem_of_mem hx
 exact h i hi e
theorem placeI_ge {α:Type} [DecidableEq α] (l:List α) (x:α):decide (placeI l x≥0)=decide (x∈l):=by
 by_cases h:x∈l
 ·obtain⟨i,hi,e⟩:=List.getElem_of_mem h
  unfold placeI
  cases hf:l.findIdx? (fun y=>decide (y=x)) with
  |none=>
   rw[List.findIdx?_eq_none_iff] at hf
   have:=hf x h
   simp at this
  |some k=>simp[h]
 ·rw[placeI_no h];simp[h]
theorem ne_snoc {α:Type} {l:List α} {x:α} {i:Nat} (hi:i<l.length) (ha:∀ j (hj:j<l.length),j<i→l[j]≠x) (h:l[i]≠x):∀ j (hj:j<l.length),j<i+1→l[j]≠x:=fun j hj hji=>by
 rcases Nat.lt_or_ge j i with h1|h1
 ·exact ha j hj h1
 ·have:j=i:=by omega
  subst this;exact h
theorem s_l10Has_ret (σ:St) (v:GV) (l:List Live) (h:RS pLive.kd σ v l) (x:Live) (hl:l.length≤1099511627776):Ret Tryz.prog n_s_l10Has [v,.agg (liveV x)] σ (.bool (decide (x∈l))) σ:=by
 refine ret_xe ir_s_l10Has (Nat.le_of_ble_eq_true rfl) trivial ?_
 simp +contextual (disch:=omega) only[go_sem,F_s_l10Has]
 intro n f τ H
 refine sx_for l.length 5 0 (fun i env h=>env 0=v∧env 3= .ptr n 0∧(∀ j (hj:j<l.length),j<i→l[j]≠x)∧h=[.box 1 n (liveV x)]) (fun env h=>x∉l) (fun env h=>env 4= .bool true∧x∈l) _ H (by simp +contextual (disch:=omega) only[go_sem]) ⟨by simp +contextual (disch:=omega) only[go_sem],by simp +contextual (disch:=omega) only[go_sem],fun j hj hh=>by omega,rfl⟩ ?_ ?_ ?_ ?_
 ·rintro J Y W hJ hY hW i env h' τ hi ei c0 H ⟨e0,e3,ha,rfl⟩
  have L1:=Live_at h hi
  by_cases hx:l[i]=x
  ·have b:decide (l[i]=x)=true:=decide_eq_true hx
   simp +contextual (disch:=omega) only[go_sem,c0,e0,e3,ei,natOf_nat,L1,h.len,b]
   exact hW _ _ _ H ⟨by simp +contextual (disch:=omega) only[go_sem],by rw[← hx];exact List.getElem_mem hi⟩
  ·have b:decide (l[i]=x)=false:=decide_eq_false hx
   simp +contextual (disch:=omega) only[go_sem,c0,e0,e3,ei,natOf_nat,L1,h.len,b]
   exact hJ _ _ _ _ H ⟨by simp +contextual (disch:=omega) only[go_sem,e0],by simp +contextual (disch:=omega) only[go_sem,e3],ne_snoc hi ha hx,rfl⟩
 ·rintro Y hY env h' τ ei c0 H ⟨e0,e3,ha,rfl⟩
  simp +contextual (disch:=omega) only[go_sem,c0,e0,ei,h.len]
  exact hY _ _ _ H (not_memI fun j hj=>ha j hj hj)
 ·rintro env h' τ H hx
  simp +contextual (disch:=omega) only[go_sem,hx,decide_false]
 ·rintro env h' τ H ⟨e4,hx⟩
  simp +contextual (disch:=omega) only[go_sem,e4,hx,decide_true]
theorem s_l11Dead_ret (σ:St) (v:GV) (l:List Dot) (h:RS pDot.kd σ v l) (x:Dot) (hl:l.length≤1099511627776):Ret Tryz.prog n_s_l11Dead [v,.agg [gi x.rep,gi x.seq]] σ (.bool (decide (x∈l))) σ:=by
 refine ret_xe ir_s_l11Dead (Nat.le_of_ble_eq_true rfl) trivial ?_
 simp +contextual (disch:=omega) only[go_sem,F_s_l11Dead]
 intro n f τ H
 refine sx_for l.length 5 0 (fun i env h=>env 0=v∧env 3= .ptr n 0∧(∀ j (hj:j<l.length),j<i→l[j]≠x)∧h=[.box 1 n [gi x.rep,gi x.seq]]) (fun env h=>x∉l) (fun env h=>env 4= .bool true∧x∈l) _ H (by simp +contextual (disch:=omega) only[go_sem]) ⟨by simp +contextual (disch:=omega) only[go_sem],by simp +contextual (disch:=omega) only[go_sem],fun j hj hh=>by omega,rfl⟩ ?_ ?_ ?_ ?_
 ·rintro J Y W hJ hY hW i env h' τ hi ei c0 H ⟨e0,e3,ha,rfl⟩
  have L1:=Dot_at h hi
  by_cases hx:l[i]=x
  ·have b:decide (l[i]=x)=true:=decide_eq_true hx
   simp +contextual (disch:=omega) only[go_sem,c0,e0,e3,ei,natOf_nat,L1,h.len,b]
   exact hW _ _ _ H ⟨by simp +contextual (disch:=omega) only[go_sem],by rw[← hx];exact List.getElem_mem hi⟩
  ·have b:decide (l[i]=x)=false:=decide_eq_false hx
   simp +contextual (disch:=omega) only[go_sem,c0,e0,e3,ei,natOf_nat,L1,h.len,b]
   exact hJ _ _ _ _ H ⟨by simp +contextual (disch:=omega) only[go_sem,e0],by simp +contextual (disch:=omega) only[go_sem,e3],ne_snoc hi ha hx,rfl⟩
 ·rintro Y hY env h' τ ei c0 H ⟨e0,e3,ha,rfl⟩
  simp +contextual (disch:=omega) only[go_sem,c0,e0,ei,h.len]
  exact hY _ _ _ H (not_memI fun j hj=>ha j hj hj)
 ·rintro env h' τ H hx
  simp +contextual (disch:=omega) only[go_sem,hx,decide_false]
 ·rintro env h' τ H ⟨e4,hx⟩
  simp +contextual (disch:=omega) only[go_sem,e4,hx,decide_true]
theorem slices_Index_Live_ret (σ:St) (v:GV) (l:List Live) (h:RS pLive.kd σ v l) (x:Live) (hl:l.length≤1099511627776):Ret Tryz.prog n_slices_Index_impl_Live_impl_Live [v,.agg (liveV x)] σ (gi (placeI l x)) σ:=by
 refine ret_xe ir_slices_Index_impl_Live_impl_Live (Nat.le_of_ble_eq_true rfl) trivial ?_
 simp +contextual (disch:=omega) only[go_sem,F_slices_Index_impl_Live_impl_Live,h.len]
 intro n f τ H
 refine sx_for l.length 8 0 (fun i env h=>env 0=v∧env 3= .ptr n 0∧env 7=gi l.length∧(∀ j (hj:j<l.length),j<i→l[j]≠x)∧h=[.box 1 n (liveV x)]) (fun env h=>x∉l) (fun env h=>env 4=gi (placeI l x)) _ H (by simp +contextual (disch:=omega) only[go_sem]) ⟨by simp +contextual (disch:=omega) only[go_sem],by simp +contextual (disch:=omega) only[go_sem],by simp +contextual (disch:=omega) only[go_sem],fun j hj hh=>by omega,rfl⟩ ?_ ?_ ?_ ?_
 ·rintro J Y W hJ hY hW i env h' τ hi ei c0 H ⟨e0,e3,e7,ha,rfl⟩
  have L1:=Live_at h hi
  by_cases hx:x=l[i]
  ·have b:decide (x=l[i])=true:=decide_eq_true hx
   simp +contextual (disch:=omega) only[go_sem,c0,e0,e3,e7,ei,natOf_nat,L1,h.len,b]
   exact hW _ _ _ H (by simp +contextual (disch:=omega) only[go_sem,placeI_at hi ha hx.symm])
  ·have b:decide (x=l[i])=false:=decide_eq_false hx
   simp +contextual (disch:=omega) only[go_sem,c0,e0,e3,e7,ei,natOf_nat,L1,h.len,b]
   exact hJ _ _ _ _ H ⟨by simp +contextual (disch:=omega) only[go_sem,e0],by simp +contextual (disch:=omega) only[go_sem,e3],by simp +contextual (disch:=omega) only[go_sem,e7],ne_snoc hi ha (fun e=>hx e.symm),rfl⟩
 ·rintro Y hY env h' τ ei c0 H ⟨e0,e3,e7,ha,rfl⟩
  simp +contextual (disch:=omega) only[go_sem,c0,e7,ei,h.len]
  exact hY _ _ _ H (not_memI fun j hj=>ha j hj hj)
 ·rintro env h' τ H hx
  simp +contextual (disch:=omega) only[go_sem,placeI_no hx]
 ·rintro env h' τ H e4
  simp +contextual (disch:=omega) only[go_sem,e4]
theorem slices_Contains_Live_ret (σ:St) (v:GV) (l:List Live) (h:RS pLive.kd σ v l) (x:Live) (hl:l.length≤1099511627776):Ret Tryz.prog n_slices_Contains_impl_Live_impl_Live [v,.agg (liveV x)] σ (.bool (decide (x∈l))) σ:=by
 refine ret_xe ir_slices_Contains_impl_Live_impl_Live (Nat.le_of_ble_eq_true rfl) trivial ?_
 simp +contextual (disch:=omega) only[go_sem,F_slices_Contains_impl_Live_impl_Live]
 intro n f τ H
 refine by_r H (slices_Index_Live_ret _ v l (h.pre H.sub) x hl) ?_
 simp +contextual (disch:=omega) only[go_sem,placeI_ge]
theorem slices_Index_Dot_ret (σ:St) (v:GV) (l:List Dot) (h:RS pDot.kd σ v l) (x:Dot) (hl:l.length≤1099511627776):Ret Tryz.prog n_slices_Index_impl_Dot_impl_Dot [v,.agg [gi x.rep,gi x.seq]] σ (gi (placeI l x)) σ:=by
 refine ret_xe ir_slices_Index_impl_Dot_impl_Dot (Nat.le_of_ble_eq_true rfl) trivial ?_
 simp +contextual (disch:=omega) only[go_sem,F_slices_Index_impl_Dot_impl_Dot,h.len]
 intro n f τ H
 refine sx_for l.length 8 0 (fun i env h=>env 0=v∧env 3= .ptr n 0∧env 7=gi l.length∧(∀ j (hj:j<l.length),j<i→l[j]≠x)∧h=[.box 1 n [gi x.rep,gi x.seq]]) (fun env h=>x∉l) (fun env h=>env 4=gi (placeI l x)) _ H (by simp +contextual (disch:=omega) only[go_sem]) ⟨by simp +contextual (disch:=omega) only[go_sem],by simp +contextual (disch:=omega) only[go_sem],by simp +contextual (disch:=omega) only[go_sem],fun j hj hh=>by omega,rfl⟩ ?_ ?_ ?_ ?_
 ·rintro J Y W hJ hY hW i env h' τ hi ei c0 H ⟨e0,e3,e7,ha,rfl⟩
  have L1:=Dot_at h hi
  by_cases hx:x=l[i]
  ·have b:decide (x=l[i])=true:=decide_eq_true hx
   simp +contextual (disch:=omega) only[go_sem,c0,e0,e3,e7,ei,natOf_nat,L1,h.len,b]
   exact hW _ _ _ H (by simp +contextual (disch:=omega) only[go_sem,placeI_at hi ha hx.symm])
  ·have b:decide (x=l[i])=false:=decide_eq_false hx
   simp +contextual (disch:=omega) only[go_sem,c0,e0,e3,e7,ei,natOf_nat,L1,h.len,b]
   exact hJ _ _ _ _ H ⟨by simp +contextual (disch:=omega) only[go_sem,e0],by simp +contextual (disch:=omega) only[go_sem,e3],by simp +contextual (disch:=omega) only[go_sem,e7],ne_snoc hi ha (fun e=>hx e.symm),rfl⟩
 ·rintro Y hY env h' τ ei c0 H ⟨e0,e3,e7,ha,rfl⟩
  simp +contextual (disch:=omega) only[go_sem,c0,e7,ei,h.len]
  exact hY _ _ _ H (not_memI fun j hj=>ha j hj hj)
 ·rintro env h' τ H hx
  simp +contextual (disch:=omega) only[go_sem,placeI_no hx]
 ·rintro env h' τ H e4
  simp +contextual (disch:=omega) only[go_sem,e4]
theorem slices_Contains_Dot_ret (σ:St) (v:GV) (l:List Dot) (h:RS pDot.kd σ v l) (x:Dot) (hl:l.length≤1099511627776):Ret Tryz.prog n_slices_Contains_impl_Dot_impl_Dot [v,.agg [gi x.rep,gi x.seq]] σ (.bool (decide (x∈l))) σ:=by
 refine ret_xe ir_slices_Contains_impl_Dot_impl_Dot (Nat.le_of_ble_eq_true rfl) trivial ?_
 simp +contextual (disch:=omega) only[go_sem,F_slices_Contains_impl_Dot_impl_Dot]
 intro n f τ H
 refine by_r H (slices_Index_Dot_ret _ v l (h.pre H.sub) x hl) ?_
 simp +contextual (disch:=omega) only[go_sem,placeI_ge]
end Go.Proofs.YtffnefmklckngaaGreat.Sy
namespace Go.Proofs.YtffnefmklckngaaGreat.Sy
open Go Go.RowKit
set_option linter.unusedSimpArgs false
set_option linter.unusedVariables false
theorem nd_inj {α β:Type} {f:α→β}:∀ {l:List α},(l.map f).Nodup→∀ {a b:α},a∈l→b∈l→f a=f b→a=b
 |[],_,a,_,ha,_,_=>by simp at ha
 |x::l,h,a,b,ha,hb,e=>by
  rw[List.map_cons,List.nodup_cons] at h
  rcases List.mem_cons.1 ha with h1|h1
  ·rcases List.mem_cons.1 hb with h2|h2
   ·rw[h1,h2]
   ·exact absurd (List.mem_map.2 ⟨b,h2,by rw[← e,h1]⟩) h.1
  ·rcases List.mem_cons.1 hb with h2|h2
   ·exact absurd (List.mem_map.2 ⟨a,h1,by rw[e,h2]⟩) h.1
   ·exact nd_inj h.2 h1 h2 e
theorem nd_ix {α β:Type} {f:α→β} {l:List α} (h:(l.map f).Nodup) {i j:Nat} (hi:i<l.length) (hj:j<l.length) (e:f l[i]=f l[j]):i=j:=by
 have hp:=List.pairwise_iff_getElem.1 h
 rcases Nat.lt_trichotomy i j with h1|h1|h1
 ·exact absurd (by rw[List.getElem_map,List.getElem_map];exact e) (hp i j (by simpa using hi) (by simpa using hj) h1)
 ·exact h1
 ·exact absurd (by rw[List.getElem_map,List.getElem_map];exact e.symm) (hp j i (by simpa using hj) (by simpa using hi) h1)
section
variable {α:Type} {lt:α→α→Bool}
theorem pw_tri (h:Go.Sort.SWO lt):∀ {l:List α},l.Pairwise (fun a b=>lt a b=true)→∀ x∈l,∀ y∈l,lt x y=false→lt y x=false→x=y
 |[],_,x,hx,_,_,_,_=>by simp at hx
 |a::l,hp,x,hx,y,hy,h1,h2=>by
  obtain⟨p1,p2⟩:=List.pairwise_cons.1 hp
  rcases List.mem_cons.1 hx with rfl|hx
  ·rcases List.mem_cons.1 hy with rfl|hy
   ·rfl
   ·rw[p1 y hy] at h1;cases h1
  ·rcases List.mem_cons.1 hy with rfl|hy
   ·rw[p1 x (by assumption)] at h2;cases h2
   ·exact pw_tri h p2 x hx y hy h1 h2
theorem pw_up (h:Go.Sort.SWO lt) {l:List α} (hp:l.Pairwise fun a b=>lt a b=true):Up lt l:=hp.imp fun h1=>SWO.asym h h1
theorem insAll_sorted (h:Go.Sort.SWO lt) {l:List α} (hp:l.Pairwise fun a b=>lt a b=true):insAll lt l=l:=(sort_insAll h (pw_tri h hp) (.refl _) (pw_up h hp)).symm
theorem insB_map {g:α→α} (hg:∀ x y,lt (g x) (g y)=lt x y) (x:α):∀ l:List α,insB lt (g x) (l.map g)=(insB lt x l).map g
 |[]=>rfl
 |k::r=>by
  simp only[List.map_cons,insB,hg]
  split
  ·rfl
  ·rw[List.map_cons,insB_map hg x r]
theorem insAll_map {g:α→α} (hg:∀ x y,lt (g x) (g y)=lt x y):∀ l:List α,insAll lt (l.map g)=(insAll lt l).map g:=by
 intro l
 have key:∀(l acc:List α),(l.map g).foldl (fun acc x=>insB lt x acc) (acc.map g)=(l.foldl (fun acc x=>insB lt x acc) acc).map g:=by
  intro l
  induction l with
  |nil=>intro acc;rfl
  |cons x l ih=>intro acc;simp only[List.map_cons,List.foldl_cons,insB_map hg];exact ih _
 exact key l []
theorem insAll_mem {l:List α} {x:α}:x∈insAll lt l↔x∈l:=(insAll_perm lt l).mem_iff
end
def tkey (t:Tally):ByteArray×Int:=(t.obj,t.rep)
def mergeT (f:Int→Bool) (a b:List Tally):List Tally:=insAll tallyLt (a.filter (fun t=> !f t.rep)++b.filter fun t=>f t.rep)
theorem tally_htri {l:List Tally} (h:(l.map tkey).Nodup):∀ x∈l,∀ y∈l,tallyLt x y=false→tallyLt y x=false→x=y:=fun x hx y hy h1 h2=>by
 have:=tally_tri h1 h2
 have e:tkey x=tkey y:=by simp[tkey,this.1,this.2]
 exact nd_inj h hx hy e
theorem tkey_nodup {l:List Tally} (h:l.Pairwise fun a b=>tallyLt a b=true):(l.map tkey).Nodup:=by
 rw[List.Nodup,List.pairwise_map]
 refine h.imp fun {a b} h1 e=> ?_
 injection e with e1 e2
 rw[tallyLt_irr' e1 e2] at h1;cases h1
theorem mergeT_key {f:Int→Bool} {a b:List Tally} (ha:a.Pairwise fun a b=>tallyLt a b=true) (hb:b.Pairwise fun a b=>tallyLt a b=true):((a.filter (fun t=> !f t.rep)++b.filter fun t=>f t.rep).map tkey).Nodup:=by
 rw[List.map_append,List.nodup_append]
 refine⟨tkey_nodup (ha.filter _),tkey_nodup (hb.filter _),?_⟩
 intro x hx y hy e
 obtain⟨t,ht,rfl⟩:=List.mem_map.1 hx
 obtain⟨u,hu,rfl⟩:=List.mem_map.1 hy
 have h1:=(List.mem_filter.1 ht).2
 have h2:=(List.mem_filter.1 hu).2
 injection e with _ e2
 rw[e2] at h1;simp only[h2] at h1;cases h1
def putT (acc:List Tally) (t:Tally):List Tally:=talPut acc t.obj t.rep t.sum
theorem putT_new {acc:List Tally} {t:Tally} (h:tkey t∉acc.map tkey):putT acc t=insB tallyLt t acc:=by
 have:acc.findIdx? (isTal t.obj t.rep)=none:=by
  rw[List.findIdx?_eq_none_iff]
  intro x hx
  cases e:isTal t.obj t.rep x with
  |false=>rfl
  |true=>
   have:=isTal_iff.1 e
   exact absurd (List.mem_map.2 ⟨x,hx,by simp[tkey,this.1,this.2]⟩) h
 unfold putT talPut
 rw[this]
theorem swo_lv:Go.Sort.SWO liveLt:=⟨fun x=>swo_dot.irrefl _,fun x y z h1 h2=>swo_dot.trans _ _ _ h1 h2,fun x y z h1 h2=>swo_dot.ntrans _ _ _ h1 h2⟩
def goneBy (b:List Cell) (c:Cell):Cell:={c with gone:=c.gone||b.any fun x=>decide (x.dot=c.dot)&&x.gone}
def isNewC (a:List Cell) (x:Cell):Bool:= !a.any fun c=>decide (c.dot=x.dot)
def joinC (a b:List Cell):List Cell:=a.map (goneBy b)++b.filter (isNewC a)
def mergeC (a b:List Cell):List Cell:=insAll cellLt (joinC a b)
def stepC (out:List Cell) (x:Cell):List Cell:=match cellIx out x.dot with
 |none=>insCell x out
 |some k=>if x.gone then out.modify k fun c=>{c with gone:=true} else out
theorem swo_cl:Go.Sort.SWO cellLt:=⟨fun x=>swo_dot.irrefl _,fun x y z h1 h2=>swo_dot.trans _ _ _ h1 h2,fun x y z h1 h2=>swo_dot.ntrans _ _ _ h1 h2⟩
theorem cell_dots {l:List Cell} (h:l.Pairwise fun a b=>dotLt a.dot b.dot=true):(l.map (·.dot)).Nodup:=by
 rw[List.Nodup,List.pairwise_map]
 refine h.imp fun {a b} h1 e=> ?_
 rw[e,dotLt_irr] at h1;cases h1
theorem cell_htri {l:List Cell} (h:(l.map (·.dot)).Nodup):∀ x∈l,∀ y∈l,cellLt x y=false→cellLt y x=false→x=y:=fun x hx y hy h1 h2=>cell_eq h hx hy (dotLt_tri h1 h2)
theorem isNewC_iff {a:List Cell} {x:Cell}:isNewC a x=true↔x.dot∉a.map (·.dot):=by
 simp only[isNewC,Bool.not_eq_true',List.any_eq_false,decide_eq_true_eq,List.mem_map,not_exists,not_and]
theorem joinC_dots {a b:List Cell}:(joinC a b).map (·.dot)=a.map (·.dot)++(b.filter (isNewC a)).map (·.dot):=by
 unfold joinC
 rw[List.map_append,List.map_map]
 rfl
theorem joinC_nodup {a b:List Cell} (ha:(a.map (·.dot)).Nodup) (hb:(b.map (·.dot)).Nodup):((joinC a b).map (·.dot)).Nodup:=by
 rw[joinC_dots,List.nodup_append]
 refine⟨ha,?_,?_⟩
 ·exact(List.filter_sublist.map _).nodup hb
 ·intro x hx y hy e
  subst e
  obtain⟨c,hc,e⟩:=List.mem_map.1 hy
  have h1:=isNewC_iff.1 (List.mem_filter.1 hc).2
  rw[e] at h1
  exact h1 hx
def goneX (x:Cell) (c:Cell):Cell:=if c.dot=x.dot then {c with gone:=c.gone||x.gone} else c
theorem goneX_dot (x c:Cell):(goneX x c).dot=c.dot:=by unfold goneX;split<;>rfl
theorem cellIx_of {l:List Cell} {d:Dot} (h:d∈l.map (·.dot)):∃ k,cellIx l d=some k:=by
 cases e:cellIx l d with
 |some k=>exact⟨k,rfl⟩
 |none=>
  unfold cellIx at e
  rw[List.findIdx?_eq_none_iff] at e
  obtain⟨c,hc,rfl⟩:=List.mem_map.1 h
  have:=e c hc
  simp at this
theorem cellIx_no {l:List Cell} {d:Dot} (h:d∉l.map (·.dot)):cellIx l d=none:=by
 unfold cellIx
 rw[List.findIdx?_eq_none_iff]
 intro c hc
 simp only[decide_eq_false_iff_not]
 exact fun e=>h (List.mem_map.2 ⟨c,hc,e⟩)
theorem step_map {l:List Cell} {x:Cell} (hn:(l.map (·.dot)).Nodup) (hx:x.dot∈l.map (·.dot)):stepC l x=l.map (goneX x):=by
 obtain⟨k,hk⟩:=cellIx_of hx
 obtain⟨hlt,hd⟩:=cellIx_some hk
 unfold stepC
 rw[hk]
 have hother:∀ j (hj:j<l.length),j≠k→l[j].dot≠x.dot:=fun j hj hne e=>by
  exact hne (nd_ix hn hj hlt (by rw[e,hd]))
 simp only
 refine List.ext_getElem (by split<;>simp) fun j h1 h2=> ?_
 have hj:j<l.length:=by simpa using h2
 rw[List.getElem_map]
 unfold goneX
 by_cases hg:x.gone
 ·simp only[hg,if_true]
  rw[List.getElem_modify]
  by_cases hjk:k=j
  ·subst hjk
   rw[if_pos rfl,if_pos hd,Bool.or_true]
  ·rw[if_neg hjk,if_neg (hother j hj (Ne.symm hjk))]
 ·have hg:x.gone=false:=by simpa using hg
  simp only[hg,Bool.false_eq_true,if_false,Bool.or_false]
  split<;>rfl
theorem merge_snoc {a b:List Cell} {x:Cell} (ha:(a.map (·.dot)).Nodup) (hb:((b++[x]).map (·.dot)).Nodup):stepC (mergeC a b) x=mergeC a (b++[x]):=by
 have hb0:(b.map (·.dot)).Nodup:=by rw[List.map_append,List.nodup_append] at hb;exact hb.1
 have hxb:x.dot∉b.map (·.dot):=by
  rw[List.map_append,List.nodup_append] at hb
  exact fun h=>hb.2.2 _ h x.dot (by simp) rfl
 have hj:=joinC_nodup ha hb0
 have hp:=insAll_perm cellLt (joinC a b)
 have hn:((mergeC a b).map (·.dot)).Nodup:=(hp.map _).nodup_iff.2 hj
 by_cases hxa:x.dot∈a.map (·.dot)
 ·have hin:x.dot∈(mergeC a b).map (·.dot):=(hp.map _).mem_iff.2 (by rw[joinC_dots];exact List.mem_append_left _ hxa)
  rw[step_map hn hin]
  unfold mergeC
  rw[← insAll_map (lt:=cellLt) (g:=goneX x) (fun y z=>by unfold cellLt;rw[goneX_dot,goneX_dot])]
  congr 1
  unfold joinC
  have hf:isNewC a x=false:=by
   cases e:isNewC a x with
   |false=>rfl
   |true=>exact absurd hxa (isNewC_iff.1 e)
  rw[List.map_append,List.map_map,List.filter_append,List.filter_cons,hf]
  simp only[Bool.false_eq_true,if_false,List.filter_nil,List.append_nil]
  congr 1
  ·refine List.map_congr_left fun c hc=> ?_
   simp only[Function.comp,goneX,goneBy,List.any_append,List.any_cons,List.any_nil,Bool.or_false]
   by_cases e:c.dot=x.dot
   ·simp[e,Bool.or_assoc]
   ·have e':¬ x.dot=c.dot:=fun h=>e h.symm
    simp[e,e']
  ·refine(List.map_congr_left fun c hc=> ?_).trans (List.map_id _)
   unfold goneX
   rw[if_neg fun e=>hxb (List.mem_map.2 ⟨c,(List.mem_filter.1 hc).1,e⟩)];rfl
 ·have hout:x.dot∉(mergeC a b).map (·.dot):=fun h=>by
   have:=(hp.map (·.dot)).mem_iff.1 h
   rw[joinC_dots] at this
   rcases List.mem_append.1 this with h1|h1
   ·exact hxa h1
   ·obtain⟨c,hc,e⟩:=List.mem_map.1 h1
    exact hxb (List.mem_map.2 ⟨c,(List.mem_filter.1 hc).1,e⟩)
  unfold stepC
  rw[cellIx_no hout]
  have ht:isNewC a x=true:=isNewC_iff.2 hxa
  have e:joinC a (b++[x])=joinC a b++[x]:=by
   unfold joinC
   rw[List.filter_append,List.filter_cons,ht]
   simp only[if_true,List.filter_nil,←List.append_assoc]
   congr 2
   refine List.map_congr_left fun c hc=> ?_
   have:¬ x.dot=c.dot:=fun h=>hxa (List.mem_map.2 ⟨c,hc,h.symm⟩)
   simp[goneBy,this]
  unfold mergeC
  rw[e,insAll_snoc]
  rfl
theorem foldl_stepC {a:List Cell} (ha:a.Pairwise fun a b=>dotLt a.dot b.dot=true) {b:List Cell} (hb:(b.map (·.dot)).Nodup):∀ n,n≤b.length→(b.take n).foldl stepC a=mergeC a (b.take n)
 |0,_=>by
  have:joinC a []=a:=by
   simp only[joinC,List.filter_nil,List.append_nil]
   refine(List.map_congr_left fun c _=> ?_).trans (List.map_id _)
   simp[goneBy]
  simp only[List.take_zero,List.foldl_nil,mergeC,this]
  exact(insAll_sorted swo_cl ha).symm
 |n+1,h=>by
  rw[List.take_succ_eq_append_getElem (by omega),List.foldl_append,foldl_stepC ha hb n (by omega)]
  refine merge_snoc (cell_dots ha) ?_
  rw[← List.take_succ_eq_append_getElem (by omega)]
  exact((List.take_sublist _ _).map _).nodup hb
end Go.Proofs.YtffnefmklckngaaGreat.Sy
namespace Go.Proofs.YtffnefmklckngaaGreat.Sy
open Go Go.RowKit
set_option linter.unusedSimpArgs false
set_option linter.unusedVariables false
set_option maxRecDepth 4000
abbrev n_i_sortLives_f1:Nat:=242
def F_i_sortLives_f1:Fn1:=⟨10,[.t 4],(.seq (.reg [o 2 (.box (.t 0)),o 3 (.box (.t 1)),o 4 (.mov (.k (.int .i64 0)))]) (.seq (.reg [o 5 (.fad 4 (.t 2)),o 6 (.ld true 2 (.t 5)),o 7 (.fad 4 (.t 3)),o 8 (.ld true 2 (.t 7)),o 9 (.call 174 [(.t 6),(.t 8)]),o 4 (.mov (.t 9))]) .ret))⟩
theorem ir_i_sortLives_f1:compFn Tryz.prog n_i_sortLives_f1=some F_i_sortLives_f1:=by kernel_rfl
abbrev n_i_mergedCells_f1:Nat:=243
def F_i_mergedCells_f1:Fn1:=⟨10,[.t 4],(.seq (.reg [o 2 (.box (.t 0)),o 3 (.box (.t 1)),o 4 (.mov (.k (.int .i64 0)))]) (.seq (.reg [o 5 (.fad 1 (.t 2)),o 6 (.ld true 2 (.t 5)),o 7 (.fad 1 (.t 3)),o 8 (.ld true 2 (.t 7)),o 9 (.call 174 [(.t 6),(.t 8)]),o 4 (.mov (.t 9))]) .ret))⟩
theorem ir_i_mergedCells_f1:compFn Tryz.prog n_i_mergedCells_f1=some F_i_mergedCells_f1:=by kernel_rfl
abbrev n_slices_SortFunc_impl_Tally_impl_Tally:Nat:=238
abbrev n_slices_pdqsortCmpFunc_impl_Tally:Nat:=261
abbrev n_slices_insertionSortCmpFunc_impl_Tally:Nat:=275
abbrev n_slices_siftDownCmpFunc_impl_Tally:Nat:=295
abbrev n_slices_heapSortCmpFunc_impl_Tally:Nat:=276
abbrev n_slices_reverseRangeCmpFunc_impl_Tally:Nat:=279
abbrev n_slices_partialInsertionSortCmpFunc_impl_Tally:Nat:=280
abbrev n_slices_partitionEqualCmpFunc_impl_Tally:Nat:=281
abbrev n_slices_partitionCmpFunc_impl_Tally:Nat:=282
abbrev n_slices_breakPatternsCmpFunc_impl_Tally:Nat:=277
abbrev n_slices_order2CmpFunc_impl_Tally:Nat:=302
abbrev n_slices_medianCmpFunc_impl_Tally:Nat:=297
abbrev n_slices_medianAdjacentCmpFunc_impl_Tally:Nat:=296
abbrev n_slices_choosePivotCmpFunc_impl_Tally:Nat:=278
abbrev n_slices_SortFunc_impl_Live_impl_Live:Nat:=241
abbrev n_slices_pdqsortCmpFunc_impl_Live:Nat:=262
abbrev n_slices_insertionSortCmpFunc_impl_Live:Nat:=283
abbrev n_slices_siftDownCmpFunc_impl_Live:Nat:=298
abbrev n_slices_heapSortCmpFunc_impl_Live:Nat:=284
abbrev n_slices_reverseRangeCmpFunc_impl_Live:Nat:=287
abbrev n_slices_partialInsertionSortCmpFunc_impl_Live:Nat:=288
abbrev n_slices_partitionEqualCmpFunc_impl_Live:Nat:=289
abbrev n_slices_partitionCmpFunc_impl_Live:Nat:=290
abbrev n_slices_breakPatternsCmpFunc_impl_Live:Nat:=285
abbrev n_slices_order2CmpFunc_impl_Live:Nat:=303
abbrev n_slices_medianCmpFunc_impl_Live:Nat:=300
abbrev n_slices_medianAdjacentCmpFunc_impl_Live:Nat:=299
abbrev n_slices_choosePivotCmpFunc_impl_Live:Nat:=286
instance:Inhabited Tally:=⟨⟨.empty,0,0⟩⟩
def elTally:El Tally:=⟨pTally,true,fun x=>.agg (pTally.enc x),fun _=>rfl,fun _=>rfl,by decide⟩
instance:Inhabited Live:=⟨⟨false,.empty,.empty,0,⟨0,0⟩⟩⟩
def elLive:El Live:=⟨pLive,true,fun x=>.agg (pLive.enc x),fun _=>rfl,fun _=>rfl,by decide⟩
theorem swo_live:Go.Sort.SWO liveLt:=⟨fun x=>swo_dot.irrefl _,fun x y z h1 h2=>swo_dot.trans _ _ _ h1 h2,fun x y z h1 h2=>swo_dot.ntrans _ _ _ h1 h2⟩
theorem swo_cell:Go.Sort.SWO cellLt:=⟨fun x=>swo_dot.irrefl _,fun x y z h1 h2=>swo_dot.trans _ _ _ h1 h2,fun x y z h1 h2=>swo_dot.ntrans _ _ _ h1 h2⟩
theorem tally_call (σ:St) (a b:Tally):Ret Tryz.prog n_i_compareTallies [elTally.val a,elTally.val b] σ (gi (cmpTally a b)) σ:=by
 show Ret Tryz.prog n_i_compareTallies [.agg (pTally.enc a),.agg (pTally.enc b)] σ (gi (cmpTally a b)) σ
 simp only[enc_Tally]
 exact i_compareTallies_ret σ a b
theorem live_call (σ:St) (a b:Live):Ret Tryz.prog n_i_sortLives_f1 [elLive.val a,elLive.val b] σ (gi (cmpDot a.dot b.dot)) σ:=by
 show Ret Tryz.prog n_i_sortLives_f1 [.agg (pLive.enc a),.agg (pLive.enc b)] σ (gi (cmpDot a.dot b.dot)) σ
 simp only[enc_Live]
 refine ret_xe ir_i_sortLives_f1 (Nat.le_of_ble_eq_true rfl) trivial ?_
 simp +contextual (disch:=omega) only[go_sem,F_i_sortLives_f1]
 intro n f τ H n2 f2 τ2 H2
 refine by_r H2 (i_compareDots_ret _ _ _) ?_
 simp +contextual (disch:=omega) only[go_sem]
theorem cell_call (σ:St) (a b:Cell):Ret Tryz.prog n_i_mergedCells_f1 [elCell.val a,elCell.val b] σ (gi (cmpDot a.dot b.dot)) σ:=by
 show Ret Tryz.prog n_i_mergedCells_f1 [.agg (pCell.enc a),.agg (pCell.enc b)] σ (gi (cmpDot a.dot b.dot)) σ
 simp only[enc_Cell]
 refine ret_xe ir_i_mergedCells_f1 (Nat.le_of_ble_eq_true rfl) trivial ?_
 simp +contextual (disch:=omega) only[go_sem,F_i_mergedCells_f1]
 intro n f τ H n2 f2 τ2 H2
 refine by_r H2 (i_compareDots_ret _ _ _) ?_
 simp +contextual (disch:=omega) only[go_sem]
def qTally:SN:=⟨n_slices_insertionSortCmpFunc_impl_Tally,n_slices_siftDownCmpFunc_impl_Tally,n_slices_heapSortCmpFunc_impl_Tally,n_slices_reverseRangeCmpFunc_impl_Tally,n_slices_partialInsertionSortCmpFunc_impl_Tally,n_slices_partitionEqualCmpFunc_impl_Tally,n_slices_partitionCmpFunc_impl_Tally,n_slices_breakPatternsCmpFunc_impl_Tally,n_slices_order2CmpFunc_impl_Tally,n_slices_medianCmpFunc_impl_Tally,n_slices_medianAdjacentCmpFunc_impl_Tally,n_slices_choosePivotCmpFunc_impl_Tally,n_slices_pdqsortCmpFunc_impl_Tally,0,n_slices_nextPowerOfTwo,n_slices_xorshift_Next⟩
def qLive:SN:=⟨n_slices_insertionSortCmpFunc_impl_Live,n_slices_siftDownCmpFunc_impl_Live,n_slices_heapSortCmpFunc_impl_Live,n_slices_reverseRangeCmpFunc_impl_Live,n_slices_partialInsertionSortCmpFunc_impl_Live,n_slices_partitionEqualCmpFunc_impl_Live,n_slices_partitionCmpFunc_impl_Live,n_slices_breakPatternsCmpFunc_impl_Live,n_slices_order2CmpFunc_impl_Live,n_slices_medianCmpFunc_impl_Live,n_slices_medianAdjacentCmpFunc_impl_Live,n_slices_choosePivotCmpFunc_impl_Live,n_slices_pdqsortCmpFunc_impl_Live,0,n_slices_nextPowerOfTwo,n_slices_xorshift_Next⟩
def srtTally:SrtC Tally tallyLt where
 e:=elTally
 q:=qTally
 f:=n_i_compareTallies
 k:=cmpTally
 call:=tally_call
 klt:=fun a b=>cmpTally_lt
 h_insertionSort:=by kernel_rfl
 h_siftDown:=by kernel_rfl
 h_heapSort:=by kernel_rfl
 h_reverseRange:=by kernel_rfl
 h_partialInsertionSort:=by kernel_rfl
 h_partitionEqual:=by kernel_rfl
 h_partition:=by kernel_rfl
 h_breakPatterns:=by kernel_rfl
 h_order2:=by kernel_rfl
 h_median:=by kernel_rfl
 h_medianAdjacent:=by kernel_rfl
 h_choosePivot:=by kernel_rfl
 h_pdqsort:=by kernel_rfl
 nS:=n_slices_SortFunc_impl_Tally_impl_Tally
 h_Sort:=by kernel_rfl
 hnp:=rfl
 hxs:=rfl
def srtLive:SrtC Live liveLt where
 e:=elLive
 q:=qLive
 f:=n_i_sortLives_f1
 k:=fun a b=>cmpDot a.dot b.dot
 call:=live_call
 klt:=fun a b=>cmpDot_lt
 h_insertionSort:=by kernel_rfl
 h_siftDown:=by kernel_rfl
 h_heapSort:=by kernel_rfl
 h_reverseRange:=by kernel_rfl
 h_partialInsertionSort:=by kernel_rfl
 h_partitionEqual:=by kernel_rfl
 h_partition:=by kernel_rfl
 h_breakPatterns:=by kernel_rfl
 h_order2:=by kernel_rfl
 h_median:=by kernel_rfl
 h_medianAdjacent:=by kernel_rfl
 h_choosePivot:=by kernel_rfl
 h_pdqsort:=by kernel_rfl
 nS:=n_slices_SortFunc_impl_Live_impl_Live
 h_Sort:=by kernel_rfl
 hnp:=rfl
 hxs:=rfl
def srtCellD:SrtC Cell cellLt where
 e:=elCell
 q:=qCell
 f:=n_i_mergedCells_f1
 k:=fun a b=>cmpDot a.dot b.dot
 call:=cell_call
 klt:=fun a b=>cmpDot_lt
 h_insertionSort:=by kernel_rfl
 h_siftDown:=by kernel_rfl
 h_heapSort:=by kernel_rfl
 h_reverseRange:=by kernel_rfl
 h_partialInsertionSort:=by kernel_rfl
 h_partitionEqual:=by kernel_rfl
 h_partition:=by kernel_rfl
 h_breakPatterns:=by kernel_rfl
 h_order2:=by kernel_rfl
 h_median:=by kernel_rfl
 h_medianAdjacent:=by kernel_rfl
 h_choosePivot:=by kernel_rfl
 h_pdqsort:=by kernel_rfl
 nS:=n_slices_SortFunc_impl_Cell_impl_Cell
 h_Sort:=by kernel_rfl
 hnp:=rfl
 hxs:=rfl
theorem sortTally_ret {σ0 σ:St} {rs:List Thg} {v:GV} {l:List Tally} (H:Hp σ0 σ rs) (k:Nat) (hk:rs[k]? =some (ow pTally.kd v l)) (hl:l.length≤1099511627776) (htri:∀ x∈l,∀ y∈l,tallyLt x y=false→tallyLt y x=false→x=y):∃ τ,Ret Tryz.prog n_slices_SortFunc_impl_Tally_impl_Tally [v,.fn n_i_compareTallies []] σ (.tup []) τ∧Hp σ0 τ (rs.set k (ow pTally.kd v (insAll tallyLt l))):=
 C.sort_ret srtTally swo_tally H k hk hl htri
theorem sortLive_ret {σ0 σ:St} {rs:List Thg} {v:GV} {l:List Live} (H:Hp σ0 σ rs) (k:Nat) (hk:rs[k]? =some (ow pLive.kd v l)) (hl:l.length≤1099511627776) (htri:∀ x∈l,∀ y∈l,liveLt x y=false→liveLt y x=false→x=y):∃ τ,Ret Tryz.prog n_slices_SortFunc_impl_Live_impl_Live [v,.fn n_i_sortLives_f1 []] σ (.tup []) τ∧Hp σ0 τ (rs.set k (ow pLive.kd v (insAll liveLt l))):=
 C.sort_ret srtLive swo_live H k hk hl htri
theorem sortCellD_ret {σ0 σ:St} {rs:List Thg} {v:GV} {l:List Cell} (H:Hp σ0 σ rs) (k:Nat) (hk:rs[k]? =some (ow pCell.kd v l)) (hl:l.length≤1099511627776) (htri:∀ x∈l,∀ y∈l,cellLt x y=false→cellLt y x=false→x=y):∃ τ,Ret Tryz.prog n_slices_SortFunc_impl_Cell_impl_Cell [v,.fn n_i_mergedCells_f1 []] σ (.tup []) τ∧Hp σ0 τ (rs.set k (ow pCell.kd v (insAll cellLt l))):=
 C.sort_ret srtCellD swo_cell H k hk hl htri
end Go.Proofs.YtffnefmklckngaaGreat.Sy
namespace Go.Proofs.YtffnefmklckngaaGreat.Sy
open Go Go.RowKit
set_option linter.unusedSimpArgs false
set_option linter.unusedVariables false
attribute [go_sem] List.set_cons_zero List.set_cons_succ List.eraseIdx_cons_succ List.eraseIdx_cons_zero List.map_cons List.map_nil List.cons_append List.nil_append
section
variable {P:Program} {D:Bool} {σ τ:St} {env:Env} {h:List Item} {k:Kx} {v:GV} {α:Type} {l:List α}
theorem flt_t {p:α→Bool} {i:Nat} (hi:i<l.length) (hp:p l[i]=true):(l.take (i+1)).filter p=(l.take i).filter p++[l[i]]:=by
 rw[List.take_succ_eq_append_getElem hi,List.filter_append,List.filter_cons,hp];rfl
theorem flt_f {p:α→Bool} {i:Nat} (hi:i<l.length) (hp:p l[i]=false):(l.take (i+1)).filter p=(l.take i).filter p:=by
 rw[List.take_succ_eq_append_getElem hi,List.filter_append,List.filter_cons,hp];simp
theorem flt_le {p:α→Bool} {i n:Nat} (hl:l.length≤n):((l.take i).filter p).length≤n:=Nat.le_trans (List.length_filter_le _ _) (Nat.le_trans (by rw[List.length_take];omega) hl)
theorem Hx.of {rs:List Thg} (H:Hp σ τ rs):Hx σ τ (rs.map Item.th):=by
 have e:(rs.map Item.th).map Item.t=rs:=by
  have:=map_th (rs:=rs) (h:=[])
  simpa using this
 unfold Hx
 rw[e];exact H
theorem Hx.nil (H:Hx σ τ h) (d:Kd α):Hx σ τ (.th (ow d .nilS ([]:List α))::h):=Hp.nilS H
theorem Hx.emp {z n:Nat} (H:Hx σ τ (.box z n []::h)) (d:Kd α) (hz:z=d.z):Hx σ τ (.th (ow d (.sl n 0 0) ([]:List α))::h):=H.hp.toNil 0 rfl hz
theorem by_mset {f:Nat} {args:List GV} {w:GV} {τ':St} {r:Thg} (i:Nat) (R:Ret P f args τ w τ') (K:Hp σ τ' ((h.map Item.t).set i r)) (kk:Hx σ τ' (h.set i (.th r))→k w (h.set i (.th r)) τ'):callX P σ false τ f args k:=by
 rw[← set_t] at K
 exact by_m R K (kk K)
theorem ldX_in {g:Bool} {n:Nat} {a x:GV} (e:ldG g n σ a=some x):ldX σ h τ g n a=some x:=by unfold ldX orX;rw[e]
theorem kp {p:Nat→Prop} {env0 env:Env} {d:Nat} {v:GV} (hd:¬ p d) (h:∀ r,p r→env r=env0 r):∀ r,p r→up env d v r=env0 r:=fun r hr=>by
 unfold up
 rw[if_neg (fun e:r=d=>hd (by rw[← e];exact hr))]
 exact h r hr
theorem call_cut {f:Nat} {args:List GV} {r:List Op1} {K:Env→List Item→St→Prop} {d:Option Nat} (H:Hx σ τ h) (m x:Nat) (g:GV)
  (ha:∀ Y:Env→List Item→St→Prop,(∀ env',(∀ r,r<m∧r≠x→env' r=env r)→env' x=g→Y env' h τ)→callX P σ D τ f args (nextX P D σ r Y env d))
  (hb:∀ env',(∀ r,r<m∧r≠x→env' r=env r)→env' x=g→K env' h τ):callX P σ D τ f args (nextX P D σ r K env d):=by
 obtain⟨v,τ',h',h1,h2,h3,h4⟩:=ha (fun env' h' τ'=>(∀ r,r<m∧r≠x→env' r=env r)∧env' x=g∧h'=h∧τ'=τ) fun env' h1 h2=>⟨h1,h2,rfl,rfl⟩
 refine⟨v,τ',h',h1,h2,h3,sx_mono (fun env' h'' τ'' hk=> ?_) h4⟩
 obtain⟨k1,k2,rfl,rfl⟩:=hk
 exact hb env' k1 k2
theorem by_mkm (H:Hx σ τ h) (kk:∀ m τ',Hx σ τ' (.th (mpt m [])::h)→k m (.th (mpt m [])::h) τ'):genX σ D τ (some (.mp τ.length,τ++[some (.map [])])) k:=by
 have H':Hx σ (τ++[some (.map [])]) (.th (mpt (.mp τ.length) [])::h):=H.hp.newMap
 exact⟨_,_,_,rfl,fun _=>List.prefix_append _ _,H',kk _ _ H'⟩
theorem by_mup {m:GV} {ps:List (Dot×Int)} (H:Hx σ τ h) (i:Nat) (hi:h[i]? =some (.th (mpt m ps))) (d:Dot) (n:Int) (hd:dlook ps d=none)
  (kk:∀ τ',Hx σ τ' (h.set i (.th (mpt m (ps++[(d,n)]))))→k (.tup []) (h.set i (.th (mpt m (ps++[(d,n)])))) τ'):genX σ false τ (mupG τ [.i .i64,.i .i64] m (.agg [gi d.rep,gi d.seq]) (gi n)) k:=by
 obtain⟨τ',e,H'⟩:=H.hp.mup i (at_t hi) d n hd
 rw[← set_t] at H'
 exact⟨_,τ',_,e,(fun h=>by cases h),H',kk τ' H'⟩
theorem Hx.mlk {m:GV} {ps:List (Dot×Int)} (H:Hx σ τ h) (i:Nat) (hi:h[i]? =some (.th (mpt m ps))) (d:Dot):mlkG τ [.i .i64,.i .i64] (gi 0) true m (.agg [gi d.rep,gi d.seq])=some (.tup [gi ((dlook ps d).getD 0),.bool (dlook ps d).isSome]):=H.hp.mlk i (at_t hi) d
theorem ldX_own (H:Hx σ τ h) {g:Bool} {n:Nat} {a x:GV} (e:ldG g n τ a=some x):ldX σ h τ g n a=some x:=by
 unfold ldX orX
 cases h1:ldG g n σ a with
 |some y=>have:=ldG_pre h1 H.sub;rw[e] at this;exact this.symm
 |none=>
  show ldY h τ g n a=some x
  cases a with
  |ptr b off=>
   simp only[ldY]
   cases hl:look h b with
   |none=>exact e
   |some cs=>
    obtain⟨z,i,h2,_⟩:=look_at hl
    have:=H.hp.pt i h2
    simp only[ldG,this,Option.bind_some] at e
    exact e
  |_=>exact e
theorem own_at {p:Pl α} (H:Hx σ τ h) (i:Nat) (hi:h[i]? =some (.th (ow p.kd v l))) {j:Nat} (hj:j<l.length):iadG p.z v (some j)=some (atz p.z v j)∧(∀ k,fadG k (atz p.z v j)=some (fld k (atz p.z v j)))∧(∀ k m,fadG k (fld m (atz p.z v j))=some (fld (m+k) (atz p.z v j)))∧ldX σ h τ true p.z (atz p.z v j)=some (.agg (p.enc l[j]))∧∀ k n a,0<n→k+n≤p.z→ldX σ h τ a n (fld k (atz p.z v j))=(seg (p.enc l[j]) k n).bind (mkv a):=by
 obtain⟨cs,⟨h1,h2,h3,h4,h5⟩,rfl⟩:=RdN.cellsN (d:=p.kd) (H.hp.sl i (at_t hi)) hj
 refine⟨h1,h2,h3,ldX_own H h4,fun k n a hn hk=> ?_⟩
 have h6:=h5 k n a hk
 have hl:(p.enc l[j]).length=p.z:=p.len _
 have e:seg (p.enc l[j]) k n=some (((p.enc l[j]).drop k).take n):=by unfold seg;rw[if_pos (by omega)]
 obtain⟨x,hx⟩:∃ x,mkv a (((p.enc l[j]).drop k).take n)=some x:=by
  cases a with
  |true=>exact⟨_,rfl⟩
  |false=>
   cases hc:((p.enc l[j]).drop k).take n with
   |nil=>
        have:(((p.enc l[j]).drop k).take n).length=0:=by rw[hc];rfl
        simp only[List.length_take,List.length_drop] at this;omega
   |cons y ys=>exact⟨y,rfl⟩
 rw[e,Option.bind_some,hx] at h6 ⊢
 exact ldX_own H h6
theorem Cell_own {l:List Cell} (H:Hx σ τ h) (i:Nat) (hi:h[i]? =some (.th (ow pCell.kd v l))) {j:Nat} (hj:j<l.length):iadG 8 v (some j)=some (atz 8 v j)∧(∀ k,fadG k (atz 8 v j)=some (fld k (atz 8 v j)))∧(∀ k m,fadG k (fld m (atz 8 v j))=some (fld (m+k) (atz 8 v j)))∧ldX σ h τ true 8 (atz 8 v j)=some (.agg [.str l[j].obj,gi l[j].dot.rep,gi l[j].dot.seq,gi l[j].time,gi l[j].ref.rep,gi l[j].ref.seq,gi l[j].val,.bool l[j].gone])∧∀ k n a,0<n→k+n≤8→ldX σ h τ a n (fld k (atz 8 v j))=(seg [.str l[j].obj,gi l[j].dot.rep,gi l[j].dot.seq,gi l[j].time,gi l[j].ref.rep,gi l[j].ref.seq,gi l[j].val,.bool l[j].gone] k n).bind (mkv a):=own_at H i hi hj
theorem look_box:∀ {h:List Item} {n:Nat} {cs:List GV},look h n=some cs→∃ z,∃ i:Nat,h[i]? =some (.box z n cs)
 |[],_,_,e=>by cases e
 | .box z m cs'::h,n,cs,e=>by
  simp only[look] at e
  by_cases hm:m=n
  ·rw[if_pos hm] at e
   injection e with e;subst e hm
   exact⟨z,0,rfl⟩
  ·rw[if_neg hm] at e
   obtain⟨z',i,h1⟩:=look_box e
   exact⟨z',i+1,by simpa using h1⟩
 | .th r::h,n,cs,e=>by
  obtain⟨z',i,h1⟩:=look_box (h:=h) (by simpa [look] using e)
  exact⟨z',i+1,by simpa using h1⟩
theorem no_box (H:Hx σ τ h) {i:Nat} {r:Thg} (hi:h[i]? =some (.th r)) {b:Nat} (hb:∀ fp,r.P τ fp→b∈fp):look h b=none:=by
 cases hl:look h b with
 |none=>rfl
 |some cs=>
  obtain⟨z,j,h1⟩:=look_box hl
  obtain⟨_,fp,hs,hn,_⟩:=H.hp
  obtain⟨F,k1,k2,k3,_⟩:=sat_feet hs hn
  have hj:=k1 j (pt z b cs) (by rw[List.getElem?_map,h1];rfl)
  have hr:=k1 i _ (at_t hi)
  have hij:i≠j:=by
   rintro rfl
   rw[hi] at h1;cases h1
  have h2:b∈F j:=by rw[hj.1];exact List.mem_cons_self
  exact(k3 i j hij b (hb _ hr) h2).elim
theorem stX_gen (H:Hx σ τ h) {p:Pl α} {i:Nat} (hi:h[i]? =some (.th (ow p.kd v l))) {j:Nat} (hj:j<l.length) {m n:Nat} {x:GV} (e:genX σ false τ (stG n τ (fld m (atz p.z v j)) x) k):stX σ false h τ n k (fld m (atz p.z v j)) x:=by
 obtain⟨fp,ho,_⟩:=H.hp.see (at_t hi)
 rcases OS.flat.1 ho with⟨rfl,_⟩|⟨g,pre,post,rfl,hB,rfl⟩
 ·simp at hj
 ·have hn:look h g=none:=no_box H hi fun fp' ho'=>by
   rcases OS.flat.1 ho' with⟨rfl,_⟩|⟨g',pre',post',e',_,rfl⟩
   ·simp at hj
   ·injection e' with e1;rw[e1];exact List.mem_cons_self
  show stB σ false h τ n k g _ x (look h g)
  rw[hn]
  exact e
theorem by_ste {p:Pl α} (H:Hx σ τ h) (i:Nat) (hi:h[i]? =some (.th (ow p.kd v l))) {j:Nat} (hj:j<l.length) {m n:Nat} {x:GV} (y:α) (hx:x.cells.length=n) (hn:0<n) (hk:m+n≤p.z) (hy:p.enc y=splice (p.enc l[j]) m x.cells)
  (kk:∀ τ',Hx σ τ' (h.set i (.th (ow p.kd v (l.set j y))))→k (.tup []) (h.set i (.th (ow p.kd v (l.set j y)))) τ'):stX σ false h τ n k (fld m (atz p.z v j)) x:=by
 obtain⟨τ',e,H'⟩:=H.hp.ste i (at_t hi) hj n m x y hx hn hk hy
 rw[← set_t] at H'
 exact stX_gen H hi hj ⟨_,τ',_,e,(fun h=>by cases h),H',kk τ' H'⟩
end
end Go.Proofs.YtffnefmklckngaaGreat.Sy
