/- Texts of this proof, one behind the other. -/
import Derived.Test.YtckobfochhjmdaaGreatDoorBShowWorld1
import Derived.Test.YtckobfochhjmdaaGreatDoorProg
import Derived.KernelRfl
import Derived.Shelf.Strings.OnBuilder
import Derived.Shelf.Strconv.Itoa3
import Derived.Lib.SmallJoins
import Derived.Lib.ItoaLen
import Derived.Sort.AssemblyPlain
import Derived.Sort.LotD3
import Derived.Sort.LotD1
set_option linter.unusedSimpArgs false
set_option linter.unusedVariables false
set_option maxRecDepth 4000
set_option maxHeartbeats 4000000
open List renaming append_nil→Zaa,prefix_refl→Zac,getElem_mem→Zad,pairwise_cons→Zae,mem_cons_self→Zaf,mem_cons→Zag,mem_cons_of_mem→Zah,take_length→Zaj,set_cons_zero→Zak,set_cons_succ→Zal,flatMap_cons→Zam,mem_filter→Zao,getElem_of_mem→Zar,findIdx?_eq_some_iff_getElem→Zas,findIdx?_eq_none_iff→Zau,drop_eq_getElem_cons→Zav,getElem?_eq_getElem→Zaw,length_cons→Zay,getElem?_eq_some_iff→Za0,length_take→Za1,length_append→Za2,getElem?_set_self→Za3,replicate→Za4,length_filter_le→Za7,foldl_cons→Za9,map_append→Zba,mem_map_of_mem→Zbb,filter_sublist→Zbc,flatMap_append→Zbd,getD_eq_getElem?_getD→Zbe,pairwise_iff_getElem→Zbh,eraseIdx_cons_succ→Zbi,eraseIdx_cons_zero→Zbj,mem_flatMap→Zbk,length_replicate→Zbl,nodup_cons→Zbm,sum_append→Zbn,reverse_append→Zbp,map_cons→Zbs,append_assoc→Zbu,reverse_cons→Zbx,mem_map→Zby,all_eq_true→Zbz,cons_append→Zb0,flatMap_map→Zb2,flatMap_nil→Zb3,nil_append→Zb4,sum_cons→Zb8
open Bool renaming and_eq_true→Zab,eq_iff_iff→Zan,or_eq_true→Zaq,true_and→Zaz,and_eq_false_iff→Za6,or_eq_false_iff→Za8,false_eq_true→Zbf,not_eq_false'→Zbr,not_eq_true'→Zbw,and_false→Zb7
open Nat renaming eq_zero_or_pos→Zai,le_refl→Zax,lt_or_ge→Za5,le_trans→Zbg,div_lt_iff_lt_mul→Zbo,add_sub_cancel→Zbq,sub_add_cancel→Zbt,two_pow_pos→Zb6
open Int renaming ofNat_zero→Zap,lt_irrefl→Zat,lt_trichotomy→Zbv
open Option renaming getD_some→Zb1,map_some→Zb5
namespace Go.Proofs.YtckobfochhjmdaaGreatDoor.Sy
open Go Go.RowKit
def Xe:Fn1:=⟨42,[.t 4],(rg [oX 2 0,oV 4 (ki 0)] (rg [oF 5 0 2,oL 6 5,oM 7 1,oD 8 22 6 7,oM 1 8] (.seq (rg [oM 9 1,oE 10 .lss 9 0] (oG 10 (rg [o 4 (.mov (ki (-1)))] .ret))) (rg [oF 11 1 2,oL 12 11,oM 13 1,oD 14 22 12 13,oM 1 14] (.seq (rg [oM 15 1,oE 16 .lss 15 0] (oG 16 (rg [o 4 (.mov (ki (-1)))] .ret))) (rg [oF 17 2 2,oL 18 17,oM 19 1,oD 20 218 18 19,oM 1 20] (.seq (rg [oM 21 1,oE 22 .lss 21 0] (oG 22 (rg [o 4 (.mov (ki (-1)))] .ret))) (rg [oF 23 3 2,oL 24 23,oM 25 1,oD 26 219 24 25,oM 1 26] (.seq (rg [oM 27 1,oE 28 .lss 27 0] (oG 28 (rg [o 4 (.mov (ki (-1)))] .ret))) (rg [oF 29 4 2,oL 30 29,oM 31 1,oD 32 288 30 31,oM 1 32] (.seq (rg [oM 33 1,oE 34 .lss 33 0] (oG 34 (rg [o 4 (.mov (ki (-1)))] .ret))) (rg [oF 35 5 2,oL 36 35,oM 37 1,oD 38 220 36 37,oM 1 38] (.seq (rg [oM 39 1,oE 40 .lss 39 0] (oG 40 (rg [o 4 (.mov (ki (-1)))] .ret))) (rg [oM 41 1,oM 4 41] .ret))))))))))))))⟩
theorem A7w:A2 Tryz.prog 223=some Xe:=by kernel_rfl
theorem A56 (U:St) (cs:List GV) (x:Delta) (hR:Dr.R U x cs) (n:Int) (hw:Afz x) (h0:0<=n) (h1:n<=1099511627776):Ret Tryz.prog 223 [.agg cs,gi n] U (gi (lf n (Cv x))) U:=by
 obtain⟨v0,v1,v2,v3,v4,v5,rfl,q0,q1,q2,q3,q4,q5⟩:=hR
 obtain⟨w0,w1,w2,w3,w4,w5⟩:=hw
 refine Ac A7w (Z0z rfl) trivial ?_
 simp +contextual (disch:=omega) only[go_sem,Xe,Zaa]
 refine A5 (Cy _ v0 x.base (q0.pre (pre1 _ _)) (n) w0 (by omega) (by omega)) ?_
 simp +contextual (disch:=omega) only[go_sem,Zaa]
 have g0:= @Co (n) (x.base.length) (by omega)
 refine⟨fun hn=> ?_,fun hn=> ?_⟩
 ·have hn:=of_decide_eq_true hn
  have hn:=Bi.1 hn
  unfold Cv lf;rw[if_pos (by omega)]
 have hn:=of_decide_eq_false hn
 have f0:=Ar hn
 try simp(disch:=omega) only[Ag]
 refine A5 (Cy _ v1 x.know (q1.pre (pre1 _ _)) (lf (n) (x.base.length)) w1 (by omega) (by omega)) ?_
 simp +contextual (disch:=omega) only[go_sem,Zaa]
 have g1:= @Co (lf (n) (x.base.length)) (x.know.length) (by omega)
 refine⟨fun hn=> ?_,fun hn=> ?_⟩
 ·have hn:=of_decide_eq_true hn
  have hn:=Bi.1 hn
  unfold Cv lf;rw[if_pos (by omega)]
 have hn:=of_decide_eq_false hn
 have f1:=Ar hn
 try simp(disch:=omega) only[Ag]
 refine A5 (Ll _ v2 x.tallies (q2.pre (pre1 _ _)) (lf (lf (n) (x.base.length)) (x.know.length)) w2 (by omega) (by omega)) ?_
 simp +contextual (disch:=omega) only[go_sem,Zaa]
 have g2:= @Co (lf (lf (n) (x.base.length)) (x.know.length)) ((x.tallies.length+sumL Av x.tallies)) (by omega)
 refine⟨fun hn=> ?_,fun hn=> ?_⟩
 ·have hn:=of_decide_eq_true hn
  have hn:=Bi.1 hn
  unfold Cv lf;rw[if_pos (by omega)]
 have hn:=of_decide_eq_false hn
 have f2:=Ar hn
 try simp(disch:=omega) only[Ag]
 refine A5 (O6 _ v3 x.lives (q3.pre (pre1 _ _)) (lf (lf (lf (n) (x.base.length)) (x.know.length)) ((x.tallies.length+sumL Av x.tallies))) w3 (by omega) (by omega)) ?_
 simp +contextual (disch:=omega) only[go_sem,Zaa]
 have g3:= @Co (lf (lf (lf (n) (x.base.length)) (x.know.length)) ((x.tallies.length+sumL Av x.tallies))) ((x.lives.length+sumL Bl x.lives)) (by omega)
 refine⟨fun hn=> ?_,fun hn=> ?_⟩
 ·have hn:=of_decide_eq_true hn
  have hn:=Bi.1 hn
  unfold Cv lf;rw[if_pos (by omega)]
 have hn:=of_decide_eq_false hn
 have f3:=Ar hn
 try simp(disch:=omega) only[Ag]
 refine A5 (A7v _ v4 x.dead (q4.pre (pre1 _ _)) (lf (lf (lf (lf (n) (x.base.length)) (x.know.length)) ((x.tallies.length+sumL Av x.tallies))) ((x.lives.length+sumL Bl x.lives))) w4 (by omega) (by omega)) ?_
 simp +contextual (disch:=omega) only[go_sem,Zaa]
 have g4:= @Co (lf (lf (lf (lf (n) (x.base.length)) (x.know.length)) ((x.tallies.length+sumL Av x.tallies))) ((x.lives.length+sumL Bl x.lives))) (x.dead.length) (by omega)
 refine⟨fun hn=> ?_,fun hn=> ?_⟩
 ·have hn:=of_decide_eq_true hn
  have hn:=Bi.1 hn
  unfold Cv lf;rw[if_pos (by omega)]
 have hn:=of_decide_eq_false hn
 have f4:=Ar hn
 try simp(disch:=omega) only[Ag]
 refine A5 (O5 _ v5 x.cells (q5.pre (pre1 _ _)) (lf (lf (lf (lf (lf (n) (x.base.length)) (x.know.length)) ((x.tallies.length+sumL Av x.tallies))) ((x.lives.length+sumL Bl x.lives))) (x.dead.length)) w5 (by omega) (by omega)) ?_
 simp +contextual (disch:=omega) only[go_sem,Zaa]
 have g5:= @Co (lf (lf (lf (lf (lf (n) (x.base.length)) (x.know.length)) ((x.tallies.length+sumL Av x.tallies))) ((x.lives.length+sumL Bl x.lives))) (x.dead.length)) ((x.cells.length+sumL Cj x.cells)) (by omega)
 refine⟨fun hn=> ?_,fun hn=> ?_⟩
 ·have hn:=of_decide_eq_true hn
  have hn:=Bi.1 hn
  unfold Cv lf;rw[if_pos (by omega)]
 have hn:=of_decide_eq_false hn
 have f5:=Ar hn
 try simp(disch:=omega) only[Ag]
 unfold Cv;rw[show lf n (x.base.length+x.know.length+(x.tallies.length+sumL Av x.tallies)+(x.lives.length+sumL Bl x.lives)+x.dead.length+(x.cells.length+sumL Cj x.cells))=n - ((x.base.length+x.know.length+(x.tallies.length+sumL Av x.tallies)+(x.lives.length+sumL Bl x.lives)+x.dead.length+(x.cells.length+sumL Cj x.cells):Nat):Int) by unfold lf;rw[if_neg (by omega)]];try omega
def A2r:Fn1:=⟨18,[.t 4],(rg [oX 2 0,oV 4 (ki 0)] (rg [oF 5 1 2,oW 6 10 5,oM 7 1,oD 8 222 6 7,oM 1 8] (.seq (rg [oM 9 1,oE 10 .lss 9 0] (oG 10 (rg [o 4 (.mov (ki (-1)))] .ret))) (rg [oF 11 11 2,oW 12 6 11,oM 13 1,oD 14 223 12 13,oM 1 14] (.seq (rg [oM 15 1,oE 16 .lss 15 0] (oG 16 (rg [o 4 (.mov (ki (-1)))] .ret))) (rg [oM 17 1,oM 4 17] .ret))))))⟩
theorem Ab1:A2 Tryz.prog 148=some A2r:=by kernel_rfl
theorem A7x (U:St) (cs:List GV) (x:Unit_) (hR:Bv.R U x cs) (n:Int) (hw:Aaf x) (h0:0<=n) (h1:n<=1099511627776):Ret Tryz.prog 148 [.agg cs,gi n] U (gi (lf n (B9 x))) U:=by
 obtain⟨v1,v2,rfl,q1,q2⟩:=hR
 obtain⟨w0,w1⟩:=hw
 have a1:=q1
 have a2:=q2
 obtain⟨kv,rfl,_⟩:=q1
 obtain⟨d0,d1,d2,d3,d4,d5,rfl,_⟩:=q2
 suffices key:Ret Tryz.prog 148 [.agg (.bool x.batch::[.int .i64 x.act.dot.rep,.int .i64 x.act.dot.seq,.int .i64 x.act.time,kv,.int .i64 x.act.kind,.str x.act.obj,.str x.act.key,.int .i64 x.act.val,.int .i64 x.act.ref.rep,.int .i64 x.act.ref.seq,d0,d1,d2,d3,d4,d5]),gi n] U (gi (lf n (B9 x))) U from key
 refine Ac Ab1 (Z0z rfl) trivial ?_
 simp +contextual (disch:=omega) only[go_sem,A2r,Zaa]
 refine A5 (Aaz _ _ x.act (kAct.pre a1 (pre1 _ _)) (n) w0 (by omega) (by omega)) ?_
 simp +contextual (disch:=omega) only[go_sem,Zaa]
 have g0:= @Co (n) (L7 x.act) (by omega)
 refine⟨fun hn=> ?_,fun hn=> ?_⟩
 ·have hn:=of_decide_eq_true hn
  have hn:=Bi.1 hn
  unfold B9 lf;rw[if_pos (by omega)]
 have hn:=of_decide_eq_false hn
 have f0:=Ar hn
 try simp(disch:=omega) only[Ag]
 refine A5 (A56 _ _ x.delta (Dr.pre a2 (pre1 _ _)) (lf (n) (L7 x.act)) w1 (by omega) (by omega)) ?_
 simp +contextual (disch:=omega) only[go_sem,Zaa]
 have g1:= @Co (lf (n) (L7 x.act)) (Cv x.delta) (by omega)
 refine⟨fun hn=> ?_,fun hn=> ?_⟩
 ·have hn:=of_decide_eq_true hn
  have hn:=Bi.1 hn
  unfold B9 lf;rw[if_pos (by omega)]
 have hn:=of_decide_eq_false hn
 have f1:=Ar hn
 try simp(disch:=omega) only[Ag]
 unfold B9;rw[show lf n (L7 x.act+Cv x.delta)=n - ((L7 x.act+Cv x.delta:Nat):Int) by unfold lf;rw[if_neg (by omega)]];try omega
def Xg:Fn1:=⟨27,[.t 4],(rg [oV 4 (ki 0)] (rg [oM 6 1,oM 7 0,oN 8 7,oB 9 .sub 6 8,oM 1 9] (.seq (rg [oM 10 1,oE 11 .lss 10 0] (oG 11 (rg [o 4 (.mov (ki (-1)))] .ret))) (.seq (rg [oV 5 (ki 0)] (oH 0 (.seq (rg [oM 12 5,oM 13 0,oN 14 13,oB 15 .lss 12 14] (oJ 15 0)) (.seq (.blk 1 (rg [oM 18 0,oM 19 5,oI 20 17 18 19,oW 21 17 20,oM 22 1,oD 23 148 21 22,oM 1 23] (rg [oM 24 1,oE 25 .lss 24 0] (oG 25 (rg [o 4 (.mov (ki (-1)))] .ret))))) (.reg [oM 16 5,oZ 17 16 1,oM 5 17]))))) (rg [oM 26 1,oM 4 26] .ret)))))⟩
theorem A7y:A2 Tryz.prog 101=some Xg:=by kernel_rfl
theorem Iu (U:St) (v:GV) (l:List Unit_) (hR:RS Bv U v l) (n:Int) (hw:l.length<=9223372036854775807/\∀ y∈l,Aaf y) (h0:0<=n) (h1:n<=1099511627776):Ret Tryz.prog 101 [v,gi n] U (gi (lf n (l.length+sumL B9 l))) U:=by
 obtain⟨wl,we⟩:=hw
 refine Ac A7y (Z0z rfl) trivial ?_
 simp +contextual (disch:=omega) only[go_sem,Xg,hR.len]
 refine⟨fun hn=> ?_,fun hn=> ?_⟩
 ·have hn:=of_decide_eq_true hn
  unfold lf;rw[if_pos (by omega)]
 have hn:=of_decide_eq_false hn
 refine Ay l.length 5 (fun i env N=>∃ m:Int,env 0=v/\env 1=gi m/\m=n - l.length - sumL B9 (l.take i)/\0<=m/\U <+: N) rfl ⟨n - l.length,rfl,rfl,by simp[sumL],by omega,Zac _⟩ ?_ ?_
 ·rintro i env N hi e5 c0 ⟨m,e0,e1,em,hm,hp⟩
  have h1:=hR.pre hp
  have hs:=Fn (f:=B9) hi
  have hst:=C9 B9 l (i+1)
  obtain⟨cs,hc,hcr⟩:=Ta h1 hi
  simp +contextual (disch:=omega) only[go_sem,c0,e0,e1,e5,hR.len,hc]
  refine A5 (A7x N cs l[i] hcr m (we _ (Zad hi)) hm (by omega)) ?_
  simp +contextual (disch:=omega) only[go_sem,c0,e0,e1,e5,hp]
  have g0:= @Co m (B9 l[i]) hm
  have g1:= @A4h m (B9 l[i])
  refine⟨fun hn=> ?_,fun hn=> ?_⟩
  ·have hn:=Bi.1 (of_decide_eq_true hn)
   unfold lf;rw[if_pos (by omega)]
  ·have hn:=of_decide_eq_false hn
   have f:=Ar hn
   exact⟨_,rfl,by omega,by omega⟩
 ·rintro env N e5 c0 ⟨m,e0,e1,em,hm,hp⟩
  rw[Zaj] at em
  simp +contextual (disch:=omega) only[go_sem,c0,e0,e1,e5,hR.len,hp]
  unfold lf;rw[if_neg (by omega)];omega
def A80:Fn1:=⟨24,[.t 4],(rg [oX 2 0,oV 4 (ki 0)] (rg [oF 5 2 2,oW 6 4 5,oM 7 1,oD 8 146 6 7,oM 1 8] (.seq (rg [oM 9 1,oE 10 .lss 9 0] (oG 10 (rg [o 4 (.mov (ki (-1)))] .ret))) (rg [oF 11 6 2,oL 12 11,oM 13 1,oD 14 101 12 13,oM 1 14] (.seq (rg [oM 15 1,oE 16 .lss 15 0] (oG 16 (rg [o 4 (.mov (ki (-1)))] .ret))) (rg [oF 17 7 2,oL 18 17,oM 19 1,oD 20 101 18 19,oM 1 20] (.seq (rg [oM 21 1,oE 22 .lss 21 0] (oG 22 (rg [o 4 (.mov (ki (-1)))] .ret))) (rg [oM 23 1,oM 4 23] .ret))))))))⟩
theorem Ae9:A2 Tryz.prog 98=some A80:=by kernel_rfl
theorem Ab2 (U:St) (cs:List GV) (x:Log) (hR:kLog.R U x cs) (n:Int) (hw:wLog x) (h0:0<=n) (h1:n<=1099511627776):Ret Tryz.prog 98 [.agg cs,gi n] U (gi (lf n (G8 x))) U:=by
 obtain⟨v2,v3,v4,rfl,q2,q3,q4⟩:=hR
 have q20:=q2
 obtain⟨s0,s1,s2,s3,rfl,_⟩:=q2
 obtain⟨w0,w1,w2⟩:=hw
 refine Ac Ae9 (Z0z rfl) trivial ?_
 simp +contextual (disch:=omega) only[go_sem,A80,Zaa]
 refine A5 (O7 _ [s0,s1,s2,s3] x.state (Ab.pre q20 (pre1 _ _)) (n) w0 (by omega) (by omega)) ?_
 simp +contextual (disch:=omega) only[go_sem,Zaa]
 have g0:= @Co (n) (A7 x.state) (by omega)
 refine⟨fun hn=> ?_,fun hn=> ?_⟩
 ·have hn:=of_decide_eq_true hn
  have hn:=Bi.1 hn
  unfold G8 lf;rw[if_pos (by omega)]
 have hn:=of_decide_eq_false hn
 have f0:=Ar hn
 try simp(disch:=omega) only[Ag]
 refine A5 (Iu _ v3 x.units (q3.pre (pre1 _ _)) (lf (n) (A7 x.state)) w1 (by omega) (by omega)) ?_
 simp +contextual (disch:=omega) only[go_sem,Zaa]
 have g1:= @Co (lf (n) (A7 x.state)) ((x.units.length+sumL B9 x.units)) (by omega)
 refine⟨fun hn=> ?_,fun hn=> ?_⟩
 ·have hn:=of_decide_eq_true hn
  have hn:=Bi.1 hn
  unfold G8 lf;rw[if_pos (by omega)]
 have hn:=of_decide_eq_false hn
 have f1:=Ar hn
 try simp(disch:=omega) only[Ag]
 refine A5 (Iu _ v4 x.waits (q4.pre (pre1 _ _)) (lf (lf (n) (A7 x.state)) ((x.units.length+sumL B9 x.units))) w2 (by omega) (by omega)) ?_
 simp +contextual (disch:=omega) only[go_sem,Zaa]
 have g2:= @Co (lf (lf (n) (A7 x.state)) ((x.units.length+sumL B9 x.units))) ((x.waits.length+sumL B9 x.waits)) (by omega)
 refine⟨fun hn=> ?_,fun hn=> ?_⟩
 ·have hn:=of_decide_eq_true hn
  have hn:=Bi.1 hn
  unfold G8 lf;rw[if_pos (by omega)]
 have hn:=of_decide_eq_false hn
 have f2:=Ar hn
 try simp(disch:=omega) only[Ag]
 unfold G8;rw[show lf n (A7 x.state+(x.units.length+sumL B9 x.units)+(x.waits.length+sumL B9 x.waits))=n - ((A7 x.state+(x.units.length+sumL B9 x.units)+(x.waits.length+sumL B9 x.waits):Nat):Int) by unfold lf;rw[if_neg (by omega)]];try omega
def Ob:Fn1:=⟨30,[.t 4],(rg [oX 2 0,oV 4 (ki 0)] (rg [oF 5 1 2,oW 6 8 5,oM 7 1,oD 8 98 6 7,oM 1 8] (.seq (rg [oM 9 1,oE 10 .lss 9 0] (oG 10 (rg [o 4 (.mov (ki (-1)))] .ret))) (rg [oF 11 9 2,oW 12 2 11,oM 13 1,oD 14 99 12 13,oM 1 14] (.seq (rg [oM 15 1,oE 16 .lss 15 0] (oG 16 (rg [o 4 (.mov (ki (-1)))] .ret))) (rg [oF 17 11 2,oW 18 2 17,oM 19 1,oD 20 100 18 19,oM 1 20] (.seq (rg [oM 21 1,oE 22 .lss 21 0] (oG 22 (rg [o 4 (.mov (ki (-1)))] .ret))) (rg [oF 23 13 2,oL 24 23,oM 25 1,oD 26 101 24 25,oM 1 26] (.seq (rg [oM 27 1,oE 28 .lss 27 0] (oG 28 (rg [o 4 (.mov (ki (-1)))] .ret))) (rg [oM 29 1,oM 4 29] .ret))))))))))⟩
theorem A11:A2 Tryz.prog 58=some Ob:=by kernel_rfl
theorem Xh (U:St) (cs:List GV) (x:Replica) (hR:Ap.R U x cs) (n:Int) (hw:Mm x) (h0:0<=n) (h1:n<=1099511627776):Ret Tryz.prog 58 [.agg cs,gi n] U (gi (lf n (A8 x))) U:=by
 obtain⟨v1,v2,v4,rfl,q1,q2,q4⟩:=hR
 have q10:=q1
 have q20:=q2
 obtain⟨w2,w3_,w4,rfl,hD,_⟩:=q1
 obtain⟨d0,d1,d2,d3,rfl,_⟩:=hD
 obtain⟨g0,rfl,_⟩:=q2
 obtain⟨w0,w1,w2,w3⟩:=hw
 refine Ac A11 (Z0z rfl) trivial ?_
 simp +contextual (disch:=omega) only[go_sem,Ob,Zaa]
 refine A5 (Ab2 _ _ x.log (kLog.pre q10 (pre1 _ _)) (n) w0 (by omega) (by omega)) ?_
 simp +contextual (disch:=omega) only[go_sem,Zaa]
 have g0:= @Co (n) (G8 x.log) (by omega)
 refine⟨fun hn=> ?_,fun hn=> ?_⟩
 ·have hn:=of_decide_eq_true hn
  have hn:=Bi.1 hn
  unfold A8 lf;rw[if_pos (by omega)]
 have hn:=of_decide_eq_false hn
 have f0:=Ar hn
 try simp(disch:=omega) only[Ag]
 refine A5 (A55 _ _ x.graph (E8.pre q20 (pre1 _ _)) (lf (n) (G8 x.log)) w1 (by omega) (by omega)) ?_
 simp +contextual (disch:=omega) only[go_sem,Zaa]
 have g1:= @Co (lf (n) (G8 x.log)) (Cc x.graph) (by omega)
 refine⟨fun hn=> ?_,fun hn=> ?_⟩
 ·have hn:=of_decide_eq_true hn
  have hn:=Bi.1 hn
  unfold A8 lf;rw[if_pos (by omega)]
 have hn:=of_decide_eq_false hn
 have f1:=Ar hn
 try simp(disch:=omega) only[Ag]
 refine A5 (A7l _ x.file (lf (lf (n) (G8 x.log)) (Cc x.graph)) w2 (by omega) (by omega)) ?_
 simp +contextual (disch:=omega) only[go_sem,Zaa]
 have g2:= @Co (lf (lf (n) (G8 x.log)) (Cc x.graph)) (Ml x.file) (by omega)
 refine⟨fun hn=> ?_,fun hn=> ?_⟩
 ·have hn:=of_decide_eq_true hn
  have hn:=Bi.1 hn
  unfold A8 lf;rw[if_pos (by omega)]
 have hn:=of_decide_eq_false hn
 have f2:=Ar hn
 try simp(disch:=omega) only[Ag]
 refine A5 (Iu _ v4 x.out (q4.pre (pre1 _ _)) (lf (lf (lf (n) (G8 x.log)) (Cc x.graph)) (Ml x.file)) w3 (by omega) (by omega)) ?_
 simp +contextual (disch:=omega) only[go_sem,Zaa]
 have g3:= @Co (lf (lf (lf (n) (G8 x.log)) (Cc x.graph)) (Ml x.file)) ((x.out.length+sumL B9 x.out)) (by omega)
 refine⟨fun hn=> ?_,fun hn=> ?_⟩
 ·have hn:=of_decide_eq_true hn
  have hn:=Bi.1 hn
  unfold A8 lf;rw[if_pos (by omega)]
 have hn:=of_decide_eq_false hn
 have f3:=Ar hn
 try simp(disch:=omega) only[Ag]
 unfold A8;rw[show lf n (G8 x.log+Cc x.graph+Ml x.file+(x.out.length+sumL B9 x.out))=n - ((G8 x.log+Cc x.graph+Ml x.file+(x.out.length+sumL B9 x.out):Nat):Int) by unfold lf;rw[if_neg (by omega)]];try omega
def Ln:Fn1:=⟨27,[.t 4],(rg [oV 4 (ki 0)] (rg [oM 6 1,oM 7 0,oN 8 7,oB 9 .sub 6 8,oM 1 9] (.seq (rg [oM 10 1,oE 11 .lss 10 0] (oG 11 (rg [o 4 (.mov (ki (-1)))] .ret))) (.seq (rg [oV 5 (ki 0)] (oH 0 (.seq (rg [oM 12 5,oM 13 0,oN 14 13,oB 15 .lss 12 14] (oJ 15 0)) (.seq (.blk 1 (rg [oM 18 0,oM 19 5,oI 20 14 18 19,oW 21 14 20,oM 22 1,oD 23 58 21 22,oM 1 23] (rg [oM 24 1,oE 25 .lss 24 0] (oG 25 (rg [o 4 (.mov (ki (-1)))] .ret))))) (.reg [oM 16 5,oZ 17 16 1,oM 5 17]))))) (rg [oM 26 1,oM 4 26] .ret)))))⟩
theorem Xi:A2 Tryz.prog 20=some Ln:=by kernel_rfl
theorem Sp (U:St) (v:GV) (l:List Replica) (hR:RS Ap U v l) (n:Int) (hw:l.length<=9223372036854775807/\∀ y∈l,Mm y) (h0:0<=n) (h1:n<=1099511627776):Ret Tryz.prog 20 [v,gi n] U (gi (lf n (l.length+sumL A8 l))) U:=by
 obtain⟨wl,we⟩:=hw
 refine Ac Xi (Z0z rfl) trivial ?_
 simp +contextual (disch:=omega) only[go_sem,Ln,hR.len]
 refine⟨fun hn=> ?_,fun hn=> ?_⟩
 ·have hn:=of_decide_eq_true hn
  unfold lf;rw[if_pos (by omega)]
 have hn:=of_decide_eq_false hn
 refine Ay l.length 5 (fun i env N=>∃ m:Int,env 0=v/\env 1=gi m/\m=n - l.length - sumL A8 (l.take i)/\0<=m/\U <+: N) rfl ⟨n - l.length,rfl,rfl,by simp[sumL],by omega,Zac _⟩ ?_ ?_
 ·rintro i env N hi e5 c0 ⟨m,e0,e1,em,hm,hp⟩
  have h1:=hR.pre hp
  have hs:=Fn (f:=A8) hi
  have hst:=C9 A8 l (i+1)
  obtain⟨cs,hc,hcr⟩:=RdN.cellsN h1 hi
  have hc:iadG 14 v (some i)=some (atz 14 v i)/\ldG true 14 N (atz 14 v i)=some (.agg cs):=⟨hc.1,hc.2.2.2.1⟩
  simp +contextual (disch:=omega) only[go_sem,c0,e0,e1,e5,hR.len,hc]
  refine A5 (Xh N cs l[i] hcr m (we _ (Zad hi)) hm (by omega)) ?_
  simp +contextual (disch:=omega) only[go_sem,c0,e0,e1,e5,hp]
  have g0:= @Co m (A8 l[i]) hm
  have g1:= @A4h m (A8 l[i])
  refine⟨fun hn=> ?_,fun hn=> ?_⟩
  ·have hn:=Bi.1 (of_decide_eq_true hn)
   unfold lf;rw[if_pos (by omega)]
  ·have hn:=of_decide_eq_false hn
   have f:=Ar hn
   exact⟨_,rfl,by omega,by omega⟩
 ·rintro env N e5 c0 ⟨m,e0,e1,em,hm,hp⟩
  rw[Zaj] at em
  simp +contextual (disch:=omega) only[go_sem,c0,e0,e1,e5,hR.len,hp]
  unfold lf;rw[if_neg (by omega)];omega
def Xk:Fn1:=⟨30,[.t 4],(rg [oX 2 0,oV 4 (ki 0)] (rg [oF 5 0 2,oL 6 5,oM 7 1,oD 8 20 6 7,oM 1 8] (.seq (rg [oM 9 1,oE 10 .lss 9 0] (oG 10 (rg [o 4 (.mov (ki (-1)))] .ret))) (rg [oF 11 1 2,oL 12 11,oM 13 1,oD 14 21 12 13,oM 1 14] (.seq (rg [oM 15 1,oE 16 .lss 15 0] (oG 16 (rg [o 4 (.mov (ki (-1)))] .ret))) (rg [oF 17 2 2,oL 18 17,oM 19 1,oD 20 22 18 19,oM 1 20] (.seq (rg [oM 21 1,oE 22 .lss 21 0] (oG 22 (rg [o 4 (.mov (ki (-1)))] .ret))) (rg [oF 23 3 2,oL 24 23,oM 25 1,oD 26 23 24 25,oM 1 26] (.seq (rg [oM 27 1,oE 28 .lss 27 0] (oG 28 (rg [o 4 (.mov (ki (-1)))] .ret))) (rg [oM 29 1,oM 4 29] .ret))))))))))⟩
theorem A81:A2 Tryz.prog 5=some Xk:=by kernel_rfl
theorem A57 (U:St) (cs:List GV) (x:World_) (hR:By.R U x cs) (n:Int) (hw:Aia x) (h0:0<=n) (h1:n<=1099511627776):Ret Tryz.prog 5 [.agg cs,gi n] U (gi (lf n (Em x))) U:=by
 obtain⟨v0,v1,v2,v3,rfl,q0,q1,q2,q3⟩:=hR
 obtain⟨w0,w1,w2,w3⟩:=hw
 refine Ac A81 (Z0z rfl) trivial ?_
 simp +contextual (disch:=omega) only[go_sem,Xk,Zaa]
 refine A5 (Sp _ v0 x.replicas (q0.pre (pre1 _ _)) (n) w0 (by omega) (by omega)) ?_
 simp +contextual (disch:=omega) only[go_sem,Zaa]
 have g0:= @Co (n) ((x.replicas.length+sumL A8 x.replicas)) (by omega)
 refine⟨fun hn=> ?_,fun hn=> ?_⟩
 ·have hn:=of_decide_eq_true hn
  have hn:=Bi.1 hn
  unfold Em lf;rw[if_pos (by omega)]
 have hn:=of_decide_eq_false hn
 have f0:=Ar hn
 try simp(disch:=omega) only[Ag]
 refine A5 (X1 _ v1 x.net (q1.pre (pre1 _ _)) (lf (n) ((x.replicas.length+sumL A8 x.replicas))) w1 (by omega) (by omega)) ?_
 simp +contextual (disch:=omega) only[go_sem,Zaa]
 have g1:= @Co (lf (n) ((x.replicas.length+sumL A8 x.replicas))) ((x.net.length+sumL Bm x.net)) (by omega)
 refine⟨fun hn=> ?_,fun hn=> ?_⟩
 ·have hn:=of_decide_eq_true hn
  have hn:=Bi.1 hn
  unfold Em lf;rw[if_pos (by omega)]
 have hn:=of_decide_eq_false hn
 have f1:=Ar hn
 try simp(disch:=omega) only[Ag]
 refine A5 (Cy _ v2 x.codes (q2.pre (pre1 _ _)) (lf (lf (n) ((x.replicas.length+sumL A8 x.replicas))) ((x.net.length+sumL Bm x.net))) w2 (by omega) (by omega)) ?_
 simp +contextual (disch:=omega) only[go_sem,Zaa]
 have g2:= @Co (lf (lf (n) ((x.replicas.length+sumL A8 x.replicas))) ((x.net.length+sumL Bm x.net))) (x.codes.length) (by omega)
 refine⟨fun hn=> ?_,fun hn=> ?_⟩
 ·have hn:=of_decide_eq_true hn
  have hn:=Bi.1 hn
  unfold Em lf;rw[if_pos (by omega)]
 have hn:=of_decide_eq_false hn
 have f2:=Ar hn
 try simp(disch:=omega) only[Ag]
 refine A5 (A50 _ v3 x.synced (q3.pre (pre1 _ _)) (lf (lf (lf (n) ((x.replicas.length+sumL A8 x.replicas))) ((x.net.length+sumL Bm x.net))) (x.codes.length)) w3 (by omega) (by omega)) ?_
 simp +contextual (disch:=omega) only[go_sem,Zaa]
 have g3:= @Co (lf (lf (lf (n) ((x.replicas.length+sumL A8 x.replicas))) ((x.net.length+sumL Bm x.net))) (x.codes.length)) ((x.synced.length+sumL Fo x.synced)) (by omega)
 refine⟨fun hn=> ?_,fun hn=> ?_⟩
 ·have hn:=of_decide_eq_true hn
  have hn:=Bi.1 hn
  unfold Em lf;rw[if_pos (by omega)]
 have hn:=of_decide_eq_false hn
 have f3:=Ar hn
 try simp(disch:=omega) only[Ag]
 unfold Em;rw[show lf n ((x.replicas.length+sumL A8 x.replicas)+(x.net.length+sumL Bm x.net)+x.codes.length+(x.synced.length+sumL Fo x.synced))=n - (((x.replicas.length+sumL A8 x.replicas)+(x.net.length+sumL Bm x.net)+x.codes.length+(x.synced.length+sumL Fo x.synced):Nat):Int) by unfold lf;rw[if_neg (by omega)]];try omega
def Xm:Fn1:=⟨23,[.t 2],(rg [o 2 (.mov (.k .nilS))] (rg [oM 5 0,oN 6 5,o 7 (.mks 1 24 [.nilS] (.t 6) (.t 6)),oM 3 7] (.seq (rg [oV 4 (ki 0)] (oH 0 (.seq (rg [oM 8 4,oM 9 0,oN 10 9,oB 11 .lss 8 10] (oJ 11 0)) (.seq (.blk 1 (.reg [oM 14 3,oM 15 4,oM 16 0,oM 17 4,oI 18 1 16 17,oL 19 18,oC 20 26 19,oI 21 1 14 15,oS 1 21 20])) (.reg [oM 12 4,oZ 13 12 1,oM 4 13]))))) (rg [oM 22 3,oM 2 22] .ret))))⟩
theorem A82:A2 Tryz.prog 27=some Xm:=by kernel_rfl
theorem Ahj {U N:St} {h:List Item} {n:Nat} {k:Kx} {p w:GV} (c:w.cells=[w]) (H:stX U false h N n k p (.agg [w])):stX U false h N n k p w:=by
 have e:(GV.agg [w]).cells=w.cells:=c.symm
 have eg:∀ p,stG n N p w=stG n N p (.agg [w]):=fun p=>by
  cases p<;>simp only[stG,e]
 cases p with
 |ptr b off=>
  show stB U false h N n k b off w (look h b)
  have H:stB U false h N n k b off (.agg [w]) (look h b):=H
  cases hl:look h b with
  |none=>
   rw[hl] at H
   show genX U false N (stG n N (.ptr b off) w) k
   rw[eg];exact H
  |some cs=>
   rw[hl] at H
   simp only[stB,e] at H ⊢
   exact H
 |_=>
  unfold stX at H ⊢
  simp only[eg]
  exact H
theorem A58 (U:St) (v:GV) (l:List (List Int)) (hR:RS (Kd.sl pI.kd) U v l) (hl:l.length<=1073741824/\∀ x∈l,x.length<=1099511627776):∃ r N,Ret Tryz.prog 27 [v] U r N/\Hp U N [ow (Kd.sl pI.kd) r l]:=by
 refine Mt A82 (Z0z rfl) (Hx.refl U) ?_
 simp +contextual (disch:=omega) only[go_sem,Xm,hR.len,A1]
 refine⟨by omega,?_⟩
 intro n f N H
 have H1:=H.mk (Kd.sl pI.kd) (x0:=[]) rfl (fun N=>⟨.nilS,rfl,.inl ⟨rfl,rfl,rfl⟩⟩)
 refine C3 l.length 4 0 (fun i env h=>env 0=v/\env 3= .sl n 0 l.length/\h=[.th (ow (Kd.sl pI.kd) (.sl n 0 l.length) (l.take i++Za4 (l.length - i) []))]) (fun env h=>env 3= .sl n 0 l.length/\h=[.th (ow (Kd.sl pI.kd) (.sl n 0 l.length) l)]) (fun _ _=>False) _ (by simpa using H1) (by simp +contextual (disch:=omega) only[go_sem]) ⟨by simp +contextual (disch:=omega) only[go_sem],by simp +contextual (disch:=omega) only[go_sem],by simp⟩ ?_ ?_ ?_ (fun _ _ _ _ h=>h.elim)
 ·clear H H1
  rintro J Yq Wq hJ hY hW i env h' N hi ei c0 H ⟨e0,e3,rfl⟩
  obtain⟨w,hc,hU⟩:=RdN.cells1 hR hi
  have i3:iadG 1 (.sl n 0 l.length) (some i)=some (atz 1 (.sl n 0 l.length) i):=by simp[iadG,hi,atz]
  have hwi:=hl.2 _ (Zad hi)
  simp +contextual (disch:=omega) only[go_sem,c0,e0,e3,ei,A1,hR.len,hc]
  obtain⟨r,N2,R2,K2⟩:=Cx N w l[i] (hU.pre H.sub) hwi
  have ck:=(K2.sl 0 rfl).cell
  refine by_c H R2 K2 fun H2=> ?_
  simp +contextual (disch:=omega) only[go_sem,i3,A1]
  have H3:Hx U N2 (.th (own (Kd.sl pI.kd) [r] l[i])::.th (ow (Kd.sl pI.kd) (.sl n 0 l.length) (l.take i++Za4 (l.length - i) []))::[]):=H2.hp.conv fun fp hp=>⟨r,rfl,hp⟩
  refine Ahj ck (A4s (d:=Kd.sl pI.kd) H3 0 0 rfl rfl (by decide) (by rw[Za2,Za1,Zbl];omega) fun N3 H3=> ?_)
  simp +contextual (disch:=omega) only[go_sem,ei]
  exact hJ _ _ _ _ H3 ⟨by simp +contextual (disch:=omega) only[go_sem,e0],by simp +contextual (disch:=omega) only[go_sem,e3],by rw[Va hi];rfl⟩
 ·clear H H1
  rintro Yq hY env h' N ei c0 H ⟨e0,e3,rfl⟩
  simp +contextual (disch:=omega) only[go_sem,c0,e0,ei,hR.len]
  exact hY _ _ _ H ⟨e3,by simp⟩
 ·clear H H1
  rintro env h' N H ⟨e3,rfl⟩
  simp +contextual (disch:=omega) only[go_sem,e3]
  exact fun _=>⟨_,rfl,H.hp⟩
def Ru:Fn1:=⟨11,[.c 2 true 2],(rg [oX 1 0,o 2 (.new [z0,s0])] (rg [o 3 (.new [z0,s0])] (rg [oF 4 0 1,oL 5 4,oF 6 0 3,oS 1 6 5] (rg [oF 7 1 1,oL 8 7,oF 9 1 3,oS 1 9 8] (rg [oW 10 2 3,oS 2 2 10] .ret)))))⟩
theorem A59:A2 Tryz.prog 61=some Ru:=by kernel_rfl
theorem A12 (U:St) (x:Letter):Ret Tryz.prog 61 [.agg [.int .i64 x.to,.str x.text]] U (.agg [.int .i64 x.to,.str x.text]) U:=by
 refine Ac A59 (Z0z rfl) (by simp[vLt,cLt,sLt]) ?_
 simp +contextual (disch:=omega) only[go_sem,Ru]
def Od:Fn1:=⟨23,[.t 2],(rg [o 2 (.mov (.k .nilS))] (rg [oM 5 0,oN 6 5,o 7 (.mks 2 24 [z0,s0] (.t 6) (.t 6)),oM 3 7] (.seq (rg [oV 4 (ki 0)] (oH 0 (.seq (rg [oM 8 4,oM 9 0,oN 10 9,oB 11 .lss 8 10] (oJ 11 0)) (.seq (.blk 1 (.reg [oM 14 3,oM 15 4,oM 16 0,oM 17 4,oI 18 2 16 17,oW 19 2 18,oC 20 61 19,oI 21 2 14 15,oS 2 21 20])) (.reg [oM 12 4,oZ 13 12 1,oM 4 13]))))) (rg [oM 22 3,oM 2 22] .ret))))⟩
theorem A13:A2 Tryz.prog 25=some Od:=by kernel_rfl
theorem Xn (U:St) (v:GV) (l:List Letter) (hR:RS Ej.kd U v l) (hl:l.length<=1099511627776):∃ r N,Ret Tryz.prog 25 [v] U r N/\Hp U N [ow Ej.kd r l]:=by
 refine A1s (rs:=fun r=>[ow Ej.kd r l]) A13 (Z0z rfl) ?_
 have hmk:∀ ze,mksG 2 24 ze U (some l.length) (some l.length)=some (.sl U.length 0 l.length,U++[some (.row 2 (reps l.length ze))]):=fun ze=>A1r (by omega)
 simp +contextual (disch:=omega) only[go_sem,Od,hR.len,hmk]
 have H0:=((Hp.refl U).new 2 (reps l.length (Ej.enc ⟨0,⟨#[]⟩⟩))).toRow 0 (p:=Ej) rfl (Za4 l.length ⟨0,⟨#[]⟩⟩) rfl (Ko _ _ _) l.length (by simp)
 refine Ay l.length 4 (fun i env N=>env 0=v/\env 3= .sl U.length 0 l.length/\Hp U N [ow Ej.kd (.sl U.length 0 l.length) (l.take i++Za4 (l.length - i) ⟨0,⟨#[]⟩⟩)]) rfl ⟨rfl,rfl,by rw[List.take_zero,Zb4,Nat.sub_zero];exact H0⟩ ?_ ?_
 ·rintro i env N hi e4 c0 ⟨e0,e3,H⟩
  have h1:=hR.pre H.sub
  have h2:=H.sl 0 rfl
  have hj:=Kp (z:=(⟨0,⟨#[]⟩⟩:Letter)) hi
  simp +contextual (disch:=omega) only[go_sem,e0,e3,e4,c0,hR.len,I2 h1 hi]
  refine A5 (A12 N l[i]) ?_
  obtain⟨N',es,H'⟩:=H.stw 0 rfl hj 2 (.agg [.int .i64 l[i].to,.str l[i].text]) l[i] rfl rfl (by decide)
  rw[I4 hi] at H'
  have es:stG 2 N (atz 2 (.sl U.length 0 l.length) i) (.agg [.int .i64 l[i].to,.str l[i].text])=some (.tup [],N'):=es
  simp +contextual (disch:=omega) only[go_sem,e0,e3,e4,c0,hR.len,I2 h1 hi,I2 h2 hj,es]
  exact H'
 ·rintro env N e4 c0 ⟨e0,e3,H⟩
  rw[Kq] at H
  simp +contextual (disch:=omega) only[go_sem,e0,e3,e4,c0,hR.len]
  exact⟨_,rfl,H⟩
def A2t:Fn1:=⟨11,[.c 2 true 2],(rg [oX 1 0,o 2 (.new [s0,z0])] (rg [o 3 (.new [s0,z0])] (rg [oF 4 0 1,oL 5 4,oF 6 0 3,oS 1 6 5] (rg [oF 7 1 1,oL 8 7,oF 9 1 3,oS 1 9 8] (rg [oW 10 2 3,oS 2 2 10] .ret)))))⟩
theorem Ab3:A2 Tryz.prog 104=some A2t:=by kernel_rfl
theorem A83 (U:St) (x:File):Ret Tryz.prog 104 [.agg [.str x.text,.int .i64 x.synced]] U (.agg [.str x.text,.int .i64 x.synced]) U:=by
 refine Ac Ab3 (Z0z rfl) (by simp[vLt,cLt,sLt]) ?_
 simp +contextual (disch:=omega) only[go_sem,A2t]
def Xp:Fn1:=⟨12,[.c 2 true 2],(rg [oX 1 0,o 2 (.new [.nilS,z0])] (rg [o 3 (.new [.nilS,z0])] (rg [oF 4 0 1,oL 5 4,oC 6 150 5,oF 7 0 3,oS 1 7 6] (rg [oF 8 1 1,oL 9 8,oF 10 1 3,oS 1 10 9] (rg [oW 11 2 3,oS 2 2 11] .ret)))))⟩
theorem A84:A2 Tryz.prog 103=some Xp:=by kernel_rfl
theorem A5a (U:St) (cs:List GV) (x:Graph) (hR:E8.R U x cs) (hl:Cc x<=1073741824):∃ r N,Ret Tryz.prog 103 [.agg cs] U r N/\U <+: N/\∃ ds,r= .agg ds/\Hp U N [own E8 ds x]:=by
 have hlen:=E8.len hR
 have hlen:cs.length=2:=hlen
 obtain⟨v0,rfl,q0⟩:=hR
 unfold Cc at hl
 refine Q2 A84 (Z0z rfl) ?_
 simp +contextual (disch:=omega) only[go_sem,Xp,Zaa]
 have H:=(((Hp.refl U).new 1 (v0::(GV.int .i64 x.head)::[])).new 1 [GV.nilS,(GV.int .i64 0)]).new 1 [GV.nilS,(GV.int .i64 0)]
 obtain⟨r0,N0,R0,K0⟩:=Vb _ v0 x.commits (q0.pre H.sub) (by omega)
 refine Ez R0 K0 ?_
 have e0:=(K0.sl 0 rfl).cell
 have H:=H.add K0
 try simp only[go_sem] at H
 try simp +contextual (disch:=omega) only[go_sem,Zaa,A4 (H.pt 3 rfl),A4 (H.pt 1 rfl)]
 obtain⟨_,es,H,_⟩:=H.st 1 rfl 1 0 (r0) (by rw[e0];rfl) (by decide) (Z0z rfl)
 try simp only[go_sem,Zak,Zal,e0] at H
 try simp +contextual (disch:=omega) only[go_sem,Zaa,es,A4 (H.pt 3 rfl),A4 (H.pt 1 rfl)]
 try simp +contextual (disch:=omega) only[go_sem,Zaa,A4 (H.pt 3 rfl),A4 (H.pt 1 rfl)]
 obtain⟨_,es,H,_⟩:=H.st 1 rfl 1 1 (.int .i64 x.head) (rfl) (by decide) (Z0z rfl)
 try simp only[go_sem,Zak,Zal] at H
 try simp +contextual (disch:=omega) only[go_sem,Zaa,es,A4 (H.pt 3 rfl),A4 (H.pt 1 rfl)]
 obtain⟨_,es,H,_⟩:=H.st 2 rfl 2 0 (.agg (r0::(GV.int .i64 x.head)::[])) (rfl) (by decide) (Z0z rfl)
 try simp only[go_sem,Zak,Zal] at H
 try simp +contextual (disch:=omega) only[go_sem,Zaa,es,A4 (H.pt 2 rfl)]
 have h0:=H.sub
 have H:=H
 try simp only[Zbi,Zbj] at H
 exact⟨_,rfl,h0,_,rfl,H.ownGraph.one⟩
def A85:Fn1:=⟨23,[.c 2 true 8],(rg [oX 1 0,o 2 (.new [z0,z0,.nilS,.nilS,.nilS,.nilS,.nilS,.nilS])] (rg [o 3 (.new [z0,z0,.nilS,.nilS,.nilS,.nilS,.nilS,.nilS])] (rg [oF 4 0 1,oL 5 4,oF 6 0 3,oS 1 6 5] (rg [oF 7 1 1,oL 8 7,oF 9 1 3,oS 1 9 8] (rg [oF 10 2 1,oW 11 4 10,oC 12 149 11,oF 13 2 3,oS 4 13 12] (rg [oF 14 6 1,oL 15 14,oC 16 105 15,oF 17 6 3,oS 1 17 16] (rg [oF 18 7 1,oL 19 18,oC 20 105 19,oF 21 7 3,oS 1 21 20] (rg [oW 22 8 3,oS 8 2 22] .ret))))))))⟩
theorem Aea:A2 Tryz.prog 102=some A85:=by kernel_rfl
theorem Ab4 (U:St) (cs:List GV) (x:Log) (hR:kLog.R U x cs) (hl:G8 x<=1073741824):∃ r N,Ret Tryz.prog 102 [.agg cs] U r N/\U <+: N/\∃ ds,r= .agg ds/\Hp U N [own kLog ds x]:=by
 obtain⟨v2,v3,v4,rfl,hD,q3,q4⟩:=hR
 have hD0:=hD
 obtain⟨d0,d1,d2,d3,rfl,_⟩:=hD
 have hma:A7 x.state<=1099511627776/\x.units.length+sumL B9 x.units<=1073741824/\x.waits.length+sumL B9 x.waits<=1073741824:=by unfold G8 at hl;omega
 have key:∃ r N,Ret Tryz.prog 102 [.agg [.int .i64 x.rep,.int .i64 x.time,d0,d1,d2,d3,v3,v4]] U r N/\∃ ds,r= .agg ds/\Hp U N [own kLog ds x]:=by
  refine Mt Aea (Z0z rfl) (Hx.refl U) ?_
  simp +contextual (disch:=omega) only[go_sem,A85]
  intro n1 f1 N1 _ n2 f2 N2 _ n3 f3 N3 _ N4 _ N5 H5
  obtain⟨_,N7,R7,_,fs,rfl,K7⟩:=Mr N5 _ x.state (Ab.pre hD0 H5.sub) hma.1
  refine by_c H5 R7 K7 fun H7=> ?_
  obtain⟨e0,e1,e2,e3,rfl,_⟩:=K7.rd 0 rfl
  simp +contextual (disch:=omega) only[go_sem]
  intro N8 H8
  obtain⟨u9,N9,R9,K9⟩:=Ir N8 v3 x.units (q3.pre H8.sub) hma.2.1
  refine by_c H8 R9 K9 fun H9=> ?_
  have c9:=(K9.sl 0 rfl).cell
  simp +contextual (disch:=omega) only[go_sem,c9]
  intro N10 H10
  obtain⟨u11,N11,R11,K11⟩:=Ir N10 v4 x.waits (q4.pre H10.sub) hma.2.2
  refine by_c H10 R11 K11 fun H11=> ?_
  have c11:=(K11.sl 0 rfl).cell
  simp +contextual (disch:=omega) only[go_sem,c11]
  intro N12 _ N13 H13
  exact⟨_,rfl,_,rfl,(Hp.ownLog (x:=x) (H13.sel [2,1,0] (by decide))).sel [0] (by decide)⟩
 obtain⟨r,N,R,ds,rfl,h⟩:=key
 exact⟨_,N,R,h.sub,ds,rfl,h⟩
def Oe:Fn1:=⟨24,[.c 2 true 14],(rg [oX 1 0,o 2 (.new [z0,z0,z0,.nilS,.nilS,.nilS,.nilS,.nilS,.nilS,.nilS,z0,s0,z0,.nilS])] (rg [o 3 (.new [z0,z0,z0,.nilS,.nilS,.nilS,.nilS,.nilS,.nilS,.nilS,z0,s0,z0,.nilS])] (rg [oF 4 0 1,oL 5 4,oF 6 0 3,oS 1 6 5] (rg [oF 7 1 1,oW 8 8 7,oC 9 102 8,oF 10 1 3,oS 8 10 9] (rg [oF 11 9 1,oW 12 2 11,oC 13 103 12,oF 14 9 3,oS 2 14 13] (rg [oF 15 11 1,oW 16 2 15,oC 17 104 16,oF 18 11 3,oS 2 18 17] (rg [oF 19 13 1,oL 20 19,oC 21 105 20,oF 22 13 3,oS 1 22 21] (rg [oW 23 14 3,oS 14 2 23] .ret))))))))⟩
theorem A14:A2 Tryz.prog 60=some Oe:=by kernel_rfl
theorem Xr (U:St) (cs:List GV) (x:Replica) (hR:Ap.R U x cs) (hl:A8 x<=1073741824):∃ r N,Ret Tryz.prog 60 [.agg cs] U r N/\U <+: N/\∃ ds,r= .agg ds/\Hp U N [own Ap ds x]:=by
 obtain⟨v1,v2,v4,rfl,hL,hG,q4⟩:=hR
 have hL0:=hL
 obtain⟨w2,w3,w4,rfl,hD,_⟩:=hL
 obtain⟨d0,d1,d2,d3,rfl,_⟩:=hD
 have hG0:=hG
 obtain⟨g0,rfl,_⟩:=hG
 have hma:G8 x.log<=1073741824/\Cc x.graph<=1073741824/\x.out.length+sumL B9 x.out<=1073741824:=by unfold A8 at hl;omega
 have key:∃ r N,Ret Tryz.prog 60 [.agg [.int .i64 x.way,.int .i64 x.log.rep,.int .i64 x.log.time,d0,d1,d2,d3,w3,w4,g0,.int .i64 x.graph.head,.str x.file.text,.int .i64 x.file.synced,v4]] U r N/\∃ ds,r= .agg ds/\Hp U N [own Ap ds x]:=by
  refine Mt A14 (Z0z rfl) (Hx.refl U) ?_
  simp +contextual (disch:=omega) only[go_sem,Oe]
  intro n1 f1 N1 _ n2 f2 N2 _ n3 f3 N3 _ N4 H4
  obtain⟨_,N7,R7,_,fs,rfl,K7⟩:=Ab4 N4 _ x.log (kLog.pre hL0 H4.sub) hma.1
  refine by_c H4 R7 K7 fun H7=> ?_
  obtain⟨a2,a3,a4,rfl,b2,_⟩:=K7.rd 0 rfl
  obtain⟨e0,e1,e2,e3,rfl,_⟩:=b2
  simp +contextual (disch:=omega) only[go_sem]
  intro N8 H8
  obtain⟨_,N9,R9,_,gs,rfl,K9⟩:=A5a N8 _ x.graph (E8.pre hG0 H8.sub) hma.2.1
  refine by_c H8 R9 K9 fun H9=> ?_
  obtain⟨h0,rfl,_⟩:=K9.rd 0 rfl
  simp +contextual (disch:=omega) only[go_sem]
  intro N10 H10
  refine by_r H10 (A83 N10 x.file) ?_
  simp +contextual (disch:=omega) only[go_sem]
  intro N11 H11
  obtain⟨u12,N12,R12,K12⟩:=Ir N11 v4 x.out (q4.pre H11.sub) hma.2.2
  refine by_c H11 R12 K12 fun H12=> ?_
  have c12:=(K12.sl 0 rfl).cell
  simp +contextual (disch:=omega) only[go_sem,c12]
  intro N13 _ N14 H14
  exact⟨_,rfl,_,rfl,(Hp.ownReplica (x:=x) (H14.sel [2,1,0] (by decide))).sel [0] (by decide)⟩
 obtain⟨r,N,R,ds,rfl,h⟩:=key
 exact⟨_,N,R,h.sub,ds,rfl,h⟩
def Lp:Fn1:=⟨23,[.t 2],(rg [o 2 (.mov (.k .nilS))] (rg [oM 5 0,oN 6 5,o 7 (.mks 14 248 [z0,z0,z0,.nilS,.nilS,.nilS,.nilS,.nilS,.nilS,.nilS,z0,s0,z0,.nilS] (.t 6) (.t 6)),oM 3 7] (.seq (rg [oV 4 (ki 0)] (oH 0 (.seq (rg [oM 8 4,oM 9 0,oN 10 9,oB 11 .lss 8 10] (oJ 11 0)) (.seq (.blk 1 (.reg [oM 14 3,oM 15 4,oM 16 0,oM 17 4,oI 18 14 16 17,oW 19 14 18,oC 20 60 19,oI 21 14 14 15,oS 14 21 20])) (.reg [oM 12 4,oZ 13 12 1,oM 4 13]))))) (rg [oM 22 3,oM 2 22] .ret))))⟩
theorem Xs:A2 Tryz.prog 24=some Lp:=by kernel_rfl
def Ad0:Replica:=⟨0,⟨0,0,⟨[],[],[],[]⟩,[],[]⟩,⟨[],0⟩,⟨⟨#[]⟩,0⟩,[]⟩
abbrev zeR:List GV:=[gi 0,gi 0,gi 0,.nilS,.nilS,.nilS,.nilS,.nilS,.nilS,.nilS,gi 0,.str ⟨#[]⟩,gi 0,.nilS]
theorem A86 (N:St):Ap.O N Ad0 zeR []:=⟨[gi 0,gi 0,.nilS,.nilS,.nilS,.nilS,.nilS,.nilS],[.nilS,gi 0],.nilS,[],[],[],rfl,⟨zeS,.nilS,.nilS,[],[],[],rfl,A26 N,.inl ⟨rfl,rfl,rfl⟩,.inl ⟨rfl,rfl,rfl⟩,rfl⟩,⟨.nilS,[],rfl,.inl ⟨rfl,rfl,rfl⟩,rfl⟩,.inl ⟨rfl,rfl,rfl⟩,rfl⟩
theorem Lz {U:St} {v:GV} {l:List Replica} (h:RS Ap U v l) {i:Nat} (hi:i<l.length):∃ cs,(iadG 14 v (some i)=some (atz 14 v i)/\ldG true 14 U (atz 14 v i)=some (.agg cs))/\Ap.R U l[i] cs:=by
 obtain⟨cs,⟨h1,_,_,h4,_⟩,h5⟩:=RdN.cellsN h hi
 exact⟨cs,⟨h1,h4⟩,h5⟩
theorem Sq (U:St) (v:GV) (l:List Replica) (hR:RS Ap U v l) (hl:l.length+sumL A8 l<=1073741824):∃ r N,Ret Tryz.prog 24 [v] U r N/\Hp U N [ow Ap r l]:=by
 refine Mt Xs (Z0z rfl) (Hx.refl U) ?_
 simp +contextual (disch:=omega) only[go_sem,Lp,hR.len,A1]
 refine⟨by omega,?_⟩
 intro n f N H
 have H1:=H.mk Ap rfl A86
 refine C3 l.length 4 0 (fun i env h=>env 0=v/\env 3= .sl n 0 l.length/\h=[.th (ow Ap (.sl n 0 l.length) (l.take i++Za4 (l.length - i) Ad0))]) (fun env h=>env 3= .sl n 0 l.length/\h=[.th (ow Ap (.sl n 0 l.length) l)]) (fun _ _=>False) _ (by simpa using H1) (by simp +contextual (disch:=omega) only[go_sem]) ⟨by simp +contextual (disch:=omega) only[go_sem],by simp +contextual (disch:=omega) only[go_sem],by simp⟩ ?_ ?_ ?_ (fun _ _ _ _ h=>h.elim)
 ·clear H H1
  rintro J Yq Wq hJ hY hW i env h' N hi ei c0 H ⟨e0,e3,rfl⟩
  obtain⟨cs,Uq1,hU⟩:=Lz hR hi
  have hmu:A8 l[i]<=sumL A8 l:=B8 (f:=A8) (Zad hi)
  have i3:iadG 14 (.sl n 0 l.length) (some i)=some (atz 14 (.sl n 0 l.length) i):=by simp[iadG,hi,atz]
  simp +contextual (disch:=omega) only[go_sem,c0,e0,e3,ei,A1,hR.len,Uq1]
  obtain⟨_,N2,R2,_,ds,rfl,K2⟩:=Xr N cs l[i] (Ap.pre hU H.sub) (by omega)
  refine by_c H R2 K2 fun H2=> ?_
  simp +contextual (disch:=omega) only[go_sem,i3,A1]
  refine A4s (d:=Ap) H2 0 0 rfl rfl (by decide) (by rw[Za2,Za1,Zbl];omega) fun N3 H3=> ?_
  simp +contextual (disch:=omega) only[go_sem,ei]
  exact hJ _ _ _ _ H3 ⟨by simp +contextual (disch:=omega) only[go_sem,e0],by simp +contextual (disch:=omega) only[go_sem,e3],by rw[Va hi];rfl⟩
 ·clear H H1
  rintro Yq hY env h' N ei c0 H ⟨e0,e3,rfl⟩
  simp +contextual (disch:=omega) only[go_sem,c0,e0,ei,hR.len]
  exact hY _ _ _ H ⟨e3,by simp⟩
 ·clear H H1
  rintro env h' N H ⟨e3,rfl⟩
  simp +contextual (disch:=omega) only[go_sem,e3]
  exact fun _=>⟨_,rfl,H.hp⟩
def Xu:Fn1:=⟨21,[.c 2 true 4],(rg [oX 1 0,o 2 (.new [.nilS,.nilS,.nilS,.nilS])] (rg [o 3 (.new [.nilS,.nilS,.nilS,.nilS])] (rg [oF 4 0 1,oL 5 4,oC 6 24 5,oF 7 0 3,oS 1 7 6] (rg [oF 8 1 1,oL 9 8,oC 10 25 9,oF 11 1 3,oS 1 11 10] (rg [oF 12 2 1,oL 13 12,oC 14 26 13,oF 15 2 3,oS 1 15 14] (rg [oF 16 3 1,oL 17 16,oC 18 27 17,oF 19 3 3,oS 1 19 18] (rg [oW 20 4 3,oS 4 2 20] .ret)))))))⟩
theorem A87:A2 Tryz.prog 7=some Xu:=by kernel_rfl
theorem Iw (U:St) (cs:List GV) (x:World_) (hR:By.R U x cs) (hl:Em x<=1073741824):∃ r N,Ret Tryz.prog 7 [.agg cs] U r N/\U <+: N/\∃ ds,r= .agg ds/\Hp U N [own By ds x]:=by
 have hlen:=By.len hR
 have hlen:cs.length=4:=hlen
 obtain⟨v0,v1,v2,v3,rfl,q0,q1,q2,q3⟩:=hR
 unfold Em at hl
 have hss:∀ y∈x.synced,y.length<=1099511627776:=fun y hy=>by
  have:=B8 (f:=Fo) hy
  have e:Fo y=y.length:=rfl
  omega
 refine Q2 A87 (Z0z rfl) ?_
 simp +contextual (disch:=omega) only[go_sem,Xu,Zaa]
 have H:=(((Hp.refl U).new 1 (v0::v1::v2::v3::[])).new 1 [GV.nilS,GV.nilS,GV.nilS,GV.nilS]).new 1 [GV.nilS,GV.nilS,GV.nilS,GV.nilS]
 obtain⟨r0,N0,R0,K0⟩:=Sq _ v0 x.replicas (q0.pre H.sub) (by omega)
 refine Ez R0 K0 ?_
 have e0:=(K0.sl 0 rfl).cell
 have H:=H.add K0
 try simp only[go_sem] at H
 try simp +contextual (disch:=omega) only[go_sem,Zaa,A4 (H.pt 3 rfl),A4 (H.pt 1 rfl)]
 obtain⟨_,es,H,_⟩:=H.st 1 rfl 1 0 (r0) (by rw[e0];rfl) (by decide) (Z0z rfl)
 try simp only[go_sem,Zak,Zal,e0] at H
 try simp +contextual (disch:=omega) only[go_sem,Zaa,es,A4 (H.pt 3 rfl),A4 (H.pt 1 rfl)]
 obtain⟨r1,N1,R1,K1⟩:=Xn _ v1 x.net (q1.pre H.sub) (by omega)
 refine Ez R1 K1 ?_
 have e1:=(K1.sl 0 rfl).cell
 have H:=H.add K1
 try simp only[go_sem] at H
 try simp +contextual (disch:=omega) only[go_sem,Zaa,A4 (H.pt 4 rfl),A4 (H.pt 2 rfl)]
 obtain⟨_,es,H,_⟩:=H.st 2 rfl 1 1 (r1) (by rw[e1];rfl) (by decide) (Z0z rfl)
 try simp only[go_sem,Zak,Zal,e1] at H
 try simp +contextual (disch:=omega) only[go_sem,Zaa,es,A4 (H.pt 4 rfl),A4 (H.pt 2 rfl)]
 obtain⟨r2,N2,R2,K2⟩:=Cx _ v2 x.codes (q2.pre H.sub) (by omega)
 refine Ez R2 K2 ?_
 have e2:=(K2.sl 0 rfl).cell
 have H:=H.add K2
 try simp only[go_sem] at H
 try simp +contextual (disch:=omega) only[go_sem,Zaa,A4 (H.pt 5 rfl),A4 (H.pt 3 rfl)]
 obtain⟨_,es,H,_⟩:=H.st 3 rfl 1 2 (r2) (by rw[e2];rfl) (by decide) (Z0z rfl)
 try simp only[go_sem,Zak,Zal,e2] at H
 try simp +contextual (disch:=omega) only[go_sem,Zaa,es,A4 (H.pt 5 rfl),A4 (H.pt 3 rfl)]
 obtain⟨r3,N3,R3,K3⟩:=A58 _ v3 x.synced (q3.pre H.sub) ⟨by omega,hss⟩
 refine Ez R3 K3 ?_
 have e3:=(K3.sl 0 rfl).cell
 have H:=H.add K3
 try simp only[go_sem] at H
 try simp +contextual (disch:=omega) only[go_sem,Zaa,A4 (H.pt 6 rfl),A4 (H.pt 4 rfl)]
 obtain⟨_,es,H,_⟩:=H.st 4 rfl 1 3 (r3) (by rw[e3];rfl) (by decide) (Z0z rfl)
 try simp only[go_sem,Zak,Zal,e3] at H
 try simp +contextual (disch:=omega) only[go_sem,Zaa,es,A4 (H.pt 6 rfl),A4 (H.pt 4 rfl)]
 obtain⟨_,es,H,_⟩:=H.st 5 rfl 4 0 (.agg (r0::r1::r2::r3::[])) (rfl) (by decide) (Z0z rfl)
 try simp only[go_sem,Zak,Zal] at H
 try simp +contextual (disch:=omega) only[go_sem,Zaa,es,A4 (H.pt 5 rfl)]
 have h0:=H.sub
 have H:=(((H.pick 1 rfl).pick 2 rfl).pick 3 rfl)
 try simp only[Zbi,Zbj] at H
 exact⟨_,rfl,h0,_,rfl,H.ownWorld_.one⟩
section
open Go Go.RowKit Go.Shelf
def Xv:Go.Shelf.Ren:=⟨fun|156=>67|165=>115|166=>116|169=>117|240=>159|241=>160|276=>242|277=>243|n=>n,fun|31=>74|9=>9|3=>3|4=>4|0=>0|20=>20|72=>167|76=>171|70=>165|37=>37|75=>170|127=>236|164=>318|5=>5|80=>173|n=>n,fun|n=>n⟩
theorem Ab5:Go.Proofs.Lays.n156 Tryz.prog Xv:={
 mixed:=by kernel_rfl
 f156:=Tryz.func67.trans (congrArg some (by kernel_rfl))
 f165:=Tryz.func115.trans (congrArg some (by kernel_rfl))
 f166:=Tryz.func116.trans (congrArg some (by kernel_rfl))
 f169:=Tryz.func117.trans (congrArg some (by kernel_rfl))
 f240:=Tryz.func159.trans (congrArg some (by kernel_rfl))
 f241:=Tryz.func160.trans (congrArg some (by kernel_rfl))
 f276:=Tryz.func242.trans (congrArg some (by kernel_rfl))
 f277:=Tryz.func243.trans (congrArg some (by kernel_rfl))
 t0:=Tryz.underlying0
 a0:=Tryz.isAgg0
 z0:=Tryz.sizeOf0
 v0:=Tryz.zeroValue0
 t3:=Tryz.underlying3
 a3:=Tryz.isAgg3
 z3:=Tryz.sizeOf3
 v3:=Tryz.zeroValue3
 t4:=Tryz.underlying4
 a4:=Tryz.isAgg4
 z4:=Tryz.sizeOf4
 v4:=Tryz.zeroValue4
 t9:=Tryz.underlying9
 a9:=Tryz.isAgg9
 z9:=Tryz.sizeOf9
 v9:=Tryz.zeroValue9
 t20:=Tryz.underlying20
 a20:=Tryz.isAgg20
 z20:=Tryz.sizeOf20
 v20:=Tryz.zeroValue20
 t31:=Tryz.underlying74
 a31:=Tryz.isAgg74
 z31:=Tryz.sizeOf74
 v31:=Tryz.zeroValue74
 t37:=Tryz.underlying37
 a37:=Tryz.isAgg37
 z37:=Tryz.sizeOf37
 v37:=Tryz.zeroValue37
 t70:=Tryz.underlying165
 a70:=Tryz.isAgg165
 z70:=Tryz.sizeOf165
 v70:=Tryz.zeroValue165
 t72:=Tryz.underlying167
 a72:=Tryz.isAgg167
 z72:=Tryz.sizeOf167
 v72:=Tryz.zeroValue167
 t75:=Tryz.underlying170
 a75:=Tryz.isAgg170
 z75:=Tryz.sizeOf170
 v75:=Tryz.zeroValue170
 t76:=Tryz.underlying171
 a76:=Tryz.isAgg171
 z76:=Tryz.sizeOf171
 v76:=Tryz.zeroValue171
 t127:=Tryz.underlying236
 a127:=Tryz.isAgg236
 z127:=Tryz.sizeOf236
 v127:=Tryz.zeroValue236
 t164:=Tryz.underlying318
 a164:=Tryz.isAgg318
 z164:=Tryz.sizeOf318
 v164:=Tryz.zeroValue318}
def A88:Go.Shelf.Ren:=⟨fun|171=>68|243=>118|246=>161|283=>244|284=>245|285=>246|286=>247|129=>186|317=>304|318=>305|319=>306|320=>307|337=>339|338=>340|n=>n,fun|3=>3|9=>9|2=>2|4=>4|171=>321|0=>0|53=>260|37=>37|5=>5|173=>323|212=>392|51=>258|20=>20|213=>393|46=>193|232=>450|233=>451|n=>n,fun|17=>1|18=>2|19=>3|n=>n⟩
theorem laysM171:Go.Proofs.LaysM.n171 Tryz.prog A88:={
 mixed:=by kernel_rfl
 f129:=Tryz.func186.trans (congrArg some (by kernel_rfl))
 f171:=Tryz.func68.trans (congrArg some (by kernel_rfl))
 f243:=Tryz.func118.trans (congrArg some (by kernel_rfl))
 f246:=Tryz.func161.trans (congrArg some (by kernel_rfl))
 f283:=Tryz.func244.trans (congrArg some (by kernel_rfl))
 f284:=Tryz.func245.trans (congrArg some (by kernel_rfl))
 f285:=Tryz.func246.trans (congrArg some (by kernel_rfl))
 f286:=Tryz.func247.trans (congrArg some (by kernel_rfl))
 f317:=Tryz.func304.trans (congrArg some (by kernel_rfl))
 f318:=Tryz.func305.trans (congrArg some (by kernel_rfl))
 f319:=Tryz.func306.trans (congrArg some (by kernel_rfl))
 f320:=Tryz.func307.trans (congrArg some (by kernel_rfl))
 f337:=Tryz.func339.trans (congrArg some (by kernel_rfl))
 f338:=Tryz.func340.trans (congrArg some (by kernel_rfl))
 t0:=Tryz.underlying0
 a0:=Tryz.isAgg0
 z0:=Tryz.sizeOf0
 v0:=Tryz.zeroValue0
 t2:=Tryz.underlying2
 a2:=Tryz.isAgg2
 z2:=Tryz.sizeOf2
 v2:=Tryz.zeroValue2
 t3:=Tryz.underlying3
 a3:=Tryz.isAgg3
 z3:=Tryz.sizeOf3
 v3:=Tryz.zeroValue3
 t4:=Tryz.underlying4
 a4:=Tryz.isAgg4
 z4:=Tryz.sizeOf4
 v4:=Tryz.zeroValue4
 t5:=Tryz.underlying5
 a5:=Tryz.isAgg5
 z5:=Tryz.sizeOf5
 v5:=Tryz.zeroValue5
 t9:=Tryz.underlying9
 a9:=Tryz.isAgg9
 z9:=Tryz.sizeOf9
 v9:=Tryz.zeroValue9
 t20:=Tryz.underlying20
 a20:=Tryz.isAgg20
 z20:=Tryz.sizeOf20
 v20:=Tryz.zeroValue20
 t37:=Tryz.underlying37
 a37:=Tryz.isAgg37
 z37:=Tryz.sizeOf37
 v37:=Tryz.zeroValue37
 t46:=Tryz.underlying193
 a46:=Tryz.isAgg193
 z46:=Tryz.sizeOf193
 v46:=Tryz.zeroValue193
 t51:=Tryz.underlying258
 a51:=Tryz.isAgg258
 z51:=Tryz.sizeOf258
 v51:=Tryz.zeroValue258
 t53:=Tryz.underlying260
 a53:=Tryz.isAgg260
 z53:=Tryz.sizeOf260
 v53:=Tryz.zeroValue260
 t171:=Tryz.underlying321
 a171:=Tryz.isAgg321
 z171:=Tryz.sizeOf321
 v171:=Tryz.zeroValue321
 t173:=Tryz.underlying323
 a173:=Tryz.isAgg323
 z173:=Tryz.sizeOf323
 v173:=Tryz.zeroValue323
 t212:=Tryz.underlying392
 a212:=Tryz.isAgg392
 z212:=Tryz.sizeOf392
 v212:=Tryz.zeroValue392
 t213:=Tryz.underlying393
 a213:=Tryz.isAgg393
 z213:=Tryz.sizeOf393
 t232:=Tryz.underlying450
 a232:=Tryz.isAgg450
 z232:=Tryz.sizeOf450
 v232:=Tryz.zeroValue450
 t233:=Tryz.underlying451
 a233:=Tryz.isAgg451
 z233:=Tryz.sizeOf451
 v233:=Tryz.zeroValue451
 g17:=by kernel_rfl
 g18:=by kernel_rfl
 g19:=by kernel_rfl
 i0:=by kernel_rfl
 i2:=by kernel_rfl
 i3:=by kernel_rfl
 i4:=by kernel_rfl
 i5:=by kernel_rfl
 i9:=by kernel_rfl
 i20:=by kernel_rfl
 i37:=by kernel_rfl
 i46:=by kernel_rfl
 i51:=by kernel_rfl
 i53:=by kernel_rfl
 i171:=by kernel_rfl
 i173:=by kernel_rfl
 i212:=by kernel_rfl
 i232:=by kernel_rfl
 i233:=by kernel_rfl
 m17:=by kernel_rfl
 m18:=by kernel_rfl
 m19:=by kernel_rfl}
theorem Fc:Builder.Extra Tryz.prog Xv:={
 sizeBuilder:=by kernel_rfl
 liesBuilder:=by kernel_rfl
 t5:=Tryz.underlying5
 a5:=Tryz.isAgg5
 z5:=Tryz.sizeOf5
 v5:=Tryz.zeroValue5
 infoByte:=by kernel_rfl
 cellsByte:=by kernel_rfl
 sizeByte:=by kernel_rfl
 neB5:=by decide}
end
section
open Go Go.RowKit Go.Shelf
section
variable {P:Program} {U N:St}
theorem Good.bel {w0 w w':World} {W:Rho} (h:Good w0 W U w) (hb:Below w.heap.size w w'):Good w0 W U w':=h.keep hb.os hb.tape hb.output hb.size hb.block
theorem Frame.bel {w w':World} {W:Rho} (hb:Below w.heap.size w w'):Frame W U w W U w':=⟨fun g B L h h1 h2 _=>⟨g,B,L,h,h1,h2,rfl⟩,hb.size,fun b h _=>hb.block b h⟩
theorem Ret.of_str {f:Nat} {args:List GV} {s:ByteArray} (hc:Me P f=true) (h:∀ w0 W w (us:List Value),Good w0 W U w->All2 (vRel W) args us->Calls P f us.toArray w fun e w'=>e= .returned (.string s)/\Below w.heap.size w w'):Ret P f args U (.str s) U:=
 ⟨hc,Zax _,fun w0 W w us hG ha=>(h w0 W w us hG ha).mono fun e w' ⟨he,hb⟩=>by
  subst he
  exact⟨W,fun _ _=>rfl,rfl,hG.bel hb,Frame.bel hb⟩⟩
theorem below_grown (w:World) (k:Nat) (os:Array Obj):Below w.heap.size w (Go.Sort.grow (w.drewN k) os):=
 ⟨rfl,rfl,rfl,by simp only[Go.Sort.grow,Array.size_append];exact Nat.le_add_right _ _,fun b hb=>by
  show(w.heap++os)[b]? =w.heap[b]?
  rw[Array.getElem?_append_left hb]⟩
end
def itB (n:Int):ByteArray:=⟨(Lib.itoa n).toArray⟩
theorem Ahk (U:St) (n:Int) (h0: -9223372036854775808<=n) (h1:n<=9223372036854775807):Ret Tryz.prog 68 [.int .i64 n] U (.str (itB n)) U:=
 Ret.of_str (by kernel_rfl) fun w0 W w us hG ha=>by
  cases ha with
  |cons h1' h2'=>
   cases h2'
   obtain rfl:=h1'
   exact hG.lay w hG.below n h0 h1
theorem Ajp (l:List ByteArray):pS.cells l=l.map .str:=by
 induction l with
 |nil=>rfl
 |cons x l ih=>show GV.str x::pS.cells l=_;rw[ih];rfl
def joB (l:List ByteArray) (sep:ByteArray):ByteArray:=⟨(Lib.join (l.map (·.data.toList)) sep.data.toList).toArray⟩
theorem Ad1 (U:St) (v:GV) (l:List ByteArray) (fp:List Nat) (hO:OS pS.kd U l v fp) (sep:ByteArray) (hN:l.length<=140737488355328) (hlen:(Lib.join (l.map (·.data.toList)) sep.data.toList).length<=140737488355328):Ret Tryz.prog 67 [v,.str sep] U (.str (joB l sep)) U:=
 Ret.of_str (by kernel_rfl) fun w0 W w us hG ha=>by
  cases ha with
  |cons h1 h2=>
  cases h2 with
  |cons h2 h3=>
  cases h3
  obtain rfl:=h2
  rcases OS.flat.1 hO with⟨rfl,rfl,_⟩|⟨g,pre,post,rfl,hB,_⟩
  ·obtain rfl:=h1
   exact(Any.strings_Join_none Ab5 Fc none 0 sep w).mono fun e w' ⟨he,hw⟩=>⟨by rw[he];rfl,hw ▸ Below.refl _ _⟩
  ·obtain⟨L,hL,a,cap,rfl,hcap,hc⟩:=h1
   by_cases hl:l.length=0
   ·have:l=[]:=List.eq_nil_of_length_eq_zero hl
    subst this
    exact(Any.strings_Join_none Ab5 Fc (some a) cap sep w).mono fun e w' ⟨he,hw⟩=>⟨by rw[he];rfl,hw ▸ Below.refl _ _⟩
   ·rcases hc with hc|⟨rfl,_⟩
    ·omega
    have hB':=Bt.1 hB
    have hm:=hG.mem g _ L hB' hL
    have hlo:=hG.loc g L hL hm.1
    rw[Lv hlo.1]
    refine(Any.strings_Join Ab5 Fc L.a.block (L.a.off+pre.length) cap l sep w ?_ hlo.2.2.1 hN hcap hlen).mono fun e w' h=>h
    intro j x hx
    have hj:(pre++pS.cells l++post)[pre.length+j]? =some (.str x):=by
     have hjl:j<l.length:=(Za0.1 hx).1
     have hcl:(pS.cells l).length=l.length:=by rw[Pl.cells_length];exact Nat.mul_one _
     rw[Zbu,List.getElem?_append_right (by omega),Nat.add_sub_cancel_left,List.getElem?_append_left (by omega)]
     rw[Ajp,List.getElem?_map,hx];rfl
    obtain⟨u,hu,hr⟩:=hG.cell hB' rfl hL hj
    obtain rfl:=hr
    rw[Lv hlo.1] at hu
    rw[Nat.add_assoc]
    exact hu
end
def A8a:Fn1:=⟨15,[.t 6],(rg [oV 6 kf] (rg [oM 7 0,oM 8 1,oB 9 .geq 7 8,oM 10 9,jM 11 10 0,jM 12 10 2,jB 13 10 .leq 11 12,oQ 14 10 13,oM 6 14] .ret))⟩
theorem Aeb:A2 Tryz.prog 141=some A8a:=by kernel_rfl
def A2v:Fn1:=⟨15,[.t 6],(rg [oV 6 kf] (rg [oM 7 0,oM 8 1,oB 9 .geq 7 8,oM 10 9,jM 11 10 0,jM 12 10 2,jB 13 10 .leq 11 12,oQ 14 10 13,oM 6 14] .ret))⟩
theorem Ab6:A2 Tryz.prog 124=some A2v:=by kernel_rfl
def A2x:Fn1:=⟨23,[.t 2],(rg [oV 2 kf] (.seq (rg [oV 3 (ki 0)] (oH 0 (.seq (rg [oM 4 3,oM 5 0,o 6 (.len true (.t 5)),oB 7 .lss 4 6] (oJ 7 0)) (.seq (.blk 1 (rg [oM 10 0,oM 11 3,o 12 (.idx (.t 10) (.t 11)),o 13 (.bin .lss (.t 12) (.k (.int .u8 97))),oM 14 13,vM 15 14 0,vM 16 14 3,og 17 14 false (.idx (.t 15) (.t 16)),og 18 14 false (.bin .gtr (.t 17) (.k (.int .u8 122))),oP 19 14 18] (oG 19 (oR 2 kf)))) (.reg [oM 8 3,oZ 9 8 1,oM 3 9]))))) (rg [oM 20 0,o 21 (.len true (.t 20)),o 22 (.call 141 [(.t 21),(ki 1),(ki 8)]),oM 2 22] .ret)))⟩
theorem Ab7:A2 Tryz.prog 142=some A2x:=by kernel_rfl
def A2z:Fn1:=⟨19,[.t 2],(rg [oV 2 kf] (.seq (rg [oV 3 (ki 0)] (oH 0 (.seq (rg [oM 4 3,oM 5 0,o 6 (.len true (.t 5)),oB 7 .lss 4 6] (oJ 7 0)) (.seq (.blk 1 (rg [oM 10 0,oM 11 3,o 12 (.idx (.t 10) (.t 11)),o 13 (.cvi .i64 (.t 12)),o 14 (.call 124 [(.t 13),(ki 97),(ki 122)]),oU 15 14] (oG 15 (oR 2 kf)))) (.reg [oM 8 3,oZ 9 8 1,oM 3 9]))))) (rg [oM 16 0,o 17 (.len true (.t 16)),o 18 (.call 124 [(.t 17),(ki 1),(ki 8)]),oM 2 18] .ret)))⟩
theorem Ab8:A2 Tryz.prog 125=some A2z:=by kernel_rfl
def A31:Fn1:=⟨19,[.t 2],(rg [oV 2 kf] (.seq (rg [oV 3 (ki 0)] (oH 0 (.seq (rg [oM 4 3,oM 5 0,oN 6 5,oB 7 .lss 4 6] (oJ 7 0)) (.seq (.blk 1 (rg [oM 10 0,oM 11 3,oI 12 1 10 11,oL 13 12,o 14 (.call 141 [(.t 13),(ki 0),(ki 1000)]),oU 15 14] (oG 15 (oR 2 kf)))) (.reg [oM 8 3,oZ 9 8 1,oM 3 9]))))) (rg [oM 16 0,oN 17 16,oE 18 .eql 17 3,oM 2 18] .ret)))⟩
theorem Ab9:A2 Tryz.prog 87=some A31:=by kernel_rfl
def A33:Fn1:=⟨18,[.t 2],(rg [oV 2 kf] (.seq (rg [oM 5 0,oN 6 5,oV 7 (ki 0)] (oH 0 (rg [oB 8 .lss 7 6] (.seq (oJ 8 0) (.seq (.blk 1 (rg [oI 9 1 5 7,oL 10 9,oM 4 10] (rg [oM 11 4,o 12 (.call 124 [(.t 11),(ki 0),(ki 1000)]),oU 13 12] (oG 13 (oR 2 kf))))) (.reg [oZ 14 7 1,oM 7 14])))))) (rg [oM 15 0,oN 16 15,oE 17 .eql 16 3,oM 2 17] .ret)))⟩
theorem Aba:A2 Tryz.prog 71=some A33:=by kernel_rfl
def A8c:Fn1:=⟨11,[.t 2],(rg [oX 1 0,oV 2 kf] (rg [oF 3 0 1,oL 4 3,o 5 (.call 141 [(.t 4),(ki 0),(ki 2)]),oM 6 5,jF 7 6 1 1,jL 8 6 7,og 9 6 true (.call 141 [(.t 8),(ki 1),(ki 1000)]),oQ 10 6 9,oM 2 10] .ret))⟩
theorem Aec:A2 Tryz.prog 143=some A8c:=by kernel_rfl
def A8e:Fn1:=⟨11,[.t 2],(rg [oX 1 0,oV 2 kf] (rg [oF 3 0 1,oL 4 3,o 5 (.call 124 [(.t 4),(ki 0),(ki 2)]),oM 6 5,jF 7 6 1 1,jL 8 6 7,og 9 6 true (.call 124 [(.t 8),(ki 1),(ki 1000)]),oQ 10 6 9,oM 2 10] .ret))⟩
theorem Aed:A2 Tryz.prog 175=some A8e:=by kernel_rfl
def A8g:Fn1:=⟨21,[.t 4],(rg [oX 3 1,oV 4 kf] (dw [oM 5 0,oC 6 87 5,oM 7 6,jW 8 7 2 3,jC 9 7 143 8,oQ 10 7 9,oM 11 10,jF 12 11 1 3,jL 13 11 12,jM 14 11 0,jF 15 11 0 3,jL 16 11 15,jI 17 11 1 14 16,jL 18 11 17] [jB 19 11 .leq 13 18,oQ 20 11 19,oM 4 20] .ret))⟩
theorem Aee:A2 Tryz.prog 91=some A8g:=by kernel_rfl
def A8i:Fn1:=⟨21,[.t 4],(rg [oX 3 1,oV 4 kf] (dw [oM 5 0,oC 6 71 5,oM 7 6,jW 8 7 2 3,jC 9 7 175 8,oQ 10 7 9,oM 11 10,jF 12 11 1 3,jL 13 11 12,jM 14 11 0,jF 15 11 0 3,jL 16 11 15,jI 17 11 1 14 16,jL 18 11 17] [jB 19 11 .leq 13 18,oQ 20 11 19,oM 4 20] .ret))⟩
theorem Aef:A2 Tryz.prog 127=some A8i:=by kernel_rfl
theorem Ah {P:Program} {env:Env} {U:St} {K:Kt} {r:List Op1} {d:Option Nat} {D:Bool} {f:Nat} {args:List GV} {b:Bool} (h:Ret P f args U (.bool b) U) (ht:b=true->Ad D P r K (upo env d (.bool true)) U) (hf:b=false->Ad D P r K (upo env d (.bool false)) U):A4e D f args P r K env d U:=by
 cases b with
 |true=>exact A5 h (ht rfl)
 |false=>exact A5 h (hf rfl)
def inB (n a b:Int):Bool:=decide (a<=n)&&decide (n<=b)
theorem Xw {n a b:Int}:inB n a b=true↔a<=n/\n<=b:=by simp[inB]
theorem Ce (U:St) (n a b:Int):Ret Tryz.prog 141 [gi n,gi a,gi b] U (.bool (inB n a b)) U:=by
 refine Ac Aeb (Z0z rfl) trivial ?_
 simp +contextual (disch:=omega) only[go_sem,A8a,inB]
theorem Bs (U:St) (n a b:Int):Ret Tryz.prog 124 [gi n,gi a,gi b] U (.bool (inB n a b)) U:=by
 refine Ac Ab6 (Z0z rfl) trivial ?_
 simp +contextual (disch:=omega) only[go_sem,A2v,inB]
def bl (s:ByteArray):List UInt8:=s.data.toList
theorem Jn (s:ByteArray):(bl s).length=s.size:=by
 unfold bl;rw[Array.length_toList];rfl
theorem Ag8 {s:ByteArray} {i:Nat} (hi:i<(bl s).length):idxG (.str s) (some i)=some (.int .u8 (((bl s)[i].toNat:Nat):Int)):=by
 have h2:i<s.size:=by rw[<- Jn];exact hi
 have e:s[i]? =some (bl s)[i]:=by
  rw[getElem?_pos s i h2];rfl
 simp only[idxG,e,Zb5];rfl
theorem u8_lt (b:UInt8):b.toNat<256:=b.toNat_lt
def lowB (b:UInt8):Bool:=inB (b.toNat:Int) 97 122
def F7 (s:ByteArray):Bool:=(bl s).all lowB&&inB s.size 1 8
theorem Gw (U:St) (s:ByteArray) (hs:s.size<=1099511627776):Ret Tryz.prog 142 [.str s] U (.bool (F7 s)) U:=by
 refine Ac Ab7 (Z0z rfl) trivial ?_
 simp +contextual (disch:=omega) only[go_sem,A2x]
 refine Ay (bl s).length 3 (fun i env N=>env 0= .str s/\((bl s).take i).all lowB=true/\U <+: N) rfl ⟨rfl,rfl,Zac _⟩ ?_ ?_
 ·rintro i env N hi e3 c0 ⟨e0,ha,hp⟩
  have hl:=Jn s
  rw[hl] at c0
  have hf:=fun h=>Cu (p:=lowB) hi h
  have ht:=Cb hi ha
  simp +contextual (disch:=omega) only[go_sem,c0,e0,e3,Ag8 hi,hp]
  simp only[lowB,inB,F7] at*
  generalize(((bl s)[i].toNat:Nat):Int)=b at*
  grind
 ·rintro env N e3 c0 ⟨e0,ha,hp⟩
  rw[Zaj] at ha
  rw[Jn] at c0 e3
  simp +contextual (disch:=omega) only[go_sem,c0,e0,e3]
  refine A5 (Ce N _ _ _) ?_
  simp +contextual (disch:=omega) only[go_sem,F7,ha,hp]
theorem Gx (U:St) (s:ByteArray) (hs:s.size<=1099511627776):Ret Tryz.prog 125 [.str s] U (.bool (F7 s)) U:=by
 refine Ac Ab8 (Z0z rfl) trivial ?_
 simp +contextual (disch:=omega) only[go_sem,A2z]
 refine Ay (bl s).length 3 (fun i env N=>env 0= .str s/\((bl s).take i).all lowB=true/\U <+: N) rfl ⟨rfl,rfl,Zac _⟩ ?_ ?_
 ·rintro i env N hi e3 c0 ⟨e0,ha,hp⟩
  have hl:=Jn s
  rw[hl] at c0
  have hf:=fun h=>Cu (p:=lowB) hi h
  have ht:=Cb hi ha
  have h8:=u8_lt (bl s)[i]
  simp +contextual (disch:=omega) only[go_sem,c0,e0,e3,Ag8 hi,Ajc]
  refine Ah (Bs N _ _ _) (fun h=> ?_) (fun h=> ?_)
  ·simp +contextual (disch:=omega) only[go_sem,e0,e3,hp]
   exact ht h
  ·simp +contextual (disch:=omega) only[go_sem,e0,e3,hp]
   simp[F7,hf h]
 ·rintro env N e3 c0 ⟨e0,ha,hp⟩
  rw[Zaj] at ha
  rw[Jn] at c0 e3
  simp +contextual (disch:=omega) only[go_sem,c0,e0,e3]
  refine A5 (Bs N _ _ _) ?_
  simp +contextual (disch:=omega) only[go_sem,F7,ha,hp]
def seqB (n:Int):Bool:=inB n 0 1000
def okK (l:List Int):Bool:=l.all seqB&&decide (l.length=3)
theorem Ajq {l:List Int} (h:okK l=true):l.length=3:=by
 simp only[okK,Zab,decide_eq_true_eq] at h
 exact h.2
theorem Rv (U:St) (v:GV) (l:List Int) (h:RS pI.kd U v l) (hl:l.length<=1099511627776):Ret Tryz.prog 87 [v] U (.bool (okK l)) U:=by
 refine Ac Ab9 (Z0z rfl) trivial ?_
 simp +contextual (disch:=omega) only[go_sem,A31]
 refine Ay l.length 3 (fun i env N=>env 0=v/\(l.take i).all seqB=true/\U <+: N) rfl ⟨rfl,rfl,Zac _⟩ ?_ ?_
 ·rintro i env N hi e3 c0 ⟨e0,ha,hp⟩
  have hf:=fun h=>Cu (p:=seqB) hi h
  have ht:=Cb hi ha
  simp +contextual (disch:=omega) only[go_sem,c0,e0,e3,h.len,I3 (h.pre hp) hi]
  refine Ah (Ce N _ _ _) (fun h=> ?_) (fun h=> ?_)
  ·simp +contextual (disch:=omega) only[go_sem,e0,e3,hp]
   exact ht h
  ·simp +contextual (disch:=omega) only[go_sem,e0,e3,hp]
   simp[okK,hf h]
 ·rintro env N e3 c0 ⟨e0,ha,hp⟩
  rw[Zaj] at ha
  simp +contextual (disch:=omega) only[go_sem,c0,e0,e3,h.len,hp,okK,ha]
  exact Afs
theorem Rw (U:St) (v:GV) (l:List Int) (h:RS pI.kd U v l) (hl:l.length<=1099511627776):Ret Tryz.prog 71 [v] U (.bool (okK l)) U:=by
 refine Ac Aba (Z0z rfl) trivial ?_
 simp +contextual (disch:=omega) only[go_sem,A33,h.len]
 refine Ay l.length 7 (fun i env N=>env 0=v/\env 5=v/\env 6=gi l.length/\(l.take i).all seqB=true/\U <+: N) rfl ⟨rfl,rfl,rfl,rfl,Zac _⟩ ?_ ?_
 ·rintro i env N hi e7 c0 ⟨e0,e5,e6,ha,hp⟩
  have hf:=fun h=>Cu (p:=seqB) hi h
  have ht:=Cb hi ha
  simp +contextual (disch:=omega) only[go_sem,c0,e0,e5,e6,e7,h.len,I3 (h.pre hp) hi]
  refine Ah (Bs N _ _ _) (fun h=> ?_) (fun h=> ?_)
  ·simp +contextual (disch:=omega) only[go_sem,e0,e5,e6,e7,hp]
   exact ht h
  ·simp +contextual (disch:=omega) only[go_sem,e0,e5,e6,e7,hp]
   simp[okK,hf h]
 ·rintro env N e7 c0 ⟨e0,e5,e6,ha,hp⟩
  rw[Zaj] at ha
  simp +contextual (disch:=omega) only[go_sem,c0,e0,e5,e6,e7,h.len,hp,okK,ha]
  exact Afs
def Ix (d:Dot):Bool:=inB d.rep 0 2&&inB d.seq 1 1000
theorem A8j {d:Dot}:Ix d=true↔(0<=d.rep/\d.rep<=2)/\1<=d.seq/\d.seq<=1000:=by simp[Ix,Xw]
theorem Iy (U:St) (d:Dot):Ret Tryz.prog 143 [.agg [gi d.rep,gi d.seq]] U (.bool (Ix d)) U:=by
 refine Ac Aec (Z0z rfl) trivial ?_
 simp +contextual (disch:=omega) only[go_sem,A8c]
 refine Ah (Ce _ _ _ _) (fun h=> ?_) (fun h=> ?_)
 ·simp +contextual (disch:=omega) only[go_sem]
  refine A5 (Ce _ _ _ _) ?_
  simp +contextual (disch:=omega) only[go_sem,Ix,h]
 ·simp +contextual (disch:=omega) only[go_sem,Ix,h]
theorem Abb (U:St) (d:Dot):Ret Tryz.prog 175 [.agg [gi d.rep,gi d.seq]] U (.bool (Ix d)) U:=by
 refine Ac Aed (Z0z rfl) trivial ?_
 simp +contextual (disch:=omega) only[go_sem,A8e]
 refine Ah (Bs _ _ _ _) (fun h=> ?_) (fun h=> ?_)
 ·simp +contextual (disch:=omega) only[go_sem]
  refine A5 (Bs _ _ _ _) ?_
  simp +contextual (disch:=omega) only[go_sem,Ix,h]
 ·simp +contextual (disch:=omega) only[go_sem,Ix,h]
def at0 (l:List Int) (r:Int):Int:=l.getD r.toNat 0
def Gm (k:List Int) (d:Dot):Bool:=okK k&&Ix d&&decide (d.seq<=at0 k d.rep)
theorem Ag9 {k:IntKind} {n:Int} (h:0<=n):Bb (some (.int k n))=some n.toNat:=by simp[Bb,h]
theorem Aid {U:St} {v:GV} {l:List Int} {r:Int} (h:RS pI.kd U v l) (hk:okK l=true) (h0:0<=r) (h2:r<=2):(Bb (some (gi r))=some r.toNat/\iadG 1 v (some r.toNat)=some (atz 1 v r.toNat))/\ldG false 1 U (atz 1 v r.toNat)=some (gi (at0 l r)):=by
 have hl:=Ajq hk
 have hi:r.toNat<l.length:=by omega
 have e:=I3 h hi
 refine⟨⟨Ag9 h0,e.1⟩,?_⟩
 rw[e.2,at0,Zbe,Zaw hi];rfl
theorem Xx (U:St) (v:GV) (k:List Int) (d:Dot) (h:RS pI.kd U v k) (hl:k.length<=1099511627776):Ret Tryz.prog 91 [v,.agg [gi d.rep,gi d.seq]] U (.bool (Gm k d)) U:=by
 refine Ac Aee (Z0z rfl) trivial ?_
 simp +contextual (disch:=omega) only[go_sem,A8g]
 have h1:=h.pre (pre1 U (some (Blk.row 1 [gi d.rep,gi d.seq])))
 refine Ah (Rv _ v k h1 hl) (fun hk=> ?_) (fun hk=> ?_)
 ·simp +contextual (disch:=omega) only[go_sem]
  refine Ah (Iy _ d) (fun hd=> ?_) (fun hd=> ?_)
  ·have hd':=A8j.1 hd
   have hr:=Aid h1 hk hd'.1.1 hd'.1.2
   simp +contextual (disch:=omega) only[go_sem,hr,Gm,hk,hd]
  ·simp +contextual (disch:=omega) only[go_sem,Gm,hk,hd]
 ·simp +contextual (disch:=omega) only[go_sem,Gm,hk]
theorem Xy (U:St) (v:GV) (k:List Int) (d:Dot) (h:RS pI.kd U v k) (hl:k.length<=1099511627776):Ret Tryz.prog 127 [v,.agg [gi d.rep,gi d.seq]] U (.bool (Gm k d)) U:=by
 refine Ac Aef (Z0z rfl) trivial ?_
 simp +contextual (disch:=omega) only[go_sem,A8i]
 have h1:=h.pre (pre1 U (some (Blk.row 1 [gi d.rep,gi d.seq])))
 refine Ah (Rw _ v k h1 hl) (fun hk=> ?_) (fun hk=> ?_)
 ·simp +contextual (disch:=omega) only[go_sem]
  refine Ah (Abb _ d) (fun hd=> ?_) (fun hd=> ?_)
  ·have hd':=A8j.1 hd
   have hr:=Aid h1 hk hd'.1.1 hd'.1.2
   simp +contextual (disch:=omega) only[go_sem,hr,Gm,hk,hd]
  ·simp +contextual (disch:=omega) only[go_sem,Gm,hk,hd]
 ·simp +contextual (disch:=omega) only[go_sem,Gm,hk]
theorem u8_at {U:St} {v:GV} {l:List Int} (h:RS pB.kd U v l):((elems U 1 v).bind fun r=>(Fb r.2).map fun bs=>GV.str ⟨bs.toArray⟩)=some (.str (txt l)):=bts_ok h
def catS (l:List ByteArray):ByteArray:=l.foldl (· ++·) ⟨#[]⟩
theorem Xz (l:List ByteArray) (s:ByteArray):catS (l++[s])=catS l++s:=by simp[catS]
theorem A8k {l:List ByteArray} {k:Nat} (h:∀ s∈l,s.size<=k):(catS l).size<=l.length*k:=by
 have key:∀(l:List ByteArray) (a:ByteArray),(∀ s∈l,s.size<=k)->(l.foldl (· ++·) a).size<=a.size+l.length*k:=by
  intro l
  induction l with
  |nil=>intro a _;simp
  |cons s l ih=>
   intro a hs
   have h1:=ih (a++s) fun x hx=>hs x (Zah _ hx)
   have h2:=hs s Zaf
   rw[ByteArray.size_append] at h1
   simp only[Za9,Zay,Nat.add_mul] at*
   omega
 have:=key l ⟨#[]⟩ h
 have e:(⟨#[]⟩:ByteArray).size=0:=rfl
 unfold catS;omega
theorem Og {Y β:Type} {f:Y->β} {l:List Y} {i:Nat} (h:i<l.length):(l.take (i+1)).map f=(l.take i).map f++[f l[i]]:=by rw[Ai h,Zba];rfl
theorem Gy:∀(x y:List UInt8),Op.bytesLess x y=decide (x<y)
 |_,[]=>by simp[Op.bytesLess]
 |[],_::_=>by simp[Op.bytesLess]
 |a::x,b::y=>by
  rw[Op.bytesLess,Gy x y,Zan]
  simp only[Zaq,decide_eq_true_eq,Zab,beq_iff_eq,List.cons_lt_cons_iff]
def txLt (a b:ByteArray):Bool:=Op.bytesLess a.toList b.toList
theorem Aeg {a b:ByteArray} (h:a.toList=b.toList):a=b:=by
 have:=I0 (a:=a) (b:=b)
 rw[h] at this
 simpa using this.symm
theorem Gz (a:ByteArray):txLt a a=false:=by
 rw[txLt,Gy];simp
theorem Ge {a b c:ByteArray} (h1:txLt a b=true) (h2:txLt b c=true):txLt a c=true:=by
 rw[txLt,Gy,decide_eq_true_eq] at*
 exact List.lt_trans h1 h2
theorem A8l {a b:ByteArray} (h1:txLt a b=true):txLt b a=false:=by
 cases h:txLt b a with
 |false=>rfl
 |true=>have:=Ge h1 h;rw[Gz] at this;cases this
theorem Ku {a b:ByteArray} (h1:txLt a b=false) (h2:txLt b a=false):a=b:=by
 rw[txLt,Gy,decide_eq_false_iff_not] at*
 exact Aeg (List.le_antisymm (List.not_lt.1 h2) (List.not_lt.1 h1))
@[go_sem] theorem bin_slss {a b:ByteArray}:binG .lss (.str a) (.str b)=some (.bool (txLt a b)):=(rfl)
@[go_sem] theorem bin_sgtr {a b:ByteArray}:binG .gtr (.str a) (.str b)=some (.bool (txLt b a)):=by
 have:(!(txLt a b||decide (a=b)))=txLt b a:=by
  by_cases h:a=b
  ·subst h;simp[Gz]
  ·cases h1:txLt a b with
   |true=>rw[A8l h1];simp
   |false=>
    cases h2:txLt b a with
    |true=>simp[h]
    |false=>exact absurd (Ku h1 h2) h
 simp only[binG,strG,I0]
 exact congrArg (fun b=>some (GV.bool b)) this
def cmpI (a b:Int):Int:=if a<b then -1 else if b<a then 1 else 0
def cmpS (a b:ByteArray):Int:=if txLt a b then -1 else if txLt b a then 1 else 0
def orI (a b:Int):Int:=if a=0 then b else a
def Z0 (a b:Dot):Int:=orI (cmpI a.rep b.rep) (cmpI a.seq b.seq)
def Tb (a b:Tally):Int:=orI (cmpS a.obj b.obj) (cmpI a.rep b.rep)
def Cp (a b:Dot):Bool:=decide (a.rep<b.rep)||decide (a.rep=b.rep)&&decide (a.seq<b.seq)
def Di (a b:Tally):Bool:=txLt a.obj b.obj||decide (a.obj=b.obj)&&decide (a.rep<b.rep)
theorem A8m {a b:Dot}:decide (Z0 a b<0)=Cp a b:=by
 unfold Z0 Cp orI cmpI
 rw[Zan]
 simp only[decide_eq_true_eq,Zaq,Zab]
 repeat' split
 all_goals omega
theorem Z1 {a b:Dot}:decide (0<=Z0 a b)= !Cp a b:=by
 rw[<- A8m,Zan];simp
theorem Ajr {a b:Int}:cmpI a b=0↔a=b:=by
 unfold cmpI
 rcases Zbv a b with h|h|h
 ·rw[if_pos h];omega
 ·subst h;simp
 ·rw[if_neg (by omega),if_pos h];omega
theorem Ad2 {a b:Int}:cmpI a b<0↔a<b:=by
 unfold cmpI
 rcases Zbv a b with h|h|h
 ·rw[if_pos h];omega
 ·subst h;simp
 ·rw[if_neg (by omega),if_pos h];omega
theorem Ahl {a b:ByteArray}:cmpS a b<0↔txLt a b=true:=by
 unfold cmpS
 cases h1:txLt a b with
 |true=>simp
 |false=>
  cases h2:txLt b a with
  |true=>simp
  |false=>simp
theorem Aga {a b:ByteArray}:cmpS a b=0↔a=b:=by
 unfold cmpS
 cases h1:txLt a b with
 |true=>
  have h3:a≠b:=fun e=>by rw[e,Gz] at h1;cases h1
  simp[h3]
 |false=>
  cases h2:txLt b a with
  |true=>
   have h3:a≠b:=fun e=>by rw[e,Gz] at h2;cases h2
   simp[h3]
  |false=>simp[Ku h1 h2]
theorem Abc {a b:Tally}:decide (Tb a b<0)=Di a b:=by
 unfold Tb Di orI
 rw[Zan]
 simp only[decide_eq_true_eq,Zaq,Zab]
 by_cases h:a.obj=b.obj
 ·rw[if_pos (Aga.2 h),Ad2,h,Gz];simp
 ·rw[if_neg (fun e=>h (Aga.1 e)),Ahl];simp[h]
theorem Abd {a b:Tally}:decide (0<=Tb a b)= !Di a b:=by
 rw[<- Abc,Zan];simp
theorem Jo (a:Dot):Cp a a=false:=by simp[Cp]
theorem Z2 {a b c:Dot} (h1:Cp a b=true) (h2:Cp b c=true):Cp a c=true:=by
 simp only[Cp,Zaq,Zab,decide_eq_true_eq] at *;omega
def allR (n:Nat) (p:Nat->Bool):Bool:=(List.range n).all p
theorem Dc {n:Nat} {p:Nat->Bool}:allR n p=true↔∀ i,i<n->p i=true:=by simp[allR]
theorem Qe {n i:Nat} {p:Nat->Bool} (hi:i<n) (h:p i=false):allR n p=false:=by
 cases e:allR n p with
 |false=>rfl
 |true=>rw[Dc.1 e i hi] at h;cases h
theorem Kv {n:Nat} {p:Nat->Bool} (h:∀ i,i<n->p i=true):allR n p=true:=Dc.2 h
theorem Cz {i:Nat} {p:Nat->Bool} (h:∀ j,j<i->p j=true) (hi:p i=true):∀ j,j<i+1->p j=true:=fun j hj=>by
 rcases Za5 j i with h1|h1
 ·exact h j h1
 ·have:j=i:=by omega
  subst this;exact hi
def onI {Y:Type} (l:List Y) (i:Nat) (p:Y->Bool):Bool:=match l[i]? with
 |some x=>p x
 |none=>true
theorem C4 {Y:Type} {l:List Y} {i:Nat} {p:Y->Bool} (hi:i<l.length):onI l i p=p l[i]:=by
 simp only[onI,Zaw hi]
def upI {Y:Type} (lt:Y->Y->Bool) (l:List Y):Nat->Bool
 |0=>true
 |i+1=>onI l i fun a=>onI l (i+1) fun b=>lt a b
theorem Jp {Y:Type} {lt:Y->Y->Bool} {l:List Y} {i:Nat} (h0:i≠0) (hi:i<l.length) (hj:i - 1<l.length):upI lt l i=lt l[i - 1] l[i]:=by
 cases i with
 |zero=>exact absurd rfl h0
 |succ i=>
  simp only[upI,Zbq]
  rw[C4 (by omega),C4 hi]
theorem A5b {Y:Type} {lt:Y->Y->Bool} (ht:∀ a b c,lt a b=true->lt b c=true->lt a c=true) {l:List Y} (h:∀ i,i<l.length->upI lt l i=true):l.Pairwise fun a b=>lt a b=true:=by
 have key:∀(j i:Nat) (hi:i<l.length) (hj:j<l.length),i<j->lt l[i] l[j]=true:=by
  intro j
  induction j with
  |zero=>intro i hi hj h;omega
  |succ j ih=>
   intro i hi hj hij
   have h1:=h (j+1) hj
   rw[Jp (by omega) hj (by omega)] at h1
   simp only[Zbq] at h1
   rcases Za5 i j with h2|h2
   ·exact ht _ _ _ (ih i hi (by omega) h2) h1
   ·have:i=j:=by omega
    subst this;exact h1
 rw[Zbh]
 exact fun i j hi hj hij=>key j i hi hj hij
def tal1 (t:Tally):Bool:=F7 t.obj&&(inB t.rep 0 2&&inB t.sum 0 999999)
def talP (l:List Tally) (i:Nat):Bool:=onI l i tal1&&upI Di l i
def I7 (l:List Tally):Bool:=allR l.length (talP l)&&decide (l.length<=120)
def liv1 (x:Live):Bool:=F7 x.obj&&(F7 x.key&&(inB x.val 0 999999&&(x.map||decide (x.val=0))))
def Ha (a b:Live):Bool:=Cp a.dot b.dot
def livP (l:List Live) (k:List Int) (i:Nat):Bool:=(onI l i fun x=>Gm k x.dot)&&((onI l i liv1)&&upI Ha l i)
def Lq (l:List Live) (k:List Int):Bool:=allR l.length (livP l k)&&decide (l.length<=120)
def Aeh (l:List Live) (i:Nat):Bool:=(onI l i fun x=>Ix x.dot)&&((onI l i liv1)&&upI Ha l i)
def Aei (l:List Live):Bool:=allR l.length (Aeh l)&&decide (l.length<=120)
def cel1 (x:Cell):Bool:=F7 x.obj&&(inB x.val 0 999999&&inB x.time 1 10000)
def J7 (a b:Cell):Bool:=Cp a.dot b.dot
def celP (l:List Cell) (k:List Int) (i:Nat):Bool:=(onI l i fun x=>Gm k x.dot)&&((onI l i cel1)&&upI J7 l i)
def Jq (l:List Cell) (k:List Int):Bool:=allR l.length (celP l k)&&decide (l.length<=120)
def refD (x:Cell):Bool:=decide (x.ref=⟨0,0⟩)||Ix x.ref
def Aej (l:List Cell) (i:Nat):Bool:=(onI l i fun x=>Ix x.dot)&&((onI l i cel1)&&((onI l i refD)&&upI J7 l i))
def Aek (l:List Cell):Bool:=allR l.length (Aej l)&&decide (l.length<=120)
def F8 (l:List Cell) (d:Dot):Option Nat:=l.findIdx? fun c=>decide (c.dot=d)
def ref1 (l:List Cell) (c:Cell):Bool:=decide (c.ref=⟨0,0⟩)||match F8 l c.ref with
 |none=>false
 |some k=>onI l k fun y=>decide (y.obj=c.obj)&&decide (y.time<c.time)
def A34 (l:List Cell):Bool:=l.all (ref1 l)
def Cf (s:State):Bool:=okK s.know&&(I7 s.tallies&&(Lq s.lives s.know&&(Jq s.cells s.know&&A34 s.cells)))
def livK (k:List Int) (x:Live):Bool:=Gm k x.dot
def celK (l:List Cell) (k:List Int) (x:Cell):Bool:=Gm k x.dot&&ref1 l x
def Dv (s:State):Bool:=okK s.know&&(I7 s.tallies&&(Aei s.lives&&(Aek s.cells&&(s.lives.all (livK s.know)&&s.cells.all (celK s.cells s.know)))))
theorem Oh {k:List Int} {d:Dot} (h:Gm k d=true):Ix d=true:=by
 simp only[Gm,Zab] at h;exact h.1.2
theorem E1 {l:List Cell} {d:Dot} {k:Nat} (h:F8 l d=some k):∃ hk:k<l.length,l[k].dot=d:=by
 obtain⟨hk,h1,_⟩:=Zas.1 h
 exact⟨hk,by simpa using h1⟩
theorem Ajs {Y:Type} {l:List Y} {p:Y->Bool}:l.all p=allR l.length fun i=>onI l i p:=by
 rw[Zan,Dc,Zbz]
 constructor
 ·intro h i hi;rw[C4 hi];exact h _ (Zad hi)
 ·intro h x hx
  obtain⟨i,hi,rfl⟩:=Zar hx
  have:=h i hi
  rwa [C4 hi] at this
theorem Abe (s:State):Dv s=Cf s:=by
 unfold Dv Cf
 cases h1:okK s.know with
 |false=>rfl
 |true=>
  cases h2:I7 s.tallies with
  |false=>rfl
  |true=>
   simp only[Zaz]
   rw[Zan]
   simp only[Zab,Aei,Lq,Aek,Jq,A34,Ajs,Dc,decide_eq_true_eq,Aeh,livP,Aej,celP]
   constructor
   ·rintro⟨⟨hl,hl2⟩,⟨hc,hc2⟩,hlk,hck⟩
    refine⟨⟨fun i hi=>⟨hlk i hi,(hl i hi).2⟩,hl2⟩,⟨fun i hi=> ?_,hc2⟩,fun i hi=> ?_⟩
    ·have:=hck i hi
     have h4:=hc i hi
     rw[C4 hi,celK] at this
     simp only[Zab] at this
     exact⟨by rw[C4 hi];exact this.1,h4.2.1,h4.2.2.2⟩
    ·have:=hck i hi
     rw[C4 hi] at this ⊢
     rw[celK] at this
     simp only[Zab] at this
     exact this.2
   ·rintro⟨⟨hl,hl2⟩,⟨hc,hc2⟩,hr⟩
    refine⟨⟨fun i hi=>⟨?_,(hl i hi).2⟩,hl2⟩,⟨fun i hi=>⟨?_,(hc i hi).2.1,?_,(hc i hi).2.2⟩,hc2⟩,fun i hi=>(hl i hi).1,fun i hi=> ?_⟩
    ·have:=(hl i hi).1
     rw[C4 hi] at this ⊢
     exact Oh this
    ·have:=(hc i hi).1
     rw[C4 hi] at this ⊢
     exact Oh this
    ·have:=hr i hi
     rw[C4 hi] at this ⊢
     unfold ref1 at this
     unfold refD
     simp only[Zaq] at this ⊢
     refine this.imp id fun h=> ?_
     split at h
     ·cases h
     ·rename_i k hk
      obtain⟨hkl,e⟩:=E1 hk
      have:=(hc k hkl).1
      rw[C4 hkl,e] at this
      exact Oh this
    ·have h5:=(hc i hi).1
     have h6:=hr i hi
     rw[C4 hi] at h5 h6 ⊢
     rw[celK,h5,h6];rfl
theorem Abf {l:List Cell} {k:List Int} (h:Jq l k=true):l.Pairwise fun a b=>Cp a.dot b.dot=true:=by
 simp only[Jq,Zab,Dc,celP] at h
 exact A5b (lt:=J7) (fun a b c h1 h2=>Z2 h1 h2) fun i hi=>(h.1 i hi).2.2
theorem Ahm {l:List Live} {k:List Int} (h:Lq l k=true):l.Pairwise fun a b=>Cp a.dot b.dot=true:=by
 simp only[Lq,Zab,Dc,livP] at h
 exact A5b (lt:=Ha) (fun a b c h1 h2=>Z2 h1 h2) fun i hi=>(h.1 i hi).2.2
def plc:Nat->List Cell->List (Dot×Int)
 |_,[]=>[]
 |n,c::l=>(c.dot,(n:Int))::plc (n+1) l
theorem Ad3 (c:Cell):∀(n:Nat) (l:List Cell),plc n (l++[c])=plc n l++[(c.dot,((n+l.length:Nat):Int))]
 |n,[]=>rfl
 |n,x::l=>by
  simp only[Zb0,plc,Ad3 c (n+1) l,Zay]
  rw[show n+1+l.length=n+(l.length+1) by omega]
theorem Z3 (d:Dot):∀(n:Nat) (l:List Cell),L8 (plc n l) d=(F8 l d).map fun k=>((n+k:Nat):Int)
 |n,[]=>rfl
 |n,x::l=>by
  have ih:=Z3 d (n+1) l
  unfold F8 at*
  rw[List.findIdx?_cons]
  by_cases h:x.dot=d
  ·subst h;simp[plc,L8]
  ·have h':d≠x.dot:=fun e=>h e.symm
   have e:L8 (plc n (x::l)) d=L8 (plc (n+1) l) d:=by simp[plc,L8,h']
   rw[e,ih]
   simp only[h,decide_false,Zbf,if_false,Option.map_map]
   congr 1
   funext k
   simp only[Function.comp]
   omega
theorem Ajt {l:List Cell} (h:l.Pairwise fun a b=>Cp a.dot b.dot=true) {i:Nat} (hi:i<l.length):L8 (plc 0 (l.take i)) l[i].dot=none:=by
 rw[Z3]
 have:F8 (l.take i) l[i].dot=none:=by
  unfold F8
  rw[Zau]
  intro c hc
  obtain⟨j,hj,rfl⟩:=Zar hc
  rw[Za1] at hj
  rw[List.getElem_take]
  have:=Zbh.1 h j i (by omega) hi (by omega)
  simp only[decide_eq_false_iff_not]
  intro e
  rw[e,Jo] at this;cases this
 rw[this];rfl
theorem Ahn {l:List Cell} {i:Nat} (hi:i<l.length):plc 0 (l.take (i+1))=plc 0 (l.take i)++[(l[i].dot,(i:Int))]:=by
 rw[Ai hi,Ad3,Za1,show 0+min i l.length=i by omega]
def I8 (l:List Cell) (d:Dot):Int:=match F8 l d with
 |some k=>k
 |none=> -1
theorem Abg {l:List Cell} {d:Dot} {i:Nat} (hi:i<l.length) (h:∀ j (hj:j<i),(l[j]'(by omega)).dot≠d) (he:l[i].dot=d):F8 l d=some i:=by
 unfold F8
 rw[Zas]
 exact⟨hi,by simpa using he,fun j hj=>by simpa using h j hj⟩
theorem Abh {l:List Cell} {d:Dot} (h:∀ j (hj:j<l.length),l[j].dot≠d):F8 l d=none:=by
 unfold F8
 rw[Zau]
 intro c hc
 obtain⟨j,hj,rfl⟩:=Zar hc
 simpa using h j hj
@[go_sem] theorem bit_tup2 {l:List GV}:(GV.tup l).bit=none:=(rfl)
theorem Z4 {P:Program} {D:Bool} {os:List Op1}:∀ {K:Env->St->Prop} {env:Env} {U:St},Ad D P os K env U->Ad D P os (fun env' U'=>K env' U'/\U.length<=U'.length) env U:=by
 induction os with
 |nil=>intro K env U h;exact⟨h,Zax _⟩
 |cons o r ih=>
  intro K env U h
  simp only[Ad] at h ⊢
  split at h
  ·rename_i hw
   rw[if_pos hw]
   obtain⟨v,U',hs,hp,hk⟩:=h
   refine⟨v,U',hs,hp,Bj (ih hk) fun env' U1 hq=>⟨hq.1,?_⟩⟩
   have:=T7 hs
   omega
  ·rename_i hw
   rw[if_neg hw]
   exact ih h
theorem vc_len {P:Program} {d:Cd}:∀ {Q:Ex->Env->St->Prop} {env:Env} {U:St},vc P d Q env U->vc P d (fun e env' U'=>Q e env' U'/\U.length<=U'.length) env U:=by
 induction d with
 |skip=>intro Q env U h;exact⟨h,Zax _⟩
 |reg ops=>intro Q env U h;exact Z4 h
 |drw xs ys=>
  intro Q env U h
  refine Bj (Z4 h) fun env1 U1 h1=>Bj (Z4 h1.1) fun env2 U2 h2=>⟨h2.1,?_⟩
  have:=h1.2
  have:=h2.2
  omega
 |seq a b iha ihb=>
  intro Q env U h
  refine As (d:=a) (iha h) fun e env1 U1 he=> ?_
  cases e with
  |nxt=>exact As (ihb he.1) fun e env2 U2 h2=>⟨h2.1,Zbg he.2 h2.2⟩
  |ext j=>exact he
  |ret=>exact he
 |cnd c a b iha ihb=>
  intro Q env U h
  obtain⟨t,ht,h1,h2⟩:=h
  exact⟨t,ht,fun e=>iha (h1 e),fun e=>ihb (h2 e)⟩
 |blk id a ih=>
  intro Q env U h
  refine As (d:=a) (ih h) fun e env1 U1 he=> ?_
  cases e with
  |nxt=>exact he
  |ext j=>
   obtain⟨h1,h2⟩:=he
   simp only at h1 ⊢
   split at h1
   ·rename_i hj;rw[if_pos hj];exact⟨h1,h2⟩
   ·rename_i hj;rw[if_neg hj];exact⟨h1,h2⟩
  |ret=>exact he
 |lop a ih=>
  intro Q env U h
  obtain⟨I,μ,hI,hs⟩:=h
  refine⟨fun env1 U1=>I env1 U1/\U.length<=U1.length,μ,⟨hI,Zax _⟩,fun env1 U1 hi=>As (ih (hs env1 U1 hi.1)) fun e env2 U2 he=> ?_⟩
  cases e with
  |nxt=>exact⟨⟨he.1.1,Zbg hi.2 he.2⟩,he.1.2⟩
  |ext j=>exact⟨he.1,Zbg hi.2 he.2⟩
  |ret=>exact⟨he.1,Zbg hi.2 he.2⟩
 |ext id=>intro Q env U h;exact⟨h,Zax _⟩
 |ret=>intro Q env U h;exact⟨h,Zax _⟩
theorem Fp {P:Program} {f:Nat} {F:Fn1} {args:List GV} {U:St} {Post:GV->St->Prop} (hF:A2 P f=some F) (hl:args.length<=F.n)
  (h:vc P F.c (fun e env N=>Tl e=true/\∃ r,resG env N F.rs=some r/\Post r N) (env0 args) U):∃ r N,Ret P f args U r N/\Post r N:=
 Au hF hl (As (vc_len h) fun e env N he=>⟨he.1.1,by obtain⟨⟨_,r,h1,h2⟩,h3⟩:=he;exact⟨r,h1,h3,h2⟩⟩)
def Js:Fn1:=⟨6,[.t 2],(rg [oV 2 kf] (rg [oM 3 0,oM 4 0,oB 5 .neq 3 4,oM 2 5] .ret))⟩
theorem Sr:A2 Tryz.prog 255=some Js:=by kernel_rfl
def Hc:Fn1:=⟨6,[.t 2],(rg [oV 2 kf] (rg [oM 3 0,oM 4 0,oB 5 .neq 3 4,oM 2 5] .ret))⟩
theorem M0:A2 Tryz.prog 254=some Hc:=by kernel_rfl
def Ia:Fn1:=⟨20,[.t 4],(rg [oV 4 (ki 0)] (rg [oM 7 0,oC 8 255 7,oM 5 8] (rg [oM 9 1,oC 10 255 9,oM 6 10] (.seq (rg [oM 11 5] (oG 11 (.seq (rg [oM 12 6] (oG 12 (oR 4 (ki 0)))) (rg [o 4 (.mov (ki (-1)))] .ret)))) (.seq (rg [oM 13 6] (oG 13 (oR 4 (ki 1)))) (.seq (rg [oM 14 0,oM 15 1,oB 16 .lss 14 15] (oG 16 (rg [o 4 (.mov (ki (-1)))] .ret))) (.seq (rg [oM 17 0,oM 18 1,oB 19 .gtr 17 18] (oG 19 (oR 4 (ki 1)))) (oR 4 (ki 0)))))))))⟩
theorem Oi:A2 Tryz.prog 174=some Ia:=by kernel_rfl
def G0:Fn1:=⟨20,[.t 4],(rg [oV 4 (ki 0)] (rg [oM 7 0,oC 8 254 7,oM 5 8] (rg [oM 9 1,oC 10 254 9,oM 6 10] (.seq (rg [oM 11 5] (oG 11 (.seq (rg [oM 12 6] (oG 12 (oR 4 (ki 0)))) (rg [o 4 (.mov (ki (-1)))] .ret)))) (.seq (rg [oM 13 6] (oG 13 (oR 4 (ki 1)))) (.seq (rg [oM 14 0,oM 15 1,oB 16 .lss 14 15] (oG 16 (rg [o 4 (.mov (ki (-1)))] .ret))) (.seq (rg [oM 17 0,oM 18 1,oB 19 .gtr 17 18] (oG 19 (oR 4 (ki 1)))) (oR 4 (ki 0)))))))))⟩
theorem Jt:A2 Tryz.prog 173=some G0:=by kernel_rfl
def Ry:Fn1:=⟨18,[.t 2],(rg [oV 2 (ki 0)] (rg [oV 3 (ki 0)] (.seq (rg [oM 6 0,oN 7 6,oV 8 (ki 0)] (oH 0 (rg [oB 9 .lss 8 7] (.seq (oJ 9 0) (.seq (.blk 1 (rg [oI 10 1 6 8,oL 11 10,oM 5 11] (rg [oM 12 5,oM 13 3,oB 14 .neq 12 13] (oG 14 (rg [oM 15 5,oM 2 15] .ret))))) (.reg [oZ 16 8 1,oM 8 16])))))) (rg [oM 17 3,oM 2 17] .ret))))⟩
theorem A5c:A2 Tryz.prog 172=some Ry:=by kernel_rfl
def Jv:Fn1:=⟨17,[.t 4],(rg [oX 2 0,oX 3 1,oV 4 (ki 0)] (dw [oF 5 0 2,oL 6 5,oF 7 0 3,oL 8 7,oD 9 174 6 8,oF 10 1 2,oL 11 10,oF 12 1 3,oL 13 12] [oD 14 174 11 13,o 15 (.lit 1 2 [z0,z0] [(0,1,(.t 9)),(1,1,(.t 14))]),oC 16 172 15,oM 4 16] .ret))⟩
theorem Ss:A2 Tryz.prog 128=some Jv:=by kernel_rfl
def He:Fn1:=⟨17,[.t 4],(rg [oX 2 0,oX 3 1,oV 4 (ki 0)] (dw [oF 5 0 2,oL 6 5,oF 7 0 3,oL 8 7,oD 9 173 6 8,oF 10 1 2,oL 11 10,oF 12 1 3,oL 13 12] [oD 14 174 11 13,o 15 (.lit 1 2 [z0,z0] [(0,1,(.t 9)),(1,1,(.t 14))]),oC 16 172 15,oM 4 16] .ret))⟩
theorem M2:A2 Tryz.prog 126=some He:=by kernel_rfl
def Ok:Fn1:=⟨24,[.t 4],(rg [oX 2 0,oX 3 1,oV 4 kf] (rg [oF 5 0 2,oL 6 5,oF 7 0 3,oL 8 7,oB 9 .lss 6 8,oM 10 9,vF 11 10 0 2,vL 12 10 11,vF 13 10 0 3,vL 14 10 13,vB 15 10 .eql 12 14,vM 16 10 15,jF 17 16 1 2,jL 18 16 17,jF 19 16 1 3,jL 20 16 19,jB 21 16 .lss 18 20,og 22 10 false (.pick (.t 16) (.t 21) kf),oP 23 10 22,oM 4 23] .ret))⟩
theorem A17:A2 Tryz.prog 144=some Ok:=by kernel_rfl
theorem Fd (U:St) (a:Int):Ret Tryz.prog 255 [gi a] U (.bool false) U:=by
 refine Ac Sr (Z0z rfl) trivial ?_
 simp +contextual (disch:=omega) only[go_sem,Js,bne_self_eq_false]
theorem Dj (U:St) (a:ByteArray):Ret Tryz.prog 254 [.str a] U (.bool false) U:=by
 refine Ac M0 (Z0z rfl) trivial ?_
 simp +contextual (disch:=omega) only[go_sem,Hc,decide_true,Bool.not_true]
theorem Cg (U:St) (a b:Int):Ret Tryz.prog 174 [gi a,gi b] U (gi (cmpI a b)) U:=by
 refine Ac Oi (Z0z rfl) trivial ?_
 simp +contextual (disch:=omega) only[go_sem,Ia]
 refine A5 (Fd _ _) ?_
 simp +contextual (disch:=omega) only[go_sem]
 refine A5 (Fd _ _) ?_
 simp +contextual (disch:=omega) only[go_sem]
 unfold cmpI
 grind
theorem Jb (U:St) (a b:ByteArray):Ret Tryz.prog 173 [.str a,.str b] U (gi (cmpS a b)) U:=by
 refine Ac Jt (Z0z rfl) trivial ?_
 simp +contextual (disch:=omega) only[go_sem,G0]
 refine A5 (Dj _ _) ?_
 simp +contextual (disch:=omega) only[go_sem]
 refine A5 (Dj _ _) ?_
 simp +contextual (disch:=omega) only[go_sem]
 unfold cmpS
 grind
def orL:List Int->Int
 |[]=>0
 |x::l=>if x=0 then orL l else x
theorem Hn (U:St) (v:GV) (l:List Int) (h:RS pI.kd U v l) (hl:l.length<=1099511627776):Ret Tryz.prog 172 [v] U (gi (orL l)) U:=by
 refine Ac A5c (Z0z rfl) trivial ?_
 simp +contextual (disch:=omega) only[go_sem,Ry,h.len]
 refine Ay l.length 8 (fun i env N=>env 3=gi 0/\env 6=v/\env 7=gi l.length/\orL (l.drop i)=orL l/\U <+: N) rfl ⟨rfl,rfl,rfl,rfl,Zac _⟩ ?_ ?_
 ·rintro i env N hi e8 c0 ⟨e3,e6,e7,hd,hp⟩
  rw[Zav hi,orL] at hd
  simp +contextual (disch:=omega) only[go_sem,c0,e3,e6,e7,e8,I3 (h.pre hp) hi,hp]
  grind
 ·rintro env N e8 c0 ⟨e3,e6,e7,hd,hp⟩
  rw[List.drop_length] at hd
  simp +contextual (disch:=omega) only[go_sem,c0,e3,e6,e7,e8,hp]
  rw[<- hd];rfl
theorem Abi (a b:Int):orL [a,b]=orI a b:=by
 unfold orI
 simp only[orL]
 split
 ·split
  ·omega
  ·rfl
 ·rfl
theorem Dd (U:St) (a b:Dot):Ret Tryz.prog 128 [.agg [gi a.rep,gi a.seq],.agg [gi b.rep,gi b.seq]] U (gi (Z0 a b)) U:=by
 refine Ac Ss (Z0z rfl) trivial ?_
 simp +contextual (disch:=omega) only[go_sem,Jv]
 refine A5 (Cg _ _ _) ?_
 simp +contextual (disch:=omega) only[go_sem]
 refine A5 (Cg _ _ _) ?_
 simp +contextual (disch:=omega) only[go_sem]
 refine A5 (Hn _ _ [cmpI a.rep b.rep,cmpI a.seq b.seq] (Afv (p:=pI) _ _ rfl rfl rfl) (by simp)) ?_
 simp +contextual (disch:=omega) only[go_sem,Abi]
 rfl
theorem L9 (U:St) (a b:Tally):Ret Tryz.prog 126 [.agg [.str a.obj,gi a.rep,gi a.sum],.agg [.str b.obj,gi b.rep,gi b.sum]] U (gi (Tb a b)) U:=by
 refine Ac M2 (Z0z rfl) trivial ?_
 simp +contextual (disch:=omega) only[go_sem,He]
 refine A5 (Jb _ _ _) ?_
 simp +contextual (disch:=omega) only[go_sem]
 refine A5 (Cg _ _ _) ?_
 simp +contextual (disch:=omega) only[go_sem]
 refine A5 (Hn _ _ [cmpS a.obj b.obj,cmpI a.rep b.rep] (Afv (p:=pI) _ _ rfl rfl rfl) (by simp)) ?_
 simp +contextual (disch:=omega) only[go_sem,Abi]
 rfl
theorem Ep (U:St) (a b:Dot):Ret Tryz.prog 144 [.agg [gi a.rep,gi a.seq],.agg [gi b.rep,gi b.seq]] U (.bool (Cp a b)) U:=by
 refine Ac A17 (Z0z rfl) trivial ?_
 simp +contextual (disch:=omega) only[go_sem,Ok]
 unfold Cp
 grind
def Ls:Fn1:=⟨69,[.t 2],(rg [oV 2 kf] (.seq (rg [oV 3 (ki 0)] (oH 0 (.seq (rg [oM 5 3,oM 6 0,oN 7 6,oB 8 .lss 5 7] (oJ 8 0)) (.seq (.blk 1 (rg [oM 11 0,oM 12 3,oI 13 3 11 12,oW 14 3 13,o 4 (.new [s0,z0,z0]),oS 3 4 14] (.seq (rg [oF 15 0 4,oL 16 15,oC 17 142 16,oU 18 17,oM 19 18,vF 20 19 1 4,vL 21 19 20,og 22 19 false (.call 141 [(.t 21),(ki 0),(ki 2)]),vU 23 19 22,oP 24 19 23,oM 25 24,vF 26 25 2 4,vL 27 25 26,og 28 25 false (.call 141 [(.t 27),(ki 0),(ki 999999)]),vU 29 25 28,oP 30 25 29] (oG 30 (oR 2 kf))) (dw [oM 31 3,oE 32 .gtr 31 0,oM 33 32,jM 34 33 0,jM 35 33 3,jE 36 33 .sub 35 1,jI 37 33 3 34 36,jF 38 33 0 37,jL 39 33 38,jF 40 33 0 4,jL 41 33 40,jB 42 33 .gtr 39 41,jM 43 33 42,vM 44 43 0,vM 45 43 3,vE 46 43 .sub 45 1,vI 47 43 3 44 46,vF 48 43 0 47,vL 49 43 48,vF 50 43 0 4,vL 51 43 50,vB 52 43 .eql 49 51,vM 53 43 52,jM 54 53 0,jM 55 53 3,jE 56 53 .sub 55 1,jI 57 53 3 54 56,jF 58 53 1 57,jL 59 53 58,jF 60 53 1 4,jL 61 53 60] [jB 62 53 .geq 59 61,og 63 43 false (.pick (.t 53) (.t 62) kf),og 64 33 true (.pick (.t 43) kt (.t 63)),oQ 65 33 64] (oG 65 (oR 2 kf)))))) (.reg [oM 9 3,oZ 10 9 1,oM 3 10]))))) (rg [oM 66 0,oN 67 66,oE 68 .leq 67 120,oM 2 68] .ret)))⟩
theorem Z5:A2 Tryz.prog 88=some Ls:=by kernel_rfl
def Om:Fn1:=⟨46,[.t 2],(rg [oV 2 kf] (.seq (rg [oM 5 0,oN 6 5,oV 7 (ki 0)] (oH 0 (rg [oB 8 .lss 7 6] (.seq (oJ 8 0) (.seq (.blk 1 (rg [oM 9 7,oI 10 3 5 7,oW 11 3 10,o 4 (.new [s0,z0,z0]),oM 3 9,oS 3 4 11] (dw [oF 12 0 4,oL 13 12,oC 14 125 13,oU 15 14,oM 16 15,vF 17 16 1 4,vL 18 16 17,og 19 16 false (.call 124 [(.t 18),(ki 0),(ki 2)]),vU 20 16 19,oP 21 16 20,oM 22 21,vF 23 22 2 4,vL 24 22 23,og 25 22 false (.call 124 [(.t 24),(ki 0),(ki 999999)]),vU 26 22 25,oP 27 22 26,oM 28 27,vM 29 28 3,vE 30 28 .gtr 29 0,vM 31 28 30,jM 32 31 0,jM 33 31 3,jE 34 31 .sub 33 1,jI 35 31 3 32 34,jW 36 31 3 35,jW 37 31 3 4] [jD 38 31 126 36 37,jE 39 31 .geq 38 0,og 40 28 false (.pick (.t 31) (.t 39) kf),oP 41 28 40] (oG 41 (oR 2 kf))))) (.reg [oZ 42 7 1,oM 7 42])))))) (rg [oM 43 0,oN 44 43,oE 45 .leq 44 120,oM 2 45] .ret)))⟩
theorem A18:A2 Tryz.prog 72=some Om:=by kernel_rfl
def S1:Fn1:=⟨66,[.t 2],(rg [oV 2 kf] (.seq (rg [oV 3 (ki 0)] (oH 0 (.seq (rg [oM 5 3,oM 6 0,oN 7 6,oB 8 .lss 5 7] (oJ 8 0)) (.seq (.blk 1 (rg [oM 11 0,oM 12 3,oI 13 6 11 12,oW 14 6 13,o 4 (.new [(.bool false),s0,s0,z0,z0,z0]),oS 6 4 14] (dw [oF 15 4 4,oW 16 2 15,oC 17 143 16,oU 18 17,oM 19 18,vF 20 19 1 4,vL 21 19 20,vC 22 19 142 21,vU 23 19 22,oP 24 19 23,oM 25 24,vF 26 25 2 4,vL 27 25 26,vC 28 25 142 27,vU 29 25 28,oP 30 25 29,oM 31 30,vF 32 31 3 4,vL 33 31 32,og 34 31 false (.call 141 [(.t 33),(ki 0),(ki 999999)]),vU 35 31 34,oP 36 31 35,oM 37 36,vF 38 37 0 4,vL 39 37 38,vU 40 37 39,vM 41 37 40,jF 42 41 3 4,jL 43 41 42,jE 44 41 .neq 43 0,og 45 37 false (.pick (.t 41) (.t 44) kf),oP 46 37 45,oM 47 46,vM 48 47 3,vE 49 47 .gtr 48 0,vM 50 47 49,jM 51 50 0,jM 52 50 3,jE 53 50 .sub 52 1,jI 54 50 6 51 53,jF 55 50 4 54,jW 56 50 2 55,jF 57 50 4 4,jW 58 50 2 57] [jD 59 50 144 56 58,jU 60 50 59,og 61 47 false (.pick (.t 50) (.t 60) kf),oP 62 47 61] (oG 62 (oR 2 kf))))) (.reg [oM 9 3,oZ 10 9 1,oM 3 10]))))) (rg [oM 63 0,oN 64 63,oE 65 .leq 64 120,oM 2 65] .ret)))⟩
theorem A5d:A2 Tryz.prog 89=some S1:=by kernel_rfl
def Z7:Fn1:=⟨65,[.t 4],(rg [oV 4 kf] (.seq (rg [oM 7 0,oN 8 7,oV 9 (ki 0)] (oH 0 (rg [oB 10 .lss 9 8] (.seq (oJ 10 0) (.seq (.blk 1 (rg [oM 11 9,oI 12 6 7 9,oW 13 6 12,o 6 (.new [(.bool false),s0,s0,z0,z0,z0]),oM 5 11,oS 6 6 13] (.seq (rg [oM 14 1,oF 15 4 6,oW 16 2 15,oD 17 127 14 16,oU 18 17,oM 19 18,vF 20 19 1 6,vL 21 19 20,vC 22 19 125 21,vU 23 19 22,oP 24 19 23,oM 25 24,vF 26 25 2 6,vL 27 25 26,vC 28 25 125 27,vU 29 25 28,oP 30 25 29,oM 31 30,vF 32 31 3 6,vL 33 31 32,og 34 31 false (.call 124 [(.t 33),(ki 0),(ki 999999)]),vU 35 31 34,oP 36 31 35,oM 37 36,vF 38 37 0 6,vL 39 37 38,vU 40 37 39,vM 41 37 40,jF 42 41 3 6,jL 43 41 42,jE 44 41 .neq 43 0,og 45 37 false (.pick (.t 41) (.t 44) kf),oP 46 37 45] (oG 46 (oR 4 kf))) (dw [oM 47 5,oE 48 .gtr 47 0,oM 49 48,jM 50 49 0,jM 51 49 5,jE 52 49 .sub 51 1,jI 53 49 6 50 52,jF 54 49 4 53,jW 55 49 2 54,jF 56 49 4 6,jW 57 49 2 56] [jD 58 49 128 55 57,jE 59 49 .geq 58 0,oQ 60 49 59] (oG 60 (oR 4 kf)))))) (.reg [oZ 61 9 1,oM 9 61])))))) (rg [oM 62 0,oN 63 62,oE 64 .leq 63 120,oM 4 64] .ret)))⟩
theorem A8n:A2 Tryz.prog 73=some Z7:=by kernel_rfl
def S3:Fn1:=⟨68,[.t 2],(rg [oV 2 kf] (.seq (rg [oV 3 (ki 0)] (oH 0 (.seq (rg [oM 5 3,oM 6 0,oN 7 6,oB 8 .lss 5 7] (oJ 8 0)) (.seq (.blk 1 (rg [oM 11 0,oM 12 3,oI 13 8 11 12,oW 14 8 13,o 4 (.new [s0,z0,z0,z0,z0,z0,z0,(.bool false)]),oS 8 4 14] (dw [oF 15 1 4,oW 16 2 15,oC 17 143 16,oU 18 17,oM 19 18,vF 20 19 0 4,vL 21 19 20,vC 22 19 142 21,vU 23 19 22,oP 24 19 23,oM 25 24,vF 26 25 3 4,vL 27 25 26,og 28 25 false (.call 141 [(.t 27),(ki 1),(ki 10000)]),vU 29 25 28,oP 30 25 29,oM 31 30,vF 32 31 6 4,vL 33 31 32,og 34 31 false (.call 141 [(.t 33),(ki 0),(ki 999999)]),vU 35 31 34,oP 36 31 35,oM 37 36,vF 38 37 4 4,vW 39 37 2 38,og 40 37 false (.build [z0,z0] []),og 41 37 false (.eqs true [.i .i64,.i .i64] (.t 39) (.t 40)),vM 42 37 41,jF 43 42 4 4,jW 44 42 2 43,jC 45 42 143 44,jU 46 42 45,og 47 37 false (.pick (.t 42) (.t 46) kf),oP 48 37 47,oM 49 48,vM 50 49 3,vE 51 49 .gtr 50 0,vM 52 49 51,jM 53 52 0,jM 54 52 3,jE 55 52 .sub 54 1,jI 56 52 8 53 55,jF 57 52 1 56,jW 58 52 2 57,jF 59 52 1 4,jW 60 52 2 59] [jD 61 52 144 58 60,jU 62 52 61,og 63 49 false (.pick (.t 52) (.t 62) kf),oP 64 49 63] (oG 64 (oR 2 kf))))) (.reg [oM 9 3,oZ 10 9 1,oM 3 10]))))) (rg [oM 65 0,oN 66 65,oE 67 .leq 66 120,oM 2 67] .ret)))⟩
theorem A5e:A2 Tryz.prog 90=some S3:=by kernel_rfl
def Z9:Fn1:=⟨55,[.t 4],(rg [oV 4 kf] (.seq (rg [oM 7 0,oN 8 7,oV 9 (ki 0)] (oH 0 (rg [oB 10 .lss 9 8] (.seq (oJ 10 0) (.seq (.blk 1 (rg [oM 11 9,oI 12 8 7 9,oW 13 8 12,o 6 (.new [s0,z0,z0,z0,z0,z0,z0,(.bool false)]),oM 5 11,oS 8 6 13] (.seq (rg [oM 14 1,oF 15 1 6,oW 16 2 15,oD 17 127 14 16,oU 18 17,oM 19 18,vF 20 19 0 6,vL 21 19 20,vC 22 19 125 21,vU 23 19 22,oP 24 19 23,oM 25 24,vF 26 25 6 6,vL 27 25 26,og 28 25 false (.call 124 [(.t 27),(ki 0),(ki 999999)]),vU 29 25 28,oP 30 25 29,oM 31 30,vF 32 31 3 6,vL 33 31 32,og 34 31 false (.call 124 [(.t 33),(ki 1),(ki 10000)]),vU 35 31 34,oP 36 31 35] (oG 36 (oR 4 kf))) (dw [oM 37 5,oE 38 .gtr 37 0,oM 39 38,jM 40 39 0,jM 41 39 5,jE 42 39 .sub 41 1,jI 43 39 8 40 42,jF 44 39 1 43,jW 45 39 2 44,jF 46 39 1 6,jW 47 39 2 46] [jD 48 39 128 45 47,jE 49 39 .geq 48 0,oQ 50 39 49] (oG 50 (oR 4 kf)))))) (.reg [oZ 51 9 1,oM 9 51])))))) (rg [oM 52 0,oN 53 52,oE 54 .leq 53 120,oM 4 54] .ret)))⟩
theorem A8o:A2 Tryz.prog 74=some Z9:=by kernel_rfl
theorem A35 {Y:Type} {l:List Y} {n:Nat}:decide ((l.length:Int)<=(n:Nat))=decide (l.length<=n):=by
 rw[Zan];simp only[decide_eq_true_eq];omega
theorem sub1 {i:Nat} (h:0<i):(i:Int) - 1=((i - 1:Nat):Int):=by omega
theorem Abj (a b:Tally):Di a b= !(txLt b.obj a.obj||decide (a.obj=b.obj)&&decide (b.rep<=a.rep)):=by
 unfold Di
 by_cases h:a.obj=b.obj
 ·rw[h,Gz];rw[Zan];simp
 ·cases h1:txLt a.obj b.obj with
  |true=>simp[h,A8l h1]
  |false=>
   cases h2:txLt b.obj a.obj with
   |true=>simp[h]
   |false=>exact absurd (Ku h1 h2) h
theorem Ad4 (m:Bool) (n:Int):m=true∨(m=false/\(n != 0)=false/\n=0)∨(m=false/\(n != 0)=true/\n≠0):=by
 cases m
 ·by_cases h:n=0
  ·exact .inr (.inl ⟨rfl,by simp[h],h⟩)
  ·exact .inr (.inr ⟨rfl,by simp[h],h⟩)
 ·exact .inl rfl
theorem Su (U:St) (v:GV) (l:List Tally) (h:RS E7.kd U v l) (hl:l.length<=1099511627776) (hsz:∀ x∈l,x.obj.size<=1099511627776):Ret Tryz.prog 88 [v] U (.bool (I7 l)) U:=by
 refine Ac Z5 (Z0z rfl) trivial ?_
 simp +contextual (disch:=omega) only[go_sem,Ls,h.len]
 refine Ay l.length 3 (fun i env N=>env 0=v/\(∀ j,j<i->talP l j=true)/\U <+: N) rfl ⟨rfl,fun j hj=>by omega,Zac _⟩ ?_ ?_
 ·rintro i env N hi ei c0 ⟨e0,ha,hp⟩
  have hno:talP l i=false->I7 l=false:=fun hh=>by simp[I7,Qe hi hh]
  have hat:talP l i=((F7 l[i].obj&&(inB l[i].rep 0 2&&inB l[i].sum 0 999999))&&upI Di l i):=by simp only[talP,tal1,C4 hi]
  simp +contextual (disch:=omega) only[go_sem,c0,e0,ei,Aa (h.pre hp) hi,fun r=>Aa (h.pre (A0 hp r)) hi,h.len,A0 hp _,hp]
  refine Ah (Gw _ l[i].obj (hsz _ (Zad hi))) (fun h0=> ?_) (fun h0=> ?_)
  rotate_left
  ·simp +contextual (disch:=omega) only[go_sem,c0,e0,ei,Aa (h.pre hp) hi,fun r=>Aa (h.pre (A0 hp r)) hi,h.len,A0 hp _,hp]
   simp[hno (by rw[hat];simp[h0])]
  simp +contextual (disch:=omega) only[go_sem,c0,e0,ei,Aa (h.pre hp) hi,fun r=>Aa (h.pre (A0 hp r)) hi,h.len,A0 hp _,hp]
  refine Ah (Ce _ _ _ _) (fun h1=> ?_) (fun h1=> ?_)
  rotate_left
  ·simp +contextual (disch:=omega) only[go_sem,c0,e0,ei,Aa (h.pre hp) hi,fun r=>Aa (h.pre (A0 hp r)) hi,h.len,A0 hp _,hp]
   simp[hno (by rw[hat];simp[h1])]
  simp +contextual (disch:=omega) only[go_sem,c0,e0,ei,Aa (h.pre hp) hi,fun r=>Aa (h.pre (A0 hp r)) hi,h.len,A0 hp _,hp]
  refine Ah (Ce _ _ _ _) (fun h2=> ?_) (fun h2=> ?_)
  rotate_left
  ·simp +contextual (disch:=omega) only[go_sem,c0,e0,ei,Aa (h.pre hp) hi,fun r=>Aa (h.pre (A0 hp r)) hi,h.len,A0 hp _,hp]
   simp[hno (by rw[hat];simp[h2])]
  simp +contextual (disch:=omega) only[go_sem,c0,e0,ei,Aa (h.pre hp) hi,fun r=>Aa (h.pre (A0 hp r)) hi,h.len,A0 hp _,hp]
  rcases Zai i with hz|hz
  ·subst hz
   simp +contextual (disch:=omega) only[go_sem,Zap,decide_false,Zat,c0,e0,ei,Aa (h.pre hp) hi,fun r=>Aa (h.pre (A0 hp r)) hi,h.len,A0 hp _,hp]
   refine Cz ha (by rw[hat];simp[h0,h1,h2,upI])
  ·have c1:decide ((0:Int)<i)=true:=by simp;omega
   have hj:i - 1<l.length:=by omega
   have hz':i≠0:=by omega
   simp only[Jp hz' hi hj] at hat
   simp +contextual (disch:=omega) only[go_sem,c1,sub1 hz,Aa (h.pre hp) hj,fun r=>Aa (h.pre (A0 hp r)) hj,c0,e0,ei,Aa (h.pre hp) hi,fun r=>Aa (h.pre (A0 hp r)) hi,h.len,A0 hp _,hp]
   rw[Abj] at hat
   generalize txLt l[i].obj l[i-1].obj=b1 at*
   generalize decide (l[i-1].obj=l[i].obj)=b2 at*
   grind
 ·rintro env N ei c0 ⟨e0,ha,hp⟩
  simp +contextual (disch:=omega) only[go_sem,c0,e0,ei,h.len,hp]
  simp only[I7,Kv ha,Zaz]
  exact A35
theorem Za (U:St) (v:GV) (l:List Tally) (h:RS E7.kd U v l) (hl:l.length<=1099511627776) (hsz:∀ x∈l,x.obj.size<=1099511627776):Ret Tryz.prog 72 [v] U (.bool (I7 l)) U:=by
 refine Ac A18 (Z0z rfl) trivial ?_
 simp +contextual (disch:=omega) only[go_sem,Om,h.len]
 refine Ay l.length 7 (fun i env N=>env 0=v/\env 5=v/\env 6=gi l.length/\(∀ j,j<i->talP l j=true)/\U <+: N) rfl ⟨rfl,rfl,rfl,fun j hj=>by omega,Zac _⟩ ?_ ?_
 ·rintro i env N hi ei c0 ⟨e0,e5,e6,ha,hp⟩
  have hno:talP l i=false->I7 l=false:=fun hh=>by simp[I7,Qe hi hh]
  have hat:talP l i=((F7 l[i].obj&&(inB l[i].rep 0 2&&inB l[i].sum 0 999999))&&upI Di l i):=by simp only[talP,tal1,C4 hi]
  simp +contextual (disch:=omega) only[go_sem,c0,e0,e5,e6,ei,Aa (h.pre hp) hi,fun r=>Aa (h.pre (A0 hp r)) hi,h.len,A0 hp _,hp]
  refine Ah (Gx _ l[i].obj (hsz _ (Zad hi))) (fun h0=> ?_) (fun h0=> ?_)
  rotate_left
  ·simp +contextual (disch:=omega) only[go_sem,c0,e0,e5,e6,ei,Aa (h.pre hp) hi,fun r=>Aa (h.pre (A0 hp r)) hi,h.len,A0 hp _,hp]
   simp[hno (by rw[hat];simp[h0])]
  simp +contextual (disch:=omega) only[go_sem,c0,e0,e5,e6,ei,Aa (h.pre hp) hi,fun r=>Aa (h.pre (A0 hp r)) hi,h.len,A0 hp _,hp]
  refine Ah (Bs _ _ _ _) (fun h1=> ?_) (fun h1=> ?_)
  rotate_left
  ·simp +contextual (disch:=omega) only[go_sem,c0,e0,e5,e6,ei,Aa (h.pre hp) hi,fun r=>Aa (h.pre (A0 hp r)) hi,h.len,A0 hp _,hp]
   simp[hno (by rw[hat];simp[h1])]
  simp +contextual (disch:=omega) only[go_sem,c0,e0,e5,e6,ei,Aa (h.pre hp) hi,fun r=>Aa (h.pre (A0 hp r)) hi,h.len,A0 hp _,hp]
  refine Ah (Bs _ _ _ _) (fun h2=> ?_) (fun h2=> ?_)
  rotate_left
  ·simp +contextual (disch:=omega) only[go_sem,c0,e0,e5,e6,ei,Aa (h.pre hp) hi,fun r=>Aa (h.pre (A0 hp r)) hi,h.len,A0 hp _,hp]
   simp[hno (by rw[hat];simp[h2])]
  simp +contextual (disch:=omega) only[go_sem,c0,e0,e5,e6,ei,Aa (h.pre hp) hi,fun r=>Aa (h.pre (A0 hp r)) hi,h.len,A0 hp _,hp]
  rcases Zai i with hz|hz
  ·subst hz
   simp +contextual (disch:=omega) only[go_sem,Zap,decide_false,Zat,c0,e0,e5,e6,ei,Aa (h.pre hp) hi,fun r=>Aa (h.pre (A0 hp r)) hi,h.len,A0 hp _,hp]
   refine Cz ha (by rw[hat];simp[h0,h1,h2,upI])
  ·have c1:decide ((0:Int)<i)=true:=by simp;omega
   have hj:i - 1<l.length:=by omega
   have hz':i≠0:=by omega
   simp only[Jp hz' hi hj] at hat
   simp +contextual (disch:=omega) only[go_sem,c1,sub1 hz,Aa (h.pre hp) hj,fun r=>Aa (h.pre (A0 hp r)) hj,c0,e0,e5,e6,ei,Aa (h.pre hp) hi,fun r=>Aa (h.pre (A0 hp r)) hi,h.len,A0 hp _,hp]
   refine A5 (L9 _ l[i-1] l[i]) ?_
   simp +contextual (disch:=omega) only[go_sem,Abd,c1,sub1 hz,Aa (h.pre hp) hj,fun r=>Aa (h.pre (A0 hp r)) hj,c0,e0,e5,e6,ei,Aa (h.pre hp) hi,fun r=>Aa (h.pre (A0 hp r)) hi,h.len,A0 hp _,hp]
   cases ho:Di l[i-1] l[i] with
   |true=>
    simp +contextual (disch:=omega) only[go_sem,c1,sub1 hz,Aa (h.pre hp) hj,fun r=>Aa (h.pre (A0 hp r)) hj,c0,e0,e5,e6,ei,Aa (h.pre hp) hi,fun r=>Aa (h.pre (A0 hp r)) hi,h.len,A0 hp _,hp]
    exact Cz ha (by rw[hat];simp[h0,h1,h2,ho])
   |false=>
    simp +contextual (disch:=omega) only[go_sem,c1,sub1 hz,Aa (h.pre hp) hj,fun r=>Aa (h.pre (A0 hp r)) hj,c0,e0,e5,e6,ei,Aa (h.pre hp) hi,fun r=>Aa (h.pre (A0 hp r)) hi,h.len,A0 hp _,hp]
    simp[hno (by rw[hat];simp[ho])]
 ·rintro env N ei c0 ⟨e0,e5,e6,ha,hp⟩
  simp +contextual (disch:=omega) only[go_sem,c0,e0,e5,e6,ei,h.len,hp]
  simp only[I7,Kv ha,Zaz]
  exact A35
theorem A19 (U:St) (v:GV) (l:List Live) (h:RS Dh.kd U v l) (hl:l.length<=1099511627776) (hsz:∀ x∈l,x.obj.size<=1099511627776/\x.key.size<=1099511627776):Ret Tryz.prog 89 [v] U (.bool (Aei l)) U:=by
 refine Ac A5d (Z0z rfl) trivial ?_
 simp +contextual (disch:=omega) only[go_sem,S1,h.len]
 refine Ay l.length 3 (fun i env N=>env 0=v/\(∀ j,j<i->Aeh l j=true)/\U <+: N) rfl ⟨rfl,fun j hj=>by omega,Zac _⟩ ?_ ?_
 ·rintro i env N hi ei c0 ⟨e0,ha,hp⟩
  have hno:Aeh l i=false->Aei l=false:=fun hh=>by simp[Aei,Qe hi hh]
  have hat:Aeh l i=(Ix l[i].dot&&((F7 l[i].obj&&(F7 l[i].key&&(inB l[i].val 0 999999&&(l[i].map||decide (l[i].val=0)))))&&upI Ha l i)):=by simp only[Aeh,liv1,C4 hi]
  simp +contextual (disch:=omega) only[go_sem,c0,e0,ei,A3 (h.pre hp) hi,fun r=>A3 (h.pre (A0 hp r)) hi,h.len,A0 hp _,hp]
  refine Ah (Iy _ l[i].dot) (fun h0=> ?_) (fun h0=> ?_)
  rotate_left
  ·simp +contextual (disch:=omega) only[go_sem,c0,e0,ei,A3 (h.pre hp) hi,fun r=>A3 (h.pre (A0 hp r)) hi,h.len,A0 hp _,hp]
   simp[hno (by rw[hat];simp[h0])]
  simp +contextual (disch:=omega) only[go_sem,c0,e0,ei,A3 (h.pre hp) hi,fun r=>A3 (h.pre (A0 hp r)) hi,h.len,A0 hp _,hp]
  refine Ah (Gw _ l[i].obj (hsz _ (Zad hi)).1) (fun h1=> ?_) (fun h1=> ?_)
  rotate_left
  ·simp +contextual (disch:=omega) only[go_sem,c0,e0,ei,A3 (h.pre hp) hi,fun r=>A3 (h.pre (A0 hp r)) hi,h.len,A0 hp _,hp]
   simp[hno (by rw[hat];simp[h1])]
  simp +contextual (disch:=omega) only[go_sem,c0,e0,ei,A3 (h.pre hp) hi,fun r=>A3 (h.pre (A0 hp r)) hi,h.len,A0 hp _,hp]
  refine Ah (Gw _ l[i].key (hsz _ (Zad hi)).2) (fun h2=> ?_) (fun h2=> ?_)
  rotate_left
  ·simp +contextual (disch:=omega) only[go_sem,c0,e0,ei,A3 (h.pre hp) hi,fun r=>A3 (h.pre (A0 hp r)) hi,h.len,A0 hp _,hp]
   simp[hno (by rw[hat];simp[h2])]
  simp +contextual (disch:=omega) only[go_sem,c0,e0,ei,A3 (h.pre hp) hi,fun r=>A3 (h.pre (A0 hp r)) hi,h.len,A0 hp _,hp]
  refine Ah (Ce _ _ _ _) (fun h3=> ?_) (fun h3=> ?_)
  rotate_left
  ·simp +contextual (disch:=omega) only[go_sem,c0,e0,ei,A3 (h.pre hp) hi,fun r=>A3 (h.pre (A0 hp r)) hi,h.len,A0 hp _,hp]
   simp[hno (by rw[hat];simp[h3])]
  simp +contextual (disch:=omega) only[go_sem,c0,e0,ei,A3 (h.pre hp) hi,fun r=>A3 (h.pre (A0 hp r)) hi,h.len,A0 hp _,hp]
  rcases Ad4 l[i].map l[i].val with hm|⟨hm,hv,hv'⟩|⟨hm,hv,hv'⟩
  rotate_left 2
  ·simp +contextual (disch:=omega) only[go_sem,hm,hv,c0,e0,ei,A3 (h.pre hp) hi,fun r=>A3 (h.pre (A0 hp r)) hi,h.len,A0 hp _,hp]
   simp[hno (by rw[hat];simp[hm,hv'])]
  ·simp +contextual (disch:=omega) only[go_sem,hm,c0,e0,ei,A3 (h.pre hp) hi,fun r=>A3 (h.pre (A0 hp r)) hi,h.len,A0 hp _,hp]
   rcases Zai i with hz|hz
   ·subst hz
    simp +contextual (disch:=omega) only[go_sem,Zap,decide_false,Zat,hm,c0,e0,ei,A3 (h.pre hp) hi,fun r=>A3 (h.pre (A0 hp r)) hi,h.len,A0 hp _,hp]
    refine Cz ha (by rw[hat];simp[h0,h1,h2,h3,hm,upI])
   ·have c1:decide ((0:Int)<i)=true:=by simp;omega
    have hj:i - 1<l.length:=by omega
    have hz':i≠0:=by omega
    simp only[Jp hz' hi hj] at hat
    simp +contextual (disch:=omega) only[go_sem,c1,sub1 hz,A3 (h.pre hp) hj,fun r=>A3 (h.pre (A0 hp r)) hj,hm,c0,e0,ei,A3 (h.pre hp) hi,fun r=>A3 (h.pre (A0 hp r)) hi,h.len,A0 hp _,hp]
    refine A5 (Ep _ l[i-1].dot l[i].dot) ?_
    cases ho:Cp l[i-1].dot l[i].dot with
    |true=>
     simp +contextual (disch:=omega) only[go_sem,c1,sub1 hz,A3 (h.pre hp) hj,fun r=>A3 (h.pre (A0 hp r)) hj,hm,c0,e0,ei,A3 (h.pre hp) hi,fun r=>A3 (h.pre (A0 hp r)) hi,h.len,A0 hp _,hp]
     exact Cz ha (by rw[hat];simp[h0,h1,h2,h3,hm,ho,Ha])
    |false=>
     simp +contextual (disch:=omega) only[go_sem,c1,sub1 hz,A3 (h.pre hp) hj,fun r=>A3 (h.pre (A0 hp r)) hj,hm,c0,e0,ei,A3 (h.pre hp) hi,fun r=>A3 (h.pre (A0 hp r)) hi,h.len,A0 hp _,hp]
     simp[hno (by rw[hat];simp[ho,Ha])]
  ·simp +contextual (disch:=omega) only[go_sem,hm,hv,c0,e0,ei,A3 (h.pre hp) hi,fun r=>A3 (h.pre (A0 hp r)) hi,h.len,A0 hp _,hp]
   rcases Zai i with hz|hz
   ·subst hz
    simp +contextual (disch:=omega) only[go_sem,Zap,decide_false,Zat,hm,hv,c0,e0,ei,A3 (h.pre hp) hi,fun r=>A3 (h.pre (A0 hp r)) hi,h.len,A0 hp _,hp]
    refine Cz ha (by rw[hat];simp[h0,h1,h2,h3,hm,decide_eq_true hv',upI])
   ·have c1:decide ((0:Int)<i)=true:=by simp;omega
    have hj:i - 1<l.length:=by omega
    have hz':i≠0:=by omega
    simp only[Jp hz' hi hj] at hat
    simp +contextual (disch:=omega) only[go_sem,c1,sub1 hz,A3 (h.pre hp) hj,fun r=>A3 (h.pre (A0 hp r)) hj,hm,hv,c0,e0,ei,A3 (h.pre hp) hi,fun r=>A3 (h.pre (A0 hp r)) hi,h.len,A0 hp _,hp]
    refine A5 (Ep _ l[i-1].dot l[i].dot) ?_
    cases ho:Cp l[i-1].dot l[i].dot with
    |true=>
     simp +contextual (disch:=omega) only[go_sem,c1,sub1 hz,A3 (h.pre hp) hj,fun r=>A3 (h.pre (A0 hp r)) hj,hm,hv,c0,e0,ei,A3 (h.pre hp) hi,fun r=>A3 (h.pre (A0 hp r)) hi,h.len,A0 hp _,hp]
     exact Cz ha (by rw[hat];simp[h0,h1,h2,h3,hm,decide_eq_true hv',ho,Ha])
    |false=>
     simp +contextual (disch:=omega) only[go_sem,c1,sub1 hz,A3 (h.pre hp) hj,fun r=>A3 (h.pre (A0 hp r)) hj,hm,hv,c0,e0,ei,A3 (h.pre hp) hi,fun r=>A3 (h.pre (A0 hp r)) hi,h.len,A0 hp _,hp]
     simp[hno (by rw[hat];simp[ho,Ha])]
 ·rintro env N ei c0 ⟨e0,ha,hp⟩
  simp +contextual (disch:=omega) only[go_sem,c0,e0,ei,h.len,hp]
  simp only[Aei,Kv ha,Zaz]
  exact A35
theorem A5f (U:St) (v:GV) (l:List Live) (h:RS Dh.kd U v l) (u:GV) (k:List Int) (hk:RS pI.kd U u k) (hlk:k.length<=1099511627776) (hl:l.length<=1099511627776) (hsz:∀ x∈l,x.obj.size<=1099511627776/\x.key.size<=1099511627776):Ret Tryz.prog 73 [v,u] U (.bool (Lq l k)) U:=by
 refine Ac A8n (Z0z rfl) trivial ?_
 simp +contextual (disch:=omega) only[go_sem,Z7,h.len]
 refine Ay l.length 9 (fun i env N=>env 0=v/\env 1=u/\env 7=v/\env 8=gi l.length/\(∀ j,j<i->livP l k j=true)/\U <+: N) rfl ⟨rfl,rfl,rfl,rfl,fun j hj=>by omega,Zac _⟩ ?_ ?_
 ·rintro i env N hi ei c0 ⟨e0,e1,e7,e8,ha,hp⟩
  have hno:livP l k i=false->Lq l k=false:=fun hh=>by simp[Lq,Qe hi hh]
  have hat:livP l k i=(Gm k l[i].dot&&((F7 l[i].obj&&(F7 l[i].key&&(inB l[i].val 0 999999&&(l[i].map||decide (l[i].val=0)))))&&upI Ha l i)):=by simp only[livP,liv1,C4 hi]
  simp +contextual (disch:=omega) only[go_sem,c0,e0,e1,e7,e8,ei,A3 (h.pre hp) hi,fun r=>A3 (h.pre (A0 hp r)) hi,h.len,A0 hp _,hp]
  refine Ah (Xy _ u k l[i].dot (hk.pre (A0 hp _)) hlk) (fun h0=> ?_) (fun h0=> ?_)
  rotate_left
  ·simp +contextual (disch:=omega) only[go_sem,c0,e0,e1,e7,e8,ei,A3 (h.pre hp) hi,fun r=>A3 (h.pre (A0 hp r)) hi,h.len,A0 hp _,hp]
   simp[hno (by rw[hat];simp[h0])]
  simp +contextual (disch:=omega) only[go_sem,c0,e0,e1,e7,e8,ei,A3 (h.pre hp) hi,fun r=>A3 (h.pre (A0 hp r)) hi,h.len,A0 hp _,hp]
  refine Ah (Gx _ l[i].obj (hsz _ (Zad hi)).1) (fun h1=> ?_) (fun h1=> ?_)
  rotate_left
  ·simp +contextual (disch:=omega) only[go_sem,c0,e0,e1,e7,e8,ei,A3 (h.pre hp) hi,fun r=>A3 (h.pre (A0 hp r)) hi,h.len,A0 hp _,hp]
   simp[hno (by rw[hat];simp[h1])]
  simp +contextual (disch:=omega) only[go_sem,c0,e0,e1,e7,e8,ei,A3 (h.pre hp) hi,fun r=>A3 (h.pre (A0 hp r)) hi,h.len,A0 hp _,hp]
  refine Ah (Gx _ l[i].key (hsz _ (Zad hi)).2) (fun h2=> ?_) (fun h2=> ?_)
  rotate_left
  ·simp +contextual (disch:=omega) only[go_sem,c0,e0,e1,e7,e8,ei,A3 (h.pre hp) hi,fun r=>A3 (h.pre (A0 hp r)) hi,h.len,A0 hp _,hp]
   simp[hno (by rw[hat];simp[h2])]
  simp +contextual (disch:=omega) only[go_sem,c0,e0,e1,e7,e8,ei,A3 (h.pre hp) hi,fun r=>A3 (h.pre (A0 hp r)) hi,h.len,A0 hp _,hp]
  refine Ah (Bs _ _ _ _) (fun h3=> ?_) (fun h3=> ?_)
  rotate_left
  ·simp +contextual (disch:=omega) only[go_sem,c0,e0,e1,e7,e8,ei,A3 (h.pre hp) hi,fun r=>A3 (h.pre (A0 hp r)) hi,h.len,A0 hp _,hp]
   simp[hno (by rw[hat];simp[h3])]
  simp +contextual (disch:=omega) only[go_sem,c0,e0,e1,e7,e8,ei,A3 (h.pre hp) hi,fun r=>A3 (h.pre (A0 hp r)) hi,h.len,A0 hp _,hp]
  rcases Ad4 l[i].map l[i].val with hm|⟨hm,hv,hv'⟩|⟨hm,hv,hv'⟩
  rotate_left 2
  ·simp +contextual (disch:=omega) only[go_sem,hm,hv,c0,e0,e1,e7,e8,ei,A3 (h.pre hp) hi,fun r=>A3 (h.pre (A0 hp r)) hi,h.len,A0 hp _,hp]
   simp[hno (by rw[hat];simp[hm,hv'])]
  ·simp +contextual (disch:=omega) only[go_sem,hm,c0,e0,e1,e7,e8,ei,A3 (h.pre hp) hi,fun r=>A3 (h.pre (A0 hp r)) hi,h.len,A0 hp _,hp]
   rcases Zai i with hz|hz
   ·subst hz
    simp +contextual (disch:=omega) only[go_sem,Zap,decide_false,Zat,hm,c0,e0,e1,e7,e8,ei,A3 (h.pre hp) hi,fun r=>A3 (h.pre (A0 hp r)) hi,h.len,A0 hp _,hp]
    refine Cz ha (by rw[hat];simp[h0,h1,h2,h3,hm,upI])
   ·have c1:decide ((0:Int)<i)=true:=by simp;omega
    have hj:i - 1<l.length:=by omega
    have hz':i≠0:=by omega
    simp only[Jp hz' hi hj] at hat
    simp +contextual (disch:=omega) only[go_sem,c1,sub1 hz,A3 (h.pre hp) hj,fun r=>A3 (h.pre (A0 hp r)) hj,hm,c0,e0,e1,e7,e8,ei,A3 (h.pre hp) hi,fun r=>A3 (h.pre (A0 hp r)) hi,h.len,A0 hp _,hp]
    refine A5 (Dd _ l[i-1].dot l[i].dot) ?_
    simp +contextual (disch:=omega) only[go_sem,Z1,c1,sub1 hz,A3 (h.pre hp) hj,fun r=>A3 (h.pre (A0 hp r)) hj,hm,c0,e0,e1,e7,e8,ei,A3 (h.pre hp) hi,fun r=>A3 (h.pre (A0 hp r)) hi,h.len,A0 hp _,hp]
    cases ho:Cp l[i-1].dot l[i].dot with
    |true=>
     simp +contextual (disch:=omega) only[go_sem,c1,sub1 hz,A3 (h.pre hp) hj,fun r=>A3 (h.pre (A0 hp r)) hj,hm,c0,e0,e1,e7,e8,ei,A3 (h.pre hp) hi,fun r=>A3 (h.pre (A0 hp r)) hi,h.len,A0 hp _,hp]
     exact Cz ha (by rw[hat];simp[h0,h1,h2,h3,hm,ho,Ha])
    |false=>
     simp +contextual (disch:=omega) only[go_sem,c1,sub1 hz,A3 (h.pre hp) hj,fun r=>A3 (h.pre (A0 hp r)) hj,hm,c0,e0,e1,e7,e8,ei,A3 (h.pre hp) hi,fun r=>A3 (h.pre (A0 hp r)) hi,h.len,A0 hp _,hp]
     simp[hno (by rw[hat];simp[ho,Ha])]
  ·simp +contextual (disch:=omega) only[go_sem,hm,hv,c0,e0,e1,e7,e8,ei,A3 (h.pre hp) hi,fun r=>A3 (h.pre (A0 hp r)) hi,h.len,A0 hp _,hp]
   rcases Zai i with hz|hz
   ·subst hz
    simp +contextual (disch:=omega) only[go_sem,Zap,decide_false,Zat,hm,hv,c0,e0,e1,e7,e8,ei,A3 (h.pre hp) hi,fun r=>A3 (h.pre (A0 hp r)) hi,h.len,A0 hp _,hp]
    refine Cz ha (by rw[hat];simp[h0,h1,h2,h3,hm,decide_eq_true hv',upI])
   ·have c1:decide ((0:Int)<i)=true:=by simp;omega
    have hj:i - 1<l.length:=by omega
    have hz':i≠0:=by omega
    simp only[Jp hz' hi hj] at hat
    simp +contextual (disch:=omega) only[go_sem,c1,sub1 hz,A3 (h.pre hp) hj,fun r=>A3 (h.pre (A0 hp r)) hj,hm,hv,c0,e0,e1,e7,e8,ei,A3 (h.pre hp) hi,fun r=>A3 (h.pre (A0 hp r)) hi,h.len,A0 hp _,hp]
    refine A5 (Dd _ l[i-1].dot l[i].dot) ?_
    simp +contextual (disch:=omega) only[go_sem,Z1,c1,sub1 hz,A3 (h.pre hp) hj,fun r=>A3 (h.pre (A0 hp r)) hj,hm,hv,c0,e0,e1,e7,e8,ei,A3 (h.pre hp) hi,fun r=>A3 (h.pre (A0 hp r)) hi,h.len,A0 hp _,hp]
    cases ho:Cp l[i-1].dot l[i].dot with
    |true=>
     simp +contextual (disch:=omega) only[go_sem,c1,sub1 hz,A3 (h.pre hp) hj,fun r=>A3 (h.pre (A0 hp r)) hj,hm,hv,c0,e0,e1,e7,e8,ei,A3 (h.pre hp) hi,fun r=>A3 (h.pre (A0 hp r)) hi,h.len,A0 hp _,hp]
     exact Cz ha (by rw[hat];simp[h0,h1,h2,h3,hm,decide_eq_true hv',ho,Ha])
    |false=>
     simp +contextual (disch:=omega) only[go_sem,c1,sub1 hz,A3 (h.pre hp) hj,fun r=>A3 (h.pre (A0 hp r)) hj,hm,hv,c0,e0,e1,e7,e8,ei,A3 (h.pre hp) hi,fun r=>A3 (h.pre (A0 hp r)) hi,h.len,A0 hp _,hp]
     simp[hno (by rw[hat];simp[ho,Ha])]
 ·rintro env N ei c0 ⟨e0,e1,e7,e8,ha,hp⟩
  simp +contextual (disch:=omega) only[go_sem,c0,e0,e1,e7,e8,ei,h.len,hp]
  simp only[Lq,Kv ha,Zaz]
  exact A35
theorem A1a (U:St) (v:GV) (l:List Cell) (h:RS Al.kd U v l) (hl:l.length<=1099511627776) (hsz:∀ x∈l,x.obj.size<=1099511627776):Ret Tryz.prog 90 [v] U (.bool (Aek l)) U:=by
 refine Ac A5e (Z0z rfl) trivial ?_
 simp +contextual (disch:=omega) only[go_sem,S3,h.len]
 refine Ay l.length 3 (fun i env N=>env 0=v/\(∀ j,j<i->Aej l j=true)/\U <+: N) rfl ⟨rfl,fun j hj=>by omega,Zac _⟩ ?_ ?_
 ·rintro i env N hi ei c0 ⟨e0,ha,hp⟩
  have hno:Aej l i=false->Aek l=false:=fun hh=>by simp[Aek,Qe hi hh]
  have hat:Aej l i=(Ix l[i].dot&&((F7 l[i].obj&&(inB l[i].val 0 999999&&inB l[i].time 1 10000))&&((decide (l[i].ref=⟨0,0⟩)||Ix l[i].ref)&&upI J7 l i))):=by simp only[Aej,cel1,refD,C4 hi]
  simp +contextual (disch:=omega) only[go_sem,c0,e0,ei,A6 (h.pre hp) hi,fun r=>A6 (h.pre (A0 hp r)) hi,h.len,A0 hp _,hp]
  refine Ah (Iy _ l[i].dot) (fun h0=> ?_) (fun h0=> ?_)
  rotate_left
  ·simp +contextual (disch:=omega) only[go_sem,c0,e0,ei,A6 (h.pre hp) hi,fun r=>A6 (h.pre (A0 hp r)) hi,h.len,A0 hp _,hp]
   simp[hno (by rw[hat];simp[h0])]
  simp +contextual (disch:=omega) only[go_sem,c0,e0,ei,A6 (h.pre hp) hi,fun r=>A6 (h.pre (A0 hp r)) hi,h.len,A0 hp _,hp]
  refine Ah (Gw _ l[i].obj (hsz _ (Zad hi))) (fun h1=> ?_) (fun h1=> ?_)
  rotate_left
  ·simp +contextual (disch:=omega) only[go_sem,c0,e0,ei,A6 (h.pre hp) hi,fun r=>A6 (h.pre (A0 hp r)) hi,h.len,A0 hp _,hp]
   simp[hno (by rw[hat];simp[h1])]
  simp +contextual (disch:=omega) only[go_sem,c0,e0,ei,A6 (h.pre hp) hi,fun r=>A6 (h.pre (A0 hp r)) hi,h.len,A0 hp _,hp]
  refine Ah (Ce _ _ _ _) (fun h2=> ?_) (fun h2=> ?_)
  rotate_left
  ·simp +contextual (disch:=omega) only[go_sem,c0,e0,ei,A6 (h.pre hp) hi,fun r=>A6 (h.pre (A0 hp r)) hi,h.len,A0 hp _,hp]
   simp[hno (by rw[hat];simp[h2])]
  simp +contextual (disch:=omega) only[go_sem,c0,e0,ei,A6 (h.pre hp) hi,fun r=>A6 (h.pre (A0 hp r)) hi,h.len,A0 hp _,hp]
  refine Ah (Ce _ _ _ _) (fun h3=> ?_) (fun h3=> ?_)
  rotate_left
  ·simp +contextual (disch:=omega) only[go_sem,c0,e0,ei,A6 (h.pre hp) hi,fun r=>A6 (h.pre (A0 hp r)) hi,h.len,A0 hp _,hp]
   simp[hno (by rw[hat];simp[h3])]
  simp +contextual (disch:=omega) only[go_sem,c0,e0,ei,A6 (h.pre hp) hi,fun r=>A6 (h.pre (A0 hp r)) hi,h.len,A0 hp _,hp]
  by_cases hr:l[i].ref=⟨0,0⟩
  ·have hrd:=decide_eq_true hr
   simp +contextual (disch:=omega) only[go_sem,hrd,c0,e0,ei,A6 (h.pre hp) hi,fun r=>A6 (h.pre (A0 hp r)) hi,h.len,A0 hp _,hp]
   rcases Zai i with hz|hz
   ·subst hz
    simp +contextual (disch:=omega) only[go_sem,Zap,decide_false,Zat,hrd,c0,e0,ei,A6 (h.pre hp) hi,fun r=>A6 (h.pre (A0 hp r)) hi,h.len,A0 hp _,hp]
    refine Cz ha (by rw[hat];simp[h0,h1,h2,h3,hrd,upI])
   ·have c1:decide ((0:Int)<i)=true:=by simp;omega
    have hj:i - 1<l.length:=by omega
    have hz':i≠0:=by omega
    simp only[Jp hz' hi hj] at hat
    simp +contextual (disch:=omega) only[go_sem,c1,sub1 hz,A6 (h.pre hp) hj,fun r=>A6 (h.pre (A0 hp r)) hj,hrd,c0,e0,ei,A6 (h.pre hp) hi,fun r=>A6 (h.pre (A0 hp r)) hi,h.len,A0 hp _,hp]
    refine A5 (Ep _ l[i-1].dot l[i].dot) ?_
    cases ho:Cp l[i-1].dot l[i].dot with
    |true=>
     simp +contextual (disch:=omega) only[go_sem,c1,sub1 hz,A6 (h.pre hp) hj,fun r=>A6 (h.pre (A0 hp r)) hj,hrd,c0,e0,ei,A6 (h.pre hp) hi,fun r=>A6 (h.pre (A0 hp r)) hi,h.len,A0 hp _,hp]
     exact Cz ha (by rw[hat];simp[h0,h1,h2,h3,hrd,ho,J7])
    |false=>
     simp +contextual (disch:=omega) only[go_sem,c1,sub1 hz,A6 (h.pre hp) hj,fun r=>A6 (h.pre (A0 hp r)) hj,hrd,c0,e0,ei,A6 (h.pre hp) hi,fun r=>A6 (h.pre (A0 hp r)) hi,h.len,A0 hp _,hp]
     simp[hno (by rw[hat];simp[ho,J7])]
  ·have hrd:=decide_eq_false hr
   simp +contextual (disch:=omega) only[go_sem,hrd,c0,e0,ei,A6 (h.pre hp) hi,fun r=>A6 (h.pre (A0 hp r)) hi,h.len,A0 hp _,hp]
   refine Ah (Iy _ l[i].ref) (fun hq=> ?_) (fun hq=> ?_)
   rotate_left
   ·simp +contextual (disch:=omega) only[go_sem,hrd,c0,e0,ei,A6 (h.pre hp) hi,fun r=>A6 (h.pre (A0 hp r)) hi,h.len,A0 hp _,hp]
    simp[hno (by rw[hat];simp[hrd,hq])]
   simp +contextual (disch:=omega) only[go_sem,hrd,c0,e0,ei,A6 (h.pre hp) hi,fun r=>A6 (h.pre (A0 hp r)) hi,h.len,A0 hp _,hp]
   rcases Zai i with hz|hz
   ·subst hz
    simp +contextual (disch:=omega) only[go_sem,Zap,decide_false,Zat,hrd,c0,e0,ei,A6 (h.pre hp) hi,fun r=>A6 (h.pre (A0 hp r)) hi,h.len,A0 hp _,hp]
    refine Cz ha (by rw[hat];simp[h0,h1,h2,h3,hrd,hq,upI])
   ·have c1:decide ((0:Int)<i)=true:=by simp;omega
    have hj:i - 1<l.length:=by omega
    have hz':i≠0:=by omega
    simp only[Jp hz' hi hj] at hat
    simp +contextual (disch:=omega) only[go_sem,c1,sub1 hz,A6 (h.pre hp) hj,fun r=>A6 (h.pre (A0 hp r)) hj,hrd,c0,e0,ei,A6 (h.pre hp) hi,fun r=>A6 (h.pre (A0 hp r)) hi,h.len,A0 hp _,hp]
    refine A5 (Ep _ l[i-1].dot l[i].dot) ?_
    cases ho:Cp l[i-1].dot l[i].dot with
    |true=>
     simp +contextual (disch:=omega) only[go_sem,c1,sub1 hz,A6 (h.pre hp) hj,fun r=>A6 (h.pre (A0 hp r)) hj,hrd,c0,e0,ei,A6 (h.pre hp) hi,fun r=>A6 (h.pre (A0 hp r)) hi,h.len,A0 hp _,hp]
     exact Cz ha (by rw[hat];simp[h0,h1,h2,h3,hrd,hq,ho,J7])
    |false=>
     simp +contextual (disch:=omega) only[go_sem,c1,sub1 hz,A6 (h.pre hp) hj,fun r=>A6 (h.pre (A0 hp r)) hj,hrd,c0,e0,ei,A6 (h.pre hp) hi,fun r=>A6 (h.pre (A0 hp r)) hi,h.len,A0 hp _,hp]
     simp[hno (by rw[hat];simp[ho,J7])]
 ·rintro env N ei c0 ⟨e0,ha,hp⟩
  simp +contextual (disch:=omega) only[go_sem,c0,e0,ei,h.len,hp]
  simp only[Aek,Kv ha,Zaz]
  exact A35
theorem A5g (U:St) (v:GV) (l:List Cell) (h:RS Al.kd U v l) (u:GV) (k:List Int) (hk:RS pI.kd U u k) (hlk:k.length<=1099511627776) (hl:l.length<=1099511627776) (hsz:∀ x∈l,x.obj.size<=1099511627776):Ret Tryz.prog 74 [v,u] U (.bool (Jq l k)) U:=by
 refine Ac A8o (Z0z rfl) trivial ?_
 simp +contextual (disch:=omega) only[go_sem,Z9,h.len]
 refine Ay l.length 9 (fun i env N=>env 0=v/\env 1=u/\env 7=v/\env 8=gi l.length/\(∀ j,j<i->celP l k j=true)/\U <+: N) rfl ⟨rfl,rfl,rfl,rfl,fun j hj=>by omega,Zac _⟩ ?_ ?_
 ·rintro i env N hi ei c0 ⟨e0,e1,e7,e8,ha,hp⟩
  have hno:celP l k i=false->Jq l k=false:=fun hh=>by simp[Jq,Qe hi hh]
  have hat:celP l k i=(Gm k l[i].dot&&((F7 l[i].obj&&(inB l[i].val 0 999999&&inB l[i].time 1 10000))&&upI J7 l i)):=by simp only[celP,cel1,C4 hi]
  simp +contextual (disch:=omega) only[go_sem,c0,e0,e1,e7,e8,ei,A6 (h.pre hp) hi,fun r=>A6 (h.pre (A0 hp r)) hi,h.len,A0 hp _,hp]
  refine Ah (Xy _ u k l[i].dot (hk.pre (A0 hp _)) hlk) (fun h0=> ?_) (fun h0=> ?_)
  rotate_left
  ·simp +contextual (disch:=omega) only[go_sem,c0,e0,e1,e7,e8,ei,A6 (h.pre hp) hi,fun r=>A6 (h.pre (A0 hp r)) hi,h.len,A0 hp _,hp]
   simp[hno (by rw[hat];simp[h0])]
  simp +contextual (disch:=omega) only[go_sem,c0,e0,e1,e7,e8,ei,A6 (h.pre hp) hi,fun r=>A6 (h.pre (A0 hp r)) hi,h.len,A0 hp _,hp]
  refine Ah (Gx _ l[i].obj (hsz _ (Zad hi))) (fun h1=> ?_) (fun h1=> ?_)
  rotate_left
  ·simp +contextual (disch:=omega) only[go_sem,c0,e0,e1,e7,e8,ei,A6 (h.pre hp) hi,fun r=>A6 (h.pre (A0 hp r)) hi,h.len,A0 hp _,hp]
   simp[hno (by rw[hat];simp[h1])]
  simp +contextual (disch:=omega) only[go_sem,c0,e0,e1,e7,e8,ei,A6 (h.pre hp) hi,fun r=>A6 (h.pre (A0 hp r)) hi,h.len,A0 hp _,hp]
  refine Ah (Bs _ _ _ _) (fun h2=> ?_) (fun h2=> ?_)
  rotate_left
  ·simp +contextual (disch:=omega) only[go_sem,c0,e0,e1,e7,e8,ei,A6 (h.pre hp) hi,fun r=>A6 (h.pre (A0 hp r)) hi,h.len,A0 hp _,hp]
   simp[hno (by rw[hat];simp[h2])]
  simp +contextual (disch:=omega) only[go_sem,c0,e0,e1,e7,e8,ei,A6 (h.pre hp) hi,fun r=>A6 (h.pre (A0 hp r)) hi,h.len,A0 hp _,hp]
  refine Ah (Bs _ _ _ _) (fun h3=> ?_) (fun h3=> ?_)
  rotate_left
  ·simp +contextual (disch:=omega) only[go_sem,c0,e0,e1,e7,e8,ei,A6 (h.pre hp) hi,fun r=>A6 (h.pre (A0 hp r)) hi,h.len,A0 hp _,hp]
   simp[hno (by rw[hat];simp[h3])]
  simp +contextual (disch:=omega) only[go_sem,c0,e0,e1,e7,e8,ei,A6 (h.pre hp) hi,fun r=>A6 (h.pre (A0 hp r)) hi,h.len,A0 hp _,hp]
  rcases Zai i with hz|hz
  ·subst hz
   simp +contextual (disch:=omega) only[go_sem,Zap,decide_false,Zat,c0,e0,e1,e7,e8,ei,A6 (h.pre hp) hi,fun r=>A6 (h.pre (A0 hp r)) hi,h.len,A0 hp _,hp]
   refine Cz ha (by rw[hat];simp[h0,h1,h2,h3,upI])
  ·have c1:decide ((0:Int)<i)=true:=by simp;omega
   have hj:i - 1<l.length:=by omega
   have hz':i≠0:=by omega
   simp only[Jp hz' hi hj] at hat
   simp +contextual (disch:=omega) only[go_sem,c1,sub1 hz,A6 (h.pre hp) hj,fun r=>A6 (h.pre (A0 hp r)) hj,c0,e0,e1,e7,e8,ei,A6 (h.pre hp) hi,fun r=>A6 (h.pre (A0 hp r)) hi,h.len,A0 hp _,hp]
   refine A5 (Dd _ l[i-1].dot l[i].dot) ?_
   simp +contextual (disch:=omega) only[go_sem,Z1,c1,sub1 hz,A6 (h.pre hp) hj,fun r=>A6 (h.pre (A0 hp r)) hj,c0,e0,e1,e7,e8,ei,A6 (h.pre hp) hi,fun r=>A6 (h.pre (A0 hp r)) hi,h.len,A0 hp _,hp]
   cases ho:Cp l[i-1].dot l[i].dot with
   |true=>
    simp +contextual (disch:=omega) only[go_sem,c1,sub1 hz,A6 (h.pre hp) hj,fun r=>A6 (h.pre (A0 hp r)) hj,c0,e0,e1,e7,e8,ei,A6 (h.pre hp) hi,fun r=>A6 (h.pre (A0 hp r)) hi,h.len,A0 hp _,hp]
    exact Cz ha (by rw[hat];simp[h0,h1,h2,h3,ho,J7])
   |false=>
    simp +contextual (disch:=omega) only[go_sem,c1,sub1 hz,A6 (h.pre hp) hj,fun r=>A6 (h.pre (A0 hp r)) hj,c0,e0,e1,e7,e8,ei,A6 (h.pre hp) hi,fun r=>A6 (h.pre (A0 hp r)) hi,h.len,A0 hp _,hp]
    simp[hno (by rw[hat];simp[ho,J7])]
 ·rintro env N ei c0 ⟨e0,e1,e7,e8,ha,hp⟩
  simp +contextual (disch:=omega) only[go_sem,c0,e0,e1,e7,e8,ei,h.len,hp]
  simp only[Jq,Kv ha,Zaz]
  exact A35
def mx (x y:Int):Int:=if y>x then y else x
def A37:Fn1:=⟨22,[.t 4],(rg [oX 2 0,oX 3 1,oV 4 (ki 0)] (.seq (rg [oV 5 (ki 0)] (oH 0 (.seq (rg [oM 6 5,oF 7 3 2,oL 8 7,oN 9 8,oB 10 .lss 6 9] (oJ 10 0)) (.seq (.blk 1 (dw [oF 13 3 2,oL 14 13,oM 15 5,oI 16 8 14 15,oF 17 1 16,oW 18 2 17,oW 19 2 3] [o 20 (.eqs false [.i .i64,.i .i64] (.t 18) (.t 19))] (oG 20 (rg [oM 21 5,oM 4 21] .ret)))) (.reg [oM 11 5,oZ 12 11 1,oM 5 12]))))) (rg [o 4 (.mov (ki (-1)))] .ret)))⟩
theorem Abk:A2 Tryz.prog 92=some A37:=by kernel_rfl
def A38:Fn1:=⟨9,[.t 4],(rg [oX 2 0,oX 3 1,oV 4 (ki 0)] (rg [oF 5 3 2,oL 6 5,o 7 (.mkf 199 [(.t 3)]),oD 8 198 6 7,oM 4 8] .ret))⟩
theorem Abl:A2 Tryz.prog 133=some A38:=by kernel_rfl
def On:Fn1:=⟨8,[.t 3],(rg [oX 2 0,oV 3 kf] (rg [oF 4 1 2,oW 5 2 4,oW 6 2 1,o 7 (.eqs false [.i .i64,.i .i64] (.t 5) (.t 6)),oM 3 7] .ret))⟩
theorem A1b:A2 Tryz.prog 199=some On:=by kernel_rfl
def Bo:Fn1:=⟨19,[.t 4],(rg [oV 4 (ki 0)] (.seq (rg [oM 6 0,oN 7 6,oV 8 (ki 0)] (oH 0 (rg [oB 9 .lss 8 7] (.seq (oJ 9 0) (.seq (.blk 1 (rg [oM 10 8,oM 5 10] (rg [oM 11 1,oM 12 0,oM 13 5,oI 14 8 12 13,oW 15 8 14,o 16 (.callv (.t 11) [(.t 15)])] (oG 16 (rg [oM 17 5,oM 4 17] .ret))))) (.reg [oZ 18 8 1,oM 8 18])))))) (rg [o 4 (.mov (ki (-1)))] .ret)))⟩
theorem D5:A2 Tryz.prog 198=some Bo:=by kernel_rfl
def A3a:Fn1:=⟨63,[.t 2],(rg [oV 2 kf] (rg [o 10 (.mkm),oM 3 10] (.seq (rg [oM 11 0,oN 12 11,oV 13 (ki 0)] (oH 0 (rg [oB 14 .lss 13 12] (.seq (oJ 14 0) (.seq (.blk 1 (rg [oM 15 13,oI 16 8 11 13,oW 17 8 16,o 5 (.new [s0,z0,z0,z0,z0,z0,z0,(.bool false)]),oM 4 15,oS 8 5 17] (.reg [oM 18 3,oF 19 1 5,oW 20 2 19,oM 21 4,on (.mup [.i .i64,.i .i64] (.t 18) (.t 20) (.t 21))]))) (.reg [oZ 22 13 1,oM 13 22])))))) (.seq (rg [oM 23 0,oN 24 23,oV 25 (ki 0)] (oH 2 (rg [oB 26 .lss 25 24] (.seq (oJ 26 2) (.seq (.blk 3 (rg [oI 27 8 23 25,oW 28 8 27,o 7 (.new [s0,z0,z0,z0,z0,z0,z0,(.bool false)]),oS 8 7 28] (.seq (rg [oF 29 4 7,oW 30 2 29,o 31 (.build [z0,z0] []),o 32 (.eqs false [.i .i64,.i .i64] (.t 30) (.t 31))] (oG 32 (.ext 3))) (rg [oM 34 3,oF 35 4 7,oW 36 2 35,o 37 (.mlk [.i .i64,.i .i64] z0 true (.t 34) (.t 36)),oM 33 37,o 38 (.ext 0 (.t 33)),o 39 (.ext 1 (.t 33)),oM 8 38,oM 9 39] (dw [oM 40 9,oU 41 40,oM 42 41,vM 43 42 0,vM 44 42 8,vI 45 42 8 43 44,vF 46 42 0 45,vL 47 42 46,vF 48 42 0 7,vL 49 42 48,vB 50 42 .neq 47 49,oP 51 42 50,oM 52 51,vM 53 52 0,vM 54 52 8,vI 55 52 8 53 54,vF 56 52 3 55,vL 57 52 56,vF 58 52 3 7,vL 59 52 58] [vB 60 52 .geq 57 59,oP 61 52 60] (oG 61 (oR 2 kf))))))) (.reg [oZ 62 25 1,oM 25 62])))))) (oR 2 kt)))))⟩
theorem Abm:A2 Tryz.prog 75=some A3a:=by kernel_rfl
def Zc:Fn1:=⟨96,[.t 2],(rg [oX 1 0,oV 2 kf] (.seq (rg [oF 7 0 1,oL 8 7,oC 9 87 8,oU 10 9,oM 11 10,vF 12 11 1 1,vL 13 11 12,vC 14 11 88 13,vU 15 11 14,oP 16 11 15,oM 17 16,vF 18 17 2 1,vL 19 17 18,vC 20 17 89 19,vU 21 17 20,oP 22 17 21,oM 23 22,vF 24 23 3 1,vL 25 23 24,vC 26 23 90 25,vU 27 23 26,oP 28 23 27] (oG 28 (oR 2 kf))) (.seq (rg [oV 3 (ki 0)] (oH 0 (.seq (rg [oM 29 3,oF 30 2 1,oL 31 30,oN 32 31,oB 33 .lss 29 32] (oJ 33 0)) (.seq (.blk 1 (dw [oF 36 0 1,oL 37 36,oF 38 2 1,oL 39 38,oM 40 3,oI 41 6 39 40,oF 42 4 41,oW 43 2 42] [oD 44 91 37 43,oU 45 44] (oG 45 (oR 2 kf)))) (.reg [oM 34 3,oZ 35 34 1,oM 3 35]))))) (.seq (rg [oV 4 (ki 0)] (oH 2 (.seq (rg [oM 46 4,oF 47 3 1,oL 48 47,oN 49 48,oB 50 .lss 46 49] (oJ 50 2)) (.seq (.blk 3 (rg [oF 53 3 1,oL 54 53,oM 55 4,oI 56 8 54 55,oW 57 8 56,o 5 (.new [s0,z0,z0,z0,z0,z0,z0,(.bool false)]),oS 8 5 57] (.seq (rg [oF 58 0 1,oL 59 58,oF 60 1 5,oW 61 2 60,oD 62 91 59 61,oU 63 62] (oG 63 (oR 2 kf))) (.seq (rg [oF 64 4 5,oW 65 2 64,o 66 (.build [z0,z0] []),o 67 (.eqs false [.i .i64,.i .i64] (.t 65) (.t 66))] (oG 67 (.ext 3))) (rg [oW 68 4 1,oF 69 4 5,oW 70 2 69,oD 71 92 68 70,oM 6 71] (dw [oM 72 6,oE 73 .lss 72 0,oM 74 73,vF 75 74 3 1,vL 76 74 75,vM 77 74 6,vI 78 74 8 76 77,vF 79 74 0 78,vL 80 74 79,vF 81 74 0 5,vL 82 74 81,vB 83 74 .neq 80 82,oP 84 74 83,oM 85 84,vF 86 85 3 1,vL 87 85 86,vM 88 85 6,vI 89 85 8 87 88,vF 90 85 3 89,vL 91 85 90,vF 92 85 3 5,vL 93 85 92] [vB 94 85 .geq 91 93,oP 95 85 94] (oG 95 (oR 2 kf)))))))) (.reg [oM 51 4,oZ 52 51 1,oM 4 52]))))) (oR 2 kt)))))⟩
theorem A8p:A2 Tryz.prog 48=some Zc:=by kernel_rfl
def Ze:Fn1:=⟨30,[.t 2],(rg [oX 1 0,oV 2 kf] (rg [oF 3 0 1,oL 4 3,oC 5 71 4,oM 6 5,jF 7 6 1 1,jL 8 6 7,jC 9 6 72 8,oQ 10 6 9,oM 11 10,jF 12 11 2 1,jL 13 11 12,jF 14 11 0 1,jL 15 11 14,jD 16 11 73 13 15,oQ 17 11 16,oM 18 17,jF 19 18 3 1,jL 20 18 19,jF 21 18 0 1,jL 22 18 21,jD 23 18 74 20 22,oQ 24 18 23,oM 25 24,jF 26 25 3 1,jL 27 25 26,jC 28 25 75 27,oQ 29 25 28,oM 2 29] .ret))⟩
theorem A8q:A2 Tryz.prog 38=some Ze:=by kernel_rfl
theorem Abn (U:St) (a b c v:GV) (l:List Cell) (d:Dot) (h:RS Al.kd U v l) (hl:l.length<=1099511627776):Ret Tryz.prog 92 [.agg [a,b,c,v],.agg [gi d.rep,gi d.seq]] U (gi (I8 l d)) U:=by
 refine Ac Abk (Z0z rfl) trivial ?_
 simp +contextual (disch:=omega) only[go_sem,A37]
 refine Ay l.length 5 (fun i env N=>env 2= .ptr U.length 0/\env 3= .ptr (U++[some (Blk.row 1 [a,b,c,v])]).length 0/\(∀ j (hj:j<i) (hl:j<l.length),l[j].dot≠d)/\U++[some (.row 1 [a,b,c,v])]++[some (.row 1 [gi d.rep,gi d.seq])] <+: N) rfl ⟨rfl,rfl,fun j hj=>by omega,Zac _⟩ ?_ ?_
 ·rintro i env N hi e5 c0 ⟨e2,e3,ha,hp⟩
  have h1:=h.pre (A4g hp)
  by_cases hd:l[i].dot=d
  ·have hq:I8 l d=i:=by rw[I8,Abg hi (fun j hj=>ha j hj (by omega)) hd]
   simp +contextual (disch:=omega) only[go_sem,c0,e2,e3,e5,A4 (Aaa hp),A4 (Ld hp),h.len,A6 h1 hi,hp,decide_eq_true hd,hq,A4g hp]
  ·simp +contextual (disch:=omega) only[go_sem,c0,e2,e3,e5,A4 (Aaa hp),A4 (Ld hp),h.len,A6 h1 hi,hp,decide_eq_false hd]
   intro j hj hl
   rcases Za5 j i with h2|h2
   ·exact ha j h2 hl
   ·have:j=i:=by omega
    subst this;exact hd
 ·rintro env N e5 c0 ⟨e2,e3,ha,hp⟩
  have hq:I8 l d= -1:=by rw[I8,Abh (fun j hj=>ha j hj hj)]
  simp +contextual (disch:=omega) only[go_sem,c0,e2,e3,e5,A4 (Aaa hp),h.len,hq,A4g hp]
theorem Ho (U:St) (v:GV) (l:List Cell) (h:RS Al.kd U v l) (hl:l.length<=1099511627776) (f:Nat) (cs:List (Nat×Nat)) (p:Cell->Bool) (hf:∀(N:St) (x:Cell),U <+: N->Ret Tryz.prog f (.agg (Al.enc x)::cs.map fun c=>.ptr c.1 c.2) N (.bool (p x)) N):
  Ret Tryz.prog 198 [v,.fn f cs] U (gi (match l.findIdx? p with|some k=>(k:Int)|none=> -1)) U:=by
 refine Ac D5 (Z0z rfl) trivial ?_
 simp +contextual (disch:=omega) only[go_sem,Bo,h.len]
 refine Ay l.length 8 (fun i env N=>env 0=v/\env 1= .fn f cs/\env 6=v/\env 7=gi l.length/\(∀ j (hj:j<i) (hl:j<l.length),p l[j]=false)/\U <+: N) rfl ⟨rfl,rfl,rfl,rfl,fun j hj=>by omega,Zac _⟩ ?_ ?_
 ·rintro i env N hi e8 c0 ⟨e0,e1,e6,e7,ha,hp⟩
  simp +contextual (disch:=omega) only[go_sem,c0,e0,e1,e6,e7,e8,A6 (h.pre hp) hi,hp]
  have hpx:=hf N l[i] hp
  refine Ah hpx (fun h1=> ?_) (fun h1=> ?_)
  ·have hq:l.findIdx? p=some i:=Zas.2 ⟨hi,h1,fun j hj=>by simp[ha j hj (by omega)]⟩
   simp +contextual (disch:=omega) only[go_sem,c0,e0,e1,e6,e7,e8,hq,hp]
  ·simp +contextual (disch:=omega) only[go_sem,c0,e0,e1,e6,e7,e8,hp]
   intro j hj hl
   rcases Za5 j i with h2|h2
   ·exact ha j h2 hl
   ·have:j=i:=by omega
    subst this;exact h1
 ·rintro env N e8 c0 ⟨e0,e1,e6,e7,ha,hp⟩
  have hq:l.findIdx? p=none:=by
   rw[Zau]
   intro x hx
   obtain⟨j,hj,rfl⟩:=Zar hx
   exact ha j hj hj
  simp +contextual (disch:=omega) only[go_sem,c0,e0,e1,e6,e7,e8,hq,hp]
theorem Zf (N:St) (x:Cell) (g:Nat) (d:Dot) (hg:rdB N g=some [gi d.rep,gi d.seq]):Ret Tryz.prog 199 [.agg (Al.enc x),.ptr g 0] N (.bool (decide (x.dot=d))) N:=by
 refine Ac A1b (Z0z rfl) trivial ?_
 simp +contextual (disch:=omega) only[go_sem,On,Acw,A4 (Afu hg _)]
theorem Abo (U:St) (a b c v:GV) (l:List Cell) (d:Dot) (h:RS Al.kd U v l) (hl:l.length<=1099511627776):Ret Tryz.prog 133 [.agg [a,b,c,v],.agg [gi d.rep,gi d.seq]] U (gi (I8 l d)) U:=by
 refine Ac Abl (Z0z rfl) trivial ?_
 simp +contextual (disch:=omega) only[go_sem,A38]
 have R:=Ho (U++[some (.row 1 [a,b,c,v])]++[some (.row 1 [gi d.rep,gi d.seq])]) v l (h.pre pre2) hl 199 [((U++[some (Blk.row 1 [a,b,c,v])]).length,0)] (fun c=>decide (c.dot=d)) (fun N x hp=>Zf N x _ d (Ld hp))
 refine A5 R ?_
 simp +contextual (disch:=omega) only[go_sem]
 rfl
theorem A8r (U:St) (v:GV) (l:List Cell) (h:RS Al.kd U v l) (hl:l.length<=1099511627776) (hu:l.Pairwise fun a b=>Cp a.dot b.dot=true):Ret Tryz.prog 75 [v] U (.bool (A34 l)) U:=by
 refine Ac Abm (Z0z rfl) trivial ?_
 simp +contextual (disch:=omega) only[go_sem,A3a,h.len]
 have H0:=(Hp.refl U).newMap
 refine Ay l.length 13 (fun i env N=>env 0=v/\env 3= .mp U.length/\env 11=v/\env 12=gi l.length/\Hp U N [mpt (.mp U.length) (plc 0 (l.take i))]) rfl ⟨rfl,rfl,rfl,rfl,H0⟩ ?_ ?_
 ·rintro i env N hi e13 c0 ⟨e0,e3,e11,e12,H⟩
  obtain⟨N',e,H2⟩:=(H.grow (pre1 N (some (Blk.row 1 [.str l[i].obj,gi l[i].dot.rep,gi l[i].dot.seq,gi l[i].time,gi l[i].ref.rep,gi l[i].ref.seq,gi l[i].val,.bool l[i].gone])))).mup 0 rfl l[i].dot i (Ajt hu hi)
  simp +contextual (disch:=omega) only[go_sem,c0,e0,e3,e11,e12,e13,A6 (h.pre H.sub) hi,fun r=>A6 (h.pre (A0 H.sub r)) hi,e]
  rw[Ahn hi]
  exact H2
 ·rintro env N e13 c0 ⟨e0,e3,e11,e12,H⟩
  rw[Zaj] at H
  simp +contextual (disch:=omega) only[go_sem,c0,e0,e3,e11,e12,e13,(h.pre H.sub).len]
  refine Ay l.length 25 (fun i env N=>env 0=v/\env 3= .mp U.length/\env 23=v/\env 24=gi l.length/\(l.take i).all (ref1 l)=true/\Hp U N [mpt (.mp U.length) (plc 0 l)]) rfl ⟨e0,e3,rfl,rfl,rfl,H⟩ ?_ ?_
  ·rintro i env N hi e25 c0 ⟨e0,e3,e23,e24,ha,H⟩
   have hf:=fun h=>Cu (p:=ref1 l) hi h
   have ht:=Cb hi ha
   have G:=H.grow (pre1 N (some (Blk.row 1 [.str l[i].obj,gi l[i].dot.rep,gi l[i].dot.seq,gi l[i].time,gi l[i].ref.rep,gi l[i].ref.seq,gi l[i].val,.bool l[i].gone])))
   have hlk:=G.mlk 0 rfl l[i].ref
   have hdl:=Z3 l[i].ref 0 l
   by_cases hr:l[i].ref=⟨0,0⟩
   ·simp +contextual (disch:=omega) only[go_sem,c0,e0,e3,e23,e24,e25,A6 (h.pre H.sub) hi,decide_eq_true hr]
    exact⟨ht (by simp[ref1,hr]),G⟩
   ·cases hx:F8 l l[i].ref with
    |none=>
     rw[hx] at hdl
     have hb:ref1 l l[i]=false:=by simp[ref1,hr,hx]
     rw[hdl] at hlk
     simp +contextual (disch:=omega) only[go_sem,c0,e0,e3,e23,e24,e25,A6 (h.pre H.sub) hi,decide_eq_false hr,hlk,Option.map_none,Option.isSome_none,Option.getD_none]
     exact⟨by simp[A34,hf hb],G.sub⟩
    |some k=>
     rw[hx] at hdl
     obtain⟨hkl,_⟩:=E1 hx
     have hb:ref1 l l[i]=(decide (l[k].obj=l[i].obj)&&decide (l[k].time<l[i].time)):=by simp[ref1,hr,hx,C4 hkl]
     rw[hdl] at hlk
     simp +contextual (disch:=omega) only[go_sem,c0,e0,e3,e23,e24,e25,A6 (h.pre H.sub) hi,decide_eq_false hr,hlk,Zb5,Option.isSome_some,Zb1,Nat.zero_add,A6 (h.pre H.sub) hkl,fun r=>A6 (h.pre (A0 H.sub r)) hkl]
     refine⟨fun q1=>⟨?_,G.sub⟩,fun q1=>⟨fun q2=>⟨?_,G.sub⟩,fun q2=>⟨ht ?_,G⟩⟩⟩
     ·simp only[Zbw] at q1
      rw[q1] at hb
      simp[A34,hf (by rw[hb];rfl)]
     ·rw[decide_eq_false (show ¬ l[k].time<l[i].time by have:=of_decide_eq_true q2;omega),Zb7] at hb
      simp[A34,hf hb]
     ·simp only[Zbr] at q1
      rw[hb,q1,decide_eq_true (show l[k].time<l[i].time by have:=of_decide_eq_false q2;omega)];rfl
  ·rintro env N e25 c0 ⟨e0,e3,e23,e24,ha,H⟩
   rw[Zaj] at ha
   simp +contextual (disch:=omega) only[go_sem,c0,e0,e3,e23,e24,e25,H.sub]
   exact ha.symm
theorem Aq {s:State} (h:A7 s<=1099511627776):s.know.length<=1099511627776/\s.tallies.length<=1099511627776/\s.lives.length<=1099511627776/\s.cells.length<=1099511627776/\
  (∀ x∈s.tallies,x.obj.size<=1099511627776)/\(∀ x∈s.lives,x.obj.size<=1099511627776/\x.key.size<=1099511627776)/\∀ x∈s.cells,x.obj.size<=1099511627776:=by
 unfold A7 at h
 refine⟨by omega,by omega,by omega,by omega,fun x hx=> ?_,fun x hx=> ?_,fun x hx=> ?_⟩
 ·have h1:=B8 (f:=Av) hx
  unfold Av at h1;unfold Av at h;omega
 ·have h1:=B8 (f:=Bl) hx
  unfold Bl at h1;unfold Bl at h;omega
 ·have h1:=B8 (f:=Cj) hx
  unfold Cj at h1;unfold Cj at h;omega
theorem Oo (U:St) (cs:List GV) (s:State) (hR:Ab.R U s cs) (hl:A7 s<=1099511627776):Ret Tryz.prog 38 [.agg cs] U (.bool (Cf s)) U:=by
 obtain⟨a,b,c,v,rfl,hk,ht,hv,hc⟩:=hR
 obtain⟨l1,l2,l3,l4,z1,z2,z3⟩:=Aq hl
 have p1:=pre1 U (some (Blk.row 1 [a,b,c,v]))
 refine Ac A8q (Z0z rfl) trivial ?_
 simp +contextual (disch:=omega) only[go_sem,Ze]
 refine Ah (Rw _ a s.know (hk.pre p1) l1) (fun h1=> ?_) (fun h1=> ?_)
 rotate_left
 ·simp +contextual (disch:=omega) only[go_sem]
  simp[Cf,h1]
 simp +contextual (disch:=omega) only[go_sem]
 refine Ah (Za _ b s.tallies (ht.pre p1) l2 z1) (fun h2=> ?_) (fun h2=> ?_)
 rotate_left
 ·simp +contextual (disch:=omega) only[go_sem]
  simp[Cf,h2]
 simp +contextual (disch:=omega) only[go_sem]
 refine Ah (A5f _ c s.lives (hv.pre p1) a s.know (hk.pre p1) l1 l3 z2) (fun h3=> ?_) (fun h3=> ?_)
 rotate_left
 ·simp +contextual (disch:=omega) only[go_sem]
  simp[Cf,h3]
 simp +contextual (disch:=omega) only[go_sem]
 refine Ah (A5g _ v s.cells (hc.pre p1) a s.know (hk.pre p1) l1 l4 z3) (fun h4=> ?_) (fun h4=> ?_)
 rotate_left
 ·simp +contextual (disch:=omega) only[go_sem]
  simp[Cf,h4]
 simp +contextual (disch:=omega) only[go_sem]
 refine A5 (A8r _ v s.cells (hc.pre p1) l4 (Abf h4)) ?_
 simp +contextual (disch:=omega) only[go_sem]
 simp[Cf,h1,h2,h3,h4]
theorem Aju:decide ((-1:Int)<0)=true:=rfl
theorem Oq (U:St) (cs:List GV) (s:State) (hR:Ab.R U s cs) (hl:A7 s<=1099511627776):Ret Tryz.prog 48 [.agg cs] U (.bool (Cf s)) U:=by
 obtain⟨a,b,c,v,rfl,hk,ht,hv,hc⟩:=hR
 obtain⟨l1,l2,l3,l4,z1,z2,z3⟩:=Aq hl
 have p1:=pre1 U (some (Blk.row 1 [a,b,c,v]))
 rw[<- Abe]
 refine Ac A8p (Z0z rfl) trivial ?_
 simp +contextual (disch:=omega) only[go_sem,Zc]
 refine Ah (Rv _ a s.know (hk.pre p1) l1) (fun h1=> ?_) (fun h1=> ?_)
 rotate_left
 ·simp +contextual (disch:=omega) only[go_sem]
  simp[Dv,h1]
 simp +contextual (disch:=omega) only[go_sem]
 refine Ah (Su _ b s.tallies (ht.pre p1) l2 z1) (fun h2=> ?_) (fun h2=> ?_)
 rotate_left
 ·simp +contextual (disch:=omega) only[go_sem]
  simp[Dv,h2]
 simp +contextual (disch:=omega) only[go_sem]
 refine Ah (A19 _ c s.lives (hv.pre p1) l3 z2) (fun h3=> ?_) (fun h3=> ?_)
 rotate_left
 ·simp +contextual (disch:=omega) only[go_sem]
  simp[Dv,h3]
 simp +contextual (disch:=omega) only[go_sem]
 refine Ah (A1a _ v s.cells (hc.pre p1) l4 z3) (fun h4=> ?_) (fun h4=> ?_)
 rotate_left
 ·simp +contextual (disch:=omega) only[go_sem]
  simp[Dv,h4]
 simp +contextual (disch:=omega) only[go_sem]
 refine Ay s.lives.length 3 (fun i env N=>env 1= .ptr U.length 0/\(s.lives.take i).all (livK s.know)=true/\U++[some (.row 1 [a,b,c,v])] <+: N) rfl ⟨rfl,rfl,Zac _⟩ ?_ ?_
 ·rintro i env N hi e3 c0 ⟨e1,ha,hp⟩
  have hf:=fun h=>Cu (p:=livK s.know) hi h
  have hq:=Cb hi ha
  simp +contextual (disch:=omega) only[go_sem,c0,e1,e3,A4 (Ld hp),hv.len,A3 (hv.pre (Cm hp)) hi]
  refine Ah (Xx _ a s.know s.lives[i].dot (hk.pre (Cm hp)) l1) (fun h5=> ?_) (fun h5=> ?_)
  ·simp +contextual (disch:=omega) only[go_sem,e1,e3,hp]
   exact hq h5
  ·simp +contextual (disch:=omega) only[go_sem,Cm hp]
   simp[Dv,hf h5]
 ·rintro env N e3 c0 ⟨e1,ha5,hp⟩
  rw[Zaj] at ha5
  simp +contextual (disch:=omega) only[go_sem,c0,e1,e3,A4 (Ld hp),hv.len]
  refine Ay s.cells.length 4 (fun i env N=>env 1= .ptr U.length 0/\(s.cells.take i).all (celK s.cells s.know)=true/\U++[some (.row 1 [a,b,c,v])] <+: N) rfl ⟨e1,rfl,hp⟩ ?_ ?_
  ·rintro i env N hi e4 c0 ⟨e1,ha,hp⟩
   have hf:=fun h=>Cu (p:=celK s.cells s.know) hi h
   have hq:=Cb hi ha
   have C0:=A6 (hc.pre (Cm hp)) hi
   have hr:=Ld hp
   have hr2:rdB (N++[some (Blk.row 1 [.str s.cells[i].obj,gi s.cells[i].dot.rep,gi s.cells[i].dot.seq,gi s.cells[i].time,gi s.cells[i].ref.rep,gi s.cells[i].ref.seq,gi s.cells[i].val,.bool s.cells[i].gone])]) U.length=some [a,b,c,v]:=Afu hr _
   simp +contextual (disch:=omega) only[go_sem,c0,e1,e4,A4 hr,A4 hr2,hc.len,C0]
   refine Ah (Xx _ a s.know s.cells[i].dot (hk.pre (A0 (Cm hp) _)) l1) (fun h6=> ?_) (fun h6=> ?_)
   rotate_left
   ·simp +contextual (disch:=omega) only[go_sem,Cm hp,A0 (Cm hp) _]
    simp[Dv,hf (by simp[celK,h6])]
   by_cases hz:s.cells[i].ref=⟨0,0⟩
   ·simp +contextual (disch:=omega) only[go_sem,e1,e4,decide_eq_true hz,A0 hp _]
    exact hq (by simp[celK,ref1,h6,hz])
   ·simp +contextual (disch:=omega) only[go_sem,e1,e4,decide_eq_false hz,A4 hr2]
    refine A5 (Abn _ a b c v s.cells s.cells[i].ref (hc.pre (A0 (Cm hp) _)) l4) ?_
    cases hx:F8 s.cells s.cells[i].ref with
    |none=>
     have hb:celK s.cells s.know s.cells[i]=false:=by simp[celK,ref1,hz,hx]
     have hn:I8 s.cells s.cells[i].ref= -1:=by simp[I8,hx]
     simp +contextual (disch:=omega) only[go_sem,hn,Aju,Cm hp,A0 (Cm hp) _]
     simp[Dv,hf hb]
    |some k=>
     obtain⟨hkl,_⟩:=E1 hx
     have hb:celK s.cells s.know s.cells[i]=(decide (s.cells[k].obj=s.cells[i].obj)&&decide (s.cells[k].time<s.cells[i].time)):=by simp[celK,h6,ref1,hz,hx,C4 hkl]
     have hn:I8 s.cells s.cells[i].ref=k:=by simp[I8,hx]
     have hd:decide ((k:Int)<0)=false:=by simp
     simp +contextual (disch:=omega) only[go_sem,hn,hd,e1,e4,A4 hr2,A6 (hc.pre (Cm hp)) hkl,fun r=>A6 (hc.pre (A0 (Cm hp) r)) hkl,Cm hp,A0 (Cm hp) _,A0 hp _]
     refine⟨fun q1=> ?_,fun q1=>⟨fun q2=> ?_,fun q2=>hq ?_⟩⟩
     ·simp only[Zbw] at q1
      rw[q1] at hb
      simp[Dv,hf (by rw[hb];rfl)]
     ·rw[decide_eq_false (show ¬ s.cells[k].time<s.cells[i].time by have:=of_decide_eq_true q2;omega),Zb7] at hb
      simp[Dv,hf hb]
     ·simp only[Zbr] at q1
      rw[hb,q1,decide_eq_true (show s.cells[k].time<s.cells[i].time by have:=of_decide_eq_false q2;omega)];rfl
  ·rintro env N e4 c0 ⟨e1,ha,hp⟩
   rw[Zaj] at ha
   simp +contextual (disch:=omega) only[go_sem,c0,e1,e4,A4 (Ld hp),hc.len,Cm hp]
   simp[Dv,h1,h2,h3,h4,ha5,ha]
theorem A8s (U:St) (cs:List GV) (s:State) (hR:Ab.R U s cs) (d:Dot) (hl:A7 s<=1099511627776):Ret Tryz.prog 133 [.agg cs,.agg [gi d.rep,gi d.seq]] U (gi (I8 s.cells d)) U:=by
 obtain⟨a,b,c,v,rfl,_,_,_,h⟩:=hR
 exact Abo U a b c v s.cells d h (Aq hl).2.2.2.1
def d0:Dot:=⟨0,0⟩
section
variable {Y:Type}
def insB (lt:Y->Y->Bool) (x:Y):List Y->List Y
 |[]=>[x]
 |k::r=>if lt x k then x::k::r else k::insB lt x r
def Bh (lt:Y->Y->Bool) (l:List Y):List Y:=l.foldl (fun acc x=>insB lt x acc) []
theorem Zg {lt:Y->Y->Bool} {l:List Y} {x:Y}:Bh lt (l++[x])=insB lt x (Bh lt l):=by simp[Bh]
theorem Ib (lt:Y->Y->Bool) (x:Y):∀ l:List Y,(insB lt x l).Perm (x::l)
 |[]=>.refl _
 |k::r=>by
  unfold insB
  split
  ·exact .refl _
  ·exact((Ib lt x r).cons k).trans (.swap x k r)
theorem Bu (lt:Y->Y->Bool) (l:List Y):(Bh lt l).Perm l:=by
 have key:∀(l acc:List Y),(l.foldl (fun acc x=>insB lt x acc) acc).Perm (acc++l):=by
  intro l
  induction l with
  |nil=>intro acc;simp
  |cons x l ih=>
   intro acc
   simp only[Za9]
   refine(ih _).trans ?_
   refine((Ib lt x acc).append_right l).trans ?_
   rw[Zb0]
   exact List.perm_middle.symm
 have:=key l []
 unfold Bh
 simpa using this
theorem Zh (lt:Y->Y->Bool) (x:Y) (l:List Y):(insB lt x l).length=l.length+1:=(Ib lt x l).length_eq
theorem De (lt:Y->Y->Bool) (l:List Y):(Bh lt l).length=l.length:=(Bu lt l).length_eq
abbrev Up (lt:Y->Y->Bool) (l:List Y):Prop:=l.Pairwise fun a b=>lt b a=false
open Go.Sort (SWO) in
theorem SWO.asym {lt:Y->Y->Bool} (h:SWO lt) {x y:Y} (hxy:lt x y=true):lt y x=false:=by
 cases e:lt y x with
 |false=>rfl
 |true=>have:=h.trans _ _ _ hxy e;rw[h.irrefl] at this;cases this
theorem Agb {lt:Y->Y->Bool} (h:Go.Sort.SWO lt) {x:Y}:∀ {l:List Y},Up lt l->Up lt (insB lt x l)
 |[],_=>by simp[insB]
 |k::r,hl=>by
  obtain⟨h1,h2⟩:=Zae.1 hl
  unfold insB
  split
  ·rename_i hx
   refine Zae.2 ⟨fun y hy=> ?_,hl⟩
   rcases Zag.1 hy with rfl|hy
   ·exact SWO.asym h hx
   ·have:=h1 y hy
    cases e:lt y x with
    |false=>rfl
    |true=>rw[h.trans _ _ _ e hx] at this;cases this
  ·rename_i hx
   refine Zae.2 ⟨fun y hy=> ?_,Agb h h2⟩
   rcases Zag.1 ((Ib lt x r).mem_iff.1 hy) with rfl|hy
   ·simpa using hx
   ·exact h1 y hy
theorem Jw {lt:Y->Y->Bool} (h:Go.Sort.SWO lt) (l:List Y):Up lt (Bh lt l):=by
 have key:∀(l acc:List Y),Up lt acc->Up lt (l.foldl (fun acc x=>insB lt x acc) acc):=by
  intro l
  induction l with
  |nil=>intro acc h;exact h
  |cons x l ih=>intro acc ha;exact ih _ (Agb h ha)
 exact key l [] .nil
theorem Zi {lt:Y->Y->Bool}:∀ {l m:List Y},(∀ x∈l,∀ y∈l,lt x y=false->lt y x=false->x=y)->l.Perm m->Up lt l->Up lt m->l=m
 |[],m,_,hp,_,_=>(List.nil_perm.1 hp).symm
 |a::l,[],_,hp,_,_=>by have:=hp.length_eq;simp at this
 |a::l,b::m,ht,hp,h1,h2=>by
  obtain⟨h3,h4⟩:=Zae.1 h1
  obtain⟨h5,h6⟩:=Zae.1 h2
  have hab:a=b:=by
   have ha:a∈b::m:=hp.mem_iff.1 Zaf
   have hb:b∈a::l:=hp.mem_iff.2 Zaf
   rcases Zag.1 ha with e|ha
   ·exact e
   ·rcases Zag.1 hb with e|hb
    ·exact e.symm
    ·exact ht a Zaf b (Zah _ hb) (h5 a ha) (h3 b hb)
  subst hab
  rw[Zi (fun x hx y hy=>ht x (Zah _ hx) y (Zah _ hy)) hp.cons_inv h4 h6]
theorem Or {lt:Y->Y->Bool} (hi:∀ x,lt x x=false) (ha:∀ x y,lt x y=true->lt y x=true->False):∀ {l m:List Y},l.Pairwise (fun a b=>lt a b=true)->m.Pairwise (fun a b=>lt a b=true)->(∀ x,x∈l↔x∈m)->l=m
 |[],[],_,_,_=>rfl
 |[],b::m,_,_,h=>absurd ((h b).2 Zaf) (by simp)
 |a::l,[],_,_,h=>absurd ((h a).1 Zaf) (by simp)
 |a::l,b::m,h1,h2,h=>by
  obtain⟨h3,h4⟩:=Zae.1 h1
  obtain⟨h5,h6⟩:=Zae.1 h2
  have hab:a=b:=by
   rcases Zag.1 ((h a).1 Zaf) with e|hm
   ·exact e
   ·rcases Zag.1 ((h b).2 Zaf) with e|hl
    ·exact e.symm
    ·exact(ha _ _ (h3 b hl) (h5 a hm)).elim
  subst hab
  rw[Or hi ha h4 h6 fun x=> ?_]
  constructor
  ·intro hx
   rcases Zag.1 ((h x).1 (Zah _ hx)) with e|hm
   ·subst e;have:=h3 x hx;rw[hi] at this;cases this
   ·exact hm
  ·intro hx
   rcases Zag.1 ((h x).2 (Zah _ hx)) with e|hm
   ·subst e;have:=h5 x hx;rw[hi] at this;cases this
   ·exact hm
def putU [DecidableEq Y] (lt:Y->Y->Bool) (x:Y) (l:List Y):List Y:=if x∈l then l else insB lt x l
def A9 [DecidableEq Y] (lt:Y->Y->Bool) (l:List Y):List Y:=l.foldl (fun acc x=>putU lt x acc) []
theorem J0 [DecidableEq Y] {lt:Y->Y->Bool} {l:List Y} {x:Y}:A9 lt (l++[x])=putU lt x (A9 lt l):=by simp[A9]
theorem Aho [DecidableEq Y] {lt:Y->Y->Bool} {x y:Y} {l:List Y}:y∈putU lt x l↔y=x∨y∈l:=by
 unfold putU
 split
 ·rename_i h
  exact⟨.inr,fun h'=>by rcases h' with rfl|h'<;>assumption⟩
 ·rw[(Ib lt x l).mem_iff,Zag]
theorem Zj {lt:Y->Y->Bool} (ht:∀ x y z,lt x y=true->lt y z=true->lt x z=true) (htri:∀ x y,lt x y=false->lt y x=false->x=y) {x:Y}:∀ {l:List Y},x∉l->l.Pairwise (fun a b=>lt a b=true)->(insB lt x l).Pairwise (fun a b=>lt a b=true)
 |[],_,_=>by simp[insB]
 |k::r,hx,hl=>by
  obtain⟨h1,h2⟩:=Zae.1 hl
  unfold insB
  split
  ·rename_i hk
   refine Zae.2 ⟨fun y hy=> ?_,hl⟩
   rcases Zag.1 hy with rfl|hy
   ·exact hk
   ·exact ht _ _ _ hk (h1 y hy)
  ·rename_i hk
   have hk':lt x k=false:=by simpa using hk
   have hkx:lt k x=true:=by
    cases e:lt k x with
    |true=>rfl
    |false=>exact absurd (htri _ _ hk' e) fun e=>hx (by rw[e];exact Zaf)
   refine Zae.2 ⟨fun y hy=> ?_,Zj ht htri (fun h=>hx (Zah _ h)) h2⟩
   rcases Zag.1 ((Ib lt x r).mem_iff.1 hy) with rfl|hy
   ·exact hkx
   ·exact h1 y hy
theorem Abp [DecidableEq Y] {lt:Y->Y->Bool} (ht:∀ x y z,lt x y=true->lt y z=true->lt x z=true) (htri:∀ x y,lt x y=false->lt y x=false->x=y) {x:Y} {l:List Y} (hl:l.Pairwise (fun a b=>lt a b=true)):(putU lt x l).Pairwise (fun a b=>lt a b=true):=by
 unfold putU
 split
 ·exact hl
 ·rename_i h;exact Zj ht htri h hl
theorem M3 [DecidableEq Y] {lt:Y->Y->Bool} (ht:∀ x y z,lt x y=true->lt y z=true->lt x z=true) (htri:∀ x y,lt x y=false->lt y x=false->x=y) (l:List Y):(A9 lt l).Pairwise (fun a b=>lt a b=true)/\∀ y,y∈A9 lt l↔y∈l:=by
 have key:∀(l acc:List Y),acc.Pairwise (fun a b=>lt a b=true)->(l.foldl (fun acc x=>putU lt x acc) acc).Pairwise (fun a b=>lt a b=true)/\∀ y,y∈l.foldl (fun acc x=>putU lt x acc) acc↔y∈acc∨y∈l:=by
  intro l
  induction l with
  |nil=>intro acc h;exact⟨h,by simp⟩
  |cons x l ih=>
   intro acc h
   obtain⟨h1,h2⟩:=ih (putU lt x acc) (Abp ht htri h)
   refine⟨h1,fun y=> ?_⟩
   rw[Za9,h2,Aho,Zag]
   constructor
   ·rintro((h|h)|h)
    ·exact .inr (.inl h)
    ·exact .inl h
    ·exact .inr (.inr h)
   ·rintro(h|h|h)
    ·exact .inl (.inr h)
    ·exact .inl (.inl h)
    ·exact .inr h
 have:=key l [] .nil
 exact⟨this.1,fun y=>by rw[A9,this.2];simp⟩
theorem Abq [DecidableEq Y] (lt:Y->Y->Bool) (x:Y) (l:List Y):(putU lt x l).length<=l.length+1:=by
 unfold putU
 split
 ·omega
 ·rw[Zh];exact Zax _
theorem Ch [DecidableEq Y] (lt:Y->Y->Bool) (l:List Y):(A9 lt l).length<=l.length:=by
 have key:∀(l acc:List Y),(l.foldl (fun acc x=>putU lt x acc) acc).length<=acc.length+l.length:=by
  intro l
  induction l with
  |nil=>intro acc;simp
  |cons x l ih=>
   intro acc
   have h1:=ih (putU lt x acc)
   have h2:=Abq lt x acc
   simp only[Za9,Zay];omega
 have:=key l []
 unfold A9
 simpa using this
def B5 [DecidableEq Y]:List Y->List Y
 |[]=>[]
 |[x]=>[x]
 |x::y::r=>if x=y then B5 (y::r) else x::B5 (y::r)
theorem J1 [DecidableEq Y]:∀ {l:List Y} {z:Y},z∈B5 l↔z∈l
 |[],z=>by simp[B5]
 |[x],z=>by simp[B5]
 |x::y::r,z=>by
  unfold B5
  split
  ·rename_i h;subst h
   rw[J1];simp
  ·rw[Zag,J1];simp
theorem Hq [DecidableEq Y] {lt:Y->Y->Bool} (h:Go.Sort.SWO lt) (htri:∀ x y,lt x y=false->lt y x=false->x=y):∀ {l:List Y},Up lt l->(B5 l).Pairwise (fun a b=>lt a b=true)
 |[],_=>.nil
 |[x],_=>by simp[B5]
 |x::y::r,hl=>by
  obtain⟨h1,h2⟩:=Zae.1 hl
  unfold B5
  split
  ·exact Hq h htri h2
  ·rename_i hne
   refine Zae.2 ⟨fun z hz=> ?_,Hq h htri h2⟩
   have hz:=J1.1 hz
   have hyx:lt x y=true:=by
    cases e:lt x y with
    |true=>rfl
    |false=>exact absurd (htri _ _ e (h1 y Zaf)) hne
   rcases Zag.1 hz with rfl|hz
   ·exact hyx
   ·have h5:=(Zae.1 h2).1 z hz
    cases e:lt x z with
    |true=>rfl
    |false=>
     have:=h.ntrans _ _ _ e h5
     rw[hyx] at this;cases this
theorem Lt [DecidableEq Y] {lt:Y->Y->Bool} (h:Go.Sort.SWO lt) (htri:∀ x y,lt x y=false->lt y x=false->x=y) {l m:List Y} (hp:m.Perm l) (hu:Up lt m):B5 m=A9 lt l:=by
 obtain⟨h1,h2⟩:=M3 h.trans htri l
 refine Or h.irrefl (fun x y h3 h4=>by rw[SWO.asym h h3] at h4;cases h4) (Hq h htri hu) h1 fun x=> ?_
 rw[J1,h2,hp.mem_iff]
theorem Zk {lt:Y->Y->Bool} (h:Go.Sort.SWO lt) {l m:List Y} (htri:∀ x∈l,∀ y∈l,lt x y=false->lt y x=false->x=y) (hp:m.Perm l) (hu:Up lt m):m=Bh lt l:=Zi (fun x hx y hy=>htri x (hp.mem_iff.1 hx) y (hp.mem_iff.1 hy)) (hp.trans (Bu lt l).symm) hu (Jw h l)
end
def ltI (a b:Int):Bool:=decide (a<b)
theorem Ajv:Go.Sort.SWO ltI:=⟨fun x=>by simp[ltI],fun x y z h1 h2=>by simp only[ltI,decide_eq_true_eq] at *;omega,fun x y z h1 h2=>by simp only[ltI,decide_eq_false_iff_not] at *;omega⟩
theorem Ajw (x y:Int) (h1:ltI x y=false) (h2:ltI y x=false):x=y:=by simp only[ltI,decide_eq_false_iff_not] at *;omega
theorem Kw:Go.Sort.SWO txLt:=⟨Gz,fun x y z=>Ge,fun x y z h1 h2=>by
 cases e:txLt x z with
 |false=>rfl
 |true=>
  by_cases hxy:x=y
  ·subst hxy;rw[h2] at e;cases e
  ·have h3:txLt y x=true:=by
    cases e2:txLt y x with
    |true=>rfl
    |false=>exact absurd (Ku h1 e2) hxy
   rw[Ge h3 e] at h2;cases h2⟩
theorem Ot (x y:ByteArray):txLt x y=false->txLt y x=false->x=y:=Ku
def E2 (a b:Cell):Bool:=decide (b.time<a.time)||decide (a.time=b.time)&&Cp b.dot a.dot
theorem Zl:Go.Sort.SWO E2:=⟨fun x=>by simp[E2,Jo],fun x y z h1 h2=>by
  simp only[E2,Cp,Zaq,Zab,decide_eq_true_eq] at *;omega,fun x y z h1 h2=>by
  simp only[E2,Cp,Za8,Za6,decide_eq_false_iff_not] at *;omega⟩
theorem A8t {x y:Cell} (h1:E2 x y=false) (h2:E2 y x=false):x.dot=y.dot:=by
 rw[Dot.eq_iff]
 simp only[E2,Cp,Za8,Za6,decide_eq_false_iff_not] at *;omega
def Bx (d:Dot) (c:Cell):Bool:=decide (c.ref=d)
def Ic (o:ByteArray) (c:Cell):Bool:=decide (c.obj=o)
def rowF (sc:List Cell):Nat->Dot->List Cell
 |0,_=>[]
 |f+1,d=>(sc.filter (Bx d)).flatMap fun c=>c::rowF sc f c.dot
def Adq (sc:List Cell):Nat->Dot->Prop
 |0,d=>∀ c∈sc,c.ref≠d
 |f+1,d=>∀ c∈sc,c.ref=d->Adq sc f c.dot
theorem Adq.up {sc:List Cell}:∀ {f:Nat} {d:Dot},Adq sc f d->Adq sc (f+1) d
 |0,d,h=>fun c hc e=>absurd e (h c hc)
 |f+1,d,h=>fun c hc e=>(h c hc e).up
theorem Adq.le {sc:List Cell} {f g:Nat} {d:Dot} (h:Adq sc f d) (hg:f<=g):Adq sc g d:=by
 induction g with
 |zero=>
      have:f=0:=by omega
      subst this;exact h
 |succ g ih=>
  rcases Za5 g f with h1|h1
  ·have:f=g+1:=by omega
   subst this;exact h
  ·exact(ih h1).up
theorem Hr {Y β:Type} {f g:Y->List β}:∀ {l:List Y},(∀ x∈l,f x=g x)->l.flatMap f=l.flatMap g
 |[],_=>rfl
 |x::l,h=>by rw[Zam,Zam,h x Zaf,Hr fun y hy=>h y (Zah _ hy)]
theorem Agc {sc:List Cell}:∀ {f:Nat} {d:Dot},Adq sc f d->rowF sc (f+1) d=rowF sc f d
 |0,d,h=>by
  have:sc.filter (Bx d)=[]:=List.filter_eq_nil_iff.2 fun c hc=>by simpa [Bx] using h c hc
  simp[rowF,this]
 |f+1,d,h=>by
  rw[rowF,rowF]
  refine Hr fun c hc=> ?_
  obtain⟨h1,h2⟩:=Zao.1 hc
  rw[Agc (h c h1 (by simpa [Bx] using h2))]
def fuel:Nat:=10001
def rowA (sc:List Cell) (d:Dot):List Cell:=rowF sc fuel d
theorem Abr {sc:List Cell} {d:Dot} (h:Adq sc fuel d):rowA sc d=(sc.filter (Bx d)).flatMap fun c=>c::rowA sc c.dot:=by
 unfold rowA
 rw[<- Agc h,rowF]
theorem Ad5 {sc:List Cell}:∀ {f:Nat} {d:Dot} {c:Cell},c∈rowF sc f d->c∈sc
 |0,_,_,h=>by simp[rowF] at h
 |f+1,d,c,h=>by
  rw[rowF,Zbk] at h
  obtain⟨x,hx,h⟩:=h
  rcases Zag.1 h with rfl|h
  ·exact(Zao.1 hx).1
  ·exact Ad5 h
theorem A8u {Y:Type} [DecidableEq Y]:∀ {l m:List Y},l.Nodup->(∀ x∈l,x∈m)->l.length<=m.length
 |[],m,_,_=>by simp
 |x::l,m,hn,h=>by
  rw[Zbm] at hn
  have hx:=h x Zaf
  have:=A8u (l:=l) (m:=m.erase x) hn.2 fun y hy=>by
   rw[List.mem_erase_of_ne (fun e=>hn.1 (by rw[<- e];exact hy))]
   exact h y (Zah _ hy)
  rw[List.length_erase_of_mem hx] at this
  have:=List.length_pos_of_mem hx
  simp only[Zay];omega
theorem Zm {l:List Cell} (h:(l.map (·.dot)).Nodup) {a b:Cell} (ha:a∈l) (hb:b∈l) (e:a.dot=b.dot):a=b:=by
 induction l with
 |nil=>simp at ha
 |cons z l ih=>
  rw[Zbs,Zbm] at h
  rcases Zag.1 ha with h1|h1<;>rcases Zag.1 hb with h2|h2
  ·rw[h1,h2]
  ·exact(h.1 (by rw[<- h1,e];exact Zbb (f:=(·.dot)) h2)).elim
  ·exact(h.1 (by rw[<- h2,<-e];exact Zbb (f:=(·.dot)) h1)).elim
  ·exact ih h.2 h1 h2
theorem A3b {sc:List Cell} (hd:(sc.map (·.dot)).Nodup):∀ {ds:List Dot},ds.Nodup->((ds.flatMap fun d=>sc.filter (Bx d)).map (·.dot)).Nodup
 |[],_=>by simp
 |d::ds,hn=>by
  rw[Zbm] at hn
  rw[Zam,Zba,List.nodup_append]
  refine⟨hd.sublist ((Zbc).map _),A3b hd hn.2,fun x hx y hy e=> ?_⟩
  obtain⟨a,ha,rfl⟩:=Zby.1 hx
  obtain⟨b,hb,rfl⟩:=Zby.1 hy
  obtain⟨d',hd',hb⟩:=Zbk.1 hb
  obtain⟨ha1,ha2⟩:=Zao.1 ha
  obtain⟨hb1,hb2⟩:=Zao.1 hb
  have hab:a=b:=Zm hd ha1 hb1 e
  subst hab
  have e1:a.ref=d:=by simpa [Bx] using ha2
  have e2:a.ref=d':=by simpa [Bx] using hb2
  exact hn.1 (by rw[<- e1,e2];exact hd')
theorem Zn {Y β γ:Type} {k:Y->List β} {g:β->List γ} (w:Y->List γ) (hw:∀ a,(w a).length=(k a).length+((k a).flatMap g).length):∀ ds:List Y,(ds.flatMap w).length=(ds.flatMap k).length+((ds.flatMap k).flatMap g).length
 |[]=>rfl
 |d::ds=>by
  simp only[Zam,Za2,Zbd,hw,Zn w hw ds];omega
theorem Ou {β γ:Type} (g:β->List γ) (h:β->γ):∀ l:List β,(l.flatMap fun c=>h c::g c).length=l.length+(l.flatMap g).length
 |[]=>rfl
 |c::l=>by
  have:=Ou g h l
  simp only[Zam,Za2,Zay] at *;omega
theorem Ad6 {sc:List Cell} (hd:(sc.map (·.dot)).Nodup):∀(f:Nat) {ds:List Dot},ds.Nodup->(ds.flatMap (rowF sc f)).length<=f*sc.length
 |0,ds,_=>by
  have:∀ ds:List Dot,ds.flatMap (rowF sc 0)=[]:=by
   intro ds
   induction ds with
   |nil=>rfl
   |cons d ds ih=>rw[Zam,ih];rfl
  rw[this];simp
 |f+1,ds,hn=>by
  have h1:=Zn (k:=fun d=>sc.filter (Bx d)) (g:=fun c=>rowF sc f c.dot) (rowF sc (f+1)) (fun d=>by rw[rowF];exact Ou (fun c=>rowF sc f c.dot) id _) ds
  have h2:=A3b hd hn
  have h3:=Ad6 hd f h2
  have e:(ds.flatMap fun d=>sc.filter (Bx d)).flatMap (fun c=>rowF sc f c.dot)=((ds.flatMap fun d=>sc.filter (Bx d)).map (·.dot)).flatMap (rowF sc f):=by rw[Zb2]
  rw[e] at h1
  have h4:(ds.flatMap fun d=>sc.filter (Bx d)).length<=sc.length:=by
   have:=A8u (m:=sc.map (·.dot)) h2 fun x hx=>by
    obtain⟨a,ha,rfl⟩:=Zby.1 hx
    obtain⟨d,_,ha⟩:=Zbk.1 ha
    exact Zbb (Zao.1 ha).1
   simpa using this
  rw[h1,Nat.add_mul]
  omega
theorem Ahp {l:List Cell} (h:l.Pairwise fun a b=>Cp a.dot b.dot=true):(l.map (·.dot)).Nodup:=by
 rw[List.Nodup,List.pairwise_map]
 exact h.imp fun {a b} h e=>by rw[e,Jo] at h;cases h
structure CelR (l:List Cell):Prop where
 nd:(l.map (·.dot)).Nodup
 time:∀ c∈l,1≤c.time/\c.time<=10000
 dot:∀ c∈l,Ix c.dot=true
 ref:∀ c∈l,c.ref=⟨0,0⟩∨∃ y∈l,y.dot=c.ref/\y.obj=c.obj/\y.time<c.time
 len:l.length<=120
theorem Qg {s:State} (h:Cf s=true):CelR s.cells:=by
 simp only[Cf,Zab] at h
 obtain⟨_,_,_,h4,h5⟩:=h
 have hup:=Abf h4
 simp only[Jq,Zab,Dc,celP,decide_eq_true_eq] at h4
 have at':∀ c∈s.cells,Gm s.know c.dot=true/\cel1 c=true:=fun c hc=>by
  obtain⟨i,hi,rfl⟩:=Zar hc
  have:=h4.1 i hi
  rw[C4 hi,C4 hi] at this
  exact⟨this.1,this.2.1⟩
 refine⟨Ahp hup,fun c hc=> ?_,fun c hc=>Oh (at' c hc).1,fun c hc=> ?_,h4.2⟩
 ·have:=(at' c hc).2
  simp only[cel1,Zab] at this
  exact Xw.1 this.2.2
 ·have:=Zbz.1 h5 c hc
  unfold ref1 at this
  simp only[Zaq,decide_eq_true_eq] at this
  refine this.imp id fun h=> ?_
  split at h
  ·cases h
  ·rename_i k hk
   obtain⟨hkl,e⟩:=E1 hk
   rw[C4 hkl] at h
   simp only[Zab,decide_eq_true_eq] at h
   exact⟨_,Zad hkl,e,h.1,h.2⟩
theorem A3c:Ix ⟨0,0⟩=false:=by decide
theorem A5h {sc:List Cell} (hnd:(sc.map (·.dot)).Nodup) (ht:∀ c∈sc,1≤c.time/\c.time<=10000) (hr:∀ c∈sc,∀ y∈sc,y.dot=c.ref->y.time<c.time):∀(f:Nat) (d:Dot) (t:Int),(∀ c∈sc,c.ref=d->t<c.time)->10000 - t<=f->Adq sc f d
 |0,d,t,h,hf=>fun c hc e=>by have:=h c hc e;have:=(ht c hc).2;omega
 |f+1,d,t,h,hf=>fun c hc e=>A5h hnd ht hr f c.dot c.time (fun x hx ex=>hr x hx c hc ex.symm) (by have:=h c hc e;omega)
def objC (l:List Cell) (o:ByteArray):List Cell:=Bh E2 (l.filter (Ic o))
theorem Ov {l:List Cell} {o:ByteArray} {c:Cell}:c∈objC l o↔c∈l/\c.obj=o:=by
 rw[objC,(Bu _ _).mem_iff,Zao];simp[Ic]
theorem Abs {l:List Cell} (h:(l.map (·.dot)).Nodup) (o:ByteArray):((objC l o).map (·.dot)).Nodup:=(((Bu E2 (l.filter (Ic o))).map (·.dot)).nodup_iff).2 (h.sublist ((Zbc).map _))
theorem A5i (l:List Cell) (o:ByteArray):(objC l o).length<=l.length:=by
 rw[objC,De];exact Za7 _ _
theorem Ad7 {l:List Cell} (h:CelR l) (o:ByteArray):Adq (objC l o) fuel ⟨0,0⟩/\∀ c∈objC l o,Adq (objC l o) fuel c.dot:=by
 have ht:∀ c∈objC l o,1≤c.time/\c.time<=10000:=fun c hc=>h.time c (Ov.1 hc).1
 have hr:∀ c∈objC l o,∀ y∈objC l o,y.dot=c.ref->y.time<c.time:=fun c hc y hy e=>by
  obtain⟨hc,_⟩:=Ov.1 hc
  obtain⟨hy,_⟩:=Ov.1 hy
  rcases h.ref c hc with e0|⟨z,hz,e1,_,e2⟩
  ·have:=h.dot y hy
   rw[e,e0,A3c] at this;cases this
  ·rw[Zm h.nd hy hz (e.trans e1.symm)];exact e2
 refine⟨A5h (Abs h.nd o) ht hr fuel _ 0 (fun c hc _=>by have:=(ht c hc).1;omega) (by decide),fun c hc=> ?_⟩
 refine A5h (Abs h.nd o) ht hr fuel _ c.time (fun x hx ex=>hr x hx c hc ex.symm) ?_
 have:=(ht c hc).1
 show 10000 - c.time<=((10001:Nat):Int)
 omega
def rowC (s:State) (o:ByteArray):List Cell:=rowA (objC s.cells o) ⟨0,0⟩
theorem Ahq {s:State} {o:ByteArray} {c:Cell} (h:c∈rowC s o):c∈s.cells:=(Ov.1 (Ad5 h)).1
theorem Ow {s:State} (h:CelR s.cells) (o:ByteArray):(rowC s o).length<=1200120:=by
 have:=Ad6 (Abs h.nd o) fuel (ds:=[⟨0,0⟩]) (by simp)
 have h2:=A5i s.cells o
 have h3:=h.len
 rw[Zam,Zb3,Zaa] at this
 unfold rowC rowA
 have h4:fuel*(objC s.cells o).length<=fuel*120:=Nat.mul_le_mul_left _ (by omega)
 have h5:fuel*120=1200120:=rfl
 omega
theorem Ajx {l:List Cell} (h:(l.map (·.dot)).Nodup) (o:ByteArray) (d:Dot):Bh E2 (l.filter fun c=>Ic o c&&Bx d c)=(objC l o).filter (Bx d):=by
 refine Zi (fun x hx y hy h1 h2=> ?_) ?_ (Jw Zl _) ((Jw Zl _).sublist Zbc)
 ·have hx:=(Zao.1 ((Bu E2 _).mem_iff.1 hx)).1
  have hy:=(Zao.1 ((Bu E2 _).mem_iff.1 hy)).1
  exact Zm h hx hy (A8t h1 h2)
 ·refine(Bu _ _).trans ?_
  have e:(l.filter fun c=>Ic o c&&Bx d c)=(l.filter (Ic o)).filter (Bx d):=by
   rw[List.filter_filter]
   congr 1
   funext c
   exact Bool.and_comm _ _
  rw[e]
  exact(Bu E2 (l.filter (Ic o))).symm.filter _
def rowL (s:State) (o:ByteArray):List Cell:=if Cf s then(rowC s o).filter (fun c=> !c.gone) else[]
def rowD (s:State) (o:ByteArray):List Dot:=if Cf s then(rowC s o).map (·.dot) else[]
theorem Ad8 (s:State) (o:ByteArray):(rowL s o).length<=1200120:=by
 unfold rowL
 split
 ·rename_i h
  exact Zbg (Za7 _ _) (Ow (Qg h) o)
 ·simp
theorem Agd {s:State} {o:ByteArray} (h:Cf s=true) {c:Cell} (hc:c∈rowC s o):∃ k,∃ hk:k<s.cells.length,F8 s.cells c.dot=some k/\s.cells[k]=c:=by
 have hm:=Ahq hc
 obtain⟨i,hi,e⟩:=Zar hm
 cases hx:F8 s.cells c.dot with
 |none=>
  unfold F8 at hx
  rw[Zau] at hx
  have:=hx c hm
  simp at this
 |some k=>
  obtain⟨hk,e2⟩:=E1 hx
  exact⟨k,hk,rfl,Zm (Qg h).nd (Zad hk) hm e2⟩
def addM (a b:Int):Int:=(a+b).tmod 1000000
theorem A8v {a b:Tally} (h:a.obj=b.obj) (h2:a.rep=b.rep):Di a b=false:=by simp[Di,h,h2,Gz]
theorem Age:Go.Sort.SWO Di:=⟨fun x=>A8v rfl rfl,fun x y z h1 h2=>by
  simp only[Di,Zaq,Zab,decide_eq_true_eq] at*
  rcases h1 with h1|⟨h1,h3⟩<;>rcases h2 with h2|⟨h2,h4⟩
  ·exact .inl (Ge h1 h2)
  ·exact .inl (by rw[<- h2];exact h1)
  ·exact .inl (by rw[h1];exact h2)
  ·exact .inr ⟨h1.trans h2,by omega⟩,fun x y z h1 h2=>by
  simp only[Di,Za8,Za6,decide_eq_false_iff_not] at*
  refine⟨Kw.ntrans _ _ _ h1.1 h2.1,?_⟩
  by_cases hxz:x.obj=z.obj
  ·right
   have hxy:x.obj=y.obj:=by
    by_cases e:x.obj=y.obj
    ·exact e
    ·exfalso
     have h3:txLt y.obj x.obj=true:=by
      cases e2:txLt y.obj x.obj with
      |true=>rfl
      |false=>exact absurd (Ku h1.1 e2) e
     rw[hxz] at h3
     rw[h3] at h2
     simp at h2
   rcases h1.2 with h|h
   ·exact absurd hxy h
   ·rcases h2.2 with h'|h'
    ·exact absurd (hxy.symm.trans hxz) h'
    ·omega
  ·exact .inl hxz⟩
def G1 (o:ByteArray) (n:Int) (t:Tally):Int:=if t.obj=o then addM n (t.sum.tmod 1000000) else n
def C5 (s:State) (o:ByteArray):Int:=s.tallies.foldl (G1 o) 0
theorem Abt {l:List Tally} {o:ByteArray} {n:Int} {t:Tally}:(l++[t]).foldl (G1 o) n=G1 o (l.foldl (G1 o) n) t:=by rw[List.foldl_append];rfl
def C6 (m:Bool) (o k:ByteArray) (l:Live):Bool:=(l.map==m)&&(decide (l.obj=o)&&decide (l.key=k))
def Jx (s:State) (m:Bool) (o k:ByteArray):List Live:=s.lives.filter (C6 m o k)
def Bf (m:Bool) (o:ByteArray) (l:Live):Bool:=(l.map==m)&&decide (l.obj=o)
def Ba (s:State) (m:Bool) (o:ByteArray):List ByteArray:=A9 txLt ((s.lives.filter (Bf m o)).map (·.key))
def Qh (s:State) (o k:ByteArray):List Int:=Bh ltI ((Jx s true o k).map (·.val))
def M4 (s:State) (o:ByteArray):List Int:=(rowL s o).map (·.val)
theorem Zo {l:List Tally} {o:ByteArray}:∀ {n:Int},-1000000<n/\n<1000000-> -1000000<l.foldl (G1 o) n/\l.foldl (G1 o) n<1000000:=by
 induction l with
 |nil=>intro n h;exact h
 |cons t l ih=>
  intro n h
  refine ih ?_
  unfold G1
  split
  ·unfold addM
   have:=Int.tmod_lt_of_pos (n+t.sum.tmod 1000000) (show (0:Int)<1000000 by omega)
   have:=Int.lt_tmod_of_pos (n+t.sum.tmod 1000000) (show (0:Int)<1000000 by omega)
   omega
  ·exact h
theorem Fq {Y:Type} {l:List Y} {p:Y->Bool} {i:Nat} (hi:i<l.length):(l.take (i+1)).filter p=(l.take i).filter p++(if p l[i] then[l[i]] else[]):=by
 rw[Ai hi,List.filter_append]
 congr 1
 cases h:p l[i]<;>simp[h]
theorem C7 {Y:Type} (l:List Y) (p:Y->Bool) (i:Nat):((l.take i).filter p).length<=l.length:=by
 have:=Za7 p (l.take i)
 rw[Za1] at this
 omega
section
variable {Y:Type} {lt:Y->Y->Bool} {x:Y} {acc nxt:List Y} {j:Nat} {put:Bool}
def insG (lt:Y->Y->Bool) (x:Y) (acc nxt:List Y) (j:Nat) (put:Bool):Prop:=if put then nxt++acc.drop j=insB lt x acc else nxt++insB lt x (acc.drop j)=insB lt x acc
theorem A5j:insG lt x acc [] 0 false:=by simp[insG]
theorem G9 (h:insG lt x acc nxt j put):nxt.length<=acc.length+1:=by
 unfold insG at h
 have:(insB lt x acc).length=acc.length+1:=Zh lt x acc
 split at h
 ·rw[<- this,<-h];simp
 ·rw[<- this,<-h];simp
theorem A5k (h:insG lt x acc nxt j false) (hj:j<acc.length) (hl:lt x acc[j]=true):insG lt x acc (nxt++[x]++[acc[j]]) (j+1) true:=by
 simp only[insG,Zbf,if_false,if_true] at h ⊢
 rw[Zav hj,insB,if_pos hl] at h
 rw[<- h];simp
theorem Id (h:insG lt x acc nxt j put) (hj:j<acc.length) (hl:put=true∨lt x acc[j]=false):insG lt x acc (nxt++[acc[j]]) (j+1) put:=by
 cases put with
 |true=>
  simp only[insG,if_true] at h ⊢
  rw[Zav hj] at h
  rw[<- h];simp
 |false=>
  have hl:lt x acc[j]=false:=hl.resolve_left (by intro h;cases h)
  simp only[insG,Zbf,if_false] at h ⊢
  rw[Zav hj,insB,if_neg (by rw[hl];simp)] at h
  rw[<- h];simp
theorem A5l (h:insG lt x acc nxt acc.length put):(if put then nxt else nxt++[x])=insB lt x acc:=by
 unfold insG at h
 split
 ·rename_i hp;rw[if_pos hp] at h;simpa using h
 ·rename_i hp;rw[if_neg hp] at h;simpa [insB] using h
theorem Abu {l:List Y} {p:Y->Bool} {i:Nat} (hi:i<l.length):Bh lt ((l.take (i+1)).filter p)=if p l[i] then insB lt l[i] (Bh lt ((l.take i).filter p)) else Bh lt ((l.take i).filter p):=by
 rw[Fq hi]
 split
 ·rw[Zg]
 ·simp
theorem Agf {l:List Y} {p:Y->Bool} {i:Nat}:(Bh lt ((l.take i).filter p)).length<=l.length:=by
 rw[De];exact C7 l p i
end
def isZ (d:Dot):Bool:=decide (d=⟨0,0⟩)
def A8w (d:Dot):List Dot:=if isZ d then[] else[d]
def Zp (sc:List Cell) (S:List Dot):List Dot:=S.reverse.flatMap fun d=>A8w d++(rowA sc d).map (·.dot)
def S4 (sc:List Cell) (S:List Dot):Nat:=(S.map fun d=>1+(rowA sc d).length).sum
theorem Ael {sc:List Cell} {S:List Dot} {d:Dot} (hd:Adq sc fuel d) (hz:∀ c∈sc,c.dot≠⟨0,0⟩):Zp sc (S++[d])=A8w d++Zp sc (S++((sc.filter (Bx d)).map (·.dot)).reverse):=by
 unfold Zp
 rw[Zbp,Zbp,List.reverse_reverse,Zbd,Zbd]
 simp only[Zbx,List.reverse_nil,Zb4,Zam,Zb3,Zaa,Zbu]
 congr 1
 congr 1
 rw[Abr hd,Zb2,List.map_flatMap]
 refine Hr fun c hc=> ?_
 have:isZ c.dot=false:=by simpa [isZ] using hz c (Zao.1 hc).1
 simp[A8w,this]
theorem Ajy {l:List Nat}:l.reverse.sum=l.sum:=by
 induction l with
 |nil=>rfl
 |cons x l ih=>rw[Zbx,Zbn,ih];simp;omega
theorem Aem {sc:List Cell} {S:List Dot} {d:Dot} (hd:Adq sc fuel d):S4 sc (S++[d])=S4 sc (S++((sc.filter (Bx d)).map (·.dot)).reverse)+1:=by
 unfold S4
 rw[Zba,Zba,Zbn,Zbn,List.map_reverse,Ajy,List.map_map]
 have:(rowA sc d).length=(((sc.filter (Bx d))).map ((fun d=>1+(rowA sc d).length) ∘ fun c=>c.dot)).sum:=by
  rw[Abr hd,List.length_flatMap]
  congr 1
  refine List.map_congr_left fun c _=> ?_
  simp;omega
 simp only[Zbs,List.map_nil,Zb8,List.sum_nil]
 rw[<- this];omega
theorem A3d {sc:List Cell}:∀ S:List Dot,S.length<=S4 sc S
 |[]=>Nat.zero_le _
 |d::S=>by
  have:=A3d (sc:=sc) S
  simp only[S4,Zbs,Zb8,Zay] at*
  omega
section
structure El (Y:Type) [Inhabited Y] where
 p:Pl Y
 g:Bool
 val:Y->GV
 hv:∀ x,mkv g (p.enc x)=some (val x)
 hc:∀ x,(val x).cells=p.enc x
 hz:0<p.z
section
variable {Y:Type} [Inhabited Y] {e:El Y} {U N:St} {rs:List Thg} {v:GV} {d:Array Y}
open Go.Sort (swp)
theorem Ajz {j:Nat} (hj:j<d.size):d.toList[j]? =some d[j]! :=by
 rw[getElem!_pos d j hj];simp
theorem El.at (e:El Y) (H:Hp U N rs) (k:Nat) (hk:rs[k]? =some (ow e.p.kd v d.toList)) {j:Nat} (hj:j<d.size):iadG e.p.z v (some j)=some (atz e.p.z v j)/\ldG e.g e.p.z N (atz e.p.z v j)=some (e.val d[j]!):=by
 have h:=H.sl k hk
 have hl:j<d.toList.length:=by simpa using hj
 refine⟨RdN.iad h hl,?_⟩
 obtain⟨cs,hR,hs⟩:=RdN.cells h hl
 have e1:cs=e.p.enc d.toList[j]:=hR
 have e2:d.toList[j]=d[j]! :=by
  have:=Ajz hj
  rw[Zaw hl] at this
  injection this
 have hlen:=e.p.len d.toList[j]
 have:=hs 0 e.p.z cs (by unfold seg;rw[if_pos (by rw[e1,hlen];omega),List.drop_zero,List.take_of_length_le (by rw[e1,hlen];exact Zax _)]) e.g
 rw[Ahe] at this
 have this:ldG e.g e.p.z N (atz e.p.z v j)=mkv e.g cs:=this
 rw[this,e1,e.hv,e2]
theorem El.sw (e:El Y) (H:Hp U N rs) (k:Nat) (hk:rs[k]? =some (ow e.p.kd v d.toList)) {a b:Nat} (ha:a<d.size) (hb:b<d.size):∃ N1 N2,stG e.p.z N (atz e.p.z v a) (e.val d[b]!)=some (.tup [],N1)/\stG e.p.z N1 (atz e.p.z v b) (e.val d[a]!)=some (.tup [],N2)/\Hp U N2 (rs.set k (ow e.p.kd v (swp d a b).toList)):=by
 have hkl:=(Za0.1 hk).1
 obtain⟨N1,e1,H1⟩:=H.stw k hk (j:=a) (by simpa using ha) e.p.z (e.val d[b]!) d[b]! (e.hc _) rfl e.hz
 obtain⟨N2,e2,H2⟩:=H1.stw k (by rw[Za3 hkl]) (j:=b) (by simpa using hb) e.p.z (e.val d[a]!) d[a]! (e.hc _) rfl e.hz
 refine⟨N1,N2,e1,e2,?_⟩
 rw[List.set_set] at H2
 have:(swp d a b).toList=(d.toList.set a d[b]!).set b d[a]! :=by simp[swp]
 rw[this];exact H2
def Holds (e:El Y) (U0 N:St) (rs:List Thg) (k:Nat) (v:GV) (d:Array Y):Prop:=k<rs.length/\Hp U0 N (rs.set k (ow e.p.kd v d.toList))
theorem Holds.of {U0:St} (H:Hp U0 N rs) {k:Nat} (hk:rs[k]? =some (ow e.p.kd v d.toList)):Holds e U0 N rs k v d:=by
 obtain⟨h1,h2⟩:=Za0.1 hk
 refine⟨h1,?_⟩
 rw[<- h2,List.set_getElem_self];exact H
theorem Holds.at {U0:St} {k:Nat} (h:Holds e U0 N rs k v d) {j:Nat} (hj:j<d.size):iadG e.p.z v (some j)=some (atz e.p.z v j)/\ldG e.g e.p.z N (atz e.p.z v j)=some (e.val d[j]!):=e.at h.2 k (Za3 h.1) hj
theorem Holds.iad {U0:St} {k:Nat} (h:Holds e U0 N rs k v d) {j:Nat} (hj:j<d.size):iadG e.p.z v (some j)=some (atz e.p.z v j):=(h.at hj).1
theorem Holds.ld {U0:St} {k:Nat} (h:Holds e U0 N rs k v d) {j:Nat} (hj:j<d.size):ldG e.g e.p.z N (atz e.p.z v j)=some (e.val d[j]!):=(h.at hj).2
theorem Holds.sw {U0:St} {k:Nat} (h:Holds e U0 N rs k v d) {a b:Nat} (ha:a<d.size) (hb:b<d.size):∃ N1 N2,stG e.p.z N (atz e.p.z v a) (e.val d[b]!)=some (.tup [],N1)/\stG e.p.z N1 (atz e.p.z v b) (e.val d[a]!)=some (.tup [],N2)/\Holds e U0 N2 rs k v (swp d a b)/\N2.length=N.length:=by
 obtain⟨N1,N2,e1,e2,H⟩:=e.sw h.2 k (Za3 h.1) ha hb
 exact⟨N1,N2,e1,e2,⟨h.1,by rwa [List.set_set] at H⟩,by rw[Aab e2,Aab e1]⟩
theorem B6 {k:IntKind} {x:Int} {j:Nat} (h:x=(j:Int)):Bb (some (.int k x))=some j:=by rw[h];exact A1
theorem swp_size (d:Array Y) (i j:Nat):(swp d i j).size=d.size:=by simp[swp]
end
theorem C8 {P:Program} {a:Cd} {Q:Ex->Env->St->Prop} {env:Env} {U:St} (I:Nat->Env->St->Prop) (n j0:Nat) (X:Env->St->Prop) (h0:I n env U)
  (hs:∀(J:Nat->Env->St->Prop) (Yq:Env->St->Prop),(∀ k env U,I k env U->J k env U)->(∀ env U,X env U->Yq env U)->∀ k env U,I k env U->vc P a (fun e env' U'=>match e with| .nxt=>∃ k',k'<k/\J k' env' U'| .ext j=>if j=j0 then Yq env' U' else Q (.ext j) env' U'| .ret=>Q .ret env' U') env U)
  (hx:∀ env U,X env U->Q (.ext j0) env U):vc P (.lop a) Q env U:=by
 refine Tm I n h0 fun k env U hI=>As (hs I X (fun _ _ _ h=>h) (fun _ _ h=>h) k env U hI) fun e env' U' he=> ?_
 cases e with
 |nxt=>exact he
 |ret=>exact he
 |ext j=>
  have h5:if j=j0 then X env' U' else Q (.ext j) env' U':=he
  by_cases h:j=j0
  ·rw[if_pos h] at h5
   subst h;exact hx _ _ h5
  ·rw[if_neg h] at h5;exact h5
theorem Ht {P:Program} {a:Cd} {Q:Ex->Env->St->Prop} {env:Env} {U:St} (n ri j0:Nat) (I:Nat->Env->St->Prop) (X:Env->St->Prop) (hr:env ri=gi 0) (h0:I 0 env U)
  (hs:∀(J:Nat->Env->St->Prop) (Yq:Env->St->Prop),(∀ i env U,I i env U->J i env U)->(∀ env U,X env U->Yq env U)->∀ i env U,i<n->env ri=gi i->decide ((i:Int)<n)=true->I i env U->vc P a (fun e env' U'=>match e with| .nxt=>env' ri=gi ((i:Int)+1)/\J (i+1) env' U'| .ext j=>j=j0/\Yq env' U'| .ret=>False) env U)
  (he:∀(Yq:Env->St->Prop),(∀ env U,X env U->Yq env U)->∀ env U,env ri=gi n->decide ((n:Int)<n)=false->I n env U->vc P a (fun e env' U'=>match e with| .nxt=>False| .ext j=>j=j0/\Yq env' U'| .ret=>False) env U)
  (hx:∀ env U,X env U->Q (.ext j0) env U):vc P (.lop a) Q env U:=by
 refine Ay n ri I hr h0 (fun i env U h1 h2 h3 h4=>As (hs I X (fun _ _ _ h=>h) (fun _ _ h=>h) i env U h1 h2 h3 h4) fun e env' U' hq=> ?_) (fun env U h1 h2 h3=>As (he X (fun _ _ h=>h) env U h1 h2 h3) fun e env' U' hq=> ?_)
 ·cases e with
  |nxt=>exact hq
  |ret=>exact hq.elim
  |ext j=>obtain⟨rfl,hq⟩:=hq;exact hx _ _ hq
 ·cases e with
  |nxt=>exact hq
  |ret=>exact hq.elim
  |ext j=>obtain⟨rfl,hq⟩:=hq;exact hx _ _ hq
theorem Dk {P:Program} {a b:Cd} {Q:Ex->Env->St->Prop} {env:Env} {U:St} (X:Env->St->Prop)
  (ha:∀ Yq:Env->St->Prop,(∀ env U,X env U->Yq env U)->vc P a (fun e env' U'=>match e with| .nxt=>Yq env' U'| .ext j=>Q (.ext j) env' U'| .ret=>Q .ret env' U') env U)
  (hb:∀ env U,X env U->vc P b Q env U):vc P (.seq a b) Q env U:=by
 rw[vc_seq]
 refine As (ha X fun _ _ h=>h) fun e env' U' he=> ?_
 cases e with
 |nxt=>exact hb _ _ he
 |ret=>exact he
 |ext j=>exact he
open Go.Sort (bitsLen bitsLen_le_iff)
abbrev len8:ByteArray:=⟨#[0,1,2,2,3,3,3,3,4,4,4,4,4,4,4,4,5,5,5,5,5,5,5,5,5,5,5,5,5,5,5,5,6,6,6,6,6,6,6,6,6,6,6,6,6,6,6,6,6,6,6,6,6,6,6,6,6,6,6,6,6,6,6,6,7,7,7,7,7,7,7,7,7,7,7,7,7,7,7,7,7,7,7,7,7,7,7,7,7,7,7,7,7,7,7,7,7,7,7,7,7,7,7,7,7,7,7,7,7,7,7,7,7,7,7,7,7,7,7,7,7,7,7,7,7,7,7,7,8,8,8,8,8,8,8,8,8,8,8,8,8,8,8,8,8,8,8,8,8,8,8,8,8,8,8,8,8,8,8,8,8,8,8,8,8,8,8,8,8,8,8,8,8,8,8,8,8,8,8,8,8,8,8,8,8,8,8,8,8,8,8,8,8,8,8,8,8,8,8,8,8,8,8,8,8,8,8,8,8,8,8,8,8,8,8,8,8,8,8,8,8,8,8,8,8,8,8,8,8,8,8,8,8,8,8,8,8,8,8,8,8,8,8,8,8,8,8,8,8,8,8,8,8,8,8,8]⟩
set_option maxRecDepth 100000 in
theorem Ahr:(bl len8).length=256:=by decide +kernel
set_option maxRecDepth 100000 in
theorem Qi {m:Nat} (h:m<256):idxG (.str len8) (some m)=some (.int .u8 (bitsLen m:Nat)):=by
 have key:∀ m:Fin 256,idxG (.str len8) (some m.1)=some (.int .u8 (bitsLen m.1:Nat)):=by
  intro m
  have hm:m.1<(bl len8).length:=by rw[Ahr];exact m.2
  rw[Ag8 hm]
  have:∀ m:Fin 256,((bl len8).getD m.1 0).toNat=bitsLen m.1:=by decide +kernel
  have h2:=this m
  rw[Zbe,Zaw hm,Zb1] at h2
  rw[h2]
 exact key ⟨m,h⟩
theorem Aen {x k:Nat} (h:2 ^ k<=x):bitsLen x=bitsLen (x / 2 ^ k)+k:=by
 have h1:∀ m,bitsLen x<=m↔bitsLen (x / 2 ^ k)+k<=m:=by
  intro m
  rw[bitsLen_le_iff]
  have hx:¬ x<2 ^ k:=by omega
  constructor
  ·intro hlt
   have hkm:k<m:=by
    rcases Za5 k m with h2|h2
    ·exact h2
    ·have:2 ^ m<=2 ^ k:=Nat.pow_le_pow_right (by omega) h2
     omega
   have:bitsLen (x / 2 ^ k)<=m - k:=by
    rw[bitsLen_le_iff,Zbo (Zb6 k),<-Nat.pow_add]
    rwa [Zbt (by omega)]
   omega
  ·intro hle
   have:bitsLen (x / 2 ^ k)<=m - k:=by omega
   rw[bitsLen_le_iff,Zbo (Zb6 k),<-Nat.pow_add,Zbt (by omega)] at this
   exact this
 have h2:=(h1 _).1 (Zax _)
 have h3:=(h1 _).2 (Zax _)
 omega
theorem Abv {n:Nat} (h:n<=1099511627776):bitsLen n<=41:=(bitsLen_le_iff n 41).2 (by omega)
end
end Go.Proofs.YtckobfochhjmdaaGreatDoor.Sy
