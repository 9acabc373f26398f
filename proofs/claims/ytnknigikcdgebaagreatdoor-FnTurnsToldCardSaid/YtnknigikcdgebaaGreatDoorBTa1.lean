/- Texts of this proof, one behind the other. -/
import Derived.Test.YtnknigikcdgebaaGreatDoorBC
import Derived.Test.YtnknigikcdgebaaGreatDoorProg
import Derived.KernelRfl
import Derived.Shelf.Strings.OnBuilder
import Derived.Shelf.Strconv.Itoa3
import Derived.Lib.SmallJoins
import Derived.Lib.ItoaLen
set_option linter.unusedSimpArgs false
set_option linter.unusedVariables false
set_option maxRecDepth 4000
set_option maxHeartbeats 4000000
open List renaming append_nil→Zaa,prefix_refl→Zab,take_length→Zac,mem_cons_self→Zae,replicate→Zaf,getElem?_eq_some_iff→Zah,set_cons_zero→Zak,getElem_mem→Zal,set_cons_succ→Zan,mem_cons_of_mem→Zao,prefix_append→Zaq,nil_append→Zar,append_assoc→Zas,getElem?_map→Zat,length_cons→Zau,length_take→Zav,getElem_of_mem→Zaw,filterMap_cons→Zax,getElem?_eq_getElem→Zay,map_cons→Zaz,eraseIdx_cons_succ→Za0,findIdx?_eq_some_iff_getElem→Za2,take_zero→Za3,map_append→Za4,replicate_succ→Za5,pairwise_iff_getElem→Za6,findIdx?_eq_none_iff→Za7,eraseIdx_cons_zero→Za8,getElem?_set_self→Za9,nodup_append→Zbd,cons_append→Zbg,sum_append→Zbh,nodup_cons→Zbi,length_nil→Zbj,length_map→Zbk
open Option renaming bind_some→Zad,map_some→Zap,some→Zbl
open Bool renaming and_eq_true→Zag,eq_iff_iff→Zaj,or_eq_true→Za1,false_eq_true→Zbb
open Nat renaming le_refl→Zai,le_trans→Zam,sub_zero→Zba,add_sub_cancel→Zbc,lt_or_ge→Zbf
open Int renaming lt_trichotomy→Zbe
namespace Go.Proofs.YtnknigikcdgebaaGreatDoor.Sy
open Go Go.RowKit
def lf (n:Int) (m:Nat):Int:=if n - m<0 then -1 else n - m
theorem A05 {n:Int} {m:Nat}:lf n m<0↔n<m:=by unfold lf;split<;>omega
theorem J5 {n:Int} {m:Nat} (h:¬ lf n m<0):lf n m=n - m:=by unfold lf at *;split at h<;>first|omega|(rw [if_neg ‹_›])
theorem A46 {n:Int} {m:Nat} (h:0<=n):lf n m<=n:=by unfold lf;split<;>omega
theorem Ahc {n:Int} {m:Nat}: -1<=lf n m:=by unfold lf;split<;>omega
def sumL {Y:Type} (f:Y->Nat) (l:List Y):Nat:=(l.map f).sum
theorem A06 {Y:Type} {f:Y->Nat} {l:List Y} {i:Nat} (h:i<l.length):sumL f (l.take (i+1))=sumL f (l.take i)+f l[i]:=by
 unfold sumL;rw[Ax h,Za4,Zbh];simp
theorem M5 {Y:Type} (f:Y->Nat) (l:List Y) (i:Nat):sumL f (l.take i)<=sumL f l:=by
 have:sumL f l=sumL f (l.take i)+sumL f (l.drop i):=by
  conv=>lhs;rw[<- List.take_append_drop i l]
  unfold sumL;rw[Za4,Zbh]
 omega
theorem He {Y:Type} {f:Y->Nat} {l:List Y} {x:Y} (h:x∈l):f x<=sumL f l:=by
 induction l with
 |nil=>simp at h
 |cons y l ih=>
  simp only[sumL,Zaz,List.sum_cons] at*
  rcases List.mem_cons.1 h with rfl|h
  ·omega
  ·have:=ih h;omega
theorem Al8 {z i:Nat} {v:GV}:fld 0 (atz z v i)=atz z v i:=by
 cases v<;>rfl
theorem Zk {Y:Type} (p:Pl Y) (x:Y) (n:Nat):reps n (p.enc x)=p.cells (Zaf n x):=by
 unfold reps
 induction n with
 |zero=>rfl
 |succ n ih=>
  rw[Za5,List.flatten_cons,ih,Za5];rfl
theorem Qo {Y:Type} {l:List Y} {z:Y} {i:Nat} (h:i<l.length):(l.take i++Zaf (l.length - i) z).set i l[i]=l.take (i+1)++Zaf (l.length - (i+1)) z:=by
 rw[Ax h,List.set_append_right _ _ (by simp;omega)]
 have e1:i - (l.take i).length=0:=by simp;omega
 rw[e1,show l.length - i=(l.length - (i+1))+1 by omega,Za5,Zak,Zas]
 rfl
theorem Zl {Y:Type} {l:List Y} {z:Y} {i:Nat} (h:i<l.length):i<(l.take i++Zaf (l.length - i) z).length:=by simp;omega
theorem Zm {Y:Type} {l:List Y} {z:Y}:l.take l.length++Zaf (l.length - l.length) z=l:=by simp
namespace Hp
end Hp
theorem Ii (l:List Int):(txt l).size=l.length:=by simp[txt,ByteArray.size]
def C5 (x:Tally):Nat:=x.obj.size
def A57 (x:Tally):Prop:=x.obj.size<=9223372036854775807
def Cr (x:Live):Nat:=x.obj.size+x.key.size
def Ajd (x:Live):Prop:=x.obj.size<=9223372036854775807/\x.key.size<=9223372036854775807
def Dm (x:Cell):Nat:=x.obj.size
def Ahd (x:Cell):Prop:=x.obj.size<=9223372036854775807
def Bm (x:Watch):Nat:=x.obj.size+x.key.size
def Am8 (x:Watch):Prop:=x.obj.size<=9223372036854775807/\x.key.size<=9223372036854775807
def Adz (x:Act):Nat:=x.knew.length+x.obj.size+x.key.size
instance:DecidableEq Act:=fun a b=>if h:a.dot=b.dot/\a.time=b.time/\a.knew=b.knew/\a.kind=b.kind/\a.obj=b.obj/\a.key=b.key/\a.val=b.val/\a.ref=b.ref then isTrue (by cases a;cases b;simp only at h;obtain⟨rfl,rfl,rfl,rfl,rfl,rfl,rfl,rfl⟩:=h;rfl) else isFalse (fun e=>h (by subst e;exact⟨rfl,rfl,rfl,rfl,rfl,rfl,rfl,rfl⟩))
def Aa (x:State):Nat:=x.know.length+(x.tallies.length+sumL C5 x.tallies)+(x.lives.length+sumL Cr x.lives)+(x.cells.length+sumL Dm x.cells)
def Am9 (x:State):Prop:=x.know.length<=9223372036854775807/\(x.tallies.length<=9223372036854775807/\∀ y∈x.tallies,A57 y)/\(x.lives.length<=9223372036854775807/\∀ y∈x.lives,Ajd y)/\(x.cells.length<=9223372036854775807/\∀ y∈x.cells,Ahd y)
instance:DecidableEq State:=fun a b=>if h:a.know=b.know/\a.tallies=b.tallies/\a.lives=b.lives/\a.cells=b.cells then isTrue (by cases a;cases b;simp only at h;obtain⟨rfl,rfl,rfl,rfl⟩:=h;rfl) else isFalse (fun e=>h (by subst e;exact⟨rfl,rfl,rfl,rfl⟩))
theorem State.eq_iff {a b:State}:a=b↔a.know=b.know/\a.tallies=b.tallies/\a.lives=b.lives/\a.cells=b.cells:=⟨fun h=>by subst h;exact⟨rfl,rfl,rfl,rfl⟩,fun h=>by cases a;cases b;simp only at h;obtain⟨rfl,rfl,rfl,rfl⟩:=h;rfl⟩
instance:DecidableEq Delta:=fun a b=>if h:a.base=b.base/\a.know=b.know/\a.tallies=b.tallies/\a.lives=b.lives/\a.dead=b.dead/\a.cells=b.cells then isTrue (by cases a;cases b;simp only at h;obtain⟨rfl,rfl,rfl,rfl,rfl,rfl⟩:=h;rfl) else isFalse (fun e=>h (by subst e;exact⟨rfl,rfl,rfl,rfl,rfl,rfl⟩))
instance:DecidableEq Unit_:=fun a b=>if h:a.batch=b.batch/\a.act=b.act/\a.delta=b.delta then isTrue (by cases a;cases b;simp only at h;obtain⟨rfl,rfl,rfl⟩:=h;rfl) else isFalse (fun e=>h (by subst e;exact⟨rfl,rfl,rfl⟩))
instance:DecidableEq Log:=fun a b=>if h:a.rep=b.rep/\a.time=b.time/\a.state=b.state/\a.units=b.units/\a.waits=b.waits then isTrue (by cases a;cases b;simp only at h;obtain⟨rfl,rfl,rfl,rfl,rfl⟩:=h;rfl) else isFalse (fun e=>h (by subst e;exact⟨rfl,rfl,rfl,rfl,rfl⟩))
instance:DecidableEq Commit:=fun a b=>if h:a.id=b.id/\a.ups=b.ups/\a.state=b.state then isTrue (by cases a;cases b;simp only at h;obtain⟨rfl,rfl,rfl⟩:=h;rfl) else isFalse (fun e=>h (by subst e;exact⟨rfl,rfl,rfl⟩))
instance:DecidableEq Graph:=fun a b=>if h:a.commits=b.commits/\a.head=b.head then isTrue (by cases a;cases b;simp only at h;obtain⟨rfl,rfl⟩:=h;rfl) else isFalse (fun e=>h (by subst e;exact⟨rfl,rfl⟩))
instance:DecidableEq Replica:=fun a b=>if h:a.way=b.way/\a.log=b.log/\a.graph=b.graph/\a.file=b.file/\a.out=b.out then isTrue (by cases a;cases b;simp only at h;obtain⟨rfl,rfl,rfl,rfl,rfl⟩:=h;rfl) else isFalse (fun e=>h (by subst e;exact⟨rfl,rfl,rfl,rfl,rfl⟩))
instance:DecidableEq World_:=fun a b=>if h:a.replicas=b.replicas/\a.net=b.net/\a.codes=b.codes/\a.synced=b.synced then isTrue (by cases a;cases b;simp only at h;obtain⟨rfl,rfl,rfl,rfl⟩:=h;rfl) else isFalse (fun e=>h (by subst e;exact⟨rfl,rfl,rfl,rfl⟩))
instance:DecidableEq Script:=fun a b=>if h:a.ways=b.ways/\a.events=b.events/\a.calm=b.calm then isTrue (by cases a;cases b;simp only at h;obtain⟨rfl,rfl,rfl⟩:=h;rfl) else isFalse (fun e=>h (by subst e;exact⟨rfl,rfl,rfl⟩))
def Aa8:Fn1:=⟨15,[.t 4],(rg [oX 2 0,oX 3 1,oV 4 kf] (.seq (rg [oF 5 0 2,oL 6 5,oF 7 0 3,oL 8 7,oB 9 .neq 6 8] (oG 9 (oR 4 kf))) (.seq (rg [oF 10 1 2,oL 11 10,oF 12 1 3,oL 13 12,oB 14 .neq 11 13] (oG 14 (oR 4 kf))) (oR 4 kt))))⟩
theorem Ahe:A6 Tryz.prog 253=some Aa8:=by kernel_rfl
theorem Pk (U:St) (x y:Dot):Ret Tryz.prog 253 [.agg [.int .i64 x.rep,.int .i64 x.seq],.agg [.int .i64 y.rep,.int .i64 y.seq]] U (.bool (decide (x=y))) U:=by
 refine Ae Ahe (Z0z rfl) trivial ?_
 simp +contextual (disch:=omega) only[go_sem,Aa8,Zaa]
 refine⟨fun hn=> ?_,fun hn=> ?_⟩
 ·simp only[Dot.eq_iff];simp at hn ⊢;simp[hn]
 have q0:x.rep=y.rep:=by simpa using hn
 refine⟨fun hn=> ?_,fun hn=> ?_⟩
 ·simp only[Dot.eq_iff];simp at hn ⊢;simp[hn]
 have q1:x.seq=y.seq:=by simpa using hn
 simp only[Dot.eq_iff,q0,q1,and_self,decide_true]
def A59:Fn1:=⟨37,[.t 4],(rg [oX 2 0,oX 3 1,oV 4 kf] (.seq (rg [oF 5 0 2,oL 6 5,oF 7 0 3,oL 8 7,oB 9 .neq 6 8] (oG 9 (oR 4 kf))) (.seq (rg [oF 10 1 2,oW 11 2 10,oF 12 1 3,oW 13 2 12,oD 14 253 11 13,oU 15 14] (oG 15 (oR 4 kf))) (.seq (rg [oF 16 3 2,oL 17 16,oF 18 3 3,oL 19 18,oB 20 .neq 17 19] (oG 20 (oR 4 kf))) (.seq (rg [oF 21 4 2,oW 22 2 21,oF 23 4 3,oW 24 2 23,oD 25 253 22 24,oU 26 25] (oG 26 (oR 4 kf))) (.seq (rg [oF 27 6 2,oL 28 27,oF 29 6 3,oL 30 29,oB 31 .neq 28 30] (oG 31 (oR 4 kf))) (.seq (rg [oF 32 7 2,oL 33 32,oF 34 7 3,oL 35 34,o 36 (.eqb true (.t 33) (.t 35))] (oG 36 (oR 4 kf))) (oR 4 kt))))))))⟩
theorem Ae0:A6 Tryz.prog 186=some A59:=by kernel_rfl
theorem Aa9 (U:St) (x y:Cell):Ret Tryz.prog 186 [.agg [.str x.obj,.int .i64 x.dot.rep,.int .i64 x.dot.seq,.int .i64 x.time,.int .i64 x.ref.rep,.int .i64 x.ref.seq,.int .i64 x.val,.bool x.gone],.agg [.str y.obj,.int .i64 y.dot.rep,.int .i64 y.dot.seq,.int .i64 y.time,.int .i64 y.ref.rep,.int .i64 y.ref.seq,.int .i64 y.val,.bool y.gone]] U (.bool (decide (x=y))) U:=by
 refine Ae Ae0 (Z0z rfl) trivial ?_
 simp +contextual (disch:=omega) only[go_sem,A59,Zaa]
 refine⟨fun hn=> ?_,fun hn=> ?_⟩
 ·simp only[Cell.eq_iff];simp at hn ⊢;simp[hn]
 have q0:x.obj=y.obj:=by simpa using hn
 refine A9 (Pk _ x.dot y.dot) ?_
 simp +contextual (disch:=omega) only[go_sem,Zaa]
 refine⟨fun hn=> ?_,fun hn=> ?_⟩
 ·simp only[Cell.eq_iff];simp at hn ⊢;simp[hn]
 have q1:x.dot=y.dot:=by simpa using hn
 refine⟨fun hn=> ?_,fun hn=> ?_⟩
 ·simp only[Cell.eq_iff];simp at hn ⊢;simp[hn]
 have q2:x.time=y.time:=by simpa using hn
 refine A9 (Pk _ x.ref y.ref) ?_
 simp +contextual (disch:=omega) only[go_sem,Zaa]
 refine⟨fun hn=> ?_,fun hn=> ?_⟩
 ·simp only[Cell.eq_iff];simp at hn ⊢;simp[hn]
 have q3:x.ref=y.ref:=by simpa using hn
 refine⟨fun hn=> ?_,fun hn=> ?_⟩
 ·simp only[Cell.eq_iff];simp at hn ⊢;simp[hn]
 have q4:x.val=y.val:=by simpa using hn
 refine⟨fun hn=> ?_,fun hn=> ?_⟩
 ·simp only[Cell.eq_iff];simp at hn ⊢;simp[hn]
 have q5:x.gone=y.gone:=by simpa using hn
 simp only[Cell.eq_iff,q0,q1,q2,q3,q4,q5,and_self,decide_true]
def A08:Fn1:=⟨27,[.t 4],(rg [oV 4 kf] (.seq (rg [oM 6 0,oN 7 6,oM 8 1,oN 9 8,oB 10 .neq 7 9] (oG 10 (oR 4 kf))) (.seq (rg [oV 5 (ki 0)] (oH 0 (.seq (rg [oM 11 5,oM 12 0,oN 13 12,oB 14 .lss 11 13] (oJ 14 0)) (.seq (.blk 1 (dw [oM 17 0,oM 18 5,oI 19 8 17 18,oW 20 8 19,oM 21 1,oM 22 5,oI 23 8 21 22,oW 24 8 23] [oD 25 186 20 24,oU 26 25] (oG 26 (oR 4 kf)))) (.reg [oM 15 5,oZ 16 15 1,oM 5 16]))))) (oR 4 kt))))⟩
theorem Aaa:A6 Tryz.prog 83=some A08:=by kernel_rfl
theorem A7y (U:St) (v u:GV) (l m:List Cell) (hv:RS Ak.kd U v l) (hu:RS Ak.kd U u m) (hl:(l.length+sumL Dm l)<=1099511627776):Ret Tryz.prog 83 [v,u] U (.bool (decide (l=m))) U:=by
 refine Ae Aaa (Z0z rfl) trivial ?_
 simp +contextual (disch:=omega) only[go_sem,A08,hv.len,hu.len]
 refine⟨fun hn=> ?_,fun hn=> ?_⟩
 ·have:l≠m:=fun h=>by subst h;simp at hn
  simp[this]
 have hlm:l.length=m.length:=by
                    have h2:(l.length:Int)=m.length:=by simpa using hn
                    omega
 refine Bk l.length 5 (fun i env N=>env 0=v/\env 1=u/\l.take i=m.take i/\U <+: N) rfl ⟨rfl,rfl,rfl,Zab _⟩ ?_ ?_
 ·rintro i env N hi e5 c0 ⟨e0,e1,he,hp⟩
  have hj:i<m.length:=by omega
  have h1:=hv.pre hp
  have h2:=hu.pre hp
  have hne:l[i]≠m[i]->l≠m:=fun h h'=>h (by subst h';rfl)
  have hst:l[i]=m[i]->l.take (i+1)=m.take (i+1):=fun h=>by rw[Ax hi,Ax hj,he,h]
  have hms:Dm l[i]<=sumL Dm l:=He (Zal hi)
  simp +contextual (disch:=omega) only[go_sem,c0,e0,e1,e5,hv.len,hu.len,A8 h1 hi,A8 h2 hj]
  refine A9 (Aa9 N l[i] m[i]) ?_
  simp +contextual (disch:=omega) only[go_sem,e0,e1,e5,hp]
  refine⟨fun h=> ?_,fun h=> ?_⟩
  ·simp[hne (by simpa using h)]
  ·simpa using hst (by simpa using h)
 ·rintro env N e5 c0 ⟨e0,e1,he,hp⟩
  rw[Zac,hlm,Zac] at he
  simp +contextual (disch:=omega) only[go_sem,c0,e0,e1,e5,hv.len,hu.len,hp]
  simp[he]
def A5b:Fn1:=⟨26,[.t 4],(rg [oV 4 kf] (.seq (rg [oM 6 0,oN 7 6,oM 8 1,oN 9 8,oB 10 .neq 7 9] (oG 10 (oR 4 kf))) (.seq (rg [oV 5 (ki 0)] (oH 0 (.seq (rg [oM 11 5,oM 12 0,oN 13 12,oB 14 .lss 11 13] (oJ 14 0)) (.seq (.blk 1 (dw [oM 17 0,oM 18 5,oI 19 1 17 18,oL 20 19,oM 21 1,oM 22 5,oI 23 1 21 22,oL 24 23] [oB 25 .neq 20 24] (oG 25 (oR 4 kf)))) (.reg [oM 15 5,oZ 16 15 1,oM 5 16]))))) (oR 4 kt))))⟩
theorem Ae1:A6 Tryz.prog 20=some A5b:=by kernel_rfl
theorem Aab (U:St) (v u:GV) (l m:List Int) (hv:RS pI.kd U v l) (hu:RS pI.kd U u m) (hl:l.length<=1099511627776):Ret Tryz.prog 20 [v,u] U (.bool (decide (l=m))) U:=by
 refine Ae Ae1 (Z0z rfl) trivial ?_
 simp +contextual (disch:=omega) only[go_sem,A5b,hv.len,hu.len]
 refine⟨fun hn=> ?_,fun hn=> ?_⟩
 ·have:l≠m:=fun h=>by subst h;simp at hn
  simp[this]
 have hlm:l.length=m.length:=by
                    have h2:(l.length:Int)=m.length:=by simpa using hn
                    omega
 refine Bk l.length 5 (fun i env N=>env 0=v/\env 1=u/\l.take i=m.take i/\U <+: N) rfl ⟨rfl,rfl,rfl,Zab _⟩ ?_ ?_
 ·rintro i env N hi e5 c0 ⟨e0,e1,he,hp⟩
  have hj:i<m.length:=by omega
  have h1:=hv.pre hp
  have h2:=hu.pre hp
  have hne:l[i]≠m[i]->l≠m:=fun h h'=>h (by subst h';rfl)
  have hst:l[i]=m[i]->l.take (i+1)=m.take (i+1):=fun h=>by rw[Ax hi,Ax hj,he,h]
  simp +contextual (disch:=omega) only[go_sem,c0,e0,e1,e5,hv.len,hu.len,Cx h1 hi,Cx h2 hj,hp]
  refine⟨fun h=> ?_,fun h=> ?_⟩
  ·simp[hne (by simpa using h)]
  ·simpa using hst (by simpa using h)
 ·rintro env N e5 c0 ⟨e0,e1,he,hp⟩
  rw[Zac,hlm,Zac] at he
  simp +contextual (disch:=omega) only[go_sem,c0,e0,e1,e5,hv.len,hu.len,hp]
  simp[he]
def A5d:Fn1:=⟨31,[.t 4],(rg [oX 2 0,oX 3 1,oV 4 kf] (.seq (rg [oF 5 0 2,oL 6 5,oF 7 0 3,oL 8 7,o 9 (.eqb true (.t 6) (.t 8))] (oG 9 (oR 4 kf))) (.seq (rg [oF 10 1 2,oL 11 10,oF 12 1 3,oL 13 12,oB 14 .neq 11 13] (oG 14 (oR 4 kf))) (.seq (rg [oF 15 2 2,oL 16 15,oF 17 2 3,oL 18 17,oB 19 .neq 16 18] (oG 19 (oR 4 kf))) (.seq (rg [oF 20 3 2,oL 21 20,oF 22 3 3,oL 23 22,oB 24 .neq 21 23] (oG 24 (oR 4 kf))) (.seq (rg [oF 25 4 2,oW 26 2 25,oF 27 4 3,oW 28 2 27,oD 29 253 26 28,oU 30 29] (oG 30 (oR 4 kf))) (oR 4 kt)))))))⟩
theorem Ae2:A6 Tryz.prog 185=some A5d:=by kernel_rfl
theorem Aac (U:St) (x y:Live):Ret Tryz.prog 185 [.agg [.bool x.map,.str x.obj,.str x.key,.int .i64 x.val,.int .i64 x.dot.rep,.int .i64 x.dot.seq],.agg [.bool y.map,.str y.obj,.str y.key,.int .i64 y.val,.int .i64 y.dot.rep,.int .i64 y.dot.seq]] U (.bool (decide (x=y))) U:=by
 refine Ae Ae2 (Z0z rfl) trivial ?_
 simp +contextual (disch:=omega) only[go_sem,A5d,Zaa]
 refine⟨fun hn=> ?_,fun hn=> ?_⟩
 ·simp only[Live.eq_iff];simp at hn ⊢;simp[hn]
 have q0:x.map=y.map:=by simpa using hn
 refine⟨fun hn=> ?_,fun hn=> ?_⟩
 ·simp only[Live.eq_iff];simp at hn ⊢;simp[hn]
 have q1:x.obj=y.obj:=by simpa using hn
 refine⟨fun hn=> ?_,fun hn=> ?_⟩
 ·simp only[Live.eq_iff];simp at hn ⊢;simp[hn]
 have q2:x.key=y.key:=by simpa using hn
 refine⟨fun hn=> ?_,fun hn=> ?_⟩
 ·simp only[Live.eq_iff];simp at hn ⊢;simp[hn]
 have q3:x.val=y.val:=by simpa using hn
 refine A9 (Pk _ x.dot y.dot) ?_
 simp +contextual (disch:=omega) only[go_sem,Zaa]
 refine⟨fun hn=> ?_,fun hn=> ?_⟩
 ·simp only[Live.eq_iff];simp at hn ⊢;simp[hn]
 have q4:x.dot=y.dot:=by simpa using hn
 simp only[Live.eq_iff,q0,q1,q2,q3,q4,and_self,decide_true]
def A0a:Fn1:=⟨27,[.t 4],(rg [oV 4 kf] (.seq (rg [oM 6 0,oN 7 6,oM 8 1,oN 9 8,oB 10 .neq 7 9] (oG 10 (oR 4 kf))) (.seq (rg [oV 5 (ki 0)] (oH 0 (.seq (rg [oM 11 5,oM 12 0,oN 13 12,oB 14 .lss 11 13] (oJ 14 0)) (.seq (.blk 1 (dw [oM 17 0,oM 18 5,oI 19 6 17 18,oW 20 6 19,oM 21 1,oM 22 5,oI 23 6 21 22,oW 24 6 23] [oD 25 185 20 24,oU 26 25] (oG 26 (oR 4 kf)))) (.reg [oM 15 5,oZ 16 15 1,oM 5 16]))))) (oR 4 kt))))⟩
theorem Aad:A6 Tryz.prog 82=some A0a:=by kernel_rfl
theorem A7z (U:St) (v u:GV) (l m:List Live) (hv:RS Bp.kd U v l) (hu:RS Bp.kd U u m) (hl:(l.length+sumL Cr l)<=1099511627776):Ret Tryz.prog 82 [v,u] U (.bool (decide (l=m))) U:=by
 refine Ae Aad (Z0z rfl) trivial ?_
 simp +contextual (disch:=omega) only[go_sem,A0a,hv.len,hu.len]
 refine⟨fun hn=> ?_,fun hn=> ?_⟩
 ·have:l≠m:=fun h=>by subst h;simp at hn
  simp[this]
 have hlm:l.length=m.length:=by
                    have h2:(l.length:Int)=m.length:=by simpa using hn
                    omega
 refine Bk l.length 5 (fun i env N=>env 0=v/\env 1=u/\l.take i=m.take i/\U <+: N) rfl ⟨rfl,rfl,rfl,Zab _⟩ ?_ ?_
 ·rintro i env N hi e5 c0 ⟨e0,e1,he,hp⟩
  have hj:i<m.length:=by omega
  have h1:=hv.pre hp
  have h2:=hu.pre hp
  have hne:l[i]≠m[i]->l≠m:=fun h h'=>h (by subst h';rfl)
  have hst:l[i]=m[i]->l.take (i+1)=m.take (i+1):=fun h=>by rw[Ax hi,Ax hj,he,h]
  have hms:Cr l[i]<=sumL Cr l:=He (Zal hi)
  simp +contextual (disch:=omega) only[go_sem,c0,e0,e1,e5,hv.len,hu.len,A7 h1 hi,A7 h2 hj]
  refine A9 (Aac N l[i] m[i]) ?_
  simp +contextual (disch:=omega) only[go_sem,e0,e1,e5,hp]
  refine⟨fun h=> ?_,fun h=> ?_⟩
  ·simp[hne (by simpa using h)]
  ·simpa using hst (by simpa using h)
 ·rintro env N e5 c0 ⟨e0,e1,he,hp⟩
  rw[Zac,hlm,Zac] at he
  simp +contextual (disch:=omega) only[go_sem,c0,e0,e1,e5,hv.len,hu.len,hp]
  simp[he]
def A0c:Fn1:=⟨20,[.t 4],(rg [oX 2 0,oX 3 1,oV 4 kf] (.seq (rg [oF 5 0 2,oL 6 5,oF 7 0 3,oL 8 7,oB 9 .neq 6 8] (oG 9 (oR 4 kf))) (.seq (rg [oF 10 1 2,oL 11 10,oF 12 1 3,oL 13 12,oB 14 .neq 11 13] (oG 14 (oR 4 kf))) (.seq (rg [oF 15 2 2,oL 16 15,oF 17 2 3,oL 18 17,oB 19 .neq 16 18] (oG 19 (oR 4 kf))) (oR 4 kt)))))⟩
theorem Aae:A6 Tryz.prog 184=some A0c:=by kernel_rfl
theorem A80 (U:St) (x y:Tally):Ret Tryz.prog 184 [.agg [.str x.obj,.int .i64 x.rep,.int .i64 x.sum],.agg [.str y.obj,.int .i64 y.rep,.int .i64 y.sum]] U (.bool (decide (x=y))) U:=by
 refine Ae Aae (Z0z rfl) trivial ?_
 simp +contextual (disch:=omega) only[go_sem,A0c,Zaa]
 refine⟨fun hn=> ?_,fun hn=> ?_⟩
 ·simp only[Tally.eq_iff];simp at hn ⊢;simp[hn]
 have q0:x.obj=y.obj:=by simpa using hn
 refine⟨fun hn=> ?_,fun hn=> ?_⟩
 ·simp only[Tally.eq_iff];simp at hn ⊢;simp[hn]
 have q1:x.rep=y.rep:=by simpa using hn
 refine⟨fun hn=> ?_,fun hn=> ?_⟩
 ·simp only[Tally.eq_iff];simp at hn ⊢;simp[hn]
 have q2:x.sum=y.sum:=by simpa using hn
 simp only[Tally.eq_iff,q0,q1,q2,and_self,decide_true]
def Vi:Fn1:=⟨27,[.t 4],(rg [oV 4 kf] (.seq (rg [oM 6 0,oN 7 6,oM 8 1,oN 9 8,oB 10 .neq 7 9] (oG 10 (oR 4 kf))) (.seq (rg [oV 5 (ki 0)] (oH 0 (.seq (rg [oM 11 5,oM 12 0,oN 13 12,oB 14 .lss 11 13] (oJ 14 0)) (.seq (.blk 1 (dw [oM 17 0,oM 18 5,oI 19 3 17 18,oW 20 3 19,oM 21 1,oM 22 5,oI 23 3 21 22,oW 24 3 23] [oD 25 184 20 24,oU 26 25] (oG 26 (oR 4 kf)))) (.reg [oM 15 5,oZ 16 15 1,oM 5 16]))))) (oR 4 kt))))⟩
theorem A81:A6 Tryz.prog 81=some Vi:=by kernel_rfl
theorem A47 (U:St) (v u:GV) (l m:List Tally) (hv:RS Ba.kd U v l) (hu:RS Ba.kd U u m) (hl:(l.length+sumL C5 l)<=1099511627776):Ret Tryz.prog 81 [v,u] U (.bool (decide (l=m))) U:=by
 refine Ae A81 (Z0z rfl) trivial ?_
 simp +contextual (disch:=omega) only[go_sem,Vi,hv.len,hu.len]
 refine⟨fun hn=> ?_,fun hn=> ?_⟩
 ·have:l≠m:=fun h=>by subst h;simp at hn
  simp[this]
 have hlm:l.length=m.length:=by
                    have h2:(l.length:Int)=m.length:=by simpa using hn
                    omega
 refine Bk l.length 5 (fun i env N=>env 0=v/\env 1=u/\l.take i=m.take i/\U <+: N) rfl ⟨rfl,rfl,rfl,Zab _⟩ ?_ ?_
 ·rintro i env N hi e5 c0 ⟨e0,e1,he,hp⟩
  have hj:i<m.length:=by omega
  have h1:=hv.pre hp
  have h2:=hu.pre hp
  have hne:l[i]≠m[i]->l≠m:=fun h h'=>h (by subst h';rfl)
  have hst:l[i]=m[i]->l.take (i+1)=m.take (i+1):=fun h=>by rw[Ax hi,Ax hj,he,h]
  have hms:C5 l[i]<=sumL C5 l:=He (Zal hi)
  simp +contextual (disch:=omega) only[go_sem,c0,e0,e1,e5,hv.len,hu.len,Ad h1 hi,Ad h2 hj]
  refine A9 (A80 N l[i] m[i]) ?_
  simp +contextual (disch:=omega) only[go_sem,e0,e1,e5,hp]
  refine⟨fun h=> ?_,fun h=> ?_⟩
  ·simp[hne (by simpa using h)]
  ·simpa using hst (by simpa using h)
 ·rintro env N e5 c0 ⟨e0,e1,he,hp⟩
  rw[Zac,hlm,Zac] at he
  simp +contextual (disch:=omega) only[go_sem,c0,e0,e1,e5,hv.len,hu.len,hp]
  simp[he]
def A0e:Fn1:=⟨29,[.t 4],(rg [oX 2 0,oX 3 1,oV 4 kf] (.seq (rg [oF 5 0 2,oL 6 5,oF 7 0 3,oL 8 7,oD 9 20 6 8,oU 10 9] (oG 10 (oR 4 kf))) (.seq (rg [oF 11 1 2,oL 12 11,oF 13 1 3,oL 14 13,oD 15 81 12 14,oU 16 15] (oG 16 (oR 4 kf))) (.seq (rg [oF 17 2 2,oL 18 17,oF 19 2 3,oL 20 19,oD 21 82 18 20,oU 22 21] (oG 22 (oR 4 kf))) (.seq (rg [oF 23 3 2,oL 24 23,oF 25 3 3,oL 26 25,oD 27 83 24 26,oU 28 27] (oG 28 (oR 4 kf))) (oR 4 kt))))))⟩
theorem Aaf:A6 Tryz.prog 21=some A0e:=by kernel_rfl
theorem Qp (U:St) (cs ds:List GV) (x y:State) (hx:A4.R U x cs) (hy:A4.R U y ds) (hl:Aa x<=1099511627776):Ret Tryz.prog 21 [.agg cs,.agg ds] U (.bool (decide (x=y))) U:=by
 obtain⟨v0,v1,v2,v3,rfl,q0_,q1_,q2_,q3_⟩:=hx
 obtain⟨u0,u1,u2,u3,rfl,p0_,p1_,p2_,p3_⟩:=hy
 unfold Aa at hl
 refine Ae Aaf (Z0z rfl) trivial ?_
 simp +contextual (disch:=omega) only[go_sem,A0e,Zaa]
 refine A9 (Aab _ v0 u0 x.know y.know (q0_.pre pre2) (p0_.pre pre2) (by omega)) ?_
 simp +contextual (disch:=omega) only[go_sem,Zaa]
 refine⟨fun hn=> ?_,fun hn=> ?_⟩
 ·simp only[State.eq_iff];simp at hn ⊢;simp[hn]
 have q0:x.know=y.know:=by simpa using hn
 refine A9 (A47 _ v1 u1 x.tallies y.tallies (q1_.pre pre2) (p1_.pre pre2) (by omega)) ?_
 simp +contextual (disch:=omega) only[go_sem,Zaa]
 refine⟨fun hn=> ?_,fun hn=> ?_⟩
 ·simp only[State.eq_iff];simp at hn ⊢;simp[hn]
 have q1:x.tallies=y.tallies:=by simpa using hn
 refine A9 (A7z _ v2 u2 x.lives y.lives (q2_.pre pre2) (p2_.pre pre2) (by omega)) ?_
 simp +contextual (disch:=omega) only[go_sem,Zaa]
 refine⟨fun hn=> ?_,fun hn=> ?_⟩
 ·simp only[State.eq_iff];simp at hn ⊢;simp[hn]
 have q2:x.lives=y.lives:=by simpa using hn
 refine A9 (A7y _ v3 u3 x.cells y.cells (q3_.pre pre2) (p3_.pre pre2) (by omega)) ?_
 simp +contextual (disch:=omega) only[go_sem,Zaa]
 refine⟨fun hn=> ?_,fun hn=> ?_⟩
 ·simp only[State.eq_iff];simp at hn ⊢;simp[hn]
 have q3:x.cells=y.cells:=by simpa using hn
 simp only[State.eq_iff,q0,q1,q2,q3,and_self,decide_true]
def A5f:Fn1:=⟨13,[.t 4],(rg [oX 2 0,oV 4 (ki 0)] (rg [oM 5 1,oF 6 0 2,oL 7 6,o 8 (.len true (.t 7)),oB 9 .sub 5 8,oM 1 9] (.seq (rg [oM 10 1,oE 11 .lss 10 0] (oG 11 (rg [o 4 (.mov (ki (-1)))] .ret))) (rg [oM 12 1,oM 4 12] .ret))))⟩
theorem Ae3:A6 Tryz.prog 180=some A5f:=by kernel_rfl
theorem Aag (U:St) (x:Cell) (n:Int) (hw:Ahd x) (h0:0<=n) (h1:n<=1099511627776):Ret Tryz.prog 180 [.agg [.str x.obj,.int .i64 x.dot.rep,.int .i64 x.dot.seq,.int .i64 x.time,.int .i64 x.ref.rep,.int .i64 x.ref.seq,.int .i64 x.val,.bool x.gone],gi n] U (gi (lf n (Dm x))) U:=by
 have w0:=hw;unfold Ahd at w0
 refine Ae Ae3 (Z0z rfl) trivial ?_
 simp +contextual (disch:=omega) only[go_sem,A5f,Zaa]
 refine⟨fun hn=> ?_,fun hn=> ?_⟩
 ·have hn:=of_decide_eq_true hn
  unfold Dm lf;rw[if_pos (by omega)]
 have hn:=of_decide_eq_false hn
 try simp(disch:=omega) only[Bi]
 unfold Dm;rw[show lf n (x.obj.size)=n - ((x.obj.size:Nat):Int) by unfold lf;rw[if_neg (by omega)]];try omega
def A0g:Fn1:=⟨27,[.t 4],(rg [oV 4 (ki 0)] (rg [oM 6 1,oM 7 0,oN 8 7,oB 9 .sub 6 8,oM 1 9] (.seq (rg [oM 10 1,oE 11 .lss 10 0] (oG 11 (rg [o 4 (.mov (ki (-1)))] .ret))) (.seq (rg [oV 5 (ki 0)] (oH 0 (.seq (rg [oM 12 5,oM 13 0,oN 14 13,oB 15 .lss 12 14] (oJ 15 0)) (.seq (.blk 1 (rg [oM 18 0,oM 19 5,oI 20 8 18 19,oW 21 8 20,oM 22 1,oD 23 180 21 22,oM 1 23] (rg [oM 24 1,oE 25 .lss 24 0] (oG 25 (rg [o 4 (.mov (ki (-1)))] .ret))))) (.reg [oM 16 5,oZ 17 16 1,oM 5 17]))))) (rg [oM 26 1,oM 4 26] .ret)))))⟩
theorem Aah:A6 Tryz.prog 76=some A0g:=by kernel_rfl
theorem A82 (U:St) (v:GV) (l:List Cell) (hR:RS Ak.kd U v l) (n:Int) (hw:l.length<=9223372036854775807/\∀ y∈l,Ahd y) (h0:0<=n) (h1:n<=1099511627776):Ret Tryz.prog 76 [v,gi n] U (gi (lf n (l.length+sumL Dm l))) U:=by
 obtain⟨wl,we⟩:=hw
 refine Ae Aah (Z0z rfl) trivial ?_
 simp +contextual (disch:=omega) only[go_sem,A0g,hR.len]
 refine⟨fun hn=> ?_,fun hn=> ?_⟩
 ·have hn:=of_decide_eq_true hn
  unfold lf;rw[if_pos (by omega)]
 have hn:=of_decide_eq_false hn
 refine Bk l.length 5 (fun i env N=>∃ m:Int,env 0=v/\env 1=gi m/\m=n - l.length - sumL Dm (l.take i)/\0<=m/\U <+: N) rfl ⟨n - l.length,rfl,rfl,by simp[sumL],by omega,Zab _⟩ ?_ ?_
 ·rintro i env N hi e5 c0 ⟨m,e0,e1,em,hm,hp⟩
  have h1:=hR.pre hp
  have hs:=A06 (f:=Dm) hi
  have hst:=M5 Dm l (i+1)
  simp +contextual (disch:=omega) only[go_sem,c0,e0,e1,e5,hR.len,A8 h1 hi]
  refine A9 (Aag N l[i] m (we _ (Zal hi)) hm (by omega)) ?_
  simp +contextual (disch:=omega) only[go_sem,c0,e0,e1,e5,hp]
  have g0:= @A46 m (Dm l[i]) hm
  have g1:= @Ahc m (Dm l[i])
  refine⟨fun hn=> ?_,fun hn=> ?_⟩
  ·have hn:=A05.1 (of_decide_eq_true hn)
   unfold lf;rw[if_pos (by omega)]
  ·have hn:=of_decide_eq_false hn
   have f:=J5 hn
   exact⟨_,rfl,by omega,by omega⟩
 ·rintro env N e5 c0 ⟨m,e0,e1,em,hm,hp⟩
  rw[Zac] at em
  simp +contextual (disch:=omega) only[go_sem,c0,e0,e1,e5,hR.len,hp]
  unfold lf;rw[if_neg (by omega)];omega
def A5h:Fn1:=⟨12,[.t 4],(rg [oV 4 (ki 0)] (rg [oM 5 1,oM 6 0,oN 7 6,oB 8 .sub 5 7,oM 1 8] (.seq (rg [oM 9 1,oE 10 .lss 9 0] (oG 10 (rg [o 4 (.mov (ki (-1)))] .ret))) (rg [oM 11 1,oM 4 11] .ret))))⟩
theorem Ae4:A6 Tryz.prog 73=some A5h:=by kernel_rfl
theorem Aai (U:St) (v:GV) (l:List Int) (hR:RS pI.kd U v l) (n:Int) (hw:l.length<=9223372036854775807) (h0:0<=n) (h1:n<=1099511627776):Ret Tryz.prog 73 [v,gi n] U (gi (lf n l.length)) U:=by
 refine Ae Ae4 (Z0z rfl) trivial ?_
 simp +contextual (disch:=omega) only[go_sem,A5h,hR.len]
 refine⟨fun h=> ?_,fun h=> ?_⟩
 ·rw[lf,if_pos (of_decide_eq_true h)]
 ·rw[lf,if_neg (of_decide_eq_false h)]
def A5j:Fn1:=⟨20,[.t 4],(rg [oX 2 0,oV 4 (ki 0)] (rg [oM 5 1,oF 6 1 2,oL 7 6,o 8 (.len true (.t 7)),oB 9 .sub 5 8,oM 1 9] (.seq (rg [oM 10 1,oE 11 .lss 10 0] (oG 11 (rg [o 4 (.mov (ki (-1)))] .ret))) (rg [oM 12 1,oF 13 2 2,oL 14 13,o 15 (.len true (.t 14)),oB 16 .sub 12 15,oM 1 16] (.seq (rg [oM 17 1,oE 18 .lss 17 0] (oG 18 (rg [o 4 (.mov (ki (-1)))] .ret))) (rg [oM 19 1,oM 4 19] .ret))))))⟩
theorem Ae5:A6 Tryz.prog 179=some A5j:=by kernel_rfl
theorem Aaj (U:St) (x:Live) (n:Int) (hw:Ajd x) (h0:0<=n) (h1:n<=1099511627776):Ret Tryz.prog 179 [.agg [.bool x.map,.str x.obj,.str x.key,.int .i64 x.val,.int .i64 x.dot.rep,.int .i64 x.dot.seq],gi n] U (gi (lf n (Cr x))) U:=by
 obtain⟨w0,w1⟩:=hw
 refine Ae Ae5 (Z0z rfl) trivial ?_
 simp +contextual (disch:=omega) only[go_sem,A5j,Zaa]
 refine⟨fun hn=> ?_,fun hn=> ?_⟩
 ·have hn:=of_decide_eq_true hn
  unfold Cr lf;rw[if_pos (by omega)]
 have hn:=of_decide_eq_false hn
 try simp(disch:=omega) only[Bi]
 refine⟨fun hn=> ?_,fun hn=> ?_⟩
 ·have hn:=of_decide_eq_true hn
  unfold Cr lf;rw[if_pos (by omega)]
 have hn:=of_decide_eq_false hn
 try simp(disch:=omega) only[Bi]
 unfold Cr;rw[show lf n (x.obj.size+x.key.size)=n - ((x.obj.size+x.key.size:Nat):Int) by unfold lf;rw[if_neg (by omega)]];try omega
def A0i:Fn1:=⟨27,[.t 4],(rg [oV 4 (ki 0)] (rg [oM 6 1,oM 7 0,oN 8 7,oB 9 .sub 6 8,oM 1 9] (.seq (rg [oM 10 1,oE 11 .lss 10 0] (oG 11 (rg [o 4 (.mov (ki (-1)))] .ret))) (.seq (rg [oV 5 (ki 0)] (oH 0 (.seq (rg [oM 12 5,oM 13 0,oN 14 13,oB 15 .lss 12 14] (oJ 15 0)) (.seq (.blk 1 (rg [oM 18 0,oM 19 5,oI 20 6 18 19,oW 21 6 20,oM 22 1,oD 23 179 21 22,oM 1 23] (rg [oM 24 1,oE 25 .lss 24 0] (oG 25 (rg [o 4 (.mov (ki (-1)))] .ret))))) (.reg [oM 16 5,oZ 17 16 1,oM 5 17]))))) (rg [oM 26 1,oM 4 26] .ret)))))⟩
theorem Aak:A6 Tryz.prog 75=some A0i:=by kernel_rfl
theorem A83 (U:St) (v:GV) (l:List Live) (hR:RS Bp.kd U v l) (n:Int) (hw:l.length<=9223372036854775807/\∀ y∈l,Ajd y) (h0:0<=n) (h1:n<=1099511627776):Ret Tryz.prog 75 [v,gi n] U (gi (lf n (l.length+sumL Cr l))) U:=by
 obtain⟨wl,we⟩:=hw
 refine Ae Aak (Z0z rfl) trivial ?_
 simp +contextual (disch:=omega) only[go_sem,A0i,hR.len]
 refine⟨fun hn=> ?_,fun hn=> ?_⟩
 ·have hn:=of_decide_eq_true hn
  unfold lf;rw[if_pos (by omega)]
 have hn:=of_decide_eq_false hn
 refine Bk l.length 5 (fun i env N=>∃ m:Int,env 0=v/\env 1=gi m/\m=n - l.length - sumL Cr (l.take i)/\0<=m/\U <+: N) rfl ⟨n - l.length,rfl,rfl,by simp[sumL],by omega,Zab _⟩ ?_ ?_
 ·rintro i env N hi e5 c0 ⟨m,e0,e1,em,hm,hp⟩
  have h1:=hR.pre hp
  have hs:=A06 (f:=Cr) hi
  have hst:=M5 Cr l (i+1)
  simp +contextual (disch:=omega) only[go_sem,c0,e0,e1,e5,hR.len,A7 h1 hi]
  refine A9 (Aaj N l[i] m (we _ (Zal hi)) hm (by omega)) ?_
  simp +contextual (disch:=omega) only[go_sem,c0,e0,e1,e5,hp]
  have g0:= @A46 m (Cr l[i]) hm
  have g1:= @Ahc m (Cr l[i])
  refine⟨fun hn=> ?_,fun hn=> ?_⟩
  ·have hn:=A05.1 (of_decide_eq_true hn)
   unfold lf;rw[if_pos (by omega)]
  ·have hn:=of_decide_eq_false hn
   have f:=J5 hn
   exact⟨_,rfl,by omega,by omega⟩
 ·rintro env N e5 c0 ⟨m,e0,e1,em,hm,hp⟩
  rw[Zac] at em
  simp +contextual (disch:=omega) only[go_sem,c0,e0,e1,e5,hR.len,hp]
  unfold lf;rw[if_neg (by omega)];omega
def A0k:Fn1:=⟨13,[.t 4],(rg [oX 2 0,oV 4 (ki 0)] (rg [oM 5 1,oF 6 0 2,oL 7 6,o 8 (.len true (.t 7)),oB 9 .sub 5 8,oM 1 9] (.seq (rg [oM 10 1,oE 11 .lss 10 0] (oG 11 (rg [o 4 (.mov (ki (-1)))] .ret))) (rg [oM 12 1,oM 4 12] .ret))))⟩
theorem Aal:A6 Tryz.prog 178=some A0k:=by kernel_rfl
theorem A84 (U:St) (x:Tally) (n:Int) (hw:A57 x) (h0:0<=n) (h1:n<=1099511627776):Ret Tryz.prog 178 [.agg [.str x.obj,.int .i64 x.rep,.int .i64 x.sum],gi n] U (gi (lf n (C5 x))) U:=by
 have w0:=hw;unfold A57 at w0
 refine Ae Aal (Z0z rfl) trivial ?_
 simp +contextual (disch:=omega) only[go_sem,A0k,Zaa]
 refine⟨fun hn=> ?_,fun hn=> ?_⟩
 ·have hn:=of_decide_eq_true hn
  unfold C5 lf;rw[if_pos (by omega)]
 have hn:=of_decide_eq_false hn
 try simp(disch:=omega) only[Bi]
 unfold C5;rw[show lf n (x.obj.size)=n - ((x.obj.size:Nat):Int) by unfold lf;rw[if_neg (by omega)]];try omega
def Vk:Fn1:=⟨27,[.t 4],(rg [oV 4 (ki 0)] (rg [oM 6 1,oM 7 0,oN 8 7,oB 9 .sub 6 8,oM 1 9] (.seq (rg [oM 10 1,oE 11 .lss 10 0] (oG 11 (rg [o 4 (.mov (ki (-1)))] .ret))) (.seq (rg [oV 5 (ki 0)] (oH 0 (.seq (rg [oM 12 5,oM 13 0,oN 14 13,oB 15 .lss 12 14] (oJ 15 0)) (.seq (.blk 1 (rg [oM 18 0,oM 19 5,oI 20 3 18 19,oW 21 3 20,oM 22 1,oD 23 178 21 22,oM 1 23] (rg [oM 24 1,oE 25 .lss 24 0] (oG 25 (rg [o 4 (.mov (ki (-1)))] .ret))))) (.reg [oM 16 5,oZ 17 16 1,oM 5 17]))))) (rg [oM 26 1,oM 4 26] .ret)))))⟩
theorem A85:A6 Tryz.prog 74=some Vk:=by kernel_rfl
theorem A48 (U:St) (v:GV) (l:List Tally) (hR:RS Ba.kd U v l) (n:Int) (hw:l.length<=9223372036854775807/\∀ y∈l,A57 y) (h0:0<=n) (h1:n<=1099511627776):Ret Tryz.prog 74 [v,gi n] U (gi (lf n (l.length+sumL C5 l))) U:=by
 obtain⟨wl,we⟩:=hw
 refine Ae A85 (Z0z rfl) trivial ?_
 simp +contextual (disch:=omega) only[go_sem,Vk,hR.len]
 refine⟨fun hn=> ?_,fun hn=> ?_⟩
 ·have hn:=of_decide_eq_true hn
  unfold lf;rw[if_pos (by omega)]
 have hn:=of_decide_eq_false hn
 refine Bk l.length 5 (fun i env N=>∃ m:Int,env 0=v/\env 1=gi m/\m=n - l.length - sumL C5 (l.take i)/\0<=m/\U <+: N) rfl ⟨n - l.length,rfl,rfl,by simp[sumL],by omega,Zab _⟩ ?_ ?_
 ·rintro i env N hi e5 c0 ⟨m,e0,e1,em,hm,hp⟩
  have h1:=hR.pre hp
  have hs:=A06 (f:=C5) hi
  have hst:=M5 C5 l (i+1)
  simp +contextual (disch:=omega) only[go_sem,c0,e0,e1,e5,hR.len,Ad h1 hi]
  refine A9 (A84 N l[i] m (we _ (Zal hi)) hm (by omega)) ?_
  simp +contextual (disch:=omega) only[go_sem,c0,e0,e1,e5,hp]
  have g0:= @A46 m (C5 l[i]) hm
  have g1:= @Ahc m (C5 l[i])
  refine⟨fun hn=> ?_,fun hn=> ?_⟩
  ·have hn:=A05.1 (of_decide_eq_true hn)
   unfold lf;rw[if_pos (by omega)]
  ·have hn:=of_decide_eq_false hn
   have f:=J5 hn
   exact⟨_,rfl,by omega,by omega⟩
 ·rintro env N e5 c0 ⟨m,e0,e1,em,hm,hp⟩
  rw[Zac] at em
  simp +contextual (disch:=omega) only[go_sem,c0,e0,e1,e5,hR.len,hp]
  unfold lf;rw[if_neg (by omega)];omega
def A0m:Fn1:=⟨30,[.t 4],(rg [oX 2 0,oV 4 (ki 0)] (rg [oF 5 0 2,oL 6 5,oM 7 1,oD 8 73 6 7,oM 1 8] (.seq (rg [oM 9 1,oE 10 .lss 9 0] (oG 10 (rg [o 4 (.mov (ki (-1)))] .ret))) (rg [oF 11 1 2,oL 12 11,oM 13 1,oD 14 74 12 13,oM 1 14] (.seq (rg [oM 15 1,oE 16 .lss 15 0] (oG 16 (rg [o 4 (.mov (ki (-1)))] .ret))) (rg [oF 17 2 2,oL 18 17,oM 19 1,oD 20 75 18 19,oM 1 20] (.seq (rg [oM 21 1,oE 22 .lss 21 0] (oG 22 (rg [o 4 (.mov (ki (-1)))] .ret))) (rg [oF 23 3 2,oL 24 23,oM 25 1,oD 26 76 24 25,oM 1 26] (.seq (rg [oM 27 1,oE 28 .lss 27 0] (oG 28 (rg [o 4 (.mov (ki (-1)))] .ret))) (rg [oM 29 1,oM 4 29] .ret))))))))))⟩
theorem Aam:A6 Tryz.prog 14=some A0m:=by kernel_rfl
theorem Qq (U:St) (cs:List GV) (x:State) (hR:A4.R U x cs) (n:Int) (hw:Am9 x) (h0:0<=n) (h1:n<=1099511627776):Ret Tryz.prog 14 [.agg cs,gi n] U (gi (lf n (Aa x))) U:=by
 obtain⟨v0,v1,v2,v3,rfl,q0,q1,q2,q3⟩:=hR
 obtain⟨w0,w1,w2,w3⟩:=hw
 refine Ae Aam (Z0z rfl) trivial ?_
 simp +contextual (disch:=omega) only[go_sem,A0m,Zaa]
 refine A9 (Aai _ v0 x.know (q0.pre (pre1 _ _)) (n) w0 (by omega) (by omega)) ?_
 simp +contextual (disch:=omega) only[go_sem,Zaa]
 have g0:= @A46 (n) (x.know.length) (by omega)
 refine⟨fun hn=> ?_,fun hn=> ?_⟩
 ·have hn:=of_decide_eq_true hn
  have hn:=A05.1 hn
  unfold Aa lf;rw[if_pos (by omega)]
 have hn:=of_decide_eq_false hn
 have f0:=J5 hn
 try simp(disch:=omega) only[Bi]
 refine A9 (A48 _ v1 x.tallies (q1.pre (pre1 _ _)) (lf (n) (x.know.length)) w1 (by omega) (by omega)) ?_
 simp +contextual (disch:=omega) only[go_sem,Zaa]
 have g1:= @A46 (lf (n) (x.know.length)) ((x.tallies.length+sumL C5 x.tallies)) (by omega)
 refine⟨fun hn=> ?_,fun hn=> ?_⟩
 ·have hn:=of_decide_eq_true hn
  have hn:=A05.1 hn
  unfold Aa lf;rw[if_pos (by omega)]
 have hn:=of_decide_eq_false hn
 have f1:=J5 hn
 try simp(disch:=omega) only[Bi]
 refine A9 (A83 _ v2 x.lives (q2.pre (pre1 _ _)) (lf (lf (n) (x.know.length)) ((x.tallies.length+sumL C5 x.tallies))) w2 (by omega) (by omega)) ?_
 simp +contextual (disch:=omega) only[go_sem,Zaa]
 have g2:= @A46 (lf (lf (n) (x.know.length)) ((x.tallies.length+sumL C5 x.tallies))) ((x.lives.length+sumL Cr x.lives)) (by omega)
 refine⟨fun hn=> ?_,fun hn=> ?_⟩
 ·have hn:=of_decide_eq_true hn
  have hn:=A05.1 hn
  unfold Aa lf;rw[if_pos (by omega)]
 have hn:=of_decide_eq_false hn
 have f2:=J5 hn
 try simp(disch:=omega) only[Bi]
 refine A9 (A82 _ v3 x.cells (q3.pre (pre1 _ _)) (lf (lf (lf (n) (x.know.length)) ((x.tallies.length+sumL C5 x.tallies))) ((x.lives.length+sumL Cr x.lives))) w3 (by omega) (by omega)) ?_
 simp +contextual (disch:=omega) only[go_sem,Zaa]
 have g3:= @A46 (lf (lf (lf (n) (x.know.length)) ((x.tallies.length+sumL C5 x.tallies))) ((x.lives.length+sumL Cr x.lives))) ((x.cells.length+sumL Dm x.cells)) (by omega)
 refine⟨fun hn=> ?_,fun hn=> ?_⟩
 ·have hn:=of_decide_eq_true hn
  have hn:=A05.1 hn
  unfold Aa lf;rw[if_pos (by omega)]
 have hn:=of_decide_eq_false hn
 have f3:=J5 hn
 try simp(disch:=omega) only[Bi]
 unfold Aa;rw[show lf n (x.know.length+(x.tallies.length+sumL C5 x.tallies)+(x.lives.length+sumL Cr x.lives)+(x.cells.length+sumL Dm x.cells))=n - ((x.know.length+(x.tallies.length+sumL C5 x.tallies)+(x.lives.length+sumL Cr x.lives)+(x.cells.length+sumL Dm x.cells):Nat):Int) by unfold lf;rw[if_neg (by omega)]];try omega
theorem Hp.ownAct {U N:St} {rs:List Thg} {x:Act} {v2:GV} (H:Hp U N (ow pI.kd v2 x.knew::rs)):Hp U N (own kAct ((GV.int .i64 x.dot.rep)::(GV.int .i64 x.dot.seq)::(GV.int .i64 x.time)::v2::(GV.int .i64 x.kind)::(GV.str x.obj)::(GV.str x.key)::(GV.int .i64 x.val)::(GV.int .i64 x.ref.rep)::(GV.int .i64 x.ref.seq)::[]) x::rs):=by
 refine(H).conv ?_
 intro fp h0
 exact⟨v2,fp,rfl,h0,rfl⟩
theorem Hp.ownState {U N:St} {rs:List Thg} {x:State} {v0:GV} {v1:GV} {v2:GV} {v3:GV} (H:Hp U N (ow pI.kd v0 x.know::ow Ba.kd v1 x.tallies::ow Bp.kd v2 x.lives::ow Ak.kd v3 x.cells::rs)):Hp U N (own A4 (v0::v1::v2::v3::[]) x::rs):=by
 refine(H.join.join.join).conv ?_
 rintro fp ⟨_,f3,⟨_,f2,⟨f0,f1,h0,h1,rfl⟩,h2,rfl⟩,h3,rfl⟩
 exact⟨v0,v1,v2,v3,f0,f1,f2,f3,rfl,h0,h1,h2,h3,by simp[Zas]⟩
theorem Hp.splitState {U N:St} {rs:List Thg} {x:State} {cs:List GV} (H:Hp U N (own A4 cs x::rs)):∃ v0 v1 v2 v3,cs=v0::v1::v2::v3::[]/\Hp U N (ow pI.kd v0 x.know::ow Ba.kd v1 x.tallies::ow Bp.kd v2 x.lives::ow Ak.kd v3 x.cells::rs):=by
 obtain⟨h,fp,⟨a,b,⟨v0,v1,v2,v3,f0,f1,f2,f3,rfl,h0,h1,h2,h3,rfl⟩,hs,rfl⟩,hn,hb⟩:=H
 exact⟨v0,v1,v2,v3,rfl,h,_,⟨_,_,h0,⟨_,_,h1,⟨_,_,h2,⟨_,_,h3,hs,rfl⟩,rfl⟩,rfl⟩,rfl⟩,by simpa [Zas] using hn,by simpa [Zas] using hb⟩
def Aao:Fn1:=⟨11,[.c 2 true 2],(rg [oX 1 0,o 2 (.new [z0,z0])] (rg [o 3 (.new [z0,z0])] (rg [oF 4 0 1,oL 5 4,oF 6 0 3,oS 1 6 5] (rg [oF 7 1 1,oL 8 7,oF 9 1 3,oS 1 9 8] (rg [oW 10 2 3,oS 2 2 10] .ret)))))⟩
theorem Ahf:A6 Tryz.prog 252=some Aao:=by kernel_rfl
theorem Pm (U:St) (x:Dot):Ret Tryz.prog 252 [.agg [.int .i64 x.rep,.int .i64 x.seq]] U (.agg [.int .i64 x.rep,.int .i64 x.seq]) U:=by
 refine Ae Ahf (Z0z rfl) (by simp[vLt,cLt,sLt]) ?_
 simp +contextual (disch:=omega) only[go_sem,Aao]
def A5l:Fn1:=⟨25,[.c 2 true 8],(rg [oX 1 0,o 2 (.new [s0,z0,z0,z0,z0,z0,z0,(.bool false)])] (rg [o 3 (.new [s0,z0,z0,z0,z0,z0,z0,(.bool false)])] (rg [oF 4 0 1,oL 5 4,oF 6 0 3,oS 1 6 5] (rg [oF 7 1 1,oW 8 2 7,oC 9 252 8,oF 10 1 3,oS 2 10 9] (rg [oF 11 3 1,oL 12 11,oF 13 3 3,oS 1 13 12] (rg [oF 14 4 1,oW 15 2 14,oC 16 252 15,oF 17 4 3,oS 2 17 16] (rg [oF 18 6 1,oL 19 18,oF 20 6 3,oS 1 20 19] (rg [oF 21 7 1,oL 22 21,oF 23 7 3,oS 1 23 22] (rg [oW 24 8 3,oS 8 2 24] .ret)))))))))⟩
theorem Ae6:A6 Tryz.prog 183=some A5l:=by kernel_rfl
theorem Aap (U:St) (x:Cell):Ret Tryz.prog 183 [.agg [.str x.obj,.int .i64 x.dot.rep,.int .i64 x.dot.seq,.int .i64 x.time,.int .i64 x.ref.rep,.int .i64 x.ref.seq,.int .i64 x.val,.bool x.gone]] U (.agg [.str x.obj,.int .i64 x.dot.rep,.int .i64 x.dot.seq,.int .i64 x.time,.int .i64 x.ref.rep,.int .i64 x.ref.seq,.int .i64 x.val,.bool x.gone]) U:=by
 refine Ae Ae6 (Z0z rfl) (by simp[vLt,cLt,sLt]) ?_
 simp +contextual (disch:=omega) only[go_sem,A5l]
 refine A9 (Pm _ x.dot) ?_
 simp +contextual (disch:=omega) only[go_sem,Zaa]
 refine A9 (Pm _ x.ref) ?_
 simp +contextual (disch:=omega) only[go_sem,Zaa]
def A0o:Fn1:=⟨23,[.t 2],(rg [o 2 (.mov (.k .nilS))] (rg [oM 5 0,oN 6 5,o 7 (.mks 8 72 [s0,z0,z0,z0,z0,z0,z0,(.bool false)] (.t 6) (.t 6)),oM 3 7] (.seq (rg [oV 4 (ki 0)] (oH 0 (.seq (rg [oM 8 4,oM 9 0,oN 10 9,oB 11 .lss 8 10] (oJ 11 0)) (.seq (.blk 1 (.reg [oM 14 3,oM 15 4,oM 16 0,oM 17 4,oI 18 8 16 17,oW 19 8 18,oC 20 183 19,oI 21 8 14 15,oS 8 21 20])) (.reg [oM 12 4,oZ 13 12 1,oM 4 13]))))) (rg [oM 22 3,oM 2 22] .ret))))⟩
theorem Aaq:A6 Tryz.prog 80=some A0o:=by kernel_rfl
theorem A86 (U:St) (v:GV) (l:List Cell) (hR:RS Ak.kd U v l) (hl:l.length<=1099511627776):∃ r N,Ret Tryz.prog 80 [v] U r N/\Hp U N [ow Ak.kd r l]:=by
 refine A56 (rs:=fun r=>[ow Ak.kd r l]) Aaq (Z0z rfl) ?_
 have hmk:∀ ze,mksG 8 72 ze U (some l.length) (some l.length)=some (.sl U.length 0 l.length,U++[some (.row 8 (reps l.length ze))]):=fun ze=>Aa3 (by omega)
 simp +contextual (disch:=omega) only[go_sem,A0o,hR.len,hmk]
 have H0:=((Hp.refl U).new 8 (reps l.length (Ak.enc ⟨⟨#[]⟩,⟨0,0⟩,0,⟨0,0⟩,0,false⟩))).toRow 0 (p:=Ak) rfl (Zaf l.length ⟨⟨#[]⟩,⟨0,0⟩,0,⟨0,0⟩,0,false⟩) rfl (Zk _ _ _) l.length (by simp)
 refine Bk l.length 4 (fun i env N=>env 0=v/\env 3= .sl U.length 0 l.length/\Hp U N [ow Ak.kd (.sl U.length 0 l.length) (l.take i++Zaf (l.length - i) ⟨⟨#[]⟩,⟨0,0⟩,0,⟨0,0⟩,0,false⟩)]) rfl ⟨rfl,rfl,by rw[Za3,Zar,Zba];exact H0⟩ ?_ ?_
 ·rintro i env N hi e4 c0 ⟨e0,e3,H⟩
  have h1:=hR.pre H.sub
  have h2:=H.sl 0 rfl
  have hj:=Zl (z:=(⟨⟨#[]⟩,⟨0,0⟩,0,⟨0,0⟩,0,false⟩:Cell)) hi
  simp +contextual (disch:=omega) only[go_sem,e0,e3,e4,c0,hR.len,A8 h1 hi]
  refine A9 (Aap N l[i]) ?_
  obtain⟨N',es,H'⟩:=H.stw 0 rfl hj 8 (.agg [.str l[i].obj,.int .i64 l[i].dot.rep,.int .i64 l[i].dot.seq,.int .i64 l[i].time,.int .i64 l[i].ref.rep,.int .i64 l[i].ref.seq,.int .i64 l[i].val,.bool l[i].gone]) l[i] rfl rfl (by decide)
  rw[Qo hi] at H'
  have es:stG 8 N (atz 8 (.sl U.length 0 l.length) i) (.agg [.str l[i].obj,.int .i64 l[i].dot.rep,.int .i64 l[i].dot.seq,.int .i64 l[i].time,.int .i64 l[i].ref.rep,.int .i64 l[i].ref.seq,.int .i64 l[i].val,.bool l[i].gone])=some (.tup [],N'):=es
  simp +contextual (disch:=omega) only[go_sem,e0,e3,e4,c0,hR.len,A8 h1 hi,A8 h2 hj,es]
  exact H'
 ·rintro env N e4 c0 ⟨e0,e3,H⟩
  rw[Zm] at H
  simp +contextual (disch:=omega) only[go_sem,e0,e3,e4,c0,hR.len]
  exact⟨_,rfl,H⟩
def A5n:Fn1:=⟨22,[.t 2],(rg [o 2 (.mov (.k .nilS))] (rg [oM 5 0,oN 6 5,o 7 (.mks 1 8 [z0] (.t 6) (.t 6)),oM 3 7] (.seq (rg [oV 4 (ki 0)] (oH 0 (.seq (rg [oM 8 4,oM 9 0,oN 10 9,oB 11 .lss 8 10] (oJ 11 0)) (.seq (.blk 1 (.reg [oM 14 3,oM 15 4,oM 16 0,oM 17 4,oI 18 1 16 17,oL 19 18,oI 20 1 14 15,oS 1 20 19])) (.reg [oM 12 4,oZ 13 12 1,oM 4 13]))))) (rg [oM 21 3,oM 2 21] .ret))))⟩
theorem Ae7:A6 Tryz.prog 77=some A5n:=by kernel_rfl
theorem Aar (U:St) (v:GV) (l:List Int) (hR:RS pI.kd U v l) (hl:l.length<=1099511627776):∃ r N,Ret Tryz.prog 77 [v] U r N/\Hp U N [ow pI.kd r l]:=by
 refine A56 (rs:=fun r=>[ow pI.kd r l]) Ae7 (Z0z rfl) ?_
 have hmk:∀ ze,mksG 1 8 ze U (some l.length) (some l.length)=some (.sl U.length 0 l.length,U++[some (.row 1 (reps l.length ze))]):=fun ze=>Aa3 (by omega)
 simp +contextual (disch:=omega) only[go_sem,A5n,hR.len,hmk]
 have H0:=((Hp.refl U).new 1 (reps l.length (pI.enc 0))).toRow 0 (p:=pI) rfl (Zaf l.length 0) rfl (Zk _ _ _) l.length (by simp)
 refine Bk l.length 4 (fun i env N=>env 0=v/\env 3= .sl U.length 0 l.length/\Hp U N [ow pI.kd (.sl U.length 0 l.length) (l.take i++Zaf (l.length - i) 0)]) rfl ⟨rfl,rfl,by rw[Za3,Zar,Zba];exact H0⟩ ?_ ?_
 ·rintro i env N hi e4 c0 ⟨e0,e3,H⟩
  have h1:=hR.pre H.sub
  have h2:=H.sl 0 rfl
  have hj:=Zl (z:=(0:Int)) hi
  obtain⟨N',es,H'⟩:=H.stw 0 rfl hj 1 (.int .i64 l[i]) l[i] rfl rfl (by decide)
  rw[Qo hi] at H'
  have es:stG 1 N (atz 1 (.sl U.length 0 l.length) i) (.int .i64 l[i])=some (.tup [],N'):=es
  simp +contextual (disch:=omega) only[go_sem,e0,e3,e4,c0,hR.len,Cx h1 hi,Cx h2 hj,es]
  exact H'
 ·rintro env N e4 c0 ⟨e0,e3,H⟩
  rw[Zm] at H
  simp +contextual (disch:=omega) only[go_sem,e0,e3,e4,c0,hR.len]
  exact⟨_,rfl,H⟩
def A5p:Fn1:=⟨21,[.c 2 true 6],(rg [oX 1 0,o 2 (.new [(.bool false),s0,s0,z0,z0,z0])] (rg [o 3 (.new [(.bool false),s0,s0,z0,z0,z0])] (rg [oF 4 0 1,oL 5 4,oF 6 0 3,oS 1 6 5] (rg [oF 7 1 1,oL 8 7,oF 9 1 3,oS 1 9 8] (rg [oF 10 2 1,oL 11 10,oF 12 2 3,oS 1 12 11] (rg [oF 13 3 1,oL 14 13,oF 15 3 3,oS 1 15 14] (rg [oF 16 4 1,oW 17 2 16,oC 18 252 17,oF 19 4 3,oS 2 19 18] (rg [oW 20 6 3,oS 6 2 20] .ret))))))))⟩
theorem Ae8:A6 Tryz.prog 182=some A5p:=by kernel_rfl
theorem Aas (U:St) (x:Live):Ret Tryz.prog 182 [.agg [.bool x.map,.str x.obj,.str x.key,.int .i64 x.val,.int .i64 x.dot.rep,.int .i64 x.dot.seq]] U (.agg [.bool x.map,.str x.obj,.str x.key,.int .i64 x.val,.int .i64 x.dot.rep,.int .i64 x.dot.seq]) U:=by
 refine Ae Ae8 (Z0z rfl) (by simp[vLt,cLt,sLt]) ?_
 simp +contextual (disch:=omega) only[go_sem,A5p]
 refine A9 (Pm _ x.dot) ?_
 simp +contextual (disch:=omega) only[go_sem,Zaa]
def A0q:Fn1:=⟨23,[.t 2],(rg [o 2 (.mov (.k .nilS))] (rg [oM 5 0,oN 6 5,o 7 (.mks 6 64 [(.bool false),s0,s0,z0,z0,z0] (.t 6) (.t 6)),oM 3 7] (.seq (rg [oV 4 (ki 0)] (oH 0 (.seq (rg [oM 8 4,oM 9 0,oN 10 9,oB 11 .lss 8 10] (oJ 11 0)) (.seq (.blk 1 (.reg [oM 14 3,oM 15 4,oM 16 0,oM 17 4,oI 18 6 16 17,oW 19 6 18,oC 20 182 19,oI 21 6 14 15,oS 6 21 20])) (.reg [oM 12 4,oZ 13 12 1,oM 4 13]))))) (rg [oM 22 3,oM 2 22] .ret))))⟩
theorem Aat:A6 Tryz.prog 79=some A0q:=by kernel_rfl
theorem A87 (U:St) (v:GV) (l:List Live) (hR:RS Bp.kd U v l) (hl:l.length<=1099511627776):∃ r N,Ret Tryz.prog 79 [v] U r N/\Hp U N [ow Bp.kd r l]:=by
 refine A56 (rs:=fun r=>[ow Bp.kd r l]) Aat (Z0z rfl) ?_
 have hmk:∀ ze,mksG 6 64 ze U (some l.length) (some l.length)=some (.sl U.length 0 l.length,U++[some (.row 6 (reps l.length ze))]):=fun ze=>Aa3 (by omega)
 simp +contextual (disch:=omega) only[go_sem,A0q,hR.len,hmk]
 have H0:=((Hp.refl U).new 6 (reps l.length (Bp.enc ⟨false,⟨#[]⟩,⟨#[]⟩,0,⟨0,0⟩⟩))).toRow 0 (p:=Bp) rfl (Zaf l.length ⟨false,⟨#[]⟩,⟨#[]⟩,0,⟨0,0⟩⟩) rfl (Zk _ _ _) l.length (by simp)
 refine Bk l.length 4 (fun i env N=>env 0=v/\env 3= .sl U.length 0 l.length/\Hp U N [ow Bp.kd (.sl U.length 0 l.length) (l.take i++Zaf (l.length - i) ⟨false,⟨#[]⟩,⟨#[]⟩,0,⟨0,0⟩⟩)]) rfl ⟨rfl,rfl,by rw[Za3,Zar,Zba];exact H0⟩ ?_ ?_
 ·rintro i env N hi e4 c0 ⟨e0,e3,H⟩
  have h1:=hR.pre H.sub
  have h2:=H.sl 0 rfl
  have hj:=Zl (z:=(⟨false,⟨#[]⟩,⟨#[]⟩,0,⟨0,0⟩⟩:Live)) hi
  simp +contextual (disch:=omega) only[go_sem,e0,e3,e4,c0,hR.len,A7 h1 hi]
  refine A9 (Aas N l[i]) ?_
  obtain⟨N',es,H'⟩:=H.stw 0 rfl hj 6 (.agg [.bool l[i].map,.str l[i].obj,.str l[i].key,.int .i64 l[i].val,.int .i64 l[i].dot.rep,.int .i64 l[i].dot.seq]) l[i] rfl rfl (by decide)
  rw[Qo hi] at H'
  have es:stG 6 N (atz 6 (.sl U.length 0 l.length) i) (.agg [.bool l[i].map,.str l[i].obj,.str l[i].key,.int .i64 l[i].val,.int .i64 l[i].dot.rep,.int .i64 l[i].dot.seq])=some (.tup [],N'):=es
  simp +contextual (disch:=omega) only[go_sem,e0,e3,e4,c0,hR.len,A7 h1 hi,A7 h2 hj,es]
  exact H'
 ·rintro env N e4 c0 ⟨e0,e3,H⟩
  rw[Zm] at H
  simp +contextual (disch:=omega) only[go_sem,e0,e3,e4,c0,hR.len]
  exact⟨_,rfl,H⟩
def A0s:Fn1:=⟨14,[.c 2 true 3],(rg [oX 1 0,o 2 (.new [s0,z0,z0])] (rg [o 3 (.new [s0,z0,z0])] (rg [oF 4 0 1,oL 5 4,oF 6 0 3,oS 1 6 5] (rg [oF 7 1 1,oL 8 7,oF 9 1 3,oS 1 9 8] (rg [oF 10 2 1,oL 11 10,oF 12 2 3,oS 1 12 11] (rg [oW 13 3 3,oS 3 2 13] .ret))))))⟩
theorem Aau:A6 Tryz.prog 181=some A0s:=by kernel_rfl
theorem A88 (U:St) (x:Tally):Ret Tryz.prog 181 [.agg [.str x.obj,.int .i64 x.rep,.int .i64 x.sum]] U (.agg [.str x.obj,.int .i64 x.rep,.int .i64 x.sum]) U:=by
 refine Ae Aau (Z0z rfl) (by simp[vLt,cLt,sLt]) ?_
 simp +contextual (disch:=omega) only[go_sem,A0s]
def Vm:Fn1:=⟨23,[.t 2],(rg [o 2 (.mov (.k .nilS))] (rg [oM 5 0,oN 6 5,o 7 (.mks 3 32 [s0,z0,z0] (.t 6) (.t 6)),oM 3 7] (.seq (rg [oV 4 (ki 0)] (oH 0 (.seq (rg [oM 8 4,oM 9 0,oN 10 9,oB 11 .lss 8 10] (oJ 11 0)) (.seq (.blk 1 (.reg [oM 14 3,oM 15 4,oM 16 0,oM 17 4,oI 18 3 16 17,oW 19 3 18,oC 20 181 19,oI 21 3 14 15,oS 3 21 20])) (.reg [oM 12 4,oZ 13 12 1,oM 4 13]))))) (rg [oM 22 3,oM 2 22] .ret))))⟩
theorem A89:A6 Tryz.prog 78=some Vm:=by kernel_rfl
theorem A49 (U:St) (v:GV) (l:List Tally) (hR:RS Ba.kd U v l) (hl:l.length<=1099511627776):∃ r N,Ret Tryz.prog 78 [v] U r N/\Hp U N [ow Ba.kd r l]:=by
 refine A56 (rs:=fun r=>[ow Ba.kd r l]) A89 (Z0z rfl) ?_
 have hmk:∀ ze,mksG 3 32 ze U (some l.length) (some l.length)=some (.sl U.length 0 l.length,U++[some (.row 3 (reps l.length ze))]):=fun ze=>Aa3 (by omega)
 simp +contextual (disch:=omega) only[go_sem,Vm,hR.len,hmk]
 have H0:=((Hp.refl U).new 3 (reps l.length (Ba.enc ⟨⟨#[]⟩,0,0⟩))).toRow 0 (p:=Ba) rfl (Zaf l.length ⟨⟨#[]⟩,0,0⟩) rfl (Zk _ _ _) l.length (by simp)
 refine Bk l.length 4 (fun i env N=>env 0=v/\env 3= .sl U.length 0 l.length/\Hp U N [ow Ba.kd (.sl U.length 0 l.length) (l.take i++Zaf (l.length - i) ⟨⟨#[]⟩,0,0⟩)]) rfl ⟨rfl,rfl,by rw[Za3,Zar,Zba];exact H0⟩ ?_ ?_
 ·rintro i env N hi e4 c0 ⟨e0,e3,H⟩
  have h1:=hR.pre H.sub
  have h2:=H.sl 0 rfl
  have hj:=Zl (z:=(⟨⟨#[]⟩,0,0⟩:Tally)) hi
  simp +contextual (disch:=omega) only[go_sem,e0,e3,e4,c0,hR.len,Ad h1 hi]
  refine A9 (A88 N l[i]) ?_
  obtain⟨N',es,H'⟩:=H.stw 0 rfl hj 3 (.agg [.str l[i].obj,.int .i64 l[i].rep,.int .i64 l[i].sum]) l[i] rfl rfl (by decide)
  rw[Qo hi] at H'
  have es:stG 3 N (atz 3 (.sl U.length 0 l.length) i) (.agg [.str l[i].obj,.int .i64 l[i].rep,.int .i64 l[i].sum])=some (.tup [],N'):=es
  simp +contextual (disch:=omega) only[go_sem,e0,e3,e4,c0,hR.len,Ad h1 hi,Ad h2 hj,es]
  exact H'
 ·rintro env N e4 c0 ⟨e0,e3,H⟩
  rw[Zm] at H
  simp +contextual (disch:=omega) only[go_sem,e0,e3,e4,c0,hR.len]
  exact⟨_,rfl,H⟩
def A0u:Fn1:=⟨21,[.c 2 true 4],(rg [oX 1 0,o 2 (.new [.nilS,.nilS,.nilS,.nilS])] (rg [o 3 (.new [.nilS,.nilS,.nilS,.nilS])] (rg [oF 4 0 1,oL 5 4,oC 6 77 5,oF 7 0 3,oS 1 7 6] (rg [oF 8 1 1,oL 9 8,oC 10 78 9,oF 11 1 3,oS 1 11 10] (rg [oF 12 2 1,oL 13 12,oC 14 79 13,oF 15 2 3,oS 1 15 14] (rg [oF 16 3 1,oL 17 16,oC 18 80 17,oF 19 3 3,oS 1 19 18] (rg [oW 20 4 3,oS 4 2 20] .ret)))))))⟩
theorem Aav:A6 Tryz.prog 17=some A0u:=by kernel_rfl
theorem Dx (U:St) (cs:List GV) (x:State) (hR:A4.R U x cs) (hl:Aa x<=1099511627776):∃ r N,Ret Tryz.prog 17 [.agg cs] U r N/\U <+: N/\∃ ds,r= .agg ds/\Hp U N [own A4 ds x]:=by
 have hlen:=A4.len hR
 have hlen:cs.length=4:=hlen
 obtain⟨v0,v1,v2,v3,rfl,q0,q1,q2,q3⟩:=hR
 unfold Aa at hl
 refine Aj5 Aav (Z0z rfl) ?_
 simp +contextual (disch:=omega) only[go_sem,A0u,Zaa]
 have H:=(((Hp.refl U).new 1 (v0::v1::v2::v3::[])).new 1 [GV.nilS,GV.nilS,GV.nilS,GV.nilS]).new 1 [GV.nilS,GV.nilS,GV.nilS,GV.nilS]
 obtain⟨r0,N0,R0,K0⟩:=Aar _ v0 x.know (q0.pre H.sub) (by omega)
 refine Ck R0 K0 ?_
 have e0:=(K0.sl 0 rfl).cell
 have H:=H.add K0
 try simp only[go_sem] at H
 try simp +contextual (disch:=omega) only[go_sem,Zaa,A3 (H.pt 3 rfl),A3 (H.pt 1 rfl)]
 obtain⟨_,es,H,_⟩:=H.st 1 rfl 1 0 (r0) (by rw[e0];rfl) (by decide) (Z0z rfl)
 try simp only[go_sem,Zak,Zan,e0] at H
 try simp +contextual (disch:=omega) only[go_sem,Zaa,es,A3 (H.pt 3 rfl),A3 (H.pt 1 rfl)]
 obtain⟨r1,N1,R1,K1⟩:=A49 _ v1 x.tallies (q1.pre H.sub) (by omega)
 refine Ck R1 K1 ?_
 have e1:=(K1.sl 0 rfl).cell
 have H:=H.add K1
 try simp only[go_sem] at H
 try simp +contextual (disch:=omega) only[go_sem,Zaa,A3 (H.pt 4 rfl),A3 (H.pt 2 rfl)]
 obtain⟨_,es,H,_⟩:=H.st 2 rfl 1 1 (r1) (by rw[e1];rfl) (by decide) (Z0z rfl)
 try simp only[go_sem,Zak,Zan,e1] at H
 try simp +contextual (disch:=omega) only[go_sem,Zaa,es,A3 (H.pt 4 rfl),A3 (H.pt 2 rfl)]
 obtain⟨r2,N2,R2,K2⟩:=A87 _ v2 x.lives (q2.pre H.sub) (by omega)
 refine Ck R2 K2 ?_
 have e2:=(K2.sl 0 rfl).cell
 have H:=H.add K2
 try simp only[go_sem] at H
 try simp +contextual (disch:=omega) only[go_sem,Zaa,A3 (H.pt 5 rfl),A3 (H.pt 3 rfl)]
 obtain⟨_,es,H,_⟩:=H.st 3 rfl 1 2 (r2) (by rw[e2];rfl) (by decide) (Z0z rfl)
 try simp only[go_sem,Zak,Zan,e2] at H
 try simp +contextual (disch:=omega) only[go_sem,Zaa,es,A3 (H.pt 5 rfl),A3 (H.pt 3 rfl)]
 obtain⟨r3,N3,R3,K3⟩:=A86 _ v3 x.cells (q3.pre H.sub) (by omega)
 refine Ck R3 K3 ?_
 have e3:=(K3.sl 0 rfl).cell
 have H:=H.add K3
 try simp only[go_sem] at H
 try simp +contextual (disch:=omega) only[go_sem,Zaa,A3 (H.pt 6 rfl),A3 (H.pt 4 rfl)]
 obtain⟨_,es,H,_⟩:=H.st 4 rfl 1 3 (r3) (by rw[e3];rfl) (by decide) (Z0z rfl)
 try simp only[go_sem,Zak,Zan,e3] at H
 try simp +contextual (disch:=omega) only[go_sem,Zaa,es,A3 (H.pt 6 rfl),A3 (H.pt 4 rfl)]
 obtain⟨_,es,H,_⟩:=H.st 5 rfl 4 0 (.agg (r0::r1::r2::r3::[])) (rfl) (by decide) (Z0z rfl)
 try simp only[go_sem,Zak,Zan] at H
 try simp +contextual (disch:=omega) only[go_sem,Zaa,es,A3 (H.pt 5 rfl)]
 have h0:=H.sub
 have H:=(((H.pick 1 rfl).pick 2 rfl).pick 3 rfl)
 try simp only[Za0,Za8] at H
 exact⟨_,rfl,h0,_,rfl,H.ownState.one⟩
section
open Go Go.RowKit Go.Shelf
def A0v:Go.Shelf.Ren:=⟨fun|156=>104|165=>202|166=>203|169=>204|240=>254|241=>255|276=>277|277=>278|n=>n,fun|31=>156|9=>9|3=>3|4=>4|0=>0|20=>20|72=>248|76=>252|70=>246|37=>47|75=>251|127=>294|164=>318|5=>5|80=>165|n=>n,fun|n=>n⟩
theorem Ae9:Go.Proofs.Lays.n156 Tryz.prog A0v:={
 mixed:=by kernel_rfl
 f156:=Tryz.func104.trans (congrArg some (by kernel_rfl))
 f165:=Tryz.func202.trans (congrArg some (by kernel_rfl))
 f166:=Tryz.func203.trans (congrArg some (by kernel_rfl))
 f169:=Tryz.func204.trans (congrArg some (by kernel_rfl))
 f240:=Tryz.func254.trans (congrArg some (by kernel_rfl))
 f241:=Tryz.func255.trans (congrArg some (by kernel_rfl))
 f276:=Tryz.func277.trans (congrArg some (by kernel_rfl))
 f277:=Tryz.func278.trans (congrArg some (by kernel_rfl))
 t0:=Tryz.underlying0
 a0:=Tryz.isAgg0
 z0:=Tryz.sizeOf0
 v0:=Tryz.zeroValue0
 t3:=Tryz.underlying3
 a3:=Tryz.isAgg3
 z3:=Tryz.sizeOf3
 v3:=Tryz.zeroValue3
 t4:=Tryz.underlying4
 a4:=Tryz.isAgg4
 z4:=Tryz.sizeOf4
 v4:=Tryz.zeroValue4
 t9:=Tryz.underlying9
 a9:=Tryz.isAgg9
 z9:=Tryz.sizeOf9
 v9:=Tryz.zeroValue9
 t20:=Tryz.underlying20
 a20:=Tryz.isAgg20
 z20:=Tryz.sizeOf20
 v20:=Tryz.zeroValue20
 t31:=Tryz.underlying156
 a31:=Tryz.isAgg156
 z31:=Tryz.sizeOf156
 v31:=Tryz.zeroValue156
 t37:=Tryz.underlying47
 a37:=Tryz.isAgg47
 z37:=Tryz.sizeOf47
 v37:=Tryz.zeroValue47
 t70:=Tryz.underlying246
 a70:=Tryz.isAgg246
 z70:=Tryz.sizeOf246
 v70:=Tryz.zeroValue246
 t72:=Tryz.underlying248
 a72:=Tryz.isAgg248
 z72:=Tryz.sizeOf248
 v72:=Tryz.zeroValue248
 t75:=Tryz.underlying251
 a75:=Tryz.isAgg251
 z75:=Tryz.sizeOf251
 v75:=Tryz.zeroValue251
 t76:=Tryz.underlying252
 a76:=Tryz.isAgg252
 z76:=Tryz.sizeOf252
 v76:=Tryz.zeroValue252
 t127:=Tryz.underlying294
 a127:=Tryz.isAgg294
 z127:=Tryz.sizeOf294
 v127:=Tryz.zeroValue294
 t164:=Tryz.underlying318
 a164:=Tryz.isAgg318
 z164:=Tryz.sizeOf318
 v164:=Tryz.zeroValue318}
def Aaw:Go.Shelf.Ren:=⟨fun|171=>249|243=>273|246=>308|283=>321|284=>322|285=>323|286=>324|129=>289|317=>335|318=>336|319=>337|320=>338|337=>342|338=>343|n=>n,fun|3=>3|9=>9|2=>2|4=>4|171=>357|0=>0|53=>332|37=>47|5=>5|173=>359|212=>372|51=>330|20=>20|213=>373|46=>293|232=>377|233=>378|n=>n,fun|17=>1|18=>2|19=>3|n=>n⟩
theorem laysM171:Go.Proofs.LaysM.n171 Tryz.prog Aaw:={
 mixed:=by kernel_rfl
 f129:=Tryz.func289.trans (congrArg some (by kernel_rfl))
 f171:=Tryz.func249.trans (congrArg some (by kernel_rfl))
 f243:=Tryz.func273.trans (congrArg some (by kernel_rfl))
 f246:=Tryz.func308.trans (congrArg some (by kernel_rfl))
 f283:=Tryz.func321.trans (congrArg some (by kernel_rfl))
 f284:=Tryz.func322.trans (congrArg some (by kernel_rfl))
 f285:=Tryz.func323.trans (congrArg some (by kernel_rfl))
 f286:=Tryz.func324.trans (congrArg some (by kernel_rfl))
 f317:=Tryz.func335.trans (congrArg some (by kernel_rfl))
 f318:=Tryz.func336.trans (congrArg some (by kernel_rfl))
 f319:=Tryz.func337.trans (congrArg some (by kernel_rfl))
 f320:=Tryz.func338.trans (congrArg some (by kernel_rfl))
 f337:=Tryz.func342.trans (congrArg some (by kernel_rfl))
 f338:=Tryz.func343.trans (congrArg some (by kernel_rfl))
 t0:=Tryz.underlying0
 a0:=Tryz.isAgg0
 z0:=Tryz.sizeOf0
 v0:=Tryz.zeroValue0
 t2:=Tryz.underlying2
 a2:=Tryz.isAgg2
 z2:=Tryz.sizeOf2
 v2:=Tryz.zeroValue2
 t3:=Tryz.underlying3
 a3:=Tryz.isAgg3
 z3:=Tryz.sizeOf3
 v3:=Tryz.zeroValue3
 t4:=Tryz.underlying4
 a4:=Tryz.isAgg4
 z4:=Tryz.sizeOf4
 v4:=Tryz.zeroValue4
 t5:=Tryz.underlying5
 a5:=Tryz.isAgg5
 z5:=Tryz.sizeOf5
 v5:=Tryz.zeroValue5
 t9:=Tryz.underlying9
 a9:=Tryz.isAgg9
 z9:=Tryz.sizeOf9
 v9:=Tryz.zeroValue9
 t20:=Tryz.underlying20
 a20:=Tryz.isAgg20
 z20:=Tryz.sizeOf20
 v20:=Tryz.zeroValue20
 t37:=Tryz.underlying47
 a37:=Tryz.isAgg47
 z37:=Tryz.sizeOf47
 v37:=Tryz.zeroValue47
 t46:=Tryz.underlying293
 a46:=Tryz.isAgg293
 z46:=Tryz.sizeOf293
 v46:=Tryz.zeroValue293
 t51:=Tryz.underlying330
 a51:=Tryz.isAgg330
 z51:=Tryz.sizeOf330
 v51:=Tryz.zeroValue330
 t53:=Tryz.underlying332
 a53:=Tryz.isAgg332
 z53:=Tryz.sizeOf332
 v53:=Tryz.zeroValue332
 t171:=Tryz.underlying357
 a171:=Tryz.isAgg357
 z171:=Tryz.sizeOf357
 v171:=Tryz.zeroValue357
 t173:=Tryz.underlying359
 a173:=Tryz.isAgg359
 z173:=Tryz.sizeOf359
 v173:=Tryz.zeroValue359
 t212:=Tryz.underlying372
 a212:=Tryz.isAgg372
 z212:=Tryz.sizeOf372
 v212:=Tryz.zeroValue372
 t213:=Tryz.underlying373
 a213:=Tryz.isAgg373
 z213:=Tryz.sizeOf373
 t232:=Tryz.underlying377
 a232:=Tryz.isAgg377
 z232:=Tryz.sizeOf377
 v232:=Tryz.zeroValue377
 t233:=Tryz.underlying378
 a233:=Tryz.isAgg378
 z233:=Tryz.sizeOf378
 v233:=Tryz.zeroValue378
 g17:=by kernel_rfl
 g18:=by kernel_rfl
 g19:=by kernel_rfl
 i0:=by kernel_rfl
 i2:=by kernel_rfl
 i3:=by kernel_rfl
 i4:=by kernel_rfl
 i5:=by kernel_rfl
 i9:=by kernel_rfl
 i20:=by kernel_rfl
 i37:=by kernel_rfl
 i46:=by kernel_rfl
 i51:=by kernel_rfl
 i53:=by kernel_rfl
 i171:=by kernel_rfl
 i173:=by kernel_rfl
 i212:=by kernel_rfl
 i232:=by kernel_rfl
 i233:=by kernel_rfl
 m17:=by kernel_rfl
 m18:=by kernel_rfl
 m19:=by kernel_rfl}
theorem Fy:Builder.Extra Tryz.prog A0v:={
 sizeBuilder:=by kernel_rfl
 liesBuilder:=by kernel_rfl
 t5:=Tryz.underlying5
 a5:=Tryz.isAgg5
 z5:=Tryz.sizeOf5
 v5:=Tryz.zeroValue5
 infoByte:=by kernel_rfl
 cellsByte:=by kernel_rfl
 sizeByte:=by kernel_rfl
 neB5:=by decide}
end
theorem Hp.moveTo {U N:St} {r r':Thg} {rs:List Thg} (H:Hp U N (r::rs)) (k:Nat) (hk:rs[k]? =some r'):Hp U N (rs.set k r):=by
 have hkl:=(Zah.1 hk).1
 have h1:=(H.pick (k+1) hk).drop1
 exact Hp.unpick h1 hkl
theorem A0w {P:Program} {a:Cd} {Q:Ex->Env->St->Prop} {env:Env} {U:St} (n ri j0:Nat) (I:Nat->Env->St->Prop) (X Z:Env->St->Prop) (hr:env ri=gi 0) (h0:I 0 env U)
  (hs:∀(J:Nat->Env->St->Prop) (Yq Wq:Env->St->Prop),(∀ i env U,I i env U->J i env U)->(∀ env U,X env U->Yq env U)->(∀ env U,Z env U->Wq env U)->∀ i env U,i<n->env ri=gi i->decide ((i:Int)<n)=true->I i env U->vc P a (fun e env' U'=>match e with| .nxt=>env' ri=gi ((i:Int)+1)/\J (i+1) env' U'| .ext j=>j=j0/\Yq env' U'| .ret=>Wq env' U') env U)
  (he:∀(Yq:Env->St->Prop),(∀ env U,X env U->Yq env U)->∀ env U,env ri=gi n->decide ((n:Int)<n)=false->I n env U->vc P a (fun e env' U'=>match e with| .nxt=>False| .ext j=>j=j0/\Yq env' U'| .ret=>False) env U)
  (hx:∀ env U,X env U->Q (.ext j0) env U) (hz:∀ env U,Z env U->Q .ret env U):vc P (.lop a) Q env U:=by
 refine Bk n ri I hr h0 (fun i env U h1 h2 h3 h4=>B7 (hs I X Z (fun _ _ _ h=>h) (fun _ _ h=>h) (fun _ _ h=>h) i env U h1 h2 h3 h4) fun e env' U' hq=> ?_) (fun env U h1 h2 h3=>B7 (he X (fun _ _ h=>h) env U h1 h2 h3) fun e env' U' hq=> ?_)
 ·cases e with
  |nxt=>exact hq
  |ret=>exact hz _ _ hq
  |ext j=>obtain⟨rfl,hq⟩:=hq;exact hx _ _ hq
 ·cases e with
  |nxt=>exact hq
  |ret=>exact hq.elim
  |ext j=>obtain⟨rfl,hq⟩:=hq;exact hx _ _ hq
inductive Item where
 |box (z n:Nat) (cs:List GV)
 |th (r:Thg)
def Item.t:Item->Thg
 | .box z n cs=>pt z n cs
 | .th r=>r
def Hx (U N:St) (h:List Item):Prop:=Hp U N (h.map Item.t)
def look:List Item->Nat->Option (List GV)
 |[],_=>none
 | .box _ m cs::h,n=>if m=n then some cs else look h n
 | .th _::h,n=>look h n
def upd:List Item->Nat->List GV->List Item
 |[],_,_=>[]
 | .box z m cs::h,n,ds=>if m=n then .box z m ds::h else .box z m cs::upd h n ds
 | .th r::h,n,ds=>.th r::upd h n ds
def frX (U:St):List Item->Nat->Prop
 |[],n=>U.length<=n
 | .box _ m _::h,n=>m<n/\frX U h n
 | .th _::h,n=>frX U h n
abbrev Kx:=GV->List Item->St->Prop
def Gh (v:Option GV) (k:Kx) (h:List Item) (N:St):Prop:=match v with
 |some v=>k v h N
 |none=>False
def orX (a b:Option GV):Option GV:=match a with
 |some x=>some x
 |none=>b
def A0x:List Item->Nat->Option (Nat×List GV)
 |[],_=>none
 | .box z m cs::h,n=>if m=n then some (z,cs) else A0x h n
 | .th _::h,n=>A0x h n
def blcX (h:List Item) (cs:List GV):GV->Prop
 | .ptr b 0=>A0x h b=some (1,cs)
 |_=>False
def ldB (c:Option (List GV)) (g:Bool) (n off:Nat) (e:Option GV):Option GV:=match c with
 |some cs=>(seg cs off n).bind (mkv g)
 |none=>e
def ldY (h:List Item) (N:St) (g:Bool) (n:Nat):GV->Option GV
 | .ptr b off=>ldB (look h b) g n off (ldG g n N (.ptr b off))
 |a=>ldG g n N a
def ldX (U:St) (h:List Item) (N:St) (g:Bool) (n:Nat) (a:GV):Option GV:=orX (ldG g n U a) (ldY h N g n a)
def M6 (U:St) (h:List Item) (z:Nat) (cs:List GV) (v:Nat->GV) (k:Kx):Prop:=∀ n,frX U h n->∀ N',Hx U N' (.box z n cs::h)->k (v n) (.box z n cs::h) N'
def genX (U:St) (D:Bool) (N:St) (e:Option (GV×St)) (k:Kx):Prop:=∃ v N' h',e=some (v,N')/\(D=true->N <+: N')/\Hx U N' h'/\k v h' N'
def stB (U:St) (D:Bool) (h:List Item) (N:St) (n:Nat) (k:Kx) (b off:Nat) (x:GV) (c:Option (List GV)):Prop:=match c with
 |some cs=>(D=false/\off+n<=cs.length/\0<n/\x.cells.length=n)/\∀ N',Hx U N' (upd h b (Ar cs off x.cells))->k (.tup []) (upd h b (Ar cs off x.cells)) N'
 |none=>genX U D N (stG n N (.ptr b off) x) k
def stX (U:St) (D:Bool) (h:List Item) (N:St) (n:Nat) (k:Kx) (a x:GV):Prop:=match a with
 | .ptr b off=>stB U D h N n k b off x (look h b)
 |a=>genX U D N (stG n N a x) k
def fnX (P:Program) (U:St) (D:Bool) (N:St) (args:List GV) (k:Kx):GV->Prop
 | .fn f caps=>∃ v N' h',Ret P f (args++caps.map fun c=>.ptr c.1 c.2) N v N'/\(D=true->N <+: N')/\Hx U N' h'/\k v h' N'
 |_=>False
def litX (U:St) (h:List Item) (z len:Nat) (k:Kx):Option (List GV)->Prop
 |some cs=>M6 U h z cs (fun n=>.sl n 0 len) k
 |none=>False
def Aax (P:Program) (U:St) (D:Bool) (N:St) (f:Nat) (args:List GV) (k:Kx):Prop:=∃ v N' h',Ret P f args N v N'/\(D=true->N <+: N')/\Hx U N' h'/\k v h' N'
def mksX (U:St) (h:List Item) (z b:Nat) (ze:List GV) (k:Kx):Option Nat->Option Nat->Prop
 |some n,some c=>n=c/\n*b<=140737488355328/\M6 U h z (reps n ze) (fun g=>.sl g 0 n) k
 |_,_=>False
def sxI (P:Program) (D:Bool) (U:St) (env:Env) (h:List Item) (N:St) (k:Kx):Ins->Prop
 | .new cs=>M6 U h 1 cs (fun n=>.ptr n 0) k
 | .box x=>Al (x.ev env)=true/\M6 U h 1 (x.ev env).cells (fun n=>.ptr n 0) k
 | .lit z len zero parts=>litX U h z len k (Id zero (parts.map fun p=>(p.1,p.2.1,p.2.2.ev env)))
 | .mks z b ze n c=>mksX U h z b ze k (B5 (some (n.ev env))) (B5 (some (c.ev env)))
 | .ld g n a=>Gh (ldX U h N g n (a.ev env)) k h N
 | .st n a x=>stX U D h N n k (a.ev env) (x.ev env)
 | .call f xs=>Aax P U D N f (xs.map (·.ev env)) k
 | .callv x xs=>fnX P U D N (xs.map (·.ev env)) k (x.ev env)
 | .chk d (.ld g n (.t t))=>ldX U h N g n (env t)=some (env d)/\k (.tup []) h N
 | .chk _ _=>False
 | .blc t cs=>blcX h cs (env t)/\k (.tup []) h N
 | .mlk ks z ok m k'=>Gh (mlkG N ks z ok (m.ev env) (k'.ev env)) k h N
 | .bts x=>Gh ((elems N 1 (x.ev env)).bind fun r=>(Ej r.2).map fun bs=>.str ⟨bs.toArray⟩) k h N
 | .cut z x lo hi=>Gh (if zOk N z (x.ev env) then cutG z (x.ev env) (lo.map (·.ev env)) (hi.map (·.ev env)) else none) k h N
 | .app z b ze s x=>genX U D N (appV z b N (s.ev env) (x.ev env)) k
 | .clr z ze x=>genX U D N (clrG z ze N (x.ev env)) k
 | .mkm=>genX U D N (some (.mp N.length,N++[some (.map [])])) k
 | .mup ks m k' v=>genX U D N (mupG N ks (m.ev env) (k'.ev env) (v.ev env)) k
 |i=>Gh ((exec env [] i).map (·.1)) k h N
def gdX (c:Option (Option Bool×Bool)) (A B:Prop):Prop:=match c with
 |none=>A
 |some (some c,b)=>(c=b->A)/\(c= !b->B)
 |some (none,_)=>B
def sx (P:Program) (D:Bool) (U:St):List Op1->(Env->List Item->St->Prop)->Env->List Item->St->Prop
 |[],K,env,h,N=>K env h N
 |o::r,K,env,h,N=>gdX (o.g.map fun g=>((env g.1).bit,g.2)) (sxI P D U env h N (fun v h' N'=>sx P D U r K (upo env o.d v) h' N') o.i) (sx P D U r K (upo env o.d (.tup [])) h N)
def ifX (c:Option Bool) (A B:Prop):Prop:=match c with
 |some c=>(c=true->A)/\(c=false->B)
 |none=>False
abbrev Qx:=Ex->Env->List Item->St->Prop
def sxc (P:Program) (U:St):Cd->Qx->Env->List Item->St->Prop
 | .skip,Q=>Q .nxt
 | .reg ops,Q=>sx P false U ops (Q .nxt)
 | .drw a1 bs,Q=>sx P true U a1 (sx P false U bs (Q .nxt))
 | .seq a b,Q=>sxc P U a fun e=>match e with
  | .nxt=>sxc P U b Q
  |e=>Q e
 | .cnd c a b,Q=>fun env h N=>ifX (c.ev env).bit (sxc P U a Q env h N) (sxc P U b Q env h N)
 | .blk id a,Q=>sxc P U a fun e=>match e with
  | .ext j=>if j=id then Q .nxt else Q (.ext j)
  |e=>Q e
 | .lop a,Q=>fun env h N=>∃(I:Nat->Env->List Item->St->Prop) (n:Nat) (h0:List Item),Hx U N h0/\I n env h0 N/\∀ k env h N,Hx U N h->I k env h N->sxc P U a (fun e env' h' N'=>match e with
  | .nxt=>∃ k' h1,k'<k/\Hx U N' h1/\I k' env' h1 N'
  |e=>∃ h1,Hx U N' h1/\Q e env' h1 N') env h N
 | .ext id,Q=>Q (.ext id)
 | .ret,Q=>Q .ret
section sound
variable {P:Program} {U:St} {D:Bool}
theorem Hx.hp {N:St} {h:List Item} (H:Hx U N h):Hp U N (h.map Item.t):=H
theorem Hx.sub {N:St} {h:List Item} (H:Hx U N h):U <+: N:=H.hp.sub
theorem Hx.refl (U:St):Hx U U []:=Hp.refl U
theorem Tk:∀ {h:List Item} {n:Nat} {cs:List GV},look h n=some cs->∃ z,∃ i:Nat,(h.map Item.t)[i]? =some (pt z n cs)/\∀ ds,(upd h n ds).map Item.t=(h.map Item.t).set i (pt z n ds)
 |[],_,_,e=>by cases e
 | .box z m cs'::h,n,cs,e=>by
  simp only[look] at e
  by_cases hm:m=n
  ·rw[if_pos hm] at e
   injection e with e;subst e hm
   exact⟨z,0,rfl,fun ds=>by simp[upd,Item.t]⟩
  ·rw[if_neg hm] at e
   obtain⟨z',i,h1,h2⟩:=Tk e
   exact⟨z',i+1,by simpa using h1,fun ds=>by simp[upd,hm,h2 ds]⟩
 | .th r::h,n,cs,e=>by
  obtain⟨z',i,h1,h2⟩:=Tk (h:=h) (by simpa [look] using e)
  exact⟨z',i+1,by simpa using h1,fun ds=>by simp[upd,h2 ds]⟩
theorem A8a:∀ {h:List Item} {n z:Nat} {cs:List GV},A0x h n=some (z,cs)->∃ i:Nat,(h.map Item.t)[i]? =some (pt z n cs)
 |[],_,_,_,e=>by cases e
 | .box z' m cs'::h,n,z,cs,e=>by
  simp only[A0x] at e
  by_cases hm:m=n
  ·rw[if_pos hm] at e
   simp only[Zbl.injEq,Prod.mk.injEq] at e
   obtain⟨rfl,rfl⟩:=e
   subst hm
   exact⟨0,rfl⟩
  ·rw[if_neg hm] at e
   obtain⟨i,h1⟩:=A8a e
   exact⟨i+1,by simpa using h1⟩
 | .th r::h,n,z,cs,e=>by
  obtain⟨i,h1⟩:=A8a (h:=h) (by simpa [A0x] using e)
  exact⟨i+1,by simpa using h1⟩
theorem Aje {N:St} {g:Bool} {n:Nat} {a x:GV} (h:ldG g n U a=some x) (hp:U <+: N):ldG g n N a=some x:=by
 cases a with
 |ptr b off=>
  simp only[ldG] at h ⊢
  obtain⟨cs,h1,h2⟩:=Z1z.1 h
  rw[Aj hp h1];exact h2
 |_=>cases h
theorem A0y {h:List Item} {N:St} (H:Hx U N h) {g:Bool} {n:Nat} {a x:GV} (e:ldX U h N g n a=some x):ldG g n N a=some x:=by
 unfold ldX orX ldY at e
 split at e
 ·rename_i y hy
  injection e with e;subst e
  exact Aje hy H.sub
 ·cases a with
  |ptr b off=>
   simp only at e
   cases hl:look h b with
   |none=>rw[hl] at e;exact e
   |some cs=>
    rw[hl] at e
    obtain⟨z,i,h1,_⟩:=Tk hl
    have:=H.hp.pt i h1
    simp only[ldG,this,Zad]
    exact e
  |_=>exact e
theorem Ajf {n:Nat}:∀ {h:List Item},U.length<=n->(∀ z m cs,Item.box z m cs∈h->m<n)->frX U h n
 |[],hl,_=>hl
 | .box z m cs::h,hl,hb=>⟨hb z m cs Zae,Ajf (h:=h) hl fun z m cs hm=>hb z m cs (Zao _ hm)⟩
 | .th r::h',hl,hb=>Ajf (h:=h') hl fun z m cs hm=>hb z m cs (Zao _ hm)
theorem box_lt {h:List Item} {N:St} (H:Hx U N h) {z m:Nat} {cs:List GV} (hm:Item.box z m cs∈h):m<N.length:=by
 obtain⟨i,hi,e⟩:=Zaw hm
 have h1:(h.map Item.t)[i]? =some (pt z m cs):=by
  rw[Zat,Zay hi,e];rfl
 obtain⟨a,ha,_,hb⟩:=H.hp.see h1
 exact(hb m (by rw[ha.1];exact Zae)).2
theorem Kl {h:List Item} {N:St} {z:Nat} {cs:List GV} {v:Nat->GV} {k:Kx} (H:Hx U N h) (e:M6 U h z cs v k):∃ h',Hx U (N++[some (.row z cs)]) h'/\k (v N.length) h' (N++[some (.row z cs)]):=
 ⟨.box z N.length cs::h,H.hp.new z cs,e N.length (Ajf (h:=h) H.sub.length_le (fun _ _ _ hm=>box_lt H hm)) _ (H.hp.new z cs)⟩
theorem M7 {N:St} {e:Option (GV×St)} {k:Kx} (h:genX U D N e k):∃ v N',e=some (v,N')/\(D=true->N <+: N')/\∃ h',Hx U N' h'/\k v h' N':=by
 obtain⟨v,N',h',h1,h2,h3,h4⟩:=h
 exact⟨v,N',h1,h2,h',h3,h4⟩
theorem Ajg {env:Env} {h:List Item} {N:St} {k:Kx} (H:Hx U N h):∀ {i:Ins},sxI P D U env h N k i->∃ v N',Step P env N i v N'/\(D=true->N <+: N')/\∃ h',Hx U N' h'/\k v h' N':=by
 intro i e
 have same:∀ {v:Option GV},Gh v k h N->(∀ v',v=some v'->Step P env N i v' N)->∃ v N',Step P env N i v N'/\(D=true->N <+: N')/\∃ h',Hx U N' h'/\k v h' N':=by
  intro v hb hs
  cases v with
  |none=>exact hb.elim
  |some v=>exact⟨v,N,hs v rfl,fun _=>Zab _,h,H,hb⟩
 have pure:Ah2 i=true->Gh ((exec env [] i).map (·.1)) k h N->i.isCall=false->(∀ v',exec env N i=some (v',N)->Step P env N i v' N)->∃ v N',Step P env N i v N'/\(D=true->N <+: N')/\∃ h',Hx U N' h'/\k v h' N':=by
  intro hp hb _ hs
  refine same hb fun v' hv=>hs v' ?_
  obtain⟨⟨w,s⟩,hw,rfl⟩:=Z2z.1 hv
  exact(A9y hp hw).2 N
 cases i with
 |new cs=>
  obtain⟨h',h1,h2⟩:=Kl H e
  exact⟨_,_,rfl,fun _=>Zaq _ _,h',h1,h2⟩
 |box x=>
  obtain⟨h0,e⟩:=e
  obtain⟨h',h1,h2⟩:=Kl H e
  exact⟨_,_,by show boxG N _=_;unfold boxG;rw[if_pos h0],fun _=>Zaq _ _,h',h1,h2⟩
 |lit z len zero parts=>
  simp only[sxI] at e
  unfold litX at e
  split at e
  ·rename_i cs hc
   obtain⟨h',h1,h2⟩:=Kl H e
   exact⟨_,_,by show exec env N _=_;simp only[exec,hc];rfl,fun _=>Zaq _ _,h',h1,h2⟩
  ·exact e.elim
 |mks z b ze n c=>
  simp only[sxI] at e
  unfold mksX at e
  split at e
  ·rename_i n' c' hn hc
   obtain⟨h0,h3,e⟩:=e
   obtain⟨h',h1,h2⟩:=Kl H e
   exact⟨_,_,by show exec env N _=_;simp only[exec,hn,hc,Zad,if_pos (And.intro h0 h3)],fun _=>Zaq _ _,h',h1,h2⟩
  ·exact e.elim
 |ld g n a=>
  refine same e fun v' hv=> ?_
  have:=A0y H hv
  show exec env N _=_
  simp only[exec]
  revert this
  cases a.ev env with
  |ptr b off=>
   intro h1
   simp only[ldG] at h1
   simp only[ptrG,Zad]
   obtain⟨cs,h2,h3⟩:=Z1z.1 h1
   obtain⟨r,h4,h5⟩:=Z1z.1 h3
   simp only[h2,Zad,h4,h5,Zap]
  |_=>intro h1;cases h1
 |st n a x=>
  simp only[sxI] at e
  have hst:∀ {y:GV} {N'},stG n N (a.ev env) (x.ev env)=some (y,N')->Step P env N (.st n a x) y N':=by
   intro y N' he
   show exec env N _=_
   simp only[exec]
   revert he
   cases a.ev env<;>intro he<;>first|cases he;done|exact he
  have gen:genX U D N (stG n N (a.ev env) (x.ev env)) k->∃ v N',Step P env N (.st n a x) v N'/\(D=true->N <+: N')/\∃ h',Hx U N' h'/\k v h' N':=fun hg=>by
   obtain⟨v,N',h1,h2⟩:=M7 hg
   exact⟨v,N',hst h1,h2⟩
  unfold stX at e
  split at e
  ·rename_i b off hb
   unfold stB at e
   split at e
   ·rename_i cs hl
    obtain⟨⟨h0,h1,h2,h3⟩,h4⟩:=e
    obtain⟨z,i,h5,h6⟩:=Tk hl
    obtain⟨N',s1,s2,_⟩:=H.hp.st i h5 n off (x.ev env) h3 h2 h1
    have s3:Hx U N' (upd h b (Ar cs off (x.ev env).cells)):=by unfold Hx;rw[h6];exact s2
    exact⟨_,N',hst (by rw[hb];exact s1),(fun hd=>by rw[hd] at h0;cases h0),_,s3,h4 _ s3⟩
   ·rw[<- hb] at e;exact gen e
  ·exact gen e
 |call f xs=>
  obtain⟨v,N',h',h1,h2,h3,h4⟩:=e
  exact⟨v,N',h1,h2,h',h3,h4⟩
 |callv x xs=>
  simp only[sxI] at e
  unfold fnX at e
  split at e
  ·rename_i f caps hf
   obtain⟨v,N',h',h1,h2,h3,h4⟩:=e
   exact⟨v,N',⟨f,caps,hf,h1⟩,h2,h',h3,h4⟩
  ·exact e.elim
 |chk d x=>
  cases x with
  |ld g n a=>cases a with
   |t t=>
    obtain⟨h1,h2⟩:=e
    refine⟨_,N,⟨rfl,rfl,?_⟩,fun _=>Zab _,h,H,h2⟩
    have h3:=A0y H h1
    simp only[exec,Opd.ev]
    revert h3
    cases env t with
    |ptr b off=>
     intro h1
     simp only[ldG] at h1
     simp only[ptrG,Zad]
     obtain⟨cs,h2,h3⟩:=Z1z.1 h1
     obtain⟨r,h4,h5⟩:=Z1z.1 h3
     simp only[h2,Zad,h4,h5,Zap]
    |_=>intro h1;cases h1
   |k v=>exact e.elim
  |_=>exact e.elim
 |blc t cs=>
  obtain⟨h1,h2⟩:=e
  revert h1
  unfold blcX
  split
  ·rename_i b hb
   intro h1
   obtain⟨i,h3⟩:=A8a h1
   obtain⟨a,ha,_⟩:=H.hp.see h3
   exact⟨_,N,⟨rfl,rfl,b,hb,C7.1 ha.2⟩,fun _=>Zab _,h,H,h2⟩
  ·exact fun h1=>h1.elim
 |mlk ks z ok m k'=>exact same e fun v' hv=>by show exec env N _=_;simp only[exec,hv,Zap]
 |bts x=>
  refine same e fun v' hv=> ?_
  show exec env N _=_
  simp only[exec]
  obtain⟨r,h1,h2⟩:=Z1z.1 hv
  obtain⟨bs,h3,rfl⟩:=Z2z.1 h2
  rw[h1,Zad,h3];rfl
 |cut z x lo hi=>
  refine same e fun v' hv=> ?_
  show exec env N _=_
  simp only[exec]
  split at hv
  ·rename_i hz
   rw[if_pos hz,hv];rfl
  ·cases hv
 |app z b ze s x=>exact M7 e
 |clr z ze x=>exact M7 e
 |mkm=>exact M7 e
 |mup ks m k' v=>exact M7 e
 |mkf f caps=>
  refine same e fun v' hv=> ?_
  show exec env N _=_
  simp only[exec] at hv ⊢
  obtain⟨⟨w,s⟩,hw,rfl⟩:=Z2z.1 hv
  obtain⟨cs,h1,h2⟩:=Z2z.1 hw
  injection h2 with h2 h3;subst h2
  rw[h1];rfl
 |pan=>exact e.elim
 |_=>exact pure rfl e rfl fun _ h=>h
theorem Qr:∀ {os:List Op1} {K:Env->List Item->St->Prop} {env:Env} {h:List Item} {N:St},Hx U N h->sx P D U os K env h N->Af D P os (fun env' N'=>N.length<=N'.length/\∃ h',Hx U N' h'/\K env' h' N') env N
 |[],K,env,h,N,H,e=>⟨Zai _,h,H,e⟩
 |o::r,K,env,h,N,H,e=>by
  have yes:sxI P D U env h N (fun v h' N'=>sx P D U r K (upo env o.d v) h' N') o.i->∃ v U',Step P env N o.i v U'/\(D=true->N <+: U')/\Af D P r (fun env' N'=>N.length<=N'.length/\∃ h',Hx U N' h'/\K env' h' N') (upo env o.d v) U':=fun e=>by
   obtain⟨v,N',h1,h2,h',h3,h4⟩:=Ajg H e
   have hl:=Zh h1
   exact⟨v,N',h1,h2,Bx (Qr h3 h4) fun _ _ hk=>⟨Zam hl hk.1,hk.2⟩⟩
  have no:sx P D U r K (upo env o.d (.tup [])) h N->Af D P r (fun env' N'=>N.length<=N'.length/\∃ h',Hx U N' h'/\K env' h' N') (upo env o.d (.tup [])) N:=fun e=>Qr H e
  simp only[Af]
  simp only[sx] at e
  cases hg:o.g with
  |none=>
   rw[hg] at e
   rw[if_pos (by simp[Ai])]
   exact yes e
  |some q=>
   obtain⟨g,b⟩:=q
   rw[hg] at e
   simp only[Zap] at e
   cases hc:(env g).bit with
   |none=>
    rw[hc] at e
    rw[if_neg (by simp[Ai,hc])]
    exact no e
   |some c=>
    rw[hc] at e
    by_cases hcb:c=b
    ·rw[if_pos (by simp[Ai,hc,hcb])]
     exact yes (e.1 hcb)
    ·rw[if_neg (by simp[Ai,hc,hcb])]
     exact no (e.2 (by cases c<;>cases b<;>simp_all))
theorem Aay {d:Cd}:∀ {Q:Qx} {env:Env} {h:List Item} {N:St},Hx U N h->sxc P U d Q env h N->vc P d (fun e env' N'=>N.length<=N'.length/\∃ h',Hx U N' h'/\Q e env' h' N') env N:=by
 induction d with
 |skip=>intro Q env h N H e;exact⟨Zai _,h,H,e⟩
 |reg ops=>intro Q env h N H e;exact Qr H e
 |drw a1 bs=>
  intro Q env h N H e
  show Af true P a1 _ env N
  refine Bx (Qr H e) fun env' N' hk=> ?_
  obtain⟨hl,h',H',hk⟩:=hk
  exact Bx (Qr H' hk) fun _ _ hq=>⟨Zam hl hq.1,hq.2⟩
 |seq a b iha ihb=>
  intro Q env h N H e
  show vc P a _ env N
  refine B7 (iha H e) fun e env' N' hk=> ?_
  obtain⟨hl,h',H',hk⟩:=hk
  cases e with
  |nxt=>exact B7 (ihb H' hk) fun _ _ _ hq=>⟨Zam hl hq.1,hq.2⟩
  |ext j=>exact⟨hl,h',H',hk⟩
  |ret=>exact⟨hl,h',H',hk⟩
 |cnd c a b iha ihb=>
  intro Q env h N H e
  simp only[sxc] at e
  unfold ifX at e
  split at e
  ·rename_i t ht
   exact⟨t,ht,fun k=>iha H (e.1 k),fun k=>ihb H (e.2 k)⟩
  ·exact e.elim
 |blk id a ih=>
  intro Q env h N H e
  show vc P a _ env N
  refine B7 (ih H e) fun e env' N' hk=> ?_
  obtain⟨hl,h',H',hk⟩:=hk
  cases e with
  |nxt=>exact⟨hl,h',H',hk⟩
  |ext j=>
   simp only at hk ⊢
   split at hk
   ·rename_i hj;rw[if_pos hj];exact⟨hl,h',H',hk⟩
   ·rename_i hj;rw[if_neg hj];exact⟨hl,h',H',hk⟩
  |ret=>exact⟨hl,h',H',hk⟩
 |lop a ih=>
  intro Q env h N H e
  obtain⟨I,n,h0,H0,hI,hs⟩:=e
  refine Oy (fun k env' N'=>N.length<=N'.length/\∃ h,Hx U N' h/\I k env' h N') n ⟨Zai _,h0,H0,hI⟩ ?_
  rintro k env1 N1 ⟨hl,h1,H1,hI1⟩
  refine B7 (ih H1 (hs k env1 h1 N1 H1 hI1)) fun e env' N' hk=> ?_
  obtain⟨hl2,h',H',hk⟩:=hk
  cases e with
  |nxt=>
   obtain⟨k',h3,h4,h5,h6⟩:=hk
   exact⟨k',h4,Zam hl hl2,h3,h5,h6⟩
  |ext j=>exact⟨Zam hl hl2,hk⟩
  |ret=>exact⟨Zam hl hl2,hk⟩
 |ext id=>intro Q env h N H e;exact⟨Zai _,h,H,e⟩
 |ret=>intro Q env h N H e;exact⟨Zai _,h,H,e⟩
def rsX (U:St) (h:List Item) (N:St) (env:Env):Rs->Option GV
 | .t n=>some (env n)
 | .c a g n=>ldX U h N g n (env a)
def resX (U:St) (h:List Item) (N:St) (env:Env):List Rs->Option GV
 |[r]=>rsX U h N env r
 |rs=>(Bd (rsX U h N env) rs).bind fun vs=>if vs.all Al then some (.tup vs) else none
theorem Aaz {h:List Item} {N:St} (H:Hx U N h) {env:Env} {r:Rs} {v:GV} (e:rsX U h N env r=some v):r.ev env N=some v:=by
 cases r with
 |t n=>exact e
 |c a g n=>rw[rs_c];exact A0y H e
theorem A5q {Y β:Type} {f g:Y->Option β} (h:∀ x y,f x=some y->g x=some y):∀ {l:List Y} {r:List β},Bd f l=some r->Bd g l=some r
 |[],r,e=>e
 |x::l,r,e=>by
  simp only[Bd,Z1z,Z2z] at e ⊢
  obtain⟨y,h1,ys,h2,rfl⟩:=e
  exact⟨y,h _ _ h1,ys,A5q h h2,rfl⟩
theorem A5r {h:List Item} {N:St} (H:Hx U N h) {env:Env} {rs:List Rs} {v:GV} (e:resX U h N env rs=some v):resG env N rs=some v:=by
 unfold resX at e
 unfold resG
 split at e
 ·exact Aaz H e
 ·rename_i hne
  split
  ·exact absurd rfl (hne _)
  ·obtain⟨vs,h1,h2⟩:=Z1z.1 e
   rw[A5q (fun x y=>Aaz H) h1];exact h2
theorem Gi {md:Bool} {f:Nat} {F:Fn1} {args:List GV} {U1:St} {h0:List Item} {Post:GV->St->Prop} (hF:E4 md P f=some F) (hl:args.length<=F.n) (H:Hx U U1 h0)
  (hc:sxc P U F.c (fun e env h N=>Hx U N h->A02 e=true/\∃ r,resX U h N env F.rs=some r/\Post r N) (env0 args) h0 U1):∃ r N,Ret P f args U1 r N/\Post r N:=
 B8 hF hl (B7 (Aay H hc) fun e env N he=>by
  obtain⟨hl,h,H,hq⟩:=he
  obtain⟨ho,r,hr,hp⟩:=hq H
  exact⟨ho,r,A5r H hr,hl,hp⟩)
end sound
def Anu (P:Program) (D:Bool) (U:St) (r:List Op1) (K:Env->List Item->St->Prop) (env:Env) (d:Option Nat):Kx:=fun v h' N'=>sx P D U r K (upo env d v) h' N'
def gdS (P:Program) (D:Bool) (U:St) (env:Env) (h:List Item) (N:St) (k:Kx) (i:Ins) (b:Bool) (c:Option Bool):Prop:=match c with
 |some c=>(c=b->sxI P D U env h N k i)/\(c= !b->k (.tup []) h N)
 |none=>k (.tup []) h N
def ifS (P:Program) (U:St) (a b:Cd) (Q:Qx) (env:Env) (h:List Item) (N:St) (c:Option Bool):Prop:=match c with
 |some c=>(c=true->sxc P U a Q env h N)/\(c=false->sxc P U b Q env h N)
 |none=>False
section words
variable {P:Program} {D:Bool} {U N:St} {env:Env} {h:List Item} {r:List Op1} {K:Env->List Item->St->Prop} {k:Kx} {d:Option Nat} {Q:Qx}
@[go_sem] theorem nextX_ap {v:GV}:Anu P D U r K env d v h N=sx P D U r K (upo env d v) h N:=(rfl)
@[go_sem] theorem sx_nil:sx P D U [] K env h N=K env h N:=(rfl)
@[go_sem] theorem sx_one {i:Ins}:sx P D U (⟨d,none,i⟩::r) K env h N=sxI P D U env h N (Anu P D U r K env d) i:=(rfl)
@[go_sem] theorem sx_grd {g:Nat} {b:Bool} {i:Ins}:sx P D U (⟨d,some (g,b),i⟩::r) K env h N=gdS P D U env h N (Anu P D U r K env d) i b (env g).bit:=by
 show gdX (some ((env g).bit,b)) _ _=_
 cases(env g).bit<;>rfl
@[go_sem] theorem gdS_tt {b:Bool} {i:Ins}:gdS P D U env h N k i b (some b)=sxI P D U env h N k i:=by cases b<;>simp[gdS]
@[go_sem] theorem gdS_tf {i:Ins}:gdS P D U env h N k i false (some true)=k (.tup []) h N:=by simp[gdS]
@[go_sem] theorem bindX_some {v:GV}:Gh (some v) k h N=k v h N:=(rfl)
@[go_sem] theorem ifS_t {a b:Cd}:ifS P U a b Q env h N (some true)=sxc P U a Q env h N:=by simp[ifS]
@[go_sem] theorem ifS_f {a b:Cd}:ifS P U a b Q env h N (some false)=sxc P U b Q env h N:=by simp[ifS]
theorem Ajh {v:Option GV}:(Option.map (·.1) (v.map fun v=>(v,([]:St))))=v:=by cases v<;>rfl
@[go_sem] theorem xi_mov {x:Opd}:sxI P D U env h N k (.mov x)=k (x.ev env) h N:=(rfl)
@[go_sem] theorem xi_pick {c a b:Opd}:sxI P D U env h N k (.pick c a b)=Gh ((c.ev env).bit.map fun t=>if t then a.ev env else b.ev env) k h N:=by
 simp only[sxI,exec]
 cases(c.ev env).bit<;>rfl
@[go_sem] theorem xi_new {cs:List GV}:sxI P D U env h N k (.new cs)=M6 U h 1 cs (fun n=>.ptr n 0) k:=(rfl)
@[go_sem] theorem xi_box {x:Opd}:sxI P D U env h N k (.box x)=(Al (x.ev env)=true/\M6 U h 1 (x.ev env).cells (fun n=>.ptr n 0) k):=(rfl)
@[go_sem] theorem xi_build {z:List GV} {ps:List (Nat×Nat×Opd)}:sxI P D U env h N k (.build z ps)=Gh ((Id z (ps.map fun p=>(p.1,p.2.1,p.2.2.ev env))).map .agg) k h N:=by
 simp only[sxI,exec]
 cases Id z (ps.map fun p=>(p.1,p.2.1,p.2.2.ev env))<;>rfl
@[go_sem] theorem xi_lit {z l:Nat} {ze:List GV} {ps:List (Nat×Nat×Opd)}:sxI P D U env h N k (.lit z l ze ps)=litX U h z l k (Id ze (ps.map fun p=>(p.1,p.2.1,p.2.2.ev env))):=(rfl)
@[go_sem] theorem litX_some {z l:Nat} {cs:List GV}:litX U h z l k (some cs)=M6 U h z cs (fun n=>.sl n 0 l) k:=(rfl)
@[go_sem] theorem xi_ld {g:Bool} {n:Nat} {a:Opd}:sxI P D U env h N k (.ld g n a)=Gh (ldX U h N g n (a.ev env)) k h N:=(rfl)
@[go_sem] theorem xi_st {n:Nat} {a x:Opd}:sxI P D U env h N k (.st n a x)=stX U D h N n k (a.ev env) (x.ev env):=(rfl)
@[go_sem] theorem stX_ptr {n b off:Nat} {x:GV}:stX U D h N n k (.ptr b off) x=stB U D h N n k b off x (look h b):=(rfl)
@[go_sem] theorem stB_some {n b off:Nat} {x:GV} {cs:List GV}:stB U D h N n k b off x (some cs)=((D=false/\off+n<=cs.length/\0<n/\x.cells.length=n)/\∀ N',Hx U N' (upd h b (Ar cs off x.cells))->k (.tup []) (upd h b (Ar cs off x.cells)) N'):=(rfl)
@[go_sem] theorem xi_bin {op:BinOp} {x y:Opd}:sxI P D U env h N k (.bin op x y)=Gh (binG op (x.ev env) (y.ev env)) k h N:=by simp only[sxI,exec,Ajh]
@[go_sem] theorem xi_eqb {n:Bool} {x y:Opd}:sxI P D U env h N k (.eqb n x y)=Gh (eqbG n (x.ev env) (y.ev env)) k h N:=by
 simp only[sxI,exec,eqbG]
 cases(x.ev env).bit with
 |none=>rfl
 |some a=>cases(y.ev env).bit<;>rfl
@[go_sem] theorem xi_eqs {n:Bool} {ks:List Sc} {x y:Opd}:sxI P D U env h N k (.eqs n ks x y)=Gh (eqsG n ks (x.ev env) (y.ev env)) k h N:=by
 simp only[sxI,exec]
 cases x.ev env<;>first|rfl|skip
 cases y.ev env<;>first|rfl|skip
 simp only[eqsG]
 cases Dg ks _ _<;>rfl
@[go_sem] theorem xi_un {op:UnOp} {x:Opd}:sxI P D U env h N k (.un op x)=Gh (unG op (x.ev env)) k h N:=by simp only[sxI,exec,Ajh]
@[go_sem] theorem xi_cvi {kd:IntKind} {x:Opd}:sxI P D U env h N k (.cvi kd x)=Gh (cviG kd (x.ev env)) k h N:=by
 simp only[sxI,exec]
 cases x.ev env<;>rfl
@[go_sem] theorem xi_bts {x:Opd}:sxI P D U env h N k (.bts x)=Gh ((elems N 1 (x.ev env)).bind fun r=>(Ej r.2).map fun bs=>.str ⟨bs.toArray⟩) k h N:=(rfl)
@[go_sem] theorem xi_cutS {x:Opd} {lo hi:Option Opd}:sxI P D U env h N k (.cutS x lo hi)=Gh (Qg (x.ev env) (lo.map (·.ev env)) (hi.map (·.ev env))) k h N:=by simp only[sxI,exec,Ajh]
@[go_sem] theorem xi_fad {n:Nat} {a:Opd}:sxI P D U env h N k (.fad n a)=Gh (fadG n (a.ev env)) k h N:=by
 simp only[sxI,exec]
 cases a.ev env<;>rfl
@[go_sem] theorem xi_iad {z:Nat} {x i:Opd}:sxI P D U env h N k (.iad z x i)=Gh (iadG z (x.ev env) (B5 (some (i.ev env)))) k h N:=by
 simp only[sxI,exec]
 cases x.ev env with
 |sl g off len=>
  simp only
  cases B5 (some (i.ev env)) with
  |none=>rfl
  |some n=>
   simp only[Zad,iadG]
   split<;>rfl
 |_=>rfl
@[go_sem] theorem xi_idx {x i:Opd}:sxI P D U env h N k (.idx x i)=Gh (idxG (x.ev env) (B5 (some (i.ev env)))) k h N:=by
 simp only[sxI,exec]
 cases x.ev env with
 |str s=>
  simp only
  cases B5 (some (i.ev env)) with
  |none=>rfl
  |some n=>
   simp only[Zad,idxG]
   cases s[n]? <;>rfl
 |_=>rfl
@[go_sem] theorem xi_ext {i:Nat} {x:Opd}:sxI P D U env h N k (.ext i x)=Gh (extG i (x.ev env)) k h N:=by
 simp only[sxI,exec]
 cases x.ev env with
 |tup vs=>
  simp only[extG]
  cases vs[i]? with
  |none=>rfl
  |some v=>cases v<;>rfl
 |_=>rfl
@[go_sem] theorem xi_len {s:Bool} {x:Opd}:sxI P D U env h N k (.len s x)=Gh ((lenG s (x.ev env)).map fun n=>.int .i64 n) k h N:=by
 simp only[sxI,exec]
 cases lenG s (x.ev env)<;>rfl
@[go_sem] theorem xi_app {z b:Nat} {ze:List GV} {s x:Opd}:sxI P D U env h N k (.app z b ze s x)=genX U D N (appV z b N (s.ev env) (x.ev env)) k:=(rfl)
@[go_sem] theorem xi_mm {m:Bool} {x y:Opd}:sxI P D U env h N k (.mm m x y)=Gh (mmG m (x.ev env) (y.ev env)) k h N:=by
 simp only[sxI,exec]
 cases x.ev env<;>first|rfl|skip
 cases y.ev env<;>rfl
@[go_sem] theorem xi_call {f:Nat} {xs:List Opd}:sxI P D U env h N k (.call f xs)=Aax P U D N f (xs.map (·.ev env)) k:=(rfl)
@[go_sem] theorem xi_chk {d' n t:Nat} {g:Bool}:sxI P D U env h N k (.chk d' (.ld g n (.t t)))=(ldX U h N g n (env t)=some (env d')/\k (.tup []) h N):=(rfl)
@[go_sem] theorem xi_blc {t:Nat} {cs:List GV}:sxI P D U env h N k (.blc t cs)=(blcX h cs (env t)/\k (.tup []) h N):=(rfl)
@[go_sem] theorem blcX_ptr {b:Nat} {cs:List GV}:blcX h cs (.ptr b 0)=(A0x h b=some (1,cs)):=(rfl)
@[go_sem] theorem lookZ_eq {z n:Nat} {cs:List GV}:A0x (.box z n cs::h) n=some (z,cs):=by simp[A0x]
@[go_sem] theorem lookZ_th {n:Nat} {q:Thg}:A0x (.th q::h) n=A0x h n:=(rfl)
@[go_sem] theorem allocX_def {z:Nat} {cs:List GV} {v:Nat->GV}:M6 U h z cs v k=∀ n,frX U h n->∀ N',Hx U N' (.box z n cs::h)->k (v n) (.box z n cs::h) N':=(rfl)
@[go_sem] theorem frX_nil {n:Nat}:frX U [] n=(U.length<=n):=(rfl)
@[go_sem] theorem frX_box {z m n:Nat} {cs:List GV}:frX U (.box z m cs::h) n=(m<n/\frX U h n):=(rfl)
@[go_sem] theorem frX_th {n:Nat} {q:Thg}:frX U (.th q::h) n=frX U h n:=(rfl)
@[go_sem] theorem J6 {z n:Nat} {cs:List GV}:look (.box z n cs::h) n=some cs:=by simp[look]
@[go_sem low] theorem look_ne {z m n:Nat} {cs:List GV} (hn:m≠n):look (.box z m cs::h) n=look h n:=by simp[look,hn]
@[go_sem] theorem look_th {n:Nat} {q:Thg}:look (.th q::h) n=look h n:=(rfl)
@[go_sem] theorem upd_eq {z n:Nat} {cs ds:List GV}:upd (.box z n cs::h) n ds= .box z n ds::h:=by simp[upd]
@[go_sem low] theorem upd_ne {z m n:Nat} {cs ds:List GV} (hn:m≠n):upd (.box z m cs::h) n ds= .box z m cs::upd h n ds:=by simp[upd,hn]
@[go_sem] theorem upd_th {n:Nat} {q:Thg} {ds:List GV}:upd (.th q::h) n ds= .th q::upd h n ds:=(rfl)
@[go_sem] theorem ldX_ptr {g:Bool} {n b off:Nat} (hb:U.length<=b):ldX U h N g n (.ptr b off)=ldB (look h b) g n off (ldG g n N (.ptr b off)):=by
 have:ldG g n U (.ptr b off)=none:=by
  simp only[ldG,rdB]
  rw[List.getElem?_eq_none hb];rfl
 simp only[ldX,this,orX,ldY]
@[go_sem] theorem ldX_at {g:Bool} {n z i:Nat} {v:GV}:ldX U h N g n (atz z v i)=orX (ldG g n U (atz z v i)) (ldY h N g n (atz z v i)):=(rfl)
@[go_sem] theorem ldX_fld {g:Bool} {n z i m:Nat} {v:GV}:ldX U h N g n (fld m (atz z v i))=orX (ldG g n U (fld m (atz z v i))) (ldY h N g n (fld m (atz z v i))):=(rfl)
@[go_sem] theorem orX_some {x:GV} {b:Option GV}:orX (some x) b=some x:=(rfl)
@[go_sem] theorem ldB_some {cs:List GV} {g:Bool} {n off:Nat} {e:Option GV}:ldB (some cs) g n off e=(seg cs off n).bind (mkv g):=(rfl)
@[go_sem] theorem xc_skip:sxc P U .skip Q env h N=Q .nxt env h N:=(rfl)
@[go_sem] theorem xc_reg {os:List Op1}:sxc P U (.reg os) Q env h N=sx P false U os (Q .nxt) env h N:=(rfl)
@[go_sem] theorem xc_drw {a1 bs:List Op1}:sxc P U (.drw a1 bs) Q env h N=sx P true U a1 (sx P false U bs (Q .nxt)) env h N:=(rfl)
@[go_sem] theorem xc_seq {a b:Cd}:sxc P U (.seq a b) Q env h N=sxc P U a (fun e=>match e with
  | .nxt=>sxc P U b Q
  |e=>Q e) env h N:=(rfl)
@[go_sem] theorem xc_cnd {c:Opd} {a b:Cd}:sxc P U (.cnd c a b) Q env h N=ifS P U a b Q env h N (c.ev env).bit:=by
 show ifX _ _ _=_
 cases(c.ev env).bit<;>rfl
@[go_sem] theorem xc_blk {id:Nat} {a:Cd}:sxc P U (.blk id a) Q env h N=sxc P U a (fun e=>match e with
  | .ext j=>if j=id then Q .nxt else Q (.ext j)
  |e=>Q e) env h N:=(rfl)
@[go_sem] theorem xc_ext {id:Nat}:sxc P U (.ext id) Q env h N=Q (.ext id) env h N:=(rfl)
@[go_sem] theorem xc_ret:sxc P U .ret Q env h N=Q .ret env h N:=(rfl)
@[go_sem] theorem rsX_t {n:Nat}:rsX U h N env (.t n)=some (env n):=(rfl)
@[go_sem] theorem rsX_c {a n:Nat} {g:Bool}:rsX U h N env (.c a g n)=ldX U h N g n (env a):=(rfl)
@[go_sem] theorem resX_1 {x:Rs}:resX U h N env [x]=rsX U h N env x:=(rfl)
@[go_sem] theorem resX_2 {x y:Rs}:resX U h N env [x,y]=tup2 (rsX U h N env x) (rsX U h N env y):=by
 simp only[resX,Bd,tup2]
 cases rsX U h N env x with
 |none=>rfl
 |some u=>cases rsX U h N env y<;>simp
@[go_sem] theorem resX_3 {x y z:Rs}:resX U h N env [x,y,z]=tup3 (rsX U h N env x) (rsX U h N env y) (rsX U h N env z):=by
 simp only[resX,Bd,tup3]
 cases rsX U h N env x with
 |none=>rfl
 |some u=>cases rsX U h N env y with
  |none=>rfl
  |some v=>cases rsX U h N env z<;>simp
end words
theorem A8b {N:St}:∀ {rs:List Thg} {fp:List Nat},sat N rs fp->fp.Nodup->∃ F:Nat->List Nat,(∀ (i:Nat) (r:Thg),rs[i]? =some r->r.P N (F i))/\(∀ i,(F i).Nodup)/\(∀ i j,i≠j->∀ g∈F i,g∉F j)/\∀ i,∀ g∈F i,g∈fp
 |[],fp,h,hn=>⟨fun _=>[],by simp,by simp,by simp,by simp⟩
 |r::rs,_,⟨a,b,hr,hs,rfl⟩,hn=>by
  rw[Zbd] at hn
  obtain⟨F,h1,h2,h3,h4⟩:=A8b hs hn.2.1
  refine⟨fun i=>match i with|0=>a|i+1=>F i,?_,?_,?_,?_⟩
  ·intro i s hi
   cases i with
   |zero=>simp at hi;subst hi;exact hr
   |succ i=>exact h1 i s (by simpa using hi)
  ·intro i;cases i with
   |zero=>exact hn.1
   |succ i=>exact h2 i
  ·intro i j hij g hg
   cases i with
   |zero=>cases j with
    |zero=>exact absurd rfl hij
    |succ j=>exact fun h=>hn.2.2 g hg g (h4 j g h) rfl
   |succ i=>cases j with
    |zero=>exact fun h=>hn.2.2 g h g (h4 i g hg) rfl
    |succ j=>exact h3 i j (by omega) g hg
  ·intro i g hg
   cases i with
   |zero=>exact List.mem_append_left _ hg
   |succ i=>exact List.mem_append_right _ (h4 i g hg)
theorem Aji {N:St} {rs:List Thg} {F:Nat->List Nat} (h1:∀(i:Nat) (r:Thg),rs[i]? =some r->r.P N (F i)) (h2:∀ i,(F i).Nodup) (h3:∀ i j,i≠j->∀ g∈F i,g∉F j):∀ {is:List Nat},is.Nodup->∃ fp,sat N (is.filterMap (rs[·]?)) fp/\fp.Nodup/\∀ g∈fp,∃ i∈is,g∈F i
 |[],_=>⟨[],rfl,by simp,by simp⟩
 |i::is,hn=>by
  rw[Zbi] at hn
  obtain⟨fp,k1,k2,k3⟩:=Aji h1 h2 h3 hn.2
  cases hi:rs[i]? with
  |none=>exact⟨fp,by rw[Zax,hi];exact k1,k2,fun g hg=>by obtain⟨j,hj,h⟩:=k3 g hg;exact⟨j,Zao _ hj,h⟩⟩
  |some r=>
   refine⟨F i++fp,by rw[Zax,hi];exact⟨F i,fp,h1 i r hi,k1,rfl⟩,Zbd.2 ⟨h2 i,k2,fun x hx y hy e=> ?_⟩,fun g hg=> ?_⟩
   ·subst e
    obtain⟨j,hj,h⟩:=k3 x hy
    exact h3 i j (fun e=>hn.1 (by rw[e];exact hj)) x hx h
   ·rcases List.mem_append.1 hg with hg|hg
    ·exact⟨i,Zae,hg⟩
    ·obtain⟨j,hj,h⟩:=k3 g hg;exact⟨j,Zao _ hj,h⟩
theorem Hp.sel {U N:St} {rs:List Thg} (H:Hp U N rs) (is:List Nat) (hn:is.Nodup):Hp U N (is.filterMap (rs[·]?)):=by
 obtain⟨h,fp,hs,hnd,hb⟩:=H
 obtain⟨F,h1,h2,h3,h4⟩:=A8b hs hnd
 obtain⟨fp',k1,k2,k3⟩:=Aji h1 h2 h3 hn
 exact⟨h,fp',k1,k2,fun g hg=>by obtain⟨i,_,hi⟩:=k3 g hg;exact hb g (h4 i g hi)⟩
theorem Hx.sel {U N:St} {h:List Item} (H:Hx U N h) (is:List Nat) (hn:is.Nodup):Hp U N (is.filterMap ((h.map Item.t)[·]?)):=Hp.sel H is hn
theorem Hx.re {U N:St} {h:List Item} (H:Hx U N h) (is:List Nat) (hn:is.Nodup):Hx U N (is.filterMap (h[·]?)):=by
 have e:(is.filterMap (h[·]?)).map Item.t=is.filterMap ((h.map Item.t)[·]?):=by
  induction is with
  |nil=>rfl
  |cons i is ih=>
   have ih:=ih (Zbi.1 hn).2
   rw[Zax,Zax,Zat]
   cases h[i]? with
   |none=>exact ih
   |some x=>simp only[Zap,Zaz,ih]
 unfold Hx
 rw[e]
 exact H.sel is hn
section os
variable {Y:Type} {d:Kd Y} {U N:St} {l:List Y} {v:GV} {fp:List Nat}
end os
theorem A5s {Y:Type} {p:Pl Y} {N:St} {n:Nat} {x:Y} (h:rdB N n=some (p.enc x)):RS p.kd N (.sl n 0 1) [x]:=by
 refine .inr ⟨n,0,p.enc x,rfl,h,?_,fun i y hy=> ?_⟩
 ·show 0+1*p.z<=_;rw[p.len];omega
 ·have hi:i<1:=by simpa using (Zah.1 hy).1
  have hi:i=0:=by omega
  subst hi
  simp at hy;subst hy
  show List.take p.z (List.drop (0+0*p.z) (p.enc x))=p.enc x
  simp only[Nat.zero_mul,Nat.add_zero,List.drop_zero]
  exact List.take_of_length_le (by rw[p.len];exact Zai _)
section rules
variable {P:Program} {D:Bool} {U N N':St} {env:Env} {h:List Item} {k:Kx} {f:Nat} {args:List GV} {v:GV} {Y:Type}
theorem map_th {rs:List Thg} {h:List Item}:(rs.map Item.th++h).map Item.t=rs++h.map Item.t:=by
 rw[Za4,List.map_map]
 congr 1
 exact List.map_id _
theorem by_cs {rs:List Thg} (H:Hx U N h) (R:Ret P f args N v N') (K:Hp N N' rs) (kk:Hx U N' (rs.map Item.th++h)->k v (rs.map Item.th++h) N'):Aax P U D N f args k:=by
 have H':Hx U N' (rs.map Item.th++h):=by unfold Hx;rw[map_th];exact H.hp.add K
 exact⟨v,N',_,R,fun _=>K.sub,H',kk H'⟩
theorem by_c {r:Thg} (H:Hx U N h) (R:Ret P f args N v N') (K:Hp N N' [r]) (kk:Hx U N' (.th r::h)->k v (.th r::h) N'):Aax P U D N f args k:=by_cs H R K kk
theorem by_r (H:Hx U N h) (R:Ret P f args N v N) (kk:k v h N):Aax P U D N f args k:=⟨v,N,h,R,fun _=>Zab _,H,kk⟩
theorem by_b {b:Bool} (H:Hx U N h) (R:Ret P f args N (.bool b) N) (h1:b=true->k (.bool true) h N) (h2:b=false->k (.bool false) h N):Aax P U D N f args k:=by
 refine by_r H R ?_
 cases b with
 |true=>exact h1 rfl
 |false=>exact h2 rfl
theorem by_m {h':List Item} (R:Ret P f args N v N') (H:Hx U N' h') (kk:k v h' N'):Aax P U false N f args k:=⟨v,N',h',R,(fun h=>by cases h),H,kk⟩
theorem set_t {h:List Item} {i:Nat} {r:Thg}:(h.set i (.th r)).map Item.t=(h.map Item.t).set i r:=List.map_set ..
theorem at_t {h:List Item} {i:Nat} {r:Thg} (hi:h[i]? =some (.th r)):(h.map Item.t)[i]? =some r:=by rw[Zat,hi];rfl
theorem J7 {p:Pl Y} {b8 n:Nat} {l:List Y} (H:Hx U N h) (i:Nat) (hi:h[i]? =some (.th (ow p.kd v l))) (x:Y) (hl:look h n=some (p.enc x)) (hz:0<p.z) (hb:(l.length+1)*b8<=140737488355328)
  (kk:∀ v' N',Hx U N' (h.set i (.th (ow p.kd v' (l++[x]))))->k v' (h.set i (.th (ow p.kd v' (l++[x])))) N'):genX U false N (appV p.z b8 N v (.sl n 0 1)) k:=by
 obtain⟨z,j,h1,_⟩:=Tk hl
 obtain⟨v',N',e,H'⟩:=H.hp.app (by8:=b8) i (at_t hi) (A5s (H.hp.pt j h1)) hz hb
 rw[<- set_t] at H'
 exact⟨v',N',_,e,(fun h=>by cases h),H',kk v' N' H'⟩
theorem Ajj:∀(h:List Item) (j:Nat),(h.map Item.t).eraseIdx j=(h.eraseIdx j).map Item.t
 |[],_=>rfl
 |x::h,0=>rfl
 |x::h,j+1=>by simp only[Zaz,Za0,Ajj h j]
theorem Jk {e:Option (GV×St)} {k k':Kx} (hk:∀ v h N,k v h N->k' v h N):genX U D N e k->genX U D N e k':=fun⟨v,N',h',h1,h2,h3,h4⟩=>⟨v,N',h',h1,h2,h3,hk _ _ _ h4⟩
theorem Oi {z:Nat} {cs:List GV} {w:Nat->GV} {k k':Kx} (hk:∀ v h N,k v h N->k' v h N) (e:M6 U h z cs w k):M6 U h z cs w k':=fun n hf N' H=>hk _ _ _ (e n hf N' H)
theorem Al9 {k k':Kx} (hk:∀ v h N,k v h N->k' v h N):∀ {i:Ins},sxI P D U env h N k i->sxI P D U env h N k' i:=by
 have bm:∀ {v:Option GV},Gh v k h N->Gh v k' h N:=fun {v} e=>by
  cases v with
  |none=>exact e
  |some v=>exact hk _ _ _ e
 intro i e
 cases i with
 |new cs=>exact Oi hk e
 |box x=>exact⟨e.1,Oi hk e.2⟩
 |lit z len zero parts=>
  simp only[sxI] at e ⊢
  revert e
  cases Id zero (parts.map fun p=>(p.1,p.2.1,p.2.2.ev env)) with
  |none=>exact id
  |some cs=>exact Oi hk
 |mks z b ze n c=>
  simp only[sxI] at e ⊢
  revert e
  cases B5 (some (n.ev env)) with
  |none=>exact id
  |some n=>cases B5 (some (c.ev env)) with
   |none=>exact id
   |some c=>exact fun e=>⟨e.1,e.2.1,Oi hk e.2.2⟩
 |st n a x=>
  simp only[sxI] at e ⊢
  revert e
  cases a.ev env with
  |ptr b off=>
   simp only[stX]
   unfold stB
   cases look h b with
   |none=>exact Jk hk
   |some cs=>exact fun e=>⟨e.1,fun N' H=>hk _ _ _ (e.2 N' H)⟩
  |_=>exact Jk hk
 |call f xs=>
  obtain⟨v,N',h',h1,h2,h3,h4⟩:=e
  exact⟨v,N',h',h1,h2,h3,hk _ _ _ h4⟩
 |callv x xs=>
  simp only[sxI] at e ⊢
  revert e
  cases x.ev env with
  |fn f caps=>exact fun⟨v,N',h',h1,h2,h3,h4⟩=>⟨v,N',h',h1,h2,h3,hk _ _ _ h4⟩
  |_=>exact id
 |chk d x=>
  cases x with
  |ld g n a=>cases a with
   |t t=>exact⟨e.1,hk _ _ _ e.2⟩
   |k v=>exact e
  |_=>exact e
 |blc t cs=>exact⟨e.1,hk _ _ _ e.2⟩
 |app z b ze s x=>exact Jk hk e
 |clr z ze x=>exact Jk hk e
 |mkm=>exact Jk hk e
 |mup ks m k2 v=>exact Jk hk e
 |mov x=>exact hk _ _ _ e
 |pan=>exact e
 |_=>exact bm e
theorem A0z:∀ {os:List Op1} {K K':Env->List Item->St->Prop} {env:Env} {h:List Item} {N:St},(∀ env h N,K env h N->K' env h N)->sx P D U os K env h N->sx P D U os K' env h N
 |[],K,K',env,h,N,hk,e=>hk _ _ _ e
 |o::r,K,K',env,h,N,hk,e=>by
  simp only[sx] at e ⊢
  have y:sxI P D U env h N (fun v h' N'=>sx P D U r K (upo env o.d v) h' N') o.i->sxI P D U env h N (fun v h' N'=>sx P D U r K' (upo env o.d v) h' N') o.i:=Al9 fun v h N=>A0z hk
  have n:sx P D U r K (upo env o.d (.tup [])) h N->sx P D U r K' (upo env o.d (.tup [])) h N:=A0z hk
  revert e
  cases o.g.map fun g=>((env g.1).bit,g.2) with
  |none=>exact y
  |some q=>
   obtain⟨c,b⟩:=q
   cases c with
   |none=>exact n
   |some c=>exact fun e=>⟨fun hc=>y (e.1 hc),fun hc=>n (e.2 hc)⟩
theorem A8c {d:Cd}:∀ {Q Q':Qx} {env:Env} {h:List Item} {N:St},(∀ e env h N,Q e env h N->Q' e env h N)->sxc P U d Q env h N->sxc P U d Q' env h N:=by
 induction d with
 |skip=>intro Q Q' env h N hq e;exact hq _ _ _ _ e
 |reg ops=>intro Q Q' env h N hq e;exact A0z (hq _) e
 |drw a1 bs=>intro Q Q' env h N hq e;exact A0z (fun _ _ _=>A0z (hq _)) e
 |seq a b iha ihb=>
  intro Q Q' env h N hq e
  refine iha (fun e env h N he=> ?_) e
  cases e with
  |nxt=>exact ihb hq he
  |ext j=>exact hq _ _ _ _ he
  |ret=>exact hq _ _ _ _ he
 |cnd c a b iha ihb=>
  intro Q Q' env h N hq e
  simp only[sxc] at e ⊢
  unfold ifX at e ⊢
  split
  ·rename_i hc;rw[hc] at e;exact⟨fun k=>iha hq (e.1 k),fun k=>ihb hq (e.2 k)⟩
  ·rename_i hc;rw[hc] at e;exact e
 |blk id a ih=>
  intro Q Q' env h N hq e
  refine ih (fun e env h N he=> ?_) e
  cases e with
  |nxt=>exact hq _ _ _ _ he
  |ext j=>
   simp only at he ⊢
   split at he
   ·rename_i hj;rw[if_pos hj];exact hq _ _ _ _ he
   ·rename_i hj;rw[if_neg hj];exact hq _ _ _ _ he
  |ret=>exact hq _ _ _ _ he
 |lop a ih=>
  intro Q Q' env h N hq e
  obtain⟨I,n,h0,H0,hI,hs⟩:=e
  refine⟨I,n,h0,H0,hI,fun k env h N H hi=>ih (fun e env' h' N' he=> ?_) (hs k env h N H hi)⟩
  cases e with
  |nxt=>exact he
  |ext j=>obtain⟨h1,H1,he⟩:=he;exact⟨h1,H1,hq _ _ _ _ he⟩
  |ret=>obtain⟨h1,H1,he⟩:=he;exact⟨h1,H1,hq _ _ _ _ he⟩
 |ext id=>intro Q Q' env h N hq e;exact hq _ _ _ _ e
 |ret=>intro Q Q' env h N hq e;exact hq _ _ _ _ e
variable {a b:Cd} {Q:Qx}
theorem Ab0 (n j0:Nat) (I:Nat->Env->List Item->Prop) (X Z:Env->List Item->Prop) (h0:List Item) (H0:Hx U N h0) (hI:I n env h0)
  (hs:∀(J:Nat->Env->St->Prop) (Yq Wq:Env->St->Prop),(∀ i env h N,Hx U N h->I i env h->J i env N)->(∀ env h N,Hx U N h->X env h->Yq env N)->(∀ env h N,Hx U N h->Z env h->Wq env N)->∀ i env h N,Hx U N h->I i env h->sxc P U a (fun e env' h' N'=>match e with
   | .nxt=>∃ i',i'<i/\J i' env' N'
   | .ext j=>j=j0/\Yq env' N'
   | .ret=>Wq env' N') env h N)
  (hx:∀ env h N,Hx U N h->X env h->Q (.ext j0) env h N) (hz:∀ env h N,Hx U N h->Z env h->Q .ret env h N):sxc P U (.lop a) Q env h N:=by
 refine⟨fun i env h N=>I i env h,n,h0,H0,hI,fun i env h N H hi=>A8c (fun e env' h' N' he=> ?_) (hs (fun i env N=>∃ h,Hx U N h/\I i env h) (fun env N=>∃ h,Hx U N h/\X env h) (fun env N=>∃ h,Hx U N h/\Z env h) (fun _ _ h _ H e=>⟨h,H,e⟩) (fun _ h _ H e=>⟨h,H,e⟩) (fun _ h _ H e=>⟨h,H,e⟩) i env h N H hi)⟩
 cases e with
 |nxt=>obtain⟨i',h1,h2,h3,h4⟩:=he;exact⟨i',h2,h1,h3,h4⟩
 |ext j=>obtain⟨rfl,h2,h3,h4⟩:=he;exact⟨h2,h3,hx _ _ _ h3 h4⟩
 |ret=>obtain⟨h2,h3,h4⟩:=he;exact⟨h2,h3,hz _ _ _ h3 h4⟩
theorem M8 (n ri j0:Nat) (I:Nat->Env->List Item->Prop) (X Z:Env->List Item->Prop) (h0:List Item) (H0:Hx U N h0) (hr:env ri=gi 0) (hI:I 0 env h0)
  (hs:∀(J:Nat->Env->St->Prop) (Yq Wq:Env->St->Prop),(∀ i env h N,Hx U N h->I i env h->J i env N)->(∀ env h N,Hx U N h->X env h->Yq env N)->(∀ env h N,Hx U N h->Z env h->Wq env N)->∀ i env h N,i<n->env ri=gi i->decide ((i:Int)<n)=true->Hx U N h->I i env h->sxc P U a (fun e env' h' N'=>match e with
   | .nxt=>env' ri=gi ((i:Int)+1)/\J (i+1) env' N'
   | .ext j=>j=j0/\Yq env' N'
   | .ret=>Wq env' N') env h N)
  (he:∀(Yq:Env->St->Prop),(∀ env h N,Hx U N h->X env h->Yq env N)->∀ env h N,env ri=gi n->decide ((n:Int)<n)=false->Hx U N h->I n env h->sxc P U a (fun e env' h' N'=>match e with
   | .nxt=>False
   | .ext j=>j=j0/\Yq env' N'
   | .ret=>False) env h N)
  (hx:∀ env h N,Hx U N h->X env h->Q (.ext j0) env h N) (hz:∀ env h N,Hx U N h->Z env h->Q .ret env h N):sxc P U (.lop a) Q env h N:=by
 refine Ab0 n j0 (fun k env h=>∃ i:Nat,k=n - i/\i<=n/\env ri=gi i/\I i env h) X Z h0 H0 ⟨0,rfl,Nat.zero_le _,hr,hI⟩ (fun J Yq Wq hJ hY hW k env h N H hi=> ?_) hx hz
 obtain⟨i,rfl,h1,h2,h3⟩:=hi
 rcases Zbf i n with hlt|hge
 ·refine A8c (fun e env' h' N' q=> ?_) (hs (fun i' env N=>i'<=n->env ri=gi i'->J (n - i') env N) Yq Wq (fun j env h N H e hj hr=>hJ _ env h N H ⟨j,rfl,hj,hr,e⟩) hY hW i env h N hlt h2 (by simp;omega) H h3)
  cases e with
  |nxt=>exact⟨n - (i+1),by omega,q.2 (by omega) q.1⟩
  |ext j=>exact q
  |ret=>exact q
 ·obtain rfl:i=n:=by omega
  refine A8c (fun e env' h' N' q=> ?_) (he Yq hY env h N h2 (by simp) H h3)
  cases e with
  |nxt=>exact q.elim
  |ext j=>exact q
  |ret=>exact q.elim
theorem Lq {md:Bool} {F:Fn1} {r:GV} (hF:E4 md P f=some F) (hl:args.length<=F.n) (hr:vLt U.length r)
  (hc:sxc P U F.c (fun e env h N=>Hx U N h->A02 e=true/\resX U h N env F.rs=some r) (env0 args) [] U):Ret P f args U r U:=
 Ae hF hl hr (B7 (Aay (Hx.refl U) hc) fun e env N he=>by
  obtain⟨_,h,H,hq⟩:=he
  exact⟨(hq H).1,A5r H (hq H).2,H.sub⟩)
end rules
section
open Go Go.RowKit Go.Shelf
section
variable {P:Program} {U N:St}
theorem Good.bel {w0 w w':World} {W:Rho} (h:Good w0 W U w) (hb:Below w.heap.size w w'):Good w0 W U w':=h.keep hb.os hb.tape hb.output hb.size hb.block
theorem Frame.bel {w w':World} {W:Rho} (hb:Below w.heap.size w w'):Frame W U w W U w':=⟨fun g B L h h1 h2 _=>⟨g,B,L,h,h1,h2,rfl⟩,hb.size,fun b h _=>hb.block b h⟩
theorem Ret.of_str {f:Nat} {args:List GV} {s:ByteArray} (hc:Qh P f=true) (h:∀ w0 W w (us:List Value),Good w0 W U w->All2 (vRel W) args us->Calls P f us.toArray w fun e w'=>e= .returned (.string s)/\Below w.heap.size w w'):Ret P f args U (.str s) U:=
 ⟨hc,Zai _,fun w0 W w us hG ha=>(h w0 W w us hG ha).mono fun e w' ⟨he,hb⟩=>by
  subst he
  exact⟨W,fun _ _=>rfl,rfl,hG.bel hb,Frame.bel hb⟩⟩
theorem below_grown (w:World) (k:Nat) (os:Array Obj):Below w.heap.size w (Go.Sort.grow (w.drewN k) os):=
 ⟨rfl,rfl,rfl,by simp only[Go.Sort.grow,Array.size_append];exact Nat.le_add_right _ _,fun b hb=>by
  show(w.heap++os)[b]? =w.heap[b]?
  rw[Array.getElem?_append_left hb]⟩
end
def itB (n:Int):ByteArray:=⟨(Lib.itoa n).toArray⟩
theorem Ala (U:St) (n:Int) (h0: -9223372036854775808<=n) (h1:n<=9223372036854775807):Ret Tryz.prog 249 [.int .i64 n] U (.str (itB n)) U:=
 Ret.of_str (by kernel_rfl) fun w0 W w us hG ha=>by
  cases ha with
  |cons h1' h2'=>
   cases h2'
   obtain rfl:=h1'
   exact hG.lay w hG.below n h0 h1
theorem Anv (l:List ByteArray):pS.cells l=l.map .str:=by
 induction l with
 |nil=>rfl
 |cons x l ih=>show GV.str x::pS.cells l=_;rw[ih];rfl
def joB (l:List ByteArray) (sep:ByteArray):ByteArray:=⟨(Lib.join (l.map (·.data.toList)) sep.data.toList).toArray⟩
theorem Zn (U:St) (v:GV) (l:List ByteArray) (fp:List Nat) (hO:OS pS.kd U l v fp) (sep:ByteArray) (hN:l.length<=140737488355328) (hlen:(Lib.join (l.map (·.data.toList)) sep.data.toList).length<=140737488355328):Ret Tryz.prog 104 [v,.str sep] U (.str (joB l sep)) U:=
 Ret.of_str (by kernel_rfl) fun w0 W w us hG ha=>by
  cases ha with
  |cons h1 h2=>
  cases h2 with
  |cons h2 h3=>
  cases h3
  obtain rfl:=h2
  rcases OS.flat.1 hO with⟨rfl,rfl,_⟩|⟨g,pre,post,rfl,hB,_⟩
  ·obtain rfl:=h1
   exact(Any.strings_Join_none Ae9 Fy none 0 sep w).mono fun e w' ⟨he,hw⟩=>⟨by rw[he];rfl,hw ▸ Below.refl _ _⟩
  ·obtain⟨L,hL,a,cap,rfl,hcap,hc⟩:=h1
   by_cases hl:l.length=0
   ·have:l=[]:=List.eq_nil_of_length_eq_zero hl
    subst this
    exact(Any.strings_Join_none Ae9 Fy (some a) cap sep w).mono fun e w' ⟨he,hw⟩=>⟨by rw[he];rfl,hw ▸ Below.refl _ _⟩
   ·rcases hc with hc|⟨rfl,_⟩
    ·omega
    have hB':=C7.1 hB
    have hm:=hG.mem g _ L hB' hL
    have hlo:=hG.loc g L hL hm.1
    rw[Pg hlo.1]
    refine(Any.strings_Join Ae9 Fy L.a.block (L.a.off+pre.length) cap l sep w ?_ hlo.2.2.1 hN hcap hlen).mono fun e w' h=>h
    intro j x hx
    have hj:(pre++pS.cells l++post)[pre.length+j]? =some (.str x):=by
     have hjl:j<l.length:=(Zah.1 hx).1
     have hcl:(pS.cells l).length=l.length:=by rw[Pl.cells_length];exact Nat.mul_one _
     rw[Zas,List.getElem?_append_right (by omega),Nat.add_sub_cancel_left,List.getElem?_append_left (by omega)]
     rw[Anv,Zat,hx];rfl
    obtain⟨u,hu,hr⟩:=hG.cell hB' rfl hL hj
    obtain rfl:=hr
    rw[Pg hlo.1] at hu
    rw[Nat.add_assoc]
    exact hu
end
def eD (p:Dot×Int):GV×GV:=(.agg [gi p.1.rep,gi p.1.seq],gi p.2)
def Ot (ps:List (Dot×Int)) (d:Dot):Option Int:=(ps.find? fun p=>decide (d=p.1)).map (·.2)
def mpt (m:GV) (ps:List (Dot×Int)):Thg:=⟨fun U fp=>∃ g,m= .mp g/\fp=[g]/\bk U g=some (.map (ps.map eD)),fun⟨g,h1,h2,h3⟩ hf=>⟨g,h1,h2,by rw[hf g (by rw[h2];exact Zae)];exact h3⟩⟩
theorem Tl (d:Dot):∀(ps:List (Dot×Int)) (i:Nat),∃ q,Xx [.i .i64,.i .i64] [gi d.rep,gi d.seq] (ps.map eD) i=some q/\match Ot ps d with
  |some v=>∃ j,q=some (j,gi v)
  |none=>q=none
 |[],i=>⟨none,rfl,rfl⟩
 |p::ps,i=>by
  obtain⟨q,h1,h2⟩:=Tl d ps (i+1)
  have e:Dg [.i .i64,.i .i64] [gi d.rep,gi d.seq] [gi p.1.rep,gi p.1.seq]=some (decide (d=p.1)):=by
   have:decide (d=p.1)=(decide (d.rep=p.1.rep)&&decide (d.seq=p.1.seq)):=by
    rw[Zaj]
    simp only[decide_eq_true_eq,Zag]
    constructor
    ·rintro rfl;exact⟨rfl,rfl⟩
    ·rintro⟨h3,h4⟩;cases d;cases hp:p.1;simp_all
   rw[this]
   simp only[Dg,scEq,and_self,if_true,Zad,Zap,Bool.and_true,Zbl.injEq]
   rw[Zaj];simp
  by_cases hd:d=p.1
  ·refine⟨some (i,gi p.2),?_,?_⟩
   ·simp only[Zaz,eD,Xx] at e ⊢
    rw[e];simp[hd]
   ·have:Ot (p::ps) d=some p.2:=by simp[Ot,hd]
    rw[this];exact⟨i,rfl⟩
  ·refine⟨q,?_,?_⟩
   ·simp only[Zaz,eD,Xx] at e ⊢
    rw[e];simp only[hd,decide_false,Zad,Zbb,if_false]
    exact h1
   ·have:Ot (p::ps) d=Ot ps d:=by simp[Ot,hd]
    rw[this];exact h2
namespace Hp
variable {U N:St} {rs:List Thg}
theorem newMap (H:Hp U N rs):Hp U (N++[some (.map [])]) (mpt (.mp N.length) []::rs):=
 H.add (rs':=[mpt (.mp N.length) []]) ⟨Zaq _ _,[N.length],⟨[N.length],[],⟨_,rfl,rfl,Jj⟩,rfl,rfl⟩,by simp,by simp⟩
theorem mup (H:Hp U N rs) (i:Nat) {m:GV} {ps:List (Dot×Int)} (hi:rs[i]? =some (mpt m ps)) (d:Dot) (n:Int) (h:Ot ps d=none):
  ∃ N',mupG N [.i .i64,.i .i64] m (.agg [gi d.rep,gi d.seq]) (gi n)=some (.tup [],N')/\Hp U N' (rs.set i (mpt m (ps++[(d,n)]))):=by
 obtain⟨a,⟨g,rfl,rfl,hB⟩,hnd,hbd,ht⟩:=(H.pick i hi).turn
 have hlt:=(hbd g Zae).2
 obtain⟨q,h1,h2⟩:=Tl d ps 0
 rw[h] at h2
 subst h2
 refine⟨N.set g (some (.map ((ps++[(d,n)]).map eD))),?_,unpick (ht (a':=[g]) ⟨by simp,fun g' h=>.inl h,by simp,fun g' h h'=>I3 fun e=>h' (by rw[e];exact Zae)⟩ ⟨g,rfl,rfl,C7.2 (by rw[Za9 hlt])⟩) (Zah.1 hi).1⟩
 simp only[mupG,mpG,C7.1 hB,Zad,keyG,Zau,Zbj,if_true]
 rw[h1]
 simp[Al,Amt,eD]
theorem mlk (H:Hp U N rs) (i:Nat) {m:GV} {ps:List (Dot×Int)} (hi:rs[i]? =some (mpt m ps)) (d:Dot):
  mlkG N [.i .i64,.i .i64] (gi 0) true m (.agg [gi d.rep,gi d.seq])=some (.tup [gi ((Ot ps d).getD 0),.bool (Ot ps d).isSome]):=by
 obtain⟨a,⟨g,rfl,rfl,hB⟩,_⟩:=H.see hi
 obtain⟨q,h1,h2⟩:=Tl d ps 0
 simp only[mlkG,mpG,C7.1 hB,Zad,keyG,Zau,Zbj,if_true]
 rw[h1]
 cases hl:Ot ps d with
 |none=>rw[hl] at h2;subst h2;rfl
 |some v=>rw[hl] at h2;obtain⟨j,rfl⟩:=h2;rfl
end Hp
attribute [go_sem] Zak Zan Za0 Za8 Zaz List.map_nil Zbg Zar
section
variable {P:Program} {D:Bool} {U N:St} {env:Env} {h:List Item} {k:Kx} {v:GV} {Y:Type} {l:List Y}
theorem Hx.nil (H:Hx U N h) (d:Kd Y):Hx U N (.th (ow d .nilS ([]:List Y))::h):=Hp.nilS H
theorem Hx.emp {z n:Nat} (H:Hx U N (.box z n []::h)) (d:Kd Y) (hz:z=d.z):Hx U N (.th (ow d (.sl n 0 0) ([]:List Y))::h):=H.hp.toNil 0 rfl hz
theorem kp {p:Nat->Prop} {env0 env:Env} {d:Nat} {v:GV} (hd:¬ p d) (h:∀ r,p r->env r=env0 r):∀ r,p r->up env d v r=env0 r:=fun r hr=>by
 unfold up
 rw[if_neg (fun e:r=d=>hd (by rw[<- e];exact hr))]
 exact h r hr
theorem Pn (H:Hx U N h) {g:Bool} {n:Nat} {a x:GV} (e:ldG g n N a=some x):ldX U h N g n a=some x:=by
 unfold ldX orX
 cases h1:ldG g n U a with
 |some y=>have:=Aje h1 H.sub;rw[e] at this;exact this.symm
 |none=>
  show ldY h N g n a=some x
  cases a with
  |ptr b off=>
   simp only[ldY]
   cases hl:look h b with
   |none=>exact e
   |some cs=>
    obtain⟨z,i,h2,_⟩:=Tk hl
    have:=H.hp.pt i h2
    simp only[ldG,this,Zad] at e
    exact e
  |_=>exact e
theorem own_at {p:Pl Y} (H:Hx U N h) (i:Nat) (hi:h[i]? =some (.th (ow p.kd v l))) {j:Nat} (hj:j<l.length):iadG p.z v (some j)=some (atz p.z v j)/\(∀ k,fadG k (atz p.z v j)=some (fld k (atz p.z v j)))/\(∀ k m,fadG k (fld m (atz p.z v j))=some (fld (m+k) (atz p.z v j)))/\ldX U h N true p.z (atz p.z v j)=some (.agg (p.enc l[j]))/\∀ k n a,0<n->k+n<=p.z->ldX U h N a n (fld k (atz p.z v j))=(seg (p.enc l[j]) k n).bind (mkv a):=by
 obtain⟨cs,⟨h1,h2,h3,h4,h5⟩,rfl⟩:=RdN.cellsN (d:=p.kd) (H.hp.sl i (at_t hi)) hj
 refine⟨h1,h2,h3,Pn H h4,fun k n a hn hk=> ?_⟩
 have h6:=h5 k n a hk
 have hl:(p.enc l[j]).length=p.z:=p.len _
 have e:seg (p.enc l[j]) k n=some (((p.enc l[j]).drop k).take n):=by unfold seg;rw[if_pos (by omega)]
 obtain⟨x,hx⟩:∃ x,mkv a (((p.enc l[j]).drop k).take n)=some x:=by
  cases a with
  |true=>exact⟨_,rfl⟩
  |false=>
   cases hc:((p.enc l[j]).drop k).take n with
   |nil=>
        have:(((p.enc l[j]).drop k).take n).length=0:=by rw[hc];rfl
        simp only[Zav,List.length_drop] at this;omega
   |cons y ys=>exact⟨y,rfl⟩
 rw[e,Zad,hx] at h6 ⊢
 exact Pn H h6
theorem Alb {l:List Cell} (H:Hx U N h) (i:Nat) (hi:h[i]? =some (.th (ow Ak.kd v l))) {j:Nat} (hj:j<l.length):iadG 8 v (some j)=some (atz 8 v j)/\(∀ k,fadG k (atz 8 v j)=some (fld k (atz 8 v j)))/\(∀ k m,fadG k (fld m (atz 8 v j))=some (fld (m+k) (atz 8 v j)))/\ldX U h N true 8 (atz 8 v j)=some (.agg [.str l[j].obj,gi l[j].dot.rep,gi l[j].dot.seq,gi l[j].time,gi l[j].ref.rep,gi l[j].ref.seq,gi l[j].val,.bool l[j].gone])/\∀ k n a,0<n->k+n<=8->ldX U h N a n (fld k (atz 8 v j))=(seg [.str l[j].obj,gi l[j].dot.rep,gi l[j].dot.seq,gi l[j].time,gi l[j].ref.rep,gi l[j].ref.seq,gi l[j].val,.bool l[j].gone] k n).bind (mkv a):=own_at H i hi hj
theorem A8d:∀ {h:List Item} {n:Nat} {cs:List GV},look h n=some cs->∃ z,∃ i:Nat,h[i]? =some (.box z n cs)
 |[],_,_,e=>by cases e
 | .box z m cs'::h,n,cs,e=>by
  simp only[look] at e
  by_cases hm:m=n
  ·rw[if_pos hm] at e
   injection e with e;subst e hm
   exact⟨z,0,rfl⟩
  ·rw[if_neg hm] at e
   obtain⟨z',i,h1⟩:=A8d e
   exact⟨z',i+1,by simpa using h1⟩
 | .th r::h,n,cs,e=>by
  obtain⟨z',i,h1⟩:=A8d (h:=h) (by simpa [look] using e)
  exact⟨z',i+1,by simpa using h1⟩
theorem no_box (H:Hx U N h) {i:Nat} {r:Thg} (hi:h[i]? =some (.th r)) {b:Nat} (hb:∀ fp,r.P N fp->b∈fp):look h b=none:=by
 cases hl:look h b with
 |none=>rfl
 |some cs=>
  obtain⟨z,j,h1⟩:=A8d hl
  obtain⟨_,fp,hs,hn,_⟩:=H.hp
  obtain⟨F,k1,k2,k3,_⟩:=A8b hs hn
  have hj:=k1 j (pt z b cs) (by rw[Zat,h1];rfl)
  have hr:=k1 i _ (at_t hi)
  have hij:i≠j:=by
   rintro rfl
   rw[hi] at h1;cases h1
  have h2:b∈F j:=by rw[hj.1];exact Zae
  exact(k3 i j hij b (hb _ hr) h2).elim
theorem Anw (H:Hx U N h) {p:Pl Y} {i:Nat} (hi:h[i]? =some (.th (ow p.kd v l))) {j:Nat} (hj:j<l.length) {m n:Nat} {x:GV} (e:genX U false N (stG n N (fld m (atz p.z v j)) x) k):stX U false h N n k (fld m (atz p.z v j)) x:=by
 obtain⟨fp,ho,_⟩:=H.hp.see (at_t hi)
 rcases OS.flat.1 ho with⟨rfl,_⟩|⟨g,pre,post,rfl,hB,rfl⟩
 ·simp at hj
 ·have hn:look h g=none:=no_box H hi fun fp' ho'=>by
   rcases OS.flat.1 ho' with⟨rfl,_⟩|⟨g',pre',post',e',_,rfl⟩
   ·simp at hj
   ·injection e' with e1;rw[e1];exact Zae
  show stB U false h N n k g _ x (look h g)
  rw[hn]
  exact e
theorem Ama {p:Pl Y} (H:Hx U N h) (i:Nat) (hi:h[i]? =some (.th (ow p.kd v l))) {j:Nat} (hj:j<l.length) {m n:Nat} {x:GV} (y:Y) (hx:x.cells.length=n) (hn:0<n) (hk:m+n<=p.z) (hy:p.enc y=Ar (p.enc l[j]) m x.cells)
  (kk:∀ N',Hx U N' (h.set i (.th (ow p.kd v (l.set j y))))->k (.tup []) (h.set i (.th (ow p.kd v (l.set j y)))) N'):stX U false h N n k (fld m (atz p.z v j)) x:=by
 obtain⟨N',e,H'⟩:=H.hp.ste i (at_t hi) hj n m x y hx hn hk hy
 rw[<- set_t] at H'
 exact Anw H hi hj ⟨_,N',_,e,(fun h=>by cases h),H',kk N' H'⟩
theorem Ajk {p:Pl Y} (H:Hx U N h) (i:Nat) (hi:h[i]? =some (.th (ow p.kd v l))) {j:Nat} (hj:j<l.length) {n:Nat} {x:GV} (y:Y) (hx:x.cells=p.enc y) (hn:n=p.z) (hz:0<n)
  (kk:∀ N',Hx U N' (h.set i (.th (ow p.kd v (l.set j y))))->k (.tup []) (h.set i (.th (ow p.kd v (l.set j y)))) N'):stX U false h N n k (atz p.z v j) x:=by
 subst hn
 have e:atz p.z v j=fld 0 (atz p.z v j):=by cases v<;>rfl
 rw[e]
 exact Ama H i hi hj y (by rw[hx,p.len]) hz (by omega) (by rw[hx];unfold Ar;rw[Za3,Zar,p.len,List.drop_eq_nil_of_le (by rw[p.len];omega),Zaa]) kk
end
section os
variable {Y:Type} {d:Kd Y} {U N:St} {l:List Y} {v:GV} {fp:List Nat}
end os
section rules
variable {P:Program} {D:Bool} {U N:St} {h:List Item} {k:Kx} {v:GV} {Y:Type} {l:List Y} {d:Kd Y}
end rules
def Ab2:Fn1:=⟨15,[.t 6],(rg [oV 6 kf] (rg [oM 7 0,oM 8 1,oB 9 .geq 7 8,oM 10 9,jM 11 10 0,jM 12 10 2,jB 13 10 .leq 11 12,oQ 14 10 13,oM 6 14] .ret))⟩
theorem Ahg:A6 Tryz.prog 128=some Ab2:=by kernel_rfl
def A5u:Fn1:=⟨15,[.t 6],(rg [oV 6 kf] (rg [oM 7 0,oM 8 1,oB 9 .geq 7 8,oM 10 9,jM 11 10 0,jM 12 10 2,jB 13 10 .leq 11 12,oQ 14 10 13,oM 6 14] .ret))⟩
theorem Aea:A6 Tryz.prog 109=some A5u:=by kernel_rfl
def A5w:Fn1:=⟨23,[.t 2],(rg [oV 2 kf] (.seq (rg [oV 3 (ki 0)] (oH 0 (.seq (rg [oM 4 3,oM 5 0,o 6 (.len true (.t 5)),oB 7 .lss 4 6] (oJ 7 0)) (.seq (.blk 1 (rg [oM 10 0,oM 11 3,o 12 (.idx (.t 10) (.t 11)),o 13 (.bin .lss (.t 12) (.k (.int .u8 97))),oM 14 13,vM 15 14 0,vM 16 14 3,og 17 14 false (.idx (.t 15) (.t 16)),og 18 14 false (.bin .gtr (.t 17) (.k (.int .u8 122))),oP 19 14 18] (oG 19 (oR 2 kf)))) (.reg [oM 8 3,oZ 9 8 1,oM 3 9]))))) (rg [oM 20 0,o 21 (.len true (.t 20)),o 22 (.call 128 [(.t 21),(ki 1),(ki 8)]),oM 2 22] .ret)))⟩
theorem Aeb:A6 Tryz.prog 129=some A5w:=by kernel_rfl
def A5y:Fn1:=⟨19,[.t 2],(rg [oV 2 kf] (.seq (rg [oV 3 (ki 0)] (oH 0 (.seq (rg [oM 4 3,oM 5 0,o 6 (.len true (.t 5)),oB 7 .lss 4 6] (oJ 7 0)) (.seq (.blk 1 (rg [oM 10 0,oM 11 3,o 12 (.idx (.t 10) (.t 11)),o 13 (.cvi .i64 (.t 12)),o 14 (.call 109 [(.t 13),(ki 97),(ki 122)]),oU 15 14] (oG 15 (oR 2 kf)))) (.reg [oM 8 3,oZ 9 8 1,oM 3 9]))))) (rg [oM 16 0,o 17 (.len true (.t 16)),o 18 (.call 109 [(.t 17),(ki 1),(ki 8)]),oM 2 18] .ret)))⟩
theorem Aec:A6 Tryz.prog 108=some A5y:=by kernel_rfl
def A60:Fn1:=⟨19,[.t 2],(rg [oV 2 kf] (.seq (rg [oV 3 (ki 0)] (oH 0 (.seq (rg [oM 4 3,oM 5 0,oN 6 5,oB 7 .lss 4 6] (oJ 7 0)) (.seq (.blk 1 (rg [oM 10 0,oM 11 3,oI 12 1 10 11,oL 13 12,o 14 (.call 128 [(.t 13),(ki 0),(ki 1000)]),oU 15 14] (oG 15 (oR 2 kf)))) (.reg [oM 8 3,oZ 9 8 1,oM 3 9]))))) (rg [oM 16 0,oN 17 16,oE 18 .eql 17 3,oM 2 18] .ret)))⟩
theorem Aed:A6 Tryz.prog 146=some A60:=by kernel_rfl
def A62:Fn1:=⟨18,[.t 2],(rg [oV 2 kf] (.seq (rg [oM 5 0,oN 6 5,oV 7 (ki 0)] (oH 0 (rg [oB 8 .lss 7 6] (.seq (oJ 8 0) (.seq (.blk 1 (rg [oI 9 1 5 7,oL 10 9,oM 4 10] (rg [oM 11 4,o 12 (.call 109 [(.t 11),(ki 0),(ki 1000)]),oU 13 12] (oG 13 (oR 2 kf))))) (.reg [oZ 14 7 1,oM 7 14])))))) (rg [oM 15 0,oN 16 15,oE 17 .eql 16 3,oM 2 17] .ret)))⟩
theorem Aee:A6 Tryz.prog 238=some A62:=by kernel_rfl
def Ab4:Fn1:=⟨11,[.t 2],(rg [oX 1 0,oV 2 kf] (rg [oF 3 0 1,oL 4 3,o 5 (.call 128 [(.t 4),(ki 0),(ki 2)]),oM 6 5,jF 7 6 1 1,jL 8 6 7,og 9 6 true (.call 128 [(.t 8),(ki 1),(ki 1000)]),oQ 10 6 9,oM 2 10] .ret))⟩
theorem Ahh:A6 Tryz.prog 190=some Ab4:=by kernel_rfl
def Ab6:Fn1:=⟨11,[.t 2],(rg [oX 1 0,oV 2 kf] (rg [oF 3 0 1,oL 4 3,o 5 (.call 109 [(.t 4),(ki 0),(ki 2)]),oM 6 5,jF 7 6 1 1,jL 8 6 7,og 9 6 true (.call 109 [(.t 8),(ki 1),(ki 1000)]),oQ 10 6 9,oM 2 10] .ret))⟩
theorem Ahi:A6 Tryz.prog 260=some Ab6:=by kernel_rfl
def Ab8:Fn1:=⟨21,[.t 4],(rg [oX 3 1,oV 4 kf] (dw [oM 5 0,oC 6 146 5,oM 7 6,jW 8 7 2 3,jC 9 7 190 8,oQ 10 7 9,oM 11 10,jF 12 11 1 3,jL 13 11 12,jM 14 11 0,jF 15 11 0 3,jL 16 11 15,jI 17 11 1 14 16,jL 18 11 17] [jB 19 11 .leq 13 18,oQ 20 11 19,oM 4 20] .ret))⟩
theorem Ahj:A6 Tryz.prog 97=some Ab8:=by kernel_rfl
def Aba:Fn1:=⟨21,[.t 4],(rg [oX 3 1,oV 4 kf] (dw [oM 5 0,oC 6 238 5,oM 7 6,jW 8 7 2 3,jC 9 7 260 8,oQ 10 7 9,oM 11 10,jF 12 11 1 3,jL 13 11 12,jM 14 11 0,jF 15 11 0 3,jL 16 11 15,jI 17 11 1 14 16,jL 18 11 17] [jB 19 11 .leq 13 18,oQ 20 11 19,oM 4 20] .ret))⟩
theorem Ahk:A6 Tryz.prog 219=some Aba:=by kernel_rfl
def Vo:Fn1:=⟨5,[.t 2],(rg [oV 2 kf] (rg [oM 3 0,o 4 (.call 128 [(.t 3),(ki 2),(ki 5)]),oM 2 4] .ret))⟩
theorem A8e:A6 Tryz.prog 193=some Vo:=by kernel_rfl
def Qt:Fn1:=⟨13,[.t 2],(rg [oV 2 kf] (rg [oM 3 0,oE 4 .eql 3 1,oM 5 4,vM 6 5 0,vE 7 5 .eql 6 4,oP 8 5 7,oM 9 8,vM 10 9 0,vE 11 9 .eql 10 6,oP 12 9 11,oM 2 12] .ret))⟩
theorem A4c:A6 Tryz.prog 195=some Qt:=by kernel_rfl
def Vq:Fn1:=⟨45,[.t 8],(rg [oV 8 kf] (.seq (rg [oM 9 0,o 10 (.call 128 [(.t 9),(ki 1),(ki 7)]),oU 11 10,oM 12 11,vM 13 12 1,vC 14 12 129 13,vU 15 12 14,oP 16 12 15,oM 17 16,vM 18 17 0,vC 19 17 193 18,vM 20 17 19,jM 21 20 2,jC 22 20 129 21,jU 23 20 22,og 24 17 false (.pick (.t 20) (.t 23) kf),oP 25 17 24,oM 26 25,vM 27 26 0,vC 28 26 193 27,vU 29 26 28,vM 30 26 29,jM 31 30 2,og 32 30 true (.bin .neq (.t 31) (.k s0)),og 33 26 false (.pick (.t 30) (.t 32) kf),oP 34 26 33] (oG 34 (oR 8 kf))) (rg [oM 35 3,oE 36 .eql 35 0,oM 37 36,vM 38 37 0,vC 39 37 195 38,vM 40 37 39,jM 41 40 3,og 42 40 true (.call 128 [(.t 41),(ki 0),(ki 999999)]),og 43 37 false (.pick (.t 40) (.t 42) kf),oP 44 37 43,oM 8 44] .ret)))⟩
theorem A8f:A6 Tryz.prog 197=some Vq:=by kernel_rfl
def Abc:Fn1:=⟨71,[.t 2],(rg [oX 1 0,oV 2 kf] (.seq (dw [oF 3 0 1,oW 4 2 3,oC 5 190 4,oU 6 5,oM 7 6,vF 8 7 3 1,vL 9 7 8,vC 10 7 146 9,vU 11 7 10,oP 12 7 11,oM 13 12,vF 14 13 3 1,vL 15 13 14,vF 16 13 0 1,vF 17 13 0 16,vL 18 13 17,vI 19 13 1 15 18,vL 20 13 19,vF 21 13 0 1,vF 22 13 1 21,vL 23 13 22,vE 24 13 .sub 23 1,vB 25 13 .neq 20 24,oP 26 13 25,oM 27 26,vF 28 27 2 1,vL 29 27 28,og 30 27 false (.call 128 [(.t 29),(ki 1),(ki 10000)]),vU 31 27 30,oP 32 27 31,oM 33 32,vF 34 33 4 1,vL 35 33 34,vF 36 33 5 1,vL 37 33 36,vF 38 33 6 1,vL 39 33 38,vF 40 33 7 1,vL 41 33 40] [og 42 33 false (.call 197 (oT [35,37,39,41])),vU 43 33 42,oP 44 33 43] (oG 44 (oR 2 kf))) (.seq (rg [oF 45 4 1,oL 46 45] (.blk 0 (rg [oE 48 .eql 46 7,oM 47 48] (cn 47 (rg [oF 49 3 1,oL 50 49,oF 51 8 1,oW 52 2 51,oD 53 97 50 52,oM 2 53] .ret) (rg [oE 55 .eql 46 6,oM 54 55] (oG 54 (rg [oF 56 8 1,oW 57 2 56,o 58 (.build [z0,z0] []),o 59 (.eqs false [.i .i64,.i .i64] (.t 57) (.t 58)),oM 60 59,vF 61 60 3 1,vL 62 60 61,vF 63 60 8 1,vW 64 60 2 63,vD 65 60 97 62 64,oP 66 60 65,oM 2 66] .ret))))))) (rg [oF 67 8 1,oW 68 2 67,o 69 (.build [z0,z0] []),o 70 (.eqs false [.i .i64,.i .i64] (.t 68) (.t 69)),oM 2 70] .ret))))⟩
theorem Ahl:A6 Tryz.prog 96=some Abc:=by kernel_rfl
theorem Ac {P:Program} {env:Env} {U:St} {K:Kt} {r:List Op1} {d:Option Nat} {D:Bool} {f:Nat} {args:List GV} {b:Bool} (h:Ret P f args U (.bool b) U) (ht:b=true->Af D P r K (upo env d (.bool true)) U) (hf:b=false->Af D P r K (upo env d (.bool false)) U):A7u D f args P r K env d U:=by
 cases b with
 |true=>exact A9 h (ht rfl)
 |false=>exact A9 h (hf rfl)
def inB (n a b:Int):Bool:=decide (a<=n)&&decide (n<=b)
theorem Bn {n a b:Int}:inB n a b=true↔a<=n/\n<=b:=by simp[inB]
theorem Ay (U:St) (n a b:Int):Ret Tryz.prog 128 [gi n,gi a,gi b] U (.bool (inB n a b)) U:=by
 refine Ae Ahg (Z0z rfl) trivial ?_
 simp +contextual (disch:=omega) only[go_sem,Ab2,inB]
theorem B9 (U:St) (n a b:Int):Ret Tryz.prog 109 [gi n,gi a,gi b] U (.bool (inB n a b)) U:=by
 refine Ae Aea (Z0z rfl) trivial ?_
 simp +contextual (disch:=omega) only[go_sem,A5u,inB]
def bl (s:ByteArray):List UInt8:=s.data.toList
theorem Cs (s:ByteArray):(bl s).length=s.size:=by
 unfold bl;rw[Array.length_toList];rfl
theorem A10 {s:ByteArray} {i:Nat} (hi:i<(bl s).length):idxG (.str s) (some i)=some (.int .u8 (((bl s)[i].toNat:Nat):Int)):=by
 have h2:i<s.size:=by rw[<- Cs];exact hi
 have e:s[i]? =some (bl s)[i]:=by
  rw[getElem?_pos s i h2];rfl
 simp only[idxG,e,Zap];rfl
theorem Anx (b:UInt8):b.toNat<256:=b.toNat_lt
def lowB (b:UInt8):Bool:=inB (b.toNat:Int) 97 122
def Bw (s:ByteArray):Bool:=(bl s).all lowB&&inB s.size 1 8
theorem Cy (U:St) (s:ByteArray) (hs:s.size<=1099511627776):Ret Tryz.prog 129 [.str s] U (.bool (Bw s)) U:=by
 refine Ae Aeb (Z0z rfl) trivial ?_
 simp +contextual (disch:=omega) only[go_sem,A5w]
 refine Bk (bl s).length 3 (fun i env N=>env 0= .str s/\((bl s).take i).all lowB=true/\U <+: N) rfl ⟨rfl,rfl,Zab _⟩ ?_ ?_
 ·rintro i env N hi e3 c0 ⟨e0,ha,hp⟩
  have hl:=Cs s
  rw[hl] at c0
  have hf:=fun h=>Dl (p:=lowB) hi h
  have ht:=D6 hi ha
  simp +contextual (disch:=omega) only[go_sem,c0,e0,e3,A10 hi,hp]
  simp only[lowB,inB,Bw] at*
  generalize(((bl s)[i].toNat:Nat):Int)=b at*
  grind
 ·rintro env N e3 c0 ⟨e0,ha,hp⟩
  rw[Zac] at ha
  rw[Cs] at c0 e3
  simp +contextual (disch:=omega) only[go_sem,c0,e0,e3]
  refine A9 (Ay N _ _ _) ?_
  simp +contextual (disch:=omega) only[go_sem,Bw,ha,hp]
theorem Cz (U:St) (s:ByteArray) (hs:s.size<=1099511627776):Ret Tryz.prog 108 [.str s] U (.bool (Bw s)) U:=by
 refine Ae Aec (Z0z rfl) trivial ?_
 simp +contextual (disch:=omega) only[go_sem,A5y]
 refine Bk (bl s).length 3 (fun i env N=>env 0= .str s/\((bl s).take i).all lowB=true/\U <+: N) rfl ⟨rfl,rfl,Zab _⟩ ?_ ?_
 ·rintro i env N hi e3 c0 ⟨e0,ha,hp⟩
  have hl:=Cs s
  rw[hl] at c0
  have hf:=fun h=>Dl (p:=lowB) hi h
  have ht:=D6 hi ha
  have h8:=Anx (bl s)[i]
  simp +contextual (disch:=omega) only[go_sem,c0,e0,e3,A10 hi,I4]
  refine Ac (B9 N _ _ _) (fun h=> ?_) (fun h=> ?_)
  ·simp +contextual (disch:=omega) only[go_sem,e0,e3,hp]
   exact ht h
  ·simp +contextual (disch:=omega) only[go_sem,e0,e3,hp]
   simp[Bw,hf h]
 ·rintro env N e3 c0 ⟨e0,ha,hp⟩
  rw[Zac] at ha
  rw[Cs] at c0 e3
  simp +contextual (disch:=omega) only[go_sem,c0,e0,e3]
  refine A9 (B9 N _ _ _) ?_
  simp +contextual (disch:=omega) only[go_sem,Bw,ha,hp]
def seqB (n:Int):Bool:=inB n 0 1000
def okK (l:List Int):Bool:=l.all seqB&&decide (l.length=3)
theorem I6 {l:List Int} (h:okK l=true):l.length=3:=by
 simp only[okK,Zag,decide_eq_true_eq] at h
 exact h.2
theorem Gj (U:St) (v:GV) (l:List Int) (h:RS pI.kd U v l) (hl:l.length<=1099511627776):Ret Tryz.prog 146 [v] U (.bool (okK l)) U:=by
 refine Ae Aed (Z0z rfl) trivial ?_
 simp +contextual (disch:=omega) only[go_sem,A60]
 refine Bk l.length 3 (fun i env N=>env 0=v/\(l.take i).all seqB=true/\U <+: N) rfl ⟨rfl,rfl,Zab _⟩ ?_ ?_
 ·rintro i env N hi e3 c0 ⟨e0,ha,hp⟩
  have hf:=fun h=>Dl (p:=seqB) hi h
  have ht:=D6 hi ha
  simp +contextual (disch:=omega) only[go_sem,c0,e0,e3,h.len,Cx (h.pre hp) hi]
  refine Ac (Ay N _ _ _) (fun h=> ?_) (fun h=> ?_)
  ·simp +contextual (disch:=omega) only[go_sem,e0,e3,hp]
   exact ht h
  ·simp +contextual (disch:=omega) only[go_sem,e0,e3,hp]
   simp[okK,hf h]
 ·rintro env N e3 c0 ⟨e0,ha,hp⟩
  rw[Zac] at ha
  simp +contextual (disch:=omega) only[go_sem,c0,e0,e3,h.len,hp,okK,ha]
  exact Aj7
theorem Vr (U:St) (v:GV) (l:List Int) (h:RS pI.kd U v l) (hl:l.length<=1099511627776):Ret Tryz.prog 238 [v] U (.bool (okK l)) U:=by
 refine Ae Aee (Z0z rfl) trivial ?_
 simp +contextual (disch:=omega) only[go_sem,A62,h.len]
 refine Bk l.length 7 (fun i env N=>env 0=v/\env 5=v/\env 6=gi l.length/\(l.take i).all seqB=true/\U <+: N) rfl ⟨rfl,rfl,rfl,rfl,Zab _⟩ ?_ ?_
 ·rintro i env N hi e7 c0 ⟨e0,e5,e6,ha,hp⟩
  have hf:=fun h=>Dl (p:=seqB) hi h
  have ht:=D6 hi ha
  simp +contextual (disch:=omega) only[go_sem,c0,e0,e5,e6,e7,h.len,Cx (h.pre hp) hi]
  refine Ac (B9 N _ _ _) (fun h=> ?_) (fun h=> ?_)
  ·simp +contextual (disch:=omega) only[go_sem,e0,e5,e6,e7,hp]
   exact ht h
  ·simp +contextual (disch:=omega) only[go_sem,e0,e5,e6,e7,hp]
   simp[okK,hf h]
 ·rintro env N e7 c0 ⟨e0,e5,e6,ha,hp⟩
  rw[Zac] at ha
  simp +contextual (disch:=omega) only[go_sem,c0,e0,e5,e6,e7,h.len,hp,okK,ha]
  exact Aj7
def Hf (d:Dot):Bool:=inB d.rep 0 2&&inB d.seq 1 1000
theorem Qu {d:Dot}:Hf d=true↔(0<=d.rep/\d.rep<=2)/\1<=d.seq/\d.seq<=1000:=by simp[Hf,Bn]
theorem Fz (U:St) (d:Dot):Ret Tryz.prog 190 [.agg [gi d.rep,gi d.seq]] U (.bool (Hf d)) U:=by
 refine Ae Ahh (Z0z rfl) trivial ?_
 simp +contextual (disch:=omega) only[go_sem,Ab4]
 refine Ac (Ay _ _ _ _) (fun h=> ?_) (fun h=> ?_)
 ·simp +contextual (disch:=omega) only[go_sem]
  refine A9 (Ay _ _ _ _) ?_
  simp +contextual (disch:=omega) only[go_sem,Hf,h]
 ·simp +contextual (disch:=omega) only[go_sem,Hf,h]
theorem Aef (U:St) (d:Dot):Ret Tryz.prog 260 [.agg [gi d.rep,gi d.seq]] U (.bool (Hf d)) U:=by
 refine Ae Ahi (Z0z rfl) trivial ?_
 simp +contextual (disch:=omega) only[go_sem,Ab6]
 refine Ac (B9 _ _ _ _) (fun h=> ?_) (fun h=> ?_)
 ·simp +contextual (disch:=omega) only[go_sem]
  refine A9 (B9 _ _ _ _) ?_
  simp +contextual (disch:=omega) only[go_sem,Hf,h]
 ·simp +contextual (disch:=omega) only[go_sem,Hf,h]
def at0 (l:List Int) (r:Int):Int:=l.getD r.toNat 0
def Bq (k:List Int) (d:Dot):Bool:=okK k&&Hf d&&decide (d.seq<=at0 k d.rep)
theorem Ajl {k:IntKind} {n:Int} (h:0<=n):B5 (some (.int k n))=some n.toNat:=by simp[B5,h]
theorem Ajm {U:St} {v:GV} {l:List Int} {r:Int} (h:RS pI.kd U v l) (hk:okK l=true) (h0:0<=r) (h2:r<=2):(B5 (some (gi r))=some r.toNat/\iadG 1 v (some r.toNat)=some (atz 1 v r.toNat))/\ldG false 1 U (atz 1 v r.toNat)=some (gi (at0 l r)):=by
 have hl:=I6 hk
 have hi:r.toNat<l.length:=by omega
 have e:=Cx h hi
 refine⟨⟨Ajl h0,e.1⟩,?_⟩
 rw[e.2,at0,List.getD_eq_getElem?_getD,Zay hi];rfl
theorem G0 (U:St) (v:GV) (k:List Int) (d:Dot) (h:RS pI.kd U v k) (hl:k.length<=1099511627776):Ret Tryz.prog 97 [v,.agg [gi d.rep,gi d.seq]] U (.bool (Bq k d)) U:=by
 refine Ae Ahj (Z0z rfl) trivial ?_
 simp +contextual (disch:=omega) only[go_sem,Ab8]
 have h1:=h.pre (pre1 U (some (Blk.row 1 [gi d.rep,gi d.seq])))
 refine Ac (Gj _ v k h1 hl) (fun hk=> ?_) (fun hk=> ?_)
 ·simp +contextual (disch:=omega) only[go_sem]
  refine Ac (Fz _ d) (fun hd=> ?_) (fun hd=> ?_)
  ·have hd':=Qu.1 hd
   have hr:=Ajm h1 hk hd'.1.1 hd'.1.2
   simp +contextual (disch:=omega) only[go_sem,hr,Bq,hk,hd]
  ·simp +contextual (disch:=omega) only[go_sem,Bq,hk,hd]
 ·simp +contextual (disch:=omega) only[go_sem,Bq,hk]
theorem A11 (U:St) (v:GV) (k:List Int) (d:Dot) (h:RS pI.kd U v k) (hl:k.length<=1099511627776):Ret Tryz.prog 219 [v,.agg [gi d.rep,gi d.seq]] U (.bool (Bq k d)) U:=by
 refine Ae Ahk (Z0z rfl) trivial ?_
 simp +contextual (disch:=omega) only[go_sem,Aba]
 have h1:=h.pre (pre1 U (some (Blk.row 1 [gi d.rep,gi d.seq])))
 refine Ac (Vr _ v k h1 hl) (fun hk=> ?_) (fun hk=> ?_)
 ·simp +contextual (disch:=omega) only[go_sem]
  refine Ac (Aef _ d) (fun hd=> ?_) (fun hd=> ?_)
  ·have hd':=Qu.1 hd
   have hr:=Ajm h1 hk hd'.1.1 hd'.1.2
   simp +contextual (disch:=omega) only[go_sem,hr,Bq,hk,hd]
  ·simp +contextual (disch:=omega) only[go_sem,Bq,hk,hd]
 ·simp +contextual (disch:=omega) only[go_sem,Bq,hk]
def A64:Fn1:=⟨22,[.t 2],(rg [o 2 (.mov (.k s0))] (rg [o 4 (.lit 1 0 [] []),oM 3 4] (.seq (oH 0 (.seq (rg [oM 5 0,oE 6 .gtr 5 127] (oJ 6 0)) (.blk 1 (rg [oM 7 3,oM 8 0,oE 9 .rem 8 128,oZ 10 9 128,o 11 (.cvi .u8 (.t 10)),o 12 (.lit 1 1 [(.int .u8 0)] [(0,1,(.t 11))]),o 13 (.app 1 1 [(.int .u8 0)] (.t 7) (.t 12)),oM 3 13] (.reg [oM 14 0,oE 15 .quo 14 128,oM 0 15]))))) (rg [oM 16 3,oM 17 0,o 18 (.cvi .u8 (.t 17)),o 19 (.lit 1 1 [(.int .u8 0)] [(0,1,(.t 18))]),o 20 (.app 1 1 [(.int .u8 0)] (.t 16) (.t 19)),o 21 (.bts (.t 20)),oM 2 21] .ret))))⟩
theorem Aeg:A6 Tryz.prog 134=some A64:=by kernel_rfl
def Vt:Fn1:=⟨8,[.t 2],(rg [o 2 (.mov (.k s0))] (rg [oM 3 0,o 4 (.len true (.t 3)),oC 5 134 4,oM 6 0,oB 7 .add 5 6,oM 2 7] .ret))⟩
theorem A8g:A6 Tryz.prog 135=some Vt:=by kernel_rfl
def A13:Fn1:=⟨26,[.t 2,.t 3],(rg [o 2 (.mov (.k s0)),oV 3 kf] (.seq (rg [oM 5 0,o 6 (.call 109 [(.t 5),(ki 0),(ki 1000000000)]),oU 7 6] (oG 7 (rg [o 2 (.mov (.k s0)),oV 3 kf] .ret))) (rg [o 8 (.lit 1 0 [] []),oM 4 8] (.seq (oH 0 (.seq (rg [oM 9 0,oE 10 .gtr 9 127] (oJ 10 0)) (.blk 1 (rg [oM 11 4,oM 12 0,oE 13 .rem 12 128,oZ 14 13 128,o 15 (.cvi .u8 (.t 14)),o 16 (.lit 1 1 [(.int .u8 0)] [(0,1,(.t 15))]),o 17 (.app 1 1 [(.int .u8 0)] (.t 11) (.t 16)),oM 4 17] (.reg [oM 18 0,oE 19 .quo 18 128,oM 0 19]))))) (rg [oM 20 4,oM 21 0,o 22 (.cvi .u8 (.t 21)),o 23 (.lit 1 1 [(.int .u8 0)] [(0,1,(.t 22))]),o 24 (.app 1 1 [(.int .u8 0)] (.t 20) (.t 23)),o 25 (.bts (.t 24)),oM 2 25,oV 3 kt] .ret)))))⟩
theorem Abd:A6 Tryz.prog 211=some A13:=by kernel_rfl
def Km:Fn1:=⟨18,[.t 2,.t 3],(rg [o 2 (.mov (.k s0)),oV 3 kf] (.seq (rg [oM 6 0,o 7 (.len true (.t 6)),oE 8 .gtr 7 20000] (oG 8 (rg [o 2 (.mov (.k s0)),oV 3 kf] .ret))) (rg [oM 10 0,o 11 (.len true (.t 10)),oC 12 211 11,oM 9 12,o 13 (.ext 0 (.t 9)),o 14 (.ext 1 (.t 9)),oM 4 13,oM 5 14] (rg [oM 15 4,oM 16 0,oB 17 .add 15 16,oM 2 17,oV 3 kt] .ret))))⟩
theorem A4d:A6 Tryz.prog 212=some Km:=by kernel_rfl
def Vv:Fn1:=⟨24,[.t 2],(rg [o 2 (.mov (.k s0))] (rg [o 3 (.mov (.k s0))] (.seq (rg [oM 8 0,oN 9 8,oV 10 (ki 0)] (oH 0 (rg [oB 11 .lss 10 9] (.seq (oJ 11 0) (.seq (.blk 1 (rg [oI 12 1 8 10,oL 13 12,oM 5 13] (rg [oM 15 5,oC 16 211 15,oM 14 16,o 17 (.ext 0 (.t 14)),o 18 (.ext 1 (.t 14)),oM 6 17,oM 7 18] (.reg [oM 19 3,oM 20 6,oB 21 .add 19 20,oM 3 21])))) (.reg [oZ 22 10 1,oM 10 22])))))) (rg [oM 23 3,oM 2 23] .ret))))⟩
theorem A8h:A6 Tryz.prog 112=some Vv:=by kernel_rfl
def P2:Fn1:=⟨24,[.t 2],(rg [o 2 (.mov (.k s0))] (rg [o 3 (.mov (.k s0))] (.seq (rg [oM 8 0,oN 9 8,oV 10 (ki 0)] (oH 0 (rg [oB 11 .lss 10 9] (.seq (oJ 11 0) (.seq (.blk 1 (rg [oI 12 1 8 10,oL 13 12,oM 5 13] (rg [oM 15 5,oC 16 212 15,oM 14 16,o 17 (.ext 0 (.t 14)),o 18 (.ext 1 (.t 14)),oM 6 17,oM 7 18] (.reg [oM 19 3,oM 20 6,oB 21 .add 19 20,oM 3 21])))) (.reg [oZ 22 10 1,oM 10 22])))))) (rg [oM 23 3,oM 2 23] .ret))))⟩
theorem A14:A6 Tryz.prog 113=some P2:=by kernel_rfl
theorem Tm (n:Nat) (h:n<34359738368):(vb n).length<=5:=by
 have s1:∀ m,m≤127->(vb m).length=1:=fun m hm=>by rw[vb,if_neg (by omega)];rfl
 have st:∀(c:Nat) (k:Nat),(∀ m,m<c->(vb m).length<=k)->128<=c->∀ m,m<128*c->(vb m).length<=k+1:=fun c k hk hc m hm=>by
  by_cases hb:m>127
  ·rw[vb,if_pos hb,Zau]
   have:=hk (m / 128) (by omega);omega
  ·have:=s1 m (by omega);omega
 have h1:∀ m,m<128->(vb m).length<=1:=fun m hm=>by have:=s1 m (by omega);omega
 have h2:=st 128 1 h1 (by omega)
 have h3:=st (128*128) 2 h2 (by omega)
 have h4:=st (128*(128*128)) 3 h3 (by omega)
 exact st (128*(128*(128*128))) 4 h4 (by omega) n (by omega)
theorem Alc {U:St} {v:GV} {l:List Int} (h:RS pB.kd U v l):((elems U 1 v).bind fun r=>(Ej r.2).map fun bs=>GV.str ⟨bs.toArray⟩)=some (.str (txt l)):=bts_ok h
theorem Hp.app_u8 {U N:St} {rs:List Thg} {v:GV} {l:List Int} (H:Hp U N rs) (i:Nat) (hi:rs[i]? =some (ow pB.kd v l)) (x:Int) (hb:(l.length+1)*1<=140737488355328):∃ v' N',appV 1 1 (N++[some (.row 1 [.int .u8 x])]) v (.sl N.length 0 1)=some (v',N')/\Hp U N' (rs.set i (ow pB.kd v' (l++[x]))):=H.app1 i hi x (by decide) hb
theorem Ajn {m:Nat} (h:127<m) (a:List Int):(a++[((m % 128+128:Nat):Int)])++vb (m / 128)=a++vb m:=by
 conv=>rhs;rw[vb,if_pos h]
 simp
theorem M9 (U:St) (n:Nat) (hn:n<=1099511627776):Ret Tryz.prog 134 [gi n] U (.str (txt (vb n))) U:=by
 refine Ae Aeg (Z0z rfl) trivial ?_
 simp +contextual (disch:=omega) only[go_sem,A64]
 refine Oy (fun k env N=>∃(v:GV) (acc:List Int),k≤n/\env 0=gi k/\env 3=v/\Hp U N [ow pB.kd v acc]/\acc.length+k<=n/\acc++vb k=vb n) n ⟨_,[],Zai _,rfl,rfl,(Hp.refl U).newNil pB.kd,by simp,rfl⟩ ?_
 rintro k env N ⟨v,acc,hk,e0,e3,H,hacc,hv⟩
 by_cases hc:127<k
 ·have d1:decide (127<(k:Int))=true:=decide_eq_true (by omega)
  have e1:((k % 128:Nat):Int)+128=((k % 128+128:Nat):Int):=by omega
  obtain⟨v',N',e,H⟩:=H.app_u8 0 rfl (((k % 128:Nat):Int)+128) (by omega)
  have hw:IntKind.u8.wrap (((k % 128:Nat):Int)+128)=((k % 128:Nat):Int)+128:=Ahb (by omega) (by omega)
  simp +contextual (disch:=omega) only[go_sem,e0,e3,d1,Lo,A7v,Aj9,hw,e]
  have H:Hp U N' [ow pB.kd v' (acc++[((k % 128:Nat):Int)+128])]:=H
  rw[e1] at H
  exact⟨k / 128,by omega,v',acc++[((k % 128+128:Nat):Int)],by omega,rfl,rfl,H,by simp;omega,by rw[Ajn hc];exact hv⟩
 ·have d1:decide (127<(k:Int))=false:=decide_eq_false (by omega)
  have hw:IntKind.u8.wrap (k:Int)=k:=Ahb (by omega) (by omega)
  obtain⟨v',N',e,H⟩:=H.app_u8 0 rfl (k:Int) (by omega)
  have hs:vb k=[(k:Int)]:=by rw[vb,if_neg hc]
  simp +contextual (disch:=omega) only[go_sem,e0,e3,d1,hw,e,Alc (H.sl 0 rfl),H.sub]
  rw[<- hs,hv]
theorem P3 (U:St) (s:ByteArray) (hs:s.size<=1099511627776):Ret Tryz.prog 135 [.str s] U (.str (txt (vb s.size)++s)) U:=by
 have:=Aj8 s.size
 have hle:(vb s.size).length+s.size<=9223372036854775807:=by omega
 refine Ae A8g (Z0z rfl) trivial ?_
 simp +contextual (disch:=omega) only[go_sem,Vt]
 refine A9 (M9 U s.size hs) ?_
 simp +contextual (disch:=omega) only[go_sem,Ii,hle]
def Ou (n:Int):ByteArray:=if inB n 0 1000000000 then txt (vb n.toNat) else⟨#[]⟩
theorem Oj (n:Int):(Ou n).size<=5:=by
 unfold Ou
 split
 ·rename_i h
  have:=Bn.1 h
  rw[Ii];exact Tm _ (by omega)
 ·decide
theorem Qw {n:Nat} (h:n<=1000000000):Ou n=txt (vb n):=by
 unfold Ou
 rw[if_pos (Bn.2 (by omega))];rfl
def Bt (s:ByteArray):ByteArray:=if s.size<=20000 then txt (vb s.size)++s else⟨#[]⟩
theorem Es (s:ByteArray):(Bt s).size<=20005:=by
 unfold Bt
 split
 ·rw[ByteArray.size_append,Ii]
  have:=Tm s.size (by omega);omega
 ·decide
theorem Qy (U:St) (n:Int):Ret Tryz.prog 211 [gi n] U (.tup [.str (Ou n),.bool (inB n 0 1000000000)]) U:=by
 refine Ae Abd (Z0z rfl) (by intro v hv;simp at hv;rcases hv with rfl|rfl<;>trivial) ?_
 simp +contextual (disch:=omega) only[go_sem,A13]
 refine Ac (B9 _ _ _ _) (fun hi=> ?_) (fun hi=> ?_)
 ·have hn:=Bn.1 hi
  obtain⟨m,rfl⟩:∃ m:Nat,n=m:=⟨n.toNat,by omega⟩
  simp +contextual (disch:=omega) only[go_sem]
  refine Oy (fun k env N=>∃(v:GV) (acc:List Int),k≤m/\env 0=gi k/\env 4=v/\Hp U N [ow pB.kd v acc]/\acc.length+k<=m/\acc++vb k=vb m) m ⟨_,[],Zai _,rfl,rfl,(Hp.refl U).newNil pB.kd,by simp,rfl⟩ ?_
  rintro k env N ⟨v,acc,hk,e0,e4,H,hacc,hv⟩
  by_cases hc:127<k
  ·have d1:decide (127<(k:Int))=true:=decide_eq_true (by omega)
   have e1:((k % 128:Nat):Int)+128=((k % 128+128:Nat):Int):=by omega
   obtain⟨v',N',e,H⟩:=H.app_u8 0 rfl (((k % 128:Nat):Int)+128) (by omega)
   have hw:IntKind.u8.wrap (((k % 128:Nat):Int)+128)=((k % 128:Nat):Int)+128:=Ahb (by omega) (by omega)
   simp +contextual (disch:=omega) only[go_sem,e0,e4,d1,Lo,A7v,Aj9,hw,e]
   have H:Hp U N' [ow pB.kd v' (acc++[((k % 128:Nat):Int)+128])]:=H
   rw[e1] at H
   exact⟨k / 128,by omega,v',acc++[((k % 128+128:Nat):Int)],by omega,rfl,rfl,H,by simp;omega,by rw[Ajn hc];exact hv⟩
  ·have d1:decide (127<(k:Int))=false:=decide_eq_false (by omega)
   have hw:IntKind.u8.wrap (k:Int)=k:=Ahb (by omega) (by omega)
   obtain⟨v',N',e,H⟩:=H.app_u8 0 rfl (k:Int) (by omega)
   have hs:vb k=[(k:Int)]:=by rw[vb,if_neg hc]
   simp +contextual (disch:=omega) only[go_sem,e0,e4,d1,hw,e,Alc (H.sl 0 rfl),H.sub,Adw,Al,<-hs,hv]
   rw[hi,Qw (by omega)]
 ·simp +contextual (disch:=omega) only[go_sem,Adw,Al]
  rw[hi]
  simp[Ou,hi,tup2,Al]
theorem A15 (U:St) (s:ByteArray) (hs:s.size<=1099511627776):Ret Tryz.prog 212 [.str s] U (.tup [.str (Bt s),.bool (decide (s.size<=20000))]) U:=by
 refine Ae A4d (Z0z rfl) (by intro v hv;simp at hv;rcases hv with rfl|rfl<;>trivial) ?_
 by_cases hc:s.size<=20000
 ·have d1:decide (20000<(s.size:Int))=false:=decide_eq_false (by omega)
  have h5:=Tm s.size (by omega)
  have hle:(vb s.size).length+s.size<=9223372036854775807:=by omega
  simp +contextual (disch:=omega) only[go_sem,Km,d1]
  refine A9 (Qy U s.size) ?_
  simp +contextual (disch:=omega) only[go_sem,Qw (show s.size<=1000000000 by omega),Ii,hle,Adw,Al]
  simp[Bt,hc,tup2,Al]
 ·have d1:decide (20000<(s.size:Int))=true:=decide_eq_true (by omega)
  simp +contextual (disch:=omega) only[go_sem,Km,d1]
  simp[Bt,hc,tup2,Al]
def catS (l:List ByteArray):ByteArray:=l.foldl (· ++·) ⟨#[]⟩
theorem Abe (l:List ByteArray) (s:ByteArray):catS (l++[s])=catS l++s:=by simp[catS]
theorem Abf {l:List ByteArray} {k:Nat} (h:∀ s∈l,s.size<=k):(catS l).size<=l.length*k:=by
 have key:∀(l:List ByteArray) (a:ByteArray),(∀ s∈l,s.size<=k)->(l.foldl (· ++·) a).size<=a.size+l.length*k:=by
  intro l
  induction l with
  |nil=>intro a _;simp
  |cons s l ih=>
   intro a hs
   have h1:=ih (a++s) fun x hx=>hs x (Zao _ hx)
   have h2:=hs s Zae
   rw[ByteArray.size_append] at h1
   simp only[List.foldl_cons,Zau,Nat.add_mul] at*
   omega
 have:=key l ⟨#[]⟩ h
 have e:(⟨#[]⟩:ByteArray).size=0:=rfl
 unfold catS;omega
theorem Qz {Y β:Type} {f:Y->β} {l:List Y} {i:Nat} (h:i<l.length):(l.take (i+1)).map f=(l.take i).map f++[f l[i]]:=by rw[Ax h,Za4];rfl
theorem A4e (U:St) (v:GV) (l:List Int) (h:RS pI.kd U v l) (hl:l.length<=1099511627776):Ret Tryz.prog 112 [v] U (.str (catS (l.map Ou))) U:=by
 refine Ae A8h (Z0z rfl) trivial ?_
 simp +contextual (disch:=omega) only[go_sem,Vv,h.len]
 refine Bk l.length 10 (fun i env N=>env 8=v/\env 9=gi l.length/\env 3= .str (catS ((l.take i).map Ou))/\U <+: N) rfl ⟨rfl,rfl,rfl,Zab _⟩ ?_ ?_
 ·rintro i env N hi e10 c0 ⟨e8,e9,e3,hp⟩
  have hsz:(catS ((l.take i).map Ou)).size<=i*5:=by
   have:=Abf (l:=(l.take i).map Ou) (k:=5) (by intro s hs;obtain⟨x,_,rfl⟩:=List.mem_map.1 hs;exact Oj x)
   rw[Zbk,Zav] at this;omega
  have hv:=Oj l[i]
  have hle:(catS ((l.take i).map Ou)).size+(Ou l[i]).size<=9223372036854775807:=by omega
  simp +contextual (disch:=omega) only[go_sem,c0,e8,e9,e3,e10,Cx (h.pre hp) hi]
  refine A9 (Qy N l[i]) ?_
  simp +contextual (disch:=omega) only[go_sem,e8,e9,e3,e10,hle,hp,Qz hi,Abe]
 ·rintro env N e10 c0 ⟨e8,e9,e3,hp⟩
  rw[Zac] at e3
  simp +contextual (disch:=omega) only[go_sem,c0,e8,e9,e3,e10,hp]
theorem Xy (U:St) (v:GV) (l:List ByteArray) (h:RS pS.kd U v l) (hl:l.length<=1099511627776) (hs:∀ s∈l,s.size<=1099511627776):Ret Tryz.prog 113 [v] U (.str (catS (l.map Bt))) U:=by
 refine Ae A14 (Z0z rfl) trivial ?_
 simp +contextual (disch:=omega) only[go_sem,P2,h.len]
 refine Bk l.length 10 (fun i env N=>env 8=v/\env 9=gi l.length/\env 3= .str (catS ((l.take i).map Bt))/\U <+: N) rfl ⟨rfl,rfl,rfl,Zab _⟩ ?_ ?_
 ·rintro i env N hi e10 c0 ⟨e8,e9,e3,hp⟩
  have hsz:(catS ((l.take i).map Bt)).size<=i*20005:=by
   have:=Abf (l:=(l.take i).map Bt) (k:=20005) (by intro s hs;obtain⟨x,_,rfl⟩:=List.mem_map.1 hs;exact Es x)
   rw[Zbk,Zav] at this
   have:min i l.length=i:=by omega
   simp_all
  have hv:=Es l[i]
  have hle:(catS ((l.take i).map Bt)).size+(Bt l[i]).size<=9223372036854775807:=by omega
  simp +contextual (disch:=omega) only[go_sem,c0,e8,e9,e3,e10,Ih (h.pre hp) hi]
  refine A9 (A15 N l[i] (hs _ (Zal hi))) ?_
  simp +contextual (disch:=omega) only[go_sem,e8,e9,e3,e10,hle,hp,Qz hi,Abe]
 ·rintro env N e10 c0 ⟨e8,e9,e3,hp⟩
  rw[Zac] at e3
  simp +contextual (disch:=omega) only[go_sem,c0,e8,e9,e3,e10,hp]
theorem Ij:∀(x y:List UInt8),Op.bytesLess x y=decide (x<y)
 |_,[]=>by simp[Op.bytesLess]
 |[],_::_=>by simp[Op.bytesLess]
 |a::x,b::y=>by
  rw[Op.bytesLess,Ij x y,Zaj]
  simp only[Za1,decide_eq_true_eq,Zag,beq_iff_eq,List.cons_lt_cons_iff]
def txLt (a b:ByteArray):Bool:=Op.bytesLess a.toList b.toList
theorem Ahm {a b:ByteArray} (h:a.toList=b.toList):a=b:=by
 have:=Hq (a:=a) (b:=b)
 rw[h] at this
 simpa using this.symm
theorem Ik (a:ByteArray):txLt a a=false:=by
 rw[txLt,Ij];simp
theorem Ht {a b c:ByteArray} (h1:txLt a b=true) (h2:txLt b c=true):txLt a c=true:=by
 rw[txLt,Ij,decide_eq_true_eq] at*
 exact List.lt_trans h1 h2
theorem Abg {a b:ByteArray} (h1:txLt a b=true):txLt b a=false:=by
 cases h:txLt b a with
 |false=>rfl
 |true=>have:=Ht h1 h;rw[Ik] at this;cases this
theorem Kn {a b:ByteArray} (h1:txLt a b=false) (h2:txLt b a=false):a=b:=by
 rw[txLt,Ij,decide_eq_false_iff_not] at*
 exact Ahm (List.le_antisymm (List.not_lt.1 h2) (List.not_lt.1 h1))
@[go_sem] theorem bin_slss {a b:ByteArray}:binG .lss (.str a) (.str b)=some (.bool (txLt a b)):=(rfl)
@[go_sem] theorem bin_sgtr {a b:ByteArray}:binG .gtr (.str a) (.str b)=some (.bool (txLt b a)):=by
 have:(!(txLt a b||decide (a=b)))=txLt b a:=by
  by_cases h:a=b
  ·subst h;simp[Ik]
  ·cases h1:txLt a b with
   |true=>rw[Abg h1];simp
   |false=>
    cases h2:txLt b a with
    |true=>simp[h]
    |false=>exact absurd (Kn h1 h2) h
 simp only[binG,strG,Hq]
 exact congrArg (fun b=>some (GV.bool b)) this
def cmpI (a b:Int):Int:=if a<b then -1 else if b<a then 1 else 0
def cmpS (a b:ByteArray):Int:=if txLt a b then -1 else if txLt b a then 1 else 0
def orI (a b:Int):Int:=if a=0 then b else a
def A16 (a b:Dot):Int:=orI (cmpI a.rep b.rep) (cmpI a.seq b.seq)
def Zo (a b:Tally):Int:=orI (cmpS a.obj b.obj) (cmpI a.rep b.rep)
def C8 (a b:Dot):Bool:=decide (a.rep<b.rep)||decide (a.rep=b.rep)&&decide (a.seq<b.seq)
def Be (a b:Tally):Bool:=txLt a.obj b.obj||decide (a.obj=b.obj)&&decide (a.rep<b.rep)
theorem Abh {a b:Dot}:decide (A16 a b<0)=C8 a b:=by
 unfold A16 C8 orI cmpI
 rw[Zaj]
 simp only[decide_eq_true_eq,Za1,Zag]
 repeat' split
 all_goals omega
theorem A17 {a b:Dot}:decide (0<=A16 a b)= !C8 a b:=by
 rw[<- Abh,Zaj];simp
theorem Anz {a b:Int}:cmpI a b=0↔a=b:=by
 unfold cmpI
 rcases Zbe a b with h|h|h
 ·rw[if_pos h];omega
 ·subst h;simp
 ·rw[if_neg (by omega),if_pos h];omega
theorem Agb {a b:Int}:cmpI a b<0↔a<b:=by
 unfold cmpI
 rcases Zbe a b with h|h|h
 ·rw[if_pos h];omega
 ·subst h;simp
 ·rw[if_neg (by omega),if_pos h];omega
theorem Ald {a b:ByteArray}:cmpS a b<0↔txLt a b=true:=by
 unfold cmpS
 cases h1:txLt a b with
 |true=>simp
 |false=>
  cases h2:txLt b a with
  |true=>simp
  |false=>simp
theorem Ajo {a b:ByteArray}:cmpS a b=0↔a=b:=by
 unfold cmpS
 cases h1:txLt a b with
 |true=>
  have h3:a≠b:=fun e=>by rw[e,Ik] at h1;cases h1
  simp[h3]
 |false=>
  cases h2:txLt b a with
  |true=>
   have h3:a≠b:=fun e=>by rw[e,Ik] at h2;cases h2
   simp[h3]
  |false=>simp[Kn h1 h2]
theorem Aeh {a b:Tally}:decide (Zo a b<0)=Be a b:=by
 unfold Zo Be orI
 rw[Zaj]
 simp only[decide_eq_true_eq,Za1,Zag]
 by_cases h:a.obj=b.obj
 ·rw[if_pos (Ajo.2 h),Agb,h,Ik];simp
 ·rw[if_neg (fun e=>h (Ajo.1 e)),Ald];simp[h]
theorem Aei {a b:Tally}:decide (0<=Zo a b)= !Be a b:=by
 rw[<- Aeh,Zaj];simp
theorem A18 (a:Dot):C8 a a=false:=by simp[C8]
theorem Po {a b c:Dot} (h1:C8 a b=true) (h2:C8 b c=true):C8 a c=true:=by
 simp only[C8,Za1,Zag,decide_eq_true_eq] at *;omega
theorem Ajp {a b:Dot} (h1:C8 a b=false) (h2:C8 b a=false):a=b:=by
 rw[Dot.eq_iff]
 simp only[C8,Bool.or_eq_false_iff,Bool.and_eq_false_iff,decide_eq_false_iff_not] at *;omega
def allR (n:Nat) (p:Nat->Bool):Bool:=(List.range n).all p
theorem Ko {n:Nat} {p:Nat->Bool}:allR n p=true↔∀ i,i<n->p i=true:=by simp[allR]
theorem Tn {n i:Nat} {p:Nat->Bool} (hi:i<n) (h:p i=false):allR n p=false:=by
 cases e:allR n p with
 |false=>rfl
 |true=>rw[Ko.1 e i hi] at h;cases h
theorem Ok {n:Nat} {p:Nat->Bool} (h:∀ i,i<n->p i=true):allR n p=true:=Ko.2 h
theorem Dn {i:Nat} {p:Nat->Bool} (h:∀ j,j<i->p j=true) (hi:p i=true):∀ j,j<i+1->p j=true:=fun j hj=>by
 rcases Zbf j i with h1|h1
 ·exact h j h1
 ·have:j=i:=by omega
  subst this;exact hi
def onI {Y:Type} (l:List Y) (i:Nat) (p:Y->Bool):Bool:=match l[i]? with
 |some x=>p x
 |none=>true
theorem Cp {Y:Type} {l:List Y} {i:Nat} {p:Y->Bool} (hi:i<l.length):onI l i p=p l[i]:=by
 simp only[onI,Zay hi]
def upI {Y:Type} (lt:Y->Y->Bool) (l:List Y):Nat->Bool
 |0=>true
 |i+1=>onI l i fun a=>onI l (i+1) fun b=>lt a b
theorem P4 {Y:Type} {lt:Y->Y->Bool} {l:List Y} {i:Nat} (h0:i≠0) (hi:i<l.length) (hj:i - 1<l.length):upI lt l i=lt l[i - 1] l[i]:=by
 cases i with
 |zero=>exact absurd rfl h0
 |succ i=>
  simp only[upI,Zbc]
  rw[Cp (by omega),Cp hi]
theorem Ale {Y:Type} {lt:Y->Y->Bool} (ht:∀ a b c,lt a b=true->lt b c=true->lt a c=true) {l:List Y} (h:∀ i,i<l.length->upI lt l i=true):l.Pairwise fun a b=>lt a b=true:=by
 have key:∀(j i:Nat) (hi:i<l.length) (hj:j<l.length),i<j->lt l[i] l[j]=true:=by
  intro j
  induction j with
  |zero=>intro i hi hj h;omega
  |succ j ih=>
   intro i hi hj hij
   have h1:=h (j+1) hj
   rw[P4 (by omega) hj (by omega)] at h1
   simp only[Zbc] at h1
   rcases Zbf i j with h2|h2
   ·exact ht _ _ _ (ih i hi (by omega) h2) h1
   ·have:i=j:=by omega
    subst this;exact h1
 rw[Za6]
 exact fun i j hi hj hij=>key j i hi hj hij
def tal1 (t:Tally):Bool:=Bw t.obj&&(inB t.rep 0 2&&inB t.sum 0 999999)
def talP (l:List Tally) (i:Nat):Bool:=onI l i tal1&&upI Be l i
def Jl (l:List Tally):Bool:=allR l.length (talP l)&&decide (l.length<=120)
def liv1 (x:Live):Bool:=Bw x.obj&&(Bw x.key&&(inB x.val 0 999999&&(x.map||decide (x.val=0))))
def Et (a b:Live):Bool:=C8 a.dot b.dot
def livP (l:List Live) (k:List Int) (i:Nat):Bool:=(onI l i fun x=>Bq k x.dot)&&((onI l i liv1)&&upI Et l i)
def A19 (l:List Live) (k:List Int):Bool:=allR l.length (livP l k)&&decide (l.length<=120)
def Ahn (l:List Live) (i:Nat):Bool:=(onI l i fun x=>Hf x.dot)&&((onI l i liv1)&&upI Et l i)
def Aho (l:List Live):Bool:=allR l.length (Ahn l)&&decide (l.length<=120)
def cel1 (x:Cell):Bool:=Bw x.obj&&(inB x.val 0 999999&&inB x.time 1 10000)
def Fs (a b:Cell):Bool:=C8 a.dot b.dot
def celP (l:List Cell) (k:List Int) (i:Nat):Bool:=(onI l i fun x=>Bq k x.dot)&&((onI l i cel1)&&upI Fs l i)
def P5 (l:List Cell) (k:List Int):Bool:=allR l.length (celP l k)&&decide (l.length<=120)
def refD (x:Cell):Bool:=decide (x.ref=⟨0,0⟩)||Hf x.ref
def Ahp (l:List Cell) (i:Nat):Bool:=(onI l i fun x=>Hf x.dot)&&((onI l i cel1)&&((onI l i refD)&&upI Fs l i))
def Ahq (l:List Cell):Bool:=allR l.length (Ahp l)&&decide (l.length<=120)
def Eu (l:List Cell) (d:Dot):Option Nat:=l.findIdx? fun c=>decide (c.dot=d)
def ref1 (l:List Cell) (c:Cell):Bool:=decide (c.ref=⟨0,0⟩)||match Eu l c.ref with
 |none=>false
 |some k=>onI l k fun y=>decide (y.obj=c.obj)&&decide (y.time<c.time)
def A65 (l:List Cell):Bool:=l.all (ref1 l)
def Bf (s:State):Bool:=okK s.know&&(Jl s.tallies&&(A19 s.lives s.know&&(P5 s.cells s.know&&A65 s.cells)))
def livK (k:List Int) (x:Live):Bool:=Bq k x.dot
def celK (l:List Cell) (k:List Int) (x:Cell):Bool:=Bq k x.dot&&ref1 l x
def Eh (s:State):Bool:=okK s.know&&(Jl s.tallies&&(Aho s.lives&&(Ahq s.cells&&(s.lives.all (livK s.know)&&s.cells.all (celK s.cells s.know)))))
theorem Ra {k:List Int} {d:Dot} (h:Bq k d=true):Hf d=true:=by
 simp only[Bq,Zag] at h;exact h.1.2
theorem Do {l:List Cell} {d:Dot} {k:Nat} (h:Eu l d=some k):∃ hk:k<l.length,l[k].dot=d:=by
 obtain⟨hk,h1,_⟩:=Za2.1 h
 exact⟨hk,by simpa using h1⟩
theorem Ao0 {Y:Type} {l:List Y} {p:Y->Bool}:l.all p=allR l.length fun i=>onI l i p:=by
 rw[Zaj,Ko,List.all_eq_true]
 constructor
 ·intro h i hi;rw[Cp hi];exact h _ (Zal hi)
 ·intro h x hx
  obtain⟨i,hi,rfl⟩:=Zaw hx
  have:=h i hi
  rwa [Cp hi] at this
theorem Aej (s:State):Eh s=Bf s:=by
 unfold Eh Bf
 cases h1:okK s.know with
 |false=>rfl
 |true=>
  cases h2:Jl s.tallies with
  |false=>rfl
  |true=>
   simp only[Bool.true_and]
   rw[Zaj]
   simp only[Zag,Aho,A19,Ahq,P5,A65,Ao0,Ko,decide_eq_true_eq,Ahn,livP,Ahp,celP]
   constructor
   ·rintro⟨⟨hl,hl2⟩,⟨hc,hc2⟩,hlk,hck⟩
    refine⟨⟨fun i hi=>⟨hlk i hi,(hl i hi).2⟩,hl2⟩,⟨fun i hi=> ?_,hc2⟩,fun i hi=> ?_⟩
    ·have:=hck i hi
     have h4:=hc i hi
     rw[Cp hi,celK] at this
     simp only[Zag] at this
     exact⟨by rw[Cp hi];exact this.1,h4.2.1,h4.2.2.2⟩
    ·have:=hck i hi
     rw[Cp hi] at this ⊢
     rw[celK] at this
     simp only[Zag] at this
     exact this.2
   ·rintro⟨⟨hl,hl2⟩,⟨hc,hc2⟩,hr⟩
    refine⟨⟨fun i hi=>⟨?_,(hl i hi).2⟩,hl2⟩,⟨fun i hi=>⟨?_,(hc i hi).2.1,?_,(hc i hi).2.2⟩,hc2⟩,fun i hi=>(hl i hi).1,fun i hi=> ?_⟩
    ·have:=(hl i hi).1
     rw[Cp hi] at this ⊢
     exact Ra this
    ·have:=(hc i hi).1
     rw[Cp hi] at this ⊢
     exact Ra this
    ·have:=hr i hi
     rw[Cp hi] at this ⊢
     unfold ref1 at this
     unfold refD
     simp only[Za1] at this ⊢
     refine this.imp id fun h=> ?_
     split at h
     ·cases h
     ·rename_i k hk
      obtain⟨hkl,e⟩:=Do hk
      have:=(hc k hkl).1
      rw[Cp hkl,e] at this
      exact Ra this
    ·have h5:=(hc i hi).1
     have h6:=hr i hi
     rw[Cp hi] at h5 h6 ⊢
     rw[celK,h5,h6];rfl
theorem Ajq {l:List Cell} {k:List Int} (h:P5 l k=true):l.Pairwise fun a b=>C8 a.dot b.dot=true:=by
 simp only[P5,Zag,Ko,celP] at h
 exact Ale (lt:=Fs) (fun a b c h1 h2=>Po h1 h2) fun i hi=>(h.1 i hi).2.2
def plc:Nat->List Cell->List (Dot×Int)
 |_,[]=>[]
 |n,c::l=>(c.dot,(n:Int))::plc (n+1) l
theorem Agc (c:Cell):∀(n:Nat) (l:List Cell),plc n (l++[c])=plc n l++[(c.dot,((n+l.length:Nat):Int))]
 |n,[]=>rfl
 |n,x::l=>by
  simp only[Zbg,plc,Agc c (n+1) l,Zau]
  rw[show n+1+l.length=n+(l.length+1) by omega]
theorem A1a (d:Dot):∀(n:Nat) (l:List Cell),Ot (plc n l) d=(Eu l d).map fun k=>((n+k:Nat):Int)
 |n,[]=>rfl
 |n,x::l=>by
  have ih:=A1a d (n+1) l
  unfold Eu at*
  rw[List.findIdx?_cons]
  by_cases h:x.dot=d
  ·subst h;simp[plc,Ot]
  ·have h':d≠x.dot:=fun e=>h e.symm
   have e:Ot (plc n (x::l)) d=Ot (plc (n+1) l) d:=by simp[plc,Ot,h']
   rw[e,ih]
   simp only[h,decide_false,Zbb,if_false,Option.map_map]
   congr 1
   funext k
   simp only[Function.comp]
   omega
theorem Ao1 {l:List Cell} (h:l.Pairwise fun a b=>C8 a.dot b.dot=true) {i:Nat} (hi:i<l.length):Ot (plc 0 (l.take i)) l[i].dot=none:=by
 rw[A1a]
 have:Eu (l.take i) l[i].dot=none:=by
  unfold Eu
  rw[Za7]
  intro c hc
  obtain⟨j,hj,rfl⟩:=Zaw hc
  rw[Zav] at hj
  rw[List.getElem_take]
  have:=Za6.1 h j i (by omega) hi (by omega)
  simp only[decide_eq_false_iff_not]
  intro e
  rw[e,A18] at this;cases this
 rw[this];rfl
theorem Alf {l:List Cell} {i:Nat} (hi:i<l.length):plc 0 (l.take (i+1))=plc 0 (l.take i)++[(l[i].dot,(i:Int))]:=by
 rw[Ax hi,Agc,Zav,show 0+min i l.length=i by omega]
def Ev (l:List Cell) (d:Dot):Int:=match Eu l d with
 |some k=>k
 |none=> -1
theorem Aek {l:List Cell} {d:Dot} {i:Nat} (hi:i<l.length) (h:∀ j (hj:j<i),(l[j]'(by omega)).dot≠d) (he:l[i].dot=d):Eu l d=some i:=by
 unfold Eu
 rw[Za2]
 exact⟨hi,by simpa using he,fun j hj=>by simpa using h j hj⟩
theorem Ael {l:List Cell} {d:Dot} (h:∀ j (hj:j<l.length),l[j].dot≠d):Eu l d=none:=by
 unfold Eu
 rw[Za7]
 intro c hc
 obtain⟨j,hj,rfl⟩:=Zaw hc
 simpa using h j hj
def crs (c v:GV) (n:Nat):Thg:=⟨fun U fp=>∃ g i h,c= .ptr g 0/\fp=[g]/\i<=n/\bk U g=some (.row 1 [v,gi (i:Nat),gi h]),fun⟨g,i,h,h1,h2,h3,h4⟩ hf=>⟨g,i,h,h1,h2,h3,by rw[hf g (by rw[h2];exact Zae)];exact h4⟩⟩
theorem Amb {n z g off:Nat} {U:St} {cs:List GV} {x:GV} (hB:bk U g=some (.row z cs)) (h1:off+n<=cs.length) (h2:0<n) (h3:x.cells.length=n):stG n U (.ptr g off) x=some (.tup [],U.set g (some (.row z (Ar cs off x.cells)))):=by
 simp only[stG,C7.1 hB]
 rw[if_pos ⟨h1,h2,h3⟩]
theorem Ajr {U:St} {g z:Nat} {cs cs':List GV} (hB:bk U g=some (.row z cs)):bk (U.set g (some (.row z cs'))) g=some (.row z cs'):=C7.2 (by rw[Za9 (bk_lt hB)])
theorem Amc {U:St} {g z:Nat} {cs:List GV} (hB:bk U g=some (.row z cs)):rdB U g=some cs:=by
 unfold rdB;rw[C7.1 hB];rfl
theorem Aem {U:St} {v:GV} {l:List Int} (h:RS pB.kd U v l) {i:Nat} (hi:i<l.length):iadG 1 v (some i)=some (atz 1 v i)/\ldG false 1 U (atz 1 v i)=some (.int .u8 l[i]):=⟨RdN.iad h hi,RdN.ld h hi (by decide)⟩
theorem Amd (b:Int) (hb:0<=b):∃ f:Int->Int,∀ a,binG .shr (.int .i64 a) (.int .u64 b)=some (.int .i64 (f a)):=⟨fun a=>a.fdiv (2 ^ min b.toNat IntKind.i64.bits),fun a=>by simp only[binG,E3];rw[if_neg (by omega)]⟩
theorem xor_ex:∃ f:Int->Int->Int,∀ a b,binG .xor (.int .i64 a) (.int .i64 b)=some (.int .i64 (f a b)):=⟨fun a b=>IntKind.i64.wrap (BitVec.ofInt IntKind.i64.bits a ^^^ BitVec.ofInt IntKind.i64.bits b).toNat,fun a b=>rfl⟩
theorem Ame (m:Nat) (hm:m<2 ^ 62):∃ f:Int->Int,(∀ a,binG .and (.int .i64 a) (.int .i64 (m:Nat))=some (.int .i64 (f a)))/\∀ a,0≤f a/\f a<=m:=by
 refine⟨fun a=>IntKind.i64.wrap (BitVec.ofInt IntKind.i64.bits a &&& BitVec.ofInt IntKind.i64.bits (m:Nat)).toNat,fun a=>rfl,fun a=> ?_⟩
 have h1:(BitVec.ofInt IntKind.i64.bits a &&& BitVec.ofInt IntKind.i64.bits (m:Nat)).toNat<=m:=by
  rw[BitVec.toNat_and]
  refine Zam Nat.and_le_right ?_
  rw[BitVec.toNat_ofInt]
  show((m:Int) % ((2 ^ 64:Nat):Int)).toNat<=m
  omega
 show 0<=IntKind.i64.wrap _/\IntKind.i64.wrap _<=_
 rw[Bi (by omega) (by omega)]
 omega
@[go_sem] theorem bit_tup2 {l:List GV}:(GV.tup l).bit=none:=(rfl)
theorem A1b {P:Program} {D:Bool} {os:List Op1}:∀ {K:Env->St->Prop} {env:Env} {U:St},Af D P os K env U->Af D P os (fun env' U'=>K env' U'/\U.length<=U'.length) env U:=by
 induction os with
 |nil=>intro K env U h;exact⟨h,Zai _⟩
 |cons o r ih=>
  intro K env U h
  simp only[Af] at h ⊢
  split at h
  ·rename_i hw
   rw[if_pos hw]
   obtain⟨v,U',hs,hp,hk⟩:=h
   refine⟨v,U',hs,hp,Bx (ih hk) fun env' U1 hq=>⟨hq.1,?_⟩⟩
   have:=Zh hs
   omega
  ·rename_i hw
   rw[if_neg hw]
   exact ih h
theorem vc_len {P:Program} {d:Cd}:∀ {Q:Ex->Env->St->Prop} {env:Env} {U:St},vc P d Q env U->vc P d (fun e env' U'=>Q e env' U'/\U.length<=U'.length) env U:=by
 induction d with
 |skip=>intro Q env U h;exact⟨h,Zai _⟩
 |reg ops=>intro Q env U h;exact A1b h
 |drw xs ys=>
  intro Q env U h
  refine Bx (A1b h) fun env1 U1 h1=>Bx (A1b h1.1) fun env2 U2 h2=>⟨h2.1,?_⟩
  have:=h1.2
  have:=h2.2
  omega
 |seq a b iha ihb=>
  intro Q env U h
  refine B7 (d:=a) (iha h) fun e env1 U1 he=> ?_
  cases e with
  |nxt=>exact B7 (ihb he.1) fun e env2 U2 h2=>⟨h2.1,Zam he.2 h2.2⟩
  |ext j=>exact he
  |ret=>exact he
 |cnd c a b iha ihb=>
  intro Q env U h
  obtain⟨t,ht,h1,h2⟩:=h
  exact⟨t,ht,fun e=>iha (h1 e),fun e=>ihb (h2 e)⟩
 |blk id a ih=>
  intro Q env U h
  refine B7 (d:=a) (ih h) fun e env1 U1 he=> ?_
  cases e with
  |nxt=>exact he
  |ext j=>
   obtain⟨h1,h2⟩:=he
   simp only at h1 ⊢
   split at h1
   ·rename_i hj;rw[if_pos hj];exact⟨h1,h2⟩
   ·rename_i hj;rw[if_neg hj];exact⟨h1,h2⟩
  |ret=>exact he
 |lop a ih=>
  intro Q env U h
  obtain⟨I,μ,hI,hs⟩:=h
  refine⟨fun env1 U1=>I env1 U1/\U.length<=U1.length,μ,⟨hI,Zai _⟩,fun env1 U1 hi=>B7 (ih (hs env1 U1 hi.1)) fun e env2 U2 he=> ?_⟩
  cases e with
  |nxt=>exact⟨⟨he.1.1,Zam hi.2 he.2⟩,he.1.2⟩
  |ext j=>exact⟨he.1,Zam hi.2 he.2⟩
  |ret=>exact⟨he.1,Zam hi.2 he.2⟩
 |ext id=>intro Q env U h;exact⟨h,Zai _⟩
 |ret=>intro Q env U h;exact⟨h,Zai _⟩
theorem Ch {P:Program} {f:Nat} {F:Fn1} {args:List GV} {U:St} {Post:GV->St->Prop} (hF:A6 P f=some F) (hl:args.length<=F.n)
  (h:vc P F.c (fun e env N=>A02 e=true/\∃ r,resG env N F.rs=some r/\Post r N) (env0 args) U):∃ r N,Ret P f args U r N/\Post r N:=
 B8 hF hl (B7 (vc_len h) fun e env N he=>⟨he.1.1,by obtain⟨⟨_,r,h1,h2⟩,h3⟩:=he;exact⟨r,h1,h3,h2⟩⟩)
theorem Hp.crs {U N:St} {rs:List Thg} (H:Hp U N rs) {k:Nat} {c v:GV} {n:Nat} (hk:rs[k]? =some (crs c v n)):∃(g i:Nat) (h:Int),c= .ptr g 0/\i<=n/\bk N g=some (.row 1 [v,gi i,gi h])/\∀(i':Nat) (h':Int),i'≤n->Hp U (N.set g (some (.row 1 [v,gi i',gi h']))) rs:=by
 obtain⟨a,⟨g,i,h,rfl,rfl,hi,hB⟩,hnd,hbd,ht⟩:=(H.pick k hk).turn
 refine⟨g,i,h,rfl,hi,hB,fun i' h' hi'=> ?_⟩
 have:=Hp.unpick (i:=k) (ht (N':=N.set g (some (.row 1 [v,gi i',gi h']))) (r':=Sy.crs (.ptr g 0) v n) (a':=[g]) ⟨by simp,fun g' h=>.inl h,by simp,fun g' h h'=>I3 fun e=>h' (by rw[e];exact Zae)⟩ ⟨g,i',h',rfl,rfl,hi',Ajr hB⟩) (Zah.1 hk).1
 obtain⟨h1,h2⟩:=Zah.1 hk
 rw[<- h2,List.set_getElem_self] at this
 exact this
theorem Hp.ptCur {U N:St} {rs:List Thg} {g n:Nat} {v:GV} {h:Int} (H:Hp U N (Sy.pt 1 g [v,gi 0,gi h]::rs)):Hp U N (Sy.crs (.ptr g 0) v n::rs):=
 H.conv fun fp ⟨h1,h2⟩=>⟨g,0,h,rfl,h1,Nat.zero_le _,h2⟩
def Mb:Fn1:=⟨6,[.t 2],(rg [oV 2 kf] (rg [oM 3 0,oM 4 0,oB 5 .neq 3 4,oM 2 5] .ret))⟩
theorem Xz:A6 Tryz.prog 315=some Mb:=by kernel_rfl
def Im:Fn1:=⟨6,[.t 2],(rg [oV 2 kf] (rg [oM 3 0,oM 4 0,oB 5 .neq 3 4,oM 2 5] .ret))⟩
theorem Pp:A6 Tryz.prog 317=some Im:=by kernel_rfl
def Jn:Fn1:=⟨20,[.t 4],(rg [oV 4 (ki 0)] (rg [oM 7 0,oC 8 315 7,oM 5 8] (rg [oM 9 1,oC 10 315 9,oM 6 10] (.seq (rg [oM 11 5] (oG 11 (.seq (rg [oM 12 6] (oG 12 (oR 4 (ki 0)))) (rg [o 4 (.mov (ki (-1)))] .ret)))) (.seq (rg [oM 13 6] (oG 13 (oR 4 (ki 1)))) (.seq (rg [oM 14 0,oM 15 1,oB 16 .lss 14 15] (oG 16 (rg [o 4 (.mov (ki (-1)))] .ret))) (.seq (rg [oM 17 0,oM 18 1,oB 19 .gtr 17 18] (oG 19 (oR 4 (ki 1)))) (oR 4 (ki 0)))))))))⟩
theorem Rb:A6 Tryz.prog 296=some Jn:=by kernel_rfl
def Gx:Fn1:=⟨20,[.t 4],(rg [oV 4 (ki 0)] (rg [oM 7 0,oC 8 317 7,oM 5 8] (rg [oM 9 1,oC 10 317 9,oM 6 10] (.seq (rg [oM 11 5] (oG 11 (.seq (rg [oM 12 6] (oG 12 (oR 4 (ki 0)))) (rg [o 4 (.mov (ki (-1)))] .ret)))) (.seq (rg [oM 13 6] (oG 13 (oR 4 (ki 1)))) (.seq (rg [oM 14 0,oM 15 1,oB 16 .lss 14 15] (oG 16 (rg [o 4 (.mov (ki (-1)))] .ret))) (.seq (rg [oM 17 0,oM 18 1,oB 19 .gtr 17 18] (oG 19 (oR 4 (ki 1)))) (oR 4 (ki 0)))))))))⟩
theorem Mc:A6 Tryz.prog 295=some Gx:=by kernel_rfl
def Vx:Fn1:=⟨18,[.t 2],(rg [oV 2 (ki 0)] (rg [oV 3 (ki 0)] (.seq (rg [oM 6 0,oN 7 6,oV 8 (ki 0)] (oH 0 (rg [oB 9 .lss 8 7] (.seq (oJ 9 0) (.seq (.blk 1 (rg [oI 10 1 6 8,oL 11 10,oM 5 11] (rg [oM 12 5,oM 13 3,oB 14 .neq 12 13] (oG 14 (rg [oM 15 5,oM 2 15] .ret))))) (.reg [oZ 16 8 1,oM 8 16])))))) (rg [oM 17 3,oM 2 17] .ret))))⟩
theorem A8i:A6 Tryz.prog 294=some Vx:=by kernel_rfl
def Me:Fn1:=⟨17,[.t 4],(rg [oX 2 0,oX 3 1,oV 4 (ki 0)] (dw [oF 5 0 2,oL 6 5,oF 7 0 3,oL 8 7,oD 9 296 6 8,oF 10 1 2,oL 11 10,oF 12 1 3,oL 13 12] [oD 14 296 11 13,o 15 (.lit 1 2 [z0,z0] [(0,1,(.t 9)),(1,1,(.t 14))]),oC 16 294 15,oM 4 16] .ret))⟩
theorem Z0:A6 Tryz.prog 263=some Me:=by kernel_rfl
def Io:Fn1:=⟨17,[.t 4],(rg [oX 2 0,oX 3 1,oV 4 (ki 0)] (dw [oF 5 0 2,oL 6 5,oF 7 0 3,oL 8 7,oD 9 295 6 8,oF 10 1 2,oL 11 10,oF 12 1 3,oL 13 12] [oD 14 296 11 13,o 15 (.lit 1 2 [z0,z0] [(0,1,(.t 9)),(1,1,(.t 14))]),oC 16 294 15,oM 4 16] .ret))⟩
theorem Pq:A6 Tryz.prog 262=some Io:=by kernel_rfl
def Re:Fn1:=⟨24,[.t 4],(rg [oX 2 0,oX 3 1,oV 4 kf] (rg [oF 5 0 2,oL 6 5,oF 7 0 3,oL 8 7,oB 9 .lss 6 8,oM 10 9,vF 11 10 0 2,vL 12 10 11,vF 13 10 0 3,vL 14 10 13,vB 15 10 .eql 12 14,vM 16 10 15,jF 17 16 1 2,jL 18 16 17,jF 19 16 1 3,jL 20 16 19,jB 21 16 .lss 18 20,og 22 10 false (.pick (.t 16) (.t 21) kf),oP 23 10 22,oM 4 23] .ret))⟩
theorem A4f:A6 Tryz.prog 233=some Re:=by kernel_rfl
theorem G1 (U:St) (a:Int):Ret Tryz.prog 315 [gi a] U (.bool false) U:=by
 refine Ae Xz (Z0z rfl) trivial ?_
 simp +contextual (disch:=omega) only[go_sem,Mb,bne_self_eq_false]
theorem E5 (U:St) (a:ByteArray):Ret Tryz.prog 317 [.str a] U (.bool false) U:=by
 refine Ae Pp (Z0z rfl) trivial ?_
 simp +contextual (disch:=omega) only[go_sem,Im,decide_true,Bool.not_true]
theorem D7 (U:St) (a b:Int):Ret Tryz.prog 296 [gi a,gi b] U (gi (cmpI a b)) U:=by
 refine Ae Rb (Z0z rfl) trivial ?_
 simp +contextual (disch:=omega) only[go_sem,Jn]
 refine A9 (G1 _ _) ?_
 simp +contextual (disch:=omega) only[go_sem]
 refine A9 (G1 _ _) ?_
 simp +contextual (disch:=omega) only[go_sem]
 unfold cmpI
 grind
theorem Lv (U:St) (a b:ByteArray):Ret Tryz.prog 295 [.str a,.str b] U (gi (cmpS a b)) U:=by
 refine Ae Mc (Z0z rfl) trivial ?_
 simp +contextual (disch:=omega) only[go_sem,Gx]
 refine A9 (E5 _ _) ?_
 simp +contextual (disch:=omega) only[go_sem]
 refine A9 (E5 _ _) ?_
 simp +contextual (disch:=omega) only[go_sem]
 unfold cmpS
 grind
def orL:List Int->Int
 |[]=>0
 |x::l=>if x=0 then orL l else x
theorem J8 (U:St) (v:GV) (l:List Int) (h:RS pI.kd U v l) (hl:l.length<=1099511627776):Ret Tryz.prog 294 [v] U (gi (orL l)) U:=by
 refine Ae A8i (Z0z rfl) trivial ?_
 simp +contextual (disch:=omega) only[go_sem,Vx,h.len]
 refine Bk l.length 8 (fun i env N=>env 3=gi 0/\env 6=v/\env 7=gi l.length/\orL (l.drop i)=orL l/\U <+: N) rfl ⟨rfl,rfl,rfl,rfl,Zab _⟩ ?_ ?_
 ·rintro i env N hi e8 c0 ⟨e3,e6,e7,hd,hp⟩
  rw[List.drop_eq_getElem_cons hi,orL] at hd
  simp +contextual (disch:=omega) only[go_sem,c0,e3,e6,e7,e8,Cx (h.pre hp) hi,hp]
  grind
 ·rintro env N e8 c0 ⟨e3,e6,e7,hd,hp⟩
  rw[List.drop_length] at hd
  simp +contextual (disch:=omega) only[go_sem,c0,e3,e6,e7,e8,hp]
  rw[<- hd];rfl
theorem Aen (a b:Int):orL [a,b]=orI a b:=by
 unfold orI
 simp only[orL]
 split
 ·split
  ·omega
  ·rfl
 ·rfl
theorem Dy (U:St) (a b:Dot):Ret Tryz.prog 263 [.agg [gi a.rep,gi a.seq],.agg [gi b.rep,gi b.seq]] U (gi (A16 a b)) U:=by
 refine Ae Z0 (Z0z rfl) trivial ?_
 simp +contextual (disch:=omega) only[go_sem,Me]
 refine A9 (D7 _ _ _) ?_
 simp +contextual (disch:=omega) only[go_sem]
 refine A9 (D7 _ _ _) ?_
 simp +contextual (disch:=omega) only[go_sem]
 refine A9 (J8 _ _ [cmpI a.rep b.rep,cmpI a.seq b.seq] (Aa6 (p:=pI) _ _ rfl rfl rfl) (by simp)) ?_
 simp +contextual (disch:=omega) only[go_sem,Aen]
 rfl
theorem Ov (U:St) (a b:Tally):Ret Tryz.prog 262 [.agg [.str a.obj,gi a.rep,gi a.sum],.agg [.str b.obj,gi b.rep,gi b.sum]] U (gi (Zo a b)) U:=by
 refine Ae Pq (Z0z rfl) trivial ?_
 simp +contextual (disch:=omega) only[go_sem,Io]
 refine A9 (Lv _ _ _) ?_
 simp +contextual (disch:=omega) only[go_sem]
 refine A9 (D7 _ _ _) ?_
 simp +contextual (disch:=omega) only[go_sem]
 refine A9 (J8 _ _ [cmpS a.obj b.obj,cmpI a.rep b.rep] (Aa6 (p:=pI) _ _ rfl rfl rfl) (by simp)) ?_
 simp +contextual (disch:=omega) only[go_sem,Aen]
 rfl
theorem Ct (U:St) (a b:Dot):Ret Tryz.prog 233 [.agg [gi a.rep,gi a.seq],.agg [gi b.rep,gi b.seq]] U (.bool (C8 a b)) U:=by
 refine Ae A4f (Z0z rfl) trivial ?_
 simp +contextual (disch:=omega) only[go_sem,Re]
 unfold C8
 grind
end Go.Proofs.YtnknigikcdgebaaGreatDoor.Sy
