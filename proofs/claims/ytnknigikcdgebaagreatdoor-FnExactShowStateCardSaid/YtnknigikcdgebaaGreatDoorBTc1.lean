/- Texts of this proof, one behind the other. -/
import Derived.Test.YtnknigikcdgebaaGreatDoorBC
import Derived.Test.YtnknigikcdgebaaGreatDoorProg
import Derived.KernelRfl
import Derived.Shelf.Strings.OnBuilder
import Derived.Shelf.Strconv.Itoa3
import Derived.Lib.SmallJoins
import Derived.Lib.ItoaLen
set_option linter.unusedSimpArgs false
set_option linter.unusedVariables false
set_option maxRecDepth 4000
set_option maxHeartbeats 4000000
open List renaming append_nil→Zaa,prefix_refl→Zab,getElem_mem→Zac,take_length→Zad,replicate→Zae,mem_cons_self→Zah,set_cons_zero→Zak,flatten_cons→Zal,append_assoc→Zam,getElem?_eq_some_iff→Zan,set_cons_succ→Zao,nodup_append→Zaq,mem_append_right→Zat,mem_cons_of_mem→Zav,getElem?_eq_getElem→Zaw,getElem_of_mem→Zay,prefix_append→Zaz,nil_append→Za0,getElem?_map→Za1,mem_append_left→Za3,cons_append→Za4,filterMap_cons→Za5,map_cons→Za6,eraseIdx_cons_succ→Za7,findIdx?_eq_some_iff_getElem→Za9,take_succ_eq_append_getElem→Zba,take_zero→Zbb,eq_nil_of_length_eq_zero→Zbc,length_cons→Zbd,mem_cons→Zbe,map_append→Zbf,replicate_succ→Zbg,nodup_cons→Zbh,pairwise_iff_getElem→Zbi,findIdx?_eq_none_iff→Zbj,eraseIdx_cons_zero→Zbk,mem_flatten→Zbl,getElem?_set_self→Zbm,mem_append→Zbo,mem_of_getElem?→Zbp,filter_append→Zbr,filter_cons→Zbv,length_take→Zbw,sum_append→Zbx,length_nil→Zby
open Option renaming bind_some→Zaf,map_some→Zax,some→Zbz
open Bool renaming and_eq_true→Zag,eq_iff_iff→Zaj,true_and→Za2,or_eq_true→Za8,false_eq_true→Zbq
open Nat renaming eq_zero_or_pos→Zai,le_refl→Zar,le_trans→Zas,sub_zero→Zbn,add_sub_cancel→Zbs,lt_or_ge→Zbu
open Int renaming ofNat_zero→Zap,lt_irrefl→Zau,lt_trichotomy→Zbt
namespace Go.Proofs.YtnknigikcdgebaaGreatDoor.Sy
open Go Go.RowKit
def lf (n:Int) (m:Nat):Int:=if n - m<0 then -1 else n - m
theorem Bv {n:Int} {m:Nat}:lf n m<0↔n<m:=by unfold lf;split<;>omega
theorem B5 {n:Int} {m:Nat} (h:¬ lf n m<0):lf n m=n - m:=by unfold lf at *;split at h<;>first|omega|(rw [if_neg ‹_›])
theorem E5 {n:Int} {m:Nat} (h:0<=n):lf n m<=n:=by unfold lf;split<;>omega
theorem A83 {n:Int} {m:Nat}: -1<=lf n m:=by unfold lf;split<;>omega
def sumL {Y:Type} (f:Y->Nat) (l:List Y):Nat:=(l.map f).sum
theorem Jg {Y:Type} {f:Y->Nat} {l:List Y} {i:Nat} (h:i<l.length):sumL f (l.take (i+1))=sumL f (l.take i)+f l[i]:=by
 unfold sumL;rw[Aw h,Zbf,Zbx];simp
theorem Fi {Y:Type} (f:Y->Nat) (l:List Y) (i:Nat):sumL f (l.take i)<=sumL f l:=by
 have:sumL f l=sumL f (l.take i)+sumL f (l.drop i):=by
  conv=>lhs;rw[<- List.take_append_drop i l]
  unfold sumL;rw[Zbf,Zbx]
 omega
theorem Cj {Y:Type} {f:Y->Nat} {l:List Y} {x:Y} (h:x∈l):f x<=sumL f l:=by
 induction l with
 |nil=>simp at h
 |cons y l ih=>
  simp only[sumL,Za6,List.sum_cons] at*
  rcases Zbe.1 h with rfl|h
  ·omega
  ·have:=ih h;omega
theorem Af0 {z i:Nat} {v:GV}:fld 0 (atz z v i)=atz z v i:=by
 cases v<;>rfl
theorem Mb {Y:Type} (p:Pl Y) (x:Y) (n:Nat):reps n (p.enc x)=p.cells (Zae n x):=by
 unfold reps
 induction n with
 |zero=>rfl
 |succ n ih=>
  rw[Zbg,Zal,ih,Zbg];rfl
theorem Jh {Y:Type} {l:List Y} {z:Y} {i:Nat} (h:i<l.length):(l.take i++Zae (l.length - i) z).set i l[i]=l.take (i+1)++Zae (l.length - (i+1)) z:=by
 rw[Aw h,List.set_append_right _ _ (by simp;omega)]
 have e1:i - (l.take i).length=0:=by simp;omega
 rw[e1,show l.length - i=(l.length - (i+1))+1 by omega,Zbg,Zak,Zam]
 rfl
theorem Mc {Y:Type} {l:List Y} {z:Y} {i:Nat} (h:i<l.length):i<(l.take i++Zae (l.length - i) z).length:=by simp;omega
theorem Md {Y:Type} {l:List Y} {z:Y}:l.take l.length++Zae (l.length - l.length) z=l:=by simp
namespace Hp
end Hp
theorem Af1 (l:List Int):(txt l).size=l.length:=by simp[txt,ByteArray.size]
def Ar (x:Tally):Nat:=x.obj.size
def Sn (x:Tally):Prop:=x.obj.size<=9223372036854775807
def Bk (x:Live):Nat:=x.obj.size+x.key.size
def Abl (x:Live):Prop:=x.obj.size<=9223372036854775807/\x.key.size<=9223372036854775807
def Ce (x:Cell):Nat:=x.obj.size
def A84 (x:Cell):Prop:=x.obj.size<=9223372036854775807
def Me (x:File):Nat:=x.text.size
def Af2 (x:File):Prop:=x.text.size<=9223372036854775807
def L6 (x:Act):Nat:=x.knew.length+x.obj.size+x.key.size
def wAct (x:Act):Prop:=x.knew.length<=9223372036854775807/\x.obj.size<=9223372036854775807/\x.key.size<=9223372036854775807
instance:DecidableEq Act:=fun a b=>if h:a.dot=b.dot/\a.time=b.time/\a.knew=b.knew/\a.kind=b.kind/\a.obj=b.obj/\a.key=b.key/\a.val=b.val/\a.ref=b.ref then isTrue (by cases a;cases b;simp only at h;obtain⟨rfl,rfl,rfl,rfl,rfl,rfl,rfl,rfl⟩:=h;rfl) else isFalse (fun e=>h (by subst e;exact⟨rfl,rfl,rfl,rfl,rfl,rfl,rfl,rfl⟩))
theorem Act.eq_iff {a b:Act}:a=b↔a.dot=b.dot/\a.time=b.time/\a.knew=b.knew/\a.kind=b.kind/\a.obj=b.obj/\a.key=b.key/\a.val=b.val/\a.ref=b.ref:=⟨fun h=>by subst h;exact⟨rfl,rfl,rfl,rfl,rfl,rfl,rfl,rfl⟩,fun h=>by cases a;cases b;simp only at h;obtain⟨rfl,rfl,rfl,rfl,rfl,rfl,rfl,rfl⟩:=h;rfl⟩
def A7 (x:State):Nat:=x.know.length+(x.tallies.length+sumL Ar x.tallies)+(x.lives.length+sumL Bk x.lives)+(x.cells.length+sumL Ce x.cells)
def Aal (x:State):Prop:=x.know.length<=9223372036854775807/\(x.tallies.length<=9223372036854775807/\∀ y∈x.tallies,Sn y)/\(x.lives.length<=9223372036854775807/\∀ y∈x.lives,Abl y)/\(x.cells.length<=9223372036854775807/\∀ y∈x.cells,A84 y)
instance:DecidableEq State:=fun a b=>if h:a.know=b.know/\a.tallies=b.tallies/\a.lives=b.lives/\a.cells=b.cells then isTrue (by cases a;cases b;simp only at h;obtain⟨rfl,rfl,rfl,rfl⟩:=h;rfl) else isFalse (fun e=>h (by subst e;exact⟨rfl,rfl,rfl,rfl⟩))
theorem State.eq_iff {a b:State}:a=b↔a.know=b.know/\a.tallies=b.tallies/\a.lives=b.lives/\a.cells=b.cells:=⟨fun h=>by subst h;exact⟨rfl,rfl,rfl,rfl⟩,fun h=>by cases a;cases b;simp only at h;obtain⟨rfl,rfl,rfl,rfl⟩:=h;rfl⟩
def Cq (x:Delta):Nat:=x.base.length+x.know.length+(x.tallies.length+sumL Ar x.tallies)+(x.lives.length+sumL Bk x.lives)+x.dead.length+(x.cells.length+sumL Ce x.cells)
def Adm (x:Delta):Prop:=x.base.length<=9223372036854775807/\x.know.length<=9223372036854775807/\(x.tallies.length<=9223372036854775807/\∀ y∈x.tallies,Sn y)/\(x.lives.length<=9223372036854775807/\∀ y∈x.lives,Abl y)/\x.dead.length<=9223372036854775807/\(x.cells.length<=9223372036854775807/\∀ y∈x.cells,A84 y)
instance:DecidableEq Delta:=fun a b=>if h:a.base=b.base/\a.know=b.know/\a.tallies=b.tallies/\a.lives=b.lives/\a.dead=b.dead/\a.cells=b.cells then isTrue (by cases a;cases b;simp only at h;obtain⟨rfl,rfl,rfl,rfl,rfl,rfl⟩:=h;rfl) else isFalse (fun e=>h (by subst e;exact⟨rfl,rfl,rfl,rfl,rfl,rfl⟩))
theorem Delta.eq_iff {a b:Delta}:a=b↔a.base=b.base/\a.know=b.know/\a.tallies=b.tallies/\a.lives=b.lives/\a.dead=b.dead/\a.cells=b.cells:=⟨fun h=>by subst h;exact⟨rfl,rfl,rfl,rfl,rfl,rfl⟩,fun h=>by cases a;cases b;simp only at h;obtain⟨rfl,rfl,rfl,rfl,rfl,rfl⟩:=h;rfl⟩
def B7 (x:Unit_):Nat:=L6 x.act+Cq x.delta
def A85 (x:Unit_):Prop:=wAct x.act/\Adm x.delta
instance:DecidableEq Unit_:=fun a b=>if h:a.batch=b.batch/\a.act=b.act/\a.delta=b.delta then isTrue (by cases a;cases b;simp only at h;obtain⟨rfl,rfl,rfl⟩:=h;rfl) else isFalse (fun e=>h (by subst e;exact⟨rfl,rfl,rfl⟩))
theorem Unit_.eq_iff {a b:Unit_}:a=b↔a.batch=b.batch/\a.act=b.act/\a.delta=b.delta:=⟨fun h=>by subst h;exact⟨rfl,rfl,rfl⟩,fun h=>by cases a;cases b;simp only at h;obtain⟨rfl,rfl,rfl⟩:=h;rfl⟩
def Gi (x:Log):Nat:=A7 x.state+(x.units.length+sumL B7 x.units)+(x.waits.length+sumL B7 x.waits)
def wLog (x:Log):Prop:=Aal x.state/\(x.units.length<=9223372036854775807/\∀ y∈x.units,A85 y)/\(x.waits.length<=9223372036854775807/\∀ y∈x.waits,A85 y)
instance:DecidableEq Log:=fun a b=>if h:a.rep=b.rep/\a.time=b.time/\a.state=b.state/\a.units=b.units/\a.waits=b.waits then isTrue (by cases a;cases b;simp only at h;obtain⟨rfl,rfl,rfl,rfl,rfl⟩:=h;rfl) else isFalse (fun e=>h (by subst e;exact⟨rfl,rfl,rfl,rfl,rfl⟩))
theorem Log.eq_iff {a b:Log}:a=b↔a.rep=b.rep/\a.time=b.time/\a.state=b.state/\a.units=b.units/\a.waits=b.waits:=⟨fun h=>by subst h;exact⟨rfl,rfl,rfl,rfl,rfl⟩,fun h=>by cases a;cases b;simp only at h;obtain⟨rfl,rfl,rfl,rfl,rfl⟩:=h;rfl⟩
def Av (x:Commit):Nat:=x.ups.length+A7 x.state
def Sp (x:Commit):Prop:=x.ups.length<=9223372036854775807/\Aal x.state
instance:DecidableEq Commit:=fun a b=>if h:a.id=b.id/\a.ups=b.ups/\a.state=b.state then isTrue (by cases a;cases b;simp only at h;obtain⟨rfl,rfl,rfl⟩:=h;rfl) else isFalse (fun e=>h (by subst e;exact⟨rfl,rfl,rfl⟩))
theorem Commit.eq_iff {a b:Commit}:a=b↔a.id=b.id/\a.ups=b.ups/\a.state=b.state:=⟨fun h=>by subst h;exact⟨rfl,rfl,rfl⟩,fun h=>by cases a;cases b;simp only at h;obtain⟨rfl,rfl,rfl⟩:=h;rfl⟩
def C7 (x:Graph):Nat:=(x.commits.length+sumL Av x.commits)
def Aam (x:Graph):Prop:=(x.commits.length<=9223372036854775807/\∀ y∈x.commits,Sp y)
instance:DecidableEq Graph:=fun a b=>if h:a.commits=b.commits/\a.head=b.head then isTrue (by cases a;cases b;simp only at h;obtain⟨rfl,rfl⟩:=h;rfl) else isFalse (fun e=>h (by subst e;exact⟨rfl,rfl⟩))
theorem Graph.eq_iff {a b:Graph}:a=b↔a.commits=b.commits/\a.head=b.head:=⟨fun h=>by subst h;exact⟨rfl,rfl⟩,fun h=>by cases a;cases b;simp only at h;obtain⟨rfl,rfl⟩:=h;rfl⟩
def Az (x:Replica):Nat:=Gi x.log+C7 x.graph+Me x.file+(x.out.length+sumL B7 x.out)
def Aan (x:Replica):Prop:=wLog x.log/\Aam x.graph/\Af2 x.file/\(x.out.length<=9223372036854775807/\∀ y∈x.out,A85 y)
instance:DecidableEq Replica:=fun a b=>if h:a.way=b.way/\a.log=b.log/\a.graph=b.graph/\a.file=b.file/\a.out=b.out then isTrue (by cases a;cases b;simp only at h;obtain⟨rfl,rfl,rfl,rfl,rfl⟩:=h;rfl) else isFalse (fun e=>h (by subst e;exact⟨rfl,rfl,rfl,rfl,rfl⟩))
theorem Replica.eq_iff {a b:Replica}:a=b↔a.way=b.way/\a.log=b.log/\a.graph=b.graph/\a.file=b.file/\a.out=b.out:=⟨fun h=>by subst h;exact⟨rfl,rfl,rfl,rfl,rfl⟩,fun h=>by cases a;cases b;simp only at h;obtain⟨rfl,rfl,rfl,rfl,rfl⟩:=h;rfl⟩
instance:DecidableEq World_:=fun a b=>if h:a.replicas=b.replicas/\a.net=b.net/\a.codes=b.codes/\a.synced=b.synced then isTrue (by cases a;cases b;simp only at h;obtain⟨rfl,rfl,rfl,rfl⟩:=h;rfl) else isFalse (fun e=>h (by subst e;exact⟨rfl,rfl,rfl,rfl⟩))
instance:DecidableEq Script:=fun a b=>if h:a.ways=b.ways/\a.events=b.events/\a.calm=b.calm then isTrue (by cases a;cases b;simp only at h;obtain⟨rfl,rfl,rfl⟩:=h;rfl) else isFalse (fun e=>h (by subst e;exact⟨rfl,rfl,rfl⟩))
def A4e:Fn1:=⟨15,[.t 4],(rg [oX 2 0,oX 3 1,oV 4 kf] (.seq (rg [oF 5 0 2,oL 6 5,oF 7 0 3,oL 8 7,oB 9 .neq 6 8] (oG 9 (oR 4 kf))) (.seq (rg [oF 10 1 2,oL 11 10,oF 12 1 3,oL 13 12,oB 14 .neq 11 13] (oG 14 (oR 4 kf))) (oR 4 kt))))⟩
theorem Abm:A4 Tryz.prog 253=some A4e:=by kernel_rfl
theorem Dr (N:St) (x y:Dot):Ret Tryz.prog 253 [.agg [.int .i64 x.rep,.int .i64 x.seq],.agg [.int .i64 y.rep,.int .i64 y.seq]] N (.bool (decide (x=y))) N:=by
 refine Ab Abm (Z0z rfl) trivial ?_
 simp +contextual (disch:=omega) only[go_sem,A4e,Zaa]
 refine⟨fun hn=> ?_,fun hn=> ?_⟩
 ·simp only[Dot.eq_iff];simp at hn ⊢;simp[hn]
 have q0:x.rep=y.rep:=by simpa using hn
 refine⟨fun hn=> ?_,fun hn=> ?_⟩
 ·simp only[Dot.eq_iff];simp at hn ⊢;simp[hn]
 have q1:x.seq=y.seq:=by simpa using hn
 simp only[Dot.eq_iff,q0,q1,and_self,decide_true]
def Zv:Fn1:=⟨37,[.t 4],(rg [oX 2 0,oX 3 1,oV 4 kf] (.seq (rg [oF 5 0 2,oL 6 5,oF 7 0 3,oL 8 7,oB 9 .neq 6 8] (oG 9 (oR 4 kf))) (.seq (rg [oF 10 1 2,oW 11 2 10,oF 12 1 3,oW 13 2 12,oD 14 253 11 13,oU 15 14] (oG 15 (oR 4 kf))) (.seq (rg [oF 16 3 2,oL 17 16,oF 18 3 3,oL 19 18,oB 20 .neq 17 19] (oG 20 (oR 4 kf))) (.seq (rg [oF 21 4 2,oW 22 2 21,oF 23 4 3,oW 24 2 23,oD 25 253 22 24,oU 26 25] (oG 26 (oR 4 kf))) (.seq (rg [oF 27 6 2,oL 28 27,oF 29 6 3,oL 30 29,oB 31 .neq 28 30] (oG 31 (oR 4 kf))) (.seq (rg [oF 32 7 2,oL 33 32,oF 34 7 3,oL 35 34,o 36 (.eqb true (.t 33) (.t 35))] (oG 36 (oR 4 kf))) (oR 4 kt))))))))⟩
theorem A86:A4 Tryz.prog 186=some Zv:=by kernel_rfl
theorem A4f (N:St) (x y:Cell):Ret Tryz.prog 186 [.agg [.str x.obj,.int .i64 x.dot.rep,.int .i64 x.dot.seq,.int .i64 x.time,.int .i64 x.ref.rep,.int .i64 x.ref.seq,.int .i64 x.val,.bool x.gone],.agg [.str y.obj,.int .i64 y.dot.rep,.int .i64 y.dot.seq,.int .i64 y.time,.int .i64 y.ref.rep,.int .i64 y.ref.seq,.int .i64 y.val,.bool y.gone]] N (.bool (decide (x=y))) N:=by
 refine Ab A86 (Z0z rfl) trivial ?_
 simp +contextual (disch:=omega) only[go_sem,Zv,Zaa]
 refine⟨fun hn=> ?_,fun hn=> ?_⟩
 ·simp only[Cell.eq_iff];simp at hn ⊢;simp[hn]
 have q0:x.obj=y.obj:=by simpa using hn
 refine A6 (Dr _ x.dot y.dot) ?_
 simp +contextual (disch:=omega) only[go_sem,Zaa]
 refine⟨fun hn=> ?_,fun hn=> ?_⟩
 ·simp only[Cell.eq_iff];simp at hn ⊢;simp[hn]
 have q1:x.dot=y.dot:=by simpa using hn
 refine⟨fun hn=> ?_,fun hn=> ?_⟩
 ·simp only[Cell.eq_iff];simp at hn ⊢;simp[hn]
 have q2:x.time=y.time:=by simpa using hn
 refine A6 (Dr _ x.ref y.ref) ?_
 simp +contextual (disch:=omega) only[go_sem,Zaa]
 refine⟨fun hn=> ?_,fun hn=> ?_⟩
 ·simp only[Cell.eq_iff];simp at hn ⊢;simp[hn]
 have q3:x.ref=y.ref:=by simpa using hn
 refine⟨fun hn=> ?_,fun hn=> ?_⟩
 ·simp only[Cell.eq_iff];simp at hn ⊢;simp[hn]
 have q4:x.val=y.val:=by simpa using hn
 refine⟨fun hn=> ?_,fun hn=> ?_⟩
 ·simp only[Cell.eq_iff];simp at hn ⊢;simp[hn]
 have q5:x.gone=y.gone:=by simpa using hn
 simp only[Cell.eq_iff,q0,q1,q2,q3,q4,q5,and_self,decide_true]
def Sr:Fn1:=⟨27,[.t 4],(rg [oV 4 kf] (.seq (rg [oM 6 0,oN 7 6,oM 8 1,oN 9 8,oB 10 .neq 7 9] (oG 10 (oR 4 kf))) (.seq (rg [oV 5 (ki 0)] (oH 0 (.seq (rg [oM 11 5,oM 12 0,oN 13 12,oB 14 .lss 11 13] (oJ 14 0)) (.seq (.blk 1 (dw [oM 17 0,oM 18 5,oI 19 8 17 18,oW 20 8 19,oM 21 1,oM 22 5,oI 23 8 21 22,oW 24 8 23] [oD 25 186 20 24,oU 26 25] (oG 26 (oR 4 kf)))) (.reg [oM 15 5,oZ 16 15 1,oM 5 16]))))) (oR 4 kt))))⟩
theorem A4g:A4 Tryz.prog 83=some Sr:=by kernel_rfl
theorem Mf (N:St) (v u:GV) (l m:List Cell) (hv:RS Aj.kd N v l) (hu:RS Aj.kd N u m) (hl:(l.length+sumL Ce l)<=1099511627776):Ret Tryz.prog 83 [v,u] N (.bool (decide (l=m))) N:=by
 refine Ab A4g (Z0z rfl) trivial ?_
 simp +contextual (disch:=omega) only[go_sem,Sr,hv.len,hu.len]
 refine⟨fun hn=> ?_,fun hn=> ?_⟩
 ·have:l≠m:=fun h=>by subst h;simp at hn
  simp[this]
 have hlm:l.length=m.length:=by
                    have h2:(l.length:Int)=m.length:=by simpa using hn
                    omega
 refine Bc l.length 5 (fun i env U=>env 0=v/\env 1=u/\l.take i=m.take i/\N <+: U) rfl ⟨rfl,rfl,rfl,Zab _⟩ ?_ ?_
 ·rintro i env U hi e5 c0 ⟨e0,e1,he,hp⟩
  have hj:i<m.length:=by omega
  have h1:=hv.pre hp
  have h2:=hu.pre hp
  have hne:l[i]≠m[i]->l≠m:=fun h h'=>h (by subst h';rfl)
  have hst:l[i]=m[i]->l.take (i+1)=m.take (i+1):=fun h=>by rw[Aw hi,Aw hj,he,h]
  have hms:Ce l[i]<=sumL Ce l:=Cj (Zac hi)
  simp +contextual (disch:=omega) only[go_sem,c0,e0,e1,e5,hv.len,hu.len,A5 h1 hi,A5 h2 hj]
  refine A6 (A4f U l[i] m[i]) ?_
  simp +contextual (disch:=omega) only[go_sem,e0,e1,e5,hp]
  refine⟨fun h=> ?_,fun h=> ?_⟩
  ·simp[hne (by simpa using h)]
  ·simpa using hst (by simpa using h)
 ·rintro env U e5 c0 ⟨e0,e1,he,hp⟩
  rw[Zad,hlm,Zad] at he
  simp +contextual (disch:=omega) only[go_sem,c0,e0,e1,e5,hv.len,hu.len,hp]
  simp[he]
def Zx:Fn1:=⟨26,[.t 4],(rg [oV 4 kf] (.seq (rg [oM 6 0,oN 7 6,oM 8 1,oN 9 8,oB 10 .neq 7 9] (oG 10 (oR 4 kf))) (.seq (rg [oV 5 (ki 0)] (oH 0 (.seq (rg [oM 11 5,oM 12 0,oN 13 12,oB 14 .lss 11 13] (oJ 14 0)) (.seq (.blk 1 (dw [oM 17 0,oM 18 5,oI 19 1 17 18,oL 20 19,oM 21 1,oM 22 5,oI 23 1 21 22,oL 24 23] [oB 25 .neq 20 24] (oG 25 (oR 4 kf)))) (.reg [oM 15 5,oZ 16 15 1,oM 5 16]))))) (oR 4 kt))))⟩
theorem A87:A4 Tryz.prog 20=some Zx:=by kernel_rfl
theorem Fj (N:St) (v u:GV) (l m:List Int) (hv:RS pI.kd N v l) (hu:RS pI.kd N u m) (hl:l.length<=1099511627776):Ret Tryz.prog 20 [v,u] N (.bool (decide (l=m))) N:=by
 refine Ab A87 (Z0z rfl) trivial ?_
 simp +contextual (disch:=omega) only[go_sem,Zx,hv.len,hu.len]
 refine⟨fun hn=> ?_,fun hn=> ?_⟩
 ·have:l≠m:=fun h=>by subst h;simp at hn
  simp[this]
 have hlm:l.length=m.length:=by
                    have h2:(l.length:Int)=m.length:=by simpa using hn
                    omega
 refine Bc l.length 5 (fun i env U=>env 0=v/\env 1=u/\l.take i=m.take i/\N <+: U) rfl ⟨rfl,rfl,rfl,Zab _⟩ ?_ ?_
 ·rintro i env U hi e5 c0 ⟨e0,e1,he,hp⟩
  have hj:i<m.length:=by omega
  have h1:=hv.pre hp
  have h2:=hu.pre hp
  have hne:l[i]≠m[i]->l≠m:=fun h h'=>h (by subst h';rfl)
  have hst:l[i]=m[i]->l.take (i+1)=m.take (i+1):=fun h=>by rw[Aw hi,Aw hj,he,h]
  simp +contextual (disch:=omega) only[go_sem,c0,e0,e1,e5,hv.len,hu.len,Hz h1 hi,Hz h2 hj,hp]
  refine⟨fun h=> ?_,fun h=> ?_⟩
  ·simp[hne (by simpa using h)]
  ·simpa using hst (by simpa using h)
 ·rintro env U e5 c0 ⟨e0,e1,he,hp⟩
  rw[Zad,hlm,Zad] at he
  simp +contextual (disch:=omega) only[go_sem,c0,e0,e1,e5,hv.len,hu.len,hp]
  simp[he]
def Zz:Fn1:=⟨31,[.t 4],(rg [oX 2 0,oX 3 1,oV 4 kf] (.seq (rg [oF 5 0 2,oL 6 5,oF 7 0 3,oL 8 7,o 9 (.eqb true (.t 6) (.t 8))] (oG 9 (oR 4 kf))) (.seq (rg [oF 10 1 2,oL 11 10,oF 12 1 3,oL 13 12,oB 14 .neq 11 13] (oG 14 (oR 4 kf))) (.seq (rg [oF 15 2 2,oL 16 15,oF 17 2 3,oL 18 17,oB 19 .neq 16 18] (oG 19 (oR 4 kf))) (.seq (rg [oF 20 3 2,oL 21 20,oF 22 3 3,oL 23 22,oB 24 .neq 21 23] (oG 24 (oR 4 kf))) (.seq (rg [oF 25 4 2,oW 26 2 25,oF 27 4 3,oW 28 2 27,oD 29 253 26 28,oU 30 29] (oG 30 (oR 4 kf))) (oR 4 kt)))))))⟩
theorem A88:A4 Tryz.prog 185=some Zz:=by kernel_rfl
theorem A4h (N:St) (x y:Live):Ret Tryz.prog 185 [.agg [.bool x.map,.str x.obj,.str x.key,.int .i64 x.val,.int .i64 x.dot.rep,.int .i64 x.dot.seq],.agg [.bool y.map,.str y.obj,.str y.key,.int .i64 y.val,.int .i64 y.dot.rep,.int .i64 y.dot.seq]] N (.bool (decide (x=y))) N:=by
 refine Ab A88 (Z0z rfl) trivial ?_
 simp +contextual (disch:=omega) only[go_sem,Zz,Zaa]
 refine⟨fun hn=> ?_,fun hn=> ?_⟩
 ·simp only[Live.eq_iff];simp at hn ⊢;simp[hn]
 have q0:x.map=y.map:=by simpa using hn
 refine⟨fun hn=> ?_,fun hn=> ?_⟩
 ·simp only[Live.eq_iff];simp at hn ⊢;simp[hn]
 have q1:x.obj=y.obj:=by simpa using hn
 refine⟨fun hn=> ?_,fun hn=> ?_⟩
 ·simp only[Live.eq_iff];simp at hn ⊢;simp[hn]
 have q2:x.key=y.key:=by simpa using hn
 refine⟨fun hn=> ?_,fun hn=> ?_⟩
 ·simp only[Live.eq_iff];simp at hn ⊢;simp[hn]
 have q3:x.val=y.val:=by simpa using hn
 refine A6 (Dr _ x.dot y.dot) ?_
 simp +contextual (disch:=omega) only[go_sem,Zaa]
 refine⟨fun hn=> ?_,fun hn=> ?_⟩
 ·simp only[Live.eq_iff];simp at hn ⊢;simp[hn]
 have q4:x.dot=y.dot:=by simpa using hn
 simp only[Live.eq_iff,q0,q1,q2,q3,q4,and_self,decide_true]
def Su:Fn1:=⟨27,[.t 4],(rg [oV 4 kf] (.seq (rg [oM 6 0,oN 7 6,oM 8 1,oN 9 8,oB 10 .neq 7 9] (oG 10 (oR 4 kf))) (.seq (rg [oV 5 (ki 0)] (oH 0 (.seq (rg [oM 11 5,oM 12 0,oN 13 12,oB 14 .lss 11 13] (oJ 14 0)) (.seq (.blk 1 (dw [oM 17 0,oM 18 5,oI 19 6 17 18,oW 20 6 19,oM 21 1,oM 22 5,oI 23 6 21 22,oW 24 6 23] [oD 25 185 20 24,oU 26 25] (oG 26 (oR 4 kf)))) (.reg [oM 15 5,oZ 16 15 1,oM 5 16]))))) (oR 4 kt))))⟩
theorem A4i:A4 Tryz.prog 82=some Su:=by kernel_rfl
theorem Mg (N:St) (v u:GV) (l m:List Live) (hv:RS Da.kd N v l) (hu:RS Da.kd N u m) (hl:(l.length+sumL Bk l)<=1099511627776):Ret Tryz.prog 82 [v,u] N (.bool (decide (l=m))) N:=by
 refine Ab A4i (Z0z rfl) trivial ?_
 simp +contextual (disch:=omega) only[go_sem,Su,hv.len,hu.len]
 refine⟨fun hn=> ?_,fun hn=> ?_⟩
 ·have:l≠m:=fun h=>by subst h;simp at hn
  simp[this]
 have hlm:l.length=m.length:=by
                    have h2:(l.length:Int)=m.length:=by simpa using hn
                    omega
 refine Bc l.length 5 (fun i env U=>env 0=v/\env 1=u/\l.take i=m.take i/\N <+: U) rfl ⟨rfl,rfl,rfl,Zab _⟩ ?_ ?_
 ·rintro i env U hi e5 c0 ⟨e0,e1,he,hp⟩
  have hj:i<m.length:=by omega
  have h1:=hv.pre hp
  have h2:=hu.pre hp
  have hne:l[i]≠m[i]->l≠m:=fun h h'=>h (by subst h';rfl)
  have hst:l[i]=m[i]->l.take (i+1)=m.take (i+1):=fun h=>by rw[Aw hi,Aw hj,he,h]
  have hms:Bk l[i]<=sumL Bk l:=Cj (Zac hi)
  simp +contextual (disch:=omega) only[go_sem,c0,e0,e1,e5,hv.len,hu.len,A3 h1 hi,A3 h2 hj]
  refine A6 (A4h U l[i] m[i]) ?_
  simp +contextual (disch:=omega) only[go_sem,e0,e1,e5,hp]
  refine⟨fun h=> ?_,fun h=> ?_⟩
  ·simp[hne (by simpa using h)]
  ·simpa using hst (by simpa using h)
 ·rintro env U e5 c0 ⟨e0,e1,he,hp⟩
  rw[Zad,hlm,Zad] at he
  simp +contextual (disch:=omega) only[go_sem,c0,e0,e1,e5,hv.len,hu.len,hp]
  simp[he]
def Sw:Fn1:=⟨20,[.t 4],(rg [oX 2 0,oX 3 1,oV 4 kf] (.seq (rg [oF 5 0 2,oL 6 5,oF 7 0 3,oL 8 7,oB 9 .neq 6 8] (oG 9 (oR 4 kf))) (.seq (rg [oF 10 1 2,oL 11 10,oF 12 1 3,oL 13 12,oB 14 .neq 11 13] (oG 14 (oR 4 kf))) (.seq (rg [oF 15 2 2,oL 16 15,oF 17 2 3,oL 18 17,oB 19 .neq 16 18] (oG 19 (oR 4 kf))) (oR 4 kt)))))⟩
theorem A4j:A4 Tryz.prog 184=some Sw:=by kernel_rfl
theorem A2i (N:St) (x y:Tally):Ret Tryz.prog 184 [.agg [.str x.obj,.int .i64 x.rep,.int .i64 x.sum],.agg [.str y.obj,.int .i64 y.rep,.int .i64 y.sum]] N (.bool (decide (x=y))) N:=by
 refine Ab A4j (Z0z rfl) trivial ?_
 simp +contextual (disch:=omega) only[go_sem,Sw,Zaa]
 refine⟨fun hn=> ?_,fun hn=> ?_⟩
 ·simp only[Tally.eq_iff];simp at hn ⊢;simp[hn]
 have q0:x.obj=y.obj:=by simpa using hn
 refine⟨fun hn=> ?_,fun hn=> ?_⟩
 ·simp only[Tally.eq_iff];simp at hn ⊢;simp[hn]
 have q1:x.rep=y.rep:=by simpa using hn
 refine⟨fun hn=> ?_,fun hn=> ?_⟩
 ·simp only[Tally.eq_iff];simp at hn ⊢;simp[hn]
 have q2:x.sum=y.sum:=by simpa using hn
 simp only[Tally.eq_iff,q0,q1,q2,and_self,decide_true]
def Qd:Fn1:=⟨27,[.t 4],(rg [oV 4 kf] (.seq (rg [oM 6 0,oN 7 6,oM 8 1,oN 9 8,oB 10 .neq 7 9] (oG 10 (oR 4 kf))) (.seq (rg [oV 5 (ki 0)] (oH 0 (.seq (rg [oM 11 5,oM 12 0,oN 13 12,oB 14 .lss 11 13] (oJ 14 0)) (.seq (.blk 1 (dw [oM 17 0,oM 18 5,oI 19 3 17 18,oW 20 3 19,oM 21 1,oM 22 5,oI 23 3 21 22,oW 24 3 23] [oD 25 184 20 24,oU 26 25] (oG 26 (oR 4 kf)))) (.reg [oM 15 5,oZ 16 15 1,oM 5 16]))))) (oR 4 kt))))⟩
theorem A2j:A4 Tryz.prog 81=some Qd:=by kernel_rfl
theorem Ld (N:St) (v u:GV) (l m:List Tally) (hv:RS Dz.kd N v l) (hu:RS Dz.kd N u m) (hl:(l.length+sumL Ar l)<=1099511627776):Ret Tryz.prog 81 [v,u] N (.bool (decide (l=m))) N:=by
 refine Ab A2j (Z0z rfl) trivial ?_
 simp +contextual (disch:=omega) only[go_sem,Qd,hv.len,hu.len]
 refine⟨fun hn=> ?_,fun hn=> ?_⟩
 ·have:l≠m:=fun h=>by subst h;simp at hn
  simp[this]
 have hlm:l.length=m.length:=by
                    have h2:(l.length:Int)=m.length:=by simpa using hn
                    omega
 refine Bc l.length 5 (fun i env U=>env 0=v/\env 1=u/\l.take i=m.take i/\N <+: U) rfl ⟨rfl,rfl,rfl,Zab _⟩ ?_ ?_
 ·rintro i env U hi e5 c0 ⟨e0,e1,he,hp⟩
  have hj:i<m.length:=by omega
  have h1:=hv.pre hp
  have h2:=hu.pre hp
  have hne:l[i]≠m[i]->l≠m:=fun h h'=>h (by subst h';rfl)
  have hst:l[i]=m[i]->l.take (i+1)=m.take (i+1):=fun h=>by rw[Aw hi,Aw hj,he,h]
  have hms:Ar l[i]<=sumL Ar l:=Cj (Zac hi)
  simp +contextual (disch:=omega) only[go_sem,c0,e0,e1,e5,hv.len,hu.len,Aa h1 hi,Aa h2 hj]
  refine A6 (A2i U l[i] m[i]) ?_
  simp +contextual (disch:=omega) only[go_sem,e0,e1,e5,hp]
  refine⟨fun h=> ?_,fun h=> ?_⟩
  ·simp[hne (by simpa using h)]
  ·simpa using hst (by simpa using h)
 ·rintro env U e5 c0 ⟨e0,e1,he,hp⟩
  rw[Zad,hlm,Zad] at he
  simp +contextual (disch:=omega) only[go_sem,c0,e0,e1,e5,hv.len,hu.len,hp]
  simp[he]
def T0:Fn1:=⟨29,[.t 4],(rg [oX 2 0,oX 3 1,oV 4 kf] (.seq (rg [oF 5 0 2,oL 6 5,oF 7 0 3,oL 8 7,oD 9 20 6 8,oU 10 9] (oG 10 (oR 4 kf))) (.seq (rg [oF 11 1 2,oL 12 11,oF 13 1 3,oL 14 13,oD 15 81 12 14,oU 16 15] (oG 16 (oR 4 kf))) (.seq (rg [oF 17 2 2,oL 18 17,oF 19 2 3,oL 20 19,oD 21 82 18 20,oU 22 21] (oG 22 (oR 4 kf))) (.seq (rg [oF 23 3 2,oL 24 23,oF 25 3 3,oL 26 25,oD 27 83 24 26,oU 28 27] (oG 28 (oR 4 kf))) (oR 4 kt))))))⟩
theorem A4k:A4 Tryz.prog 21=some T0:=by kernel_rfl
theorem Ik (N:St) (cs ds:List GV) (x y:State) (hx:A8.R N x cs) (hy:A8.R N y ds) (hl:A7 x<=1099511627776):Ret Tryz.prog 21 [.agg cs,.agg ds] N (.bool (decide (x=y))) N:=by
 obtain⟨v0,v1,v2,v3,rfl,q0_,q1_,q2_,q3_⟩:=hx
 obtain⟨u0,u1,u2,u3,rfl,p0_,p1_,p2_,p3_⟩:=hy
 unfold A7 at hl
 refine Ab A4k (Z0z rfl) trivial ?_
 simp +contextual (disch:=omega) only[go_sem,T0,Zaa]
 refine A6 (Fj _ v0 u0 x.know y.know (q0_.pre pre2) (p0_.pre pre2) (by omega)) ?_
 simp +contextual (disch:=omega) only[go_sem,Zaa]
 refine⟨fun hn=> ?_,fun hn=> ?_⟩
 ·simp only[State.eq_iff];simp at hn ⊢;simp[hn]
 have q0:x.know=y.know:=by simpa using hn
 refine A6 (Ld _ v1 u1 x.tallies y.tallies (q1_.pre pre2) (p1_.pre pre2) (by omega)) ?_
 simp +contextual (disch:=omega) only[go_sem,Zaa]
 refine⟨fun hn=> ?_,fun hn=> ?_⟩
 ·simp only[State.eq_iff];simp at hn ⊢;simp[hn]
 have q1:x.tallies=y.tallies:=by simpa using hn
 refine A6 (Mg _ v2 u2 x.lives y.lives (q2_.pre pre2) (p2_.pre pre2) (by omega)) ?_
 simp +contextual (disch:=omega) only[go_sem,Zaa]
 refine⟨fun hn=> ?_,fun hn=> ?_⟩
 ·simp only[State.eq_iff];simp at hn ⊢;simp[hn]
 have q2:x.lives=y.lives:=by simpa using hn
 refine A6 (Mf _ v3 u3 x.cells y.cells (q3_.pre pre2) (p3_.pre pre2) (by omega)) ?_
 simp +contextual (disch:=omega) only[go_sem,Zaa]
 refine⟨fun hn=> ?_,fun hn=> ?_⟩
 ·simp only[State.eq_iff];simp at hn ⊢;simp[hn]
 have q3:x.cells=y.cells:=by simpa using hn
 simp only[State.eq_iff,q0,q1,q2,q3,and_self,decide_true]
def A01:Fn1:=⟨13,[.t 4],(rg [oX 2 0,oV 4 (ki 0)] (rg [oM 5 1,oF 6 0 2,oL 7 6,o 8 (.len true (.t 7)),oB 9 .sub 5 8,oM 1 9] (.seq (rg [oM 10 1,oE 11 .lss 10 0] (oG 11 (rg [o 4 (.mov (ki (-1)))] .ret))) (rg [oM 12 1,oM 4 12] .ret))))⟩
theorem A89:A4 Tryz.prog 180=some A01:=by kernel_rfl
theorem A4l (N:St) (x:Cell) (n:Int) (hw:A84 x) (h0:0<=n) (h1:n<=1099511627776):Ret Tryz.prog 180 [.agg [.str x.obj,.int .i64 x.dot.rep,.int .i64 x.dot.seq,.int .i64 x.time,.int .i64 x.ref.rep,.int .i64 x.ref.seq,.int .i64 x.val,.bool x.gone],gi n] N (gi (lf n (Ce x))) N:=by
 have w0:=hw;unfold A84 at w0
 refine Ab A89 (Z0z rfl) trivial ?_
 simp +contextual (disch:=omega) only[go_sem,A01,Zaa]
 refine⟨fun hn=> ?_,fun hn=> ?_⟩
 ·have hn:=of_decide_eq_true hn
  unfold Ce lf;rw[if_pos (by omega)]
 have hn:=of_decide_eq_false hn
 try simp(disch:=omega) only[Af]
 unfold Ce;rw[show lf n (x.obj.size)=n - ((x.obj.size:Nat):Int) by unfold lf;rw[if_neg (by omega)]];try omega
def T4:Fn1:=⟨27,[.t 4],(rg [oV 4 (ki 0)] (rg [oM 6 1,oM 7 0,oN 8 7,oB 9 .sub 6 8,oM 1 9] (.seq (rg [oM 10 1,oE 11 .lss 10 0] (oG 11 (rg [o 4 (.mov (ki (-1)))] .ret))) (.seq (rg [oV 5 (ki 0)] (oH 0 (.seq (rg [oM 12 5,oM 13 0,oN 14 13,oB 15 .lss 12 14] (oJ 15 0)) (.seq (.blk 1 (rg [oM 18 0,oM 19 5,oI 20 8 18 19,oW 21 8 20,oM 22 1,oD 23 180 21 22,oM 1 23] (rg [oM 24 1,oE 25 .lss 24 0] (oG 25 (rg [o 4 (.mov (ki (-1)))] .ret))))) (.reg [oM 16 5,oZ 17 16 1,oM 5 17]))))) (rg [oM 26 1,oM 4 26] .ret)))))⟩
theorem A4m:A4 Tryz.prog 76=some T4:=by kernel_rfl
theorem Mh (N:St) (v:GV) (l:List Cell) (hR:RS Aj.kd N v l) (n:Int) (hw:l.length<=9223372036854775807/\∀ y∈l,A84 y) (h0:0<=n) (h1:n<=1099511627776):Ret Tryz.prog 76 [v,gi n] N (gi (lf n (l.length+sumL Ce l))) N:=by
 obtain⟨wl,we⟩:=hw
 refine Ab A4m (Z0z rfl) trivial ?_
 simp +contextual (disch:=omega) only[go_sem,T4,hR.len]
 refine⟨fun hn=> ?_,fun hn=> ?_⟩
 ·have hn:=of_decide_eq_true hn
  unfold lf;rw[if_pos (by omega)]
 have hn:=of_decide_eq_false hn
 refine Bc l.length 5 (fun i env U=>∃ m:Int,env 0=v/\env 1=gi m/\m=n - l.length - sumL Ce (l.take i)/\0<=m/\N <+: U) rfl ⟨n - l.length,rfl,rfl,by simp[sumL],by omega,Zab _⟩ ?_ ?_
 ·rintro i env U hi e5 c0 ⟨m,e0,e1,em,hm,hp⟩
  have h1:=hR.pre hp
  have hs:=Jg (f:=Ce) hi
  have hst:=Fi Ce l (i+1)
  simp +contextual (disch:=omega) only[go_sem,c0,e0,e1,e5,hR.len,A5 h1 hi]
  refine A6 (A4l U l[i] m (we _ (Zac hi)) hm (by omega)) ?_
  simp +contextual (disch:=omega) only[go_sem,c0,e0,e1,e5,hp]
  have g0:= @E5 m (Ce l[i]) hm
  have g1:= @A83 m (Ce l[i])
  refine⟨fun hn=> ?_,fun hn=> ?_⟩
  ·have hn:=Bv.1 (of_decide_eq_true hn)
   unfold lf;rw[if_pos (by omega)]
  ·have hn:=of_decide_eq_false hn
   have f:=B5 hn
   exact⟨_,rfl,by omega,by omega⟩
 ·rintro env U e5 c0 ⟨m,e0,e1,em,hm,hp⟩
  rw[Zad] at em
  simp +contextual (disch:=omega) only[go_sem,c0,e0,e1,e5,hR.len,hp]
  unfold lf;rw[if_neg (by omega)];omega
def A03:Fn1:=⟨12,[.t 4],(rg [oV 4 (ki 0)] (rg [oM 5 1,oM 6 0,oN 7 6,oB 8 .sub 5 7,oM 1 8] (.seq (rg [oM 9 1,oE 10 .lss 9 0] (oG 10 (rg [o 4 (.mov (ki (-1)))] .ret))) (rg [oM 11 1,oM 4 11] .ret))))⟩
theorem A8a:A4 Tryz.prog 73=some A03:=by kernel_rfl
theorem Fk (N:St) (v:GV) (l:List Int) (hR:RS pI.kd N v l) (n:Int) (hw:l.length<=9223372036854775807) (h0:0<=n) (h1:n<=1099511627776):Ret Tryz.prog 73 [v,gi n] N (gi (lf n l.length)) N:=by
 refine Ab A8a (Z0z rfl) trivial ?_
 simp +contextual (disch:=omega) only[go_sem,A03,hR.len]
 refine⟨fun h=> ?_,fun h=> ?_⟩
 ·rw[lf,if_pos (of_decide_eq_true h)]
 ·rw[lf,if_neg (of_decide_eq_false h)]
def A05:Fn1:=⟨20,[.t 4],(rg [oX 2 0,oV 4 (ki 0)] (rg [oM 5 1,oF 6 1 2,oL 7 6,o 8 (.len true (.t 7)),oB 9 .sub 5 8,oM 1 9] (.seq (rg [oM 10 1,oE 11 .lss 10 0] (oG 11 (rg [o 4 (.mov (ki (-1)))] .ret))) (rg [oM 12 1,oF 13 2 2,oL 14 13,o 15 (.len true (.t 14)),oB 16 .sub 12 15,oM 1 16] (.seq (rg [oM 17 1,oE 18 .lss 17 0] (oG 18 (rg [o 4 (.mov (ki (-1)))] .ret))) (rg [oM 19 1,oM 4 19] .ret))))))⟩
theorem A8b:A4 Tryz.prog 179=some A05:=by kernel_rfl
theorem A4n (N:St) (x:Live) (n:Int) (hw:Abl x) (h0:0<=n) (h1:n<=1099511627776):Ret Tryz.prog 179 [.agg [.bool x.map,.str x.obj,.str x.key,.int .i64 x.val,.int .i64 x.dot.rep,.int .i64 x.dot.seq],gi n] N (gi (lf n (Bk x))) N:=by
 obtain⟨w0,w1⟩:=hw
 refine Ab A8b (Z0z rfl) trivial ?_
 simp +contextual (disch:=omega) only[go_sem,A05,Zaa]
 refine⟨fun hn=> ?_,fun hn=> ?_⟩
 ·have hn:=of_decide_eq_true hn
  unfold Bk lf;rw[if_pos (by omega)]
 have hn:=of_decide_eq_false hn
 try simp(disch:=omega) only[Af]
 refine⟨fun hn=> ?_,fun hn=> ?_⟩
 ·have hn:=of_decide_eq_true hn
  unfold Bk lf;rw[if_pos (by omega)]
 have hn:=of_decide_eq_false hn
 try simp(disch:=omega) only[Af]
 unfold Bk;rw[show lf n (x.obj.size+x.key.size)=n - ((x.obj.size+x.key.size:Nat):Int) by unfold lf;rw[if_neg (by omega)]];try omega
def T6:Fn1:=⟨27,[.t 4],(rg [oV 4 (ki 0)] (rg [oM 6 1,oM 7 0,oN 8 7,oB 9 .sub 6 8,oM 1 9] (.seq (rg [oM 10 1,oE 11 .lss 10 0] (oG 11 (rg [o 4 (.mov (ki (-1)))] .ret))) (.seq (rg [oV 5 (ki 0)] (oH 0 (.seq (rg [oM 12 5,oM 13 0,oN 14 13,oB 15 .lss 12 14] (oJ 15 0)) (.seq (.blk 1 (rg [oM 18 0,oM 19 5,oI 20 6 18 19,oW 21 6 20,oM 22 1,oD 23 179 21 22,oM 1 23] (rg [oM 24 1,oE 25 .lss 24 0] (oG 25 (rg [o 4 (.mov (ki (-1)))] .ret))))) (.reg [oM 16 5,oZ 17 16 1,oM 5 17]))))) (rg [oM 26 1,oM 4 26] .ret)))))⟩
theorem A4o:A4 Tryz.prog 75=some T6:=by kernel_rfl
theorem Mi (N:St) (v:GV) (l:List Live) (hR:RS Da.kd N v l) (n:Int) (hw:l.length<=9223372036854775807/\∀ y∈l,Abl y) (h0:0<=n) (h1:n<=1099511627776):Ret Tryz.prog 75 [v,gi n] N (gi (lf n (l.length+sumL Bk l))) N:=by
 obtain⟨wl,we⟩:=hw
 refine Ab A4o (Z0z rfl) trivial ?_
 simp +contextual (disch:=omega) only[go_sem,T6,hR.len]
 refine⟨fun hn=> ?_,fun hn=> ?_⟩
 ·have hn:=of_decide_eq_true hn
  unfold lf;rw[if_pos (by omega)]
 have hn:=of_decide_eq_false hn
 refine Bc l.length 5 (fun i env U=>∃ m:Int,env 0=v/\env 1=gi m/\m=n - l.length - sumL Bk (l.take i)/\0<=m/\N <+: U) rfl ⟨n - l.length,rfl,rfl,by simp[sumL],by omega,Zab _⟩ ?_ ?_
 ·rintro i env U hi e5 c0 ⟨m,e0,e1,em,hm,hp⟩
  have h1:=hR.pre hp
  have hs:=Jg (f:=Bk) hi
  have hst:=Fi Bk l (i+1)
  simp +contextual (disch:=omega) only[go_sem,c0,e0,e1,e5,hR.len,A3 h1 hi]
  refine A6 (A4n U l[i] m (we _ (Zac hi)) hm (by omega)) ?_
  simp +contextual (disch:=omega) only[go_sem,c0,e0,e1,e5,hp]
  have g0:= @E5 m (Bk l[i]) hm
  have g1:= @A83 m (Bk l[i])
  refine⟨fun hn=> ?_,fun hn=> ?_⟩
  ·have hn:=Bv.1 (of_decide_eq_true hn)
   unfold lf;rw[if_pos (by omega)]
  ·have hn:=of_decide_eq_false hn
   have f:=B5 hn
   exact⟨_,rfl,by omega,by omega⟩
 ·rintro env U e5 c0 ⟨m,e0,e1,em,hm,hp⟩
  rw[Zad] at em
  simp +contextual (disch:=omega) only[go_sem,c0,e0,e1,e5,hR.len,hp]
  unfold lf;rw[if_neg (by omega)];omega
def T8:Fn1:=⟨13,[.t 4],(rg [oX 2 0,oV 4 (ki 0)] (rg [oM 5 1,oF 6 0 2,oL 7 6,o 8 (.len true (.t 7)),oB 9 .sub 5 8,oM 1 9] (.seq (rg [oM 10 1,oE 11 .lss 10 0] (oG 11 (rg [o 4 (.mov (ki (-1)))] .ret))) (rg [oM 12 1,oM 4 12] .ret))))⟩
theorem A4p:A4 Tryz.prog 178=some T8:=by kernel_rfl
theorem A2k (N:St) (x:Tally) (n:Int) (hw:Sn x) (h0:0<=n) (h1:n<=1099511627776):Ret Tryz.prog 178 [.agg [.str x.obj,.int .i64 x.rep,.int .i64 x.sum],gi n] N (gi (lf n (Ar x))) N:=by
 have w0:=hw;unfold Sn at w0
 refine Ab A4p (Z0z rfl) trivial ?_
 simp +contextual (disch:=omega) only[go_sem,T8,Zaa]
 refine⟨fun hn=> ?_,fun hn=> ?_⟩
 ·have hn:=of_decide_eq_true hn
  unfold Ar lf;rw[if_pos (by omega)]
 have hn:=of_decide_eq_false hn
 try simp(disch:=omega) only[Af]
 unfold Ar;rw[show lf n (x.obj.size)=n - ((x.obj.size:Nat):Int) by unfold lf;rw[if_neg (by omega)]];try omega
def Qf:Fn1:=⟨27,[.t 4],(rg [oV 4 (ki 0)] (rg [oM 6 1,oM 7 0,oN 8 7,oB 9 .sub 6 8,oM 1 9] (.seq (rg [oM 10 1,oE 11 .lss 10 0] (oG 11 (rg [o 4 (.mov (ki (-1)))] .ret))) (.seq (rg [oV 5 (ki 0)] (oH 0 (.seq (rg [oM 12 5,oM 13 0,oN 14 13,oB 15 .lss 12 14] (oJ 15 0)) (.seq (.blk 1 (rg [oM 18 0,oM 19 5,oI 20 3 18 19,oW 21 3 20,oM 22 1,oD 23 178 21 22,oM 1 23] (rg [oM 24 1,oE 25 .lss 24 0] (oG 25 (rg [o 4 (.mov (ki (-1)))] .ret))))) (.reg [oM 16 5,oZ 17 16 1,oM 5 17]))))) (rg [oM 26 1,oM 4 26] .ret)))))⟩
theorem A2l:A4 Tryz.prog 74=some Qf:=by kernel_rfl
theorem Lf (N:St) (v:GV) (l:List Tally) (hR:RS Dz.kd N v l) (n:Int) (hw:l.length<=9223372036854775807/\∀ y∈l,Sn y) (h0:0<=n) (h1:n<=1099511627776):Ret Tryz.prog 74 [v,gi n] N (gi (lf n (l.length+sumL Ar l))) N:=by
 obtain⟨wl,we⟩:=hw
 refine Ab A2l (Z0z rfl) trivial ?_
 simp +contextual (disch:=omega) only[go_sem,Qf,hR.len]
 refine⟨fun hn=> ?_,fun hn=> ?_⟩
 ·have hn:=of_decide_eq_true hn
  unfold lf;rw[if_pos (by omega)]
 have hn:=of_decide_eq_false hn
 refine Bc l.length 5 (fun i env U=>∃ m:Int,env 0=v/\env 1=gi m/\m=n - l.length - sumL Ar (l.take i)/\0<=m/\N <+: U) rfl ⟨n - l.length,rfl,rfl,by simp[sumL],by omega,Zab _⟩ ?_ ?_
 ·rintro i env U hi e5 c0 ⟨m,e0,e1,em,hm,hp⟩
  have h1:=hR.pre hp
  have hs:=Jg (f:=Ar) hi
  have hst:=Fi Ar l (i+1)
  simp +contextual (disch:=omega) only[go_sem,c0,e0,e1,e5,hR.len,Aa h1 hi]
  refine A6 (A2k U l[i] m (we _ (Zac hi)) hm (by omega)) ?_
  simp +contextual (disch:=omega) only[go_sem,c0,e0,e1,e5,hp]
  have g0:= @E5 m (Ar l[i]) hm
  have g1:= @A83 m (Ar l[i])
  refine⟨fun hn=> ?_,fun hn=> ?_⟩
  ·have hn:=Bv.1 (of_decide_eq_true hn)
   unfold lf;rw[if_pos (by omega)]
  ·have hn:=of_decide_eq_false hn
   have f:=B5 hn
   exact⟨_,rfl,by omega,by omega⟩
 ·rintro env U e5 c0 ⟨m,e0,e1,em,hm,hp⟩
  rw[Zad] at em
  simp +contextual (disch:=omega) only[go_sem,c0,e0,e1,e5,hR.len,hp]
  unfold lf;rw[if_neg (by omega)];omega
def Ta:Fn1:=⟨30,[.t 4],(rg [oX 2 0,oV 4 (ki 0)] (rg [oF 5 0 2,oL 6 5,oM 7 1,oD 8 73 6 7,oM 1 8] (.seq (rg [oM 9 1,oE 10 .lss 9 0] (oG 10 (rg [o 4 (.mov (ki (-1)))] .ret))) (rg [oF 11 1 2,oL 12 11,oM 13 1,oD 14 74 12 13,oM 1 14] (.seq (rg [oM 15 1,oE 16 .lss 15 0] (oG 16 (rg [o 4 (.mov (ki (-1)))] .ret))) (rg [oF 17 2 2,oL 18 17,oM 19 1,oD 20 75 18 19,oM 1 20] (.seq (rg [oM 21 1,oE 22 .lss 21 0] (oG 22 (rg [o 4 (.mov (ki (-1)))] .ret))) (rg [oF 23 3 2,oL 24 23,oM 25 1,oD 26 76 24 25,oM 1 26] (.seq (rg [oM 27 1,oE 28 .lss 27 0] (oG 28 (rg [o 4 (.mov (ki (-1)))] .ret))) (rg [oM 29 1,oM 4 29] .ret))))))))))⟩
theorem A4q:A4 Tryz.prog 14=some Ta:=by kernel_rfl
theorem Il (N:St) (cs:List GV) (x:State) (hR:A8.R N x cs) (n:Int) (hw:Aal x) (h0:0<=n) (h1:n<=1099511627776):Ret Tryz.prog 14 [.agg cs,gi n] N (gi (lf n (A7 x))) N:=by
 obtain⟨v0,v1,v2,v3,rfl,q0,q1,q2,q3⟩:=hR
 obtain⟨w0,w1,w2,w3⟩:=hw
 refine Ab A4q (Z0z rfl) trivial ?_
 simp +contextual (disch:=omega) only[go_sem,Ta,Zaa]
 refine A6 (Fk _ v0 x.know (q0.pre (pre1 _ _)) (n) w0 (by omega) (by omega)) ?_
 simp +contextual (disch:=omega) only[go_sem,Zaa]
 have g0:= @E5 (n) (x.know.length) (by omega)
 refine⟨fun hn=> ?_,fun hn=> ?_⟩
 ·have hn:=of_decide_eq_true hn
  have hn:=Bv.1 hn
  unfold A7 lf;rw[if_pos (by omega)]
 have hn:=of_decide_eq_false hn
 have f0:=B5 hn
 try simp(disch:=omega) only[Af]
 refine A6 (Lf _ v1 x.tallies (q1.pre (pre1 _ _)) (lf (n) (x.know.length)) w1 (by omega) (by omega)) ?_
 simp +contextual (disch:=omega) only[go_sem,Zaa]
 have g1:= @E5 (lf (n) (x.know.length)) ((x.tallies.length+sumL Ar x.tallies)) (by omega)
 refine⟨fun hn=> ?_,fun hn=> ?_⟩
 ·have hn:=of_decide_eq_true hn
  have hn:=Bv.1 hn
  unfold A7 lf;rw[if_pos (by omega)]
 have hn:=of_decide_eq_false hn
 have f1:=B5 hn
 try simp(disch:=omega) only[Af]
 refine A6 (Mi _ v2 x.lives (q2.pre (pre1 _ _)) (lf (lf (n) (x.know.length)) ((x.tallies.length+sumL Ar x.tallies))) w2 (by omega) (by omega)) ?_
 simp +contextual (disch:=omega) only[go_sem,Zaa]
 have g2:= @E5 (lf (lf (n) (x.know.length)) ((x.tallies.length+sumL Ar x.tallies))) ((x.lives.length+sumL Bk x.lives)) (by omega)
 refine⟨fun hn=> ?_,fun hn=> ?_⟩
 ·have hn:=of_decide_eq_true hn
  have hn:=Bv.1 hn
  unfold A7 lf;rw[if_pos (by omega)]
 have hn:=of_decide_eq_false hn
 have f2:=B5 hn
 try simp(disch:=omega) only[Af]
 refine A6 (Mh _ v3 x.cells (q3.pre (pre1 _ _)) (lf (lf (lf (n) (x.know.length)) ((x.tallies.length+sumL Ar x.tallies))) ((x.lives.length+sumL Bk x.lives))) w3 (by omega) (by omega)) ?_
 simp +contextual (disch:=omega) only[go_sem,Zaa]
 have g3:= @E5 (lf (lf (lf (n) (x.know.length)) ((x.tallies.length+sumL Ar x.tallies))) ((x.lives.length+sumL Bk x.lives))) ((x.cells.length+sumL Ce x.cells)) (by omega)
 refine⟨fun hn=> ?_,fun hn=> ?_⟩
 ·have hn:=of_decide_eq_true hn
  have hn:=Bv.1 hn
  unfold A7 lf;rw[if_pos (by omega)]
 have hn:=of_decide_eq_false hn
 have f3:=B5 hn
 try simp(disch:=omega) only[Af]
 unfold A7;rw[show lf n (x.know.length+(x.tallies.length+sumL Ar x.tallies)+(x.lives.length+sumL Bk x.lives)+(x.cells.length+sumL Ce x.cells))=n - ((x.know.length+(x.tallies.length+sumL Ar x.tallies)+(x.lives.length+sumL Bk x.lives)+(x.cells.length+sumL Ce x.cells):Nat):Int) by unfold lf;rw[if_neg (by omega)]];try omega
theorem Hp.ownAct {N U:St} {rs:List Thg} {x:Act} {v2:GV} (H:Hp N U (ow pI.kd v2 x.knew::rs)):Hp N U (own kAct ((GV.int .i64 x.dot.rep)::(GV.int .i64 x.dot.seq)::(GV.int .i64 x.time)::v2::(GV.int .i64 x.kind)::(GV.str x.obj)::(GV.str x.key)::(GV.int .i64 x.val)::(GV.int .i64 x.ref.rep)::(GV.int .i64 x.ref.seq)::[]) x::rs):=by
 refine(H).conv ?_
 intro fp h0
 exact⟨v2,fp,rfl,h0,rfl⟩
theorem Hp.ownState {N U:St} {rs:List Thg} {x:State} {v0:GV} {v1:GV} {v2:GV} {v3:GV} (H:Hp N U (ow pI.kd v0 x.know::ow Dz.kd v1 x.tallies::ow Da.kd v2 x.lives::ow Aj.kd v3 x.cells::rs)):Hp N U (own A8 (v0::v1::v2::v3::[]) x::rs):=by
 refine(H.join.join.join).conv ?_
 rintro fp ⟨_,f3,⟨_,f2,⟨f0,f1,h0,h1,rfl⟩,h2,rfl⟩,h3,rfl⟩
 exact⟨v0,v1,v2,v3,f0,f1,f2,f3,rfl,h0,h1,h2,h3,by simp[Zam]⟩
theorem Hp.ownDelta {N U:St} {rs:List Thg} {x:Delta} {v0:GV} {v1:GV} {v2:GV} {v3:GV} {v4:GV} {v5:GV} (H:Hp N U (ow pI.kd v0 x.base::ow pI.kd v1 x.know::ow Dz.kd v2 x.tallies::ow Da.kd v3 x.lives::ow pDot.kd v4 x.dead::ow Aj.kd v5 x.cells::rs)):Hp N U (own Dk (v0::v1::v2::v3::v4::v5::[]) x::rs):=by
 refine(H.join.join.join.join.join).conv ?_
 rintro fp ⟨_,f5,⟨_,f4,⟨_,f3,⟨_,f2,⟨f0,f1,h0,h1,rfl⟩,h2,rfl⟩,h3,rfl⟩,h4,rfl⟩,h5,rfl⟩
 exact⟨v0,v1,v2,v3,v4,v5,f0,f1,f2,f3,f4,f5,rfl,h0,h1,h2,h3,h4,h5,by simp[Zam]⟩
theorem Hp.ownUnit_ {N U:St} {rs:List Thg} {x:Unit_} {v1:List GV} {v2:List GV} (H:Hp N U (own kAct v1 x.act::own Dk v2 x.delta::rs)):Hp N U (own Bt ((GV.bool x.batch)::v1++(v2++([]))) x::rs):=by
 refine(H.join).conv ?_
 rintro fp ⟨f0,f1,h0,h1,rfl⟩
 exact⟨v1,v2,f0,f1,rfl,h0,h1,by simp[Zam]⟩
theorem Hp.ownLog {N U:St} {rs:List Thg} {x:Log} {v2:List GV} {v3:GV} {v4:GV} (H:Hp N U (own A8 v2 x.state::ow Bt v3 x.units::ow Bt v4 x.waits::rs)):Hp N U (own kLog ((GV.int .i64 x.rep)::(GV.int .i64 x.time)::v2++(v3::v4::[])) x::rs):=by
 refine(H.join.join).conv ?_
 rintro fp ⟨_,f2,⟨f0,f1,h0,h1,rfl⟩,h2,rfl⟩
 exact⟨v2,v3,v4,f0,f1,f2,rfl,h0,h1,h2,by simp[Zam]⟩
theorem Hp.ownCommit {N U:St} {rs:List Thg} {x:Commit} {v1:GV} {v2:List GV} (H:Hp N U (ow pI.kd v1 x.ups::own A8 v2 x.state::rs)):Hp N U (own Bo ((GV.int .i64 x.id.rep)::(GV.int .i64 x.id.seq)::v1::v2++([])) x::rs):=by
 refine(H.join).conv ?_
 rintro fp ⟨f0,f1,h0,h1,rfl⟩
 exact⟨v1,v2,f0,f1,rfl,h0,h1,by simp[Zam]⟩
theorem Hp.ownGraph {N U:St} {rs:List Thg} {x:Graph} {v0:GV} (H:Hp N U (ow Bo v0 x.commits::rs)):Hp N U (own E1 (v0::(GV.int .i64 x.head)::[]) x::rs):=by
 refine(H).conv ?_
 intro fp h0
 exact⟨v0,fp,rfl,h0,rfl⟩
theorem Hp.ownReplica {N U:St} {rs:List Thg} {x:Replica} {v1:List GV} {v2:List GV} {v4:GV} (H:Hp N U (own kLog v1 x.log::own E1 v2 x.graph::ow Bt v4 x.out::rs)):Hp N U (own Bi ((GV.int .i64 x.way)::v1++(v2++((GV.str x.file.text)::(GV.int .i64 x.file.synced)::v4::[]))) x::rs):=by
 refine(H.join.join).conv ?_
 rintro fp ⟨_,f2,⟨f0,f1,h0,h1,rfl⟩,h2,rfl⟩
 exact⟨v1,v2,v4,f0,f1,f2,rfl,h0,h1,h2,by simp[Zam]⟩
def A4s:Fn1:=⟨11,[.c 2 true 2],(rg [oX 1 0,o 2 (.new [z0,z0])] (rg [o 3 (.new [z0,z0])] (rg [oF 4 0 1,oL 5 4,oF 6 0 3,oS 1 6 5] (rg [oF 7 1 1,oL 8 7,oF 9 1 3,oS 1 9 8] (rg [oW 10 2 3,oS 2 2 10] .ret)))))⟩
theorem Abn:A4 Tryz.prog 252=some A4s:=by kernel_rfl
theorem Ds (N:St) (x:Dot):Ret Tryz.prog 252 [.agg [.int .i64 x.rep,.int .i64 x.seq]] N (.agg [.int .i64 x.rep,.int .i64 x.seq]) N:=by
 refine Ab Abn (Z0z rfl) (by simp[vLt,cLt,sLt]) ?_
 simp +contextual (disch:=omega) only[go_sem,A4s]
def A07:Fn1:=⟨25,[.c 2 true 8],(rg [oX 1 0,o 2 (.new [s0,z0,z0,z0,z0,z0,z0,(.bool false)])] (rg [o 3 (.new [s0,z0,z0,z0,z0,z0,z0,(.bool false)])] (rg [oF 4 0 1,oL 5 4,oF 6 0 3,oS 1 6 5] (rg [oF 7 1 1,oW 8 2 7,oC 9 252 8,oF 10 1 3,oS 2 10 9] (rg [oF 11 3 1,oL 12 11,oF 13 3 3,oS 1 13 12] (rg [oF 14 4 1,oW 15 2 14,oC 16 252 15,oF 17 4 3,oS 2 17 16] (rg [oF 18 6 1,oL 19 18,oF 20 6 3,oS 1 20 19] (rg [oF 21 7 1,oL 22 21,oF 23 7 3,oS 1 23 22] (rg [oW 24 8 3,oS 8 2 24] .ret)))))))))⟩
theorem A8c:A4 Tryz.prog 183=some A07:=by kernel_rfl
theorem A4t (N:St) (x:Cell):Ret Tryz.prog 183 [.agg [.str x.obj,.int .i64 x.dot.rep,.int .i64 x.dot.seq,.int .i64 x.time,.int .i64 x.ref.rep,.int .i64 x.ref.seq,.int .i64 x.val,.bool x.gone]] N (.agg [.str x.obj,.int .i64 x.dot.rep,.int .i64 x.dot.seq,.int .i64 x.time,.int .i64 x.ref.rep,.int .i64 x.ref.seq,.int .i64 x.val,.bool x.gone]) N:=by
 refine Ab A8c (Z0z rfl) (by simp[vLt,cLt,sLt]) ?_
 simp +contextual (disch:=omega) only[go_sem,A07]
 refine A6 (Ds _ x.dot) ?_
 simp +contextual (disch:=omega) only[go_sem,Zaa]
 refine A6 (Ds _ x.ref) ?_
 simp +contextual (disch:=omega) only[go_sem,Zaa]
def Tc:Fn1:=⟨23,[.t 2],(rg [o 2 (.mov (.k .nilS))] (rg [oM 5 0,oN 6 5,o 7 (.mks 8 72 [s0,z0,z0,z0,z0,z0,z0,(.bool false)] (.t 6) (.t 6)),oM 3 7] (.seq (rg [oV 4 (ki 0)] (oH 0 (.seq (rg [oM 8 4,oM 9 0,oN 10 9,oB 11 .lss 8 10] (oJ 11 0)) (.seq (.blk 1 (.reg [oM 14 3,oM 15 4,oM 16 0,oM 17 4,oI 18 8 16 17,oW 19 8 18,oC 20 183 19,oI 21 8 14 15,oS 8 21 20])) (.reg [oM 12 4,oZ 13 12 1,oM 4 13]))))) (rg [oM 22 3,oM 2 22] .ret))))⟩
theorem A4u:A4 Tryz.prog 80=some Tc:=by kernel_rfl
theorem Mj (N:St) (v:GV) (l:List Cell) (hR:RS Aj.kd N v l) (hl:l.length<=1099511627776):∃ r U,Ret Tryz.prog 80 [v] N r U/\Hp N U [ow Aj.kd r l]:=by
 refine A4c (rs:=fun r=>[ow Aj.kd r l]) A4u (Z0z rfl) ?_
 have hmk:∀ ze,mksG 8 72 ze N (some l.length) (some l.length)=some (.sl N.length 0 l.length,N++[some (.row 8 (reps l.length ze))]):=fun ze=>A4a (by omega)
 simp +contextual (disch:=omega) only[go_sem,Tc,hR.len,hmk]
 have H0:=((Hp.refl N).new 8 (reps l.length (Aj.enc ⟨⟨#[]⟩,⟨0,0⟩,0,⟨0,0⟩,0,false⟩))).toRow 0 (p:=Aj) rfl (Zae l.length ⟨⟨#[]⟩,⟨0,0⟩,0,⟨0,0⟩,0,false⟩) rfl (Mb _ _ _) l.length (by simp)
 refine Bc l.length 4 (fun i env U=>env 0=v/\env 3= .sl N.length 0 l.length/\Hp N U [ow Aj.kd (.sl N.length 0 l.length) (l.take i++Zae (l.length - i) ⟨⟨#[]⟩,⟨0,0⟩,0,⟨0,0⟩,0,false⟩)]) rfl ⟨rfl,rfl,by rw[Zbb,Za0,Zbn];exact H0⟩ ?_ ?_
 ·rintro i env U hi e4 c0 ⟨e0,e3,H⟩
  have h1:=hR.pre H.sub
  have h2:=H.sl 0 rfl
  have hj:=Mc (z:=(⟨⟨#[]⟩,⟨0,0⟩,0,⟨0,0⟩,0,false⟩:Cell)) hi
  simp +contextual (disch:=omega) only[go_sem,e0,e3,e4,c0,hR.len,A5 h1 hi]
  refine A6 (A4t U l[i]) ?_
  obtain⟨U',es,H'⟩:=H.stw 0 rfl hj 8 (.agg [.str l[i].obj,.int .i64 l[i].dot.rep,.int .i64 l[i].dot.seq,.int .i64 l[i].time,.int .i64 l[i].ref.rep,.int .i64 l[i].ref.seq,.int .i64 l[i].val,.bool l[i].gone]) l[i] rfl rfl (by decide)
  rw[Jh hi] at H'
  have es:stG 8 U (atz 8 (.sl N.length 0 l.length) i) (.agg [.str l[i].obj,.int .i64 l[i].dot.rep,.int .i64 l[i].dot.seq,.int .i64 l[i].time,.int .i64 l[i].ref.rep,.int .i64 l[i].ref.seq,.int .i64 l[i].val,.bool l[i].gone])=some (.tup [],U'):=es
  simp +contextual (disch:=omega) only[go_sem,e0,e3,e4,c0,hR.len,A5 h1 hi,A5 h2 hj,es]
  exact H'
 ·rintro env U e4 c0 ⟨e0,e3,H⟩
  rw[Md] at H
  simp +contextual (disch:=omega) only[go_sem,e0,e3,e4,c0,hR.len]
  exact⟨_,rfl,H⟩
def A09:Fn1:=⟨22,[.t 2],(rg [o 2 (.mov (.k .nilS))] (rg [oM 5 0,oN 6 5,o 7 (.mks 1 8 [z0] (.t 6) (.t 6)),oM 3 7] (.seq (rg [oV 4 (ki 0)] (oH 0 (.seq (rg [oM 8 4,oM 9 0,oN 10 9,oB 11 .lss 8 10] (oJ 11 0)) (.seq (.blk 1 (.reg [oM 14 3,oM 15 4,oM 16 0,oM 17 4,oI 18 1 16 17,oL 19 18,oI 20 1 14 15,oS 1 20 19])) (.reg [oM 12 4,oZ 13 12 1,oM 4 13]))))) (rg [oM 21 3,oM 2 21] .ret))))⟩
theorem A8d:A4 Tryz.prog 77=some A09:=by kernel_rfl
theorem Fl (N:St) (v:GV) (l:List Int) (hR:RS pI.kd N v l) (hl:l.length<=1099511627776):∃ r U,Ret Tryz.prog 77 [v] N r U/\Hp N U [ow pI.kd r l]:=by
 refine A4c (rs:=fun r=>[ow pI.kd r l]) A8d (Z0z rfl) ?_
 have hmk:∀ ze,mksG 1 8 ze N (some l.length) (some l.length)=some (.sl N.length 0 l.length,N++[some (.row 1 (reps l.length ze))]):=fun ze=>A4a (by omega)
 simp +contextual (disch:=omega) only[go_sem,A09,hR.len,hmk]
 have H0:=((Hp.refl N).new 1 (reps l.length (pI.enc 0))).toRow 0 (p:=pI) rfl (Zae l.length 0) rfl (Mb _ _ _) l.length (by simp)
 refine Bc l.length 4 (fun i env U=>env 0=v/\env 3= .sl N.length 0 l.length/\Hp N U [ow pI.kd (.sl N.length 0 l.length) (l.take i++Zae (l.length - i) 0)]) rfl ⟨rfl,rfl,by rw[Zbb,Za0,Zbn];exact H0⟩ ?_ ?_
 ·rintro i env U hi e4 c0 ⟨e0,e3,H⟩
  have h1:=hR.pre H.sub
  have h2:=H.sl 0 rfl
  have hj:=Mc (z:=(0:Int)) hi
  obtain⟨U',es,H'⟩:=H.stw 0 rfl hj 1 (.int .i64 l[i]) l[i] rfl rfl (by decide)
  rw[Jh hi] at H'
  have es:stG 1 U (atz 1 (.sl N.length 0 l.length) i) (.int .i64 l[i])=some (.tup [],U'):=es
  simp +contextual (disch:=omega) only[go_sem,e0,e3,e4,c0,hR.len,Hz h1 hi,Hz h2 hj,es]
  exact H'
 ·rintro env U e4 c0 ⟨e0,e3,H⟩
  rw[Md] at H
  simp +contextual (disch:=omega) only[go_sem,e0,e3,e4,c0,hR.len]
  exact⟨_,rfl,H⟩
def A0b:Fn1:=⟨21,[.c 2 true 6],(rg [oX 1 0,o 2 (.new [(.bool false),s0,s0,z0,z0,z0])] (rg [o 3 (.new [(.bool false),s0,s0,z0,z0,z0])] (rg [oF 4 0 1,oL 5 4,oF 6 0 3,oS 1 6 5] (rg [oF 7 1 1,oL 8 7,oF 9 1 3,oS 1 9 8] (rg [oF 10 2 1,oL 11 10,oF 12 2 3,oS 1 12 11] (rg [oF 13 3 1,oL 14 13,oF 15 3 3,oS 1 15 14] (rg [oF 16 4 1,oW 17 2 16,oC 18 252 17,oF 19 4 3,oS 2 19 18] (rg [oW 20 6 3,oS 6 2 20] .ret))))))))⟩
theorem A8e:A4 Tryz.prog 182=some A0b:=by kernel_rfl
theorem A4v (N:St) (x:Live):Ret Tryz.prog 182 [.agg [.bool x.map,.str x.obj,.str x.key,.int .i64 x.val,.int .i64 x.dot.rep,.int .i64 x.dot.seq]] N (.agg [.bool x.map,.str x.obj,.str x.key,.int .i64 x.val,.int .i64 x.dot.rep,.int .i64 x.dot.seq]) N:=by
 refine Ab A8e (Z0z rfl) (by simp[vLt,cLt,sLt]) ?_
 simp +contextual (disch:=omega) only[go_sem,A0b]
 refine A6 (Ds _ x.dot) ?_
 simp +contextual (disch:=omega) only[go_sem,Zaa]
def Te:Fn1:=⟨23,[.t 2],(rg [o 2 (.mov (.k .nilS))] (rg [oM 5 0,oN 6 5,o 7 (.mks 6 64 [(.bool false),s0,s0,z0,z0,z0] (.t 6) (.t 6)),oM 3 7] (.seq (rg [oV 4 (ki 0)] (oH 0 (.seq (rg [oM 8 4,oM 9 0,oN 10 9,oB 11 .lss 8 10] (oJ 11 0)) (.seq (.blk 1 (.reg [oM 14 3,oM 15 4,oM 16 0,oM 17 4,oI 18 6 16 17,oW 19 6 18,oC 20 182 19,oI 21 6 14 15,oS 6 21 20])) (.reg [oM 12 4,oZ 13 12 1,oM 4 13]))))) (rg [oM 22 3,oM 2 22] .ret))))⟩
theorem A4w:A4 Tryz.prog 79=some Te:=by kernel_rfl
theorem Mk (N:St) (v:GV) (l:List Live) (hR:RS Da.kd N v l) (hl:l.length<=1099511627776):∃ r U,Ret Tryz.prog 79 [v] N r U/\Hp N U [ow Da.kd r l]:=by
 refine A4c (rs:=fun r=>[ow Da.kd r l]) A4w (Z0z rfl) ?_
 have hmk:∀ ze,mksG 6 64 ze N (some l.length) (some l.length)=some (.sl N.length 0 l.length,N++[some (.row 6 (reps l.length ze))]):=fun ze=>A4a (by omega)
 simp +contextual (disch:=omega) only[go_sem,Te,hR.len,hmk]
 have H0:=((Hp.refl N).new 6 (reps l.length (Da.enc ⟨false,⟨#[]⟩,⟨#[]⟩,0,⟨0,0⟩⟩))).toRow 0 (p:=Da) rfl (Zae l.length ⟨false,⟨#[]⟩,⟨#[]⟩,0,⟨0,0⟩⟩) rfl (Mb _ _ _) l.length (by simp)
 refine Bc l.length 4 (fun i env U=>env 0=v/\env 3= .sl N.length 0 l.length/\Hp N U [ow Da.kd (.sl N.length 0 l.length) (l.take i++Zae (l.length - i) ⟨false,⟨#[]⟩,⟨#[]⟩,0,⟨0,0⟩⟩)]) rfl ⟨rfl,rfl,by rw[Zbb,Za0,Zbn];exact H0⟩ ?_ ?_
 ·rintro i env U hi e4 c0 ⟨e0,e3,H⟩
  have h1:=hR.pre H.sub
  have h2:=H.sl 0 rfl
  have hj:=Mc (z:=(⟨false,⟨#[]⟩,⟨#[]⟩,0,⟨0,0⟩⟩:Live)) hi
  simp +contextual (disch:=omega) only[go_sem,e0,e3,e4,c0,hR.len,A3 h1 hi]
  refine A6 (A4v U l[i]) ?_
  obtain⟨U',es,H'⟩:=H.stw 0 rfl hj 6 (.agg [.bool l[i].map,.str l[i].obj,.str l[i].key,.int .i64 l[i].val,.int .i64 l[i].dot.rep,.int .i64 l[i].dot.seq]) l[i] rfl rfl (by decide)
  rw[Jh hi] at H'
  have es:stG 6 U (atz 6 (.sl N.length 0 l.length) i) (.agg [.bool l[i].map,.str l[i].obj,.str l[i].key,.int .i64 l[i].val,.int .i64 l[i].dot.rep,.int .i64 l[i].dot.seq])=some (.tup [],U'):=es
  simp +contextual (disch:=omega) only[go_sem,e0,e3,e4,c0,hR.len,A3 h1 hi,A3 h2 hj,es]
  exact H'
 ·rintro env U e4 c0 ⟨e0,e3,H⟩
  rw[Md] at H
  simp +contextual (disch:=omega) only[go_sem,e0,e3,e4,c0,hR.len]
  exact⟨_,rfl,H⟩
def Tg:Fn1:=⟨14,[.c 2 true 3],(rg [oX 1 0,o 2 (.new [s0,z0,z0])] (rg [o 3 (.new [s0,z0,z0])] (rg [oF 4 0 1,oL 5 4,oF 6 0 3,oS 1 6 5] (rg [oF 7 1 1,oL 8 7,oF 9 1 3,oS 1 9 8] (rg [oF 10 2 1,oL 11 10,oF 12 2 3,oS 1 12 11] (rg [oW 13 3 3,oS 3 2 13] .ret))))))⟩
theorem A4x:A4 Tryz.prog 181=some Tg:=by kernel_rfl
theorem A2m (N:St) (x:Tally):Ret Tryz.prog 181 [.agg [.str x.obj,.int .i64 x.rep,.int .i64 x.sum]] N (.agg [.str x.obj,.int .i64 x.rep,.int .i64 x.sum]) N:=by
 refine Ab A4x (Z0z rfl) (by simp[vLt,cLt,sLt]) ?_
 simp +contextual (disch:=omega) only[go_sem,Tg]
def Qh:Fn1:=⟨23,[.t 2],(rg [o 2 (.mov (.k .nilS))] (rg [oM 5 0,oN 6 5,o 7 (.mks 3 32 [s0,z0,z0] (.t 6) (.t 6)),oM 3 7] (.seq (rg [oV 4 (ki 0)] (oH 0 (.seq (rg [oM 8 4,oM 9 0,oN 10 9,oB 11 .lss 8 10] (oJ 11 0)) (.seq (.blk 1 (.reg [oM 14 3,oM 15 4,oM 16 0,oM 17 4,oI 18 3 16 17,oW 19 3 18,oC 20 181 19,oI 21 3 14 15,oS 3 21 20])) (.reg [oM 12 4,oZ 13 12 1,oM 4 13]))))) (rg [oM 22 3,oM 2 22] .ret))))⟩
theorem A2n:A4 Tryz.prog 78=some Qh:=by kernel_rfl
theorem Lg (N:St) (v:GV) (l:List Tally) (hR:RS Dz.kd N v l) (hl:l.length<=1099511627776):∃ r U,Ret Tryz.prog 78 [v] N r U/\Hp N U [ow Dz.kd r l]:=by
 refine A4c (rs:=fun r=>[ow Dz.kd r l]) A2n (Z0z rfl) ?_
 have hmk:∀ ze,mksG 3 32 ze N (some l.length) (some l.length)=some (.sl N.length 0 l.length,N++[some (.row 3 (reps l.length ze))]):=fun ze=>A4a (by omega)
 simp +contextual (disch:=omega) only[go_sem,Qh,hR.len,hmk]
 have H0:=((Hp.refl N).new 3 (reps l.length (Dz.enc ⟨⟨#[]⟩,0,0⟩))).toRow 0 (p:=Dz) rfl (Zae l.length ⟨⟨#[]⟩,0,0⟩) rfl (Mb _ _ _) l.length (by simp)
 refine Bc l.length 4 (fun i env U=>env 0=v/\env 3= .sl N.length 0 l.length/\Hp N U [ow Dz.kd (.sl N.length 0 l.length) (l.take i++Zae (l.length - i) ⟨⟨#[]⟩,0,0⟩)]) rfl ⟨rfl,rfl,by rw[Zbb,Za0,Zbn];exact H0⟩ ?_ ?_
 ·rintro i env U hi e4 c0 ⟨e0,e3,H⟩
  have h1:=hR.pre H.sub
  have h2:=H.sl 0 rfl
  have hj:=Mc (z:=(⟨⟨#[]⟩,0,0⟩:Tally)) hi
  simp +contextual (disch:=omega) only[go_sem,e0,e3,e4,c0,hR.len,Aa h1 hi]
  refine A6 (A2m U l[i]) ?_
  obtain⟨U',es,H'⟩:=H.stw 0 rfl hj 3 (.agg [.str l[i].obj,.int .i64 l[i].rep,.int .i64 l[i].sum]) l[i] rfl rfl (by decide)
  rw[Jh hi] at H'
  have es:stG 3 U (atz 3 (.sl N.length 0 l.length) i) (.agg [.str l[i].obj,.int .i64 l[i].rep,.int .i64 l[i].sum])=some (.tup [],U'):=es
  simp +contextual (disch:=omega) only[go_sem,e0,e3,e4,c0,hR.len,Aa h1 hi,Aa h2 hj,es]
  exact H'
 ·rintro env U e4 c0 ⟨e0,e3,H⟩
  rw[Md] at H
  simp +contextual (disch:=omega) only[go_sem,e0,e3,e4,c0,hR.len]
  exact⟨_,rfl,H⟩
def Ti:Fn1:=⟨21,[.c 2 true 4],(rg [oX 1 0,o 2 (.new [.nilS,.nilS,.nilS,.nilS])] (rg [o 3 (.new [.nilS,.nilS,.nilS,.nilS])] (rg [oF 4 0 1,oL 5 4,oC 6 77 5,oF 7 0 3,oS 1 7 6] (rg [oF 8 1 1,oL 9 8,oC 10 78 9,oF 11 1 3,oS 1 11 10] (rg [oF 12 2 1,oL 13 12,oC 14 79 13,oF 15 2 3,oS 1 15 14] (rg [oF 16 3 1,oL 17 16,oC 18 80 17,oF 19 3 3,oS 1 19 18] (rg [oW 20 4 3,oS 4 2 20] .ret)))))))⟩
theorem A4y:A4 Tryz.prog 17=some Ti:=by kernel_rfl
theorem Ec (N:St) (cs:List GV) (x:State) (hR:A8.R N x cs) (hl:A7 x<=1099511627776):∃ r U,Ret Tryz.prog 17 [.agg cs] N r U/\N <+: U/\∃ ds,r= .agg ds/\Hp N U [own A8 ds x]:=by
 have hlen:=A8.len hR
 have hlen:cs.length=4:=hlen
 obtain⟨v0,v1,v2,v3,rfl,q0,q1,q2,q3⟩:=hR
 unfold A7 at hl
 refine Sb A4y (Z0z rfl) ?_
 simp +contextual (disch:=omega) only[go_sem,Ti,Zaa]
 have H:=(((Hp.refl N).new 1 (v0::v1::v2::v3::[])).new 1 [GV.nilS,GV.nilS,GV.nilS,GV.nilS]).new 1 [GV.nilS,GV.nilS,GV.nilS,GV.nilS]
 obtain⟨r0,U0,R0,K0⟩:=Fl _ v0 x.know (q0.pre H.sub) (by omega)
 refine F6 R0 K0 ?_
 have e0:=(K0.sl 0 rfl).cell
 have H:=H.add K0
 try simp only[go_sem] at H
 try simp +contextual (disch:=omega) only[go_sem,Zaa,A2 (H.pt 3 rfl),A2 (H.pt 1 rfl)]
 obtain⟨_,es,H,_⟩:=H.st 1 rfl 1 0 (r0) (by rw[e0];rfl) (by decide) (Z0z rfl)
 try simp only[go_sem,Zak,Zao,e0] at H
 try simp +contextual (disch:=omega) only[go_sem,Zaa,es,A2 (H.pt 3 rfl),A2 (H.pt 1 rfl)]
 obtain⟨r1,U1,R1,K1⟩:=Lg _ v1 x.tallies (q1.pre H.sub) (by omega)
 refine F6 R1 K1 ?_
 have e1:=(K1.sl 0 rfl).cell
 have H:=H.add K1
 try simp only[go_sem] at H
 try simp +contextual (disch:=omega) only[go_sem,Zaa,A2 (H.pt 4 rfl),A2 (H.pt 2 rfl)]
 obtain⟨_,es,H,_⟩:=H.st 2 rfl 1 1 (r1) (by rw[e1];rfl) (by decide) (Z0z rfl)
 try simp only[go_sem,Zak,Zao,e1] at H
 try simp +contextual (disch:=omega) only[go_sem,Zaa,es,A2 (H.pt 4 rfl),A2 (H.pt 2 rfl)]
 obtain⟨r2,U2,R2,K2⟩:=Mk _ v2 x.lives (q2.pre H.sub) (by omega)
 refine F6 R2 K2 ?_
 have e2:=(K2.sl 0 rfl).cell
 have H:=H.add K2
 try simp only[go_sem] at H
 try simp +contextual (disch:=omega) only[go_sem,Zaa,A2 (H.pt 5 rfl),A2 (H.pt 3 rfl)]
 obtain⟨_,es,H,_⟩:=H.st 3 rfl 1 2 (r2) (by rw[e2];rfl) (by decide) (Z0z rfl)
 try simp only[go_sem,Zak,Zao,e2] at H
 try simp +contextual (disch:=omega) only[go_sem,Zaa,es,A2 (H.pt 5 rfl),A2 (H.pt 3 rfl)]
 obtain⟨r3,U3,R3,K3⟩:=Mj _ v3 x.cells (q3.pre H.sub) (by omega)
 refine F6 R3 K3 ?_
 have e3:=(K3.sl 0 rfl).cell
 have H:=H.add K3
 try simp only[go_sem] at H
 try simp +contextual (disch:=omega) only[go_sem,Zaa,A2 (H.pt 6 rfl),A2 (H.pt 4 rfl)]
 obtain⟨_,es,H,_⟩:=H.st 4 rfl 1 3 (r3) (by rw[e3];rfl) (by decide) (Z0z rfl)
 try simp only[go_sem,Zak,Zao,e3] at H
 try simp +contextual (disch:=omega) only[go_sem,Zaa,es,A2 (H.pt 6 rfl),A2 (H.pt 4 rfl)]
 obtain⟨_,es,H,_⟩:=H.st 5 rfl 4 0 (.agg (r0::r1::r2::r3::[])) (rfl) (by decide) (Z0z rfl)
 try simp only[go_sem,Zak,Zao] at H
 try simp +contextual (disch:=omega) only[go_sem,Zaa,es,A2 (H.pt 5 rfl)]
 have h0:=H.sub
 have H:=(((H.pick 1 rfl).pick 2 rfl).pick 3 rfl)
 try simp only[Za7,Zbk] at H
 exact⟨_,rfl,h0,_,rfl,H.ownState.one⟩
section
open Go Go.RowKit Go.Shelf
def Tj:Go.Shelf.Ren:=⟨fun|156=>104|165=>202|166=>203|169=>204|240=>254|241=>255|276=>277|277=>278|n=>n,fun|31=>156|9=>9|3=>3|4=>4|0=>0|20=>20|72=>248|76=>252|70=>246|37=>47|75=>251|127=>294|164=>318|5=>5|80=>165|n=>n,fun|n=>n⟩
theorem A8f:Go.Proofs.Lays.n156 Tryz.prog Tj:={
 mixed:=by kernel_rfl
 f156:=Tryz.func104.trans (congrArg some (by kernel_rfl))
 f165:=Tryz.func202.trans (congrArg some (by kernel_rfl))
 f166:=Tryz.func203.trans (congrArg some (by kernel_rfl))
 f169:=Tryz.func204.trans (congrArg some (by kernel_rfl))
 f240:=Tryz.func254.trans (congrArg some (by kernel_rfl))
 f241:=Tryz.func255.trans (congrArg some (by kernel_rfl))
 f276:=Tryz.func277.trans (congrArg some (by kernel_rfl))
 f277:=Tryz.func278.trans (congrArg some (by kernel_rfl))
 t0:=Tryz.underlying0
 a0:=Tryz.isAgg0
 z0:=Tryz.sizeOf0
 v0:=Tryz.zeroValue0
 t3:=Tryz.underlying3
 a3:=Tryz.isAgg3
 z3:=Tryz.sizeOf3
 v3:=Tryz.zeroValue3
 t4:=Tryz.underlying4
 a4:=Tryz.isAgg4
 z4:=Tryz.sizeOf4
 v4:=Tryz.zeroValue4
 t9:=Tryz.underlying9
 a9:=Tryz.isAgg9
 z9:=Tryz.sizeOf9
 v9:=Tryz.zeroValue9
 t20:=Tryz.underlying20
 a20:=Tryz.isAgg20
 z20:=Tryz.sizeOf20
 v20:=Tryz.zeroValue20
 t31:=Tryz.underlying156
 a31:=Tryz.isAgg156
 z31:=Tryz.sizeOf156
 v31:=Tryz.zeroValue156
 t37:=Tryz.underlying47
 a37:=Tryz.isAgg47
 z37:=Tryz.sizeOf47
 v37:=Tryz.zeroValue47
 t70:=Tryz.underlying246
 a70:=Tryz.isAgg246
 z70:=Tryz.sizeOf246
 v70:=Tryz.zeroValue246
 t72:=Tryz.underlying248
 a72:=Tryz.isAgg248
 z72:=Tryz.sizeOf248
 v72:=Tryz.zeroValue248
 t75:=Tryz.underlying251
 a75:=Tryz.isAgg251
 z75:=Tryz.sizeOf251
 v75:=Tryz.zeroValue251
 t76:=Tryz.underlying252
 a76:=Tryz.isAgg252
 z76:=Tryz.sizeOf252
 v76:=Tryz.zeroValue252
 t127:=Tryz.underlying294
 a127:=Tryz.isAgg294
 z127:=Tryz.sizeOf294
 v127:=Tryz.zeroValue294
 t164:=Tryz.underlying318
 a164:=Tryz.isAgg318
 z164:=Tryz.sizeOf318
 v164:=Tryz.zeroValue318}
def A4z:Go.Shelf.Ren:=⟨fun|171=>249|243=>273|246=>308|283=>321|284=>322|285=>323|286=>324|129=>289|317=>335|318=>336|319=>337|320=>338|337=>342|338=>343|n=>n,fun|3=>3|9=>9|2=>2|4=>4|171=>357|0=>0|53=>332|37=>47|5=>5|173=>359|212=>372|51=>330|20=>20|213=>373|46=>293|232=>377|233=>378|n=>n,fun|17=>1|18=>2|19=>3|n=>n⟩
theorem laysM171:Go.Proofs.LaysM.n171 Tryz.prog A4z:={
 mixed:=by kernel_rfl
 f129:=Tryz.func289.trans (congrArg some (by kernel_rfl))
 f171:=Tryz.func249.trans (congrArg some (by kernel_rfl))
 f243:=Tryz.func273.trans (congrArg some (by kernel_rfl))
 f246:=Tryz.func308.trans (congrArg some (by kernel_rfl))
 f283:=Tryz.func321.trans (congrArg some (by kernel_rfl))
 f284:=Tryz.func322.trans (congrArg some (by kernel_rfl))
 f285:=Tryz.func323.trans (congrArg some (by kernel_rfl))
 f286:=Tryz.func324.trans (congrArg some (by kernel_rfl))
 f317:=Tryz.func335.trans (congrArg some (by kernel_rfl))
 f318:=Tryz.func336.trans (congrArg some (by kernel_rfl))
 f319:=Tryz.func337.trans (congrArg some (by kernel_rfl))
 f320:=Tryz.func338.trans (congrArg some (by kernel_rfl))
 f337:=Tryz.func342.trans (congrArg some (by kernel_rfl))
 f338:=Tryz.func343.trans (congrArg some (by kernel_rfl))
 t0:=Tryz.underlying0
 a0:=Tryz.isAgg0
 z0:=Tryz.sizeOf0
 v0:=Tryz.zeroValue0
 t2:=Tryz.underlying2
 a2:=Tryz.isAgg2
 z2:=Tryz.sizeOf2
 v2:=Tryz.zeroValue2
 t3:=Tryz.underlying3
 a3:=Tryz.isAgg3
 z3:=Tryz.sizeOf3
 v3:=Tryz.zeroValue3
 t4:=Tryz.underlying4
 a4:=Tryz.isAgg4
 z4:=Tryz.sizeOf4
 v4:=Tryz.zeroValue4
 t5:=Tryz.underlying5
 a5:=Tryz.isAgg5
 z5:=Tryz.sizeOf5
 v5:=Tryz.zeroValue5
 t9:=Tryz.underlying9
 a9:=Tryz.isAgg9
 z9:=Tryz.sizeOf9
 v9:=Tryz.zeroValue9
 t20:=Tryz.underlying20
 a20:=Tryz.isAgg20
 z20:=Tryz.sizeOf20
 v20:=Tryz.zeroValue20
 t37:=Tryz.underlying47
 a37:=Tryz.isAgg47
 z37:=Tryz.sizeOf47
 v37:=Tryz.zeroValue47
 t46:=Tryz.underlying293
 a46:=Tryz.isAgg293
 z46:=Tryz.sizeOf293
 v46:=Tryz.zeroValue293
 t51:=Tryz.underlying330
 a51:=Tryz.isAgg330
 z51:=Tryz.sizeOf330
 v51:=Tryz.zeroValue330
 t53:=Tryz.underlying332
 a53:=Tryz.isAgg332
 z53:=Tryz.sizeOf332
 v53:=Tryz.zeroValue332
 t171:=Tryz.underlying357
 a171:=Tryz.isAgg357
 z171:=Tryz.sizeOf357
 v171:=Tryz.zeroValue357
 t173:=Tryz.underlying359
 a173:=Tryz.isAgg359
 z173:=Tryz.sizeOf359
 v173:=Tryz.zeroValue359
 t212:=Tryz.underlying372
 a212:=Tryz.isAgg372
 z212:=Tryz.sizeOf372
 v212:=Tryz.zeroValue372
 t213:=Tryz.underlying373
 a213:=Tryz.isAgg373
 z213:=Tryz.sizeOf373
 t232:=Tryz.underlying377
 a232:=Tryz.isAgg377
 z232:=Tryz.sizeOf377
 v232:=Tryz.zeroValue377
 t233:=Tryz.underlying378
 a233:=Tryz.isAgg378
 z233:=Tryz.sizeOf378
 v233:=Tryz.zeroValue378
 g17:=by kernel_rfl
 g18:=by kernel_rfl
 g19:=by kernel_rfl
 i0:=by kernel_rfl
 i2:=by kernel_rfl
 i3:=by kernel_rfl
 i4:=by kernel_rfl
 i5:=by kernel_rfl
 i9:=by kernel_rfl
 i20:=by kernel_rfl
 i37:=by kernel_rfl
 i46:=by kernel_rfl
 i51:=by kernel_rfl
 i53:=by kernel_rfl
 i171:=by kernel_rfl
 i173:=by kernel_rfl
 i212:=by kernel_rfl
 i232:=by kernel_rfl
 i233:=by kernel_rfl
 m17:=by kernel_rfl
 m18:=by kernel_rfl
 m19:=by kernel_rfl}
theorem F7:Builder.Extra Tryz.prog Tj:={
 sizeBuilder:=by kernel_rfl
 liesBuilder:=by kernel_rfl
 t5:=Tryz.underlying5
 a5:=Tryz.isAgg5
 z5:=Tryz.sizeOf5
 v5:=Tryz.zeroValue5
 infoByte:=by kernel_rfl
 cellsByte:=by kernel_rfl
 sizeByte:=by kernel_rfl
 neB5:=by decide}
end
theorem Hp.moveTo {N U:St} {r r':Thg} {rs:List Thg} (H:Hp N U (r::rs)) (k:Nat) (hk:rs[k]? =some r'):Hp N U (rs.set k r):=by
 have hkl:=(Zan.1 hk).1
 have h1:=(H.pick (k+1) hk).drop1
 exact Hp.unpick h1 hkl
theorem Ah1 {P:Program} {a:Cd} {Q:Ex->Env->St->Prop} {env:Env} {N:St} (n ri j0:Nat) (I:Nat->Env->St->Prop) (X Z:Env->St->Prop) (hr:env ri=gi 0) (h0:I 0 env N)
  (hs:∀(J:Nat->Env->St->Prop) (Yq Wq:Env->St->Prop),(∀ i env N,I i env N->J i env N)->(∀ env N,X env N->Yq env N)->(∀ env N,Z env N->Wq env N)->∀ i env N,i<n->env ri=gi i->decide ((i:Int)<n)=true->I i env N->vc P a (fun e env' N'=>match e with| .nxt=>env' ri=gi ((i:Int)+1)/\J (i+1) env' N'| .ext j=>j=j0/\Yq env' N'| .ret=>Wq env' N') env N)
  (he:∀(Yq:Env->St->Prop),(∀ env N,X env N->Yq env N)->∀ env N,env ri=gi n->decide ((n:Int)<n)=false->I n env N->vc P a (fun e env' N'=>match e with| .nxt=>False| .ext j=>j=j0/\Yq env' N'| .ret=>False) env N)
  (hx:∀ env N,X env N->Q (.ext j0) env N) (hz:∀ env N,Z env N->Q .ret env N):vc P (.lop a) Q env N:=by
 refine Bc n ri I hr h0 (fun i env N h1 h2 h3 h4=>Ao (hs I X Z (fun _ _ _ h=>h) (fun _ _ h=>h) (fun _ _ h=>h) i env N h1 h2 h3 h4) fun e env' N' hq=> ?_) (fun env N h1 h2 h3=>Ao (he X (fun _ _ h=>h) env N h1 h2 h3) fun e env' N' hq=> ?_)
 ·cases e with
  |nxt=>exact hq
  |ret=>exact hz _ _ hq
  |ext j=>obtain⟨rfl,hq⟩:=hq;exact hx _ _ hq
 ·cases e with
  |nxt=>exact hq
  |ret=>exact hq.elim
  |ext j=>obtain⟨rfl,hq⟩:=hq;exact hx _ _ hq
inductive Item where
 |box (z n:Nat) (cs:List GV)
 |th (r:Thg)
def Item.t:Item->Thg
 | .box z n cs=>pt z n cs
 | .th r=>r
def Hx (N U:St) (h:List Item):Prop:=Hp N U (h.map Item.t)
def look:List Item->Nat->Option (List GV)
 |[],_=>none
 | .box _ m cs::h,n=>if m=n then some cs else look h n
 | .th _::h,n=>look h n
def upd:List Item->Nat->List GV->List Item
 |[],_,_=>[]
 | .box z m cs::h,n,ds=>if m=n then .box z m ds::h else .box z m cs::upd h n ds
 | .th r::h,n,ds=>.th r::upd h n ds
def frX (N:St):List Item->Nat->Prop
 |[],n=>N.length<=n
 | .box _ m _::h,n=>m<n/\frX N h n
 | .th _::h,n=>frX N h n
abbrev Kx:=GV->List Item->St->Prop
def Hj (v:Option GV) (k:Kx) (h:List Item) (U:St):Prop:=match v with
 |some v=>k v h U
 |none=>False
def orX (a b:Option GV):Option GV:=match a with
 |some x=>some x
 |none=>b
def Abo:List Item->Nat->Option (Nat×List GV)
 |[],_=>none
 | .box z m cs::h,n=>if m=n then some (z,cs) else Abo h n
 | .th _::h,n=>Abo h n
def blcX (h:List Item) (cs:List GV):GV->Prop
 | .ptr b 0=>Abo h b=some (1,cs)
 |_=>False
def ldB (c:Option (List GV)) (g:Bool) (n off:Nat) (e:Option GV):Option GV:=match c with
 |some cs=>(seg cs off n).bind (mkv g)
 |none=>e
def ldY (h:List Item) (U:St) (g:Bool) (n:Nat):GV->Option GV
 | .ptr b off=>ldB (look h b) g n off (ldG g n U (.ptr b off))
 |a=>ldG g n U a
def ldX (N:St) (h:List Item) (U:St) (g:Bool) (n:Nat) (a:GV):Option GV:=orX (ldG g n N a) (ldY h U g n a)
def J1 (N:St) (h:List Item) (z:Nat) (cs:List GV) (v:Nat->GV) (k:Kx):Prop:=∀ n,frX N h n->∀ U',Hx N U' (.box z n cs::h)->k (v n) (.box z n cs::h) U'
def genX (N:St) (D:Bool) (U:St) (e:Option (GV×St)) (k:Kx):Prop:=∃ v U' h',e=some (v,U')/\(D=true->U <+: U')/\Hx N U' h'/\k v h' U'
def stB (N:St) (D:Bool) (h:List Item) (U:St) (n:Nat) (k:Kx) (b off:Nat) (x:GV) (c:Option (List GV)):Prop:=match c with
 |some cs=>(D=false/\off+n<=cs.length/\0<n/\x.cells.length=n)/\∀ U',Hx N U' (upd h b (Al cs off x.cells))->k (.tup []) (upd h b (Al cs off x.cells)) U'
 |none=>genX N D U (stG n U (.ptr b off) x) k
def stX (N:St) (D:Bool) (h:List Item) (U:St) (n:Nat) (k:Kx) (a x:GV):Prop:=match a with
 | .ptr b off=>stB N D h U n k b off x (look h b)
 |a=>genX N D U (stG n U a x) k
def fnX (P:Program) (N:St) (D:Bool) (U:St) (args:List GV) (k:Kx):GV->Prop
 | .fn f caps=>∃ v U' h',Ret P f (args++caps.map fun c=>.ptr c.1 c.2) U v U'/\(D=true->U <+: U')/\Hx N U' h'/\k v h' U'
 |_=>False
def litX (N:St) (h:List Item) (z len:Nat) (k:Kx):Option (List GV)->Prop
 |some cs=>J1 N h z cs (fun n=>.sl n 0 len) k
 |none=>False
def A50 (P:Program) (N:St) (D:Bool) (U:St) (f:Nat) (args:List GV) (k:Kx):Prop:=∃ v U' h',Ret P f args U v U'/\(D=true->U <+: U')/\Hx N U' h'/\k v h' U'
def mksX (N:St) (h:List Item) (z b:Nat) (ze:List GV) (k:Kx):Option Nat->Option Nat->Prop
 |some n,some c=>n=c/\n*b<=140737488355328/\J1 N h z (reps n ze) (fun g=>.sl g 0 n) k
 |_,_=>False
def sxI (P:Program) (D:Bool) (N:St) (env:Env) (h:List Item) (U:St) (k:Kx):Ins->Prop
 | .new cs=>J1 N h 1 cs (fun n=>.ptr n 0) k
 | .box x=>Ew (x.ev env)=true/\J1 N h 1 (x.ev env).cells (fun n=>.ptr n 0) k
 | .lit z len zero parts=>litX N h z len k (Ht zero (parts.map fun p=>(p.1,p.2.1,p.2.2.ev env)))
 | .mks z b ze n c=>mksX N h z b ze k (B9 (some (n.ev env))) (B9 (some (c.ev env)))
 | .ld g n a=>Hj (ldX N h U g n (a.ev env)) k h U
 | .st n a x=>stX N D h U n k (a.ev env) (x.ev env)
 | .call f xs=>A50 P N D U f (xs.map (·.ev env)) k
 | .callv x xs=>fnX P N D U (xs.map (·.ev env)) k (x.ev env)
 | .chk d (.ld g n (.t t))=>ldX N h U g n (env t)=some (env d)/\k (.tup []) h U
 | .chk _ _=>False
 | .blc t cs=>blcX h cs (env t)/\k (.tup []) h U
 | .mlk ks z ok m k'=>Hj (mlkG U ks z ok (m.ev env) (k'.ev env)) k h U
 | .bts x=>Hj ((elems U 1 (x.ev env)).bind fun r=>(F5 r.2).map fun bs=>.str ⟨bs.toArray⟩) k h U
 | .cut z x lo hi=>Hj (if zOk U z (x.ev env) then cutG z (x.ev env) (lo.map (·.ev env)) (hi.map (·.ev env)) else none) k h U
 | .app z b ze s x=>genX N D U (appV z b U (s.ev env) (x.ev env)) k
 | .clr z ze x=>genX N D U (clrG z ze U (x.ev env)) k
 | .mkm=>genX N D U (some (.mp U.length,U++[some (.map [])])) k
 | .mup ks m k' v=>genX N D U (mupG U ks (m.ev env) (k'.ev env) (v.ev env)) k
 |i=>Hj ((exec env [] i).map (·.1)) k h U
def gdX (c:Option (Option Bool×Bool)) (A B:Prop):Prop:=match c with
 |none=>A
 |some (some c,b)=>(c=b->A)/\(c= !b->B)
 |some (none,_)=>B
def sx (P:Program) (D:Bool) (N:St):List Op1->(Env->List Item->St->Prop)->Env->List Item->St->Prop
 |[],K,env,h,U=>K env h U
 |o::r,K,env,h,U=>gdX (o.g.map fun g=>((env g.1).bit,g.2)) (sxI P D N env h U (fun v h' U'=>sx P D N r K (upo env o.d v) h' U') o.i) (sx P D N r K (upo env o.d (.tup [])) h U)
def ifX (c:Option Bool) (A B:Prop):Prop:=match c with
 |some c=>(c=true->A)/\(c=false->B)
 |none=>False
abbrev Qx:=Ex->Env->List Item->St->Prop
def sxc (P:Program) (N:St):Cd->Qx->Env->List Item->St->Prop
 | .skip,Q=>Q .nxt
 | .reg ops,Q=>sx P false N ops (Q .nxt)
 | .drw a1 bs,Q=>sx P true N a1 (sx P false N bs (Q .nxt))
 | .seq a b,Q=>sxc P N a fun e=>match e with
  | .nxt=>sxc P N b Q
  |e=>Q e
 | .cnd c a b,Q=>fun env h U=>ifX (c.ev env).bit (sxc P N a Q env h U) (sxc P N b Q env h U)
 | .blk id a,Q=>sxc P N a fun e=>match e with
  | .ext j=>if j=id then Q .nxt else Q (.ext j)
  |e=>Q e
 | .lop a,Q=>fun env h U=>∃(I:Nat->Env->List Item->St->Prop) (n:Nat) (h0:List Item),Hx N U h0/\I n env h0 U/\∀ k env h U,Hx N U h->I k env h U->sxc P N a (fun e env' h' U'=>match e with
  | .nxt=>∃ k' h1,k'<k/\Hx N U' h1/\I k' env' h1 U'
  |e=>∃ h1,Hx N U' h1/\Q e env' h1 U') env h U
 | .ext id,Q=>Q (.ext id)
 | .ret,Q=>Q .ret
section sound
variable {P:Program} {N:St} {D:Bool}
theorem Hx.hp {U:St} {h:List Item} (H:Hx N U h):Hp N U (h.map Item.t):=H
theorem Hx.sub {U:St} {h:List Item} (H:Hx N U h):N <+: U:=H.hp.sub
theorem Hx.refl (N:St):Hx N N []:=Hp.refl N
theorem Ph:∀ {h:List Item} {n:Nat} {cs:List GV},look h n=some cs->∃ z,∃ i:Nat,(h.map Item.t)[i]? =some (pt z n cs)/\∀ ds,(upd h n ds).map Item.t=(h.map Item.t).set i (pt z n ds)
 |[],_,_,e=>by cases e
 | .box z m cs'::h,n,cs,e=>by
  simp only[look] at e
  by_cases hm:m=n
  ·rw[if_pos hm] at e
   injection e with e;subst e hm
   exact⟨z,0,rfl,fun ds=>by simp[upd,Item.t]⟩
  ·rw[if_neg hm] at e
   obtain⟨z',i,h1,h2⟩:=Ph e
   exact⟨z',i+1,by simpa using h1,fun ds=>by simp[upd,hm,h2 ds]⟩
 | .th r::h,n,cs,e=>by
  obtain⟨z',i,h1,h2⟩:=Ph (h:=h) (by simpa [look] using e)
  exact⟨z',i+1,by simpa using h1,fun ds=>by simp[upd,h2 ds]⟩
theorem A2o:∀ {h:List Item} {n z:Nat} {cs:List GV},Abo h n=some (z,cs)->∃ i:Nat,(h.map Item.t)[i]? =some (pt z n cs)
 |[],_,_,_,e=>by cases e
 | .box z' m cs'::h,n,z,cs,e=>by
  simp only[Abo] at e
  by_cases hm:m=n
  ·rw[if_pos hm] at e
   simp only[Zbz.injEq,Prod.mk.injEq] at e
   obtain⟨rfl,rfl⟩:=e
   subst hm
   exact⟨0,rfl⟩
  ·rw[if_neg hm] at e
   obtain⟨i,h1⟩:=A2o e
   exact⟨i+1,by simpa using h1⟩
 | .th r::h,n,z,cs,e=>by
  obtain⟨i,h1⟩:=A2o (h:=h) (by simpa [Abo] using e)
  exact⟨i+1,by simpa using h1⟩
theorem Adn {U:St} {g:Bool} {n:Nat} {a x:GV} (h:ldG g n N a=some x) (hp:N <+: U):ldG g n U a=some x:=by
 cases a with
 |ptr b off=>
  simp only[ldG] at h ⊢
  obtain⟨cs,h1,h2⟩:=Z1z.1 h
  rw[Aq hp h1];exact h2
 |_=>cases h
theorem Tk {h:List Item} {U:St} (H:Hx N U h) {g:Bool} {n:Nat} {a x:GV} (e:ldX N h U g n a=some x):ldG g n U a=some x:=by
 unfold ldX orX ldY at e
 split at e
 ·rename_i y hy
  injection e with e;subst e
  exact Adn hy H.sub
 ·cases a with
  |ptr b off=>
   simp only at e
   cases hl:look h b with
   |none=>rw[hl] at e;exact e
   |some cs=>
    rw[hl] at e
    obtain⟨z,i,h1,_⟩:=Ph hl
    have:=H.hp.pt i h1
    simp only[ldG,this,Zaf]
    exact e
  |_=>exact e
theorem Ado {n:Nat}:∀ {h:List Item},N.length<=n->(∀ z m cs,Item.box z m cs∈h->m<n)->frX N h n
 |[],hl,_=>hl
 | .box z m cs::h,hl,hb=>⟨hb z m cs Zah,Ado (h:=h) hl fun z m cs hm=>hb z m cs (Zav _ hm)⟩
 | .th r::h',hl,hb=>Ado (h:=h') hl fun z m cs hm=>hb z m cs (Zav _ hm)
theorem box_lt {h:List Item} {U:St} (H:Hx N U h) {z m:Nat} {cs:List GV} (hm:Item.box z m cs∈h):m<U.length:=by
 obtain⟨i,hi,e⟩:=Zay hm
 have h1:(h.map Item.t)[i]? =some (pt z m cs):=by
  rw[Za1,Zaw hi,e];rfl
 obtain⟨a,ha,_,hb⟩:=H.hp.see h1
 exact(hb m (by rw[ha.1];exact Zah)).2
theorem Im {h:List Item} {U:St} {z:Nat} {cs:List GV} {v:Nat->GV} {k:Kx} (H:Hx N U h) (e:J1 N h z cs v k):∃ h',Hx N (U++[some (.row z cs)]) h'/\k (v U.length) h' (U++[some (.row z cs)]):=
 ⟨.box z U.length cs::h,H.hp.new z cs,e U.length (Ado (h:=h) H.sub.length_le (fun _ _ _ hm=>box_lt H hm)) _ (H.hp.new z cs)⟩
theorem Ji {U:St} {e:Option (GV×St)} {k:Kx} (h:genX N D U e k):∃ v U',e=some (v,U')/\(D=true->U <+: U')/\∃ h',Hx N U' h'/\k v h' U':=by
 obtain⟨v,U',h',h1,h2,h3,h4⟩:=h
 exact⟨v,U',h1,h2,h',h3,h4⟩
theorem Adp {env:Env} {h:List Item} {U:St} {k:Kx} (H:Hx N U h):∀ {i:Ins},sxI P D N env h U k i->∃ v U',Step P env U i v U'/\(D=true->U <+: U')/\∃ h',Hx N U' h'/\k v h' U':=by
 intro i e
 have same:∀ {v:Option GV},Hj v k h U->(∀ v',v=some v'->Step P env U i v' U)->∃ v U',Step P env U i v U'/\(D=true->U <+: U')/\∃ h',Hx N U' h'/\k v h' U':=by
  intro v hb hs
  cases v with
  |none=>exact hb.elim
  |some v=>exact⟨v,U,hs v rfl,fun _=>Zab _,h,H,hb⟩
 have pure:Abc i=true->Hj ((exec env [] i).map (·.1)) k h U->i.isCall=false->(∀ v',exec env U i=some (v',U)->Step P env U i v' U)->∃ v U',Step P env U i v U'/\(D=true->U <+: U')/\∃ h',Hx N U' h'/\k v h' U':=by
  intro hp hb _ hs
  refine same hb fun v' hv=>hs v' ?_
  obtain⟨⟨w,s⟩,hw,rfl⟩:=Z2z.1 hv
  exact(A45 hp hw).2 U
 cases i with
 |new cs=>
  obtain⟨h',h1,h2⟩:=Im H e
  exact⟨_,_,rfl,fun _=>Zaz _ _,h',h1,h2⟩
 |box x=>
  obtain⟨h0,e⟩:=e
  obtain⟨h',h1,h2⟩:=Im H e
  exact⟨_,_,by show boxG U _=_;unfold boxG;rw[if_pos h0],fun _=>Zaz _ _,h',h1,h2⟩
 |lit z len zero parts=>
  simp only[sxI] at e
  unfold litX at e
  split at e
  ·rename_i cs hc
   obtain⟨h',h1,h2⟩:=Im H e
   exact⟨_,_,by show exec env U _=_;simp only[exec,hc];rfl,fun _=>Zaz _ _,h',h1,h2⟩
  ·exact e.elim
 |mks z b ze n c=>
  simp only[sxI] at e
  unfold mksX at e
  split at e
  ·rename_i n' c' hn hc
   obtain⟨h0,h3,e⟩:=e
   obtain⟨h',h1,h2⟩:=Im H e
   exact⟨_,_,by show exec env U _=_;simp only[exec,hn,hc,Zaf,if_pos (And.intro h0 h3)],fun _=>Zaz _ _,h',h1,h2⟩
  ·exact e.elim
 |ld g n a=>
  refine same e fun v' hv=> ?_
  have:=Tk H hv
  show exec env U _=_
  simp only[exec]
  revert this
  cases a.ev env with
  |ptr b off=>
   intro h1
   simp only[ldG] at h1
   simp only[ptrG,Zaf]
   obtain⟨cs,h2,h3⟩:=Z1z.1 h1
   obtain⟨r,h4,h5⟩:=Z1z.1 h3
   simp only[h2,Zaf,h4,h5,Zax]
  |_=>intro h1;cases h1
 |st n a x=>
  simp only[sxI] at e
  have hst:∀ {y:GV} {U'},stG n U (a.ev env) (x.ev env)=some (y,U')->Step P env U (.st n a x) y U':=by
   intro y U' he
   show exec env U _=_
   simp only[exec]
   revert he
   cases a.ev env<;>intro he<;>first|cases he;done|exact he
  have gen:genX N D U (stG n U (a.ev env) (x.ev env)) k->∃ v U',Step P env U (.st n a x) v U'/\(D=true->U <+: U')/\∃ h',Hx N U' h'/\k v h' U':=fun hg=>by
   obtain⟨v,U',h1,h2⟩:=Ji hg
   exact⟨v,U',hst h1,h2⟩
  unfold stX at e
  split at e
  ·rename_i b off hb
   unfold stB at e
   split at e
   ·rename_i cs hl
    obtain⟨⟨h0,h1,h2,h3⟩,h4⟩:=e
    obtain⟨z,i,h5,h6⟩:=Ph hl
    obtain⟨U',s1,s2,_⟩:=H.hp.st i h5 n off (x.ev env) h3 h2 h1
    have s3:Hx N U' (upd h b (Al cs off (x.ev env).cells)):=by unfold Hx;rw[h6];exact s2
    exact⟨_,U',hst (by rw[hb];exact s1),(fun hd=>by rw[hd] at h0;cases h0),_,s3,h4 _ s3⟩
   ·rw[<- hb] at e;exact gen e
  ·exact gen e
 |call f xs=>
  obtain⟨v,U',h',h1,h2,h3,h4⟩:=e
  exact⟨v,U',h1,h2,h',h3,h4⟩
 |callv x xs=>
  simp only[sxI] at e
  unfold fnX at e
  split at e
  ·rename_i f caps hf
   obtain⟨v,U',h',h1,h2,h3,h4⟩:=e
   exact⟨v,U',⟨f,caps,hf,h1⟩,h2,h',h3,h4⟩
  ·exact e.elim
 |chk d x=>
  cases x with
  |ld g n a=>cases a with
   |t t=>
    obtain⟨h1,h2⟩:=e
    refine⟨_,U,⟨rfl,rfl,?_⟩,fun _=>Zab _,h,H,h2⟩
    have h3:=Tk H h1
    simp only[exec,Opd.ev]
    revert h3
    cases env t with
    |ptr b off=>
     intro h1
     simp only[ldG] at h1
     simp only[ptrG,Zaf]
     obtain⟨cs,h2,h3⟩:=Z1z.1 h1
     obtain⟨r,h4,h5⟩:=Z1z.1 h3
     simp only[h2,Zaf,h4,h5,Zax]
    |_=>intro h1;cases h1
   |k v=>exact e.elim
  |_=>exact e.elim
 |blc t cs=>
  obtain⟨h1,h2⟩:=e
  revert h1
  unfold blcX
  split
  ·rename_i b hb
   intro h1
   obtain⟨i,h3⟩:=A2o h1
   obtain⟨a,ha,_⟩:=H.hp.see h3
   exact⟨_,U,⟨rfl,rfl,b,hb,Br.1 ha.2⟩,fun _=>Zab _,h,H,h2⟩
  ·exact fun h1=>h1.elim
 |mlk ks z ok m k'=>exact same e fun v' hv=>by show exec env U _=_;simp only[exec,hv,Zax]
 |bts x=>
  refine same e fun v' hv=> ?_
  show exec env U _=_
  simp only[exec]
  obtain⟨r,h1,h2⟩:=Z1z.1 hv
  obtain⟨bs,h3,rfl⟩:=Z2z.1 h2
  rw[h1,Zaf,h3];rfl
 |cut z x lo hi=>
  refine same e fun v' hv=> ?_
  show exec env U _=_
  simp only[exec]
  split at hv
  ·rename_i hz
   rw[if_pos hz,hv];rfl
  ·cases hv
 |app z b ze s x=>exact Ji e
 |clr z ze x=>exact Ji e
 |mkm=>exact Ji e
 |mup ks m k' v=>exact Ji e
 |mkf f caps=>
  refine same e fun v' hv=> ?_
  show exec env U _=_
  simp only[exec] at hv ⊢
  obtain⟨⟨w,s⟩,hw,rfl⟩:=Z2z.1 hv
  obtain⟨cs,h1,h2⟩:=Z2z.1 hw
  injection h2 with h2 h3;subst h2
  rw[h1];rfl
 |pan=>exact e.elim
 |_=>exact pure rfl e rfl fun _ h=>h
theorem Ml:∀ {os:List Op1} {K:Env->List Item->St->Prop} {env:Env} {h:List Item} {U:St},Hx N U h->sx P D N os K env h U->Ac D P os (fun env' U'=>U.length<=U'.length/\∃ h',Hx N U' h'/\K env' h' U') env U
 |[],K,env,h,U,H,e=>⟨Zar _,h,H,e⟩
 |o::r,K,env,h,U,H,e=>by
  have yes:sxI P D N env h U (fun v h' U'=>sx P D N r K (upo env o.d v) h' U') o.i->∃ v N',Step P env U o.i v N'/\(D=true->U <+: N')/\Ac D P r (fun env' U'=>U.length<=U'.length/\∃ h',Hx N U' h'/\K env' h' U') (upo env o.d v) N':=fun e=>by
   obtain⟨v,U',h1,h2,h',h3,h4⟩:=Adp H e
   have hl:=Rv h1
   exact⟨v,U',h1,h2,Bj (Ml h3 h4) fun _ _ hk=>⟨Zas hl hk.1,hk.2⟩⟩
  have no:sx P D N r K (upo env o.d (.tup [])) h U->Ac D P r (fun env' U'=>U.length<=U'.length/\∃ h',Hx N U' h'/\K env' h' U') (upo env o.d (.tup [])) U:=fun e=>Ml H e
  simp only[Ac]
  simp only[sx] at e
  cases hg:o.g with
  |none=>
   rw[hg] at e
   rw[if_pos (by simp[Ae])]
   exact yes e
  |some q=>
   obtain⟨g,b⟩:=q
   rw[hg] at e
   simp only[Zax] at e
   cases hc:(env g).bit with
   |none=>
    rw[hc] at e
    rw[if_neg (by simp[Ae,hc])]
    exact no e
   |some c=>
    rw[hc] at e
    by_cases hcb:c=b
    ·rw[if_pos (by simp[Ae,hc,hcb])]
     exact yes (e.1 hcb)
    ·rw[if_neg (by simp[Ae,hc,hcb])]
     exact no (e.2 (by cases c<;>cases b<;>simp_all))
theorem A51 {d:Cd}:∀ {Q:Qx} {env:Env} {h:List Item} {U:St},Hx N U h->sxc P N d Q env h U->vc P d (fun e env' U'=>U.length<=U'.length/\∃ h',Hx N U' h'/\Q e env' h' U') env U:=by
 induction d with
 |skip=>intro Q env h U H e;exact⟨Zar _,h,H,e⟩
 |reg ops=>intro Q env h U H e;exact Ml H e
 |drw a1 bs=>
  intro Q env h U H e
  show Ac true P a1 _ env U
  refine Bj (Ml H e) fun env' U' hk=> ?_
  obtain⟨hl,h',H',hk⟩:=hk
  exact Bj (Ml H' hk) fun _ _ hq=>⟨Zas hl hq.1,hq.2⟩
 |seq a b iha ihb=>
  intro Q env h U H e
  show vc P a _ env U
  refine Ao (iha H e) fun e env' U' hk=> ?_
  obtain⟨hl,h',H',hk⟩:=hk
  cases e with
  |nxt=>exact Ao (ihb H' hk) fun _ _ _ hq=>⟨Zas hl hq.1,hq.2⟩
  |ext j=>exact⟨hl,h',H',hk⟩
  |ret=>exact⟨hl,h',H',hk⟩
 |cnd c a b iha ihb=>
  intro Q env h U H e
  simp only[sxc] at e
  unfold ifX at e
  split at e
  ·rename_i t ht
   exact⟨t,ht,fun k=>iha H (e.1 k),fun k=>ihb H (e.2 k)⟩
  ·exact e.elim
 |blk id a ih=>
  intro Q env h U H e
  show vc P a _ env U
  refine Ao (ih H e) fun e env' U' hk=> ?_
  obtain⟨hl,h',H',hk⟩:=hk
  cases e with
  |nxt=>exact⟨hl,h',H',hk⟩
  |ext j=>
   simp only at hk ⊢
   split at hk
   ·rename_i hj;rw[if_pos hj];exact⟨hl,h',H',hk⟩
   ·rename_i hj;rw[if_neg hj];exact⟨hl,h',H',hk⟩
  |ret=>exact⟨hl,h',H',hk⟩
 |lop a ih=>
  intro Q env h U H e
  obtain⟨I,n,h0,H0,hI,hs⟩:=e
  refine Sd (fun k env' U'=>U.length<=U'.length/\∃ h,Hx N U' h/\I k env' h U') n ⟨Zar _,h0,H0,hI⟩ ?_
  rintro k env1 U1 ⟨hl,h1,H1,hI1⟩
  refine Ao (ih H1 (hs k env1 h1 U1 H1 hI1)) fun e env' U' hk=> ?_
  obtain⟨hl2,h',H',hk⟩:=hk
  cases e with
  |nxt=>
   obtain⟨k',h3,h4,h5,h6⟩:=hk
   exact⟨k',h4,Zas hl hl2,h3,h5,h6⟩
  |ext j=>exact⟨Zas hl hl2,hk⟩
  |ret=>exact⟨Zas hl hl2,hk⟩
 |ext id=>intro Q env h U H e;exact⟨Zar _,h,H,e⟩
 |ret=>intro Q env h U H e;exact⟨Zar _,h,H,e⟩
def rsX (N:St) (h:List Item) (U:St) (env:Env):Rs->Option GV
 | .t n=>some (env n)
 | .c a g n=>ldX N h U g n (env a)
def resX (N:St) (h:List Item) (U:St) (env:Env):List Rs->Option GV
 |[r]=>rsX N h U env r
 |rs=>(B6 (rsX N h U env) rs).bind fun vs=>if vs.all Ew then some (.tup vs) else none
theorem A52 {h:List Item} {U:St} (H:Hx N U h) {env:Env} {r:Rs} {v:GV} (e:rsX N h U env r=some v):r.ev env U=some v:=by
 cases r with
 |t n=>exact e
 |c a g n=>rw[rs_c];exact Tk H e
theorem A0c {Y β:Type} {f g:Y->Option β} (h:∀ x y,f x=some y->g x=some y):∀ {l:List Y} {r:List β},B6 f l=some r->B6 g l=some r
 |[],r,e=>e
 |x::l,r,e=>by
  simp only[B6,Z1z,Z2z] at e ⊢
  obtain⟨y,h1,ys,h2,rfl⟩:=e
  exact⟨y,h _ _ h1,ys,A0c h h2,rfl⟩
theorem A0d {h:List Item} {U:St} (H:Hx N U h) {env:Env} {rs:List Rs} {v:GV} (e:resX N h U env rs=some v):resG env U rs=some v:=by
 unfold resX at e
 unfold resG
 split at e
 ·exact A52 H e
 ·rename_i hne
  split
  ·exact absurd rfl (hne _)
  ·obtain⟨vs,h1,h2⟩:=Z1z.1 e
   rw[A0c (fun x y=>A52 H) h1];exact h2
theorem Ri {md:Bool} {f:Nat} {F:Fn1} {args:List GV} {N1:St} {h0:List Item} {Post:GV->St->Prop} (hF:Gg md P f=some F) (hl:args.length<=F.n) (H:Hx N N1 h0)
  (hc:sxc P N F.c (fun e env h U=>Hx N U h->Sa e=true/\∃ r,resX N h U env F.rs=some r/\Post r U) (env0 args) h0 N1):∃ r U,Ret P f args N1 r U/\Post r U:=
 Ap hF hl (Ao (A51 H hc) fun e env U he=>by
  obtain⟨hl,h,H,hq⟩:=he
  obtain⟨ho,r,hr,hp⟩:=hq H
  exact⟨ho,r,A0d H hr,hl,hp⟩)
end sound
def Ah2 (P:Program) (D:Bool) (N:St) (r:List Op1) (K:Env->List Item->St->Prop) (env:Env) (d:Option Nat):Kx:=fun v h' U'=>sx P D N r K (upo env d v) h' U'
def gdS (P:Program) (D:Bool) (N:St) (env:Env) (h:List Item) (U:St) (k:Kx) (i:Ins) (b:Bool) (c:Option Bool):Prop:=match c with
 |some c=>(c=b->sxI P D N env h U k i)/\(c= !b->k (.tup []) h U)
 |none=>k (.tup []) h U
def ifS (P:Program) (N:St) (a b:Cd) (Q:Qx) (env:Env) (h:List Item) (U:St) (c:Option Bool):Prop:=match c with
 |some c=>(c=true->sxc P N a Q env h U)/\(c=false->sxc P N b Q env h U)
 |none=>False
section words
variable {P:Program} {D:Bool} {N U:St} {env:Env} {h:List Item} {r:List Op1} {K:Env->List Item->St->Prop} {k:Kx} {d:Option Nat} {Q:Qx}
@[go_sem] theorem nextX_ap {v:GV}:Ah2 P D N r K env d v h U=sx P D N r K (upo env d v) h U:=(rfl)
@[go_sem] theorem sx_nil:sx P D N [] K env h U=K env h U:=(rfl)
@[go_sem] theorem sx_one {i:Ins}:sx P D N (⟨d,none,i⟩::r) K env h U=sxI P D N env h U (Ah2 P D N r K env d) i:=(rfl)
@[go_sem] theorem sx_grd {g:Nat} {b:Bool} {i:Ins}:sx P D N (⟨d,some (g,b),i⟩::r) K env h U=gdS P D N env h U (Ah2 P D N r K env d) i b (env g).bit:=by
 show gdX (some ((env g).bit,b)) _ _=_
 cases(env g).bit<;>rfl
@[go_sem] theorem gdS_tt {b:Bool} {i:Ins}:gdS P D N env h U k i b (some b)=sxI P D N env h U k i:=by cases b<;>simp[gdS]
@[go_sem] theorem gdS_tf {i:Ins}:gdS P D N env h U k i false (some true)=k (.tup []) h U:=by simp[gdS]
@[go_sem] theorem gdS_ft {i:Ins}:gdS P D N env h U k i true (some false)=k (.tup []) h U:=by simp[gdS]
@[go_sem] theorem gdS_n {b:Bool} {i:Ins}:gdS P D N env h U k i b none=k (.tup []) h U:=(rfl)
@[go_sem] theorem bindX_some {v:GV}:Hj (some v) k h U=k v h U:=(rfl)
@[go_sem] theorem ifS_t {a b:Cd}:ifS P N a b Q env h U (some true)=sxc P N a Q env h U:=by simp[ifS]
@[go_sem] theorem ifS_f {a b:Cd}:ifS P N a b Q env h U (some false)=sxc P N b Q env h U:=by simp[ifS]
theorem Afu {v:Option GV}:(Option.map (·.1) (v.map fun v=>(v,([]:St))))=v:=by cases v<;>rfl
@[go_sem] theorem xi_mov {x:Opd}:sxI P D N env h U k (.mov x)=k (x.ev env) h U:=(rfl)
@[go_sem] theorem xi_pick {c a b:Opd}:sxI P D N env h U k (.pick c a b)=Hj ((c.ev env).bit.map fun t=>if t then a.ev env else b.ev env) k h U:=by
 simp only[sxI,exec]
 cases(c.ev env).bit<;>rfl
@[go_sem] theorem xi_new {cs:List GV}:sxI P D N env h U k (.new cs)=J1 N h 1 cs (fun n=>.ptr n 0) k:=(rfl)
@[go_sem] theorem xi_box {x:Opd}:sxI P D N env h U k (.box x)=(Ew (x.ev env)=true/\J1 N h 1 (x.ev env).cells (fun n=>.ptr n 0) k):=(rfl)
@[go_sem] theorem xi_lit {z l:Nat} {ze:List GV} {ps:List (Nat×Nat×Opd)}:sxI P D N env h U k (.lit z l ze ps)=litX N h z l k (Ht ze (ps.map fun p=>(p.1,p.2.1,p.2.2.ev env))):=(rfl)
@[go_sem] theorem litX_some {z l:Nat} {cs:List GV}:litX N h z l k (some cs)=J1 N h z cs (fun n=>.sl n 0 l) k:=(rfl)
@[go_sem] theorem xi_mks {z b:Nat} {ze:List GV} {n c:Opd}:sxI P D N env h U k (.mks z b ze n c)=mksX N h z b ze k (B9 (some (n.ev env))) (B9 (some (c.ev env))):=(rfl)
@[go_sem] theorem mksX_some {z b:Nat} {ze:List GV} {n c:Nat}:mksX N h z b ze k (some n) (some c)=(n=c/\n*b<=140737488355328/\J1 N h z (reps n ze) (fun g=>.sl g 0 n) k):=(rfl)
@[go_sem] theorem xi_ld {g:Bool} {n:Nat} {a:Opd}:sxI P D N env h U k (.ld g n a)=Hj (ldX N h U g n (a.ev env)) k h U:=(rfl)
@[go_sem] theorem xi_st {n:Nat} {a x:Opd}:sxI P D N env h U k (.st n a x)=stX N D h U n k (a.ev env) (x.ev env):=(rfl)
@[go_sem] theorem stX_ptr {n b off:Nat} {x:GV}:stX N D h U n k (.ptr b off) x=stB N D h U n k b off x (look h b):=(rfl)
@[go_sem] theorem stB_some {n b off:Nat} {x:GV} {cs:List GV}:stB N D h U n k b off x (some cs)=((D=false/\off+n<=cs.length/\0<n/\x.cells.length=n)/\∀ U',Hx N U' (upd h b (Al cs off x.cells))->k (.tup []) (upd h b (Al cs off x.cells)) U'):=(rfl)
@[go_sem] theorem xi_bin {op:BinOp} {x y:Opd}:sxI P D N env h U k (.bin op x y)=Hj (binG op (x.ev env) (y.ev env)) k h U:=by simp only[sxI,exec,Afu]
@[go_sem] theorem xi_eqb {n:Bool} {x y:Opd}:sxI P D N env h U k (.eqb n x y)=Hj (eqbG n (x.ev env) (y.ev env)) k h U:=by
 simp only[sxI,exec,eqbG]
 cases(x.ev env).bit with
 |none=>rfl
 |some a=>cases(y.ev env).bit<;>rfl
@[go_sem] theorem xi_un {op:UnOp} {x:Opd}:sxI P D N env h U k (.un op x)=Hj (unG op (x.ev env)) k h U:=by simp only[sxI,exec,Afu]
@[go_sem] theorem xi_cvi {kd:IntKind} {x:Opd}:sxI P D N env h U k (.cvi kd x)=Hj (cviG kd (x.ev env)) k h U:=by
 simp only[sxI,exec]
 cases x.ev env<;>rfl
@[go_sem] theorem xi_bts {x:Opd}:sxI P D N env h U k (.bts x)=Hj ((elems U 1 (x.ev env)).bind fun r=>(F5 r.2).map fun bs=>.str ⟨bs.toArray⟩) k h U:=(rfl)
@[go_sem] theorem xi_fad {n:Nat} {a:Opd}:sxI P D N env h U k (.fad n a)=Hj (fadG n (a.ev env)) k h U:=by
 simp only[sxI,exec]
 cases a.ev env<;>rfl
@[go_sem] theorem xi_iad {z:Nat} {x i:Opd}:sxI P D N env h U k (.iad z x i)=Hj (iadG z (x.ev env) (B9 (some (i.ev env)))) k h U:=by
 simp only[sxI,exec]
 cases x.ev env with
 |sl g off len=>
  simp only
  cases B9 (some (i.ev env)) with
  |none=>rfl
  |some n=>
   simp only[Zaf,iadG]
   split<;>rfl
 |_=>rfl
@[go_sem] theorem xi_len {s:Bool} {x:Opd}:sxI P D N env h U k (.len s x)=Hj ((lenG s (x.ev env)).map fun n=>.int .i64 n) k h U:=by
 simp only[sxI,exec]
 cases lenG s (x.ev env)<;>rfl
@[go_sem] theorem xi_app {z b:Nat} {ze:List GV} {s x:Opd}:sxI P D N env h U k (.app z b ze s x)=genX N D U (appV z b U (s.ev env) (x.ev env)) k:=(rfl)
@[go_sem] theorem xi_mm {m:Bool} {x y:Opd}:sxI P D N env h U k (.mm m x y)=Hj (mmG m (x.ev env) (y.ev env)) k h U:=by
 simp only[sxI,exec]
 cases x.ev env<;>first|rfl|skip
 cases y.ev env<;>rfl
@[go_sem] theorem xi_call {f:Nat} {xs:List Opd}:sxI P D N env h U k (.call f xs)=A50 P N D U f (xs.map (·.ev env)) k:=(rfl)
@[go_sem] theorem allocX_def {z:Nat} {cs:List GV} {v:Nat->GV}:J1 N h z cs v k=∀ n,frX N h n->∀ U',Hx N U' (.box z n cs::h)->k (v n) (.box z n cs::h) U':=(rfl)
@[go_sem] theorem frX_nil {n:Nat}:frX N [] n=(N.length<=n):=(rfl)
@[go_sem] theorem frX_box {z m n:Nat} {cs:List GV}:frX N (.box z m cs::h) n=(m<n/\frX N h n):=(rfl)
@[go_sem] theorem frX_th {n:Nat} {q:Thg}:frX N (.th q::h) n=frX N h n:=(rfl)
@[go_sem] theorem Pi {z n:Nat} {cs:List GV}:look (.box z n cs::h) n=some cs:=by simp[look]
@[go_sem low] theorem look_ne {z m n:Nat} {cs:List GV} (hn:m≠n):look (.box z m cs::h) n=look h n:=by simp[look,hn]
@[go_sem] theorem look_th {n:Nat} {q:Thg}:look (.th q::h) n=look h n:=(rfl)
@[go_sem] theorem upd_eq {z n:Nat} {cs ds:List GV}:upd (.box z n cs::h) n ds= .box z n ds::h:=by simp[upd]
@[go_sem low] theorem upd_ne {z m n:Nat} {cs ds:List GV} (hn:m≠n):upd (.box z m cs::h) n ds= .box z m cs::upd h n ds:=by simp[upd,hn]
@[go_sem] theorem upd_th {n:Nat} {q:Thg} {ds:List GV}:upd (.th q::h) n ds= .th q::upd h n ds:=(rfl)
@[go_sem] theorem ldX_ptr {g:Bool} {n b off:Nat} (hb:N.length<=b):ldX N h U g n (.ptr b off)=ldB (look h b) g n off (ldG g n U (.ptr b off)):=by
 have:ldG g n N (.ptr b off)=none:=by
  simp only[ldG,rdB]
  rw[List.getElem?_eq_none hb];rfl
 simp only[ldX,this,orX,ldY]
@[go_sem] theorem ldX_at {g:Bool} {n z i:Nat} {v:GV}:ldX N h U g n (atz z v i)=orX (ldG g n N (atz z v i)) (ldY h U g n (atz z v i)):=(rfl)
@[go_sem] theorem ldX_fld {g:Bool} {n z i m:Nat} {v:GV}:ldX N h U g n (fld m (atz z v i))=orX (ldG g n N (fld m (atz z v i))) (ldY h U g n (fld m (atz z v i))):=(rfl)
@[go_sem] theorem orX_some {x:GV} {b:Option GV}:orX (some x) b=some x:=(rfl)
@[go_sem] theorem ldB_some {cs:List GV} {g:Bool} {n off:Nat} {e:Option GV}:ldB (some cs) g n off e=(seg cs off n).bind (mkv g):=(rfl)
@[go_sem] theorem xc_skip:sxc P N .skip Q env h U=Q .nxt env h U:=(rfl)
@[go_sem] theorem xc_reg {os:List Op1}:sxc P N (.reg os) Q env h U=sx P false N os (Q .nxt) env h U:=(rfl)
@[go_sem] theorem xc_drw {a1 bs:List Op1}:sxc P N (.drw a1 bs) Q env h U=sx P true N a1 (sx P false N bs (Q .nxt)) env h U:=(rfl)
@[go_sem] theorem xc_seq {a b:Cd}:sxc P N (.seq a b) Q env h U=sxc P N a (fun e=>match e with
  | .nxt=>sxc P N b Q
  |e=>Q e) env h U:=(rfl)
@[go_sem] theorem xc_cnd {c:Opd} {a b:Cd}:sxc P N (.cnd c a b) Q env h U=ifS P N a b Q env h U (c.ev env).bit:=by
 show ifX _ _ _=_
 cases(c.ev env).bit<;>rfl
@[go_sem] theorem xc_blk {id:Nat} {a:Cd}:sxc P N (.blk id a) Q env h U=sxc P N a (fun e=>match e with
  | .ext j=>if j=id then Q .nxt else Q (.ext j)
  |e=>Q e) env h U:=(rfl)
@[go_sem] theorem xc_ext {id:Nat}:sxc P N (.ext id) Q env h U=Q (.ext id) env h U:=(rfl)
@[go_sem] theorem xc_ret:sxc P N .ret Q env h U=Q .ret env h U:=(rfl)
@[go_sem] theorem rsX_t {n:Nat}:rsX N h U env (.t n)=some (env n):=(rfl)
@[go_sem] theorem rsX_c {a n:Nat} {g:Bool}:rsX N h U env (.c a g n)=ldX N h U g n (env a):=(rfl)
@[go_sem] theorem resX_1 {x:Rs}:resX N h U env [x]=rsX N h U env x:=(rfl)
end words
theorem A2p {U:St}:∀ {rs:List Thg} {fp:List Nat},sat U rs fp->fp.Nodup->∃ F:Nat->List Nat,(∀ (i:Nat) (r:Thg),rs[i]? =some r->r.P U (F i))/\(∀ i,(F i).Nodup)/\(∀ i j,i≠j->∀ g∈F i,g∉F j)/\∀ i,∀ g∈F i,g∈fp
 |[],fp,h,hn=>⟨fun _=>[],by simp,by simp,by simp,by simp⟩
 |r::rs,_,⟨a,b,hr,hs,rfl⟩,hn=>by
  rw[Zaq] at hn
  obtain⟨F,h1,h2,h3,h4⟩:=A2p hs hn.2.1
  refine⟨fun i=>match i with|0=>a|i+1=>F i,?_,?_,?_,?_⟩
  ·intro i s hi
   cases i with
   |zero=>simp at hi;subst hi;exact hr
   |succ i=>exact h1 i s (by simpa using hi)
  ·intro i;cases i with
   |zero=>exact hn.1
   |succ i=>exact h2 i
  ·intro i j hij g hg
   cases i with
   |zero=>cases j with
    |zero=>exact absurd rfl hij
    |succ j=>exact fun h=>hn.2.2 g hg g (h4 j g h) rfl
   |succ i=>cases j with
    |zero=>exact fun h=>hn.2.2 g h g (h4 i g hg) rfl
    |succ j=>exact h3 i j (by omega) g hg
  ·intro i g hg
   cases i with
   |zero=>exact Za3 _ hg
   |succ i=>exact Zat _ (h4 i g hg)
theorem Adr {U:St} {rs:List Thg} {F:Nat->List Nat} (h1:∀(i:Nat) (r:Thg),rs[i]? =some r->r.P U (F i)) (h2:∀ i,(F i).Nodup) (h3:∀ i j,i≠j->∀ g∈F i,g∉F j):∀ {is:List Nat},is.Nodup->∃ fp,sat U (is.filterMap (rs[·]?)) fp/\fp.Nodup/\∀ g∈fp,∃ i∈is,g∈F i
 |[],_=>⟨[],rfl,by simp,by simp⟩
 |i::is,hn=>by
  rw[Zbh] at hn
  obtain⟨fp,k1,k2,k3⟩:=Adr h1 h2 h3 hn.2
  cases hi:rs[i]? with
  |none=>exact⟨fp,by rw[Za5,hi];exact k1,k2,fun g hg=>by obtain⟨j,hj,h⟩:=k3 g hg;exact⟨j,Zav _ hj,h⟩⟩
  |some r=>
   refine⟨F i++fp,by rw[Za5,hi];exact⟨F i,fp,h1 i r hi,k1,rfl⟩,Zaq.2 ⟨h2 i,k2,fun x hx y hy e=> ?_⟩,fun g hg=> ?_⟩
   ·subst e
    obtain⟨j,hj,h⟩:=k3 x hy
    exact h3 i j (fun e=>hn.1 (by rw[e];exact hj)) x hx h
   ·rcases Zbo.1 hg with hg|hg
    ·exact⟨i,Zah,hg⟩
    ·obtain⟨j,hj,h⟩:=k3 g hg;exact⟨j,Zav _ hj,h⟩
theorem Hp.sel {N U:St} {rs:List Thg} (H:Hp N U rs) (is:List Nat) (hn:is.Nodup):Hp N U (is.filterMap (rs[·]?)):=by
 obtain⟨h,fp,hs,hnd,hb⟩:=H
 obtain⟨F,h1,h2,h3,h4⟩:=A2p hs hnd
 obtain⟨fp',k1,k2,k3⟩:=Adr h1 h2 h3 hn
 exact⟨h,fp',k1,k2,fun g hg=>by obtain⟨i,_,hi⟩:=k3 g hg;exact hb g (h4 i g hi)⟩
theorem Hx.sel {N U:St} {h:List Item} (H:Hx N U h) (is:List Nat) (hn:is.Nodup):Hp N U (is.filterMap ((h.map Item.t)[·]?)):=Hp.sel H is hn
theorem Hx.re {N U:St} {h:List Item} (H:Hx N U h) (is:List Nat) (hn:is.Nodup):Hx N U (is.filterMap (h[·]?)):=by
 have e:(is.filterMap (h[·]?)).map Item.t=is.filterMap ((h.map Item.t)[·]?):=by
  induction is with
  |nil=>rfl
  |cons i is ih=>
   have ih:=ih (Zbh.1 hn).2
   rw[Za5,Za5,Za1]
   cases h[i]? with
   |none=>exact ih
   |some x=>simp only[Zax,Za6,ih]
 unfold Hx
 rw[e]
 exact H.sel is hn
section os
variable {Y:Type} {d:Kd Y} {N U:St} {l:List Y} {v:GV} {fp:List Nat}
end os
theorem A0e {Y:Type} {p:Pl Y} {U:St} {n:Nat} {x:Y} (h:rdB U n=some (p.enc x)):RS p.kd U (.sl n 0 1) [x]:=by
 refine .inr ⟨n,0,p.enc x,rfl,h,?_,fun i y hy=> ?_⟩
 ·show 0+1*p.z<=_;rw[p.len];omega
 ·have hi:i<1:=by simpa using (Zan.1 hy).1
  have hi:i=0:=by omega
  subst hi
  simp at hy;subst hy
  show List.take p.z (List.drop (0+0*p.z) (p.enc x))=p.enc x
  simp only[Nat.zero_mul,Nat.add_zero,List.drop_zero]
  exact List.take_of_length_le (by rw[p.len];exact Zar _)
section rules
variable {P:Program} {D:Bool} {N U U':St} {env:Env} {h:List Item} {k:Kx} {f:Nat} {args:List GV} {v:GV} {Y:Type}
theorem map_th {rs:List Thg} {h:List Item}:(rs.map Item.th++h).map Item.t=rs++h.map Item.t:=by
 rw[Zbf,List.map_map]
 congr 1
 exact List.map_id _
theorem by_cs {rs:List Thg} (H:Hx N U h) (R:Ret P f args U v U') (K:Hp U U' rs) (kk:Hx N U' (rs.map Item.th++h)->k v (rs.map Item.th++h) U'):A50 P N D U f args k:=by
 have H':Hx N U' (rs.map Item.th++h):=by unfold Hx;rw[map_th];exact H.hp.add K
 exact⟨v,U',_,R,fun _=>K.sub,H',kk H'⟩
theorem by_c {r:Thg} (H:Hx N U h) (R:Ret P f args U v U') (K:Hp U U' [r]) (kk:Hx N U' (.th r::h)->k v (.th r::h) U'):A50 P N D U f args k:=by_cs H R K kk
theorem by_r (H:Hx N U h) (R:Ret P f args U v U) (kk:k v h U):A50 P N D U f args k:=⟨v,U,h,R,fun _=>Zab _,H,kk⟩
theorem by_b {b:Bool} (H:Hx N U h) (R:Ret P f args U (.bool b) U) (h1:b=true->k (.bool true) h U) (h2:b=false->k (.bool false) h U):A50 P N D U f args k:=by
 refine by_r H R ?_
 cases b with
 |true=>exact h1 rfl
 |false=>exact h2 rfl
theorem by_m {h':List Item} (R:Ret P f args U v U') (H:Hx N U' h') (kk:k v h' U'):A50 P N false U f args k:=⟨v,U',h',R,(fun h=>by cases h),H,kk⟩
theorem Abp {h:List Item} {i:Nat} {r:Thg}:(h.set i (.th r)).map Item.t=(h.map Item.t).set i r:=List.map_set ..
theorem at_t {h:List Item} {i:Nat} {r:Thg} (hi:h[i]? =some (.th r)):(h.map Item.t)[i]? =some r:=by rw[Za1,hi];rfl
theorem Pj {p:Pl Y} {b8 n:Nat} {l:List Y} (H:Hx N U h) (i:Nat) (hi:h[i]? =some (.th (ow p.kd v l))) (x:Y) (hl:look h n=some (p.enc x)) (hz:0<p.z) (hb:(l.length+1)*b8<=140737488355328)
  (kk:∀ v' U',Hx N U' (h.set i (.th (ow p.kd v' (l++[x]))))->k v' (h.set i (.th (ow p.kd v' (l++[x])))) U'):genX N false U (appV p.z b8 U v (.sl n 0 1)) k:=by
 obtain⟨z,j,h1,_⟩:=Ph hl
 obtain⟨v',U',e,H'⟩:=H.hp.app (by8:=b8) i (at_t hi) (A0e (H.hp.pt j h1)) hz hb
 rw[<- Abp] at H'
 exact⟨v',U',_,e,(fun h=>by cases h),H',kk v' U' H'⟩
theorem Ah3 {p:Pl Y} {b8:Nat} {l m:List Y} {u:GV} (H:Hx N U h) (i:Nat) (hi:h[i]? =some (.th (ow p.kd v l))) (hu:RS p.kd U u m) (hz:0<p.z) (hb:(l.length+m.length)*b8<=140737488355328)
  (kk:∀ v' U',Hx N U' (h.set i (.th (ow p.kd v' (l++m))))->k v' (h.set i (.th (ow p.kd v' (l++m)))) U'):genX N false U (appV p.z b8 U v u) k:=by
 obtain⟨v',U',e,H'⟩:=H.hp.app (by8:=b8) i (at_t hi) hu hz hb
 rw[<- Abp] at H'
 exact⟨v',U',_,e,(fun h=>by cases h),H',kk v' U' H'⟩
theorem Ads:∀(h:List Item) (j:Nat),(h.map Item.t).eraseIdx j=(h.eraseIdx j).map Item.t
 |[],_=>rfl
 |x::h,0=>rfl
 |x::h,j+1=>by simp only[Za6,Za7,Ads h j]
theorem by_cp {p:Pl Y} {b8 n:Nat} {m:List Y} {u:GV} (H:Hx N U (.box p.z n []::h)) (hu:RS p.kd U u m) (hz:0<p.z) (hb:m.length*b8<=140737488355328)
  (kk:∀ v' U',Hx N U' (.th (ow p.kd v' m)::h)->k v' (.th (ow p.kd v' m)::h) U'):genX N D U (appV p.z b8 U (.sl n 0 0) u) k:=by
 have hu':RdN p.en U u m:=hu
 have ha:appV p.z b8 U (.sl n 0 0) u=appG p.z b8 U (.sl n 0 0) m.length (p.cells m):=by
  have he:=hu'.elems
  unfold appV
  rcases hu' with⟨rfl,rfl|rfl⟩|⟨g,off,cs,rfl,_⟩<;>simp only[he,Zaf]
 rw[ha]
 by_cases hm:m.length=0
 ·have:m=[]:=Zbc hm
  subst this
  have H1:Hx N U (.th (ow p.kd (.sl n 0 0) [])::h):=H.hp.toNil (d:=p.kd) 0 rfl rfl
  exact⟨.sl n 0 0,U,_,by simp[appG,isSl],fun _=>Zab _,H1,kk _ _ H1⟩
 ·obtain⟨a,ha,_⟩:=H.hp.see (i:=0) rfl
  have hB:=Br.1 ha.2
  have H1:Hx N (U++[some (.row p.z (p.cells m))]) (.th (ow p.kd (.sl U.length 0 m.length) m)::h):=(H.hp.drop1.new p.z (p.cells m)).toRow 0 rfl m rfl rfl _ rfl
  refine⟨.sl U.length 0 m.length,U++[some (.row p.z (p.cells m))],_,?_,fun _=>pre1 _ _,H1,kk _ _ H1⟩
  simp only[appG,hB,if_neg hm]
  rw[if_pos ⟨trivial,trivial,trivial,trivial,hb⟩]
theorem I0 {e:Option (GV×St)} {k k':Kx} (hk:∀ v h U,k v h U->k' v h U):genX N D U e k->genX N D U e k':=fun⟨v,U',h',h1,h2,h3,h4⟩=>⟨v,U',h',h1,h2,h3,hk _ _ _ h4⟩
theorem Kq {z:Nat} {cs:List GV} {w:Nat->GV} {k k':Kx} (hk:∀ v h U,k v h U->k' v h U) (e:J1 N h z cs w k):J1 N h z cs w k':=fun n hf U' H=>hk _ _ _ (e n hf U' H)
theorem Af3 {k k':Kx} (hk:∀ v h U,k v h U->k' v h U):∀ {i:Ins},sxI P D N env h U k i->sxI P D N env h U k' i:=by
 have bm:∀ {v:Option GV},Hj v k h U->Hj v k' h U:=fun {v} e=>by
  cases v with
  |none=>exact e
  |some v=>exact hk _ _ _ e
 intro i e
 cases i with
 |new cs=>exact Kq hk e
 |box x=>exact⟨e.1,Kq hk e.2⟩
 |lit z len zero parts=>
  simp only[sxI] at e ⊢
  revert e
  cases Ht zero (parts.map fun p=>(p.1,p.2.1,p.2.2.ev env)) with
  |none=>exact id
  |some cs=>exact Kq hk
 |mks z b ze n c=>
  simp only[sxI] at e ⊢
  revert e
  cases B9 (some (n.ev env)) with
  |none=>exact id
  |some n=>cases B9 (some (c.ev env)) with
   |none=>exact id
   |some c=>exact fun e=>⟨e.1,e.2.1,Kq hk e.2.2⟩
 |st n a x=>
  simp only[sxI] at e ⊢
  revert e
  cases a.ev env with
  |ptr b off=>
   simp only[stX]
   unfold stB
   cases look h b with
   |none=>exact I0 hk
   |some cs=>exact fun e=>⟨e.1,fun U' H=>hk _ _ _ (e.2 U' H)⟩
  |_=>exact I0 hk
 |call f xs=>
  obtain⟨v,U',h',h1,h2,h3,h4⟩:=e
  exact⟨v,U',h',h1,h2,h3,hk _ _ _ h4⟩
 |callv x xs=>
  simp only[sxI] at e ⊢
  revert e
  cases x.ev env with
  |fn f caps=>exact fun⟨v,U',h',h1,h2,h3,h4⟩=>⟨v,U',h',h1,h2,h3,hk _ _ _ h4⟩
  |_=>exact id
 |chk d x=>
  cases x with
  |ld g n a=>cases a with
   |t t=>exact⟨e.1,hk _ _ _ e.2⟩
   |k v=>exact e
  |_=>exact e
 |blc t cs=>exact⟨e.1,hk _ _ _ e.2⟩
 |app z b ze s x=>exact I0 hk e
 |clr z ze x=>exact I0 hk e
 |mkm=>exact I0 hk e
 |mup ks m k2 v=>exact I0 hk e
 |mov x=>exact hk _ _ _ e
 |pan=>exact e
 |_=>exact bm e
theorem Tl:∀ {os:List Op1} {K K':Env->List Item->St->Prop} {env:Env} {h:List Item} {U:St},(∀ env h U,K env h U->K' env h U)->sx P D N os K env h U->sx P D N os K' env h U
 |[],K,K',env,h,U,hk,e=>hk _ _ _ e
 |o::r,K,K',env,h,U,hk,e=>by
  simp only[sx] at e ⊢
  have y:sxI P D N env h U (fun v h' U'=>sx P D N r K (upo env o.d v) h' U') o.i->sxI P D N env h U (fun v h' U'=>sx P D N r K' (upo env o.d v) h' U') o.i:=Af3 fun v h U=>Tl hk
  have n:sx P D N r K (upo env o.d (.tup [])) h U->sx P D N r K' (upo env o.d (.tup [])) h U:=Tl hk
  revert e
  cases o.g.map fun g=>((env g.1).bit,g.2) with
  |none=>exact y
  |some q=>
   obtain⟨c,b⟩:=q
   cases c with
   |none=>exact n
   |some c=>exact fun e=>⟨fun hc=>y (e.1 hc),fun hc=>n (e.2 hc)⟩
theorem A2q {d:Cd}:∀ {Q Q':Qx} {env:Env} {h:List Item} {U:St},(∀ e env h U,Q e env h U->Q' e env h U)->sxc P N d Q env h U->sxc P N d Q' env h U:=by
 induction d with
 |skip=>intro Q Q' env h U hq e;exact hq _ _ _ _ e
 |reg ops=>intro Q Q' env h U hq e;exact Tl (hq _) e
 |drw a1 bs=>intro Q Q' env h U hq e;exact Tl (fun _ _ _=>Tl (hq _)) e
 |seq a b iha ihb=>
  intro Q Q' env h U hq e
  refine iha (fun e env h U he=> ?_) e
  cases e with
  |nxt=>exact ihb hq he
  |ext j=>exact hq _ _ _ _ he
  |ret=>exact hq _ _ _ _ he
 |cnd c a b iha ihb=>
  intro Q Q' env h U hq e
  simp only[sxc] at e ⊢
  unfold ifX at e ⊢
  split
  ·rename_i hc;rw[hc] at e;exact⟨fun k=>iha hq (e.1 k),fun k=>ihb hq (e.2 k)⟩
  ·rename_i hc;rw[hc] at e;exact e
 |blk id a ih=>
  intro Q Q' env h U hq e
  refine ih (fun e env h U he=> ?_) e
  cases e with
  |nxt=>exact hq _ _ _ _ he
  |ext j=>
   simp only at he ⊢
   split at he
   ·rename_i hj;rw[if_pos hj];exact hq _ _ _ _ he
   ·rename_i hj;rw[if_neg hj];exact hq _ _ _ _ he
  |ret=>exact hq _ _ _ _ he
 |lop a ih=>
  intro Q Q' env h U hq e
  obtain⟨I,n,h0,H0,hI,hs⟩:=e
  refine⟨I,n,h0,H0,hI,fun k env h U H hi=>ih (fun e env' h' U' he=> ?_) (hs k env h U H hi)⟩
  cases e with
  |nxt=>exact he
  |ext j=>obtain⟨h1,H1,he⟩:=he;exact⟨h1,H1,hq _ _ _ _ he⟩
  |ret=>obtain⟨h1,H1,he⟩:=he;exact⟨h1,H1,hq _ _ _ _ he⟩
 |ext id=>intro Q Q' env h U hq e;exact hq _ _ _ _ e
 |ret=>intro Q Q' env h U hq e;exact hq _ _ _ _ e
variable {a b:Cd} {Q:Qx}
theorem Tm (n j0:Nat) (I:Nat->Env->List Item->Prop) (X Z:Env->List Item->Prop) (h0:List Item) (H0:Hx N U h0) (hI:I n env h0)
  (hs:∀(J:Nat->Env->St->Prop) (Yq Wq:Env->St->Prop),(∀ i env h U,Hx N U h->I i env h->J i env U)->(∀ env h U,Hx N U h->X env h->Yq env U)->(∀ env h U,Hx N U h->Z env h->Wq env U)->∀ i env h U,Hx N U h->I i env h->sxc P N a (fun e env' h' U'=>match e with
   | .nxt=>∃ i',i'<i/\J i' env' U'
   | .ext j=>j=j0/\Yq env' U'
   | .ret=>Wq env' U') env h U)
  (hx:∀ env h U,Hx N U h->X env h->Q (.ext j0) env h U) (hz:∀ env h U,Hx N U h->Z env h->Q .ret env h U):sxc P N (.lop a) Q env h U:=by
 refine⟨fun i env h U=>I i env h,n,h0,H0,hI,fun i env h U H hi=>A2q (fun e env' h' U' he=> ?_) (hs (fun i env U=>∃ h,Hx N U h/\I i env h) (fun env U=>∃ h,Hx N U h/\X env h) (fun env U=>∃ h,Hx N U h/\Z env h) (fun _ _ h _ H e=>⟨h,H,e⟩) (fun _ h _ H e=>⟨h,H,e⟩) (fun _ h _ H e=>⟨h,H,e⟩) i env h U H hi)⟩
 cases e with
 |nxt=>obtain⟨i',h1,h2,h3,h4⟩:=he;exact⟨i',h2,h1,h3,h4⟩
 |ext j=>obtain⟨rfl,h2,h3,h4⟩:=he;exact⟨h2,h3,hx _ _ _ h3 h4⟩
 |ret=>obtain⟨h2,h3,h4⟩:=he;exact⟨h2,h3,hz _ _ _ h3 h4⟩
theorem Cr (n ri j0:Nat) (I:Nat->Env->List Item->Prop) (X Z:Env->List Item->Prop) (h0:List Item) (H0:Hx N U h0) (hr:env ri=gi 0) (hI:I 0 env h0)
  (hs:∀(J:Nat->Env->St->Prop) (Yq Wq:Env->St->Prop),(∀ i env h U,Hx N U h->I i env h->J i env U)->(∀ env h U,Hx N U h->X env h->Yq env U)->(∀ env h U,Hx N U h->Z env h->Wq env U)->∀ i env h U,i<n->env ri=gi i->decide ((i:Int)<n)=true->Hx N U h->I i env h->sxc P N a (fun e env' h' U'=>match e with
   | .nxt=>env' ri=gi ((i:Int)+1)/\J (i+1) env' U'
   | .ext j=>j=j0/\Yq env' U'
   | .ret=>Wq env' U') env h U)
  (he:∀(Yq:Env->St->Prop),(∀ env h U,Hx N U h->X env h->Yq env U)->∀ env h U,env ri=gi n->decide ((n:Int)<n)=false->Hx N U h->I n env h->sxc P N a (fun e env' h' U'=>match e with
   | .nxt=>False
   | .ext j=>j=j0/\Yq env' U'
   | .ret=>False) env h U)
  (hx:∀ env h U,Hx N U h->X env h->Q (.ext j0) env h U) (hz:∀ env h U,Hx N U h->Z env h->Q .ret env h U):sxc P N (.lop a) Q env h U:=by
 refine Tm n j0 (fun k env h=>∃ i:Nat,k=n - i/\i<=n/\env ri=gi i/\I i env h) X Z h0 H0 ⟨0,rfl,Nat.zero_le _,hr,hI⟩ (fun J Yq Wq hJ hY hW k env h U H hi=> ?_) hx hz
 obtain⟨i,rfl,h1,h2,h3⟩:=hi
 rcases Zbu i n with hlt|hge
 ·refine A2q (fun e env' h' U' q=> ?_) (hs (fun i' env U=>i'<=n->env ri=gi i'->J (n - i') env U) Yq Wq (fun j env h U H e hj hr=>hJ _ env h U H ⟨j,rfl,hj,hr,e⟩) hY hW i env h U hlt h2 (by simp;omega) H h3)
  cases e with
  |nxt=>exact⟨n - (i+1),by omega,q.2 (by omega) q.1⟩
  |ext j=>exact q
  |ret=>exact q
 ·obtain rfl:i=n:=by omega
  refine A2q (fun e env' h' U' q=> ?_) (he Yq hY env h U h2 (by simp) H h3)
  cases e with
  |nxt=>exact q.elim
  |ext j=>exact q
  |ret=>exact q.elim
theorem Jj {md:Bool} {F:Fn1} {r:GV} (hF:Gg md P f=some F) (hl:args.length<=F.n) (hr:vLt N.length r)
  (hc:sxc P N F.c (fun e env h U=>Hx N U h->Sa e=true/\resX N h U env F.rs=some r) (env0 args) [] N):Ret P f args N r N:=
 Ab hF hl hr (Ao (A51 (Hx.refl N) hc) fun e env U he=>by
  obtain⟨_,h,H,hq⟩:=he
  exact⟨(hq H).1,A0d H (hq H).2,H.sub⟩)
end rules
section
open Go Go.RowKit Go.Shelf
section
variable {P:Program} {N U:St}
theorem Good.bel {w0 w w':World} {W:Rho} (h:Good w0 W N w) (hb:Below w.heap.size w w'):Good w0 W N w':=h.keep hb.os hb.tape hb.output hb.size hb.block
theorem Frame.bel {w w':World} {W:Rho} (hb:Below w.heap.size w w'):Frame W N w W N w':=⟨fun g B L h h1 h2 _=>⟨g,B,L,h,h1,h2,rfl⟩,hb.size,fun b h _=>hb.block b h⟩
theorem Ret.of_str {f:Nat} {args:List GV} {s:ByteArray} (hc:M4 P f=true) (h:∀ w0 W w (us:List Value),Good w0 W N w->All2 (vRel W) args us->Calls P f us.toArray w fun e w'=>e= .returned (.string s)/\Below w.heap.size w w'):Ret P f args N (.str s) N:=
 ⟨hc,Zar _,fun w0 W w us hG ha=>(h w0 W w us hG ha).mono fun e w' ⟨he,hb⟩=>by
  subst he
  exact⟨W,fun _ _=>rfl,rfl,hG.bel hb,Frame.bel hb⟩⟩
theorem below_grown (w:World) (k:Nat) (os:Array Obj):Below w.heap.size w (Go.Sort.grow (w.drewN k) os):=
 ⟨rfl,rfl,rfl,by simp only[Go.Sort.grow,Array.size_append];exact Nat.le_add_right _ _,fun b hb=>by
  show(w.heap++os)[b]? =w.heap[b]?
  rw[Array.getElem?_append_left hb]⟩
end
def itB (n:Int):ByteArray:=⟨(Lib.itoa n).toArray⟩
theorem Af4 (N:St) (n:Int) (h0: -9223372036854775808<=n) (h1:n<=9223372036854775807):Ret Tryz.prog 249 [.int .i64 n] N (.str (itB n)) N:=
 Ret.of_str (by kernel_rfl) fun w0 W w us hG ha=>by
  cases ha with
  |cons h1' h2'=>
   cases h2'
   obtain rfl:=h1'
   exact hG.lay w hG.below n h0 h1
theorem Ah4 (l:List ByteArray):pS.cells l=l.map .str:=by
 induction l with
 |nil=>rfl
 |cons x l ih=>show GV.str x::pS.cells l=_;rw[ih];rfl
def joB (l:List ByteArray) (sep:ByteArray):ByteArray:=⟨(Lib.join (l.map (·.data.toList)) sep.data.toList).toArray⟩
theorem Aao (N:St) (v:GV) (l:List ByteArray) (fp:List Nat) (hO:OS pS.kd N l v fp) (sep:ByteArray) (hN:l.length<=140737488355328) (hlen:(Lib.join (l.map (·.data.toList)) sep.data.toList).length<=140737488355328):Ret Tryz.prog 104 [v,.str sep] N (.str (joB l sep)) N:=
 Ret.of_str (by kernel_rfl) fun w0 W w us hG ha=>by
  cases ha with
  |cons h1 h2=>
  cases h2 with
  |cons h2 h3=>
  cases h3
  obtain rfl:=h2
  rcases OS.flat.1 hO with⟨rfl,rfl,_⟩|⟨g,pre,post,rfl,hB,_⟩
  ·obtain rfl:=h1
   exact(Any.strings_Join_none A8f F7 none 0 sep w).mono fun e w' ⟨he,hw⟩=>⟨by rw[he];rfl,hw ▸ Below.refl _ _⟩
  ·obtain⟨L,hL,a,cap,rfl,hcap,hc⟩:=h1
   by_cases hl:l.length=0
   ·have:l=[]:=Zbc hl
    subst this
    exact(Any.strings_Join_none A8f F7 (some a) cap sep w).mono fun e w' ⟨he,hw⟩=>⟨by rw[he];rfl,hw ▸ Below.refl _ _⟩
   ·rcases hc with hc|⟨rfl,_⟩
    ·omega
    have hB':=Br.1 hB
    have hm:=hG.mem g _ L hB' hL
    have hlo:=hG.loc g L hL hm.1
    rw[Ln hlo.1]
    refine(Any.strings_Join A8f F7 L.a.block (L.a.off+pre.length) cap l sep w ?_ hlo.2.2.1 hN hcap hlen).mono fun e w' h=>h
    intro j x hx
    have hj:(pre++pS.cells l++post)[pre.length+j]? =some (.str x):=by
     have hjl:j<l.length:=(Zan.1 hx).1
     have hcl:(pS.cells l).length=l.length:=by rw[Pl.cells_length];exact Nat.mul_one _
     rw[Zam,List.getElem?_append_right (by omega),Nat.add_sub_cancel_left,List.getElem?_append_left (by omega)]
     rw[Ah4,Za1,hx];rfl
    obtain⟨u,hu,hr⟩:=hG.cell hB' rfl hL hj
    obtain rfl:=hr
    rw[Ln hlo.1] at hu
    rw[Nat.add_assoc]
    exact hu
end
def eD (p:Dot×Int):GV×GV:=(.agg [gi p.1.rep,gi p.1.seq],gi p.2)
def L7 (ps:List (Dot×Int)) (d:Dot):Option Int:=(ps.find? fun p=>decide (d=p.1)).map (·.2)
def mpt (m:GV) (ps:List (Dot×Int)):Thg:=⟨fun N fp=>∃ g,m= .mp g/\fp=[g]/\bk N g=some (.map (ps.map eD)),fun⟨g,h1,h2,h3⟩ hf=>⟨g,h1,h2,by rw[hf g (by rw[h2];exact Zah)];exact h3⟩⟩
theorem Pk (d:Dot):∀(ps:List (Dot×Int)) (i:Nat),∃ q,Rh [.i .i64,.i .i64] [gi d.rep,gi d.seq] (ps.map eD) i=some q/\match L7 ps d with
  |some v=>∃ j,q=some (j,gi v)
  |none=>q=none
 |[],i=>⟨none,rfl,rfl⟩
 |p::ps,i=>by
  obtain⟨q,h1,h2⟩:=Pk d ps (i+1)
  have e:Cz [.i .i64,.i .i64] [gi d.rep,gi d.seq] [gi p.1.rep,gi p.1.seq]=some (decide (d=p.1)):=by
   have:decide (d=p.1)=(decide (d.rep=p.1.rep)&&decide (d.seq=p.1.seq)):=by
    rw[Zaj]
    simp only[decide_eq_true_eq,Zag]
    constructor
    ·rintro rfl;exact⟨rfl,rfl⟩
    ·rintro⟨h3,h4⟩;cases d;cases hp:p.1;simp_all
   rw[this]
   simp only[Cz,scEq,and_self,if_true,Zaf,Zax,Bool.and_true,Zbz.injEq]
   rw[Zaj];simp
  by_cases hd:d=p.1
  ·refine⟨some (i,gi p.2),?_,?_⟩
   ·simp only[Za6,eD,Rh] at e ⊢
    rw[e];simp[hd]
   ·have:L7 (p::ps) d=some p.2:=by simp[L7,hd]
    rw[this];exact⟨i,rfl⟩
  ·refine⟨q,?_,?_⟩
   ·simp only[Za6,eD,Rh] at e ⊢
    rw[e];simp only[hd,decide_false,Zaf,Zbq,if_false]
    exact h1
   ·have:L7 (p::ps) d=L7 ps d:=by simp[L7,hd]
    rw[this];exact h2
namespace Hp
variable {N U:St} {rs:List Thg}
theorem newMap (H:Hp N U rs):Hp N (U++[some (.map [])]) (mpt (.mp U.length) []::rs):=
 H.add (rs':=[mpt (.mp U.length) []]) ⟨Zaz _ _,[U.length],⟨[U.length],[],⟨_,rfl,rfl,Hy⟩,rfl,rfl⟩,by simp,by simp⟩
theorem mup (H:Hp N U rs) (i:Nat) {m:GV} {ps:List (Dot×Int)} (hi:rs[i]? =some (mpt m ps)) (d:Dot) (n:Int) (h:L7 ps d=none):
  ∃ U',mupG U [.i .i64,.i .i64] m (.agg [gi d.rep,gi d.seq]) (gi n)=some (.tup [],U')/\Hp N U' (rs.set i (mpt m (ps++[(d,n)]))):=by
 obtain⟨a,⟨g,rfl,rfl,hB⟩,hnd,hbd,ht⟩:=(H.pick i hi).turn
 have hlt:=(hbd g Zah).2
 obtain⟨q,h1,h2⟩:=Pk d ps 0
 rw[h] at h2
 subst h2
 refine⟨U.set g (some (.map ((ps++[(d,n)]).map eD))),?_,unpick (ht (a':=[g]) ⟨by simp,fun g' h=>.inl h,by simp,fun g' h h'=>Gh fun e=>h' (by rw[e];exact Zah)⟩ ⟨g,rfl,rfl,Br.2 (by rw[Zbm hlt])⟩) (Zan.1 hi).1⟩
 simp only[mupG,mpG,Br.1 hB,Zaf,keyG,Zbd,Zby,if_true]
 rw[h1]
 simp[Ew,Afz,eD]
theorem mlk (H:Hp N U rs) (i:Nat) {m:GV} {ps:List (Dot×Int)} (hi:rs[i]? =some (mpt m ps)) (d:Dot):
  mlkG U [.i .i64,.i .i64] (gi 0) true m (.agg [gi d.rep,gi d.seq])=some (.tup [gi ((L7 ps d).getD 0),.bool (L7 ps d).isSome]):=by
 obtain⟨a,⟨g,rfl,rfl,hB⟩,_⟩:=H.see hi
 obtain⟨q,h1,h2⟩:=Pk d ps 0
 simp only[mlkG,mpG,Br.1 hB,Zaf,keyG,Zbd,Zby,if_true]
 rw[h1]
 cases hl:L7 ps d with
 |none=>rw[hl] at h2;subst h2;rfl
 |some v=>rw[hl] at h2;obtain⟨j,rfl⟩:=h2;rfl
end Hp
attribute [go_sem] Zak Zao Za7 Zbk Za6 List.map_nil Za4 Za0
section
variable {P:Program} {D:Bool} {N U:St} {env:Env} {h:List Item} {k:Kx} {v:GV} {Y:Type} {l:List Y}
theorem flt_t {p:Y->Bool} {i:Nat} (hi:i<l.length) (hp:p l[i]=true):(l.take (i+1)).filter p=(l.take i).filter p++[l[i]]:=by
 rw[Zba hi,Zbr,Zbv,hp];rfl
theorem flt_f {p:Y->Bool} {i:Nat} (hi:i<l.length) (hp:p l[i]=false):(l.take (i+1)).filter p=(l.take i).filter p:=by
 rw[Zba hi,Zbr,Zbv,hp];simp
theorem Hx.nil (H:Hx N U h) (d:Kd Y):Hx N U (.th (ow d .nilS ([]:List Y))::h):=Hp.nilS H
theorem Hx.emp {z n:Nat} (H:Hx N U (.box z n []::h)) (d:Kd Y) (hz:z=d.z):Hx N U (.th (ow d (.sl n 0 0) ([]:List Y))::h):=H.hp.toNil 0 rfl hz
theorem A2r {f:Nat} {args:List GV} {w:GV} {U':St} {r:Thg} (i:Nat) (R:Ret P f args U w U') (K:Hp N U' ((h.map Item.t).set i r)) (kk:Hx N U' (h.set i (.th r))->k w (h.set i (.th r)) U'):A50 P N false U f args k:=by
 rw[<- Abp] at K
 exact by_m R K (kk K)
theorem Ed (H:Hx N U h) {g:Bool} {n:Nat} {a x:GV} (e:ldG g n U a=some x):ldX N h U g n a=some x:=by
 unfold ldX orX
 cases h1:ldG g n N a with
 |some y=>have:=Adn h1 H.sub;rw[e] at this;exact this.symm
 |none=>
  show ldY h U g n a=some x
  cases a with
  |ptr b off=>
   simp only[ldY]
   cases hl:look h b with
   |none=>exact e
   |some cs=>
    obtain⟨z,i,h2,_⟩:=Ph hl
    have:=H.hp.pt i h2
    simp only[ldG,this,Zaf] at e
    exact e
  |_=>exact e
theorem A2s:∀ {h:List Item} {n:Nat} {cs:List GV},look h n=some cs->∃ z,∃ i:Nat,h[i]? =some (.box z n cs)
 |[],_,_,e=>by cases e
 | .box z m cs'::h,n,cs,e=>by
  simp only[look] at e
  by_cases hm:m=n
  ·rw[if_pos hm] at e
   injection e with e;subst e hm
   exact⟨z,0,rfl⟩
  ·rw[if_neg hm] at e
   obtain⟨z',i,h1⟩:=A2s e
   exact⟨z',i+1,by simpa using h1⟩
 | .th r::h,n,cs,e=>by
  obtain⟨z',i,h1⟩:=A2s (h:=h) (by simpa [look] using e)
  exact⟨z',i+1,by simpa using h1⟩
theorem no_box (H:Hx N U h) {i:Nat} {r:Thg} (hi:h[i]? =some (.th r)) {b:Nat} (hb:∀ fp,r.P U fp->b∈fp):look h b=none:=by
 cases hl:look h b with
 |none=>rfl
 |some cs=>
  obtain⟨z,j,h1⟩:=A2s hl
  obtain⟨_,fp,hs,hn,_⟩:=H.hp
  obtain⟨F,k1,k2,k3,_⟩:=A2p hs hn
  have hj:=k1 j (pt z b cs) (by rw[Za1,h1];rfl)
  have hr:=k1 i _ (at_t hi)
  have hij:i≠j:=by
   rintro rfl
   rw[hi] at h1;cases h1
  have h2:b∈F j:=by rw[hj.1];exact Zah
  exact(k3 i j hij b (hb _ hr) h2).elim
end
theorem Gt {fps:List (List Nat)} {j:Nat} {fx:List Nat} {g:Nat} (h:g∈(fps.set j fx).flatten):g∈fps.flatten∨g∈fx:=by
 obtain⟨f,hf,hg⟩:=Zbl.1 h
 rcases List.mem_or_eq_of_mem_set hf with h1|h1
 ·exact .inl (Zbl.2 ⟨f,h1,hg⟩)
 ·exact .inr (h1 ▸ hg)
theorem Lh:∀ {fps:List (List Nat)} {j:Nat} {fx:List Nat},fps.flatten.Nodup->fx.Nodup->(∀ g∈fx,g∉fps.flatten)->(fps.set j fx).flatten.Nodup
 |[],j,fx,_,_,_=>by simp
 |f::fps,0,fx,h,hx,hd=>by
  rw[Zal,Zaq] at h
  rw[Zak,Zal,Zaq]
  refine⟨hx,h.2.1,fun a ha b hb e=> ?_⟩
  subst e
  exact hd a ha (by rw[Zal];exact Zat _ hb)
 |f::fps,j+1,fx,h,hx,hd=>by
  rw[Zal,Zaq] at h
  rw[Zao,Zal,Zaq]
  refine⟨h.1,Lh h.2.1 hx fun g hg hm=>hd g hg (by rw[Zal];exact Zat _ hm),fun a ha b hb e=> ?_⟩
  subst e
  rcases Gt hb with h1|h1
  ·exact h.2.2 a ha a h1 rfl
  ·exact hd a h1 (by rw[Zal];exact Za3 _ ha)
section os
variable {Y:Type} {d:Kd Y} {N U:St} {l:List Y} {v:GV} {fp:List Nat}
theorem Aap {css:List (List GV)} {fps:List (List Nat)} (h:All3 (d.O U) l css fps):∀ c∈css,c.length=d.z:=by
 induction h with
 |nil=>simp
 |cons h _ ih=>
  intro c hc
  rcases Zbe.1 hc with rfl|hc
  ·exact d.len (d.rd h)
  ·exact ih c hc
theorem OS.setc {x:Y} {cs:List GV} {fx:List Nat} (h:OS d U l v fp) (hx:d.O U x cs fx) (hn:(fp++fx).Nodup) (hlt:∀ g∈fp++fx,g<U.length) (hz:0<d.z) {j:Nat} (hj:j<l.length):
  ∃ U' fp',stG d.z U (atz d.z v j) (.agg cs)=some (.tup [],U')/\OS d U' (l.set j x) v fp'/\Turn U U' (fp++fx) fp':=by
 have hcl:=d.len (d.rd hx)
 rcases h with⟨rfl,rfl,rfl⟩|⟨g,pre,css,post,fps,rfl,hB,hA,rfl⟩
 ·simp at hj
 ·rw[Za4,Zbh] at hn
  obtain⟨hg,hn⟩:=hn
  rw[Zaq] at hn
  have hgt:g<U.length:=hlt g (by simp)
  have hfl:=A2g hA
  obtain⟨c,f,hc,_,_⟩:=hA.get (j:=j) (a:=l[j]) (by simp[hj])
  have hcz:=Aap hA c (Zbp hc)
  have hm:(j+1)*d.z<=l.length*d.z:=Nat.mul_le_mul_right _ hj
  rw[Nat.add_mul,Nat.one_mul] at hm
  have e1:Al css.flatten (j*d.z+0) cs=(css.set j cs).flatten:=by
   rw[Sg (Aap hA) hc (by omega)]
   congr 2
   unfold Al
   rw[Zbb,Za0,List.drop_eq_nil_of_le (by omega),Zaa]
  have e2:Al (pre++css.flatten++post) (pre.length+(j*d.z+0)) cs=pre++(css.set j cs).flatten++post:=by
   rw[Pf (by omega),e1]
  have keep:∀ g',g'≠g->bk (U.set g (some (.row d.z (pre++(css.set j cs).flatten++post)))) g'=bk U g':=fun g' hne=>Gh (Ne.symm hne)
  refine⟨U.set g (some (.row d.z (pre++(css.set j cs).flatten++post))),g::(fps.set j fx).flatten,?_,.inr ⟨g,pre,css.set j cs,post,fps.set j fx,by simp,Br.2 (by rw[Zbm hgt]),?_,rfl⟩,⟨?_,?_,by simp,?_⟩⟩
  ·simp only[atz,stG,Br.1 hB]
   rw[if_pos ⟨by simp only[List.length_append];omega,hz,hcl⟩]
   rw[Nat.add_zero] at e2
   rw[show (GV.agg cs).cells=cs from rfl,e2]
  ·refine(hA.set j hx).imp fun a b c hc ho=>d.loc ho fun g' hg'=>keep g' fun e=> ?_
   subst e
   rcases Gt (Zbl.2 ⟨c,hc,hg'⟩) with h1|h1
   ·exact hg (Za3 _ h1)
   ·exact hg (Zat _ h1)
  ·rw[Zbh]
   refine⟨fun h1=> ?_,Lh hn.1 hn.2.1 fun g' h1 h2=>hn.2.2 g' h2 g' h1 rfl⟩
   rcases Gt h1 with h1|h1
   ·exact hg (Za3 _ h1)
   ·exact hg (Zat _ h1)
  ·intro g' hg'
   refine .inl ?_
   rcases Zbe.1 hg' with rfl|h1
   ·simp
   ·rcases Gt h1 with h1|h1
    ·simp only[Za4,Zbe,Zbo];exact .inr (.inl h1)
    ·simp only[Za4,Zbe,Zbo];exact .inr (.inr h1)
  ·intro g' hg' hne
   exact keep g' fun e=>hne (by rw[e];simp)
theorem OS.fresh {x0:Y} {ze:List GV} {n len:Nat} (h0:∀ U,d.O U x0 ze []) (hB:bk U n=some (.row d.z (reps len ze))):OS d U (Zae len x0) (.sl n 0 len) [n]:=by
 refine .inr ⟨n,[],Zae len ze,[],Zae len [],by simp,by rw[hB];simp[reps],?_,?_⟩
 ·clear hB
  induction len with
  |zero=>exact .nil
  |succ k ih=>exact .cons (h0 U) ih
 ·simp
end os
section rules
variable {P:Program} {D:Bool} {N U:St} {h:List Item} {k:Kx} {v:GV} {Y:Type} {l:List Y} {d:Kd Y}
theorem Hx.mk {x0:Y} {ze:List GV} {n len z:Nat} (H:Hx N U (.box z n (reps len ze)::h)) (d:Kd Y) (hz:z=d.z) (h0:∀ U,d.O U x0 ze []):Hx N U (.th (ow d (.sl n 0 len) (Zae len x0))::h):=
 H.hp.conv fun fp hp=>by
  obtain⟨rfl,hB⟩:=hp
  exact OS.fresh h0 (hz ▸ hB)
theorem Adt {x:Y} {cs:List GV} (H:Hx N U h) (m i:Nat) (hm:h[m]? =some (.th (own d cs x))) (hi:(h.eraseIdx m)[i]? =some (.th (ow d v l))) (hz:0<d.z) {j:Nat} (hj:j<l.length)
  (kk:∀ U',Hx N U' ((h.eraseIdx m).set i (.th (ow d v (l.set j x))))->k (.tup []) ((h.eraseIdx m).set i (.th (ow d v (l.set j x)))) U'):stX N false h U d.z k (atz d.z v j) (.agg cs):=by
 have H1:=H.hp.pick m (at_t hm)
 rw[Ads] at H1
 have hp:(own d cs x::(h.eraseIdx m).map Item.t).Perm (ow d v l::own d cs x::((h.eraseIdx m).map Item.t).eraseIdx i):=((Hp.pick_perm (at_t hi)).cons _).trans (List.Perm.swap _ _ _)
 obtain⟨a,⟨a1,a2,h1,h2,rfl⟩,hn,hbd,ht⟩:=(H1.perm hp).join.turn
 obtain⟨U',fp',e,ho,hT⟩:=OS.setc h1 h2 hn (fun g hg=>(hbd g hg).2) hz hj
 have H':=Hp.unpick (ht (r':=ow d v (l.set j x)) hT ho) (Zan.1 (at_t hi)).1
 rw[<- Abp] at H'
 have g:genX N false U (stG d.z U (atz d.z v j) (.agg cs)) k:=⟨_,U',_,e,(fun h=>by cases h),H',kk U' H'⟩
 rcases h1 with⟨rfl,_⟩|⟨gb,pre,css,post,fps,rfl,hB,hA,rfl⟩
 ·simp at hj
 ·have hno:look h gb=none:=by
   obtain⟨i0,hi0⟩:∃ i0:Nat,h[i0]? =some (.th (ow d (.sl gb pre.length l.length) l)):=by
    have:=Zbp hi
    have:=List.mem_of_mem_eraseIdx this
    obtain⟨i0,h1,h2⟩:=Zay this
    exact⟨i0,by rw[Zaw h1,h2]⟩
   refine no_box H hi0 fun fp'' ho'=> ?_
   rcases ho' with⟨rfl,_⟩|⟨g',pre',css',post',fps',e',_,_,rfl⟩
   ·simp at hj
   ·injection e' with e1;rw[e1];exact Zah
  show stB N false h U d.z k gb _ (.agg cs) (look h gb)
  rw[hno]
  exact g
end rules
def A54:Fn1:=⟨15,[.t 6],(rg [oV 6 kf] (rg [oM 7 0,oM 8 1,oB 9 .geq 7 8,oM 10 9,jM 11 10 0,jM 12 10 2,jB 13 10 .leq 11 12,oQ 14 10 13,oM 6 14] .ret))⟩
theorem Abq:A4 Tryz.prog 128=some A54:=by kernel_rfl
def A0g:Fn1:=⟨15,[.t 6],(rg [oV 6 kf] (rg [oM 7 0,oM 8 1,oB 9 .geq 7 8,oM 10 9,jM 11 10 0,jM 12 10 2,jB 13 10 .leq 11 12,oQ 14 10 13,oM 6 14] .ret))⟩
theorem A8g:A4 Tryz.prog 109=some A0g:=by kernel_rfl
def A0i:Fn1:=⟨23,[.t 2],(rg [oV 2 kf] (.seq (rg [oV 3 (ki 0)] (oH 0 (.seq (rg [oM 4 3,oM 5 0,o 6 (.len true (.t 5)),oB 7 .lss 4 6] (oJ 7 0)) (.seq (.blk 1 (rg [oM 10 0,oM 11 3,o 12 (.idx (.t 10) (.t 11)),o 13 (.bin .lss (.t 12) (.k (.int .u8 97))),oM 14 13,vM 15 14 0,vM 16 14 3,og 17 14 false (.idx (.t 15) (.t 16)),og 18 14 false (.bin .gtr (.t 17) (.k (.int .u8 122))),oP 19 14 18] (oG 19 (oR 2 kf)))) (.reg [oM 8 3,oZ 9 8 1,oM 3 9]))))) (rg [oM 20 0,o 21 (.len true (.t 20)),o 22 (.call 128 [(.t 21),(ki 1),(ki 8)]),oM 2 22] .ret)))⟩
theorem A8h:A4 Tryz.prog 129=some A0i:=by kernel_rfl
def A0k:Fn1:=⟨19,[.t 2],(rg [oV 2 kf] (.seq (rg [oV 3 (ki 0)] (oH 0 (.seq (rg [oM 4 3,oM 5 0,o 6 (.len true (.t 5)),oB 7 .lss 4 6] (oJ 7 0)) (.seq (.blk 1 (rg [oM 10 0,oM 11 3,o 12 (.idx (.t 10) (.t 11)),o 13 (.cvi .i64 (.t 12)),o 14 (.call 109 [(.t 13),(ki 97),(ki 122)]),oU 15 14] (oG 15 (oR 2 kf)))) (.reg [oM 8 3,oZ 9 8 1,oM 3 9]))))) (rg [oM 16 0,o 17 (.len true (.t 16)),o 18 (.call 109 [(.t 17),(ki 1),(ki 8)]),oM 2 18] .ret)))⟩
theorem A8i:A4 Tryz.prog 108=some A0k:=by kernel_rfl
def A0m:Fn1:=⟨19,[.t 2],(rg [oV 2 kf] (.seq (rg [oV 3 (ki 0)] (oH 0 (.seq (rg [oM 4 3,oM 5 0,oN 6 5,oB 7 .lss 4 6] (oJ 7 0)) (.seq (.blk 1 (rg [oM 10 0,oM 11 3,oI 12 1 10 11,oL 13 12,o 14 (.call 128 [(.t 13),(ki 0),(ki 1000)]),oU 15 14] (oG 15 (oR 2 kf)))) (.reg [oM 8 3,oZ 9 8 1,oM 3 9]))))) (rg [oM 16 0,oN 17 16,oE 18 .eql 17 3,oM 2 18] .ret)))⟩
theorem A8j:A4 Tryz.prog 146=some A0m:=by kernel_rfl
def A0o:Fn1:=⟨18,[.t 2],(rg [oV 2 kf] (.seq (rg [oM 5 0,oN 6 5,oV 7 (ki 0)] (oH 0 (rg [oB 8 .lss 7 6] (.seq (oJ 8 0) (.seq (.blk 1 (rg [oI 9 1 5 7,oL 10 9,oM 4 10] (rg [oM 11 4,o 12 (.call 109 [(.t 11),(ki 0),(ki 1000)]),oU 13 12] (oG 13 (oR 2 kf))))) (.reg [oZ 14 7 1,oM 7 14])))))) (rg [oM 15 0,oN 16 15,oE 17 .eql 16 3,oM 2 17] .ret)))⟩
theorem A8k:A4 Tryz.prog 238=some A0o:=by kernel_rfl
def A56:Fn1:=⟨11,[.t 2],(rg [oX 1 0,oV 2 kf] (rg [oF 3 0 1,oL 4 3,o 5 (.call 128 [(.t 4),(ki 0),(ki 2)]),oM 6 5,jF 7 6 1 1,jL 8 6 7,og 9 6 true (.call 128 [(.t 8),(ki 1),(ki 1000)]),oQ 10 6 9,oM 2 10] .ret))⟩
theorem Abr:A4 Tryz.prog 190=some A56:=by kernel_rfl
def A58:Fn1:=⟨11,[.t 2],(rg [oX 1 0,oV 2 kf] (rg [oF 3 0 1,oL 4 3,o 5 (.call 109 [(.t 4),(ki 0),(ki 2)]),oM 6 5,jF 7 6 1 1,jL 8 6 7,og 9 6 true (.call 109 [(.t 8),(ki 1),(ki 1000)]),oQ 10 6 9,oM 2 10] .ret))⟩
theorem Abs:A4 Tryz.prog 260=some A58:=by kernel_rfl
def A5a:Fn1:=⟨21,[.t 4],(rg [oX 3 1,oV 4 kf] (dw [oM 5 0,oC 6 146 5,oM 7 6,jW 8 7 2 3,jC 9 7 190 8,oQ 10 7 9,oM 11 10,jF 12 11 1 3,jL 13 11 12,jM 14 11 0,jF 15 11 0 3,jL 16 11 15,jI 17 11 1 14 16,jL 18 11 17] [jB 19 11 .leq 13 18,oQ 20 11 19,oM 4 20] .ret))⟩
theorem Abt:A4 Tryz.prog 97=some A5a:=by kernel_rfl
def A5c:Fn1:=⟨21,[.t 4],(rg [oX 3 1,oV 4 kf] (dw [oM 5 0,oC 6 238 5,oM 7 6,jW 8 7 2 3,jC 9 7 260 8,oQ 10 7 9,oM 11 10,jF 12 11 1 3,jL 13 11 12,jM 14 11 0,jF 15 11 0 3,jL 16 11 15,jI 17 11 1 14 16,jL 18 11 17] [jB 19 11 .leq 13 18,oQ 20 11 19,oM 4 20] .ret))⟩
theorem Abu:A4 Tryz.prog 219=some A5c:=by kernel_rfl
theorem Ag {P:Program} {env:Env} {N:St} {K:Kt} {r:List Op1} {d:Option Nat} {D:Bool} {f:Nat} {args:List GV} {b:Bool} (h:Ret P f args N (.bool b) N) (ht:b=true->Ac D P r K (upo env d (.bool true)) N) (hf:b=false->Ac D P r K (upo env d (.bool false)) N):A2f D f args P r K env d N:=by
 cases b with
 |true=>exact A6 h (ht rfl)
 |false=>exact A6 h (hf rfl)
def inB (n a b:Int):Bool:=decide (a<=n)&&decide (n<=b)
theorem Tn {n a b:Int}:inB n a b=true↔a<=n/\n<=b:=by simp[inB]
theorem C8 (N:St) (n a b:Int):Ret Tryz.prog 128 [gi n,gi a,gi b] N (.bool (inB n a b)) N:=by
 refine Ab Abq (Z0z rfl) trivial ?_
 simp +contextual (disch:=omega) only[go_sem,A54,inB]
theorem Bq (N:St) (n a b:Int):Ret Tryz.prog 109 [gi n,gi a,gi b] N (.bool (inB n a b)) N:=by
 refine Ab A8g (Z0z rfl) trivial ?_
 simp +contextual (disch:=omega) only[go_sem,A0g,inB]
def bl (s:ByteArray):List UInt8:=s.data.toList
theorem Jk (s:ByteArray):(bl s).length=s.size:=by
 unfold bl;rw[Array.length_toList];rfl
theorem Adu {s:ByteArray} {i:Nat} (hi:i<(bl s).length):idxG (.str s) (some i)=some (.int .u8 (((bl s)[i].toNat:Nat):Int)):=by
 have h2:i<s.size:=by rw[<- Jk];exact hi
 have e:s[i]? =some (bl s)[i]:=by
  rw[getElem?_pos s i h2];rfl
 simp only[idxG,e,Zax];rfl
theorem u8_lt (b:UInt8):b.toNat<256:=b.toNat_lt
def lowB (b:UInt8):Bool:=inB (b.toNat:Int) 97 122
def Ez (s:ByteArray):Bool:=(bl s).all lowB&&inB s.size 1 8
theorem Gu (N:St) (s:ByteArray) (hs:s.size<=1099511627776):Ret Tryz.prog 129 [.str s] N (.bool (Ez s)) N:=by
 refine Ab A8h (Z0z rfl) trivial ?_
 simp +contextual (disch:=omega) only[go_sem,A0i]
 refine Bc (bl s).length 3 (fun i env U=>env 0= .str s/\((bl s).take i).all lowB=true/\N <+: U) rfl ⟨rfl,rfl,Zab _⟩ ?_ ?_
 ·rintro i env U hi e3 c0 ⟨e0,ha,hp⟩
  have hl:=Jk s
  rw[hl] at c0
  have hf:=fun h=>Cp (p:=lowB) hi h
  have ht:=C6 hi ha
  simp +contextual (disch:=omega) only[go_sem,c0,e0,e3,Adu hi,hp]
  simp only[lowB,inB,Ez] at*
  generalize(((bl s)[i].toNat:Nat):Int)=b at*
  grind
 ·rintro env U e3 c0 ⟨e0,ha,hp⟩
  rw[Zad] at ha
  rw[Jk] at c0 e3
  simp +contextual (disch:=omega) only[go_sem,c0,e0,e3]
  refine A6 (C8 U _ _ _) ?_
  simp +contextual (disch:=omega) only[go_sem,Ez,ha,hp]
theorem Gv (N:St) (s:ByteArray) (hs:s.size<=1099511627776):Ret Tryz.prog 108 [.str s] N (.bool (Ez s)) N:=by
 refine Ab A8i (Z0z rfl) trivial ?_
 simp +contextual (disch:=omega) only[go_sem,A0k]
 refine Bc (bl s).length 3 (fun i env U=>env 0= .str s/\((bl s).take i).all lowB=true/\N <+: U) rfl ⟨rfl,rfl,Zab _⟩ ?_ ?_
 ·rintro i env U hi e3 c0 ⟨e0,ha,hp⟩
  have hl:=Jk s
  rw[hl] at c0
  have hf:=fun h=>Cp (p:=lowB) hi h
  have ht:=C6 hi ha
  have h8:=u8_lt (bl s)[i]
  simp +contextual (disch:=omega) only[go_sem,c0,e0,e3,Adu hi,Agu]
  refine Ag (Bq U _ _ _) (fun h=> ?_) (fun h=> ?_)
  ·simp +contextual (disch:=omega) only[go_sem,e0,e3,hp]
   exact ht h
  ·simp +contextual (disch:=omega) only[go_sem,e0,e3,hp]
   simp[Ez,hf h]
 ·rintro env U e3 c0 ⟨e0,ha,hp⟩
  rw[Zad] at ha
  rw[Jk] at c0 e3
  simp +contextual (disch:=omega) only[go_sem,c0,e0,e3]
  refine A6 (Bq U _ _ _) ?_
  simp +contextual (disch:=omega) only[go_sem,Ez,ha,hp]
def seqB (n:Int):Bool:=inB n 0 1000
def okK (l:List Int):Bool:=l.all seqB&&decide (l.length=3)
theorem Ah5 {l:List Int} (h:okK l=true):l.length=3:=by
 simp only[okK,Zag,decide_eq_true_eq] at h
 exact h.2
theorem Qi (N:St) (v:GV) (l:List Int) (h:RS pI.kd N v l) (hl:l.length<=1099511627776):Ret Tryz.prog 146 [v] N (.bool (okK l)) N:=by
 refine Ab A8j (Z0z rfl) trivial ?_
 simp +contextual (disch:=omega) only[go_sem,A0m]
 refine Bc l.length 3 (fun i env U=>env 0=v/\(l.take i).all seqB=true/\N <+: U) rfl ⟨rfl,rfl,Zab _⟩ ?_ ?_
 ·rintro i env U hi e3 c0 ⟨e0,ha,hp⟩
  have hf:=fun h=>Cp (p:=seqB) hi h
  have ht:=C6 hi ha
  simp +contextual (disch:=omega) only[go_sem,c0,e0,e3,h.len,Hz (h.pre hp) hi]
  refine Ag (C8 U _ _ _) (fun h=> ?_) (fun h=> ?_)
  ·simp +contextual (disch:=omega) only[go_sem,e0,e3,hp]
   exact ht h
  ·simp +contextual (disch:=omega) only[go_sem,e0,e3,hp]
   simp[okK,hf h]
 ·rintro env U e3 c0 ⟨e0,ha,hp⟩
  rw[Zad] at ha
  simp +contextual (disch:=omega) only[go_sem,c0,e0,e3,h.len,hp,okK,ha]
  exact Adf
theorem Qj (N:St) (v:GV) (l:List Int) (h:RS pI.kd N v l) (hl:l.length<=1099511627776):Ret Tryz.prog 238 [v] N (.bool (okK l)) N:=by
 refine Ab A8k (Z0z rfl) trivial ?_
 simp +contextual (disch:=omega) only[go_sem,A0o,h.len]
 refine Bc l.length 7 (fun i env U=>env 0=v/\env 5=v/\env 6=gi l.length/\(l.take i).all seqB=true/\N <+: U) rfl ⟨rfl,rfl,rfl,rfl,Zab _⟩ ?_ ?_
 ·rintro i env U hi e7 c0 ⟨e0,e5,e6,ha,hp⟩
  have hf:=fun h=>Cp (p:=seqB) hi h
  have ht:=C6 hi ha
  simp +contextual (disch:=omega) only[go_sem,c0,e0,e5,e6,e7,h.len,Hz (h.pre hp) hi]
  refine Ag (Bq U _ _ _) (fun h=> ?_) (fun h=> ?_)
  ·simp +contextual (disch:=omega) only[go_sem,e0,e5,e6,e7,hp]
   exact ht h
  ·simp +contextual (disch:=omega) only[go_sem,e0,e5,e6,e7,hp]
   simp[okK,hf h]
 ·rintro env U e7 c0 ⟨e0,e5,e6,ha,hp⟩
  rw[Zad] at ha
  simp +contextual (disch:=omega) only[go_sem,c0,e0,e5,e6,e7,h.len,hp,okK,ha]
  exact Adf
def In (d:Dot):Bool:=inB d.rep 0 2&&inB d.seq 1 1000
theorem A5d {d:Dot}:In d=true↔(0<=d.rep/\d.rep<=2)/\1<=d.seq/\d.seq<=1000:=by simp[In,Tn]
theorem Io (N:St) (d:Dot):Ret Tryz.prog 190 [.agg [gi d.rep,gi d.seq]] N (.bool (In d)) N:=by
 refine Ab Abr (Z0z rfl) trivial ?_
 simp +contextual (disch:=omega) only[go_sem,A56]
 refine Ag (C8 _ _ _ _) (fun h=> ?_) (fun h=> ?_)
 ·simp +contextual (disch:=omega) only[go_sem]
  refine A6 (C8 _ _ _ _) ?_
  simp +contextual (disch:=omega) only[go_sem,In,h]
 ·simp +contextual (disch:=omega) only[go_sem,In,h]
theorem A8l (N:St) (d:Dot):Ret Tryz.prog 260 [.agg [gi d.rep,gi d.seq]] N (.bool (In d)) N:=by
 refine Ab Abs (Z0z rfl) trivial ?_
 simp +contextual (disch:=omega) only[go_sem,A58]
 refine Ag (Bq _ _ _ _) (fun h=> ?_) (fun h=> ?_)
 ·simp +contextual (disch:=omega) only[go_sem]
  refine A6 (Bq _ _ _ _) ?_
  simp +contextual (disch:=omega) only[go_sem,In,h]
 ·simp +contextual (disch:=omega) only[go_sem,In,h]
def at0 (l:List Int) (r:Int):Int:=l.getD r.toNat 0
def Gj (k:List Int) (d:Dot):Bool:=okK k&&In d&&decide (d.seq<=at0 k d.rep)
theorem Adv {k:IntKind} {n:Int} (h:0<=n):B9 (some (.int k n))=some n.toNat:=by simp[B9,h]
theorem Afv {N:St} {v:GV} {l:List Int} {r:Int} (h:RS pI.kd N v l) (hk:okK l=true) (h0:0<=r) (h2:r<=2):(B9 (some (gi r))=some r.toNat/\iadG 1 v (some r.toNat)=some (atz 1 v r.toNat))/\ldG false 1 N (atz 1 v r.toNat)=some (gi (at0 l r)):=by
 have hl:=Ah5 hk
 have hi:r.toNat<l.length:=by omega
 have e:=Hz h hi
 refine⟨⟨Adv h0,e.1⟩,?_⟩
 rw[e.2,at0,List.getD_eq_getElem?_getD,Zaw hi];rfl
theorem To (N:St) (v:GV) (k:List Int) (d:Dot) (h:RS pI.kd N v k) (hl:k.length<=1099511627776):Ret Tryz.prog 97 [v,.agg [gi d.rep,gi d.seq]] N (.bool (Gj k d)) N:=by
 refine Ab Abt (Z0z rfl) trivial ?_
 simp +contextual (disch:=omega) only[go_sem,A5a]
 have h1:=h.pre (pre1 N (some (Blk.row 1 [gi d.rep,gi d.seq])))
 refine Ag (Qi _ v k h1 hl) (fun hk=> ?_) (fun hk=> ?_)
 ·simp +contextual (disch:=omega) only[go_sem]
  refine Ag (Io _ d) (fun hd=> ?_) (fun hd=> ?_)
  ·have hd':=A5d.1 hd
   have hr:=Afv h1 hk hd'.1.1 hd'.1.2
   simp +contextual (disch:=omega) only[go_sem,hr,Gj,hk,hd]
  ·simp +contextual (disch:=omega) only[go_sem,Gj,hk,hd]
 ·simp +contextual (disch:=omega) only[go_sem,Gj,hk]
theorem Tp (N:St) (v:GV) (k:List Int) (d:Dot) (h:RS pI.kd N v k) (hl:k.length<=1099511627776):Ret Tryz.prog 219 [v,.agg [gi d.rep,gi d.seq]] N (.bool (Gj k d)) N:=by
 refine Ab Abu (Z0z rfl) trivial ?_
 simp +contextual (disch:=omega) only[go_sem,A5c]
 have h1:=h.pre (pre1 N (some (Blk.row 1 [gi d.rep,gi d.seq])))
 refine Ag (Qj _ v k h1 hl) (fun hk=> ?_) (fun hk=> ?_)
 ·simp +contextual (disch:=omega) only[go_sem]
  refine Ag (A8l _ d) (fun hd=> ?_) (fun hd=> ?_)
  ·have hd':=A5d.1 hd
   have hr:=Afv h1 hk hd'.1.1 hd'.1.2
   simp +contextual (disch:=omega) only[go_sem,hr,Gj,hk,hd]
  ·simp +contextual (disch:=omega) only[go_sem,Gj,hk,hd]
 ·simp +contextual (disch:=omega) only[go_sem,Gj,hk]
theorem u8_at {N:St} {v:GV} {l:List Int} (h:RS pB.kd N v l):((elems N 1 v).bind fun r=>(F5 r.2).map fun bs=>GV.str ⟨bs.toArray⟩)=some (.str (txt l)):=bts_ok h
def catS (l:List ByteArray):ByteArray:=l.foldl (· ++·) ⟨#[]⟩
theorem A5e (l:List ByteArray) (s:ByteArray):catS (l++[s])=catS l++s:=by simp[catS]
theorem A5f {l:List ByteArray} {k:Nat} (h:∀ s∈l,s.size<=k):(catS l).size<=l.length*k:=by
 have key:∀(l:List ByteArray) (a:ByteArray),(∀ s∈l,s.size<=k)->(l.foldl (· ++·) a).size<=a.size+l.length*k:=by
  intro l
  induction l with
  |nil=>intro a _;simp
  |cons s l ih=>
   intro a hs
   have h1:=ih (a++s) fun x hx=>hs x (Zav _ hx)
   have h2:=hs s Zah
   rw[ByteArray.size_append] at h1
   simp only[List.foldl_cons,Zbd,Nat.add_mul] at*
   omega
 have:=key l ⟨#[]⟩ h
 have e:(⟨#[]⟩:ByteArray).size=0:=rfl
 unfold catS;omega
theorem Mm {Y β:Type} {f:Y->β} {l:List Y} {i:Nat} (h:i<l.length):(l.take (i+1)).map f=(l.take i).map f++[f l[i]]:=by rw[Aw h,Zbf];rfl
theorem Gw:∀(x y:List UInt8),Op.bytesLess x y=decide (x<y)
 |_,[]=>by simp[Op.bytesLess]
 |[],_::_=>by simp[Op.bytesLess]
 |a::x,b::y=>by
  rw[Op.bytesLess,Gw x y,Zaj]
  simp only[Za8,decide_eq_true_eq,Zag,beq_iff_eq,List.cons_lt_cons_iff]
def txLt (a b:ByteArray):Bool:=Op.bytesLess a.toList b.toList
theorem Abv {a b:ByteArray} (h:a.toList=b.toList):a=b:=by
 have:=Hw (a:=a) (b:=b)
 rw[h] at this
 simpa using this.symm
theorem Gx (a:ByteArray):txLt a a=false:=by
 rw[txLt,Gw];simp
theorem Ga {a b c:ByteArray} (h1:txLt a b=true) (h2:txLt b c=true):txLt a c=true:=by
 rw[txLt,Gw,decide_eq_true_eq] at*
 exact List.lt_trans h1 h2
theorem A5g {a b:ByteArray} (h1:txLt a b=true):txLt b a=false:=by
 cases h:txLt b a with
 |false=>rfl
 |true=>have:=Ga h1 h;rw[Gx] at this;cases this
theorem Kr {a b:ByteArray} (h1:txLt a b=false) (h2:txLt b a=false):a=b:=by
 rw[txLt,Gw,decide_eq_false_iff_not] at*
 exact Abv (List.le_antisymm (List.not_lt.1 h2) (List.not_lt.1 h1))
@[go_sem] theorem bin_slss {a b:ByteArray}:binG .lss (.str a) (.str b)=some (.bool (txLt a b)):=(rfl)
@[go_sem] theorem bin_sgtr {a b:ByteArray}:binG .gtr (.str a) (.str b)=some (.bool (txLt b a)):=by
 have:(!(txLt a b||decide (a=b)))=txLt b a:=by
  by_cases h:a=b
  ·subst h;simp[Gx]
  ·cases h1:txLt a b with
   |true=>rw[A5g h1];simp
   |false=>
    cases h2:txLt b a with
    |true=>simp[h]
    |false=>exact absurd (Kr h1 h2) h
 simp only[binG,strG,Hw]
 exact congrArg (fun b=>some (GV.bool b)) this
def cmpI (a b:Int):Int:=if a<b then -1 else if b<a then 1 else 0
def cmpS (a b:ByteArray):Int:=if txLt a b then -1 else if txLt b a then 1 else 0
def orI (a b:Int):Int:=if a=0 then b else a
def Tq (a b:Dot):Int:=orI (cmpI a.rep b.rep) (cmpI a.seq b.seq)
def Ry (a b:Tally):Int:=orI (cmpS a.obj b.obj) (cmpI a.rep b.rep)
def Ck (a b:Dot):Bool:=decide (a.rep<b.rep)||decide (a.rep=b.rep)&&decide (a.seq<b.seq)
def Db (a b:Tally):Bool:=txLt a.obj b.obj||decide (a.obj=b.obj)&&decide (a.rep<b.rep)
theorem A5h {a b:Dot}:decide (Tq a b<0)=Ck a b:=by
 unfold Tq Ck orI cmpI
 rw[Zaj]
 simp only[decide_eq_true_eq,Za8,Zag]
 repeat' split
 all_goals omega
theorem Tr {a b:Dot}:decide (0<=Tq a b)= !Ck a b:=by
 rw[<- A5h,Zaj];simp
theorem Ah6 {a b:Int}:cmpI a b=0↔a=b:=by
 unfold cmpI
 rcases Zbt a b with h|h|h
 ·rw[if_pos h];omega
 ·subst h;simp
 ·rw[if_neg (by omega),if_pos h];omega
theorem Aaq {a b:Int}:cmpI a b<0↔a<b:=by
 unfold cmpI
 rcases Zbt a b with h|h|h
 ·rw[if_pos h];omega
 ·subst h;simp
 ·rw[if_neg (by omega),if_pos h];omega
theorem Af5 {a b:ByteArray}:cmpS a b<0↔txLt a b=true:=by
 unfold cmpS
 cases h1:txLt a b with
 |true=>simp
 |false=>
  cases h2:txLt b a with
  |true=>simp
  |false=>simp
theorem Adw {a b:ByteArray}:cmpS a b=0↔a=b:=by
 unfold cmpS
 cases h1:txLt a b with
 |true=>
  have h3:a≠b:=fun e=>by rw[e,Gx] at h1;cases h1
  simp[h3]
 |false=>
  cases h2:txLt b a with
  |true=>
   have h3:a≠b:=fun e=>by rw[e,Gx] at h2;cases h2
   simp[h3]
  |false=>simp[Kr h1 h2]
theorem A8m {a b:Tally}:decide (Ry a b<0)=Db a b:=by
 unfold Ry Db orI
 rw[Zaj]
 simp only[decide_eq_true_eq,Za8,Zag]
 by_cases h:a.obj=b.obj
 ·rw[if_pos (Adw.2 h),Aaq,h,Gx];simp
 ·rw[if_neg (fun e=>h (Adw.1 e)),Af5];simp[h]
theorem A8n {a b:Tally}:decide (0<=Ry a b)= !Db a b:=by
 rw[<- A8m,Zaj];simp
theorem Jl (a:Dot):Ck a a=false:=by simp[Ck]
theorem Ts {a b c:Dot} (h1:Ck a b=true) (h2:Ck b c=true):Ck a c=true:=by
 simp only[Ck,Za8,Zag,decide_eq_true_eq] at *;omega
def allR (n:Nat) (p:Nat->Bool):Bool:=(List.range n).all p
theorem D5 {n:Nat} {p:Nat->Bool}:allR n p=true↔∀ i,i<n->p i=true:=by simp[allR]
theorem Pm {n i:Nat} {p:Nat->Bool} (hi:i<n) (h:p i=false):allR n p=false:=by
 cases e:allR n p with
 |false=>rfl
 |true=>rw[D5.1 e i hi] at h;cases h
theorem Ks {n:Nat} {p:Nat->Bool} (h:∀ i,i<n->p i=true):allR n p=true:=D5.2 h
theorem Cs {i:Nat} {p:Nat->Bool} (h:∀ j,j<i->p j=true) (hi:p i=true):∀ j,j<i+1->p j=true:=fun j hj=>by
 rcases Zbu j i with h1|h1
 ·exact h j h1
 ·have:j=i:=by omega
  subst this;exact hi
def onI {Y:Type} (l:List Y) (i:Nat) (p:Y->Bool):Bool:=match l[i]? with
 |some x=>p x
 |none=>true
theorem Bx {Y:Type} {l:List Y} {i:Nat} {p:Y->Bool} (hi:i<l.length):onI l i p=p l[i]:=by
 simp only[onI,Zaw hi]
def upI {Y:Type} (lt:Y->Y->Bool) (l:List Y):Nat->Bool
 |0=>true
 |i+1=>onI l i fun a=>onI l (i+1) fun b=>lt a b
theorem Jm {Y:Type} {lt:Y->Y->Bool} {l:List Y} {i:Nat} (h0:i≠0) (hi:i<l.length) (hj:i - 1<l.length):upI lt l i=lt l[i - 1] l[i]:=by
 cases i with
 |zero=>exact absurd rfl h0
 |succ i=>
  simp only[upI,Zbs]
  rw[Bx (by omega),Bx hi]
theorem A2t {Y:Type} {lt:Y->Y->Bool} (ht:∀ a b c,lt a b=true->lt b c=true->lt a c=true) {l:List Y} (h:∀ i,i<l.length->upI lt l i=true):l.Pairwise fun a b=>lt a b=true:=by
 have key:∀(j i:Nat) (hi:i<l.length) (hj:j<l.length),i<j->lt l[i] l[j]=true:=by
  intro j
  induction j with
  |zero=>intro i hi hj h;omega
  |succ j ih=>
   intro i hi hj hij
   have h1:=h (j+1) hj
   rw[Jm (by omega) hj (by omega)] at h1
   simp only[Zbs] at h1
   rcases Zbu i j with h2|h2
   ·exact ht _ _ _ (ih i hi (by omega) h2) h1
   ·have:i=j:=by omega
    subst this;exact h1
 rw[Zbi]
 exact fun i j hi hj hij=>key j i hi hj hij
def tal1 (t:Tally):Bool:=Ez t.obj&&(inB t.rep 0 2&&inB t.sum 0 999999)
def talP (l:List Tally) (i:Nat):Bool:=onI l i tal1&&upI Db l i
def I1 (l:List Tally):Bool:=allR l.length (talP l)&&decide (l.length<=120)
def liv1 (x:Live):Bool:=Ez x.obj&&(Ez x.key&&(inB x.val 0 999999&&(x.map||decide (x.val=0))))
def Gy (a b:Live):Bool:=Ck a.dot b.dot
def livP (l:List Live) (k:List Int) (i:Nat):Bool:=(onI l i fun x=>Gj k x.dot)&&((onI l i liv1)&&upI Gy l i)
def Li (l:List Live) (k:List Int):Bool:=allR l.length (livP l k)&&decide (l.length<=120)
def Abw (l:List Live) (i:Nat):Bool:=(onI l i fun x=>In x.dot)&&((onI l i liv1)&&upI Gy l i)
def Abx (l:List Live):Bool:=allR l.length (Abw l)&&decide (l.length<=120)
def cel1 (x:Cell):Bool:=Ez x.obj&&(inB x.val 0 999999&&inB x.time 1 10000)
def J3 (a b:Cell):Bool:=Ck a.dot b.dot
def celP (l:List Cell) (k:List Int) (i:Nat):Bool:=(onI l i fun x=>Gj k x.dot)&&((onI l i cel1)&&upI J3 l i)
def Jn (l:List Cell) (k:List Int):Bool:=allR l.length (celP l k)&&decide (l.length<=120)
def refD (x:Cell):Bool:=decide (x.ref=⟨0,0⟩)||In x.ref
def Aby (l:List Cell) (i:Nat):Bool:=(onI l i fun x=>In x.dot)&&((onI l i cel1)&&((onI l i refD)&&upI J3 l i))
def Abz (l:List Cell):Bool:=allR l.length (Aby l)&&decide (l.length<=120)
def F0 (l:List Cell) (d:Dot):Option Nat:=l.findIdx? fun c=>decide (c.dot=d)
def ref1 (l:List Cell) (c:Cell):Bool:=decide (c.ref=⟨0,0⟩)||match F0 l c.ref with
 |none=>false
 |some k=>onI l k fun y=>decide (y.obj=c.obj)&&decide (y.time<c.time)
def A0p (l:List Cell):Bool:=l.all (ref1 l)
def C9 (s:State):Bool:=okK s.know&&(I1 s.tallies&&(Li s.lives s.know&&(Jn s.cells s.know&&A0p s.cells)))
def livK (k:List Int) (x:Live):Bool:=Gj k x.dot
def celK (l:List Cell) (k:List Int) (x:Cell):Bool:=Gj k x.dot&&ref1 l x
def Do (s:State):Bool:=okK s.know&&(I1 s.tallies&&(Abx s.lives&&(Abz s.cells&&(s.lives.all (livK s.know)&&s.cells.all (celK s.cells s.know)))))
theorem Mn {k:List Int} {d:Dot} (h:Gj k d=true):In d=true:=by
 simp only[Gj,Zag] at h;exact h.1.2
theorem Dt {l:List Cell} {d:Dot} {k:Nat} (h:F0 l d=some k):∃ hk:k<l.length,l[k].dot=d:=by
 obtain⟨hk,h1,_⟩:=Za9.1 h
 exact⟨hk,by simpa using h1⟩
theorem Ah7 {Y:Type} {l:List Y} {p:Y->Bool}:l.all p=allR l.length fun i=>onI l i p:=by
 rw[Zaj,D5,List.all_eq_true]
 constructor
 ·intro h i hi;rw[Bx hi];exact h _ (Zac hi)
 ·intro h x hx
  obtain⟨i,hi,rfl⟩:=Zay hx
  have:=h i hi
  rwa [Bx hi] at this
theorem A8o (s:State):Do s=C9 s:=by
 unfold Do C9
 cases h1:okK s.know with
 |false=>rfl
 |true=>
  cases h2:I1 s.tallies with
  |false=>rfl
  |true=>
   simp only[Za2]
   rw[Zaj]
   simp only[Zag,Abx,Li,Abz,Jn,A0p,Ah7,D5,decide_eq_true_eq,Abw,livP,Aby,celP]
   constructor
   ·rintro⟨⟨hl,hl2⟩,⟨hc,hc2⟩,hlk,hck⟩
    refine⟨⟨fun i hi=>⟨hlk i hi,(hl i hi).2⟩,hl2⟩,⟨fun i hi=> ?_,hc2⟩,fun i hi=> ?_⟩
    ·have:=hck i hi
     have h4:=hc i hi
     rw[Bx hi,celK] at this
     simp only[Zag] at this
     exact⟨by rw[Bx hi];exact this.1,h4.2.1,h4.2.2.2⟩
    ·have:=hck i hi
     rw[Bx hi] at this ⊢
     rw[celK] at this
     simp only[Zag] at this
     exact this.2
   ·rintro⟨⟨hl,hl2⟩,⟨hc,hc2⟩,hr⟩
    refine⟨⟨fun i hi=>⟨?_,(hl i hi).2⟩,hl2⟩,⟨fun i hi=>⟨?_,(hc i hi).2.1,?_,(hc i hi).2.2⟩,hc2⟩,fun i hi=>(hl i hi).1,fun i hi=> ?_⟩
    ·have:=(hl i hi).1
     rw[Bx hi] at this ⊢
     exact Mn this
    ·have:=(hc i hi).1
     rw[Bx hi] at this ⊢
     exact Mn this
    ·have:=hr i hi
     rw[Bx hi] at this ⊢
     unfold ref1 at this
     unfold refD
     simp only[Za8] at this ⊢
     refine this.imp id fun h=> ?_
     split at h
     ·cases h
     ·rename_i k hk
      obtain⟨hkl,e⟩:=Dt hk
      have:=(hc k hkl).1
      rw[Bx hkl,e] at this
      exact Mn this
    ·have h5:=(hc i hi).1
     have h6:=hr i hi
     rw[Bx hi] at h5 h6 ⊢
     rw[celK,h5,h6];rfl
theorem A8p {l:List Cell} {k:List Int} (h:Jn l k=true):l.Pairwise fun a b=>Ck a.dot b.dot=true:=by
 simp only[Jn,Zag,D5,celP] at h
 exact A2t (lt:=J3) (fun a b c h1 h2=>Ts h1 h2) fun i hi=>(h.1 i hi).2.2
theorem Af6 {l:List Live} {k:List Int} (h:Li l k=true):l.Pairwise fun a b=>Ck a.dot b.dot=true:=by
 simp only[Li,Zag,D5,livP] at h
 exact A2t (lt:=Gy) (fun a b c h1 h2=>Ts h1 h2) fun i hi=>(h.1 i hi).2.2
def plc:Nat->List Cell->List (Dot×Int)
 |_,[]=>[]
 |n,c::l=>(c.dot,(n:Int))::plc (n+1) l
theorem Aar (c:Cell):∀(n:Nat) (l:List Cell),plc n (l++[c])=plc n l++[(c.dot,((n+l.length:Nat):Int))]
 |n,[]=>rfl
 |n,x::l=>by
  simp only[Za4,plc,Aar c (n+1) l,Zbd]
  rw[show n+1+l.length=n+(l.length+1) by omega]
theorem Tt (d:Dot):∀(n:Nat) (l:List Cell),L7 (plc n l) d=(F0 l d).map fun k=>((n+k:Nat):Int)
 |n,[]=>rfl
 |n,x::l=>by
  have ih:=Tt d (n+1) l
  unfold F0 at*
  rw[List.findIdx?_cons]
  by_cases h:x.dot=d
  ·subst h;simp[plc,L7]
  ·have h':d≠x.dot:=fun e=>h e.symm
   have e:L7 (plc n (x::l)) d=L7 (plc (n+1) l) d:=by simp[plc,L7,h']
   rw[e,ih]
   simp only[h,decide_false,Zbq,if_false,Option.map_map]
   congr 1
   funext k
   simp only[Function.comp]
   omega
theorem Ah8 {l:List Cell} (h:l.Pairwise fun a b=>Ck a.dot b.dot=true) {i:Nat} (hi:i<l.length):L7 (plc 0 (l.take i)) l[i].dot=none:=by
 rw[Tt]
 have:F0 (l.take i) l[i].dot=none:=by
  unfold F0
  rw[Zbj]
  intro c hc
  obtain⟨j,hj,rfl⟩:=Zay hc
  rw[Zbw] at hj
  rw[List.getElem_take]
  have:=Zbi.1 h j i (by omega) hi (by omega)
  simp only[decide_eq_false_iff_not]
  intro e
  rw[e,Jl] at this;cases this
 rw[this];rfl
theorem Af7 {l:List Cell} {i:Nat} (hi:i<l.length):plc 0 (l.take (i+1))=plc 0 (l.take i)++[(l[i].dot,(i:Int))]:=by
 rw[Aw hi,Aar,Zbw,show 0+min i l.length=i by omega]
def I2 (l:List Cell) (d:Dot):Int:=match F0 l d with
 |some k=>k
 |none=> -1
theorem A8q {l:List Cell} {d:Dot} {i:Nat} (hi:i<l.length) (h:∀ j (hj:j<i),(l[j]'(by omega)).dot≠d) (he:l[i].dot=d):F0 l d=some i:=by
 unfold F0
 rw[Za9]
 exact⟨hi,by simpa using he,fun j hj=>by simpa using h j hj⟩
theorem A8r {l:List Cell} {d:Dot} (h:∀ j (hj:j<l.length),l[j].dot≠d):F0 l d=none:=by
 unfold F0
 rw[Zbj]
 intro c hc
 obtain⟨j,hj,rfl⟩:=Zay hc
 simpa using h j hj
@[go_sem] theorem bit_tup2 {l:List GV}:(GV.tup l).bit=none:=(rfl)
theorem Tu {P:Program} {D:Bool} {os:List Op1}:∀ {K:Env->St->Prop} {env:Env} {N:St},Ac D P os K env N->Ac D P os (fun env' N'=>K env' N'/\N.length<=N'.length) env N:=by
 induction os with
 |nil=>intro K env N h;exact⟨h,Zar _⟩
 |cons o r ih=>
  intro K env N h
  simp only[Ac] at h ⊢
  split at h
  ·rename_i hw
   rw[if_pos hw]
   obtain⟨v,N',hs,hp,hk⟩:=h
   refine⟨v,N',hs,hp,Bj (ih hk) fun env' N1 hq=>⟨hq.1,?_⟩⟩
   have:=Rv hs
   omega
  ·rename_i hw
   rw[if_neg hw]
   exact ih h
theorem vc_len {P:Program} {d:Cd}:∀ {Q:Ex->Env->St->Prop} {env:Env} {N:St},vc P d Q env N->vc P d (fun e env' N'=>Q e env' N'/\N.length<=N'.length) env N:=by
 induction d with
 |skip=>intro Q env N h;exact⟨h,Zar _⟩
 |reg ops=>intro Q env N h;exact Tu h
 |drw xs ys=>
  intro Q env N h
  refine Bj (Tu h) fun env1 N1 h1=>Bj (Tu h1.1) fun env2 N2 h2=>⟨h2.1,?_⟩
  have:=h1.2
  have:=h2.2
  omega
 |seq a b iha ihb=>
  intro Q env N h
  refine Ao (d:=a) (iha h) fun e env1 N1 he=> ?_
  cases e with
  |nxt=>exact Ao (ihb he.1) fun e env2 N2 h2=>⟨h2.1,Zas he.2 h2.2⟩
  |ext j=>exact he
  |ret=>exact he
 |cnd c a b iha ihb=>
  intro Q env N h
  obtain⟨t,ht,h1,h2⟩:=h
  exact⟨t,ht,fun e=>iha (h1 e),fun e=>ihb (h2 e)⟩
 |blk id a ih=>
  intro Q env N h
  refine Ao (d:=a) (ih h) fun e env1 N1 he=> ?_
  cases e with
  |nxt=>exact he
  |ext j=>
   obtain⟨h1,h2⟩:=he
   simp only at h1 ⊢
   split at h1
   ·rename_i hj;rw[if_pos hj];exact⟨h1,h2⟩
   ·rename_i hj;rw[if_neg hj];exact⟨h1,h2⟩
  |ret=>exact he
 |lop a ih=>
  intro Q env N h
  obtain⟨I,μ,hI,hs⟩:=h
  refine⟨fun env1 N1=>I env1 N1/\N.length<=N1.length,μ,⟨hI,Zar _⟩,fun env1 N1 hi=>Ao (ih (hs env1 N1 hi.1)) fun e env2 N2 he=> ?_⟩
  cases e with
  |nxt=>exact⟨⟨he.1.1,Zas hi.2 he.2⟩,he.1.2⟩
  |ext j=>exact⟨he.1,Zas hi.2 he.2⟩
  |ret=>exact⟨he.1,Zas hi.2 he.2⟩
 |ext id=>intro Q env N h;exact⟨h,Zar _⟩
 |ret=>intro Q env N h;exact⟨h,Zar _⟩
theorem Fm {P:Program} {f:Nat} {F:Fn1} {args:List GV} {N:St} {Post:GV->St->Prop} (hF:A4 P f=some F) (hl:args.length<=F.n)
  (h:vc P F.c (fun e env U=>Sa e=true/\∃ r,resG env U F.rs=some r/\Post r U) (env0 args) N):∃ r U,Ret P f args N r U/\Post r U:=
 Ap hF hl (Ao (vc_len h) fun e env U he=>⟨he.1.1,by obtain⟨⟨_,r,h1,h2⟩,h3⟩:=he;exact⟨r,h1,h3,h2⟩⟩)
def Jp:Fn1:=⟨6,[.t 2],(rg [oV 2 kf] (rg [oM 3 0,oM 4 0,oB 5 .neq 3 4,oM 2 5] .ret))⟩
theorem Rj:A4 Tryz.prog 315=some Jp:=by kernel_rfl
def Ha:Fn1:=⟨6,[.t 2],(rg [oV 2 kf] (rg [oM 3 0,oM 4 0,oB 5 .neq 3 4,oM 2 5] .ret))⟩
theorem Lr:A4 Tryz.prog 317=some Ha:=by kernel_rfl
def I4:Fn1:=⟨20,[.t 4],(rg [oV 4 (ki 0)] (rg [oM 7 0,oC 8 315 7,oM 5 8] (rg [oM 9 1,oC 10 315 9,oM 6 10] (.seq (rg [oM 11 5] (oG 11 (.seq (rg [oM 12 6] (oG 12 (oR 4 (ki 0)))) (rg [o 4 (.mov (ki (-1)))] .ret)))) (.seq (rg [oM 13 6] (oG 13 (oR 4 (ki 1)))) (.seq (rg [oM 14 0,oM 15 1,oB 16 .lss 14 15] (oG 16 (rg [o 4 (.mov (ki (-1)))] .ret))) (.seq (rg [oM 17 0,oM 18 1,oB 19 .gtr 17 18] (oG 19 (oR 4 (ki 1)))) (oR 4 (ki 0)))))))))⟩
theorem Mo:A4 Tryz.prog 296=some I4:=by kernel_rfl
def Fx:Fn1:=⟨20,[.t 4],(rg [oV 4 (ki 0)] (rg [oM 7 0,oC 8 317 7,oM 5 8] (rg [oM 9 1,oC 10 317 9,oM 6 10] (.seq (rg [oM 11 5] (oG 11 (.seq (rg [oM 12 6] (oG 12 (oR 4 (ki 0)))) (rg [o 4 (.mov (ki (-1)))] .ret)))) (.seq (rg [oM 13 6] (oG 13 (oR 4 (ki 1)))) (.seq (rg [oM 14 0,oM 15 1,oB 16 .lss 14 15] (oG 16 (rg [o 4 (.mov (ki (-1)))] .ret))) (.seq (rg [oM 17 0,oM 18 1,oB 19 .gtr 17 18] (oG 19 (oR 4 (ki 1)))) (oR 4 (ki 0)))))))))⟩
theorem Jq:A4 Tryz.prog 295=some Fx:=by kernel_rfl
def Ql:Fn1:=⟨18,[.t 2],(rg [oV 2 (ki 0)] (rg [oV 3 (ki 0)] (.seq (rg [oM 6 0,oN 7 6,oV 8 (ki 0)] (oH 0 (rg [oB 9 .lss 8 7] (.seq (oJ 9 0) (.seq (.blk 1 (rg [oI 10 1 6 8,oL 11 10,oM 5 11] (rg [oM 12 5,oM 13 3,oB 14 .neq 12 13] (oG 14 (rg [oM 15 5,oM 2 15] .ret))))) (.reg [oZ 16 8 1,oM 8 16])))))) (rg [oM 17 3,oM 2 17] .ret))))⟩
theorem A2u:A4 Tryz.prog 294=some Ql:=by kernel_rfl
def Js:Fn1:=⟨17,[.t 4],(rg [oX 2 0,oX 3 1,oV 4 (ki 0)] (dw [oF 5 0 2,oL 6 5,oF 7 0 3,oL 8 7,oD 9 296 6 8,oF 10 1 2,oL 11 10,oF 12 1 3,oL 13 12] [oD 14 296 11 13,o 15 (.lit 1 2 [z0,z0] [(0,1,(.t 9)),(1,1,(.t 14))]),oC 16 294 15,oM 4 16] .ret))⟩
theorem Rk:A4 Tryz.prog 263=some Js:=by kernel_rfl
def Hc:Fn1:=⟨17,[.t 4],(rg [oX 2 0,oX 3 1,oV 4 (ki 0)] (dw [oF 5 0 2,oL 6 5,oF 7 0 3,oL 8 7,oD 9 295 6 8,oF 10 1 2,oL 11 10,oF 12 1 3,oL 13 12] [oD 14 296 11 13,o 15 (.lit 1 2 [z0,z0] [(0,1,(.t 9)),(1,1,(.t 14))]),oC 16 294 15,oM 4 16] .ret))⟩
theorem Ls:A4 Tryz.prog 262=some Hc:=by kernel_rfl
def Mq:Fn1:=⟨24,[.t 4],(rg [oX 2 0,oX 3 1,oV 4 kf] (rg [oF 5 0 2,oL 6 5,oF 7 0 3,oL 8 7,oB 9 .lss 6 8,oM 10 9,vF 11 10 0 2,vL 12 10 11,vF 13 10 0 3,vL 14 10 13,vB 15 10 .eql 12 14,vM 16 10 15,jF 17 16 1 2,jL 18 16 17,jF 19 16 1 3,jL 20 16 19,jB 21 16 .lss 18 20,og 22 10 false (.pick (.t 16) (.t 21) kf),oP 23 10 22,oM 4 23] .ret))⟩
theorem Z3:A4 Tryz.prog 233=some Mq:=by kernel_rfl
theorem F8 (N:St) (a:Int):Ret Tryz.prog 315 [gi a] N (.bool false) N:=by
 refine Ab Rj (Z0z rfl) trivial ?_
 simp +contextual (disch:=omega) only[go_sem,Jp,bne_self_eq_false]
theorem Dc (N:St) (a:ByteArray):Ret Tryz.prog 317 [.str a] N (.bool false) N:=by
 refine Ab Lr (Z0z rfl) trivial ?_
 simp +contextual (disch:=omega) only[go_sem,Ha,decide_true,Bool.not_true]
theorem Ca (N:St) (a b:Int):Ret Tryz.prog 296 [gi a,gi b] N (gi (cmpI a b)) N:=by
 refine Ab Mo (Z0z rfl) trivial ?_
 simp +contextual (disch:=omega) only[go_sem,I4]
 refine A6 (F8 _ _) ?_
 simp +contextual (disch:=omega) only[go_sem]
 refine A6 (F8 _ _) ?_
 simp +contextual (disch:=omega) only[go_sem]
 unfold cmpI
 grind
theorem J7 (N:St) (a b:ByteArray):Ret Tryz.prog 295 [.str a,.str b] N (gi (cmpS a b)) N:=by
 refine Ab Jq (Z0z rfl) trivial ?_
 simp +contextual (disch:=omega) only[go_sem,Fx]
 refine A6 (Dc _ _) ?_
 simp +contextual (disch:=omega) only[go_sem]
 refine A6 (Dc _ _) ?_
 simp +contextual (disch:=omega) only[go_sem]
 unfold cmpS
 grind
def orL:List Int->Int
 |[]=>0
 |x::l=>if x=0 then orL l else x
theorem Hk (N:St) (v:GV) (l:List Int) (h:RS pI.kd N v l) (hl:l.length<=1099511627776):Ret Tryz.prog 294 [v] N (gi (orL l)) N:=by
 refine Ab A2u (Z0z rfl) trivial ?_
 simp +contextual (disch:=omega) only[go_sem,Ql,h.len]
 refine Bc l.length 8 (fun i env U=>env 3=gi 0/\env 6=v/\env 7=gi l.length/\orL (l.drop i)=orL l/\N <+: U) rfl ⟨rfl,rfl,rfl,rfl,Zab _⟩ ?_ ?_
 ·rintro i env U hi e8 c0 ⟨e3,e6,e7,hd,hp⟩
  rw[List.drop_eq_getElem_cons hi,orL] at hd
  simp +contextual (disch:=omega) only[go_sem,c0,e3,e6,e7,e8,Hz (h.pre hp) hi,hp]
  grind
 ·rintro env U e8 c0 ⟨e3,e6,e7,hd,hp⟩
  rw[List.drop_length] at hd
  simp +contextual (disch:=omega) only[go_sem,c0,e3,e6,e7,e8,hp]
  rw[<- hd];rfl
theorem A8s (a b:Int):orL [a,b]=orI a b:=by
 unfold orI
 simp only[orL]
 split
 ·split
  ·omega
  ·rfl
 ·rfl
theorem D6 (N:St) (a b:Dot):Ret Tryz.prog 263 [.agg [gi a.rep,gi a.seq],.agg [gi b.rep,gi b.seq]] N (gi (Tq a b)) N:=by
 refine Ab Rk (Z0z rfl) trivial ?_
 simp +contextual (disch:=omega) only[go_sem,Js]
 refine A6 (Ca _ _ _) ?_
 simp +contextual (disch:=omega) only[go_sem]
 refine A6 (Ca _ _ _) ?_
 simp +contextual (disch:=omega) only[go_sem]
 refine A6 (Hk _ _ [cmpI a.rep b.rep,cmpI a.seq b.seq] (Adj (p:=pI) _ _ rfl rfl rfl) (by simp)) ?_
 simp +contextual (disch:=omega) only[go_sem,A8s]
 rfl
theorem L8 (N:St) (a b:Tally):Ret Tryz.prog 262 [.agg [.str a.obj,gi a.rep,gi a.sum],.agg [.str b.obj,gi b.rep,gi b.sum]] N (gi (Ry a b)) N:=by
 refine Ab Ls (Z0z rfl) trivial ?_
 simp +contextual (disch:=omega) only[go_sem,Hc]
 refine A6 (J7 _ _ _) ?_
 simp +contextual (disch:=omega) only[go_sem]
 refine A6 (Ca _ _ _) ?_
 simp +contextual (disch:=omega) only[go_sem]
 refine A6 (Hk _ _ [cmpS a.obj b.obj,cmpI a.rep b.rep] (Adj (p:=pI) _ _ rfl rfl rfl) (by simp)) ?_
 simp +contextual (disch:=omega) only[go_sem,A8s]
 rfl
theorem Ee (N:St) (a b:Dot):Ret Tryz.prog 233 [.agg [gi a.rep,gi a.seq],.agg [gi b.rep,gi b.seq]] N (.bool (Ck a b)) N:=by
 refine Ab Z3 (Z0z rfl) trivial ?_
 simp +contextual (disch:=omega) only[go_sem,Mq]
 unfold Ck
 grind
def Lk:Fn1:=⟨69,[.t 2],(rg [oV 2 kf] (.seq (rg [oV 3 (ki 0)] (oH 0 (.seq (rg [oM 5 3,oM 6 0,oN 7 6,oB 8 .lss 5 7] (oJ 8 0)) (.seq (.blk 1 (rg [oM 11 0,oM 12 3,oI 13 3 11 12,oW 14 3 13,o 4 (.new [s0,z0,z0]),oS 3 4 14] (.seq (rg [oF 15 0 4,oL 16 15,oC 17 129 16,oU 18 17,oM 19 18,vF 20 19 1 4,vL 21 19 20,og 22 19 false (.call 128 [(.t 21),(ki 0),(ki 2)]),vU 23 19 22,oP 24 19 23,oM 25 24,vF 26 25 2 4,vL 27 25 26,og 28 25 false (.call 128 [(.t 27),(ki 0),(ki 999999)]),vU 29 25 28,oP 30 25 29] (oG 30 (oR 2 kf))) (dw [oM 31 3,oE 32 .gtr 31 0,oM 33 32,jM 34 33 0,jM 35 33 3,jE 36 33 .sub 35 1,jI 37 33 3 34 36,jF 38 33 0 37,jL 39 33 38,jF 40 33 0 4,jL 41 33 40,jB 42 33 .gtr 39 41,jM 43 33 42,vM 44 43 0,vM 45 43 3,vE 46 43 .sub 45 1,vI 47 43 3 44 46,vF 48 43 0 47,vL 49 43 48,vF 50 43 0 4,vL 51 43 50,vB 52 43 .eql 49 51,vM 53 43 52,jM 54 53 0,jM 55 53 3,jE 56 53 .sub 55 1,jI 57 53 3 54 56,jF 58 53 1 57,jL 59 53 58,jF 60 53 1 4,jL 61 53 60] [jB 62 53 .geq 59 61,og 63 43 false (.pick (.t 53) (.t 62) kf),og 64 33 true (.pick (.t 43) kt (.t 63)),oQ 65 33 64] (oG 65 (oR 2 kf)))))) (.reg [oM 9 3,oZ 10 9 1,oM 3 10]))))) (rg [oM 66 0,oN 67 66,oE 68 .leq 67 120,oM 2 68] .ret)))⟩
theorem Tv:A4 Tryz.prog 147=some Lk:=by kernel_rfl
def Ms:Fn1:=⟨46,[.t 2],(rg [oV 2 kf] (.seq (rg [oM 5 0,oN 6 5,oV 7 (ki 0)] (oH 0 (rg [oB 8 .lss 7 6] (.seq (oJ 8 0) (.seq (.blk 1 (rg [oM 9 7,oI 10 3 5 7,oW 11 3 10,o 4 (.new [s0,z0,z0]),oM 3 9,oS 3 4 11] (dw [oF 12 0 4,oL 13 12,oC 14 108 13,oU 15 14,oM 16 15,vF 17 16 1 4,vL 18 16 17,og 19 16 false (.call 109 [(.t 18),(ki 0),(ki 2)]),vU 20 16 19,oP 21 16 20,oM 22 21,vF 23 22 2 4,vL 24 22 23,og 25 22 false (.call 109 [(.t 24),(ki 0),(ki 999999)]),vU 26 22 25,oP 27 22 26,oM 28 27,vM 29 28 3,vE 30 28 .gtr 29 0,vM 31 28 30,jM 32 31 0,jM 33 31 3,jE 34 31 .sub 33 1,jI 35 31 3 32 34,jW 36 31 3 35,jW 37 31 3 4] [jD 38 31 262 36 37,jE 39 31 .geq 38 0,og 40 28 false (.pick (.t 31) (.t 39) kf),oP 41 28 40] (oG 41 (oR 2 kf))))) (.reg [oZ 42 7 1,oM 7 42])))))) (rg [oM 43 0,oN 44 43,oE 45 .leq 44 120,oM 2 45] .ret)))⟩
theorem Z4:A4 Tryz.prog 239=some Ms:=by kernel_rfl
def Qn:Fn1:=⟨66,[.t 2],(rg [oV 2 kf] (.seq (rg [oV 3 (ki 0)] (oH 0 (.seq (rg [oM 5 3,oM 6 0,oN 7 6,oB 8 .lss 5 7] (oJ 8 0)) (.seq (.blk 1 (rg [oM 11 0,oM 12 3,oI 13 6 11 12,oW 14 6 13,o 4 (.new [(.bool false),s0,s0,z0,z0,z0]),oS 6 4 14] (dw [oF 15 4 4,oW 16 2 15,oC 17 190 16,oU 18 17,oM 19 18,vF 20 19 1 4,vL 21 19 20,vC 22 19 129 21,vU 23 19 22,oP 24 19 23,oM 25 24,vF 26 25 2 4,vL 27 25 26,vC 28 25 129 27,vU 29 25 28,oP 30 25 29,oM 31 30,vF 32 31 3 4,vL 33 31 32,og 34 31 false (.call 128 [(.t 33),(ki 0),(ki 999999)]),vU 35 31 34,oP 36 31 35,oM 37 36,vF 38 37 0 4,vL 39 37 38,vU 40 37 39,vM 41 37 40,jF 42 41 3 4,jL 43 41 42,jE 44 41 .neq 43 0,og 45 37 false (.pick (.t 41) (.t 44) kf),oP 46 37 45,oM 47 46,vM 48 47 3,vE 49 47 .gtr 48 0,vM 50 47 49,jM 51 50 0,jM 52 50 3,jE 53 50 .sub 52 1,jI 54 50 6 51 53,jF 55 50 4 54,jW 56 50 2 55,jF 57 50 4 4,jW 58 50 2 57] [jD 59 50 233 56 58,jU 60 50 59,og 61 47 false (.pick (.t 50) (.t 60) kf),oP 62 47 61] (oG 62 (oR 2 kf))))) (.reg [oM 9 3,oZ 10 9 1,oM 3 10]))))) (rg [oM 63 0,oN 64 63,oE 65 .leq 64 120,oM 2 65] .ret)))⟩
theorem A2v:A4 Tryz.prog 148=some Qn:=by kernel_rfl
def Tx:Fn1:=⟨65,[.t 4],(rg [oV 4 kf] (.seq (rg [oM 7 0,oN 8 7,oV 9 (ki 0)] (oH 0 (rg [oB 10 .lss 9 8] (.seq (oJ 10 0) (.seq (.blk 1 (rg [oM 11 9,oI 12 6 7 9,oW 13 6 12,o 6 (.new [(.bool false),s0,s0,z0,z0,z0]),oM 5 11,oS 6 6 13] (.seq (rg [oM 14 1,oF 15 4 6,oW 16 2 15,oD 17 219 14 16,oU 18 17,oM 19 18,vF 20 19 1 6,vL 21 19 20,vC 22 19 108 21,vU 23 19 22,oP 24 19 23,oM 25 24,vF 26 25 2 6,vL 27 25 26,vC 28 25 108 27,vU 29 25 28,oP 30 25 29,oM 31 30,vF 32 31 3 6,vL 33 31 32,og 34 31 false (.call 109 [(.t 33),(ki 0),(ki 999999)]),vU 35 31 34,oP 36 31 35,oM 37 36,vF 38 37 0 6,vL 39 37 38,vU 40 37 39,vM 41 37 40,jF 42 41 3 6,jL 43 41 42,jE 44 41 .neq 43 0,og 45 37 false (.pick (.t 41) (.t 44) kf),oP 46 37 45] (oG 46 (oR 4 kf))) (dw [oM 47 5,oE 48 .gtr 47 0,oM 49 48,jM 50 49 0,jM 51 49 5,jE 52 49 .sub 51 1,jI 53 49 6 50 52,jF 54 49 4 53,jW 55 49 2 54,jF 56 49 4 6,jW 57 49 2 56] [jD 58 49 263 55 57,jE 59 49 .geq 58 0,oQ 60 49 59] (oG 60 (oR 4 kf)))))) (.reg [oZ 61 9 1,oM 9 61])))))) (rg [oM 62 0,oN 63 62,oE 64 .leq 63 120,oM 4 64] .ret)))⟩
theorem A5i:A4 Tryz.prog 240=some Tx:=by kernel_rfl
def Qp:Fn1:=⟨68,[.t 2],(rg [oV 2 kf] (.seq (rg [oV 3 (ki 0)] (oH 0 (.seq (rg [oM 5 3,oM 6 0,oN 7 6,oB 8 .lss 5 7] (oJ 8 0)) (.seq (.blk 1 (rg [oM 11 0,oM 12 3,oI 13 8 11 12,oW 14 8 13,o 4 (.new [s0,z0,z0,z0,z0,z0,z0,(.bool false)]),oS 8 4 14] (dw [oF 15 1 4,oW 16 2 15,oC 17 190 16,oU 18 17,oM 19 18,vF 20 19 0 4,vL 21 19 20,vC 22 19 129 21,vU 23 19 22,oP 24 19 23,oM 25 24,vF 26 25 3 4,vL 27 25 26,og 28 25 false (.call 128 [(.t 27),(ki 1),(ki 10000)]),vU 29 25 28,oP 30 25 29,oM 31 30,vF 32 31 6 4,vL 33 31 32,og 34 31 false (.call 128 [(.t 33),(ki 0),(ki 999999)]),vU 35 31 34,oP 36 31 35,oM 37 36,vF 38 37 4 4,vW 39 37 2 38,og 40 37 false (.build [z0,z0] []),og 41 37 false (.eqs true [.i .i64,.i .i64] (.t 39) (.t 40)),vM 42 37 41,jF 43 42 4 4,jW 44 42 2 43,jC 45 42 190 44,jU 46 42 45,og 47 37 false (.pick (.t 42) (.t 46) kf),oP 48 37 47,oM 49 48,vM 50 49 3,vE 51 49 .gtr 50 0,vM 52 49 51,jM 53 52 0,jM 54 52 3,jE 55 52 .sub 54 1,jI 56 52 8 53 55,jF 57 52 1 56,jW 58 52 2 57,jF 59 52 1 4,jW 60 52 2 59] [jD 61 52 233 58 60,jU 62 52 61,og 63 49 false (.pick (.t 52) (.t 62) kf),oP 64 49 63] (oG 64 (oR 2 kf))))) (.reg [oM 9 3,oZ 10 9 1,oM 3 10]))))) (rg [oM 65 0,oN 66 65,oE 67 .leq 66 120,oM 2 67] .ret)))⟩
theorem A2w:A4 Tryz.prog 149=some Qp:=by kernel_rfl
def Tz:Fn1:=⟨55,[.t 4],(rg [oV 4 kf] (.seq (rg [oM 7 0,oN 8 7,oV 9 (ki 0)] (oH 0 (rg [oB 10 .lss 9 8] (.seq (oJ 10 0) (.seq (.blk 1 (rg [oM 11 9,oI 12 8 7 9,oW 13 8 12,o 6 (.new [s0,z0,z0,z0,z0,z0,z0,(.bool false)]),oM 5 11,oS 8 6 13] (.seq (rg [oM 14 1,oF 15 1 6,oW 16 2 15,oD 17 219 14 16,oU 18 17,oM 19 18,vF 20 19 0 6,vL 21 19 20,vC 22 19 108 21,vU 23 19 22,oP 24 19 23,oM 25 24,vF 26 25 6 6,vL 27 25 26,og 28 25 false (.call 109 [(.t 27),(ki 0),(ki 999999)]),vU 29 25 28,oP 30 25 29,oM 31 30,vF 32 31 3 6,vL 33 31 32,og 34 31 false (.call 109 [(.t 33),(ki 1),(ki 10000)]),vU 35 31 34,oP 36 31 35] (oG 36 (oR 4 kf))) (dw [oM 37 5,oE 38 .gtr 37 0,oM 39 38,jM 40 39 0,jM 41 39 5,jE 42 39 .sub 41 1,jI 43 39 8 40 42,jF 44 39 1 43,jW 45 39 2 44,jF 46 39 1 6,jW 47 39 2 46] [jD 48 39 263 45 47,jE 49 39 .geq 48 0,oQ 50 39 49] (oG 50 (oR 4 kf)))))) (.reg [oZ 51 9 1,oM 9 51])))))) (rg [oM 52 0,oN 53 52,oE 54 .leq 53 120,oM 4 54] .ret)))⟩
theorem A5j:A4 Tryz.prog 241=some Tz:=by kernel_rfl
theorem A0q {Y:Type} {l:List Y} {n:Nat}:decide ((l.length:Int)<=(n:Nat))=decide (l.length<=n):=by
 rw[Zaj];simp only[decide_eq_true_eq];omega
theorem sub1 {i:Nat} (h:0<i):(i:Int) - 1=((i - 1:Nat):Int):=by omega
theorem A8t (a b:Tally):Db a b= !(txLt b.obj a.obj||decide (a.obj=b.obj)&&decide (b.rep<=a.rep)):=by
 unfold Db
 by_cases h:a.obj=b.obj
 ·rw[h,Gx];rw[Zaj];simp
 ·cases h1:txLt a.obj b.obj with
  |true=>simp[h,A5g h1]
  |false=>
   cases h2:txLt b.obj a.obj with
   |true=>simp[h]
   |false=>exact absurd (Kr h1 h2) h
theorem Aas (m:Bool) (n:Int):m=true∨(m=false/\(n != 0)=false/\n=0)∨(m=false/\(n != 0)=true/\n≠0):=by
 cases m
 ·by_cases h:n=0
  ·exact .inr (.inl ⟨rfl,by simp[h],h⟩)
  ·exact .inr (.inr ⟨rfl,by simp[h],h⟩)
 ·exact .inl rfl
theorem Rl (N:St) (v:GV) (l:List Tally) (h:RS Dz.kd N v l) (hl:l.length<=1099511627776) (hsz:∀ x∈l,x.obj.size<=1099511627776):Ret Tryz.prog 147 [v] N (.bool (I1 l)) N:=by
 refine Ab Tv (Z0z rfl) trivial ?_
 simp +contextual (disch:=omega) only[go_sem,Lk,h.len]
 refine Bc l.length 3 (fun i env U=>env 0=v/\(∀ j,j<i->talP l j=true)/\N <+: U) rfl ⟨rfl,fun j hj=>by omega,Zab _⟩ ?_ ?_
 ·rintro i env U hi ei c0 ⟨e0,ha,hp⟩
  have hno:talP l i=false->I1 l=false:=fun hh=>by simp[I1,Pm hi hh]
  have hat:talP l i=((Ez l[i].obj&&(inB l[i].rep 0 2&&inB l[i].sum 0 999999))&&upI Db l i):=by simp only[talP,tal1,Bx hi]
  simp +contextual (disch:=omega) only[go_sem,c0,e0,ei,Aa (h.pre hp) hi,fun r=>Aa (h.pre (A0 hp r)) hi,h.len,A0 hp _,hp]
  refine Ag (Gu _ l[i].obj (hsz _ (Zac hi))) (fun h0=> ?_) (fun h0=> ?_)
  rotate_left
  ·simp +contextual (disch:=omega) only[go_sem,c0,e0,ei,Aa (h.pre hp) hi,fun r=>Aa (h.pre (A0 hp r)) hi,h.len,A0 hp _,hp]
   simp[hno (by rw[hat];simp[h0])]
  simp +contextual (disch:=omega) only[go_sem,c0,e0,ei,Aa (h.pre hp) hi,fun r=>Aa (h.pre (A0 hp r)) hi,h.len,A0 hp _,hp]
  refine Ag (C8 _ _ _ _) (fun h1=> ?_) (fun h1=> ?_)
  rotate_left
  ·simp +contextual (disch:=omega) only[go_sem,c0,e0,ei,Aa (h.pre hp) hi,fun r=>Aa (h.pre (A0 hp r)) hi,h.len,A0 hp _,hp]
   simp[hno (by rw[hat];simp[h1])]
  simp +contextual (disch:=omega) only[go_sem,c0,e0,ei,Aa (h.pre hp) hi,fun r=>Aa (h.pre (A0 hp r)) hi,h.len,A0 hp _,hp]
  refine Ag (C8 _ _ _ _) (fun h2=> ?_) (fun h2=> ?_)
  rotate_left
  ·simp +contextual (disch:=omega) only[go_sem,c0,e0,ei,Aa (h.pre hp) hi,fun r=>Aa (h.pre (A0 hp r)) hi,h.len,A0 hp _,hp]
   simp[hno (by rw[hat];simp[h2])]
  simp +contextual (disch:=omega) only[go_sem,c0,e0,ei,Aa (h.pre hp) hi,fun r=>Aa (h.pre (A0 hp r)) hi,h.len,A0 hp _,hp]
  rcases Zai i with hz|hz
  ·subst hz
   simp +contextual (disch:=omega) only[go_sem,Zap,decide_false,Zau,c0,e0,ei,Aa (h.pre hp) hi,fun r=>Aa (h.pre (A0 hp r)) hi,h.len,A0 hp _,hp]
   refine Cs ha (by rw[hat];simp[h0,h1,h2,upI])
  ·have c1:decide ((0:Int)<i)=true:=by simp;omega
   have hj:i - 1<l.length:=by omega
   have hz':i≠0:=by omega
   simp only[Jm hz' hi hj] at hat
   simp +contextual (disch:=omega) only[go_sem,c1,sub1 hz,Aa (h.pre hp) hj,fun r=>Aa (h.pre (A0 hp r)) hj,c0,e0,ei,Aa (h.pre hp) hi,fun r=>Aa (h.pre (A0 hp r)) hi,h.len,A0 hp _,hp]
   rw[A8t] at hat
   generalize txLt l[i].obj l[i-1].obj=b1 at*
   generalize decide (l[i-1].obj=l[i].obj)=b2 at*
   grind
 ·rintro env U ei c0 ⟨e0,ha,hp⟩
  simp +contextual (disch:=omega) only[go_sem,c0,e0,ei,h.len,hp]
  simp only[I1,Ks ha,Za2]
  exact A0q
theorem V2 (N:St) (v:GV) (l:List Tally) (h:RS Dz.kd N v l) (hl:l.length<=1099511627776) (hsz:∀ x∈l,x.obj.size<=1099511627776):Ret Tryz.prog 239 [v] N (.bool (I1 l)) N:=by
 refine Ab Z4 (Z0z rfl) trivial ?_
 simp +contextual (disch:=omega) only[go_sem,Ms,h.len]
 refine Bc l.length 7 (fun i env U=>env 0=v/\env 5=v/\env 6=gi l.length/\(∀ j,j<i->talP l j=true)/\N <+: U) rfl ⟨rfl,rfl,rfl,fun j hj=>by omega,Zab _⟩ ?_ ?_
 ·rintro i env U hi ei c0 ⟨e0,e5,e6,ha,hp⟩
  have hno:talP l i=false->I1 l=false:=fun hh=>by simp[I1,Pm hi hh]
  have hat:talP l i=((Ez l[i].obj&&(inB l[i].rep 0 2&&inB l[i].sum 0 999999))&&upI Db l i):=by simp only[talP,tal1,Bx hi]
  simp +contextual (disch:=omega) only[go_sem,c0,e0,e5,e6,ei,Aa (h.pre hp) hi,fun r=>Aa (h.pre (A0 hp r)) hi,h.len,A0 hp _,hp]
  refine Ag (Gv _ l[i].obj (hsz _ (Zac hi))) (fun h0=> ?_) (fun h0=> ?_)
  rotate_left
  ·simp +contextual (disch:=omega) only[go_sem,c0,e0,e5,e6,ei,Aa (h.pre hp) hi,fun r=>Aa (h.pre (A0 hp r)) hi,h.len,A0 hp _,hp]
   simp[hno (by rw[hat];simp[h0])]
  simp +contextual (disch:=omega) only[go_sem,c0,e0,e5,e6,ei,Aa (h.pre hp) hi,fun r=>Aa (h.pre (A0 hp r)) hi,h.len,A0 hp _,hp]
  refine Ag (Bq _ _ _ _) (fun h1=> ?_) (fun h1=> ?_)
  rotate_left
  ·simp +contextual (disch:=omega) only[go_sem,c0,e0,e5,e6,ei,Aa (h.pre hp) hi,fun r=>Aa (h.pre (A0 hp r)) hi,h.len,A0 hp _,hp]
   simp[hno (by rw[hat];simp[h1])]
  simp +contextual (disch:=omega) only[go_sem,c0,e0,e5,e6,ei,Aa (h.pre hp) hi,fun r=>Aa (h.pre (A0 hp r)) hi,h.len,A0 hp _,hp]
  refine Ag (Bq _ _ _ _) (fun h2=> ?_) (fun h2=> ?_)
  rotate_left
  ·simp +contextual (disch:=omega) only[go_sem,c0,e0,e5,e6,ei,Aa (h.pre hp) hi,fun r=>Aa (h.pre (A0 hp r)) hi,h.len,A0 hp _,hp]
   simp[hno (by rw[hat];simp[h2])]
  simp +contextual (disch:=omega) only[go_sem,c0,e0,e5,e6,ei,Aa (h.pre hp) hi,fun r=>Aa (h.pre (A0 hp r)) hi,h.len,A0 hp _,hp]
  rcases Zai i with hz|hz
  ·subst hz
   simp +contextual (disch:=omega) only[go_sem,Zap,decide_false,Zau,c0,e0,e5,e6,ei,Aa (h.pre hp) hi,fun r=>Aa (h.pre (A0 hp r)) hi,h.len,A0 hp _,hp]
   refine Cs ha (by rw[hat];simp[h0,h1,h2,upI])
  ·have c1:decide ((0:Int)<i)=true:=by simp;omega
   have hj:i - 1<l.length:=by omega
   have hz':i≠0:=by omega
   simp only[Jm hz' hi hj] at hat
   simp +contextual (disch:=omega) only[go_sem,c1,sub1 hz,Aa (h.pre hp) hj,fun r=>Aa (h.pre (A0 hp r)) hj,c0,e0,e5,e6,ei,Aa (h.pre hp) hi,fun r=>Aa (h.pre (A0 hp r)) hi,h.len,A0 hp _,hp]
   refine A6 (L8 _ l[i-1] l[i]) ?_
   simp +contextual (disch:=omega) only[go_sem,A8n,c1,sub1 hz,Aa (h.pre hp) hj,fun r=>Aa (h.pre (A0 hp r)) hj,c0,e0,e5,e6,ei,Aa (h.pre hp) hi,fun r=>Aa (h.pre (A0 hp r)) hi,h.len,A0 hp _,hp]
   cases ho:Db l[i-1] l[i] with
   |true=>
    simp +contextual (disch:=omega) only[go_sem,c1,sub1 hz,Aa (h.pre hp) hj,fun r=>Aa (h.pre (A0 hp r)) hj,c0,e0,e5,e6,ei,Aa (h.pre hp) hi,fun r=>Aa (h.pre (A0 hp r)) hi,h.len,A0 hp _,hp]
    exact Cs ha (by rw[hat];simp[h0,h1,h2,ho])
   |false=>
    simp +contextual (disch:=omega) only[go_sem,c1,sub1 hz,Aa (h.pre hp) hj,fun r=>Aa (h.pre (A0 hp r)) hj,c0,e0,e5,e6,ei,Aa (h.pre hp) hi,fun r=>Aa (h.pre (A0 hp r)) hi,h.len,A0 hp _,hp]
    simp[hno (by rw[hat];simp[ho])]
 ·rintro env U ei c0 ⟨e0,e5,e6,ha,hp⟩
  simp +contextual (disch:=omega) only[go_sem,c0,e0,e5,e6,ei,h.len,hp]
  simp only[I1,Ks ha,Za2]
  exact A0q
theorem Z5 (N:St) (v:GV) (l:List Live) (h:RS Da.kd N v l) (hl:l.length<=1099511627776) (hsz:∀ x∈l,x.obj.size<=1099511627776/\x.key.size<=1099511627776):Ret Tryz.prog 148 [v] N (.bool (Abx l)) N:=by
 refine Ab A2v (Z0z rfl) trivial ?_
 simp +contextual (disch:=omega) only[go_sem,Qn,h.len]
 refine Bc l.length 3 (fun i env U=>env 0=v/\(∀ j,j<i->Abw l j=true)/\N <+: U) rfl ⟨rfl,fun j hj=>by omega,Zab _⟩ ?_ ?_
 ·rintro i env U hi ei c0 ⟨e0,ha,hp⟩
  have hno:Abw l i=false->Abx l=false:=fun hh=>by simp[Abx,Pm hi hh]
  have hat:Abw l i=(In l[i].dot&&((Ez l[i].obj&&(Ez l[i].key&&(inB l[i].val 0 999999&&(l[i].map||decide (l[i].val=0)))))&&upI Gy l i)):=by simp only[Abw,liv1,Bx hi]
  simp +contextual (disch:=omega) only[go_sem,c0,e0,ei,A3 (h.pre hp) hi,fun r=>A3 (h.pre (A0 hp r)) hi,h.len,A0 hp _,hp]
  refine Ag (Io _ l[i].dot) (fun h0=> ?_) (fun h0=> ?_)
  rotate_left
  ·simp +contextual (disch:=omega) only[go_sem,c0,e0,ei,A3 (h.pre hp) hi,fun r=>A3 (h.pre (A0 hp r)) hi,h.len,A0 hp _,hp]
   simp[hno (by rw[hat];simp[h0])]
  simp +contextual (disch:=omega) only[go_sem,c0,e0,ei,A3 (h.pre hp) hi,fun r=>A3 (h.pre (A0 hp r)) hi,h.len,A0 hp _,hp]
  refine Ag (Gu _ l[i].obj (hsz _ (Zac hi)).1) (fun h1=> ?_) (fun h1=> ?_)
  rotate_left
  ·simp +contextual (disch:=omega) only[go_sem,c0,e0,ei,A3 (h.pre hp) hi,fun r=>A3 (h.pre (A0 hp r)) hi,h.len,A0 hp _,hp]
   simp[hno (by rw[hat];simp[h1])]
  simp +contextual (disch:=omega) only[go_sem,c0,e0,ei,A3 (h.pre hp) hi,fun r=>A3 (h.pre (A0 hp r)) hi,h.len,A0 hp _,hp]
  refine Ag (Gu _ l[i].key (hsz _ (Zac hi)).2) (fun h2=> ?_) (fun h2=> ?_)
  rotate_left
  ·simp +contextual (disch:=omega) only[go_sem,c0,e0,ei,A3 (h.pre hp) hi,fun r=>A3 (h.pre (A0 hp r)) hi,h.len,A0 hp _,hp]
   simp[hno (by rw[hat];simp[h2])]
  simp +contextual (disch:=omega) only[go_sem,c0,e0,ei,A3 (h.pre hp) hi,fun r=>A3 (h.pre (A0 hp r)) hi,h.len,A0 hp _,hp]
  refine Ag (C8 _ _ _ _) (fun h3=> ?_) (fun h3=> ?_)
  rotate_left
  ·simp +contextual (disch:=omega) only[go_sem,c0,e0,ei,A3 (h.pre hp) hi,fun r=>A3 (h.pre (A0 hp r)) hi,h.len,A0 hp _,hp]
   simp[hno (by rw[hat];simp[h3])]
  simp +contextual (disch:=omega) only[go_sem,c0,e0,ei,A3 (h.pre hp) hi,fun r=>A3 (h.pre (A0 hp r)) hi,h.len,A0 hp _,hp]
  rcases Aas l[i].map l[i].val with hm|⟨hm,hv,hv'⟩|⟨hm,hv,hv'⟩
  rotate_left 2
  ·simp +contextual (disch:=omega) only[go_sem,hm,hv,c0,e0,ei,A3 (h.pre hp) hi,fun r=>A3 (h.pre (A0 hp r)) hi,h.len,A0 hp _,hp]
   simp[hno (by rw[hat];simp[hm,hv'])]
  ·simp +contextual (disch:=omega) only[go_sem,hm,c0,e0,ei,A3 (h.pre hp) hi,fun r=>A3 (h.pre (A0 hp r)) hi,h.len,A0 hp _,hp]
   rcases Zai i with hz|hz
   ·subst hz
    simp +contextual (disch:=omega) only[go_sem,Zap,decide_false,Zau,hm,c0,e0,ei,A3 (h.pre hp) hi,fun r=>A3 (h.pre (A0 hp r)) hi,h.len,A0 hp _,hp]
    refine Cs ha (by rw[hat];simp[h0,h1,h2,h3,hm,upI])
   ·have c1:decide ((0:Int)<i)=true:=by simp;omega
    have hj:i - 1<l.length:=by omega
    have hz':i≠0:=by omega
    simp only[Jm hz' hi hj] at hat
    simp +contextual (disch:=omega) only[go_sem,c1,sub1 hz,A3 (h.pre hp) hj,fun r=>A3 (h.pre (A0 hp r)) hj,hm,c0,e0,ei,A3 (h.pre hp) hi,fun r=>A3 (h.pre (A0 hp r)) hi,h.len,A0 hp _,hp]
    refine A6 (Ee _ l[i-1].dot l[i].dot) ?_
    cases ho:Ck l[i-1].dot l[i].dot with
    |true=>
     simp +contextual (disch:=omega) only[go_sem,c1,sub1 hz,A3 (h.pre hp) hj,fun r=>A3 (h.pre (A0 hp r)) hj,hm,c0,e0,ei,A3 (h.pre hp) hi,fun r=>A3 (h.pre (A0 hp r)) hi,h.len,A0 hp _,hp]
     exact Cs ha (by rw[hat];simp[h0,h1,h2,h3,hm,ho,Gy])
    |false=>
     simp +contextual (disch:=omega) only[go_sem,c1,sub1 hz,A3 (h.pre hp) hj,fun r=>A3 (h.pre (A0 hp r)) hj,hm,c0,e0,ei,A3 (h.pre hp) hi,fun r=>A3 (h.pre (A0 hp r)) hi,h.len,A0 hp _,hp]
     simp[hno (by rw[hat];simp[ho,Gy])]
  ·simp +contextual (disch:=omega) only[go_sem,hm,hv,c0,e0,ei,A3 (h.pre hp) hi,fun r=>A3 (h.pre (A0 hp r)) hi,h.len,A0 hp _,hp]
   rcases Zai i with hz|hz
   ·subst hz
    simp +contextual (disch:=omega) only[go_sem,Zap,decide_false,Zau,hm,hv,c0,e0,ei,A3 (h.pre hp) hi,fun r=>A3 (h.pre (A0 hp r)) hi,h.len,A0 hp _,hp]
    refine Cs ha (by rw[hat];simp[h0,h1,h2,h3,hm,decide_eq_true hv',upI])
   ·have c1:decide ((0:Int)<i)=true:=by simp;omega
    have hj:i - 1<l.length:=by omega
    have hz':i≠0:=by omega
    simp only[Jm hz' hi hj] at hat
    simp +contextual (disch:=omega) only[go_sem,c1,sub1 hz,A3 (h.pre hp) hj,fun r=>A3 (h.pre (A0 hp r)) hj,hm,hv,c0,e0,ei,A3 (h.pre hp) hi,fun r=>A3 (h.pre (A0 hp r)) hi,h.len,A0 hp _,hp]
    refine A6 (Ee _ l[i-1].dot l[i].dot) ?_
    cases ho:Ck l[i-1].dot l[i].dot with
    |true=>
     simp +contextual (disch:=omega) only[go_sem,c1,sub1 hz,A3 (h.pre hp) hj,fun r=>A3 (h.pre (A0 hp r)) hj,hm,hv,c0,e0,ei,A3 (h.pre hp) hi,fun r=>A3 (h.pre (A0 hp r)) hi,h.len,A0 hp _,hp]
     exact Cs ha (by rw[hat];simp[h0,h1,h2,h3,hm,decide_eq_true hv',ho,Gy])
    |false=>
     simp +contextual (disch:=omega) only[go_sem,c1,sub1 hz,A3 (h.pre hp) hj,fun r=>A3 (h.pre (A0 hp r)) hj,hm,hv,c0,e0,ei,A3 (h.pre hp) hi,fun r=>A3 (h.pre (A0 hp r)) hi,h.len,A0 hp _,hp]
     simp[hno (by rw[hat];simp[ho,Gy])]
 ·rintro env U ei c0 ⟨e0,ha,hp⟩
  simp +contextual (disch:=omega) only[go_sem,c0,e0,ei,h.len,hp]
  simp only[Abx,Ks ha,Za2]
  exact A0q
theorem A2x (N:St) (v:GV) (l:List Live) (h:RS Da.kd N v l) (u:GV) (k:List Int) (hk:RS pI.kd N u k) (hlk:k.length<=1099511627776) (hl:l.length<=1099511627776) (hsz:∀ x∈l,x.obj.size<=1099511627776/\x.key.size<=1099511627776):Ret Tryz.prog 240 [v,u] N (.bool (Li l k)) N:=by
 refine Ab A5i (Z0z rfl) trivial ?_
 simp +contextual (disch:=omega) only[go_sem,Tx,h.len]
 refine Bc l.length 9 (fun i env U=>env 0=v/\env 1=u/\env 7=v/\env 8=gi l.length/\(∀ j,j<i->livP l k j=true)/\N <+: U) rfl ⟨rfl,rfl,rfl,rfl,fun j hj=>by omega,Zab _⟩ ?_ ?_
 ·rintro i env U hi ei c0 ⟨e0,e1,e7,e8,ha,hp⟩
  have hno:livP l k i=false->Li l k=false:=fun hh=>by simp[Li,Pm hi hh]
  have hat:livP l k i=(Gj k l[i].dot&&((Ez l[i].obj&&(Ez l[i].key&&(inB l[i].val 0 999999&&(l[i].map||decide (l[i].val=0)))))&&upI Gy l i)):=by simp only[livP,liv1,Bx hi]
  simp +contextual (disch:=omega) only[go_sem,c0,e0,e1,e7,e8,ei,A3 (h.pre hp) hi,fun r=>A3 (h.pre (A0 hp r)) hi,h.len,A0 hp _,hp]
  refine Ag (Tp _ u k l[i].dot (hk.pre (A0 hp _)) hlk) (fun h0=> ?_) (fun h0=> ?_)
  rotate_left
  ·simp +contextual (disch:=omega) only[go_sem,c0,e0,e1,e7,e8,ei,A3 (h.pre hp) hi,fun r=>A3 (h.pre (A0 hp r)) hi,h.len,A0 hp _,hp]
   simp[hno (by rw[hat];simp[h0])]
  simp +contextual (disch:=omega) only[go_sem,c0,e0,e1,e7,e8,ei,A3 (h.pre hp) hi,fun r=>A3 (h.pre (A0 hp r)) hi,h.len,A0 hp _,hp]
  refine Ag (Gv _ l[i].obj (hsz _ (Zac hi)).1) (fun h1=> ?_) (fun h1=> ?_)
  rotate_left
  ·simp +contextual (disch:=omega) only[go_sem,c0,e0,e1,e7,e8,ei,A3 (h.pre hp) hi,fun r=>A3 (h.pre (A0 hp r)) hi,h.len,A0 hp _,hp]
   simp[hno (by rw[hat];simp[h1])]
  simp +contextual (disch:=omega) only[go_sem,c0,e0,e1,e7,e8,ei,A3 (h.pre hp) hi,fun r=>A3 (h.pre (A0 hp r)) hi,h.len,A0 hp _,hp]
  refine Ag (Gv _ l[i].key (hsz _ (Zac hi)).2) (fun h2=> ?_) (fun h2=> ?_)
  rotate_left
  ·simp +contextual (disch:=omega) only[go_sem,c0,e0,e1,e7,e8,ei,A3 (h.pre hp) hi,fun r=>A3 (h.pre (A0 hp r)) hi,h.len,A0 hp _,hp]
   simp[hno (by rw[hat];simp[h2])]
  simp +contextual (disch:=omega) only[go_sem,c0,e0,e1,e7,e8,ei,A3 (h.pre hp) hi,fun r=>A3 (h.pre (A0 hp r)) hi,h.len,A0 hp _,hp]
  refine Ag (Bq _ _ _ _) (fun h3=> ?_) (fun h3=> ?_)
  rotate_left
  ·simp +contextual (disch:=omega) only[go_sem,c0,e0,e1,e7,e8,ei,A3 (h.pre hp) hi,fun r=>A3 (h.pre (A0 hp r)) hi,h.len,A0 hp _,hp]
   simp[hno (by rw[hat];simp[h3])]
  simp +contextual (disch:=omega) only[go_sem,c0,e0,e1,e7,e8,ei,A3 (h.pre hp) hi,fun r=>A3 (h.pre (A0 hp r)) hi,h.len,A0 hp _,hp]
  rcases Aas l[i].map l[i].val with hm|⟨hm,hv,hv'⟩|⟨hm,hv,hv'⟩
  rotate_left 2
  ·simp +contextual (disch:=omega) only[go_sem,hm,hv,c0,e0,e1,e7,e8,ei,A3 (h.pre hp) hi,fun r=>A3 (h.pre (A0 hp r)) hi,h.len,A0 hp _,hp]
   simp[hno (by rw[hat];simp[hm,hv'])]
  ·simp +contextual (disch:=omega) only[go_sem,hm,c0,e0,e1,e7,e8,ei,A3 (h.pre hp) hi,fun r=>A3 (h.pre (A0 hp r)) hi,h.len,A0 hp _,hp]
   rcases Zai i with hz|hz
   ·subst hz
    simp +contextual (disch:=omega) only[go_sem,Zap,decide_false,Zau,hm,c0,e0,e1,e7,e8,ei,A3 (h.pre hp) hi,fun r=>A3 (h.pre (A0 hp r)) hi,h.len,A0 hp _,hp]
    refine Cs ha (by rw[hat];simp[h0,h1,h2,h3,hm,upI])
   ·have c1:decide ((0:Int)<i)=true:=by simp;omega
    have hj:i - 1<l.length:=by omega
    have hz':i≠0:=by omega
    simp only[Jm hz' hi hj] at hat
    simp +contextual (disch:=omega) only[go_sem,c1,sub1 hz,A3 (h.pre hp) hj,fun r=>A3 (h.pre (A0 hp r)) hj,hm,c0,e0,e1,e7,e8,ei,A3 (h.pre hp) hi,fun r=>A3 (h.pre (A0 hp r)) hi,h.len,A0 hp _,hp]
    refine A6 (D6 _ l[i-1].dot l[i].dot) ?_
    simp +contextual (disch:=omega) only[go_sem,Tr,c1,sub1 hz,A3 (h.pre hp) hj,fun r=>A3 (h.pre (A0 hp r)) hj,hm,c0,e0,e1,e7,e8,ei,A3 (h.pre hp) hi,fun r=>A3 (h.pre (A0 hp r)) hi,h.len,A0 hp _,hp]
    cases ho:Ck l[i-1].dot l[i].dot with
    |true=>
     simp +contextual (disch:=omega) only[go_sem,c1,sub1 hz,A3 (h.pre hp) hj,fun r=>A3 (h.pre (A0 hp r)) hj,hm,c0,e0,e1,e7,e8,ei,A3 (h.pre hp) hi,fun r=>A3 (h.pre (A0 hp r)) hi,h.len,A0 hp _,hp]
     exact Cs ha (by rw[hat];simp[h0,h1,h2,h3,hm,ho,Gy])
    |false=>
     simp +contextual (disch:=omega) only[go_sem,c1,sub1 hz,A3 (h.pre hp) hj,fun r=>A3 (h.pre (A0 hp r)) hj,hm,c0,e0,e1,e7,e8,ei,A3 (h.pre hp) hi,fun r=>A3 (h.pre (A0 hp r)) hi,h.len,A0 hp _,hp]
     simp[hno (by rw[hat];simp[ho,Gy])]
  ·simp +contextual (disch:=omega) only[go_sem,hm,hv,c0,e0,e1,e7,e8,ei,A3 (h.pre hp) hi,fun r=>A3 (h.pre (A0 hp r)) hi,h.len,A0 hp _,hp]
   rcases Zai i with hz|hz
   ·subst hz
    simp +contextual (disch:=omega) only[go_sem,Zap,decide_false,Zau,hm,hv,c0,e0,e1,e7,e8,ei,A3 (h.pre hp) hi,fun r=>A3 (h.pre (A0 hp r)) hi,h.len,A0 hp _,hp]
    refine Cs ha (by rw[hat];simp[h0,h1,h2,h3,hm,decide_eq_true hv',upI])
   ·have c1:decide ((0:Int)<i)=true:=by simp;omega
    have hj:i - 1<l.length:=by omega
    have hz':i≠0:=by omega
    simp only[Jm hz' hi hj] at hat
    simp +contextual (disch:=omega) only[go_sem,c1,sub1 hz,A3 (h.pre hp) hj,fun r=>A3 (h.pre (A0 hp r)) hj,hm,hv,c0,e0,e1,e7,e8,ei,A3 (h.pre hp) hi,fun r=>A3 (h.pre (A0 hp r)) hi,h.len,A0 hp _,hp]
    refine A6 (D6 _ l[i-1].dot l[i].dot) ?_
    simp +contextual (disch:=omega) only[go_sem,Tr,c1,sub1 hz,A3 (h.pre hp) hj,fun r=>A3 (h.pre (A0 hp r)) hj,hm,hv,c0,e0,e1,e7,e8,ei,A3 (h.pre hp) hi,fun r=>A3 (h.pre (A0 hp r)) hi,h.len,A0 hp _,hp]
    cases ho:Ck l[i-1].dot l[i].dot with
    |true=>
     simp +contextual (disch:=omega) only[go_sem,c1,sub1 hz,A3 (h.pre hp) hj,fun r=>A3 (h.pre (A0 hp r)) hj,hm,hv,c0,e0,e1,e7,e8,ei,A3 (h.pre hp) hi,fun r=>A3 (h.pre (A0 hp r)) hi,h.len,A0 hp _,hp]
     exact Cs ha (by rw[hat];simp[h0,h1,h2,h3,hm,decide_eq_true hv',ho,Gy])
    |false=>
     simp +contextual (disch:=omega) only[go_sem,c1,sub1 hz,A3 (h.pre hp) hj,fun r=>A3 (h.pre (A0 hp r)) hj,hm,hv,c0,e0,e1,e7,e8,ei,A3 (h.pre hp) hi,fun r=>A3 (h.pre (A0 hp r)) hi,h.len,A0 hp _,hp]
     simp[hno (by rw[hat];simp[ho,Gy])]
 ·rintro env U ei c0 ⟨e0,e1,e7,e8,ha,hp⟩
  simp +contextual (disch:=omega) only[go_sem,c0,e0,e1,e7,e8,ei,h.len,hp]
  simp only[Li,Ks ha,Za2]
  exact A0q
theorem Z6 (N:St) (v:GV) (l:List Cell) (h:RS Aj.kd N v l) (hl:l.length<=1099511627776) (hsz:∀ x∈l,x.obj.size<=1099511627776):Ret Tryz.prog 149 [v] N (.bool (Abz l)) N:=by
 refine Ab A2w (Z0z rfl) trivial ?_
 simp +contextual (disch:=omega) only[go_sem,Qp,h.len]
 refine Bc l.length 3 (fun i env U=>env 0=v/\(∀ j,j<i->Aby l j=true)/\N <+: U) rfl ⟨rfl,fun j hj=>by omega,Zab _⟩ ?_ ?_
 ·rintro i env U hi ei c0 ⟨e0,ha,hp⟩
  have hno:Aby l i=false->Abz l=false:=fun hh=>by simp[Abz,Pm hi hh]
  have hat:Aby l i=(In l[i].dot&&((Ez l[i].obj&&(inB l[i].val 0 999999&&inB l[i].time 1 10000))&&((decide (l[i].ref=⟨0,0⟩)||In l[i].ref)&&upI J3 l i))):=by simp only[Aby,cel1,refD,Bx hi]
  simp +contextual (disch:=omega) only[go_sem,c0,e0,ei,A5 (h.pre hp) hi,fun r=>A5 (h.pre (A0 hp r)) hi,h.len,A0 hp _,hp]
  refine Ag (Io _ l[i].dot) (fun h0=> ?_) (fun h0=> ?_)
  rotate_left
  ·simp +contextual (disch:=omega) only[go_sem,c0,e0,ei,A5 (h.pre hp) hi,fun r=>A5 (h.pre (A0 hp r)) hi,h.len,A0 hp _,hp]
   simp[hno (by rw[hat];simp[h0])]
  simp +contextual (disch:=omega) only[go_sem,c0,e0,ei,A5 (h.pre hp) hi,fun r=>A5 (h.pre (A0 hp r)) hi,h.len,A0 hp _,hp]
  refine Ag (Gu _ l[i].obj (hsz _ (Zac hi))) (fun h1=> ?_) (fun h1=> ?_)
  rotate_left
  ·simp +contextual (disch:=omega) only[go_sem,c0,e0,ei,A5 (h.pre hp) hi,fun r=>A5 (h.pre (A0 hp r)) hi,h.len,A0 hp _,hp]
   simp[hno (by rw[hat];simp[h1])]
  simp +contextual (disch:=omega) only[go_sem,c0,e0,ei,A5 (h.pre hp) hi,fun r=>A5 (h.pre (A0 hp r)) hi,h.len,A0 hp _,hp]
  refine Ag (C8 _ _ _ _) (fun h2=> ?_) (fun h2=> ?_)
  rotate_left
  ·simp +contextual (disch:=omega) only[go_sem,c0,e0,ei,A5 (h.pre hp) hi,fun r=>A5 (h.pre (A0 hp r)) hi,h.len,A0 hp _,hp]
   simp[hno (by rw[hat];simp[h2])]
  simp +contextual (disch:=omega) only[go_sem,c0,e0,ei,A5 (h.pre hp) hi,fun r=>A5 (h.pre (A0 hp r)) hi,h.len,A0 hp _,hp]
  refine Ag (C8 _ _ _ _) (fun h3=> ?_) (fun h3=> ?_)
  rotate_left
  ·simp +contextual (disch:=omega) only[go_sem,c0,e0,ei,A5 (h.pre hp) hi,fun r=>A5 (h.pre (A0 hp r)) hi,h.len,A0 hp _,hp]
   simp[hno (by rw[hat];simp[h3])]
  simp +contextual (disch:=omega) only[go_sem,c0,e0,ei,A5 (h.pre hp) hi,fun r=>A5 (h.pre (A0 hp r)) hi,h.len,A0 hp _,hp]
  by_cases hr:l[i].ref=⟨0,0⟩
  ·have hrd:=decide_eq_true hr
   simp +contextual (disch:=omega) only[go_sem,hrd,c0,e0,ei,A5 (h.pre hp) hi,fun r=>A5 (h.pre (A0 hp r)) hi,h.len,A0 hp _,hp]
   rcases Zai i with hz|hz
   ·subst hz
    simp +contextual (disch:=omega) only[go_sem,Zap,decide_false,Zau,hrd,c0,e0,ei,A5 (h.pre hp) hi,fun r=>A5 (h.pre (A0 hp r)) hi,h.len,A0 hp _,hp]
    refine Cs ha (by rw[hat];simp[h0,h1,h2,h3,hrd,upI])
   ·have c1:decide ((0:Int)<i)=true:=by simp;omega
    have hj:i - 1<l.length:=by omega
    have hz':i≠0:=by omega
    simp only[Jm hz' hi hj] at hat
    simp +contextual (disch:=omega) only[go_sem,c1,sub1 hz,A5 (h.pre hp) hj,fun r=>A5 (h.pre (A0 hp r)) hj,hrd,c0,e0,ei,A5 (h.pre hp) hi,fun r=>A5 (h.pre (A0 hp r)) hi,h.len,A0 hp _,hp]
    refine A6 (Ee _ l[i-1].dot l[i].dot) ?_
    cases ho:Ck l[i-1].dot l[i].dot with
    |true=>
     simp +contextual (disch:=omega) only[go_sem,c1,sub1 hz,A5 (h.pre hp) hj,fun r=>A5 (h.pre (A0 hp r)) hj,hrd,c0,e0,ei,A5 (h.pre hp) hi,fun r=>A5 (h.pre (A0 hp r)) hi,h.len,A0 hp _,hp]
     exact Cs ha (by rw[hat];simp[h0,h1,h2,h3,hrd,ho,J3])
    |false=>
     simp +contextual (disch:=omega) only[go_sem,c1,sub1 hz,A5 (h.pre hp) hj,fun r=>A5 (h.pre (A0 hp r)) hj,hrd,c0,e0,ei,A5 (h.pre hp) hi,fun r=>A5 (h.pre (A0 hp r)) hi,h.len,A0 hp _,hp]
     simp[hno (by rw[hat];simp[ho,J3])]
  ·have hrd:=decide_eq_false hr
   simp +contextual (disch:=omega) only[go_sem,hrd,c0,e0,ei,A5 (h.pre hp) hi,fun r=>A5 (h.pre (A0 hp r)) hi,h.len,A0 hp _,hp]
   refine Ag (Io _ l[i].ref) (fun hq=> ?_) (fun hq=> ?_)
   rotate_left
   ·simp +contextual (disch:=omega) only[go_sem,hrd,c0,e0,ei,A5 (h.pre hp) hi,fun r=>A5 (h.pre (A0 hp r)) hi,h.len,A0 hp _,hp]
    simp[hno (by rw[hat];simp[hrd,hq])]
   simp +contextual (disch:=omega) only[go_sem,hrd,c0,e0,ei,A5 (h.pre hp) hi,fun r=>A5 (h.pre (A0 hp r)) hi,h.len,A0 hp _,hp]
   rcases Zai i with hz|hz
   ·subst hz
    simp +contextual (disch:=omega) only[go_sem,Zap,decide_false,Zau,hrd,c0,e0,ei,A5 (h.pre hp) hi,fun r=>A5 (h.pre (A0 hp r)) hi,h.len,A0 hp _,hp]
    refine Cs ha (by rw[hat];simp[h0,h1,h2,h3,hrd,hq,upI])
   ·have c1:decide ((0:Int)<i)=true:=by simp;omega
    have hj:i - 1<l.length:=by omega
    have hz':i≠0:=by omega
    simp only[Jm hz' hi hj] at hat
    simp +contextual (disch:=omega) only[go_sem,c1,sub1 hz,A5 (h.pre hp) hj,fun r=>A5 (h.pre (A0 hp r)) hj,hrd,c0,e0,ei,A5 (h.pre hp) hi,fun r=>A5 (h.pre (A0 hp r)) hi,h.len,A0 hp _,hp]
    refine A6 (Ee _ l[i-1].dot l[i].dot) ?_
    cases ho:Ck l[i-1].dot l[i].dot with
    |true=>
     simp +contextual (disch:=omega) only[go_sem,c1,sub1 hz,A5 (h.pre hp) hj,fun r=>A5 (h.pre (A0 hp r)) hj,hrd,c0,e0,ei,A5 (h.pre hp) hi,fun r=>A5 (h.pre (A0 hp r)) hi,h.len,A0 hp _,hp]
     exact Cs ha (by rw[hat];simp[h0,h1,h2,h3,hrd,hq,ho,J3])
    |false=>
     simp +contextual (disch:=omega) only[go_sem,c1,sub1 hz,A5 (h.pre hp) hj,fun r=>A5 (h.pre (A0 hp r)) hj,hrd,c0,e0,ei,A5 (h.pre hp) hi,fun r=>A5 (h.pre (A0 hp r)) hi,h.len,A0 hp _,hp]
     simp[hno (by rw[hat];simp[ho,J3])]
 ·rintro env U ei c0 ⟨e0,ha,hp⟩
  simp +contextual (disch:=omega) only[go_sem,c0,e0,ei,h.len,hp]
  simp only[Abz,Ks ha,Za2]
  exact A0q
theorem A2y (N:St) (v:GV) (l:List Cell) (h:RS Aj.kd N v l) (u:GV) (k:List Int) (hk:RS pI.kd N u k) (hlk:k.length<=1099511627776) (hl:l.length<=1099511627776) (hsz:∀ x∈l,x.obj.size<=1099511627776):Ret Tryz.prog 241 [v,u] N (.bool (Jn l k)) N:=by
 refine Ab A5j (Z0z rfl) trivial ?_
 simp +contextual (disch:=omega) only[go_sem,Tz,h.len]
 refine Bc l.length 9 (fun i env U=>env 0=v/\env 1=u/\env 7=v/\env 8=gi l.length/\(∀ j,j<i->celP l k j=true)/\N <+: U) rfl ⟨rfl,rfl,rfl,rfl,fun j hj=>by omega,Zab _⟩ ?_ ?_
 ·rintro i env U hi ei c0 ⟨e0,e1,e7,e8,ha,hp⟩
  have hno:celP l k i=false->Jn l k=false:=fun hh=>by simp[Jn,Pm hi hh]
  have hat:celP l k i=(Gj k l[i].dot&&((Ez l[i].obj&&(inB l[i].val 0 999999&&inB l[i].time 1 10000))&&upI J3 l i)):=by simp only[celP,cel1,Bx hi]
  simp +contextual (disch:=omega) only[go_sem,c0,e0,e1,e7,e8,ei,A5 (h.pre hp) hi,fun r=>A5 (h.pre (A0 hp r)) hi,h.len,A0 hp _,hp]
  refine Ag (Tp _ u k l[i].dot (hk.pre (A0 hp _)) hlk) (fun h0=> ?_) (fun h0=> ?_)
  rotate_left
  ·simp +contextual (disch:=omega) only[go_sem,c0,e0,e1,e7,e8,ei,A5 (h.pre hp) hi,fun r=>A5 (h.pre (A0 hp r)) hi,h.len,A0 hp _,hp]
   simp[hno (by rw[hat];simp[h0])]
  simp +contextual (disch:=omega) only[go_sem,c0,e0,e1,e7,e8,ei,A5 (h.pre hp) hi,fun r=>A5 (h.pre (A0 hp r)) hi,h.len,A0 hp _,hp]
  refine Ag (Gv _ l[i].obj (hsz _ (Zac hi))) (fun h1=> ?_) (fun h1=> ?_)
  rotate_left
  ·simp +contextual (disch:=omega) only[go_sem,c0,e0,e1,e7,e8,ei,A5 (h.pre hp) hi,fun r=>A5 (h.pre (A0 hp r)) hi,h.len,A0 hp _,hp]
   simp[hno (by rw[hat];simp[h1])]
  simp +contextual (disch:=omega) only[go_sem,c0,e0,e1,e7,e8,ei,A5 (h.pre hp) hi,fun r=>A5 (h.pre (A0 hp r)) hi,h.len,A0 hp _,hp]
  refine Ag (Bq _ _ _ _) (fun h2=> ?_) (fun h2=> ?_)
  rotate_left
  ·simp +contextual (disch:=omega) only[go_sem,c0,e0,e1,e7,e8,ei,A5 (h.pre hp) hi,fun r=>A5 (h.pre (A0 hp r)) hi,h.len,A0 hp _,hp]
   simp[hno (by rw[hat];simp[h2])]
  simp +contextual (disch:=omega) only[go_sem,c0,e0,e1,e7,e8,ei,A5 (h.pre hp) hi,fun r=>A5 (h.pre (A0 hp r)) hi,h.len,A0 hp _,hp]
  refine Ag (Bq _ _ _ _) (fun h3=> ?_) (fun h3=> ?_)
  rotate_left
  ·simp +contextual (disch:=omega) only[go_sem,c0,e0,e1,e7,e8,ei,A5 (h.pre hp) hi,fun r=>A5 (h.pre (A0 hp r)) hi,h.len,A0 hp _,hp]
   simp[hno (by rw[hat];simp[h3])]
  simp +contextual (disch:=omega) only[go_sem,c0,e0,e1,e7,e8,ei,A5 (h.pre hp) hi,fun r=>A5 (h.pre (A0 hp r)) hi,h.len,A0 hp _,hp]
  rcases Zai i with hz|hz
  ·subst hz
   simp +contextual (disch:=omega) only[go_sem,Zap,decide_false,Zau,c0,e0,e1,e7,e8,ei,A5 (h.pre hp) hi,fun r=>A5 (h.pre (A0 hp r)) hi,h.len,A0 hp _,hp]
   refine Cs ha (by rw[hat];simp[h0,h1,h2,h3,upI])
  ·have c1:decide ((0:Int)<i)=true:=by simp;omega
   have hj:i - 1<l.length:=by omega
   have hz':i≠0:=by omega
   simp only[Jm hz' hi hj] at hat
   simp +contextual (disch:=omega) only[go_sem,c1,sub1 hz,A5 (h.pre hp) hj,fun r=>A5 (h.pre (A0 hp r)) hj,c0,e0,e1,e7,e8,ei,A5 (h.pre hp) hi,fun r=>A5 (h.pre (A0 hp r)) hi,h.len,A0 hp _,hp]
   refine A6 (D6 _ l[i-1].dot l[i].dot) ?_
   simp +contextual (disch:=omega) only[go_sem,Tr,c1,sub1 hz,A5 (h.pre hp) hj,fun r=>A5 (h.pre (A0 hp r)) hj,c0,e0,e1,e7,e8,ei,A5 (h.pre hp) hi,fun r=>A5 (h.pre (A0 hp r)) hi,h.len,A0 hp _,hp]
   cases ho:Ck l[i-1].dot l[i].dot with
   |true=>
    simp +contextual (disch:=omega) only[go_sem,c1,sub1 hz,A5 (h.pre hp) hj,fun r=>A5 (h.pre (A0 hp r)) hj,c0,e0,e1,e7,e8,ei,A5 (h.pre hp) hi,fun r=>A5 (h.pre (A0 hp r)) hi,h.len,A0 hp _,hp]
    exact Cs ha (by rw[hat];simp[h0,h1,h2,h3,ho,J3])
   |false=>
    simp +contextual (disch:=omega) only[go_sem,c1,sub1 hz,A5 (h.pre hp) hj,fun r=>A5 (h.pre (A0 hp r)) hj,c0,e0,e1,e7,e8,ei,A5 (h.pre hp) hi,fun r=>A5 (h.pre (A0 hp r)) hi,h.len,A0 hp _,hp]
    simp[hno (by rw[hat];simp[ho,J3])]
 ·rintro env U ei c0 ⟨e0,e1,e7,e8,ha,hp⟩
  simp +contextual (disch:=omega) only[go_sem,c0,e0,e1,e7,e8,ei,h.len,hp]
  simp only[Jn,Ks ha,Za2]
  exact A0q
def mx (x y:Int):Int:=if y>x then y else x
end Go.Proofs.YtnknigikcdgebaaGreatDoor.Sy
