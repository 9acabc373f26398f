/- Texts of this proof, one behind the other. -/
import Derived.Test.YtckobfochhjmdaaGreatDoorBC
import Derived.Test.YtckobfochhjmdaaGreatDoorProg
import Derived.KernelRfl
set_option linter.unusedSimpArgs false
set_option linter.unusedVariables false
set_option maxRecDepth 4000
set_option maxHeartbeats 4000000
open List renaming append_nil→Zaa,take_length→Zab,set_cons_zero→Zac,replicate→Zad,set_cons_succ→Zae,prefix_refl→Zaf,getElem_mem→Zag,append_assoc→Zai,mem_cons_self→Zaj,flatten_cons→Zak,eraseIdx_cons_succ→Zal,nodup_append→Zam,mem_append_right→Zan,getElem?_eq_some_iff→Zao,nil_append→Zap,replicate_succ→Zaq,eraseIdx_cons_zero→Zar,length_take→Zas,prefix_append→Zat,mem_cons_of_mem→Zav,mem_append_left→Zaw,take_zero→Zax,filterMap_cons→Zay,map_cons→Zaz,take_succ_eq_append_getElem→Za0,getElem?_map→Za1,set_append_right→Za2,cons_append→Za4,mem_cons→Za5,nodup_cons→Za7,length_append→Za9,getElem?_eq_getElem→Zba,mem_flatten→Zbb,getElem?_set_self→Zbc,map_append→Zbd,mem_append→Zbe,length_replicate→Zbf,mem_of_getElem?→Zbg,getElem_of_mem→Zbh,filter_append→Zbi,length_cons→Zbj,filter_cons→Zbk,sum_append→Zbl,length_nil→Zbn
open Option renaming bind_some→Zah,map_some→Zau,some→Zbp
open Nat renaming le_trans→Za3,le_refl→Za6,sub_zero→Za8,min_eq_left→Zbo
open Bool renaming eq_iff_iff→Zbm
namespace Go.Proofs.YtckobfochhjmdaaGreatDoor.Sy
open Go Go.RowKit
def lf (n:Int) (m:Nat):Int:=if n - m<0 then -1 else n - m
theorem Bi {n:Int} {m:Nat}:lf n m<0↔n<m:=by unfold lf;split<;>omega
theorem Ar {n:Int} {m:Nat} (h:¬ lf n m<0):lf n m=n - m:=by unfold lf at *;split at h<;>first|omega|(rw [if_neg ‹_›])
theorem Co {n:Int} {m:Nat} (h:0<=n):lf n m<=n:=by unfold lf;split<;>omega
theorem A4h {n:Int} {m:Nat}: -1<=lf n m:=by unfold lf;split<;>omega
def sumL {Y:Type} (f:Y->Nat) (l:List Y):Nat:=(l.map f).sum
theorem Fn {Y:Type} {f:Y->Nat} {l:List Y} {i:Nat} (h:i<l.length):sumL f (l.take (i+1))=sumL f (l.take i)+f l[i]:=by
 unfold sumL;rw[Ai h,Zbd,Zbl];simp
theorem C9 {Y:Type} (f:Y->Nat) (l:List Y) (i:Nat):sumL f (l.take i)<=sumL f l:=by
 have:sumL f l=sumL f (l.take i)+sumL f (l.drop i):=by
  conv=>lhs;rw[<- List.take_append_drop i l]
  unfold sumL;rw[Zbd,Zbl]
 omega
theorem B8 {Y:Type} {f:Y->Nat} {l:List Y} {x:Y} (h:x∈l):f x<=sumL f l:=by
 induction l with
 |nil=>simp at h
 |cons y l ih=>
  simp only[sumL,Zaz,List.sum_cons] at*
  rcases Za5.1 h with rfl|h
  ·omega
  ·have:=ih h;omega
theorem Ahe {z i:Nat} {v:GV}:fld 0 (atz z v i)=atz z v i:=by
 cases v<;>rfl
theorem Ko {Y:Type} (p:Pl Y) (x:Y) (n:Nat):reps n (p.enc x)=p.cells (Zad n x):=by
 unfold reps
 induction n with
 |zero=>rfl
 |succ n ih=>
  rw[Zaq,Zak,ih,Zaq];rfl
theorem I4 {Y:Type} {l:List Y} {z:Y} {i:Nat} (h:i<l.length):(l.take i++Zad (l.length - i) z).set i l[i]=l.take (i+1)++Zad (l.length - (i+1)) z:=by
 rw[Ai h,Za2 _ _ (by simp;omega)]
 have e1:i - (l.take i).length=0:=by simp;omega
 rw[e1,show l.length - i=(l.length - (i+1))+1 by omega,Zaq,Zac,Zai]
 rfl
theorem Kp {Y:Type} {l:List Y} {z:Y} {i:Nat} (h:i<l.length):i<(l.take i++Zad (l.length - i) z).length:=by simp;omega
theorem Kq {Y:Type} {l:List Y} {z:Y}:l.take l.length++Zad (l.length - l.length) z=l:=by simp
namespace Hp
end Hp
theorem Ahf (l:List Int):(txt l).size=l.length:=by simp[txt,ByteArray.size]
def Fo (l:List Int):Nat:=l.length
def Ajl (l:List Int):Prop:=l.length<=9223372036854775807
def Av (x:Tally):Nat:=x.obj.size
def Ts (x:Tally):Prop:=x.obj.size<=9223372036854775807
def Bl (x:Live):Nat:=x.obj.size+x.key.size
def Adz (x:Live):Prop:=x.obj.size<=9223372036854775807/\x.key.size<=9223372036854775807
def Cj (x:Cell):Nat:=x.obj.size
def Aae (x:Cell):Prop:=x.obj.size<=9223372036854775807
def Ml (x:File):Nat:=x.text.size
def Ahg (x:File):Prop:=x.text.size<=9223372036854775807
def Bm (x:Letter):Nat:=x.text.size
def Q6 (x:Letter):Prop:=x.text.size<=9223372036854775807
def L7 (x:Act):Nat:=x.knew.length+x.obj.size+x.key.size
def wAct (x:Act):Prop:=x.knew.length<=9223372036854775807/\x.obj.size<=9223372036854775807/\x.key.size<=9223372036854775807
instance:DecidableEq Act:=fun a b=>if h:a.dot=b.dot/\a.time=b.time/\a.knew=b.knew/\a.kind=b.kind/\a.obj=b.obj/\a.key=b.key/\a.val=b.val/\a.ref=b.ref then isTrue (by cases a;cases b;simp only at h;obtain⟨rfl,rfl,rfl,rfl,rfl,rfl,rfl,rfl⟩:=h;rfl) else isFalse (fun e=>h (by subst e;exact⟨rfl,rfl,rfl,rfl,rfl,rfl,rfl,rfl⟩))
theorem Act.eq_iff {a b:Act}:a=b↔a.dot=b.dot/\a.time=b.time/\a.knew=b.knew/\a.kind=b.kind/\a.obj=b.obj/\a.key=b.key/\a.val=b.val/\a.ref=b.ref:=⟨fun h=>by subst h;exact⟨rfl,rfl,rfl,rfl,rfl,rfl,rfl,rfl⟩,fun h=>by cases a;cases b;simp only at h;obtain⟨rfl,rfl,rfl,rfl,rfl,rfl,rfl,rfl⟩:=h;rfl⟩
def A7 (x:State):Nat:=x.know.length+(x.tallies.length+sumL Av x.tallies)+(x.lives.length+sumL Bl x.lives)+(x.cells.length+sumL Cj x.cells)
def Acx (x:State):Prop:=x.know.length<=9223372036854775807/\(x.tallies.length<=9223372036854775807/\∀ y∈x.tallies,Ts y)/\(x.lives.length<=9223372036854775807/\∀ y∈x.lives,Adz y)/\(x.cells.length<=9223372036854775807/\∀ y∈x.cells,Aae y)
instance:DecidableEq State:=fun a b=>if h:a.know=b.know/\a.tallies=b.tallies/\a.lives=b.lives/\a.cells=b.cells then isTrue (by cases a;cases b;simp only at h;obtain⟨rfl,rfl,rfl,rfl⟩:=h;rfl) else isFalse (fun e=>h (by subst e;exact⟨rfl,rfl,rfl,rfl⟩))
theorem State.eq_iff {a b:State}:a=b↔a.know=b.know/\a.tallies=b.tallies/\a.lives=b.lives/\a.cells=b.cells:=⟨fun h=>by subst h;exact⟨rfl,rfl,rfl,rfl⟩,fun h=>by cases a;cases b;simp only at h;obtain⟨rfl,rfl,rfl,rfl⟩:=h;rfl⟩
def Cv (x:Delta):Nat:=x.base.length+x.know.length+(x.tallies.length+sumL Av x.tallies)+(x.lives.length+sumL Bl x.lives)+x.dead.length+(x.cells.length+sumL Cj x.cells)
def Afz (x:Delta):Prop:=x.base.length<=9223372036854775807/\x.know.length<=9223372036854775807/\(x.tallies.length<=9223372036854775807/\∀ y∈x.tallies,Ts y)/\(x.lives.length<=9223372036854775807/\∀ y∈x.lives,Adz y)/\x.dead.length<=9223372036854775807/\(x.cells.length<=9223372036854775807/\∀ y∈x.cells,Aae y)
instance:DecidableEq Delta:=fun a b=>if h:a.base=b.base/\a.know=b.know/\a.tallies=b.tallies/\a.lives=b.lives/\a.dead=b.dead/\a.cells=b.cells then isTrue (by cases a;cases b;simp only at h;obtain⟨rfl,rfl,rfl,rfl,rfl,rfl⟩:=h;rfl) else isFalse (fun e=>h (by subst e;exact⟨rfl,rfl,rfl,rfl,rfl,rfl⟩))
theorem Delta.eq_iff {a b:Delta}:a=b↔a.base=b.base/\a.know=b.know/\a.tallies=b.tallies/\a.lives=b.lives/\a.dead=b.dead/\a.cells=b.cells:=⟨fun h=>by subst h;exact⟨rfl,rfl,rfl,rfl,rfl,rfl⟩,fun h=>by cases a;cases b;simp only at h;obtain⟨rfl,rfl,rfl,rfl,rfl,rfl⟩:=h;rfl⟩
def B9 (x:Unit_):Nat:=L7 x.act+Cv x.delta
def Aaf (x:Unit_):Prop:=wAct x.act/\Afz x.delta
instance:DecidableEq Unit_:=fun a b=>if h:a.batch=b.batch/\a.act=b.act/\a.delta=b.delta then isTrue (by cases a;cases b;simp only at h;obtain⟨rfl,rfl,rfl⟩:=h;rfl) else isFalse (fun e=>h (by subst e;exact⟨rfl,rfl,rfl⟩))
theorem Unit_.eq_iff {a b:Unit_}:a=b↔a.batch=b.batch/\a.act=b.act/\a.delta=b.delta:=⟨fun h=>by subst h;exact⟨rfl,rfl,rfl⟩,fun h=>by cases a;cases b;simp only at h;obtain⟨rfl,rfl,rfl⟩:=h;rfl⟩
def G8 (x:Log):Nat:=A7 x.state+(x.units.length+sumL B9 x.units)+(x.waits.length+sumL B9 x.waits)
def wLog (x:Log):Prop:=Acx x.state/\(x.units.length<=9223372036854775807/\∀ y∈x.units,Aaf y)/\(x.waits.length<=9223372036854775807/\∀ y∈x.waits,Aaf y)
instance:DecidableEq Log:=fun a b=>if h:a.rep=b.rep/\a.time=b.time/\a.state=b.state/\a.units=b.units/\a.waits=b.waits then isTrue (by cases a;cases b;simp only at h;obtain⟨rfl,rfl,rfl,rfl,rfl⟩:=h;rfl) else isFalse (fun e=>h (by subst e;exact⟨rfl,rfl,rfl,rfl,rfl⟩))
theorem Log.eq_iff {a b:Log}:a=b↔a.rep=b.rep/\a.time=b.time/\a.state=b.state/\a.units=b.units/\a.waits=b.waits:=⟨fun h=>by subst h;exact⟨rfl,rfl,rfl,rfl,rfl⟩,fun h=>by cases a;cases b;simp only at h;obtain⟨rfl,rfl,rfl,rfl,rfl⟩:=h;rfl⟩
def Az (x:Commit):Nat:=x.ups.length+A7 x.state
def Tt (x:Commit):Prop:=x.ups.length<=9223372036854775807/\Acx x.state
instance:DecidableEq Commit:=fun a b=>if h:a.id=b.id/\a.ups=b.ups/\a.state=b.state then isTrue (by cases a;cases b;simp only at h;obtain⟨rfl,rfl,rfl⟩:=h;rfl) else isFalse (fun e=>h (by subst e;exact⟨rfl,rfl,rfl⟩))
theorem Commit.eq_iff {a b:Commit}:a=b↔a.id=b.id/\a.ups=b.ups/\a.state=b.state:=⟨fun h=>by subst h;exact⟨rfl,rfl,rfl⟩,fun h=>by cases a;cases b;simp only at h;obtain⟨rfl,rfl,rfl⟩:=h;rfl⟩
def Cc (x:Graph):Nat:=(x.commits.length+sumL Az x.commits)
def Acy (x:Graph):Prop:=(x.commits.length<=9223372036854775807/\∀ y∈x.commits,Tt y)
instance:DecidableEq Graph:=fun a b=>if h:a.commits=b.commits/\a.head=b.head then isTrue (by cases a;cases b;simp only at h;obtain⟨rfl,rfl⟩:=h;rfl) else isFalse (fun e=>h (by subst e;exact⟨rfl,rfl⟩))
theorem Graph.eq_iff {a b:Graph}:a=b↔a.commits=b.commits/\a.head=b.head:=⟨fun h=>by subst h;exact⟨rfl,rfl⟩,fun h=>by cases a;cases b;simp only at h;obtain⟨rfl,rfl⟩:=h;rfl⟩
def A8 (x:Replica):Nat:=G8 x.log+Cc x.graph+Ml x.file+(x.out.length+sumL B9 x.out)
def Mm (x:Replica):Prop:=wLog x.log/\Acy x.graph/\Ahg x.file/\(x.out.length<=9223372036854775807/\∀ y∈x.out,Aaf y)
instance:DecidableEq Replica:=fun a b=>if h:a.way=b.way/\a.log=b.log/\a.graph=b.graph/\a.file=b.file/\a.out=b.out then isTrue (by cases a;cases b;simp only at h;obtain⟨rfl,rfl,rfl,rfl,rfl⟩:=h;rfl) else isFalse (fun e=>h (by subst e;exact⟨rfl,rfl,rfl,rfl,rfl⟩))
theorem Replica.eq_iff {a b:Replica}:a=b↔a.way=b.way/\a.log=b.log/\a.graph=b.graph/\a.file=b.file/\a.out=b.out:=⟨fun h=>by subst h;exact⟨rfl,rfl,rfl,rfl,rfl⟩,fun h=>by cases a;cases b;simp only at h;obtain⟨rfl,rfl,rfl,rfl,rfl⟩:=h;rfl⟩
def Em (x:World_):Nat:=(x.replicas.length+sumL A8 x.replicas)+(x.net.length+sumL Bm x.net)+x.codes.length+(x.synced.length+sumL Fo x.synced)
def Aia (x:World_):Prop:=(x.replicas.length<=9223372036854775807/\∀ y∈x.replicas,Mm y)/\(x.net.length<=9223372036854775807/\∀ y∈x.net,Q6 y)/\x.codes.length<=9223372036854775807/\(x.synced.length<=9223372036854775807/\∀ y∈x.synced,Ajl y)
instance:DecidableEq World_:=fun a b=>if h:a.replicas=b.replicas/\a.net=b.net/\a.codes=b.codes/\a.synced=b.synced then isTrue (by cases a;cases b;simp only at h;obtain⟨rfl,rfl,rfl,rfl⟩:=h;rfl) else isFalse (fun e=>h (by subst e;exact⟨rfl,rfl,rfl,rfl⟩))
theorem World_.eq_iff {a b:World_}:a=b↔a.replicas=b.replicas/\a.net=b.net/\a.codes=b.codes/\a.synced=b.synced:=⟨fun h=>by subst h;exact⟨rfl,rfl,rfl,rfl⟩,fun h=>by cases a;cases b;simp only at h;obtain⟨rfl,rfl,rfl,rfl⟩:=h;rfl⟩
instance:DecidableEq Script:=fun a b=>if h:a.ways=b.ways/\a.events=b.events/\a.calm=b.calm then isTrue (by cases a;cases b;simp only at h;obtain⟨rfl,rfl,rfl⟩:=h;rfl) else isFalse (fun e=>h (by subst e;exact⟨rfl,rfl,rfl⟩))
def A1u:Fn1:=⟨26,[.t 4],(rg [oV 4 kf] (.seq (rg [oM 6 0,oN 7 6,oM 8 1,oN 9 8,oB 10 .neq 7 9] (oG 10 (oR 4 kf))) (.seq (rg [oV 5 (ki 0)] (oH 0 (.seq (rg [oM 11 5,oM 12 0,oN 13 12,oB 14 .lss 11 13] (oJ 14 0)) (.seq (.blk 1 (dw [oM 17 0,oM 18 5,oI 19 1 17 18,oL 20 19,oM 21 1,oM 22 5,oI 23 1 21 22,oL 24 23] [oB 25 .neq 20 24] (oG 25 (oR 4 kf)))) (.reg [oM 15 5,oZ 16 15 1,oM 5 16]))))) (oR 4 kt))))⟩
theorem Aag:A2 Tryz.prog 30=some A1u:=by kernel_rfl
theorem Cw (U:St) (v u:GV) (l m:List Int) (hv:RS pI.kd U v l) (hu:RS pI.kd U u m) (hl:l.length<=1099511627776):Ret Tryz.prog 30 [v,u] U (.bool (decide (l=m))) U:=by
 refine Ac Aag (Z0z rfl) trivial ?_
 simp +contextual (disch:=omega) only[go_sem,A1u,hv.len,hu.len]
 refine⟨fun hn=> ?_,fun hn=> ?_⟩
 ·have:l≠m:=fun h=>by subst h;simp at hn
  simp[this]
 have hlm:l.length=m.length:=by
                    have h2:(l.length:Int)=m.length:=by simpa using hn
                    omega
 refine Ay l.length 5 (fun i env N=>env 0=v/\env 1=u/\l.take i=m.take i/\U <+: N) rfl ⟨rfl,rfl,rfl,Zaf _⟩ ?_ ?_
 ·rintro i env N hi e5 c0 ⟨e0,e1,he,hp⟩
  have hj:i<m.length:=by omega
  have h1:=hv.pre hp
  have h2:=hu.pre hp
  have hne:l[i]≠m[i]->l≠m:=fun h h'=>h (by subst h';rfl)
  have hst:l[i]=m[i]->l.take (i+1)=m.take (i+1):=fun h=>by rw[Ai hi,Ai hj,he,h]
  simp +contextual (disch:=omega) only[go_sem,c0,e0,e1,e5,hv.len,hu.len,I3 h1 hi,I3 h2 hj,hp]
  refine⟨fun h=> ?_,fun h=> ?_⟩
  ·simp[hne (by simpa using h)]
  ·simpa using hst (by simpa using h)
 ·rintro env N e5 c0 ⟨e0,e1,he,hp⟩
  rw[Zab,hlm,Zab] at he
  simp +contextual (disch:=omega) only[go_sem,c0,e0,e1,e5,hv.len,hu.len,hp]
  simp[he]
def Tv:Fn1:=⟨27,[.t 4],(rg [oV 4 kf] (.seq (rg [oM 6 0,oN 7 6,oM 8 1,oN 9 8,oB 10 .neq 7 9] (oG 10 (oR 4 kf))) (.seq (rg [oV 5 (ki 0)] (oH 0 (.seq (rg [oM 11 5,oM 12 0,oN 13 12,oB 14 .lss 11 13] (oJ 14 0)) (.seq (.blk 1 (dw [oM 17 0,oM 18 5,oI 19 1 17 18,oL 20 19,oM 21 1,oM 22 5,oI 23 1 21 22,oL 24 23] [oD 25 30 20 24,oU 26 25] (oG 26 (oR 4 kf)))) (.reg [oM 15 5,oZ 16 15 1,oM 5 16]))))) (oR 4 kt))))⟩
theorem A6j:A2 Tryz.prog 31=some Tv:=by kernel_rfl
theorem A4i (U:St) (v u:GV) (l m:List (List Int)) (hv:RS (Kd.sl pI.kd) U v l) (hu:RS (Kd.sl pI.kd) U u m) (hl:(l.length+sumL Fo l)<=1099511627776):Ret Tryz.prog 31 [v,u] U (.bool (decide (l=m))) U:=by
 refine Ac A6j (Z0z rfl) trivial ?_
 simp +contextual (disch:=omega) only[go_sem,Tv,hv.len,hu.len]
 refine⟨fun hn=> ?_,fun hn=> ?_⟩
 ·have:l≠m:=fun h=>by subst h;simp at hn
  simp[this]
 have hlm:l.length=m.length:=by
                    have h2:(l.length:Int)=m.length:=by simpa using hn
                    omega
 refine Ay l.length 5 (fun i env N=>env 0=v/\env 1=u/\l.take i=m.take i/\U <+: N) rfl ⟨rfl,rfl,rfl,Zaf _⟩ ?_ ?_
 ·rintro i env N hi e5 c0 ⟨e0,e1,he,hp⟩
  have hj:i<m.length:=by omega
  have h1:=hv.pre hp
  have h2:=hu.pre hp
  have hne:l[i]≠m[i]->l≠m:=fun h h'=>h (by subst h';rfl)
  have hst:l[i]=m[i]->l.take (i+1)=m.take (i+1):=fun h=>by rw[Ai hi,Ai hj,he,h]
  have hms:Fo l[i]<=sumL Fo l:=B8 (Zag hi)
  obtain⟨c,hc,hcr⟩:=RdN.cells1 h1 hi
  obtain⟨d,hd,hdr⟩:=RdN.cells1 h2 hj
  simp +contextual (disch:=omega) only[go_sem,c0,e0,e1,e5,hv.len,hu.len,hc,hd]
  have hms2:Fo l[i]=l[i].length:=rfl
  refine A5 (Cw N c d l[i] m[i] hcr hdr (by omega)) ?_
  simp +contextual (disch:=omega) only[go_sem,e0,e1,e5,hp]
  refine⟨fun h=> ?_,fun h=> ?_⟩
  ·simp[hne (by simpa using h)]
  ·simpa using hst (by simpa using h)
 ·rintro env N e5 c0 ⟨e0,e1,he,hp⟩
  rw[Zab,hlm,Zab] at he
  simp +contextual (disch:=omega) only[go_sem,c0,e0,e1,e5,hv.len,hu.len,hp]
  simp[he]
def Rg:Fn1:=⟨15,[.t 4],(rg [oX 2 0,oX 3 1,oV 4 kf] (.seq (rg [oF 5 0 2,oL 6 5,oF 7 0 3,oL 8 7,oB 9 .neq 6 8] (oG 9 (oR 4 kf))) (.seq (rg [oF 10 1 2,oL 11 10,oF 12 1 3,oL 13 12,oB 14 .neq 11 13] (oG 14 (oR 4 kf))) (oR 4 kt))))⟩
theorem A4j:A2 Tryz.prog 63=some Rg:=by kernel_rfl
theorem A0q (U:St) (x y:Letter):Ret Tryz.prog 63 [.agg [.int .i64 x.to,.str x.text],.agg [.int .i64 y.to,.str y.text]] U (.bool (decide (x=y))) U:=by
 refine Ac A4j (Z0z rfl) trivial ?_
 simp +contextual (disch:=omega) only[go_sem,Rg,Zaa]
 refine⟨fun hn=> ?_,fun hn=> ?_⟩
 ·simp only[Letter.eq_iff];simp at hn ⊢;simp[hn]
 have q0:x.to=y.to:=by simpa using hn
 refine⟨fun hn=> ?_,fun hn=> ?_⟩
 ·simp only[Letter.eq_iff];simp at hn ⊢;simp[hn]
 have q1:x.text=y.text:=by simpa using hn
 simp only[Letter.eq_iff,q0,q1,and_self,decide_true]
def Mo:Fn1:=⟨27,[.t 4],(rg [oV 4 kf] (.seq (rg [oM 6 0,oN 7 6,oM 8 1,oN 9 8,oB 10 .neq 7 9] (oG 10 (oR 4 kf))) (.seq (rg [oV 5 (ki 0)] (oH 0 (.seq (rg [oM 11 5,oM 12 0,oN 13 12,oB 14 .lss 11 13] (oJ 14 0)) (.seq (.blk 1 (dw [oM 17 0,oM 18 5,oI 19 2 17 18,oW 20 2 19,oM 21 1,oM 22 5,oI 23 2 21 22,oW 24 2 23] [oD 25 63 20 24,oU 26 25] (oG 26 (oR 4 kf)))) (.reg [oM 15 5,oZ 16 15 1,oM 5 16]))))) (oR 4 kt))))⟩
theorem A0r:A2 Tryz.prog 29=some Mo:=by kernel_rfl
theorem Tw (U:St) (v u:GV) (l m:List Letter) (hv:RS Ej.kd U v l) (hu:RS Ej.kd U u m) (hl:(l.length+sumL Bm l)<=1099511627776):Ret Tryz.prog 29 [v,u] U (.bool (decide (l=m))) U:=by
 refine Ac A0r (Z0z rfl) trivial ?_
 simp +contextual (disch:=omega) only[go_sem,Mo,hv.len,hu.len]
 refine⟨fun hn=> ?_,fun hn=> ?_⟩
 ·have:l≠m:=fun h=>by subst h;simp at hn
  simp[this]
 have hlm:l.length=m.length:=by
                    have h2:(l.length:Int)=m.length:=by simpa using hn
                    omega
 refine Ay l.length 5 (fun i env N=>env 0=v/\env 1=u/\l.take i=m.take i/\U <+: N) rfl ⟨rfl,rfl,rfl,Zaf _⟩ ?_ ?_
 ·rintro i env N hi e5 c0 ⟨e0,e1,he,hp⟩
  have hj:i<m.length:=by omega
  have h1:=hv.pre hp
  have h2:=hu.pre hp
  have hne:l[i]≠m[i]->l≠m:=fun h h'=>h (by subst h';rfl)
  have hst:l[i]=m[i]->l.take (i+1)=m.take (i+1):=fun h=>by rw[Ai hi,Ai hj,he,h]
  have hms:Bm l[i]<=sumL Bm l:=B8 (Zag hi)
  simp +contextual (disch:=omega) only[go_sem,c0,e0,e1,e5,hv.len,hu.len,I2 h1 hi,I2 h2 hj]
  refine A5 (A0q N l[i] m[i]) ?_
  simp +contextual (disch:=omega) only[go_sem,e0,e1,e5,hp]
  refine⟨fun h=> ?_,fun h=> ?_⟩
  ·simp[hne (by simpa using h)]
  ·simpa using hst (by simpa using h)
 ·rintro env N e5 c0 ⟨e0,e1,he,hp⟩
  rw[Zab,hlm,Zab] at he
  simp +contextual (disch:=omega) only[go_sem,c0,e0,e1,e5,hv.len,hu.len,hp]
  simp[he]
def A1w:Fn1:=⟨15,[.t 4],(rg [oX 2 0,oX 3 1,oV 4 kf] (.seq (rg [oF 5 0 2,oL 6 5,oF 7 0 3,oL 8 7,oB 9 .neq 6 8] (oG 9 (oR 4 kf))) (.seq (rg [oF 10 1 2,oL 11 10,oF 12 1 3,oL 13 12,oB 14 .neq 11 13] (oG 14 (oR 4 kf))) (oR 4 kt))))⟩
theorem Aah:A2 Tryz.prog 108=some A1w:=by kernel_rfl
theorem A6k (U:St) (x y:File):Ret Tryz.prog 108 [.agg [.str x.text,.int .i64 x.synced],.agg [.str y.text,.int .i64 y.synced]] U (.bool (decide (x=y))) U:=by
 refine Ac Aah (Z0z rfl) trivial ?_
 simp +contextual (disch:=omega) only[go_sem,A1w,Zaa]
 refine⟨fun hn=> ?_,fun hn=> ?_⟩
 ·simp only[File.eq_iff];simp at hn ⊢;simp[hn]
 have q0:x.text=y.text:=by simpa using hn
 refine⟨fun hn=> ?_,fun hn=> ?_⟩
 ·simp only[File.eq_iff];simp at hn ⊢;simp[hn]
 have q1:x.synced=y.synced:=by simpa using hn
 simp only[File.eq_iff,q0,q1,and_self,decide_true]
theorem Hp.ownAct {U N:St} {rs:List Thg} {x:Act} {v2:GV} (H:Hp U N (ow pI.kd v2 x.knew::rs)):Hp U N (own kAct ((GV.int .i64 x.dot.rep)::(GV.int .i64 x.dot.seq)::(GV.int .i64 x.time)::v2::(GV.int .i64 x.kind)::(GV.str x.obj)::(GV.str x.key)::(GV.int .i64 x.val)::(GV.int .i64 x.ref.rep)::(GV.int .i64 x.ref.seq)::[]) x::rs):=by
 refine(H).conv ?_
 intro fp h0
 exact⟨v2,fp,rfl,h0,rfl⟩
theorem Hp.ownState {U N:St} {rs:List Thg} {x:State} {v0:GV} {v1:GV} {v2:GV} {v3:GV} (H:Hp U N (ow pI.kd v0 x.know::ow E7.kd v1 x.tallies::ow Dh.kd v2 x.lives::ow Al.kd v3 x.cells::rs)):Hp U N (own Ab (v0::v1::v2::v3::[]) x::rs):=by
 refine(H.join.join.join).conv ?_
 rintro fp ⟨_,f3,⟨_,f2,⟨f0,f1,h0,h1,rfl⟩,h2,rfl⟩,h3,rfl⟩
 exact⟨v0,v1,v2,v3,f0,f1,f2,f3,rfl,h0,h1,h2,h3,by simp[Zai]⟩
theorem Hp.ownDelta {U N:St} {rs:List Thg} {x:Delta} {v0:GV} {v1:GV} {v2:GV} {v3:GV} {v4:GV} {v5:GV} (H:Hp U N (ow pI.kd v0 x.base::ow pI.kd v1 x.know::ow E7.kd v2 x.tallies::ow Dh.kd v3 x.lives::ow pDot.kd v4 x.dead::ow Al.kd v5 x.cells::rs)):Hp U N (own Dr (v0::v1::v2::v3::v4::v5::[]) x::rs):=by
 refine(H.join.join.join.join.join).conv ?_
 rintro fp ⟨_,f5,⟨_,f4,⟨_,f3,⟨_,f2,⟨f0,f1,h0,h1,rfl⟩,h2,rfl⟩,h3,rfl⟩,h4,rfl⟩,h5,rfl⟩
 exact⟨v0,v1,v2,v3,v4,v5,f0,f1,f2,f3,f4,f5,rfl,h0,h1,h2,h3,h4,h5,by simp[Zai]⟩
theorem Hp.ownUnit_ {U N:St} {rs:List Thg} {x:Unit_} {v1:List GV} {v2:List GV} (H:Hp U N (own kAct v1 x.act::own Dr v2 x.delta::rs)):Hp U N (own Bv ((GV.bool x.batch)::v1++(v2++([]))) x::rs):=by
 refine(H.join).conv ?_
 rintro fp ⟨f0,f1,h0,h1,rfl⟩
 exact⟨v1,v2,f0,f1,rfl,h0,h1,by simp[Zai]⟩
theorem Hp.ownLog {U N:St} {rs:List Thg} {x:Log} {v2:List GV} {v3:GV} {v4:GV} (H:Hp U N (own Ab v2 x.state::ow Bv v3 x.units::ow Bv v4 x.waits::rs)):Hp U N (own kLog ((GV.int .i64 x.rep)::(GV.int .i64 x.time)::v2++(v3::v4::[])) x::rs):=by
 refine(H.join.join).conv ?_
 rintro fp ⟨_,f2,⟨f0,f1,h0,h1,rfl⟩,h2,rfl⟩
 exact⟨v2,v3,v4,f0,f1,f2,rfl,h0,h1,h2,by simp[Zai]⟩
theorem Hp.ownCommit {U N:St} {rs:List Thg} {x:Commit} {v1:GV} {v2:List GV} (H:Hp U N (ow pI.kd v1 x.ups::own Ab v2 x.state::rs)):Hp U N (own Bq ((GV.int .i64 x.id.rep)::(GV.int .i64 x.id.seq)::v1::v2++([])) x::rs):=by
 refine(H.join).conv ?_
 rintro fp ⟨f0,f1,h0,h1,rfl⟩
 exact⟨v1,v2,f0,f1,rfl,h0,h1,by simp[Zai]⟩
theorem Hp.ownGraph {U N:St} {rs:List Thg} {x:Graph} {v0:GV} (H:Hp U N (ow Bq v0 x.commits::rs)):Hp U N (own E8 (v0::(GV.int .i64 x.head)::[]) x::rs):=by
 refine(H).conv ?_
 intro fp h0
 exact⟨v0,fp,rfl,h0,rfl⟩
theorem Hp.ownReplica {U N:St} {rs:List Thg} {x:Replica} {v1:List GV} {v2:List GV} {v4:GV} (H:Hp U N (own kLog v1 x.log::own E8 v2 x.graph::ow Bv v4 x.out::rs)):Hp U N (own Ap ((GV.int .i64 x.way)::v1++(v2++((GV.str x.file.text)::(GV.int .i64 x.file.synced)::v4::[]))) x::rs):=by
 refine(H.join.join).conv ?_
 rintro fp ⟨_,f2,⟨f0,f1,h0,h1,rfl⟩,h2,rfl⟩
 exact⟨v1,v2,v4,f0,f1,f2,rfl,h0,h1,h2,by simp[Zai]⟩
theorem Hp.ownWorld_ {U N:St} {rs:List Thg} {x:World_} {v0:GV} {v1:GV} {v2:GV} {v3:GV} (H:Hp U N (ow Ap v0 x.replicas::ow Ej.kd v1 x.net::ow pI.kd v2 x.codes::ow (Kd.sl pI.kd) v3 x.synced::rs)):Hp U N (own By (v0::v1::v2::v3::[]) x::rs):=by
 refine(H.join.join.join).conv ?_
 rintro fp ⟨_,f3,⟨_,f2,⟨f0,f1,h0,h1,rfl⟩,h2,rfl⟩,h3,rfl⟩
 exact⟨v0,v1,v2,v3,f0,f1,f2,f3,rfl,h0,h1,h2,h3,by simp[Zai]⟩
def A6m:Fn1:=⟨11,[.c 2 true 2],(rg [oX 1 0,o 2 (.new [z0,z0])] (rg [o 3 (.new [z0,z0])] (rg [oF 4 0 1,oL 5 4,oF 6 0 3,oS 1 6 5] (rg [oF 7 1 1,oL 8 7,oF 9 1 3,oS 1 9 8] (rg [oW 10 2 3,oS 2 2 10] .ret)))))⟩
theorem Ae0:A2 Tryz.prog 292=some A6m:=by kernel_rfl
theorem Dy (U:St) (x:Dot):Ret Tryz.prog 292 [.agg [.int .i64 x.rep,.int .i64 x.seq]] U (.agg [.int .i64 x.rep,.int .i64 x.seq]) U:=by
 refine Ac Ae0 (Z0z rfl) (by simp[vLt,cLt,sLt]) ?_
 simp +contextual (disch:=omega) only[go_sem,A6m]
def A1y:Fn1:=⟨22,[.t 2],(rg [o 2 (.mov (.k .nilS))] (rg [oM 5 0,oN 6 5,o 7 (.mks 1 8 [z0] (.t 6) (.t 6)),oM 3 7] (.seq (rg [oV 4 (ki 0)] (oH 0 (.seq (rg [oM 8 4,oM 9 0,oN 10 9,oB 11 .lss 8 10] (oJ 11 0)) (.seq (.blk 1 (.reg [oM 14 3,oM 15 4,oM 16 0,oM 17 4,oI 18 1 16 17,oL 19 18,oI 20 1 14 15,oS 1 20 19])) (.reg [oM 12 4,oZ 13 12 1,oM 4 13]))))) (rg [oM 21 3,oM 2 21] .ret))))⟩
theorem Aai:A2 Tryz.prog 26=some A1y:=by kernel_rfl
theorem Cx (U:St) (v:GV) (l:List Int) (hR:RS pI.kd U v l) (hl:l.length<=1099511627776):∃ r N,Ret Tryz.prog 26 [v] U r N/\Hp U N [ow pI.kd r l]:=by
 refine A1s (rs:=fun r=>[ow pI.kd r l]) Aai (Z0z rfl) ?_
 have hmk:∀ ze,mksG 1 8 ze U (some l.length) (some l.length)=some (.sl U.length 0 l.length,U++[some (.row 1 (reps l.length ze))]):=fun ze=>A1r (by omega)
 simp +contextual (disch:=omega) only[go_sem,A1y,hR.len,hmk]
 have H0:=((Hp.refl U).new 1 (reps l.length (pI.enc 0))).toRow 0 (p:=pI) rfl (Zad l.length 0) rfl (Ko _ _ _) l.length (by simp)
 refine Ay l.length 4 (fun i env N=>env 0=v/\env 3= .sl U.length 0 l.length/\Hp U N [ow pI.kd (.sl U.length 0 l.length) (l.take i++Zad (l.length - i) 0)]) rfl ⟨rfl,rfl,by rw[Zax,Zap,Za8];exact H0⟩ ?_ ?_
 ·rintro i env N hi e4 c0 ⟨e0,e3,H⟩
  have h1:=hR.pre H.sub
  have h2:=H.sl 0 rfl
  have hj:=Kp (z:=(0:Int)) hi
  obtain⟨N',es,H'⟩:=H.stw 0 rfl hj 1 (.int .i64 l[i]) l[i] rfl rfl (by decide)
  rw[I4 hi] at H'
  have es:stG 1 N (atz 1 (.sl U.length 0 l.length) i) (.int .i64 l[i])=some (.tup [],N'):=es
  simp +contextual (disch:=omega) only[go_sem,e0,e3,e4,c0,hR.len,I3 h1 hi,I3 h2 hj,es]
  exact H'
 ·rintro env N e4 c0 ⟨e0,e3,H⟩
  rw[Kq] at H
  simp +contextual (disch:=omega) only[go_sem,e0,e3,e4,c0,hR.len]
  exact⟨_,rfl,H⟩
def A20:Fn1:=⟨25,[.c 2 true 8],(rg [oX 1 0,o 2 (.new [s0,z0,z0,z0,z0,z0,z0,(.bool false)])] (rg [o 3 (.new [s0,z0,z0,z0,z0,z0,z0,(.bool false)])] (rg [oF 4 0 1,oL 5 4,oF 6 0 3,oS 1 6 5] (rg [oF 7 1 1,oW 8 2 7,oC 9 292 8,oF 10 1 3,oS 2 10 9] (rg [oF 11 3 1,oL 12 11,oF 13 3 3,oS 1 13 12] (rg [oF 14 4 1,oW 15 2 14,oC 16 292 15,oF 17 4 3,oS 2 17 16] (rg [oF 18 6 1,oL 19 18,oF 20 6 3,oS 1 20 19] (rg [oF 21 7 1,oL 22 21,oF 23 7 3,oS 1 23 22] (rg [oW 24 8 3,oS 8 2 24] .ret)))))))))⟩
theorem Aaj:A2 Tryz.prog 291=some A20:=by kernel_rfl
theorem A6n (U:St) (x:Cell):Ret Tryz.prog 291 [.agg [.str x.obj,.int .i64 x.dot.rep,.int .i64 x.dot.seq,.int .i64 x.time,.int .i64 x.ref.rep,.int .i64 x.ref.seq,.int .i64 x.val,.bool x.gone]] U (.agg [.str x.obj,.int .i64 x.dot.rep,.int .i64 x.dot.seq,.int .i64 x.time,.int .i64 x.ref.rep,.int .i64 x.ref.seq,.int .i64 x.val,.bool x.gone]) U:=by
 refine Ac Aaj (Z0z rfl) (by simp[vLt,cLt,sLt]) ?_
 simp +contextual (disch:=omega) only[go_sem,A20]
 refine A5 (Dy _ x.dot) ?_
 simp +contextual (disch:=omega) only[go_sem,Zaa]
 refine A5 (Dy _ x.ref) ?_
 simp +contextual (disch:=omega) only[go_sem,Zaa]
def Ty:Fn1:=⟨23,[.t 2],(rg [o 2 (.mov (.k .nilS))] (rg [oM 5 0,oN 6 5,o 7 (.mks 8 72 [s0,z0,z0,z0,z0,z0,z0,(.bool false)] (.t 6) (.t 6)),oM 3 7] (.seq (rg [oV 4 (ki 0)] (oH 0 (.seq (rg [oM 8 4,oM 9 0,oN 10 9,oB 11 .lss 8 10] (oJ 11 0)) (.seq (.blk 1 (.reg [oM 14 3,oM 15 4,oM 16 0,oM 17 4,oI 18 8 16 17,oW 19 8 18,oC 20 291 19,oI 21 8 14 15,oS 8 21 20])) (.reg [oM 12 4,oZ 13 12 1,oM 4 13]))))) (rg [oM 22 3,oM 2 22] .ret))))⟩
theorem A6o:A2 Tryz.prog 226=some Ty:=by kernel_rfl
theorem Mp (U:St) (v:GV) (l:List Cell) (hR:RS Al.kd U v l) (hl:l.length<=1099511627776):∃ r N,Ret Tryz.prog 226 [v] U r N/\Hp U N [ow Al.kd r l]:=by
 refine A1s (rs:=fun r=>[ow Al.kd r l]) A6o (Z0z rfl) ?_
 have hmk:∀ ze,mksG 8 72 ze U (some l.length) (some l.length)=some (.sl U.length 0 l.length,U++[some (.row 8 (reps l.length ze))]):=fun ze=>A1r (by omega)
 simp +contextual (disch:=omega) only[go_sem,Ty,hR.len,hmk]
 have H0:=((Hp.refl U).new 8 (reps l.length (Al.enc ⟨⟨#[]⟩,⟨0,0⟩,0,⟨0,0⟩,0,false⟩))).toRow 0 (p:=Al) rfl (Zad l.length ⟨⟨#[]⟩,⟨0,0⟩,0,⟨0,0⟩,0,false⟩) rfl (Ko _ _ _) l.length (by simp)
 refine Ay l.length 4 (fun i env N=>env 0=v/\env 3= .sl U.length 0 l.length/\Hp U N [ow Al.kd (.sl U.length 0 l.length) (l.take i++Zad (l.length - i) ⟨⟨#[]⟩,⟨0,0⟩,0,⟨0,0⟩,0,false⟩)]) rfl ⟨rfl,rfl,by rw[Zax,Zap,Za8];exact H0⟩ ?_ ?_
 ·rintro i env N hi e4 c0 ⟨e0,e3,H⟩
  have h1:=hR.pre H.sub
  have h2:=H.sl 0 rfl
  have hj:=Kp (z:=(⟨⟨#[]⟩,⟨0,0⟩,0,⟨0,0⟩,0,false⟩:Cell)) hi
  simp +contextual (disch:=omega) only[go_sem,e0,e3,e4,c0,hR.len,A6 h1 hi]
  refine A5 (A6n N l[i]) ?_
  obtain⟨N',es,H'⟩:=H.stw 0 rfl hj 8 (.agg [.str l[i].obj,.int .i64 l[i].dot.rep,.int .i64 l[i].dot.seq,.int .i64 l[i].time,.int .i64 l[i].ref.rep,.int .i64 l[i].ref.seq,.int .i64 l[i].val,.bool l[i].gone]) l[i] rfl rfl (by decide)
  rw[I4 hi] at H'
  have es:stG 8 N (atz 8 (.sl U.length 0 l.length) i) (.agg [.str l[i].obj,.int .i64 l[i].dot.rep,.int .i64 l[i].dot.seq,.int .i64 l[i].time,.int .i64 l[i].ref.rep,.int .i64 l[i].ref.seq,.int .i64 l[i].val,.bool l[i].gone])=some (.tup [],N'):=es
  simp +contextual (disch:=omega) only[go_sem,e0,e3,e4,c0,hR.len,A6 h1 hi,A6 h2 hj,es]
  exact H'
 ·rintro env N e4 c0 ⟨e0,e3,H⟩
  rw[Kq] at H
  simp +contextual (disch:=omega) only[go_sem,e0,e3,e4,c0,hR.len]
  exact⟨_,rfl,H⟩
def A22:Fn1:=⟨21,[.c 2 true 6],(rg [oX 1 0,o 2 (.new [(.bool false),s0,s0,z0,z0,z0])] (rg [o 3 (.new [(.bool false),s0,s0,z0,z0,z0])] (rg [oF 4 0 1,oL 5 4,oF 6 0 3,oS 1 6 5] (rg [oF 7 1 1,oL 8 7,oF 9 1 3,oS 1 9 8] (rg [oF 10 2 1,oL 11 10,oF 12 2 3,oS 1 12 11] (rg [oF 13 3 1,oL 14 13,oF 15 3 3,oS 1 15 14] (rg [oF 16 4 1,oW 17 2 16,oC 18 292 17,oF 19 4 3,oS 2 19 18] (rg [oW 20 6 3,oS 6 2 20] .ret))))))))⟩
theorem Aak:A2 Tryz.prog 290=some A22:=by kernel_rfl
theorem A6p (U:St) (x:Live):Ret Tryz.prog 290 [.agg [.bool x.map,.str x.obj,.str x.key,.int .i64 x.val,.int .i64 x.dot.rep,.int .i64 x.dot.seq]] U (.agg [.bool x.map,.str x.obj,.str x.key,.int .i64 x.val,.int .i64 x.dot.rep,.int .i64 x.dot.seq]) U:=by
 refine Ac Aak (Z0z rfl) (by simp[vLt,cLt,sLt]) ?_
 simp +contextual (disch:=omega) only[go_sem,A22]
 refine A5 (Dy _ x.dot) ?_
 simp +contextual (disch:=omega) only[go_sem,Zaa]
def V2:Fn1:=⟨23,[.t 2],(rg [o 2 (.mov (.k .nilS))] (rg [oM 5 0,oN 6 5,o 7 (.mks 6 64 [(.bool false),s0,s0,z0,z0,z0] (.t 6) (.t 6)),oM 3 7] (.seq (rg [oV 4 (ki 0)] (oH 0 (.seq (rg [oM 8 4,oM 9 0,oN 10 9,oB 11 .lss 8 10] (oJ 11 0)) (.seq (.blk 1 (.reg [oM 14 3,oM 15 4,oM 16 0,oM 17 4,oI 18 6 16 17,oW 19 6 18,oC 20 290 19,oI 21 6 14 15,oS 6 21 20])) (.reg [oM 12 4,oZ 13 12 1,oM 4 13]))))) (rg [oM 22 3,oM 2 22] .ret))))⟩
theorem A6q:A2 Tryz.prog 225=some V2:=by kernel_rfl
theorem Mq (U:St) (v:GV) (l:List Live) (hR:RS Dh.kd U v l) (hl:l.length<=1099511627776):∃ r N,Ret Tryz.prog 225 [v] U r N/\Hp U N [ow Dh.kd r l]:=by
 refine A1s (rs:=fun r=>[ow Dh.kd r l]) A6q (Z0z rfl) ?_
 have hmk:∀ ze,mksG 6 64 ze U (some l.length) (some l.length)=some (.sl U.length 0 l.length,U++[some (.row 6 (reps l.length ze))]):=fun ze=>A1r (by omega)
 simp +contextual (disch:=omega) only[go_sem,V2,hR.len,hmk]
 have H0:=((Hp.refl U).new 6 (reps l.length (Dh.enc ⟨false,⟨#[]⟩,⟨#[]⟩,0,⟨0,0⟩⟩))).toRow 0 (p:=Dh) rfl (Zad l.length ⟨false,⟨#[]⟩,⟨#[]⟩,0,⟨0,0⟩⟩) rfl (Ko _ _ _) l.length (by simp)
 refine Ay l.length 4 (fun i env N=>env 0=v/\env 3= .sl U.length 0 l.length/\Hp U N [ow Dh.kd (.sl U.length 0 l.length) (l.take i++Zad (l.length - i) ⟨false,⟨#[]⟩,⟨#[]⟩,0,⟨0,0⟩⟩)]) rfl ⟨rfl,rfl,by rw[Zax,Zap,Za8];exact H0⟩ ?_ ?_
 ·rintro i env N hi e4 c0 ⟨e0,e3,H⟩
  have h1:=hR.pre H.sub
  have h2:=H.sl 0 rfl
  have hj:=Kp (z:=(⟨false,⟨#[]⟩,⟨#[]⟩,0,⟨0,0⟩⟩:Live)) hi
  simp +contextual (disch:=omega) only[go_sem,e0,e3,e4,c0,hR.len,A3 h1 hi]
  refine A5 (A6p N l[i]) ?_
  obtain⟨N',es,H'⟩:=H.stw 0 rfl hj 6 (.agg [.bool l[i].map,.str l[i].obj,.str l[i].key,.int .i64 l[i].val,.int .i64 l[i].dot.rep,.int .i64 l[i].dot.seq]) l[i] rfl rfl (by decide)
  rw[I4 hi] at H'
  have es:stG 6 N (atz 6 (.sl U.length 0 l.length) i) (.agg [.bool l[i].map,.str l[i].obj,.str l[i].key,.int .i64 l[i].val,.int .i64 l[i].dot.rep,.int .i64 l[i].dot.seq])=some (.tup [],N'):=es
  simp +contextual (disch:=omega) only[go_sem,e0,e3,e4,c0,hR.len,A3 h1 hi,A3 h2 hj,es]
  exact H'
 ·rintro env N e4 c0 ⟨e0,e3,H⟩
  rw[Kq] at H
  simp +contextual (disch:=omega) only[go_sem,e0,e3,e4,c0,hR.len]
  exact⟨_,rfl,H⟩
def V4:Fn1:=⟨14,[.c 2 true 3],(rg [oX 1 0,o 2 (.new [s0,z0,z0])] (rg [o 3 (.new [s0,z0,z0])] (rg [oF 4 0 1,oL 5 4,oF 6 0 3,oS 1 6 5] (rg [oF 7 1 1,oL 8 7,oF 9 1 3,oS 1 9 8] (rg [oF 10 2 1,oL 11 10,oF 12 2 3,oS 1 12 11] (rg [oW 13 3 3,oS 3 2 13] .ret))))))⟩
theorem A6r:A2 Tryz.prog 289=some V4:=by kernel_rfl
theorem A4k (U:St) (x:Tally):Ret Tryz.prog 289 [.agg [.str x.obj,.int .i64 x.rep,.int .i64 x.sum]] U (.agg [.str x.obj,.int .i64 x.rep,.int .i64 x.sum]) U:=by
 refine Ac A6r (Z0z rfl) (by simp[vLt,cLt,sLt]) ?_
 simp +contextual (disch:=omega) only[go_sem,V4]
def Ri:Fn1:=⟨23,[.t 2],(rg [o 2 (.mov (.k .nilS))] (rg [oM 5 0,oN 6 5,o 7 (.mks 3 32 [s0,z0,z0] (.t 6) (.t 6)),oM 3 7] (.seq (rg [oV 4 (ki 0)] (oH 0 (.seq (rg [oM 8 4,oM 9 0,oN 10 9,oB 11 .lss 8 10] (oJ 11 0)) (.seq (.blk 1 (.reg [oM 14 3,oM 15 4,oM 16 0,oM 17 4,oI 18 3 16 17,oW 19 3 18,oC 20 289 19,oI 21 3 14 15,oS 3 21 20])) (.reg [oM 12 4,oZ 13 12 1,oM 4 13]))))) (rg [oM 22 3,oM 2 22] .ret))))⟩
theorem A4l:A2 Tryz.prog 224=some Ri:=by kernel_rfl
theorem Lg (U:St) (v:GV) (l:List Tally) (hR:RS E7.kd U v l) (hl:l.length<=1099511627776):∃ r N,Ret Tryz.prog 224 [v] U r N/\Hp U N [ow E7.kd r l]:=by
 refine A1s (rs:=fun r=>[ow E7.kd r l]) A4l (Z0z rfl) ?_
 have hmk:∀ ze,mksG 3 32 ze U (some l.length) (some l.length)=some (.sl U.length 0 l.length,U++[some (.row 3 (reps l.length ze))]):=fun ze=>A1r (by omega)
 simp +contextual (disch:=omega) only[go_sem,Ri,hR.len,hmk]
 have H0:=((Hp.refl U).new 3 (reps l.length (E7.enc ⟨⟨#[]⟩,0,0⟩))).toRow 0 (p:=E7) rfl (Zad l.length ⟨⟨#[]⟩,0,0⟩) rfl (Ko _ _ _) l.length (by simp)
 refine Ay l.length 4 (fun i env N=>env 0=v/\env 3= .sl U.length 0 l.length/\Hp U N [ow E7.kd (.sl U.length 0 l.length) (l.take i++Zad (l.length - i) ⟨⟨#[]⟩,0,0⟩)]) rfl ⟨rfl,rfl,by rw[Zax,Zap,Za8];exact H0⟩ ?_ ?_
 ·rintro i env N hi e4 c0 ⟨e0,e3,H⟩
  have h1:=hR.pre H.sub
  have h2:=H.sl 0 rfl
  have hj:=Kp (z:=(⟨⟨#[]⟩,0,0⟩:Tally)) hi
  simp +contextual (disch:=omega) only[go_sem,e0,e3,e4,c0,hR.len,Aa h1 hi]
  refine A5 (A4k N l[i]) ?_
  obtain⟨N',es,H'⟩:=H.stw 0 rfl hj 3 (.agg [.str l[i].obj,.int .i64 l[i].rep,.int .i64 l[i].sum]) l[i] rfl rfl (by decide)
  rw[I4 hi] at H'
  have es:stG 3 N (atz 3 (.sl U.length 0 l.length) i) (.agg [.str l[i].obj,.int .i64 l[i].rep,.int .i64 l[i].sum])=some (.tup [],N'):=es
  simp +contextual (disch:=omega) only[go_sem,e0,e3,e4,c0,hR.len,Aa h1 hi,Aa h2 hj,es]
  exact H'
 ·rintro env N e4 c0 ⟨e0,e3,H⟩
  rw[Kq] at H
  simp +contextual (disch:=omega) only[go_sem,e0,e3,e4,c0,hR.len]
  exact⟨_,rfl,H⟩
def V6:Fn1:=⟨21,[.c 2 true 4],(rg [oX 1 0,o 2 (.new [.nilS,.nilS,.nilS,.nilS])] (rg [o 3 (.new [.nilS,.nilS,.nilS,.nilS])] (rg [oF 4 0 1,oL 5 4,oC 6 26 5,oF 7 0 3,oS 1 7 6] (rg [oF 8 1 1,oL 9 8,oC 10 224 9,oF 11 1 3,oS 1 11 10] (rg [oF 12 2 1,oL 13 12,oC 14 225 13,oF 15 2 3,oS 1 15 14] (rg [oF 16 3 1,oL 17 16,oC 18 226 17,oF 19 3 3,oS 1 19 18] (rg [oW 20 4 3,oS 4 2 20] .ret)))))))⟩
theorem A6s:A2 Tryz.prog 149=some V6:=by kernel_rfl
theorem Mr (U:St) (cs:List GV) (x:State) (hR:Ab.R U x cs) (hl:A7 x<=1099511627776):∃ r N,Ret Tryz.prog 149 [.agg cs] U r N/\U <+: N/\∃ ds,r= .agg ds/\Hp U N [own Ab ds x]:=by
 have hlen:=Ab.len hR
 have hlen:cs.length=4:=hlen
 obtain⟨v0,v1,v2,v3,rfl,q0,q1,q2,q3⟩:=hR
 unfold A7 at hl
 refine Q2 A6s (Z0z rfl) ?_
 simp +contextual (disch:=omega) only[go_sem,V6,Zaa]
 have H:=(((Hp.refl U).new 1 (v0::v1::v2::v3::[])).new 1 [GV.nilS,GV.nilS,GV.nilS,GV.nilS]).new 1 [GV.nilS,GV.nilS,GV.nilS,GV.nilS]
 obtain⟨r0,N0,R0,K0⟩:=Cx _ v0 x.know (q0.pre H.sub) (by omega)
 refine Ez R0 K0 ?_
 have e0:=(K0.sl 0 rfl).cell
 have H:=H.add K0
 try simp only[go_sem] at H
 try simp +contextual (disch:=omega) only[go_sem,Zaa,A4 (H.pt 3 rfl),A4 (H.pt 1 rfl)]
 obtain⟨_,es,H,_⟩:=H.st 1 rfl 1 0 (r0) (by rw[e0];rfl) (by decide) (Z0z rfl)
 try simp only[go_sem,Zac,Zae,e0] at H
 try simp +contextual (disch:=omega) only[go_sem,Zaa,es,A4 (H.pt 3 rfl),A4 (H.pt 1 rfl)]
 obtain⟨r1,N1,R1,K1⟩:=Lg _ v1 x.tallies (q1.pre H.sub) (by omega)
 refine Ez R1 K1 ?_
 have e1:=(K1.sl 0 rfl).cell
 have H:=H.add K1
 try simp only[go_sem] at H
 try simp +contextual (disch:=omega) only[go_sem,Zaa,A4 (H.pt 4 rfl),A4 (H.pt 2 rfl)]
 obtain⟨_,es,H,_⟩:=H.st 2 rfl 1 1 (r1) (by rw[e1];rfl) (by decide) (Z0z rfl)
 try simp only[go_sem,Zac,Zae,e1] at H
 try simp +contextual (disch:=omega) only[go_sem,Zaa,es,A4 (H.pt 4 rfl),A4 (H.pt 2 rfl)]
 obtain⟨r2,N2,R2,K2⟩:=Mq _ v2 x.lives (q2.pre H.sub) (by omega)
 refine Ez R2 K2 ?_
 have e2:=(K2.sl 0 rfl).cell
 have H:=H.add K2
 try simp only[go_sem] at H
 try simp +contextual (disch:=omega) only[go_sem,Zaa,A4 (H.pt 5 rfl),A4 (H.pt 3 rfl)]
 obtain⟨_,es,H,_⟩:=H.st 3 rfl 1 2 (r2) (by rw[e2];rfl) (by decide) (Z0z rfl)
 try simp only[go_sem,Zac,Zae,e2] at H
 try simp +contextual (disch:=omega) only[go_sem,Zaa,es,A4 (H.pt 5 rfl),A4 (H.pt 3 rfl)]
 obtain⟨r3,N3,R3,K3⟩:=Mp _ v3 x.cells (q3.pre H.sub) (by omega)
 refine Ez R3 K3 ?_
 have e3:=(K3.sl 0 rfl).cell
 have H:=H.add K3
 try simp only[go_sem] at H
 try simp +contextual (disch:=omega) only[go_sem,Zaa,A4 (H.pt 6 rfl),A4 (H.pt 4 rfl)]
 obtain⟨_,es,H,_⟩:=H.st 4 rfl 1 3 (r3) (by rw[e3];rfl) (by decide) (Z0z rfl)
 try simp only[go_sem,Zac,Zae,e3] at H
 try simp +contextual (disch:=omega) only[go_sem,Zaa,es,A4 (H.pt 6 rfl),A4 (H.pt 4 rfl)]
 obtain⟨_,es,H,_⟩:=H.st 5 rfl 4 0 (.agg (r0::r1::r2::r3::[])) (rfl) (by decide) (Z0z rfl)
 try simp only[go_sem,Zac,Zae] at H
 try simp +contextual (disch:=omega) only[go_sem,Zaa,es,A4 (H.pt 5 rfl)]
 have h0:=H.sub
 have H:=(((H.pick 1 rfl).pick 2 rfl).pick 3 rfl)
 try simp only[Zal,Zar] at H
 exact⟨_,rfl,h0,_,rfl,H.ownState.one⟩
theorem Hp.moveTo {U N:St} {r r':Thg} {rs:List Thg} (H:Hp U N (r::rs)) (k:Nat) (hk:rs[k]? =some r'):Hp U N (rs.set k r):=by
 have hkl:=(Zao.1 hk).1
 have h1:=(H.pick (k+1) hk).drop1
 exact Hp.unpick h1 hkl
theorem Ajm {P:Program} {a:Cd} {Q:Ex->Env->St->Prop} {env:Env} {U:St} (n ri j0:Nat) (I:Nat->Env->St->Prop) (X Z:Env->St->Prop) (hr:env ri=gi 0) (h0:I 0 env U)
  (hs:∀(J:Nat->Env->St->Prop) (Yq Wq:Env->St->Prop),(∀ i env U,I i env U->J i env U)->(∀ env U,X env U->Yq env U)->(∀ env U,Z env U->Wq env U)->∀ i env U,i<n->env ri=gi i->decide ((i:Int)<n)=true->I i env U->vc P a (fun e env' U'=>match e with| .nxt=>env' ri=gi ((i:Int)+1)/\J (i+1) env' U'| .ext j=>j=j0/\Yq env' U'| .ret=>Wq env' U') env U)
  (he:∀(Yq:Env->St->Prop),(∀ env U,X env U->Yq env U)->∀ env U,env ri=gi n->decide ((n:Int)<n)=false->I n env U->vc P a (fun e env' U'=>match e with| .nxt=>False| .ext j=>j=j0/\Yq env' U'| .ret=>False) env U)
  (hx:∀ env U,X env U->Q (.ext j0) env U) (hz:∀ env U,Z env U->Q .ret env U):vc P (.lop a) Q env U:=by
 refine Ay n ri I hr h0 (fun i env U h1 h2 h3 h4=>As (hs I X Z (fun _ _ _ h=>h) (fun _ _ h=>h) (fun _ _ h=>h) i env U h1 h2 h3 h4) fun e env' U' hq=> ?_) (fun env U h1 h2 h3=>As (he X (fun _ _ h=>h) env U h1 h2 h3) fun e env' U' hq=> ?_)
 ·cases e with
  |nxt=>exact hq
  |ret=>exact hz _ _ hq
  |ext j=>obtain⟨rfl,hq⟩:=hq;exact hx _ _ hq
 ·cases e with
  |nxt=>exact hq
  |ret=>exact hq.elim
  |ext j=>obtain⟨rfl,hq⟩:=hq;exact hx _ _ hq
inductive Item where
 |box (z n:Nat) (cs:List GV)
 |th (r:Thg)
def Item.t:Item->Thg
 | .box z n cs=>pt z n cs
 | .th r=>r
def Hx (U N:St) (h:List Item):Prop:=Hp U N (h.map Item.t)
def look:List Item->Nat->Option (List GV)
 |[],_=>none
 | .box _ m cs::h,n=>if m=n then some cs else look h n
 | .th _::h,n=>look h n
def upd:List Item->Nat->List GV->List Item
 |[],_,_=>[]
 | .box z m cs::h,n,ds=>if m=n then .box z m ds::h else .box z m cs::upd h n ds
 | .th r::h,n,ds=>.th r::upd h n ds
def frX (U:St):List Item->Nat->Prop
 |[],n=>U.length<=n
 | .box _ m _::h,n=>m<n/\frX U h n
 | .th _::h,n=>frX U h n
abbrev Kx:=GV->List Item->St->Prop
def Hm (v:Option GV) (k:Kx) (h:List Item) (N:St):Prop:=match v with
 |some v=>k v h N
 |none=>False
def orX (a b:Option GV):Option GV:=match a with
 |some x=>some x
 |none=>b
def Ae1:List Item->Nat->Option (Nat×List GV)
 |[],_=>none
 | .box z m cs::h,n=>if m=n then some (z,cs) else Ae1 h n
 | .th _::h,n=>Ae1 h n
def blcX (h:List Item) (cs:List GV):GV->Prop
 | .ptr b 0=>Ae1 h b=some (1,cs)
 |_=>False
def ldB (c:Option (List GV)) (g:Bool) (n off:Nat) (e:Option GV):Option GV:=match c with
 |some cs=>(seg cs off n).bind (mkv g)
 |none=>e
def ldY (h:List Item) (N:St) (g:Bool) (n:Nat):GV->Option GV
 | .ptr b off=>ldB (look h b) g n off (ldG g n N (.ptr b off))
 |a=>ldG g n N a
def ldX (U:St) (h:List Item) (N:St) (g:Bool) (n:Nat) (a:GV):Option GV:=orX (ldG g n U a) (ldY h N g n a)
def J6 (U:St) (h:List Item) (z:Nat) (cs:List GV) (v:Nat->GV) (k:Kx):Prop:=∀ n,frX U h n->∀ N',Hx U N' (.box z n cs::h)->k (v n) (.box z n cs::h) N'
def genX (U:St) (D:Bool) (N:St) (e:Option (GV×St)) (k:Kx):Prop:=∃ v N' h',e=some (v,N')/\(D=true->N <+: N')/\Hx U N' h'/\k v h' N'
def stB (U:St) (D:Bool) (h:List Item) (N:St) (n:Nat) (k:Kx) (b off:Nat) (x:GV) (c:Option (List GV)):Prop:=match c with
 |some cs=>(D=false/\off+n<=cs.length/\0<n/\x.cells.length=n)/\∀ N',Hx U N' (upd h b (Ao cs off x.cells))->k (.tup []) (upd h b (Ao cs off x.cells)) N'
 |none=>genX U D N (stG n N (.ptr b off) x) k
def stX (U:St) (D:Bool) (h:List Item) (N:St) (n:Nat) (k:Kx) (a x:GV):Prop:=match a with
 | .ptr b off=>stB U D h N n k b off x (look h b)
 |a=>genX U D N (stG n N a x) k
def fnX (P:Program) (U:St) (D:Bool) (N:St) (args:List GV) (k:Kx):GV->Prop
 | .fn f caps=>∃ v N' h',Ret P f (args++caps.map fun c=>.ptr c.1 c.2) N v N'/\(D=true->N <+: N')/\Hx U N' h'/\k v h' N'
 |_=>False
def litX (U:St) (h:List Item) (z len:Nat) (k:Kx):Option (List GV)->Prop
 |some cs=>J6 U h z cs (fun n=>.sl n 0 len) k
 |none=>False
def A6t (P:Program) (U:St) (D:Bool) (N:St) (f:Nat) (args:List GV) (k:Kx):Prop:=∃ v N' h',Ret P f args N v N'/\(D=true->N <+: N')/\Hx U N' h'/\k v h' N'
def mksX (U:St) (h:List Item) (z b:Nat) (ze:List GV) (k:Kx):Option Nat->Option Nat->Prop
 |some n,some c=>n=c/\n*b<=140737488355328/\J6 U h z (reps n ze) (fun g=>.sl g 0 n) k
 |_,_=>False
def sxI (P:Program) (D:Bool) (U:St) (env:Env) (h:List Item) (N:St) (k:Kx):Ins->Prop
 | .new cs=>J6 U h 1 cs (fun n=>.ptr n 0) k
 | .box x=>F5 (x.ev env)=true/\J6 U h 1 (x.ev env).cells (fun n=>.ptr n 0) k
 | .lit z len zero parts=>litX U h z len k (Hw zero (parts.map fun p=>(p.1,p.2.1,p.2.2.ev env)))
 | .mks z b ze n c=>mksX U h z b ze k (Bb (some (n.ev env))) (Bb (some (c.ev env)))
 | .ld g n a=>Hm (ldX U h N g n (a.ev env)) k h N
 | .st n a x=>stX U D h N n k (a.ev env) (x.ev env)
 | .call f xs=>A6t P U D N f (xs.map (·.ev env)) k
 | .callv x xs=>fnX P U D N (xs.map (·.ev env)) k (x.ev env)
 | .chk d (.ld g n (.t t))=>ldX U h N g n (env t)=some (env d)/\k (.tup []) h N
 | .chk _ _=>False
 | .blc t cs=>blcX h cs (env t)/\k (.tup []) h N
 | .mlk ks z ok m k'=>Hm (mlkG N ks z ok (m.ev env) (k'.ev env)) k h N
 | .bts x=>Hm ((elems N 1 (x.ev env)).bind fun r=>(Fb r.2).map fun bs=>.str ⟨bs.toArray⟩) k h N
 | .cut z x lo hi=>Hm (if zOk N z (x.ev env) then cutG z (x.ev env) (lo.map (·.ev env)) (hi.map (·.ev env)) else none) k h N
 | .app z b ze s x=>genX U D N (appV z b N (s.ev env) (x.ev env)) k
 | .clr z ze x=>genX U D N (clrG z ze N (x.ev env)) k
 | .mkm=>genX U D N (some (.mp N.length,N++[some (.map [])])) k
 | .mup ks m k' v=>genX U D N (mupG N ks (m.ev env) (k'.ev env) (v.ev env)) k
 |i=>Hm ((exec env [] i).map (·.1)) k h N
def gdX (c:Option (Option Bool×Bool)) (A B:Prop):Prop:=match c with
 |none=>A
 |some (some c,b)=>(c=b->A)/\(c= !b->B)
 |some (none,_)=>B
def sx (P:Program) (D:Bool) (U:St):List Op1->(Env->List Item->St->Prop)->Env->List Item->St->Prop
 |[],K,env,h,N=>K env h N
 |o::r,K,env,h,N=>gdX (o.g.map fun g=>((env g.1).bit,g.2)) (sxI P D U env h N (fun v h' N'=>sx P D U r K (upo env o.d v) h' N') o.i) (sx P D U r K (upo env o.d (.tup [])) h N)
def ifX (c:Option Bool) (A B:Prop):Prop:=match c with
 |some c=>(c=true->A)/\(c=false->B)
 |none=>False
abbrev Qx:=Ex->Env->List Item->St->Prop
def sxc (P:Program) (U:St):Cd->Qx->Env->List Item->St->Prop
 | .skip,Q=>Q .nxt
 | .reg ops,Q=>sx P false U ops (Q .nxt)
 | .drw a1 bs,Q=>sx P true U a1 (sx P false U bs (Q .nxt))
 | .seq a b,Q=>sxc P U a fun e=>match e with
  | .nxt=>sxc P U b Q
  |e=>Q e
 | .cnd c a b,Q=>fun env h N=>ifX (c.ev env).bit (sxc P U a Q env h N) (sxc P U b Q env h N)
 | .blk id a,Q=>sxc P U a fun e=>match e with
  | .ext j=>if j=id then Q .nxt else Q (.ext j)
  |e=>Q e
 | .lop a,Q=>fun env h N=>∃(I:Nat->Env->List Item->St->Prop) (n:Nat) (h0:List Item),Hx U N h0/\I n env h0 N/\∀ k env h N,Hx U N h->I k env h N->sxc P U a (fun e env' h' N'=>match e with
  | .nxt=>∃ k' h1,k'<k/\Hx U N' h1/\I k' env' h1 N'
  |e=>∃ h1,Hx U N' h1/\Q e env' h1 N') env h N
 | .ext id,Q=>Q (.ext id)
 | .ret,Q=>Q .ret
section sound
variable {P:Program} {U:St} {D:Bool}
theorem Hx.hp {N:St} {h:List Item} (H:Hx U N h):Hp U N (h.map Item.t):=H
theorem Hx.sub {N:St} {h:List Item} (H:Hx U N h):U <+: N:=H.hp.sub
theorem Hx.refl (U:St):Hx U U []:=Hp.refl U
theorem Q7:∀ {h:List Item} {n:Nat} {cs:List GV},look h n=some cs->∃ z,∃ i:Nat,(h.map Item.t)[i]? =some (pt z n cs)/\∀ ds,(upd h n ds).map Item.t=(h.map Item.t).set i (pt z n ds)
 |[],_,_,e=>by cases e
 | .box z m cs'::h,n,cs,e=>by
  simp only[look] at e
  by_cases hm:m=n
  ·rw[if_pos hm] at e
   injection e with e;subst e hm
   exact⟨z,0,rfl,fun ds=>by simp[upd,Item.t]⟩
  ·rw[if_neg hm] at e
   obtain⟨z',i,h1,h2⟩:=Q7 e
   exact⟨z',i+1,by simpa using h1,fun ds=>by simp[upd,hm,h2 ds]⟩
 | .th r::h,n,cs,e=>by
  obtain⟨z',i,h1,h2⟩:=Q7 (h:=h) (by simpa [look] using e)
  exact⟨z',i+1,by simpa using h1,fun ds=>by simp[upd,h2 ds]⟩
theorem A4m:∀ {h:List Item} {n z:Nat} {cs:List GV},Ae1 h n=some (z,cs)->∃ i:Nat,(h.map Item.t)[i]? =some (pt z n cs)
 |[],_,_,_,e=>by cases e
 | .box z' m cs'::h,n,z,cs,e=>by
  simp only[Ae1] at e
  by_cases hm:m=n
  ·rw[if_pos hm] at e
   simp only[Zbp.injEq,Prod.mk.injEq] at e
   obtain⟨rfl,rfl⟩:=e
   subst hm
   exact⟨0,rfl⟩
  ·rw[if_neg hm] at e
   obtain⟨i,h1⟩:=A4m e
   exact⟨i+1,by simpa using h1⟩
 | .th r::h,n,z,cs,e=>by
  obtain⟨i,h1⟩:=A4m (h:=h) (by simpa [Ae1] using e)
  exact⟨i+1,by simpa using h1⟩
theorem Ag0 {N:St} {g:Bool} {n:Nat} {a x:GV} (h:ldG g n U a=some x) (hp:U <+: N):ldG g n N a=some x:=by
 cases a with
 |ptr b off=>
  simp only[ldG] at h ⊢
  obtain⟨cs,h1,h2⟩:=Z1z.1 h
  rw[Bw hp h1];exact h2
 |_=>cases h
theorem V7 {h:List Item} {N:St} (H:Hx U N h) {g:Bool} {n:Nat} {a x:GV} (e:ldX U h N g n a=some x):ldG g n N a=some x:=by
 unfold ldX orX ldY at e
 split at e
 ·rename_i y hy
  injection e with e;subst e
  exact Ag0 hy H.sub
 ·cases a with
  |ptr b off=>
   simp only at e
   cases hl:look h b with
   |none=>rw[hl] at e;exact e
   |some cs=>
    rw[hl] at e
    obtain⟨z,i,h1,_⟩:=Q7 hl
    have:=H.hp.pt i h1
    simp only[ldG,this,Zah]
    exact e
  |_=>exact e
theorem Ag1 {n:Nat}:∀ {h:List Item},U.length<=n->(∀ z m cs,Item.box z m cs∈h->m<n)->frX U h n
 |[],hl,_=>hl
 | .box z m cs::h,hl,hb=>⟨hb z m cs Zaj,Ag1 (h:=h) hl fun z m cs hm=>hb z m cs (Zav _ hm)⟩
 | .th r::h',hl,hb=>Ag1 (h:=h') hl fun z m cs hm=>hb z m cs (Zav _ hm)
theorem box_lt {h:List Item} {N:St} (H:Hx U N h) {z m:Nat} {cs:List GV} (hm:Item.box z m cs∈h):m<N.length:=by
 obtain⟨i,hi,e⟩:=Zbh hm
 have h1:(h.map Item.t)[i]? =some (pt z m cs):=by
  rw[Za1,Zba hi,e];rfl
 obtain⟨a,ha,_,hb⟩:=H.hp.see h1
 exact(hb m (by rw[ha.1];exact Zaj)).2
theorem Iq {h:List Item} {N:St} {z:Nat} {cs:List GV} {v:Nat->GV} {k:Kx} (H:Hx U N h) (e:J6 U h z cs v k):∃ h',Hx U (N++[some (.row z cs)]) h'/\k (v N.length) h' (N++[some (.row z cs)]):=
 ⟨.box z N.length cs::h,H.hp.new z cs,e N.length (Ag1 (h:=h) H.sub.length_le (fun _ _ _ hm=>box_lt H hm)) _ (H.hp.new z cs)⟩
theorem Jj {N:St} {e:Option (GV×St)} {k:Kx} (h:genX U D N e k):∃ v N',e=some (v,N')/\(D=true->N <+: N')/\∃ h',Hx U N' h'/\k v h' N':=by
 obtain⟨v,N',h',h1,h2,h3,h4⟩:=h
 exact⟨v,N',h1,h2,h',h3,h4⟩
theorem Ag2 {env:Env} {h:List Item} {N:St} {k:Kx} (H:Hx U N h):∀ {i:Ins},sxI P D U env h N k i->∃ v N',Step P env N i v N'/\(D=true->N <+: N')/\∃ h',Hx U N' h'/\k v h' N':=by
 intro i e
 have same:∀ {v:Option GV},Hm v k h N->(∀ v',v=some v'->Step P env N i v' N)->∃ v N',Step P env N i v N'/\(D=true->N <+: N')/\∃ h',Hx U N' h'/\k v h' N':=by
  intro v hb hs
  cases v with
  |none=>exact hb.elim
  |some v=>exact⟨v,N,hs v rfl,fun _=>Zaf _,h,H,hb⟩
 have pure:Adp i=true->Hm ((exec env [] i).map (·.1)) k h N->i.isCall=false->(∀ v',exec env N i=some (v',N)->Step P env N i v' N)->∃ v N',Step P env N i v N'/\(D=true->N <+: N')/\∃ h',Hx U N' h'/\k v h' N':=by
  intro hp hb _ hs
  refine same hb fun v' hv=>hs v' ?_
  obtain⟨⟨w,s⟩,hw,rfl⟩:=Z2z.1 hv
  exact(A6d hp hw).2 N
 cases i with
 |new cs=>
  obtain⟨h',h1,h2⟩:=Iq H e
  exact⟨_,_,rfl,fun _=>Zat _ _,h',h1,h2⟩
 |box x=>
  obtain⟨h0,e⟩:=e
  obtain⟨h',h1,h2⟩:=Iq H e
  exact⟨_,_,by show boxG N _=_;unfold boxG;rw[if_pos h0],fun _=>Zat _ _,h',h1,h2⟩
 |lit z len zero parts=>
  simp only[sxI] at e
  unfold litX at e
  split at e
  ·rename_i cs hc
   obtain⟨h',h1,h2⟩:=Iq H e
   exact⟨_,_,by show exec env N _=_;simp only[exec,hc];rfl,fun _=>Zat _ _,h',h1,h2⟩
  ·exact e.elim
 |mks z b ze n c=>
  simp only[sxI] at e
  unfold mksX at e
  split at e
  ·rename_i n' c' hn hc
   obtain⟨h0,h3,e⟩:=e
   obtain⟨h',h1,h2⟩:=Iq H e
   exact⟨_,_,by show exec env N _=_;simp only[exec,hn,hc,Zah,if_pos (And.intro h0 h3)],fun _=>Zat _ _,h',h1,h2⟩
  ·exact e.elim
 |ld g n a=>
  refine same e fun v' hv=> ?_
  have:=V7 H hv
  show exec env N _=_
  simp only[exec]
  revert this
  cases a.ev env with
  |ptr b off=>
   intro h1
   simp only[ldG] at h1
   simp only[ptrG,Zah]
   obtain⟨cs,h2,h3⟩:=Z1z.1 h1
   obtain⟨r,h4,h5⟩:=Z1z.1 h3
   simp only[h2,Zah,h4,h5,Zau]
  |_=>intro h1;cases h1
 |st n a x=>
  simp only[sxI] at e
  have hst:∀ {y:GV} {N'},stG n N (a.ev env) (x.ev env)=some (y,N')->Step P env N (.st n a x) y N':=by
   intro y N' he
   show exec env N _=_
   simp only[exec]
   revert he
   cases a.ev env<;>intro he<;>first|cases he;done|exact he
  have gen:genX U D N (stG n N (a.ev env) (x.ev env)) k->∃ v N',Step P env N (.st n a x) v N'/\(D=true->N <+: N')/\∃ h',Hx U N' h'/\k v h' N':=fun hg=>by
   obtain⟨v,N',h1,h2⟩:=Jj hg
   exact⟨v,N',hst h1,h2⟩
  unfold stX at e
  split at e
  ·rename_i b off hb
   unfold stB at e
   split at e
   ·rename_i cs hl
    obtain⟨⟨h0,h1,h2,h3⟩,h4⟩:=e
    obtain⟨z,i,h5,h6⟩:=Q7 hl
    obtain⟨N',s1,s2,_⟩:=H.hp.st i h5 n off (x.ev env) h3 h2 h1
    have s3:Hx U N' (upd h b (Ao cs off (x.ev env).cells)):=by unfold Hx;rw[h6];exact s2
    exact⟨_,N',hst (by rw[hb];exact s1),(fun hd=>by rw[hd] at h0;cases h0),_,s3,h4 _ s3⟩
   ·rw[<- hb] at e;exact gen e
  ·exact gen e
 |call f xs=>
  obtain⟨v,N',h',h1,h2,h3,h4⟩:=e
  exact⟨v,N',h1,h2,h',h3,h4⟩
 |callv x xs=>
  simp only[sxI] at e
  unfold fnX at e
  split at e
  ·rename_i f caps hf
   obtain⟨v,N',h',h1,h2,h3,h4⟩:=e
   exact⟨v,N',⟨f,caps,hf,h1⟩,h2,h',h3,h4⟩
  ·exact e.elim
 |chk d x=>
  cases x with
  |ld g n a=>cases a with
   |t t=>
    obtain⟨h1,h2⟩:=e
    refine⟨_,N,⟨rfl,rfl,?_⟩,fun _=>Zaf _,h,H,h2⟩
    have h3:=V7 H h1
    simp only[exec,Opd.ev]
    revert h3
    cases env t with
    |ptr b off=>
     intro h1
     simp only[ldG] at h1
     simp only[ptrG,Zah]
     obtain⟨cs,h2,h3⟩:=Z1z.1 h1
     obtain⟨r,h4,h5⟩:=Z1z.1 h3
     simp only[h2,Zah,h4,h5,Zau]
    |_=>intro h1;cases h1
   |k v=>exact e.elim
  |_=>exact e.elim
 |blc t cs=>
  obtain⟨h1,h2⟩:=e
  revert h1
  unfold blcX
  split
  ·rename_i b hb
   intro h1
   obtain⟨i,h3⟩:=A4m h1
   obtain⟨a,ha,_⟩:=H.hp.see h3
   exact⟨_,N,⟨rfl,rfl,b,hb,Bt.1 ha.2⟩,fun _=>Zaf _,h,H,h2⟩
  ·exact fun h1=>h1.elim
 |mlk ks z ok m k'=>exact same e fun v' hv=>by show exec env N _=_;simp only[exec,hv,Zau]
 |bts x=>
  refine same e fun v' hv=> ?_
  show exec env N _=_
  simp only[exec]
  obtain⟨r,h1,h2⟩:=Z1z.1 hv
  obtain⟨bs,h3,rfl⟩:=Z2z.1 h2
  rw[h1,Zah,h3];rfl
 |cut z x lo hi=>
  refine same e fun v' hv=> ?_
  show exec env N _=_
  simp only[exec]
  split at hv
  ·rename_i hz
   rw[if_pos hz,hv];rfl
  ·cases hv
 |app z b ze s x=>exact Jj e
 |clr z ze x=>exact Jj e
 |mkm=>exact Jj e
 |mup ks m k' v=>exact Jj e
 |mkf f caps=>
  refine same e fun v' hv=> ?_
  show exec env N _=_
  simp only[exec] at hv ⊢
  obtain⟨⟨w,s⟩,hw,rfl⟩:=Z2z.1 hv
  obtain⟨cs,h1,h2⟩:=Z2z.1 hw
  injection h2 with h2 h3;subst h2
  rw[h1];rfl
 |pan=>exact e.elim
 |_=>exact pure rfl e rfl fun _ h=>h
theorem Ms:∀ {os:List Op1} {K:Env->List Item->St->Prop} {env:Env} {h:List Item} {N:St},Hx U N h->sx P D U os K env h N->Ad D P os (fun env' N'=>N.length<=N'.length/\∃ h',Hx U N' h'/\K env' h' N') env N
 |[],K,env,h,N,H,e=>⟨Za6 _,h,H,e⟩
 |o::r,K,env,h,N,H,e=>by
  have yes:sxI P D U env h N (fun v h' N'=>sx P D U r K (upo env o.d v) h' N') o.i->∃ v U',Step P env N o.i v U'/\(D=true->N <+: U')/\Ad D P r (fun env' N'=>N.length<=N'.length/\∃ h',Hx U N' h'/\K env' h' N') (upo env o.d v) U':=fun e=>by
   obtain⟨v,N',h1,h2,h',h3,h4⟩:=Ag2 H e
   have hl:=T7 h1
   exact⟨v,N',h1,h2,Bj (Ms h3 h4) fun _ _ hk=>⟨Za3 hl hk.1,hk.2⟩⟩
  have no:sx P D U r K (upo env o.d (.tup [])) h N->Ad D P r (fun env' N'=>N.length<=N'.length/\∃ h',Hx U N' h'/\K env' h' N') (upo env o.d (.tup [])) N:=fun e=>Ms H e
  simp only[Ad]
  simp only[sx] at e
  cases hg:o.g with
  |none=>
   rw[hg] at e
   rw[if_pos (by simp[Af])]
   exact yes e
  |some q=>
   obtain⟨g,b⟩:=q
   rw[hg] at e
   simp only[Zau] at e
   cases hc:(env g).bit with
   |none=>
    rw[hc] at e
    rw[if_neg (by simp[Af,hc])]
    exact no e
   |some c=>
    rw[hc] at e
    by_cases hcb:c=b
    ·rw[if_pos (by simp[Af,hc,hcb])]
     exact yes (e.1 hcb)
    ·rw[if_neg (by simp[Af,hc,hcb])]
     exact no (e.2 (by cases c<;>cases b<;>simp_all))
theorem A6u {d:Cd}:∀ {Q:Qx} {env:Env} {h:List Item} {N:St},Hx U N h->sxc P U d Q env h N->vc P d (fun e env' N'=>N.length<=N'.length/\∃ h',Hx U N' h'/\Q e env' h' N') env N:=by
 induction d with
 |skip=>intro Q env h N H e;exact⟨Za6 _,h,H,e⟩
 |reg ops=>intro Q env h N H e;exact Ms H e
 |drw a1 bs=>
  intro Q env h N H e
  show Ad true P a1 _ env N
  refine Bj (Ms H e) fun env' N' hk=> ?_
  obtain⟨hl,h',H',hk⟩:=hk
  exact Bj (Ms H' hk) fun _ _ hq=>⟨Za3 hl hq.1,hq.2⟩
 |seq a b iha ihb=>
  intro Q env h N H e
  show vc P a _ env N
  refine As (iha H e) fun e env' N' hk=> ?_
  obtain⟨hl,h',H',hk⟩:=hk
  cases e with
  |nxt=>exact As (ihb H' hk) fun _ _ _ hq=>⟨Za3 hl hq.1,hq.2⟩
  |ext j=>exact⟨hl,h',H',hk⟩
  |ret=>exact⟨hl,h',H',hk⟩
 |cnd c a b iha ihb=>
  intro Q env h N H e
  simp only[sxc] at e
  unfold ifX at e
  split at e
  ·rename_i t ht
   exact⟨t,ht,fun k=>iha H (e.1 k),fun k=>ihb H (e.2 k)⟩
  ·exact e.elim
 |blk id a ih=>
  intro Q env h N H e
  show vc P a _ env N
  refine As (ih H e) fun e env' N' hk=> ?_
  obtain⟨hl,h',H',hk⟩:=hk
  cases e with
  |nxt=>exact⟨hl,h',H',hk⟩
  |ext j=>
   simp only at hk ⊢
   split at hk
   ·rename_i hj;rw[if_pos hj];exact⟨hl,h',H',hk⟩
   ·rename_i hj;rw[if_neg hj];exact⟨hl,h',H',hk⟩
  |ret=>exact⟨hl,h',H',hk⟩
 |lop a ih=>
  intro Q env h N H e
  obtain⟨I,n,h0,H0,hI,hs⟩:=e
  refine Tm (fun k env' N'=>N.length<=N'.length/\∃ h,Hx U N' h/\I k env' h N') n ⟨Za6 _,h0,H0,hI⟩ ?_
  rintro k env1 N1 ⟨hl,h1,H1,hI1⟩
  refine As (ih H1 (hs k env1 h1 N1 H1 hI1)) fun e env' N' hk=> ?_
  obtain⟨hl2,h',H',hk⟩:=hk
  cases e with
  |nxt=>
   obtain⟨k',h3,h4,h5,h6⟩:=hk
   exact⟨k',h4,Za3 hl hl2,h3,h5,h6⟩
  |ext j=>exact⟨Za3 hl hl2,hk⟩
  |ret=>exact⟨Za3 hl hl2,hk⟩
 |ext id=>intro Q env h N H e;exact⟨Za6 _,h,H,e⟩
 |ret=>intro Q env h N H e;exact⟨Za6 _,h,H,e⟩
def rsX (U:St) (h:List Item) (N:St) (env:Env):Rs->Option GV
 | .t n=>some (env n)
 | .c a g n=>ldX U h N g n (env a)
def resX (U:St) (h:List Item) (N:St) (env:Env):List Rs->Option GV
 |[r]=>rsX U h N env r
 |rs=>(B7 (rsX U h N env) rs).bind fun vs=>if vs.all F5 then some (.tup vs) else none
theorem A6v {h:List Item} {N:St} (H:Hx U N h) {env:Env} {r:Rs} {v:GV} (e:rsX U h N env r=some v):r.ev env N=some v:=by
 cases r with
 |t n=>exact e
 |c a g n=>rw[rs_c];exact V7 H e
theorem A23 {Y β:Type} {f g:Y->Option β} (h:∀ x y,f x=some y->g x=some y):∀ {l:List Y} {r:List β},B7 f l=some r->B7 g l=some r
 |[],r,e=>e
 |x::l,r,e=>by
  simp only[B7,Z1z,Z2z] at e ⊢
  obtain⟨y,h1,ys,h2,rfl⟩:=e
  exact⟨y,h _ _ h1,ys,A23 h h2,rfl⟩
theorem A24 {h:List Item} {N:St} (H:Hx U N h) {env:Env} {rs:List Rs} {v:GV} (e:resX U h N env rs=some v):resG env N rs=some v:=by
 unfold resX at e
 unfold resG
 split at e
 ·exact A6v H e
 ·rename_i hne
  split
  ·exact absurd rfl (hne _)
  ·obtain⟨vs,h1,h2⟩:=Z1z.1 e
   rw[A23 (fun x y=>A6v H) h1];exact h2
theorem Mt {md:Bool} {f:Nat} {F:Fn1} {args:List GV} {U1:St} {h0:List Item} {Post:GV->St->Prop} (hF:Gk md P f=some F) (hl:args.length<=F.n) (H:Hx U U1 h0)
  (hc:sxc P U F.c (fun e env h N=>Hx U N h->Tl e=true/\∃ r,resX U h N env F.rs=some r/\Post r N) (env0 args) h0 U1):∃ r N,Ret P f args U1 r N/\Post r N:=
 Au hF hl (As (A6u H hc) fun e env N he=>by
  obtain⟨hl,h,H,hq⟩:=he
  obtain⟨ho,r,hr,hp⟩:=hq H
  exact⟨ho,r,A24 H hr,hl,hp⟩)
end sound
def Ajn (P:Program) (D:Bool) (U:St) (r:List Op1) (K:Env->List Item->St->Prop) (env:Env) (d:Option Nat):Kx:=fun v h' N'=>sx P D U r K (upo env d v) h' N'
def gdS (P:Program) (D:Bool) (U:St) (env:Env) (h:List Item) (N:St) (k:Kx) (i:Ins) (b:Bool) (c:Option Bool):Prop:=match c with
 |some c=>(c=b->sxI P D U env h N k i)/\(c= !b->k (.tup []) h N)
 |none=>k (.tup []) h N
def ifS (P:Program) (U:St) (a b:Cd) (Q:Qx) (env:Env) (h:List Item) (N:St) (c:Option Bool):Prop:=match c with
 |some c=>(c=true->sxc P U a Q env h N)/\(c=false->sxc P U b Q env h N)
 |none=>False
section words
variable {P:Program} {D:Bool} {U N:St} {env:Env} {h:List Item} {r:List Op1} {K:Env->List Item->St->Prop} {k:Kx} {d:Option Nat} {Q:Qx}
@[go_sem] theorem nextX_ap {v:GV}:Ajn P D U r K env d v h N=sx P D U r K (upo env d v) h N:=(rfl)
@[go_sem] theorem sx_nil:sx P D U [] K env h N=K env h N:=(rfl)
@[go_sem] theorem sx_one {i:Ins}:sx P D U (⟨d,none,i⟩::r) K env h N=sxI P D U env h N (Ajn P D U r K env d) i:=(rfl)
@[go_sem] theorem sx_grd {g:Nat} {b:Bool} {i:Ins}:sx P D U (⟨d,some (g,b),i⟩::r) K env h N=gdS P D U env h N (Ajn P D U r K env d) i b (env g).bit:=by
 show gdX (some ((env g).bit,b)) _ _=_
 cases(env g).bit<;>rfl
@[go_sem] theorem gdS_tt {b:Bool} {i:Ins}:gdS P D U env h N k i b (some b)=sxI P D U env h N k i:=by cases b<;>simp[gdS]
@[go_sem] theorem gdS_tf {i:Ins}:gdS P D U env h N k i false (some true)=k (.tup []) h N:=by simp[gdS]
@[go_sem] theorem gdS_ft {i:Ins}:gdS P D U env h N k i true (some false)=k (.tup []) h N:=by simp[gdS]
@[go_sem] theorem gdS_n {b:Bool} {i:Ins}:gdS P D U env h N k i b none=k (.tup []) h N:=(rfl)
@[go_sem] theorem bindX_some {v:GV}:Hm (some v) k h N=k v h N:=(rfl)
@[go_sem] theorem ifS_t {a b:Cd}:ifS P U a b Q env h N (some true)=sxc P U a Q env h N:=by simp[ifS]
@[go_sem] theorem ifS_f {a b:Cd}:ifS P U a b Q env h N (some false)=sxc P U b Q env h N:=by simp[ifS]
theorem Aib {v:Option GV}:(Option.map (·.1) (v.map fun v=>(v,([]:St))))=v:=by cases v<;>rfl
@[go_sem] theorem xi_mov {x:Opd}:sxI P D U env h N k (.mov x)=k (x.ev env) h N:=(rfl)
@[go_sem] theorem xi_pick {c a b:Opd}:sxI P D U env h N k (.pick c a b)=Hm ((c.ev env).bit.map fun t=>if t then a.ev env else b.ev env) k h N:=by
 simp only[sxI,exec]
 cases(c.ev env).bit<;>rfl
@[go_sem] theorem xi_new {cs:List GV}:sxI P D U env h N k (.new cs)=J6 U h 1 cs (fun n=>.ptr n 0) k:=(rfl)
@[go_sem] theorem xi_box {x:Opd}:sxI P D U env h N k (.box x)=(F5 (x.ev env)=true/\J6 U h 1 (x.ev env).cells (fun n=>.ptr n 0) k):=(rfl)
@[go_sem] theorem xi_lit {z l:Nat} {ze:List GV} {ps:List (Nat×Nat×Opd)}:sxI P D U env h N k (.lit z l ze ps)=litX U h z l k (Hw ze (ps.map fun p=>(p.1,p.2.1,p.2.2.ev env))):=(rfl)
@[go_sem] theorem litX_some {z l:Nat} {cs:List GV}:litX U h z l k (some cs)=J6 U h z cs (fun n=>.sl n 0 l) k:=(rfl)
@[go_sem] theorem xi_mks {z b:Nat} {ze:List GV} {n c:Opd}:sxI P D U env h N k (.mks z b ze n c)=mksX U h z b ze k (Bb (some (n.ev env))) (Bb (some (c.ev env))):=(rfl)
@[go_sem] theorem mksX_some {z b:Nat} {ze:List GV} {n c:Nat}:mksX U h z b ze k (some n) (some c)=(n=c/\n*b<=140737488355328/\J6 U h z (reps n ze) (fun g=>.sl g 0 n) k):=(rfl)
@[go_sem] theorem xi_ld {g:Bool} {n:Nat} {a:Opd}:sxI P D U env h N k (.ld g n a)=Hm (ldX U h N g n (a.ev env)) k h N:=(rfl)
@[go_sem] theorem xi_st {n:Nat} {a x:Opd}:sxI P D U env h N k (.st n a x)=stX U D h N n k (a.ev env) (x.ev env):=(rfl)
@[go_sem] theorem stX_ptr {n b off:Nat} {x:GV}:stX U D h N n k (.ptr b off) x=stB U D h N n k b off x (look h b):=(rfl)
@[go_sem] theorem stB_some {n b off:Nat} {x:GV} {cs:List GV}:stB U D h N n k b off x (some cs)=((D=false/\off+n<=cs.length/\0<n/\x.cells.length=n)/\∀ N',Hx U N' (upd h b (Ao cs off x.cells))->k (.tup []) (upd h b (Ao cs off x.cells)) N'):=(rfl)
@[go_sem] theorem xi_bin {op:BinOp} {x y:Opd}:sxI P D U env h N k (.bin op x y)=Hm (binG op (x.ev env) (y.ev env)) k h N:=by simp only[sxI,exec,Aib]
@[go_sem] theorem xi_eqb {n:Bool} {x y:Opd}:sxI P D U env h N k (.eqb n x y)=Hm (eqbG n (x.ev env) (y.ev env)) k h N:=by
 simp only[sxI,exec,eqbG]
 cases(x.ev env).bit with
 |none=>rfl
 |some a=>cases(y.ev env).bit<;>rfl
@[go_sem] theorem xi_un {op:UnOp} {x:Opd}:sxI P D U env h N k (.un op x)=Hm (unG op (x.ev env)) k h N:=by simp only[sxI,exec,Aib]
@[go_sem] theorem xi_cvi {kd:IntKind} {x:Opd}:sxI P D U env h N k (.cvi kd x)=Hm (cviG kd (x.ev env)) k h N:=by
 simp only[sxI,exec]
 cases x.ev env<;>rfl
@[go_sem] theorem xi_bts {x:Opd}:sxI P D U env h N k (.bts x)=Hm ((elems N 1 (x.ev env)).bind fun r=>(Fb r.2).map fun bs=>.str ⟨bs.toArray⟩) k h N:=(rfl)
@[go_sem] theorem xi_fad {n:Nat} {a:Opd}:sxI P D U env h N k (.fad n a)=Hm (fadG n (a.ev env)) k h N:=by
 simp only[sxI,exec]
 cases a.ev env<;>rfl
@[go_sem] theorem xi_iad {z:Nat} {x i:Opd}:sxI P D U env h N k (.iad z x i)=Hm (iadG z (x.ev env) (Bb (some (i.ev env)))) k h N:=by
 simp only[sxI,exec]
 cases x.ev env with
 |sl g off len=>
  simp only
  cases Bb (some (i.ev env)) with
  |none=>rfl
  |some n=>
   simp only[Zah,iadG]
   split<;>rfl
 |_=>rfl
@[go_sem] theorem xi_len {s:Bool} {x:Opd}:sxI P D U env h N k (.len s x)=Hm ((lenG s (x.ev env)).map fun n=>.int .i64 n) k h N:=by
 simp only[sxI,exec]
 cases lenG s (x.ev env)<;>rfl
@[go_sem] theorem xi_app {z b:Nat} {ze:List GV} {s x:Opd}:sxI P D U env h N k (.app z b ze s x)=genX U D N (appV z b N (s.ev env) (x.ev env)) k:=(rfl)
@[go_sem] theorem xi_mm {m:Bool} {x y:Opd}:sxI P D U env h N k (.mm m x y)=Hm (mmG m (x.ev env) (y.ev env)) k h N:=by
 simp only[sxI,exec]
 cases x.ev env<;>first|rfl|skip
 cases y.ev env<;>rfl
@[go_sem] theorem xi_call {f:Nat} {xs:List Opd}:sxI P D U env h N k (.call f xs)=A6t P U D N f (xs.map (·.ev env)) k:=(rfl)
@[go_sem] theorem allocX_def {z:Nat} {cs:List GV} {v:Nat->GV}:J6 U h z cs v k=∀ n,frX U h n->∀ N',Hx U N' (.box z n cs::h)->k (v n) (.box z n cs::h) N':=(rfl)
@[go_sem] theorem frX_nil {n:Nat}:frX U [] n=(U.length<=n):=(rfl)
@[go_sem] theorem frX_box {z m n:Nat} {cs:List GV}:frX U (.box z m cs::h) n=(m<n/\frX U h n):=(rfl)
@[go_sem] theorem frX_th {n:Nat} {q:Thg}:frX U (.th q::h) n=frX U h n:=(rfl)
@[go_sem] theorem Q8 {z n:Nat} {cs:List GV}:look (.box z n cs::h) n=some cs:=by simp[look]
@[go_sem low] theorem look_ne {z m n:Nat} {cs:List GV} (hn:m≠n):look (.box z m cs::h) n=look h n:=by simp[look,hn]
@[go_sem] theorem look_th {n:Nat} {q:Thg}:look (.th q::h) n=look h n:=(rfl)
@[go_sem] theorem upd_eq {z n:Nat} {cs ds:List GV}:upd (.box z n cs::h) n ds= .box z n ds::h:=by simp[upd]
@[go_sem low] theorem upd_ne {z m n:Nat} {cs ds:List GV} (hn:m≠n):upd (.box z m cs::h) n ds= .box z m cs::upd h n ds:=by simp[upd,hn]
@[go_sem] theorem upd_th {n:Nat} {q:Thg} {ds:List GV}:upd (.th q::h) n ds= .th q::upd h n ds:=(rfl)
@[go_sem] theorem ldX_ptr {g:Bool} {n b off:Nat} (hb:U.length<=b):ldX U h N g n (.ptr b off)=ldB (look h b) g n off (ldG g n N (.ptr b off)):=by
 have:ldG g n U (.ptr b off)=none:=by
  simp only[ldG,rdB]
  rw[List.getElem?_eq_none hb];rfl
 simp only[ldX,this,orX,ldY]
@[go_sem] theorem ldX_at {g:Bool} {n z i:Nat} {v:GV}:ldX U h N g n (atz z v i)=orX (ldG g n U (atz z v i)) (ldY h N g n (atz z v i)):=(rfl)
@[go_sem] theorem ldX_fld {g:Bool} {n z i m:Nat} {v:GV}:ldX U h N g n (fld m (atz z v i))=orX (ldG g n U (fld m (atz z v i))) (ldY h N g n (fld m (atz z v i))):=(rfl)
@[go_sem] theorem orX_some {x:GV} {b:Option GV}:orX (some x) b=some x:=(rfl)
@[go_sem] theorem ldB_some {cs:List GV} {g:Bool} {n off:Nat} {e:Option GV}:ldB (some cs) g n off e=(seg cs off n).bind (mkv g):=(rfl)
@[go_sem] theorem xc_skip:sxc P U .skip Q env h N=Q .nxt env h N:=(rfl)
@[go_sem] theorem xc_reg {os:List Op1}:sxc P U (.reg os) Q env h N=sx P false U os (Q .nxt) env h N:=(rfl)
@[go_sem] theorem xc_drw {a1 bs:List Op1}:sxc P U (.drw a1 bs) Q env h N=sx P true U a1 (sx P false U bs (Q .nxt)) env h N:=(rfl)
@[go_sem] theorem xc_seq {a b:Cd}:sxc P U (.seq a b) Q env h N=sxc P U a (fun e=>match e with
  | .nxt=>sxc P U b Q
  |e=>Q e) env h N:=(rfl)
@[go_sem] theorem xc_cnd {c:Opd} {a b:Cd}:sxc P U (.cnd c a b) Q env h N=ifS P U a b Q env h N (c.ev env).bit:=by
 show ifX _ _ _=_
 cases(c.ev env).bit<;>rfl
@[go_sem] theorem xc_blk {id:Nat} {a:Cd}:sxc P U (.blk id a) Q env h N=sxc P U a (fun e=>match e with
  | .ext j=>if j=id then Q .nxt else Q (.ext j)
  |e=>Q e) env h N:=(rfl)
@[go_sem] theorem xc_ext {id:Nat}:sxc P U (.ext id) Q env h N=Q (.ext id) env h N:=(rfl)
@[go_sem] theorem xc_ret:sxc P U .ret Q env h N=Q .ret env h N:=(rfl)
@[go_sem] theorem rsX_t {n:Nat}:rsX U h N env (.t n)=some (env n):=(rfl)
@[go_sem] theorem rsX_c {a n:Nat} {g:Bool}:rsX U h N env (.c a g n)=ldX U h N g n (env a):=(rfl)
@[go_sem] theorem resX_1 {x:Rs}:resX U h N env [x]=rsX U h N env x:=(rfl)
end words
theorem A4n {N:St}:∀ {rs:List Thg} {fp:List Nat},sat N rs fp->fp.Nodup->∃ F:Nat->List Nat,(∀ (i:Nat) (r:Thg),rs[i]? =some r->r.P N (F i))/\(∀ i,(F i).Nodup)/\(∀ i j,i≠j->∀ g∈F i,g∉F j)/\∀ i,∀ g∈F i,g∈fp
 |[],fp,h,hn=>⟨fun _=>[],by simp,by simp,by simp,by simp⟩
 |r::rs,_,⟨a,b,hr,hs,rfl⟩,hn=>by
  rw[Zam] at hn
  obtain⟨F,h1,h2,h3,h4⟩:=A4n hs hn.2.1
  refine⟨fun i=>match i with|0=>a|i+1=>F i,?_,?_,?_,?_⟩
  ·intro i s hi
   cases i with
   |zero=>simp at hi;subst hi;exact hr
   |succ i=>exact h1 i s (by simpa using hi)
  ·intro i;cases i with
   |zero=>exact hn.1
   |succ i=>exact h2 i
  ·intro i j hij g hg
   cases i with
   |zero=>cases j with
    |zero=>exact absurd rfl hij
    |succ j=>exact fun h=>hn.2.2 g hg g (h4 j g h) rfl
   |succ i=>cases j with
    |zero=>exact fun h=>hn.2.2 g h g (h4 i g hg) rfl
    |succ j=>exact h3 i j (by omega) g hg
  ·intro i g hg
   cases i with
   |zero=>exact Zaw _ hg
   |succ i=>exact Zan _ (h4 i g hg)
theorem Ag3 {N:St} {rs:List Thg} {F:Nat->List Nat} (h1:∀(i:Nat) (r:Thg),rs[i]? =some r->r.P N (F i)) (h2:∀ i,(F i).Nodup) (h3:∀ i j,i≠j->∀ g∈F i,g∉F j):∀ {is:List Nat},is.Nodup->∃ fp,sat N (is.filterMap (rs[·]?)) fp/\fp.Nodup/\∀ g∈fp,∃ i∈is,g∈F i
 |[],_=>⟨[],rfl,by simp,by simp⟩
 |i::is,hn=>by
  rw[Za7] at hn
  obtain⟨fp,k1,k2,k3⟩:=Ag3 h1 h2 h3 hn.2
  cases hi:rs[i]? with
  |none=>exact⟨fp,by rw[Zay,hi];exact k1,k2,fun g hg=>by obtain⟨j,hj,h⟩:=k3 g hg;exact⟨j,Zav _ hj,h⟩⟩
  |some r=>
   refine⟨F i++fp,by rw[Zay,hi];exact⟨F i,fp,h1 i r hi,k1,rfl⟩,Zam.2 ⟨h2 i,k2,fun x hx y hy e=> ?_⟩,fun g hg=> ?_⟩
   ·subst e
    obtain⟨j,hj,h⟩:=k3 x hy
    exact h3 i j (fun e=>hn.1 (by rw[e];exact hj)) x hx h
   ·rcases Zbe.1 hg with hg|hg
    ·exact⟨i,Zaj,hg⟩
    ·obtain⟨j,hj,h⟩:=k3 g hg;exact⟨j,Zav _ hj,h⟩
theorem Hp.sel {U N:St} {rs:List Thg} (H:Hp U N rs) (is:List Nat) (hn:is.Nodup):Hp U N (is.filterMap (rs[·]?)):=by
 obtain⟨h,fp,hs,hnd,hb⟩:=H
 obtain⟨F,h1,h2,h3,h4⟩:=A4n hs hnd
 obtain⟨fp',k1,k2,k3⟩:=Ag3 h1 h2 h3 hn
 exact⟨h,fp',k1,k2,fun g hg=>by obtain⟨i,_,hi⟩:=k3 g hg;exact hb g (h4 i g hi)⟩
theorem Hx.sel {U N:St} {h:List Item} (H:Hx U N h) (is:List Nat) (hn:is.Nodup):Hp U N (is.filterMap ((h.map Item.t)[·]?)):=Hp.sel H is hn
theorem Hx.re {U N:St} {h:List Item} (H:Hx U N h) (is:List Nat) (hn:is.Nodup):Hx U N (is.filterMap (h[·]?)):=by
 have e:(is.filterMap (h[·]?)).map Item.t=is.filterMap ((h.map Item.t)[·]?):=by
  induction is with
  |nil=>rfl
  |cons i is ih=>
   have ih:=ih (Za7.1 hn).2
   rw[Zay,Zay,Za1]
   cases h[i]? with
   |none=>exact ih
   |some x=>simp only[Zau,Zaz,ih]
 unfold Hx
 rw[e]
 exact H.sel is hn
section os
variable {Y:Type} {d:Kd Y} {U N:St} {l:List Y} {v:GV} {fp:List Nat}
end os
theorem A25 {Y:Type} {p:Pl Y} {N:St} {n:Nat} {x:Y} (h:rdB N n=some (p.enc x)):RS p.kd N (.sl n 0 1) [x]:=by
 refine .inr ⟨n,0,p.enc x,rfl,h,?_,fun i y hy=> ?_⟩
 ·show 0+1*p.z<=_;rw[p.len];omega
 ·have hi:i<1:=by simpa using (Zao.1 hy).1
  have hi:i=0:=by omega
  subst hi
  simp at hy;subst hy
  show List.take p.z (List.drop (0+0*p.z) (p.enc x))=p.enc x
  simp only[Nat.zero_mul,Nat.add_zero,List.drop_zero]
  exact List.take_of_length_le (by rw[p.len];exact Za6 _)
section rules
variable {P:Program} {D:Bool} {U N N':St} {env:Env} {h:List Item} {k:Kx} {f:Nat} {args:List GV} {v:GV} {Y:Type}
theorem map_th {rs:List Thg} {h:List Item}:(rs.map Item.th++h).map Item.t=rs++h.map Item.t:=by
 rw[Zbd,List.map_map]
 congr 1
 exact List.map_id _
theorem by_cs {rs:List Thg} (H:Hx U N h) (R:Ret P f args N v N') (K:Hp N N' rs) (kk:Hx U N' (rs.map Item.th++h)->k v (rs.map Item.th++h) N'):A6t P U D N f args k:=by
 have H':Hx U N' (rs.map Item.th++h):=by unfold Hx;rw[map_th];exact H.hp.add K
 exact⟨v,N',_,R,fun _=>K.sub,H',kk H'⟩
theorem by_c {r:Thg} (H:Hx U N h) (R:Ret P f args N v N') (K:Hp N N' [r]) (kk:Hx U N' (.th r::h)->k v (.th r::h) N'):A6t P U D N f args k:=by_cs H R K kk
theorem by_r (H:Hx U N h) (R:Ret P f args N v N) (kk:k v h N):A6t P U D N f args k:=⟨v,N,h,R,fun _=>Zaf _,H,kk⟩
theorem by_b {b:Bool} (H:Hx U N h) (R:Ret P f args N (.bool b) N) (h1:b=true->k (.bool true) h N) (h2:b=false->k (.bool false) h N):A6t P U D N f args k:=by
 refine by_r H R ?_
 cases b with
 |true=>exact h1 rfl
 |false=>exact h2 rfl
theorem by_m {h':List Item} (R:Ret P f args N v N') (H:Hx U N' h') (kk:k v h' N'):A6t P U false N f args k:=⟨v,N',h',R,(fun h=>by cases h),H,kk⟩
theorem Ae2 {h:List Item} {i:Nat} {r:Thg}:(h.set i (.th r)).map Item.t=(h.map Item.t).set i r:=List.map_set ..
theorem at_t {h:List Item} {i:Nat} {r:Thg} (hi:h[i]? =some (.th r)):(h.map Item.t)[i]? =some r:=by rw[Za1,hi];rfl
theorem Q9 {p:Pl Y} {b8 n:Nat} {l:List Y} (H:Hx U N h) (i:Nat) (hi:h[i]? =some (.th (ow p.kd v l))) (x:Y) (hl:look h n=some (p.enc x)) (hz:0<p.z) (hb:(l.length+1)*b8<=140737488355328)
  (kk:∀ v' N',Hx U N' (h.set i (.th (ow p.kd v' (l++[x]))))->k v' (h.set i (.th (ow p.kd v' (l++[x])))) N'):genX U false N (appV p.z b8 N v (.sl n 0 1)) k:=by
 obtain⟨z,j,h1,_⟩:=Q7 hl
 obtain⟨v',N',e,H'⟩:=H.hp.app (by8:=b8) i (at_t hi) (A25 (H.hp.pt j h1)) hz hb
 rw[<- Ae2] at H'
 exact⟨v',N',_,e,(fun h=>by cases h),H',kk v' N' H'⟩
theorem Ajo {p:Pl Y} {b8:Nat} {l m:List Y} {u:GV} (H:Hx U N h) (i:Nat) (hi:h[i]? =some (.th (ow p.kd v l))) (hu:RS p.kd N u m) (hz:0<p.z) (hb:(l.length+m.length)*b8<=140737488355328)
  (kk:∀ v' N',Hx U N' (h.set i (.th (ow p.kd v' (l++m))))->k v' (h.set i (.th (ow p.kd v' (l++m)))) N'):genX U false N (appV p.z b8 N v u) k:=by
 obtain⟨v',N',e,H'⟩:=H.hp.app (by8:=b8) i (at_t hi) hu hz hb
 rw[<- Ae2] at H'
 exact⟨v',N',_,e,(fun h=>by cases h),H',kk v' N' H'⟩
theorem Ag4:∀(h:List Item) (j:Nat),(h.map Item.t).eraseIdx j=(h.eraseIdx j).map Item.t
 |[],_=>rfl
 |x::h,0=>rfl
 |x::h,j+1=>by simp only[Zaz,Zal,Ag4 h j]
theorem by_cp {p:Pl Y} {b8 n:Nat} {m:List Y} {u:GV} (H:Hx U N (.box p.z n []::h)) (hu:RS p.kd N u m) (hz:0<p.z) (hb:m.length*b8<=140737488355328)
  (kk:∀ v' N',Hx U N' (.th (ow p.kd v' m)::h)->k v' (.th (ow p.kd v' m)::h) N'):genX U D N (appV p.z b8 N (.sl n 0 0) u) k:=by
 have hu':RdN p.en N u m:=hu
 have ha:appV p.z b8 N (.sl n 0 0) u=appG p.z b8 N (.sl n 0 0) m.length (p.cells m):=by
  have he:=hu'.elems
  unfold appV
  rcases hu' with⟨rfl,rfl|rfl⟩|⟨g,off,cs,rfl,_⟩<;>simp only[he,Zah]
 rw[ha]
 by_cases hm:m.length=0
 ·have:m=[]:=List.eq_nil_of_length_eq_zero hm
  subst this
  have H1:Hx U N (.th (ow p.kd (.sl n 0 0) [])::h):=H.hp.toNil (d:=p.kd) 0 rfl rfl
  exact⟨.sl n 0 0,N,_,by simp[appG,isSl],fun _=>Zaf _,H1,kk _ _ H1⟩
 ·obtain⟨a,ha,_⟩:=H.hp.see (i:=0) rfl
  have hB:=Bt.1 ha.2
  have H1:Hx U (N++[some (.row p.z (p.cells m))]) (.th (ow p.kd (.sl N.length 0 m.length) m)::h):=(H.hp.drop1.new p.z (p.cells m)).toRow 0 rfl m rfl rfl _ rfl
  refine⟨.sl N.length 0 m.length,N++[some (.row p.z (p.cells m))],_,?_,fun _=>pre1 _ _,H1,kk _ _ H1⟩
  simp only[appG,hB,if_neg hm]
  rw[if_pos ⟨trivial,trivial,trivial,trivial,hb⟩]
theorem I5 {e:Option (GV×St)} {k k':Kx} (hk:∀ v h N,k v h N->k' v h N):genX U D N e k->genX U D N e k':=fun⟨v,N',h',h1,h2,h3,h4⟩=>⟨v,N',h',h1,h2,h3,hk _ _ _ h4⟩
theorem Kr {z:Nat} {cs:List GV} {w:Nat->GV} {k k':Kx} (hk:∀ v h N,k v h N->k' v h N) (e:J6 U h z cs w k):J6 U h z cs w k':=fun n hf N' H=>hk _ _ _ (e n hf N' H)
theorem Ahh {k k':Kx} (hk:∀ v h N,k v h N->k' v h N):∀ {i:Ins},sxI P D U env h N k i->sxI P D U env h N k' i:=by
 have bm:∀ {v:Option GV},Hm v k h N->Hm v k' h N:=fun {v} e=>by
  cases v with
  |none=>exact e
  |some v=>exact hk _ _ _ e
 intro i e
 cases i with
 |new cs=>exact Kr hk e
 |box x=>exact⟨e.1,Kr hk e.2⟩
 |lit z len zero parts=>
  simp only[sxI] at e ⊢
  revert e
  cases Hw zero (parts.map fun p=>(p.1,p.2.1,p.2.2.ev env)) with
  |none=>exact id
  |some cs=>exact Kr hk
 |mks z b ze n c=>
  simp only[sxI] at e ⊢
  revert e
  cases Bb (some (n.ev env)) with
  |none=>exact id
  |some n=>cases Bb (some (c.ev env)) with
   |none=>exact id
   |some c=>exact fun e=>⟨e.1,e.2.1,Kr hk e.2.2⟩
 |st n a x=>
  simp only[sxI] at e ⊢
  revert e
  cases a.ev env with
  |ptr b off=>
   simp only[stX]
   unfold stB
   cases look h b with
   |none=>exact I5 hk
   |some cs=>exact fun e=>⟨e.1,fun N' H=>hk _ _ _ (e.2 N' H)⟩
  |_=>exact I5 hk
 |call f xs=>
  obtain⟨v,N',h',h1,h2,h3,h4⟩:=e
  exact⟨v,N',h',h1,h2,h3,hk _ _ _ h4⟩
 |callv x xs=>
  simp only[sxI] at e ⊢
  revert e
  cases x.ev env with
  |fn f caps=>exact fun⟨v,N',h',h1,h2,h3,h4⟩=>⟨v,N',h',h1,h2,h3,hk _ _ _ h4⟩
  |_=>exact id
 |chk d x=>
  cases x with
  |ld g n a=>cases a with
   |t t=>exact⟨e.1,hk _ _ _ e.2⟩
   |k v=>exact e
  |_=>exact e
 |blc t cs=>exact⟨e.1,hk _ _ _ e.2⟩
 |app z b ze s x=>exact I5 hk e
 |clr z ze x=>exact I5 hk e
 |mkm=>exact I5 hk e
 |mup ks m k2 v=>exact I5 hk e
 |mov x=>exact hk _ _ _ e
 |pan=>exact e
 |_=>exact bm e
theorem V8:∀ {os:List Op1} {K K':Env->List Item->St->Prop} {env:Env} {h:List Item} {N:St},(∀ env h N,K env h N->K' env h N)->sx P D U os K env h N->sx P D U os K' env h N
 |[],K,K',env,h,N,hk,e=>hk _ _ _ e
 |o::r,K,K',env,h,N,hk,e=>by
  simp only[sx] at e ⊢
  have y:sxI P D U env h N (fun v h' N'=>sx P D U r K (upo env o.d v) h' N') o.i->sxI P D U env h N (fun v h' N'=>sx P D U r K' (upo env o.d v) h' N') o.i:=Ahh fun v h N=>V8 hk
  have n:sx P D U r K (upo env o.d (.tup [])) h N->sx P D U r K' (upo env o.d (.tup [])) h N:=V8 hk
  revert e
  cases o.g.map fun g=>((env g.1).bit,g.2) with
  |none=>exact y
  |some q=>
   obtain⟨c,b⟩:=q
   cases c with
   |none=>exact n
   |some c=>exact fun e=>⟨fun hc=>y (e.1 hc),fun hc=>n (e.2 hc)⟩
theorem A4o {d:Cd}:∀ {Q Q':Qx} {env:Env} {h:List Item} {N:St},(∀ e env h N,Q e env h N->Q' e env h N)->sxc P U d Q env h N->sxc P U d Q' env h N:=by
 induction d with
 |skip=>intro Q Q' env h N hq e;exact hq _ _ _ _ e
 |reg ops=>intro Q Q' env h N hq e;exact V8 (hq _) e
 |drw a1 bs=>intro Q Q' env h N hq e;exact V8 (fun _ _ _=>V8 (hq _)) e
 |seq a b iha ihb=>
  intro Q Q' env h N hq e
  refine iha (fun e env h N he=> ?_) e
  cases e with
  |nxt=>exact ihb hq he
  |ext j=>exact hq _ _ _ _ he
  |ret=>exact hq _ _ _ _ he
 |cnd c a b iha ihb=>
  intro Q Q' env h N hq e
  simp only[sxc] at e ⊢
  unfold ifX at e ⊢
  split
  ·rename_i hc;rw[hc] at e;exact⟨fun k=>iha hq (e.1 k),fun k=>ihb hq (e.2 k)⟩
  ·rename_i hc;rw[hc] at e;exact e
 |blk id a ih=>
  intro Q Q' env h N hq e
  refine ih (fun e env h N he=> ?_) e
  cases e with
  |nxt=>exact hq _ _ _ _ he
  |ext j=>
   simp only at he ⊢
   split at he
   ·rename_i hj;rw[if_pos hj];exact hq _ _ _ _ he
   ·rename_i hj;rw[if_neg hj];exact hq _ _ _ _ he
  |ret=>exact hq _ _ _ _ he
 |lop a ih=>
  intro Q Q' env h N hq e
  obtain⟨I,n,h0,H0,hI,hs⟩:=e
  refine⟨I,n,h0,H0,hI,fun k env h N H hi=>ih (fun e env' h' N' he=> ?_) (hs k env h N H hi)⟩
  cases e with
  |nxt=>exact he
  |ext j=>obtain⟨h1,H1,he⟩:=he;exact⟨h1,H1,hq _ _ _ _ he⟩
  |ret=>obtain⟨h1,H1,he⟩:=he;exact⟨h1,H1,hq _ _ _ _ he⟩
 |ext id=>intro Q Q' env h N hq e;exact hq _ _ _ _ e
 |ret=>intro Q Q' env h N hq e;exact hq _ _ _ _ e
variable {a b:Cd} {Q:Qx}
theorem V9 (n j0:Nat) (I:Nat->Env->List Item->Prop) (X Z:Env->List Item->Prop) (h0:List Item) (H0:Hx U N h0) (hI:I n env h0)
  (hs:∀(J:Nat->Env->St->Prop) (Yq Wq:Env->St->Prop),(∀ i env h N,Hx U N h->I i env h->J i env N)->(∀ env h N,Hx U N h->X env h->Yq env N)->(∀ env h N,Hx U N h->Z env h->Wq env N)->∀ i env h N,Hx U N h->I i env h->sxc P U a (fun e env' h' N'=>match e with
   | .nxt=>∃ i',i'<i/\J i' env' N'
   | .ext j=>j=j0/\Yq env' N'
   | .ret=>Wq env' N') env h N)
  (hx:∀ env h N,Hx U N h->X env h->Q (.ext j0) env h N) (hz:∀ env h N,Hx U N h->Z env h->Q .ret env h N):sxc P U (.lop a) Q env h N:=by
 refine⟨fun i env h N=>I i env h,n,h0,H0,hI,fun i env h N H hi=>A4o (fun e env' h' N' he=> ?_) (hs (fun i env N=>∃ h,Hx U N h/\I i env h) (fun env N=>∃ h,Hx U N h/\X env h) (fun env N=>∃ h,Hx U N h/\Z env h) (fun _ _ h _ H e=>⟨h,H,e⟩) (fun _ h _ H e=>⟨h,H,e⟩) (fun _ h _ H e=>⟨h,H,e⟩) i env h N H hi)⟩
 cases e with
 |nxt=>obtain⟨i',h1,h2,h3,h4⟩:=he;exact⟨i',h2,h1,h3,h4⟩
 |ext j=>obtain⟨rfl,h2,h3,h4⟩:=he;exact⟨h2,h3,hx _ _ _ h3 h4⟩
 |ret=>obtain⟨h2,h3,h4⟩:=he;exact⟨h2,h3,hz _ _ _ h3 h4⟩
theorem C3 (n ri j0:Nat) (I:Nat->Env->List Item->Prop) (X Z:Env->List Item->Prop) (h0:List Item) (H0:Hx U N h0) (hr:env ri=gi 0) (hI:I 0 env h0)
  (hs:∀(J:Nat->Env->St->Prop) (Yq Wq:Env->St->Prop),(∀ i env h N,Hx U N h->I i env h->J i env N)->(∀ env h N,Hx U N h->X env h->Yq env N)->(∀ env h N,Hx U N h->Z env h->Wq env N)->∀ i env h N,i<n->env ri=gi i->decide ((i:Int)<n)=true->Hx U N h->I i env h->sxc P U a (fun e env' h' N'=>match e with
   | .nxt=>env' ri=gi ((i:Int)+1)/\J (i+1) env' N'
   | .ext j=>j=j0/\Yq env' N'
   | .ret=>Wq env' N') env h N)
  (he:∀(Yq:Env->St->Prop),(∀ env h N,Hx U N h->X env h->Yq env N)->∀ env h N,env ri=gi n->decide ((n:Int)<n)=false->Hx U N h->I n env h->sxc P U a (fun e env' h' N'=>match e with
   | .nxt=>False
   | .ext j=>j=j0/\Yq env' N'
   | .ret=>False) env h N)
  (hx:∀ env h N,Hx U N h->X env h->Q (.ext j0) env h N) (hz:∀ env h N,Hx U N h->Z env h->Q .ret env h N):sxc P U (.lop a) Q env h N:=by
 refine V9 n j0 (fun k env h=>∃ i:Nat,k=n - i/\i<=n/\env ri=gi i/\I i env h) X Z h0 H0 ⟨0,rfl,Nat.zero_le _,hr,hI⟩ (fun J Yq Wq hJ hY hW k env h N H hi=> ?_) hx hz
 obtain⟨i,rfl,h1,h2,h3⟩:=hi
 rcases Nat.lt_or_ge i n with hlt|hge
 ·refine A4o (fun e env' h' N' q=> ?_) (hs (fun i' env N=>i'<=n->env ri=gi i'->J (n - i') env N) Yq Wq (fun j env h N H e hj hr=>hJ _ env h N H ⟨j,rfl,hj,hr,e⟩) hY hW i env h N hlt h2 (by simp;omega) H h3)
  cases e with
  |nxt=>exact⟨n - (i+1),by omega,q.2 (by omega) q.1⟩
  |ext j=>exact q
  |ret=>exact q
 ·obtain rfl:i=n:=by omega
  refine A4o (fun e env' h' N' q=> ?_) (he Yq hY env h N h2 (by simp) H h3)
  cases e with
  |nxt=>exact q.elim
  |ext j=>exact q
  |ret=>exact q.elim
theorem I6 {md:Bool} {F:Fn1} {r:GV} (hF:Gk md P f=some F) (hl:args.length<=F.n) (hr:vLt U.length r)
  (hc:sxc P U F.c (fun e env h N=>Hx U N h->Tl e=true/\resX U h N env F.rs=some r) (env0 args) [] U):Ret P f args U r U:=
 Ac hF hl hr (As (A6u (Hx.refl U) hc) fun e env N he=>by
  obtain⟨_,h,H,hq⟩:=he
  exact⟨(hq H).1,A24 H (hq H).2,H.sub⟩)
end rules
def eD (p:Dot×Int):GV×GV:=(.agg [gi p.1.rep,gi p.1.seq],gi p.2)
def L8 (ps:List (Dot×Int)) (d:Dot):Option Int:=(ps.find? fun p=>decide (d=p.1)).map (·.2)
def mpt (m:GV) (ps:List (Dot×Int)):Thg:=⟨fun U fp=>∃ g,m= .mp g/\fp=[g]/\bk U g=some (.map (ps.map eD)),fun⟨g,h1,h2,h3⟩ hf=>⟨g,h1,h2,by rw[hf g (by rw[h2];exact Zaj)];exact h3⟩⟩
theorem Qa (d:Dot):∀(ps:List (Dot×Int)) (i:Nat),∃ q,Sm [.i .i64,.i .i64] [gi d.rep,gi d.seq] (ps.map eD) i=some q/\match L8 ps d with
  |some v=>∃ j,q=some (j,gi v)
  |none=>q=none
 |[],i=>⟨none,rfl,rfl⟩
 |p::ps,i=>by
  obtain⟨q,h1,h2⟩:=Qa d ps (i+1)
  have e:Db [.i .i64,.i .i64] [gi d.rep,gi d.seq] [gi p.1.rep,gi p.1.seq]=some (decide (d=p.1)):=by
   have:decide (d=p.1)=(decide (d.rep=p.1.rep)&&decide (d.seq=p.1.seq)):=by
    rw[Zbm]
    simp only[decide_eq_true_eq,Bool.and_eq_true]
    constructor
    ·rintro rfl;exact⟨rfl,rfl⟩
    ·rintro⟨h3,h4⟩;cases d;cases hp:p.1;simp_all
   rw[this]
   simp only[Db,scEq,and_self,if_true,Zah,Zau,Bool.and_true,Zbp.injEq]
   rw[Zbm];simp
  by_cases hd:d=p.1
  ·refine⟨some (i,gi p.2),?_,?_⟩
   ·simp only[Zaz,eD,Sm] at e ⊢
    rw[e];simp[hd]
   ·have:L8 (p::ps) d=some p.2:=by simp[L8,hd]
    rw[this];exact⟨i,rfl⟩
  ·refine⟨q,?_,?_⟩
   ·simp only[Zaz,eD,Sm] at e ⊢
    rw[e];simp only[hd,decide_false,Zah,Bool.false_eq_true,if_false]
    exact h1
   ·have:L8 (p::ps) d=L8 ps d:=by simp[L8,hd]
    rw[this];exact h2
namespace Hp
variable {U N:St} {rs:List Thg}
theorem newMap (H:Hp U N rs):Hp U (N++[some (.map [])]) (mpt (.mp N.length) []::rs):=
 H.add (rs':=[mpt (.mp N.length) []]) ⟨Zat _ _,[N.length],⟨[N.length],[],⟨_,rfl,rfl,I1⟩,rfl,rfl⟩,by simp,by simp⟩
theorem mup (H:Hp U N rs) (i:Nat) {m:GV} {ps:List (Dot×Int)} (hi:rs[i]? =some (mpt m ps)) (d:Dot) (n:Int) (h:L8 ps d=none):
  ∃ N',mupG N [.i .i64,.i .i64] m (.agg [gi d.rep,gi d.seq]) (gi n)=some (.tup [],N')/\Hp U N' (rs.set i (mpt m (ps++[(d,n)]))):=by
 obtain⟨a,⟨g,rfl,rfl,hB⟩,hnd,hbd,ht⟩:=(H.pick i hi).turn
 have hlt:=(hbd g Zaj).2
 obtain⟨q,h1,h2⟩:=Qa d ps 0
 rw[h] at h2
 subst h2
 refine⟨N.set g (some (.map ((ps++[(d,n)]).map eD))),?_,unpick (ht (a':=[g]) ⟨by simp,fun g' h=>.inl h,by simp,fun g' h h'=>Gl fun e=>h' (by rw[e];exact Zaj)⟩ ⟨g,rfl,rfl,Bt.2 (by rw[Zbc hlt])⟩) (Zao.1 hi).1⟩
 simp only[mupG,mpG,Bt.1 hB,Zah,keyG,Zbj,Zbn,if_true]
 rw[h1]
 simp[F5,Aih,eD]
theorem mlk (H:Hp U N rs) (i:Nat) {m:GV} {ps:List (Dot×Int)} (hi:rs[i]? =some (mpt m ps)) (d:Dot):
  mlkG N [.i .i64,.i .i64] (gi 0) true m (.agg [gi d.rep,gi d.seq])=some (.tup [gi ((L8 ps d).getD 0),.bool (L8 ps d).isSome]):=by
 obtain⟨a,⟨g,rfl,rfl,hB⟩,_⟩:=H.see hi
 obtain⟨q,h1,h2⟩:=Qa d ps 0
 simp only[mlkG,mpG,Bt.1 hB,Zah,keyG,Zbj,Zbn,if_true]
 rw[h1]
 cases hl:L8 ps d with
 |none=>rw[hl] at h2;subst h2;rfl
 |some v=>rw[hl] at h2;obtain⟨j,rfl⟩:=h2;rfl
end Hp
attribute [go_sem] Zac Zae Zal Zar Zaz List.map_nil Za4 Zap
section
variable {P:Program} {D:Bool} {U N:St} {env:Env} {h:List Item} {k:Kx} {v:GV} {Y:Type} {l:List Y}
theorem flt_t {p:Y->Bool} {i:Nat} (hi:i<l.length) (hp:p l[i]=true):(l.take (i+1)).filter p=(l.take i).filter p++[l[i]]:=by
 rw[Za0 hi,Zbi,Zbk,hp];rfl
theorem flt_f {p:Y->Bool} {i:Nat} (hi:i<l.length) (hp:p l[i]=false):(l.take (i+1)).filter p=(l.take i).filter p:=by
 rw[Za0 hi,Zbi,Zbk,hp];simp
theorem Hx.nil (H:Hx U N h) (d:Kd Y):Hx U N (.th (ow d .nilS ([]:List Y))::h):=Hp.nilS H
theorem Hx.emp {z n:Nat} (H:Hx U N (.box z n []::h)) (d:Kd Y) (hz:z=d.z):Hx U N (.th (ow d (.sl n 0 0) ([]:List Y))::h):=H.hp.toNil 0 rfl hz
theorem A4p {f:Nat} {args:List GV} {w:GV} {N':St} {r:Thg} (i:Nat) (R:Ret P f args N w N') (K:Hp U N' ((h.map Item.t).set i r)) (kk:Hx U N' (h.set i (.th r))->k w (h.set i (.th r)) N'):A6t P U false N f args k:=by
 rw[<- Ae2] at K
 exact by_m R K (kk K)
theorem Aic {g:Bool} {n:Nat} {a x:GV} (e:ldG g n U a=some x):ldX U h N g n a=some x:=by unfold ldX orX;rw[e]
theorem Eo (H:Hx U N h) {g:Bool} {n:Nat} {a x:GV} (e:ldG g n N a=some x):ldX U h N g n a=some x:=by
 unfold ldX orX
 cases h1:ldG g n U a with
 |some y=>have:=Ag0 h1 H.sub;rw[e] at this;exact this.symm
 |none=>
  show ldY h N g n a=some x
  cases a with
  |ptr b off=>
   simp only[ldY]
   cases hl:look h b with
   |none=>exact e
   |some cs=>
    obtain⟨z,i,h2,_⟩:=Q7 hl
    have:=H.hp.pt i h2
    simp only[ldG,this,Zah] at e
    exact e
  |_=>exact e
theorem A4q:∀ {h:List Item} {n:Nat} {cs:List GV},look h n=some cs->∃ z,∃ i:Nat,h[i]? =some (.box z n cs)
 |[],_,_,e=>by cases e
 | .box z m cs'::h,n,cs,e=>by
  simp only[look] at e
  by_cases hm:m=n
  ·rw[if_pos hm] at e
   injection e with e;subst e hm
   exact⟨z,0,rfl⟩
  ·rw[if_neg hm] at e
   obtain⟨z',i,h1⟩:=A4q e
   exact⟨z',i+1,by simpa using h1⟩
 | .th r::h,n,cs,e=>by
  obtain⟨z',i,h1⟩:=A4q (h:=h) (by simpa [look] using e)
  exact⟨z',i+1,by simpa using h1⟩
theorem no_box (H:Hx U N h) {i:Nat} {r:Thg} (hi:h[i]? =some (.th r)) {b:Nat} (hb:∀ fp,r.P N fp->b∈fp):look h b=none:=by
 cases hl:look h b with
 |none=>rfl
 |some cs=>
  obtain⟨z,j,h1⟩:=A4q hl
  obtain⟨_,fp,hs,hn,_⟩:=H.hp
  obtain⟨F,k1,k2,k3,_⟩:=A4n hs hn
  have hj:=k1 j (pt z b cs) (by rw[Za1,h1];rfl)
  have hr:=k1 i _ (at_t hi)
  have hij:i≠j:=by
   rintro rfl
   rw[hi] at h1;cases h1
  have h2:b∈F j:=by rw[hj.1];exact Zaj
  exact(k3 i j hij b (hb _ hr) h2).elim
end
def Rj:Fn1:=⟨17,[.c 2 true 7],(rg [oX 1 0,o 2 (.new [z0,z0,.nilS,.nilS,.nilS,.nilS,.nilS])] (rg [o 3 (.new [z0,z0,.nilS,.nilS,.nilS,.nilS,.nilS])] (rg [oF 4 0 1,oW 5 2 4,oC 6 292 5,oF 7 0 3,oS 2 7 6] (rg [oF 8 2 1,oL 9 8,oC 10 26 9,oF 11 2 3,oS 1 11 10] (rg [oF 12 3 1,oW 13 4 12,oC 14 149 13,oF 15 3 3,oS 4 15 14] (rg [oW 16 7 3,oS 7 2 16] .ret))))))⟩
theorem A4r:A2 Tryz.prog 227=some Rj:=by kernel_rfl
theorem A0s (U:St) (cs:List GV) (x:Commit) (hR:Bq.R U x cs) (hl:Az x<=1099511627776):∃ r N,Ret Tryz.prog 227 [.agg cs] U r N/\U <+: N/\∃ ds,r= .agg ds/\Hp U N [own Bq ds x]:=by
 obtain⟨v1,v2,rfl,hA,hD⟩:=hR
 have hD0:=hD
 obtain⟨d0,d1,d2,d3,rfl,_⟩:=hD
 have hma:x.ups.length<=1099511627776/\A7 x.state<=1099511627776:=by unfold Az at hl;omega
 have key:∃ r N,Ret Tryz.prog 227 [.agg [.int .i64 x.id.rep,.int .i64 x.id.seq,v1,d0,d1,d2,d3]] U r N/\∃ ds,r= .agg ds/\Hp U N [own Bq ds x]:=by
  refine Mt A4r (Z0z rfl) (Hx.refl U) ?_
  simp +contextual (disch:=omega) only[go_sem,Rj]
  intro n1 f1 N1 H1 n2 f2 N2 H2 n3 f3 N3 H3
  refine by_r H3 (Dy N3 x.id) ?_
  simp +contextual (disch:=omega) only[go_sem]
  intro N4 H4
  obtain⟨u',N5,R5,K5⟩:=Cx N4 v1 x.ups (hA.pre H4.sub) (by omega)
  refine by_c H4 R5 K5 fun H5=> ?_
  have c5:=(K5.sl 0 rfl).cell
  simp +contextual (disch:=omega) only[go_sem,c5]
  intro N6 H6
  obtain⟨_,N7,R7,_,fs,rfl,K7⟩:=Mr N6 _ x.state (Ab.pre hD0 H6.sub) hma.2
  refine by_c H6 R7 K7 fun H7=> ?_
  obtain⟨e0,e1,e2,e3,rfl,_⟩:=K7.rd 0 rfl
  simp +contextual (disch:=omega) only[go_sem]
  intro N8 _ N9 H9
  exact⟨_,rfl,_,rfl,Hp.ownCommit (x:=x) (H9.sel [1,0] (by decide))⟩
 obtain⟨r,N,R,ds,rfl,h⟩:=key
 exact⟨_,N,R,h.sub,ds,rfl,h⟩
theorem Gv {fps:List (List Nat)} {j:Nat} {fx:List Nat} {g:Nat} (h:g∈(fps.set j fx).flatten):g∈fps.flatten∨g∈fx:=by
 obtain⟨f,hf,hg⟩:=Zbb.1 h
 rcases List.mem_or_eq_of_mem_set hf with h1|h1
 ·exact .inl (Zbb.2 ⟨f,h1,hg⟩)
 ·exact .inr (h1 ▸ hg)
theorem Lh:∀ {fps:List (List Nat)} {j:Nat} {fx:List Nat},fps.flatten.Nodup->fx.Nodup->(∀ g∈fx,g∉fps.flatten)->(fps.set j fx).flatten.Nodup
 |[],j,fx,_,_,_=>by simp
 |f::fps,0,fx,h,hx,hd=>by
  rw[Zak,Zam] at h
  rw[Zac,Zak,Zam]
  refine⟨hx,h.2.1,fun a ha b hb e=> ?_⟩
  subst e
  exact hd a ha (by rw[Zak];exact Zan _ hb)
 |f::fps,j+1,fx,h,hx,hd=>by
  rw[Zak,Zam] at h
  rw[Zae,Zak,Zam]
  refine⟨h.1,Lh h.2.1 hx fun g hg hm=>hd g hg (by rw[Zak];exact Zan _ hm),fun a ha b hb e=> ?_⟩
  subst e
  rcases Gv hb with h1|h1
  ·exact h.2.2 a ha a h1 rfl
  ·exact hd a h1 (by rw[Zak];exact Zaw _ ha)
section os
variable {Y:Type} {d:Kd Y} {U N:St} {l:List Y} {v:GV} {fp:List Nat}
theorem Acz {css:List (List GV)} {fps:List (List Nat)} (h:All3 (d.O N) l css fps):∀ c∈css,c.length=d.z:=by
 induction h with
 |nil=>simp
 |cons h _ ih=>
  intro c hc
  rcases Za5.1 hc with rfl|hc
  ·exact d.len (d.rd h)
  ·exact ih c hc
theorem OS.setc {x:Y} {cs:List GV} {fx:List Nat} (h:OS d N l v fp) (hx:d.O N x cs fx) (hn:(fp++fx).Nodup) (hlt:∀ g∈fp++fx,g<N.length) (hz:0<d.z) {j:Nat} (hj:j<l.length):
  ∃ N' fp',stG d.z N (atz d.z v j) (.agg cs)=some (.tup [],N')/\OS d N' (l.set j x) v fp'/\Turn N N' (fp++fx) fp':=by
 have hcl:=d.len (d.rd hx)
 rcases h with⟨rfl,rfl,rfl⟩|⟨g,pre,css,post,fps,rfl,hB,hA,rfl⟩
 ·simp at hj
 ·rw[Za4,Za7] at hn
  obtain⟨hg,hn⟩:=hn
  rw[Zam] at hn
  have hgt:g<N.length:=hlt g (by simp)
  have hfl:=A4f hA
  obtain⟨c,f,hc,_,_⟩:=hA.get (j:=j) (a:=l[j]) (by simp[hj])
  have hcz:=Acz hA c (Zbg hc)
  have hm:(j+1)*d.z<=l.length*d.z:=Nat.mul_le_mul_right _ hj
  rw[Nat.add_mul,Nat.one_mul] at hm
  have e1:Ao css.flatten (j*d.z+0) cs=(css.set j cs).flatten:=by
   rw[Tp (Acz hA) hc (by omega)]
   congr 2
   unfold Ao
   rw[Zax,Zap,List.drop_eq_nil_of_le (by omega),Zaa]
  have e2:Ao (pre++css.flatten++post) (pre.length+(j*d.z+0)) cs=pre++(css.set j cs).flatten++post:=by
   rw[Q4 (by omega),e1]
  have keep:∀ g',g'≠g->bk (N.set g (some (.row d.z (pre++(css.set j cs).flatten++post)))) g'=bk N g':=fun g' hne=>Gl (Ne.symm hne)
  refine⟨N.set g (some (.row d.z (pre++(css.set j cs).flatten++post))),g::(fps.set j fx).flatten,?_,.inr ⟨g,pre,css.set j cs,post,fps.set j fx,by simp,Bt.2 (by rw[Zbc hgt]),?_,rfl⟩,⟨?_,?_,by simp,?_⟩⟩
  ·simp only[atz,stG,Bt.1 hB]
   rw[if_pos ⟨by simp only[Za9];omega,hz,hcl⟩]
   rw[Nat.add_zero] at e2
   rw[show (GV.agg cs).cells=cs from rfl,e2]
  ·refine(hA.set j hx).imp fun a b c hc ho=>d.loc ho fun g' hg'=>keep g' fun e=> ?_
   subst e
   rcases Gv (Zbb.2 ⟨c,hc,hg'⟩) with h1|h1
   ·exact hg (Zaw _ h1)
   ·exact hg (Zan _ h1)
  ·rw[Za7]
   refine⟨fun h1=> ?_,Lh hn.1 hn.2.1 fun g' h1 h2=>hn.2.2 g' h2 g' h1 rfl⟩
   rcases Gv h1 with h1|h1
   ·exact hg (Zaw _ h1)
   ·exact hg (Zan _ h1)
  ·intro g' hg'
   refine .inl ?_
   rcases Za5.1 hg' with rfl|h1
   ·simp
   ·rcases Gv h1 with h1|h1
    ·simp only[Za4,Za5,Zbe];exact .inr (.inl h1)
    ·simp only[Za4,Za5,Zbe];exact .inr (.inr h1)
  ·intro g' hg' hne
   exact keep g' fun e=>hne (by rw[e];simp)
theorem OS.fresh {x0:Y} {ze:List GV} {n len:Nat} (h0:∀ N,d.O N x0 ze []) (hB:bk N n=some (.row d.z (reps len ze))):OS d N (Zad len x0) (.sl n 0 len) [n]:=by
 refine .inr ⟨n,[],Zad len ze,[],Zad len [],by simp,by rw[hB];simp[reps],?_,?_⟩
 ·clear hB
  induction len with
  |zero=>exact .nil
  |succ k ih=>exact .cons (h0 N) ih
 ·simp
end os
section rules
variable {P:Program} {D:Bool} {U N:St} {h:List Item} {k:Kx} {v:GV} {Y:Type} {l:List Y} {d:Kd Y}
theorem Hx.mk {x0:Y} {ze:List GV} {n len z:Nat} (H:Hx U N (.box z n (reps len ze)::h)) (d:Kd Y) (hz:z=d.z) (h0:∀ N,d.O N x0 ze []):Hx U N (.th (ow d (.sl n 0 len) (Zad len x0))::h):=
 H.hp.conv fun fp hp=>by
  obtain⟨rfl,hB⟩:=hp
  exact OS.fresh h0 (hz ▸ hB)
theorem A4s {x:Y} {cs:List GV} (H:Hx U N h) (m i:Nat) (hm:h[m]? =some (.th (own d cs x))) (hi:(h.eraseIdx m)[i]? =some (.th (ow d v l))) (hz:0<d.z) {j:Nat} (hj:j<l.length)
  (kk:∀ N',Hx U N' ((h.eraseIdx m).set i (.th (ow d v (l.set j x))))->k (.tup []) ((h.eraseIdx m).set i (.th (ow d v (l.set j x)))) N'):stX U false h N d.z k (atz d.z v j) (.agg cs):=by
 have H1:=H.hp.pick m (at_t hm)
 rw[Ag4] at H1
 have hp:(own d cs x::(h.eraseIdx m).map Item.t).Perm (ow d v l::own d cs x::((h.eraseIdx m).map Item.t).eraseIdx i):=((Hp.pick_perm (at_t hi)).cons _).trans (List.Perm.swap _ _ _)
 obtain⟨a,⟨a1,a2,h1,h2,rfl⟩,hn,hbd,ht⟩:=(H1.perm hp).join.turn
 obtain⟨N',fp',e,ho,hT⟩:=OS.setc h1 h2 hn (fun g hg=>(hbd g hg).2) hz hj
 have H':=Hp.unpick (ht (r':=ow d v (l.set j x)) hT ho) (Zao.1 (at_t hi)).1
 rw[<- Ae2] at H'
 have g:genX U false N (stG d.z N (atz d.z v j) (.agg cs)) k:=⟨_,N',_,e,(fun h=>by cases h),H',kk N' H'⟩
 rcases h1 with⟨rfl,_⟩|⟨gb,pre,css,post,fps,rfl,hB,hA,rfl⟩
 ·simp at hj
 ·have hno:look h gb=none:=by
   obtain⟨i0,hi0⟩:∃ i0:Nat,h[i0]? =some (.th (ow d (.sl gb pre.length l.length) l)):=by
    have:=Zbg hi
    have:=List.mem_of_mem_eraseIdx this
    obtain⟨i0,h1,h2⟩:=Zbh this
    exact⟨i0,by rw[Zba h1,h2]⟩
   refine no_box H hi0 fun fp'' ho'=> ?_
   rcases ho' with⟨rfl,_⟩|⟨g',pre',css',post',fps',e',_,_,rfl⟩
   ·simp at hj
   ·injection e' with e1;rw[e1];exact Zaj
  show stB U false h N d.z k gb _ (.agg cs) (look h gb)
  rw[hno]
  exact g
end rules
def Mv:Fn1:=⟨23,[.t 2],(rg [o 2 (.mov (.k .nilS))] (rg [oM 5 0,oN 6 5,o 7 (.mks 7 136 [z0,z0,.nilS,.nilS,.nilS,.nilS,.nilS] (.t 6) (.t 6)),oM 3 7] (.seq (rg [oV 4 (ki 0)] (oH 0 (.seq (rg [oM 8 4,oM 9 0,oN 10 9,oB 11 .lss 8 10] (oJ 11 0)) (.seq (.blk 1 (.reg [oM 14 3,oM 15 4,oM 16 0,oM 17 4,oI 18 7 16 17,oW 19 7 18,oC 20 227 19,oI 21 7 14 15,oS 7 21 20])) (.reg [oM 12 4,oZ 13 12 1,oM 4 13]))))) (rg [oM 22 3,oM 2 22] .ret))))⟩
theorem A0t:A2 Tryz.prog 150=some Mv:=by kernel_rfl
def Ag5:Commit:=⟨⟨0,0⟩,[],⟨[],[],[],[]⟩⟩
abbrev zeS:List GV:=[.nilS,.nilS,.nilS,.nilS]
theorem A26 (N:St):Ab.O N ⟨[],[],[],[]⟩ zeS []:=⟨.nilS,.nilS,.nilS,.nilS,[],[],[],[],rfl,.inl ⟨rfl,rfl,rfl⟩,.inl ⟨rfl,rfl,rfl⟩,.inl ⟨rfl,rfl,rfl⟩,.inl ⟨rfl,rfl,rfl⟩,rfl⟩
theorem Aal (N:St):Bq.O N Ag5 (gi 0::gi 0::.nilS::zeS++[]) []:=⟨.nilS,zeS,[],[],rfl,.inl ⟨rfl,rfl,rfl⟩,A26 N,rfl⟩
theorem Ks {U:St} {v:GV} {l:List Commit} (h:RS Bq U v l) {i:Nat} (hi:i<l.length):∃ cs,(iadG 7 v (some i)=some (atz 7 v i)/\ldG true 7 U (atz 7 v i)=some (.agg cs))/\Bq.R U l[i] cs:=by
 obtain⟨cs,⟨h1,_,_,h4,_⟩,h5⟩:=RdN.cellsN h hi
 exact⟨cs,⟨h1,h4⟩,h5⟩
theorem Va {Y:Type} {l:List Y} {x0:Y} {i:Nat} (hi:i<l.length):(l.take i++Zad (l.length - i) x0).set i l[i]=l.take (i+1)++Zad (l.length - (i+1)) x0:=by
 have e:Zad (l.length - i) x0=x0::Zad (l.length - (i+1)) x0:=by
  rw[show l.length - i=(l.length - (i+1))+1 by omega,Zaq]
 rw[e,Ai hi,Zai,Za2 _ _ (by rw[Zas];omega)]
 congr 1
 rw[Zas,Zbo (by omega),Nat.sub_self]
 rfl
theorem Vb (U:St) (v:GV) (l:List Commit) (hR:RS Bq U v l) (hl:l.length+sumL Az l<=1073741824):∃ r N,Ret Tryz.prog 150 [v] U r N/\Hp U N [ow Bq r l]:=by
 refine Mt A0t (Z0z rfl) (Hx.refl U) ?_
 simp +contextual (disch:=omega) only[go_sem,Mv,hR.len,A1]
 refine⟨by omega,?_⟩
 intro n f N H
 have H1:=H.mk Bq rfl Aal
 refine C3 l.length 4 0 (fun i env h=>env 0=v/\env 3= .sl n 0 l.length/\h=[.th (ow Bq (.sl n 0 l.length) (l.take i++Zad (l.length - i) Ag5))]) (fun env h=>env 3= .sl n 0 l.length/\h=[.th (ow Bq (.sl n 0 l.length) l)]) (fun env h=>False) _ H1 (by simp +contextual (disch:=omega) only[go_sem]) ⟨by simp +contextual (disch:=omega) only[go_sem],by simp +contextual (disch:=omega) only[go_sem],by simp⟩ ?_ ?_ ?_ (fun _ _ _ _ h=>h.elim)
 ·clear H H1
  rintro J Yq Wq hJ hY hW i env h' N hi ei c0 H ⟨e0,e3,rfl⟩
  obtain⟨cs,Uq1,hU⟩:=Ks hR hi
  have hmu:Az l[i]<=sumL Az l:=B8 (f:=Az) (Zag hi)
  have i3:iadG 7 (.sl n 0 l.length) (some i)=some (atz 7 (.sl n 0 l.length) i):=by simp[iadG,hi,atz]
  simp +contextual (disch:=omega) only[go_sem,c0,e0,e3,ei,A1,hR.len,Uq1]
  obtain⟨_,N2,R2,_,ds,rfl,K2⟩:=A0s N cs l[i] (Bq.pre hU H.sub) (by omega)
  refine by_c H R2 K2 fun H2=> ?_
  simp +contextual (disch:=omega) only[go_sem,i3,A1]
  refine A4s (d:=Bq) H2 0 0 rfl rfl (by decide) (by rw[Za9,Zas,Zbf];omega) fun N3 H3=> ?_
  simp +contextual (disch:=omega) only[go_sem,ei]
  exact hJ _ _ _ _ H3 ⟨by simp +contextual (disch:=omega) only[go_sem,e0],by simp +contextual (disch:=omega) only[go_sem,e3],by rw[Va hi];rfl⟩
 ·clear H H1
  rintro Yq hY env h' N ei c0 H ⟨e0,e3,rfl⟩
  simp +contextual (disch:=omega) only[go_sem,c0,e0,ei,hR.len]
  exact hY _ _ _ H ⟨e3,by simp⟩
 ·clear H H1
  rintro env h' N H ⟨e3,rfl⟩
  simp +contextual (disch:=omega) only[go_sem,e3]
  exact fun _=>⟨_,rfl,H.hp⟩
def A6x:Fn1:=⟨15,[.t 4],(rg [oX 2 0,oX 3 1,oV 4 kf] (.seq (rg [oF 5 0 2,oL 6 5,oF 7 0 3,oL 8 7,oB 9 .neq 6 8] (oG 9 (oR 4 kf))) (.seq (rg [oF 10 1 2,oL 11 10,oF 12 1 3,oL 13 12,oB 14 .neq 11 13] (oG 14 (oR 4 kf))) (oR 4 kt))))⟩
theorem Ae3:A2 Tryz.prog 297=some A6x:=by kernel_rfl
theorem Dz (U:St) (x y:Dot):Ret Tryz.prog 297 [.agg [.int .i64 x.rep,.int .i64 x.seq],.agg [.int .i64 y.rep,.int .i64 y.seq]] U (.bool (decide (x=y))) U:=by
 refine Ac Ae3 (Z0z rfl) trivial ?_
 simp +contextual (disch:=omega) only[go_sem,A6x,Zaa]
 refine⟨fun hn=> ?_,fun hn=> ?_⟩
 ·simp only[Dot.eq_iff];simp at hn ⊢;simp[hn]
 have q0:x.rep=y.rep:=by simpa using hn
 refine⟨fun hn=> ?_,fun hn=> ?_⟩
 ·simp only[Dot.eq_iff];simp at hn ⊢;simp[hn]
 have q1:x.seq=y.seq:=by simpa using hn
 simp only[Dot.eq_iff,q0,q1,and_self,decide_true]
def A28:Fn1:=⟨37,[.t 4],(rg [oX 2 0,oX 3 1,oV 4 kf] (.seq (rg [oF 5 0 2,oL 6 5,oF 7 0 3,oL 8 7,oB 9 .neq 6 8] (oG 9 (oR 4 kf))) (.seq (rg [oF 10 1 2,oW 11 2 10,oF 12 1 3,oW 13 2 12,oD 14 297 11 13,oU 15 14] (oG 15 (oR 4 kf))) (.seq (rg [oF 16 3 2,oL 17 16,oF 18 3 3,oL 19 18,oB 20 .neq 17 19] (oG 20 (oR 4 kf))) (.seq (rg [oF 21 4 2,oW 22 2 21,oF 23 4 3,oW 24 2 23,oD 25 297 22 24,oU 26 25] (oG 26 (oR 4 kf))) (.seq (rg [oF 27 6 2,oL 28 27,oF 29 6 3,oL 30 29,oB 31 .neq 28 30] (oG 31 (oR 4 kf))) (.seq (rg [oF 32 7 2,oL 33 32,oF 34 7 3,oL 35 34,o 36 (.eqb true (.t 33) (.t 35))] (oG 36 (oR 4 kf))) (oR 4 kt))))))))⟩
theorem Aam:A2 Tryz.prog 296=some A28:=by kernel_rfl
theorem A6y (U:St) (x y:Cell):Ret Tryz.prog 296 [.agg [.str x.obj,.int .i64 x.dot.rep,.int .i64 x.dot.seq,.int .i64 x.time,.int .i64 x.ref.rep,.int .i64 x.ref.seq,.int .i64 x.val,.bool x.gone],.agg [.str y.obj,.int .i64 y.dot.rep,.int .i64 y.dot.seq,.int .i64 y.time,.int .i64 y.ref.rep,.int .i64 y.ref.seq,.int .i64 y.val,.bool y.gone]] U (.bool (decide (x=y))) U:=by
 refine Ac Aam (Z0z rfl) trivial ?_
 simp +contextual (disch:=omega) only[go_sem,A28,Zaa]
 refine⟨fun hn=> ?_,fun hn=> ?_⟩
 ·simp only[Cell.eq_iff];simp at hn ⊢;simp[hn]
 have q0:x.obj=y.obj:=by simpa using hn
 refine A5 (Dz _ x.dot y.dot) ?_
 simp +contextual (disch:=omega) only[go_sem,Zaa]
 refine⟨fun hn=> ?_,fun hn=> ?_⟩
 ·simp only[Cell.eq_iff];simp at hn ⊢;simp[hn]
 have q1:x.dot=y.dot:=by simpa using hn
 refine⟨fun hn=> ?_,fun hn=> ?_⟩
 ·simp only[Cell.eq_iff];simp at hn ⊢;simp[hn]
 have q2:x.time=y.time:=by simpa using hn
 refine A5 (Dz _ x.ref y.ref) ?_
 simp +contextual (disch:=omega) only[go_sem,Zaa]
 refine⟨fun hn=> ?_,fun hn=> ?_⟩
 ·simp only[Cell.eq_iff];simp at hn ⊢;simp[hn]
 have q3:x.ref=y.ref:=by simpa using hn
 refine⟨fun hn=> ?_,fun hn=> ?_⟩
 ·simp only[Cell.eq_iff];simp at hn ⊢;simp[hn]
 have q4:x.val=y.val:=by simpa using hn
 refine⟨fun hn=> ?_,fun hn=> ?_⟩
 ·simp only[Cell.eq_iff];simp at hn ⊢;simp[hn]
 have q5:x.gone=y.gone:=by simpa using hn
 simp only[Cell.eq_iff,q0,q1,q2,q3,q4,q5,and_self,decide_true]
def Vd:Fn1:=⟨27,[.t 4],(rg [oV 4 kf] (.seq (rg [oM 6 0,oN 7 6,oM 8 1,oN 9 8,oB 10 .neq 7 9] (oG 10 (oR 4 kf))) (.seq (rg [oV 5 (ki 0)] (oH 0 (.seq (rg [oM 11 5,oM 12 0,oN 13 12,oB 14 .lss 11 13] (oJ 14 0)) (.seq (.blk 1 (dw [oM 17 0,oM 18 5,oI 19 8 17 18,oW 20 8 19,oM 21 1,oM 22 5,oI 23 8 21 22,oW 24 8 23] [oD 25 296 20 24,oU 26 25] (oG 26 (oR 4 kf)))) (.reg [oM 15 5,oZ 16 15 1,oM 5 16]))))) (oR 4 kt))))⟩
theorem A6z:A2 Tryz.prog 232=some Vd:=by kernel_rfl
theorem Mw (U:St) (v u:GV) (l m:List Cell) (hv:RS Al.kd U v l) (hu:RS Al.kd U u m) (hl:(l.length+sumL Cj l)<=1099511627776):Ret Tryz.prog 232 [v,u] U (.bool (decide (l=m))) U:=by
 refine Ac A6z (Z0z rfl) trivial ?_
 simp +contextual (disch:=omega) only[go_sem,Vd,hv.len,hu.len]
 refine⟨fun hn=> ?_,fun hn=> ?_⟩
 ·have:l≠m:=fun h=>by subst h;simp at hn
  simp[this]
 have hlm:l.length=m.length:=by
                    have h2:(l.length:Int)=m.length:=by simpa using hn
                    omega
 refine Ay l.length 5 (fun i env N=>env 0=v/\env 1=u/\l.take i=m.take i/\U <+: N) rfl ⟨rfl,rfl,rfl,Zaf _⟩ ?_ ?_
 ·rintro i env N hi e5 c0 ⟨e0,e1,he,hp⟩
  have hj:i<m.length:=by omega
  have h1:=hv.pre hp
  have h2:=hu.pre hp
  have hne:l[i]≠m[i]->l≠m:=fun h h'=>h (by subst h';rfl)
  have hst:l[i]=m[i]->l.take (i+1)=m.take (i+1):=fun h=>by rw[Ai hi,Ai hj,he,h]
  have hms:Cj l[i]<=sumL Cj l:=B8 (Zag hi)
  simp +contextual (disch:=omega) only[go_sem,c0,e0,e1,e5,hv.len,hu.len,A6 h1 hi,A6 h2 hj]
  refine A5 (A6y N l[i] m[i]) ?_
  simp +contextual (disch:=omega) only[go_sem,e0,e1,e5,hp]
  refine⟨fun h=> ?_,fun h=> ?_⟩
  ·simp[hne (by simpa using h)]
  ·simpa using hst (by simpa using h)
 ·rintro env N e5 c0 ⟨e0,e1,he,hp⟩
  rw[Zab,hlm,Zab] at he
  simp +contextual (disch:=omega) only[go_sem,c0,e0,e1,e5,hv.len,hu.len,hp]
  simp[he]
def A2a:Fn1:=⟨31,[.t 4],(rg [oX 2 0,oX 3 1,oV 4 kf] (.seq (rg [oF 5 0 2,oL 6 5,oF 7 0 3,oL 8 7,o 9 (.eqb true (.t 6) (.t 8))] (oG 9 (oR 4 kf))) (.seq (rg [oF 10 1 2,oL 11 10,oF 12 1 3,oL 13 12,oB 14 .neq 11 13] (oG 14 (oR 4 kf))) (.seq (rg [oF 15 2 2,oL 16 15,oF 17 2 3,oL 18 17,oB 19 .neq 16 18] (oG 19 (oR 4 kf))) (.seq (rg [oF 20 3 2,oL 21 20,oF 22 3 3,oL 23 22,oB 24 .neq 21 23] (oG 24 (oR 4 kf))) (.seq (rg [oF 25 4 2,oW 26 2 25,oF 27 4 3,oW 28 2 27,oD 29 297 26 28,oU 30 29] (oG 30 (oR 4 kf))) (oR 4 kt)))))))⟩
theorem Aan:A2 Tryz.prog 295=some A2a:=by kernel_rfl
theorem A70 (U:St) (x y:Live):Ret Tryz.prog 295 [.agg [.bool x.map,.str x.obj,.str x.key,.int .i64 x.val,.int .i64 x.dot.rep,.int .i64 x.dot.seq],.agg [.bool y.map,.str y.obj,.str y.key,.int .i64 y.val,.int .i64 y.dot.rep,.int .i64 y.dot.seq]] U (.bool (decide (x=y))) U:=by
 refine Ac Aan (Z0z rfl) trivial ?_
 simp +contextual (disch:=omega) only[go_sem,A2a,Zaa]
 refine⟨fun hn=> ?_,fun hn=> ?_⟩
 ·simp only[Live.eq_iff];simp at hn ⊢;simp[hn]
 have q0:x.map=y.map:=by simpa using hn
 refine⟨fun hn=> ?_,fun hn=> ?_⟩
 ·simp only[Live.eq_iff];simp at hn ⊢;simp[hn]
 have q1:x.obj=y.obj:=by simpa using hn
 refine⟨fun hn=> ?_,fun hn=> ?_⟩
 ·simp only[Live.eq_iff];simp at hn ⊢;simp[hn]
 have q2:x.key=y.key:=by simpa using hn
 refine⟨fun hn=> ?_,fun hn=> ?_⟩
 ·simp only[Live.eq_iff];simp at hn ⊢;simp[hn]
 have q3:x.val=y.val:=by simpa using hn
 refine A5 (Dz _ x.dot y.dot) ?_
 simp +contextual (disch:=omega) only[go_sem,Zaa]
 refine⟨fun hn=> ?_,fun hn=> ?_⟩
 ·simp only[Live.eq_iff];simp at hn ⊢;simp[hn]
 have q4:x.dot=y.dot:=by simpa using hn
 simp only[Live.eq_iff,q0,q1,q2,q3,q4,and_self,decide_true]
def Vf:Fn1:=⟨27,[.t 4],(rg [oV 4 kf] (.seq (rg [oM 6 0,oN 7 6,oM 8 1,oN 9 8,oB 10 .neq 7 9] (oG 10 (oR 4 kf))) (.seq (rg [oV 5 (ki 0)] (oH 0 (.seq (rg [oM 11 5,oM 12 0,oN 13 12,oB 14 .lss 11 13] (oJ 14 0)) (.seq (.blk 1 (dw [oM 17 0,oM 18 5,oI 19 6 17 18,oW 20 6 19,oM 21 1,oM 22 5,oI 23 6 21 22,oW 24 6 23] [oD 25 295 20 24,oU 26 25] (oG 26 (oR 4 kf)))) (.reg [oM 15 5,oZ 16 15 1,oM 5 16]))))) (oR 4 kt))))⟩
theorem A71:A2 Tryz.prog 231=some Vf:=by kernel_rfl
theorem Mx (U:St) (v u:GV) (l m:List Live) (hv:RS Dh.kd U v l) (hu:RS Dh.kd U u m) (hl:(l.length+sumL Bl l)<=1099511627776):Ret Tryz.prog 231 [v,u] U (.bool (decide (l=m))) U:=by
 refine Ac A71 (Z0z rfl) trivial ?_
 simp +contextual (disch:=omega) only[go_sem,Vf,hv.len,hu.len]
 refine⟨fun hn=> ?_,fun hn=> ?_⟩
 ·have:l≠m:=fun h=>by subst h;simp at hn
  simp[this]
 have hlm:l.length=m.length:=by
                    have h2:(l.length:Int)=m.length:=by simpa using hn
                    omega
 refine Ay l.length 5 (fun i env N=>env 0=v/\env 1=u/\l.take i=m.take i/\U <+: N) rfl ⟨rfl,rfl,rfl,Zaf _⟩ ?_ ?_
 ·rintro i env N hi e5 c0 ⟨e0,e1,he,hp⟩
  have hj:i<m.length:=by omega
  have h1:=hv.pre hp
  have h2:=hu.pre hp
  have hne:l[i]≠m[i]->l≠m:=fun h h'=>h (by subst h';rfl)
  have hst:l[i]=m[i]->l.take (i+1)=m.take (i+1):=fun h=>by rw[Ai hi,Ai hj,he,h]
  have hms:Bl l[i]<=sumL Bl l:=B8 (Zag hi)
  simp +contextual (disch:=omega) only[go_sem,c0,e0,e1,e5,hv.len,hu.len,A3 h1 hi,A3 h2 hj]
  refine A5 (A70 N l[i] m[i]) ?_
  simp +contextual (disch:=omega) only[go_sem,e0,e1,e5,hp]
  refine⟨fun h=> ?_,fun h=> ?_⟩
  ·simp[hne (by simpa using h)]
  ·simpa using hst (by simpa using h)
 ·rintro env N e5 c0 ⟨e0,e1,he,hp⟩
  rw[Zab,hlm,Zab] at he
  simp +contextual (disch:=omega) only[go_sem,c0,e0,e1,e5,hv.len,hu.len,hp]
  simp[he]
def Vh:Fn1:=⟨20,[.t 4],(rg [oX 2 0,oX 3 1,oV 4 kf] (.seq (rg [oF 5 0 2,oL 6 5,oF 7 0 3,oL 8 7,oB 9 .neq 6 8] (oG 9 (oR 4 kf))) (.seq (rg [oF 10 1 2,oL 11 10,oF 12 1 3,oL 13 12,oB 14 .neq 11 13] (oG 14 (oR 4 kf))) (.seq (rg [oF 15 2 2,oL 16 15,oF 17 2 3,oL 18 17,oB 19 .neq 16 18] (oG 19 (oR 4 kf))) (oR 4 kt)))))⟩
theorem A72:A2 Tryz.prog 294=some Vh:=by kernel_rfl
theorem A4t (U:St) (x y:Tally):Ret Tryz.prog 294 [.agg [.str x.obj,.int .i64 x.rep,.int .i64 x.sum],.agg [.str y.obj,.int .i64 y.rep,.int .i64 y.sum]] U (.bool (decide (x=y))) U:=by
 refine Ac A72 (Z0z rfl) trivial ?_
 simp +contextual (disch:=omega) only[go_sem,Vh,Zaa]
 refine⟨fun hn=> ?_,fun hn=> ?_⟩
 ·simp only[Tally.eq_iff];simp at hn ⊢;simp[hn]
 have q0:x.obj=y.obj:=by simpa using hn
 refine⟨fun hn=> ?_,fun hn=> ?_⟩
 ·simp only[Tally.eq_iff];simp at hn ⊢;simp[hn]
 have q1:x.rep=y.rep:=by simpa using hn
 refine⟨fun hn=> ?_,fun hn=> ?_⟩
 ·simp only[Tally.eq_iff];simp at hn ⊢;simp[hn]
 have q2:x.sum=y.sum:=by simpa using hn
 simp only[Tally.eq_iff,q0,q1,q2,and_self,decide_true]
def Rl:Fn1:=⟨27,[.t 4],(rg [oV 4 kf] (.seq (rg [oM 6 0,oN 7 6,oM 8 1,oN 9 8,oB 10 .neq 7 9] (oG 10 (oR 4 kf))) (.seq (rg [oV 5 (ki 0)] (oH 0 (.seq (rg [oM 11 5,oM 12 0,oN 13 12,oB 14 .lss 11 13] (oJ 14 0)) (.seq (.blk 1 (dw [oM 17 0,oM 18 5,oI 19 3 17 18,oW 20 3 19,oM 21 1,oM 22 5,oI 23 3 21 22,oW 24 3 23] [oD 25 294 20 24,oU 26 25] (oG 26 (oR 4 kf)))) (.reg [oM 15 5,oZ 16 15 1,oM 5 16]))))) (oR 4 kt))))⟩
theorem A4u:A2 Tryz.prog 230=some Rl:=by kernel_rfl
theorem Li (U:St) (v u:GV) (l m:List Tally) (hv:RS E7.kd U v l) (hu:RS E7.kd U u m) (hl:(l.length+sumL Av l)<=1099511627776):Ret Tryz.prog 230 [v,u] U (.bool (decide (l=m))) U:=by
 refine Ac A4u (Z0z rfl) trivial ?_
 simp +contextual (disch:=omega) only[go_sem,Rl,hv.len,hu.len]
 refine⟨fun hn=> ?_,fun hn=> ?_⟩
 ·have:l≠m:=fun h=>by subst h;simp at hn
  simp[this]
 have hlm:l.length=m.length:=by
                    have h2:(l.length:Int)=m.length:=by simpa using hn
                    omega
 refine Ay l.length 5 (fun i env N=>env 0=v/\env 1=u/\l.take i=m.take i/\U <+: N) rfl ⟨rfl,rfl,rfl,Zaf _⟩ ?_ ?_
 ·rintro i env N hi e5 c0 ⟨e0,e1,he,hp⟩
  have hj:i<m.length:=by omega
  have h1:=hv.pre hp
  have h2:=hu.pre hp
  have hne:l[i]≠m[i]->l≠m:=fun h h'=>h (by subst h';rfl)
  have hst:l[i]=m[i]->l.take (i+1)=m.take (i+1):=fun h=>by rw[Ai hi,Ai hj,he,h]
  have hms:Av l[i]<=sumL Av l:=B8 (Zag hi)
  simp +contextual (disch:=omega) only[go_sem,c0,e0,e1,e5,hv.len,hu.len,Aa h1 hi,Aa h2 hj]
  refine A5 (A4t N l[i] m[i]) ?_
  simp +contextual (disch:=omega) only[go_sem,e0,e1,e5,hp]
  refine⟨fun h=> ?_,fun h=> ?_⟩
  ·simp[hne (by simpa using h)]
  ·simpa using hst (by simpa using h)
 ·rintro env N e5 c0 ⟨e0,e1,he,hp⟩
  rw[Zab,hlm,Zab] at he
  simp +contextual (disch:=omega) only[go_sem,c0,e0,e1,e5,hv.len,hu.len,hp]
  simp[he]
def Vj:Fn1:=⟨29,[.t 4],(rg [oX 2 0,oX 3 1,oV 4 kf] (.seq (rg [oF 5 0 2,oL 6 5,oF 7 0 3,oL 8 7,oD 9 30 6 8,oU 10 9] (oG 10 (oR 4 kf))) (.seq (rg [oF 11 1 2,oL 12 11,oF 13 1 3,oL 14 13,oD 15 230 12 14,oU 16 15] (oG 16 (oR 4 kf))) (.seq (rg [oF 17 2 2,oL 18 17,oF 19 2 3,oL 20 19,oD 21 231 18 20,oU 22 21] (oG 22 (oR 4 kf))) (.seq (rg [oF 23 3 2,oL 24 23,oF 25 3 3,oL 26 25,oD 27 232 24 26,oU 28 27] (oG 28 (oR 4 kf))) (oR 4 kt))))))⟩
theorem A73:A2 Tryz.prog 152=some Vj:=by kernel_rfl
theorem My (U:St) (cs ds:List GV) (x y:State) (hx:Ab.R U x cs) (hy:Ab.R U y ds) (hl:A7 x<=1099511627776):Ret Tryz.prog 152 [.agg cs,.agg ds] U (.bool (decide (x=y))) U:=by
 obtain⟨v0,v1,v2,v3,rfl,q0_,q1_,q2_,q3_⟩:=hx
 obtain⟨u0,u1,u2,u3,rfl,p0_,p1_,p2_,p3_⟩:=hy
 unfold A7 at hl
 refine Ac A73 (Z0z rfl) trivial ?_
 simp +contextual (disch:=omega) only[go_sem,Vj,Zaa]
 refine A5 (Cw _ v0 u0 x.know y.know (q0_.pre pre2) (p0_.pre pre2) (by omega)) ?_
 simp +contextual (disch:=omega) only[go_sem,Zaa]
 refine⟨fun hn=> ?_,fun hn=> ?_⟩
 ·simp only[State.eq_iff];simp at hn ⊢;simp[hn]
 have q0:x.know=y.know:=by simpa using hn
 refine A5 (Li _ v1 u1 x.tallies y.tallies (q1_.pre pre2) (p1_.pre pre2) (by omega)) ?_
 simp +contextual (disch:=omega) only[go_sem,Zaa]
 refine⟨fun hn=> ?_,fun hn=> ?_⟩
 ·simp only[State.eq_iff];simp at hn ⊢;simp[hn]
 have q1:x.tallies=y.tallies:=by simpa using hn
 refine A5 (Mx _ v2 u2 x.lives y.lives (q2_.pre pre2) (p2_.pre pre2) (by omega)) ?_
 simp +contextual (disch:=omega) only[go_sem,Zaa]
 refine⟨fun hn=> ?_,fun hn=> ?_⟩
 ·simp only[State.eq_iff];simp at hn ⊢;simp[hn]
 have q2:x.lives=y.lives:=by simpa using hn
 refine A5 (Mw _ v3 u3 x.cells y.cells (q3_.pre pre2) (p3_.pre pre2) (by omega)) ?_
 simp +contextual (disch:=omega) only[go_sem,Zaa]
 refine⟨fun hn=> ?_,fun hn=> ?_⟩
 ·simp only[State.eq_iff];simp at hn ⊢;simp[hn]
 have q3:x.cells=y.cells:=by simpa using hn
 simp only[State.eq_iff,q0,q1,q2,q3,and_self,decide_true]
def Rm:Fn1:=⟨23,[.t 4],(rg [oX 2 0,oX 3 1,oV 4 kf] (.seq (rg [oF 5 0 2,oW 6 2 5,oF 7 0 3,oW 8 2 7,oD 9 297 6 8,oU 10 9] (oG 10 (oR 4 kf))) (.seq (rg [oF 11 2 2,oL 12 11,oF 13 2 3,oL 14 13,oD 15 30 12 14,oU 16 15] (oG 16 (oR 4 kf))) (.seq (rg [oF 17 3 2,oW 18 4 17,oF 19 3 3,oW 20 4 19,oD 21 152 18 20,oU 22 21] (oG 22 (oR 4 kf))) (oR 4 kt)))))⟩
theorem A4v:A2 Tryz.prog 233=some Rm:=by kernel_rfl
theorem A0u (U:St) (cs ds:List GV) (x y:Commit) (hx:Bq.R U x cs) (hy:Bq.R U y ds) (hl:Az x<=1099511627776):Ret Tryz.prog 233 [.agg cs,.agg ds] U (.bool (decide (x=y))) U:=by
 obtain⟨v1,v2,rfl,q1_,q2_⟩:=hx
 obtain⟨u1,u2,rfl,p1_,p2_⟩:=hy
 unfold Az at hl
 have a2:=q2_
 have b2:=p2_
 obtain⟨d0,d1,d2,d3,rfl,_⟩:=q2_
 obtain⟨e0,e1,e2,e3,rfl,_⟩:=p2_
 suffices key:Ret Tryz.prog 233 [.agg [.int .i64 x.id.rep,.int .i64 x.id.seq,v1,d0,d1,d2,d3],.agg [.int .i64 y.id.rep,.int .i64 y.id.seq,u1,e0,e1,e2,e3]] U (.bool (decide (x=y))) U from key
 refine Ac A4v (Z0z rfl) trivial ?_
 simp +contextual (disch:=omega) only[go_sem,Rm,Zaa]
 refine A5 (Dz _ x.id y.id) ?_
 simp +contextual (disch:=omega) only[go_sem,Zaa]
 refine⟨fun hn=> ?_,fun hn=> ?_⟩
 ·simp only[Commit.eq_iff];simp at hn ⊢;simp[hn]
 have q0:x.id=y.id:=by simpa using hn
 refine A5 (Cw _ v1 u1 x.ups y.ups (q1_.pre pre2) (p1_.pre pre2) (by omega)) ?_
 simp +contextual (disch:=omega) only[go_sem,Zaa]
 refine⟨fun hn=> ?_,fun hn=> ?_⟩
 ·simp only[Commit.eq_iff];simp at hn ⊢;simp[hn]
 have q1:x.ups=y.ups:=by simpa using hn
 refine A5 (My _ _ _ x.state y.state (Ab.pre a2 pre2) (Ab.pre b2 pre2) (by omega)) ?_
 simp +contextual (disch:=omega) only[go_sem,Zaa]
 refine⟨fun hn=> ?_,fun hn=> ?_⟩
 ·simp only[Commit.eq_iff];simp at hn ⊢;simp[hn]
 have q2:x.state=y.state:=by simpa using hn
 simp only[Commit.eq_iff,q0,q1,q2,and_self,decide_true]
def O0:Fn1:=⟨27,[.t 4],(rg [oV 4 kf] (.seq (rg [oM 6 0,oN 7 6,oM 8 1,oN 9 8,oB 10 .neq 7 9] (oG 10 (oR 4 kf))) (.seq (rg [oV 5 (ki 0)] (oH 0 (.seq (rg [oM 11 5,oM 12 0,oN 13 12,oB 14 .lss 11 13] (oJ 14 0)) (.seq (.blk 1 (dw [oM 17 0,oM 18 5,oI 19 7 17 18,oW 20 7 19,oM 21 1,oM 22 5,oI 23 7 21 22,oW 24 7 23] [oD 25 233 20 24,oU 26 25] (oG 26 (oR 4 kf)))) (.reg [oM 15 5,oZ 16 15 1,oM 5 16]))))) (oR 4 kt))))⟩
theorem A0v:A2 Tryz.prog 153=some O0:=by kernel_rfl
theorem Vk (U:St) (v u:GV) (l m:List Commit) (hv:RS Bq U v l) (hu:RS Bq U u m) (hl:(l.length+sumL Az l)<=1099511627776):Ret Tryz.prog 153 [v,u] U (.bool (decide (l=m))) U:=by
 refine Ac A0v (Z0z rfl) trivial ?_
 simp +contextual (disch:=omega) only[go_sem,O0,hv.len,hu.len]
 refine⟨fun hn=> ?_,fun hn=> ?_⟩
 ·have:l≠m:=fun h=>by subst h;simp at hn
  simp[this]
 have hlm:l.length=m.length:=by
                    have h2:(l.length:Int)=m.length:=by simpa using hn
                    omega
 refine Ay l.length 5 (fun i env N=>env 0=v/\env 1=u/\l.take i=m.take i/\U <+: N) rfl ⟨rfl,rfl,rfl,Zaf _⟩ ?_ ?_
 ·rintro i env N hi e5 c0 ⟨e0,e1,he,hp⟩
  have hj:i<m.length:=by omega
  have h1:=hv.pre hp
  have h2:=hu.pre hp
  have hne:l[i]≠m[i]->l≠m:=fun h h'=>h (by subst h';rfl)
  have hst:l[i]=m[i]->l.take (i+1)=m.take (i+1):=fun h=>by rw[Ai hi,Ai hj,he,h]
  have hms:Az l[i]<=sumL Az l:=B8 (Zag hi)
  obtain⟨c,hc,hcr⟩:=Ks h1 hi
  obtain⟨d,hd,hdr⟩:=Ks h2 hj
  simp +contextual (disch:=omega) only[go_sem,c0,e0,e1,e5,hv.len,hu.len,hc,hd]
  refine A5 (A0u N c d l[i] m[i] hcr hdr (by omega)) ?_
  simp +contextual (disch:=omega) only[go_sem,e0,e1,e5,hp]
  refine⟨fun h=> ?_,fun h=> ?_⟩
  ·simp[hne (by simpa using h)]
  ·simpa using hst (by simpa using h)
 ·rintro env N e5 c0 ⟨e0,e1,he,hp⟩
  rw[Zab,hlm,Zab] at he
  simp +contextual (disch:=omega) only[go_sem,c0,e0,e1,e5,hv.len,hu.len,hp]
  simp[he]
def Vm:Fn1:=⟨16,[.t 4],(rg [oX 2 0,oX 3 1,oV 4 kf] (.seq (rg [oF 5 0 2,oL 6 5,oF 7 0 3,oL 8 7,oD 9 153 6 8,oU 10 9] (oG 10 (oR 4 kf))) (.seq (rg [oF 11 1 2,oL 12 11,oF 13 1 3,oL 14 13,oB 15 .neq 12 14] (oG 15 (oR 4 kf))) (oR 4 kt))))⟩
theorem A74:A2 Tryz.prog 107=some Vm:=by kernel_rfl
theorem A4w (U:St) (cs ds:List GV) (x y:Graph) (hx:E8.R U x cs) (hy:E8.R U y ds) (hl:Cc x<=1099511627776):Ret Tryz.prog 107 [.agg cs,.agg ds] U (.bool (decide (x=y))) U:=by
 obtain⟨v0,rfl,q0_⟩:=hx
 obtain⟨u0,rfl,p0_⟩:=hy
 unfold Cc at hl
 refine Ac A74 (Z0z rfl) trivial ?_
 simp +contextual (disch:=omega) only[go_sem,Vm,Zaa]
 refine A5 (Vk _ v0 u0 x.commits y.commits (q0_.pre pre2) (p0_.pre pre2) (by omega)) ?_
 simp +contextual (disch:=omega) only[go_sem,Zaa]
 refine⟨fun hn=> ?_,fun hn=> ?_⟩
 ·simp only[Graph.eq_iff];simp at hn ⊢;simp[hn]
 have q0:x.commits=y.commits:=by simpa using hn
 refine⟨fun hn=> ?_,fun hn=> ?_⟩
 ·simp only[Graph.eq_iff];simp at hn ⊢;simp[hn]
 have q1:x.head=y.head:=by simpa using hn
 simp only[Graph.eq_iff,q0,q1,and_self,decide_true]
def A76:Fn1:=⟨32,[.c 2 true 10],(rg [oX 1 0,o 2 (.new [z0,z0,z0,.nilS,z0,s0,s0,z0,z0,z0])] (rg [o 3 (.new [z0,z0,z0,.nilS,z0,s0,s0,z0,z0,z0])] (rg [oF 4 0 1,oW 5 2 4,oC 6 292 5,oF 7 0 3,oS 2 7 6] (rg [oF 8 2 1,oL 9 8,oF 10 2 3,oS 1 10 9] (rg [oF 11 3 1,oL 12 11,oC 13 26 12,oF 14 3 3,oS 1 14 13] (rg [oF 15 4 1,oL 16 15,oF 17 4 3,oS 1 17 16] (rg [oF 18 5 1,oL 19 18,oF 20 5 3,oS 1 20 19] (rg [oF 21 6 1,oL 22 21,oF 23 6 3,oS 1 23 22] (rg [oF 24 7 1,oL 25 24,oF 26 7 3,oS 1 26 25] (rg [oF 27 8 1,oW 28 2 27,oC 29 292 28,oF 30 8 3,oS 2 30 29] (rg [oW 31 10 3,oS 10 2 31] .ret)))))))))))⟩
theorem Ae4:A2 Tryz.prog 228=some A76:=by kernel_rfl
theorem Aao (U:St) (cs:List GV) (x:Act) (hR:kAct.R U x cs) (hl:L7 x<=1099511627776):∃ r N,Ret Tryz.prog 228 [.agg cs] U r N/\U <+: N/\∃ ds,r= .agg ds/\Hp U N [own kAct ds x]:=by
 have hlen:=kAct.len hR
 have hlen:cs.length=10:=hlen
 obtain⟨v2,rfl,q2⟩:=hR
 unfold L7 at hl
 refine Q2 Ae4 (Z0z rfl) ?_
 simp +contextual (disch:=omega) only[go_sem,A76,Zaa]
 refine A5 (Dy _ x.dot) ?_
 simp +contextual (disch:=omega) only[go_sem,Zaa]
 have H:=(((Hp.refl U).new 1 ((GV.int .i64 x.dot.rep)::(GV.int .i64 x.dot.seq)::(GV.int .i64 x.time)::v2::(GV.int .i64 x.kind)::(GV.str x.obj)::(GV.str x.key)::(GV.int .i64 x.val)::(GV.int .i64 x.ref.rep)::(GV.int .i64 x.ref.seq)::[])).new 1 [(GV.int .i64 0),(GV.int .i64 0),(GV.int .i64 0),GV.nilS,(GV.int .i64 0),(GV.str ⟨#[]⟩),(GV.str ⟨#[]⟩),(GV.int .i64 0),(GV.int .i64 0),(GV.int .i64 0)]).new 1 [(GV.int .i64 x.dot.rep),(GV.int .i64 x.dot.seq),(GV.int .i64 x.time),GV.nilS,(GV.int .i64 0),(GV.str ⟨#[]⟩),(GV.str ⟨#[]⟩),(GV.int .i64 0),(GV.int .i64 0),(GV.int .i64 0)]
 obtain⟨r2,N2,R2,K2⟩:=Cx _ v2 x.knew (q2.pre H.sub) (by omega)
 refine Ez R2 K2 ?_
 have e2:=(K2.sl 0 rfl).cell
 have H:=H.add K2
 try simp only[go_sem] at H
 try simp +contextual (disch:=omega) only[go_sem,Zaa,A4 (H.pt 3 rfl),A4 (H.pt 1 rfl)]
 obtain⟨_,es,H,_⟩:=H.st 1 rfl 1 3 (r2) (by rw[e2];rfl) (by decide) (Z0z rfl)
 try simp only[go_sem,Zac,Zae,e2] at H
 try simp +contextual (disch:=omega) only[go_sem,Zaa,es,A4 (H.pt 3 rfl),A4 (H.pt 1 rfl)]
 try simp +contextual (disch:=omega) only[go_sem,Zaa,A4 (H.pt 3 rfl),A4 (H.pt 1 rfl)]
 obtain⟨_,es,H,_⟩:=H.st 1 rfl 1 4 (.int .i64 x.kind) (rfl) (by decide) (Z0z rfl)
 try simp only[go_sem,Zac,Zae] at H
 try simp +contextual (disch:=omega) only[go_sem,Zaa,es,A4 (H.pt 3 rfl),A4 (H.pt 1 rfl)]
 try simp +contextual (disch:=omega) only[go_sem,Zaa,A4 (H.pt 3 rfl),A4 (H.pt 1 rfl)]
 obtain⟨_,es,H,_⟩:=H.st 1 rfl 1 5 (.str x.obj) (rfl) (by decide) (Z0z rfl)
 try simp only[go_sem,Zac,Zae] at H
 try simp +contextual (disch:=omega) only[go_sem,Zaa,es,A4 (H.pt 3 rfl),A4 (H.pt 1 rfl)]
 try simp +contextual (disch:=omega) only[go_sem,Zaa,A4 (H.pt 3 rfl),A4 (H.pt 1 rfl)]
 obtain⟨_,es,H,_⟩:=H.st 1 rfl 1 6 (.str x.key) (rfl) (by decide) (Z0z rfl)
 try simp only[go_sem,Zac,Zae] at H
 try simp +contextual (disch:=omega) only[go_sem,Zaa,es,A4 (H.pt 3 rfl),A4 (H.pt 1 rfl)]
 try simp +contextual (disch:=omega) only[go_sem,Zaa,A4 (H.pt 3 rfl),A4 (H.pt 1 rfl)]
 obtain⟨_,es,H,_⟩:=H.st 1 rfl 1 7 (.int .i64 x.val) (rfl) (by decide) (Z0z rfl)
 try simp only[go_sem,Zac,Zae] at H
 try simp +contextual (disch:=omega) only[go_sem,Zaa,es,A4 (H.pt 3 rfl),A4 (H.pt 1 rfl)]
 refine A5 (Dy _ x.ref) ?_
 try simp +contextual (disch:=omega) only[go_sem,Zaa,A4 (H.pt 3 rfl),A4 (H.pt 1 rfl)]
 obtain⟨_,es,H,_⟩:=H.st 1 rfl 2 8 (.agg [.int .i64 x.ref.rep,.int .i64 x.ref.seq]) (rfl) (by decide) (Z0z rfl)
 try simp only[go_sem,Zac,Zae] at H
 try simp +contextual (disch:=omega) only[go_sem,Zaa,es,A4 (H.pt 3 rfl),A4 (H.pt 1 rfl)]
 obtain⟨_,es,H,_⟩:=H.st 2 rfl 10 0 (.agg ((GV.int .i64 x.dot.rep)::(GV.int .i64 x.dot.seq)::(GV.int .i64 x.time)::r2::(GV.int .i64 x.kind)::(GV.str x.obj)::(GV.str x.key)::(GV.int .i64 x.val)::(GV.int .i64 x.ref.rep)::(GV.int .i64 x.ref.seq)::[])) (rfl) (by decide) (Z0z rfl)
 try simp only[go_sem,Zac,Zae] at H
 try simp +contextual (disch:=omega) only[go_sem,Zaa,es,A4 (H.pt 2 rfl)]
 have h0:=H.sub
 have H:=H
 try simp only[Zal,Zar] at H
 exact⟨_,rfl,h0,_,rfl,H.ownAct.one⟩
def A2c:Fn1:=⟨23,[.t 2],(rg [o 2 (.mov (.k .nilS))] (rg [oM 5 0,oN 6 5,o 7 (.mks 2 16 [z0,z0] (.t 6) (.t 6)),oM 3 7] (.seq (rg [oV 4 (ki 0)] (oH 0 (.seq (rg [oM 8 4,oM 9 0,oN 10 9,oB 11 .lss 8 10] (oJ 11 0)) (.seq (.blk 1 (.reg [oM 14 3,oM 15 4,oM 16 0,oM 17 4,oI 18 2 16 17,oW 19 2 18,oC 20 292 19,oI 21 2 14 15,oS 2 21 20])) (.reg [oM 12 4,oZ 13 12 1,oM 4 13]))))) (rg [oM 22 3,oM 2 22] .ret))))⟩
theorem Aap:A2 Tryz.prog 293=some A2c:=by kernel_rfl
theorem A77 (U:St) (v:GV) (l:List Dot) (hR:RS pDot.kd U v l) (hl:l.length<=1099511627776):∃ r N,Ret Tryz.prog 293 [v] U r N/\Hp U N [ow pDot.kd r l]:=by
 refine A1s (rs:=fun r=>[ow pDot.kd r l]) Aap (Z0z rfl) ?_
 have hmk:∀ ze,mksG 2 16 ze U (some l.length) (some l.length)=some (.sl U.length 0 l.length,U++[some (.row 2 (reps l.length ze))]):=fun ze=>A1r (by omega)
 simp +contextual (disch:=omega) only[go_sem,A2c,hR.len,hmk]
 have H0:=((Hp.refl U).new 2 (reps l.length (pDot.enc ⟨0,0⟩))).toRow 0 (p:=pDot) rfl (Zad l.length ⟨0,0⟩) rfl (Ko _ _ _) l.length (by simp)
 refine Ay l.length 4 (fun i env N=>env 0=v/\env 3= .sl U.length 0 l.length/\Hp U N [ow pDot.kd (.sl U.length 0 l.length) (l.take i++Zad (l.length - i) ⟨0,0⟩)]) rfl ⟨rfl,rfl,by rw[Zax,Zap,Za8];exact H0⟩ ?_ ?_
 ·rintro i env N hi e4 c0 ⟨e0,e3,H⟩
  have h1:=hR.pre H.sub
  have h2:=H.sl 0 rfl
  have hj:=Kp (z:=(⟨0,0⟩:Dot)) hi
  simp +contextual (disch:=omega) only[go_sem,e0,e3,e4,c0,hR.len,Tq h1 hi]
  refine A5 (Dy N l[i]) ?_
  obtain⟨N',es,H'⟩:=H.stw 0 rfl hj 2 (.agg [.int .i64 l[i].rep,.int .i64 l[i].seq]) l[i] rfl rfl (by decide)
  rw[I4 hi] at H'
  have es:stG 2 N (atz 2 (.sl U.length 0 l.length) i) (.agg [.int .i64 l[i].rep,.int .i64 l[i].seq])=some (.tup [],N'):=es
  simp +contextual (disch:=omega) only[go_sem,e0,e3,e4,c0,hR.len,Tq h1 hi,Tq h2 hj,es]
  exact H'
 ·rintro env N e4 c0 ⟨e0,e3,H⟩
  rw[Kq] at H
  simp +contextual (disch:=omega) only[go_sem,e0,e3,e4,c0,hR.len]
  exact⟨_,rfl,H⟩
def Vo:Fn1:=⟨29,[.c 2 true 6],(rg [oX 1 0,o 2 (.new [.nilS,.nilS,.nilS,.nilS,.nilS,.nilS])] (rg [o 3 (.new [.nilS,.nilS,.nilS,.nilS,.nilS,.nilS])] (rg [oF 4 0 1,oL 5 4,oC 6 26 5,oF 7 0 3,oS 1 7 6] (rg [oF 8 1 1,oL 9 8,oC 10 26 9,oF 11 1 3,oS 1 11 10] (rg [oF 12 2 1,oL 13 12,oC 14 224 13,oF 15 2 3,oS 1 15 14] (rg [oF 16 3 1,oL 17 16,oC 18 225 17,oF 19 3 3,oS 1 19 18] (rg [oF 20 4 1,oL 21 20,oC 22 293 21,oF 23 4 3,oS 1 23 22] (rg [oF 24 5 1,oL 25 24,oC 26 226 25,oF 27 5 3,oS 1 27 26] (rg [oW 28 6 3,oS 6 2 28] .ret)))))))))⟩
theorem A78:A2 Tryz.prog 229=some Vo:=by kernel_rfl
theorem A4x (U:St) (cs:List GV) (x:Delta) (hR:Dr.R U x cs) (hl:Cv x<=1099511627776):∃ r N,Ret Tryz.prog 229 [.agg cs] U r N/\U <+: N/\∃ ds,r= .agg ds/\Hp U N [own Dr ds x]:=by
 have hlen:=Dr.len hR
 have hlen:cs.length=6:=hlen
 obtain⟨v0,v1,v2,v3,v4,v5,rfl,q0,q1,q2,q3,q4,q5⟩:=hR
 unfold Cv at hl
 refine Q2 A78 (Z0z rfl) ?_
 simp +contextual (disch:=omega) only[go_sem,Vo,Zaa]
 have H:=(((Hp.refl U).new 1 (v0::v1::v2::v3::v4::v5::[])).new 1 [GV.nilS,GV.nilS,GV.nilS,GV.nilS,GV.nilS,GV.nilS]).new 1 [GV.nilS,GV.nilS,GV.nilS,GV.nilS,GV.nilS,GV.nilS]
 obtain⟨r0,N0,R0,K0⟩:=Cx _ v0 x.base (q0.pre H.sub) (by omega)
 refine Ez R0 K0 ?_
 have e0:=(K0.sl 0 rfl).cell
 have H:=H.add K0
 try simp only[go_sem] at H
 try simp +contextual (disch:=omega) only[go_sem,Zaa,A4 (H.pt 3 rfl),A4 (H.pt 1 rfl)]
 obtain⟨_,es,H,_⟩:=H.st 1 rfl 1 0 (r0) (by rw[e0];rfl) (by decide) (Z0z rfl)
 try simp only[go_sem,Zac,Zae,e0] at H
 try simp +contextual (disch:=omega) only[go_sem,Zaa,es,A4 (H.pt 3 rfl),A4 (H.pt 1 rfl)]
 obtain⟨r1,N1,R1,K1⟩:=Cx _ v1 x.know (q1.pre H.sub) (by omega)
 refine Ez R1 K1 ?_
 have e1:=(K1.sl 0 rfl).cell
 have H:=H.add K1
 try simp only[go_sem] at H
 try simp +contextual (disch:=omega) only[go_sem,Zaa,A4 (H.pt 4 rfl),A4 (H.pt 2 rfl)]
 obtain⟨_,es,H,_⟩:=H.st 2 rfl 1 1 (r1) (by rw[e1];rfl) (by decide) (Z0z rfl)
 try simp only[go_sem,Zac,Zae,e1] at H
 try simp +contextual (disch:=omega) only[go_sem,Zaa,es,A4 (H.pt 4 rfl),A4 (H.pt 2 rfl)]
 obtain⟨r2,N2,R2,K2⟩:=Lg _ v2 x.tallies (q2.pre H.sub) (by omega)
 refine Ez R2 K2 ?_
 have e2:=(K2.sl 0 rfl).cell
 have H:=H.add K2
 try simp only[go_sem] at H
 try simp +contextual (disch:=omega) only[go_sem,Zaa,A4 (H.pt 5 rfl),A4 (H.pt 3 rfl)]
 obtain⟨_,es,H,_⟩:=H.st 3 rfl 1 2 (r2) (by rw[e2];rfl) (by decide) (Z0z rfl)
 try simp only[go_sem,Zac,Zae,e2] at H
 try simp +contextual (disch:=omega) only[go_sem,Zaa,es,A4 (H.pt 5 rfl),A4 (H.pt 3 rfl)]
 obtain⟨r3,N3,R3,K3⟩:=Mq _ v3 x.lives (q3.pre H.sub) (by omega)
 refine Ez R3 K3 ?_
 have e3:=(K3.sl 0 rfl).cell
 have H:=H.add K3
 try simp only[go_sem] at H
 try simp +contextual (disch:=omega) only[go_sem,Zaa,A4 (H.pt 6 rfl),A4 (H.pt 4 rfl)]
 obtain⟨_,es,H,_⟩:=H.st 4 rfl 1 3 (r3) (by rw[e3];rfl) (by decide) (Z0z rfl)
 try simp only[go_sem,Zac,Zae,e3] at H
 try simp +contextual (disch:=omega) only[go_sem,Zaa,es,A4 (H.pt 6 rfl),A4 (H.pt 4 rfl)]
 obtain⟨r4,N4,R4,K4⟩:=A77 _ v4 x.dead (q4.pre H.sub) (by omega)
 refine Ez R4 K4 ?_
 have e4:=(K4.sl 0 rfl).cell
 have H:=H.add K4
 try simp only[go_sem] at H
 try simp +contextual (disch:=omega) only[go_sem,Zaa,A4 (H.pt 7 rfl),A4 (H.pt 5 rfl)]
 obtain⟨_,es,H,_⟩:=H.st 5 rfl 1 4 (r4) (by rw[e4];rfl) (by decide) (Z0z rfl)
 try simp only[go_sem,Zac,Zae,e4] at H
 try simp +contextual (disch:=omega) only[go_sem,Zaa,es,A4 (H.pt 7 rfl),A4 (H.pt 5 rfl)]
 obtain⟨r5,N5,R5,K5⟩:=Mp _ v5 x.cells (q5.pre H.sub) (by omega)
 refine Ez R5 K5 ?_
 have e5:=(K5.sl 0 rfl).cell
 have H:=H.add K5
 try simp only[go_sem] at H
 try simp +contextual (disch:=omega) only[go_sem,Zaa,A4 (H.pt 8 rfl),A4 (H.pt 6 rfl)]
 obtain⟨_,es,H,_⟩:=H.st 6 rfl 1 5 (r5) (by rw[e5];rfl) (by decide) (Z0z rfl)
 try simp only[go_sem,Zac,Zae,e5] at H
 try simp +contextual (disch:=omega) only[go_sem,Zaa,es,A4 (H.pt 8 rfl),A4 (H.pt 6 rfl)]
 obtain⟨_,es,H,_⟩:=H.st 7 rfl 6 0 (.agg (r0::r1::r2::r3::r4::r5::[])) (rfl) (by decide) (Z0z rfl)
 try simp only[go_sem,Zac,Zae] at H
 try simp +contextual (disch:=omega) only[go_sem,Zaa,es,A4 (H.pt 7 rfl)]
 have h0:=H.sub
 have H:=(((((H.pick 1 rfl).pick 2 rfl).pick 3 rfl).pick 4 rfl).pick 5 rfl)
 try simp only[Zal,Zar] at H
 exact⟨_,rfl,h0,_,rfl,H.ownDelta.one⟩
def A2d:Fn1:=⟨16,[.c 2 true 17],(rg [oX 1 0,o 2 (.new [(.bool false),z0,z0,z0,.nilS,z0,s0,s0,z0,z0,z0,.nilS,.nilS,.nilS,.nilS,.nilS,.nilS])] (rg [o 3 (.new [(.bool false),z0,z0,z0,.nilS,z0,s0,s0,z0,z0,z0,.nilS,.nilS,.nilS,.nilS,.nilS,.nilS])] (rg [oF 4 0 1,oL 5 4,oF 6 0 3,oS 1 6 5] (rg [oF 7 1 1,oW 8 10 7,oC 9 228 8,oF 10 1 3,oS 10 10 9] (rg [oF 11 11 1,oW 12 6 11,oC 13 229 12,oF 14 11 3,oS 6 14 13] (rg [oW 15 17 3,oS 17 2 15] .ret))))))⟩
theorem Aaq:A2 Tryz.prog 151=some A2d:=by kernel_rfl
theorem A79 (U:St) (cs:List GV) (x:Unit_) (hR:Bv.R U x cs) (hl:B9 x<=1099511627776):∃ r N,Ret Tryz.prog 151 [.agg cs] U r N/\U <+: N/\∃ ds,r= .agg ds/\Hp U N [own Bv ds x]:=by
 obtain⟨v1,v2,rfl,hA,hD⟩:=hR
 have hA0:=hA
 have hD0:=hD
 obtain⟨kv,rfl,_⟩:=hA
 obtain⟨d0,d1,d2,d3,d4,d5,rfl,_⟩:=hD
 have hma:L7 x.act<=1099511627776/\Cv x.delta<=1099511627776:=by unfold B9 at hl;omega
 have key:∃ r N,Ret Tryz.prog 151 [.agg (.bool x.batch::[.int .i64 x.act.dot.rep,.int .i64 x.act.dot.seq,.int .i64 x.act.time,kv,.int .i64 x.act.kind,.str x.act.obj,.str x.act.key,.int .i64 x.act.val,.int .i64 x.act.ref.rep,.int .i64 x.act.ref.seq]++([d0,d1,d2,d3,d4,d5]++[]))] U r N/\∃ ds,r= .agg ds/\Hp U N [own Bv ds x]:=by
  refine Mt Aaq (Z0z rfl) (Hx.refl U) ?_
  simp +contextual (disch:=omega) only[go_sem,A2d]
  intro n1 f1 N1 H1 n2 f2 N2 H2 n3 f3 N3 _ N4 H4
  obtain⟨_,N5,R5,_,es,rfl,K5⟩:=Aao N4 _ x.act (kAct.pre hA0 H4.sub) hma.1
  refine by_c H4 R5 K5 fun H5=> ?_
  obtain⟨kv',rfl,_⟩:=K5.rd 0 rfl
  simp +contextual (disch:=omega) only[go_sem]
  intro N6 H6
  obtain⟨_,N7,R7,_,fs,rfl,K7⟩:=A4x N6 _ x.delta (Dr.pre hD0 H6.sub) hma.2
  refine by_c H6 R7 K7 fun H7=> ?_
  obtain⟨e0,e1,e2,e3,e4,e5,rfl,_⟩:=K7.rd 0 rfl
  simp +contextual (disch:=omega) only[go_sem]
  intro N8 _ N9 H9
  exact⟨_,rfl,_,rfl,Hp.ownUnit_ (x:=x) (H9.sel [1,0] (by decide))⟩
 obtain⟨r,N,R,ds,rfl,h⟩:=key
 exact⟨_,N,R,h.sub,ds,rfl,h⟩
def Vq:Fn1:=⟨23,[.t 2],(rg [o 2 (.mov (.k .nilS))] (rg [oM 5 0,oN 6 5,o 7 (.mks 17 264 [(.bool false),z0,z0,z0,.nilS,z0,s0,s0,z0,z0,z0,.nilS,.nilS,.nilS,.nilS,.nilS,.nilS] (.t 6) (.t 6)),oM 3 7] (.seq (rg [oV 4 (ki 0)] (oH 0 (.seq (rg [oM 8 4,oM 9 0,oN 10 9,oB 11 .lss 8 10] (oJ 11 0)) (.seq (.blk 1 (.reg [oM 14 3,oM 15 4,oM 16 0,oM 17 4,oI 18 17 16 17,oW 19 17 18,oC 20 151 19,oI 21 17 14 15,oS 17 21 20])) (.reg [oM 12 4,oZ 13 12 1,oM 4 13]))))) (rg [oM 22 3,oM 2 22] .ret))))⟩
theorem A7a:A2 Tryz.prog 105=some Vq:=by kernel_rfl
def act00:Act:=⟨⟨0,0⟩,0,[],0,⟨#[]⟩,⟨#[]⟩,0,⟨0,0⟩⟩
def unit0:Unit_:=⟨false,act00,⟨[],[],[],[],[],[]⟩⟩
abbrev zeA:List GV:=[gi 0,gi 0,gi 0,.nilS,gi 0,.str ⟨#[]⟩,.str ⟨#[]⟩,gi 0,gi 0,gi 0]
abbrev zeD:List GV:=[.nilS,.nilS,.nilS,.nilS,.nilS,.nilS]
theorem Ahi (N:St):kAct.O N act00 zeA []:=⟨.nilS,[],rfl,.inl ⟨rfl,rfl,rfl⟩,rfl⟩
theorem Ae5 (N:St):Dr.O N ⟨[],[],[],[],[],[]⟩ zeD []:=⟨.nilS,.nilS,.nilS,.nilS,.nilS,.nilS,[],[],[],[],[],[],rfl,.inl ⟨rfl,rfl,rfl⟩,.inl ⟨rfl,rfl,rfl⟩,.inl ⟨rfl,rfl,rfl⟩,.inl ⟨rfl,rfl,rfl⟩,.inl ⟨rfl,rfl,rfl⟩,.inl ⟨rfl,rfl,rfl⟩,rfl⟩
theorem Ag6 (N:St):Bv.O N unit0 (.bool false::zeA++(zeD++[])) []:=⟨zeA,zeD,[],[],rfl,Ahi N,Ae5 N,rfl⟩
theorem Ta {U:St} {v:GV} {l:List Unit_} (h:RS Bv U v l) {i:Nat} (hi:i<l.length):∃ cs,(iadG 17 v (some i)=some (atz 17 v i)/\ldG true 17 U (atz 17 v i)=some (.agg cs))/\Bv.R U l[i] cs:=by
 obtain⟨cs,⟨h1,_,_,h4,_⟩,h5⟩:=RdN.cellsN h hi
 exact⟨cs,⟨h1,h4⟩,h5⟩
theorem Ag7 {Y:Type} {l:List Y} {x0:Y} {i:Nat} (hi:i<l.length):(l.take i++Zad (l.length - i) x0).set i l[i]=l.take (i+1)++Zad (l.length - (i+1)) x0:=by
 have e:Zad (l.length - i) x0=x0::Zad (l.length - (i+1)) x0:=by
  rw[show l.length - i=(l.length - (i+1))+1 by omega,Zaq]
 rw[e,Ai hi,Zai,Za2 _ _ (by rw[Zas];omega)]
 congr 1
 rw[Zas,Zbo (by omega),Nat.sub_self]
 rfl
theorem Ir (U:St) (v:GV) (l:List Unit_) (hR:RS Bv U v l) (hl:l.length+sumL B9 l<=1073741824):∃ r N,Ret Tryz.prog 105 [v] U r N/\Hp U N [ow Bv r l]:=by
 refine Mt A7a (Z0z rfl) (Hx.refl U) ?_
 simp +contextual (disch:=omega) only[go_sem,Vq,hR.len,A1]
 refine⟨by omega,?_⟩
 intro n f N H
 have H1:=H.mk Bv rfl Ag6
 refine C3 l.length 4 0 (fun i env h=>env 0=v/\env 3= .sl n 0 l.length/\h=[.th (ow Bv (.sl n 0 l.length) (l.take i++Zad (l.length - i) unit0))]) (fun env h=>env 3= .sl n 0 l.length/\h=[.th (ow Bv (.sl n 0 l.length) l)]) (fun env h=>False) _ H1 (by simp +contextual (disch:=omega) only[go_sem]) ⟨by simp +contextual (disch:=omega) only[go_sem],by simp +contextual (disch:=omega) only[go_sem],by simp⟩ ?_ ?_ ?_ (fun _ _ _ _ h=>h.elim)
 ·clear H H1
  rintro J Yq Wq hJ hY hW i env h' N hi ei c0 H ⟨e0,e3,rfl⟩
  obtain⟨cs,Uq1,hU⟩:=Ta hR hi
  have hmu:B9 l[i]<=sumL B9 l:=B8 (f:=B9) (Zag hi)
  have i3:iadG 17 (.sl n 0 l.length) (some i)=some (atz 17 (.sl n 0 l.length) i):=by simp[iadG,hi,atz]
  simp +contextual (disch:=omega) only[go_sem,c0,e0,e3,ei,A1,hR.len,Uq1]
  obtain⟨_,N2,R2,_,ds,rfl,K2⟩:=A79 N cs l[i] (Bv.pre hU H.sub) (by omega)
  refine by_c H R2 K2 fun H2=> ?_
  simp +contextual (disch:=omega) only[go_sem,i3,A1]
  refine A4s (d:=Bv) H2 0 0 rfl rfl (by decide) (by rw[Za9,Zas,Zbf];omega) fun N3 H3=> ?_
  simp +contextual (disch:=omega) only[go_sem,ei]
  exact hJ _ _ _ _ H3 ⟨by simp +contextual (disch:=omega) only[go_sem,e0],by simp +contextual (disch:=omega) only[go_sem,e3],by rw[Ag7 hi];rfl⟩
 ·clear H H1
  rintro Yq hY env h' N ei c0 H ⟨e0,e3,rfl⟩
  simp +contextual (disch:=omega) only[go_sem,c0,e0,ei,hR.len]
  exact hY _ _ _ H ⟨e3,by simp⟩
 ·clear H H1
  rintro env h' N H ⟨e3,rfl⟩
  simp +contextual (disch:=omega) only[go_sem,e3]
  exact fun _=>⟨_,rfl,H.hp⟩
def A7c:Fn1:=⟨48,[.t 4],(rg [oX 2 0,oX 3 1,oV 4 kf] (.seq (rg [oF 5 0 2,oW 6 2 5,oF 7 0 3,oW 8 2 7,oD 9 297 6 8,oU 10 9] (oG 10 (oR 4 kf))) (.seq (rg [oF 11 2 2,oL 12 11,oF 13 2 3,oL 14 13,oB 15 .neq 12 14] (oG 15 (oR 4 kf))) (.seq (rg [oF 16 3 2,oL 17 16,oF 18 3 3,oL 19 18,oD 20 30 17 19,oU 21 20] (oG 21 (oR 4 kf))) (.seq (rg [oF 22 4 2,oL 23 22,oF 24 4 3,oL 25 24,oB 26 .neq 23 25] (oG 26 (oR 4 kf))) (.seq (rg [oF 27 5 2,oL 28 27,oF 29 5 3,oL 30 29,oB 31 .neq 28 30] (oG 31 (oR 4 kf))) (.seq (rg [oF 32 6 2,oL 33 32,oF 34 6 3,oL 35 34,oB 36 .neq 33 35] (oG 36 (oR 4 kf))) (.seq (rg [oF 37 7 2,oL 38 37,oF 39 7 3,oL 40 39,oB 41 .neq 38 40] (oG 41 (oR 4 kf))) (.seq (rg [oF 42 8 2,oW 43 2 42,oF 44 8 3,oW 45 2 44,oD 46 297 43 45,oU 47 46] (oG 47 (oR 4 kf))) (oR 4 kt))))))))))⟩
theorem Ae6:A2 Tryz.prog 234=some A7c:=by kernel_rfl
theorem Aar (U:St) (cs ds:List GV) (x y:Act) (hx:kAct.R U x cs) (hy:kAct.R U y ds) (hl:L7 x<=1099511627776):Ret Tryz.prog 234 [.agg cs,.agg ds] U (.bool (decide (x=y))) U:=by
 obtain⟨v2,rfl,q2_⟩:=hx
 obtain⟨u2,rfl,p2_⟩:=hy
 unfold L7 at hl
 refine Ac Ae6 (Z0z rfl) trivial ?_
 simp +contextual (disch:=omega) only[go_sem,A7c,Zaa]
 refine A5 (Dz _ x.dot y.dot) ?_
 simp +contextual (disch:=omega) only[go_sem,Zaa]
 refine⟨fun hn=> ?_,fun hn=> ?_⟩
 ·simp only[Act.eq_iff];simp at hn ⊢;simp[hn]
 have q0:x.dot=y.dot:=by simpa using hn
 refine⟨fun hn=> ?_,fun hn=> ?_⟩
 ·simp only[Act.eq_iff];simp at hn ⊢;simp[hn]
 have q1:x.time=y.time:=by simpa using hn
 refine A5 (Cw _ v2 u2 x.knew y.knew (q2_.pre pre2) (p2_.pre pre2) (by omega)) ?_
 simp +contextual (disch:=omega) only[go_sem,Zaa]
 refine⟨fun hn=> ?_,fun hn=> ?_⟩
 ·simp only[Act.eq_iff];simp at hn ⊢;simp[hn]
 have q2:x.knew=y.knew:=by simpa using hn
 refine⟨fun hn=> ?_,fun hn=> ?_⟩
 ·simp only[Act.eq_iff];simp at hn ⊢;simp[hn]
 have q3:x.kind=y.kind:=by simpa using hn
 refine⟨fun hn=> ?_,fun hn=> ?_⟩
 ·simp only[Act.eq_iff];simp at hn ⊢;simp[hn]
 have q4:x.obj=y.obj:=by simpa using hn
 refine⟨fun hn=> ?_,fun hn=> ?_⟩
 ·simp only[Act.eq_iff];simp at hn ⊢;simp[hn]
 have q5:x.key=y.key:=by simpa using hn
 refine⟨fun hn=> ?_,fun hn=> ?_⟩
 ·simp only[Act.eq_iff];simp at hn ⊢;simp[hn]
 have q6:x.val=y.val:=by simpa using hn
 refine A5 (Dz _ x.ref y.ref) ?_
 simp +contextual (disch:=omega) only[go_sem,Zaa]
 refine⟨fun hn=> ?_,fun hn=> ?_⟩
 ·simp only[Act.eq_iff];simp at hn ⊢;simp[hn]
 have q7:x.ref=y.ref:=by simpa using hn
 simp only[Act.eq_iff,q0,q1,q2,q3,q4,q5,q6,q7,and_self,decide_true]
def A2f:Fn1:=⟨27,[.t 4],(rg [oV 4 kf] (.seq (rg [oM 6 0,oN 7 6,oM 8 1,oN 9 8,oB 10 .neq 7 9] (oG 10 (oR 4 kf))) (.seq (rg [oV 5 (ki 0)] (oH 0 (.seq (rg [oM 11 5,oM 12 0,oN 13 12,oB 14 .lss 11 13] (oJ 14 0)) (.seq (.blk 1 (dw [oM 17 0,oM 18 5,oI 19 2 17 18,oW 20 2 19,oM 21 1,oM 22 5,oI 23 2 21 22,oW 24 2 23] [oD 25 297 20 24,oU 26 25] (oG 26 (oR 4 kf)))) (.reg [oM 15 5,oZ 16 15 1,oM 5 16]))))) (oR 4 kt))))⟩
theorem Aas:A2 Tryz.prog 298=some A2f:=by kernel_rfl
theorem A7d (U:St) (v u:GV) (l m:List Dot) (hv:RS pDot.kd U v l) (hu:RS pDot.kd U u m) (hl:l.length<=1099511627776):Ret Tryz.prog 298 [v,u] U (.bool (decide (l=m))) U:=by
 refine Ac Aas (Z0z rfl) trivial ?_
 simp +contextual (disch:=omega) only[go_sem,A2f,hv.len,hu.len]
 refine⟨fun hn=> ?_,fun hn=> ?_⟩
 ·have:l≠m:=fun h=>by subst h;simp at hn
  simp[this]
 have hlm:l.length=m.length:=by
                    have h2:(l.length:Int)=m.length:=by simpa using hn
                    omega
 refine Ay l.length 5 (fun i env N=>env 0=v/\env 1=u/\l.take i=m.take i/\U <+: N) rfl ⟨rfl,rfl,rfl,Zaf _⟩ ?_ ?_
 ·rintro i env N hi e5 c0 ⟨e0,e1,he,hp⟩
  have hj:i<m.length:=by omega
  have h1:=hv.pre hp
  have h2:=hu.pre hp
  have hne:l[i]≠m[i]->l≠m:=fun h h'=>h (by subst h';rfl)
  have hst:l[i]=m[i]->l.take (i+1)=m.take (i+1):=fun h=>by rw[Ai hi,Ai hj,he,h]
  simp +contextual (disch:=omega) only[go_sem,c0,e0,e1,e5,hv.len,hu.len,Tq h1 hi,Tq h2 hj]
  refine A5 (Dz N l[i] m[i]) ?_
  simp +contextual (disch:=omega) only[go_sem,e0,e1,e5,hp]
  refine⟨fun h=> ?_,fun h=> ?_⟩
  ·simp[hne (by simpa using h)]
  ·simpa using hst (by simpa using h)
 ·rintro env N e5 c0 ⟨e0,e1,he,hp⟩
  rw[Zab,hlm,Zab] at he
  simp +contextual (disch:=omega) only[go_sem,c0,e0,e1,e5,hv.len,hu.len,hp]
  simp[he]
def Vs:Fn1:=⟨41,[.t 4],(rg [oX 2 0,oX 3 1,oV 4 kf] (.seq (rg [oF 5 0 2,oL 6 5,oF 7 0 3,oL 8 7,oD 9 30 6 8,oU 10 9] (oG 10 (oR 4 kf))) (.seq (rg [oF 11 1 2,oL 12 11,oF 13 1 3,oL 14 13,oD 15 30 12 14,oU 16 15] (oG 16 (oR 4 kf))) (.seq (rg [oF 17 2 2,oL 18 17,oF 19 2 3,oL 20 19,oD 21 230 18 20,oU 22 21] (oG 22 (oR 4 kf))) (.seq (rg [oF 23 3 2,oL 24 23,oF 25 3 3,oL 26 25,oD 27 231 24 26,oU 28 27] (oG 28 (oR 4 kf))) (.seq (rg [oF 29 4 2,oL 30 29,oF 31 4 3,oL 32 31,oD 33 298 30 32,oU 34 33] (oG 34 (oR 4 kf))) (.seq (rg [oF 35 5 2,oL 36 35,oF 37 5 3,oL 38 37,oD 39 232 36 38,oU 40 39] (oG 40 (oR 4 kf))) (oR 4 kt))))))))⟩
theorem A7e:A2 Tryz.prog 235=some Vs:=by kernel_rfl
theorem A4y (U:St) (cs ds:List GV) (x y:Delta) (hx:Dr.R U x cs) (hy:Dr.R U y ds) (hl:Cv x<=1099511627776):Ret Tryz.prog 235 [.agg cs,.agg ds] U (.bool (decide (x=y))) U:=by
 obtain⟨v0,v1,v2,v3,v4,v5,rfl,q0_,q1_,q2_,q3_,q4_,q5_⟩:=hx
 obtain⟨u0,u1,u2,u3,u4,u5,rfl,p0_,p1_,p2_,p3_,p4_,p5_⟩:=hy
 unfold Cv at hl
 refine Ac A7e (Z0z rfl) trivial ?_
 simp +contextual (disch:=omega) only[go_sem,Vs,Zaa]
 refine A5 (Cw _ v0 u0 x.base y.base (q0_.pre pre2) (p0_.pre pre2) (by omega)) ?_
 simp +contextual (disch:=omega) only[go_sem,Zaa]
 refine⟨fun hn=> ?_,fun hn=> ?_⟩
 ·simp only[Delta.eq_iff];simp at hn ⊢;simp[hn]
 have q0:x.base=y.base:=by simpa using hn
 refine A5 (Cw _ v1 u1 x.know y.know (q1_.pre pre2) (p1_.pre pre2) (by omega)) ?_
 simp +contextual (disch:=omega) only[go_sem,Zaa]
 refine⟨fun hn=> ?_,fun hn=> ?_⟩
 ·simp only[Delta.eq_iff];simp at hn ⊢;simp[hn]
 have q1:x.know=y.know:=by simpa using hn
 refine A5 (Li _ v2 u2 x.tallies y.tallies (q2_.pre pre2) (p2_.pre pre2) (by omega)) ?_
 simp +contextual (disch:=omega) only[go_sem,Zaa]
 refine⟨fun hn=> ?_,fun hn=> ?_⟩
 ·simp only[Delta.eq_iff];simp at hn ⊢;simp[hn]
 have q2:x.tallies=y.tallies:=by simpa using hn
 refine A5 (Mx _ v3 u3 x.lives y.lives (q3_.pre pre2) (p3_.pre pre2) (by omega)) ?_
 simp +contextual (disch:=omega) only[go_sem,Zaa]
 refine⟨fun hn=> ?_,fun hn=> ?_⟩
 ·simp only[Delta.eq_iff];simp at hn ⊢;simp[hn]
 have q3:x.lives=y.lives:=by simpa using hn
 refine A5 (A7d _ v4 u4 x.dead y.dead (q4_.pre pre2) (p4_.pre pre2) (by omega)) ?_
 simp +contextual (disch:=omega) only[go_sem,Zaa]
 refine⟨fun hn=> ?_,fun hn=> ?_⟩
 ·simp only[Delta.eq_iff];simp at hn ⊢;simp[hn]
 have q4:x.dead=y.dead:=by simpa using hn
 refine A5 (Mw _ v5 u5 x.cells y.cells (q5_.pre pre2) (p5_.pre pre2) (by omega)) ?_
 simp +contextual (disch:=omega) only[go_sem,Zaa]
 refine⟨fun hn=> ?_,fun hn=> ?_⟩
 ·simp only[Delta.eq_iff];simp at hn ⊢;simp[hn]
 have q5:x.cells=y.cells:=by simpa using hn
 simp only[Delta.eq_iff,q0,q1,q2,q3,q4,q5,and_self,decide_true]
def A2g:Fn1:=⟨22,[.t 4],(rg [oX 2 0,oX 3 1,oV 4 kf] (.seq (rg [oF 5 0 2,oL 6 5,oF 7 0 3,oL 8 7,o 9 (.eqb true (.t 6) (.t 8))] (oG 9 (oR 4 kf))) (.seq (rg [oF 10 1 2,oW 11 10 10,oF 12 1 3,oW 13 10 12,oD 14 234 11 13,oU 15 14] (oG 15 (oR 4 kf))) (.seq (rg [oF 16 11 2,oW 17 6 16,oF 18 11 3,oW 19 6 18,oD 20 235 17 19,oU 21 20] (oG 21 (oR 4 kf))) (oR 4 kt)))))⟩
theorem Aat:A2 Tryz.prog 154=some A2g:=by kernel_rfl
theorem A7f (U:St) (cs ds:List GV) (x y:Unit_) (hx:Bv.R U x cs) (hy:Bv.R U y ds) (hl:B9 x<=1099511627776):Ret Tryz.prog 154 [.agg cs,.agg ds] U (.bool (decide (x=y))) U:=by
 obtain⟨v1,v2,rfl,q1_,q2_⟩:=hx
 obtain⟨u1,u2,rfl,p1_,p2_⟩:=hy
 unfold B9 at hl
 have a1:=q1_
 have a2:=q2_
 have b1:=p1_
 have b2:=p2_
 obtain⟨kv,rfl,_⟩:=q1_
 obtain⟨d0,d1,d2,d3,d4,d5,rfl,_⟩:=q2_
 obtain⟨ku,rfl,_⟩:=p1_
 obtain⟨e0,e1,e2,e3,e4,e5,rfl,_⟩:=p2_
 suffices key:Ret Tryz.prog 154 [.agg (.bool x.batch::[.int .i64 x.act.dot.rep,.int .i64 x.act.dot.seq,.int .i64 x.act.time,kv,.int .i64 x.act.kind,.str x.act.obj,.str x.act.key,.int .i64 x.act.val,.int .i64 x.act.ref.rep,.int .i64 x.act.ref.seq,d0,d1,d2,d3,d4,d5]),.agg (.bool y.batch::[.int .i64 y.act.dot.rep,.int .i64 y.act.dot.seq,.int .i64 y.act.time,ku,.int .i64 y.act.kind,.str y.act.obj,.str y.act.key,.int .i64 y.act.val,.int .i64 y.act.ref.rep,.int .i64 y.act.ref.seq,e0,e1,e2,e3,e4,e5])] U (.bool (decide (x=y))) U from key
 refine Ac Aat (Z0z rfl) trivial ?_
 simp +contextual (disch:=omega) only[go_sem,A2g,Zaa]
 refine⟨fun hn=> ?_,fun hn=> ?_⟩
 ·simp only[Unit_.eq_iff];simp at hn ⊢;simp[hn]
 have q0:x.batch=y.batch:=by simpa using hn
 refine A5 (Aar _ _ _ x.act y.act (kAct.pre a1 pre2) (kAct.pre b1 pre2) (by omega)) ?_
 simp +contextual (disch:=omega) only[go_sem,Zaa]
 refine⟨fun hn=> ?_,fun hn=> ?_⟩
 ·simp only[Unit_.eq_iff];simp at hn ⊢;simp[hn]
 have q1:x.act=y.act:=by simpa using hn
 refine A5 (A4y _ _ _ x.delta y.delta (Dr.pre a2 pre2) (Dr.pre b2 pre2) (by omega)) ?_
 simp +contextual (disch:=omega) only[go_sem,Zaa]
 refine⟨fun hn=> ?_,fun hn=> ?_⟩
 ·simp only[Unit_.eq_iff];simp at hn ⊢;simp[hn]
 have q2:x.delta=y.delta:=by simpa using hn
 simp only[Unit_.eq_iff,q0,q1,q2,and_self,decide_true]
def Vu:Fn1:=⟨27,[.t 4],(rg [oV 4 kf] (.seq (rg [oM 6 0,oN 7 6,oM 8 1,oN 9 8,oB 10 .neq 7 9] (oG 10 (oR 4 kf))) (.seq (rg [oV 5 (ki 0)] (oH 0 (.seq (rg [oM 11 5,oM 12 0,oN 13 12,oB 14 .lss 11 13] (oJ 14 0)) (.seq (.blk 1 (dw [oM 17 0,oM 18 5,oI 19 17 17 18,oW 20 17 19,oM 21 1,oM 22 5,oI 23 17 21 22,oW 24 17 23] [oD 25 154 20 24,oU 26 25] (oG 26 (oR 4 kf)))) (.reg [oM 15 5,oZ 16 15 1,oM 5 16]))))) (oR 4 kt))))⟩
theorem A7g:A2 Tryz.prog 109=some Vu:=by kernel_rfl
theorem It (U:St) (v u:GV) (l m:List Unit_) (hv:RS Bv U v l) (hu:RS Bv U u m) (hl:(l.length+sumL B9 l)<=1099511627776):Ret Tryz.prog 109 [v,u] U (.bool (decide (l=m))) U:=by
 refine Ac A7g (Z0z rfl) trivial ?_
 simp +contextual (disch:=omega) only[go_sem,Vu,hv.len,hu.len]
 refine⟨fun hn=> ?_,fun hn=> ?_⟩
 ·have:l≠m:=fun h=>by subst h;simp at hn
  simp[this]
 have hlm:l.length=m.length:=by
                    have h2:(l.length:Int)=m.length:=by simpa using hn
                    omega
 refine Ay l.length 5 (fun i env N=>env 0=v/\env 1=u/\l.take i=m.take i/\U <+: N) rfl ⟨rfl,rfl,rfl,Zaf _⟩ ?_ ?_
 ·rintro i env N hi e5 c0 ⟨e0,e1,he,hp⟩
  have hj:i<m.length:=by omega
  have h1:=hv.pre hp
  have h2:=hu.pre hp
  have hne:l[i]≠m[i]->l≠m:=fun h h'=>h (by subst h';rfl)
  have hst:l[i]=m[i]->l.take (i+1)=m.take (i+1):=fun h=>by rw[Ai hi,Ai hj,he,h]
  have hms:B9 l[i]<=sumL B9 l:=B8 (Zag hi)
  obtain⟨c,hc,hcr⟩:=Ta h1 hi
  obtain⟨d,hd,hdr⟩:=Ta h2 hj
  simp +contextual (disch:=omega) only[go_sem,c0,e0,e1,e5,hv.len,hu.len,hc,hd]
  refine A5 (A7f N c d l[i] m[i] hcr hdr (by omega)) ?_
  simp +contextual (disch:=omega) only[go_sem,e0,e1,e5,hp]
  refine⟨fun h=> ?_,fun h=> ?_⟩
  ·simp[hne (by simpa using h)]
  ·simpa using hst (by simpa using h)
 ·rintro env N e5 c0 ⟨e0,e1,he,hp⟩
  rw[Zab,hlm,Zab] at he
  simp +contextual (disch:=omega) only[go_sem,c0,e0,e1,e5,hv.len,hu.len,hp]
  simp[he]
def A7i:Fn1:=⟨33,[.t 4],(rg [oX 2 0,oX 3 1,oV 4 kf] (.seq (rg [oF 5 0 2,oL 6 5,oF 7 0 3,oL 8 7,oB 9 .neq 6 8] (oG 9 (oR 4 kf))) (.seq (rg [oF 10 1 2,oL 11 10,oF 12 1 3,oL 13 12,oB 14 .neq 11 13] (oG 14 (oR 4 kf))) (.seq (rg [oF 15 2 2,oW 16 4 15,oF 17 2 3,oW 18 4 17,oD 19 152 16 18,oU 20 19] (oG 20 (oR 4 kf))) (.seq (rg [oF 21 6 2,oL 22 21,oF 23 6 3,oL 24 23,oD 25 109 22 24,oU 26 25] (oG 26 (oR 4 kf))) (.seq (rg [oF 27 7 2,oL 28 27,oF 29 7 3,oL 30 29,oD 31 109 28 30,oU 32 31] (oG 32 (oR 4 kf))) (oR 4 kt)))))))⟩
theorem Ae7:A2 Tryz.prog 106=some A7i:=by kernel_rfl
theorem Aau (U:St) (cs ds:List GV) (x y:Log) (hx:kLog.R U x cs) (hy:kLog.R U y ds) (hl:G8 x<=1099511627776):Ret Tryz.prog 106 [.agg cs,.agg ds] U (.bool (decide (x=y))) U:=by
 obtain⟨v2,v3,v4,rfl,q2_,q3_,q4_⟩:=hx
 obtain⟨u2,u3,u4,rfl,p2_,p3_,p4_⟩:=hy
 have q20:=q2_
 have p20:=p2_
 obtain⟨s0,s1,s2,s3,rfl,_⟩:=q2_
 obtain⟨t0,t1,t2,t3,rfl,_⟩:=p2_
 unfold G8 at hl
 refine Ac Ae7 (Z0z rfl) trivial ?_
 simp +contextual (disch:=omega) only[go_sem,A7i,Zaa]
 refine⟨fun hn=> ?_,fun hn=> ?_⟩
 ·simp only[Log.eq_iff];simp at hn ⊢;simp[hn]
 have q0:x.rep=y.rep:=by simpa using hn
 refine⟨fun hn=> ?_,fun hn=> ?_⟩
 ·simp only[Log.eq_iff];simp at hn ⊢;simp[hn]
 have q1:x.time=y.time:=by simpa using hn
 refine A5 (My _ _ _ x.state y.state (Ab.pre q20 pre2) (Ab.pre p20 pre2) (by omega)) ?_
 simp +contextual (disch:=omega) only[go_sem,Zaa]
 refine⟨fun hn=> ?_,fun hn=> ?_⟩
 ·simp only[Log.eq_iff];simp at hn ⊢;simp[hn]
 have q2:x.state=y.state:=by simpa using hn
 refine A5 (It _ v3 u3 x.units y.units (q3_.pre pre2) (p3_.pre pre2) (by omega)) ?_
 simp +contextual (disch:=omega) only[go_sem,Zaa]
 refine⟨fun hn=> ?_,fun hn=> ?_⟩
 ·simp only[Log.eq_iff];simp at hn ⊢;simp[hn]
 have q3:x.units=y.units:=by simpa using hn
 refine A5 (It _ v4 u4 x.waits y.waits (q4_.pre pre2) (p4_.pre pre2) (by omega)) ?_
 simp +contextual (disch:=omega) only[go_sem,Zaa]
 refine⟨fun hn=> ?_,fun hn=> ?_⟩
 ·simp only[Log.eq_iff];simp at hn ⊢;simp[hn]
 have q4:x.waits=y.waits:=by simpa using hn
 simp only[Log.eq_iff,q0,q1,q2,q3,q4,and_self,decide_true]
def O2:Fn1:=⟨34,[.t 4],(rg [oX 2 0,oX 3 1,oV 4 kf] (.seq (rg [oF 5 0 2,oL 6 5,oF 7 0 3,oL 8 7,oB 9 .neq 6 8] (oG 9 (oR 4 kf))) (.seq (rg [oF 10 1 2,oW 11 8 10,oF 12 1 3,oW 13 8 12,oD 14 106 11 13,oU 15 14] (oG 15 (oR 4 kf))) (.seq (rg [oF 16 9 2,oW 17 2 16,oF 18 9 3,oW 19 2 18,oD 20 107 17 19,oU 21 20] (oG 21 (oR 4 kf))) (.seq (rg [oF 22 11 2,oW 23 2 22,oF 24 11 3,oW 25 2 24,oD 26 108 23 25,oU 27 26] (oG 27 (oR 4 kf))) (.seq (rg [oF 28 13 2,oL 29 28,oF 30 13 3,oL 31 30,oD 32 109 29 31,oU 33 32] (oG 33 (oR 4 kf))) (oR 4 kt)))))))⟩
theorem A0w:A2 Tryz.prog 62=some O2:=by kernel_rfl
theorem Vv (U:St) (cs ds:List GV) (x y:Replica) (hx:Ap.R U x cs) (hy:Ap.R U y ds) (hl:A8 x<=1099511627776):Ret Tryz.prog 62 [.agg cs,.agg ds] U (.bool (decide (x=y))) U:=by
 obtain⟨v1,v2,v4,rfl,q1_,q2_,q4_⟩:=hx
 obtain⟨u1,u2,u4,rfl,p1_,p2_,p4_⟩:=hy
 have a10:=q1_
 have a20:=q2_
 obtain⟨w2,w3,w4,rfl,hD,_⟩:=q1_
 obtain⟨d0,d1,d2,d3,rfl,_⟩:=hD
 obtain⟨g0,rfl,_⟩:=q2_
 have b10:=p1_
 have b20:=p2_
 obtain⟨y2,y3,y4,rfl,hE,_⟩:=p1_
 obtain⟨e0,e1,e2,e3,rfl,_⟩:=hE
 obtain⟨h0,rfl,_⟩:=p2_
 unfold A8 at hl
 refine Ac A0w (Z0z rfl) trivial ?_
 simp +contextual (disch:=omega) only[go_sem,O2,Zaa]
 refine⟨fun hn=> ?_,fun hn=> ?_⟩
 ·simp only[Replica.eq_iff];simp at hn ⊢;simp[hn]
 have q0:x.way=y.way:=by simpa using hn
 refine A5 (Aau _ _ _ x.log y.log (kLog.pre a10 pre2) (kLog.pre b10 pre2) (by omega)) ?_
 simp +contextual (disch:=omega) only[go_sem,Zaa]
 refine⟨fun hn=> ?_,fun hn=> ?_⟩
 ·simp only[Replica.eq_iff];simp at hn ⊢;simp[hn]
 have q1:x.log=y.log:=by simpa using hn
 refine A5 (A4w _ _ _ x.graph y.graph (E8.pre a20 pre2) (E8.pre b20 pre2) (by omega)) ?_
 simp +contextual (disch:=omega) only[go_sem,Zaa]
 refine⟨fun hn=> ?_,fun hn=> ?_⟩
 ·simp only[Replica.eq_iff];simp at hn ⊢;simp[hn]
 have q2:x.graph=y.graph:=by simpa using hn
 refine A5 (A6k _ x.file y.file) ?_
 simp +contextual (disch:=omega) only[go_sem,Zaa]
 refine⟨fun hn=> ?_,fun hn=> ?_⟩
 ·simp only[Replica.eq_iff];simp at hn ⊢;simp[hn]
 have q3:x.file=y.file:=by simpa using hn
 refine A5 (It _ v4 u4 x.out y.out (q4_.pre pre2) (p4_.pre pre2) (by omega)) ?_
 simp +contextual (disch:=omega) only[go_sem,Zaa]
 refine⟨fun hn=> ?_,fun hn=> ?_⟩
 ·simp only[Replica.eq_iff];simp at hn ⊢;simp[hn]
 have q4:x.out=y.out:=by simpa using hn
 simp only[Replica.eq_iff,q0,q1,q2,q3,q4,and_self,decide_true]
def Lk:Fn1:=⟨27,[.t 4],(rg [oV 4 kf] (.seq (rg [oM 6 0,oN 7 6,oM 8 1,oN 9 8,oB 10 .neq 7 9] (oG 10 (oR 4 kf))) (.seq (rg [oV 5 (ki 0)] (oH 0 (.seq (rg [oM 11 5,oM 12 0,oN 13 12,oB 14 .lss 11 13] (oJ 14 0)) (.seq (.blk 1 (dw [oM 17 0,oM 18 5,oI 19 14 17 18,oW 20 14 19,oM 21 1,oM 22 5,oI 23 14 21 22,oW 24 14 23] [oD 25 62 20 24,oU 26 25] (oG 26 (oR 4 kf)))) (.reg [oM 15 5,oZ 16 15 1,oM 5 16]))))) (oR 4 kt))))⟩
theorem Vw:A2 Tryz.prog 28=some Lk:=by kernel_rfl
theorem Sn (U:St) (v u:GV) (l m:List Replica) (hv:RS Ap U v l) (hu:RS Ap U u m) (hl:(l.length+sumL A8 l)<=1099511627776):Ret Tryz.prog 28 [v,u] U (.bool (decide (l=m))) U:=by
 refine Ac Vw (Z0z rfl) trivial ?_
 simp +contextual (disch:=omega) only[go_sem,Lk,hv.len,hu.len]
 refine⟨fun hn=> ?_,fun hn=> ?_⟩
 ·have:l≠m:=fun h=>by subst h;simp at hn
  simp[this]
 have hlm:l.length=m.length:=by
                    have h2:(l.length:Int)=m.length:=by simpa using hn
                    omega
 refine Ay l.length 5 (fun i env N=>env 0=v/\env 1=u/\l.take i=m.take i/\U <+: N) rfl ⟨rfl,rfl,rfl,Zaf _⟩ ?_ ?_
 ·rintro i env N hi e5 c0 ⟨e0,e1,he,hp⟩
  have hj:i<m.length:=by omega
  have h1:=hv.pre hp
  have h2:=hu.pre hp
  have hne:l[i]≠m[i]->l≠m:=fun h h'=>h (by subst h';rfl)
  have hst:l[i]=m[i]->l.take (i+1)=m.take (i+1):=fun h=>by rw[Ai hi,Ai hj,he,h]
  have hms:A8 l[i]<=sumL A8 l:=B8 (Zag hi)
  obtain⟨c,hc,hcr⟩:=RdN.cellsN h1 hi
  have hc:iadG 14 v (some i)=some (atz 14 v i)/\ldG true 14 N (atz 14 v i)=some (.agg c):=⟨hc.1,hc.2.2.2.1⟩
  obtain⟨d,hd,hdr⟩:=RdN.cellsN h2 hj
  have hd:iadG 14 u (some i)=some (atz 14 u i)/\ldG true 14 N (atz 14 u i)=some (.agg d):=⟨hd.1,hd.2.2.2.1⟩
  simp +contextual (disch:=omega) only[go_sem,c0,e0,e1,e5,hv.len,hu.len,hc,hd]
  refine A5 (Vv N c d l[i] m[i] hcr hdr (by omega)) ?_
  simp +contextual (disch:=omega) only[go_sem,e0,e1,e5,hp]
  refine⟨fun h=> ?_,fun h=> ?_⟩
  ·simp[hne (by simpa using h)]
  ·simpa using hst (by simpa using h)
 ·rintro env N e5 c0 ⟨e0,e1,he,hp⟩
  rw[Zab,hlm,Zab] at he
  simp +contextual (disch:=omega) only[go_sem,c0,e0,e1,e5,hv.len,hu.len,hp]
  simp[he]
def Vy:Fn1:=⟨29,[.t 4],(rg [oX 2 0,oX 3 1,oV 4 kf] (.seq (rg [oF 5 0 2,oL 6 5,oF 7 0 3,oL 8 7,oD 9 28 6 8,oU 10 9] (oG 10 (oR 4 kf))) (.seq (rg [oF 11 1 2,oL 12 11,oF 13 1 3,oL 14 13,oD 15 29 12 14,oU 16 15] (oG 16 (oR 4 kf))) (.seq (rg [oF 17 2 2,oL 18 17,oF 19 2 3,oL 20 19,oD 21 30 18 20,oU 22 21] (oG 22 (oR 4 kf))) (.seq (rg [oF 23 3 2,oL 24 23,oF 25 3 3,oL 26 25,oD 27 31 24 26,oU 28 27] (oG 28 (oR 4 kf))) (oR 4 kt))))))⟩
theorem A7j:A2 Tryz.prog 9=some Vy:=by kernel_rfl
theorem A4z (U:St) (cs ds:List GV) (x y:World_) (hx:By.R U x cs) (hy:By.R U y ds) (hl:Em x<=1099511627776):Ret Tryz.prog 9 [.agg cs,.agg ds] U (.bool (decide (x=y))) U:=by
 obtain⟨v0,v1,v2,v3,rfl,q0_,q1_,q2_,q3_⟩:=hx
 obtain⟨u0,u1,u2,u3,rfl,p0_,p1_,p2_,p3_⟩:=hy
 unfold Em at hl
 refine Ac A7j (Z0z rfl) trivial ?_
 simp +contextual (disch:=omega) only[go_sem,Vy,Zaa]
 refine A5 (Sn _ v0 u0 x.replicas y.replicas (q0_.pre pre2) (p0_.pre pre2) (by omega)) ?_
 simp +contextual (disch:=omega) only[go_sem,Zaa]
 refine⟨fun hn=> ?_,fun hn=> ?_⟩
 ·simp only[World_.eq_iff];simp at hn ⊢;simp[hn]
 have q0:x.replicas=y.replicas:=by simpa using hn
 refine A5 (Tw _ v1 u1 x.net y.net (q1_.pre pre2) (p1_.pre pre2) (by omega)) ?_
 simp +contextual (disch:=omega) only[go_sem,Zaa]
 refine⟨fun hn=> ?_,fun hn=> ?_⟩
 ·simp only[World_.eq_iff];simp at hn ⊢;simp[hn]
 have q1:x.net=y.net:=by simpa using hn
 refine A5 (Cw _ v2 u2 x.codes y.codes (q2_.pre pre2) (p2_.pre pre2) (by omega)) ?_
 simp +contextual (disch:=omega) only[go_sem,Zaa]
 refine⟨fun hn=> ?_,fun hn=> ?_⟩
 ·simp only[World_.eq_iff];simp at hn ⊢;simp[hn]
 have q2:x.codes=y.codes:=by simpa using hn
 refine A5 (A4i _ v3 u3 x.synced y.synced (q3_.pre pre2) (p3_.pre pre2) (by omega)) ?_
 simp +contextual (disch:=omega) only[go_sem,Zaa]
 refine⟨fun hn=> ?_,fun hn=> ?_⟩
 ·simp only[World_.eq_iff];simp at hn ⊢;simp[hn]
 have q3:x.synced=y.synced:=by simpa using hn
 simp only[World_.eq_iff,q0,q1,q2,q3,and_self,decide_true]
def A2i:Fn1:=⟨12,[.t 4],(rg [oV 4 (ki 0)] (rg [oM 5 1,oM 6 0,oN 7 6,oB 8 .sub 5 7,oM 1 8] (.seq (rg [oM 9 1,oE 10 .lss 9 0] (oG 10 (rg [o 4 (.mov (ki (-1)))] .ret))) (rg [oM 11 1,oM 4 11] .ret))))⟩
theorem Aav:A2 Tryz.prog 22=some A2i:=by kernel_rfl
theorem Cy (U:St) (v:GV) (l:List Int) (hR:RS pI.kd U v l) (n:Int) (hw:l.length<=9223372036854775807) (h0:0<=n) (h1:n<=1099511627776):Ret Tryz.prog 22 [v,gi n] U (gi (lf n l.length)) U:=by
 refine Ac Aav (Z0z rfl) trivial ?_
 simp +contextual (disch:=omega) only[go_sem,A2i,hR.len]
 refine⟨fun h=> ?_,fun h=> ?_⟩
 ·rw[lf,if_pos (of_decide_eq_true h)]
 ·rw[lf,if_neg (of_decide_eq_false h)]
def X0:Fn1:=⟨27,[.t 4],(rg [oV 4 (ki 0)] (rg [oM 6 1,oM 7 0,oN 8 7,oB 9 .sub 6 8,oM 1 9] (.seq (rg [oM 10 1,oE 11 .lss 10 0] (oG 11 (rg [o 4 (.mov (ki (-1)))] .ret))) (.seq (rg [oV 5 (ki 0)] (oH 0 (.seq (rg [oM 12 5,oM 13 0,oN 14 13,oB 15 .lss 12 14] (oJ 15 0)) (.seq (.blk 1 (rg [oM 18 0,oM 19 5,oI 20 1 18 19,oL 21 20,oM 22 1,oD 23 22 21 22,oM 1 23] (rg [oM 24 1,oE 25 .lss 24 0] (oG 25 (rg [o 4 (.mov (ki (-1)))] .ret))))) (.reg [oM 16 5,oZ 17 16 1,oM 5 17]))))) (rg [oM 26 1,oM 4 26] .ret)))))⟩
theorem A7k:A2 Tryz.prog 23=some X0:=by kernel_rfl
theorem A50 (U:St) (v:GV) (l:List (List Int)) (hR:RS (Kd.sl pI.kd) U v l) (n:Int) (hw:l.length<=9223372036854775807/\∀ y∈l,Ajl y) (h0:0<=n) (h1:n<=1099511627776):Ret Tryz.prog 23 [v,gi n] U (gi (lf n (l.length+sumL Fo l))) U:=by
 obtain⟨wl,we⟩:=hw
 refine Ac A7k (Z0z rfl) trivial ?_
 simp +contextual (disch:=omega) only[go_sem,X0,hR.len]
 refine⟨fun hn=> ?_,fun hn=> ?_⟩
 ·have hn:=of_decide_eq_true hn
  unfold lf;rw[if_pos (by omega)]
 have hn:=of_decide_eq_false hn
 refine Ay l.length 5 (fun i env N=>∃ m:Int,env 0=v/\env 1=gi m/\m=n - l.length - sumL Fo (l.take i)/\0<=m/\U <+: N) rfl ⟨n - l.length,rfl,rfl,by simp[sumL],by omega,Zaf _⟩ ?_ ?_
 ·rintro i env N hi e5 c0 ⟨m,e0,e1,em,hm,hp⟩
  have h1:=hR.pre hp
  have hs:=Fn (f:=Fo) hi
  have hst:=C9 Fo l (i+1)
  have hms:Fo l[i]=l[i].length:=rfl
  obtain⟨c,hc,hcr⟩:=RdN.cells1 h1 hi
  simp +contextual (disch:=omega) only[go_sem,c0,e0,e1,e5,hR.len,hc]
  refine A5 (Cy N c l[i] hcr m (we _ (Zag hi)) hm (by omega)) ?_
  simp +contextual (disch:=omega) only[go_sem,c0,e0,e1,e5,hp]
  have g0:= @Co m (Fo l[i]) hm
  have g1:= @A4h m (Fo l[i])
  refine⟨fun hn=> ?_,fun hn=> ?_⟩
  ·have hn:=Bi.1 (of_decide_eq_true hn)
   unfold lf;rw[if_pos (by omega)]
  ·have hn:=of_decide_eq_false hn
   have f:=Ar hn
   exact⟨_,rfl,by omega,by omega⟩
 ·rintro env N e5 c0 ⟨m,e0,e1,em,hm,hp⟩
  rw[Zab] at em
  simp +contextual (disch:=omega) only[go_sem,c0,e0,e1,e5,hR.len,hp]
  unfold lf;rw[if_neg (by omega)];omega
def Ro:Fn1:=⟨13,[.t 4],(rg [oX 2 0,oV 4 (ki 0)] (rg [oM 5 1,oF 6 1 2,oL 7 6,o 8 (.len true (.t 7)),oB 9 .sub 5 8,oM 1 9] (.seq (rg [oM 10 1,oE 11 .lss 10 0] (oG 11 (rg [o 4 (.mov (ki (-1)))] .ret))) (rg [oM 12 1,oM 4 12] .ret))))⟩
theorem A51:A2 Tryz.prog 59=some Ro:=by kernel_rfl
theorem A0x (U:St) (x:Letter) (n:Int) (hw:Q6 x) (h0:0<=n) (h1:n<=1099511627776):Ret Tryz.prog 59 [.agg [.int .i64 x.to,.str x.text],gi n] U (gi (lf n (Bm x))) U:=by
 have w0:=hw;unfold Q6 at w0
 refine Ac A51 (Z0z rfl) trivial ?_
 simp +contextual (disch:=omega) only[go_sem,Ro,Zaa]
 refine⟨fun hn=> ?_,fun hn=> ?_⟩
 ·have hn:=of_decide_eq_true hn
  unfold Bm lf;rw[if_pos (by omega)]
 have hn:=of_decide_eq_false hn
 try simp(disch:=omega) only[Ag]
 unfold Bm;rw[show lf n (x.text.size)=n - ((x.text.size:Nat):Int) by unfold lf;rw[if_neg (by omega)]];try omega
def O4:Fn1:=⟨27,[.t 4],(rg [oV 4 (ki 0)] (rg [oM 6 1,oM 7 0,oN 8 7,oB 9 .sub 6 8,oM 1 9] (.seq (rg [oM 10 1,oE 11 .lss 10 0] (oG 11 (rg [o 4 (.mov (ki (-1)))] .ret))) (.seq (rg [oV 5 (ki 0)] (oH 0 (.seq (rg [oM 12 5,oM 13 0,oN 14 13,oB 15 .lss 12 14] (oJ 15 0)) (.seq (.blk 1 (rg [oM 18 0,oM 19 5,oI 20 2 18 19,oW 21 2 20,oM 22 1,oD 23 59 21 22,oM 1 23] (rg [oM 24 1,oE 25 .lss 24 0] (oG 25 (rg [o 4 (.mov (ki (-1)))] .ret))))) (.reg [oM 16 5,oZ 17 16 1,oM 5 17]))))) (rg [oM 26 1,oM 4 26] .ret)))))⟩
theorem A0y:A2 Tryz.prog 21=some O4:=by kernel_rfl
theorem X1 (U:St) (v:GV) (l:List Letter) (hR:RS Ej.kd U v l) (n:Int) (hw:l.length<=9223372036854775807/\∀ y∈l,Q6 y) (h0:0<=n) (h1:n<=1099511627776):Ret Tryz.prog 21 [v,gi n] U (gi (lf n (l.length+sumL Bm l))) U:=by
 obtain⟨wl,we⟩:=hw
 refine Ac A0y (Z0z rfl) trivial ?_
 simp +contextual (disch:=omega) only[go_sem,O4,hR.len]
 refine⟨fun hn=> ?_,fun hn=> ?_⟩
 ·have hn:=of_decide_eq_true hn
  unfold lf;rw[if_pos (by omega)]
 have hn:=of_decide_eq_false hn
 refine Ay l.length 5 (fun i env N=>∃ m:Int,env 0=v/\env 1=gi m/\m=n - l.length - sumL Bm (l.take i)/\0<=m/\U <+: N) rfl ⟨n - l.length,rfl,rfl,by simp[sumL],by omega,Zaf _⟩ ?_ ?_
 ·rintro i env N hi e5 c0 ⟨m,e0,e1,em,hm,hp⟩
  have h1:=hR.pre hp
  have hs:=Fn (f:=Bm) hi
  have hst:=C9 Bm l (i+1)
  simp +contextual (disch:=omega) only[go_sem,c0,e0,e1,e5,hR.len,I2 h1 hi]
  refine A5 (A0x N l[i] m (we _ (Zag hi)) hm (by omega)) ?_
  simp +contextual (disch:=omega) only[go_sem,c0,e0,e1,e5,hp]
  have g0:= @Co m (Bm l[i]) hm
  have g1:= @A4h m (Bm l[i])
  refine⟨fun hn=> ?_,fun hn=> ?_⟩
  ·have hn:=Bi.1 (of_decide_eq_true hn)
   unfold lf;rw[if_pos (by omega)]
  ·have hn:=of_decide_eq_false hn
   have f:=Ar hn
   exact⟨_,rfl,by omega,by omega⟩
 ·rintro env N e5 c0 ⟨m,e0,e1,em,hm,hp⟩
  rw[Zab] at em
  simp +contextual (disch:=omega) only[go_sem,c0,e0,e1,e5,hR.len,hp]
  unfold lf;rw[if_neg (by omega)];omega
def A2k:Fn1:=⟨13,[.t 4],(rg [oX 2 0,oV 4 (ki 0)] (rg [oM 5 1,oF 6 0 2,oL 7 6,o 8 (.len true (.t 7)),oB 9 .sub 5 8,oM 1 9] (.seq (rg [oM 10 1,oE 11 .lss 10 0] (oG 11 (rg [o 4 (.mov (ki (-1)))] .ret))) (rg [oM 12 1,oM 4 12] .ret))))⟩
theorem Aaw:A2 Tryz.prog 100=some A2k:=by kernel_rfl
theorem A7l (U:St) (x:File) (n:Int) (hw:Ahg x) (h0:0<=n) (h1:n<=1099511627776):Ret Tryz.prog 100 [.agg [.str x.text,.int .i64 x.synced],gi n] U (gi (lf n (Ml x))) U:=by
 have w0:=hw;unfold Ahg at w0
 refine Ac Aaw (Z0z rfl) trivial ?_
 simp +contextual (disch:=omega) only[go_sem,A2k,Zaa]
 refine⟨fun hn=> ?_,fun hn=> ?_⟩
 ·have hn:=of_decide_eq_true hn
  unfold Ml lf;rw[if_pos (by omega)]
 have hn:=of_decide_eq_false hn
 try simp(disch:=omega) only[Ag]
 unfold Ml;rw[show lf n (x.text.size)=n - ((x.text.size:Nat):Int) by unfold lf;rw[if_neg (by omega)]];try omega
def A2m:Fn1:=⟨13,[.t 4],(rg [oX 2 0,oV 4 (ki 0)] (rg [oM 5 1,oF 6 0 2,oL 7 6,o 8 (.len true (.t 7)),oB 9 .sub 5 8,oM 1 9] (.seq (rg [oM 10 1,oE 11 .lss 10 0] (oG 11 (rg [o 4 (.mov (ki (-1)))] .ret))) (rg [oM 12 1,oM 4 12] .ret))))⟩
theorem Aax:A2 Tryz.prog 287=some A2m:=by kernel_rfl
theorem A7m (U:St) (x:Cell) (n:Int) (hw:Aae x) (h0:0<=n) (h1:n<=1099511627776):Ret Tryz.prog 287 [.agg [.str x.obj,.int .i64 x.dot.rep,.int .i64 x.dot.seq,.int .i64 x.time,.int .i64 x.ref.rep,.int .i64 x.ref.seq,.int .i64 x.val,.bool x.gone],gi n] U (gi (lf n (Cj x))) U:=by
 have w0:=hw;unfold Aae at w0
 refine Ac Aax (Z0z rfl) trivial ?_
 simp +contextual (disch:=omega) only[go_sem,A2m,Zaa]
 refine⟨fun hn=> ?_,fun hn=> ?_⟩
 ·have hn:=of_decide_eq_true hn
  unfold Cj lf;rw[if_pos (by omega)]
 have hn:=of_decide_eq_false hn
 try simp(disch:=omega) only[Ag]
 unfold Cj;rw[show lf n (x.obj.size)=n - ((x.obj.size:Nat):Int) by unfold lf;rw[if_neg (by omega)]];try omega
def X3:Fn1:=⟨27,[.t 4],(rg [oV 4 (ki 0)] (rg [oM 6 1,oM 7 0,oN 8 7,oB 9 .sub 6 8,oM 1 9] (.seq (rg [oM 10 1,oE 11 .lss 10 0] (oG 11 (rg [o 4 (.mov (ki (-1)))] .ret))) (.seq (rg [oV 5 (ki 0)] (oH 0 (.seq (rg [oM 12 5,oM 13 0,oN 14 13,oB 15 .lss 12 14] (oJ 15 0)) (.seq (.blk 1 (rg [oM 18 0,oM 19 5,oI 20 8 18 19,oW 21 8 20,oM 22 1,oD 23 287 21 22,oM 1 23] (rg [oM 24 1,oE 25 .lss 24 0] (oG 25 (rg [o 4 (.mov (ki (-1)))] .ret))))) (.reg [oM 16 5,oZ 17 16 1,oM 5 17]))))) (rg [oM 26 1,oM 4 26] .ret)))))⟩
theorem A7n:A2 Tryz.prog 220=some X3:=by kernel_rfl
theorem O5 (U:St) (v:GV) (l:List Cell) (hR:RS Al.kd U v l) (n:Int) (hw:l.length<=9223372036854775807/\∀ y∈l,Aae y) (h0:0<=n) (h1:n<=1099511627776):Ret Tryz.prog 220 [v,gi n] U (gi (lf n (l.length+sumL Cj l))) U:=by
 obtain⟨wl,we⟩:=hw
 refine Ac A7n (Z0z rfl) trivial ?_
 simp +contextual (disch:=omega) only[go_sem,X3,hR.len]
 refine⟨fun hn=> ?_,fun hn=> ?_⟩
 ·have hn:=of_decide_eq_true hn
  unfold lf;rw[if_pos (by omega)]
 have hn:=of_decide_eq_false hn
 refine Ay l.length 5 (fun i env N=>∃ m:Int,env 0=v/\env 1=gi m/\m=n - l.length - sumL Cj (l.take i)/\0<=m/\U <+: N) rfl ⟨n - l.length,rfl,rfl,by simp[sumL],by omega,Zaf _⟩ ?_ ?_
 ·rintro i env N hi e5 c0 ⟨m,e0,e1,em,hm,hp⟩
  have h1:=hR.pre hp
  have hs:=Fn (f:=Cj) hi
  have hst:=C9 Cj l (i+1)
  simp +contextual (disch:=omega) only[go_sem,c0,e0,e1,e5,hR.len,A6 h1 hi]
  refine A5 (A7m N l[i] m (we _ (Zag hi)) hm (by omega)) ?_
  simp +contextual (disch:=omega) only[go_sem,c0,e0,e1,e5,hp]
  have g0:= @Co m (Cj l[i]) hm
  have g1:= @A4h m (Cj l[i])
  refine⟨fun hn=> ?_,fun hn=> ?_⟩
  ·have hn:=Bi.1 (of_decide_eq_true hn)
   unfold lf;rw[if_pos (by omega)]
  ·have hn:=of_decide_eq_false hn
   have f:=Ar hn
   exact⟨_,rfl,by omega,by omega⟩
 ·rintro env N e5 c0 ⟨m,e0,e1,em,hm,hp⟩
  rw[Zab] at em
  simp +contextual (disch:=omega) only[go_sem,c0,e0,e1,e5,hR.len,hp]
  unfold lf;rw[if_neg (by omega)];omega
def A2o:Fn1:=⟨20,[.t 4],(rg [oX 2 0,oV 4 (ki 0)] (rg [oM 5 1,oF 6 1 2,oL 7 6,o 8 (.len true (.t 7)),oB 9 .sub 5 8,oM 1 9] (.seq (rg [oM 10 1,oE 11 .lss 10 0] (oG 11 (rg [o 4 (.mov (ki (-1)))] .ret))) (rg [oM 12 1,oF 13 2 2,oL 14 13,o 15 (.len true (.t 14)),oB 16 .sub 12 15,oM 1 16] (.seq (rg [oM 17 1,oE 18 .lss 17 0] (oG 18 (rg [o 4 (.mov (ki (-1)))] .ret))) (rg [oM 19 1,oM 4 19] .ret))))))⟩
theorem Aay:A2 Tryz.prog 286=some A2o:=by kernel_rfl
theorem A7o (U:St) (x:Live) (n:Int) (hw:Adz x) (h0:0<=n) (h1:n<=1099511627776):Ret Tryz.prog 286 [.agg [.bool x.map,.str x.obj,.str x.key,.int .i64 x.val,.int .i64 x.dot.rep,.int .i64 x.dot.seq],gi n] U (gi (lf n (Bl x))) U:=by
 obtain⟨w0,w1⟩:=hw
 refine Ac Aay (Z0z rfl) trivial ?_
 simp +contextual (disch:=omega) only[go_sem,A2o,Zaa]
 refine⟨fun hn=> ?_,fun hn=> ?_⟩
 ·have hn:=of_decide_eq_true hn
  unfold Bl lf;rw[if_pos (by omega)]
 have hn:=of_decide_eq_false hn
 try simp(disch:=omega) only[Ag]
 refine⟨fun hn=> ?_,fun hn=> ?_⟩
 ·have hn:=of_decide_eq_true hn
  unfold Bl lf;rw[if_pos (by omega)]
 have hn:=of_decide_eq_false hn
 try simp(disch:=omega) only[Ag]
 unfold Bl;rw[show lf n (x.obj.size+x.key.size)=n - ((x.obj.size+x.key.size:Nat):Int) by unfold lf;rw[if_neg (by omega)]];try omega
def X5:Fn1:=⟨27,[.t 4],(rg [oV 4 (ki 0)] (rg [oM 6 1,oM 7 0,oN 8 7,oB 9 .sub 6 8,oM 1 9] (.seq (rg [oM 10 1,oE 11 .lss 10 0] (oG 11 (rg [o 4 (.mov (ki (-1)))] .ret))) (.seq (rg [oV 5 (ki 0)] (oH 0 (.seq (rg [oM 12 5,oM 13 0,oN 14 13,oB 15 .lss 12 14] (oJ 15 0)) (.seq (.blk 1 (rg [oM 18 0,oM 19 5,oI 20 6 18 19,oW 21 6 20,oM 22 1,oD 23 286 21 22,oM 1 23] (rg [oM 24 1,oE 25 .lss 24 0] (oG 25 (rg [o 4 (.mov (ki (-1)))] .ret))))) (.reg [oM 16 5,oZ 17 16 1,oM 5 17]))))) (rg [oM 26 1,oM 4 26] .ret)))))⟩
theorem A7p:A2 Tryz.prog 219=some X5:=by kernel_rfl
theorem O6 (U:St) (v:GV) (l:List Live) (hR:RS Dh.kd U v l) (n:Int) (hw:l.length<=9223372036854775807/\∀ y∈l,Adz y) (h0:0<=n) (h1:n<=1099511627776):Ret Tryz.prog 219 [v,gi n] U (gi (lf n (l.length+sumL Bl l))) U:=by
 obtain⟨wl,we⟩:=hw
 refine Ac A7p (Z0z rfl) trivial ?_
 simp +contextual (disch:=omega) only[go_sem,X5,hR.len]
 refine⟨fun hn=> ?_,fun hn=> ?_⟩
 ·have hn:=of_decide_eq_true hn
  unfold lf;rw[if_pos (by omega)]
 have hn:=of_decide_eq_false hn
 refine Ay l.length 5 (fun i env N=>∃ m:Int,env 0=v/\env 1=gi m/\m=n - l.length - sumL Bl (l.take i)/\0<=m/\U <+: N) rfl ⟨n - l.length,rfl,rfl,by simp[sumL],by omega,Zaf _⟩ ?_ ?_
 ·rintro i env N hi e5 c0 ⟨m,e0,e1,em,hm,hp⟩
  have h1:=hR.pre hp
  have hs:=Fn (f:=Bl) hi
  have hst:=C9 Bl l (i+1)
  simp +contextual (disch:=omega) only[go_sem,c0,e0,e1,e5,hR.len,A3 h1 hi]
  refine A5 (A7o N l[i] m (we _ (Zag hi)) hm (by omega)) ?_
  simp +contextual (disch:=omega) only[go_sem,c0,e0,e1,e5,hp]
  have g0:= @Co m (Bl l[i]) hm
  have g1:= @A4h m (Bl l[i])
  refine⟨fun hn=> ?_,fun hn=> ?_⟩
  ·have hn:=Bi.1 (of_decide_eq_true hn)
   unfold lf;rw[if_pos (by omega)]
  ·have hn:=of_decide_eq_false hn
   have f:=Ar hn
   exact⟨_,rfl,by omega,by omega⟩
 ·rintro env N e5 c0 ⟨m,e0,e1,em,hm,hp⟩
  rw[Zab] at em
  simp +contextual (disch:=omega) only[go_sem,c0,e0,e1,e5,hR.len,hp]
  unfold lf;rw[if_neg (by omega)];omega
def X7:Fn1:=⟨13,[.t 4],(rg [oX 2 0,oV 4 (ki 0)] (rg [oM 5 1,oF 6 0 2,oL 7 6,o 8 (.len true (.t 7)),oB 9 .sub 5 8,oM 1 9] (.seq (rg [oM 10 1,oE 11 .lss 10 0] (oG 11 (rg [o 4 (.mov (ki (-1)))] .ret))) (rg [oM 12 1,oM 4 12] .ret))))⟩
theorem A7q:A2 Tryz.prog 285=some X7:=by kernel_rfl
theorem A52 (U:St) (x:Tally) (n:Int) (hw:Ts x) (h0:0<=n) (h1:n<=1099511627776):Ret Tryz.prog 285 [.agg [.str x.obj,.int .i64 x.rep,.int .i64 x.sum],gi n] U (gi (lf n (Av x))) U:=by
 have w0:=hw;unfold Ts at w0
 refine Ac A7q (Z0z rfl) trivial ?_
 simp +contextual (disch:=omega) only[go_sem,X7,Zaa]
 refine⟨fun hn=> ?_,fun hn=> ?_⟩
 ·have hn:=of_decide_eq_true hn
  unfold Av lf;rw[if_pos (by omega)]
 have hn:=of_decide_eq_false hn
 try simp(disch:=omega) only[Ag]
 unfold Av;rw[show lf n (x.obj.size)=n - ((x.obj.size:Nat):Int) by unfold lf;rw[if_neg (by omega)]];try omega
def Rq:Fn1:=⟨27,[.t 4],(rg [oV 4 (ki 0)] (rg [oM 6 1,oM 7 0,oN 8 7,oB 9 .sub 6 8,oM 1 9] (.seq (rg [oM 10 1,oE 11 .lss 10 0] (oG 11 (rg [o 4 (.mov (ki (-1)))] .ret))) (.seq (rg [oV 5 (ki 0)] (oH 0 (.seq (rg [oM 12 5,oM 13 0,oN 14 13,oB 15 .lss 12 14] (oJ 15 0)) (.seq (.blk 1 (rg [oM 18 0,oM 19 5,oI 20 3 18 19,oW 21 3 20,oM 22 1,oD 23 285 21 22,oM 1 23] (rg [oM 24 1,oE 25 .lss 24 0] (oG 25 (rg [o 4 (.mov (ki (-1)))] .ret))))) (.reg [oM 16 5,oZ 17 16 1,oM 5 17]))))) (rg [oM 26 1,oM 4 26] .ret)))))⟩
theorem A53:A2 Tryz.prog 218=some Rq:=by kernel_rfl
theorem Ll (U:St) (v:GV) (l:List Tally) (hR:RS E7.kd U v l) (n:Int) (hw:l.length<=9223372036854775807/\∀ y∈l,Ts y) (h0:0<=n) (h1:n<=1099511627776):Ret Tryz.prog 218 [v,gi n] U (gi (lf n (l.length+sumL Av l))) U:=by
 obtain⟨wl,we⟩:=hw
 refine Ac A53 (Z0z rfl) trivial ?_
 simp +contextual (disch:=omega) only[go_sem,Rq,hR.len]
 refine⟨fun hn=> ?_,fun hn=> ?_⟩
 ·have hn:=of_decide_eq_true hn
  unfold lf;rw[if_pos (by omega)]
 have hn:=of_decide_eq_false hn
 refine Ay l.length 5 (fun i env N=>∃ m:Int,env 0=v/\env 1=gi m/\m=n - l.length - sumL Av (l.take i)/\0<=m/\U <+: N) rfl ⟨n - l.length,rfl,rfl,by simp[sumL],by omega,Zaf _⟩ ?_ ?_
 ·rintro i env N hi e5 c0 ⟨m,e0,e1,em,hm,hp⟩
  have h1:=hR.pre hp
  have hs:=Fn (f:=Av) hi
  have hst:=C9 Av l (i+1)
  simp +contextual (disch:=omega) only[go_sem,c0,e0,e1,e5,hR.len,Aa h1 hi]
  refine A5 (A52 N l[i] m (we _ (Zag hi)) hm (by omega)) ?_
  simp +contextual (disch:=omega) only[go_sem,c0,e0,e1,e5,hp]
  have g0:= @Co m (Av l[i]) hm
  have g1:= @A4h m (Av l[i])
  refine⟨fun hn=> ?_,fun hn=> ?_⟩
  ·have hn:=Bi.1 (of_decide_eq_true hn)
   unfold lf;rw[if_pos (by omega)]
  ·have hn:=of_decide_eq_false hn
   have f:=Ar hn
   exact⟨_,rfl,by omega,by omega⟩
 ·rintro env N e5 c0 ⟨m,e0,e1,em,hm,hp⟩
  rw[Zab] at em
  simp +contextual (disch:=omega) only[go_sem,c0,e0,e1,e5,hR.len,hp]
  unfold lf;rw[if_neg (by omega)];omega
def X9:Fn1:=⟨30,[.t 4],(rg [oX 2 0,oV 4 (ki 0)] (rg [oF 5 0 2,oL 6 5,oM 7 1,oD 8 22 6 7,oM 1 8] (.seq (rg [oM 9 1,oE 10 .lss 9 0] (oG 10 (rg [o 4 (.mov (ki (-1)))] .ret))) (rg [oF 11 1 2,oL 12 11,oM 13 1,oD 14 218 12 13,oM 1 14] (.seq (rg [oM 15 1,oE 16 .lss 15 0] (oG 16 (rg [o 4 (.mov (ki (-1)))] .ret))) (rg [oF 17 2 2,oL 18 17,oM 19 1,oD 20 219 18 19,oM 1 20] (.seq (rg [oM 21 1,oE 22 .lss 21 0] (oG 22 (rg [o 4 (.mov (ki (-1)))] .ret))) (rg [oF 23 3 2,oL 24 23,oM 25 1,oD 26 220 24 25,oM 1 26] (.seq (rg [oM 27 1,oE 28 .lss 27 0] (oG 28 (rg [o 4 (.mov (ki (-1)))] .ret))) (rg [oM 29 1,oM 4 29] .ret))))))))))⟩
theorem A7r:A2 Tryz.prog 146=some X9:=by kernel_rfl
theorem O7 (U:St) (cs:List GV) (x:State) (hR:Ab.R U x cs) (n:Int) (hw:Acx x) (h0:0<=n) (h1:n<=1099511627776):Ret Tryz.prog 146 [.agg cs,gi n] U (gi (lf n (A7 x))) U:=by
 obtain⟨v0,v1,v2,v3,rfl,q0,q1,q2,q3⟩:=hR
 obtain⟨w0,w1,w2,w3⟩:=hw
 refine Ac A7r (Z0z rfl) trivial ?_
 simp +contextual (disch:=omega) only[go_sem,X9,Zaa]
 refine A5 (Cy _ v0 x.know (q0.pre (pre1 _ _)) (n) w0 (by omega) (by omega)) ?_
 simp +contextual (disch:=omega) only[go_sem,Zaa]
 have g0:= @Co (n) (x.know.length) (by omega)
 refine⟨fun hn=> ?_,fun hn=> ?_⟩
 ·have hn:=of_decide_eq_true hn
  have hn:=Bi.1 hn
  unfold A7 lf;rw[if_pos (by omega)]
 have hn:=of_decide_eq_false hn
 have f0:=Ar hn
 try simp(disch:=omega) only[Ag]
 refine A5 (Ll _ v1 x.tallies (q1.pre (pre1 _ _)) (lf (n) (x.know.length)) w1 (by omega) (by omega)) ?_
 simp +contextual (disch:=omega) only[go_sem,Zaa]
 have g1:= @Co (lf (n) (x.know.length)) ((x.tallies.length+sumL Av x.tallies)) (by omega)
 refine⟨fun hn=> ?_,fun hn=> ?_⟩
 ·have hn:=of_decide_eq_true hn
  have hn:=Bi.1 hn
  unfold A7 lf;rw[if_pos (by omega)]
 have hn:=of_decide_eq_false hn
 have f1:=Ar hn
 try simp(disch:=omega) only[Ag]
 refine A5 (O6 _ v2 x.lives (q2.pre (pre1 _ _)) (lf (lf (n) (x.know.length)) ((x.tallies.length+sumL Av x.tallies))) w2 (by omega) (by omega)) ?_
 simp +contextual (disch:=omega) only[go_sem,Zaa]
 have g2:= @Co (lf (lf (n) (x.know.length)) ((x.tallies.length+sumL Av x.tallies))) ((x.lives.length+sumL Bl x.lives)) (by omega)
 refine⟨fun hn=> ?_,fun hn=> ?_⟩
 ·have hn:=of_decide_eq_true hn
  have hn:=Bi.1 hn
  unfold A7 lf;rw[if_pos (by omega)]
 have hn:=of_decide_eq_false hn
 have f2:=Ar hn
 try simp(disch:=omega) only[Ag]
 refine A5 (O5 _ v3 x.cells (q3.pre (pre1 _ _)) (lf (lf (lf (n) (x.know.length)) ((x.tallies.length+sumL Av x.tallies))) ((x.lives.length+sumL Bl x.lives))) w3 (by omega) (by omega)) ?_
 simp +contextual (disch:=omega) only[go_sem,Zaa]
 have g3:= @Co (lf (lf (lf (n) (x.know.length)) ((x.tallies.length+sumL Av x.tallies))) ((x.lives.length+sumL Bl x.lives))) ((x.cells.length+sumL Cj x.cells)) (by omega)
 refine⟨fun hn=> ?_,fun hn=> ?_⟩
 ·have hn:=of_decide_eq_true hn
  have hn:=Bi.1 hn
  unfold A7 lf;rw[if_pos (by omega)]
 have hn:=of_decide_eq_false hn
 have f3:=Ar hn
 try simp(disch:=omega) only[Ag]
 unfold A7;rw[show lf n (x.know.length+(x.tallies.length+sumL Av x.tallies)+(x.lives.length+sumL Bl x.lives)+(x.cells.length+sumL Cj x.cells))=n - ((x.know.length+(x.tallies.length+sumL Av x.tallies)+(x.lives.length+sumL Bl x.lives)+(x.cells.length+sumL Cj x.cells):Nat):Int) by unfold lf;rw[if_neg (by omega)]];try omega
def Rr:Fn1:=⟨18,[.t 4],(rg [oX 2 0,oV 4 (ki 0)] (rg [oF 5 2 2,oL 6 5,oM 7 1,oD 8 22 6 7,oM 1 8] (.seq (rg [oM 9 1,oE 10 .lss 9 0] (oG 10 (rg [o 4 (.mov (ki (-1)))] .ret))) (rg [oF 11 3 2,oW 12 4 11,oM 13 1,oD 14 146 12 13,oM 1 14] (.seq (rg [oM 15 1,oE 16 .lss 15 0] (oG 16 (rg [o 4 (.mov (ki (-1)))] .ret))) (rg [oM 17 1,oM 4 17] .ret))))))⟩
theorem A54:A2 Tryz.prog 221=some Rr:=by kernel_rfl
theorem A0z (U:St) (cs:List GV) (x:Commit) (hR:Bq.R U x cs) (n:Int) (hw:Tt x) (h0:0<=n) (h1:n<=1099511627776):Ret Tryz.prog 221 [.agg cs,gi n] U (gi (lf n (Az x))) U:=by
 obtain⟨v1,v2,rfl,q1,q2⟩:=hR
 obtain⟨w0,w1⟩:=hw
 have a2:=q2
 obtain⟨d0,d1,d2,d3,rfl,_⟩:=q2
 suffices key:Ret Tryz.prog 221 [.agg [.int .i64 x.id.rep,.int .i64 x.id.seq,v1,d0,d1,d2,d3],gi n] U (gi (lf n (Az x))) U from key
 refine Ac A54 (Z0z rfl) trivial ?_
 simp +contextual (disch:=omega) only[go_sem,Rr,Zaa]
 refine A5 (Cy _ v1 x.ups (q1.pre (pre1 _ _)) (n) w0 (by omega) (by omega)) ?_
 simp +contextual (disch:=omega) only[go_sem,Zaa]
 have g0:= @Co (n) (x.ups.length) (by omega)
 refine⟨fun hn=> ?_,fun hn=> ?_⟩
 ·have hn:=of_decide_eq_true hn
  have hn:=Bi.1 hn
  unfold Az lf;rw[if_pos (by omega)]
 have hn:=of_decide_eq_false hn
 have f0:=Ar hn
 try simp(disch:=omega) only[Ag]
 refine A5 (O7 _ _ x.state (Ab.pre a2 (pre1 _ _)) (lf (n) (x.ups.length)) w1 (by omega) (by omega)) ?_
 simp +contextual (disch:=omega) only[go_sem,Zaa]
 have g1:= @Co (lf (n) (x.ups.length)) (A7 x.state) (by omega)
 refine⟨fun hn=> ?_,fun hn=> ?_⟩
 ·have hn:=of_decide_eq_true hn
  have hn:=Bi.1 hn
  unfold Az lf;rw[if_pos (by omega)]
 have hn:=of_decide_eq_false hn
 have f1:=Ar hn
 try simp(disch:=omega) only[Ag]
 unfold Az;rw[show lf n (x.ups.length+A7 x.state)=n - ((x.ups.length+A7 x.state:Nat):Int) by unfold lf;rw[if_neg (by omega)]];try omega
def O9:Fn1:=⟨27,[.t 4],(rg [oV 4 (ki 0)] (rg [oM 6 1,oM 7 0,oN 8 7,oB 9 .sub 6 8,oM 1 9] (.seq (rg [oM 10 1,oE 11 .lss 10 0] (oG 11 (rg [o 4 (.mov (ki (-1)))] .ret))) (.seq (rg [oV 5 (ki 0)] (oH 0 (.seq (rg [oM 12 5,oM 13 0,oN 14 13,oB 15 .lss 12 14] (oJ 15 0)) (.seq (.blk 1 (rg [oM 18 0,oM 19 5,oI 20 7 18 19,oW 21 7 20,oM 22 1,oD 23 221 21 22,oM 1 23] (rg [oM 24 1,oE 25 .lss 24 0] (oG 25 (rg [o 4 (.mov (ki (-1)))] .ret))))) (.reg [oM 16 5,oZ 17 16 1,oM 5 17]))))) (rg [oM 26 1,oM 4 26] .ret)))))⟩
theorem A10:A2 Tryz.prog 147=some O9:=by kernel_rfl
theorem Xa (U:St) (v:GV) (l:List Commit) (hR:RS Bq U v l) (n:Int) (hw:l.length<=9223372036854775807/\∀ y∈l,Tt y) (h0:0<=n) (h1:n<=1099511627776):Ret Tryz.prog 147 [v,gi n] U (gi (lf n (l.length+sumL Az l))) U:=by
 obtain⟨wl,we⟩:=hw
 refine Ac A10 (Z0z rfl) trivial ?_
 simp +contextual (disch:=omega) only[go_sem,O9,hR.len]
 refine⟨fun hn=> ?_,fun hn=> ?_⟩
 ·have hn:=of_decide_eq_true hn
  unfold lf;rw[if_pos (by omega)]
 have hn:=of_decide_eq_false hn
 refine Ay l.length 5 (fun i env N=>∃ m:Int,env 0=v/\env 1=gi m/\m=n - l.length - sumL Az (l.take i)/\0<=m/\U <+: N) rfl ⟨n - l.length,rfl,rfl,by simp[sumL],by omega,Zaf _⟩ ?_ ?_
 ·rintro i env N hi e5 c0 ⟨m,e0,e1,em,hm,hp⟩
  have h1:=hR.pre hp
  have hs:=Fn (f:=Az) hi
  have hst:=C9 Az l (i+1)
  obtain⟨cs,hc,hcr⟩:=Ks h1 hi
  simp +contextual (disch:=omega) only[go_sem,c0,e0,e1,e5,hR.len,hc]
  refine A5 (A0z N cs l[i] hcr m (we _ (Zag hi)) hm (by omega)) ?_
  simp +contextual (disch:=omega) only[go_sem,c0,e0,e1,e5,hp]
  have g0:= @Co m (Az l[i]) hm
  have g1:= @A4h m (Az l[i])
  refine⟨fun hn=> ?_,fun hn=> ?_⟩
  ·have hn:=Bi.1 (of_decide_eq_true hn)
   unfold lf;rw[if_pos (by omega)]
  ·have hn:=of_decide_eq_false hn
   have f:=Ar hn
   exact⟨_,rfl,by omega,by omega⟩
 ·rintro env N e5 c0 ⟨m,e0,e1,em,hm,hp⟩
  rw[Zab] at em
  simp +contextual (disch:=omega) only[go_sem,c0,e0,e1,e5,hR.len,hp]
  unfold lf;rw[if_neg (by omega)];omega
def Xc:Fn1:=⟨12,[.t 4],(rg [oX 2 0,oV 4 (ki 0)] (rg [oF 5 0 2,oL 6 5,oM 7 1,oD 8 147 6 7,oM 1 8] (.seq (rg [oM 9 1,oE 10 .lss 9 0] (oG 10 (rg [o 4 (.mov (ki (-1)))] .ret))) (rg [oM 11 1,oM 4 11] .ret))))⟩
theorem A7s:A2 Tryz.prog 99=some Xc:=by kernel_rfl
theorem A55 (U:St) (cs:List GV) (x:Graph) (hR:E8.R U x cs) (n:Int) (hw:Acy x) (h0:0<=n) (h1:n<=1099511627776):Ret Tryz.prog 99 [.agg cs,gi n] U (gi (lf n (Cc x))) U:=by
 obtain⟨v0,rfl,q0⟩:=hR
 have w0:=hw;unfold Acy at w0
 refine Ac A7s (Z0z rfl) trivial ?_
 simp +contextual (disch:=omega) only[go_sem,Xc,Zaa]
 refine A5 (Xa _ v0 x.commits (q0.pre (pre1 _ _)) (n) w0 (by omega) (by omega)) ?_
 simp +contextual (disch:=omega) only[go_sem,Zaa]
 have g0:= @Co (n) ((x.commits.length+sumL Az x.commits)) (by omega)
 refine⟨fun hn=> ?_,fun hn=> ?_⟩
 ·have hn:=of_decide_eq_true hn
  have hn:=Bi.1 hn
  unfold Cc lf;rw[if_pos (by omega)]
 have hn:=of_decide_eq_false hn
 have f0:=Ar hn
 try simp(disch:=omega) only[Ag]
 unfold Cc;rw[show lf n ((x.commits.length+sumL Az x.commits))=n - (((x.commits.length+sumL Az x.commits):Nat):Int) by unfold lf;rw[if_neg (by omega)]];try omega
def A7u:Fn1:=⟨26,[.t 4],(rg [oX 2 0,oV 4 (ki 0)] (rg [oF 5 3 2,oL 6 5,oM 7 1,oD 8 22 6 7,oM 1 8] (.seq (rg [oM 9 1,oE 10 .lss 9 0] (oG 10 (rg [o 4 (.mov (ki (-1)))] .ret))) (rg [oM 11 1,oF 12 5 2,oL 13 12,o 14 (.len true (.t 13)),oB 15 .sub 11 14,oM 1 15] (.seq (rg [oM 16 1,oE 17 .lss 16 0] (oG 17 (rg [o 4 (.mov (ki (-1)))] .ret))) (rg [oM 18 1,oF 19 6 2,oL 20 19,o 21 (.len true (.t 20)),oB 22 .sub 18 21,oM 1 22] (.seq (rg [oM 23 1,oE 24 .lss 23 0] (oG 24 (rg [o 4 (.mov (ki (-1)))] .ret))) (rg [oM 25 1,oM 4 25] .ret))))))))⟩
theorem Ae8:A2 Tryz.prog 222=some A7u:=by kernel_rfl
theorem Aaz (U:St) (cs:List GV) (x:Act) (hR:kAct.R U x cs) (n:Int) (hw:wAct x) (h0:0<=n) (h1:n<=1099511627776):Ret Tryz.prog 222 [.agg cs,gi n] U (gi (lf n (L7 x))) U:=by
 obtain⟨v2,rfl,q2⟩:=hR
 obtain⟨w0,w1,w2⟩:=hw
 refine Ac Ae8 (Z0z rfl) trivial ?_
 simp +contextual (disch:=omega) only[go_sem,A7u,Zaa]
 refine A5 (Cy _ v2 x.knew (q2.pre (pre1 _ _)) (n) w0 (by omega) (by omega)) ?_
 simp +contextual (disch:=omega) only[go_sem,Zaa]
 have g0:= @Co (n) (x.knew.length) (by omega)
 refine⟨fun hn=> ?_,fun hn=> ?_⟩
 ·have hn:=of_decide_eq_true hn
  have hn:=Bi.1 hn
  unfold L7 lf;rw[if_pos (by omega)]
 have hn:=of_decide_eq_false hn
 have f0:=Ar hn
 try simp(disch:=omega) only[Ag]
 refine⟨fun hn=> ?_,fun hn=> ?_⟩
 ·have hn:=of_decide_eq_true hn
  unfold L7 lf;rw[if_pos (by omega)]
 have hn:=of_decide_eq_false hn
 try simp(disch:=omega) only[Ag]
 refine⟨fun hn=> ?_,fun hn=> ?_⟩
 ·have hn:=of_decide_eq_true hn
  unfold L7 lf;rw[if_pos (by omega)]
 have hn:=of_decide_eq_false hn
 try simp(disch:=omega) only[Ag]
 unfold L7;rw[show lf n (x.knew.length+x.obj.size+x.key.size)=n - ((x.knew.length+x.obj.size+x.key.size:Nat):Int) by unfold lf;rw[if_neg (by omega)]];try omega
def A2q:Fn1:=⟨12,[.t 4],(rg [oV 4 (ki 0)] (rg [oM 5 1,oM 6 0,oN 7 6,oB 8 .sub 5 7,oM 1 8] (.seq (rg [oM 9 1,oE 10 .lss 9 0] (oG 10 (rg [o 4 (.mov (ki (-1)))] .ret))) (rg [oM 11 1,oM 4 11] .ret))))⟩
theorem Ab0:A2 Tryz.prog 288=some A2q:=by kernel_rfl
theorem A7v (U:St) (v:GV) (l:List Dot) (hR:RS pDot.kd U v l) (n:Int) (hw:l.length<=9223372036854775807) (h0:0<=n) (h1:n<=1099511627776):Ret Tryz.prog 288 [v,gi n] U (gi (lf n l.length)) U:=by
 refine Ac Ab0 (Z0z rfl) trivial ?_
 simp +contextual (disch:=omega) only[go_sem,A2q,hR.len]
 refine⟨fun h=> ?_,fun h=> ?_⟩
 ·rw[lf,if_pos (of_decide_eq_true h)]
 ·rw[lf,if_neg (of_decide_eq_false h)]
end Go.Proofs.YtckobfochhjmdaaGreatDoor.Sy
