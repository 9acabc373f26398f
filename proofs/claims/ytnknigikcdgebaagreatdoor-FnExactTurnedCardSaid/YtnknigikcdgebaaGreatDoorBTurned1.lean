/- Texts of this proof, one behind the other. -/
import Derived.Test.YtnknigikcdgebaaGreatDoorBC
import Derived.Test.YtnknigikcdgebaaGreatDoorProg
import Derived.KernelRfl
import Derived.Shelf.Strings.OnBuilder
import Derived.Shelf.Strconv.Itoa3
import Derived.Lib.SmallJoins
import Derived.Lib.ItoaLen
set_option linter.unusedSimpArgs false
set_option linter.unusedVariables false
set_option maxRecDepth 4000
set_option maxHeartbeats 4000000
open List renaming append_nil→Zaa,prefix_refl→Zab,take_length→Zac,getElem?_eq_some_iff→Zad,set_cons_zero→Zae,replicate→Zag,set_cons_succ→Zah,getElem_mem→Zak,mem_cons_self→Zam,append_assoc→Zao,prefix_append→Zaq,nil_append→Zar,mem_cons_of_mem→Zas,getElem_of_mem→Zat,filterMap_cons→Zau,getElem?_eq_getElem→Zav,findIdx?_eq_some_iff_getElem→Zax,getElem?_map→Zay,take_zero→Zaz,length_cons→Za0,map_cons→Za1,map_append→Za2,replicate_succ→Za3,drop_eq_getElem_cons→Za5,pairwise_iff_getElem→Za6,findIdx?_eq_none_iff→Za7,eraseIdx_cons_succ→Za8,eraseIdx_cons_zero→Za9,take_of_length_le→Zba,set_append_right→Zbb,length_nil→Zbc,nodup_append→Zbf,cons_append→Zbi,length_take→Zbj,sum_append→Zbk,nodup_cons→Zbl
open Option renaming bind_some→Zaf,map_some→Zap,some→Zbm
open Nat renaming le_refl→Zai,le_trans→Zan,sub_zero→Za4,add_sub_cancel→Zbe,lt_or_ge→Zbh
open Bool renaming and_eq_true→Zaj,eq_iff_iff→Zal,or_eq_true→Zaw,false_eq_true→Zbd
open Int renaming lt_trichotomy→Zbg
namespace Go.Proofs.YtnknigikcdgebaaGreatDoor.Sy
open Go Go.RowKit
def lf (n:Int) (m:Nat):Int:=if n - m<0 then -1 else n - m
theorem Mo {n:Int} {m:Nat}:lf n m<0↔n<m:=by unfold lf;split<;>omega
theorem Fe {n:Int} {m:Nat} (h:¬ lf n m<0):lf n m=n - m:=by unfold lf at *;split at h<;>first|omega|(rw [if_neg ‹_›])
theorem Pu {n:Int} {m:Nat} (h:0<=n):lf n m<=n:=by unfold lf;split<;>omega
theorem A3y {n:Int} {m:Nat}: -1<=lf n m:=by unfold lf;split<;>omega
def sumL {Y:Type} (f:Y->Nat) (l:List Y):Nat:=(l.map f).sum
theorem Ka {Y:Type} {f:Y->Nat} {l:List Y} {i:Nat} (h:i<l.length):sumL f (l.take (i+1))=sumL f (l.take i)+f l[i]:=by
 unfold sumL;rw[B7 h,Za2,Zbk];simp
theorem Fn {Y:Type} (f:Y->Nat) (l:List Y) (i:Nat):sumL f (l.take i)<=sumL f l:=by
 have:sumL f l=sumL f (l.take i)+sumL f (l.drop i):=by
  conv=>lhs;rw[<- List.take_append_drop i l]
  unfold sumL;rw[Za2,Zbk]
 omega
theorem Ee {Y:Type} {f:Y->Nat} {l:List Y} {x:Y} (h:x∈l):f x<=sumL f l:=by
 induction l with
 |nil=>simp at h
 |cons y l ih=>
  simp only[sumL,Za1,List.sum_cons] at*
  rcases List.mem_cons.1 h with rfl|h
  ·omega
  ·have:=ih h;omega
theorem Aa0 {z i:Nat} {v:GV}:fld 0 (atz z v i)=atz z v i:=by
 cases v<;>rfl
theorem Kb {Y:Type} (p:Pl Y) (x:Y) (n:Nat):reps n (p.enc x)=p.cells (Zag n x):=by
 unfold reps
 induction n with
 |zero=>rfl
 |succ n ih=>
  rw[Za3,List.flatten_cons,ih,Za3];rfl
theorem I1 {Y:Type} {l:List Y} {z:Y} {i:Nat} (h:i<l.length):(l.take i++Zag (l.length - i) z).set i l[i]=l.take (i+1)++Zag (l.length - (i+1)) z:=by
 rw[B7 h,Zbb _ _ (by simp;omega)]
 have e1:i - (l.take i).length=0:=by simp;omega
 rw[e1,show l.length - i=(l.length - (i+1))+1 by omega,Za3,Zae,Zao]
 rfl
theorem Kc {Y:Type} {l:List Y} {z:Y} {i:Nat} (h:i<l.length):i<(l.take i++Zag (l.length - i) z).length:=by simp;omega
theorem Ke {Y:Type} {l:List Y} {z:Y}:l.take l.length++Zag (l.length - l.length) z=l:=by simp
def mkF {Y:Type} (e:Int->Y) (c:Nat) (k:Int) (n:Nat):List Y:=(List.range n).map fun j:Nat=>e (k+c*j)
theorem Bi {Y:Type} {e:Int->Y} {c:Nat} {k:Int} {n:Nat}:(mkF e c k n).length=n:=by simp[mkF]
theorem A8o {Y:Type} {e:Int->Y} {c:Nat} {k:Int} {n j:Nat} (h:j<(mkF e c k n).length):(mkF e c k n)[j]=e (k+c*j):=by simp[mkF]
theorem I2 {Y:Type} {l:List Y} {e:Int->Y} {c:Nat} {k:Int} {i:Nat} (h:i<l.length):((mkF e c k l.length).take i++l.drop i).set i (e (k+c*i))=(mkF e c k l.length).take (i+1)++l.drop (i+1):=by
 have hki:i<(mkF e c k l.length).length:=by rw[Bi];exact h
 rw[B7 hki,A8o,Zbb _ _ (by simp[Bi];omega)]
 have e1:i - ((mkF e c k l.length).take i).length=0:=by simp[Bi];omega
 rw[e1,Za5 h,Zae,Zao]
 rfl
theorem Kf {Y:Type} {l:List Y} {e:Int->Y} {c:Nat} {k:Int} {i:Nat}:((mkF e c k l.length).take i++l.drop i).length=l.length:=by simp[Bi];omega
theorem Kg {Y:Type} {l:List Y} {e:Int->Y} {c:Nat} {k:Int}:(mkF e c k l.length).take l.length++l.drop l.length=mkF e c k l.length:=by
 rw[Zba (by rw[Bi];omega)];simp
namespace Hp
theorem sts {Y:Type} {p:Pl Y} {N U:St} {rs:List Thg} {v:GV} {L:List Y} {j:Nat} {y:Y} (H:Hp N U (ow p.kd v (L.set j y)::rs)) (hj:j<L.length) (n k:Nat) (x:GV) (y':Y) (hx:x.cells.length=n) (hn:0<n) (hk:k+n<=p.z) (hy:p.enc y'=Am (p.enc y) k x.cells):
  ∃ U',stG n U (fld k (atz p.z v j)) x=some (.tup [],U')/\Hp N U' (ow p.kd v (L.set j y')::rs):=by
 obtain⟨U',e,h⟩:=H.ste 0 rfl (j:=j) (by simpa using hj) n k x y' hx hn hk (by rw[List.getElem_set_self];exact hy)
 refine⟨U',e,?_⟩
 have h:Hp N U' (ow p.kd v ((L.set j y).set j y')::rs):=h
 rw[List.set_set] at h;exact h
end Hp
theorem Pd {Y:Type} {l:List Y} {i:Nat} (h:i<l.length):l=l.set i l[i]:=by rw[List.set_getElem_self]
def figs (n:Nat):List Int:=if n=0 then[] else figs (n / 10)++[48+((n % 10:Nat):Int)]
termination_by n
decreasing_by omega
def mtx (k:Int):ByteArray:=if k<=0 then⟨#[109,48]⟩ else⟨#[109]⟩++txt (figs k.toNat)
def Mq:Fn1:=⟨20,[.t 2],(rg [o 2 (.mov (.k s0))] (.seq (rg [oM 4 0,oE 5 .leq 4 0] (oG 5 (rg [o 2 (.mov (.k (.str ⟨#[109,48]⟩)))] .ret))) (rg [o 3 (.mov (.k s0))] (.seq (oH 0 (.seq (rg [oM 6 0,oE 7 .gtr 6 0] (oJ 7 0)) (.blk 1 (rg [oM 8 0,oE 9 .rem 8 10,o 10 (.bin .add (ki 48) (.t 9)),o 11 (.cvi .u8 (.t 10)),o 12 (.lit 1 1 [(.int .u8 0)] [(0,1,(.t 11))]),o 13 (.bts (.t 12)),oM 14 3,oB 15 .add 13 14,oM 3 15] (.reg [oM 16 0,oE 17 .quo 16 10,oM 0 17]))))) (rg [oM 18 3,o 19 (.bin .add (.k (.str ⟨#[109]⟩)) (.t 18)),oM 2 19] .ret)))))⟩
theorem Z2:A5 Tryz.prog 88=some Mq:=by kernel_rfl
theorem A3z (n:Nat):(figs n).length<=n:=by
 induction n using Nat.strongRecOn with
 |_ n ih=>
  unfold figs
  split
  ·simp
  ·have:=ih (n / 10) (by omega)
   simp;omega
theorem Z3 (l:List Int):(txt l).size=l.length:=by simp[txt,ByteArray.size]
theorem Aa1 (n:Nat) (h:0<n) (s:List Int):figs (n / 10)++((48+((n % 10:Nat):Int))::s)=figs n++s:=by
 conv=>rhs;unfold figs
 rw[if_neg (by omega)];simp
theorem Ac5 {U:St} {n:Int}:((elems (U++[some (.row 1 [.int .u8 n])]) 1 (.sl U.length 0 1)).bind fun r=>(Cn r.2).map fun bs=>GV.str ⟨bs.toArray⟩)=some (.str (txt [n])):=by
 refine Aas (.inr ⟨U.length,0,[.int .u8 n],rfl,by unfold rdB;simp[Blk.cells],by show 0+1*1<=1;omega,fun i x hx=> ?_⟩)
 cases i with
 |zero=>simp at hx;subst hx;rfl
 |succ i=>simp at hx
theorem Bz (N:St) (k:Int) (hk:k<=4611686018427387904):Ret Tryz.prog 88 [gi k] N (.str (mtx k)) N:=by
 refine Af Z2 (Z0z rfl) trivial ?_
 simp +contextual (disch:=omega) only[go_sem,Mq]
 refine⟨fun h=> ?_,fun h=> ?_⟩
 ·rw[mtx,if_pos (of_decide_eq_true h)]
 ·have h:=of_decide_eq_false h
  have hf:=A3z k.toNat
  refine Mm (fun q env U=>∃(s:List Int),env 0=gi q/\q<=k.toNat/\env 3= .str (txt s)/\figs q++s=figs k.toNat/\N <+: U) k.toNat ⟨[],by show gi k=_;rw[Int.toNat_of_nonneg (by omega)],Zai _,rfl,by simp,Zab _⟩ ?_
  rintro m env U ⟨s,e0,hmk,e3,hs,hp⟩
  have hsl:s.length<=k.toNat:=by have:=congrArg List.length hs;simp at this;omega
  rcases Nat.eq_zero_or_pos m with rfl|hm
  ·have hs':s=figs k.toNat:=by rw[<- hs,figs];simp
   have hsz:(⟨#[109]⟩:ByteArray).size=1:=rfl
   have hle:1+s.length<=9223372036854775807:=by omega
   simp +contextual (disch:=omega) only[go_sem,e0,e3,hp,Z3,hsz,hle,Int.natCast_zero,Int.lt_irrefl]
   rw[mtx,if_neg h,hs']
  ·have hgt:decide (0<(m:Int))=true:=by simp;omega
   have hle:1+s.length<=9223372036854775807:=by omega
   have hm10:(m:Int).tmod 10=((m % 10:Nat):Int):=by rw[Int.tmod_eq_emod_of_nonneg (by omega)];omega
   have hd10:(m:Int).tdiv 10=((m / 10:Nat):Int):=by rw[Int.tdiv_eq_ediv_of_nonneg (by omega)];omega
   have h10:((10:Int)=0)=False:=by simp
   have hw8:IntKind.u8.wrap (48+((m % 10:Nat):Int))=48+((m % 10:Nat):Int):=wrap8 (by omega) (by omega)
   simp +contextual (disch:=omega) only[go_sem,e0,e3,hgt,h10,hm10,hd10,hw8,hle,Ac5,Z3,<-A6z]
   refine⟨m / 10,by omega,_,rfl,by omega,rfl,?_,A0 hp _⟩
   rw[<- hs,<-Aa1 m hm]
def Bg (x:Tally):Nat:=x.obj.size
def Tx (x:Tally):Prop:=x.obj.size<=9223372036854775807
def C5 (x:Live):Nat:=x.obj.size+x.key.size
def A8p (x:Live):Prop:=x.obj.size<=9223372036854775807/\x.key.size<=9223372036854775807
def Dn (x:Cell):Nat:=x.obj.size
def A70 (x:Cell):Prop:=x.obj.size<=9223372036854775807
def Bb (x:Watch):Nat:=x.obj.size+x.key.size
def A5x (x:Watch):Prop:=x.obj.size<=9223372036854775807/\x.key.size<=9223372036854775807
instance:DecidableEq Act:=fun a b=>if h:a.dot=b.dot/\a.time=b.time/\a.knew=b.knew/\a.kind=b.kind/\a.obj=b.obj/\a.key=b.key/\a.val=b.val/\a.ref=b.ref then isTrue (by cases a;cases b;simp only at h;obtain⟨rfl,rfl,rfl,rfl,rfl,rfl,rfl,rfl⟩:=h;rfl) else isFalse (fun e=>h (by subst e;exact⟨rfl,rfl,rfl,rfl,rfl,rfl,rfl,rfl⟩))
def Aa (x:State):Nat:=x.know.length+(x.tallies.length+sumL Bg x.tallies)+(x.lives.length+sumL C5 x.lives)+(x.cells.length+sumL Dn x.cells)
def Aau (x:State):Prop:=x.know.length<=9223372036854775807/\(x.tallies.length<=9223372036854775807/\∀ y∈x.tallies,Tx y)/\(x.lives.length<=9223372036854775807/\∀ y∈x.lives,A8p y)/\(x.cells.length<=9223372036854775807/\∀ y∈x.cells,A70 y)
instance:DecidableEq State:=fun a b=>if h:a.know=b.know/\a.tallies=b.tallies/\a.lives=b.lives/\a.cells=b.cells then isTrue (by cases a;cases b;simp only at h;obtain⟨rfl,rfl,rfl,rfl⟩:=h;rfl) else isFalse (fun e=>h (by subst e;exact⟨rfl,rfl,rfl,rfl⟩))
theorem State.eq_iff {a b:State}:a=b↔a.know=b.know/\a.tallies=b.tallies/\a.lives=b.lives/\a.cells=b.cells:=⟨fun h=>by subst h;exact⟨rfl,rfl,rfl,rfl⟩,fun h=>by cases a;cases b;simp only at h;obtain⟨rfl,rfl,rfl,rfl⟩:=h;rfl⟩
instance:DecidableEq Delta:=fun a b=>if h:a.base=b.base/\a.know=b.know/\a.tallies=b.tallies/\a.lives=b.lives/\a.dead=b.dead/\a.cells=b.cells then isTrue (by cases a;cases b;simp only at h;obtain⟨rfl,rfl,rfl,rfl,rfl,rfl⟩:=h;rfl) else isFalse (fun e=>h (by subst e;exact⟨rfl,rfl,rfl,rfl,rfl,rfl⟩))
instance:DecidableEq Unit_:=fun a b=>if h:a.batch=b.batch/\a.act=b.act/\a.delta=b.delta then isTrue (by cases a;cases b;simp only at h;obtain⟨rfl,rfl,rfl⟩:=h;rfl) else isFalse (fun e=>h (by subst e;exact⟨rfl,rfl,rfl⟩))
instance:DecidableEq Log:=fun a b=>if h:a.rep=b.rep/\a.time=b.time/\a.state=b.state/\a.units=b.units/\a.waits=b.waits then isTrue (by cases a;cases b;simp only at h;obtain⟨rfl,rfl,rfl,rfl,rfl⟩:=h;rfl) else isFalse (fun e=>h (by subst e;exact⟨rfl,rfl,rfl,rfl,rfl⟩))
instance:DecidableEq Commit:=fun a b=>if h:a.id=b.id/\a.ups=b.ups/\a.state=b.state then isTrue (by cases a;cases b;simp only at h;obtain⟨rfl,rfl,rfl⟩:=h;rfl) else isFalse (fun e=>h (by subst e;exact⟨rfl,rfl,rfl⟩))
instance:DecidableEq Graph:=fun a b=>if h:a.commits=b.commits/\a.head=b.head then isTrue (by cases a;cases b;simp only at h;obtain⟨rfl,rfl⟩:=h;rfl) else isFalse (fun e=>h (by subst e;exact⟨rfl,rfl⟩))
instance:DecidableEq Replica:=fun a b=>if h:a.way=b.way/\a.log=b.log/\a.graph=b.graph/\a.file=b.file/\a.out=b.out then isTrue (by cases a;cases b;simp only at h;obtain⟨rfl,rfl,rfl,rfl,rfl⟩:=h;rfl) else isFalse (fun e=>h (by subst e;exact⟨rfl,rfl,rfl,rfl,rfl⟩))
instance:DecidableEq World_:=fun a b=>if h:a.replicas=b.replicas/\a.net=b.net/\a.codes=b.codes/\a.synced=b.synced then isTrue (by cases a;cases b;simp only at h;obtain⟨rfl,rfl,rfl,rfl⟩:=h;rfl) else isFalse (fun e=>h (by subst e;exact⟨rfl,rfl,rfl,rfl⟩))
instance:DecidableEq Script:=fun a b=>if h:a.ways=b.ways/\a.events=b.events/\a.calm=b.calm then isTrue (by cases a;cases b;simp only at h;obtain⟨rfl,rfl,rfl⟩:=h;rfl) else isFalse (fun e=>h (by subst e;exact⟨rfl,rfl,rfl⟩))
def Tz:Fn1:=⟨26,[.t 4],(rg [oV 4 kf] (.seq (rg [oM 6 0,oN 7 6,oM 8 1,oN 9 8,oB 10 .neq 7 9] (oG 10 (oR 4 kf))) (.seq (rg [oV 5 (ki 0)] (oH 0 (.seq (rg [oM 11 5,oM 12 0,oN 13 12,oB 14 .lss 11 13] (oJ 14 0)) (.seq (.blk 1 (dw [oM 17 0,oM 18 5,oI 19 1 17 18,oL 20 19,oM 21 1,oM 22 5,oI 23 1 21 22,oL 24 23] [oB 25 .neq 20 24] (oG 25 (oR 4 kf)))) (.reg [oM 15 5,oZ 16 15 1,oM 5 16]))))) (oR 4 kt))))⟩
theorem A40:A5 Tryz.prog 20=some Tz:=by kernel_rfl
theorem Fo (N:St) (v u:GV) (l m:List Int) (hv:RS pI.kd N v l) (hu:RS pI.kd N u m) (hl:l.length<=1099511627776):Ret Tryz.prog 20 [v,u] N (.bool (decide (l=m))) N:=by
 refine Af A40 (Z0z rfl) trivial ?_
 simp +contextual (disch:=omega) only[go_sem,Tz,hv.len,hu.len]
 refine⟨fun hn=> ?_,fun hn=> ?_⟩
 ·have:l≠m:=fun h=>by subst h;simp at hn
  simp[this]
 have hlm:l.length=m.length:=by
                    have h2:(l.length:Int)=m.length:=by simpa using hn
                    omega
 refine Aw l.length 5 (fun i env U=>env 0=v/\env 1=u/\l.take i=m.take i/\N <+: U) rfl ⟨rfl,rfl,rfl,Zab _⟩ ?_ ?_
 ·rintro i env U hi e5 c0 ⟨e0,e1,he,hp⟩
  have hj:i<m.length:=by omega
  have h1:=hv.pre hp
  have h2:=hu.pre hp
  have hne:l[i]≠m[i]->l≠m:=fun h h'=>h (by subst h';rfl)
  have hst:l[i]=m[i]->l.take (i+1)=m.take (i+1):=fun h=>by rw[B7 hi,B7 hj,he,h]
  simp +contextual (disch:=omega) only[go_sem,c0,e0,e1,e5,hv.len,hu.len,Fm h1 hi,Fm h2 hj,hp]
  refine⟨fun h=> ?_,fun h=> ?_⟩
  ·simp[hne (by simpa using h)]
  ·simpa using hst (by simpa using h)
 ·rintro env U e5 c0 ⟨e0,e1,he,hp⟩
  rw[Zac,hlm,Zac] at he
  simp +contextual (disch:=omega) only[go_sem,c0,e0,e1,e5,hv.len,hu.len,hp]
  simp[he]
def A15:Fn1:=⟨15,[.t 4],(rg [oX 2 0,oX 3 1,oV 4 kf] (.seq (rg [oF 5 0 2,oL 6 5,oF 7 0 3,oL 8 7,oB 9 .neq 6 8] (oG 9 (oR 4 kf))) (.seq (rg [oF 10 1 2,oL 11 10,oF 12 1 3,oL 13 12,oB 14 .neq 11 13] (oG 14 (oR 4 kf))) (oR 4 kt))))⟩
theorem A71:A5 Tryz.prog 253=some A15:=by kernel_rfl
theorem Ji (N:St) (x y:Dot):Ret Tryz.prog 253 [.agg [.int .i64 x.rep,.int .i64 x.seq],.agg [.int .i64 y.rep,.int .i64 y.seq]] N (.bool (decide (x=y))) N:=by
 refine Af A71 (Z0z rfl) trivial ?_
 simp +contextual (disch:=omega) only[go_sem,A15,Zaa]
 refine⟨fun hn=> ?_,fun hn=> ?_⟩
 ·simp only[Dot.eq_iff];simp at hn ⊢;simp[hn]
 have q0:x.rep=y.rep:=by simpa using hn
 refine⟨fun hn=> ?_,fun hn=> ?_⟩
 ·simp only[Dot.eq_iff];simp at hn ⊢;simp[hn]
 have q1:x.seq=y.seq:=by simpa using hn
 simp only[Dot.eq_iff,q0,q1,and_self,decide_true]
def V3:Fn1:=⟨37,[.t 4],(rg [oX 2 0,oX 3 1,oV 4 kf] (.seq (rg [oF 5 0 2,oL 6 5,oF 7 0 3,oL 8 7,oB 9 .neq 6 8] (oG 9 (oR 4 kf))) (.seq (rg [oF 10 1 2,oW 11 2 10,oF 12 1 3,oW 13 2 12,oD 14 253 11 13,oU 15 14] (oG 15 (oR 4 kf))) (.seq (rg [oF 16 3 2,oL 17 16,oF 18 3 3,oL 19 18,oB 20 .neq 17 19] (oG 20 (oR 4 kf))) (.seq (rg [oF 21 4 2,oW 22 2 21,oF 23 4 3,oW 24 2 23,oD 25 253 22 24,oU 26 25] (oG 26 (oR 4 kf))) (.seq (rg [oF 27 6 2,oL 28 27,oF 29 6 3,oL 30 29,oB 31 .neq 28 30] (oG 31 (oR 4 kf))) (.seq (rg [oF 32 7 2,oL 33 32,oF 34 7 3,oL 35 34,o 36 (.eqb true (.t 33) (.t 35))] (oG 36 (oR 4 kf))) (oR 4 kt))))))))⟩
theorem A41:A5 Tryz.prog 186=some V3:=by kernel_rfl
theorem A16 (N:St) (x y:Cell):Ret Tryz.prog 186 [.agg [.str x.obj,.int .i64 x.dot.rep,.int .i64 x.dot.seq,.int .i64 x.time,.int .i64 x.ref.rep,.int .i64 x.ref.seq,.int .i64 x.val,.bool x.gone],.agg [.str y.obj,.int .i64 y.dot.rep,.int .i64 y.dot.seq,.int .i64 y.time,.int .i64 y.ref.rep,.int .i64 y.ref.seq,.int .i64 y.val,.bool y.gone]] N (.bool (decide (x=y))) N:=by
 refine Af A41 (Z0z rfl) trivial ?_
 simp +contextual (disch:=omega) only[go_sem,V3,Zaa]
 refine⟨fun hn=> ?_,fun hn=> ?_⟩
 ·simp only[Cell.eq_iff];simp at hn ⊢;simp[hn]
 have q0:x.obj=y.obj:=by simpa using hn
 refine A7 (Ji _ x.dot y.dot) ?_
 simp +contextual (disch:=omega) only[go_sem,Zaa]
 refine⟨fun hn=> ?_,fun hn=> ?_⟩
 ·simp only[Cell.eq_iff];simp at hn ⊢;simp[hn]
 have q1:x.dot=y.dot:=by simpa using hn
 refine⟨fun hn=> ?_,fun hn=> ?_⟩
 ·simp only[Cell.eq_iff];simp at hn ⊢;simp[hn]
 have q2:x.time=y.time:=by simpa using hn
 refine A7 (Ji _ x.ref y.ref) ?_
 simp +contextual (disch:=omega) only[go_sem,Zaa]
 refine⟨fun hn=> ?_,fun hn=> ?_⟩
 ·simp only[Cell.eq_iff];simp at hn ⊢;simp[hn]
 have q3:x.ref=y.ref:=by simpa using hn
 refine⟨fun hn=> ?_,fun hn=> ?_⟩
 ·simp only[Cell.eq_iff];simp at hn ⊢;simp[hn]
 have q4:x.val=y.val:=by simpa using hn
 refine⟨fun hn=> ?_,fun hn=> ?_⟩
 ·simp only[Cell.eq_iff];simp at hn ⊢;simp[hn]
 have q5:x.gone=y.gone:=by simpa using hn
 simp only[Cell.eq_iff,q0,q1,q2,q3,q4,q5,and_self,decide_true]
def Pw:Fn1:=⟨27,[.t 4],(rg [oV 4 kf] (.seq (rg [oM 6 0,oN 7 6,oM 8 1,oN 9 8,oB 10 .neq 7 9] (oG 10 (oR 4 kf))) (.seq (rg [oV 5 (ki 0)] (oH 0 (.seq (rg [oM 11 5,oM 12 0,oN 13 12,oB 14 .lss 11 13] (oJ 14 0)) (.seq (.blk 1 (dw [oM 17 0,oM 18 5,oI 19 8 17 18,oW 20 8 19,oM 21 1,oM 22 5,oI 23 8 21 22,oW 24 8 23] [oD 25 186 20 24,oU 26 25] (oG 26 (oR 4 kf)))) (.reg [oM 15 5,oZ 16 15 1,oM 5 16]))))) (oR 4 kt))))⟩
theorem A17:A5 Tryz.prog 83=some Pw:=by kernel_rfl
theorem Z4 (N:St) (v u:GV) (l m:List Cell) (hv:RS Aj.kd N v l) (hu:RS Aj.kd N u m) (hl:(l.length+sumL Dn l)<=1099511627776):Ret Tryz.prog 83 [v,u] N (.bool (decide (l=m))) N:=by
 refine Af A17 (Z0z rfl) trivial ?_
 simp +contextual (disch:=omega) only[go_sem,Pw,hv.len,hu.len]
 refine⟨fun hn=> ?_,fun hn=> ?_⟩
 ·have:l≠m:=fun h=>by subst h;simp at hn
  simp[this]
 have hlm:l.length=m.length:=by
                    have h2:(l.length:Int)=m.length:=by simpa using hn
                    omega
 refine Aw l.length 5 (fun i env U=>env 0=v/\env 1=u/\l.take i=m.take i/\N <+: U) rfl ⟨rfl,rfl,rfl,Zab _⟩ ?_ ?_
 ·rintro i env U hi e5 c0 ⟨e0,e1,he,hp⟩
  have hj:i<m.length:=by omega
  have h1:=hv.pre hp
  have h2:=hu.pre hp
  have hne:l[i]≠m[i]->l≠m:=fun h h'=>h (by subst h';rfl)
  have hst:l[i]=m[i]->l.take (i+1)=m.take (i+1):=fun h=>by rw[B7 hi,B7 hj,he,h]
  have hms:Dn l[i]<=sumL Dn l:=Ee (Zak hi)
  simp +contextual (disch:=omega) only[go_sem,c0,e0,e1,e5,hv.len,hu.len,A4 h1 hi,A4 h2 hj]
  refine A7 (A16 U l[i] m[i]) ?_
  simp +contextual (disch:=omega) only[go_sem,e0,e1,e5,hp]
  refine⟨fun h=> ?_,fun h=> ?_⟩
  ·simp[hne (by simpa using h)]
  ·simpa using hst (by simpa using h)
 ·rintro env U e5 c0 ⟨e0,e1,he,hp⟩
  rw[Zac,hlm,Zac] at he
  simp +contextual (disch:=omega) only[go_sem,c0,e0,e1,e5,hv.len,hu.len,hp]
  simp[he]
def V5:Fn1:=⟨31,[.t 4],(rg [oX 2 0,oX 3 1,oV 4 kf] (.seq (rg [oF 5 0 2,oL 6 5,oF 7 0 3,oL 8 7,o 9 (.eqb true (.t 6) (.t 8))] (oG 9 (oR 4 kf))) (.seq (rg [oF 10 1 2,oL 11 10,oF 12 1 3,oL 13 12,oB 14 .neq 11 13] (oG 14 (oR 4 kf))) (.seq (rg [oF 15 2 2,oL 16 15,oF 17 2 3,oL 18 17,oB 19 .neq 16 18] (oG 19 (oR 4 kf))) (.seq (rg [oF 20 3 2,oL 21 20,oF 22 3 3,oL 23 22,oB 24 .neq 21 23] (oG 24 (oR 4 kf))) (.seq (rg [oF 25 4 2,oW 26 2 25,oF 27 4 3,oW 28 2 27,oD 29 253 26 28,oU 30 29] (oG 30 (oR 4 kf))) (oR 4 kt)))))))⟩
theorem A42:A5 Tryz.prog 185=some V5:=by kernel_rfl
theorem A18 (N:St) (x y:Live):Ret Tryz.prog 185 [.agg [.bool x.map,.str x.obj,.str x.key,.int .i64 x.val,.int .i64 x.dot.rep,.int .i64 x.dot.seq],.agg [.bool y.map,.str y.obj,.str y.key,.int .i64 y.val,.int .i64 y.dot.rep,.int .i64 y.dot.seq]] N (.bool (decide (x=y))) N:=by
 refine Af A42 (Z0z rfl) trivial ?_
 simp +contextual (disch:=omega) only[go_sem,V5,Zaa]
 refine⟨fun hn=> ?_,fun hn=> ?_⟩
 ·simp only[Live.eq_iff];simp at hn ⊢;simp[hn]
 have q0:x.map=y.map:=by simpa using hn
 refine⟨fun hn=> ?_,fun hn=> ?_⟩
 ·simp only[Live.eq_iff];simp at hn ⊢;simp[hn]
 have q1:x.obj=y.obj:=by simpa using hn
 refine⟨fun hn=> ?_,fun hn=> ?_⟩
 ·simp only[Live.eq_iff];simp at hn ⊢;simp[hn]
 have q2:x.key=y.key:=by simpa using hn
 refine⟨fun hn=> ?_,fun hn=> ?_⟩
 ·simp only[Live.eq_iff];simp at hn ⊢;simp[hn]
 have q3:x.val=y.val:=by simpa using hn
 refine A7 (Ji _ x.dot y.dot) ?_
 simp +contextual (disch:=omega) only[go_sem,Zaa]
 refine⟨fun hn=> ?_,fun hn=> ?_⟩
 ·simp only[Live.eq_iff];simp at hn ⊢;simp[hn]
 have q4:x.dot=y.dot:=by simpa using hn
 simp only[Live.eq_iff,q0,q1,q2,q3,q4,and_self,decide_true]
def Py:Fn1:=⟨27,[.t 4],(rg [oV 4 kf] (.seq (rg [oM 6 0,oN 7 6,oM 8 1,oN 9 8,oB 10 .neq 7 9] (oG 10 (oR 4 kf))) (.seq (rg [oV 5 (ki 0)] (oH 0 (.seq (rg [oM 11 5,oM 12 0,oN 13 12,oB 14 .lss 11 13] (oJ 14 0)) (.seq (.blk 1 (dw [oM 17 0,oM 18 5,oI 19 6 17 18,oW 20 6 19,oM 21 1,oM 22 5,oI 23 6 21 22,oW 24 6 23] [oD 25 185 20 24,oU 26 25] (oG 26 (oR 4 kf)))) (.reg [oM 15 5,oZ 16 15 1,oM 5 16]))))) (oR 4 kt))))⟩
theorem A19:A5 Tryz.prog 82=some Py:=by kernel_rfl
theorem Z5 (N:St) (v u:GV) (l m:List Live) (hv:RS Cb.kd N v l) (hu:RS Cb.kd N u m) (hl:(l.length+sumL C5 l)<=1099511627776):Ret Tryz.prog 82 [v,u] N (.bool (decide (l=m))) N:=by
 refine Af A19 (Z0z rfl) trivial ?_
 simp +contextual (disch:=omega) only[go_sem,Py,hv.len,hu.len]
 refine⟨fun hn=> ?_,fun hn=> ?_⟩
 ·have:l≠m:=fun h=>by subst h;simp at hn
  simp[this]
 have hlm:l.length=m.length:=by
                    have h2:(l.length:Int)=m.length:=by simpa using hn
                    omega
 refine Aw l.length 5 (fun i env U=>env 0=v/\env 1=u/\l.take i=m.take i/\N <+: U) rfl ⟨rfl,rfl,rfl,Zab _⟩ ?_ ?_
 ·rintro i env U hi e5 c0 ⟨e0,e1,he,hp⟩
  have hj:i<m.length:=by omega
  have h1:=hv.pre hp
  have h2:=hu.pre hp
  have hne:l[i]≠m[i]->l≠m:=fun h h'=>h (by subst h';rfl)
  have hst:l[i]=m[i]->l.take (i+1)=m.take (i+1):=fun h=>by rw[B7 hi,B7 hj,he,h]
  have hms:C5 l[i]<=sumL C5 l:=Ee (Zak hi)
  simp +contextual (disch:=omega) only[go_sem,c0,e0,e1,e5,hv.len,hu.len,A3 h1 hi,A3 h2 hj]
  refine A7 (A18 U l[i] m[i]) ?_
  simp +contextual (disch:=omega) only[go_sem,e0,e1,e5,hp]
  refine⟨fun h=> ?_,fun h=> ?_⟩
  ·simp[hne (by simpa using h)]
  ·simpa using hst (by simpa using h)
 ·rintro env U e5 c0 ⟨e0,e1,he,hp⟩
  rw[Zac,hlm,Zac] at he
  simp +contextual (disch:=omega) only[go_sem,c0,e0,e1,e5,hv.len,hu.len,hp]
  simp[he]
def Q0:Fn1:=⟨20,[.t 4],(rg [oX 2 0,oX 3 1,oV 4 kf] (.seq (rg [oF 5 0 2,oL 6 5,oF 7 0 3,oL 8 7,oB 9 .neq 6 8] (oG 9 (oR 4 kf))) (.seq (rg [oF 10 1 2,oL 11 10,oF 12 1 3,oL 13 12,oB 14 .neq 11 13] (oG 14 (oR 4 kf))) (.seq (rg [oF 15 2 2,oL 16 15,oF 17 2 3,oL 18 17,oB 19 .neq 16 18] (oG 19 (oR 4 kf))) (oR 4 kt)))))⟩
theorem A1a:A5 Tryz.prog 184=some Q0:=by kernel_rfl
theorem Z6 (N:St) (x y:Tally):Ret Tryz.prog 184 [.agg [.str x.obj,.int .i64 x.rep,.int .i64 x.sum],.agg [.str y.obj,.int .i64 y.rep,.int .i64 y.sum]] N (.bool (decide (x=y))) N:=by
 refine Af A1a (Z0z rfl) trivial ?_
 simp +contextual (disch:=omega) only[go_sem,Q0,Zaa]
 refine⟨fun hn=> ?_,fun hn=> ?_⟩
 ·simp only[Tally.eq_iff];simp at hn ⊢;simp[hn]
 have q0:x.obj=y.obj:=by simpa using hn
 refine⟨fun hn=> ?_,fun hn=> ?_⟩
 ·simp only[Tally.eq_iff];simp at hn ⊢;simp[hn]
 have q1:x.rep=y.rep:=by simpa using hn
 refine⟨fun hn=> ?_,fun hn=> ?_⟩
 ·simp only[Tally.eq_iff];simp at hn ⊢;simp[hn]
 have q2:x.sum=y.sum:=by simpa using hn
 simp only[Tally.eq_iff,q0,q1,q2,and_self,decide_true]
def Ms:Fn1:=⟨27,[.t 4],(rg [oV 4 kf] (.seq (rg [oM 6 0,oN 7 6,oM 8 1,oN 9 8,oB 10 .neq 7 9] (oG 10 (oR 4 kf))) (.seq (rg [oV 5 (ki 0)] (oH 0 (.seq (rg [oM 11 5,oM 12 0,oN 13 12,oB 14 .lss 11 13] (oJ 14 0)) (.seq (.blk 1 (dw [oM 17 0,oM 18 5,oI 19 3 17 18,oW 20 3 19,oM 21 1,oM 22 5,oI 23 3 21 22,oW 24 3 23] [oD 25 184 20 24,oU 26 25] (oG 26 (oR 4 kf)))) (.reg [oM 15 5,oZ 16 15 1,oM 5 16]))))) (oR 4 kt))))⟩
theorem Z7:A5 Tryz.prog 81=some Ms:=by kernel_rfl
theorem T6 (N:St) (v u:GV) (l m:List Tally) (hv:RS Cm.kd N v l) (hu:RS Cm.kd N u m) (hl:(l.length+sumL Bg l)<=1099511627776):Ret Tryz.prog 81 [v,u] N (.bool (decide (l=m))) N:=by
 refine Af Z7 (Z0z rfl) trivial ?_
 simp +contextual (disch:=omega) only[go_sem,Ms,hv.len,hu.len]
 refine⟨fun hn=> ?_,fun hn=> ?_⟩
 ·have:l≠m:=fun h=>by subst h;simp at hn
  simp[this]
 have hlm:l.length=m.length:=by
                    have h2:(l.length:Int)=m.length:=by simpa using hn
                    omega
 refine Aw l.length 5 (fun i env U=>env 0=v/\env 1=u/\l.take i=m.take i/\N <+: U) rfl ⟨rfl,rfl,rfl,Zab _⟩ ?_ ?_
 ·rintro i env U hi e5 c0 ⟨e0,e1,he,hp⟩
  have hj:i<m.length:=by omega
  have h1:=hv.pre hp
  have h2:=hu.pre hp
  have hne:l[i]≠m[i]->l≠m:=fun h h'=>h (by subst h';rfl)
  have hst:l[i]=m[i]->l.take (i+1)=m.take (i+1):=fun h=>by rw[B7 hi,B7 hj,he,h]
  have hms:Bg l[i]<=sumL Bg l:=Ee (Zak hi)
  simp +contextual (disch:=omega) only[go_sem,c0,e0,e1,e5,hv.len,hu.len,A8 h1 hi,A8 h2 hj]
  refine A7 (Z6 U l[i] m[i]) ?_
  simp +contextual (disch:=omega) only[go_sem,e0,e1,e5,hp]
  refine⟨fun h=> ?_,fun h=> ?_⟩
  ·simp[hne (by simpa using h)]
  ·simpa using hst (by simpa using h)
 ·rintro env U e5 c0 ⟨e0,e1,he,hp⟩
  rw[Zac,hlm,Zac] at he
  simp +contextual (disch:=omega) only[go_sem,c0,e0,e1,e5,hv.len,hu.len,hp]
  simp[he]
def Q2:Fn1:=⟨29,[.t 4],(rg [oX 2 0,oX 3 1,oV 4 kf] (.seq (rg [oF 5 0 2,oL 6 5,oF 7 0 3,oL 8 7,oD 9 20 6 8,oU 10 9] (oG 10 (oR 4 kf))) (.seq (rg [oF 11 1 2,oL 12 11,oF 13 1 3,oL 14 13,oD 15 81 12 14,oU 16 15] (oG 16 (oR 4 kf))) (.seq (rg [oF 17 2 2,oL 18 17,oF 19 2 3,oL 20 19,oD 21 82 18 20,oU 22 21] (oG 22 (oR 4 kf))) (.seq (rg [oF 23 3 2,oL 24 23,oF 25 3 3,oL 26 25,oD 27 83 24 26,oU 28 27] (oG 28 (oR 4 kf))) (oR 4 kt))))))⟩
theorem A1b:A5 Tryz.prog 21=some Q2:=by kernel_rfl
theorem Kh (N:St) (cs ds:List GV) (x y:State) (hx:A9.R N x cs) (hy:A9.R N y ds) (hl:Aa x<=1099511627776):Ret Tryz.prog 21 [.agg cs,.agg ds] N (.bool (decide (x=y))) N:=by
 obtain⟨v0,v1,v2,v3,rfl,q0_,q1_,q2_,q3_⟩:=hx
 obtain⟨u0,u1,u2,u3,rfl,p0_,p1_,p2_,p3_⟩:=hy
 unfold Aa at hl
 refine Af A1b (Z0z rfl) trivial ?_
 simp +contextual (disch:=omega) only[go_sem,Q2,Zaa]
 refine A7 (Fo _ v0 u0 x.know y.know (q0_.pre pre2) (p0_.pre pre2) (by omega)) ?_
 simp +contextual (disch:=omega) only[go_sem,Zaa]
 refine⟨fun hn=> ?_,fun hn=> ?_⟩
 ·simp only[State.eq_iff];simp at hn ⊢;simp[hn]
 have q0:x.know=y.know:=by simpa using hn
 refine A7 (T6 _ v1 u1 x.tallies y.tallies (q1_.pre pre2) (p1_.pre pre2) (by omega)) ?_
 simp +contextual (disch:=omega) only[go_sem,Zaa]
 refine⟨fun hn=> ?_,fun hn=> ?_⟩
 ·simp only[State.eq_iff];simp at hn ⊢;simp[hn]
 have q1:x.tallies=y.tallies:=by simpa using hn
 refine A7 (Z5 _ v2 u2 x.lives y.lives (q2_.pre pre2) (p2_.pre pre2) (by omega)) ?_
 simp +contextual (disch:=omega) only[go_sem,Zaa]
 refine⟨fun hn=> ?_,fun hn=> ?_⟩
 ·simp only[State.eq_iff];simp at hn ⊢;simp[hn]
 have q2:x.lives=y.lives:=by simpa using hn
 refine A7 (Z4 _ v3 u3 x.cells y.cells (q3_.pre pre2) (p3_.pre pre2) (by omega)) ?_
 simp +contextual (disch:=omega) only[go_sem,Zaa]
 refine⟨fun hn=> ?_,fun hn=> ?_⟩
 ·simp only[State.eq_iff];simp at hn ⊢;simp[hn]
 have q3:x.cells=y.cells:=by simpa using hn
 simp only[State.eq_iff,q0,q1,q2,q3,and_self,decide_true]
def Q4:Fn1:=⟨20,[.t 4],(rg [oX 2 0,oX 3 1,oV 4 kf] (.seq (rg [oF 5 0 2,oL 6 5,oF 7 0 3,oL 8 7,oB 9 .neq 6 8] (oG 9 (oR 4 kf))) (.seq (rg [oF 10 1 2,oL 11 10,oF 12 1 3,oL 13 12,oB 14 .neq 11 13] (oG 14 (oR 4 kf))) (.seq (rg [oF 15 2 2,oL 16 15,oF 17 2 3,oL 18 17,oB 19 .neq 16 18] (oG 19 (oR 4 kf))) (oR 4 kt)))))⟩
theorem A1c:A5 Tryz.prog 84=some Q4:=by kernel_rfl
theorem Z8 (N:St) (x y:Watch):Ret Tryz.prog 84 [.agg [.int .i64 x.kind,.str x.obj,.str x.key],.agg [.int .i64 y.kind,.str y.obj,.str y.key]] N (.bool (decide (x=y))) N:=by
 refine Af A1c (Z0z rfl) trivial ?_
 simp +contextual (disch:=omega) only[go_sem,Q4,Zaa]
 refine⟨fun hn=> ?_,fun hn=> ?_⟩
 ·simp only[Watch.eq_iff];simp at hn ⊢;simp[hn]
 have q0:x.kind=y.kind:=by simpa using hn
 refine⟨fun hn=> ?_,fun hn=> ?_⟩
 ·simp only[Watch.eq_iff];simp at hn ⊢;simp[hn]
 have q1:x.obj=y.obj:=by simpa using hn
 refine⟨fun hn=> ?_,fun hn=> ?_⟩
 ·simp only[Watch.eq_iff];simp at hn ⊢;simp[hn]
 have q2:x.key=y.key:=by simpa using hn
 simp only[Watch.eq_iff,q0,q1,q2,and_self,decide_true]
def Mu:Fn1:=⟨27,[.t 4],(rg [oV 4 kf] (.seq (rg [oM 6 0,oN 7 6,oM 8 1,oN 9 8,oB 10 .neq 7 9] (oG 10 (oR 4 kf))) (.seq (rg [oV 5 (ki 0)] (oH 0 (.seq (rg [oM 11 5,oM 12 0,oN 13 12,oB 14 .lss 11 13] (oJ 14 0)) (.seq (.blk 1 (dw [oM 17 0,oM 18 5,oI 19 3 17 18,oW 20 3 19,oM 21 1,oM 22 5,oI 23 3 21 22,oW 24 3 23] [oD 25 84 20 24,oU 26 25] (oG 26 (oR 4 kf)))) (.reg [oM 15 5,oZ 16 15 1,oM 5 16]))))) (oR 4 kt))))⟩
theorem Z9:A5 Tryz.prog 22=some Mu:=by kernel_rfl
theorem T7 (N:St) (v u:GV) (l m:List Watch) (hv:RS Dm.kd N v l) (hu:RS Dm.kd N u m) (hl:(l.length+sumL Bb l)<=1099511627776):Ret Tryz.prog 22 [v,u] N (.bool (decide (l=m))) N:=by
 refine Af Z9 (Z0z rfl) trivial ?_
 simp +contextual (disch:=omega) only[go_sem,Mu,hv.len,hu.len]
 refine⟨fun hn=> ?_,fun hn=> ?_⟩
 ·have:l≠m:=fun h=>by subst h;simp at hn
  simp[this]
 have hlm:l.length=m.length:=by
                    have h2:(l.length:Int)=m.length:=by simpa using hn
                    omega
 refine Aw l.length 5 (fun i env U=>env 0=v/\env 1=u/\l.take i=m.take i/\N <+: U) rfl ⟨rfl,rfl,rfl,Zab _⟩ ?_ ?_
 ·rintro i env U hi e5 c0 ⟨e0,e1,he,hp⟩
  have hj:i<m.length:=by omega
  have h1:=hv.pre hp
  have h2:=hu.pre hp
  have hne:l[i]≠m[i]->l≠m:=fun h h'=>h (by subst h';rfl)
  have hst:l[i]=m[i]->l.take (i+1)=m.take (i+1):=fun h=>by rw[B7 hi,B7 hj,he,h]
  have hms:Bb l[i]<=sumL Bb l:=Ee (Zak hi)
  simp +contextual (disch:=omega) only[go_sem,c0,e0,e1,e5,hv.len,hu.len,F3 h1 hi,F3 h2 hj]
  refine A7 (Z8 U l[i] m[i]) ?_
  simp +contextual (disch:=omega) only[go_sem,e0,e1,e5,hp]
  refine⟨fun h=> ?_,fun h=> ?_⟩
  ·simp[hne (by simpa using h)]
  ·simpa using hst (by simpa using h)
 ·rintro env U e5 c0 ⟨e0,e1,he,hp⟩
  rw[Zac,hlm,Zac] at he
  simp +contextual (disch:=omega) only[go_sem,c0,e0,e1,e5,hv.len,hu.len,hp]
  simp[he]
theorem Hp.ownState {N U:St} {rs:List Thg} {x:State} {v0:GV} {v1:GV} {v2:GV} {v3:GV} (H:Hp N U (ow pI.kd v0 x.know::ow Cm.kd v1 x.tallies::ow Cb.kd v2 x.lives::ow Aj.kd v3 x.cells::rs)):Hp N U (own A9 (v0::v1::v2::v3::[]) x::rs):=by
 refine(H.join.join.join).conv ?_
 rintro fp ⟨_,f3,⟨_,f2,⟨f0,f1,h0,h1,rfl⟩,h2,rfl⟩,h3,rfl⟩
 exact⟨v0,v1,v2,v3,f0,f1,f2,f3,rfl,h0,h1,h2,h3,by simp[Zao]⟩
theorem Hp.splitState {N U:St} {rs:List Thg} {x:State} {cs:List GV} (H:Hp N U (own A9 cs x::rs)):∃ v0 v1 v2 v3,cs=v0::v1::v2::v3::[]/\Hp N U (ow pI.kd v0 x.know::ow Cm.kd v1 x.tallies::ow Cb.kd v2 x.lives::ow Aj.kd v3 x.cells::rs):=by
 obtain⟨h,fp,⟨a,b,⟨v0,v1,v2,v3,f0,f1,f2,f3,rfl,h0,h1,h2,h3,rfl⟩,hs,rfl⟩,hn,hb⟩:=H
 exact⟨v0,v1,v2,v3,rfl,h,_,⟨_,_,h0,⟨_,_,h1,⟨_,_,h2,⟨_,_,h3,hs,rfl⟩,rfl⟩,rfl⟩,rfl⟩,by simpa [Zao] using hn,by simpa [Zao] using hb⟩
def mInt (k:Int):Int:=k
def Mv (k:Int):Tally:=⟨mtx (k),k+1,k+1+1⟩
def A1d (k:Int):Live:=⟨((k).tmod 3==0),mtx (k+1),mtx (k+1+1),k+1+1+1,⟨k+1+1+1+1,k+1+1+1+1+1⟩⟩
def A1e (k:Int):Cell:=⟨mtx (k),⟨k+1,k+1+1⟩,k+1+1+1,⟨k+1+1+1+1,k+1+1+1+1+1⟩,k+1+1+1+1+1+1,((k+1+1+1+1+1+1+1).tmod 3==0)⟩
def Q5 (k:Int):Watch:=⟨k,mtx (k+1),mtx (k+1+1)⟩
def Mx:Fn1:=⟨21,[.t 4],(rg [oV 4 (ki 0)] (.seq (rg [oV 5 (ki 0)] (oH 0 (.seq (rg [oM 6 5,oM 7 0,oN 8 7,oB 9 .lss 6 8] (oJ 9 0)) (.seq (.blk 1 (.seq (rg [oM 12 0,oM 13 5,oI 14 1 12 13,oL 15 14,oM 16 1,oB 17 .neq 15 16] (oG 17 (rg [o 4 (.mov (ki (-1)))] .ret))) (.reg [oM 18 1,oZ 19 18 1,oM 1 19]))) (.reg [oM 10 5,oZ 11 10 1,oM 5 11]))))) (rg [oM 20 1,oM 4 20] .ret)))⟩
theorem Za:A5 Tryz.prog 26=some Mx:=by kernel_rfl
theorem J4 (N:St) (v:GV) (n:Nat) (k:Int) (hR:RS pI.kd N v (mkF mInt 1 k n)) (h0:0<=k) (hk:k+1*n<=4611686018427387904):Ret Tryz.prog 26 [v,gi k] N (gi (k+1*n)) N:=by
 refine Af Za (Z0z rfl) trivial ?_
 have hln:=hR.len
 rw[Bi] at hln
 simp +contextual (disch:=omega) only[go_sem,Mx]
 refine Aw n 5 (fun i env U=>env 0=v/\env 1=gi (k+1*(i:Int))/\N <+: U) rfl ⟨rfl,(by show gi k=gi (k+1*0);simp),Zab _⟩ ?_ ?_
 ·rintro i env U hi e5 c0 ⟨e0,e1,hp⟩
  have hj:i<(mkF mInt 1 k n).length:=by rw[Bi];exact hi
  have hat:=Fm (hR.pre hp) hj
  simp only[A8o,mInt] at hat
  simp +contextual (disch:=omega) only[go_sem,c0,e0,e1,e5,hln,hat,hp,bne_self_eq_false,beq_self_eq_true]
  omega
 ·rintro env U e5 c0 ⟨e0,e1,hp⟩
  simp +contextual (disch:=omega) only[go_sem,c0,e0,e1,e5,hln,hp]
def Mz:Fn1:=⟨19,[.t 4],(rg [oV 4 (ki 0)] (.seq (rg [oV 5 (ki 0)] (oH 0 (.seq (rg [oM 6 5,oM 7 0,oN 8 7,oB 9 .lss 6 8] (oJ 9 0)) (.seq (.blk 1 (rg [oM 12 0,oM 13 5,oM 14 1,oI 15 1 12 13,oS 1 15 14] (.reg [oM 16 1,oZ 17 16 1,oM 1 17]))) (.reg [oM 10 5,oZ 11 10 1,oM 5 11]))))) (rg [oM 18 1,oM 4 18] .ret)))⟩
theorem Zb:A5 Tryz.prog 25=some Mz:=by kernel_rfl
theorem J5 {N U:St} {rs:List Thg} (i0:Nat) (v:GV) (l:List Int) (k:Int) (H:Hp N U rs) (hi0:rs[i0]? =some (ow pI.kd v l)) (h0:0<=k) (hk:k+1*l.length<=4611686018427387904):∃ U',Ret Tryz.prog 25 [v,gi k] U (gi (k+1*l.length)) U'/\Hp N U' (rs.set i0 (ow pI.kd v (mkF mInt 1 k l.length))):=by
 have H:=H.pick i0 hi0
 have hlt:=(Zad.1 hi0).1
 obtain⟨r,U',hR,rfl,H'⟩:=Ak (P:=Tryz.prog) (N:=U) (args:=[v,gi k]) (Post:=fun r U'=>r=gi (k+1*l.length)/\Hp N U' (ow pI.kd v (mkF mInt 1 k l.length)::rs.eraseIdx i0)) Zb (Z0z rfl) (by
  simp +contextual (disch:=omega) only[go_sem,Mz]
  refine Aw l.length 5 (fun i env U'=>env 0=v/\env 1=gi (k+1*(i:Int))/\U.length<=U'.length/\Hp N U' (ow pI.kd v ((mkF mInt 1 k l.length).take i++l.drop i)::rs.eraseIdx i0)) rfl ⟨rfl,(by show gi k=gi (k+1*0);simp),Zai _,by simpa using H⟩ ?_ ?_
  ·rintro i env U' hi e5 c0 ⟨e0,e1,hle,H⟩
   have hL:=Kf (l:=l) (e:=mInt) (c:=1) (k:=k) (i:=i)
   have hst:=I2 (e:=mInt) (c:=1) (k:=k) hi
   generalize(mkF mInt 1 k l.length).take i++l.drop i=L at H hL hst
   have hj:i<L.length:=by omega
   have h1:=H.sl 0 rfl
   have hln:=h1.len
   rw[hL] at hln
   have hat:=Fm h1 hj
   simp +contextual (disch:=omega) only[go_sem,c0,e0,e1,e5,hln,hat]
   obtain⟨U2,es,H2⟩:=H.stw 0 rfl hj 1 (.int .i64 (k+1*(i:Int))) (mInt (k+1*(i:Int))) rfl rfl (by decide)
   have es:stG 1 U' (atz 1 v i) (.int .i64 (k+1*(i:Int)))=some (.tup [],U2):=es
   have hlen:=Bf es
   have H2:Hp N U2 (ow pI.kd v (L.set i (mInt (k+(1:Nat)*(i:Int))))::rs.eraseIdx i0):=H2
   rw[hst] at H2
   simp +contextual (disch:=omega) only[go_sem,c0,e0,e1,e5,hln,hat,es]
   exact⟨by omega,by omega,H2⟩
  ·rintro env U' e5 c0 ⟨e0,e1,hle,H⟩
   rw[Kg] at H
   have hln:=(H.sl 0 rfl).len
   rw[Bi] at hln
   simp +contextual (disch:=omega) only[go_sem,c0,e0,e1,e5,hln]
   exact⟨_,rfl,hle,rfl,H⟩)
 exact⟨U',hR,H'.unpick hlt⟩
def Es (x:State):Nat:=1*x.know.length+3*x.tallies.length+6*x.lives.length+8*x.cells.length
def A43 (k:Int) (x:State):State:={x with know:=(mkF mInt 1 (k) x.know.length),tallies:=(mkF Mv 3 (k+1*(x.know.length:Int)) x.tallies.length),lives:=(mkF A1d 6 (k+1*(x.know.length:Int)+3*(x.tallies.length:Int)) x.lives.length),cells:=(mkF A1e 8 (k+1*(x.know.length:Int)+3*(x.tallies.length:Int)+6*(x.lives.length:Int)) x.cells.length)}
theorem V6 (x:State):Es x<=10*Aa x:=by
 unfold Es Aa;omega
def Kj:Fn1:=⟨76,[.t 4],(rg [oV 4 (ki 0)] (.seq (rg [oV 5 (ki 0)] (oH 0 (.seq (rg [oM 6 5,oM 7 0,oN 8 7,oB 9 .lss 6 8] (oJ 9 0)) (.seq (.blk 1 (rg [oM 12 0,oM 13 5,oM 14 1,oC 15 88 14,oI 16 8 12 13,oF 17 0 16,oS 1 17 15] (rg [oM 18 1,oZ 19 18 1,oM 1 19] (rg [oM 20 0,oM 21 5,oM 22 1,oI 23 8 20 21,oF 24 1 23,oF 25 0 24,oS 1 25 22] (rg [oM 26 1,oZ 27 26 1,oM 1 27] (rg [oM 28 0,oM 29 5,oM 30 1,oI 31 8 28 29,oF 32 1 31,oF 33 1 32,oS 1 33 30] (rg [oM 34 1,oZ 35 34 1,oM 1 35] (rg [oM 36 0,oM 37 5,oM 38 1,oI 39 8 36 37,oF 40 3 39,oS 1 40 38] (rg [oM 41 1,oZ 42 41 1,oM 1 42] (rg [oM 43 0,oM 44 5,oM 45 1,oI 46 8 43 44,oF 47 4 46,oF 48 0 47,oS 1 48 45] (rg [oM 49 1,oZ 50 49 1,oM 1 50] (rg [oM 51 0,oM 52 5,oM 53 1,oI 54 8 51 52,oF 55 4 54,oF 56 1 55,oS 1 56 53] (rg [oM 57 1,oZ 58 57 1,oM 1 58] (rg [oM 59 0,oM 60 5,oM 61 1,oI 62 8 59 60,oF 63 6 62,oS 1 63 61] (rg [oM 64 1,oZ 65 64 1,oM 1 65] (rg [oM 66 0,oM 67 5,oM 68 1,oE 69 .rem 68 3,oE 70 .eql 69 0,oI 71 8 66 67,oF 72 7 71,oS 1 72 70] (.reg [oM 73 1,oZ 74 73 1,oM 1 74]))))))))))))))))) (.reg [oM 10 5,oZ 11 10 1,oM 5 11]))))) (rg [oM 75 1,oM 4 75] .ret)))⟩
theorem T8:A5 Tryz.prog 87=some Kj:=by kernel_rfl
theorem Q6 {N U:St} {rs:List Thg} (i0:Nat) (v:GV) (l:List Cell) (k:Int) (H:Hp N U rs) (hi0:rs[i0]? =some (ow Aj.kd v l)) (h0:0<=k) (hk:k+8*l.length<=4611686018427387904):∃ U',Ret Tryz.prog 87 [v,gi k] U (gi (k+8*l.length)) U'/\Hp N U' (rs.set i0 (ow Aj.kd v (mkF A1e 8 k l.length))):=by
 have H:=H.pick i0 hi0
 have hlt:=(Zad.1 hi0).1
 obtain⟨r,U',hR,rfl,H'⟩:=Ak (P:=Tryz.prog) (N:=U) (args:=[v,gi k]) (Post:=fun r U'=>r=gi (k+8*l.length)/\Hp N U' (ow Aj.kd v (mkF A1e 8 k l.length)::rs.eraseIdx i0)) T8 (Z0z rfl) (by
  simp +contextual (disch:=omega) only[go_sem,Kj]
  refine Aw l.length 5 (fun i env U'=>env 0=v/\env 1=gi (k+8*(i:Int))/\U.length<=U'.length/\Hp N U' (ow Aj.kd v ((mkF A1e 8 k l.length).take i++l.drop i)::rs.eraseIdx i0)) rfl ⟨rfl,(by show gi k=gi (k+8*0);simp),Zai _,by simpa using H⟩ ?_ ?_
  ·rintro i env U' hi e5 c0 ⟨e0,e1,hle,H⟩
   have hL:=Kf (l:=l) (e:=A1e) (c:=8) (k:=k) (i:=i)
   have hst:=I2 (e:=A1e) (c:=8) (k:=k) hi
   generalize(mkF A1e 8 k l.length).take i++l.drop i=L at H hL hst
   have hj:i<L.length:=by omega
   have h1:=H.sl 0 rfl
   have hln:=h1.len
   rw[hL] at hln
   have hat:=A4 h1 hj
   rw[Pd hj] at H
   generalize hy:L[i]=y at H hat
   simp +contextual (disch:=omega) only[go_sem,c0,e0,e1,e5,hln,hat]
   refine A7 (Bz _ _ (by omega)) ?_
   simp +contextual (disch:=omega) only[go_sem,e0,e1,hat]
   obtain⟨U0,es,H⟩:=H.sts hj 1 0 (.str (mtx (k+8*(i:Int)))) (⟨mtx (k+8*(i:Int)),⟨y.dot.rep,y.dot.seq⟩,y.time,⟨y.ref.rep,y.ref.seq⟩,y.val,y.gone⟩) rfl (by decide) (by decide) rfl
   have es:stG 1 U' (fld 0 (atz 8 v i)) (.str (mtx (k+8*(i:Int))))=some (.tup [],U0):=es
   have hl0:=Bf es
   simp +contextual (disch:=omega) only[go_sem,e0,e1,e5,hat,es]
   obtain⟨U1,es,H⟩:=H.sts hj 1 1 (.int .i64 (k+8*(i:Int)+1)) (⟨mtx (k+8*(i:Int)),⟨k+8*(i:Int)+1,y.dot.seq⟩,y.time,⟨y.ref.rep,y.ref.seq⟩,y.val,y.gone⟩) rfl (by decide) (by decide) rfl
   have es:stG 1 U0 (fld 1 (atz 8 v i)) (.int .i64 (k+8*(i:Int)+1))=some (.tup [],U1):=es
   have hl1:=Bf es
   simp +contextual (disch:=omega) only[go_sem,e0,e1,e5,hat,es]
   obtain⟨U2,es,H⟩:=H.sts hj 1 2 (.int .i64 (k+8*(i:Int)+1+1)) (⟨mtx (k+8*(i:Int)),⟨k+8*(i:Int)+1,k+8*(i:Int)+1+1⟩,y.time,⟨y.ref.rep,y.ref.seq⟩,y.val,y.gone⟩) rfl (by decide) (by decide) rfl
   have es:stG 1 U1 (fld 2 (atz 8 v i)) (.int .i64 (k+8*(i:Int)+1+1))=some (.tup [],U2):=es
   have hl2:=Bf es
   simp +contextual (disch:=omega) only[go_sem,e0,e1,e5,hat,es]
   obtain⟨U3,es,H⟩:=H.sts hj 1 3 (.int .i64 (k+8*(i:Int)+1+1+1)) (⟨mtx (k+8*(i:Int)),⟨k+8*(i:Int)+1,k+8*(i:Int)+1+1⟩,k+8*(i:Int)+1+1+1,⟨y.ref.rep,y.ref.seq⟩,y.val,y.gone⟩) rfl (by decide) (by decide) rfl
   have es:stG 1 U2 (fld 3 (atz 8 v i)) (.int .i64 (k+8*(i:Int)+1+1+1))=some (.tup [],U3):=es
   have hl3:=Bf es
   simp +contextual (disch:=omega) only[go_sem,e0,e1,e5,hat,es]
   obtain⟨U4,es,H⟩:=H.sts hj 1 4 (.int .i64 (k+8*(i:Int)+1+1+1+1)) (⟨mtx (k+8*(i:Int)),⟨k+8*(i:Int)+1,k+8*(i:Int)+1+1⟩,k+8*(i:Int)+1+1+1,⟨k+8*(i:Int)+1+1+1+1,y.ref.seq⟩,y.val,y.gone⟩) rfl (by decide) (by decide) rfl
   have es:stG 1 U3 (fld 4 (atz 8 v i)) (.int .i64 (k+8*(i:Int)+1+1+1+1))=some (.tup [],U4):=es
   have hl4:=Bf es
   simp +contextual (disch:=omega) only[go_sem,e0,e1,e5,hat,es]
   obtain⟨U5,es,H⟩:=H.sts hj 1 5 (.int .i64 (k+8*(i:Int)+1+1+1+1+1)) (⟨mtx (k+8*(i:Int)),⟨k+8*(i:Int)+1,k+8*(i:Int)+1+1⟩,k+8*(i:Int)+1+1+1,⟨k+8*(i:Int)+1+1+1+1,k+8*(i:Int)+1+1+1+1+1⟩,y.val,y.gone⟩) rfl (by decide) (by decide) rfl
   have es:stG 1 U4 (fld 5 (atz 8 v i)) (.int .i64 (k+8*(i:Int)+1+1+1+1+1))=some (.tup [],U5):=es
   have hl5:=Bf es
   simp +contextual (disch:=omega) only[go_sem,e0,e1,e5,hat,es]
   obtain⟨U6,es,H⟩:=H.sts hj 1 6 (.int .i64 (k+8*(i:Int)+1+1+1+1+1+1)) (⟨mtx (k+8*(i:Int)),⟨k+8*(i:Int)+1,k+8*(i:Int)+1+1⟩,k+8*(i:Int)+1+1+1,⟨k+8*(i:Int)+1+1+1+1,k+8*(i:Int)+1+1+1+1+1⟩,k+8*(i:Int)+1+1+1+1+1+1,y.gone⟩) rfl (by decide) (by decide) rfl
   have es:stG 1 U5 (fld 6 (atz 8 v i)) (.int .i64 (k+8*(i:Int)+1+1+1+1+1+1))=some (.tup [],U6):=es
   have hl6:=Bf es
   simp +contextual (disch:=omega) only[go_sem,e0,e1,e5,hat,es]
   obtain⟨U7,es,H⟩:=H.sts hj 1 7 (.bool ((k+8*(i:Int)+1+1+1+1+1+1+1).tmod 3==0)) (⟨mtx (k+8*(i:Int)),⟨k+8*(i:Int)+1,k+8*(i:Int)+1+1⟩,k+8*(i:Int)+1+1+1,⟨k+8*(i:Int)+1+1+1+1,k+8*(i:Int)+1+1+1+1+1⟩,k+8*(i:Int)+1+1+1+1+1+1,((k+8*(i:Int)+1+1+1+1+1+1+1).tmod 3==0)⟩) rfl (by decide) (by decide) rfl
   have es:stG 1 U6 (fld 7 (atz 8 v i)) (.bool ((k+8*(i:Int)+1+1+1+1+1+1+1).tmod 3==0))=some (.tup [],U7):=es
   have hl7:=Bf es
   simp +contextual (disch:=omega) only[go_sem,e0,e1,e5,hat,es]
   have H2:Hp N U7 (ow Aj.kd v (L.set i (A1e (k+(8:Nat)*(i:Int))))::rs.eraseIdx i0):=H
   rw[hst] at H2
   exact⟨by omega,by omega,H2⟩
  ·rintro env U' e5 c0 ⟨e0,e1,hle,H⟩
   rw[Kg] at H
   have hln:=(H.sl 0 rfl).len
   rw[Bi] at hln
   simp +contextual (disch:=omega) only[go_sem,c0,e0,e1,e5,hln]
   exact⟨_,rfl,hle,rfl,H⟩)
 exact⟨U',hR,H'.unpick hlt⟩
def Kl:Fn1:=⟨61,[.t 4],(rg [oV 4 (ki 0)] (.seq (rg [oV 5 (ki 0)] (oH 0 (.seq (rg [oM 6 5,oM 7 0,oN 8 7,oB 9 .lss 6 8] (oJ 9 0)) (.seq (.blk 1 (rg [oM 12 0,oM 13 5,oM 14 1,oE 15 .rem 14 3,oE 16 .eql 15 0,oI 17 6 12 13,oF 18 0 17,oS 1 18 16] (rg [oM 19 1,oZ 20 19 1,oM 1 20] (rg [oM 21 0,oM 22 5,oM 23 1,oC 24 88 23,oI 25 6 21 22,oF 26 1 25,oS 1 26 24] (rg [oM 27 1,oZ 28 27 1,oM 1 28] (rg [oM 29 0,oM 30 5,oM 31 1,oC 32 88 31,oI 33 6 29 30,oF 34 2 33,oS 1 34 32] (rg [oM 35 1,oZ 36 35 1,oM 1 36] (rg [oM 37 0,oM 38 5,oM 39 1,oI 40 6 37 38,oF 41 3 40,oS 1 41 39] (rg [oM 42 1,oZ 43 42 1,oM 1 43] (rg [oM 44 0,oM 45 5,oM 46 1,oI 47 6 44 45,oF 48 4 47,oF 49 0 48,oS 1 49 46] (rg [oM 50 1,oZ 51 50 1,oM 1 51] (rg [oM 52 0,oM 53 5,oM 54 1,oI 55 6 52 53,oF 56 4 55,oF 57 1 56,oS 1 57 54] (.reg [oM 58 1,oZ 59 58 1,oM 1 59]))))))))))))) (.reg [oM 10 5,oZ 11 10 1,oM 5 11]))))) (rg [oM 60 1,oM 4 60] .ret)))⟩
theorem T9:A5 Tryz.prog 86=some Kl:=by kernel_rfl
theorem Q7 {N U:St} {rs:List Thg} (i0:Nat) (v:GV) (l:List Live) (k:Int) (H:Hp N U rs) (hi0:rs[i0]? =some (ow Cb.kd v l)) (h0:0<=k) (hk:k+6*l.length<=4611686018427387904):∃ U',Ret Tryz.prog 86 [v,gi k] U (gi (k+6*l.length)) U'/\Hp N U' (rs.set i0 (ow Cb.kd v (mkF A1d 6 k l.length))):=by
 have H:=H.pick i0 hi0
 have hlt:=(Zad.1 hi0).1
 obtain⟨r,U',hR,rfl,H'⟩:=Ak (P:=Tryz.prog) (N:=U) (args:=[v,gi k]) (Post:=fun r U'=>r=gi (k+6*l.length)/\Hp N U' (ow Cb.kd v (mkF A1d 6 k l.length)::rs.eraseIdx i0)) T9 (Z0z rfl) (by
  simp +contextual (disch:=omega) only[go_sem,Kl]
  refine Aw l.length 5 (fun i env U'=>env 0=v/\env 1=gi (k+6*(i:Int))/\U.length<=U'.length/\Hp N U' (ow Cb.kd v ((mkF A1d 6 k l.length).take i++l.drop i)::rs.eraseIdx i0)) rfl ⟨rfl,(by show gi k=gi (k+6*0);simp),Zai _,by simpa using H⟩ ?_ ?_
  ·rintro i env U' hi e5 c0 ⟨e0,e1,hle,H⟩
   have hL:=Kf (l:=l) (e:=A1d) (c:=6) (k:=k) (i:=i)
   have hst:=I2 (e:=A1d) (c:=6) (k:=k) hi
   generalize(mkF A1d 6 k l.length).take i++l.drop i=L at H hL hst
   have hj:i<L.length:=by omega
   have h1:=H.sl 0 rfl
   have hln:=h1.len
   rw[hL] at hln
   have hat:=A3 h1 hj
   rw[Pd hj] at H
   generalize hy:L[i]=y at H hat
   simp +contextual (disch:=omega) only[go_sem,c0,e0,e1,e5,hln,hat]
   obtain⟨U0,es,H⟩:=H.sts hj 1 0 (.bool ((k+6*(i:Int)).tmod 3==0)) (⟨((k+6*(i:Int)).tmod 3==0),y.obj,y.key,y.val,⟨y.dot.rep,y.dot.seq⟩⟩) rfl (by decide) (by decide) rfl
   have es:stG 1 U' (fld 0 (atz 6 v i)) (.bool ((k+6*(i:Int)).tmod 3==0))=some (.tup [],U0):=es
   have hl0:=Bf es
   simp +contextual (disch:=omega) only[go_sem,e0,e1,e5,hat,es]
   refine A7 (Bz _ _ (by omega)) ?_
   simp +contextual (disch:=omega) only[go_sem,e0,e1,hat]
   obtain⟨U1,es,H⟩:=H.sts hj 1 1 (.str (mtx (k+6*(i:Int)+1))) (⟨((k+6*(i:Int)).tmod 3==0),mtx (k+6*(i:Int)+1),y.key,y.val,⟨y.dot.rep,y.dot.seq⟩⟩) rfl (by decide) (by decide) rfl
   have es:stG 1 U0 (fld 1 (atz 6 v i)) (.str (mtx (k+6*(i:Int)+1)))=some (.tup [],U1):=es
   have hl1:=Bf es
   simp +contextual (disch:=omega) only[go_sem,e0,e1,e5,hat,es]
   refine A7 (Bz _ _ (by omega)) ?_
   simp +contextual (disch:=omega) only[go_sem,e0,e1,hat]
   obtain⟨U2,es,H⟩:=H.sts hj 1 2 (.str (mtx (k+6*(i:Int)+1+1))) (⟨((k+6*(i:Int)).tmod 3==0),mtx (k+6*(i:Int)+1),mtx (k+6*(i:Int)+1+1),y.val,⟨y.dot.rep,y.dot.seq⟩⟩) rfl (by decide) (by decide) rfl
   have es:stG 1 U1 (fld 2 (atz 6 v i)) (.str (mtx (k+6*(i:Int)+1+1)))=some (.tup [],U2):=es
   have hl2:=Bf es
   simp +contextual (disch:=omega) only[go_sem,e0,e1,e5,hat,es]
   obtain⟨U3,es,H⟩:=H.sts hj 1 3 (.int .i64 (k+6*(i:Int)+1+1+1)) (⟨((k+6*(i:Int)).tmod 3==0),mtx (k+6*(i:Int)+1),mtx (k+6*(i:Int)+1+1),k+6*(i:Int)+1+1+1,⟨y.dot.rep,y.dot.seq⟩⟩) rfl (by decide) (by decide) rfl
   have es:stG 1 U2 (fld 3 (atz 6 v i)) (.int .i64 (k+6*(i:Int)+1+1+1))=some (.tup [],U3):=es
   have hl3:=Bf es
   simp +contextual (disch:=omega) only[go_sem,e0,e1,e5,hat,es]
   obtain⟨U4,es,H⟩:=H.sts hj 1 4 (.int .i64 (k+6*(i:Int)+1+1+1+1)) (⟨((k+6*(i:Int)).tmod 3==0),mtx (k+6*(i:Int)+1),mtx (k+6*(i:Int)+1+1),k+6*(i:Int)+1+1+1,⟨k+6*(i:Int)+1+1+1+1,y.dot.seq⟩⟩) rfl (by decide) (by decide) rfl
   have es:stG 1 U3 (fld 4 (atz 6 v i)) (.int .i64 (k+6*(i:Int)+1+1+1+1))=some (.tup [],U4):=es
   have hl4:=Bf es
   simp +contextual (disch:=omega) only[go_sem,e0,e1,e5,hat,es]
   obtain⟨U5,es,H⟩:=H.sts hj 1 5 (.int .i64 (k+6*(i:Int)+1+1+1+1+1)) (⟨((k+6*(i:Int)).tmod 3==0),mtx (k+6*(i:Int)+1),mtx (k+6*(i:Int)+1+1),k+6*(i:Int)+1+1+1,⟨k+6*(i:Int)+1+1+1+1,k+6*(i:Int)+1+1+1+1+1⟩⟩) rfl (by decide) (by decide) rfl
   have es:stG 1 U4 (fld 5 (atz 6 v i)) (.int .i64 (k+6*(i:Int)+1+1+1+1+1))=some (.tup [],U5):=es
   have hl5:=Bf es
   simp +contextual (disch:=omega) only[go_sem,e0,e1,e5,hat,es]
   have H2:Hp N U5 (ow Cb.kd v (L.set i (A1d (k+(6:Nat)*(i:Int))))::rs.eraseIdx i0):=H
   rw[hst] at H2
   exact⟨by omega,by omega,H2⟩
  ·rintro env U' e5 c0 ⟨e0,e1,hle,H⟩
   rw[Kg] at H
   have hln:=(H.sl 0 rfl).len
   rw[Bi] at hln
   simp +contextual (disch:=omega) only[go_sem,c0,e0,e1,e5,hln]
   exact⟨_,rfl,hle,rfl,H⟩)
 exact⟨U',hR,H'.unpick hlt⟩
def J7:Fn1:=⟨35,[.t 4],(rg [oV 4 (ki 0)] (.seq (rg [oV 5 (ki 0)] (oH 0 (.seq (rg [oM 6 5,oM 7 0,oN 8 7,oB 9 .lss 6 8] (oJ 9 0)) (.seq (.blk 1 (rg [oM 12 0,oM 13 5,oM 14 1,oC 15 88 14,oI 16 3 12 13,oF 17 0 16,oS 1 17 15] (rg [oM 18 1,oZ 19 18 1,oM 1 19] (rg [oM 20 0,oM 21 5,oM 22 1,oI 23 3 20 21,oF 24 1 23,oS 1 24 22] (rg [oM 25 1,oZ 26 25 1,oM 1 26] (rg [oM 27 0,oM 28 5,oM 29 1,oI 30 3 27 28,oF 31 2 30,oS 1 31 29] (.reg [oM 32 1,oZ 33 32 1,oM 1 33]))))))) (.reg [oM 10 5,oZ 11 10 1,oM 5 11]))))) (rg [oM 34 1,oM 4 34] .ret)))⟩
theorem Q8:A5 Tryz.prog 85=some J7:=by kernel_rfl
theorem Oz {N U:St} {rs:List Thg} (i0:Nat) (v:GV) (l:List Tally) (k:Int) (H:Hp N U rs) (hi0:rs[i0]? =some (ow Cm.kd v l)) (h0:0<=k) (hk:k+3*l.length<=4611686018427387904):∃ U',Ret Tryz.prog 85 [v,gi k] U (gi (k+3*l.length)) U'/\Hp N U' (rs.set i0 (ow Cm.kd v (mkF Mv 3 k l.length))):=by
 have H:=H.pick i0 hi0
 have hlt:=(Zad.1 hi0).1
 obtain⟨r,U',hR,rfl,H'⟩:=Ak (P:=Tryz.prog) (N:=U) (args:=[v,gi k]) (Post:=fun r U'=>r=gi (k+3*l.length)/\Hp N U' (ow Cm.kd v (mkF Mv 3 k l.length)::rs.eraseIdx i0)) Q8 (Z0z rfl) (by
  simp +contextual (disch:=omega) only[go_sem,J7]
  refine Aw l.length 5 (fun i env U'=>env 0=v/\env 1=gi (k+3*(i:Int))/\U.length<=U'.length/\Hp N U' (ow Cm.kd v ((mkF Mv 3 k l.length).take i++l.drop i)::rs.eraseIdx i0)) rfl ⟨rfl,(by show gi k=gi (k+3*0);simp),Zai _,by simpa using H⟩ ?_ ?_
  ·rintro i env U' hi e5 c0 ⟨e0,e1,hle,H⟩
   have hL:=Kf (l:=l) (e:=Mv) (c:=3) (k:=k) (i:=i)
   have hst:=I2 (e:=Mv) (c:=3) (k:=k) hi
   generalize(mkF Mv 3 k l.length).take i++l.drop i=L at H hL hst
   have hj:i<L.length:=by omega
   have h1:=H.sl 0 rfl
   have hln:=h1.len
   rw[hL] at hln
   have hat:=A8 h1 hj
   rw[Pd hj] at H
   generalize hy:L[i]=y at H hat
   simp +contextual (disch:=omega) only[go_sem,c0,e0,e1,e5,hln,hat]
   refine A7 (Bz _ _ (by omega)) ?_
   simp +contextual (disch:=omega) only[go_sem,e0,e1,hat]
   obtain⟨U0,es,H⟩:=H.sts hj 1 0 (.str (mtx (k+3*(i:Int)))) (⟨mtx (k+3*(i:Int)),y.rep,y.sum⟩) rfl (by decide) (by decide) rfl
   have es:stG 1 U' (fld 0 (atz 3 v i)) (.str (mtx (k+3*(i:Int))))=some (.tup [],U0):=es
   have hl0:=Bf es
   simp +contextual (disch:=omega) only[go_sem,e0,e1,e5,hat,es]
   obtain⟨U1,es,H⟩:=H.sts hj 1 1 (.int .i64 (k+3*(i:Int)+1)) (⟨mtx (k+3*(i:Int)),k+3*(i:Int)+1,y.sum⟩) rfl (by decide) (by decide) rfl
   have es:stG 1 U0 (fld 1 (atz 3 v i)) (.int .i64 (k+3*(i:Int)+1))=some (.tup [],U1):=es
   have hl1:=Bf es
   simp +contextual (disch:=omega) only[go_sem,e0,e1,e5,hat,es]
   obtain⟨U2,es,H⟩:=H.sts hj 1 2 (.int .i64 (k+3*(i:Int)+1+1)) (⟨mtx (k+3*(i:Int)),k+3*(i:Int)+1,k+3*(i:Int)+1+1⟩) rfl (by decide) (by decide) rfl
   have es:stG 1 U1 (fld 2 (atz 3 v i)) (.int .i64 (k+3*(i:Int)+1+1))=some (.tup [],U2):=es
   have hl2:=Bf es
   simp +contextual (disch:=omega) only[go_sem,e0,e1,e5,hat,es]
   have H2:Hp N U2 (ow Cm.kd v (L.set i (Mv (k+(3:Nat)*(i:Int))))::rs.eraseIdx i0):=H
   rw[hst] at H2
   exact⟨by omega,by omega,H2⟩
  ·rintro env U' e5 c0 ⟨e0,e1,hle,H⟩
   rw[Kg] at H
   have hln:=(H.sl 0 rfl).len
   rw[Bi] at hln
   simp +contextual (disch:=omega) only[go_sem,c0,e0,e1,e5,hln]
   exact⟨_,rfl,hle,rfl,H⟩)
 exact⟨U',hR,H'.unpick hlt⟩
def Kn:Fn1:=⟨22,[.t 4],(rg [oX 2 0,oV 4 (ki 0)] (rg [oF 5 0 2,oL 6 5,oM 7 1,oD 8 25 6 7,oM 1 8] (rg [oF 9 1 2,oL 10 9,oM 11 1,oD 12 85 10 11,oM 1 12] (rg [oF 13 2 2,oL 14 13,oM 15 1,oD 16 86 14 15,oM 1 16] (rg [oF 17 3 2,oL 18 17,oM 19 1,oD 20 87 18 19,oM 1 20] (rg [oM 21 1,oM 4 21] .ret))))))⟩
theorem Ta:A5 Tryz.prog 23=some Kn:=by kernel_rfl
theorem I3 {N U:St} {rs:List Thg} (i0:Nat) (cs:List GV) (x:State) (k:Int) (H:Hp N U rs) (hi0:rs[i0]? =some (own A9 cs x)) (h0:0<=k) (hk:k+Es x<=4611686018427387904):∃ U',Ret Tryz.prog 23 [.agg cs,gi k] U (gi (k+Es x)) U'/\Hp N U' (rs.set i0 (own A9 cs (A43 k x))):=by
 have hlt:=(Zad.1 hi0).1
 have hlen:=A9.len (H.rd i0 hi0)
 have hlen:cs.length=4:=hlen
 obtain⟨v0,v1,v2,v3,rfl,H⟩:=(H.pick i0 hi0).splitState
 unfold Es at hk
 obtain⟨r,U',hR,rfl,H'⟩:=Ak (P:=Tryz.prog) (N:=U) (args:=[.agg (v0::v1::v2::v3::[]),gi k]) (Post:=fun r U'=>r=gi (k+Es x)/\Hp N U' (own A9 (v0::v1::v2::v3::[]) (A43 k x)::rs.eraseIdx i0)) Ta (Z0z rfl) (by
  have H:=H.new 1 (v0::v1::v2::v3::[])
  simp +contextual (disch:=omega) only[go_sem,Kn,Zaa]
  obtain⟨U0,R0,H⟩:=J5 1 v0 x.know (k) H rfl (by omega) (by omega)
  refine Ag R0 ?_
  try simp only[Zah,Zae] at H
  have hl0:=R0.2.1
  try simp +contextual (disch:=omega) only[go_sem,Zaa,A1 (H.pt 0 rfl)]
  obtain⟨U1,R1,H⟩:=Oz 2 v1 x.tallies (k+1*(x.know.length:Int)) H rfl (by omega) (by omega)
  refine Ag R1 ?_
  try simp only[Zah,Zae] at H
  have hl1:=R1.2.1
  try simp +contextual (disch:=omega) only[go_sem,Zaa,A1 (H.pt 0 rfl)]
  obtain⟨U2,R2,H⟩:=Q7 3 v2 x.lives (k+1*(x.know.length:Int)+3*(x.tallies.length:Int)) H rfl (by omega) (by omega)
  refine Ag R2 ?_
  try simp only[Zah,Zae] at H
  have hl2:=R2.2.1
  try simp +contextual (disch:=omega) only[go_sem,Zaa,A1 (H.pt 0 rfl)]
  obtain⟨U3,R3,H⟩:=Q6 4 v3 x.cells (k+1*(x.know.length:Int)+3*(x.tallies.length:Int)+6*(x.lives.length:Int)) H rfl (by omega) (by omega)
  refine Ag R3 ?_
  try simp only[Zah,Zae] at H
  have hl3:=R3.2.1
  try simp +contextual (disch:=omega) only[go_sem,Zaa,A1 (H.pt 0 rfl)]
  try simp only[List.length_append,Za0,Zbc] at hl0
  refine⟨_,rfl,by omega,by unfold Es;congr 1;omega,H.drop1.ownState (x:=A43 k x)⟩)
 exact⟨U',hR,H'.unpick hlt⟩
def J9:Fn1:=⟨36,[.t 4],(rg [oV 4 (ki 0)] (.seq (rg [oV 5 (ki 0)] (oH 0 (.seq (rg [oM 6 5,oM 7 0,oN 8 7,oB 9 .lss 6 8] (oJ 9 0)) (.seq (.blk 1 (rg [oM 12 0,oM 13 5,oM 14 1,oI 15 3 12 13,oF 16 0 15,oS 1 16 14] (rg [oM 17 1,oZ 18 17 1,oM 1 18] (rg [oM 19 0,oM 20 5,oM 21 1,oC 22 88 21,oI 23 3 19 20,oF 24 1 23,oS 1 24 22] (rg [oM 25 1,oZ 26 25 1,oM 1 26] (rg [oM 27 0,oM 28 5,oM 29 1,oC 30 88 29,oI 31 3 27 28,oF 32 2 31,oS 1 32 30] (.reg [oM 33 1,oZ 34 33 1,oM 1 34]))))))) (.reg [oM 10 5,oZ 11 10 1,oM 5 11]))))) (rg [oM 35 1,oM 4 35] .ret)))⟩
theorem Q9:A5 Tryz.prog 24=some J9:=by kernel_rfl
theorem P1 {N U:St} {rs:List Thg} (i0:Nat) (v:GV) (l:List Watch) (k:Int) (H:Hp N U rs) (hi0:rs[i0]? =some (ow Dm.kd v l)) (h0:0<=k) (hk:k+3*l.length<=4611686018427387904):∃ U',Ret Tryz.prog 24 [v,gi k] U (gi (k+3*l.length)) U'/\Hp N U' (rs.set i0 (ow Dm.kd v (mkF Q5 3 k l.length))):=by
 have H:=H.pick i0 hi0
 have hlt:=(Zad.1 hi0).1
 obtain⟨r,U',hR,rfl,H'⟩:=Ak (P:=Tryz.prog) (N:=U) (args:=[v,gi k]) (Post:=fun r U'=>r=gi (k+3*l.length)/\Hp N U' (ow Dm.kd v (mkF Q5 3 k l.length)::rs.eraseIdx i0)) Q9 (Z0z rfl) (by
  simp +contextual (disch:=omega) only[go_sem,J9]
  refine Aw l.length 5 (fun i env U'=>env 0=v/\env 1=gi (k+3*(i:Int))/\U.length<=U'.length/\Hp N U' (ow Dm.kd v ((mkF Q5 3 k l.length).take i++l.drop i)::rs.eraseIdx i0)) rfl ⟨rfl,(by show gi k=gi (k+3*0);simp),Zai _,by simpa using H⟩ ?_ ?_
  ·rintro i env U' hi e5 c0 ⟨e0,e1,hle,H⟩
   have hL:=Kf (l:=l) (e:=Q5) (c:=3) (k:=k) (i:=i)
   have hst:=I2 (e:=Q5) (c:=3) (k:=k) hi
   generalize(mkF Q5 3 k l.length).take i++l.drop i=L at H hL hst
   have hj:i<L.length:=by omega
   have h1:=H.sl 0 rfl
   have hln:=h1.len
   rw[hL] at hln
   have hat:=F3 h1 hj
   rw[Pd hj] at H
   generalize hy:L[i]=y at H hat
   simp +contextual (disch:=omega) only[go_sem,c0,e0,e1,e5,hln,hat]
   obtain⟨U0,es,H⟩:=H.sts hj 1 0 (.int .i64 (k+3*(i:Int))) (⟨k+3*(i:Int),y.obj,y.key⟩) rfl (by decide) (by decide) rfl
   have es:stG 1 U' (fld 0 (atz 3 v i)) (.int .i64 (k+3*(i:Int)))=some (.tup [],U0):=es
   have hl0:=Bf es
   simp +contextual (disch:=omega) only[go_sem,e0,e1,e5,hat,es]
   refine A7 (Bz _ _ (by omega)) ?_
   simp +contextual (disch:=omega) only[go_sem,e0,e1,hat]
   obtain⟨U1,es,H⟩:=H.sts hj 1 1 (.str (mtx (k+3*(i:Int)+1))) (⟨k+3*(i:Int),mtx (k+3*(i:Int)+1),y.key⟩) rfl (by decide) (by decide) rfl
   have es:stG 1 U0 (fld 1 (atz 3 v i)) (.str (mtx (k+3*(i:Int)+1)))=some (.tup [],U1):=es
   have hl1:=Bf es
   simp +contextual (disch:=omega) only[go_sem,e0,e1,e5,hat,es]
   refine A7 (Bz _ _ (by omega)) ?_
   simp +contextual (disch:=omega) only[go_sem,e0,e1,hat]
   obtain⟨U2,es,H⟩:=H.sts hj 1 2 (.str (mtx (k+3*(i:Int)+1+1))) (⟨k+3*(i:Int),mtx (k+3*(i:Int)+1),mtx (k+3*(i:Int)+1+1)⟩) rfl (by decide) (by decide) rfl
   have es:stG 1 U1 (fld 2 (atz 3 v i)) (.str (mtx (k+3*(i:Int)+1+1)))=some (.tup [],U2):=es
   have hl2:=Bf es
   simp +contextual (disch:=omega) only[go_sem,e0,e1,e5,hat,es]
   have H2:Hp N U2 (ow Dm.kd v (L.set i (Q5 (k+(3:Nat)*(i:Int))))::rs.eraseIdx i0):=H
   rw[hst] at H2
   exact⟨by omega,by omega,H2⟩
  ·rintro env U' e5 c0 ⟨e0,e1,hle,H⟩
   rw[Kg] at H
   have hln:=(H.sl 0 rfl).len
   rw[Bi] at hln
   simp +contextual (disch:=omega) only[go_sem,c0,e0,e1,e5,hln]
   exact⟨_,rfl,hle,rfl,H⟩)
 exact⟨U',hR,H'.unpick hlt⟩
def V8:Fn1:=⟨13,[.t 4],(rg [oX 2 0,oV 4 (ki 0)] (rg [oM 5 1,oF 6 0 2,oL 7 6,o 8 (.len true (.t 7)),oB 9 .sub 5 8,oM 1 9] (.seq (rg [oM 10 1,oE 11 .lss 10 0] (oG 11 (rg [o 4 (.mov (ki (-1)))] .ret))) (rg [oM 12 1,oM 4 12] .ret))))⟩
theorem A44:A5 Tryz.prog 180=some V8:=by kernel_rfl
theorem A1f (N:St) (x:Cell) (n:Int) (hw:A70 x) (h0:0<=n) (h1:n<=1099511627776):Ret Tryz.prog 180 [.agg [.str x.obj,.int .i64 x.dot.rep,.int .i64 x.dot.seq,.int .i64 x.time,.int .i64 x.ref.rep,.int .i64 x.ref.seq,.int .i64 x.val,.bool x.gone],gi n] N (gi (lf n (Dn x))) N:=by
 have w0:=hw;unfold A70 at w0
 refine Af A44 (Z0z rfl) trivial ?_
 simp +contextual (disch:=omega) only[go_sem,V8,Zaa]
 refine⟨fun hn=> ?_,fun hn=> ?_⟩
 ·have hn:=of_decide_eq_true hn
  unfold Dn lf;rw[if_pos (by omega)]
 have hn:=of_decide_eq_false hn
 try simp(disch:=omega) only[Bh]
 unfold Dn;rw[show lf n (x.obj.size)=n - ((x.obj.size:Nat):Int) by unfold lf;rw[if_neg (by omega)]];try omega
def Qb:Fn1:=⟨27,[.t 4],(rg [oV 4 (ki 0)] (rg [oM 6 1,oM 7 0,oN 8 7,oB 9 .sub 6 8,oM 1 9] (.seq (rg [oM 10 1,oE 11 .lss 10 0] (oG 11 (rg [o 4 (.mov (ki (-1)))] .ret))) (.seq (rg [oV 5 (ki 0)] (oH 0 (.seq (rg [oM 12 5,oM 13 0,oN 14 13,oB 15 .lss 12 14] (oJ 15 0)) (.seq (.blk 1 (rg [oM 18 0,oM 19 5,oI 20 8 18 19,oW 21 8 20,oM 22 1,oD 23 180 21 22,oM 1 23] (rg [oM 24 1,oE 25 .lss 24 0] (oG 25 (rg [o 4 (.mov (ki (-1)))] .ret))))) (.reg [oM 16 5,oZ 17 16 1,oM 5 17]))))) (rg [oM 26 1,oM 4 26] .ret)))))⟩
theorem A1g:A5 Tryz.prog 76=some Qb:=by kernel_rfl
theorem Zc (N:St) (v:GV) (l:List Cell) (hR:RS Aj.kd N v l) (n:Int) (hw:l.length<=9223372036854775807/\∀ y∈l,A70 y) (h0:0<=n) (h1:n<=1099511627776):Ret Tryz.prog 76 [v,gi n] N (gi (lf n (l.length+sumL Dn l))) N:=by
 obtain⟨wl,we⟩:=hw
 refine Af A1g (Z0z rfl) trivial ?_
 simp +contextual (disch:=omega) only[go_sem,Qb,hR.len]
 refine⟨fun hn=> ?_,fun hn=> ?_⟩
 ·have hn:=of_decide_eq_true hn
  unfold lf;rw[if_pos (by omega)]
 have hn:=of_decide_eq_false hn
 refine Aw l.length 5 (fun i env U=>∃ m:Int,env 0=v/\env 1=gi m/\m=n - l.length - sumL Dn (l.take i)/\0<=m/\N <+: U) rfl ⟨n - l.length,rfl,rfl,by simp[sumL],by omega,Zab _⟩ ?_ ?_
 ·rintro i env U hi e5 c0 ⟨m,e0,e1,em,hm,hp⟩
  have h1:=hR.pre hp
  have hs:=Ka (f:=Dn) hi
  have hst:=Fn Dn l (i+1)
  simp +contextual (disch:=omega) only[go_sem,c0,e0,e1,e5,hR.len,A4 h1 hi]
  refine A7 (A1f U l[i] m (we _ (Zak hi)) hm (by omega)) ?_
  simp +contextual (disch:=omega) only[go_sem,c0,e0,e1,e5,hp]
  have g0:= @Pu m (Dn l[i]) hm
  have g1:= @A3y m (Dn l[i])
  refine⟨fun hn=> ?_,fun hn=> ?_⟩
  ·have hn:=Mo.1 (of_decide_eq_true hn)
   unfold lf;rw[if_pos (by omega)]
  ·have hn:=of_decide_eq_false hn
   have f:=Fe hn
   exact⟨_,rfl,by omega,by omega⟩
 ·rintro env U e5 c0 ⟨m,e0,e1,em,hm,hp⟩
  rw[Zac] at em
  simp +contextual (disch:=omega) only[go_sem,c0,e0,e1,e5,hR.len,hp]
  unfold lf;rw[if_neg (by omega)];omega
def Va:Fn1:=⟨12,[.t 4],(rg [oV 4 (ki 0)] (rg [oM 5 1,oM 6 0,oN 7 6,oB 8 .sub 5 7,oM 1 8] (.seq (rg [oM 9 1,oE 10 .lss 9 0] (oG 10 (rg [o 4 (.mov (ki (-1)))] .ret))) (rg [oM 11 1,oM 4 11] .ret))))⟩
theorem A45:A5 Tryz.prog 73=some Va:=by kernel_rfl
theorem A1h (N:St) (v:GV) (l:List Int) (hR:RS pI.kd N v l) (n:Int) (hw:l.length<=9223372036854775807) (h0:0<=n) (h1:n<=1099511627776):Ret Tryz.prog 73 [v,gi n] N (gi (lf n l.length)) N:=by
 refine Af A45 (Z0z rfl) trivial ?_
 simp +contextual (disch:=omega) only[go_sem,Va,hR.len]
 refine⟨fun h=> ?_,fun h=> ?_⟩
 ·rw[lf,if_pos (of_decide_eq_true h)]
 ·rw[lf,if_neg (of_decide_eq_false h)]
def Vc:Fn1:=⟨20,[.t 4],(rg [oX 2 0,oV 4 (ki 0)] (rg [oM 5 1,oF 6 1 2,oL 7 6,o 8 (.len true (.t 7)),oB 9 .sub 5 8,oM 1 9] (.seq (rg [oM 10 1,oE 11 .lss 10 0] (oG 11 (rg [o 4 (.mov (ki (-1)))] .ret))) (rg [oM 12 1,oF 13 2 2,oL 14 13,o 15 (.len true (.t 14)),oB 16 .sub 12 15,oM 1 16] (.seq (rg [oM 17 1,oE 18 .lss 17 0] (oG 18 (rg [o 4 (.mov (ki (-1)))] .ret))) (rg [oM 19 1,oM 4 19] .ret))))))⟩
theorem A46:A5 Tryz.prog 179=some Vc:=by kernel_rfl
theorem A1i (N:St) (x:Live) (n:Int) (hw:A8p x) (h0:0<=n) (h1:n<=1099511627776):Ret Tryz.prog 179 [.agg [.bool x.map,.str x.obj,.str x.key,.int .i64 x.val,.int .i64 x.dot.rep,.int .i64 x.dot.seq],gi n] N (gi (lf n (C5 x))) N:=by
 obtain⟨w0,w1⟩:=hw
 refine Af A46 (Z0z rfl) trivial ?_
 simp +contextual (disch:=omega) only[go_sem,Vc,Zaa]
 refine⟨fun hn=> ?_,fun hn=> ?_⟩
 ·have hn:=of_decide_eq_true hn
  unfold C5 lf;rw[if_pos (by omega)]
 have hn:=of_decide_eq_false hn
 try simp(disch:=omega) only[Bh]
 refine⟨fun hn=> ?_,fun hn=> ?_⟩
 ·have hn:=of_decide_eq_true hn
  unfold C5 lf;rw[if_pos (by omega)]
 have hn:=of_decide_eq_false hn
 try simp(disch:=omega) only[Bh]
 unfold C5;rw[show lf n (x.obj.size+x.key.size)=n - ((x.obj.size+x.key.size:Nat):Int) by unfold lf;rw[if_neg (by omega)]];try omega
def Qd:Fn1:=⟨27,[.t 4],(rg [oV 4 (ki 0)] (rg [oM 6 1,oM 7 0,oN 8 7,oB 9 .sub 6 8,oM 1 9] (.seq (rg [oM 10 1,oE 11 .lss 10 0] (oG 11 (rg [o 4 (.mov (ki (-1)))] .ret))) (.seq (rg [oV 5 (ki 0)] (oH 0 (.seq (rg [oM 12 5,oM 13 0,oN 14 13,oB 15 .lss 12 14] (oJ 15 0)) (.seq (.blk 1 (rg [oM 18 0,oM 19 5,oI 20 6 18 19,oW 21 6 20,oM 22 1,oD 23 179 21 22,oM 1 23] (rg [oM 24 1,oE 25 .lss 24 0] (oG 25 (rg [o 4 (.mov (ki (-1)))] .ret))))) (.reg [oM 16 5,oZ 17 16 1,oM 5 17]))))) (rg [oM 26 1,oM 4 26] .ret)))))⟩
theorem A1j:A5 Tryz.prog 75=some Qd:=by kernel_rfl
theorem Zd (N:St) (v:GV) (l:List Live) (hR:RS Cb.kd N v l) (n:Int) (hw:l.length<=9223372036854775807/\∀ y∈l,A8p y) (h0:0<=n) (h1:n<=1099511627776):Ret Tryz.prog 75 [v,gi n] N (gi (lf n (l.length+sumL C5 l))) N:=by
 obtain⟨wl,we⟩:=hw
 refine Af A1j (Z0z rfl) trivial ?_
 simp +contextual (disch:=omega) only[go_sem,Qd,hR.len]
 refine⟨fun hn=> ?_,fun hn=> ?_⟩
 ·have hn:=of_decide_eq_true hn
  unfold lf;rw[if_pos (by omega)]
 have hn:=of_decide_eq_false hn
 refine Aw l.length 5 (fun i env U=>∃ m:Int,env 0=v/\env 1=gi m/\m=n - l.length - sumL C5 (l.take i)/\0<=m/\N <+: U) rfl ⟨n - l.length,rfl,rfl,by simp[sumL],by omega,Zab _⟩ ?_ ?_
 ·rintro i env U hi e5 c0 ⟨m,e0,e1,em,hm,hp⟩
  have h1:=hR.pre hp
  have hs:=Ka (f:=C5) hi
  have hst:=Fn C5 l (i+1)
  simp +contextual (disch:=omega) only[go_sem,c0,e0,e1,e5,hR.len,A3 h1 hi]
  refine A7 (A1i U l[i] m (we _ (Zak hi)) hm (by omega)) ?_
  simp +contextual (disch:=omega) only[go_sem,c0,e0,e1,e5,hp]
  have g0:= @Pu m (C5 l[i]) hm
  have g1:= @A3y m (C5 l[i])
  refine⟨fun hn=> ?_,fun hn=> ?_⟩
  ·have hn:=Mo.1 (of_decide_eq_true hn)
   unfold lf;rw[if_pos (by omega)]
  ·have hn:=of_decide_eq_false hn
   have f:=Fe hn
   exact⟨_,rfl,by omega,by omega⟩
 ·rintro env U e5 c0 ⟨m,e0,e1,em,hm,hp⟩
  rw[Zac] at em
  simp +contextual (disch:=omega) only[go_sem,c0,e0,e1,e5,hR.len,hp]
  unfold lf;rw[if_neg (by omega)];omega
def Qf:Fn1:=⟨13,[.t 4],(rg [oX 2 0,oV 4 (ki 0)] (rg [oM 5 1,oF 6 0 2,oL 7 6,o 8 (.len true (.t 7)),oB 9 .sub 5 8,oM 1 9] (.seq (rg [oM 10 1,oE 11 .lss 10 0] (oG 11 (rg [o 4 (.mov (ki (-1)))] .ret))) (rg [oM 12 1,oM 4 12] .ret))))⟩
theorem A1k:A5 Tryz.prog 178=some Qf:=by kernel_rfl
theorem Ze (N:St) (x:Tally) (n:Int) (hw:Tx x) (h0:0<=n) (h1:n<=1099511627776):Ret Tryz.prog 178 [.agg [.str x.obj,.int .i64 x.rep,.int .i64 x.sum],gi n] N (gi (lf n (Bg x))) N:=by
 have w0:=hw;unfold Tx at w0
 refine Af A1k (Z0z rfl) trivial ?_
 simp +contextual (disch:=omega) only[go_sem,Qf,Zaa]
 refine⟨fun hn=> ?_,fun hn=> ?_⟩
 ·have hn:=of_decide_eq_true hn
  unfold Bg lf;rw[if_pos (by omega)]
 have hn:=of_decide_eq_false hn
 try simp(disch:=omega) only[Bh]
 unfold Bg;rw[show lf n (x.obj.size)=n - ((x.obj.size:Nat):Int) by unfold lf;rw[if_neg (by omega)]];try omega
def O1:Fn1:=⟨27,[.t 4],(rg [oV 4 (ki 0)] (rg [oM 6 1,oM 7 0,oN 8 7,oB 9 .sub 6 8,oM 1 9] (.seq (rg [oM 10 1,oE 11 .lss 10 0] (oG 11 (rg [o 4 (.mov (ki (-1)))] .ret))) (.seq (rg [oV 5 (ki 0)] (oH 0 (.seq (rg [oM 12 5,oM 13 0,oN 14 13,oB 15 .lss 12 14] (oJ 15 0)) (.seq (.blk 1 (rg [oM 18 0,oM 19 5,oI 20 3 18 19,oW 21 3 20,oM 22 1,oD 23 178 21 22,oM 1 23] (rg [oM 24 1,oE 25 .lss 24 0] (oG 25 (rg [o 4 (.mov (ki (-1)))] .ret))))) (.reg [oM 16 5,oZ 17 16 1,oM 5 17]))))) (rg [oM 26 1,oM 4 26] .ret)))))⟩
theorem Zf:A5 Tryz.prog 74=some O1:=by kernel_rfl
theorem Tb (N:St) (v:GV) (l:List Tally) (hR:RS Cm.kd N v l) (n:Int) (hw:l.length<=9223372036854775807/\∀ y∈l,Tx y) (h0:0<=n) (h1:n<=1099511627776):Ret Tryz.prog 74 [v,gi n] N (gi (lf n (l.length+sumL Bg l))) N:=by
 obtain⟨wl,we⟩:=hw
 refine Af Zf (Z0z rfl) trivial ?_
 simp +contextual (disch:=omega) only[go_sem,O1,hR.len]
 refine⟨fun hn=> ?_,fun hn=> ?_⟩
 ·have hn:=of_decide_eq_true hn
  unfold lf;rw[if_pos (by omega)]
 have hn:=of_decide_eq_false hn
 refine Aw l.length 5 (fun i env U=>∃ m:Int,env 0=v/\env 1=gi m/\m=n - l.length - sumL Bg (l.take i)/\0<=m/\N <+: U) rfl ⟨n - l.length,rfl,rfl,by simp[sumL],by omega,Zab _⟩ ?_ ?_
 ·rintro i env U hi e5 c0 ⟨m,e0,e1,em,hm,hp⟩
  have h1:=hR.pre hp
  have hs:=Ka (f:=Bg) hi
  have hst:=Fn Bg l (i+1)
  simp +contextual (disch:=omega) only[go_sem,c0,e0,e1,e5,hR.len,A8 h1 hi]
  refine A7 (Ze U l[i] m (we _ (Zak hi)) hm (by omega)) ?_
  simp +contextual (disch:=omega) only[go_sem,c0,e0,e1,e5,hp]
  have g0:= @Pu m (Bg l[i]) hm
  have g1:= @A3y m (Bg l[i])
  refine⟨fun hn=> ?_,fun hn=> ?_⟩
  ·have hn:=Mo.1 (of_decide_eq_true hn)
   unfold lf;rw[if_pos (by omega)]
  ·have hn:=of_decide_eq_false hn
   have f:=Fe hn
   exact⟨_,rfl,by omega,by omega⟩
 ·rintro env U e5 c0 ⟨m,e0,e1,em,hm,hp⟩
  rw[Zac] at em
  simp +contextual (disch:=omega) only[go_sem,c0,e0,e1,e5,hR.len,hp]
  unfold lf;rw[if_neg (by omega)];omega
def Qh:Fn1:=⟨30,[.t 4],(rg [oX 2 0,oV 4 (ki 0)] (rg [oF 5 0 2,oL 6 5,oM 7 1,oD 8 73 6 7,oM 1 8] (.seq (rg [oM 9 1,oE 10 .lss 9 0] (oG 10 (rg [o 4 (.mov (ki (-1)))] .ret))) (rg [oF 11 1 2,oL 12 11,oM 13 1,oD 14 74 12 13,oM 1 14] (.seq (rg [oM 15 1,oE 16 .lss 15 0] (oG 16 (rg [o 4 (.mov (ki (-1)))] .ret))) (rg [oF 17 2 2,oL 18 17,oM 19 1,oD 20 75 18 19,oM 1 20] (.seq (rg [oM 21 1,oE 22 .lss 21 0] (oG 22 (rg [o 4 (.mov (ki (-1)))] .ret))) (rg [oF 23 3 2,oL 24 23,oM 25 1,oD 26 76 24 25,oM 1 26] (.seq (rg [oM 27 1,oE 28 .lss 27 0] (oG 28 (rg [o 4 (.mov (ki (-1)))] .ret))) (rg [oM 29 1,oM 4 29] .ret))))))))))⟩
theorem A1l:A5 Tryz.prog 14=some Qh:=by kernel_rfl
theorem Ko (N:St) (cs:List GV) (x:State) (hR:A9.R N x cs) (n:Int) (hw:Aau x) (h0:0<=n) (h1:n<=1099511627776):Ret Tryz.prog 14 [.agg cs,gi n] N (gi (lf n (Aa x))) N:=by
 obtain⟨v0,v1,v2,v3,rfl,q0,q1,q2,q3⟩:=hR
 obtain⟨w0,w1,w2,w3⟩:=hw
 refine Af A1l (Z0z rfl) trivial ?_
 simp +contextual (disch:=omega) only[go_sem,Qh,Zaa]
 refine A7 (A1h _ v0 x.know (q0.pre (pre1 _ _)) (n) w0 (by omega) (by omega)) ?_
 simp +contextual (disch:=omega) only[go_sem,Zaa]
 have g0:= @Pu (n) (x.know.length) (by omega)
 refine⟨fun hn=> ?_,fun hn=> ?_⟩
 ·have hn:=of_decide_eq_true hn
  have hn:=Mo.1 hn
  unfold Aa lf;rw[if_pos (by omega)]
 have hn:=of_decide_eq_false hn
 have f0:=Fe hn
 try simp(disch:=omega) only[Bh]
 refine A7 (Tb _ v1 x.tallies (q1.pre (pre1 _ _)) (lf (n) (x.know.length)) w1 (by omega) (by omega)) ?_
 simp +contextual (disch:=omega) only[go_sem,Zaa]
 have g1:= @Pu (lf (n) (x.know.length)) ((x.tallies.length+sumL Bg x.tallies)) (by omega)
 refine⟨fun hn=> ?_,fun hn=> ?_⟩
 ·have hn:=of_decide_eq_true hn
  have hn:=Mo.1 hn
  unfold Aa lf;rw[if_pos (by omega)]
 have hn:=of_decide_eq_false hn
 have f1:=Fe hn
 try simp(disch:=omega) only[Bh]
 refine A7 (Zd _ v2 x.lives (q2.pre (pre1 _ _)) (lf (lf (n) (x.know.length)) ((x.tallies.length+sumL Bg x.tallies))) w2 (by omega) (by omega)) ?_
 simp +contextual (disch:=omega) only[go_sem,Zaa]
 have g2:= @Pu (lf (lf (n) (x.know.length)) ((x.tallies.length+sumL Bg x.tallies))) ((x.lives.length+sumL C5 x.lives)) (by omega)
 refine⟨fun hn=> ?_,fun hn=> ?_⟩
 ·have hn:=of_decide_eq_true hn
  have hn:=Mo.1 hn
  unfold Aa lf;rw[if_pos (by omega)]
 have hn:=of_decide_eq_false hn
 have f2:=Fe hn
 try simp(disch:=omega) only[Bh]
 refine A7 (Zc _ v3 x.cells (q3.pre (pre1 _ _)) (lf (lf (lf (n) (x.know.length)) ((x.tallies.length+sumL Bg x.tallies))) ((x.lives.length+sumL C5 x.lives))) w3 (by omega) (by omega)) ?_
 simp +contextual (disch:=omega) only[go_sem,Zaa]
 have g3:= @Pu (lf (lf (lf (n) (x.know.length)) ((x.tallies.length+sumL Bg x.tallies))) ((x.lives.length+sumL C5 x.lives))) ((x.cells.length+sumL Dn x.cells)) (by omega)
 refine⟨fun hn=> ?_,fun hn=> ?_⟩
 ·have hn:=of_decide_eq_true hn
  have hn:=Mo.1 hn
  unfold Aa lf;rw[if_pos (by omega)]
 have hn:=of_decide_eq_false hn
 have f3:=Fe hn
 try simp(disch:=omega) only[Bh]
 unfold Aa;rw[show lf n (x.know.length+(x.tallies.length+sumL Bg x.tallies)+(x.lives.length+sumL C5 x.lives)+(x.cells.length+sumL Dn x.cells))=n - ((x.know.length+(x.tallies.length+sumL Bg x.tallies)+(x.lives.length+sumL C5 x.lives)+(x.cells.length+sumL Dn x.cells):Nat):Int) by unfold lf;rw[if_neg (by omega)]];try omega
def Qj:Fn1:=⟨20,[.t 4],(rg [oX 2 0,oV 4 (ki 0)] (rg [oM 5 1,oF 6 1 2,oL 7 6,o 8 (.len true (.t 7)),oB 9 .sub 5 8,oM 1 9] (.seq (rg [oM 10 1,oE 11 .lss 10 0] (oG 11 (rg [o 4 (.mov (ki (-1)))] .ret))) (rg [oM 12 1,oF 13 2 2,oL 14 13,o 15 (.len true (.t 14)),oB 16 .sub 12 15,oM 1 16] (.seq (rg [oM 17 1,oE 18 .lss 17 0] (oG 18 (rg [o 4 (.mov (ki (-1)))] .ret))) (rg [oM 19 1,oM 4 19] .ret))))))⟩
theorem A1m:A5 Tryz.prog 64=some Qj:=by kernel_rfl
theorem Zg (N:St) (x:Watch) (n:Int) (hw:A5x x) (h0:0<=n) (h1:n<=1099511627776):Ret Tryz.prog 64 [.agg [.int .i64 x.kind,.str x.obj,.str x.key],gi n] N (gi (lf n (Bb x))) N:=by
 obtain⟨w0,w1⟩:=hw
 refine Af A1m (Z0z rfl) trivial ?_
 simp +contextual (disch:=omega) only[go_sem,Qj,Zaa]
 refine⟨fun hn=> ?_,fun hn=> ?_⟩
 ·have hn:=of_decide_eq_true hn
  unfold Bb lf;rw[if_pos (by omega)]
 have hn:=of_decide_eq_false hn
 try simp(disch:=omega) only[Bh]
 refine⟨fun hn=> ?_,fun hn=> ?_⟩
 ·have hn:=of_decide_eq_true hn
  unfold Bb lf;rw[if_pos (by omega)]
 have hn:=of_decide_eq_false hn
 try simp(disch:=omega) only[Bh]
 unfold Bb;rw[show lf n (x.obj.size+x.key.size)=n - ((x.obj.size+x.key.size:Nat):Int) by unfold lf;rw[if_neg (by omega)]];try omega
def O3:Fn1:=⟨27,[.t 4],(rg [oV 4 (ki 0)] (rg [oM 6 1,oM 7 0,oN 8 7,oB 9 .sub 6 8,oM 1 9] (.seq (rg [oM 10 1,oE 11 .lss 10 0] (oG 11 (rg [o 4 (.mov (ki (-1)))] .ret))) (.seq (rg [oV 5 (ki 0)] (oH 0 (.seq (rg [oM 12 5,oM 13 0,oN 14 13,oB 15 .lss 12 14] (oJ 15 0)) (.seq (.blk 1 (rg [oM 18 0,oM 19 5,oI 20 3 18 19,oW 21 3 20,oM 22 1,oD 23 64 21 22,oM 1 23] (rg [oM 24 1,oE 25 .lss 24 0] (oG 25 (rg [o 4 (.mov (ki (-1)))] .ret))))) (.reg [oM 16 5,oZ 17 16 1,oM 5 17]))))) (rg [oM 26 1,oM 4 26] .ret)))))⟩
theorem Zh:A5 Tryz.prog 15=some O3:=by kernel_rfl
theorem Tc (N:St) (v:GV) (l:List Watch) (hR:RS Dm.kd N v l) (n:Int) (hw:l.length<=9223372036854775807/\∀ y∈l,A5x y) (h0:0<=n) (h1:n<=1099511627776):Ret Tryz.prog 15 [v,gi n] N (gi (lf n (l.length+sumL Bb l))) N:=by
 obtain⟨wl,we⟩:=hw
 refine Af Zh (Z0z rfl) trivial ?_
 simp +contextual (disch:=omega) only[go_sem,O3,hR.len]
 refine⟨fun hn=> ?_,fun hn=> ?_⟩
 ·have hn:=of_decide_eq_true hn
  unfold lf;rw[if_pos (by omega)]
 have hn:=of_decide_eq_false hn
 refine Aw l.length 5 (fun i env U=>∃ m:Int,env 0=v/\env 1=gi m/\m=n - l.length - sumL Bb (l.take i)/\0<=m/\N <+: U) rfl ⟨n - l.length,rfl,rfl,by simp[sumL],by omega,Zab _⟩ ?_ ?_
 ·rintro i env U hi e5 c0 ⟨m,e0,e1,em,hm,hp⟩
  have h1:=hR.pre hp
  have hs:=Ka (f:=Bb) hi
  have hst:=Fn Bb l (i+1)
  simp +contextual (disch:=omega) only[go_sem,c0,e0,e1,e5,hR.len,F3 h1 hi]
  refine A7 (Zg U l[i] m (we _ (Zak hi)) hm (by omega)) ?_
  simp +contextual (disch:=omega) only[go_sem,c0,e0,e1,e5,hp]
  have g0:= @Pu m (Bb l[i]) hm
  have g1:= @A3y m (Bb l[i])
  refine⟨fun hn=> ?_,fun hn=> ?_⟩
  ·have hn:=Mo.1 (of_decide_eq_true hn)
   unfold lf;rw[if_pos (by omega)]
  ·have hn:=of_decide_eq_false hn
   have f:=Fe hn
   exact⟨_,rfl,by omega,by omega⟩
 ·rintro env U e5 c0 ⟨m,e0,e1,em,hm,hp⟩
  rw[Zac] at em
  simp +contextual (disch:=omega) only[go_sem,c0,e0,e1,e5,hR.len,hp]
  unfold lf;rw[if_neg (by omega)];omega
def A1o:Fn1:=⟨11,[.c 2 true 2],(rg [oX 1 0,o 2 (.new [z0,z0])] (rg [o 3 (.new [z0,z0])] (rg [oF 4 0 1,oL 5 4,oF 6 0 3,oS 1 6 5] (rg [oF 7 1 1,oL 8 7,oF 9 1 3,oS 1 9 8] (rg [oW 10 2 3,oS 2 2 10] .ret)))))⟩
theorem A72:A5 Tryz.prog 252=some A1o:=by kernel_rfl
theorem Jj (N:St) (x:Dot):Ret Tryz.prog 252 [.agg [.int .i64 x.rep,.int .i64 x.seq]] N (.agg [.int .i64 x.rep,.int .i64 x.seq]) N:=by
 refine Af A72 (Z0z rfl) (by simp[vLt,cLt,sLt]) ?_
 simp +contextual (disch:=omega) only[go_sem,A1o]
def Ve:Fn1:=⟨25,[.c 2 true 8],(rg [oX 1 0,o 2 (.new [s0,z0,z0,z0,z0,z0,z0,(.bool false)])] (rg [o 3 (.new [s0,z0,z0,z0,z0,z0,z0,(.bool false)])] (rg [oF 4 0 1,oL 5 4,oF 6 0 3,oS 1 6 5] (rg [oF 7 1 1,oW 8 2 7,oC 9 252 8,oF 10 1 3,oS 2 10 9] (rg [oF 11 3 1,oL 12 11,oF 13 3 3,oS 1 13 12] (rg [oF 14 4 1,oW 15 2 14,oC 16 252 15,oF 17 4 3,oS 2 17 16] (rg [oF 18 6 1,oL 19 18,oF 20 6 3,oS 1 20 19] (rg [oF 21 7 1,oL 22 21,oF 23 7 3,oS 1 23 22] (rg [oW 24 8 3,oS 8 2 24] .ret)))))))))⟩
theorem A47:A5 Tryz.prog 183=some Ve:=by kernel_rfl
theorem A1p (N:St) (x:Cell):Ret Tryz.prog 183 [.agg [.str x.obj,.int .i64 x.dot.rep,.int .i64 x.dot.seq,.int .i64 x.time,.int .i64 x.ref.rep,.int .i64 x.ref.seq,.int .i64 x.val,.bool x.gone]] N (.agg [.str x.obj,.int .i64 x.dot.rep,.int .i64 x.dot.seq,.int .i64 x.time,.int .i64 x.ref.rep,.int .i64 x.ref.seq,.int .i64 x.val,.bool x.gone]) N:=by
 refine Af A47 (Z0z rfl) (by simp[vLt,cLt,sLt]) ?_
 simp +contextual (disch:=omega) only[go_sem,Ve]
 refine A7 (Jj _ x.dot) ?_
 simp +contextual (disch:=omega) only[go_sem,Zaa]
 refine A7 (Jj _ x.ref) ?_
 simp +contextual (disch:=omega) only[go_sem,Zaa]
def Ql:Fn1:=⟨23,[.t 2],(rg [o 2 (.mov (.k .nilS))] (rg [oM 5 0,oN 6 5,o 7 (.mks 8 72 [s0,z0,z0,z0,z0,z0,z0,(.bool false)] (.t 6) (.t 6)),oM 3 7] (.seq (rg [oV 4 (ki 0)] (oH 0 (.seq (rg [oM 8 4,oM 9 0,oN 10 9,oB 11 .lss 8 10] (oJ 11 0)) (.seq (.blk 1 (.reg [oM 14 3,oM 15 4,oM 16 0,oM 17 4,oI 18 8 16 17,oW 19 8 18,oC 20 183 19,oI 21 8 14 15,oS 8 21 20])) (.reg [oM 12 4,oZ 13 12 1,oM 4 13]))))) (rg [oM 22 3,oM 2 22] .ret))))⟩
theorem A1q:A5 Tryz.prog 80=some Ql:=by kernel_rfl
theorem Zi (N:St) (v:GV) (l:List Cell) (hR:RS Aj.kd N v l) (hl:l.length<=1099511627776):∃ r U,Ret Tryz.prog 80 [v] N r U/\Hp N U [ow Aj.kd r l]:=by
 refine A13 (rs:=fun r=>[ow Aj.kd r l]) A1q (Z0z rfl) ?_
 have hmk:∀ ze,mksG 8 72 ze N (some l.length) (some l.length)=some (.sl N.length 0 l.length,N++[some (.row 8 (reps l.length ze))]):=fun ze=>A10 (by omega)
 simp +contextual (disch:=omega) only[go_sem,Ql,hR.len,hmk]
 have H0:=((Hp.refl N).new 8 (reps l.length (Aj.enc ⟨⟨#[]⟩,⟨0,0⟩,0,⟨0,0⟩,0,false⟩))).toRow 0 (p:=Aj) rfl (Zag l.length ⟨⟨#[]⟩,⟨0,0⟩,0,⟨0,0⟩,0,false⟩) rfl (Kb _ _ _) l.length (by simp)
 refine Aw l.length 4 (fun i env U=>env 0=v/\env 3= .sl N.length 0 l.length/\Hp N U [ow Aj.kd (.sl N.length 0 l.length) (l.take i++Zag (l.length - i) ⟨⟨#[]⟩,⟨0,0⟩,0,⟨0,0⟩,0,false⟩)]) rfl ⟨rfl,rfl,by rw[Zaz,Zar,Za4];exact H0⟩ ?_ ?_
 ·rintro i env U hi e4 c0 ⟨e0,e3,H⟩
  have h1:=hR.pre H.sub
  have h2:=H.sl 0 rfl
  have hj:=Kc (z:=(⟨⟨#[]⟩,⟨0,0⟩,0,⟨0,0⟩,0,false⟩:Cell)) hi
  simp +contextual (disch:=omega) only[go_sem,e0,e3,e4,c0,hR.len,A4 h1 hi]
  refine A7 (A1p U l[i]) ?_
  obtain⟨U',es,H'⟩:=H.stw 0 rfl hj 8 (.agg [.str l[i].obj,.int .i64 l[i].dot.rep,.int .i64 l[i].dot.seq,.int .i64 l[i].time,.int .i64 l[i].ref.rep,.int .i64 l[i].ref.seq,.int .i64 l[i].val,.bool l[i].gone]) l[i] rfl rfl (by decide)
  rw[I1 hi] at H'
  have es:stG 8 U (atz 8 (.sl N.length 0 l.length) i) (.agg [.str l[i].obj,.int .i64 l[i].dot.rep,.int .i64 l[i].dot.seq,.int .i64 l[i].time,.int .i64 l[i].ref.rep,.int .i64 l[i].ref.seq,.int .i64 l[i].val,.bool l[i].gone])=some (.tup [],U'):=es
  simp +contextual (disch:=omega) only[go_sem,e0,e3,e4,c0,hR.len,A4 h1 hi,A4 h2 hj,es]
  exact H'
 ·rintro env U e4 c0 ⟨e0,e3,H⟩
  rw[Ke] at H
  simp +contextual (disch:=omega) only[go_sem,e0,e3,e4,c0,hR.len]
  exact⟨_,rfl,H⟩
def Vg:Fn1:=⟨22,[.t 2],(rg [o 2 (.mov (.k .nilS))] (rg [oM 5 0,oN 6 5,o 7 (.mks 1 8 [z0] (.t 6) (.t 6)),oM 3 7] (.seq (rg [oV 4 (ki 0)] (oH 0 (.seq (rg [oM 8 4,oM 9 0,oN 10 9,oB 11 .lss 8 10] (oJ 11 0)) (.seq (.blk 1 (.reg [oM 14 3,oM 15 4,oM 16 0,oM 17 4,oI 18 1 16 17,oL 19 18,oI 20 1 14 15,oS 1 20 19])) (.reg [oM 12 4,oZ 13 12 1,oM 4 13]))))) (rg [oM 21 3,oM 2 21] .ret))))⟩
theorem A48:A5 Tryz.prog 77=some Vg:=by kernel_rfl
theorem A1r (N:St) (v:GV) (l:List Int) (hR:RS pI.kd N v l) (hl:l.length<=1099511627776):∃ r U,Ret Tryz.prog 77 [v] N r U/\Hp N U [ow pI.kd r l]:=by
 refine A13 (rs:=fun r=>[ow pI.kd r l]) A48 (Z0z rfl) ?_
 have hmk:∀ ze,mksG 1 8 ze N (some l.length) (some l.length)=some (.sl N.length 0 l.length,N++[some (.row 1 (reps l.length ze))]):=fun ze=>A10 (by omega)
 simp +contextual (disch:=omega) only[go_sem,Vg,hR.len,hmk]
 have H0:=((Hp.refl N).new 1 (reps l.length (pI.enc 0))).toRow 0 (p:=pI) rfl (Zag l.length 0) rfl (Kb _ _ _) l.length (by simp)
 refine Aw l.length 4 (fun i env U=>env 0=v/\env 3= .sl N.length 0 l.length/\Hp N U [ow pI.kd (.sl N.length 0 l.length) (l.take i++Zag (l.length - i) 0)]) rfl ⟨rfl,rfl,by rw[Zaz,Zar,Za4];exact H0⟩ ?_ ?_
 ·rintro i env U hi e4 c0 ⟨e0,e3,H⟩
  have h1:=hR.pre H.sub
  have h2:=H.sl 0 rfl
  have hj:=Kc (z:=(0:Int)) hi
  obtain⟨U',es,H'⟩:=H.stw 0 rfl hj 1 (.int .i64 l[i]) l[i] rfl rfl (by decide)
  rw[I1 hi] at H'
  have es:stG 1 U (atz 1 (.sl N.length 0 l.length) i) (.int .i64 l[i])=some (.tup [],U'):=es
  simp +contextual (disch:=omega) only[go_sem,e0,e3,e4,c0,hR.len,Fm h1 hi,Fm h2 hj,es]
  exact H'
 ·rintro env U e4 c0 ⟨e0,e3,H⟩
  rw[Ke] at H
  simp +contextual (disch:=omega) only[go_sem,e0,e3,e4,c0,hR.len]
  exact⟨_,rfl,H⟩
def Vi:Fn1:=⟨21,[.c 2 true 6],(rg [oX 1 0,o 2 (.new [(.bool false),s0,s0,z0,z0,z0])] (rg [o 3 (.new [(.bool false),s0,s0,z0,z0,z0])] (rg [oF 4 0 1,oL 5 4,oF 6 0 3,oS 1 6 5] (rg [oF 7 1 1,oL 8 7,oF 9 1 3,oS 1 9 8] (rg [oF 10 2 1,oL 11 10,oF 12 2 3,oS 1 12 11] (rg [oF 13 3 1,oL 14 13,oF 15 3 3,oS 1 15 14] (rg [oF 16 4 1,oW 17 2 16,oC 18 252 17,oF 19 4 3,oS 2 19 18] (rg [oW 20 6 3,oS 6 2 20] .ret))))))))⟩
theorem A49:A5 Tryz.prog 182=some Vi:=by kernel_rfl
theorem A1s (N:St) (x:Live):Ret Tryz.prog 182 [.agg [.bool x.map,.str x.obj,.str x.key,.int .i64 x.val,.int .i64 x.dot.rep,.int .i64 x.dot.seq]] N (.agg [.bool x.map,.str x.obj,.str x.key,.int .i64 x.val,.int .i64 x.dot.rep,.int .i64 x.dot.seq]) N:=by
 refine Af A49 (Z0z rfl) (by simp[vLt,cLt,sLt]) ?_
 simp +contextual (disch:=omega) only[go_sem,Vi]
 refine A7 (Jj _ x.dot) ?_
 simp +contextual (disch:=omega) only[go_sem,Zaa]
def Qn:Fn1:=⟨23,[.t 2],(rg [o 2 (.mov (.k .nilS))] (rg [oM 5 0,oN 6 5,o 7 (.mks 6 64 [(.bool false),s0,s0,z0,z0,z0] (.t 6) (.t 6)),oM 3 7] (.seq (rg [oV 4 (ki 0)] (oH 0 (.seq (rg [oM 8 4,oM 9 0,oN 10 9,oB 11 .lss 8 10] (oJ 11 0)) (.seq (.blk 1 (.reg [oM 14 3,oM 15 4,oM 16 0,oM 17 4,oI 18 6 16 17,oW 19 6 18,oC 20 182 19,oI 21 6 14 15,oS 6 21 20])) (.reg [oM 12 4,oZ 13 12 1,oM 4 13]))))) (rg [oM 22 3,oM 2 22] .ret))))⟩
theorem A1t:A5 Tryz.prog 79=some Qn:=by kernel_rfl
theorem Zj (N:St) (v:GV) (l:List Live) (hR:RS Cb.kd N v l) (hl:l.length<=1099511627776):∃ r U,Ret Tryz.prog 79 [v] N r U/\Hp N U [ow Cb.kd r l]:=by
 refine A13 (rs:=fun r=>[ow Cb.kd r l]) A1t (Z0z rfl) ?_
 have hmk:∀ ze,mksG 6 64 ze N (some l.length) (some l.length)=some (.sl N.length 0 l.length,N++[some (.row 6 (reps l.length ze))]):=fun ze=>A10 (by omega)
 simp +contextual (disch:=omega) only[go_sem,Qn,hR.len,hmk]
 have H0:=((Hp.refl N).new 6 (reps l.length (Cb.enc ⟨false,⟨#[]⟩,⟨#[]⟩,0,⟨0,0⟩⟩))).toRow 0 (p:=Cb) rfl (Zag l.length ⟨false,⟨#[]⟩,⟨#[]⟩,0,⟨0,0⟩⟩) rfl (Kb _ _ _) l.length (by simp)
 refine Aw l.length 4 (fun i env U=>env 0=v/\env 3= .sl N.length 0 l.length/\Hp N U [ow Cb.kd (.sl N.length 0 l.length) (l.take i++Zag (l.length - i) ⟨false,⟨#[]⟩,⟨#[]⟩,0,⟨0,0⟩⟩)]) rfl ⟨rfl,rfl,by rw[Zaz,Zar,Za4];exact H0⟩ ?_ ?_
 ·rintro i env U hi e4 c0 ⟨e0,e3,H⟩
  have h1:=hR.pre H.sub
  have h2:=H.sl 0 rfl
  have hj:=Kc (z:=(⟨false,⟨#[]⟩,⟨#[]⟩,0,⟨0,0⟩⟩:Live)) hi
  simp +contextual (disch:=omega) only[go_sem,e0,e3,e4,c0,hR.len,A3 h1 hi]
  refine A7 (A1s U l[i]) ?_
  obtain⟨U',es,H'⟩:=H.stw 0 rfl hj 6 (.agg [.bool l[i].map,.str l[i].obj,.str l[i].key,.int .i64 l[i].val,.int .i64 l[i].dot.rep,.int .i64 l[i].dot.seq]) l[i] rfl rfl (by decide)
  rw[I1 hi] at H'
  have es:stG 6 U (atz 6 (.sl N.length 0 l.length) i) (.agg [.bool l[i].map,.str l[i].obj,.str l[i].key,.int .i64 l[i].val,.int .i64 l[i].dot.rep,.int .i64 l[i].dot.seq])=some (.tup [],U'):=es
  simp +contextual (disch:=omega) only[go_sem,e0,e3,e4,c0,hR.len,A3 h1 hi,A3 h2 hj,es]
  exact H'
 ·rintro env U e4 c0 ⟨e0,e3,H⟩
  rw[Ke] at H
  simp +contextual (disch:=omega) only[go_sem,e0,e3,e4,c0,hR.len]
  exact⟨_,rfl,H⟩
def Qp:Fn1:=⟨14,[.c 2 true 3],(rg [oX 1 0,o 2 (.new [s0,z0,z0])] (rg [o 3 (.new [s0,z0,z0])] (rg [oF 4 0 1,oL 5 4,oF 6 0 3,oS 1 6 5] (rg [oF 7 1 1,oL 8 7,oF 9 1 3,oS 1 9 8] (rg [oF 10 2 1,oL 11 10,oF 12 2 3,oS 1 12 11] (rg [oW 13 3 3,oS 3 2 13] .ret))))))⟩
theorem A1u:A5 Tryz.prog 181=some Qp:=by kernel_rfl
theorem Zk (N:St) (x:Tally):Ret Tryz.prog 181 [.agg [.str x.obj,.int .i64 x.rep,.int .i64 x.sum]] N (.agg [.str x.obj,.int .i64 x.rep,.int .i64 x.sum]) N:=by
 refine Af A1u (Z0z rfl) (by simp[vLt,cLt,sLt]) ?_
 simp +contextual (disch:=omega) only[go_sem,Qp]
def O5:Fn1:=⟨23,[.t 2],(rg [o 2 (.mov (.k .nilS))] (rg [oM 5 0,oN 6 5,o 7 (.mks 3 32 [s0,z0,z0] (.t 6) (.t 6)),oM 3 7] (.seq (rg [oV 4 (ki 0)] (oH 0 (.seq (rg [oM 8 4,oM 9 0,oN 10 9,oB 11 .lss 8 10] (oJ 11 0)) (.seq (.blk 1 (.reg [oM 14 3,oM 15 4,oM 16 0,oM 17 4,oI 18 3 16 17,oW 19 3 18,oC 20 181 19,oI 21 3 14 15,oS 3 21 20])) (.reg [oM 12 4,oZ 13 12 1,oM 4 13]))))) (rg [oM 22 3,oM 2 22] .ret))))⟩
theorem Zl:A5 Tryz.prog 78=some O5:=by kernel_rfl
theorem Td (N:St) (v:GV) (l:List Tally) (hR:RS Cm.kd N v l) (hl:l.length<=1099511627776):∃ r U,Ret Tryz.prog 78 [v] N r U/\Hp N U [ow Cm.kd r l]:=by
 refine A13 (rs:=fun r=>[ow Cm.kd r l]) Zl (Z0z rfl) ?_
 have hmk:∀ ze,mksG 3 32 ze N (some l.length) (some l.length)=some (.sl N.length 0 l.length,N++[some (.row 3 (reps l.length ze))]):=fun ze=>A10 (by omega)
 simp +contextual (disch:=omega) only[go_sem,O5,hR.len,hmk]
 have H0:=((Hp.refl N).new 3 (reps l.length (Cm.enc ⟨⟨#[]⟩,0,0⟩))).toRow 0 (p:=Cm) rfl (Zag l.length ⟨⟨#[]⟩,0,0⟩) rfl (Kb _ _ _) l.length (by simp)
 refine Aw l.length 4 (fun i env U=>env 0=v/\env 3= .sl N.length 0 l.length/\Hp N U [ow Cm.kd (.sl N.length 0 l.length) (l.take i++Zag (l.length - i) ⟨⟨#[]⟩,0,0⟩)]) rfl ⟨rfl,rfl,by rw[Zaz,Zar,Za4];exact H0⟩ ?_ ?_
 ·rintro i env U hi e4 c0 ⟨e0,e3,H⟩
  have h1:=hR.pre H.sub
  have h2:=H.sl 0 rfl
  have hj:=Kc (z:=(⟨⟨#[]⟩,0,0⟩:Tally)) hi
  simp +contextual (disch:=omega) only[go_sem,e0,e3,e4,c0,hR.len,A8 h1 hi]
  refine A7 (Zk U l[i]) ?_
  obtain⟨U',es,H'⟩:=H.stw 0 rfl hj 3 (.agg [.str l[i].obj,.int .i64 l[i].rep,.int .i64 l[i].sum]) l[i] rfl rfl (by decide)
  rw[I1 hi] at H'
  have es:stG 3 U (atz 3 (.sl N.length 0 l.length) i) (.agg [.str l[i].obj,.int .i64 l[i].rep,.int .i64 l[i].sum])=some (.tup [],U'):=es
  simp +contextual (disch:=omega) only[go_sem,e0,e3,e4,c0,hR.len,A8 h1 hi,A8 h2 hj,es]
  exact H'
 ·rintro env U e4 c0 ⟨e0,e3,H⟩
  rw[Ke] at H
  simp +contextual (disch:=omega) only[go_sem,e0,e3,e4,c0,hR.len]
  exact⟨_,rfl,H⟩
def Qr:Fn1:=⟨21,[.c 2 true 4],(rg [oX 1 0,o 2 (.new [.nilS,.nilS,.nilS,.nilS])] (rg [o 3 (.new [.nilS,.nilS,.nilS,.nilS])] (rg [oF 4 0 1,oL 5 4,oC 6 77 5,oF 7 0 3,oS 1 7 6] (rg [oF 8 1 1,oL 9 8,oC 10 78 9,oF 11 1 3,oS 1 11 10] (rg [oF 12 2 1,oL 13 12,oC 14 79 13,oF 15 2 3,oS 1 15 14] (rg [oF 16 3 1,oL 17 16,oC 18 80 17,oF 19 3 3,oS 1 19 18] (rg [oW 20 4 3,oS 4 2 20] .ret)))))))⟩
theorem A1v:A5 Tryz.prog 17=some Qr:=by kernel_rfl
theorem Bj (N:St) (cs:List GV) (x:State) (hR:A9.R N x cs) (hl:Aa x<=1099511627776):∃ r U,Ret Tryz.prog 17 [.agg cs] N r U/\N <+: U/\∃ ds,r= .agg ds/\Hp N U [own A9 ds x]:=by
 have hlen:=A9.len hR
 have hlen:cs.length=4:=hlen
 obtain⟨v0,v1,v2,v3,rfl,q0,q1,q2,q3⟩:=hR
 unfold Aa at hl
 refine A8h A1v (Z0z rfl) ?_
 simp +contextual (disch:=omega) only[go_sem,Qr,Zaa]
 have H:=(((Hp.refl N).new 1 (v0::v1::v2::v3::[])).new 1 [GV.nilS,GV.nilS,GV.nilS,GV.nilS]).new 1 [GV.nilS,GV.nilS,GV.nilS,GV.nilS]
 obtain⟨r0,U0,R0,K0⟩:=A1r _ v0 x.know (q0.pre H.sub) (by omega)
 refine Er R0 K0 ?_
 have e0:=(K0.sl 0 rfl).cell
 have H:=H.add K0
 try simp only[go_sem] at H
 try simp +contextual (disch:=omega) only[go_sem,Zaa,A1 (H.pt 3 rfl),A1 (H.pt 1 rfl)]
 obtain⟨_,es,H,_⟩:=H.st 1 rfl 1 0 (r0) (by rw[e0];rfl) (by decide) (Z0z rfl)
 try simp only[go_sem,Zae,Zah,e0] at H
 try simp +contextual (disch:=omega) only[go_sem,Zaa,es,A1 (H.pt 3 rfl),A1 (H.pt 1 rfl)]
 obtain⟨r1,U1,R1,K1⟩:=Td _ v1 x.tallies (q1.pre H.sub) (by omega)
 refine Er R1 K1 ?_
 have e1:=(K1.sl 0 rfl).cell
 have H:=H.add K1
 try simp only[go_sem] at H
 try simp +contextual (disch:=omega) only[go_sem,Zaa,A1 (H.pt 4 rfl),A1 (H.pt 2 rfl)]
 obtain⟨_,es,H,_⟩:=H.st 2 rfl 1 1 (r1) (by rw[e1];rfl) (by decide) (Z0z rfl)
 try simp only[go_sem,Zae,Zah,e1] at H
 try simp +contextual (disch:=omega) only[go_sem,Zaa,es,A1 (H.pt 4 rfl),A1 (H.pt 2 rfl)]
 obtain⟨r2,U2,R2,K2⟩:=Zj _ v2 x.lives (q2.pre H.sub) (by omega)
 refine Er R2 K2 ?_
 have e2:=(K2.sl 0 rfl).cell
 have H:=H.add K2
 try simp only[go_sem] at H
 try simp +contextual (disch:=omega) only[go_sem,Zaa,A1 (H.pt 5 rfl),A1 (H.pt 3 rfl)]
 obtain⟨_,es,H,_⟩:=H.st 3 rfl 1 2 (r2) (by rw[e2];rfl) (by decide) (Z0z rfl)
 try simp only[go_sem,Zae,Zah,e2] at H
 try simp +contextual (disch:=omega) only[go_sem,Zaa,es,A1 (H.pt 5 rfl),A1 (H.pt 3 rfl)]
 obtain⟨r3,U3,R3,K3⟩:=Zi _ v3 x.cells (q3.pre H.sub) (by omega)
 refine Er R3 K3 ?_
 have e3:=(K3.sl 0 rfl).cell
 have H:=H.add K3
 try simp only[go_sem] at H
 try simp +contextual (disch:=omega) only[go_sem,Zaa,A1 (H.pt 6 rfl),A1 (H.pt 4 rfl)]
 obtain⟨_,es,H,_⟩:=H.st 4 rfl 1 3 (r3) (by rw[e3];rfl) (by decide) (Z0z rfl)
 try simp only[go_sem,Zae,Zah,e3] at H
 try simp +contextual (disch:=omega) only[go_sem,Zaa,es,A1 (H.pt 6 rfl),A1 (H.pt 4 rfl)]
 obtain⟨_,es,H,_⟩:=H.st 5 rfl 4 0 (.agg (r0::r1::r2::r3::[])) (rfl) (by decide) (Z0z rfl)
 try simp only[go_sem,Zae,Zah] at H
 try simp +contextual (disch:=omega) only[go_sem,Zaa,es,A1 (H.pt 5 rfl)]
 have h0:=H.sub
 have H:=(((H.pick 1 rfl).pick 2 rfl).pick 3 rfl)
 try simp only[Za8,Za9] at H
 exact⟨_,rfl,h0,_,rfl,H.ownState.one⟩
def Qt:Fn1:=⟨14,[.c 2 true 3],(rg [oX 1 0,o 2 (.new [z0,s0,s0])] (rg [o 3 (.new [z0,s0,s0])] (rg [oF 4 0 1,oL 5 4,oF 6 0 3,oS 1 6 5] (rg [oF 7 1 1,oL 8 7,oF 9 1 3,oS 1 9 8] (rg [oF 10 2 1,oL 11 10,oF 12 2 3,oS 1 12 11] (rg [oW 13 3 3,oS 3 2 13] .ret))))))⟩
theorem A1w:A5 Tryz.prog 65=some Qt:=by kernel_rfl
theorem Zm (N:St) (x:Watch):Ret Tryz.prog 65 [.agg [.int .i64 x.kind,.str x.obj,.str x.key]] N (.agg [.int .i64 x.kind,.str x.obj,.str x.key]) N:=by
 refine Af A1w (Z0z rfl) (by simp[vLt,cLt,sLt]) ?_
 simp +contextual (disch:=omega) only[go_sem,Qt]
def O7:Fn1:=⟨23,[.t 2],(rg [o 2 (.mov (.k .nilS))] (rg [oM 5 0,oN 6 5,o 7 (.mks 3 40 [z0,s0,s0] (.t 6) (.t 6)),oM 3 7] (.seq (rg [oV 4 (ki 0)] (oH 0 (.seq (rg [oM 8 4,oM 9 0,oN 10 9,oB 11 .lss 8 10] (oJ 11 0)) (.seq (.blk 1 (.reg [oM 14 3,oM 15 4,oM 16 0,oM 17 4,oI 18 3 16 17,oW 19 3 18,oC 20 65 19,oI 21 3 14 15,oS 3 21 20])) (.reg [oM 12 4,oZ 13 12 1,oM 4 13]))))) (rg [oM 22 3,oM 2 22] .ret))))⟩
theorem Zn:A5 Tryz.prog 18=some O7:=by kernel_rfl
theorem Ef (N:St) (v:GV) (l:List Watch) (hR:RS Dm.kd N v l) (hl:l.length<=1099511627776):∃ r U,Ret Tryz.prog 18 [v] N r U/\Hp N U [ow Dm.kd r l]:=by
 refine A13 (rs:=fun r=>[ow Dm.kd r l]) Zn (Z0z rfl) ?_
 have hmk:∀ ze,mksG 3 40 ze N (some l.length) (some l.length)=some (.sl N.length 0 l.length,N++[some (.row 3 (reps l.length ze))]):=fun ze=>A10 (by omega)
 simp +contextual (disch:=omega) only[go_sem,O7,hR.len,hmk]
 have H0:=((Hp.refl N).new 3 (reps l.length (Dm.enc ⟨0,⟨#[]⟩,⟨#[]⟩⟩))).toRow 0 (p:=Dm) rfl (Zag l.length ⟨0,⟨#[]⟩,⟨#[]⟩⟩) rfl (Kb _ _ _) l.length (by simp)
 refine Aw l.length 4 (fun i env U=>env 0=v/\env 3= .sl N.length 0 l.length/\Hp N U [ow Dm.kd (.sl N.length 0 l.length) (l.take i++Zag (l.length - i) ⟨0,⟨#[]⟩,⟨#[]⟩⟩)]) rfl ⟨rfl,rfl,by rw[Zaz,Zar,Za4];exact H0⟩ ?_ ?_
 ·rintro i env U hi e4 c0 ⟨e0,e3,H⟩
  have h1:=hR.pre H.sub
  have h2:=H.sl 0 rfl
  have hj:=Kc (z:=(⟨0,⟨#[]⟩,⟨#[]⟩⟩:Watch)) hi
  simp +contextual (disch:=omega) only[go_sem,e0,e3,e4,c0,hR.len,F3 h1 hi]
  refine A7 (Zm U l[i]) ?_
  obtain⟨U',es,H'⟩:=H.stw 0 rfl hj 3 (.agg [.int .i64 l[i].kind,.str l[i].obj,.str l[i].key]) l[i] rfl rfl (by decide)
  rw[I1 hi] at H'
  have es:stG 3 U (atz 3 (.sl N.length 0 l.length) i) (.agg [.int .i64 l[i].kind,.str l[i].obj,.str l[i].key])=some (.tup [],U'):=es
  simp +contextual (disch:=omega) only[go_sem,e0,e3,e4,c0,hR.len,F3 h1 hi,F3 h2 hj,es]
  exact H'
 ·rintro env U e4 c0 ⟨e0,e3,H⟩
  rw[Ke] at H
  simp +contextual (disch:=omega) only[go_sem,e0,e3,e4,c0,hR.len]
  exact⟨_,rfl,H⟩
section
open Go Go.RowKit Go.Shelf
def Qu:Go.Shelf.Ren:=⟨fun|156=>104|165=>202|166=>203|169=>204|240=>254|241=>255|276=>277|277=>278|n=>n,fun|31=>156|9=>9|3=>3|4=>4|0=>0|20=>20|72=>248|76=>252|70=>246|37=>47|75=>251|127=>294|164=>318|5=>5|80=>165|n=>n,fun|n=>n⟩
theorem A4a:Go.Proofs.Lays.n156 Tryz.prog Qu:={
 mixed:=by kernel_rfl
 f156:=Tryz.func104.trans (congrArg some (by kernel_rfl))
 f165:=Tryz.func202.trans (congrArg some (by kernel_rfl))
 f166:=Tryz.func203.trans (congrArg some (by kernel_rfl))
 f169:=Tryz.func204.trans (congrArg some (by kernel_rfl))
 f240:=Tryz.func254.trans (congrArg some (by kernel_rfl))
 f241:=Tryz.func255.trans (congrArg some (by kernel_rfl))
 f276:=Tryz.func277.trans (congrArg some (by kernel_rfl))
 f277:=Tryz.func278.trans (congrArg some (by kernel_rfl))
 t0:=Tryz.underlying0
 a0:=Tryz.isAgg0
 z0:=Tryz.sizeOf0
 v0:=Tryz.zeroValue0
 t3:=Tryz.underlying3
 a3:=Tryz.isAgg3
 z3:=Tryz.sizeOf3
 v3:=Tryz.zeroValue3
 t4:=Tryz.underlying4
 a4:=Tryz.isAgg4
 z4:=Tryz.sizeOf4
 v4:=Tryz.zeroValue4
 t9:=Tryz.underlying9
 a9:=Tryz.isAgg9
 z9:=Tryz.sizeOf9
 v9:=Tryz.zeroValue9
 t20:=Tryz.underlying20
 a20:=Tryz.isAgg20
 z20:=Tryz.sizeOf20
 v20:=Tryz.zeroValue20
 t31:=Tryz.underlying156
 a31:=Tryz.isAgg156
 z31:=Tryz.sizeOf156
 v31:=Tryz.zeroValue156
 t37:=Tryz.underlying47
 a37:=Tryz.isAgg47
 z37:=Tryz.sizeOf47
 v37:=Tryz.zeroValue47
 t70:=Tryz.underlying246
 a70:=Tryz.isAgg246
 z70:=Tryz.sizeOf246
 v70:=Tryz.zeroValue246
 t72:=Tryz.underlying248
 a72:=Tryz.isAgg248
 z72:=Tryz.sizeOf248
 v72:=Tryz.zeroValue248
 t75:=Tryz.underlying251
 a75:=Tryz.isAgg251
 z75:=Tryz.sizeOf251
 v75:=Tryz.zeroValue251
 t76:=Tryz.underlying252
 a76:=Tryz.isAgg252
 z76:=Tryz.sizeOf252
 v76:=Tryz.zeroValue252
 t127:=Tryz.underlying294
 a127:=Tryz.isAgg294
 z127:=Tryz.sizeOf294
 v127:=Tryz.zeroValue294
 t164:=Tryz.underlying318
 a164:=Tryz.isAgg318
 z164:=Tryz.sizeOf318
 v164:=Tryz.zeroValue318}
def A1x:Go.Shelf.Ren:=⟨fun|171=>249|243=>273|246=>308|283=>321|284=>322|285=>323|286=>324|129=>289|317=>335|318=>336|319=>337|320=>338|337=>342|338=>343|n=>n,fun|3=>3|9=>9|2=>2|4=>4|171=>357|0=>0|53=>332|37=>47|5=>5|173=>359|212=>372|51=>330|20=>20|213=>373|46=>293|232=>377|233=>378|n=>n,fun|17=>1|18=>2|19=>3|n=>n⟩
theorem laysM171:Go.Proofs.LaysM.n171 Tryz.prog A1x:={
 mixed:=by kernel_rfl
 f129:=Tryz.func289.trans (congrArg some (by kernel_rfl))
 f171:=Tryz.func249.trans (congrArg some (by kernel_rfl))
 f243:=Tryz.func273.trans (congrArg some (by kernel_rfl))
 f246:=Tryz.func308.trans (congrArg some (by kernel_rfl))
 f283:=Tryz.func321.trans (congrArg some (by kernel_rfl))
 f284:=Tryz.func322.trans (congrArg some (by kernel_rfl))
 f285:=Tryz.func323.trans (congrArg some (by kernel_rfl))
 f286:=Tryz.func324.trans (congrArg some (by kernel_rfl))
 f317:=Tryz.func335.trans (congrArg some (by kernel_rfl))
 f318:=Tryz.func336.trans (congrArg some (by kernel_rfl))
 f319:=Tryz.func337.trans (congrArg some (by kernel_rfl))
 f320:=Tryz.func338.trans (congrArg some (by kernel_rfl))
 f337:=Tryz.func342.trans (congrArg some (by kernel_rfl))
 f338:=Tryz.func343.trans (congrArg some (by kernel_rfl))
 t0:=Tryz.underlying0
 a0:=Tryz.isAgg0
 z0:=Tryz.sizeOf0
 v0:=Tryz.zeroValue0
 t2:=Tryz.underlying2
 a2:=Tryz.isAgg2
 z2:=Tryz.sizeOf2
 v2:=Tryz.zeroValue2
 t3:=Tryz.underlying3
 a3:=Tryz.isAgg3
 z3:=Tryz.sizeOf3
 v3:=Tryz.zeroValue3
 t4:=Tryz.underlying4
 a4:=Tryz.isAgg4
 z4:=Tryz.sizeOf4
 v4:=Tryz.zeroValue4
 t5:=Tryz.underlying5
 a5:=Tryz.isAgg5
 z5:=Tryz.sizeOf5
 v5:=Tryz.zeroValue5
 t9:=Tryz.underlying9
 a9:=Tryz.isAgg9
 z9:=Tryz.sizeOf9
 v9:=Tryz.zeroValue9
 t20:=Tryz.underlying20
 a20:=Tryz.isAgg20
 z20:=Tryz.sizeOf20
 v20:=Tryz.zeroValue20
 t37:=Tryz.underlying47
 a37:=Tryz.isAgg47
 z37:=Tryz.sizeOf47
 v37:=Tryz.zeroValue47
 t46:=Tryz.underlying293
 a46:=Tryz.isAgg293
 z46:=Tryz.sizeOf293
 v46:=Tryz.zeroValue293
 t51:=Tryz.underlying330
 a51:=Tryz.isAgg330
 z51:=Tryz.sizeOf330
 v51:=Tryz.zeroValue330
 t53:=Tryz.underlying332
 a53:=Tryz.isAgg332
 z53:=Tryz.sizeOf332
 v53:=Tryz.zeroValue332
 t171:=Tryz.underlying357
 a171:=Tryz.isAgg357
 z171:=Tryz.sizeOf357
 v171:=Tryz.zeroValue357
 t173:=Tryz.underlying359
 a173:=Tryz.isAgg359
 z173:=Tryz.sizeOf359
 v173:=Tryz.zeroValue359
 t212:=Tryz.underlying372
 a212:=Tryz.isAgg372
 z212:=Tryz.sizeOf372
 v212:=Tryz.zeroValue372
 t213:=Tryz.underlying373
 a213:=Tryz.isAgg373
 z213:=Tryz.sizeOf373
 t232:=Tryz.underlying377
 a232:=Tryz.isAgg377
 z232:=Tryz.sizeOf377
 v232:=Tryz.zeroValue377
 t233:=Tryz.underlying378
 a233:=Tryz.isAgg378
 z233:=Tryz.sizeOf378
 v233:=Tryz.zeroValue378
 g17:=by kernel_rfl
 g18:=by kernel_rfl
 g19:=by kernel_rfl
 i0:=by kernel_rfl
 i2:=by kernel_rfl
 i3:=by kernel_rfl
 i4:=by kernel_rfl
 i5:=by kernel_rfl
 i9:=by kernel_rfl
 i20:=by kernel_rfl
 i37:=by kernel_rfl
 i46:=by kernel_rfl
 i51:=by kernel_rfl
 i53:=by kernel_rfl
 i171:=by kernel_rfl
 i173:=by kernel_rfl
 i212:=by kernel_rfl
 i232:=by kernel_rfl
 i233:=by kernel_rfl
 m17:=by kernel_rfl
 m18:=by kernel_rfl
 m19:=by kernel_rfl}
theorem E5:Builder.Extra Tryz.prog Qu:={
 sizeBuilder:=by kernel_rfl
 liesBuilder:=by kernel_rfl
 t5:=Tryz.underlying5
 a5:=Tryz.isAgg5
 z5:=Tryz.sizeOf5
 v5:=Tryz.zeroValue5
 infoByte:=by kernel_rfl
 cellsByte:=by kernel_rfl
 sizeByte:=by kernel_rfl
 neB5:=by decide}
end
theorem Hp.moveTo {N U:St} {r r':Thg} {rs:List Thg} (H:Hp N U (r::rs)) (k:Nat) (hk:rs[k]? =some r'):Hp N U (rs.set k r):=by
 have hkl:=(Zad.1 hk).1
 have h1:=(H.pick (k+1) hk).drop1
 exact Hp.unpick h1 hkl
theorem Ac6 {P:Program} {a:Cd} {Q:Ex->Env->St->Prop} {env:Env} {N:St} (n ri j0:Nat) (I:Nat->Env->St->Prop) (X Z:Env->St->Prop) (hr:env ri=gi 0) (h0:I 0 env N)
  (hs:∀(J:Nat->Env->St->Prop) (Yq Wq:Env->St->Prop),(∀ i env N,I i env N->J i env N)->(∀ env N,X env N->Yq env N)->(∀ env N,Z env N->Wq env N)->∀ i env N,i<n->env ri=gi i->decide ((i:Int)<n)=true->I i env N->vc P a (fun e env' N'=>match e with| .nxt=>env' ri=gi ((i:Int)+1)/\J (i+1) env' N'| .ext j=>j=j0/\Yq env' N'| .ret=>Wq env' N') env N)
  (he:∀(Yq:Env->St->Prop),(∀ env N,X env N->Yq env N)->∀ env N,env ri=gi n->decide ((n:Int)<n)=false->I n env N->vc P a (fun e env' N'=>match e with| .nxt=>False| .ext j=>j=j0/\Yq env' N'| .ret=>False) env N)
  (hx:∀ env N,X env N->Q (.ext j0) env N) (hz:∀ env N,Z env N->Q .ret env N):vc P (.lop a) Q env N:=by
 refine Aw n ri I hr h0 (fun i env N h1 h2 h3 h4=>Ao (hs I X Z (fun _ _ _ h=>h) (fun _ _ h=>h) (fun _ _ h=>h) i env N h1 h2 h3 h4) fun e env' N' hq=> ?_) (fun env N h1 h2 h3=>Ao (he X (fun _ _ h=>h) env N h1 h2 h3) fun e env' N' hq=> ?_)
 ·cases e with
  |nxt=>exact hq
  |ret=>exact hz _ _ hq
  |ext j=>obtain⟨rfl,hq⟩:=hq;exact hx _ _ hq
 ·cases e with
  |nxt=>exact hq
  |ret=>exact hq.elim
  |ext j=>obtain⟨rfl,hq⟩:=hq;exact hx _ _ hq
inductive Item where
 |box (z n:Nat) (cs:List GV)
 |th (r:Thg)
def Item.t:Item->Thg
 | .box z n cs=>pt z n cs
 | .th r=>r
def Hx (N U:St) (h:List Item):Prop:=Hp N U (h.map Item.t)
def look:List Item->Nat->Option (List GV)
 |[],_=>none
 | .box _ m cs::h,n=>if m=n then some cs else look h n
 | .th _::h,n=>look h n
def upd:List Item->Nat->List GV->List Item
 |[],_,_=>[]
 | .box z m cs::h,n,ds=>if m=n then .box z m ds::h else .box z m cs::upd h n ds
 | .th r::h,n,ds=>.th r::upd h n ds
def frX (N:St):List Item->Nat->Prop
 |[],n=>N.length<=n
 | .box _ m _::h,n=>m<n/\frX N h n
 | .th _::h,n=>frX N h n
abbrev Kx:=GV->List Item->St->Prop
def Ha (v:Option GV) (k:Kx) (h:List Item) (U:St):Prop:=match v with
 |some v=>k v h U
 |none=>False
def orX (a b:Option GV):Option GV:=match a with
 |some x=>some x
 |none=>b
def A73:List Item->Nat->Option (Nat×List GV)
 |[],_=>none
 | .box z m cs::h,n=>if m=n then some (z,cs) else A73 h n
 | .th _::h,n=>A73 h n
def blcX (h:List Item) (cs:List GV):GV->Prop
 | .ptr b 0=>A73 h b=some (1,cs)
 |_=>False
def ldB (c:Option (List GV)) (g:Bool) (n off:Nat) (e:Option GV):Option GV:=match c with
 |some cs=>(seg cs off n).bind (mkv g)
 |none=>e
def ldY (h:List Item) (U:St) (g:Bool) (n:Nat):GV->Option GV
 | .ptr b off=>ldB (look h b) g n off (ldG g n U (.ptr b off))
 |a=>ldG g n U a
def ldX (N:St) (h:List Item) (U:St) (g:Bool) (n:Nat) (a:GV):Option GV:=orX (ldG g n N a) (ldY h U g n a)
def I4 (N:St) (h:List Item) (z:Nat) (cs:List GV) (v:Nat->GV) (k:Kx):Prop:=∀ n,frX N h n->∀ U',Hx N U' (.box z n cs::h)->k (v n) (.box z n cs::h) U'
def genX (N:St) (D:Bool) (U:St) (e:Option (GV×St)) (k:Kx):Prop:=∃ v U' h',e=some (v,U')/\(D=true->U <+: U')/\Hx N U' h'/\k v h' U'
def stB (N:St) (D:Bool) (h:List Item) (U:St) (n:Nat) (k:Kx) (b off:Nat) (x:GV) (c:Option (List GV)):Prop:=match c with
 |some cs=>(D=false/\off+n<=cs.length/\0<n/\x.cells.length=n)/\∀ U',Hx N U' (upd h b (Am cs off x.cells))->k (.tup []) (upd h b (Am cs off x.cells)) U'
 |none=>genX N D U (stG n U (.ptr b off) x) k
def stX (N:St) (D:Bool) (h:List Item) (U:St) (n:Nat) (k:Kx) (a x:GV):Prop:=match a with
 | .ptr b off=>stB N D h U n k b off x (look h b)
 |a=>genX N D U (stG n U a x) k
def fnX (P:Program) (N:St) (D:Bool) (U:St) (args:List GV) (k:Kx):GV->Prop
 | .fn f caps=>∃ v U' h',Ret P f (args++caps.map fun c=>.ptr c.1 c.2) U v U'/\(D=true->U <+: U')/\Hx N U' h'/\k v h' U'
 |_=>False
def litX (N:St) (h:List Item) (z len:Nat) (k:Kx):Option (List GV)->Prop
 |some cs=>I4 N h z cs (fun n=>.sl n 0 len) k
 |none=>False
def A74 (P:Program) (N:St) (D:Bool) (U:St) (f:Nat) (args:List GV) (k:Kx):Prop:=∃ v U' h',Ret P f args U v U'/\(D=true->U <+: U')/\Hx N U' h'/\k v h' U'
def mksX (N:St) (h:List Item) (z b:Nat) (ze:List GV) (k:Kx):Option Nat->Option Nat->Prop
 |some n,some c=>n=c/\n*b<=140737488355328/\I4 N h z (reps n ze) (fun g=>.sl g 0 n) k
 |_,_=>False
def sxI (P:Program) (D:Bool) (N:St) (env:Env) (h:List Item) (U:St) (k:Kx):Ins->Prop
 | .new cs=>I4 N h 1 cs (fun n=>.ptr n 0) k
 | .box x=>Dk (x.ev env)=true/\I4 N h 1 (x.ev env).cells (fun n=>.ptr n 0) k
 | .lit z len zero parts=>litX N h z len k (G9 zero (parts.map fun p=>(p.1,p.2.1,p.2.2.ev env)))
 | .mks z b ze n c=>mksX N h z b ze k (Az (some (n.ev env))) (Az (some (c.ev env)))
 | .ld g n a=>Ha (ldX N h U g n (a.ev env)) k h U
 | .st n a x=>stX N D h U n k (a.ev env) (x.ev env)
 | .call f xs=>A74 P N D U f (xs.map (·.ev env)) k
 | .callv x xs=>fnX P N D U (xs.map (·.ev env)) k (x.ev env)
 | .chk d (.ld g n (.t t))=>ldX N h U g n (env t)=some (env d)/\k (.tup []) h U
 | .chk _ _=>False
 | .blc t cs=>blcX h cs (env t)/\k (.tup []) h U
 | .mlk ks z ok m k'=>Ha (mlkG U ks z ok (m.ev env) (k'.ev env)) k h U
 | .bts x=>Ha ((elems U 1 (x.ev env)).bind fun r=>(Cn r.2).map fun bs=>.str ⟨bs.toArray⟩) k h U
 | .cut z x lo hi=>Ha (if zOk U z (x.ev env) then cutG z (x.ev env) (lo.map (·.ev env)) (hi.map (·.ev env)) else none) k h U
 | .app z b ze s x=>genX N D U (appV z b U (s.ev env) (x.ev env)) k
 | .clr z ze x=>genX N D U (clrG z ze U (x.ev env)) k
 | .mkm=>genX N D U (some (.mp U.length,U++[some (.map [])])) k
 | .mup ks m k' v=>genX N D U (mupG U ks (m.ev env) (k'.ev env) (v.ev env)) k
 |i=>Ha ((exec env [] i).map (·.1)) k h U
def gdX (c:Option (Option Bool×Bool)) (A B:Prop):Prop:=match c with
 |none=>A
 |some (some c,b)=>(c=b->A)/\(c= !b->B)
 |some (none,_)=>B
def sx (P:Program) (D:Bool) (N:St):List Op1->(Env->List Item->St->Prop)->Env->List Item->St->Prop
 |[],K,env,h,U=>K env h U
 |o::r,K,env,h,U=>gdX (o.g.map fun g=>((env g.1).bit,g.2)) (sxI P D N env h U (fun v h' U'=>sx P D N r K (upo env o.d v) h' U') o.i) (sx P D N r K (upo env o.d (.tup [])) h U)
def ifX (c:Option Bool) (A B:Prop):Prop:=match c with
 |some c=>(c=true->A)/\(c=false->B)
 |none=>False
abbrev Qx:=Ex->Env->List Item->St->Prop
def sxc (P:Program) (N:St):Cd->Qx->Env->List Item->St->Prop
 | .skip,Q=>Q .nxt
 | .reg ops,Q=>sx P false N ops (Q .nxt)
 | .drw a1 bs,Q=>sx P true N a1 (sx P false N bs (Q .nxt))
 | .seq a b,Q=>sxc P N a fun e=>match e with
  | .nxt=>sxc P N b Q
  |e=>Q e
 | .cnd c a b,Q=>fun env h U=>ifX (c.ev env).bit (sxc P N a Q env h U) (sxc P N b Q env h U)
 | .blk id a,Q=>sxc P N a fun e=>match e with
  | .ext j=>if j=id then Q .nxt else Q (.ext j)
  |e=>Q e
 | .lop a,Q=>fun env h U=>∃(I:Nat->Env->List Item->St->Prop) (n:Nat) (h0:List Item),Hx N U h0/\I n env h0 U/\∀ k env h U,Hx N U h->I k env h U->sxc P N a (fun e env' h' U'=>match e with
  | .nxt=>∃ k' h1,k'<k/\Hx N U' h1/\I k' env' h1 U'
  |e=>∃ h1,Hx N U' h1/\Q e env' h1 U') env h U
 | .ext id,Q=>Q (.ext id)
 | .ret,Q=>Q .ret
section sound
variable {P:Program} {N:St} {D:Bool}
theorem Hx.hp {U:St} {h:List Item} (H:Hx N U h):Hp N U (h.map Item.t):=H
theorem Hx.sub {U:St} {h:List Item} (H:Hx N U h):N <+: U:=H.hp.sub
theorem Hx.refl (N:St):Hx N N []:=Hp.refl N
theorem M4:∀ {h:List Item} {n:Nat} {cs:List GV},look h n=some cs->∃ z,∃ i:Nat,(h.map Item.t)[i]? =some (pt z n cs)/\∀ ds,(upd h n ds).map Item.t=(h.map Item.t).set i (pt z n ds)
 |[],_,_,e=>by cases e
 | .box z m cs'::h,n,cs,e=>by
  simp only[look] at e
  by_cases hm:m=n
  ·rw[if_pos hm] at e
   injection e with e;subst e hm
   exact⟨z,0,rfl,fun ds=>by simp[upd,Item.t]⟩
  ·rw[if_neg hm] at e
   obtain⟨z',i,h1,h2⟩:=M4 e
   exact⟨z',i+1,by simpa using h1,fun ds=>by simp[upd,hm,h2 ds]⟩
 | .th r::h,n,cs,e=>by
  obtain⟨z',i,h1,h2⟩:=M4 (h:=h) (by simpa [look] using e)
  exact⟨z',i+1,by simpa using h1,fun ds=>by simp[upd,h2 ds]⟩
theorem Zo:∀ {h:List Item} {n z:Nat} {cs:List GV},A73 h n=some (z,cs)->∃ i:Nat,(h.map Item.t)[i]? =some (pt z n cs)
 |[],_,_,_,e=>by cases e
 | .box z' m cs'::h,n,z,cs,e=>by
  simp only[A73] at e
  by_cases hm:m=n
  ·rw[if_pos hm] at e
   simp only[Zbm.injEq,Prod.mk.injEq] at e
   obtain⟨rfl,rfl⟩:=e
   subst hm
   exact⟨0,rfl⟩
  ·rw[if_neg hm] at e
   obtain⟨i,h1⟩:=Zo e
   exact⟨i+1,by simpa using h1⟩
 | .th r::h,n,z,cs,e=>by
  obtain⟨i,h1⟩:=Zo (h:=h) (by simpa [A73] using e)
  exact⟨i+1,by simpa using h1⟩
theorem A8q {U:St} {g:Bool} {n:Nat} {a x:GV} (h:ldG g n N a=some x) (hp:N <+: U):ldG g n U a=some x:=by
 cases a with
 |ptr b off=>
  simp only[ldG] at h ⊢
  obtain⟨cs,h1,h2⟩:=Z1z.1 h
  rw[A6 hp h1];exact h2
 |_=>cases h
theorem Qv {h:List Item} {U:St} (H:Hx N U h) {g:Bool} {n:Nat} {a x:GV} (e:ldX N h U g n a=some x):ldG g n U a=some x:=by
 unfold ldX orX ldY at e
 split at e
 ·rename_i y hy
  injection e with e;subst e
  exact A8q hy H.sub
 ·cases a with
  |ptr b off=>
   simp only at e
   cases hl:look h b with
   |none=>rw[hl] at e;exact e
   |some cs=>
    rw[hl] at e
    obtain⟨z,i,h1,_⟩:=M4 hl
    have:=H.hp.pt i h1
    simp only[ldG,this,Zaf]
    exact e
  |_=>exact e
theorem A8r {n:Nat}:∀ {h:List Item},N.length<=n->(∀ z m cs,Item.box z m cs∈h->m<n)->frX N h n
 |[],hl,_=>hl
 | .box z m cs::h,hl,hb=>⟨hb z m cs Zam,A8r (h:=h) hl fun z m cs hm=>hb z m cs (Zas _ hm)⟩
 | .th r::h',hl,hb=>A8r (h:=h') hl fun z m cs hm=>hb z m cs (Zas _ hm)
theorem box_lt {h:List Item} {U:St} (H:Hx N U h) {z m:Nat} {cs:List GV} (hm:Item.box z m cs∈h):m<U.length:=by
 obtain⟨i,hi,e⟩:=Zat hm
 have h1:(h.map Item.t)[i]? =some (pt z m cs):=by
  rw[Zay,Zav hi,e];rfl
 obtain⟨a,ha,_,hb⟩:=H.hp.see h1
 exact(hb m (by rw[ha.1];exact Zam)).2
theorem Hb {h:List Item} {U:St} {z:Nat} {cs:List GV} {v:Nat->GV} {k:Kx} (H:Hx N U h) (e:I4 N h z cs v k):∃ h',Hx N (U++[some (.row z cs)]) h'/\k (v U.length) h' (U++[some (.row z cs)]):=
 ⟨.box z U.length cs::h,H.hp.new z cs,e U.length (A8r (h:=h) H.sub.length_le (fun _ _ _ hm=>box_lt H hm)) _ (H.hp.new z cs)⟩
theorem I5 {U:St} {e:Option (GV×St)} {k:Kx} (h:genX N D U e k):∃ v U',e=some (v,U')/\(D=true->U <+: U')/\∃ h',Hx N U' h'/\k v h' U':=by
 obtain⟨v,U',h',h1,h2,h3,h4⟩:=h
 exact⟨v,U',h1,h2,h',h3,h4⟩
theorem A8s {env:Env} {h:List Item} {U:St} {k:Kx} (H:Hx N U h):∀ {i:Ins},sxI P D N env h U k i->∃ v U',Step P env U i v U'/\(D=true->U <+: U')/\∃ h',Hx N U' h'/\k v h' U':=by
 intro i e
 have same:∀ {v:Option GV},Ha v k h U->(∀ v',v=some v'->Step P env U i v' U)->∃ v U',Step P env U i v U'/\(D=true->U <+: U')/\∃ h',Hx N U' h'/\k v h' U':=by
  intro v hb hs
  cases v with
  |none=>exact hb.elim
  |some v=>exact⟨v,U,hs v rfl,fun _=>Zab _,h,H,hb⟩
 have pure:A6q i=true->Ha ((exec env [] i).map (·.1)) k h U->i.isCall=false->(∀ v',exec env U i=some (v',U)->Step P env U i v' U)->∃ v U',Step P env U i v U'/\(D=true->U <+: U')/\∃ h',Hx N U' h'/\k v h' U':=by
  intro hp hb _ hs
  refine same hb fun v' hv=>hs v' ?_
  obtain⟨⟨w,s⟩,hw,rfl⟩:=Z2z.1 hv
  exact(A0v hp hw).2 U
 cases i with
 |new cs=>
  obtain⟨h',h1,h2⟩:=Hb H e
  exact⟨_,_,rfl,fun _=>Zaq _ _,h',h1,h2⟩
 |box x=>
  obtain⟨h0,e⟩:=e
  obtain⟨h',h1,h2⟩:=Hb H e
  exact⟨_,_,by show boxG U _=_;unfold boxG;rw[if_pos h0],fun _=>Zaq _ _,h',h1,h2⟩
 |lit z len zero parts=>
  simp only[sxI] at e
  unfold litX at e
  split at e
  ·rename_i cs hc
   obtain⟨h',h1,h2⟩:=Hb H e
   exact⟨_,_,by show exec env U _=_;simp only[exec,hc];rfl,fun _=>Zaq _ _,h',h1,h2⟩
  ·exact e.elim
 |mks z b ze n c=>
  simp only[sxI] at e
  unfold mksX at e
  split at e
  ·rename_i n' c' hn hc
   obtain⟨h0,h3,e⟩:=e
   obtain⟨h',h1,h2⟩:=Hb H e
   exact⟨_,_,by show exec env U _=_;simp only[exec,hn,hc,Zaf,if_pos (And.intro h0 h3)],fun _=>Zaq _ _,h',h1,h2⟩
  ·exact e.elim
 |ld g n a=>
  refine same e fun v' hv=> ?_
  have:=Qv H hv
  show exec env U _=_
  simp only[exec]
  revert this
  cases a.ev env with
  |ptr b off=>
   intro h1
   simp only[ldG] at h1
   simp only[ptrG,Zaf]
   obtain⟨cs,h2,h3⟩:=Z1z.1 h1
   obtain⟨r,h4,h5⟩:=Z1z.1 h3
   simp only[h2,Zaf,h4,h5,Zap]
  |_=>intro h1;cases h1
 |st n a x=>
  simp only[sxI] at e
  have hst:∀ {y:GV} {U'},stG n U (a.ev env) (x.ev env)=some (y,U')->Step P env U (.st n a x) y U':=by
   intro y U' he
   show exec env U _=_
   simp only[exec]
   revert he
   cases a.ev env<;>intro he<;>first|cases he;done|exact he
  have gen:genX N D U (stG n U (a.ev env) (x.ev env)) k->∃ v U',Step P env U (.st n a x) v U'/\(D=true->U <+: U')/\∃ h',Hx N U' h'/\k v h' U':=fun hg=>by
   obtain⟨v,U',h1,h2⟩:=I5 hg
   exact⟨v,U',hst h1,h2⟩
  unfold stX at e
  split at e
  ·rename_i b off hb
   unfold stB at e
   split at e
   ·rename_i cs hl
    obtain⟨⟨h0,h1,h2,h3⟩,h4⟩:=e
    obtain⟨z,i,h5,h6⟩:=M4 hl
    obtain⟨U',s1,s2,_⟩:=H.hp.st i h5 n off (x.ev env) h3 h2 h1
    have s3:Hx N U' (upd h b (Am cs off (x.ev env).cells)):=by unfold Hx;rw[h6];exact s2
    exact⟨_,U',hst (by rw[hb];exact s1),(fun hd=>by rw[hd] at h0;cases h0),_,s3,h4 _ s3⟩
   ·rw[<- hb] at e;exact gen e
  ·exact gen e
 |call f xs=>
  obtain⟨v,U',h',h1,h2,h3,h4⟩:=e
  exact⟨v,U',h1,h2,h',h3,h4⟩
 |callv x xs=>
  simp only[sxI] at e
  unfold fnX at e
  split at e
  ·rename_i f caps hf
   obtain⟨v,U',h',h1,h2,h3,h4⟩:=e
   exact⟨v,U',⟨f,caps,hf,h1⟩,h2,h',h3,h4⟩
  ·exact e.elim
 |chk d x=>
  cases x with
  |ld g n a=>cases a with
   |t t=>
    obtain⟨h1,h2⟩:=e
    refine⟨_,U,⟨rfl,rfl,?_⟩,fun _=>Zab _,h,H,h2⟩
    have h3:=Qv H h1
    simp only[exec,Opd.ev]
    revert h3
    cases env t with
    |ptr b off=>
     intro h1
     simp only[ldG] at h1
     simp only[ptrG,Zaf]
     obtain⟨cs,h2,h3⟩:=Z1z.1 h1
     obtain⟨r,h4,h5⟩:=Z1z.1 h3
     simp only[h2,Zaf,h4,h5,Zap]
    |_=>intro h1;cases h1
   |k v=>exact e.elim
  |_=>exact e.elim
 |blc t cs=>
  obtain⟨h1,h2⟩:=e
  revert h1
  unfold blcX
  split
  ·rename_i b hb
   intro h1
   obtain⟨i,h3⟩:=Zo h1
   obtain⟨a,ha,_⟩:=H.hp.see h3
   exact⟨_,U,⟨rfl,rfl,b,hb,Bo.1 ha.2⟩,fun _=>Zab _,h,H,h2⟩
  ·exact fun h1=>h1.elim
 |mlk ks z ok m k'=>exact same e fun v' hv=>by show exec env U _=_;simp only[exec,hv,Zap]
 |bts x=>
  refine same e fun v' hv=> ?_
  show exec env U _=_
  simp only[exec]
  obtain⟨r,h1,h2⟩:=Z1z.1 hv
  obtain⟨bs,h3,rfl⟩:=Z2z.1 h2
  rw[h1,Zaf,h3];rfl
 |cut z x lo hi=>
  refine same e fun v' hv=> ?_
  show exec env U _=_
  simp only[exec]
  split at hv
  ·rename_i hz
   rw[if_pos hz,hv];rfl
  ·cases hv
 |app z b ze s x=>exact I5 e
 |clr z ze x=>exact I5 e
 |mkm=>exact I5 e
 |mup ks m k' v=>exact I5 e
 |mkf f caps=>
  refine same e fun v' hv=> ?_
  show exec env U _=_
  simp only[exec] at hv ⊢
  obtain⟨⟨w,s⟩,hw,rfl⟩:=Z2z.1 hv
  obtain⟨cs,h1,h2⟩:=Z2z.1 hw
  injection h2 with h2 h3;subst h2
  rw[h1];rfl
 |pan=>exact e.elim
 |_=>exact pure rfl e rfl fun _ h=>h
theorem Kp:∀ {os:List Op1} {K:Env->List Item->St->Prop} {env:Env} {h:List Item} {U:St},Hx N U h->sx P D N os K env h U->Ab D P os (fun env' U'=>U.length<=U'.length/\∃ h',Hx N U' h'/\K env' h' U') env U
 |[],K,env,h,U,H,e=>⟨Zai _,h,H,e⟩
 |o::r,K,env,h,U,H,e=>by
  have yes:sxI P D N env h U (fun v h' U'=>sx P D N r K (upo env o.d v) h' U') o.i->∃ v N',Step P env U o.i v N'/\(D=true->U <+: N')/\Ab D P r (fun env' U'=>U.length<=U'.length/\∃ h',Hx N U' h'/\K env' h' U') (upo env o.d v) N':=fun e=>by
   obtain⟨v,U',h1,h2,h',h3,h4⟩:=A8s H e
   have hl:=Pa h1
   exact⟨v,U',h1,h2,B8 (Kp h3 h4) fun _ _ hk=>⟨Zan hl hk.1,hk.2⟩⟩
  have no:sx P D N r K (upo env o.d (.tup [])) h U->Ab D P r (fun env' U'=>U.length<=U'.length/\∃ h',Hx N U' h'/\K env' h' U') (upo env o.d (.tup [])) U:=fun e=>Kp H e
  simp only[Ab]
  simp only[sx] at e
  cases hg:o.g with
  |none=>
   rw[hg] at e
   rw[if_pos (by simp[Ad])]
   exact yes e
  |some q=>
   obtain⟨g,b⟩:=q
   rw[hg] at e
   simp only[Zap] at e
   cases hc:(env g).bit with
   |none=>
    rw[hc] at e
    rw[if_neg (by simp[Ad,hc])]
    exact no e
   |some c=>
    rw[hc] at e
    by_cases hcb:c=b
    ·rw[if_pos (by simp[Ad,hc,hcb])]
     exact yes (e.1 hcb)
    ·rw[if_neg (by simp[Ad,hc,hcb])]
     exact no (e.2 (by cases c<;>cases b<;>simp_all))
theorem A1y {d:Cd}:∀ {Q:Qx} {env:Env} {h:List Item} {U:St},Hx N U h->sxc P N d Q env h U->vc P d (fun e env' U'=>U.length<=U'.length/\∃ h',Hx N U' h'/\Q e env' h' U') env U:=by
 induction d with
 |skip=>intro Q env h U H e;exact⟨Zai _,h,H,e⟩
 |reg ops=>intro Q env h U H e;exact Kp H e
 |drw a1 bs=>
  intro Q env h U H e
  show Ab true P a1 _ env U
  refine B8 (Kp H e) fun env' U' hk=> ?_
  obtain⟨hl,h',H',hk⟩:=hk
  exact B8 (Kp H' hk) fun _ _ hq=>⟨Zan hl hq.1,hq.2⟩
 |seq a b iha ihb=>
  intro Q env h U H e
  show vc P a _ env U
  refine Ao (iha H e) fun e env' U' hk=> ?_
  obtain⟨hl,h',H',hk⟩:=hk
  cases e with
  |nxt=>exact Ao (ihb H' hk) fun _ _ _ hq=>⟨Zan hl hq.1,hq.2⟩
  |ext j=>exact⟨hl,h',H',hk⟩
  |ret=>exact⟨hl,h',H',hk⟩
 |cnd c a b iha ihb=>
  intro Q env h U H e
  simp only[sxc] at e
  unfold ifX at e
  split at e
  ·rename_i t ht
   exact⟨t,ht,fun k=>iha H (e.1 k),fun k=>ihb H (e.2 k)⟩
  ·exact e.elim
 |blk id a ih=>
  intro Q env h U H e
  show vc P a _ env U
  refine Ao (ih H e) fun e env' U' hk=> ?_
  obtain⟨hl,h',H',hk⟩:=hk
  cases e with
  |nxt=>exact⟨hl,h',H',hk⟩
  |ext j=>
   simp only at hk ⊢
   split at hk
   ·rename_i hj;rw[if_pos hj];exact⟨hl,h',H',hk⟩
   ·rename_i hj;rw[if_neg hj];exact⟨hl,h',H',hk⟩
  |ret=>exact⟨hl,h',H',hk⟩
 |lop a ih=>
  intro Q env h U H e
  obtain⟨I,n,h0,H0,hI,hs⟩:=e
  refine Mm (fun k env' U'=>U.length<=U'.length/\∃ h,Hx N U' h/\I k env' h U') n ⟨Zai _,h0,H0,hI⟩ ?_
  rintro k env1 U1 ⟨hl,h1,H1,hI1⟩
  refine Ao (ih H1 (hs k env1 h1 U1 H1 hI1)) fun e env' U' hk=> ?_
  obtain⟨hl2,h',H',hk⟩:=hk
  cases e with
  |nxt=>
   obtain⟨k',h3,h4,h5,h6⟩:=hk
   exact⟨k',h4,Zan hl hl2,h3,h5,h6⟩
  |ext j=>exact⟨Zan hl hl2,hk⟩
  |ret=>exact⟨Zan hl hl2,hk⟩
 |ext id=>intro Q env h U H e;exact⟨Zai _,h,H,e⟩
 |ret=>intro Q env h U H e;exact⟨Zai _,h,H,e⟩
def rsX (N:St) (h:List Item) (U:St) (env:Env):Rs->Option GV
 | .t n=>some (env n)
 | .c a g n=>ldX N h U g n (env a)
def resX (N:St) (h:List Item) (U:St) (env:Env):List Rs->Option GV
 |[r]=>rsX N h U env r
 |rs=>(Av (rsX N h U env) rs).bind fun vs=>if vs.all Dk then some (.tup vs) else none
theorem A1z {h:List Item} {U:St} (H:Hx N U h) {env:Env} {r:Rs} {v:GV} (e:rsX N h U env r=some v):r.ev env U=some v:=by
 cases r with
 |t n=>exact e
 |c a g n=>rw[rs_c];exact Qv H e
theorem Vj {Y β:Type} {f g:Y->Option β} (h:∀ x y,f x=some y->g x=some y):∀ {l:List Y} {r:List β},Av f l=some r->Av g l=some r
 |[],r,e=>e
 |x::l,r,e=>by
  simp only[Av,Z1z,Z2z] at e ⊢
  obtain⟨y,h1,ys,h2,rfl⟩:=e
  exact⟨y,h _ _ h1,ys,Vj h h2,rfl⟩
theorem Vk {h:List Item} {U:St} (H:Hx N U h) {env:Env} {rs:List Rs} {v:GV} (e:resX N h U env rs=some v):resG env U rs=some v:=by
 unfold resX at e
 unfold resG
 split at e
 ·exact A1z H e
 ·rename_i hne
  split
  ·exact absurd rfl (hne _)
  ·obtain⟨vs,h1,h2⟩:=Z1z.1 e
   rw[Vj (fun x y=>A1z H) h1];exact h2
theorem ret_x {md:Bool} {f:Nat} {F:Fn1} {args:List GV} {N1:St} {h0:List Item} {Post:GV->St->Prop} (hF:Fd md P f=some F) (hl:args.length<=F.n) (H:Hx N N1 h0)
  (hc:sxc P N F.c (fun e env h U=>Hx N U h->Pq e=true/\∃ r,resX N h U env F.rs=some r/\Post r U) (env0 args) h0 N1):∃ r U,Ret P f args N1 r U/\Post r U:=
 Ak hF hl (Ao (A1y H hc) fun e env U he=>by
  obtain⟨hl,h,H,hq⟩:=he
  obtain⟨ho,r,hr,hp⟩:=hq H
  exact⟨ho,r,Vk H hr,hl,hp⟩)
end sound
def nextX (P:Program) (D:Bool) (N:St) (r:List Op1) (K:Env->List Item->St->Prop) (env:Env) (d:Option Nat):Kx:=fun v h' U'=>sx P D N r K (upo env d v) h' U'
def ifS (P:Program) (N:St) (a b:Cd) (Q:Qx) (env:Env) (h:List Item) (U:St) (c:Option Bool):Prop:=match c with
 |some c=>(c=true->sxc P N a Q env h U)/\(c=false->sxc P N b Q env h U)
 |none=>False
section words
variable {P:Program} {D:Bool} {N U:St} {env:Env} {h:List Item} {r:List Op1} {K:Env->List Item->St->Prop} {k:Kx} {d:Option Nat} {Q:Qx}
@[go_sem] theorem nextX_ap {v:GV}:nextX P D N r K env d v h U=sx P D N r K (upo env d v) h U:=(rfl)
@[go_sem] theorem sx_nil:sx P D N [] K env h U=K env h U:=(rfl)
@[go_sem] theorem sx_one {i:Ins}:sx P D N (⟨d,none,i⟩::r) K env h U=sxI P D N env h U (nextX P D N r K env d) i:=(rfl)
@[go_sem] theorem bindX_some {v:GV}:Ha (some v) k h U=k v h U:=(rfl)
@[go_sem] theorem ifS_t {a b:Cd}:ifS P N a b Q env h U (some true)=sxc P N a Q env h U:=by simp[ifS]
@[go_sem] theorem ifS_f {a b:Cd}:ifS P N a b Q env h U (some false)=sxc P N b Q env h U:=by simp[ifS]
theorem Aav {v:Option GV}:(Option.map (·.1) (v.map fun v=>(v,([]:St))))=v:=by cases v<;>rfl
@[go_sem] theorem xi_mov {x:Opd}:sxI P D N env h U k (.mov x)=k (x.ev env) h U:=(rfl)
@[go_sem] theorem xi_new {cs:List GV}:sxI P D N env h U k (.new cs)=I4 N h 1 cs (fun n=>.ptr n 0) k:=(rfl)
@[go_sem] theorem xi_box {x:Opd}:sxI P D N env h U k (.box x)=(Dk (x.ev env)=true/\I4 N h 1 (x.ev env).cells (fun n=>.ptr n 0) k):=(rfl)
@[go_sem] theorem xi_lit {z l:Nat} {ze:List GV} {ps:List (Nat×Nat×Opd)}:sxI P D N env h U k (.lit z l ze ps)=litX N h z l k (G9 ze (ps.map fun p=>(p.1,p.2.1,p.2.2.ev env))):=(rfl)
@[go_sem] theorem litX_some {z l:Nat} {cs:List GV}:litX N h z l k (some cs)=I4 N h z cs (fun n=>.sl n 0 l) k:=(rfl)
@[go_sem] theorem xi_ld {g:Bool} {n:Nat} {a:Opd}:sxI P D N env h U k (.ld g n a)=Ha (ldX N h U g n (a.ev env)) k h U:=(rfl)
@[go_sem] theorem xi_st {n:Nat} {a x:Opd}:sxI P D N env h U k (.st n a x)=stX N D h U n k (a.ev env) (x.ev env):=(rfl)
@[go_sem] theorem stX_ptr {n b off:Nat} {x:GV}:stX N D h U n k (.ptr b off) x=stB N D h U n k b off x (look h b):=(rfl)
@[go_sem] theorem stB_some {n b off:Nat} {x:GV} {cs:List GV}:stB N D h U n k b off x (some cs)=((D=false/\off+n<=cs.length/\0<n/\x.cells.length=n)/\∀ U',Hx N U' (upd h b (Am cs off x.cells))->k (.tup []) (upd h b (Am cs off x.cells)) U'):=(rfl)
@[go_sem] theorem xi_bin {op:BinOp} {x y:Opd}:sxI P D N env h U k (.bin op x y)=Ha (binG op (x.ev env) (y.ev env)) k h U:=by simp only[sxI,exec,Aav]
@[go_sem] theorem xi_un {op:UnOp} {x:Opd}:sxI P D N env h U k (.un op x)=Ha (unG op (x.ev env)) k h U:=by simp only[sxI,exec,Aav]
@[go_sem] theorem xi_cvi {kd:IntKind} {x:Opd}:sxI P D N env h U k (.cvi kd x)=Ha (cviG kd (x.ev env)) k h U:=by
 simp only[sxI,exec]
 cases x.ev env<;>rfl
@[go_sem] theorem xi_bts {x:Opd}:sxI P D N env h U k (.bts x)=Ha ((elems U 1 (x.ev env)).bind fun r=>(Cn r.2).map fun bs=>.str ⟨bs.toArray⟩) k h U:=(rfl)
@[go_sem] theorem xi_fad {n:Nat} {a:Opd}:sxI P D N env h U k (.fad n a)=Ha (fadG n (a.ev env)) k h U:=by
 simp only[sxI,exec]
 cases a.ev env<;>rfl
@[go_sem] theorem xi_iad {z:Nat} {x i:Opd}:sxI P D N env h U k (.iad z x i)=Ha (iadG z (x.ev env) (Az (some (i.ev env)))) k h U:=by
 simp only[sxI,exec]
 cases x.ev env with
 |sl g off len=>
  simp only
  cases Az (some (i.ev env)) with
  |none=>rfl
  |some n=>
   simp only[Zaf,iadG]
   split<;>rfl
 |_=>rfl
@[go_sem] theorem xi_len {s:Bool} {x:Opd}:sxI P D N env h U k (.len s x)=Ha ((lenG s (x.ev env)).map fun n=>.int .i64 n) k h U:=by
 simp only[sxI,exec]
 cases lenG s (x.ev env)<;>rfl
@[go_sem] theorem xi_app {z b:Nat} {ze:List GV} {s x:Opd}:sxI P D N env h U k (.app z b ze s x)=genX N D U (appV z b U (s.ev env) (x.ev env)) k:=(rfl)
@[go_sem] theorem xi_mm {m:Bool} {x y:Opd}:sxI P D N env h U k (.mm m x y)=Ha (mmG m (x.ev env) (y.ev env)) k h U:=by
 simp only[sxI,exec]
 cases x.ev env<;>first|rfl|skip
 cases y.ev env<;>rfl
@[go_sem] theorem xi_call {f:Nat} {xs:List Opd}:sxI P D N env h U k (.call f xs)=A74 P N D U f (xs.map (·.ev env)) k:=(rfl)
@[go_sem] theorem allocX_def {z:Nat} {cs:List GV} {v:Nat->GV}:I4 N h z cs v k=∀ n,frX N h n->∀ U',Hx N U' (.box z n cs::h)->k (v n) (.box z n cs::h) U':=(rfl)
@[go_sem] theorem frX_nil {n:Nat}:frX N [] n=(N.length<=n):=(rfl)
@[go_sem] theorem frX_box {z m n:Nat} {cs:List GV}:frX N (.box z m cs::h) n=(m<n/\frX N h n):=(rfl)
@[go_sem] theorem frX_th {n:Nat} {q:Thg}:frX N (.th q::h) n=frX N h n:=(rfl)
@[go_sem] theorem A4b {z n:Nat} {cs:List GV}:look (.box z n cs::h) n=some cs:=by simp[look]
@[go_sem low] theorem look_ne {z m n:Nat} {cs:List GV} (hn:m≠n):look (.box z m cs::h) n=look h n:=by simp[look,hn]
@[go_sem] theorem look_th {n:Nat} {q:Thg}:look (.th q::h) n=look h n:=(rfl)
@[go_sem] theorem upd_eq {z n:Nat} {cs ds:List GV}:upd (.box z n cs::h) n ds= .box z n ds::h:=by simp[upd]
@[go_sem] theorem ldX_ptr {g:Bool} {n b off:Nat} (hb:N.length<=b):ldX N h U g n (.ptr b off)=ldB (look h b) g n off (ldG g n U (.ptr b off)):=by
 have:ldG g n N (.ptr b off)=none:=by
  simp only[ldG,rdB]
  rw[List.getElem?_eq_none hb];rfl
 simp only[ldX,this,orX,ldY]
@[go_sem] theorem ldX_at {g:Bool} {n z i:Nat} {v:GV}:ldX N h U g n (atz z v i)=orX (ldG g n N (atz z v i)) (ldY h U g n (atz z v i)):=(rfl)
@[go_sem] theorem orX_some {x:GV} {b:Option GV}:orX (some x) b=some x:=(rfl)
@[go_sem] theorem ldB_some {cs:List GV} {g:Bool} {n off:Nat} {e:Option GV}:ldB (some cs) g n off e=(seg cs off n).bind (mkv g):=(rfl)
@[go_sem] theorem xc_skip:sxc P N .skip Q env h U=Q .nxt env h U:=(rfl)
@[go_sem] theorem xc_reg {os:List Op1}:sxc P N (.reg os) Q env h U=sx P false N os (Q .nxt) env h U:=(rfl)
@[go_sem] theorem xc_drw {a1 bs:List Op1}:sxc P N (.drw a1 bs) Q env h U=sx P true N a1 (sx P false N bs (Q .nxt)) env h U:=(rfl)
@[go_sem] theorem xc_seq {a b:Cd}:sxc P N (.seq a b) Q env h U=sxc P N a (fun e=>match e with
  | .nxt=>sxc P N b Q
  |e=>Q e) env h U:=(rfl)
@[go_sem] theorem xc_cnd {c:Opd} {a b:Cd}:sxc P N (.cnd c a b) Q env h U=ifS P N a b Q env h U (c.ev env).bit:=by
 show ifX _ _ _=_
 cases(c.ev env).bit<;>rfl
@[go_sem] theorem xc_blk {id:Nat} {a:Cd}:sxc P N (.blk id a) Q env h U=sxc P N a (fun e=>match e with
  | .ext j=>if j=id then Q .nxt else Q (.ext j)
  |e=>Q e) env h U:=(rfl)
@[go_sem] theorem xc_ext {id:Nat}:sxc P N (.ext id) Q env h U=Q (.ext id) env h U:=(rfl)
@[go_sem] theorem xc_ret:sxc P N .ret Q env h U=Q .ret env h U:=(rfl)
@[go_sem] theorem rsX_t {n:Nat}:rsX N h U env (.t n)=some (env n):=(rfl)
@[go_sem] theorem resX_1 {x:Rs}:resX N h U env [x]=rsX N h U env x:=(rfl)
end words
theorem A5y {U:St}:∀ {rs:List Thg} {fp:List Nat},sat U rs fp->fp.Nodup->∃ F:Nat->List Nat,(∀ (i:Nat) (r:Thg),rs[i]? =some r->r.P U (F i))/\(∀ i,(F i).Nodup)/\(∀ i j,i≠j->∀ g∈F i,g∉F j)/\∀ i,∀ g∈F i,g∈fp
 |[],fp,h,hn=>⟨fun _=>[],by simp,by simp,by simp,by simp⟩
 |r::rs,_,⟨a,b,hr,hs,rfl⟩,hn=>by
  rw[Zbf] at hn
  obtain⟨F,h1,h2,h3,h4⟩:=A5y hs hn.2.1
  refine⟨fun i=>match i with|0=>a|i+1=>F i,?_,?_,?_,?_⟩
  ·intro i s hi
   cases i with
   |zero=>simp at hi;subst hi;exact hr
   |succ i=>exact h1 i s (by simpa using hi)
  ·intro i;cases i with
   |zero=>exact hn.1
   |succ i=>exact h2 i
  ·intro i j hij g hg
   cases i with
   |zero=>cases j with
    |zero=>exact absurd rfl hij
    |succ j=>exact fun h=>hn.2.2 g hg g (h4 j g h) rfl
   |succ i=>cases j with
    |zero=>exact fun h=>hn.2.2 g h g (h4 i g hg) rfl
    |succ j=>exact h3 i j (by omega) g hg
  ·intro i g hg
   cases i with
   |zero=>exact List.mem_append_left _ hg
   |succ i=>exact List.mem_append_right _ (h4 i g hg)
theorem A8t {U:St} {rs:List Thg} {F:Nat->List Nat} (h1:∀(i:Nat) (r:Thg),rs[i]? =some r->r.P U (F i)) (h2:∀ i,(F i).Nodup) (h3:∀ i j,i≠j->∀ g∈F i,g∉F j):∀ {is:List Nat},is.Nodup->∃ fp,sat U (is.filterMap (rs[·]?)) fp/\fp.Nodup/\∀ g∈fp,∃ i∈is,g∈F i
 |[],_=>⟨[],rfl,by simp,by simp⟩
 |i::is,hn=>by
  rw[Zbl] at hn
  obtain⟨fp,k1,k2,k3⟩:=A8t h1 h2 h3 hn.2
  cases hi:rs[i]? with
  |none=>exact⟨fp,by rw[Zau,hi];exact k1,k2,fun g hg=>by obtain⟨j,hj,h⟩:=k3 g hg;exact⟨j,Zas _ hj,h⟩⟩
  |some r=>
   refine⟨F i++fp,by rw[Zau,hi];exact⟨F i,fp,h1 i r hi,k1,rfl⟩,Zbf.2 ⟨h2 i,k2,fun x hx y hy e=> ?_⟩,fun g hg=> ?_⟩
   ·subst e
    obtain⟨j,hj,h⟩:=k3 x hy
    exact h3 i j (fun e=>hn.1 (by rw[e];exact hj)) x hx h
   ·rcases List.mem_append.1 hg with hg|hg
    ·exact⟨i,Zam,hg⟩
    ·obtain⟨j,hj,h⟩:=k3 g hg;exact⟨j,Zas _ hj,h⟩
theorem Hp.sel {N U:St} {rs:List Thg} (H:Hp N U rs) (is:List Nat) (hn:is.Nodup):Hp N U (is.filterMap (rs[·]?)):=by
 obtain⟨h,fp,hs,hnd,hb⟩:=H
 obtain⟨F,h1,h2,h3,h4⟩:=A5y hs hnd
 obtain⟨fp',k1,k2,k3⟩:=A8t h1 h2 h3 hn
 exact⟨h,fp',k1,k2,fun g hg=>by obtain⟨i,_,hi⟩:=k3 g hg;exact hb g (h4 i g hi)⟩
theorem Hx.sel {N U:St} {h:List Item} (H:Hx N U h) (is:List Nat) (hn:is.Nodup):Hp N U (is.filterMap ((h.map Item.t)[·]?)):=Hp.sel H is hn
theorem Hx.re {N U:St} {h:List Item} (H:Hx N U h) (is:List Nat) (hn:is.Nodup):Hx N U (is.filterMap (h[·]?)):=by
 have e:(is.filterMap (h[·]?)).map Item.t=is.filterMap ((h.map Item.t)[·]?):=by
  induction is with
  |nil=>rfl
  |cons i is ih=>
   have ih:=ih (Zbl.1 hn).2
   rw[Zau,Zau,Zay]
   cases h[i]? with
   |none=>exact ih
   |some x=>simp only[Zap,Za1,ih]
 unfold Hx
 rw[e]
 exact H.sel is hn
section os
variable {Y:Type} {d:Kd Y} {N U:St} {l:List Y} {v:GV} {fp:List Nat}
end os
theorem A5z {Y:Type} {p:Pl Y} {U:St} {n:Nat} {x:Y} (h:rdB U n=some (p.enc x)):RS p.kd U (.sl n 0 1) [x]:=by
 refine .inr ⟨n,0,p.enc x,rfl,h,?_,fun i y hy=> ?_⟩
 ·show 0+1*p.z<=_;rw[p.len];omega
 ·have hi:i<1:=by simpa using (Zad.1 hy).1
  have hi:i=0:=by omega
  subst hi
  simp at hy;subst hy
  show List.take p.z (List.drop (0+0*p.z) (p.enc x))=p.enc x
  simp only[Nat.zero_mul,Nat.add_zero,List.drop_zero]
  exact Zba (by rw[p.len];exact Zai _)
section rules
variable {P:Program} {D:Bool} {N U U':St} {env:Env} {h:List Item} {k:Kx} {f:Nat} {args:List GV} {v:GV} {Y:Type}
theorem map_th {rs:List Thg} {h:List Item}:(rs.map Item.th++h).map Item.t=rs++h.map Item.t:=by
 rw[Za2,List.map_map]
 congr 1
 exact List.map_id _
theorem by_cs {rs:List Thg} (H:Hx N U h) (R:Ret P f args U v U') (K:Hp U U' rs) (kk:Hx N U' (rs.map Item.th++h)->k v (rs.map Item.th++h) U'):A74 P N D U f args k:=by
 have H':Hx N U' (rs.map Item.th++h):=by unfold Hx;rw[map_th];exact H.hp.add K
 exact⟨v,U',_,R,fun _=>K.sub,H',kk H'⟩
theorem by_c {r:Thg} (H:Hx N U h) (R:Ret P f args U v U') (K:Hp U U' [r]) (kk:Hx N U' (.th r::h)->k v (.th r::h) U'):A74 P N D U f args k:=by_cs H R K kk
theorem by_r (H:Hx N U h) (R:Ret P f args U v U) (kk:k v h U):A74 P N D U f args k:=⟨v,U,h,R,fun _=>Zab _,H,kk⟩
theorem by_b {b:Bool} (H:Hx N U h) (R:Ret P f args U (.bool b) U) (h1:b=true->k (.bool true) h U) (h2:b=false->k (.bool false) h U):A74 P N D U f args k:=by
 refine by_r H R ?_
 cases b with
 |true=>exact h1 rfl
 |false=>exact h2 rfl
theorem set_t {h:List Item} {i:Nat} {r:Thg}:(h.set i (.th r)).map Item.t=(h.map Item.t).set i r:=List.map_set ..
theorem at_t {h:List Item} {i:Nat} {r:Thg} (hi:h[i]? =some (.th r)):(h.map Item.t)[i]? =some r:=by rw[Zay,hi];rfl
theorem A4c {p:Pl Y} {b8 n:Nat} {l:List Y} (H:Hx N U h) (i:Nat) (hi:h[i]? =some (.th (ow p.kd v l))) (x:Y) (hl:look h n=some (p.enc x)) (hz:0<p.z) (hb:(l.length+1)*b8<=140737488355328)
  (kk:∀ v' U',Hx N U' (h.set i (.th (ow p.kd v' (l++[x]))))->k v' (h.set i (.th (ow p.kd v' (l++[x])))) U'):genX N false U (appV p.z b8 U v (.sl n 0 1)) k:=by
 obtain⟨z,j,h1,_⟩:=M4 hl
 obtain⟨v',U',e,H'⟩:=H.hp.app (by8:=b8) i (at_t hi) (A5z (H.hp.pt j h1)) hz hb
 rw[<- set_t] at H'
 exact⟨v',U',_,e,(fun h=>by cases h),H',kk v' U' H'⟩
theorem Gf {e:Option (GV×St)} {k k':Kx} (hk:∀ v h U,k v h U->k' v h U):genX N D U e k->genX N D U e k':=fun⟨v,U',h',h1,h2,h3,h4⟩=>⟨v,U',h',h1,h2,h3,hk _ _ _ h4⟩
theorem Iu {z:Nat} {cs:List GV} {w:Nat->GV} {k k':Kx} (hk:∀ v h U,k v h U->k' v h U) (e:I4 N h z cs w k):I4 N h z cs w k':=fun n hf U' H=>hk _ _ _ (e n hf U' H)
theorem Aa2 {k k':Kx} (hk:∀ v h U,k v h U->k' v h U):∀ {i:Ins},sxI P D N env h U k i->sxI P D N env h U k' i:=by
 have bm:∀ {v:Option GV},Ha v k h U->Ha v k' h U:=fun {v} e=>by
  cases v with
  |none=>exact e
  |some v=>exact hk _ _ _ e
 intro i e
 cases i with
 |new cs=>exact Iu hk e
 |box x=>exact⟨e.1,Iu hk e.2⟩
 |lit z len zero parts=>
  simp only[sxI] at e ⊢
  revert e
  cases G9 zero (parts.map fun p=>(p.1,p.2.1,p.2.2.ev env)) with
  |none=>exact id
  |some cs=>exact Iu hk
 |mks z b ze n c=>
  simp only[sxI] at e ⊢
  revert e
  cases Az (some (n.ev env)) with
  |none=>exact id
  |some n=>cases Az (some (c.ev env)) with
   |none=>exact id
   |some c=>exact fun e=>⟨e.1,e.2.1,Iu hk e.2.2⟩
 |st n a x=>
  simp only[sxI] at e ⊢
  revert e
  cases a.ev env with
  |ptr b off=>
   simp only[stX]
   unfold stB
   cases look h b with
   |none=>exact Gf hk
   |some cs=>exact fun e=>⟨e.1,fun U' H=>hk _ _ _ (e.2 U' H)⟩
  |_=>exact Gf hk
 |call f xs=>
  obtain⟨v,U',h',h1,h2,h3,h4⟩:=e
  exact⟨v,U',h',h1,h2,h3,hk _ _ _ h4⟩
 |callv x xs=>
  simp only[sxI] at e ⊢
  revert e
  cases x.ev env with
  |fn f caps=>exact fun⟨v,U',h',h1,h2,h3,h4⟩=>⟨v,U',h',h1,h2,h3,hk _ _ _ h4⟩
  |_=>exact id
 |chk d x=>
  cases x with
  |ld g n a=>cases a with
   |t t=>exact⟨e.1,hk _ _ _ e.2⟩
   |k v=>exact e
  |_=>exact e
 |blc t cs=>exact⟨e.1,hk _ _ _ e.2⟩
 |app z b ze s x=>exact Gf hk e
 |clr z ze x=>exact Gf hk e
 |mkm=>exact Gf hk e
 |mup ks m k2 v=>exact Gf hk e
 |mov x=>exact hk _ _ _ e
 |pan=>exact e
 |_=>exact bm e
theorem Qw:∀ {os:List Op1} {K K':Env->List Item->St->Prop} {env:Env} {h:List Item} {U:St},(∀ env h U,K env h U->K' env h U)->sx P D N os K env h U->sx P D N os K' env h U
 |[],K,K',env,h,U,hk,e=>hk _ _ _ e
 |o::r,K,K',env,h,U,hk,e=>by
  simp only[sx] at e ⊢
  have y:sxI P D N env h U (fun v h' U'=>sx P D N r K (upo env o.d v) h' U') o.i->sxI P D N env h U (fun v h' U'=>sx P D N r K' (upo env o.d v) h' U') o.i:=Aa2 fun v h U=>Qw hk
  have n:sx P D N r K (upo env o.d (.tup [])) h U->sx P D N r K' (upo env o.d (.tup [])) h U:=Qw hk
  revert e
  cases o.g.map fun g=>((env g.1).bit,g.2) with
  |none=>exact y
  |some q=>
   obtain⟨c,b⟩:=q
   cases c with
   |none=>exact n
   |some c=>exact fun e=>⟨fun hc=>y (e.1 hc),fun hc=>n (e.2 hc)⟩
theorem Zp {d:Cd}:∀ {Q Q':Qx} {env:Env} {h:List Item} {U:St},(∀ e env h U,Q e env h U->Q' e env h U)->sxc P N d Q env h U->sxc P N d Q' env h U:=by
 induction d with
 |skip=>intro Q Q' env h U hq e;exact hq _ _ _ _ e
 |reg ops=>intro Q Q' env h U hq e;exact Qw (hq _) e
 |drw a1 bs=>intro Q Q' env h U hq e;exact Qw (fun _ _ _=>Qw (hq _)) e
 |seq a b iha ihb=>
  intro Q Q' env h U hq e
  refine iha (fun e env h U he=> ?_) e
  cases e with
  |nxt=>exact ihb hq he
  |ext j=>exact hq _ _ _ _ he
  |ret=>exact hq _ _ _ _ he
 |cnd c a b iha ihb=>
  intro Q Q' env h U hq e
  simp only[sxc] at e ⊢
  unfold ifX at e ⊢
  split
  ·rename_i hc;rw[hc] at e;exact⟨fun k=>iha hq (e.1 k),fun k=>ihb hq (e.2 k)⟩
  ·rename_i hc;rw[hc] at e;exact e
 |blk id a ih=>
  intro Q Q' env h U hq e
  refine ih (fun e env h U he=> ?_) e
  cases e with
  |nxt=>exact hq _ _ _ _ he
  |ext j=>
   simp only at he ⊢
   split at he
   ·rename_i hj;rw[if_pos hj];exact hq _ _ _ _ he
   ·rename_i hj;rw[if_neg hj];exact hq _ _ _ _ he
  |ret=>exact hq _ _ _ _ he
 |lop a ih=>
  intro Q Q' env h U hq e
  obtain⟨I,n,h0,H0,hI,hs⟩:=e
  refine⟨I,n,h0,H0,hI,fun k env h U H hi=>ih (fun e env' h' U' he=> ?_) (hs k env h U H hi)⟩
  cases e with
  |nxt=>exact he
  |ext j=>obtain⟨h1,H1,he⟩:=he;exact⟨h1,H1,hq _ _ _ _ he⟩
  |ret=>obtain⟨h1,H1,he⟩:=he;exact⟨h1,H1,hq _ _ _ _ he⟩
 |ext id=>intro Q Q' env h U hq e;exact hq _ _ _ _ e
 |ret=>intro Q Q' env h U hq e;exact hq _ _ _ _ e
variable {a b:Cd} {Q:Qx}
theorem Aaw (n j0:Nat) (I:Nat->Env->List Item->Prop) (X Z:Env->List Item->Prop) (h0:List Item) (H0:Hx N U h0) (hI:I n env h0)
  (hs:∀(J:Nat->Env->St->Prop) (Yq Wq:Env->St->Prop),(∀ i env h U,Hx N U h->I i env h->J i env U)->(∀ env h U,Hx N U h->X env h->Yq env U)->(∀ env h U,Hx N U h->Z env h->Wq env U)->∀ i env h U,Hx N U h->I i env h->sxc P N a (fun e env' h' U'=>match e with
   | .nxt=>∃ i',i'<i/\J i' env' U'
   | .ext j=>j=j0/\Yq env' U'
   | .ret=>Wq env' U') env h U)
  (hx:∀ env h U,Hx N U h->X env h->Q (.ext j0) env h U) (hz:∀ env h U,Hx N U h->Z env h->Q .ret env h U):sxc P N (.lop a) Q env h U:=by
 refine⟨fun i env h U=>I i env h,n,h0,H0,hI,fun i env h U H hi=>Zp (fun e env' h' U' he=> ?_) (hs (fun i env U=>∃ h,Hx N U h/\I i env h) (fun env U=>∃ h,Hx N U h/\X env h) (fun env U=>∃ h,Hx N U h/\Z env h) (fun _ _ h _ H e=>⟨h,H,e⟩) (fun _ h _ H e=>⟨h,H,e⟩) (fun _ h _ H e=>⟨h,H,e⟩) i env h U H hi)⟩
 cases e with
 |nxt=>obtain⟨i',h1,h2,h3,h4⟩:=he;exact⟨i',h2,h1,h3,h4⟩
 |ext j=>obtain⟨rfl,h2,h3,h4⟩:=he;exact⟨h2,h3,hx _ _ _ h3 h4⟩
 |ret=>obtain⟨h2,h3,h4⟩:=he;exact⟨h2,h3,hz _ _ _ h3 h4⟩
theorem A20 (n ri j0:Nat) (I:Nat->Env->List Item->Prop) (X Z:Env->List Item->Prop) (h0:List Item) (H0:Hx N U h0) (hr:env ri=gi 0) (hI:I 0 env h0)
  (hs:∀(J:Nat->Env->St->Prop) (Yq Wq:Env->St->Prop),(∀ i env h U,Hx N U h->I i env h->J i env U)->(∀ env h U,Hx N U h->X env h->Yq env U)->(∀ env h U,Hx N U h->Z env h->Wq env U)->∀ i env h U,i<n->env ri=gi i->decide ((i:Int)<n)=true->Hx N U h->I i env h->sxc P N a (fun e env' h' U'=>match e with
   | .nxt=>env' ri=gi ((i:Int)+1)/\J (i+1) env' U'
   | .ext j=>j=j0/\Yq env' U'
   | .ret=>Wq env' U') env h U)
  (he:∀(Yq:Env->St->Prop),(∀ env h U,Hx N U h->X env h->Yq env U)->∀ env h U,env ri=gi n->decide ((n:Int)<n)=false->Hx N U h->I n env h->sxc P N a (fun e env' h' U'=>match e with
   | .nxt=>False
   | .ext j=>j=j0/\Yq env' U'
   | .ret=>False) env h U)
  (hx:∀ env h U,Hx N U h->X env h->Q (.ext j0) env h U) (hz:∀ env h U,Hx N U h->Z env h->Q .ret env h U):sxc P N (.lop a) Q env h U:=by
 refine Aaw n j0 (fun k env h=>∃ i:Nat,k=n - i/\i<=n/\env ri=gi i/\I i env h) X Z h0 H0 ⟨0,rfl,Nat.zero_le _,hr,hI⟩ (fun J Yq Wq hJ hY hW k env h U H hi=> ?_) hx hz
 obtain⟨i,rfl,h1,h2,h3⟩:=hi
 rcases Zbh i n with hlt|hge
 ·refine Zp (fun e env' h' U' q=> ?_) (hs (fun i' env U=>i'<=n->env ri=gi i'->J (n - i') env U) Yq Wq (fun j env h U H e hj hr=>hJ _ env h U H ⟨j,rfl,hj,hr,e⟩) hY hW i env h U hlt h2 (by simp;omega) H h3)
  cases e with
  |nxt=>exact⟨n - (i+1),by omega,q.2 (by omega) q.1⟩
  |ext j=>exact q
  |ret=>exact q
 ·obtain rfl:i=n:=by omega
  refine Zp (fun e env' h' U' q=> ?_) (he Yq hY env h U h2 (by simp) H h3)
  cases e with
  |nxt=>exact q.elim
  |ext j=>exact q
  |ret=>exact q.elim
theorem O8 {md:Bool} {F:Fn1} {r:GV} (hF:Fd md P f=some F) (hl:args.length<=F.n) (hr:vLt N.length r)
  (hc:sxc P N F.c (fun e env h U=>Hx N U h->Pq e=true/\resX N h U env F.rs=some r) (env0 args) [] N):Ret P f args N r N:=
 Af hF hl hr (Ao (A1y (Hx.refl N) hc) fun e env U he=>by
  obtain⟨_,h,H,hq⟩:=he
  exact⟨(hq H).1,Vk H (hq H).2,H.sub⟩)
end rules
section
open Go Go.RowKit Go.Shelf
section
variable {P:Program} {N U:St}
theorem Good.bel {w0 w w':World} {W:Rho} (h:Good w0 W N w) (hb:Below w.heap.size w w'):Good w0 W N w':=h.keep hb.os hb.tape hb.output hb.size hb.block
theorem Frame.bel {w w':World} {W:Rho} (hb:Below w.heap.size w w'):Frame W N w W N w':=⟨fun g B L h h1 h2 _=>⟨g,B,L,h,h1,h2,rfl⟩,hb.size,fun b h _=>hb.block b h⟩
theorem Ret.of_str {f:Nat} {args:List GV} {s:ByteArray} (hc:Jt P f=true) (h:∀ w0 W w (us:List Value),Good w0 W N w->All2 (vRel W) args us->Calls P f us.toArray w fun e w'=>e= .returned (.string s)/\Below w.heap.size w w'):Ret P f args N (.str s) N:=
 ⟨hc,Zai _,fun w0 W w us hG ha=>(h w0 W w us hG ha).mono fun e w' ⟨he,hb⟩=>by
  subst he
  exact⟨W,fun _ _=>rfl,rfl,hG.bel hb,Frame.bel hb⟩⟩
theorem below_grown (w:World) (k:Nat) (os:Array Obj):Below w.heap.size w (Go.Sort.grow (w.drewN k) os):=
 ⟨rfl,rfl,rfl,by simp only[Go.Sort.grow,Array.size_append];exact Nat.le_add_right _ _,fun b hb=>by
  show(w.heap++os)[b]? =w.heap[b]?
  rw[Array.getElem?_append_left hb]⟩
end
def itB (n:Int):ByteArray:=⟨(Lib.itoa n).toArray⟩
theorem Aa3 (N:St) (n:Int) (h0: -9223372036854775808<=n) (h1:n<=9223372036854775807):Ret Tryz.prog 249 [.int .i64 n] N (.str (itB n)) N:=
 Ret.of_str (by kernel_rfl) fun w0 W w us hG ha=>by
  cases ha with
  |cons h1' h2'=>
   cases h2'
   obtain rfl:=h1'
   exact hG.lay w hG.below n h0 h1
theorem Ac7 (l:List ByteArray):pS.cells l=l.map .str:=by
 induction l with
 |nil=>rfl
 |cons x l ih=>show GV.str x::pS.cells l=_;rw[ih];rfl
def joB (l:List ByteArray) (sep:ByteArray):ByteArray:=⟨(Lib.join (l.map (·.data.toList)) sep.data.toList).toArray⟩
theorem A60 (N:St) (v:GV) (l:List ByteArray) (fp:List Nat) (hO:OS pS.kd N l v fp) (sep:ByteArray) (hN:l.length<=140737488355328) (hlen:(Lib.join (l.map (·.data.toList)) sep.data.toList).length<=140737488355328):Ret Tryz.prog 104 [v,.str sep] N (.str (joB l sep)) N:=
 Ret.of_str (by kernel_rfl) fun w0 W w us hG ha=>by
  cases ha with
  |cons h1 h2=>
  cases h2 with
  |cons h2 h3=>
  cases h3
  obtain rfl:=h2
  rcases OS.flat.1 hO with⟨rfl,rfl,_⟩|⟨g,pre,post,rfl,hB,_⟩
  ·obtain rfl:=h1
   exact(Any.strings_Join_none A4a E5 none 0 sep w).mono fun e w' ⟨he,hw⟩=>⟨by rw[he];rfl,hw ▸ Below.refl _ _⟩
  ·obtain⟨L,hL,a,cap,rfl,hcap,hc⟩:=h1
   by_cases hl:l.length=0
   ·have:l=[]:=List.eq_nil_of_length_eq_zero hl
    subst this
    exact(Any.strings_Join_none A4a E5 (some a) cap sep w).mono fun e w' ⟨he,hw⟩=>⟨by rw[he];rfl,hw ▸ Below.refl _ _⟩
   ·rcases hc with hc|⟨rfl,_⟩
    ·omega
    have hB':=Bo.1 hB
    have hm:=hG.mem g _ L hB' hL
    have hlo:=hG.loc g L hL hm.1
    rw[Je hlo.1]
    refine(Any.strings_Join A4a E5 L.a.block (L.a.off+pre.length) cap l sep w ?_ hlo.2.2.1 hN hcap hlen).mono fun e w' h=>h
    intro j x hx
    have hj:(pre++pS.cells l++post)[pre.length+j]? =some (.str x):=by
     have hjl:j<l.length:=(Zad.1 hx).1
     have hcl:(pS.cells l).length=l.length:=by rw[Pl.cells_length];exact Nat.mul_one _
     rw[Zao,List.getElem?_append_right (by omega),Nat.add_sub_cancel_left,List.getElem?_append_left (by omega)]
     rw[Ac7,Zay,hx];rfl
    obtain⟨u,hu,hr⟩:=hG.cell hB' rfl hL hj
    obtain rfl:=hr
    rw[Je hlo.1] at hu
    rw[Nat.add_assoc]
    exact hu
end
def eD (p:Dot×Int):GV×GV:=(.agg [gi p.1.rep,gi p.1.seq],gi p.2)
def Iz (ps:List (Dot×Int)) (d:Dot):Option Int:=(ps.find? fun p=>decide (d=p.1)).map (·.2)
def mpt (m:GV) (ps:List (Dot×Int)):Thg:=⟨fun N fp=>∃ g,m= .mp g/\fp=[g]/\bk N g=some (.map (ps.map eD)),fun⟨g,h1,h2,h3⟩ hf=>⟨g,h1,h2,by rw[hf g (by rw[h2];exact Zam)];exact h3⟩⟩
theorem M5 (d:Dot):∀(ps:List (Dot×Int)) (i:Nat),∃ q,Oy [.i .i64,.i .i64] [gi d.rep,gi d.seq] (ps.map eD) i=some q/\match Iz ps d with
  |some v=>∃ j,q=some (j,gi v)
  |none=>q=none
 |[],i=>⟨none,rfl,rfl⟩
 |p::ps,i=>by
  obtain⟨q,h1,h2⟩:=M5 d ps (i+1)
  have e:Cj [.i .i64,.i .i64] [gi d.rep,gi d.seq] [gi p.1.rep,gi p.1.seq]=some (decide (d=p.1)):=by
   have:decide (d=p.1)=(decide (d.rep=p.1.rep)&&decide (d.seq=p.1.seq)):=by
    rw[Zal]
    simp only[decide_eq_true_eq,Zaj]
    constructor
    ·rintro rfl;exact⟨rfl,rfl⟩
    ·rintro⟨h3,h4⟩;cases d;cases hp:p.1;simp_all
   rw[this]
   simp only[Cj,scEq,and_self,if_true,Zaf,Zap,Bool.and_true,Zbm.injEq]
   rw[Zal];simp
  by_cases hd:d=p.1
  ·refine⟨some (i,gi p.2),?_,?_⟩
   ·simp only[Za1,eD,Oy] at e ⊢
    rw[e];simp[hd]
   ·have:Iz (p::ps) d=some p.2:=by simp[Iz,hd]
    rw[this];exact⟨i,rfl⟩
  ·refine⟨q,?_,?_⟩
   ·simp only[Za1,eD,Oy] at e ⊢
    rw[e];simp only[hd,decide_false,Zaf,Zbd,if_false]
    exact h1
   ·have:Iz (p::ps) d=Iz ps d:=by simp[Iz,hd]
    rw[this];exact h2
namespace Hp
variable {N U:St} {rs:List Thg}
theorem newMap (H:Hp N U rs):Hp N (U++[some (.map [])]) (mpt (.mp U.length) []::rs):=
 H.add (rs':=[mpt (.mp U.length) []]) ⟨Zaq _ _,[U.length],⟨[U.length],[],⟨_,rfl,rfl,Gd⟩,rfl,rfl⟩,by simp,by simp⟩
theorem mup (H:Hp N U rs) (i:Nat) {m:GV} {ps:List (Dot×Int)} (hi:rs[i]? =some (mpt m ps)) (d:Dot) (n:Int) (h:Iz ps d=none):
  ∃ U',mupG U [.i .i64,.i .i64] m (.agg [gi d.rep,gi d.seq]) (gi n)=some (.tup [],U')/\Hp N U' (rs.set i (mpt m (ps++[(d,n)]))):=by
 obtain⟨a,⟨g,rfl,rfl,hB⟩,hnd,hbd,ht⟩:=(H.pick i hi).turn
 have hlt:=(hbd g Zam).2
 obtain⟨q,h1,h2⟩:=M5 d ps 0
 rw[h] at h2
 subst h2
 refine⟨U.set g (some (.map ((ps++[(d,n)]).map eD))),?_,unpick (ht (a':=[g]) ⟨by simp,fun g' h=>.inl h,by simp,fun g' h h'=>Ge fun e=>h' (by rw[e];exact Zam)⟩ ⟨g,rfl,rfl,Bo.2 (by rw[List.getElem?_set_self hlt])⟩) (Zad.1 hi).1⟩
 simp only[mupG,mpG,Bo.1 hB,Zaf,keyG,Za0,Zbc,if_true]
 rw[h1]
 simp[Dk,Ab1,eD]
theorem mlk (H:Hp N U rs) (i:Nat) {m:GV} {ps:List (Dot×Int)} (hi:rs[i]? =some (mpt m ps)) (d:Dot):
  mlkG U [.i .i64,.i .i64] (gi 0) true m (.agg [gi d.rep,gi d.seq])=some (.tup [gi ((Iz ps d).getD 0),.bool (Iz ps d).isSome]):=by
 obtain⟨a,⟨g,rfl,rfl,hB⟩,_⟩:=H.see hi
 obtain⟨q,h1,h2⟩:=M5 d ps 0
 simp only[mlkG,mpG,Bo.1 hB,Zaf,keyG,Za0,Zbc,if_true]
 rw[h1]
 cases hl:Iz ps d with
 |none=>rw[hl] at h2;subst h2;rfl
 |some v=>rw[hl] at h2;obtain⟨j,rfl⟩:=h2;rfl
end Hp
attribute [go_sem] Zae Zah Za8 Za9 Za1 List.map_nil Zbi Zar
section
variable {P:Program} {D:Bool} {N U:St} {env:Env} {h:List Item} {k:Kx} {v:GV} {Y:Type} {l:List Y}
theorem Hx.nil (H:Hx N U h) (d:Kd Y):Hx N U (.th (ow d .nilS ([]:List Y))::h):=Hp.nilS H
theorem Hx.emp {z n:Nat} (H:Hx N U (.box z n []::h)) (d:Kd Y) (hz:z=d.z):Hx N U (.th (ow d (.sl n 0 0) ([]:List Y))::h):=H.hp.toNil 0 rfl hz
theorem Ac8 (H:Hx N U h) {g:Bool} {n:Nat} {a x:GV} (e:ldG g n U a=some x):ldX N h U g n a=some x:=by
 unfold ldX orX
 cases h1:ldG g n N a with
 |some y=>have:=A8q h1 H.sub;rw[e] at this;exact this.symm
 |none=>
  show ldY h U g n a=some x
  cases a with
  |ptr b off=>
   simp only[ldY]
   cases hl:look h b with
   |none=>exact e
   |some cs=>
    obtain⟨z,i,h2,_⟩:=M4 hl
    have:=H.hp.pt i h2
    simp only[ldG,this,Zaf] at e
    exact e
  |_=>exact e
end
section os
variable {Y:Type} {d:Kd Y} {N U:St} {l:List Y} {v:GV} {fp:List Nat}
end os
section rules
variable {P:Program} {D:Bool} {N U:St} {h:List Item} {k:Kx} {v:GV} {Y:Type} {l:List Y} {d:Kd Y}
end rules
def A22:Fn1:=⟨15,[.t 6],(rg [oV 6 kf] (rg [oM 7 0,oM 8 1,oB 9 .geq 7 8,oM 10 9,jM 11 10 0,jM 12 10 2,jB 13 10 .leq 11 12,oQ 14 10 13,oM 6 14] .ret))⟩
theorem A75:A5 Tryz.prog 128=some A22:=by kernel_rfl
def Vm:Fn1:=⟨15,[.t 6],(rg [oV 6 kf] (rg [oM 7 0,oM 8 1,oB 9 .geq 7 8,oM 10 9,jM 11 10 0,jM 12 10 2,jB 13 10 .leq 11 12,oQ 14 10 13,oM 6 14] .ret))⟩
theorem A4d:A5 Tryz.prog 109=some Vm:=by kernel_rfl
def Vo:Fn1:=⟨23,[.t 2],(rg [oV 2 kf] (.seq (rg [oV 3 (ki 0)] (oH 0 (.seq (rg [oM 4 3,oM 5 0,o 6 (.len true (.t 5)),oB 7 .lss 4 6] (oJ 7 0)) (.seq (.blk 1 (rg [oM 10 0,oM 11 3,o 12 (.idx (.t 10) (.t 11)),o 13 (.bin .lss (.t 12) (.k (.int .u8 97))),oM 14 13,vM 15 14 0,vM 16 14 3,og 17 14 false (.idx (.t 15) (.t 16)),og 18 14 false (.bin .gtr (.t 17) (.k (.int .u8 122))),oP 19 14 18] (oG 19 (oR 2 kf)))) (.reg [oM 8 3,oZ 9 8 1,oM 3 9]))))) (rg [oM 20 0,o 21 (.len true (.t 20)),o 22 (.call 128 [(.t 21),(ki 1),(ki 8)]),oM 2 22] .ret)))⟩
theorem A4e:A5 Tryz.prog 129=some Vo:=by kernel_rfl
def Vq:Fn1:=⟨19,[.t 2],(rg [oV 2 kf] (.seq (rg [oV 3 (ki 0)] (oH 0 (.seq (rg [oM 4 3,oM 5 0,o 6 (.len true (.t 5)),oB 7 .lss 4 6] (oJ 7 0)) (.seq (.blk 1 (rg [oM 10 0,oM 11 3,o 12 (.idx (.t 10) (.t 11)),o 13 (.cvi .i64 (.t 12)),o 14 (.call 109 [(.t 13),(ki 97),(ki 122)]),oU 15 14] (oG 15 (oR 2 kf)))) (.reg [oM 8 3,oZ 9 8 1,oM 3 9]))))) (rg [oM 16 0,o 17 (.len true (.t 16)),o 18 (.call 109 [(.t 17),(ki 1),(ki 8)]),oM 2 18] .ret)))⟩
theorem A4f:A5 Tryz.prog 108=some Vq:=by kernel_rfl
def Vs:Fn1:=⟨19,[.t 2],(rg [oV 2 kf] (.seq (rg [oV 3 (ki 0)] (oH 0 (.seq (rg [oM 4 3,oM 5 0,oN 6 5,oB 7 .lss 4 6] (oJ 7 0)) (.seq (.blk 1 (rg [oM 10 0,oM 11 3,oI 12 1 10 11,oL 13 12,o 14 (.call 128 [(.t 13),(ki 0),(ki 1000)]),oU 15 14] (oG 15 (oR 2 kf)))) (.reg [oM 8 3,oZ 9 8 1,oM 3 9]))))) (rg [oM 16 0,oN 17 16,oE 18 .eql 17 3,oM 2 18] .ret)))⟩
theorem A4g:A5 Tryz.prog 146=some Vs:=by kernel_rfl
def Vu:Fn1:=⟨18,[.t 2],(rg [oV 2 kf] (.seq (rg [oM 5 0,oN 6 5,oV 7 (ki 0)] (oH 0 (rg [oB 8 .lss 7 6] (.seq (oJ 8 0) (.seq (.blk 1 (rg [oI 9 1 5 7,oL 10 9,oM 4 10] (rg [oM 11 4,o 12 (.call 109 [(.t 11),(ki 0),(ki 1000)]),oU 13 12] (oG 13 (oR 2 kf))))) (.reg [oZ 14 7 1,oM 7 14])))))) (rg [oM 15 0,oN 16 15,oE 17 .eql 16 3,oM 2 17] .ret)))⟩
theorem A4h:A5 Tryz.prog 238=some Vu:=by kernel_rfl
def A24:Fn1:=⟨11,[.t 2],(rg [oX 1 0,oV 2 kf] (rg [oF 3 0 1,oL 4 3,o 5 (.call 128 [(.t 4),(ki 0),(ki 2)]),oM 6 5,jF 7 6 1 1,jL 8 6 7,og 9 6 true (.call 128 [(.t 8),(ki 1),(ki 1000)]),oQ 10 6 9,oM 2 10] .ret))⟩
theorem A76:A5 Tryz.prog 190=some A24:=by kernel_rfl
def A26:Fn1:=⟨11,[.t 2],(rg [oX 1 0,oV 2 kf] (rg [oF 3 0 1,oL 4 3,o 5 (.call 109 [(.t 4),(ki 0),(ki 2)]),oM 6 5,jF 7 6 1 1,jL 8 6 7,og 9 6 true (.call 109 [(.t 8),(ki 1),(ki 1000)]),oQ 10 6 9,oM 2 10] .ret))⟩
theorem A77:A5 Tryz.prog 260=some A26:=by kernel_rfl
def A28:Fn1:=⟨21,[.t 4],(rg [oX 3 1,oV 4 kf] (dw [oM 5 0,oC 6 146 5,oM 7 6,jW 8 7 2 3,jC 9 7 190 8,oQ 10 7 9,oM 11 10,jF 12 11 1 3,jL 13 11 12,jM 14 11 0,jF 15 11 0 3,jL 16 11 15,jI 17 11 1 14 16,jL 18 11 17] [jB 19 11 .leq 13 18,oQ 20 11 19,oM 4 20] .ret))⟩
theorem A78:A5 Tryz.prog 97=some A28:=by kernel_rfl
def A2a:Fn1:=⟨21,[.t 4],(rg [oX 3 1,oV 4 kf] (dw [oM 5 0,oC 6 238 5,oM 7 6,jW 8 7 2 3,jC 9 7 260 8,oQ 10 7 9,oM 11 10,jF 12 11 1 3,jL 13 11 12,jM 14 11 0,jF 15 11 0 3,jL 16 11 15,jI 17 11 1 14 16,jL 18 11 17] [jB 19 11 .leq 13 18,oQ 20 11 19,oM 4 20] .ret))⟩
theorem A79:A5 Tryz.prog 219=some A2a:=by kernel_rfl
theorem Ae {P:Program} {env:Env} {N:St} {K:Kt} {r:List Op1} {d:Option Nat} {D:Bool} {f:Nat} {args:List GV} {b:Bool} (h:Ret P f args N (.bool b) N) (ht:b=true->Ab D P r K (upo env d (.bool true)) N) (hf:b=false->Ab D P r K (upo env d (.bool false)) N):Xz D f args P r K env d N:=by
 cases b with
 |true=>exact A7 h (ht rfl)
 |false=>exact A7 h (hf rfl)
def inB (n a b:Int):Bool:=decide (a<=n)&&decide (n<=b)
theorem A8u {n a b:Int}:inB n a b=true↔a<=n/\n<=b:=by simp[inB]
theorem Bl (N:St) (n a b:Int):Ret Tryz.prog 128 [gi n,gi a,gi b] N (.bool (inB n a b)) N:=by
 refine Af A75 (Z0z rfl) trivial ?_
 simp +contextual (disch:=omega) only[go_sem,A22,inB]
theorem Ar (N:St) (n a b:Int):Ret Tryz.prog 109 [gi n,gi a,gi b] N (.bool (inB n a b)) N:=by
 refine Af A4d (Z0z rfl) trivial ?_
 simp +contextual (disch:=omega) only[go_sem,Vm,inB]
def bl (s:ByteArray):List UInt8:=s.data.toList
theorem I6 (s:ByteArray):(bl s).length=s.size:=by
 unfold bl;rw[Array.length_toList];rfl
theorem A8v {s:ByteArray} {i:Nat} (hi:i<(bl s).length):idxG (.str s) (some i)=some (.int .u8 (((bl s)[i].toNat:Nat):Int)):=by
 have h2:i<s.size:=by rw[<- I6];exact hi
 have e:s[i]? =some (bl s)[i]:=by
  rw[getElem?_pos s i h2];rfl
 simp only[idxG,e,Zap];rfl
theorem u8_lt (b:UInt8):b.toNat<256:=b.toNat_lt
def lowB (b:UInt8):Bool:=inB (b.toNat:Int) 97 122
def Db (s:ByteArray):Bool:=(bl s).all lowB&&inB s.size 1 8
theorem Dc (N:St) (s:ByteArray) (hs:s.size<=1099511627776):Ret Tryz.prog 129 [.str s] N (.bool (Db s)) N:=by
 refine Af A4e (Z0z rfl) trivial ?_
 simp +contextual (disch:=omega) only[go_sem,Vo]
 refine Aw (bl s).length 3 (fun i env U=>env 0= .str s/\((bl s).take i).all lowB=true/\N <+: U) rfl ⟨rfl,rfl,Zab _⟩ ?_ ?_
 ·rintro i env U hi e3 c0 ⟨e0,ha,hp⟩
  have hl:=I6 s
  rw[hl] at c0
  have hf:=fun h=>Ca (p:=lowB) hi h
  have ht:=Bu hi ha
  simp +contextual (disch:=omega) only[go_sem,c0,e0,e3,A8v hi,hp]
  simp only[lowB,inB,Db] at*
  generalize(((bl s)[i].toNat:Nat):Int)=b at*
  grind
 ·rintro env U e3 c0 ⟨e0,ha,hp⟩
  rw[Zac] at ha
  rw[I6] at c0 e3
  simp +contextual (disch:=omega) only[go_sem,c0,e0,e3]
  refine A7 (Bl U _ _ _) ?_
  simp +contextual (disch:=omega) only[go_sem,Db,ha,hp]
theorem Bs (N:St) (s:ByteArray) (hs:s.size<=1099511627776):Ret Tryz.prog 108 [.str s] N (.bool (Db s)) N:=by
 refine Af A4f (Z0z rfl) trivial ?_
 simp +contextual (disch:=omega) only[go_sem,Vq]
 refine Aw (bl s).length 3 (fun i env U=>env 0= .str s/\((bl s).take i).all lowB=true/\N <+: U) rfl ⟨rfl,rfl,Zab _⟩ ?_ ?_
 ·rintro i env U hi e3 c0 ⟨e0,ha,hp⟩
  have hl:=I6 s
  rw[hl] at c0
  have hf:=fun h=>Ca (p:=lowB) hi h
  have ht:=Bu hi ha
  have h8:=u8_lt (bl s)[i]
  simp +contextual (disch:=omega) only[go_sem,c0,e0,e3,A8v hi,Abw]
  refine Ae (Ar U _ _ _) (fun h=> ?_) (fun h=> ?_)
  ·simp +contextual (disch:=omega) only[go_sem,e0,e3,hp]
   exact ht h
  ·simp +contextual (disch:=omega) only[go_sem,e0,e3,hp]
   simp[Db,hf h]
 ·rintro env U e3 c0 ⟨e0,ha,hp⟩
  rw[Zac] at ha
  rw[I6] at c0 e3
  simp +contextual (disch:=omega) only[go_sem,c0,e0,e3]
  refine A7 (Ar U _ _ _) ?_
  simp +contextual (disch:=omega) only[go_sem,Db,ha,hp]
def seqB (n:Int):Bool:=inB n 0 1000
def okK (l:List Int):Bool:=l.all seqB&&decide (l.length=3)
theorem Ac9 {l:List Int} (h:okK l=true):l.length=3:=by
 simp only[okK,Zaj,decide_eq_true_eq] at h
 exact h.2
theorem O9 (N:St) (v:GV) (l:List Int) (h:RS pI.kd N v l) (hl:l.length<=1099511627776):Ret Tryz.prog 146 [v] N (.bool (okK l)) N:=by
 refine Af A4g (Z0z rfl) trivial ?_
 simp +contextual (disch:=omega) only[go_sem,Vs]
 refine Aw l.length 3 (fun i env U=>env 0=v/\(l.take i).all seqB=true/\N <+: U) rfl ⟨rfl,rfl,Zab _⟩ ?_ ?_
 ·rintro i env U hi e3 c0 ⟨e0,ha,hp⟩
  have hf:=fun h=>Ca (p:=seqB) hi h
  have ht:=Bu hi ha
  simp +contextual (disch:=omega) only[go_sem,c0,e0,e3,h.len,Fm (h.pre hp) hi]
  refine Ae (Bl U _ _ _) (fun h=> ?_) (fun h=> ?_)
  ·simp +contextual (disch:=omega) only[go_sem,e0,e3,hp]
   exact ht h
  ·simp +contextual (disch:=omega) only[go_sem,e0,e3,hp]
   simp[okK,hf h]
 ·rintro env U e3 c0 ⟨e0,ha,hp⟩
  rw[Zac] at ha
  simp +contextual (disch:=omega) only[go_sem,c0,e0,e3,h.len,hp,okK,ha]
  exact A8j
theorem Oa (N:St) (v:GV) (l:List Int) (h:RS pI.kd N v l) (hl:l.length<=1099511627776):Ret Tryz.prog 238 [v] N (.bool (okK l)) N:=by
 refine Af A4h (Z0z rfl) trivial ?_
 simp +contextual (disch:=omega) only[go_sem,Vu,h.len]
 refine Aw l.length 7 (fun i env U=>env 0=v/\env 5=v/\env 6=gi l.length/\(l.take i).all seqB=true/\N <+: U) rfl ⟨rfl,rfl,rfl,rfl,Zab _⟩ ?_ ?_
 ·rintro i env U hi e7 c0 ⟨e0,e5,e6,ha,hp⟩
  have hf:=fun h=>Ca (p:=seqB) hi h
  have ht:=Bu hi ha
  simp +contextual (disch:=omega) only[go_sem,c0,e0,e5,e6,e7,h.len,Fm (h.pre hp) hi]
  refine Ae (Ar U _ _ _) (fun h=> ?_) (fun h=> ?_)
  ·simp +contextual (disch:=omega) only[go_sem,e0,e5,e6,e7,hp]
   exact ht h
  ·simp +contextual (disch:=omega) only[go_sem,e0,e5,e6,e7,hp]
   simp[okK,hf h]
 ·rintro env U e7 c0 ⟨e0,e5,e6,ha,hp⟩
  rw[Zac] at ha
  simp +contextual (disch:=omega) only[go_sem,c0,e0,e5,e6,e7,h.len,hp,okK,ha]
  exact A8j
def Ho (d:Dot):Bool:=inB d.rep 0 2&&inB d.seq 1 1000
theorem A2b {d:Dot}:Ho d=true↔(0<=d.rep/\d.rep<=2)/\1<=d.seq/\d.seq<=1000:=by simp[Ho,A8u]
theorem Hc (N:St) (d:Dot):Ret Tryz.prog 190 [.agg [gi d.rep,gi d.seq]] N (.bool (Ho d)) N:=by
 refine Af A76 (Z0z rfl) trivial ?_
 simp +contextual (disch:=omega) only[go_sem,A24]
 refine Ae (Bl _ _ _ _) (fun h=> ?_) (fun h=> ?_)
 ·simp +contextual (disch:=omega) only[go_sem]
  refine A7 (Bl _ _ _ _) ?_
  simp +contextual (disch:=omega) only[go_sem,Ho,h]
 ·simp +contextual (disch:=omega) only[go_sem,Ho,h]
theorem A4i (N:St) (d:Dot):Ret Tryz.prog 260 [.agg [gi d.rep,gi d.seq]] N (.bool (Ho d)) N:=by
 refine Af A77 (Z0z rfl) trivial ?_
 simp +contextual (disch:=omega) only[go_sem,A26]
 refine Ae (Ar _ _ _ _) (fun h=> ?_) (fun h=> ?_)
 ·simp +contextual (disch:=omega) only[go_sem]
  refine A7 (Ar _ _ _ _) ?_
  simp +contextual (disch:=omega) only[go_sem,Ho,h]
 ·simp +contextual (disch:=omega) only[go_sem,Ho,h]
def at0 (l:List Int) (r:Int):Int:=l.getD r.toNat 0
def I7 (k:List Int) (d:Dot):Bool:=okK k&&Ho d&&decide (d.seq<=at0 k d.rep)
theorem A8w {k:IntKind} {n:Int} (h:0<=n):Az (some (.int k n))=some n.toNat:=by simp[Az,h]
theorem Aax {N:St} {v:GV} {l:List Int} {r:Int} (h:RS pI.kd N v l) (hk:okK l=true) (h0:0<=r) (h2:r<=2):(Az (some (gi r))=some r.toNat/\iadG 1 v (some r.toNat)=some (atz 1 v r.toNat))/\ldG false 1 N (atz 1 v r.toNat)=some (gi (at0 l r)):=by
 have hl:=Ac9 hk
 have hi:r.toNat<l.length:=by omega
 have e:=Fm h hi
 refine⟨⟨A8w h0,e.1⟩,?_⟩
 rw[e.2,at0,List.getD_eq_getElem?_getD,Zav hi];rfl
theorem Qy (N:St) (v:GV) (k:List Int) (d:Dot) (h:RS pI.kd N v k) (hl:k.length<=1099511627776):Ret Tryz.prog 97 [v,.agg [gi d.rep,gi d.seq]] N (.bool (I7 k d)) N:=by
 refine Af A78 (Z0z rfl) trivial ?_
 simp +contextual (disch:=omega) only[go_sem,A28]
 have h1:=h.pre (pre1 N (some (Blk.row 1 [gi d.rep,gi d.seq])))
 refine Ae (O9 _ v k h1 hl) (fun hk=> ?_) (fun hk=> ?_)
 ·simp +contextual (disch:=omega) only[go_sem]
  refine Ae (Hc _ d) (fun hd=> ?_) (fun hd=> ?_)
  ·have hd':=A2b.1 hd
   have hr:=Aax h1 hk hd'.1.1 hd'.1.2
   simp +contextual (disch:=omega) only[go_sem,hr,I7,hk,hd]
  ·simp +contextual (disch:=omega) only[go_sem,I7,hk,hd]
 ·simp +contextual (disch:=omega) only[go_sem,I7,hk]
theorem Qz (N:St) (v:GV) (k:List Int) (d:Dot) (h:RS pI.kd N v k) (hl:k.length<=1099511627776):Ret Tryz.prog 219 [v,.agg [gi d.rep,gi d.seq]] N (.bool (I7 k d)) N:=by
 refine Af A79 (Z0z rfl) trivial ?_
 simp +contextual (disch:=omega) only[go_sem,A2a]
 have h1:=h.pre (pre1 N (some (Blk.row 1 [gi d.rep,gi d.seq])))
 refine Ae (Oa _ v k h1 hl) (fun hk=> ?_) (fun hk=> ?_)
 ·simp +contextual (disch:=omega) only[go_sem]
  refine Ae (A4i _ d) (fun hd=> ?_) (fun hd=> ?_)
  ·have hd':=A2b.1 hd
   have hr:=Aax h1 hk hd'.1.1 hd'.1.2
   simp +contextual (disch:=omega) only[go_sem,hr,I7,hk,hd]
  ·simp +contextual (disch:=omega) only[go_sem,I7,hk,hd]
 ·simp +contextual (disch:=omega) only[go_sem,I7,hk]
theorem u8_at {N:St} {v:GV} {l:List Int} (h:RS pB.kd N v l):((elems N 1 v).bind fun r=>(Cn r.2).map fun bs=>GV.str ⟨bs.toArray⟩)=some (.str (txt l)):=Aas h
theorem Aa4 {Y β:Type} {f:Y->β} {l:List Y} {i:Nat} (h:i<l.length):(l.take (i+1)).map f=(l.take i).map f++[f l[i]]:=by rw[B7 h,Za2];rfl
theorem Fp:∀(x y:List UInt8),Op.bytesLess x y=decide (x<y)
 |_,[]=>by simp[Op.bytesLess]
 |[],_::_=>by simp[Op.bytesLess]
 |a::x,b::y=>by
  rw[Op.bytesLess,Fp x y,Zal]
  simp only[Zaw,decide_eq_true_eq,Zaj,beq_iff_eq,List.cons_lt_cons_iff]
def txLt (a b:ByteArray):Bool:=Op.bytesLess a.toList b.toList
theorem A7a {a b:ByteArray} (h:a.toList=b.toList):a=b:=by
 have:=Gc (a:=a) (b:=b)
 rw[h] at this
 simpa using this.symm
theorem Hd (a:ByteArray):txLt a a=false:=by
 rw[txLt,Fp];simp
theorem Iv {a b c:ByteArray} (h1:txLt a b=true) (h2:txLt b c=true):txLt a c=true:=by
 rw[txLt,Fp,decide_eq_true_eq] at*
 exact List.lt_trans h1 h2
theorem A2c {a b:ByteArray} (h1:txLt a b=true):txLt b a=false:=by
 cases h:txLt b a with
 |false=>rfl
 |true=>have:=Iv h1 h;rw[Hd] at this;cases this
theorem Kq {a b:ByteArray} (h1:txLt a b=false) (h2:txLt b a=false):a=b:=by
 rw[txLt,Fp,decide_eq_false_iff_not] at*
 exact A7a (List.le_antisymm (List.not_lt.1 h2) (List.not_lt.1 h1))
@[go_sem] theorem bin_slss {a b:ByteArray}:binG .lss (.str a) (.str b)=some (.bool (txLt a b)):=(rfl)
@[go_sem] theorem bin_sgtr {a b:ByteArray}:binG .gtr (.str a) (.str b)=some (.bool (txLt b a)):=by
 have:(!(txLt a b||decide (a=b)))=txLt b a:=by
  by_cases h:a=b
  ·subst h;simp[Hd]
  ·cases h1:txLt a b with
   |true=>rw[A2c h1];simp
   |false=>
    cases h2:txLt b a with
    |true=>simp[h]
    |false=>exact absurd (Kq h1 h2) h
 simp only[binG,strG,Gc]
 exact congrArg (fun b=>some (GV.bool b)) this
def cmpI (a b:Int):Int:=if a<b then -1 else if b<a then 1 else 0
def cmpS (a b:ByteArray):Int:=if txLt a b then -1 else if txLt b a then 1 else 0
def orI (a b:Int):Int:=if a=0 then b else a
def Ra (a b:Dot):Int:=orI (cmpI a.rep b.rep) (cmpI a.seq b.seq)
def Pe (a b:Tally):Int:=orI (cmpS a.obj b.obj) (cmpI a.rep b.rep)
def D7 (a b:Dot):Bool:=decide (a.rep<b.rep)||decide (a.rep=b.rep)&&decide (a.seq<b.seq)
def He (a b:Tally):Bool:=txLt a.obj b.obj||decide (a.obj=b.obj)&&decide (a.rep<b.rep)
theorem A2d {a b:Dot}:decide (Ra a b<0)=D7 a b:=by
 unfold Ra D7 orI cmpI
 rw[Zal]
 simp only[decide_eq_true_eq,Zaw,Zaj]
 repeat' split
 all_goals omega
theorem Rb {a b:Dot}:decide (0<=Ra a b)= !D7 a b:=by
 rw[<- A2d,Zal];simp
theorem Aca {a b:Int}:cmpI a b=0↔a=b:=by
 unfold cmpI
 rcases Zbg a b with h|h|h
 ·rw[if_pos h];omega
 ·subst h;simp
 ·rw[if_neg (by omega),if_pos h];omega
theorem A61 {a b:Int}:cmpI a b<0↔a<b:=by
 unfold cmpI
 rcases Zbg a b with h|h|h
 ·rw[if_pos h];omega
 ·subst h;simp
 ·rw[if_neg (by omega),if_pos h];omega
theorem Aa5 {a b:ByteArray}:cmpS a b<0↔txLt a b=true:=by
 unfold cmpS
 cases h1:txLt a b with
 |true=>simp
 |false=>
  cases h2:txLt b a with
  |true=>simp
  |false=>simp
theorem A8x {a b:ByteArray}:cmpS a b=0↔a=b:=by
 unfold cmpS
 cases h1:txLt a b with
 |true=>
  have h3:a≠b:=fun e=>by rw[e,Hd] at h1;cases h1
  simp[h3]
 |false=>
  cases h2:txLt b a with
  |true=>
   have h3:a≠b:=fun e=>by rw[e,Hd] at h2;cases h2
   simp[h3]
  |false=>simp[Kq h1 h2]
theorem A4j {a b:Tally}:decide (Pe a b<0)=He a b:=by
 unfold Pe He orI
 rw[Zal]
 simp only[decide_eq_true_eq,Zaw,Zaj]
 by_cases h:a.obj=b.obj
 ·rw[if_pos (A8x.2 h),A61,h,Hd];simp
 ·rw[if_neg (fun e=>h (A8x.1 e)),Aa5];simp[h]
theorem A4k {a b:Tally}:decide (0<=Pe a b)= !He a b:=by
 rw[<- A4j,Zal];simp
theorem Rc (a:Dot):D7 a a=false:=by simp[D7]
theorem A4l {a b c:Dot} (h1:D7 a b=true) (h2:D7 b c=true):D7 a c=true:=by
 simp only[D7,Zaw,Zaj,decide_eq_true_eq] at *;omega
def allR (n:Nat) (p:Nat->Bool):Bool:=(List.range n).all p
theorem Iw {n:Nat} {p:Nat->Bool}:allR n p=true↔∀ i,i<n->p i=true:=by simp[allR]
theorem M6 {n i:Nat} {p:Nat->Bool} (hi:i<n) (h:p i=false):allR n p=false:=by
 cases e:allR n p with
 |false=>rfl
 |true=>rw[Iw.1 e i hi] at h;cases h
theorem Ix {n:Nat} {p:Nat->Bool} (h:∀ i,i<n->p i=true):allR n p=true:=Iw.2 h
theorem Cc {i:Nat} {p:Nat->Bool} (h:∀ j,j<i->p j=true) (hi:p i=true):∀ j,j<i+1->p j=true:=fun j hj=>by
 rcases Zbh j i with h1|h1
 ·exact h j h1
 ·have:j=i:=by omega
  subst this;exact hi
def onI {Y:Type} (l:List Y) (i:Nat) (p:Y->Bool):Bool:=match l[i]? with
 |some x=>p x
 |none=>true
theorem Bx {Y:Type} {l:List Y} {i:Nat} {p:Y->Bool} (hi:i<l.length):onI l i p=p l[i]:=by
 simp only[onI,Zav hi]
def upI {Y:Type} (lt:Y->Y->Bool) (l:List Y):Nat->Bool
 |0=>true
 |i+1=>onI l i fun a=>onI l (i+1) fun b=>lt a b
theorem Ja {Y:Type} {lt:Y->Y->Bool} {l:List Y} {i:Nat} (h0:i≠0) (hi:i<l.length) (hj:i - 1<l.length):upI lt l i=lt l[i - 1] l[i]:=by
 cases i with
 |zero=>exact absurd rfl h0
 |succ i=>
  simp only[upI,Zbe]
  rw[Bx (by omega),Bx hi]
theorem Aa6 {Y:Type} {lt:Y->Y->Bool} (ht:∀ a b c,lt a b=true->lt b c=true->lt a c=true) {l:List Y} (h:∀ i,i<l.length->upI lt l i=true):l.Pairwise fun a b=>lt a b=true:=by
 have key:∀(j i:Nat) (hi:i<l.length) (hj:j<l.length),i<j->lt l[i] l[j]=true:=by
  intro j
  induction j with
  |zero=>intro i hi hj h;omega
  |succ j ih=>
   intro i hi hj hij
   have h1:=h (j+1) hj
   rw[Ja (by omega) hj (by omega)] at h1
   simp only[Zbe] at h1
   rcases Zbh i j with h2|h2
   ·exact ht _ _ _ (ih i hi (by omega) h2) h1
   ·have:i=j:=by omega
    subst this;exact h1
 rw[Za6]
 exact fun i j hi hj hij=>key j i hi hj hij
def tal1 (t:Tally):Bool:=Db t.obj&&(inB t.rep 0 2&&inB t.sum 0 999999)
def talP (l:List Tally) (i:Nat):Bool:=onI l i tal1&&upI He l i
def I8 (l:List Tally):Bool:=allR l.length (talP l)&&decide (l.length<=120)
def liv1 (x:Live):Bool:=Db x.obj&&(Db x.key&&(inB x.val 0 999999&&(x.map||decide (x.val=0))))
def Hk (a b:Live):Bool:=D7 a.dot b.dot
def livP (l:List Live) (k:List Int) (i:Nat):Bool:=(onI l i fun x=>I7 k x.dot)&&((onI l i liv1)&&upI Hk l i)
def Vv (l:List Live) (k:List Int):Bool:=allR l.length (livP l k)&&decide (l.length<=120)
def A7b (l:List Live) (i:Nat):Bool:=(onI l i fun x=>Ho x.dot)&&((onI l i liv1)&&upI Hk l i)
def A7c (l:List Live):Bool:=allR l.length (A7b l)&&decide (l.length<=120)
def cel1 (x:Cell):Bool:=Db x.obj&&(inB x.val 0 999999&&inB x.time 1 10000)
def I9 (a b:Cell):Bool:=D7 a.dot b.dot
def celP (l:List Cell) (k:List Int) (i:Nat):Bool:=(onI l i fun x=>I7 k x.dot)&&((onI l i cel1)&&upI I9 l i)
def Kr (l:List Cell) (k:List Int):Bool:=allR l.length (celP l k)&&decide (l.length<=120)
def refD (x:Cell):Bool:=decide (x.ref=⟨0,0⟩)||Ho x.ref
def A7d (l:List Cell) (i:Nat):Bool:=(onI l i fun x=>Ho x.dot)&&((onI l i cel1)&&((onI l i refD)&&upI I9 l i))
def A7e (l:List Cell):Bool:=allR l.length (A7d l)&&decide (l.length<=120)
def Ew (l:List Cell) (d:Dot):Option Nat:=l.findIdx? fun c=>decide (c.dot=d)
def ref1 (l:List Cell) (c:Cell):Bool:=decide (c.ref=⟨0,0⟩)||match Ew l c.ref with
 |none=>false
 |some k=>onI l k fun y=>decide (y.obj=c.obj)&&decide (y.time<c.time)
def Vw (l:List Cell):Bool:=l.all (ref1 l)
def Cp (s:State):Bool:=okK s.know&&(I8 s.tallies&&(Vv s.lives s.know&&(Kr s.cells s.know&&Vw s.cells)))
def livK (k:List Int) (x:Live):Bool:=I7 k x.dot
def celK (l:List Cell) (k:List Int) (x:Cell):Bool:=I7 k x.dot&&ref1 l x
def D6 (s:State):Bool:=okK s.know&&(I8 s.tallies&&(A7c s.lives&&(A7e s.cells&&(s.lives.all (livK s.know)&&s.cells.all (celK s.cells s.know)))))
theorem Ks {k:List Int} {d:Dot} (h:I7 k d=true):Ho d=true:=by
 simp only[I7,Zaj] at h;exact h.1.2
theorem Ff {l:List Cell} {d:Dot} {k:Nat} (h:Ew l d=some k):∃ hk:k<l.length,l[k].dot=d:=by
 obtain⟨hk,h1,_⟩:=Zax.1 h
 exact⟨hk,by simpa using h1⟩
theorem Acb {Y:Type} {l:List Y} {p:Y->Bool}:l.all p=allR l.length fun i=>onI l i p:=by
 rw[Zal,Iw,List.all_eq_true]
 constructor
 ·intro h i hi;rw[Bx hi];exact h _ (Zak hi)
 ·intro h x hx
  obtain⟨i,hi,rfl⟩:=Zat hx
  have:=h i hi
  rwa [Bx hi] at this
theorem A4m (s:State):D6 s=Cp s:=by
 unfold D6 Cp
 cases h1:okK s.know with
 |false=>rfl
 |true=>
  cases h2:I8 s.tallies with
  |false=>rfl
  |true=>
   simp only[Bool.true_and]
   rw[Zal]
   simp only[Zaj,A7c,Vv,A7e,Kr,Vw,Acb,Iw,decide_eq_true_eq,A7b,livP,A7d,celP]
   constructor
   ·rintro⟨⟨hl,hl2⟩,⟨hc,hc2⟩,hlk,hck⟩
    refine⟨⟨fun i hi=>⟨hlk i hi,(hl i hi).2⟩,hl2⟩,⟨fun i hi=> ?_,hc2⟩,fun i hi=> ?_⟩
    ·have:=hck i hi
     have h4:=hc i hi
     rw[Bx hi,celK] at this
     simp only[Zaj] at this
     exact⟨by rw[Bx hi];exact this.1,h4.2.1,h4.2.2.2⟩
    ·have:=hck i hi
     rw[Bx hi] at this ⊢
     rw[celK] at this
     simp only[Zaj] at this
     exact this.2
   ·rintro⟨⟨hl,hl2⟩,⟨hc,hc2⟩,hr⟩
    refine⟨⟨fun i hi=>⟨?_,(hl i hi).2⟩,hl2⟩,⟨fun i hi=>⟨?_,(hc i hi).2.1,?_,(hc i hi).2.2⟩,hc2⟩,fun i hi=>(hl i hi).1,fun i hi=> ?_⟩
    ·have:=(hl i hi).1
     rw[Bx hi] at this ⊢
     exact Ks this
    ·have:=(hc i hi).1
     rw[Bx hi] at this ⊢
     exact Ks this
    ·have:=hr i hi
     rw[Bx hi] at this ⊢
     unfold ref1 at this
     unfold refD
     simp only[Zaw] at this ⊢
     refine this.imp id fun h=> ?_
     split at h
     ·cases h
     ·rename_i k hk
      obtain⟨hkl,e⟩:=Ff hk
      have:=(hc k hkl).1
      rw[Bx hkl,e] at this
      exact Ks this
    ·have h5:=(hc i hi).1
     have h6:=hr i hi
     rw[Bx hi] at h5 h6 ⊢
     rw[celK,h5,h6];rfl
theorem A8y {l:List Cell} {k:List Int} (h:Kr l k=true):l.Pairwise fun a b=>D7 a.dot b.dot=true:=by
 simp only[Kr,Zaj,Iw,celP] at h
 exact Aa6 (lt:=I9) (fun a b c h1 h2=>A4l h1 h2) fun i hi=>(h.1 i hi).2.2
def plc:Nat->List Cell->List (Dot×Int)
 |_,[]=>[]
 |n,c::l=>(c.dot,(n:Int))::plc (n+1) l
theorem A62 (c:Cell):∀(n:Nat) (l:List Cell),plc n (l++[c])=plc n l++[(c.dot,((n+l.length:Nat):Int))]
 |n,[]=>rfl
 |n,x::l=>by
  simp only[Zbi,plc,A62 c (n+1) l,Za0]
  rw[show n+1+l.length=n+(l.length+1) by omega]
theorem Re (d:Dot):∀(n:Nat) (l:List Cell),Iz (plc n l) d=(Ew l d).map fun k=>((n+k:Nat):Int)
 |n,[]=>rfl
 |n,x::l=>by
  have ih:=Re d (n+1) l
  unfold Ew at*
  rw[List.findIdx?_cons]
  by_cases h:x.dot=d
  ·subst h;simp[plc,Iz]
  ·have h':d≠x.dot:=fun e=>h e.symm
   have e:Iz (plc n (x::l)) d=Iz (plc (n+1) l) d:=by simp[plc,Iz,h']
   rw[e,ih]
   simp only[h,decide_false,Zbd,if_false,Option.map_map]
   congr 1
   funext k
   simp only[Function.comp]
   omega
theorem Acc {l:List Cell} (h:l.Pairwise fun a b=>D7 a.dot b.dot=true) {i:Nat} (hi:i<l.length):Iz (plc 0 (l.take i)) l[i].dot=none:=by
 rw[Re]
 have:Ew (l.take i) l[i].dot=none:=by
  unfold Ew
  rw[Za7]
  intro c hc
  obtain⟨j,hj,rfl⟩:=Zat hc
  rw[Zbj] at hj
  rw[List.getElem_take]
  have:=Za6.1 h j i (by omega) hi (by omega)
  simp only[decide_eq_false_iff_not]
  intro e
  rw[e,Rc] at this;cases this
 rw[this];rfl
theorem Aa7 {l:List Cell} {i:Nat} (hi:i<l.length):plc 0 (l.take (i+1))=plc 0 (l.take i)++[(l[i].dot,(i:Int))]:=by
 rw[B7 hi,A62,Zbj,show 0+min i l.length=i by omega]
def Gg (l:List Cell) (d:Dot):Int:=match Ew l d with
 |some k=>k
 |none=> -1
theorem A4n {l:List Cell} {d:Dot} {i:Nat} (hi:i<l.length) (h:∀ j (hj:j<i),(l[j]'(by omega)).dot≠d) (he:l[i].dot=d):Ew l d=some i:=by
 unfold Ew
 rw[Zax]
 exact⟨hi,by simpa using he,fun j hj=>by simpa using h j hj⟩
theorem A4o {l:List Cell} {d:Dot} (h:∀ j (hj:j<l.length),l[j].dot≠d):Ew l d=none:=by
 unfold Ew
 rw[Za7]
 intro c hc
 obtain⟨j,hj,rfl⟩:=Zat hc
 simpa using h j hj
@[go_sem] theorem bit_tup2 {l:List GV}:(GV.tup l).bit=none:=(rfl)
theorem Rf {P:Program} {D:Bool} {os:List Op1}:∀ {K:Env->St->Prop} {env:Env} {N:St},Ab D P os K env N->Ab D P os (fun env' N'=>K env' N'/\N.length<=N'.length) env N:=by
 induction os with
 |nil=>intro K env N h;exact⟨h,Zai _⟩
 |cons o r ih=>
  intro K env N h
  simp only[Ab] at h ⊢
  split at h
  ·rename_i hw
   rw[if_pos hw]
   obtain⟨v,N',hs,hp,hk⟩:=h
   refine⟨v,N',hs,hp,B8 (ih hk) fun env' N1 hq=>⟨hq.1,?_⟩⟩
   have:=Pa hs
   omega
  ·rename_i hw
   rw[if_neg hw]
   exact ih h
theorem vc_len {P:Program} {d:Cd}:∀ {Q:Ex->Env->St->Prop} {env:Env} {N:St},vc P d Q env N->vc P d (fun e env' N'=>Q e env' N'/\N.length<=N'.length) env N:=by
 induction d with
 |skip=>intro Q env N h;exact⟨h,Zai _⟩
 |reg ops=>intro Q env N h;exact Rf h
 |drw xs ys=>
  intro Q env N h
  refine B8 (Rf h) fun env1 N1 h1=>B8 (Rf h1.1) fun env2 N2 h2=>⟨h2.1,?_⟩
  have:=h1.2
  have:=h2.2
  omega
 |seq a b iha ihb=>
  intro Q env N h
  refine Ao (d:=a) (iha h) fun e env1 N1 he=> ?_
  cases e with
  |nxt=>exact Ao (ihb he.1) fun e env2 N2 h2=>⟨h2.1,Zan he.2 h2.2⟩
  |ext j=>exact he
  |ret=>exact he
 |cnd c a b iha ihb=>
  intro Q env N h
  obtain⟨t,ht,h1,h2⟩:=h
  exact⟨t,ht,fun e=>iha (h1 e),fun e=>ihb (h2 e)⟩
 |blk id a ih=>
  intro Q env N h
  refine Ao (d:=a) (ih h) fun e env1 N1 he=> ?_
  cases e with
  |nxt=>exact he
  |ext j=>
   obtain⟨h1,h2⟩:=he
   simp only at h1 ⊢
   split at h1
   ·rename_i hj;rw[if_pos hj];exact⟨h1,h2⟩
   ·rename_i hj;rw[if_neg hj];exact⟨h1,h2⟩
  |ret=>exact he
 |lop a ih=>
  intro Q env N h
  obtain⟨I,μ,hI,hs⟩:=h
  refine⟨fun env1 N1=>I env1 N1/\N.length<=N1.length,μ,⟨hI,Zai _⟩,fun env1 N1 hi=>Ao (ih (hs env1 N1 hi.1)) fun e env2 N2 he=> ?_⟩
  cases e with
  |nxt=>exact⟨⟨he.1.1,Zan hi.2 he.2⟩,he.1.2⟩
  |ext j=>exact⟨he.1,Zan hi.2 he.2⟩
  |ret=>exact⟨he.1,Zan hi.2 he.2⟩
 |ext id=>intro Q env N h;exact⟨h,Zai _⟩
 |ret=>intro Q env N h;exact⟨h,Zai _⟩
theorem Fg {P:Program} {f:Nat} {F:Fn1} {args:List GV} {N:St} {Post:GV->St->Prop} (hF:A5 P f=some F) (hl:args.length<=F.n)
  (h:vc P F.c (fun e env U=>Pq e=true/\∃ r,resG env U F.rs=some r/\Post r U) (env0 args) N):∃ r U,Ret P f args N r U/\Post r U:=
 Ak hF hl (Ao (vc_len h) fun e env U he=>⟨he.1.1,by obtain⟨⟨_,r,h1,h2⟩,h3⟩:=he;exact⟨r,h1,h3,h2⟩⟩)
def Ib:Fn1:=⟨6,[.t 2],(rg [oV 2 kf] (rg [oM 3 0,oM 4 0,oB 5 .neq 3 4,oM 2 5] .ret))⟩
theorem P2:A5 Tryz.prog 315=some Ib:=by kernel_rfl
def Fr:Fn1:=⟨6,[.t 2],(rg [oV 2 kf] (rg [oM 3 0,oM 4 0,oB 5 .neq 3 4,oM 2 5] .ret))⟩
theorem Jk:A5 Tryz.prog 317=some Fr:=by kernel_rfl
def Gi:Fn1:=⟨20,[.t 4],(rg [oV 4 (ki 0)] (rg [oM 7 0,oC 8 315 7,oM 5 8] (rg [oM 9 1,oC 10 315 9,oM 6 10] (.seq (rg [oM 11 5] (oG 11 (.seq (rg [oM 12 6] (oG 12 (oR 4 (ki 0)))) (rg [o 4 (.mov (ki (-1)))] .ret)))) (.seq (rg [oM 13 6] (oG 13 (oR 4 (ki 1)))) (.seq (rg [oM 14 0,oM 15 1,oB 16 .lss 14 15] (oG 16 (rg [o 4 (.mov (ki (-1)))] .ret))) (.seq (rg [oM 17 0,oM 18 1,oB 19 .gtr 17 18] (oG 19 (oR 4 (ki 1)))) (oR 4 (ki 0)))))))))⟩
theorem Ku:A5 Tryz.prog 296=some Gi:=by kernel_rfl
def Ez:Fn1:=⟨20,[.t 4],(rg [oV 4 (ki 0)] (rg [oM 7 0,oC 8 317 7,oM 5 8] (rg [oM 9 1,oC 10 317 9,oM 6 10] (.seq (rg [oM 11 5] (oG 11 (.seq (rg [oM 12 6] (oG 12 (oR 4 (ki 0)))) (rg [o 4 (.mov (ki (-1)))] .ret)))) (.seq (rg [oM 13 6] (oG 13 (oR 4 (ki 1)))) (.seq (rg [oM 14 0,oM 15 1,oB 16 .lss 14 15] (oG 16 (rg [o 4 (.mov (ki (-1)))] .ret))) (.seq (rg [oM 17 0,oM 18 1,oB 19 .gtr 17 18] (oG 19 (oR 4 (ki 1)))) (oR 4 (ki 0)))))))))⟩
theorem Ic:A5 Tryz.prog 295=some Ez:=by kernel_rfl
def Oc:Fn1:=⟨18,[.t 2],(rg [oV 2 (ki 0)] (rg [oV 3 (ki 0)] (.seq (rg [oM 6 0,oN 7 6,oV 8 (ki 0)] (oH 0 (rg [oB 9 .lss 8 7] (.seq (oJ 9 0) (.seq (.blk 1 (rg [oI 10 1 6 8,oL 11 10,oM 5 11] (rg [oM 12 5,oM 13 3,oB 14 .neq 12 13] (oG 14 (rg [oM 15 5,oM 2 15] .ret))))) (.reg [oZ 16 8 1,oM 8 16])))))) (rg [oM 17 3,oM 2 17] .ret))))⟩
theorem Zq:A5 Tryz.prog 294=some Oc:=by kernel_rfl
def Ie:Fn1:=⟨17,[.t 4],(rg [oX 2 0,oX 3 1,oV 4 (ki 0)] (dw [oF 5 0 2,oL 6 5,oF 7 0 3,oL 8 7,oD 9 296 6 8,oF 10 1 2,oL 11 10,oF 12 1 3,oL 13 12] [oD 14 296 11 13,o 15 (.lit 1 2 [z0,z0] [(0,1,(.t 9)),(1,1,(.t 14))]),oC 16 294 15,oM 4 16] .ret))⟩
theorem P3:A5 Tryz.prog 263=some Ie:=by kernel_rfl
def Ft:Fn1:=⟨17,[.t 4],(rg [oX 2 0,oX 3 1,oV 4 (ki 0)] (dw [oF 5 0 2,oL 6 5,oF 7 0 3,oL 8 7,oD 9 295 6 8,oF 10 1 2,oL 11 10,oF 12 1 3,oL 13 12] [oD 14 296 11 13,o 15 (.lit 1 2 [z0,z0] [(0,1,(.t 9)),(1,1,(.t 14))]),oC 16 294 15,oM 4 16] .ret))⟩
theorem Jl:A5 Tryz.prog 262=some Ft:=by kernel_rfl
def Kw:Fn1:=⟨24,[.t 4],(rg [oX 2 0,oX 3 1,oV 4 kf] (rg [oF 5 0 2,oL 6 5,oF 7 0 3,oL 8 7,oB 9 .lss 6 8,oM 10 9,vF 11 10 0 2,vL 12 10 11,vF 13 10 0 3,vL 14 10 13,vB 15 10 .eql 12 14,vM 16 10 15,jF 17 16 1 2,jL 18 16 17,jF 19 16 1 3,jL 20 16 19,jB 21 16 .lss 18 20,og 22 10 false (.pick (.t 16) (.t 21) kf),oP 23 10 22,oM 4 23] .ret))⟩
theorem Tg:A5 Tryz.prog 233=some Kw:=by kernel_rfl
theorem E6 (N:St) (a:Int):Ret Tryz.prog 315 [gi a] N (.bool false) N:=by
 refine Af P2 (Z0z rfl) trivial ?_
 simp +contextual (disch:=omega) only[go_sem,Ib,bne_self_eq_false]
theorem Cq (N:St) (a:ByteArray):Ret Tryz.prog 317 [.str a] N (.bool false) N:=by
 refine Af Jk (Z0z rfl) trivial ?_
 simp +contextual (disch:=omega) only[go_sem,Fr,decide_true,Bool.not_true]
theorem Bv (N:St) (a b:Int):Ret Tryz.prog 296 [gi a,gi b] N (gi (cmpI a b)) N:=by
 refine Af Ku (Z0z rfl) trivial ?_
 simp +contextual (disch:=omega) only[go_sem,Gi]
 refine A7 (E6 _ _) ?_
 simp +contextual (disch:=omega) only[go_sem]
 refine A7 (E6 _ _) ?_
 simp +contextual (disch:=omega) only[go_sem]
 unfold cmpI
 grind
theorem Hq (N:St) (a b:ByteArray):Ret Tryz.prog 295 [.str a,.str b] N (gi (cmpS a b)) N:=by
 refine Af Ic (Z0z rfl) trivial ?_
 simp +contextual (disch:=omega) only[go_sem,Ez]
 refine A7 (Cq _ _) ?_
 simp +contextual (disch:=omega) only[go_sem]
 refine A7 (Cq _ _) ?_
 simp +contextual (disch:=omega) only[go_sem]
 unfold cmpS
 grind
def orL:List Int->Int
 |[]=>0
 |x::l=>if x=0 then orL l else x
theorem G1 (N:St) (v:GV) (l:List Int) (h:RS pI.kd N v l) (hl:l.length<=1099511627776):Ret Tryz.prog 294 [v] N (gi (orL l)) N:=by
 refine Af Zq (Z0z rfl) trivial ?_
 simp +contextual (disch:=omega) only[go_sem,Oc,h.len]
 refine Aw l.length 8 (fun i env U=>env 3=gi 0/\env 6=v/\env 7=gi l.length/\orL (l.drop i)=orL l/\N <+: U) rfl ⟨rfl,rfl,rfl,rfl,Zab _⟩ ?_ ?_
 ·rintro i env U hi e8 c0 ⟨e3,e6,e7,hd,hp⟩
  rw[Za5 hi,orL] at hd
  simp +contextual (disch:=omega) only[go_sem,c0,e3,e6,e7,e8,Fm (h.pre hp) hi,hp]
  grind
 ·rintro env U e8 c0 ⟨e3,e6,e7,hd,hp⟩
  rw[List.drop_length] at hd
  simp +contextual (disch:=omega) only[go_sem,c0,e3,e6,e7,e8,hp]
  rw[<- hd];rfl
theorem A4p (a b:Int):orL [a,b]=orI a b:=by
 unfold orI
 simp only[orL]
 split
 ·split
  ·omega
  ·rfl
 ·rfl
theorem Ck (N:St) (a b:Dot):Ret Tryz.prog 263 [.agg [gi a.rep,gi a.seq],.agg [gi b.rep,gi b.seq]] N (gi (Ra a b)) N:=by
 refine Af P3 (Z0z rfl) trivial ?_
 simp +contextual (disch:=omega) only[go_sem,Ie]
 refine A7 (Bv _ _ _) ?_
 simp +contextual (disch:=omega) only[go_sem]
 refine A7 (Bv _ _ _) ?_
 simp +contextual (disch:=omega) only[go_sem]
 refine A7 (G1 _ _ [cmpI a.rep b.rep,cmpI a.seq b.seq] (A8m (p:=pI) _ _ rfl rfl rfl) (by simp)) ?_
 simp +contextual (disch:=omega) only[go_sem,A4p]
 rfl
theorem J0 (N:St) (a b:Tally):Ret Tryz.prog 262 [.agg [.str a.obj,gi a.rep,gi a.sum],.agg [.str b.obj,gi b.rep,gi b.sum]] N (gi (Pe a b)) N:=by
 refine Af Jl (Z0z rfl) trivial ?_
 simp +contextual (disch:=omega) only[go_sem,Ft]
 refine A7 (Hq _ _ _) ?_
 simp +contextual (disch:=omega) only[go_sem]
 refine A7 (Bv _ _ _) ?_
 simp +contextual (disch:=omega) only[go_sem]
 refine A7 (G1 _ _ [cmpS a.obj b.obj,cmpI a.rep b.rep] (A8m (p:=pI) _ _ rfl rfl rfl) (by simp)) ?_
 simp +contextual (disch:=omega) only[go_sem,A4p]
 rfl
theorem Do (N:St) (a b:Dot):Ret Tryz.prog 233 [.agg [gi a.rep,gi a.seq],.agg [gi b.rep,gi b.seq]] N (.bool (D7 a b)) N:=by
 refine Af Tg (Z0z rfl) trivial ?_
 simp +contextual (disch:=omega) only[go_sem,Kw]
 unfold D7
 grind
end Go.Proofs.YtnknigikcdgebaaGreatDoor.Sy
