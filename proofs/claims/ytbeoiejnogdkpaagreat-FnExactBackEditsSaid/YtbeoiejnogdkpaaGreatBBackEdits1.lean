/- Texts of this proof, one behind the other. -/
import Derived.Test.YtbeoiejnogdkpaaGreatBC
import Derived.Test.YtbeoiejnogdkpaaGreatProg
import Derived.KernelRfl
import Derived.Sort.AssemblyPlain
import Derived.Sort.LotD3
import Derived.Sort.LotD1
set_option linter.unusedSimpArgs false
set_option linter.unusedVariables false
set_option maxRecDepth 4000
namespace Go.Proofs.YtbeoiejnogdkpaaGreat.Sy
section
open Go Go.RowKit
def lf (n:Int) (m:Nat):Int:=if n - m<0 then -1 else n - m
theorem P1 {n:Int} {m:Nat}:lf n m<0↔n<m:=by unfold lf;split<;>omega
theorem I1 {n:Int} {m:Nat} (h:¬ lf n m<0):lf n m=n - m:=by unfold lf at *;split at h<;>first|omega|(rw [if_neg ‹_›])
theorem V2 {n:Int} {m:Nat} (h:0≤n):lf n m≤n:=by unfold lf;split<;>omega
theorem A8w {n:Int} {m:Nat}: -1≤lf n m:=by unfold lf;split<;>omega
def msL {α:Type} (f:α→Nat) (l:List α):Nat:=l.length+(l.map f).sum
def sumL {α:Type} (f:α→Nat) (l:List α):Nat:=(l.map f).sum
theorem Ru {α:Type} {f:α→Nat} {l:List α} {i:Nat} (h:i<l.length):sumL f (l.take (i+1))=sumL f (l.take i)+f l[i]:=by
 unfold sumL;rw[Bf h,List.map_append,List.sum_append];simp
theorem Kb {α:Type} (f:α→Nat) (l:List α) (i:Nat):sumL f (l.take i)≤sumL f l:=by
 have:sumL f l=sumL f (l.take i)+sumL f (l.drop i):=by
  conv=>lhs;rw[← List.take_append_drop i l]
  unfold sumL;rw[List.map_append,List.sum_append]
 omega
theorem Iy {α:Type} {f:α→Nat} {l:List α} {x:α} (h:x∈l):f x≤sumL f l:=by
 induction l with
 |nil=>simp at h
 |cons y l ih=>
  simp only[sumL,List.map_cons,List.sum_cons] at*
  rcases List.mem_cons.1 h with rfl|h
  ·omega
  ·have:=ih h;omega
theorem Aak {z i:Nat} {v:GV}:fld 0 (atz z v i)=atz z v i:=by
 cases v<;>rfl
theorem Qu {α:Type} (p:Pl α) (x:α) (n:Nat):reps n (p.enc x)=p.cells (List.replicate n x):=by
 unfold reps
 induction n with
 |zero=>rfl
 |succ n ih=>
  rw[List.replicate_succ,List.flatten_cons,ih,List.replicate_succ];rfl
theorem Mp {α:Type} {l:List α} {z:α} {i:Nat} (h:i<l.length):(l.take i++List.replicate (l.length - i) z).set i l[i]=l.take (i+1)++List.replicate (l.length - (i+1)) z:=by
 rw[Bf h,List.set_append_right _ _ (by simp;omega)]
 have e1:i - (l.take i).length=0:=by simp;omega
 rw[e1,show l.length - i=(l.length - (i+1))+1 by omega,List.replicate_succ,List.set_cons_zero,List.append_assoc]
 rfl
theorem Qv {α:Type} {l:List α} {z:α} {i:Nat} (h:i<l.length):i<(l.take i++List.replicate (l.length - i) z).length:=by simp;omega
theorem Qw {α:Type} {l:List α} {z:α}:l.take l.length++List.replicate (l.length - l.length) z=l:=by simp
def mkF {α:Type} (e:Int→α) (c:Nat) (k:Int) (n:Nat):List α:=(List.range n).map fun j:Nat=>e (k+c*j)
theorem Cg {α:Type} {e:Int→α} {c:Nat} {k:Int} {n:Nat}:(mkF e c k n).length=n:=by simp[mkF]
theorem A8x {α:Type} {e:Int→α} {c:Nat} {k:Int} {n j:Nat} (h:j<(mkF e c k n).length):(mkF e c k n)[j]=e (k+c*j):=by simp[mkF]
theorem Kc {α:Type} {l:List α} {e:Int→α} {c:Nat} {k:Int} {i:Nat} (h:i<l.length):((mkF e c k l.length).take i++l.drop i).set i (e (k+c*i))=(mkF e c k l.length).take (i+1)++l.drop (i+1):=by
 have hki:i<(mkF e c k l.length).length:=by rw[Cg];exact h
 rw[Bf hki,A8x,List.set_append_right _ _ (by simp[Cg];omega)]
 have e1:i - ((mkF e c k l.length).take i).length=0:=by simp[Cg];omega
 rw[e1,List.drop_eq_getElem_cons h,List.set_cons_zero,List.append_assoc]
 rfl
theorem Mq {α:Type} {l:List α} {e:Int→α} {c:Nat} {k:Int} {i:Nat}:((mkF e c k l.length).take i++l.drop i).length=l.length:=by simp[Cg];omega
theorem Mr {α:Type} {l:List α} {e:Int→α} {c:Nat} {k:Int}:(mkF e c k l.length).take l.length++l.drop l.length=mkF e c k l.length:=by
 rw[List.take_of_length_le (by rw[Cg];omega)];simp
namespace Hp
theorem sts {α:Type} {p:Pl α} {σ τ:St} {rs:List Thg} {v:GV} {L:List α} {j:Nat} {y:α} (H:Hp σ τ (ow p.kd v (L.set j y)::rs)) (hj:j<L.length) (n k:Nat) (x:GV) (y':α) (hx:x.cells.length=n) (hn:0<n) (hk:k+n≤p.z) (hy:p.enc y'=Al (p.enc y) k x.cells):
  ∃ τ',stG n τ (fld k (atz p.z v j)) x=some (.tup [],τ')∧Hp σ τ' (ow p.kd v (L.set j y')::rs):=by
 obtain⟨τ',e,h⟩:=H.ste 0 rfl (j:=j) (by simpa using hj) n k x y' hx hn hk (by rw[List.getElem_set_self];exact hy)
 refine⟨τ',e,?_⟩
 have h:Hp σ τ' (ow p.kd v ((L.set j y).set j y')::rs):=h
 rw[List.set_set] at h;exact h
end Hp
theorem Qy {α:Type} {l:List α} {i:Nat} (h:i<l.length):l=l.set i l[i]:=by rw[List.set_getElem_self]
def figs (n:Nat):List Int:=if n=0 then[] else figs (n / 10)++[48+((n % 10:Nat):Int)]
termination_by n
decreasing_by omega
def mtx (k:Int):ByteArray:=if k≤0 then⟨#[109,48]⟩ else⟨#[109]⟩++txt (figs k.toNat)
abbrev P2:Nat:=110
def P3:Fn1:=⟨20,[.t 2],(.seq (.reg [o 2 (.mov (.k (.str ⟨#[]⟩)))]) (.seq (.seq (.reg [o 4 (.mov (.t 0)),o 5 (.bin .leq (.t 4) (.k (.int .i64 0)))]) (.cnd (.t 5) (.seq (.reg [o 2 (.mov (.k (.str ⟨#[109,48]⟩)))]) .ret) .skip)) (.seq (.reg [o 3 (.mov (.k (.str ⟨#[]⟩)))]) (.seq (.blk 0 (.lop (.seq (.seq (.reg [o 6 (.mov (.t 0)),o 7 (.bin .gtr (.t 6) (.k (.int .i64 0)))]) (.cnd (.t 7) .skip (.ext 0))) (.blk 1 (.seq (.reg [o 8 (.mov (.t 0)),o 9 (.bin .rem (.t 8) (.k (.int .i64 10))),o 10 (.bin .add (.k (.int .i64 48)) (.t 9)),o 11 (.cvi .u8 (.t 10)),o 12 (.lit 1 1 [(.int .u8 0)] [(0,1,(.t 11))]),o 13 (.bts (.t 12)),o 14 (.mov (.t 3)),o 15 (.bin .add (.t 13) (.t 14)),o 3 (.mov (.t 15))]) (.reg [o 16 (.mov (.t 0)),o 17 (.bin .quo (.t 16) (.k (.int .i64 10))),o 0 (.mov (.t 17))])))))) (.seq (.reg [o 18 (.mov (.t 3)),o 19 (.bin .add (.k (.str ⟨#[109]⟩)) (.t 18)),o 2 (.mov (.t 19))]) .ret)))))⟩
theorem Yk:A5 Tryz.prog P2=some P3:=by kernel_rfl
theorem A3m (n:Nat):(figs n).length≤n:=by
 induction n using Nat.strongRecOn with
 |_ n ih=>
  unfold figs
  split
  ·simp
  ·have:=ih (n / 10) (by omega)
   simp;omega
theorem A5v (l:List Int):(txt l).size=l.length:=by simp[txt,ByteArray.size]
theorem Aal (n:Nat) (h:0<n) (s:List Int):figs (n / 10)++((48+((n % 10:Nat):Int))::s)=figs n++s:=by
 conv=>rhs;unfold figs
 rw[if_neg (by omega)];simp
theorem Ad7 {τ:St} {n:Int}:((elems (τ++[some (.row 1 [.int .u8 n])]) 1 (.sl τ.length 0 1)).bind fun r=>(E8 r.2).map fun bs=>GV.str ⟨bs.toArray⟩)=some (.str (txt [n])):=by
 refine bts_ok (.inr ⟨τ.length,0,[.int .u8 n],rfl,by unfold rdB;simp[Blk.cells],by show 0+1*1≤1;omega,fun i x hx=> ?_⟩)
 cases i with
 |zero=>simp at hx;subst hx;rfl
 |succ i=>simp at hx
theorem C8 (σ:St) (k:Int) (hk:k≤4611686018427387904):Ret Tryz.prog P2 [gi k] σ (.str (mtx k)) σ:=by
 refine Af Yk (Z0z rfl) trivial ?_
 simp +contextual (disch:=omega) only[go_sem,P3]
 refine⟨fun h=> ?_,fun h=> ?_⟩
 ·rw[mtx,if_pos (of_decide_eq_true h)]
 ·have h:=of_decide_eq_false h
  have hf:=A3m k.toNat
  refine Oz (fun q env τ=>∃(s:List Int),env 0=gi q∧q≤k.toNat∧env 3= .str (txt s)∧figs q++s=figs k.toNat∧σ <+: τ) k.toNat ⟨[],by show gi k=_;rw[Int.toNat_of_nonneg (by omega)],Nat.le_refl _,rfl,by simp,List.prefix_refl _⟩ ?_
  rintro m env τ ⟨s,e0,hmk,e3,hs,hp⟩
  have hsl:s.length≤k.toNat:=by have:=congrArg List.length hs;simp at this;omega
  rcases Nat.eq_zero_or_pos m with rfl|hm
  ·have hs':s=figs k.toNat:=by rw[← hs,figs];simp
   have hsz:(⟨#[109]⟩:ByteArray).size=1:=rfl
   have hle:1+s.length≤9223372036854775807:=by omega
   simp +contextual (disch:=omega) only[go_sem,e0,e3,hp,A5v,hsz,hle,Int.natCast_zero,Int.lt_irrefl]
   rw[mtx,if_neg h,hs']
  ·have hgt:decide (0<(m:Int))=true:=by simp;omega
   have hle:1+s.length≤9223372036854775807:=by omega
   have hm10:(m:Int).tmod 10=((m % 10:Nat):Int):=by rw[Int.tmod_eq_emod_of_nonneg (by omega)];omega
   have hd10:(m:Int).tdiv 10=((m / 10:Nat):Int):=by rw[Int.tdiv_eq_ediv_of_nonneg (by omega)];omega
   have h10:((10:Int)=0)=False:=by simp
   have hw8:IntKind.u8.wrap (48+((m % 10:Nat):Int))=48+((m % 10:Nat):Int):=wrap8 (by omega) (by omega)
   simp +contextual (disch:=omega) only[go_sem,e0,e3,hgt,h10,hm10,hd10,hw8,hle,Ad7,A5v,←A6t]
   refine⟨m / 10,by omega,_,rfl,by omega,rfl,?_,A1 hp _⟩
   rw[← hs,←Aal m hm]
end
section
open Go Go.RowKit
def msString (s:ByteArray):Nat:=s.size
def wString (s:ByteArray):Prop:=s.size≤9223372036854775807
def msIntS (l:List Int):Nat:=l.length
def wIntS (l:List Int):Prop:=l.length≤9223372036854775807
def By (x:Tally):Nat:=x.obj.size
def Rv (x:Tally):Prop:=x.obj.size≤9223372036854775807
def D7 (x:Live):Nat:=x.obj.size+x.key.size
def A6u (x:Live):Prop:=x.obj.size≤9223372036854775807∧x.key.size≤9223372036854775807
def E2 (x:Cell):Nat:=x.obj.size
def A3n (x:Cell):Prop:=x.obj.size≤9223372036854775807
def Vx (x:Edit):Nat:=x.obj.size+x.key.size
def wEdit (x:Edit):Prop:=x.obj.size≤9223372036854775807∧x.key.size≤9223372036854775807
def msWatch (x:Watch):Nat:=x.obj.size+x.key.size
def wWatch (x:Watch):Prop:=x.obj.size≤9223372036854775807∧x.key.size≤9223372036854775807
def msClash (x:Clash):Nat:=x.obj.size+x.key.size
def wClash (x:Clash):Prop:=x.obj.size≤9223372036854775807∧x.key.size≤9223372036854775807
def msFile (x:File):Nat:=x.text.size
def wFile (x:File):Prop:=x.text.size≤9223372036854775807
def Aam (x:Letter):Nat:=x.text.size
def Ad8 (x:Letter):Prop:=x.text.size≤9223372036854775807
def Ad9 (x:Event):Nat:=Vx x.edit
def wEvent (x:Event):Prop:=wEdit x.edit
def E9 (x:Act):Nat:=x.knew.length+x.obj.size+x.key.size
def wAct (x:Act):Prop:=x.knew.length≤9223372036854775807∧x.obj.size≤9223372036854775807∧x.key.size≤9223372036854775807
instance:DecidableEq Act:=fun a b=>if h:a.dot=b.dot∧a.time=b.time∧a.knew=b.knew∧a.kind=b.kind∧a.obj=b.obj∧a.key=b.key∧a.val=b.val∧a.ref=b.ref then isTrue (by cases a;cases b;simp only at h;obtain⟨rfl,rfl,rfl,rfl,rfl,rfl,rfl,rfl⟩:=h;rfl) else isFalse (fun e=>h (by subst e;exact⟨rfl,rfl,rfl,rfl,rfl,rfl,rfl,rfl⟩))
theorem Act.eq_iff {a b:Act}:a=b↔a.dot=b.dot∧a.time=b.time∧a.knew=b.knew∧a.kind=b.kind∧a.obj=b.obj∧a.key=b.key∧a.val=b.val∧a.ref=b.ref:=⟨fun h=>by subst h;exact⟨rfl,rfl,rfl,rfl,rfl,rfl,rfl,rfl⟩,fun h=>by cases a;cases b;simp only at h;obtain⟨rfl,rfl,rfl,rfl,rfl,rfl,rfl,rfl⟩:=h;rfl⟩
def Ac (x:State):Nat:=x.know.length+(x.tallies.length+sumL By x.tallies)+(x.lives.length+sumL D7 x.lives)+(x.cells.length+sumL E2 x.cells)
def A5w (x:State):Prop:=x.know.length≤9223372036854775807∧(x.tallies.length≤9223372036854775807∧∀ y∈x.tallies,Rv y)∧(x.lives.length≤9223372036854775807∧∀ y∈x.lives,A6u y)∧(x.cells.length≤9223372036854775807∧∀ y∈x.cells,A3n y)
instance:DecidableEq State:=fun a b=>if h:a.know=b.know∧a.tallies=b.tallies∧a.lives=b.lives∧a.cells=b.cells then isTrue (by cases a;cases b;simp only at h;obtain⟨rfl,rfl,rfl,rfl⟩:=h;rfl) else isFalse (fun e=>h (by subst e;exact⟨rfl,rfl,rfl,rfl⟩))
theorem State.eq_iff {a b:State}:a=b↔a.know=b.know∧a.tallies=b.tallies∧a.lives=b.lives∧a.cells=b.cells:=⟨fun h=>by subst h;exact⟨rfl,rfl,rfl,rfl⟩,fun h=>by cases a;cases b;simp only at h;obtain⟨rfl,rfl,rfl,rfl⟩:=h;rfl⟩
def Ada (x:Delta):Nat:=x.base.length+x.know.length+(x.tallies.length+sumL By x.tallies)+(x.lives.length+sumL D7 x.lives)+x.dead.length+(x.cells.length+sumL E2 x.cells)
def wDelta (x:Delta):Prop:=x.base.length≤9223372036854775807∧x.know.length≤9223372036854775807∧(x.tallies.length≤9223372036854775807∧∀ y∈x.tallies,Rv y)∧(x.lives.length≤9223372036854775807∧∀ y∈x.lives,A6u y)∧x.dead.length≤9223372036854775807∧(x.cells.length≤9223372036854775807∧∀ y∈x.cells,A3n y)
instance:DecidableEq Delta:=fun a b=>if h:a.base=b.base∧a.know=b.know∧a.tallies=b.tallies∧a.lives=b.lives∧a.dead=b.dead∧a.cells=b.cells then isTrue (by cases a;cases b;simp only at h;obtain⟨rfl,rfl,rfl,rfl,rfl,rfl⟩:=h;rfl) else isFalse (fun e=>h (by subst e;exact⟨rfl,rfl,rfl,rfl,rfl,rfl⟩))
theorem Delta.eq_iff {a b:Delta}:a=b↔a.base=b.base∧a.know=b.know∧a.tallies=b.tallies∧a.lives=b.lives∧a.dead=b.dead∧a.cells=b.cells:=⟨fun h=>by subst h;exact⟨rfl,rfl,rfl,rfl,rfl,rfl⟩,fun h=>by cases a;cases b;simp only at h;obtain⟨rfl,rfl,rfl,rfl,rfl,rfl⟩:=h;rfl⟩
def A8y (x:Unit_):Nat:=E9 x.act+Ada x.delta
def Adb (x:Unit_):Prop:=wAct x.act∧wDelta x.delta
instance:DecidableEq Unit_:=fun a b=>if h:a.batch=b.batch∧a.act=b.act∧a.delta=b.delta then isTrue (by cases a;cases b;simp only at h;obtain⟨rfl,rfl,rfl⟩:=h;rfl) else isFalse (fun e=>h (by subst e;exact⟨rfl,rfl,rfl⟩))
theorem Unit_.eq_iff {a b:Unit_}:a=b↔a.batch=b.batch∧a.act=b.act∧a.delta=b.delta:=⟨fun h=>by subst h;exact⟨rfl,rfl,rfl⟩,fun h=>by cases a;cases b;simp only at h;obtain⟨rfl,rfl,rfl⟩:=h;rfl⟩
def msLog (x:Log):Nat:=Ac x.state+(x.units.length+sumL A8y x.units)+(x.waits.length+sumL A8y x.waits)
def wLog (x:Log):Prop:=A5w x.state∧(x.units.length≤9223372036854775807∧∀ y∈x.units,Adb y)∧(x.waits.length≤9223372036854775807∧∀ y∈x.waits,Adb y)
instance:DecidableEq Log:=fun a b=>if h:a.rep=b.rep∧a.time=b.time∧a.state=b.state∧a.units=b.units∧a.waits=b.waits then isTrue (by cases a;cases b;simp only at h;obtain⟨rfl,rfl,rfl,rfl,rfl⟩:=h;rfl) else isFalse (fun e=>h (by subst e;exact⟨rfl,rfl,rfl,rfl,rfl⟩))
theorem Log.eq_iff {a b:Log}:a=b↔a.rep=b.rep∧a.time=b.time∧a.state=b.state∧a.units=b.units∧a.waits=b.waits:=⟨fun h=>by subst h;exact⟨rfl,rfl,rfl,rfl,rfl⟩,fun h=>by cases a;cases b;simp only at h;obtain⟨rfl,rfl,rfl,rfl,rfl⟩:=h;rfl⟩
def Aan (x:Commit):Nat:=x.ups.length+Ac x.state
def Adc (x:Commit):Prop:=x.ups.length≤9223372036854775807∧A5w x.state
instance:DecidableEq Commit:=fun a b=>if h:a.id=b.id∧a.ups=b.ups∧a.state=b.state then isTrue (by cases a;cases b;simp only at h;obtain⟨rfl,rfl,rfl⟩:=h;rfl) else isFalse (fun e=>h (by subst e;exact⟨rfl,rfl,rfl⟩))
theorem Commit.eq_iff {a b:Commit}:a=b↔a.id=b.id∧a.ups=b.ups∧a.state=b.state:=⟨fun h=>by subst h;exact⟨rfl,rfl,rfl⟩,fun h=>by cases a;cases b;simp only at h;obtain⟨rfl,rfl,rfl⟩:=h;rfl⟩
def Add (x:Graph):Nat:=(x.commits.length+sumL Aan x.commits)
def wGraph (x:Graph):Prop:=(x.commits.length≤9223372036854775807∧∀ y∈x.commits,Adc y)
instance:DecidableEq Graph:=fun a b=>if h:a.commits=b.commits∧a.head=b.head then isTrue (by cases a;cases b;simp only at h;obtain⟨rfl,rfl⟩:=h;rfl) else isFalse (fun e=>h (by subst e;exact⟨rfl,rfl⟩))
theorem Graph.eq_iff {a b:Graph}:a=b↔a.commits=b.commits∧a.head=b.head:=⟨fun h=>by subst h;exact⟨rfl,rfl⟩,fun h=>by cases a;cases b;simp only at h;obtain⟨rfl,rfl⟩:=h;rfl⟩
def A8z (x:Replica):Nat:=msLog x.log+Add x.graph+msFile x.file+(x.out.length+sumL A8y x.out)
def Aao (x:Replica):Prop:=wLog x.log∧wGraph x.graph∧wFile x.file∧(x.out.length≤9223372036854775807∧∀ y∈x.out,Adb y)
instance:DecidableEq Replica:=fun a b=>if h:a.way=b.way∧a.log=b.log∧a.graph=b.graph∧a.file=b.file∧a.out=b.out then isTrue (by cases a;cases b;simp only at h;obtain⟨rfl,rfl,rfl,rfl,rfl⟩:=h;rfl) else isFalse (fun e=>h (by subst e;exact⟨rfl,rfl,rfl,rfl,rfl⟩))
theorem Replica.eq_iff {a b:Replica}:a=b↔a.way=b.way∧a.log=b.log∧a.graph=b.graph∧a.file=b.file∧a.out=b.out:=⟨fun h=>by subst h;exact⟨rfl,rfl,rfl,rfl,rfl⟩,fun h=>by cases a;cases b;simp only at h;obtain⟨rfl,rfl,rfl,rfl,rfl⟩:=h;rfl⟩
def msWorld (x:World_):Nat:=(x.replicas.length+sumL A8z x.replicas)+(x.net.length+sumL Aam x.net)+x.codes.length+(x.synced.length+sumL msIntS x.synced)
def wWorld (x:World_):Prop:=(x.replicas.length≤9223372036854775807∧∀ y∈x.replicas,Aao y)∧(x.net.length≤9223372036854775807∧∀ y∈x.net,Ad8 y)∧x.codes.length≤9223372036854775807∧(x.synced.length≤9223372036854775807∧∀ y∈x.synced,wIntS y)
instance:DecidableEq World_:=fun a b=>if h:a.replicas=b.replicas∧a.net=b.net∧a.codes=b.codes∧a.synced=b.synced then isTrue (by cases a;cases b;simp only at h;obtain⟨rfl,rfl,rfl,rfl⟩:=h;rfl) else isFalse (fun e=>h (by subst e;exact⟨rfl,rfl,rfl,rfl⟩))
theorem World_.eq_iff {a b:World_}:a=b↔a.replicas=b.replicas∧a.net=b.net∧a.codes=b.codes∧a.synced=b.synced:=⟨fun h=>by subst h;exact⟨rfl,rfl,rfl,rfl⟩,fun h=>by cases a;cases b;simp only at h;obtain⟨rfl,rfl,rfl,rfl⟩:=h;rfl⟩
def msScript (x:Script):Nat:=x.ways.length+(x.events.length+sumL Ad9 x.events)
def wScript (x:Script):Prop:=x.ways.length≤9223372036854775807∧(x.events.length≤9223372036854775807∧∀ y∈x.events,wEvent y)
instance:DecidableEq Script:=fun a b=>if h:a.ways=b.ways∧a.events=b.events∧a.calm=b.calm then isTrue (by cases a;cases b;simp only at h;obtain⟨rfl,rfl,rfl⟩:=h;rfl) else isFalse (fun e=>h (by subst e;exact⟨rfl,rfl,rfl⟩))
theorem Script.eq_iff {a b:Script}:a=b↔a.ways=b.ways∧a.events=b.events∧a.calm=b.calm:=⟨fun h=>by subst h;exact⟨rfl,rfl,rfl⟩,fun h=>by cases a;cases b;simp only at h;obtain⟨rfl,rfl,rfl⟩:=h;rfl⟩
end
section
open Go Go.RowKit
def eD (p:Dot×Int):GV×GV:=(.agg [gi p.1.rep,gi p.1.seq],gi p.2)
def Jr (ps:List (Dot×Int)) (d:Dot):Option Int:=(ps.find? fun p=>decide (d=p.1)).map (·.2)
def mpt (m:GV) (ps:List (Dot×Int)):Thg:=⟨fun σ fp=>∃ g,m= .mp g∧fp=[g]∧bk σ g=some (.map (ps.map eD)),fun⟨g,h1,h2,h3⟩ hf=>⟨g,h1,h2,by rw[hf g (by rw[h2];exact List.mem_cons_self)];exact h3⟩⟩
def dks:List Sc:=[.i .i64,.i .i64]
theorem Oc (d:Dot):∀(ps:List (Dot×Int)) (i:Nat),∃ q,Qf [.i .i64,.i .i64] [gi d.rep,gi d.seq] (ps.map eD) i=some q∧match Jr ps d with
  |some v=>∃ j,q=some (j,gi v)
  |none=>q=none
 |[],i=>⟨none,rfl,rfl⟩
 |p::ps,i=>by
  obtain⟨q,h1,h2⟩:=Oc d ps (i+1)
  have e:Ch [.i .i64,.i .i64] [gi d.rep,gi d.seq] [gi p.1.rep,gi p.1.seq]=some (decide (d=p.1)):=by
   have:decide (d=p.1)=(decide (d.rep=p.1.rep)&&decide (d.seq=p.1.seq)):=by
    rw[Bool.eq_iff_iff]
    simp only[decide_eq_true_eq,Bool.and_eq_true]
    constructor
    ·rintro rfl;exact⟨rfl,rfl⟩
    ·rintro⟨h3,h4⟩;cases d;cases hp:p.1;simp_all
   rw[this]
   simp only[Ch,scEq,and_self,if_true,Option.bind_some,Option.map_some,Bool.and_true,Option.some.injEq]
   rw[Bool.eq_iff_iff];simp
  by_cases hd:d=p.1
  ·refine⟨some (i,gi p.2),?_,?_⟩
   ·simp only[List.map_cons,eD,Qf] at e ⊢
    rw[e];simp[hd]
   ·have:Jr (p::ps) d=some p.2:=by simp[Jr,hd]
    rw[this];exact⟨i,rfl⟩
  ·refine⟨q,?_,?_⟩
   ·simp only[List.map_cons,eD,Qf] at e ⊢
    rw[e];simp only[hd,decide_false,Option.bind_some,Bool.false_eq_true,if_false]
    exact h1
   ·have:Jr (p::ps) d=Jr ps d:=by simp[Jr,hd]
    rw[this];exact h2
namespace Hp
variable {σ τ:St} {rs:List Thg}
theorem newMap (H:Hp σ τ rs):Hp σ (τ++[some (.map [])]) (mpt (.mp τ.length) []::rs):=
 H.add (rs':=[mpt (.mp τ.length) []]) ⟨List.prefix_append _ _,[τ.length],⟨[τ.length],[],⟨_,rfl,rfl,Cl⟩,rfl,rfl⟩,by simp,by simp⟩
theorem mup (H:Hp σ τ rs) (i:Nat) {m:GV} {ps:List (Dot×Int)} (hi:rs[i]? =some (mpt m ps)) (d:Dot) (n:Int) (h:Jr ps d=none):
  ∃ τ',mupG τ [.i .i64,.i .i64] m (.agg [gi d.rep,gi d.seq]) (gi n)=some (.tup [],τ')∧Hp σ τ' (rs.set i (mpt m (ps++[(d,n)]))):=by
 obtain⟨a,⟨g,rfl,rfl,hB⟩,hnd,hbd,ht⟩:=(H.pick i hi).turn
 have hlt:=(hbd g List.mem_cons_self).2
 obtain⟨q,h1,h2⟩:=Oc d ps 0
 rw[h] at h2
 subst h2
 refine⟨τ.set g (some (.map ((ps++[(d,n)]).map eD))),?_,unpick (ht (a':=[g]) ⟨by simp,fun g' h=>.inl h,by simp,fun g' h h'=>Fv fun e=>h' (by rw[e];exact List.mem_cons_self)⟩ ⟨g,rfl,rfl,Bc.2 (by rw[List.getElem?_set_self hlt])⟩) (List.getElem?_eq_some_iff.1 hi).1⟩
 simp only[mupG,mpG,Bc.1 hB,Option.bind_some,keyG,List.length_cons,List.length_nil,if_true]
 rw[h1]
 simp[Bz,Ac6,eD]
theorem mlk (H:Hp σ τ rs) (i:Nat) {m:GV} {ps:List (Dot×Int)} (hi:rs[i]? =some (mpt m ps)) (d:Dot):
  mlkG τ [.i .i64,.i .i64] (gi 0) true m (.agg [gi d.rep,gi d.seq])=some (.tup [gi ((Jr ps d).getD 0),.bool (Jr ps d).isSome]):=by
 obtain⟨a,⟨g,rfl,rfl,hB⟩,_⟩:=H.see hi
 obtain⟨q,h1,h2⟩:=Oc d ps 0
 simp only[mlkG,mpG,Bc.1 hB,Option.bind_some,keyG,List.length_cons,List.length_nil,if_true]
 rw[h1]
 cases hl:Jr ps d with
 |none=>rw[hl] at h2;subst h2;rfl
 |some v=>rw[hl] at h2;obtain⟨j,rfl⟩:=h2;rfl
end Hp
end
section
open Go Go.RowKit
abbrev A0k:Nat:=122
def A0l:Fn1:=⟨15,[.t 6],(.seq (.reg [o 6 (.mov (.k (.bool false)))]) (.seq (.reg [o 7 (.mov (.t 0)),o 8 (.mov (.t 1)),o 9 (.bin .geq (.t 7) (.t 8)),o 10 (.mov (.t 9)),og 11 10 true (.mov (.t 0)),og 12 10 true (.mov (.t 2)),og 13 10 true (.bin .leq (.t 11) (.t 12)),o 14 (.pick (.t 10) (.t 13) (.k (.bool false))),o 6 (.mov (.t 14))]) .ret))⟩
theorem A6v:A5 Tryz.prog A0k=some A0l:=by kernel_rfl
abbrev Vy:Nat:=236
def Vz:Fn1:=⟨15,[.t 6],(.seq (.reg [o 6 (.mov (.k (.bool false)))]) (.seq (.reg [o 7 (.mov (.t 0)),o 8 (.mov (.t 1)),o 9 (.bin .geq (.t 7) (.t 8)),o 10 (.mov (.t 9)),og 11 10 true (.mov (.t 0)),og 12 10 true (.mov (.t 2)),og 13 10 true (.bin .leq (.t 11) (.t 12)),o 14 (.pick (.t 10) (.t 13) (.k (.bool false))),o 6 (.mov (.t 14))]) .ret))⟩
theorem A3o:A5 Tryz.prog Vy=some Vz:=by kernel_rfl
abbrev W0:Nat:=348
def W1:Fn1:=⟨23,[.t 2],(.seq (.reg [o 2 (.mov (.k (.bool false)))]) (.seq (.seq (.reg [o 3 (.mov (.k (.int .i64 0)))]) (.blk 0 (.lop (.seq (.seq (.reg [o 4 (.mov (.t 3)),o 5 (.mov (.t 0)),o 6 (.len true (.t 5)),o 7 (.bin .lss (.t 4) (.t 6))]) (.cnd (.t 7) .skip (.ext 0))) (.seq (.blk 1 (.seq (.reg [o 10 (.mov (.t 0)),o 11 (.mov (.t 3)),o 12 (.idx (.t 10) (.t 11)),o 13 (.bin .lss (.t 12) (.k (.int .u8 97))),o 14 (.mov (.t 13)),og 15 14 false (.mov (.t 0)),og 16 14 false (.mov (.t 3)),og 17 14 false (.idx (.t 15) (.t 16)),og 18 14 false (.bin .gtr (.t 17) (.k (.int .u8 122))),o 19 (.pick (.t 14) (.k (.bool true)) (.t 18))]) (.cnd (.t 19) (.seq (.reg [o 2 (.mov (.k (.bool false)))]) .ret) .skip))) (.reg [o 8 (.mov (.t 3)),o 9 (.bin .add (.t 8) (.k (.int .i64 1))),o 3 (.mov (.t 9))])))))) (.seq (.reg [o 20 (.mov (.t 0)),o 21 (.len true (.t 20)),o 22 (.call 122 [(.t 21),(.k (.int .i64 1)),(.k (.int .i64 8))]),o 2 (.mov (.t 22))]) .ret)))⟩
theorem A3p:A5 Tryz.prog W0=some W1:=by kernel_rfl
abbrev W2:Nat:=341
def W3:Fn1:=⟨19,[.t 2],(.seq (.reg [o 2 (.mov (.k (.bool false)))]) (.seq (.seq (.reg [o 3 (.mov (.k (.int .i64 0)))]) (.blk 0 (.lop (.seq (.seq (.reg [o 4 (.mov (.t 3)),o 5 (.mov (.t 0)),o 6 (.len true (.t 5)),o 7 (.bin .lss (.t 4) (.t 6))]) (.cnd (.t 7) .skip (.ext 0))) (.seq (.blk 1 (.seq (.reg [o 10 (.mov (.t 0)),o 11 (.mov (.t 3)),o 12 (.idx (.t 10) (.t 11)),o 13 (.cvi .i64 (.t 12)),o 14 (.call 236 [(.t 13),(.k (.int .i64 97)),(.k (.int .i64 122))]),o 15 (.un .not (.t 14))]) (.cnd (.t 15) (.seq (.reg [o 2 (.mov (.k (.bool false)))]) .ret) .skip))) (.reg [o 8 (.mov (.t 3)),o 9 (.bin .add (.t 8) (.k (.int .i64 1))),o 3 (.mov (.t 9))])))))) (.seq (.reg [o 16 (.mov (.t 0)),o 17 (.len true (.t 16)),o 18 (.call 236 [(.t 17),(.k (.int .i64 1)),(.k (.int .i64 8))]),o 2 (.mov (.t 18))]) .ret)))⟩
theorem A3q:A5 Tryz.prog W2=some W3:=by kernel_rfl
abbrev W4:Nat:=167
def W5:Fn1:=⟨19,[.t 2],(.seq (.reg [o 2 (.mov (.k (.bool false)))]) (.seq (.seq (.reg [o 3 (.mov (.k (.int .i64 0)))]) (.blk 0 (.lop (.seq (.seq (.reg [o 4 (.mov (.t 3)),o 5 (.mov (.t 0)),o 6 (.len false (.t 5)),o 7 (.bin .lss (.t 4) (.t 6))]) (.cnd (.t 7) .skip (.ext 0))) (.seq (.blk 1 (.seq (.reg [o 10 (.mov (.t 0)),o 11 (.mov (.t 3)),o 12 (.iad 1 (.t 10) (.t 11)),o 13 (.ld false 1 (.t 12)),o 14 (.call 122 [(.t 13),(.k (.int .i64 0)),(.k (.int .i64 1000))]),o 15 (.un .not (.t 14))]) (.cnd (.t 15) (.seq (.reg [o 2 (.mov (.k (.bool false)))]) .ret) .skip))) (.reg [o 8 (.mov (.t 3)),o 9 (.bin .add (.t 8) (.k (.int .i64 1))),o 3 (.mov (.t 9))])))))) (.seq (.reg [o 16 (.mov (.t 0)),o 17 (.len false (.t 16)),o 18 (.bin .eql (.t 17) (.k (.int .i64 3))),o 2 (.mov (.t 18))]) .ret)))⟩
theorem A3r:A5 Tryz.prog W4=some W5:=by kernel_rfl
abbrev W6:Nat:=176
def W7:Fn1:=⟨18,[.t 2],(.seq (.reg [o 2 (.mov (.k (.bool false)))]) (.seq (.seq (.reg [o 5 (.mov (.t 0)),o 6 (.len false (.t 5)),o 7 (.mov (.k (.int .i64 0)))]) (.blk 0 (.lop (.seq (.reg [o 8 (.bin .lss (.t 7) (.t 6))]) (.seq (.cnd (.t 8) .skip (.ext 0)) (.seq (.blk 1 (.seq (.reg [o 9 (.iad 1 (.t 5) (.t 7)),o 10 (.ld false 1 (.t 9)),o 4 (.mov (.t 10))]) (.seq (.reg [o 11 (.mov (.t 4)),o 12 (.call 236 [(.t 11),(.k (.int .i64 0)),(.k (.int .i64 1000))]),o 13 (.un .not (.t 12))]) (.cnd (.t 13) (.seq (.reg [o 2 (.mov (.k (.bool false)))]) .ret) .skip)))) (.reg [o 14 (.bin .add (.t 7) (.k (.int .i64 1))),o 7 (.mov (.t 14))]))))))) (.seq (.reg [o 15 (.mov (.t 0)),o 16 (.len false (.t 15)),o 17 (.bin .eql (.t 16) (.k (.int .i64 3))),o 2 (.mov (.t 17))]) .ret)))⟩
theorem A3s:A5 Tryz.prog W6=some W7:=by kernel_rfl
abbrev A0m:Nat:=168
def A0n:Fn1:=⟨11,[.t 2],(.seq (.reg [o 1 (.box (.t 0)),o 2 (.mov (.k (.bool false)))]) (.seq (.reg [o 3 (.fad 0 (.t 1)),o 4 (.ld false 1 (.t 3)),o 5 (.call 122 [(.t 4),(.k (.int .i64 0)),(.k (.int .i64 2))]),o 6 (.mov (.t 5)),og 7 6 true (.fad 1 (.t 1)),og 8 6 true (.ld false 1 (.t 7)),og 9 6 true (.call 122 [(.t 8),(.k (.int .i64 1)),(.k (.int .i64 1000))]),o 10 (.pick (.t 6) (.t 9) (.k (.bool false))),o 2 (.mov (.t 10))]) .ret))⟩
theorem A6w:A5 Tryz.prog A0m=some A0n:=by kernel_rfl
abbrev A0o:Nat:=272
def A0p:Fn1:=⟨11,[.t 2],(.seq (.reg [o 1 (.box (.t 0)),o 2 (.mov (.k (.bool false)))]) (.seq (.reg [o 3 (.fad 0 (.t 1)),o 4 (.ld false 1 (.t 3)),o 5 (.call 236 [(.t 4),(.k (.int .i64 0)),(.k (.int .i64 2))]),o 6 (.mov (.t 5)),og 7 6 true (.fad 1 (.t 1)),og 8 6 true (.ld false 1 (.t 7)),og 9 6 true (.call 236 [(.t 8),(.k (.int .i64 1)),(.k (.int .i64 1000))]),o 10 (.pick (.t 6) (.t 9) (.k (.bool false))),o 2 (.mov (.t 10))]) .ret))⟩
theorem A6x:A5 Tryz.prog A0o=some A0p:=by kernel_rfl
abbrev A0q:Nat:=45
def A0r:Fn1:=⟨21,[.t 4],(.seq (.reg [o 3 (.box (.t 1)),o 4 (.mov (.k (.bool false)))]) (.seq (.drw [o 5 (.mov (.t 0)),o 6 (.call 167 [(.t 5)]),o 7 (.mov (.t 6)),og 8 7 true (.ld true 2 (.t 3)),og 9 7 true (.call 168 [(.t 8)]),o 10 (.pick (.t 7) (.t 9) (.k (.bool false))),o 11 (.mov (.t 10)),og 12 11 true (.fad 1 (.t 3)),og 13 11 true (.ld false 1 (.t 12)),og 14 11 true (.mov (.t 0)),og 15 11 true (.fad 0 (.t 3)),og 16 11 true (.ld false 1 (.t 15)),og 17 11 true (.iad 1 (.t 14) (.t 16)),og 18 11 true (.ld false 1 (.t 17))] [og 19 11 true (.bin .leq (.t 13) (.t 18)),o 20 (.pick (.t 11) (.t 19) (.k (.bool false))),o 4 (.mov (.t 20))]) .ret))⟩
theorem A6y:A5 Tryz.prog A0q=some A0r:=by kernel_rfl
abbrev A0s:Nat:=170
def A0t:Fn1:=⟨21,[.t 4],(.seq (.reg [o 3 (.box (.t 1)),o 4 (.mov (.k (.bool false)))]) (.seq (.drw [o 5 (.mov (.t 0)),o 6 (.call 176 [(.t 5)]),o 7 (.mov (.t 6)),og 8 7 true (.ld true 2 (.t 3)),og 9 7 true (.call 272 [(.t 8)]),o 10 (.pick (.t 7) (.t 9) (.k (.bool false))),o 11 (.mov (.t 10)),og 12 11 true (.fad 1 (.t 3)),og 13 11 true (.ld false 1 (.t 12)),og 14 11 true (.mov (.t 0)),og 15 11 true (.fad 0 (.t 3)),og 16 11 true (.ld false 1 (.t 15)),og 17 11 true (.iad 1 (.t 14) (.t 16)),og 18 11 true (.ld false 1 (.t 17))] [og 19 11 true (.bin .leq (.t 13) (.t 18)),o 20 (.pick (.t 11) (.t 19) (.k (.bool false))),o 4 (.mov (.t 20))]) .ret))⟩
theorem A6z:A5 Tryz.prog A0s=some A0t:=by kernel_rfl
abbrev P4:Nat:=332
def P5:Fn1:=⟨5,[.t 2],(.seq (.reg [o 2 (.mov (.k (.bool false)))]) (.seq (.reg [o 3 (.mov (.t 0)),o 4 (.call 122 [(.t 3),(.k (.int .i64 2)),(.k (.int .i64 5))]),o 2 (.mov (.t 4))]) .ret))⟩
theorem Yl:A5 Tryz.prog P4=some P5:=by kernel_rfl
abbrev Ms:Nat:=333
def Mt:Fn1:=⟨13,[.t 2],(.seq (.reg [o 2 (.mov (.k (.bool false)))]) (.seq (.reg [o 3 (.mov (.t 0)),o 4 (.bin .eql (.t 3) (.k (.int .i64 1))),o 5 (.mov (.t 4)),og 6 5 false (.mov (.t 0)),og 7 5 false (.bin .eql (.t 6) (.k (.int .i64 4))),o 8 (.pick (.t 5) (.k (.bool true)) (.t 7)),o 9 (.mov (.t 8)),og 10 9 false (.mov (.t 0)),og 11 9 false (.bin .eql (.t 10) (.k (.int .i64 6))),o 12 (.pick (.t 9) (.k (.bool true)) (.t 11)),o 2 (.mov (.t 12))]) .ret))⟩
theorem V3:A5 Tryz.prog Ms=some Mt:=by kernel_rfl
abbrev W8:Nat:=342
def W9:Fn1:=⟨5,[.t 2],(.seq (.reg [o 2 (.mov (.k (.bool false)))]) (.seq (.reg [o 3 (.mov (.t 0)),o 4 (.call 236 [(.t 3),(.k (.int .i64 2)),(.k (.int .i64 5))]),o 2 (.mov (.t 4))]) .ret))⟩
theorem A3t:A5 Tryz.prog W8=some W9:=by kernel_rfl
abbrev Wa:Nat:=343
def Wb:Fn1:=⟨13,[.t 2],(.seq (.reg [o 2 (.mov (.k (.bool false)))]) (.seq (.reg [o 3 (.mov (.t 0)),o 4 (.bin .eql (.t 3) (.k (.int .i64 1))),o 5 (.mov (.t 4)),og 6 5 false (.mov (.t 0)),og 7 5 false (.bin .eql (.t 6) (.k (.int .i64 4))),o 8 (.pick (.t 5) (.k (.bool true)) (.t 7)),o 9 (.mov (.t 8)),og 10 9 false (.mov (.t 0)),og 11 9 false (.bin .eql (.t 10) (.k (.int .i64 6))),o 12 (.pick (.t 9) (.k (.bool true)) (.t 11)),o 2 (.mov (.t 12))]) .ret))⟩
theorem A3u:A5 Tryz.prog Wa=some Wb:=by kernel_rfl
abbrev P6:Nat:=279
def P7:Fn1:=⟨45,[.t 8],(.seq (.reg [o 8 (.mov (.k (.bool false)))]) (.seq (.seq (.reg [o 9 (.mov (.t 0)),o 10 (.call 122 [(.t 9),(.k (.int .i64 1)),(.k (.int .i64 7))]),o 11 (.un .not (.t 10)),o 12 (.mov (.t 11)),og 13 12 false (.mov (.t 1)),og 14 12 false (.call 348 [(.t 13)]),og 15 12 false (.un .not (.t 14)),o 16 (.pick (.t 12) (.k (.bool true)) (.t 15)),o 17 (.mov (.t 16)),og 18 17 false (.mov (.t 0)),og 19 17 false (.call 332 [(.t 18)]),og 20 17 false (.mov (.t 19)),og 21 20 true (.mov (.t 2)),og 22 20 true (.call 348 [(.t 21)]),og 23 20 true (.un .not (.t 22)),og 24 17 false (.pick (.t 20) (.t 23) (.k (.bool false))),o 25 (.pick (.t 17) (.k (.bool true)) (.t 24)),o 26 (.mov (.t 25)),og 27 26 false (.mov (.t 0)),og 28 26 false (.call 332 [(.t 27)]),og 29 26 false (.un .not (.t 28)),og 30 26 false (.mov (.t 29)),og 31 30 true (.mov (.t 2)),og 32 30 true (.bin .neq (.t 31) (.k (.str ⟨#[]⟩))),og 33 26 false (.pick (.t 30) (.t 32) (.k (.bool false))),o 34 (.pick (.t 26) (.k (.bool true)) (.t 33))]) (.cnd (.t 34) (.seq (.reg [o 8 (.mov (.k (.bool false)))]) .ret) .skip)) (.seq (.reg [o 35 (.mov (.t 3)),o 36 (.bin .eql (.t 35) (.k (.int .i64 0))),o 37 (.mov (.t 36)),og 38 37 false (.mov (.t 0)),og 39 37 false (.call 333 [(.t 38)]),og 40 37 false (.mov (.t 39)),og 41 40 true (.mov (.t 3)),og 42 40 true (.call 122 [(.t 41),(.k (.int .i64 0)),(.k (.int .i64 999999))]),og 43 37 false (.pick (.t 40) (.t 42) (.k (.bool false))),o 44 (.pick (.t 37) (.k (.bool true)) (.t 43)),o 8 (.mov (.t 44))]) .ret)))⟩
theorem Ym:A5 Tryz.prog P6=some P7:=by kernel_rfl
abbrev Rw:Nat:=273
def Rx:Fn1:=⟨46,[.t 8],(.seq (.reg [o 8 (.mov (.k (.bool false)))]) (.seq (.seq (.reg [o 10 (.mov (.t 0)),o 11 (.call 236 [(.t 10),(.k (.int .i64 1)),(.k (.int .i64 7))]),o 12 (.un .not (.t 11)),o 13 (.mov (.t 12)),og 14 13 false (.mov (.t 1)),og 15 13 false (.call 341 [(.t 14)]),og 16 13 false (.un .not (.t 15)),o 17 (.pick (.t 13) (.k (.bool true)) (.t 16))]) (.cnd (.t 17) (.seq (.reg [o 8 (.mov (.k (.bool false)))]) .ret) .skip)) (.seq (.reg [o 18 (.mov (.t 2)),o 19 (.bin .eql (.t 18) (.k (.str ⟨#[]⟩))),o 20 (.mov (.t 19)),og 21 20 true (.mov (.t 0)),og 22 20 true (.call 342 [(.t 21)]),og 23 20 true (.un .not (.t 22)),o 24 (.pick (.t 20) (.t 23) (.k (.bool false))),o 25 (.mov (.t 24)),og 26 25 false (.mov (.t 2)),og 27 25 false (.call 341 [(.t 26)]),og 28 25 false (.mov (.t 27)),og 29 28 true (.mov (.t 0)),og 30 28 true (.call 342 [(.t 29)]),og 31 25 false (.pick (.t 28) (.t 30) (.k (.bool false))),o 32 (.pick (.t 25) (.k (.bool true)) (.t 31)),o 9 (.mov (.t 32))]) (.seq (.reg [o 33 (.mov (.t 9)),o 34 (.mov (.t 33)),og 35 34 true (.mov (.t 3)),og 36 34 true (.bin .eql (.t 35) (.k (.int .i64 0))),og 37 34 true (.mov (.t 36)),og 38 37 false (.mov (.t 0)),og 39 37 false (.call 343 [(.t 38)]),og 40 37 false (.mov (.t 39)),og 41 40 true (.mov (.t 3)),og 42 40 true (.call 236 [(.t 41),(.k (.int .i64 0)),(.k (.int .i64 999999))]),og 43 37 false (.pick (.t 40) (.t 42) (.k (.bool false))),og 44 34 true (.pick (.t 37) (.k (.bool true)) (.t 43)),o 45 (.pick (.t 34) (.t 44) (.k (.bool false))),o 8 (.mov (.t 45))]) .ret))))⟩
theorem A0u:A5 Tryz.prog Rw=some Rx:=by kernel_rfl
abbrev A0v:Nat:=185
def A0w:Fn1:=⟨71,[.t 2],(.seq (.reg [o 1 (.box (.t 0)),o 2 (.mov (.k (.bool false)))]) (.seq (.seq (.drw [o 3 (.fad 0 (.t 1)),o 4 (.ld true 2 (.t 3)),o 5 (.call 168 [(.t 4)]),o 6 (.un .not (.t 5)),o 7 (.mov (.t 6)),og 8 7 false (.fad 3 (.t 1)),og 9 7 false (.ld false 1 (.t 8)),og 10 7 false (.call 167 [(.t 9)]),og 11 7 false (.un .not (.t 10)),o 12 (.pick (.t 7) (.k (.bool true)) (.t 11)),o 13 (.mov (.t 12)),og 14 13 false (.fad 3 (.t 1)),og 15 13 false (.ld false 1 (.t 14)),og 16 13 false (.fad 0 (.t 1)),og 17 13 false (.fad 0 (.t 16)),og 18 13 false (.ld false 1 (.t 17)),og 19 13 false (.iad 1 (.t 15) (.t 18)),og 20 13 false (.ld false 1 (.t 19)),og 21 13 false (.fad 0 (.t 1)),og 22 13 false (.fad 1 (.t 21)),og 23 13 false (.ld false 1 (.t 22)),og 24 13 false (.bin .sub (.t 23) (.k (.int .i64 1))),og 25 13 false (.bin .neq (.t 20) (.t 24)),o 26 (.pick (.t 13) (.k (.bool true)) (.t 25)),o 27 (.mov (.t 26)),og 28 27 false (.fad 2 (.t 1)),og 29 27 false (.ld false 1 (.t 28)),og 30 27 false (.call 122 [(.t 29),(.k (.int .i64 1)),(.k (.int .i64 10000))]),og 31 27 false (.un .not (.t 30)),o 32 (.pick (.t 27) (.k (.bool true)) (.t 31)),o 33 (.mov (.t 32)),og 34 33 false (.fad 4 (.t 1)),og 35 33 false (.ld false 1 (.t 34)),og 36 33 false (.fad 5 (.t 1)),og 37 33 false (.ld false 1 (.t 36)),og 38 33 false (.fad 6 (.t 1)),og 39 33 false (.ld false 1 (.t 38)),og 40 33 false (.fad 7 (.t 1)),og 41 33 false (.ld false 1 (.t 40))] [og 42 33 false (.call 279 [(.t 35),(.t 37),(.t 39),(.t 41)]),og 43 33 false (.un .not (.t 42)),o 44 (.pick (.t 33) (.k (.bool true)) (.t 43))]) (.cnd (.t 44) (.seq (.reg [o 2 (.mov (.k (.bool false)))]) .ret) .skip)) (.seq (.seq (.reg [o 45 (.fad 4 (.t 1)),o 46 (.ld false 1 (.t 45))]) (.blk 0 (.seq (.reg [o 48 (.bin .eql (.t 46) (.k (.int .i64 7))),o 47 (.mov (.t 48))]) (.cnd (.t 47) (.seq (.reg [o 49 (.fad 3 (.t 1)),o 50 (.ld false 1 (.t 49)),o 51 (.fad 8 (.t 1)),o 52 (.ld true 2 (.t 51)),o 53 (.call 45 [(.t 50),(.t 52)]),o 2 (.mov (.t 53))]) .ret) (.seq (.reg [o 55 (.bin .eql (.t 46) (.k (.int .i64 6))),o 54 (.mov (.t 55))]) (.cnd (.t 54) (.seq (.reg [o 56 (.fad 8 (.t 1)),o 57 (.ld true 2 (.t 56)),o 58 (.build [(.int .i64 0),(.int .i64 0)] []),o 59 (.eqs false [.i .i64,.i .i64] (.t 57) (.t 58)),o 60 (.mov (.t 59)),og 61 60 false (.fad 3 (.t 1)),og 62 60 false (.ld false 1 (.t 61)),og 63 60 false (.fad 8 (.t 1)),og 64 60 false (.ld true 2 (.t 63)),og 65 60 false (.call 45 [(.t 62),(.t 64)]),o 66 (.pick (.t 60) (.k (.bool true)) (.t 65)),o 2 (.mov (.t 66))]) .ret) .skip)))))) (.seq (.reg [o 67 (.fad 8 (.t 1)),o 68 (.ld true 2 (.t 67)),o 69 (.build [(.int .i64 0),(.int .i64 0)] []),o 70 (.eqs false [.i .i64,.i .i64] (.t 68) (.t 69)),o 2 (.mov (.t 70))]) .ret))))⟩
theorem A70:A5 Tryz.prog A0v=some A0w:=by kernel_rfl
abbrev A0x:Nat:=169
def A0y:Fn1:=⟨71,[.t 2],(.seq (.reg [o 1 (.box (.t 0)),o 2 (.mov (.k (.bool false)))]) (.seq (.seq (.drw [o 5 (.fad 0 (.t 1)),o 6 (.ld true 2 (.t 5)),o 7 (.call 272 [(.t 6)]),o 8 (.un .not (.t 7)),o 9 (.mov (.t 8)),og 10 9 false (.fad 3 (.t 1)),og 11 9 false (.ld false 1 (.t 10)),og 12 9 false (.call 176 [(.t 11)]),og 13 9 false (.un .not (.t 12)),o 14 (.pick (.t 9) (.k (.bool true)) (.t 13)),o 15 (.mov (.t 14)),og 16 15 false (.fad 3 (.t 1)),og 17 15 false (.ld false 1 (.t 16)),og 18 15 false (.fad 0 (.t 1)),og 19 15 false (.fad 0 (.t 18)),og 20 15 false (.ld false 1 (.t 19)),og 21 15 false (.iad 1 (.t 17) (.t 20)),og 22 15 false (.ld false 1 (.t 21)),og 23 15 false (.fad 0 (.t 1)),og 24 15 false (.fad 1 (.t 23)),og 25 15 false (.ld false 1 (.t 24))] [og 26 15 false (.bin .sub (.t 25) (.k (.int .i64 1))),og 27 15 false (.bin .neq (.t 22) (.t 26)),o 28 (.pick (.t 15) (.k (.bool true)) (.t 27)),o 29 (.mov (.t 28)),og 30 29 false (.fad 2 (.t 1)),og 31 29 false (.ld false 1 (.t 30)),og 32 29 false (.call 236 [(.t 31),(.k (.int .i64 1)),(.k (.int .i64 10000))]),og 33 29 false (.un .not (.t 32)),o 34 (.pick (.t 29) (.k (.bool true)) (.t 33))]) (.cnd (.t 34) (.seq (.reg [o 2 (.mov (.k (.bool false)))]) .ret) .skip)) (.seq (.reg [o 35 (.fad 8 (.t 1)),o 36 (.ld true 2 (.t 35)),o 37 (.build [(.int .i64 0),(.int .i64 0)] []),o 38 (.eqs false [.i .i64,.i .i64] (.t 36) (.t 37)),o 3 (.mov (.t 38))]) (.seq (.reg [o 39 (.mov (.t 3)),o 4 (.mov (.t 39))]) (.seq (.seq (.reg [o 40 (.fad 4 (.t 1)),o 41 (.ld false 1 (.t 40))]) (.blk 0 (.seq (.reg [o 43 (.bin .eql (.t 41) (.k (.int .i64 7))),o 42 (.mov (.t 43))]) (.cnd (.t 42) (.reg [o 44 (.fad 3 (.t 1)),o 45 (.ld false 1 (.t 44)),o 46 (.fad 8 (.t 1)),o 47 (.ld true 2 (.t 46)),o 48 (.call 170 [(.t 45),(.t 47)]),o 4 (.mov (.t 48))]) (.seq (.reg [o 50 (.bin .eql (.t 41) (.k (.int .i64 6))),o 49 (.mov (.t 50))]) (.cnd (.t 49) (.reg [o 51 (.mov (.t 3)),o 52 (.mov (.t 51)),og 53 52 false (.fad 3 (.t 1)),og 54 52 false (.ld false 1 (.t 53)),og 55 52 false (.fad 8 (.t 1)),og 56 52 false (.ld true 2 (.t 55)),og 57 52 false (.call 170 [(.t 54),(.t 56)]),o 58 (.pick (.t 52) (.k (.bool true)) (.t 57)),o 4 (.mov (.t 58))]) .skip)))))) (.seq (.reg [o 59 (.mov (.t 4)),o 60 (.mov (.t 59)),og 61 60 true (.fad 4 (.t 1)),og 62 60 true (.ld false 1 (.t 61)),og 63 60 true (.fad 5 (.t 1)),og 64 60 true (.ld false 1 (.t 63)),og 65 60 true (.fad 6 (.t 1)),og 66 60 true (.ld false 1 (.t 65)),og 67 60 true (.fad 7 (.t 1)),og 68 60 true (.ld false 1 (.t 67)),og 69 60 true (.call 273 [(.t 62),(.t 64),(.t 66),(.t 68)]),o 70 (.pick (.t 60) (.t 69) (.k (.bool false))),o 2 (.mov (.t 70))]) .ret))))))⟩
theorem A71:A5 Tryz.prog A0x=some A0y:=by kernel_rfl
theorem A9 {P:Program} {env:Env} {σ:St} {K:Kt} {r:List Op1} {d:Option Nat} {D:Bool} {f:Nat} {args:List GV} {b:Bool} (h:Ret P f args σ (.bool b) σ) (ht:b=true→Ad D P r K (upo env d (.bool true)) σ) (hf:b=false→Ad D P r K (upo env d (.bool false)) σ):Yd D f args P r K env d σ:=by
 cases b with
 |true=>exact A7 h (ht rfl)
 |false=>exact A7 h (hf rfl)
def inB (n a b:Int):Bool:=decide (a≤n)&&decide (n≤b)
theorem Db {n a b:Int}:inB n a b=true↔a≤n∧n≤b:=by simp[inB]
theorem Bh (σ:St) (n a b:Int):Ret Tryz.prog A0k [gi n,gi a,gi b] σ (.bool (inB n a b)) σ:=by
 refine Af A6v (Z0z rfl) trivial ?_
 simp +contextual (disch:=omega) only[go_sem,A0l,inB]
theorem Aw (σ:St) (n a b:Int):Ret Tryz.prog Vy [gi n,gi a,gi b] σ (.bool (inB n a b)) σ:=by
 refine Af A3o (Z0z rfl) trivial ?_
 simp +contextual (disch:=omega) only[go_sem,Vz,inB]
def bl (s:ByteArray):List UInt8:=s.data.toList
theorem Ke (s:ByteArray):(bl s).length=s.size:=by
 unfold bl;rw[Array.length_toList];rfl
theorem A90 {s:ByteArray} {i:Nat} (hi:i<(bl s).length):idxG (.str s) (some i)=some (.int .u8 (((bl s)[i].toNat:Nat):Int)):=by
 have h2:i<s.size:=by rw[← Ke];exact hi
 have e:s[i]? =some (bl s)[i]:=by
  rw[getElem?_pos s i h2];rfl
 simp only[idxG,e,Option.map_some];rfl
theorem u8_lt (b:UInt8):b.toNat<256:=b.toNat_lt
def lowB (b:UInt8):Bool:=inB (b.toNat:Int) 97 122
def Cu (s:ByteArray):Bool:=(bl s).all lowB&&inB s.size 1 8
theorem Eg (σ:St) (s:ByteArray) (hs:s.size≤1099511627776):Ret Tryz.prog W0 [.str s] σ (.bool (Cu s)) σ:=by
 refine Af A3p (Z0z rfl) trivial ?_
 simp +contextual (disch:=omega) only[go_sem,W1]
 refine B8 (bl s).length 3 (fun i env τ=>env 0= .str s∧((bl s).take i).all lowB=true∧σ <+: τ) rfl ⟨rfl,rfl,List.prefix_refl _⟩ ?_ ?_
 ·rintro i env τ hi e3 c0 ⟨e0,ha,hp⟩
  have hl:=Ke s
  rw[hl] at c0
  have hf:=fun h=>Di (p:=lowB) hi h
  have ht:=Cy hi ha
  simp +contextual (disch:=omega) only[go_sem,c0,e0,e3,A90 hi,hp]
  simp only[lowB,inB,Cu] at*
  generalize(((bl s)[i].toNat:Nat):Int)=b at*
  grind
 ·rintro env τ e3 c0 ⟨e0,ha,hp⟩
  rw[List.take_length] at ha
  rw[Ke] at c0 e3
  simp +contextual (disch:=omega) only[go_sem,c0,e0,e3]
  refine A7 (Bh τ _ _ _) ?_
  simp +contextual (disch:=omega) only[go_sem,Cu,ha,hp]
theorem Dj (σ:St) (s:ByteArray) (hs:s.size≤1099511627776):Ret Tryz.prog W2 [.str s] σ (.bool (Cu s)) σ:=by
 refine Af A3q (Z0z rfl) trivial ?_
 simp +contextual (disch:=omega) only[go_sem,W3]
 refine B8 (bl s).length 3 (fun i env τ=>env 0= .str s∧((bl s).take i).all lowB=true∧σ <+: τ) rfl ⟨rfl,rfl,List.prefix_refl _⟩ ?_ ?_
 ·rintro i env τ hi e3 c0 ⟨e0,ha,hp⟩
  have hl:=Ke s
  rw[hl] at c0
  have hf:=fun h=>Di (p:=lowB) hi h
  have ht:=Cy hi ha
  have h8:=u8_lt (bl s)[i]
  simp +contextual (disch:=omega) only[go_sem,c0,e0,e3,A90 hi,Ad1]
  refine A9 (Aw τ _ _ _) (fun h=> ?_) (fun h=> ?_)
  ·simp +contextual (disch:=omega) only[go_sem,e0,e3,hp]
   exact ht h
  ·simp +contextual (disch:=omega) only[go_sem,e0,e3,hp]
   simp[Cu,hf h]
 ·rintro env τ e3 c0 ⟨e0,ha,hp⟩
  rw[List.take_length] at ha
  rw[Ke] at c0 e3
  simp +contextual (disch:=omega) only[go_sem,c0,e0,e3]
  refine A7 (Aw τ _ _ _) ?_
  simp +contextual (disch:=omega) only[go_sem,Cu,ha,hp]
def seqB (n:Int):Bool:=inB n 0 1000
def okK (l:List Int):Bool:=l.all seqB&&decide (l.length=3)
theorem Gv {l:List Int} (h:okK l=true):l.length=3:=by
 simp only[okK,Bool.and_eq_true,decide_eq_true_eq] at h
 exact h.2
theorem Fw (σ:St) (v:GV) (l:List Int) (h:RS pI.kd σ v l) (hl:l.length≤1099511627776):Ret Tryz.prog W4 [v] σ (.bool (okK l)) σ:=by
 refine Af A3r (Z0z rfl) trivial ?_
 simp +contextual (disch:=omega) only[go_sem,W5]
 refine B8 l.length 3 (fun i env τ=>env 0=v∧(l.take i).all seqB=true∧σ <+: τ) rfl ⟨rfl,rfl,List.prefix_refl _⟩ ?_ ?_
 ·rintro i env τ hi e3 c0 ⟨e0,ha,hp⟩
  have hf:=fun h=>Di (p:=seqB) hi h
  have ht:=Cy hi ha
  simp +contextual (disch:=omega) only[go_sem,c0,e0,e3,h.len,Ef (h.pre hp) hi]
  refine A9 (Bh τ _ _ _) (fun h=> ?_) (fun h=> ?_)
  ·simp +contextual (disch:=omega) only[go_sem,e0,e3,hp]
   exact ht h
  ·simp +contextual (disch:=omega) only[go_sem,e0,e3,hp]
   simp[okK,hf h]
 ·rintro env τ e3 c0 ⟨e0,ha,hp⟩
  rw[List.take_length] at ha
  simp +contextual (disch:=omega) only[go_sem,c0,e0,e3,h.len,hp,okK,ha]
  exact A8s
theorem Fx (σ:St) (v:GV) (l:List Int) (h:RS pI.kd σ v l) (hl:l.length≤1099511627776):Ret Tryz.prog W6 [v] σ (.bool (okK l)) σ:=by
 refine Af A3s (Z0z rfl) trivial ?_
 simp +contextual (disch:=omega) only[go_sem,W7,h.len]
 refine B8 l.length 7 (fun i env τ=>env 0=v∧env 5=v∧env 6=gi l.length∧(l.take i).all seqB=true∧σ <+: τ) rfl ⟨rfl,rfl,rfl,rfl,List.prefix_refl _⟩ ?_ ?_
 ·rintro i env τ hi e7 c0 ⟨e0,e5,e6,ha,hp⟩
  have hf:=fun h=>Di (p:=seqB) hi h
  have ht:=Cy hi ha
  simp +contextual (disch:=omega) only[go_sem,c0,e0,e5,e6,e7,h.len,Ef (h.pre hp) hi]
  refine A9 (Aw τ _ _ _) (fun h=> ?_) (fun h=> ?_)
  ·simp +contextual (disch:=omega) only[go_sem,e0,e5,e6,e7,hp]
   exact ht h
  ·simp +contextual (disch:=omega) only[go_sem,e0,e5,e6,e7,hp]
   simp[okK,hf h]
 ·rintro env τ e7 c0 ⟨e0,e5,e6,ha,hp⟩
  rw[List.take_length] at ha
  simp +contextual (disch:=omega) only[go_sem,c0,e0,e5,e6,e7,h.len,hp,okK,ha]
  exact A8s
def Gi (d:Dot):Bool:=inB d.rep 0 2&&inB d.seq 1 1000
theorem Kf {d:Dot}:Gi d=true↔(0≤d.rep∧d.rep≤2)∧1≤d.seq∧d.seq≤1000:=by simp[Gi,Db]
theorem Gw (σ:St) (d:Dot):Ret Tryz.prog A0m [.agg [gi d.rep,gi d.seq]] σ (.bool (Gi d)) σ:=by
 refine Af A6w (Z0z rfl) trivial ?_
 simp +contextual (disch:=omega) only[go_sem,A0n]
 refine A9 (Bh _ _ _ _) (fun h=> ?_) (fun h=> ?_)
 ·simp +contextual (disch:=omega) only[go_sem]
  refine A7 (Bh _ _ _ _) ?_
  simp +contextual (disch:=omega) only[go_sem,Gi,h]
 ·simp +contextual (disch:=omega) only[go_sem,Gi,h]
theorem Ry (σ:St) (d:Dot):Ret Tryz.prog A0o [.agg [gi d.rep,gi d.seq]] σ (.bool (Gi d)) σ:=by
 refine Af A6x (Z0z rfl) trivial ?_
 simp +contextual (disch:=omega) only[go_sem,A0p]
 refine A9 (Aw _ _ _ _) (fun h=> ?_) (fun h=> ?_)
 ·simp +contextual (disch:=omega) only[go_sem]
  refine A7 (Aw _ _ _ _) ?_
  simp +contextual (disch:=omega) only[go_sem,Gi,h]
 ·simp +contextual (disch:=omega) only[go_sem,Gi,h]
def at0 (l:List Int) (r:Int):Int:=l.getD r.toNat 0
def B9 (k:List Int) (d:Dot):Bool:=okK k&&Gi d&&decide (d.seq≤at0 k d.rep)
theorem A91 {k:IntKind} {n:Int} (h:0≤n):Ax (some (.int k n))=some n.toNat:=by simp[Ax,h]
theorem A5x {σ:St} {v:GV} {l:List Int} {r:Int} (h:RS pI.kd σ v l) (hk:okK l=true) (h0:0≤r) (h2:r≤2):(Ax (some (gi r))=some r.toNat∧iadG 1 v (some r.toNat)=some (atz 1 v r.toNat))∧ldG false 1 σ (atz 1 v r.toNat)=some (gi (at0 l r)):=by
 have hl:=Gv hk
 have hi:r.toNat<l.length:=by omega
 have e:=Ef h hi
 refine⟨⟨A91 h0,e.1⟩,?_⟩
 rw[e.2,at0,List.getD_eq_getElem?_getD,List.getElem?_eq_getElem hi];rfl
theorem Fi (σ:St) (v:GV) (k:List Int) (d:Dot) (h:RS pI.kd σ v k) (hl:k.length≤1099511627776):Ret Tryz.prog A0q [v,.agg [gi d.rep,gi d.seq]] σ (.bool (B9 k d)) σ:=by
 refine Af A6y (Z0z rfl) trivial ?_
 simp +contextual (disch:=omega) only[go_sem,A0r]
 have h1:=h.pre (pre1 σ (some (Blk.row 1 [gi d.rep,gi d.seq])))
 refine A9 (Fw _ v k h1 hl) (fun hk=> ?_) (fun hk=> ?_)
 ·simp +contextual (disch:=omega) only[go_sem]
  refine A9 (Gw _ d) (fun hd=> ?_) (fun hd=> ?_)
  ·have hd':=Kf.1 hd
   have hr:=A5x h1 hk hd'.1.1 hd'.1.2
   simp +contextual (disch:=omega) only[go_sem,hr,B9,hk,hd]
  ·simp +contextual (disch:=omega) only[go_sem,B9,hk,hd]
 ·simp +contextual (disch:=omega) only[go_sem,B9,hk]
theorem Fj (σ:St) (v:GV) (k:List Int) (d:Dot) (h:RS pI.kd σ v k) (hl:k.length≤1099511627776):Ret Tryz.prog A0s [v,.agg [gi d.rep,gi d.seq]] σ (.bool (B9 k d)) σ:=by
 refine Af A6z (Z0z rfl) trivial ?_
 simp +contextual (disch:=omega) only[go_sem,A0t]
 have h1:=h.pre (pre1 σ (some (Blk.row 1 [gi d.rep,gi d.seq])))
 refine A9 (Fx _ v k h1 hl) (fun hk=> ?_) (fun hk=> ?_)
 ·simp +contextual (disch:=omega) only[go_sem]
  refine A9 (Ry _ d) (fun hd=> ?_) (fun hd=> ?_)
  ·have hd':=Kf.1 hd
   have hr:=A5x h1 hk hd'.1.1 hd'.1.2
   simp +contextual (disch:=omega) only[go_sem,hr,B9,hk,hd]
  ·simp +contextual (disch:=omega) only[go_sem,B9,hk,hd]
 ·simp +contextual (disch:=omega) only[go_sem,B9,hk]
end
section
open Go Go.RowKit
theorem Hl:∀(x y:List UInt8),Op.bytesLess x y=decide (x<y)
 |_,[]=>by simp[Op.bytesLess]
 |[],_::_=>by simp[Op.bytesLess]
 |a::x,b::y=>by
  rw[Op.bytesLess,Hl x y,Bool.eq_iff_iff]
  simp only[Bool.or_eq_true,decide_eq_true_eq,Bool.and_eq_true,beq_iff_eq,List.cons_lt_cons_iff]
def txLt (a b:ByteArray):Bool:=Op.bytesLess a.toList b.toList
theorem A72 {a b:ByteArray} (h:a.toList=b.toList):a=b:=by
 have:=Bn (a:=a) (b:=b)
 rw[h] at this
 simpa using this.symm
theorem Gj (a:ByteArray):txLt a a=false:=by
 rw[txLt,Hl];simp
theorem Lf {a b c:ByteArray} (h1:txLt a b=true) (h2:txLt b c=true):txLt a c=true:=by
 rw[txLt,Hl,decide_eq_true_eq] at*
 exact List.lt_trans h1 h2
theorem Rz {a b:ByteArray} (h1:txLt a b=true):txLt b a=false:=by
 cases h:txLt b a with
 |false=>rfl
 |true=>have:=Lf h1 h;rw[Gj] at this;cases this
theorem Hm {a b:ByteArray} (h1:txLt a b=false) (h2:txLt b a=false):a=b:=by
 rw[txLt,Hl,decide_eq_false_iff_not] at*
 exact A72 (List.le_antisymm (List.not_lt.1 h2) (List.not_lt.1 h1))
@[go_sem] theorem bin_slss {a b:ByteArray}:binG .lss (.str a) (.str b)=some (.bool (txLt a b)):=(rfl)
@[go_sem] theorem bin_sgtr {a b:ByteArray}:binG .gtr (.str a) (.str b)=some (.bool (txLt b a)):=by
 have:(!(txLt a b||decide (a=b)))=txLt b a:=by
  by_cases h:a=b
  ·subst h;simp[Gj]
  ·cases h1:txLt a b with
   |true=>rw[Rz h1];simp
   |false=>
    cases h2:txLt b a with
    |true=>simp[h]
    |false=>exact absurd (Hm h1 h2) h
 simp only[binG,strG,Bn]
 exact congrArg (fun b=>some (GV.bool b)) this
@[go_sem] theorem bin_sgeq {a b:ByteArray}:binG .geq (.str a) (.str b)=some (.bool (!txLt a b)):=(rfl)
@[go_sem] theorem bin_sleq {a b:ByteArray}:binG .leq (.str a) (.str b)=some (.bool (!txLt b a)):=by
 have:(txLt a b||decide (a=b))= !txLt b a:=by
  by_cases h:a=b
  ·subst h;simp[Gj]
  ·cases h1:txLt a b with
   |true=>rw[Rz h1];simp
   |false=>
    cases h2:txLt b a with
    |true=>simp[h]
    |false=>exact absurd (Hm h1 h2) h
 simp only[binG,strG,Bn]
 exact congrArg (fun b=>some (GV.bool b)) this
def cmpI (a b:Int):Int:=if a<b then -1 else if b<a then 1 else 0
def cmpS (a b:ByteArray):Int:=if txLt a b then -1 else if txLt b a then 1 else 0
def orI (a b:Int):Int:=if a=0 then b else a
def S3 (a b:Dot):Int:=orI (cmpI a.rep b.rep) (cmpI a.seq b.seq)
def Iz (a b:Tally):Int:=orI (cmpS a.obj b.obj) (cmpI a.rep b.rep)
def Au (a b:Dot):Bool:=decide (a.rep<b.rep)||decide (a.rep=b.rep)&&decide (a.seq<b.seq)
def Ak (a b:Tally):Bool:=txLt a.obj b.obj||decide (a.obj=b.obj)&&decide (a.rep<b.rep)
theorem Mu {a b:Dot}:decide (S3 a b<0)=Au a b:=by
 unfold S3 Au orI cmpI
 rw[Bool.eq_iff_iff]
 simp only[decide_eq_true_eq,Bool.or_eq_true,Bool.and_eq_true]
 repeat' split
 all_goals omega
theorem S4 {a b:Dot}:decide (0≤S3 a b)= !Au a b:=by
 rw[← Mu,Bool.eq_iff_iff];simp
theorem A92 {a b:Int}:cmpI a b=0↔a=b:=by
 unfold cmpI
 rcases Int.lt_trichotomy a b with h|h|h
 ·rw[if_pos h];omega
 ·subst h;simp
 ·rw[if_neg (by omega),if_pos h];omega
theorem A5y {a b:Int}:cmpI a b<0↔a<b:=by
 unfold cmpI
 rcases Int.lt_trichotomy a b with h|h|h
 ·rw[if_pos h];omega
 ·subst h;simp
 ·rw[if_neg (by omega),if_pos h];omega
theorem Aap {a b:ByteArray}:cmpS a b<0↔txLt a b=true:=by
 unfold cmpS
 cases h1:txLt a b with
 |true=>simp
 |false=>
  cases h2:txLt b a with
  |true=>simp
  |false=>simp
theorem A3v {a b:ByteArray}:cmpS a b=0↔a=b:=by
 unfold cmpS
 cases h1:txLt a b with
 |true=>
  have h3:a≠b:=fun e=>by rw[e,Gj] at h1;cases h1
  simp[h3]
 |false=>
  cases h2:txLt b a with
  |true=>
   have h3:a≠b:=fun e=>by rw[e,Gj] at h2;cases h2
   simp[h3]
  |false=>simp[Hm h1 h2]
theorem S5 {a b:Tally}:decide (Iz a b<0)=Ak a b:=by
 unfold Iz Ak orI
 rw[Bool.eq_iff_iff]
 simp only[decide_eq_true_eq,Bool.or_eq_true,Bool.and_eq_true]
 by_cases h:a.obj=b.obj
 ·rw[if_pos (A3v.2 h),A5y,h,Gj];simp
 ·rw[if_neg (fun e=>h (A3v.1 e)),Aap];simp[h]
theorem A3w {a b:Tally}:decide (0≤Iz a b)= !Ak a b:=by
 rw[← S5,Bool.eq_iff_iff];simp
theorem Ib (a:Dot):Au a a=false:=by simp[Au]
theorem Gx {a b c:Dot} (h1:Au a b=true) (h2:Au b c=true):Au a c=true:=by
 simp only[Au,Bool.or_eq_true,Bool.and_eq_true,decide_eq_true_eq] at *;omega
theorem A0z {a b:Dot} (h1:Au a b=false) (h2:Au b a=false):a=b:=by
 rw[Dot.eq_iff]
 simp only[Au,Bool.or_eq_false_iff,Bool.and_eq_false_iff,decide_eq_false_iff_not] at *;omega
def allR (n:Nat) (p:Nat→Bool):Bool:=(List.range n).all p
theorem Ci {n:Nat} {p:Nat→Bool}:allR n p=true↔∀ i,i<n→p i=true:=by simp[allR]
theorem Od {n i:Nat} {p:Nat→Bool} (hi:i<n) (h:p i=false):allR n p=false:=by
 cases e:allR n p with
 |false=>rfl
 |true=>rw[Ci.1 e i hi] at h;cases h
theorem Lg {n:Nat} {p:Nat→Bool} (h:∀ i,i<n→p i=true):allR n p=true:=Ci.2 h
theorem Dk {i:Nat} {p:Nat→Bool} (h:∀ j,j<i→p j=true) (hi:p i=true):∀ j,j<i+1→p j=true:=fun j hj=>by
 rcases Nat.lt_or_ge j i with h1|h1
 ·exact h j h1
 ·have:j=i:=by omega
  subst this;exact hi
def onI {α:Type} (l:List α) (i:Nat) (p:α→Bool):Bool:=match l[i]? with
 |some x=>p x
 |none=>true
theorem Bs {α:Type} {l:List α} {i:Nat} {p:α→Bool} (hi:i<l.length):onI l i p=p l[i]:=by
 simp only[onI,List.getElem?_eq_getElem hi]
def upI {α:Type} (lt:α→α→Bool) (l:List α):Nat→Bool
 |0=>true
 |i+1=>onI l i fun a=>onI l (i+1) fun b=>lt a b
theorem Kg {α:Type} {lt:α→α→Bool} {l:List α} {i:Nat} (h0:i≠0) (hi:i<l.length) (hj:i - 1<l.length):upI lt l i=lt l[i - 1] l[i]:=by
 cases i with
 |zero=>exact absurd rfl h0
 |succ i=>
  simp only[upI,Nat.add_sub_cancel]
  rw[Bs (by omega),Bs hi]
theorem Qz {α:Type} {lt:α→α→Bool} (ht:∀ a b c,lt a b=true→lt b c=true→lt a c=true) {l:List α} (h:∀ i,i<l.length→upI lt l i=true):l.Pairwise fun a b=>lt a b=true:=by
 have key:∀(j i:Nat) (hi:i<l.length) (hj:j<l.length),i<j→lt l[i] l[j]=true:=by
  intro j
  induction j with
  |zero=>intro i hi hj h;omega
  |succ j ih=>
   intro i hi hj hij
   have h1:=h (j+1) hj
   rw[Kg (by omega) hj (by omega)] at h1
   simp only[Nat.add_sub_cancel] at h1
   rcases Nat.lt_or_ge i j with h2|h2
   ·exact ht _ _ _ (ih i hi (by omega) h2) h1
   ·have:i=j:=by omega
    subst this;exact h1
 rw[List.pairwise_iff_getElem]
 exact fun i j hi hj hij=>key j i hi hj hij
end
section
open Go Go.RowKit
def tal1 (t:Tally):Bool:=Cu t.obj&&(inB t.rep 0 2&&inB t.sum 0 999999)
def talP (l:List Tally) (i:Nat):Bool:=onI l i tal1&&upI Ak l i
def Gy (l:List Tally):Bool:=allR l.length (talP l)&&decide (l.length≤120)
def liv1 (x:Live):Bool:=Cu x.obj&&(Cu x.key&&(inB x.val 0 999999&&(x.map||decide (x.val=0))))
def Eh (a b:Live):Bool:=Au a.dot b.dot
def livP (l:List Live) (k:List Int) (i:Nat):Bool:=(onI l i fun x=>B9 k x.dot)&&((onI l i liv1)&&upI Eh l i)
def Kh (l:List Live) (k:List Int):Bool:=allR l.length (livP l k)&&decide (l.length≤120)
def A73 (l:List Live) (i:Nat):Bool:=(onI l i fun x=>Gi x.dot)&&((onI l i liv1)&&upI Eh l i)
def A74 (l:List Live):Bool:=allR l.length (A73 l)&&decide (l.length≤120)
def cel1 (x:Cell):Bool:=Cu x.obj&&(inB x.val 0 999999&&inB x.time 1 10000)
def Fd (a b:Cell):Bool:=Au a.dot b.dot
def celP (l:List Cell) (k:List Int) (i:Nat):Bool:=(onI l i fun x=>B9 k x.dot)&&((onI l i cel1)&&upI Fd l i)
def Jj (l:List Cell) (k:List Int):Bool:=allR l.length (celP l k)&&decide (l.length≤120)
def refD (x:Cell):Bool:=decide (x.ref=⟨0,0⟩)||Gi x.ref
def A75 (l:List Cell) (i:Nat):Bool:=(onI l i fun x=>Gi x.dot)&&((onI l i cel1)&&((onI l i refD)&&upI Fd l i))
def A76 (l:List Cell):Bool:=allR l.length (A75 l)&&decide (l.length≤120)
def Cj (l:List Cell) (d:Dot):Option Nat:=l.findIdx? fun c=>decide (c.dot=d)
def ref1 (l:List Cell) (c:Cell):Bool:=decide (c.ref=⟨0,0⟩)||match Cj l c.ref with
 |none=>false
 |some k=>onI l k fun y=>decide (y.obj=c.obj)&&decide (y.time<c.time)
def Wc (l:List Cell):Bool:=l.all (ref1 l)
def B7 (s:State):Bool:=okK s.know&&(Gy s.tallies&&(Kh s.lives s.know&&(Jj s.cells s.know&&Wc s.cells)))
def livK (k:List Int) (x:Live):Bool:=B9 k x.dot
def celK (l:List Cell) (k:List Int) (x:Cell):Bool:=B9 k x.dot&&ref1 l x
def E7 (s:State):Bool:=okK s.know&&(Gy s.tallies&&(A74 s.lives&&(A76 s.cells&&(s.lives.all (livK s.know)&&s.cells.all (celK s.cells s.know)))))
theorem Ki {k:List Int} {d:Dot} (h:B9 k d=true):Gi d=true:=by
 simp only[B9,Bool.and_eq_true] at h;exact h.1.2
theorem Bi {l:List Cell} {d:Dot} {k:Nat} (h:Cj l d=some k):∃ hk:k<l.length,l[k].dot=d:=by
 obtain⟨hk,h1,_⟩:=List.findIdx?_eq_some_iff_getElem.1 h
 exact⟨hk,by simpa using h1⟩
theorem Ade {α:Type} {l:List α} {p:α→Bool}:l.all p=allR l.length fun i=>onI l i p:=by
 rw[Bool.eq_iff_iff,Ci,List.all_eq_true]
 constructor
 ·intro h i hi;rw[Bs hi];exact h _ (List.getElem_mem hi)
 ·intro h x hx
  obtain⟨i,hi,rfl⟩:=List.getElem_of_mem hx
  have:=h i hi
  rwa [Bs hi] at this
theorem A3x (s:State):E7 s=B7 s:=by
 unfold E7 B7
 cases h1:okK s.know with
 |false=>rfl
 |true=>
  cases h2:Gy s.tallies with
  |false=>rfl
  |true=>
   simp only[Bool.true_and]
   rw[Bool.eq_iff_iff]
   simp only[Bool.and_eq_true,A74,Kh,A76,Jj,Wc,Ade,Ci,decide_eq_true_eq,A73,livP,A75,celP]
   constructor
   ·rintro⟨⟨hl,hl2⟩,⟨hc,hc2⟩,hlk,hck⟩
    refine⟨⟨fun i hi=>⟨hlk i hi,(hl i hi).2⟩,hl2⟩,⟨fun i hi=> ?_,hc2⟩,fun i hi=> ?_⟩
    ·have:=hck i hi
     have h4:=hc i hi
     rw[Bs hi,celK] at this
     simp only[Bool.and_eq_true] at this
     exact⟨by rw[Bs hi];exact this.1,h4.2.1,h4.2.2.2⟩
    ·have:=hck i hi
     rw[Bs hi] at this ⊢
     rw[celK] at this
     simp only[Bool.and_eq_true] at this
     exact this.2
   ·rintro⟨⟨hl,hl2⟩,⟨hc,hc2⟩,hr⟩
    refine⟨⟨fun i hi=>⟨?_,(hl i hi).2⟩,hl2⟩,⟨fun i hi=>⟨?_,(hc i hi).2.1,?_,(hc i hi).2.2⟩,hc2⟩,fun i hi=>(hl i hi).1,fun i hi=> ?_⟩
    ·have:=(hl i hi).1
     rw[Bs hi] at this ⊢
     exact Ki this
    ·have:=(hc i hi).1
     rw[Bs hi] at this ⊢
     exact Ki this
    ·have:=hr i hi
     rw[Bs hi] at this ⊢
     unfold ref1 at this
     unfold refD
     simp only[Bool.or_eq_true] at this ⊢
     refine this.imp id fun h=> ?_
     split at h
     ·cases h
     ·rename_i k hk
      obtain⟨hkl,e⟩:=Bi hk
      have:=(hc k hkl).1
      rw[Bs hkl,e] at this
      exact Ki this
    ·have h5:=(hc i hi).1
     have h6:=hr i hi
     rw[Bs hi] at h5 h6 ⊢
     rw[celK,h5,h6];rfl
theorem A3y {l:List Cell} {k:List Int} (h:Jj l k=true):l.Pairwise fun a b=>Au a.dot b.dot=true:=by
 simp only[Jj,Bool.and_eq_true,Ci,celP] at h
 exact Qz (lt:=Fd) (fun a b c h1 h2=>Gx h1 h2) fun i hi=>(h.1 i hi).2.2
theorem Aaq {l:List Live} {k:List Int} (h:Kh l k=true):l.Pairwise fun a b=>Au a.dot b.dot=true:=by
 simp only[Kh,Bool.and_eq_true,Ci,livP] at h
 exact Qz (lt:=Eh) (fun a b c h1 h2=>Gx h1 h2) fun i hi=>(h.1 i hi).2.2
def plc:Nat→List Cell→List (Dot×Int)
 |_,[]=>[]
 |n,c::l=>(c.dot,(n:Int))::plc (n+1) l
theorem A5z (c:Cell):∀(n:Nat) (l:List Cell),plc n (l++[c])=plc n l++[(c.dot,((n+l.length:Nat):Int))]
 |n,[]=>rfl
 |n,x::l=>by
  simp only[List.cons_append,plc,A5z c (n+1) l,List.length_cons]
  rw[show n+1+l.length=n+(l.length+1) by omega]
theorem S6 (d:Dot):∀(n:Nat) (l:List Cell),Jr (plc n l) d=(Cj l d).map fun k=>((n+k:Nat):Int)
 |n,[]=>rfl
 |n,x::l=>by
  have ih:=S6 d (n+1) l
  unfold Cj at*
  rw[List.findIdx?_cons]
  by_cases h:x.dot=d
  ·subst h;simp[plc,Jr]
  ·have h':d≠x.dot:=fun e=>h e.symm
   have e:Jr (plc n (x::l)) d=Jr (plc (n+1) l) d:=by simp[plc,Jr,h']
   rw[e,ih]
   simp only[h,decide_false,Bool.false_eq_true,if_false,Option.map_map]
   congr 1
   funext k
   simp only[Function.comp]
   omega
theorem Adf {l:List Cell} (h:l.Pairwise fun a b=>Au a.dot b.dot=true) {i:Nat} (hi:i<l.length):Jr (plc 0 (l.take i)) l[i].dot=none:=by
 rw[S6]
 have:Cj (l.take i) l[i].dot=none:=by
  unfold Cj
  rw[List.findIdx?_eq_none_iff]
  intro c hc
  obtain⟨j,hj,rfl⟩:=List.getElem_of_mem hc
  rw[List.length_take] at hj
  rw[List.getElem_take]
  have:=List.pairwise_iff_getElem.1 h j i (by omega) hi (by omega)
  simp only[decide_eq_false_iff_not]
  intro e
  rw[e,Ib] at this;cases this
 rw[this];rfl
theorem Aar {l:List Cell} {i:Nat} (hi:i<l.length):plc 0 (l.take (i+1))=plc 0 (l.take i)++[(l[i].dot,(i:Int))]:=by
 rw[Bf hi,A5z,List.length_take,show 0+min i l.length=i by omega]
def Bt (l:List Cell) (d:Dot):Int:=match Cj l d with
 |some k=>k
 |none=> -1
theorem A3z {l:List Cell} {d:Dot} {i:Nat} (hi:i<l.length) (h:∀ j (hj:j<i),(l[j]'(by omega)).dot≠d) (he:l[i].dot=d):Cj l d=some i:=by
 unfold Cj
 rw[List.findIdx?_eq_some_iff_getElem]
 exact⟨hi,by simpa using he,fun j hj=>by simpa using h j hj⟩
theorem A40 {l:List Cell} {d:Dot} (h:∀ j (hj:j<l.length),l[j].dot≠d):Cj l d=none:=by
 unfold Cj
 rw[List.findIdx?_eq_none_iff]
 intro c hc
 obtain⟨j,hj,rfl⟩:=List.getElem_of_mem hc
 simpa using h j hj
end
section
open Go Go.RowKit
def crs (c v:GV) (n:Nat):Thg:=⟨fun σ fp=>∃ g i h,c= .ptr g 0∧fp=[g]∧i≤n∧bk σ g=some (.row 1 [v,gi (i:Nat),gi h]),fun⟨g,i,h,h1,h2,h3,h4⟩ hf=>⟨g,i,h,h1,h2,h3,by rw[hf g (by rw[h2];exact List.mem_cons_self)];exact h4⟩⟩
theorem bk_set {σ:St} {g z:Nat} {cs cs':List GV} (hB:bk σ g=some (.row z cs)):bk (σ.set g (some (.row z cs'))) g=some (.row z cs'):=Bc.2 (by rw[List.getElem?_set_self (A6r hB)])
@[go_sem] theorem bit_tup2 {l:List GV}:(GV.tup l).bit=none:=(rfl)
theorem S7 {P:Program} {D:Bool} {os:List Op1}:∀ {K:Env→St→Prop} {env:Env} {σ:St},Ad D P os K env σ→Ad D P os (fun env' σ'=>K env' σ'∧σ.length≤σ'.length) env σ:=by
 induction os with
 |nil=>intro K env σ h;exact⟨h,Nat.le_refl _⟩
 |cons o r ih=>
  intro K env σ h
  simp only[Ad] at h ⊢
  split at h
  ·rename_i hw
   rw[if_pos hw]
   obtain⟨v,σ',hs,hp,hk⟩:=h
   refine⟨v,σ',hs,hp,Br (ih hk) fun env' σ1 hq=>⟨hq.1,?_⟩⟩
   have:=Qr hs
   omega
  ·rename_i hw
   rw[if_neg hw]
   exact ih h
theorem vc_len {P:Program} {d:Cd}:∀ {Q:Ex→Env→St→Prop} {env:Env} {σ:St},vc P d Q env σ→vc P d (fun e env' σ'=>Q e env' σ'∧σ.length≤σ'.length) env σ:=by
 induction d with
 |skip=>intro Q env σ h;exact⟨h,Nat.le_refl _⟩
 |reg ops=>intro Q env σ h;exact S7 h
 |drw xs ys=>
  intro Q env σ h
  refine Br (S7 h) fun env1 σ1 h1=>Br (S7 h1.1) fun env2 σ2 h2=>⟨h2.1,?_⟩
  have:=h1.2
  have:=h2.2
  omega
 |seq a b iha ihb=>
  intro Q env σ h
  refine Av (d:=a) (iha h) fun e env1 σ1 he=> ?_
  cases e with
  |nxt=>exact Av (ihb he.1) fun e env2 σ2 h2=>⟨h2.1,Nat.le_trans he.2 h2.2⟩
  |ext j=>exact he
  |ret=>exact he
 |cnd c a b iha ihb=>
  intro Q env σ h
  obtain⟨t,ht,h1,h2⟩:=h
  exact⟨t,ht,fun e=>iha (h1 e),fun e=>ihb (h2 e)⟩
 |blk id a ih=>
  intro Q env σ h
  refine Av (d:=a) (ih h) fun e env1 σ1 he=> ?_
  cases e with
  |nxt=>exact he
  |ext j=>
   obtain⟨h1,h2⟩:=he
   simp only at h1 ⊢
   split at h1
   ·rename_i hj;rw[if_pos hj];exact⟨h1,h2⟩
   ·rename_i hj;rw[if_neg hj];exact⟨h1,h2⟩
  |ret=>exact he
 |lop a ih=>
  intro Q env σ h
  obtain⟨I,μ,hI,hs⟩:=h
  refine⟨fun env1 σ1=>I env1 σ1∧σ.length≤σ1.length,μ,⟨hI,Nat.le_refl _⟩,fun env1 σ1 hi=>Av (ih (hs env1 σ1 hi.1)) fun e env2 σ2 he=> ?_⟩
  cases e with
  |nxt=>exact⟨⟨he.1.1,Nat.le_trans hi.2 he.2⟩,he.1.2⟩
  |ext j=>exact⟨he.1,Nat.le_trans hi.2 he.2⟩
  |ret=>exact⟨he.1,Nat.le_trans hi.2 he.2⟩
 |ext id=>intro Q env σ h;exact⟨h,Nat.le_refl _⟩
 |ret=>intro Q env σ h;exact⟨h,Nat.le_refl _⟩
theorem Cv {P:Program} {f:Nat} {F:Fn1} {args:List GV} {σ:St} {Post:GV→St→Prop} (hF:A5 P f=some F) (hl:args.length≤F.n)
  (h:vc P F.c (fun e env τ=>Rm e=true∧∃ r,resG env τ F.rs=some r∧Post r τ) (env0 args) σ):∃ r τ,Ret P f args σ r τ∧Post r τ:=
 Ao hF hl (Av (vc_len h) fun e env τ he=>⟨he.1.1,by obtain⟨⟨_,r,h1,h2⟩,h3⟩:=he;exact⟨r,h1,h3,h2⟩⟩)
theorem Ret.le {P:Program} {f:Nat} {args:List GV} {σ τ:St} {r:GV} (h:Ret P f args σ r τ):σ.length≤τ.length:=h.2.1
theorem Hp.crs {σ τ:St} {rs:List Thg} (H:Hp σ τ rs) {k:Nat} {c v:GV} {n:Nat} (hk:rs[k]? =some (crs c v n)):∃(g i:Nat) (h:Int),c= .ptr g 0∧i≤n∧bk τ g=some (.row 1 [v,gi i,gi h])∧∀(i':Nat) (h':Int),i'≤n→Hp σ (τ.set g (some (.row 1 [v,gi i',gi h']))) rs:=by
 obtain⟨a,⟨g,i,h,rfl,rfl,hi,hB⟩,hnd,hbd,ht⟩:=(H.pick k hk).turn
 refine⟨g,i,h,rfl,hi,hB,fun i' h' hi'=> ?_⟩
 have:=Hp.unpick (i:=k) (ht (τ':=τ.set g (some (.row 1 [v,gi i',gi h']))) (r':=Sy.crs (.ptr g 0) v n) (a':=[g]) ⟨by simp,fun g' h=>.inl h,by simp,fun g' h h'=>Fv fun e=>h' (by rw[e];exact List.mem_cons_self)⟩ ⟨g,i',h',rfl,rfl,hi',bk_set hB⟩) (List.getElem?_eq_some_iff.1 hk).1
 obtain⟨h1,h2⟩:=List.getElem?_eq_some_iff.1 hk
 rw[← h2,List.set_getElem_self] at this
 exact this
end
section
open Go Go.RowKit
abbrev Kj:Nat:=230
def Kk:Fn1:=⟨6,[.t 2],(.seq (.reg [o 2 (.mov (.k (.bool false)))]) (.seq (.reg [o 3 (.mov (.t 0)),o 4 (.mov (.t 0)),o 5 (.bin .neq (.t 3) (.t 4)),o 2 (.mov (.t 5))]) .ret))⟩
theorem Qg:A5 Tryz.prog Kj=some Kk:=by kernel_rfl
abbrev Hn:Nat:=392
def Ho:Fn1:=⟨6,[.t 2],(.seq (.reg [o 2 (.mov (.k (.bool false)))]) (.seq (.reg [o 3 (.mov (.t 0)),o 4 (.mov (.t 0)),o 5 (.bin .neq (.t 3) (.t 4)),o 2 (.mov (.t 5))]) .ret))⟩
theorem M5:A5 Tryz.prog Hn=some Ho:=by kernel_rfl
abbrev Ic:Nat:=106
def Id:Fn1:=⟨20,[.t 4],(.seq (.reg [o 4 (.mov (.k (.int .i64 0)))]) (.seq (.reg [o 7 (.mov (.t 0)),o 8 (.call 230 [(.t 7)]),o 5 (.mov (.t 8))]) (.seq (.reg [o 9 (.mov (.t 1)),o 10 (.call 230 [(.t 9)]),o 6 (.mov (.t 10))]) (.seq (.seq (.reg [o 11 (.mov (.t 5))]) (.cnd (.t 11) (.seq (.seq (.reg [o 12 (.mov (.t 6))]) (.cnd (.t 12) (.seq (.reg [o 4 (.mov (.k (.int .i64 0)))]) .ret) .skip)) (.seq (.reg [o 4 (.mov (.k (.int .i64 (-1))))]) .ret)) .skip)) (.seq (.seq (.reg [o 13 (.mov (.t 6))]) (.cnd (.t 13) (.seq (.reg [o 4 (.mov (.k (.int .i64 1)))]) .ret) .skip)) (.seq (.seq (.reg [o 14 (.mov (.t 0)),o 15 (.mov (.t 1)),o 16 (.bin .lss (.t 14) (.t 15))]) (.cnd (.t 16) (.seq (.reg [o 4 (.mov (.k (.int .i64 (-1))))]) .ret) .skip)) (.seq (.seq (.reg [o 17 (.mov (.t 0)),o 18 (.mov (.t 1)),o 19 (.bin .gtr (.t 17) (.t 18))]) (.cnd (.t 19) (.seq (.reg [o 4 (.mov (.k (.int .i64 1)))]) .ret) .skip)) (.seq (.reg [o 4 (.mov (.k (.int .i64 0)))]) .ret))))))))⟩
theorem Mv:A5 Tryz.prog Ic=some Id:=by kernel_rfl
abbrev G7:Nat:=376
def G8:Fn1:=⟨20,[.t 4],(.seq (.reg [o 4 (.mov (.k (.int .i64 0)))]) (.seq (.reg [o 7 (.mov (.t 0)),o 8 (.call 392 [(.t 7)]),o 5 (.mov (.t 8))]) (.seq (.reg [o 9 (.mov (.t 1)),o 10 (.call 392 [(.t 9)]),o 6 (.mov (.t 10))]) (.seq (.seq (.reg [o 11 (.mov (.t 5))]) (.cnd (.t 11) (.seq (.seq (.reg [o 12 (.mov (.t 6))]) (.cnd (.t 12) (.seq (.reg [o 4 (.mov (.k (.int .i64 0)))]) .ret) .skip)) (.seq (.reg [o 4 (.mov (.k (.int .i64 (-1))))]) .ret)) .skip)) (.seq (.seq (.reg [o 13 (.mov (.t 6))]) (.cnd (.t 13) (.seq (.reg [o 4 (.mov (.k (.int .i64 1)))]) .ret) .skip)) (.seq (.seq (.reg [o 14 (.mov (.t 0)),o 15 (.mov (.t 1)),o 16 (.bin .lss (.t 14) (.t 15))]) (.cnd (.t 16) (.seq (.reg [o 4 (.mov (.k (.int .i64 (-1))))]) .ret) .skip)) (.seq (.seq (.reg [o 17 (.mov (.t 0)),o 18 (.mov (.t 1)),o 19 (.bin .gtr (.t 17) (.t 18))]) (.cnd (.t 19) (.seq (.reg [o 4 (.mov (.k (.int .i64 1)))]) .ret) .skip)) (.seq (.reg [o 4 (.mov (.k (.int .i64 0)))]) .ret))))))))⟩
theorem Kl:A5 Tryz.prog G7=some G8:=by kernel_rfl
abbrev P8:Nat:=105
def P9:Fn1:=⟨18,[.t 2],(.seq (.reg [o 2 (.mov (.k (.int .i64 0)))]) (.seq (.reg [o 3 (.mov (.k (.int .i64 0)))]) (.seq (.seq (.reg [o 6 (.mov (.t 0)),o 7 (.len false (.t 6)),o 8 (.mov (.k (.int .i64 0)))]) (.blk 0 (.lop (.seq (.reg [o 9 (.bin .lss (.t 8) (.t 7))]) (.seq (.cnd (.t 9) .skip (.ext 0)) (.seq (.blk 1 (.seq (.reg [o 10 (.iad 1 (.t 6) (.t 8)),o 11 (.ld false 1 (.t 10)),o 5 (.mov (.t 11))]) (.seq (.reg [o 12 (.mov (.t 5)),o 13 (.mov (.t 3)),o 14 (.bin .neq (.t 12) (.t 13))]) (.cnd (.t 14) (.seq (.reg [o 15 (.mov (.t 5)),o 2 (.mov (.t 15))]) .ret) .skip)))) (.reg [o 16 (.bin .add (.t 8) (.k (.int .i64 1))),o 8 (.mov (.t 16))]))))))) (.seq (.reg [o 17 (.mov (.t 3)),o 2 (.mov (.t 17))]) .ret))))⟩
theorem Yn:A5 Tryz.prog P8=some P9:=by kernel_rfl
abbrev Km:Nat:=306
def Kn:Fn1:=⟨17,[.t 4],(.seq (.reg [o 2 (.box (.t 0)),o 3 (.box (.t 1)),o 4 (.mov (.k (.int .i64 0)))]) (.seq (.drw [o 5 (.fad 0 (.t 2)),o 6 (.ld false 1 (.t 5)),o 7 (.fad 0 (.t 3)),o 8 (.ld false 1 (.t 7)),o 9 (.call 106 [(.t 6),(.t 8)]),o 10 (.fad 1 (.t 2)),o 11 (.ld false 1 (.t 10)),o 12 (.fad 1 (.t 3)),o 13 (.ld false 1 (.t 12))] [o 14 (.call 106 [(.t 11),(.t 13)]),o 15 (.lit 1 2 [(.int .i64 0),(.int .i64 0)] [(0,1,(.t 9)),(1,1,(.t 14))]),o 16 (.call 105 [(.t 15)]),o 4 (.mov (.t 16))]) .ret))⟩
theorem Qh:A5 Tryz.prog Km=some Kn:=by kernel_rfl
abbrev Hq:Nat:=324
def Ht:Fn1:=⟨17,[.t 4],(.seq (.reg [o 2 (.box (.t 0)),o 3 (.box (.t 1)),o 4 (.mov (.k (.int .i64 0)))]) (.seq (.drw [o 5 (.fad 0 (.t 2)),o 6 (.ld false 1 (.t 5)),o 7 (.fad 0 (.t 3)),o 8 (.ld false 1 (.t 7)),o 9 (.call 376 [(.t 6),(.t 8)]),o 10 (.fad 1 (.t 2)),o 11 (.ld false 1 (.t 10)),o 12 (.fad 1 (.t 3)),o 13 (.ld false 1 (.t 12))] [o 14 (.call 106 [(.t 11),(.t 13)]),o 15 (.lit 1 2 [(.int .i64 0),(.int .i64 0)] [(0,1,(.t 9)),(1,1,(.t 14))]),o 16 (.call 105 [(.t 15)]),o 4 (.mov (.t 16))]) .ret))⟩
theorem M6:A5 Tryz.prog Hq=some Ht:=by kernel_rfl
abbrev Mw:Nat:=362
def Mx:Fn1:=⟨24,[.t 4],(.seq (.reg [o 2 (.box (.t 0)),o 3 (.box (.t 1)),o 4 (.mov (.k (.bool false)))]) (.seq (.reg [o 5 (.fad 0 (.t 2)),o 6 (.ld false 1 (.t 5)),o 7 (.fad 0 (.t 3)),o 8 (.ld false 1 (.t 7)),o 9 (.bin .lss (.t 6) (.t 8)),o 10 (.mov (.t 9)),og 11 10 false (.fad 0 (.t 2)),og 12 10 false (.ld false 1 (.t 11)),og 13 10 false (.fad 0 (.t 3)),og 14 10 false (.ld false 1 (.t 13)),og 15 10 false (.bin .eql (.t 12) (.t 14)),og 16 10 false (.mov (.t 15)),og 17 16 true (.fad 1 (.t 2)),og 18 16 true (.ld false 1 (.t 17)),og 19 16 true (.fad 1 (.t 3)),og 20 16 true (.ld false 1 (.t 19)),og 21 16 true (.bin .lss (.t 18) (.t 20)),og 22 10 false (.pick (.t 16) (.t 21) (.k (.bool false))),o 23 (.pick (.t 10) (.k (.bool true)) (.t 22)),o 4 (.mov (.t 23))]) .ret))⟩
theorem V4:A5 Tryz.prog Mw=some Mx:=by kernel_rfl
theorem Fk (σ:St) (a:Int):Ret Tryz.prog Kj [gi a] σ (.bool false) σ:=by
 refine Af Qg (Z0z rfl) trivial ?_
 simp +contextual (disch:=omega) only[go_sem,Kk,bne_self_eq_false]
theorem Du (σ:St) (a:ByteArray):Ret Tryz.prog Hn [.str a] σ (.bool false) σ:=by
 refine Af M5 (Z0z rfl) trivial ?_
 simp +contextual (disch:=omega) only[go_sem,Ho,decide_true,Bool.not_true]
theorem Cz (σ:St) (a b:Int):Ret Tryz.prog Ic [gi a,gi b] σ (gi (cmpI a b)) σ:=by
 refine Af Mv (Z0z rfl) trivial ?_
 simp +contextual (disch:=omega) only[go_sem,Id]
 refine A7 (Fk _ _) ?_
 simp +contextual (disch:=omega) only[go_sem]
 refine A7 (Fk _ _) ?_
 simp +contextual (disch:=omega) only[go_sem]
 unfold cmpI
 grind
theorem Js (σ:St) (a b:ByteArray):Ret Tryz.prog G7 [.str a,.str b] σ (gi (cmpS a b)) σ:=by
 refine Af Kl (Z0z rfl) trivial ?_
 simp +contextual (disch:=omega) only[go_sem,G8]
 refine A7 (Du _ _) ?_
 simp +contextual (disch:=omega) only[go_sem]
 refine A7 (Du _ _) ?_
 simp +contextual (disch:=omega) only[go_sem]
 unfold cmpS
 grind
def orL:List Int→Int
 |[]=>0
 |x::l=>if x=0 then orL l else x
theorem I2 (σ:St) (v:GV) (l:List Int) (h:RS pI.kd σ v l) (hl:l.length≤1099511627776):Ret Tryz.prog P8 [v] σ (gi (orL l)) σ:=by
 refine Af Yn (Z0z rfl) trivial ?_
 simp +contextual (disch:=omega) only[go_sem,P9,h.len]
 refine B8 l.length 8 (fun i env τ=>env 3=gi 0∧env 6=v∧env 7=gi l.length∧orL (l.drop i)=orL l∧σ <+: τ) rfl ⟨rfl,rfl,rfl,rfl,List.prefix_refl _⟩ ?_ ?_
 ·rintro i env τ hi e8 c0 ⟨e3,e6,e7,hd,hp⟩
  rw[List.drop_eq_getElem_cons hi,orL] at hd
  simp +contextual (disch:=omega) only[go_sem,c0,e3,e6,e7,e8,Ef (h.pre hp) hi,hp]
  grind
 ·rintro env τ e8 c0 ⟨e3,e6,e7,hd,hp⟩
  rw[List.drop_length] at hd
  simp +contextual (disch:=omega) only[go_sem,c0,e3,e6,e7,e8,hp]
  rw[← hd];rfl
theorem A41 (a b:Int):orL [a,b]=orI a b:=by
 unfold orI
 simp only[orL]
 split
 ·split
  ·omega
  ·rfl
 ·rfl
theorem Cb (σ:St) (a b:Dot):Ret Tryz.prog Km [.agg [gi a.rep,gi a.seq],.agg [gi b.rep,gi b.seq]] σ (gi (S3 a b)) σ:=by
 refine Af Qh (Z0z rfl) trivial ?_
 simp +contextual (disch:=omega) only[go_sem,Kn]
 refine A7 (Cz _ _ _) ?_
 simp +contextual (disch:=omega) only[go_sem]
 refine A7 (Cz _ _ _) ?_
 simp +contextual (disch:=omega) only[go_sem]
 refine A7 (I2 _ _ [cmpI a.rep b.rep,cmpI a.seq b.seq] (A8v (p:=pI) _ _ rfl rfl rfl) (by simp)) ?_
 simp +contextual (disch:=omega) only[go_sem,A41]
 rfl
theorem G9 (σ:St) (a b:Tally):Ret Tryz.prog Hq [.agg [.str a.obj,gi a.rep,gi a.sum],.agg [.str b.obj,gi b.rep,gi b.sum]] σ (gi (Iz a b)) σ:=by
 refine Af M6 (Z0z rfl) trivial ?_
 simp +contextual (disch:=omega) only[go_sem,Ht]
 refine A7 (Js _ _ _) ?_
 simp +contextual (disch:=omega) only[go_sem]
 refine A7 (Cz _ _ _) ?_
 simp +contextual (disch:=omega) only[go_sem]
 refine A7 (I2 _ _ [cmpS a.obj b.obj,cmpI a.rep b.rep] (A8v (p:=pI) _ _ rfl rfl rfl) (by simp)) ?_
 simp +contextual (disch:=omega) only[go_sem,A41]
 rfl
theorem Cm (σ:St) (a b:Dot):Ret Tryz.prog Mw [.agg [gi a.rep,gi a.seq],.agg [gi b.rep,gi b.seq]] σ (.bool (Au a b)) σ:=by
 refine Af V4 (Z0z rfl) trivial ?_
 simp +contextual (disch:=omega) only[go_sem,Mx]
 unfold Au
 grind
end
section
open Go Go.RowKit
abbrev Ls:Nat:=290
def Lt:Fn1:=⟨69,[.t 2],(.seq (.reg [o 2 (.mov (.k (.bool false)))]) (.seq (.seq (.reg [o 3 (.mov (.k (.int .i64 0)))]) (.blk 0 (.lop (.seq (.seq (.reg [o 5 (.mov (.t 3)),o 6 (.mov (.t 0)),o 7 (.len false (.t 6)),o 8 (.bin .lss (.t 5) (.t 7))]) (.cnd (.t 8) .skip (.ext 0))) (.seq (.blk 1 (.seq (.reg [o 11 (.mov (.t 0)),o 12 (.mov (.t 3)),o 13 (.iad 3 (.t 11) (.t 12)),o 14 (.ld true 3 (.t 13)),o 4 (.new [(.str ⟨#[]⟩),(.int .i64 0),(.int .i64 0)]),on (.st 3 (.t 4) (.t 14))]) (.seq (.seq (.reg [o 15 (.fad 0 (.t 4)),o 16 (.ld false 1 (.t 15)),o 17 (.call 348 [(.t 16)]),o 18 (.un .not (.t 17)),o 19 (.mov (.t 18)),og 20 19 false (.fad 1 (.t 4)),og 21 19 false (.ld false 1 (.t 20)),og 22 19 false (.call 122 [(.t 21),(.k (.int .i64 0)),(.k (.int .i64 2))]),og 23 19 false (.un .not (.t 22)),o 24 (.pick (.t 19) (.k (.bool true)) (.t 23)),o 25 (.mov (.t 24)),og 26 25 false (.fad 2 (.t 4)),og 27 25 false (.ld false 1 (.t 26)),og 28 25 false (.call 122 [(.t 27),(.k (.int .i64 0)),(.k (.int .i64 999999))]),og 29 25 false (.un .not (.t 28)),o 30 (.pick (.t 25) (.k (.bool true)) (.t 29))]) (.cnd (.t 30) (.seq (.reg [o 2 (.mov (.k (.bool false)))]) .ret) .skip)) (.seq (.drw [o 31 (.mov (.t 3)),o 32 (.bin .gtr (.t 31) (.k (.int .i64 0))),o 33 (.mov (.t 32)),og 34 33 true (.mov (.t 0)),og 35 33 true (.mov (.t 3)),og 36 33 true (.bin .sub (.t 35) (.k (.int .i64 1))),og 37 33 true (.iad 3 (.t 34) (.t 36)),og 38 33 true (.fad 0 (.t 37)),og 39 33 true (.ld false 1 (.t 38)),og 40 33 true (.fad 0 (.t 4)),og 41 33 true (.ld false 1 (.t 40)),og 42 33 true (.bin .gtr (.t 39) (.t 41)),og 43 33 true (.mov (.t 42)),og 44 43 false (.mov (.t 0)),og 45 43 false (.mov (.t 3)),og 46 43 false (.bin .sub (.t 45) (.k (.int .i64 1))),og 47 43 false (.iad 3 (.t 44) (.t 46)),og 48 43 false (.fad 0 (.t 47)),og 49 43 false (.ld false 1 (.t 48)),og 50 43 false (.fad 0 (.t 4)),og 51 43 false (.ld false 1 (.t 50)),og 52 43 false (.bin .eql (.t 49) (.t 51)),og 53 43 false (.mov (.t 52)),og 54 53 true (.mov (.t 0)),og 55 53 true (.mov (.t 3)),og 56 53 true (.bin .sub (.t 55) (.k (.int .i64 1))),og 57 53 true (.iad 3 (.t 54) (.t 56)),og 58 53 true (.fad 1 (.t 57)),og 59 53 true (.ld false 1 (.t 58)),og 60 53 true (.fad 1 (.t 4)),og 61 53 true (.ld false 1 (.t 60))] [og 62 53 true (.bin .geq (.t 59) (.t 61)),og 63 43 false (.pick (.t 53) (.t 62) (.k (.bool false))),og 64 33 true (.pick (.t 43) (.k (.bool true)) (.t 63)),o 65 (.pick (.t 33) (.t 64) (.k (.bool false)))]) (.cnd (.t 65) (.seq (.reg [o 2 (.mov (.k (.bool false)))]) .ret) .skip))))) (.reg [o 9 (.mov (.t 3)),o 10 (.bin .add (.t 9) (.k (.int .i64 1))),o 3 (.mov (.t 10))])))))) (.seq (.reg [o 66 (.mov (.t 0)),o 67 (.len false (.t 66)),o 68 (.bin .leq (.t 67) (.k (.int .i64 120))),o 2 (.mov (.t 68))]) .ret)))⟩
theorem S8:A5 Tryz.prog Ls=some Lt:=by kernel_rfl
abbrev My:Nat:=285
def Mz:Fn1:=⟨46,[.t 2],(.seq (.reg [o 2 (.mov (.k (.bool false)))]) (.seq (.seq (.reg [o 5 (.mov (.t 0)),o 6 (.len false (.t 5)),o 7 (.mov (.k (.int .i64 0)))]) (.blk 0 (.lop (.seq (.reg [o 8 (.bin .lss (.t 7) (.t 6))]) (.seq (.cnd (.t 8) .skip (.ext 0)) (.seq (.blk 1 (.seq (.reg [o 9 (.mov (.t 7)),o 10 (.iad 3 (.t 5) (.t 7)),o 11 (.ld true 3 (.t 10)),o 4 (.new [(.str ⟨#[]⟩),(.int .i64 0),(.int .i64 0)]),o 3 (.mov (.t 9)),on (.st 3 (.t 4) (.t 11))]) (.seq (.drw [o 12 (.fad 0 (.t 4)),o 13 (.ld false 1 (.t 12)),o 14 (.call 341 [(.t 13)]),o 15 (.un .not (.t 14)),o 16 (.mov (.t 15)),og 17 16 false (.fad 1 (.t 4)),og 18 16 false (.ld false 1 (.t 17)),og 19 16 false (.call 236 [(.t 18),(.k (.int .i64 0)),(.k (.int .i64 2))]),og 20 16 false (.un .not (.t 19)),o 21 (.pick (.t 16) (.k (.bool true)) (.t 20)),o 22 (.mov (.t 21)),og 23 22 false (.fad 2 (.t 4)),og 24 22 false (.ld false 1 (.t 23)),og 25 22 false (.call 236 [(.t 24),(.k (.int .i64 0)),(.k (.int .i64 999999))]),og 26 22 false (.un .not (.t 25)),o 27 (.pick (.t 22) (.k (.bool true)) (.t 26)),o 28 (.mov (.t 27)),og 29 28 false (.mov (.t 3)),og 30 28 false (.bin .gtr (.t 29) (.k (.int .i64 0))),og 31 28 false (.mov (.t 30)),og 32 31 true (.mov (.t 0)),og 33 31 true (.mov (.t 3)),og 34 31 true (.bin .sub (.t 33) (.k (.int .i64 1))),og 35 31 true (.iad 3 (.t 32) (.t 34)),og 36 31 true (.ld true 3 (.t 35)),og 37 31 true (.ld true 3 (.t 4))] [og 38 31 true (.call 324 [(.t 36),(.t 37)]),og 39 31 true (.bin .geq (.t 38) (.k (.int .i64 0))),og 40 28 false (.pick (.t 31) (.t 39) (.k (.bool false))),o 41 (.pick (.t 28) (.k (.bool true)) (.t 40))]) (.cnd (.t 41) (.seq (.reg [o 2 (.mov (.k (.bool false)))]) .ret) .skip)))) (.reg [o 42 (.bin .add (.t 7) (.k (.int .i64 1))),o 7 (.mov (.t 42))]))))))) (.seq (.reg [o 43 (.mov (.t 0)),o 44 (.len false (.t 43)),o 45 (.bin .leq (.t 44) (.k (.int .i64 120))),o 2 (.mov (.t 45))]) .ret)))⟩
theorem V5:A5 Tryz.prog My=some Mz:=by kernel_rfl
abbrev Pa:Nat:=291
def Pb:Fn1:=⟨66,[.t 2],(.seq (.reg [o 2 (.mov (.k (.bool false)))]) (.seq (.seq (.reg [o 3 (.mov (.k (.int .i64 0)))]) (.blk 0 (.lop (.seq (.seq (.reg [o 5 (.mov (.t 3)),o 6 (.mov (.t 0)),o 7 (.len false (.t 6)),o 8 (.bin .lss (.t 5) (.t 7))]) (.cnd (.t 8) .skip (.ext 0))) (.seq (.blk 1 (.seq (.reg [o 11 (.mov (.t 0)),o 12 (.mov (.t 3)),o 13 (.iad 6 (.t 11) (.t 12)),o 14 (.ld true 6 (.t 13)),o 4 (.new [(.bool false),(.str ⟨#[]⟩),(.str ⟨#[]⟩),(.int .i64 0),(.int .i64 0),(.int .i64 0)]),on (.st 6 (.t 4) (.t 14))]) (.seq (.drw [o 15 (.fad 4 (.t 4)),o 16 (.ld true 2 (.t 15)),o 17 (.call 168 [(.t 16)]),o 18 (.un .not (.t 17)),o 19 (.mov (.t 18)),og 20 19 false (.fad 1 (.t 4)),og 21 19 false (.ld false 1 (.t 20)),og 22 19 false (.call 348 [(.t 21)]),og 23 19 false (.un .not (.t 22)),o 24 (.pick (.t 19) (.k (.bool true)) (.t 23)),o 25 (.mov (.t 24)),og 26 25 false (.fad 2 (.t 4)),og 27 25 false (.ld false 1 (.t 26)),og 28 25 false (.call 348 [(.t 27)]),og 29 25 false (.un .not (.t 28)),o 30 (.pick (.t 25) (.k (.bool true)) (.t 29)),o 31 (.mov (.t 30)),og 32 31 false (.fad 3 (.t 4)),og 33 31 false (.ld false 1 (.t 32)),og 34 31 false (.call 122 [(.t 33),(.k (.int .i64 0)),(.k (.int .i64 999999))]),og 35 31 false (.un .not (.t 34)),o 36 (.pick (.t 31) (.k (.bool true)) (.t 35)),o 37 (.mov (.t 36)),og 38 37 false (.fad 0 (.t 4)),og 39 37 false (.ld false 1 (.t 38)),og 40 37 false (.un .not (.t 39)),og 41 37 false (.mov (.t 40)),og 42 41 true (.fad 3 (.t 4)),og 43 41 true (.ld false 1 (.t 42)),og 44 41 true (.bin .neq (.t 43) (.k (.int .i64 0))),og 45 37 false (.pick (.t 41) (.t 44) (.k (.bool false))),o 46 (.pick (.t 37) (.k (.bool true)) (.t 45)),o 47 (.mov (.t 46)),og 48 47 false (.mov (.t 3)),og 49 47 false (.bin .gtr (.t 48) (.k (.int .i64 0))),og 50 47 false (.mov (.t 49)),og 51 50 true (.mov (.t 0)),og 52 50 true (.mov (.t 3)),og 53 50 true (.bin .sub (.t 52) (.k (.int .i64 1))),og 54 50 true (.iad 6 (.t 51) (.t 53)),og 55 50 true (.fad 4 (.t 54)),og 56 50 true (.ld true 2 (.t 55)),og 57 50 true (.fad 4 (.t 4)),og 58 50 true (.ld true 2 (.t 57))] [og 59 50 true (.call 362 [(.t 56),(.t 58)]),og 60 50 true (.un .not (.t 59)),og 61 47 false (.pick (.t 50) (.t 60) (.k (.bool false))),o 62 (.pick (.t 47) (.k (.bool true)) (.t 61))]) (.cnd (.t 62) (.seq (.reg [o 2 (.mov (.k (.bool false)))]) .ret) .skip)))) (.reg [o 9 (.mov (.t 3)),o 10 (.bin .add (.t 9) (.k (.int .i64 1))),o 3 (.mov (.t 10))])))))) (.seq (.reg [o 63 (.mov (.t 0)),o 64 (.len false (.t 63)),o 65 (.bin .leq (.t 64) (.k (.int .i64 120))),o 2 (.mov (.t 65))]) .ret)))⟩
theorem Yo:A5 Tryz.prog Pa=some Pb:=by kernel_rfl
abbrev S9:Nat:=286
def Sa:Fn1:=⟨65,[.t 4],(.seq (.reg [o 4 (.mov (.k (.bool false)))]) (.seq (.seq (.reg [o 7 (.mov (.t 0)),o 8 (.len false (.t 7)),o 9 (.mov (.k (.int .i64 0)))]) (.blk 0 (.lop (.seq (.reg [o 10 (.bin .lss (.t 9) (.t 8))]) (.seq (.cnd (.t 10) .skip (.ext 0)) (.seq (.blk 1 (.seq (.reg [o 11 (.mov (.t 9)),o 12 (.iad 6 (.t 7) (.t 9)),o 13 (.ld true 6 (.t 12)),o 6 (.new [(.bool false),(.str ⟨#[]⟩),(.str ⟨#[]⟩),(.int .i64 0),(.int .i64 0),(.int .i64 0)]),o 5 (.mov (.t 11)),on (.st 6 (.t 6) (.t 13))]) (.seq (.seq (.reg [o 14 (.mov (.t 1)),o 15 (.fad 4 (.t 6)),o 16 (.ld true 2 (.t 15)),o 17 (.call 170 [(.t 14),(.t 16)]),o 18 (.un .not (.t 17)),o 19 (.mov (.t 18)),og 20 19 false (.fad 1 (.t 6)),og 21 19 false (.ld false 1 (.t 20)),og 22 19 false (.call 341 [(.t 21)]),og 23 19 false (.un .not (.t 22)),o 24 (.pick (.t 19) (.k (.bool true)) (.t 23)),o 25 (.mov (.t 24)),og 26 25 false (.fad 2 (.t 6)),og 27 25 false (.ld false 1 (.t 26)),og 28 25 false (.call 341 [(.t 27)]),og 29 25 false (.un .not (.t 28)),o 30 (.pick (.t 25) (.k (.bool true)) (.t 29)),o 31 (.mov (.t 30)),og 32 31 false (.fad 3 (.t 6)),og 33 31 false (.ld false 1 (.t 32)),og 34 31 false (.call 236 [(.t 33),(.k (.int .i64 0)),(.k (.int .i64 999999))]),og 35 31 false (.un .not (.t 34)),o 36 (.pick (.t 31) (.k (.bool true)) (.t 35)),o 37 (.mov (.t 36)),og 38 37 false (.fad 0 (.t 6)),og 39 37 false (.ld false 1 (.t 38)),og 40 37 false (.un .not (.t 39)),og 41 37 false (.mov (.t 40)),og 42 41 true (.fad 3 (.t 6)),og 43 41 true (.ld false 1 (.t 42)),og 44 41 true (.bin .neq (.t 43) (.k (.int .i64 0))),og 45 37 false (.pick (.t 41) (.t 44) (.k (.bool false))),o 46 (.pick (.t 37) (.k (.bool true)) (.t 45))]) (.cnd (.t 46) (.seq (.reg [o 4 (.mov (.k (.bool false)))]) .ret) .skip)) (.seq (.drw [o 47 (.mov (.t 5)),o 48 (.bin .gtr (.t 47) (.k (.int .i64 0))),o 49 (.mov (.t 48)),og 50 49 true (.mov (.t 0)),og 51 49 true (.mov (.t 5)),og 52 49 true (.bin .sub (.t 51) (.k (.int .i64 1))),og 53 49 true (.iad 6 (.t 50) (.t 52)),og 54 49 true (.fad 4 (.t 53)),og 55 49 true (.ld true 2 (.t 54)),og 56 49 true (.fad 4 (.t 6)),og 57 49 true (.ld true 2 (.t 56))] [og 58 49 true (.call 306 [(.t 55),(.t 57)]),og 59 49 true (.bin .geq (.t 58) (.k (.int .i64 0))),o 60 (.pick (.t 49) (.t 59) (.k (.bool false)))]) (.cnd (.t 60) (.seq (.reg [o 4 (.mov (.k (.bool false)))]) .ret) .skip))))) (.reg [o 61 (.bin .add (.t 9) (.k (.int .i64 1))),o 9 (.mov (.t 61))]))))))) (.seq (.reg [o 62 (.mov (.t 0)),o 63 (.len false (.t 62)),o 64 (.bin .leq (.t 63) (.k (.int .i64 120))),o 4 (.mov (.t 64))]) .ret)))⟩
theorem A10:A5 Tryz.prog S9=some Sa:=by kernel_rfl
abbrev Pc:Nat:=292
def Pd:Fn1:=⟨68,[.t 2],(.seq (.reg [o 2 (.mov (.k (.bool false)))]) (.seq (.seq (.reg [o 3 (.mov (.k (.int .i64 0)))]) (.blk 0 (.lop (.seq (.seq (.reg [o 5 (.mov (.t 3)),o 6 (.mov (.t 0)),o 7 (.len false (.t 6)),o 8 (.bin .lss (.t 5) (.t 7))]) (.cnd (.t 8) .skip (.ext 0))) (.seq (.blk 1 (.seq (.reg [o 11 (.mov (.t 0)),o 12 (.mov (.t 3)),o 13 (.iad 8 (.t 11) (.t 12)),o 14 (.ld true 8 (.t 13)),o 4 (.new [(.str ⟨#[]⟩),(.int .i64 0),(.int .i64 0),(.int .i64 0),(.int .i64 0),(.int .i64 0),(.int .i64 0),(.bool false)]),on (.st 8 (.t 4) (.t 14))]) (.seq (.drw [o 15 (.fad 1 (.t 4)),o 16 (.ld true 2 (.t 15)),o 17 (.call 168 [(.t 16)]),o 18 (.un .not (.t 17)),o 19 (.mov (.t 18)),og 20 19 false (.fad 0 (.t 4)),og 21 19 false (.ld false 1 (.t 20)),og 22 19 false (.call 348 [(.t 21)]),og 23 19 false (.un .not (.t 22)),o 24 (.pick (.t 19) (.k (.bool true)) (.t 23)),o 25 (.mov (.t 24)),og 26 25 false (.fad 3 (.t 4)),og 27 25 false (.ld false 1 (.t 26)),og 28 25 false (.call 122 [(.t 27),(.k (.int .i64 1)),(.k (.int .i64 10000))]),og 29 25 false (.un .not (.t 28)),o 30 (.pick (.t 25) (.k (.bool true)) (.t 29)),o 31 (.mov (.t 30)),og 32 31 false (.fad 6 (.t 4)),og 33 31 false (.ld false 1 (.t 32)),og 34 31 false (.call 122 [(.t 33),(.k (.int .i64 0)),(.k (.int .i64 999999))]),og 35 31 false (.un .not (.t 34)),o 36 (.pick (.t 31) (.k (.bool true)) (.t 35)),o 37 (.mov (.t 36)),og 38 37 false (.fad 4 (.t 4)),og 39 37 false (.ld true 2 (.t 38)),og 40 37 false (.build [(.int .i64 0),(.int .i64 0)] []),og 41 37 false (.eqs true [.i .i64,.i .i64] (.t 39) (.t 40)),og 42 37 false (.mov (.t 41)),og 43 42 true (.fad 4 (.t 4)),og 44 42 true (.ld true 2 (.t 43)),og 45 42 true (.call 168 [(.t 44)]),og 46 42 true (.un .not (.t 45)),og 47 37 false (.pick (.t 42) (.t 46) (.k (.bool false))),o 48 (.pick (.t 37) (.k (.bool true)) (.t 47)),o 49 (.mov (.t 48)),og 50 49 false (.mov (.t 3)),og 51 49 false (.bin .gtr (.t 50) (.k (.int .i64 0))),og 52 49 false (.mov (.t 51)),og 53 52 true (.mov (.t 0)),og 54 52 true (.mov (.t 3)),og 55 52 true (.bin .sub (.t 54) (.k (.int .i64 1))),og 56 52 true (.iad 8 (.t 53) (.t 55)),og 57 52 true (.fad 1 (.t 56)),og 58 52 true (.ld true 2 (.t 57)),og 59 52 true (.fad 1 (.t 4)),og 60 52 true (.ld true 2 (.t 59))] [og 61 52 true (.call 362 [(.t 58),(.t 60)]),og 62 52 true (.un .not (.t 61)),og 63 49 false (.pick (.t 52) (.t 62) (.k (.bool false))),o 64 (.pick (.t 49) (.k (.bool true)) (.t 63))]) (.cnd (.t 64) (.seq (.reg [o 2 (.mov (.k (.bool false)))]) .ret) .skip)))) (.reg [o 9 (.mov (.t 3)),o 10 (.bin .add (.t 9) (.k (.int .i64 1))),o 3 (.mov (.t 10))])))))) (.seq (.reg [o 65 (.mov (.t 0)),o 66 (.len false (.t 65)),o 67 (.bin .leq (.t 66) (.k (.int .i64 120))),o 2 (.mov (.t 67))]) .ret)))⟩
theorem Yp:A5 Tryz.prog Pc=some Pd:=by kernel_rfl
abbrev Sb:Nat:=287
def Sd:Fn1:=⟨55,[.t 4],(.seq (.reg [o 4 (.mov (.k (.bool false)))]) (.seq (.seq (.reg [o 7 (.mov (.t 0)),o 8 (.len false (.t 7)),o 9 (.mov (.k (.int .i64 0)))]) (.blk 0 (.lop (.seq (.reg [o 10 (.bin .lss (.t 9) (.t 8))]) (.seq (.cnd (.t 10) .skip (.ext 0)) (.seq (.blk 1 (.seq (.reg [o 11 (.mov (.t 9)),o 12 (.iad 8 (.t 7) (.t 9)),o 13 (.ld true 8 (.t 12)),o 6 (.new [(.str ⟨#[]⟩),(.int .i64 0),(.int .i64 0),(.int .i64 0),(.int .i64 0),(.int .i64 0),(.int .i64 0),(.bool false)]),o 5 (.mov (.t 11)),on (.st 8 (.t 6) (.t 13))]) (.seq (.seq (.reg [o 14 (.mov (.t 1)),o 15 (.fad 1 (.t 6)),o 16 (.ld true 2 (.t 15)),o 17 (.call 170 [(.t 14),(.t 16)]),o 18 (.un .not (.t 17)),o 19 (.mov (.t 18)),og 20 19 false (.fad 0 (.t 6)),og 21 19 false (.ld false 1 (.t 20)),og 22 19 false (.call 341 [(.t 21)]),og 23 19 false (.un .not (.t 22)),o 24 (.pick (.t 19) (.k (.bool true)) (.t 23)),o 25 (.mov (.t 24)),og 26 25 false (.fad 6 (.t 6)),og 27 25 false (.ld false 1 (.t 26)),og 28 25 false (.call 236 [(.t 27),(.k (.int .i64 0)),(.k (.int .i64 999999))]),og 29 25 false (.un .not (.t 28)),o 30 (.pick (.t 25) (.k (.bool true)) (.t 29)),o 31 (.mov (.t 30)),og 32 31 false (.fad 3 (.t 6)),og 33 31 false (.ld false 1 (.t 32)),og 34 31 false (.call 236 [(.t 33),(.k (.int .i64 1)),(.k (.int .i64 10000))]),og 35 31 false (.un .not (.t 34)),o 36 (.pick (.t 31) (.k (.bool true)) (.t 35))]) (.cnd (.t 36) (.seq (.reg [o 4 (.mov (.k (.bool false)))]) .ret) .skip)) (.seq (.drw [o 37 (.mov (.t 5)),o 38 (.bin .gtr (.t 37) (.k (.int .i64 0))),o 39 (.mov (.t 38)),og 40 39 true (.mov (.t 0)),og 41 39 true (.mov (.t 5)),og 42 39 true (.bin .sub (.t 41) (.k (.int .i64 1))),og 43 39 true (.iad 8 (.t 40) (.t 42)),og 44 39 true (.fad 1 (.t 43)),og 45 39 true (.ld true 2 (.t 44)),og 46 39 true (.fad 1 (.t 6)),og 47 39 true (.ld true 2 (.t 46))] [og 48 39 true (.call 306 [(.t 45),(.t 47)]),og 49 39 true (.bin .geq (.t 48) (.k (.int .i64 0))),o 50 (.pick (.t 39) (.t 49) (.k (.bool false)))]) (.cnd (.t 50) (.seq (.reg [o 4 (.mov (.k (.bool false)))]) .ret) .skip))))) (.reg [o 51 (.bin .add (.t 9) (.k (.int .i64 1))),o 9 (.mov (.t 51))]))))))) (.seq (.reg [o 52 (.mov (.t 0)),o 53 (.len false (.t 52)),o 54 (.bin .leq (.t 53) (.k (.int .i64 120))),o 4 (.mov (.t 54))]) .ret)))⟩
theorem A11:A5 Tryz.prog Sb=some Sd:=by kernel_rfl
theorem Wd {α:Type} {l:List α} {n:Nat}:decide ((l.length:Int)≤(n:Nat))=decide (l.length≤n):=by
 rw[Bool.eq_iff_iff];simp only[decide_eq_true_eq];omega
theorem sub1 {i:Nat} (h:0<i):(i:Int) - 1=((i - 1:Nat):Int):=by omega
theorem A42 (a b:Tally):Ak a b= !(txLt b.obj a.obj||decide (a.obj=b.obj)&&decide (b.rep≤a.rep)):=by
 unfold Ak
 by_cases h:a.obj=b.obj
 ·rw[h,Gj];rw[Bool.eq_iff_iff];simp
 ·cases h1:txLt a.obj b.obj with
  |true=>simp[h,Rz h1]
  |false=>
   cases h2:txLt b.obj a.obj with
   |true=>simp[h]
   |false=>exact absurd (Hm h1 h2) h
theorem A60 (m:Bool) (n:Int):m=true∨(m=false∧(n != 0)=false∧n=0)∨(m=false∧(n != 0)=true∧n≠0):=by
 cases m
 ·by_cases h:n=0
  ·exact .inr (.inl ⟨rfl,by simp[h],h⟩)
  ·exact .inr (.inr ⟨rfl,by simp[h],h⟩)
 ·exact .inl rfl
theorem Qi (σ:St) (v:GV) (l:List Tally) (h:RS Ar.kd σ v l) (hl:l.length≤1099511627776) (hsz:∀ x∈l,x.obj.size≤1099511627776):Ret Tryz.prog Ls [v] σ (.bool (Gy l)) σ:=by
 refine Af S8 (Z0z rfl) trivial ?_
 simp +contextual (disch:=omega) only[go_sem,Lt,h.len]
 refine B8 l.length 3 (fun i env τ=>env 0=v∧(∀ j,j<i→talP l j=true)∧σ <+: τ) rfl ⟨rfl,fun j hj=>by omega,List.prefix_refl _⟩ ?_ ?_
 ·rintro i env τ hi ei c0 ⟨e0,ha,hp⟩
  have hno:talP l i=false→Gy l=false:=fun hh=>by simp[Gy,Od hi hh]
  have hat:talP l i=((Cu l[i].obj&&(inB l[i].rep 0 2&&inB l[i].sum 0 999999))&&upI Ak l i):=by simp only[talP,tal1,Bs hi]
  simp +contextual (disch:=omega) only[go_sem,c0,e0,ei,Aa (h.pre hp) hi,fun r=>Aa (h.pre (A1 hp r)) hi,h.len,A1 hp _,hp]
  refine A9 (Eg _ l[i].obj (hsz _ (List.getElem_mem hi))) (fun h0=> ?_) (fun h0=> ?_)
  rotate_left
  ·simp +contextual (disch:=omega) only[go_sem,c0,e0,ei,Aa (h.pre hp) hi,fun r=>Aa (h.pre (A1 hp r)) hi,h.len,A1 hp _,hp]
   simp[hno (by rw[hat];simp[h0])]
  simp +contextual (disch:=omega) only[go_sem,c0,e0,ei,Aa (h.pre hp) hi,fun r=>Aa (h.pre (A1 hp r)) hi,h.len,A1 hp _,hp]
  refine A9 (Bh _ _ _ _) (fun h1=> ?_) (fun h1=> ?_)
  rotate_left
  ·simp +contextual (disch:=omega) only[go_sem,c0,e0,ei,Aa (h.pre hp) hi,fun r=>Aa (h.pre (A1 hp r)) hi,h.len,A1 hp _,hp]
   simp[hno (by rw[hat];simp[h1])]
  simp +contextual (disch:=omega) only[go_sem,c0,e0,ei,Aa (h.pre hp) hi,fun r=>Aa (h.pre (A1 hp r)) hi,h.len,A1 hp _,hp]
  refine A9 (Bh _ _ _ _) (fun h2=> ?_) (fun h2=> ?_)
  rotate_left
  ·simp +contextual (disch:=omega) only[go_sem,c0,e0,ei,Aa (h.pre hp) hi,fun r=>Aa (h.pre (A1 hp r)) hi,h.len,A1 hp _,hp]
   simp[hno (by rw[hat];simp[h2])]
  simp +contextual (disch:=omega) only[go_sem,c0,e0,ei,Aa (h.pre hp) hi,fun r=>Aa (h.pre (A1 hp r)) hi,h.len,A1 hp _,hp]
  rcases Nat.eq_zero_or_pos i with hz|hz
  ·subst hz
   simp +contextual (disch:=omega) only[go_sem,Int.ofNat_zero,decide_false,Int.lt_irrefl,c0,e0,ei,Aa (h.pre hp) hi,fun r=>Aa (h.pre (A1 hp r)) hi,h.len,A1 hp _,hp]
   refine Dk ha (by rw[hat];simp[h0,h1,h2,upI])
  ·have c1:decide ((0:Int)<i)=true:=by simp;omega
   have hj:i - 1<l.length:=by omega
   have hz':i≠0:=by omega
   simp only[Kg hz' hi hj] at hat
   simp +contextual (disch:=omega) only[go_sem,c1,sub1 hz,Aa (h.pre hp) hj,fun r=>Aa (h.pre (A1 hp r)) hj,c0,e0,ei,Aa (h.pre hp) hi,fun r=>Aa (h.pre (A1 hp r)) hi,h.len,A1 hp _,hp]
   rw[A42] at hat
   generalize txLt l[i].obj l[i-1].obj=b1 at*
   generalize decide (l[i-1].obj=l[i].obj)=b2 at*
   grind
 ·rintro env τ ei c0 ⟨e0,ha,hp⟩
  simp +contextual (disch:=omega) only[go_sem,c0,e0,ei,h.len,hp]
  simp only[Gy,Lg ha,Bool.true_and]
  exact Wd
theorem Se (σ:St) (v:GV) (l:List Tally) (h:RS Ar.kd σ v l) (hl:l.length≤1099511627776) (hsz:∀ x∈l,x.obj.size≤1099511627776):Ret Tryz.prog My [v] σ (.bool (Gy l)) σ:=by
 refine Af V5 (Z0z rfl) trivial ?_
 simp +contextual (disch:=omega) only[go_sem,Mz,h.len]
 refine B8 l.length 7 (fun i env τ=>env 0=v∧env 5=v∧env 6=gi l.length∧(∀ j,j<i→talP l j=true)∧σ <+: τ) rfl ⟨rfl,rfl,rfl,fun j hj=>by omega,List.prefix_refl _⟩ ?_ ?_
 ·rintro i env τ hi ei c0 ⟨e0,e5,e6,ha,hp⟩
  have hno:talP l i=false→Gy l=false:=fun hh=>by simp[Gy,Od hi hh]
  have hat:talP l i=((Cu l[i].obj&&(inB l[i].rep 0 2&&inB l[i].sum 0 999999))&&upI Ak l i):=by simp only[talP,tal1,Bs hi]
  simp +contextual (disch:=omega) only[go_sem,c0,e0,e5,e6,ei,Aa (h.pre hp) hi,fun r=>Aa (h.pre (A1 hp r)) hi,h.len,A1 hp _,hp]
  refine A9 (Dj _ l[i].obj (hsz _ (List.getElem_mem hi))) (fun h0=> ?_) (fun h0=> ?_)
  rotate_left
  ·simp +contextual (disch:=omega) only[go_sem,c0,e0,e5,e6,ei,Aa (h.pre hp) hi,fun r=>Aa (h.pre (A1 hp r)) hi,h.len,A1 hp _,hp]
   simp[hno (by rw[hat];simp[h0])]
  simp +contextual (disch:=omega) only[go_sem,c0,e0,e5,e6,ei,Aa (h.pre hp) hi,fun r=>Aa (h.pre (A1 hp r)) hi,h.len,A1 hp _,hp]
  refine A9 (Aw _ _ _ _) (fun h1=> ?_) (fun h1=> ?_)
  rotate_left
  ·simp +contextual (disch:=omega) only[go_sem,c0,e0,e5,e6,ei,Aa (h.pre hp) hi,fun r=>Aa (h.pre (A1 hp r)) hi,h.len,A1 hp _,hp]
   simp[hno (by rw[hat];simp[h1])]
  simp +contextual (disch:=omega) only[go_sem,c0,e0,e5,e6,ei,Aa (h.pre hp) hi,fun r=>Aa (h.pre (A1 hp r)) hi,h.len,A1 hp _,hp]
  refine A9 (Aw _ _ _ _) (fun h2=> ?_) (fun h2=> ?_)
  rotate_left
  ·simp +contextual (disch:=omega) only[go_sem,c0,e0,e5,e6,ei,Aa (h.pre hp) hi,fun r=>Aa (h.pre (A1 hp r)) hi,h.len,A1 hp _,hp]
   simp[hno (by rw[hat];simp[h2])]
  simp +contextual (disch:=omega) only[go_sem,c0,e0,e5,e6,ei,Aa (h.pre hp) hi,fun r=>Aa (h.pre (A1 hp r)) hi,h.len,A1 hp _,hp]
  rcases Nat.eq_zero_or_pos i with hz|hz
  ·subst hz
   simp +contextual (disch:=omega) only[go_sem,Int.ofNat_zero,decide_false,Int.lt_irrefl,c0,e0,e5,e6,ei,Aa (h.pre hp) hi,fun r=>Aa (h.pre (A1 hp r)) hi,h.len,A1 hp _,hp]
   refine Dk ha (by rw[hat];simp[h0,h1,h2,upI])
  ·have c1:decide ((0:Int)<i)=true:=by simp;omega
   have hj:i - 1<l.length:=by omega
   have hz':i≠0:=by omega
   simp only[Kg hz' hi hj] at hat
   simp +contextual (disch:=omega) only[go_sem,c1,sub1 hz,Aa (h.pre hp) hj,fun r=>Aa (h.pre (A1 hp r)) hj,c0,e0,e5,e6,ei,Aa (h.pre hp) hi,fun r=>Aa (h.pre (A1 hp r)) hi,h.len,A1 hp _,hp]
   refine A7 (G9 _ l[i-1] l[i]) ?_
   simp +contextual (disch:=omega) only[go_sem,A3w,c1,sub1 hz,Aa (h.pre hp) hj,fun r=>Aa (h.pre (A1 hp r)) hj,c0,e0,e5,e6,ei,Aa (h.pre hp) hi,fun r=>Aa (h.pre (A1 hp r)) hi,h.len,A1 hp _,hp]
   cases ho:Ak l[i-1] l[i] with
   |true=>
    simp +contextual (disch:=omega) only[go_sem,c1,sub1 hz,Aa (h.pre hp) hj,fun r=>Aa (h.pre (A1 hp r)) hj,c0,e0,e5,e6,ei,Aa (h.pre hp) hi,fun r=>Aa (h.pre (A1 hp r)) hi,h.len,A1 hp _,hp]
    exact Dk ha (by rw[hat];simp[h0,h1,h2,ho])
   |false=>
    simp +contextual (disch:=omega) only[go_sem,c1,sub1 hz,Aa (h.pre hp) hj,fun r=>Aa (h.pre (A1 hp r)) hj,c0,e0,e5,e6,ei,Aa (h.pre hp) hi,fun r=>Aa (h.pre (A1 hp r)) hi,h.len,A1 hp _,hp]
    simp[hno (by rw[hat];simp[ho])]
 ·rintro env τ ei c0 ⟨e0,e5,e6,ha,hp⟩
  simp +contextual (disch:=omega) only[go_sem,c0,e0,e5,e6,ei,h.len,hp]
  simp only[Gy,Lg ha,Bool.true_and]
  exact Wd
theorem V6 (σ:St) (v:GV) (l:List Live) (h:RS Ay.kd σ v l) (hl:l.length≤1099511627776) (hsz:∀ x∈l,x.obj.size≤1099511627776∧x.key.size≤1099511627776):Ret Tryz.prog Pa [v] σ (.bool (A74 l)) σ:=by
 refine Af Yo (Z0z rfl) trivial ?_
 simp +contextual (disch:=omega) only[go_sem,Pb,h.len]
 refine B8 l.length 3 (fun i env τ=>env 0=v∧(∀ j,j<i→A73 l j=true)∧σ <+: τ) rfl ⟨rfl,fun j hj=>by omega,List.prefix_refl _⟩ ?_ ?_
 ·rintro i env τ hi ei c0 ⟨e0,ha,hp⟩
  have hno:A73 l i=false→A74 l=false:=fun hh=>by simp[A74,Od hi hh]
  have hat:A73 l i=(Gi l[i].dot&&((Cu l[i].obj&&(Cu l[i].key&&(inB l[i].val 0 999999&&(l[i].map||decide (l[i].val=0)))))&&upI Eh l i)):=by simp only[A73,liv1,Bs hi]
  simp +contextual (disch:=omega) only[go_sem,c0,e0,ei,A3 (h.pre hp) hi,fun r=>A3 (h.pre (A1 hp r)) hi,h.len,A1 hp _,hp]
  refine A9 (Gw _ l[i].dot) (fun h0=> ?_) (fun h0=> ?_)
  rotate_left
  ·simp +contextual (disch:=omega) only[go_sem,c0,e0,ei,A3 (h.pre hp) hi,fun r=>A3 (h.pre (A1 hp r)) hi,h.len,A1 hp _,hp]
   simp[hno (by rw[hat];simp[h0])]
  simp +contextual (disch:=omega) only[go_sem,c0,e0,ei,A3 (h.pre hp) hi,fun r=>A3 (h.pre (A1 hp r)) hi,h.len,A1 hp _,hp]
  refine A9 (Eg _ l[i].obj (hsz _ (List.getElem_mem hi)).1) (fun h1=> ?_) (fun h1=> ?_)
  rotate_left
  ·simp +contextual (disch:=omega) only[go_sem,c0,e0,ei,A3 (h.pre hp) hi,fun r=>A3 (h.pre (A1 hp r)) hi,h.len,A1 hp _,hp]
   simp[hno (by rw[hat];simp[h1])]
  simp +contextual (disch:=omega) only[go_sem,c0,e0,ei,A3 (h.pre hp) hi,fun r=>A3 (h.pre (A1 hp r)) hi,h.len,A1 hp _,hp]
  refine A9 (Eg _ l[i].key (hsz _ (List.getElem_mem hi)).2) (fun h2=> ?_) (fun h2=> ?_)
  rotate_left
  ·simp +contextual (disch:=omega) only[go_sem,c0,e0,ei,A3 (h.pre hp) hi,fun r=>A3 (h.pre (A1 hp r)) hi,h.len,A1 hp _,hp]
   simp[hno (by rw[hat];simp[h2])]
  simp +contextual (disch:=omega) only[go_sem,c0,e0,ei,A3 (h.pre hp) hi,fun r=>A3 (h.pre (A1 hp r)) hi,h.len,A1 hp _,hp]
  refine A9 (Bh _ _ _ _) (fun h3=> ?_) (fun h3=> ?_)
  rotate_left
  ·simp +contextual (disch:=omega) only[go_sem,c0,e0,ei,A3 (h.pre hp) hi,fun r=>A3 (h.pre (A1 hp r)) hi,h.len,A1 hp _,hp]
   simp[hno (by rw[hat];simp[h3])]
  simp +contextual (disch:=omega) only[go_sem,c0,e0,ei,A3 (h.pre hp) hi,fun r=>A3 (h.pre (A1 hp r)) hi,h.len,A1 hp _,hp]
  rcases A60 l[i].map l[i].val with hm|⟨hm,hv,hv'⟩|⟨hm,hv,hv'⟩
  rotate_left 2
  ·simp +contextual (disch:=omega) only[go_sem,hm,hv,c0,e0,ei,A3 (h.pre hp) hi,fun r=>A3 (h.pre (A1 hp r)) hi,h.len,A1 hp _,hp]
   simp[hno (by rw[hat];simp[hm,hv'])]
  ·simp +contextual (disch:=omega) only[go_sem,hm,c0,e0,ei,A3 (h.pre hp) hi,fun r=>A3 (h.pre (A1 hp r)) hi,h.len,A1 hp _,hp]
   rcases Nat.eq_zero_or_pos i with hz|hz
   ·subst hz
    simp +contextual (disch:=omega) only[go_sem,Int.ofNat_zero,decide_false,Int.lt_irrefl,hm,c0,e0,ei,A3 (h.pre hp) hi,fun r=>A3 (h.pre (A1 hp r)) hi,h.len,A1 hp _,hp]
    refine Dk ha (by rw[hat];simp[h0,h1,h2,h3,hm,upI])
   ·have c1:decide ((0:Int)<i)=true:=by simp;omega
    have hj:i - 1<l.length:=by omega
    have hz':i≠0:=by omega
    simp only[Kg hz' hi hj] at hat
    simp +contextual (disch:=omega) only[go_sem,c1,sub1 hz,A3 (h.pre hp) hj,fun r=>A3 (h.pre (A1 hp r)) hj,hm,c0,e0,ei,A3 (h.pre hp) hi,fun r=>A3 (h.pre (A1 hp r)) hi,h.len,A1 hp _,hp]
    refine A7 (Cm _ l[i-1].dot l[i].dot) ?_
    cases ho:Au l[i-1].dot l[i].dot with
    |true=>
     simp +contextual (disch:=omega) only[go_sem,c1,sub1 hz,A3 (h.pre hp) hj,fun r=>A3 (h.pre (A1 hp r)) hj,hm,c0,e0,ei,A3 (h.pre hp) hi,fun r=>A3 (h.pre (A1 hp r)) hi,h.len,A1 hp _,hp]
     exact Dk ha (by rw[hat];simp[h0,h1,h2,h3,hm,ho,Eh])
    |false=>
     simp +contextual (disch:=omega) only[go_sem,c1,sub1 hz,A3 (h.pre hp) hj,fun r=>A3 (h.pre (A1 hp r)) hj,hm,c0,e0,ei,A3 (h.pre hp) hi,fun r=>A3 (h.pre (A1 hp r)) hi,h.len,A1 hp _,hp]
     simp[hno (by rw[hat];simp[ho,Eh])]
  ·simp +contextual (disch:=omega) only[go_sem,hm,hv,c0,e0,ei,A3 (h.pre hp) hi,fun r=>A3 (h.pre (A1 hp r)) hi,h.len,A1 hp _,hp]
   rcases Nat.eq_zero_or_pos i with hz|hz
   ·subst hz
    simp +contextual (disch:=omega) only[go_sem,Int.ofNat_zero,decide_false,Int.lt_irrefl,hm,hv,c0,e0,ei,A3 (h.pre hp) hi,fun r=>A3 (h.pre (A1 hp r)) hi,h.len,A1 hp _,hp]
    refine Dk ha (by rw[hat];simp[h0,h1,h2,h3,hm,decide_eq_true hv',upI])
   ·have c1:decide ((0:Int)<i)=true:=by simp;omega
    have hj:i - 1<l.length:=by omega
    have hz':i≠0:=by omega
    simp only[Kg hz' hi hj] at hat
    simp +contextual (disch:=omega) only[go_sem,c1,sub1 hz,A3 (h.pre hp) hj,fun r=>A3 (h.pre (A1 hp r)) hj,hm,hv,c0,e0,ei,A3 (h.pre hp) hi,fun r=>A3 (h.pre (A1 hp r)) hi,h.len,A1 hp _,hp]
    refine A7 (Cm _ l[i-1].dot l[i].dot) ?_
    cases ho:Au l[i-1].dot l[i].dot with
    |true=>
     simp +contextual (disch:=omega) only[go_sem,c1,sub1 hz,A3 (h.pre hp) hj,fun r=>A3 (h.pre (A1 hp r)) hj,hm,hv,c0,e0,ei,A3 (h.pre hp) hi,fun r=>A3 (h.pre (A1 hp r)) hi,h.len,A1 hp _,hp]
     exact Dk ha (by rw[hat];simp[h0,h1,h2,h3,hm,decide_eq_true hv',ho,Eh])
    |false=>
     simp +contextual (disch:=omega) only[go_sem,c1,sub1 hz,A3 (h.pre hp) hj,fun r=>A3 (h.pre (A1 hp r)) hj,hm,hv,c0,e0,ei,A3 (h.pre hp) hi,fun r=>A3 (h.pre (A1 hp r)) hi,h.len,A1 hp _,hp]
     simp[hno (by rw[hat];simp[ho,Eh])]
 ·rintro env τ ei c0 ⟨e0,ha,hp⟩
  simp +contextual (disch:=omega) only[go_sem,c0,e0,ei,h.len,hp]
  simp only[A74,Lg ha,Bool.true_and]
  exact Wd
theorem Yq (σ:St) (v:GV) (l:List Live) (h:RS Ay.kd σ v l) (u:GV) (k:List Int) (hk:RS pI.kd σ u k) (hlk:k.length≤1099511627776) (hl:l.length≤1099511627776) (hsz:∀ x∈l,x.obj.size≤1099511627776∧x.key.size≤1099511627776):Ret Tryz.prog S9 [v,u] σ (.bool (Kh l k)) σ:=by
 refine Af A10 (Z0z rfl) trivial ?_
 simp +contextual (disch:=omega) only[go_sem,Sa,h.len]
 refine B8 l.length 9 (fun i env τ=>env 0=v∧env 1=u∧env 7=v∧env 8=gi l.length∧(∀ j,j<i→livP l k j=true)∧σ <+: τ) rfl ⟨rfl,rfl,rfl,rfl,fun j hj=>by omega,List.prefix_refl _⟩ ?_ ?_
 ·rintro i env τ hi ei c0 ⟨e0,e1,e7,e8,ha,hp⟩
  have hno:livP l k i=false→Kh l k=false:=fun hh=>by simp[Kh,Od hi hh]
  have hat:livP l k i=(B9 k l[i].dot&&((Cu l[i].obj&&(Cu l[i].key&&(inB l[i].val 0 999999&&(l[i].map||decide (l[i].val=0)))))&&upI Eh l i)):=by simp only[livP,liv1,Bs hi]
  simp +contextual (disch:=omega) only[go_sem,c0,e0,e1,e7,e8,ei,A3 (h.pre hp) hi,fun r=>A3 (h.pre (A1 hp r)) hi,h.len,A1 hp _,hp]
  refine A9 (Fj _ u k l[i].dot (hk.pre (A1 hp _)) hlk) (fun h0=> ?_) (fun h0=> ?_)
  rotate_left
  ·simp +contextual (disch:=omega) only[go_sem,c0,e0,e1,e7,e8,ei,A3 (h.pre hp) hi,fun r=>A3 (h.pre (A1 hp r)) hi,h.len,A1 hp _,hp]
   simp[hno (by rw[hat];simp[h0])]
  simp +contextual (disch:=omega) only[go_sem,c0,e0,e1,e7,e8,ei,A3 (h.pre hp) hi,fun r=>A3 (h.pre (A1 hp r)) hi,h.len,A1 hp _,hp]
  refine A9 (Dj _ l[i].obj (hsz _ (List.getElem_mem hi)).1) (fun h1=> ?_) (fun h1=> ?_)
  rotate_left
  ·simp +contextual (disch:=omega) only[go_sem,c0,e0,e1,e7,e8,ei,A3 (h.pre hp) hi,fun r=>A3 (h.pre (A1 hp r)) hi,h.len,A1 hp _,hp]
   simp[hno (by rw[hat];simp[h1])]
  simp +contextual (disch:=omega) only[go_sem,c0,e0,e1,e7,e8,ei,A3 (h.pre hp) hi,fun r=>A3 (h.pre (A1 hp r)) hi,h.len,A1 hp _,hp]
  refine A9 (Dj _ l[i].key (hsz _ (List.getElem_mem hi)).2) (fun h2=> ?_) (fun h2=> ?_)
  rotate_left
  ·simp +contextual (disch:=omega) only[go_sem,c0,e0,e1,e7,e8,ei,A3 (h.pre hp) hi,fun r=>A3 (h.pre (A1 hp r)) hi,h.len,A1 hp _,hp]
   simp[hno (by rw[hat];simp[h2])]
  simp +contextual (disch:=omega) only[go_sem,c0,e0,e1,e7,e8,ei,A3 (h.pre hp) hi,fun r=>A3 (h.pre (A1 hp r)) hi,h.len,A1 hp _,hp]
  refine A9 (Aw _ _ _ _) (fun h3=> ?_) (fun h3=> ?_)
  rotate_left
  ·simp +contextual (disch:=omega) only[go_sem,c0,e0,e1,e7,e8,ei,A3 (h.pre hp) hi,fun r=>A3 (h.pre (A1 hp r)) hi,h.len,A1 hp _,hp]
   simp[hno (by rw[hat];simp[h3])]
  simp +contextual (disch:=omega) only[go_sem,c0,e0,e1,e7,e8,ei,A3 (h.pre hp) hi,fun r=>A3 (h.pre (A1 hp r)) hi,h.len,A1 hp _,hp]
  rcases A60 l[i].map l[i].val with hm|⟨hm,hv,hv'⟩|⟨hm,hv,hv'⟩
  rotate_left 2
  ·simp +contextual (disch:=omega) only[go_sem,hm,hv,c0,e0,e1,e7,e8,ei,A3 (h.pre hp) hi,fun r=>A3 (h.pre (A1 hp r)) hi,h.len,A1 hp _,hp]
   simp[hno (by rw[hat];simp[hm,hv'])]
  ·simp +contextual (disch:=omega) only[go_sem,hm,c0,e0,e1,e7,e8,ei,A3 (h.pre hp) hi,fun r=>A3 (h.pre (A1 hp r)) hi,h.len,A1 hp _,hp]
   rcases Nat.eq_zero_or_pos i with hz|hz
   ·subst hz
    simp +contextual (disch:=omega) only[go_sem,Int.ofNat_zero,decide_false,Int.lt_irrefl,hm,c0,e0,e1,e7,e8,ei,A3 (h.pre hp) hi,fun r=>A3 (h.pre (A1 hp r)) hi,h.len,A1 hp _,hp]
    refine Dk ha (by rw[hat];simp[h0,h1,h2,h3,hm,upI])
   ·have c1:decide ((0:Int)<i)=true:=by simp;omega
    have hj:i - 1<l.length:=by omega
    have hz':i≠0:=by omega
    simp only[Kg hz' hi hj] at hat
    simp +contextual (disch:=omega) only[go_sem,c1,sub1 hz,A3 (h.pre hp) hj,fun r=>A3 (h.pre (A1 hp r)) hj,hm,c0,e0,e1,e7,e8,ei,A3 (h.pre hp) hi,fun r=>A3 (h.pre (A1 hp r)) hi,h.len,A1 hp _,hp]
    refine A7 (Cb _ l[i-1].dot l[i].dot) ?_
    simp +contextual (disch:=omega) only[go_sem,S4,c1,sub1 hz,A3 (h.pre hp) hj,fun r=>A3 (h.pre (A1 hp r)) hj,hm,c0,e0,e1,e7,e8,ei,A3 (h.pre hp) hi,fun r=>A3 (h.pre (A1 hp r)) hi,h.len,A1 hp _,hp]
    cases ho:Au l[i-1].dot l[i].dot with
    |true=>
     simp +contextual (disch:=omega) only[go_sem,c1,sub1 hz,A3 (h.pre hp) hj,fun r=>A3 (h.pre (A1 hp r)) hj,hm,c0,e0,e1,e7,e8,ei,A3 (h.pre hp) hi,fun r=>A3 (h.pre (A1 hp r)) hi,h.len,A1 hp _,hp]
     exact Dk ha (by rw[hat];simp[h0,h1,h2,h3,hm,ho,Eh])
    |false=>
     simp +contextual (disch:=omega) only[go_sem,c1,sub1 hz,A3 (h.pre hp) hj,fun r=>A3 (h.pre (A1 hp r)) hj,hm,c0,e0,e1,e7,e8,ei,A3 (h.pre hp) hi,fun r=>A3 (h.pre (A1 hp r)) hi,h.len,A1 hp _,hp]
     simp[hno (by rw[hat];simp[ho,Eh])]
  ·simp +contextual (disch:=omega) only[go_sem,hm,hv,c0,e0,e1,e7,e8,ei,A3 (h.pre hp) hi,fun r=>A3 (h.pre (A1 hp r)) hi,h.len,A1 hp _,hp]
   rcases Nat.eq_zero_or_pos i with hz|hz
   ·subst hz
    simp +contextual (disch:=omega) only[go_sem,Int.ofNat_zero,decide_false,Int.lt_irrefl,hm,hv,c0,e0,e1,e7,e8,ei,A3 (h.pre hp) hi,fun r=>A3 (h.pre (A1 hp r)) hi,h.len,A1 hp _,hp]
    refine Dk ha (by rw[hat];simp[h0,h1,h2,h3,hm,decide_eq_true hv',upI])
   ·have c1:decide ((0:Int)<i)=true:=by simp;omega
    have hj:i - 1<l.length:=by omega
    have hz':i≠0:=by omega
    simp only[Kg hz' hi hj] at hat
    simp +contextual (disch:=omega) only[go_sem,c1,sub1 hz,A3 (h.pre hp) hj,fun r=>A3 (h.pre (A1 hp r)) hj,hm,hv,c0,e0,e1,e7,e8,ei,A3 (h.pre hp) hi,fun r=>A3 (h.pre (A1 hp r)) hi,h.len,A1 hp _,hp]
    refine A7 (Cb _ l[i-1].dot l[i].dot) ?_
    simp +contextual (disch:=omega) only[go_sem,S4,c1,sub1 hz,A3 (h.pre hp) hj,fun r=>A3 (h.pre (A1 hp r)) hj,hm,hv,c0,e0,e1,e7,e8,ei,A3 (h.pre hp) hi,fun r=>A3 (h.pre (A1 hp r)) hi,h.len,A1 hp _,hp]
    cases ho:Au l[i-1].dot l[i].dot with
    |true=>
     simp +contextual (disch:=omega) only[go_sem,c1,sub1 hz,A3 (h.pre hp) hj,fun r=>A3 (h.pre (A1 hp r)) hj,hm,hv,c0,e0,e1,e7,e8,ei,A3 (h.pre hp) hi,fun r=>A3 (h.pre (A1 hp r)) hi,h.len,A1 hp _,hp]
     exact Dk ha (by rw[hat];simp[h0,h1,h2,h3,hm,decide_eq_true hv',ho,Eh])
    |false=>
     simp +contextual (disch:=omega) only[go_sem,c1,sub1 hz,A3 (h.pre hp) hj,fun r=>A3 (h.pre (A1 hp r)) hj,hm,hv,c0,e0,e1,e7,e8,ei,A3 (h.pre hp) hi,fun r=>A3 (h.pre (A1 hp r)) hi,h.len,A1 hp _,hp]
     simp[hno (by rw[hat];simp[ho,Eh])]
 ·rintro env τ ei c0 ⟨e0,e1,e7,e8,ha,hp⟩
  simp +contextual (disch:=omega) only[go_sem,c0,e0,e1,e7,e8,ei,h.len,hp]
  simp only[Kh,Lg ha,Bool.true_and]
  exact Wd
theorem V7 (σ:St) (v:GV) (l:List Cell) (h:RS Ai.kd σ v l) (hl:l.length≤1099511627776) (hsz:∀ x∈l,x.obj.size≤1099511627776):Ret Tryz.prog Pc [v] σ (.bool (A76 l)) σ:=by
 refine Af Yp (Z0z rfl) trivial ?_
 simp +contextual (disch:=omega) only[go_sem,Pd,h.len]
 refine B8 l.length 3 (fun i env τ=>env 0=v∧(∀ j,j<i→A75 l j=true)∧σ <+: τ) rfl ⟨rfl,fun j hj=>by omega,List.prefix_refl _⟩ ?_ ?_
 ·rintro i env τ hi ei c0 ⟨e0,ha,hp⟩
  have hno:A75 l i=false→A76 l=false:=fun hh=>by simp[A76,Od hi hh]
  have hat:A75 l i=(Gi l[i].dot&&((Cu l[i].obj&&(inB l[i].val 0 999999&&inB l[i].time 1 10000))&&((decide (l[i].ref=⟨0,0⟩)||Gi l[i].ref)&&upI Fd l i))):=by simp only[A75,cel1,refD,Bs hi]
  simp +contextual (disch:=omega) only[go_sem,c0,e0,ei,A4 (h.pre hp) hi,fun r=>A4 (h.pre (A1 hp r)) hi,h.len,A1 hp _,hp]
  refine A9 (Gw _ l[i].dot) (fun h0=> ?_) (fun h0=> ?_)
  rotate_left
  ·simp +contextual (disch:=omega) only[go_sem,c0,e0,ei,A4 (h.pre hp) hi,fun r=>A4 (h.pre (A1 hp r)) hi,h.len,A1 hp _,hp]
   simp[hno (by rw[hat];simp[h0])]
  simp +contextual (disch:=omega) only[go_sem,c0,e0,ei,A4 (h.pre hp) hi,fun r=>A4 (h.pre (A1 hp r)) hi,h.len,A1 hp _,hp]
  refine A9 (Eg _ l[i].obj (hsz _ (List.getElem_mem hi))) (fun h1=> ?_) (fun h1=> ?_)
  rotate_left
  ·simp +contextual (disch:=omega) only[go_sem,c0,e0,ei,A4 (h.pre hp) hi,fun r=>A4 (h.pre (A1 hp r)) hi,h.len,A1 hp _,hp]
   simp[hno (by rw[hat];simp[h1])]
  simp +contextual (disch:=omega) only[go_sem,c0,e0,ei,A4 (h.pre hp) hi,fun r=>A4 (h.pre (A1 hp r)) hi,h.len,A1 hp _,hp]
  refine A9 (Bh _ _ _ _) (fun h2=> ?_) (fun h2=> ?_)
  rotate_left
  ·simp +contextual (disch:=omega) only[go_sem,c0,e0,ei,A4 (h.pre hp) hi,fun r=>A4 (h.pre (A1 hp r)) hi,h.len,A1 hp _,hp]
   simp[hno (by rw[hat];simp[h2])]
  simp +contextual (disch:=omega) only[go_sem,c0,e0,ei,A4 (h.pre hp) hi,fun r=>A4 (h.pre (A1 hp r)) hi,h.len,A1 hp _,hp]
  refine A9 (Bh _ _ _ _) (fun h3=> ?_) (fun h3=> ?_)
  rotate_left
  ·simp +contextual (disch:=omega) only[go_sem,c0,e0,ei,A4 (h.pre hp) hi,fun r=>A4 (h.pre (A1 hp r)) hi,h.len,A1 hp _,hp]
   simp[hno (by rw[hat];simp[h3])]
  simp +contextual (disch:=omega) only[go_sem,c0,e0,ei,A4 (h.pre hp) hi,fun r=>A4 (h.pre (A1 hp r)) hi,h.len,A1 hp _,hp]
  by_cases hr:l[i].ref=⟨0,0⟩
  ·have hrd:=decide_eq_true hr
   simp +contextual (disch:=omega) only[go_sem,hrd,c0,e0,ei,A4 (h.pre hp) hi,fun r=>A4 (h.pre (A1 hp r)) hi,h.len,A1 hp _,hp]
   rcases Nat.eq_zero_or_pos i with hz|hz
   ·subst hz
    simp +contextual (disch:=omega) only[go_sem,Int.ofNat_zero,decide_false,Int.lt_irrefl,hrd,c0,e0,ei,A4 (h.pre hp) hi,fun r=>A4 (h.pre (A1 hp r)) hi,h.len,A1 hp _,hp]
    refine Dk ha (by rw[hat];simp[h0,h1,h2,h3,hrd,upI])
   ·have c1:decide ((0:Int)<i)=true:=by simp;omega
    have hj:i - 1<l.length:=by omega
    have hz':i≠0:=by omega
    simp only[Kg hz' hi hj] at hat
    simp +contextual (disch:=omega) only[go_sem,c1,sub1 hz,A4 (h.pre hp) hj,fun r=>A4 (h.pre (A1 hp r)) hj,hrd,c0,e0,ei,A4 (h.pre hp) hi,fun r=>A4 (h.pre (A1 hp r)) hi,h.len,A1 hp _,hp]
    refine A7 (Cm _ l[i-1].dot l[i].dot) ?_
    cases ho:Au l[i-1].dot l[i].dot with
    |true=>
     simp +contextual (disch:=omega) only[go_sem,c1,sub1 hz,A4 (h.pre hp) hj,fun r=>A4 (h.pre (A1 hp r)) hj,hrd,c0,e0,ei,A4 (h.pre hp) hi,fun r=>A4 (h.pre (A1 hp r)) hi,h.len,A1 hp _,hp]
     exact Dk ha (by rw[hat];simp[h0,h1,h2,h3,hrd,ho,Fd])
    |false=>
     simp +contextual (disch:=omega) only[go_sem,c1,sub1 hz,A4 (h.pre hp) hj,fun r=>A4 (h.pre (A1 hp r)) hj,hrd,c0,e0,ei,A4 (h.pre hp) hi,fun r=>A4 (h.pre (A1 hp r)) hi,h.len,A1 hp _,hp]
     simp[hno (by rw[hat];simp[ho,Fd])]
  ·have hrd:=decide_eq_false hr
   simp +contextual (disch:=omega) only[go_sem,hrd,c0,e0,ei,A4 (h.pre hp) hi,fun r=>A4 (h.pre (A1 hp r)) hi,h.len,A1 hp _,hp]
   refine A9 (Gw _ l[i].ref) (fun hq=> ?_) (fun hq=> ?_)
   rotate_left
   ·simp +contextual (disch:=omega) only[go_sem,hrd,c0,e0,ei,A4 (h.pre hp) hi,fun r=>A4 (h.pre (A1 hp r)) hi,h.len,A1 hp _,hp]
    simp[hno (by rw[hat];simp[hrd,hq])]
   simp +contextual (disch:=omega) only[go_sem,hrd,c0,e0,ei,A4 (h.pre hp) hi,fun r=>A4 (h.pre (A1 hp r)) hi,h.len,A1 hp _,hp]
   rcases Nat.eq_zero_or_pos i with hz|hz
   ·subst hz
    simp +contextual (disch:=omega) only[go_sem,Int.ofNat_zero,decide_false,Int.lt_irrefl,hrd,c0,e0,ei,A4 (h.pre hp) hi,fun r=>A4 (h.pre (A1 hp r)) hi,h.len,A1 hp _,hp]
    refine Dk ha (by rw[hat];simp[h0,h1,h2,h3,hrd,hq,upI])
   ·have c1:decide ((0:Int)<i)=true:=by simp;omega
    have hj:i - 1<l.length:=by omega
    have hz':i≠0:=by omega
    simp only[Kg hz' hi hj] at hat
    simp +contextual (disch:=omega) only[go_sem,c1,sub1 hz,A4 (h.pre hp) hj,fun r=>A4 (h.pre (A1 hp r)) hj,hrd,c0,e0,ei,A4 (h.pre hp) hi,fun r=>A4 (h.pre (A1 hp r)) hi,h.len,A1 hp _,hp]
    refine A7 (Cm _ l[i-1].dot l[i].dot) ?_
    cases ho:Au l[i-1].dot l[i].dot with
    |true=>
     simp +contextual (disch:=omega) only[go_sem,c1,sub1 hz,A4 (h.pre hp) hj,fun r=>A4 (h.pre (A1 hp r)) hj,hrd,c0,e0,ei,A4 (h.pre hp) hi,fun r=>A4 (h.pre (A1 hp r)) hi,h.len,A1 hp _,hp]
     exact Dk ha (by rw[hat];simp[h0,h1,h2,h3,hrd,hq,ho,Fd])
    |false=>
     simp +contextual (disch:=omega) only[go_sem,c1,sub1 hz,A4 (h.pre hp) hj,fun r=>A4 (h.pre (A1 hp r)) hj,hrd,c0,e0,ei,A4 (h.pre hp) hi,fun r=>A4 (h.pre (A1 hp r)) hi,h.len,A1 hp _,hp]
     simp[hno (by rw[hat];simp[ho,Fd])]
 ·rintro env τ ei c0 ⟨e0,ha,hp⟩
  simp +contextual (disch:=omega) only[go_sem,c0,e0,ei,h.len,hp]
  simp only[A76,Lg ha,Bool.true_and]
  exact Wd
theorem Yr (σ:St) (v:GV) (l:List Cell) (h:RS Ai.kd σ v l) (u:GV) (k:List Int) (hk:RS pI.kd σ u k) (hlk:k.length≤1099511627776) (hl:l.length≤1099511627776) (hsz:∀ x∈l,x.obj.size≤1099511627776):Ret Tryz.prog Sb [v,u] σ (.bool (Jj l k)) σ:=by
 refine Af A11 (Z0z rfl) trivial ?_
 simp +contextual (disch:=omega) only[go_sem,Sd,h.len]
 refine B8 l.length 9 (fun i env τ=>env 0=v∧env 1=u∧env 7=v∧env 8=gi l.length∧(∀ j,j<i→celP l k j=true)∧σ <+: τ) rfl ⟨rfl,rfl,rfl,rfl,fun j hj=>by omega,List.prefix_refl _⟩ ?_ ?_
 ·rintro i env τ hi ei c0 ⟨e0,e1,e7,e8,ha,hp⟩
  have hno:celP l k i=false→Jj l k=false:=fun hh=>by simp[Jj,Od hi hh]
  have hat:celP l k i=(B9 k l[i].dot&&((Cu l[i].obj&&(inB l[i].val 0 999999&&inB l[i].time 1 10000))&&upI Fd l i)):=by simp only[celP,cel1,Bs hi]
  simp +contextual (disch:=omega) only[go_sem,c0,e0,e1,e7,e8,ei,A4 (h.pre hp) hi,fun r=>A4 (h.pre (A1 hp r)) hi,h.len,A1 hp _,hp]
  refine A9 (Fj _ u k l[i].dot (hk.pre (A1 hp _)) hlk) (fun h0=> ?_) (fun h0=> ?_)
  rotate_left
  ·simp +contextual (disch:=omega) only[go_sem,c0,e0,e1,e7,e8,ei,A4 (h.pre hp) hi,fun r=>A4 (h.pre (A1 hp r)) hi,h.len,A1 hp _,hp]
   simp[hno (by rw[hat];simp[h0])]
  simp +contextual (disch:=omega) only[go_sem,c0,e0,e1,e7,e8,ei,A4 (h.pre hp) hi,fun r=>A4 (h.pre (A1 hp r)) hi,h.len,A1 hp _,hp]
  refine A9 (Dj _ l[i].obj (hsz _ (List.getElem_mem hi))) (fun h1=> ?_) (fun h1=> ?_)
  rotate_left
  ·simp +contextual (disch:=omega) only[go_sem,c0,e0,e1,e7,e8,ei,A4 (h.pre hp) hi,fun r=>A4 (h.pre (A1 hp r)) hi,h.len,A1 hp _,hp]
   simp[hno (by rw[hat];simp[h1])]
  simp +contextual (disch:=omega) only[go_sem,c0,e0,e1,e7,e8,ei,A4 (h.pre hp) hi,fun r=>A4 (h.pre (A1 hp r)) hi,h.len,A1 hp _,hp]
  refine A9 (Aw _ _ _ _) (fun h2=> ?_) (fun h2=> ?_)
  rotate_left
  ·simp +contextual (disch:=omega) only[go_sem,c0,e0,e1,e7,e8,ei,A4 (h.pre hp) hi,fun r=>A4 (h.pre (A1 hp r)) hi,h.len,A1 hp _,hp]
   simp[hno (by rw[hat];simp[h2])]
  simp +contextual (disch:=omega) only[go_sem,c0,e0,e1,e7,e8,ei,A4 (h.pre hp) hi,fun r=>A4 (h.pre (A1 hp r)) hi,h.len,A1 hp _,hp]
  refine A9 (Aw _ _ _ _) (fun h3=> ?_) (fun h3=> ?_)
  rotate_left
  ·simp +contextual (disch:=omega) only[go_sem,c0,e0,e1,e7,e8,ei,A4 (h.pre hp) hi,fun r=>A4 (h.pre (A1 hp r)) hi,h.len,A1 hp _,hp]
   simp[hno (by rw[hat];simp[h3])]
  simp +contextual (disch:=omega) only[go_sem,c0,e0,e1,e7,e8,ei,A4 (h.pre hp) hi,fun r=>A4 (h.pre (A1 hp r)) hi,h.len,A1 hp _,hp]
  rcases Nat.eq_zero_or_pos i with hz|hz
  ·subst hz
   simp +contextual (disch:=omega) only[go_sem,Int.ofNat_zero,decide_false,Int.lt_irrefl,c0,e0,e1,e7,e8,ei,A4 (h.pre hp) hi,fun r=>A4 (h.pre (A1 hp r)) hi,h.len,A1 hp _,hp]
   refine Dk ha (by rw[hat];simp[h0,h1,h2,h3,upI])
  ·have c1:decide ((0:Int)<i)=true:=by simp;omega
   have hj:i - 1<l.length:=by omega
   have hz':i≠0:=by omega
   simp only[Kg hz' hi hj] at hat
   simp +contextual (disch:=omega) only[go_sem,c1,sub1 hz,A4 (h.pre hp) hj,fun r=>A4 (h.pre (A1 hp r)) hj,c0,e0,e1,e7,e8,ei,A4 (h.pre hp) hi,fun r=>A4 (h.pre (A1 hp r)) hi,h.len,A1 hp _,hp]
   refine A7 (Cb _ l[i-1].dot l[i].dot) ?_
   simp +contextual (disch:=omega) only[go_sem,S4,c1,sub1 hz,A4 (h.pre hp) hj,fun r=>A4 (h.pre (A1 hp r)) hj,c0,e0,e1,e7,e8,ei,A4 (h.pre hp) hi,fun r=>A4 (h.pre (A1 hp r)) hi,h.len,A1 hp _,hp]
   cases ho:Au l[i-1].dot l[i].dot with
   |true=>
    simp +contextual (disch:=omega) only[go_sem,c1,sub1 hz,A4 (h.pre hp) hj,fun r=>A4 (h.pre (A1 hp r)) hj,c0,e0,e1,e7,e8,ei,A4 (h.pre hp) hi,fun r=>A4 (h.pre (A1 hp r)) hi,h.len,A1 hp _,hp]
    exact Dk ha (by rw[hat];simp[h0,h1,h2,h3,ho,Fd])
   |false=>
    simp +contextual (disch:=omega) only[go_sem,c1,sub1 hz,A4 (h.pre hp) hj,fun r=>A4 (h.pre (A1 hp r)) hj,c0,e0,e1,e7,e8,ei,A4 (h.pre hp) hi,fun r=>A4 (h.pre (A1 hp r)) hi,h.len,A1 hp _,hp]
    simp[hno (by rw[hat];simp[ho,Fd])]
 ·rintro env τ ei c0 ⟨e0,e1,e7,e8,ha,hp⟩
  simp +contextual (disch:=omega) only[go_sem,c0,e0,e1,e7,e8,ei,h.len,hp]
  simp only[Jj,Lg ha,Bool.true_and]
  exact Wd
end
section
open Go Go.RowKit
abbrev Adg:Nat:=165
def Adh:Fn1:=⟨2,[.t 0],(.seq (.reg [o 0 (.mov (.k .nilS))]) (.seq (.reg [o 1 (.mks 1 8 [(.int .i64 0)] (.k (.int .i64 3)) (.k (.int .i64 3))),o 0 (.mov (.t 1))]) .ret))⟩
abbrev Adi:Nat:=179
def Adj:Fn1:=⟨2,[.t 0],(.seq (.reg [o 0 (.mov (.k .nilS))]) (.seq (.reg [o 1 (.mks 1 8 [(.int .i64 0)] (.k (.int .i64 3)) (.k (.int .i64 3))),o 0 (.mov (.t 1))]) .ret))⟩
abbrev Pe:Nat:=182
def Pf:Fn1:=⟨6,[.t 2],(.seq (.reg [o 2 (.mov (.k .nilS))]) (.seq (.reg [o 3 (.lit 1 0 [] []),o 4 (.mov (.t 0)),o 5 (.app 1 8 [(.int .i64 0)] (.t 3) (.t 4)),o 2 (.mov (.t 5))]) .ret))⟩
theorem Ys:A5 Tryz.prog Pe=some Pf:=by kernel_rfl
abbrev Adk:Nat:=181
def Adl:Fn1:=⟨43,[.t 4],(.seq (.reg [o 4 (.mov (.k .nilS))]) (.seq (.reg [o 8 (.lit 1 0 [] []),o 5 (.mov (.t 8))]) (.seq (.seq (.reg [o 9 (.mov (.t 0)),o 10 (.call 167 [(.t 9)]),o 11 (.un .not (.t 10)),o 12 (.mov (.t 11)),og 13 12 false (.mov (.t 1)),og 14 12 false (.call 167 [(.t 13)]),og 15 12 false (.un .not (.t 14)),o 16 (.pick (.t 12) (.k (.bool true)) (.t 15))]) (.cnd (.t 16) (.seq (.reg [o 17 (.mov (.t 5)),o 4 (.mov (.t 17))]) .ret) .skip)) (.seq (.seq (.reg [o 6 (.mov (.k (.int .i64 0)))]) (.blk 0 (.lop (.seq (.seq (.reg [o 18 (.mov (.t 6)),o 19 (.mov (.t 0)),o 20 (.len false (.t 19)),o 21 (.bin .lss (.t 18) (.t 20))]) (.cnd (.t 21) .skip (.ext 0))) (.seq (.blk 1 (.seq (.reg [o 24 (.mov (.t 0)),o 25 (.mov (.t 6)),o 26 (.iad 1 (.t 24) (.t 25)),o 27 (.ld false 1 (.t 26)),o 7 (.mov (.t 27))]) (.seq (.seq (.reg [o 28 (.mov (.t 1)),o 29 (.mov (.t 6)),o 30 (.iad 1 (.t 28) (.t 29)),o 31 (.ld false 1 (.t 30)),o 32 (.mov (.t 7)),o 33 (.bin .gtr (.t 31) (.t 32))]) (.cnd (.t 33) (.reg [o 34 (.mov (.t 1)),o 35 (.mov (.t 6)),o 36 (.iad 1 (.t 34) (.t 35)),o 37 (.ld false 1 (.t 36)),o 7 (.mov (.t 37))]) .skip)) (.reg [o 38 (.mov (.t 5)),o 39 (.mov (.t 7)),o 40 (.lit 1 1 [(.int .i64 0)] [(0,1,(.t 39))]),o 41 (.app 1 8 [(.int .i64 0)] (.t 38) (.t 40)),o 5 (.mov (.t 41))])))) (.reg [o 22 (.mov (.t 6)),o 23 (.bin .add (.t 22) (.k (.int .i64 1))),o 6 (.mov (.t 23))])))))) (.seq (.reg [o 42 (.mov (.t 5)),o 4 (.mov (.t 42))]) .ret)))))⟩
abbrev Adm:Nat:=180
def Adn:Fn1:=⟨36,[.t 4],(.seq (.reg [o 4 (.mov (.k .nilS))]) (.seq (.seq (.reg [o 8 (.mov (.t 0)),o 9 (.call 176 [(.t 8)]),o 10 (.un .not (.t 9)),o 11 (.mov (.t 10)),og 12 11 false (.mov (.t 1)),og 13 11 false (.call 176 [(.t 12)]),og 14 11 false (.un .not (.t 13)),o 15 (.pick (.t 11) (.k (.bool true)) (.t 14))]) (.cnd (.t 15) (.seq (.reg [o 4 (.mov (.k .nilS))]) .ret) .skip)) (.seq (.reg [o 16 (.mov (.t 0)),o 17 (.call 182 [(.t 16)]),o 5 (.mov (.t 17))]) (.seq (.seq (.reg [o 18 (.mov (.t 1)),o 19 (.len false (.t 18)),o 20 (.mov (.k (.int .i64 0)))]) (.blk 0 (.lop (.seq (.reg [o 21 (.bin .lss (.t 20) (.t 19))]) (.seq (.cnd (.t 21) .skip (.ext 0)) (.seq (.blk 1 (.seq (.reg [o 22 (.mov (.t 20)),o 23 (.iad 1 (.t 18) (.t 20)),o 24 (.ld false 1 (.t 23)),o 6 (.mov (.t 22)),o 7 (.mov (.t 24))]) (.reg [o 25 (.mov (.t 5)),o 26 (.mov (.t 6)),o 27 (.mov (.t 5)),o 28 (.mov (.t 6)),o 29 (.iad 1 (.t 27) (.t 28)),o 30 (.ld false 1 (.t 29)),o 31 (.mov (.t 7)),o 32 (.mm true (.t 30) (.t 31)),o 33 (.iad 1 (.t 25) (.t 26)),on (.st 1 (.t 33) (.t 32))]))) (.reg [o 34 (.bin .add (.t 20) (.k (.int .i64 1))),o 20 (.mov (.t 34))]))))))) (.seq (.reg [o 35 (.mov (.t 5)),o 4 (.mov (.t 35))]) .ret)))))⟩
abbrev We:Nat:=178
def Wf:Fn1:=⟨29,[.t 4],(.seq (.reg [o 4 (.mov (.k (.bool false)))]) (.seq (.seq (.reg [o 6 (.mov (.t 0)),o 7 (.call 167 [(.t 6)]),o 8 (.un .not (.t 7)),o 9 (.mov (.t 8)),og 10 9 false (.mov (.t 1)),og 11 9 false (.call 167 [(.t 10)]),og 12 9 false (.un .not (.t 11)),o 13 (.pick (.t 9) (.k (.bool true)) (.t 12))]) (.cnd (.t 13) (.seq (.reg [o 4 (.mov (.k (.bool false)))]) .ret) .skip)) (.seq (.seq (.reg [o 5 (.mov (.k (.int .i64 0)))]) (.blk 0 (.lop (.seq (.seq (.reg [o 14 (.mov (.t 5)),o 15 (.mov (.t 0)),o 16 (.len false (.t 15)),o 17 (.bin .lss (.t 14) (.t 16))]) (.cnd (.t 17) .skip (.ext 0))) (.seq (.blk 1 (.seq (.drw [o 20 (.mov (.t 0)),o 21 (.mov (.t 5)),o 22 (.iad 1 (.t 20) (.t 21)),o 23 (.ld false 1 (.t 22)),o 24 (.mov (.t 1)),o 25 (.mov (.t 5)),o 26 (.iad 1 (.t 24) (.t 25)),o 27 (.ld false 1 (.t 26))] [o 28 (.bin .gtr (.t 23) (.t 27))]) (.cnd (.t 28) (.seq (.reg [o 4 (.mov (.k (.bool false)))]) .ret) .skip))) (.reg [o 18 (.mov (.t 5)),o 19 (.bin .add (.t 18) (.k (.int .i64 1))),o 5 (.mov (.t 19))])))))) (.seq (.reg [o 4 (.mov (.k (.bool true)))]) .ret))))⟩
theorem A43:A5 Tryz.prog We=some Wf:=by kernel_rfl
abbrev Wg:Nat:=177
def Wh:Fn1:=⟨29,[.t 4],(.seq (.reg [o 4 (.mov (.k (.bool false)))]) (.seq (.seq (.reg [o 7 (.mov (.t 0)),o 8 (.call 176 [(.t 7)]),o 9 (.un .not (.t 8)),o 10 (.mov (.t 9)),og 11 10 false (.mov (.t 1)),og 12 10 false (.call 176 [(.t 11)]),og 13 10 false (.un .not (.t 12)),o 14 (.pick (.t 10) (.k (.bool true)) (.t 13))]) (.cnd (.t 14) (.seq (.reg [o 4 (.mov (.k (.bool false)))]) .ret) .skip)) (.seq (.seq (.reg [o 15 (.mov (.t 0)),o 16 (.len false (.t 15)),o 17 (.mov (.k (.int .i64 0)))]) (.blk 0 (.lop (.seq (.reg [o 18 (.bin .lss (.t 17) (.t 16))]) (.seq (.cnd (.t 18) .skip (.ext 0)) (.seq (.blk 1 (.seq (.reg [o 19 (.mov (.t 17)),o 20 (.iad 1 (.t 15) (.t 17)),o 21 (.ld false 1 (.t 20)),o 5 (.mov (.t 19)),o 6 (.mov (.t 21))]) (.seq (.reg [o 22 (.mov (.t 6)),o 23 (.mov (.t 1)),o 24 (.mov (.t 5)),o 25 (.iad 1 (.t 23) (.t 24)),o 26 (.ld false 1 (.t 25)),o 27 (.bin .gtr (.t 22) (.t 26))]) (.cnd (.t 27) (.seq (.reg [o 4 (.mov (.k (.bool false)))]) .ret) .skip)))) (.reg [o 28 (.bin .add (.t 17) (.k (.int .i64 1))),o 17 (.mov (.t 28))]))))))) (.seq (.reg [o 4 (.mov (.k (.bool true)))]) .ret))))⟩
theorem A44:A5 Tryz.prog Wg=some Wh:=by kernel_rfl
abbrev Sf:Nat:=171
def Sg:Fn1:=⟨26,[.t 4],(.seq (.reg [o 4 (.mov (.k (.bool false)))]) (.seq (.seq (.reg [o 6 (.mov (.t 0)),o 7 (.len false (.t 6)),o 8 (.mov (.t 1)),o 9 (.len false (.t 8)),o 10 (.bin .neq (.t 7) (.t 9))]) (.cnd (.t 10) (.seq (.reg [o 4 (.mov (.k (.bool false)))]) .ret) .skip)) (.seq (.seq (.reg [o 5 (.mov (.k (.int .i64 0)))]) (.blk 0 (.lop (.seq (.seq (.reg [o 11 (.mov (.t 5)),o 12 (.mov (.t 0)),o 13 (.len false (.t 12)),o 14 (.bin .lss (.t 11) (.t 13))]) (.cnd (.t 14) .skip (.ext 0))) (.seq (.blk 1 (.seq (.drw [o 17 (.mov (.t 0)),o 18 (.mov (.t 5)),o 19 (.iad 1 (.t 17) (.t 18)),o 20 (.ld false 1 (.t 19)),o 21 (.mov (.t 1)),o 22 (.mov (.t 5)),o 23 (.iad 1 (.t 21) (.t 22)),o 24 (.ld false 1 (.t 23))] [o 25 (.bin .neq (.t 20) (.t 24))]) (.cnd (.t 25) (.seq (.reg [o 4 (.mov (.k (.bool false)))]) .ret) .skip))) (.reg [o 15 (.mov (.t 5)),o 16 (.bin .add (.t 15) (.k (.int .i64 1))),o 5 (.mov (.t 16))])))))) (.seq (.reg [o 4 (.mov (.k (.bool true)))]) .ret))))⟩
theorem A12:A5 Tryz.prog Sf=some Sg:=by kernel_rfl
abbrev Fe:Nat:=156
def Ff:Fn1:=⟨26,[.t 4],(.seq (.reg [o 4 (.mov (.k (.bool false)))]) (.seq (.seq (.reg [o 6 (.mov (.t 0)),o 7 (.len false (.t 6)),o 8 (.mov (.t 1)),o 9 (.len false (.t 8)),o 10 (.bin .neq (.t 7) (.t 9))]) (.cnd (.t 10) (.seq (.reg [o 4 (.mov (.k (.bool false)))]) .ret) .skip)) (.seq (.seq (.reg [o 11 (.mov (.t 0)),o 12 (.len false (.t 11)),o 13 (.mov (.k (.int .i64 0)))]) (.blk 0 (.lop (.seq (.reg [o 14 (.bin .lss (.t 13) (.t 12))]) (.seq (.cnd (.t 14) .skip (.ext 0)) (.seq (.blk 1 (.seq (.reg [o 15 (.mov (.t 13)),o 5 (.mov (.t 15))]) (.seq (.drw [o 16 (.mov (.t 0)),o 17 (.mov (.t 5)),o 18 (.iad 1 (.t 16) (.t 17)),o 19 (.ld false 1 (.t 18)),o 20 (.mov (.t 1)),o 21 (.mov (.t 5)),o 22 (.iad 1 (.t 20) (.t 21)),o 23 (.ld false 1 (.t 22))] [o 24 (.bin .neq (.t 19) (.t 23))]) (.cnd (.t 24) (.seq (.reg [o 4 (.mov (.k (.bool false)))]) .ret) .skip)))) (.reg [o 25 (.bin .add (.t 13) (.k (.int .i64 1))),o 13 (.mov (.t 25))]))))))) (.seq (.reg [o 4 (.mov (.k (.bool true)))]) .ret))))⟩
theorem J0:A5 Tryz.prog Fe=some Ff:=by kernel_rfl
theorem V8 (σ:St) (v:GV) (l:List Int) (h:RS pI.kd σ v l) (hl:l.length≤1099511627776):∃ r τ,Ret Tryz.prog Pe [v] σ r τ∧Hp σ τ [ow pI.kd r l]:=by
 refine A0i (rs:=fun r=>[ow pI.kd r l]) Ys (Z0z rfl) ?_
 obtain⟨v',τ',e,H⟩:=(Hp.refl σ).nil_int.apps_int 0 rfl (h.pre (pre1 _ _)) (by simp;omega)
 simp +contextual (disch:=omega) only[go_sem,Pf,e]
 exact⟨_,rfl,H⟩
def zipK (f:Int→Int→Int) (a b:List Int):List Int:=if okK a&&okK b then List.zipWith f a b else[]
def mx (x y:Int):Int:=if y>x then y else x
def mn (x y:Int):Int:=if y<x then y else x
def kMax (a b:List Int):List Int:=zipK mx a b
def kLe:List Int→List Int→Bool
 |x::xs,y::ys=>decide (x≤y)&&kLe xs ys
 |_,_=>true
theorem A61 {a b:List Int} {i:Nat} (hi:i<a.length) (hj:i<b.length):kLe (a.drop i) (b.drop i)=(decide (a[i]≤b[i])&&kLe (a.drop (i+1)) (b.drop (i+1))):=by
 rw[List.drop_eq_getElem_cons hi,List.drop_eq_getElem_cons hj];rfl
def Ie (a b:List Int):Bool:=okK a&&(okK b&&kLe a b)
theorem A13 (σ:St) (v u:GV) (a b:List Int) (ha:RS pI.kd σ v a) (hb:RS pI.kd σ u b) (hla:a.length≤1099511627776) (hlb:b.length≤1099511627776):Ret Tryz.prog We [v,u] σ (.bool (Ie a b)) σ:=by
 refine Af A43 (Z0z rfl) trivial ?_
 simp +contextual (disch:=omega) only[go_sem,Wf]
 refine A9 (Fw _ v a ha hla) (fun h1=> ?_) (fun h1=> ?_)
 ·simp +contextual (disch:=omega) only[go_sem]
  refine A9 (Fw _ u b hb hlb) (fun h2=> ?_) (fun h2=> ?_)
  ·have la:=Gv h1
   have lb:=Gv h2
   simp +contextual (disch:=omega) only[go_sem,Ie,h1,h2]
   refine B8 a.length 5 (fun i env τ=>env 0=v∧env 1=u∧kLe (a.drop i) (b.drop i)=kLe a b∧σ <+: τ) rfl ⟨rfl,rfl,rfl,List.prefix_refl _⟩ ?_ ?_
   ·rintro i env τ hi e5 c0 ⟨e0,e1,hk,hp⟩
    have hj:i<b.length:=by omega
    rw[A61 hi hj] at hk
    simp +contextual (disch:=omega) only[go_sem,c0,e0,e1,e5,ha.len,Ef (ha.pre hp) hi,Ef (hb.pre hp) hj,hp]
    grind
   ·rintro env τ e5 c0 ⟨e0,e1,hk,hp⟩
    rw[List.drop_length] at hk
    simp +contextual (disch:=omega) only[go_sem,c0,e0,e1,e5,ha.len,hp]
    rw[← hk];rfl
  ·simp +contextual (disch:=omega) only[go_sem,Ie,h1,h2]
 ·simp +contextual (disch:=omega) only[go_sem,Ie,h1]
theorem A14 (σ:St) (v u:GV) (a b:List Int) (ha:RS pI.kd σ v a) (hb:RS pI.kd σ u b) (hla:a.length≤1099511627776) (hlb:b.length≤1099511627776):Ret Tryz.prog Wg [v,u] σ (.bool (Ie a b)) σ:=by
 refine Af A44 (Z0z rfl) trivial ?_
 simp +contextual (disch:=omega) only[go_sem,Wh]
 refine A9 (Fx _ v a ha hla) (fun h1=> ?_) (fun h1=> ?_)
 ·simp +contextual (disch:=omega) only[go_sem]
  refine A9 (Fx _ u b hb hlb) (fun h2=> ?_) (fun h2=> ?_)
  ·have la:=Gv h1
   have lb:=Gv h2
   simp +contextual (disch:=omega) only[go_sem,Ie,h1,h2,ha.len]
   refine B8 a.length 17 (fun i env τ=>env 1=u∧env 15=v∧env 16=gi a.length∧kLe (a.drop i) (b.drop i)=kLe a b∧σ <+: τ) rfl ⟨rfl,rfl,rfl,rfl,List.prefix_refl _⟩ ?_ ?_
   ·rintro i env τ hi e17 c0 ⟨e1,e15,e16,hk,hp⟩
    have hj:i<b.length:=by omega
    rw[A61 hi hj] at hk
    simp +contextual (disch:=omega) only[go_sem,c0,e1,e15,e16,e17,Ef (ha.pre hp) hi,Ef (hb.pre hp) hj,hp]
    grind
   ·rintro env τ e17 c0 ⟨e1,e15,e16,hk,hp⟩
    rw[List.drop_length] at hk
    simp +contextual (disch:=omega) only[go_sem,c0,e1,e15,e16,e17,hp]
    rw[← hk];rfl
  ·simp +contextual (disch:=omega) only[go_sem,Ie,h1,h2]
 ·simp +contextual (disch:=omega) only[go_sem,Ie,h1]
theorem A77 (σ:St) (v u:GV) (a b:List Int) (ha:RS pI.kd σ v a) (hb:RS pI.kd σ u b) (hla:a.length≤1099511627776):Ret Tryz.prog Sf [v,u] σ (.bool (decide (a=b))) σ:=by
 refine Af A12 (Z0z rfl) trivial ?_
 simp +contextual (disch:=omega) only[go_sem,Sg,ha.len,hb.len]
 refine⟨fun hn=> ?_,fun hn=> ?_⟩
 ·have:a≠b:=fun h=>by subst h;simp at hn
  simp[this]
 ·have hlm:a.length=b.length:=by
                     have h2:(a.length:Int)=b.length:=by simpa using hn
                     omega
  refine B8 a.length 5 (fun i env τ=>env 0=v∧env 1=u∧a.take i=b.take i∧σ <+: τ) rfl ⟨rfl,rfl,rfl,List.prefix_refl _⟩ ?_ ?_
  ·rintro i env τ hi e5 c0 ⟨e0,e1,he,hp⟩
   have hj:i<b.length:=by omega
   have hne:a[i]≠b[i]→a≠b:=fun h h'=>h (by subst h';rfl)
   have hst:a[i]=b[i]→a.take (i+1)=b.take (i+1):=fun h=>by rw[Bf hi,Bf hj,he,h]
   simp +contextual (disch:=omega) only[go_sem,c0,e0,e1,e5,ha.len,hb.len,Ef (ha.pre hp) hi,Ef (hb.pre hp) hj,hp]
   refine⟨fun h=> ?_,fun h=> ?_⟩
   ·simp[hne (by simpa using h)]
   ·simpa using hst (by simpa using h)
  ·rintro env τ e5 c0 ⟨e0,e1,he,hp⟩
   rw[List.take_length,hlm,List.take_length] at he
   simp +contextual (disch:=omega) only[go_sem,c0,e0,e1,e5,ha.len,hb.len,hp]
   simp[he]
theorem Ga (σ:St) (v u:GV) (a b:List Int) (ha:RS pI.kd σ v a) (hb:RS pI.kd σ u b) (hla:a.length≤1099511627776):Ret Tryz.prog Fe [v,u] σ (.bool (decide (a=b))) σ:=by
 refine Af J0 (Z0z rfl) trivial ?_
 simp +contextual (disch:=omega) only[go_sem,Ff,ha.len,hb.len]
 refine⟨fun hn=> ?_,fun hn=> ?_⟩
 ·have:a≠b:=fun h=>by subst h;simp at hn
  simp[this]
 ·have hlm:a.length=b.length:=by
                     have h2:(a.length:Int)=b.length:=by simpa using hn
                     omega
  refine B8 a.length 13 (fun i env τ=>env 0=v∧env 1=u∧env 12=gi a.length∧a.take i=b.take i∧σ <+: τ) rfl ⟨rfl,rfl,rfl,rfl,List.prefix_refl _⟩ ?_ ?_
  ·rintro i env τ hi e13 c0 ⟨e0,e1,e12,he,hp⟩
   have hj:i<b.length:=by omega
   have hne:a[i]≠b[i]→a≠b:=fun h h'=>h (by subst h';rfl)
   have hst:a[i]=b[i]→a.take (i+1)=b.take (i+1):=fun h=>by rw[Bf hi,Bf hj,he,h]
   simp +contextual (disch:=omega) only[go_sem,c0,e0,e1,e12,e13,Ef (ha.pre hp) hi,Ef (hb.pre hp) hj,hp]
   refine⟨fun h=> ?_,fun h=> ?_⟩
   ·simp[hne (by simpa using h)]
   ·simpa using hst (by simpa using h)
  ·rintro env τ e13 c0 ⟨e0,e1,e12,he,hp⟩
   rw[List.take_length,hlm,List.take_length] at he
   simp +contextual (disch:=omega) only[go_sem,c0,e0,e1,e12,e13,hp]
   simp[he]
end
section
open Go Go.RowKit
abbrev Oe:Nat:=146
def Wi:Fn1:=⟨22,[.t 4],(.seq (.reg [o 2 (.box (.t 0)),o 3 (.box (.t 1)),o 4 (.mov (.k (.int .i64 0)))]) (.seq (.seq (.reg [o 5 (.mov (.k (.int .i64 0)))]) (.blk 0 (.lop (.seq (.seq (.reg [o 6 (.mov (.t 5)),o 7 (.fad 3 (.t 2)),o 8 (.ld false 1 (.t 7)),o 9 (.len false (.t 8)),o 10 (.bin .lss (.t 6) (.t 9))]) (.cnd (.t 10) .skip (.ext 0))) (.seq (.blk 1 (.seq (.drw [o 13 (.fad 3 (.t 2)),o 14 (.ld false 1 (.t 13)),o 15 (.mov (.t 5)),o 16 (.iad 8 (.t 14) (.t 15)),o 17 (.fad 1 (.t 16)),o 18 (.ld true 2 (.t 17)),o 19 (.ld true 2 (.t 3))] [o 20 (.eqs false [.i .i64,.i .i64] (.t 18) (.t 19))]) (.cnd (.t 20) (.seq (.reg [o 21 (.mov (.t 5)),o 4 (.mov (.t 21))]) .ret) .skip))) (.reg [o 11 (.mov (.t 5)),o 12 (.bin .add (.t 11) (.k (.int .i64 1))),o 5 (.mov (.t 12))])))))) (.seq (.reg [o 4 (.mov (.k (.int .i64 (-1))))]) .ret)))⟩
theorem A45:A5 Tryz.prog Oe=some Wi:=by kernel_rfl
abbrev Og:Nat:=158
def Wj:Fn1:=⟨9,[.t 4],(.seq (.reg [o 2 (.box (.t 0)),o 3 (.box (.t 1)),o 4 (.mov (.k (.int .i64 0)))]) (.seq (.reg [o 5 (.fad 3 (.t 2)),o 6 (.ld false 1 (.t 5)),o 7 (.mkf 265 [(.t 3)]),o 8 (.call 263 [(.t 6),(.t 7)]),o 4 (.mov (.t 8))]) .ret))⟩
theorem A46:A5 Tryz.prog Og=some Wj:=by kernel_rfl
abbrev J1:Nat:=265
def N0:Fn1:=⟨8,[.t 3],(.seq (.reg [o 2 (.box (.t 0)),o 3 (.mov (.k (.bool false)))]) (.seq (.reg [o 4 (.fad 1 (.t 2)),o 5 (.ld true 2 (.t 4)),o 6 (.ld true 2 (.t 1)),o 7 (.eqs false [.i .i64,.i .i64] (.t 5) (.t 6)),o 3 (.mov (.t 7))]) .ret))⟩
theorem V9:A5 Tryz.prog J1=some N0:=by kernel_rfl
abbrev Bu:Nat:=263
def Bv:Fn1:=⟨19,[.t 4],(.seq (.reg [o 4 (.mov (.k (.int .i64 0)))]) (.seq (.seq (.reg [o 6 (.mov (.t 0)),o 7 (.len false (.t 6)),o 8 (.mov (.k (.int .i64 0)))]) (.blk 0 (.lop (.seq (.reg [o 9 (.bin .lss (.t 8) (.t 7))]) (.seq (.cnd (.t 9) .skip (.ext 0)) (.seq (.blk 1 (.seq (.reg [o 10 (.mov (.t 8)),o 5 (.mov (.t 10))]) (.seq (.reg [o 11 (.mov (.t 1)),o 12 (.mov (.t 0)),o 13 (.mov (.t 5)),o 14 (.iad 8 (.t 12) (.t 13)),o 15 (.ld true 8 (.t 14)),o 16 (.callv (.t 11) [(.t 15)])]) (.cnd (.t 16) (.seq (.reg [o 17 (.mov (.t 5)),o 4 (.mov (.t 17))]) .ret) .skip)))) (.reg [o 18 (.bin .add (.t 8) (.k (.int .i64 1))),o 8 (.mov (.t 18))]))))))) (.seq (.reg [o 4 (.mov (.k (.int .i64 (-1))))]) .ret)))⟩
theorem Dl:A5 Tryz.prog Bu=some Bv:=by kernel_rfl
abbrev Wk:Nat:=288
def Wl:Fn1:=⟨63,[.t 2],(.seq (.reg [o 2 (.mov (.k (.bool false)))]) (.seq (.reg [o 10 (.mkm),o 3 (.mov (.t 10))]) (.seq (.seq (.reg [o 11 (.mov (.t 0)),o 12 (.len false (.t 11)),o 13 (.mov (.k (.int .i64 0)))]) (.blk 0 (.lop (.seq (.reg [o 14 (.bin .lss (.t 13) (.t 12))]) (.seq (.cnd (.t 14) .skip (.ext 0)) (.seq (.blk 1 (.seq (.reg [o 15 (.mov (.t 13)),o 16 (.iad 8 (.t 11) (.t 13)),o 17 (.ld true 8 (.t 16)),o 5 (.new [(.str ⟨#[]⟩),(.int .i64 0),(.int .i64 0),(.int .i64 0),(.int .i64 0),(.int .i64 0),(.int .i64 0),(.bool false)]),o 4 (.mov (.t 15)),on (.st 8 (.t 5) (.t 17))]) (.reg [o 18 (.mov (.t 3)),o 19 (.fad 1 (.t 5)),o 20 (.ld true 2 (.t 19)),o 21 (.mov (.t 4)),on (.mup [.i .i64,.i .i64] (.t 18) (.t 20) (.t 21))]))) (.reg [o 22 (.bin .add (.t 13) (.k (.int .i64 1))),o 13 (.mov (.t 22))]))))))) (.seq (.seq (.reg [o 23 (.mov (.t 0)),o 24 (.len false (.t 23)),o 25 (.mov (.k (.int .i64 0)))]) (.blk 2 (.lop (.seq (.reg [o 26 (.bin .lss (.t 25) (.t 24))]) (.seq (.cnd (.t 26) .skip (.ext 2)) (.seq (.blk 3 (.seq (.reg [o 27 (.iad 8 (.t 23) (.t 25)),o 28 (.ld true 8 (.t 27)),o 7 (.new [(.str ⟨#[]⟩),(.int .i64 0),(.int .i64 0),(.int .i64 0),(.int .i64 0),(.int .i64 0),(.int .i64 0),(.bool false)]),on (.st 8 (.t 7) (.t 28))]) (.seq (.seq (.reg [o 29 (.fad 4 (.t 7)),o 30 (.ld true 2 (.t 29)),o 31 (.build [(.int .i64 0),(.int .i64 0)] []),o 32 (.eqs false [.i .i64,.i .i64] (.t 30) (.t 31))]) (.cnd (.t 32) (.ext 3) .skip)) (.seq (.reg [o 34 (.mov (.t 3)),o 35 (.fad 4 (.t 7)),o 36 (.ld true 2 (.t 35)),o 37 (.mlk [.i .i64,.i .i64] (.int .i64 0) true (.t 34) (.t 36)),o 33 (.mov (.t 37)),o 38 (.ext 0 (.t 33)),o 39 (.ext 1 (.t 33)),o 8 (.mov (.t 38)),o 9 (.mov (.t 39))]) (.seq (.drw [o 40 (.mov (.t 9)),o 41 (.un .not (.t 40)),o 42 (.mov (.t 41)),og 43 42 false (.mov (.t 0)),og 44 42 false (.mov (.t 8)),og 45 42 false (.iad 8 (.t 43) (.t 44)),og 46 42 false (.fad 0 (.t 45)),og 47 42 false (.ld false 1 (.t 46)),og 48 42 false (.fad 0 (.t 7)),og 49 42 false (.ld false 1 (.t 48)),og 50 42 false (.bin .neq (.t 47) (.t 49)),o 51 (.pick (.t 42) (.k (.bool true)) (.t 50)),o 52 (.mov (.t 51)),og 53 52 false (.mov (.t 0)),og 54 52 false (.mov (.t 8)),og 55 52 false (.iad 8 (.t 53) (.t 54)),og 56 52 false (.fad 3 (.t 55)),og 57 52 false (.ld false 1 (.t 56)),og 58 52 false (.fad 3 (.t 7)),og 59 52 false (.ld false 1 (.t 58))] [og 60 52 false (.bin .geq (.t 57) (.t 59)),o 61 (.pick (.t 52) (.k (.bool true)) (.t 60))]) (.cnd (.t 61) (.seq (.reg [o 2 (.mov (.k (.bool false)))]) .ret) .skip)))))) (.reg [o 62 (.bin .add (.t 25) (.k (.int .i64 1))),o 25 (.mov (.t 62))]))))))) (.seq (.reg [o 2 (.mov (.k (.bool true)))]) .ret)))))⟩
theorem A47:A5 Tryz.prog Wk=some Wl:=by kernel_rfl
abbrev Sh:Nat:=199
def Sm:Fn1:=⟨96,[.t 2],(.seq (.reg [o 1 (.box (.t 0)),o 2 (.mov (.k (.bool false)))]) (.seq (.seq (.reg [o 7 (.fad 0 (.t 1)),o 8 (.ld false 1 (.t 7)),o 9 (.call 167 [(.t 8)]),o 10 (.un .not (.t 9)),o 11 (.mov (.t 10)),og 12 11 false (.fad 1 (.t 1)),og 13 11 false (.ld false 1 (.t 12)),og 14 11 false (.call 290 [(.t 13)]),og 15 11 false (.un .not (.t 14)),o 16 (.pick (.t 11) (.k (.bool true)) (.t 15)),o 17 (.mov (.t 16)),og 18 17 false (.fad 2 (.t 1)),og 19 17 false (.ld false 1 (.t 18)),og 20 17 false (.call 291 [(.t 19)]),og 21 17 false (.un .not (.t 20)),o 22 (.pick (.t 17) (.k (.bool true)) (.t 21)),o 23 (.mov (.t 22)),og 24 23 false (.fad 3 (.t 1)),og 25 23 false (.ld false 1 (.t 24)),og 26 23 false (.call 292 [(.t 25)]),og 27 23 false (.un .not (.t 26)),o 28 (.pick (.t 23) (.k (.bool true)) (.t 27))]) (.cnd (.t 28) (.seq (.reg [o 2 (.mov (.k (.bool false)))]) .ret) .skip)) (.seq (.seq (.reg [o 3 (.mov (.k (.int .i64 0)))]) (.blk 0 (.lop (.seq (.seq (.reg [o 29 (.mov (.t 3)),o 30 (.fad 2 (.t 1)),o 31 (.ld false 1 (.t 30)),o 32 (.len false (.t 31)),o 33 (.bin .lss (.t 29) (.t 32))]) (.cnd (.t 33) .skip (.ext 0))) (.seq (.blk 1 (.seq (.drw [o 36 (.fad 0 (.t 1)),o 37 (.ld false 1 (.t 36)),o 38 (.fad 2 (.t 1)),o 39 (.ld false 1 (.t 38)),o 40 (.mov (.t 3)),o 41 (.iad 6 (.t 39) (.t 40)),o 42 (.fad 4 (.t 41)),o 43 (.ld true 2 (.t 42))] [o 44 (.call 45 [(.t 37),(.t 43)]),o 45 (.un .not (.t 44))]) (.cnd (.t 45) (.seq (.reg [o 2 (.mov (.k (.bool false)))]) .ret) .skip))) (.reg [o 34 (.mov (.t 3)),o 35 (.bin .add (.t 34) (.k (.int .i64 1))),o 3 (.mov (.t 35))])))))) (.seq (.seq (.reg [o 4 (.mov (.k (.int .i64 0)))]) (.blk 2 (.lop (.seq (.seq (.reg [o 46 (.mov (.t 4)),o 47 (.fad 3 (.t 1)),o 48 (.ld false 1 (.t 47)),o 49 (.len false (.t 48)),o 50 (.bin .lss (.t 46) (.t 49))]) (.cnd (.t 50) .skip (.ext 2))) (.seq (.blk 3 (.seq (.reg [o 53 (.fad 3 (.t 1)),o 54 (.ld false 1 (.t 53)),o 55 (.mov (.t 4)),o 56 (.iad 8 (.t 54) (.t 55)),o 57 (.ld true 8 (.t 56)),o 5 (.new [(.str ⟨#[]⟩),(.int .i64 0),(.int .i64 0),(.int .i64 0),(.int .i64 0),(.int .i64 0),(.int .i64 0),(.bool false)]),on (.st 8 (.t 5) (.t 57))]) (.seq (.seq (.reg [o 58 (.fad 0 (.t 1)),o 59 (.ld false 1 (.t 58)),o 60 (.fad 1 (.t 5)),o 61 (.ld true 2 (.t 60)),o 62 (.call 45 [(.t 59),(.t 61)]),o 63 (.un .not (.t 62))]) (.cnd (.t 63) (.seq (.reg [o 2 (.mov (.k (.bool false)))]) .ret) .skip)) (.seq (.seq (.reg [o 64 (.fad 4 (.t 5)),o 65 (.ld true 2 (.t 64)),o 66 (.build [(.int .i64 0),(.int .i64 0)] []),o 67 (.eqs false [.i .i64,.i .i64] (.t 65) (.t 66))]) (.cnd (.t 67) (.ext 3) .skip)) (.seq (.reg [o 68 (.ld true 4 (.t 1)),o 69 (.fad 4 (.t 5)),o 70 (.ld true 2 (.t 69)),o 71 (.call 146 [(.t 68),(.t 70)]),o 6 (.mov (.t 71))]) (.seq (.drw [o 72 (.mov (.t 6)),o 73 (.bin .lss (.t 72) (.k (.int .i64 0))),o 74 (.mov (.t 73)),og 75 74 false (.fad 3 (.t 1)),og 76 74 false (.ld false 1 (.t 75)),og 77 74 false (.mov (.t 6)),og 78 74 false (.iad 8 (.t 76) (.t 77)),og 79 74 false (.fad 0 (.t 78)),og 80 74 false (.ld false 1 (.t 79)),og 81 74 false (.fad 0 (.t 5)),og 82 74 false (.ld false 1 (.t 81)),og 83 74 false (.bin .neq (.t 80) (.t 82)),o 84 (.pick (.t 74) (.k (.bool true)) (.t 83)),o 85 (.mov (.t 84)),og 86 85 false (.fad 3 (.t 1)),og 87 85 false (.ld false 1 (.t 86)),og 88 85 false (.mov (.t 6)),og 89 85 false (.iad 8 (.t 87) (.t 88)),og 90 85 false (.fad 3 (.t 89)),og 91 85 false (.ld false 1 (.t 90)),og 92 85 false (.fad 3 (.t 5)),og 93 85 false (.ld false 1 (.t 92))] [og 94 85 false (.bin .geq (.t 91) (.t 93)),o 95 (.pick (.t 85) (.k (.bool true)) (.t 94))]) (.cnd (.t 95) (.seq (.reg [o 2 (.mov (.k (.bool false)))]) .ret) .skip))))))) (.reg [o 51 (.mov (.t 4)),o 52 (.bin .add (.t 51) (.k (.int .i64 1))),o 4 (.mov (.t 52))])))))) (.seq (.reg [o 2 (.mov (.k (.bool true)))]) .ret)))))⟩
theorem A15:A5 Tryz.prog Sh=some Sm:=by kernel_rfl
abbrev Sn:Nat:=195
def Sp:Fn1:=⟨30,[.t 2],(.seq (.reg [o 1 (.box (.t 0)),o 2 (.mov (.k (.bool false)))]) (.seq (.reg [o 3 (.fad 0 (.t 1)),o 4 (.ld false 1 (.t 3)),o 5 (.call 176 [(.t 4)]),o 6 (.mov (.t 5)),og 7 6 true (.fad 1 (.t 1)),og 8 6 true (.ld false 1 (.t 7)),og 9 6 true (.call 285 [(.t 8)]),o 10 (.pick (.t 6) (.t 9) (.k (.bool false))),o 11 (.mov (.t 10)),og 12 11 true (.fad 2 (.t 1)),og 13 11 true (.ld false 1 (.t 12)),og 14 11 true (.fad 0 (.t 1)),og 15 11 true (.ld false 1 (.t 14)),og 16 11 true (.call 286 [(.t 13),(.t 15)]),o 17 (.pick (.t 11) (.t 16) (.k (.bool false))),o 18 (.mov (.t 17)),og 19 18 true (.fad 3 (.t 1)),og 20 18 true (.ld false 1 (.t 19)),og 21 18 true (.fad 0 (.t 1)),og 22 18 true (.ld false 1 (.t 21)),og 23 18 true (.call 287 [(.t 20),(.t 22)]),o 24 (.pick (.t 18) (.t 23) (.k (.bool false))),o 25 (.mov (.t 24)),og 26 25 true (.fad 3 (.t 1)),og 27 25 true (.ld false 1 (.t 26)),og 28 25 true (.call 288 [(.t 27)]),o 29 (.pick (.t 25) (.t 28) (.k (.bool false))),o 2 (.mov (.t 29))]) .ret))⟩
theorem A16:A5 Tryz.prog Sn=some Sp:=by kernel_rfl
abbrev M7:Nat:=247
def Sq:Fn1:=⟨20,[.c 2 true 4],(.seq (.reg [o 1 (.box (.t 0)),o 2 (.new [.nilS,.nilS,.nilS,.nilS])]) (.seq (.drw [o 3 (.lit 1 0 [] []),o 4 (.fad 0 (.t 1)),o 5 (.ld false 1 (.t 4)),o 6 (.app 1 8 [(.int .i64 0)] (.t 3) (.t 5)),o 7 (.lit 3 0 [] []),o 8 (.fad 1 (.t 1)),o 9 (.ld false 1 (.t 8)),o 10 (.app 3 32 [(.str ⟨#[]⟩),(.int .i64 0),(.int .i64 0)] (.t 7) (.t 9)),o 11 (.lit 6 0 [] []),o 12 (.fad 2 (.t 1)),o 13 (.ld false 1 (.t 12)),o 14 (.app 6 64 [(.bool false),(.str ⟨#[]⟩),(.str ⟨#[]⟩),(.int .i64 0),(.int .i64 0),(.int .i64 0)] (.t 11) (.t 13)),o 15 (.lit 8 0 [] []),o 16 (.fad 3 (.t 1)),o 17 (.ld false 1 (.t 16))] [o 18 (.app 8 72 [(.str ⟨#[]⟩),(.int .i64 0),(.int .i64 0),(.int .i64 0),(.int .i64 0),(.int .i64 0),(.int .i64 0),(.bool false)] (.t 15) (.t 17)),o 19 (.build [.nilS,.nilS,.nilS,.nilS] [(0,1,(.t 6)),(1,1,(.t 10)),(2,1,(.t 14)),(3,1,(.t 18))]),on (.st 4 (.t 2) (.t 19))]) .ret))⟩
theorem A17:A5 Tryz.prog M7=some Sq:=by kernel_rfl
abbrev J3:Nat:=255
def N1:Fn1:=⟨19,[.c 2 true 4],(.seq (.reg [o 1 (.box (.t 0)),o 2 (.new [.nilS,.nilS,.nilS,.nilS])]) (.seq (.drw [o 3 (.fad 0 (.t 1)),o 4 (.ld false 1 (.t 3)),o 5 (.call 182 [(.t 4)]),o 6 (.lit 3 0 [] []),o 7 (.fad 1 (.t 1)),o 8 (.ld false 1 (.t 7)),o 9 (.app 3 32 [(.str ⟨#[]⟩),(.int .i64 0),(.int .i64 0)] (.t 6) (.t 8)),o 10 (.lit 6 0 [] []),o 11 (.fad 2 (.t 1)),o 12 (.ld false 1 (.t 11)),o 13 (.app 6 64 [(.bool false),(.str ⟨#[]⟩),(.str ⟨#[]⟩),(.int .i64 0),(.int .i64 0),(.int .i64 0)] (.t 10) (.t 12)),o 14 (.lit 8 0 [] []),o 15 (.fad 3 (.t 1)),o 16 (.ld false 1 (.t 15))] [o 17 (.app 8 72 [(.str ⟨#[]⟩),(.int .i64 0),(.int .i64 0),(.int .i64 0),(.int .i64 0),(.int .i64 0),(.int .i64 0),(.bool false)] (.t 14) (.t 16)),o 18 (.build [.nilS,.nilS,.nilS,.nilS] [(0,1,(.t 5)),(1,1,(.t 9)),(2,1,(.t 13)),(3,1,(.t 17))]),on (.st 4 (.t 2) (.t 18))]) .ret))⟩
theorem Va:A5 Tryz.prog J3=some N1:=by kernel_rfl
theorem Sr (σ:St) (a b c v:GV) (l:List Cell) (d:Dot) (h:RS Ai.kd σ v l) (hl:l.length≤1099511627776):Ret Tryz.prog Oe [.agg [a,b,c,v],.agg [gi d.rep,gi d.seq]] σ (gi (Bt l d)) σ:=by
 refine Af A45 (Z0z rfl) trivial ?_
 simp +contextual (disch:=omega) only[go_sem,Wi]
 refine B8 l.length 5 (fun i env τ=>env 2= .ptr σ.length 0∧env 3= .ptr (σ++[some (Blk.row 1 [a,b,c,v])]).length 0∧(∀ j (hj:j<i) (hl:j<l.length),l[j].dot≠d)∧σ++[some (.row 1 [a,b,c,v])]++[some (.row 1 [gi d.rep,gi d.seq])] <+: τ) rfl ⟨rfl,rfl,fun j hj=>by omega,List.prefix_refl _⟩ ?_ ?_
 ·rintro i env τ hi e5 c0 ⟨e2,e3,ha,hp⟩
  have h1:=h.pre (Yi hp)
  by_cases hd:l[i].dot=d
  ·have hq:Bt l d=i:=by rw[Bt,A3z hi (fun j hj=>ha j hj (by omega)) hd]
   simp +contextual (disch:=omega) only[go_sem,c0,e2,e3,e5,A0 (Yj hp),A0 (Mo hp),h.len,A4 h1 hi,hp,decide_eq_true hd,hq,Yi hp]
  ·simp +contextual (disch:=omega) only[go_sem,c0,e2,e3,e5,A0 (Yj hp),A0 (Mo hp),h.len,A4 h1 hi,hp,decide_eq_false hd]
   intro j hj hl
   rcases Nat.lt_or_ge j i with h2|h2
   ·exact ha j h2 hl
   ·have:j=i:=by omega
    subst this;exact hd
 ·rintro env τ e5 c0 ⟨e2,e3,ha,hp⟩
  have hq:Bt l d= -1:=by rw[Bt,A40 (fun j hj=>ha j hj hj)]
  simp +contextual (disch:=omega) only[go_sem,c0,e2,e3,e5,A0 (Yj hp),h.len,hq,Yi hp]
theorem E3 (σ:St) (v:GV) (l:List Cell) (h:RS Ai.kd σ v l) (hl:l.length≤1099511627776) (f:Nat) (cs:List (Nat×Nat)) (p:Cell→Bool) (hf:∀(τ:St) (x:Cell),σ <+: τ→Ret Tryz.prog f (.agg (Ai.enc x)::cs.map fun c=>.ptr c.1 c.2) τ (.bool (p x)) τ):
  Ret Tryz.prog Bu [v,.fn f cs] σ (gi (match l.findIdx? p with|some k=>(k:Int)|none=> -1)) σ:=by
 refine Af Dl (Z0z rfl) trivial ?_
 simp +contextual (disch:=omega) only[go_sem,Bv,h.len]
 refine B8 l.length 8 (fun i env τ=>env 0=v∧env 1= .fn f cs∧env 6=v∧env 7=gi l.length∧(∀ j (hj:j<i) (hl:j<l.length),p l[j]=false)∧σ <+: τ) rfl ⟨rfl,rfl,rfl,rfl,fun j hj=>by omega,List.prefix_refl _⟩ ?_ ?_
 ·rintro i env τ hi e8 c0 ⟨e0,e1,e6,e7,ha,hp⟩
  simp +contextual (disch:=omega) only[go_sem,c0,e0,e1,e6,e7,e8,A4 (h.pre hp) hi,hp]
  have hpx:=hf τ l[i] hp
  refine A9 hpx (fun h1=> ?_) (fun h1=> ?_)
  ·have hq:l.findIdx? p=some i:=List.findIdx?_eq_some_iff_getElem.2 ⟨hi,h1,fun j hj=>by simp[ha j hj (by omega)]⟩
   simp +contextual (disch:=omega) only[go_sem,c0,e0,e1,e6,e7,e8,hq,hp]
  ·simp +contextual (disch:=omega) only[go_sem,c0,e0,e1,e6,e7,e8,hp]
   intro j hj hl
   rcases Nat.lt_or_ge j i with h2|h2
   ·exact ha j h2 hl
   ·have:j=i:=by omega
    subst this;exact h1
 ·rintro env τ e8 c0 ⟨e0,e1,e6,e7,ha,hp⟩
  have hq:l.findIdx? p=none:=by
   rw[List.findIdx?_eq_none_iff]
   intro x hx
   obtain⟨j,hj,rfl⟩:=List.getElem_of_mem hx
   exact ha j hj hj
  simp +contextual (disch:=omega) only[go_sem,c0,e0,e1,e6,e7,e8,hq,hp]
theorem Ss (τ:St) (x:Cell) (g:Nat) (d:Dot) (hg:rdB τ g=some [gi d.rep,gi d.seq]):Ret Tryz.prog J1 [.agg (Ai.enc x),.ptr g 0] τ (.bool (decide (x.dot=d))) τ:=by
 refine Af V9 (Z0z rfl) trivial ?_
 simp +contextual (disch:=omega) only[go_sem,N0,Yf,A0 (Ix hg _)]
theorem A48 (σ:St) (a b c v:GV) (l:List Cell) (d:Dot) (h:RS Ai.kd σ v l) (hl:l.length≤1099511627776):Ret Tryz.prog Og [.agg [a,b,c,v],.agg [gi d.rep,gi d.seq]] σ (gi (Bt l d)) σ:=by
 refine Af A46 (Z0z rfl) trivial ?_
 simp +contextual (disch:=omega) only[go_sem,Wj]
 have R:=E3 (σ++[some (.row 1 [a,b,c,v])]++[some (.row 1 [gi d.rep,gi d.seq])]) v l (h.pre pre2) hl J1 [((σ++[some (Blk.row 1 [a,b,c,v])]).length,0)] (fun c=>decide (c.dot=d)) (fun τ x hp=>Ss τ x _ d (Mo hp))
 refine A7 R ?_
 simp +contextual (disch:=omega) only[go_sem]
 rfl
theorem A18 (σ:St) (v:GV) (l:List Cell) (h:RS Ai.kd σ v l) (hl:l.length≤1099511627776) (hu:l.Pairwise fun a b=>Au a.dot b.dot=true):Ret Tryz.prog Wk [v] σ (.bool (Wc l)) σ:=by
 refine Af A47 (Z0z rfl) trivial ?_
 simp +contextual (disch:=omega) only[go_sem,Wl,h.len]
 have H0:=(Hp.refl σ).newMap
 refine B8 l.length 13 (fun i env τ=>env 0=v∧env 3= .mp σ.length∧env 11=v∧env 12=gi l.length∧Hp σ τ [mpt (.mp σ.length) (plc 0 (l.take i))]) rfl ⟨rfl,rfl,rfl,rfl,H0⟩ ?_ ?_
 ·rintro i env τ hi e13 c0 ⟨e0,e3,e11,e12,H⟩
  obtain⟨τ',e,H2⟩:=(H.grow (pre1 τ (some (Blk.row 1 [.str l[i].obj,gi l[i].dot.rep,gi l[i].dot.seq,gi l[i].time,gi l[i].ref.rep,gi l[i].ref.seq,gi l[i].val,.bool l[i].gone])))).mup 0 rfl l[i].dot i (Adf hu hi)
  simp +contextual (disch:=omega) only[go_sem,c0,e0,e3,e11,e12,e13,A4 (h.pre H.sub) hi,fun r=>A4 (h.pre (A1 H.sub r)) hi,e]
  rw[Aar hi]
  exact H2
 ·rintro env τ e13 c0 ⟨e0,e3,e11,e12,H⟩
  rw[List.take_length] at H
  simp +contextual (disch:=omega) only[go_sem,c0,e0,e3,e11,e12,e13,(h.pre H.sub).len]
  refine B8 l.length 25 (fun i env τ=>env 0=v∧env 3= .mp σ.length∧env 23=v∧env 24=gi l.length∧(l.take i).all (ref1 l)=true∧Hp σ τ [mpt (.mp σ.length) (plc 0 l)]) rfl ⟨e0,e3,rfl,rfl,rfl,H⟩ ?_ ?_
  ·rintro i env τ hi e25 c0 ⟨e0,e3,e23,e24,ha,H⟩
   have hf:=fun h=>Di (p:=ref1 l) hi h
   have ht:=Cy hi ha
   have G:=H.grow (pre1 τ (some (Blk.row 1 [.str l[i].obj,gi l[i].dot.rep,gi l[i].dot.seq,gi l[i].time,gi l[i].ref.rep,gi l[i].ref.seq,gi l[i].val,.bool l[i].gone])))
   have hlk:=G.mlk 0 rfl l[i].ref
   have hdl:=S6 l[i].ref 0 l
   by_cases hr:l[i].ref=⟨0,0⟩
   ·simp +contextual (disch:=omega) only[go_sem,c0,e0,e3,e23,e24,e25,A4 (h.pre H.sub) hi,decide_eq_true hr]
    exact⟨ht (by simp[ref1,hr]),G⟩
   ·cases hx:Cj l l[i].ref with
    |none=>
     rw[hx] at hdl
     have hb:ref1 l l[i]=false:=by simp[ref1,hr,hx]
     rw[hdl] at hlk
     simp +contextual (disch:=omega) only[go_sem,c0,e0,e3,e23,e24,e25,A4 (h.pre H.sub) hi,decide_eq_false hr,hlk,Option.map_none,Option.isSome_none,Option.getD_none]
     exact⟨by simp[Wc,hf hb],G.sub⟩
    |some k=>
     rw[hx] at hdl
     obtain⟨hkl,_⟩:=Bi hx
     have hb:ref1 l l[i]=(decide (l[k].obj=l[i].obj)&&decide (l[k].time<l[i].time)):=by simp[ref1,hr,hx,Bs hkl]
     rw[hdl] at hlk
     simp +contextual (disch:=omega) only[go_sem,c0,e0,e3,e23,e24,e25,A4 (h.pre H.sub) hi,decide_eq_false hr,hlk,Option.map_some,Option.isSome_some,Option.getD_some,Nat.zero_add,A4 (h.pre H.sub) hkl,fun r=>A4 (h.pre (A1 H.sub r)) hkl]
     refine⟨fun q1=>⟨?_,G.sub⟩,fun q1=>⟨fun q2=>⟨?_,G.sub⟩,fun q2=>⟨ht ?_,G⟩⟩⟩
     ·simp only[Bool.not_eq_true'] at q1
      rw[q1] at hb
      simp[Wc,hf (by rw[hb];rfl)]
     ·rw[decide_eq_false (show ¬ l[k].time<l[i].time by have:=of_decide_eq_true q2;omega),Bool.and_false] at hb
      simp[Wc,hf hb]
     ·simp only[Bool.not_eq_false'] at q1
      rw[hb,q1,decide_eq_true (show l[k].time<l[i].time by have:=of_decide_eq_false q2;omega)];rfl
  ·rintro env τ e25 c0 ⟨e0,e3,e23,e24,ha,H⟩
   rw[List.take_length] at ha
   simp +contextual (disch:=omega) only[go_sem,c0,e0,e3,e23,e24,e25,H.sub]
   exact ha.symm
end
section
open Go Go.RowKit
theorem Am {s:State} (h:Ac s≤1099511627776):s.know.length≤1099511627776∧s.tallies.length≤1099511627776∧s.lives.length≤1099511627776∧s.cells.length≤1099511627776∧
  (∀ x∈s.tallies,x.obj.size≤1099511627776)∧(∀ x∈s.lives,x.obj.size≤1099511627776∧x.key.size≤1099511627776)∧∀ x∈s.cells,x.obj.size≤1099511627776:=by
 unfold Ac at h
 refine⟨by omega,by omega,by omega,by omega,fun x hx=> ?_,fun x hx=> ?_,fun x hx=> ?_⟩
 ·have h1:=Iy (f:=By) hx
  unfold By at h1;unfold By at h;omega
 ·have h1:=Iy (f:=D7) hx
  unfold D7 at h1;unfold D7 at h;omega
 ·have h1:=Iy (f:=E2) hx
  unfold E2 at h1;unfold E2 at h;omega
theorem N2 (σ:St) (cs:List GV) (s:State) (hR:A8.R σ s cs) (hl:Ac s≤1099511627776):Ret Tryz.prog Sn [.agg cs] σ (.bool (B7 s)) σ:=by
 obtain⟨a,b,c,v,rfl,hk,ht,hv,hc⟩:=hR
 obtain⟨l1,l2,l3,l4,z1,z2,z3⟩:=Am hl
 have p1:=pre1 σ (some (Blk.row 1 [a,b,c,v]))
 refine Af A16 (Z0z rfl) trivial ?_
 simp +contextual (disch:=omega) only[go_sem,Sp]
 refine A9 (Fx _ a s.know (hk.pre p1) l1) (fun h1=> ?_) (fun h1=> ?_)
 rotate_left
 ·simp +contextual (disch:=omega) only[go_sem]
  simp[B7,h1]
 simp +contextual (disch:=omega) only[go_sem]
 refine A9 (Se _ b s.tallies (ht.pre p1) l2 z1) (fun h2=> ?_) (fun h2=> ?_)
 rotate_left
 ·simp +contextual (disch:=omega) only[go_sem]
  simp[B7,h2]
 simp +contextual (disch:=omega) only[go_sem]
 refine A9 (Yq _ c s.lives (hv.pre p1) a s.know (hk.pre p1) l1 l3 z2) (fun h3=> ?_) (fun h3=> ?_)
 rotate_left
 ·simp +contextual (disch:=omega) only[go_sem]
  simp[B7,h3]
 simp +contextual (disch:=omega) only[go_sem]
 refine A9 (Yr _ v s.cells (hc.pre p1) a s.know (hk.pre p1) l1 l4 z3) (fun h4=> ?_) (fun h4=> ?_)
 rotate_left
 ·simp +contextual (disch:=omega) only[go_sem]
  simp[B7,h4]
 simp +contextual (disch:=omega) only[go_sem]
 refine A7 (A18 _ v s.cells (hc.pre p1) l4 (A3y h4)) ?_
 simp +contextual (disch:=omega) only[go_sem]
 simp[B7,h1,h2,h3,h4]
theorem Ado:decide ((-1:Int)<0)=true:=rfl
theorem Yt (σ:St) (cs:List GV) (s:State) (hR:A8.R σ s cs) (hl:Ac s≤1099511627776):Ret Tryz.prog Sh [.agg cs] σ (.bool (B7 s)) σ:=by
 obtain⟨a,b,c,v,rfl,hk,ht,hv,hc⟩:=hR
 obtain⟨l1,l2,l3,l4,z1,z2,z3⟩:=Am hl
 have p1:=pre1 σ (some (Blk.row 1 [a,b,c,v]))
 rw[← A3x]
 refine Af A15 (Z0z rfl) trivial ?_
 simp +contextual (disch:=omega) only[go_sem,Sm]
 refine A9 (Fw _ a s.know (hk.pre p1) l1) (fun h1=> ?_) (fun h1=> ?_)
 rotate_left
 ·simp +contextual (disch:=omega) only[go_sem]
  simp[E7,h1]
 simp +contextual (disch:=omega) only[go_sem]
 refine A9 (Qi _ b s.tallies (ht.pre p1) l2 z1) (fun h2=> ?_) (fun h2=> ?_)
 rotate_left
 ·simp +contextual (disch:=omega) only[go_sem]
  simp[E7,h2]
 simp +contextual (disch:=omega) only[go_sem]
 refine A9 (V6 _ c s.lives (hv.pre p1) l3 z2) (fun h3=> ?_) (fun h3=> ?_)
 rotate_left
 ·simp +contextual (disch:=omega) only[go_sem]
  simp[E7,h3]
 simp +contextual (disch:=omega) only[go_sem]
 refine A9 (V7 _ v s.cells (hc.pre p1) l4 z3) (fun h4=> ?_) (fun h4=> ?_)
 rotate_left
 ·simp +contextual (disch:=omega) only[go_sem]
  simp[E7,h4]
 simp +contextual (disch:=omega) only[go_sem]
 refine B8 s.lives.length 3 (fun i env τ=>env 1= .ptr σ.length 0∧(s.lives.take i).all (livK s.know)=true∧σ++[some (.row 1 [a,b,c,v])] <+: τ) rfl ⟨rfl,rfl,List.prefix_refl _⟩ ?_ ?_
 ·rintro i env τ hi e3 c0 ⟨e1,ha,hp⟩
  have hf:=fun h=>Di (p:=livK s.know) hi h
  have hq:=Cy hi ha
  simp +contextual (disch:=omega) only[go_sem,c0,e1,e3,A0 (Mo hp),hv.len,A3 (hv.pre (D9 hp)) hi]
  refine A9 (Fi _ a s.know s.lives[i].dot (hk.pre (D9 hp)) l1) (fun h5=> ?_) (fun h5=> ?_)
  ·simp +contextual (disch:=omega) only[go_sem,e1,e3,hp]
   exact hq h5
  ·simp +contextual (disch:=omega) only[go_sem,D9 hp]
   simp[E7,hf h5]
 ·rintro env τ e3 c0 ⟨e1,ha5,hp⟩
  rw[List.take_length] at ha5
  simp +contextual (disch:=omega) only[go_sem,c0,e1,e3,A0 (Mo hp),hv.len]
  refine B8 s.cells.length 4 (fun i env τ=>env 1= .ptr σ.length 0∧(s.cells.take i).all (celK s.cells s.know)=true∧σ++[some (.row 1 [a,b,c,v])] <+: τ) rfl ⟨e1,rfl,hp⟩ ?_ ?_
  ·rintro i env τ hi e4 c0 ⟨e1,ha,hp⟩
   have hf:=fun h=>Di (p:=celK s.cells s.know) hi h
   have hq:=Cy hi ha
   have C0:=A4 (hc.pre (D9 hp)) hi
   have hr:=Mo hp
   have hr2:rdB (τ++[some (Blk.row 1 [.str s.cells[i].obj,gi s.cells[i].dot.rep,gi s.cells[i].dot.seq,gi s.cells[i].time,gi s.cells[i].ref.rep,gi s.cells[i].ref.seq,gi s.cells[i].val,.bool s.cells[i].gone])]) σ.length=some [a,b,c,v]:=Ix hr _
   simp +contextual (disch:=omega) only[go_sem,c0,e1,e4,A0 hr,A0 hr2,hc.len,C0]
   refine A9 (Fi _ a s.know s.cells[i].dot (hk.pre (A1 (D9 hp) _)) l1) (fun h6=> ?_) (fun h6=> ?_)
   rotate_left
   ·simp +contextual (disch:=omega) only[go_sem,D9 hp,A1 (D9 hp) _]
    simp[E7,hf (by simp[celK,h6])]
   by_cases hz:s.cells[i].ref=⟨0,0⟩
   ·simp +contextual (disch:=omega) only[go_sem,e1,e4,decide_eq_true hz,A1 hp _]
    exact hq (by simp[celK,ref1,h6,hz])
   ·simp +contextual (disch:=omega) only[go_sem,e1,e4,decide_eq_false hz,A0 hr2]
    refine A7 (Sr _ a b c v s.cells s.cells[i].ref (hc.pre (A1 (D9 hp) _)) l4) ?_
    cases hx:Cj s.cells s.cells[i].ref with
    |none=>
     have hb:celK s.cells s.know s.cells[i]=false:=by simp[celK,ref1,hz,hx]
     have hn:Bt s.cells s.cells[i].ref= -1:=by simp[Bt,hx]
     simp +contextual (disch:=omega) only[go_sem,hn,Ado,D9 hp,A1 (D9 hp) _]
     simp[E7,hf hb]
    |some k=>
     obtain⟨hkl,_⟩:=Bi hx
     have hb:celK s.cells s.know s.cells[i]=(decide (s.cells[k].obj=s.cells[i].obj)&&decide (s.cells[k].time<s.cells[i].time)):=by simp[celK,h6,ref1,hz,hx,Bs hkl]
     have hn:Bt s.cells s.cells[i].ref=k:=by simp[Bt,hx]
     have hd:decide ((k:Int)<0)=false:=by simp
     simp +contextual (disch:=omega) only[go_sem,hn,hd,e1,e4,A0 hr2,A4 (hc.pre (D9 hp)) hkl,fun r=>A4 (hc.pre (A1 (D9 hp) r)) hkl,D9 hp,A1 (D9 hp) _,A1 hp _]
     refine⟨fun q1=> ?_,fun q1=>⟨fun q2=> ?_,fun q2=>hq ?_⟩⟩
     ·simp only[Bool.not_eq_true'] at q1
      rw[q1] at hb
      simp[E7,hf (by rw[hb];rfl)]
     ·rw[decide_eq_false (show ¬ s.cells[k].time<s.cells[i].time by have:=of_decide_eq_true q2;omega),Bool.and_false] at hb
      simp[E7,hf hb]
     ·simp only[Bool.not_eq_false'] at q1
      rw[hb,q1,decide_eq_true (show s.cells[k].time<s.cells[i].time by have:=of_decide_eq_false q2;omega)];rfl
  ·rintro env τ e4 c0 ⟨e1,ha,hp⟩
   rw[List.take_length] at ha
   simp +contextual (disch:=omega) only[go_sem,c0,e1,e4,A0 (Mo hp),hc.len,D9 hp]
   simp[E7,h1,h2,h3,h4,ha5,ha]
theorem Ko (σ:St) (cs:List GV) (s:State) (hR:A8.R σ s cs) (d:Dot) (hl:Ac s≤1099511627776):Ret Tryz.prog Oe [.agg cs,.agg [gi d.rep,gi d.seq]] σ (gi (Bt s.cells d)) σ:=by
 obtain⟨a,b,c,v,rfl,_,_,_,h⟩:=hR
 exact Sr σ a b c v s.cells d h (Am hl).2.2.2.1
theorem Hu (σ:St) (cs:List GV) (s:State) (hR:A8.R σ s cs) (d:Dot) (hl:Ac s≤1099511627776):Ret Tryz.prog Og [.agg cs,.agg [gi d.rep,gi d.seq]] σ (gi (Bt s.cells d)) σ:=by
 obtain⟨a,b,c,v,rfl,_,_,_,h⟩:=hR
 exact A48 σ a b c v s.cells d h (Am hl).2.2.2.1
end
section
open Go Go.RowKit
@[go_sem] theorem bit_tup {vs:List GV}:(GV.tup vs).bit=none:=(rfl)
def A19 (k:Int):Bool:=inB k 2 5
def Wm (k:Int):Bool:=k==1||k==4||k==6
def noS:ByteArray:=⟨#[]⟩
theorem M8 (σ:St) (k:Int):Ret Tryz.prog P4 [gi k] σ (.bool (A19 k)) σ:=by
 refine Af Yl (Z0z rfl) trivial ?_
 simp +contextual (disch:=omega) only[go_sem,P5]
 refine A7 (Bh _ _ _ _) ?_
 simp +contextual (disch:=omega) only[go_sem,A19]
theorem Pg (σ:St) (k:Int):Ret Tryz.prog W8 [gi k] σ (.bool (A19 k)) σ:=by
 refine Af A3t (Z0z rfl) trivial ?_
 simp +contextual (disch:=omega) only[go_sem,W9]
 refine A7 (Aw _ _ _ _) ?_
 simp +contextual (disch:=omega) only[go_sem,A19]
theorem Ph (σ:St) (k:Int):Ret Tryz.prog Ms [gi k] σ (.bool (Wm k)) σ:=by
 refine Af V3 (Z0z rfl) trivial ?_
 simp +contextual (disch:=omega) only[go_sem,Mt,Wm]
 grind
theorem Pi (σ:St) (k:Int):Ret Tryz.prog Wa [gi k] σ (.bool (Wm k)) σ:=by
 refine Af A3u (Z0z rfl) trivial ?_
 simp +contextual (disch:=omega) only[go_sem,Wb,Wm]
 grind
def Lp (kind val:Int):Bool:=val==0||Wm kind&&inB val 0 999999
def Ba (kind:Int) (obj key:ByteArray) (val:Int):Bool:=inB kind 1 7&&(Cu obj&&((if A19 kind then Cu key else decide (key=noS))&&Lp kind val))
theorem A49 (σ:St) (kind:Int) (obj key:ByteArray) (val:Int) (ho:obj.size≤1099511627776) (hk:key.size≤1099511627776):Ret Tryz.prog P6 [gi kind,.str obj,.str key,gi val] σ (.bool (Ba kind obj key val)) σ:=by
 refine Af Ym (Z0z rfl) trivial ?_
 simp +contextual (disch:=omega) only[go_sem,P7]
 refine A9 (Bh _ _ _ _) (fun h1=> ?_) (fun h1=> ?_)
 ·simp +contextual (disch:=omega) only[go_sem]
  refine A9 (Eg _ obj ho) (fun h2=> ?_) (fun h2=> ?_)
  ·simp +contextual (disch:=omega) only[go_sem]
   refine A9 (M8 _ _) (fun h3=> ?_) (fun h3=> ?_)
   ·simp +contextual (disch:=omega) only[go_sem]
    refine A9 (Eg _ key hk) (fun h4=> ?_) (fun h4=> ?_)
    ·simp +contextual (disch:=omega) only[go_sem]
     refine A9 (M8 _ _) (fun h3=> ?_) (fun h3'=>by rw[h3] at h3';cases h3')
     simp +contextual (disch:=omega) only[go_sem]
     cases hv:(val==0) with
     |true=>simp +contextual (disch:=omega) only[go_sem,Ba,h1,h2,h3,h4,Lp,hv,Bool.true_or]
     |false=>
      simp +contextual (disch:=omega) only[go_sem,hv]
      refine A9 (Ph _ _) (fun h5=> ?_) (fun h5=> ?_)
      ·simp +contextual (disch:=omega) only[go_sem]
       refine A7 (Bh _ _ _ _) ?_
       simp +contextual (disch:=omega) only[go_sem,Ba,h1,h2,h3,h4,h5,Lp,hv,Bool.false_or]
      ·simp +contextual (disch:=omega) only[go_sem,Ba,h1,h2,h3,h4,h5,Lp,hv,Bool.false_or]
    ·simp +contextual (disch:=omega) only[go_sem,Ba,h1,h2,h3,h4]
   ·simp +contextual (disch:=omega) only[go_sem]
    refine A9 (M8 _ _) (fun h3'=>by rw[h3] at h3';cases h3') (fun h3=> ?_)
    simp +contextual (disch:=omega) only[go_sem]
    cases hq:decide (key=noS) with
    |false=>
     have hq':decide (key={data:= #[]})=false:=hq
     simp +contextual (disch:=omega) only[go_sem,hq',Ba,h1,h2,h3,hq]
    |true=>
     have hq':decide (key={data:= #[]})=true:=hq
     simp +contextual (disch:=omega) only[go_sem,hq']
     cases hv:(val==0) with
     |true=>simp +contextual (disch:=omega) only[go_sem,Ba,h1,h2,h3,hq,Lp,hv,Bool.true_or]
     |false=>
      simp +contextual (disch:=omega) only[go_sem,hv]
      refine A9 (Ph _ _) (fun h5=> ?_) (fun h5=> ?_)
      ·simp +contextual (disch:=omega) only[go_sem]
       refine A7 (Bh _ _ _ _) ?_
       simp +contextual (disch:=omega) only[go_sem,Ba,h1,h2,h3,hq,h5,Lp,hv,Bool.false_or]
      ·simp +contextual (disch:=omega) only[go_sem,Ba,h1,h2,h3,hq,h5,Lp,hv,Bool.false_or]
  ·simp +contextual (disch:=omega) only[go_sem,Ba,h1,h2]
 ·simp +contextual (disch:=omega) only[go_sem,Ba,h1]
theorem Gk (σ:St) (kind:Int) (obj key:ByteArray) (val:Int) (ho:obj.size≤1099511627776) (hk:key.size≤1099511627776):Ret Tryz.prog Rw [gi kind,.str obj,.str key,gi val] σ (.bool (Ba kind obj key val)) σ:=by
 have ne:Cu noS=false:=by decide
 refine Af A0u (Z0z rfl) trivial ?_
 simp +contextual (disch:=omega) only[go_sem,Rx]
 refine A9 (Aw _ _ _ _) (fun h1=> ?_) (fun h1=> ?_)
 ·simp +contextual (disch:=omega) only[go_sem]
  refine A9 (Dj _ obj ho) (fun h2=> ?_) (fun h2=> ?_)
  ·simp +contextual (disch:=omega) only[go_sem]
   cases hq:decide (key=noS) with
   |true=>
    have hq':decide (key={data:= #[]})=true:=hq
    have hkn:Cu key=false:=by rw[of_decide_eq_true hq];exact ne
    simp +contextual (disch:=omega) only[go_sem,hq']
    refine A9 (Pg _ _) (fun h3=> ?_) (fun h3=> ?_)
    ·simp +contextual (disch:=omega) only[go_sem]
     refine A9 (Dj _ key hk) (fun h4=>by rw[hkn] at h4;cases h4) (fun h4=> ?_)
     simp +contextual (disch:=omega) only[go_sem,Ba,h1,h2,h3,h4]
    ·simp +contextual (disch:=omega) only[go_sem]
     cases hv:(val==0) with
     |true=>simp +contextual (disch:=omega) only[go_sem,Ba,h1,h2,h3,hq,Lp,hv,Bool.true_or]
     |false=>
      simp +contextual (disch:=omega) only[go_sem,hv]
      refine A9 (Pi _ _) (fun h5=> ?_) (fun h5=> ?_)
      ·simp +contextual (disch:=omega) only[go_sem]
       refine A7 (Aw _ _ _ _) ?_
       simp +contextual (disch:=omega) only[go_sem,Ba,h1,h2,h3,hq,h5,Lp,hv,Bool.false_or]
      ·simp +contextual (disch:=omega) only[go_sem,Ba,h1,h2,h3,hq,h5,Lp,hv,Bool.false_or]
   |false=>
    have hq':decide (key={data:= #[]})=false:=hq
    simp +contextual (disch:=omega) only[go_sem,hq']
    refine A9 (Dj _ key hk) (fun h4=> ?_) (fun h4=> ?_)
    ·simp +contextual (disch:=omega) only[go_sem]
     refine A9 (Pg _ _) (fun h3=> ?_) (fun h3=> ?_)
     ·simp +contextual (disch:=omega) only[go_sem]
      cases hv:(val==0) with
      |true=>simp +contextual (disch:=omega) only[go_sem,Ba,h1,h2,h3,h4,Lp,hv,Bool.true_or]
      |false=>
       simp +contextual (disch:=omega) only[go_sem,hv]
       refine A9 (Pi _ _) (fun h5=> ?_) (fun h5=> ?_)
       ·simp +contextual (disch:=omega) only[go_sem]
        refine A7 (Aw _ _ _ _) ?_
        simp +contextual (disch:=omega) only[go_sem,Ba,h1,h2,h3,h4,h5,Lp,hv,Bool.false_or]
       ·simp +contextual (disch:=omega) only[go_sem,Ba,h1,h2,h3,h4,h5,Lp,hv,Bool.false_or]
     ·simp +contextual (disch:=omega) only[go_sem,Ba,h1,h2,h3,hq]
    ·simp +contextual (disch:=omega) only[go_sem]
     cases h3:A19 kind<;>simp +contextual (disch:=omega) only[go_sem,Ba,h1,h2,h3,h4,hq]
  ·simp +contextual (disch:=omega) only[go_sem,Ba,h1,h2]
 ·simp +contextual (disch:=omega) only[go_sem,Ba,h1]
def d0:Dot:=⟨0,0⟩
def M9 (a:Act):Bool:=if a.kind==7 then B9 a.knew a.ref else if a.kind==6 then decide (a.ref=d0)||B9 a.knew a.ref else decide (a.ref=d0)
def Dm (a:Act):Bool:=Gi a.dot&&(okK a.knew&&(decide (at0 a.knew a.dot.rep=a.dot.seq - 1)&&inB a.time 1 10000))
def Ct (a:Act):Bool:=Dm a&&(Ba a.kind a.obj a.key a.val&&M9 a)
theorem A4a (σ:St) (cs:List GV) (a:Act) (hR:kAct.R σ a cs) (hl:E9 a≤1099511627776):Ret Tryz.prog A0v [.agg cs] σ (.bool (Ct a)) σ:=by
 obtain⟨v,rfl,h⟩:=hR
 unfold E9 at hl
 have h1:=h.pre (pre1 σ (some (Blk.row 1 [.int .i64 a.dot.rep,.int .i64 a.dot.seq,.int .i64 a.time,v,.int .i64 a.kind,.str a.obj,.str a.key,.int .i64 a.val,.int .i64 a.ref.rep,.int .i64 a.ref.seq])))
 refine Af A70 (Z0z rfl) trivial ?_
 simp +contextual (disch:=omega) only[go_sem,A0w]
 refine A9 (Gw _ a.dot) (fun hd=> ?_) (fun hd=> ?_)
 ·simp +contextual (disch:=omega) only[go_sem]
  refine A9 (Fw _ v a.knew h1 (by omega)) (fun hk=> ?_) (fun hk=> ?_)
  ·have hd':=Kf.1 hd
   have hr:=A5x h1 hk hd'.1.1 hd'.1.2
   cases he:(at0 a.knew a.dot.rep==a.dot.seq - 1) with
   |false=>
    have he':decide (at0 a.knew a.dot.rep=a.dot.seq - 1)=false:=he
    simp +contextual (disch:=omega) only[go_sem,hr,bne,he,Ct,Dm,hd,hk,he']
   |true=>
    have he':decide (at0 a.knew a.dot.rep=a.dot.seq - 1)=true:=he
    simp +contextual (disch:=omega) only[go_sem,hr,bne,he]
    refine A9 (Bh _ _ _ _) (fun ht=> ?_) (fun ht=> ?_)
    ·have hh:Dm a=true:=by simp only[Dm,hd,hk,he',ht,Bool.and_self]
     simp +contextual (disch:=omega) only[go_sem]
     refine A9 (A49 _ _ _ _ _ (by omega) (by omega)) (fun hp=> ?_) (fun hp=> ?_)
     ·simp +contextual (disch:=omega) only[go_sem]
      cases h7:(a.kind==7) with
      |true=>
       simp +contextual (disch:=omega) only[go_sem,h7]
       refine A7 (Fi _ v a.knew a.ref h1 (by omega)) ?_
       simp +contextual (disch:=omega) only[go_sem,Ct,hh,hp,M9,h7]
      |false=>
       cases h6:(a.kind==6) with
       |false=>
        simp +contextual (disch:=omega) only[go_sem,h7,h6,Ct,hh,hp,M9,d0]
        rfl
       |true=>
        simp +contextual (disch:=omega) only[go_sem,h7,h6]
        cases hz:decide (a.ref=d0) with
        |true=>
         have hz':decide (a.ref={rep:=0,seq:=0})=true:=hz
         simp +contextual (disch:=omega) only[go_sem,hz',Ct,hh,hp,M9,h7,h6,hz,Bool.true_or]
        |false=>
         have hz':decide (a.ref={rep:=0,seq:=0})=false:=hz
         simp +contextual (disch:=omega) only[go_sem,hz']
         refine A7 (Fi _ v a.knew a.ref h1 (by omega)) ?_
         simp +contextual (disch:=omega) only[go_sem,Ct,hh,hp,M9,h7,h6,hz,Bool.false_or]
     ·simp +contextual (disch:=omega) only[go_sem,Ct,hh,hp]
    ·simp +contextual (disch:=omega) only[go_sem,Ct,Dm,hd,hk,he',ht]
  ·simp +contextual (disch:=omega) only[go_sem,Ct,Dm,hd,hk]
 ·simp +contextual (disch:=omega) only[go_sem,Ct,Dm,hd]
theorem A4b (σ:St) (cs:List GV) (a:Act) (hR:kAct.R σ a cs) (hl:E9 a≤1099511627776):Ret Tryz.prog A0x [.agg cs] σ (.bool (Ct a)) σ:=by
 obtain⟨v,rfl,h⟩:=hR
 unfold E9 at hl
 have h1:=h.pre (pre1 σ (some (Blk.row 1 [.int .i64 a.dot.rep,.int .i64 a.dot.seq,.int .i64 a.time,v,.int .i64 a.kind,.str a.obj,.str a.key,.int .i64 a.val,.int .i64 a.ref.rep,.int .i64 a.ref.seq])))
 refine Af A71 (Z0z rfl) trivial ?_
 simp +contextual (disch:=omega) only[go_sem,A0y]
 refine A9 (Ry _ a.dot) (fun hd=> ?_) (fun hd=> ?_)
 ·simp +contextual (disch:=omega) only[go_sem]
  refine A9 (Fx _ v a.knew h1 (by omega)) (fun hk=> ?_) (fun hk=> ?_)
  ·have hd':=Kf.1 hd
   have hr:=A5x h1 hk hd'.1.1 hd'.1.2
   cases he:(at0 a.knew a.dot.rep==a.dot.seq - 1) with
   |false=>
    have he':decide (at0 a.knew a.dot.rep=a.dot.seq - 1)=false:=he
    simp +contextual (disch:=omega) only[go_sem,hr,bne,he,Ct,Dm,hd,hk,he']
   |true=>
    have he':decide (at0 a.knew a.dot.rep=a.dot.seq - 1)=true:=he
    simp +contextual (disch:=omega) only[go_sem,hr,bne,he]
    refine A9 (Aw _ _ _ _) (fun ht=> ?_) (fun ht=> ?_)
    ·have hh:Dm a=true:=by simp only[Dm,hd,hk,he',ht,Bool.and_self]
     have fin:∀ b:Bool,M9 a=b→Ct a=(Ba a.kind a.obj a.key a.val&&b):=fun b hb=>by rw[Ct,hh,hb];rfl
     cases h7:(a.kind==7) with
     |true=>
      simp +contextual (disch:=omega) only[go_sem,h7]
      refine A9 (Fj _ v a.knew a.ref h1 (by omega)) (fun hq=> ?_) (fun hq=> ?_)
      ·simp +contextual (disch:=omega) only[go_sem]
       refine A7 (Gk _ _ _ _ _ (by omega) (by omega)) ?_
       simp +contextual (disch:=omega) only[go_sem,fin true (by simp[M9,h7,hq])]
      ·simp +contextual (disch:=omega) only[go_sem,fin false (by simp[M9,h7,hq])]
     |false=>
      cases h6:(a.kind==6) with
      |false=>
       cases hz:decide (a.ref=d0) with
       |true=>
        have hz':decide (a.ref={rep:=0,seq:=0})=true:=hz
        simp +contextual (disch:=omega) only[go_sem,h7,h6,hz']
        refine A7 (Gk _ _ _ _ _ (by omega) (by omega)) ?_
        simp +contextual (disch:=omega) only[go_sem,fin true (by simp[M9,h7,h6,hz])]
       |false=>
        have hz':decide (a.ref={rep:=0,seq:=0})=false:=hz
        simp +contextual (disch:=omega) only[go_sem,h7,h6,hz',fin false (by simp[M9,h7,h6,hz])]
      |true=>
       cases hz:decide (a.ref=d0) with
       |true=>
        have hz':decide (a.ref={rep:=0,seq:=0})=true:=hz
        simp +contextual (disch:=omega) only[go_sem,h7,h6,hz']
        refine A7 (Gk _ _ _ _ _ (by omega) (by omega)) ?_
        simp +contextual (disch:=omega) only[go_sem,fin true (by simp[M9,h7,h6,hz])]
       |false=>
        have hz':decide (a.ref={rep:=0,seq:=0})=false:=hz
        simp +contextual (disch:=omega) only[go_sem,h7,h6,hz']
        refine A9 (Fj _ v a.knew a.ref h1 (by omega)) (fun hq=> ?_) (fun hq=> ?_)
        ·simp +contextual (disch:=omega) only[go_sem]
         refine A7 (Gk _ _ _ _ _ (by omega) (by omega)) ?_
         simp +contextual (disch:=omega) only[go_sem,fin true (by simp[M9,h7,h6,hz,hq])]
        ·simp +contextual (disch:=omega) only[go_sem,fin false (by simp[M9,h7,h6,hz,hq])]
    ·simp +contextual (disch:=omega) only[go_sem,Ct,Dm,hd,hk,he',ht]
  ·simp +contextual (disch:=omega) only[go_sem,Ct,Dm,hd,hk]
 ·simp +contextual (disch:=omega) only[go_sem,Ct,Dm,hd]
end
section
open Go Go.RowKit
abbrev Abp:Nat:=60
def Abq:Fn1:=⟨34,[.t 4],(.seq (.reg [o 2 (.box (.t 0)),o 3 (.box (.t 1)),o 4 (.mov (.k (.bool false)))]) (.seq (.reg [o 5 (.ld true 10 (.t 2)),o 6 (.call 185 [(.t 5)]),o 7 (.mov (.t 6)),og 8 7 true (.ld true 10 (.t 3)),og 9 7 true (.call 185 [(.t 8)]),o 10 (.pick (.t 7) (.t 9) (.k (.bool false))),o 11 (.mov (.t 10)),og 12 11 true (.fad 0 (.t 2)),og 13 11 true (.ld true 2 (.t 12)),og 14 11 true (.fad 0 (.t 3)),og 15 11 true (.ld true 2 (.t 14)),og 16 11 true (.eqs true [.i .i64,.i .i64] (.t 13) (.t 15)),o 17 (.pick (.t 11) (.t 16) (.k (.bool false))),o 18 (.mov (.t 17)),og 19 18 true (.fad 3 (.t 2)),og 20 18 true (.ld false 1 (.t 19)),og 21 18 true (.fad 0 (.t 3)),og 22 18 true (.ld true 2 (.t 21)),og 23 18 true (.call 45 [(.t 20),(.t 22)]),og 24 18 true (.un .not (.t 23)),o 25 (.pick (.t 18) (.t 24) (.k (.bool false))),o 26 (.mov (.t 25)),og 27 26 true (.fad 3 (.t 3)),og 28 26 true (.ld false 1 (.t 27)),og 29 26 true (.fad 0 (.t 2)),og 30 26 true (.ld true 2 (.t 29)),og 31 26 true (.call 45 [(.t 28),(.t 30)]),og 32 26 true (.un .not (.t 31)),o 33 (.pick (.t 26) (.t 32) (.k (.bool false))),o 4 (.mov (.t 33))]) .ret))⟩
abbrev Abr:Nat:=46
def Abs:Fn1:=⟨34,[.t 4],(.seq (.reg [o 2 (.box (.t 0)),o 3 (.box (.t 1)),o 4 (.mov (.k (.bool false)))]) (.seq (.reg [o 5 (.ld true 10 (.t 2)),o 6 (.call 169 [(.t 5)]),o 7 (.mov (.t 6)),og 8 7 true (.ld true 10 (.t 3)),og 9 7 true (.call 169 [(.t 8)]),o 10 (.pick (.t 7) (.t 9) (.k (.bool false))),o 11 (.mov (.t 10)),og 12 11 true (.fad 0 (.t 2)),og 13 11 true (.ld true 2 (.t 12)),og 14 11 true (.fad 0 (.t 3)),og 15 11 true (.ld true 2 (.t 14)),og 16 11 true (.eqs true [.i .i64,.i .i64] (.t 13) (.t 15)),o 17 (.pick (.t 11) (.t 16) (.k (.bool false))),o 18 (.mov (.t 17)),og 19 18 true (.fad 3 (.t 2)),og 20 18 true (.ld false 1 (.t 19)),og 21 18 true (.fad 0 (.t 3)),og 22 18 true (.ld true 2 (.t 21)),og 23 18 true (.call 170 [(.t 20),(.t 22)]),og 24 18 true (.un .not (.t 23)),o 25 (.pick (.t 18) (.t 24) (.k (.bool false))),o 26 (.mov (.t 25)),og 27 26 true (.fad 3 (.t 3)),og 28 26 true (.ld false 1 (.t 27)),og 29 26 true (.fad 0 (.t 2)),og 30 26 true (.ld true 2 (.t 29)),og 31 26 true (.call 170 [(.t 28),(.t 30)]),og 32 26 true (.un .not (.t 31)),o 33 (.pick (.t 26) (.t 32) (.k (.bool false))),o 4 (.mov (.t 33))]) .ret))⟩
def together (a b:Act):Bool:=Ct a&&(Ct b&&(!decide (a.dot=b.dot)&&(!B9 a.knew b.dot&& !B9 b.knew a.dot)))
end
section
open Go Go.RowKit
section
variable {α:Type}
def insB (lt:α→α→Bool) (x:α):List α→List α
 |[]=>[x]
 |k::r=>if lt x k then x::k::r else k::insB lt x r
def C3 (lt:α→α→Bool) (l:List α):List α:=l.foldl (fun acc x=>insB lt x acc) []
theorem Su {lt:α→α→Bool} {l:List α} {x:α}:C3 lt (l++[x])=insB lt x (C3 lt l):=by simp[C3]
theorem Gz (lt:α→α→Bool) (x:α):∀ l:List α,(insB lt x l).Perm (x::l)
 |[]=>.refl _
 |k::r=>by
  unfold insB
  split
  ·exact .refl _
  ·exact((Gz lt x r).cons k).trans (.swap x k r)
theorem D5 (lt:α→α→Bool) (l:List α):(C3 lt l).Perm l:=by
 have key:∀(l acc:List α),(l.foldl (fun acc x=>insB lt x acc) acc).Perm (acc++l):=by
  intro l
  induction l with
  |nil=>intro acc;simp
  |cons x l ih=>
   intro acc
   simp only[List.foldl_cons]
   refine(ih _).trans ?_
   refine((Gz lt x acc).append_right l).trans ?_
   rw[List.cons_append]
   exact List.perm_middle.symm
 have:=key l []
 unfold C3
 simpa using this
theorem Sv (lt:α→α→Bool) (x:α) (l:List α):(insB lt x l).length=l.length+1:=(Gz lt x l).length_eq
theorem Ew (lt:α→α→Bool) (l:List α):(C3 lt l).length=l.length:=(D5 lt l).length_eq
abbrev Up (lt:α→α→Bool) (l:List α):Prop:=l.Pairwise fun a b=>lt b a=false
open Go.Sort (SWO) in
theorem SWO.asym {lt:α→α→Bool} (h:SWO lt) {x y:α} (hxy:lt x y=true):lt y x=false:=by
 cases e:lt y x with
 |false=>rfl
 |true=>have:=h.trans _ _ _ hxy e;rw[h.irrefl] at this;cases this
theorem A93 {lt:α→α→Bool} (h:Go.Sort.SWO lt) {x:α}:∀ {l:List α},Up lt l→Up lt (insB lt x l)
 |[],_=>by simp[insB]
 |k::r,hl=>by
  obtain⟨h1,h2⟩:=List.pairwise_cons.1 hl
  unfold insB
  split
  ·rename_i hx
   refine List.pairwise_cons.2 ⟨fun y hy=> ?_,hl⟩
   rcases List.mem_cons.1 hy with rfl|hy
   ·exact SWO.asym h hx
   ·have:=h1 y hy
    cases e:lt y x with
    |false=>rfl
    |true=>rw[h.trans _ _ _ e hx] at this;cases this
  ·rename_i hx
   refine List.pairwise_cons.2 ⟨fun y hy=> ?_,A93 h h2⟩
   rcases List.mem_cons.1 ((Gz lt x r).mem_iff.1 hy) with rfl|hy
   ·simpa using hx
   ·exact h1 y hy
theorem N3 {lt:α→α→Bool} (h:Go.Sort.SWO lt) (l:List α):Up lt (C3 lt l):=by
 have key:∀(l acc:List α),Up lt acc→Up lt (l.foldl (fun acc x=>insB lt x acc) acc):=by
  intro l
  induction l with
  |nil=>intro acc h;exact h
  |cons x l ih=>intro acc ha;exact ih _ (A93 h ha)
 exact key l [] .nil
theorem Sw {lt:α→α→Bool}:∀ {l m:List α},(∀ x∈l,∀ y∈l,lt x y=false→lt y x=false→x=y)→l.Perm m→Up lt l→Up lt m→l=m
 |[],m,_,hp,_,_=>(List.nil_perm.1 hp).symm
 |a::l,[],_,hp,_,_=>by have:=hp.length_eq;simp at this
 |a::l,b::m,ht,hp,h1,h2=>by
  obtain⟨h3,h4⟩:=List.pairwise_cons.1 h1
  obtain⟨h5,h6⟩:=List.pairwise_cons.1 h2
  have hab:a=b:=by
   have ha:a∈b::m:=hp.mem_iff.1 List.mem_cons_self
   have hb:b∈a::l:=hp.mem_iff.2 List.mem_cons_self
   rcases List.mem_cons.1 ha with e|ha
   ·exact e
   ·rcases List.mem_cons.1 hb with e|hb
    ·exact e.symm
    ·exact ht a List.mem_cons_self b (List.mem_cons_of_mem _ hb) (h5 a ha) (h3 b hb)
  subst hab
  rw[Sw (fun x hx y hy=>ht x (List.mem_cons_of_mem _ hx) y (List.mem_cons_of_mem _ hy)) hp.cons_inv h4 h6]
theorem N4 {lt:α→α→Bool} (hi:∀ x,lt x x=false) (ha:∀ x y,lt x y=true→lt y x=true→False):∀ {l m:List α},l.Pairwise (fun a b=>lt a b=true)→m.Pairwise (fun a b=>lt a b=true)→(∀ x,x∈l↔x∈m)→l=m
 |[],[],_,_,_=>rfl
 |[],b::m,_,_,h=>absurd ((h b).2 List.mem_cons_self) (by simp)
 |a::l,[],_,_,h=>absurd ((h a).1 List.mem_cons_self) (by simp)
 |a::l,b::m,h1,h2,h=>by
  obtain⟨h3,h4⟩:=List.pairwise_cons.1 h1
  obtain⟨h5,h6⟩:=List.pairwise_cons.1 h2
  have hab:a=b:=by
   rcases List.mem_cons.1 ((h a).1 List.mem_cons_self) with e|hm
   ·exact e
   ·rcases List.mem_cons.1 ((h b).2 List.mem_cons_self) with e|hl
    ·exact e.symm
    ·exact(ha _ _ (h3 b hl) (h5 a hm)).elim
  subst hab
  rw[N4 hi ha h4 h6 fun x=> ?_]
  constructor
  ·intro hx
   rcases List.mem_cons.1 ((h x).1 (List.mem_cons_of_mem _ hx)) with e|hm
   ·subst e;have:=h3 x hx;rw[hi] at this;cases this
   ·exact hm
  ·intro hx
   rcases List.mem_cons.1 ((h x).2 (List.mem_cons_of_mem _ hx)) with e|hm
   ·subst e;have:=h5 x hx;rw[hi] at this;cases this
   ·exact hm
def putU [DecidableEq α] (lt:α→α→Bool) (x:α) (l:List α):List α:=if x∈l then l else insB lt x l
def Jk [DecidableEq α] (lt:α→α→Bool) (l:List α):List α:=l.foldl (fun acc x=>putU lt x acc) []
theorem A4c [DecidableEq α] {lt:α→α→Bool} {l:List α} {x:α}:Jk lt (l++[x])=putU lt x (Jk lt l):=by simp[Jk]
theorem Aas [DecidableEq α] {lt:α→α→Bool} {x y:α} {l:List α}:y∈putU lt x l↔y=x∨y∈l:=by
 unfold putU
 split
 ·rename_i h
  exact⟨.inr,fun h'=>by rcases h' with rfl|h'<;>assumption⟩
 ·rw[(Gz lt x l).mem_iff,List.mem_cons]
theorem Sz {lt:α→α→Bool} (ht:∀ x y z,lt x y=true→lt y z=true→lt x z=true) (htri:∀ x y,lt x y=false→lt y x=false→x=y) {x:α}:∀ {l:List α},x∉l→l.Pairwise (fun a b=>lt a b=true)→(insB lt x l).Pairwise (fun a b=>lt a b=true)
 |[],_,_=>by simp[insB]
 |k::r,hx,hl=>by
  obtain⟨h1,h2⟩:=List.pairwise_cons.1 hl
  unfold insB
  split
  ·rename_i hk
   refine List.pairwise_cons.2 ⟨fun y hy=> ?_,hl⟩
   rcases List.mem_cons.1 hy with rfl|hy
   ·exact hk
   ·exact ht _ _ _ hk (h1 y hy)
  ·rename_i hk
   have hk':lt x k=false:=by simpa using hk
   have hkx:lt k x=true:=by
    cases e:lt k x with
    |true=>rfl
    |false=>exact absurd (htri _ _ hk' e) fun e=>hx (by rw[e];exact List.mem_cons_self)
   refine List.pairwise_cons.2 ⟨fun y hy=> ?_,Sz ht htri (fun h=>hx (List.mem_cons_of_mem _ h)) h2⟩
   rcases List.mem_cons.1 ((Gz lt x r).mem_iff.1 hy) with rfl|hy
   ·exact hkx
   ·exact h1 y hy
theorem A4d [DecidableEq α] {lt:α→α→Bool} (ht:∀ x y z,lt x y=true→lt y z=true→lt x z=true) (htri:∀ x y,lt x y=false→lt y x=false→x=y) {x:α} {l:List α} (hl:l.Pairwise (fun a b=>lt a b=true)):(putU lt x l).Pairwise (fun a b=>lt a b=true):=by
 unfold putU
 split
 ·exact hl
 ·rename_i h;exact Sz ht htri h hl
theorem A4e [DecidableEq α] {lt:α→α→Bool} (ht:∀ x y z,lt x y=true→lt y z=true→lt x z=true) (htri:∀ x y,lt x y=false→lt y x=false→x=y) (l:List α):(Jk lt l).Pairwise (fun a b=>lt a b=true)∧∀ y,y∈Jk lt l↔y∈l:=by
 have key:∀(l acc:List α),acc.Pairwise (fun a b=>lt a b=true)→(l.foldl (fun acc x=>putU lt x acc) acc).Pairwise (fun a b=>lt a b=true)∧∀ y,y∈l.foldl (fun acc x=>putU lt x acc) acc↔y∈acc∨y∈l:=by
  intro l
  induction l with
  |nil=>intro acc h;exact⟨h,by simp⟩
  |cons x l ih=>
   intro acc h
   obtain⟨h1,h2⟩:=ih (putU lt x acc) (A4d ht htri h)
   refine⟨h1,fun y=> ?_⟩
   rw[List.foldl_cons,h2,Aas,List.mem_cons]
   constructor
   ·rintro((h|h)|h)
    ·exact .inr (.inl h)
    ·exact .inl h
    ·exact .inr (.inr h)
   ·rintro(h|h|h)
    ·exact .inl (.inr h)
    ·exact .inl (.inl h)
    ·exact .inr h
 have:=key l [] .nil
 exact⟨this.1,fun y=>by rw[Jk,this.2];simp⟩
theorem A4f [DecidableEq α] (lt:α→α→Bool) (x:α) (l:List α):(putU lt x l).length≤l.length+1:=by
 unfold putU
 split
 ·omega
 ·rw[Sv];exact Nat.le_refl _
theorem N5 [DecidableEq α] (lt:α→α→Bool) (l:List α):(Jk lt l).length≤l.length:=by
 have key:∀(l acc:List α),(l.foldl (fun acc x=>putU lt x acc) acc).length≤acc.length+l.length:=by
  intro l
  induction l with
  |nil=>intro acc;simp
  |cons x l ih=>
   intro acc
   have h1:=ih (putU lt x acc)
   have h2:=A4f lt x acc
   simp only[List.foldl_cons,List.length_cons];omega
 have:=key l []
 unfold Jk
 simpa using this
def Bd [DecidableEq α]:List α→List α
 |[]=>[]
 |[x]=>[x]
 |x::y::r=>if x=y then Bd (y::r) else x::Bd (y::r)
theorem J4 [DecidableEq α]:∀ {l:List α} {z:α},z∈Bd l↔z∈l
 |[],z=>by simp[Bd]
 |[x],z=>by simp[Bd]
 |x::y::r,z=>by
  unfold Bd
  split
  ·rename_i h;subst h
   rw[J4];simp
  ·rw[List.mem_cons,J4];simp
theorem I3 [DecidableEq α] {lt:α→α→Bool} (h:Go.Sort.SWO lt) (htri:∀ x y,lt x y=false→lt y x=false→x=y):∀ {l:List α},Up lt l→(Bd l).Pairwise (fun a b=>lt a b=true)
 |[],_=>.nil
 |[x],_=>by simp[Bd]
 |x::y::r,hl=>by
  obtain⟨h1,h2⟩:=List.pairwise_cons.1 hl
  unfold Bd
  split
  ·exact I3 h htri h2
  ·rename_i hne
   refine List.pairwise_cons.2 ⟨fun z hz=> ?_,I3 h htri h2⟩
   have hz:=J4.1 hz
   have hyx:lt x y=true:=by
    cases e:lt x y with
    |true=>rfl
    |false=>exact absurd (htri _ _ e (h1 y List.mem_cons_self)) hne
   rcases List.mem_cons.1 hz with rfl|hz
   ·exact hyx
   ·have h5:=(List.pairwise_cons.1 h2).1 z hz
    cases e:lt x z with
    |true=>rfl
    |false=>
     have:=h.ntrans _ _ _ e h5
     rw[hyx] at this;cases this
theorem Vb [DecidableEq α] {lt:α→α→Bool} (h:Go.Sort.SWO lt) (htri:∀ x y,lt x y=false→lt y x=false→x=y) {l m:List α} (hp:m.Perm l) (hu:Up lt m):Bd m=Jk lt l:=by
 obtain⟨h1,h2⟩:=A4e h.trans htri l
 refine N4 h.irrefl (fun x y h3 h4=>by rw[SWO.asym h h3] at h4;cases h4) (I3 h htri hu) h1 fun x=> ?_
 rw[J4,h2,hp.mem_iff]
theorem T0 {lt:α→α→Bool} (h:Go.Sort.SWO lt) {l m:List α} (htri:∀ x∈l,∀ y∈l,lt x y=false→lt y x=false→x=y) (hp:m.Perm l) (hu:Up lt m):m=C3 lt l:=Sw (fun x hx y hy=>htri x (hp.mem_iff.1 hx) y (hp.mem_iff.1 hy)) (hp.trans (D5 lt l).symm) hu (N3 h l)
end
def ltI (a b:Int):Bool:=decide (a<b)
theorem Adp:Go.Sort.SWO ltI:=⟨fun x=>by simp[ltI],fun x y z h1 h2=>by simp only[ltI,decide_eq_true_eq] at *;omega,fun x y z h1 h2=>by simp only[ltI,decide_eq_false_iff_not] at *;omega⟩
theorem Adr (x y:Int) (h1:ltI x y=false) (h2:ltI y x=false):x=y:=by simp only[ltI,decide_eq_false_iff_not] at *;omega
theorem Ra:Go.Sort.SWO txLt:=⟨Gj,fun x y z=>Lf,fun x y z h1 h2=>by
 cases e:txLt x z with
 |false=>rfl
 |true=>
  by_cases hxy:x=y
  ·subst hxy;rw[h2] at e;cases e
  ·have h3:txLt y x=true:=by
    cases e2:txLt y x with
    |true=>rfl
    |false=>exact absurd (Hm h1 e2) hxy
   rw[Lf h3 e] at h2;cases h2⟩
theorem A62 (x y:ByteArray):txLt x y=false→txLt y x=false→x=y:=Hm
end
section
open Go Go.RowKit
def Ea (a b:Cell):Bool:=decide (b.time<a.time)||decide (a.time=b.time)&&Au b.dot a.dot
theorem T1:Go.Sort.SWO Ea:=⟨fun x=>by simp[Ea,Ib],fun x y z h1 h2=>by
  simp only[Ea,Au,Bool.or_eq_true,Bool.and_eq_true,decide_eq_true_eq] at *;omega,fun x y z h1 h2=>by
  simp only[Ea,Au,Bool.or_eq_false_iff,Bool.and_eq_false_iff,decide_eq_false_iff_not] at *;omega⟩
theorem A1a {x y:Cell} (h1:Ea x y=false) (h2:Ea y x=false):x.dot=y.dot:=by
 rw[Dot.eq_iff]
 simp only[Ea,Au,Bool.or_eq_false_iff,Bool.and_eq_false_iff,decide_eq_false_iff_not] at *;omega
def Ce (d:Dot) (c:Cell):Bool:=decide (c.ref=d)
def If (o:ByteArray) (c:Cell):Bool:=decide (c.obj=o)
def rowF (sc:List Cell):Nat→Dot→List Cell
 |0,_=>[]
 |f+1,d=>(sc.filter (Ce d)).flatMap fun c=>c::rowF sc f c.dot
def Adq (sc:List Cell):Nat→Dot→Prop
 |0,d=>∀ c∈sc,c.ref≠d
 |f+1,d=>∀ c∈sc,c.ref=d→Adq sc f c.dot
theorem Adq.up {sc:List Cell}:∀ {f:Nat} {d:Dot},Adq sc f d→Adq sc (f+1) d
 |0,d,h=>fun c hc e=>absurd e (h c hc)
 |f+1,d,h=>fun c hc e=>(h c hc e).up
theorem Adq.le {sc:List Cell} {f g:Nat} {d:Dot} (h:Adq sc f d) (hg:f≤g):Adq sc g d:=by
 induction g with
 |zero=>
      have:f=0:=by omega
      subst this;exact h
 |succ g ih=>
  rcases Nat.lt_or_ge g f with h1|h1
  ·have:f=g+1:=by omega
   subst this;exact h
  ·exact(ih h1).up
theorem I4 {α β:Type} {f g:α→List β}:∀ {l:List α},(∀ x∈l,f x=g x)→l.flatMap f=l.flatMap g
 |[],_=>rfl
 |x::l,h=>by rw[List.flatMap_cons,List.flatMap_cons,h x List.mem_cons_self,I4 fun y hy=>h y (List.mem_cons_of_mem _ hy)]
theorem A94 {sc:List Cell}:∀ {f:Nat} {d:Dot},Adq sc f d→rowF sc (f+1) d=rowF sc f d
 |0,d,h=>by
  have:sc.filter (Ce d)=[]:=List.filter_eq_nil_iff.2 fun c hc=>by simpa [Ce] using h c hc
  simp[rowF,this]
 |f+1,d,h=>by
  rw[rowF,rowF]
  refine I4 fun c hc=> ?_
  obtain⟨h1,h2⟩:=List.mem_filter.1 hc
  rw[A94 (h c h1 (by simpa [Ce] using h2))]
def fuel:Nat:=10001
def rowA (sc:List Cell) (d:Dot):List Cell:=rowF sc fuel d
theorem A4g {sc:List Cell} {d:Dot} (h:Adq sc fuel d):rowA sc d=(sc.filter (Ce d)).flatMap fun c=>c::rowA sc c.dot:=by
 unfold rowA
 rw[← A94 h,rowF]
theorem A63 {sc:List Cell}:∀ {f:Nat} {d:Dot} {c:Cell},c∈rowF sc f d→c∈sc
 |0,_,_,h=>by simp[rowF] at h
 |f+1,d,c,h=>by
  rw[rowF,List.mem_flatMap] at h
  obtain⟨x,hx,h⟩:=h
  rcases List.mem_cons.1 h with rfl|h
  ·exact(List.mem_filter.1 hx).1
  ·exact A63 h
theorem A1b {α:Type} [DecidableEq α]:∀ {l m:List α},l.Nodup→(∀ x∈l,x∈m)→l.length≤m.length
 |[],m,_,_=>by simp
 |x::l,m,hn,h=>by
  rw[List.nodup_cons] at hn
  have hx:=h x List.mem_cons_self
  have:=A1b (l:=l) (m:=m.erase x) hn.2 fun y hy=>by
   rw[List.mem_erase_of_ne (fun e=>hn.1 (by rw[← e];exact hy))]
   exact h y (List.mem_cons_of_mem _ hy)
  rw[List.length_erase_of_mem hx] at this
  have:=List.length_pos_of_mem hx
  simp only[List.length_cons];omega
theorem T2 {l:List Cell} (h:(l.map (·.dot)).Nodup) {a b:Cell} (ha:a∈l) (hb:b∈l) (e:a.dot=b.dot):a=b:=by
 induction l with
 |nil=>simp at ha
 |cons z l ih=>
  rw[List.map_cons,List.nodup_cons] at h
  rcases List.mem_cons.1 ha with h1|h1<;>rcases List.mem_cons.1 hb with h2|h2
  ·rw[h1,h2]
  ·exact(h.1 (by rw[← h1,e];exact List.mem_map_of_mem (f:=(·.dot)) h2)).elim
  ·exact(h.1 (by rw[← h2,←e];exact List.mem_map_of_mem (f:=(·.dot)) h1)).elim
  ·exact ih h.2 h1 h2
theorem Wn {sc:List Cell} (hd:(sc.map (·.dot)).Nodup):∀ {ds:List Dot},ds.Nodup→((ds.flatMap fun d=>sc.filter (Ce d)).map (·.dot)).Nodup
 |[],_=>by simp
 |d::ds,hn=>by
  rw[List.nodup_cons] at hn
  rw[List.flatMap_cons,List.map_append,List.nodup_append]
  refine⟨hd.sublist ((List.filter_sublist).map _),Wn hd hn.2,fun x hx y hy e=> ?_⟩
  obtain⟨a,ha,rfl⟩:=List.mem_map.1 hx
  obtain⟨b,hb,rfl⟩:=List.mem_map.1 hy
  obtain⟨d',hd',hb⟩:=List.mem_flatMap.1 hb
  obtain⟨ha1,ha2⟩:=List.mem_filter.1 ha
  obtain⟨hb1,hb2⟩:=List.mem_filter.1 hb
  have hab:a=b:=T2 hd ha1 hb1 e
  subst hab
  have e1:a.ref=d:=by simpa [Ce] using ha2
  have e2:a.ref=d':=by simpa [Ce] using hb2
  exact hn.1 (by rw[← e1,e2];exact hd')
theorem T3 {α β γ:Type} {k:α→List β} {g:β→List γ} (w:α→List γ) (hw:∀ a,(w a).length=(k a).length+((k a).flatMap g).length):∀ ds:List α,(ds.flatMap w).length=(ds.flatMap k).length+((ds.flatMap k).flatMap g).length
 |[]=>rfl
 |d::ds=>by
  simp only[List.flatMap_cons,List.length_append,List.flatMap_append,hw,T3 w hw ds];omega
theorem N6 {β γ:Type} (g:β→List γ) (h:β→γ):∀ l:List β,(l.flatMap fun c=>h c::g c).length=l.length+(l.flatMap g).length
 |[]=>rfl
 |c::l=>by
  have:=N6 g h l
  simp only[List.flatMap_cons,List.length_append,List.length_cons] at *;omega
theorem A64 {sc:List Cell} (hd:(sc.map (·.dot)).Nodup):∀(f:Nat) {ds:List Dot},ds.Nodup→(ds.flatMap (rowF sc f)).length≤f*sc.length
 |0,ds,_=>by
  have:∀ ds:List Dot,ds.flatMap (rowF sc 0)=[]:=by
   intro ds
   induction ds with
   |nil=>rfl
   |cons d ds ih=>rw[List.flatMap_cons,ih];rfl
  rw[this];simp
 |f+1,ds,hn=>by
  have h1:=T3 (k:=fun d=>sc.filter (Ce d)) (g:=fun c=>rowF sc f c.dot) (rowF sc (f+1)) (fun d=>by rw[rowF];exact N6 (fun c=>rowF sc f c.dot) id _) ds
  have h2:=Wn hd hn
  have h3:=A64 hd f h2
  have e:(ds.flatMap fun d=>sc.filter (Ce d)).flatMap (fun c=>rowF sc f c.dot)=((ds.flatMap fun d=>sc.filter (Ce d)).map (·.dot)).flatMap (rowF sc f):=by rw[List.flatMap_map]
  rw[e] at h1
  have h4:(ds.flatMap fun d=>sc.filter (Ce d)).length≤sc.length:=by
   have:=A1b (m:=sc.map (·.dot)) h2 fun x hx=>by
    obtain⟨a,ha,rfl⟩:=List.mem_map.1 hx
    obtain⟨d,_,ha⟩:=List.mem_flatMap.1 ha
    exact List.mem_map_of_mem (List.mem_filter.1 ha).1
   simpa using this
  rw[h1,Nat.add_mul]
  omega
theorem Aat {l:List Cell} (h:l.Pairwise fun a b=>Au a.dot b.dot=true):(l.map (·.dot)).Nodup:=by
 rw[List.Nodup,List.pairwise_map]
 exact h.imp fun {a b} h e=>by rw[e,Ib] at h;cases h
structure CelR (l:List Cell):Prop where
 nd:(l.map (·.dot)).Nodup
 time:∀ c∈l,1≤c.time∧c.time≤10000
 dot:∀ c∈l,Gi c.dot=true
 ref:∀ c∈l,c.ref=⟨0,0⟩∨∃ y∈l,y.dot=c.ref∧y.obj=c.obj∧y.time<c.time
 len:l.length≤120
theorem Kp {s:State} (h:B7 s=true):CelR s.cells:=by
 simp only[B7,Bool.and_eq_true] at h
 obtain⟨_,_,_,h4,h5⟩:=h
 have hup:=A3y h4
 simp only[Jj,Bool.and_eq_true,Ci,celP,decide_eq_true_eq] at h4
 have at':∀ c∈s.cells,B9 s.know c.dot=true∧cel1 c=true:=fun c hc=>by
  obtain⟨i,hi,rfl⟩:=List.getElem_of_mem hc
  have:=h4.1 i hi
  rw[Bs hi,Bs hi] at this
  exact⟨this.1,this.2.1⟩
 refine⟨Aat hup,fun c hc=> ?_,fun c hc=>Ki (at' c hc).1,fun c hc=> ?_,h4.2⟩
 ·have:=(at' c hc).2
  simp only[cel1,Bool.and_eq_true] at this
  exact Db.1 this.2.2
 ·have:=List.all_eq_true.1 h5 c hc
  unfold ref1 at this
  simp only[Bool.or_eq_true,decide_eq_true_eq] at this
  refine this.imp id fun h=> ?_
  split at h
  ·cases h
  ·rename_i k hk
   obtain⟨hkl,e⟩:=Bi hk
   rw[Bs hkl] at h
   simp only[Bool.and_eq_true,decide_eq_true_eq] at h
   exact⟨_,List.getElem_mem hkl,e,h.1,h.2⟩
theorem Wo:Gi ⟨0,0⟩=false:=by decide
theorem Yu {sc:List Cell} (hnd:(sc.map (·.dot)).Nodup) (ht:∀ c∈sc,1≤c.time∧c.time≤10000) (hr:∀ c∈sc,∀ y∈sc,y.dot=c.ref→y.time<c.time):∀(f:Nat) (d:Dot) (t:Int),(∀ c∈sc,c.ref=d→t<c.time)→10000 - t≤f→Adq sc f d
 |0,d,t,h,hf=>fun c hc e=>by have:=h c hc e;have:=(ht c hc).2;omega
 |f+1,d,t,h,hf=>fun c hc e=>Yu hnd ht hr f c.dot c.time (fun x hx ex=>hr x hx c hc ex.symm) (by have:=h c hc e;omega)
def objC (l:List Cell) (o:ByteArray):List Cell:=C3 Ea (l.filter (If o))
theorem Lh {l:List Cell} {o:ByteArray} {c:Cell}:c∈objC l o↔c∈l∧c.obj=o:=by
 rw[objC,(D5 _ _).mem_iff,List.mem_filter];simp[If]
theorem A4h {l:List Cell} (h:(l.map (·.dot)).Nodup) (o:ByteArray):((objC l o).map (·.dot)).Nodup:=(((D5 Ea (l.filter (If o))).map (·.dot)).nodup_iff).2 (h.sublist ((List.filter_sublist).map _))
theorem Yv (l:List Cell) (o:ByteArray):(objC l o).length≤l.length:=by
 rw[objC,Ew];exact List.length_filter_le _ _
theorem Yw {l:List Cell} (h:CelR l) (o:ByteArray):Adq (objC l o) fuel ⟨0,0⟩∧∀ c∈objC l o,Adq (objC l o) fuel c.dot:=by
 have ht:∀ c∈objC l o,1≤c.time∧c.time≤10000:=fun c hc=>h.time c (Lh.1 hc).1
 have hr:∀ c∈objC l o,∀ y∈objC l o,y.dot=c.ref→y.time<c.time:=fun c hc y hy e=>by
  obtain⟨hc,_⟩:=Lh.1 hc
  obtain⟨hy,_⟩:=Lh.1 hy
  rcases h.ref c hc with e0|⟨z,hz,e1,_,e2⟩
  ·have:=h.dot y hy
   rw[e,e0,Wo] at this;cases this
  ·rw[T2 h.nd hy hz (e.trans e1.symm)];exact e2
 refine⟨Yu (A4h h.nd o) ht hr fuel _ 0 (fun c hc _=>by have:=(ht c hc).1;omega) (by decide),fun c hc=> ?_⟩
 refine Yu (A4h h.nd o) ht hr fuel _ c.time (fun x hx ex=>hr x hx c hc ex.symm) ?_
 have:=(ht c hc).1
 show 10000 - c.time≤((10001:Nat):Int)
 omega
def rowC (s:State) (o:ByteArray):List Cell:=rowA (objC s.cells o) ⟨0,0⟩
theorem Aau {s:State} {o:ByteArray} {c:Cell} (h:c∈rowC s o):c∈s.cells:=(Lh.1 (A63 h)).1
theorem Li {s:State} (h:CelR s.cells) (o:ByteArray):(rowC s o).length≤1200120:=by
 have:=A64 (A4h h.nd o) fuel (ds:=[⟨0,0⟩]) (by simp)
 have h2:=Yv s.cells o
 have h3:=h.len
 rw[List.flatMap_cons,List.flatMap_nil,List.append_nil] at this
 unfold rowC rowA
 have h4:fuel*(objC s.cells o).length≤fuel*120:=Nat.mul_le_mul_left _ (by omega)
 have h5:fuel*120=1200120:=rfl
 omega
theorem Ads {l:List Cell} (h:(l.map (·.dot)).Nodup) (o:ByteArray) (d:Dot):C3 Ea (l.filter fun c=>If o c&&Ce d c)=(objC l o).filter (Ce d):=by
 refine Sw (fun x hx y hy h1 h2=> ?_) ?_ (N3 T1 _) ((N3 T1 _).sublist List.filter_sublist)
 ·have hx:=(List.mem_filter.1 ((D5 Ea _).mem_iff.1 hx)).1
  have hy:=(List.mem_filter.1 ((D5 Ea _).mem_iff.1 hy)).1
  exact T2 h hx hy (A1a h1 h2)
 ·refine(D5 _ _).trans ?_
  have e:(l.filter fun c=>If o c&&Ce d c)=(l.filter (If o)).filter (Ce d):=by
   rw[List.filter_filter]
   congr 1
   funext c
   exact Bool.and_comm _ _
  rw[e]
  exact(D5 Ea (l.filter (If o))).symm.filter _
def rowL (s:State) (o:ByteArray):List Cell:=if B7 s then(rowC s o).filter (fun c=> !c.gone) else[]
def rowD (s:State) (o:ByteArray):List Dot:=if B7 s then(rowC s o).map (·.dot) else[]
theorem Aav (s:State) (o:ByteArray):(rowL s o).length≤1200120:=by
 unfold rowL
 split
 ·rename_i h
  exact Nat.le_trans (List.length_filter_le _ _) (Li (Kp h) o)
 ·simp
theorem A1c {s:State} {o:ByteArray} (h:B7 s=true) {c:Cell} (hc:c∈rowC s o):∃ k,∃ hk:k<s.cells.length,Cj s.cells c.dot=some k∧s.cells[k]=c:=by
 have hm:=Aau hc
 obtain⟨i,hi,e⟩:=List.getElem_of_mem hm
 cases hx:Cj s.cells c.dot with
 |none=>
  unfold Cj at hx
  rw[List.findIdx?_eq_none_iff] at hx
  have:=hx c hm
  simp at this
 |some k=>
  obtain⟨hk,e2⟩:=Bi hx
  exact⟨k,hk,rfl,T2 (Kp h).nd (List.getElem_mem hk) hm e2⟩
end
section
open Go Go.RowKit
def addM (a b:Int):Int:=(a+b).tmod 1000000
def G0 (obj:ByteArray) (rep:Int) (t:Tally):Bool:=decide (t.obj=obj)&&decide (t.rep=rep)
def Ej (l:List Tally) (obj:ByteArray) (rep val:Int):List Tally:=match l.findIdx? (G0 obj rep) with
 |some i=>l.modify i fun t=>{t with sum:=addM t.sum val}
 |none=>insB Ak ⟨obj,rep,val⟩ l
def J5 (l:List Tally) (obj:ByteArray) (rep val:Int):List Tally:=
 let p:=fun t=>Ak t ⟨obj,rep,0⟩
 match l.dropWhile p with
 |[]=>l.takeWhile p++[⟨obj,rep,addM 0 val⟩]
 |r::rr=>if G0 obj rep r then l.takeWhile p++⟨obj,rep,addM r.sum val⟩::rr else l.takeWhile p++⟨obj,rep,addM 0 val⟩::r::rr
theorem Kq {a b:Tally} (h:a.obj=b.obj) (h2:a.rep=b.rep):Ak a b=false:=by simp[Ak,h,h2,Gj]
theorem Kr:Go.Sort.SWO Ak:=⟨fun x=>Kq rfl rfl,fun x y z h1 h2=>by
  simp only[Ak,Bool.or_eq_true,Bool.and_eq_true,decide_eq_true_eq] at*
  rcases h1 with h1|⟨h1,h3⟩<;>rcases h2 with h2|⟨h2,h4⟩
  ·exact .inl (Lf h1 h2)
  ·exact .inl (by rw[← h2];exact h1)
  ·exact .inl (by rw[h1];exact h2)
  ·exact .inr ⟨h1.trans h2,by omega⟩,fun x y z h1 h2=>by
  simp only[Ak,Bool.or_eq_false_iff,Bool.and_eq_false_iff,decide_eq_false_iff_not] at*
  refine⟨Ra.ntrans _ _ _ h1.1 h2.1,?_⟩
  by_cases hxz:x.obj=z.obj
  ·right
   have hxy:x.obj=y.obj:=by
    by_cases e:x.obj=y.obj
    ·exact e
    ·exfalso
     have h3:txLt y.obj x.obj=true:=by
      cases e2:txLt y.obj x.obj with
      |true=>rfl
      |false=>exact absurd (Hm h1.1 e2) e
     rw[hxz] at h3
     rw[h3] at h2
     simp at h2
   rcases h1.2 with h|h
   ·exact absurd hxy h
   ·rcases h2.2 with h'|h'
    ·exact absurd (hxy.symm.trans hxz) h'
    ·omega
  ·exact .inl hxz⟩
theorem A1d {x y:Tally} (h1:Ak x y=false) (h2:Ak y x=false):x.obj=y.obj∧x.rep=y.rep:=by
 simp only[Ak,Bool.or_eq_false_iff,Bool.and_eq_false_iff,decide_eq_false_iff_not] at*
 have e:=Hm h1.1 h2.1
 refine⟨e,?_⟩
 rcases h1.2 with h|h
 ·exact absurd e h
 ·rcases h2.2 with h'|h'
  ·exact absurd e.symm h'
  ·omega
theorem Hc {obj:ByteArray} {rep:Int} {t:Tally}:G0 obj rep t=true↔t.obj=obj∧t.rep=rep:=by simp[G0]
theorem A1e {obj:ByteArray} {rep val:Int} (hv:0≤val∧val≤999999):∀ {l:List Tally},l.Pairwise (fun a b=>Ak a b=true)→J5 l obj rep val=Ej l obj rep val
 |[],_=>by
  have:addM 0 val=val:=by unfold addM;rw[Int.zero_add,Int.tmod_eq_emod_of_nonneg hv.1];omega
  simp[J5,Ej,insB,this]
 |k::l,h=>by
  obtain⟨h1,h2⟩:=List.pairwise_cons.1 h
  have ih:=A1e (obj:=obj) (rep:=rep) hv h2
  have h0:addM 0 val=val:=by unfold addM;rw[Int.zero_add,Int.tmod_eq_emod_of_nonneg hv.1];omega
  cases hk:Ak k ⟨obj,rep,0⟩ with
  |true=>
   have hne:G0 obj rep k=false:=by
    cases e:G0 obj rep k with
    |false=>rfl
    |true=>rw[Kq (Hc.1 e).1 (Hc.1 e).2] at hk;cases hk
   have hins:Ak ⟨obj,rep,val⟩ k=false:=by
    have:=SWO.asym Kr hk
    exact this
   have e1:Ej (k::l) obj rep val=k::Ej l obj rep val:=by
    unfold Ej
    rw[List.findIdx?_cons,hne]
    simp only[Bool.false_eq_true,if_false]
    cases hf:l.findIdx? (G0 obj rep) with
    |none=>simp[insB,hins]
    |some i=>simp[List.modify_succ_cons]
   rw[e1,←ih]
   unfold J5
   simp only[List.dropWhile_cons,List.takeWhile_cons,hk,if_true]
   split
   ·rfl
   ·split<;>rfl
  |false=>
   unfold J5 Ej
   simp only[List.dropWhile_cons,List.takeWhile_cons,hk,Bool.false_eq_true,if_false,List.nil_append]
   rw[List.findIdx?_cons]
   cases he:G0 obj rep k with
   |true=>
    obtain⟨e1,e2⟩:=Hc.1 he
    subst e1 e2
    simp
   |false=>
    have hlt:Ak ⟨obj,rep,val⟩ k=true:=by
     cases e:Ak ⟨obj,rep,val⟩ k with
     |true=>rfl
     |false=>
      have:=A1d (x:=k) (y:=⟨obj,rep,0⟩) hk e
      rw[Hc.2 this] at he;cases he
    have hn:l.findIdx? (G0 obj rep)=none:=by
     rw[List.findIdx?_eq_none_iff]
     intro x hx
     cases e:G0 obj rep x with
     |false=>rfl
     |true=>
      have h3:=Kr.trans _ _ _ hlt (h1 x hx)
      rw[Kq (Hc.1 e).1.symm (Hc.1 e).2.symm] at h3
      cases h3
    simp[hn,insB,hlt,h0]
def insW {α:Type} (p:α→Bool) (x:α) (l:List α):List α:=l.takeWhile p++x::l.dropWhile p
theorem T4 {α:Type} {p:α→Bool} {lt:α→α→Bool} {x:α}:∀ {l:List α},(∀ k∈l,lt x k= !p k)→insW p x l=insB lt x l
 |[],_=>rfl
 |k::l,h=>by
  have ih:=T4 (p:=p) (lt:=lt) (x:=x) (l:=l) fun y hy=>h y (List.mem_cons_of_mem _ hy)
  have hk:=h k List.mem_cons_self
  unfold insB
  cases hp:p k with
  |true=>
   rw[hp] at hk
   rw[if_neg (by rw[hk];simp),←ih]
   simp[insW,hp]
  |false=>
   rw[hp] at hk
   rw[if_pos (by rw[hk];rfl)]
   simp[insW,hp]
theorem A1f {a b:Dot} (h:a≠b):Au a b= !Au b a:=by
 cases h1:Au a b with
 |true=>
  cases h2:Au b a with
  |false=>rfl
  |true=>have:=Gx h1 h2;rw[Ib] at this;cases this
 |false=>
  cases h2:Au b a with
  |true=>rfl
  |false=>exact absurd (A0z h1 h2) h
def G1 (x:Live) (l:List Live):List Live:=insB Eh x l
def J6 (x:Cell) (l:List Cell):List Cell:=insB Fd x l
def Jt (m:Bool) (obj key:ByteArray) (knew:List Int) (x:Live):Bool:= !(x.map==m)||(!decide (x.obj=obj)||(!decide (x.key=key)|| !B9 knew x.dot))
def Gb (l:List Cell) (d:Dot):List Cell:=match Cj l d with
 |some k=>l.modify k fun c=>{c with gone:=true}
 |none=>l
def C9 (s:State) (a:Act):State:=
 if a.kind=1 then {s with tallies:=Ej s.tallies a.obj a.dot.rep a.val}
 else if a.kind=2 then {s with lives:=G1 ⟨false,a.obj,a.key,0,a.dot⟩ s.lives}
 else if a.kind=3 then {s with lives:=s.lives.filter (Jt false a.obj a.key a.knew)}
 else if a.kind=4 then {s with lives:=G1 ⟨true,a.obj,a.key,a.val,a.dot⟩ (s.lives.filter (Jt true a.obj a.key a.knew))}
 else if a.kind=5 then {s with lives:=s.lives.filter (Jt true a.obj a.key a.knew)}
 else if a.kind=6 then {s with cells:=J6 ⟨a.obj,a.dot,a.time,a.ref,a.val,false⟩ s.cells}
 else {s with cells:=Gb s.cells a.ref}
def Hh (s:State) (a:Act):State:=C9 {s with know:=s.know.set a.dot.rep.toNat a.dot.seq} a
def Eb (s:State):Bool:=decide (120<s.tallies.length)||(decide (120<s.lives.length)||decide (120<s.cells.length))
def Fl (s:State) (a:Act):Bool:=if a.kind=7∨(a.kind=6∧a.ref≠d0) then(match Cj s.cells a.ref with
 |some k=>onI s.cells k fun c=>decide (c.obj=a.obj)&&(decide (a.kind=7)||decide (c.time<a.time))
 |none=>false) else true
def Be (s:State) (a:Act):State×Int:=
 if !(B7 s&&Ct a) then(s,3) else if B9 s.know a.dot then(s,1) else if !Ie a.knew s.know then(s,2) else if !Fl s a then(s,3) else
 if Eb (Hh s a) then(s,4) else(Hh s a,0)
end
section
open Go Go.RowKit
def countF (o:ByteArray) (n:Int) (t:Tally):Int:=if t.obj=o then addM n (t.sum.tmod 1000000) else n
def A95 (s:State) (o:ByteArray):Int:=s.tallies.foldl (countF o) 0
def Cn (m:Bool) (o k:ByteArray) (l:Live):Bool:=(l.map==m)&&(decide (l.obj=o)&&decide (l.key=k))
def J7 (s:State) (m:Bool) (o k:ByteArray):List Live:=s.lives.filter (Cn m o k)
def Bo (m:Bool) (o:ByteArray) (l:Live):Bool:=(l.map==m)&&decide (l.obj=o)
def Dn (s:State) (m:Bool) (o:ByteArray):List ByteArray:=Jk txLt ((s.lives.filter (Bo m o)).map (·.key))
def Ig (s:State) (o k:ByteArray):List Int:=C3 ltI ((J7 s true o k).map (·.val))
def rowOf (s:State) (o:ByteArray):List Int:=(rowL s o).map (·.val)
def rowWhose (s:State) (o:ByteArray):List Int:=(rowL s o).map (·.dot.rep)
def livesWhose (s:State) (m:Bool) (o k:ByteArray):List Int:=Jk ltI ((J7 s m o k).map (·.dot.rep))
theorem Do {α:Type} {l:List α} {p:α→Bool} {i:Nat} (hi:i<l.length):(l.take (i+1)).filter p=(l.take i).filter p++(if p l[i] then[l[i]] else[]):=by
 rw[Bf hi,List.filter_append]
 congr 1
 cases h:p l[i]<;>simp[h]
theorem Cc {α:Type} (l:List α) (p:α→Bool) (i:Nat):((l.take i).filter p).length≤l.length:=by
 have:=List.length_filter_le p (l.take i)
 rw[List.length_take] at this
 omega
end
section
open Go Go.RowKit
section
variable {α:Type} {lt:α→α→Bool} {x:α} {acc nxt:List α} {j:Nat} {put:Bool}
def insG (lt:α→α→Bool) (x:α) (acc nxt:List α) (j:Nat) (put:Bool):Prop:=if put then nxt++acc.drop j=insB lt x acc else nxt++insB lt x (acc.drop j)=insB lt x acc
theorem Lj:insG lt x acc [] 0 false:=by simp[insG]
theorem C6 (h:insG lt x acc nxt j put):nxt.length≤acc.length+1:=by
 unfold insG at h
 have:(insB lt x acc).length=acc.length+1:=Sv lt x acc
 split at h
 ·rw[← this,←h];simp
 ·rw[← this,←h];simp
theorem J8 (h:insG lt x acc nxt j false) (hj:j<acc.length) (hl:lt x acc[j]=true):insG lt x acc (nxt++[x]++[acc[j]]) (j+1) true:=by
 simp only[insG,Bool.false_eq_true,if_false,if_true] at h ⊢
 rw[List.drop_eq_getElem_cons hj,insB,if_pos hl] at h
 rw[← h];simp
theorem Co (h:insG lt x acc nxt j put) (hj:j<acc.length) (hl:put=true∨lt x acc[j]=false):insG lt x acc (nxt++[acc[j]]) (j+1) put:=by
 cases put with
 |true=>
  simp only[insG,if_true] at h ⊢
  rw[List.drop_eq_getElem_cons hj] at h
  rw[← h];simp
 |false=>
  have hl:lt x acc[j]=false:=hl.resolve_left (by intro h;cases h)
  simp only[insG,Bool.false_eq_true,if_false] at h ⊢
  rw[List.drop_eq_getElem_cons hj,insB,if_neg (by rw[hl];simp)] at h
  rw[← h];simp
theorem Lk (h:insG lt x acc nxt acc.length put):(if put then nxt else nxt++[x])=insB lt x acc:=by
 unfold insG at h
 split
 ·rename_i hp;rw[if_pos hp] at h;simpa using h
 ·rename_i hp;rw[if_neg hp] at h;simpa [insB] using h
theorem A4i {l:List α} {p:α→Bool} {i:Nat} (hi:i<l.length):C3 lt ((l.take (i+1)).filter p)=if p l[i] then insB lt l[i] (C3 lt ((l.take i).filter p)) else C3 lt ((l.take i).filter p):=by
 rw[Do hi]
 split
 ·rw[Su]
 ·simp
theorem A96 {l:List α} {p:α→Bool} {i:Nat}:(C3 lt ((l.take i).filter p)).length≤l.length:=by
 rw[Ew];exact Cc l p i
end
def isZ (d:Dot):Bool:=decide (d=⟨0,0⟩)
def A1g (d:Dot):List Dot:=if isZ d then[] else[d]
def T5 (sc:List Cell) (S:List Dot):List Dot:=S.reverse.flatMap fun d=>A1g d++(rowA sc d).map (·.dot)
def Pj (sc:List Cell) (S:List Dot):Nat:=(S.map fun d=>1+(rowA sc d).length).sum
theorem A78 {sc:List Cell} {S:List Dot} {d:Dot} (hd:Adq sc fuel d) (hz:∀ c∈sc,c.dot≠⟨0,0⟩):T5 sc (S++[d])=A1g d++T5 sc (S++((sc.filter (Ce d)).map (·.dot)).reverse):=by
 unfold T5
 rw[List.reverse_append,List.reverse_append,List.reverse_reverse,List.flatMap_append,List.flatMap_append]
 simp only[List.reverse_cons,List.reverse_nil,List.nil_append,List.flatMap_cons,List.flatMap_nil,List.append_nil,List.append_assoc]
 congr 1
 congr 1
 rw[A4g hd,List.flatMap_map,List.map_flatMap]
 refine I4 fun c hc=> ?_
 have:isZ c.dot=false:=by simpa [isZ] using hz c (List.mem_filter.1 hc).1
 simp[A1g,this]
theorem Adt {l:List Nat}:l.reverse.sum=l.sum:=by
 induction l with
 |nil=>rfl
 |cons x l ih=>rw[List.reverse_cons,List.sum_append,ih];simp;omega
theorem A79 {sc:List Cell} {S:List Dot} {d:Dot} (hd:Adq sc fuel d):Pj sc (S++[d])=Pj sc (S++((sc.filter (Ce d)).map (·.dot)).reverse)+1:=by
 unfold Pj
 rw[List.map_append,List.map_append,List.sum_append,List.sum_append,List.map_reverse,Adt,List.map_map]
 have:(rowA sc d).length=(((sc.filter (Ce d))).map ((fun d=>1+(rowA sc d).length) ∘ fun c=>c.dot)).sum:=by
  rw[A4g hd,List.length_flatMap]
  congr 1
  refine List.map_congr_left fun c _=> ?_
  simp;omega
 simp only[List.map_cons,List.map_nil,List.sum_cons,List.sum_nil]
 rw[← this];omega
theorem Wp {sc:List Cell}:∀ S:List Dot,S.length≤Pj sc S
 |[]=>Nat.zero_le _
 |d::S=>by
  have:=Wp (sc:=sc) S
  simp only[Pj,List.map_cons,List.sum_cons,List.length_cons] at*
  omega
end
section
open Go Go.RowKit
structure El (α:Type) [Inhabited α] where
 p:Pl α
 g:Bool
 val:α→GV
 hv:∀ x,mkv g (p.enc x)=some (val x)
 hc:∀ x,(val x).cells=p.enc x
 hz:0<p.z
section
variable {α:Type} [Inhabited α] {e:El α} {σ τ:St} {rs:List Thg} {v:GV} {d:Array α}
open Go.Sort (swp)
theorem Adu {j:Nat} (hj:j<d.size):d.toList[j]? =some d[j]! :=by
 rw[getElem!_pos d j hj];simp
theorem El.at (e:El α) (H:Hp σ τ rs) (k:Nat) (hk:rs[k]? =some (ow e.p.kd v d.toList)) {j:Nat} (hj:j<d.size):iadG e.p.z v (some j)=some (atz e.p.z v j)∧ldG e.g e.p.z τ (atz e.p.z v j)=some (e.val d[j]!):=by
 have h:=H.sl k hk
 have hl:j<d.toList.length:=by simpa using hj
 refine⟨RdN.iad h hl,?_⟩
 obtain⟨cs,hR,hs⟩:=RdN.cells h hl
 have e1:cs=e.p.enc d.toList[j]:=hR
 have e2:d.toList[j]=d[j]! :=by
  have:=Adu hj
  rw[List.getElem?_eq_getElem hl] at this
  injection this
 have hlen:=e.p.len d.toList[j]
 have:=hs 0 e.p.z cs (by unfold seg;rw[if_pos (by rw[e1,hlen];omega),List.drop_zero,List.take_of_length_le (by rw[e1,hlen];exact Nat.le_refl _)]) e.g
 rw[Aak] at this
 have this:ldG e.g e.p.z τ (atz e.p.z v j)=mkv e.g cs:=this
 rw[this,e1,e.hv,e2]
theorem El.sw (e:El α) (H:Hp σ τ rs) (k:Nat) (hk:rs[k]? =some (ow e.p.kd v d.toList)) {a b:Nat} (ha:a<d.size) (hb:b<d.size):∃ τ1 τ2,stG e.p.z τ (atz e.p.z v a) (e.val d[b]!)=some (.tup [],τ1)∧stG e.p.z τ1 (atz e.p.z v b) (e.val d[a]!)=some (.tup [],τ2)∧Hp σ τ2 (rs.set k (ow e.p.kd v (swp d a b).toList)):=by
 have hkl:=(List.getElem?_eq_some_iff.1 hk).1
 obtain⟨τ1,e1,H1⟩:=H.stw k hk (j:=a) (by simpa using ha) e.p.z (e.val d[b]!) d[b]! (e.hc _) rfl e.hz
 obtain⟨τ2,e2,H2⟩:=H1.stw k (by rw[List.getElem?_set_self hkl]) (j:=b) (by simpa using hb) e.p.z (e.val d[a]!) d[a]! (e.hc _) rfl e.hz
 refine⟨τ1,τ2,e1,e2,?_⟩
 rw[List.set_set] at H2
 have:(swp d a b).toList=(d.toList.set a d[b]!).set b d[a]! :=by simp[swp]
 rw[this];exact H2
def Holds (e:El α) (σ0 τ:St) (rs:List Thg) (k:Nat) (v:GV) (d:Array α):Prop:=k<rs.length∧Hp σ0 τ (rs.set k (ow e.p.kd v d.toList))
theorem Holds.of {σ0:St} (H:Hp σ0 τ rs) {k:Nat} (hk:rs[k]? =some (ow e.p.kd v d.toList)):Holds e σ0 τ rs k v d:=by
 obtain⟨h1,h2⟩:=List.getElem?_eq_some_iff.1 hk
 refine⟨h1,?_⟩
 rw[← h2,List.set_getElem_self];exact H
theorem Holds.at {σ0:St} {k:Nat} (h:Holds e σ0 τ rs k v d) {j:Nat} (hj:j<d.size):iadG e.p.z v (some j)=some (atz e.p.z v j)∧ldG e.g e.p.z τ (atz e.p.z v j)=some (e.val d[j]!):=e.at h.2 k (List.getElem?_set_self h.1) hj
theorem Holds.iad {σ0:St} {k:Nat} (h:Holds e σ0 τ rs k v d) {j:Nat} (hj:j<d.size):iadG e.p.z v (some j)=some (atz e.p.z v j):=(h.at hj).1
theorem Holds.ld {σ0:St} {k:Nat} (h:Holds e σ0 τ rs k v d) {j:Nat} (hj:j<d.size):ldG e.g e.p.z τ (atz e.p.z v j)=some (e.val d[j]!):=(h.at hj).2
theorem Holds.sw {σ0:St} {k:Nat} (h:Holds e σ0 τ rs k v d) {a b:Nat} (ha:a<d.size) (hb:b<d.size):∃ τ1 τ2,stG e.p.z τ (atz e.p.z v a) (e.val d[b]!)=some (.tup [],τ1)∧stG e.p.z τ1 (atz e.p.z v b) (e.val d[a]!)=some (.tup [],τ2)∧Holds e σ0 τ2 rs k v (swp d a b)∧τ2.length=τ.length:=by
 obtain⟨τ1,τ2,e1,e2,H⟩:=e.sw h.2 k (List.getElem?_set_self h.1) ha hb
 exact⟨τ1,τ2,e1,e2,⟨h.1,by rwa [List.set_set] at H⟩,by rw[Bq e2,Bq e1]⟩
theorem Bb {k:IntKind} {x:Int} {j:Nat} (h:x=(j:Int)):Ax (some (.int k x))=some j:=by rw[h];exact A2
theorem swp_size (d:Array α) (i j:Nat):(swp d i j).size=d.size:=by simp[swp]
end
theorem Cp {P:Program} {a:Cd} {Q:Ex→Env→St→Prop} {env:Env} {σ:St} (I:Nat→Env→St→Prop) (n j0:Nat) (X:Env→St→Prop) (h0:I n env σ)
  (hs:∀(J:Nat→Env→St→Prop) (Y:Env→St→Prop),(∀ k env σ,I k env σ→J k env σ)→(∀ env σ,X env σ→Y env σ)→∀ k env σ,I k env σ→vc P a (fun e env' σ'=>match e with| .nxt=>∃ k',k'<k∧J k' env' σ'| .ext j=>if j=j0 then Y env' σ' else Q (.ext j) env' σ'| .ret=>Q .ret env' σ') env σ)
  (hx:∀ env σ,X env σ→Q (.ext j0) env σ):vc P (.lop a) Q env σ:=by
 refine Oz I n h0 fun k env σ hI=>Av (hs I X (fun _ _ _ h=>h) (fun _ _ h=>h) k env σ hI) fun e env' σ' he=> ?_
 cases e with
 |nxt=>exact he
 |ret=>exact he
 |ext j=>
  have h5:if j=j0 then X env' σ' else Q (.ext j) env' σ':=he
  by_cases h:j=j0
  ·rw[if_pos h] at h5
   subst h;exact hx _ _ h5
  ·rw[if_neg h] at h5;exact h5
theorem Fm {P:Program} {a:Cd} {Q:Ex→Env→St→Prop} {env:Env} {σ:St} (n ri j0:Nat) (I:Nat→Env→St→Prop) (X:Env→St→Prop) (hr:env ri=gi 0) (h0:I 0 env σ)
  (hs:∀(J:Nat→Env→St→Prop) (Y:Env→St→Prop),(∀ i env σ,I i env σ→J i env σ)→(∀ env σ,X env σ→Y env σ)→∀ i env σ,i<n→env ri=gi i→decide ((i:Int)<n)=true→I i env σ→vc P a (fun e env' σ'=>match e with| .nxt=>env' ri=gi ((i:Int)+1)∧J (i+1) env' σ'| .ext j=>j=j0∧Y env' σ'| .ret=>False) env σ)
  (he:∀(Y:Env→St→Prop),(∀ env σ,X env σ→Y env σ)→∀ env σ,env ri=gi n→decide ((n:Int)<n)=false→I n env σ→vc P a (fun e env' σ'=>match e with| .nxt=>False| .ext j=>j=j0∧Y env' σ'| .ret=>False) env σ)
  (hx:∀ env σ,X env σ→Q (.ext j0) env σ):vc P (.lop a) Q env σ:=by
 refine B8 n ri I hr h0 (fun i env σ h1 h2 h3 h4=>Av (hs I X (fun _ _ _ h=>h) (fun _ _ h=>h) i env σ h1 h2 h3 h4) fun e env' σ' hq=> ?_) (fun env σ h1 h2 h3=>Av (he X (fun _ _ h=>h) env σ h1 h2 h3) fun e env' σ' hq=> ?_)
 ·cases e with
  |nxt=>exact hq
  |ret=>exact hq.elim
  |ext j=>obtain⟨rfl,hq⟩:=hq;exact hx _ _ hq
 ·cases e with
  |nxt=>exact hq
  |ret=>exact hq.elim
  |ext j=>obtain⟨rfl,hq⟩:=hq;exact hx _ _ hq
theorem C7 {P:Program} {a b:Cd} {Q:Ex→Env→St→Prop} {env:Env} {σ:St} (X:Env→St→Prop)
  (ha:∀ Y:Env→St→Prop,(∀ env σ,X env σ→Y env σ)→vc P a (fun e env' σ'=>match e with| .nxt=>Y env' σ'| .ext j=>Q (.ext j) env' σ'| .ret=>Q .ret env' σ') env σ)
  (hb:∀ env σ,X env σ→vc P b Q env σ):vc P (.seq a b) Q env σ:=by
 rw[vc_seq]
 refine Av (ha X fun _ _ h=>h) fun e env' σ' he=> ?_
 cases e with
 |nxt=>exact hb _ _ he
 |ret=>exact he
 |ext j=>exact he
open Go.Sort (bitsLen bitsLen_le_iff)
abbrev len8:ByteArray:=⟨#[0,1,2,2,3,3,3,3,4,4,4,4,4,4,4,4,5,5,5,5,5,5,5,5,5,5,5,5,5,5,5,5,6,6,6,6,6,6,6,6,6,6,6,6,6,6,6,6,6,6,6,6,6,6,6,6,6,6,6,6,6,6,6,6,7,7,7,7,7,7,7,7,7,7,7,7,7,7,7,7,7,7,7,7,7,7,7,7,7,7,7,7,7,7,7,7,7,7,7,7,7,7,7,7,7,7,7,7,7,7,7,7,7,7,7,7,7,7,7,7,7,7,7,7,7,7,7,7,8,8,8,8,8,8,8,8,8,8,8,8,8,8,8,8,8,8,8,8,8,8,8,8,8,8,8,8,8,8,8,8,8,8,8,8,8,8,8,8,8,8,8,8,8,8,8,8,8,8,8,8,8,8,8,8,8,8,8,8,8,8,8,8,8,8,8,8,8,8,8,8,8,8,8,8,8,8,8,8,8,8,8,8,8,8,8,8,8,8,8,8,8,8,8,8,8,8,8,8,8,8,8,8,8,8,8,8,8,8,8,8,8,8,8,8,8,8,8,8,8,8,8,8,8,8,8,8]⟩
set_option maxRecDepth 100000 in
theorem Aaw:(bl len8).length=256:=by decide +kernel
set_option maxRecDepth 100000 in
theorem Oh {m:Nat} (h:m<256):idxG (.str len8) (some m)=some (.int .u8 (bitsLen m:Nat)):=by
 have key:∀ m:Fin 256,idxG (.str len8) (some m.1)=some (.int .u8 (bitsLen m.1:Nat)):=by
  intro m
  have hm:m.1<(bl len8).length:=by rw[Aaw];exact m.2
  rw[A90 hm]
  have:∀ m:Fin 256,((bl len8).getD m.1 0).toNat=bitsLen m.1:=by decide +kernel
  have h2:=this m
  rw[List.getD_eq_getElem?_getD,List.getElem?_eq_getElem hm,Option.getD_some] at h2
  rw[h2]
 exact key ⟨m,h⟩
theorem A7a {x k:Nat} (h:2 ^ k≤x):bitsLen x=bitsLen (x / 2 ^ k)+k:=by
 have h1:∀ m,bitsLen x≤m↔bitsLen (x / 2 ^ k)+k≤m:=by
  intro m
  rw[bitsLen_le_iff]
  have hx:¬ x<2 ^ k:=by omega
  constructor
  ·intro hlt
   have hkm:k<m:=by
    rcases Nat.lt_or_ge k m with h2|h2
    ·exact h2
    ·have:2 ^ m≤2 ^ k:=Nat.pow_le_pow_right (by omega) h2
     omega
   have:bitsLen (x / 2 ^ k)≤m - k:=by
    rw[bitsLen_le_iff,Nat.div_lt_iff_lt_mul (Nat.two_pow_pos k),←Nat.pow_add]
    rwa [Nat.sub_add_cancel (by omega)]
   omega
  ·intro hle
   have:bitsLen (x / 2 ^ k)≤m - k:=by omega
   rw[bitsLen_le_iff,Nat.div_lt_iff_lt_mul (Nat.two_pow_pos k),←Nat.pow_add,Nat.sub_add_cancel (by omega)] at this
   exact this
 have h2:=(h1 _).1 (Nat.le_refl _)
 have h3:=(h1 _).2 (Nat.le_refl _)
 omega
theorem A4j {n:Nat} (h:n≤1099511627776):bitsLen n≤41:=(bitsLen_le_iff n 41).2 (by omega)
end
end Go.Proofs.YtbeoiejnogdkpaaGreat.Sy
