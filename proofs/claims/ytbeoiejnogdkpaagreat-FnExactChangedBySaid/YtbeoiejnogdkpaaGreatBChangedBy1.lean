/- Texts of this proof, one behind the other. -/
import Derived.Test.YtbeoiejnogdkpaaGreatBC
import Derived.Test.YtbeoiejnogdkpaaGreatProg
import Derived.KernelRfl
import Derived.Sort.AssemblyPlain
import Derived.Sort.LotD3
import Derived.Sort.LotD1
set_option linter.unusedSimpArgs false
set_option linter.unusedVariables false
set_option maxRecDepth 4000
namespace Go.Proofs.YtbeoiejnogdkpaaGreat.Sy
section
open Go Go.RowKit
def lf (n:Int) (m:Nat):Int:=if n - m<0 then -1 else n - m
theorem Kb {n:Int} {m:Nat}:lf n m<0↔n<m:=by unfold lf;split<;>omega
theorem Gg {n:Int} {m:Nat} (h:¬ lf n m<0):lf n m=n - m:=by unfold lf at *;split at h<;>first|omega|(rw [if_neg ‹_›])
theorem Sb {n:Int} {m:Nat} (h:0≤n):lf n m≤n:=by unfold lf;split<;>omega
theorem A9v {n:Int} {m:Nat}: -1≤lf n m:=by unfold lf;split<;>omega
def msL {α:Type} (f:α→Nat) (l:List α):Nat:=l.length+(l.map f).sum
def sumL {α:Type} (f:α→Nat) (l:List α):Nat:=(l.map f).sum
theorem Kc {α:Type} {f:α→Nat} {l:List α} {i:Nat} (h:i<l.length):sumL f (l.take (i+1))=sumL f (l.take i)+f l[i]:=by
 unfold sumL;rw[Ag h,List.map_append,List.sum_append];simp
theorem E2 {α:Type} (f:α→Nat) (l:List α) (i:Nat):sumL f (l.take i)≤sumL f l:=by
 have:sumL f l=sumL f (l.take i)+sumL f (l.drop i):=by
  conv=>lhs;rw[← List.take_append_drop i l]
  unfold sumL;rw[List.map_append,List.sum_append]
 omega
theorem G8 {α:Type} {f:α→Nat} {l:List α} {x:α} (h:x∈l):f x≤sumL f l:=by
 induction l with
 |nil=>simp at h
 |cons y l ih=>
  simp only[sumL,List.map_cons,List.sum_cons] at*
  rcases List.mem_cons.1 h with rfl|h
  ·omega
  ·have:=ih h;omega
theorem Acj {z i:Nat} {v:GV}:fld 0 (atz z v i)=atz z v i:=by
 cases v<;>rfl
theorem T6 {α:Type} (p:Pl α) (x:α) (n:Nat):reps n (p.enc x)=p.cells (List.replicate n x):=by
 unfold reps
 induction n with
 |zero=>rfl
 |succ n ih=>
  rw[List.replicate_succ,List.flatten_cons,ih,List.replicate_succ];rfl
theorem Ng {α:Type} {l:List α} {z:α} {i:Nat} (h:i<l.length):(l.take i++List.replicate (l.length - i) z).set i l[i]=l.take (i+1)++List.replicate (l.length - (i+1)) z:=by
 rw[Ag h,List.set_append_right _ _ (by simp;omega)]
 have e1:i - (l.take i).length=0:=by simp;omega
 rw[e1,show l.length - i=(l.length - (i+1))+1 by omega,List.replicate_succ,List.set_cons_zero,List.append_assoc]
 rfl
theorem T7 {α:Type} {l:List α} {z:α} {i:Nat} (h:i<l.length):i<(l.take i++List.replicate (l.length - i) z).length:=by simp;omega
theorem T8 {α:Type} {l:List α} {z:α}:l.take l.length++List.replicate (l.length - l.length) z=l:=by simp
def mkF {α:Type} (e:Int→α) (c:Nat) (k:Int) (n:Nat):List α:=(List.range n).map fun j:Nat=>e (k+c*j)
theorem Az {α:Type} {e:Int→α} {c:Nat} {k:Int} {n:Nat}:(mkF e c k n).length=n:=by simp[mkF]
theorem Pr {α:Type} {e:Int→α} {c:Nat} {k:Int} {n j:Nat} (h:j<(mkF e c k n).length):(mkF e c k n)[j]=e (k+c*j):=by simp[mkF]
theorem Ke {α:Type} {l:List α} {e:Int→α} {c:Nat} {k:Int} {i:Nat} (h:i<l.length):((mkF e c k l.length).take i++l.drop i).set i (e (k+c*i))=(mkF e c k l.length).take (i+1)++l.drop (i+1):=by
 have hki:i<(mkF e c k l.length).length:=by rw[Az];exact h
 rw[Ag hki,Pr,List.set_append_right _ _ (by simp[Az];omega)]
 have e1:i - ((mkF e c k l.length).take i).length=0:=by simp[Az];omega
 rw[e1,List.drop_eq_getElem_cons h,List.set_cons_zero,List.append_assoc]
 rfl
theorem Nh {α:Type} {l:List α} {e:Int→α} {c:Nat} {k:Int} {i:Nat}:((mkF e c k l.length).take i++l.drop i).length=l.length:=by simp[Az];omega
theorem Ni {α:Type} {l:List α} {e:Int→α} {c:Nat} {k:Int}:(mkF e c k l.length).take l.length++l.drop l.length=mkF e c k l.length:=by
 rw[List.take_of_length_le (by rw[Az];omega)];simp
namespace Hp
theorem sts {α:Type} {p:Pl α} {σ τ:St} {rs:List Thg} {v:GV} {L:List α} {j:Nat} {y:α} (H:Hp σ τ (ow p.kd v (L.set j y)::rs)) (hj:j<L.length) (n k:Nat) (x:GV) (y':α) (hx:x.cells.length=n) (hn:0<n) (hk:k+n≤p.z) (hy:p.enc y'=Ao (p.enc y) k x.cells):
  ∃ τ',stG n τ (fld k (atz p.z v j)) x=some (.tup [],τ')∧Hp σ τ' (ow p.kd v (L.set j y')::rs):=by
 obtain⟨τ',e,h⟩:=H.ste 0 rfl (j:=j) (by simpa using hj) n k x y' hx hn hk (by rw[List.getElem_set_self];exact hy)
 refine⟨τ',e,?_⟩
 have h:Hp σ τ' (ow p.kd v ((L.set j y).set j y')::rs):=h
 rw[List.set_set] at h;exact h
end Hp
theorem T9 {α:Type} {l:List α} {i:Nat} (h:i<l.length):l=l.set i l[i]:=by rw[List.set_getElem_self]
def figs (n:Nat):List Int:=if n=0 then[] else figs (n / 10)++[48+((n % 10:Nat):Int)]
termination_by n
decreasing_by omega
def mtx (k:Int):ByteArray:=if k≤0 then⟨#[109,48]⟩ else⟨#[109]⟩++txt (figs k.toNat)
abbrev Qo:Nat:=110
def Qp:Fn1:=⟨20,[.t 2],(rg [o 2 (.mov (.k (.str ⟨#[]⟩)))] (.seq (rg [oM 4 0,o 5 (.bin .leq (.t 4) (ki 0))] (.cnd (.t 5) (rg [o 2 (.mov (.k (.str ⟨#[109,48]⟩)))] .ret) .skip)) (rg [o 3 (.mov (.k (.str ⟨#[]⟩)))] (.seq (.blk 0 (.lop (.seq (rg [oM 6 0,o 7 (.bin .gtr (.t 6) (ki 0))] (.cnd (.t 7) .skip (.ext 0))) (.blk 1 (rg [oM 8 0,o 9 (.bin .rem (.t 8) (ki 10)),o 10 (.bin .add (ki 48) (.t 9)),o 11 (.cvi .u8 (.t 10)),o 12 (.lit 1 1 [(.int .u8 0)] [(0,1,(.t 11))]),o 13 (.bts (.t 12)),oM 14 3,oB 15 .add 13 14,oM 3 15] (.reg [oM 16 0,o 17 (.bin .quo (.t 16) (ki 10)),oM 0 17])))))) (rg [oM 18 3,o 19 (.bin .add (.k (.str ⟨#[109]⟩)) (.t 18)),oM 2 19] .ret)))))⟩
theorem A00:A8 Tryz.prog Qo=some Qp:=by kernel_rfl
theorem A50 (n:Nat):(figs n).length≤n:=by
 induction n using Nat.strongRecOn with
 |_ n ih=>
  unfold figs
  split
  ·simp
  ·have:=ih (n / 10) (by omega)
   simp;omega
theorem A6m (l:List Int):(txt l).size=l.length:=by simp[txt,ByteArray.size]
theorem Ack (n:Nat) (h:0<n) (s:List Int):figs (n / 10)++((48+((n % 10:Nat):Int))::s)=figs n++s:=by
 conv=>rhs;unfold figs
 rw[if_neg (by omega)];simp
theorem Agr {τ:St} {n:Int}:((elems (τ++[some (.row 1 [.int .u8 n])]) 1 (.sl τ.length 0 1)).bind fun r=>(F0 r.2).map fun bs=>GV.str ⟨bs.toArray⟩)=some (.str (txt [n])):=by
 refine bts_ok (.inr ⟨τ.length,0,[.int .u8 n],rfl,by unfold rdB;simp[Blk.cells],by show 0+1*1≤1;omega,fun i x hx=> ?_⟩)
 cases i with
 |zero=>simp at hx;subst hx;rfl
 |succ i=>simp at hx
theorem Ce (σ:St) (k:Int) (hk:k≤4611686018427387904):Ret Tryz.prog Qo [gi k] σ (.str (mtx k)) σ:=by
 refine Al A00 (Z0z rfl) trivial ?_
 simp +contextual (disch:=omega) only[go_sem,Qp]
 refine⟨fun h=> ?_,fun h=> ?_⟩
 ·rw[mtx,if_pos (of_decide_eq_true h)]
 ·have h:=of_decide_eq_false h
  have hf:=A50 k.toNat
  refine Xv (fun q env τ=>∃(s:List Int),env 0=gi q∧q≤k.toNat∧env 3= .str (txt s)∧figs q++s=figs k.toNat∧σ <+: τ) k.toNat ⟨[],by show gi k=_;rw[Int.toNat_of_nonneg (by omega)],Nat.le_refl _,rfl,by simp,List.prefix_refl _⟩ ?_
  rintro m env τ ⟨s,e0,hmk,e3,hs,hp⟩
  have hsl:s.length≤k.toNat:=by have:=congrArg List.length hs;simp at this;omega
  rcases Nat.eq_zero_or_pos m with rfl|hm
  ·have hs':s=figs k.toNat:=by rw[← hs,figs];simp
   have hsz:(⟨#[109]⟩:ByteArray).size=1:=rfl
   have hle:1+s.length≤9223372036854775807:=by omega
   simp +contextual (disch:=omega) only[go_sem,e0,e3,hp,A6m,hsz,hle,Int.natCast_zero,Int.lt_irrefl]
   rw[mtx,if_neg h,hs']
  ·have hgt:decide (0<(m:Int))=true:=by simp;omega
   have hle:1+s.length≤9223372036854775807:=by omega
   have hm10:(m:Int).tmod 10=((m % 10:Nat):Int):=by rw[Int.tmod_eq_emod_of_nonneg (by omega)];omega
   have hd10:(m:Int).tdiv 10=((m / 10:Nat):Int):=by rw[Int.tdiv_eq_ediv_of_nonneg (by omega)];omega
   have h10:((10:Int)=0)=False:=by simp
   have hw8:IntKind.u8.wrap (48+((m % 10:Nat):Int))=48+((m % 10:Nat):Int):=wrap8 (by omega) (by omega)
   simp +contextual (disch:=omega) only[go_sem,e0,e3,hgt,h10,hm10,hd10,hw8,hle,Agr,A6m,←A7r]
   refine⟨m / 10,by omega,_,rfl,by omega,rfl,?_,A0 hp _⟩
   rw[← hs,←Ack m hm]
end
section
open Go Go.RowKit
def msString (s:ByteArray):Nat:=s.size
def wString (s:ByteArray):Prop:=s.size≤9223372036854775807
def msIntS (l:List Int):Nat:=l.length
def wIntS (l:List Int):Prop:=l.length≤9223372036854775807
def Ar (x:Tally):Nat:=x.obj.size
def Tt (x:Tally):Prop:=x.obj.size≤9223372036854775807
def Ck (x:Live):Nat:=x.obj.size+x.key.size
def A7s (x:Live):Prop:=x.obj.size≤9223372036854775807∧x.key.size≤9223372036854775807
def D8 (x:Cell):Nat:=x.obj.size
def A51 (x:Cell):Prop:=x.obj.size≤9223372036854775807
def msEdit (x:Edit):Nat:=x.obj.size+x.key.size
def wEdit (x:Edit):Prop:=x.obj.size≤9223372036854775807∧x.key.size≤9223372036854775807
def msWatch (x:Watch):Nat:=x.obj.size+x.key.size
def wWatch (x:Watch):Prop:=x.obj.size≤9223372036854775807∧x.key.size≤9223372036854775807
def msClash (x:Clash):Nat:=x.obj.size+x.key.size
def wClash (x:Clash):Prop:=x.obj.size≤9223372036854775807∧x.key.size≤9223372036854775807
def msFile (x:File):Nat:=x.text.size
def wFile (x:File):Prop:=x.text.size≤9223372036854775807
def Acl (x:Letter):Nat:=x.text.size
def Ags (x:Letter):Prop:=x.text.size≤9223372036854775807
def Agt (x:Event):Nat:=msEdit x.edit
def wEvent (x:Event):Prop:=wEdit x.edit
def msAct (x:Act):Nat:=x.knew.length+x.obj.size+x.key.size
def wAct (x:Act):Prop:=x.knew.length≤9223372036854775807∧x.obj.size≤9223372036854775807∧x.key.size≤9223372036854775807
instance:DecidableEq Act:=fun a b=>if h:a.dot=b.dot∧a.time=b.time∧a.knew=b.knew∧a.kind=b.kind∧a.obj=b.obj∧a.key=b.key∧a.val=b.val∧a.ref=b.ref then isTrue (by cases a;cases b;simp only at h;obtain⟨rfl,rfl,rfl,rfl,rfl,rfl,rfl,rfl⟩:=h;rfl) else isFalse (fun e=>h (by subst e;exact⟨rfl,rfl,rfl,rfl,rfl,rfl,rfl,rfl⟩))
theorem Act.eq_iff {a b:Act}:a=b↔a.dot=b.dot∧a.time=b.time∧a.knew=b.knew∧a.kind=b.kind∧a.obj=b.obj∧a.key=b.key∧a.val=b.val∧a.ref=b.ref:=⟨fun h=>by subst h;exact⟨rfl,rfl,rfl,rfl,rfl,rfl,rfl,rfl⟩,fun h=>by cases a;cases b;simp only at h;obtain⟨rfl,rfl,rfl,rfl,rfl,rfl,rfl,rfl⟩:=h;rfl⟩
def Ad (x:State):Nat:=x.know.length+(x.tallies.length+sumL Ar x.tallies)+(x.lives.length+sumL Ck x.lives)+(x.cells.length+sumL D8 x.cells)
def A6n (x:State):Prop:=x.know.length≤9223372036854775807∧(x.tallies.length≤9223372036854775807∧∀ y∈x.tallies,Tt y)∧(x.lives.length≤9223372036854775807∧∀ y∈x.lives,A7s y)∧(x.cells.length≤9223372036854775807∧∀ y∈x.cells,A51 y)
instance:DecidableEq State:=fun a b=>if h:a.know=b.know∧a.tallies=b.tallies∧a.lives=b.lives∧a.cells=b.cells then isTrue (by cases a;cases b;simp only at h;obtain⟨rfl,rfl,rfl,rfl⟩:=h;rfl) else isFalse (fun e=>h (by subst e;exact⟨rfl,rfl,rfl,rfl⟩))
theorem State.eq_iff {a b:State}:a=b↔a.know=b.know∧a.tallies=b.tallies∧a.lives=b.lives∧a.cells=b.cells:=⟨fun h=>by subst h;exact⟨rfl,rfl,rfl,rfl⟩,fun h=>by cases a;cases b;simp only at h;obtain⟨rfl,rfl,rfl,rfl⟩:=h;rfl⟩
def Hf (x:Delta):Nat:=x.base.length+x.know.length+(x.tallies.length+sumL Ar x.tallies)+(x.lives.length+sumL Ck x.lives)+x.dead.length+(x.cells.length+sumL D8 x.cells)
def wDelta (x:Delta):Prop:=x.base.length≤9223372036854775807∧x.know.length≤9223372036854775807∧(x.tallies.length≤9223372036854775807∧∀ y∈x.tallies,Tt y)∧(x.lives.length≤9223372036854775807∧∀ y∈x.lives,A7s y)∧x.dead.length≤9223372036854775807∧(x.cells.length≤9223372036854775807∧∀ y∈x.cells,A51 y)
instance:DecidableEq Delta:=fun a b=>if h:a.base=b.base∧a.know=b.know∧a.tallies=b.tallies∧a.lives=b.lives∧a.dead=b.dead∧a.cells=b.cells then isTrue (by cases a;cases b;simp only at h;obtain⟨rfl,rfl,rfl,rfl,rfl,rfl⟩:=h;rfl) else isFalse (fun e=>h (by subst e;exact⟨rfl,rfl,rfl,rfl,rfl,rfl⟩))
theorem Delta.eq_iff {a b:Delta}:a=b↔a.base=b.base∧a.know=b.know∧a.tallies=b.tallies∧a.lives=b.lives∧a.dead=b.dead∧a.cells=b.cells:=⟨fun h=>by subst h;exact⟨rfl,rfl,rfl,rfl,rfl,rfl⟩,fun h=>by cases a;cases b;simp only at h;obtain⟨rfl,rfl,rfl,rfl,rfl,rfl⟩:=h;rfl⟩
def A9w (x:Unit_):Nat:=msAct x.act+Hf x.delta
def Agu (x:Unit_):Prop:=wAct x.act∧wDelta x.delta
instance:DecidableEq Unit_:=fun a b=>if h:a.batch=b.batch∧a.act=b.act∧a.delta=b.delta then isTrue (by cases a;cases b;simp only at h;obtain⟨rfl,rfl,rfl⟩:=h;rfl) else isFalse (fun e=>h (by subst e;exact⟨rfl,rfl,rfl⟩))
theorem Unit_.eq_iff {a b:Unit_}:a=b↔a.batch=b.batch∧a.act=b.act∧a.delta=b.delta:=⟨fun h=>by subst h;exact⟨rfl,rfl,rfl⟩,fun h=>by cases a;cases b;simp only at h;obtain⟨rfl,rfl,rfl⟩:=h;rfl⟩
def msLog (x:Log):Nat:=Ad x.state+(x.units.length+sumL A9w x.units)+(x.waits.length+sumL A9w x.waits)
def wLog (x:Log):Prop:=A6n x.state∧(x.units.length≤9223372036854775807∧∀ y∈x.units,Agu y)∧(x.waits.length≤9223372036854775807∧∀ y∈x.waits,Agu y)
instance:DecidableEq Log:=fun a b=>if h:a.rep=b.rep∧a.time=b.time∧a.state=b.state∧a.units=b.units∧a.waits=b.waits then isTrue (by cases a;cases b;simp only at h;obtain⟨rfl,rfl,rfl,rfl,rfl⟩:=h;rfl) else isFalse (fun e=>h (by subst e;exact⟨rfl,rfl,rfl,rfl,rfl⟩))
theorem Log.eq_iff {a b:Log}:a=b↔a.rep=b.rep∧a.time=b.time∧a.state=b.state∧a.units=b.units∧a.waits=b.waits:=⟨fun h=>by subst h;exact⟨rfl,rfl,rfl,rfl,rfl⟩,fun h=>by cases a;cases b;simp only at h;obtain⟨rfl,rfl,rfl,rfl,rfl⟩:=h;rfl⟩
def Aq (x:Commit):Nat:=x.ups.length+Ad x.state
def Tu (x:Commit):Prop:=x.ups.length≤9223372036854775807∧A6n x.state
instance:DecidableEq Commit:=fun a b=>if h:a.id=b.id∧a.ups=b.ups∧a.state=b.state then isTrue (by cases a;cases b;simp only at h;obtain⟨rfl,rfl,rfl⟩:=h;rfl) else isFalse (fun e=>h (by subst e;exact⟨rfl,rfl,rfl⟩))
theorem Commit.eq_iff {a b:Commit}:a=b↔a.id=b.id∧a.ups=b.ups∧a.state=b.state:=⟨fun h=>by subst h;exact⟨rfl,rfl,rfl⟩,fun h=>by cases a;cases b;simp only at h;obtain⟨rfl,rfl,rfl⟩:=h;rfl⟩
def Ci (x:Graph):Nat:=(x.commits.length+sumL Aq x.commits)
def A6o (x:Graph):Prop:=(x.commits.length≤9223372036854775807∧∀ y∈x.commits,Tu y)
instance:DecidableEq Graph:=fun a b=>if h:a.commits=b.commits∧a.head=b.head then isTrue (by cases a;cases b;simp only at h;obtain⟨rfl,rfl⟩:=h;rfl) else isFalse (fun e=>h (by subst e;exact⟨rfl,rfl⟩))
theorem Graph.eq_iff {a b:Graph}:a=b↔a.commits=b.commits∧a.head=b.head:=⟨fun h=>by subst h;exact⟨rfl,rfl⟩,fun h=>by cases a;cases b;simp only at h;obtain⟨rfl,rfl⟩:=h;rfl⟩
def A9x (x:Replica):Nat:=msLog x.log+Ci x.graph+msFile x.file+(x.out.length+sumL A9w x.out)
def Acm (x:Replica):Prop:=wLog x.log∧A6o x.graph∧wFile x.file∧(x.out.length≤9223372036854775807∧∀ y∈x.out,Agu y)
instance:DecidableEq Replica:=fun a b=>if h:a.way=b.way∧a.log=b.log∧a.graph=b.graph∧a.file=b.file∧a.out=b.out then isTrue (by cases a;cases b;simp only at h;obtain⟨rfl,rfl,rfl,rfl,rfl⟩:=h;rfl) else isFalse (fun e=>h (by subst e;exact⟨rfl,rfl,rfl,rfl,rfl⟩))
theorem Replica.eq_iff {a b:Replica}:a=b↔a.way=b.way∧a.log=b.log∧a.graph=b.graph∧a.file=b.file∧a.out=b.out:=⟨fun h=>by subst h;exact⟨rfl,rfl,rfl,rfl,rfl⟩,fun h=>by cases a;cases b;simp only at h;obtain⟨rfl,rfl,rfl,rfl,rfl⟩:=h;rfl⟩
def msWorld (x:World_):Nat:=(x.replicas.length+sumL A9x x.replicas)+(x.net.length+sumL Acl x.net)+x.codes.length+(x.synced.length+sumL msIntS x.synced)
def wWorld (x:World_):Prop:=(x.replicas.length≤9223372036854775807∧∀ y∈x.replicas,Acm y)∧(x.net.length≤9223372036854775807∧∀ y∈x.net,Ags y)∧x.codes.length≤9223372036854775807∧(x.synced.length≤9223372036854775807∧∀ y∈x.synced,wIntS y)
instance:DecidableEq World_:=fun a b=>if h:a.replicas=b.replicas∧a.net=b.net∧a.codes=b.codes∧a.synced=b.synced then isTrue (by cases a;cases b;simp only at h;obtain⟨rfl,rfl,rfl,rfl⟩:=h;rfl) else isFalse (fun e=>h (by subst e;exact⟨rfl,rfl,rfl,rfl⟩))
theorem World_.eq_iff {a b:World_}:a=b↔a.replicas=b.replicas∧a.net=b.net∧a.codes=b.codes∧a.synced=b.synced:=⟨fun h=>by subst h;exact⟨rfl,rfl,rfl,rfl⟩,fun h=>by cases a;cases b;simp only at h;obtain⟨rfl,rfl,rfl,rfl⟩:=h;rfl⟩
def msScript (x:Script):Nat:=x.ways.length+(x.events.length+sumL Agt x.events)
def wScript (x:Script):Prop:=x.ways.length≤9223372036854775807∧(x.events.length≤9223372036854775807∧∀ y∈x.events,wEvent y)
instance:DecidableEq Script:=fun a b=>if h:a.ways=b.ways∧a.events=b.events∧a.calm=b.calm then isTrue (by cases a;cases b;simp only at h;obtain⟨rfl,rfl,rfl⟩:=h;rfl) else isFalse (fun e=>h (by subst e;exact⟨rfl,rfl,rfl⟩))
theorem Script.eq_iff {a b:Script}:a=b↔a.ways=b.ways∧a.events=b.events∧a.calm=b.calm:=⟨fun h=>by subst h;exact⟨rfl,rfl,rfl⟩,fun h=>by cases a;cases b;simp only at h;obtain⟨rfl,rfl,rfl⟩:=h;rfl⟩
end
section
open Go Go.RowKit
def eD (p:Dot×Int):GV×GV:=(.agg [gi p.1.rep,gi p.1.seq],gi p.2)
def J0 (ps:List (Dot×Int)) (d:Dot):Option Int:=(ps.find? fun p=>decide (d=p.1)).map (·.2)
def mpt (m:GV) (ps:List (Dot×Int)):Thg:=⟨fun σ fp=>∃ g,m= .mp g∧fp=[g]∧bk σ g=some (.map (ps.map eD)),fun⟨g,h1,h2,h3⟩ hf=>⟨g,h1,h2,by rw[hf g (by rw[h2];exact List.mem_cons_self)];exact h3⟩⟩
def dks:List Sc:=[.i .i64,.i .i64]
theorem Ps (d:Dot):∀(ps:List (Dot×Int)) (i:Nat),∃ q,Sa [.i .i64,.i .i64] [gi d.rep,gi d.seq] (ps.map eD) i=some q∧match J0 ps d with
  |some v=>∃ j,q=some (j,gi v)
  |none=>q=none
 |[],i=>⟨none,rfl,rfl⟩
 |p::ps,i=>by
  obtain⟨q,h1,h2⟩:=Ps d ps (i+1)
  have e:Cs [.i .i64,.i .i64] [gi d.rep,gi d.seq] [gi p.1.rep,gi p.1.seq]=some (decide (d=p.1)):=by
   have:decide (d=p.1)=(decide (d.rep=p.1.rep)&&decide (d.seq=p.1.seq)):=by
    rw[Bool.eq_iff_iff]
    simp only[decide_eq_true_eq,Bool.and_eq_true]
    constructor
    ·rintro rfl;exact⟨rfl,rfl⟩
    ·rintro⟨h3,h4⟩;cases d;cases hp:p.1;simp_all
   rw[this]
   simp only[Cs,scEq,and_self,if_true,Option.bind_some,Option.map_some,Bool.and_true,Option.some.injEq]
   rw[Bool.eq_iff_iff];simp
  by_cases hd:d=p.1
  ·refine⟨some (i,gi p.2),?_,?_⟩
   ·simp only[List.map_cons,eD,Sa] at e ⊢
    rw[e];simp[hd]
   ·have:J0 (p::ps) d=some p.2:=by simp[J0,hd]
    rw[this];exact⟨i,rfl⟩
  ·refine⟨q,?_,?_⟩
   ·simp only[List.map_cons,eD,Sa] at e ⊢
    rw[e];simp only[hd,decide_false,Option.bind_some,Bool.false_eq_true,if_false]
    exact h1
   ·have:J0 (p::ps) d=J0 ps d:=by simp[J0,hd]
    rw[this];exact h2
namespace Hp
variable {σ τ:St} {rs:List Thg}
theorem newMap (H:Hp σ τ rs):Hp σ (τ++[some (.map [])]) (mpt (.mp τ.length) []::rs):=
 H.add (rs':=[mpt (.mp τ.length) []]) ⟨List.prefix_append _ _,[τ.length],⟨[τ.length],[],⟨_,rfl,rfl,D7⟩,rfl,rfl⟩,by simp,by simp⟩
theorem mup (H:Hp σ τ rs) (i:Nat) {m:GV} {ps:List (Dot×Int)} (hi:rs[i]? =some (mpt m ps)) (d:Dot) (n:Int) (h:J0 ps d=none):
  ∃ τ',mupG τ [.i .i64,.i .i64] m (.agg [gi d.rep,gi d.seq]) (gi n)=some (.tup [],τ')∧Hp σ τ' (rs.set i (mpt m (ps++[(d,n)]))):=by
 obtain⟨a,⟨g,rfl,rfl,hB⟩,hnd,hbd,ht⟩:=(H.pick i hi).turn
 have hlt:=(hbd g List.mem_cons_self).2
 obtain⟨q,h1,h2⟩:=Ps d ps 0
 rw[h] at h2
 subst h2
 refine⟨τ.set g (some (.map ((ps++[(d,n)]).map eD))),?_,unpick (ht (a':=[g]) ⟨by simp,fun g' h=>.inl h,by simp,fun g' h h'=>Eu fun e=>h' (by rw[e];exact List.mem_cons_self)⟩ ⟨g,rfl,rfl,Bg.2 (by rw[List.getElem?_set_self hlt])⟩) (List.getElem?_eq_some_iff.1 hi).1⟩
 simp only[mupG,mpG,Bg.1 hB,Option.bind_some,keyG,List.length_cons,List.length_nil,if_true]
 rw[h1]
 simp[Bm,Aft,eD]
theorem mlk (H:Hp σ τ rs) (i:Nat) {m:GV} {ps:List (Dot×Int)} (hi:rs[i]? =some (mpt m ps)) (d:Dot):
  mlkG τ [.i .i64,.i .i64] (gi 0) true m (.agg [gi d.rep,gi d.seq])=some (.tup [gi ((J0 ps d).getD 0),.bool (J0 ps d).isSome]):=by
 obtain⟨a,⟨g,rfl,rfl,hB⟩,_⟩:=H.see hi
 obtain⟨q,h1,h2⟩:=Ps d ps 0
 simp only[mlkG,mpG,Bg.1 hB,Option.bind_some,keyG,List.length_cons,List.length_nil,if_true]
 rw[h1]
 cases hl:J0 ps d with
 |none=>rw[hl] at h2;subst h2;rfl
 |some v=>rw[hl] at h2;obtain⟨j,rfl⟩:=h2;rfl
end Hp
end
section
open Go Go.RowKit
abbrev A2a:Nat:=122
def A2b:Fn1:=⟨15,[.t 6],(rg [oV 6 kf] (rg [oM 7 0,oM 8 1,oB 9 .geq 7 8,oM 10 9,og 11 10 true (.mov (.t 0)),og 12 10 true (.mov (.t 2)),og 13 10 true (.bin .leq (.t 11) (.t 12)),o 14 (.pick (.t 10) (.t 13) kf),oM 6 14] .ret))⟩
theorem A7t:A8 Tryz.prog A2a=some A2b:=by kernel_rfl
abbrev Xy:Nat:=236
def Xz:Fn1:=⟨15,[.t 6],(rg [oV 6 kf] (rg [oM 7 0,oM 8 1,oB 9 .geq 7 8,oM 10 9,og 11 10 true (.mov (.t 0)),og 12 10 true (.mov (.t 2)),og 13 10 true (.bin .leq (.t 11) (.t 12)),o 14 (.pick (.t 10) (.t 13) kf),oM 6 14] .ret))⟩
theorem A52:A8 Tryz.prog Xy=some Xz:=by kernel_rfl
abbrev Y0:Nat:=348
def Y1:Fn1:=⟨23,[.t 2],(rg [oV 2 kf] (.seq (rg [oV 3 (ki 0)] (.blk 0 (.lop (.seq (rg [oM 4 3,oM 5 0,o 6 (.len true (.t 5)),oB 7 .lss 4 6] (.cnd (.t 7) .skip (.ext 0))) (.seq (.blk 1 (rg [oM 10 0,oM 11 3,o 12 (.idx (.t 10) (.t 11)),o 13 (.bin .lss (.t 12) (.k (.int .u8 97))),oM 14 13,og 15 14 false (.mov (.t 0)),og 16 14 false (.mov (.t 3)),og 17 14 false (.idx (.t 15) (.t 16)),og 18 14 false (.bin .gtr (.t 17) (.k (.int .u8 122))),o 19 (.pick (.t 14) kt (.t 18))] (.cnd (.t 19) (rg [oV 2 kf] .ret) .skip))) (.reg [oM 8 3,oZ 9 8 1,oM 3 9])))))) (rg [oM 20 0,o 21 (.len true (.t 20)),o 22 (.call 122 [(.t 21),(ki 1),(ki 8)]),oM 2 22] .ret)))⟩
theorem A53:A8 Tryz.prog Y0=some Y1:=by kernel_rfl
abbrev Y3:Nat:=341
def Y4:Fn1:=⟨19,[.t 2],(rg [oV 2 kf] (.seq (rg [oV 3 (ki 0)] (.blk 0 (.lop (.seq (rg [oM 4 3,oM 5 0,o 6 (.len true (.t 5)),oB 7 .lss 4 6] (.cnd (.t 7) .skip (.ext 0))) (.seq (.blk 1 (rg [oM 10 0,oM 11 3,o 12 (.idx (.t 10) (.t 11)),o 13 (.cvi .i64 (.t 12)),o 14 (.call 236 [(.t 13),(ki 97),(ki 122)]),oU 15 14] (.cnd (.t 15) (rg [oV 2 kf] .ret) .skip))) (.reg [oM 8 3,oZ 9 8 1,oM 3 9])))))) (rg [oM 16 0,o 17 (.len true (.t 16)),o 18 (.call 236 [(.t 17),(ki 1),(ki 8)]),oM 2 18] .ret)))⟩
theorem A54:A8 Tryz.prog Y3=some Y4:=by kernel_rfl
abbrev Y5:Nat:=167
def Y6:Fn1:=⟨19,[.t 2],(rg [oV 2 kf] (.seq (rg [oV 3 (ki 0)] (.blk 0 (.lop (.seq (rg [oM 4 3,oM 5 0,oN 6 5,oB 7 .lss 4 6] (.cnd (.t 7) .skip (.ext 0))) (.seq (.blk 1 (rg [oM 10 0,oM 11 3,oI 12 1 10 11,oL 13 12,o 14 (.call 122 [(.t 13),(ki 0),(ki 1000)]),oU 15 14] (.cnd (.t 15) (rg [oV 2 kf] .ret) .skip))) (.reg [oM 8 3,oZ 9 8 1,oM 3 9])))))) (rg [oM 16 0,oN 17 16,o 18 (.bin .eql (.t 17) (ki 3)),oM 2 18] .ret)))⟩
theorem A55:A8 Tryz.prog Y5=some Y6:=by kernel_rfl
abbrev Y7:Nat:=176
def Y8:Fn1:=⟨18,[.t 2],(rg [oV 2 kf] (.seq (rg [oM 5 0,oN 6 5,oV 7 (ki 0)] (.blk 0 (.lop (rg [oB 8 .lss 7 6] (.seq (.cnd (.t 8) .skip (.ext 0)) (.seq (.blk 1 (rg [oI 9 1 5 7,oL 10 9,oM 4 10] (rg [oM 11 4,o 12 (.call 236 [(.t 11),(ki 0),(ki 1000)]),oU 13 12] (.cnd (.t 13) (rg [oV 2 kf] .ret) .skip)))) (.reg [oZ 14 7 1,oM 7 14]))))))) (rg [oM 15 0,oN 16 15,o 17 (.bin .eql (.t 16) (ki 3)),oM 2 17] .ret)))⟩
theorem A56:A8 Tryz.prog Y7=some Y8:=by kernel_rfl
abbrev A2c:Nat:=168
def A2d:Fn1:=⟨11,[.t 2],(rg [oX 1 0,oV 2 kf] (rg [oF 3 0 1,oL 4 3,o 5 (.call 122 [(.t 4),(ki 0),(ki 2)]),oM 6 5,og 7 6 true (.fad 1 (.t 1)),og 8 6 true (.ld false 1 (.t 7)),og 9 6 true (.call 122 [(.t 8),(ki 1),(ki 1000)]),o 10 (.pick (.t 6) (.t 9) kf),oM 2 10] .ret))⟩
theorem A7u:A8 Tryz.prog A2c=some A2d:=by kernel_rfl
abbrev A2e:Nat:=272
def A2f:Fn1:=⟨11,[.t 2],(rg [oX 1 0,oV 2 kf] (rg [oF 3 0 1,oL 4 3,o 5 (.call 236 [(.t 4),(ki 0),(ki 2)]),oM 6 5,og 7 6 true (.fad 1 (.t 1)),og 8 6 true (.ld false 1 (.t 7)),og 9 6 true (.call 236 [(.t 8),(ki 1),(ki 1000)]),o 10 (.pick (.t 6) (.t 9) kf),oM 2 10] .ret))⟩
theorem A7v:A8 Tryz.prog A2e=some A2f:=by kernel_rfl
abbrev A2g:Nat:=45
def A2h:Fn1:=⟨21,[.t 4],(rg [oX 3 1,oV 4 kf] (.seq (.drw [oM 5 0,oC 6 167 5,oM 7 6,og 8 7 true (.ld true 2 (.t 3)),og 9 7 true (.call 168 [(.t 8)]),o 10 (.pick (.t 7) (.t 9) kf),oM 11 10,og 12 11 true (.fad 1 (.t 3)),og 13 11 true (.ld false 1 (.t 12)),og 14 11 true (.mov (.t 0)),og 15 11 true (.fad 0 (.t 3)),og 16 11 true (.ld false 1 (.t 15)),og 17 11 true (.iad 1 (.t 14) (.t 16)),og 18 11 true (.ld false 1 (.t 17))] [og 19 11 true (.bin .leq (.t 13) (.t 18)),o 20 (.pick (.t 11) (.t 19) kf),oM 4 20]) .ret))⟩
theorem A7w:A8 Tryz.prog A2g=some A2h:=by kernel_rfl
abbrev A2i:Nat:=170
def A2j:Fn1:=⟨21,[.t 4],(rg [oX 3 1,oV 4 kf] (.seq (.drw [oM 5 0,oC 6 176 5,oM 7 6,og 8 7 true (.ld true 2 (.t 3)),og 9 7 true (.call 272 [(.t 8)]),o 10 (.pick (.t 7) (.t 9) kf),oM 11 10,og 12 11 true (.fad 1 (.t 3)),og 13 11 true (.ld false 1 (.t 12)),og 14 11 true (.mov (.t 0)),og 15 11 true (.fad 0 (.t 3)),og 16 11 true (.ld false 1 (.t 15)),og 17 11 true (.iad 1 (.t 14) (.t 16)),og 18 11 true (.ld false 1 (.t 17))] [og 19 11 true (.bin .leq (.t 13) (.t 18)),o 20 (.pick (.t 11) (.t 19) kf),oM 4 20]) .ret))⟩
theorem A7x:A8 Tryz.prog A2i=some A2j:=by kernel_rfl
abbrev Aec:Nat:=332
def Aed:Fn1:=⟨5,[.t 2],(rg [oV 2 kf] (rg [oM 3 0,o 4 (.call 122 [(.t 3),(ki 2),(ki 5)]),oM 2 4] .ret))⟩
abbrev Acn:Nat:=333
def Aco:Fn1:=⟨13,[.t 2],(rg [oV 2 kf] (rg [oM 3 0,o 4 (.bin .eql (.t 3) (ki 1)),oM 5 4,og 6 5 false (.mov (.t 0)),og 7 5 false (.bin .eql (.t 6) (ki 4)),o 8 (.pick (.t 5) kt (.t 7)),oM 9 8,og 10 9 false (.mov (.t 0)),og 11 9 false (.bin .eql (.t 10) (ki 6)),o 12 (.pick (.t 9) kt (.t 11)),oM 2 12] .ret))⟩
abbrev n_i_hasKey:Nat:=342
def F_i_hasKey:Fn1:=⟨5,[.t 2],(rg [oV 2 kf] (rg [oM 3 0,o 4 (.call 236 [(.t 3),(ki 2),(ki 5)]),oM 2 4] .ret))⟩
abbrev n_i_hasVal:Nat:=343
def F_i_hasVal:Fn1:=⟨13,[.t 2],(rg [oV 2 kf] (rg [oM 3 0,o 4 (.bin .eql (.t 3) (ki 1)),oM 5 4,og 6 5 false (.mov (.t 0)),og 7 5 false (.bin .eql (.t 6) (ki 4)),o 8 (.pick (.t 5) kt (.t 7)),oM 9 8,og 10 9 false (.mov (.t 0)),og 11 9 false (.bin .eql (.t 10) (ki 6)),o 12 (.pick (.t 9) kt (.t 11)),oM 2 12] .ret))⟩
abbrev Aee:Nat:=279
def Aef:Fn1:=⟨45,[.t 8],(rg [oV 8 kf] (.seq (rg [oM 9 0,o 10 (.call 122 [(.t 9),(ki 1),(ki 7)]),oU 11 10,oM 12 11,og 13 12 false (.mov (.t 1)),og 14 12 false (.call 348 [(.t 13)]),og 15 12 false (.un .not (.t 14)),o 16 (.pick (.t 12) kt (.t 15)),oM 17 16,og 18 17 false (.mov (.t 0)),og 19 17 false (.call 332 [(.t 18)]),og 20 17 false (.mov (.t 19)),og 21 20 true (.mov (.t 2)),og 22 20 true (.call 348 [(.t 21)]),og 23 20 true (.un .not (.t 22)),og 24 17 false (.pick (.t 20) (.t 23) kf),o 25 (.pick (.t 17) kt (.t 24)),oM 26 25,og 27 26 false (.mov (.t 0)),og 28 26 false (.call 332 [(.t 27)]),og 29 26 false (.un .not (.t 28)),og 30 26 false (.mov (.t 29)),og 31 30 true (.mov (.t 2)),og 32 30 true (.bin .neq (.t 31) (.k (.str ⟨#[]⟩))),og 33 26 false (.pick (.t 30) (.t 32) kf),o 34 (.pick (.t 26) kt (.t 33))] (.cnd (.t 34) (rg [oV 8 kf] .ret) .skip)) (rg [oM 35 3,o 36 (.bin .eql (.t 35) (ki 0)),oM 37 36,og 38 37 false (.mov (.t 0)),og 39 37 false (.call 333 [(.t 38)]),og 40 37 false (.mov (.t 39)),og 41 40 true (.mov (.t 3)),og 42 40 true (.call 122 [(.t 41),(ki 0),(ki 999999)]),og 43 37 false (.pick (.t 40) (.t 42) kf),o 44 (.pick (.t 37) kt (.t 43)),oM 8 44] .ret)))⟩
abbrev Agv:Nat:=273
def Agw:Fn1:=⟨46,[.t 8],(rg [oV 8 kf] (.seq (rg [oM 10 0,o 11 (.call 236 [(.t 10),(ki 1),(ki 7)]),oU 12 11,oM 13 12,og 14 13 false (.mov (.t 1)),og 15 13 false (.call 341 [(.t 14)]),og 16 13 false (.un .not (.t 15)),o 17 (.pick (.t 13) kt (.t 16))] (.cnd (.t 17) (rg [oV 8 kf] .ret) .skip)) (rg [oM 18 2,o 19 (.bin .eql (.t 18) (.k (.str ⟨#[]⟩))),oM 20 19,og 21 20 true (.mov (.t 0)),og 22 20 true (.call 342 [(.t 21)]),og 23 20 true (.un .not (.t 22)),o 24 (.pick (.t 20) (.t 23) kf),oM 25 24,og 26 25 false (.mov (.t 2)),og 27 25 false (.call 341 [(.t 26)]),og 28 25 false (.mov (.t 27)),og 29 28 true (.mov (.t 0)),og 30 28 true (.call 342 [(.t 29)]),og 31 25 false (.pick (.t 28) (.t 30) kf),o 32 (.pick (.t 25) kt (.t 31)),oM 9 32] (rg [oM 33 9,oM 34 33,og 35 34 true (.mov (.t 3)),og 36 34 true (.bin .eql (.t 35) (ki 0)),og 37 34 true (.mov (.t 36)),og 38 37 false (.mov (.t 0)),og 39 37 false (.call 343 [(.t 38)]),og 40 37 false (.mov (.t 39)),og 41 40 true (.mov (.t 3)),og 42 40 true (.call 236 [(.t 41),(ki 0),(ki 999999)]),og 43 37 false (.pick (.t 40) (.t 42) kf),og 44 34 true (.pick (.t 37) kt (.t 43)),o 45 (.pick (.t 34) (.t 44) kf),oM 8 45] .ret))))⟩
abbrev n_s_ActOk:Nat:=185
def F_s_ActOk:Fn1:=⟨71,[.t 2],(rg [oX 1 0,oV 2 kf] (.seq (.seq (.drw [oF 3 0 1,oW 4 2 3,oC 5 168 4,oU 6 5,oM 7 6,og 8 7 false (.fad 3 (.t 1)),og 9 7 false (.ld false 1 (.t 8)),og 10 7 false (.call 167 [(.t 9)]),og 11 7 false (.un .not (.t 10)),o 12 (.pick (.t 7) kt (.t 11)),oM 13 12,og 14 13 false (.fad 3 (.t 1)),og 15 13 false (.ld false 1 (.t 14)),og 16 13 false (.fad 0 (.t 1)),og 17 13 false (.fad 0 (.t 16)),og 18 13 false (.ld false 1 (.t 17)),og 19 13 false (.iad 1 (.t 15) (.t 18)),og 20 13 false (.ld false 1 (.t 19)),og 21 13 false (.fad 0 (.t 1)),og 22 13 false (.fad 1 (.t 21)),og 23 13 false (.ld false 1 (.t 22)),og 24 13 false (.bin .sub (.t 23) (ki 1)),og 25 13 false (.bin .neq (.t 20) (.t 24)),o 26 (.pick (.t 13) kt (.t 25)),oM 27 26,og 28 27 false (.fad 2 (.t 1)),og 29 27 false (.ld false 1 (.t 28)),og 30 27 false (.call 122 [(.t 29),(ki 1),(ki 10000)]),og 31 27 false (.un .not (.t 30)),o 32 (.pick (.t 27) kt (.t 31)),oM 33 32,og 34 33 false (.fad 4 (.t 1)),og 35 33 false (.ld false 1 (.t 34)),og 36 33 false (.fad 5 (.t 1)),og 37 33 false (.ld false 1 (.t 36)),og 38 33 false (.fad 6 (.t 1)),og 39 33 false (.ld false 1 (.t 38)),og 40 33 false (.fad 7 (.t 1)),og 41 33 false (.ld false 1 (.t 40))] [og 42 33 false (.call 279 [(.t 35),(.t 37),(.t 39),(.t 41)]),og 43 33 false (.un .not (.t 42)),o 44 (.pick (.t 33) kt (.t 43))]) (.cnd (.t 44) (rg [oV 2 kf] .ret) .skip)) (.seq (rg [oF 45 4 1,oL 46 45] (.blk 0 (rg [o 48 (.bin .eql (.t 46) (ki 7)),oM 47 48] (.cnd (.t 47) (rg [oF 49 3 1,oL 50 49,oF 51 8 1,oW 52 2 51,oD 53 45 50 52,oM 2 53] .ret) (rg [o 55 (.bin .eql (.t 46) (ki 6)),oM 54 55] (.cnd (.t 54) (rg [oF 56 8 1,oW 57 2 56,o 58 (.build [z0,z0] []),o 59 (.eqs false [.i .i64,.i .i64] (.t 57) (.t 58)),oM 60 59,og 61 60 false (.fad 3 (.t 1)),og 62 60 false (.ld false 1 (.t 61)),og 63 60 false (.fad 8 (.t 1)),og 64 60 false (.ld true 2 (.t 63)),og 65 60 false (.call 45 [(.t 62),(.t 64)]),o 66 (.pick (.t 60) kt (.t 65)),oM 2 66] .ret) .skip)))))) (rg [oF 67 8 1,oW 68 2 67,o 69 (.build [z0,z0] []),o 70 (.eqs false [.i .i64,.i .i64] (.t 68) (.t 69)),oM 2 70] .ret))))⟩
abbrev n_i_ActOk:Nat:=169
def F_i_ActOk:Fn1:=⟨71,[.t 2],(rg [oX 1 0,oV 2 kf] (.seq (.seq (.drw [oF 5 0 1,oW 6 2 5,oC 7 272 6,oU 8 7,oM 9 8,og 10 9 false (.fad 3 (.t 1)),og 11 9 false (.ld false 1 (.t 10)),og 12 9 false (.call 176 [(.t 11)]),og 13 9 false (.un .not (.t 12)),o 14 (.pick (.t 9) kt (.t 13)),oM 15 14,og 16 15 false (.fad 3 (.t 1)),og 17 15 false (.ld false 1 (.t 16)),og 18 15 false (.fad 0 (.t 1)),og 19 15 false (.fad 0 (.t 18)),og 20 15 false (.ld false 1 (.t 19)),og 21 15 false (.iad 1 (.t 17) (.t 20)),og 22 15 false (.ld false 1 (.t 21)),og 23 15 false (.fad 0 (.t 1)),og 24 15 false (.fad 1 (.t 23)),og 25 15 false (.ld false 1 (.t 24))] [og 26 15 false (.bin .sub (.t 25) (ki 1)),og 27 15 false (.bin .neq (.t 22) (.t 26)),o 28 (.pick (.t 15) kt (.t 27)),oM 29 28,og 30 29 false (.fad 2 (.t 1)),og 31 29 false (.ld false 1 (.t 30)),og 32 29 false (.call 236 [(.t 31),(ki 1),(ki 10000)]),og 33 29 false (.un .not (.t 32)),o 34 (.pick (.t 29) kt (.t 33))]) (.cnd (.t 34) (rg [oV 2 kf] .ret) .skip)) (rg [oF 35 8 1,oW 36 2 35,o 37 (.build [z0,z0] []),o 38 (.eqs false [.i .i64,.i .i64] (.t 36) (.t 37)),oM 3 38] (rg [oM 39 3,oM 4 39] (.seq (rg [oF 40 4 1,oL 41 40] (.blk 0 (rg [o 43 (.bin .eql (.t 41) (ki 7)),oM 42 43] (.cnd (.t 42) (.reg [oF 44 3 1,oL 45 44,oF 46 8 1,oW 47 2 46,oD 48 170 45 47,oM 4 48]) (rg [o 50 (.bin .eql (.t 41) (ki 6)),oM 49 50] (.cnd (.t 49) (.reg [oM 51 3,oM 52 51,og 53 52 false (.fad 3 (.t 1)),og 54 52 false (.ld false 1 (.t 53)),og 55 52 false (.fad 8 (.t 1)),og 56 52 false (.ld true 2 (.t 55)),og 57 52 false (.call 170 [(.t 54),(.t 56)]),o 58 (.pick (.t 52) kt (.t 57)),oM 4 58]) .skip)))))) (rg [oM 59 4,oM 60 59,og 61 60 true (.fad 4 (.t 1)),og 62 60 true (.ld false 1 (.t 61)),og 63 60 true (.fad 5 (.t 1)),og 64 60 true (.ld false 1 (.t 63)),og 65 60 true (.fad 6 (.t 1)),og 66 60 true (.ld false 1 (.t 65)),og 67 60 true (.fad 7 (.t 1)),og 68 60 true (.ld false 1 (.t 67)),og 69 60 true (.call 273 [(.t 62),(.t 64),(.t 66),(.t 68)]),o 70 (.pick (.t 60) (.t 69) kf),oM 2 70] .ret))))))⟩
theorem Ap {P:Program} {env:Env} {σ:St} {K:Kt} {r:List Op1} {d:Option Nat} {D:Bool} {f:Nat} {args:List GV} {b:Bool} (h:Ret P f args σ (.bool b) σ) (ht:b=true→Af D P r K (upo env d (.bool true)) σ) (hf:b=false→Af D P r K (upo env d (.bool false)) σ):Zx D f args P r K env d σ:=by
 cases b with
 |true=>exact Ac h (ht rfl)
 |false=>exact Ac h (hf rfl)
def inB (n a b:Int):Bool:=decide (a≤n)&&decide (n≤b)
theorem Cc {n a b:Int}:inB n a b=true↔a≤n∧n≤b:=by simp[inB]
theorem C6 (σ:St) (n a b:Int):Ret Tryz.prog A2a [gi n,gi a,gi b] σ (.bool (inB n a b)) σ:=by
 refine Al A7t (Z0z rfl) trivial ?_
 simp +contextual (disch:=omega) only[go_sem,A2b,inB]
theorem Bn (σ:St) (n a b:Int):Ret Tryz.prog Xy [gi n,gi a,gi b] σ (.bool (inB n a b)) σ:=by
 refine Al A52 (Z0z rfl) trivial ?_
 simp +contextual (disch:=omega) only[go_sem,Xz,inB]
def bl (s:ByteArray):List UInt8:=s.data.toList
theorem Kf (s:ByteArray):(bl s).length=s.size:=by
 unfold bl;rw[Array.length_toList];rfl
theorem A9y {s:ByteArray} {i:Nat} (hi:i<(bl s).length):idxG (.str s) (some i)=some (.int .u8 (((bl s)[i].toNat:Nat):Int)):=by
 have h2:i<s.size:=by rw[← Kf];exact hi
 have e:s[i]? =some (bl s)[i]:=by
  rw[getElem?_pos s i h2];rfl
 simp only[idxG,e,Option.map_some];rfl
theorem u8_lt (b:UInt8):b.toNat<256:=b.toNat_lt
def lowB (b:UInt8):Bool:=inB (b.toNat:Int) 97 122
def Dc (s:ByteArray):Bool:=(bl s).all lowB&&inB s.size 1 8
theorem Hs (σ:St) (s:ByteArray) (hs:s.size≤1099511627776):Ret Tryz.prog Y0 [.str s] σ (.bool (Dc s)) σ:=by
 refine Al A53 (Z0z rfl) trivial ?_
 simp +contextual (disch:=omega) only[go_sem,Y1]
 refine B4 (bl s).length 3 (fun i env τ=>env 0= .str s∧((bl s).take i).all lowB=true∧σ <+: τ) rfl ⟨rfl,rfl,List.prefix_refl _⟩ ?_ ?_
 ·rintro i env τ hi e3 c0 ⟨e0,ha,hp⟩
  have hl:=Kf s
  rw[hl] at c0
  have hf:=fun h=>E1 (p:=lowB) hi h
  have ht:=De hi ha
  simp +contextual (disch:=omega) only[go_sem,c0,e0,e3,A9y hi,hp]
  simp only[lowB,inB,Dc] at*
  generalize(((bl s)[i].toNat:Nat):Int)=b at*
  grind
 ·rintro env τ e3 c0 ⟨e0,ha,hp⟩
  rw[List.take_length] at ha
  rw[Kf] at c0 e3
  simp +contextual (disch:=omega) only[go_sem,c0,e0,e3]
  refine Ac (C6 τ _ _ _) ?_
  simp +contextual (disch:=omega) only[go_sem,Dc,ha,hp]
theorem Ht (σ:St) (s:ByteArray) (hs:s.size≤1099511627776):Ret Tryz.prog Y3 [.str s] σ (.bool (Dc s)) σ:=by
 refine Al A54 (Z0z rfl) trivial ?_
 simp +contextual (disch:=omega) only[go_sem,Y4]
 refine B4 (bl s).length 3 (fun i env τ=>env 0= .str s∧((bl s).take i).all lowB=true∧σ <+: τ) rfl ⟨rfl,rfl,List.prefix_refl _⟩ ?_ ?_
 ·rintro i env τ hi e3 c0 ⟨e0,ha,hp⟩
  have hl:=Kf s
  rw[hl] at c0
  have hf:=fun h=>E1 (p:=lowB) hi h
  have ht:=De hi ha
  have h8:=u8_lt (bl s)[i]
  simp +contextual (disch:=omega) only[go_sem,c0,e0,e3,A9y hi,Agn]
  refine Ap (Bn τ _ _ _) (fun h=> ?_) (fun h=> ?_)
  ·simp +contextual (disch:=omega) only[go_sem,e0,e3,hp]
   exact ht h
  ·simp +contextual (disch:=omega) only[go_sem,e0,e3,hp]
   simp[Dc,hf h]
 ·rintro env τ e3 c0 ⟨e0,ha,hp⟩
  rw[List.take_length] at ha
  rw[Kf] at c0 e3
  simp +contextual (disch:=omega) only[go_sem,c0,e0,e3]
  refine Ac (Bn τ _ _ _) ?_
  simp +contextual (disch:=omega) only[go_sem,Dc,ha,hp]
def seqB (n:Int):Bool:=inB n 0 1000
def okK (l:List Int):Bool:=l.all seqB&&decide (l.length=3)
theorem J1 {l:List Int} (h:okK l=true):l.length=3:=by
 simp only[okK,Bool.and_eq_true,decide_eq_true_eq] at h
 exact h.2
theorem Hu (σ:St) (v:GV) (l:List Int) (h:RS pI.kd σ v l) (hl:l.length≤1099511627776):Ret Tryz.prog Y5 [v] σ (.bool (okK l)) σ:=by
 refine Al A55 (Z0z rfl) trivial ?_
 simp +contextual (disch:=omega) only[go_sem,Y6]
 refine B4 l.length 3 (fun i env τ=>env 0=v∧(l.take i).all seqB=true∧σ <+: τ) rfl ⟨rfl,rfl,List.prefix_refl _⟩ ?_ ?_
 ·rintro i env τ hi e3 c0 ⟨e0,ha,hp⟩
  have hf:=fun h=>E1 (p:=seqB) hi h
  have ht:=De hi ha
  simp +contextual (disch:=omega) only[go_sem,c0,e0,e3,h.len,Db (h.pre hp) hi]
  refine Ap (C6 τ _ _ _) (fun h=> ?_) (fun h=> ?_)
  ·simp +contextual (disch:=omega) only[go_sem,e0,e3,hp]
   exact ht h
  ·simp +contextual (disch:=omega) only[go_sem,e0,e3,hp]
   simp[okK,hf h]
 ·rintro env τ e3 c0 ⟨e0,ha,hp⟩
  rw[List.take_length] at ha
  simp +contextual (disch:=omega) only[go_sem,c0,e0,e3,h.len,hp,okK,ha]
  exact A9r
theorem Hv (σ:St) (v:GV) (l:List Int) (h:RS pI.kd σ v l) (hl:l.length≤1099511627776):Ret Tryz.prog Y7 [v] σ (.bool (okK l)) σ:=by
 refine Al A56 (Z0z rfl) trivial ?_
 simp +contextual (disch:=omega) only[go_sem,Y8,h.len]
 refine B4 l.length 7 (fun i env τ=>env 0=v∧env 5=v∧env 6=gi l.length∧(l.take i).all seqB=true∧σ <+: τ) rfl ⟨rfl,rfl,rfl,rfl,List.prefix_refl _⟩ ?_ ?_
 ·rintro i env τ hi e7 c0 ⟨e0,e5,e6,ha,hp⟩
  have hf:=fun h=>E1 (p:=seqB) hi h
  have ht:=De hi ha
  simp +contextual (disch:=omega) only[go_sem,c0,e0,e5,e6,e7,h.len,Db (h.pre hp) hi]
  refine Ap (Bn τ _ _ _) (fun h=> ?_) (fun h=> ?_)
  ·simp +contextual (disch:=omega) only[go_sem,e0,e5,e6,e7,hp]
   exact ht h
  ·simp +contextual (disch:=omega) only[go_sem,e0,e5,e6,e7,hp]
   simp[okK,hf h]
 ·rintro env τ e7 c0 ⟨e0,e5,e6,ha,hp⟩
  rw[List.take_length] at ha
  simp +contextual (disch:=omega) only[go_sem,c0,e0,e5,e6,e7,h.len,hp,okK,ha]
  exact A9r
def G5 (d:Dot):Bool:=inB d.rep 0 2&&inB d.seq 1 1000
theorem A2k {d:Dot}:G5 d=true↔(0≤d.rep∧d.rep≤2)∧1≤d.seq∧d.seq≤1000:=by simp[G5,Cc]
theorem Hg (σ:St) (d:Dot):Ret Tryz.prog A2c [.agg [gi d.rep,gi d.seq]] σ (.bool (G5 d)) σ:=by
 refine Al A7u (Z0z rfl) trivial ?_
 simp +contextual (disch:=omega) only[go_sem,A2d]
 refine Ap (C6 _ _ _ _) (fun h=> ?_) (fun h=> ?_)
 ·simp +contextual (disch:=omega) only[go_sem]
  refine Ac (C6 _ _ _ _) ?_
  simp +contextual (disch:=omega) only[go_sem,G5,h]
 ·simp +contextual (disch:=omega) only[go_sem,G5,h]
theorem Tv (σ:St) (d:Dot):Ret Tryz.prog A2e [.agg [gi d.rep,gi d.seq]] σ (.bool (G5 d)) σ:=by
 refine Al A7v (Z0z rfl) trivial ?_
 simp +contextual (disch:=omega) only[go_sem,A2f]
 refine Ap (Bn _ _ _ _) (fun h=> ?_) (fun h=> ?_)
 ·simp +contextual (disch:=omega) only[go_sem]
  refine Ac (Bn _ _ _ _) ?_
  simp +contextual (disch:=omega) only[go_sem,G5,h]
 ·simp +contextual (disch:=omega) only[go_sem,G5,h]
def at0 (l:List Int) (r:Int):Int:=l.getD r.toNat 0
def B5 (k:List Int) (d:Dot):Bool:=okK k&&G5 d&&decide (d.seq≤at0 k d.rep)
theorem A9z {k:IntKind} {n:Int} (h:0≤n):Bk (some (.int k n))=some n.toNat:=by simp[Bk,h]
theorem Jk {σ:St} {v:GV} {l:List Int} {r:Int} (h:RS pI.kd σ v l) (hk:okK l=true) (h0:0≤r) (h2:r≤2):(Bk (some (gi r))=some r.toNat∧iadG 1 v (some r.toNat)=some (atz 1 v r.toNat))∧ldG false 1 σ (atz 1 v r.toNat)=some (gi (at0 l r)):=by
 have hl:=J1 hk
 have hi:r.toNat<l.length:=by omega
 have e:=Db h hi
 refine⟨⟨A9z h0,e.1⟩,?_⟩
 rw[e.2,at0,List.getD_eq_getElem?_getD,List.getElem?_eq_getElem hi];rfl
theorem Hh (σ:St) (v:GV) (k:List Int) (d:Dot) (h:RS pI.kd σ v k) (hl:k.length≤1099511627776):Ret Tryz.prog A2g [v,.agg [gi d.rep,gi d.seq]] σ (.bool (B5 k d)) σ:=by
 refine Al A7w (Z0z rfl) trivial ?_
 simp +contextual (disch:=omega) only[go_sem,A2h]
 have h1:=h.pre (pre1 σ (some (Blk.row 1 [gi d.rep,gi d.seq])))
 refine Ap (Hu _ v k h1 hl) (fun hk=> ?_) (fun hk=> ?_)
 ·simp +contextual (disch:=omega) only[go_sem]
  refine Ap (Hg _ d) (fun hd=> ?_) (fun hd=> ?_)
  ·have hd':=A2k.1 hd
   have hr:=Jk h1 hk hd'.1.1 hd'.1.2
   simp +contextual (disch:=omega) only[go_sem,hr,B5,hk,hd]
  ·simp +contextual (disch:=omega) only[go_sem,B5,hk,hd]
 ·simp +contextual (disch:=omega) only[go_sem,B5,hk]
theorem Hi (σ:St) (v:GV) (k:List Int) (d:Dot) (h:RS pI.kd σ v k) (hl:k.length≤1099511627776):Ret Tryz.prog A2i [v,.agg [gi d.rep,gi d.seq]] σ (.bool (B5 k d)) σ:=by
 refine Al A7x (Z0z rfl) trivial ?_
 simp +contextual (disch:=omega) only[go_sem,A2j]
 have h1:=h.pre (pre1 σ (some (Blk.row 1 [gi d.rep,gi d.seq])))
 refine Ap (Hv _ v k h1 hl) (fun hk=> ?_) (fun hk=> ?_)
 ·simp +contextual (disch:=omega) only[go_sem]
  refine Ap (Tv _ d) (fun hd=> ?_) (fun hd=> ?_)
  ·have hd':=A2k.1 hd
   have hr:=Jk h1 hk hd'.1.1 hd'.1.2
   simp +contextual (disch:=omega) only[go_sem,hr,B5,hk,hd]
  ·simp +contextual (disch:=omega) only[go_sem,B5,hk,hd]
 ·simp +contextual (disch:=omega) only[go_sem,B5,hk]
end
section
open Go Go.RowKit
theorem Hw:∀(x y:List UInt8),Op.bytesLess x y=decide (x<y)
 |_,[]=>by simp[Op.bytesLess]
 |[],_::_=>by simp[Op.bytesLess]
 |a::x,b::y=>by
  rw[Op.bytesLess,Hw x y,Bool.eq_iff_iff]
  simp only[Bool.or_eq_true,decide_eq_true_eq,Bool.and_eq_true,beq_iff_eq,List.cons_lt_cons_iff]
def txLt (a b:ByteArray):Bool:=Op.bytesLess a.toList b.toList
theorem A7y {a b:ByteArray} (h:a.toList=b.toList):a=b:=by
 have:=Bu (a:=a) (b:=b)
 rw[h] at this
 simpa using this.symm
theorem Gu (a:ByteArray):txLt a a=false:=by
 rw[txLt,Hw];simp
theorem Lp {a b c:ByteArray} (h1:txLt a b=true) (h2:txLt b c=true):txLt a c=true:=by
 rw[txLt,Hw,decide_eq_true_eq] at*
 exact List.lt_trans h1 h2
theorem Tw {a b:ByteArray} (h1:txLt a b=true):txLt b a=false:=by
 cases h:txLt b a with
 |false=>rfl
 |true=>have:=Lp h1 h;rw[Gu] at this;cases this
theorem J3 {a b:ByteArray} (h1:txLt a b=false) (h2:txLt b a=false):a=b:=by
 rw[txLt,Hw,decide_eq_false_iff_not] at*
 exact A7y (List.le_antisymm (List.not_lt.1 h2) (List.not_lt.1 h1))
@[go_sem] theorem bin_slss {a b:ByteArray}:binG .lss (.str a) (.str b)=some (.bool (txLt a b)):=(rfl)
@[go_sem] theorem bin_sgtr {a b:ByteArray}:binG .gtr (.str a) (.str b)=some (.bool (txLt b a)):=by
 have:(!(txLt a b||decide (a=b)))=txLt b a:=by
  by_cases h:a=b
  ·subst h;simp[Gu]
  ·cases h1:txLt a b with
   |true=>rw[Tw h1];simp
   |false=>
    cases h2:txLt b a with
    |true=>simp[h]
    |false=>exact absurd (J3 h1 h2) h
 simp only[binG,strG,Bu]
 exact congrArg (fun b=>some (GV.bool b)) this
@[go_sem] theorem bin_sgeq {a b:ByteArray}:binG .geq (.str a) (.str b)=some (.bool (!txLt a b)):=(rfl)
@[go_sem] theorem bin_sleq {a b:ByteArray}:binG .leq (.str a) (.str b)=some (.bool (!txLt b a)):=by
 have:(txLt a b||decide (a=b))= !txLt b a:=by
  by_cases h:a=b
  ·subst h;simp[Gu]
  ·cases h1:txLt a b with
   |true=>rw[Tw h1];simp
   |false=>
    cases h2:txLt b a with
    |true=>simp[h]
    |false=>exact absurd (J3 h1 h2) h
 simp only[binG,strG,Bu]
 exact congrArg (fun b=>some (GV.bool b)) this
def cmpI (a b:Int):Int:=if a<b then -1 else if b<a then 1 else 0
def cmpS (a b:ByteArray):Int:=if txLt a b then -1 else if txLt b a then 1 else 0
def orI (a b:Int):Int:=if a=0 then b else a
def If (a b:Dot):Int:=orI (cmpI a.rep b.rep) (cmpI a.seq b.seq)
def J4 (a b:Tally):Int:=orI (cmpS a.obj b.obj) (cmpI a.rep b.rep)
def Bq (a b:Dot):Bool:=decide (a.rep<b.rep)||decide (a.rep=b.rep)&&decide (a.seq<b.seq)
def Ah (a b:Tally):Bool:=txLt a.obj b.obj||decide (a.obj=b.obj)&&decide (a.rep<b.rep)
theorem Nj {a b:Dot}:decide (If a b<0)=Bq a b:=by
 unfold If Bq orI cmpI
 rw[Bool.eq_iff_iff]
 simp only[decide_eq_true_eq,Bool.or_eq_true,Bool.and_eq_true]
 repeat' split
 all_goals omega
theorem Tx {a b:Dot}:decide (0≤If a b)= !Bq a b:=by
 rw[← Nj,Bool.eq_iff_iff];simp
theorem Agx {a b:Int}:cmpI a b=0↔a=b:=by
 unfold cmpI
 rcases Int.lt_trichotomy a b with h|h|h
 ·rw[if_pos h];omega
 ·subst h;simp
 ·rw[if_neg (by omega),if_pos h];omega
theorem A6p {a b:Int}:cmpI a b<0↔a<b:=by
 unfold cmpI
 rcases Int.lt_trichotomy a b with h|h|h
 ·rw[if_pos h];omega
 ·subst h;simp
 ·rw[if_neg (by omega),if_pos h];omega
theorem Acp {a b:ByteArray}:cmpS a b<0↔txLt a b=true:=by
 unfold cmpS
 cases h1:txLt a b with
 |true=>simp
 |false=>
  cases h2:txLt b a with
  |true=>simp
  |false=>simp
theorem Aa0 {a b:ByteArray}:cmpS a b=0↔a=b:=by
 unfold cmpS
 cases h1:txLt a b with
 |true=>
  have h3:a≠b:=fun e=>by rw[e,Gu] at h1;cases h1
  simp[h3]
 |false=>
  cases h2:txLt b a with
  |true=>
   have h3:a≠b:=fun e=>by rw[e,Gu] at h2;cases h2
   simp[h3]
  |false=>simp[J3 h1 h2]
theorem Ty {a b:Tally}:decide (J4 a b<0)=Ah a b:=by
 unfold J4 Ah orI
 rw[Bool.eq_iff_iff]
 simp only[decide_eq_true_eq,Bool.or_eq_true,Bool.and_eq_true]
 by_cases h:a.obj=b.obj
 ·rw[if_pos (Aa0.2 h),A6p,h,Gu];simp
 ·rw[if_neg (fun e=>h (Aa0.1 e)),Acp];simp[h]
theorem A57 {a b:Tally}:decide (0≤J4 a b)= !Ah a b:=by
 rw[← Ty,Bool.eq_iff_iff];simp
theorem Nk (a:Dot):Bq a a=false:=by simp[Bq]
theorem Hj {a b c:Dot} (h1:Bq a b=true) (h2:Bq b c=true):Bq a c=true:=by
 simp only[Bq,Bool.or_eq_true,Bool.and_eq_true,decide_eq_true_eq] at *;omega
theorem Tz {a b:Dot} (h1:Bq a b=false) (h2:Bq b a=false):a=b:=by
 rw[Dot.eq_iff]
 simp only[Bq,Bool.or_eq_false_iff,Bool.and_eq_false_iff,decide_eq_false_iff_not] at *;omega
def allR (n:Nat) (p:Nat→Bool):Bool:=(List.range n).all p
theorem Dq {n:Nat} {p:Nat→Bool}:allR n p=true↔∀ i,i<n→p i=true:=by simp[allR]
theorem Kg {n i:Nat} {p:Nat→Bool} (hi:i<n) (h:p i=false):allR n p=false:=by
 cases e:allR n p with
 |false=>rfl
 |true=>rw[Dq.1 e i hi] at h;cases h
theorem Fl {n:Nat} {p:Nat→Bool} (h:∀ i,i<n→p i=true):allR n p=true:=Dq.2 h
theorem E3 {i:Nat} {p:Nat→Bool} (h:∀ j,j<i→p j=true) (hi:p i=true):∀ j,j<i+1→p j=true:=fun j hj=>by
 rcases Nat.lt_or_ge j i with h1|h1
 ·exact h j h1
 ·have:j=i:=by omega
  subst this;exact hi
def onI {α:Type} (l:List α) (i:Nat) (p:α→Bool):Bool:=match l[i]? with
 |some x=>p x
 |none=>true
theorem Di {α:Type} {l:List α} {i:Nat} {p:α→Bool} (hi:i<l.length):onI l i p=p l[i]:=by
 simp only[onI,List.getElem?_eq_getElem hi]
def upI {α:Type} (lt:α→α→Bool) (l:List α):Nat→Bool
 |0=>true
 |i+1=>onI l i fun a=>onI l (i+1) fun b=>lt a b
theorem Lx {α:Type} {lt:α→α→Bool} {l:List α} {i:Nat} (h0:i≠0) (hi:i<l.length) (hj:i - 1<l.length):upI lt l i=lt l[i - 1] l[i]:=by
 cases i with
 |zero=>exact absurd rfl h0
 |succ i=>
  simp only[upI,Nat.add_sub_cancel]
  rw[Di (by omega),Di hi]
theorem Ta {α:Type} {lt:α→α→Bool} (ht:∀ a b c,lt a b=true→lt b c=true→lt a c=true) {l:List α} (h:∀ i,i<l.length→upI lt l i=true):l.Pairwise fun a b=>lt a b=true:=by
 have key:∀(j i:Nat) (hi:i<l.length) (hj:j<l.length),i<j→lt l[i] l[j]=true:=by
  intro j
  induction j with
  |zero=>intro i hi hj h;omega
  |succ j ih=>
   intro i hi hj hij
   have h1:=h (j+1) hj
   rw[Lx (by omega) hj (by omega)] at h1
   simp only[Nat.add_sub_cancel] at h1
   rcases Nat.lt_or_ge i j with h2|h2
   ·exact ht _ _ _ (ih i hi (by omega) h2) h1
   ·have:i=j:=by omega
    subst this;exact h1
 rw[List.pairwise_iff_getElem]
 exact fun i j hi hj hij=>key j i hi hj hij
end
section
open Go Go.RowKit
def tal1 (t:Tally):Bool:=Dc t.obj&&(inB t.rep 0 2&&inB t.sum 0 999999)
def talP (l:List Tally) (i:Nat):Bool:=onI l i tal1&&upI Ah l i
def Fb (l:List Tally):Bool:=allR l.length (talP l)&&decide (l.length≤120)
def liv1 (x:Live):Bool:=Dc x.obj&&(Dc x.key&&(inB x.val 0 999999&&(x.map||decide (x.val=0))))
def Br (a b:Live):Bool:=Bq a.dot b.dot
def livP (l:List Live) (k:List Int) (i:Nat):Bool:=(onI l i fun x=>B5 k x.dot)&&((onI l i liv1)&&upI Br l i)
def Ly (l:List Live) (k:List Int):Bool:=allR l.length (livP l k)&&decide (l.length≤120)
def A7z (l:List Live) (i:Nat):Bool:=(onI l i fun x=>G5 x.dot)&&((onI l i liv1)&&upI Br l i)
def A58 (l:List Live):Bool:=allR l.length (A7z l)&&decide (l.length≤120)
def cel1 (x:Cell):Bool:=Dc x.obj&&(inB x.val 0 999999&&inB x.time 1 10000)
def Cl (a b:Cell):Bool:=Bq a.dot b.dot
def celP (l:List Cell) (k:List Int) (i:Nat):Bool:=(onI l i fun x=>B5 k x.dot)&&((onI l i cel1)&&upI Cl l i)
def Lz (l:List Cell) (k:List Int):Bool:=allR l.length (celP l k)&&decide (l.length≤120)
def refD (x:Cell):Bool:=decide (x.ref=⟨0,0⟩)||G5 x.ref
def A80 (l:List Cell) (i:Nat):Bool:=(onI l i fun x=>G5 x.dot)&&((onI l i cel1)&&((onI l i refD)&&upI Cl l i))
def A59 (l:List Cell):Bool:=allR l.length (A80 l)&&decide (l.length≤120)
def Cm (l:List Cell) (d:Dot):Option Nat:=l.findIdx? fun c=>decide (c.dot=d)
def ref1 (l:List Cell) (c:Cell):Bool:=decide (c.ref=⟨0,0⟩)||match Cm l c.ref with
 |none=>false
 |some k=>onI l k fun y=>decide (y.obj=c.obj)&&decide (y.time<c.time)
def Y9 (l:List Cell):Bool:=l.all (ref1 l)
def Bh (s:State):Bool:=okK s.know&&(Fb s.tallies&&(Ly s.lives s.know&&(Lz s.cells s.know&&Y9 s.cells)))
def livK (k:List Int) (x:Live):Bool:=B5 k x.dot
def celK (l:List Cell) (k:List Int) (x:Cell):Bool:=B5 k x.dot&&ref1 l x
def Ey (s:State):Bool:=okK s.know&&(Fb s.tallies&&(A58 s.lives&&(A59 s.cells&&(s.lives.all (livK s.know)&&s.cells.all (celK s.cells s.know)))))
theorem U0 {k:List Int} {d:Dot} (h:B5 k d=true):G5 d=true:=by
 simp only[B5,Bool.and_eq_true] at h;exact h.1.2
theorem Df {l:List Cell} {d:Dot} {k:Nat} (h:Cm l d=some k):∃ hk:k<l.length,l[k].dot=d:=by
 obtain⟨hk,h1,_⟩:=List.findIdx?_eq_some_iff_getElem.1 h
 exact⟨hk,by simpa using h1⟩
theorem Agy {α:Type} {l:List α} {p:α→Bool}:l.all p=allR l.length fun i=>onI l i p:=by
 rw[Bool.eq_iff_iff,Dq,List.all_eq_true]
 constructor
 ·intro h i hi;rw[Di hi];exact h _ (List.getElem_mem hi)
 ·intro h x hx
  obtain⟨i,hi,rfl⟩:=List.getElem_of_mem hx
  have:=h i hi
  rwa [Di hi] at this
theorem A5a (s:State):Ey s=Bh s:=by
 unfold Ey Bh
 cases h1:okK s.know with
 |false=>rfl
 |true=>
  cases h2:Fb s.tallies with
  |false=>rfl
  |true=>
   simp only[Bool.true_and]
   rw[Bool.eq_iff_iff]
   simp only[Bool.and_eq_true,A58,Ly,A59,Lz,Y9,Agy,Dq,decide_eq_true_eq,A7z,livP,A80,celP]
   constructor
   ·rintro⟨⟨hl,hl2⟩,⟨hc,hc2⟩,hlk,hck⟩
    refine⟨⟨fun i hi=>⟨hlk i hi,(hl i hi).2⟩,hl2⟩,⟨fun i hi=> ?_,hc2⟩,fun i hi=> ?_⟩
    ·have:=hck i hi
     have h4:=hc i hi
     rw[Di hi,celK] at this
     simp only[Bool.and_eq_true] at this
     exact⟨by rw[Di hi];exact this.1,h4.2.1,h4.2.2.2⟩
    ·have:=hck i hi
     rw[Di hi] at this ⊢
     rw[celK] at this
     simp only[Bool.and_eq_true] at this
     exact this.2
   ·rintro⟨⟨hl,hl2⟩,⟨hc,hc2⟩,hr⟩
    refine⟨⟨fun i hi=>⟨?_,(hl i hi).2⟩,hl2⟩,⟨fun i hi=>⟨?_,(hc i hi).2.1,?_,(hc i hi).2.2⟩,hc2⟩,fun i hi=>(hl i hi).1,fun i hi=> ?_⟩
    ·have:=(hl i hi).1
     rw[Di hi] at this ⊢
     exact U0 this
    ·have:=(hc i hi).1
     rw[Di hi] at this ⊢
     exact U0 this
    ·have:=hr i hi
     rw[Di hi] at this ⊢
     unfold ref1 at this
     unfold refD
     simp only[Bool.or_eq_true] at this ⊢
     refine this.imp id fun h=> ?_
     split at h
     ·cases h
     ·rename_i k hk
      obtain⟨hkl,e⟩:=Df hk
      have:=(hc k hkl).1
      rw[Di hkl,e] at this
      exact U0 this
    ·have h5:=(hc i hi).1
     have h6:=hr i hi
     rw[Di hi] at h5 h6 ⊢
     rw[celK,h5,h6];rfl
theorem Aa1 {l:List Cell} {k:List Int} (h:Lz l k=true):l.Pairwise fun a b=>Bq a.dot b.dot=true:=by
 simp only[Lz,Bool.and_eq_true,Dq,celP] at h
 exact Ta (lt:=Cl) (fun a b c h1 h2=>Hj h1 h2) fun i hi=>(h.1 i hi).2.2
theorem Acq {l:List Live} {k:List Int} (h:Ly l k=true):l.Pairwise fun a b=>Bq a.dot b.dot=true:=by
 simp only[Ly,Bool.and_eq_true,Dq,livP] at h
 exact Ta (lt:=Br) (fun a b c h1 h2=>Hj h1 h2) fun i hi=>(h.1 i hi).2.2
def plc:Nat→List Cell→List (Dot×Int)
 |_,[]=>[]
 |n,c::l=>(c.dot,(n:Int))::plc (n+1) l
theorem A01 (c:Cell):∀(n:Nat) (l:List Cell),plc n (l++[c])=plc n l++[(c.dot,((n+l.length:Nat):Int))]
 |n,[]=>rfl
 |n,x::l=>by
  simp only[List.cons_append,plc,A01 c (n+1) l,List.length_cons]
  rw[show n+1+l.length=n+(l.length+1) by omega]
theorem Nl (d:Dot):∀(n:Nat) (l:List Cell),J0 (plc n l) d=(Cm l d).map fun k=>((n+k:Nat):Int)
 |n,[]=>rfl
 |n,x::l=>by
  have ih:=Nl d (n+1) l
  unfold Cm at*
  rw[List.findIdx?_cons]
  by_cases h:x.dot=d
  ·subst h;simp[plc,J0]
  ·have h':d≠x.dot:=fun e=>h e.symm
   have e:J0 (plc n (x::l)) d=J0 (plc (n+1) l) d:=by simp[plc,J0,h']
   rw[e,ih]
   simp only[h,decide_false,Bool.false_eq_true,if_false,Option.map_map]
   congr 1
   funext k
   simp only[Function.comp]
   omega
theorem Aa2 {l:List Cell} (h:l.Pairwise fun a b=>Bq a.dot b.dot=true) {i:Nat} (hi:i<l.length):J0 (plc 0 (l.take i)) l[i].dot=none:=by
 rw[Nl]
 have:Cm (l.take i) l[i].dot=none:=by
  unfold Cm
  rw[List.findIdx?_eq_none_iff]
  intro c hc
  obtain⟨j,hj,rfl⟩:=List.getElem_of_mem hc
  rw[List.length_take] at hj
  rw[List.getElem_take]
  have:=List.pairwise_iff_getElem.1 h j i (by omega) hi (by omega)
  simp only[decide_eq_false_iff_not]
  intro e
  rw[e,Nk] at this;cases this
 rw[this];rfl
theorem Acr {l:List Cell} {i:Nat} (hi:i<l.length):plc 0 (l.take (i+1))=plc 0 (l.take i)++[(l[i].dot,(i:Int))]:=by
 rw[Ag hi,A01,List.length_take,show 0+min i l.length=i by omega]
def Cj (l:List Cell) (d:Dot):Int:=match Cm l d with
 |some k=>k
 |none=> -1
theorem A5b {l:List Cell} {d:Dot} {i:Nat} (hi:i<l.length) (h:∀ j (hj:j<i),(l[j]'(by omega)).dot≠d) (he:l[i].dot=d):Cm l d=some i:=by
 unfold Cm
 rw[List.findIdx?_eq_some_iff_getElem]
 exact⟨hi,by simpa using he,fun j hj=>by simpa using h j hj⟩
theorem A5c {l:List Cell} {d:Dot} (h:∀ j (hj:j<l.length),l[j].dot≠d):Cm l d=none:=by
 unfold Cm
 rw[List.findIdx?_eq_none_iff]
 intro c hc
 obtain⟨j,hj,rfl⟩:=List.getElem_of_mem hc
 simpa using h j hj
end
section
open Go Go.RowKit
def crs (c v:GV) (n:Nat):Thg:=⟨fun σ fp=>∃ g i h,c= .ptr g 0∧fp=[g]∧i≤n∧bk σ g=some (.row 1 [v,gi (i:Nat),gi h]),fun⟨g,i,h,h1,h2,h3,h4⟩ hf=>⟨g,i,h,h1,h2,h3,by rw[hf g (by rw[h2];exact List.mem_cons_self)];exact h4⟩⟩
theorem bk_set {σ:St} {g z:Nat} {cs cs':List GV} (hB:bk σ g=some (.row z cs)):bk (σ.set g (some (.row z cs'))) g=some (.row z cs'):=Bg.2 (by rw[List.getElem?_set_self (A7p hB)])
@[go_sem] theorem bit_tup2 {l:List GV}:(GV.tup l).bit=none:=(rfl)
theorem U2 {P:Program} {D:Bool} {os:List Op1}:∀ {K:Env→St→Prop} {env:Env} {σ:St},Af D P os K env σ→Af D P os (fun env' σ'=>K env' σ'∧σ.length≤σ'.length) env σ:=by
 induction os with
 |nil=>intro K env σ h;exact⟨h,Nat.le_refl _⟩
 |cons o r ih=>
  intro K env σ h
  simp only[Af] at h ⊢
  split at h
  ·rename_i hw
   rw[if_pos hw]
   obtain⟨v,σ',hs,hp,hk⟩:=h
   refine⟨v,σ',hs,hp,By (ih hk) fun env' σ1 hq=>⟨hq.1,?_⟩⟩
   have:=T2 hs
   omega
  ·rename_i hw
   rw[if_neg hw]
   exact ih h
theorem vc_len {P:Program} {d:Cd}:∀ {Q:Ex→Env→St→Prop} {env:Env} {σ:St},vc P d Q env σ→vc P d (fun e env' σ'=>Q e env' σ'∧σ.length≤σ'.length) env σ:=by
 induction d with
 |skip=>intro Q env σ h;exact⟨h,Nat.le_refl _⟩
 |reg ops=>intro Q env σ h;exact U2 h
 |drw xs ys=>
  intro Q env σ h
  refine By (U2 h) fun env1 σ1 h1=>By (U2 h1.1) fun env2 σ2 h2=>⟨h2.1,?_⟩
  have:=h1.2
  have:=h2.2
  omega
 |seq a b iha ihb=>
  intro Q env σ h
  refine B6 (d:=a) (iha h) fun e env1 σ1 he=> ?_
  cases e with
  |nxt=>exact B6 (ihb he.1) fun e env2 σ2 h2=>⟨h2.1,Nat.le_trans he.2 h2.2⟩
  |ext j=>exact he
  |ret=>exact he
 |cnd c a b iha ihb=>
  intro Q env σ h
  obtain⟨t,ht,h1,h2⟩:=h
  exact⟨t,ht,fun e=>iha (h1 e),fun e=>ihb (h2 e)⟩
 |blk id a ih=>
  intro Q env σ h
  refine B6 (d:=a) (ih h) fun e env1 σ1 he=> ?_
  cases e with
  |nxt=>exact he
  |ext j=>
   obtain⟨h1,h2⟩:=he
   simp only at h1 ⊢
   split at h1
   ·rename_i hj;rw[if_pos hj];exact⟨h1,h2⟩
   ·rename_i hj;rw[if_neg hj];exact⟨h1,h2⟩
  |ret=>exact he
 |lop a ih=>
  intro Q env σ h
  obtain⟨I,μ,hI,hs⟩:=h
  refine⟨fun env1 σ1=>I env1 σ1∧σ.length≤σ1.length,μ,⟨hI,Nat.le_refl _⟩,fun env1 σ1 hi=>B6 (ih (hs env1 σ1 hi.1)) fun e env2 σ2 he=> ?_⟩
  cases e with
  |nxt=>exact⟨⟨he.1.1,Nat.le_trans hi.2 he.2⟩,he.1.2⟩
  |ext j=>exact⟨he.1,Nat.le_trans hi.2 he.2⟩
  |ret=>exact⟨he.1,Nat.le_trans hi.2 he.2⟩
 |ext id=>intro Q env σ h;exact⟨h,Nat.le_refl _⟩
 |ret=>intro Q env σ h;exact⟨h,Nat.le_refl _⟩
theorem A2l {P:Program} {f:Nat} {F:Fn1} {args:List GV} {σ:St} {Post:GV→St→Prop} (hF:A8 P f=some F) (hl:args.length≤F.n)
  (h:vc P F.c (fun e env τ=>Tm e=true∧∃ r,resG env τ F.rs=some r∧Post r τ) (env0 args) σ):∃ r τ,Ret P f args σ r τ∧Post r τ:=
 Bw hF hl (B6 (vc_len h) fun e env τ he=>⟨he.1.1,by obtain⟨⟨_,r,h1,h2⟩,h3⟩:=he;exact⟨r,h1,h3,h2⟩⟩)
theorem Hp.crs {σ τ:St} {rs:List Thg} (H:Hp σ τ rs) {k:Nat} {c v:GV} {n:Nat} (hk:rs[k]? =some (crs c v n)):∃(g i:Nat) (h:Int),c= .ptr g 0∧i≤n∧bk τ g=some (.row 1 [v,gi i,gi h])∧∀(i':Nat) (h':Int),i'≤n→Hp σ (τ.set g (some (.row 1 [v,gi i',gi h']))) rs:=by
 obtain⟨a,⟨g,i,h,rfl,rfl,hi,hB⟩,hnd,hbd,ht⟩:=(H.pick k hk).turn
 refine⟨g,i,h,rfl,hi,hB,fun i' h' hi'=> ?_⟩
 have:=Hp.unpick (i:=k) (ht (τ':=τ.set g (some (.row 1 [v,gi i',gi h']))) (r':=Sy.crs (.ptr g 0) v n) (a':=[g]) ⟨by simp,fun g' h=>.inl h,by simp,fun g' h h'=>Eu fun e=>h' (by rw[e];exact List.mem_cons_self)⟩ ⟨g,i',h',rfl,rfl,hi',bk_set hB⟩) (List.getElem?_eq_some_iff.1 hk).1
 obtain⟨h1,h2⟩:=List.getElem?_eq_some_iff.1 hk
 rw[← h2,List.set_getElem_self] at this
 exact this
end
section
open Go Go.RowKit
abbrev Kh:Nat:=230
def Ki:Fn1:=⟨6,[.t 2],(rg [oV 2 kf] (rg [oM 3 0,oM 4 0,oB 5 .neq 3 4,oM 2 5] .ret))⟩
theorem Sd:A8 Tryz.prog Kh=some Ki:=by kernel_rfl
abbrev Hy:Nat:=392
def Hz:Fn1:=⟨6,[.t 2],(rg [oV 2 kf] (rg [oM 3 0,oM 4 0,oB 5 .neq 3 4,oM 2 5] .ret))⟩
theorem Mp:A8 Tryz.prog Hy=some Hz:=by kernel_rfl
abbrev Ig:Nat:=106
def Ih:Fn1:=⟨20,[.t 4],(rg [oV 4 (ki 0)] (rg [oM 7 0,oC 8 230 7,oM 5 8] (rg [oM 9 1,oC 10 230 9,oM 6 10] (.seq (rg [oM 11 5] (.cnd (.t 11) (.seq (rg [oM 12 6] (.cnd (.t 12) (rg [oV 4 (ki 0)] .ret) .skip)) (rg [o 4 (.mov (ki (-1)))] .ret)) .skip)) (.seq (rg [oM 13 6] (.cnd (.t 13) (rg [oV 4 (ki 1)] .ret) .skip)) (.seq (rg [oM 14 0,oM 15 1,oB 16 .lss 14 15] (.cnd (.t 16) (rg [o 4 (.mov (ki (-1)))] .ret) .skip)) (.seq (rg [oM 17 0,oM 18 1,oB 19 .gtr 17 18] (.cnd (.t 19) (rg [oV 4 (ki 1)] .ret) .skip)) (rg [oV 4 (ki 0)] .ret))))))))⟩
theorem Nm:A8 Tryz.prog Ig=some Ih:=by kernel_rfl
abbrev Gj:Nat:=376
def Gk:Fn1:=⟨20,[.t 4],(rg [oV 4 (ki 0)] (rg [oM 7 0,oC 8 392 7,oM 5 8] (rg [oM 9 1,oC 10 392 9,oM 6 10] (.seq (rg [oM 11 5] (.cnd (.t 11) (.seq (rg [oM 12 6] (.cnd (.t 12) (rg [oV 4 (ki 0)] .ret) .skip)) (rg [o 4 (.mov (ki (-1)))] .ret)) .skip)) (.seq (rg [oM 13 6] (.cnd (.t 13) (rg [oV 4 (ki 1)] .ret) .skip)) (.seq (rg [oM 14 0,oM 15 1,oB 16 .lss 14 15] (.cnd (.t 16) (rg [o 4 (.mov (ki (-1)))] .ret) .skip)) (.seq (rg [oM 17 0,oM 18 1,oB 19 .gtr 17 18] (.cnd (.t 19) (rg [oV 4 (ki 1)] .ret) .skip)) (rg [oV 4 (ki 0)] .ret))))))))⟩
theorem Kj:A8 Tryz.prog Gj=some Gk:=by kernel_rfl
abbrev Qq:Nat:=105
def Qr:Fn1:=⟨18,[.t 2],(rg [oV 2 (ki 0)] (rg [oV 3 (ki 0)] (.seq (rg [oM 6 0,oN 7 6,oV 8 (ki 0)] (.blk 0 (.lop (rg [oB 9 .lss 8 7] (.seq (.cnd (.t 9) .skip (.ext 0)) (.seq (.blk 1 (rg [oI 10 1 6 8,oL 11 10,oM 5 11] (rg [oM 12 5,oM 13 3,oB 14 .neq 12 13] (.cnd (.t 14) (rg [oM 15 5,oM 2 15] .ret) .skip)))) (.reg [oZ 16 8 1,oM 8 16]))))))) (rg [oM 17 3,oM 2 17] .ret))))⟩
theorem A02:A8 Tryz.prog Qq=some Qr:=by kernel_rfl
abbrev Kk:Nat:=306
def Kl:Fn1:=⟨17,[.t 4],(rg [oX 2 0,oX 3 1,oV 4 (ki 0)] (.seq (.drw [oF 5 0 2,oL 6 5,oF 7 0 3,oL 8 7,oD 9 106 6 8,oF 10 1 2,oL 11 10,oF 12 1 3,oL 13 12] [oD 14 106 11 13,o 15 (.lit 1 2 [z0,z0] [(0,1,(.t 9)),(1,1,(.t 14))]),oC 16 105 15,oM 4 16]) .ret))⟩
theorem Se:A8 Tryz.prog Kk=some Kl:=by kernel_rfl
abbrev Bz:Nat:=324
def I0:Fn1:=⟨17,[.t 4],(rg [oX 2 0,oX 3 1,oV 4 (ki 0)] (.seq (.drw [oF 5 0 2,oL 6 5,oF 7 0 3,oL 8 7,oD 9 376 6 8,oF 10 1 2,oL 11 10,oF 12 1 3,oL 13 12] [oD 14 106 11 13,o 15 (.lit 1 2 [z0,z0] [(0,1,(.t 9)),(1,1,(.t 14))]),oC 16 105 15,oM 4 16]) .ret))⟩
theorem Mq:A8 Tryz.prog Bz=some I0:=by kernel_rfl
abbrev Nn:Nat:=362
def No:Fn1:=⟨24,[.t 4],(rg [oX 2 0,oX 3 1,oV 4 kf] (rg [oF 5 0 2,oL 6 5,oF 7 0 3,oL 8 7,oB 9 .lss 6 8,oM 10 9,og 11 10 false (.fad 0 (.t 2)),og 12 10 false (.ld false 1 (.t 11)),og 13 10 false (.fad 0 (.t 3)),og 14 10 false (.ld false 1 (.t 13)),og 15 10 false (.bin .eql (.t 12) (.t 14)),og 16 10 false (.mov (.t 15)),og 17 16 true (.fad 1 (.t 2)),og 18 16 true (.ld false 1 (.t 17)),og 19 16 true (.fad 1 (.t 3)),og 20 16 true (.ld false 1 (.t 19)),og 21 16 true (.bin .lss (.t 18) (.t 20)),og 22 10 false (.pick (.t 16) (.t 21) kf),o 23 (.pick (.t 10) kt (.t 22)),oM 4 23] .ret))⟩
theorem Ww:A8 Tryz.prog Nn=some No:=by kernel_rfl
theorem Ii (σ:St) (a:Int):Ret Tryz.prog Kh [gi a] σ (.bool false) σ:=by
 refine Al Sd (Z0z rfl) trivial ?_
 simp +contextual (disch:=omega) only[go_sem,Ki,bne_self_eq_false]
theorem Gl (σ:St) (a:ByteArray):Ret Tryz.prog Hy [.str a] σ (.bool false) σ:=by
 refine Al Mp (Z0z rfl) trivial ?_
 simp +contextual (disch:=omega) only[go_sem,Hz,decide_true,Bool.not_true]
theorem Dg (σ:St) (a b:Int):Ret Tryz.prog Ig [gi a,gi b] σ (gi (cmpI a b)) σ:=by
 refine Al Nm (Z0z rfl) trivial ?_
 simp +contextual (disch:=omega) only[go_sem,Ih]
 refine Ac (Ii _ _) ?_
 simp +contextual (disch:=omega) only[go_sem]
 refine Ac (Ii _ _) ?_
 simp +contextual (disch:=omega) only[go_sem]
 unfold cmpI
 grind
theorem Jq (σ:St) (a b:ByteArray):Ret Tryz.prog Gj [.str a,.str b] σ (gi (cmpS a b)) σ:=by
 refine Al Kj (Z0z rfl) trivial ?_
 simp +contextual (disch:=omega) only[go_sem,Gk]
 refine Ac (Gl _ _) ?_
 simp +contextual (disch:=omega) only[go_sem]
 refine Ac (Gl _ _) ?_
 simp +contextual (disch:=omega) only[go_sem]
 unfold cmpS
 grind
def orL:List Int→Int
 |[]=>0
 |x::l=>if x=0 then orL l else x
theorem I8 (σ:St) (v:GV) (l:List Int) (h:RS pI.kd σ v l) (hl:l.length≤1099511627776):Ret Tryz.prog Qq [v] σ (gi (orL l)) σ:=by
 refine Al A02 (Z0z rfl) trivial ?_
 simp +contextual (disch:=omega) only[go_sem,Qr,h.len]
 refine B4 l.length 8 (fun i env τ=>env 3=gi 0∧env 6=v∧env 7=gi l.length∧orL (l.drop i)=orL l∧σ <+: τ) rfl ⟨rfl,rfl,rfl,rfl,List.prefix_refl _⟩ ?_ ?_
 ·rintro i env τ hi e8 c0 ⟨e3,e6,e7,hd,hp⟩
  rw[List.drop_eq_getElem_cons hi,orL] at hd
  simp +contextual (disch:=omega) only[go_sem,c0,e3,e6,e7,e8,Db (h.pre hp) hi,hp]
  grind
 ·rintro env τ e8 c0 ⟨e3,e6,e7,hd,hp⟩
  rw[List.drop_length] at hd
  simp +contextual (disch:=omega) only[go_sem,c0,e3,e6,e7,e8,hp]
  rw[← hd];rfl
theorem A5d (a b:Int):orL [a,b]=orI a b:=by
 unfold orI
 simp only[orL]
 split
 ·split
  ·omega
  ·rfl
 ·rfl
theorem Cg (σ:St) (a b:Dot):Ret Tryz.prog Kk [.agg [gi a.rep,gi a.seq],.agg [gi b.rep,gi b.seq]] σ (gi (If a b)) σ:=by
 refine Al Se (Z0z rfl) trivial ?_
 simp +contextual (disch:=omega) only[go_sem,Kl]
 refine Ac (Dg _ _ _) ?_
 simp +contextual (disch:=omega) only[go_sem]
 refine Ac (Dg _ _ _) ?_
 simp +contextual (disch:=omega) only[go_sem]
 refine Ac (I8 _ _ [cmpI a.rep b.rep,cmpI a.seq b.seq] (A9u (p:=pI) _ _ rfl rfl rfl) (by simp)) ?_
 simp +contextual (disch:=omega) only[go_sem,A5d]
 rfl
theorem Gm (σ:St) (a b:Tally):Ret Tryz.prog Bz [.agg [.str a.obj,gi a.rep,gi a.sum],.agg [.str b.obj,gi b.rep,gi b.sum]] σ (gi (J4 a b)) σ:=by
 refine Al Mq (Z0z rfl) trivial ?_
 simp +contextual (disch:=omega) only[go_sem,I0]
 refine Ac (Jq _ _ _) ?_
 simp +contextual (disch:=omega) only[go_sem]
 refine Ac (Dg _ _ _) ?_
 simp +contextual (disch:=omega) only[go_sem]
 refine Ac (I8 _ _ [cmpS a.obj b.obj,cmpI a.rep b.rep] (A9u (p:=pI) _ _ rfl rfl rfl) (by simp)) ?_
 simp +contextual (disch:=omega) only[go_sem,A5d]
 rfl
theorem D9 (σ:St) (a b:Dot):Ret Tryz.prog Nn [.agg [gi a.rep,gi a.seq],.agg [gi b.rep,gi b.seq]] σ (.bool (Bq a b)) σ:=by
 refine Al Ww (Z0z rfl) trivial ?_
 simp +contextual (disch:=omega) only[go_sem,No]
 unfold Bq
 grind
end
section
open Go Go.RowKit
abbrev M0:Nat:=290
def M2:Fn1:=⟨69,[.t 2],(rg [oV 2 kf] (.seq (rg [oV 3 (ki 0)] (.blk 0 (.lop (.seq (rg [oM 5 3,oM 6 0,oN 7 6,oB 8 .lss 5 7] (.cnd (.t 8) .skip (.ext 0))) (.seq (.blk 1 (rg [oM 11 0,oM 12 3,oI 13 3 11 12,oW 14 3 13,o 4 (.new [(.str ⟨#[]⟩),z0,z0]),oS 3 4 14] (.seq (rg [oF 15 0 4,oL 16 15,oC 17 348 16,oU 18 17,oM 19 18,og 20 19 false (.fad 1 (.t 4)),og 21 19 false (.ld false 1 (.t 20)),og 22 19 false (.call 122 [(.t 21),(ki 0),(ki 2)]),og 23 19 false (.un .not (.t 22)),o 24 (.pick (.t 19) kt (.t 23)),oM 25 24,og 26 25 false (.fad 2 (.t 4)),og 27 25 false (.ld false 1 (.t 26)),og 28 25 false (.call 122 [(.t 27),(ki 0),(ki 999999)]),og 29 25 false (.un .not (.t 28)),o 30 (.pick (.t 25) kt (.t 29))] (.cnd (.t 30) (rg [oV 2 kf] .ret) .skip)) (.seq (.drw [oM 31 3,o 32 (.bin .gtr (.t 31) (ki 0)),oM 33 32,og 34 33 true (.mov (.t 0)),og 35 33 true (.mov (.t 3)),og 36 33 true (.bin .sub (.t 35) (ki 1)),og 37 33 true (.iad 3 (.t 34) (.t 36)),og 38 33 true (.fad 0 (.t 37)),og 39 33 true (.ld false 1 (.t 38)),og 40 33 true (.fad 0 (.t 4)),og 41 33 true (.ld false 1 (.t 40)),og 42 33 true (.bin .gtr (.t 39) (.t 41)),og 43 33 true (.mov (.t 42)),og 44 43 false (.mov (.t 0)),og 45 43 false (.mov (.t 3)),og 46 43 false (.bin .sub (.t 45) (ki 1)),og 47 43 false (.iad 3 (.t 44) (.t 46)),og 48 43 false (.fad 0 (.t 47)),og 49 43 false (.ld false 1 (.t 48)),og 50 43 false (.fad 0 (.t 4)),og 51 43 false (.ld false 1 (.t 50)),og 52 43 false (.bin .eql (.t 49) (.t 51)),og 53 43 false (.mov (.t 52)),og 54 53 true (.mov (.t 0)),og 55 53 true (.mov (.t 3)),og 56 53 true (.bin .sub (.t 55) (ki 1)),og 57 53 true (.iad 3 (.t 54) (.t 56)),og 58 53 true (.fad 1 (.t 57)),og 59 53 true (.ld false 1 (.t 58)),og 60 53 true (.fad 1 (.t 4)),og 61 53 true (.ld false 1 (.t 60))] [og 62 53 true (.bin .geq (.t 59) (.t 61)),og 63 43 false (.pick (.t 53) (.t 62) kf),og 64 33 true (.pick (.t 43) kt (.t 63)),o 65 (.pick (.t 33) (.t 64) kf)]) (.cnd (.t 65) (rg [oV 2 kf] .ret) .skip))))) (.reg [oM 9 3,oZ 10 9 1,oM 3 10])))))) (rg [oM 66 0,oN 67 66,o 68 (.bin .leq (.t 67) (ki 120)),oM 2 68] .ret)))⟩
theorem U3:A8 Tryz.prog M0=some M2:=by kernel_rfl
abbrev Np:Nat:=285
def Nq:Fn1:=⟨46,[.t 2],(rg [oV 2 kf] (.seq (rg [oM 5 0,oN 6 5,oV 7 (ki 0)] (.blk 0 (.lop (rg [oB 8 .lss 7 6] (.seq (.cnd (.t 8) .skip (.ext 0)) (.seq (.blk 1 (rg [oM 9 7,oI 10 3 5 7,oW 11 3 10,o 4 (.new [(.str ⟨#[]⟩),z0,z0]),oM 3 9,oS 3 4 11] (.seq (.drw [oF 12 0 4,oL 13 12,oC 14 341 13,oU 15 14,oM 16 15,og 17 16 false (.fad 1 (.t 4)),og 18 16 false (.ld false 1 (.t 17)),og 19 16 false (.call 236 [(.t 18),(ki 0),(ki 2)]),og 20 16 false (.un .not (.t 19)),o 21 (.pick (.t 16) kt (.t 20)),oM 22 21,og 23 22 false (.fad 2 (.t 4)),og 24 22 false (.ld false 1 (.t 23)),og 25 22 false (.call 236 [(.t 24),(ki 0),(ki 999999)]),og 26 22 false (.un .not (.t 25)),o 27 (.pick (.t 22) kt (.t 26)),oM 28 27,og 29 28 false (.mov (.t 3)),og 30 28 false (.bin .gtr (.t 29) (ki 0)),og 31 28 false (.mov (.t 30)),og 32 31 true (.mov (.t 0)),og 33 31 true (.mov (.t 3)),og 34 31 true (.bin .sub (.t 33) (ki 1)),og 35 31 true (.iad 3 (.t 32) (.t 34)),og 36 31 true (.ld true 3 (.t 35)),og 37 31 true (.ld true 3 (.t 4))] [og 38 31 true (.call 324 [(.t 36),(.t 37)]),og 39 31 true (.bin .geq (.t 38) (ki 0)),og 40 28 false (.pick (.t 31) (.t 39) kf),o 41 (.pick (.t 28) kt (.t 40))]) (.cnd (.t 41) (rg [oV 2 kf] .ret) .skip)))) (.reg [oZ 42 7 1,oM 7 42]))))))) (rg [oM 43 0,oN 44 43,o 45 (.bin .leq (.t 44) (ki 120)),oM 2 45] .ret)))⟩
theorem Wx:A8 Tryz.prog Np=some Nq:=by kernel_rfl
abbrev Qs:Nat:=291
def Qt:Fn1:=⟨66,[.t 2],(rg [oV 2 kf] (.seq (rg [oV 3 (ki 0)] (.blk 0 (.lop (.seq (rg [oM 5 3,oM 6 0,oN 7 6,oB 8 .lss 5 7] (.cnd (.t 8) .skip (.ext 0))) (.seq (.blk 1 (rg [oM 11 0,oM 12 3,oI 13 6 11 12,oW 14 6 13,o 4 (.new [(.bool false),(.str ⟨#[]⟩),(.str ⟨#[]⟩),z0,z0,z0]),oS 6 4 14] (.seq (.drw [oF 15 4 4,oW 16 2 15,oC 17 168 16,oU 18 17,oM 19 18,og 20 19 false (.fad 1 (.t 4)),og 21 19 false (.ld false 1 (.t 20)),og 22 19 false (.call 348 [(.t 21)]),og 23 19 false (.un .not (.t 22)),o 24 (.pick (.t 19) kt (.t 23)),oM 25 24,og 26 25 false (.fad 2 (.t 4)),og 27 25 false (.ld false 1 (.t 26)),og 28 25 false (.call 348 [(.t 27)]),og 29 25 false (.un .not (.t 28)),o 30 (.pick (.t 25) kt (.t 29)),oM 31 30,og 32 31 false (.fad 3 (.t 4)),og 33 31 false (.ld false 1 (.t 32)),og 34 31 false (.call 122 [(.t 33),(ki 0),(ki 999999)]),og 35 31 false (.un .not (.t 34)),o 36 (.pick (.t 31) kt (.t 35)),oM 37 36,og 38 37 false (.fad 0 (.t 4)),og 39 37 false (.ld false 1 (.t 38)),og 40 37 false (.un .not (.t 39)),og 41 37 false (.mov (.t 40)),og 42 41 true (.fad 3 (.t 4)),og 43 41 true (.ld false 1 (.t 42)),og 44 41 true (.bin .neq (.t 43) (ki 0)),og 45 37 false (.pick (.t 41) (.t 44) kf),o 46 (.pick (.t 37) kt (.t 45)),oM 47 46,og 48 47 false (.mov (.t 3)),og 49 47 false (.bin .gtr (.t 48) (ki 0)),og 50 47 false (.mov (.t 49)),og 51 50 true (.mov (.t 0)),og 52 50 true (.mov (.t 3)),og 53 50 true (.bin .sub (.t 52) (ki 1)),og 54 50 true (.iad 6 (.t 51) (.t 53)),og 55 50 true (.fad 4 (.t 54)),og 56 50 true (.ld true 2 (.t 55)),og 57 50 true (.fad 4 (.t 4)),og 58 50 true (.ld true 2 (.t 57))] [og 59 50 true (.call 362 [(.t 56),(.t 58)]),og 60 50 true (.un .not (.t 59)),og 61 47 false (.pick (.t 50) (.t 60) kf),o 62 (.pick (.t 47) kt (.t 61))]) (.cnd (.t 62) (rg [oV 2 kf] .ret) .skip)))) (.reg [oM 9 3,oZ 10 9 1,oM 3 10])))))) (rg [oM 63 0,oN 64 63,o 65 (.bin .leq (.t 64) (ki 120)),oM 2 65] .ret)))⟩
theorem A03:A8 Tryz.prog Qs=some Qt:=by kernel_rfl
abbrev U4:Nat:=286
def U5:Fn1:=⟨65,[.t 4],(rg [oV 4 kf] (.seq (rg [oM 7 0,oN 8 7,oV 9 (ki 0)] (.blk 0 (.lop (rg [oB 10 .lss 9 8] (.seq (.cnd (.t 10) .skip (.ext 0)) (.seq (.blk 1 (rg [oM 11 9,oI 12 6 7 9,oW 13 6 12,o 6 (.new [(.bool false),(.str ⟨#[]⟩),(.str ⟨#[]⟩),z0,z0,z0]),oM 5 11,oS 6 6 13] (.seq (rg [oM 14 1,oF 15 4 6,oW 16 2 15,oD 17 170 14 16,oU 18 17,oM 19 18,og 20 19 false (.fad 1 (.t 6)),og 21 19 false (.ld false 1 (.t 20)),og 22 19 false (.call 341 [(.t 21)]),og 23 19 false (.un .not (.t 22)),o 24 (.pick (.t 19) kt (.t 23)),oM 25 24,og 26 25 false (.fad 2 (.t 6)),og 27 25 false (.ld false 1 (.t 26)),og 28 25 false (.call 341 [(.t 27)]),og 29 25 false (.un .not (.t 28)),o 30 (.pick (.t 25) kt (.t 29)),oM 31 30,og 32 31 false (.fad 3 (.t 6)),og 33 31 false (.ld false 1 (.t 32)),og 34 31 false (.call 236 [(.t 33),(ki 0),(ki 999999)]),og 35 31 false (.un .not (.t 34)),o 36 (.pick (.t 31) kt (.t 35)),oM 37 36,og 38 37 false (.fad 0 (.t 6)),og 39 37 false (.ld false 1 (.t 38)),og 40 37 false (.un .not (.t 39)),og 41 37 false (.mov (.t 40)),og 42 41 true (.fad 3 (.t 6)),og 43 41 true (.ld false 1 (.t 42)),og 44 41 true (.bin .neq (.t 43) (ki 0)),og 45 37 false (.pick (.t 41) (.t 44) kf),o 46 (.pick (.t 37) kt (.t 45))] (.cnd (.t 46) (rg [oV 4 kf] .ret) .skip)) (.seq (.drw [oM 47 5,o 48 (.bin .gtr (.t 47) (ki 0)),oM 49 48,og 50 49 true (.mov (.t 0)),og 51 49 true (.mov (.t 5)),og 52 49 true (.bin .sub (.t 51) (ki 1)),og 53 49 true (.iad 6 (.t 50) (.t 52)),og 54 49 true (.fad 4 (.t 53)),og 55 49 true (.ld true 2 (.t 54)),og 56 49 true (.fad 4 (.t 6)),og 57 49 true (.ld true 2 (.t 56))] [og 58 49 true (.call 306 [(.t 55),(.t 57)]),og 59 49 true (.bin .geq (.t 58) (ki 0)),o 60 (.pick (.t 49) (.t 59) kf)]) (.cnd (.t 60) (rg [oV 4 kf] .ret) .skip))))) (.reg [oZ 61 9 1,oM 9 61]))))))) (rg [oM 62 0,oN 63 62,o 64 (.bin .leq (.t 63) (ki 120)),oM 4 64] .ret)))⟩
theorem A2m:A8 Tryz.prog U4=some U5:=by kernel_rfl
abbrev Qu:Nat:=292
def Qv:Fn1:=⟨68,[.t 2],(rg [oV 2 kf] (.seq (rg [oV 3 (ki 0)] (.blk 0 (.lop (.seq (rg [oM 5 3,oM 6 0,oN 7 6,oB 8 .lss 5 7] (.cnd (.t 8) .skip (.ext 0))) (.seq (.blk 1 (rg [oM 11 0,oM 12 3,oI 13 8 11 12,oW 14 8 13,o 4 (.new [(.str ⟨#[]⟩),z0,z0,z0,z0,z0,z0,(.bool false)]),oS 8 4 14] (.seq (.drw [oF 15 1 4,oW 16 2 15,oC 17 168 16,oU 18 17,oM 19 18,og 20 19 false (.fad 0 (.t 4)),og 21 19 false (.ld false 1 (.t 20)),og 22 19 false (.call 348 [(.t 21)]),og 23 19 false (.un .not (.t 22)),o 24 (.pick (.t 19) kt (.t 23)),oM 25 24,og 26 25 false (.fad 3 (.t 4)),og 27 25 false (.ld false 1 (.t 26)),og 28 25 false (.call 122 [(.t 27),(ki 1),(ki 10000)]),og 29 25 false (.un .not (.t 28)),o 30 (.pick (.t 25) kt (.t 29)),oM 31 30,og 32 31 false (.fad 6 (.t 4)),og 33 31 false (.ld false 1 (.t 32)),og 34 31 false (.call 122 [(.t 33),(ki 0),(ki 999999)]),og 35 31 false (.un .not (.t 34)),o 36 (.pick (.t 31) kt (.t 35)),oM 37 36,og 38 37 false (.fad 4 (.t 4)),og 39 37 false (.ld true 2 (.t 38)),og 40 37 false (.build [z0,z0] []),og 41 37 false (.eqs true [.i .i64,.i .i64] (.t 39) (.t 40)),og 42 37 false (.mov (.t 41)),og 43 42 true (.fad 4 (.t 4)),og 44 42 true (.ld true 2 (.t 43)),og 45 42 true (.call 168 [(.t 44)]),og 46 42 true (.un .not (.t 45)),og 47 37 false (.pick (.t 42) (.t 46) kf),o 48 (.pick (.t 37) kt (.t 47)),oM 49 48,og 50 49 false (.mov (.t 3)),og 51 49 false (.bin .gtr (.t 50) (ki 0)),og 52 49 false (.mov (.t 51)),og 53 52 true (.mov (.t 0)),og 54 52 true (.mov (.t 3)),og 55 52 true (.bin .sub (.t 54) (ki 1)),og 56 52 true (.iad 8 (.t 53) (.t 55)),og 57 52 true (.fad 1 (.t 56)),og 58 52 true (.ld true 2 (.t 57)),og 59 52 true (.fad 1 (.t 4)),og 60 52 true (.ld true 2 (.t 59))] [og 61 52 true (.call 362 [(.t 58),(.t 60)]),og 62 52 true (.un .not (.t 61)),og 63 49 false (.pick (.t 52) (.t 62) kf),o 64 (.pick (.t 49) kt (.t 63))]) (.cnd (.t 64) (rg [oV 2 kf] .ret) .skip)))) (.reg [oM 9 3,oZ 10 9 1,oM 3 10])))))) (rg [oM 65 0,oN 66 65,o 67 (.bin .leq (.t 66) (ki 120)),oM 2 67] .ret)))⟩
theorem A04:A8 Tryz.prog Qu=some Qv:=by kernel_rfl
abbrev U6:Nat:=287
def U7:Fn1:=⟨55,[.t 4],(rg [oV 4 kf] (.seq (rg [oM 7 0,oN 8 7,oV 9 (ki 0)] (.blk 0 (.lop (rg [oB 10 .lss 9 8] (.seq (.cnd (.t 10) .skip (.ext 0)) (.seq (.blk 1 (rg [oM 11 9,oI 12 8 7 9,oW 13 8 12,o 6 (.new [(.str ⟨#[]⟩),z0,z0,z0,z0,z0,z0,(.bool false)]),oM 5 11,oS 8 6 13] (.seq (rg [oM 14 1,oF 15 1 6,oW 16 2 15,oD 17 170 14 16,oU 18 17,oM 19 18,og 20 19 false (.fad 0 (.t 6)),og 21 19 false (.ld false 1 (.t 20)),og 22 19 false (.call 341 [(.t 21)]),og 23 19 false (.un .not (.t 22)),o 24 (.pick (.t 19) kt (.t 23)),oM 25 24,og 26 25 false (.fad 6 (.t 6)),og 27 25 false (.ld false 1 (.t 26)),og 28 25 false (.call 236 [(.t 27),(ki 0),(ki 999999)]),og 29 25 false (.un .not (.t 28)),o 30 (.pick (.t 25) kt (.t 29)),oM 31 30,og 32 31 false (.fad 3 (.t 6)),og 33 31 false (.ld false 1 (.t 32)),og 34 31 false (.call 236 [(.t 33),(ki 1),(ki 10000)]),og 35 31 false (.un .not (.t 34)),o 36 (.pick (.t 31) kt (.t 35))] (.cnd (.t 36) (rg [oV 4 kf] .ret) .skip)) (.seq (.drw [oM 37 5,o 38 (.bin .gtr (.t 37) (ki 0)),oM 39 38,og 40 39 true (.mov (.t 0)),og 41 39 true (.mov (.t 5)),og 42 39 true (.bin .sub (.t 41) (ki 1)),og 43 39 true (.iad 8 (.t 40) (.t 42)),og 44 39 true (.fad 1 (.t 43)),og 45 39 true (.ld true 2 (.t 44)),og 46 39 true (.fad 1 (.t 6)),og 47 39 true (.ld true 2 (.t 46))] [og 48 39 true (.call 306 [(.t 45),(.t 47)]),og 49 39 true (.bin .geq (.t 48) (ki 0)),o 50 (.pick (.t 39) (.t 49) kf)]) (.cnd (.t 50) (rg [oV 4 kf] .ret) .skip))))) (.reg [oZ 51 9 1,oM 9 51]))))))) (rg [oM 52 0,oN 53 52,o 54 (.bin .leq (.t 53) (ki 120)),oM 4 54] .ret)))⟩
theorem A2n:A8 Tryz.prog U6=some U7:=by kernel_rfl
theorem Ya {α:Type} {l:List α} {n:Nat}:decide ((l.length:Int)≤(n:Nat))=decide (l.length≤n):=by
 rw[Bool.eq_iff_iff];simp only[decide_eq_true_eq];omega
theorem sub1 {i:Nat} (h:0<i):(i:Int) - 1=((i - 1:Nat):Int):=by omega
theorem A5e (a b:Tally):Ah a b= !(txLt b.obj a.obj||decide (a.obj=b.obj)&&decide (b.rep≤a.rep)):=by
 unfold Ah
 by_cases h:a.obj=b.obj
 ·rw[h,Gu];rw[Bool.eq_iff_iff];simp
 ·cases h1:txLt a.obj b.obj with
  |true=>simp[h,Tw h1]
  |false=>
   cases h2:txLt b.obj a.obj with
   |true=>simp[h]
   |false=>exact absurd (J3 h1 h2) h
theorem A6q (m:Bool) (n:Int):m=true∨(m=false∧(n != 0)=false∧n=0)∨(m=false∧(n != 0)=true∧n≠0):=by
 cases m
 ·by_cases h:n=0
  ·exact .inr (.inl ⟨rfl,by simp[h],h⟩)
  ·exact .inr (.inr ⟨rfl,by simp[h],h⟩)
 ·exact .inl rfl
theorem Sf (σ:St) (v:GV) (l:List Tally) (h:RS Ab.kd σ v l) (hl:l.length≤1099511627776) (hsz:∀ x∈l,x.obj.size≤1099511627776):Ret Tryz.prog M0 [v] σ (.bool (Fb l)) σ:=by
 refine Al U3 (Z0z rfl) trivial ?_
 simp +contextual (disch:=omega) only[go_sem,M2,h.len]
 refine B4 l.length 3 (fun i env τ=>env 0=v∧(∀ j,j<i→talP l j=true)∧σ <+: τ) rfl ⟨rfl,fun j hj=>by omega,List.prefix_refl _⟩ ?_ ?_
 ·rintro i env τ hi ei c0 ⟨e0,ha,hp⟩
  have hno:talP l i=false→Fb l=false:=fun hh=>by simp[Fb,Kg hi hh]
  have hat:talP l i=((Dc l[i].obj&&(inB l[i].rep 0 2&&inB l[i].sum 0 999999))&&upI Ah l i):=by simp only[talP,tal1,Di hi]
  simp +contextual (disch:=omega) only[go_sem,c0,e0,ei,Aa (h.pre hp) hi,fun r=>Aa (h.pre (A0 hp r)) hi,h.len,A0 hp _,hp]
  refine Ap (Hs _ l[i].obj (hsz _ (List.getElem_mem hi))) (fun h0=> ?_) (fun h0=> ?_)
  rotate_left
  ·simp +contextual (disch:=omega) only[go_sem,c0,e0,ei,Aa (h.pre hp) hi,fun r=>Aa (h.pre (A0 hp r)) hi,h.len,A0 hp _,hp]
   simp[hno (by rw[hat];simp[h0])]
  simp +contextual (disch:=omega) only[go_sem,c0,e0,ei,Aa (h.pre hp) hi,fun r=>Aa (h.pre (A0 hp r)) hi,h.len,A0 hp _,hp]
  refine Ap (C6 _ _ _ _) (fun h1=> ?_) (fun h1=> ?_)
  rotate_left
  ·simp +contextual (disch:=omega) only[go_sem,c0,e0,ei,Aa (h.pre hp) hi,fun r=>Aa (h.pre (A0 hp r)) hi,h.len,A0 hp _,hp]
   simp[hno (by rw[hat];simp[h1])]
  simp +contextual (disch:=omega) only[go_sem,c0,e0,ei,Aa (h.pre hp) hi,fun r=>Aa (h.pre (A0 hp r)) hi,h.len,A0 hp _,hp]
  refine Ap (C6 _ _ _ _) (fun h2=> ?_) (fun h2=> ?_)
  rotate_left
  ·simp +contextual (disch:=omega) only[go_sem,c0,e0,ei,Aa (h.pre hp) hi,fun r=>Aa (h.pre (A0 hp r)) hi,h.len,A0 hp _,hp]
   simp[hno (by rw[hat];simp[h2])]
  simp +contextual (disch:=omega) only[go_sem,c0,e0,ei,Aa (h.pre hp) hi,fun r=>Aa (h.pre (A0 hp r)) hi,h.len,A0 hp _,hp]
  rcases Nat.eq_zero_or_pos i with hz|hz
  ·subst hz
   simp +contextual (disch:=omega) only[go_sem,Int.ofNat_zero,decide_false,Int.lt_irrefl,c0,e0,ei,Aa (h.pre hp) hi,fun r=>Aa (h.pre (A0 hp r)) hi,h.len,A0 hp _,hp]
   refine E3 ha (by rw[hat];simp[h0,h1,h2,upI])
  ·have c1:decide ((0:Int)<i)=true:=by simp;omega
   have hj:i - 1<l.length:=by omega
   have hz':i≠0:=by omega
   simp only[Lx hz' hi hj] at hat
   simp +contextual (disch:=omega) only[go_sem,c1,sub1 hz,Aa (h.pre hp) hj,fun r=>Aa (h.pre (A0 hp r)) hj,c0,e0,ei,Aa (h.pre hp) hi,fun r=>Aa (h.pre (A0 hp r)) hi,h.len,A0 hp _,hp]
   rw[A5e] at hat
   generalize txLt l[i].obj l[i-1].obj=b1 at*
   generalize decide (l[i-1].obj=l[i].obj)=b2 at*
   grind
 ·rintro env τ ei c0 ⟨e0,ha,hp⟩
  simp +contextual (disch:=omega) only[go_sem,c0,e0,ei,h.len,hp]
  simp only[Fb,Fl ha,Bool.true_and]
  exact Ya
theorem U8 (σ:St) (v:GV) (l:List Tally) (h:RS Ab.kd σ v l) (hl:l.length≤1099511627776) (hsz:∀ x∈l,x.obj.size≤1099511627776):Ret Tryz.prog Np [v] σ (.bool (Fb l)) σ:=by
 refine Al Wx (Z0z rfl) trivial ?_
 simp +contextual (disch:=omega) only[go_sem,Nq,h.len]
 refine B4 l.length 7 (fun i env τ=>env 0=v∧env 5=v∧env 6=gi l.length∧(∀ j,j<i→talP l j=true)∧σ <+: τ) rfl ⟨rfl,rfl,rfl,fun j hj=>by omega,List.prefix_refl _⟩ ?_ ?_
 ·rintro i env τ hi ei c0 ⟨e0,e5,e6,ha,hp⟩
  have hno:talP l i=false→Fb l=false:=fun hh=>by simp[Fb,Kg hi hh]
  have hat:talP l i=((Dc l[i].obj&&(inB l[i].rep 0 2&&inB l[i].sum 0 999999))&&upI Ah l i):=by simp only[talP,tal1,Di hi]
  simp +contextual (disch:=omega) only[go_sem,c0,e0,e5,e6,ei,Aa (h.pre hp) hi,fun r=>Aa (h.pre (A0 hp r)) hi,h.len,A0 hp _,hp]
  refine Ap (Ht _ l[i].obj (hsz _ (List.getElem_mem hi))) (fun h0=> ?_) (fun h0=> ?_)
  rotate_left
  ·simp +contextual (disch:=omega) only[go_sem,c0,e0,e5,e6,ei,Aa (h.pre hp) hi,fun r=>Aa (h.pre (A0 hp r)) hi,h.len,A0 hp _,hp]
   simp[hno (by rw[hat];simp[h0])]
  simp +contextual (disch:=omega) only[go_sem,c0,e0,e5,e6,ei,Aa (h.pre hp) hi,fun r=>Aa (h.pre (A0 hp r)) hi,h.len,A0 hp _,hp]
  refine Ap (Bn _ _ _ _) (fun h1=> ?_) (fun h1=> ?_)
  rotate_left
  ·simp +contextual (disch:=omega) only[go_sem,c0,e0,e5,e6,ei,Aa (h.pre hp) hi,fun r=>Aa (h.pre (A0 hp r)) hi,h.len,A0 hp _,hp]
   simp[hno (by rw[hat];simp[h1])]
  simp +contextual (disch:=omega) only[go_sem,c0,e0,e5,e6,ei,Aa (h.pre hp) hi,fun r=>Aa (h.pre (A0 hp r)) hi,h.len,A0 hp _,hp]
  refine Ap (Bn _ _ _ _) (fun h2=> ?_) (fun h2=> ?_)
  rotate_left
  ·simp +contextual (disch:=omega) only[go_sem,c0,e0,e5,e6,ei,Aa (h.pre hp) hi,fun r=>Aa (h.pre (A0 hp r)) hi,h.len,A0 hp _,hp]
   simp[hno (by rw[hat];simp[h2])]
  simp +contextual (disch:=omega) only[go_sem,c0,e0,e5,e6,ei,Aa (h.pre hp) hi,fun r=>Aa (h.pre (A0 hp r)) hi,h.len,A0 hp _,hp]
  rcases Nat.eq_zero_or_pos i with hz|hz
  ·subst hz
   simp +contextual (disch:=omega) only[go_sem,Int.ofNat_zero,decide_false,Int.lt_irrefl,c0,e0,e5,e6,ei,Aa (h.pre hp) hi,fun r=>Aa (h.pre (A0 hp r)) hi,h.len,A0 hp _,hp]
   refine E3 ha (by rw[hat];simp[h0,h1,h2,upI])
  ·have c1:decide ((0:Int)<i)=true:=by simp;omega
   have hj:i - 1<l.length:=by omega
   have hz':i≠0:=by omega
   simp only[Lx hz' hi hj] at hat
   simp +contextual (disch:=omega) only[go_sem,c1,sub1 hz,Aa (h.pre hp) hj,fun r=>Aa (h.pre (A0 hp r)) hj,c0,e0,e5,e6,ei,Aa (h.pre hp) hi,fun r=>Aa (h.pre (A0 hp r)) hi,h.len,A0 hp _,hp]
   refine Ac (Gm _ l[i-1] l[i]) ?_
   simp +contextual (disch:=omega) only[go_sem,A57,c1,sub1 hz,Aa (h.pre hp) hj,fun r=>Aa (h.pre (A0 hp r)) hj,c0,e0,e5,e6,ei,Aa (h.pre hp) hi,fun r=>Aa (h.pre (A0 hp r)) hi,h.len,A0 hp _,hp]
   cases ho:Ah l[i-1] l[i] with
   |true=>
    simp +contextual (disch:=omega) only[go_sem,c1,sub1 hz,Aa (h.pre hp) hj,fun r=>Aa (h.pre (A0 hp r)) hj,c0,e0,e5,e6,ei,Aa (h.pre hp) hi,fun r=>Aa (h.pre (A0 hp r)) hi,h.len,A0 hp _,hp]
    exact E3 ha (by rw[hat];simp[h0,h1,h2,ho])
   |false=>
    simp +contextual (disch:=omega) only[go_sem,c1,sub1 hz,Aa (h.pre hp) hj,fun r=>Aa (h.pre (A0 hp r)) hj,c0,e0,e5,e6,ei,Aa (h.pre hp) hi,fun r=>Aa (h.pre (A0 hp r)) hi,h.len,A0 hp _,hp]
    simp[hno (by rw[hat];simp[ho])]
 ·rintro env τ ei c0 ⟨e0,e5,e6,ha,hp⟩
  simp +contextual (disch:=omega) only[go_sem,c0,e0,e5,e6,ei,h.len,hp]
  simp only[Fb,Fl ha,Bool.true_and]
  exact Ya
theorem Wy (σ:St) (v:GV) (l:List Live) (h:RS Ai.kd σ v l) (hl:l.length≤1099511627776) (hsz:∀ x∈l,x.obj.size≤1099511627776∧x.key.size≤1099511627776):Ret Tryz.prog Qs [v] σ (.bool (A58 l)) σ:=by
 refine Al A03 (Z0z rfl) trivial ?_
 simp +contextual (disch:=omega) only[go_sem,Qt,h.len]
 refine B4 l.length 3 (fun i env τ=>env 0=v∧(∀ j,j<i→A7z l j=true)∧σ <+: τ) rfl ⟨rfl,fun j hj=>by omega,List.prefix_refl _⟩ ?_ ?_
 ·rintro i env τ hi ei c0 ⟨e0,ha,hp⟩
  have hno:A7z l i=false→A58 l=false:=fun hh=>by simp[A58,Kg hi hh]
  have hat:A7z l i=(G5 l[i].dot&&((Dc l[i].obj&&(Dc l[i].key&&(inB l[i].val 0 999999&&(l[i].map||decide (l[i].val=0)))))&&upI Br l i)):=by simp only[A7z,liv1,Di hi]
  simp +contextual (disch:=omega) only[go_sem,c0,e0,ei,A6 (h.pre hp) hi,fun r=>A6 (h.pre (A0 hp r)) hi,h.len,A0 hp _,hp]
  refine Ap (Hg _ l[i].dot) (fun h0=> ?_) (fun h0=> ?_)
  rotate_left
  ·simp +contextual (disch:=omega) only[go_sem,c0,e0,ei,A6 (h.pre hp) hi,fun r=>A6 (h.pre (A0 hp r)) hi,h.len,A0 hp _,hp]
   simp[hno (by rw[hat];simp[h0])]
  simp +contextual (disch:=omega) only[go_sem,c0,e0,ei,A6 (h.pre hp) hi,fun r=>A6 (h.pre (A0 hp r)) hi,h.len,A0 hp _,hp]
  refine Ap (Hs _ l[i].obj (hsz _ (List.getElem_mem hi)).1) (fun h1=> ?_) (fun h1=> ?_)
  rotate_left
  ·simp +contextual (disch:=omega) only[go_sem,c0,e0,ei,A6 (h.pre hp) hi,fun r=>A6 (h.pre (A0 hp r)) hi,h.len,A0 hp _,hp]
   simp[hno (by rw[hat];simp[h1])]
  simp +contextual (disch:=omega) only[go_sem,c0,e0,ei,A6 (h.pre hp) hi,fun r=>A6 (h.pre (A0 hp r)) hi,h.len,A0 hp _,hp]
  refine Ap (Hs _ l[i].key (hsz _ (List.getElem_mem hi)).2) (fun h2=> ?_) (fun h2=> ?_)
  rotate_left
  ·simp +contextual (disch:=omega) only[go_sem,c0,e0,ei,A6 (h.pre hp) hi,fun r=>A6 (h.pre (A0 hp r)) hi,h.len,A0 hp _,hp]
   simp[hno (by rw[hat];simp[h2])]
  simp +contextual (disch:=omega) only[go_sem,c0,e0,ei,A6 (h.pre hp) hi,fun r=>A6 (h.pre (A0 hp r)) hi,h.len,A0 hp _,hp]
  refine Ap (C6 _ _ _ _) (fun h3=> ?_) (fun h3=> ?_)
  rotate_left
  ·simp +contextual (disch:=omega) only[go_sem,c0,e0,ei,A6 (h.pre hp) hi,fun r=>A6 (h.pre (A0 hp r)) hi,h.len,A0 hp _,hp]
   simp[hno (by rw[hat];simp[h3])]
  simp +contextual (disch:=omega) only[go_sem,c0,e0,ei,A6 (h.pre hp) hi,fun r=>A6 (h.pre (A0 hp r)) hi,h.len,A0 hp _,hp]
  rcases A6q l[i].map l[i].val with hm|⟨hm,hv,hv'⟩|⟨hm,hv,hv'⟩
  rotate_left 2
  ·simp +contextual (disch:=omega) only[go_sem,hm,hv,c0,e0,ei,A6 (h.pre hp) hi,fun r=>A6 (h.pre (A0 hp r)) hi,h.len,A0 hp _,hp]
   simp[hno (by rw[hat];simp[hm,hv'])]
  ·simp +contextual (disch:=omega) only[go_sem,hm,c0,e0,ei,A6 (h.pre hp) hi,fun r=>A6 (h.pre (A0 hp r)) hi,h.len,A0 hp _,hp]
   rcases Nat.eq_zero_or_pos i with hz|hz
   ·subst hz
    simp +contextual (disch:=omega) only[go_sem,Int.ofNat_zero,decide_false,Int.lt_irrefl,hm,c0,e0,ei,A6 (h.pre hp) hi,fun r=>A6 (h.pre (A0 hp r)) hi,h.len,A0 hp _,hp]
    refine E3 ha (by rw[hat];simp[h0,h1,h2,h3,hm,upI])
   ·have c1:decide ((0:Int)<i)=true:=by simp;omega
    have hj:i - 1<l.length:=by omega
    have hz':i≠0:=by omega
    simp only[Lx hz' hi hj] at hat
    simp +contextual (disch:=omega) only[go_sem,c1,sub1 hz,A6 (h.pre hp) hj,fun r=>A6 (h.pre (A0 hp r)) hj,hm,c0,e0,ei,A6 (h.pre hp) hi,fun r=>A6 (h.pre (A0 hp r)) hi,h.len,A0 hp _,hp]
    refine Ac (D9 _ l[i-1].dot l[i].dot) ?_
    cases ho:Bq l[i-1].dot l[i].dot with
    |true=>
     simp +contextual (disch:=omega) only[go_sem,c1,sub1 hz,A6 (h.pre hp) hj,fun r=>A6 (h.pre (A0 hp r)) hj,hm,c0,e0,ei,A6 (h.pre hp) hi,fun r=>A6 (h.pre (A0 hp r)) hi,h.len,A0 hp _,hp]
     exact E3 ha (by rw[hat];simp[h0,h1,h2,h3,hm,ho,Br])
    |false=>
     simp +contextual (disch:=omega) only[go_sem,c1,sub1 hz,A6 (h.pre hp) hj,fun r=>A6 (h.pre (A0 hp r)) hj,hm,c0,e0,ei,A6 (h.pre hp) hi,fun r=>A6 (h.pre (A0 hp r)) hi,h.len,A0 hp _,hp]
     simp[hno (by rw[hat];simp[ho,Br])]
  ·simp +contextual (disch:=omega) only[go_sem,hm,hv,c0,e0,ei,A6 (h.pre hp) hi,fun r=>A6 (h.pre (A0 hp r)) hi,h.len,A0 hp _,hp]
   rcases Nat.eq_zero_or_pos i with hz|hz
   ·subst hz
    simp +contextual (disch:=omega) only[go_sem,Int.ofNat_zero,decide_false,Int.lt_irrefl,hm,hv,c0,e0,ei,A6 (h.pre hp) hi,fun r=>A6 (h.pre (A0 hp r)) hi,h.len,A0 hp _,hp]
    refine E3 ha (by rw[hat];simp[h0,h1,h2,h3,hm,decide_eq_true hv',upI])
   ·have c1:decide ((0:Int)<i)=true:=by simp;omega
    have hj:i - 1<l.length:=by omega
    have hz':i≠0:=by omega
    simp only[Lx hz' hi hj] at hat
    simp +contextual (disch:=omega) only[go_sem,c1,sub1 hz,A6 (h.pre hp) hj,fun r=>A6 (h.pre (A0 hp r)) hj,hm,hv,c0,e0,ei,A6 (h.pre hp) hi,fun r=>A6 (h.pre (A0 hp r)) hi,h.len,A0 hp _,hp]
    refine Ac (D9 _ l[i-1].dot l[i].dot) ?_
    cases ho:Bq l[i-1].dot l[i].dot with
    |true=>
     simp +contextual (disch:=omega) only[go_sem,c1,sub1 hz,A6 (h.pre hp) hj,fun r=>A6 (h.pre (A0 hp r)) hj,hm,hv,c0,e0,ei,A6 (h.pre hp) hi,fun r=>A6 (h.pre (A0 hp r)) hi,h.len,A0 hp _,hp]
     exact E3 ha (by rw[hat];simp[h0,h1,h2,h3,hm,decide_eq_true hv',ho,Br])
    |false=>
     simp +contextual (disch:=omega) only[go_sem,c1,sub1 hz,A6 (h.pre hp) hj,fun r=>A6 (h.pre (A0 hp r)) hj,hm,hv,c0,e0,ei,A6 (h.pre hp) hi,fun r=>A6 (h.pre (A0 hp r)) hi,h.len,A0 hp _,hp]
     simp[hno (by rw[hat];simp[ho,Br])]
 ·rintro env τ ei c0 ⟨e0,ha,hp⟩
  simp +contextual (disch:=omega) only[go_sem,c0,e0,ei,h.len,hp]
  simp only[A58,Fl ha,Bool.true_and]
  exact Ya
theorem A05 (σ:St) (v:GV) (l:List Live) (h:RS Ai.kd σ v l) (u:GV) (k:List Int) (hk:RS pI.kd σ u k) (hlk:k.length≤1099511627776) (hl:l.length≤1099511627776) (hsz:∀ x∈l,x.obj.size≤1099511627776∧x.key.size≤1099511627776):Ret Tryz.prog U4 [v,u] σ (.bool (Ly l k)) σ:=by
 refine Al A2m (Z0z rfl) trivial ?_
 simp +contextual (disch:=omega) only[go_sem,U5,h.len]
 refine B4 l.length 9 (fun i env τ=>env 0=v∧env 1=u∧env 7=v∧env 8=gi l.length∧(∀ j,j<i→livP l k j=true)∧σ <+: τ) rfl ⟨rfl,rfl,rfl,rfl,fun j hj=>by omega,List.prefix_refl _⟩ ?_ ?_
 ·rintro i env τ hi ei c0 ⟨e0,e1,e7,e8,ha,hp⟩
  have hno:livP l k i=false→Ly l k=false:=fun hh=>by simp[Ly,Kg hi hh]
  have hat:livP l k i=(B5 k l[i].dot&&((Dc l[i].obj&&(Dc l[i].key&&(inB l[i].val 0 999999&&(l[i].map||decide (l[i].val=0)))))&&upI Br l i)):=by simp only[livP,liv1,Di hi]
  simp +contextual (disch:=omega) only[go_sem,c0,e0,e1,e7,e8,ei,A6 (h.pre hp) hi,fun r=>A6 (h.pre (A0 hp r)) hi,h.len,A0 hp _,hp]
  refine Ap (Hi _ u k l[i].dot (hk.pre (A0 hp _)) hlk) (fun h0=> ?_) (fun h0=> ?_)
  rotate_left
  ·simp +contextual (disch:=omega) only[go_sem,c0,e0,e1,e7,e8,ei,A6 (h.pre hp) hi,fun r=>A6 (h.pre (A0 hp r)) hi,h.len,A0 hp _,hp]
   simp[hno (by rw[hat];simp[h0])]
  simp +contextual (disch:=omega) only[go_sem,c0,e0,e1,e7,e8,ei,A6 (h.pre hp) hi,fun r=>A6 (h.pre (A0 hp r)) hi,h.len,A0 hp _,hp]
  refine Ap (Ht _ l[i].obj (hsz _ (List.getElem_mem hi)).1) (fun h1=> ?_) (fun h1=> ?_)
  rotate_left
  ·simp +contextual (disch:=omega) only[go_sem,c0,e0,e1,e7,e8,ei,A6 (h.pre hp) hi,fun r=>A6 (h.pre (A0 hp r)) hi,h.len,A0 hp _,hp]
   simp[hno (by rw[hat];simp[h1])]
  simp +contextual (disch:=omega) only[go_sem,c0,e0,e1,e7,e8,ei,A6 (h.pre hp) hi,fun r=>A6 (h.pre (A0 hp r)) hi,h.len,A0 hp _,hp]
  refine Ap (Ht _ l[i].key (hsz _ (List.getElem_mem hi)).2) (fun h2=> ?_) (fun h2=> ?_)
  rotate_left
  ·simp +contextual (disch:=omega) only[go_sem,c0,e0,e1,e7,e8,ei,A6 (h.pre hp) hi,fun r=>A6 (h.pre (A0 hp r)) hi,h.len,A0 hp _,hp]
   simp[hno (by rw[hat];simp[h2])]
  simp +contextual (disch:=omega) only[go_sem,c0,e0,e1,e7,e8,ei,A6 (h.pre hp) hi,fun r=>A6 (h.pre (A0 hp r)) hi,h.len,A0 hp _,hp]
  refine Ap (Bn _ _ _ _) (fun h3=> ?_) (fun h3=> ?_)
  rotate_left
  ·simp +contextual (disch:=omega) only[go_sem,c0,e0,e1,e7,e8,ei,A6 (h.pre hp) hi,fun r=>A6 (h.pre (A0 hp r)) hi,h.len,A0 hp _,hp]
   simp[hno (by rw[hat];simp[h3])]
  simp +contextual (disch:=omega) only[go_sem,c0,e0,e1,e7,e8,ei,A6 (h.pre hp) hi,fun r=>A6 (h.pre (A0 hp r)) hi,h.len,A0 hp _,hp]
  rcases A6q l[i].map l[i].val with hm|⟨hm,hv,hv'⟩|⟨hm,hv,hv'⟩
  rotate_left 2
  ·simp +contextual (disch:=omega) only[go_sem,hm,hv,c0,e0,e1,e7,e8,ei,A6 (h.pre hp) hi,fun r=>A6 (h.pre (A0 hp r)) hi,h.len,A0 hp _,hp]
   simp[hno (by rw[hat];simp[hm,hv'])]
  ·simp +contextual (disch:=omega) only[go_sem,hm,c0,e0,e1,e7,e8,ei,A6 (h.pre hp) hi,fun r=>A6 (h.pre (A0 hp r)) hi,h.len,A0 hp _,hp]
   rcases Nat.eq_zero_or_pos i with hz|hz
   ·subst hz
    simp +contextual (disch:=omega) only[go_sem,Int.ofNat_zero,decide_false,Int.lt_irrefl,hm,c0,e0,e1,e7,e8,ei,A6 (h.pre hp) hi,fun r=>A6 (h.pre (A0 hp r)) hi,h.len,A0 hp _,hp]
    refine E3 ha (by rw[hat];simp[h0,h1,h2,h3,hm,upI])
   ·have c1:decide ((0:Int)<i)=true:=by simp;omega
    have hj:i - 1<l.length:=by omega
    have hz':i≠0:=by omega
    simp only[Lx hz' hi hj] at hat
    simp +contextual (disch:=omega) only[go_sem,c1,sub1 hz,A6 (h.pre hp) hj,fun r=>A6 (h.pre (A0 hp r)) hj,hm,c0,e0,e1,e7,e8,ei,A6 (h.pre hp) hi,fun r=>A6 (h.pre (A0 hp r)) hi,h.len,A0 hp _,hp]
    refine Ac (Cg _ l[i-1].dot l[i].dot) ?_
    simp +contextual (disch:=omega) only[go_sem,Tx,c1,sub1 hz,A6 (h.pre hp) hj,fun r=>A6 (h.pre (A0 hp r)) hj,hm,c0,e0,e1,e7,e8,ei,A6 (h.pre hp) hi,fun r=>A6 (h.pre (A0 hp r)) hi,h.len,A0 hp _,hp]
    cases ho:Bq l[i-1].dot l[i].dot with
    |true=>
     simp +contextual (disch:=omega) only[go_sem,c1,sub1 hz,A6 (h.pre hp) hj,fun r=>A6 (h.pre (A0 hp r)) hj,hm,c0,e0,e1,e7,e8,ei,A6 (h.pre hp) hi,fun r=>A6 (h.pre (A0 hp r)) hi,h.len,A0 hp _,hp]
     exact E3 ha (by rw[hat];simp[h0,h1,h2,h3,hm,ho,Br])
    |false=>
     simp +contextual (disch:=omega) only[go_sem,c1,sub1 hz,A6 (h.pre hp) hj,fun r=>A6 (h.pre (A0 hp r)) hj,hm,c0,e0,e1,e7,e8,ei,A6 (h.pre hp) hi,fun r=>A6 (h.pre (A0 hp r)) hi,h.len,A0 hp _,hp]
     simp[hno (by rw[hat];simp[ho,Br])]
  ·simp +contextual (disch:=omega) only[go_sem,hm,hv,c0,e0,e1,e7,e8,ei,A6 (h.pre hp) hi,fun r=>A6 (h.pre (A0 hp r)) hi,h.len,A0 hp _,hp]
   rcases Nat.eq_zero_or_pos i with hz|hz
   ·subst hz
    simp +contextual (disch:=omega) only[go_sem,Int.ofNat_zero,decide_false,Int.lt_irrefl,hm,hv,c0,e0,e1,e7,e8,ei,A6 (h.pre hp) hi,fun r=>A6 (h.pre (A0 hp r)) hi,h.len,A0 hp _,hp]
    refine E3 ha (by rw[hat];simp[h0,h1,h2,h3,hm,decide_eq_true hv',upI])
   ·have c1:decide ((0:Int)<i)=true:=by simp;omega
    have hj:i - 1<l.length:=by omega
    have hz':i≠0:=by omega
    simp only[Lx hz' hi hj] at hat
    simp +contextual (disch:=omega) only[go_sem,c1,sub1 hz,A6 (h.pre hp) hj,fun r=>A6 (h.pre (A0 hp r)) hj,hm,hv,c0,e0,e1,e7,e8,ei,A6 (h.pre hp) hi,fun r=>A6 (h.pre (A0 hp r)) hi,h.len,A0 hp _,hp]
    refine Ac (Cg _ l[i-1].dot l[i].dot) ?_
    simp +contextual (disch:=omega) only[go_sem,Tx,c1,sub1 hz,A6 (h.pre hp) hj,fun r=>A6 (h.pre (A0 hp r)) hj,hm,hv,c0,e0,e1,e7,e8,ei,A6 (h.pre hp) hi,fun r=>A6 (h.pre (A0 hp r)) hi,h.len,A0 hp _,hp]
    cases ho:Bq l[i-1].dot l[i].dot with
    |true=>
     simp +contextual (disch:=omega) only[go_sem,c1,sub1 hz,A6 (h.pre hp) hj,fun r=>A6 (h.pre (A0 hp r)) hj,hm,hv,c0,e0,e1,e7,e8,ei,A6 (h.pre hp) hi,fun r=>A6 (h.pre (A0 hp r)) hi,h.len,A0 hp _,hp]
     exact E3 ha (by rw[hat];simp[h0,h1,h2,h3,hm,decide_eq_true hv',ho,Br])
    |false=>
     simp +contextual (disch:=omega) only[go_sem,c1,sub1 hz,A6 (h.pre hp) hj,fun r=>A6 (h.pre (A0 hp r)) hj,hm,hv,c0,e0,e1,e7,e8,ei,A6 (h.pre hp) hi,fun r=>A6 (h.pre (A0 hp r)) hi,h.len,A0 hp _,hp]
     simp[hno (by rw[hat];simp[ho,Br])]
 ·rintro env τ ei c0 ⟨e0,e1,e7,e8,ha,hp⟩
  simp +contextual (disch:=omega) only[go_sem,c0,e0,e1,e7,e8,ei,h.len,hp]
  simp only[Ly,Fl ha,Bool.true_and]
  exact Ya
theorem Wz (σ:St) (v:GV) (l:List Cell) (h:RS Ae.kd σ v l) (hl:l.length≤1099511627776) (hsz:∀ x∈l,x.obj.size≤1099511627776):Ret Tryz.prog Qu [v] σ (.bool (A59 l)) σ:=by
 refine Al A04 (Z0z rfl) trivial ?_
 simp +contextual (disch:=omega) only[go_sem,Qv,h.len]
 refine B4 l.length 3 (fun i env τ=>env 0=v∧(∀ j,j<i→A80 l j=true)∧σ <+: τ) rfl ⟨rfl,fun j hj=>by omega,List.prefix_refl _⟩ ?_ ?_
 ·rintro i env τ hi ei c0 ⟨e0,ha,hp⟩
  have hno:A80 l i=false→A59 l=false:=fun hh=>by simp[A59,Kg hi hh]
  have hat:A80 l i=(G5 l[i].dot&&((Dc l[i].obj&&(inB l[i].val 0 999999&&inB l[i].time 1 10000))&&((decide (l[i].ref=⟨0,0⟩)||G5 l[i].ref)&&upI Cl l i))):=by simp only[A80,cel1,refD,Di hi]
  simp +contextual (disch:=omega) only[go_sem,c0,e0,ei,A7 (h.pre hp) hi,fun r=>A7 (h.pre (A0 hp r)) hi,h.len,A0 hp _,hp]
  refine Ap (Hg _ l[i].dot) (fun h0=> ?_) (fun h0=> ?_)
  rotate_left
  ·simp +contextual (disch:=omega) only[go_sem,c0,e0,ei,A7 (h.pre hp) hi,fun r=>A7 (h.pre (A0 hp r)) hi,h.len,A0 hp _,hp]
   simp[hno (by rw[hat];simp[h0])]
  simp +contextual (disch:=omega) only[go_sem,c0,e0,ei,A7 (h.pre hp) hi,fun r=>A7 (h.pre (A0 hp r)) hi,h.len,A0 hp _,hp]
  refine Ap (Hs _ l[i].obj (hsz _ (List.getElem_mem hi))) (fun h1=> ?_) (fun h1=> ?_)
  rotate_left
  ·simp +contextual (disch:=omega) only[go_sem,c0,e0,ei,A7 (h.pre hp) hi,fun r=>A7 (h.pre (A0 hp r)) hi,h.len,A0 hp _,hp]
   simp[hno (by rw[hat];simp[h1])]
  simp +contextual (disch:=omega) only[go_sem,c0,e0,ei,A7 (h.pre hp) hi,fun r=>A7 (h.pre (A0 hp r)) hi,h.len,A0 hp _,hp]
  refine Ap (C6 _ _ _ _) (fun h2=> ?_) (fun h2=> ?_)
  rotate_left
  ·simp +contextual (disch:=omega) only[go_sem,c0,e0,ei,A7 (h.pre hp) hi,fun r=>A7 (h.pre (A0 hp r)) hi,h.len,A0 hp _,hp]
   simp[hno (by rw[hat];simp[h2])]
  simp +contextual (disch:=omega) only[go_sem,c0,e0,ei,A7 (h.pre hp) hi,fun r=>A7 (h.pre (A0 hp r)) hi,h.len,A0 hp _,hp]
  refine Ap (C6 _ _ _ _) (fun h3=> ?_) (fun h3=> ?_)
  rotate_left
  ·simp +contextual (disch:=omega) only[go_sem,c0,e0,ei,A7 (h.pre hp) hi,fun r=>A7 (h.pre (A0 hp r)) hi,h.len,A0 hp _,hp]
   simp[hno (by rw[hat];simp[h3])]
  simp +contextual (disch:=omega) only[go_sem,c0,e0,ei,A7 (h.pre hp) hi,fun r=>A7 (h.pre (A0 hp r)) hi,h.len,A0 hp _,hp]
  by_cases hr:l[i].ref=⟨0,0⟩
  ·have hrd:=decide_eq_true hr
   simp +contextual (disch:=omega) only[go_sem,hrd,c0,e0,ei,A7 (h.pre hp) hi,fun r=>A7 (h.pre (A0 hp r)) hi,h.len,A0 hp _,hp]
   rcases Nat.eq_zero_or_pos i with hz|hz
   ·subst hz
    simp +contextual (disch:=omega) only[go_sem,Int.ofNat_zero,decide_false,Int.lt_irrefl,hrd,c0,e0,ei,A7 (h.pre hp) hi,fun r=>A7 (h.pre (A0 hp r)) hi,h.len,A0 hp _,hp]
    refine E3 ha (by rw[hat];simp[h0,h1,h2,h3,hrd,upI])
   ·have c1:decide ((0:Int)<i)=true:=by simp;omega
    have hj:i - 1<l.length:=by omega
    have hz':i≠0:=by omega
    simp only[Lx hz' hi hj] at hat
    simp +contextual (disch:=omega) only[go_sem,c1,sub1 hz,A7 (h.pre hp) hj,fun r=>A7 (h.pre (A0 hp r)) hj,hrd,c0,e0,ei,A7 (h.pre hp) hi,fun r=>A7 (h.pre (A0 hp r)) hi,h.len,A0 hp _,hp]
    refine Ac (D9 _ l[i-1].dot l[i].dot) ?_
    cases ho:Bq l[i-1].dot l[i].dot with
    |true=>
     simp +contextual (disch:=omega) only[go_sem,c1,sub1 hz,A7 (h.pre hp) hj,fun r=>A7 (h.pre (A0 hp r)) hj,hrd,c0,e0,ei,A7 (h.pre hp) hi,fun r=>A7 (h.pre (A0 hp r)) hi,h.len,A0 hp _,hp]
     exact E3 ha (by rw[hat];simp[h0,h1,h2,h3,hrd,ho,Cl])
    |false=>
     simp +contextual (disch:=omega) only[go_sem,c1,sub1 hz,A7 (h.pre hp) hj,fun r=>A7 (h.pre (A0 hp r)) hj,hrd,c0,e0,ei,A7 (h.pre hp) hi,fun r=>A7 (h.pre (A0 hp r)) hi,h.len,A0 hp _,hp]
     simp[hno (by rw[hat];simp[ho,Cl])]
  ·have hrd:=decide_eq_false hr
   simp +contextual (disch:=omega) only[go_sem,hrd,c0,e0,ei,A7 (h.pre hp) hi,fun r=>A7 (h.pre (A0 hp r)) hi,h.len,A0 hp _,hp]
   refine Ap (Hg _ l[i].ref) (fun hq=> ?_) (fun hq=> ?_)
   rotate_left
   ·simp +contextual (disch:=omega) only[go_sem,hrd,c0,e0,ei,A7 (h.pre hp) hi,fun r=>A7 (h.pre (A0 hp r)) hi,h.len,A0 hp _,hp]
    simp[hno (by rw[hat];simp[hrd,hq])]
   simp +contextual (disch:=omega) only[go_sem,hrd,c0,e0,ei,A7 (h.pre hp) hi,fun r=>A7 (h.pre (A0 hp r)) hi,h.len,A0 hp _,hp]
   rcases Nat.eq_zero_or_pos i with hz|hz
   ·subst hz
    simp +contextual (disch:=omega) only[go_sem,Int.ofNat_zero,decide_false,Int.lt_irrefl,hrd,c0,e0,ei,A7 (h.pre hp) hi,fun r=>A7 (h.pre (A0 hp r)) hi,h.len,A0 hp _,hp]
    refine E3 ha (by rw[hat];simp[h0,h1,h2,h3,hrd,hq,upI])
   ·have c1:decide ((0:Int)<i)=true:=by simp;omega
    have hj:i - 1<l.length:=by omega
    have hz':i≠0:=by omega
    simp only[Lx hz' hi hj] at hat
    simp +contextual (disch:=omega) only[go_sem,c1,sub1 hz,A7 (h.pre hp) hj,fun r=>A7 (h.pre (A0 hp r)) hj,hrd,c0,e0,ei,A7 (h.pre hp) hi,fun r=>A7 (h.pre (A0 hp r)) hi,h.len,A0 hp _,hp]
    refine Ac (D9 _ l[i-1].dot l[i].dot) ?_
    cases ho:Bq l[i-1].dot l[i].dot with
    |true=>
     simp +contextual (disch:=omega) only[go_sem,c1,sub1 hz,A7 (h.pre hp) hj,fun r=>A7 (h.pre (A0 hp r)) hj,hrd,c0,e0,ei,A7 (h.pre hp) hi,fun r=>A7 (h.pre (A0 hp r)) hi,h.len,A0 hp _,hp]
     exact E3 ha (by rw[hat];simp[h0,h1,h2,h3,hrd,hq,ho,Cl])
    |false=>
     simp +contextual (disch:=omega) only[go_sem,c1,sub1 hz,A7 (h.pre hp) hj,fun r=>A7 (h.pre (A0 hp r)) hj,hrd,c0,e0,ei,A7 (h.pre hp) hi,fun r=>A7 (h.pre (A0 hp r)) hi,h.len,A0 hp _,hp]
     simp[hno (by rw[hat];simp[ho,Cl])]
 ·rintro env τ ei c0 ⟨e0,ha,hp⟩
  simp +contextual (disch:=omega) only[go_sem,c0,e0,ei,h.len,hp]
  simp only[A59,Fl ha,Bool.true_and]
  exact Ya
theorem A06 (σ:St) (v:GV) (l:List Cell) (h:RS Ae.kd σ v l) (u:GV) (k:List Int) (hk:RS pI.kd σ u k) (hlk:k.length≤1099511627776) (hl:l.length≤1099511627776) (hsz:∀ x∈l,x.obj.size≤1099511627776):Ret Tryz.prog U6 [v,u] σ (.bool (Lz l k)) σ:=by
 refine Al A2n (Z0z rfl) trivial ?_
 simp +contextual (disch:=omega) only[go_sem,U7,h.len]
 refine B4 l.length 9 (fun i env τ=>env 0=v∧env 1=u∧env 7=v∧env 8=gi l.length∧(∀ j,j<i→celP l k j=true)∧σ <+: τ) rfl ⟨rfl,rfl,rfl,rfl,fun j hj=>by omega,List.prefix_refl _⟩ ?_ ?_
 ·rintro i env τ hi ei c0 ⟨e0,e1,e7,e8,ha,hp⟩
  have hno:celP l k i=false→Lz l k=false:=fun hh=>by simp[Lz,Kg hi hh]
  have hat:celP l k i=(B5 k l[i].dot&&((Dc l[i].obj&&(inB l[i].val 0 999999&&inB l[i].time 1 10000))&&upI Cl l i)):=by simp only[celP,cel1,Di hi]
  simp +contextual (disch:=omega) only[go_sem,c0,e0,e1,e7,e8,ei,A7 (h.pre hp) hi,fun r=>A7 (h.pre (A0 hp r)) hi,h.len,A0 hp _,hp]
  refine Ap (Hi _ u k l[i].dot (hk.pre (A0 hp _)) hlk) (fun h0=> ?_) (fun h0=> ?_)
  rotate_left
  ·simp +contextual (disch:=omega) only[go_sem,c0,e0,e1,e7,e8,ei,A7 (h.pre hp) hi,fun r=>A7 (h.pre (A0 hp r)) hi,h.len,A0 hp _,hp]
   simp[hno (by rw[hat];simp[h0])]
  simp +contextual (disch:=omega) only[go_sem,c0,e0,e1,e7,e8,ei,A7 (h.pre hp) hi,fun r=>A7 (h.pre (A0 hp r)) hi,h.len,A0 hp _,hp]
  refine Ap (Ht _ l[i].obj (hsz _ (List.getElem_mem hi))) (fun h1=> ?_) (fun h1=> ?_)
  rotate_left
  ·simp +contextual (disch:=omega) only[go_sem,c0,e0,e1,e7,e8,ei,A7 (h.pre hp) hi,fun r=>A7 (h.pre (A0 hp r)) hi,h.len,A0 hp _,hp]
   simp[hno (by rw[hat];simp[h1])]
  simp +contextual (disch:=omega) only[go_sem,c0,e0,e1,e7,e8,ei,A7 (h.pre hp) hi,fun r=>A7 (h.pre (A0 hp r)) hi,h.len,A0 hp _,hp]
  refine Ap (Bn _ _ _ _) (fun h2=> ?_) (fun h2=> ?_)
  rotate_left
  ·simp +contextual (disch:=omega) only[go_sem,c0,e0,e1,e7,e8,ei,A7 (h.pre hp) hi,fun r=>A7 (h.pre (A0 hp r)) hi,h.len,A0 hp _,hp]
   simp[hno (by rw[hat];simp[h2])]
  simp +contextual (disch:=omega) only[go_sem,c0,e0,e1,e7,e8,ei,A7 (h.pre hp) hi,fun r=>A7 (h.pre (A0 hp r)) hi,h.len,A0 hp _,hp]
  refine Ap (Bn _ _ _ _) (fun h3=> ?_) (fun h3=> ?_)
  rotate_left
  ·simp +contextual (disch:=omega) only[go_sem,c0,e0,e1,e7,e8,ei,A7 (h.pre hp) hi,fun r=>A7 (h.pre (A0 hp r)) hi,h.len,A0 hp _,hp]
   simp[hno (by rw[hat];simp[h3])]
  simp +contextual (disch:=omega) only[go_sem,c0,e0,e1,e7,e8,ei,A7 (h.pre hp) hi,fun r=>A7 (h.pre (A0 hp r)) hi,h.len,A0 hp _,hp]
  rcases Nat.eq_zero_or_pos i with hz|hz
  ·subst hz
   simp +contextual (disch:=omega) only[go_sem,Int.ofNat_zero,decide_false,Int.lt_irrefl,c0,e0,e1,e7,e8,ei,A7 (h.pre hp) hi,fun r=>A7 (h.pre (A0 hp r)) hi,h.len,A0 hp _,hp]
   refine E3 ha (by rw[hat];simp[h0,h1,h2,h3,upI])
  ·have c1:decide ((0:Int)<i)=true:=by simp;omega
   have hj:i - 1<l.length:=by omega
   have hz':i≠0:=by omega
   simp only[Lx hz' hi hj] at hat
   simp +contextual (disch:=omega) only[go_sem,c1,sub1 hz,A7 (h.pre hp) hj,fun r=>A7 (h.pre (A0 hp r)) hj,c0,e0,e1,e7,e8,ei,A7 (h.pre hp) hi,fun r=>A7 (h.pre (A0 hp r)) hi,h.len,A0 hp _,hp]
   refine Ac (Cg _ l[i-1].dot l[i].dot) ?_
   simp +contextual (disch:=omega) only[go_sem,Tx,c1,sub1 hz,A7 (h.pre hp) hj,fun r=>A7 (h.pre (A0 hp r)) hj,c0,e0,e1,e7,e8,ei,A7 (h.pre hp) hi,fun r=>A7 (h.pre (A0 hp r)) hi,h.len,A0 hp _,hp]
   cases ho:Bq l[i-1].dot l[i].dot with
   |true=>
    simp +contextual (disch:=omega) only[go_sem,c1,sub1 hz,A7 (h.pre hp) hj,fun r=>A7 (h.pre (A0 hp r)) hj,c0,e0,e1,e7,e8,ei,A7 (h.pre hp) hi,fun r=>A7 (h.pre (A0 hp r)) hi,h.len,A0 hp _,hp]
    exact E3 ha (by rw[hat];simp[h0,h1,h2,h3,ho,Cl])
   |false=>
    simp +contextual (disch:=omega) only[go_sem,c1,sub1 hz,A7 (h.pre hp) hj,fun r=>A7 (h.pre (A0 hp r)) hj,c0,e0,e1,e7,e8,ei,A7 (h.pre hp) hi,fun r=>A7 (h.pre (A0 hp r)) hi,h.len,A0 hp _,hp]
    simp[hno (by rw[hat];simp[ho,Cl])]
 ·rintro env τ ei c0 ⟨e0,e1,e7,e8,ha,hp⟩
  simp +contextual (disch:=omega) only[go_sem,c0,e0,e1,e7,e8,ei,h.len,hp]
  simp only[Lz,Fl ha,Bool.true_and]
  exact Ya
end
section
open Go Go.RowKit
abbrev U9:Nat:=165
def Ua:Fn1:=⟨2,[.t 0],(rg [o 0 (.mov (.k .nilS))] (rg [o 1 (.mks 1 8 [z0] (ki 3) (ki 3)),oM 0 1] .ret))⟩
theorem A2o:A8 Tryz.prog U9=some Ua:=by kernel_rfl
abbrev Ub:Nat:=179
def Uc:Fn1:=⟨2,[.t 0],(rg [o 0 (.mov (.k .nilS))] (rg [o 1 (.mks 1 8 [z0] (ki 3) (ki 3)),oM 0 1] .ret))⟩
theorem A2p:A8 Tryz.prog Ub=some Uc:=by kernel_rfl
abbrev Qw:Nat:=182
def Qy:Fn1:=⟨6,[.t 2],(rg [o 2 (.mov (.k .nilS))] (rg [o 3 (.lit 1 0 [] []),oM 4 0,o 5 (.app 1 8 [z0] (.t 3) (.t 4)),oM 2 5] .ret))⟩
theorem A07:A8 Tryz.prog Qw=some Qy:=by kernel_rfl
abbrev Ud:Nat:=181
def Ue:Fn1:=⟨43,[.t 4],(rg [o 4 (.mov (.k .nilS))] (rg [o 8 (.lit 1 0 [] []),oM 5 8] (.seq (rg [oM 9 0,oC 10 167 9,oU 11 10,oM 12 11,og 13 12 false (.mov (.t 1)),og 14 12 false (.call 167 [(.t 13)]),og 15 12 false (.un .not (.t 14)),o 16 (.pick (.t 12) kt (.t 15))] (.cnd (.t 16) (rg [oM 17 5,oM 4 17] .ret) .skip)) (.seq (rg [oV 6 (ki 0)] (.blk 0 (.lop (.seq (rg [oM 18 6,oM 19 0,oN 20 19,oB 21 .lss 18 20] (.cnd (.t 21) .skip (.ext 0))) (.seq (.blk 1 (rg [oM 24 0,oM 25 6,oI 26 1 24 25,oL 27 26,oM 7 27] (.seq (rg [oM 28 1,oM 29 6,oI 30 1 28 29,oL 31 30,oM 32 7,oB 33 .gtr 31 32] (.cnd (.t 33) (.reg [oM 34 1,oM 35 6,oI 36 1 34 35,oL 37 36,oM 7 37]) .skip)) (.reg [oM 38 5,oM 39 7,o 40 (.lit 1 1 [z0] [(0,1,(.t 39))]),o 41 (.app 1 8 [z0] (.t 38) (.t 40)),oM 5 41])))) (.reg [oM 22 6,oZ 23 22 1,oM 6 23])))))) (rg [oM 42 5,oM 4 42] .ret)))))⟩
theorem A2q:A8 Tryz.prog Ud=some Ue:=by kernel_rfl
abbrev Uf:Nat:=180
def Ug:Fn1:=⟨36,[.t 4],(rg [o 4 (.mov (.k .nilS))] (.seq (rg [oM 8 0,oC 9 176 8,oU 10 9,oM 11 10,og 12 11 false (.mov (.t 1)),og 13 11 false (.call 176 [(.t 12)]),og 14 11 false (.un .not (.t 13)),o 15 (.pick (.t 11) kt (.t 14))] (.cnd (.t 15) (rg [o 4 (.mov (.k .nilS))] .ret) .skip)) (rg [oM 16 0,oC 17 182 16,oM 5 17] (.seq (rg [oM 18 1,oN 19 18,oV 20 (ki 0)] (.blk 0 (.lop (rg [oB 21 .lss 20 19] (.seq (.cnd (.t 21) .skip (.ext 0)) (.seq (.blk 1 (rg [oM 22 20,oI 23 1 18 20,oL 24 23,oM 6 22,oM 7 24] (.reg [oM 25 5,oM 26 6,oM 27 5,oM 28 6,oI 29 1 27 28,oL 30 29,oM 31 7,o 32 (.mm true (.t 30) (.t 31)),oI 33 1 25 26,oS 1 33 32]))) (.reg [oZ 34 20 1,oM 20 34]))))))) (rg [oM 35 5,oM 4 35] .ret)))))⟩
theorem A2r:A8 Tryz.prog Uf=some Ug:=by kernel_rfl
abbrev n_s_KnowIn:Nat:=178
def F_s_KnowIn:Fn1:=⟨29,[.t 4],(rg [oV 4 kf] (.seq (rg [oM 6 0,oC 7 167 6,oU 8 7,oM 9 8,og 10 9 false (.mov (.t 1)),og 11 9 false (.call 167 [(.t 10)]),og 12 9 false (.un .not (.t 11)),o 13 (.pick (.t 9) kt (.t 12))] (.cnd (.t 13) (rg [oV 4 kf] .ret) .skip)) (.seq (rg [oV 5 (ki 0)] (.blk 0 (.lop (.seq (rg [oM 14 5,oM 15 0,oN 16 15,oB 17 .lss 14 16] (.cnd (.t 17) .skip (.ext 0))) (.seq (.blk 1 (.seq (.drw [oM 20 0,oM 21 5,oI 22 1 20 21,oL 23 22,oM 24 1,oM 25 5,oI 26 1 24 25,oL 27 26] [oB 28 .gtr 23 27]) (.cnd (.t 28) (rg [oV 4 kf] .ret) .skip))) (.reg [oM 18 5,oZ 19 18 1,oM 5 19])))))) (rg [oV 4 kt] .ret))))⟩
abbrev n_i_KnowIn:Nat:=177
def F_i_KnowIn:Fn1:=⟨29,[.t 4],(rg [oV 4 kf] (.seq (rg [oM 7 0,oC 8 176 7,oU 9 8,oM 10 9,og 11 10 false (.mov (.t 1)),og 12 10 false (.call 176 [(.t 11)]),og 13 10 false (.un .not (.t 12)),o 14 (.pick (.t 10) kt (.t 13))] (.cnd (.t 14) (rg [oV 4 kf] .ret) .skip)) (.seq (rg [oM 15 0,oN 16 15,oV 17 (ki 0)] (.blk 0 (.lop (rg [oB 18 .lss 17 16] (.seq (.cnd (.t 18) .skip (.ext 0)) (.seq (.blk 1 (rg [oM 19 17,oI 20 1 15 17,oL 21 20,oM 5 19,oM 6 21] (rg [oM 22 6,oM 23 1,oM 24 5,oI 25 1 23 24,oL 26 25,oB 27 .gtr 22 26] (.cnd (.t 27) (rg [oV 4 kf] .ret) .skip)))) (.reg [oZ 28 17 1,oM 17 28]))))))) (rg [oV 4 kt] .ret))))⟩
abbrev Uh:Nat:=171
def Ui:Fn1:=⟨26,[.t 4],(rg [oV 4 kf] (.seq (rg [oM 6 0,oN 7 6,oM 8 1,oN 9 8,oB 10 .neq 7 9] (.cnd (.t 10) (rg [oV 4 kf] .ret) .skip)) (.seq (rg [oV 5 (ki 0)] (.blk 0 (.lop (.seq (rg [oM 11 5,oM 12 0,oN 13 12,oB 14 .lss 11 13] (.cnd (.t 14) .skip (.ext 0))) (.seq (.blk 1 (.seq (.drw [oM 17 0,oM 18 5,oI 19 1 17 18,oL 20 19,oM 21 1,oM 22 5,oI 23 1 21 22,oL 24 23] [oB 25 .neq 20 24]) (.cnd (.t 25) (rg [oV 4 kf] .ret) .skip))) (.reg [oM 15 5,oZ 16 15 1,oM 5 16])))))) (rg [oV 4 kt] .ret))))⟩
theorem A2s:A8 Tryz.prog Uh=some Ui:=by kernel_rfl
abbrev G2:Nat:=156
def G3:Fn1:=⟨26,[.t 4],(rg [oV 4 kf] (.seq (rg [oM 6 0,oN 7 6,oM 8 1,oN 9 8,oB 10 .neq 7 9] (.cnd (.t 10) (rg [oV 4 kf] .ret) .skip)) (.seq (rg [oM 11 0,oN 12 11,oV 13 (ki 0)] (.blk 0 (.lop (rg [oB 14 .lss 13 12] (.seq (.cnd (.t 14) .skip (.ext 0)) (.seq (.blk 1 (rg [oM 15 13,oM 5 15] (.seq (.drw [oM 16 0,oM 17 5,oI 18 1 16 17,oL 19 18,oM 20 1,oM 21 5,oI 22 1 20 21,oL 23 22] [oB 24 .neq 19 23]) (.cnd (.t 24) (rg [oV 4 kf] .ret) .skip)))) (.reg [oZ 25 13 1,oM 13 25]))))))) (rg [oV 4 kt] .ret))))⟩
theorem J5:A8 Tryz.prog G2=some G3:=by kernel_rfl
theorem A08 (σ:St):∃ r τ,Ret Tryz.prog U9 [] σ r τ∧Hp σ τ [ow pI.kd r [0,0,0]]:=by
 refine Nf (rs:=fun r=>[ow pI.kd r [0,0,0]]) A2o (Z0z rfl) ?_
 have h3:Bk (some (.int .i64 3))=some 3:=rfl
 simp +contextual (disch:=omega) only[go_sem,Ua,h3,Xw (show 3*8≤140737488355328 by omega)]
 exact⟨_,rfl,((Hp.refl σ).new 1 (reps 3 [gi 0])).toRow 0 (p:=pI) rfl [0,0,0] rfl rfl 3 rfl⟩
theorem A09 (σ:St):∃ r τ,Ret Tryz.prog Ub [] σ r τ∧Hp σ τ [ow pI.kd r [0,0,0]]:=by
 refine Nf (rs:=fun r=>[ow pI.kd r [0,0,0]]) A2p (Z0z rfl) ?_
 have h3:Bk (some (.int .i64 3))=some 3:=rfl
 simp +contextual (disch:=omega) only[go_sem,Uc,h3,Xw (show 3*8≤140737488355328 by omega)]
 exact⟨_,rfl,((Hp.refl σ).new 1 (reps 3 [gi 0])).toRow 0 (p:=pI) rfl [0,0,0] rfl rfl 3 rfl⟩
theorem G9 (σ:St) (v:GV) (l:List Int) (h:RS pI.kd σ v l) (hl:l.length≤1099511627776):∃ r τ,Ret Tryz.prog Qw [v] σ r τ∧Hp σ τ [ow pI.kd r l]:=by
 refine Nf (rs:=fun r=>[ow pI.kd r l]) A07 (Z0z rfl) ?_
 obtain⟨v',τ',e,H⟩:=(Hp.refl σ).nil_int.apps_int 0 rfl (h.pre (pre1 _ _)) (by simp;omega)
 simp +contextual (disch:=omega) only[go_sem,Qy,e]
 exact⟨_,rfl,H⟩
def zipK (f:Int→Int→Int) (a b:List Int):List Int:=if okK a&&okK b then List.zipWith f a b else[]
def mx (x y:Int):Int:=if y>x then y else x
def mn (x y:Int):Int:=if y<x then y else x
def kMax (a b:List Int):List Int:=zipK mx a b
theorem Acs (f:Int→Int→Int) (a b:List Int):(zipK f a b).length≤3:=by
 unfold zipK
 split
 ·rename_i h
  simp only[Bool.and_eq_true] at h
  have:=J1 h.1
  simp;omega
 ·simp
theorem Aa3 {f:Int→Int→Int} {a b:List Int} (ha:okK a=true) (hb:okK b=true):zipK f a b=List.zipWith f a b:=by simp[zipK,ha,hb]
theorem A6r {f:Int→Int→Int} {a b:List Int} {i:Nat} (hi:i<a.length) (hj:i<b.length):(List.zipWith f a b).take (i+1)=(List.zipWith f a b).take i++[f a[i] b[i]]:=by
 rw[Ag (by simp;omega),List.getElem_zipWith]
theorem A0a (σ:St) (v u:GV) (a b:List Int) (ha:RS pI.kd σ v a) (hb:RS pI.kd σ u b) (hla:a.length≤1099511627776) (hlb:b.length≤1099511627776):∃ r τ,Ret Tryz.prog Ud [v,u] σ r τ∧Hp σ τ [ow pI.kd r (kMax a b)]:=by
 refine Nf (rs:=fun r=>[ow pI.kd r (kMax a b)]) A2q (Z0z rfl) ?_
 have H:=(Hp.refl σ).nil_int
 simp +contextual (disch:=omega) only[go_sem,Ue]
 refine Ap (Hu _ v a (ha.pre H.sub) hla) (fun h1=> ?_) (fun h1=> ?_)
 ·simp +contextual (disch:=omega) only[go_sem]
  refine Ap (Hu _ u b (hb.pre H.sub) hlb) (fun h2=> ?_) (fun h2=> ?_)
  ·have hk:kMax a b=List.zipWith mx a b:=Aa3 h1 h2
   have la:=J1 h1
   have lb:=J1 h2
   simp +contextual (disch:=omega) only[go_sem]
   refine B4 a.length 6 (fun i env τ=>env 0=v∧env 1=u∧Hp σ τ [ow pI.kd (env 5) ((kMax a b).take i)]) rfl ⟨rfl,rfl,H⟩ ?_ ?_
   ·rintro i env τ hi e6 c0 ⟨e0,e1,H⟩
    have hj:i<b.length:=by omega
    obtain⟨v',τ',e,H'⟩:=H.app_int 0 rfl (mx a[i] b[i]) (by rw[hk];simp;omega)
    rw[hk,←A6r hi hj,←hk] at H'
    by_cases hc:b[i]>a[i]
    ·have hm:mx a[i] b[i]=b[i]:=if_pos hc
     have hd:decide (a[i]<b[i])=true:=decide_eq_true hc
     rw[hm] at e
     simp +contextual (disch:=omega) only[go_sem,c0,e0,e1,e6,ha.len,Db (ha.pre H.sub) hi,Db (hb.pre H.sub) hj,hd,e]
     exact H'
    ·have hm:mx a[i] b[i]=a[i]:=if_neg hc
     have hd:decide (a[i]<b[i])=false:=decide_eq_false hc
     rw[hm] at e
     simp +contextual (disch:=omega) only[go_sem,c0,e0,e1,e6,ha.len,Db (ha.pre H.sub) hi,Db (hb.pre H.sub) hj,hd,e]
     exact H'
   ·rintro env τ e6 c0 ⟨e0,e1,H⟩
    rw[List.take_of_length_le (by rw[hk];simp;omega)] at H
    simp +contextual (disch:=omega) only[go_sem,c0,e0,e1,e6,ha.len]
    exact⟨_,rfl,H⟩
  ·simp +contextual (disch:=omega) only[go_sem]
   exact⟨_,rfl,by simpa [kMax,zipK,h1,h2] using H⟩
 ·simp +contextual (disch:=omega) only[go_sem]
  exact⟨_,rfl,by simpa [kMax,zipK,h1] using H⟩
theorem Acu {l:List Int} {f:Int→Int→Int} {b:List Int} {i:Nat} (hi:i<l.length) (hj:i<b.length) (hlen:l.length=b.length):((List.zipWith f l b).take i++l.drop i).set i (f l[i] b[i])=(List.zipWith f l b).take (i+1)++l.drop (i+1):=by
 rw[A6r hi hj,List.set_append_right _ _ (by simp;omega)]
 have e1:i - ((List.zipWith f l b).take i).length=0:=by simp;omega
 rw[e1,List.drop_eq_getElem_cons hi,List.set_cons_zero,List.append_assoc];rfl
theorem Agz {l b:List Int} {f:Int→Int→Int} {i:Nat} (hi:i<l.length) (hj:i<b.length):∃ h,((List.zipWith f l b).take i++l.drop i)[i]'h=l[i]:=by
 refine⟨by simp;omega,?_⟩
 rw[List.getElem_append_right (by simp;omega)]
 simp only[List.length_take,List.length_zipWith,List.getElem_drop]
 congr 1;omega
theorem A0b (σ:St) (v u:GV) (a b:List Int) (ha:RS pI.kd σ v a) (hb:RS pI.kd σ u b) (hla:a.length≤1099511627776) (hlb:b.length≤1099511627776):∃ r τ,Ret Tryz.prog Uf [v,u] σ r τ∧Hp σ τ [ow pI.kd r (kMax a b)]:=by
 refine Nf (rs:=fun r=>[ow pI.kd r (kMax a b)]) A2r (Z0z rfl) ?_
 simp +contextual (disch:=omega) only[go_sem,Ug]
 refine Ap (Hv _ v a ha hla) (fun h1=> ?_) (fun h1=> ?_)
 ·simp +contextual (disch:=omega) only[go_sem]
  refine Ap (Hv _ u b hb hlb) (fun h2=> ?_) (fun h2=> ?_)
  ·have hk:kMax a b=List.zipWith mx a b:=Aa3 h1 h2
   have la:=J1 h1
   have lb:=J1 h2
   simp +contextual (disch:=omega) only[go_sem]
   obtain⟨r,τ,R,K⟩:=G9 σ v a ha hla
   refine Pq R K ?_
   simp +contextual (disch:=omega) only[go_sem,hb.len]
   refine B4 b.length 20 (fun i env τ=>env 5=r∧env 18=u∧env 19=gi b.length∧Hp σ τ [ow pI.kd r ((kMax a b).take i++a.drop i)]) rfl ⟨rfl,rfl,rfl,by simpa using K⟩ ?_ ?_
   ·rintro i env τ hi e20 c0 ⟨e5,e18,e19,H⟩
    have hj:i<a.length:=by omega
    rw[hk] at H
    obtain⟨hq,hcur⟩:=Agz (f:=mx) hj hi
    have hat:=Db (H.sl 0 rfl) hq
    rw[hcur] at hat
    obtain⟨τ2,es,H2⟩:=H.stw 0 rfl hq 1 (.int .i64 (mx a[i] b[i])) (mx a[i] b[i]) rfl rfl (by decide)
    have es:stG 1 τ (atz 1 r i) (.int .i64 (if b[i]>a[i] then b[i] else a[i]))=some (.tup [],τ2):=es
    rw[Acu hj hi (by omega),←hk] at H2
    simp +contextual (disch:=omega) only[go_sem,c0,e5,e18,e19,e20,Db (hb.pre H.sub) hi,hat,es]
    exact H2
   ·rintro env τ e20 c0 ⟨e5,e18,e19,H⟩
    rw[List.take_of_length_le (by rw[hk];simp;omega),List.drop_eq_nil_of_le (by omega),List.append_nil] at H
    simp +contextual (disch:=omega) only[go_sem,c0,e5,e18,e19,e20]
    exact⟨_,rfl,H⟩
  ·simp +contextual (disch:=omega) only[go_sem]
   exact⟨_,rfl,by simpa [kMax,zipK,h1,h2] using (Hp.refl σ).nilS (d:=pI.kd)⟩
 ·simp +contextual (disch:=omega) only[go_sem]
  exact⟨_,rfl,by simpa [kMax,zipK,h1] using (Hp.refl σ).nilS (d:=pI.kd)⟩
def kLe:List Int→List Int→Bool
 |x::xs,y::ys=>decide (x≤y)&&kLe xs ys
 |_,_=>true
def M3 (a b:List Int):Bool:=okK a&&(okK b&&kLe a b)
theorem A81 (σ:St) (v u:GV) (a b:List Int) (ha:RS pI.kd σ v a) (hb:RS pI.kd σ u b) (hla:a.length≤1099511627776):Ret Tryz.prog Uh [v,u] σ (.bool (decide (a=b))) σ:=by
 refine Al A2s (Z0z rfl) trivial ?_
 simp +contextual (disch:=omega) only[go_sem,Ui,ha.len,hb.len]
 refine⟨fun hn=> ?_,fun hn=> ?_⟩
 ·have:a≠b:=fun h=>by subst h;simp at hn
  simp[this]
 ·have hlm:a.length=b.length:=by
                     have h2:(a.length:Int)=b.length:=by simpa using hn
                     omega
  refine B4 a.length 5 (fun i env τ=>env 0=v∧env 1=u∧a.take i=b.take i∧σ <+: τ) rfl ⟨rfl,rfl,rfl,List.prefix_refl _⟩ ?_ ?_
  ·rintro i env τ hi e5 c0 ⟨e0,e1,he,hp⟩
   have hj:i<b.length:=by omega
   have hne:a[i]≠b[i]→a≠b:=fun h h'=>h (by subst h';rfl)
   have hst:a[i]=b[i]→a.take (i+1)=b.take (i+1):=fun h=>by rw[Ag hi,Ag hj,he,h]
   simp +contextual (disch:=omega) only[go_sem,c0,e0,e1,e5,ha.len,hb.len,Db (ha.pre hp) hi,Db (hb.pre hp) hj,hp]
   refine⟨fun h=> ?_,fun h=> ?_⟩
   ·simp[hne (by simpa using h)]
   ·simpa using hst (by simpa using h)
  ·rintro env τ e5 c0 ⟨e0,e1,he,hp⟩
   rw[List.take_length,hlm,List.take_length] at he
   simp +contextual (disch:=omega) only[go_sem,c0,e0,e1,e5,ha.len,hb.len,hp]
   simp[he]
theorem Lu (σ:St) (v u:GV) (a b:List Int) (ha:RS pI.kd σ v a) (hb:RS pI.kd σ u b) (hla:a.length≤1099511627776):Ret Tryz.prog G2 [v,u] σ (.bool (decide (a=b))) σ:=by
 refine Al J5 (Z0z rfl) trivial ?_
 simp +contextual (disch:=omega) only[go_sem,G3,ha.len,hb.len]
 refine⟨fun hn=> ?_,fun hn=> ?_⟩
 ·have:a≠b:=fun h=>by subst h;simp at hn
  simp[this]
 ·have hlm:a.length=b.length:=by
                     have h2:(a.length:Int)=b.length:=by simpa using hn
                     omega
  refine B4 a.length 13 (fun i env τ=>env 0=v∧env 1=u∧env 12=gi a.length∧a.take i=b.take i∧σ <+: τ) rfl ⟨rfl,rfl,rfl,rfl,List.prefix_refl _⟩ ?_ ?_
  ·rintro i env τ hi e13 c0 ⟨e0,e1,e12,he,hp⟩
   have hj:i<b.length:=by omega
   have hne:a[i]≠b[i]→a≠b:=fun h h'=>h (by subst h';rfl)
   have hst:a[i]=b[i]→a.take (i+1)=b.take (i+1):=fun h=>by rw[Ag hi,Ag hj,he,h]
   simp +contextual (disch:=omega) only[go_sem,c0,e0,e1,e12,e13,Db (ha.pre hp) hi,Db (hb.pre hp) hj,hp]
   refine⟨fun h=> ?_,fun h=> ?_⟩
   ·simp[hne (by simpa using h)]
   ·simpa using hst (by simpa using h)
  ·rintro env τ e13 c0 ⟨e0,e1,e12,he,hp⟩
   rw[List.take_length,hlm,List.take_length] at he
   simp +contextual (disch:=omega) only[go_sem,c0,e0,e1,e12,e13,hp]
   simp[he]
end
section
open Go Go.RowKit
abbrev Pt:Nat:=146
def Yb:Fn1:=⟨22,[.t 4],(rg [oX 2 0,oX 3 1,oV 4 (ki 0)] (.seq (rg [oV 5 (ki 0)] (.blk 0 (.lop (.seq (rg [oM 6 5,oF 7 3 2,oL 8 7,oN 9 8,oB 10 .lss 6 9] (.cnd (.t 10) .skip (.ext 0))) (.seq (.blk 1 (.seq (.drw [oF 13 3 2,oL 14 13,oM 15 5,oI 16 8 14 15,oF 17 1 16,oW 18 2 17,oW 19 2 3] [o 20 (.eqs false [.i .i64,.i .i64] (.t 18) (.t 19))]) (.cnd (.t 20) (rg [oM 21 5,oM 4 21] .ret) .skip))) (.reg [oM 11 5,oZ 12 11 1,oM 5 12])))))) (rg [o 4 (.mov (ki (-1)))] .ret)))⟩
theorem A5f:A8 Tryz.prog Pt=some Yb:=by kernel_rfl
abbrev Pu:Nat:=158
def Yc:Fn1:=⟨9,[.t 4],(rg [oX 2 0,oX 3 1,oV 4 (ki 0)] (rg [oF 5 3 2,oL 6 5,o 7 (.mkf 265 [(.t 3)]),oD 8 263 6 7,oM 4 8] .ret))⟩
theorem A5g:A8 Tryz.prog Pu=some Yc:=by kernel_rfl
abbrev J6:Nat:=265
def Nr:Fn1:=⟨8,[.t 3],(rg [oX 2 0,oV 3 kf] (rg [oF 4 1 2,oW 5 2 4,oW 6 2 1,o 7 (.eqs false [.i .i64,.i .i64] (.t 5) (.t 6)),oM 3 7] .ret))⟩
theorem X0:A8 Tryz.prog J6=some Nr:=by kernel_rfl
abbrev C3:Nat:=263
def C4:Fn1:=⟨19,[.t 4],(rg [oV 4 (ki 0)] (.seq (rg [oM 6 0,oN 7 6,oV 8 (ki 0)] (.blk 0 (.lop (rg [oB 9 .lss 8 7] (.seq (.cnd (.t 9) .skip (.ext 0)) (.seq (.blk 1 (rg [oM 10 8,oM 5 10] (rg [oM 11 1,oM 12 0,oM 13 5,oI 14 8 12 13,oW 15 8 14,o 16 (.callv (.t 11) [(.t 15)])] (.cnd (.t 16) (rg [oM 17 5,oM 4 17] .ret) .skip)))) (.reg [oZ 18 8 1,oM 8 18]))))))) (rg [o 4 (.mov (ki (-1)))] .ret)))⟩
theorem E4:A8 Tryz.prog C3=some C4:=by kernel_rfl
abbrev Yd:Nat:=288
def Ye:Fn1:=⟨63,[.t 2],(rg [oV 2 kf] (rg [o 10 (.mkm),oM 3 10] (.seq (rg [oM 11 0,oN 12 11,oV 13 (ki 0)] (.blk 0 (.lop (rg [oB 14 .lss 13 12] (.seq (.cnd (.t 14) .skip (.ext 0)) (.seq (.blk 1 (rg [oM 15 13,oI 16 8 11 13,oW 17 8 16,o 5 (.new [(.str ⟨#[]⟩),z0,z0,z0,z0,z0,z0,(.bool false)]),oM 4 15,oS 8 5 17] (.reg [oM 18 3,oF 19 1 5,oW 20 2 19,oM 21 4,on (.mup [.i .i64,.i .i64] (.t 18) (.t 20) (.t 21))]))) (.reg [oZ 22 13 1,oM 13 22]))))))) (.seq (rg [oM 23 0,oN 24 23,oV 25 (ki 0)] (.blk 2 (.lop (rg [oB 26 .lss 25 24] (.seq (.cnd (.t 26) .skip (.ext 2)) (.seq (.blk 3 (rg [oI 27 8 23 25,oW 28 8 27,o 7 (.new [(.str ⟨#[]⟩),z0,z0,z0,z0,z0,z0,(.bool false)]),oS 8 7 28] (.seq (rg [oF 29 4 7,oW 30 2 29,o 31 (.build [z0,z0] []),o 32 (.eqs false [.i .i64,.i .i64] (.t 30) (.t 31))] (.cnd (.t 32) (.ext 3) .skip)) (rg [oM 34 3,oF 35 4 7,oW 36 2 35,o 37 (.mlk [.i .i64,.i .i64] z0 true (.t 34) (.t 36)),oM 33 37,o 38 (.ext 0 (.t 33)),o 39 (.ext 1 (.t 33)),oM 8 38,oM 9 39] (.seq (.drw [oM 40 9,oU 41 40,oM 42 41,og 43 42 false (.mov (.t 0)),og 44 42 false (.mov (.t 8)),og 45 42 false (.iad 8 (.t 43) (.t 44)),og 46 42 false (.fad 0 (.t 45)),og 47 42 false (.ld false 1 (.t 46)),og 48 42 false (.fad 0 (.t 7)),og 49 42 false (.ld false 1 (.t 48)),og 50 42 false (.bin .neq (.t 47) (.t 49)),o 51 (.pick (.t 42) kt (.t 50)),oM 52 51,og 53 52 false (.mov (.t 0)),og 54 52 false (.mov (.t 8)),og 55 52 false (.iad 8 (.t 53) (.t 54)),og 56 52 false (.fad 3 (.t 55)),og 57 52 false (.ld false 1 (.t 56)),og 58 52 false (.fad 3 (.t 7)),og 59 52 false (.ld false 1 (.t 58))] [og 60 52 false (.bin .geq (.t 57) (.t 59)),o 61 (.pick (.t 52) kt (.t 60))]) (.cnd (.t 61) (rg [oV 2 kf] .ret) .skip)))))) (.reg [oZ 62 25 1,oM 25 62]))))))) (rg [oV 2 kt] .ret)))))⟩
theorem A5h:A8 Tryz.prog Yd=some Ye:=by kernel_rfl
abbrev Uj:Nat:=199
def Uk:Fn1:=⟨96,[.t 2],(rg [oX 1 0,oV 2 kf] (.seq (rg [oF 7 0 1,oL 8 7,oC 9 167 8,oU 10 9,oM 11 10,og 12 11 false (.fad 1 (.t 1)),og 13 11 false (.ld false 1 (.t 12)),og 14 11 false (.call 290 [(.t 13)]),og 15 11 false (.un .not (.t 14)),o 16 (.pick (.t 11) kt (.t 15)),oM 17 16,og 18 17 false (.fad 2 (.t 1)),og 19 17 false (.ld false 1 (.t 18)),og 20 17 false (.call 291 [(.t 19)]),og 21 17 false (.un .not (.t 20)),o 22 (.pick (.t 17) kt (.t 21)),oM 23 22,og 24 23 false (.fad 3 (.t 1)),og 25 23 false (.ld false 1 (.t 24)),og 26 23 false (.call 292 [(.t 25)]),og 27 23 false (.un .not (.t 26)),o 28 (.pick (.t 23) kt (.t 27))] (.cnd (.t 28) (rg [oV 2 kf] .ret) .skip)) (.seq (rg [oV 3 (ki 0)] (.blk 0 (.lop (.seq (rg [oM 29 3,oF 30 2 1,oL 31 30,oN 32 31,oB 33 .lss 29 32] (.cnd (.t 33) .skip (.ext 0))) (.seq (.blk 1 (.seq (.drw [oF 36 0 1,oL 37 36,oF 38 2 1,oL 39 38,oM 40 3,oI 41 6 39 40,oF 42 4 41,oW 43 2 42] [oD 44 45 37 43,oU 45 44]) (.cnd (.t 45) (rg [oV 2 kf] .ret) .skip))) (.reg [oM 34 3,oZ 35 34 1,oM 3 35])))))) (.seq (rg [oV 4 (ki 0)] (.blk 2 (.lop (.seq (rg [oM 46 4,oF 47 3 1,oL 48 47,oN 49 48,oB 50 .lss 46 49] (.cnd (.t 50) .skip (.ext 2))) (.seq (.blk 3 (rg [oF 53 3 1,oL 54 53,oM 55 4,oI 56 8 54 55,oW 57 8 56,o 5 (.new [(.str ⟨#[]⟩),z0,z0,z0,z0,z0,z0,(.bool false)]),oS 8 5 57] (.seq (rg [oF 58 0 1,oL 59 58,oF 60 1 5,oW 61 2 60,oD 62 45 59 61,oU 63 62] (.cnd (.t 63) (rg [oV 2 kf] .ret) .skip)) (.seq (rg [oF 64 4 5,oW 65 2 64,o 66 (.build [z0,z0] []),o 67 (.eqs false [.i .i64,.i .i64] (.t 65) (.t 66))] (.cnd (.t 67) (.ext 3) .skip)) (rg [oW 68 4 1,oF 69 4 5,oW 70 2 69,oD 71 146 68 70,oM 6 71] (.seq (.drw [oM 72 6,o 73 (.bin .lss (.t 72) (ki 0)),oM 74 73,og 75 74 false (.fad 3 (.t 1)),og 76 74 false (.ld false 1 (.t 75)),og 77 74 false (.mov (.t 6)),og 78 74 false (.iad 8 (.t 76) (.t 77)),og 79 74 false (.fad 0 (.t 78)),og 80 74 false (.ld false 1 (.t 79)),og 81 74 false (.fad 0 (.t 5)),og 82 74 false (.ld false 1 (.t 81)),og 83 74 false (.bin .neq (.t 80) (.t 82)),o 84 (.pick (.t 74) kt (.t 83)),oM 85 84,og 86 85 false (.fad 3 (.t 1)),og 87 85 false (.ld false 1 (.t 86)),og 88 85 false (.mov (.t 6)),og 89 85 false (.iad 8 (.t 87) (.t 88)),og 90 85 false (.fad 3 (.t 89)),og 91 85 false (.ld false 1 (.t 90)),og 92 85 false (.fad 3 (.t 5)),og 93 85 false (.ld false 1 (.t 92))] [og 94 85 false (.bin .geq (.t 91) (.t 93)),o 95 (.pick (.t 85) kt (.t 94))]) (.cnd (.t 95) (rg [oV 2 kf] .ret) .skip))))))) (.reg [oM 51 4,oZ 52 51 1,oM 4 52])))))) (rg [oV 2 kt] .ret)))))⟩
theorem A2t:A8 Tryz.prog Uj=some Uk:=by kernel_rfl
abbrev Ul:Nat:=195
def Um:Fn1:=⟨30,[.t 2],(rg [oX 1 0,oV 2 kf] (rg [oF 3 0 1,oL 4 3,oC 5 176 4,oM 6 5,og 7 6 true (.fad 1 (.t 1)),og 8 6 true (.ld false 1 (.t 7)),og 9 6 true (.call 285 [(.t 8)]),o 10 (.pick (.t 6) (.t 9) kf),oM 11 10,og 12 11 true (.fad 2 (.t 1)),og 13 11 true (.ld false 1 (.t 12)),og 14 11 true (.fad 0 (.t 1)),og 15 11 true (.ld false 1 (.t 14)),og 16 11 true (.call 286 [(.t 13),(.t 15)]),o 17 (.pick (.t 11) (.t 16) kf),oM 18 17,og 19 18 true (.fad 3 (.t 1)),og 20 18 true (.ld false 1 (.t 19)),og 21 18 true (.fad 0 (.t 1)),og 22 18 true (.ld false 1 (.t 21)),og 23 18 true (.call 287 [(.t 20),(.t 22)]),o 24 (.pick (.t 18) (.t 23) kf),oM 25 24,og 26 25 true (.fad 3 (.t 1)),og 27 25 true (.ld false 1 (.t 26)),og 28 25 true (.call 288 [(.t 27)]),o 29 (.pick (.t 25) (.t 28) kf),oM 2 29] .ret))⟩
theorem A2u:A8 Tryz.prog Ul=some Um:=by kernel_rfl
abbrev Mr:Nat:=247
def Un:Fn1:=⟨20,[.c 2 true 4],(rg [oX 1 0,o 2 (.new [.nilS,.nilS,.nilS,.nilS])] (.seq (.drw [o 3 (.lit 1 0 [] []),oF 4 0 1,oL 5 4,o 6 (.app 1 8 [z0] (.t 3) (.t 5)),o 7 (.lit 3 0 [] []),oF 8 1 1,oL 9 8,o 10 (.app 3 32 [(.str ⟨#[]⟩),z0,z0] (.t 7) (.t 9)),o 11 (.lit 6 0 [] []),oF 12 2 1,oL 13 12,o 14 (.app 6 64 [(.bool false),(.str ⟨#[]⟩),(.str ⟨#[]⟩),z0,z0,z0] (.t 11) (.t 13)),o 15 (.lit 8 0 [] []),oF 16 3 1,oL 17 16] [o 18 (.app 8 72 [(.str ⟨#[]⟩),z0,z0,z0,z0,z0,z0,(.bool false)] (.t 15) (.t 17)),o 19 (.build [.nilS,.nilS,.nilS,.nilS] [(0,1,(.t 6)),(1,1,(.t 10)),(2,1,(.t 14)),(3,1,(.t 18))]),oS 4 2 19]) .ret))⟩
theorem A2v:A8 Tryz.prog Mr=some Un:=by kernel_rfl
abbrev J7:Nat:=255
def Ns:Fn1:=⟨19,[.c 2 true 4],(rg [oX 1 0,o 2 (.new [.nilS,.nilS,.nilS,.nilS])] (.seq (.drw [oF 3 0 1,oL 4 3,oC 5 182 4,o 6 (.lit 3 0 [] []),oF 7 1 1,oL 8 7,o 9 (.app 3 32 [(.str ⟨#[]⟩),z0,z0] (.t 6) (.t 8)),o 10 (.lit 6 0 [] []),oF 11 2 1,oL 12 11,o 13 (.app 6 64 [(.bool false),(.str ⟨#[]⟩),(.str ⟨#[]⟩),z0,z0,z0] (.t 10) (.t 12)),o 14 (.lit 8 0 [] []),oF 15 3 1,oL 16 15] [o 17 (.app 8 72 [(.str ⟨#[]⟩),z0,z0,z0,z0,z0,z0,(.bool false)] (.t 14) (.t 16)),o 18 (.build [.nilS,.nilS,.nilS,.nilS] [(0,1,(.t 5)),(1,1,(.t 9)),(2,1,(.t 13)),(3,1,(.t 17))]),oS 4 2 18]) .ret))⟩
theorem X1:A8 Tryz.prog J7=some Ns:=by kernel_rfl
theorem Uo (σ:St) (a b c v:GV) (l:List Cell) (d:Dot) (h:RS Ae.kd σ v l) (hl:l.length≤1099511627776):Ret Tryz.prog Pt [.agg [a,b,c,v],.agg [gi d.rep,gi d.seq]] σ (gi (Cj l d)) σ:=by
 refine Al A5f (Z0z rfl) trivial ?_
 simp +contextual (disch:=omega) only[go_sem,Yb]
 refine B4 l.length 5 (fun i env τ=>env 2= .ptr σ.length 0∧env 3= .ptr (σ++[some (Blk.row 1 [a,b,c,v])]).length 0∧(∀ j (hj:j<i) (hl:j<l.length),l[j].dot≠d)∧σ++[some (.row 1 [a,b,c,v])]++[some (.row 1 [gi d.rep,gi d.seq])] <+: τ) rfl ⟨rfl,rfl,fun j hj=>by omega,List.prefix_refl _⟩ ?_ ?_
 ·rintro i env τ hi e5 c0 ⟨e2,e3,ha,hp⟩
  have h1:=h.pre (Zz hp)
  by_cases hd:l[i].dot=d
  ·have hq:Cj l d=i:=by rw[Cj,A5b hi (fun j hj=>ha j hj (by omega)) hd]
   simp +contextual (disch:=omega) only[go_sem,c0,e2,e3,e5,A5 (A4x hp),A5 (Nd hp),h.len,A7 h1 hi,hp,decide_eq_true hd,hq,Zz hp]
  ·simp +contextual (disch:=omega) only[go_sem,c0,e2,e3,e5,A5 (A4x hp),A5 (Nd hp),h.len,A7 h1 hi,hp,decide_eq_false hd]
   intro j hj hl
   rcases Nat.lt_or_ge j i with h2|h2
   ·exact ha j h2 hl
   ·have:j=i:=by omega
    subst this;exact hd
 ·rintro env τ e5 c0 ⟨e2,e3,ha,hp⟩
  have hq:Cj l d= -1:=by rw[Cj,A5c (fun j hj=>ha j hj hj)]
  simp +contextual (disch:=omega) only[go_sem,c0,e2,e3,e5,A5 (A4x hp),h.len,hq,Zz hp]
theorem I9 (σ:St) (v:GV) (l:List Cell) (h:RS Ae.kd σ v l) (hl:l.length≤1099511627776) (f:Nat) (cs:List (Nat×Nat)) (p:Cell→Bool) (hf:∀(τ:St) (x:Cell),σ <+: τ→Ret Tryz.prog f (.agg (Ae.enc x)::cs.map fun c=>.ptr c.1 c.2) τ (.bool (p x)) τ):
  Ret Tryz.prog C3 [v,.fn f cs] σ (gi (match l.findIdx? p with|some k=>(k:Int)|none=> -1)) σ:=by
 refine Al E4 (Z0z rfl) trivial ?_
 simp +contextual (disch:=omega) only[go_sem,C4,h.len]
 refine B4 l.length 8 (fun i env τ=>env 0=v∧env 1= .fn f cs∧env 6=v∧env 7=gi l.length∧(∀ j (hj:j<i) (hl:j<l.length),p l[j]=false)∧σ <+: τ) rfl ⟨rfl,rfl,rfl,rfl,fun j hj=>by omega,List.prefix_refl _⟩ ?_ ?_
 ·rintro i env τ hi e8 c0 ⟨e0,e1,e6,e7,ha,hp⟩
  simp +contextual (disch:=omega) only[go_sem,c0,e0,e1,e6,e7,e8,A7 (h.pre hp) hi,hp]
  have hpx:=hf τ l[i] hp
  refine Ap hpx (fun h1=> ?_) (fun h1=> ?_)
  ·have hq:l.findIdx? p=some i:=List.findIdx?_eq_some_iff_getElem.2 ⟨hi,h1,fun j hj=>by simp[ha j hj (by omega)]⟩
   simp +contextual (disch:=omega) only[go_sem,c0,e0,e1,e6,e7,e8,hq,hp]
  ·simp +contextual (disch:=omega) only[go_sem,c0,e0,e1,e6,e7,e8,hp]
   intro j hj hl
   rcases Nat.lt_or_ge j i with h2|h2
   ·exact ha j h2 hl
   ·have:j=i:=by omega
    subst this;exact h1
 ·rintro env τ e8 c0 ⟨e0,e1,e6,e7,ha,hp⟩
  have hq:l.findIdx? p=none:=by
   rw[List.findIdx?_eq_none_iff]
   intro x hx
   obtain⟨j,hj,rfl⟩:=List.getElem_of_mem hx
   exact ha j hj hj
  simp +contextual (disch:=omega) only[go_sem,c0,e0,e1,e6,e7,e8,hq,hp]
theorem Uq (τ:St) (x:Cell) (g:Nat) (d:Dot) (hg:rdB τ g=some [gi d.rep,gi d.seq]):Ret Tryz.prog J6 [.agg (Ae.enc x),.ptr g 0] τ (.bool (decide (x.dot=d))) τ:=by
 refine Al X0 (Z0z rfl) trivial ?_
 simp +contextual (disch:=omega) only[go_sem,Nr,Nc,A5 (Ka hg _)]
theorem A5i (σ:St) (a b c v:GV) (l:List Cell) (d:Dot) (h:RS Ae.kd σ v l) (hl:l.length≤1099511627776):Ret Tryz.prog Pu [.agg [a,b,c,v],.agg [gi d.rep,gi d.seq]] σ (gi (Cj l d)) σ:=by
 refine Al A5g (Z0z rfl) trivial ?_
 simp +contextual (disch:=omega) only[go_sem,Yc]
 have R:=I9 (σ++[some (.row 1 [a,b,c,v])]++[some (.row 1 [gi d.rep,gi d.seq])]) v l (h.pre pre2) hl J6 [((σ++[some (Blk.row 1 [a,b,c,v])]).length,0)] (fun c=>decide (c.dot=d)) (fun τ x hp=>Uq τ x _ d (Nd hp))
 refine Ac R ?_
 simp +contextual (disch:=omega) only[go_sem]
 rfl
theorem A2w (σ:St) (v:GV) (l:List Cell) (h:RS Ae.kd σ v l) (hl:l.length≤1099511627776) (hu:l.Pairwise fun a b=>Bq a.dot b.dot=true):Ret Tryz.prog Yd [v] σ (.bool (Y9 l)) σ:=by
 refine Al A5h (Z0z rfl) trivial ?_
 simp +contextual (disch:=omega) only[go_sem,Ye,h.len]
 have H0:=(Hp.refl σ).newMap
 refine B4 l.length 13 (fun i env τ=>env 0=v∧env 3= .mp σ.length∧env 11=v∧env 12=gi l.length∧Hp σ τ [mpt (.mp σ.length) (plc 0 (l.take i))]) rfl ⟨rfl,rfl,rfl,rfl,H0⟩ ?_ ?_
 ·rintro i env τ hi e13 c0 ⟨e0,e3,e11,e12,H⟩
  obtain⟨τ',e,H2⟩:=(H.grow (pre1 τ (some (Blk.row 1 [.str l[i].obj,gi l[i].dot.rep,gi l[i].dot.seq,gi l[i].time,gi l[i].ref.rep,gi l[i].ref.seq,gi l[i].val,.bool l[i].gone])))).mup 0 rfl l[i].dot i (Aa2 hu hi)
  simp +contextual (disch:=omega) only[go_sem,c0,e0,e3,e11,e12,e13,A7 (h.pre H.sub) hi,fun r=>A7 (h.pre (A0 H.sub r)) hi,e]
  rw[Acr hi]
  exact H2
 ·rintro env τ e13 c0 ⟨e0,e3,e11,e12,H⟩
  rw[List.take_length] at H
  simp +contextual (disch:=omega) only[go_sem,c0,e0,e3,e11,e12,e13,(h.pre H.sub).len]
  refine B4 l.length 25 (fun i env τ=>env 0=v∧env 3= .mp σ.length∧env 23=v∧env 24=gi l.length∧(l.take i).all (ref1 l)=true∧Hp σ τ [mpt (.mp σ.length) (plc 0 l)]) rfl ⟨e0,e3,rfl,rfl,rfl,H⟩ ?_ ?_
  ·rintro i env τ hi e25 c0 ⟨e0,e3,e23,e24,ha,H⟩
   have hf:=fun h=>E1 (p:=ref1 l) hi h
   have ht:=De hi ha
   have G:=H.grow (pre1 τ (some (Blk.row 1 [.str l[i].obj,gi l[i].dot.rep,gi l[i].dot.seq,gi l[i].time,gi l[i].ref.rep,gi l[i].ref.seq,gi l[i].val,.bool l[i].gone])))
   have hlk:=G.mlk 0 rfl l[i].ref
   have hdl:=Nl l[i].ref 0 l
   by_cases hr:l[i].ref=⟨0,0⟩
   ·simp +contextual (disch:=omega) only[go_sem,c0,e0,e3,e23,e24,e25,A7 (h.pre H.sub) hi,decide_eq_true hr]
    exact⟨ht (by simp[ref1,hr]),G⟩
   ·cases hx:Cm l l[i].ref with
    |none=>
     rw[hx] at hdl
     have hb:ref1 l l[i]=false:=by simp[ref1,hr,hx]
     rw[hdl] at hlk
     simp +contextual (disch:=omega) only[go_sem,c0,e0,e3,e23,e24,e25,A7 (h.pre H.sub) hi,decide_eq_false hr,hlk,Option.map_none,Option.isSome_none,Option.getD_none]
     exact⟨by simp[Y9,hf hb],G.sub⟩
    |some k=>
     rw[hx] at hdl
     obtain⟨hkl,_⟩:=Df hx
     have hb:ref1 l l[i]=(decide (l[k].obj=l[i].obj)&&decide (l[k].time<l[i].time)):=by simp[ref1,hr,hx,Di hkl]
     rw[hdl] at hlk
     simp +contextual (disch:=omega) only[go_sem,c0,e0,e3,e23,e24,e25,A7 (h.pre H.sub) hi,decide_eq_false hr,hlk,Option.map_some,Option.isSome_some,Option.getD_some,Nat.zero_add,A7 (h.pre H.sub) hkl,fun r=>A7 (h.pre (A0 H.sub r)) hkl]
     refine⟨fun q1=>⟨?_,G.sub⟩,fun q1=>⟨fun q2=>⟨?_,G.sub⟩,fun q2=>⟨ht ?_,G⟩⟩⟩
     ·simp only[Bool.not_eq_true'] at q1
      rw[q1] at hb
      simp[Y9,hf (by rw[hb];rfl)]
     ·rw[decide_eq_false (show ¬ l[k].time<l[i].time by have:=of_decide_eq_true q2;omega),Bool.and_false] at hb
      simp[Y9,hf hb]
     ·simp only[Bool.not_eq_false'] at q1
      rw[hb,q1,decide_eq_true (show l[k].time<l[i].time by have:=of_decide_eq_false q2;omega)];rfl
  ·rintro env τ e25 c0 ⟨e0,e3,e23,e24,ha,H⟩
   rw[List.take_length] at ha
   simp +contextual (disch:=omega) only[go_sem,c0,e0,e3,e23,e24,e25,H.sub]
   exact ha.symm
end
section
open Go Go.RowKit
theorem F3 {s:State} (h:Ad s≤1099511627776):s.know.length≤1099511627776∧s.tallies.length≤1099511627776∧s.lives.length≤1099511627776∧s.cells.length≤1099511627776∧
  (∀ x∈s.tallies,x.obj.size≤1099511627776)∧(∀ x∈s.lives,x.obj.size≤1099511627776∧x.key.size≤1099511627776)∧∀ x∈s.cells,x.obj.size≤1099511627776:=by
 unfold Ad at h
 refine⟨by omega,by omega,by omega,by omega,fun x hx=> ?_,fun x hx=> ?_,fun x hx=> ?_⟩
 ·have h1:=G8 (f:=Ar) hx
  unfold Ar at h1;unfold Ar at h;omega
 ·have h1:=G8 (f:=Ck) hx
  unfold Ck at h1;unfold Ck at h;omega
 ·have h1:=G8 (f:=D8) hx
  unfold D8 at h1;unfold D8 at h;omega
theorem Ec (σ:St) (cs:List GV) (s:State) (hR:A9.R σ s cs) (hl:Ad s≤1099511627776):Ret Tryz.prog Ul [.agg cs] σ (.bool (Bh s)) σ:=by
 obtain⟨a,b,c,v,rfl,hk,ht,hv,hc⟩:=hR
 obtain⟨l1,l2,l3,l4,z1,z2,z3⟩:=F3 hl
 have p1:=pre1 σ (some (Blk.row 1 [a,b,c,v]))
 refine Al A2u (Z0z rfl) trivial ?_
 simp +contextual (disch:=omega) only[go_sem,Um]
 refine Ap (Hv _ a s.know (hk.pre p1) l1) (fun h1=> ?_) (fun h1=> ?_)
 rotate_left
 ·simp +contextual (disch:=omega) only[go_sem]
  simp[Bh,h1]
 simp +contextual (disch:=omega) only[go_sem]
 refine Ap (U8 _ b s.tallies (ht.pre p1) l2 z1) (fun h2=> ?_) (fun h2=> ?_)
 rotate_left
 ·simp +contextual (disch:=omega) only[go_sem]
  simp[Bh,h2]
 simp +contextual (disch:=omega) only[go_sem]
 refine Ap (A05 _ c s.lives (hv.pre p1) a s.know (hk.pre p1) l1 l3 z2) (fun h3=> ?_) (fun h3=> ?_)
 rotate_left
 ·simp +contextual (disch:=omega) only[go_sem]
  simp[Bh,h3]
 simp +contextual (disch:=omega) only[go_sem]
 refine Ap (A06 _ v s.cells (hc.pre p1) a s.know (hk.pre p1) l1 l4 z3) (fun h4=> ?_) (fun h4=> ?_)
 rotate_left
 ·simp +contextual (disch:=omega) only[go_sem]
  simp[Bh,h4]
 simp +contextual (disch:=omega) only[go_sem]
 refine Ac (A2w _ v s.cells (hc.pre p1) l4 (Aa1 h4)) ?_
 simp +contextual (disch:=omega) only[go_sem]
 simp[Bh,h1,h2,h3,h4]
theorem Ah0:decide ((-1:Int)<0)=true:=rfl
theorem Ed (σ:St) (cs:List GV) (s:State) (hR:A9.R σ s cs) (hl:Ad s≤1099511627776):Ret Tryz.prog Uj [.agg cs] σ (.bool (Bh s)) σ:=by
 obtain⟨a,b,c,v,rfl,hk,ht,hv,hc⟩:=hR
 obtain⟨l1,l2,l3,l4,z1,z2,z3⟩:=F3 hl
 have p1:=pre1 σ (some (Blk.row 1 [a,b,c,v]))
 rw[← A5a]
 refine Al A2t (Z0z rfl) trivial ?_
 simp +contextual (disch:=omega) only[go_sem,Uk]
 refine Ap (Hu _ a s.know (hk.pre p1) l1) (fun h1=> ?_) (fun h1=> ?_)
 rotate_left
 ·simp +contextual (disch:=omega) only[go_sem]
  simp[Ey,h1]
 simp +contextual (disch:=omega) only[go_sem]
 refine Ap (Sf _ b s.tallies (ht.pre p1) l2 z1) (fun h2=> ?_) (fun h2=> ?_)
 rotate_left
 ·simp +contextual (disch:=omega) only[go_sem]
  simp[Ey,h2]
 simp +contextual (disch:=omega) only[go_sem]
 refine Ap (Wy _ c s.lives (hv.pre p1) l3 z2) (fun h3=> ?_) (fun h3=> ?_)
 rotate_left
 ·simp +contextual (disch:=omega) only[go_sem]
  simp[Ey,h3]
 simp +contextual (disch:=omega) only[go_sem]
 refine Ap (Wz _ v s.cells (hc.pre p1) l4 z3) (fun h4=> ?_) (fun h4=> ?_)
 rotate_left
 ·simp +contextual (disch:=omega) only[go_sem]
  simp[Ey,h4]
 simp +contextual (disch:=omega) only[go_sem]
 refine B4 s.lives.length 3 (fun i env τ=>env 1= .ptr σ.length 0∧(s.lives.take i).all (livK s.know)=true∧σ++[some (.row 1 [a,b,c,v])] <+: τ) rfl ⟨rfl,rfl,List.prefix_refl _⟩ ?_ ?_
 ·rintro i env τ hi e3 c0 ⟨e1,ha,hp⟩
  have hf:=fun h=>E1 (p:=livK s.know) hi h
  have hq:=De hi ha
  simp +contextual (disch:=omega) only[go_sem,c0,e1,e3,A5 (Nd hp),hv.len,A6 (hv.pre (Dl hp)) hi]
  refine Ap (Hh _ a s.know s.lives[i].dot (hk.pre (Dl hp)) l1) (fun h5=> ?_) (fun h5=> ?_)
  ·simp +contextual (disch:=omega) only[go_sem,e1,e3,hp]
   exact hq h5
  ·simp +contextual (disch:=omega) only[go_sem,Dl hp]
   simp[Ey,hf h5]
 ·rintro env τ e3 c0 ⟨e1,ha5,hp⟩
  rw[List.take_length] at ha5
  simp +contextual (disch:=omega) only[go_sem,c0,e1,e3,A5 (Nd hp),hv.len]
  refine B4 s.cells.length 4 (fun i env τ=>env 1= .ptr σ.length 0∧(s.cells.take i).all (celK s.cells s.know)=true∧σ++[some (.row 1 [a,b,c,v])] <+: τ) rfl ⟨e1,rfl,hp⟩ ?_ ?_
  ·rintro i env τ hi e4 c0 ⟨e1,ha,hp⟩
   have hf:=fun h=>E1 (p:=celK s.cells s.know) hi h
   have hq:=De hi ha
   have C0:=A7 (hc.pre (Dl hp)) hi
   have hr:=Nd hp
   have hr2:rdB (τ++[some (Blk.row 1 [.str s.cells[i].obj,gi s.cells[i].dot.rep,gi s.cells[i].dot.seq,gi s.cells[i].time,gi s.cells[i].ref.rep,gi s.cells[i].ref.seq,gi s.cells[i].val,.bool s.cells[i].gone])]) σ.length=some [a,b,c,v]:=Ka hr _
   simp +contextual (disch:=omega) only[go_sem,c0,e1,e4,A5 hr,A5 hr2,hc.len,C0]
   refine Ap (Hh _ a s.know s.cells[i].dot (hk.pre (A0 (Dl hp) _)) l1) (fun h6=> ?_) (fun h6=> ?_)
   rotate_left
   ·simp +contextual (disch:=omega) only[go_sem,Dl hp,A0 (Dl hp) _]
    simp[Ey,hf (by simp[celK,h6])]
   by_cases hz:s.cells[i].ref=⟨0,0⟩
   ·simp +contextual (disch:=omega) only[go_sem,e1,e4,decide_eq_true hz,A0 hp _]
    exact hq (by simp[celK,ref1,h6,hz])
   ·simp +contextual (disch:=omega) only[go_sem,e1,e4,decide_eq_false hz,A5 hr2]
    refine Ac (Uo _ a b c v s.cells s.cells[i].ref (hc.pre (A0 (Dl hp) _)) l4) ?_
    cases hx:Cm s.cells s.cells[i].ref with
    |none=>
     have hb:celK s.cells s.know s.cells[i]=false:=by simp[celK,ref1,hz,hx]
     have hn:Cj s.cells s.cells[i].ref= -1:=by simp[Cj,hx]
     simp +contextual (disch:=omega) only[go_sem,hn,Ah0,Dl hp,A0 (Dl hp) _]
     simp[Ey,hf hb]
    |some k=>
     obtain⟨hkl,_⟩:=Df hx
     have hb:celK s.cells s.know s.cells[i]=(decide (s.cells[k].obj=s.cells[i].obj)&&decide (s.cells[k].time<s.cells[i].time)):=by simp[celK,h6,ref1,hz,hx,Di hkl]
     have hn:Cj s.cells s.cells[i].ref=k:=by simp[Cj,hx]
     have hd:decide ((k:Int)<0)=false:=by simp
     simp +contextual (disch:=omega) only[go_sem,hn,hd,e1,e4,A5 hr2,A7 (hc.pre (Dl hp)) hkl,fun r=>A7 (hc.pre (A0 (Dl hp) r)) hkl,Dl hp,A0 (Dl hp) _,A0 hp _]
     refine⟨fun q1=> ?_,fun q1=>⟨fun q2=> ?_,fun q2=>hq ?_⟩⟩
     ·simp only[Bool.not_eq_true'] at q1
      rw[q1] at hb
      simp[Ey,hf (by rw[hb];rfl)]
     ·rw[decide_eq_false (show ¬ s.cells[k].time<s.cells[i].time by have:=of_decide_eq_true q2;omega),Bool.and_false] at hb
      simp[Ey,hf hb]
     ·simp only[Bool.not_eq_false'] at q1
      rw[hb,q1,decide_eq_true (show s.cells[k].time<s.cells[i].time by have:=of_decide_eq_false q2;omega)];rfl
  ·rintro env τ e4 c0 ⟨e1,ha,hp⟩
   rw[List.take_length] at ha
   simp +contextual (disch:=omega) only[go_sem,c0,e1,e4,A5 (Nd hp),hc.len,Dl hp]
   simp[Ey,h1,h2,h3,h4,ha5,ha]
theorem A2x (σ:St) (cs:List GV) (s:State) (hR:A9.R σ s cs) (d:Dot) (hl:Ad s≤1099511627776):Ret Tryz.prog Pt [.agg cs,.agg [gi d.rep,gi d.seq]] σ (gi (Cj s.cells d)) σ:=by
 obtain⟨a,b,c,v,rfl,_,_,_,h⟩:=hR
 exact Uo σ a b c v s.cells d h (F3 hl).2.2.2.1
theorem A2y (σ:St) (cs:List GV) (s:State) (hR:A9.R σ s cs) (d:Dot) (hl:Ad s≤1099511627776):Ret Tryz.prog Pu [.agg cs,.agg [gi d.rep,gi d.seq]] σ (gi (Cj s.cells d)) σ:=by
 obtain⟨a,b,c,v,rfl,_,_,_,h⟩:=hR
 exact A5i σ a b c v s.cells d h (F3 hl).2.2.2.1
end
section
open Go Go.RowKit
@[go_sem] theorem bit_tup {vs:List GV}:(GV.tup vs).bit=none:=(rfl)
def Acv (k:Int):Bool:=inB k 2 5
def Aa4 (k:Int):Bool:=k==1||k==4||k==6
def noS:ByteArray:=⟨#[]⟩
def Acw (kind val:Int):Bool:=val==0||Aa4 kind&&inB val 0 999999
def A0c (kind:Int) (obj key:ByteArray) (val:Int):Bool:=inB kind 1 7&&(Dc obj&&((if Acv kind then Dc key else decide (key=noS))&&Acw kind val))
def d0:Dot:=⟨0,0⟩
def refOk (a:Act):Bool:=if a.kind==7 then B5 a.knew a.ref else if a.kind==6 then decide (a.ref=d0)||B5 a.knew a.ref else decide (a.ref=d0)
def A0d (a:Act):Bool:=G5 a.dot&&(okK a.knew&&(decide (at0 a.knew a.dot.rep=a.dot.seq - 1)&&inB a.time 1 10000))
def A2z (a:Act):Bool:=A0d a&&(A0c a.kind a.obj a.key a.val&&refOk a)
end
section
open Go Go.RowKit
abbrev Aeg:Nat:=60
def Aeh:Fn1:=⟨34,[.t 4],(rg [oX 2 0,oX 3 1,oV 4 kf] (rg [oW 5 10 2,oC 6 185 5,oM 7 6,og 8 7 true (.ld true 10 (.t 3)),og 9 7 true (.call 185 [(.t 8)]),o 10 (.pick (.t 7) (.t 9) kf),oM 11 10,og 12 11 true (.fad 0 (.t 2)),og 13 11 true (.ld true 2 (.t 12)),og 14 11 true (.fad 0 (.t 3)),og 15 11 true (.ld true 2 (.t 14)),og 16 11 true (.eqs true [.i .i64,.i .i64] (.t 13) (.t 15)),o 17 (.pick (.t 11) (.t 16) kf),oM 18 17,og 19 18 true (.fad 3 (.t 2)),og 20 18 true (.ld false 1 (.t 19)),og 21 18 true (.fad 0 (.t 3)),og 22 18 true (.ld true 2 (.t 21)),og 23 18 true (.call 45 [(.t 20),(.t 22)]),og 24 18 true (.un .not (.t 23)),o 25 (.pick (.t 18) (.t 24) kf),oM 26 25,og 27 26 true (.fad 3 (.t 3)),og 28 26 true (.ld false 1 (.t 27)),og 29 26 true (.fad 0 (.t 2)),og 30 26 true (.ld true 2 (.t 29)),og 31 26 true (.call 45 [(.t 28),(.t 30)]),og 32 26 true (.un .not (.t 31)),o 33 (.pick (.t 26) (.t 32) kf),oM 4 33] .ret))⟩
abbrev Aei:Nat:=46
def Aej:Fn1:=⟨34,[.t 4],(rg [oX 2 0,oX 3 1,oV 4 kf] (rg [oW 5 10 2,oC 6 169 5,oM 7 6,og 8 7 true (.ld true 10 (.t 3)),og 9 7 true (.call 169 [(.t 8)]),o 10 (.pick (.t 7) (.t 9) kf),oM 11 10,og 12 11 true (.fad 0 (.t 2)),og 13 11 true (.ld true 2 (.t 12)),og 14 11 true (.fad 0 (.t 3)),og 15 11 true (.ld true 2 (.t 14)),og 16 11 true (.eqs true [.i .i64,.i .i64] (.t 13) (.t 15)),o 17 (.pick (.t 11) (.t 16) kf),oM 18 17,og 19 18 true (.fad 3 (.t 2)),og 20 18 true (.ld false 1 (.t 19)),og 21 18 true (.fad 0 (.t 3)),og 22 18 true (.ld true 2 (.t 21)),og 23 18 true (.call 170 [(.t 20),(.t 22)]),og 24 18 true (.un .not (.t 23)),o 25 (.pick (.t 18) (.t 24) kf),oM 26 25,og 27 26 true (.fad 3 (.t 3)),og 28 26 true (.ld false 1 (.t 27)),og 29 26 true (.fad 0 (.t 2)),og 30 26 true (.ld true 2 (.t 29)),og 31 26 true (.call 170 [(.t 28),(.t 30)]),og 32 26 true (.un .not (.t 31)),o 33 (.pick (.t 26) (.t 32) kf),oM 4 33] .ret))⟩
def together (a b:Act):Bool:=A2z a&&(A2z b&&(!decide (a.dot=b.dot)&&(!B5 a.knew b.dot&& !B5 b.knew a.dot)))
end
section
open Go Go.RowKit
section
variable {α:Type}
def insB (lt:α→α→Bool) (x:α):List α→List α
 |[]=>[x]
 |k::r=>if lt x k then x::k::r else k::insB lt x r
def Bc (lt:α→α→Bool) (l:List α):List α:=l.foldl (fun acc x=>insB lt x acc) []
theorem Ms {lt:α→α→Bool} {l:List α} {x:α}:Bc lt (l++[x])=insB lt x (Bc lt l):=by simp[Bc]
theorem Km (lt:α→α→Bool) (x:α):∀ l:List α,(insB lt x l).Perm (x::l)
 |[]=>.refl _
 |k::r=>by
  unfold insB
  split
  ·exact .refl _
  ·exact((Km lt x r).cons k).trans (.swap x k r)
theorem Cv (lt:α→α→Bool) (l:List α):(Bc lt l).Perm l:=by
 have key:∀(l acc:List α),(l.foldl (fun acc x=>insB lt x acc) acc).Perm (acc++l):=by
  intro l
  induction l with
  |nil=>intro acc;simp
  |cons x l ih=>
   intro acc
   simp only[List.foldl_cons]
   refine(ih _).trans ?_
   refine((Km lt x acc).append_right l).trans ?_
   rw[List.cons_append]
   exact List.perm_middle.symm
 have:=key l []
 unfold Bc
 simpa using this
theorem A5j (lt:α→α→Bool) (x:α) (l:List α):(insB lt x l).length=l.length+1:=(Km lt x l).length_eq
theorem Fm (lt:α→α→Bool) (l:List α):(Bc lt l).length=l.length:=(Cv lt l).length_eq
abbrev Up (lt:α→α→Bool) (l:List α):Prop:=l.Pairwise fun a b=>lt b a=false
open Go.Sort (SWO) in
theorem SWO.asym {lt:α→α→Bool} (h:SWO lt) {x y:α} (hxy:lt x y=true):lt y x=false:=by
 cases e:lt y x with
 |false=>rfl
 |true=>have:=h.trans _ _ _ hxy e;rw[h.irrefl] at this;cases this
theorem Aa5 {lt:α→α→Bool} (h:Go.Sort.SWO lt) {x:α}:∀ {l:List α},Up lt l→Up lt (insB lt x l)
 |[],_=>by simp[insB]
 |k::r,hl=>by
  obtain⟨h1,h2⟩:=List.pairwise_cons.1 hl
  unfold insB
  split
  ·rename_i hx
   refine List.pairwise_cons.2 ⟨fun y hy=> ?_,hl⟩
   rcases List.mem_cons.1 hy with rfl|hy
   ·exact SWO.asym h hx
   ·have:=h1 y hy
    cases e:lt y x with
    |false=>rfl
    |true=>rw[h.trans _ _ _ e hx] at this;cases this
  ·rename_i hx
   refine List.pairwise_cons.2 ⟨fun y hy=> ?_,Aa5 h h2⟩
   rcases List.mem_cons.1 ((Km lt x r).mem_iff.1 hy) with rfl|hy
   ·simpa using hx
   ·exact h1 y hy
theorem Aa6 {lt:α→α→Bool} (h:Go.Sort.SWO lt) (l:List α):Up lt (Bc lt l):=by
 have key:∀(l acc:List α),Up lt acc→Up lt (l.foldl (fun acc x=>insB lt x acc) acc):=by
  intro l
  induction l with
  |nil=>intro acc h;exact h
  |cons x l ih=>intro acc ha;exact ih _ (Aa5 h ha)
 exact key l [] .nil
theorem A30 {lt:α→α→Bool}:∀ {l m:List α},(∀ x∈l,∀ y∈l,lt x y=false→lt y x=false→x=y)→l.Perm m→Up lt l→Up lt m→l=m
 |[],m,_,hp,_,_=>(List.nil_perm.1 hp).symm
 |a::l,[],_,hp,_,_=>by have:=hp.length_eq;simp at this
 |a::l,b::m,ht,hp,h1,h2=>by
  obtain⟨h3,h4⟩:=List.pairwise_cons.1 h1
  obtain⟨h5,h6⟩:=List.pairwise_cons.1 h2
  have hab:a=b:=by
   have ha:a∈b::m:=hp.mem_iff.1 List.mem_cons_self
   have hb:b∈a::l:=hp.mem_iff.2 List.mem_cons_self
   rcases List.mem_cons.1 ha with e|ha
   ·exact e
   ·rcases List.mem_cons.1 hb with e|hb
    ·exact e.symm
    ·exact ht a List.mem_cons_self b (List.mem_cons_of_mem _ hb) (h5 a ha) (h3 b hb)
  subst hab
  rw[A30 (fun x hx y hy=>ht x (List.mem_cons_of_mem _ hx) y (List.mem_cons_of_mem _ hy)) hp.cons_inv h4 h6]
def putU [DecidableEq α] (lt:α→α→Bool) (x:α) (l:List α):List α:=if x∈l then l else insB lt x l
def Aek [DecidableEq α] (lt:α→α→Bool) (l:List α):List α:=l.foldl (fun acc x=>putU lt x acc) []
def Aa7 [DecidableEq α]:List α→List α
 |[]=>[]
 |[x]=>[x]
 |x::y::r=>if x=y then Aa7 (y::r) else x::Aa7 (y::r)
theorem Ur {lt:α→α→Bool} (h:Go.Sort.SWO lt) {l m:List α} (htri:∀ x∈l,∀ y∈l,lt x y=false→lt y x=false→x=y) (hp:m.Perm l) (hu:Up lt m):m=Bc lt l:=A30 (fun x hx y hy=>htri x (hp.mem_iff.1 hx) y (hp.mem_iff.1 hy)) (hp.trans (Cv lt l).symm) hu (Aa6 h l)
end
def ltI (a b:Int):Bool:=decide (a<b)
theorem Acx:Go.Sort.SWO txLt:=⟨Gu,fun x y z=>Lp,fun x y z h1 h2=>by
 cases e:txLt x z with
 |false=>rfl
 |true=>
  by_cases hxy:x=y
  ·subst hxy;rw[h2] at e;cases e
  ·have h3:txLt y x=true:=by
    cases e2:txLt y x with
    |true=>rfl
    |false=>exact absurd (J3 h1 e2) hxy
   rw[Lp h3 e] at h2;cases h2⟩
theorem Gh:Go.Sort.SWO Bq:=⟨Nk,fun x y z=>Hj,fun x y z h1 h2=>by
 simp only[Bq,Bool.or_eq_false_iff,Bool.and_eq_false_iff,decide_eq_false_iff_not] at *;omega⟩
end
section
open Go Go.RowKit
def A82 (a b:Cell):Bool:=decide (b.time<a.time)||decide (a.time=b.time)&&Bq b.dot a.dot
def isRef (d:Dot) (c:Cell):Bool:=decide (c.ref=d)
def isObj (o:ByteArray) (c:Cell):Bool:=decide (c.obj=o)
def rowF (sc:List Cell):Nat→Dot→List Cell
 |0,_=>[]
 |f+1,d=>(sc.filter (isRef d)).flatMap fun c=>c::rowF sc f c.dot
def Adq (sc:List Cell):Nat→Dot→Prop
 |0,d=>∀ c∈sc,c.ref≠d
 |f+1,d=>∀ c∈sc,c.ref=d→Adq sc f c.dot
theorem Adq.up {sc:List Cell}:∀ {f:Nat} {d:Dot},Adq sc f d→Adq sc (f+1) d
 |0,d,h=>fun c hc e=>absurd e (h c hc)
 |f+1,d,h=>fun c hc e=>(h c hc e).up
def fuel:Nat:=10001
def rowA (sc:List Cell) (d:Dot):List Cell:=rowF sc fuel d
theorem Ah1 {l:List Cell} (h:(l.map (·.dot)).Nodup) {a b:Cell} (ha:a∈l) (hb:b∈l) (e:a.dot=b.dot):a=b:=by
 induction l with
 |nil=>simp at ha
 |cons z l ih=>
  rw[List.map_cons,List.nodup_cons] at h
  rcases List.mem_cons.1 ha with h1|h1<;>rcases List.mem_cons.1 hb with h2|h2
  ·rw[h1,h2]
  ·exact(h.1 (by rw[← h1,e];exact List.mem_map_of_mem (f:=(·.dot)) h2)).elim
  ·exact(h.1 (by rw[← h2,←e];exact List.mem_map_of_mem (f:=(·.dot)) h1)).elim
  ·exact ih h.2 h1 h2
structure CelR (l:List Cell):Prop where
 nd:(l.map (·.dot)).Nodup
 time:∀ c∈l,1≤c.time∧c.time≤10000
 dot:∀ c∈l,G5 c.dot=true
 ref:∀ c∈l,c.ref=⟨0,0⟩∨∃ y∈l,y.dot=c.ref∧y.obj=c.obj∧y.time<c.time
 len:l.length≤120
def objC (l:List Cell) (o:ByteArray):List Cell:=Bc A82 (l.filter (isObj o))
def rowC (s:State) (o:ByteArray):List Cell:=rowA (objC s.cells o) ⟨0,0⟩
def rowL (s:State) (o:ByteArray):List Cell:=if Bh s then(rowC s o).filter (fun c=> !c.gone) else[]
def rowD (s:State) (o:ByteArray):List Dot:=if Bh s then(rowC s o).map (·.dot) else[]
end
section
open Go Go.RowKit
def addM (a b:Int):Int:=(a+b).tmod 1000000
def Jr (obj:ByteArray) (rep:Int) (t:Tally):Bool:=decide (t.obj=obj)&&decide (t.rep=rep)
def Gf (l:List Tally) (obj:ByteArray) (rep val:Int):List Tally:=match l.findIdx? (Jr obj rep) with
 |some i=>l.modify i fun t=>{t with sum:=addM t.sum val}
 |none=>insB Ah ⟨obj,rep,val⟩ l
def talPutI (l:List Tally) (obj:ByteArray) (rep val:Int):List Tally:=
 let p:=fun t=>Ah t ⟨obj,rep,0⟩
 match l.dropWhile p with
 |[]=>l.takeWhile p++[⟨obj,rep,addM 0 val⟩]
 |r::rr=>if Jr obj rep r then l.takeWhile p++⟨obj,rep,addM r.sum val⟩::rr else l.takeWhile p++⟨obj,rep,addM 0 val⟩::r::rr
theorem Qz {a b:Tally} (h:a.obj=b.obj) (h2:a.rep=b.rep):Ah a b=false:=by simp[Ah,h,h2,Gu]
theorem Nt:Go.Sort.SWO Ah:=⟨fun x=>Qz rfl rfl,fun x y z h1 h2=>by
  simp only[Ah,Bool.or_eq_true,Bool.and_eq_true,decide_eq_true_eq] at*
  rcases h1 with h1|⟨h1,h3⟩<;>rcases h2 with h2|⟨h2,h4⟩
  ·exact .inl (Lp h1 h2)
  ·exact .inl (by rw[← h2];exact h1)
  ·exact .inl (by rw[h1];exact h2)
  ·exact .inr ⟨h1.trans h2,by omega⟩,fun x y z h1 h2=>by
  simp only[Ah,Bool.or_eq_false_iff,Bool.and_eq_false_iff,decide_eq_false_iff_not] at*
  refine⟨Acx.ntrans _ _ _ h1.1 h2.1,?_⟩
  by_cases hxz:x.obj=z.obj
  ·right
   have hxy:x.obj=y.obj:=by
    by_cases e:x.obj=y.obj
    ·exact e
    ·exfalso
     have h3:txLt y.obj x.obj=true:=by
      cases e2:txLt y.obj x.obj with
      |true=>rfl
      |false=>exact absurd (J3 h1.1 e2) e
     rw[hxz] at h3
     rw[h3] at h2
     simp at h2
   rcases h1.2 with h|h
   ·exact absurd hxy h
   ·rcases h2.2 with h'|h'
    ·exact absurd (hxy.symm.trans hxz) h'
    ·omega
  ·exact .inl hxz⟩
theorem A31 {x y:Tally} (h1:Ah x y=false) (h2:Ah y x=false):x.obj=y.obj∧x.rep=y.rep:=by
 simp only[Ah,Bool.or_eq_false_iff,Bool.and_eq_false_iff,decide_eq_false_iff_not] at*
 have e:=J3 h1.1 h2.1
 refine⟨e,?_⟩
 rcases h1.2 with h|h
 ·exact absurd e h
 ·rcases h2.2 with h'|h'
  ·exact absurd e.symm h'
  ·omega
theorem A32 {obj:ByteArray} {rep:Int} {t:Tally}:Jr obj rep t=true↔t.obj=obj∧t.rep=rep:=by simp[Jr]
def insW {α:Type} (p:α→Bool) (x:α) (l:List α):List α:=l.takeWhile p++x::l.dropWhile p
def Mt (x:Live) (l:List Live):List Live:=insB Br x l
def Mu (x:Cell) (l:List Cell):List Cell:=insB Cl x l
def Acy (m:Bool) (obj key:ByteArray) (knew:List Int) (x:Live):Bool:= !(x.map==m)||(!decide (x.obj=obj)||(!decide (x.key=key)|| !B5 knew x.dot))
def M4 (l:List Cell) (d:Dot):List Cell:=match Cm l d with
 |some k=>l.modify k fun c=>{c with gone:=true}
 |none=>l
def Ael (s:State) (a:Act):State:=
 if a.kind=1 then {s with tallies:=Gf s.tallies a.obj a.dot.rep a.val}
 else if a.kind=2 then {s with lives:=Mt ⟨false,a.obj,a.key,0,a.dot⟩ s.lives}
 else if a.kind=3 then {s with lives:=s.lives.filter (Acy false a.obj a.key a.knew)}
 else if a.kind=4 then {s with lives:=Mt ⟨true,a.obj,a.key,a.val,a.dot⟩ (s.lives.filter (Acy true a.obj a.key a.knew))}
 else if a.kind=5 then {s with lives:=s.lives.filter (Acy true a.obj a.key a.knew)}
 else if a.kind=6 then {s with cells:=Mu ⟨a.obj,a.dot,a.time,a.ref,a.val,false⟩ s.cells}
 else {s with cells:=M4 s.cells a.ref}
def Aa8 (s:State) (a:Act):State:=Ael {s with know:=s.know.set a.dot.rep.toNat a.dot.seq} a
def A0e (s:State):Bool:=decide (120<s.tallies.length)||(decide (120<s.lives.length)||decide (120<s.cells.length))
def Ah2 (s:State) (a:Act):Bool:=if a.kind=7∨(a.kind=6∧a.ref≠d0) then(match Cm s.cells a.ref with
 |some k=>onI s.cells k fun c=>decide (c.obj=a.obj)&&(decide (a.kind=7)||decide (c.time<a.time))
 |none=>false) else true
def A5k (s:State) (a:Act):State×Int:=
 if !(Bh s&&A2z a) then(s,3) else if B5 s.know a.dot then(s,1) else if !M3 a.knew s.know then(s,2) else if !Ah2 s a then(s,3) else
 if A0e (Aa8 s a) then(s,4) else(Aa8 s a,0)
end
section
open Go Go.RowKit
def countF (o:ByteArray) (n:Int) (t:Tally):Int:=if t.obj=o then addM n (t.sum.tmod 1000000) else n
def countOf (s:State) (o:ByteArray):Int:=s.tallies.foldl (countF o) 0
def isLive (m:Bool) (o k:ByteArray) (l:Live):Bool:=(l.map==m)&&(decide (l.obj=o)&&decide (l.key=k))
def Aa9 (s:State) (m:Bool) (o k:ByteArray):List Live:=s.lives.filter (isLive m o k)
def Ah3 (m:Bool) (o:ByteArray) (l:Live):Bool:=(l.map==m)&&decide (l.obj=o)
def keysOf (s:State) (m:Bool) (o:ByteArray):List ByteArray:=Aek txLt ((s.lives.filter (Ah3 m o)).map (·.key))
def mapOf (s:State) (o k:ByteArray):List Int:=Bc ltI ((Aa9 s true o k).map (·.val))
def rowOf (s:State) (o:ByteArray):List Int:=(rowL s o).map (·.val)
def rowWhose (s:State) (o:ByteArray):List Int:=(rowL s o).map (·.dot.rep)
def livesWhose (s:State) (m:Bool) (o k:ByteArray):List Int:=Aek ltI ((Aa9 s m o k).map (·.dot.rep))
end
section
open Go Go.RowKit
section
variable {α:Type} {lt:α→α→Bool} {x:α} {acc nxt:List α} {j:Nat} {put:Bool}
def insG (lt:α→α→Bool) (x:α) (acc nxt:List α) (j:Nat) (put:Bool):Prop:=if put then nxt++acc.drop j=insB lt x acc else nxt++insB lt x (acc.drop j)=insB lt x acc
theorem A0f:insG lt x acc [] 0 false:=by simp[insG]
theorem Ga (h:insG lt x acc nxt j put):nxt.length≤acc.length+1:=by
 unfold insG at h
 have:(insB lt x acc).length=acc.length+1:=A5j lt x acc
 split at h
 ·rw[← this,←h];simp
 ·rw[← this,←h];simp
theorem Tb (h:insG lt x acc nxt j false) (hj:j<acc.length) (hl:lt x acc[j]=true):insG lt x acc (nxt++[x]++[acc[j]]) (j+1) true:=by
 simp only[insG,Bool.false_eq_true,if_false,if_true] at h ⊢
 rw[List.drop_eq_getElem_cons hj,insB,if_pos hl] at h
 rw[← h];simp
theorem Hk (h:insG lt x acc nxt j put) (hj:j<acc.length) (hl:put=true∨lt x acc[j]=false):insG lt x acc (nxt++[acc[j]]) (j+1) put:=by
 cases put with
 |true=>
  simp only[insG,if_true] at h ⊢
  rw[List.drop_eq_getElem_cons hj] at h
  rw[← h];simp
 |false=>
  have hl:lt x acc[j]=false:=hl.resolve_left (by intro h;cases h)
  simp only[insG,Bool.false_eq_true,if_false] at h ⊢
  rw[List.drop_eq_getElem_cons hj,insB,if_neg (by rw[hl];simp)] at h
  rw[← h];simp
theorem A0g (h:insG lt x acc nxt acc.length put):(if put then nxt else nxt++[x])=insB lt x acc:=by
 unfold insG at h
 split
 ·rename_i hp;rw[if_pos hp] at h;simpa using h
 ·rename_i hp;rw[if_neg hp] at h;simpa [insB] using h
end
def isZ (d:Dot):Bool:=decide (d=⟨0,0⟩)
def selfD (d:Dot):List Dot:=if isZ d then[] else[d]
def stackD (sc:List Cell) (S:List Dot):List Dot:=S.reverse.flatMap fun d=>selfD d++(rowA sc d).map (·.dot)
def stackM (sc:List Cell) (S:List Dot):Nat:=(S.map fun d=>1+(rowA sc d).length).sum
end
section
open Go Go.RowKit
structure El (α:Type) [Inhabited α] where
 p:Pl α
 g:Bool
 val:α→GV
 hv:∀ x,mkv g (p.enc x)=some (val x)
 hc:∀ x,(val x).cells=p.enc x
 hz:0<p.z
section
variable {α:Type} [Inhabited α] {e:El α} {σ τ:St} {rs:List Thg} {v:GV} {d:Array α}
open Go.Sort (swp)
theorem Ah4 {j:Nat} (hj:j<d.size):d.toList[j]? =some d[j]! :=by
 rw[getElem!_pos d j hj];simp
theorem El.at (e:El α) (H:Hp σ τ rs) (k:Nat) (hk:rs[k]? =some (ow e.p.kd v d.toList)) {j:Nat} (hj:j<d.size):iadG e.p.z v (some j)=some (atz e.p.z v j)∧ldG e.g e.p.z τ (atz e.p.z v j)=some (e.val d[j]!):=by
 have h:=H.sl k hk
 have hl:j<d.toList.length:=by simpa using hj
 refine⟨RdN.iad h hl,?_⟩
 obtain⟨cs,hR,hs⟩:=RdN.cells h hl
 have e1:cs=e.p.enc d.toList[j]:=hR
 have e2:d.toList[j]=d[j]! :=by
  have:=Ah4 hj
  rw[List.getElem?_eq_getElem hl] at this
  injection this
 have hlen:=e.p.len d.toList[j]
 have:=hs 0 e.p.z cs (by unfold seg;rw[if_pos (by rw[e1,hlen];omega),List.drop_zero,List.take_of_length_le (by rw[e1,hlen];exact Nat.le_refl _)]) e.g
 rw[Acj] at this
 have this:ldG e.g e.p.z τ (atz e.p.z v j)=mkv e.g cs:=this
 rw[this,e1,e.hv,e2]
theorem El.sw (e:El α) (H:Hp σ τ rs) (k:Nat) (hk:rs[k]? =some (ow e.p.kd v d.toList)) {a b:Nat} (ha:a<d.size) (hb:b<d.size):∃ τ1 τ2,stG e.p.z τ (atz e.p.z v a) (e.val d[b]!)=some (.tup [],τ1)∧stG e.p.z τ1 (atz e.p.z v b) (e.val d[a]!)=some (.tup [],τ2)∧Hp σ τ2 (rs.set k (ow e.p.kd v (swp d a b).toList)):=by
 have hkl:=(List.getElem?_eq_some_iff.1 hk).1
 obtain⟨τ1,e1,H1⟩:=H.stw k hk (j:=a) (by simpa using ha) e.p.z (e.val d[b]!) d[b]! (e.hc _) rfl e.hz
 obtain⟨τ2,e2,H2⟩:=H1.stw k (by rw[List.getElem?_set_self hkl]) (j:=b) (by simpa using hb) e.p.z (e.val d[a]!) d[a]! (e.hc _) rfl e.hz
 refine⟨τ1,τ2,e1,e2,?_⟩
 rw[List.set_set] at H2
 have:(swp d a b).toList=(d.toList.set a d[b]!).set b d[a]! :=by simp[swp]
 rw[this];exact H2
def Holds (e:El α) (σ0 τ:St) (rs:List Thg) (k:Nat) (v:GV) (d:Array α):Prop:=k<rs.length∧Hp σ0 τ (rs.set k (ow e.p.kd v d.toList))
theorem Holds.of {σ0:St} (H:Hp σ0 τ rs) {k:Nat} (hk:rs[k]? =some (ow e.p.kd v d.toList)):Holds e σ0 τ rs k v d:=by
 obtain⟨h1,h2⟩:=List.getElem?_eq_some_iff.1 hk
 refine⟨h1,?_⟩
 rw[← h2,List.set_getElem_self];exact H
theorem Holds.at {σ0:St} {k:Nat} (h:Holds e σ0 τ rs k v d) {j:Nat} (hj:j<d.size):iadG e.p.z v (some j)=some (atz e.p.z v j)∧ldG e.g e.p.z τ (atz e.p.z v j)=some (e.val d[j]!):=e.at h.2 k (List.getElem?_set_self h.1) hj
theorem Holds.iad {σ0:St} {k:Nat} (h:Holds e σ0 τ rs k v d) {j:Nat} (hj:j<d.size):iadG e.p.z v (some j)=some (atz e.p.z v j):=(h.at hj).1
theorem Holds.ld {σ0:St} {k:Nat} (h:Holds e σ0 τ rs k v d) {j:Nat} (hj:j<d.size):ldG e.g e.p.z τ (atz e.p.z v j)=some (e.val d[j]!):=(h.at hj).2
theorem Holds.sw {σ0:St} {k:Nat} (h:Holds e σ0 τ rs k v d) {a b:Nat} (ha:a<d.size) (hb:b<d.size):∃ τ1 τ2,stG e.p.z τ (atz e.p.z v a) (e.val d[b]!)=some (.tup [],τ1)∧stG e.p.z τ1 (atz e.p.z v b) (e.val d[a]!)=some (.tup [],τ2)∧Holds e σ0 τ2 rs k v (swp d a b)∧τ2.length=τ.length:=by
 obtain⟨τ1,τ2,e1,e2,H⟩:=e.sw h.2 k (List.getElem?_set_self h.1) ha hb
 exact⟨τ1,τ2,e1,e2,⟨h.1,by rwa [List.set_set] at H⟩,by rw[Cr e2,Cr e1]⟩
theorem C5 {k:IntKind} {x:Int} {j:Nat} (h:x=(j:Int)):Bk (some (.int k x))=some j:=by rw[h];exact A4
theorem swp_size (d:Array α) (i j:Nat):(swp d i j).size=d.size:=by simp[swp]
end
theorem Ia {P:Program} {a:Cd} {Q:Ex→Env→St→Prop} {env:Env} {σ:St} (I:Nat→Env→St→Prop) (n j0:Nat) (X:Env→St→Prop) (h0:I n env σ)
  (hs:∀(J:Nat→Env→St→Prop) (Y:Env→St→Prop),(∀ k env σ,I k env σ→J k env σ)→(∀ env σ,X env σ→Y env σ)→∀ k env σ,I k env σ→vc P a (fun e env' σ'=>match e with| .nxt=>∃ k',k'<k∧J k' env' σ'| .ext j=>if j=j0 then Y env' σ' else Q (.ext j) env' σ'| .ret=>Q .ret env' σ') env σ)
  (hx:∀ env σ,X env σ→Q (.ext j0) env σ):vc P (.lop a) Q env σ:=by
 refine Xv I n h0 fun k env σ hI=>B6 (hs I X (fun _ _ _ h=>h) (fun _ _ h=>h) k env σ hI) fun e env' σ' he=> ?_
 cases e with
 |nxt=>exact he
 |ret=>exact he
 |ext j=>
  have h5:if j=j0 then X env' σ' else Q (.ext j) env' σ':=he
  by_cases h:j=j0
  ·rw[if_pos h] at h5
   subst h;exact hx _ _ h5
  ·rw[if_neg h] at h5;exact h5
theorem A5l {P:Program} {a:Cd} {Q:Ex→Env→St→Prop} {env:Env} {σ:St} (n ri j0:Nat) (I:Nat→Env→St→Prop) (X:Env→St→Prop) (hr:env ri=gi 0) (h0:I 0 env σ)
  (hs:∀(J:Nat→Env→St→Prop) (Y:Env→St→Prop),(∀ i env σ,I i env σ→J i env σ)→(∀ env σ,X env σ→Y env σ)→∀ i env σ,i<n→env ri=gi i→decide ((i:Int)<n)=true→I i env σ→vc P a (fun e env' σ'=>match e with| .nxt=>env' ri=gi ((i:Int)+1)∧J (i+1) env' σ'| .ext j=>j=j0∧Y env' σ'| .ret=>False) env σ)
  (he:∀(Y:Env→St→Prop),(∀ env σ,X env σ→Y env σ)→∀ env σ,env ri=gi n→decide ((n:Int)<n)=false→I n env σ→vc P a (fun e env' σ'=>match e with| .nxt=>False| .ext j=>j=j0∧Y env' σ'| .ret=>False) env σ)
  (hx:∀ env σ,X env σ→Q (.ext j0) env σ):vc P (.lop a) Q env σ:=by
 refine B4 n ri I hr h0 (fun i env σ h1 h2 h3 h4=>B6 (hs I X (fun _ _ _ h=>h) (fun _ _ h=>h) i env σ h1 h2 h3 h4) fun e env' σ' hq=> ?_) (fun env σ h1 h2 h3=>B6 (he X (fun _ _ h=>h) env σ h1 h2 h3) fun e env' σ' hq=> ?_)
 ·cases e with
  |nxt=>exact hq
  |ret=>exact hq.elim
  |ext j=>obtain⟨rfl,hq⟩:=hq;exact hx _ _ hq
 ·cases e with
  |nxt=>exact hq
  |ret=>exact hq.elim
  |ext j=>obtain⟨rfl,hq⟩:=hq;exact hx _ _ hq
theorem Kn {P:Program} {a b:Cd} {Q:Ex→Env→St→Prop} {env:Env} {σ:St} (X:Env→St→Prop)
  (ha:∀ Y:Env→St→Prop,(∀ env σ,X env σ→Y env σ)→vc P a (fun e env' σ'=>match e with| .nxt=>Y env' σ'| .ext j=>Q (.ext j) env' σ'| .ret=>Q .ret env' σ') env σ)
  (hb:∀ env σ,X env σ→vc P b Q env σ):vc P (.seq a b) Q env σ:=by
 rw[vc_seq]
 refine B6 (ha X fun _ _ h=>h) fun e env' σ' he=> ?_
 cases e with
 |nxt=>exact hb _ _ he
 |ret=>exact he
 |ext j=>exact he
open Go.Sort (bitsLen bitsLen_le_iff)
abbrev len8:ByteArray:=⟨#[0,1,2,2,3,3,3,3,4,4,4,4,4,4,4,4,5,5,5,5,5,5,5,5,5,5,5,5,5,5,5,5,6,6,6,6,6,6,6,6,6,6,6,6,6,6,6,6,6,6,6,6,6,6,6,6,6,6,6,6,6,6,6,6,7,7,7,7,7,7,7,7,7,7,7,7,7,7,7,7,7,7,7,7,7,7,7,7,7,7,7,7,7,7,7,7,7,7,7,7,7,7,7,7,7,7,7,7,7,7,7,7,7,7,7,7,7,7,7,7,7,7,7,7,7,7,7,7,8,8,8,8,8,8,8,8,8,8,8,8,8,8,8,8,8,8,8,8,8,8,8,8,8,8,8,8,8,8,8,8,8,8,8,8,8,8,8,8,8,8,8,8,8,8,8,8,8,8,8,8,8,8,8,8,8,8,8,8,8,8,8,8,8,8,8,8,8,8,8,8,8,8,8,8,8,8,8,8,8,8,8,8,8,8,8,8,8,8,8,8,8,8,8,8,8,8,8,8,8,8,8,8,8,8,8,8,8,8,8,8,8,8,8,8,8,8,8,8,8,8,8,8,8,8,8,8]⟩
set_option maxRecDepth 100000 in
theorem Acz:(bl len8).length=256:=by decide +kernel
set_option maxRecDepth 100000 in
theorem Pv {m:Nat} (h:m<256):idxG (.str len8) (some m)=some (.int .u8 (bitsLen m:Nat)):=by
 have key:∀ m:Fin 256,idxG (.str len8) (some m.1)=some (.int .u8 (bitsLen m.1:Nat)):=by
  intro m
  have hm:m.1<(bl len8).length:=by rw[Acz];exact m.2
  rw[A9y hm]
  have:∀ m:Fin 256,((bl len8).getD m.1 0).toNat=bitsLen m.1:=by decide +kernel
  have h2:=this m
  rw[List.getD_eq_getElem?_getD,List.getElem?_eq_getElem hm,Option.getD_some] at h2
  rw[h2]
 exact key ⟨m,h⟩
theorem A83 {x k:Nat} (h:2 ^ k≤x):bitsLen x=bitsLen (x / 2 ^ k)+k:=by
 have h1:∀ m,bitsLen x≤m↔bitsLen (x / 2 ^ k)+k≤m:=by
  intro m
  rw[bitsLen_le_iff]
  have hx:¬ x<2 ^ k:=by omega
  constructor
  ·intro hlt
   have hkm:k<m:=by
    rcases Nat.lt_or_ge k m with h2|h2
    ·exact h2
    ·have:2 ^ m≤2 ^ k:=Nat.pow_le_pow_right (by omega) h2
     omega
   have:bitsLen (x / 2 ^ k)≤m - k:=by
    rw[bitsLen_le_iff,Nat.div_lt_iff_lt_mul (Nat.two_pow_pos k),←Nat.pow_add]
    rwa [Nat.sub_add_cancel (by omega)]
   omega
  ·intro hle
   have:bitsLen (x / 2 ^ k)≤m - k:=by omega
   rw[bitsLen_le_iff,Nat.div_lt_iff_lt_mul (Nat.two_pow_pos k),←Nat.pow_add,Nat.sub_add_cancel (by omega)] at this
   exact this
 have h2:=(h1 _).1 (Nat.le_refl _)
 have h3:=(h1 _).2 (Nat.le_refl _)
 omega
theorem Aaa {n:Nat} (h:n≤1099511627776):bitsLen n≤41:=(bitsLen_le_iff n 41).2 (by omega)
end
end Go.Proofs.YtbeoiejnogdkpaaGreat.Sy
