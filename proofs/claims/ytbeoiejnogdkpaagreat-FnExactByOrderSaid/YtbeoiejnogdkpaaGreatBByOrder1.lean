/- Texts of this proof, one behind the other. -/
import Derived.Test.YtbeoiejnogdkpaaGreatBC
import Derived.Test.YtbeoiejnogdkpaaGreatProg
import Derived.KernelRfl
namespace Go.Proofs.YtbeoiejnogdkpaaGreat.Sy
open Go Go.RowKit
set_option linter.unusedSimpArgs false
set_option linter.unusedVariables false
def lf (n:Int) (m:Nat):Int:=if n - m<0 then -1 else n - m
theorem lf_neg {n:Int} {m:Nat}:lf n m<0↔n<m:=by unfold lf;split<;>omega
theorem lf_some {n:Int} {m:Nat} (h:¬ lf n m<0):lf n m=n - m:=by unfold lf at *;split at h<;>first|omega|(rw [if_neg ‹_›])
theorem lf_le {n:Int} {m:Nat} (h:0≤n):lf n m≤n:=by unfold lf;split<;>omega
theorem lf_ge {n:Int} {m:Nat}: -1≤lf n m:=by unfold lf;split<;>omega
def msL {α:Type} (f:α→Nat) (l:List α):Nat:=l.length+(l.map f).sum
def sumL {α:Type} (f:α→Nat) (l:List α):Nat:=(l.map f).sum
theorem sumL_snoc {α:Type} {f:α→Nat} {l:List α} {i:Nat} (h:i<l.length):sumL f (l.take (i+1))=sumL f (l.take i)+f l[i]:=by
 unfold sumL;rw[take_snoc h,List.map_append,List.sum_append];simp
theorem sumL_take_le {α:Type} (f:α→Nat) (l:List α) (i:Nat):sumL f (l.take i)≤sumL f l:=by
 have:sumL f l=sumL f (l.take i)+sumL f (l.drop i):=by
  conv=>lhs;rw[← List.take_append_drop i l]
  unfold sumL;rw[List.map_append,List.sum_append]
 omega
theorem sumL_mem {α:Type} {f:α→Nat} {l:List α} {x:α} (h:x∈l):f x≤sumL f l:=by
 induction l with
 |nil=>simp at h
 |cons y l ih=>
  simp only[sumL,List.map_cons,List.sum_cons] at*
  rcases List.mem_cons.1 h with rfl|h
  ·omega
  ·have:=ih h;omega
theorem fld_zero {z i:Nat} {v:GV}:fld 0 (atz z v i)=atz z v i:=by
 cases v<;>rfl
theorem reps_enc {α:Type} (p:Pl α) (x:α) (n:Nat):reps n (p.enc x)=p.cells (List.replicate n x):=by
 unfold reps
 induction n with
 |zero=>rfl
 |succ n ih=>
  rw[List.replicate_succ,List.flatten_cons,ih,List.replicate_succ];rfl
theorem fill_step {α:Type} {l:List α} {z:α} {i:Nat} (h:i<l.length):(l.take i++List.replicate (l.length - i) z).set i l[i]=l.take (i+1)++List.replicate (l.length - (i+1)) z:=by
 rw[take_snoc h,List.set_append_right _ _ (by simp;omega)]
 have e1:i - (l.take i).length=0:=by simp;omega
 rw[e1,show l.length - i=(l.length - (i+1))+1 by omega,List.replicate_succ,List.set_cons_zero,List.append_assoc]
 rfl
theorem fill_len {α:Type} {l:List α} {z:α} {i:Nat} (h:i<l.length):i<(l.take i++List.replicate (l.length - i) z).length:=by simp;omega
theorem fill_end {α:Type} {l:List α} {z:α}:l.take l.length++List.replicate (l.length - l.length) z=l:=by simp
def mkF {α:Type} (e:Int→α) (c:Nat) (k:Int) (n:Nat):List α:=(List.range n).map fun j:Nat=>e (k+c*j)
theorem mkF_length {α:Type} {e:Int→α} {c:Nat} {k:Int} {n:Nat}:(mkF e c k n).length=n:=by simp[mkF]
theorem mkF_get {α:Type} {e:Int→α} {c:Nat} {k:Int} {n j:Nat} (h:j<(mkF e c k n).length):(mkF e c k n)[j]=e (k+c*j):=by simp[mkF]
theorem mark_step {α:Type} {l:List α} {e:Int→α} {c:Nat} {k:Int} {i:Nat} (h:i<l.length):((mkF e c k l.length).take i++l.drop i).set i (e (k+c*i))=(mkF e c k l.length).take (i+1)++l.drop (i+1):=by
 have hki:i<(mkF e c k l.length).length:=by rw[mkF_length];exact h
 rw[take_snoc hki,mkF_get,List.set_append_right _ _ (by simp[mkF_length];omega)]
 have e1:i - ((mkF e c k l.length).take i).length=0:=by simp[mkF_length];omega
 rw[e1,List.drop_eq_getElem_cons h,List.set_cons_zero,List.append_assoc]
 rfl
theorem mark_len {α:Type} {l:List α} {e:Int→α} {c:Nat} {k:Int} {i:Nat}:((mkF e c k l.length).take i++l.drop i).length=l.length:=by simp[mkF_length];omega
theorem mark_end {α:Type} {l:List α} {e:Int→α} {c:Nat} {k:Int}:(mkF e c k l.length).take l.length++l.drop l.length=mkF e c k l.length:=by
 rw[List.take_of_length_le (by rw[mkF_length];omega)];simp
namespace Hp
theorem sts {α:Type} {p:Pl α} {σ τ:St} {rs:List Thg} {v:GV} {L:List α} {j:Nat} {y:α} (H:Hp σ τ (ow p.kd v (L.set j y)::rs)) (hj:j<L.length) (n k:Nat) (x:GV) (y':α) (hx:x.cells.length=n) (hn:0<n) (hk:k+n≤p.z) (hy:p.enc y'=splice (p.enc y) k x.cells):
  ∃ τ',stG n τ (fld k (atz p.z v j)) x=some (.tup [],τ')∧Hp σ τ' (ow p.kd v (L.set j y')::rs):=by
 obtain⟨τ',e,h⟩:=H.ste 0 rfl (j:=j) (by simpa using hj) n k x y' hx hn hk (by rw[List.getElem_set_self];exact hy)
 refine⟨τ',e,?_⟩
 have h:Hp σ τ' (ow p.kd v ((L.set j y).set j y')::rs):=h
 rw[List.set_set] at h;exact h
end Hp
theorem set_self {α:Type} {l:List α} {i:Nat} (h:i<l.length):l=l.set i l[i]:=by rw[List.set_getElem_self]
def figs (n:Nat):List Int:=if n=0 then[] else figs (n / 10)++[48+((n % 10:Nat):Int)]
termination_by n
decreasing_by omega
def mtx (k:Int):ByteArray:=if k≤0 then⟨#[109,48]⟩ else⟨#[109]⟩++txt (figs k.toNat)
abbrev n_l_markText:Nat:=110
def F_l_markText:Fn1:=⟨20,[.t 2],(.seq (.reg [o 2 (.mov (.k (.str ⟨#[]⟩)))]) (.seq (.seq (.reg [o 4 (.mov (.t 0)),o 5 (.bin .leq (.t 4) (.k (.int .i64 0)))]) (.cnd (.t 5) (.seq (.reg [o 2 (.mov (.k (.str ⟨#[109,48]⟩)))]) .ret) .skip)) (.seq (.reg [o 3 (.mov (.k (.str ⟨#[]⟩)))]) (.seq (.blk 0 (.lop (.seq (.seq (.reg [o 6 (.mov (.t 0)),o 7 (.bin .gtr (.t 6) (.k (.int .i64 0)))]) (.cnd (.t 7) .skip (.ext 0))) (.blk 1 (.seq (.reg [o 8 (.mov (.t 0)),o 9 (.bin .rem (.t 8) (.k (.int .i64 10))),o 10 (.bin .add (.k (.int .i64 48)) (.t 9)),o 11 (.cvi .u8 (.t 10)),o 12 (.lit 1 1 [(.int .u8 0)] [(0,1,(.t 11))]),o 13 (.bts (.t 12)),o 14 (.mov (.t 3)),o 15 (.bin .add (.t 13) (.t 14)),o 3 (.mov (.t 15))]) (.reg [o 16 (.mov (.t 0)),o 17 (.bin .quo (.t 16) (.k (.int .i64 10))),o 0 (.mov (.t 17))])))))) (.seq (.reg [o 18 (.mov (.t 3)),o 19 (.bin .add (.k (.str ⟨#[109]⟩)) (.t 18)),o 2 (.mov (.t 19))]) .ret)))))⟩
theorem ir_l_markText:compFn Tryz.prog n_l_markText=some F_l_markText:=by kernel_rfl
theorem figs_length (n:Nat):(figs n).length≤n:=by
 induction n using Nat.strongRecOn with
 |_ n ih=>
  unfold figs
  split
  ·simp
  ·have:=ih (n / 10) (by omega)
   simp;omega
theorem txt_size (l:List Int):(txt l).size=l.length:=by simp[txt,ByteArray.size]
theorem figs_app (n:Nat) (h:0<n) (s:List Int):figs (n / 10)++((48+((n % 10:Nat):Int))::s)=figs n++s:=by
 conv=>rhs;unfold figs
 rw[if_neg (by omega)];simp
theorem bts_new {τ:St} {n:Int}:((elems (τ++[some (.row 1 [.int .u8 n])]) 1 (.sl τ.length 0 1)).bind fun r=>(bytesOf r.2).map fun bs=>GV.str ⟨bs.toArray⟩)=some (.str (txt [n])):=by
 refine bts_ok (.inr ⟨τ.length,0,[.int .u8 n],rfl,by unfold rdB;simp[Blk.cells],by show 0+1*1≤1;omega,fun i x hx=> ?_⟩)
 cases i with
 |zero=>simp at hx;subst hx;rfl
 |succ i=>simp at hx
theorem l_markText_ret (σ:St) (k:Int) (hk:k≤4611686018427387904):Ret Tryz.prog n_l_markText [gi k] σ (.str (mtx k)) σ:=by
 refine ret_eq ir_l_markText (Nat.le_of_ble_eq_true rfl) trivial ?_
 simp +contextual (disch:=omega) only[go_sem,F_l_markText]
 refine⟨fun h=> ?_,fun h=> ?_⟩
 ·rw[mtx,if_pos (of_decide_eq_true h)]
 ·have h:=of_decide_eq_false h
  have hf:=figs_length k.toNat
  refine vc_lop (fun q env τ=>∃(s:List Int),env 0=gi q∧q≤k.toNat∧env 3= .str (txt s)∧figs q++s=figs k.toNat∧σ <+: τ) k.toNat ⟨[],by show gi k=_;rw[Int.toNat_of_nonneg (by omega)],Nat.le_refl _,rfl,by simp,List.prefix_refl _⟩ ?_
  rintro m env τ ⟨s,e0,hmk,e3,hs,hp⟩
  have hsl:s.length≤k.toNat:=by have:=congrArg List.length hs;simp at this;omega
  rcases Nat.eq_zero_or_pos m with rfl|hm
  ·have hs':s=figs k.toNat:=by rw[← hs,figs];simp
   have hsz:(⟨#[109]⟩:ByteArray).size=1:=rfl
   have hle:1+s.length≤9223372036854775807:=by omega
   simp +contextual (disch:=omega) only[go_sem,e0,e3,hp,txt_size,hsz,hle,Int.natCast_zero,Int.lt_irrefl]
   rw[mtx,if_neg h,hs']
  ·have hgt:decide (0<(m:Int))=true:=by simp;omega
   have hle:1+s.length≤9223372036854775807:=by omega
   have hm10:(m:Int).tmod 10=((m % 10:Nat):Int):=by rw[Int.tmod_eq_emod_of_nonneg (by omega)];omega
   have hd10:(m:Int).tdiv 10=((m / 10:Nat):Int):=by rw[Int.tdiv_eq_ediv_of_nonneg (by omega)];omega
   have h10:((10:Int)=0)=False:=by simp
   have hw8:IntKind.u8.wrap (48+((m % 10:Nat):Int))=48+((m % 10:Nat):Int):=wrap8 (by omega) (by omega)
   simp +contextual (disch:=omega) only[go_sem,e0,e3,hgt,h10,hm10,hd10,hw8,hle,bts_new,txt_size,←txt_append]
   refine⟨m / 10,by omega,_,rfl,by omega,rfl,?_,pre_app hp _⟩
   rw[← hs,←figs_app m hm]
end Go.Proofs.YtbeoiejnogdkpaaGreat.Sy
namespace Go.Proofs.YtbeoiejnogdkpaaGreat.Sy
open Go Go.RowKit
set_option linter.unusedSimpArgs false
set_option linter.unusedVariables false
def msString (s:ByteArray):Nat:=s.size
def wString (s:ByteArray):Prop:=s.size≤9223372036854775807
def msIntS (l:List Int):Nat:=l.length
def wIntS (l:List Int):Prop:=l.length≤9223372036854775807
def msTally (x:Tally):Nat:=x.obj.size
def wTally (x:Tally):Prop:=x.obj.size≤9223372036854775807
def msLive (x:Live):Nat:=x.obj.size+x.key.size
def wLive (x:Live):Prop:=x.obj.size≤9223372036854775807∧x.key.size≤9223372036854775807
def msCell (x:Cell):Nat:=x.obj.size
def wCell (x:Cell):Prop:=x.obj.size≤9223372036854775807
def msEdit (x:Edit):Nat:=x.obj.size+x.key.size
def wEdit (x:Edit):Prop:=x.obj.size≤9223372036854775807∧x.key.size≤9223372036854775807
def msWatch (x:Watch):Nat:=x.obj.size+x.key.size
def wWatch (x:Watch):Prop:=x.obj.size≤9223372036854775807∧x.key.size≤9223372036854775807
def msClash (x:Clash):Nat:=x.obj.size+x.key.size
def wClash (x:Clash):Prop:=x.obj.size≤9223372036854775807∧x.key.size≤9223372036854775807
def msFile (x:File):Nat:=x.text.size
def wFile (x:File):Prop:=x.text.size≤9223372036854775807
def msLetter (x:Letter):Nat:=x.text.size
def wLetter (x:Letter):Prop:=x.text.size≤9223372036854775807
def msEvent (x:Event):Nat:=msEdit x.edit
def wEvent (x:Event):Prop:=wEdit x.edit
def msAct (x:Act):Nat:=x.knew.length+x.obj.size+x.key.size
def wAct (x:Act):Prop:=x.knew.length≤9223372036854775807∧x.obj.size≤9223372036854775807∧x.key.size≤9223372036854775807
instance:DecidableEq Act:=fun a b=>if h:a.dot=b.dot∧a.time=b.time∧a.knew=b.knew∧a.kind=b.kind∧a.obj=b.obj∧a.key=b.key∧a.val=b.val∧a.ref=b.ref then isTrue (by cases a;cases b;simp only at h;obtain⟨rfl,rfl,rfl,rfl,rfl,rfl,rfl,rfl⟩:=h;rfl) else isFalse (fun e=>h (by subst e;exact⟨rfl,rfl,rfl,rfl,rfl,rfl,rfl,rfl⟩))
theorem Act.eq_iff {a b:Act}:a=b↔a.dot=b.dot∧a.time=b.time∧a.knew=b.knew∧a.kind=b.kind∧a.obj=b.obj∧a.key=b.key∧a.val=b.val∧a.ref=b.ref:=⟨fun h=>by subst h;exact⟨rfl,rfl,rfl,rfl,rfl,rfl,rfl,rfl⟩,fun h=>by cases a;cases b;simp only at h;obtain⟨rfl,rfl,rfl,rfl,rfl,rfl,rfl,rfl⟩:=h;rfl⟩
def msState (x:State):Nat:=x.know.length+(x.tallies.length+sumL msTally x.tallies)+(x.lives.length+sumL msLive x.lives)+(x.cells.length+sumL msCell x.cells)
def wState (x:State):Prop:=x.know.length≤9223372036854775807∧(x.tallies.length≤9223372036854775807∧∀ y∈x.tallies,wTally y)∧(x.lives.length≤9223372036854775807∧∀ y∈x.lives,wLive y)∧(x.cells.length≤9223372036854775807∧∀ y∈x.cells,wCell y)
instance:DecidableEq State:=fun a b=>if h:a.know=b.know∧a.tallies=b.tallies∧a.lives=b.lives∧a.cells=b.cells then isTrue (by cases a;cases b;simp only at h;obtain⟨rfl,rfl,rfl,rfl⟩:=h;rfl) else isFalse (fun e=>h (by subst e;exact⟨rfl,rfl,rfl,rfl⟩))
theorem State.eq_iff {a b:State}:a=b↔a.know=b.know∧a.tallies=b.tallies∧a.lives=b.lives∧a.cells=b.cells:=⟨fun h=>by subst h;exact⟨rfl,rfl,rfl,rfl⟩,fun h=>by cases a;cases b;simp only at h;obtain⟨rfl,rfl,rfl,rfl⟩:=h;rfl⟩
def msDelta (x:Delta):Nat:=x.base.length+x.know.length+(x.tallies.length+sumL msTally x.tallies)+(x.lives.length+sumL msLive x.lives)+x.dead.length+(x.cells.length+sumL msCell x.cells)
def wDelta (x:Delta):Prop:=x.base.length≤9223372036854775807∧x.know.length≤9223372036854775807∧(x.tallies.length≤9223372036854775807∧∀ y∈x.tallies,wTally y)∧(x.lives.length≤9223372036854775807∧∀ y∈x.lives,wLive y)∧x.dead.length≤9223372036854775807∧(x.cells.length≤9223372036854775807∧∀ y∈x.cells,wCell y)
instance:DecidableEq Delta:=fun a b=>if h:a.base=b.base∧a.know=b.know∧a.tallies=b.tallies∧a.lives=b.lives∧a.dead=b.dead∧a.cells=b.cells then isTrue (by cases a;cases b;simp only at h;obtain⟨rfl,rfl,rfl,rfl,rfl,rfl⟩:=h;rfl) else isFalse (fun e=>h (by subst e;exact⟨rfl,rfl,rfl,rfl,rfl,rfl⟩))
theorem Delta.eq_iff {a b:Delta}:a=b↔a.base=b.base∧a.know=b.know∧a.tallies=b.tallies∧a.lives=b.lives∧a.dead=b.dead∧a.cells=b.cells:=⟨fun h=>by subst h;exact⟨rfl,rfl,rfl,rfl,rfl,rfl⟩,fun h=>by cases a;cases b;simp only at h;obtain⟨rfl,rfl,rfl,rfl,rfl,rfl⟩:=h;rfl⟩
def msUnit (x:Unit_):Nat:=msAct x.act+msDelta x.delta
def wUnit (x:Unit_):Prop:=wAct x.act∧wDelta x.delta
instance:DecidableEq Unit_:=fun a b=>if h:a.batch=b.batch∧a.act=b.act∧a.delta=b.delta then isTrue (by cases a;cases b;simp only at h;obtain⟨rfl,rfl,rfl⟩:=h;rfl) else isFalse (fun e=>h (by subst e;exact⟨rfl,rfl,rfl⟩))
theorem Unit_.eq_iff {a b:Unit_}:a=b↔a.batch=b.batch∧a.act=b.act∧a.delta=b.delta:=⟨fun h=>by subst h;exact⟨rfl,rfl,rfl⟩,fun h=>by cases a;cases b;simp only at h;obtain⟨rfl,rfl,rfl⟩:=h;rfl⟩
def msLog (x:Log):Nat:=msState x.state+(x.units.length+sumL msUnit x.units)+(x.waits.length+sumL msUnit x.waits)
def wLog (x:Log):Prop:=wState x.state∧(x.units.length≤9223372036854775807∧∀ y∈x.units,wUnit y)∧(x.waits.length≤9223372036854775807∧∀ y∈x.waits,wUnit y)
instance:DecidableEq Log:=fun a b=>if h:a.rep=b.rep∧a.time=b.time∧a.state=b.state∧a.units=b.units∧a.waits=b.waits then isTrue (by cases a;cases b;simp only at h;obtain⟨rfl,rfl,rfl,rfl,rfl⟩:=h;rfl) else isFalse (fun e=>h (by subst e;exact⟨rfl,rfl,rfl,rfl,rfl⟩))
theorem Log.eq_iff {a b:Log}:a=b↔a.rep=b.rep∧a.time=b.time∧a.state=b.state∧a.units=b.units∧a.waits=b.waits:=⟨fun h=>by subst h;exact⟨rfl,rfl,rfl,rfl,rfl⟩,fun h=>by cases a;cases b;simp only at h;obtain⟨rfl,rfl,rfl,rfl,rfl⟩:=h;rfl⟩
def msCommit (x:Commit):Nat:=x.ups.length+msState x.state
def wCommit (x:Commit):Prop:=x.ups.length≤9223372036854775807∧wState x.state
instance:DecidableEq Commit:=fun a b=>if h:a.id=b.id∧a.ups=b.ups∧a.state=b.state then isTrue (by cases a;cases b;simp only at h;obtain⟨rfl,rfl,rfl⟩:=h;rfl) else isFalse (fun e=>h (by subst e;exact⟨rfl,rfl,rfl⟩))
theorem Commit.eq_iff {a b:Commit}:a=b↔a.id=b.id∧a.ups=b.ups∧a.state=b.state:=⟨fun h=>by subst h;exact⟨rfl,rfl,rfl⟩,fun h=>by cases a;cases b;simp only at h;obtain⟨rfl,rfl,rfl⟩:=h;rfl⟩
def msGraph (x:Graph):Nat:=(x.commits.length+sumL msCommit x.commits)
def wGraph (x:Graph):Prop:=(x.commits.length≤9223372036854775807∧∀ y∈x.commits,wCommit y)
instance:DecidableEq Graph:=fun a b=>if h:a.commits=b.commits∧a.head=b.head then isTrue (by cases a;cases b;simp only at h;obtain⟨rfl,rfl⟩:=h;rfl) else isFalse (fun e=>h (by subst e;exact⟨rfl,rfl⟩))
theorem Graph.eq_iff {a b:Graph}:a=b↔a.commits=b.commits∧a.head=b.head:=⟨fun h=>by subst h;exact⟨rfl,rfl⟩,fun h=>by cases a;cases b;simp only at h;obtain⟨rfl,rfl⟩:=h;rfl⟩
def msReplica (x:Replica):Nat:=msLog x.log+msGraph x.graph+msFile x.file+(x.out.length+sumL msUnit x.out)
def wReplica (x:Replica):Prop:=wLog x.log∧wGraph x.graph∧wFile x.file∧(x.out.length≤9223372036854775807∧∀ y∈x.out,wUnit y)
instance:DecidableEq Replica:=fun a b=>if h:a.way=b.way∧a.log=b.log∧a.graph=b.graph∧a.file=b.file∧a.out=b.out then isTrue (by cases a;cases b;simp only at h;obtain⟨rfl,rfl,rfl,rfl,rfl⟩:=h;rfl) else isFalse (fun e=>h (by subst e;exact⟨rfl,rfl,rfl,rfl,rfl⟩))
theorem Replica.eq_iff {a b:Replica}:a=b↔a.way=b.way∧a.log=b.log∧a.graph=b.graph∧a.file=b.file∧a.out=b.out:=⟨fun h=>by subst h;exact⟨rfl,rfl,rfl,rfl,rfl⟩,fun h=>by cases a;cases b;simp only at h;obtain⟨rfl,rfl,rfl,rfl,rfl⟩:=h;rfl⟩
def msWorld (x:World_):Nat:=(x.replicas.length+sumL msReplica x.replicas)+(x.net.length+sumL msLetter x.net)+x.codes.length+(x.synced.length+sumL msIntS x.synced)
def wWorld (x:World_):Prop:=(x.replicas.length≤9223372036854775807∧∀ y∈x.replicas,wReplica y)∧(x.net.length≤9223372036854775807∧∀ y∈x.net,wLetter y)∧x.codes.length≤9223372036854775807∧(x.synced.length≤9223372036854775807∧∀ y∈x.synced,wIntS y)
instance:DecidableEq World_:=fun a b=>if h:a.replicas=b.replicas∧a.net=b.net∧a.codes=b.codes∧a.synced=b.synced then isTrue (by cases a;cases b;simp only at h;obtain⟨rfl,rfl,rfl,rfl⟩:=h;rfl) else isFalse (fun e=>h (by subst e;exact⟨rfl,rfl,rfl,rfl⟩))
theorem World_.eq_iff {a b:World_}:a=b↔a.replicas=b.replicas∧a.net=b.net∧a.codes=b.codes∧a.synced=b.synced:=⟨fun h=>by subst h;exact⟨rfl,rfl,rfl,rfl⟩,fun h=>by cases a;cases b;simp only at h;obtain⟨rfl,rfl,rfl,rfl⟩:=h;rfl⟩
def msScript (x:Script):Nat:=x.ways.length+(x.events.length+sumL msEvent x.events)
def wScript (x:Script):Prop:=x.ways.length≤9223372036854775807∧(x.events.length≤9223372036854775807∧∀ y∈x.events,wEvent y)
instance:DecidableEq Script:=fun a b=>if h:a.ways=b.ways∧a.events=b.events∧a.calm=b.calm then isTrue (by cases a;cases b;simp only at h;obtain⟨rfl,rfl,rfl⟩:=h;rfl) else isFalse (fun e=>h (by subst e;exact⟨rfl,rfl,rfl⟩))
theorem Script.eq_iff {a b:Script}:a=b↔a.ways=b.ways∧a.events=b.events∧a.calm=b.calm:=⟨fun h=>by subst h;exact⟨rfl,rfl,rfl⟩,fun h=>by cases a;cases b;simp only at h;obtain⟨rfl,rfl,rfl⟩:=h;rfl⟩
end Go.Proofs.YtbeoiejnogdkpaaGreat.Sy
namespace Go.Proofs.YtbeoiejnogdkpaaGreat.Sy
open Go Go.RowKit
set_option linter.unusedSimpArgs false
set_option linter.unusedVariables false
theorem Hp.ownAct {σ τ:St} {rs:List Thg} {x:Act} {v2:GV} (H:Hp σ τ (ow pI.kd v2 x.knew::rs)):Hp σ τ (own kAct ((GV.int .i64 x.dot.rep)::(GV.int .i64 x.dot.seq)::(GV.int .i64 x.time)::v2::(GV.int .i64 x.kind)::(GV.str x.obj)::(GV.str x.key)::(GV.int .i64 x.val)::(GV.int .i64 x.ref.rep)::(GV.int .i64 x.ref.seq)::[]) x::rs):=by
 refine(H).conv ?_
 intro fp h0
 exact⟨v2,fp,rfl,h0,rfl⟩
theorem Hp.splitAct {σ τ:St} {rs:List Thg} {x:Act} {cs:List GV} (H:Hp σ τ (own kAct cs x::rs)):∃ v2,cs=(GV.int .i64 x.dot.rep)::(GV.int .i64 x.dot.seq)::(GV.int .i64 x.time)::v2::(GV.int .i64 x.kind)::(GV.str x.obj)::(GV.str x.key)::(GV.int .i64 x.val)::(GV.int .i64 x.ref.rep)::(GV.int .i64 x.ref.seq)::[]∧Hp σ τ (ow pI.kd v2 x.knew::rs):=by
 obtain⟨h,fp,⟨a,b,⟨v2,f0,rfl,h0,rfl⟩,hs,rfl⟩,hn,hb⟩:=H
 exact⟨v2,rfl,h,_,⟨_,_,h0,hs,rfl⟩,by simpa [List.append_assoc] using hn,by simpa [List.append_assoc] using hb⟩
theorem Hp.ownState {σ τ:St} {rs:List Thg} {x:State} {v0:GV} {v1:GV} {v2:GV} {v3:GV} (H:Hp σ τ (ow pI.kd v0 x.know::ow pTally.kd v1 x.tallies::ow pLive.kd v2 x.lives::ow pCell.kd v3 x.cells::rs)):Hp σ τ (own kState (v0::v1::v2::v3::[]) x::rs):=by
 refine(H.join.join.join).conv ?_
 rintro fp ⟨_,f3,⟨_,f2,⟨f0,f1,h0,h1,rfl⟩,h2,rfl⟩,h3,rfl⟩
 exact⟨v0,v1,v2,v3,f0,f1,f2,f3,rfl,h0,h1,h2,h3,by simp[List.append_assoc]⟩
theorem Hp.ownDelta {σ τ:St} {rs:List Thg} {x:Delta} {v0:GV} {v1:GV} {v2:GV} {v3:GV} {v4:GV} {v5:GV} (H:Hp σ τ (ow pI.kd v0 x.base::ow pI.kd v1 x.know::ow pTally.kd v2 x.tallies::ow pLive.kd v3 x.lives::ow pDot.kd v4 x.dead::ow pCell.kd v5 x.cells::rs)):Hp σ τ (own kDelta (v0::v1::v2::v3::v4::v5::[]) x::rs):=by
 refine(H.join.join.join.join.join).conv ?_
 rintro fp ⟨_,f5,⟨_,f4,⟨_,f3,⟨_,f2,⟨f0,f1,h0,h1,rfl⟩,h2,rfl⟩,h3,rfl⟩,h4,rfl⟩,h5,rfl⟩
 exact⟨v0,v1,v2,v3,v4,v5,f0,f1,f2,f3,f4,f5,rfl,h0,h1,h2,h3,h4,h5,by simp[List.append_assoc]⟩
theorem Hp.splitDelta {σ τ:St} {rs:List Thg} {x:Delta} {cs:List GV} (H:Hp σ τ (own kDelta cs x::rs)):∃ v0 v1 v2 v3 v4 v5,cs=v0::v1::v2::v3::v4::v5::[]∧Hp σ τ (ow pI.kd v0 x.base::ow pI.kd v1 x.know::ow pTally.kd v2 x.tallies::ow pLive.kd v3 x.lives::ow pDot.kd v4 x.dead::ow pCell.kd v5 x.cells::rs):=by
 obtain⟨h,fp,⟨a,b,⟨v0,v1,v2,v3,v4,v5,f0,f1,f2,f3,f4,f5,rfl,h0,h1,h2,h3,h4,h5,rfl⟩,hs,rfl⟩,hn,hb⟩:=H
 exact⟨v0,v1,v2,v3,v4,v5,rfl,h,_,⟨_,_,h0,⟨_,_,h1,⟨_,_,h2,⟨_,_,h3,⟨_,_,h4,⟨_,_,h5,hs,rfl⟩,rfl⟩,rfl⟩,rfl⟩,rfl⟩,rfl⟩,by simpa [List.append_assoc] using hn,by simpa [List.append_assoc] using hb⟩
theorem Hp.ownUnit_ {σ τ:St} {rs:List Thg} {x:Unit_} {v1:List GV} {v2:List GV} (H:Hp σ τ (own kAct v1 x.act::own kDelta v2 x.delta::rs)):Hp σ τ (own kUnit_ ((GV.bool x.batch)::v1++(v2++([]))) x::rs):=by
 refine(H.join).conv ?_
 rintro fp ⟨f0,f1,h0,h1,rfl⟩
 exact⟨v1,v2,f0,f1,rfl,h0,h1,by simp[List.append_assoc]⟩
theorem Hp.splitUnit_ {σ τ:St} {rs:List Thg} {x:Unit_} {cs:List GV} (H:Hp σ τ (own kUnit_ cs x::rs)):∃ v1 v2,cs=(GV.bool x.batch)::v1++(v2++([]))∧Hp σ τ (own kAct v1 x.act::own kDelta v2 x.delta::rs):=by
 obtain⟨h,fp,⟨a,b,⟨v1,v2,f0,f1,rfl,h0,h1,rfl⟩,hs,rfl⟩,hn,hb⟩:=H
 exact⟨v1,v2,rfl,h,_,⟨_,_,h0,⟨_,_,h1,hs,rfl⟩,rfl⟩,by simpa [List.append_assoc] using hn,by simpa [List.append_assoc] using hb⟩
end Go.Proofs.YtbeoiejnogdkpaaGreat.Sy
namespace Go.Proofs.YtbeoiejnogdkpaaGreat.Sy
open Go Go.RowKit
set_option linter.unusedSimpArgs false
set_option linter.unusedVariables false
abbrev n_l_toDot:Nat:=151
def F_l_toDot:Fn1:=⟨11,[.c 2 true 2],(.seq (.reg [o 1 (.box (.t 0)),o 2 (.new [(.int .i64 0),(.int .i64 0)])]) (.seq (.reg [o 3 (.new [(.int .i64 0),(.int .i64 0)])]) (.seq (.reg [o 4 (.fad 0 (.t 1)),o 5 (.ld false 1 (.t 4)),o 6 (.fad 0 (.t 3)),on (.st 1 (.t 6) (.t 5))]) (.seq (.reg [o 7 (.fad 1 (.t 1)),o 8 (.ld false 1 (.t 7)),o 9 (.fad 1 (.t 3)),on (.st 1 (.t 9) (.t 8))]) (.seq (.reg [o 10 (.ld true 2 (.t 3)),on (.st 2 (.t 2) (.t 10))]) .ret)))))⟩
theorem ir_l_toDot:compFn Tryz.prog n_l_toDot=some F_l_toDot:=by kernel_rfl
theorem l_toDot_ret (σ:St) (x:Dot):Ret Tryz.prog n_l_toDot [.agg [.int .i64 x.rep,.int .i64 x.seq]] σ (.agg [.int .i64 x.rep,.int .i64 x.seq]) σ:=by
 refine ret_eq ir_l_toDot (Nat.le_of_ble_eq_true rfl) (by simp[vLt,cLt,sLt]) ?_
 simp +contextual (disch:=omega) only[go_sem,F_l_toDot]
end Go.Proofs.YtbeoiejnogdkpaaGreat.Sy
namespace Go.Proofs.YtbeoiejnogdkpaaGreat.Sy
open Go Go.RowKit
set_option linter.unusedSimpArgs false
set_option linter.unusedVariables false
abbrev n_l_toIntS:Nat:=147
def F_l_toIntS:Fn1:=⟨22,[.t 2],(.seq (.reg [o 2 (.mov (.k .nilS))]) (.seq (.reg [o 5 (.mov (.t 0)),o 6 (.len false (.t 5)),o 7 (.mks 1 8 [(.int .i64 0)] (.t 6) (.t 6)),o 3 (.mov (.t 7))]) (.seq (.seq (.reg [o 4 (.mov (.k (.int .i64 0)))]) (.blk 0 (.lop (.seq (.seq (.reg [o 8 (.mov (.t 4)),o 9 (.mov (.t 0)),o 10 (.len false (.t 9)),o 11 (.bin .lss (.t 8) (.t 10))]) (.cnd (.t 11) .skip (.ext 0))) (.seq (.blk 1 (.reg [o 14 (.mov (.t 3)),o 15 (.mov (.t 4)),o 16 (.mov (.t 0)),o 17 (.mov (.t 4)),o 18 (.iad 1 (.t 16) (.t 17)),o 19 (.ld false 1 (.t 18)),o 20 (.iad 1 (.t 14) (.t 15)),on (.st 1 (.t 20) (.t 19))])) (.reg [o 12 (.mov (.t 4)),o 13 (.bin .add (.t 12) (.k (.int .i64 1))),o 4 (.mov (.t 13))])))))) (.seq (.reg [o 21 (.mov (.t 3)),o 2 (.mov (.t 21))]) .ret))))⟩
theorem ir_l_toIntS:compFn Tryz.prog n_l_toIntS=some F_l_toIntS:=by kernel_rfl
theorem l_toIntS_ret (σ:St) (v:GV) (l:List Int) (hR:RS pI.kd σ v l) (hl:l.length≤1099511627776):∃ r τ,Ret Tryz.prog n_l_toIntS [v] σ r τ∧Hp σ τ [ow pI.kd r l]:=by
 refine ret_hp (rs:=fun r=>[ow pI.kd r l]) ir_l_toIntS (Nat.le_of_ble_eq_true rfl) ?_
 have hmk:∀ ze,mksG 1 8 ze σ (some l.length) (some l.length)=some (.sl σ.length 0 l.length,σ++[some (.row 1 (reps l.length ze))]):=fun ze=>mks_ok (by omega)
 simp +contextual (disch:=omega) only[go_sem,F_l_toIntS,hR.len,hmk]
 have H0:=((Hp.refl σ).new 1 (reps l.length (pI.enc 0))).toRow 0 (p:=pI) rfl (List.replicate l.length 0) rfl (reps_enc _ _ _) l.length (by simp)
 refine vc_for l.length 4 (fun i env τ=>env 0=v∧env 3= .sl σ.length 0 l.length∧Hp σ τ [ow pI.kd (.sl σ.length 0 l.length) (l.take i++List.replicate (l.length - i) 0)]) rfl ⟨rfl,rfl,by rw[List.take_zero,List.nil_append,Nat.sub_zero];exact H0⟩ ?_ ?_
 ·rintro i env τ hi e4 c0 ⟨e0,e3,H⟩
  have h1:=hR.pre H.sub
  have h2:=H.sl 0 rfl
  have hj:=fill_len (z:=(0:Int)) hi
  obtain⟨τ',es,H'⟩:=H.stw 0 rfl hj 1 (.int .i64 l[i]) l[i] rfl rfl (by decide)
  rw[fill_step hi] at H'
  have es:stG 1 τ (atz 1 (.sl σ.length 0 l.length) i) (.int .i64 l[i])=some (.tup [],τ'):=es
  simp +contextual (disch:=omega) only[go_sem,e0,e3,e4,c0,hR.len,int_at h1 hi,int_at h2 hj,es]
  exact H'
 ·rintro env τ e4 c0 ⟨e0,e3,H⟩
  rw[fill_end] at H
  simp +contextual (disch:=omega) only[go_sem,e0,e3,e4,c0,hR.len]
  exact⟨_,rfl,H⟩
end Go.Proofs.YtbeoiejnogdkpaaGreat.Sy
namespace Go.Proofs.YtbeoiejnogdkpaaGreat.Sy
open Go Go.RowKit
set_option linter.unusedSimpArgs false
set_option linter.unusedVariables false
abbrev n_l_toAct:Nat:=31
def F_l_toAct:Fn1:=⟨32,[.c 2 true 10],(.seq (.reg [o 1 (.box (.t 0)),o 2 (.new [(.int .i64 0),(.int .i64 0),(.int .i64 0),.nilS,(.int .i64 0),(.str ⟨#[]⟩),(.str ⟨#[]⟩),(.int .i64 0),(.int .i64 0),(.int .i64 0)])]) (.seq (.reg [o 3 (.new [(.int .i64 0),(.int .i64 0),(.int .i64 0),.nilS,(.int .i64 0),(.str ⟨#[]⟩),(.str ⟨#[]⟩),(.int .i64 0),(.int .i64 0),(.int .i64 0)])]) (.seq (.reg [o 4 (.fad 0 (.t 1)),o 5 (.ld true 2 (.t 4)),o 6 (.call 151 [(.t 5)]),o 7 (.fad 0 (.t 3)),on (.st 2 (.t 7) (.t 6))]) (.seq (.reg [o 8 (.fad 2 (.t 1)),o 9 (.ld false 1 (.t 8)),o 10 (.fad 2 (.t 3)),on (.st 1 (.t 10) (.t 9))]) (.seq (.reg [o 11 (.fad 3 (.t 1)),o 12 (.ld false 1 (.t 11)),o 13 (.call 147 [(.t 12)]),o 14 (.fad 3 (.t 3)),on (.st 1 (.t 14) (.t 13))]) (.seq (.reg [o 15 (.fad 4 (.t 1)),o 16 (.ld false 1 (.t 15)),o 17 (.fad 4 (.t 3)),on (.st 1 (.t 17) (.t 16))]) (.seq (.reg [o 18 (.fad 5 (.t 1)),o 19 (.ld false 1 (.t 18)),o 20 (.fad 5 (.t 3)),on (.st 1 (.t 20) (.t 19))]) (.seq (.reg [o 21 (.fad 6 (.t 1)),o 22 (.ld false 1 (.t 21)),o 23 (.fad 6 (.t 3)),on (.st 1 (.t 23) (.t 22))]) (.seq (.reg [o 24 (.fad 7 (.t 1)),o 25 (.ld false 1 (.t 24)),o 26 (.fad 7 (.t 3)),on (.st 1 (.t 26) (.t 25))]) (.seq (.reg [o 27 (.fad 8 (.t 1)),o 28 (.ld true 2 (.t 27)),o 29 (.call 151 [(.t 28)]),o 30 (.fad 8 (.t 3)),on (.st 2 (.t 30) (.t 29))]) (.seq (.reg [o 31 (.ld true 10 (.t 3)),on (.st 10 (.t 2) (.t 31))]) .ret)))))))))))⟩
theorem ir_l_toAct:compFn Tryz.prog n_l_toAct=some F_l_toAct:=by kernel_rfl
theorem l_toAct_ret (σ:St) (cs:List GV) (x:Act) (hR:kAct.R σ x cs) (hl:msAct x≤1099511627776):∃ r τ,Ret Tryz.prog n_l_toAct [.agg cs] σ r τ∧σ <+: τ∧∃ ds,r= .agg ds∧Hp σ τ [own kAct ds x]:=by
 have hlen:=kAct.len hR
 have hlen:cs.length=10:=hlen
 obtain⟨v2,rfl,q2⟩:=hR
 unfold msAct at hl
 refine ret_new ir_l_toAct (Nat.le_of_ble_eq_true rfl) ?_
 simp +contextual (disch:=omega) only[go_sem,F_l_toAct,List.append_nil]
 refine by_ret (l_toDot_ret _ x.dot) ?_
 simp +contextual (disch:=omega) only[go_sem,List.append_nil]
 have H:=(((Hp.refl σ).new 1 ((GV.int .i64 x.dot.rep)::(GV.int .i64 x.dot.seq)::(GV.int .i64 x.time)::v2::(GV.int .i64 x.kind)::(GV.str x.obj)::(GV.str x.key)::(GV.int .i64 x.val)::(GV.int .i64 x.ref.rep)::(GV.int .i64 x.ref.seq)::[])).new 1 [(GV.int .i64 0),(GV.int .i64 0),(GV.int .i64 0),GV.nilS,(GV.int .i64 0),(GV.str ⟨#[]⟩),(GV.str ⟨#[]⟩),(GV.int .i64 0),(GV.int .i64 0),(GV.int .i64 0)]).new 1 [(GV.int .i64 x.dot.rep),(GV.int .i64 x.dot.seq),(GV.int .i64 x.time),GV.nilS,(GV.int .i64 0),(GV.str ⟨#[]⟩),(GV.str ⟨#[]⟩),(GV.int .i64 0),(GV.int .i64 0),(GV.int .i64 0)]
 obtain⟨r2,τ2,R2,K2⟩:=l_toIntS_ret _ v2 x.knew (q2.pre H.sub) (by omega)
 refine by_hp R2 K2 ?_
 have e2:=(K2.sl 0 rfl).cell
 have H:=H.add K2
 try simp only[go_sem] at H
 try simp +contextual (disch:=omega) only[go_sem,List.append_nil,ld_ptr (H.pt 3 rfl),ld_ptr (H.pt 1 rfl)]
 obtain⟨_,es,H,_⟩:=H.st 1 rfl 1 3 (r2) (by rw[e2];rfl) (by decide) (Nat.le_of_ble_eq_true rfl)
 try simp only[go_sem,List.set_cons_zero,List.set_cons_succ,e2] at H
 try simp +contextual (disch:=omega) only[go_sem,List.append_nil,es,ld_ptr (H.pt 3 rfl),ld_ptr (H.pt 1 rfl)]
 try simp +contextual (disch:=omega) only[go_sem,List.append_nil,ld_ptr (H.pt 3 rfl),ld_ptr (H.pt 1 rfl)]
 obtain⟨_,es,H,_⟩:=H.st 1 rfl 1 4 (.int .i64 x.kind) (rfl) (by decide) (Nat.le_of_ble_eq_true rfl)
 try simp only[go_sem,List.set_cons_zero,List.set_cons_succ] at H
 try simp +contextual (disch:=omega) only[go_sem,List.append_nil,es,ld_ptr (H.pt 3 rfl),ld_ptr (H.pt 1 rfl)]
 try simp +contextual (disch:=omega) only[go_sem,List.append_nil,ld_ptr (H.pt 3 rfl),ld_ptr (H.pt 1 rfl)]
 obtain⟨_,es,H,_⟩:=H.st 1 rfl 1 5 (.str x.obj) (rfl) (by decide) (Nat.le_of_ble_eq_true rfl)
 try simp only[go_sem,List.set_cons_zero,List.set_cons_succ] at H
 try simp +contextual (disch:=omega) only[go_sem,List.append_nil,es,ld_ptr (H.pt 3 rfl),ld_ptr (H.pt 1 rfl)]
 try simp +contextual (disch:=omega) only[go_sem,List.append_nil,ld_ptr (H.pt 3 rfl),ld_ptr (H.pt 1 rfl)]
 obtain⟨_,es,H,_⟩:=H.st 1 rfl 1 6 (.str x.key) (rfl) (by decide) (Nat.le_of_ble_eq_true rfl)
 try simp only[go_sem,List.set_cons_zero,List.set_cons_succ] at H
 try simp +contextual (disch:=omega) only[go_sem,List.append_nil,es,ld_ptr (H.pt 3 rfl),ld_ptr (H.pt 1 rfl)]
 try simp +contextual (disch:=omega) only[go_sem,List.append_nil,ld_ptr (H.pt 3 rfl),ld_ptr (H.pt 1 rfl)]
 obtain⟨_,es,H,_⟩:=H.st 1 rfl 1 7 (.int .i64 x.val) (rfl) (by decide) (Nat.le_of_ble_eq_true rfl)
 try simp only[go_sem,List.set_cons_zero,List.set_cons_succ] at H
 try simp +contextual (disch:=omega) only[go_sem,List.append_nil,es,ld_ptr (H.pt 3 rfl),ld_ptr (H.pt 1 rfl)]
 refine by_ret (l_toDot_ret _ x.ref) ?_
 try simp +contextual (disch:=omega) only[go_sem,List.append_nil,ld_ptr (H.pt 3 rfl),ld_ptr (H.pt 1 rfl)]
 obtain⟨_,es,H,_⟩:=H.st 1 rfl 2 8 (.agg [.int .i64 x.ref.rep,.int .i64 x.ref.seq]) (rfl) (by decide) (Nat.le_of_ble_eq_true rfl)
 try simp only[go_sem,List.set_cons_zero,List.set_cons_succ] at H
 try simp +contextual (disch:=omega) only[go_sem,List.append_nil,es,ld_ptr (H.pt 3 rfl),ld_ptr (H.pt 1 rfl)]
 obtain⟨_,es,H,_⟩:=H.st 2 rfl 10 0 (.agg ((GV.int .i64 x.dot.rep)::(GV.int .i64 x.dot.seq)::(GV.int .i64 x.time)::r2::(GV.int .i64 x.kind)::(GV.str x.obj)::(GV.str x.key)::(GV.int .i64 x.val)::(GV.int .i64 x.ref.rep)::(GV.int .i64 x.ref.seq)::[])) (rfl) (by decide) (Nat.le_of_ble_eq_true rfl)
 try simp only[go_sem,List.set_cons_zero,List.set_cons_succ] at H
 try simp +contextual (disch:=omega) only[go_sem,List.append_nil,es,ld_ptr (H.pt 2 rfl)]
 have h0:=H.sub
 have H:=H
 try simp only[List.eraseIdx_cons_succ,List.eraseIdx_cons_zero] at H
 exact⟨_,rfl,h0,_,rfl,H.ownAct.one⟩
end Go.Proofs.YtbeoiejnogdkpaaGreat.Sy
namespace Go.Proofs.YtbeoiejnogdkpaaGreat.Sy
open Go Go.RowKit
set_option linter.unusedSimpArgs false
set_option linter.unusedVariables false
abbrev n_l_toCell:Nat:=254
def F_l_toCell:Fn1:=⟨25,[.c 2 true 8],(.seq (.reg [o 1 (.box (.t 0)),o 2 (.new [(.str ⟨#[]⟩),(.int .i64 0),(.int .i64 0),(.int .i64 0),(.int .i64 0),(.int .i64 0),(.int .i64 0),(.bool false)])]) (.seq (.reg [o 3 (.new [(.str ⟨#[]⟩),(.int .i64 0),(.int .i64 0),(.int .i64 0),(.int .i64 0),(.int .i64 0),(.int .i64 0),(.bool false)])]) (.seq (.reg [o 4 (.fad 0 (.t 1)),o 5 (.ld false 1 (.t 4)),o 6 (.fad 0 (.t 3)),on (.st 1 (.t 6) (.t 5))]) (.seq (.reg [o 7 (.fad 1 (.t 1)),o 8 (.ld true 2 (.t 7)),o 9 (.call 151 [(.t 8)]),o 10 (.fad 1 (.t 3)),on (.st 2 (.t 10) (.t 9))]) (.seq (.reg [o 11 (.fad 3 (.t 1)),o 12 (.ld false 1 (.t 11)),o 13 (.fad 3 (.t 3)),on (.st 1 (.t 13) (.t 12))]) (.seq (.reg [o 14 (.fad 4 (.t 1)),o 15 (.ld true 2 (.t 14)),o 16 (.call 151 [(.t 15)]),o 17 (.fad 4 (.t 3)),on (.st 2 (.t 17) (.t 16))]) (.seq (.reg [o 18 (.fad 6 (.t 1)),o 19 (.ld false 1 (.t 18)),o 20 (.fad 6 (.t 3)),on (.st 1 (.t 20) (.t 19))]) (.seq (.reg [o 21 (.fad 7 (.t 1)),o 22 (.ld false 1 (.t 21)),o 23 (.fad 7 (.t 3)),on (.st 1 (.t 23) (.t 22))]) (.seq (.reg [o 24 (.ld true 8 (.t 3)),on (.st 8 (.t 2) (.t 24))]) .ret)))))))))⟩
theorem ir_l_toCell:compFn Tryz.prog n_l_toCell=some F_l_toCell:=by kernel_rfl
theorem l_toCell_ret (σ:St) (x:Cell):Ret Tryz.prog n_l_toCell [.agg [.str x.obj,.int .i64 x.dot.rep,.int .i64 x.dot.seq,.int .i64 x.time,.int .i64 x.ref.rep,.int .i64 x.ref.seq,.int .i64 x.val,.bool x.gone]] σ (.agg [.str x.obj,.int .i64 x.dot.rep,.int .i64 x.dot.seq,.int .i64 x.time,.int .i64 x.ref.rep,.int .i64 x.ref.seq,.int .i64 x.val,.bool x.gone]) σ:=by
 refine ret_eq ir_l_toCell (Nat.le_of_ble_eq_true rfl) (by simp[vLt,cLt,sLt]) ?_
 simp +contextual (disch:=omega) only[go_sem,F_l_toCell]
 refine by_ret (l_toDot_ret _ x.dot) ?_
 simp +contextual (disch:=omega) only[go_sem,List.append_nil]
 refine by_ret (l_toDot_ret _ x.ref) ?_
 simp +contextual (disch:=omega) only[go_sem,List.append_nil]
end Go.Proofs.YtbeoiejnogdkpaaGreat.Sy
namespace Go.Proofs.YtbeoiejnogdkpaaGreat.Sy
open Go Go.RowKit
set_option linter.unusedSimpArgs false
set_option linter.unusedVariables false
abbrev n_l_toCellS:Nat:=150
def F_l_toCellS:Fn1:=⟨23,[.t 2],(.seq (.reg [o 2 (.mov (.k .nilS))]) (.seq (.reg [o 5 (.mov (.t 0)),o 6 (.len false (.t 5)),o 7 (.mks 8 72 [(.str ⟨#[]⟩),(.int .i64 0),(.int .i64 0),(.int .i64 0),(.int .i64 0),(.int .i64 0),(.int .i64 0),(.bool false)] (.t 6) (.t 6)),o 3 (.mov (.t 7))]) (.seq (.seq (.reg [o 4 (.mov (.k (.int .i64 0)))]) (.blk 0 (.lop (.seq (.seq (.reg [o 8 (.mov (.t 4)),o 9 (.mov (.t 0)),o 10 (.len false (.t 9)),o 11 (.bin .lss (.t 8) (.t 10))]) (.cnd (.t 11) .skip (.ext 0))) (.seq (.blk 1 (.reg [o 14 (.mov (.t 3)),o 15 (.mov (.t 4)),o 16 (.mov (.t 0)),o 17 (.mov (.t 4)),o 18 (.iad 8 (.t 16) (.t 17)),o 19 (.ld true 8 (.t 18)),o 20 (.call 254 [(.t 19)]),o 21 (.iad 8 (.t 14) (.t 15)),on (.st 8 (.t 21) (.t 20))])) (.reg [o 12 (.mov (.t 4)),o 13 (.bin .add (.t 12) (.k (.int .i64 1))),o 4 (.mov (.t 13))])))))) (.seq (.reg [o 22 (.mov (.t 3)),o 2 (.mov (.t 22))]) .ret))))⟩
theorem ir_l_toCellS:compFn Tryz.prog n_l_toCellS=some F_l_toCellS:=by kernel_rfl
theorem l_toCellS_ret (σ:St) (v:GV) (l:List Cell) (hR:RS pCell.kd σ v l) (hl:l.length≤1099511627776):∃ r τ,Ret Tryz.prog n_l_toCellS [v] σ r τ∧Hp σ τ [ow pCell.kd r l]:=by
 refine ret_hp (rs:=fun r=>[ow pCell.kd r l]) ir_l_toCellS (Nat.le_of_ble_eq_true rfl) ?_
 have hmk:∀ ze,mksG 8 72 ze σ (some l.length) (some l.length)=some (.sl σ.length 0 l.length,σ++[some (.row 8 (reps l.length ze))]):=fun ze=>mks_ok (by omega)
 simp +contextual (disch:=omega) only[go_sem,F_l_toCellS,hR.len,hmk]
 have H0:=((Hp.refl σ).new 8 (reps l.length (pCell.enc ⟨⟨#[]⟩,⟨0,0⟩,0,⟨0,0⟩,0,false⟩))).toRow 0 (p:=pCell) rfl (List.replicate l.length ⟨⟨#[]⟩,⟨0,0⟩,0,⟨0,0⟩,0,false⟩) rfl (reps_enc _ _ _) l.length (by simp)
 refine vc_for l.length 4 (fun i env τ=>env 0=v∧env 3= .sl σ.length 0 l.length∧Hp σ τ [ow pCell.kd (.sl σ.length 0 l.length) (l.take i++List.replicate (l.length - i) ⟨⟨#[]⟩,⟨0,0⟩,0,⟨0,0⟩,0,false⟩)]) rfl ⟨rfl,rfl,by rw[List.take_zero,List.nil_append,Nat.sub_zero];exact H0⟩ ?_ ?_
 ·rintro i env τ hi e4 c0 ⟨e0,e3,H⟩
  have h1:=hR.pre H.sub
  have h2:=H.sl 0 rfl
  have hj:=fill_len (z:=(⟨⟨#[]⟩,⟨0,0⟩,0,⟨0,0⟩,0,false⟩:Cell)) hi
  simp +contextual (disch:=omega) only[go_sem,e0,e3,e4,c0,hR.len,Cell_at h1 hi]
  refine by_ret (l_toCell_ret τ l[i]) ?_
  obtain⟨τ',es,H'⟩:=H.stw 0 rfl hj 8 (.agg [.str l[i].obj,.int .i64 l[i].dot.rep,.int .i64 l[i].dot.seq,.int .i64 l[i].time,.int .i64 l[i].ref.rep,.int .i64 l[i].ref.seq,.int .i64 l[i].val,.bool l[i].gone]) l[i] rfl rfl (by decide)
  rw[fill_step hi] at H'
  have es:stG 8 τ (atz 8 (.sl σ.length 0 l.length) i) (.agg [.str l[i].obj,.int .i64 l[i].dot.rep,.int .i64 l[i].dot.seq,.int .i64 l[i].time,.int .i64 l[i].ref.rep,.int .i64 l[i].ref.seq,.int .i64 l[i].val,.bool l[i].gone])=some (.tup [],τ'):=es
  simp +contextual (disch:=omega) only[go_sem,e0,e3,e4,c0,hR.len,Cell_at h1 hi,Cell_at h2 hj,es]
  exact H'
 ·rintro env τ e4 c0 ⟨e0,e3,H⟩
  rw[fill_end] at H
  simp +contextual (disch:=omega) only[go_sem,e0,e3,e4,c0,hR.len]
  exact⟨_,rfl,H⟩
end Go.Proofs.YtbeoiejnogdkpaaGreat.Sy
namespace Go.Proofs.YtbeoiejnogdkpaaGreat.Sy
open Go Go.RowKit
set_option linter.unusedSimpArgs false
set_option linter.unusedVariables false
abbrev n_l_toDotS:Nat:=305
def F_l_toDotS:Fn1:=⟨23,[.t 2],(.seq (.reg [o 2 (.mov (.k .nilS))]) (.seq (.reg [o 5 (.mov (.t 0)),o 6 (.len false (.t 5)),o 7 (.mks 2 16 [(.int .i64 0),(.int .i64 0)] (.t 6) (.t 6)),o 3 (.mov (.t 7))]) (.seq (.seq (.reg [o 4 (.mov (.k (.int .i64 0)))]) (.blk 0 (.lop (.seq (.seq (.reg [o 8 (.mov (.t 4)),o 9 (.mov (.t 0)),o 10 (.len false (.t 9)),o 11 (.bin .lss (.t 8) (.t 10))]) (.cnd (.t 11) .skip (.ext 0))) (.seq (.blk 1 (.reg [o 14 (.mov (.t 3)),o 15 (.mov (.t 4)),o 16 (.mov (.t 0)),o 17 (.mov (.t 4)),o 18 (.iad 2 (.t 16) (.t 17)),o 19 (.ld true 2 (.t 18)),o 20 (.call 151 [(.t 19)]),o 21 (.iad 2 (.t 14) (.t 15)),on (.st 2 (.t 21) (.t 20))])) (.reg [o 12 (.mov (.t 4)),o 13 (.bin .add (.t 12) (.k (.int .i64 1))),o 4 (.mov (.t 13))])))))) (.seq (.reg [o 22 (.mov (.t 3)),o 2 (.mov (.t 22))]) .ret))))⟩
theorem ir_l_toDotS:compFn Tryz.prog n_l_toDotS=some F_l_toDotS:=by kernel_rfl
theorem l_toDotS_ret (σ:St) (v:GV) (l:List Dot) (hR:RS pDot.kd σ v l) (hl:l.length≤1099511627776):∃ r τ,Ret Tryz.prog n_l_toDotS [v] σ r τ∧Hp σ τ [ow pDot.kd r l]:=by
 refine ret_hp (rs:=fun r=>[ow pDot.kd r l]) ir_l_toDotS (Nat.le_of_ble_eq_true rfl) ?_
 have hmk:∀ ze,mksG 2 16 ze σ (some l.length) (some l.length)=some (.sl σ.length 0 l.length,σ++[some (.row 2 (reps l.length ze))]):=fun ze=>mks_ok (by omega)
 simp +contextual (disch:=omega) only[go_sem,F_l_toDotS,hR.len,hmk]
 have H0:=((Hp.refl σ).new 2 (reps l.length (pDot.enc ⟨0,0⟩))).toRow 0 (p:=pDot) rfl (List.replicate l.length ⟨0,0⟩) rfl (reps_enc _ _ _) l.length (by simp)
 refine vc_for l.length 4 (fun i env τ=>env 0=v∧env 3= .sl σ.length 0 l.length∧Hp σ τ [ow pDot.kd (.sl σ.length 0 l.length) (l.take i++List.replicate (l.length - i) ⟨0,0⟩)]) rfl ⟨rfl,rfl,by rw[List.take_zero,List.nil_append,Nat.sub_zero];exact H0⟩ ?_ ?_
 ·rintro i env τ hi e4 c0 ⟨e0,e3,H⟩
  have h1:=hR.pre H.sub
  have h2:=H.sl 0 rfl
  have hj:=fill_len (z:=(⟨0,0⟩:Dot)) hi
  simp +contextual (disch:=omega) only[go_sem,e0,e3,e4,c0,hR.len,Dot_at h1 hi]
  refine by_ret (l_toDot_ret τ l[i]) ?_
  obtain⟨τ',es,H'⟩:=H.stw 0 rfl hj 2 (.agg [.int .i64 l[i].rep,.int .i64 l[i].seq]) l[i] rfl rfl (by decide)
  rw[fill_step hi] at H'
  have es:stG 2 τ (atz 2 (.sl σ.length 0 l.length) i) (.agg [.int .i64 l[i].rep,.int .i64 l[i].seq])=some (.tup [],τ'):=es
  simp +contextual (disch:=omega) only[go_sem,e0,e3,e4,c0,hR.len,Dot_at h1 hi,Dot_at h2 hj,es]
  exact H'
 ·rintro env τ e4 c0 ⟨e0,e3,H⟩
  rw[fill_end] at H
  simp +contextual (disch:=omega) only[go_sem,e0,e3,e4,c0,hR.len]
  exact⟨_,rfl,H⟩
end Go.Proofs.YtbeoiejnogdkpaaGreat.Sy
namespace Go.Proofs.YtbeoiejnogdkpaaGreat.Sy
open Go Go.RowKit
set_option linter.unusedSimpArgs false
set_option linter.unusedVariables false
abbrev n_l_toLive:Nat:=253
def F_l_toLive:Fn1:=⟨21,[.c 2 true 6],(.seq (.reg [o 1 (.box (.t 0)),o 2 (.new [(.bool false),(.str ⟨#[]⟩),(.str ⟨#[]⟩),(.int .i64 0),(.int .i64 0),(.int .i64 0)])]) (.seq (.reg [o 3 (.new [(.bool false),(.str ⟨#[]⟩),(.str ⟨#[]⟩),(.int .i64 0),(.int .i64 0),(.int .i64 0)])]) (.seq (.reg [o 4 (.fad 0 (.t 1)),o 5 (.ld false 1 (.t 4)),o 6 (.fad 0 (.t 3)),on (.st 1 (.t 6) (.t 5))]) (.seq (.reg [o 7 (.fad 1 (.t 1)),o 8 (.ld false 1 (.t 7)),o 9 (.fad 1 (.t 3)),on (.st 1 (.t 9) (.t 8))]) (.seq (.reg [o 10 (.fad 2 (.t 1)),o 11 (.ld false 1 (.t 10)),o 12 (.fad 2 (.t 3)),on (.st 1 (.t 12) (.t 11))]) (.seq (.reg [o 13 (.fad 3 (.t 1)),o 14 (.ld false 1 (.t 13)),o 15 (.fad 3 (.t 3)),on (.st 1 (.t 15) (.t 14))]) (.seq (.reg [o 16 (.fad 4 (.t 1)),o 17 (.ld true 2 (.t 16)),o 18 (.call 151 [(.t 17)]),o 19 (.fad 4 (.t 3)),on (.st 2 (.t 19) (.t 18))]) (.seq (.reg [o 20 (.ld true 6 (.t 3)),on (.st 6 (.t 2) (.t 20))]) .ret))))))))⟩
theorem ir_l_toLive:compFn Tryz.prog n_l_toLive=some F_l_toLive:=by kernel_rfl
theorem l_toLive_ret (σ:St) (x:Live):Ret Tryz.prog n_l_toLive [.agg [.bool x.map,.str x.obj,.str x.key,.int .i64 x.val,.int .i64 x.dot.rep,.int .i64 x.dot.seq]] σ (.agg [.bool x.map,.str x.obj,.str x.key,.int .i64 x.val,.int .i64 x.dot.rep,.int .i64 x.dot.seq]) σ:=by
 refine ret_eq ir_l_toLive (Nat.le_of_ble_eq_true rfl) (by simp[vLt,cLt,sLt]) ?_
 simp +contextual (disch:=omega) only[go_sem,F_l_toLive]
 refine by_ret (l_toDot_ret _ x.dot) ?_
 simp +contextual (disch:=omega) only[go_sem,List.append_nil]
end Go.Proofs.YtbeoiejnogdkpaaGreat.Sy
namespace Go.Proofs.YtbeoiejnogdkpaaGreat.Sy
open Go Go.RowKit
set_option linter.unusedSimpArgs false
set_option linter.unusedVariables false
abbrev n_l_toLiveS:Nat:=149
def F_l_toLiveS:Fn1:=⟨23,[.t 2],(.seq (.reg [o 2 (.mov (.k .nilS))]) (.seq (.reg [o 5 (.mov (.t 0)),o 6 (.len false (.t 5)),o 7 (.mks 6 64 [(.bool false),(.str ⟨#[]⟩),(.str ⟨#[]⟩),(.int .i64 0),(.int .i64 0),(.int .i64 0)] (.t 6) (.t 6)),o 3 (.mov (.t 7))]) (.seq (.seq (.reg [o 4 (.mov (.k (.int .i64 0)))]) (.blk 0 (.lop (.seq (.seq (.reg [o 8 (.mov (.t 4)),o 9 (.mov (.t 0)),o 10 (.len false (.t 9)),o 11 (.bin .lss (.t 8) (.t 10))]) (.cnd (.t 11) .skip (.ext 0))) (.seq (.blk 1 (.reg [o 14 (.mov (.t 3)),o 15 (.mov (.t 4)),o 16 (.mov (.t 0)),o 17 (.mov (.t 4)),o 18 (.iad 6 (.t 16) (.t 17)),o 19 (.ld true 6 (.t 18)),o 20 (.call 253 [(.t 19)]),o 21 (.iad 6 (.t 14) (.t 15)),on (.st 6 (.t 21) (.t 20))])) (.reg [o 12 (.mov (.t 4)),o 13 (.bin .add (.t 12) (.k (.int .i64 1))),o 4 (.mov (.t 13))])))))) (.seq (.reg [o 22 (.mov (.t 3)),o 2 (.mov (.t 22))]) .ret))))⟩
theorem ir_l_toLiveS:compFn Tryz.prog n_l_toLiveS=some F_l_toLiveS:=by kernel_rfl
theorem l_toLiveS_ret (σ:St) (v:GV) (l:List Live) (hR:RS pLive.kd σ v l) (hl:l.length≤1099511627776):∃ r τ,Ret Tryz.prog n_l_toLiveS [v] σ r τ∧Hp σ τ [ow pLive.kd r l]:=by
 refine ret_hp (rs:=fun r=>[ow pLive.kd r l]) ir_l_toLiveS (Nat.le_of_ble_eq_true rfl) ?_
 have hmk:∀ ze,mksG 6 64 ze σ (some l.length) (some l.length)=some (.sl σ.length 0 l.length,σ++[some (.row 6 (reps l.length ze))]):=fun ze=>mks_ok (by omega)
 simp +contextual (disch:=omega) only[go_sem,F_l_toLiveS,hR.len,hmk]
 have H0:=((Hp.refl σ).new 6 (reps l.length (pLive.enc ⟨false,⟨#[]⟩,⟨#[]⟩,0,⟨0,0⟩⟩))).toRow 0 (p:=pLive) rfl (List.replicate l.length ⟨false,⟨#[]⟩,⟨#[]⟩,0,⟨0,0⟩⟩) rfl (reps_enc _ _ _) l.length (by simp)
 refine vc_for l.length 4 (fun i env τ=>env 0=v∧env 3= .sl σ.length 0 l.length∧Hp σ τ [ow pLive.kd (.sl σ.length 0 l.length) (l.take i++List.replicate (l.length - i) ⟨false,⟨#[]⟩,⟨#[]⟩,0,⟨0,0⟩⟩)]) rfl ⟨rfl,rfl,by rw[List.take_zero,List.nil_append,Nat.sub_zero];exact H0⟩ ?_ ?_
 ·rintro i env τ hi e4 c0 ⟨e0,e3,H⟩
  have h1:=hR.pre H.sub
  have h2:=H.sl 0 rfl
  have hj:=fill_len (z:=(⟨false,⟨#[]⟩,⟨#[]⟩,0,⟨0,0⟩⟩:Live)) hi
  simp +contextual (disch:=omega) only[go_sem,e0,e3,e4,c0,hR.len,Live_at h1 hi]
  refine by_ret (l_toLive_ret τ l[i]) ?_
  obtain⟨τ',es,H'⟩:=H.stw 0 rfl hj 6 (.agg [.bool l[i].map,.str l[i].obj,.str l[i].key,.int .i64 l[i].val,.int .i64 l[i].dot.rep,.int .i64 l[i].dot.seq]) l[i] rfl rfl (by decide)
  rw[fill_step hi] at H'
  have es:stG 6 τ (atz 6 (.sl σ.length 0 l.length) i) (.agg [.bool l[i].map,.str l[i].obj,.str l[i].key,.int .i64 l[i].val,.int .i64 l[i].dot.rep,.int .i64 l[i].dot.seq])=some (.tup [],τ'):=es
  simp +contextual (disch:=omega) only[go_sem,e0,e3,e4,c0,hR.len,Live_at h1 hi,Live_at h2 hj,es]
  exact H'
 ·rintro env τ e4 c0 ⟨e0,e3,H⟩
  rw[fill_end] at H
  simp +contextual (disch:=omega) only[go_sem,e0,e3,e4,c0,hR.len]
  exact⟨_,rfl,H⟩
end Go.Proofs.YtbeoiejnogdkpaaGreat.Sy
namespace Go.Proofs.YtbeoiejnogdkpaaGreat.Sy
open Go Go.RowKit
set_option linter.unusedSimpArgs false
set_option linter.unusedVariables false
abbrev n_l_toTally:Nat:=252
def F_l_toTally:Fn1:=⟨14,[.c 2 true 3],(.seq (.reg [o 1 (.box (.t 0)),o 2 (.new [(.str ⟨#[]⟩),(.int .i64 0),(.int .i64 0)])]) (.seq (.reg [o 3 (.new [(.str ⟨#[]⟩),(.int .i64 0),(.int .i64 0)])]) (.seq (.reg [o 4 (.fad 0 (.t 1)),o 5 (.ld false 1 (.t 4)),o 6 (.fad 0 (.t 3)),on (.st 1 (.t 6) (.t 5))]) (.seq (.reg [o 7 (.fad 1 (.t 1)),o 8 (.ld false 1 (.t 7)),o 9 (.fad 1 (.t 3)),on (.st 1 (.t 9) (.t 8))]) (.seq (.reg [o 10 (.fad 2 (.t 1)),o 11 (.ld false 1 (.t 10)),o 12 (.fad 2 (.t 3)),on (.st 1 (.t 12) (.t 11))]) (.seq (.reg [o 13 (.ld true 3 (.t 3)),on (.st 3 (.t 2) (.t 13))]) .ret))))))⟩
theorem ir_l_toTally:compFn Tryz.prog n_l_toTally=some F_l_toTally:=by kernel_rfl
theorem l_toTally_ret (σ:St) (x:Tally):Ret Tryz.prog n_l_toTally [.agg [.str x.obj,.int .i64 x.rep,.int .i64 x.sum]] σ (.agg [.str x.obj,.int .i64 x.rep,.int .i64 x.sum]) σ:=by
 refine ret_eq ir_l_toTally (Nat.le_of_ble_eq_true rfl) (by simp[vLt,cLt,sLt]) ?_
 simp +contextual (disch:=omega) only[go_sem,F_l_toTally]
end Go.Proofs.YtbeoiejnogdkpaaGreat.Sy
namespace Go.Proofs.YtbeoiejnogdkpaaGreat.Sy
open Go Go.RowKit
set_option linter.unusedSimpArgs false
set_option linter.unusedVariables false
abbrev n_l_toTallyS:Nat:=148
def F_l_toTallyS:Fn1:=⟨23,[.t 2],(.seq (.reg [o 2 (.mov (.k .nilS))]) (.seq (.reg [o 5 (.mov (.t 0)),o 6 (.len false (.t 5)),o 7 (.mks 3 32 [(.str ⟨#[]⟩),(.int .i64 0),(.int .i64 0)] (.t 6) (.t 6)),o 3 (.mov (.t 7))]) (.seq (.seq (.reg [o 4 (.mov (.k (.int .i64 0)))]) (.blk 0 (.lop (.seq (.seq (.reg [o 8 (.mov (.t 4)),o 9 (.mov (.t 0)),o 10 (.len false (.t 9)),o 11 (.bin .lss (.t 8) (.t 10))]) (.cnd (.t 11) .skip (.ext 0))) (.seq (.blk 1 (.reg [o 14 (.mov (.t 3)),o 15 (.mov (.t 4)),o 16 (.mov (.t 0)),o 17 (.mov (.t 4)),o 18 (.iad 3 (.t 16) (.t 17)),o 19 (.ld true 3 (.t 18)),o 20 (.call 252 [(.t 19)]),o 21 (.iad 3 (.t 14) (.t 15)),on (.st 3 (.t 21) (.t 20))])) (.reg [o 12 (.mov (.t 4)),o 13 (.bin .add (.t 12) (.k (.int .i64 1))),o 4 (.mov (.t 13))])))))) (.seq (.reg [o 22 (.mov (.t 3)),o 2 (.mov (.t 22))]) .ret))))⟩
theorem ir_l_toTallyS:compFn Tryz.prog n_l_toTallyS=some F_l_toTallyS:=by kernel_rfl
theorem l_toTallyS_ret (σ:St) (v:GV) (l:List Tally) (hR:RS pTally.kd σ v l) (hl:l.length≤1099511627776):∃ r τ,Ret Tryz.prog n_l_toTallyS [v] σ r τ∧Hp σ τ [ow pTally.kd r l]:=by
 refine ret_hp (rs:=fun r=>[ow pTally.kd r l]) ir_l_toTallyS (Nat.le_of_ble_eq_true rfl) ?_
 have hmk:∀ ze,mksG 3 32 ze σ (some l.length) (some l.length)=some (.sl σ.length 0 l.length,σ++[some (.row 3 (reps l.length ze))]):=fun ze=>mks_ok (by omega)
 simp +contextual (disch:=omega) only[go_sem,F_l_toTallyS,hR.len,hmk]
 have H0:=((Hp.refl σ).new 3 (reps l.length (pTally.enc ⟨⟨#[]⟩,0,0⟩))).toRow 0 (p:=pTally) rfl (List.replicate l.length ⟨⟨#[]⟩,0,0⟩) rfl (reps_enc _ _ _) l.length (by simp)
 refine vc_for l.length 4 (fun i env τ=>env 0=v∧env 3= .sl σ.length 0 l.length∧Hp σ τ [ow pTally.kd (.sl σ.length 0 l.length) (l.take i++List.replicate (l.length - i) ⟨⟨#[]⟩,0,0⟩)]) rfl ⟨rfl,rfl,by rw[List.take_zero,List.nil_append,Nat.sub_zero];exact H0⟩ ?_ ?_
 ·rintro i env τ hi e4 c0 ⟨e0,e3,H⟩
  have h1:=hR.pre H.sub
  have h2:=H.sl 0 rfl
  have hj:=fill_len (z:=(⟨⟨#[]⟩,0,0⟩:Tally)) hi
  simp +contextual (disch:=omega) only[go_sem,e0,e3,e4,c0,hR.len,Tally_at h1 hi]
  refine by_ret (l_toTally_ret τ l[i]) ?_
  obtain⟨τ',es,H'⟩:=H.stw 0 rfl hj 3 (.agg [.str l[i].obj,.int .i64 l[i].rep,.int .i64 l[i].sum]) l[i] rfl rfl (by decide)
  rw[fill_step hi] at H'
  have es:stG 3 τ (atz 3 (.sl σ.length 0 l.length) i) (.agg [.str l[i].obj,.int .i64 l[i].rep,.int .i64 l[i].sum])=some (.tup [],τ'):=es
  simp +contextual (disch:=omega) only[go_sem,e0,e3,e4,c0,hR.len,Tally_at h1 hi,Tally_at h2 hj,es]
  exact H'
 ·rintro env τ e4 c0 ⟨e0,e3,H⟩
  rw[fill_end] at H
  simp +contextual (disch:=omega) only[go_sem,e0,e3,e4,c0,hR.len]
  exact⟨_,rfl,H⟩
end Go.Proofs.YtbeoiejnogdkpaaGreat.Sy
namespace Go.Proofs.YtbeoiejnogdkpaaGreat.Sy
open Go Go.RowKit
set_option linter.unusedSimpArgs false
set_option linter.unusedVariables false
abbrev n_l_toDelta:Nat:=224
def F_l_toDelta:Fn1:=⟨29,[.c 2 true 6],(.seq (.reg [o 1 (.box (.t 0)),o 2 (.new [.nilS,.nilS,.nilS,.nilS,.nilS,.nilS])]) (.seq (.reg [o 3 (.new [.nilS,.nilS,.nilS,.nilS,.nilS,.nilS])]) (.seq (.reg [o 4 (.fad 0 (.t 1)),o 5 (.ld false 1 (.t 4)),o 6 (.call 147 [(.t 5)]),o 7 (.fad 0 (.t 3)),on (.st 1 (.t 7) (.t 6))]) (.seq (.reg [o 8 (.fad 1 (.t 1)),o 9 (.ld false 1 (.t 8)),o 10 (.call 147 [(.t 9)]),o 11 (.fad 1 (.t 3)),on (.st 1 (.t 11) (.t 10))]) (.seq (.reg [o 12 (.fad 2 (.t 1)),o 13 (.ld false 1 (.t 12)),o 14 (.call 148 [(.t 13)]),o 15 (.fad 2 (.t 3)),on (.st 1 (.t 15) (.t 14))]) (.seq (.reg [o 16 (.fad 3 (.t 1)),o 17 (.ld false 1 (.t 16)),o 18 (.call 149 [(.t 17)]),o 19 (.fad 3 (.t 3)),on (.st 1 (.t 19) (.t 18))]) (.seq (.reg [o 20 (.fad 4 (.t 1)),o 21 (.ld false 1 (.t 20)),o 22 (.call 305 [(.t 21)]),o 23 (.fad 4 (.t 3)),on (.st 1 (.t 23) (.t 22))]) (.seq (.reg [o 24 (.fad 5 (.t 1)),o 25 (.ld false 1 (.t 24)),o 26 (.call 150 [(.t 25)]),o 27 (.fad 5 (.t 3)),on (.st 1 (.t 27) (.t 26))]) (.seq (.reg [o 28 (.ld true 6 (.t 3)),on (.st 6 (.t 2) (.t 28))]) .ret)))))))))⟩
theorem ir_l_toDelta:compFn Tryz.prog n_l_toDelta=some F_l_toDelta:=by kernel_rfl
theorem l_toDelta_ret (σ:St) (cs:List GV) (x:Delta) (hR:kDelta.R σ x cs) (hl:msDelta x≤1099511627776):∃ r τ,Ret Tryz.prog n_l_toDelta [.agg cs] σ r τ∧σ <+: τ∧∃ ds,r= .agg ds∧Hp σ τ [own kDelta ds x]:=by
 have hlen:=kDelta.len hR
 have hlen:cs.length=6:=hlen
 obtain⟨v0,v1,v2,v3,v4,v5,rfl,q0,q1,q2,q3,q4,q5⟩:=hR
 unfold msDelta at hl
 refine ret_new ir_l_toDelta (Nat.le_of_ble_eq_true rfl) ?_
 simp +contextual (disch:=omega) only[go_sem,F_l_toDelta,List.append_nil]
 have H:=(((Hp.refl σ).new 1 (v0::v1::v2::v3::v4::v5::[])).new 1 [GV.nilS,GV.nilS,GV.nilS,GV.nilS,GV.nilS,GV.nilS]).new 1 [GV.nilS,GV.nilS,GV.nilS,GV.nilS,GV.nilS,GV.nilS]
 obtain⟨r0,τ0,R0,K0⟩:=l_toIntS_ret _ v0 x.base (q0.pre H.sub) (by omega)
 refine by_hp R0 K0 ?_
 have e0:=(K0.sl 0 rfl).cell
 have H:=H.add K0
 try simp only[go_sem] at H
 try simp +contextual (disch:=omega) only[go_sem,List.append_nil,ld_ptr (H.pt 3 rfl),ld_ptr (H.pt 1 rfl)]
 obtain⟨_,es,H,_⟩:=H.st 1 rfl 1 0 (r0) (by rw[e0];rfl) (by decide) (Nat.le_of_ble_eq_true rfl)
 try simp only[go_sem,List.set_cons_zero,List.set_cons_succ,e0] at H
 try simp +contextual (disch:=omega) only[go_sem,List.append_nil,es,ld_ptr (H.pt 3 rfl),ld_ptr (H.pt 1 rfl)]
 obtain⟨r1,τ1,R1,K1⟩:=l_toIntS_ret _ v1 x.know (q1.pre H.sub) (by omega)
 refine by_hp R1 K1 ?_
 have e1:=(K1.sl 0 rfl).cell
 have H:=H.add K1
 try simp only[go_sem] at H
 try simp +contextual (disch:=omega) only[go_sem,List.append_nil,ld_ptr (H.pt 4 rfl),ld_ptr (H.pt 2 rfl)]
 obtain⟨_,es,H,_⟩:=H.st 2 rfl 1 1 (r1) (by rw[e1];rfl) (by decide) (Nat.le_of_ble_eq_true rfl)
 try simp only[go_sem,List.set_cons_zero,List.set_cons_succ,e1] at H
 try simp +contextual (disch:=omega) only[go_sem,List.append_nil,es,ld_ptr (H.pt 4 rfl),ld_ptr (H.pt 2 rfl)]
 obtain⟨r2,τ2,R2,K2⟩:=l_toTallyS_ret _ v2 x.tallies (q2.pre H.sub) (by omega)
 refine by_hp R2 K2 ?_
 have e2:=(K2.sl 0 rfl).cell
 have H:=H.add K2
 try simp only[go_sem] at H
 try simp +contextual (disch:=omega) only[go_sem,List.append_nil,ld_ptr (H.pt 5 rfl),ld_ptr (H.pt 3 rfl)]
 obtain⟨_,es,H,_⟩:=H.st 3 rfl 1 2 (r2) (by rw[e2];rfl) (by decide) (Nat.le_of_ble_eq_true rfl)
 try simp only[go_sem,List.set_cons_zero,List.set_cons_succ,e2] at H
 try simp +contextual (disch:=omega) only[go_sem,List.append_nil,es,ld_ptr (H.pt 5 rfl),ld_ptr (H.pt 3 rfl)]
 obtain⟨r3,τ3,R3,K3⟩:=l_toLiveS_ret _ v3 x.lives (q3.pre H.sub) (by omega)
 refine by_hp R3 K3 ?_
 have e3:=(K3.sl 0 rfl).cell
 have H:=H.add K3
 try simp only[go_sem] at H
 try simp +contextual (disch:=omega) only[go_sem,List.append_nil,ld_ptr (H.pt 6 rfl),ld_ptr (H.pt 4 rfl)]
 obtain⟨_,es,H,_⟩:=H.st 4 rfl 1 3 (r3) (by rw[e3];rfl) (by decide) (Nat.le_of_ble_eq_true rfl)
 try simp only[go_sem,List.set_cons_zero,List.set_cons_succ,e3] at H
 try simp +contextual (disch:=omega) only[go_sem,List.append_nil,es,ld_ptr (H.pt 6 rfl),ld_ptr (H.pt 4 rfl)]
 obtain⟨r4,τ4,R4,K4⟩:=l_toDotS_ret _ v4 x.dead (q4.pre H.sub) (by omega)
 refine by_hp R4 K4 ?_
 have e4:=(K4.sl 0 rfl).cell
 have H:=H.add K4
 try simp only[go_sem] at H
 try simp +contextual (disch:=omega) only[go_sem,List.append_nil,ld_ptr (H.pt 7 rfl),ld_ptr (H.pt 5 rfl)]
 obtain⟨_,es,H,_⟩:=H.st 5 rfl 1 4 (r4) (by rw[e4];rfl) (by decide) (Nat.le_of_ble_eq_true rfl)
 try simp only[go_sem,List.set_cons_zero,List.set_cons_succ,e4] at H
 try simp +contextual (disch:=omega) only[go_sem,List.append_nil,es,ld_ptr (H.pt 7 rfl),ld_ptr (H.pt 5 rfl)]
 obtain⟨r5,τ5,R5,K5⟩:=l_toCellS_ret _ v5 x.cells (q5.pre H.sub) (by omega)
 refine by_hp R5 K5 ?_
 have e5:=(K5.sl 0 rfl).cell
 have H:=H.add K5
 try simp only[go_sem] at H
 try simp +contextual (disch:=omega) only[go_sem,List.append_nil,ld_ptr (H.pt 8 rfl),ld_ptr (H.pt 6 rfl)]
 obtain⟨_,es,H,_⟩:=H.st 6 rfl 1 5 (r5) (by rw[e5];rfl) (by decide) (Nat.le_of_ble_eq_true rfl)
 try simp only[go_sem,List.set_cons_zero,List.set_cons_succ,e5] at H
 try simp +contextual (disch:=omega) only[go_sem,List.append_nil,es,ld_ptr (H.pt 8 rfl),ld_ptr (H.pt 6 rfl)]
 obtain⟨_,es,H,_⟩:=H.st 7 rfl 6 0 (.agg (r0::r1::r2::r3::r4::r5::[])) (rfl) (by decide) (Nat.le_of_ble_eq_true rfl)
 try simp only[go_sem,List.set_cons_zero,List.set_cons_succ] at H
 try simp +contextual (disch:=omega) only[go_sem,List.append_nil,es,ld_ptr (H.pt 7 rfl)]
 have h0:=H.sub
 have H:=(((((H.pick 1 rfl).pick 2 rfl).pick 3 rfl).pick 4 rfl).pick 5 rfl)
 try simp only[List.eraseIdx_cons_succ,List.eraseIdx_cons_zero] at H
 exact⟨_,rfl,h0,_,rfl,H.ownDelta.one⟩
end Go.Proofs.YtbeoiejnogdkpaaGreat.Sy
namespace Go.Proofs.YtbeoiejnogdkpaaGreat.Sy
open Go Go.RowKit
set_option linter.unusedSimpArgs false
set_option linter.unusedVariables false
end Go.Proofs.YtbeoiejnogdkpaaGreat.Sy
namespace Go.Proofs.YtbeoiejnogdkpaaGreat.Sy
open Go Go.RowKit
set_option linter.unusedSimpArgs false
set_option linter.unusedVariables false
inductive Item where
 |box (z n:Nat) (cs:List GV)
 |th (r:Thg)
def Item.t:Item→Thg
 | .box z n cs=>pt z n cs
 | .th r=>r
def Hx (σ τ:St) (h:List Item):Prop:=Hp σ τ (h.map Item.t)
def look:List Item→Nat→Option (List GV)
 |[],_=>none
 | .box _ m cs::h,n=>if m=n then some cs else look h n
 | .th _::h,n=>look h n
def upd:List Item→Nat→List GV→List Item
 |[],_,_=>[]
 | .box z m cs::h,n,ds=>if m=n then .box z m ds::h else .box z m cs::upd h n ds
 | .th r::h,n,ds=>.th r::upd h n ds
def frX (σ:St):List Item→Nat→Prop
 |[],n=>σ.length≤n
 | .box _ m _::h,n=>m<n∧frX σ h n
 | .th _::h,n=>frX σ h n
abbrev Kx:=GV→List Item→St→Prop
def bindX (v:Option GV) (k:Kx) (h:List Item) (τ:St):Prop:=match v with
 |some v=>k v h τ
 |none=>False
def orX (a b:Option GV):Option GV:=match a with
 |some x=>some x
 |none=>b
def lookZ:List Item→Nat→Option (Nat×List GV)
 |[],_=>none
 | .box z m cs::h,n=>if m=n then some (z,cs) else lookZ h n
 | .th _::h,n=>lookZ h n
def blcX (h:List Item) (cs:List GV):GV→Prop
 | .ptr b 0=>lookZ h b=some (1,cs)
 |_=>False
def ldB (c:Option (List GV)) (g:Bool) (n off:Nat) (e:Option GV):Option GV:=match c with
 |some cs=>(seg cs off n).bind (mkv g)
 |none=>e
def ldY (h:List Item) (τ:St) (g:Bool) (n:Nat):GV→Option GV
 | .ptr b off=>ldB (look h b) g n off (ldG g n τ (.ptr b off))
 |a=>ldG g n τ a
def ldX (σ:St) (h:List Item) (τ:St) (g:Bool) (n:Nat) (a:GV):Option GV:=orX (ldG g n σ a) (ldY h τ g n a)
def allocX (σ:St) (h:List Item) (z:Nat) (cs:List GV) (v:Nat→GV) (k:Kx):Prop:=∀ n,frX σ h n→∀ τ',Hx σ τ' (.box z n cs::h)→k (v n) (.box z n cs::h) τ'
def genX (σ:St) (D:Bool) (τ:St) (e:Option (GV×St)) (k:Kx):Prop:=∃ v τ' h',e=some (v,τ')∧(D=true→τ <+: τ')∧Hx σ τ' h'∧k v h' τ'
def stB (σ:St) (D:Bool) (h:List Item) (τ:St) (n:Nat) (k:Kx) (b off:Nat) (x:GV) (c:Option (List GV)):Prop:=match c with
 |some cs=>(D=false∧off+n≤cs.length∧0<n∧x.cells.length=n)∧∀ τ',Hx σ τ' (upd h b (splice cs off x.cells))→k (.tup []) (upd h b (splice cs off x.cells)) τ'
 |none=>genX σ D τ (stG n τ (.ptr b off) x) k
def stX (σ:St) (D:Bool) (h:List Item) (τ:St) (n:Nat) (k:Kx) (a x:GV):Prop:=match a with
 | .ptr b off=>stB σ D h τ n k b off x (look h b)
 |a=>genX σ D τ (stG n τ a x) k
def fnX (P:Program) (σ:St) (D:Bool) (τ:St) (args:List GV) (k:Kx):GV→Prop
 | .fn f caps=>∃ v τ' h',Ret P f (args++caps.map fun c=>.ptr c.1 c.2) τ v τ'∧(D=true→τ <+: τ')∧Hx σ τ' h'∧k v h' τ'
 |_=>False
def litX (σ:St) (h:List Item) (z len:Nat) (k:Kx):Option (List GV)→Prop
 |some cs=>allocX σ h z cs (fun n=>.sl n 0 len) k
 |none=>False
def callX (P:Program) (σ:St) (D:Bool) (τ:St) (f:Nat) (args:List GV) (k:Kx):Prop:=∃ v τ' h',Ret P f args τ v τ'∧(D=true→τ <+: τ')∧Hx σ τ' h'∧k v h' τ'
def mksX (σ:St) (h:List Item) (z b:Nat) (ze:List GV) (k:Kx):Option Nat→Option Nat→Prop
 |some n,some c=>n=c∧n*b≤140737488355328∧allocX σ h z (reps n ze) (fun g=>.sl g 0 n) k
 |_,_=>False
def sxI (P:Program) (D:Bool) (σ:St) (env:Env) (h:List Item) (τ:St) (k:Kx):Ins→Prop
 | .new cs=>allocX σ h 1 cs (fun n=>.ptr n 0) k
 | .box x=>notTup (x.ev env)=true∧allocX σ h 1 (x.ev env).cells (fun n=>.ptr n 0) k
 | .lit z len zero parts=>litX σ h z len k (fillG zero (parts.map fun p=>(p.1,p.2.1,p.2.2.ev env)))
 | .mks z b ze n c=>mksX σ h z b ze k (natOf (some (n.ev env))) (natOf (some (c.ev env)))
 | .ld g n a=>bindX (ldX σ h τ g n (a.ev env)) k h τ
 | .st n a x=>stX σ D h τ n k (a.ev env) (x.ev env)
 | .call f xs=>callX P σ D τ f (xs.map (·.ev env)) k
 | .callv x xs=>fnX P σ D τ (xs.map (·.ev env)) k (x.ev env)
 | .chk d (.ld g n (.t t))=>ldX σ h τ g n (env t)=some (env d)∧k (.tup []) h τ
 | .chk _ _=>False
 | .blc t cs=>blcX h cs (env t)∧k (.tup []) h τ
 | .mlk ks z ok m k'=>bindX (mlkG τ ks z ok (m.ev env) (k'.ev env)) k h τ
 | .bts x=>bindX ((elems τ 1 (x.ev env)).bind fun r=>(bytesOf r.2).map fun bs=>.str ⟨bs.toArray⟩) k h τ
 | .cut z x lo hi=>bindX (if zOk τ z (x.ev env) then cutG z (x.ev env) (lo.map (·.ev env)) (hi.map (·.ev env)) else none) k h τ
 | .app z b ze s x=>genX σ D τ (appV z b τ (s.ev env) (x.ev env)) k
 | .clr z ze x=>genX σ D τ (clrG z ze τ (x.ev env)) k
 | .mkm=>genX σ D τ (some (.mp τ.length,τ++[some (.map [])])) k
 | .mup ks m k' v=>genX σ D τ (mupG τ ks (m.ev env) (k'.ev env) (v.ev env)) k
 |i=>bindX ((exec env [] i).map (·.1)) k h τ
def gdX (c:Option (Option Bool×Bool)) (A B:Prop):Prop:=match c with
 |none=>A
 |some (some c,b)=>(c=b→A)∧(c= !b→B)
 |some (none,_)=>B
def sx (P:Program) (D:Bool) (σ:St):List Op1→(Env→List Item→St→Prop)→Env→List Item→St→Prop
 |[],K,env,h,τ=>K env h τ
 |o::r,K,env,h,τ=>gdX (o.g.map fun g=>((env g.1).bit,g.2)) (sxI P D σ env h τ (fun v h' τ'=>sx P D σ r K (upo env o.d v) h' τ') o.i) (sx P D σ r K (upo env o.d (.tup [])) h τ)
def ifX (c:Option Bool) (A B:Prop):Prop:=match c with
 |some c=>(c=true→A)∧(c=false→B)
 |none=>False
abbrev Qx:=Ex→Env→List Item→St→Prop
def sxc (P:Program) (σ:St):Cd→Qx→Env→List Item→St→Prop
 | .skip,Q=>Q .nxt
 | .reg ops,Q=>sx P false σ ops (Q .nxt)
 | .drw a1 bs,Q=>sx P true σ a1 (sx P false σ bs (Q .nxt))
 | .seq a b,Q=>sxc P σ a fun e=>match e with
  | .nxt=>sxc P σ b Q
  |e=>Q e
 | .cnd c a b,Q=>fun env h τ=>ifX (c.ev env).bit (sxc P σ a Q env h τ) (sxc P σ b Q env h τ)
 | .blk id a,Q=>sxc P σ a fun e=>match e with
  | .ext j=>if j=id then Q .nxt else Q (.ext j)
  |e=>Q e
 | .lop a,Q=>fun env h τ=>∃(I:Nat→Env→List Item→St→Prop) (n:Nat) (h0:List Item),Hx σ τ h0∧I n env h0 τ∧∀ k env h τ,Hx σ τ h→I k env h τ→sxc P σ a (fun e env' h' τ'=>match e with
  | .nxt=>∃ k' h1,k'<k∧Hx σ τ' h1∧I k' env' h1 τ'
  |e=>∃ h1,Hx σ τ' h1∧Q e env' h1 τ') env h τ
 | .ext id,Q=>Q (.ext id)
 | .ret,Q=>Q .ret
section sound
variable {P:Program} {σ:St} {D:Bool}
theorem Hx.hp {τ:St} {h:List Item} (H:Hx σ τ h):Hp σ τ (h.map Item.t):=H
theorem Hx.sub {τ:St} {h:List Item} (H:Hx σ τ h):σ <+: τ:=H.hp.sub
theorem Hx.refl (σ:St):Hx σ σ []:=Hp.refl σ
theorem look_at:∀ {h:List Item} {n:Nat} {cs:List GV},look h n=some cs→∃ z,∃ i:Nat,(h.map Item.t)[i]? =some (pt z n cs)∧∀ ds,(upd h n ds).map Item.t=(h.map Item.t).set i (pt z n ds)
 |[],_,_,e=>by cases e
 | .box z m cs'::h,n,cs,e=>by
  simp only[look] at e
  by_cases hm:m=n
  ·rw[if_pos hm] at e
   injection e with e;subst e hm
   exact⟨z,0,rfl,fun ds=>by simp[upd,Item.t]⟩
  ·rw[if_neg hm] at e
   obtain⟨z',i,h1,h2⟩:=look_at e
   exact⟨z',i+1,by simpa using h1,fun ds=>by simp[upd,hm,h2 ds]⟩
 | .th r::h,n,cs,e=>by
  obtain⟨z',i,h1,h2⟩:=look_at (h:=h) (by simpa [look] using e)
  exact⟨z',i+1,by simpa using h1,fun ds=>by simp[upd,h2 ds]⟩
theorem lookZ_at:∀ {h:List Item} {n z:Nat} {cs:List GV},lookZ h n=some (z,cs)→∃ i:Nat,(h.map Item.t)[i]? =some (pt z n cs)
 |[],_,_,_,e=>by cases e
 | .box z' m cs'::h,n,z,cs,e=>by
  simp only[lookZ] at e
  by_cases hm:m=n
  ·rw[if_pos hm] at e
   simp only[Option.some.injEq,Prod.mk.injEq] at e
   obtain⟨rfl,rfl⟩:=e
   subst hm
   exact⟨0,rfl⟩
  ·rw[if_neg hm] at e
   obtain⟨i,h1⟩:=lookZ_at e
   exact⟨i+1,by simpa using h1⟩
 | .th r::h,n,z,cs,e=>by
  obtain⟨i,h1⟩:=lookZ_at (h:=h) (by simpa [lookZ] using e)
  exact⟨i+1,by simpa using h1⟩
theorem ldG_pre {τ:St} {g:Bool} {n:Nat} {a x:GV} (h:ldG g n σ a=some x) (hp:σ <+: τ):ldG g n τ a=some x:=by
 cases a with
 |ptr b off=>
  simp only[ldG] at h ⊢
  obtain⟨cs,h1,h2⟩:=Option.bind_eq_some_iff.1 h
  rw[rdB_pre hp h1];exact h2
 |_=>cases h
theorem ldX_sound {h:List Item} {τ:St} (H:Hx σ τ h) {g:Bool} {n:Nat} {a x:GV} (e:ldX σ h τ g n a=some x):ldG g n τ a=some x:=by
 unfold ldX orX ldY at e
 split at e
 ·rename_i y hy
  injection e with e;subst e
  exact ldG_pre hy H.sub
 ·cases a with
  |ptr b off=>
   simp only at e
   cases hl:look h b with
   |none=>rw[hl] at e;exact e
   |some cs=>
    rw[hl] at e
    obtain⟨z,i,h1,_⟩:=look_at hl
    have:=H.hp.pt i h1
    simp only[ldG,this,Option.bind_some]
    exact e
  |_=>exact e
theorem fr_use {n:Nat}:∀ {h:List Item},σ.length≤n→(∀ z m cs,Item.box z m cs∈h→m<n)→frX σ h n
 |[],hl,_=>hl
 | .box z m cs::h,hl,hb=>⟨hb z m cs List.mem_cons_self,fr_use (h:=h) hl fun z m cs hm=>hb z m cs (List.mem_cons_of_mem _ hm)⟩
 | .th r::h',hl,hb=>fr_use (h:=h') hl fun z m cs hm=>hb z m cs (List.mem_cons_of_mem _ hm)
theorem box_lt {h:List Item} {τ:St} (H:Hx σ τ h) {z m:Nat} {cs:List GV} (hm:Item.box z m cs∈h):m<τ.length:=by
 obtain⟨i,hi,e⟩:=List.getElem_of_mem hm
 have h1:(h.map Item.t)[i]? =some (pt z m cs):=by
  rw[List.getElem?_map,List.getElem?_eq_getElem hi,e];rfl
 obtain⟨a,ha,_,hb⟩:=H.hp.see h1
 exact(hb m (by rw[ha.1];exact List.mem_cons_self)).2
theorem alloc_sound {h:List Item} {τ:St} {z:Nat} {cs:List GV} {v:Nat→GV} {k:Kx} (H:Hx σ τ h) (e:allocX σ h z cs v k):∃ h',Hx σ (τ++[some (.row z cs)]) h'∧k (v τ.length) h' (τ++[some (.row z cs)]):=
 ⟨.box z τ.length cs::h,H.hp.new z cs,e τ.length (fr_use (h:=h) H.sub.length_le (fun _ _ _ hm=>box_lt H hm)) _ (H.hp.new z cs)⟩
theorem gen_sound {τ:St} {e:Option (GV×St)} {k:Kx} (h:genX σ D τ e k):∃ v τ',e=some (v,τ')∧(D=true→τ <+: τ')∧∃ h',Hx σ τ' h'∧k v h' τ':=by
 obtain⟨v,τ',h',h1,h2,h3,h4⟩:=h
 exact⟨v,τ',h1,h2,h',h3,h4⟩
theorem sxI_sound {env:Env} {h:List Item} {τ:St} {k:Kx} (H:Hx σ τ h):∀ {i:Ins},sxI P D σ env h τ k i→∃ v τ',Step P env τ i v τ'∧(D=true→τ <+: τ')∧∃ h',Hx σ τ' h'∧k v h' τ':=by
 intro i e
 have same:∀ {v:Option GV},bindX v k h τ→(∀ v',v=some v'→Step P env τ i v' τ)→∃ v τ',Step P env τ i v τ'∧(D=true→τ <+: τ')∧∃ h',Hx σ τ' h'∧k v h' τ':=by
  intro v hb hs
  cases v with
  |none=>exact hb.elim
  |some v=>exact⟨v,τ,hs v rfl,fun _=>List.prefix_refl _,h,H,hb⟩
 have pure:pureI i=true→bindX ((exec env [] i).map (·.1)) k h τ→i.isCall=false→(∀ v',exec env τ i=some (v',τ)→Step P env τ i v' τ)→∃ v τ',Step P env τ i v τ'∧(D=true→τ <+: τ')∧∃ h',Hx σ τ' h'∧k v h' τ':=by
  intro hp hb _ hs
  refine same hb fun v' hv=>hs v' ?_
  obtain⟨⟨w,s⟩,hw,rfl⟩:=Option.map_eq_some_iff.1 hv
  exact(exec_pure hp hw).2 τ
 cases i with
 |new cs=>
  obtain⟨h',h1,h2⟩:=alloc_sound H e
  exact⟨_,_,rfl,fun _=>List.prefix_append _ _,h',h1,h2⟩
 |box x=>
  obtain⟨h0,e⟩:=e
  obtain⟨h',h1,h2⟩:=alloc_sound H e
  exact⟨_,_,by show boxG τ _=_;unfold boxG;rw[if_pos h0],fun _=>List.prefix_append _ _,h',h1,h2⟩
 |lit z len zero parts=>
  simp only[sxI] at e
  unfold litX at e
  split at e
  ·rename_i cs hc
   obtain⟨h',h1,h2⟩:=alloc_sound H e
   exact⟨_,_,by show exec env τ _=_;simp only[exec,hc];rfl,fun _=>List.prefix_append _ _,h',h1,h2⟩
  ·exact e.elim
 |mks z b ze n c=>
  simp only[sxI] at e
  unfold mksX at e
  split at e
  ·rename_i n' c' hn hc
   obtain⟨h0,h3,e⟩:=e
   obtain⟨h',h1,h2⟩:=alloc_sound H e
   exact⟨_,_,by show exec env τ _=_;simp only[exec,hn,hc,Option.bind_some,if_pos (And.intro h0 h3)],fun _=>List.prefix_append _ _,h',h1,h2⟩
  ·exact e.elim
 |ld g n a=>
  refine same e fun v' hv=> ?_
  have:=ldX_sound H hv
  show exec env τ _=_
  simp only[exec]
  revert this
  cases a.ev env with
  |ptr b off=>
   intro h1
   simp only[ldG] at h1
   simp only[ptrG,Option.bind_some]
   obtain⟨cs,h2,h3⟩:=Option.bind_eq_some_iff.1 h1
   obtain⟨r,h4,h5⟩:=Option.bind_eq_some_iff.1 h3
   simp only[h2,Option.bind_some,h4,h5,Option.map_some]
  |_=>intro h1;cases h1
 |st n a x=>
  simp only[sxI] at e
  have hst:∀ {y:GV} {τ'},stG n τ (a.ev env) (x.ev env)=some (y,τ')→Step P env τ (.st n a x) y τ':=by
   intro y τ' he
   show exec env τ _=_
   simp only[exec]
   revert he
   cases a.ev env<;>intro he<;>first|cases he;done|exact he
  have gen:genX σ D τ (stG n τ (a.ev env) (x.ev env)) k→∃ v τ',Step P env τ (.st n a x) v τ'∧(D=true→τ <+: τ')∧∃ h',Hx σ τ' h'∧k v h' τ':=fun hg=>by
   obtain⟨v,τ',h1,h2⟩:=gen_sound hg
   exact⟨v,τ',hst h1,h2⟩
  unfold stX at e
  split at e
  ·rename_i b off hb
   unfold stB at e
   split at e
   ·rename_i cs hl
    obtain⟨⟨h0,h1,h2,h3⟩,h4⟩:=e
    obtain⟨z,i,h5,h6⟩:=look_at hl
    obtain⟨τ',s1,s2,_⟩:=H.hp.st i h5 n off (x.ev env) h3 h2 h1
    have s3:Hx σ τ' (upd h b (splice cs off (x.ev env).cells)):=by unfold Hx;rw[h6];exact s2
    exact⟨_,τ',hst (by rw[hb];exact s1),(fun hd=>by rw[hd] at h0;cases h0),_,s3,h4 _ s3⟩
   ·rw[← hb] at e;exact gen e
  ·exact gen e
 |call f xs=>
  obtain⟨v,τ',h',h1,h2,h3,h4⟩:=e
  exact⟨v,τ',h1,h2,h',h3,h4⟩
 |callv x xs=>
  simp only[sxI] at e
  unfold fnX at e
  split at e
  ·rename_i f caps hf
   obtain⟨v,τ',h',h1,h2,h3,h4⟩:=e
   exact⟨v,τ',⟨f,caps,hf,h1⟩,h2,h',h3,h4⟩
  ·exact e.elim
 |chk d x=>
  cases x with
  |ld g n a=>cases a with
   |t t=>
    obtain⟨h1,h2⟩:=e
    refine⟨_,τ,⟨rfl,rfl,?_⟩,fun _=>List.prefix_refl _,h,H,h2⟩
    have h3:=ldX_sound H h1
    simp only[exec,Opd.ev]
    revert h3
    cases env t with
    |ptr b off=>
     intro h1
     simp only[ldG] at h1
     simp only[ptrG,Option.bind_some]
     obtain⟨cs,h2,h3⟩:=Option.bind_eq_some_iff.1 h1
     obtain⟨r,h4,h5⟩:=Option.bind_eq_some_iff.1 h3
     simp only[h2,Option.bind_some,h4,h5,Option.map_some]
    |_=>intro h1;cases h1
   |k v=>exact e.elim
  |_=>exact e.elim
 |blc t cs=>
  obtain⟨h1,h2⟩:=e
  revert h1
  unfold blcX
  split
  ·rename_i b hb
   intro h1
   obtain⟨i,h3⟩:=lookZ_at h1
   obtain⟨a,ha,_⟩:=H.hp.see h3
   exact⟨_,τ,⟨rfl,rfl,b,hb,bk_some.1 ha.2⟩,fun _=>List.prefix_refl _,h,H,h2⟩
  ·exact fun h1=>h1.elim
 |mlk ks z ok m k'=>exact same e fun v' hv=>by show exec env τ _=_;simp only[exec,hv,Option.map_some]
 |bts x=>
  refine same e fun v' hv=> ?_
  show exec env τ _=_
  simp only[exec]
  obtain⟨r,h1,h2⟩:=Option.bind_eq_some_iff.1 hv
  obtain⟨bs,h3,rfl⟩:=Option.map_eq_some_iff.1 h2
  rw[h1,Option.bind_some,h3];rfl
 |cut z x lo hi=>
  refine same e fun v' hv=> ?_
  show exec env τ _=_
  simp only[exec]
  split at hv
  ·rename_i hz
   rw[if_pos hz,hv];rfl
  ·cases hv
 |app z b ze s x=>exact gen_sound e
 |clr z ze x=>exact gen_sound e
 |mkm=>exact gen_sound e
 |mup ks m k' v=>exact gen_sound e
 |mkf f caps=>
  refine same e fun v' hv=> ?_
  show exec env τ _=_
  simp only[exec] at hv ⊢
  obtain⟨⟨w,s⟩,hw,rfl⟩:=Option.map_eq_some_iff.1 hv
  obtain⟨cs,h1,h2⟩:=Option.map_eq_some_iff.1 hw
  injection h2 with h2 h3;subst h2
  rw[h1];rfl
 |pan=>exact e.elim
 |_=>exact pure rfl e rfl fun _ h=>h
theorem sx_sound:∀ {os:List Op1} {K:Env→List Item→St→Prop} {env:Env} {h:List Item} {τ:St},Hx σ τ h→sx P D σ os K env h τ→vcOps D P os (fun env' τ'=>τ.length≤τ'.length∧∃ h',Hx σ τ' h'∧K env' h' τ') env τ
 |[],K,env,h,τ,H,e=>⟨Nat.le_refl _,h,H,e⟩
 |o::r,K,env,h,τ,H,e=>by
  have yes:sxI P D σ env h τ (fun v h' τ'=>sx P D σ r K (upo env o.d v) h' τ') o.i→∃ v σ',Step P env τ o.i v σ'∧(D=true→τ <+: σ')∧vcOps D P r (fun env' τ'=>τ.length≤τ'.length∧∃ h',Hx σ τ' h'∧K env' h' τ') (upo env o.d v) σ':=fun e=>by
   obtain⟨v,τ',h1,h2,h',h3,h4⟩:=sxI_sound H e
   have hl:=step_len h1
   exact⟨v,τ',h1,h2,vcOps_mono (sx_sound h3 h4) fun _ _ hk=>⟨Nat.le_trans hl hk.1,hk.2⟩⟩
  have no:sx P D σ r K (upo env o.d (.tup [])) h τ→vcOps D P r (fun env' τ'=>τ.length≤τ'.length∧∃ h',Hx σ τ' h'∧K env' h' τ') (upo env o.d (.tup [])) τ:=fun e=>sx_sound H e
  simp only[vcOps]
  simp only[sx] at e
  cases hg:o.g with
  |none=>
   rw[hg] at e
   rw[if_pos (by simp[wantedG])]
   exact yes e
  |some q=>
   obtain⟨g,b⟩:=q
   rw[hg] at e
   simp only[Option.map_some] at e
   cases hc:(env g).bit with
   |none=>
    rw[hc] at e
    rw[if_neg (by simp[wantedG,hc])]
    exact no e
   |some c=>
    rw[hc] at e
    by_cases hcb:c=b
    ·rw[if_pos (by simp[wantedG,hc,hcb])]
     exact yes (e.1 hcb)
    ·rw[if_neg (by simp[wantedG,hc,hcb])]
     exact no (e.2 (by cases c<;>cases b<;>simp_all))
theorem sxc_sound {d:Cd}:∀ {Q:Qx} {env:Env} {h:List Item} {τ:St},Hx σ τ h→sxc P σ d Q env h τ→vc P d (fun e env' τ'=>τ.length≤τ'.length∧∃ h',Hx σ τ' h'∧Q e env' h' τ') env τ:=by
 induction d with
 |skip=>intro Q env h τ H e;exact⟨Nat.le_refl _,h,H,e⟩
 |reg ops=>intro Q env h τ H e;exact sx_sound H e
 |drw a1 bs=>
  intro Q env h τ H e
  show vcOps true P a1 _ env τ
  refine vcOps_mono (sx_sound H e) fun env' τ' hk=> ?_
  obtain⟨hl,h',H',hk⟩:=hk
  exact vcOps_mono (sx_sound H' hk) fun _ _ hq=>⟨Nat.le_trans hl hq.1,hq.2⟩
 |seq a b iha ihb=>
  intro Q env h τ H e
  show vc P a _ env τ
  refine vc_mono (iha H e) fun e env' τ' hk=> ?_
  obtain⟨hl,h',H',hk⟩:=hk
  cases e with
  |nxt=>exact vc_mono (ihb H' hk) fun _ _ _ hq=>⟨Nat.le_trans hl hq.1,hq.2⟩
  |ext j=>exact⟨hl,h',H',hk⟩
  |ret=>exact⟨hl,h',H',hk⟩
 |cnd c a b iha ihb=>
  intro Q env h τ H e
  simp only[sxc] at e
  unfold ifX at e
  split at e
  ·rename_i t ht
   exact⟨t,ht,fun k=>iha H (e.1 k),fun k=>ihb H (e.2 k)⟩
  ·exact e.elim
 |blk id a ih=>
  intro Q env h τ H e
  show vc P a _ env τ
  refine vc_mono (ih H e) fun e env' τ' hk=> ?_
  obtain⟨hl,h',H',hk⟩:=hk
  cases e with
  |nxt=>exact⟨hl,h',H',hk⟩
  |ext j=>
   simp only at hk ⊢
   split at hk
   ·rename_i hj;rw[if_pos hj];exact⟨hl,h',H',hk⟩
   ·rename_i hj;rw[if_neg hj];exact⟨hl,h',H',hk⟩
  |ret=>exact⟨hl,h',H',hk⟩
 |lop a ih=>
  intro Q env h τ H e
  obtain⟨I,n,h0,H0,hI,hs⟩:=e
  refine vc_lop (fun k env' τ'=>τ.length≤τ'.length∧∃ h,Hx σ τ' h∧I k env' h τ') n ⟨Nat.le_refl _,h0,H0,hI⟩ ?_
  rintro k env1 τ1 ⟨hl,h1,H1,hI1⟩
  refine vc_mono (ih H1 (hs k env1 h1 τ1 H1 hI1)) fun e env' τ' hk=> ?_
  obtain⟨hl2,h',H',hk⟩:=hk
  cases e with
  |nxt=>
   obtain⟨k',h3,h4,h5,h6⟩:=hk
   exact⟨k',h4,Nat.le_trans hl hl2,h3,h5,h6⟩
  |ext j=>exact⟨Nat.le_trans hl hl2,hk⟩
  |ret=>exact⟨Nat.le_trans hl hl2,hk⟩
 |ext id=>intro Q env h τ H e;exact⟨Nat.le_refl _,h,H,e⟩
 |ret=>intro Q env h τ H e;exact⟨Nat.le_refl _,h,H,e⟩
def rsX (σ:St) (h:List Item) (τ:St) (env:Env):Rs→Option GV
 | .t n=>some (env n)
 | .c a g n=>ldX σ h τ g n (env a)
def resX (σ:St) (h:List Item) (τ:St) (env:Env):List Rs→Option GV
 |[r]=>rsX σ h τ env r
 |rs=>(optAll (rsX σ h τ env) rs).bind fun vs=>if vs.all notTup then some (.tup vs) else none
theorem rsX_sound {h:List Item} {τ:St} (H:Hx σ τ h) {env:Env} {r:Rs} {v:GV} (e:rsX σ h τ env r=some v):r.ev env τ=some v:=by
 cases r with
 |t n=>exact e
 |c a g n=>rw[rs_c];exact ldX_sound H e
theorem optAll_imp {α β:Type} {f g:α→Option β} (h:∀ x y,f x=some y→g x=some y):∀ {l:List α} {r:List β},optAll f l=some r→optAll g l=some r
 |[],r,e=>e
 |x::l,r,e=>by
  simp only[optAll,Option.bind_eq_some_iff,Option.map_eq_some_iff] at e ⊢
  obtain⟨y,h1,ys,h2,rfl⟩:=e
  exact⟨y,h _ _ h1,ys,optAll_imp h h2,rfl⟩
theorem resX_sound {h:List Item} {τ:St} (H:Hx σ τ h) {env:Env} {rs:List Rs} {v:GV} (e:resX σ h τ env rs=some v):resG env τ rs=some v:=by
 unfold resX at e
 unfold resG
 split at e
 ·exact rsX_sound H e
 ·rename_i hne
  split
  ·exact absurd rfl (hne _)
  ·obtain⟨vs,h1,h2⟩:=Option.bind_eq_some_iff.1 e
   rw[optAll_imp (fun x y=>rsX_sound H) h1];exact h2
theorem ret_x {md:Bool} {f:Nat} {F:Fn1} {args:List GV} {σ1:St} {h0:List Item} {Post:GV→St→Prop} (hF:compFnM md P f=some F) (hl:args.length≤F.n) (H:Hx σ σ1 h0)
  (hc:sxc P σ F.c (fun e env h τ=>Hx σ τ h→isOut e=true∧∃ r,resX σ h τ env F.rs=some r∧Post r τ) (env0 args) h0 σ1):∃ r τ,Ret P f args σ1 r τ∧Post r τ:=
 ret_mut hF hl (vc_mono (sxc_sound H hc) fun e env τ he=>by
  obtain⟨hl,h,H,hq⟩:=he
  obtain⟨ho,r,hr,hp⟩:=hq H
  exact⟨ho,r,resX_sound H hr,hl,hp⟩)
end sound
end Go.Proofs.YtbeoiejnogdkpaaGreat.Sy
namespace Go.Proofs.YtbeoiejnogdkpaaGreat.Sy
open Go Go.RowKit
set_option linter.unusedSimpArgs false
set_option linter.unusedVariables false
def nextX (P:Program) (D:Bool) (σ:St) (r:List Op1) (K:Env→List Item→St→Prop) (env:Env) (d:Option Nat):Kx:=fun v h' τ'=>sx P D σ r K (upo env d v) h' τ'
def gdS (P:Program) (D:Bool) (σ:St) (env:Env) (h:List Item) (τ:St) (k:Kx) (i:Ins) (b:Bool) (c:Option Bool):Prop:=match c with
 |some c=>(c=b→sxI P D σ env h τ k i)∧(c= !b→k (.tup []) h τ)
 |none=>k (.tup []) h τ
def ifS (P:Program) (σ:St) (a b:Cd) (Q:Qx) (env:Env) (h:List Item) (τ:St) (c:Option Bool):Prop:=match c with
 |some c=>(c=true→sxc P σ a Q env h τ)∧(c=false→sxc P σ b Q env h τ)
 |none=>False
section words
variable {P:Program} {D:Bool} {σ τ:St} {env:Env} {h:List Item} {r:List Op1} {K:Env→List Item→St→Prop} {k:Kx} {d:Option Nat} {Q:Qx}
@[go_sem] theorem nextX_ap {v:GV}:nextX P D σ r K env d v h τ=sx P D σ r K (upo env d v) h τ:=(rfl)
@[go_sem] theorem sx_nil:sx P D σ [] K env h τ=K env h τ:=(rfl)
@[go_sem] theorem sx_one {i:Ins}:sx P D σ (⟨d,none,i⟩::r) K env h τ=sxI P D σ env h τ (nextX P D σ r K env d) i:=(rfl)
@[go_sem] theorem sx_grd {g:Nat} {b:Bool} {i:Ins}:sx P D σ (⟨d,some (g,b),i⟩::r) K env h τ=gdS P D σ env h τ (nextX P D σ r K env d) i b (env g).bit:=by
 show gdX (some ((env g).bit,b)) _ _=_
 cases(env g).bit<;>rfl
@[go_sem] theorem gdS_tt {b:Bool} {i:Ins}:gdS P D σ env h τ k i b (some b)=sxI P D σ env h τ k i:=by cases b<;>simp[gdS]
@[go_sem] theorem gdS_tf {i:Ins}:gdS P D σ env h τ k i false (some true)=k (.tup []) h τ:=by simp[gdS]
@[go_sem] theorem gdS_ft {i:Ins}:gdS P D σ env h τ k i true (some false)=k (.tup []) h τ:=by simp[gdS]
@[go_sem] theorem gdS_n {b:Bool} {i:Ins}:gdS P D σ env h τ k i b none=k (.tup []) h τ:=(rfl)
@[go_sem] theorem bindX_some {v:GV}:bindX (some v) k h τ=k v h τ:=(rfl)
@[go_sem] theorem ifS_t {a b:Cd}:ifS P σ a b Q env h τ (some true)=sxc P σ a Q env h τ:=by simp[ifS]
@[go_sem] theorem ifS_f {a b:Cd}:ifS P σ a b Q env h τ (some false)=sxc P σ b Q env h τ:=by simp[ifS]
theorem mapfst {v:Option GV}:(Option.map (·.1) (v.map fun v=>(v,([]:St))))=v:=by cases v<;>rfl
@[go_sem] theorem xi_mov {x:Opd}:sxI P D σ env h τ k (.mov x)=k (x.ev env) h τ:=(rfl)
@[go_sem] theorem xi_pick {c a b:Opd}:sxI P D σ env h τ k (.pick c a b)=bindX ((c.ev env).bit.map fun t=>if t then a.ev env else b.ev env) k h τ:=by
 simp only[sxI,exec]
 cases(c.ev env).bit<;>rfl
@[go_sem] theorem xi_new {cs:List GV}:sxI P D σ env h τ k (.new cs)=allocX σ h 1 cs (fun n=>.ptr n 0) k:=(rfl)
@[go_sem] theorem xi_box {x:Opd}:sxI P D σ env h τ k (.box x)=(notTup (x.ev env)=true∧allocX σ h 1 (x.ev env).cells (fun n=>.ptr n 0) k):=(rfl)
@[go_sem] theorem xi_build {z:List GV} {ps:List (Nat×Nat×Opd)}:sxI P D σ env h τ k (.build z ps)=bindX ((fillG z (ps.map fun p=>(p.1,p.2.1,p.2.2.ev env))).map .agg) k h τ:=by
 simp only[sxI,exec]
 cases fillG z (ps.map fun p=>(p.1,p.2.1,p.2.2.ev env))<;>rfl
@[go_sem] theorem xi_lit {z l:Nat} {ze:List GV} {ps:List (Nat×Nat×Opd)}:sxI P D σ env h τ k (.lit z l ze ps)=litX σ h z l k (fillG ze (ps.map fun p=>(p.1,p.2.1,p.2.2.ev env))):=(rfl)
@[go_sem] theorem litX_some {z l:Nat} {cs:List GV}:litX σ h z l k (some cs)=allocX σ h z cs (fun n=>.sl n 0 l) k:=(rfl)
@[go_sem] theorem xi_mks {z b:Nat} {ze:List GV} {n c:Opd}:sxI P D σ env h τ k (.mks z b ze n c)=mksX σ h z b ze k (natOf (some (n.ev env))) (natOf (some (c.ev env))):=(rfl)
@[go_sem] theorem mksX_some {z b:Nat} {ze:List GV} {n c:Nat}:mksX σ h z b ze k (some n) (some c)=(n=c∧n*b≤140737488355328∧allocX σ h z (reps n ze) (fun g=>.sl g 0 n) k):=(rfl)
@[go_sem] theorem xi_ld {g:Bool} {n:Nat} {a:Opd}:sxI P D σ env h τ k (.ld g n a)=bindX (ldX σ h τ g n (a.ev env)) k h τ:=(rfl)
@[go_sem] theorem xi_st {n:Nat} {a x:Opd}:sxI P D σ env h τ k (.st n a x)=stX σ D h τ n k (a.ev env) (x.ev env):=(rfl)
@[go_sem] theorem stX_ptr {n b off:Nat} {x:GV}:stX σ D h τ n k (.ptr b off) x=stB σ D h τ n k b off x (look h b):=(rfl)
@[go_sem] theorem stB_some {n b off:Nat} {x:GV} {cs:List GV}:stB σ D h τ n k b off x (some cs)=((D=false∧off+n≤cs.length∧0<n∧x.cells.length=n)∧∀ τ',Hx σ τ' (upd h b (splice cs off x.cells))→k (.tup []) (upd h b (splice cs off x.cells)) τ'):=(rfl)
@[go_sem] theorem xi_nck {x:Opd}:sxI P D σ env h τ k (.nck x)=bindX (nckG (x.ev env)) k h τ:=by simp only[sxI,exec,mapfst]
@[go_sem] theorem xi_bin {op:BinOp} {x y:Opd}:sxI P D σ env h τ k (.bin op x y)=bindX (binG op (x.ev env) (y.ev env)) k h τ:=by simp only[sxI,exec,mapfst]
@[go_sem] theorem xi_eqb {n:Bool} {x y:Opd}:sxI P D σ env h τ k (.eqb n x y)=bindX (eqbG n (x.ev env) (y.ev env)) k h τ:=by
 simp only[sxI,exec,eqbG]
 cases(x.ev env).bit with
 |none=>rfl
 |some a=>cases(y.ev env).bit<;>rfl
@[go_sem] theorem xi_eqn {p n:Bool} {x y:Opd}:sxI P D σ env h τ k (.eqn p n x y)=bindX ((nilG p (x.ev env) (y.ev env)).map fun b=>.bool (n ^^ b)) k h τ:=by
 simp only[sxI,exec]
 cases nilG p (x.ev env) (y.ev env)<;>rfl
@[go_sem] theorem xi_eqs {n:Bool} {ks:List Sc} {x y:Opd}:sxI P D σ env h τ k (.eqs n ks x y)=bindX (eqsG n ks (x.ev env) (y.ev env)) k h τ:=by
 simp only[sxI,exec]
 cases x.ev env<;>first|rfl|skip
 cases y.ev env<;>first|rfl|skip
 simp only[eqsG]
 cases scsEq ks _ _<;>rfl
@[go_sem] theorem xi_un {op:UnOp} {x:Opd}:sxI P D σ env h τ k (.un op x)=bindX (unG op (x.ev env)) k h τ:=by simp only[sxI,exec,mapfst]
@[go_sem] theorem xi_cvi {kd:IntKind} {x:Opd}:sxI P D σ env h τ k (.cvi kd x)=bindX (cviG kd (x.ev env)) k h τ:=by
 simp only[sxI,exec]
 cases x.ev env<;>rfl
@[go_sem] theorem xi_bts {x:Opd}:sxI P D σ env h τ k (.bts x)=bindX ((elems τ 1 (x.ev env)).bind fun r=>(bytesOf r.2).map fun bs=>.str ⟨bs.toArray⟩) k h τ:=(rfl)
@[go_sem] theorem xi_mkf {f:Nat} {cs:List Opd}:sxI P D σ env h τ k (.mkf f cs)=bindX ((cs.mapM fun c=>capOf (c.ev env)).map fun cs=>.fn f cs) k h τ:=by
 simp only[sxI,exec]
 cases cs.mapM fun c=>capOf (c.ev env)<;>rfl
@[go_sem] theorem xi_cutS {x:Opd} {lo hi:Option Opd}:sxI P D σ env h τ k (.cutS x lo hi)=bindX (cutSG (x.ev env) (lo.map (·.ev env)) (hi.map (·.ev env))) k h τ:=by simp only[sxI,exec,mapfst]
@[go_sem] theorem xi_cut {z:Nat} {x:Opd} {lo hi:Option Opd}:sxI P D σ env h τ k (.cut z x lo hi)=bindX (if zOk τ z (x.ev env) then cutG z (x.ev env) (lo.map (·.ev env)) (hi.map (·.ev env)) else none) k h τ:=(rfl)
@[go_sem] theorem xi_fad {n:Nat} {a:Opd}:sxI P D σ env h τ k (.fad n a)=bindX (fadG n (a.ev env)) k h τ:=by
 simp only[sxI,exec]
 cases a.ev env<;>rfl
@[go_sem] theorem xi_part {g:Bool} {off n:Nat} {x:Opd}:sxI P D σ env h τ k (.part g off n x)=bindX (partV g off n (x.ev env)) k h τ:=by
 simp only[sxI,exec]
 cases x.ev env with
 |agg cs=>
  simp only[partV]
  cases seg cs off n with
  |none=>rfl
  |some q=>simp only[Option.bind_some,mapfst]
 |_=>rfl
@[go_sem] theorem xi_iad {z:Nat} {x i:Opd}:sxI P D σ env h τ k (.iad z x i)=bindX (iadG z (x.ev env) (natOf (some (i.ev env)))) k h τ:=by
 simp only[sxI,exec]
 cases x.ev env with
 |sl g off len=>
  simp only
  cases natOf (some (i.ev env)) with
  |none=>rfl
  |some n=>
   simp only[Option.bind_some,iadG]
   split<;>rfl
 |_=>rfl
@[go_sem] theorem xi_idx {x i:Opd}:sxI P D σ env h τ k (.idx x i)=bindX (idxG (x.ev env) (natOf (some (i.ev env)))) k h τ:=by
 simp only[sxI,exec]
 cases x.ev env with
 |str s=>
  simp only
  cases natOf (some (i.ev env)) with
  |none=>rfl
  |some n=>
   simp only[Option.bind_some,idxG]
   cases s[n]? <;>rfl
 |_=>rfl
@[go_sem] theorem xi_ext {i:Nat} {x:Opd}:sxI P D σ env h τ k (.ext i x)=bindX (extG i (x.ev env)) k h τ:=by
 simp only[sxI,exec]
 cases x.ev env with
 |tup vs=>
  simp only[extG]
  cases vs[i]? with
  |none=>rfl
  |some v=>cases v<;>rfl
 |_=>rfl
@[go_sem] theorem xi_len {s:Bool} {x:Opd}:sxI P D σ env h τ k (.len s x)=bindX ((lenG s (x.ev env)).map fun n=>.int .i64 n) k h τ:=by
 simp only[sxI,exec]
 cases lenG s (x.ev env)<;>rfl
@[go_sem] theorem xi_app {z b:Nat} {ze:List GV} {s x:Opd}:sxI P D σ env h τ k (.app z b ze s x)=genX σ D τ (appV z b τ (s.ev env) (x.ev env)) k:=(rfl)
@[go_sem] theorem xi_mm {m:Bool} {x y:Opd}:sxI P D σ env h τ k (.mm m x y)=bindX (mmG m (x.ev env) (y.ev env)) k h τ:=by
 simp only[sxI,exec]
 cases x.ev env<;>first|rfl|skip
 cases y.ev env<;>rfl
@[go_sem] theorem xi_clr {z:Nat} {ze:List GV} {x:Opd}:sxI P D σ env h τ k (.clr z ze x)=genX σ D τ (clrG z ze τ (x.ev env)) k:=(rfl)
@[go_sem] theorem xi_pan:sxI P D σ env h τ k .pan=False:=(rfl)
@[go_sem] theorem xi_mkm:sxI P D σ env h τ k .mkm=genX σ D τ (some (.mp τ.length,τ++[some (.map [])])) k:=(rfl)
@[go_sem] theorem xi_mlk {ks:List Sc} {z:GV} {ok:Bool} {m k':Opd}:sxI P D σ env h τ k (.mlk ks z ok m k')=bindX (mlkG τ ks z ok (m.ev env) (k'.ev env)) k h τ:=(rfl)
@[go_sem] theorem xi_mup {ks:List Sc} {m k' v:Opd}:sxI P D σ env h τ k (.mup ks m k' v)=genX σ D τ (mupG τ ks (m.ev env) (k'.ev env) (v.ev env)) k:=(rfl)
@[go_sem] theorem xi_call {f:Nat} {xs:List Opd}:sxI P D σ env h τ k (.call f xs)=callX P σ D τ f (xs.map (·.ev env)) k:=(rfl)
@[go_sem] theorem xi_callv {x:Opd} {xs:List Opd}:sxI P D σ env h τ k (.callv x xs)=fnX P σ D τ (xs.map (·.ev env)) k (x.ev env):=(rfl)
@[go_sem] theorem fnX_fn {f:Nat} {caps:List (Nat×Nat)} {args:List GV}:fnX P σ D τ args k (.fn f caps)=callX P σ D τ f (args++caps.map fun c=>.ptr c.1 c.2) k:=(rfl)
@[go_sem] theorem xi_chk {d' n t:Nat} {g:Bool}:sxI P D σ env h τ k (.chk d' (.ld g n (.t t)))=(ldX σ h τ g n (env t)=some (env d')∧k (.tup []) h τ):=(rfl)
@[go_sem] theorem xi_blc {t:Nat} {cs:List GV}:sxI P D σ env h τ k (.blc t cs)=(blcX h cs (env t)∧k (.tup []) h τ):=(rfl)
@[go_sem] theorem blcX_ptr {b:Nat} {cs:List GV}:blcX h cs (.ptr b 0)=(lookZ h b=some (1,cs)):=(rfl)
@[go_sem] theorem lookZ_eq {z n:Nat} {cs:List GV}:lookZ (.box z n cs::h) n=some (z,cs):=by simp[lookZ]
@[go_sem low] theorem lookZ_ne {z m n:Nat} {cs:List GV} (hn:m≠n):lookZ (.box z m cs::h) n=lookZ h n:=by simp[lookZ,hn]
@[go_sem] theorem lookZ_th {n:Nat} {q:Thg}:lookZ (.th q::h) n=lookZ h n:=(rfl)
@[go_sem] theorem allocX_def {z:Nat} {cs:List GV} {v:Nat→GV}:allocX σ h z cs v k=∀ n,frX σ h n→∀ τ',Hx σ τ' (.box z n cs::h)→k (v n) (.box z n cs::h) τ':=(rfl)
@[go_sem] theorem frX_nil {n:Nat}:frX σ [] n=(σ.length≤n):=(rfl)
@[go_sem] theorem frX_box {z m n:Nat} {cs:List GV}:frX σ (.box z m cs::h) n=(m<n∧frX σ h n):=(rfl)
@[go_sem] theorem frX_th {n:Nat} {q:Thg}:frX σ (.th q::h) n=frX σ h n:=(rfl)
@[go_sem] theorem look_eq {z n:Nat} {cs:List GV}:look (.box z n cs::h) n=some cs:=by simp[look]
@[go_sem low] theorem look_ne {z m n:Nat} {cs:List GV} (hn:m≠n):look (.box z m cs::h) n=look h n:=by simp[look,hn]
@[go_sem] theorem look_th {n:Nat} {q:Thg}:look (.th q::h) n=look h n:=(rfl)
@[go_sem] theorem upd_eq {z n:Nat} {cs ds:List GV}:upd (.box z n cs::h) n ds= .box z n ds::h:=by simp[upd]
@[go_sem low] theorem upd_ne {z m n:Nat} {cs ds:List GV} (hn:m≠n):upd (.box z m cs::h) n ds= .box z m cs::upd h n ds:=by simp[upd,hn]
@[go_sem] theorem upd_th {n:Nat} {q:Thg} {ds:List GV}:upd (.th q::h) n ds= .th q::upd h n ds:=(rfl)
@[go_sem] theorem ldX_ptr {g:Bool} {n b off:Nat} (hb:σ.length≤b):ldX σ h τ g n (.ptr b off)=ldB (look h b) g n off (ldG g n τ (.ptr b off)):=by
 have:ldG g n σ (.ptr b off)=none:=by
  simp only[ldG,rdB]
  rw[List.getElem?_eq_none hb];rfl
 simp only[ldX,this,orX,ldY]
@[go_sem] theorem ldX_at {g:Bool} {n z i:Nat} {v:GV}:ldX σ h τ g n (atz z v i)=orX (ldG g n σ (atz z v i)) (ldY h τ g n (atz z v i)):=(rfl)
@[go_sem] theorem ldX_fld {g:Bool} {n z i m:Nat} {v:GV}:ldX σ h τ g n (fld m (atz z v i))=orX (ldG g n σ (fld m (atz z v i))) (ldY h τ g n (fld m (atz z v i))):=(rfl)
@[go_sem] theorem orX_some {x:GV} {b:Option GV}:orX (some x) b=some x:=(rfl)
@[go_sem] theorem orX_none {b:Option GV}:orX none b=b:=(rfl)
@[go_sem] theorem ldB_some {cs:List GV} {g:Bool} {n off:Nat} {e:Option GV}:ldB (some cs) g n off e=(seg cs off n).bind (mkv g):=(rfl)
@[go_sem] theorem cells_i {kd:IntKind} {n:Int}:(GV.int kd n).cells=[.int kd n]:=(rfl)
@[go_sem] theorem cells_s {s:ByteArray}:(GV.str s).cells=[.str s]:=(rfl)
@[go_sem] theorem cells_b {b:Bool}:(GV.bool b).cells=[.bool b]:=(rfl)
@[go_sem] theorem cells_p {n o:Nat}:(GV.ptr n o).cells=[.ptr n o]:=(rfl)
@[go_sem] theorem cells_l {n o l:Nat}:(GV.sl n o l).cells=[.sl n o l]:=(rfl)
@[go_sem] theorem cells_a {cs:List GV}:(GV.agg cs).cells=cs:=(rfl)
@[go_sem] theorem cells_n:(GV.nilS).cells=[.nilS]:=(rfl)
@[go_sem] theorem cells_m {n:Nat}:(GV.mp n).cells=[.mp n]:=(rfl)
@[go_sem] theorem cells_f {f:Nat} {c:List (Nat×Nat)}:(GV.fn f c).cells=[.fn f c]:=(rfl)
@[go_sem] theorem notTup_p {n o:Nat}:notTup (.ptr n o)=true:=(rfl)
@[go_sem] theorem notTup_m {n:Nat}:notTup (.mp n)=true:=(rfl)
@[go_sem] theorem notTup_f {f:Nat} {c:List (Nat×Nat)}:notTup (.fn f c)=true:=(rfl)
@[go_sem] theorem xc_skip:sxc P σ .skip Q env h τ=Q .nxt env h τ:=(rfl)
@[go_sem] theorem xc_reg {os:List Op1}:sxc P σ (.reg os) Q env h τ=sx P false σ os (Q .nxt) env h τ:=(rfl)
@[go_sem] theorem xc_drw {a1 bs:List Op1}:sxc P σ (.drw a1 bs) Q env h τ=sx P true σ a1 (sx P false σ bs (Q .nxt)) env h τ:=(rfl)
@[go_sem] theorem xc_seq {a b:Cd}:sxc P σ (.seq a b) Q env h τ=sxc P σ a (fun e=>match e with
  | .nxt=>sxc P σ b Q
  |e=>Q e) env h τ:=(rfl)
@[go_sem] theorem xc_cnd {c:Opd} {a b:Cd}:sxc P σ (.cnd c a b) Q env h τ=ifS P σ a b Q env h τ (c.ev env).bit:=by
 show ifX _ _ _=_
 cases(c.ev env).bit<;>rfl
@[go_sem] theorem xc_blk {id:Nat} {a:Cd}:sxc P σ (.blk id a) Q env h τ=sxc P σ a (fun e=>match e with
  | .ext j=>if j=id then Q .nxt else Q (.ext j)
  |e=>Q e) env h τ:=(rfl)
@[go_sem] theorem xc_ext {id:Nat}:sxc P σ (.ext id) Q env h τ=Q (.ext id) env h τ:=(rfl)
@[go_sem] theorem xc_ret:sxc P σ .ret Q env h τ=Q .ret env h τ:=(rfl)
@[go_sem] theorem rsX_t {n:Nat}:rsX σ h τ env (.t n)=some (env n):=(rfl)
@[go_sem] theorem rsX_c {a n:Nat} {g:Bool}:rsX σ h τ env (.c a g n)=ldX σ h τ g n (env a):=(rfl)
@[go_sem] theorem resX_1 {x:Rs}:resX σ h τ env [x]=rsX σ h τ env x:=(rfl)
@[go_sem] theorem resX_0:resX σ h τ env []=some (.tup []):=(rfl)
@[go_sem] theorem resX_2 {x y:Rs}:resX σ h τ env [x,y]=tup2 (rsX σ h τ env x) (rsX σ h τ env y):=by
 simp only[resX,optAll,tup2]
 cases rsX σ h τ env x with
 |none=>rfl
 |some u=>cases rsX σ h τ env y<;>simp
@[go_sem] theorem resX_3 {x y z:Rs}:resX σ h τ env [x,y,z]=tup3 (rsX σ h τ env x) (rsX σ h τ env y) (rsX σ h τ env z):=by
 simp only[resX,optAll,tup3]
 cases rsX σ h τ env x with
 |none=>rfl
 |some u=>cases rsX σ h τ env y with
  |none=>rfl
  |some v=>cases rsX σ h τ env z<;>simp
end words
end Go.Proofs.YtbeoiejnogdkpaaGreat.Sy
namespace Go.Proofs.YtbeoiejnogdkpaaGreat.Sy
open Go Go.RowKit
set_option linter.unusedSimpArgs false
set_option linter.unusedVariables false
theorem sat_feet {τ:St}:∀ {rs:List Thg} {fp:List Nat},sat τ rs fp→fp.Nodup→∃ F:Nat→List Nat,(∀ (i:Nat) (r:Thg),rs[i]? =some r→r.P τ (F i))∧(∀ i,(F i).Nodup)∧(∀ i j,i≠j→∀ g∈F i,g∉F j)∧∀ i,∀ g∈F i,g∈fp
 |[],fp,h,hn=>⟨fun _=>[],by simp,by simp,by simp,by simp⟩
 |r::rs,_,⟨a,b,hr,hs,rfl⟩,hn=>by
  rw[List.nodup_append] at hn
  obtain⟨F,h1,h2,h3,h4⟩:=sat_feet hs hn.2.1
  refine⟨fun i=>match i with|0=>a|i+1=>F i,?_,?_,?_,?_⟩
  ·intro i s hi
   cases i with
   |zero=>simp at hi;subst hi;exact hr
   |succ i=>exact h1 i s (by simpa using hi)
  ·intro i;cases i with
   |zero=>exact hn.1
   |succ i=>exact h2 i
  ·intro i j hij g hg
   cases i with
   |zero=>cases j with
    |zero=>exact absurd rfl hij
    |succ j=>exact fun h=>hn.2.2 g hg g (h4 j g h) rfl
   |succ i=>cases j with
    |zero=>exact fun h=>hn.2.2 g h g (h4 i g hg) rfl
    |succ j=>exact h3 i j (by omega) g hg
  ·intro i g hg
   cases i with
   |zero=>exact List.mem_append_left _ hg
   |succ i=>exact List.mem_append_right _ (h4 i g hg)
theorem sat_sel {τ:St} {rs:List Thg} {F:Nat→List Nat} (h1:∀(i:Nat) (r:Thg),rs[i]? =some r→r.P τ (F i)) (h2:∀ i,(F i).Nodup) (h3:∀ i j,i≠j→∀ g∈F i,g∉F j):∀ {is:List Nat},is.Nodup→∃ fp,sat τ (is.filterMap (rs[·]?)) fp∧fp.Nodup∧∀ g∈fp,∃ i∈is,g∈F i
 |[],_=>⟨[],rfl,by simp,by simp⟩
 |i::is,hn=>by
  rw[List.nodup_cons] at hn
  obtain⟨fp,k1,k2,k3⟩:=sat_sel h1 h2 h3 hn.2
  cases hi:rs[i]? with
  |none=>exact⟨fp,by rw[List.filterMap_cons,hi];exact k1,k2,fun g hg=>by obtain⟨j,hj,h⟩:=k3 g hg;exact⟨j,List.mem_cons_of_mem _ hj,h⟩⟩
  |some r=>
   refine⟨F i++fp,by rw[List.filterMap_cons,hi];exact⟨F i,fp,h1 i r hi,k1,rfl⟩,List.nodup_append.2 ⟨h2 i,k2,fun x hx y hy e=> ?_⟩,fun g hg=> ?_⟩
   ·subst e
    obtain⟨j,hj,h⟩:=k3 x hy
    exact h3 i j (fun e=>hn.1 (by rw[e];exact hj)) x hx h
   ·rcases List.mem_append.1 hg with hg|hg
    ·exact⟨i,List.mem_cons_self,hg⟩
    ·obtain⟨j,hj,h⟩:=k3 g hg;exact⟨j,List.mem_cons_of_mem _ hj,h⟩
theorem Hp.sel {σ τ:St} {rs:List Thg} (H:Hp σ τ rs) (is:List Nat) (hn:is.Nodup):Hp σ τ (is.filterMap (rs[·]?)):=by
 obtain⟨h,fp,hs,hnd,hb⟩:=H
 obtain⟨F,h1,h2,h3,h4⟩:=sat_feet hs hnd
 obtain⟨fp',k1,k2,k3⟩:=sat_sel h1 h2 h3 hn
 exact⟨h,fp',k1,k2,fun g hg=>by obtain⟨i,_,hi⟩:=k3 g hg;exact hb g (h4 i g hi)⟩
theorem Hx.sel {σ τ:St} {h:List Item} (H:Hx σ τ h) (is:List Nat) (hn:is.Nodup):Hp σ τ (is.filterMap ((h.map Item.t)[·]?)):=Hp.sel H is hn
theorem Hx.re {σ τ:St} {h:List Item} (H:Hx σ τ h) (is:List Nat) (hn:is.Nodup):Hx σ τ (is.filterMap (h[·]?)):=by
 have e:(is.filterMap (h[·]?)).map Item.t=is.filterMap ((h.map Item.t)[·]?):=by
  induction is with
  |nil=>rfl
  |cons i is ih=>
   have ih:=ih (List.nodup_cons.1 hn).2
   rw[List.filterMap_cons,List.filterMap_cons,List.getElem?_map]
   cases h[i]? with
   |none=>exact ih
   |some x=>simp only[Option.map_some,List.map_cons,ih]
 unfold Hx
 rw[e]
 exact H.sel is hn
section os
variable {α:Type} {d:Kd α} {σ τ:St} {l:List α} {v:GV} {fp:List Nat}
theorem OS.appc {by8:Nat} {x:α} {cs:List GV} {fx:List Nat} (h:OS d τ l v fp) (hx:d.O τ x cs fx) (hn:(fp++fx).Nodup) (hlt:∀ g∈fp++fx,g<τ.length) (hz:0<d.z) (hb:(l.length+1)*by8≤140737488355328):
  ∃ v' τ' fp',appG d.z by8 τ v 1 cs=some (v',τ')∧OS d τ' (l++[x]) v' fp'∧Turn τ τ' (fp++fx) fp':=by
 have hcl:=d.len (d.rd hx)
 rcases h with⟨rfl,rfl,rfl⟩|⟨g,pre,css,post,fps,rfl,hB,hA,rfl⟩
 ·have hb':1*by8≤140737488355328:=by simpa using hb
  refine⟨.sl τ.length 0 1,τ++[some (.row d.z cs)],τ.length::fx,?_,?_,?_⟩
  ·simp only[appG]
   rw[if_neg (by omega),if_pos hb']
  ·refine .inr ⟨τ.length,[],[cs],[],[fx],rfl,?_,.cons (d.loc hx fun g hg=> ?_) .nil,by simp⟩
   ·rw[bk_app_at];simp
   ·rw[bk_app_lt (hlt g (by simpa using hg))]
  ·refine⟨?_,?_,by simp,fun g hg _=>by rw[bk_app_lt hg]⟩
   ·rw[List.nodup_cons]
    exact⟨fun h=>by have:=hlt τ.length (by simpa using h);omega,by simpa using hn⟩
   ·intro g hg
    rcases List.mem_cons.1 hg with rfl|hg
    ·right;simp
    ·left;simpa using hg
 ·rw[List.cons_append,List.nodup_cons] at hn
  have hgt:g<τ.length:=hlt g (by simp)
  have hfl:=flat_len hA
  have e:((pre++css.flatten++post).drop pre.length).take (l.length*d.z)=css.flatten:=by
   rw[List.append_assoc,List.drop_append,List.drop_eq_nil_of_le (Nat.le_refl _),List.nil_append,Nat.sub_self,List.drop_zero,List.take_append_of_le_length (by omega),List.take_of_length_le (by omega)]
  have c1:pre.length+l.length*d.z≤(pre++css.flatten++post).length:=by simp only[List.length_append];omega
  obtain⟨σ1,e1,hs⟩:=appG_sl (bytes:=by8) (n:=1) (new:=cs) (bk_some.1 hB) (by omega) c1 hb
  have hsl:σ1.length=τ.length:=by rcases hs with rfl|rfl<;>simp
  have hbk:∀ g',g≠g'→bk σ1 g'=bk τ g':=fun g' hne=>by
   rcases hs with rfl|rfl
   ·rfl
   ·exact bk_set_ne hne
  rw[e] at e1
  refine⟨.sl τ.length 0 (l.length+1),σ1++[some (.row d.z (css.flatten++cs))],τ.length::(fps.flatten++fx),e1,?_,?_⟩
  ·have keep:∀ g'∈fps.flatten++fx,bk (σ1++[some (.row d.z (css.flatten++cs))]) g'=bk τ g':=fun g' hg'=>by
    have h1:g'<τ.length:=hlt g' (by simp only[List.cons_append];exact List.mem_cons_of_mem _ hg')
    have h2:g≠g':=fun e=>hn.1 (by rw[e];exact hg')
    rw[bk_app_lt (by rw[hsl];omega),hbk g' h2]
   refine .inr ⟨τ.length,[],css++[cs],[],fps++[fx],by simp,?_,(hA.imp fun a b c hc ho=>d.loc ho fun g' hg'=>keep g' (List.mem_append_left _ (List.mem_flatten.2 ⟨c,hc,hg'⟩))).append (.cons (d.loc hx fun g' hg'=>keep g' (List.mem_append_right _ hg')) .nil),by simp⟩
   rw[← hsl,bk_app_at];simp
  ·refine⟨?_,?_,by simp[hsl],fun g' hg' hne=> ?_⟩
   ·rw[List.nodup_cons]
    exact⟨fun h=>by have:=hlt τ.length (by simp only[List.cons_append];exact List.mem_cons_of_mem _ h);omega,hn.2⟩
   ·intro g' hg'
    rcases List.mem_cons.1 hg' with rfl|hg'
    ·right;simp[hsl]
    ·left;simp only[List.cons_append];exact List.mem_cons_of_mem _ hg'
   ·have h2:g≠g':=fun e=>hne (by rw[e];simp)
    rw[bk_app_lt (by rw[hsl];exact hg'),hbk g' h2]
end os
theorem Hp.appc {α:Type} {d:Kd α} {σ τ:St} {rs:List Thg} {v:GV} {l:List α} {by8:Nat} {x:α} {cs:List GV} (H:Hp σ τ (own d cs x::rs)) (i:Nat) (hi:rs[i]? =some (ow d v l)) (hz:0<d.z) (hb:(l.length+1)*by8≤140737488355328):
  ∃ v' τ',appG d.z by8 τ v 1 cs=some (v',τ')∧Hp σ τ' (rs.set i (ow d v' (l++[x]))):=by
 have hp:(own d cs x::rs).Perm (ow d v l::own d cs x::rs.eraseIdx i):=((pick_perm hi).cons _).trans (List.Perm.swap _ _ _)
 obtain⟨a,⟨a1,a2,h1,h2,rfl⟩,hn,hbd,ht⟩:=(H.perm hp).join.turn
 obtain⟨v',τ',fp',e,ho,hT⟩:=OS.appc (by8:=by8) (x:=x) (cs:=cs) (fx:=a2) h1 h2 hn (fun g hg=>(hbd g hg).2) hz hb
 exact⟨v',τ',e,unpick (ht hT ho) (List.getElem?_eq_some_iff.1 hi).1⟩
section rules
variable {P:Program} {D:Bool} {σ τ τ':St} {env:Env} {h:List Item} {k:Kx} {f:Nat} {args:List GV} {v:GV} {α:Type}
theorem map_th {rs:List Thg} {h:List Item}:(rs.map Item.th++h).map Item.t=rs++h.map Item.t:=by
 rw[List.map_append,List.map_map]
 congr 1
 exact List.map_id _
theorem by_cs {rs:List Thg} (H:Hx σ τ h) (R:Ret P f args τ v τ') (K:Hp τ τ' rs) (kk:Hx σ τ' (rs.map Item.th++h)→k v (rs.map Item.th++h) τ'):callX P σ D τ f args k:=by
 have H':Hx σ τ' (rs.map Item.th++h):=by unfold Hx;rw[map_th];exact H.hp.add K
 exact⟨v,τ',_,R,fun _=>K.sub,H',kk H'⟩
theorem by_c {r:Thg} (H:Hx σ τ h) (R:Ret P f args τ v τ') (K:Hp τ τ' [r]) (kk:Hx σ τ' (.th r::h)→k v (.th r::h) τ'):callX P σ D τ f args k:=by_cs H R K kk
theorem by_r (H:Hx σ τ h) (R:Ret P f args τ v τ) (kk:k v h τ):callX P σ D τ f args k:=⟨v,τ,h,R,fun _=>List.prefix_refl _,H,kk⟩
theorem by_b {b:Bool} (H:Hx σ τ h) (R:Ret P f args τ (.bool b) τ) (h1:b=true→k (.bool true) h τ) (h2:b=false→k (.bool false) h τ):callX P σ D τ f args k:=by
 refine by_r H R ?_
 cases b with
 |true=>exact h1 rfl
 |false=>exact h2 rfl
theorem by_m {h':List Item} (R:Ret P f args τ v τ') (H:Hx σ τ' h') (kk:k v h' τ'):callX P σ false τ f args k:=⟨v,τ',h',R,(fun h=>by cases h),H,kk⟩
theorem set_t {h:List Item} {i:Nat} {r:Thg}:(h.set i (.th r)).map Item.t=(h.map Item.t).set i r:=List.map_set ..
theorem at_t {h:List Item} {i:Nat} {r:Thg} (hi:h[i]? =some (.th r)):(h.map Item.t)[i]? =some r:=by rw[List.getElem?_map,hi];rfl
theorem map_era:∀(h:List Item) (j:Nat),(h.map Item.t).eraseIdx j=(h.eraseIdx j).map Item.t
 |[],_=>rfl
 |x::h,0=>rfl
 |x::h,j+1=>by simp only[List.map_cons,List.eraseIdx_cons_succ,map_era h j]
theorem by_appc {d:Kd α} {b8 n:Nat} {l:List α} {x:α} {cs:List GV} (H:Hx σ τ h) (j i:Nat) (hj:h[j]? =some (.th (own d cs x))) (hi:(h.eraseIdx j)[i]? =some (.th (ow d v l))) (hl:look h n=some cs) (hz:0<d.z) (hb:(l.length+1)*b8≤140737488355328)
  (kk:∀ v' τ',Hx σ τ' ((h.eraseIdx j).set i (.th (ow d v' (l++[x]))))→k v' ((h.eraseIdx j).set i (.th (ow d v' (l++[x])))) τ'):genX σ false τ (appV d.z b8 τ v (.sl n 0 1)) k:=by
 obtain⟨z,m,h1,_⟩:=look_at hl
 have hB:=H.hp.pt m h1
 have hcl:cs.length=d.z:=d.len (H.hp.rd j (at_t hj))
 have H1:=H.hp.pick j (at_t hj)
 rw[map_era] at H1
 obtain⟨v',τ',e,H'⟩:=H1.appc (by8:=b8) i (at_t hi) hz hb
 rw[← set_t] at H'
 refine⟨v',τ',_,?_,(fun h=>by cases h),H',kk v' τ' H'⟩
 rw[← e]
 unfold appV
 have el:elems τ d.z (.sl n 0 1)=some (1,cs):=by
  simp only[elems,hB,Option.bind_some,seg]
  rw[if_pos (by omega)]
  simp
  exact List.take_of_length_le (by omega)
 simp only[el,Option.bind_some]
theorem by_cp {p:Pl α} {b8 n:Nat} {m:List α} {u:GV} (H:Hx σ τ (.box p.z n []::h)) (hu:RS p.kd τ u m) (hz:0<p.z) (hb:m.length*b8≤140737488355328)
  (kk:∀ v' τ',Hx σ τ' (.th (ow p.kd v' m)::h)→k v' (.th (ow p.kd v' m)::h) τ'):genX σ D τ (appV p.z b8 τ (.sl n 0 0) u) k:=by
 have hu':RdN p.en τ u m:=hu
 have ha:appV p.z b8 τ (.sl n 0 0) u=appG p.z b8 τ (.sl n 0 0) m.length (p.cells m):=by
  have he:=hu'.elems
  unfold appV
  rcases hu' with⟨rfl,rfl|rfl⟩|⟨g,off,cs,rfl,_⟩<;>simp only[he,Option.bind_some]
 rw[ha]
 by_cases hm:m.length=0
 ·have:m=[]:=List.eq_nil_of_length_eq_zero hm
  subst this
  have H1:Hx σ τ (.th (ow p.kd (.sl n 0 0) [])::h):=H.hp.toNil (d:=p.kd) 0 rfl rfl
  exact⟨.sl n 0 0,τ,_,by simp[appG,isSl],fun _=>List.prefix_refl _,H1,kk _ _ H1⟩
 ·obtain⟨a,ha,_⟩:=H.hp.see (i:=0) rfl
  have hB:=bk_some.1 ha.2
  have H1:Hx σ (τ++[some (.row p.z (p.cells m))]) (.th (ow p.kd (.sl τ.length 0 m.length) m)::h):=(H.hp.drop1.new p.z (p.cells m)).toRow 0 rfl m rfl rfl _ rfl
  refine⟨.sl τ.length 0 m.length,τ++[some (.row p.z (p.cells m))],_,?_,fun _=>pre1 _ _,H1,kk _ _ H1⟩
  simp only[appG,hB,if_neg hm]
  rw[if_pos ⟨trivial,trivial,trivial,trivial,hb⟩]
theorem genX_mono {e:Option (GV×St)} {k k':Kx} (hk:∀ v h τ,k v h τ→k' v h τ):genX σ D τ e k→genX σ D τ e k':=fun⟨v,τ',h',h1,h2,h3,h4⟩=>⟨v,τ',h',h1,h2,h3,hk _ _ _ h4⟩
theorem alloc_mono {z:Nat} {cs:List GV} {w:Nat→GV} {k k':Kx} (hk:∀ v h τ,k v h τ→k' v h τ) (e:allocX σ h z cs w k):allocX σ h z cs w k':=fun n hf τ' H=>hk _ _ _ (e n hf τ' H)
theorem sxI_mono {k k':Kx} (hk:∀ v h τ,k v h τ→k' v h τ):∀ {i:Ins},sxI P D σ env h τ k i→sxI P D σ env h τ k' i:=by
 have bm:∀ {v:Option GV},bindX v k h τ→bindX v k' h τ:=fun {v} e=>by
  cases v with
  |none=>exact e
  |some v=>exact hk _ _ _ e
 intro i e
 cases i with
 |new cs=>exact alloc_mono hk e
 |box x=>exact⟨e.1,alloc_mono hk e.2⟩
 |lit z len zero parts=>
  simp only[sxI] at e ⊢
  revert e
  cases fillG zero (parts.map fun p=>(p.1,p.2.1,p.2.2.ev env)) with
  |none=>exact id
  |some cs=>exact alloc_mono hk
 |mks z b ze n c=>
  simp only[sxI] at e ⊢
  revert e
  cases natOf (some (n.ev env)) with
  |none=>exact id
  |some n=>cases natOf (some (c.ev env)) with
   |none=>exact id
   |some c=>exact fun e=>⟨e.1,e.2.1,alloc_mono hk e.2.2⟩
 |st n a x=>
  simp only[sxI] at e ⊢
  revert e
  cases a.ev env with
  |ptr b off=>
   simp only[stX]
   unfold stB
   cases look h b with
   |none=>exact genX_mono hk
   |some cs=>exact fun e=>⟨e.1,fun τ' H=>hk _ _ _ (e.2 τ' H)⟩
  |_=>exact genX_mono hk
 |call f xs=>
  obtain⟨v,τ',h',h1,h2,h3,h4⟩:=e
  exact⟨v,τ',h',h1,h2,h3,hk _ _ _ h4⟩
 |callv x xs=>
  simp only[sxI] at e ⊢
  revert e
  cases x.ev env with
  |fn f caps=>exact fun⟨v,τ',h',h1,h2,h3,h4⟩=>⟨v,τ',h',h1,h2,h3,hk _ _ _ h4⟩
  |_=>exact id
 |chk d x=>
  cases x with
  |ld g n a=>cases a with
   |t t=>exact⟨e.1,hk _ _ _ e.2⟩
   |k v=>exact e
  |_=>exact e
 |blc t cs=>exact⟨e.1,hk _ _ _ e.2⟩
 |app z b ze s x=>exact genX_mono hk e
 |clr z ze x=>exact genX_mono hk e
 |mkm=>exact genX_mono hk e
 |mup ks m k2 v=>exact genX_mono hk e
 |mov x=>exact hk _ _ _ e
 |pan=>exact e
 |_=>exact bm e
theorem sx_mono:∀ {os:List Op1} {K K':Env→List Item→St→Prop} {env:Env} {h:List Item} {τ:St},(∀ env h τ,K env h τ→K' env h τ)→sx P D σ os K env h τ→sx P D σ os K' env h τ
 |[],K,K',env,h,τ,hk,e=>hk _ _ _ e
 |o::r,K,K',env,h,τ,hk,e=>by
  simp only[sx] at e ⊢
  have y:sxI P D σ env h τ (fun v h' τ'=>sx P D σ r K (upo env o.d v) h' τ') o.i→sxI P D σ env h τ (fun v h' τ'=>sx P D σ r K' (upo env o.d v) h' τ') o.i:=sxI_mono fun v h τ=>sx_mono hk
  have n:sx P D σ r K (upo env o.d (.tup [])) h τ→sx P D σ r K' (upo env o.d (.tup [])) h τ:=sx_mono hk
  revert e
  cases o.g.map fun g=>((env g.1).bit,g.2) with
  |none=>exact y
  |some q=>
   obtain⟨c,b⟩:=q
   cases c with
   |none=>exact n
   |some c=>exact fun e=>⟨fun hc=>y (e.1 hc),fun hc=>n (e.2 hc)⟩
theorem sxc_mono {d:Cd}:∀ {Q Q':Qx} {env:Env} {h:List Item} {τ:St},(∀ e env h τ,Q e env h τ→Q' e env h τ)→sxc P σ d Q env h τ→sxc P σ d Q' env h τ:=by
 induction d with
 |skip=>intro Q Q' env h τ hq e;exact hq _ _ _ _ e
 |reg ops=>intro Q Q' env h τ hq e;exact sx_mono (hq _) e
 |drw a1 bs=>intro Q Q' env h τ hq e;exact sx_mono (fun _ _ _=>sx_mono (hq _)) e
 |seq a b iha ihb=>
  intro Q Q' env h τ hq e
  refine iha (fun e env h τ he=> ?_) e
  cases e with
  |nxt=>exact ihb hq he
  |ext j=>exact hq _ _ _ _ he
  |ret=>exact hq _ _ _ _ he
 |cnd c a b iha ihb=>
  intro Q Q' env h τ hq e
  simp only[sxc] at e ⊢
  unfold ifX at e ⊢
  split
  ·rename_i hc;rw[hc] at e;exact⟨fun k=>iha hq (e.1 k),fun k=>ihb hq (e.2 k)⟩
  ·rename_i hc;rw[hc] at e;exact e
 |blk id a ih=>
  intro Q Q' env h τ hq e
  refine ih (fun e env h τ he=> ?_) e
  cases e with
  |nxt=>exact hq _ _ _ _ he
  |ext j=>
   simp only at he ⊢
   split at he
   ·rename_i hj;rw[if_pos hj];exact hq _ _ _ _ he
   ·rename_i hj;rw[if_neg hj];exact hq _ _ _ _ he
  |ret=>exact hq _ _ _ _ he
 |lop a ih=>
  intro Q Q' env h τ hq e
  obtain⟨I,n,h0,H0,hI,hs⟩:=e
  refine⟨I,n,h0,H0,hI,fun k env h τ H hi=>ih (fun e env' h' τ' he=> ?_) (hs k env h τ H hi)⟩
  cases e with
  |nxt=>exact he
  |ext j=>obtain⟨h1,H1,he⟩:=he;exact⟨h1,H1,hq _ _ _ _ he⟩
  |ret=>obtain⟨h1,H1,he⟩:=he;exact⟨h1,H1,hq _ _ _ _ he⟩
 |ext id=>intro Q Q' env h τ hq e;exact hq _ _ _ _ e
 |ret=>intro Q Q' env h τ hq e;exact hq _ _ _ _ e
variable {a b:Cd} {Q:Qx}
theorem sx_lop (n j0:Nat) (I:Nat→Env→List Item→Prop) (X Z:Env→List Item→Prop) (h0:List Item) (H0:Hx σ τ h0) (hI:I n env h0)
  (hs:∀(J:Nat→Env→St→Prop) (Y W:Env→St→Prop),(∀ i env h τ,Hx σ τ h→I i env h→J i env τ)→(∀ env h τ,Hx σ τ h→X env h→Y env τ)→(∀ env h τ,Hx σ τ h→Z env h→W env τ)→∀ i env h τ,Hx σ τ h→I i env h→sxc P σ a (fun e env' h' τ'=>match e with
   | .nxt=>∃ i',i'<i∧J i' env' τ'
   | .ext j=>j=j0∧Y env' τ'
   | .ret=>W env' τ') env h τ)
  (hx:∀ env h τ,Hx σ τ h→X env h→Q (.ext j0) env h τ) (hz:∀ env h τ,Hx σ τ h→Z env h→Q .ret env h τ):sxc P σ (.lop a) Q env h τ:=by
 refine⟨fun i env h τ=>I i env h,n,h0,H0,hI,fun i env h τ H hi=>sxc_mono (fun e env' h' τ' he=> ?_) (hs (fun i env τ=>∃ h,Hx σ τ h∧I i env h) (fun env τ=>∃ h,Hx σ τ h∧X env h) (fun env τ=>∃ h,Hx σ τ h∧Z env h) (fun _ _ h _ H e=>⟨h,H,e⟩) (fun _ h _ H e=>⟨h,H,e⟩) (fun _ h _ H e=>⟨h,H,e⟩) i env h τ H hi)⟩
 cases e with
 |nxt=>obtain⟨i',h1,h2,h3,h4⟩:=he;exact⟨i',h2,h1,h3,h4⟩
 |ext j=>obtain⟨rfl,h2,h3,h4⟩:=he;exact⟨h2,h3,hx _ _ _ h3 h4⟩
 |ret=>obtain⟨h2,h3,h4⟩:=he;exact⟨h2,h3,hz _ _ _ h3 h4⟩
theorem sx_for (n ri j0:Nat) (I:Nat→Env→List Item→Prop) (X Z:Env→List Item→Prop) (h0:List Item) (H0:Hx σ τ h0) (hr:env ri=gi 0) (hI:I 0 env h0)
  (hs:∀(J:Nat→Env→St→Prop) (Y W:Env→St→Prop),(∀ i env h τ,Hx σ τ h→I i env h→J i env τ)→(∀ env h τ,Hx σ τ h→X env h→Y env τ)→(∀ env h τ,Hx σ τ h→Z env h→W env τ)→∀ i env h τ,i<n→env ri=gi i→decide ((i:Int)<n)=true→Hx σ τ h→I i env h→sxc P σ a (fun e env' h' τ'=>match e with
   | .nxt=>env' ri=gi ((i:Int)+1)∧J (i+1) env' τ'
   | .ext j=>j=j0∧Y env' τ'
   | .ret=>W env' τ') env h τ)
  (he:∀(Y:Env→St→Prop),(∀ env h τ,Hx σ τ h→X env h→Y env τ)→∀ env h τ,env ri=gi n→decide ((n:Int)<n)=false→Hx σ τ h→I n env h→sxc P σ a (fun e env' h' τ'=>match e with
   | .nxt=>False
   | .ext j=>j=j0∧Y env' τ'
   | .ret=>False) env h τ)
  (hx:∀ env h τ,Hx σ τ h→X env h→Q (.ext j0) env h τ) (hz:∀ env h τ,Hx σ τ h→Z env h→Q .ret env h τ):sxc P σ (.lop a) Q env h τ:=by
 refine sx_lop n j0 (fun k env h=>∃ i:Nat,k=n - i∧i≤n∧env ri=gi i∧I i env h) X Z h0 H0 ⟨0,rfl,Nat.zero_le _,hr,hI⟩ (fun J Y W hJ hY hW k env h τ H hi=> ?_) hx hz
 obtain⟨i,rfl,h1,h2,h3⟩:=hi
 rcases Nat.lt_or_ge i n with hlt|hge
 ·refine sxc_mono (fun e env' h' τ' q=> ?_) (hs (fun i' env τ=>i'≤n→env ri=gi i'→J (n - i') env τ) Y W (fun j env h τ H e hj hr=>hJ _ env h τ H ⟨j,rfl,hj,hr,e⟩) hY hW i env h τ hlt h2 (by simp;omega) H h3)
  cases e with
  |nxt=>exact⟨n - (i+1),by omega,q.2 (by omega) q.1⟩
  |ext j=>exact q
  |ret=>exact q
 ·obtain rfl:i=n:=by omega
  refine sxc_mono (fun e env' h' τ' q=> ?_) (he Y hY env h τ h2 (by simp) H h3)
  cases e with
  |nxt=>exact q.elim
  |ext j=>exact q
  |ret=>exact q.elim
theorem ret_xe {md:Bool} {F:Fn1} {r:GV} (hF:compFnM md P f=some F) (hl:args.length≤F.n) (hr:vLt σ.length r)
  (hc:sxc P σ F.c (fun e env h τ=>Hx σ τ h→isOut e=true∧resX σ h τ env F.rs=some r) (env0 args) [] σ):Ret P f args σ r σ:=
 ret_eq hF hl hr (vc_mono (sxc_sound (Hx.refl σ) hc) fun e env τ he=>by
  obtain⟨_,h,H,hq⟩:=he
  exact⟨(hq H).1,resX_sound H (hq H).2,H.sub⟩)
end rules
end Go.Proofs.YtbeoiejnogdkpaaGreat.Sy
namespace Go.Proofs.YtbeoiejnogdkpaaGreat.Sy
open Go Go.RowKit
set_option linter.unusedSimpArgs false
set_option linter.unusedVariables false
def eD (p:Dot×Int):GV×GV:=(.agg [gi p.1.rep,gi p.1.seq],gi p.2)
def dlook (ps:List (Dot×Int)) (d:Dot):Option Int:=(ps.find? fun p=>decide (d=p.1)).map (·.2)
def mpt (m:GV) (ps:List (Dot×Int)):Thg:=⟨fun σ fp=>∃ g,m= .mp g∧fp=[g]∧bk σ g=some (.map (ps.map eD)),fun⟨g,h1,h2,h3⟩ hf=>⟨g,h1,h2,by rw[hf g (by rw[h2];exact List.mem_cons_self)];exact h3⟩⟩
def dks:List Sc:=[.i .i64,.i .i64]
theorem findG_dots (d:Dot):∀(ps:List (Dot×Int)) (i:Nat),∃ q,findG [.i .i64,.i .i64] [gi d.rep,gi d.seq] (ps.map eD) i=some q∧match dlook ps d with
  |some v=>∃ j,q=some (j,gi v)
  |none=>q=none
 |[],i=>⟨none,rfl,rfl⟩
 |p::ps,i=>by
  obtain⟨q,h1,h2⟩:=findG_dots d ps (i+1)
  have e:scsEq [.i .i64,.i .i64] [gi d.rep,gi d.seq] [gi p.1.rep,gi p.1.seq]=some (decide (d=p.1)):=by
   have:decide (d=p.1)=(decide (d.rep=p.1.rep)&&decide (d.seq=p.1.seq)):=by
    rw[Bool.eq_iff_iff]
    simp only[decide_eq_true_eq,Bool.and_eq_true]
    constructor
    ·rintro rfl;exact⟨rfl,rfl⟩
    ·rintro⟨h3,h4⟩;cases d;cases hp:p.1;simp_all
   rw[this]
   simp only[scsEq,scEq,and_self,if_true,Option.bind_some,Option.map_some,Bool.and_true,Option.some.injEq]
   rw[Bool.eq_iff_iff];simp
  by_cases hd:d=p.1
  ·refine⟨some (i,gi p.2),?_,?_⟩
   ·simp only[List.map_cons,eD,findG] at e ⊢
    rw[e];simp[hd]
   ·have:dlook (p::ps) d=some p.2:=by simp[dlook,hd]
    rw[this];exact⟨i,rfl⟩
  ·refine⟨q,?_,?_⟩
   ·simp only[List.map_cons,eD,findG] at e ⊢
    rw[e];simp only[hd,decide_false,Option.bind_some,Bool.false_eq_true,if_false]
    exact h1
   ·have:dlook (p::ps) d=dlook ps d:=by simp[dlook,hd]
    rw[this];exact h2
namespace Hp
variable {σ τ:St} {rs:List Thg}
theorem mup (H:Hp σ τ rs) (i:Nat) {m:GV} {ps:List (Dot×Int)} (hi:rs[i]? =some (mpt m ps)) (d:Dot) (n:Int) (h:dlook ps d=none):
  ∃ τ',mupG τ [.i .i64,.i .i64] m (.agg [gi d.rep,gi d.seq]) (gi n)=some (.tup [],τ')∧Hp σ τ' (rs.set i (mpt m (ps++[(d,n)]))):=by
 obtain⟨a,⟨g,rfl,rfl,hB⟩,hnd,hbd,ht⟩:=(H.pick i hi).turn
 have hlt:=(hbd g List.mem_cons_self).2
 obtain⟨q,h1,h2⟩:=findG_dots d ps 0
 rw[h] at h2
 subst h2
 refine⟨τ.set g (some (.map ((ps++[(d,n)]).map eD))),?_,unpick (ht (a':=[g]) ⟨by simp,fun g' h=>.inl h,by simp,fun g' h h'=>bk_set_ne fun e=>h' (by rw[e];exact List.mem_cons_self)⟩ ⟨g,rfl,rfl,bk_some.2 (by rw[List.getElem?_set_self hlt])⟩) (List.getElem?_eq_some_iff.1 hi).1⟩
 simp only[mupG,mpG,bk_some.1 hB,Option.bind_some,keyG,List.length_cons,List.length_nil,if_true]
 rw[h1]
 simp[notTup,isNew,eD]
theorem mlk (H:Hp σ τ rs) (i:Nat) {m:GV} {ps:List (Dot×Int)} (hi:rs[i]? =some (mpt m ps)) (d:Dot):
  mlkG τ [.i .i64,.i .i64] (gi 0) true m (.agg [gi d.rep,gi d.seq])=some (.tup [gi ((dlook ps d).getD 0),.bool (dlook ps d).isSome]):=by
 obtain⟨a,⟨g,rfl,rfl,hB⟩,_⟩:=H.see hi
 obtain⟨q,h1,h2⟩:=findG_dots d ps 0
 simp only[mlkG,mpG,bk_some.1 hB,Option.bind_some,keyG,List.length_cons,List.length_nil,if_true]
 rw[h1]
 cases hl:dlook ps d with
 |none=>rw[hl] at h2;subst h2;rfl
 |some v=>rw[hl] at h2;obtain⟨j,rfl⟩:=h2;rfl
end Hp
end Go.Proofs.YtbeoiejnogdkpaaGreat.Sy
namespace Go.Proofs.YtbeoiejnogdkpaaGreat.Sy
open Go Go.RowKit
set_option linter.unusedSimpArgs false
set_option linter.unusedVariables false
attribute [go_sem] List.set_cons_zero List.set_cons_succ List.eraseIdx_cons_succ List.eraseIdx_cons_zero List.map_cons List.map_nil List.cons_append List.nil_append
section
variable {P:Program} {D:Bool} {σ τ:St} {env:Env} {h:List Item} {k:Kx} {v:GV} {α:Type} {l:List α}
theorem Hx.of {rs:List Thg} (H:Hp σ τ rs):Hx σ τ (rs.map Item.th):=by
 have e:(rs.map Item.th).map Item.t=rs:=by
  have:=map_th (rs:=rs) (h:=[])
  simpa using this
 unfold Hx
 rw[e];exact H
theorem Hx.nil (H:Hx σ τ h) (d:Kd α):Hx σ τ (.th (ow d .nilS ([]:List α))::h):=Hp.nilS H
theorem Hx.emp {z n:Nat} (H:Hx σ τ (.box z n []::h)) (d:Kd α) (hz:z=d.z):Hx σ τ (.th (ow d (.sl n 0 0) ([]:List α))::h):=H.hp.toNil 0 rfl hz
theorem by_mset {f:Nat} {args:List GV} {w:GV} {τ':St} {r:Thg} (i:Nat) (R:Ret P f args τ w τ') (K:Hp σ τ' ((h.map Item.t).set i r)) (kk:Hx σ τ' (h.set i (.th r))→k w (h.set i (.th r)) τ'):callX P σ false τ f args k:=by
 rw[← set_t] at K
 exact by_m R K (kk K)
theorem Hx.mlk {m:GV} {ps:List (Dot×Int)} (H:Hx σ τ h) (i:Nat) (hi:h[i]? =some (.th (mpt m ps))) (d:Dot):mlkG τ [.i .i64,.i .i64] (gi 0) true m (.agg [gi d.rep,gi d.seq])=some (.tup [gi ((dlook ps d).getD 0),.bool (dlook ps d).isSome]):=H.hp.mlk i (at_t hi) d
theorem ldX_own (H:Hx σ τ h) {g:Bool} {n:Nat} {a x:GV} (e:ldG g n τ a=some x):ldX σ h τ g n a=some x:=by
 unfold ldX orX
 cases h1:ldG g n σ a with
 |some y=>have:=ldG_pre h1 H.sub;rw[e] at this;exact this.symm
 |none=>
  show ldY h τ g n a=some x
  cases a with
  |ptr b off=>
   simp only[ldY]
   cases hl:look h b with
   |none=>exact e
   |some cs=>
    obtain⟨z,i,h2,_⟩:=look_at hl
    have:=H.hp.pt i h2
    simp only[ldG,this,Option.bind_some] at e
    exact e
  |_=>exact e
theorem own_at {p:Pl α} (H:Hx σ τ h) (i:Nat) (hi:h[i]? =some (.th (ow p.kd v l))) {j:Nat} (hj:j<l.length):iadG p.z v (some j)=some (atz p.z v j)∧(∀ k,fadG k (atz p.z v j)=some (fld k (atz p.z v j)))∧(∀ k m,fadG k (fld m (atz p.z v j))=some (fld (m+k) (atz p.z v j)))∧ldX σ h τ true p.z (atz p.z v j)=some (.agg (p.enc l[j]))∧∀ k n a,0<n→k+n≤p.z→ldX σ h τ a n (fld k (atz p.z v j))=(seg (p.enc l[j]) k n).bind (mkv a):=by
 obtain⟨cs,⟨h1,h2,h3,h4,h5⟩,rfl⟩:=RdN.cellsN (d:=p.kd) (H.hp.sl i (at_t hi)) hj
 refine⟨h1,h2,h3,ldX_own H h4,fun k n a hn hk=> ?_⟩
 have h6:=h5 k n a hk
 have hl:(p.enc l[j]).length=p.z:=p.len _
 have e:seg (p.enc l[j]) k n=some (((p.enc l[j]).drop k).take n):=by unfold seg;rw[if_pos (by omega)]
 obtain⟨x,hx⟩:∃ x,mkv a (((p.enc l[j]).drop k).take n)=some x:=by
  cases a with
  |true=>exact⟨_,rfl⟩
  |false=>
   cases hc:((p.enc l[j]).drop k).take n with
   |nil=>
        have:(((p.enc l[j]).drop k).take n).length=0:=by rw[hc];rfl
        simp only[List.length_take,List.length_drop] at this;omega
   |cons y ys=>exact⟨y,rfl⟩
 rw[e,Option.bind_some,hx] at h6 ⊢
 exact ldX_own H h6
theorem look_box:∀ {h:List Item} {n:Nat} {cs:List GV},look h n=some cs→∃ z,∃ i:Nat,h[i]? =some (.box z n cs)
 |[],_,_,e=>by cases e
 | .box z m cs'::h,n,cs,e=>by
  simp only[look] at e
  by_cases hm:m=n
  ·rw[if_pos hm] at e
   injection e with e;subst e hm
   exact⟨z,0,rfl⟩
  ·rw[if_neg hm] at e
   obtain⟨z',i,h1⟩:=look_box e
   exact⟨z',i+1,by simpa using h1⟩
 | .th r::h,n,cs,e=>by
  obtain⟨z',i,h1⟩:=look_box (h:=h) (by simpa [look] using e)
  exact⟨z',i+1,by simpa using h1⟩
theorem no_box (H:Hx σ τ h) {i:Nat} {r:Thg} (hi:h[i]? =some (.th r)) {b:Nat} (hb:∀ fp,r.P τ fp→b∈fp):look h b=none:=by
 cases hl:look h b with
 |none=>rfl
 |some cs=>
  obtain⟨z,j,h1⟩:=look_box hl
  obtain⟨_,fp,hs,hn,_⟩:=H.hp
  obtain⟨F,k1,k2,k3,_⟩:=sat_feet hs hn
  have hj:=k1 j (pt z b cs) (by rw[List.getElem?_map,h1];rfl)
  have hr:=k1 i _ (at_t hi)
  have hij:i≠j:=by
   rintro rfl
   rw[hi] at h1;cases h1
  have h2:b∈F j:=by rw[hj.1];exact List.mem_cons_self
  exact(k3 i j hij b (hb _ hr) h2).elim
theorem stX_gen (H:Hx σ τ h) {p:Pl α} {i:Nat} (hi:h[i]? =some (.th (ow p.kd v l))) {j:Nat} (hj:j<l.length) {m n:Nat} {x:GV} (e:genX σ false τ (stG n τ (fld m (atz p.z v j)) x) k):stX σ false h τ n k (fld m (atz p.z v j)) x:=by
 obtain⟨fp,ho,_⟩:=H.hp.see (at_t hi)
 rcases OS.flat.1 ho with⟨rfl,_⟩|⟨g,pre,post,rfl,hB,rfl⟩
 ·simp at hj
 ·have hn:look h g=none:=no_box H hi fun fp' ho'=>by
   rcases OS.flat.1 ho' with⟨rfl,_⟩|⟨g',pre',post',e',_,rfl⟩
   ·simp at hj
   ·injection e' with e1;rw[e1];exact List.mem_cons_self
  show stB σ false h τ n k g _ x (look h g)
  rw[hn]
  exact e
theorem by_ste {p:Pl α} (H:Hx σ τ h) (i:Nat) (hi:h[i]? =some (.th (ow p.kd v l))) {j:Nat} (hj:j<l.length) {m n:Nat} {x:GV} (y:α) (hx:x.cells.length=n) (hn:0<n) (hk:m+n≤p.z) (hy:p.enc y=splice (p.enc l[j]) m x.cells)
  (kk:∀ τ',Hx σ τ' (h.set i (.th (ow p.kd v (l.set j y))))→k (.tup []) (h.set i (.th (ow p.kd v (l.set j y)))) τ'):stX σ false h τ n k (fld m (atz p.z v j)) x:=by
 obtain⟨τ',e,H'⟩:=H.hp.ste i (at_t hi) hj n m x y hx hn hk hy
 rw[← set_t] at H'
 exact stX_gen H hi hj ⟨_,τ',_,e,(fun h=>by cases h),H',kk τ' H'⟩
theorem by_stw {p:Pl α} (H:Hx σ τ h) (i:Nat) (hi:h[i]? =some (.th (ow p.kd v l))) {j:Nat} (hj:j<l.length) {n:Nat} {x:GV} (y:α) (hx:x.cells=p.enc y) (hn:n=p.z) (hz:0<n)
  (kk:∀ τ',Hx σ τ' (h.set i (.th (ow p.kd v (l.set j y))))→k (.tup []) (h.set i (.th (ow p.kd v (l.set j y)))) τ'):stX σ false h τ n k (atz p.z v j) x:=by
 subst hn
 have e:atz p.z v j=fld 0 (atz p.z v j):=by cases v<;>rfl
 rw[e]
 exact by_ste H i hi hj y (by rw[hx,p.len]) hz (by omega) (by rw[hx];unfold splice;rw[List.take_zero,List.nil_append,p.len,List.drop_eq_nil_of_le (by rw[p.len];omega),List.append_nil]) kk
end
end Go.Proofs.YtbeoiejnogdkpaaGreat.Sy
namespace Go.Proofs.YtbeoiejnogdkpaaGreat.Sy
open Go Go.RowKit
set_option linter.unusedSimpArgs false
set_option linter.unusedVariables false
abbrev n_l_toUnit:Nat:=100
def F_l_toUnit:Fn1:=⟨16,[.c 2 true 17],(.seq (.reg [o 1 (.box (.t 0)),o 2 (.new [(.bool false),(.int .i64 0),(.int .i64 0),(.int .i64 0),.nilS,(.int .i64 0),(.str ⟨#[]⟩),(.str ⟨#[]⟩),(.int .i64 0),(.int .i64 0),(.int .i64 0),.nilS,.nilS,.nilS,.nilS,.nilS,.nilS])]) (.seq (.reg [o 3 (.new [(.bool false),(.int .i64 0),(.int .i64 0),(.int .i64 0),.nilS,(.int .i64 0),(.str ⟨#[]⟩),(.str ⟨#[]⟩),(.int .i64 0),(.int .i64 0),(.int .i64 0),.nilS,.nilS,.nilS,.nilS,.nilS,.nilS])]) (.seq (.reg [o 4 (.fad 0 (.t 1)),o 5 (.ld false 1 (.t 4)),o 6 (.fad 0 (.t 3)),on (.st 1 (.t 6) (.t 5))]) (.seq (.reg [o 7 (.fad 1 (.t 1)),o 8 (.ld true 10 (.t 7)),o 9 (.call 31 [(.t 8)]),o 10 (.fad 1 (.t 3)),on (.st 10 (.t 10) (.t 9))]) (.seq (.reg [o 11 (.fad 11 (.t 1)),o 12 (.ld true 6 (.t 11)),o 13 (.call 224 [(.t 12)]),o 14 (.fad 11 (.t 3)),on (.st 6 (.t 14) (.t 13))]) (.seq (.reg [o 15 (.ld true 17 (.t 3)),on (.st 17 (.t 2) (.t 15))]) .ret))))))⟩
theorem ir_l_toUnit:compFn Tryz.prog n_l_toUnit=some F_l_toUnit:=by kernel_rfl
theorem l_toUnit_ret (σ:St) (cs:List GV) (x:Unit_) (hR:kUnit_.R σ x cs) (hl:msUnit x≤1099511627776):∃ r τ,Ret Tryz.prog n_l_toUnit [.agg cs] σ r τ∧σ <+: τ∧∃ ds,r= .agg ds∧Hp σ τ [own kUnit_ ds x]:=by
 obtain⟨v1,v2,rfl,hA,hD⟩:=hR
 have hA0:=hA
 have hD0:=hD
 obtain⟨kv,rfl,_⟩:=hA
 obtain⟨d0,d1,d2,d3,d4,d5,rfl,_⟩:=hD
 have hma:msAct x.act≤1099511627776∧msDelta x.delta≤1099511627776:=by unfold msUnit at hl;omega
 have key:∃ r τ,Ret Tryz.prog n_l_toUnit [.agg (.bool x.batch::[.int .i64 x.act.dot.rep,.int .i64 x.act.dot.seq,.int .i64 x.act.time,kv,.int .i64 x.act.kind,.str x.act.obj,.str x.act.key,.int .i64 x.act.val,.int .i64 x.act.ref.rep,.int .i64 x.act.ref.seq]++([d0,d1,d2,d3,d4,d5]++[]))] σ r τ∧∃ ds,r= .agg ds∧Hp σ τ [own kUnit_ ds x]:=by
  refine ret_x ir_l_toUnit (Nat.le_of_ble_eq_true rfl) (Hx.refl σ) ?_
  simp +contextual (disch:=omega) only[go_sem,F_l_toUnit]
  intro n1 f1 τ1 H1 n2 f2 τ2 H2 n3 f3 τ3 _ τ4 H4
  obtain⟨_,τ5,R5,_,es,rfl,K5⟩:=l_toAct_ret τ4 _ x.act (kAct.pre hA0 H4.sub) hma.1
  refine by_c H4 R5 K5 fun H5=> ?_
  obtain⟨kv',rfl,_⟩:=K5.rd 0 rfl
  simp +contextual (disch:=omega) only[go_sem]
  intro τ6 H6
  obtain⟨_,τ7,R7,_,fs,rfl,K7⟩:=l_toDelta_ret τ6 _ x.delta (kDelta.pre hD0 H6.sub) hma.2
  refine by_c H6 R7 K7 fun H7=> ?_
  obtain⟨e0,e1,e2,e3,e4,e5,rfl,_⟩:=K7.rd 0 rfl
  simp +contextual (disch:=omega) only[go_sem]
  intro τ8 _ τ9 H9
  exact⟨_,rfl,_,rfl,Hp.ownUnit_ (x:=x) (H9.sel [1,0] (by decide))⟩
 obtain⟨r,τ,R,ds,rfl,h⟩:=key
 exact⟨_,τ,R,h.sub,ds,rfl,h⟩
end Go.Proofs.YtbeoiejnogdkpaaGreat.Sy
namespace Go.Proofs.YtbeoiejnogdkpaaGreat.Sy
open Go Go.RowKit
set_option linter.unusedSimpArgs false
set_option linter.unusedVariables false
theorem flat_set_mem {fps:List (List Nat)} {j:Nat} {fx:List Nat} {g:Nat} (h:g∈(fps.set j fx).flatten):g∈fps.flatten∨g∈fx:=by
 obtain⟨f,hf,hg⟩:=List.mem_flatten.1 h
 rcases List.mem_or_eq_of_mem_set hf with h1|h1
 ·exact .inl (List.mem_flatten.2 ⟨f,h1,hg⟩)
 ·exact .inr (h1 ▸ hg)
theorem flat_set_nodup:∀ {fps:List (List Nat)} {j:Nat} {fx:List Nat},fps.flatten.Nodup→fx.Nodup→(∀ g∈fx,g∉fps.flatten)→(fps.set j fx).flatten.Nodup
 |[],j,fx,_,_,_=>by simp
 |f::fps,0,fx,h,hx,hd=>by
  rw[List.flatten_cons,List.nodup_append] at h
  rw[List.set_cons_zero,List.flatten_cons,List.nodup_append]
  refine⟨hx,h.2.1,fun a ha b hb e=> ?_⟩
  subst e
  exact hd a ha (by rw[List.flatten_cons];exact List.mem_append_right _ hb)
 |f::fps,j+1,fx,h,hx,hd=>by
  rw[List.flatten_cons,List.nodup_append] at h
  rw[List.set_cons_succ,List.flatten_cons,List.nodup_append]
  refine⟨h.1,flat_set_nodup h.2.1 hx fun g hg hm=>hd g hg (by rw[List.flatten_cons];exact List.mem_append_right _ hm),fun a ha b hb e=> ?_⟩
  subst e
  rcases flat_set_mem hb with h1|h1
  ·exact h.2.2 a ha a h1 rfl
  ·exact hd a h1 (by rw[List.flatten_cons];exact List.mem_append_left _ ha)
section os
variable {α:Type} {d:Kd α} {σ τ:St} {l:List α} {v:GV} {fp:List Nat}
theorem all3_len {css:List (List GV)} {fps:List (List Nat)} (h:All3 (d.O τ) l css fps):∀ c∈css,c.length=d.z:=by
 induction h with
 |nil=>simp
 |cons h _ ih=>
  intro c hc
  rcases List.mem_cons.1 hc with rfl|hc
  ·exact d.len (d.rd h)
  ·exact ih c hc
theorem OS.setc {x:α} {cs:List GV} {fx:List Nat} (h:OS d τ l v fp) (hx:d.O τ x cs fx) (hn:(fp++fx).Nodup) (hlt:∀ g∈fp++fx,g<τ.length) (hz:0<d.z) {j:Nat} (hj:j<l.length):
  ∃ τ' fp',stG d.z τ (atz d.z v j) (.agg cs)=some (.tup [],τ')∧OS d τ' (l.set j x) v fp'∧Turn τ τ' (fp++fx) fp':=by
 have hcl:=d.len (d.rd hx)
 rcases h with⟨rfl,rfl,rfl⟩|⟨g,pre,css,post,fps,rfl,hB,hA,rfl⟩
 ·simp at hj
 ·rw[List.cons_append,List.nodup_cons] at hn
  obtain⟨hg,hn⟩:=hn
  rw[List.nodup_append] at hn
  have hgt:g<τ.length:=hlt g (by simp)
  have hfl:=flat_len hA
  obtain⟨c,f,hc,_,_⟩:=hA.get (j:=j) (a:=l[j]) (by simp[hj])
  have hcz:=all3_len hA c (List.mem_of_getElem? hc)
  have hm:(j+1)*d.z≤l.length*d.z:=Nat.mul_le_mul_right _ hj
  rw[Nat.add_mul,Nat.one_mul] at hm
  have e1:splice css.flatten (j*d.z+0) cs=(css.set j cs).flatten:=by
   rw[flatten_set (all3_len hA) hc (by omega)]
   congr 2
   unfold splice
   rw[List.take_zero,List.nil_append,List.drop_eq_nil_of_le (by omega),List.append_nil]
  have e2:splice (pre++css.flatten++post) (pre.length+(j*d.z+0)) cs=pre++(css.set j cs).flatten++post:=by
   rw[splice_mid (by omega),e1]
  have keep:∀ g',g'≠g→bk (τ.set g (some (.row d.z (pre++(css.set j cs).flatten++post)))) g'=bk τ g':=fun g' hne=>bk_set_ne (Ne.symm hne)
  refine⟨τ.set g (some (.row d.z (pre++(css.set j cs).flatten++post))),g::(fps.set j fx).flatten,?_,.inr ⟨g,pre,css.set j cs,post,fps.set j fx,by simp,bk_some.2 (by rw[List.getElem?_set_self hgt]),?_,rfl⟩,⟨?_,?_,by simp,?_⟩⟩
  ·simp only[atz,stG,bk_some.1 hB]
   rw[if_pos ⟨by simp only[List.length_append];omega,hz,hcl⟩]
   rw[Nat.add_zero] at e2
   rw[show (GV.agg cs).cells=cs from rfl,e2]
  ·refine(hA.set j hx).imp fun a b c hc ho=>d.loc ho fun g' hg'=>keep g' fun e=> ?_
   subst e
   rcases flat_set_mem (List.mem_flatten.2 ⟨c,hc,hg'⟩) with h1|h1
   ·exact hg (List.mem_append_left _ h1)
   ·exact hg (List.mem_append_right _ h1)
  ·rw[List.nodup_cons]
   refine⟨fun h1=> ?_,flat_set_nodup hn.1 hn.2.1 fun g' h1 h2=>hn.2.2 g' h2 g' h1 rfl⟩
   rcases flat_set_mem h1 with h1|h1
   ·exact hg (List.mem_append_left _ h1)
   ·exact hg (List.mem_append_right _ h1)
  ·intro g' hg'
   refine .inl ?_
   rcases List.mem_cons.1 hg' with rfl|h1
   ·simp
   ·rcases flat_set_mem h1 with h1|h1
    ·simp only[List.cons_append,List.mem_cons,List.mem_append];exact .inr (.inl h1)
    ·simp only[List.cons_append,List.mem_cons,List.mem_append];exact .inr (.inr h1)
  ·intro g' hg' hne
   exact keep g' fun e=>hne (by rw[e];simp)
theorem OS.fresh {x0:α} {ze:List GV} {n len:Nat} (h0:∀ τ,d.O τ x0 ze []) (hB:bk τ n=some (.row d.z (reps len ze))):OS d τ (List.replicate len x0) (.sl n 0 len) [n]:=by
 refine .inr ⟨n,[],List.replicate len ze,[],List.replicate len [],by simp,by rw[hB];simp[reps],?_,?_⟩
 ·clear hB
  induction len with
  |zero=>exact .nil
  |succ k ih=>exact .cons (h0 τ) ih
 ·simp
end os
section rules
variable {P:Program} {D:Bool} {σ τ:St} {h:List Item} {k:Kx} {v:GV} {α:Type} {l:List α} {d:Kd α}
theorem Hx.mk {x0:α} {ze:List GV} {n len z:Nat} (H:Hx σ τ (.box z n (reps len ze)::h)) (d:Kd α) (hz:z=d.z) (h0:∀ τ,d.O τ x0 ze []):Hx σ τ (.th (ow d (.sl n 0 len) (List.replicate len x0))::h):=
 H.hp.conv fun fp hp=>by
  obtain⟨rfl,hB⟩:=hp
  exact OS.fresh h0 (hz ▸ hB)
theorem by_setc {x:α} {cs:List GV} (H:Hx σ τ h) (m i:Nat) (hm:h[m]? =some (.th (own d cs x))) (hi:(h.eraseIdx m)[i]? =some (.th (ow d v l))) (hz:0<d.z) {j:Nat} (hj:j<l.length)
  (kk:∀ τ',Hx σ τ' ((h.eraseIdx m).set i (.th (ow d v (l.set j x))))→k (.tup []) ((h.eraseIdx m).set i (.th (ow d v (l.set j x)))) τ'):stX σ false h τ d.z k (atz d.z v j) (.agg cs):=by
 have H1:=H.hp.pick m (at_t hm)
 rw[map_era] at H1
 have hp:(own d cs x::(h.eraseIdx m).map Item.t).Perm (ow d v l::own d cs x::((h.eraseIdx m).map Item.t).eraseIdx i):=((Hp.pick_perm (at_t hi)).cons _).trans (List.Perm.swap _ _ _)
 obtain⟨a,⟨a1,a2,h1,h2,rfl⟩,hn,hbd,ht⟩:=(H1.perm hp).join.turn
 obtain⟨τ',fp',e,ho,hT⟩:=OS.setc h1 h2 hn (fun g hg=>(hbd g hg).2) hz hj
 have H':=Hp.unpick (ht (r':=ow d v (l.set j x)) hT ho) (List.getElem?_eq_some_iff.1 (at_t hi)).1
 rw[← set_t] at H'
 have g:genX σ false τ (stG d.z τ (atz d.z v j) (.agg cs)) k:=⟨_,τ',_,e,(fun h=>by cases h),H',kk τ' H'⟩
 rcases h1 with⟨rfl,_⟩|⟨gb,pre,css,post,fps,rfl,hB,hA,rfl⟩
 ·simp at hj
 ·have hno:look h gb=none:=by
   obtain⟨i0,hi0⟩:∃ i0:Nat,h[i0]? =some (.th (ow d (.sl gb pre.length l.length) l)):=by
    have:=List.mem_of_getElem? hi
    have:=List.mem_of_mem_eraseIdx this
    obtain⟨i0,h1,h2⟩:=List.getElem_of_mem this
    exact⟨i0,by rw[List.getElem?_eq_getElem h1,h2]⟩
   refine no_box H hi0 fun fp'' ho'=> ?_
   rcases ho' with⟨rfl,_⟩|⟨g',pre',css',post',fps',e',_,_,rfl⟩
   ·simp at hj
   ·injection e' with e1;rw[e1];exact List.mem_cons_self
  show stB σ false h τ d.z k gb _ (.agg cs) (look h gb)
  rw[hno]
  exact g
end rules
end Go.Proofs.YtbeoiejnogdkpaaGreat.Sy
namespace Go.Proofs.YtbeoiejnogdkpaaGreat.Sy
open Go Go.RowKit
set_option linter.unusedSimpArgs false
set_option linter.unusedVariables false
abbrev n_l_toUnitS:Nat:=13
def F_l_toUnitS:Fn1:=⟨23,[.t 2],(.seq (.reg [o 2 (.mov (.k .nilS))]) (.seq (.reg [o 5 (.mov (.t 0)),o 6 (.len false (.t 5)),o 7 (.mks 17 264 [(.bool false),(.int .i64 0),(.int .i64 0),(.int .i64 0),.nilS,(.int .i64 0),(.str ⟨#[]⟩),(.str ⟨#[]⟩),(.int .i64 0),(.int .i64 0),(.int .i64 0),.nilS,.nilS,.nilS,.nilS,.nilS,.nilS] (.t 6) (.t 6)),o 3 (.mov (.t 7))]) (.seq (.seq (.reg [o 4 (.mov (.k (.int .i64 0)))]) (.blk 0 (.lop (.seq (.seq (.reg [o 8 (.mov (.t 4)),o 9 (.mov (.t 0)),o 10 (.len false (.t 9)),o 11 (.bin .lss (.t 8) (.t 10))]) (.cnd (.t 11) .skip (.ext 0))) (.seq (.blk 1 (.reg [o 14 (.mov (.t 3)),o 15 (.mov (.t 4)),o 16 (.mov (.t 0)),o 17 (.mov (.t 4)),o 18 (.iad 17 (.t 16) (.t 17)),o 19 (.ld true 17 (.t 18)),o 20 (.call 100 [(.t 19)]),o 21 (.iad 17 (.t 14) (.t 15)),on (.st 17 (.t 21) (.t 20))])) (.reg [o 12 (.mov (.t 4)),o 13 (.bin .add (.t 12) (.k (.int .i64 1))),o 4 (.mov (.t 13))])))))) (.seq (.reg [o 22 (.mov (.t 3)),o 2 (.mov (.t 22))]) .ret))))⟩
theorem ir_l_toUnitS:compFn Tryz.prog n_l_toUnitS=some F_l_toUnitS:=by kernel_rfl
def act00:Act:=⟨⟨0,0⟩,0,[],0,⟨#[]⟩,⟨#[]⟩,0,⟨0,0⟩⟩
def unit0:Unit_:=⟨false,act00,⟨[],[],[],[],[],[]⟩⟩
abbrev zeA:List GV:=[gi 0,gi 0,gi 0,.nilS,gi 0,.str ⟨#[]⟩,.str ⟨#[]⟩,gi 0,gi 0,gi 0]
abbrev zeD:List GV:=[.nilS,.nilS,.nilS,.nilS,.nilS,.nilS]
theorem act0_own (τ:St):kAct.O τ act00 zeA []:=⟨.nilS,[],rfl,.inl ⟨rfl,rfl,rfl⟩,rfl⟩
theorem delta0_own (τ:St):kDelta.O τ ⟨[],[],[],[],[],[]⟩ zeD []:=⟨.nilS,.nilS,.nilS,.nilS,.nilS,.nilS,[],[],[],[],[],[],rfl,.inl ⟨rfl,rfl,rfl⟩,.inl ⟨rfl,rfl,rfl⟩,.inl ⟨rfl,rfl,rfl⟩,.inl ⟨rfl,rfl,rfl⟩,.inl ⟨rfl,rfl,rfl⟩,.inl ⟨rfl,rfl,rfl⟩,rfl⟩
theorem unit0_own (τ:St):kUnit_.O τ unit0 (.bool false::zeA++(zeD++[])) []:=⟨zeA,zeD,[],[],rfl,act0_own τ,delta0_own τ,rfl⟩
theorem unit_at' {σ:St} {v:GV} {l:List Unit_} (h:RS kUnit_ σ v l) {i:Nat} (hi:i<l.length):∃ cs,(iadG 17 v (some i)=some (atz 17 v i)∧ldG true 17 σ (atz 17 v i)=some (.agg cs))∧kUnit_.R σ l[i] cs:=by
 obtain⟨cs,⟨h1,_,_,h4,_⟩,h5⟩:=RdN.cellsN h hi
 exact⟨cs,⟨h1,h4⟩,h5⟩
theorem set_stepU {α:Type} {l:List α} {x0:α} {i:Nat} (hi:i<l.length):(l.take i++List.replicate (l.length - i) x0).set i l[i]=l.take (i+1)++List.replicate (l.length - (i+1)) x0:=by
 have e:List.replicate (l.length - i) x0=x0::List.replicate (l.length - (i+1)) x0:=by
  rw[show l.length - i=(l.length - (i+1))+1 by omega,List.replicate_succ]
 rw[e,take_snoc hi,List.append_assoc,List.set_append_right _ _ (by rw[List.length_take];omega)]
 congr 1
 rw[List.length_take,Nat.min_eq_left (by omega),Nat.sub_self]
 rfl
theorem l_toUnitS_ret (σ:St) (v:GV) (l:List Unit_) (hR:RS kUnit_ σ v l) (hl:l.length+sumL msUnit l≤1073741824):∃ r τ,Ret Tryz.prog n_l_toUnitS [v] σ r τ∧Hp σ τ [ow kUnit_ r l]:=by
 refine ret_x ir_l_toUnitS (Nat.le_of_ble_eq_true rfl) (Hx.refl σ) ?_
 simp +contextual (disch:=omega) only[go_sem,F_l_toUnitS,hR.len,natOf_nat]
 refine⟨by omega,?_⟩
 intro n f τ H
 have H1:=H.mk kUnit_ rfl unit0_own
 refine sx_for l.length 4 0 (fun i env h=>env 0=v∧env 3= .sl n 0 l.length∧h=[.th (ow kUnit_ (.sl n 0 l.length) (l.take i++List.replicate (l.length - i) unit0))]) (fun env h=>env 3= .sl n 0 l.length∧h=[.th (ow kUnit_ (.sl n 0 l.length) l)]) (fun env h=>False) _ H1 (by simp +contextual (disch:=omega) only[go_sem]) ⟨by simp +contextual (disch:=omega) only[go_sem],by simp +contextual (disch:=omega) only[go_sem],by simp⟩ ?_ ?_ ?_ (fun _ _ _ _ h=>h.elim)
 ·clear H H1
  rintro J Y W hJ hY hW i env h' τ hi ei c0 H ⟨e0,e3,rfl⟩
  obtain⟨cs,U1,hU⟩:=unit_at' hR hi
  have hmu:msUnit l[i]≤sumL msUnit l:=sumL_mem (f:=msUnit) (List.getElem_mem hi)
  have i3:iadG 17 (.sl n 0 l.length) (some i)=some (atz 17 (.sl n 0 l.length) i):=by simp[iadG,hi,atz]
  simp +contextual (disch:=omega) only[go_sem,c0,e0,e3,ei,natOf_nat,hR.len,U1]
  obtain⟨_,τ2,R2,_,ds,rfl,K2⟩:=l_toUnit_ret τ cs l[i] (kUnit_.pre hU H.sub) (by omega)
  refine by_c H R2 K2 fun H2=> ?_
  simp +contextual (disch:=omega) only[go_sem,i3,natOf_nat]
  refine by_setc (d:=kUnit_) H2 0 0 rfl rfl (by decide) (by rw[List.length_append,List.length_take,List.length_replicate];omega) fun τ3 H3=> ?_
  simp +contextual (disch:=omega) only[go_sem,ei]
  exact hJ _ _ _ _ H3 ⟨by simp +contextual (disch:=omega) only[go_sem,e0],by simp +contextual (disch:=omega) only[go_sem,e3],by rw[set_stepU hi];rfl⟩
 ·clear H H1
  rintro Y hY env h' τ ei c0 H ⟨e0,e3,rfl⟩
  simp +contextual (disch:=omega) only[go_sem,c0,e0,ei,hR.len]
  exact hY _ _ _ H ⟨e3,by simp⟩
 ·clear H H1
  rintro env h' τ H ⟨e3,rfl⟩
  simp +contextual (disch:=omega) only[go_sem,e3]
  exact fun _=>⟨_,rfl,H.hp⟩
end Go.Proofs.YtbeoiejnogdkpaaGreat.Sy
namespace Go.Proofs.YtbeoiejnogdkpaaGreat.Sy
open Go Go.RowKit
set_option linter.unusedSimpArgs false
set_option linter.unusedVariables false
abbrev n_l_eqDot:Nat:=160
def F_l_eqDot:Fn1:=⟨15,[.t 4],(.seq (.reg [o 2 (.box (.t 0)),o 3 (.box (.t 1)),o 4 (.mov (.k (.bool false)))]) (.seq (.seq (.reg [o 5 (.fad 0 (.t 2)),o 6 (.ld false 1 (.t 5)),o 7 (.fad 0 (.t 3)),o 8 (.ld false 1 (.t 7)),o 9 (.bin .neq (.t 6) (.t 8))]) (.cnd (.t 9) (.seq (.reg [o 4 (.mov (.k (.bool false)))]) .ret) .skip)) (.seq (.seq (.reg [o 10 (.fad 1 (.t 2)),o 11 (.ld false 1 (.t 10)),o 12 (.fad 1 (.t 3)),o 13 (.ld false 1 (.t 12)),o 14 (.bin .neq (.t 11) (.t 13))]) (.cnd (.t 14) (.seq (.reg [o 4 (.mov (.k (.bool false)))]) .ret) .skip)) (.seq (.reg [o 4 (.mov (.k (.bool true)))]) .ret))))⟩
theorem ir_l_eqDot:compFn Tryz.prog n_l_eqDot=some F_l_eqDot:=by kernel_rfl
theorem l_eqDot_ret (σ:St) (x y:Dot):Ret Tryz.prog n_l_eqDot [.agg [.int .i64 x.rep,.int .i64 x.seq],.agg [.int .i64 y.rep,.int .i64 y.seq]] σ (.bool (decide (x=y))) σ:=by
 refine ret_eq ir_l_eqDot (Nat.le_of_ble_eq_true rfl) trivial ?_
 simp +contextual (disch:=omega) only[go_sem,F_l_eqDot,List.append_nil]
 refine⟨fun hn=> ?_,fun hn=> ?_⟩
 ·simp only[Dot.eq_iff];simp at hn ⊢;simp[hn]
 have q0:x.rep=y.rep:=by simpa using hn
 refine⟨fun hn=> ?_,fun hn=> ?_⟩
 ·simp only[Dot.eq_iff];simp at hn ⊢;simp[hn]
 have q1:x.seq=y.seq:=by simpa using hn
 simp only[Dot.eq_iff,q0,q1,and_self,decide_true]
end Go.Proofs.YtbeoiejnogdkpaaGreat.Sy
namespace Go.Proofs.YtbeoiejnogdkpaaGreat.Sy
open Go Go.RowKit
set_option linter.unusedSimpArgs false
set_option linter.unusedVariables false
abbrev n_l_eqIntS:Nat:=129
def F_l_eqIntS:Fn1:=⟨26,[.t 4],(.seq (.reg [o 4 (.mov (.k (.bool false)))]) (.seq (.seq (.reg [o 6 (.mov (.t 0)),o 7 (.len false (.t 6)),o 8 (.mov (.t 1)),o 9 (.len false (.t 8)),o 10 (.bin .neq (.t 7) (.t 9))]) (.cnd (.t 10) (.seq (.reg [o 4 (.mov (.k (.bool false)))]) .ret) .skip)) (.seq (.seq (.reg [o 5 (.mov (.k (.int .i64 0)))]) (.blk 0 (.lop (.seq (.seq (.reg [o 11 (.mov (.t 5)),o 12 (.mov (.t 0)),o 13 (.len false (.t 12)),o 14 (.bin .lss (.t 11) (.t 13))]) (.cnd (.t 14) .skip (.ext 0))) (.seq (.blk 1 (.seq (.drw [o 17 (.mov (.t 0)),o 18 (.mov (.t 5)),o 19 (.iad 1 (.t 17) (.t 18)),o 20 (.ld false 1 (.t 19)),o 21 (.mov (.t 1)),o 22 (.mov (.t 5)),o 23 (.iad 1 (.t 21) (.t 22)),o 24 (.ld false 1 (.t 23))] [o 25 (.bin .neq (.t 20) (.t 24))]) (.cnd (.t 25) (.seq (.reg [o 4 (.mov (.k (.bool false)))]) .ret) .skip))) (.reg [o 15 (.mov (.t 5)),o 16 (.bin .add (.t 15) (.k (.int .i64 1))),o 5 (.mov (.t 16))])))))) (.seq (.reg [o 4 (.mov (.k (.bool true)))]) .ret))))⟩
theorem ir_l_eqIntS:compFn Tryz.prog n_l_eqIntS=some F_l_eqIntS:=by kernel_rfl
theorem l_eqIntS_ret (σ:St) (v u:GV) (l m:List Int) (hv:RS pI.kd σ v l) (hu:RS pI.kd σ u m) (hl:l.length≤1099511627776):Ret Tryz.prog n_l_eqIntS [v,u] σ (.bool (decide (l=m))) σ:=by
 refine ret_eq ir_l_eqIntS (Nat.le_of_ble_eq_true rfl) trivial ?_
 simp +contextual (disch:=omega) only[go_sem,F_l_eqIntS,hv.len,hu.len]
 refine⟨fun hn=> ?_,fun hn=> ?_⟩
 ·have:l≠m:=fun h=>by subst h;simp at hn
  simp[this]
 have hlm:l.length=m.length:=by
                    have h2:(l.length:Int)=m.length:=by simpa using hn
                    omega
 refine vc_for l.length 5 (fun i env τ=>env 0=v∧env 1=u∧l.take i=m.take i∧σ <+: τ) rfl ⟨rfl,rfl,rfl,List.prefix_refl _⟩ ?_ ?_
 ·rintro i env τ hi e5 c0 ⟨e0,e1,he,hp⟩
  have hj:i<m.length:=by omega
  have h1:=hv.pre hp
  have h2:=hu.pre hp
  have hne:l[i]≠m[i]→l≠m:=fun h h'=>h (by subst h';rfl)
  have hst:l[i]=m[i]→l.take (i+1)=m.take (i+1):=fun h=>by rw[take_snoc hi,take_snoc hj,he,h]
  simp +contextual (disch:=omega) only[go_sem,c0,e0,e1,e5,hv.len,hu.len,int_at h1 hi,int_at h2 hj,hp]
  refine⟨fun h=> ?_,fun h=> ?_⟩
  ·simp[hne (by simpa using h)]
  ·simpa using hst (by simpa using h)
 ·rintro env τ e5 c0 ⟨e0,e1,he,hp⟩
  rw[List.take_length,hlm,List.take_length] at he
  simp +contextual (disch:=omega) only[go_sem,c0,e0,e1,e5,hv.len,hu.len,hp]
  simp[he]
end Go.Proofs.YtbeoiejnogdkpaaGreat.Sy
namespace Go.Proofs.YtbeoiejnogdkpaaGreat.Sy
open Go Go.RowKit
set_option linter.unusedSimpArgs false
set_option linter.unusedVariables false
abbrev n_l_eqAct:Nat:=35
def F_l_eqAct:Fn1:=⟨48,[.t 4],(.seq (.reg [o 2 (.box (.t 0)),o 3 (.box (.t 1)),o 4 (.mov (.k (.bool false)))]) (.seq (.seq (.reg [o 5 (.fad 0 (.t 2)),o 6 (.ld true 2 (.t 5)),o 7 (.fad 0 (.t 3)),o 8 (.ld true 2 (.t 7)),o 9 (.call 160 [(.t 6),(.t 8)]),o 10 (.un .not (.t 9))]) (.cnd (.t 10) (.seq (.reg [o 4 (.mov (.k (.bool false)))]) .ret) .skip)) (.seq (.seq (.reg [o 11 (.fad 2 (.t 2)),o 12 (.ld false 1 (.t 11)),o 13 (.fad 2 (.t 3)),o 14 (.ld false 1 (.t 13)),o 15 (.bin .neq (.t 12) (.t 14))]) (.cnd (.t 15) (.seq (.reg [o 4 (.mov (.k (.bool false)))]) .ret) .skip)) (.seq (.seq (.reg [o 16 (.fad 3 (.t 2)),o 17 (.ld false 1 (.t 16)),o 18 (.fad 3 (.t 3)),o 19 (.ld false 1 (.t 18)),o 20 (.call 129 [(.t 17),(.t 19)]),o 21 (.un .not (.t 20))]) (.cnd (.t 21) (.seq (.reg [o 4 (.mov (.k (.bool false)))]) .ret) .skip)) (.seq (.seq (.reg [o 22 (.fad 4 (.t 2)),o 23 (.ld false 1 (.t 22)),o 24 (.fad 4 (.t 3)),o 25 (.ld false 1 (.t 24)),o 26 (.bin .neq (.t 23) (.t 25))]) (.cnd (.t 26) (.seq (.reg [o 4 (.mov (.k (.bool false)))]) .ret) .skip)) (.seq (.seq (.reg [o 27 (.fad 5 (.t 2)),o 28 (.ld false 1 (.t 27)),o 29 (.fad 5 (.t 3)),o 30 (.ld false 1 (.t 29)),o 31 (.bin .neq (.t 28) (.t 30))]) (.cnd (.t 31) (.seq (.reg [o 4 (.mov (.k (.bool false)))]) .ret) .skip)) (.seq (.seq (.reg [o 32 (.fad 6 (.t 2)),o 33 (.ld false 1 (.t 32)),o 34 (.fad 6 (.t 3)),o 35 (.ld false 1 (.t 34)),o 36 (.bin .neq (.t 33) (.t 35))]) (.cnd (.t 36) (.seq (.reg [o 4 (.mov (.k (.bool false)))]) .ret) .skip)) (.seq (.seq (.reg [o 37 (.fad 7 (.t 2)),o 38 (.ld false 1 (.t 37)),o 39 (.fad 7 (.t 3)),o 40 (.ld false 1 (.t 39)),o 41 (.bin .neq (.t 38) (.t 40))]) (.cnd (.t 41) (.seq (.reg [o 4 (.mov (.k (.bool false)))]) .ret) .skip)) (.seq (.seq (.reg [o 42 (.fad 8 (.t 2)),o 43 (.ld true 2 (.t 42)),o 44 (.fad 8 (.t 3)),o 45 (.ld true 2 (.t 44)),o 46 (.call 160 [(.t 43),(.t 45)]),o 47 (.un .not (.t 46))]) (.cnd (.t 47) (.seq (.reg [o 4 (.mov (.k (.bool false)))]) .ret) .skip)) (.seq (.reg [o 4 (.mov (.k (.bool true)))]) .ret))))))))))⟩
theorem ir_l_eqAct:compFn Tryz.prog n_l_eqAct=some F_l_eqAct:=by kernel_rfl
theorem l_eqAct_ret (σ:St) (cs ds:List GV) (x y:Act) (hx:kAct.R σ x cs) (hy:kAct.R σ y ds) (hl:msAct x≤1099511627776):Ret Tryz.prog n_l_eqAct [.agg cs,.agg ds] σ (.bool (decide (x=y))) σ:=by
 obtain⟨v2,rfl,q2_⟩:=hx
 obtain⟨u2,rfl,p2_⟩:=hy
 unfold msAct at hl
 refine ret_eq ir_l_eqAct (Nat.le_of_ble_eq_true rfl) trivial ?_
 simp +contextual (disch:=omega) only[go_sem,F_l_eqAct,List.append_nil]
 refine by_ret (l_eqDot_ret _ x.dot y.dot) ?_
 simp +contextual (disch:=omega) only[go_sem,List.append_nil]
 refine⟨fun hn=> ?_,fun hn=> ?_⟩
 ·simp only[Act.eq_iff];simp at hn ⊢;simp[hn]
 have q0:x.dot=y.dot:=by simpa using hn
 refine⟨fun hn=> ?_,fun hn=> ?_⟩
 ·simp only[Act.eq_iff];simp at hn ⊢;simp[hn]
 have q1:x.time=y.time:=by simpa using hn
 refine by_ret (l_eqIntS_ret _ v2 u2 x.knew y.knew (q2_.pre pre2) (p2_.pre pre2) (by omega)) ?_
 simp +contextual (disch:=omega) only[go_sem,List.append_nil]
 refine⟨fun hn=> ?_,fun hn=> ?_⟩
 ·simp only[Act.eq_iff];simp at hn ⊢;simp[hn]
 have q2:x.knew=y.knew:=by simpa using hn
 refine⟨fun hn=> ?_,fun hn=> ?_⟩
 ·simp only[Act.eq_iff];simp at hn ⊢;simp[hn]
 have q3:x.kind=y.kind:=by simpa using hn
 refine⟨fun hn=> ?_,fun hn=> ?_⟩
 ·simp only[Act.eq_iff];simp at hn ⊢;simp[hn]
 have q4:x.obj=y.obj:=by simpa using hn
 refine⟨fun hn=> ?_,fun hn=> ?_⟩
 ·simp only[Act.eq_iff];simp at hn ⊢;simp[hn]
 have q5:x.key=y.key:=by simpa using hn
 refine⟨fun hn=> ?_,fun hn=> ?_⟩
 ·simp only[Act.eq_iff];simp at hn ⊢;simp[hn]
 have q6:x.val=y.val:=by simpa using hn
 refine by_ret (l_eqDot_ret _ x.ref y.ref) ?_
 simp +contextual (disch:=omega) only[go_sem,List.append_nil]
 refine⟨fun hn=> ?_,fun hn=> ?_⟩
 ·simp only[Act.eq_iff];simp at hn ⊢;simp[hn]
 have q7:x.ref=y.ref:=by simpa using hn
 simp only[Act.eq_iff,q0,q1,q2,q3,q4,q5,q6,q7,and_self,decide_true]
end Go.Proofs.YtbeoiejnogdkpaaGreat.Sy
namespace Go.Proofs.YtbeoiejnogdkpaaGreat.Sy
open Go Go.RowKit
set_option linter.unusedSimpArgs false
set_option linter.unusedVariables false
abbrev n_l_eqCell:Nat:=242
def F_l_eqCell:Fn1:=⟨37,[.t 4],(.seq (.reg [o 2 (.box (.t 0)),o 3 (.box (.t 1)),o 4 (.mov (.k (.bool false)))]) (.seq (.seq (.reg [o 5 (.fad 0 (.t 2)),o 6 (.ld false 1 (.t 5)),o 7 (.fad 0 (.t 3)),o 8 (.ld false 1 (.t 7)),o 9 (.bin .neq (.t 6) (.t 8))]) (.cnd (.t 9) (.seq (.reg [o 4 (.mov (.k (.bool false)))]) .ret) .skip)) (.seq (.seq (.reg [o 10 (.fad 1 (.t 2)),o 11 (.ld true 2 (.t 10)),o 12 (.fad 1 (.t 3)),o 13 (.ld true 2 (.t 12)),o 14 (.call 160 [(.t 11),(.t 13)]),o 15 (.un .not (.t 14))]) (.cnd (.t 15) (.seq (.reg [o 4 (.mov (.k (.bool false)))]) .ret) .skip)) (.seq (.seq (.reg [o 16 (.fad 3 (.t 2)),o 17 (.ld false 1 (.t 16)),o 18 (.fad 3 (.t 3)),o 19 (.ld false 1 (.t 18)),o 20 (.bin .neq (.t 17) (.t 19))]) (.cnd (.t 20) (.seq (.reg [o 4 (.mov (.k (.bool false)))]) .ret) .skip)) (.seq (.seq (.reg [o 21 (.fad 4 (.t 2)),o 22 (.ld true 2 (.t 21)),o 23 (.fad 4 (.t 3)),o 24 (.ld true 2 (.t 23)),o 25 (.call 160 [(.t 22),(.t 24)]),o 26 (.un .not (.t 25))]) (.cnd (.t 26) (.seq (.reg [o 4 (.mov (.k (.bool false)))]) .ret) .skip)) (.seq (.seq (.reg [o 27 (.fad 6 (.t 2)),o 28 (.ld false 1 (.t 27)),o 29 (.fad 6 (.t 3)),o 30 (.ld false 1 (.t 29)),o 31 (.bin .neq (.t 28) (.t 30))]) (.cnd (.t 31) (.seq (.reg [o 4 (.mov (.k (.bool false)))]) .ret) .skip)) (.seq (.seq (.reg [o 32 (.fad 7 (.t 2)),o 33 (.ld false 1 (.t 32)),o 34 (.fad 7 (.t 3)),o 35 (.ld false 1 (.t 34)),o 36 (.eqb true (.t 33) (.t 35))]) (.cnd (.t 36) (.seq (.reg [o 4 (.mov (.k (.bool false)))]) .ret) .skip)) (.seq (.reg [o 4 (.mov (.k (.bool true)))]) .ret))))))))⟩
theorem ir_l_eqCell:compFn Tryz.prog n_l_eqCell=some F_l_eqCell:=by kernel_rfl
theorem l_eqCell_ret (σ:St) (x y:Cell):Ret Tryz.prog n_l_eqCell [.agg [.str x.obj,.int .i64 x.dot.rep,.int .i64 x.dot.seq,.int .i64 x.time,.int .i64 x.ref.rep,.int .i64 x.ref.seq,.int .i64 x.val,.bool x.gone],.agg [.str y.obj,.int .i64 y.dot.rep,.int .i64 y.dot.seq,.int .i64 y.time,.int .i64 y.ref.rep,.int .i64 y.ref.seq,.int .i64 y.val,.bool y.gone]] σ (.bool (decide (x=y))) σ:=by
 refine ret_eq ir_l_eqCell (Nat.le_of_ble_eq_true rfl) trivial ?_
 simp +contextual (disch:=omega) only[go_sem,F_l_eqCell,List.append_nil]
 refine⟨fun hn=> ?_,fun hn=> ?_⟩
 ·simp only[Cell.eq_iff];simp at hn ⊢;simp[hn]
 have q0:x.obj=y.obj:=by simpa using hn
 refine by_ret (l_eqDot_ret _ x.dot y.dot) ?_
 simp +contextual (disch:=omega) only[go_sem,List.append_nil]
 refine⟨fun hn=> ?_,fun hn=> ?_⟩
 ·simp only[Cell.eq_iff];simp at hn ⊢;simp[hn]
 have q1:x.dot=y.dot:=by simpa using hn
 refine⟨fun hn=> ?_,fun hn=> ?_⟩
 ·simp only[Cell.eq_iff];simp at hn ⊢;simp[hn]
 have q2:x.time=y.time:=by simpa using hn
 refine by_ret (l_eqDot_ret _ x.ref y.ref) ?_
 simp +contextual (disch:=omega) only[go_sem,List.append_nil]
 refine⟨fun hn=> ?_,fun hn=> ?_⟩
 ·simp only[Cell.eq_iff];simp at hn ⊢;simp[hn]
 have q3:x.ref=y.ref:=by simpa using hn
 refine⟨fun hn=> ?_,fun hn=> ?_⟩
 ·simp only[Cell.eq_iff];simp at hn ⊢;simp[hn]
 have q4:x.val=y.val:=by simpa using hn
 refine⟨fun hn=> ?_,fun hn=> ?_⟩
 ·simp only[Cell.eq_iff];simp at hn ⊢;simp[hn]
 have q5:x.gone=y.gone:=by simpa using hn
 simp only[Cell.eq_iff,q0,q1,q2,q3,q4,q5,and_self,decide_true]
end Go.Proofs.YtbeoiejnogdkpaaGreat.Sy
namespace Go.Proofs.YtbeoiejnogdkpaaGreat.Sy
open Go Go.RowKit
set_option linter.unusedSimpArgs false
set_option linter.unusedVariables false
abbrev n_l_eqCellS:Nat:=133
def F_l_eqCellS:Fn1:=⟨27,[.t 4],(.seq (.reg [o 4 (.mov (.k (.bool false)))]) (.seq (.seq (.reg [o 6 (.mov (.t 0)),o 7 (.len false (.t 6)),o 8 (.mov (.t 1)),o 9 (.len false (.t 8)),o 10 (.bin .neq (.t 7) (.t 9))]) (.cnd (.t 10) (.seq (.reg [o 4 (.mov (.k (.bool false)))]) .ret) .skip)) (.seq (.seq (.reg [o 5 (.mov (.k (.int .i64 0)))]) (.blk 0 (.lop (.seq (.seq (.reg [o 11 (.mov (.t 5)),o 12 (.mov (.t 0)),o 13 (.len false (.t 12)),o 14 (.bin .lss (.t 11) (.t 13))]) (.cnd (.t 14) .skip (.ext 0))) (.seq (.blk 1 (.seq (.drw [o 17 (.mov (.t 0)),o 18 (.mov (.t 5)),o 19 (.iad 8 (.t 17) (.t 18)),o 20 (.ld true 8 (.t 19)),o 21 (.mov (.t 1)),o 22 (.mov (.t 5)),o 23 (.iad 8 (.t 21) (.t 22)),o 24 (.ld true 8 (.t 23))] [o 25 (.call 242 [(.t 20),(.t 24)]),o 26 (.un .not (.t 25))]) (.cnd (.t 26) (.seq (.reg [o 4 (.mov (.k (.bool false)))]) .ret) .skip))) (.reg [o 15 (.mov (.t 5)),o 16 (.bin .add (.t 15) (.k (.int .i64 1))),o 5 (.mov (.t 16))])))))) (.seq (.reg [o 4 (.mov (.k (.bool true)))]) .ret))))⟩
theorem ir_l_eqCellS:compFn Tryz.prog n_l_eqCellS=some F_l_eqCellS:=by kernel_rfl
theorem l_eqCellS_ret (σ:St) (v u:GV) (l m:List Cell) (hv:RS pCell.kd σ v l) (hu:RS pCell.kd σ u m) (hl:(l.length+sumL msCell l)≤1099511627776):Ret Tryz.prog n_l_eqCellS [v,u] σ (.bool (decide (l=m))) σ:=by
 refine ret_eq ir_l_eqCellS (Nat.le_of_ble_eq_true rfl) trivial ?_
 simp +contextual (disch:=omega) only[go_sem,F_l_eqCellS,hv.len,hu.len]
 refine⟨fun hn=> ?_,fun hn=> ?_⟩
 ·have:l≠m:=fun h=>by subst h;simp at hn
  simp[this]
 have hlm:l.length=m.length:=by
                    have h2:(l.length:Int)=m.length:=by simpa using hn
                    omega
 refine vc_for l.length 5 (fun i env τ=>env 0=v∧env 1=u∧l.take i=m.take i∧σ <+: τ) rfl ⟨rfl,rfl,rfl,List.prefix_refl _⟩ ?_ ?_
 ·rintro i env τ hi e5 c0 ⟨e0,e1,he,hp⟩
  have hj:i<m.length:=by omega
  have h1:=hv.pre hp
  have h2:=hu.pre hp
  have hne:l[i]≠m[i]→l≠m:=fun h h'=>h (by subst h';rfl)
  have hst:l[i]=m[i]→l.take (i+1)=m.take (i+1):=fun h=>by rw[take_snoc hi,take_snoc hj,he,h]
  have hms:msCell l[i]≤sumL msCell l:=sumL_mem (List.getElem_mem hi)
  simp +contextual (disch:=omega) only[go_sem,c0,e0,e1,e5,hv.len,hu.len,Cell_at h1 hi,Cell_at h2 hj]
  refine by_ret (l_eqCell_ret τ l[i] m[i]) ?_
  simp +contextual (disch:=omega) only[go_sem,e0,e1,e5,hp]
  refine⟨fun h=> ?_,fun h=> ?_⟩
  ·simp[hne (by simpa using h)]
  ·simpa using hst (by simpa using h)
 ·rintro env τ e5 c0 ⟨e0,e1,he,hp⟩
  rw[List.take_length,hlm,List.take_length] at he
  simp +contextual (disch:=omega) only[go_sem,c0,e0,e1,e5,hv.len,hu.len,hp]
  simp[he]
end Go.Proofs.YtbeoiejnogdkpaaGreat.Sy
namespace Go.Proofs.YtbeoiejnogdkpaaGreat.Sy
open Go Go.RowKit
set_option linter.unusedSimpArgs false
set_option linter.unusedVariables false
abbrev n_l_eqDotS:Nat:=132
def F_l_eqDotS:Fn1:=⟨27,[.t 4],(.seq (.reg [o 4 (.mov (.k (.bool false)))]) (.seq (.seq (.reg [o 6 (.mov (.t 0)),o 7 (.len false (.t 6)),o 8 (.mov (.t 1)),o 9 (.len false (.t 8)),o 10 (.bin .neq (.t 7) (.t 9))]) (.cnd (.t 10) (.seq (.reg [o 4 (.mov (.k (.bool false)))]) .ret) .skip)) (.seq (.seq (.reg [o 5 (.mov (.k (.int .i64 0)))]) (.blk 0 (.lop (.seq (.seq (.reg [o 11 (.mov (.t 5)),o 12 (.mov (.t 0)),o 13 (.len false (.t 12)),o 14 (.bin .lss (.t 11) (.t 13))]) (.cnd (.t 14) .skip (.ext 0))) (.seq (.blk 1 (.seq (.drw [o 17 (.mov (.t 0)),o 18 (.mov (.t 5)),o 19 (.iad 2 (.t 17) (.t 18)),o 20 (.ld true 2 (.t 19)),o 21 (.mov (.t 1)),o 22 (.mov (.t 5)),o 23 (.iad 2 (.t 21) (.t 22)),o 24 (.ld true 2 (.t 23))] [o 25 (.call 160 [(.t 20),(.t 24)]),o 26 (.un .not (.t 25))]) (.cnd (.t 26) (.seq (.reg [o 4 (.mov (.k (.bool false)))]) .ret) .skip))) (.reg [o 15 (.mov (.t 5)),o 16 (.bin .add (.t 15) (.k (.int .i64 1))),o 5 (.mov (.t 16))])))))) (.seq (.reg [o 4 (.mov (.k (.bool true)))]) .ret))))⟩
theorem ir_l_eqDotS:compFn Tryz.prog n_l_eqDotS=some F_l_eqDotS:=by kernel_rfl
theorem l_eqDotS_ret (σ:St) (v u:GV) (l m:List Dot) (hv:RS pDot.kd σ v l) (hu:RS pDot.kd σ u m) (hl:l.length≤1099511627776):Ret Tryz.prog n_l_eqDotS [v,u] σ (.bool (decide (l=m))) σ:=by
 refine ret_eq ir_l_eqDotS (Nat.le_of_ble_eq_true rfl) trivial ?_
 simp +contextual (disch:=omega) only[go_sem,F_l_eqDotS,hv.len,hu.len]
 refine⟨fun hn=> ?_,fun hn=> ?_⟩
 ·have:l≠m:=fun h=>by subst h;simp at hn
  simp[this]
 have hlm:l.length=m.length:=by
                    have h2:(l.length:Int)=m.length:=by simpa using hn
                    omega
 refine vc_for l.length 5 (fun i env τ=>env 0=v∧env 1=u∧l.take i=m.take i∧σ <+: τ) rfl ⟨rfl,rfl,rfl,List.prefix_refl _⟩ ?_ ?_
 ·rintro i env τ hi e5 c0 ⟨e0,e1,he,hp⟩
  have hj:i<m.length:=by omega
  have h1:=hv.pre hp
  have h2:=hu.pre hp
  have hne:l[i]≠m[i]→l≠m:=fun h h'=>h (by subst h';rfl)
  have hst:l[i]=m[i]→l.take (i+1)=m.take (i+1):=fun h=>by rw[take_snoc hi,take_snoc hj,he,h]
  simp +contextual (disch:=omega) only[go_sem,c0,e0,e1,e5,hv.len,hu.len,Dot_at h1 hi,Dot_at h2 hj]
  refine by_ret (l_eqDot_ret τ l[i] m[i]) ?_
  simp +contextual (disch:=omega) only[go_sem,e0,e1,e5,hp]
  refine⟨fun h=> ?_,fun h=> ?_⟩
  ·simp[hne (by simpa using h)]
  ·simpa using hst (by simpa using h)
 ·rintro env τ e5 c0 ⟨e0,e1,he,hp⟩
  rw[List.take_length,hlm,List.take_length] at he
  simp +contextual (disch:=omega) only[go_sem,c0,e0,e1,e5,hv.len,hu.len,hp]
  simp[he]
end Go.Proofs.YtbeoiejnogdkpaaGreat.Sy
namespace Go.Proofs.YtbeoiejnogdkpaaGreat.Sy
open Go Go.RowKit
set_option linter.unusedSimpArgs false
set_option linter.unusedVariables false
abbrev n_l_eqLive:Nat:=241
def F_l_eqLive:Fn1:=⟨31,[.t 4],(.seq (.reg [o 2 (.box (.t 0)),o 3 (.box (.t 1)),o 4 (.mov (.k (.bool false)))]) (.seq (.seq (.reg [o 5 (.fad 0 (.t 2)),o 6 (.ld false 1 (.t 5)),o 7 (.fad 0 (.t 3)),o 8 (.ld false 1 (.t 7)),o 9 (.eqb true (.t 6) (.t 8))]) (.cnd (.t 9) (.seq (.reg [o 4 (.mov (.k (.bool false)))]) .ret) .skip)) (.seq (.seq (.reg [o 10 (.fad 1 (.t 2)),o 11 (.ld false 1 (.t 10)),o 12 (.fad 1 (.t 3)),o 13 (.ld false 1 (.t 12)),o 14 (.bin .neq (.t 11) (.t 13))]) (.cnd (.t 14) (.seq (.reg [o 4 (.mov (.k (.bool false)))]) .ret) .skip)) (.seq (.seq (.reg [o 15 (.fad 2 (.t 2)),o 16 (.ld false 1 (.t 15)),o 17 (.fad 2 (.t 3)),o 18 (.ld false 1 (.t 17)),o 19 (.bin .neq (.t 16) (.t 18))]) (.cnd (.t 19) (.seq (.reg [o 4 (.mov (.k (.bool false)))]) .ret) .skip)) (.seq (.seq (.reg [o 20 (.fad 3 (.t 2)),o 21 (.ld false 1 (.t 20)),o 22 (.fad 3 (.t 3)),o 23 (.ld false 1 (.t 22)),o 24 (.bin .neq (.t 21) (.t 23))]) (.cnd (.t 24) (.seq (.reg [o 4 (.mov (.k (.bool false)))]) .ret) .skip)) (.seq (.seq (.reg [o 25 (.fad 4 (.t 2)),o 26 (.ld true 2 (.t 25)),o 27 (.fad 4 (.t 3)),o 28 (.ld true 2 (.t 27)),o 29 (.call 160 [(.t 26),(.t 28)]),o 30 (.un .not (.t 29))]) (.cnd (.t 30) (.seq (.reg [o 4 (.mov (.k (.bool false)))]) .ret) .skip)) (.seq (.reg [o 4 (.mov (.k (.bool true)))]) .ret)))))))⟩
theorem ir_l_eqLive:compFn Tryz.prog n_l_eqLive=some F_l_eqLive:=by kernel_rfl
theorem l_eqLive_ret (σ:St) (x y:Live):Ret Tryz.prog n_l_eqLive [.agg [.bool x.map,.str x.obj,.str x.key,.int .i64 x.val,.int .i64 x.dot.rep,.int .i64 x.dot.seq],.agg [.bool y.map,.str y.obj,.str y.key,.int .i64 y.val,.int .i64 y.dot.rep,.int .i64 y.dot.seq]] σ (.bool (decide (x=y))) σ:=by
 refine ret_eq ir_l_eqLive (Nat.le_of_ble_eq_true rfl) trivial ?_
 simp +contextual (disch:=omega) only[go_sem,F_l_eqLive,List.append_nil]
 refine⟨fun hn=> ?_,fun hn=> ?_⟩
 ·simp only[Live.eq_iff];simp at hn ⊢;simp[hn]
 have q0:x.map=y.map:=by simpa using hn
 refine⟨fun hn=> ?_,fun hn=> ?_⟩
 ·simp only[Live.eq_iff];simp at hn ⊢;simp[hn]
 have q1:x.obj=y.obj:=by simpa using hn
 refine⟨fun hn=> ?_,fun hn=> ?_⟩
 ·simp only[Live.eq_iff];simp at hn ⊢;simp[hn]
 have q2:x.key=y.key:=by simpa using hn
 refine⟨fun hn=> ?_,fun hn=> ?_⟩
 ·simp only[Live.eq_iff];simp at hn ⊢;simp[hn]
 have q3:x.val=y.val:=by simpa using hn
 refine by_ret (l_eqDot_ret _ x.dot y.dot) ?_
 simp +contextual (disch:=omega) only[go_sem,List.append_nil]
 refine⟨fun hn=> ?_,fun hn=> ?_⟩
 ·simp only[Live.eq_iff];simp at hn ⊢;simp[hn]
 have q4:x.dot=y.dot:=by simpa using hn
 simp only[Live.eq_iff,q0,q1,q2,q3,q4,and_self,decide_true]
end Go.Proofs.YtbeoiejnogdkpaaGreat.Sy
namespace Go.Proofs.YtbeoiejnogdkpaaGreat.Sy
open Go Go.RowKit
set_option linter.unusedSimpArgs false
set_option linter.unusedVariables false
abbrev n_l_eqLiveS:Nat:=131
def F_l_eqLiveS:Fn1:=⟨27,[.t 4],(.seq (.reg [o 4 (.mov (.k (.bool false)))]) (.seq (.seq (.reg [o 6 (.mov (.t 0)),o 7 (.len false (.t 6)),o 8 (.mov (.t 1)),o 9 (.len false (.t 8)),o 10 (.bin .neq (.t 7) (.t 9))]) (.cnd (.t 10) (.seq (.reg [o 4 (.mov (.k (.bool false)))]) .ret) .skip)) (.seq (.seq (.reg [o 5 (.mov (.k (.int .i64 0)))]) (.blk 0 (.lop (.seq (.seq (.reg [o 11 (.mov (.t 5)),o 12 (.mov (.t 0)),o 13 (.len false (.t 12)),o 14 (.bin .lss (.t 11) (.t 13))]) (.cnd (.t 14) .skip (.ext 0))) (.seq (.blk 1 (.seq (.drw [o 17 (.mov (.t 0)),o 18 (.mov (.t 5)),o 19 (.iad 6 (.t 17) (.t 18)),o 20 (.ld true 6 (.t 19)),o 21 (.mov (.t 1)),o 22 (.mov (.t 5)),o 23 (.iad 6 (.t 21) (.t 22)),o 24 (.ld true 6 (.t 23))] [o 25 (.call 241 [(.t 20),(.t 24)]),o 26 (.un .not (.t 25))]) (.cnd (.t 26) (.seq (.reg [o 4 (.mov (.k (.bool false)))]) .ret) .skip))) (.reg [o 15 (.mov (.t 5)),o 16 (.bin .add (.t 15) (.k (.int .i64 1))),o 5 (.mov (.t 16))])))))) (.seq (.reg [o 4 (.mov (.k (.bool true)))]) .ret))))⟩
theorem ir_l_eqLiveS:compFn Tryz.prog n_l_eqLiveS=some F_l_eqLiveS:=by kernel_rfl
theorem l_eqLiveS_ret (σ:St) (v u:GV) (l m:List Live) (hv:RS pLive.kd σ v l) (hu:RS pLive.kd σ u m) (hl:(l.length+sumL msLive l)≤1099511627776):Ret Tryz.prog n_l_eqLiveS [v,u] σ (.bool (decide (l=m))) σ:=by
 refine ret_eq ir_l_eqLiveS (Nat.le_of_ble_eq_true rfl) trivial ?_
 simp +contextual (disch:=omega) only[go_sem,F_l_eqLiveS,hv.len,hu.len]
 refine⟨fun hn=> ?_,fun hn=> ?_⟩
 ·have:l≠m:=fun h=>by subst h;simp at hn
  simp[this]
 have hlm:l.length=m.length:=by
                    have h2:(l.length:Int)=m.length:=by simpa using hn
                    omega
 refine vc_for l.length 5 (fun i env τ=>env 0=v∧env 1=u∧l.take i=m.take i∧σ <+: τ) rfl ⟨rfl,rfl,rfl,List.prefix_refl _⟩ ?_ ?_
 ·rintro i env τ hi e5 c0 ⟨e0,e1,he,hp⟩
  have hj:i<m.length:=by omega
  have h1:=hv.pre hp
  have h2:=hu.pre hp
  have hne:l[i]≠m[i]→l≠m:=fun h h'=>h (by subst h';rfl)
  have hst:l[i]=m[i]→l.take (i+1)=m.take (i+1):=fun h=>by rw[take_snoc hi,take_snoc hj,he,h]
  have hms:msLive l[i]≤sumL msLive l:=sumL_mem (List.getElem_mem hi)
  simp +contextual (disch:=omega) only[go_sem,c0,e0,e1,e5,hv.len,hu.len,Live_at h1 hi,Live_at h2 hj]
  refine by_ret (l_eqLive_ret τ l[i] m[i]) ?_
  simp +contextual (disch:=omega) only[go_sem,e0,e1,e5,hp]
  refine⟨fun h=> ?_,fun h=> ?_⟩
  ·simp[hne (by simpa using h)]
  ·simpa using hst (by simpa using h)
 ·rintro env τ e5 c0 ⟨e0,e1,he,hp⟩
  rw[List.take_length,hlm,List.take_length] at he
  simp +contextual (disch:=omega) only[go_sem,c0,e0,e1,e5,hv.len,hu.len,hp]
  simp[he]
end Go.Proofs.YtbeoiejnogdkpaaGreat.Sy
namespace Go.Proofs.YtbeoiejnogdkpaaGreat.Sy
open Go Go.RowKit
set_option linter.unusedSimpArgs false
set_option linter.unusedVariables false
abbrev n_l_eqTally:Nat:=240
def F_l_eqTally:Fn1:=⟨20,[.t 4],(.seq (.reg [o 2 (.box (.t 0)),o 3 (.box (.t 1)),o 4 (.mov (.k (.bool false)))]) (.seq (.seq (.reg [o 5 (.fad 0 (.t 2)),o 6 (.ld false 1 (.t 5)),o 7 (.fad 0 (.t 3)),o 8 (.ld false 1 (.t 7)),o 9 (.bin .neq (.t 6) (.t 8))]) (.cnd (.t 9) (.seq (.reg [o 4 (.mov (.k (.bool false)))]) .ret) .skip)) (.seq (.seq (.reg [o 10 (.fad 1 (.t 2)),o 11 (.ld false 1 (.t 10)),o 12 (.fad 1 (.t 3)),o 13 (.ld false 1 (.t 12)),o 14 (.bin .neq (.t 11) (.t 13))]) (.cnd (.t 14) (.seq (.reg [o 4 (.mov (.k (.bool false)))]) .ret) .skip)) (.seq (.seq (.reg [o 15 (.fad 2 (.t 2)),o 16 (.ld false 1 (.t 15)),o 17 (.fad 2 (.t 3)),o 18 (.ld false 1 (.t 17)),o 19 (.bin .neq (.t 16) (.t 18))]) (.cnd (.t 19) (.seq (.reg [o 4 (.mov (.k (.bool false)))]) .ret) .skip)) (.seq (.reg [o 4 (.mov (.k (.bool true)))]) .ret)))))⟩
theorem ir_l_eqTally:compFn Tryz.prog n_l_eqTally=some F_l_eqTally:=by kernel_rfl
theorem l_eqTally_ret (σ:St) (x y:Tally):Ret Tryz.prog n_l_eqTally [.agg [.str x.obj,.int .i64 x.rep,.int .i64 x.sum],.agg [.str y.obj,.int .i64 y.rep,.int .i64 y.sum]] σ (.bool (decide (x=y))) σ:=by
 refine ret_eq ir_l_eqTally (Nat.le_of_ble_eq_true rfl) trivial ?_
 simp +contextual (disch:=omega) only[go_sem,F_l_eqTally,List.append_nil]
 refine⟨fun hn=> ?_,fun hn=> ?_⟩
 ·simp only[Tally.eq_iff];simp at hn ⊢;simp[hn]
 have q0:x.obj=y.obj:=by simpa using hn
 refine⟨fun hn=> ?_,fun hn=> ?_⟩
 ·simp only[Tally.eq_iff];simp at hn ⊢;simp[hn]
 have q1:x.rep=y.rep:=by simpa using hn
 refine⟨fun hn=> ?_,fun hn=> ?_⟩
 ·simp only[Tally.eq_iff];simp at hn ⊢;simp[hn]
 have q2:x.sum=y.sum:=by simpa using hn
 simp only[Tally.eq_iff,q0,q1,q2,and_self,decide_true]
end Go.Proofs.YtbeoiejnogdkpaaGreat.Sy
namespace Go.Proofs.YtbeoiejnogdkpaaGreat.Sy
open Go Go.RowKit
set_option linter.unusedSimpArgs false
set_option linter.unusedVariables false
abbrev n_l_eqTallyS:Nat:=130
def F_l_eqTallyS:Fn1:=⟨27,[.t 4],(.seq (.reg [o 4 (.mov (.k (.bool false)))]) (.seq (.seq (.reg [o 6 (.mov (.t 0)),o 7 (.len false (.t 6)),o 8 (.mov (.t 1)),o 9 (.len false (.t 8)),o 10 (.bin .neq (.t 7) (.t 9))]) (.cnd (.t 10) (.seq (.reg [o 4 (.mov (.k (.bool false)))]) .ret) .skip)) (.seq (.seq (.reg [o 5 (.mov (.k (.int .i64 0)))]) (.blk 0 (.lop (.seq (.seq (.reg [o 11 (.mov (.t 5)),o 12 (.mov (.t 0)),o 13 (.len false (.t 12)),o 14 (.bin .lss (.t 11) (.t 13))]) (.cnd (.t 14) .skip (.ext 0))) (.seq (.blk 1 (.seq (.drw [o 17 (.mov (.t 0)),o 18 (.mov (.t 5)),o 19 (.iad 3 (.t 17) (.t 18)),o 20 (.ld true 3 (.t 19)),o 21 (.mov (.t 1)),o 22 (.mov (.t 5)),o 23 (.iad 3 (.t 21) (.t 22)),o 24 (.ld true 3 (.t 23))] [o 25 (.call 240 [(.t 20),(.t 24)]),o 26 (.un .not (.t 25))]) (.cnd (.t 26) (.seq (.reg [o 4 (.mov (.k (.bool false)))]) .ret) .skip))) (.reg [o 15 (.mov (.t 5)),o 16 (.bin .add (.t 15) (.k (.int .i64 1))),o 5 (.mov (.t 16))])))))) (.seq (.reg [o 4 (.mov (.k (.bool true)))]) .ret))))⟩
theorem ir_l_eqTallyS:compFn Tryz.prog n_l_eqTallyS=some F_l_eqTallyS:=by kernel_rfl
theorem l_eqTallyS_ret (σ:St) (v u:GV) (l m:List Tally) (hv:RS pTally.kd σ v l) (hu:RS pTally.kd σ u m) (hl:(l.length+sumL msTally l)≤1099511627776):Ret Tryz.prog n_l_eqTallyS [v,u] σ (.bool (decide (l=m))) σ:=by
 refine ret_eq ir_l_eqTallyS (Nat.le_of_ble_eq_true rfl) trivial ?_
 simp +contextual (disch:=omega) only[go_sem,F_l_eqTallyS,hv.len,hu.len]
 refine⟨fun hn=> ?_,fun hn=> ?_⟩
 ·have:l≠m:=fun h=>by subst h;simp at hn
  simp[this]
 have hlm:l.length=m.length:=by
                    have h2:(l.length:Int)=m.length:=by simpa using hn
                    omega
 refine vc_for l.length 5 (fun i env τ=>env 0=v∧env 1=u∧l.take i=m.take i∧σ <+: τ) rfl ⟨rfl,rfl,rfl,List.prefix_refl _⟩ ?_ ?_
 ·rintro i env τ hi e5 c0 ⟨e0,e1,he,hp⟩
  have hj:i<m.length:=by omega
  have h1:=hv.pre hp
  have h2:=hu.pre hp
  have hne:l[i]≠m[i]→l≠m:=fun h h'=>h (by subst h';rfl)
  have hst:l[i]=m[i]→l.take (i+1)=m.take (i+1):=fun h=>by rw[take_snoc hi,take_snoc hj,he,h]
  have hms:msTally l[i]≤sumL msTally l:=sumL_mem (List.getElem_mem hi)
  simp +contextual (disch:=omega) only[go_sem,c0,e0,e1,e5,hv.len,hu.len,Tally_at h1 hi,Tally_at h2 hj]
  refine by_ret (l_eqTally_ret τ l[i] m[i]) ?_
  simp +contextual (disch:=omega) only[go_sem,e0,e1,e5,hp]
  refine⟨fun h=> ?_,fun h=> ?_⟩
  ·simp[hne (by simpa using h)]
  ·simpa using hst (by simpa using h)
 ·rintro env τ e5 c0 ⟨e0,e1,he,hp⟩
  rw[List.take_length,hlm,List.take_length] at he
  simp +contextual (disch:=omega) only[go_sem,c0,e0,e1,e5,hv.len,hu.len,hp]
  simp[he]
end Go.Proofs.YtbeoiejnogdkpaaGreat.Sy
namespace Go.Proofs.YtbeoiejnogdkpaaGreat.Sy
open Go Go.RowKit
set_option linter.unusedSimpArgs false
set_option linter.unusedVariables false
abbrev n_l_eqDelta:Nat:=22
def F_l_eqDelta:Fn1:=⟨41,[.t 4],(.seq (.reg [o 2 (.box (.t 0)),o 3 (.box (.t 1)),o 4 (.mov (.k (.bool false)))]) (.seq (.seq (.reg [o 5 (.fad 0 (.t 2)),o 6 (.ld false 1 (.t 5)),o 7 (.fad 0 (.t 3)),o 8 (.ld false 1 (.t 7)),o 9 (.call 129 [(.t 6),(.t 8)]),o 10 (.un .not (.t 9))]) (.cnd (.t 10) (.seq (.reg [o 4 (.mov (.k (.bool false)))]) .ret) .skip)) (.seq (.seq (.reg [o 11 (.fad 1 (.t 2)),o 12 (.ld false 1 (.t 11)),o 13 (.fad 1 (.t 3)),o 14 (.ld false 1 (.t 13)),o 15 (.call 129 [(.t 12),(.t 14)]),o 16 (.un .not (.t 15))]) (.cnd (.t 16) (.seq (.reg [o 4 (.mov (.k (.bool false)))]) .ret) .skip)) (.seq (.seq (.reg [o 17 (.fad 2 (.t 2)),o 18 (.ld false 1 (.t 17)),o 19 (.fad 2 (.t 3)),o 20 (.ld false 1 (.t 19)),o 21 (.call 130 [(.t 18),(.t 20)]),o 22 (.un .not (.t 21))]) (.cnd (.t 22) (.seq (.reg [o 4 (.mov (.k (.bool false)))]) .ret) .skip)) (.seq (.seq (.reg [o 23 (.fad 3 (.t 2)),o 24 (.ld false 1 (.t 23)),o 25 (.fad 3 (.t 3)),o 26 (.ld false 1 (.t 25)),o 27 (.call 131 [(.t 24),(.t 26)]),o 28 (.un .not (.t 27))]) (.cnd (.t 28) (.seq (.reg [o 4 (.mov (.k (.bool false)))]) .ret) .skip)) (.seq (.seq (.reg [o 29 (.fad 4 (.t 2)),o 30 (.ld false 1 (.t 29)),o 31 (.fad 4 (.t 3)),o 32 (.ld false 1 (.t 31)),o 33 (.call 132 [(.t 30),(.t 32)]),o 34 (.un .not (.t 33))]) (.cnd (.t 34) (.seq (.reg [o 4 (.mov (.k (.bool false)))]) .ret) .skip)) (.seq (.seq (.reg [o 35 (.fad 5 (.t 2)),o 36 (.ld false 1 (.t 35)),o 37 (.fad 5 (.t 3)),o 38 (.ld false 1 (.t 37)),o 39 (.call 133 [(.t 36),(.t 38)]),o 40 (.un .not (.t 39))]) (.cnd (.t 40) (.seq (.reg [o 4 (.mov (.k (.bool false)))]) .ret) .skip)) (.seq (.reg [o 4 (.mov (.k (.bool true)))]) .ret))))))))⟩
theorem ir_l_eqDelta:compFn Tryz.prog n_l_eqDelta=some F_l_eqDelta:=by kernel_rfl
theorem l_eqDelta_ret (σ:St) (cs ds:List GV) (x y:Delta) (hx:kDelta.R σ x cs) (hy:kDelta.R σ y ds) (hl:msDelta x≤1099511627776):Ret Tryz.prog n_l_eqDelta [.agg cs,.agg ds] σ (.bool (decide (x=y))) σ:=by
 obtain⟨v0,v1,v2,v3,v4,v5,rfl,q0_,q1_,q2_,q3_,q4_,q5_⟩:=hx
 obtain⟨u0,u1,u2,u3,u4,u5,rfl,p0_,p1_,p2_,p3_,p4_,p5_⟩:=hy
 unfold msDelta at hl
 refine ret_eq ir_l_eqDelta (Nat.le_of_ble_eq_true rfl) trivial ?_
 simp +contextual (disch:=omega) only[go_sem,F_l_eqDelta,List.append_nil]
 refine by_ret (l_eqIntS_ret _ v0 u0 x.base y.base (q0_.pre pre2) (p0_.pre pre2) (by omega)) ?_
 simp +contextual (disch:=omega) only[go_sem,List.append_nil]
 refine⟨fun hn=> ?_,fun hn=> ?_⟩
 ·simp only[Delta.eq_iff];simp at hn ⊢;simp[hn]
 have q0:x.base=y.base:=by simpa using hn
 refine by_ret (l_eqIntS_ret _ v1 u1 x.know y.know (q1_.pre pre2) (p1_.pre pre2) (by omega)) ?_
 simp +contextual (disch:=omega) only[go_sem,List.append_nil]
 refine⟨fun hn=> ?_,fun hn=> ?_⟩
 ·simp only[Delta.eq_iff];simp at hn ⊢;simp[hn]
 have q1:x.know=y.know:=by simpa using hn
 refine by_ret (l_eqTallyS_ret _ v2 u2 x.tallies y.tallies (q2_.pre pre2) (p2_.pre pre2) (by omega)) ?_
 simp +contextual (disch:=omega) only[go_sem,List.append_nil]
 refine⟨fun hn=> ?_,fun hn=> ?_⟩
 ·simp only[Delta.eq_iff];simp at hn ⊢;simp[hn]
 have q2:x.tallies=y.tallies:=by simpa using hn
 refine by_ret (l_eqLiveS_ret _ v3 u3 x.lives y.lives (q3_.pre pre2) (p3_.pre pre2) (by omega)) ?_
 simp +contextual (disch:=omega) only[go_sem,List.append_nil]
 refine⟨fun hn=> ?_,fun hn=> ?_⟩
 ·simp only[Delta.eq_iff];simp at hn ⊢;simp[hn]
 have q3:x.lives=y.lives:=by simpa using hn
 refine by_ret (l_eqDotS_ret _ v4 u4 x.dead y.dead (q4_.pre pre2) (p4_.pre pre2) (by omega)) ?_
 simp +contextual (disch:=omega) only[go_sem,List.append_nil]
 refine⟨fun hn=> ?_,fun hn=> ?_⟩
 ·simp only[Delta.eq_iff];simp at hn ⊢;simp[hn]
 have q4:x.dead=y.dead:=by simpa using hn
 refine by_ret (l_eqCellS_ret _ v5 u5 x.cells y.cells (q5_.pre pre2) (p5_.pre pre2) (by omega)) ?_
 simp +contextual (disch:=omega) only[go_sem,List.append_nil]
 refine⟨fun hn=> ?_,fun hn=> ?_⟩
 ·simp only[Delta.eq_iff];simp at hn ⊢;simp[hn]
 have q5:x.cells=y.cells:=by simpa using hn
 simp only[Delta.eq_iff,q0,q1,q2,q3,q4,q5,and_self,decide_true]
end Go.Proofs.YtbeoiejnogdkpaaGreat.Sy
namespace Go.Proofs.YtbeoiejnogdkpaaGreat.Sy
open Go Go.RowKit
set_option linter.unusedSimpArgs false
set_option linter.unusedVariables false
abbrev n_l_eqUnit:Nat:=108
def F_l_eqUnit:Fn1:=⟨22,[.t 4],(.seq (.reg [o 2 (.box (.t 0)),o 3 (.box (.t 1)),o 4 (.mov (.k (.bool false)))]) (.seq (.seq (.reg [o 5 (.fad 0 (.t 2)),o 6 (.ld false 1 (.t 5)),o 7 (.fad 0 (.t 3)),o 8 (.ld false 1 (.t 7)),o 9 (.eqb true (.t 6) (.t 8))]) (.cnd (.t 9) (.seq (.reg [o 4 (.mov (.k (.bool false)))]) .ret) .skip)) (.seq (.seq (.reg [o 10 (.fad 1 (.t 2)),o 11 (.ld true 10 (.t 10)),o 12 (.fad 1 (.t 3)),o 13 (.ld true 10 (.t 12)),o 14 (.call 35 [(.t 11),(.t 13)]),o 15 (.un .not (.t 14))]) (.cnd (.t 15) (.seq (.reg [o 4 (.mov (.k (.bool false)))]) .ret) .skip)) (.seq (.seq (.reg [o 16 (.fad 11 (.t 2)),o 17 (.ld true 6 (.t 16)),o 18 (.fad 11 (.t 3)),o 19 (.ld true 6 (.t 18)),o 20 (.call 22 [(.t 17),(.t 19)]),o 21 (.un .not (.t 20))]) (.cnd (.t 21) (.seq (.reg [o 4 (.mov (.k (.bool false)))]) .ret) .skip)) (.seq (.reg [o 4 (.mov (.k (.bool true)))]) .ret)))))⟩
theorem ir_l_eqUnit:compFn Tryz.prog n_l_eqUnit=some F_l_eqUnit:=by kernel_rfl
theorem l_eqUnit_ret (σ:St) (cs ds:List GV) (x y:Unit_) (hx:kUnit_.R σ x cs) (hy:kUnit_.R σ y ds) (hl:msUnit x≤1099511627776):Ret Tryz.prog n_l_eqUnit [.agg cs,.agg ds] σ (.bool (decide (x=y))) σ:=by
 obtain⟨v1,v2,rfl,q1_,q2_⟩:=hx
 obtain⟨u1,u2,rfl,p1_,p2_⟩:=hy
 unfold msUnit at hl
 have a1:=q1_
 have a2:=q2_
 have b1:=p1_
 have b2:=p2_
 obtain⟨kv,rfl,_⟩:=q1_
 obtain⟨d0,d1,d2,d3,d4,d5,rfl,_⟩:=q2_
 obtain⟨ku,rfl,_⟩:=p1_
 obtain⟨e0,e1,e2,e3,e4,e5,rfl,_⟩:=p2_
 suffices key:Ret Tryz.prog n_l_eqUnit [.agg (.bool x.batch::[.int .i64 x.act.dot.rep,.int .i64 x.act.dot.seq,.int .i64 x.act.time,kv,.int .i64 x.act.kind,.str x.act.obj,.str x.act.key,.int .i64 x.act.val,.int .i64 x.act.ref.rep,.int .i64 x.act.ref.seq,d0,d1,d2,d3,d4,d5]),.agg (.bool y.batch::[.int .i64 y.act.dot.rep,.int .i64 y.act.dot.seq,.int .i64 y.act.time,ku,.int .i64 y.act.kind,.str y.act.obj,.str y.act.key,.int .i64 y.act.val,.int .i64 y.act.ref.rep,.int .i64 y.act.ref.seq,e0,e1,e2,e3,e4,e5])] σ (.bool (decide (x=y))) σ from key
 refine ret_eq ir_l_eqUnit (Nat.le_of_ble_eq_true rfl) trivial ?_
 simp +contextual (disch:=omega) only[go_sem,F_l_eqUnit,List.append_nil]
 refine⟨fun hn=> ?_,fun hn=> ?_⟩
 ·simp only[Unit_.eq_iff];simp at hn ⊢;simp[hn]
 have q0:x.batch=y.batch:=by simpa using hn
 refine by_ret (l_eqAct_ret _ _ _ x.act y.act (kAct.pre a1 pre2) (kAct.pre b1 pre2) (by omega)) ?_
 simp +contextual (disch:=omega) only[go_sem,List.append_nil]
 refine⟨fun hn=> ?_,fun hn=> ?_⟩
 ·simp only[Unit_.eq_iff];simp at hn ⊢;simp[hn]
 have q1:x.act=y.act:=by simpa using hn
 refine by_ret (l_eqDelta_ret _ _ _ x.delta y.delta (kDelta.pre a2 pre2) (kDelta.pre b2 pre2) (by omega)) ?_
 simp +contextual (disch:=omega) only[go_sem,List.append_nil]
 refine⟨fun hn=> ?_,fun hn=> ?_⟩
 ·simp only[Unit_.eq_iff];simp at hn ⊢;simp[hn]
 have q2:x.delta=y.delta:=by simpa using hn
 simp only[Unit_.eq_iff,q0,q1,q2,and_self,decide_true]
end Go.Proofs.YtbeoiejnogdkpaaGreat.Sy
namespace Go.Proofs.YtbeoiejnogdkpaaGreat.Sy
open Go Go.RowKit
set_option linter.unusedSimpArgs false
set_option linter.unusedVariables false
abbrev n_l_eqUnitS:Nat:=15
def F_l_eqUnitS:Fn1:=⟨27,[.t 4],(.seq (.reg [o 4 (.mov (.k (.bool false)))]) (.seq (.seq (.reg [o 6 (.mov (.t 0)),o 7 (.len false (.t 6)),o 8 (.mov (.t 1)),o 9 (.len false (.t 8)),o 10 (.bin .neq (.t 7) (.t 9))]) (.cnd (.t 10) (.seq (.reg [o 4 (.mov (.k (.bool false)))]) .ret) .skip)) (.seq (.seq (.reg [o 5 (.mov (.k (.int .i64 0)))]) (.blk 0 (.lop (.seq (.seq (.reg [o 11 (.mov (.t 5)),o 12 (.mov (.t 0)),o 13 (.len false (.t 12)),o 14 (.bin .lss (.t 11) (.t 13))]) (.cnd (.t 14) .skip (.ext 0))) (.seq (.blk 1 (.seq (.drw [o 17 (.mov (.t 0)),o 18 (.mov (.t 5)),o 19 (.iad 17 (.t 17) (.t 18)),o 20 (.ld true 17 (.t 19)),o 21 (.mov (.t 1)),o 22 (.mov (.t 5)),o 23 (.iad 17 (.t 21) (.t 22)),o 24 (.ld true 17 (.t 23))] [o 25 (.call 108 [(.t 20),(.t 24)]),o 26 (.un .not (.t 25))]) (.cnd (.t 26) (.seq (.reg [o 4 (.mov (.k (.bool false)))]) .ret) .skip))) (.reg [o 15 (.mov (.t 5)),o 16 (.bin .add (.t 15) (.k (.int .i64 1))),o 5 (.mov (.t 16))])))))) (.seq (.reg [o 4 (.mov (.k (.bool true)))]) .ret))))⟩
theorem ir_l_eqUnitS:compFn Tryz.prog n_l_eqUnitS=some F_l_eqUnitS:=by kernel_rfl
theorem l_eqUnitS_ret (σ:St) (v u:GV) (l m:List Unit_) (hv:RS kUnit_ σ v l) (hu:RS kUnit_ σ u m) (hl:(l.length+sumL msUnit l)≤1099511627776):Ret Tryz.prog n_l_eqUnitS [v,u] σ (.bool (decide (l=m))) σ:=by
 refine ret_eq ir_l_eqUnitS (Nat.le_of_ble_eq_true rfl) trivial ?_
 simp +contextual (disch:=omega) only[go_sem,F_l_eqUnitS,hv.len,hu.len]
 refine⟨fun hn=> ?_,fun hn=> ?_⟩
 ·have:l≠m:=fun h=>by subst h;simp at hn
  simp[this]
 have hlm:l.length=m.length:=by
                    have h2:(l.length:Int)=m.length:=by simpa using hn
                    omega
 refine vc_for l.length 5 (fun i env τ=>env 0=v∧env 1=u∧l.take i=m.take i∧σ <+: τ) rfl ⟨rfl,rfl,rfl,List.prefix_refl _⟩ ?_ ?_
 ·rintro i env τ hi e5 c0 ⟨e0,e1,he,hp⟩
  have hj:i<m.length:=by omega
  have h1:=hv.pre hp
  have h2:=hu.pre hp
  have hne:l[i]≠m[i]→l≠m:=fun h h'=>h (by subst h';rfl)
  have hst:l[i]=m[i]→l.take (i+1)=m.take (i+1):=fun h=>by rw[take_snoc hi,take_snoc hj,he,h]
  have hms:msUnit l[i]≤sumL msUnit l:=sumL_mem (List.getElem_mem hi)
  obtain⟨c,hc,hcr⟩:=unit_at' h1 hi
  obtain⟨d,hd,hdr⟩:=unit_at' h2 hj
  simp +contextual (disch:=omega) only[go_sem,c0,e0,e1,e5,hv.len,hu.len,hc,hd]
  refine by_ret (l_eqUnit_ret τ c d l[i] m[i] hcr hdr (by omega)) ?_
  simp +contextual (disch:=omega) only[go_sem,e0,e1,e5,hp]
  refine⟨fun h=> ?_,fun h=> ?_⟩
  ·simp[hne (by simpa using h)]
  ·simpa using hst (by simpa using h)
 ·rintro env τ e5 c0 ⟨e0,e1,he,hp⟩
  rw[List.take_length,hlm,List.take_length] at he
  simp +contextual (disch:=omega) only[go_sem,c0,e0,e1,e5,hv.len,hu.len,hp]
  simp[he]
end Go.Proofs.YtbeoiejnogdkpaaGreat.Sy
namespace Go.Proofs.YtbeoiejnogdkpaaGreat.Sy
open Go Go.RowKit
set_option linter.unusedSimpArgs false
set_option linter.unusedVariables false
theorem All3.cut {α β γ:Type} {R:α→β→γ→Prop}:∀ {x y:List α} {bs:List β} {cs:List γ},All3 R (x++y) bs cs→∃ b1 b2 c1 c2,bs=b1++b2∧cs=c1++c2∧All3 R x b1 c1∧All3 R y b2 c2
 |[],y,bs,cs,h=>⟨[],bs,[],cs,rfl,rfl,.nil,h⟩
 |a::x,y,_,_,.cons h t=>by
  obtain⟨b1,b2,c1,c2,rfl,rfl,h1,h2⟩:=All3.cut t
  exact⟨_::b1,b2,_::c1,c2,rfl,rfl,.cons h h1,h2⟩
theorem mid_perm (a b c:List Nat):(a++(b++c)).Perm (b++(a++c)):=by
 rw[← List.append_assoc,←List.append_assoc];exact List.Perm.append_right _ List.perm_append_comm
def holeP {α:Type} (d:Kd α) (v:GV) (l:List α) (j:Nat) (cs:List GV) (τ:St) (fp:List Nat):Prop:=
 ∃ g pre c1 c2 post f1 f2,v= .sl g pre.length l.length∧bk τ g=some (.row d.z (pre++(c1.flatten++(cs++c2.flatten))++post))∧cs.length=d.z∧All3 (d.O τ) (l.take j) c1 f1∧All3 (d.O τ) (l.drop (j+1)) c2 f2∧fp=g::(f1.flatten++f2.flatten)
def hole {α:Type} (d:Kd α) (v:GV) (l:List α) (j:Nat) (cs:List GV):Thg:=⟨holeP d v l j cs,fun {σ τ fp} h hf=>by
 obtain⟨g,pre,c1,c2,post,f1,f2,h1,h2,h3,h4,h5,rfl⟩:=h
 refine⟨g,pre,c1,c2,post,f1,f2,h1,by rw[hf g List.mem_cons_self];exact h2,h3,h4.imp fun a b c hc ho=>d.loc ho fun g' hg'=>hf g' ?_,h5.imp fun a b c hc ho=>d.loc ho fun g' hg'=>hf g' ?_,rfl⟩
 ·exact List.mem_cons_of_mem _ (List.mem_append_left _ (List.mem_flatten.2 ⟨c,hc,hg'⟩))
 ·exact List.mem_cons_of_mem _ (List.mem_append_right _ (List.mem_flatten.2 ⟨c,hc,hg'⟩))⟩
section
variable {σ τ:St} {rs:List Thg} {α:Type} {d:Kd α} {v:GV} {l:List α} {cs:List GV} {j:Nat}
theorem Hp.zoom (H:Hp σ τ (ow d v l::rs)) (hj:j<l.length):∃ cs,Hp σ τ (own d cs l[j]::hole d v l j cs::rs):=by
 obtain⟨h,_,⟨a,b,hr,hs,rfl⟩,hn,hb⟩:=H
 rcases hr with⟨rfl,_,_⟩|⟨g,pre,css,post,fps,hv,hB,hA,rfl⟩
 ·simp at hj
 have el:l=l.take j++(l[j]::l.drop (j+1)):=by rw[List.getElem_cons_drop,List.take_append_drop]
 have hA':All3 (d.O τ) (l.take j++(l[j]::l.drop (j+1))) css fps:=by rw[← el];exact hA
 obtain⟨c1,c2',f1,f2',rfl,rfl,h1,h2⟩:=All3.cut hA'
 cases h2 with
 | @cons _ cs fx _ c2 f2 hx h2=>
  have hp:(g::(f1++fx::f2).flatten++b).Perm (fx++((g::(f1.flatten++f2.flatten))++b)):=by
   have e:g::(f1++fx::f2).flatten++b=(g::f1.flatten)++(fx++(f2.flatten++b)):=by simp
   have e2:fx++((g::(f1.flatten++f2.flatten))++b)=fx++((g::f1.flatten)++(f2.flatten++b)):=by simp
   rw[e,e2];exact mid_perm _ _ _
  refine⟨cs,h,_,⟨fx,_,hx,⟨_,b,⟨g,pre,c1,c2,post,f1,f2,hv,?_,d.len (d.rd hx),h1,h2,rfl⟩,hs,rfl⟩,rfl⟩,hp.nodup_iff.1 hn,fun g' hg'=>hb g' (hp.mem_iff.2 hg')⟩
  rw[hB];simp
theorem Hp.unzoom {y:α} (H:Hp σ τ (own d cs y::hole d v l j cs::rs)) (hj:j<l.length):Hp σ τ (ow d v (l.set j y)::rs):=by
 obtain⟨h,_,⟨fx,_,hx,⟨_,b,⟨g,pre,c1,c2,post,f1,f2,hv,hB,hl,h1,h2,rfl⟩,hs,rfl⟩,rfl⟩,hn,hb⟩:=H
 have hp:(g::(f1++fx::f2).flatten++b).Perm (fx++((g::(f1.flatten++f2.flatten))++b)):=by
  have e:g::(f1++fx::f2).flatten++b=(g::f1.flatten)++(fx++(f2.flatten++b)):=by simp
  have e2:fx++((g::(f1.flatten++f2.flatten))++b)=fx++((g::f1.flatten)++(f2.flatten++b)):=by simp
  rw[e,e2];exact mid_perm _ _ _
 have el:l.set j y=l.take j++(y::l.drop (j+1)):=List.set_eq_take_append_cons_drop.trans (if_pos hj)
 refine⟨h,_,⟨_,b,.inr ⟨g,pre,c1++cs::c2,post,f1++fx::f2,by rw[List.length_set];exact hv,?_,?_,rfl⟩,hs,rfl⟩,hp.nodup_iff.2 hn,fun g' hg'=>hb g' (hp.mem_iff.1 hg')⟩
 ·rw[hB];simp
 ·rw[el]
  exact h1.append (.cons hx h2)
theorem hole_at {fp:List Nat} (h:(hole d v l j cs).P τ fp) (hj:j<l.length):∃ g off,g∈fp∧v= .sl g off l.length∧atz d.z v j= .ptr g (off+j*d.z)∧∃ A B,off+j*d.z=A.length∧cs.length=d.z∧bk τ g=some (.row d.z (A++cs++B))∧∀(τ':St) (cs':List GV),cs'.length=d.z→bk τ' g=some (.row d.z (A++cs'++B))→(∀ g'∈fp,g'≠g→bk τ' g'=bk τ g')→fp.Nodup→(hole d v l j cs').P τ' fp:=by
 obtain⟨g,pre,c1,c2,post,f1,f2,rfl,h2,h3,h4,h5,rfl⟩:=h
 have hc:c1.flatten.length=j*d.z:=by rw[flat_len h4,List.length_take,Nat.min_eq_left (by omega)]
 refine⟨g,pre.length,List.mem_cons_self,rfl,rfl,pre++c1.flatten,c2.flatten++post,by rw[List.length_append,hc],h3,by rw[h2];simp,fun τ' cs' hl hB hk hn=> ?_⟩
 rw[List.nodup_cons] at hn
 refine⟨g,pre,c1,c2,post,f1,f2,rfl,by rw[hB];simp,hl,h4.imp fun a b c hc ho=>d.loc ho fun g' hg'=> ?_,h5.imp fun a b c hc ho=>d.loc ho fun g' hg'=> ?_,rfl⟩
 ·have hm:g'∈f1.flatten++f2.flatten:=List.mem_append_left _ (List.mem_flatten.2 ⟨c,hc,hg'⟩)
  exact hk g' (List.mem_cons_of_mem _ hm) fun e=>hn.1 (e ▸ hm)
 ·have hm:g'∈f1.flatten++f2.flatten:=List.mem_append_right _ (List.mem_flatten.2 ⟨c,hc,hg'⟩)
  exact hk g' (List.mem_cons_of_mem _ hm) fun e=>hn.1 (e ▸ hm)
end
section
variable {P:Program} {σ τ:St} {h:List Item} {K:Kx} {v:GV} {α:Type} {l:List α} {d:Kd α} {cs:List GV} {j:Nat}
theorem Hx.hole_rd (H:Hx σ τ h) (i:Nat) (hi:h[i]? =some (.th (hole d v l j cs))) (hj:j<l.length):iadG d.z v (some j)=some (atz d.z v j)∧(∀ k,fadG k (atz d.z v j)=some (fld k (atz d.z v j)))∧(∀ k m,fadG k (fld m (atz d.z v j))=some (fld (m+k) (atz d.z v j)))∧(∀ k n a,k+n≤d.z→ldG a n τ (fld k (atz d.z v j))=(seg cs k n).bind (mkv a)):=by
 obtain⟨fp,hP,_⟩:=(H.hp.pick i (at_t hi)).turn
 obtain⟨g,off,hg,rfl,e,A,B,h1,h2,h3,_⟩:=hole_at hP hj
 rw[e]
 have hi':iadG d.z (.sl g off l.length) (some j)=some (.ptr g (off+j*d.z)):=by simp only[iadG];rw[if_pos hj]
 refine⟨hi',fun k=>rfl,fun k m=>by simp only[fld,fadG];rw[Nat.add_assoc],fun k n a hk=> ?_⟩
 simp only[fld,ldG]
 have hr:rdB τ g=some (A++cs++B):=by unfold rdB;rw[bk_some.1 h3];rfl
 rw[hr,Option.bind_some,h1]
 congr 1
 unfold seg
 rw[if_pos (by simp only[List.length_append];omega),if_pos (by omega)]
 congr 1
 rw[List.append_assoc,←List.drop_drop,List.drop_left,List.drop_append_of_le_length (by omega),List.take_append_of_le_length (by rw[List.length_drop];omega)]
theorem by_sth (H:Hx σ τ h) (i:Nat) (hi:h[i]? =some (.th (hole d v l j cs))) (hj:j<l.length) {k n:Nat} {x:GV} (hx:x.cells.length=n) (hn:0<n) (hk:k+n≤d.z)
  (kk:∀ τ',Hx σ τ' (h.set i (.th (hole d v l j (splice cs k x.cells))))→K (.tup []) (h.set i (.th (hole d v l j (splice cs k x.cells)))) τ'):stX σ false h τ n K (fld k (atz d.z v j)) x:=by
 obtain⟨fp,hP,hnd,hbd,ht⟩:=(H.hp.pick i (at_t hi)).turn
 obtain⟨g,off,hg,rfl,e,A,B,h1,h2,h3,h4⟩:=hole_at hP hj
 have hgt:=(hbd g hg).2
 have hsl:(splice cs k x.cells).length=d.z:=by unfold splice;simp only[List.length_append,List.length_take,List.length_drop];omega
 have es:splice (A++cs++B) (A.length+k) x.cells=A++splice cs k x.cells++B:=splice_mid (by omega)
 have e2:stG n τ (.ptr g (off+j*d.z+k)) x=some (.tup [],τ.set g (some (.row d.z (A++splice cs k x.cells++B)))):=by
  simp only[stG,bk_some.1 h3]
  rw[if_pos ⟨by simp only[List.length_append];omega,hn,hx⟩,h1,es]
 have hP':(hole d (.sl g off l.length) l j (splice cs k x.cells)).P (τ.set g (some (.row d.z (A++splice cs k x.cells++B)))) fp:=
  h4 _ _ hsl (bk_some.2 (by rw[List.getElem?_set_self hgt])) (fun g' hg' hne=>bk_set_ne (Ne.symm hne)) hnd
 have H':=Hp.unpick (ht (r':=hole d (.sl g off l.length) l j (splice cs k x.cells)) (τ':=τ.set g (some (.row d.z (A++splice cs k x.cells++B)))) ⟨hnd,fun g' hg'=>.inl hg',by simp,fun g' hg' hne=>bk_set_ne fun e=>hne (e ▸ hg)⟩ hP') (List.getElem?_eq_some_iff.1 (at_t hi)).1
 rw[← set_t] at H'
 rw[e]
 have hno:look h g=none:=no_box H hi fun fp'' ho'=>by
  obtain⟨g',pre,c1,c2,post,f1,f2,e',_,_,_,_,rfl⟩:=ho'
  injection e' with e1;rw[e1];exact List.mem_cons_self
 show stB σ false h τ n K g (off+j*d.z+k) x (look h g)
 rw[hno]
 exact⟨_,_,_,e2,(fun h=>by cases h),H',kk _ H'⟩
end
end Go.Proofs.YtbeoiejnogdkpaaGreat.Sy
namespace Go.Proofs.YtbeoiejnogdkpaaGreat.Sy
open Go Go.RowKit
set_option linter.unusedSimpArgs false
set_option linter.unusedVariables false
def mInt (k:Int):Int:=k
def mString (k:Int):ByteArray:=mtx k
def mDot (k:Int):Dot:=⟨k,k+1⟩
def mTally (k:Int):Tally:=⟨mtx (k),k+1,k+1+1⟩
def mLive (k:Int):Live:=⟨((k).tmod 3==0),mtx (k+1),mtx (k+1+1),k+1+1+1,⟨k+1+1+1+1,k+1+1+1+1+1⟩⟩
def mCell (k:Int):Cell:=⟨mtx (k),⟨k+1,k+1+1⟩,k+1+1+1,⟨k+1+1+1+1,k+1+1+1+1+1⟩,k+1+1+1+1+1+1,((k+1+1+1+1+1+1+1).tmod 3==0)⟩
def mEdit (k:Int):Edit:=⟨k,mtx (k+1),mtx (k+1+1),k+1+1+1,k+1+1+1+1⟩
def mWatch (k:Int):Watch:=⟨k,mtx (k+1),mtx (k+1+1)⟩
def mClash (k:Int):Clash:=⟨mtx (k),mtx (k+1)⟩
def mFile (k:Int):File:=⟨mtx (k),k+1⟩
def mLetter (k:Int):Letter:=⟨k,mtx (k+1)⟩
def mEvent (k:Int):Event:=⟨k,k+1,k+1+1,⟨k+1+1+1,mtx (k+1+1+1+1),mtx (k+1+1+1+1+1),k+1+1+1+1+1+1,k+1+1+1+1+1+1+1⟩⟩
end Go.Proofs.YtbeoiejnogdkpaaGreat.Sy
namespace Go.Proofs.YtbeoiejnogdkpaaGreat.Sy
open Go Go.RowKit
set_option linter.unusedSimpArgs false
set_option linter.unusedVariables false
abbrev n_l_markIntS:Nat:=109
def F_l_markIntS:Fn1:=⟨19,[.t 4],(.seq (.reg [o 4 (.mov (.k (.int .i64 0)))]) (.seq (.seq (.reg [o 5 (.mov (.k (.int .i64 0)))]) (.blk 0 (.lop (.seq (.seq (.reg [o 6 (.mov (.t 5)),o 7 (.mov (.t 0)),o 8 (.len false (.t 7)),o 9 (.bin .lss (.t 6) (.t 8))]) (.cnd (.t 9) .skip (.ext 0))) (.seq (.blk 1 (.seq (.reg [o 12 (.mov (.t 0)),o 13 (.mov (.t 5)),o 14 (.mov (.t 1)),o 15 (.iad 1 (.t 12) (.t 13)),on (.st 1 (.t 15) (.t 14))]) (.reg [o 16 (.mov (.t 1)),o 17 (.bin .add (.t 16) (.k (.int .i64 1))),o 1 (.mov (.t 17))]))) (.reg [o 10 (.mov (.t 5)),o 11 (.bin .add (.t 10) (.k (.int .i64 1))),o 5 (.mov (.t 11))])))))) (.seq (.reg [o 18 (.mov (.t 1)),o 4 (.mov (.t 18))]) .ret)))⟩
theorem ir_l_markIntS:compFn Tryz.prog n_l_markIntS=some F_l_markIntS:=by kernel_rfl
theorem l_markIntS_ret {σ τ:St} {rs:List Thg} (i0:Nat) (v:GV) (l:List Int) (k:Int) (H:Hp σ τ rs) (hi0:rs[i0]? =some (ow pI.kd v l)) (h0:0≤k) (hk:k+1*l.length≤4611686018427387904):∃ τ',Ret Tryz.prog n_l_markIntS [v,gi k] τ (gi (k+1*l.length)) τ'∧Hp σ τ' (rs.set i0 (ow pI.kd v (mkF mInt 1 k l.length))):=by
 have H:=H.pick i0 hi0
 have hlt:=(List.getElem?_eq_some_iff.1 hi0).1
 obtain⟨r,τ',hR,rfl,H'⟩:=ret_mut (P:=Tryz.prog) (σ:=τ) (args:=[v,gi k]) (Post:=fun r τ'=>r=gi (k+1*l.length)∧Hp σ τ' (ow pI.kd v (mkF mInt 1 k l.length)::rs.eraseIdx i0)) ir_l_markIntS (Nat.le_of_ble_eq_true rfl) (by
  simp +contextual (disch:=omega) only[go_sem,F_l_markIntS]
  refine vc_for l.length 5 (fun i env τ'=>env 0=v∧env 1=gi (k+1*(i:Int))∧τ.length≤τ'.length∧Hp σ τ' (ow pI.kd v ((mkF mInt 1 k l.length).take i++l.drop i)::rs.eraseIdx i0)) rfl ⟨rfl,(by show gi k=gi (k+1*0);simp),Nat.le_refl _,by simpa using H⟩ ?_ ?_
  ·rintro i env τ' hi e5 c0 ⟨e0,e1,hle,H⟩
   have hL:=mark_len (l:=l) (e:=mInt) (c:=1) (k:=k) (i:=i)
   have hst:=mark_step (e:=mInt) (c:=1) (k:=k) hi
   generalize(mkF mInt 1 k l.length).take i++l.drop i=L at H hL hst
   have hj:i<L.length:=by omega
   have h1:=H.sl 0 rfl
   have hln:=h1.len
   rw[hL] at hln
   have hat:=int_at h1 hj
   simp +contextual (disch:=omega) only[go_sem,c0,e0,e1,e5,hln,hat]
   obtain⟨τ2,es,H2⟩:=H.stw 0 rfl hj 1 (.int .i64 (k+1*(i:Int))) (mInt (k+1*(i:Int))) rfl rfl (by decide)
   have es:stG 1 τ' (atz 1 v i) (.int .i64 (k+1*(i:Int)))=some (.tup [],τ2):=es
   have hlen:=stG_len es
   have H2:Hp σ τ2 (ow pI.kd v (L.set i (mInt (k+(1:Nat)*(i:Int))))::rs.eraseIdx i0):=H2
   rw[hst] at H2
   simp +contextual (disch:=omega) only[go_sem,c0,e0,e1,e5,hln,hat,es]
   exact⟨by omega,by omega,H2⟩
  ·rintro env τ' e5 c0 ⟨e0,e1,hle,H⟩
   rw[mark_end] at H
   have hln:=(H.sl 0 rfl).len
   rw[mkF_length] at hln
   simp +contextual (disch:=omega) only[go_sem,c0,e0,e1,e5,hln]
   exact⟨_,rfl,hle,rfl,H⟩)
 exact⟨τ',hR,H'.unpick hlt⟩
end Go.Proofs.YtbeoiejnogdkpaaGreat.Sy
namespace Go.Proofs.YtbeoiejnogdkpaaGreat.Sy
open Go Go.RowKit
set_option linter.unusedSimpArgs false
set_option linter.unusedVariables false
abbrev n_s_l01In:Nat:=122
def F_s_l01In:Fn1:=⟨15,[.t 6],(.seq (.reg [o 6 (.mov (.k (.bool false)))]) (.seq (.reg [o 7 (.mov (.t 0)),o 8 (.mov (.t 1)),o 9 (.bin .geq (.t 7) (.t 8)),o 10 (.mov (.t 9)),og 11 10 true (.mov (.t 0)),og 12 10 true (.mov (.t 2)),og 13 10 true (.bin .leq (.t 11) (.t 12)),o 14 (.pick (.t 10) (.t 13) (.k (.bool false))),o 6 (.mov (.t 14))]) .ret))⟩
theorem ir_s_l01In:compFn Tryz.prog n_s_l01In=some F_s_l01In:=by kernel_rfl
abbrev n_i_within:Nat:=236
def F_i_within:Fn1:=⟨15,[.t 6],(.seq (.reg [o 6 (.mov (.k (.bool false)))]) (.seq (.reg [o 7 (.mov (.t 0)),o 8 (.mov (.t 1)),o 9 (.bin .geq (.t 7) (.t 8)),o 10 (.mov (.t 9)),og 11 10 true (.mov (.t 0)),og 12 10 true (.mov (.t 2)),og 13 10 true (.bin .leq (.t 11) (.t 12)),o 14 (.pick (.t 10) (.t 13) (.k (.bool false))),o 6 (.mov (.t 14))]) .ret))⟩
theorem ir_i_within:compFn Tryz.prog n_i_within=some F_i_within:=by kernel_rfl
abbrev n_s_NameOk:Nat:=348
def F_s_NameOk:Fn1:=⟨23,[.t 2],(.seq (.reg [o 2 (.mov (.k (.bool false)))]) (.seq (.seq (.reg [o 3 (.mov (.k (.int .i64 0)))]) (.blk 0 (.lop (.seq (.seq (.reg [o 4 (.mov (.t 3)),o 5 (.mov (.t 0)),o 6 (.len true (.t 5)),o 7 (.bin .lss (.t 4) (.t 6))]) (.cnd (.t 7) .skip (.ext 0))) (.seq (.blk 1 (.seq (.reg [o 10 (.mov (.t 0)),o 11 (.mov (.t 3)),o 12 (.idx (.t 10) (.t 11)),o 13 (.bin .lss (.t 12) (.k (.int .u8 97))),o 14 (.mov (.t 13)),og 15 14 false (.mov (.t 0)),og 16 14 false (.mov (.t 3)),og 17 14 false (.idx (.t 15) (.t 16)),og 18 14 false (.bin .gtr (.t 17) (.k (.int .u8 122))),o 19 (.pick (.t 14) (.k (.bool true)) (.t 18))]) (.cnd (.t 19) (.seq (.reg [o 2 (.mov (.k (.bool false)))]) .ret) .skip))) (.reg [o 8 (.mov (.t 3)),o 9 (.bin .add (.t 8) (.k (.int .i64 1))),o 3 (.mov (.t 9))])))))) (.seq (.reg [o 20 (.mov (.t 0)),o 21 (.len true (.t 20)),o 22 (.call 122 [(.t 21),(.k (.int .i64 1)),(.k (.int .i64 8))]),o 2 (.mov (.t 22))]) .ret)))⟩
theorem ir_s_NameOk:compFn Tryz.prog n_s_NameOk=some F_s_NameOk:=by kernel_rfl
abbrev n_i_NameOk:Nat:=341
def F_i_NameOk:Fn1:=⟨19,[.t 2],(.seq (.reg [o 2 (.mov (.k (.bool false)))]) (.seq (.seq (.reg [o 3 (.mov (.k (.int .i64 0)))]) (.blk 0 (.lop (.seq (.seq (.reg [o 4 (.mov (.t 3)),o 5 (.mov (.t 0)),o 6 (.len true (.t 5)),o 7 (.bin .lss (.t 4) (.t 6))]) (.cnd (.t 7) .skip (.ext 0))) (.seq (.blk 1 (.seq (.reg [o 10 (.mov (.t 0)),o 11 (.mov (.t 3)),o 12 (.idx (.t 10) (.t 11)),o 13 (.cvi .i64 (.t 12)),o 14 (.call 236 [(.t 13),(.k (.int .i64 97)),(.k (.int .i64 122))]),o 15 (.un .not (.t 14))]) (.cnd (.t 15) (.seq (.reg [o 2 (.mov (.k (.bool false)))]) .ret) .skip))) (.reg [o 8 (.mov (.t 3)),o 9 (.bin .add (.t 8) (.k (.int .i64 1))),o 3 (.mov (.t 9))])))))) (.seq (.reg [o 16 (.mov (.t 0)),o 17 (.len true (.t 16)),o 18 (.call 236 [(.t 17),(.k (.int .i64 1)),(.k (.int .i64 8))]),o 2 (.mov (.t 18))]) .ret)))⟩
theorem ir_i_NameOk:compFn Tryz.prog n_i_NameOk=some F_i_NameOk:=by kernel_rfl
abbrev n_s_KnowOk:Nat:=167
def F_s_KnowOk:Fn1:=⟨19,[.t 2],(.seq (.reg [o 2 (.mov (.k (.bool false)))]) (.seq (.seq (.reg [o 3 (.mov (.k (.int .i64 0)))]) (.blk 0 (.lop (.seq (.seq (.reg [o 4 (.mov (.t 3)),o 5 (.mov (.t 0)),o 6 (.len false (.t 5)),o 7 (.bin .lss (.t 4) (.t 6))]) (.cnd (.t 7) .skip (.ext 0))) (.seq (.blk 1 (.seq (.reg [o 10 (.mov (.t 0)),o 11 (.mov (.t 3)),o 12 (.iad 1 (.t 10) (.t 11)),o 13 (.ld false 1 (.t 12)),o 14 (.call 122 [(.t 13),(.k (.int .i64 0)),(.k (.int .i64 1000))]),o 15 (.un .not (.t 14))]) (.cnd (.t 15) (.seq (.reg [o 2 (.mov (.k (.bool false)))]) .ret) .skip))) (.reg [o 8 (.mov (.t 3)),o 9 (.bin .add (.t 8) (.k (.int .i64 1))),o 3 (.mov (.t 9))])))))) (.seq (.reg [o 16 (.mov (.t 0)),o 17 (.len false (.t 16)),o 18 (.bin .eql (.t 17) (.k (.int .i64 3))),o 2 (.mov (.t 18))]) .ret)))⟩
theorem ir_s_KnowOk:compFn Tryz.prog n_s_KnowOk=some F_s_KnowOk:=by kernel_rfl
abbrev n_i_KnowOk:Nat:=176
def F_i_KnowOk:Fn1:=⟨18,[.t 2],(.seq (.reg [o 2 (.mov (.k (.bool false)))]) (.seq (.seq (.reg [o 5 (.mov (.t 0)),o 6 (.len false (.t 5)),o 7 (.mov (.k (.int .i64 0)))]) (.blk 0 (.lop (.seq (.reg [o 8 (.bin .lss (.t 7) (.t 6))]) (.seq (.cnd (.t 8) .skip (.ext 0)) (.seq (.blk 1 (.seq (.reg [o 9 (.iad 1 (.t 5) (.t 7)),o 10 (.ld false 1 (.t 9)),o 4 (.mov (.t 10))]) (.seq (.reg [o 11 (.mov (.t 4)),o 12 (.call 236 [(.t 11),(.k (.int .i64 0)),(.k (.int .i64 1000))]),o 13 (.un .not (.t 12))]) (.cnd (.t 13) (.seq (.reg [o 2 (.mov (.k (.bool false)))]) .ret) .skip)))) (.reg [o 14 (.bin .add (.t 7) (.k (.int .i64 1))),o 7 (.mov (.t 14))]))))))) (.seq (.reg [o 15 (.mov (.t 0)),o 16 (.len false (.t 15)),o 17 (.bin .eql (.t 16) (.k (.int .i64 3))),o 2 (.mov (.t 17))]) .ret)))⟩
theorem ir_i_KnowOk:compFn Tryz.prog n_i_KnowOk=some F_i_KnowOk:=by kernel_rfl
abbrev n_s_DotOk:Nat:=168
def F_s_DotOk:Fn1:=⟨11,[.t 2],(.seq (.reg [o 1 (.box (.t 0)),o 2 (.mov (.k (.bool false)))]) (.seq (.reg [o 3 (.fad 0 (.t 1)),o 4 (.ld false 1 (.t 3)),o 5 (.call 122 [(.t 4),(.k (.int .i64 0)),(.k (.int .i64 2))]),o 6 (.mov (.t 5)),og 7 6 true (.fad 1 (.t 1)),og 8 6 true (.ld false 1 (.t 7)),og 9 6 true (.call 122 [(.t 8),(.k (.int .i64 1)),(.k (.int .i64 1000))]),o 10 (.pick (.t 6) (.t 9) (.k (.bool false))),o 2 (.mov (.t 10))]) .ret))⟩
theorem ir_s_DotOk:compFn Tryz.prog n_s_DotOk=some F_s_DotOk:=by kernel_rfl
abbrev n_i_DotOk:Nat:=272
def F_i_DotOk:Fn1:=⟨11,[.t 2],(.seq (.reg [o 1 (.box (.t 0)),o 2 (.mov (.k (.bool false)))]) (.seq (.reg [o 3 (.fad 0 (.t 1)),o 4 (.ld false 1 (.t 3)),o 5 (.call 236 [(.t 4),(.k (.int .i64 0)),(.k (.int .i64 2))]),o 6 (.mov (.t 5)),og 7 6 true (.fad 1 (.t 1)),og 8 6 true (.ld false 1 (.t 7)),og 9 6 true (.call 236 [(.t 8),(.k (.int .i64 1)),(.k (.int .i64 1000))]),o 10 (.pick (.t 6) (.t 9) (.k (.bool false))),o 2 (.mov (.t 10))]) .ret))⟩
theorem ir_i_DotOk:compFn Tryz.prog n_i_DotOk=some F_i_DotOk:=by kernel_rfl
abbrev n_s_Knows:Nat:=45
def F_s_Knows:Fn1:=⟨21,[.t 4],(.seq (.reg [o 3 (.box (.t 1)),o 4 (.mov (.k (.bool false)))]) (.seq (.drw [o 5 (.mov (.t 0)),o 6 (.call 167 [(.t 5)]),o 7 (.mov (.t 6)),og 8 7 true (.ld true 2 (.t 3)),og 9 7 true (.call 168 [(.t 8)]),o 10 (.pick (.t 7) (.t 9) (.k (.bool false))),o 11 (.mov (.t 10)),og 12 11 true (.fad 1 (.t 3)),og 13 11 true (.ld false 1 (.t 12)),og 14 11 true (.mov (.t 0)),og 15 11 true (.fad 0 (.t 3)),og 16 11 true (.ld false 1 (.t 15)),og 17 11 true (.iad 1 (.t 14) (.t 16)),og 18 11 true (.ld false 1 (.t 17))] [og 19 11 true (.bin .leq (.t 13) (.t 18)),o 20 (.pick (.t 11) (.t 19) (.k (.bool false))),o 4 (.mov (.t 20))]) .ret))⟩
theorem ir_s_Knows:compFn Tryz.prog n_s_Knows=some F_s_Knows:=by kernel_rfl
abbrev n_i_Knows:Nat:=170
def F_i_Knows:Fn1:=⟨21,[.t 4],(.seq (.reg [o 3 (.box (.t 1)),o 4 (.mov (.k (.bool false)))]) (.seq (.drw [o 5 (.mov (.t 0)),o 6 (.call 176 [(.t 5)]),o 7 (.mov (.t 6)),og 8 7 true (.ld true 2 (.t 3)),og 9 7 true (.call 272 [(.t 8)]),o 10 (.pick (.t 7) (.t 9) (.k (.bool false))),o 11 (.mov (.t 10)),og 12 11 true (.fad 1 (.t 3)),og 13 11 true (.ld false 1 (.t 12)),og 14 11 true (.mov (.t 0)),og 15 11 true (.fad 0 (.t 3)),og 16 11 true (.ld false 1 (.t 15)),og 17 11 true (.iad 1 (.t 14) (.t 16)),og 18 11 true (.ld false 1 (.t 17))] [og 19 11 true (.bin .leq (.t 13) (.t 18)),o 20 (.pick (.t 11) (.t 19) (.k (.bool false))),o 4 (.mov (.t 20))]) .ret))⟩
theorem ir_i_Knows:compFn Tryz.prog n_i_Knows=some F_i_Knows:=by kernel_rfl
abbrev n_s_l05Keyed:Nat:=332
def F_s_l05Keyed:Fn1:=⟨5,[.t 2],(.seq (.reg [o 2 (.mov (.k (.bool false)))]) (.seq (.reg [o 3 (.mov (.t 0)),o 4 (.call 122 [(.t 3),(.k (.int .i64 2)),(.k (.int .i64 5))]),o 2 (.mov (.t 4))]) .ret))⟩
theorem ir_s_l05Keyed:compFn Tryz.prog n_s_l05Keyed=some F_s_l05Keyed:=by kernel_rfl
abbrev n_s_l05Valued:Nat:=333
def F_s_l05Valued:Fn1:=⟨13,[.t 2],(.seq (.reg [o 2 (.mov (.k (.bool false)))]) (.seq (.reg [o 3 (.mov (.t 0)),o 4 (.bin .eql (.t 3) (.k (.int .i64 1))),o 5 (.mov (.t 4)),og 6 5 false (.mov (.t 0)),og 7 5 false (.bin .eql (.t 6) (.k (.int .i64 4))),o 8 (.pick (.t 5) (.k (.bool true)) (.t 7)),o 9 (.mov (.t 8)),og 10 9 false (.mov (.t 0)),og 11 9 false (.bin .eql (.t 10) (.k (.int .i64 6))),o 12 (.pick (.t 9) (.k (.bool true)) (.t 11)),o 2 (.mov (.t 12))]) .ret))⟩
theorem ir_s_l05Valued:compFn Tryz.prog n_s_l05Valued=some F_s_l05Valued:=by kernel_rfl
abbrev n_i_hasKey:Nat:=342
def F_i_hasKey:Fn1:=⟨5,[.t 2],(.seq (.reg [o 2 (.mov (.k (.bool false)))]) (.seq (.reg [o 3 (.mov (.t 0)),o 4 (.call 236 [(.t 3),(.k (.int .i64 2)),(.k (.int .i64 5))]),o 2 (.mov (.t 4))]) .ret))⟩
theorem ir_i_hasKey:compFn Tryz.prog n_i_hasKey=some F_i_hasKey:=by kernel_rfl
abbrev n_i_hasVal:Nat:=343
def F_i_hasVal:Fn1:=⟨13,[.t 2],(.seq (.reg [o 2 (.mov (.k (.bool false)))]) (.seq (.reg [o 3 (.mov (.t 0)),o 4 (.bin .eql (.t 3) (.k (.int .i64 1))),o 5 (.mov (.t 4)),og 6 5 false (.mov (.t 0)),og 7 5 false (.bin .eql (.t 6) (.k (.int .i64 4))),o 8 (.pick (.t 5) (.k (.bool true)) (.t 7)),o 9 (.mov (.t 8)),og 10 9 false (.mov (.t 0)),og 11 9 false (.bin .eql (.t 10) (.k (.int .i64 6))),o 12 (.pick (.t 9) (.k (.bool true)) (.t 11)),o 2 (.mov (.t 12))]) .ret))⟩
theorem ir_i_hasVal:compFn Tryz.prog n_i_hasVal=some F_i_hasVal:=by kernel_rfl
abbrev n_s_l05Plain:Nat:=279
def F_s_l05Plain:Fn1:=⟨45,[.t 8],(.seq (.reg [o 8 (.mov (.k (.bool false)))]) (.seq (.seq (.reg [o 9 (.mov (.t 0)),o 10 (.call 122 [(.t 9),(.k (.int .i64 1)),(.k (.int .i64 7))]),o 11 (.un .not (.t 10)),o 12 (.mov (.t 11)),og 13 12 false (.mov (.t 1)),og 14 12 false (.call 348 [(.t 13)]),og 15 12 false (.un .not (.t 14)),o 16 (.pick (.t 12) (.k (.bool true)) (.t 15)),o 17 (.mov (.t 16)),og 18 17 false (.mov (.t 0)),og 19 17 false (.call 332 [(.t 18)]),og 20 17 false (.mov (.t 19)),og 21 20 true (.mov (.t 2)),og 22 20 true (.call 348 [(.t 21)]),og 23 20 true (.un .not (.t 22)),og 24 17 false (.pick (.t 20) (.t 23) (.k (.bool false))),o 25 (.pick (.t 17) (.k (.bool true)) (.t 24)),o 26 (.mov (.t 25)),og 27 26 false (.mov (.t 0)),og 28 26 false (.call 332 [(.t 27)]),og 29 26 false (.un .not (.t 28)),og 30 26 false (.mov (.t 29)),og 31 30 true (.mov (.t 2)),og 32 30 true (.bin .neq (.t 31) (.k (.str ⟨#[]⟩))),og 33 26 false (.pick (.t 30) (.t 32) (.k (.bool false))),o 34 (.pick (.t 26) (.k (.bool true)) (.t 33))]) (.cnd (.t 34) (.seq (.reg [o 8 (.mov (.k (.bool false)))]) .ret) .skip)) (.seq (.reg [o 35 (.mov (.t 3)),o 36 (.bin .eql (.t 35) (.k (.int .i64 0))),o 37 (.mov (.t 36)),og 38 37 false (.mov (.t 0)),og 39 37 false (.call 333 [(.t 38)]),og 40 37 false (.mov (.t 39)),og 41 40 true (.mov (.t 3)),og 42 40 true (.call 122 [(.t 41),(.k (.int .i64 0)),(.k (.int .i64 999999))]),og 43 37 false (.pick (.t 40) (.t 42) (.k (.bool false))),o 44 (.pick (.t 37) (.k (.bool true)) (.t 43)),o 8 (.mov (.t 44))]) .ret)))⟩
theorem ir_s_l05Plain:compFn Tryz.prog n_s_l05Plain=some F_s_l05Plain:=by kernel_rfl
abbrev n_i_wordsOk:Nat:=273
def F_i_wordsOk:Fn1:=⟨46,[.t 8],(.seq (.reg [o 8 (.mov (.k (.bool false)))]) (.seq (.seq (.reg [o 10 (.mov (.t 0)),o 11 (.call 236 [(.t 10),(.k (.int .i64 1)),(.k (.int .i64 7))]),o 12 (.un .not (.t 11)),o 13 (.mov (.t 12)),og 14 13 false (.mov (.t 1)),og 15 13 false (.call 341 [(.t 14)]),og 16 13 false (.un .not (.t 15)),o 17 (.pick (.t 13) (.k (.bool true)) (.t 16))]) (.cnd (.t 17) (.seq (.reg [o 8 (.mov (.k (.bool false)))]) .ret) .skip)) (.seq (.reg [o 18 (.mov (.t 2)),o 19 (.bin .eql (.t 18) (.k (.str ⟨#[]⟩))),o 20 (.mov (.t 19)),og 21 20 true (.mov (.t 0)),og 22 20 true (.call 342 [(.t 21)]),og 23 20 true (.un .not (.t 22)),o 24 (.pick (.t 20) (.t 23) (.k (.bool false))),o 25 (.mov (.t 24)),og 26 25 false (.mov (.t 2)),og 27 25 false (.call 341 [(.t 26)]),og 28 25 false (.mov (.t 27)),og 29 28 true (.mov (.t 0)),og 30 28 true (.call 342 [(.t 29)]),og 31 25 false (.pick (.t 28) (.t 30) (.k (.bool false))),o 32 (.pick (.t 25) (.k (.bool true)) (.t 31)),o 9 (.mov (.t 32))]) (.seq (.reg [o 33 (.mov (.t 9)),o 34 (.mov (.t 33)),og 35 34 true (.mov (.t 3)),og 36 34 true (.bin .eql (.t 35) (.k (.int .i64 0))),og 37 34 true (.mov (.t 36)),og 38 37 false (.mov (.t 0)),og 39 37 false (.call 343 [(.t 38)]),og 40 37 false (.mov (.t 39)),og 41 40 true (.mov (.t 3)),og 42 40 true (.call 236 [(.t 41),(.k (.int .i64 0)),(.k (.int .i64 999999))]),og 43 37 false (.pick (.t 40) (.t 42) (.k (.bool false))),og 44 34 true (.pick (.t 37) (.k (.bool true)) (.t 43)),o 45 (.pick (.t 34) (.t 44) (.k (.bool false))),o 8 (.mov (.t 45))]) .ret))))⟩
theorem ir_i_wordsOk:compFn Tryz.prog n_i_wordsOk=some F_i_wordsOk:=by kernel_rfl
abbrev n_s_ActOk:Nat:=185
def F_s_ActOk:Fn1:=⟨71,[.t 2],(.seq (.reg [o 1 (.box (.t 0)),o 2 (.mov (.k (.bool false)))]) (.seq (.seq (.drw [o 3 (.fad 0 (.t 1)),o 4 (.ld true 2 (.t 3)),o 5 (.call 168 [(.t 4)]),o 6 (.un .not (.t 5)),o 7 (.mov (.t 6)),og 8 7 false (.fad 3 (.t 1)),og 9 7 false (.ld false 1 (.t 8)),og 10 7 false (.call 167 [(.t 9)]),og 11 7 false (.un .not (.t 10)),o 12 (.pick (.t 7) (.k (.bool true)) (.t 11)),o 13 (.mov (.t 12)),og 14 13 false (.fad 3 (.t 1)),og 15 13 false (.ld false 1 (.t 14)),og 16 13 false (.fad 0 (.t 1)),og 17 13 false (.fad 0 (.t 16)),og 18 13 false (.ld false 1 (.t 17)),og 19 13 false (.iad 1 (.t 15) (.t 18)),og 20 13 false (.ld false 1 (.t 19)),og 21 13 false (.fad 0 (.t 1)),og 22 13 false (.fad 1 (.t 21)),og 23 13 false (.ld false 1 (.t 22)),og 24 13 false (.bin .sub (.t 23) (.k (.int .i64 1))),og 25 13 false (.bin .neq (.t 20) (.t 24)),o 26 (.pick (.t 13) (.k (.bool true)) (.t 25)),o 27 (.mov (.t 26)),og 28 27 false (.fad 2 (.t 1)),og 29 27 false (.ld false 1 (.t 28)),og 30 27 false (.call 122 [(.t 29),(.k (.int .i64 1)),(.k (.int .i64 10000))]),og 31 27 false (.un .not (.t 30)),o 32 (.pick (.t 27) (.k (.bool true)) (.t 31)),o 33 (.mov (.t 32)),og 34 33 false (.fad 4 (.t 1)),og 35 33 false (.ld false 1 (.t 34)),og 36 33 false (.fad 5 (.t 1)),og 37 33 false (.ld false 1 (.t 36)),og 38 33 false (.fad 6 (.t 1)),og 39 33 false (.ld false 1 (.t 38)),og 40 33 false (.fad 7 (.t 1)),og 41 33 false (.ld false 1 (.t 40))] [og 42 33 false (.call 279 [(.t 35),(.t 37),(.t 39),(.t 41)]),og 43 33 false (.un .not (.t 42)),o 44 (.pick (.t 33) (.k (.bool true)) (.t 43))]) (.cnd (.t 44) (.seq (.reg [o 2 (.mov (.k (.bool false)))]) .ret) .skip)) (.seq (.seq (.reg [o 45 (.fad 4 (.t 1)),o 46 (.ld false 1 (.t 45))]) (.blk 0 (.seq (.reg [o 48 (.bin .eql (.t 46) (.k (.int .i64 7))),o 47 (.mov (.t 48))]) (.cnd (.t 47) (.seq (.reg [o 49 (.fad 3 (.t 1)),o 50 (.ld false 1 (.t 49)),o 51 (.fad 8 (.t 1)),o 52 (.ld true 2 (.t 51)),o 53 (.call 45 [(.t 50),(.t 52)]),o 2 (.mov (.t 53))]) .ret) (.seq (.reg [o 55 (.bin .eql (.t 46) (.k (.int .i64 6))),o 54 (.mov (.t 55))]) (.cnd (.t 54) (.seq (.reg [o 56 (.fad 8 (.t 1)),o 57 (.ld true 2 (.t 56)),o 58 (.build [(.int .i64 0),(.int .i64 0)] []),o 59 (.eqs false [.i .i64,.i .i64] (.t 57) (.t 58)),o 60 (.mov (.t 59)),og 61 60 false (.fad 3 (.t 1)),og 62 60 false (.ld false 1 (.t 61)),og 63 60 false (.fad 8 (.t 1)),og 64 60 false (.ld true 2 (.t 63)),og 65 60 false (.call 45 [(.t 62),(.t 64)]),o 66 (.pick (.t 60) (.k (.bool true)) (.t 65)),o 2 (.mov (.t 66))]) .ret) .skip)))))) (.seq (.reg [o 67 (.fad 8 (.t 1)),o 68 (.ld true 2 (.t 67)),o 69 (.build [(.int .i64 0),(.int .i64 0)] []),o 70 (.eqs false [.i .i64,.i .i64] (.t 68) (.t 69)),o 2 (.mov (.t 70))]) .ret))))⟩
theorem ir_s_ActOk:compFn Tryz.prog n_s_ActOk=some F_s_ActOk:=by kernel_rfl
abbrev n_i_ActOk:Nat:=169
def F_i_ActOk:Fn1:=⟨71,[.t 2],(.seq (.reg [o 1 (.box (.t 0)),o 2 (.mov (.k (.bool false)))]) (.seq (.seq (.drw [o 5 (.fad 0 (.t 1)),o 6 (.ld true 2 (.t 5)),o 7 (.call 272 [(.t 6)]),o 8 (.un .not (.t 7)),o 9 (.mov (.t 8)),og 10 9 false (.fad 3 (.t 1)),og 11 9 false (.ld false 1 (.t 10)),og 12 9 false (.call 176 [(.t 11)]),og 13 9 false (.un .not (.t 12)),o 14 (.pick (.t 9) (.k (.bool true)) (.t 13)),o 15 (.mov (.t 14)),og 16 15 false (.fad 3 (.t 1)),og 17 15 false (.ld false 1 (.t 16)),og 18 15 false (.fad 0 (.t 1)),og 19 15 false (.fad 0 (.t 18)),og 20 15 false (.ld false 1 (.t 19)),og 21 15 false (.iad 1 (.t 17) (.t 20)),og 22 15 false (.ld false 1 (.t 21)),og 23 15 false (.fad 0 (.t 1)),og 24 15 false (.fad 1 (.t 23)),og 25 15 false (.ld false 1 (.t 24))] [og 26 15 false (.bin .sub (.t 25) (.k (.int .i64 1))),og 27 15 false (.bin .neq (.t 22) (.t 26)),o 28 (.pick (.t 15) (.k (.bool true)) (.t 27)),o 29 (.mov (.t 28)),og 30 29 false (.fad 2 (.t 1)),og 31 29 false (.ld false 1 (.t 30)),og 32 29 false (.call 236 [(.t 31),(.k (.int .i64 1)),(.k (.int .i64 10000))]),og 33 29 false (.un .not (.t 32)),o 34 (.pick (.t 29) (.k (.bool true)) (.t 33))]) (.cnd (.t 34) (.seq (.reg [o 2 (.mov (.k (.bool false)))]) .ret) .skip)) (.seq (.reg [o 35 (.fad 8 (.t 1)),o 36 (.ld true 2 (.t 35)),o 37 (.build [(.int .i64 0),(.int .i64 0)] []),o 38 (.eqs false [.i .i64,.i .i64] (.t 36) (.t 37)),o 3 (.mov (.t 38))]) (.seq (.reg [o 39 (.mov (.t 3)),o 4 (.mov (.t 39))]) (.seq (.seq (.reg [o 40 (.fad 4 (.t 1)),o 41 (.ld false 1 (.t 40))]) (.blk 0 (.seq (.reg [o 43 (.bin .eql (.t 41) (.k (.int .i64 7))),o 42 (.mov (.t 43))]) (.cnd (.t 42) (.reg [o 44 (.fad 3 (.t 1)),o 45 (.ld false 1 (.t 44)),o 46 (.fad 8 (.t 1)),o 47 (.ld true 2 (.t 46)),o 48 (.call 170 [(.t 45),(.t 47)]),o 4 (.mov (.t 48))]) (.seq (.reg [o 50 (.bin .eql (.t 41) (.k (.int .i64 6))),o 49 (.mov (.t 50))]) (.cnd (.t 49) (.reg [o 51 (.mov (.t 3)),o 52 (.mov (.t 51)),og 53 52 false (.fad 3 (.t 1)),og 54 52 false (.ld false 1 (.t 53)),og 55 52 false (.fad 8 (.t 1)),og 56 52 false (.ld true 2 (.t 55)),og 57 52 false (.call 170 [(.t 54),(.t 56)]),o 58 (.pick (.t 52) (.k (.bool true)) (.t 57)),o 4 (.mov (.t 58))]) .skip)))))) (.seq (.reg [o 59 (.mov (.t 4)),o 60 (.mov (.t 59)),og 61 60 true (.fad 4 (.t 1)),og 62 60 true (.ld false 1 (.t 61)),og 63 60 true (.fad 5 (.t 1)),og 64 60 true (.ld false 1 (.t 63)),og 65 60 true (.fad 6 (.t 1)),og 66 60 true (.ld false 1 (.t 65)),og 67 60 true (.fad 7 (.t 1)),og 68 60 true (.ld false 1 (.t 67)),og 69 60 true (.call 273 [(.t 62),(.t 64),(.t 66),(.t 68)]),o 70 (.pick (.t 60) (.t 69) (.k (.bool false))),o 2 (.mov (.t 70))]) .ret))))))⟩
theorem ir_i_ActOk:compFn Tryz.prog n_i_ActOk=some F_i_ActOk:=by kernel_rfl
theorem by_bool {P:Program} {env:Env} {σ:St} {K:Kt} {r:List Op1} {d:Option Nat} {D:Bool} {f:Nat} {args:List GV} {b:Bool} (h:Ret P f args σ (.bool b) σ) (ht:b=true→vcOps D P r K (upo env d (.bool true)) σ) (hf:b=false→vcOps D P r K (upo env d (.bool false)) σ):bindC D f args P r K env d σ:=by
 cases b with
 |true=>exact by_ret h (ht rfl)
 |false=>exact by_ret h (hf rfl)
def inB (n a b:Int):Bool:=decide (a≤n)&&decide (n≤b)
theorem inB_iff {n a b:Int}:inB n a b=true↔a≤n∧n≤b:=by simp[inB]
theorem s_l01In_ret (σ:St) (n a b:Int):Ret Tryz.prog n_s_l01In [gi n,gi a,gi b] σ (.bool (inB n a b)) σ:=by
 refine ret_eq ir_s_l01In (Nat.le_of_ble_eq_true rfl) trivial ?_
 simp +contextual (disch:=omega) only[go_sem,F_s_l01In,inB]
theorem i_within_ret (σ:St) (n a b:Int):Ret Tryz.prog n_i_within [gi n,gi a,gi b] σ (.bool (inB n a b)) σ:=by
 refine ret_eq ir_i_within (Nat.le_of_ble_eq_true rfl) trivial ?_
 simp +contextual (disch:=omega) only[go_sem,F_i_within,inB]
def bl (s:ByteArray):List UInt8:=s.data.toList
theorem bl_length (s:ByteArray):(bl s).length=s.size:=by
 unfold bl;rw[Array.length_toList];rfl
theorem idx_at {s:ByteArray} {i:Nat} (hi:i<(bl s).length):idxG (.str s) (some i)=some (.int .u8 (((bl s)[i].toNat:Nat):Int)):=by
 have h2:i<s.size:=by rw[← bl_length];exact hi
 have e:s[i]? =some (bl s)[i]:=by
  rw[getElem?_pos s i h2];rfl
 simp only[idxG,e,Option.map_some];rfl
theorem u8_lt (b:UInt8):b.toNat<256:=b.toNat_lt
def lowB (b:UInt8):Bool:=inB (b.toNat:Int) 97 122
def nameOk (s:ByteArray):Bool:=(bl s).all lowB&&inB s.size 1 8
theorem s_NameOk_ret (σ:St) (s:ByteArray) (hs:s.size≤1099511627776):Ret Tryz.prog n_s_NameOk [.str s] σ (.bool (nameOk s)) σ:=by
 refine ret_eq ir_s_NameOk (Nat.le_of_ble_eq_true rfl) trivial ?_
 simp +contextual (disch:=omega) only[go_sem,F_s_NameOk]
 refine vc_for (bl s).length 3 (fun i env τ=>env 0= .str s∧((bl s).take i).all lowB=true∧σ <+: τ) rfl ⟨rfl,rfl,List.prefix_refl _⟩ ?_ ?_
 ·rintro i env τ hi e3 c0 ⟨e0,ha,hp⟩
  have hl:=bl_length s
  rw[hl] at c0
  have hf:=fun h=>all_false_at (p:=lowB) hi h
  have ht:=take_all_succ hi ha
  simp +contextual (disch:=omega) only[go_sem,c0,e0,e3,idx_at hi,hp]
  simp only[lowB,inB,nameOk] at*
  generalize(((bl s)[i].toNat:Nat):Int)=b at*
  grind
 ·rintro env τ e3 c0 ⟨e0,ha,hp⟩
  rw[List.take_length] at ha
  rw[bl_length] at c0 e3
  simp +contextual (disch:=omega) only[go_sem,c0,e0,e3]
  refine by_ret (s_l01In_ret τ _ _ _) ?_
  simp +contextual (disch:=omega) only[go_sem,nameOk,ha,hp]
theorem i_NameOk_ret (σ:St) (s:ByteArray) (hs:s.size≤1099511627776):Ret Tryz.prog n_i_NameOk [.str s] σ (.bool (nameOk s)) σ:=by
 refine ret_eq ir_i_NameOk (Nat.le_of_ble_eq_true rfl) trivial ?_
 simp +contextual (disch:=omega) only[go_sem,F_i_NameOk]
 refine vc_for (bl s).length 3 (fun i env τ=>env 0= .str s∧((bl s).take i).all lowB=true∧σ <+: τ) rfl ⟨rfl,rfl,List.prefix_refl _⟩ ?_ ?_
 ·rintro i env τ hi e3 c0 ⟨e0,ha,hp⟩
  have hl:=bl_length s
  rw[hl] at c0
  have hf:=fun h=>all_false_at (p:=lowB) hi h
  have ht:=take_all_succ hi ha
  have h8:=u8_lt (bl s)[i]
  simp +contextual (disch:=omega) only[go_sem,c0,e0,e3,idx_at hi,cvi_int]
  refine by_bool (i_within_ret τ _ _ _) (fun h=> ?_) (fun h=> ?_)
  ·simp +contextual (disch:=omega) only[go_sem,e0,e3,hp]
   exact ht h
  ·simp +contextual (disch:=omega) only[go_sem,e0,e3,hp]
   simp[nameOk,hf h]
 ·rintro env τ e3 c0 ⟨e0,ha,hp⟩
  rw[List.take_length] at ha
  rw[bl_length] at c0 e3
  simp +contextual (disch:=omega) only[go_sem,c0,e0,e3]
  refine by_ret (i_within_ret τ _ _ _) ?_
  simp +contextual (disch:=omega) only[go_sem,nameOk,ha,hp]
def seqB (n:Int):Bool:=inB n 0 1000
def okK (l:List Int):Bool:=l.all seqB&&decide (l.length=3)
theorem okK_len {l:List Int} (h:okK l=true):l.length=3:=by
 simp only[okK,Bool.and_eq_true,decide_eq_true_eq] at h
 exact h.2
theorem s_KnowOk_ret (σ:St) (v:GV) (l:List Int) (h:RS pI.kd σ v l) (hl:l.length≤1099511627776):Ret Tryz.prog n_s_KnowOk [v] σ (.bool (okK l)) σ:=by
 refine ret_eq ir_s_KnowOk (Nat.le_of_ble_eq_true rfl) trivial ?_
 simp +contextual (disch:=omega) only[go_sem,F_s_KnowOk]
 refine vc_for l.length 3 (fun i env τ=>env 0=v∧(l.take i).all seqB=true∧σ <+: τ) rfl ⟨rfl,rfl,List.prefix_refl _⟩ ?_ ?_
 ·rintro i env τ hi e3 c0 ⟨e0,ha,hp⟩
  have hf:=fun h=>all_false_at (p:=seqB) hi h
  have ht:=take_all_succ hi ha
  simp +contextual (disch:=omega) only[go_sem,c0,e0,e3,h.len,int_at (h.pre hp) hi]
  refine by_bool (s_l01In_ret τ _ _ _) (fun h=> ?_) (fun h=> ?_)
  ·simp +contextual (disch:=omega) only[go_sem,e0,e3,hp]
   exact ht h
  ·simp +contextual (disch:=omega) only[go_sem,e0,e3,hp]
   simp[okK,hf h]
 ·rintro env τ e3 c0 ⟨e0,ha,hp⟩
  rw[List.take_length] at ha
  simp +contextual (disch:=omega) only[go_sem,c0,e0,e3,h.len,hp,okK,ha]
  exact len_beq
theorem i_KnowOk_ret (σ:St) (v:GV) (l:List Int) (h:RS pI.kd σ v l) (hl:l.length≤1099511627776):Ret Tryz.prog n_i_KnowOk [v] σ (.bool (okK l)) σ:=by
 refine ret_eq ir_i_KnowOk (Nat.le_of_ble_eq_true rfl) trivial ?_
 simp +contextual (disch:=omega) only[go_sem,F_i_KnowOk,h.len]
 refine vc_for l.length 7 (fun i env τ=>env 0=v∧env 5=v∧env 6=gi l.length∧(l.take i).all seqB=true∧σ <+: τ) rfl ⟨rfl,rfl,rfl,rfl,List.prefix_refl _⟩ ?_ ?_
 ·rintro i env τ hi e7 c0 ⟨e0,e5,e6,ha,hp⟩
  have hf:=fun h=>all_false_at (p:=seqB) hi h
  have ht:=take_all_succ hi ha
  simp +contextual (disch:=omega) only[go_sem,c0,e0,e5,e6,e7,h.len,int_at (h.pre hp) hi]
  refine by_bool (i_within_ret τ _ _ _) (fun h=> ?_) (fun h=> ?_)
  ·simp +contextual (disch:=omega) only[go_sem,e0,e5,e6,e7,hp]
   exact ht h
  ·simp +contextual (disch:=omega) only[go_sem,e0,e5,e6,e7,hp]
   simp[okK,hf h]
 ·rintro env τ e7 c0 ⟨e0,e5,e6,ha,hp⟩
  rw[List.take_length] at ha
  simp +contextual (disch:=omega) only[go_sem,c0,e0,e5,e6,e7,h.len,hp,okK,ha]
  exact len_beq
def dotOk (d:Dot):Bool:=inB d.rep 0 2&&inB d.seq 1 1000
theorem dotOk_iff {d:Dot}:dotOk d=true↔(0≤d.rep∧d.rep≤2)∧1≤d.seq∧d.seq≤1000:=by simp[dotOk,inB_iff]
theorem s_DotOk_ret (σ:St) (d:Dot):Ret Tryz.prog n_s_DotOk [.agg [gi d.rep,gi d.seq]] σ (.bool (dotOk d)) σ:=by
 refine ret_eq ir_s_DotOk (Nat.le_of_ble_eq_true rfl) trivial ?_
 simp +contextual (disch:=omega) only[go_sem,F_s_DotOk]
 refine by_bool (s_l01In_ret _ _ _ _) (fun h=> ?_) (fun h=> ?_)
 ·simp +contextual (disch:=omega) only[go_sem]
  refine by_ret (s_l01In_ret _ _ _ _) ?_
  simp +contextual (disch:=omega) only[go_sem,dotOk,h]
 ·simp +contextual (disch:=omega) only[go_sem,dotOk,h]
theorem i_DotOk_ret (σ:St) (d:Dot):Ret Tryz.prog n_i_DotOk [.agg [gi d.rep,gi d.seq]] σ (.bool (dotOk d)) σ:=by
 refine ret_eq ir_i_DotOk (Nat.le_of_ble_eq_true rfl) trivial ?_
 simp +contextual (disch:=omega) only[go_sem,F_i_DotOk]
 refine by_bool (i_within_ret _ _ _ _) (fun h=> ?_) (fun h=> ?_)
 ·simp +contextual (disch:=omega) only[go_sem]
  refine by_ret (i_within_ret _ _ _ _) ?_
  simp +contextual (disch:=omega) only[go_sem,dotOk,h]
 ·simp +contextual (disch:=omega) only[go_sem,dotOk,h]
def at0 (l:List Int) (r:Int):Int:=l.getD r.toNat 0
def knows (k:List Int) (d:Dot):Bool:=okK k&&dotOk d&&decide (d.seq≤at0 k d.rep)
theorem natOf_pos {k:IntKind} {n:Int} (h:0≤n):natOf (some (.int k n))=some n.toNat:=by simp[natOf,h]
theorem rep_at {σ:St} {v:GV} {l:List Int} {r:Int} (h:RS pI.kd σ v l) (hk:okK l=true) (h0:0≤r) (h2:r≤2):(natOf (some (gi r))=some r.toNat∧iadG 1 v (some r.toNat)=some (atz 1 v r.toNat))∧ldG false 1 σ (atz 1 v r.toNat)=some (gi (at0 l r)):=by
 have hl:=okK_len hk
 have hi:r.toNat<l.length:=by omega
 have e:=int_at h hi
 refine⟨⟨natOf_pos h0,e.1⟩,?_⟩
 rw[e.2,at0,List.getD_eq_getElem?_getD,List.getElem?_eq_getElem hi];rfl
theorem s_Knows_ret (σ:St) (v:GV) (k:List Int) (d:Dot) (h:RS pI.kd σ v k) (hl:k.length≤1099511627776):Ret Tryz.prog n_s_Knows [v,.agg [gi d.rep,gi d.seq]] σ (.bool (knows k d)) σ:=by
 refine ret_eq ir_s_Knows (Nat.le_of_ble_eq_true rfl) trivial ?_
 simp +contextual (disch:=omega) only[go_sem,F_s_Knows]
 have h1:=h.pre (pre1 σ (some (Blk.row 1 [gi d.rep,gi d.seq])))
 refine by_bool (s_KnowOk_ret _ v k h1 hl) (fun hk=> ?_) (fun hk=> ?_)
 ·simp +contextual (disch:=omega) only[go_sem]
  refine by_bool (s_DotOk_ret _ d) (fun hd=> ?_) (fun hd=> ?_)
  ·have hd':=dotOk_iff.1 hd
   have hr:=rep_at h1 hk hd'.1.1 hd'.1.2
   simp +contextual (disch:=omega) only[go_sem,hr,knows,hk,hd]
  ·simp +contextual (disch:=omega) only[go_sem,knows,hk,hd]
 ·simp +contextual (disch:=omega) only[go_sem,knows,hk]
theorem i_Knows_ret (σ:St) (v:GV) (k:List Int) (d:Dot) (h:RS pI.kd σ v k) (hl:k.length≤1099511627776):Ret Tryz.prog n_i_Knows [v,.agg [gi d.rep,gi d.seq]] σ (.bool (knows k d)) σ:=by
 refine ret_eq ir_i_Knows (Nat.le_of_ble_eq_true rfl) trivial ?_
 simp +contextual (disch:=omega) only[go_sem,F_i_Knows]
 have h1:=h.pre (pre1 σ (some (Blk.row 1 [gi d.rep,gi d.seq])))
 refine by_bool (i_KnowOk_ret _ v k h1 hl) (fun hk=> ?_) (fun hk=> ?_)
 ·simp +contextual (disch:=omega) only[go_sem]
  refine by_bool (i_DotOk_ret _ d) (fun hd=> ?_) (fun hd=> ?_)
  ·have hd':=dotOk_iff.1 hd
   have hr:=rep_at h1 hk hd'.1.1 hd'.1.2
   simp +contextual (disch:=omega) only[go_sem,hr,knows,hk,hd]
  ·simp +contextual (disch:=omega) only[go_sem,knows,hk,hd]
 ·simp +contextual (disch:=omega) only[go_sem,knows,hk]
end Go.Proofs.YtbeoiejnogdkpaaGreat.Sy
namespace Go.Proofs.YtbeoiejnogdkpaaGreat.Sy
open Go Go.RowKit
set_option linter.unusedSimpArgs false
set_option linter.unusedVariables false
theorem bytesLess_lt:∀(x y:List UInt8),Op.bytesLess x y=decide (x<y)
 |_,[]=>by simp[Op.bytesLess]
 |[],_::_=>by simp[Op.bytesLess]
 |a::x,b::y=>by
  rw[Op.bytesLess,bytesLess_lt x y,Bool.eq_iff_iff]
  simp only[Bool.or_eq_true,decide_eq_true_eq,Bool.and_eq_true,beq_iff_eq,List.cons_lt_cons_iff]
def txLt (a b:ByteArray):Bool:=Op.bytesLess a.toList b.toList
theorem toList_inj {a b:ByteArray} (h:a.toList=b.toList):a=b:=by
 have:=toList_beq (a:=a) (b:=b)
 rw[h] at this
 simpa using this.symm
theorem txLt_irr (a:ByteArray):txLt a a=false:=by
 rw[txLt,bytesLess_lt];simp
theorem txLt_trans {a b c:ByteArray} (h1:txLt a b=true) (h2:txLt b c=true):txLt a c=true:=by
 rw[txLt,bytesLess_lt,decide_eq_true_eq] at*
 exact List.lt_trans h1 h2
theorem txLt_asym {a b:ByteArray} (h1:txLt a b=true):txLt b a=false:=by
 cases h:txLt b a with
 |false=>rfl
 |true=>have:=txLt_trans h1 h;rw[txLt_irr] at this;cases this
theorem txLt_tri {a b:ByteArray} (h1:txLt a b=false) (h2:txLt b a=false):a=b:=by
 rw[txLt,bytesLess_lt,decide_eq_false_iff_not] at*
 exact toList_inj (List.le_antisymm (List.not_lt.1 h2) (List.not_lt.1 h1))
@[go_sem] theorem bin_slss {a b:ByteArray}:binG .lss (.str a) (.str b)=some (.bool (txLt a b)):=(rfl)
@[go_sem] theorem bin_sgtr {a b:ByteArray}:binG .gtr (.str a) (.str b)=some (.bool (txLt b a)):=by
 have:(!(txLt a b||decide (a=b)))=txLt b a:=by
  by_cases h:a=b
  ·subst h;simp[txLt_irr]
  ·cases h1:txLt a b with
   |true=>rw[txLt_asym h1];simp
   |false=>
    cases h2:txLt b a with
    |true=>simp[h]
    |false=>exact absurd (txLt_tri h1 h2) h
 simp only[binG,strG,toList_beq]
 exact congrArg (fun b=>some (GV.bool b)) this
@[go_sem] theorem bin_sgeq {a b:ByteArray}:binG .geq (.str a) (.str b)=some (.bool (!txLt a b)):=(rfl)
@[go_sem] theorem bin_sleq {a b:ByteArray}:binG .leq (.str a) (.str b)=some (.bool (!txLt b a)):=by
 have:(txLt a b||decide (a=b))= !txLt b a:=by
  by_cases h:a=b
  ·subst h;simp[txLt_irr]
  ·cases h1:txLt a b with
   |true=>rw[txLt_asym h1];simp
   |false=>
    cases h2:txLt b a with
    |true=>simp[h]
    |false=>exact absurd (txLt_tri h1 h2) h
 simp only[binG,strG,toList_beq]
 exact congrArg (fun b=>some (GV.bool b)) this
def cmpI (a b:Int):Int:=if a<b then -1 else if b<a then 1 else 0
def cmpS (a b:ByteArray):Int:=if txLt a b then -1 else if txLt b a then 1 else 0
def orI (a b:Int):Int:=if a=0 then b else a
def cmpDot (a b:Dot):Int:=orI (cmpI a.rep b.rep) (cmpI a.seq b.seq)
def cmpTally (a b:Tally):Int:=orI (cmpS a.obj b.obj) (cmpI a.rep b.rep)
def dotLt (a b:Dot):Bool:=decide (a.rep<b.rep)||decide (a.rep=b.rep)&&decide (a.seq<b.seq)
def tallyLt (a b:Tally):Bool:=txLt a.obj b.obj||decide (a.obj=b.obj)&&decide (a.rep<b.rep)
theorem cmpDot_lt {a b:Dot}:decide (cmpDot a b<0)=dotLt a b:=by
 unfold cmpDot dotLt orI cmpI
 rw[Bool.eq_iff_iff]
 simp only[decide_eq_true_eq,Bool.or_eq_true,Bool.and_eq_true]
 repeat' split
 all_goals omega
theorem cmpDot_ge {a b:Dot}:decide (0≤cmpDot a b)= !dotLt a b:=by
 rw[← cmpDot_lt,Bool.eq_iff_iff];simp
theorem cmpI_eq {a b:Int}:cmpI a b=0↔a=b:=by
 unfold cmpI
 rcases Int.lt_trichotomy a b with h|h|h
 ·rw[if_pos h];omega
 ·subst h;simp
 ·rw[if_neg (by omega),if_pos h];omega
theorem cmpI_neg {a b:Int}:cmpI a b<0↔a<b:=by
 unfold cmpI
 rcases Int.lt_trichotomy a b with h|h|h
 ·rw[if_pos h];omega
 ·subst h;simp
 ·rw[if_neg (by omega),if_pos h];omega
theorem cmpS_neg {a b:ByteArray}:cmpS a b<0↔txLt a b=true:=by
 unfold cmpS
 cases h1:txLt a b with
 |true=>simp
 |false=>
  cases h2:txLt b a with
  |true=>simp
  |false=>simp
theorem cmpS_eq {a b:ByteArray}:cmpS a b=0↔a=b:=by
 unfold cmpS
 cases h1:txLt a b with
 |true=>
  have h3:a≠b:=fun e=>by rw[e,txLt_irr] at h1;cases h1
  simp[h3]
 |false=>
  cases h2:txLt b a with
  |true=>
   have h3:a≠b:=fun e=>by rw[e,txLt_irr] at h2;cases h2
   simp[h3]
  |false=>simp[txLt_tri h1 h2]
theorem cmpTally_lt {a b:Tally}:decide (cmpTally a b<0)=tallyLt a b:=by
 unfold cmpTally tallyLt orI
 rw[Bool.eq_iff_iff]
 simp only[decide_eq_true_eq,Bool.or_eq_true,Bool.and_eq_true]
 by_cases h:a.obj=b.obj
 ·rw[if_pos (cmpS_eq.2 h),cmpI_neg,h,txLt_irr];simp
 ·rw[if_neg (fun e=>h (cmpS_eq.1 e)),cmpS_neg];simp[h]
theorem cmpTally_ge {a b:Tally}:decide (0≤cmpTally a b)= !tallyLt a b:=by
 rw[← cmpTally_lt,Bool.eq_iff_iff];simp
def allR (n:Nat) (p:Nat→Bool):Bool:=(List.range n).all p
theorem allR_iff {n:Nat} {p:Nat→Bool}:allR n p=true↔∀ i,i<n→p i=true:=by simp[allR]
theorem allR_no {n i:Nat} {p:Nat→Bool} (hi:i<n) (h:p i=false):allR n p=false:=by
 cases e:allR n p with
 |false=>rfl
 |true=>rw[allR_iff.1 e i hi] at h;cases h
theorem allR_yes {n:Nat} {p:Nat→Bool} (h:∀ i,i<n→p i=true):allR n p=true:=allR_iff.2 h
theorem lt_snoc {i:Nat} {p:Nat→Bool} (h:∀ j,j<i→p j=true) (hi:p i=true):∀ j,j<i+1→p j=true:=fun j hj=>by
 rcases Nat.lt_or_ge j i with h1|h1
 ·exact h j h1
 ·have:j=i:=by omega
  subst this;exact hi
def onI {α:Type} (l:List α) (i:Nat) (p:α→Bool):Bool:=match l[i]? with
 |some x=>p x
 |none=>true
theorem onI_at {α:Type} {l:List α} {i:Nat} {p:α→Bool} (hi:i<l.length):onI l i p=p l[i]:=by
 simp only[onI,List.getElem?_eq_getElem hi]
def upI {α:Type} (lt:α→α→Bool) (l:List α):Nat→Bool
 |0=>true
 |i+1=>onI l i fun a=>onI l (i+1) fun b=>lt a b
theorem upI_at {α:Type} {lt:α→α→Bool} {l:List α} {i:Nat} (h0:i≠0) (hi:i<l.length) (hj:i - 1<l.length):upI lt l i=lt l[i - 1] l[i]:=by
 cases i with
 |zero=>exact absurd rfl h0
 |succ i=>
  simp only[upI,Nat.add_sub_cancel]
  rw[onI_at (by omega),onI_at hi]
end Go.Proofs.YtbeoiejnogdkpaaGreat.Sy
namespace Go.Proofs.YtbeoiejnogdkpaaGreat.Sy
open Go Go.RowKit
set_option linter.unusedSimpArgs false
set_option linter.unusedVariables false
def tal1 (t:Tally):Bool:=nameOk t.obj&&(inB t.rep 0 2&&inB t.sum 0 999999)
def talP (l:List Tally) (i:Nat):Bool:=onI l i tal1&&upI tallyLt l i
def talsOk (l:List Tally):Bool:=allR l.length (talP l)&&decide (l.length≤120)
def liv1 (x:Live):Bool:=nameOk x.obj&&(nameOk x.key&&(inB x.val 0 999999&&(x.map||decide (x.val=0))))
def liveLt (a b:Live):Bool:=dotLt a.dot b.dot
def livP (l:List Live) (k:List Int) (i:Nat):Bool:=(onI l i fun x=>knows k x.dot)&&((onI l i liv1)&&upI liveLt l i)
def livsOk (l:List Live) (k:List Int):Bool:=allR l.length (livP l k)&&decide (l.length≤120)
def livSP (l:List Live) (i:Nat):Bool:=(onI l i fun x=>dotOk x.dot)&&((onI l i liv1)&&upI liveLt l i)
def livsS (l:List Live):Bool:=allR l.length (livSP l)&&decide (l.length≤120)
def cel1 (x:Cell):Bool:=nameOk x.obj&&(inB x.val 0 999999&&inB x.time 1 10000)
def cellLt (a b:Cell):Bool:=dotLt a.dot b.dot
def celP (l:List Cell) (k:List Int) (i:Nat):Bool:=(onI l i fun x=>knows k x.dot)&&((onI l i cel1)&&upI cellLt l i)
def celsOk (l:List Cell) (k:List Int):Bool:=allR l.length (celP l k)&&decide (l.length≤120)
def refD (x:Cell):Bool:=decide (x.ref=⟨0,0⟩)||dotOk x.ref
def celSP (l:List Cell) (i:Nat):Bool:=(onI l i fun x=>dotOk x.dot)&&((onI l i cel1)&&((onI l i refD)&&upI cellLt l i))
def celsS (l:List Cell):Bool:=allR l.length (celSP l)&&decide (l.length≤120)
def cellIx (l:List Cell) (d:Dot):Option Nat:=l.findIdx? fun c=>decide (c.dot=d)
def ref1 (l:List Cell) (c:Cell):Bool:=decide (c.ref=⟨0,0⟩)||match cellIx l c.ref with
 |none=>false
 |some k=>onI l k fun y=>decide (y.obj=c.obj)&&decide (y.time<c.time)
def refsOk (l:List Cell):Bool:=l.all (ref1 l)
def stateOk (s:State):Bool:=okK s.know&&(talsOk s.tallies&&(livsOk s.lives s.know&&(celsOk s.cells s.know&&refsOk s.cells)))
def livK (k:List Int) (x:Live):Bool:=knows k x.dot
def celK (l:List Cell) (k:List Int) (x:Cell):Bool:=knows k x.dot&&ref1 l x
def stateOkS (s:State):Bool:=okK s.know&&(talsOk s.tallies&&(livsS s.lives&&(celsS s.cells&&(s.lives.all (livK s.know)&&s.cells.all (celK s.cells s.know)))))
theorem knows_dot {k:List Int} {d:Dot} (h:knows k d=true):dotOk d=true:=by
 simp only[knows,Bool.and_eq_true] at h;exact h.1.2
def plc:Nat→List Cell→List (Dot×Int)
 |_,[]=>[]
 |n,c::l=>(c.dot,(n:Int))::plc (n+1) l
def cellNo (l:List Cell) (d:Dot):Int:=match cellIx l d with
 |some k=>k
 |none=> -1
end Go.Proofs.YtbeoiejnogdkpaaGreat.Sy
namespace Go.Proofs.YtbeoiejnogdkpaaGreat.Sy
open Go Go.RowKit
set_option linter.unusedSimpArgs false
set_option linter.unusedVariables false
def crs (c v:GV) (n:Nat):Thg:=⟨fun σ fp=>∃ g i h,c= .ptr g 0∧fp=[g]∧i≤n∧bk σ g=some (.row 1 [v,gi (i:Nat),gi h]),fun⟨g,i,h,h1,h2,h3,h4⟩ hf=>⟨g,i,h,h1,h2,h3,by rw[hf g (by rw[h2];exact List.mem_cons_self)];exact h4⟩⟩
theorem bk_set {σ:St} {g z:Nat} {cs cs':List GV} (hB:bk σ g=some (.row z cs)):bk (σ.set g (some (.row z cs'))) g=some (.row z cs'):=bk_some.2 (by rw[List.getElem?_set_self (bk_lt hB)])
@[go_sem] theorem bit_tup2 {l:List GV}:(GV.tup l).bit=none:=(rfl)
theorem Hp.crs {σ τ:St} {rs:List Thg} (H:Hp σ τ rs) {k:Nat} {c v:GV} {n:Nat} (hk:rs[k]? =some (crs c v n)):∃(g i:Nat) (h:Int),c= .ptr g 0∧i≤n∧bk τ g=some (.row 1 [v,gi i,gi h])∧∀(i':Nat) (h':Int),i'≤n→Hp σ (τ.set g (some (.row 1 [v,gi i',gi h']))) rs:=by
 obtain⟨a,⟨g,i,h,rfl,rfl,hi,hB⟩,hnd,hbd,ht⟩:=(H.pick k hk).turn
 refine⟨g,i,h,rfl,hi,hB,fun i' h' hi'=> ?_⟩
 have:=Hp.unpick (i:=k) (ht (τ':=τ.set g (some (.row 1 [v,gi i',gi h']))) (r':=Sy.crs (.ptr g 0) v n) (a':=[g]) ⟨by simp,fun g' h=>.inl h,by simp,fun g' h h'=>bk_set_ne fun e=>h' (by rw[e];exact List.mem_cons_self)⟩ ⟨g,i',h',rfl,rfl,hi',bk_set hB⟩) (List.getElem?_eq_some_iff.1 hk).1
 obtain⟨h1,h2⟩:=List.getElem?_eq_some_iff.1 hk
 rw[← h2,List.set_getElem_self] at this
 exact this
end Go.Proofs.YtbeoiejnogdkpaaGreat.Sy
namespace Go.Proofs.YtbeoiejnogdkpaaGreat.Sy
open Go Go.RowKit
set_option linter.unusedSimpArgs false
set_option linter.unusedVariables false
abbrev n_cmp_isNaN_int:Nat:=230
def F_cmp_isNaN_int:Fn1:=⟨6,[.t 2],(.seq (.reg [o 2 (.mov (.k (.bool false)))]) (.seq (.reg [o 3 (.mov (.t 0)),o 4 (.mov (.t 0)),o 5 (.bin .neq (.t 3) (.t 4)),o 2 (.mov (.t 5))]) .ret))⟩
theorem ir_cmp_isNaN_int:compFn Tryz.prog n_cmp_isNaN_int=some F_cmp_isNaN_int:=by kernel_rfl
abbrev n_cmp_isNaN_string:Nat:=392
def F_cmp_isNaN_string:Fn1:=⟨6,[.t 2],(.seq (.reg [o 2 (.mov (.k (.bool false)))]) (.seq (.reg [o 3 (.mov (.t 0)),o 4 (.mov (.t 0)),o 5 (.bin .neq (.t 3) (.t 4)),o 2 (.mov (.t 5))]) .ret))⟩
theorem ir_cmp_isNaN_string:compFn Tryz.prog n_cmp_isNaN_string=some F_cmp_isNaN_string:=by kernel_rfl
abbrev n_cmp_Compare_int:Nat:=106
def F_cmp_Compare_int:Fn1:=⟨20,[.t 4],(.seq (.reg [o 4 (.mov (.k (.int .i64 0)))]) (.seq (.reg [o 7 (.mov (.t 0)),o 8 (.call 230 [(.t 7)]),o 5 (.mov (.t 8))]) (.seq (.reg [o 9 (.mov (.t 1)),o 10 (.call 230 [(.t 9)]),o 6 (.mov (.t 10))]) (.seq (.seq (.reg [o 11 (.mov (.t 5))]) (.cnd (.t 11) (.seq (.seq (.reg [o 12 (.mov (.t 6))]) (.cnd (.t 12) (.seq (.reg [o 4 (.mov (.k (.int .i64 0)))]) .ret) .skip)) (.seq (.reg [o 4 (.mov (.k (.int .i64 (-1))))]) .ret)) .skip)) (.seq (.seq (.reg [o 13 (.mov (.t 6))]) (.cnd (.t 13) (.seq (.reg [o 4 (.mov (.k (.int .i64 1)))]) .ret) .skip)) (.seq (.seq (.reg [o 14 (.mov (.t 0)),o 15 (.mov (.t 1)),o 16 (.bin .lss (.t 14) (.t 15))]) (.cnd (.t 16) (.seq (.reg [o 4 (.mov (.k (.int .i64 (-1))))]) .ret) .skip)) (.seq (.seq (.reg [o 17 (.mov (.t 0)),o 18 (.mov (.t 1)),o 19 (.bin .gtr (.t 17) (.t 18))]) (.cnd (.t 19) (.seq (.reg [o 4 (.mov (.k (.int .i64 1)))]) .ret) .skip)) (.seq (.reg [o 4 (.mov (.k (.int .i64 0)))]) .ret))))))))⟩
theorem ir_cmp_Compare_int:compFn Tryz.prog n_cmp_Compare_int=some F_cmp_Compare_int:=by kernel_rfl
abbrev n_cmp_Compare_string:Nat:=376
def F_cmp_Compare_string:Fn1:=⟨20,[.t 4],(.seq (.reg [o 4 (.mov (.k (.int .i64 0)))]) (.seq (.reg [o 7 (.mov (.t 0)),o 8 (.call 392 [(.t 7)]),o 5 (.mov (.t 8))]) (.seq (.reg [o 9 (.mov (.t 1)),o 10 (.call 392 [(.t 9)]),o 6 (.mov (.t 10))]) (.seq (.seq (.reg [o 11 (.mov (.t 5))]) (.cnd (.t 11) (.seq (.seq (.reg [o 12 (.mov (.t 6))]) (.cnd (.t 12) (.seq (.reg [o 4 (.mov (.k (.int .i64 0)))]) .ret) .skip)) (.seq (.reg [o 4 (.mov (.k (.int .i64 (-1))))]) .ret)) .skip)) (.seq (.seq (.reg [o 13 (.mov (.t 6))]) (.cnd (.t 13) (.seq (.reg [o 4 (.mov (.k (.int .i64 1)))]) .ret) .skip)) (.seq (.seq (.reg [o 14 (.mov (.t 0)),o 15 (.mov (.t 1)),o 16 (.bin .lss (.t 14) (.t 15))]) (.cnd (.t 16) (.seq (.reg [o 4 (.mov (.k (.int .i64 (-1))))]) .ret) .skip)) (.seq (.seq (.reg [o 17 (.mov (.t 0)),o 18 (.mov (.t 1)),o 19 (.bin .gtr (.t 17) (.t 18))]) (.cnd (.t 19) (.seq (.reg [o 4 (.mov (.k (.int .i64 1)))]) .ret) .skip)) (.seq (.reg [o 4 (.mov (.k (.int .i64 0)))]) .ret))))))))⟩
theorem ir_cmp_Compare_string:compFn Tryz.prog n_cmp_Compare_string=some F_cmp_Compare_string:=by kernel_rfl
abbrev n_cmp_Or_int:Nat:=105
def F_cmp_Or_int:Fn1:=⟨18,[.t 2],(.seq (.reg [o 2 (.mov (.k (.int .i64 0)))]) (.seq (.reg [o 3 (.mov (.k (.int .i64 0)))]) (.seq (.seq (.reg [o 6 (.mov (.t 0)),o 7 (.len false (.t 6)),o 8 (.mov (.k (.int .i64 0)))]) (.blk 0 (.lop (.seq (.reg [o 9 (.bin .lss (.t 8) (.t 7))]) (.seq (.cnd (.t 9) .skip (.ext 0)) (.seq (.blk 1 (.seq (.reg [o 10 (.iad 1 (.t 6) (.t 8)),o 11 (.ld false 1 (.t 10)),o 5 (.mov (.t 11))]) (.seq (.reg [o 12 (.mov (.t 5)),o 13 (.mov (.t 3)),o 14 (.bin .neq (.t 12) (.t 13))]) (.cnd (.t 14) (.seq (.reg [o 15 (.mov (.t 5)),o 2 (.mov (.t 15))]) .ret) .skip)))) (.reg [o 16 (.bin .add (.t 8) (.k (.int .i64 1))),o 8 (.mov (.t 16))]))))))) (.seq (.reg [o 17 (.mov (.t 3)),o 2 (.mov (.t 17))]) .ret))))⟩
theorem ir_cmp_Or_int:compFn Tryz.prog n_cmp_Or_int=some F_cmp_Or_int:=by kernel_rfl
abbrev n_i_compareDots:Nat:=306
def F_i_compareDots:Fn1:=⟨17,[.t 4],(.seq (.reg [o 2 (.box (.t 0)),o 3 (.box (.t 1)),o 4 (.mov (.k (.int .i64 0)))]) (.seq (.drw [o 5 (.fad 0 (.t 2)),o 6 (.ld false 1 (.t 5)),o 7 (.fad 0 (.t 3)),o 8 (.ld false 1 (.t 7)),o 9 (.call 106 [(.t 6),(.t 8)]),o 10 (.fad 1 (.t 2)),o 11 (.ld false 1 (.t 10)),o 12 (.fad 1 (.t 3)),o 13 (.ld false 1 (.t 12))] [o 14 (.call 106 [(.t 11),(.t 13)]),o 15 (.lit 1 2 [(.int .i64 0),(.int .i64 0)] [(0,1,(.t 9)),(1,1,(.t 14))]),o 16 (.call 105 [(.t 15)]),o 4 (.mov (.t 16))]) .ret))⟩
theorem ir_i_compareDots:compFn Tryz.prog n_i_compareDots=some F_i_compareDots:=by kernel_rfl
abbrev n_i_compareTallies:Nat:=324
def F_i_compareTallies:Fn1:=⟨17,[.t 4],(.seq (.reg [o 2 (.box (.t 0)),o 3 (.box (.t 1)),o 4 (.mov (.k (.int .i64 0)))]) (.seq (.drw [o 5 (.fad 0 (.t 2)),o 6 (.ld false 1 (.t 5)),o 7 (.fad 0 (.t 3)),o 8 (.ld false 1 (.t 7)),o 9 (.call 376 [(.t 6),(.t 8)]),o 10 (.fad 1 (.t 2)),o 11 (.ld false 1 (.t 10)),o 12 (.fad 1 (.t 3)),o 13 (.ld false 1 (.t 12))] [o 14 (.call 106 [(.t 11),(.t 13)]),o 15 (.lit 1 2 [(.int .i64 0),(.int .i64 0)] [(0,1,(.t 9)),(1,1,(.t 14))]),o 16 (.call 105 [(.t 15)]),o 4 (.mov (.t 16))]) .ret))⟩
theorem ir_i_compareTallies:compFn Tryz.prog n_i_compareTallies=some F_i_compareTallies:=by kernel_rfl
abbrev n_s_l06Before:Nat:=362
def F_s_l06Before:Fn1:=⟨24,[.t 4],(.seq (.reg [o 2 (.box (.t 0)),o 3 (.box (.t 1)),o 4 (.mov (.k (.bool false)))]) (.seq (.reg [o 5 (.fad 0 (.t 2)),o 6 (.ld false 1 (.t 5)),o 7 (.fad 0 (.t 3)),o 8 (.ld false 1 (.t 7)),o 9 (.bin .lss (.t 6) (.t 8)),o 10 (.mov (.t 9)),og 11 10 false (.fad 0 (.t 2)),og 12 10 false (.ld false 1 (.t 11)),og 13 10 false (.fad 0 (.t 3)),og 14 10 false (.ld false 1 (.t 13)),og 15 10 false (.bin .eql (.t 12) (.t 14)),og 16 10 false (.mov (.t 15)),og 17 16 true (.fad 1 (.t 2)),og 18 16 true (.ld false 1 (.t 17)),og 19 16 true (.fad 1 (.t 3)),og 20 16 true (.ld false 1 (.t 19)),og 21 16 true (.bin .lss (.t 18) (.t 20)),og 22 10 false (.pick (.t 16) (.t 21) (.k (.bool false))),o 23 (.pick (.t 10) (.k (.bool true)) (.t 22)),o 4 (.mov (.t 23))]) .ret))⟩
theorem ir_s_l06Before:compFn Tryz.prog n_s_l06Before=some F_s_l06Before:=by kernel_rfl
theorem cmp_isNaN_int_ret (σ:St) (a:Int):Ret Tryz.prog n_cmp_isNaN_int [gi a] σ (.bool false) σ:=by
 refine ret_eq ir_cmp_isNaN_int (Nat.le_of_ble_eq_true rfl) trivial ?_
 simp +contextual (disch:=omega) only[go_sem,F_cmp_isNaN_int,bne_self_eq_false]
theorem cmp_isNaN_string_ret (σ:St) (a:ByteArray):Ret Tryz.prog n_cmp_isNaN_string [.str a] σ (.bool false) σ:=by
 refine ret_eq ir_cmp_isNaN_string (Nat.le_of_ble_eq_true rfl) trivial ?_
 simp +contextual (disch:=omega) only[go_sem,F_cmp_isNaN_string,decide_true,Bool.not_true]
theorem cmp_Compare_int_ret (σ:St) (a b:Int):Ret Tryz.prog n_cmp_Compare_int [gi a,gi b] σ (gi (cmpI a b)) σ:=by
 refine ret_eq ir_cmp_Compare_int (Nat.le_of_ble_eq_true rfl) trivial ?_
 simp +contextual (disch:=omega) only[go_sem,F_cmp_Compare_int]
 refine by_ret (cmp_isNaN_int_ret _ _) ?_
 simp +contextual (disch:=omega) only[go_sem]
 refine by_ret (cmp_isNaN_int_ret _ _) ?_
 simp +contextual (disch:=omega) only[go_sem]
 unfold cmpI
 grind
theorem cmp_Compare_string_ret (σ:St) (a b:ByteArray):Ret Tryz.prog n_cmp_Compare_string [.str a,.str b] σ (gi (cmpS a b)) σ:=by
 refine ret_eq ir_cmp_Compare_string (Nat.le_of_ble_eq_true rfl) trivial ?_
 simp +contextual (disch:=omega) only[go_sem,F_cmp_Compare_string]
 refine by_ret (cmp_isNaN_string_ret _ _) ?_
 simp +contextual (disch:=omega) only[go_sem]
 refine by_ret (cmp_isNaN_string_ret _ _) ?_
 simp +contextual (disch:=omega) only[go_sem]
 unfold cmpS
 grind
def orL:List Int→Int
 |[]=>0
 |x::l=>if x=0 then orL l else x
theorem cmp_Or_int_ret (σ:St) (v:GV) (l:List Int) (h:RS pI.kd σ v l) (hl:l.length≤1099511627776):Ret Tryz.prog n_cmp_Or_int [v] σ (gi (orL l)) σ:=by
 refine ret_eq ir_cmp_Or_int (Nat.le_of_ble_eq_true rfl) trivial ?_
 simp +contextual (disch:=omega) only[go_sem,F_cmp_Or_int,h.len]
 refine vc_for l.length 8 (fun i env τ=>env 3=gi 0∧env 6=v∧env 7=gi l.length∧orL (l.drop i)=orL l∧σ <+: τ) rfl ⟨rfl,rfl,rfl,rfl,List.prefix_refl _⟩ ?_ ?_
 ·rintro i env τ hi e8 c0 ⟨e3,e6,e7,hd,hp⟩
  rw[List.drop_eq_getElem_cons hi,orL] at hd
  simp +contextual (disch:=omega) only[go_sem,c0,e3,e6,e7,e8,int_at (h.pre hp) hi,hp]
  grind
 ·rintro env τ e8 c0 ⟨e3,e6,e7,hd,hp⟩
  rw[List.drop_length] at hd
  simp +contextual (disch:=omega) only[go_sem,c0,e3,e6,e7,e8,hp]
  rw[← hd];rfl
theorem orL_two (a b:Int):orL [a,b]=orI a b:=by
 unfold orI
 simp only[orL]
 split
 ·split
  ·omega
  ·rfl
 ·rfl
theorem i_compareDots_ret (σ:St) (a b:Dot):Ret Tryz.prog n_i_compareDots [.agg [gi a.rep,gi a.seq],.agg [gi b.rep,gi b.seq]] σ (gi (cmpDot a b)) σ:=by
 refine ret_eq ir_i_compareDots (Nat.le_of_ble_eq_true rfl) trivial ?_
 simp +contextual (disch:=omega) only[go_sem,F_i_compareDots]
 refine by_ret (cmp_Compare_int_ret _ _ _) ?_
 simp +contextual (disch:=omega) only[go_sem]
 refine by_ret (cmp_Compare_int_ret _ _ _) ?_
 simp +contextual (disch:=omega) only[go_sem]
 refine by_ret (cmp_Or_int_ret _ _ [cmpI a.rep b.rep,cmpI a.seq b.seq] (RS_lit (p:=pI) _ _ rfl rfl rfl) (by simp)) ?_
 simp +contextual (disch:=omega) only[go_sem,orL_two]
 rfl
theorem i_compareTallies_ret (σ:St) (a b:Tally):Ret Tryz.prog n_i_compareTallies [.agg [.str a.obj,gi a.rep,gi a.sum],.agg [.str b.obj,gi b.rep,gi b.sum]] σ (gi (cmpTally a b)) σ:=by
 refine ret_eq ir_i_compareTallies (Nat.le_of_ble_eq_true rfl) trivial ?_
 simp +contextual (disch:=omega) only[go_sem,F_i_compareTallies]
 refine by_ret (cmp_Compare_string_ret _ _ _) ?_
 simp +contextual (disch:=omega) only[go_sem]
 refine by_ret (cmp_Compare_int_ret _ _ _) ?_
 simp +contextual (disch:=omega) only[go_sem]
 refine by_ret (cmp_Or_int_ret _ _ [cmpS a.obj b.obj,cmpI a.rep b.rep] (RS_lit (p:=pI) _ _ rfl rfl rfl) (by simp)) ?_
 simp +contextual (disch:=omega) only[go_sem,orL_two]
 rfl
theorem s_l06Before_ret (σ:St) (a b:Dot):Ret Tryz.prog n_s_l06Before [.agg [gi a.rep,gi a.seq],.agg [gi b.rep,gi b.seq]] σ (.bool (dotLt a b)) σ:=by
 refine ret_eq ir_s_l06Before (Nat.le_of_ble_eq_true rfl) trivial ?_
 simp +contextual (disch:=omega) only[go_sem,F_s_l06Before]
 unfold dotLt
 grind
end Go.Proofs.YtbeoiejnogdkpaaGreat.Sy
