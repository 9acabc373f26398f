/- Texts of this proof, one behind the other. -/
import Derived.Test.YtbeoiejnogdkpaaBC
import Derived.Test.YtbeoiejnogdkpaaProg
import Derived.KernelRfl
import Derived.Sort.AssemblyPlain
import Derived.Sort.LotD3
import Derived.Sort.LotD1
namespace Go.Proofs.Ytbeoiejnogdkpaa.Sy
open Go Go.RowKit
set_option linter.unusedSimpArgs false
set_option linter.unusedVariables false
def lf (n:Int) (m:Nat):Int:=if n - m<0 then -1 else n - m
def msL {α:Type} (f:α→Nat) (l:List α):Nat:=l.length+(l.map f).sum
def sumL {α:Type} (f:α→Nat) (l:List α):Nat:=(l.map f).sum
theorem sumL_mem {α:Type} {f:α→Nat} {l:List α} {x:α} (h:x∈l):f x≤sumL f l:=by
 induction l with
 |nil=>simp at h
 |cons y l ih=>
  simp only[sumL,List.map_cons,List.sum_cons] at*
  rcases List.mem_cons.1 h with rfl|h
  ·omega
  ·have:=ih h;omega
theorem fld_zero {z i:Nat} {v:GV}:fld 0 (atz z v i)=atz z v i:=by
 cases v<;>rfl
def mkF {α:Type} (e:Int→α) (c:Nat) (k:Int) (n:Nat):List α:=(List.range n).map fun j:Nat=>e (k+c*j)
namespace Hp
end Hp
def figs (n:Nat):List Int:=if n=0 then[] else figs (n / 10)++[48+((n % 10:Nat):Int)]
termination_by n
decreasing_by omega
def mtx (k:Int):ByteArray:=if k≤0 then⟨#[109,48]⟩ else⟨#[109]⟩++txt (figs k.toNat)
end Go.Proofs.Ytbeoiejnogdkpaa.Sy
namespace Go.Proofs.Ytbeoiejnogdkpaa.Sy
open Go Go.RowKit
set_option linter.unusedSimpArgs false
set_option linter.unusedVariables false
def msString (s:ByteArray):Nat:=s.size
def wString (s:ByteArray):Prop:=s.size≤9223372036854775807
def msIntS (l:List Int):Nat:=l.length
def wIntS (l:List Int):Prop:=l.length≤9223372036854775807
def msTally (x:Tally):Nat:=x.obj.size
def wTally (x:Tally):Prop:=x.obj.size≤9223372036854775807
def msLive (x:Live):Nat:=x.obj.size+x.key.size
def wLive (x:Live):Prop:=x.obj.size≤9223372036854775807∧x.key.size≤9223372036854775807
def msCell (x:Cell):Nat:=x.obj.size
def wCell (x:Cell):Prop:=x.obj.size≤9223372036854775807
def msEdit (x:Edit):Nat:=x.obj.size+x.key.size
def wEdit (x:Edit):Prop:=x.obj.size≤9223372036854775807∧x.key.size≤9223372036854775807
def msWatch (x:Watch):Nat:=x.obj.size+x.key.size
def wWatch (x:Watch):Prop:=x.obj.size≤9223372036854775807∧x.key.size≤9223372036854775807
def msClash (x:Clash):Nat:=x.obj.size+x.key.size
def wClash (x:Clash):Prop:=x.obj.size≤9223372036854775807∧x.key.size≤9223372036854775807
def msFile (x:File):Nat:=x.text.size
def wFile (x:File):Prop:=x.text.size≤9223372036854775807
def msLetter (x:Letter):Nat:=x.text.size
def wLetter (x:Letter):Prop:=x.text.size≤9223372036854775807
def msEvent (x:Event):Nat:=msEdit x.edit
def wEvent (x:Event):Prop:=wEdit x.edit
def msAct (x:Act):Nat:=x.knew.length+x.obj.size+x.key.size
def wAct (x:Act):Prop:=x.knew.length≤9223372036854775807∧x.obj.size≤9223372036854775807∧x.key.size≤9223372036854775807
instance:DecidableEq Act:=fun a b=>if h:a.dot=b.dot∧a.time=b.time∧a.knew=b.knew∧a.kind=b.kind∧a.obj=b.obj∧a.key=b.key∧a.val=b.val∧a.ref=b.ref then isTrue (by cases a;cases b;simp only at h;obtain⟨rfl,rfl,rfl,rfl,rfl,rfl,rfl,rfl⟩:=h;rfl) else isFalse (fun e=>h (by subst e;exact⟨rfl,rfl,rfl,rfl,rfl,rfl,rfl,rfl⟩))
theorem Act.eq_iff {a b:Act}:a=b↔a.dot=b.dot∧a.time=b.time∧a.knew=b.knew∧a.kind=b.kind∧a.obj=b.obj∧a.key=b.key∧a.val=b.val∧a.ref=b.ref:=⟨fun h=>by subst h;exact⟨rfl,rfl,rfl,rfl,rfl,rfl,rfl,rfl⟩,fun h=>by cases a;cases b;simp only at h;obtain⟨rfl,rfl,rfl,rfl,rfl,rfl,rfl,rfl⟩:=h;rfl⟩
def msState (x:State):Nat:=x.know.length+(x.tallies.length+sumL msTally x.tallies)+(x.lives.length+sumL msLive x.lives)+(x.cells.length+sumL msCell x.cells)
def wState (x:State):Prop:=x.know.length≤9223372036854775807∧(x.tallies.length≤9223372036854775807∧∀ y∈x.tallies,wTally y)∧(x.lives.length≤9223372036854775807∧∀ y∈x.lives,wLive y)∧(x.cells.length≤9223372036854775807∧∀ y∈x.cells,wCell y)
instance:DecidableEq State:=fun a b=>if h:a.know=b.know∧a.tallies=b.tallies∧a.lives=b.lives∧a.cells=b.cells then isTrue (by cases a;cases b;simp only at h;obtain⟨rfl,rfl,rfl,rfl⟩:=h;rfl) else isFalse (fun e=>h (by subst e;exact⟨rfl,rfl,rfl,rfl⟩))
theorem State.eq_iff {a b:State}:a=b↔a.know=b.know∧a.tallies=b.tallies∧a.lives=b.lives∧a.cells=b.cells:=⟨fun h=>by subst h;exact⟨rfl,rfl,rfl,rfl⟩,fun h=>by cases a;cases b;simp only at h;obtain⟨rfl,rfl,rfl,rfl⟩:=h;rfl⟩
def msDelta (x:Delta):Nat:=x.base.length+x.know.length+(x.tallies.length+sumL msTally x.tallies)+(x.lives.length+sumL msLive x.lives)+x.dead.length+(x.cells.length+sumL msCell x.cells)
def wDelta (x:Delta):Prop:=x.base.length≤9223372036854775807∧x.know.length≤9223372036854775807∧(x.tallies.length≤9223372036854775807∧∀ y∈x.tallies,wTally y)∧(x.lives.length≤9223372036854775807∧∀ y∈x.lives,wLive y)∧x.dead.length≤9223372036854775807∧(x.cells.length≤9223372036854775807∧∀ y∈x.cells,wCell y)
instance:DecidableEq Delta:=fun a b=>if h:a.base=b.base∧a.know=b.know∧a.tallies=b.tallies∧a.lives=b.lives∧a.dead=b.dead∧a.cells=b.cells then isTrue (by cases a;cases b;simp only at h;obtain⟨rfl,rfl,rfl,rfl,rfl,rfl⟩:=h;rfl) else isFalse (fun e=>h (by subst e;exact⟨rfl,rfl,rfl,rfl,rfl,rfl⟩))
theorem Delta.eq_iff {a b:Delta}:a=b↔a.base=b.base∧a.know=b.know∧a.tallies=b.tallies∧a.lives=b.lives∧a.dead=b.dead∧a.cells=b.cells:=⟨fun h=>by subst h;exact⟨rfl,rfl,rfl,rfl,rfl,rfl⟩,fun h=>by cases a;cases b;simp only at h;obtain⟨rfl,rfl,rfl,rfl,rfl,rfl⟩:=h;rfl⟩
def msUnit (x:Unit_):Nat:=msAct x.act+msDelta x.delta
def wUnit (x:Unit_):Prop:=wAct x.act∧wDelta x.delta
instance:DecidableEq Unit_:=fun a b=>if h:a.batch=b.batch∧a.act=b.act∧a.delta=b.delta then isTrue (by cases a;cases b;simp only at h;obtain⟨rfl,rfl,rfl⟩:=h;rfl) else isFalse (fun e=>h (by subst e;exact⟨rfl,rfl,rfl⟩))
theorem Unit_.eq_iff {a b:Unit_}:a=b↔a.batch=b.batch∧a.act=b.act∧a.delta=b.delta:=⟨fun h=>by subst h;exact⟨rfl,rfl,rfl⟩,fun h=>by cases a;cases b;simp only at h;obtain⟨rfl,rfl,rfl⟩:=h;rfl⟩
def msLog (x:Log):Nat:=msState x.state+(x.units.length+sumL msUnit x.units)+(x.waits.length+sumL msUnit x.waits)
def wLog (x:Log):Prop:=wState x.state∧(x.units.length≤9223372036854775807∧∀ y∈x.units,wUnit y)∧(x.waits.length≤9223372036854775807∧∀ y∈x.waits,wUnit y)
instance:DecidableEq Log:=fun a b=>if h:a.rep=b.rep∧a.time=b.time∧a.state=b.state∧a.units=b.units∧a.waits=b.waits then isTrue (by cases a;cases b;simp only at h;obtain⟨rfl,rfl,rfl,rfl,rfl⟩:=h;rfl) else isFalse (fun e=>h (by subst e;exact⟨rfl,rfl,rfl,rfl,rfl⟩))
theorem Log.eq_iff {a b:Log}:a=b↔a.rep=b.rep∧a.time=b.time∧a.state=b.state∧a.units=b.units∧a.waits=b.waits:=⟨fun h=>by subst h;exact⟨rfl,rfl,rfl,rfl,rfl⟩,fun h=>by cases a;cases b;simp only at h;obtain⟨rfl,rfl,rfl,rfl,rfl⟩:=h;rfl⟩
def msCommit (x:Commit):Nat:=x.ups.length+msState x.state
def wCommit (x:Commit):Prop:=x.ups.length≤9223372036854775807∧wState x.state
instance:DecidableEq Commit:=fun a b=>if h:a.id=b.id∧a.ups=b.ups∧a.state=b.state then isTrue (by cases a;cases b;simp only at h;obtain⟨rfl,rfl,rfl⟩:=h;rfl) else isFalse (fun e=>h (by subst e;exact⟨rfl,rfl,rfl⟩))
theorem Commit.eq_iff {a b:Commit}:a=b↔a.id=b.id∧a.ups=b.ups∧a.state=b.state:=⟨fun h=>by subst h;exact⟨rfl,rfl,rfl⟩,fun h=>by cases a;cases b;simp only at h;obtain⟨rfl,rfl,rfl⟩:=h;rfl⟩
def msGraph (x:Graph):Nat:=(x.commits.length+sumL msCommit x.commits)
def wGraph (x:Graph):Prop:=(x.commits.length≤9223372036854775807∧∀ y∈x.commits,wCommit y)
instance:DecidableEq Graph:=fun a b=>if h:a.commits=b.commits∧a.head=b.head then isTrue (by cases a;cases b;simp only at h;obtain⟨rfl,rfl⟩:=h;rfl) else isFalse (fun e=>h (by subst e;exact⟨rfl,rfl⟩))
theorem Graph.eq_iff {a b:Graph}:a=b↔a.commits=b.commits∧a.head=b.head:=⟨fun h=>by subst h;exact⟨rfl,rfl⟩,fun h=>by cases a;cases b;simp only at h;obtain⟨rfl,rfl⟩:=h;rfl⟩
def msReplica (x:Replica):Nat:=msLog x.log+msGraph x.graph+msFile x.file+(x.out.length+sumL msUnit x.out)
def wReplica (x:Replica):Prop:=wLog x.log∧wGraph x.graph∧wFile x.file∧(x.out.length≤9223372036854775807∧∀ y∈x.out,wUnit y)
instance:DecidableEq Replica:=fun a b=>if h:a.way=b.way∧a.log=b.log∧a.graph=b.graph∧a.file=b.file∧a.out=b.out then isTrue (by cases a;cases b;simp only at h;obtain⟨rfl,rfl,rfl,rfl,rfl⟩:=h;rfl) else isFalse (fun e=>h (by subst e;exact⟨rfl,rfl,rfl,rfl,rfl⟩))
theorem Replica.eq_iff {a b:Replica}:a=b↔a.way=b.way∧a.log=b.log∧a.graph=b.graph∧a.file=b.file∧a.out=b.out:=⟨fun h=>by subst h;exact⟨rfl,rfl,rfl,rfl,rfl⟩,fun h=>by cases a;cases b;simp only at h;obtain⟨rfl,rfl,rfl,rfl,rfl⟩:=h;rfl⟩
def msWorld (x:World_):Nat:=(x.replicas.length+sumL msReplica x.replicas)+(x.net.length+sumL msLetter x.net)+x.codes.length+(x.synced.length+sumL msIntS x.synced)
def wWorld (x:World_):Prop:=(x.replicas.length≤9223372036854775807∧∀ y∈x.replicas,wReplica y)∧(x.net.length≤9223372036854775807∧∀ y∈x.net,wLetter y)∧x.codes.length≤9223372036854775807∧(x.synced.length≤9223372036854775807∧∀ y∈x.synced,wIntS y)
instance:DecidableEq World_:=fun a b=>if h:a.replicas=b.replicas∧a.net=b.net∧a.codes=b.codes∧a.synced=b.synced then isTrue (by cases a;cases b;simp only at h;obtain⟨rfl,rfl,rfl,rfl⟩:=h;rfl) else isFalse (fun e=>h (by subst e;exact⟨rfl,rfl,rfl,rfl⟩))
theorem World_.eq_iff {a b:World_}:a=b↔a.replicas=b.replicas∧a.net=b.net∧a.codes=b.codes∧a.synced=b.synced:=⟨fun h=>by subst h;exact⟨rfl,rfl,rfl,rfl⟩,fun h=>by cases a;cases b;simp only at h;obtain⟨rfl,rfl,rfl,rfl⟩:=h;rfl⟩
def msScript (x:Script):Nat:=x.ways.length+(x.events.length+sumL msEvent x.events)
def wScript (x:Script):Prop:=x.ways.length≤9223372036854775807∧(x.events.length≤9223372036854775807∧∀ y∈x.events,wEvent y)
instance:DecidableEq Script:=fun a b=>if h:a.ways=b.ways∧a.events=b.events∧a.calm=b.calm then isTrue (by cases a;cases b;simp only at h;obtain⟨rfl,rfl,rfl⟩:=h;rfl) else isFalse (fun e=>h (by subst e;exact⟨rfl,rfl,rfl⟩))
theorem Script.eq_iff {a b:Script}:a=b↔a.ways=b.ways∧a.events=b.events∧a.calm=b.calm:=⟨fun h=>by subst h;exact⟨rfl,rfl,rfl⟩,fun h=>by cases a;cases b;simp only at h;obtain⟨rfl,rfl,rfl⟩:=h;rfl⟩
end Go.Proofs.Ytbeoiejnogdkpaa.Sy
namespace Go.Proofs.Ytbeoiejnogdkpaa.Sy
open Go Go.RowKit
set_option linter.unusedSimpArgs false
set_option linter.unusedVariables false
def crs (c v:GV) (n:Nat):Thg:=⟨fun σ fp=>∃ g i h,c= .ptr g 0∧fp=[g]∧i≤n∧bk σ g=some (.row 1 [v,gi (i:Nat),gi h]),fun⟨g,i,h,h1,h2,h3,h4⟩ hf=>⟨g,i,h,h1,h2,h3,by rw[hf g (by rw[h2];exact List.mem_cons_self)];exact h4⟩⟩
theorem st_blk {n z g off:Nat} {σ:St} {cs:List GV} {x:GV} (hB:bk σ g=some (.row z cs)) (h1:off+n≤cs.length) (h2:0<n) (h3:x.cells.length=n):stG n σ (.ptr g off) x=some (.tup [],σ.set g (some (.row z (splice cs off x.cells)))):=by
 simp only[stG,bk_some.1 hB]
 rw[if_pos ⟨h1,h2,h3⟩]
theorem bk_set {σ:St} {g z:Nat} {cs cs':List GV} (hB:bk σ g=some (.row z cs)):bk (σ.set g (some (.row z cs'))) g=some (.row z cs'):=bk_some.2 (by rw[List.getElem?_set_self (bk_lt hB)])
theorem rd_blk {σ:St} {g z:Nat} {cs:List GV} (hB:bk σ g=some (.row z cs)):rdB σ g=some cs:=by
 unfold rdB;rw[bk_some.1 hB];rfl
theorem byte_at {σ:St} {v:GV} {l:List Int} (h:RS pB.kd σ v l) {i:Nat} (hi:i<l.length):iadG 1 v (some i)=some (atz 1 v i)∧ldG false 1 σ (atz 1 v i)=some (.int .u8 l[i]):=⟨RdN.iad h hi,RdN.ld h hi (by decide)⟩
theorem shr_ex (b:Int) (hb:0≤b):∃ f:Int→Int,∀ a,binG .shr (.int .i64 a) (.int .u64 b)=some (.int .i64 (f a)):=⟨fun a=>a.fdiv (2 ^ min b.toNat IntKind.i64.bits),fun a=>by simp only[binG,shiftG];rw[if_neg (by omega)]⟩
theorem xor_ex:∃ f:Int→Int→Int,∀ a b,binG .xor (.int .i64 a) (.int .i64 b)=some (.int .i64 (f a b)):=⟨fun a b=>IntKind.i64.wrap (BitVec.ofInt IntKind.i64.bits a ^^^ BitVec.ofInt IntKind.i64.bits b).toNat,fun a b=>rfl⟩
theorem and_ex (m:Nat) (hm:m<2 ^ 62):∃ f:Int→Int,(∀ a,binG .and (.int .i64 a) (.int .i64 (m:Nat))=some (.int .i64 (f a)))∧∀ a,0≤f a∧f a≤m:=by
 refine⟨fun a=>IntKind.i64.wrap (BitVec.ofInt IntKind.i64.bits a &&& BitVec.ofInt IntKind.i64.bits (m:Nat)).toNat,fun a=>rfl,fun a=> ?_⟩
 have h1:(BitVec.ofInt IntKind.i64.bits a &&& BitVec.ofInt IntKind.i64.bits (m:Nat)).toNat≤m:=by
  rw[BitVec.toNat_and]
  refine Nat.le_trans Nat.and_le_right ?_
  rw[BitVec.toNat_ofInt]
  show((m:Int) % ((2 ^ 64:Nat):Int)).toNat≤m
  omega
 show 0≤IntKind.i64.wrap _∧IntKind.i64.wrap _≤_
 rw[wrap_add (by omega) (by omega)]
 omega
@[go_sem] theorem bit_tup2 {l:List GV}:(GV.tup l).bit=none:=(rfl)
theorem vcOps_len {P:Program} {D:Bool} {os:List Op1}:∀ {K:Env→St→Prop} {env:Env} {σ:St},vcOps D P os K env σ→vcOps D P os (fun env' σ'=>K env' σ'∧σ.length≤σ'.length) env σ:=by
 induction os with
 |nil=>intro K env σ h;exact⟨h,Nat.le_refl _⟩
 |cons o r ih=>
  intro K env σ h
  simp only[vcOps] at h ⊢
  split at h
  ·rename_i hw
   rw[if_pos hw]
   obtain⟨v,σ',hs,hp,hk⟩:=h
   refine⟨v,σ',hs,hp,vcOps_mono (ih hk) fun env' σ1 hq=>⟨hq.1,?_⟩⟩
   have:=step_len hs
   omega
  ·rename_i hw
   rw[if_neg hw]
   exact ih h
theorem vc_len {P:Program} {d:Cd}:∀ {Q:Ex→Env→St→Prop} {env:Env} {σ:St},vc P d Q env σ→vc P d (fun e env' σ'=>Q e env' σ'∧σ.length≤σ'.length) env σ:=by
 induction d with
 |skip=>intro Q env σ h;exact⟨h,Nat.le_refl _⟩
 |reg ops=>intro Q env σ h;exact vcOps_len h
 |drw xs ys=>
  intro Q env σ h
  refine vcOps_mono (vcOps_len h) fun env1 σ1 h1=>vcOps_mono (vcOps_len h1.1) fun env2 σ2 h2=>⟨h2.1,?_⟩
  have:=h1.2
  have:=h2.2
  omega
 |seq a b iha ihb=>
  intro Q env σ h
  refine vc_mono (d:=a) (iha h) fun e env1 σ1 he=> ?_
  cases e with
  |nxt=>exact vc_mono (ihb he.1) fun e env2 σ2 h2=>⟨h2.1,Nat.le_trans he.2 h2.2⟩
  |ext j=>exact he
  |ret=>exact he
 |cnd c a b iha ihb=>
  intro Q env σ h
  obtain⟨t,ht,h1,h2⟩:=h
  exact⟨t,ht,fun e=>iha (h1 e),fun e=>ihb (h2 e)⟩
 |blk id a ih=>
  intro Q env σ h
  refine vc_mono (d:=a) (ih h) fun e env1 σ1 he=> ?_
  cases e with
  |nxt=>exact he
  |ext j=>
   obtain⟨h1,h2⟩:=he
   simp only at h1 ⊢
   split at h1
   ·rename_i hj;rw[if_pos hj];exact⟨h1,h2⟩
   ·rename_i hj;rw[if_neg hj];exact⟨h1,h2⟩
  |ret=>exact he
 |lop a ih=>
  intro Q env σ h
  obtain⟨I,μ,hI,hs⟩:=h
  refine⟨fun env1 σ1=>I env1 σ1∧σ.length≤σ1.length,μ,⟨hI,Nat.le_refl _⟩,fun env1 σ1 hi=>vc_mono (ih (hs env1 σ1 hi.1)) fun e env2 σ2 he=> ?_⟩
  cases e with
  |nxt=>exact⟨⟨he.1.1,Nat.le_trans hi.2 he.2⟩,he.1.2⟩
  |ext j=>exact⟨he.1,Nat.le_trans hi.2 he.2⟩
  |ret=>exact⟨he.1,Nat.le_trans hi.2 he.2⟩
 |ext id=>intro Q env σ h;exact⟨h,Nat.le_refl _⟩
 |ret=>intro Q env σ h;exact⟨h,Nat.le_refl _⟩
theorem ret_dr {P:Program} {f:Nat} {F:Fn1} {args:List GV} {σ:St} {Post:GV→St→Prop} (hF:compFn P f=some F) (hl:args.length≤F.n)
  (h:vc P F.c (fun e env τ=>isOut e=true∧∃ r,resG env τ F.rs=some r∧Post r τ) (env0 args) σ):∃ r τ,Ret P f args σ r τ∧Post r τ:=
 ret_mut hF hl (vc_mono (vc_len h) fun e env τ he=>⟨he.1.1,by obtain⟨⟨_,r,h1,h2⟩,h3⟩:=he;exact⟨r,h1,h3,h2⟩⟩)
theorem Ret.le {P:Program} {f:Nat} {args:List GV} {σ τ:St} {r:GV} (h:Ret P f args σ r τ):σ.length≤τ.length:=h.2.1
theorem Hp.crs {σ τ:St} {rs:List Thg} (H:Hp σ τ rs) {k:Nat} {c v:GV} {n:Nat} (hk:rs[k]? =some (crs c v n)):∃(g i:Nat) (h:Int),c= .ptr g 0∧i≤n∧bk τ g=some (.row 1 [v,gi i,gi h])∧∀(i':Nat) (h':Int),i'≤n→Hp σ (τ.set g (some (.row 1 [v,gi i',gi h']))) rs:=by
 obtain⟨a,⟨g,i,h,rfl,rfl,hi,hB⟩,hnd,hbd,ht⟩:=(H.pick k hk).turn
 refine⟨g,i,h,rfl,hi,hB,fun i' h' hi'=> ?_⟩
 have:=Hp.unpick (i:=k) (ht (τ':=τ.set g (some (.row 1 [v,gi i',gi h']))) (r':=Sy.crs (.ptr g 0) v n) (a':=[g]) ⟨by simp,fun g' h=>.inl h,by simp,fun g' h h'=>bk_set_ne fun e=>h' (by rw[e];exact List.mem_cons_self)⟩ ⟨g,i',h',rfl,rfl,hi',bk_set hB⟩) (List.getElem?_eq_some_iff.1 hk).1
 obtain⟨h1,h2⟩:=List.getElem?_eq_some_iff.1 hk
 rw[← h2,List.set_getElem_self] at this
 exact this
theorem Hp.ptCur {σ τ:St} {rs:List Thg} {g n:Nat} {v:GV} {h:Int} (H:Hp σ τ (Sy.pt 1 g [v,gi 0,gi h]::rs)):Hp σ τ (Sy.crs (.ptr g 0) v n::rs):=
 H.conv fun fp ⟨h1,h2⟩=>⟨g,0,h,rfl,h1,Nat.zero_le _,h2⟩
end Go.Proofs.Ytbeoiejnogdkpaa.Sy
namespace Go.Proofs.Ytbeoiejnogdkpaa.Sy
open Go Go.RowKit
set_option linter.unusedSimpArgs false
set_option linter.unusedVariables false
abbrev n_s_l01New:Nat:=28
def F_s_l01New:Fn1:=⟨32,[.t 2],(.seq (.reg [o 2 (.mov (.k .nilP))]) (.seq (.reg [o 5 (.mov (.t 0)),o 6 (.len false (.t 5)),o 7 (.bin .add (.k (.int .i64 93901)) (.t 6)),o 3 (.mov (.t 7))]) (.seq (.seq (.reg [o 4 (.mov (.k (.int .i64 0)))]) (.blk 0 (.lop (.seq (.seq (.reg [o 8 (.mov (.t 4)),o 9 (.mov (.t 0)),o 10 (.len false (.t 9)),o 11 (.bin .lss (.t 8) (.t 10)),o 12 (.mov (.t 11)),og 13 12 true (.mov (.t 4)),og 14 12 true (.bin .lss (.t 13) (.k (.int .i64 4000))),o 15 (.pick (.t 12) (.t 14) (.k (.bool false)))]) (.cnd (.t 15) .skip (.ext 0))) (.seq (.blk 1 (.reg [o 18 (.mov (.t 3)),o 19 (.bin .mul (.t 18) (.k (.int .i64 131))),o 20 (.mov (.t 0)),o 21 (.mov (.t 4)),o 22 (.iad 1 (.t 20) (.t 21)),o 23 (.ld false 1 (.t 22)),o 24 (.cvi .i64 (.t 23)),o 25 (.bin .add (.t 19) (.t 24)),o 26 (.bin .add (.t 25) (.k (.int .i64 7))),o 27 (.bin .and (.t 26) (.k (.int .i64 1073741823))),o 3 (.mov (.t 27))])) (.reg [o 16 (.mov (.t 4)),o 17 (.bin .add (.t 16) (.k (.int .i64 1))),o 4 (.mov (.t 17))])))))) (.seq (.reg [o 28 (.mov (.t 0)),o 29 (.mov (.t 3)),o 30 (.build [.nilS,(.int .i64 0),(.int .i64 0)] [(0,1,(.t 28)),(2,1,(.t 29))]),o 31 (.box (.t 30)),o 2 (.mov (.t 31))]) .ret))))⟩
theorem ir_s_l01New:compFn Try.prog n_s_l01New=some F_s_l01New:=by kernel_rfl
abbrev n_s_l01Byte:Nat:=29
def F_s_l01Byte:Fn1:=⟨58,[.t 2],(.seq (.reg [o 2 (.mov (.k (.int .i64 0)))]) (.seq (.reg [o 4 (.mov (.t 0)),o 5 (.mov (.t 0)),o 6 (.nck (.t 5)),o 7 (.fad 2 (.t 6)),o 8 (.ld false 1 (.t 7)),o 9 (.bin .mul (.t 8) (.k (.int .i64 6364136223846793005))),o 10 (.bin .add (.t 9) (.k (.int .i64 1442695040888963407))),o 11 (.nck (.t 4)),o 12 (.fad 2 (.t 11)),on (.st 1 (.t 12) (.t 10))]) (.seq (.drw [o 13 (.mov (.t 0)),o 14 (.nck (.t 13)),o 15 (.fad 2 (.t 14)),o 16 (.ld false 1 (.t 15)),o 17 (.bin .shr (.t 16) (.k (.int .u64 33))),o 18 (.mov (.t 0)),o 19 (.nck (.t 18)),o 20 (.fad 2 (.t 19)),o 21 (.ld false 1 (.t 20))] [o 22 (.bin .shr (.t 21) (.k (.int .u64 45))),o 23 (.bin .xor (.t 17) (.t 22)),o 24 (.bin .and (.t 23) (.k (.int .i64 255))),o 3 (.mov (.t 24))]) (.seq (.seq (.drw [o 25 (.mov (.t 0)),o 26 (.nck (.t 25)),o 27 (.fad 1 (.t 26)),o 28 (.ld false 1 (.t 27)),o 29 (.mov (.t 0)),o 30 (.nck (.t 29)),o 31 (.fad 0 (.t 30)),o 32 (.ld false 1 (.t 31))] [o 33 (.len false (.t 32)),o 34 (.bin .lss (.t 28) (.t 33))]) (.cnd (.t 34) (.seq (.drw [o 35 (.mov (.t 3)),o 36 (.mov (.t 0)),o 37 (.nck (.t 36)),o 38 (.fad 0 (.t 37)),o 39 (.ld false 1 (.t 38)),o 40 (.mov (.t 0)),o 41 (.nck (.t 40)),o 42 (.fad 1 (.t 41)),o 43 (.ld false 1 (.t 42))] [o 44 (.iad 1 (.t 39) (.t 43)),o 45 (.ld false 1 (.t 44)),o 46 (.cvi .i64 (.t 45)),o 47 (.bin .add (.t 35) (.t 46)),o 48 (.bin .and (.t 47) (.k (.int .i64 255))),o 3 (.mov (.t 48))]) (.reg [o 49 (.mov (.t 0)),o 50 (.mov (.t 0)),o 51 (.nck (.t 50)),o 52 (.fad 1 (.t 51)),o 53 (.ld false 1 (.t 52)),o 54 (.bin .add (.t 53) (.k (.int .i64 1))),o 55 (.nck (.t 49)),o 56 (.fad 1 (.t 55)),on (.st 1 (.t 56) (.t 54))])) .skip)) (.seq (.reg [o 57 (.mov (.t 3)),o 2 (.mov (.t 57))]) .ret)))))⟩
theorem ir_s_l01Byte:compFn Try.prog n_s_l01Byte=some F_s_l01Byte:=by kernel_rfl
abbrev n_s_l01Below:Nat:=30
def F_s_l01Below:Fn1:=⟨37,[.t 4],(.seq (.reg [o 4 (.mov (.k (.int .i64 0)))]) (.seq (.seq (.reg [o 9 (.mov (.t 1)),o 10 (.bin .leq (.t 9) (.k (.int .i64 0)))]) (.cnd (.t 10) (.seq (.reg [o 4 (.mov (.k (.int .i64 0)))]) .ret) .skip)) (.seq (.seq (.reg [o 11 (.mov (.t 1)),o 12 (.bin .leq (.t 11) (.k (.int .i64 256)))]) (.cnd (.t 12) (.seq (.reg [o 13 (.mov (.t 0)),o 14 (.call 29 [(.t 13)]),o 15 (.mov (.t 1)),o 16 (.bin .rem (.t 14) (.t 15)),o 4 (.mov (.t 16))]) .ret) .skip)) (.seq (.reg [o 17 (.mov (.t 0)),o 18 (.call 29 [(.t 17)]),o 5 (.mov (.t 18))]) (.seq (.reg [o 19 (.mov (.t 0)),o 20 (.call 29 [(.t 19)]),o 6 (.mov (.t 20))]) (.seq (.reg [o 21 (.mov (.t 0)),o 22 (.call 29 [(.t 21)]),o 7 (.mov (.t 22))]) (.seq (.reg [o 23 (.mov (.t 0)),o 24 (.call 29 [(.t 23)]),o 8 (.mov (.t 24))]) (.seq (.reg [o 25 (.mov (.t 5)),o 26 (.bin .mul (.t 25) (.k (.int .i64 16777216))),o 27 (.mov (.t 6)),o 28 (.bin .mul (.t 27) (.k (.int .i64 65536))),o 29 (.bin .add (.t 26) (.t 28)),o 30 (.mov (.t 7)),o 31 (.bin .mul (.t 30) (.k (.int .i64 256))),o 32 (.bin .add (.t 29) (.t 31)),o 33 (.mov (.t 8)),o 34 (.bin .add (.t 32) (.t 33)),o 35 (.mov (.t 1)),o 36 (.bin .rem (.t 34) (.t 35)),o 4 (.mov (.t 36))]) .ret))))))))⟩
theorem ir_s_l01Below:compFn Try.prog n_s_l01Below=some F_s_l01Below:=by kernel_rfl
theorem s_l01New_ret (σ:St) (v:GV) (bs:List Int) (hv:RS pB.kd σ v bs) (hl:bs.length≤1099511627776):∃ c τ,Ret Try.prog n_s_l01New [v] σ c τ∧Hp σ τ [crs c v bs.length]:=by
 refine ret_hp (rs:=fun c=>[crs c v bs.length]) ir_s_l01New (Nat.le_of_ble_eq_true rfl) ?_
 obtain⟨fa,ha,_⟩:=and_ex 1073741823 (by decide)
 have ha:∀ a,binG .and (.int .i64 a) (.int .i64 1073741823)=some (.int .i64 (fa a)):=ha
 simp +contextual (disch:=omega) only[go_sem,F_s_l01New,hv.len]
 refine vc_for (min bs.length 4000) 4 (fun i env τ=>env 0=v∧(∃ h:Int,env 3=gi h)∧σ=τ) rfl ⟨rfl,⟨_,rfl⟩,rfl⟩ ?_ ?_
 ·rintro i env τ hi e4 c0 ⟨e0,⟨h,e3⟩,rfl⟩
  have hi':i<bs.length:=by omega
  have c1:decide ((i:Int)<bs.length)=true:=by simp;omega
  have c2:decide ((i:Int)<4000)=true:=by simp;omega
  simp +contextual (disch:=omega) only[go_sem,c1,c2,e0,e3,e4,hv.len,byte_at hv hi',ha]
  exact⟨_,rfl⟩
 ·rintro env τ e4 c0 ⟨e0,⟨h,e3⟩,rfl⟩
  by_cases hb:bs.length≤4000
  ·have c1:decide (((min bs.length 4000:Nat):Int)<bs.length)=false:=by simp;omega
   simp +contextual (disch:=omega) only[go_sem,c1,e0,e3,e4,hv.len,hv.cell]
   exact⟨_,rfl,((Hp.refl σ).new 1 _).ptCur⟩
  ·have c1:decide (((min bs.length 4000:Nat):Int)<bs.length)=true:=by simp;omega
   have c2:decide (((min bs.length 4000:Nat):Int)<4000)=false:=by simp;omega
   simp +contextual (disch:=omega) only[go_sem,c1,c2,e0,e3,e4,hv.len,hv.cell]
   exact⟨_,rfl,((Hp.refl σ).new 1 _).ptCur⟩
theorem s_l01Byte_ret {σ0 σ:St} {rs:List Thg} (H:Hp σ0 σ rs) {k:Nat} {c v:GV} {bs:List Int} (hk:rs[k]? =some (crs c v bs.length)) (hv:RS pB.kd σ0 v bs) (hl:bs.length≤1099511627776):
  ∃ r τ,Ret Try.prog n_s_l01Byte [c] σ r τ∧∃ x:Int,r=gi x∧0≤x∧x≤255∧Hp σ0 τ rs:=by
 obtain⟨g,i,h,rfl,hi,hB,hm⟩:=H.crs hk
 refine ret_dr ir_s_l01Byte (Nat.le_of_ble_eq_true rfl) ?_
 obtain⟨fa,ha,hfa⟩:=and_ex 255 (by decide)
 have ha:∀ a,binG .and (.int .i64 a) (.int .i64 255)=some (.int .i64 (fa a)):=ha
 obtain⟨f33,h33⟩:=shr_ex 33 (by decide)
 obtain⟨f45,h45⟩:=shr_ex 45 (by decide)
 obtain⟨fx,hx⟩:=xor_ex
 have hs1:∀ y:Int,stG 1 σ (.ptr g 2) (.int .i64 y)=some (.tup [],σ.set g (some (.row 1 [v,gi i,gi y]))):=fun y=>st_blk (x:=.int .i64 y) (n:=1) hB (by simp) (by decide) rfl
 have hs2:∀ y x:Int,stG 1 (σ.set g (some (.row 1 [v,gi i,gi y]))) (.ptr g 1) (.int .i64 x)=some (.tup [],σ.set g (some (.row 1 [v,gi x,gi y]))):=fun y x=>by
  rw[st_blk (x:=.int .i64 x) (n:=1) (bk_set hB) (by simp) (by decide) rfl,List.set_set];rfl
 have hr:∀ y:Int,rdB (σ.set g (some (.row 1 [v,gi i,gi y]))) g=some [v,gi i,gi y]:=fun y=>rd_blk (bk_set hB)
 have hlen:∀ y x:Int,(σ.set g (some (.row 1 [v,gi x,gi y]))).length=σ.length:=fun y x=>by simp
 simp +contextual (disch:=omega) only[go_sem,F_s_l01Byte,ld_ptr (rd_blk hB),hs1,ld_ptr (hr _),h33,h45,hx,ha,hv.len,hv.notup]
 refine⟨fun hn=> ?_,fun hn=> ?_⟩
 ·have hi':i<bs.length:=by simpa using hn
  have hb1:=(byte_at hv hi').1
  have hb2:∀ y:Int,ldG false 1 (σ.set g (some (.row 1 [v,gi i,gi y]))) (atz 1 v i)=some (.int .u8 bs[i]):=fun y=>(byte_at (hv.pre (hm i y hi).sub) hi').2
  simp +contextual (disch:=omega) only[go_sem,ld_ptr (hr _),hb1,hb2,ha,hs2]
  exact⟨_,rfl,_,rfl,(hfa _).1,(hfa _).2,hm _ _ hi'⟩
 ·exact⟨_,rfl,_,rfl,(hfa _).1,(hfa _).2,hm _ _ hi⟩
theorem s_l01Below_ret {σ0 σ:St} {rs:List Thg} (H:Hp σ0 σ rs) {k:Nat} {c v:GV} {bs:List Int} (hk:rs[k]? =some (crs c v bs.length)) (hv:RS pB.kd σ0 v bs) (hl:bs.length≤1099511627776) (n:Int) (hn:n≤4611686018427387904):
  ∃ r τ,Ret Try.prog n_s_l01Below [c,gi n] σ r τ∧∃ x:Int,r=gi x∧0≤x∧(n≤0→x=0)∧(0<n→x<n)∧Hp σ0 τ rs:=by
 refine ret_dr ir_s_l01Below (Nat.le_of_ble_eq_true rfl) ?_
 by_cases h0:n≤0
 ·have c0:decide (n≤0)=true:=decide_eq_true h0
  simp +contextual (disch:=omega) only[go_sem,F_s_l01Below,c0]
  exact⟨_,rfl,0,rfl,by omega,fun _=>rfl,fun h=>by omega,H⟩
 ·have c0:decide (n≤0)=false:=decide_eq_false h0
  have hn0:¬ (n=0):=by omega
  by_cases h1:n≤256
  ·have c1:decide (n≤256)=true:=decide_eq_true h1
   simp +contextual (disch:=omega) only[go_sem,F_s_l01Below,c0,c1]
   obtain⟨r,τ,R,x,rfl,hx0,hx1,H1⟩:=s_l01Byte_ret H hk hv hl
   refine by_mut R ?_
   simp +contextual (disch:=omega) only[go_sem,hn0]
   exact⟨_,rfl,_,rfl,Int.tmod_nonneg _ hx0,fun h=>by omega,fun h=>Int.tmod_lt_of_pos _ h,H1⟩
  ·have c1:decide (n≤256)=false:=decide_eq_false h1
   simp +contextual (disch:=omega) only[go_sem,F_s_l01Below,c0,c1]
   obtain⟨r,τ1,R,x,rfl,hx0,hx1,H1⟩:=s_l01Byte_ret H hk hv hl
   refine by_mut R ?_
   simp +contextual (disch:=omega) only[go_sem]
   obtain⟨r,τ2,R,y,rfl,hy0,hy1,H2⟩:=s_l01Byte_ret H1 hk hv hl
   refine by_mut R ?_
   simp +contextual (disch:=omega) only[go_sem]
   obtain⟨r,τ3,R,z,rfl,hz0,hz1,H3⟩:=s_l01Byte_ret H2 hk hv hl
   refine by_mut R ?_
   simp +contextual (disch:=omega) only[go_sem]
   obtain⟨r,τ4,R,w,rfl,hw0,hw1,H4⟩:=s_l01Byte_ret H3 hk hv hl
   refine by_mut R ?_
   simp +contextual (disch:=omega) only[go_sem,hn0]
   exact⟨_,rfl,_,rfl,Int.tmod_nonneg _ (by omega),fun h=>by omega,fun h=>Int.tmod_lt_of_pos _ h,H4⟩
end Go.Proofs.Ytbeoiejnogdkpaa.Sy
namespace Go.Proofs.Ytbeoiejnogdkpaa.Sy
open Go Go.RowKit
set_option linter.unusedSimpArgs false
set_option linter.unusedVariables false
abbrev n_s_l01In:Nat:=60
def F_s_l01In:Fn1:=⟨15,[.t 6],(.seq (.reg [o 6 (.mov (.k (.bool false)))]) (.seq (.reg [o 7 (.mov (.t 0)),o 8 (.mov (.t 1)),o 9 (.bin .geq (.t 7) (.t 8)),o 10 (.mov (.t 9)),og 11 10 true (.mov (.t 0)),og 12 10 true (.mov (.t 2)),og 13 10 true (.bin .leq (.t 11) (.t 12)),o 14 (.pick (.t 10) (.t 13) (.k (.bool false))),o 6 (.mov (.t 14))]) .ret))⟩
theorem ir_s_l01In:compFn Try.prog n_s_l01In=some F_s_l01In:=by kernel_rfl
abbrev n_i_within:Nat:=74
def F_i_within:Fn1:=⟨15,[.t 6],(.seq (.reg [o 6 (.mov (.k (.bool false)))]) (.seq (.reg [o 7 (.mov (.t 0)),o 8 (.mov (.t 1)),o 9 (.bin .geq (.t 7) (.t 8)),o 10 (.mov (.t 9)),og 11 10 true (.mov (.t 0)),og 12 10 true (.mov (.t 2)),og 13 10 true (.bin .leq (.t 11) (.t 12)),o 14 (.pick (.t 10) (.t 13) (.k (.bool false))),o 6 (.mov (.t 14))]) .ret))⟩
theorem ir_i_within:compFn Try.prog n_i_within=some F_i_within:=by kernel_rfl
abbrev n_s_NameOk:Nat:=61
def F_s_NameOk:Fn1:=⟨23,[.t 2],(.seq (.reg [o 2 (.mov (.k (.bool false)))]) (.seq (.seq (.reg [o 3 (.mov (.k (.int .i64 0)))]) (.blk 0 (.lop (.seq (.seq (.reg [o 4 (.mov (.t 3)),o 5 (.mov (.t 0)),o 6 (.len true (.t 5)),o 7 (.bin .lss (.t 4) (.t 6))]) (.cnd (.t 7) .skip (.ext 0))) (.seq (.blk 1 (.seq (.reg [o 10 (.mov (.t 0)),o 11 (.mov (.t 3)),o 12 (.idx (.t 10) (.t 11)),o 13 (.bin .lss (.t 12) (.k (.int .u8 97))),o 14 (.mov (.t 13)),og 15 14 false (.mov (.t 0)),og 16 14 false (.mov (.t 3)),og 17 14 false (.idx (.t 15) (.t 16)),og 18 14 false (.bin .gtr (.t 17) (.k (.int .u8 122))),o 19 (.pick (.t 14) (.k (.bool true)) (.t 18))]) (.cnd (.t 19) (.seq (.reg [o 2 (.mov (.k (.bool false)))]) .ret) .skip))) (.reg [o 8 (.mov (.t 3)),o 9 (.bin .add (.t 8) (.k (.int .i64 1))),o 3 (.mov (.t 9))])))))) (.seq (.reg [o 20 (.mov (.t 0)),o 21 (.len true (.t 20)),o 22 (.call 60 [(.t 21),(.k (.int .i64 1)),(.k (.int .i64 8))]),o 2 (.mov (.t 22))]) .ret)))⟩
theorem ir_s_NameOk:compFn Try.prog n_s_NameOk=some F_s_NameOk:=by kernel_rfl
abbrev n_i_NameOk:Nat:=75
def F_i_NameOk:Fn1:=⟨19,[.t 2],(.seq (.reg [o 2 (.mov (.k (.bool false)))]) (.seq (.seq (.reg [o 3 (.mov (.k (.int .i64 0)))]) (.blk 0 (.lop (.seq (.seq (.reg [o 4 (.mov (.t 3)),o 5 (.mov (.t 0)),o 6 (.len true (.t 5)),o 7 (.bin .lss (.t 4) (.t 6))]) (.cnd (.t 7) .skip (.ext 0))) (.seq (.blk 1 (.seq (.reg [o 10 (.mov (.t 0)),o 11 (.mov (.t 3)),o 12 (.idx (.t 10) (.t 11)),o 13 (.cvi .i64 (.t 12)),o 14 (.call 74 [(.t 13),(.k (.int .i64 97)),(.k (.int .i64 122))]),o 15 (.un .not (.t 14))]) (.cnd (.t 15) (.seq (.reg [o 2 (.mov (.k (.bool false)))]) .ret) .skip))) (.reg [o 8 (.mov (.t 3)),o 9 (.bin .add (.t 8) (.k (.int .i64 1))),o 3 (.mov (.t 9))])))))) (.seq (.reg [o 16 (.mov (.t 0)),o 17 (.len true (.t 16)),o 18 (.call 74 [(.t 17),(.k (.int .i64 1)),(.k (.int .i64 8))]),o 2 (.mov (.t 18))]) .ret)))⟩
theorem ir_i_NameOk:compFn Try.prog n_i_NameOk=some F_i_NameOk:=by kernel_rfl
abbrev n_s_KnowOk:Nat:=35
def F_s_KnowOk:Fn1:=⟨19,[.t 2],(.seq (.reg [o 2 (.mov (.k (.bool false)))]) (.seq (.seq (.reg [o 3 (.mov (.k (.int .i64 0)))]) (.blk 0 (.lop (.seq (.seq (.reg [o 4 (.mov (.t 3)),o 5 (.mov (.t 0)),o 6 (.len false (.t 5)),o 7 (.bin .lss (.t 4) (.t 6))]) (.cnd (.t 7) .skip (.ext 0))) (.seq (.blk 1 (.seq (.reg [o 10 (.mov (.t 0)),o 11 (.mov (.t 3)),o 12 (.iad 1 (.t 10) (.t 11)),o 13 (.ld false 1 (.t 12)),o 14 (.call 60 [(.t 13),(.k (.int .i64 0)),(.k (.int .i64 1000))]),o 15 (.un .not (.t 14))]) (.cnd (.t 15) (.seq (.reg [o 2 (.mov (.k (.bool false)))]) .ret) .skip))) (.reg [o 8 (.mov (.t 3)),o 9 (.bin .add (.t 8) (.k (.int .i64 1))),o 3 (.mov (.t 9))])))))) (.seq (.reg [o 16 (.mov (.t 0)),o 17 (.len false (.t 16)),o 18 (.bin .eql (.t 17) (.k (.int .i64 3))),o 2 (.mov (.t 18))]) .ret)))⟩
theorem ir_s_KnowOk:compFn Try.prog n_s_KnowOk=some F_s_KnowOk:=by kernel_rfl
abbrev n_i_KnowOk:Nat:=52
def F_i_KnowOk:Fn1:=⟨18,[.t 2],(.seq (.reg [o 2 (.mov (.k (.bool false)))]) (.seq (.seq (.reg [o 5 (.mov (.t 0)),o 6 (.len false (.t 5)),o 7 (.mov (.k (.int .i64 0)))]) (.blk 0 (.lop (.seq (.reg [o 8 (.bin .lss (.t 7) (.t 6))]) (.seq (.cnd (.t 8) .skip (.ext 0)) (.seq (.blk 1 (.seq (.reg [o 9 (.iad 1 (.t 5) (.t 7)),o 10 (.ld false 1 (.t 9)),o 4 (.mov (.t 10))]) (.seq (.reg [o 11 (.mov (.t 4)),o 12 (.call 74 [(.t 11),(.k (.int .i64 0)),(.k (.int .i64 1000))]),o 13 (.un .not (.t 12))]) (.cnd (.t 13) (.seq (.reg [o 2 (.mov (.k (.bool false)))]) .ret) .skip)))) (.reg [o 14 (.bin .add (.t 7) (.k (.int .i64 1))),o 7 (.mov (.t 14))]))))))) (.seq (.reg [o 15 (.mov (.t 0)),o 16 (.len false (.t 15)),o 17 (.bin .eql (.t 16) (.k (.int .i64 3))),o 2 (.mov (.t 17))]) .ret)))⟩
theorem ir_i_KnowOk:compFn Try.prog n_i_KnowOk=some F_i_KnowOk:=by kernel_rfl
abbrev n_s_DotOk:Nat:=62
def F_s_DotOk:Fn1:=⟨11,[.t 2],(.seq (.reg [o 1 (.box (.t 0)),o 2 (.mov (.k (.bool false)))]) (.seq (.reg [o 3 (.fad 0 (.t 1)),o 4 (.ld false 1 (.t 3)),o 5 (.call 60 [(.t 4),(.k (.int .i64 0)),(.k (.int .i64 2))]),o 6 (.mov (.t 5)),og 7 6 true (.fad 1 (.t 1)),og 8 6 true (.ld false 1 (.t 7)),og 9 6 true (.call 60 [(.t 8),(.k (.int .i64 1)),(.k (.int .i64 1000))]),o 10 (.pick (.t 6) (.t 9) (.k (.bool false))),o 2 (.mov (.t 10))]) .ret))⟩
theorem ir_s_DotOk:compFn Try.prog n_s_DotOk=some F_s_DotOk:=by kernel_rfl
abbrev n_i_DotOk:Nat:=80
def F_i_DotOk:Fn1:=⟨11,[.t 2],(.seq (.reg [o 1 (.box (.t 0)),o 2 (.mov (.k (.bool false)))]) (.seq (.reg [o 3 (.fad 0 (.t 1)),o 4 (.ld false 1 (.t 3)),o 5 (.call 74 [(.t 4),(.k (.int .i64 0)),(.k (.int .i64 2))]),o 6 (.mov (.t 5)),og 7 6 true (.fad 1 (.t 1)),og 8 6 true (.ld false 1 (.t 7)),og 9 6 true (.call 74 [(.t 8),(.k (.int .i64 1)),(.k (.int .i64 1000))]),o 10 (.pick (.t 6) (.t 9) (.k (.bool false))),o 2 (.mov (.t 10))]) .ret))⟩
theorem ir_i_DotOk:compFn Try.prog n_i_DotOk=some F_i_DotOk:=by kernel_rfl
abbrev n_s_Knows:Nat:=39
def F_s_Knows:Fn1:=⟨21,[.t 4],(.seq (.reg [o 3 (.box (.t 1)),o 4 (.mov (.k (.bool false)))]) (.seq (.drw [o 5 (.mov (.t 0)),o 6 (.call 35 [(.t 5)]),o 7 (.mov (.t 6)),og 8 7 true (.ld true 2 (.t 3)),og 9 7 true (.call 62 [(.t 8)]),o 10 (.pick (.t 7) (.t 9) (.k (.bool false))),o 11 (.mov (.t 10)),og 12 11 true (.fad 1 (.t 3)),og 13 11 true (.ld false 1 (.t 12)),og 14 11 true (.mov (.t 0)),og 15 11 true (.fad 0 (.t 3)),og 16 11 true (.ld false 1 (.t 15)),og 17 11 true (.iad 1 (.t 14) (.t 16)),og 18 11 true (.ld false 1 (.t 17))] [og 19 11 true (.bin .leq (.t 13) (.t 18)),o 20 (.pick (.t 11) (.t 19) (.k (.bool false))),o 4 (.mov (.t 20))]) .ret))⟩
theorem ir_s_Knows:compFn Try.prog n_s_Knows=some F_s_Knows:=by kernel_rfl
abbrev n_i_Knows:Nat:=58
def F_i_Knows:Fn1:=⟨21,[.t 4],(.seq (.reg [o 3 (.box (.t 1)),o 4 (.mov (.k (.bool false)))]) (.seq (.drw [o 5 (.mov (.t 0)),o 6 (.call 52 [(.t 5)]),o 7 (.mov (.t 6)),og 8 7 true (.ld true 2 (.t 3)),og 9 7 true (.call 80 [(.t 8)]),o 10 (.pick (.t 7) (.t 9) (.k (.bool false))),o 11 (.mov (.t 10)),og 12 11 true (.fad 1 (.t 3)),og 13 11 true (.ld false 1 (.t 12)),og 14 11 true (.mov (.t 0)),og 15 11 true (.fad 0 (.t 3)),og 16 11 true (.ld false 1 (.t 15)),og 17 11 true (.iad 1 (.t 14) (.t 16)),og 18 11 true (.ld false 1 (.t 17))] [og 19 11 true (.bin .leq (.t 13) (.t 18)),o 20 (.pick (.t 11) (.t 19) (.k (.bool false))),o 4 (.mov (.t 20))]) .ret))⟩
theorem ir_i_Knows:compFn Try.prog n_i_Knows=some F_i_Knows:=by kernel_rfl
abbrev n_s_l05Keyed:Nat:=83
def F_s_l05Keyed:Fn1:=⟨5,[.t 2],(.seq (.reg [o 2 (.mov (.k (.bool false)))]) (.seq (.reg [o 3 (.mov (.t 0)),o 4 (.call 60 [(.t 3),(.k (.int .i64 2)),(.k (.int .i64 5))]),o 2 (.mov (.t 4))]) .ret))⟩
theorem ir_s_l05Keyed:compFn Try.prog n_s_l05Keyed=some F_s_l05Keyed:=by kernel_rfl
abbrev n_s_l05Valued:Nat:=85
def F_s_l05Valued:Fn1:=⟨13,[.t 2],(.seq (.reg [o 2 (.mov (.k (.bool false)))]) (.seq (.reg [o 3 (.mov (.t 0)),o 4 (.bin .eql (.t 3) (.k (.int .i64 1))),o 5 (.mov (.t 4)),og 6 5 false (.mov (.t 0)),og 7 5 false (.bin .eql (.t 6) (.k (.int .i64 4))),o 8 (.pick (.t 5) (.k (.bool true)) (.t 7)),o 9 (.mov (.t 8)),og 10 9 false (.mov (.t 0)),og 11 9 false (.bin .eql (.t 10) (.k (.int .i64 6))),o 12 (.pick (.t 9) (.k (.bool true)) (.t 11)),o 2 (.mov (.t 12))]) .ret))⟩
theorem ir_s_l05Valued:compFn Try.prog n_s_l05Valued=some F_s_l05Valued:=by kernel_rfl
abbrev n_s_l05Plain:Nat:=95
def F_s_l05Plain:Fn1:=⟨45,[.t 8],(.seq (.reg [o 8 (.mov (.k (.bool false)))]) (.seq (.seq (.reg [o 9 (.mov (.t 0)),o 10 (.call 60 [(.t 9),(.k (.int .i64 1)),(.k (.int .i64 7))]),o 11 (.un .not (.t 10)),o 12 (.mov (.t 11)),og 13 12 false (.mov (.t 1)),og 14 12 false (.call 61 [(.t 13)]),og 15 12 false (.un .not (.t 14)),o 16 (.pick (.t 12) (.k (.bool true)) (.t 15)),o 17 (.mov (.t 16)),og 18 17 false (.mov (.t 0)),og 19 17 false (.call 83 [(.t 18)]),og 20 17 false (.mov (.t 19)),og 21 20 true (.mov (.t 2)),og 22 20 true (.call 61 [(.t 21)]),og 23 20 true (.un .not (.t 22)),og 24 17 false (.pick (.t 20) (.t 23) (.k (.bool false))),o 25 (.pick (.t 17) (.k (.bool true)) (.t 24)),o 26 (.mov (.t 25)),og 27 26 false (.mov (.t 0)),og 28 26 false (.call 83 [(.t 27)]),og 29 26 false (.un .not (.t 28)),og 30 26 false (.mov (.t 29)),og 31 30 true (.mov (.t 2)),og 32 30 true (.bin .neq (.t 31) (.k (.str ⟨#[]⟩))),og 33 26 false (.pick (.t 30) (.t 32) (.k (.bool false))),o 34 (.pick (.t 26) (.k (.bool true)) (.t 33))]) (.cnd (.t 34) (.seq (.reg [o 8 (.mov (.k (.bool false)))]) .ret) .skip)) (.seq (.reg [o 35 (.mov (.t 3)),o 36 (.bin .eql (.t 35) (.k (.int .i64 0))),o 37 (.mov (.t 36)),og 38 37 false (.mov (.t 0)),og 39 37 false (.call 85 [(.t 38)]),og 40 37 false (.mov (.t 39)),og 41 40 true (.mov (.t 3)),og 42 40 true (.call 60 [(.t 41),(.k (.int .i64 0)),(.k (.int .i64 999999))]),og 43 37 false (.pick (.t 40) (.t 42) (.k (.bool false))),o 44 (.pick (.t 37) (.k (.bool true)) (.t 43)),o 8 (.mov (.t 44))]) .ret)))⟩
theorem ir_s_l05Plain:compFn Try.prog n_s_l05Plain=some F_s_l05Plain:=by kernel_rfl
abbrev n_s_ActOk:Nat:=88
def F_s_ActOk:Fn1:=⟨71,[.t 2],(.seq (.reg [o 1 (.box (.t 0)),o 2 (.mov (.k (.bool false)))]) (.seq (.seq (.drw [o 3 (.fad 0 (.t 1)),o 4 (.ld true 2 (.t 3)),o 5 (.call 62 [(.t 4)]),o 6 (.un .not (.t 5)),o 7 (.mov (.t 6)),og 8 7 false (.fad 3 (.t 1)),og 9 7 false (.ld false 1 (.t 8)),og 10 7 false (.call 35 [(.t 9)]),og 11 7 false (.un .not (.t 10)),o 12 (.pick (.t 7) (.k (.bool true)) (.t 11)),o 13 (.mov (.t 12)),og 14 13 false (.fad 3 (.t 1)),og 15 13 false (.ld false 1 (.t 14)),og 16 13 false (.fad 0 (.t 1)),og 17 13 false (.fad 0 (.t 16)),og 18 13 false (.ld false 1 (.t 17)),og 19 13 false (.iad 1 (.t 15) (.t 18)),og 20 13 false (.ld false 1 (.t 19)),og 21 13 false (.fad 0 (.t 1)),og 22 13 false (.fad 1 (.t 21)),og 23 13 false (.ld false 1 (.t 22)),og 24 13 false (.bin .sub (.t 23) (.k (.int .i64 1))),og 25 13 false (.bin .neq (.t 20) (.t 24)),o 26 (.pick (.t 13) (.k (.bool true)) (.t 25)),o 27 (.mov (.t 26)),og 28 27 false (.fad 2 (.t 1)),og 29 27 false (.ld false 1 (.t 28)),og 30 27 false (.call 60 [(.t 29),(.k (.int .i64 1)),(.k (.int .i64 10000))]),og 31 27 false (.un .not (.t 30)),o 32 (.pick (.t 27) (.k (.bool true)) (.t 31)),o 33 (.mov (.t 32)),og 34 33 false (.fad 4 (.t 1)),og 35 33 false (.ld false 1 (.t 34)),og 36 33 false (.fad 5 (.t 1)),og 37 33 false (.ld false 1 (.t 36)),og 38 33 false (.fad 6 (.t 1)),og 39 33 false (.ld false 1 (.t 38)),og 40 33 false (.fad 7 (.t 1)),og 41 33 false (.ld false 1 (.t 40))] [og 42 33 false (.call 95 [(.t 35),(.t 37),(.t 39),(.t 41)]),og 43 33 false (.un .not (.t 42)),o 44 (.pick (.t 33) (.k (.bool true)) (.t 43))]) (.cnd (.t 44) (.seq (.reg [o 2 (.mov (.k (.bool false)))]) .ret) .skip)) (.seq (.seq (.reg [o 45 (.fad 4 (.t 1)),o 46 (.ld false 1 (.t 45))]) (.blk 0 (.seq (.reg [o 48 (.bin .eql (.t 46) (.k (.int .i64 7))),o 47 (.mov (.t 48))]) (.cnd (.t 47) (.seq (.reg [o 49 (.fad 3 (.t 1)),o 50 (.ld false 1 (.t 49)),o 51 (.fad 8 (.t 1)),o 52 (.ld true 2 (.t 51)),o 53 (.call 39 [(.t 50),(.t 52)]),o 2 (.mov (.t 53))]) .ret) (.seq (.reg [o 55 (.bin .eql (.t 46) (.k (.int .i64 6))),o 54 (.mov (.t 55))]) (.cnd (.t 54) (.seq (.reg [o 56 (.fad 8 (.t 1)),o 57 (.ld true 2 (.t 56)),o 58 (.build [(.int .i64 0),(.int .i64 0)] []),o 59 (.eqs false [.i .i64,.i .i64] (.t 57) (.t 58)),o 60 (.mov (.t 59)),og 61 60 false (.fad 3 (.t 1)),og 62 60 false (.ld false 1 (.t 61)),og 63 60 false (.fad 8 (.t 1)),og 64 60 false (.ld true 2 (.t 63)),og 65 60 false (.call 39 [(.t 62),(.t 64)]),o 66 (.pick (.t 60) (.k (.bool true)) (.t 65)),o 2 (.mov (.t 66))]) .ret) .skip)))))) (.seq (.reg [o 67 (.fad 8 (.t 1)),o 68 (.ld true 2 (.t 67)),o 69 (.build [(.int .i64 0),(.int .i64 0)] []),o 70 (.eqs false [.i .i64,.i .i64] (.t 68) (.t 69)),o 2 (.mov (.t 70))]) .ret))))⟩
theorem ir_s_ActOk:compFn Try.prog n_s_ActOk=some F_s_ActOk:=by kernel_rfl
theorem by_bool {P:Program} {env:Env} {σ:St} {K:Kt} {r:List Op1} {d:Option Nat} {D:Bool} {f:Nat} {args:List GV} {b:Bool} (h:Ret P f args σ (.bool b) σ) (ht:b=true→vcOps D P r K (upo env d (.bool true)) σ) (hf:b=false→vcOps D P r K (upo env d (.bool false)) σ):bindC D f args P r K env d σ:=by
 cases b with
 |true=>exact by_ret h (ht rfl)
 |false=>exact by_ret h (hf rfl)
def inB (n a b:Int):Bool:=decide (a≤n)&&decide (n≤b)
theorem inB_iff {n a b:Int}:inB n a b=true↔a≤n∧n≤b:=by simp[inB]
theorem s_l01In_ret (σ:St) (n a b:Int):Ret Try.prog n_s_l01In [gi n,gi a,gi b] σ (.bool (inB n a b)) σ:=by
 refine ret_eq ir_s_l01In (Nat.le_of_ble_eq_true rfl) trivial ?_
 simp +contextual (disch:=omega) only[go_sem,F_s_l01In,inB]
theorem i_within_ret (σ:St) (n a b:Int):Ret Try.prog n_i_within [gi n,gi a,gi b] σ (.bool (inB n a b)) σ:=by
 refine ret_eq ir_i_within (Nat.le_of_ble_eq_true rfl) trivial ?_
 simp +contextual (disch:=omega) only[go_sem,F_i_within,inB]
def bl (s:ByteArray):List UInt8:=s.data.toList
theorem bl_length (s:ByteArray):(bl s).length=s.size:=by
 unfold bl;rw[Array.length_toList];rfl
theorem idx_at {s:ByteArray} {i:Nat} (hi:i<(bl s).length):idxG (.str s) (some i)=some (.int .u8 (((bl s)[i].toNat:Nat):Int)):=by
 have h2:i<s.size:=by rw[← bl_length];exact hi
 have e:s[i]? =some (bl s)[i]:=by
  rw[getElem?_pos s i h2];rfl
 simp only[idxG,e,Option.map_some];rfl
theorem u8_lt (b:UInt8):b.toNat<256:=b.toNat_lt
def lowB (b:UInt8):Bool:=inB (b.toNat:Int) 97 122
def nameOk (s:ByteArray):Bool:=(bl s).all lowB&&inB s.size 1 8
theorem s_NameOk_ret (σ:St) (s:ByteArray) (hs:s.size≤1099511627776):Ret Try.prog n_s_NameOk [.str s] σ (.bool (nameOk s)) σ:=by
 refine ret_eq ir_s_NameOk (Nat.le_of_ble_eq_true rfl) trivial ?_
 simp +contextual (disch:=omega) only[go_sem,F_s_NameOk]
 refine vc_for (bl s).length 3 (fun i env τ=>env 0= .str s∧((bl s).take i).all lowB=true∧σ <+: τ) rfl ⟨rfl,rfl,List.prefix_refl _⟩ ?_ ?_
 ·rintro i env τ hi e3 c0 ⟨e0,ha,hp⟩
  have hl:=bl_length s
  rw[hl] at c0
  have hf:=fun h=>all_false_at (p:=lowB) hi h
  have ht:=take_all_succ hi ha
  simp +contextual (disch:=omega) only[go_sem,c0,e0,e3,idx_at hi,hp]
  simp only[lowB,inB,nameOk] at*
  generalize(((bl s)[i].toNat:Nat):Int)=b at*
  grind
 ·rintro env τ e3 c0 ⟨e0,ha,hp⟩
  rw[List.take_length] at ha
  rw[bl_length] at c0 e3
  simp +contextual (disch:=omega) only[go_sem,c0,e0,e3]
  refine by_ret (s_l01In_ret τ _ _ _) ?_
  simp +contextual (disch:=omega) only[go_sem,nameOk,ha,hp]
theorem i_NameOk_ret (σ:St) (s:ByteArray) (hs:s.size≤1099511627776):Ret Try.prog n_i_NameOk [.str s] σ (.bool (nameOk s)) σ:=by
 refine ret_eq ir_i_NameOk (Nat.le_of_ble_eq_true rfl) trivial ?_
 simp +contextual (disch:=omega) only[go_sem,F_i_NameOk]
 refine vc_for (bl s).length 3 (fun i env τ=>env 0= .str s∧((bl s).take i).all lowB=true∧σ <+: τ) rfl ⟨rfl,rfl,List.prefix_refl _⟩ ?_ ?_
 ·rintro i env τ hi e3 c0 ⟨e0,ha,hp⟩
  have hl:=bl_length s
  rw[hl] at c0
  have hf:=fun h=>all_false_at (p:=lowB) hi h
  have ht:=take_all_succ hi ha
  have h8:=u8_lt (bl s)[i]
  simp +contextual (disch:=omega) only[go_sem,c0,e0,e3,idx_at hi,cvi_int]
  refine by_bool (i_within_ret τ _ _ _) (fun h=> ?_) (fun h=> ?_)
  ·simp +contextual (disch:=omega) only[go_sem,e0,e3,hp]
   exact ht h
  ·simp +contextual (disch:=omega) only[go_sem,e0,e3,hp]
   simp[nameOk,hf h]
 ·rintro env τ e3 c0 ⟨e0,ha,hp⟩
  rw[List.take_length] at ha
  rw[bl_length] at c0 e3
  simp +contextual (disch:=omega) only[go_sem,c0,e0,e3]
  refine by_ret (i_within_ret τ _ _ _) ?_
  simp +contextual (disch:=omega) only[go_sem,nameOk,ha,hp]
def seqB (n:Int):Bool:=inB n 0 1000
def okK (l:List Int):Bool:=l.all seqB&&decide (l.length=3)
theorem okK_len {l:List Int} (h:okK l=true):l.length=3:=by
 simp only[okK,Bool.and_eq_true,decide_eq_true_eq] at h
 exact h.2
theorem okK_mem {l:List Int} (h:okK l=true) {x:Int} (hx:x∈l):0≤x∧x≤1000:=by
 simp only[okK,Bool.and_eq_true,List.all_eq_true] at h
 exact inB_iff.1 (h.1 x hx)
theorem s_KnowOk_ret (σ:St) (v:GV) (l:List Int) (h:RS pI.kd σ v l) (hl:l.length≤1099511627776):Ret Try.prog n_s_KnowOk [v] σ (.bool (okK l)) σ:=by
 refine ret_eq ir_s_KnowOk (Nat.le_of_ble_eq_true rfl) trivial ?_
 simp +contextual (disch:=omega) only[go_sem,F_s_KnowOk]
 refine vc_for l.length 3 (fun i env τ=>env 0=v∧(l.take i).all seqB=true∧σ <+: τ) rfl ⟨rfl,rfl,List.prefix_refl _⟩ ?_ ?_
 ·rintro i env τ hi e3 c0 ⟨e0,ha,hp⟩
  have hf:=fun h=>all_false_at (p:=seqB) hi h
  have ht:=take_all_succ hi ha
  simp +contextual (disch:=omega) only[go_sem,c0,e0,e3,h.len,int_at (h.pre hp) hi]
  refine by_bool (s_l01In_ret τ _ _ _) (fun h=> ?_) (fun h=> ?_)
  ·simp +contextual (disch:=omega) only[go_sem,e0,e3,hp]
   exact ht h
  ·simp +contextual (disch:=omega) only[go_sem,e0,e3,hp]
   simp[okK,hf h]
 ·rintro env τ e3 c0 ⟨e0,ha,hp⟩
  rw[List.take_length] at ha
  simp +contextual (disch:=omega) only[go_sem,c0,e0,e3,h.len,hp,okK,ha]
  exact len_beq
theorem i_KnowOk_ret (σ:St) (v:GV) (l:List Int) (h:RS pI.kd σ v l) (hl:l.length≤1099511627776):Ret Try.prog n_i_KnowOk [v] σ (.bool (okK l)) σ:=by
 refine ret_eq ir_i_KnowOk (Nat.le_of_ble_eq_true rfl) trivial ?_
 simp +contextual (disch:=omega) only[go_sem,F_i_KnowOk,h.len]
 refine vc_for l.length 7 (fun i env τ=>env 0=v∧env 5=v∧env 6=gi l.length∧(l.take i).all seqB=true∧σ <+: τ) rfl ⟨rfl,rfl,rfl,rfl,List.prefix_refl _⟩ ?_ ?_
 ·rintro i env τ hi e7 c0 ⟨e0,e5,e6,ha,hp⟩
  have hf:=fun h=>all_false_at (p:=seqB) hi h
  have ht:=take_all_succ hi ha
  simp +contextual (disch:=omega) only[go_sem,c0,e0,e5,e6,e7,h.len,int_at (h.pre hp) hi]
  refine by_bool (i_within_ret τ _ _ _) (fun h=> ?_) (fun h=> ?_)
  ·simp +contextual (disch:=omega) only[go_sem,e0,e5,e6,e7,hp]
   exact ht h
  ·simp +contextual (disch:=omega) only[go_sem,e0,e5,e6,e7,hp]
   simp[okK,hf h]
 ·rintro env τ e7 c0 ⟨e0,e5,e6,ha,hp⟩
  rw[List.take_length] at ha
  simp +contextual (disch:=omega) only[go_sem,c0,e0,e5,e6,e7,h.len,hp,okK,ha]
  exact len_beq
def dotOk (d:Dot):Bool:=inB d.rep 0 2&&inB d.seq 1 1000
theorem dotOk_iff {d:Dot}:dotOk d=true↔(0≤d.rep∧d.rep≤2)∧1≤d.seq∧d.seq≤1000:=by simp[dotOk,inB_iff]
theorem s_DotOk_ret (σ:St) (d:Dot):Ret Try.prog n_s_DotOk [.agg [gi d.rep,gi d.seq]] σ (.bool (dotOk d)) σ:=by
 refine ret_eq ir_s_DotOk (Nat.le_of_ble_eq_true rfl) trivial ?_
 simp +contextual (disch:=omega) only[go_sem,F_s_DotOk]
 refine by_bool (s_l01In_ret _ _ _ _) (fun h=> ?_) (fun h=> ?_)
 ·simp +contextual (disch:=omega) only[go_sem]
  refine by_ret (s_l01In_ret _ _ _ _) ?_
  simp +contextual (disch:=omega) only[go_sem,dotOk,h]
 ·simp +contextual (disch:=omega) only[go_sem,dotOk,h]
theorem i_DotOk_ret (σ:St) (d:Dot):Ret Try.prog n_i_DotOk [.agg [gi d.rep,gi d.seq]] σ (.bool (dotOk d)) σ:=by
 refine ret_eq ir_i_DotOk (Nat.le_of_ble_eq_true rfl) trivial ?_
 simp +contextual (disch:=omega) only[go_sem,F_i_DotOk]
 refine by_bool (i_within_ret _ _ _ _) (fun h=> ?_) (fun h=> ?_)
 ·simp +contextual (disch:=omega) only[go_sem]
  refine by_ret (i_within_ret _ _ _ _) ?_
  simp +contextual (disch:=omega) only[go_sem,dotOk,h]
 ·simp +contextual (disch:=omega) only[go_sem,dotOk,h]
def at0 (l:List Int) (r:Int):Int:=l.getD r.toNat 0
def knows (k:List Int) (d:Dot):Bool:=okK k&&dotOk d&&decide (d.seq≤at0 k d.rep)
theorem natOf_pos {k:IntKind} {n:Int} (h:0≤n):natOf (some (.int k n))=some n.toNat:=by simp[natOf,h]
theorem rep_at {σ:St} {v:GV} {l:List Int} {r:Int} (h:RS pI.kd σ v l) (hk:okK l=true) (h0:0≤r) (h2:r≤2):(natOf (some (gi r))=some r.toNat∧iadG 1 v (some r.toNat)=some (atz 1 v r.toNat))∧ldG false 1 σ (atz 1 v r.toNat)=some (gi (at0 l r)):=by
 have hl:=okK_len hk
 have hi:r.toNat<l.length:=by omega
 have e:=int_at h hi
 refine⟨⟨natOf_pos h0,e.1⟩,?_⟩
 rw[e.2,at0,List.getD_eq_getElem?_getD,List.getElem?_eq_getElem hi];rfl
theorem s_Knows_ret (σ:St) (v:GV) (k:List Int) (d:Dot) (h:RS pI.kd σ v k) (hl:k.length≤1099511627776):Ret Try.prog n_s_Knows [v,.agg [gi d.rep,gi d.seq]] σ (.bool (knows k d)) σ:=by
 refine ret_eq ir_s_Knows (Nat.le_of_ble_eq_true rfl) trivial ?_
 simp +contextual (disch:=omega) only[go_sem,F_s_Knows]
 have h1:=h.pre (pre1 σ (some (Blk.row 1 [gi d.rep,gi d.seq])))
 refine by_bool (s_KnowOk_ret _ v k h1 hl) (fun hk=> ?_) (fun hk=> ?_)
 ·simp +contextual (disch:=omega) only[go_sem]
  refine by_bool (s_DotOk_ret _ d) (fun hd=> ?_) (fun hd=> ?_)
  ·have hd':=dotOk_iff.1 hd
   have hr:=rep_at h1 hk hd'.1.1 hd'.1.2
   simp +contextual (disch:=omega) only[go_sem,hr,knows,hk,hd]
  ·simp +contextual (disch:=omega) only[go_sem,knows,hk,hd]
 ·simp +contextual (disch:=omega) only[go_sem,knows,hk]
theorem i_Knows_ret (σ:St) (v:GV) (k:List Int) (d:Dot) (h:RS pI.kd σ v k) (hl:k.length≤1099511627776):Ret Try.prog n_i_Knows [v,.agg [gi d.rep,gi d.seq]] σ (.bool (knows k d)) σ:=by
 refine ret_eq ir_i_Knows (Nat.le_of_ble_eq_true rfl) trivial ?_
 simp +contextual (disch:=omega) only[go_sem,F_i_Knows]
 have h1:=h.pre (pre1 σ (some (Blk.row 1 [gi d.rep,gi d.seq])))
 refine by_bool (i_KnowOk_ret _ v k h1 hl) (fun hk=> ?_) (fun hk=> ?_)
 ·simp +contextual (disch:=omega) only[go_sem]
  refine by_bool (i_DotOk_ret _ d) (fun hd=> ?_) (fun hd=> ?_)
  ·have hd':=dotOk_iff.1 hd
   have hr:=rep_at h1 hk hd'.1.1 hd'.1.2
   simp +contextual (disch:=omega) only[go_sem,hr,knows,hk,hd]
  ·simp +contextual (disch:=omega) only[go_sem,knows,hk,hd]
 ·simp +contextual (disch:=omega) only[go_sem,knows,hk]
end Go.Proofs.Ytbeoiejnogdkpaa.Sy
namespace Go.Proofs.Ytbeoiejnogdkpaa.Sy
open Go Go.RowKit
set_option linter.unusedSimpArgs false
set_option linter.unusedVariables false
abbrev n_s_l04Know:Nat:=68
def F_s_l04Know:Fn1:=⟨16,[.t 2],(.seq (.reg [o 2 (.mov (.k .nilS))]) (.seq (.reg [o 5 (.lit 1 0 [] []),o 3 (.mov (.t 5))]) (.seq (.seq (.reg [o 4 (.mov (.k (.int .i64 0)))]) (.blk 0 (.lop (.seq (.seq (.reg [o 6 (.mov (.t 4)),o 7 (.bin .lss (.t 6) (.k (.int .i64 3)))]) (.cnd (.t 7) .skip (.ext 0))) (.seq (.blk 1 (.reg [o 10 (.mov (.t 3)),o 11 (.mov (.t 0)),o 12 (.call 30 [(.t 11),(.k (.int .i64 5))]),o 13 (.lit 1 1 [(.int .i64 0)] [(0,1,(.t 12))]),o 14 (.app 1 8 [(.int .i64 0)] (.t 10) (.t 13)),o 3 (.mov (.t 14))])) (.reg [o 8 (.mov (.t 4)),o 9 (.bin .add (.t 8) (.k (.int .i64 1))),o 4 (.mov (.t 9))])))))) (.seq (.reg [o 15 (.mov (.t 3)),o 2 (.mov (.t 15))]) .ret))))⟩
def low5 (l:List Int):Prop:=l.length=3∧∀ x∈l,0≤x∧x<5
end Go.Proofs.Ytbeoiejnogdkpaa.Sy
namespace Go.Proofs.Ytbeoiejnogdkpaa.Sy
open Go Go.RowKit
set_option linter.unusedSimpArgs false
set_option linter.unusedVariables false
@[go_sem] theorem bit_tup {vs:List GV}:(GV.tup vs).bit=none:=(rfl)
def keyed (k:Int):Bool:=inB k 2 5
def valued (k:Int):Bool:=k==1||k==4||k==6
def noS:ByteArray:=⟨#[]⟩
theorem s_Keyed_ret (σ:St) (k:Int):Ret Try.prog n_s_l05Keyed [gi k] σ (.bool (keyed k)) σ:=by
 refine ret_eq ir_s_l05Keyed (Nat.le_of_ble_eq_true rfl) trivial ?_
 simp +contextual (disch:=omega) only[go_sem,F_s_l05Keyed]
 refine by_ret (s_l01In_ret _ _ _ _) ?_
 simp +contextual (disch:=omega) only[go_sem,keyed]
theorem s_Valued_ret (σ:St) (k:Int):Ret Try.prog n_s_l05Valued [gi k] σ (.bool (valued k)) σ:=by
 refine ret_eq ir_s_l05Valued (Nat.le_of_ble_eq_true rfl) trivial ?_
 simp +contextual (disch:=omega) only[go_sem,F_s_l05Valued,valued]
 grind
def valOk (kind val:Int):Bool:=val==0||valued kind&&inB val 0 999999
def plainOk (kind:Int) (obj key:ByteArray) (val:Int):Bool:=inB kind 1 7&&(nameOk obj&&((if keyed kind then nameOk key else decide (key=noS))&&valOk kind val))
theorem s_Plain_ret (σ:St) (kind:Int) (obj key:ByteArray) (val:Int) (ho:obj.size≤1099511627776) (hk:key.size≤1099511627776):Ret Try.prog n_s_l05Plain [gi kind,.str obj,.str key,gi val] σ (.bool (plainOk kind obj key val)) σ:=by
 refine ret_eq ir_s_l05Plain (Nat.le_of_ble_eq_true rfl) trivial ?_
 simp +contextual (disch:=omega) only[go_sem,F_s_l05Plain]
 refine by_bool (s_l01In_ret _ _ _ _) (fun h1=> ?_) (fun h1=> ?_)
 ·simp +contextual (disch:=omega) only[go_sem]
  refine by_bool (s_NameOk_ret _ obj ho) (fun h2=> ?_) (fun h2=> ?_)
  ·simp +contextual (disch:=omega) only[go_sem]
   refine by_bool (s_Keyed_ret _ _) (fun h3=> ?_) (fun h3=> ?_)
   ·simp +contextual (disch:=omega) only[go_sem]
    refine by_bool (s_NameOk_ret _ key hk) (fun h4=> ?_) (fun h4=> ?_)
    ·simp +contextual (disch:=omega) only[go_sem]
     refine by_bool (s_Keyed_ret _ _) (fun h3=> ?_) (fun h3'=>by rw[h3] at h3';cases h3')
     simp +contextual (disch:=omega) only[go_sem]
     cases hv:(val==0) with
     |true=>simp +contextual (disch:=omega) only[go_sem,plainOk,h1,h2,h3,h4,valOk,hv,Bool.true_or]
     |false=>
      simp +contextual (disch:=omega) only[go_sem,hv]
      refine by_bool (s_Valued_ret _ _) (fun h5=> ?_) (fun h5=> ?_)
      ·simp +contextual (disch:=omega) only[go_sem]
       refine by_ret (s_l01In_ret _ _ _ _) ?_
       simp +contextual (disch:=omega) only[go_sem,plainOk,h1,h2,h3,h4,h5,valOk,hv,Bool.false_or]
      ·simp +contextual (disch:=omega) only[go_sem,plainOk,h1,h2,h3,h4,h5,valOk,hv,Bool.false_or]
    ·simp +contextual (disch:=omega) only[go_sem,plainOk,h1,h2,h3,h4]
   ·simp +contextual (disch:=omega) only[go_sem]
    refine by_bool (s_Keyed_ret _ _) (fun h3'=>by rw[h3] at h3';cases h3') (fun h3=> ?_)
    simp +contextual (disch:=omega) only[go_sem]
    cases hq:decide (key=noS) with
    |false=>
     have hq':decide (key={data:= #[]})=false:=hq
     simp +contextual (disch:=omega) only[go_sem,hq',plainOk,h1,h2,h3,hq]
    |true=>
     have hq':decide (key={data:= #[]})=true:=hq
     simp +contextual (disch:=omega) only[go_sem,hq']
     cases hv:(val==0) with
     |true=>simp +contextual (disch:=omega) only[go_sem,plainOk,h1,h2,h3,hq,valOk,hv,Bool.true_or]
     |false=>
      simp +contextual (disch:=omega) only[go_sem,hv]
      refine by_bool (s_Valued_ret _ _) (fun h5=> ?_) (fun h5=> ?_)
      ·simp +contextual (disch:=omega) only[go_sem]
       refine by_ret (s_l01In_ret _ _ _ _) ?_
       simp +contextual (disch:=omega) only[go_sem,plainOk,h1,h2,h3,hq,h5,valOk,hv,Bool.false_or]
      ·simp +contextual (disch:=omega) only[go_sem,plainOk,h1,h2,h3,hq,h5,valOk,hv,Bool.false_or]
  ·simp +contextual (disch:=omega) only[go_sem,plainOk,h1,h2]
 ·simp +contextual (disch:=omega) only[go_sem,plainOk,h1]
def d0:Dot:=⟨0,0⟩
def refOk (a:Act):Bool:=if a.kind==7 then knows a.knew a.ref else if a.kind==6 then decide (a.ref=d0)||knows a.knew a.ref else decide (a.ref=d0)
def actHead (a:Act):Bool:=dotOk a.dot&&(okK a.knew&&(decide (at0 a.knew a.dot.rep=a.dot.seq - 1)&&inB a.time 1 10000))
def actOk (a:Act):Bool:=actHead a&&(plainOk a.kind a.obj a.key a.val&&refOk a)
theorem s_ActOk_ret (σ:St) (cs:List GV) (a:Act) (hR:kAct.R σ a cs) (hl:msAct a≤1099511627776):Ret Try.prog n_s_ActOk [.agg cs] σ (.bool (actOk a)) σ:=by
 obtain⟨v,rfl,h⟩:=hR
 unfold msAct at hl
 have h1:=h.pre (pre1 σ (some (Blk.row 1 [.int .i64 a.dot.rep,.int .i64 a.dot.seq,.int .i64 a.time,v,.int .i64 a.kind,.str a.obj,.str a.key,.int .i64 a.val,.int .i64 a.ref.rep,.int .i64 a.ref.seq])))
 refine ret_eq ir_s_ActOk (Nat.le_of_ble_eq_true rfl) trivial ?_
 simp +contextual (disch:=omega) only[go_sem,F_s_ActOk]
 refine by_bool (s_DotOk_ret _ a.dot) (fun hd=> ?_) (fun hd=> ?_)
 ·simp +contextual (disch:=omega) only[go_sem]
  refine by_bool (s_KnowOk_ret _ v a.knew h1 (by omega)) (fun hk=> ?_) (fun hk=> ?_)
  ·have hd':=dotOk_iff.1 hd
   have hr:=rep_at h1 hk hd'.1.1 hd'.1.2
   cases he:(at0 a.knew a.dot.rep==a.dot.seq - 1) with
   |false=>
    have he':decide (at0 a.knew a.dot.rep=a.dot.seq - 1)=false:=he
    simp +contextual (disch:=omega) only[go_sem,hr,bne,he,actOk,actHead,hd,hk,he']
   |true=>
    have he':decide (at0 a.knew a.dot.rep=a.dot.seq - 1)=true:=he
    simp +contextual (disch:=omega) only[go_sem,hr,bne,he]
    refine by_bool (s_l01In_ret _ _ _ _) (fun ht=> ?_) (fun ht=> ?_)
    ·have hh:actHead a=true:=by simp only[actHead,hd,hk,he',ht,Bool.and_self]
     simp +contextual (disch:=omega) only[go_sem]
     refine by_bool (s_Plain_ret _ _ _ _ _ (by omega) (by omega)) (fun hp=> ?_) (fun hp=> ?_)
     ·simp +contextual (disch:=omega) only[go_sem]
      cases h7:(a.kind==7) with
      |true=>
       simp +contextual (disch:=omega) only[go_sem,h7]
       refine by_ret (s_Knows_ret _ v a.knew a.ref h1 (by omega)) ?_
       simp +contextual (disch:=omega) only[go_sem,actOk,hh,hp,refOk,h7]
      |false=>
       cases h6:(a.kind==6) with
       |false=>
        simp +contextual (disch:=omega) only[go_sem,h7,h6,actOk,hh,hp,refOk,d0]
        rfl
       |true=>
        simp +contextual (disch:=omega) only[go_sem,h7,h6]
        cases hz:decide (a.ref=d0) with
        |true=>
         have hz':decide (a.ref={rep:=0,seq:=0})=true:=hz
         simp +contextual (disch:=omega) only[go_sem,hz',actOk,hh,hp,refOk,h7,h6,hz,Bool.true_or]
        |false=>
         have hz':decide (a.ref={rep:=0,seq:=0})=false:=hz
         simp +contextual (disch:=omega) only[go_sem,hz']
         refine by_ret (s_Knows_ret _ v a.knew a.ref h1 (by omega)) ?_
         simp +contextual (disch:=omega) only[go_sem,actOk,hh,hp,refOk,h7,h6,hz,Bool.false_or]
     ·simp +contextual (disch:=omega) only[go_sem,actOk,hh,hp]
    ·simp +contextual (disch:=omega) only[go_sem,actOk,actHead,hd,hk,he',ht]
  ·simp +contextual (disch:=omega) only[go_sem,actOk,actHead,hd,hk]
 ·simp +contextual (disch:=omega) only[go_sem,actOk,actHead,hd]
end Go.Proofs.Ytbeoiejnogdkpaa.Sy
namespace Go.Proofs.Ytbeoiejnogdkpaa.Sy
open Go Go.RowKit
set_option linter.unusedSimpArgs false
set_option linter.unusedVariables false
def eD (p:Dot×Int):GV×GV:=(.agg [gi p.1.rep,gi p.1.seq],gi p.2)
def dlook (ps:List (Dot×Int)) (d:Dot):Option Int:=(ps.find? fun p=>decide (d=p.1)).map (·.2)
def mpt (m:GV) (ps:List (Dot×Int)):Thg:=⟨fun σ fp=>∃ g,m= .mp g∧fp=[g]∧bk σ g=some (.map (ps.map eD)),fun⟨g,h1,h2,h3⟩ hf=>⟨g,h1,h2,by rw[hf g (by rw[h2];exact List.mem_cons_self)];exact h3⟩⟩
def dks:List Sc:=[.i .i64,.i .i64]
theorem findG_dots (d:Dot):∀(ps:List (Dot×Int)) (i:Nat),∃ q,findG [.i .i64,.i .i64] [gi d.rep,gi d.seq] (ps.map eD) i=some q∧match dlook ps d with
  |some v=>∃ j,q=some (j,gi v)
  |none=>q=none
 |[],i=>⟨none,rfl,rfl⟩
 |p::ps,i=>by
  obtain⟨q,h1,h2⟩:=findG_dots d ps (i+1)
  have e:scsEq [.i .i64,.i .i64] [gi d.rep,gi d.seq] [gi p.1.rep,gi p.1.seq]=some (decide (d=p.1)):=by
   have:decide (d=p.1)=(decide (d.rep=p.1.rep)&&decide (d.seq=p.1.seq)):=by
    rw[Bool.eq_iff_iff]
    simp only[decide_eq_true_eq,Bool.and_eq_true]
    constructor
    ·rintro rfl;exact⟨rfl,rfl⟩
    ·rintro⟨h3,h4⟩;cases d;cases hp:p.1;simp_all
   rw[this]
   simp only[scsEq,scEq,and_self,if_true,Option.bind_some,Option.map_some,Bool.and_true,Option.some.injEq]
   rw[Bool.eq_iff_iff];simp
  by_cases hd:d=p.1
  ·refine⟨some (i,gi p.2),?_,?_⟩
   ·simp only[List.map_cons,eD,findG] at e ⊢
    rw[e];simp[hd]
   ·have:dlook (p::ps) d=some p.2:=by simp[dlook,hd]
    rw[this];exact⟨i,rfl⟩
  ·refine⟨q,?_,?_⟩
   ·simp only[List.map_cons,eD,findG] at e ⊢
    rw[e];simp only[hd,decide_false,Option.bind_some,Bool.false_eq_true,if_false]
    exact h1
   ·have:dlook (p::ps) d=dlook ps d:=by simp[dlook,hd]
    rw[this];exact h2
namespace Hp
variable {σ τ:St} {rs:List Thg}
theorem newMap (H:Hp σ τ rs):Hp σ (τ++[some (.map [])]) (mpt (.mp τ.length) []::rs):=
 H.add (rs':=[mpt (.mp τ.length) []]) ⟨List.prefix_append _ _,[τ.length],⟨[τ.length],[],⟨_,rfl,rfl,bk_app_at⟩,rfl,rfl⟩,by simp,by simp⟩
theorem mup (H:Hp σ τ rs) (i:Nat) {m:GV} {ps:List (Dot×Int)} (hi:rs[i]? =some (mpt m ps)) (d:Dot) (n:Int) (h:dlook ps d=none):
  ∃ τ',mupG τ [.i .i64,.i .i64] m (.agg [gi d.rep,gi d.seq]) (gi n)=some (.tup [],τ')∧Hp σ τ' (rs.set i (mpt m (ps++[(d,n)]))):=by
 obtain⟨a,⟨g,rfl,rfl,hB⟩,hnd,hbd,ht⟩:=(H.pick i hi).turn
 have hlt:=(hbd g List.mem_cons_self).2
 obtain⟨q,h1,h2⟩:=findG_dots d ps 0
 rw[h] at h2
 subst h2
 refine⟨τ.set g (some (.map ((ps++[(d,n)]).map eD))),?_,unpick (ht (a':=[g]) ⟨by simp,fun g' h=>.inl h,by simp,fun g' h h'=>bk_set_ne fun e=>h' (by rw[e];exact List.mem_cons_self)⟩ ⟨g,rfl,rfl,bk_some.2 (by rw[List.getElem?_set_self hlt])⟩) (List.getElem?_eq_some_iff.1 hi).1⟩
 simp only[mupG,mpG,bk_some.1 hB,Option.bind_some,keyG,List.length_cons,List.length_nil,if_true]
 rw[h1]
 simp[notTup,isNew,eD]
theorem mlk (H:Hp σ τ rs) (i:Nat) {m:GV} {ps:List (Dot×Int)} (hi:rs[i]? =some (mpt m ps)) (d:Dot):
  mlkG τ [.i .i64,.i .i64] (gi 0) true m (.agg [gi d.rep,gi d.seq])=some (.tup [gi ((dlook ps d).getD 0),.bool (dlook ps d).isSome]):=by
 obtain⟨a,⟨g,rfl,rfl,hB⟩,_⟩:=H.see hi
 obtain⟨q,h1,h2⟩:=findG_dots d ps 0
 simp only[mlkG,mpG,bk_some.1 hB,Option.bind_some,keyG,List.length_cons,List.length_nil,if_true]
 rw[h1]
 cases hl:dlook ps d with
 |none=>rw[hl] at h2;subst h2;rfl
 |some v=>rw[hl] at h2;obtain⟨j,rfl⟩:=h2;rfl
end Hp
end Go.Proofs.Ytbeoiejnogdkpaa.Sy
namespace Go.Proofs.Ytbeoiejnogdkpaa.Sy
open Go Go.RowKit
set_option linter.unusedSimpArgs false
set_option linter.unusedVariables false
theorem bytesLess_lt:∀(x y:List UInt8),Op.bytesLess x y=decide (x<y)
 |_,[]=>by simp[Op.bytesLess]
 |[],_::_=>by simp[Op.bytesLess]
 |a::x,b::y=>by
  rw[Op.bytesLess,bytesLess_lt x y,Bool.eq_iff_iff]
  simp only[Bool.or_eq_true,decide_eq_true_eq,Bool.and_eq_true,beq_iff_eq,List.cons_lt_cons_iff]
def txLt (a b:ByteArray):Bool:=Op.bytesLess a.toList b.toList
theorem toList_inj {a b:ByteArray} (h:a.toList=b.toList):a=b:=by
 have:=toList_beq (a:=a) (b:=b)
 rw[h] at this
 simpa using this.symm
theorem txLt_irr (a:ByteArray):txLt a a=false:=by
 rw[txLt,bytesLess_lt];simp
theorem txLt_trans {a b c:ByteArray} (h1:txLt a b=true) (h2:txLt b c=true):txLt a c=true:=by
 rw[txLt,bytesLess_lt,decide_eq_true_eq] at*
 exact List.lt_trans h1 h2
theorem txLt_asym {a b:ByteArray} (h1:txLt a b=true):txLt b a=false:=by
 cases h:txLt b a with
 |false=>rfl
 |true=>have:=txLt_trans h1 h;rw[txLt_irr] at this;cases this
theorem txLt_tri {a b:ByteArray} (h1:txLt a b=false) (h2:txLt b a=false):a=b:=by
 rw[txLt,bytesLess_lt,decide_eq_false_iff_not] at*
 exact toList_inj (List.le_antisymm (List.not_lt.1 h2) (List.not_lt.1 h1))
@[go_sem] theorem bin_slss {a b:ByteArray}:binG .lss (.str a) (.str b)=some (.bool (txLt a b)):=(rfl)
@[go_sem] theorem bin_sgtr {a b:ByteArray}:binG .gtr (.str a) (.str b)=some (.bool (txLt b a)):=by
 have:(!(txLt a b||decide (a=b)))=txLt b a:=by
  by_cases h:a=b
  ·subst h;simp[txLt_irr]
  ·cases h1:txLt a b with
   |true=>rw[txLt_asym h1];simp
   |false=>
    cases h2:txLt b a with
    |true=>simp[h]
    |false=>exact absurd (txLt_tri h1 h2) h
 simp only[binG,strG,toList_beq]
 exact congrArg (fun b=>some (GV.bool b)) this
@[go_sem] theorem bin_sgeq {a b:ByteArray}:binG .geq (.str a) (.str b)=some (.bool (!txLt a b)):=(rfl)
@[go_sem] theorem bin_sleq {a b:ByteArray}:binG .leq (.str a) (.str b)=some (.bool (!txLt b a)):=by
 have:(txLt a b||decide (a=b))= !txLt b a:=by
  by_cases h:a=b
  ·subst h;simp[txLt_irr]
  ·cases h1:txLt a b with
   |true=>rw[txLt_asym h1];simp
   |false=>
    cases h2:txLt b a with
    |true=>simp[h]
    |false=>exact absurd (txLt_tri h1 h2) h
 simp only[binG,strG,toList_beq]
 exact congrArg (fun b=>some (GV.bool b)) this
def cmpI (a b:Int):Int:=if a<b then -1 else if b<a then 1 else 0
def cmpS (a b:ByteArray):Int:=if txLt a b then -1 else if txLt b a then 1 else 0
def orI (a b:Int):Int:=if a=0 then b else a
def cmpDot (a b:Dot):Int:=orI (cmpI a.rep b.rep) (cmpI a.seq b.seq)
def cmpTally (a b:Tally):Int:=orI (cmpS a.obj b.obj) (cmpI a.rep b.rep)
def dotLt (a b:Dot):Bool:=decide (a.rep<b.rep)||decide (a.rep=b.rep)&&decide (a.seq<b.seq)
def tallyLt (a b:Tally):Bool:=txLt a.obj b.obj||decide (a.obj=b.obj)&&decide (a.rep<b.rep)
theorem cmpDot_lt {a b:Dot}:decide (cmpDot a b<0)=dotLt a b:=by
 unfold cmpDot dotLt orI cmpI
 rw[Bool.eq_iff_iff]
 simp only[decide_eq_true_eq,Bool.or_eq_true,Bool.and_eq_true]
 repeat' split
 all_goals omega
theorem cmpDot_ge {a b:Dot}:decide (0≤cmpDot a b)= !dotLt a b:=by
 rw[← cmpDot_lt,Bool.eq_iff_iff];simp
theorem cmpI_neg {a b:Int}:cmpI a b<0↔a<b:=by
 unfold cmpI
 rcases Int.lt_trichotomy a b with h|h|h
 ·rw[if_pos h];omega
 ·subst h;simp
 ·rw[if_neg (by omega),if_pos h];omega
theorem cmpS_neg {a b:ByteArray}:cmpS a b<0↔txLt a b=true:=by
 unfold cmpS
 cases h1:txLt a b with
 |true=>simp
 |false=>
  cases h2:txLt b a with
  |true=>simp
  |false=>simp
theorem cmpS_eq {a b:ByteArray}:cmpS a b=0↔a=b:=by
 unfold cmpS
 cases h1:txLt a b with
 |true=>
  have h3:a≠b:=fun e=>by rw[e,txLt_irr] at h1;cases h1
  simp[h3]
 |false=>
  cases h2:txLt b a with
  |true=>
   have h3:a≠b:=fun e=>by rw[e,txLt_irr] at h2;cases h2
   simp[h3]
  |false=>simp[txLt_tri h1 h2]
theorem cmpTally_lt {a b:Tally}:decide (cmpTally a b<0)=tallyLt a b:=by
 unfold cmpTally tallyLt orI
 rw[Bool.eq_iff_iff]
 simp only[decide_eq_true_eq,Bool.or_eq_true,Bool.and_eq_true]
 by_cases h:a.obj=b.obj
 ·rw[if_pos (cmpS_eq.2 h),cmpI_neg,h,txLt_irr];simp
 ·rw[if_neg (fun e=>h (cmpS_eq.1 e)),cmpS_neg];simp[h]
theorem cmpTally_ge {a b:Tally}:decide (0≤cmpTally a b)= !tallyLt a b:=by
 rw[← cmpTally_lt,Bool.eq_iff_iff];simp
theorem dotLt_irr (a:Dot):dotLt a a=false:=by simp[dotLt]
theorem dotLt_trans {a b c:Dot} (h1:dotLt a b=true) (h2:dotLt b c=true):dotLt a c=true:=by
 simp only[dotLt,Bool.or_eq_true,Bool.and_eq_true,decide_eq_true_eq] at *;omega
theorem dotLt_tri {a b:Dot} (h1:dotLt a b=false) (h2:dotLt b a=false):a=b:=by
 rw[Dot.eq_iff]
 simp only[dotLt,Bool.or_eq_false_iff,Bool.and_eq_false_iff,decide_eq_false_iff_not] at *;omega
def allR (n:Nat) (p:Nat→Bool):Bool:=(List.range n).all p
theorem allR_iff {n:Nat} {p:Nat→Bool}:allR n p=true↔∀ i,i<n→p i=true:=by simp[allR]
theorem allR_no {n i:Nat} {p:Nat→Bool} (hi:i<n) (h:p i=false):allR n p=false:=by
 cases e:allR n p with
 |false=>rfl
 |true=>rw[allR_iff.1 e i hi] at h;cases h
theorem allR_yes {n:Nat} {p:Nat→Bool} (h:∀ i,i<n→p i=true):allR n p=true:=allR_iff.2 h
theorem lt_snoc {i:Nat} {p:Nat→Bool} (h:∀ j,j<i→p j=true) (hi:p i=true):∀ j,j<i+1→p j=true:=fun j hj=>by
 rcases Nat.lt_or_ge j i with h1|h1
 ·exact h j h1
 ·have:j=i:=by omega
  subst this;exact hi
def onI {α:Type} (l:List α) (i:Nat) (p:α→Bool):Bool:=match l[i]? with
 |some x=>p x
 |none=>true
theorem onI_at {α:Type} {l:List α} {i:Nat} {p:α→Bool} (hi:i<l.length):onI l i p=p l[i]:=by
 simp only[onI,List.getElem?_eq_getElem hi]
def upI {α:Type} (lt:α→α→Bool) (l:List α):Nat→Bool
 |0=>true
 |i+1=>onI l i fun a=>onI l (i+1) fun b=>lt a b
theorem upI_at {α:Type} {lt:α→α→Bool} {l:List α} {i:Nat} (h0:i≠0) (hi:i<l.length) (hj:i - 1<l.length):upI lt l i=lt l[i - 1] l[i]:=by
 cases i with
 |zero=>exact absurd rfl h0
 |succ i=>
  simp only[upI,Nat.add_sub_cancel]
  rw[onI_at (by omega),onI_at hi]
theorem pairs_up {α:Type} {lt:α→α→Bool} (ht:∀ a b c,lt a b=true→lt b c=true→lt a c=true) {l:List α} (h:∀ i,i<l.length→upI lt l i=true):l.Pairwise fun a b=>lt a b=true:=by
 have key:∀(j i:Nat) (hi:i<l.length) (hj:j<l.length),i<j→lt l[i] l[j]=true:=by
  intro j
  induction j with
  |zero=>intro i hi hj h;omega
  |succ j ih=>
   intro i hi hj hij
   have h1:=h (j+1) hj
   rw[upI_at (by omega) hj (by omega)] at h1
   simp only[Nat.add_sub_cancel] at h1
   rcases Nat.lt_or_ge i j with h2|h2
   ·exact ht _ _ _ (ih i hi (by omega) h2) h1
   ·have:i=j:=by omega
    subst this;exact h1
 rw[List.pairwise_iff_getElem]
 exact fun i j hi hj hij=>key j i hi hj hij
end Go.Proofs.Ytbeoiejnogdkpaa.Sy
namespace Go.Proofs.Ytbeoiejnogdkpaa.Sy
open Go Go.RowKit
set_option linter.unusedSimpArgs false
set_option linter.unusedVariables false
def tal1 (t:Tally):Bool:=nameOk t.obj&&(inB t.rep 0 2&&inB t.sum 0 999999)
def talP (l:List Tally) (i:Nat):Bool:=onI l i tal1&&upI tallyLt l i
def talsOk (l:List Tally):Bool:=allR l.length (talP l)&&decide (l.length≤120)
def liv1 (x:Live):Bool:=nameOk x.obj&&(nameOk x.key&&(inB x.val 0 999999&&(x.map||decide (x.val=0))))
def liveLt (a b:Live):Bool:=dotLt a.dot b.dot
def livP (l:List Live) (k:List Int) (i:Nat):Bool:=(onI l i fun x=>knows k x.dot)&&((onI l i liv1)&&upI liveLt l i)
def livsOk (l:List Live) (k:List Int):Bool:=allR l.length (livP l k)&&decide (l.length≤120)
def livSP (l:List Live) (i:Nat):Bool:=(onI l i fun x=>dotOk x.dot)&&((onI l i liv1)&&upI liveLt l i)
def livsS (l:List Live):Bool:=allR l.length (livSP l)&&decide (l.length≤120)
def cel1 (x:Cell):Bool:=nameOk x.obj&&(inB x.val 0 999999&&inB x.time 1 10000)
def cellLt (a b:Cell):Bool:=dotLt a.dot b.dot
def celP (l:List Cell) (k:List Int) (i:Nat):Bool:=(onI l i fun x=>knows k x.dot)&&((onI l i cel1)&&upI cellLt l i)
def celsOk (l:List Cell) (k:List Int):Bool:=allR l.length (celP l k)&&decide (l.length≤120)
def refD (x:Cell):Bool:=decide (x.ref=⟨0,0⟩)||dotOk x.ref
def celSP (l:List Cell) (i:Nat):Bool:=(onI l i fun x=>dotOk x.dot)&&((onI l i cel1)&&((onI l i refD)&&upI cellLt l i))
def celsS (l:List Cell):Bool:=allR l.length (celSP l)&&decide (l.length≤120)
def cellIx (l:List Cell) (d:Dot):Option Nat:=l.findIdx? fun c=>decide (c.dot=d)
def ref1 (l:List Cell) (c:Cell):Bool:=decide (c.ref=⟨0,0⟩)||match cellIx l c.ref with
 |none=>false
 |some k=>onI l k fun y=>decide (y.obj=c.obj)&&decide (y.time<c.time)
def refsOk (l:List Cell):Bool:=l.all (ref1 l)
def stateOk (s:State):Bool:=okK s.know&&(talsOk s.tallies&&(livsOk s.lives s.know&&(celsOk s.cells s.know&&refsOk s.cells)))
def livK (k:List Int) (x:Live):Bool:=knows k x.dot
def celK (l:List Cell) (k:List Int) (x:Cell):Bool:=knows k x.dot&&ref1 l x
def stateOkS (s:State):Bool:=okK s.know&&(talsOk s.tallies&&(livsS s.lives&&(celsS s.cells&&(s.lives.all (livK s.know)&&s.cells.all (celK s.cells s.know)))))
theorem knows_dot {k:List Int} {d:Dot} (h:knows k d=true):dotOk d=true:=by
 simp only[knows,Bool.and_eq_true] at h;exact h.1.2
theorem cellIx_some {l:List Cell} {d:Dot} {k:Nat} (h:cellIx l d=some k):∃ hk:k<l.length,l[k].dot=d:=by
 obtain⟨hk,h1,_⟩:=List.findIdx?_eq_some_iff_getElem.1 h
 exact⟨hk,by simpa using h1⟩
theorem all_onI {α:Type} {l:List α} {p:α→Bool}:l.all p=allR l.length fun i=>onI l i p:=by
 rw[Bool.eq_iff_iff,allR_iff,List.all_eq_true]
 constructor
 ·intro h i hi;rw[onI_at hi];exact h _ (List.getElem_mem hi)
 ·intro h x hx
  obtain⟨i,hi,rfl⟩:=List.getElem_of_mem hx
  have:=h i hi
  rwa [onI_at hi] at this
theorem stateOkS_eq (s:State):stateOkS s=stateOk s:=by
 unfold stateOkS stateOk
 cases h1:okK s.know with
 |false=>rfl
 |true=>
  cases h2:talsOk s.tallies with
  |false=>rfl
  |true=>
   simp only[Bool.true_and]
   rw[Bool.eq_iff_iff]
   simp only[Bool.and_eq_true,livsS,livsOk,celsS,celsOk,refsOk,all_onI,allR_iff,decide_eq_true_eq,livSP,livP,celSP,celP]
   constructor
   ·rintro⟨⟨hl,hl2⟩,⟨hc,hc2⟩,hlk,hck⟩
    refine⟨⟨fun i hi=>⟨hlk i hi,(hl i hi).2⟩,hl2⟩,⟨fun i hi=> ?_,hc2⟩,fun i hi=> ?_⟩
    ·have:=hck i hi
     have h4:=hc i hi
     rw[onI_at hi,celK] at this
     simp only[Bool.and_eq_true] at this
     exact⟨by rw[onI_at hi];exact this.1,h4.2.1,h4.2.2.2⟩
    ·have:=hck i hi
     rw[onI_at hi] at this ⊢
     rw[celK] at this
     simp only[Bool.and_eq_true] at this
     exact this.2
   ·rintro⟨⟨hl,hl2⟩,⟨hc,hc2⟩,hr⟩
    refine⟨⟨fun i hi=>⟨?_,(hl i hi).2⟩,hl2⟩,⟨fun i hi=>⟨?_,(hc i hi).2.1,?_,(hc i hi).2.2⟩,hc2⟩,fun i hi=>(hl i hi).1,fun i hi=> ?_⟩
    ·have:=(hl i hi).1
     rw[onI_at hi] at this ⊢
     exact knows_dot this
    ·have:=(hc i hi).1
     rw[onI_at hi] at this ⊢
     exact knows_dot this
    ·have:=hr i hi
     rw[onI_at hi] at this ⊢
     unfold ref1 at this
     unfold refD
     simp only[Bool.or_eq_true] at this ⊢
     refine this.imp id fun h=> ?_
     split at h
     ·cases h
     ·rename_i k hk
      obtain⟨hkl,e⟩:=cellIx_some hk
      have:=(hc k hkl).1
      rw[onI_at hkl,e] at this
      exact knows_dot this
    ·have h5:=(hc i hi).1
     have h6:=hr i hi
     rw[onI_at hi] at h5 h6 ⊢
     rw[celK,h5,h6];rfl
theorem dots_up {l:List Cell} {k:List Int} (h:celsOk l k=true):l.Pairwise fun a b=>dotLt a.dot b.dot=true:=by
 simp only[celsOk,Bool.and_eq_true,allR_iff,celP] at h
 exact pairs_up (lt:=cellLt) (fun a b c h1 h2=>dotLt_trans h1 h2) fun i hi=>(h.1 i hi).2.2
theorem lives_up {l:List Live} {k:List Int} (h:livsOk l k=true):l.Pairwise fun a b=>dotLt a.dot b.dot=true:=by
 simp only[livsOk,Bool.and_eq_true,allR_iff,livP] at h
 exact pairs_up (lt:=liveLt) (fun a b c h1 h2=>dotLt_trans h1 h2) fun i hi=>(h.1 i hi).2.2
def plc:Nat→List Cell→List (Dot×Int)
 |_,[]=>[]
 |n,c::l=>(c.dot,(n:Int))::plc (n+1) l
theorem plc_snoc (c:Cell):∀(n:Nat) (l:List Cell),plc n (l++[c])=plc n l++[(c.dot,((n+l.length:Nat):Int))]
 |n,[]=>rfl
 |n,x::l=>by
  simp only[List.cons_append,plc,plc_snoc c (n+1) l,List.length_cons]
  rw[show n+1+l.length=n+(l.length+1) by omega]
theorem dlook_plc (d:Dot):∀(n:Nat) (l:List Cell),dlook (plc n l) d=(cellIx l d).map fun k=>((n+k:Nat):Int)
 |n,[]=>rfl
 |n,x::l=>by
  have ih:=dlook_plc d (n+1) l
  unfold cellIx at*
  rw[List.findIdx?_cons]
  by_cases h:x.dot=d
  ·subst h;simp[plc,dlook]
  ·have h':d≠x.dot:=fun e=>h e.symm
   have e:dlook (plc n (x::l)) d=dlook (plc (n+1) l) d:=by simp[plc,dlook,h']
   rw[e,ih]
   simp only[h,decide_false,Bool.false_eq_true,if_false,Option.map_map]
   congr 1
   funext k
   simp only[Function.comp]
   omega
theorem plc_new {l:List Cell} (h:l.Pairwise fun a b=>dotLt a.dot b.dot=true) {i:Nat} (hi:i<l.length):dlook (plc 0 (l.take i)) l[i].dot=none:=by
 rw[dlook_plc]
 have:cellIx (l.take i) l[i].dot=none:=by
  unfold cellIx
  rw[List.findIdx?_eq_none_iff]
  intro c hc
  obtain⟨j,hj,rfl⟩:=List.getElem_of_mem hc
  rw[List.length_take] at hj
  rw[List.getElem_take]
  have:=List.pairwise_iff_getElem.1 h j i (by omega) hi (by omega)
  simp only[decide_eq_false_iff_not]
  intro e
  rw[e,dotLt_irr] at this;cases this
 rw[this];rfl
theorem plc_step {l:List Cell} {i:Nat} (hi:i<l.length):plc 0 (l.take (i+1))=plc 0 (l.take i)++[(l[i].dot,(i:Int))]:=by
 rw[take_snoc hi,plc_snoc,List.length_take,show 0+min i l.length=i by omega]
def cellNo (l:List Cell) (d:Dot):Int:=match cellIx l d with
 |some k=>k
 |none=> -1
theorem cellIx_drop {l:List Cell} {d:Dot} {i:Nat} (hi:i<l.length) (h:∀ j (hj:j<i),(l[j]'(by omega)).dot≠d) (he:l[i].dot=d):cellIx l d=some i:=by
 unfold cellIx
 rw[List.findIdx?_eq_some_iff_getElem]
 exact⟨hi,by simpa using he,fun j hj=>by simpa using h j hj⟩
theorem cellIx_none {l:List Cell} {d:Dot} (h:∀ j (hj:j<l.length),l[j].dot≠d):cellIx l d=none:=by
 unfold cellIx
 rw[List.findIdx?_eq_none_iff]
 intro c hc
 obtain⟨j,hj,rfl⟩:=List.getElem_of_mem hc
 simpa using h j hj
end Go.Proofs.Ytbeoiejnogdkpaa.Sy
namespace Go.Proofs.Ytbeoiejnogdkpaa.Sy
open Go Go.RowKit
set_option linter.unusedSimpArgs false
set_option linter.unusedVariables false
abbrev n_cmp_isNaN_int:Nat:=101
def F_cmp_isNaN_int:Fn1:=⟨6,[.t 2],(.seq (.reg [o 2 (.mov (.k (.bool false)))]) (.seq (.reg [o 3 (.mov (.t 0)),o 4 (.mov (.t 0)),o 5 (.bin .neq (.t 3) (.t 4)),o 2 (.mov (.t 5))]) .ret))⟩
theorem ir_cmp_isNaN_int:compFn Try.prog n_cmp_isNaN_int=some F_cmp_isNaN_int:=by kernel_rfl
abbrev n_cmp_isNaN_string:Nat:=100
def F_cmp_isNaN_string:Fn1:=⟨6,[.t 2],(.seq (.reg [o 2 (.mov (.k (.bool false)))]) (.seq (.reg [o 3 (.mov (.t 0)),o 4 (.mov (.t 0)),o 5 (.bin .neq (.t 3) (.t 4)),o 2 (.mov (.t 5))]) .ret))⟩
theorem ir_cmp_isNaN_string:compFn Try.prog n_cmp_isNaN_string=some F_cmp_isNaN_string:=by kernel_rfl
abbrev n_cmp_Compare_int:Nat:=94
def F_cmp_Compare_int:Fn1:=⟨20,[.t 4],(.seq (.reg [o 4 (.mov (.k (.int .i64 0)))]) (.seq (.reg [o 7 (.mov (.t 0)),o 8 (.call 101 [(.t 7)]),o 5 (.mov (.t 8))]) (.seq (.reg [o 9 (.mov (.t 1)),o 10 (.call 101 [(.t 9)]),o 6 (.mov (.t 10))]) (.seq (.seq (.reg [o 11 (.mov (.t 5))]) (.cnd (.t 11) (.seq (.seq (.reg [o 12 (.mov (.t 6))]) (.cnd (.t 12) (.seq (.reg [o 4 (.mov (.k (.int .i64 0)))]) .ret) .skip)) (.seq (.reg [o 4 (.mov (.k (.int .i64 (-1))))]) .ret)) .skip)) (.seq (.seq (.reg [o 13 (.mov (.t 6))]) (.cnd (.t 13) (.seq (.reg [o 4 (.mov (.k (.int .i64 1)))]) .ret) .skip)) (.seq (.seq (.reg [o 14 (.mov (.t 0)),o 15 (.mov (.t 1)),o 16 (.bin .lss (.t 14) (.t 15))]) (.cnd (.t 16) (.seq (.reg [o 4 (.mov (.k (.int .i64 (-1))))]) .ret) .skip)) (.seq (.seq (.reg [o 17 (.mov (.t 0)),o 18 (.mov (.t 1)),o 19 (.bin .gtr (.t 17) (.t 18))]) (.cnd (.t 19) (.seq (.reg [o 4 (.mov (.k (.int .i64 1)))]) .ret) .skip)) (.seq (.reg [o 4 (.mov (.k (.int .i64 0)))]) .ret))))))))⟩
theorem ir_cmp_Compare_int:compFn Try.prog n_cmp_Compare_int=some F_cmp_Compare_int:=by kernel_rfl
abbrev n_cmp_Compare_string:Nat:=93
def F_cmp_Compare_string:Fn1:=⟨20,[.t 4],(.seq (.reg [o 4 (.mov (.k (.int .i64 0)))]) (.seq (.reg [o 7 (.mov (.t 0)),o 8 (.call 100 [(.t 7)]),o 5 (.mov (.t 8))]) (.seq (.reg [o 9 (.mov (.t 1)),o 10 (.call 100 [(.t 9)]),o 6 (.mov (.t 10))]) (.seq (.seq (.reg [o 11 (.mov (.t 5))]) (.cnd (.t 11) (.seq (.seq (.reg [o 12 (.mov (.t 6))]) (.cnd (.t 12) (.seq (.reg [o 4 (.mov (.k (.int .i64 0)))]) .ret) .skip)) (.seq (.reg [o 4 (.mov (.k (.int .i64 (-1))))]) .ret)) .skip)) (.seq (.seq (.reg [o 13 (.mov (.t 6))]) (.cnd (.t 13) (.seq (.reg [o 4 (.mov (.k (.int .i64 1)))]) .ret) .skip)) (.seq (.seq (.reg [o 14 (.mov (.t 0)),o 15 (.mov (.t 1)),o 16 (.bin .lss (.t 14) (.t 15))]) (.cnd (.t 16) (.seq (.reg [o 4 (.mov (.k (.int .i64 (-1))))]) .ret) .skip)) (.seq (.seq (.reg [o 17 (.mov (.t 0)),o 18 (.mov (.t 1)),o 19 (.bin .gtr (.t 17) (.t 18))]) (.cnd (.t 19) (.seq (.reg [o 4 (.mov (.k (.int .i64 1)))]) .ret) .skip)) (.seq (.reg [o 4 (.mov (.k (.int .i64 0)))]) .ret))))))))⟩
theorem ir_cmp_Compare_string:compFn Try.prog n_cmp_Compare_string=some F_cmp_Compare_string:=by kernel_rfl
abbrev n_cmp_Or_int:Nat:=92
def F_cmp_Or_int:Fn1:=⟨18,[.t 2],(.seq (.reg [o 2 (.mov (.k (.int .i64 0)))]) (.seq (.reg [o 3 (.mov (.k (.int .i64 0)))]) (.seq (.seq (.reg [o 6 (.mov (.t 0)),o 7 (.len false (.t 6)),o 8 (.mov (.k (.int .i64 0)))]) (.blk 0 (.lop (.seq (.reg [o 9 (.bin .lss (.t 8) (.t 7))]) (.seq (.cnd (.t 9) .skip (.ext 0)) (.seq (.blk 1 (.seq (.reg [o 10 (.iad 1 (.t 6) (.t 8)),o 11 (.ld false 1 (.t 10)),o 5 (.mov (.t 11))]) (.seq (.reg [o 12 (.mov (.t 5)),o 13 (.mov (.t 3)),o 14 (.bin .neq (.t 12) (.t 13))]) (.cnd (.t 14) (.seq (.reg [o 15 (.mov (.t 5)),o 2 (.mov (.t 15))]) .ret) .skip)))) (.reg [o 16 (.bin .add (.t 8) (.k (.int .i64 1))),o 8 (.mov (.t 16))]))))))) (.seq (.reg [o 17 (.mov (.t 3)),o 2 (.mov (.t 17))]) .ret))))⟩
theorem ir_cmp_Or_int:compFn Try.prog n_cmp_Or_int=some F_cmp_Or_int:=by kernel_rfl
abbrev n_i_compareDots:Nat:=77
def F_i_compareDots:Fn1:=⟨17,[.t 4],(.seq (.reg [o 2 (.box (.t 0)),o 3 (.box (.t 1)),o 4 (.mov (.k (.int .i64 0)))]) (.seq (.drw [o 5 (.fad 0 (.t 2)),o 6 (.ld false 1 (.t 5)),o 7 (.fad 0 (.t 3)),o 8 (.ld false 1 (.t 7)),o 9 (.call 94 [(.t 6),(.t 8)]),o 10 (.fad 1 (.t 2)),o 11 (.ld false 1 (.t 10)),o 12 (.fad 1 (.t 3)),o 13 (.ld false 1 (.t 12))] [o 14 (.call 94 [(.t 11),(.t 13)]),o 15 (.lit 1 2 [(.int .i64 0),(.int .i64 0)] [(0,1,(.t 9)),(1,1,(.t 14))]),o 16 (.call 92 [(.t 15)]),o 4 (.mov (.t 16))]) .ret))⟩
theorem ir_i_compareDots:compFn Try.prog n_i_compareDots=some F_i_compareDots:=by kernel_rfl
abbrev n_i_compareTallies:Nat:=76
def F_i_compareTallies:Fn1:=⟨17,[.t 4],(.seq (.reg [o 2 (.box (.t 0)),o 3 (.box (.t 1)),o 4 (.mov (.k (.int .i64 0)))]) (.seq (.drw [o 5 (.fad 0 (.t 2)),o 6 (.ld false 1 (.t 5)),o 7 (.fad 0 (.t 3)),o 8 (.ld false 1 (.t 7)),o 9 (.call 93 [(.t 6),(.t 8)]),o 10 (.fad 1 (.t 2)),o 11 (.ld false 1 (.t 10)),o 12 (.fad 1 (.t 3)),o 13 (.ld false 1 (.t 12))] [o 14 (.call 94 [(.t 11),(.t 13)]),o 15 (.lit 1 2 [(.int .i64 0),(.int .i64 0)] [(0,1,(.t 9)),(1,1,(.t 14))]),o 16 (.call 92 [(.t 15)]),o 4 (.mov (.t 16))]) .ret))⟩
theorem ir_i_compareTallies:compFn Try.prog n_i_compareTallies=some F_i_compareTallies:=by kernel_rfl
abbrev n_s_l06Before:Nat:=63
def F_s_l06Before:Fn1:=⟨24,[.t 4],(.seq (.reg [o 2 (.box (.t 0)),o 3 (.box (.t 1)),o 4 (.mov (.k (.bool false)))]) (.seq (.reg [o 5 (.fad 0 (.t 2)),o 6 (.ld false 1 (.t 5)),o 7 (.fad 0 (.t 3)),o 8 (.ld false 1 (.t 7)),o 9 (.bin .lss (.t 6) (.t 8)),o 10 (.mov (.t 9)),og 11 10 false (.fad 0 (.t 2)),og 12 10 false (.ld false 1 (.t 11)),og 13 10 false (.fad 0 (.t 3)),og 14 10 false (.ld false 1 (.t 13)),og 15 10 false (.bin .eql (.t 12) (.t 14)),og 16 10 false (.mov (.t 15)),og 17 16 true (.fad 1 (.t 2)),og 18 16 true (.ld false 1 (.t 17)),og 19 16 true (.fad 1 (.t 3)),og 20 16 true (.ld false 1 (.t 19)),og 21 16 true (.bin .lss (.t 18) (.t 20)),og 22 10 false (.pick (.t 16) (.t 21) (.k (.bool false))),o 23 (.pick (.t 10) (.k (.bool true)) (.t 22)),o 4 (.mov (.t 23))]) .ret))⟩
theorem ir_s_l06Before:compFn Try.prog n_s_l06Before=some F_s_l06Before:=by kernel_rfl
theorem cmp_isNaN_int_ret (σ:St) (a:Int):Ret Try.prog n_cmp_isNaN_int [gi a] σ (.bool false) σ:=by
 refine ret_eq ir_cmp_isNaN_int (Nat.le_of_ble_eq_true rfl) trivial ?_
 simp +contextual (disch:=omega) only[go_sem,F_cmp_isNaN_int,bne_self_eq_false]
theorem cmp_isNaN_string_ret (σ:St) (a:ByteArray):Ret Try.prog n_cmp_isNaN_string [.str a] σ (.bool false) σ:=by
 refine ret_eq ir_cmp_isNaN_string (Nat.le_of_ble_eq_true rfl) trivial ?_
 simp +contextual (disch:=omega) only[go_sem,F_cmp_isNaN_string,decide_true,Bool.not_true]
theorem cmp_Compare_int_ret (σ:St) (a b:Int):Ret Try.prog n_cmp_Compare_int [gi a,gi b] σ (gi (cmpI a b)) σ:=by
 refine ret_eq ir_cmp_Compare_int (Nat.le_of_ble_eq_true rfl) trivial ?_
 simp +contextual (disch:=omega) only[go_sem,F_cmp_Compare_int]
 refine by_ret (cmp_isNaN_int_ret _ _) ?_
 simp +contextual (disch:=omega) only[go_sem]
 refine by_ret (cmp_isNaN_int_ret _ _) ?_
 simp +contextual (disch:=omega) only[go_sem]
 unfold cmpI
 grind
theorem cmp_Compare_string_ret (σ:St) (a b:ByteArray):Ret Try.prog n_cmp_Compare_string [.str a,.str b] σ (gi (cmpS a b)) σ:=by
 refine ret_eq ir_cmp_Compare_string (Nat.le_of_ble_eq_true rfl) trivial ?_
 simp +contextual (disch:=omega) only[go_sem,F_cmp_Compare_string]
 refine by_ret (cmp_isNaN_string_ret _ _) ?_
 simp +contextual (disch:=omega) only[go_sem]
 refine by_ret (cmp_isNaN_string_ret _ _) ?_
 simp +contextual (disch:=omega) only[go_sem]
 unfold cmpS
 grind
def orL:List Int→Int
 |[]=>0
 |x::l=>if x=0 then orL l else x
theorem cmp_Or_int_ret (σ:St) (v:GV) (l:List Int) (h:RS pI.kd σ v l) (hl:l.length≤1099511627776):Ret Try.prog n_cmp_Or_int [v] σ (gi (orL l)) σ:=by
 refine ret_eq ir_cmp_Or_int (Nat.le_of_ble_eq_true rfl) trivial ?_
 simp +contextual (disch:=omega) only[go_sem,F_cmp_Or_int,h.len]
 refine vc_for l.length 8 (fun i env τ=>env 3=gi 0∧env 6=v∧env 7=gi l.length∧orL (l.drop i)=orL l∧σ <+: τ) rfl ⟨rfl,rfl,rfl,rfl,List.prefix_refl _⟩ ?_ ?_
 ·rintro i env τ hi e8 c0 ⟨e3,e6,e7,hd,hp⟩
  rw[List.drop_eq_getElem_cons hi,orL] at hd
  simp +contextual (disch:=omega) only[go_sem,c0,e3,e6,e7,e8,int_at (h.pre hp) hi,hp]
  grind
 ·rintro env τ e8 c0 ⟨e3,e6,e7,hd,hp⟩
  rw[List.drop_length] at hd
  simp +contextual (disch:=omega) only[go_sem,c0,e3,e6,e7,e8,hp]
  rw[← hd];rfl
theorem orL_two (a b:Int):orL [a,b]=orI a b:=by
 unfold orI
 simp only[orL]
 split
 ·split
  ·omega
  ·rfl
 ·rfl
theorem i_compareDots_ret (σ:St) (a b:Dot):Ret Try.prog n_i_compareDots [.agg [gi a.rep,gi a.seq],.agg [gi b.rep,gi b.seq]] σ (gi (cmpDot a b)) σ:=by
 refine ret_eq ir_i_compareDots (Nat.le_of_ble_eq_true rfl) trivial ?_
 simp +contextual (disch:=omega) only[go_sem,F_i_compareDots]
 refine by_ret (cmp_Compare_int_ret _ _ _) ?_
 simp +contextual (disch:=omega) only[go_sem]
 refine by_ret (cmp_Compare_int_ret _ _ _) ?_
 simp +contextual (disch:=omega) only[go_sem]
 refine by_ret (cmp_Or_int_ret _ _ [cmpI a.rep b.rep,cmpI a.seq b.seq] (RS_lit (p:=pI) _ _ rfl rfl rfl) (by simp)) ?_
 simp +contextual (disch:=omega) only[go_sem,orL_two]
 rfl
theorem i_compareTallies_ret (σ:St) (a b:Tally):Ret Try.prog n_i_compareTallies [.agg [.str a.obj,gi a.rep,gi a.sum],.agg [.str b.obj,gi b.rep,gi b.sum]] σ (gi (cmpTally a b)) σ:=by
 refine ret_eq ir_i_compareTallies (Nat.le_of_ble_eq_true rfl) trivial ?_
 simp +contextual (disch:=omega) only[go_sem,F_i_compareTallies]
 refine by_ret (cmp_Compare_string_ret _ _ _) ?_
 simp +contextual (disch:=omega) only[go_sem]
 refine by_ret (cmp_Compare_int_ret _ _ _) ?_
 simp +contextual (disch:=omega) only[go_sem]
 refine by_ret (cmp_Or_int_ret _ _ [cmpS a.obj b.obj,cmpI a.rep b.rep] (RS_lit (p:=pI) _ _ rfl rfl rfl) (by simp)) ?_
 simp +contextual (disch:=omega) only[go_sem,orL_two]
 rfl
theorem s_l06Before_ret (σ:St) (a b:Dot):Ret Try.prog n_s_l06Before [.agg [gi a.rep,gi a.seq],.agg [gi b.rep,gi b.seq]] σ (.bool (dotLt a b)) σ:=by
 refine ret_eq ir_s_l06Before (Nat.le_of_ble_eq_true rfl) trivial ?_
 simp +contextual (disch:=omega) only[go_sem,F_s_l06Before]
 unfold dotLt
 grind
end Go.Proofs.Ytbeoiejnogdkpaa.Sy
namespace Go.Proofs.Ytbeoiejnogdkpaa.Sy
open Go Go.RowKit
set_option linter.unusedSimpArgs false
set_option linter.unusedVariables false
abbrev n_s_l06Tallies:Nat:=36
def F_s_l06Tallies:Fn1:=⟨69,[.t 2],(.seq (.reg [o 2 (.mov (.k (.bool false)))]) (.seq (.seq (.reg [o 3 (.mov (.k (.int .i64 0)))]) (.blk 0 (.lop (.seq (.seq (.reg [o 5 (.mov (.t 3)),o 6 (.mov (.t 0)),o 7 (.len false (.t 6)),o 8 (.bin .lss (.t 5) (.t 7))]) (.cnd (.t 8) .skip (.ext 0))) (.seq (.blk 1 (.seq (.reg [o 11 (.mov (.t 0)),o 12 (.mov (.t 3)),o 13 (.iad 3 (.t 11) (.t 12)),o 14 (.ld true 3 (.t 13)),o 4 (.new [(.str ⟨#[]⟩),(.int .i64 0),(.int .i64 0)]),on (.st 3 (.t 4) (.t 14))]) (.seq (.seq (.reg [o 15 (.fad 0 (.t 4)),o 16 (.ld false 1 (.t 15)),o 17 (.call 61 [(.t 16)]),o 18 (.un .not (.t 17)),o 19 (.mov (.t 18)),og 20 19 false (.fad 1 (.t 4)),og 21 19 false (.ld false 1 (.t 20)),og 22 19 false (.call 60 [(.t 21),(.k (.int .i64 0)),(.k (.int .i64 2))]),og 23 19 false (.un .not (.t 22)),o 24 (.pick (.t 19) (.k (.bool true)) (.t 23)),o 25 (.mov (.t 24)),og 26 25 false (.fad 2 (.t 4)),og 27 25 false (.ld false 1 (.t 26)),og 28 25 false (.call 60 [(.t 27),(.k (.int .i64 0)),(.k (.int .i64 999999))]),og 29 25 false (.un .not (.t 28)),o 30 (.pick (.t 25) (.k (.bool true)) (.t 29))]) (.cnd (.t 30) (.seq (.reg [o 2 (.mov (.k (.bool false)))]) .ret) .skip)) (.seq (.drw [o 31 (.mov (.t 3)),o 32 (.bin .gtr (.t 31) (.k (.int .i64 0))),o 33 (.mov (.t 32)),og 34 33 true (.mov (.t 0)),og 35 33 true (.mov (.t 3)),og 36 33 true (.bin .sub (.t 35) (.k (.int .i64 1))),og 37 33 true (.iad 3 (.t 34) (.t 36)),og 38 33 true (.fad 0 (.t 37)),og 39 33 true (.ld false 1 (.t 38)),og 40 33 true (.fad 0 (.t 4)),og 41 33 true (.ld false 1 (.t 40)),og 42 33 true (.bin .gtr (.t 39) (.t 41)),og 43 33 true (.mov (.t 42)),og 44 43 false (.mov (.t 0)),og 45 43 false (.mov (.t 3)),og 46 43 false (.bin .sub (.t 45) (.k (.int .i64 1))),og 47 43 false (.iad 3 (.t 44) (.t 46)),og 48 43 false (.fad 0 (.t 47)),og 49 43 false (.ld false 1 (.t 48)),og 50 43 false (.fad 0 (.t 4)),og 51 43 false (.ld false 1 (.t 50)),og 52 43 false (.bin .eql (.t 49) (.t 51)),og 53 43 false (.mov (.t 52)),og 54 53 true (.mov (.t 0)),og 55 53 true (.mov (.t 3)),og 56 53 true (.bin .sub (.t 55) (.k (.int .i64 1))),og 57 53 true (.iad 3 (.t 54) (.t 56)),og 58 53 true (.fad 1 (.t 57)),og 59 53 true (.ld false 1 (.t 58)),og 60 53 true (.fad 1 (.t 4)),og 61 53 true (.ld false 1 (.t 60))] [og 62 53 true (.bin .geq (.t 59) (.t 61)),og 63 43 false (.pick (.t 53) (.t 62) (.k (.bool false))),og 64 33 true (.pick (.t 43) (.k (.bool true)) (.t 63)),o 65 (.pick (.t 33) (.t 64) (.k (.bool false)))]) (.cnd (.t 65) (.seq (.reg [o 2 (.mov (.k (.bool false)))]) .ret) .skip))))) (.reg [o 9 (.mov (.t 3)),o 10 (.bin .add (.t 9) (.k (.int .i64 1))),o 3 (.mov (.t 10))])))))) (.seq (.reg [o 66 (.mov (.t 0)),o 67 (.len false (.t 66)),o 68 (.bin .leq (.t 67) (.k (.int .i64 120))),o 2 (.mov (.t 68))]) .ret)))⟩
theorem ir_s_l06Tallies:compFn Try.prog n_s_l06Tallies=some F_s_l06Tallies:=by kernel_rfl
abbrev n_i_talliesOk:Nat:=53
def F_i_talliesOk:Fn1:=⟨46,[.t 2],(.seq (.reg [o 2 (.mov (.k (.bool false)))]) (.seq (.seq (.reg [o 5 (.mov (.t 0)),o 6 (.len false (.t 5)),o 7 (.mov (.k (.int .i64 0)))]) (.blk 0 (.lop (.seq (.reg [o 8 (.bin .lss (.t 7) (.t 6))]) (.seq (.cnd (.t 8) .skip (.ext 0)) (.seq (.blk 1 (.seq (.reg [o 9 (.mov (.t 7)),o 10 (.iad 3 (.t 5) (.t 7)),o 11 (.ld true 3 (.t 10)),o 4 (.new [(.str ⟨#[]⟩),(.int .i64 0),(.int .i64 0)]),o 3 (.mov (.t 9)),on (.st 3 (.t 4) (.t 11))]) (.seq (.drw [o 12 (.fad 0 (.t 4)),o 13 (.ld false 1 (.t 12)),o 14 (.call 75 [(.t 13)]),o 15 (.un .not (.t 14)),o 16 (.mov (.t 15)),og 17 16 false (.fad 1 (.t 4)),og 18 16 false (.ld false 1 (.t 17)),og 19 16 false (.call 74 [(.t 18),(.k (.int .i64 0)),(.k (.int .i64 2))]),og 20 16 false (.un .not (.t 19)),o 21 (.pick (.t 16) (.k (.bool true)) (.t 20)),o 22 (.mov (.t 21)),og 23 22 false (.fad 2 (.t 4)),og 24 22 false (.ld false 1 (.t 23)),og 25 22 false (.call 74 [(.t 24),(.k (.int .i64 0)),(.k (.int .i64 999999))]),og 26 22 false (.un .not (.t 25)),o 27 (.pick (.t 22) (.k (.bool true)) (.t 26)),o 28 (.mov (.t 27)),og 29 28 false (.mov (.t 3)),og 30 28 false (.bin .gtr (.t 29) (.k (.int .i64 0))),og 31 28 false (.mov (.t 30)),og 32 31 true (.mov (.t 0)),og 33 31 true (.mov (.t 3)),og 34 31 true (.bin .sub (.t 33) (.k (.int .i64 1))),og 35 31 true (.iad 3 (.t 32) (.t 34)),og 36 31 true (.ld true 3 (.t 35)),og 37 31 true (.ld true 3 (.t 4))] [og 38 31 true (.call 76 [(.t 36),(.t 37)]),og 39 31 true (.bin .geq (.t 38) (.k (.int .i64 0))),og 40 28 false (.pick (.t 31) (.t 39) (.k (.bool false))),o 41 (.pick (.t 28) (.k (.bool true)) (.t 40))]) (.cnd (.t 41) (.seq (.reg [o 2 (.mov (.k (.bool false)))]) .ret) .skip)))) (.reg [o 42 (.bin .add (.t 7) (.k (.int .i64 1))),o 7 (.mov (.t 42))]))))))) (.seq (.reg [o 43 (.mov (.t 0)),o 44 (.len false (.t 43)),o 45 (.bin .leq (.t 44) (.k (.int .i64 120))),o 2 (.mov (.t 45))]) .ret)))⟩
theorem ir_i_talliesOk:compFn Try.prog n_i_talliesOk=some F_i_talliesOk:=by kernel_rfl
abbrev n_s_l06Lives:Nat:=37
def F_s_l06Lives:Fn1:=⟨66,[.t 2],(.seq (.reg [o 2 (.mov (.k (.bool false)))]) (.seq (.seq (.reg [o 3 (.mov (.k (.int .i64 0)))]) (.blk 0 (.lop (.seq (.seq (.reg [o 5 (.mov (.t 3)),o 6 (.mov (.t 0)),o 7 (.len false (.t 6)),o 8 (.bin .lss (.t 5) (.t 7))]) (.cnd (.t 8) .skip (.ext 0))) (.seq (.blk 1 (.seq (.reg [o 11 (.mov (.t 0)),o 12 (.mov (.t 3)),o 13 (.iad 6 (.t 11) (.t 12)),o 14 (.ld true 6 (.t 13)),o 4 (.new [(.bool false),(.str ⟨#[]⟩),(.str ⟨#[]⟩),(.int .i64 0),(.int .i64 0),(.int .i64 0)]),on (.st 6 (.t 4) (.t 14))]) (.seq (.drw [o 15 (.fad 4 (.t 4)),o 16 (.ld true 2 (.t 15)),o 17 (.call 62 [(.t 16)]),o 18 (.un .not (.t 17)),o 19 (.mov (.t 18)),og 20 19 false (.fad 1 (.t 4)),og 21 19 false (.ld false 1 (.t 20)),og 22 19 false (.call 61 [(.t 21)]),og 23 19 false (.un .not (.t 22)),o 24 (.pick (.t 19) (.k (.bool true)) (.t 23)),o 25 (.mov (.t 24)),og 26 25 false (.fad 2 (.t 4)),og 27 25 false (.ld false 1 (.t 26)),og 28 25 false (.call 61 [(.t 27)]),og 29 25 false (.un .not (.t 28)),o 30 (.pick (.t 25) (.k (.bool true)) (.t 29)),o 31 (.mov (.t 30)),og 32 31 false (.fad 3 (.t 4)),og 33 31 false (.ld false 1 (.t 32)),og 34 31 false (.call 60 [(.t 33),(.k (.int .i64 0)),(.k (.int .i64 999999))]),og 35 31 false (.un .not (.t 34)),o 36 (.pick (.t 31) (.k (.bool true)) (.t 35)),o 37 (.mov (.t 36)),og 38 37 false (.fad 0 (.t 4)),og 39 37 false (.ld false 1 (.t 38)),og 40 37 false (.un .not (.t 39)),og 41 37 false (.mov (.t 40)),og 42 41 true (.fad 3 (.t 4)),og 43 41 true (.ld false 1 (.t 42)),og 44 41 true (.bin .neq (.t 43) (.k (.int .i64 0))),og 45 37 false (.pick (.t 41) (.t 44) (.k (.bool false))),o 46 (.pick (.t 37) (.k (.bool true)) (.t 45)),o 47 (.mov (.t 46)),og 48 47 false (.mov (.t 3)),og 49 47 false (.bin .gtr (.t 48) (.k (.int .i64 0))),og 50 47 false (.mov (.t 49)),og 51 50 true (.mov (.t 0)),og 52 50 true (.mov (.t 3)),og 53 50 true (.bin .sub (.t 52) (.k (.int .i64 1))),og 54 50 true (.iad 6 (.t 51) (.t 53)),og 55 50 true (.fad 4 (.t 54)),og 56 50 true (.ld true 2 (.t 55)),og 57 50 true (.fad 4 (.t 4)),og 58 50 true (.ld true 2 (.t 57))] [og 59 50 true (.call 63 [(.t 56),(.t 58)]),og 60 50 true (.un .not (.t 59)),og 61 47 false (.pick (.t 50) (.t 60) (.k (.bool false))),o 62 (.pick (.t 47) (.k (.bool true)) (.t 61))]) (.cnd (.t 62) (.seq (.reg [o 2 (.mov (.k (.bool false)))]) .ret) .skip)))) (.reg [o 9 (.mov (.t 3)),o 10 (.bin .add (.t 9) (.k (.int .i64 1))),o 3 (.mov (.t 10))])))))) (.seq (.reg [o 63 (.mov (.t 0)),o 64 (.len false (.t 63)),o 65 (.bin .leq (.t 64) (.k (.int .i64 120))),o 2 (.mov (.t 65))]) .ret)))⟩
theorem ir_s_l06Lives:compFn Try.prog n_s_l06Lives=some F_s_l06Lives:=by kernel_rfl
abbrev n_i_livesOk:Nat:=54
def F_i_livesOk:Fn1:=⟨65,[.t 4],(.seq (.reg [o 4 (.mov (.k (.bool false)))]) (.seq (.seq (.reg [o 7 (.mov (.t 0)),o 8 (.len false (.t 7)),o 9 (.mov (.k (.int .i64 0)))]) (.blk 0 (.lop (.seq (.reg [o 10 (.bin .lss (.t 9) (.t 8))]) (.seq (.cnd (.t 10) .skip (.ext 0)) (.seq (.blk 1 (.seq (.reg [o 11 (.mov (.t 9)),o 12 (.iad 6 (.t 7) (.t 9)),o 13 (.ld true 6 (.t 12)),o 6 (.new [(.bool false),(.str ⟨#[]⟩),(.str ⟨#[]⟩),(.int .i64 0),(.int .i64 0),(.int .i64 0)]),o 5 (.mov (.t 11)),on (.st 6 (.t 6) (.t 13))]) (.seq (.seq (.reg [o 14 (.mov (.t 1)),o 15 (.fad 4 (.t 6)),o 16 (.ld true 2 (.t 15)),o 17 (.call 58 [(.t 14),(.t 16)]),o 18 (.un .not (.t 17)),o 19 (.mov (.t 18)),og 20 19 false (.fad 1 (.t 6)),og 21 19 false (.ld false 1 (.t 20)),og 22 19 false (.call 75 [(.t 21)]),og 23 19 false (.un .not (.t 22)),o 24 (.pick (.t 19) (.k (.bool true)) (.t 23)),o 25 (.mov (.t 24)),og 26 25 false (.fad 2 (.t 6)),og 27 25 false (.ld false 1 (.t 26)),og 28 25 false (.call 75 [(.t 27)]),og 29 25 false (.un .not (.t 28)),o 30 (.pick (.t 25) (.k (.bool true)) (.t 29)),o 31 (.mov (.t 30)),og 32 31 false (.fad 3 (.t 6)),og 33 31 false (.ld false 1 (.t 32)),og 34 31 false (.call 74 [(.t 33),(.k (.int .i64 0)),(.k (.int .i64 999999))]),og 35 31 false (.un .not (.t 34)),o 36 (.pick (.t 31) (.k (.bool true)) (.t 35)),o 37 (.mov (.t 36)),og 38 37 false (.fad 0 (.t 6)),og 39 37 false (.ld false 1 (.t 38)),og 40 37 false (.un .not (.t 39)),og 41 37 false (.mov (.t 40)),og 42 41 true (.fad 3 (.t 6)),og 43 41 true (.ld false 1 (.t 42)),og 44 41 true (.bin .neq (.t 43) (.k (.int .i64 0))),og 45 37 false (.pick (.t 41) (.t 44) (.k (.bool false))),o 46 (.pick (.t 37) (.k (.bool true)) (.t 45))]) (.cnd (.t 46) (.seq (.reg [o 4 (.mov (.k (.bool false)))]) .ret) .skip)) (.seq (.drw [o 47 (.mov (.t 5)),o 48 (.bin .gtr (.t 47) (.k (.int .i64 0))),o 49 (.mov (.t 48)),og 50 49 true (.mov (.t 0)),og 51 49 true (.mov (.t 5)),og 52 49 true (.bin .sub (.t 51) (.k (.int .i64 1))),og 53 49 true (.iad 6 (.t 50) (.t 52)),og 54 49 true (.fad 4 (.t 53)),og 55 49 true (.ld true 2 (.t 54)),og 56 49 true (.fad 4 (.t 6)),og 57 49 true (.ld true 2 (.t 56))] [og 58 49 true (.call 77 [(.t 55),(.t 57)]),og 59 49 true (.bin .geq (.t 58) (.k (.int .i64 0))),o 60 (.pick (.t 49) (.t 59) (.k (.bool false)))]) (.cnd (.t 60) (.seq (.reg [o 4 (.mov (.k (.bool false)))]) .ret) .skip))))) (.reg [o 61 (.bin .add (.t 9) (.k (.int .i64 1))),o 9 (.mov (.t 61))]))))))) (.seq (.reg [o 62 (.mov (.t 0)),o 63 (.len false (.t 62)),o 64 (.bin .leq (.t 63) (.k (.int .i64 120))),o 4 (.mov (.t 64))]) .ret)))⟩
theorem ir_i_livesOk:compFn Try.prog n_i_livesOk=some F_i_livesOk:=by kernel_rfl
abbrev n_s_l06Cells:Nat:=38
def F_s_l06Cells:Fn1:=⟨68,[.t 2],(.seq (.reg [o 2 (.mov (.k (.bool false)))]) (.seq (.seq (.reg [o 3 (.mov (.k (.int .i64 0)))]) (.blk 0 (.lop (.seq (.seq (.reg [o 5 (.mov (.t 3)),o 6 (.mov (.t 0)),o 7 (.len false (.t 6)),o 8 (.bin .lss (.t 5) (.t 7))]) (.cnd (.t 8) .skip (.ext 0))) (.seq (.blk 1 (.seq (.reg [o 11 (.mov (.t 0)),o 12 (.mov (.t 3)),o 13 (.iad 8 (.t 11) (.t 12)),o 14 (.ld true 8 (.t 13)),o 4 (.new [(.str ⟨#[]⟩),(.int .i64 0),(.int .i64 0),(.int .i64 0),(.int .i64 0),(.int .i64 0),(.int .i64 0),(.bool false)]),on (.st 8 (.t 4) (.t 14))]) (.seq (.drw [o 15 (.fad 1 (.t 4)),o 16 (.ld true 2 (.t 15)),o 17 (.call 62 [(.t 16)]),o 18 (.un .not (.t 17)),o 19 (.mov (.t 18)),og 20 19 false (.fad 0 (.t 4)),og 21 19 false (.ld false 1 (.t 20)),og 22 19 false (.call 61 [(.t 21)]),og 23 19 false (.un .not (.t 22)),o 24 (.pick (.t 19) (.k (.bool true)) (.t 23)),o 25 (.mov (.t 24)),og 26 25 false (.fad 3 (.t 4)),og 27 25 false (.ld false 1 (.t 26)),og 28 25 false (.call 60 [(.t 27),(.k (.int .i64 1)),(.k (.int .i64 10000))]),og 29 25 false (.un .not (.t 28)),o 30 (.pick (.t 25) (.k (.bool true)) (.t 29)),o 31 (.mov (.t 30)),og 32 31 false (.fad 6 (.t 4)),og 33 31 false (.ld false 1 (.t 32)),og 34 31 false (.call 60 [(.t 33),(.k (.int .i64 0)),(.k (.int .i64 999999))]),og 35 31 false (.un .not (.t 34)),o 36 (.pick (.t 31) (.k (.bool true)) (.t 35)),o 37 (.mov (.t 36)),og 38 37 false (.fad 4 (.t 4)),og 39 37 false (.ld true 2 (.t 38)),og 40 37 false (.build [(.int .i64 0),(.int .i64 0)] []),og 41 37 false (.eqs true [.i .i64,.i .i64] (.t 39) (.t 40)),og 42 37 false (.mov (.t 41)),og 43 42 true (.fad 4 (.t 4)),og 44 42 true (.ld true 2 (.t 43)),og 45 42 true (.call 62 [(.t 44)]),og 46 42 true (.un .not (.t 45)),og 47 37 false (.pick (.t 42) (.t 46) (.k (.bool false))),o 48 (.pick (.t 37) (.k (.bool true)) (.t 47)),o 49 (.mov (.t 48)),og 50 49 false (.mov (.t 3)),og 51 49 false (.bin .gtr (.t 50) (.k (.int .i64 0))),og 52 49 false (.mov (.t 51)),og 53 52 true (.mov (.t 0)),og 54 52 true (.mov (.t 3)),og 55 52 true (.bin .sub (.t 54) (.k (.int .i64 1))),og 56 52 true (.iad 8 (.t 53) (.t 55)),og 57 52 true (.fad 1 (.t 56)),og 58 52 true (.ld true 2 (.t 57)),og 59 52 true (.fad 1 (.t 4)),og 60 52 true (.ld true 2 (.t 59))] [og 61 52 true (.call 63 [(.t 58),(.t 60)]),og 62 52 true (.un .not (.t 61)),og 63 49 false (.pick (.t 52) (.t 62) (.k (.bool false))),o 64 (.pick (.t 49) (.k (.bool true)) (.t 63))]) (.cnd (.t 64) (.seq (.reg [o 2 (.mov (.k (.bool false)))]) .ret) .skip)))) (.reg [o 9 (.mov (.t 3)),o 10 (.bin .add (.t 9) (.k (.int .i64 1))),o 3 (.mov (.t 10))])))))) (.seq (.reg [o 65 (.mov (.t 0)),o 66 (.len false (.t 65)),o 67 (.bin .leq (.t 66) (.k (.int .i64 120))),o 2 (.mov (.t 67))]) .ret)))⟩
theorem ir_s_l06Cells:compFn Try.prog n_s_l06Cells=some F_s_l06Cells:=by kernel_rfl
abbrev n_i_cellsOk:Nat:=55
def F_i_cellsOk:Fn1:=⟨55,[.t 4],(.seq (.reg [o 4 (.mov (.k (.bool false)))]) (.seq (.seq (.reg [o 7 (.mov (.t 0)),o 8 (.len false (.t 7)),o 9 (.mov (.k (.int .i64 0)))]) (.blk 0 (.lop (.seq (.reg [o 10 (.bin .lss (.t 9) (.t 8))]) (.seq (.cnd (.t 10) .skip (.ext 0)) (.seq (.blk 1 (.seq (.reg [o 11 (.mov (.t 9)),o 12 (.iad 8 (.t 7) (.t 9)),o 13 (.ld true 8 (.t 12)),o 6 (.new [(.str ⟨#[]⟩),(.int .i64 0),(.int .i64 0),(.int .i64 0),(.int .i64 0),(.int .i64 0),(.int .i64 0),(.bool false)]),o 5 (.mov (.t 11)),on (.st 8 (.t 6) (.t 13))]) (.seq (.seq (.reg [o 14 (.mov (.t 1)),o 15 (.fad 1 (.t 6)),o 16 (.ld true 2 (.t 15)),o 17 (.call 58 [(.t 14),(.t 16)]),o 18 (.un .not (.t 17)),o 19 (.mov (.t 18)),og 20 19 false (.fad 0 (.t 6)),og 21 19 false (.ld false 1 (.t 20)),og 22 19 false (.call 75 [(.t 21)]),og 23 19 false (.un .not (.t 22)),o 24 (.pick (.t 19) (.k (.bool true)) (.t 23)),o 25 (.mov (.t 24)),og 26 25 false (.fad 6 (.t 6)),og 27 25 false (.ld false 1 (.t 26)),og 28 25 false (.call 74 [(.t 27),(.k (.int .i64 0)),(.k (.int .i64 999999))]),og 29 25 false (.un .not (.t 28)),o 30 (.pick (.t 25) (.k (.bool true)) (.t 29)),o 31 (.mov (.t 30)),og 32 31 false (.fad 3 (.t 6)),og 33 31 false (.ld false 1 (.t 32)),og 34 31 false (.call 74 [(.t 33),(.k (.int .i64 1)),(.k (.int .i64 10000))]),og 35 31 false (.un .not (.t 34)),o 36 (.pick (.t 31) (.k (.bool true)) (.t 35))]) (.cnd (.t 36) (.seq (.reg [o 4 (.mov (.k (.bool false)))]) .ret) .skip)) (.seq (.drw [o 37 (.mov (.t 5)),o 38 (.bin .gtr (.t 37) (.k (.int .i64 0))),o 39 (.mov (.t 38)),og 40 39 true (.mov (.t 0)),og 41 39 true (.mov (.t 5)),og 42 39 true (.bin .sub (.t 41) (.k (.int .i64 1))),og 43 39 true (.iad 8 (.t 40) (.t 42)),og 44 39 true (.fad 1 (.t 43)),og 45 39 true (.ld true 2 (.t 44)),og 46 39 true (.fad 1 (.t 6)),og 47 39 true (.ld true 2 (.t 46))] [og 48 39 true (.call 77 [(.t 45),(.t 47)]),og 49 39 true (.bin .geq (.t 48) (.k (.int .i64 0))),o 50 (.pick (.t 39) (.t 49) (.k (.bool false)))]) (.cnd (.t 50) (.seq (.reg [o 4 (.mov (.k (.bool false)))]) .ret) .skip))))) (.reg [o 51 (.bin .add (.t 9) (.k (.int .i64 1))),o 9 (.mov (.t 51))]))))))) (.seq (.reg [o 52 (.mov (.t 0)),o 53 (.len false (.t 52)),o 54 (.bin .leq (.t 53) (.k (.int .i64 120))),o 4 (.mov (.t 54))]) .ret)))⟩
theorem ir_i_cellsOk:compFn Try.prog n_i_cellsOk=some F_i_cellsOk:=by kernel_rfl
theorem len_le {α:Type} {l:List α} {n:Nat}:decide ((l.length:Int)≤(n:Nat))=decide (l.length≤n):=by
 rw[Bool.eq_iff_iff];simp only[decide_eq_true_eq];omega
theorem sub1 {i:Nat} (h:0<i):(i:Int) - 1=((i - 1:Nat):Int):=by omega
theorem tallyLt_alt (a b:Tally):tallyLt a b= !(txLt b.obj a.obj||decide (a.obj=b.obj)&&decide (b.rep≤a.rep)):=by
 unfold tallyLt
 by_cases h:a.obj=b.obj
 ·rw[h,txLt_irr];rw[Bool.eq_iff_iff];simp
 ·cases h1:txLt a.obj b.obj with
  |true=>simp[h,txLt_asym h1]
  |false=>
   cases h2:txLt b.obj a.obj with
   |true=>simp[h]
   |false=>exact absurd (txLt_tri h1 h2) h
theorem mv_cases (m:Bool) (n:Int):m=true∨(m=false∧(n != 0)=false∧n=0)∨(m=false∧(n != 0)=true∧n≠0):=by
 cases m
 ·by_cases h:n=0
  ·exact .inr (.inl ⟨rfl,by simp[h],h⟩)
  ·exact .inr (.inr ⟨rfl,by simp[h],h⟩)
 ·exact .inl rfl
theorem s_l06Tallies_ret (σ:St) (v:GV) (l:List Tally) (h:RS pTally.kd σ v l) (hl:l.length≤1099511627776) (hsz:∀ x∈l,x.obj.size≤1099511627776):Ret Try.prog n_s_l06Tallies [v] σ (.bool (talsOk l)) σ:=by
 refine ret_eq ir_s_l06Tallies (Nat.le_of_ble_eq_true rfl) trivial ?_
 simp +contextual (disch:=omega) only[go_sem,F_s_l06Tallies,h.len]
 refine vc_for l.length 3 (fun i env τ=>env 0=v∧(∀ j,j<i→talP l j=true)∧σ <+: τ) rfl ⟨rfl,fun j hj=>by omega,List.prefix_refl _⟩ ?_ ?_
 ·rintro i env τ hi ei c0 ⟨e0,ha,hp⟩
  have hno:talP l i=false→talsOk l=false:=fun hh=>by simp[talsOk,allR_no hi hh]
  have hat:talP l i=((nameOk l[i].obj&&(inB l[i].rep 0 2&&inB l[i].sum 0 999999))&&upI tallyLt l i):=by simp only[talP,tal1,onI_at hi]
  simp +contextual (disch:=omega) only[go_sem,c0,e0,ei,Tally_at (h.pre hp) hi,fun r=>Tally_at (h.pre (pre_app hp r)) hi,h.len,pre_app hp _,hp]
  refine by_bool (s_NameOk_ret _ l[i].obj (hsz _ (List.getElem_mem hi))) (fun h0=> ?_) (fun h0=> ?_)
  rotate_left
  ·simp +contextual (disch:=omega) only[go_sem,c0,e0,ei,Tally_at (h.pre hp) hi,fun r=>Tally_at (h.pre (pre_app hp r)) hi,h.len,pre_app hp _,hp]
   simp[hno (by rw[hat];simp[h0])]
  simp +contextual (disch:=omega) only[go_sem,c0,e0,ei,Tally_at (h.pre hp) hi,fun r=>Tally_at (h.pre (pre_app hp r)) hi,h.len,pre_app hp _,hp]
  refine by_bool (s_l01In_ret _ _ _ _) (fun h1=> ?_) (fun h1=> ?_)
  rotate_left
  ·simp +contextual (disch:=omega) only[go_sem,c0,e0,ei,Tally_at (h.pre hp) hi,fun r=>Tally_at (h.pre (pre_app hp r)) hi,h.len,pre_app hp _,hp]
   simp[hno (by rw[hat];simp[h1])]
  simp +contextual (disch:=omega) only[go_sem,c0,e0,ei,Tally_at (h.pre hp) hi,fun r=>Tally_at (h.pre (pre_app hp r)) hi,h.len,pre_app hp _,hp]
  refine by_bool (s_l01In_ret _ _ _ _) (fun h2=> ?_) (fun h2=> ?_)
  rotate_left
  ·simp +contextual (disch:=omega) only[go_sem,c0,e0,ei,Tally_at (h.pre hp) hi,fun r=>Tally_at (h.pre (pre_app hp r)) hi,h.len,pre_app hp _,hp]
   simp[hno (by rw[hat];simp[h2])]
  simp +contextual (disch:=omega) only[go_sem,c0,e0,ei,Tally_at (h.pre hp) hi,fun r=>Tally_at (h.pre (pre_app hp r)) hi,h.len,pre_app hp _,hp]
  rcases Nat.eq_zero_or_pos i with hz|hz
  ·subst hz
   simp +contextual (disch:=omega) only[go_sem,Int.ofNat_zero,decide_false,Int.lt_irrefl,c0,e0,ei,Tally_at (h.pre hp) hi,fun r=>Tally_at (h.pre (pre_app hp r)) hi,h.len,pre_app hp _,hp]
   refine lt_snoc ha (by rw[hat];simp[h0,h1,h2,upI])
  ·have c1:decide ((0:Int)<i)=true:=by simp;omega
   have hj:i - 1<l.length:=by omega
   have hz':i≠0:=by omega
   simp only[upI_at hz' hi hj] at hat
   simp +contextual (disch:=omega) only[go_sem,c1,sub1 hz,Tally_at (h.pre hp) hj,fun r=>Tally_at (h.pre (pre_app hp r)) hj,c0,e0,ei,Tally_at (h.pre hp) hi,fun r=>Tally_at (h.pre (pre_app hp r)) hi,h.len,pre_app hp _,hp]
   rw[tallyLt_alt] at hat
   generalize txLt l[i].obj l[i-1].obj=b1 at*
   generalize decide (l[i-1].obj=l[i].obj)=b2 at*
   grind
 ·rintro env τ ei c0 ⟨e0,ha,hp⟩
  simp +contextual (disch:=omega) only[go_sem,c0,e0,ei,h.len,hp]
  simp only[talsOk,allR_yes ha,Bool.true_and]
  exact len_le
theorem i_talliesOk_ret (σ:St) (v:GV) (l:List Tally) (h:RS pTally.kd σ v l) (hl:l.length≤1099511627776) (hsz:∀ x∈l,x.obj.size≤1099511627776):Ret Try.prog n_i_talliesOk [v] σ (.bool (talsOk l)) σ:=by
 refine ret_eq ir_i_talliesOk (Nat.le_of_ble_eq_true rfl) trivial ?_
 simp +contextual (disch:=omega) only[go_sem,F_i_talliesOk,h.len]
 refine vc_for l.length 7 (fun i env τ=>env 0=v∧env 5=v∧env 6=gi l.length∧(∀ j,j<i→talP l j=true)∧σ <+: τ) rfl ⟨rfl,rfl,rfl,fun j hj=>by omega,List.prefix_refl _⟩ ?_ ?_
 ·rintro i env τ hi ei c0 ⟨e0,e5,e6,ha,hp⟩
  have hno:talP l i=false→talsOk l=false:=fun hh=>by simp[talsOk,allR_no hi hh]
  have hat:talP l i=((nameOk l[i].obj&&(inB l[i].rep 0 2&&inB l[i].sum 0 999999))&&upI tallyLt l i):=by simp only[talP,tal1,onI_at hi]
  simp +contextual (disch:=omega) only[go_sem,c0,e0,e5,e6,ei,Tally_at (h.pre hp) hi,fun r=>Tally_at (h.pre (pre_app hp r)) hi,h.len,pre_app hp _,hp]
  refine by_bool (i_NameOk_ret _ l[i].obj (hsz _ (List.getElem_mem hi))) (fun h0=> ?_) (fun h0=> ?_)
  rotate_left
  ·simp +contextual (disch:=omega) only[go_sem,c0,e0,e5,e6,ei,Tally_at (h.pre hp) hi,fun r=>Tally_at (h.pre (pre_app hp r)) hi,h.len,pre_app hp _,hp]
   simp[hno (by rw[hat];simp[h0])]
  simp +contextual (disch:=omega) only[go_sem,c0,e0,e5,e6,ei,Tally_at (h.pre hp) hi,fun r=>Tally_at (h.pre (pre_app hp r)) hi,h.len,pre_app hp _,hp]
  refine by_bool (i_within_ret _ _ _ _) (fun h1=> ?_) (fun h1=> ?_)
  rotate_left
  ·simp +contextual (disch:=omega) only[go_sem,c0,e0,e5,e6,ei,Tally_at (h.pre hp) hi,fun r=>Tally_at (h.pre (pre_app hp r)) hi,h.len,pre_app hp _,hp]
   simp[hno (by rw[hat];simp[h1])]
  simp +contextual (disch:=omega) only[go_sem,c0,e0,e5,e6,ei,Tally_at (h.pre hp) hi,fun r=>Tally_at (h.pre (pre_app hp r)) hi,h.len,pre_app hp _,hp]
  refine by_bool (i_within_ret _ _ _ _) (fun h2=> ?_) (fun h2=> ?_)
  rotate_left
  ·simp +contextual (disch:=omega) only[go_sem,c0,e0,e5,e6,ei,Tally_at (h.pre hp) hi,fun r=>Tally_at (h.pre (pre_app hp r)) hi,h.len,pre_app hp _,hp]
   simp[hno (by rw[hat];simp[h2])]
  simp +contextual (disch:=omega) only[go_sem,c0,e0,e5,e6,ei,Tally_at (h.pre hp) hi,fun r=>Tally_at (h.pre (pre_app hp r)) hi,h.len,pre_app hp _,hp]
  rcases Nat.eq_zero_or_pos i with hz|hz
  ·subst hz
   simp +contextual (disch:=omega) only[go_sem,Int.ofNat_zero,decide_false,Int.lt_irrefl,c0,e0,e5,e6,ei,Tally_at (h.pre hp) hi,fun r=>Tally_at (h.pre (pre_app hp r)) hi,h.len,pre_app hp _,hp]
   refine lt_snoc ha (by rw[hat];simp[h0,h1,h2,upI])
  ·have c1:decide ((0:Int)<i)=true:=by simp;omega
   have hj:i - 1<l.length:=by omega
   have hz':i≠0:=by omega
   simp only[upI_at hz' hi hj] at hat
   simp +contextual (disch:=omega) only[go_sem,c1,sub1 hz,Tally_at (h.pre hp) hj,fun r=>Tally_at (h.pre (pre_app hp r)) hj,c0,e0,e5,e6,ei,Tally_at (h.pre hp) hi,fun r=>Tally_at (h.pre (pre_app hp r)) hi,h.len,pre_app hp _,hp]
   refine by_ret (i_compareTallies_ret _ l[i-1] l[i]) ?_
   simp +contextual (disch:=omega) only[go_sem,cmpTally_ge,c1,sub1 hz,Tally_at (h.pre hp) hj,fun r=>Tally_at (h.pre (pre_app hp r)) hj,c0,e0,e5,e6,ei,Tally_at (h.pre hp) hi,fun r=>Tally_at (h.pre (pre_app hp r)) hi,h.len,pre_app hp _,hp]
   cases ho:tallyLt l[i-1] l[i] with
   |true=>
    simp +contextual (disch:=omega) only[go_sem,c1,sub1 hz,Tally_at (h.pre hp) hj,fun r=>Tally_at (h.pre (pre_app hp r)) hj,c0,e0,e5,e6,ei,Tally_at (h.pre hp) hi,fun r=>Tally_at (h.pre (pre_app hp r)) hi,h.len,pre_app hp _,hp]
    exact lt_snoc ha (by rw[hat];simp[h0,h1,h2,ho])
   |false=>
    simp +contextual (disch:=omega) only[go_sem,c1,sub1 hz,Tally_at (h.pre hp) hj,fun r=>Tally_at (h.pre (pre_app hp r)) hj,c0,e0,e5,e6,ei,Tally_at (h.pre hp) hi,fun r=>Tally_at (h.pre (pre_app hp r)) hi,h.len,pre_app hp _,hp]
    simp[hno (by rw[hat];simp[ho])]
 ·rintro env τ ei c0 ⟨e0,e5,e6,ha,hp⟩
  simp +contextual (disch:=omega) only[go_sem,c0,e0,e5,e6,ei,h.len,hp]
  simp only[talsOk,allR_yes ha,Bool.true_and]
  exact len_le
theorem s_l06Lives_ret (σ:St) (v:GV) (l:List Live) (h:RS pLive.kd σ v l) (hl:l.length≤1099511627776) (hsz:∀ x∈l,x.obj.size≤1099511627776∧x.key.size≤1099511627776):Ret Try.prog n_s_l06Lives [v] σ (.bool (livsS l)) σ:=by
 refine ret_eq ir_s_l06Lives (Nat.le_of_ble_eq_true rfl) trivial ?_
 simp +contextual (disch:=omega) only[go_sem,F_s_l06Lives,h.len]
 refine vc_for l.length 3 (fun i env τ=>env 0=v∧(∀ j,j<i→livSP l j=true)∧σ <+: τ) rfl ⟨rfl,fun j hj=>by omega,List.prefix_refl _⟩ ?_ ?_
 ·rintro i env τ hi ei c0 ⟨e0,ha,hp⟩
  have hno:livSP l i=false→livsS l=false:=fun hh=>by simp[livsS,allR_no hi hh]
  have hat:livSP l i=(dotOk l[i].dot&&((nameOk l[i].obj&&(nameOk l[i].key&&(inB l[i].val 0 999999&&(l[i].map||decide (l[i].val=0)))))&&upI liveLt l i)):=by simp only[livSP,liv1,onI_at hi]
  simp +contextual (disch:=omega) only[go_sem,c0,e0,ei,Live_at (h.pre hp) hi,fun r=>Live_at (h.pre (pre_app hp r)) hi,h.len,pre_app hp _,hp]
  refine by_bool (s_DotOk_ret _ l[i].dot) (fun h0=> ?_) (fun h0=> ?_)
  rotate_left
  ·simp +contextual (disch:=omega) only[go_sem,c0,e0,ei,Live_at (h.pre hp) hi,fun r=>Live_at (h.pre (pre_app hp r)) hi,h.len,pre_app hp _,hp]
   simp[hno (by rw[hat];simp[h0])]
  simp +contextual (disch:=omega) only[go_sem,c0,e0,ei,Live_at (h.pre hp) hi,fun r=>Live_at (h.pre (pre_app hp r)) hi,h.len,pre_app hp _,hp]
  refine by_bool (s_NameOk_ret _ l[i].obj (hsz _ (List.getElem_mem hi)).1) (fun h1=> ?_) (fun h1=> ?_)
  rotate_left
  ·simp +contextual (disch:=omega) only[go_sem,c0,e0,ei,Live_at (h.pre hp) hi,fun r=>Live_at (h.pre (pre_app hp r)) hi,h.len,pre_app hp _,hp]
   simp[hno (by rw[hat];simp[h1])]
  simp +contextual (disch:=omega) only[go_sem,c0,e0,ei,Live_at (h.pre hp) hi,fun r=>Live_at (h.pre (pre_app hp r)) hi,h.len,pre_app hp _,hp]
  refine by_bool (s_NameOk_ret _ l[i].key (hsz _ (List.getElem_mem hi)).2) (fun h2=> ?_) (fun h2=> ?_)
  rotate_left
  ·simp +contextual (disch:=omega) only[go_sem,c0,e0,ei,Live_at (h.pre hp) hi,fun r=>Live_at (h.pre (pre_app hp r)) hi,h.len,pre_app hp _,hp]
   simp[hno (by rw[hat];simp[h2])]
  simp +contextual (disch:=omega) only[go_sem,c0,e0,ei,Live_at (h.pre hp) hi,fun r=>Live_at (h.pre (pre_app hp r)) hi,h.len,pre_app hp _,hp]
  refine by_bool (s_l01In_ret _ _ _ _) (fun h3=> ?_) (fun h3=> ?_)
  rotate_left
  ·simp +contextual (disch:=omega) only[go_sem,c0,e0,ei,Live_at (h.pre hp) hi,fun r=>Live_at (h.pre (pre_app hp r)) hi,h.len,pre_app hp _,hp]
   simp[hno (by rw[hat];simp[h3])]
  simp +contextual (disch:=omega) only[go_sem,c0,e0,ei,Live_at (h.pre hp) hi,fun r=>Live_at (h.pre (pre_app hp r)) hi,h.len,pre_app hp _,hp]
  rcases mv_cases l[i].map l[i].val with hm|⟨hm,hv,hv'⟩|⟨hm,hv,hv'⟩
  rotate_left 2
  ·simp +contextual (disch:=omega) only[go_sem,hm,hv,c0,e0,ei,Live_at (h.pre hp) hi,fun r=>Live_at (h.pre (pre_app hp r)) hi,h.len,pre_app hp _,hp]
   simp[hno (by rw[hat];simp[hm,hv'])]
  ·simp +contextual (disch:=omega) only[go_sem,hm,c0,e0,ei,Live_at (h.pre hp) hi,fun r=>Live_at (h.pre (pre_app hp r)) hi,h.len,pre_app hp _,hp]
   rcases Nat.eq_zero_or_pos i with hz|hz
   ·subst hz
    simp +contextual (disch:=omega) only[go_sem,Int.ofNat_zero,decide_false,Int.lt_irrefl,hm,c0,e0,ei,Live_at (h.pre hp) hi,fun r=>Live_at (h.pre (pre_app hp r)) hi,h.len,pre_app hp _,hp]
    refine lt_snoc ha (by rw[hat];simp[h0,h1,h2,h3,hm,upI])
   ·have c1:decide ((0:Int)<i)=true:=by simp;omega
    have hj:i - 1<l.length:=by omega
    have hz':i≠0:=by omega
    simp only[upI_at hz' hi hj] at hat
    simp +contextual (disch:=omega) only[go_sem,c1,sub1 hz,Live_at (h.pre hp) hj,fun r=>Live_at (h.pre (pre_app hp r)) hj,hm,c0,e0,ei,Live_at (h.pre hp) hi,fun r=>Live_at (h.pre (pre_app hp r)) hi,h.len,pre_app hp _,hp]
    refine by_ret (s_l06Before_ret _ l[i-1].dot l[i].dot) ?_
    cases ho:dotLt l[i-1].dot l[i].dot with
    |true=>
     simp +contextual (disch:=omega) only[go_sem,c1,sub1 hz,Live_at (h.pre hp) hj,fun r=>Live_at (h.pre (pre_app hp r)) hj,hm,c0,e0,ei,Live_at (h.pre hp) hi,fun r=>Live_at (h.pre (pre_app hp r)) hi,h.len,pre_app hp _,hp]
     exact lt_snoc ha (by rw[hat];simp[h0,h1,h2,h3,hm,ho,liveLt])
    |false=>
     simp +contextual (disch:=omega) only[go_sem,c1,sub1 hz,Live_at (h.pre hp) hj,fun r=>Live_at (h.pre (pre_app hp r)) hj,hm,c0,e0,ei,Live_at (h.pre hp) hi,fun r=>Live_at (h.pre (pre_app hp r)) hi,h.len,pre_app hp _,hp]
     simp[hno (by rw[hat];simp[ho,liveLt])]
  ·simp +contextual (disch:=omega) only[go_sem,hm,hv,c0,e0,ei,Live_at (h.pre hp) hi,fun r=>Live_at (h.pre (pre_app hp r)) hi,h.len,pre_app hp _,hp]
   rcases Nat.eq_zero_or_pos i with hz|hz
   ·subst hz
    simp +contextual (disch:=omega) only[go_sem,Int.ofNat_zero,decide_false,Int.lt_irrefl,hm,hv,c0,e0,ei,Live_at (h.pre hp) hi,fun r=>Live_at (h.pre (pre_app hp r)) hi,h.len,pre_app hp _,hp]
    refine lt_snoc ha (by rw[hat];simp[h0,h1,h2,h3,hm,decide_eq_true hv',upI])
   ·have c1:decide ((0:Int)<i)=true:=by simp;omega
    have hj:i - 1<l.length:=by omega
    have hz':i≠0:=by omega
    simp only[upI_at hz' hi hj] at hat
    simp +contextual (disch:=omega) only[go_sem,c1,sub1 hz,Live_at (h.pre hp) hj,fun r=>Live_at (h.pre (pre_app hp r)) hj,hm,hv,c0,e0,ei,Live_at (h.pre hp) hi,fun r=>Live_at (h.pre (pre_app hp r)) hi,h.len,pre_app hp _,hp]
    refine by_ret (s_l06Before_ret _ l[i-1].dot l[i].dot) ?_
    cases ho:dotLt l[i-1].dot l[i].dot with
    |true=>
     simp +contextual (disch:=omega) only[go_sem,c1,sub1 hz,Live_at (h.pre hp) hj,fun r=>Live_at (h.pre (pre_app hp r)) hj,hm,hv,c0,e0,ei,Live_at (h.pre hp) hi,fun r=>Live_at (h.pre (pre_app hp r)) hi,h.len,pre_app hp _,hp]
     exact lt_snoc ha (by rw[hat];simp[h0,h1,h2,h3,hm,decide_eq_true hv',ho,liveLt])
    |false=>
     simp +contextual (disch:=omega) only[go_sem,c1,sub1 hz,Live_at (h.pre hp) hj,fun r=>Live_at (h.pre (pre_app hp r)) hj,hm,hv,c0,e0,ei,Live_at (h.pre hp) hi,fun r=>Live_at (h.pre (pre_app hp r)) hi,h.len,pre_app hp _,hp]
     simp[hno (by rw[hat];simp[ho,liveLt])]
 ·rintro env τ ei c0 ⟨e0,ha,hp⟩
  simp +contextual (disch:=omega) only[go_sem,c0,e0,ei,h.len,hp]
  simp only[livsS,allR_yes ha,Bool.true_and]
  exact len_le
theorem i_livesOk_ret (σ:St) (v:GV) (l:List Live) (h:RS pLive.kd σ v l) (u:GV) (k:List Int) (hk:RS pI.kd σ u k) (hlk:k.length≤1099511627776) (hl:l.length≤1099511627776) (hsz:∀ x∈l,x.obj.size≤1099511627776∧x.key.size≤1099511627776):Ret Try.prog n_i_livesOk [v,u] σ (.bool (livsOk l k)) σ:=by
 refine ret_eq ir_i_livesOk (Nat.le_of_ble_eq_true rfl) trivial ?_
 simp +contextual (disch:=omega) only[go_sem,F_i_livesOk,h.len]
 refine vc_for l.length 9 (fun i env τ=>env 0=v∧env 1=u∧env 7=v∧env 8=gi l.length∧(∀ j,j<i→livP l k j=true)∧σ <+: τ) rfl ⟨rfl,rfl,rfl,rfl,fun j hj=>by omega,List.prefix_refl _⟩ ?_ ?_
 ·rintro i env τ hi ei c0 ⟨e0,e1,e7,e8,ha,hp⟩
  have hno:livP l k i=false→livsOk l k=false:=fun hh=>by simp[livsOk,allR_no hi hh]
  have hat:livP l k i=(knows k l[i].dot&&((nameOk l[i].obj&&(nameOk l[i].key&&(inB l[i].val 0 999999&&(l[i].map||decide (l[i].val=0)))))&&upI liveLt l i)):=by simp only[livP,liv1,onI_at hi]
  simp +contextual (disch:=omega) only[go_sem,c0,e0,e1,e7,e8,ei,Live_at (h.pre hp) hi,fun r=>Live_at (h.pre (pre_app hp r)) hi,h.len,pre_app hp _,hp]
  refine by_bool (i_Knows_ret _ u k l[i].dot (hk.pre (pre_app hp _)) hlk) (fun h0=> ?_) (fun h0=> ?_)
  rotate_left
  ·simp +contextual (disch:=omega) only[go_sem,c0,e0,e1,e7,e8,ei,Live_at (h.pre hp) hi,fun r=>Live_at (h.pre (pre_app hp r)) hi,h.len,pre_app hp _,hp]
   simp[hno (by rw[hat];simp[h0])]
  simp +contextual (disch:=omega) only[go_sem,c0,e0,e1,e7,e8,ei,Live_at (h.pre hp) hi,fun r=>Live_at (h.pre (pre_app hp r)) hi,h.len,pre_app hp _,hp]
  refine by_bool (i_NameOk_ret _ l[i].obj (hsz _ (List.getElem_mem hi)).1) (fun h1=> ?_) (fun h1=> ?_)
  rotate_left
  ·simp +contextual (disch:=omega) only[go_sem,c0,e0,e1,e7,e8,ei,Live_at (h.pre hp) hi,fun r=>Live_at (h.pre (pre_app hp r)) hi,h.len,pre_app hp _,hp]
   simp[hno (by rw[hat];simp[h1])]
  simp +contextual (disch:=omega) only[go_sem,c0,e0,e1,e7,e8,ei,Live_at (h.pre hp) hi,fun r=>Live_at (h.pre (pre_app hp r)) hi,h.len,pre_app hp _,hp]
  refine by_bool (i_NameOk_ret _ l[i].key (hsz _ (List.getElem_mem hi)).2) (fun h2=> ?_) (fun h2=> ?_)
  rotate_left
  ·simp +contextual (disch:=omega) only[go_sem,c0,e0,e1,e7,e8,ei,Live_at (h.pre hp) hi,fun r=>Live_at (h.pre (pre_app hp r)) hi,h.len,pre_app hp _,hp]
   simp[hno (by rw[hat];simp[h2])]
  simp +contextual (disch:=omega) only[go_sem,c0,e0,e1,e7,e8,ei,Live_at (h.pre hp) hi,fun r=>Live_at (h.pre (pre_app hp r)) hi,h.len,pre_app hp _,hp]
  refine by_bool (i_within_ret _ _ _ _) (fun h3=> ?_) (fun h3=> ?_)
  rotate_left
  ·simp +contextual (disch:=omega) only[go_sem,c0,e0,e1,e7,e8,ei,Live_at (h.pre hp) hi,fun r=>Live_at (h.pre (pre_app hp r)) hi,h.len,pre_app hp _,hp]
   simp[hno (by rw[hat];simp[h3])]
  simp +contextual (disch:=omega) only[go_sem,c0,e0,e1,e7,e8,ei,Live_at (h.pre hp) hi,fun r=>Live_at (h.pre (pre_app hp r)) hi,h.len,pre_app hp _,hp]
  rcases mv_cases l[i].map l[i].val with hm|⟨hm,hv,hv'⟩|⟨hm,hv,hv'⟩
  rotate_left 2
  ·simp +contextual (disch:=omega) only[go_sem,hm,hv,c0,e0,e1,e7,e8,ei,Live_at (h.pre hp) hi,fun r=>Live_at (h.pre (pre_app hp r)) hi,h.len,pre_app hp _,hp]
   simp[hno (by rw[hat];simp[hm,hv'])]
  ·simp +contextual (disch:=omega) only[go_sem,hm,c0,e0,e1,e7,e8,ei,Live_at (h.pre hp) hi,fun r=>Live_at (h.pre (pre_app hp r)) hi,h.len,pre_app hp _,hp]
   rcases Nat.eq_zero_or_pos i with hz|hz
   ·subst hz
    simp +contextual (disch:=omega) only[go_sem,Int.ofNat_zero,decide_false,Int.lt_irrefl,hm,c0,e0,e1,e7,e8,ei,Live_at (h.pre hp) hi,fun r=>Live_at (h.pre (pre_app hp r)) hi,h.len,pre_app hp _,hp]
    refine lt_snoc ha (by rw[hat];simp[h0,h1,h2,h3,hm,upI])
   ·have c1:decide ((0:Int)<i)=true:=by simp;omega
    have hj:i - 1<l.length:=by omega
    have hz':i≠0:=by omega
    simp only[upI_at hz' hi hj] at hat
    simp +contextual (disch:=omega) only[go_sem,c1,sub1 hz,Live_at (h.pre hp) hj,fun r=>Live_at (h.pre (pre_app hp r)) hj,hm,c0,e0,e1,e7,e8,ei,Live_at (h.pre hp) hi,fun r=>Live_at (h.pre (pre_app hp r)) hi,h.len,pre_app hp _,hp]
    refine by_ret (i_compareDots_ret _ l[i-1].dot l[i].dot) ?_
    simp +contextual (disch:=omega) only[go_sem,cmpDot_ge,c1,sub1 hz,Live_at (h.pre hp) hj,fun r=>Live_at (h.pre (pre_app hp r)) hj,hm,c0,e0,e1,e7,e8,ei,Live_at (h.pre hp) hi,fun r=>Live_at (h.pre (pre_app hp r)) hi,h.len,pre_app hp _,hp]
    cases ho:dotLt l[i-1].dot l[i].dot with
    |true=>
     simp +contextual (disch:=omega) only[go_sem,c1,sub1 hz,Live_at (h.pre hp) hj,fun r=>Live_at (h.pre (pre_app hp r)) hj,hm,c0,e0,e1,e7,e8,ei,Live_at (h.pre hp) hi,fun r=>Live_at (h.pre (pre_app hp r)) hi,h.len,pre_app hp _,hp]
     exact lt_snoc ha (by rw[hat];simp[h0,h1,h2,h3,hm,ho,liveLt])
    |false=>
     simp +contextual (disch:=omega) only[go_sem,c1,sub1 hz,Live_at (h.pre hp) hj,fun r=>Live_at (h.pre (pre_app hp r)) hj,hm,c0,e0,e1,e7,e8,ei,Live_at (h.pre hp) hi,fun r=>Live_at (h.pre (pre_app hp r)) hi,h.len,pre_app hp _,hp]
     simp[hno (by rw[hat];simp[ho,liveLt])]
  ·simp +contextual (disch:=omega) only[go_sem,hm,hv,c0,e0,e1,e7,e8,ei,Live_at (h.pre hp) hi,fun r=>Live_at (h.pre (pre_app hp r)) hi,h.len,pre_app hp _,hp]
   rcases Nat.eq_zero_or_pos i with hz|hz
   ·subst hz
    simp +contextual (disch:=omega) only[go_sem,Int.ofNat_zero,decide_false,Int.lt_irrefl,hm,hv,c0,e0,e1,e7,e8,ei,Live_at (h.pre hp) hi,fun r=>Live_at (h.pre (pre_app hp r)) hi,h.len,pre_app hp _,hp]
    refine lt_snoc ha (by rw[hat];simp[h0,h1,h2,h3,hm,decide_eq_true hv',upI])
   ·have c1:decide ((0:Int)<i)=true:=by simp;omega
    have hj:i - 1<l.length:=by omega
    have hz':i≠0:=by omega
    simp only[upI_at hz' hi hj] at hat
    simp +contextual (disch:=omega) only[go_sem,c1,sub1 hz,Live_at (h.pre hp) hj,fun r=>Live_at (h.pre (pre_app hp r)) hj,hm,hv,c0,e0,e1,e7,e8,ei,Live_at (h.pre hp) hi,fun r=>Live_at (h.pre (pre_app hp r)) hi,h.len,pre_app hp _,hp]
    refine by_ret (i_compareDots_ret _ l[i-1].dot l[i].dot) ?_
    simp +contextual (disch:=omega) only[go_sem,cmpDot_ge,c1,sub1 hz,Live_at (h.pre hp) hj,fun r=>Live_at (h.pre (pre_app hp r)) hj,hm,hv,c0,e0,e1,e7,e8,ei,Live_at (h.pre hp) hi,fun r=>Live_at (h.pre (pre_app hp r)) hi,h.len,pre_app hp _,hp]
    cases ho:dotLt l[i-1].dot l[i].dot with
    |true=>
     simp +contextual (disch:=omega) only[go_sem,c1,sub1 hz,Live_at (h.pre hp) hj,fun r=>Live_at (h.pre (pre_app hp r)) hj,hm,hv,c0,e0,e1,e7,e8,ei,Live_at (h.pre hp) hi,fun r=>Live_at (h.pre (pre_app hp r)) hi,h.len,pre_app hp _,hp]
     exact lt_snoc ha (by rw[hat];simp[h0,h1,h2,h3,hm,decide_eq_true hv',ho,liveLt])
    |false=>
     simp +contextual (disch:=omega) only[go_sem,c1,sub1 hz,Live_at (h.pre hp) hj,fun r=>Live_at (h.pre (pre_app hp r)) hj,hm,hv,c0,e0,e1,e7,e8,ei,Live_at (h.pre hp) hi,fun r=>Live_at (h.pre (pre_app hp r)) hi,h.len,pre_app hp _,hp]
     simp[hno (by rw[hat];simp[ho,liveLt])]
 ·rintro env τ ei c0 ⟨e0,e1,e7,e8,ha,hp⟩
  simp +contextual (disch:=omega) only[go_sem,c0,e0,e1,e7,e8,ei,h.len,hp]
  simp only[livsOk,allR_yes ha,Bool.true_and]
  exact len_le
theorem s_l06Cells_ret (σ:St) (v:GV) (l:List Cell) (h:RS pCell.kd σ v l) (hl:l.length≤1099511627776) (hsz:∀ x∈l,x.obj.size≤1099511627776):Ret Try.prog n_s_l06Cells [v] σ (.bool (celsS l)) σ:=by
 refine ret_eq ir_s_l06Cells (Nat.le_of_ble_eq_true rfl) trivial ?_
 simp +contextual (disch:=omega) only[go_sem,F_s_l06Cells,h.len]
 refine vc_for l.length 3 (fun i env τ=>env 0=v∧(∀ j,j<i→celSP l j=true)∧σ <+: τ) rfl ⟨rfl,fun j hj=>by omega,List.prefix_refl _⟩ ?_ ?_
 ·rintro i env τ hi ei c0 ⟨e0,ha,hp⟩
  have hno:celSP l i=false→celsS l=false:=fun hh=>by simp[celsS,allR_no hi hh]
  have hat:celSP l i=(dotOk l[i].dot&&((nameOk l[i].obj&&(inB l[i].val 0 999999&&inB l[i].time 1 10000))&&((decide (l[i].ref=⟨0,0⟩)||dotOk l[i].ref)&&upI cellLt l i))):=by simp only[celSP,cel1,refD,onI_at hi]
  simp +contextual (disch:=omega) only[go_sem,c0,e0,ei,Cell_at (h.pre hp) hi,fun r=>Cell_at (h.pre (pre_app hp r)) hi,h.len,pre_app hp _,hp]
  refine by_bool (s_DotOk_ret _ l[i].dot) (fun h0=> ?_) (fun h0=> ?_)
  rotate_left
  ·simp +contextual (disch:=omega) only[go_sem,c0,e0,ei,Cell_at (h.pre hp) hi,fun r=>Cell_at (h.pre (pre_app hp r)) hi,h.len,pre_app hp _,hp]
   simp[hno (by rw[hat];simp[h0])]
  simp +contextual (disch:=omega) only[go_sem,c0,e0,ei,Cell_at (h.pre hp) hi,fun r=>Cell_at (h.pre (pre_app hp r)) hi,h.len,pre_app hp _,hp]
  refine by_bool (s_NameOk_ret _ l[i].obj (hsz _ (List.getElem_mem hi))) (fun h1=> ?_) (fun h1=> ?_)
  rotate_left
  ·simp +contextual (disch:=omega) only[go_sem,c0,e0,ei,Cell_at (h.pre hp) hi,fun r=>Cell_at (h.pre (pre_app hp r)) hi,h.len,pre_app hp _,hp]
   simp[hno (by rw[hat];simp[h1])]
  simp +contextual (disch:=omega) only[go_sem,c0,e0,ei,Cell_at (h.pre hp) hi,fun r=>Cell_at (h.pre (pre_app hp r)) hi,h.len,pre_app hp _,hp]
  refine by_bool (s_l01In_ret _ _ _ _) (fun h2=> ?_) (fun h2=> ?_)
  rotate_left
  ·simp +contextual (disch:=omega) only[go_sem,c0,e0,ei,Cell_at (h.pre hp) hi,fun r=>Cell_at (h.pre (pre_app hp r)) hi,h.len,pre_app hp _,hp]
   simp[hno (by rw[hat];simp[h2])]
  simp +contextual (disch:=omega) only[go_sem,c0,e0,ei,Cell_at (h.pre hp) hi,fun r=>Cell_at (h.pre (pre_app hp r)) hi,h.len,pre_app hp _,hp]
  refine by_bool (s_l01In_ret _ _ _ _) (fun h3=> ?_) (fun h3=> ?_)
  rotate_left
  ·simp +contextual (disch:=omega) only[go_sem,c0,e0,ei,Cell_at (h.pre hp) hi,fun r=>Cell_at (h.pre (pre_app hp r)) hi,h.len,pre_app hp _,hp]
   simp[hno (by rw[hat];simp[h3])]
  simp +contextual (disch:=omega) only[go_sem,c0,e0,ei,Cell_at (h.pre hp) hi,fun r=>Cell_at (h.pre (pre_app hp r)) hi,h.len,pre_app hp _,hp]
  by_cases hr:l[i].ref=⟨0,0⟩
  ·have hrd:=decide_eq_true hr
   simp +contextual (disch:=omega) only[go_sem,hrd,c0,e0,ei,Cell_at (h.pre hp) hi,fun r=>Cell_at (h.pre (pre_app hp r)) hi,h.len,pre_app hp _,hp]
   rcases Nat.eq_zero_or_pos i with hz|hz
   ·subst hz
    simp +contextual (disch:=omega) only[go_sem,Int.ofNat_zero,decide_false,Int.lt_irrefl,hrd,c0,e0,ei,Cell_at (h.pre hp) hi,fun r=>Cell_at (h.pre (pre_app hp r)) hi,h.len,pre_app hp _,hp]
    refine lt_snoc ha (by rw[hat];simp[h0,h1,h2,h3,hrd,upI])
   ·have c1:decide ((0:Int)<i)=true:=by simp;omega
    have hj:i - 1<l.length:=by omega
    have hz':i≠0:=by omega
    simp only[upI_at hz' hi hj] at hat
    simp +contextual (disch:=omega) only[go_sem,c1,sub1 hz,Cell_at (h.pre hp) hj,fun r=>Cell_at (h.pre (pre_app hp r)) hj,hrd,c0,e0,ei,Cell_at (h.pre hp) hi,fun r=>Cell_at (h.pre (pre_app hp r)) hi,h.len,pre_app hp _,hp]
    refine by_ret (s_l06Before_ret _ l[i-1].dot l[i].dot) ?_
    cases ho:dotLt l[i-1].dot l[i].dot with
    |true=>
     simp +contextual (disch:=omega) only[go_sem,c1,sub1 hz,Cell_at (h.pre hp) hj,fun r=>Cell_at (h.pre (pre_app hp r)) hj,hrd,c0,e0,ei,Cell_at (h.pre hp) hi,fun r=>Cell_at (h.pre (pre_app hp r)) hi,h.len,pre_app hp _,hp]
     exact lt_snoc ha (by rw[hat];simp[h0,h1,h2,h3,hrd,ho,cellLt])
    |false=>
     simp +contextual (disch:=omega) only[go_sem,c1,sub1 hz,Cell_at (h.pre hp) hj,fun r=>Cell_at (h.pre (pre_app hp r)) hj,hrd,c0,e0,ei,Cell_at (h.pre hp) hi,fun r=>Cell_at (h.pre (pre_app hp r)) hi,h.len,pre_app hp _,hp]
     simp[hno (by rw[hat];simp[ho,cellLt])]
  ·have hrd:=decide_eq_false hr
   simp +contextual (disch:=omega) only[go_sem,hrd,c0,e0,ei,Cell_at (h.pre hp) hi,fun r=>Cell_at (h.pre (pre_app hp r)) hi,h.len,pre_app hp _,hp]
   refine by_bool (s_DotOk_ret _ l[i].ref) (fun hq=> ?_) (fun hq=> ?_)
   rotate_left
   ·simp +contextual (disch:=omega) only[go_sem,hrd,c0,e0,ei,Cell_at (h.pre hp) hi,fun r=>Cell_at (h.pre (pre_app hp r)) hi,h.len,pre_app hp _,hp]
    simp[hno (by rw[hat];simp[hrd,hq])]
   simp +contextual (disch:=omega) only[go_sem,hrd,c0,e0,ei,Cell_at (h.pre hp) hi,fun r=>Cell_at (h.pre (pre_app hp r)) hi,h.len,pre_app hp _,hp]
   rcases Nat.eq_zero_or_pos i with hz|hz
   ·subst hz
    simp +contextual (disch:=omega) only[go_sem,Int.ofNat_zero,decide_false,Int.lt_irrefl,hrd,c0,e0,ei,Cell_at (h.pre hp) hi,fun r=>Cell_at (h.pre (pre_app hp r)) hi,h.len,pre_app hp _,hp]
    refine lt_snoc ha (by rw[hat];simp[h0,h1,h2,h3,hrd,hq,upI])
   ·have c1:decide ((0:Int)<i)=true:=by simp;omega
    have hj:i - 1<l.length:=by omega
    have hz':i≠0:=by omega
    simp only[upI_at hz' hi hj] at hat
    simp +contextual (disch:=omega) only[go_sem,c1,sub1 hz,Cell_at (h.pre hp) hj,fun r=>Cell_at (h.pre (pre_app hp r)) hj,hrd,c0,e0,ei,Cell_at (h.pre hp) hi,fun r=>Cell_at (h.pre (pre_app hp r)) hi,h.len,pre_app hp _,hp]
    refine by_ret (s_l06Before_ret _ l[i-1].dot l[i].dot) ?_
    cases ho:dotLt l[i-1].dot l[i].dot with
    |true=>
     simp +contextual (disch:=omega) only[go_sem,c1,sub1 hz,Cell_at (h.pre hp) hj,fun r=>Cell_at (h.pre (pre_app hp r)) hj,hrd,c0,e0,ei,Cell_at (h.pre hp) hi,fun r=>Cell_at (h.pre (pre_app hp r)) hi,h.len,pre_app hp _,hp]
     exact lt_snoc ha (by rw[hat];simp[h0,h1,h2,h3,hrd,hq,ho,cellLt])
    |false=>
     simp +contextual (disch:=omega) only[go_sem,c1,sub1 hz,Cell_at (h.pre hp) hj,fun r=>Cell_at (h.pre (pre_app hp r)) hj,hrd,c0,e0,ei,Cell_at (h.pre hp) hi,fun r=>Cell_at (h.pre (pre_app hp r)) hi,h.len,pre_app hp _,hp]
     simp[hno (by rw[hat];simp[ho,cellLt])]
 ·rintro env τ ei c0 ⟨e0,ha,hp⟩
  simp +contextual (disch:=omega) only[go_sem,c0,e0,ei,h.len,hp]
  simp only[celsS,allR_yes ha,Bool.true_and]
  exact len_le
theorem i_cellsOk_ret (σ:St) (v:GV) (l:List Cell) (h:RS pCell.kd σ v l) (u:GV) (k:List Int) (hk:RS pI.kd σ u k) (hlk:k.length≤1099511627776) (hl:l.length≤1099511627776) (hsz:∀ x∈l,x.obj.size≤1099511627776):Ret Try.prog n_i_cellsOk [v,u] σ (.bool (celsOk l k)) σ:=by
 refine ret_eq ir_i_cellsOk (Nat.le_of_ble_eq_true rfl) trivial ?_
 simp +contextual (disch:=omega) only[go_sem,F_i_cellsOk,h.len]
 refine vc_for l.length 9 (fun i env τ=>env 0=v∧env 1=u∧env 7=v∧env 8=gi l.length∧(∀ j,j<i→celP l k j=true)∧σ <+: τ) rfl ⟨rfl,rfl,rfl,rfl,fun j hj=>by omega,List.prefix_refl _⟩ ?_ ?_
 ·rintro i env τ hi ei c0 ⟨e0,e1,e7,e8,ha,hp⟩
  have hno:celP l k i=false→celsOk l k=false:=fun hh=>by simp[celsOk,allR_no hi hh]
  have hat:celP l k i=(knows k l[i].dot&&((nameOk l[i].obj&&(inB l[i].val 0 999999&&inB l[i].time 1 10000))&&upI cellLt l i)):=by simp only[celP,cel1,onI_at hi]
  simp +contextual (disch:=omega) only[go_sem,c0,e0,e1,e7,e8,ei,Cell_at (h.pre hp) hi,fun r=>Cell_at (h.pre (pre_app hp r)) hi,h.len,pre_app hp _,hp]
  refine by_bool (i_Knows_ret _ u k l[i].dot (hk.pre (pre_app hp _)) hlk) (fun h0=> ?_) (fun h0=> ?_)
  rotate_left
  ·simp +contextual (disch:=omega) only[go_sem,c0,e0,e1,e7,e8,ei,Cell_at (h.pre hp) hi,fun r=>Cell_at (h.pre (pre_app hp r)) hi,h.len,pre_app hp _,hp]
   simp[hno (by rw[hat];simp[h0])]
  simp +contextual (disch:=omega) only[go_sem,c0,e0,e1,e7,e8,ei,Cell_at (h.pre hp) hi,fun r=>Cell_at (h.pre (pre_app hp r)) hi,h.len,pre_app hp _,hp]
  refine by_bool (i_NameOk_ret _ l[i].obj (hsz _ (List.getElem_mem hi))) (fun h1=> ?_) (fun h1=> ?_)
  rotate_left
  ·simp +contextual (disch:=omega) only[go_sem,c0,e0,e1,e7,e8,ei,Cell_at (h.pre hp) hi,fun r=>Cell_at (h.pre (pre_app hp r)) hi,h.len,pre_app hp _,hp]
   simp[hno (by rw[hat];simp[h1])]
  simp +contextual (disch:=omega) only[go_sem,c0,e0,e1,e7,e8,ei,Cell_at (h.pre hp) hi,fun r=>Cell_at (h.pre (pre_app hp r)) hi,h.len,pre_app hp _,hp]
  refine by_bool (i_within_ret _ _ _ _) (fun h2=> ?_) (fun h2=> ?_)
  rotate_left
  ·simp +contextual (disch:=omega) only[go_sem,c0,e0,e1,e7,e8,ei,Cell_at (h.pre hp) hi,fun r=>Cell_at (h.pre (pre_app hp r)) hi,h.len,pre_app hp _,hp]
   simp[hno (by rw[hat];simp[h2])]
  simp +contextual (disch:=omega) only[go_sem,c0,e0,e1,e7,e8,ei,Cell_at (h.pre hp) hi,fun r=>Cell_at (h.pre (pre_app hp r)) hi,h.len,pre_app hp _,hp]
  refine by_bool (i_within_ret _ _ _ _) (fun h3=> ?_) (fun h3=> ?_)
  rotate_left
  ·simp +contextual (disch:=omega) only[go_sem,c0,e0,e1,e7,e8,ei,Cell_at (h.pre hp) hi,fun r=>Cell_at (h.pre (pre_app hp r)) hi,h.len,pre_app hp _,hp]
   simp[hno (by rw[hat];simp[h3])]
  simp +contextual (disch:=omega) only[go_sem,c0,e0,e1,e7,e8,ei,Cell_at (h.pre hp) hi,fun r=>Cell_at (h.pre (pre_app hp r)) hi,h.len,pre_app hp _,hp]
  rcases Nat.eq_zero_or_pos i with hz|hz
  ·subst hz
   simp +contextual (disch:=omega) only[go_sem,Int.ofNat_zero,decide_false,Int.lt_irrefl,c0,e0,e1,e7,e8,ei,Cell_at (h.pre hp) hi,fun r=>Cell_at (h.pre (pre_app hp r)) hi,h.len,pre_app hp _,hp]
   refine lt_snoc ha (by rw[hat];simp[h0,h1,h2,h3,upI])
  ·have c1:decide ((0:Int)<i)=true:=by simp;omega
   have hj:i - 1<l.length:=by omega
   have hz':i≠0:=by omega
   simp only[upI_at hz' hi hj] at hat
   simp +contextual (disch:=omega) only[go_sem,c1,sub1 hz,Cell_at (h.pre hp) hj,fun r=>Cell_at (h.pre (pre_app hp r)) hj,c0,e0,e1,e7,e8,ei,Cell_at (h.pre hp) hi,fun r=>Cell_at (h.pre (pre_app hp r)) hi,h.len,pre_app hp _,hp]
   refine by_ret (i_compareDots_ret _ l[i-1].dot l[i].dot) ?_
   simp +contextual (disch:=omega) only[go_sem,cmpDot_ge,c1,sub1 hz,Cell_at (h.pre hp) hj,fun r=>Cell_at (h.pre (pre_app hp r)) hj,c0,e0,e1,e7,e8,ei,Cell_at (h.pre hp) hi,fun r=>Cell_at (h.pre (pre_app hp r)) hi,h.len,pre_app hp _,hp]
   cases ho:dotLt l[i-1].dot l[i].dot with
   |true=>
    simp +contextual (disch:=omega) only[go_sem,c1,sub1 hz,Cell_at (h.pre hp) hj,fun r=>Cell_at (h.pre (pre_app hp r)) hj,c0,e0,e1,e7,e8,ei,Cell_at (h.pre hp) hi,fun r=>Cell_at (h.pre (pre_app hp r)) hi,h.len,pre_app hp _,hp]
    exact lt_snoc ha (by rw[hat];simp[h0,h1,h2,h3,ho,cellLt])
   |false=>
    simp +contextual (disch:=omega) only[go_sem,c1,sub1 hz,Cell_at (h.pre hp) hj,fun r=>Cell_at (h.pre (pre_app hp r)) hj,c0,e0,e1,e7,e8,ei,Cell_at (h.pre hp) hi,fun r=>Cell_at (h.pre (pre_app hp r)) hi,h.len,pre_app hp _,hp]
    simp[hno (by rw[hat];simp[ho,cellLt])]
 ·rintro env τ ei c0 ⟨e0,e1,e7,e8,ha,hp⟩
  simp +contextual (disch:=omega) only[go_sem,c0,e0,e1,e7,e8,ei,h.len,hp]
  simp only[celsOk,allR_yes ha,Bool.true_and]
  exact len_le
end Go.Proofs.Ytbeoiejnogdkpaa.Sy
namespace Go.Proofs.Ytbeoiejnogdkpaa.Sy
open Go Go.RowKit
set_option linter.unusedSimpArgs false
set_option linter.unusedVariables false
abbrev n_s_KnowNew:Nat:=73
def F_s_KnowNew:Fn1:=⟨2,[.t 0],(.seq (.reg [o 0 (.mov (.k .nilS))]) (.seq (.reg [o 1 (.mks 1 8 [(.int .i64 0)] (.k (.int .i64 3)) (.k (.int .i64 3))),o 0 (.mov (.t 1))]) .ret))⟩
theorem ir_s_KnowNew:compFn Try.prog n_s_KnowNew=some F_s_KnowNew:=by kernel_rfl
abbrev n_i_copyInts:Nat:=51
def F_i_copyInts:Fn1:=⟨6,[.t 2],(.seq (.reg [o 2 (.mov (.k .nilS))]) (.seq (.reg [o 3 (.lit 1 0 [] []),o 4 (.mov (.t 0)),o 5 (.app 1 8 [(.int .i64 0)] (.t 3) (.t 4)),o 2 (.mov (.t 5))]) .ret))⟩
theorem ir_i_copyInts:compFn Try.prog n_i_copyInts=some F_i_copyInts:=by kernel_rfl
abbrev n_s_KnowIn:Nat:=89
def F_s_KnowIn:Fn1:=⟨29,[.t 4],(.seq (.reg [o 4 (.mov (.k (.bool false)))]) (.seq (.seq (.reg [o 6 (.mov (.t 0)),o 7 (.call 35 [(.t 6)]),o 8 (.un .not (.t 7)),o 9 (.mov (.t 8)),og 10 9 false (.mov (.t 1)),og 11 9 false (.call 35 [(.t 10)]),og 12 9 false (.un .not (.t 11)),o 13 (.pick (.t 9) (.k (.bool true)) (.t 12))]) (.cnd (.t 13) (.seq (.reg [o 4 (.mov (.k (.bool false)))]) .ret) .skip)) (.seq (.seq (.reg [o 5 (.mov (.k (.int .i64 0)))]) (.blk 0 (.lop (.seq (.seq (.reg [o 14 (.mov (.t 5)),o 15 (.mov (.t 0)),o 16 (.len false (.t 15)),o 17 (.bin .lss (.t 14) (.t 16))]) (.cnd (.t 17) .skip (.ext 0))) (.seq (.blk 1 (.seq (.drw [o 20 (.mov (.t 0)),o 21 (.mov (.t 5)),o 22 (.iad 1 (.t 20) (.t 21)),o 23 (.ld false 1 (.t 22)),o 24 (.mov (.t 1)),o 25 (.mov (.t 5)),o 26 (.iad 1 (.t 24) (.t 25)),o 27 (.ld false 1 (.t 26))] [o 28 (.bin .gtr (.t 23) (.t 27))]) (.cnd (.t 28) (.seq (.reg [o 4 (.mov (.k (.bool false)))]) .ret) .skip))) (.reg [o 18 (.mov (.t 5)),o 19 (.bin .add (.t 18) (.k (.int .i64 1))),o 5 (.mov (.t 19))])))))) (.seq (.reg [o 4 (.mov (.k (.bool true)))]) .ret))))⟩
theorem ir_s_KnowIn:compFn Try.prog n_s_KnowIn=some F_s_KnowIn:=by kernel_rfl
abbrev n_s_l05Same:Nat:=41
def F_s_l05Same:Fn1:=⟨26,[.t 4],(.seq (.reg [o 4 (.mov (.k (.bool false)))]) (.seq (.seq (.reg [o 6 (.mov (.t 0)),o 7 (.len false (.t 6)),o 8 (.mov (.t 1)),o 9 (.len false (.t 8)),o 10 (.bin .neq (.t 7) (.t 9))]) (.cnd (.t 10) (.seq (.reg [o 4 (.mov (.k (.bool false)))]) .ret) .skip)) (.seq (.seq (.reg [o 5 (.mov (.k (.int .i64 0)))]) (.blk 0 (.lop (.seq (.seq (.reg [o 11 (.mov (.t 5)),o 12 (.mov (.t 0)),o 13 (.len false (.t 12)),o 14 (.bin .lss (.t 11) (.t 13))]) (.cnd (.t 14) .skip (.ext 0))) (.seq (.blk 1 (.seq (.drw [o 17 (.mov (.t 0)),o 18 (.mov (.t 5)),o 19 (.iad 1 (.t 17) (.t 18)),o 20 (.ld false 1 (.t 19)),o 21 (.mov (.t 1)),o 22 (.mov (.t 5)),o 23 (.iad 1 (.t 21) (.t 22)),o 24 (.ld false 1 (.t 23))] [o 25 (.bin .neq (.t 20) (.t 24))]) (.cnd (.t 25) (.seq (.reg [o 4 (.mov (.k (.bool false)))]) .ret) .skip))) (.reg [o 15 (.mov (.t 5)),o 16 (.bin .add (.t 15) (.k (.int .i64 1))),o 5 (.mov (.t 16))])))))) (.seq (.reg [o 4 (.mov (.k (.bool true)))]) .ret))))⟩
theorem ir_s_l05Same:compFn Try.prog n_s_l05Same=some F_s_l05Same:=by kernel_rfl
theorem s_KnowNew_ret (σ:St):∃ r τ,Ret Try.prog n_s_KnowNew [] σ r τ∧Hp σ τ [ow pI.kd r [0,0,0]]:=by
 refine ret_hp (rs:=fun r=>[ow pI.kd r [0,0,0]]) ir_s_KnowNew (Nat.le_of_ble_eq_true rfl) ?_
 have h3:natOf (some (.int .i64 3))=some 3:=rfl
 simp +contextual (disch:=omega) only[go_sem,F_s_KnowNew,h3,mks_ok (show 3*8≤140737488355328 by omega)]
 exact⟨_,rfl,((Hp.refl σ).new 1 (reps 3 [gi 0])).toRow 0 (p:=pI) rfl [0,0,0] rfl rfl 3 rfl⟩
theorem i_copyInts_ret (σ:St) (v:GV) (l:List Int) (h:RS pI.kd σ v l) (hl:l.length≤1099511627776):∃ r τ,Ret Try.prog n_i_copyInts [v] σ r τ∧Hp σ τ [ow pI.kd r l]:=by
 refine ret_hp (rs:=fun r=>[ow pI.kd r l]) ir_i_copyInts (Nat.le_of_ble_eq_true rfl) ?_
 obtain⟨v',τ',e,H⟩:=(Hp.refl σ).nil_int.apps_int 0 rfl (h.pre (pre1 _ _)) (by simp;omega)
 simp +contextual (disch:=omega) only[go_sem,F_i_copyInts,e]
 exact⟨_,rfl,H⟩
def zipK (f:Int→Int→Int) (a b:List Int):List Int:=if okK a&&okK b then List.zipWith f a b else[]
def mx (x y:Int):Int:=if y>x then y else x
def mn (x y:Int):Int:=if y<x then y else x
def kMax (a b:List Int):List Int:=zipK mx a b
def kLe:List Int→List Int→Bool
 |x::xs,y::ys=>decide (x≤y)&&kLe xs ys
 |_,_=>true
theorem kLe_drop {a b:List Int} {i:Nat} (hi:i<a.length) (hj:i<b.length):kLe (a.drop i) (b.drop i)=(decide (a[i]≤b[i])&&kLe (a.drop (i+1)) (b.drop (i+1))):=by
 rw[List.drop_eq_getElem_cons hi,List.drop_eq_getElem_cons hj];rfl
def knowIn (a b:List Int):Bool:=okK a&&(okK b&&kLe a b)
theorem s_KnowIn_ret (σ:St) (v u:GV) (a b:List Int) (ha:RS pI.kd σ v a) (hb:RS pI.kd σ u b) (hla:a.length≤1099511627776) (hlb:b.length≤1099511627776):Ret Try.prog n_s_KnowIn [v,u] σ (.bool (knowIn a b)) σ:=by
 refine ret_eq ir_s_KnowIn (Nat.le_of_ble_eq_true rfl) trivial ?_
 simp +contextual (disch:=omega) only[go_sem,F_s_KnowIn]
 refine by_bool (s_KnowOk_ret _ v a ha hla) (fun h1=> ?_) (fun h1=> ?_)
 ·simp +contextual (disch:=omega) only[go_sem]
  refine by_bool (s_KnowOk_ret _ u b hb hlb) (fun h2=> ?_) (fun h2=> ?_)
  ·have la:=okK_len h1
   have lb:=okK_len h2
   simp +contextual (disch:=omega) only[go_sem,knowIn,h1,h2]
   refine vc_for a.length 5 (fun i env τ=>env 0=v∧env 1=u∧kLe (a.drop i) (b.drop i)=kLe a b∧σ <+: τ) rfl ⟨rfl,rfl,rfl,List.prefix_refl _⟩ ?_ ?_
   ·rintro i env τ hi e5 c0 ⟨e0,e1,hk,hp⟩
    have hj:i<b.length:=by omega
    rw[kLe_drop hi hj] at hk
    simp +contextual (disch:=omega) only[go_sem,c0,e0,e1,e5,ha.len,int_at (ha.pre hp) hi,int_at (hb.pre hp) hj,hp]
    grind
   ·rintro env τ e5 c0 ⟨e0,e1,hk,hp⟩
    rw[List.drop_length] at hk
    simp +contextual (disch:=omega) only[go_sem,c0,e0,e1,e5,ha.len,hp]
    rw[← hk];rfl
  ·simp +contextual (disch:=omega) only[go_sem,knowIn,h1,h2]
 ·simp +contextual (disch:=omega) only[go_sem,knowIn,h1]
theorem s_Same_ret (σ:St) (v u:GV) (a b:List Int) (ha:RS pI.kd σ v a) (hb:RS pI.kd σ u b) (hla:a.length≤1099511627776):Ret Try.prog n_s_l05Same [v,u] σ (.bool (decide (a=b))) σ:=by
 refine ret_eq ir_s_l05Same (Nat.le_of_ble_eq_true rfl) trivial ?_
 simp +contextual (disch:=omega) only[go_sem,F_s_l05Same,ha.len,hb.len]
 refine⟨fun hn=> ?_,fun hn=> ?_⟩
 ·have:a≠b:=fun h=>by subst h;simp at hn
  simp[this]
 ·have hlm:a.length=b.length:=by
                     have h2:(a.length:Int)=b.length:=by simpa using hn
                     omega
  refine vc_for a.length 5 (fun i env τ=>env 0=v∧env 1=u∧a.take i=b.take i∧σ <+: τ) rfl ⟨rfl,rfl,rfl,List.prefix_refl _⟩ ?_ ?_
  ·rintro i env τ hi e5 c0 ⟨e0,e1,he,hp⟩
   have hj:i<b.length:=by omega
   have hne:a[i]≠b[i]→a≠b:=fun h h'=>h (by subst h';rfl)
   have hst:a[i]=b[i]→a.take (i+1)=b.take (i+1):=fun h=>by rw[take_snoc hi,take_snoc hj,he,h]
   simp +contextual (disch:=omega) only[go_sem,c0,e0,e1,e5,ha.len,hb.len,int_at (ha.pre hp) hi,int_at (hb.pre hp) hj,hp]
   refine⟨fun h=> ?_,fun h=> ?_⟩
   ·simp[hne (by simpa using h)]
   ·simpa using hst (by simpa using h)
  ·rintro env τ e5 c0 ⟨e0,e1,he,hp⟩
   rw[List.take_length,hlm,List.take_length] at he
   simp +contextual (disch:=omega) only[go_sem,c0,e0,e1,e5,ha.len,hb.len,hp]
   simp[he]
end Go.Proofs.Ytbeoiejnogdkpaa.Sy
namespace Go.Proofs.Ytbeoiejnogdkpaa.Sy
open Go Go.RowKit
set_option linter.unusedSimpArgs false
set_option linter.unusedVariables false
set_option maxRecDepth 4000
abbrev n_s_CellAt:Nat:=40
def F_s_CellAt:Fn1:=⟨22,[.t 4],(.seq (.reg [o 2 (.box (.t 0)),o 3 (.box (.t 1)),o 4 (.mov (.k (.int .i64 0)))]) (.seq (.seq (.reg [o 5 (.mov (.k (.int .i64 0)))]) (.blk 0 (.lop (.seq (.seq (.reg [o 6 (.mov (.t 5)),o 7 (.fad 3 (.t 2)),o 8 (.ld false 1 (.t 7)),o 9 (.len false (.t 8)),o 10 (.bin .lss (.t 6) (.t 9))]) (.cnd (.t 10) .skip (.ext 0))) (.seq (.blk 1 (.seq (.drw [o 13 (.fad 3 (.t 2)),o 14 (.ld false 1 (.t 13)),o 15 (.mov (.t 5)),o 16 (.iad 8 (.t 14) (.t 15)),o 17 (.fad 1 (.t 16)),o 18 (.ld true 2 (.t 17)),o 19 (.ld true 2 (.t 3))] [o 20 (.eqs false [.i .i64,.i .i64] (.t 18) (.t 19))]) (.cnd (.t 20) (.seq (.reg [o 21 (.mov (.t 5)),o 4 (.mov (.t 21))]) .ret) .skip))) (.reg [o 11 (.mov (.t 5)),o 12 (.bin .add (.t 11) (.k (.int .i64 1))),o 5 (.mov (.t 12))])))))) (.seq (.reg [o 4 (.mov (.k (.int .i64 (-1))))]) .ret)))⟩
theorem ir_s_CellAt:compFn Try.prog n_s_CellAt=some F_s_CellAt:=by kernel_rfl
abbrev n_i_CellAt:Nat:=57
def F_i_CellAt:Fn1:=⟨9,[.t 4],(.seq (.reg [o 2 (.box (.t 0)),o 3 (.box (.t 1)),o 4 (.mov (.k (.int .i64 0)))]) (.seq (.reg [o 5 (.fad 3 (.t 2)),o 6 (.ld false 1 (.t 5)),o 7 (.mkf 79 [(.t 3)]),o 8 (.call 78 [(.t 6),(.t 7)]),o 4 (.mov (.t 8))]) .ret))⟩
theorem ir_i_CellAt:compFn Try.prog n_i_CellAt=some F_i_CellAt:=by kernel_rfl
abbrev n_i_CellAt_f1:Nat:=79
def F_i_CellAt_f1:Fn1:=⟨8,[.t 3],(.seq (.reg [o 2 (.box (.t 0)),o 3 (.mov (.k (.bool false)))]) (.seq (.reg [o 4 (.fad 1 (.t 2)),o 5 (.ld true 2 (.t 4)),o 6 (.ld true 2 (.t 1)),o 7 (.eqs false [.i .i64,.i .i64] (.t 5) (.t 6)),o 3 (.mov (.t 7))]) .ret))⟩
theorem ir_i_CellAt_f1:compFn Try.prog n_i_CellAt_f1=some F_i_CellAt_f1:=by kernel_rfl
abbrev n_slices_IndexFunc_impl_Cell_impl_Cell:Nat:=78
def F_slices_IndexFunc_impl_Cell_impl_Cell:Fn1:=⟨19,[.t 4],(.seq (.reg [o 4 (.mov (.k (.int .i64 0)))]) (.seq (.seq (.reg [o 6 (.mov (.t 0)),o 7 (.len false (.t 6)),o 8 (.mov (.k (.int .i64 0)))]) (.blk 0 (.lop (.seq (.reg [o 9 (.bin .lss (.t 8) (.t 7))]) (.seq (.cnd (.t 9) .skip (.ext 0)) (.seq (.blk 1 (.seq (.reg [o 10 (.mov (.t 8)),o 5 (.mov (.t 10))]) (.seq (.reg [o 11 (.mov (.t 1)),o 12 (.mov (.t 0)),o 13 (.mov (.t 5)),o 14 (.iad 8 (.t 12) (.t 13)),o 15 (.ld true 8 (.t 14)),o 16 (.callv (.t 11) [(.t 15)])]) (.cnd (.t 16) (.seq (.reg [o 17 (.mov (.t 5)),o 4 (.mov (.t 17))]) .ret) .skip)))) (.reg [o 18 (.bin .add (.t 8) (.k (.int .i64 1))),o 8 (.mov (.t 18))]))))))) (.seq (.reg [o 4 (.mov (.k (.int .i64 (-1))))]) .ret)))⟩
theorem ir_slices_IndexFunc_impl_Cell_impl_Cell:compFn Try.prog n_slices_IndexFunc_impl_Cell_impl_Cell=some F_slices_IndexFunc_impl_Cell_impl_Cell:=by kernel_rfl
abbrev n_i_refsOk:Nat:=56
def F_i_refsOk:Fn1:=⟨63,[.t 2],(.seq (.reg [o 2 (.mov (.k (.bool false)))]) (.seq (.reg [o 10 (.mkm),o 3 (.mov (.t 10))]) (.seq (.seq (.reg [o 11 (.mov (.t 0)),o 12 (.len false (.t 11)),o 13 (.mov (.k (.int .i64 0)))]) (.blk 0 (.lop (.seq (.reg [o 14 (.bin .lss (.t 13) (.t 12))]) (.seq (.cnd (.t 14) .skip (.ext 0)) (.seq (.blk 1 (.seq (.reg [o 15 (.mov (.t 13)),o 16 (.iad 8 (.t 11) (.t 13)),o 17 (.ld true 8 (.t 16)),o 5 (.new [(.str ⟨#[]⟩),(.int .i64 0),(.int .i64 0),(.int .i64 0),(.int .i64 0),(.int .i64 0),(.int .i64 0),(.bool false)]),o 4 (.mov (.t 15)),on (.st 8 (.t 5) (.t 17))]) (.reg [o 18 (.mov (.t 3)),o 19 (.fad 1 (.t 5)),o 20 (.ld true 2 (.t 19)),o 21 (.mov (.t 4)),on (.mup [.i .i64,.i .i64] (.t 18) (.t 20) (.t 21))]))) (.reg [o 22 (.bin .add (.t 13) (.k (.int .i64 1))),o 13 (.mov (.t 22))]))))))) (.seq (.seq (.reg [o 23 (.mov (.t 0)),o 24 (.len false (.t 23)),o 25 (.mov (.k (.int .i64 0)))]) (.blk 2 (.lop (.seq (.reg [o 26 (.bin .lss (.t 25) (.t 24))]) (.seq (.cnd (.t 26) .skip (.ext 2)) (.seq (.blk 3 (.seq (.reg [o 27 (.iad 8 (.t 23) (.t 25)),o 28 (.ld true 8 (.t 27)),o 7 (.new [(.str ⟨#[]⟩),(.int .i64 0),(.int .i64 0),(.int .i64 0),(.int .i64 0),(.int .i64 0),(.int .i64 0),(.bool false)]),on (.st 8 (.t 7) (.t 28))]) (.seq (.seq (.reg [o 29 (.fad 4 (.t 7)),o 30 (.ld true 2 (.t 29)),o 31 (.build [(.int .i64 0),(.int .i64 0)] []),o 32 (.eqs false [.i .i64,.i .i64] (.t 30) (.t 31))]) (.cnd (.t 32) (.ext 3) .skip)) (.seq (.reg [o 34 (.mov (.t 3)),o 35 (.fad 4 (.t 7)),o 36 (.ld true 2 (.t 35)),o 37 (.mlk [.i .i64,.i .i64] (.int .i64 0) true (.t 34) (.t 36)),o 33 (.mov (.t 37)),o 38 (.ext 0 (.t 33)),o 39 (.ext 1 (.t 33)),o 8 (.mov (.t 38)),o 9 (.mov (.t 39))]) (.seq (.drw [o 40 (.mov (.t 9)),o 41 (.un .not (.t 40)),o 42 (.mov (.t 41)),og 43 42 false (.mov (.t 0)),og 44 42 false (.mov (.t 8)),og 45 42 false (.iad 8 (.t 43) (.t 44)),og 46 42 false (.fad 0 (.t 45)),og 47 42 false (.ld false 1 (.t 46)),og 48 42 false (.fad 0 (.t 7)),og 49 42 false (.ld false 1 (.t 48)),og 50 42 false (.bin .neq (.t 47) (.t 49)),o 51 (.pick (.t 42) (.k (.bool true)) (.t 50)),o 52 (.mov (.t 51)),og 53 52 false (.mov (.t 0)),og 54 52 false (.mov (.t 8)),og 55 52 false (.iad 8 (.t 53) (.t 54)),og 56 52 false (.fad 3 (.t 55)),og 57 52 false (.ld false 1 (.t 56)),og 58 52 false (.fad 3 (.t 7)),og 59 52 false (.ld false 1 (.t 58))] [og 60 52 false (.bin .geq (.t 57) (.t 59)),o 61 (.pick (.t 52) (.k (.bool true)) (.t 60))]) (.cnd (.t 61) (.seq (.reg [o 2 (.mov (.k (.bool false)))]) .ret) .skip)))))) (.reg [o 62 (.bin .add (.t 25) (.k (.int .i64 1))),o 25 (.mov (.t 62))]))))))) (.seq (.reg [o 2 (.mov (.k (.bool true)))]) .ret)))))⟩
theorem ir_i_refsOk:compFn Try.prog n_i_refsOk=some F_i_refsOk:=by kernel_rfl
abbrev n_s_StateOk:Nat:=14
def F_s_StateOk:Fn1:=⟨96,[.t 2],(.seq (.reg [o 1 (.box (.t 0)),o 2 (.mov (.k (.bool false)))]) (.seq (.seq (.reg [o 7 (.fad 0 (.t 1)),o 8 (.ld false 1 (.t 7)),o 9 (.call 35 [(.t 8)]),o 10 (.un .not (.t 9)),o 11 (.mov (.t 10)),og 12 11 false (.fad 1 (.t 1)),og 13 11 false (.ld false 1 (.t 12)),og 14 11 false (.call 36 [(.t 13)]),og 15 11 false (.un .not (.t 14)),o 16 (.pick (.t 11) (.k (.bool true)) (.t 15)),o 17 (.mov (.t 16)),og 18 17 false (.fad 2 (.t 1)),og 19 17 false (.ld false 1 (.t 18)),og 20 17 false (.call 37 [(.t 19)]),og 21 17 false (.un .not (.t 20)),o 22 (.pick (.t 17) (.k (.bool true)) (.t 21)),o 23 (.mov (.t 22)),og 24 23 false (.fad 3 (.t 1)),og 25 23 false (.ld false 1 (.t 24)),og 26 23 false (.call 38 [(.t 25)]),og 27 23 false (.un .not (.t 26)),o 28 (.pick (.t 23) (.k (.bool true)) (.t 27))]) (.cnd (.t 28) (.seq (.reg [o 2 (.mov (.k (.bool false)))]) .ret) .skip)) (.seq (.seq (.reg [o 3 (.mov (.k (.int .i64 0)))]) (.blk 0 (.lop (.seq (.seq (.reg [o 29 (.mov (.t 3)),o 30 (.fad 2 (.t 1)),o 31 (.ld false 1 (.t 30)),o 32 (.len false (.t 31)),o 33 (.bin .lss (.t 29) (.t 32))]) (.cnd (.t 33) .skip (.ext 0))) (.seq (.blk 1 (.seq (.drw [o 36 (.fad 0 (.t 1)),o 37 (.ld false 1 (.t 36)),o 38 (.fad 2 (.t 1)),o 39 (.ld false 1 (.t 38)),o 40 (.mov (.t 3)),o 41 (.iad 6 (.t 39) (.t 40)),o 42 (.fad 4 (.t 41)),o 43 (.ld true 2 (.t 42))] [o 44 (.call 39 [(.t 37),(.t 43)]),o 45 (.un .not (.t 44))]) (.cnd (.t 45) (.seq (.reg [o 2 (.mov (.k (.bool false)))]) .ret) .skip))) (.reg [o 34 (.mov (.t 3)),o 35 (.bin .add (.t 34) (.k (.int .i64 1))),o 3 (.mov (.t 35))])))))) (.seq (.seq (.reg [o 4 (.mov (.k (.int .i64 0)))]) (.blk 2 (.lop (.seq (.seq (.reg [o 46 (.mov (.t 4)),o 47 (.fad 3 (.t 1)),o 48 (.ld false 1 (.t 47)),o 49 (.len false (.t 48)),o 50 (.bin .lss (.t 46) (.t 49))]) (.cnd (.t 50) .skip (.ext 2))) (.seq (.blk 3 (.seq (.reg [o 53 (.fad 3 (.t 1)),o 54 (.ld false 1 (.t 53)),o 55 (.mov (.t 4)),o 56 (.iad 8 (.t 54) (.t 55)),o 57 (.ld true 8 (.t 56)),o 5 (.new [(.str ⟨#[]⟩),(.int .i64 0),(.int .i64 0),(.int .i64 0),(.int .i64 0),(.int .i64 0),(.int .i64 0),(.bool false)]),on (.st 8 (.t 5) (.t 57))]) (.seq (.seq (.reg [o 58 (.fad 0 (.t 1)),o 59 (.ld false 1 (.t 58)),o 60 (.fad 1 (.t 5)),o 61 (.ld true 2 (.t 60)),o 62 (.call 39 [(.t 59),(.t 61)]),o 63 (.un .not (.t 62))]) (.cnd (.t 63) (.seq (.reg [o 2 (.mov (.k (.bool false)))]) .ret) .skip)) (.seq (.seq (.reg [o 64 (.fad 4 (.t 5)),o 65 (.ld true 2 (.t 64)),o 66 (.build [(.int .i64 0),(.int .i64 0)] []),o 67 (.eqs false [.i .i64,.i .i64] (.t 65) (.t 66))]) (.cnd (.t 67) (.ext 3) .skip)) (.seq (.reg [o 68 (.ld true 4 (.t 1)),o 69 (.fad 4 (.t 5)),o 70 (.ld true 2 (.t 69)),o 71 (.call 40 [(.t 68),(.t 70)]),o 6 (.mov (.t 71))]) (.seq (.drw [o 72 (.mov (.t 6)),o 73 (.bin .lss (.t 72) (.k (.int .i64 0))),o 74 (.mov (.t 73)),og 75 74 false (.fad 3 (.t 1)),og 76 74 false (.ld false 1 (.t 75)),og 77 74 false (.mov (.t 6)),og 78 74 false (.iad 8 (.t 76) (.t 77)),og 79 74 false (.fad 0 (.t 78)),og 80 74 false (.ld false 1 (.t 79)),og 81 74 false (.fad 0 (.t 5)),og 82 74 false (.ld false 1 (.t 81)),og 83 74 false (.bin .neq (.t 80) (.t 82)),o 84 (.pick (.t 74) (.k (.bool true)) (.t 83)),o 85 (.mov (.t 84)),og 86 85 false (.fad 3 (.t 1)),og 87 85 false (.ld false 1 (.t 86)),og 88 85 false (.mov (.t 6)),og 89 85 false (.iad 8 (.t 87) (.t 88)),og 90 85 false (.fad 3 (.t 89)),og 91 85 false (.ld false 1 (.t 90)),og 92 85 false (.fad 3 (.t 5)),og 93 85 false (.ld false 1 (.t 92))] [og 94 85 false (.bin .geq (.t 91) (.t 93)),o 95 (.pick (.t 85) (.k (.bool true)) (.t 94))]) (.cnd (.t 95) (.seq (.reg [o 2 (.mov (.k (.bool false)))]) .ret) .skip))))))) (.reg [o 51 (.mov (.t 4)),o 52 (.bin .add (.t 51) (.k (.int .i64 1))),o 4 (.mov (.t 52))])))))) (.seq (.reg [o 2 (.mov (.k (.bool true)))]) .ret)))))⟩
theorem ir_s_StateOk:compFn Try.prog n_s_StateOk=some F_s_StateOk:=by kernel_rfl
abbrev n_i_StateOk:Nat:=32
def F_i_StateOk:Fn1:=⟨30,[.t 2],(.seq (.reg [o 1 (.box (.t 0)),o 2 (.mov (.k (.bool false)))]) (.seq (.reg [o 3 (.fad 0 (.t 1)),o 4 (.ld false 1 (.t 3)),o 5 (.call 52 [(.t 4)]),o 6 (.mov (.t 5)),og 7 6 true (.fad 1 (.t 1)),og 8 6 true (.ld false 1 (.t 7)),og 9 6 true (.call 53 [(.t 8)]),o 10 (.pick (.t 6) (.t 9) (.k (.bool false))),o 11 (.mov (.t 10)),og 12 11 true (.fad 2 (.t 1)),og 13 11 true (.ld false 1 (.t 12)),og 14 11 true (.fad 0 (.t 1)),og 15 11 true (.ld false 1 (.t 14)),og 16 11 true (.call 54 [(.t 13),(.t 15)]),o 17 (.pick (.t 11) (.t 16) (.k (.bool false))),o 18 (.mov (.t 17)),og 19 18 true (.fad 3 (.t 1)),og 20 18 true (.ld false 1 (.t 19)),og 21 18 true (.fad 0 (.t 1)),og 22 18 true (.ld false 1 (.t 21)),og 23 18 true (.call 55 [(.t 20),(.t 22)]),o 24 (.pick (.t 18) (.t 23) (.k (.bool false))),o 25 (.mov (.t 24)),og 26 25 true (.fad 3 (.t 1)),og 27 25 true (.ld false 1 (.t 26)),og 28 25 true (.call 56 [(.t 27)]),o 29 (.pick (.t 25) (.t 28) (.k (.bool false))),o 2 (.mov (.t 29))]) .ret))⟩
theorem ir_i_StateOk:compFn Try.prog n_i_StateOk=some F_i_StateOk:=by kernel_rfl
abbrev n_s_l06Copy:Nat:=47
def F_s_l06Copy:Fn1:=⟨20,[.c 2 true 4],(.seq (.reg [o 1 (.box (.t 0)),o 2 (.new [.nilS,.nilS,.nilS,.nilS])]) (.seq (.drw [o 3 (.lit 1 0 [] []),o 4 (.fad 0 (.t 1)),o 5 (.ld false 1 (.t 4)),o 6 (.app 1 8 [(.int .i64 0)] (.t 3) (.t 5)),o 7 (.lit 3 0 [] []),o 8 (.fad 1 (.t 1)),o 9 (.ld false 1 (.t 8)),o 10 (.app 3 32 [(.str ⟨#[]⟩),(.int .i64 0),(.int .i64 0)] (.t 7) (.t 9)),o 11 (.lit 6 0 [] []),o 12 (.fad 2 (.t 1)),o 13 (.ld false 1 (.t 12)),o 14 (.app 6 64 [(.bool false),(.str ⟨#[]⟩),(.str ⟨#[]⟩),(.int .i64 0),(.int .i64 0),(.int .i64 0)] (.t 11) (.t 13)),o 15 (.lit 8 0 [] []),o 16 (.fad 3 (.t 1)),o 17 (.ld false 1 (.t 16))] [o 18 (.app 8 72 [(.str ⟨#[]⟩),(.int .i64 0),(.int .i64 0),(.int .i64 0),(.int .i64 0),(.int .i64 0),(.int .i64 0),(.bool false)] (.t 15) (.t 17)),o 19 (.build [.nilS,.nilS,.nilS,.nilS] [(0,1,(.t 6)),(1,1,(.t 10)),(2,1,(.t 14)),(3,1,(.t 18))]),on (.st 4 (.t 2) (.t 19))]) .ret))⟩
theorem ir_s_l06Copy:compFn Try.prog n_s_l06Copy=some F_s_l06Copy:=by kernel_rfl
abbrev n_i_copyState:Nat:=31
def F_i_copyState:Fn1:=⟨19,[.c 2 true 4],(.seq (.reg [o 1 (.box (.t 0)),o 2 (.new [.nilS,.nilS,.nilS,.nilS])]) (.seq (.drw [o 3 (.fad 0 (.t 1)),o 4 (.ld false 1 (.t 3)),o 5 (.call 51 [(.t 4)]),o 6 (.lit 3 0 [] []),o 7 (.fad 1 (.t 1)),o 8 (.ld false 1 (.t 7)),o 9 (.app 3 32 [(.str ⟨#[]⟩),(.int .i64 0),(.int .i64 0)] (.t 6) (.t 8)),o 10 (.lit 6 0 [] []),o 11 (.fad 2 (.t 1)),o 12 (.ld false 1 (.t 11)),o 13 (.app 6 64 [(.bool false),(.str ⟨#[]⟩),(.str ⟨#[]⟩),(.int .i64 0),(.int .i64 0),(.int .i64 0)] (.t 10) (.t 12)),o 14 (.lit 8 0 [] []),o 15 (.fad 3 (.t 1)),o 16 (.ld false 1 (.t 15))] [o 17 (.app 8 72 [(.str ⟨#[]⟩),(.int .i64 0),(.int .i64 0),(.int .i64 0),(.int .i64 0),(.int .i64 0),(.int .i64 0),(.bool false)] (.t 14) (.t 16)),o 18 (.build [.nilS,.nilS,.nilS,.nilS] [(0,1,(.t 5)),(1,1,(.t 9)),(2,1,(.t 13)),(3,1,(.t 17))]),on (.st 4 (.t 2) (.t 18))]) .ret))⟩
theorem ir_i_copyState:compFn Try.prog n_i_copyState=some F_i_copyState:=by kernel_rfl
theorem s_CellAt_r0 (σ:St) (a b c v:GV) (l:List Cell) (d:Dot) (h:RS pCell.kd σ v l) (hl:l.length≤1099511627776):Ret Try.prog n_s_CellAt [.agg [a,b,c,v],.agg [gi d.rep,gi d.seq]] σ (gi (cellNo l d)) σ:=by
 refine ret_eq ir_s_CellAt (Nat.le_of_ble_eq_true rfl) trivial ?_
 simp +contextual (disch:=omega) only[go_sem,F_s_CellAt]
 refine vc_for l.length 5 (fun i env τ=>env 2= .ptr σ.length 0∧env 3= .ptr (σ++[some (Blk.row 1 [a,b,c,v])]).length 0∧(∀ j (hj:j<i) (hl:j<l.length),l[j].dot≠d)∧σ++[some (.row 1 [a,b,c,v])]++[some (.row 1 [gi d.rep,gi d.seq])] <+: τ) rfl ⟨rfl,rfl,fun j hj=>by omega,List.prefix_refl _⟩ ?_ ?_
 ·rintro i env τ hi e5 c0 ⟨e2,e3,ha,hp⟩
  have h1:=h.pre (box_pre2 hp)
  by_cases hd:l[i].dot=d
  ·have hq:cellNo l d=i:=by rw[cellNo,cellIx_drop hi (fun j hj=>ha j hj (by omega)) hd]
   simp +contextual (disch:=omega) only[go_sem,c0,e2,e3,e5,ld_ptr (box_rd2 hp),ld_ptr (box_rd hp),h.len,Cell_at h1 hi,hp,decide_eq_true hd,hq,box_pre2 hp]
  ·simp +contextual (disch:=omega) only[go_sem,c0,e2,e3,e5,ld_ptr (box_rd2 hp),ld_ptr (box_rd hp),h.len,Cell_at h1 hi,hp,decide_eq_false hd]
   intro j hj hl
   rcases Nat.lt_or_ge j i with h2|h2
   ·exact ha j h2 hl
   ·have:j=i:=by omega
    subst this;exact hd
 ·rintro env τ e5 c0 ⟨e2,e3,ha,hp⟩
  have hq:cellNo l d= -1:=by rw[cellNo,cellIx_none (fun j hj=>ha j hj hj)]
  simp +contextual (disch:=omega) only[go_sem,c0,e2,e3,e5,ld_ptr (box_rd2 hp),h.len,hq,box_pre2 hp]
theorem slices_IndexFunc_Cell_ret (σ:St) (v:GV) (l:List Cell) (h:RS pCell.kd σ v l) (hl:l.length≤1099511627776) (f:Nat) (cs:List (Nat×Nat)) (p:Cell→Bool) (hf:∀(τ:St) (x:Cell),σ <+: τ→Ret Try.prog f (.agg (pCell.enc x)::cs.map fun c=>.ptr c.1 c.2) τ (.bool (p x)) τ):
  Ret Try.prog n_slices_IndexFunc_impl_Cell_impl_Cell [v,.fn f cs] σ (gi (match l.findIdx? p with|some k=>(k:Int)|none=> -1)) σ:=by
 refine ret_eq ir_slices_IndexFunc_impl_Cell_impl_Cell (Nat.le_of_ble_eq_true rfl) trivial ?_
 simp +contextual (disch:=omega) only[go_sem,F_slices_IndexFunc_impl_Cell_impl_Cell,h.len]
 refine vc_for l.length 8 (fun i env τ=>env 0=v∧env 1= .fn f cs∧env 6=v∧env 7=gi l.length∧(∀ j (hj:j<i) (hl:j<l.length),p l[j]=false)∧σ <+: τ) rfl ⟨rfl,rfl,rfl,rfl,fun j hj=>by omega,List.prefix_refl _⟩ ?_ ?_
 ·rintro i env τ hi e8 c0 ⟨e0,e1,e6,e7,ha,hp⟩
  simp +contextual (disch:=omega) only[go_sem,c0,e0,e1,e6,e7,e8,Cell_at (h.pre hp) hi,hp]
  have hpx:=hf τ l[i] hp
  refine by_bool hpx (fun h1=> ?_) (fun h1=> ?_)
  ·have hq:l.findIdx? p=some i:=List.findIdx?_eq_some_iff_getElem.2 ⟨hi,h1,fun j hj=>by simp[ha j hj (by omega)]⟩
   simp +contextual (disch:=omega) only[go_sem,c0,e0,e1,e6,e7,e8,hq,hp]
  ·simp +contextual (disch:=omega) only[go_sem,c0,e0,e1,e6,e7,e8,hp]
   intro j hj hl
   rcases Nat.lt_or_ge j i with h2|h2
   ·exact ha j h2 hl
   ·have:j=i:=by omega
    subst this;exact h1
 ·rintro env τ e8 c0 ⟨e0,e1,e6,e7,ha,hp⟩
  have hq:l.findIdx? p=none:=by
   rw[List.findIdx?_eq_none_iff]
   intro x hx
   obtain⟨j,hj,rfl⟩:=List.getElem_of_mem hx
   exact ha j hj hj
  simp +contextual (disch:=omega) only[go_sem,c0,e0,e1,e6,e7,e8,hq,hp]
theorem i_CellAt_f1_ret (τ:St) (x:Cell) (g:Nat) (d:Dot) (hg:rdB τ g=some [gi d.rep,gi d.seq]):Ret Try.prog n_i_CellAt_f1 [.agg (pCell.enc x),.ptr g 0] τ (.bool (decide (x.dot=d))) τ:=by
 refine ret_eq ir_i_CellAt_f1 (Nat.le_of_ble_eq_true rfl) trivial ?_
 simp +contextual (disch:=omega) only[go_sem,F_i_CellAt_f1,enc_Cell,ld_ptr (rdB_app hg _)]
theorem i_CellAt_r0 (σ:St) (a b c v:GV) (l:List Cell) (d:Dot) (h:RS pCell.kd σ v l) (hl:l.length≤1099511627776):Ret Try.prog n_i_CellAt [.agg [a,b,c,v],.agg [gi d.rep,gi d.seq]] σ (gi (cellNo l d)) σ:=by
 refine ret_eq ir_i_CellAt (Nat.le_of_ble_eq_true rfl) trivial ?_
 simp +contextual (disch:=omega) only[go_sem,F_i_CellAt]
 have R:=slices_IndexFunc_Cell_ret (σ++[some (.row 1 [a,b,c,v])]++[some (.row 1 [gi d.rep,gi d.seq])]) v l (h.pre pre2) hl n_i_CellAt_f1 [((σ++[some (Blk.row 1 [a,b,c,v])]).length,0)] (fun c=>decide (c.dot=d)) (fun τ x hp=>i_CellAt_f1_ret τ x _ d (box_rd hp))
 refine by_ret R ?_
 simp +contextual (disch:=omega) only[go_sem]
 rfl
theorem i_refsOk_ret (σ:St) (v:GV) (l:List Cell) (h:RS pCell.kd σ v l) (hl:l.length≤1099511627776) (hu:l.Pairwise fun a b=>dotLt a.dot b.dot=true):Ret Try.prog n_i_refsOk [v] σ (.bool (refsOk l)) σ:=by
 refine ret_eq ir_i_refsOk (Nat.le_of_ble_eq_true rfl) trivial ?_
 simp +contextual (disch:=omega) only[go_sem,F_i_refsOk,h.len]
 have H0:=(Hp.refl σ).newMap
 refine vc_for l.length 13 (fun i env τ=>env 0=v∧env 3= .mp σ.length∧env 11=v∧env 12=gi l.length∧Hp σ τ [mpt (.mp σ.length) (plc 0 (l.take i))]) rfl ⟨rfl,rfl,rfl,rfl,H0⟩ ?_ ?_
 ·rintro i env τ hi e13 c0 ⟨e0,e3,e11,e12,H⟩
  obtain⟨τ',e,H2⟩:=(H.grow (pre1 τ (some (Blk.row 1 [.str l[i].obj,gi l[i].dot.rep,gi l[i].dot.seq,gi l[i].time,gi l[i].ref.rep,gi l[i].ref.seq,gi l[i].val,.bool l[i].gone])))).mup 0 rfl l[i].dot i (plc_new hu hi)
  simp +contextual (disch:=omega) only[go_sem,c0,e0,e3,e11,e12,e13,Cell_at (h.pre H.sub) hi,fun r=>Cell_at (h.pre (pre_app H.sub r)) hi,e]
  rw[plc_step hi]
  exact H2
 ·rintro env τ e13 c0 ⟨e0,e3,e11,e12,H⟩
  rw[List.take_length] at H
  simp +contextual (disch:=omega) only[go_sem,c0,e0,e3,e11,e12,e13,(h.pre H.sub).len]
  refine vc_for l.length 25 (fun i env τ=>env 0=v∧env 3= .mp σ.length∧env 23=v∧env 24=gi l.length∧(l.take i).all (ref1 l)=true∧Hp σ τ [mpt (.mp σ.length) (plc 0 l)]) rfl ⟨e0,e3,rfl,rfl,rfl,H⟩ ?_ ?_
  ·rintro i env τ hi e25 c0 ⟨e0,e3,e23,e24,ha,H⟩
   have hf:=fun h=>all_false_at (p:=ref1 l) hi h
   have ht:=take_all_succ hi ha
   have G:=H.grow (pre1 τ (some (Blk.row 1 [.str l[i].obj,gi l[i].dot.rep,gi l[i].dot.seq,gi l[i].time,gi l[i].ref.rep,gi l[i].ref.seq,gi l[i].val,.bool l[i].gone])))
   have hlk:=G.mlk 0 rfl l[i].ref
   have hdl:=dlook_plc l[i].ref 0 l
   by_cases hr:l[i].ref=⟨0,0⟩
   ·simp +contextual (disch:=omega) only[go_sem,c0,e0,e3,e23,e24,e25,Cell_at (h.pre H.sub) hi,decide_eq_true hr]
    exact⟨ht (by simp[ref1,hr]),G⟩
   ·cases hx:cellIx l l[i].ref with
    |none=>
     rw[hx] at hdl
     have hb:ref1 l l[i]=false:=by simp[ref1,hr,hx]
     rw[hdl] at hlk
     simp +contextual (disch:=omega) only[go_sem,c0,e0,e3,e23,e24,e25,Cell_at (h.pre H.sub) hi,decide_eq_false hr,hlk,Option.map_none,Option.isSome_none,Option.getD_none]
     exact⟨by simp[refsOk,hf hb],G.sub⟩
    |some k=>
     rw[hx] at hdl
     obtain⟨hkl,_⟩:=cellIx_some hx
     have hb:ref1 l l[i]=(decide (l[k].obj=l[i].obj)&&decide (l[k].time<l[i].time)):=by simp[ref1,hr,hx,onI_at hkl]
     rw[hdl] at hlk
     simp +contextual (disch:=omega) only[go_sem,c0,e0,e3,e23,e24,e25,Cell_at (h.pre H.sub) hi,decide_eq_false hr,hlk,Option.map_some,Option.isSome_some,Option.getD_some,Nat.zero_add,Cell_at (h.pre H.sub) hkl,fun r=>Cell_at (h.pre (pre_app H.sub r)) hkl]
     refine⟨fun q1=>⟨?_,G.sub⟩,fun q1=>⟨fun q2=>⟨?_,G.sub⟩,fun q2=>⟨ht ?_,G⟩⟩⟩
     ·simp only[Bool.not_eq_true'] at q1
      rw[q1] at hb
      simp[refsOk,hf (by rw[hb];rfl)]
     ·rw[decide_eq_false (show ¬ l[k].time<l[i].time by have:=of_decide_eq_true q2;omega),Bool.and_false] at hb
      simp[refsOk,hf hb]
     ·simp only[Bool.not_eq_false'] at q1
      rw[hb,q1,decide_eq_true (show l[k].time<l[i].time by have:=of_decide_eq_false q2;omega)];rfl
  ·rintro env τ e25 c0 ⟨e0,e3,e23,e24,ha,H⟩
   rw[List.take_length] at ha
   simp +contextual (disch:=omega) only[go_sem,c0,e0,e3,e23,e24,e25,H.sub]
   exact ha.symm
end Go.Proofs.Ytbeoiejnogdkpaa.Sy
namespace Go.Proofs.Ytbeoiejnogdkpaa.Sy
open Go Go.RowKit
set_option linter.unusedSimpArgs false
set_option linter.unusedVariables false
set_option maxRecDepth 4000
theorem msState_all {s:State} (h:msState s≤1099511627776):s.know.length≤1099511627776∧s.tallies.length≤1099511627776∧s.lives.length≤1099511627776∧s.cells.length≤1099511627776∧
  (∀ x∈s.tallies,x.obj.size≤1099511627776)∧(∀ x∈s.lives,x.obj.size≤1099511627776∧x.key.size≤1099511627776)∧∀ x∈s.cells,x.obj.size≤1099511627776:=by
 unfold msState at h
 refine⟨by omega,by omega,by omega,by omega,fun x hx=> ?_,fun x hx=> ?_,fun x hx=> ?_⟩
 ·have h1:=sumL_mem (f:=msTally) hx
  unfold msTally at h1;unfold msTally at h;omega
 ·have h1:=sumL_mem (f:=msLive) hx
  unfold msLive at h1;unfold msLive at h;omega
 ·have h1:=sumL_mem (f:=msCell) hx
  unfold msCell at h1;unfold msCell at h;omega
theorem i_StateOk_ret (σ:St) (cs:List GV) (s:State) (hR:kState.R σ s cs) (hl:msState s≤1099511627776):Ret Try.prog n_i_StateOk [.agg cs] σ (.bool (stateOk s)) σ:=by
 obtain⟨a,b,c,v,rfl,hk,ht,hv,hc⟩:=hR
 obtain⟨l1,l2,l3,l4,z1,z2,z3⟩:=msState_all hl
 have p1:=pre1 σ (some (Blk.row 1 [a,b,c,v]))
 refine ret_eq ir_i_StateOk (Nat.le_of_ble_eq_true rfl) trivial ?_
 simp +contextual (disch:=omega) only[go_sem,F_i_StateOk]
 refine by_bool (i_KnowOk_ret _ a s.know (hk.pre p1) l1) (fun h1=> ?_) (fun h1=> ?_)
 rotate_left
 ·simp +contextual (disch:=omega) only[go_sem]
  simp[stateOk,h1]
 simp +contextual (disch:=omega) only[go_sem]
 refine by_bool (i_talliesOk_ret _ b s.tallies (ht.pre p1) l2 z1) (fun h2=> ?_) (fun h2=> ?_)
 rotate_left
 ·simp +contextual (disch:=omega) only[go_sem]
  simp[stateOk,h2]
 simp +contextual (disch:=omega) only[go_sem]
 refine by_bool (i_livesOk_ret _ c s.lives (hv.pre p1) a s.know (hk.pre p1) l1 l3 z2) (fun h3=> ?_) (fun h3=> ?_)
 rotate_left
 ·simp +contextual (disch:=omega) only[go_sem]
  simp[stateOk,h3]
 simp +contextual (disch:=omega) only[go_sem]
 refine by_bool (i_cellsOk_ret _ v s.cells (hc.pre p1) a s.know (hk.pre p1) l1 l4 z3) (fun h4=> ?_) (fun h4=> ?_)
 rotate_left
 ·simp +contextual (disch:=omega) only[go_sem]
  simp[stateOk,h4]
 simp +contextual (disch:=omega) only[go_sem]
 refine by_ret (i_refsOk_ret _ v s.cells (hc.pre p1) l4 (dots_up h4)) ?_
 simp +contextual (disch:=omega) only[go_sem]
 simp[stateOk,h1,h2,h3,h4]
theorem neg1_lt:decide ((-1:Int)<0)=true:=rfl
theorem s_StateOk_ret (σ:St) (cs:List GV) (s:State) (hR:kState.R σ s cs) (hl:msState s≤1099511627776):Ret Try.prog n_s_StateOk [.agg cs] σ (.bool (stateOk s)) σ:=by
 obtain⟨a,b,c,v,rfl,hk,ht,hv,hc⟩:=hR
 obtain⟨l1,l2,l3,l4,z1,z2,z3⟩:=msState_all hl
 have p1:=pre1 σ (some (Blk.row 1 [a,b,c,v]))
 rw[← stateOkS_eq]
 refine ret_eq ir_s_StateOk (Nat.le_of_ble_eq_true rfl) trivial ?_
 simp +contextual (disch:=omega) only[go_sem,F_s_StateOk]
 refine by_bool (s_KnowOk_ret _ a s.know (hk.pre p1) l1) (fun h1=> ?_) (fun h1=> ?_)
 rotate_left
 ·simp +contextual (disch:=omega) only[go_sem]
  simp[stateOkS,h1]
 simp +contextual (disch:=omega) only[go_sem]
 refine by_bool (s_l06Tallies_ret _ b s.tallies (ht.pre p1) l2 z1) (fun h2=> ?_) (fun h2=> ?_)
 rotate_left
 ·simp +contextual (disch:=omega) only[go_sem]
  simp[stateOkS,h2]
 simp +contextual (disch:=omega) only[go_sem]
 refine by_bool (s_l06Lives_ret _ c s.lives (hv.pre p1) l3 z2) (fun h3=> ?_) (fun h3=> ?_)
 rotate_left
 ·simp +contextual (disch:=omega) only[go_sem]
  simp[stateOkS,h3]
 simp +contextual (disch:=omega) only[go_sem]
 refine by_bool (s_l06Cells_ret _ v s.cells (hc.pre p1) l4 z3) (fun h4=> ?_) (fun h4=> ?_)
 rotate_left
 ·simp +contextual (disch:=omega) only[go_sem]
  simp[stateOkS,h4]
 simp +contextual (disch:=omega) only[go_sem]
 refine vc_for s.lives.length 3 (fun i env τ=>env 1= .ptr σ.length 0∧(s.lives.take i).all (livK s.know)=true∧σ++[some (.row 1 [a,b,c,v])] <+: τ) rfl ⟨rfl,rfl,List.prefix_refl _⟩ ?_ ?_
 ·rintro i env τ hi e3 c0 ⟨e1,ha,hp⟩
  have hf:=fun h=>all_false_at (p:=livK s.know) hi h
  have hq:=take_all_succ hi ha
  simp +contextual (disch:=omega) only[go_sem,c0,e1,e3,ld_ptr (box_rd hp),hv.len,Live_at (hv.pre (box_pre hp)) hi]
  refine by_bool (s_Knows_ret _ a s.know s.lives[i].dot (hk.pre (box_pre hp)) l1) (fun h5=> ?_) (fun h5=> ?_)
  ·simp +contextual (disch:=omega) only[go_sem,e1,e3,hp]
   exact hq h5
  ·simp +contextual (disch:=omega) only[go_sem,box_pre hp]
   simp[stateOkS,hf h5]
 ·rintro env τ e3 c0 ⟨e1,ha5,hp⟩
  rw[List.take_length] at ha5
  simp +contextual (disch:=omega) only[go_sem,c0,e1,e3,ld_ptr (box_rd hp),hv.len]
  refine vc_for s.cells.length 4 (fun i env τ=>env 1= .ptr σ.length 0∧(s.cells.take i).all (celK s.cells s.know)=true∧σ++[some (.row 1 [a,b,c,v])] <+: τ) rfl ⟨e1,rfl,hp⟩ ?_ ?_
  ·rintro i env τ hi e4 c0 ⟨e1,ha,hp⟩
   have hf:=fun h=>all_false_at (p:=celK s.cells s.know) hi h
   have hq:=take_all_succ hi ha
   have C0:=Cell_at (hc.pre (box_pre hp)) hi
   have hr:=box_rd hp
   have hr2:rdB (τ++[some (Blk.row 1 [.str s.cells[i].obj,gi s.cells[i].dot.rep,gi s.cells[i].dot.seq,gi s.cells[i].time,gi s.cells[i].ref.rep,gi s.cells[i].ref.seq,gi s.cells[i].val,.bool s.cells[i].gone])]) σ.length=some [a,b,c,v]:=rdB_app hr _
   simp +contextual (disch:=omega) only[go_sem,c0,e1,e4,ld_ptr hr,ld_ptr hr2,hc.len,C0]
   refine by_bool (s_Knows_ret _ a s.know s.cells[i].dot (hk.pre (pre_app (box_pre hp) _)) l1) (fun h6=> ?_) (fun h6=> ?_)
   rotate_left
   ·simp +contextual (disch:=omega) only[go_sem,box_pre hp,pre_app (box_pre hp) _]
    simp[stateOkS,hf (by simp[celK,h6])]
   by_cases hz:s.cells[i].ref=⟨0,0⟩
   ·simp +contextual (disch:=omega) only[go_sem,e1,e4,decide_eq_true hz,pre_app hp _]
    exact hq (by simp[celK,ref1,h6,hz])
   ·simp +contextual (disch:=omega) only[go_sem,e1,e4,decide_eq_false hz,ld_ptr hr2]
    refine by_ret (s_CellAt_r0 _ a b c v s.cells s.cells[i].ref (hc.pre (pre_app (box_pre hp) _)) l4) ?_
    cases hx:cellIx s.cells s.cells[i].ref with
    |none=>
     have hb:celK s.cells s.know s.cells[i]=false:=by simp[celK,ref1,hz,hx]
     have hn:cellNo s.cells s.cells[i].ref= -1:=by simp[cellNo,hx]
     simp +contextual (disch:=omega) only[go_sem,hn,neg1_lt,box_pre hp,pre_app (box_pre hp) _]
     simp[stateOkS,hf hb]
    |some k=>
     obtain⟨hkl,_⟩:=cellIx_some hx
     have hb:celK s.cells s.know s.cells[i]=(decide (s.cells[k].obj=s.cells[i].obj)&&decide (s.cells[k].time<s.cells[i].time)):=by simp[celK,h6,ref1,hz,hx,onI_at hkl]
     have hn:cellNo s.cells s.cells[i].ref=k:=by simp[cellNo,hx]
     have hd:decide ((k:Int)<0)=false:=by simp
     simp +contextual (disch:=omega) only[go_sem,hn,hd,e1,e4,ld_ptr hr2,Cell_at (hc.pre (box_pre hp)) hkl,fun r=>Cell_at (hc.pre (pre_app (box_pre hp) r)) hkl,box_pre hp,pre_app (box_pre hp) _,pre_app hp _]
     refine⟨fun q1=> ?_,fun q1=>⟨fun q2=> ?_,fun q2=>hq ?_⟩⟩
     ·simp only[Bool.not_eq_true'] at q1
      rw[q1] at hb
      simp[stateOkS,hf (by rw[hb];rfl)]
     ·rw[decide_eq_false (show ¬ s.cells[k].time<s.cells[i].time by have:=of_decide_eq_true q2;omega),Bool.and_false] at hb
      simp[stateOkS,hf hb]
     ·simp only[Bool.not_eq_false'] at q1
      rw[hb,q1,decide_eq_true (show s.cells[k].time<s.cells[i].time by have:=of_decide_eq_false q2;omega)];rfl
  ·rintro env τ e4 c0 ⟨e1,ha,hp⟩
   rw[List.take_length] at ha
   simp +contextual (disch:=omega) only[go_sem,c0,e1,e4,ld_ptr (box_rd hp),hc.len,box_pre hp]
   simp[stateOkS,h1,h2,h3,h4,ha5,ha]
theorem s_CellAt_ret (σ:St) (cs:List GV) (s:State) (hR:kState.R σ s cs) (d:Dot) (hl:msState s≤1099511627776):Ret Try.prog n_s_CellAt [.agg cs,.agg [gi d.rep,gi d.seq]] σ (gi (cellNo s.cells d)) σ:=by
 obtain⟨a,b,c,v,rfl,_,_,_,h⟩:=hR
 exact s_CellAt_r0 σ a b c v s.cells d h (msState_all hl).2.2.2.1
end Go.Proofs.Ytbeoiejnogdkpaa.Sy
namespace Go.Proofs.Ytbeoiejnogdkpaa.Sy
open Go Go.RowKit
set_option linter.unusedSimpArgs false
set_option linter.unusedVariables false
def together (a b:Act):Bool:=actOk a&&(actOk b&&(!decide (a.dot=b.dot)&&(!knows a.knew b.dot&& !knows b.knew a.dot)))
end Go.Proofs.Ytbeoiejnogdkpaa.Sy
namespace Go.Proofs.Ytbeoiejnogdkpaa.Sy
open Go Go.RowKit
set_option linter.unusedSimpArgs false
set_option linter.unusedVariables false
section
variable {α:Type}
def insB (lt:α→α→Bool) (x:α):List α→List α
 |[]=>[x]
 |k::r=>if lt x k then x::k::r else k::insB lt x r
def insAll (lt:α→α→Bool) (l:List α):List α:=l.foldl (fun acc x=>insB lt x acc) []
theorem insAll_snoc {lt:α→α→Bool} {l:List α} {x:α}:insAll lt (l++[x])=insB lt x (insAll lt l):=by simp[insAll]
theorem insB_perm (lt:α→α→Bool) (x:α):∀ l:List α,(insB lt x l).Perm (x::l)
 |[]=>.refl _
 |k::r=>by
  unfold insB
  split
  ·exact .refl _
  ·exact((insB_perm lt x r).cons k).trans (.swap x k r)
theorem insAll_perm (lt:α→α→Bool) (l:List α):(insAll lt l).Perm l:=by
 have key:∀(l acc:List α),(l.foldl (fun acc x=>insB lt x acc) acc).Perm (acc++l):=by
  intro l
  induction l with
  |nil=>intro acc;simp
  |cons x l ih=>
   intro acc
   simp only[List.foldl_cons]
   refine(ih _).trans ?_
   refine((insB_perm lt x acc).append_right l).trans ?_
   rw[List.cons_append]
   exact List.perm_middle.symm
 have:=key l []
 unfold insAll
 simpa using this
theorem insB_length (lt:α→α→Bool) (x:α) (l:List α):(insB lt x l).length=l.length+1:=(insB_perm lt x l).length_eq
theorem insAll_length (lt:α→α→Bool) (l:List α):(insAll lt l).length=l.length:=(insAll_perm lt l).length_eq
abbrev Up (lt:α→α→Bool) (l:List α):Prop:=l.Pairwise fun a b=>lt b a=false
open Go.Sort (SWO) in
theorem SWO.asym {lt:α→α→Bool} (h:SWO lt) {x y:α} (hxy:lt x y=true):lt y x=false:=by
 cases e:lt y x with
 |false=>rfl
 |true=>have:=h.trans _ _ _ hxy e;rw[h.irrefl] at this;cases this
theorem insB_up {lt:α→α→Bool} (h:Go.Sort.SWO lt) {x:α}:∀ {l:List α},Up lt l→Up lt (insB lt x l)
 |[],_=>by simp[insB]
 |k::r,hl=>by
  obtain⟨h1,h2⟩:=List.pairwise_cons.1 hl
  unfold insB
  split
  ·rename_i hx
   refine List.pairwise_cons.2 ⟨fun y hy=> ?_,hl⟩
   rcases List.mem_cons.1 hy with rfl|hy
   ·exact SWO.asym h hx
   ·have:=h1 y hy
    cases e:lt y x with
    |false=>rfl
    |true=>rw[h.trans _ _ _ e hx] at this;cases this
  ·rename_i hx
   refine List.pairwise_cons.2 ⟨fun y hy=> ?_,insB_up h h2⟩
   rcases List.mem_cons.1 ((insB_perm lt x r).mem_iff.1 hy) with rfl|hy
   ·simpa using hx
   ·exact h1 y hy
theorem insAll_up {lt:α→α→Bool} (h:Go.Sort.SWO lt) (l:List α):Up lt (insAll lt l):=by
 have key:∀(l acc:List α),Up lt acc→Up lt (l.foldl (fun acc x=>insB lt x acc) acc):=by
  intro l
  induction l with
  |nil=>intro acc h;exact h
  |cons x l ih=>intro acc ha;exact ih _ (insB_up h ha)
 exact key l [] .nil
theorem up_unique {lt:α→α→Bool}:∀ {l m:List α},(∀ x∈l,∀ y∈l,lt x y=false→lt y x=false→x=y)→l.Perm m→Up lt l→Up lt m→l=m
 |[],m,_,hp,_,_=>(List.nil_perm.1 hp).symm
 |a::l,[],_,hp,_,_=>by have:=hp.length_eq;simp at this
 |a::l,b::m,ht,hp,h1,h2=>by
  obtain⟨h3,h4⟩:=List.pairwise_cons.1 h1
  obtain⟨h5,h6⟩:=List.pairwise_cons.1 h2
  have hab:a=b:=by
   have ha:a∈b::m:=hp.mem_iff.1 List.mem_cons_self
   have hb:b∈a::l:=hp.mem_iff.2 List.mem_cons_self
   rcases List.mem_cons.1 ha with e|ha
   ·exact e
   ·rcases List.mem_cons.1 hb with e|hb
    ·exact e.symm
    ·exact ht a List.mem_cons_self b (List.mem_cons_of_mem _ hb) (h5 a ha) (h3 b hb)
  subst hab
  rw[up_unique (fun x hx y hy=>ht x (List.mem_cons_of_mem _ hx) y (List.mem_cons_of_mem _ hy)) hp.cons_inv h4 h6]
def putU [DecidableEq α] (lt:α→α→Bool) (x:α) (l:List α):List α:=if x∈l then l else insB lt x l
def putAll [DecidableEq α] (lt:α→α→Bool) (l:List α):List α:=l.foldl (fun acc x=>putU lt x acc) []
def compact [DecidableEq α]:List α→List α
 |[]=>[]
 |[x]=>[x]
 |x::y::r=>if x=y then compact (y::r) else x::compact (y::r)
theorem sort_insAll {lt:α→α→Bool} (h:Go.Sort.SWO lt) {l m:List α} (htri:∀ x∈l,∀ y∈l,lt x y=false→lt y x=false→x=y) (hp:m.Perm l) (hu:Up lt m):m=insAll lt l:=up_unique (fun x hx y hy=>htri x (hp.mem_iff.1 hx) y (hp.mem_iff.1 hy)) (hp.trans (insAll_perm lt l).symm) hu (insAll_up h l)
end
def ltI (a b:Int):Bool:=decide (a<b)
theorem swo_txLt:Go.Sort.SWO txLt:=⟨txLt_irr,fun x y z=>txLt_trans,fun x y z h1 h2=>by
 cases e:txLt x z with
 |false=>rfl
 |true=>
  by_cases hxy:x=y
  ·subst hxy;rw[h2] at e;cases e
  ·have h3:txLt y x=true:=by
    cases e2:txLt y x with
    |true=>rfl
    |false=>exact absurd (txLt_tri h1 e2) hxy
   rw[txLt_trans h3 e] at h2;cases h2⟩
end Go.Proofs.Ytbeoiejnogdkpaa.Sy
namespace Go.Proofs.Ytbeoiejnogdkpaa.Sy
open Go Go.RowKit
set_option linter.unusedSimpArgs false
set_option linter.unusedVariables false
def later (a b:Cell):Bool:=decide (b.time<a.time)||decide (a.time=b.time)&&dotLt b.dot a.dot
theorem swo_later:Go.Sort.SWO later:=⟨fun x=>by simp[later,dotLt_irr],fun x y z h1 h2=>by
  simp only[later,dotLt,Bool.or_eq_true,Bool.and_eq_true,decide_eq_true_eq] at *;omega,fun x y z h1 h2=>by
  simp only[later,dotLt,Bool.or_eq_false_iff,Bool.and_eq_false_iff,decide_eq_false_iff_not] at *;omega⟩
theorem later_tri {x y:Cell} (h1:later x y=false) (h2:later y x=false):x.dot=y.dot:=by
 rw[Dot.eq_iff]
 simp only[later,dotLt,Bool.or_eq_false_iff,Bool.and_eq_false_iff,decide_eq_false_iff_not] at *;omega
def isRef (d:Dot) (c:Cell):Bool:=decide (c.ref=d)
def isObj (o:ByteArray) (c:Cell):Bool:=decide (c.obj=o)
def rowF (sc:List Cell):Nat→Dot→List Cell
 |0,_=>[]
 |f+1,d=>(sc.filter (isRef d)).flatMap fun c=>c::rowF sc f c.dot
def Adq (sc:List Cell):Nat→Dot→Prop
 |0,d=>∀ c∈sc,c.ref≠d
 |f+1,d=>∀ c∈sc,c.ref=d→Adq sc f c.dot
theorem Adq.up {sc:List Cell}:∀ {f:Nat} {d:Dot},Adq sc f d→Adq sc (f+1) d
 |0,d,h=>fun c hc e=>absurd e (h c hc)
 |f+1,d,h=>fun c hc e=>(h c hc e).up
theorem Adq.le {sc:List Cell} {f g:Nat} {d:Dot} (h:Adq sc f d) (hg:f≤g):Adq sc g d:=by
 induction g with
 |zero=>
      have:f=0:=by omega
      subst this;exact h
 |succ g ih=>
  rcases Nat.lt_or_ge g f with h1|h1
  ·have:f=g+1:=by omega
   subst this;exact h
  ·exact(ih h1).up
theorem flatMap_congr' {α β:Type} {f g:α→List β}:∀ {l:List α},(∀ x∈l,f x=g x)→l.flatMap f=l.flatMap g
 |[],_=>rfl
 |x::l,h=>by rw[List.flatMap_cons,List.flatMap_cons,h x List.mem_cons_self,flatMap_congr' fun y hy=>h y (List.mem_cons_of_mem _ hy)]
theorem rowF_up {sc:List Cell}:∀ {f:Nat} {d:Dot},Adq sc f d→rowF sc (f+1) d=rowF sc f d
 |0,d,h=>by
  have:sc.filter (isRef d)=[]:=List.filter_eq_nil_iff.2 fun c hc=>by simpa [isRef] using h c hc
  simp[rowF,this]
 |f+1,d,h=>by
  rw[rowF,rowF]
  refine flatMap_congr' fun c hc=> ?_
  obtain⟨h1,h2⟩:=List.mem_filter.1 hc
  rw[rowF_up (h c h1 (by simpa [isRef] using h2))]
def fuel:Nat:=10001
def rowA (sc:List Cell) (d:Dot):List Cell:=rowF sc fuel d
theorem rowA_eq {sc:List Cell} {d:Dot} (h:Adq sc fuel d):rowA sc d=(sc.filter (isRef d)).flatMap fun c=>c::rowA sc c.dot:=by
 unfold rowA
 rw[← rowF_up h,rowF]
theorem rowF_mem {sc:List Cell}:∀ {f:Nat} {d:Dot} {c:Cell},c∈rowF sc f d→c∈sc
 |0,_,_,h=>by simp[rowF] at h
 |f+1,d,c,h=>by
  rw[rowF,List.mem_flatMap] at h
  obtain⟨x,hx,h⟩:=h
  rcases List.mem_cons.1 h with rfl|h
  ·exact(List.mem_filter.1 hx).1
  ·exact rowF_mem h
theorem nodup_len {α:Type} [DecidableEq α]:∀ {l m:List α},l.Nodup→(∀ x∈l,x∈m)→l.length≤m.length
 |[],m,_,_=>by simp
 |x::l,m,hn,h=>by
  rw[List.nodup_cons] at hn
  have hx:=h x List.mem_cons_self
  have:=nodup_len (l:=l) (m:=m.erase x) hn.2 fun y hy=>by
   rw[List.mem_erase_of_ne (fun e=>hn.1 (by rw[← e];exact hy))]
   exact h y (List.mem_cons_of_mem _ hy)
  rw[List.length_erase_of_mem hx] at this
  have:=List.length_pos_of_mem hx
  simp only[List.length_cons];omega
theorem cell_eq {l:List Cell} (h:(l.map (·.dot)).Nodup) {a b:Cell} (ha:a∈l) (hb:b∈l) (e:a.dot=b.dot):a=b:=by
 induction l with
 |nil=>simp at ha
 |cons z l ih=>
  rw[List.map_cons,List.nodup_cons] at h
  rcases List.mem_cons.1 ha with h1|h1<;>rcases List.mem_cons.1 hb with h2|h2
  ·rw[h1,h2]
  ·exact(h.1 (by rw[← h1,e];exact List.mem_map_of_mem (f:=(·.dot)) h2)).elim
  ·exact(h.1 (by rw[← h2,←e];exact List.mem_map_of_mem (f:=(·.dot)) h1)).elim
  ·exact ih h.2 h1 h2
theorem kids_nodup {sc:List Cell} (hd:(sc.map (·.dot)).Nodup):∀ {ds:List Dot},ds.Nodup→((ds.flatMap fun d=>sc.filter (isRef d)).map (·.dot)).Nodup
 |[],_=>by simp
 |d::ds,hn=>by
  rw[List.nodup_cons] at hn
  rw[List.flatMap_cons,List.map_append,List.nodup_append]
  refine⟨hd.sublist ((List.filter_sublist).map _),kids_nodup hd hn.2,fun x hx y hy e=> ?_⟩
  obtain⟨a,ha,rfl⟩:=List.mem_map.1 hx
  obtain⟨b,hb,rfl⟩:=List.mem_map.1 hy
  obtain⟨d',hd',hb⟩:=List.mem_flatMap.1 hb
  obtain⟨ha1,ha2⟩:=List.mem_filter.1 ha
  obtain⟨hb1,hb2⟩:=List.mem_filter.1 hb
  have hab:a=b:=cell_eq hd ha1 hb1 e
  subst hab
  have e1:a.ref=d:=by simpa [isRef] using ha2
  have e2:a.ref=d':=by simpa [isRef] using hb2
  exact hn.1 (by rw[← e1,e2];exact hd')
theorem flatMap_len {α β γ:Type} {k:α→List β} {g:β→List γ} (w:α→List γ) (hw:∀ a,(w a).length=(k a).length+((k a).flatMap g).length):∀ ds:List α,(ds.flatMap w).length=(ds.flatMap k).length+((ds.flatMap k).flatMap g).length
 |[]=>rfl
 |d::ds=>by
  simp only[List.flatMap_cons,List.length_append,List.flatMap_append,hw,flatMap_len w hw ds];omega
theorem cons_flat_len {β γ:Type} (g:β→List γ) (h:β→γ):∀ l:List β,(l.flatMap fun c=>h c::g c).length=l.length+(l.flatMap g).length
 |[]=>rfl
 |c::l=>by
  have:=cons_flat_len g h l
  simp only[List.flatMap_cons,List.length_append,List.length_cons] at *;omega
theorem rowF_len {sc:List Cell} (hd:(sc.map (·.dot)).Nodup):∀(f:Nat) {ds:List Dot},ds.Nodup→(ds.flatMap (rowF sc f)).length≤f*sc.length
 |0,ds,_=>by
  have:∀ ds:List Dot,ds.flatMap (rowF sc 0)=[]:=by
   intro ds
   induction ds with
   |nil=>rfl
   |cons d ds ih=>rw[List.flatMap_cons,ih];rfl
  rw[this];simp
 |f+1,ds,hn=>by
  have h1:=flatMap_len (k:=fun d=>sc.filter (isRef d)) (g:=fun c=>rowF sc f c.dot) (rowF sc (f+1)) (fun d=>by rw[rowF];exact cons_flat_len (fun c=>rowF sc f c.dot) id _) ds
  have h2:=kids_nodup hd hn
  have h3:=rowF_len hd f h2
  have e:(ds.flatMap fun d=>sc.filter (isRef d)).flatMap (fun c=>rowF sc f c.dot)=((ds.flatMap fun d=>sc.filter (isRef d)).map (·.dot)).flatMap (rowF sc f):=by rw[List.flatMap_map]
  rw[e] at h1
  have h4:(ds.flatMap fun d=>sc.filter (isRef d)).length≤sc.length:=by
   have:=nodup_len (m:=sc.map (·.dot)) h2 fun x hx=>by
    obtain⟨a,ha,rfl⟩:=List.mem_map.1 hx
    obtain⟨d,_,ha⟩:=List.mem_flatMap.1 ha
    exact List.mem_map_of_mem (List.mem_filter.1 ha).1
   simpa using this
  rw[h1,Nat.add_mul]
  omega
theorem up_nodup {l:List Cell} (h:l.Pairwise fun a b=>dotLt a.dot b.dot=true):(l.map (·.dot)).Nodup:=by
 rw[List.Nodup,List.pairwise_map]
 exact h.imp fun {a b} h e=>by rw[e,dotLt_irr] at h;cases h
structure CelR (l:List Cell):Prop where
 nd:(l.map (·.dot)).Nodup
 time:∀ c∈l,1≤c.time∧c.time≤10000
 dot:∀ c∈l,dotOk c.dot=true
 ref:∀ c∈l,c.ref=⟨0,0⟩∨∃ y∈l,y.dot=c.ref∧y.obj=c.obj∧y.time<c.time
 len:l.length≤120
theorem celR_of {s:State} (h:stateOk s=true):CelR s.cells:=by
 simp only[stateOk,Bool.and_eq_true] at h
 obtain⟨_,_,_,h4,h5⟩:=h
 have hup:=dots_up h4
 simp only[celsOk,Bool.and_eq_true,allR_iff,celP,decide_eq_true_eq] at h4
 have at':∀ c∈s.cells,knows s.know c.dot=true∧cel1 c=true:=fun c hc=>by
  obtain⟨i,hi,rfl⟩:=List.getElem_of_mem hc
  have:=h4.1 i hi
  rw[onI_at hi,onI_at hi] at this
  exact⟨this.1,this.2.1⟩
 refine⟨up_nodup hup,fun c hc=> ?_,fun c hc=>knows_dot (at' c hc).1,fun c hc=> ?_,h4.2⟩
 ·have:=(at' c hc).2
  simp only[cel1,Bool.and_eq_true] at this
  exact inB_iff.1 this.2.2
 ·have:=List.all_eq_true.1 h5 c hc
  unfold ref1 at this
  simp only[Bool.or_eq_true,decide_eq_true_eq] at this
  refine this.imp id fun h=> ?_
  split at h
  ·cases h
  ·rename_i k hk
   obtain⟨hkl,e⟩:=cellIx_some hk
   rw[onI_at hkl] at h
   simp only[Bool.and_eq_true,decide_eq_true_eq] at h
   exact⟨_,List.getElem_mem hkl,e,h.1,h.2⟩
theorem zero_notOk:dotOk ⟨0,0⟩=false:=by decide
theorem adq_time {sc:List Cell} (hnd:(sc.map (·.dot)).Nodup) (ht:∀ c∈sc,1≤c.time∧c.time≤10000) (hr:∀ c∈sc,∀ y∈sc,y.dot=c.ref→y.time<c.time):∀(f:Nat) (d:Dot) (t:Int),(∀ c∈sc,c.ref=d→t<c.time)→10000 - t≤f→Adq sc f d
 |0,d,t,h,hf=>fun c hc e=>by have:=h c hc e;have:=(ht c hc).2;omega
 |f+1,d,t,h,hf=>fun c hc e=>adq_time hnd ht hr f c.dot c.time (fun x hx ex=>hr x hx c hc ex.symm) (by have:=h c hc e;omega)
def objC (l:List Cell) (o:ByteArray):List Cell:=insAll later (l.filter (isObj o))
theorem objC_mem {l:List Cell} {o:ByteArray} {c:Cell}:c∈objC l o↔c∈l∧c.obj=o:=by
 rw[objC,(insAll_perm _ _).mem_iff,List.mem_filter];simp[isObj]
theorem objC_nd {l:List Cell} (h:(l.map (·.dot)).Nodup) (o:ByteArray):((objC l o).map (·.dot)).Nodup:=(((insAll_perm later (l.filter (isObj o))).map (·.dot)).nodup_iff).2 (h.sublist ((List.filter_sublist).map _))
theorem objC_len (l:List Cell) (o:ByteArray):(objC l o).length≤l.length:=by
 rw[objC,insAll_length];exact List.length_filter_le _ _
theorem adq_zero {l:List Cell} (h:CelR l) (o:ByteArray):Adq (objC l o) fuel ⟨0,0⟩∧∀ c∈objC l o,Adq (objC l o) fuel c.dot:=by
 have ht:∀ c∈objC l o,1≤c.time∧c.time≤10000:=fun c hc=>h.time c (objC_mem.1 hc).1
 have hr:∀ c∈objC l o,∀ y∈objC l o,y.dot=c.ref→y.time<c.time:=fun c hc y hy e=>by
  obtain⟨hc,_⟩:=objC_mem.1 hc
  obtain⟨hy,_⟩:=objC_mem.1 hy
  rcases h.ref c hc with e0|⟨z,hz,e1,_,e2⟩
  ·have:=h.dot y hy
   rw[e,e0,zero_notOk] at this;cases this
  ·rw[cell_eq h.nd hy hz (e.trans e1.symm)];exact e2
 refine⟨adq_time (objC_nd h.nd o) ht hr fuel _ 0 (fun c hc _=>by have:=(ht c hc).1;omega) (by decide),fun c hc=> ?_⟩
 refine adq_time (objC_nd h.nd o) ht hr fuel _ c.time (fun x hx ex=>hr x hx c hc ex.symm) ?_
 have:=(ht c hc).1
 show 10000 - c.time≤((10001:Nat):Int)
 omega
def rowC (s:State) (o:ByteArray):List Cell:=rowA (objC s.cells o) ⟨0,0⟩
theorem rowC_len {s:State} (h:CelR s.cells) (o:ByteArray):(rowC s o).length≤1200120:=by
 have:=rowF_len (objC_nd h.nd o) fuel (ds:=[⟨0,0⟩]) (by simp)
 have h2:=objC_len s.cells o
 have h3:=h.len
 rw[List.flatMap_cons,List.flatMap_nil,List.append_nil] at this
 unfold rowC rowA
 have h4:fuel*(objC s.cells o).length≤fuel*120:=Nat.mul_le_mul_left _ (by omega)
 have h5:fuel*120=1200120:=rfl
 omega
theorem kids_eq {l:List Cell} (h:(l.map (·.dot)).Nodup) (o:ByteArray) (d:Dot):insAll later (l.filter fun c=>isObj o c&&isRef d c)=(objC l o).filter (isRef d):=by
 refine up_unique (fun x hx y hy h1 h2=> ?_) ?_ (insAll_up swo_later _) ((insAll_up swo_later _).sublist List.filter_sublist)
 ·have hx:=(List.mem_filter.1 ((insAll_perm later _).mem_iff.1 hx)).1
  have hy:=(List.mem_filter.1 ((insAll_perm later _).mem_iff.1 hy)).1
  exact cell_eq h hx hy (later_tri h1 h2)
 ·refine(insAll_perm _ _).trans ?_
  have e:(l.filter fun c=>isObj o c&&isRef d c)=(l.filter (isObj o)).filter (isRef d):=by
   rw[List.filter_filter]
   congr 1
   funext c
   exact Bool.and_comm _ _
  rw[e]
  exact(insAll_perm later (l.filter (isObj o))).symm.filter _
def rowL (s:State) (o:ByteArray):List Cell:=if stateOk s then(rowC s o).filter (fun c=> !c.gone) else[]
def rowD (s:State) (o:ByteArray):List Dot:=if stateOk s then(rowC s o).map (·.dot) else[]
theorem rowL_len (s:State) (o:ByteArray):(rowL s o).length≤1200120:=by
 unfold rowL
 split
 ·rename_i h
  exact Nat.le_trans (List.length_filter_le _ _) (rowC_len (celR_of h) o)
 ·simp
end Go.Proofs.Ytbeoiejnogdkpaa.Sy
namespace Go.Proofs.Ytbeoiejnogdkpaa.Sy
open Go Go.RowKit
set_option linter.unusedSimpArgs false
set_option linter.unusedVariables false
def addM (a b:Int):Int:=(a+b).tmod 1000000
def isTal (obj:ByteArray) (rep:Int) (t:Tally):Bool:=decide (t.obj=obj)&&decide (t.rep=rep)
def talPut (l:List Tally) (obj:ByteArray) (rep val:Int):List Tally:=match l.findIdx? (isTal obj rep) with
 |some i=>l.modify i fun t=>{t with sum:=addM t.sum val}
 |none=>insB tallyLt ⟨obj,rep,val⟩ l
def talPutI (l:List Tally) (obj:ByteArray) (rep val:Int):List Tally:=
 let p:=fun t=>tallyLt t ⟨obj,rep,0⟩
 match l.dropWhile p with
 |[]=>l.takeWhile p++[⟨obj,rep,addM 0 val⟩]
 |r::rr=>if isTal obj rep r then l.takeWhile p++⟨obj,rep,addM r.sum val⟩::rr else l.takeWhile p++⟨obj,rep,addM 0 val⟩::r::rr
theorem tallyLt_irr' {a b:Tally} (h:a.obj=b.obj) (h2:a.rep=b.rep):tallyLt a b=false:=by simp[tallyLt,h,h2,txLt_irr]
theorem swo_tally:Go.Sort.SWO tallyLt:=⟨fun x=>tallyLt_irr' rfl rfl,fun x y z h1 h2=>by
  simp only[tallyLt,Bool.or_eq_true,Bool.and_eq_true,decide_eq_true_eq] at*
  rcases h1 with h1|⟨h1,h3⟩<;>rcases h2 with h2|⟨h2,h4⟩
  ·exact .inl (txLt_trans h1 h2)
  ·exact .inl (by rw[← h2];exact h1)
  ·exact .inl (by rw[h1];exact h2)
  ·exact .inr ⟨h1.trans h2,by omega⟩,fun x y z h1 h2=>by
  simp only[tallyLt,Bool.or_eq_false_iff,Bool.and_eq_false_iff,decide_eq_false_iff_not] at*
  refine⟨swo_txLt.ntrans _ _ _ h1.1 h2.1,?_⟩
  by_cases hxz:x.obj=z.obj
  ·right
   have hxy:x.obj=y.obj:=by
    by_cases e:x.obj=y.obj
    ·exact e
    ·exfalso
     have h3:txLt y.obj x.obj=true:=by
      cases e2:txLt y.obj x.obj with
      |true=>rfl
      |false=>exact absurd (txLt_tri h1.1 e2) e
     rw[hxz] at h3
     rw[h3] at h2
     simp at h2
   rcases h1.2 with h|h
   ·exact absurd hxy h
   ·rcases h2.2 with h'|h'
    ·exact absurd (hxy.symm.trans hxz) h'
    ·omega
  ·exact .inl hxz⟩
theorem tally_tri {x y:Tally} (h1:tallyLt x y=false) (h2:tallyLt y x=false):x.obj=y.obj∧x.rep=y.rep:=by
 simp only[tallyLt,Bool.or_eq_false_iff,Bool.and_eq_false_iff,decide_eq_false_iff_not] at*
 have e:=txLt_tri h1.1 h2.1
 refine⟨e,?_⟩
 rcases h1.2 with h|h
 ·exact absurd e h
 ·rcases h2.2 with h'|h'
  ·exact absurd e.symm h'
  ·omega
theorem isTal_iff {obj:ByteArray} {rep:Int} {t:Tally}:isTal obj rep t=true↔t.obj=obj∧t.rep=rep:=by simp[isTal]
def insW {α:Type} (p:α→Bool) (x:α) (l:List α):List α:=l.takeWhile p++x::l.dropWhile p
def insLive (x:Live) (l:List Live):List Live:=insB liveLt x l
def insCell (x:Cell) (l:List Cell):List Cell:=insB cellLt x l
def keepL (m:Bool) (obj key:ByteArray) (knew:List Int) (x:Live):Bool:= !(x.map==m)||(!decide (x.obj=obj)||(!decide (x.key=key)|| !knows knew x.dot))
def goneAt (l:List Cell) (d:Dot):List Cell:=match cellIx l d with
 |some k=>l.modify k fun c=>{c with gone:=true}
 |none=>l
def doKind (s:State) (a:Act):State:=
 if a.kind=1 then {s with tallies:=talPut s.tallies a.obj a.dot.rep a.val}
 else if a.kind=2 then {s with lives:=insLive ⟨false,a.obj,a.key,0,a.dot⟩ s.lives}
 else if a.kind=3 then {s with lives:=s.lives.filter (keepL false a.obj a.key a.knew)}
 else if a.kind=4 then {s with lives:=insLive ⟨true,a.obj,a.key,a.val,a.dot⟩ (s.lives.filter (keepL true a.obj a.key a.knew))}
 else if a.kind=5 then {s with lives:=s.lives.filter (keepL true a.obj a.key a.knew)}
 else if a.kind=6 then {s with cells:=insCell ⟨a.obj,a.dot,a.time,a.ref,a.val,false⟩ s.cells}
 else {s with cells:=goneAt s.cells a.ref}
def doOne (s:State) (a:Act):State:=doKind {s with know:=s.know.set a.dot.rep.toNat a.dot.seq} a
def tooMany (s:State):Bool:=decide (120<s.tallies.length)||(decide (120<s.lives.length)||decide (120<s.cells.length))
def refIn (s:State) (a:Act):Bool:=if a.kind=7∨(a.kind=6∧a.ref≠d0) then(match cellIx s.cells a.ref with
 |some k=>onI s.cells k fun c=>decide (c.obj=a.obj)&&(decide (a.kind=7)||decide (c.time<a.time))
 |none=>false) else true
def doAct (s:State) (a:Act):State×Int:=
 if !(stateOk s&&actOk a) then(s,3) else if knows s.know a.dot then(s,1) else if !knowIn a.knew s.know then(s,2) else if !refIn s a then(s,3) else
 if tooMany (doOne s a) then(s,4) else(doOne s a,0)
end Go.Proofs.Ytbeoiejnogdkpaa.Sy
namespace Go.Proofs.Ytbeoiejnogdkpaa.Sy
open Go Go.RowKit
set_option linter.unusedSimpArgs false
set_option linter.unusedVariables false
def countF (o:ByteArray) (n:Int) (t:Tally):Int:=if t.obj=o then addM n (t.sum.tmod 1000000) else n
def countOf (s:State) (o:ByteArray):Int:=s.tallies.foldl (countF o) 0
def isLive (m:Bool) (o k:ByteArray) (l:Live):Bool:=(l.map==m)&&(decide (l.obj=o)&&decide (l.key=k))
def livesOf (s:State) (m:Bool) (o k:ByteArray):List Live:=s.lives.filter (isLive m o k)
def isLiveO (m:Bool) (o:ByteArray) (l:Live):Bool:=(l.map==m)&&decide (l.obj=o)
def keysOf (s:State) (m:Bool) (o:ByteArray):List ByteArray:=putAll txLt ((s.lives.filter (isLiveO m o)).map (·.key))
def mapOf (s:State) (o k:ByteArray):List Int:=insAll ltI ((livesOf s true o k).map (·.val))
def rowOf (s:State) (o:ByteArray):List Int:=(rowL s o).map (·.val)
def rowWhose (s:State) (o:ByteArray):List Int:=(rowL s o).map (·.dot.rep)
def livesWhose (s:State) (m:Bool) (o k:ByteArray):List Int:=putAll ltI ((livesOf s m o k).map (·.dot.rep))
theorem filter_snoc' {α:Type} {l:List α} {p:α→Bool} {i:Nat} (hi:i<l.length):(l.take (i+1)).filter p=(l.take i).filter p++(if p l[i] then[l[i]] else[]):=by
 rw[take_snoc hi,List.filter_append]
 congr 1
 cases h:p l[i]<;>simp[h]
theorem filter_take_len {α:Type} (l:List α) (p:α→Bool) (i:Nat):((l.take i).filter p).length≤l.length:=by
 have:=List.length_filter_le p (l.take i)
 rw[List.length_take] at this
 omega
end Go.Proofs.Ytbeoiejnogdkpaa.Sy
namespace Go.Proofs.Ytbeoiejnogdkpaa.Sy
open Go Go.RowKit
set_option linter.unusedSimpArgs false
set_option linter.unusedVariables false
section
variable {α:Type} {lt:α→α→Bool} {x:α} {acc nxt:List α} {j:Nat} {put:Bool}
def insG (lt:α→α→Bool) (x:α) (acc nxt:List α) (j:Nat) (put:Bool):Prop:=if put then nxt++acc.drop j=insB lt x acc else nxt++insB lt x (acc.drop j)=insB lt x acc
theorem insG_nil:insG lt x acc [] 0 false:=by simp[insG]
theorem insG_len (h:insG lt x acc nxt j put):nxt.length≤acc.length+1:=by
 unfold insG at h
 have:(insB lt x acc).length=acc.length+1:=insB_length lt x acc
 split at h
 ·rw[← this,←h];simp
 ·rw[← this,←h];simp
theorem insG_put (h:insG lt x acc nxt j false) (hj:j<acc.length) (hl:lt x acc[j]=true):insG lt x acc (nxt++[x]++[acc[j]]) (j+1) true:=by
 simp only[insG,Bool.false_eq_true,if_false,if_true] at h ⊢
 rw[List.drop_eq_getElem_cons hj,insB,if_pos hl] at h
 rw[← h];simp
theorem insG_step (h:insG lt x acc nxt j put) (hj:j<acc.length) (hl:put=true∨lt x acc[j]=false):insG lt x acc (nxt++[acc[j]]) (j+1) put:=by
 cases put with
 |true=>
  simp only[insG,if_true] at h ⊢
  rw[List.drop_eq_getElem_cons hj] at h
  rw[← h];simp
 |false=>
  have hl:lt x acc[j]=false:=hl.resolve_left (by intro h;cases h)
  simp only[insG,Bool.false_eq_true,if_false] at h ⊢
  rw[List.drop_eq_getElem_cons hj,insB,if_neg (by rw[hl];simp)] at h
  rw[← h];simp
theorem insG_end (h:insG lt x acc nxt acc.length put):(if put then nxt else nxt++[x])=insB lt x acc:=by
 unfold insG at h
 split
 ·rename_i hp;rw[if_pos hp] at h;simpa using h
 ·rename_i hp;rw[if_neg hp] at h;simpa [insB] using h
theorem insAll_take {l:List α} {p:α→Bool} {i:Nat} (hi:i<l.length):insAll lt ((l.take (i+1)).filter p)=if p l[i] then insB lt l[i] (insAll lt ((l.take i).filter p)) else insAll lt ((l.take i).filter p):=by
 rw[filter_snoc' hi]
 split
 ·rw[insAll_snoc]
 ·simp
theorem insAll_bd {l:List α} {p:α→Bool} {i:Nat}:(insAll lt ((l.take i).filter p)).length≤l.length:=by
 rw[insAll_length];exact filter_take_len l p i
end
def isZ (d:Dot):Bool:=decide (d=⟨0,0⟩)
def selfD (d:Dot):List Dot:=if isZ d then[] else[d]
def stackD (sc:List Cell) (S:List Dot):List Dot:=S.reverse.flatMap fun d=>selfD d++(rowA sc d).map (·.dot)
def stackM (sc:List Cell) (S:List Dot):Nat:=(S.map fun d=>1+(rowA sc d).length).sum
end Go.Proofs.Ytbeoiejnogdkpaa.Sy
namespace Go.Proofs.Ytbeoiejnogdkpaa.Sy
open Go Go.RowKit
set_option linter.unusedSimpArgs false
set_option linter.unusedVariables false
structure El (α:Type) [Inhabited α] where
 p:Pl α
 g:Bool
 val:α→GV
 hv:∀ x,mkv g (p.enc x)=some (val x)
 hc:∀ x,(val x).cells=p.enc x
 hz:0<p.z
section
variable {α:Type} [Inhabited α] {e:El α} {σ τ:St} {rs:List Thg} {v:GV} {d:Array α}
open Go.Sort (swp)
theorem getBang {j:Nat} (hj:j<d.size):d.toList[j]? =some d[j]! :=by
 rw[getElem!_pos d j hj];simp
theorem El.at (e:El α) (H:Hp σ τ rs) (k:Nat) (hk:rs[k]? =some (ow e.p.kd v d.toList)) {j:Nat} (hj:j<d.size):iadG e.p.z v (some j)=some (atz e.p.z v j)∧ldG e.g e.p.z τ (atz e.p.z v j)=some (e.val d[j]!):=by
 have h:=H.sl k hk
 have hl:j<d.toList.length:=by simpa using hj
 refine⟨RdN.iad h hl,?_⟩
 obtain⟨cs,hR,hs⟩:=RdN.cells h hl
 have e1:cs=e.p.enc d.toList[j]:=hR
 have e2:d.toList[j]=d[j]! :=by
  have:=getBang hj
  rw[List.getElem?_eq_getElem hl] at this
  injection this
 have hlen:=e.p.len d.toList[j]
 have:=hs 0 e.p.z cs (by unfold seg;rw[if_pos (by rw[e1,hlen];omega),List.drop_zero,List.take_of_length_le (by rw[e1,hlen];exact Nat.le_refl _)]) e.g
 rw[fld_zero] at this
 have this:ldG e.g e.p.z τ (atz e.p.z v j)=mkv e.g cs:=this
 rw[this,e1,e.hv,e2]
def Holds (e:El α) (σ0 τ:St) (rs:List Thg) (k:Nat) (v:GV) (d:Array α):Prop:=k<rs.length∧Hp σ0 τ (rs.set k (ow e.p.kd v d.toList))
theorem Holds.of {σ0:St} (H:Hp σ0 τ rs) {k:Nat} (hk:rs[k]? =some (ow e.p.kd v d.toList)):Holds e σ0 τ rs k v d:=by
 obtain⟨h1,h2⟩:=List.getElem?_eq_some_iff.1 hk
 refine⟨h1,?_⟩
 rw[← h2,List.set_getElem_self];exact H
theorem Holds.at {σ0:St} {k:Nat} (h:Holds e σ0 τ rs k v d) {j:Nat} (hj:j<d.size):iadG e.p.z v (some j)=some (atz e.p.z v j)∧ldG e.g e.p.z τ (atz e.p.z v j)=some (e.val d[j]!):=e.at h.2 k (List.getElem?_set_self h.1) hj
theorem Holds.iad {σ0:St} {k:Nat} (h:Holds e σ0 τ rs k v d) {j:Nat} (hj:j<d.size):iadG e.p.z v (some j)=some (atz e.p.z v j):=(h.at hj).1
theorem Holds.ld {σ0:St} {k:Nat} (h:Holds e σ0 τ rs k v d) {j:Nat} (hj:j<d.size):ldG e.g e.p.z τ (atz e.p.z v j)=some (e.val d[j]!):=(h.at hj).2
end
theorem vc_forX {P:Program} {a:Cd} {Q:Ex→Env→St→Prop} {env:Env} {σ:St} (n ri j0:Nat) (I:Nat→Env→St→Prop) (X:Env→St→Prop) (hr:env ri=gi 0) (h0:I 0 env σ)
  (hs:∀(J:Nat→Env→St→Prop) (Y:Env→St→Prop),(∀ i env σ,I i env σ→J i env σ)→(∀ env σ,X env σ→Y env σ)→∀ i env σ,i<n→env ri=gi i→decide ((i:Int)<n)=true→I i env σ→vc P a (fun e env' σ'=>match e with| .nxt=>env' ri=gi ((i:Int)+1)∧J (i+1) env' σ'| .ext j=>j=j0∧Y env' σ'| .ret=>False) env σ)
  (he:∀(Y:Env→St→Prop),(∀ env σ,X env σ→Y env σ)→∀ env σ,env ri=gi n→decide ((n:Int)<n)=false→I n env σ→vc P a (fun e env' σ'=>match e with| .nxt=>False| .ext j=>j=j0∧Y env' σ'| .ret=>False) env σ)
  (hx:∀ env σ,X env σ→Q (.ext j0) env σ):vc P (.lop a) Q env σ:=by
 refine vc_for n ri I hr h0 (fun i env σ h1 h2 h3 h4=>vc_mono (hs I X (fun _ _ _ h=>h) (fun _ _ h=>h) i env σ h1 h2 h3 h4) fun e env' σ' hq=> ?_) (fun env σ h1 h2 h3=>vc_mono (he X (fun _ _ h=>h) env σ h1 h2 h3) fun e env' σ' hq=> ?_)
 ·cases e with
  |nxt=>exact hq
  |ret=>exact hq.elim
  |ext j=>obtain⟨rfl,hq⟩:=hq;exact hx _ _ hq
 ·cases e with
  |nxt=>exact hq
  |ret=>exact hq.elim
  |ext j=>obtain⟨rfl,hq⟩:=hq;exact hx _ _ hq
theorem vc_seqX {P:Program} {a b:Cd} {Q:Ex→Env→St→Prop} {env:Env} {σ:St} (X:Env→St→Prop)
  (ha:∀ Y:Env→St→Prop,(∀ env σ,X env σ→Y env σ)→vc P a (fun e env' σ'=>match e with| .nxt=>Y env' σ'| .ext j=>Q (.ext j) env' σ'| .ret=>Q .ret env' σ') env σ)
  (hb:∀ env σ,X env σ→vc P b Q env σ):vc P (.seq a b) Q env σ:=by
 rw[vc_seq]
 refine vc_mono (ha X fun _ _ h=>h) fun e env' σ' he=> ?_
 cases e with
 |nxt=>exact hb _ _ he
 |ret=>exact he
 |ext j=>exact he
open Go.Sort (bitsLen bitsLen_le_iff)
abbrev len8:ByteArray:=⟨#[0,1,2,2,3,3,3,3,4,4,4,4,4,4,4,4,5,5,5,5,5,5,5,5,5,5,5,5,5,5,5,5,6,6,6,6,6,6,6,6,6,6,6,6,6,6,6,6,6,6,6,6,6,6,6,6,6,6,6,6,6,6,6,6,7,7,7,7,7,7,7,7,7,7,7,7,7,7,7,7,7,7,7,7,7,7,7,7,7,7,7,7,7,7,7,7,7,7,7,7,7,7,7,7,7,7,7,7,7,7,7,7,7,7,7,7,7,7,7,7,7,7,7,7,7,7,7,7,8,8,8,8,8,8,8,8,8,8,8,8,8,8,8,8,8,8,8,8,8,8,8,8,8,8,8,8,8,8,8,8,8,8,8,8,8,8,8,8,8,8,8,8,8,8,8,8,8,8,8,8,8,8,8,8,8,8,8,8,8,8,8,8,8,8,8,8,8,8,8,8,8,8,8,8,8,8,8,8,8,8,8,8,8,8,8,8,8,8,8,8,8,8,8,8,8,8,8,8,8,8,8,8,8,8,8,8,8,8,8,8,8,8,8,8,8,8,8,8,8,8,8,8,8,8,8,8]⟩
end Go.Proofs.Ytbeoiejnogdkpaa.Sy
