/- Texts of this proof, one behind the other. -/
import Derived.Test.YtbeoiejnogdkpaaGreatBC
import Derived.Test.YtbeoiejnogdkpaaGreatProg
import Derived.KernelRfl
import Derived.Sort.AssemblyPlain
import Derived.Sort.LotD3
import Derived.Sort.LotD1
set_option linter.unusedSimpArgs false
set_option linter.unusedVariables false
set_option maxRecDepth 4000
set_option maxHeartbeats 4000000
open Bool renaming and_eq_true→Zaa,eq_iff_iff→Zaj,and_eq_false_iff→Zan,or_eq_false_iff→Zap,or_eq_true→Zar,false_or→Zav,true_and→Za1,false_eq_true→Za3,true_or→Zbe,not_eq_false'→Zbu,not_eq_true'→Zby,and_false→Zcb,and_self→Zcc
open List renaming mem_cons_self→Zab,prefix_refl→Zac,pairwise_cons→Zad,mem_cons→Zae,take_length→Zaf,getElem_mem→Zag,mem_cons_of_mem→Zah,drop_eq_getElem_cons→Zak,flatMap_cons→Zal,getElem?_eq_some_iff→Zam,mem_filter→Zao,getElem_of_mem→Zas,getElem?_set_self→Zat,length_cons→Zau,findIdx?_eq_some_iff_getElem→Zaw,findIdx?_eq_none_iff→Zay,getElem?_eq_getElem→Zaz,map_cons→Za2,length_filter_le→Za6,map_append→Za8,sum_append→Za9,mem_map_of_mem→Zba,filter_sublist→Zbb,flatMap_append→Zbc,getD_eq_getElem?_getD→Zbd,zipWith→Zbf,pairwise_iff_getElem→Zbg,length_take→Zbh,drop_length→Zbi,mem_flatMap→Zbj,take_of_length_le→Zbk,set_getElem_self→Zbl,foldl_cons→Zbn,nodup_cons→Zbo,reverse_append→Zbq,sum_cons→Zbr,length_append→Zbv,reverse_cons→Zbz,set_set→Zb0,mem_map→Zb1,all_eq_true→Zb2,cons_append→Zb3,flatMap_map→Zb5,flatMap_nil→Zb6,length_nil→Zb8,append_nil→Zb9
open Nat renaming eq_zero_or_pos→Zai,le_refl→Za0,le_trans→Za4,lt_or_ge→Za5,div_lt_iff_lt_mul→Zbp,add_sub_cancel→Zbt,sub_add_cancel→Zbw,two_pow_pos→Zca
open Int renaming ofNat_zero→Zaq,lt_irrefl→Zax,tmod_lt_of_pos→Zbs,lt_trichotomy→Zbx,tmod_nonneg→Zb7
open Option renaming bind_some→Za7,map_some→Zbm,getD_some→Zb4
namespace Go.Proofs.YtbeoiejnogdkpaaGreat.Sy
open Go Go.RowKit
def sumL {α:Type} (f:α->Nat) (l:List α):Nat:=(l.map f).sum
theorem Sn {α:Type} (f:α->Nat) (l:List α) (i:Nat):sumL f (l.take i)<=sumL f l:=by
 have:sumL f l=sumL f (l.take i)+sumL f (l.drop i):=by
  conv=>lhs;rw[<- List.take_append_drop i l]
  unfold sumL;rw[Za8,Za9]
 omega
theorem Gj {α:Type} {f:α->Nat} {l:List α} {x:α} (h:x∈l):f x<=sumL f l:=by
 induction l with
 |nil=>simp at h
 |cons y l ih=>
  simp only[sumL,Za2,Zbr] at*
  rcases Zae.1 h with rfl|h
  ·omega
  ·have:=ih h;omega
theorem Af0 {z i:Nat} {v:GV}:fld 0 (atz z v i)=atz z v i:=by
 cases v<;>rfl
namespace Hp
end Hp
def Bv (x:Tally):Nat:=x.obj.size
def F0 (x:Live):Nat:=x.obj.size+x.key.size
def F1 (x:Cell):Nat:=x.obj.size
def Dm (x:Act):Nat:=x.knew.length+x.obj.size+x.key.size
instance:DecidableEq Act:=fun a b=>if h:a.dot=b.dot/\a.time=b.time/\a.knew=b.knew/\a.kind=b.kind/\a.obj=b.obj/\a.key=b.key/\a.val=b.val/\a.ref=b.ref then isTrue (by cases a;cases b;simp only at h;obtain⟨rfl,rfl,rfl,rfl,rfl,rfl,rfl,rfl⟩:=h;rfl) else isFalse (fun e=>h (by subst e;exact⟨rfl,rfl,rfl,rfl,rfl,rfl,rfl,rfl⟩))
theorem Act.eq_iff {a b:Act}:a=b↔a.dot=b.dot/\a.time=b.time/\a.knew=b.knew/\a.kind=b.kind/\a.obj=b.obj/\a.key=b.key/\a.val=b.val/\a.ref=b.ref:=⟨fun h=>by subst h;exact⟨rfl,rfl,rfl,rfl,rfl,rfl,rfl,rfl⟩,fun h=>by cases a;cases b;simp only at h;obtain⟨rfl,rfl,rfl,rfl,rfl,rfl,rfl,rfl⟩:=h;rfl⟩
def Aa (x:State):Nat:=x.know.length+(x.tallies.length+sumL Bv x.tallies)+(x.lives.length+sumL F0 x.lives)+(x.cells.length+sumL F1 x.cells)
instance:DecidableEq State:=fun a b=>if h:a.know=b.know/\a.tallies=b.tallies/\a.lives=b.lives/\a.cells=b.cells then isTrue (by cases a;cases b;simp only at h;obtain⟨rfl,rfl,rfl,rfl⟩:=h;rfl) else isFalse (fun e=>h (by subst e;exact⟨rfl,rfl,rfl,rfl⟩))
theorem State.eq_iff {a b:State}:a=b↔a.know=b.know/\a.tallies=b.tallies/\a.lives=b.lives/\a.cells=b.cells:=⟨fun h=>by subst h;exact⟨rfl,rfl,rfl,rfl⟩,fun h=>by cases a;cases b;simp only at h;obtain⟨rfl,rfl,rfl,rfl⟩:=h;rfl⟩
def Ay (x:Delta):Nat:=x.base.length+x.know.length+(x.tallies.length+sumL Bv x.tallies)+(x.lives.length+sumL F0 x.lives)+x.dead.length+(x.cells.length+sumL F1 x.cells)
instance:DecidableEq Delta:=fun a b=>if h:a.base=b.base/\a.know=b.know/\a.tallies=b.tallies/\a.lives=b.lives/\a.dead=b.dead/\a.cells=b.cells then isTrue (by cases a;cases b;simp only at h;obtain⟨rfl,rfl,rfl,rfl,rfl,rfl⟩:=h;rfl) else isFalse (fun e=>h (by subst e;exact⟨rfl,rfl,rfl,rfl,rfl,rfl⟩))
theorem Delta.eq_iff {a b:Delta}:a=b↔a.base=b.base/\a.know=b.know/\a.tallies=b.tallies/\a.lives=b.lives/\a.dead=b.dead/\a.cells=b.cells:=⟨fun h=>by subst h;exact⟨rfl,rfl,rfl,rfl,rfl,rfl⟩,fun h=>by cases a;cases b;simp only at h;obtain⟨rfl,rfl,rfl,rfl,rfl,rfl⟩:=h;rfl⟩
def Aw (x:Unit_):Nat:=Dm x.act+Ay x.delta
instance:DecidableEq Unit_:=fun a b=>if h:a.batch=b.batch/\a.act=b.act/\a.delta=b.delta then isTrue (by cases a;cases b;simp only at h;obtain⟨rfl,rfl,rfl⟩:=h;rfl) else isFalse (fun e=>h (by subst e;exact⟨rfl,rfl,rfl⟩))
theorem Unit_.eq_iff {a b:Unit_}:a=b↔a.batch=b.batch/\a.act=b.act/\a.delta=b.delta:=⟨fun h=>by subst h;exact⟨rfl,rfl,rfl⟩,fun h=>by cases a;cases b;simp only at h;obtain⟨rfl,rfl,rfl⟩:=h;rfl⟩
def Ad5 (x:Log):Nat:=Aa x.state+(x.units.length+sumL Aw x.units)+(x.waits.length+sumL Aw x.waits)
instance:DecidableEq Log:=fun a b=>if h:a.rep=b.rep/\a.time=b.time/\a.state=b.state/\a.units=b.units/\a.waits=b.waits then isTrue (by cases a;cases b;simp only at h;obtain⟨rfl,rfl,rfl,rfl,rfl⟩:=h;rfl) else isFalse (fun e=>h (by subst e;exact⟨rfl,rfl,rfl,rfl,rfl⟩))
theorem Log.eq_iff {a b:Log}:a=b↔a.rep=b.rep/\a.time=b.time/\a.state=b.state/\a.units=b.units/\a.waits=b.waits:=⟨fun h=>by subst h;exact⟨rfl,rfl,rfl,rfl,rfl⟩,fun h=>by cases a;cases b;simp only at h;obtain⟨rfl,rfl,rfl,rfl,rfl⟩:=h;rfl⟩
instance:DecidableEq Commit:=fun a b=>if h:a.id=b.id/\a.ups=b.ups/\a.state=b.state then isTrue (by cases a;cases b;simp only at h;obtain⟨rfl,rfl,rfl⟩:=h;rfl) else isFalse (fun e=>h (by subst e;exact⟨rfl,rfl,rfl⟩))
theorem Commit.eq_iff {a b:Commit}:a=b↔a.id=b.id/\a.ups=b.ups/\a.state=b.state:=⟨fun h=>by subst h;exact⟨rfl,rfl,rfl⟩,fun h=>by cases a;cases b;simp only at h;obtain⟨rfl,rfl,rfl⟩:=h;rfl⟩
instance:DecidableEq Graph:=fun a b=>if h:a.commits=b.commits/\a.head=b.head then isTrue (by cases a;cases b;simp only at h;obtain⟨rfl,rfl⟩:=h;rfl) else isFalse (fun e=>h (by subst e;exact⟨rfl,rfl⟩))
theorem Graph.eq_iff {a b:Graph}:a=b↔a.commits=b.commits/\a.head=b.head:=⟨fun h=>by subst h;exact⟨rfl,rfl⟩,fun h=>by cases a;cases b;simp only at h;obtain⟨rfl,rfl⟩:=h;rfl⟩
instance:DecidableEq Replica:=fun a b=>if h:a.way=b.way/\a.log=b.log/\a.graph=b.graph/\a.file=b.file/\a.out=b.out then isTrue (by cases a;cases b;simp only at h;obtain⟨rfl,rfl,rfl,rfl,rfl⟩:=h;rfl) else isFalse (fun e=>h (by subst e;exact⟨rfl,rfl,rfl,rfl,rfl⟩))
theorem Replica.eq_iff {a b:Replica}:a=b↔a.way=b.way/\a.log=b.log/\a.graph=b.graph/\a.file=b.file/\a.out=b.out:=⟨fun h=>by subst h;exact⟨rfl,rfl,rfl,rfl,rfl⟩,fun h=>by cases a;cases b;simp only at h;obtain⟨rfl,rfl,rfl,rfl,rfl⟩:=h;rfl⟩
instance:DecidableEq World_:=fun a b=>if h:a.replicas=b.replicas/\a.net=b.net/\a.codes=b.codes/\a.synced=b.synced then isTrue (by cases a;cases b;simp only at h;obtain⟨rfl,rfl,rfl,rfl⟩:=h;rfl) else isFalse (fun e=>h (by subst e;exact⟨rfl,rfl,rfl,rfl⟩))
theorem World_.eq_iff {a b:World_}:a=b↔a.replicas=b.replicas/\a.net=b.net/\a.codes=b.codes/\a.synced=b.synced:=⟨fun h=>by subst h;exact⟨rfl,rfl,rfl,rfl⟩,fun h=>by cases a;cases b;simp only at h;obtain⟨rfl,rfl,rfl,rfl⟩:=h;rfl⟩
instance:DecidableEq Script:=fun a b=>if h:a.ways=b.ways/\a.events=b.events/\a.calm=b.calm then isTrue (by cases a;cases b;simp only at h;obtain⟨rfl,rfl,rfl⟩:=h;rfl) else isFalse (fun e=>h (by subst e;exact⟨rfl,rfl,rfl⟩))
theorem Script.eq_iff {a b:Script}:a=b↔a.ways=b.ways/\a.events=b.events/\a.calm=b.calm:=⟨fun h=>by subst h;exact⟨rfl,rfl,rfl⟩,fun h=>by cases a;cases b;simp only at h;obtain⟨rfl,rfl,rfl⟩:=h;rfl⟩
def crs (c v:GV) (n:Nat):Thg:=⟨fun σ fp=>∃ g i h,c= .ptr g 0/\fp=[g]/\i<=n/\bk σ g=some (.row 1 [v,gi (i:Nat),gi h]),fun⟨g,i,h,h1,h2,h3,h4⟩ hf=>⟨g,i,h,h1,h2,h3,by rw[hf g (by rw[h2];exact Zab)];exact h4⟩⟩
theorem Aga {n z g off:Nat} {σ:St} {cs:List GV} {x:GV} (hB:bk σ g=some (.row z cs)) (h1:off+n<=cs.length) (h2:0<n) (h3:x.cells.length=n):stG n σ (.ptr g off) x=some (.tup [],σ.set g (some (.row z (Aq cs off x.cells)))):=by
 simp only[stG,B5.1 hB]
 rw[if_pos ⟨h1,h2,h3⟩]
theorem Ad6 {σ:St} {g z:Nat} {cs cs':List GV} (hB:bk σ g=some (.row z cs)):bk (σ.set g (some (.row z cs'))) g=some (.row z cs'):=B5.2 (by rw[Zat (Ab4 hB)])
theorem Agb {σ:St} {g z:Nat} {cs:List GV} (hB:bk σ g=some (.row z cs)):rdB σ g=some cs:=by
 unfold rdB;rw[B5.1 hB];rfl
theorem A7q {σ:St} {v:GV} {l:List Int} (h:RS pB.kd σ v l) {i:Nat} (hi:i<l.length):iadG 1 v (some i)=some (atz 1 v i)/\ldG false 1 σ (atz 1 v i)=some (.int .u8 l[i]):=⟨RdN.iad h hi,RdN.ld h hi (by decide)⟩
theorem Agc (b:Int) (hb:0<=b):∃ f:Int->Int,∀ a,binG .shr (.int .i64 a) (.int .u64 b)=some (.int .i64 (f a)):=⟨fun a=>a.fdiv (2 ^ min b.toNat IntKind.i64.bits),fun a=>by simp only[binG,Fc];rw[if_neg (by omega)]⟩
theorem xor_ex:∃ f:Int->Int->Int,∀ a b,binG .xor (.int .i64 a) (.int .i64 b)=some (.int .i64 (f a b)):=⟨fun a b=>IntKind.i64.wrap (BitVec.ofInt IntKind.i64.bits a ^^^ BitVec.ofInt IntKind.i64.bits b).toNat,fun a b=>rfl⟩
theorem Agd (m:Nat) (hm:m<2 ^ 62):∃ f:Int->Int,(∀ a,binG .and (.int .i64 a) (.int .i64 (m:Nat))=some (.int .i64 (f a)))/\∀ a,0≤f a/\f a<=m:=by
 refine⟨fun a=>IntKind.i64.wrap (BitVec.ofInt IntKind.i64.bits a &&& BitVec.ofInt IntKind.i64.bits (m:Nat)).toNat,fun a=>rfl,fun a=> ?_⟩
 have h1:(BitVec.ofInt IntKind.i64.bits a &&& BitVec.ofInt IntKind.i64.bits (m:Nat)).toNat<=m:=by
  rw[BitVec.toNat_and]
  refine Za4 Nat.and_le_right ?_
  rw[BitVec.toNat_ofInt]
  show((m:Int) % ((2 ^ 64:Nat):Int)).toNat<=m
  omega
 show 0<=IntKind.i64.wrap _/\IntKind.i64.wrap _<=_
 rw[Ff (by omega) (by omega)]
 omega
@[go_sem] theorem bit_tup2 {l:List GV}:(GV.tup l).bit=none:=(rfl)
theorem Vo {P:Program} {D:Bool} {os:List Op1}:∀ {K:Env->St->Prop} {env:Env} {σ:St},Ah D P os K env σ->Ah D P os (fun env' σ'=>K env' σ'/\σ.length<=σ'.length) env σ:=by
 induction os with
 |nil=>intro K env σ h;exact⟨h,Za0 _⟩
 |cons o r ih=>
  intro K env σ h
  simp only[Ah] at h ⊢
  split at h
  ·rename_i hw
   rw[if_pos hw]
   obtain⟨v,σ',hs,hp,hk⟩:=h
   refine⟨v,σ',hs,hp,Cb (ih hk) fun env' σ1 hq=>⟨hq.1,?_⟩⟩
   have:=Uy hs
   omega
  ·rename_i hw
   rw[if_neg hw]
   exact ih h
theorem vc_len {P:Program} {d:Cd}:∀ {Q:Ex->Env->St->Prop} {env:Env} {σ:St},vc P d Q env σ->vc P d (fun e env' σ'=>Q e env' σ'/\σ.length<=σ'.length) env σ:=by
 induction d with
 |skip=>intro Q env σ h;exact⟨h,Za0 _⟩
 |reg ops=>intro Q env σ h;exact Vo h
 |drw xs ys=>
  intro Q env σ h
  refine Cb (Vo h) fun env1 σ1 h1=>Cb (Vo h1.1) fun env2 σ2 h2=>⟨h2.1,?_⟩
  have:=h1.2
  have:=h2.2
  omega
 |seq a b iha ihb=>
  intro Q env σ h
  refine B4 (d:=a) (iha h) fun e env1 σ1 he=> ?_
  cases e with
  |nxt=>exact B4 (ihb he.1) fun e env2 σ2 h2=>⟨h2.1,Za4 he.2 h2.2⟩
  |ext j=>exact he
  |ret=>exact he
 |cnd c a b iha ihb=>
  intro Q env σ h
  obtain⟨t,ht,h1,h2⟩:=h
  exact⟨t,ht,fun e=>iha (h1 e),fun e=>ihb (h2 e)⟩
 |blk id a ih=>
  intro Q env σ h
  refine B4 (d:=a) (ih h) fun e env1 σ1 he=> ?_
  cases e with
  |nxt=>exact he
  |ext j=>
   obtain⟨h1,h2⟩:=he
   simp only at h1 ⊢
   split at h1
   ·rename_i hj;rw[if_pos hj];exact⟨h1,h2⟩
   ·rename_i hj;rw[if_neg hj];exact⟨h1,h2⟩
  |ret=>exact he
 |lop a ih=>
  intro Q env σ h
  obtain⟨I,μ,hI,hs⟩:=h
  refine⟨fun env1 σ1=>I env1 σ1/\σ.length<=σ1.length,μ,⟨hI,Za0 _⟩,fun env1 σ1 hi=>B4 (ih (hs env1 σ1 hi.1)) fun e env2 σ2 he=> ?_⟩
  cases e with
  |nxt=>exact⟨⟨he.1.1,Za4 hi.2 he.2⟩,he.1.2⟩
  |ext j=>exact⟨he.1,Za4 hi.2 he.2⟩
  |ret=>exact⟨he.1,Za4 hi.2 he.2⟩
 |ext id=>intro Q env σ h;exact⟨h,Za0 _⟩
 |ret=>intro Q env σ h;exact⟨h,Za0 _⟩
theorem Ea {P:Program} {f:Nat} {F:Fn1} {args:List GV} {σ:St} {Post:GV->St->Prop} (hF:A6 P f=some F) (hl:args.length<=F.n)
  (h:vc P F.c (fun e env τ=>Vj e=true/\∃ r,resG env τ F.rs=some r/\Post r τ) (env0 args) σ):∃ r τ,Ret P f args σ r τ/\Post r τ:=
 Bc hF hl (B4 (vc_len h) fun e env τ he=>⟨he.1.1,by obtain⟨⟨_,r,h1,h2⟩,h3⟩:=he;exact⟨r,h1,h3,h2⟩⟩)
theorem Ret.le {P:Program} {f:Nat} {args:List GV} {σ τ:St} {r:GV} (h:Ret P f args σ r τ):σ.length<=τ.length:=h.2.1
theorem Hp.crs {σ τ:St} {rs:List Thg} (H:Hp σ τ rs) {k:Nat} {c v:GV} {n:Nat} (hk:rs[k]? =some (crs c v n)):∃(g i:Nat) (h:Int),c= .ptr g 0/\i<=n/\bk τ g=some (.row 1 [v,gi i,gi h])/\∀(i':Nat) (h':Int),i'≤n->Hp σ (τ.set g (some (.row 1 [v,gi i',gi h']))) rs:=by
 obtain⟨a,⟨g,i,h,rfl,rfl,hi,hB⟩,hnd,hbd,ht⟩:=(H.pick k hk).turn
 refine⟨g,i,h,rfl,hi,hB,fun i' h' hi'=> ?_⟩
 have:=Hp.unpick (i:=k) (ht (τ':=τ.set g (some (.row 1 [v,gi i',gi h']))) (r':=Sy.crs (.ptr g 0) v n) (a':=[g]) ⟨by simp,fun g' h=>.inl h,by simp,fun g' h h'=>Em fun e=>h' (by rw[e];exact Zab)⟩ ⟨g,i',h',rfl,rfl,hi',Ad6 hB⟩) (Zam.1 hk).1
 obtain⟨h1,h2⟩:=Zam.1 hk
 rw[<- h2,Zbl] at this
 exact this
theorem Hp.ptCur {σ τ:St} {rs:List Thg} {g n:Nat} {v:GV} {h:Int} (H:Hp σ τ (Sy.pt 1 g [v,gi 0,gi h]::rs)):Hp σ τ (Sy.crs (.ptr g 0) v n::rs):=
 H.conv fun fp ⟨h1,h2⟩=>⟨g,0,h,rfl,h1,Nat.zero_le _,h2⟩
abbrev Qz:Nat:=161
def Zu:Fn1:=⟨32,[.t 2],(rg [o 2 (.mov (.k .nilP))] (rg [oM 5 0,oN 6 5,o 7 (.bin .add (ki 93901) (.t 6)),oM 3 7] (.seq (rg [oV 4 (ki 0)] (.blk 0 (.lop (.seq (rg [oM 8 4,oM 9 0,oN 10 9,oB 11 .lss 8 10,oM 12 11,jM 13 12 4,jE 14 12 .lss 13 4000,oQ 15 12 14] (cn 15 .skip (.ext 0))) (.seq (.blk 1 (.reg [oM 18 3,oE 19 .mul 18 131,oM 20 0,oM 21 4,oI 22 1 20 21,oL 23 22,o 24 (.cvi .i64 (.t 23)),oB 25 .add 19 24,oZ 26 25 7,oE 27 .and 26 1073741823,oM 3 27])) (.reg [oM 16 4,oZ 17 16 1,oM 4 17])))))) (rg [oM 28 0,oM 29 3,o 30 (.build [.nilS,z0,z0] [(0,1,(.t 28)),(2,1,(.t 29))]),oX 31 30,oM 2 31] .ret))))⟩
theorem A7r:A6 Tryz.prog Qz=some Zu:=by kernel_rfl
abbrev Vp:Nat:=188
def Vq:Fn1:=⟨58,[.t 2],(rg [oV 2 (ki 0)] (rg [oM 4 0,oM 5 0,oK 6 5,oF 7 2 6,oL 8 7,oE 9 .mul 8 6364136223846793005,oZ 10 9 1442695040888963407,oK 11 4,oF 12 2 11,oS 1 12 10] (dw [oM 13 0,oK 14 13,oF 15 2 14,oL 16 15,o 17 (.bin .shr (.t 16) (.k (.int .u64 33))),oM 18 0,oK 19 18,oF 20 2 19,oL 21 20] [o 22 (.bin .shr (.t 21) (.k (.int .u64 45))),oB 23 .xor 17 22,oE 24 .and 23 255,oM 3 24] (.seq (dw [oM 25 0,oK 26 25,oF 27 1 26,oL 28 27,oM 29 0,oK 30 29,oF 31 0 30,oL 32 31] [oN 33 32,oB 34 .lss 28 33] (cn 34 (dw [oM 35 3,oM 36 0,oK 37 36,oF 38 0 37,oL 39 38,oM 40 0,oK 41 40,oF 42 1 41,oL 43 42] [oI 44 1 39 43,oL 45 44,o 46 (.cvi .i64 (.t 45)),oB 47 .add 35 46,oE 48 .and 47 255,oM 3 48] (.reg [oM 49 0,oM 50 0,oK 51 50,oF 52 1 51,oL 53 52,oZ 54 53 1,oK 55 49,oF 56 1 55,oS 1 56 54])) .skip)) (rg [oM 57 3,oM 2 57] .ret)))))⟩
theorem A4k:A6 Tryz.prog Vp=some Vq:=by kernel_rfl
abbrev Id:Nat:=163
def Ie:Fn1:=⟨37,[.t 4],(rg [oV 4 (ki 0)] (.seq (rg [oM 9 1,oE 10 .leq 9 0] (cn 10 (rg [oV 4 (ki 0)] .ret) .skip)) (.seq (rg [oM 11 1,oE 12 .leq 11 256] (cn 12 (rg [oM 13 0,oC 14 188 13,oM 15 1,oB 16 .rem 14 15,oM 4 16] .ret) .skip)) (rg [oM 17 0,oC 18 188 17,oM 5 18] (rg [oM 19 0,oC 20 188 19,oM 6 20] (rg [oM 21 0,oC 22 188 21,oM 7 22] (rg [oM 23 0,oC 24 188 23,oM 8 24] (rg [oM 25 5,oE 26 .mul 25 16777216,oM 27 6,oE 28 .mul 27 65536,oB 29 .add 26 28,oM 30 7,oE 31 .mul 30 256,oB 32 .add 29 31,oM 33 8,oB 34 .add 32 33,oM 35 1,oB 36 .rem 34 35,oM 4 36] .ret))))))))⟩
theorem A2c:A6 Tryz.prog Id=some Ie:=by kernel_rfl
theorem A4l (σ:St) (v:GV) (bs:List Int) (hv:RS pB.kd σ v bs) (hl:bs.length<=1099511627776):∃ c τ,Ret Tryz.prog Qz [v] σ c τ/\Hp σ τ [crs c v bs.length]:=by
 refine A4j (rs:=fun c=>[crs c v bs.length]) A7r (Z0z rfl) ?_
 obtain⟨fa,ha,_⟩:=Agd 1073741823 (by decide)
 have ha:∀ a,binG .and (.int .i64 a) (.int .i64 1073741823)=some (.int .i64 (fa a)):=ha
 simp +contextual (disch:=omega) only[go_sem,Zu,hv.len]
 refine Ce (min bs.length 4000) 4 (fun i env τ=>env 0=v/\(∃ h:Int,env 3=gi h)/\σ=τ) rfl ⟨rfl,⟨_,rfl⟩,rfl⟩ ?_ ?_
 ·rintro i env τ hi e4 c0 ⟨e0,⟨h,e3⟩,rfl⟩
  have hi':i<bs.length:=by omega
  have c1:decide ((i:Int)<bs.length)=true:=by simp;omega
  have c2:decide ((i:Int)<4000)=true:=by simp;omega
  simp +contextual (disch:=omega) only[go_sem,c1,c2,e0,e3,e4,hv.len,A7q hv hi',ha]
  exact⟨_,rfl⟩
 ·rintro env τ e4 c0 ⟨e0,⟨h,e3⟩,rfl⟩
  by_cases hb:bs.length<=4000
  ·have c1:decide (((min bs.length 4000:Nat):Int)<bs.length)=false:=by simp;omega
   simp +contextual (disch:=omega) only[go_sem,c1,e0,e3,e4,hv.len,hv.cell]
   exact⟨_,rfl,((Hp.refl σ).new 1 _).ptCur⟩
  ·have c1:decide (((min bs.length 4000:Nat):Int)<bs.length)=true:=by simp;omega
   have c2:decide (((min bs.length 4000:Nat):Int)<4000)=false:=by simp;omega
   simp +contextual (disch:=omega) only[go_sem,c1,c2,e0,e3,e4,hv.len,hv.cell]
   exact⟨_,rfl,((Hp.refl σ).new 1 _).ptCur⟩
theorem Fg {σ0 σ:St} {rs:List Thg} (H:Hp σ0 σ rs) {k:Nat} {c v:GV} {bs:List Int} (hk:rs[k]? =some (crs c v bs.length)) (hv:RS pB.kd σ0 v bs) (hl:bs.length<=1099511627776):
  ∃ r τ,Ret Tryz.prog Vp [c] σ r τ/\∃ x:Int,r=gi x/\0<=x/\x<=255/\Hp σ0 τ rs:=by
 obtain⟨g,i,h,rfl,hi,hB,hm⟩:=H.crs hk
 refine Ea A4k (Z0z rfl) ?_
 obtain⟨fa,ha,hfa⟩:=Agd 255 (by decide)
 have ha:∀ a,binG .and (.int .i64 a) (.int .i64 255)=some (.int .i64 (fa a)):=ha
 obtain⟨f33,h33⟩:=Agc 33 (by decide)
 obtain⟨f45,h45⟩:=Agc 45 (by decide)
 obtain⟨fx,hx⟩:=xor_ex
 have hs1:∀ y:Int,stG 1 σ (.ptr g 2) (.int .i64 y)=some (.tup [],σ.set g (some (.row 1 [v,gi i,gi y]))):=fun y=>Aga (x:=.int .i64 y) (n:=1) hB (by simp) (by decide) rfl
 have hs2:∀ y x:Int,stG 1 (σ.set g (some (.row 1 [v,gi i,gi y]))) (.ptr g 1) (.int .i64 x)=some (.tup [],σ.set g (some (.row 1 [v,gi x,gi y]))):=fun y x=>by
  rw[Aga (x:=.int .i64 x) (n:=1) (Ad6 hB) (by simp) (by decide) rfl,Zb0];rfl
 have hr:∀ y:Int,rdB (σ.set g (some (.row 1 [v,gi i,gi y]))) g=some [v,gi i,gi y]:=fun y=>Agb (Ad6 hB)
 have hlen:∀ y x:Int,(σ.set g (some (.row 1 [v,gi x,gi y]))).length=σ.length:=fun y x=>by simp
 simp +contextual (disch:=omega) only[go_sem,Vq,A9 (Agb hB),hs1,A9 (hr _),h33,h45,hx,ha,hv.len,hv.notup]
 refine⟨fun hn=> ?_,fun hn=> ?_⟩
 ·have hi':i<bs.length:=by simpa using hn
  have hb1:=(A7q hv hi').1
  have hb2:∀ y:Int,ldG false 1 (σ.set g (some (.row 1 [v,gi i,gi y]))) (atz 1 v i)=some (.int .u8 bs[i]):=fun y=>(A7q (hv.pre (hm i y hi).sub) hi').2
  simp +contextual (disch:=omega) only[go_sem,A9 (hr _),hb1,hb2,ha,hs2]
  exact⟨_,rfl,_,rfl,(hfa _).1,(hfa _).2,hm _ _ hi'⟩
 ·exact⟨_,rfl,_,rfl,(hfa _).1,(hfa _).2,hm _ _ hi⟩
theorem Iy {σ0 σ:St} {rs:List Thg} (H:Hp σ0 σ rs) {k:Nat} {c v:GV} {bs:List Int} (hk:rs[k]? =some (crs c v bs.length)) (hv:RS pB.kd σ0 v bs) (hl:bs.length<=1099511627776) (n:Int) (hn:n<=4611686018427387904):
  ∃ r τ,Ret Tryz.prog Id [c,gi n] σ r τ/\∃ x:Int,r=gi x/\0<=x/\(n<=0->x=0)/\(0<n->x<n)/\Hp σ0 τ rs:=by
 refine Ea A2c (Z0z rfl) ?_
 by_cases h0:n<=0
 ·have c0:decide (n<=0)=true:=decide_eq_true h0
  simp +contextual (disch:=omega) only[go_sem,Ie,c0]
  exact⟨_,rfl,0,rfl,by omega,fun _=>rfl,fun h=>by omega,H⟩
 ·have c0:decide (n<=0)=false:=decide_eq_false h0
  have hn0:¬ (n=0):=by omega
  by_cases h1:n<=256
  ·have c1:decide (n<=256)=true:=decide_eq_true h1
   simp +contextual (disch:=omega) only[go_sem,Ie,c0,c1]
   obtain⟨r,τ,R,x,rfl,hx0,hx1,H1⟩:=Fg H hk hv hl
   refine Ao R ?_
   simp +contextual (disch:=omega) only[go_sem,hn0]
   exact⟨_,rfl,_,rfl,Zb7 _ hx0,fun h=>by omega,fun h=>Zbs _ h,H1⟩
  ·have c1:decide (n<=256)=false:=decide_eq_false h1
   simp +contextual (disch:=omega) only[go_sem,Ie,c0,c1]
   obtain⟨r,τ1,R,x,rfl,hx0,hx1,H1⟩:=Fg H hk hv hl
   refine Ao R ?_
   simp +contextual (disch:=omega) only[go_sem]
   obtain⟨r,τ2,R,y,rfl,hy0,hy1,H2⟩:=Fg H1 hk hv hl
   refine Ao R ?_
   simp +contextual (disch:=omega) only[go_sem]
   obtain⟨r,τ3,R,z,rfl,hz0,hz1,H3⟩:=Fg H2 hk hv hl
   refine Ao R ?_
   simp +contextual (disch:=omega) only[go_sem]
   obtain⟨r,τ4,R,w,rfl,hw0,hw1,H4⟩:=Fg H3 hk hv hl
   refine Ao R ?_
   simp +contextual (disch:=omega) only[go_sem,hn0]
   exact⟨_,rfl,_,rfl,Zb7 _ (by omega),fun h=>by omega,fun h=>Zbs _ h,H4⟩
abbrev A4m:Nat:=122
def A4n:Fn1:=⟨15,[.t 6],(rg [oV 6 kf] (rg [oM 7 0,oM 8 1,oB 9 .geq 7 8,oM 10 9,jM 11 10 0,jM 12 10 2,jB 13 10 .leq 11 12,oQ 14 10 13,oM 6 14] .ret))⟩
theorem Ab5:A6 Tryz.prog A4m=some A4n:=by kernel_rfl
abbrev Zv:Nat:=236
def Zw:Fn1:=⟨15,[.t 6],(rg [oV 6 kf] (rg [oM 7 0,oM 8 1,oB 9 .geq 7 8,oM 10 9,jM 11 10 0,jM 12 10 2,jB 13 10 .leq 11 12,oQ 14 10 13,oM 6 14] .ret))⟩
theorem A7s:A6 Tryz.prog Zv=some Zw:=by kernel_rfl
abbrev Zx:Nat:=348
def Zy:Fn1:=⟨23,[.t 2],(rg [oV 2 kf] (.seq (rg [oV 3 (ki 0)] (.blk 0 (.lop (.seq (rg [oM 4 3,oM 5 0,o 6 (.len true (.t 5)),oB 7 .lss 4 6] (cn 7 .skip (.ext 0))) (.seq (.blk 1 (rg [oM 10 0,oM 11 3,o 12 (.idx (.t 10) (.t 11)),o 13 (.bin .lss (.t 12) (.k (.int .u8 97))),oM 14 13,vM 15 14 0,vM 16 14 3,og 17 14 false (.idx (.t 15) (.t 16)),og 18 14 false (.bin .gtr (.t 17) (.k (.int .u8 122))),oP 19 14 18] (cn 19 (rg [oV 2 kf] .ret) .skip))) (.reg [oM 8 3,oZ 9 8 1,oM 3 9])))))) (rg [oM 20 0,o 21 (.len true (.t 20)),o 22 (.call 122 [(.t 21),(ki 1),(ki 8)]),oM 2 22] .ret)))⟩
theorem A7t:A6 Tryz.prog Zx=some Zy:=by kernel_rfl
abbrev Zz:Nat:=341
def A00:Fn1:=⟨19,[.t 2],(rg [oV 2 kf] (.seq (rg [oV 3 (ki 0)] (.blk 0 (.lop (.seq (rg [oM 4 3,oM 5 0,o 6 (.len true (.t 5)),oB 7 .lss 4 6] (cn 7 .skip (.ext 0))) (.seq (.blk 1 (rg [oM 10 0,oM 11 3,o 12 (.idx (.t 10) (.t 11)),o 13 (.cvi .i64 (.t 12)),o 14 (.call 236 [(.t 13),(ki 97),(ki 122)]),oU 15 14] (cn 15 (rg [oV 2 kf] .ret) .skip))) (.reg [oM 8 3,oZ 9 8 1,oM 3 9])))))) (rg [oM 16 0,o 17 (.len true (.t 16)),o 18 (.call 236 [(.t 17),(ki 1),(ki 8)]),oM 2 18] .ret)))⟩
theorem A7u:A6 Tryz.prog Zz=some A00:=by kernel_rfl
abbrev A01:Nat:=167
def A02:Fn1:=⟨19,[.t 2],(rg [oV 2 kf] (.seq (rg [oV 3 (ki 0)] (.blk 0 (.lop (.seq (rg [oM 4 3,oM 5 0,oN 6 5,oB 7 .lss 4 6] (cn 7 .skip (.ext 0))) (.seq (.blk 1 (rg [oM 10 0,oM 11 3,oI 12 1 10 11,oL 13 12,o 14 (.call 122 [(.t 13),(ki 0),(ki 1000)]),oU 15 14] (cn 15 (rg [oV 2 kf] .ret) .skip))) (.reg [oM 8 3,oZ 9 8 1,oM 3 9])))))) (rg [oM 16 0,oN 17 16,oE 18 .eql 17 3,oM 2 18] .ret)))⟩
theorem A7v:A6 Tryz.prog A01=some A02:=by kernel_rfl
abbrev A03:Nat:=176
def A04:Fn1:=⟨18,[.t 2],(rg [oV 2 kf] (.seq (rg [oM 5 0,oN 6 5,oV 7 (ki 0)] (.blk 0 (.lop (rg [oB 8 .lss 7 6] (.seq (cn 8 .skip (.ext 0)) (.seq (.blk 1 (rg [oI 9 1 5 7,oL 10 9,oM 4 10] (rg [oM 11 4,o 12 (.call 236 [(.t 11),(ki 0),(ki 1000)]),oU 13 12] (cn 13 (rg [oV 2 kf] .ret) .skip)))) (.reg [oZ 14 7 1,oM 7 14]))))))) (rg [oM 15 0,oN 16 15,oE 17 .eql 16 3,oM 2 17] .ret)))⟩
theorem A7w:A6 Tryz.prog A03=some A04:=by kernel_rfl
abbrev A4o:Nat:=168
def A4p:Fn1:=⟨11,[.t 2],(rg [oX 1 0,oV 2 kf] (rg [oF 3 0 1,oL 4 3,o 5 (.call 122 [(.t 4),(ki 0),(ki 2)]),oM 6 5,jF 7 6 1 1,jL 8 6 7,og 9 6 true (.call 122 [(.t 8),(ki 1),(ki 1000)]),oQ 10 6 9,oM 2 10] .ret))⟩
theorem Ab6:A6 Tryz.prog A4o=some A4p:=by kernel_rfl
abbrev A4q:Nat:=272
def A4r:Fn1:=⟨11,[.t 2],(rg [oX 1 0,oV 2 kf] (rg [oF 3 0 1,oL 4 3,o 5 (.call 236 [(.t 4),(ki 0),(ki 2)]),oM 6 5,jF 7 6 1 1,jL 8 6 7,og 9 6 true (.call 236 [(.t 8),(ki 1),(ki 1000)]),oQ 10 6 9,oM 2 10] .ret))⟩
theorem Ab7:A6 Tryz.prog A4q=some A4r:=by kernel_rfl
abbrev A4s:Nat:=45
def A4t:Fn1:=⟨21,[.t 4],(rg [oX 3 1,oV 4 kf] (dw [oM 5 0,oC 6 167 5,oM 7 6,jW 8 7 2 3,jC 9 7 168 8,oQ 10 7 9,oM 11 10,jF 12 11 1 3,jL 13 11 12,jM 14 11 0,jF 15 11 0 3,jL 16 11 15,jI 17 11 1 14 16,jL 18 11 17] [jB 19 11 .leq 13 18,oQ 20 11 19,oM 4 20] .ret))⟩
theorem Ab8:A6 Tryz.prog A4s=some A4t:=by kernel_rfl
abbrev A4u:Nat:=170
def A4v:Fn1:=⟨21,[.t 4],(rg [oX 3 1,oV 4 kf] (dw [oM 5 0,oC 6 176 5,oM 7 6,jW 8 7 2 3,jC 9 7 272 8,oQ 10 7 9,oM 11 10,jF 12 11 1 3,jL 13 11 12,jM 14 11 0,jF 15 11 0 3,jL 16 11 15,jI 17 11 1 14 16,jL 18 11 17] [jB 19 11 .leq 13 18,oQ 20 11 19,oM 4 20] .ret))⟩
theorem Ab9:A6 Tryz.prog A4u=some A4v:=by kernel_rfl
abbrev Sp:Nat:=332
def Sq:Fn1:=⟨5,[.t 2],(rg [oV 2 kf] (rg [oM 3 0,o 4 (.call 122 [(.t 3),(ki 2),(ki 5)]),oM 2 4] .ret))⟩
theorem A2d:A6 Tryz.prog Sp=some Sq:=by kernel_rfl
abbrev P4:Nat:=333
def P5:Fn1:=⟨13,[.t 2],(rg [oV 2 kf] (rg [oM 3 0,oE 4 .eql 3 1,oM 5 4,vM 6 5 0,vE 7 5 .eql 6 4,oP 8 5 7,oM 9 8,vM 10 9 0,vE 11 9 .eql 10 6,oP 12 9 11,oM 2 12] .ret))⟩
theorem Z6:A6 Tryz.prog P4=some P5:=by kernel_rfl
abbrev A05:Nat:=342
def A06:Fn1:=⟨5,[.t 2],(rg [oV 2 kf] (rg [oM 3 0,o 4 (.call 236 [(.t 3),(ki 2),(ki 5)]),oM 2 4] .ret))⟩
theorem A7x:A6 Tryz.prog A05=some A06:=by kernel_rfl
abbrev A07:Nat:=343
def A08:Fn1:=⟨13,[.t 2],(rg [oV 2 kf] (rg [oM 3 0,oE 4 .eql 3 1,oM 5 4,vM 6 5 0,vE 7 5 .eql 6 4,oP 8 5 7,oM 9 8,vM 10 9 0,vE 11 9 .eql 10 6,oP 12 9 11,oM 2 12] .ret))⟩
theorem A7y:A6 Tryz.prog A07=some A08:=by kernel_rfl
abbrev Sr:Nat:=279
def Ss:Fn1:=⟨45,[.t 8],(rg [oV 8 kf] (.seq (rg [oM 9 0,o 10 (.call 122 [(.t 9),(ki 1),(ki 7)]),oU 11 10,oM 12 11,vM 13 12 1,vC 14 12 348 13,vU 15 12 14,oP 16 12 15,oM 17 16,vM 18 17 0,vC 19 17 332 18,vM 20 17 19,jM 21 20 2,jC 22 20 348 21,jU 23 20 22,og 24 17 false (.pick (.t 20) (.t 23) kf),oP 25 17 24,oM 26 25,vM 27 26 0,vC 28 26 332 27,vU 29 26 28,vM 30 26 29,jM 31 30 2,og 32 30 true (.bin .neq (.t 31) (.k s0)),og 33 26 false (.pick (.t 30) (.t 32) kf),oP 34 26 33] (cn 34 (rg [oV 8 kf] .ret) .skip)) (rg [oM 35 3,oE 36 .eql 35 0,oM 37 36,vM 38 37 0,vC 39 37 333 38,vM 40 37 39,jM 41 40 3,og 42 40 true (.call 122 [(.t 41),(ki 0),(ki 999999)]),og 43 37 false (.pick (.t 40) (.t 42) kf),oP 44 37 43,oM 8 44] .ret)))⟩
theorem A2e:A6 Tryz.prog Sr=some Ss:=by kernel_rfl
abbrev Vr:Nat:=273
def Vs:Fn1:=⟨46,[.t 8],(rg [oV 8 kf] (.seq (rg [oM 10 0,o 11 (.call 236 [(.t 10),(ki 1),(ki 7)]),oU 12 11,oM 13 12,vM 14 13 1,vC 15 13 341 14,vU 16 13 15,oP 17 13 16] (cn 17 (rg [oV 8 kf] .ret) .skip)) (rg [oM 18 2,o 19 (.bin .eql (.t 18) (.k s0)),oM 20 19,jM 21 20 0,jC 22 20 342 21,jU 23 20 22,oQ 24 20 23,oM 25 24,vM 26 25 2,vC 27 25 341 26,vM 28 25 27,jM 29 28 0,jC 30 28 342 29,og 31 25 false (.pick (.t 28) (.t 30) kf),oP 32 25 31,oM 9 32] (rg [oM 33 9,oM 34 33,jM 35 34 3,jE 36 34 .eql 35 0,jM 37 34 36,vM 38 37 0,vC 39 37 343 38,vM 40 37 39,jM 41 40 3,og 42 40 true (.call 236 [(.t 41),(ki 0),(ki 999999)]),og 43 37 false (.pick (.t 40) (.t 42) kf),og 44 34 true (.pick (.t 37) kt (.t 43)),oQ 45 34 44,oM 8 45] .ret))))⟩
theorem A4w:A6 Tryz.prog Vr=some Vs:=by kernel_rfl
abbrev A4x:Nat:=185
def A4y:Fn1:=⟨71,[.t 2],(rg [oX 1 0,oV 2 kf] (.seq (dw [oF 3 0 1,oW 4 2 3,oC 5 168 4,oU 6 5,oM 7 6,vF 8 7 3 1,vL 9 7 8,vC 10 7 167 9,vU 11 7 10,oP 12 7 11,oM 13 12,vF 14 13 3 1,vL 15 13 14,vF 16 13 0 1,vF 17 13 0 16,vL 18 13 17,vI 19 13 1 15 18,vL 20 13 19,vF 21 13 0 1,vF 22 13 1 21,vL 23 13 22,vE 24 13 .sub 23 1,vB 25 13 .neq 20 24,oP 26 13 25,oM 27 26,vF 28 27 2 1,vL 29 27 28,og 30 27 false (.call 122 [(.t 29),(ki 1),(ki 10000)]),vU 31 27 30,oP 32 27 31,oM 33 32,vF 34 33 4 1,vL 35 33 34,vF 36 33 5 1,vL 37 33 36,vF 38 33 6 1,vL 39 33 38,vF 40 33 7 1,vL 41 33 40] [og 42 33 false (.call 279 [(.t 35),(.t 37),(.t 39),(.t 41)]),vU 43 33 42,oP 44 33 43] (cn 44 (rg [oV 2 kf] .ret) .skip)) (.seq (rg [oF 45 4 1,oL 46 45] (.blk 0 (rg [oE 48 .eql 46 7,oM 47 48] (cn 47 (rg [oF 49 3 1,oL 50 49,oF 51 8 1,oW 52 2 51,oD 53 45 50 52,oM 2 53] .ret) (rg [oE 55 .eql 46 6,oM 54 55] (cn 54 (rg [oF 56 8 1,oW 57 2 56,o 58 (.build [z0,z0] []),o 59 (.eqs false [.i .i64,.i .i64] (.t 57) (.t 58)),oM 60 59,vF 61 60 3 1,vL 62 60 61,vF 63 60 8 1,vW 64 60 2 63,vD 65 60 45 62 64,oP 66 60 65,oM 2 66] .ret) .skip)))))) (rg [oF 67 8 1,oW 68 2 67,o 69 (.build [z0,z0] []),o 70 (.eqs false [.i .i64,.i .i64] (.t 68) (.t 69)),oM 2 70] .ret))))⟩
theorem Aba:A6 Tryz.prog A4x=some A4y:=by kernel_rfl
abbrev A4z:Nat:=169
def A50:Fn1:=⟨71,[.t 2],(rg [oX 1 0,oV 2 kf] (.seq (dw [oF 5 0 1,oW 6 2 5,oC 7 272 6,oU 8 7,oM 9 8,vF 10 9 3 1,vL 11 9 10,vC 12 9 176 11,vU 13 9 12,oP 14 9 13,oM 15 14,vF 16 15 3 1,vL 17 15 16,vF 18 15 0 1,vF 19 15 0 18,vL 20 15 19,vI 21 15 1 17 20,vL 22 15 21,vF 23 15 0 1,vF 24 15 1 23,vL 25 15 24] [vE 26 15 .sub 25 1,vB 27 15 .neq 22 26,oP 28 15 27,oM 29 28,vF 30 29 2 1,vL 31 29 30,og 32 29 false (.call 236 [(.t 31),(ki 1),(ki 10000)]),vU 33 29 32,oP 34 29 33] (cn 34 (rg [oV 2 kf] .ret) .skip)) (rg [oF 35 8 1,oW 36 2 35,o 37 (.build [z0,z0] []),o 38 (.eqs false [.i .i64,.i .i64] (.t 36) (.t 37)),oM 3 38] (rg [oM 39 3,oM 4 39] (.seq (rg [oF 40 4 1,oL 41 40] (.blk 0 (rg [oE 43 .eql 41 7,oM 42 43] (cn 42 (.reg [oF 44 3 1,oL 45 44,oF 46 8 1,oW 47 2 46,oD 48 170 45 47,oM 4 48]) (rg [oE 50 .eql 41 6,oM 49 50] (cn 49 (.reg [oM 51 3,oM 52 51,vF 53 52 3 1,vL 54 52 53,vF 55 52 8 1,vW 56 52 2 55,vD 57 52 170 54 56,oP 58 52 57,oM 4 58]) .skip)))))) (rg [oM 59 4,oM 60 59,jF 61 60 4 1,jL 62 60 61,jF 63 60 5 1,jL 64 60 63,jF 65 60 6 1,jL 66 60 65,jF 67 60 7 1,jL 68 60 67,og 69 60 true (.call 273 [(.t 62),(.t 64),(.t 66),(.t 68)]),oQ 70 60 69,oM 2 70] .ret))))))⟩
theorem Abb:A6 Tryz.prog A4z=some A50:=by kernel_rfl
theorem Ac {P:Program} {env:Env} {σ:St} {K:Kt} {r:List Op1} {d:Option Nat} {D:Bool} {f:Nat} {args:List GV} {b:Bool} (h:Ret P f args σ (.bool b) σ) (ht:b=true->Ah D P r K (upo env d (.bool true)) σ) (hf:b=false->Ah D P r K (upo env d (.bool false)) σ):A28 D f args P r K env d σ:=by
 cases b with
 |true=>exact Af h (ht rfl)
 |false=>exact Af h (hf rfl)
def inB (n a b:Int):Bool:=decide (a<=n)&&decide (n<=b)
theorem Ck {n a b:Int}:inB n a b=true↔a<=n/\n<=b:=by simp[inB]
theorem B6 (σ:St) (n a b:Int):Ret Tryz.prog A4m [gi n,gi a,gi b] σ (.bool (inB n a b)) σ:=by
 refine Ar Ab5 (Z0z rfl) trivial ?_
 simp +contextual (disch:=omega) only[go_sem,A4n,inB]
theorem Ba (σ:St) (n a b:Int):Ret Tryz.prog Zv [gi n,gi a,gi b] σ (.bool (inB n a b)) σ:=by
 refine Ar A7s (Z0z rfl) trivial ?_
 simp +contextual (disch:=omega) only[go_sem,Zw,inB]
def bl (s:ByteArray):List UInt8:=s.data.toList
theorem Ln (s:ByteArray):(bl s).length=s.size:=by
 unfold bl;rw[Array.length_toList];rfl
theorem Ad7 {s:ByteArray} {i:Nat} (hi:i<(bl s).length):idxG (.str s) (some i)=some (.int .u8 (((bl s)[i].toNat:Nat):Int)):=by
 have h2:i<s.size:=by rw[<- Ln];exact hi
 have e:s[i]? =some (bl s)[i]:=by
  rw[getElem?_pos s i h2];rfl
 simp only[idxG,e,Zbm];rfl
theorem u8_lt (b:UInt8):b.toNat<256:=b.toNat_lt
def lowB (b:UInt8):Bool:=inB (b.toNat:Int) 97 122
def Ct (s:ByteArray):Bool:=(bl s).all lowB&&inB s.size 1 8
theorem F2 (σ:St) (s:ByteArray) (hs:s.size<=1099511627776):Ret Tryz.prog Zx [.str s] σ (.bool (Ct s)) σ:=by
 refine Ar A7t (Z0z rfl) trivial ?_
 simp +contextual (disch:=omega) only[go_sem,Zy]
 refine Ce (bl s).length 3 (fun i env τ=>env 0= .str s/\((bl s).take i).all lowB=true/\σ <+: τ) rfl ⟨rfl,rfl,Zac _⟩ ?_ ?_
 ·rintro i env τ hi e3 c0 ⟨e0,ha,hp⟩
  have hl:=Ln s
  rw[hl] at c0
  have hf:=fun h=>Dw (p:=lowB) hi h
  have ht:=Dj hi ha
  simp +contextual (disch:=omega) only[go_sem,c0,e0,e3,Ad7 hi,hp]
  simp only[lowB,inB,Ct] at*
  generalize(((bl s)[i].toNat:Nat):Int)=b at*
  grind
 ·rintro env τ e3 c0 ⟨e0,ha,hp⟩
  rw[Zaf] at ha
  rw[Ln] at c0 e3
  simp +contextual (disch:=omega) only[go_sem,c0,e0,e3]
  refine Af (B6 τ _ _ _) ?_
  simp +contextual (disch:=omega) only[go_sem,Ct,ha,hp]
theorem Dx (σ:St) (s:ByteArray) (hs:s.size<=1099511627776):Ret Tryz.prog Zz [.str s] σ (.bool (Ct s)) σ:=by
 refine Ar A7u (Z0z rfl) trivial ?_
 simp +contextual (disch:=omega) only[go_sem,A00]
 refine Ce (bl s).length 3 (fun i env τ=>env 0= .str s/\((bl s).take i).all lowB=true/\σ <+: τ) rfl ⟨rfl,rfl,Zac _⟩ ?_ ?_
 ·rintro i env τ hi e3 c0 ⟨e0,ha,hp⟩
  have hl:=Ln s
  rw[hl] at c0
  have hf:=fun h=>Dw (p:=lowB) hi h
  have ht:=Dj hi ha
  have h8:=u8_lt (bl s)[i]
  simp +contextual (disch:=omega) only[go_sem,c0,e0,e3,Ad7 hi,Ahk]
  refine Ac (Ba τ _ _ _) (fun h=> ?_) (fun h=> ?_)
  ·simp +contextual (disch:=omega) only[go_sem,e0,e3,hp]
   exact ht h
  ·simp +contextual (disch:=omega) only[go_sem,e0,e3,hp]
   simp[Ct,hf h]
 ·rintro env τ e3 c0 ⟨e0,ha,hp⟩
  rw[Zaf] at ha
  rw[Ln] at c0 e3
  simp +contextual (disch:=omega) only[go_sem,c0,e0,e3]
  refine Af (Ba τ _ _ _) ?_
  simp +contextual (disch:=omega) only[go_sem,Ct,ha,hp]
def seqB (n:Int):Bool:=inB n 0 1000
def okK (l:List Int):Bool:=l.all seqB&&decide (l.length=3)
theorem Cw {l:List Int} (h:okK l=true):l.length=3:=by
 simp only[okK,Zaa,decide_eq_true_eq] at h
 exact h.2
theorem Dy (σ:St) (v:GV) (l:List Int) (h:RS pI.kd σ v l) (hl:l.length<=1099511627776):Ret Tryz.prog A01 [v] σ (.bool (okK l)) σ:=by
 refine Ar A7v (Z0z rfl) trivial ?_
 simp +contextual (disch:=omega) only[go_sem,A02]
 refine Ce l.length 3 (fun i env τ=>env 0=v/\(l.take i).all seqB=true/\σ <+: τ) rfl ⟨rfl,rfl,Zac _⟩ ?_ ?_
 ·rintro i env τ hi e3 c0 ⟨e0,ha,hp⟩
  have hf:=fun h=>Dw (p:=seqB) hi h
  have ht:=Dj hi ha
  simp +contextual (disch:=omega) only[go_sem,c0,e0,e3,h.len,Cc (h.pre hp) hi]
  refine Ac (B6 τ _ _ _) (fun h=> ?_) (fun h=> ?_)
  ·simp +contextual (disch:=omega) only[go_sem,e0,e3,hp]
   exact ht h
  ·simp +contextual (disch:=omega) only[go_sem,e0,e3,hp]
   simp[okK,hf h]
 ·rintro env τ e3 c0 ⟨e0,ha,hp⟩
  rw[Zaf] at ha
  simp +contextual (disch:=omega) only[go_sem,c0,e0,e3,h.len,hp,okK,ha]
  exact Ad3
theorem Gm (σ:St) (v:GV) (l:List Int) (h:RS pI.kd σ v l) (hl:l.length<=1099511627776):Ret Tryz.prog A03 [v] σ (.bool (okK l)) σ:=by
 refine Ar A7w (Z0z rfl) trivial ?_
 simp +contextual (disch:=omega) only[go_sem,A04,h.len]
 refine Ce l.length 7 (fun i env τ=>env 0=v/\env 5=v/\env 6=gi l.length/\(l.take i).all seqB=true/\σ <+: τ) rfl ⟨rfl,rfl,rfl,rfl,Zac _⟩ ?_ ?_
 ·rintro i env τ hi e7 c0 ⟨e0,e5,e6,ha,hp⟩
  have hf:=fun h=>Dw (p:=seqB) hi h
  have ht:=Dj hi ha
  simp +contextual (disch:=omega) only[go_sem,c0,e0,e5,e6,e7,h.len,Cc (h.pre hp) hi]
  refine Ac (Ba τ _ _ _) (fun h=> ?_) (fun h=> ?_)
  ·simp +contextual (disch:=omega) only[go_sem,e0,e5,e6,e7,hp]
   exact ht h
  ·simp +contextual (disch:=omega) only[go_sem,e0,e5,e6,e7,hp]
   simp[okK,hf h]
 ·rintro env τ e7 c0 ⟨e0,e5,e6,ha,hp⟩
  rw[Zaf] at ha
  simp +contextual (disch:=omega) only[go_sem,c0,e0,e5,e6,e7,h.len,hp,okK,ha]
  exact Ad3
def G7 (d:Dot):Bool:=inB d.rep 0 2&&inB d.seq 1 1000
theorem Lo {d:Dot}:G7 d=true↔(0<=d.rep/\d.rep<=2)/\1<=d.seq/\d.seq<=1000:=by simp[G7,Ck]
theorem Et (σ:St) (d:Dot):Ret Tryz.prog A4o [.agg [gi d.rep,gi d.seq]] σ (.bool (G7 d)) σ:=by
 refine Ar Ab6 (Z0z rfl) trivial ?_
 simp +contextual (disch:=omega) only[go_sem,A4p]
 refine Ac (B6 _ _ _ _) (fun h=> ?_) (fun h=> ?_)
 ·simp +contextual (disch:=omega) only[go_sem]
  refine Af (B6 _ _ _ _) ?_
  simp +contextual (disch:=omega) only[go_sem,G7,h]
 ·simp +contextual (disch:=omega) only[go_sem,G7,h]
theorem Nv (σ:St) (d:Dot):Ret Tryz.prog A4q [.agg [gi d.rep,gi d.seq]] σ (.bool (G7 d)) σ:=by
 refine Ar Ab7 (Z0z rfl) trivial ?_
 simp +contextual (disch:=omega) only[go_sem,A4r]
 refine Ac (Ba _ _ _ _) (fun h=> ?_) (fun h=> ?_)
 ·simp +contextual (disch:=omega) only[go_sem]
  refine Af (Ba _ _ _ _) ?_
  simp +contextual (disch:=omega) only[go_sem,G7,h]
 ·simp +contextual (disch:=omega) only[go_sem,G7,h]
def at0 (l:List Int) (r:Int):Int:=l.getD r.toNat 0
def Ax (k:List Int) (d:Dot):Bool:=okK k&&G7 d&&decide (d.seq<=at0 k d.rep)
theorem Ad8 {k:IntKind} {n:Int} (h:0<=n):B8 (some (.int k n))=some n.toNat:=by simp[B8,h]
theorem N6 {σ:St} {v:GV} {l:List Int} {r:Int} (h:RS pI.kd σ v l) (hk:okK l=true) (h0:0<=r) (h2:r<=2):(B8 (some (gi r))=some r.toNat/\iadG 1 v (some r.toNat)=some (atz 1 v r.toNat))/\ldG false 1 σ (atz 1 v r.toNat)=some (gi (at0 l r)):=by
 have hl:=Cw hk
 have hi:r.toNat<l.length:=by omega
 have e:=Cc h hi
 refine⟨⟨Ad8 h0,e.1⟩,?_⟩
 rw[e.2,at0,Zbd,Zaz hi];rfl
theorem Bt (σ:St) (v:GV) (k:List Int) (d:Dot) (h:RS pI.kd σ v k) (hl:k.length<=1099511627776):Ret Tryz.prog A4s [v,.agg [gi d.rep,gi d.seq]] σ (.bool (Ax k d)) σ:=by
 refine Ar Ab8 (Z0z rfl) trivial ?_
 simp +contextual (disch:=omega) only[go_sem,A4t]
 have h1:=h.pre (pre1 σ (some (Blk.row 1 [gi d.rep,gi d.seq])))
 refine Ac (Dy _ v k h1 hl) (fun hk=> ?_) (fun hk=> ?_)
 ·simp +contextual (disch:=omega) only[go_sem]
  refine Ac (Et _ d) (fun hd=> ?_) (fun hd=> ?_)
  ·have hd':=Lo.1 hd
   have hr:=N6 h1 hk hd'.1.1 hd'.1.2
   simp +contextual (disch:=omega) only[go_sem,hr,Ax,hk,hd]
  ·simp +contextual (disch:=omega) only[go_sem,Ax,hk,hd]
 ·simp +contextual (disch:=omega) only[go_sem,Ax,hk]
theorem G8 (σ:St) (v:GV) (k:List Int) (d:Dot) (h:RS pI.kd σ v k) (hl:k.length<=1099511627776):Ret Tryz.prog A4u [v,.agg [gi d.rep,gi d.seq]] σ (.bool (Ax k d)) σ:=by
 refine Ar Ab9 (Z0z rfl) trivial ?_
 simp +contextual (disch:=omega) only[go_sem,A4v]
 have h1:=h.pre (pre1 σ (some (Blk.row 1 [gi d.rep,gi d.seq])))
 refine Ac (Gm _ v k h1 hl) (fun hk=> ?_) (fun hk=> ?_)
 ·simp +contextual (disch:=omega) only[go_sem]
  refine Ac (Nv _ d) (fun hd=> ?_) (fun hd=> ?_)
  ·have hd':=Lo.1 hd
   have hr:=N6 h1 hk hd'.1.1 hd'.1.2
   simp +contextual (disch:=omega) only[go_sem,hr,Ax,hk,hd]
  ·simp +contextual (disch:=omega) only[go_sem,Ax,hk,hd]
 ·simp +contextual (disch:=omega) only[go_sem,Ax,hk]
abbrev Nw:Nat:=344
def Vt:Fn1:=⟨16,[.t 2],(rg [o 2 (.mov (.k .nilS))] (rg [o 5 (.lit 1 0 [] []),oM 3 5] (.seq (rg [oV 4 (ki 0)] (.blk 0 (.lop (.seq (rg [oM 6 4,oE 7 .lss 6 3] (cn 7 .skip (.ext 0))) (.seq (.blk 1 (.reg [oM 10 3,oM 11 0,o 12 (.call 163 [(.t 11),(ki 5)]),o 13 (.lit 1 1 [z0] [(0,1,(.t 12))]),o 14 (.app 1 8 [z0] (.t 10) (.t 13)),oM 3 14])) (.reg [oM 8 4,oZ 9 8 1,oM 4 9])))))) (rg [oM 15 3,oM 2 15] .ret))))⟩
theorem A51:A6 Tryz.prog Nw=some Vt:=by kernel_rfl
def low5 (l:List Int):Prop:=l.length=3/\∀ x∈l,0≤x/\x<5
theorem A2f {σ0 σ:St} {rs:List Thg} (H:Hp σ0 σ rs) {k:Nat} {c v:GV} {bs:List Int} (hk:rs[k]? =some (crs c v bs.length)) (hv:RS pB.kd σ0 v bs) (hl:bs.length<=1099511627776):
  ∃ r τ,Ret Tryz.prog Nw [c] σ r τ/\∃ l,low5 l/\Hp σ0 τ (ow pI.kd r l::rs):=by
 refine Ea A51 (Z0z rfl) ?_
 simp +contextual (disch:=omega) only[go_sem,Vt]
 refine Ce 3 4 (fun i env τ=>env 0=c/\∃ l,l.length=i/\(∀ x∈l,0≤x/\x<5)/\Hp σ0 τ (ow pI.kd (env 3) l::rs)) rfl ⟨rfl,[],rfl,by simp,H.nil_int⟩ ?_ ?_
 ·rintro i env τ hi e4 c0 ⟨e0,l,hl1,hx,H⟩
  have c0:decide ((i:Int)<3)=true:=c0
  simp +contextual (disch:=omega) only[go_sem,c0,e0,e4]
  obtain⟨r,τ1,R,x,rfl,hx0,_,hx1,H1⟩:=Iy H (k:=k+1) (by simpa using hk) hv hl 5 (by decide)
  refine Ao R ?_
  obtain⟨v',τ2,e,H2⟩:=H1.app_int 0 rfl x (by omega)
  simp +contextual (disch:=omega) only[go_sem,e0,e4,e]
  refine⟨l++[x],by simp[hl1],fun y hy=> ?_,H2⟩
  ·rcases List.mem_append.1 hy with h|h
   ·exact hx y h
   ·simp only[List.mem_singleton] at h
    subst h;exact⟨hx0,hx1 (by decide)⟩
 ·rintro env τ e4 c0 ⟨e0,l,hl1,hx,H⟩
  have c0:decide ((3:Int)<3)=false:=rfl
  simp +contextual (disch:=omega) only[go_sem,c0,e0,e4]
  exact⟨_,rfl,l,⟨hl1,hx⟩,H⟩
@[go_sem] theorem bit_tup {vs:List GV}:(GV.tup vs).bit=none:=(rfl)
def Vu (k:Int):Bool:=inB k 2 5
def N7 (k:Int):Bool:=k==1||k==4||k==6
def noS:ByteArray:=⟨#[]⟩
theorem Hw (σ:St) (k:Int):Ret Tryz.prog Sp [gi k] σ (.bool (Vu k)) σ:=by
 refine Ar A2d (Z0z rfl) trivial ?_
 simp +contextual (disch:=omega) only[go_sem,Sq]
 refine Af (B6 _ _ _ _) ?_
 simp +contextual (disch:=omega) only[go_sem,Vu]
theorem Su (σ:St) (k:Int):Ret Tryz.prog A05 [gi k] σ (.bool (Vu k)) σ:=by
 refine Ar A7x (Z0z rfl) trivial ?_
 simp +contextual (disch:=omega) only[go_sem,A06]
 refine Af (Ba _ _ _ _) ?_
 simp +contextual (disch:=omega) only[go_sem,Vu]
theorem C8 (σ:St) (k:Int):Ret Tryz.prog P4 [gi k] σ (.bool (N7 k)) σ:=by
 refine Ar Z6 (Z0z rfl) trivial ?_
 simp +contextual (disch:=omega) only[go_sem,P5,N7]
 grind
theorem Sv (σ:St) (k:Int):Ret Tryz.prog A07 [gi k] σ (.bool (N7 k)) σ:=by
 refine Ar A7y (Z0z rfl) trivial ?_
 simp +contextual (disch:=omega) only[go_sem,A08,N7]
 grind
def Lp (kind val:Int):Bool:=val==0||N7 kind&&inB val 0 999999
def Bo (kind:Int) (obj key:ByteArray) (val:Int):Bool:=inB kind 1 7&&(Ct obj&&((if Vu kind then Ct key else decide (key=noS))&&Lp kind val))
theorem Jy (σ:St) (kind:Int) (obj key:ByteArray) (val:Int) (ho:obj.size<=1099511627776) (hk:key.size<=1099511627776):Ret Tryz.prog Sr [gi kind,.str obj,.str key,gi val] σ (.bool (Bo kind obj key val)) σ:=by
 refine Ar A2e (Z0z rfl) trivial ?_
 simp +contextual (disch:=omega) only[go_sem,Ss]
 refine Ac (B6 _ _ _ _) (fun h1=> ?_) (fun h1=> ?_)
 ·simp +contextual (disch:=omega) only[go_sem]
  refine Ac (F2 _ obj ho) (fun h2=> ?_) (fun h2=> ?_)
  ·simp +contextual (disch:=omega) only[go_sem]
   refine Ac (Hw _ _) (fun h3=> ?_) (fun h3=> ?_)
   ·simp +contextual (disch:=omega) only[go_sem]
    refine Ac (F2 _ key hk) (fun h4=> ?_) (fun h4=> ?_)
    ·simp +contextual (disch:=omega) only[go_sem]
     refine Ac (Hw _ _) (fun h3=> ?_) (fun h3'=>by rw[h3] at h3';cases h3')
     simp +contextual (disch:=omega) only[go_sem]
     cases hv:(val==0) with
     |true=>simp +contextual (disch:=omega) only[go_sem,Bo,h1,h2,h3,h4,Lp,hv,Zbe]
     |false=>
      simp +contextual (disch:=omega) only[go_sem,hv]
      refine Ac (C8 _ _) (fun h5=> ?_) (fun h5=> ?_)
      ·simp +contextual (disch:=omega) only[go_sem]
       refine Af (B6 _ _ _ _) ?_
       simp +contextual (disch:=omega) only[go_sem,Bo,h1,h2,h3,h4,h5,Lp,hv,Zav]
      ·simp +contextual (disch:=omega) only[go_sem,Bo,h1,h2,h3,h4,h5,Lp,hv,Zav]
    ·simp +contextual (disch:=omega) only[go_sem,Bo,h1,h2,h3,h4]
   ·simp +contextual (disch:=omega) only[go_sem]
    refine Ac (Hw _ _) (fun h3'=>by rw[h3] at h3';cases h3') (fun h3=> ?_)
    simp +contextual (disch:=omega) only[go_sem]
    cases hq:decide (key=noS) with
    |false=>
     have hq':decide (key={data:= #[]})=false:=hq
     simp +contextual (disch:=omega) only[go_sem,hq',Bo,h1,h2,h3,hq]
    |true=>
     have hq':decide (key={data:= #[]})=true:=hq
     simp +contextual (disch:=omega) only[go_sem,hq']
     cases hv:(val==0) with
     |true=>simp +contextual (disch:=omega) only[go_sem,Bo,h1,h2,h3,hq,Lp,hv,Zbe]
     |false=>
      simp +contextual (disch:=omega) only[go_sem,hv]
      refine Ac (C8 _ _) (fun h5=> ?_) (fun h5=> ?_)
      ·simp +contextual (disch:=omega) only[go_sem]
       refine Af (B6 _ _ _ _) ?_
       simp +contextual (disch:=omega) only[go_sem,Bo,h1,h2,h3,hq,h5,Lp,hv,Zav]
      ·simp +contextual (disch:=omega) only[go_sem,Bo,h1,h2,h3,hq,h5,Lp,hv,Zav]
  ·simp +contextual (disch:=omega) only[go_sem,Bo,h1,h2]
 ·simp +contextual (disch:=omega) only[go_sem,Bo,h1]
theorem He (σ:St) (kind:Int) (obj key:ByteArray) (val:Int) (ho:obj.size<=1099511627776) (hk:key.size<=1099511627776):Ret Tryz.prog Vr [gi kind,.str obj,.str key,gi val] σ (.bool (Bo kind obj key val)) σ:=by
 have ne:Ct noS=false:=by decide
 refine Ar A4w (Z0z rfl) trivial ?_
 simp +contextual (disch:=omega) only[go_sem,Vs]
 refine Ac (Ba _ _ _ _) (fun h1=> ?_) (fun h1=> ?_)
 ·simp +contextual (disch:=omega) only[go_sem]
  refine Ac (Dx _ obj ho) (fun h2=> ?_) (fun h2=> ?_)
  ·simp +contextual (disch:=omega) only[go_sem]
   cases hq:decide (key=noS) with
   |true=>
    have hq':decide (key={data:= #[]})=true:=hq
    have hkn:Ct key=false:=by rw[of_decide_eq_true hq];exact ne
    simp +contextual (disch:=omega) only[go_sem,hq']
    refine Ac (Su _ _) (fun h3=> ?_) (fun h3=> ?_)
    ·simp +contextual (disch:=omega) only[go_sem]
     refine Ac (Dx _ key hk) (fun h4=>by rw[hkn] at h4;cases h4) (fun h4=> ?_)
     simp +contextual (disch:=omega) only[go_sem,Bo,h1,h2,h3,h4]
    ·simp +contextual (disch:=omega) only[go_sem]
     cases hv:(val==0) with
     |true=>simp +contextual (disch:=omega) only[go_sem,Bo,h1,h2,h3,hq,Lp,hv,Zbe]
     |false=>
      simp +contextual (disch:=omega) only[go_sem,hv]
      refine Ac (Sv _ _) (fun h5=> ?_) (fun h5=> ?_)
      ·simp +contextual (disch:=omega) only[go_sem]
       refine Af (Ba _ _ _ _) ?_
       simp +contextual (disch:=omega) only[go_sem,Bo,h1,h2,h3,hq,h5,Lp,hv,Zav]
      ·simp +contextual (disch:=omega) only[go_sem,Bo,h1,h2,h3,hq,h5,Lp,hv,Zav]
   |false=>
    have hq':decide (key={data:= #[]})=false:=hq
    simp +contextual (disch:=omega) only[go_sem,hq']
    refine Ac (Dx _ key hk) (fun h4=> ?_) (fun h4=> ?_)
    ·simp +contextual (disch:=omega) only[go_sem]
     refine Ac (Su _ _) (fun h3=> ?_) (fun h3=> ?_)
     ·simp +contextual (disch:=omega) only[go_sem]
      cases hv:(val==0) with
      |true=>simp +contextual (disch:=omega) only[go_sem,Bo,h1,h2,h3,h4,Lp,hv,Zbe]
      |false=>
       simp +contextual (disch:=omega) only[go_sem,hv]
       refine Ac (Sv _ _) (fun h5=> ?_) (fun h5=> ?_)
       ·simp +contextual (disch:=omega) only[go_sem]
        refine Af (Ba _ _ _ _) ?_
        simp +contextual (disch:=omega) only[go_sem,Bo,h1,h2,h3,h4,h5,Lp,hv,Zav]
       ·simp +contextual (disch:=omega) only[go_sem,Bo,h1,h2,h3,h4,h5,Lp,hv,Zav]
     ·simp +contextual (disch:=omega) only[go_sem,Bo,h1,h2,h3,hq]
    ·simp +contextual (disch:=omega) only[go_sem]
     cases h3:Vu kind<;>simp +contextual (disch:=omega) only[go_sem,Bo,h1,h2,h3,h4,hq]
  ·simp +contextual (disch:=omega) only[go_sem,Bo,h1,h2]
 ·simp +contextual (disch:=omega) only[go_sem,Bo,h1]
def d0:Dot:=⟨0,0⟩
def R0 (a:Act):Bool:=if a.kind==7 then Ax a.knew a.ref else if a.kind==6 then decide (a.ref=d0)||Ax a.knew a.ref else decide (a.ref=d0)
def Dk (a:Act):Bool:=G7 a.dot&&(okK a.knew&&(decide (at0 a.knew a.dot.rep=a.dot.seq - 1)&&inB a.time 1 10000))
def Eb (a:Act):Bool:=Dk a&&(Bo a.kind a.obj a.key a.val&&R0 a)
theorem Nx (σ:St) (cs:List GV) (a:Act) (hR:kAct.R σ a cs) (hl:Dm a<=1099511627776):Ret Tryz.prog A4x [.agg cs] σ (.bool (Eb a)) σ:=by
 obtain⟨v,rfl,h⟩:=hR
 unfold Dm at hl
 have h1:=h.pre (pre1 σ (some (Blk.row 1 [.int .i64 a.dot.rep,.int .i64 a.dot.seq,.int .i64 a.time,v,.int .i64 a.kind,.str a.obj,.str a.key,.int .i64 a.val,.int .i64 a.ref.rep,.int .i64 a.ref.seq])))
 refine Ar Aba (Z0z rfl) trivial ?_
 simp +contextual (disch:=omega) only[go_sem,A4y]
 refine Ac (Et _ a.dot) (fun hd=> ?_) (fun hd=> ?_)
 ·simp +contextual (disch:=omega) only[go_sem]
  refine Ac (Dy _ v a.knew h1 (by omega)) (fun hk=> ?_) (fun hk=> ?_)
  ·have hd':=Lo.1 hd
   have hr:=N6 h1 hk hd'.1.1 hd'.1.2
   cases he:(at0 a.knew a.dot.rep==a.dot.seq - 1) with
   |false=>
    have he':decide (at0 a.knew a.dot.rep=a.dot.seq - 1)=false:=he
    simp +contextual (disch:=omega) only[go_sem,hr,bne,he,Eb,Dk,hd,hk,he']
   |true=>
    have he':decide (at0 a.knew a.dot.rep=a.dot.seq - 1)=true:=he
    simp +contextual (disch:=omega) only[go_sem,hr,bne,he]
    refine Ac (B6 _ _ _ _) (fun ht=> ?_) (fun ht=> ?_)
    ·have hh:Dk a=true:=by simp only[Dk,hd,hk,he',ht,Zcc]
     simp +contextual (disch:=omega) only[go_sem]
     refine Ac (Jy _ _ _ _ _ (by omega) (by omega)) (fun hp=> ?_) (fun hp=> ?_)
     ·simp +contextual (disch:=omega) only[go_sem]
      cases h7:(a.kind==7) with
      |true=>
       simp +contextual (disch:=omega) only[go_sem,h7]
       refine Af (Bt _ v a.knew a.ref h1 (by omega)) ?_
       simp +contextual (disch:=omega) only[go_sem,Eb,hh,hp,R0,h7]
      |false=>
       cases h6:(a.kind==6) with
       |false=>
        simp +contextual (disch:=omega) only[go_sem,h7,h6,Eb,hh,hp,R0,d0]
        rfl
       |true=>
        simp +contextual (disch:=omega) only[go_sem,h7,h6]
        cases hz:decide (a.ref=d0) with
        |true=>
         have hz':decide (a.ref={rep:=0,seq:=0})=true:=hz
         simp +contextual (disch:=omega) only[go_sem,hz',Eb,hh,hp,R0,h7,h6,hz,Zbe]
        |false=>
         have hz':decide (a.ref={rep:=0,seq:=0})=false:=hz
         simp +contextual (disch:=omega) only[go_sem,hz']
         refine Af (Bt _ v a.knew a.ref h1 (by omega)) ?_
         simp +contextual (disch:=omega) only[go_sem,Eb,hh,hp,R0,h7,h6,hz,Zav]
     ·simp +contextual (disch:=omega) only[go_sem,Eb,hh,hp]
    ·simp +contextual (disch:=omega) only[go_sem,Eb,Dk,hd,hk,he',ht]
  ·simp +contextual (disch:=omega) only[go_sem,Eb,Dk,hd,hk]
 ·simp +contextual (disch:=omega) only[go_sem,Eb,Dk,hd]
theorem A7z (σ:St) (cs:List GV) (a:Act) (hR:kAct.R σ a cs) (hl:Dm a<=1099511627776):Ret Tryz.prog A4z [.agg cs] σ (.bool (Eb a)) σ:=by
 obtain⟨v,rfl,h⟩:=hR
 unfold Dm at hl
 have h1:=h.pre (pre1 σ (some (Blk.row 1 [.int .i64 a.dot.rep,.int .i64 a.dot.seq,.int .i64 a.time,v,.int .i64 a.kind,.str a.obj,.str a.key,.int .i64 a.val,.int .i64 a.ref.rep,.int .i64 a.ref.seq])))
 refine Ar Abb (Z0z rfl) trivial ?_
 simp +contextual (disch:=omega) only[go_sem,A50]
 refine Ac (Nv _ a.dot) (fun hd=> ?_) (fun hd=> ?_)
 ·simp +contextual (disch:=omega) only[go_sem]
  refine Ac (Gm _ v a.knew h1 (by omega)) (fun hk=> ?_) (fun hk=> ?_)
  ·have hd':=Lo.1 hd
   have hr:=N6 h1 hk hd'.1.1 hd'.1.2
   cases he:(at0 a.knew a.dot.rep==a.dot.seq - 1) with
   |false=>
    have he':decide (at0 a.knew a.dot.rep=a.dot.seq - 1)=false:=he
    simp +contextual (disch:=omega) only[go_sem,hr,bne,he,Eb,Dk,hd,hk,he']
   |true=>
    have he':decide (at0 a.knew a.dot.rep=a.dot.seq - 1)=true:=he
    simp +contextual (disch:=omega) only[go_sem,hr,bne,he]
    refine Ac (Ba _ _ _ _) (fun ht=> ?_) (fun ht=> ?_)
    ·have hh:Dk a=true:=by simp only[Dk,hd,hk,he',ht,Zcc]
     have fin:∀ b:Bool,R0 a=b->Eb a=(Bo a.kind a.obj a.key a.val&&b):=fun b hb=>by rw[Eb,hh,hb];rfl
     cases h7:(a.kind==7) with
     |true=>
      simp +contextual (disch:=omega) only[go_sem,h7]
      refine Ac (G8 _ v a.knew a.ref h1 (by omega)) (fun hq=> ?_) (fun hq=> ?_)
      ·simp +contextual (disch:=omega) only[go_sem]
       refine Af (He _ _ _ _ _ (by omega) (by omega)) ?_
       simp +contextual (disch:=omega) only[go_sem,fin true (by simp[R0,h7,hq])]
      ·simp +contextual (disch:=omega) only[go_sem,fin false (by simp[R0,h7,hq])]
     |false=>
      cases h6:(a.kind==6) with
      |false=>
       cases hz:decide (a.ref=d0) with
       |true=>
        have hz':decide (a.ref={rep:=0,seq:=0})=true:=hz
        simp +contextual (disch:=omega) only[go_sem,h7,h6,hz']
        refine Af (He _ _ _ _ _ (by omega) (by omega)) ?_
        simp +contextual (disch:=omega) only[go_sem,fin true (by simp[R0,h7,h6,hz])]
       |false=>
        have hz':decide (a.ref={rep:=0,seq:=0})=false:=hz
        simp +contextual (disch:=omega) only[go_sem,h7,h6,hz',fin false (by simp[R0,h7,h6,hz])]
      |true=>
       cases hz:decide (a.ref=d0) with
       |true=>
        have hz':decide (a.ref={rep:=0,seq:=0})=true:=hz
        simp +contextual (disch:=omega) only[go_sem,h7,h6,hz']
        refine Af (He _ _ _ _ _ (by omega) (by omega)) ?_
        simp +contextual (disch:=omega) only[go_sem,fin true (by simp[R0,h7,h6,hz])]
       |false=>
        have hz':decide (a.ref={rep:=0,seq:=0})=false:=hz
        simp +contextual (disch:=omega) only[go_sem,h7,h6,hz']
        refine Ac (G8 _ v a.knew a.ref h1 (by omega)) (fun hq=> ?_) (fun hq=> ?_)
        ·simp +contextual (disch:=omega) only[go_sem]
         refine Af (He _ _ _ _ _ (by omega) (by omega)) ?_
         simp +contextual (disch:=omega) only[go_sem,fin true (by simp[R0,h7,h6,hz,hq])]
        ·simp +contextual (disch:=omega) only[go_sem,fin false (by simp[R0,h7,h6,hz,hq])]
    ·simp +contextual (disch:=omega) only[go_sem,Eb,Dk,hd,hk,he',ht]
  ·simp +contextual (disch:=omega) only[go_sem,Eb,Dk,hd,hk]
 ·simp +contextual (disch:=omega) only[go_sem,Eb,Dk,hd]
def eD (p:Dot×Int):GV×GV:=(.agg [gi p.1.rep,gi p.1.seq],gi p.2)
def Lc (ps:List (Dot×Int)) (d:Dot):Option Int:=(ps.find? fun p=>decide (d=p.1)).map (·.2)
def mpt (m:GV) (ps:List (Dot×Int)):Thg:=⟨fun σ fp=>∃ g,m= .mp g/\fp=[g]/\bk σ g=some (.map (ps.map eD)),fun⟨g,h1,h2,h3⟩ hf=>⟨g,h1,h2,by rw[hf g (by rw[h2];exact Zab)];exact h3⟩⟩
theorem Ra (d:Dot):∀(ps:List (Dot×Int)) (i:Nat),∃ q,Ue [.i .i64,.i .i64] [gi d.rep,gi d.seq] (ps.map eD) i=some q/\match Lc ps d with
  |some v=>∃ j,q=some (j,gi v)
  |none=>q=none
 |[],i=>⟨none,rfl,rfl⟩
 |p::ps,i=>by
  obtain⟨q,h1,h2⟩:=Ra d ps (i+1)
  have e:Cz [.i .i64,.i .i64] [gi d.rep,gi d.seq] [gi p.1.rep,gi p.1.seq]=some (decide (d=p.1)):=by
   have:decide (d=p.1)=(decide (d.rep=p.1.rep)&&decide (d.seq=p.1.seq)):=by
    rw[Zaj]
    simp only[decide_eq_true_eq,Zaa]
    constructor
    ·rintro rfl;exact⟨rfl,rfl⟩
    ·rintro⟨h3,h4⟩;cases d;cases hp:p.1;simp_all
   rw[this]
   simp only[Cz,scEq,and_self,if_true,Za7,Zbm,Bool.and_true,Option.some.injEq]
   rw[Zaj];simp
  by_cases hd:d=p.1
  ·refine⟨some (i,gi p.2),?_,?_⟩
   ·simp only[Za2,eD,Ue] at e ⊢
    rw[e];simp[hd]
   ·have:Lc (p::ps) d=some p.2:=by simp[Lc,hd]
    rw[this];exact⟨i,rfl⟩
  ·refine⟨q,?_,?_⟩
   ·simp only[Za2,eD,Ue] at e ⊢
    rw[e];simp only[hd,decide_false,Za7,Za3,if_false]
    exact h1
   ·have:Lc (p::ps) d=Lc ps d:=by simp[Lc,hd]
    rw[this];exact h2
namespace Hp
variable {σ τ:St} {rs:List Thg}
theorem newMap (H:Hp σ τ rs):Hp σ (τ++[some (.map [])]) (mpt (.mp τ.length) []::rs):=
 H.add (rs':=[mpt (.mp τ.length) []]) ⟨List.prefix_append _ _,[τ.length],⟨[τ.length],[],⟨_,rfl,rfl,Cn⟩,rfl,rfl⟩,by simp,by simp⟩
theorem mup (H:Hp σ τ rs) (i:Nat) {m:GV} {ps:List (Dot×Int)} (hi:rs[i]? =some (mpt m ps)) (d:Dot) (n:Int) (h:Lc ps d=none):
  ∃ τ',mupG τ [.i .i64,.i .i64] m (.agg [gi d.rep,gi d.seq]) (gi n)=some (.tup [],τ')/\Hp σ τ' (rs.set i (mpt m (ps++[(d,n)]))):=by
 obtain⟨a,⟨g,rfl,rfl,hB⟩,hnd,hbd,ht⟩:=(H.pick i hi).turn
 have hlt:=(hbd g Zab).2
 obtain⟨q,h1,h2⟩:=Ra d ps 0
 rw[h] at h2
 subst h2
 refine⟨τ.set g (some (.map ((ps++[(d,n)]).map eD))),?_,unpick (ht (a':=[g]) ⟨by simp,fun g' h=>.inl h,by simp,fun g' h h'=>Em fun e=>h' (by rw[e];exact Zab)⟩ ⟨g,rfl,rfl,B5.2 (by rw[Zat hlt])⟩) (Zam.1 hi).1⟩
 simp only[mupG,mpG,B5.1 hB,Za7,keyG,Zau,Zb8,if_true]
 rw[h1]
 simp[Bs,Ago,eD]
theorem mlk (H:Hp σ τ rs) (i:Nat) {m:GV} {ps:List (Dot×Int)} (hi:rs[i]? =some (mpt m ps)) (d:Dot):
  mlkG τ [.i .i64,.i .i64] (gi 0) true m (.agg [gi d.rep,gi d.seq])=some (.tup [gi ((Lc ps d).getD 0),.bool (Lc ps d).isSome]):=by
 obtain⟨a,⟨g,rfl,rfl,hB⟩,_⟩:=H.see hi
 obtain⟨q,h1,h2⟩:=Ra d ps 0
 simp only[mlkG,mpG,B5.1 hB,Za7,keyG,Zau,Zb8,if_true]
 rw[h1]
 cases hl:Lc ps d with
 |none=>rw[hl] at h2;subst h2;rfl
 |some v=>rw[hl] at h2;obtain⟨j,rfl⟩:=h2;rfl
end Hp
theorem If:∀(x y:List UInt8),Op.bytesLess x y=decide (x<y)
 |_,[]=>by simp[Op.bytesLess]
 |[],_::_=>by simp[Op.bytesLess]
 |a::x,b::y=>by
  rw[Op.bytesLess,If x y,Zaj]
  simp only[Zar,decide_eq_true_eq,Zaa,beq_iff_eq,List.cons_lt_cons_iff]
def txLt (a b:ByteArray):Bool:=Op.bytesLess a.toList b.toList
theorem Abc {a b:ByteArray} (h:a.toList=b.toList):a=b:=by
 have:=Bz (a:=a) (b:=b)
 rw[h] at this
 simpa using this.symm
theorem Hf (a:ByteArray):txLt a a=false:=by
 rw[txLt,If];simp
theorem Ms {a b c:ByteArray} (h1:txLt a b=true) (h2:txLt b c=true):txLt a c=true:=by
 rw[txLt,If,decide_eq_true_eq] at*
 exact List.lt_trans h1 h2
theorem Vv {a b:ByteArray} (h1:txLt a b=true):txLt b a=false:=by
 cases h:txLt b a with
 |false=>rfl
 |true=>have:=Ms h1 h;rw[Hf] at this;cases this
theorem Jz {a b:ByteArray} (h1:txLt a b=false) (h2:txLt b a=false):a=b:=by
 rw[txLt,If,decide_eq_false_iff_not] at*
 exact Abc (List.le_antisymm (List.not_lt.1 h2) (List.not_lt.1 h1))
@[go_sem] theorem bin_slss {a b:ByteArray}:binG .lss (.str a) (.str b)=some (.bool (txLt a b)):=(rfl)
@[go_sem] theorem bin_sgtr {a b:ByteArray}:binG .gtr (.str a) (.str b)=some (.bool (txLt b a)):=by
 have:(!(txLt a b||decide (a=b)))=txLt b a:=by
  by_cases h:a=b
  ·subst h;simp[Hf]
  ·cases h1:txLt a b with
   |true=>rw[Vv h1];simp
   |false=>
    cases h2:txLt b a with
    |true=>simp[h]
    |false=>exact absurd (Jz h1 h2) h
 simp only[binG,strG,Bz]
 exact congrArg (fun b=>some (GV.bool b)) this
@[go_sem] theorem bin_sgeq {a b:ByteArray}:binG .geq (.str a) (.str b)=some (.bool (!txLt a b)):=(rfl)
@[go_sem] theorem bin_sleq {a b:ByteArray}:binG .leq (.str a) (.str b)=some (.bool (!txLt b a)):=by
 have:(txLt a b||decide (a=b))= !txLt b a:=by
  by_cases h:a=b
  ·subst h;simp[Hf]
  ·cases h1:txLt a b with
   |true=>rw[Vv h1];simp
   |false=>
    cases h2:txLt b a with
    |true=>simp[h]
    |false=>exact absurd (Jz h1 h2) h
 simp only[binG,strG,Bz]
 exact congrArg (fun b=>some (GV.bool b)) this
def cmpI (a b:Int):Int:=if a<b then -1 else if b<a then 1 else 0
def cmpS (a b:ByteArray):Int:=if txLt a b then -1 else if txLt b a then 1 else 0
def orI (a b:Int):Int:=if a=0 then b else a
def Vw (a b:Dot):Int:=orI (cmpI a.rep b.rep) (cmpI a.seq b.seq)
def V4 (a b:Tally):Int:=orI (cmpS a.obj b.obj) (cmpI a.rep b.rep)
def Bj (a b:Dot):Bool:=decide (a.rep<b.rep)||decide (a.rep=b.rep)&&decide (a.seq<b.seq)
def Ak (a b:Tally):Bool:=txLt a.obj b.obj||decide (a.obj=b.obj)&&decide (a.rep<b.rep)
theorem A52 {a b:Dot}:decide (Vw a b<0)=Bj a b:=by
 unfold Vw Bj orI cmpI
 rw[Zaj]
 simp only[decide_eq_true_eq,Zar,Zaa]
 repeat' split
 all_goals omega
theorem Lq {a b:Dot}:decide (0<=Vw a b)= !Bj a b:=by
 rw[<- A52,Zaj];simp
theorem Ahn {a b:Int}:cmpI a b=0↔a=b:=by
 unfold cmpI
 rcases Zbx a b with h|h|h
 ·rw[if_pos h];omega
 ·subst h;simp
 ·rw[if_neg (by omega),if_pos h];omega
theorem Aa5 {a b:Int}:cmpI a b<0↔a<b:=by
 unfold cmpI
 rcases Zbx a b with h|h|h
 ·rw[if_pos h];omega
 ·subst h;simp
 ·rw[if_neg (by omega),if_pos h];omega
theorem Af1 {a b:ByteArray}:cmpS a b<0↔txLt a b=true:=by
 unfold cmpS
 cases h1:txLt a b with
 |true=>simp
 |false=>
  cases h2:txLt b a with
  |true=>simp
  |false=>simp
theorem Ad9 {a b:ByteArray}:cmpS a b=0↔a=b:=by
 unfold cmpS
 cases h1:txLt a b with
 |true=>
  have h3:a≠b:=fun e=>by rw[e,Hf] at h1;cases h1
  simp[h3]
 |false=>
  cases h2:txLt b a with
  |true=>
   have h3:a≠b:=fun e=>by rw[e,Hf] at h2;cases h2
   simp[h3]
  |false=>simp[Jz h1 h2]
theorem A80 {a b:Tally}:decide (V4 a b<0)=Ak a b:=by
 unfold V4 Ak orI
 rw[Zaj]
 simp only[decide_eq_true_eq,Zar,Zaa]
 by_cases h:a.obj=b.obj
 ·rw[if_pos (Ad9.2 h),Aa5,h,Hf];simp
 ·rw[if_neg (fun e=>h (Ad9.1 e)),Af1];simp[h]
theorem A81 {a b:Tally}:decide (0<=V4 a b)= !Ak a b:=by
 rw[<- A80,Zaj];simp
theorem Hy (a:Dot):Bj a a=false:=by simp[Bj]
theorem Hz {a b c:Dot} (h1:Bj a b=true) (h2:Bj b c=true):Bj a c=true:=by
 simp only[Bj,Zar,Zaa,decide_eq_true_eq] at *;omega
theorem Ada {a b:Dot} (h1:Bj a b=false) (h2:Bj b a=false):a=b:=by
 rw[Dot.eq_iff]
 simp only[Bj,Zap,Zan,decide_eq_false_iff_not] at *;omega
def allR (n:Nat) (p:Nat->Bool):Bool:=(List.range n).all p
theorem Bl {n:Nat} {p:Nat->Bool}:allR n p=true↔∀ i,i<n->p i=true:=by simp[allR]
theorem G9 {n i:Nat} {p:Nat->Bool} (hi:i<n) (h:p i=false):allR n p=false:=by
 cases e:allR n p with
 |false=>rfl
 |true=>rw[Bl.1 e i hi] at h;cases h
theorem E7 {n:Nat} {p:Nat->Bool} (h:∀ i,i<n->p i=true):allR n p=true:=Bl.2 h
theorem C4 {i:Nat} {p:Nat->Bool} (h:∀ j,j<i->p j=true) (hi:p i=true):∀ j,j<i+1->p j=true:=fun j hj=>by
 rcases Za5 j i with h1|h1
 ·exact h j h1
 ·have:j=i:=by omega
  subst this;exact hi
def onI {α:Type} (l:List α) (i:Nat) (p:α->Bool):Bool:=match l[i]? with
 |some x=>p x
 |none=>true
theorem Bn {α:Type} {l:List α} {i:Nat} {p:α->Bool} (hi:i<l.length):onI l i p=p l[i]:=by
 simp only[onI,Zaz hi]
def upI {α:Type} (lt:α->α->Bool) (l:List α):Nat->Bool
 |0=>true
 |i+1=>onI l i fun a=>onI l (i+1) fun b=>lt a b
theorem Jh {α:Type} {lt:α->α->Bool} {l:List α} {i:Nat} (h0:i≠0) (hi:i<l.length) (hj:i - 1<l.length):upI lt l i=lt l[i - 1] l[i]:=by
 cases i with
 |zero=>exact absurd rfl h0
 |succ i=>
  simp only[upI,Zbt]
  rw[Bn (by omega),Bn hi]
theorem P6 {α:Type} {lt:α->α->Bool} (ht:∀ a b c,lt a b=true->lt b c=true->lt a c=true) {l:List α} (h:∀ i,i<l.length->upI lt l i=true):l.Pairwise fun a b=>lt a b=true:=by
 have key:∀(j i:Nat) (hi:i<l.length) (hj:j<l.length),i<j->lt l[i] l[j]=true:=by
  intro j
  induction j with
  |zero=>intro i hi hj h;omega
  |succ j ih=>
   intro i hi hj hij
   have h1:=h (j+1) hj
   rw[Jh (by omega) hj (by omega)] at h1
   simp only[Zbt] at h1
   rcases Za5 i j with h2|h2
   ·exact ht _ _ _ (ih i hi (by omega) h2) h1
   ·have:i=j:=by omega
    subst this;exact h1
 rw[Zbg]
 exact fun i j hi hj hij=>key j i hi hj hij
def tal1 (t:Tally):Bool:=Ct t.obj&&(inB t.rep 0 2&&inB t.sum 0 999999)
def talP (l:List Tally) (i:Nat):Bool:=onI l i tal1&&upI Ak l i
def Dp (l:List Tally):Bool:=allR l.length (talP l)&&decide (l.length<=120)
def liv1 (x:Live):Bool:=Ct x.obj&&(Ct x.key&&(inB x.val 0 999999&&(x.map||decide (x.val=0))))
def Dc (a b:Live):Bool:=Bj a.dot b.dot
def livP (l:List Live) (k:List Int) (i:Nat):Bool:=(onI l i fun x=>Ax k x.dot)&&((onI l i liv1)&&upI Dc l i)
def Ig (l:List Live) (k:List Int):Bool:=allR l.length (livP l k)&&decide (l.length<=120)
def A82 (l:List Live) (i:Nat):Bool:=(onI l i fun x=>G7 x.dot)&&((onI l i liv1)&&upI Dc l i)
def A53 (l:List Live):Bool:=allR l.length (A82 l)&&decide (l.length<=120)
def cel1 (x:Cell):Bool:=Ct x.obj&&(inB x.val 0 999999&&inB x.time 1 10000)
def Dq (a b:Cell):Bool:=Bj a.dot b.dot
def celP (l:List Cell) (k:List Int) (i:Nat):Bool:=(onI l i fun x=>Ax k x.dot)&&((onI l i cel1)&&upI Dq l i)
def Gv (l:List Cell) (k:List Int):Bool:=allR l.length (celP l k)&&decide (l.length<=120)
def refD (x:Cell):Bool:=decide (x.ref=⟨0,0⟩)||G7 x.ref
def A83 (l:List Cell) (i:Nat):Bool:=(onI l i fun x=>G7 x.dot)&&((onI l i cel1)&&((onI l i refD)&&upI Dq l i))
def A54 (l:List Cell):Bool:=allR l.length (A83 l)&&decide (l.length<=120)
def Cf (l:List Cell) (d:Dot):Option Nat:=l.findIdx? fun c=>decide (c.dot=d)
def ref1 (l:List Cell) (c:Cell):Bool:=decide (c.ref=⟨0,0⟩)||match Cf l c.ref with
 |none=>false
 |some k=>onI l k fun y=>decide (y.obj=c.obj)&&decide (y.time<c.time)
def A09 (l:List Cell):Bool:=l.all (ref1 l)
def Au (s:State):Bool:=okK s.know&&(Dp s.tallies&&(Ig s.lives s.know&&(Gv s.cells s.know&&A09 s.cells)))
def livK (k:List Int) (x:Live):Bool:=Ax k x.dot
def celK (l:List Cell) (k:List Int) (x:Cell):Bool:=Ax k x.dot&&ref1 l x
def Eq (s:State):Bool:=okK s.know&&(Dp s.tallies&&(A53 s.lives&&(A54 s.cells&&(s.lives.all (livK s.know)&&s.cells.all (celK s.cells s.know)))))
theorem I1 {k:List Int} {d:Dot} (h:Ax k d=true):G7 d=true:=by
 simp only[Ax,Zaa] at h;exact h.1.2
theorem C5 {l:List Cell} {d:Dot} {k:Nat} (h:Cf l d=some k):∃ hk:k<l.length,l[k].dot=d:=by
 obtain⟨hk,h1,_⟩:=Zaw.1 h
 exact⟨hk,by simpa using h1⟩
theorem Aho {α:Type} {l:List α} {p:α->Bool}:l.all p=allR l.length fun i=>onI l i p:=by
 rw[Zaj,Bl,Zb2]
 constructor
 ·intro h i hi;rw[Bn hi];exact h _ (Zag hi)
 ·intro h x hx
  obtain⟨i,hi,rfl⟩:=Zas hx
  have:=h i hi
  rwa [Bn hi] at this
theorem A84 (s:State):Eq s=Au s:=by
 unfold Eq Au
 cases h1:okK s.know with
 |false=>rfl
 |true=>
  cases h2:Dp s.tallies with
  |false=>rfl
  |true=>
   simp only[Za1]
   rw[Zaj]
   simp only[Zaa,A53,Ig,A54,Gv,A09,Aho,Bl,decide_eq_true_eq,A82,livP,A83,celP]
   constructor
   ·rintro⟨⟨hl,hl2⟩,⟨hc,hc2⟩,hlk,hck⟩
    refine⟨⟨fun i hi=>⟨hlk i hi,(hl i hi).2⟩,hl2⟩,⟨fun i hi=> ?_,hc2⟩,fun i hi=> ?_⟩
    ·have:=hck i hi
     have h4:=hc i hi
     rw[Bn hi,celK] at this
     simp only[Zaa] at this
     exact⟨by rw[Bn hi];exact this.1,h4.2.1,h4.2.2.2⟩
    ·have:=hck i hi
     rw[Bn hi] at this ⊢
     rw[celK] at this
     simp only[Zaa] at this
     exact this.2
   ·rintro⟨⟨hl,hl2⟩,⟨hc,hc2⟩,hr⟩
    refine⟨⟨fun i hi=>⟨?_,(hl i hi).2⟩,hl2⟩,⟨fun i hi=>⟨?_,(hc i hi).2.1,?_,(hc i hi).2.2⟩,hc2⟩,fun i hi=>(hl i hi).1,fun i hi=> ?_⟩
    ·have:=(hl i hi).1
     rw[Bn hi] at this ⊢
     exact I1 this
    ·have:=(hc i hi).1
     rw[Bn hi] at this ⊢
     exact I1 this
    ·have:=hr i hi
     rw[Bn hi] at this ⊢
     unfold ref1 at this
     unfold refD
     simp only[Zar] at this ⊢
     refine this.imp id fun h=> ?_
     split at h
     ·cases h
     ·rename_i k hk
      obtain⟨hkl,e⟩:=C5 hk
      have:=(hc k hkl).1
      rw[Bn hkl,e] at this
      exact I1 this
    ·have h5:=(hc i hi).1
     have h6:=hr i hi
     rw[Bn hi] at h5 h6 ⊢
     rw[celK,h5,h6];rfl
theorem A2g {l:List Cell} {k:List Int} (h:Gv l k=true):l.Pairwise fun a b=>Bj a.dot b.dot=true:=by
 simp only[Gv,Zaa,Bl,celP] at h
 exact P6 (lt:=Dq) (fun a b c h1 h2=>Hz h1 h2) fun i hi=>(h.1 i hi).2.2
theorem Aa6 {l:List Live} {k:List Int} (h:Ig l k=true):l.Pairwise fun a b=>Bj a.dot b.dot=true:=by
 simp only[Ig,Zaa,Bl,livP] at h
 exact P6 (lt:=Dc) (fun a b c h1 h2=>Hz h1 h2) fun i hi=>(h.1 i hi).2.2
def plc:Nat->List Cell->List (Dot×Int)
 |_,[]=>[]
 |n,c::l=>(c.dot,(n:Int))::plc (n+1) l
theorem Aa7 (c:Cell):∀(n:Nat) (l:List Cell),plc n (l++[c])=plc n l++[(c.dot,((n+l.length:Nat):Int))]
 |n,[]=>rfl
 |n,x::l=>by
  simp only[Zb3,plc,Aa7 c (n+1) l,Zau]
  rw[show n+1+l.length=n+(l.length+1) by omega]
theorem Vx (d:Dot):∀(n:Nat) (l:List Cell),Lc (plc n l) d=(Cf l d).map fun k=>((n+k:Nat):Int)
 |n,[]=>rfl
 |n,x::l=>by
  have ih:=Vx d (n+1) l
  unfold Cf at*
  rw[List.findIdx?_cons]
  by_cases h:x.dot=d
  ·subst h;simp[plc,Lc]
  ·have h':d≠x.dot:=fun e=>h e.symm
   have e:Lc (plc n (x::l)) d=Lc (plc (n+1) l) d:=by simp[plc,Lc,h']
   rw[e,ih]
   simp only[h,decide_false,Za3,if_false,Option.map_map]
   congr 1
   funext k
   simp only[Function.comp]
   omega
theorem Ahp {l:List Cell} (h:l.Pairwise fun a b=>Bj a.dot b.dot=true) {i:Nat} (hi:i<l.length):Lc (plc 0 (l.take i)) l[i].dot=none:=by
 rw[Vx]
 have:Cf (l.take i) l[i].dot=none:=by
  unfold Cf
  rw[Zay]
  intro c hc
  obtain⟨j,hj,rfl⟩:=Zas hc
  rw[Zbh] at hj
  rw[List.getElem_take]
  have:=Zbg.1 h j i (by omega) hi (by omega)
  simp only[decide_eq_false_iff_not]
  intro e
  rw[e,Hy] at this;cases this
 rw[this];rfl
theorem Af2 {l:List Cell} {i:Nat} (hi:i<l.length):plc 0 (l.take (i+1))=plc 0 (l.take i)++[(l[i].dot,(i:Int))]:=by
 rw[Ap hi,Aa7,Zbh,show 0+min i l.length=i by omega]
def C9 (l:List Cell) (d:Dot):Int:=match Cf l d with
 |some k=>k
 |none=> -1
theorem A85 {l:List Cell} {d:Dot} {i:Nat} (hi:i<l.length) (h:∀ j (hj:j<i),(l[j]'(by omega)).dot≠d) (he:l[i].dot=d):Cf l d=some i:=by
 unfold Cf
 rw[Zaw]
 exact⟨hi,by simpa using he,fun j hj=>by simpa using h j hj⟩
theorem A86 {l:List Cell} {d:Dot} (h:∀ j (hj:j<l.length),l[j].dot≠d):Cf l d=none:=by
 unfold Cf
 rw[Zay]
 intro c hc
 obtain⟨j,hj,rfl⟩:=Zas hc
 simpa using h j hj
abbrev Lr:Nat:=230
def Ls:Fn1:=⟨6,[.t 2],(rg [oV 2 kf] (rg [oM 3 0,oM 4 0,oB 5 .neq 3 4,oM 2 5] .ret))⟩
theorem Uf:A6 Tryz.prog Lr=some Ls:=by kernel_rfl
abbrev Ih:Nat:=392
def Ii:Fn1:=⟨6,[.t 2],(rg [oV 2 kf] (rg [oM 3 0,oM 4 0,oB 5 .neq 3 4,oM 2 5] .ret))⟩
theorem Ny:A6 Tryz.prog Ih=some Ii:=by kernel_rfl
abbrev Ji:Nat:=106
def Jj:Fn1:=⟨20,[.t 4],(rg [oV 4 (ki 0)] (rg [oM 7 0,oC 8 230 7,oM 5 8] (rg [oM 9 1,oC 10 230 9,oM 6 10] (.seq (rg [oM 11 5] (cn 11 (.seq (rg [oM 12 6] (cn 12 (rg [oV 4 (ki 0)] .ret) .skip)) (rg [o 4 (.mov (ki (-1)))] .ret)) .skip)) (.seq (rg [oM 13 6] (cn 13 (rg [oV 4 (ki 1)] .ret) .skip)) (.seq (rg [oM 14 0,oM 15 1,oB 16 .lss 14 15] (cn 16 (rg [o 4 (.mov (ki (-1)))] .ret) .skip)) (.seq (rg [oM 17 0,oM 18 1,oB 19 .gtr 17 18] (cn 19 (rg [oV 4 (ki 1)] .ret) .skip)) (rg [oV 4 (ki 0)] .ret))))))))⟩
theorem P7:A6 Tryz.prog Ji=some Jj:=by kernel_rfl
abbrev Gw:Nat:=376
def Gx:Fn1:=⟨20,[.t 4],(rg [oV 4 (ki 0)] (rg [oM 7 0,oC 8 392 7,oM 5 8] (rg [oM 9 1,oC 10 392 9,oM 6 10] (.seq (rg [oM 11 5] (cn 11 (.seq (rg [oM 12 6] (cn 12 (rg [oV 4 (ki 0)] .ret) .skip)) (rg [o 4 (.mov (ki (-1)))] .ret)) .skip)) (.seq (rg [oM 13 6] (cn 13 (rg [oV 4 (ki 1)] .ret) .skip)) (.seq (rg [oM 14 0,oM 15 1,oB 16 .lss 14 15] (cn 16 (rg [o 4 (.mov (ki (-1)))] .ret) .skip)) (.seq (rg [oM 17 0,oM 18 1,oB 19 .gtr 17 18] (cn 19 (rg [oV 4 (ki 1)] .ret) .skip)) (rg [oV 4 (ki 0)] .ret))))))))⟩
theorem Lt:A6 Tryz.prog Gw=some Gx:=by kernel_rfl
abbrev Sw:Nat:=105
def Sz:Fn1:=⟨18,[.t 2],(rg [oV 2 (ki 0)] (rg [oV 3 (ki 0)] (.seq (rg [oM 6 0,oN 7 6,oV 8 (ki 0)] (.blk 0 (.lop (rg [oB 9 .lss 8 7] (.seq (cn 9 .skip (.ext 0)) (.seq (.blk 1 (rg [oI 10 1 6 8,oL 11 10,oM 5 11] (rg [oM 12 5,oM 13 3,oB 14 .neq 12 13] (cn 14 (rg [oM 15 5,oM 2 15] .ret) .skip)))) (.reg [oZ 16 8 1,oM 8 16]))))))) (rg [oM 17 3,oM 2 17] .ret))))⟩
theorem A2h:A6 Tryz.prog Sw=some Sz:=by kernel_rfl
abbrev Lu:Nat:=306
def Lv:Fn1:=⟨17,[.t 4],(rg [oX 2 0,oX 3 1,oV 4 (ki 0)] (dw [oF 5 0 2,oL 6 5,oF 7 0 3,oL 8 7,oD 9 106 6 8,oF 10 1 2,oL 11 10,oF 12 1 3,oL 13 12] [oD 14 106 11 13,o 15 (.lit 1 2 [z0,z0] [(0,1,(.t 9)),(1,1,(.t 14))]),oC 16 105 15,oM 4 16] .ret))⟩
theorem Ug:A6 Tryz.prog Lu=some Lv:=by kernel_rfl
abbrev Ij:Nat:=324
def Ik:Fn1:=⟨17,[.t 4],(rg [oX 2 0,oX 3 1,oV 4 (ki 0)] (dw [oF 5 0 2,oL 6 5,oF 7 0 3,oL 8 7,oD 9 376 6 8,oF 10 1 2,oL 11 10,oF 12 1 3,oL 13 12] [oD 14 106 11 13,o 15 (.lit 1 2 [z0,z0] [(0,1,(.t 9)),(1,1,(.t 14))]),oC 16 105 15,oM 4 16] .ret))⟩
theorem Nz:A6 Tryz.prog Ij=some Ik:=by kernel_rfl
abbrev P8:Nat:=362
def P9:Fn1:=⟨24,[.t 4],(rg [oX 2 0,oX 3 1,oV 4 kf] (rg [oF 5 0 2,oL 6 5,oF 7 0 3,oL 8 7,oB 9 .lss 6 8,oM 10 9,vF 11 10 0 2,vL 12 10 11,vF 13 10 0 3,vL 14 10 13,vB 15 10 .eql 12 14,vM 16 10 15,jF 17 16 1 2,jL 18 16 17,jF 19 16 1 3,jL 20 16 19,jB 21 16 .lss 18 20,og 22 10 false (.pick (.t 16) (.t 21) kf),oP 23 10 22,oM 4 23] .ret))⟩
theorem Z7:A6 Tryz.prog P8=some P9:=by kernel_rfl
theorem Ga (σ:St) (a:Int):Ret Tryz.prog Lr [gi a] σ (.bool false) σ:=by
 refine Ar Uf (Z0z rfl) trivial ?_
 simp +contextual (disch:=omega) only[go_sem,Ls,bne_self_eq_false]
theorem Gy (σ:St) (a:ByteArray):Ret Tryz.prog Ih [.str a] σ (.bool false) σ:=by
 refine Ar Ny (Z0z rfl) trivial ?_
 simp +contextual (disch:=omega) only[go_sem,Ii,decide_true,Bool.not_true]
theorem Dl (σ:St) (a b:Int):Ret Tryz.prog Ji [gi a,gi b] σ (gi (cmpI a b)) σ:=by
 refine Ar P7 (Z0z rfl) trivial ?_
 simp +contextual (disch:=omega) only[go_sem,Jj]
 refine Af (Ga _ _) ?_
 simp +contextual (disch:=omega) only[go_sem]
 refine Af (Ga _ _) ?_
 simp +contextual (disch:=omega) only[go_sem]
 unfold cmpI
 grind
theorem Ld (σ:St) (a b:ByteArray):Ret Tryz.prog Gw [.str a,.str b] σ (gi (cmpS a b)) σ:=by
 refine Ar Lt (Z0z rfl) trivial ?_
 simp +contextual (disch:=omega) only[go_sem,Gx]
 refine Af (Gy _ _) ?_
 simp +contextual (disch:=omega) only[go_sem]
 refine Af (Gy _ _) ?_
 simp +contextual (disch:=omega) only[go_sem]
 unfold cmpS
 grind
def orL:List Int->Int
 |[]=>0
 |x::l=>if x=0 then orL l else x
theorem Iz (σ:St) (v:GV) (l:List Int) (h:RS pI.kd σ v l) (hl:l.length<=1099511627776):Ret Tryz.prog Sw [v] σ (gi (orL l)) σ:=by
 refine Ar A2h (Z0z rfl) trivial ?_
 simp +contextual (disch:=omega) only[go_sem,Sz,h.len]
 refine Ce l.length 8 (fun i env τ=>env 3=gi 0/\env 6=v/\env 7=gi l.length/\orL (l.drop i)=orL l/\σ <+: τ) rfl ⟨rfl,rfl,rfl,rfl,Zac _⟩ ?_ ?_
 ·rintro i env τ hi e8 c0 ⟨e3,e6,e7,hd,hp⟩
  rw[Zak hi,orL] at hd
  simp +contextual (disch:=omega) only[go_sem,c0,e3,e6,e7,e8,Cc (h.pre hp) hi,hp]
  grind
 ·rintro env τ e8 c0 ⟨e3,e6,e7,hd,hp⟩
  rw[Zbi] at hd
  simp +contextual (disch:=omega) only[go_sem,c0,e3,e6,e7,e8,hp]
  rw[<- hd];rfl
theorem A87 (a b:Int):orL [a,b]=orI a b:=by
 unfold orI
 simp only[orL]
 split
 ·split
  ·omega
  ·rfl
 ·rfl
theorem Dd (σ:St) (a b:Dot):Ret Tryz.prog Lu [.agg [gi a.rep,gi a.seq],.agg [gi b.rep,gi b.seq]] σ (gi (Vw a b)) σ:=by
 refine Ar Ug (Z0z rfl) trivial ?_
 simp +contextual (disch:=omega) only[go_sem,Lv]
 refine Af (Dl _ _ _) ?_
 simp +contextual (disch:=omega) only[go_sem]
 refine Af (Dl _ _ _) ?_
 simp +contextual (disch:=omega) only[go_sem]
 refine Af (Iz _ _ [cmpI a.rep b.rep,cmpI a.seq b.seq] (Ad4 (p:=pI) _ _ rfl rfl rfl) (by simp)) ?_
 simp +contextual (disch:=omega) only[go_sem,A87]
 rfl
theorem N2 (σ:St) (a b:Tally):Ret Tryz.prog Ij [.agg [.str a.obj,gi a.rep,gi a.sum],.agg [.str b.obj,gi b.rep,gi b.sum]] σ (gi (V4 a b)) σ:=by
 refine Ar Nz (Z0z rfl) trivial ?_
 simp +contextual (disch:=omega) only[go_sem,Ik]
 refine Af (Ld _ _ _) ?_
 simp +contextual (disch:=omega) only[go_sem]
 refine Af (Dl _ _ _) ?_
 simp +contextual (disch:=omega) only[go_sem]
 refine Af (Iz _ _ [cmpS a.obj b.obj,cmpI a.rep b.rep] (Ad4 (p:=pI) _ _ rfl rfl rfl) (by simp)) ?_
 simp +contextual (disch:=omega) only[go_sem,A87]
 rfl
theorem Co (σ:St) (a b:Dot):Ret Tryz.prog P8 [.agg [gi a.rep,gi a.seq],.agg [gi b.rep,gi b.seq]] σ (.bool (Bj a b)) σ:=by
 refine Ar Z7 (Z0z rfl) trivial ?_
 simp +contextual (disch:=omega) only[go_sem,P9]
 unfold Bj
 grind
abbrev N8:Nat:=290
def N9:Fn1:=⟨69,[.t 2],(rg [oV 2 kf] (.seq (rg [oV 3 (ki 0)] (.blk 0 (.lop (.seq (rg [oM 5 3,oM 6 0,oN 7 6,oB 8 .lss 5 7] (cn 8 .skip (.ext 0))) (.seq (.blk 1 (rg [oM 11 0,oM 12 3,oI 13 3 11 12,oW 14 3 13,o 4 (.new [s0,z0,z0]),oS 3 4 14] (.seq (rg [oF 15 0 4,oL 16 15,oC 17 348 16,oU 18 17,oM 19 18,vF 20 19 1 4,vL 21 19 20,og 22 19 false (.call 122 [(.t 21),(ki 0),(ki 2)]),vU 23 19 22,oP 24 19 23,oM 25 24,vF 26 25 2 4,vL 27 25 26,og 28 25 false (.call 122 [(.t 27),(ki 0),(ki 999999)]),vU 29 25 28,oP 30 25 29] (cn 30 (rg [oV 2 kf] .ret) .skip)) (dw [oM 31 3,oE 32 .gtr 31 0,oM 33 32,jM 34 33 0,jM 35 33 3,jE 36 33 .sub 35 1,jI 37 33 3 34 36,jF 38 33 0 37,jL 39 33 38,jF 40 33 0 4,jL 41 33 40,jB 42 33 .gtr 39 41,jM 43 33 42,vM 44 43 0,vM 45 43 3,vE 46 43 .sub 45 1,vI 47 43 3 44 46,vF 48 43 0 47,vL 49 43 48,vF 50 43 0 4,vL 51 43 50,vB 52 43 .eql 49 51,vM 53 43 52,jM 54 53 0,jM 55 53 3,jE 56 53 .sub 55 1,jI 57 53 3 54 56,jF 58 53 1 57,jL 59 53 58,jF 60 53 1 4,jL 61 53 60] [jB 62 53 .geq 59 61,og 63 43 false (.pick (.t 53) (.t 62) kf),og 64 33 true (.pick (.t 43) kt (.t 63)),oQ 65 33 64] (cn 65 (rg [oV 2 kf] .ret) .skip))))) (.reg [oM 9 3,oZ 10 9 1,oM 3 10])))))) (rg [oM 66 0,oN 67 66,oE 68 .leq 67 120,oM 2 68] .ret)))⟩
theorem Vy:A6 Tryz.prog N8=some N9:=by kernel_rfl
abbrev Pa:Nat:=285
def Pb:Fn1:=⟨46,[.t 2],(rg [oV 2 kf] (.seq (rg [oM 5 0,oN 6 5,oV 7 (ki 0)] (.blk 0 (.lop (rg [oB 8 .lss 7 6] (.seq (cn 8 .skip (.ext 0)) (.seq (.blk 1 (rg [oM 9 7,oI 10 3 5 7,oW 11 3 10,o 4 (.new [s0,z0,z0]),oM 3 9,oS 3 4 11] (dw [oF 12 0 4,oL 13 12,oC 14 341 13,oU 15 14,oM 16 15,vF 17 16 1 4,vL 18 16 17,og 19 16 false (.call 236 [(.t 18),(ki 0),(ki 2)]),vU 20 16 19,oP 21 16 20,oM 22 21,vF 23 22 2 4,vL 24 22 23,og 25 22 false (.call 236 [(.t 24),(ki 0),(ki 999999)]),vU 26 22 25,oP 27 22 26,oM 28 27,vM 29 28 3,vE 30 28 .gtr 29 0,vM 31 28 30,jM 32 31 0,jM 33 31 3,jE 34 31 .sub 33 1,jI 35 31 3 32 34,jW 36 31 3 35,jW 37 31 3 4] [jD 38 31 324 36 37,jE 39 31 .geq 38 0,og 40 28 false (.pick (.t 31) (.t 39) kf),oP 41 28 40] (cn 41 (rg [oV 2 kf] .ret) .skip)))) (.reg [oZ 42 7 1,oM 7 42]))))))) (rg [oM 43 0,oN 44 43,oE 45 .leq 44 120,oM 2 45] .ret)))⟩
theorem Z8:A6 Tryz.prog Pa=some Pb:=by kernel_rfl
abbrev T0:Nat:=291
def T1:Fn1:=⟨66,[.t 2],(rg [oV 2 kf] (.seq (rg [oV 3 (ki 0)] (.blk 0 (.lop (.seq (rg [oM 5 3,oM 6 0,oN 7 6,oB 8 .lss 5 7] (cn 8 .skip (.ext 0))) (.seq (.blk 1 (rg [oM 11 0,oM 12 3,oI 13 6 11 12,oW 14 6 13,o 4 (.new [(.bool false),s0,s0,z0,z0,z0]),oS 6 4 14] (dw [oF 15 4 4,oW 16 2 15,oC 17 168 16,oU 18 17,oM 19 18,vF 20 19 1 4,vL 21 19 20,vC 22 19 348 21,vU 23 19 22,oP 24 19 23,oM 25 24,vF 26 25 2 4,vL 27 25 26,vC 28 25 348 27,vU 29 25 28,oP 30 25 29,oM 31 30,vF 32 31 3 4,vL 33 31 32,og 34 31 false (.call 122 [(.t 33),(ki 0),(ki 999999)]),vU 35 31 34,oP 36 31 35,oM 37 36,vF 38 37 0 4,vL 39 37 38,vU 40 37 39,vM 41 37 40,jF 42 41 3 4,jL 43 41 42,jE 44 41 .neq 43 0,og 45 37 false (.pick (.t 41) (.t 44) kf),oP 46 37 45,oM 47 46,vM 48 47 3,vE 49 47 .gtr 48 0,vM 50 47 49,jM 51 50 0,jM 52 50 3,jE 53 50 .sub 52 1,jI 54 50 6 51 53,jF 55 50 4 54,jW 56 50 2 55,jF 57 50 4 4,jW 58 50 2 57] [jD 59 50 362 56 58,jU 60 50 59,og 61 47 false (.pick (.t 50) (.t 60) kf),oP 62 47 61] (cn 62 (rg [oV 2 kf] .ret) .skip)))) (.reg [oM 9 3,oZ 10 9 1,oM 3 10])))))) (rg [oM 63 0,oN 64 63,oE 65 .leq 64 120,oM 2 65] .ret)))⟩
theorem A2i:A6 Tryz.prog T0=some T1:=by kernel_rfl
abbrev Vz:Nat:=286
def W0:Fn1:=⟨65,[.t 4],(rg [oV 4 kf] (.seq (rg [oM 7 0,oN 8 7,oV 9 (ki 0)] (.blk 0 (.lop (rg [oB 10 .lss 9 8] (.seq (cn 10 .skip (.ext 0)) (.seq (.blk 1 (rg [oM 11 9,oI 12 6 7 9,oW 13 6 12,o 6 (.new [(.bool false),s0,s0,z0,z0,z0]),oM 5 11,oS 6 6 13] (.seq (rg [oM 14 1,oF 15 4 6,oW 16 2 15,oD 17 170 14 16,oU 18 17,oM 19 18,vF 20 19 1 6,vL 21 19 20,vC 22 19 341 21,vU 23 19 22,oP 24 19 23,oM 25 24,vF 26 25 2 6,vL 27 25 26,vC 28 25 341 27,vU 29 25 28,oP 30 25 29,oM 31 30,vF 32 31 3 6,vL 33 31 32,og 34 31 false (.call 236 [(.t 33),(ki 0),(ki 999999)]),vU 35 31 34,oP 36 31 35,oM 37 36,vF 38 37 0 6,vL 39 37 38,vU 40 37 39,vM 41 37 40,jF 42 41 3 6,jL 43 41 42,jE 44 41 .neq 43 0,og 45 37 false (.pick (.t 41) (.t 44) kf),oP 46 37 45] (cn 46 (rg [oV 4 kf] .ret) .skip)) (dw [oM 47 5,oE 48 .gtr 47 0,oM 49 48,jM 50 49 0,jM 51 49 5,jE 52 49 .sub 51 1,jI 53 49 6 50 52,jF 54 49 4 53,jW 55 49 2 54,jF 56 49 4 6,jW 57 49 2 56] [jD 58 49 306 55 57,jE 59 49 .geq 58 0,oQ 60 49 59] (cn 60 (rg [oV 4 kf] .ret) .skip))))) (.reg [oZ 61 9 1,oM 9 61]))))))) (rg [oM 62 0,oN 63 62,oE 64 .leq 63 120,oM 4 64] .ret)))⟩
theorem A55:A6 Tryz.prog Vz=some W0:=by kernel_rfl
abbrev T2:Nat:=292
def T3:Fn1:=⟨68,[.t 2],(rg [oV 2 kf] (.seq (rg [oV 3 (ki 0)] (.blk 0 (.lop (.seq (rg [oM 5 3,oM 6 0,oN 7 6,oB 8 .lss 5 7] (cn 8 .skip (.ext 0))) (.seq (.blk 1 (rg [oM 11 0,oM 12 3,oI 13 8 11 12,oW 14 8 13,o 4 (.new [s0,z0,z0,z0,z0,z0,z0,(.bool false)]),oS 8 4 14] (dw [oF 15 1 4,oW 16 2 15,oC 17 168 16,oU 18 17,oM 19 18,vF 20 19 0 4,vL 21 19 20,vC 22 19 348 21,vU 23 19 22,oP 24 19 23,oM 25 24,vF 26 25 3 4,vL 27 25 26,og 28 25 false (.call 122 [(.t 27),(ki 1),(ki 10000)]),vU 29 25 28,oP 30 25 29,oM 31 30,vF 32 31 6 4,vL 33 31 32,og 34 31 false (.call 122 [(.t 33),(ki 0),(ki 999999)]),vU 35 31 34,oP 36 31 35,oM 37 36,vF 38 37 4 4,vW 39 37 2 38,og 40 37 false (.build [z0,z0] []),og 41 37 false (.eqs true [.i .i64,.i .i64] (.t 39) (.t 40)),vM 42 37 41,jF 43 42 4 4,jW 44 42 2 43,jC 45 42 168 44,jU 46 42 45,og 47 37 false (.pick (.t 42) (.t 46) kf),oP 48 37 47,oM 49 48,vM 50 49 3,vE 51 49 .gtr 50 0,vM 52 49 51,jM 53 52 0,jM 54 52 3,jE 55 52 .sub 54 1,jI 56 52 8 53 55,jF 57 52 1 56,jW 58 52 2 57,jF 59 52 1 4,jW 60 52 2 59] [jD 61 52 362 58 60,jU 62 52 61,og 63 49 false (.pick (.t 52) (.t 62) kf),oP 64 49 63] (cn 64 (rg [oV 2 kf] .ret) .skip)))) (.reg [oM 9 3,oZ 10 9 1,oM 3 10])))))) (rg [oM 65 0,oN 66 65,oE 67 .leq 66 120,oM 2 67] .ret)))⟩
theorem A2j:A6 Tryz.prog T2=some T3:=by kernel_rfl
abbrev W1:Nat:=287
def W3:Fn1:=⟨55,[.t 4],(rg [oV 4 kf] (.seq (rg [oM 7 0,oN 8 7,oV 9 (ki 0)] (.blk 0 (.lop (rg [oB 10 .lss 9 8] (.seq (cn 10 .skip (.ext 0)) (.seq (.blk 1 (rg [oM 11 9,oI 12 8 7 9,oW 13 8 12,o 6 (.new [s0,z0,z0,z0,z0,z0,z0,(.bool false)]),oM 5 11,oS 8 6 13] (.seq (rg [oM 14 1,oF 15 1 6,oW 16 2 15,oD 17 170 14 16,oU 18 17,oM 19 18,vF 20 19 0 6,vL 21 19 20,vC 22 19 341 21,vU 23 19 22,oP 24 19 23,oM 25 24,vF 26 25 6 6,vL 27 25 26,og 28 25 false (.call 236 [(.t 27),(ki 0),(ki 999999)]),vU 29 25 28,oP 30 25 29,oM 31 30,vF 32 31 3 6,vL 33 31 32,og 34 31 false (.call 236 [(.t 33),(ki 1),(ki 10000)]),vU 35 31 34,oP 36 31 35] (cn 36 (rg [oV 4 kf] .ret) .skip)) (dw [oM 37 5,oE 38 .gtr 37 0,oM 39 38,jM 40 39 0,jM 41 39 5,jE 42 39 .sub 41 1,jI 43 39 8 40 42,jF 44 39 1 43,jW 45 39 2 44,jF 46 39 1 6,jW 47 39 2 46] [jD 48 39 306 45 47,jE 49 39 .geq 48 0,oQ 50 39 49] (cn 50 (rg [oV 4 kf] .ret) .skip))))) (.reg [oZ 51 9 1,oM 9 51]))))))) (rg [oM 52 0,oN 53 52,oE 54 .leq 53 120,oM 4 54] .ret)))⟩
theorem A56:A6 Tryz.prog W1=some W3:=by kernel_rfl
theorem A0a {α:Type} {l:List α} {n:Nat}:decide ((l.length:Int)<=(n:Nat))=decide (l.length<=n):=by
 rw[Zaj];simp only[decide_eq_true_eq];omega
theorem sub1 {i:Nat} (h:0<i):(i:Int) - 1=((i - 1:Nat):Int):=by omega
theorem A88 (a b:Tally):Ak a b= !(txLt b.obj a.obj||decide (a.obj=b.obj)&&decide (b.rep<=a.rep)):=by
 unfold Ak
 by_cases h:a.obj=b.obj
 ·rw[h,Hf];rw[Zaj];simp
 ·cases h1:txLt a.obj b.obj with
  |true=>simp[h,Vv h1]
  |false=>
   cases h2:txLt b.obj a.obj with
   |true=>simp[h]
   |false=>exact absurd (Jz h1 h2) h
theorem Aa8 (m:Bool) (n:Int):m=true∨(m=false/\(n != 0)=false/\n=0)∨(m=false/\(n != 0)=true/\n≠0):=by
 cases m
 ·by_cases h:n=0
  ·exact .inr (.inl ⟨rfl,by simp[h],h⟩)
  ·exact .inr (.inr ⟨rfl,by simp[h],h⟩)
 ·exact .inl rfl
theorem Kz (σ:St) (v:GV) (l:List Tally) (h:RS Am.kd σ v l) (hl:l.length<=1099511627776) (hsz:∀ x∈l,x.obj.size<=1099511627776):Ret Tryz.prog N8 [v] σ (.bool (Dp l)) σ:=by
 refine Ar Vy (Z0z rfl) trivial ?_
 simp +contextual (disch:=omega) only[go_sem,N9,h.len]
 refine Ce l.length 3 (fun i env τ=>env 0=v/\(∀ j,j<i->talP l j=true)/\σ <+: τ) rfl ⟨rfl,fun j hj=>by omega,Zac _⟩ ?_ ?_
 ·rintro i env τ hi ei c0 ⟨e0,ha,hp⟩
  have hno:talP l i=false->Dp l=false:=fun hh=>by simp[Dp,G9 hi hh]
  have hat:talP l i=((Ct l[i].obj&&(inB l[i].rep 0 2&&inB l[i].sum 0 999999))&&upI Ak l i):=by simp only[talP,tal1,Bn hi]
  simp +contextual (disch:=omega) only[go_sem,c0,e0,ei,Ae (h.pre hp) hi,fun r=>Ae (h.pre (A3 hp r)) hi,h.len,A3 hp _,hp]
  refine Ac (F2 _ l[i].obj (hsz _ (Zag hi))) (fun h0=> ?_) (fun h0=> ?_)
  rotate_left
  ·simp +contextual (disch:=omega) only[go_sem,c0,e0,ei,Ae (h.pre hp) hi,fun r=>Ae (h.pre (A3 hp r)) hi,h.len,A3 hp _,hp]
   simp[hno (by rw[hat];simp[h0])]
  simp +contextual (disch:=omega) only[go_sem,c0,e0,ei,Ae (h.pre hp) hi,fun r=>Ae (h.pre (A3 hp r)) hi,h.len,A3 hp _,hp]
  refine Ac (B6 _ _ _ _) (fun h1=> ?_) (fun h1=> ?_)
  rotate_left
  ·simp +contextual (disch:=omega) only[go_sem,c0,e0,ei,Ae (h.pre hp) hi,fun r=>Ae (h.pre (A3 hp r)) hi,h.len,A3 hp _,hp]
   simp[hno (by rw[hat];simp[h1])]
  simp +contextual (disch:=omega) only[go_sem,c0,e0,ei,Ae (h.pre hp) hi,fun r=>Ae (h.pre (A3 hp r)) hi,h.len,A3 hp _,hp]
  refine Ac (B6 _ _ _ _) (fun h2=> ?_) (fun h2=> ?_)
  rotate_left
  ·simp +contextual (disch:=omega) only[go_sem,c0,e0,ei,Ae (h.pre hp) hi,fun r=>Ae (h.pre (A3 hp r)) hi,h.len,A3 hp _,hp]
   simp[hno (by rw[hat];simp[h2])]
  simp +contextual (disch:=omega) only[go_sem,c0,e0,ei,Ae (h.pre hp) hi,fun r=>Ae (h.pre (A3 hp r)) hi,h.len,A3 hp _,hp]
  rcases Zai i with hz|hz
  ·subst hz
   simp +contextual (disch:=omega) only[go_sem,Zaq,decide_false,Zax,c0,e0,ei,Ae (h.pre hp) hi,fun r=>Ae (h.pre (A3 hp r)) hi,h.len,A3 hp _,hp]
   refine C4 ha (by rw[hat];simp[h0,h1,h2,upI])
  ·have c1:decide ((0:Int)<i)=true:=by simp;omega
   have hj:i - 1<l.length:=by omega
   have hz':i≠0:=by omega
   simp only[Jh hz' hi hj] at hat
   simp +contextual (disch:=omega) only[go_sem,c1,sub1 hz,Ae (h.pre hp) hj,fun r=>Ae (h.pre (A3 hp r)) hj,c0,e0,ei,Ae (h.pre hp) hi,fun r=>Ae (h.pre (A3 hp r)) hi,h.len,A3 hp _,hp]
   rw[A88] at hat
   generalize txLt l[i].obj l[i-1].obj=b1 at*
   generalize decide (l[i-1].obj=l[i].obj)=b2 at*
   grind
 ·rintro env τ ei c0 ⟨e0,ha,hp⟩
  simp +contextual (disch:=omega) only[go_sem,c0,e0,ei,h.len,hp]
  simp only[Dp,E7 ha,Za1]
  exact A0a
theorem Lw (σ:St) (v:GV) (l:List Tally) (h:RS Am.kd σ v l) (hl:l.length<=1099511627776) (hsz:∀ x∈l,x.obj.size<=1099511627776):Ret Tryz.prog Pa [v] σ (.bool (Dp l)) σ:=by
 refine Ar Z8 (Z0z rfl) trivial ?_
 simp +contextual (disch:=omega) only[go_sem,Pb,h.len]
 refine Ce l.length 7 (fun i env τ=>env 0=v/\env 5=v/\env 6=gi l.length/\(∀ j,j<i->talP l j=true)/\σ <+: τ) rfl ⟨rfl,rfl,rfl,fun j hj=>by omega,Zac _⟩ ?_ ?_
 ·rintro i env τ hi ei c0 ⟨e0,e5,e6,ha,hp⟩
  have hno:talP l i=false->Dp l=false:=fun hh=>by simp[Dp,G9 hi hh]
  have hat:talP l i=((Ct l[i].obj&&(inB l[i].rep 0 2&&inB l[i].sum 0 999999))&&upI Ak l i):=by simp only[talP,tal1,Bn hi]
  simp +contextual (disch:=omega) only[go_sem,c0,e0,e5,e6,ei,Ae (h.pre hp) hi,fun r=>Ae (h.pre (A3 hp r)) hi,h.len,A3 hp _,hp]
  refine Ac (Dx _ l[i].obj (hsz _ (Zag hi))) (fun h0=> ?_) (fun h0=> ?_)
  rotate_left
  ·simp +contextual (disch:=omega) only[go_sem,c0,e0,e5,e6,ei,Ae (h.pre hp) hi,fun r=>Ae (h.pre (A3 hp r)) hi,h.len,A3 hp _,hp]
   simp[hno (by rw[hat];simp[h0])]
  simp +contextual (disch:=omega) only[go_sem,c0,e0,e5,e6,ei,Ae (h.pre hp) hi,fun r=>Ae (h.pre (A3 hp r)) hi,h.len,A3 hp _,hp]
  refine Ac (Ba _ _ _ _) (fun h1=> ?_) (fun h1=> ?_)
  rotate_left
  ·simp +contextual (disch:=omega) only[go_sem,c0,e0,e5,e6,ei,Ae (h.pre hp) hi,fun r=>Ae (h.pre (A3 hp r)) hi,h.len,A3 hp _,hp]
   simp[hno (by rw[hat];simp[h1])]
  simp +contextual (disch:=omega) only[go_sem,c0,e0,e5,e6,ei,Ae (h.pre hp) hi,fun r=>Ae (h.pre (A3 hp r)) hi,h.len,A3 hp _,hp]
  refine Ac (Ba _ _ _ _) (fun h2=> ?_) (fun h2=> ?_)
  rotate_left
  ·simp +contextual (disch:=omega) only[go_sem,c0,e0,e5,e6,ei,Ae (h.pre hp) hi,fun r=>Ae (h.pre (A3 hp r)) hi,h.len,A3 hp _,hp]
   simp[hno (by rw[hat];simp[h2])]
  simp +contextual (disch:=omega) only[go_sem,c0,e0,e5,e6,ei,Ae (h.pre hp) hi,fun r=>Ae (h.pre (A3 hp r)) hi,h.len,A3 hp _,hp]
  rcases Zai i with hz|hz
  ·subst hz
   simp +contextual (disch:=omega) only[go_sem,Zaq,decide_false,Zax,c0,e0,e5,e6,ei,Ae (h.pre hp) hi,fun r=>Ae (h.pre (A3 hp r)) hi,h.len,A3 hp _,hp]
   refine C4 ha (by rw[hat];simp[h0,h1,h2,upI])
  ·have c1:decide ((0:Int)<i)=true:=by simp;omega
   have hj:i - 1<l.length:=by omega
   have hz':i≠0:=by omega
   simp only[Jh hz' hi hj] at hat
   simp +contextual (disch:=omega) only[go_sem,c1,sub1 hz,Ae (h.pre hp) hj,fun r=>Ae (h.pre (A3 hp r)) hj,c0,e0,e5,e6,ei,Ae (h.pre hp) hi,fun r=>Ae (h.pre (A3 hp r)) hi,h.len,A3 hp _,hp]
   refine Af (N2 _ l[i-1] l[i]) ?_
   simp +contextual (disch:=omega) only[go_sem,A81,c1,sub1 hz,Ae (h.pre hp) hj,fun r=>Ae (h.pre (A3 hp r)) hj,c0,e0,e5,e6,ei,Ae (h.pre hp) hi,fun r=>Ae (h.pre (A3 hp r)) hi,h.len,A3 hp _,hp]
   cases ho:Ak l[i-1] l[i] with
   |true=>
    simp +contextual (disch:=omega) only[go_sem,c1,sub1 hz,Ae (h.pre hp) hj,fun r=>Ae (h.pre (A3 hp r)) hj,c0,e0,e5,e6,ei,Ae (h.pre hp) hi,fun r=>Ae (h.pre (A3 hp r)) hi,h.len,A3 hp _,hp]
    exact C4 ha (by rw[hat];simp[h0,h1,h2,ho])
   |false=>
    simp +contextual (disch:=omega) only[go_sem,c1,sub1 hz,Ae (h.pre hp) hj,fun r=>Ae (h.pre (A3 hp r)) hj,c0,e0,e5,e6,ei,Ae (h.pre hp) hi,fun r=>Ae (h.pre (A3 hp r)) hi,h.len,A3 hp _,hp]
    simp[hno (by rw[hat];simp[ho])]
 ·rintro env τ ei c0 ⟨e0,e5,e6,ha,hp⟩
  simp +contextual (disch:=omega) only[go_sem,c0,e0,e5,e6,ei,h.len,hp]
  simp only[Dp,E7 ha,Za1]
  exact A0a
theorem Na (σ:St) (v:GV) (l:List Live) (h:RS As.kd σ v l) (hl:l.length<=1099511627776) (hsz:∀ x∈l,x.obj.size<=1099511627776/\x.key.size<=1099511627776):Ret Tryz.prog T0 [v] σ (.bool (A53 l)) σ:=by
 refine Ar A2i (Z0z rfl) trivial ?_
 simp +contextual (disch:=omega) only[go_sem,T1,h.len]
 refine Ce l.length 3 (fun i env τ=>env 0=v/\(∀ j,j<i->A82 l j=true)/\σ <+: τ) rfl ⟨rfl,fun j hj=>by omega,Zac _⟩ ?_ ?_
 ·rintro i env τ hi ei c0 ⟨e0,ha,hp⟩
  have hno:A82 l i=false->A53 l=false:=fun hh=>by simp[A53,G9 hi hh]
  have hat:A82 l i=(G7 l[i].dot&&((Ct l[i].obj&&(Ct l[i].key&&(inB l[i].val 0 999999&&(l[i].map||decide (l[i].val=0)))))&&upI Dc l i)):=by simp only[A82,liv1,Bn hi]
  simp +contextual (disch:=omega) only[go_sem,c0,e0,ei,A7 (h.pre hp) hi,fun r=>A7 (h.pre (A3 hp r)) hi,h.len,A3 hp _,hp]
  refine Ac (Et _ l[i].dot) (fun h0=> ?_) (fun h0=> ?_)
  rotate_left
  ·simp +contextual (disch:=omega) only[go_sem,c0,e0,ei,A7 (h.pre hp) hi,fun r=>A7 (h.pre (A3 hp r)) hi,h.len,A3 hp _,hp]
   simp[hno (by rw[hat];simp[h0])]
  simp +contextual (disch:=omega) only[go_sem,c0,e0,ei,A7 (h.pre hp) hi,fun r=>A7 (h.pre (A3 hp r)) hi,h.len,A3 hp _,hp]
  refine Ac (F2 _ l[i].obj (hsz _ (Zag hi)).1) (fun h1=> ?_) (fun h1=> ?_)
  rotate_left
  ·simp +contextual (disch:=omega) only[go_sem,c0,e0,ei,A7 (h.pre hp) hi,fun r=>A7 (h.pre (A3 hp r)) hi,h.len,A3 hp _,hp]
   simp[hno (by rw[hat];simp[h1])]
  simp +contextual (disch:=omega) only[go_sem,c0,e0,ei,A7 (h.pre hp) hi,fun r=>A7 (h.pre (A3 hp r)) hi,h.len,A3 hp _,hp]
  refine Ac (F2 _ l[i].key (hsz _ (Zag hi)).2) (fun h2=> ?_) (fun h2=> ?_)
  rotate_left
  ·simp +contextual (disch:=omega) only[go_sem,c0,e0,ei,A7 (h.pre hp) hi,fun r=>A7 (h.pre (A3 hp r)) hi,h.len,A3 hp _,hp]
   simp[hno (by rw[hat];simp[h2])]
  simp +contextual (disch:=omega) only[go_sem,c0,e0,ei,A7 (h.pre hp) hi,fun r=>A7 (h.pre (A3 hp r)) hi,h.len,A3 hp _,hp]
  refine Ac (B6 _ _ _ _) (fun h3=> ?_) (fun h3=> ?_)
  rotate_left
  ·simp +contextual (disch:=omega) only[go_sem,c0,e0,ei,A7 (h.pre hp) hi,fun r=>A7 (h.pre (A3 hp r)) hi,h.len,A3 hp _,hp]
   simp[hno (by rw[hat];simp[h3])]
  simp +contextual (disch:=omega) only[go_sem,c0,e0,ei,A7 (h.pre hp) hi,fun r=>A7 (h.pre (A3 hp r)) hi,h.len,A3 hp _,hp]
  rcases Aa8 l[i].map l[i].val with hm|⟨hm,hv,hv'⟩|⟨hm,hv,hv'⟩
  rotate_left 2
  ·simp +contextual (disch:=omega) only[go_sem,hm,hv,c0,e0,ei,A7 (h.pre hp) hi,fun r=>A7 (h.pre (A3 hp r)) hi,h.len,A3 hp _,hp]
   simp[hno (by rw[hat];simp[hm,hv'])]
  ·simp +contextual (disch:=omega) only[go_sem,hm,c0,e0,ei,A7 (h.pre hp) hi,fun r=>A7 (h.pre (A3 hp r)) hi,h.len,A3 hp _,hp]
   rcases Zai i with hz|hz
   ·subst hz
    simp +contextual (disch:=omega) only[go_sem,Zaq,decide_false,Zax,hm,c0,e0,ei,A7 (h.pre hp) hi,fun r=>A7 (h.pre (A3 hp r)) hi,h.len,A3 hp _,hp]
    refine C4 ha (by rw[hat];simp[h0,h1,h2,h3,hm,upI])
   ·have c1:decide ((0:Int)<i)=true:=by simp;omega
    have hj:i - 1<l.length:=by omega
    have hz':i≠0:=by omega
    simp only[Jh hz' hi hj] at hat
    simp +contextual (disch:=omega) only[go_sem,c1,sub1 hz,A7 (h.pre hp) hj,fun r=>A7 (h.pre (A3 hp r)) hj,hm,c0,e0,ei,A7 (h.pre hp) hi,fun r=>A7 (h.pre (A3 hp r)) hi,h.len,A3 hp _,hp]
    refine Af (Co _ l[i-1].dot l[i].dot) ?_
    cases ho:Bj l[i-1].dot l[i].dot with
    |true=>
     simp +contextual (disch:=omega) only[go_sem,c1,sub1 hz,A7 (h.pre hp) hj,fun r=>A7 (h.pre (A3 hp r)) hj,hm,c0,e0,ei,A7 (h.pre hp) hi,fun r=>A7 (h.pre (A3 hp r)) hi,h.len,A3 hp _,hp]
     exact C4 ha (by rw[hat];simp[h0,h1,h2,h3,hm,ho,Dc])
    |false=>
     simp +contextual (disch:=omega) only[go_sem,c1,sub1 hz,A7 (h.pre hp) hj,fun r=>A7 (h.pre (A3 hp r)) hj,hm,c0,e0,ei,A7 (h.pre hp) hi,fun r=>A7 (h.pre (A3 hp r)) hi,h.len,A3 hp _,hp]
     simp[hno (by rw[hat];simp[ho,Dc])]
  ·simp +contextual (disch:=omega) only[go_sem,hm,hv,c0,e0,ei,A7 (h.pre hp) hi,fun r=>A7 (h.pre (A3 hp r)) hi,h.len,A3 hp _,hp]
   rcases Zai i with hz|hz
   ·subst hz
    simp +contextual (disch:=omega) only[go_sem,Zaq,decide_false,Zax,hm,hv,c0,e0,ei,A7 (h.pre hp) hi,fun r=>A7 (h.pre (A3 hp r)) hi,h.len,A3 hp _,hp]
    refine C4 ha (by rw[hat];simp[h0,h1,h2,h3,hm,decide_eq_true hv',upI])
   ·have c1:decide ((0:Int)<i)=true:=by simp;omega
    have hj:i - 1<l.length:=by omega
    have hz':i≠0:=by omega
    simp only[Jh hz' hi hj] at hat
    simp +contextual (disch:=omega) only[go_sem,c1,sub1 hz,A7 (h.pre hp) hj,fun r=>A7 (h.pre (A3 hp r)) hj,hm,hv,c0,e0,ei,A7 (h.pre hp) hi,fun r=>A7 (h.pre (A3 hp r)) hi,h.len,A3 hp _,hp]
    refine Af (Co _ l[i-1].dot l[i].dot) ?_
    cases ho:Bj l[i-1].dot l[i].dot with
    |true=>
     simp +contextual (disch:=omega) only[go_sem,c1,sub1 hz,A7 (h.pre hp) hj,fun r=>A7 (h.pre (A3 hp r)) hj,hm,hv,c0,e0,ei,A7 (h.pre hp) hi,fun r=>A7 (h.pre (A3 hp r)) hi,h.len,A3 hp _,hp]
     exact C4 ha (by rw[hat];simp[h0,h1,h2,h3,hm,decide_eq_true hv',ho,Dc])
    |false=>
     simp +contextual (disch:=omega) only[go_sem,c1,sub1 hz,A7 (h.pre hp) hj,fun r=>A7 (h.pre (A3 hp r)) hj,hm,hv,c0,e0,ei,A7 (h.pre hp) hi,fun r=>A7 (h.pre (A3 hp r)) hi,h.len,A3 hp _,hp]
     simp[hno (by rw[hat];simp[ho,Dc])]
 ·rintro env τ ei c0 ⟨e0,ha,hp⟩
  simp +contextual (disch:=omega) only[go_sem,c0,e0,ei,h.len,hp]
  simp only[A53,E7 ha,Za1]
  exact A0a
theorem Pc (σ:St) (v:GV) (l:List Live) (h:RS As.kd σ v l) (u:GV) (k:List Int) (hk:RS pI.kd σ u k) (hlk:k.length<=1099511627776) (hl:l.length<=1099511627776) (hsz:∀ x∈l,x.obj.size<=1099511627776/\x.key.size<=1099511627776):Ret Tryz.prog Vz [v,u] σ (.bool (Ig l k)) σ:=by
 refine Ar A55 (Z0z rfl) trivial ?_
 simp +contextual (disch:=omega) only[go_sem,W0,h.len]
 refine Ce l.length 9 (fun i env τ=>env 0=v/\env 1=u/\env 7=v/\env 8=gi l.length/\(∀ j,j<i->livP l k j=true)/\σ <+: τ) rfl ⟨rfl,rfl,rfl,rfl,fun j hj=>by omega,Zac _⟩ ?_ ?_
 ·rintro i env τ hi ei c0 ⟨e0,e1,e7,e8,ha,hp⟩
  have hno:livP l k i=false->Ig l k=false:=fun hh=>by simp[Ig,G9 hi hh]
  have hat:livP l k i=(Ax k l[i].dot&&((Ct l[i].obj&&(Ct l[i].key&&(inB l[i].val 0 999999&&(l[i].map||decide (l[i].val=0)))))&&upI Dc l i)):=by simp only[livP,liv1,Bn hi]
  simp +contextual (disch:=omega) only[go_sem,c0,e0,e1,e7,e8,ei,A7 (h.pre hp) hi,fun r=>A7 (h.pre (A3 hp r)) hi,h.len,A3 hp _,hp]
  refine Ac (G8 _ u k l[i].dot (hk.pre (A3 hp _)) hlk) (fun h0=> ?_) (fun h0=> ?_)
  rotate_left
  ·simp +contextual (disch:=omega) only[go_sem,c0,e0,e1,e7,e8,ei,A7 (h.pre hp) hi,fun r=>A7 (h.pre (A3 hp r)) hi,h.len,A3 hp _,hp]
   simp[hno (by rw[hat];simp[h0])]
  simp +contextual (disch:=omega) only[go_sem,c0,e0,e1,e7,e8,ei,A7 (h.pre hp) hi,fun r=>A7 (h.pre (A3 hp r)) hi,h.len,A3 hp _,hp]
  refine Ac (Dx _ l[i].obj (hsz _ (Zag hi)).1) (fun h1=> ?_) (fun h1=> ?_)
  rotate_left
  ·simp +contextual (disch:=omega) only[go_sem,c0,e0,e1,e7,e8,ei,A7 (h.pre hp) hi,fun r=>A7 (h.pre (A3 hp r)) hi,h.len,A3 hp _,hp]
   simp[hno (by rw[hat];simp[h1])]
  simp +contextual (disch:=omega) only[go_sem,c0,e0,e1,e7,e8,ei,A7 (h.pre hp) hi,fun r=>A7 (h.pre (A3 hp r)) hi,h.len,A3 hp _,hp]
  refine Ac (Dx _ l[i].key (hsz _ (Zag hi)).2) (fun h2=> ?_) (fun h2=> ?_)
  rotate_left
  ·simp +contextual (disch:=omega) only[go_sem,c0,e0,e1,e7,e8,ei,A7 (h.pre hp) hi,fun r=>A7 (h.pre (A3 hp r)) hi,h.len,A3 hp _,hp]
   simp[hno (by rw[hat];simp[h2])]
  simp +contextual (disch:=omega) only[go_sem,c0,e0,e1,e7,e8,ei,A7 (h.pre hp) hi,fun r=>A7 (h.pre (A3 hp r)) hi,h.len,A3 hp _,hp]
  refine Ac (Ba _ _ _ _) (fun h3=> ?_) (fun h3=> ?_)
  rotate_left
  ·simp +contextual (disch:=omega) only[go_sem,c0,e0,e1,e7,e8,ei,A7 (h.pre hp) hi,fun r=>A7 (h.pre (A3 hp r)) hi,h.len,A3 hp _,hp]
   simp[hno (by rw[hat];simp[h3])]
  simp +contextual (disch:=omega) only[go_sem,c0,e0,e1,e7,e8,ei,A7 (h.pre hp) hi,fun r=>A7 (h.pre (A3 hp r)) hi,h.len,A3 hp _,hp]
  rcases Aa8 l[i].map l[i].val with hm|⟨hm,hv,hv'⟩|⟨hm,hv,hv'⟩
  rotate_left 2
  ·simp +contextual (disch:=omega) only[go_sem,hm,hv,c0,e0,e1,e7,e8,ei,A7 (h.pre hp) hi,fun r=>A7 (h.pre (A3 hp r)) hi,h.len,A3 hp _,hp]
   simp[hno (by rw[hat];simp[hm,hv'])]
  ·simp +contextual (disch:=omega) only[go_sem,hm,c0,e0,e1,e7,e8,ei,A7 (h.pre hp) hi,fun r=>A7 (h.pre (A3 hp r)) hi,h.len,A3 hp _,hp]
   rcases Zai i with hz|hz
   ·subst hz
    simp +contextual (disch:=omega) only[go_sem,Zaq,decide_false,Zax,hm,c0,e0,e1,e7,e8,ei,A7 (h.pre hp) hi,fun r=>A7 (h.pre (A3 hp r)) hi,h.len,A3 hp _,hp]
    refine C4 ha (by rw[hat];simp[h0,h1,h2,h3,hm,upI])
   ·have c1:decide ((0:Int)<i)=true:=by simp;omega
    have hj:i - 1<l.length:=by omega
    have hz':i≠0:=by omega
    simp only[Jh hz' hi hj] at hat
    simp +contextual (disch:=omega) only[go_sem,c1,sub1 hz,A7 (h.pre hp) hj,fun r=>A7 (h.pre (A3 hp r)) hj,hm,c0,e0,e1,e7,e8,ei,A7 (h.pre hp) hi,fun r=>A7 (h.pre (A3 hp r)) hi,h.len,A3 hp _,hp]
    refine Af (Dd _ l[i-1].dot l[i].dot) ?_
    simp +contextual (disch:=omega) only[go_sem,Lq,c1,sub1 hz,A7 (h.pre hp) hj,fun r=>A7 (h.pre (A3 hp r)) hj,hm,c0,e0,e1,e7,e8,ei,A7 (h.pre hp) hi,fun r=>A7 (h.pre (A3 hp r)) hi,h.len,A3 hp _,hp]
    cases ho:Bj l[i-1].dot l[i].dot with
    |true=>
     simp +contextual (disch:=omega) only[go_sem,c1,sub1 hz,A7 (h.pre hp) hj,fun r=>A7 (h.pre (A3 hp r)) hj,hm,c0,e0,e1,e7,e8,ei,A7 (h.pre hp) hi,fun r=>A7 (h.pre (A3 hp r)) hi,h.len,A3 hp _,hp]
     exact C4 ha (by rw[hat];simp[h0,h1,h2,h3,hm,ho,Dc])
    |false=>
     simp +contextual (disch:=omega) only[go_sem,c1,sub1 hz,A7 (h.pre hp) hj,fun r=>A7 (h.pre (A3 hp r)) hj,hm,c0,e0,e1,e7,e8,ei,A7 (h.pre hp) hi,fun r=>A7 (h.pre (A3 hp r)) hi,h.len,A3 hp _,hp]
     simp[hno (by rw[hat];simp[ho,Dc])]
  ·simp +contextual (disch:=omega) only[go_sem,hm,hv,c0,e0,e1,e7,e8,ei,A7 (h.pre hp) hi,fun r=>A7 (h.pre (A3 hp r)) hi,h.len,A3 hp _,hp]
   rcases Zai i with hz|hz
   ·subst hz
    simp +contextual (disch:=omega) only[go_sem,Zaq,decide_false,Zax,hm,hv,c0,e0,e1,e7,e8,ei,A7 (h.pre hp) hi,fun r=>A7 (h.pre (A3 hp r)) hi,h.len,A3 hp _,hp]
    refine C4 ha (by rw[hat];simp[h0,h1,h2,h3,hm,decide_eq_true hv',upI])
   ·have c1:decide ((0:Int)<i)=true:=by simp;omega
    have hj:i - 1<l.length:=by omega
    have hz':i≠0:=by omega
    simp only[Jh hz' hi hj] at hat
    simp +contextual (disch:=omega) only[go_sem,c1,sub1 hz,A7 (h.pre hp) hj,fun r=>A7 (h.pre (A3 hp r)) hj,hm,hv,c0,e0,e1,e7,e8,ei,A7 (h.pre hp) hi,fun r=>A7 (h.pre (A3 hp r)) hi,h.len,A3 hp _,hp]
    refine Af (Dd _ l[i-1].dot l[i].dot) ?_
    simp +contextual (disch:=omega) only[go_sem,Lq,c1,sub1 hz,A7 (h.pre hp) hj,fun r=>A7 (h.pre (A3 hp r)) hj,hm,hv,c0,e0,e1,e7,e8,ei,A7 (h.pre hp) hi,fun r=>A7 (h.pre (A3 hp r)) hi,h.len,A3 hp _,hp]
    cases ho:Bj l[i-1].dot l[i].dot with
    |true=>
     simp +contextual (disch:=omega) only[go_sem,c1,sub1 hz,A7 (h.pre hp) hj,fun r=>A7 (h.pre (A3 hp r)) hj,hm,hv,c0,e0,e1,e7,e8,ei,A7 (h.pre hp) hi,fun r=>A7 (h.pre (A3 hp r)) hi,h.len,A3 hp _,hp]
     exact C4 ha (by rw[hat];simp[h0,h1,h2,h3,hm,decide_eq_true hv',ho,Dc])
    |false=>
     simp +contextual (disch:=omega) only[go_sem,c1,sub1 hz,A7 (h.pre hp) hj,fun r=>A7 (h.pre (A3 hp r)) hj,hm,hv,c0,e0,e1,e7,e8,ei,A7 (h.pre hp) hi,fun r=>A7 (h.pre (A3 hp r)) hi,h.len,A3 hp _,hp]
     simp[hno (by rw[hat];simp[ho,Dc])]
 ·rintro env τ ei c0 ⟨e0,e1,e7,e8,ha,hp⟩
  simp +contextual (disch:=omega) only[go_sem,c0,e0,e1,e7,e8,ei,h.len,hp]
  simp only[Ig,E7 ha,Za1]
  exact A0a
theorem Nb (σ:St) (v:GV) (l:List Cell) (h:RS Ag.kd σ v l) (hl:l.length<=1099511627776) (hsz:∀ x∈l,x.obj.size<=1099511627776):Ret Tryz.prog T2 [v] σ (.bool (A54 l)) σ:=by
 refine Ar A2j (Z0z rfl) trivial ?_
 simp +contextual (disch:=omega) only[go_sem,T3,h.len]
 refine Ce l.length 3 (fun i env τ=>env 0=v/\(∀ j,j<i->A83 l j=true)/\σ <+: τ) rfl ⟨rfl,fun j hj=>by omega,Zac _⟩ ?_ ?_
 ·rintro i env τ hi ei c0 ⟨e0,ha,hp⟩
  have hno:A83 l i=false->A54 l=false:=fun hh=>by simp[A54,G9 hi hh]
  have hat:A83 l i=(G7 l[i].dot&&((Ct l[i].obj&&(inB l[i].val 0 999999&&inB l[i].time 1 10000))&&((decide (l[i].ref=⟨0,0⟩)||G7 l[i].ref)&&upI Dq l i))):=by simp only[A83,cel1,refD,Bn hi]
  simp +contextual (disch:=omega) only[go_sem,c0,e0,ei,A8 (h.pre hp) hi,fun r=>A8 (h.pre (A3 hp r)) hi,h.len,A3 hp _,hp]
  refine Ac (Et _ l[i].dot) (fun h0=> ?_) (fun h0=> ?_)
  rotate_left
  ·simp +contextual (disch:=omega) only[go_sem,c0,e0,ei,A8 (h.pre hp) hi,fun r=>A8 (h.pre (A3 hp r)) hi,h.len,A3 hp _,hp]
   simp[hno (by rw[hat];simp[h0])]
  simp +contextual (disch:=omega) only[go_sem,c0,e0,ei,A8 (h.pre hp) hi,fun r=>A8 (h.pre (A3 hp r)) hi,h.len,A3 hp _,hp]
  refine Ac (F2 _ l[i].obj (hsz _ (Zag hi))) (fun h1=> ?_) (fun h1=> ?_)
  rotate_left
  ·simp +contextual (disch:=omega) only[go_sem,c0,e0,ei,A8 (h.pre hp) hi,fun r=>A8 (h.pre (A3 hp r)) hi,h.len,A3 hp _,hp]
   simp[hno (by rw[hat];simp[h1])]
  simp +contextual (disch:=omega) only[go_sem,c0,e0,ei,A8 (h.pre hp) hi,fun r=>A8 (h.pre (A3 hp r)) hi,h.len,A3 hp _,hp]
  refine Ac (B6 _ _ _ _) (fun h2=> ?_) (fun h2=> ?_)
  rotate_left
  ·simp +contextual (disch:=omega) only[go_sem,c0,e0,ei,A8 (h.pre hp) hi,fun r=>A8 (h.pre (A3 hp r)) hi,h.len,A3 hp _,hp]
   simp[hno (by rw[hat];simp[h2])]
  simp +contextual (disch:=omega) only[go_sem,c0,e0,ei,A8 (h.pre hp) hi,fun r=>A8 (h.pre (A3 hp r)) hi,h.len,A3 hp _,hp]
  refine Ac (B6 _ _ _ _) (fun h3=> ?_) (fun h3=> ?_)
  rotate_left
  ·simp +contextual (disch:=omega) only[go_sem,c0,e0,ei,A8 (h.pre hp) hi,fun r=>A8 (h.pre (A3 hp r)) hi,h.len,A3 hp _,hp]
   simp[hno (by rw[hat];simp[h3])]
  simp +contextual (disch:=omega) only[go_sem,c0,e0,ei,A8 (h.pre hp) hi,fun r=>A8 (h.pre (A3 hp r)) hi,h.len,A3 hp _,hp]
  by_cases hr:l[i].ref=⟨0,0⟩
  ·have hrd:=decide_eq_true hr
   simp +contextual (disch:=omega) only[go_sem,hrd,c0,e0,ei,A8 (h.pre hp) hi,fun r=>A8 (h.pre (A3 hp r)) hi,h.len,A3 hp _,hp]
   rcases Zai i with hz|hz
   ·subst hz
    simp +contextual (disch:=omega) only[go_sem,Zaq,decide_false,Zax,hrd,c0,e0,ei,A8 (h.pre hp) hi,fun r=>A8 (h.pre (A3 hp r)) hi,h.len,A3 hp _,hp]
    refine C4 ha (by rw[hat];simp[h0,h1,h2,h3,hrd,upI])
   ·have c1:decide ((0:Int)<i)=true:=by simp;omega
    have hj:i - 1<l.length:=by omega
    have hz':i≠0:=by omega
    simp only[Jh hz' hi hj] at hat
    simp +contextual (disch:=omega) only[go_sem,c1,sub1 hz,A8 (h.pre hp) hj,fun r=>A8 (h.pre (A3 hp r)) hj,hrd,c0,e0,ei,A8 (h.pre hp) hi,fun r=>A8 (h.pre (A3 hp r)) hi,h.len,A3 hp _,hp]
    refine Af (Co _ l[i-1].dot l[i].dot) ?_
    cases ho:Bj l[i-1].dot l[i].dot with
    |true=>
     simp +contextual (disch:=omega) only[go_sem,c1,sub1 hz,A8 (h.pre hp) hj,fun r=>A8 (h.pre (A3 hp r)) hj,hrd,c0,e0,ei,A8 (h.pre hp) hi,fun r=>A8 (h.pre (A3 hp r)) hi,h.len,A3 hp _,hp]
     exact C4 ha (by rw[hat];simp[h0,h1,h2,h3,hrd,ho,Dq])
    |false=>
     simp +contextual (disch:=omega) only[go_sem,c1,sub1 hz,A8 (h.pre hp) hj,fun r=>A8 (h.pre (A3 hp r)) hj,hrd,c0,e0,ei,A8 (h.pre hp) hi,fun r=>A8 (h.pre (A3 hp r)) hi,h.len,A3 hp _,hp]
     simp[hno (by rw[hat];simp[ho,Dq])]
  ·have hrd:=decide_eq_false hr
   simp +contextual (disch:=omega) only[go_sem,hrd,c0,e0,ei,A8 (h.pre hp) hi,fun r=>A8 (h.pre (A3 hp r)) hi,h.len,A3 hp _,hp]
   refine Ac (Et _ l[i].ref) (fun hq=> ?_) (fun hq=> ?_)
   rotate_left
   ·simp +contextual (disch:=omega) only[go_sem,hrd,c0,e0,ei,A8 (h.pre hp) hi,fun r=>A8 (h.pre (A3 hp r)) hi,h.len,A3 hp _,hp]
    simp[hno (by rw[hat];simp[hrd,hq])]
   simp +contextual (disch:=omega) only[go_sem,hrd,c0,e0,ei,A8 (h.pre hp) hi,fun r=>A8 (h.pre (A3 hp r)) hi,h.len,A3 hp _,hp]
   rcases Zai i with hz|hz
   ·subst hz
    simp +contextual (disch:=omega) only[go_sem,Zaq,decide_false,Zax,hrd,c0,e0,ei,A8 (h.pre hp) hi,fun r=>A8 (h.pre (A3 hp r)) hi,h.len,A3 hp _,hp]
    refine C4 ha (by rw[hat];simp[h0,h1,h2,h3,hrd,hq,upI])
   ·have c1:decide ((0:Int)<i)=true:=by simp;omega
    have hj:i - 1<l.length:=by omega
    have hz':i≠0:=by omega
    simp only[Jh hz' hi hj] at hat
    simp +contextual (disch:=omega) only[go_sem,c1,sub1 hz,A8 (h.pre hp) hj,fun r=>A8 (h.pre (A3 hp r)) hj,hrd,c0,e0,ei,A8 (h.pre hp) hi,fun r=>A8 (h.pre (A3 hp r)) hi,h.len,A3 hp _,hp]
    refine Af (Co _ l[i-1].dot l[i].dot) ?_
    cases ho:Bj l[i-1].dot l[i].dot with
    |true=>
     simp +contextual (disch:=omega) only[go_sem,c1,sub1 hz,A8 (h.pre hp) hj,fun r=>A8 (h.pre (A3 hp r)) hj,hrd,c0,e0,ei,A8 (h.pre hp) hi,fun r=>A8 (h.pre (A3 hp r)) hi,h.len,A3 hp _,hp]
     exact C4 ha (by rw[hat];simp[h0,h1,h2,h3,hrd,hq,ho,Dq])
    |false=>
     simp +contextual (disch:=omega) only[go_sem,c1,sub1 hz,A8 (h.pre hp) hj,fun r=>A8 (h.pre (A3 hp r)) hj,hrd,c0,e0,ei,A8 (h.pre hp) hi,fun r=>A8 (h.pre (A3 hp r)) hi,h.len,A3 hp _,hp]
     simp[hno (by rw[hat];simp[ho,Dq])]
 ·rintro env τ ei c0 ⟨e0,ha,hp⟩
  simp +contextual (disch:=omega) only[go_sem,c0,e0,ei,h.len,hp]
  simp only[A54,E7 ha,Za1]
  exact A0a
theorem Pd (σ:St) (v:GV) (l:List Cell) (h:RS Ag.kd σ v l) (u:GV) (k:List Int) (hk:RS pI.kd σ u k) (hlk:k.length<=1099511627776) (hl:l.length<=1099511627776) (hsz:∀ x∈l,x.obj.size<=1099511627776):Ret Tryz.prog W1 [v,u] σ (.bool (Gv l k)) σ:=by
 refine Ar A56 (Z0z rfl) trivial ?_
 simp +contextual (disch:=omega) only[go_sem,W3,h.len]
 refine Ce l.length 9 (fun i env τ=>env 0=v/\env 1=u/\env 7=v/\env 8=gi l.length/\(∀ j,j<i->celP l k j=true)/\σ <+: τ) rfl ⟨rfl,rfl,rfl,rfl,fun j hj=>by omega,Zac _⟩ ?_ ?_
 ·rintro i env τ hi ei c0 ⟨e0,e1,e7,e8,ha,hp⟩
  have hno:celP l k i=false->Gv l k=false:=fun hh=>by simp[Gv,G9 hi hh]
  have hat:celP l k i=(Ax k l[i].dot&&((Ct l[i].obj&&(inB l[i].val 0 999999&&inB l[i].time 1 10000))&&upI Dq l i)):=by simp only[celP,cel1,Bn hi]
  simp +contextual (disch:=omega) only[go_sem,c0,e0,e1,e7,e8,ei,A8 (h.pre hp) hi,fun r=>A8 (h.pre (A3 hp r)) hi,h.len,A3 hp _,hp]
  refine Ac (G8 _ u k l[i].dot (hk.pre (A3 hp _)) hlk) (fun h0=> ?_) (fun h0=> ?_)
  rotate_left
  ·simp +contextual (disch:=omega) only[go_sem,c0,e0,e1,e7,e8,ei,A8 (h.pre hp) hi,fun r=>A8 (h.pre (A3 hp r)) hi,h.len,A3 hp _,hp]
   simp[hno (by rw[hat];simp[h0])]
  simp +contextual (disch:=omega) only[go_sem,c0,e0,e1,e7,e8,ei,A8 (h.pre hp) hi,fun r=>A8 (h.pre (A3 hp r)) hi,h.len,A3 hp _,hp]
  refine Ac (Dx _ l[i].obj (hsz _ (Zag hi))) (fun h1=> ?_) (fun h1=> ?_)
  rotate_left
  ·simp +contextual (disch:=omega) only[go_sem,c0,e0,e1,e7,e8,ei,A8 (h.pre hp) hi,fun r=>A8 (h.pre (A3 hp r)) hi,h.len,A3 hp _,hp]
   simp[hno (by rw[hat];simp[h1])]
  simp +contextual (disch:=omega) only[go_sem,c0,e0,e1,e7,e8,ei,A8 (h.pre hp) hi,fun r=>A8 (h.pre (A3 hp r)) hi,h.len,A3 hp _,hp]
  refine Ac (Ba _ _ _ _) (fun h2=> ?_) (fun h2=> ?_)
  rotate_left
  ·simp +contextual (disch:=omega) only[go_sem,c0,e0,e1,e7,e8,ei,A8 (h.pre hp) hi,fun r=>A8 (h.pre (A3 hp r)) hi,h.len,A3 hp _,hp]
   simp[hno (by rw[hat];simp[h2])]
  simp +contextual (disch:=omega) only[go_sem,c0,e0,e1,e7,e8,ei,A8 (h.pre hp) hi,fun r=>A8 (h.pre (A3 hp r)) hi,h.len,A3 hp _,hp]
  refine Ac (Ba _ _ _ _) (fun h3=> ?_) (fun h3=> ?_)
  rotate_left
  ·simp +contextual (disch:=omega) only[go_sem,c0,e0,e1,e7,e8,ei,A8 (h.pre hp) hi,fun r=>A8 (h.pre (A3 hp r)) hi,h.len,A3 hp _,hp]
   simp[hno (by rw[hat];simp[h3])]
  simp +contextual (disch:=omega) only[go_sem,c0,e0,e1,e7,e8,ei,A8 (h.pre hp) hi,fun r=>A8 (h.pre (A3 hp r)) hi,h.len,A3 hp _,hp]
  rcases Zai i with hz|hz
  ·subst hz
   simp +contextual (disch:=omega) only[go_sem,Zaq,decide_false,Zax,c0,e0,e1,e7,e8,ei,A8 (h.pre hp) hi,fun r=>A8 (h.pre (A3 hp r)) hi,h.len,A3 hp _,hp]
   refine C4 ha (by rw[hat];simp[h0,h1,h2,h3,upI])
  ·have c1:decide ((0:Int)<i)=true:=by simp;omega
   have hj:i - 1<l.length:=by omega
   have hz':i≠0:=by omega
   simp only[Jh hz' hi hj] at hat
   simp +contextual (disch:=omega) only[go_sem,c1,sub1 hz,A8 (h.pre hp) hj,fun r=>A8 (h.pre (A3 hp r)) hj,c0,e0,e1,e7,e8,ei,A8 (h.pre hp) hi,fun r=>A8 (h.pre (A3 hp r)) hi,h.len,A3 hp _,hp]
   refine Af (Dd _ l[i-1].dot l[i].dot) ?_
   simp +contextual (disch:=omega) only[go_sem,Lq,c1,sub1 hz,A8 (h.pre hp) hj,fun r=>A8 (h.pre (A3 hp r)) hj,c0,e0,e1,e7,e8,ei,A8 (h.pre hp) hi,fun r=>A8 (h.pre (A3 hp r)) hi,h.len,A3 hp _,hp]
   cases ho:Bj l[i-1].dot l[i].dot with
   |true=>
    simp +contextual (disch:=omega) only[go_sem,c1,sub1 hz,A8 (h.pre hp) hj,fun r=>A8 (h.pre (A3 hp r)) hj,c0,e0,e1,e7,e8,ei,A8 (h.pre hp) hi,fun r=>A8 (h.pre (A3 hp r)) hi,h.len,A3 hp _,hp]
    exact C4 ha (by rw[hat];simp[h0,h1,h2,h3,ho,Dq])
   |false=>
    simp +contextual (disch:=omega) only[go_sem,c1,sub1 hz,A8 (h.pre hp) hj,fun r=>A8 (h.pre (A3 hp r)) hj,c0,e0,e1,e7,e8,ei,A8 (h.pre hp) hi,fun r=>A8 (h.pre (A3 hp r)) hi,h.len,A3 hp _,hp]
    simp[hno (by rw[hat];simp[ho,Dq])]
 ·rintro env τ ei c0 ⟨e0,e1,e7,e8,ha,hp⟩
  simp +contextual (disch:=omega) only[go_sem,c0,e0,e1,e7,e8,ei,h.len,hp]
  simp only[Gv,E7 ha,Za1]
  exact A0a
abbrev W4:Nat:=165
def W5:Fn1:=⟨2,[.t 0],(rg [o 0 (.mov (.k .nilS))] (rg [o 1 (.mks 1 8 [z0] (ki 3) (ki 3)),oM 0 1] .ret))⟩
theorem A57:A6 Tryz.prog W4=some W5:=by kernel_rfl
abbrev T4:Nat:=182
def T5:Fn1:=⟨6,[.t 2],(rg [o 2 (.mov (.k .nilS))] (rg [o 3 (.lit 1 0 [] []),oM 4 0,o 5 (.app 1 8 [z0] (.t 3) (.t 4)),oM 2 5] .ret))⟩
theorem A2k:A6 Tryz.prog T4=some T5:=by kernel_rfl
abbrev W6:Nat:=181
def W7:Fn1:=⟨43,[.t 4],(rg [o 4 (.mov (.k .nilS))] (rg [o 8 (.lit 1 0 [] []),oM 5 8] (.seq (rg [oM 9 0,oC 10 167 9,oU 11 10,oM 12 11,vM 13 12 1,vC 14 12 167 13,vU 15 12 14,oP 16 12 15] (cn 16 (rg [oM 17 5,oM 4 17] .ret) .skip)) (.seq (rg [oV 6 (ki 0)] (.blk 0 (.lop (.seq (rg [oM 18 6,oM 19 0,oN 20 19,oB 21 .lss 18 20] (cn 21 .skip (.ext 0))) (.seq (.blk 1 (rg [oM 24 0,oM 25 6,oI 26 1 24 25,oL 27 26,oM 7 27] (.seq (rg [oM 28 1,oM 29 6,oI 30 1 28 29,oL 31 30,oM 32 7,oB 33 .gtr 31 32] (cn 33 (.reg [oM 34 1,oM 35 6,oI 36 1 34 35,oL 37 36,oM 7 37]) .skip)) (.reg [oM 38 5,oM 39 7,o 40 (.lit 1 1 [z0] [(0,1,(.t 39))]),o 41 (.app 1 8 [z0] (.t 38) (.t 40)),oM 5 41])))) (.reg [oM 22 6,oZ 23 22 1,oM 6 23])))))) (rg [oM 42 5,oM 4 42] .ret)))))⟩
theorem A58:A6 Tryz.prog W6=some W7:=by kernel_rfl
abbrev A0b:Nat:=178
def A0c:Fn1:=⟨29,[.t 4],(rg [oV 4 kf] (.seq (rg [oM 6 0,oC 7 167 6,oU 8 7,oM 9 8,vM 10 9 1,vC 11 9 167 10,vU 12 9 11,oP 13 9 12] (cn 13 (rg [oV 4 kf] .ret) .skip)) (.seq (rg [oV 5 (ki 0)] (.blk 0 (.lop (.seq (rg [oM 14 5,oM 15 0,oN 16 15,oB 17 .lss 14 16] (cn 17 .skip (.ext 0))) (.seq (.blk 1 (dw [oM 20 0,oM 21 5,oI 22 1 20 21,oL 23 22,oM 24 1,oM 25 5,oI 26 1 24 25,oL 27 26] [oB 28 .gtr 23 27] (cn 28 (rg [oV 4 kf] .ret) .skip))) (.reg [oM 18 5,oZ 19 18 1,oM 5 19])))))) (rg [oV 4 kt] .ret))))⟩
theorem A89:A6 Tryz.prog A0b=some A0c:=by kernel_rfl
abbrev A0d:Nat:=177
def A0e:Fn1:=⟨29,[.t 4],(rg [oV 4 kf] (.seq (rg [oM 7 0,oC 8 176 7,oU 9 8,oM 10 9,vM 11 10 1,vC 12 10 176 11,vU 13 10 12,oP 14 10 13] (cn 14 (rg [oV 4 kf] .ret) .skip)) (.seq (rg [oM 15 0,oN 16 15,oV 17 (ki 0)] (.blk 0 (.lop (rg [oB 18 .lss 17 16] (.seq (cn 18 .skip (.ext 0)) (.seq (.blk 1 (rg [oM 19 17,oI 20 1 15 17,oL 21 20,oM 5 19,oM 6 21] (rg [oM 22 6,oM 23 1,oM 24 5,oI 25 1 23 24,oL 26 25,oB 27 .gtr 22 26] (cn 27 (rg [oV 4 kf] .ret) .skip)))) (.reg [oZ 28 17 1,oM 17 28]))))))) (rg [oV 4 kt] .ret))))⟩
theorem A8a:A6 Tryz.prog A0d=some A0e:=by kernel_rfl
abbrev W8:Nat:=171
def W9:Fn1:=⟨26,[.t 4],(rg [oV 4 kf] (.seq (rg [oM 6 0,oN 7 6,oM 8 1,oN 9 8,oB 10 .neq 7 9] (cn 10 (rg [oV 4 kf] .ret) .skip)) (.seq (rg [oV 5 (ki 0)] (.blk 0 (.lop (.seq (rg [oM 11 5,oM 12 0,oN 13 12,oB 14 .lss 11 13] (cn 14 .skip (.ext 0))) (.seq (.blk 1 (dw [oM 17 0,oM 18 5,oI 19 1 17 18,oL 20 19,oM 21 1,oM 22 5,oI 23 1 21 22,oL 24 23] [oB 25 .neq 20 24] (cn 25 (rg [oV 4 kf] .ret) .skip))) (.reg [oM 15 5,oZ 16 15 1,oM 5 16])))))) (rg [oV 4 kt] .ret))))⟩
theorem A59:A6 Tryz.prog W8=some W9:=by kernel_rfl
abbrev Fy:Nat:=156
def Fz:Fn1:=⟨26,[.t 4],(rg [oV 4 kf] (.seq (rg [oM 6 0,oN 7 6,oM 8 1,oN 9 8,oB 10 .neq 7 9] (cn 10 (rg [oV 4 kf] .ret) .skip)) (.seq (rg [oM 11 0,oN 12 11,oV 13 (ki 0)] (.blk 0 (.lop (rg [oB 14 .lss 13 12] (.seq (cn 14 .skip (.ext 0)) (.seq (.blk 1 (rg [oM 15 13,oM 5 15] (dw [oM 16 0,oM 17 5,oI 18 1 16 17,oL 19 18,oM 20 1,oM 21 5,oI 22 1 20 21,oL 23 22] [oB 24 .neq 19 23] (cn 24 (rg [oV 4 kf] .ret) .skip)))) (.reg [oZ 25 13 1,oM 13 25]))))))) (rg [oV 4 kt] .ret))))⟩
theorem K0:A6 Tryz.prog Fy=some Fz:=by kernel_rfl
theorem A2l (σ:St):∃ r τ,Ret Tryz.prog W4 [] σ r τ/\Hp σ τ [ow pI.kd r [0,0,0]]:=by
 refine A4j (rs:=fun r=>[ow pI.kd r [0,0,0]]) A57 (Z0z rfl) ?_
 have h3:B8 (some (.int .i64 3))=some 3:=rfl
 simp +contextual (disch:=omega) only[go_sem,W5,h3,mks_ok (show 3*8<=140737488355328 by omega)]
 exact⟨_,rfl,((Hp.refl σ).new 1 (reps 3 [gi 0])).toRow 0 (p:=pI) rfl [0,0,0] rfl rfl 3 rfl⟩
theorem Z9 (σ:St) (v:GV) (l:List Int) (h:RS pI.kd σ v l) (hl:l.length<=1099511627776):∃ r τ,Ret Tryz.prog T4 [v] σ r τ/\Hp σ τ [ow pI.kd r l]:=by
 refine A4j (rs:=fun r=>[ow pI.kd r l]) A2k (Z0z rfl) ?_
 obtain⟨v',τ',e,H⟩:=(Hp.refl σ).nil_int.apps_int 0 rfl (h.pre (pre1 _ _)) (by simp;omega)
 simp +contextual (disch:=omega) only[go_sem,T5,e]
 exact⟨_,rfl,H⟩
def zipK (f:Int->Int->Int) (a b:List Int):List Int:=if okK a&&okK b then Zbf f a b else[]
def mx (x y:Int):Int:=if y>x then y else x
def kMax (a b:List Int):List Int:=zipK mx a b
theorem Af3 (f:Int->Int->Int) (a b:List Int):(zipK f a b).length<=3:=by
 unfold zipK
 split
 ·rename_i h
  simp only[Zaa] at h
  have:=Cw h.1
  simp;omega
 ·simp
theorem Ahq {f:Int->Int->Int} {a b:List Int} (ha:okK a=true) (hb:okK b=true):zipK f a b=Zbf f a b:=by simp[zipK,ha,hb]
theorem Af4 {f:Int->Int->Int} {a b:List Int} {i:Nat} (hi:i<a.length) (hj:i<b.length):(Zbf f a b).take (i+1)=(Zbf f a b).take i++[f a[i] b[i]]:=by
 rw[Ap (by simp;omega),List.getElem_zipWith]
theorem A2m (σ:St) (v u:GV) (a b:List Int) (ha:RS pI.kd σ v a) (hb:RS pI.kd σ u b) (hla:a.length<=1099511627776) (hlb:b.length<=1099511627776):∃ r τ,Ret Tryz.prog W6 [v,u] σ r τ/\Hp σ τ [ow pI.kd r (kMax a b)]:=by
 refine A4j (rs:=fun r=>[ow pI.kd r (kMax a b)]) A58 (Z0z rfl) ?_
 have H:=(Hp.refl σ).nil_int
 simp +contextual (disch:=omega) only[go_sem,W7]
 refine Ac (Dy _ v a (ha.pre H.sub) hla) (fun h1=> ?_) (fun h1=> ?_)
 ·simp +contextual (disch:=omega) only[go_sem]
  refine Ac (Dy _ u b (hb.pre H.sub) hlb) (fun h2=> ?_) (fun h2=> ?_)
  ·have hk:kMax a b=Zbf mx a b:=Ahq h1 h2
   have la:=Cw h1
   have lb:=Cw h2
   simp +contextual (disch:=omega) only[go_sem]
   refine Ce a.length 6 (fun i env τ=>env 0=v/\env 1=u/\Hp σ τ [ow pI.kd (env 5) ((kMax a b).take i)]) rfl ⟨rfl,rfl,H⟩ ?_ ?_
   ·rintro i env τ hi e6 c0 ⟨e0,e1,H⟩
    have hj:i<b.length:=by omega
    obtain⟨v',τ',e,H'⟩:=H.app_int 0 rfl (mx a[i] b[i]) (by rw[hk];simp;omega)
    rw[hk,<-Af4 hi hj,<-hk] at H'
    by_cases hc:b[i]>a[i]
    ·have hm:mx a[i] b[i]=b[i]:=if_pos hc
     have hd:decide (a[i]<b[i])=true:=decide_eq_true hc
     rw[hm] at e
     simp +contextual (disch:=omega) only[go_sem,c0,e0,e1,e6,ha.len,Cc (ha.pre H.sub) hi,Cc (hb.pre H.sub) hj,hd,e]
     exact H'
    ·have hm:mx a[i] b[i]=a[i]:=if_neg hc
     have hd:decide (a[i]<b[i])=false:=decide_eq_false hc
     rw[hm] at e
     simp +contextual (disch:=omega) only[go_sem,c0,e0,e1,e6,ha.len,Cc (ha.pre H.sub) hi,Cc (hb.pre H.sub) hj,hd,e]
     exact H'
   ·rintro env τ e6 c0 ⟨e0,e1,H⟩
    rw[Zbk (by rw[hk];simp;omega)] at H
    simp +contextual (disch:=omega) only[go_sem,c0,e0,e1,e6,ha.len]
    exact⟨_,rfl,H⟩
  ·simp +contextual (disch:=omega) only[go_sem]
   exact⟨_,rfl,by simpa [kMax,zipK,h1,h2] using H⟩
 ·simp +contextual (disch:=omega) only[go_sem]
  exact⟨_,rfl,by simpa [kMax,zipK,h1] using H⟩
def kLe:List Int->List Int->Bool
 |x::xs,y::ys=>decide (x<=y)&&kLe xs ys
 |_,_=>true
theorem Aa9 {a b:List Int} {i:Nat} (hi:i<a.length) (hj:i<b.length):kLe (a.drop i) (b.drop i)=(decide (a[i]<=b[i])&&kLe (a.drop (i+1)) (b.drop (i+1))):=by
 rw[Zak hi,Zak hj];rfl
def Gn (a b:List Int):Bool:=okK a&&(okK b&&kLe a b)
theorem T6 (σ:St) (v u:GV) (a b:List Int) (ha:RS pI.kd σ v a) (hb:RS pI.kd σ u b) (hla:a.length<=1099511627776) (hlb:b.length<=1099511627776):Ret Tryz.prog A0b [v,u] σ (.bool (Gn a b)) σ:=by
 refine Ar A89 (Z0z rfl) trivial ?_
 simp +contextual (disch:=omega) only[go_sem,A0c]
 refine Ac (Dy _ v a ha hla) (fun h1=> ?_) (fun h1=> ?_)
 ·simp +contextual (disch:=omega) only[go_sem]
  refine Ac (Dy _ u b hb hlb) (fun h2=> ?_) (fun h2=> ?_)
  ·have la:=Cw h1
   have lb:=Cw h2
   simp +contextual (disch:=omega) only[go_sem,Gn,h1,h2]
   refine Ce a.length 5 (fun i env τ=>env 0=v/\env 1=u/\kLe (a.drop i) (b.drop i)=kLe a b/\σ <+: τ) rfl ⟨rfl,rfl,rfl,Zac _⟩ ?_ ?_
   ·rintro i env τ hi e5 c0 ⟨e0,e1,hk,hp⟩
    have hj:i<b.length:=by omega
    rw[Aa9 hi hj] at hk
    simp +contextual (disch:=omega) only[go_sem,c0,e0,e1,e5,ha.len,Cc (ha.pre hp) hi,Cc (hb.pre hp) hj,hp]
    grind
   ·rintro env τ e5 c0 ⟨e0,e1,hk,hp⟩
    rw[Zbi] at hk
    simp +contextual (disch:=omega) only[go_sem,c0,e0,e1,e5,ha.len,hp]
    rw[<- hk];rfl
  ·simp +contextual (disch:=omega) only[go_sem,Gn,h1,h2]
 ·simp +contextual (disch:=omega) only[go_sem,Gn,h1]
theorem A5a (σ:St) (v u:GV) (a b:List Int) (ha:RS pI.kd σ v a) (hb:RS pI.kd σ u b) (hla:a.length<=1099511627776) (hlb:b.length<=1099511627776):Ret Tryz.prog A0d [v,u] σ (.bool (Gn a b)) σ:=by
 refine Ar A8a (Z0z rfl) trivial ?_
 simp +contextual (disch:=omega) only[go_sem,A0e]
 refine Ac (Gm _ v a ha hla) (fun h1=> ?_) (fun h1=> ?_)
 ·simp +contextual (disch:=omega) only[go_sem]
  refine Ac (Gm _ u b hb hlb) (fun h2=> ?_) (fun h2=> ?_)
  ·have la:=Cw h1
   have lb:=Cw h2
   simp +contextual (disch:=omega) only[go_sem,Gn,h1,h2,ha.len]
   refine Ce a.length 17 (fun i env τ=>env 1=u/\env 15=v/\env 16=gi a.length/\kLe (a.drop i) (b.drop i)=kLe a b/\σ <+: τ) rfl ⟨rfl,rfl,rfl,rfl,Zac _⟩ ?_ ?_
   ·rintro i env τ hi e17 c0 ⟨e1,e15,e16,hk,hp⟩
    have hj:i<b.length:=by omega
    rw[Aa9 hi hj] at hk
    simp +contextual (disch:=omega) only[go_sem,c0,e1,e15,e16,e17,Cc (ha.pre hp) hi,Cc (hb.pre hp) hj,hp]
    grind
   ·rintro env τ e17 c0 ⟨e1,e15,e16,hk,hp⟩
    rw[Zbi] at hk
    simp +contextual (disch:=omega) only[go_sem,c0,e1,e15,e16,e17,hp]
    rw[<- hk];rfl
  ·simp +contextual (disch:=omega) only[go_sem,Gn,h1,h2]
 ·simp +contextual (disch:=omega) only[go_sem,Gn,h1]
theorem Rb (σ:St) (v u:GV) (a b:List Int) (ha:RS pI.kd σ v a) (hb:RS pI.kd σ u b) (hla:a.length<=1099511627776):Ret Tryz.prog W8 [v,u] σ (.bool (decide (a=b))) σ:=by
 refine Ar A59 (Z0z rfl) trivial ?_
 simp +contextual (disch:=omega) only[go_sem,W9,ha.len,hb.len]
 refine⟨fun hn=> ?_,fun hn=> ?_⟩
 ·have:a≠b:=fun h=>by subst h;simp at hn
  simp[this]
 ·have hlm:a.length=b.length:=by
                     have h2:(a.length:Int)=b.length:=by simpa using hn
                     omega
  refine Ce a.length 5 (fun i env τ=>env 0=v/\env 1=u/\a.take i=b.take i/\σ <+: τ) rfl ⟨rfl,rfl,rfl,Zac _⟩ ?_ ?_
  ·rintro i env τ hi e5 c0 ⟨e0,e1,he,hp⟩
   have hj:i<b.length:=by omega
   have hne:a[i]≠b[i]->a≠b:=fun h h'=>h (by subst h';rfl)
   have hst:a[i]=b[i]->a.take (i+1)=b.take (i+1):=fun h=>by rw[Ap hi,Ap hj,he,h]
   simp +contextual (disch:=omega) only[go_sem,c0,e0,e1,e5,ha.len,hb.len,Cc (ha.pre hp) hi,Cc (hb.pre hp) hj,hp]
   refine⟨fun h=> ?_,fun h=> ?_⟩
   ·simp[hne (by simpa using h)]
   ·simpa using hst (by simpa using h)
  ·rintro env τ e5 c0 ⟨e0,e1,he,hp⟩
   rw[Zaf,hlm,Zaf] at he
   simp +contextual (disch:=omega) only[go_sem,c0,e0,e1,e5,ha.len,hb.len,hp]
   simp[he]
theorem Ec (σ:St) (v u:GV) (a b:List Int) (ha:RS pI.kd σ v a) (hb:RS pI.kd σ u b) (hla:a.length<=1099511627776):Ret Tryz.prog Fy [v,u] σ (.bool (decide (a=b))) σ:=by
 refine Ar K0 (Z0z rfl) trivial ?_
 simp +contextual (disch:=omega) only[go_sem,Fz,ha.len,hb.len]
 refine⟨fun hn=> ?_,fun hn=> ?_⟩
 ·have:a≠b:=fun h=>by subst h;simp at hn
  simp[this]
 ·have hlm:a.length=b.length:=by
                     have h2:(a.length:Int)=b.length:=by simpa using hn
                     omega
  refine Ce a.length 13 (fun i env τ=>env 0=v/\env 1=u/\env 12=gi a.length/\a.take i=b.take i/\σ <+: τ) rfl ⟨rfl,rfl,rfl,rfl,Zac _⟩ ?_ ?_
  ·rintro i env τ hi e13 c0 ⟨e0,e1,e12,he,hp⟩
   have hj:i<b.length:=by omega
   have hne:a[i]≠b[i]->a≠b:=fun h h'=>h (by subst h';rfl)
   have hst:a[i]=b[i]->a.take (i+1)=b.take (i+1):=fun h=>by rw[Ap hi,Ap hj,he,h]
   simp +contextual (disch:=omega) only[go_sem,c0,e0,e1,e12,e13,Cc (ha.pre hp) hi,Cc (hb.pre hp) hj,hp]
   refine⟨fun h=> ?_,fun h=> ?_⟩
   ·simp[hne (by simpa using h)]
   ·simpa using hst (by simpa using h)
  ·rintro env τ e13 c0 ⟨e0,e1,e12,he,hp⟩
   rw[Zaf,hlm,Zaf] at he
   simp +contextual (disch:=omega) only[go_sem,c0,e0,e1,e12,e13,hp]
   simp[he]
abbrev Rc:Nat:=146
def A0f:Fn1:=⟨22,[.t 4],(rg [oX 2 0,oX 3 1,oV 4 (ki 0)] (.seq (rg [oV 5 (ki 0)] (.blk 0 (.lop (.seq (rg [oM 6 5,oF 7 3 2,oL 8 7,oN 9 8,oB 10 .lss 6 9] (cn 10 .skip (.ext 0))) (.seq (.blk 1 (dw [oF 13 3 2,oL 14 13,oM 15 5,oI 16 8 14 15,oF 17 1 16,oW 18 2 17,oW 19 2 3] [o 20 (.eqs false [.i .i64,.i .i64] (.t 18) (.t 19))] (cn 20 (rg [oM 21 5,oM 4 21] .ret) .skip))) (.reg [oM 11 5,oZ 12 11 1,oM 5 12])))))) (rg [o 4 (.mov (ki (-1)))] .ret)))⟩
theorem A8b:A6 Tryz.prog Rc=some A0f:=by kernel_rfl
abbrev Re:Nat:=158
def A0g:Fn1:=⟨9,[.t 4],(rg [oX 2 0,oX 3 1,oV 4 (ki 0)] (rg [oF 5 3 2,oL 6 5,o 7 (.mkf 265 [(.t 3)]),oD 8 263 6 7,oM 4 8] .ret))⟩
theorem A8c:A6 Tryz.prog Re=some A0g:=by kernel_rfl
abbrev Ka:Nat:=265
def Pe:Fn1:=⟨8,[.t 3],(rg [oX 2 0,oV 3 kf] (rg [oF 4 1 2,oW 5 2 4,oW 6 2 1,o 7 (.eqs false [.i .i64,.i .i64] (.t 5) (.t 6)),oM 3 7] .ret))⟩
theorem Za:A6 Tryz.prog Ka=some Pe:=by kernel_rfl
abbrev Cg:Nat:=263
def Ch:Fn1:=⟨19,[.t 4],(rg [oV 4 (ki 0)] (.seq (rg [oM 6 0,oN 7 6,oV 8 (ki 0)] (.blk 0 (.lop (rg [oB 9 .lss 8 7] (.seq (cn 9 .skip (.ext 0)) (.seq (.blk 1 (rg [oM 10 8,oM 5 10] (rg [oM 11 1,oM 12 0,oM 13 5,oI 14 8 12 13,oW 15 8 14,o 16 (.callv (.t 11) [(.t 15)])] (cn 16 (rg [oM 17 5,oM 4 17] .ret) .skip)))) (.reg [oZ 18 8 1,oM 8 18]))))))) (rg [o 4 (.mov (ki (-1)))] .ret)))⟩
theorem Dz:A6 Tryz.prog Cg=some Ch:=by kernel_rfl
abbrev A0h:Nat:=288
def A0i:Fn1:=⟨63,[.t 2],(rg [oV 2 kf] (rg [o 10 (.mkm),oM 3 10] (.seq (rg [oM 11 0,oN 12 11,oV 13 (ki 0)] (.blk 0 (.lop (rg [oB 14 .lss 13 12] (.seq (cn 14 .skip (.ext 0)) (.seq (.blk 1 (rg [oM 15 13,oI 16 8 11 13,oW 17 8 16,o 5 (.new [s0,z0,z0,z0,z0,z0,z0,(.bool false)]),oM 4 15,oS 8 5 17] (.reg [oM 18 3,oF 19 1 5,oW 20 2 19,oM 21 4,on (.mup [.i .i64,.i .i64] (.t 18) (.t 20) (.t 21))]))) (.reg [oZ 22 13 1,oM 13 22]))))))) (.seq (rg [oM 23 0,oN 24 23,oV 25 (ki 0)] (.blk 2 (.lop (rg [oB 26 .lss 25 24] (.seq (cn 26 .skip (.ext 2)) (.seq (.blk 3 (rg [oI 27 8 23 25,oW 28 8 27,o 7 (.new [s0,z0,z0,z0,z0,z0,z0,(.bool false)]),oS 8 7 28] (.seq (rg [oF 29 4 7,oW 30 2 29,o 31 (.build [z0,z0] []),o 32 (.eqs false [.i .i64,.i .i64] (.t 30) (.t 31))] (cn 32 (.ext 3) .skip)) (rg [oM 34 3,oF 35 4 7,oW 36 2 35,o 37 (.mlk [.i .i64,.i .i64] z0 true (.t 34) (.t 36)),oM 33 37,o 38 (.ext 0 (.t 33)),o 39 (.ext 1 (.t 33)),oM 8 38,oM 9 39] (dw [oM 40 9,oU 41 40,oM 42 41,vM 43 42 0,vM 44 42 8,vI 45 42 8 43 44,vF 46 42 0 45,vL 47 42 46,vF 48 42 0 7,vL 49 42 48,vB 50 42 .neq 47 49,oP 51 42 50,oM 52 51,vM 53 52 0,vM 54 52 8,vI 55 52 8 53 54,vF 56 52 3 55,vL 57 52 56,vF 58 52 3 7,vL 59 52 58] [vB 60 52 .geq 57 59,oP 61 52 60] (cn 61 (rg [oV 2 kf] .ret) .skip)))))) (.reg [oZ 62 25 1,oM 25 62]))))))) (rg [oV 2 kt] .ret)))))⟩
theorem A8d:A6 Tryz.prog A0h=some A0i:=by kernel_rfl
abbrev Wa:Nat:=199
def Wb:Fn1:=⟨96,[.t 2],(rg [oX 1 0,oV 2 kf] (.seq (rg [oF 7 0 1,oL 8 7,oC 9 167 8,oU 10 9,oM 11 10,vF 12 11 1 1,vL 13 11 12,vC 14 11 290 13,vU 15 11 14,oP 16 11 15,oM 17 16,vF 18 17 2 1,vL 19 17 18,vC 20 17 291 19,vU 21 17 20,oP 22 17 21,oM 23 22,vF 24 23 3 1,vL 25 23 24,vC 26 23 292 25,vU 27 23 26,oP 28 23 27] (cn 28 (rg [oV 2 kf] .ret) .skip)) (.seq (rg [oV 3 (ki 0)] (.blk 0 (.lop (.seq (rg [oM 29 3,oF 30 2 1,oL 31 30,oN 32 31,oB 33 .lss 29 32] (cn 33 .skip (.ext 0))) (.seq (.blk 1 (dw [oF 36 0 1,oL 37 36,oF 38 2 1,oL 39 38,oM 40 3,oI 41 6 39 40,oF 42 4 41,oW 43 2 42] [oD 44 45 37 43,oU 45 44] (cn 45 (rg [oV 2 kf] .ret) .skip))) (.reg [oM 34 3,oZ 35 34 1,oM 3 35])))))) (.seq (rg [oV 4 (ki 0)] (.blk 2 (.lop (.seq (rg [oM 46 4,oF 47 3 1,oL 48 47,oN 49 48,oB 50 .lss 46 49] (cn 50 .skip (.ext 2))) (.seq (.blk 3 (rg [oF 53 3 1,oL 54 53,oM 55 4,oI 56 8 54 55,oW 57 8 56,o 5 (.new [s0,z0,z0,z0,z0,z0,z0,(.bool false)]),oS 8 5 57] (.seq (rg [oF 58 0 1,oL 59 58,oF 60 1 5,oW 61 2 60,oD 62 45 59 61,oU 63 62] (cn 63 (rg [oV 2 kf] .ret) .skip)) (.seq (rg [oF 64 4 5,oW 65 2 64,o 66 (.build [z0,z0] []),o 67 (.eqs false [.i .i64,.i .i64] (.t 65) (.t 66))] (cn 67 (.ext 3) .skip)) (rg [oW 68 4 1,oF 69 4 5,oW 70 2 69,oD 71 146 68 70,oM 6 71] (dw [oM 72 6,oE 73 .lss 72 0,oM 74 73,vF 75 74 3 1,vL 76 74 75,vM 77 74 6,vI 78 74 8 76 77,vF 79 74 0 78,vL 80 74 79,vF 81 74 0 5,vL 82 74 81,vB 83 74 .neq 80 82,oP 84 74 83,oM 85 84,vF 86 85 3 1,vL 87 85 86,vM 88 85 6,vI 89 85 8 87 88,vF 90 85 3 89,vL 91 85 90,vF 92 85 3 5,vL 93 85 92] [vB 94 85 .geq 91 93,oP 95 85 94] (cn 95 (rg [oV 2 kf] .ret) .skip))))))) (.reg [oM 51 4,oZ 52 51 1,oM 4 52])))))) (rg [oV 2 kt] .ret)))))⟩
theorem A5b:A6 Tryz.prog Wa=some Wb:=by kernel_rfl
abbrev Wc:Nat:=195
def Wd:Fn1:=⟨30,[.t 2],(rg [oX 1 0,oV 2 kf] (rg [oF 3 0 1,oL 4 3,oC 5 176 4,oM 6 5,jF 7 6 1 1,jL 8 6 7,jC 9 6 285 8,oQ 10 6 9,oM 11 10,jF 12 11 2 1,jL 13 11 12,jF 14 11 0 1,jL 15 11 14,jD 16 11 286 13 15,oQ 17 11 16,oM 18 17,jF 19 18 3 1,jL 20 18 19,jF 21 18 0 1,jL 22 18 21,jD 23 18 287 20 22,oQ 24 18 23,oM 25 24,jF 26 25 3 1,jL 27 25 26,jC 28 25 288 27,oQ 29 25 28,oM 2 29] .ret))⟩
theorem A5c:A6 Tryz.prog Wc=some Wd:=by kernel_rfl
abbrev O0:Nat:=247
def We:Fn1:=⟨20,[.c 2 true 4],(rg [oX 1 0,o 2 (.new [.nilS,.nilS,.nilS,.nilS])] (dw [o 3 (.lit 1 0 [] []),oF 4 0 1,oL 5 4,o 6 (.app 1 8 [z0] (.t 3) (.t 5)),o 7 (.lit 3 0 [] []),oF 8 1 1,oL 9 8,o 10 (.app 3 32 [s0,z0,z0] (.t 7) (.t 9)),o 11 (.lit 6 0 [] []),oF 12 2 1,oL 13 12,o 14 (.app 6 64 [(.bool false),s0,s0,z0,z0,z0] (.t 11) (.t 13)),o 15 (.lit 8 0 [] []),oF 16 3 1,oL 17 16] [o 18 (.app 8 72 [s0,z0,z0,z0,z0,z0,z0,(.bool false)] (.t 15) (.t 17)),o 19 (.build [.nilS,.nilS,.nilS,.nilS] [(0,1,(.t 6)),(1,1,(.t 10)),(2,1,(.t 14)),(3,1,(.t 18))]),oS 4 2 19] .ret))⟩
theorem A5d:A6 Tryz.prog O0=some We:=by kernel_rfl
theorem Wf (σ:St) (a b c v:GV) (l:List Cell) (d:Dot) (h:RS Ag.kd σ v l) (hl:l.length<=1099511627776):Ret Tryz.prog Rc [.agg [a,b,c,v],.agg [gi d.rep,gi d.seq]] σ (gi (C9 l d)) σ:=by
 refine Ar A8b (Z0z rfl) trivial ?_
 simp +contextual (disch:=omega) only[go_sem,A0f]
 refine Ce l.length 5 (fun i env τ=>env 2= .ptr σ.length 0/\env 3= .ptr (σ++[some (Blk.row 1 [a,b,c,v])]).length 0/\(∀ j (hj:j<i) (hl:j<l.length),l[j].dot≠d)/\σ++[some (.row 1 [a,b,c,v])]++[some (.row 1 [gi d.rep,gi d.seq])] <+: τ) rfl ⟨rfl,rfl,fun j hj=>by omega,Zac _⟩ ?_ ?_
 ·rintro i env τ hi e5 c0 ⟨e2,e3,ha,hp⟩
  have h1:=h.pre (A2b hp)
  by_cases hd:l[i].dot=d
  ·have hq:C9 l d=i:=by rw[C9,A85 hi (fun j hj=>ha j hj (by omega)) hd]
   simp +contextual (disch:=omega) only[go_sem,c0,e2,e3,e5,A9 (A7o hp),A9 (Ic hp),h.len,A8 h1 hi,hp,decide_eq_true hd,hq,A2b hp]
  ·simp +contextual (disch:=omega) only[go_sem,c0,e2,e3,e5,A9 (A7o hp),A9 (Ic hp),h.len,A8 h1 hi,hp,decide_eq_false hd]
   intro j hj hl
   rcases Za5 j i with h2|h2
   ·exact ha j h2 hl
   ·have:j=i:=by omega
    subst this;exact hd
 ·rintro env τ e5 c0 ⟨e2,e3,ha,hp⟩
  have hq:C9 l d= -1:=by rw[C9,A86 (fun j hj=>ha j hj hj)]
  simp +contextual (disch:=omega) only[go_sem,c0,e2,e3,e5,A9 (A7o hp),h.len,hq,A2b hp]
theorem J0 (σ:St) (v:GV) (l:List Cell) (h:RS Ag.kd σ v l) (hl:l.length<=1099511627776) (f:Nat) (cs:List (Nat×Nat)) (p:Cell->Bool) (hf:∀(τ:St) (x:Cell),σ <+: τ->Ret Tryz.prog f (.agg (Ag.enc x)::cs.map fun c=>.ptr c.1 c.2) τ (.bool (p x)) τ):
  Ret Tryz.prog Cg [v,.fn f cs] σ (gi (match l.findIdx? p with|some k=>(k:Int)|none=> -1)) σ:=by
 refine Ar Dz (Z0z rfl) trivial ?_
 simp +contextual (disch:=omega) only[go_sem,Ch,h.len]
 refine Ce l.length 8 (fun i env τ=>env 0=v/\env 1= .fn f cs/\env 6=v/\env 7=gi l.length/\(∀ j (hj:j<i) (hl:j<l.length),p l[j]=false)/\σ <+: τ) rfl ⟨rfl,rfl,rfl,rfl,fun j hj=>by omega,Zac _⟩ ?_ ?_
 ·rintro i env τ hi e8 c0 ⟨e0,e1,e6,e7,ha,hp⟩
  simp +contextual (disch:=omega) only[go_sem,c0,e0,e1,e6,e7,e8,A8 (h.pre hp) hi,hp]
  have hpx:=hf τ l[i] hp
  refine Ac hpx (fun h1=> ?_) (fun h1=> ?_)
  ·have hq:l.findIdx? p=some i:=Zaw.2 ⟨hi,h1,fun j hj=>by simp[ha j hj (by omega)]⟩
   simp +contextual (disch:=omega) only[go_sem,c0,e0,e1,e6,e7,e8,hq,hp]
  ·simp +contextual (disch:=omega) only[go_sem,c0,e0,e1,e6,e7,e8,hp]
   intro j hj hl
   rcases Za5 j i with h2|h2
   ·exact ha j h2 hl
   ·have:j=i:=by omega
    subst this;exact h1
 ·rintro env τ e8 c0 ⟨e0,e1,e6,e7,ha,hp⟩
  have hq:l.findIdx? p=none:=by
   rw[Zay]
   intro x hx
   obtain⟨j,hj,rfl⟩:=Zas hx
   exact ha j hj hj
  simp +contextual (disch:=omega) only[go_sem,c0,e0,e1,e6,e7,e8,hq,hp]
theorem Wg (τ:St) (x:Cell) (g:Nat) (d:Dot) (hg:rdB τ g=some [gi d.rep,gi d.seq]):Ret Tryz.prog Ka [.agg (Ag.enc x),.ptr g 0] τ (.bool (decide (x.dot=d))) τ:=by
 refine Ar Za (Z0z rfl) trivial ?_
 simp +contextual (disch:=omega) only[go_sem,Pe,A2a,A9 (Qy hg _)]
theorem A8e (σ:St) (a b c v:GV) (l:List Cell) (d:Dot) (h:RS Ag.kd σ v l) (hl:l.length<=1099511627776):Ret Tryz.prog Re [.agg [a,b,c,v],.agg [gi d.rep,gi d.seq]] σ (gi (C9 l d)) σ:=by
 refine Ar A8c (Z0z rfl) trivial ?_
 simp +contextual (disch:=omega) only[go_sem,A0g]
 have R:=J0 (σ++[some (.row 1 [a,b,c,v])]++[some (.row 1 [gi d.rep,gi d.seq])]) v l (h.pre pre2) hl Ka [((σ++[some (Blk.row 1 [a,b,c,v])]).length,0)] (fun c=>decide (c.dot=d)) (fun τ x hp=>Wg τ x _ d (Ic hp))
 refine Af R ?_
 simp +contextual (disch:=omega) only[go_sem]
 rfl
theorem A5e (σ:St) (v:GV) (l:List Cell) (h:RS Ag.kd σ v l) (hl:l.length<=1099511627776) (hu:l.Pairwise fun a b=>Bj a.dot b.dot=true):Ret Tryz.prog A0h [v] σ (.bool (A09 l)) σ:=by
 refine Ar A8d (Z0z rfl) trivial ?_
 simp +contextual (disch:=omega) only[go_sem,A0i,h.len]
 have H0:=(Hp.refl σ).newMap
 refine Ce l.length 13 (fun i env τ=>env 0=v/\env 3= .mp σ.length/\env 11=v/\env 12=gi l.length/\Hp σ τ [mpt (.mp σ.length) (plc 0 (l.take i))]) rfl ⟨rfl,rfl,rfl,rfl,H0⟩ ?_ ?_
 ·rintro i env τ hi e13 c0 ⟨e0,e3,e11,e12,H⟩
  obtain⟨τ',e,H2⟩:=(H.grow (pre1 τ (some (Blk.row 1 [.str l[i].obj,gi l[i].dot.rep,gi l[i].dot.seq,gi l[i].time,gi l[i].ref.rep,gi l[i].ref.seq,gi l[i].val,.bool l[i].gone])))).mup 0 rfl l[i].dot i (Ahp hu hi)
  simp +contextual (disch:=omega) only[go_sem,c0,e0,e3,e11,e12,e13,A8 (h.pre H.sub) hi,fun r=>A8 (h.pre (A3 H.sub r)) hi,e]
  rw[Af2 hi]
  exact H2
 ·rintro env τ e13 c0 ⟨e0,e3,e11,e12,H⟩
  rw[Zaf] at H
  simp +contextual (disch:=omega) only[go_sem,c0,e0,e3,e11,e12,e13,(h.pre H.sub).len]
  refine Ce l.length 25 (fun i env τ=>env 0=v/\env 3= .mp σ.length/\env 23=v/\env 24=gi l.length/\(l.take i).all (ref1 l)=true/\Hp σ τ [mpt (.mp σ.length) (plc 0 l)]) rfl ⟨e0,e3,rfl,rfl,rfl,H⟩ ?_ ?_
  ·rintro i env τ hi e25 c0 ⟨e0,e3,e23,e24,ha,H⟩
   have hf:=fun h=>Dw (p:=ref1 l) hi h
   have ht:=Dj hi ha
   have G:=H.grow (pre1 τ (some (Blk.row 1 [.str l[i].obj,gi l[i].dot.rep,gi l[i].dot.seq,gi l[i].time,gi l[i].ref.rep,gi l[i].ref.seq,gi l[i].val,.bool l[i].gone])))
   have hlk:=G.mlk 0 rfl l[i].ref
   have hdl:=Vx l[i].ref 0 l
   by_cases hr:l[i].ref=⟨0,0⟩
   ·simp +contextual (disch:=omega) only[go_sem,c0,e0,e3,e23,e24,e25,A8 (h.pre H.sub) hi,decide_eq_true hr]
    exact⟨ht (by simp[ref1,hr]),G⟩
   ·cases hx:Cf l l[i].ref with
    |none=>
     rw[hx] at hdl
     have hb:ref1 l l[i]=false:=by simp[ref1,hr,hx]
     rw[hdl] at hlk
     simp +contextual (disch:=omega) only[go_sem,c0,e0,e3,e23,e24,e25,A8 (h.pre H.sub) hi,decide_eq_false hr,hlk,Option.map_none,Option.isSome_none,Option.getD_none]
     exact⟨by simp[A09,hf hb],G.sub⟩
    |some k=>
     rw[hx] at hdl
     obtain⟨hkl,_⟩:=C5 hx
     have hb:ref1 l l[i]=(decide (l[k].obj=l[i].obj)&&decide (l[k].time<l[i].time)):=by simp[ref1,hr,hx,Bn hkl]
     rw[hdl] at hlk
     simp +contextual (disch:=omega) only[go_sem,c0,e0,e3,e23,e24,e25,A8 (h.pre H.sub) hi,decide_eq_false hr,hlk,Zbm,Option.isSome_some,Zb4,Nat.zero_add,A8 (h.pre H.sub) hkl,fun r=>A8 (h.pre (A3 H.sub r)) hkl]
     refine⟨fun q1=>⟨?_,G.sub⟩,fun q1=>⟨fun q2=>⟨?_,G.sub⟩,fun q2=>⟨ht ?_,G⟩⟩⟩
     ·simp only[Zby] at q1
      rw[q1] at hb
      simp[A09,hf (by rw[hb];rfl)]
     ·rw[decide_eq_false (show ¬ l[k].time<l[i].time by have:=of_decide_eq_true q2;omega),Zcb] at hb
      simp[A09,hf hb]
     ·simp only[Zbu] at q1
      rw[hb,q1,decide_eq_true (show l[k].time<l[i].time by have:=of_decide_eq_false q2;omega)];rfl
  ·rintro env τ e25 c0 ⟨e0,e3,e23,e24,ha,H⟩
   rw[Zaf] at ha
   simp +contextual (disch:=omega) only[go_sem,c0,e0,e3,e23,e24,e25,H.sub]
   exact ha.symm
theorem Av {s:State} (h:Aa s<=1099511627776):s.know.length<=1099511627776/\s.tallies.length<=1099511627776/\s.lives.length<=1099511627776/\s.cells.length<=1099511627776/\
  (∀ x∈s.tallies,x.obj.size<=1099511627776)/\(∀ x∈s.lives,x.obj.size<=1099511627776/\x.key.size<=1099511627776)/\∀ x∈s.cells,x.obj.size<=1099511627776:=by
 unfold Aa at h
 refine⟨by omega,by omega,by omega,by omega,fun x hx=> ?_,fun x hx=> ?_,fun x hx=> ?_⟩
 ·have h1:=Gj (f:=Bv) hx
  unfold Bv at h1;unfold Bv at h;omega
 ·have h1:=Gj (f:=F0) hx
  unfold F0 at h1;unfold F0 at h;omega
 ·have h1:=Gj (f:=F1) hx
  unfold F1 at h1;unfold F1 at h;omega
theorem Pf (σ:St) (cs:List GV) (s:State) (hR:A5.R σ s cs) (hl:Aa s<=1099511627776):Ret Tryz.prog Wc [.agg cs] σ (.bool (Au s)) σ:=by
 obtain⟨a,b,c,v,rfl,hk,ht,hv,hc⟩:=hR
 obtain⟨l1,l2,l3,l4,z1,z2,z3⟩:=Av hl
 have p1:=pre1 σ (some (Blk.row 1 [a,b,c,v]))
 refine Ar A5c (Z0z rfl) trivial ?_
 simp +contextual (disch:=omega) only[go_sem,Wd]
 refine Ac (Gm _ a s.know (hk.pre p1) l1) (fun h1=> ?_) (fun h1=> ?_)
 rotate_left
 ·simp +contextual (disch:=omega) only[go_sem]
  simp[Au,h1]
 simp +contextual (disch:=omega) only[go_sem]
 refine Ac (Lw _ b s.tallies (ht.pre p1) l2 z1) (fun h2=> ?_) (fun h2=> ?_)
 rotate_left
 ·simp +contextual (disch:=omega) only[go_sem]
  simp[Au,h2]
 simp +contextual (disch:=omega) only[go_sem]
 refine Ac (Pc _ c s.lives (hv.pre p1) a s.know (hk.pre p1) l1 l3 z2) (fun h3=> ?_) (fun h3=> ?_)
 rotate_left
 ·simp +contextual (disch:=omega) only[go_sem]
  simp[Au,h3]
 simp +contextual (disch:=omega) only[go_sem]
 refine Ac (Pd _ v s.cells (hc.pre p1) a s.know (hk.pre p1) l1 l4 z3) (fun h4=> ?_) (fun h4=> ?_)
 rotate_left
 ·simp +contextual (disch:=omega) only[go_sem]
  simp[Au,h4]
 simp +contextual (disch:=omega) only[go_sem]
 refine Af (A5e _ v s.cells (hc.pre p1) l4 (A2g h4)) ?_
 simp +contextual (disch:=omega) only[go_sem]
 simp[Au,h1,h2,h3,h4]
theorem Ahr:decide ((-1:Int)<0)=true:=rfl
theorem C7 (σ:St) (cs:List GV) (s:State) (hR:A5.R σ s cs) (hl:Aa s<=1099511627776):Ret Tryz.prog Wa [.agg cs] σ (.bool (Au s)) σ:=by
 obtain⟨a,b,c,v,rfl,hk,ht,hv,hc⟩:=hR
 obtain⟨l1,l2,l3,l4,z1,z2,z3⟩:=Av hl
 have p1:=pre1 σ (some (Blk.row 1 [a,b,c,v]))
 rw[<- A84]
 refine Ar A5b (Z0z rfl) trivial ?_
 simp +contextual (disch:=omega) only[go_sem,Wb]
 refine Ac (Dy _ a s.know (hk.pre p1) l1) (fun h1=> ?_) (fun h1=> ?_)
 rotate_left
 ·simp +contextual (disch:=omega) only[go_sem]
  simp[Eq,h1]
 simp +contextual (disch:=omega) only[go_sem]
 refine Ac (Kz _ b s.tallies (ht.pre p1) l2 z1) (fun h2=> ?_) (fun h2=> ?_)
 rotate_left
 ·simp +contextual (disch:=omega) only[go_sem]
  simp[Eq,h2]
 simp +contextual (disch:=omega) only[go_sem]
 refine Ac (Na _ c s.lives (hv.pre p1) l3 z2) (fun h3=> ?_) (fun h3=> ?_)
 rotate_left
 ·simp +contextual (disch:=omega) only[go_sem]
  simp[Eq,h3]
 simp +contextual (disch:=omega) only[go_sem]
 refine Ac (Nb _ v s.cells (hc.pre p1) l4 z3) (fun h4=> ?_) (fun h4=> ?_)
 rotate_left
 ·simp +contextual (disch:=omega) only[go_sem]
  simp[Eq,h4]
 simp +contextual (disch:=omega) only[go_sem]
 refine Ce s.lives.length 3 (fun i env τ=>env 1= .ptr σ.length 0/\(s.lives.take i).all (livK s.know)=true/\σ++[some (.row 1 [a,b,c,v])] <+: τ) rfl ⟨rfl,rfl,Zac _⟩ ?_ ?_
 ·rintro i env τ hi e3 c0 ⟨e1,ha,hp⟩
  have hf:=fun h=>Dw (p:=livK s.know) hi h
  have hq:=Dj hi ha
  simp +contextual (disch:=omega) only[go_sem,c0,e1,e3,A9 (Ic hp),hv.len,A7 (hv.pre (C3 hp)) hi]
  refine Ac (Bt _ a s.know s.lives[i].dot (hk.pre (C3 hp)) l1) (fun h5=> ?_) (fun h5=> ?_)
  ·simp +contextual (disch:=omega) only[go_sem,e1,e3,hp]
   exact hq h5
  ·simp +contextual (disch:=omega) only[go_sem,C3 hp]
   simp[Eq,hf h5]
 ·rintro env τ e3 c0 ⟨e1,ha5,hp⟩
  rw[Zaf] at ha5
  simp +contextual (disch:=omega) only[go_sem,c0,e1,e3,A9 (Ic hp),hv.len]
  refine Ce s.cells.length 4 (fun i env τ=>env 1= .ptr σ.length 0/\(s.cells.take i).all (celK s.cells s.know)=true/\σ++[some (.row 1 [a,b,c,v])] <+: τ) rfl ⟨e1,rfl,hp⟩ ?_ ?_
  ·rintro i env τ hi e4 c0 ⟨e1,ha,hp⟩
   have hf:=fun h=>Dw (p:=celK s.cells s.know) hi h
   have hq:=Dj hi ha
   have C0:=A8 (hc.pre (C3 hp)) hi
   have hr:=Ic hp
   have hr2:rdB (τ++[some (Blk.row 1 [.str s.cells[i].obj,gi s.cells[i].dot.rep,gi s.cells[i].dot.seq,gi s.cells[i].time,gi s.cells[i].ref.rep,gi s.cells[i].ref.seq,gi s.cells[i].val,.bool s.cells[i].gone])]) σ.length=some [a,b,c,v]:=Qy hr _
   simp +contextual (disch:=omega) only[go_sem,c0,e1,e4,A9 hr,A9 hr2,hc.len,C0]
   refine Ac (Bt _ a s.know s.cells[i].dot (hk.pre (A3 (C3 hp) _)) l1) (fun h6=> ?_) (fun h6=> ?_)
   rotate_left
   ·simp +contextual (disch:=omega) only[go_sem,C3 hp,A3 (C3 hp) _]
    simp[Eq,hf (by simp[celK,h6])]
   by_cases hz:s.cells[i].ref=⟨0,0⟩
   ·simp +contextual (disch:=omega) only[go_sem,e1,e4,decide_eq_true hz,A3 hp _]
    exact hq (by simp[celK,ref1,h6,hz])
   ·simp +contextual (disch:=omega) only[go_sem,e1,e4,decide_eq_false hz,A9 hr2]
    refine Af (Wf _ a b c v s.cells s.cells[i].ref (hc.pre (A3 (C3 hp) _)) l4) ?_
    cases hx:Cf s.cells s.cells[i].ref with
    |none=>
     have hb:celK s.cells s.know s.cells[i]=false:=by simp[celK,ref1,hz,hx]
     have hn:C9 s.cells s.cells[i].ref= -1:=by simp[C9,hx]
     simp +contextual (disch:=omega) only[go_sem,hn,Ahr,C3 hp,A3 (C3 hp) _]
     simp[Eq,hf hb]
    |some k=>
     obtain⟨hkl,_⟩:=C5 hx
     have hb:celK s.cells s.know s.cells[i]=(decide (s.cells[k].obj=s.cells[i].obj)&&decide (s.cells[k].time<s.cells[i].time)):=by simp[celK,h6,ref1,hz,hx,Bn hkl]
     have hn:C9 s.cells s.cells[i].ref=k:=by simp[C9,hx]
     have hd:decide ((k:Int)<0)=false:=by simp
     simp +contextual (disch:=omega) only[go_sem,hn,hd,e1,e4,A9 hr2,A8 (hc.pre (C3 hp)) hkl,fun r=>A8 (hc.pre (A3 (C3 hp) r)) hkl,C3 hp,A3 (C3 hp) _,A3 hp _]
     refine⟨fun q1=> ?_,fun q1=>⟨fun q2=> ?_,fun q2=>hq ?_⟩⟩
     ·simp only[Zby] at q1
      rw[q1] at hb
      simp[Eq,hf (by rw[hb];rfl)]
     ·rw[decide_eq_false (show ¬ s.cells[k].time<s.cells[i].time by have:=of_decide_eq_true q2;omega),Zcb] at hb
      simp[Eq,hf hb]
     ·simp only[Zbu] at q1
      rw[hb,q1,decide_eq_true (show s.cells[k].time<s.cells[i].time by have:=of_decide_eq_false q2;omega)];rfl
  ·rintro env τ e4 c0 ⟨e1,ha,hp⟩
   rw[Zaf] at ha
   simp +contextual (disch:=omega) only[go_sem,c0,e1,e4,A9 (Ic hp),hc.len,C3 hp]
   simp[Eq,h1,h2,h3,h4,ha5,ha]
theorem Il (σ:St) (cs:List GV) (s:State) (hR:A5.R σ s cs) (d:Dot) (hl:Aa s<=1099511627776):Ret Tryz.prog Rc [.agg cs,.agg [gi d.rep,gi d.seq]] σ (gi (C9 s.cells d)) σ:=by
 obtain⟨a,b,c,v,rfl,_,_,_,h⟩:=hR
 exact Wf σ a b c v s.cells d h (Av hl).2.2.2.1
theorem A5f (σ:St) (cs:List GV) (s:State) (hR:A5.R σ s cs) (d:Dot) (hl:Aa s<=1099511627776):Ret Tryz.prog Re [.agg cs,.agg [gi d.rep,gi d.seq]] σ (gi (C9 s.cells d)) σ:=by
 obtain⟨a,b,c,v,rfl,_,_,_,h⟩:=hR
 exact A8e σ a b c v s.cells d h (Av hl).2.2.2.1
section
variable {α:Type}
def insB (lt:α->α->Bool) (x:α):List α->List α
 |[]=>[x]
 |k::r=>if lt x k then x::k::r else k::insB lt x r
def Az (lt:α->α->Bool) (l:List α):List α:=l.foldl (fun acc x=>insB lt x acc) []
theorem Kb {lt:α->α->Bool} {l:List α} {x:α}:Az lt (l++[x])=insB lt x (Az lt l):=by simp[Az]
theorem I2 (lt:α->α->Bool) (x:α):∀ l:List α,(insB lt x l).Perm (x::l)
 |[]=>.refl _
 |k::r=>by
  unfold insB
  split
  ·exact .refl _
  ·exact((I2 lt x r).cons k).trans (.swap x k r)
theorem Bb (lt:α->α->Bool) (l:List α):(Az lt l).Perm l:=by
 have key:∀(l acc:List α),(l.foldl (fun acc x=>insB lt x acc) acc).Perm (acc++l):=by
  intro l
  induction l with
  |nil=>intro acc;simp
  |cons x l ih=>
   intro acc
   simp only[Zbn]
   refine(ih _).trans ?_
   refine((I2 lt x acc).append_right l).trans ?_
   rw[Zb3]
   exact List.perm_middle.symm
 have:=key l []
 unfold Az
 simpa using this
theorem O2 (lt:α->α->Bool) (x:α) (l:List α):(insB lt x l).length=l.length+1:=(I2 lt x l).length_eq
theorem D6 (lt:α->α->Bool) (l:List α):(Az lt l).length=l.length:=(Bb lt l).length_eq
abbrev Up (lt:α->α->Bool) (l:List α):Prop:=l.Pairwise fun a b=>lt b a=false
open Go.Sort (SWO) in
theorem SWO.asym {lt:α->α->Bool} (h:SWO lt) {x y:α} (hxy:lt x y=true):lt y x=false:=by
 cases e:lt y x with
 |false=>rfl
 |true=>have:=h.trans _ _ _ hxy e;rw[h.irrefl] at this;cases this
theorem Adb {lt:α->α->Bool} (h:Go.Sort.SWO lt) {x:α}:∀ {l:List α},Up lt l->Up lt (insB lt x l)
 |[],_=>by simp[insB]
 |k::r,hl=>by
  obtain⟨h1,h2⟩:=Zad.1 hl
  unfold insB
  split
  ·rename_i hx
   refine Zad.2 ⟨fun y hy=> ?_,hl⟩
   rcases Zae.1 hy with rfl|hy
   ·exact SWO.asym h hx
   ·have:=h1 y hy
    cases e:lt y x with
    |false=>rfl
    |true=>rw[h.trans _ _ _ e hx] at this;cases this
  ·rename_i hx
   refine Zad.2 ⟨fun y hy=> ?_,Adb h h2⟩
   rcases Zae.1 ((I2 lt x r).mem_iff.1 hy) with rfl|hy
   ·simpa using hx
   ·exact h1 y hy
theorem Pg {lt:α->α->Bool} (h:Go.Sort.SWO lt) (l:List α):Up lt (Az lt l):=by
 have key:∀(l acc:List α),Up lt acc->Up lt (l.foldl (fun acc x=>insB lt x acc) acc):=by
  intro l
  induction l with
  |nil=>intro acc h;exact h
  |cons x l ih=>intro acc ha;exact ih _ (Adb h ha)
 exact key l [] .nil
theorem Wh {lt:α->α->Bool}:∀ {l m:List α},(∀ x∈l,∀ y∈l,lt x y=false->lt y x=false->x=y)->l.Perm m->Up lt l->Up lt m->l=m
 |[],m,_,hp,_,_=>(List.nil_perm.1 hp).symm
 |a::l,[],_,hp,_,_=>by have:=hp.length_eq;simp at this
 |a::l,b::m,ht,hp,h1,h2=>by
  obtain⟨h3,h4⟩:=Zad.1 h1
  obtain⟨h5,h6⟩:=Zad.1 h2
  have hab:a=b:=by
   have ha:a∈b::m:=hp.mem_iff.1 Zab
   have hb:b∈a::l:=hp.mem_iff.2 Zab
   rcases Zae.1 ha with e|ha
   ·exact e
   ·rcases Zae.1 hb with e|hb
    ·exact e.symm
    ·exact ht a Zab b (Zah _ hb) (h5 a ha) (h3 b hb)
  subst hab
  rw[Wh (fun x hx y hy=>ht x (Zah _ hx) y (Zah _ hy)) hp.cons_inv h4 h6]
theorem Ph {lt:α->α->Bool} (hi:∀ x,lt x x=false) (ha:∀ x y,lt x y=true->lt y x=true->False):∀ {l m:List α},l.Pairwise (fun a b=>lt a b=true)->m.Pairwise (fun a b=>lt a b=true)->(∀ x,x∈l↔x∈m)->l=m
 |[],[],_,_,_=>rfl
 |[],b::m,_,_,h=>absurd ((h b).2 Zab) (by simp)
 |a::l,[],_,_,h=>absurd ((h a).1 Zab) (by simp)
 |a::l,b::m,h1,h2,h=>by
  obtain⟨h3,h4⟩:=Zad.1 h1
  obtain⟨h5,h6⟩:=Zad.1 h2
  have hab:a=b:=by
   rcases Zae.1 ((h a).1 Zab) with e|hm
   ·exact e
   ·rcases Zae.1 ((h b).2 Zab) with e|hl
    ·exact e.symm
    ·exact(ha _ _ (h3 b hl) (h5 a hm)).elim
  subst hab
  rw[Ph hi ha h4 h6 fun x=> ?_]
  constructor
  ·intro hx
   rcases Zae.1 ((h x).1 (Zah _ hx)) with e|hm
   ·subst e;have:=h3 x hx;rw[hi] at this;cases this
   ·exact hm
  ·intro hx
   rcases Zae.1 ((h x).2 (Zah _ hx)) with e|hm
   ·subst e;have:=h5 x hx;rw[hi] at this;cases this
   ·exact hm
def putU [DecidableEq α] (lt:α->α->Bool) (x:α) (l:List α):List α:=if x∈l then l else insB lt x l
def Im [DecidableEq α] (lt:α->α->Bool) (l:List α):List α:=l.foldl (fun acc x=>putU lt x acc) []
theorem A8f [DecidableEq α] {lt:α->α->Bool} {l:List α} {x:α}:Im lt (l++[x])=putU lt x (Im lt l):=by simp[Im]
theorem Af5 [DecidableEq α] {lt:α->α->Bool} {x y:α} {l:List α}:y∈putU lt x l↔y=x∨y∈l:=by
 unfold putU
 split
 ·rename_i h
  exact⟨.inr,fun h'=>by rcases h' with rfl|h'<;>assumption⟩
 ·rw[(I2 lt x l).mem_iff,Zae]
theorem Wi {lt:α->α->Bool} (ht:∀ x y z,lt x y=true->lt y z=true->lt x z=true) (htri:∀ x y,lt x y=false->lt y x=false->x=y) {x:α}:∀ {l:List α},x∉l->l.Pairwise (fun a b=>lt a b=true)->(insB lt x l).Pairwise (fun a b=>lt a b=true)
 |[],_,_=>by simp[insB]
 |k::r,hx,hl=>by
  obtain⟨h1,h2⟩:=Zad.1 hl
  unfold insB
  split
  ·rename_i hk
   refine Zad.2 ⟨fun y hy=> ?_,hl⟩
   rcases Zae.1 hy with rfl|hy
   ·exact hk
   ·exact ht _ _ _ hk (h1 y hy)
  ·rename_i hk
   have hk':lt x k=false:=by simpa using hk
   have hkx:lt k x=true:=by
    cases e:lt k x with
    |true=>rfl
    |false=>exact absurd (htri _ _ hk' e) fun e=>hx (by rw[e];exact Zab)
   refine Zad.2 ⟨fun y hy=> ?_,Wi ht htri (fun h=>hx (Zah _ h)) h2⟩
   rcases Zae.1 ((I2 lt x r).mem_iff.1 hy) with rfl|hy
   ·exact hkx
   ·exact h1 y hy
theorem A8g [DecidableEq α] {lt:α->α->Bool} (ht:∀ x y z,lt x y=true->lt y z=true->lt x z=true) (htri:∀ x y,lt x y=false->lt y x=false->x=y) {x:α} {l:List α} (hl:l.Pairwise (fun a b=>lt a b=true)):(putU lt x l).Pairwise (fun a b=>lt a b=true):=by
 unfold putU
 split
 ·exact hl
 ·rename_i h;exact Wi ht htri h hl
theorem A8h [DecidableEq α] {lt:α->α->Bool} (ht:∀ x y z,lt x y=true->lt y z=true->lt x z=true) (htri:∀ x y,lt x y=false->lt y x=false->x=y) (l:List α):(Im lt l).Pairwise (fun a b=>lt a b=true)/\∀ y,y∈Im lt l↔y∈l:=by
 have key:∀(l acc:List α),acc.Pairwise (fun a b=>lt a b=true)->(l.foldl (fun acc x=>putU lt x acc) acc).Pairwise (fun a b=>lt a b=true)/\∀ y,y∈l.foldl (fun acc x=>putU lt x acc) acc↔y∈acc∨y∈l:=by
  intro l
  induction l with
  |nil=>intro acc h;exact⟨h,by simp⟩
  |cons x l ih=>
   intro acc h
   obtain⟨h1,h2⟩:=ih (putU lt x acc) (A8g ht htri h)
   refine⟨h1,fun y=> ?_⟩
   rw[Zbn,h2,Af5,Zae]
   constructor
   ·rintro((h|h)|h)
    ·exact .inr (.inl h)
    ·exact .inl h
    ·exact .inr (.inr h)
   ·rintro(h|h|h)
    ·exact .inl (.inr h)
    ·exact .inl (.inl h)
    ·exact .inr h
 have:=key l [] .nil
 exact⟨this.1,fun y=>by rw[Im,this.2];simp⟩
theorem A8i [DecidableEq α] (lt:α->α->Bool) (x:α) (l:List α):(putU lt x l).length<=l.length+1:=by
 unfold putU
 split
 ·omega
 ·rw[O2];exact Za0 _
theorem Pi [DecidableEq α] (lt:α->α->Bool) (l:List α):(Im lt l).length<=l.length:=by
 have key:∀(l acc:List α),(l.foldl (fun acc x=>putU lt x acc) acc).length<=acc.length+l.length:=by
  intro l
  induction l with
  |nil=>intro acc;simp
  |cons x l ih=>
   intro acc
   have h1:=ih (putU lt x acc)
   have h2:=A8i lt x acc
   simp only[Zbn,Zau];omega
 have:=key l []
 unfold Im
 simpa using this
def Bp [DecidableEq α]:List α->List α
 |[]=>[]
 |[x]=>[x]
 |x::y::r=>if x=y then Bp (y::r) else x::Bp (y::r)
theorem Kc [DecidableEq α]:∀ {l:List α} {z:α},z∈Bp l↔z∈l
 |[],z=>by simp[Bp]
 |[x],z=>by simp[Bp]
 |x::y::r,z=>by
  unfold Bp
  split
  ·rename_i h;subst h
   rw[Kc];simp
  ·rw[Zae,Kc];simp
theorem J1 [DecidableEq α] {lt:α->α->Bool} (h:Go.Sort.SWO lt) (htri:∀ x y,lt x y=false->lt y x=false->x=y):∀ {l:List α},Up lt l->(Bp l).Pairwise (fun a b=>lt a b=true)
 |[],_=>.nil
 |[x],_=>by simp[Bp]
 |x::y::r,hl=>by
  obtain⟨h1,h2⟩:=Zad.1 hl
  unfold Bp
  split
  ·exact J1 h htri h2
  ·rename_i hne
   refine Zad.2 ⟨fun z hz=> ?_,J1 h htri h2⟩
   have hz:=Kc.1 hz
   have hyx:lt x y=true:=by
    cases e:lt x y with
    |true=>rfl
    |false=>exact absurd (htri _ _ e (h1 y Zab)) hne
   rcases Zae.1 hz with rfl|hz
   ·exact hyx
   ·have h5:=(Zad.1 h2).1 z hz
    cases e:lt x z with
    |true=>rfl
    |false=>
     have:=h.ntrans _ _ _ e h5
     rw[hyx] at this;cases this
theorem Zb [DecidableEq α] {lt:α->α->Bool} (h:Go.Sort.SWO lt) (htri:∀ x y,lt x y=false->lt y x=false->x=y) {l m:List α} (hp:m.Perm l) (hu:Up lt m):Bp m=Im lt l:=by
 obtain⟨h1,h2⟩:=A8h h.trans htri l
 refine Ph h.irrefl (fun x y h3 h4=>by rw[SWO.asym h h3] at h4;cases h4) (J1 h htri hu) h1 fun x=> ?_
 rw[Kc,h2,hp.mem_iff]
theorem O3 {lt:α->α->Bool} (h:Go.Sort.SWO lt) {l m:List α} (htri:∀ x∈l,∀ y∈l,lt x y=false->lt y x=false->x=y) (hp:m.Perm l) (hu:Up lt m):m=Az lt l:=Wh (fun x hx y hy=>htri x (hp.mem_iff.1 hx) y (hp.mem_iff.1 hy)) (hp.trans (Bb lt l).symm) hu (Pg h l)
end
def ltI (a b:Int):Bool:=decide (a<b)
theorem A8j:Go.Sort.SWO ltI:=⟨fun x=>by simp[ltI],fun x y z h1 h2=>by simp only[ltI,decide_eq_true_eq] at *;omega,fun x y z h1 h2=>by simp only[ltI,decide_eq_false_iff_not] at *;omega⟩
theorem Adc (x y:Int) (h1:ltI x y=false) (h2:ltI y x=false):x=y:=by simp only[ltI,decide_eq_false_iff_not] at *;omega
theorem Af6:Go.Sort.SWO txLt:=⟨Hf,fun x y z=>Ms,fun x y z h1 h2=>by
 cases e:txLt x z with
 |false=>rfl
 |true=>
  by_cases hxy:x=y
  ·subst hxy;rw[h2] at e;cases e
  ·have h3:txLt y x=true:=by
    cases e2:txLt y x with
    |true=>rfl
    |false=>exact absurd (Jz h1 e2) hxy
   rw[Ms h3 e] at h2;cases h2⟩
theorem Rf:Go.Sort.SWO Bj:=⟨Hy,fun x y z=>Hz,fun x y z h1 h2=>by
 simp only[Bj,Zap,Zan,decide_eq_false_iff_not] at *;omega⟩
def Eu (a b:Cell):Bool:=decide (b.time<a.time)||decide (a.time=b.time)&&Bj b.dot a.dot
theorem Wj:Go.Sort.SWO Eu:=⟨fun x=>by simp[Eu,Hy],fun x y z h1 h2=>by
  simp only[Eu,Bj,Zar,Zaa,decide_eq_true_eq] at *;omega,fun x y z h1 h2=>by
  simp only[Eu,Bj,Zap,Zan,decide_eq_false_iff_not] at *;omega⟩
theorem A5g {x y:Cell} (h1:Eu x y=false) (h2:Eu y x=false):x.dot=y.dot:=by
 rw[Dot.eq_iff]
 simp only[Eu,Bj,Zap,Zan,decide_eq_false_iff_not] at *;omega
def D7 (d:Dot) (c:Cell):Bool:=decide (c.ref=d)
def Jk (o:ByteArray) (c:Cell):Bool:=decide (c.obj=o)
def rowF (sc:List Cell):Nat->Dot->List Cell
 |0,_=>[]
 |f+1,d=>(sc.filter (D7 d)).flatMap fun c=>c::rowF sc f c.dot
def Adq (sc:List Cell):Nat->Dot->Prop
 |0,d=>∀ c∈sc,c.ref≠d
 |f+1,d=>∀ c∈sc,c.ref=d->Adq sc f c.dot
theorem Adq.up {sc:List Cell}:∀ {f:Nat} {d:Dot},Adq sc f d->Adq sc (f+1) d
 |0,d,h=>fun c hc e=>absurd e (h c hc)
 |f+1,d,h=>fun c hc e=>(h c hc e).up
theorem Adq.le {sc:List Cell} {f g:Nat} {d:Dot} (h:Adq sc f d) (hg:f<=g):Adq sc g d:=by
 induction g with
 |zero=>
      have:f=0:=by omega
      subst this;exact h
 |succ g ih=>
  rcases Za5 g f with h1|h1
  ·have:f=g+1:=by omega
   subst this;exact h
  ·exact(ih h1).up
theorem J3 {α β:Type} {f g:α->List β}:∀ {l:List α},(∀ x∈l,f x=g x)->l.flatMap f=l.flatMap g
 |[],_=>rfl
 |x::l,h=>by rw[Zal,Zal,h x Zab,J3 fun y hy=>h y (Zah _ hy)]
theorem Add {sc:List Cell}:∀ {f:Nat} {d:Dot},Adq sc f d->rowF sc (f+1) d=rowF sc f d
 |0,d,h=>by
  have:sc.filter (D7 d)=[]:=List.filter_eq_nil_iff.2 fun c hc=>by simpa [D7] using h c hc
  simp[rowF,this]
 |f+1,d,h=>by
  rw[rowF,rowF]
  refine J3 fun c hc=> ?_
  obtain⟨h1,h2⟩:=Zao.1 hc
  rw[Add (h c h1 (by simpa [D7] using h2))]
def fuel:Nat:=10001
def rowA (sc:List Cell) (d:Dot):List Cell:=rowF sc fuel d
theorem A8k {sc:List Cell} {d:Dot} (h:Adq sc fuel d):rowA sc d=(sc.filter (D7 d)).flatMap fun c=>c::rowA sc c.dot:=by
 unfold rowA
 rw[<- Add h,rowF]
theorem Aaa {sc:List Cell}:∀ {f:Nat} {d:Dot} {c:Cell},c∈rowF sc f d->c∈sc
 |0,_,_,h=>by simp[rowF] at h
 |f+1,d,c,h=>by
  rw[rowF,Zbj] at h
  obtain⟨x,hx,h⟩:=h
  rcases Zae.1 h with rfl|h
  ·exact(Zao.1 hx).1
  ·exact Aaa h
theorem A5h {α:Type} [DecidableEq α]:∀ {l m:List α},l.Nodup->(∀ x∈l,x∈m)->l.length<=m.length
 |[],m,_,_=>by simp
 |x::l,m,hn,h=>by
  rw[Zbo] at hn
  have hx:=h x Zab
  have:=A5h (l:=l) (m:=m.erase x) hn.2 fun y hy=>by
   rw[List.mem_erase_of_ne (fun e=>hn.1 (by rw[<- e];exact hy))]
   exact h y (Zah _ hy)
  rw[List.length_erase_of_mem hx] at this
  have:=List.length_pos_of_mem hx
  simp only[Zau];omega
theorem Wk {l:List Cell} (h:(l.map (·.dot)).Nodup) {a b:Cell} (ha:a∈l) (hb:b∈l) (e:a.dot=b.dot):a=b:=by
 induction l with
 |nil=>simp at ha
 |cons z l ih=>
  rw[Za2,Zbo] at h
  rcases Zae.1 ha with h1|h1<;>rcases Zae.1 hb with h2|h2
  ·rw[h1,h2]
  ·exact(h.1 (by rw[<- h1,e];exact Zba (f:=(·.dot)) h2)).elim
  ·exact(h.1 (by rw[<- h2,<-e];exact Zba (f:=(·.dot)) h1)).elim
  ·exact ih h.2 h1 h2
theorem A0j {sc:List Cell} (hd:(sc.map (·.dot)).Nodup):∀ {ds:List Dot},ds.Nodup->((ds.flatMap fun d=>sc.filter (D7 d)).map (·.dot)).Nodup
 |[],_=>by simp
 |d::ds,hn=>by
  rw[Zbo] at hn
  rw[Zal,Za8,List.nodup_append]
  refine⟨hd.sublist ((Zbb).map _),A0j hd hn.2,fun x hx y hy e=> ?_⟩
  obtain⟨a,ha,rfl⟩:=Zb1.1 hx
  obtain⟨b,hb,rfl⟩:=Zb1.1 hy
  obtain⟨d',hd',hb⟩:=Zbj.1 hb
  obtain⟨ha1,ha2⟩:=Zao.1 ha
  obtain⟨hb1,hb2⟩:=Zao.1 hb
  have hab:a=b:=Wk hd ha1 hb1 e
  subst hab
  have e1:a.ref=d:=by simpa [D7] using ha2
  have e2:a.ref=d':=by simpa [D7] using hb2
  exact hn.1 (by rw[<- e1,e2];exact hd')
theorem Wl {α β γ:Type} {k:α->List β} {g:β->List γ} (w:α->List γ) (hw:∀ a,(w a).length=(k a).length+((k a).flatMap g).length):∀ ds:List α,(ds.flatMap w).length=(ds.flatMap k).length+((ds.flatMap k).flatMap g).length
 |[]=>rfl
 |d::ds=>by
  simp only[Zal,Zbv,Zbc,hw,Wl w hw ds];omega
theorem Pj {β γ:Type} (g:β->List γ) (h:β->γ):∀ l:List β,(l.flatMap fun c=>h c::g c).length=l.length+(l.flatMap g).length
 |[]=>rfl
 |c::l=>by
  have:=Pj g h l
  simp only[Zal,Zbv,Zau] at *;omega
theorem Aab {sc:List Cell} (hd:(sc.map (·.dot)).Nodup):∀(f:Nat) {ds:List Dot},ds.Nodup->(ds.flatMap (rowF sc f)).length<=f*sc.length
 |0,ds,_=>by
  have:∀ ds:List Dot,ds.flatMap (rowF sc 0)=[]:=by
   intro ds
   induction ds with
   |nil=>rfl
   |cons d ds ih=>rw[Zal,ih];rfl
  rw[this];simp
 |f+1,ds,hn=>by
  have h1:=Wl (k:=fun d=>sc.filter (D7 d)) (g:=fun c=>rowF sc f c.dot) (rowF sc (f+1)) (fun d=>by rw[rowF];exact Pj (fun c=>rowF sc f c.dot) id _) ds
  have h2:=A0j hd hn
  have h3:=Aab hd f h2
  have e:(ds.flatMap fun d=>sc.filter (D7 d)).flatMap (fun c=>rowF sc f c.dot)=((ds.flatMap fun d=>sc.filter (D7 d)).map (·.dot)).flatMap (rowF sc f):=by rw[Zb5]
  rw[e] at h1
  have h4:(ds.flatMap fun d=>sc.filter (D7 d)).length<=sc.length:=by
   have:=A5h (m:=sc.map (·.dot)) h2 fun x hx=>by
    obtain⟨a,ha,rfl⟩:=Zb1.1 hx
    obtain⟨d,_,ha⟩:=Zbj.1 ha
    exact Zba (Zao.1 ha).1
   simpa using this
  rw[h1,Nat.add_mul]
  omega
theorem Af7 {l:List Cell} (h:l.Pairwise fun a b=>Bj a.dot b.dot=true):(l.map (·.dot)).Nodup:=by
 rw[List.Nodup,List.pairwise_map]
 exact h.imp fun {a b} h e=>by rw[e,Hy] at h;cases h
structure CelR (l:List Cell):Prop where
 nd:(l.map (·.dot)).Nodup
 time:∀ c∈l,1≤c.time/\c.time<=10000
 dot:∀ c∈l,G7 c.dot=true
 ref:∀ c∈l,c.ref=⟨0,0⟩∨∃ y∈l,y.dot=c.ref/\y.obj=c.obj/\y.time<c.time
 len:l.length<=120
theorem O4 {s:State} (h:Au s=true):CelR s.cells:=by
 simp only[Au,Zaa] at h
 obtain⟨_,_,_,h4,h5⟩:=h
 have hup:=A2g h4
 simp only[Gv,Zaa,Bl,celP,decide_eq_true_eq] at h4
 have at':∀ c∈s.cells,Ax s.know c.dot=true/\cel1 c=true:=fun c hc=>by
  obtain⟨i,hi,rfl⟩:=Zas hc
  have:=h4.1 i hi
  rw[Bn hi,Bn hi] at this
  exact⟨this.1,this.2.1⟩
 refine⟨Af7 hup,fun c hc=> ?_,fun c hc=>I1 (at' c hc).1,fun c hc=> ?_,h4.2⟩
 ·have:=(at' c hc).2
  simp only[cel1,Zaa] at this
  exact Ck.1 this.2.2
 ·have:=Zb2.1 h5 c hc
  unfold ref1 at this
  simp only[Zar,decide_eq_true_eq] at this
  refine this.imp id fun h=> ?_
  split at h
  ·cases h
  ·rename_i k hk
   obtain⟨hkl,e⟩:=C5 hk
   rw[Bn hkl] at h
   simp only[Zaa,decide_eq_true_eq] at h
   exact⟨_,Zag hkl,e,h.1,h.2⟩
theorem A0k:G7 ⟨0,0⟩=false:=by decide
theorem A2n {sc:List Cell} (hnd:(sc.map (·.dot)).Nodup) (ht:∀ c∈sc,1≤c.time/\c.time<=10000) (hr:∀ c∈sc,∀ y∈sc,y.dot=c.ref->y.time<c.time):∀(f:Nat) (d:Dot) (t:Int),(∀ c∈sc,c.ref=d->t<c.time)->10000 - t<=f->Adq sc f d
 |0,d,t,h,hf=>fun c hc e=>by have:=h c hc e;have:=(ht c hc).2;omega
 |f+1,d,t,h,hf=>fun c hc e=>A2n hnd ht hr f c.dot c.time (fun x hx ex=>hr x hx c hc ex.symm) (by have:=h c hc e;omega)
def objC (l:List Cell) (o:ByteArray):List Cell:=Az Eu (l.filter (Jk o))
theorem Pk {l:List Cell} {o:ByteArray} {c:Cell}:c∈objC l o↔c∈l/\c.obj=o:=by
 rw[objC,(Bb _ _).mem_iff,Zao];simp[Jk]
theorem A8l {l:List Cell} (h:(l.map (·.dot)).Nodup) (o:ByteArray):((objC l o).map (·.dot)).Nodup:=(((Bb Eu (l.filter (Jk o))).map (·.dot)).nodup_iff).2 (h.sublist ((Zbb).map _))
theorem A2o (l:List Cell) (o:ByteArray):(objC l o).length<=l.length:=by
 rw[objC,D6];exact Za6 _ _
theorem Aac {l:List Cell} (h:CelR l) (o:ByteArray):Adq (objC l o) fuel ⟨0,0⟩/\∀ c∈objC l o,Adq (objC l o) fuel c.dot:=by
 have ht:∀ c∈objC l o,1≤c.time/\c.time<=10000:=fun c hc=>h.time c (Pk.1 hc).1
 have hr:∀ c∈objC l o,∀ y∈objC l o,y.dot=c.ref->y.time<c.time:=fun c hc y hy e=>by
  obtain⟨hc,_⟩:=Pk.1 hc
  obtain⟨hy,_⟩:=Pk.1 hy
  rcases h.ref c hc with e0|⟨z,hz,e1,_,e2⟩
  ·have:=h.dot y hy
   rw[e,e0,A0k] at this;cases this
  ·rw[Wk h.nd hy hz (e.trans e1.symm)];exact e2
 refine⟨A2n (A8l h.nd o) ht hr fuel _ 0 (fun c hc _=>by have:=(ht c hc).1;omega) (by decide),fun c hc=> ?_⟩
 refine A2n (A8l h.nd o) ht hr fuel _ c.time (fun x hx ex=>hr x hx c hc ex.symm) ?_
 have:=(ht c hc).1
 show 10000 - c.time<=((10001:Nat):Int)
 omega
def rowC (s:State) (o:ByteArray):List Cell:=rowA (objC s.cells o) ⟨0,0⟩
theorem Af8 {s:State} {o:ByteArray} {c:Cell} (h:c∈rowC s o):c∈s.cells:=(Pk.1 (Aaa h)).1
theorem Mt {s:State} (h:CelR s.cells) (o:ByteArray):(rowC s o).length<=1200120:=by
 have:=Aab (A8l h.nd o) fuel (ds:=[⟨0,0⟩]) (by simp)
 have h2:=A2o s.cells o
 have h3:=h.len
 rw[Zal,Zb6,Zb9] at this
 unfold rowC rowA
 have h4:fuel*(objC s.cells o).length<=fuel*120:=Nat.mul_le_mul_left _ (by omega)
 have h5:fuel*120=1200120:=rfl
 omega
theorem Ahs {l:List Cell} (h:(l.map (·.dot)).Nodup) (o:ByteArray) (d:Dot):Az Eu (l.filter fun c=>Jk o c&&D7 d c)=(objC l o).filter (D7 d):=by
 refine Wh (fun x hx y hy h1 h2=> ?_) ?_ (Pg Wj _) ((Pg Wj _).sublist Zbb)
 ·have hx:=(Zao.1 ((Bb Eu _).mem_iff.1 hx)).1
  have hy:=(Zao.1 ((Bb Eu _).mem_iff.1 hy)).1
  exact Wk h hx hy (A5g h1 h2)
 ·refine(Bb _ _).trans ?_
  have e:(l.filter fun c=>Jk o c&&D7 d c)=(l.filter (Jk o)).filter (D7 d):=by
   rw[List.filter_filter]
   congr 1
   funext c
   exact Bool.and_comm _ _
  rw[e]
  exact(Bb Eu (l.filter (Jk o))).symm.filter _
def rowL (s:State) (o:ByteArray):List Cell:=if Au s then(rowC s o).filter (fun c=> !c.gone) else[]
def rowD (s:State) (o:ByteArray):List Dot:=if Au s then(rowC s o).map (·.dot) else[]
theorem Aad (s:State) (o:ByteArray):(rowL s o).length<=1200120:=by
 unfold rowL
 split
 ·rename_i h
  exact Za4 (Za6 _ _) (Mt (O4 h) o)
 ·simp
theorem Ade {s:State} {o:ByteArray} (h:Au s=true) {c:Cell} (hc:c∈rowC s o):∃ k,∃ hk:k<s.cells.length,Cf s.cells c.dot=some k/\s.cells[k]=c:=by
 have hm:=Af8 hc
 obtain⟨i,hi,e⟩:=Zas hm
 cases hx:Cf s.cells c.dot with
 |none=>
  unfold Cf at hx
  rw[Zay] at hx
  have:=hx c hm
  simp at this
 |some k=>
  obtain⟨hk,e2⟩:=C5 hx
  exact⟨k,hk,rfl,Wk (O4 h).nd (Zag hk) hm e2⟩
def addM (a b:Int):Int:=(a+b).tmod 1000000
def Lx (obj:ByteArray) (rep:Int) (t:Tally):Bool:=decide (t.obj=obj)&&decide (t.rep=rep)
def G0 (l:List Tally) (obj:ByteArray) (rep val:Int):List Tally:=match l.findIdx? (Lx obj rep) with
 |some i=>l.modify i fun t=>{t with sum:=addM t.sum val}
 |none=>insB Ak ⟨obj,rep,val⟩ l
theorem T7 {a b:Tally} (h:a.obj=b.obj) (h2:a.rep=b.rep):Ak a b=false:=by simp[Ak,h,h2,Hf]
theorem Pm:Go.Sort.SWO Ak:=⟨fun x=>T7 rfl rfl,fun x y z h1 h2=>by
  simp only[Ak,Zar,Zaa,decide_eq_true_eq] at*
  rcases h1 with h1|⟨h1,h3⟩<;>rcases h2 with h2|⟨h2,h4⟩
  ·exact .inl (Ms h1 h2)
  ·exact .inl (by rw[<- h2];exact h1)
  ·exact .inl (by rw[h1];exact h2)
  ·exact .inr ⟨h1.trans h2,by omega⟩,fun x y z h1 h2=>by
  simp only[Ak,Zap,Zan,decide_eq_false_iff_not] at*
  refine⟨Af6.ntrans _ _ _ h1.1 h2.1,?_⟩
  by_cases hxz:x.obj=z.obj
  ·right
   have hxy:x.obj=y.obj:=by
    by_cases e:x.obj=y.obj
    ·exact e
    ·exfalso
     have h3:txLt y.obj x.obj=true:=by
      cases e2:txLt y.obj x.obj with
      |true=>rfl
      |false=>exact absurd (Jz h1.1 e2) e
     rw[hxz] at h3
     rw[h3] at h2
     simp at h2
   rcases h1.2 with h|h
   ·exact absurd hxy h
   ·rcases h2.2 with h'|h'
    ·exact absurd (hxy.symm.trans hxz) h'
    ·omega
  ·exact .inl hxz⟩
theorem Adf {x y:Tally} (h1:Ak x y=false) (h2:Ak y x=false):x.obj=y.obj/\x.rep=y.rep:=by
 simp only[Ak,Zap,Zan,decide_eq_false_iff_not] at*
 have e:=Jz h1.1 h2.1
 refine⟨e,?_⟩
 rcases h1.2 with h|h
 ·exact absurd e h
 ·rcases h2.2 with h'|h'
  ·exact absurd e.symm h'
  ·omega
theorem A5i {obj:ByteArray} {rep:Int} {t:Tally}:Lx obj rep t=true↔t.obj=obj/\t.rep=rep:=by simp[Lx]
def Ke (x:Live) (l:List Live):List Live:=insB Dc x l
def Ly (x:Cell) (l:List Cell):List Cell:=insB Dq x l
def Uh (m:Bool) (obj key:ByteArray) (knew:List Int) (x:Live):Bool:= !(x.map==m)||(!decide (x.obj=obj)||(!decide (x.key=key)|| !Ax knew x.dot))
def Jl (l:List Cell) (d:Dot):List Cell:=match Cf l d with
 |some k=>l.modify k fun c=>{c with gone:=true}
 |none=>l
def Gp (s:State) (a:Act):State:=
 if a.kind=1 then {s with tallies:=G0 s.tallies a.obj a.dot.rep a.val}
 else if a.kind=2 then {s with lives:=Ke ⟨false,a.obj,a.key,0,a.dot⟩ s.lives}
 else if a.kind=3 then {s with lives:=s.lives.filter (Uh false a.obj a.key a.knew)}
 else if a.kind=4 then {s with lives:=Ke ⟨true,a.obj,a.key,a.val,a.dot⟩ (s.lives.filter (Uh true a.obj a.key a.knew))}
 else if a.kind=5 then {s with lives:=s.lives.filter (Uh true a.obj a.key a.knew)}
 else if a.kind=6 then {s with cells:=Ly ⟨a.obj,a.dot,a.time,a.ref,a.val,false⟩ s.cells}
 else {s with cells:=Jl s.cells a.ref}
def Lz (s:State) (a:Act):State:=Gp {s with know:=s.know.set a.dot.rep.toNat a.dot.seq} a
def Gs (s:State):Bool:=decide (120<s.tallies.length)||(decide (120<s.lives.length)||decide (120<s.cells.length))
def Ui (s:State) (a:Act):Bool:=if a.kind=7∨(a.kind=6/\a.ref≠d0) then(match Cf s.cells a.ref with
 |some k=>onI s.cells k fun c=>decide (c.obj=a.obj)&&(decide (a.kind=7)||decide (c.time<a.time))
 |none=>false) else true
def Do (s:State) (a:Act):State×Int:=
 if !(Au s&&Eb a) then(s,3) else if Ax s.know a.dot then(s,1) else if !Gn a.knew s.know then(s,2) else if !Ui s a then(s,3) else
 if Gs (Lz s a) then(s,4) else(Lz s a,0)
def De (m:Bool) (o k:ByteArray) (l:Live):Bool:=(l.map==m)&&(decide (l.obj=o)&&decide (l.key=k))
def Kf (s:State) (m:Bool) (o k:ByteArray):List Live:=s.lives.filter (De m o k)
def Mu (s:State) (o:ByteArray):List Int:=(rowL s o).map (·.dot.rep)
def Gb (s:State) (m:Bool) (o k:ByteArray):List Int:=Im ltI ((Kf s m o k).map (·.dot.rep))
theorem Gq {α:Type} {l:List α} {p:α->Bool} {i:Nat} (hi:i<l.length):(l.take (i+1)).filter p=(l.take i).filter p++(if p l[i] then[l[i]] else[]):=by
 rw[Ap hi,List.filter_append]
 congr 1
 cases h:p l[i]<;>simp[h]
theorem E1 {α:Type} (l:List α) (p:α->Bool) (i:Nat):((l.take i).filter p).length<=l.length:=by
 have:=Za6 p (l.take i)
 rw[Zbh] at this
 omega
section
variable {α:Type} {lt:α->α->Bool} {x:α} {acc nxt:List α} {j:Nat} {put:Bool}
def insG (lt:α->α->Bool) (x:α) (acc nxt:List α) (j:Nat) (put:Bool):Prop:=if put then nxt++acc.drop j=insB lt x acc else nxt++insB lt x (acc.drop j)=insB lt x acc
theorem V5:insG lt x acc [] 0 false:=by simp[insG]
theorem E8 (h:insG lt x acc nxt j put):nxt.length<=acc.length+1:=by
 unfold insG at h
 have:(insB lt x acc).length=acc.length+1:=O2 lt x acc
 split at h
 ·rw[<- this,<-h];simp
 ·rw[<- this,<-h];simp
theorem Pn (h:insG lt x acc nxt j false) (hj:j<acc.length) (hl:lt x acc[j]=true):insG lt x acc (nxt++[x]++[acc[j]]) (j+1) true:=by
 simp only[insG,Za3,if_false,if_true] at h ⊢
 rw[Zak hj,insB,if_pos hl] at h
 rw[<- h];simp
theorem Fh (h:insG lt x acc nxt j put) (hj:j<acc.length) (hl:put=true∨lt x acc[j]=false):insG lt x acc (nxt++[acc[j]]) (j+1) put:=by
 cases put with
 |true=>
  simp only[insG,if_true] at h ⊢
  rw[Zak hj] at h
  rw[<- h];simp
 |false=>
  have hl:lt x acc[j]=false:=hl.resolve_left (by intro h;cases h)
  simp only[insG,Za3,if_false] at h ⊢
  rw[Zak hj,insB,if_neg (by rw[hl];simp)] at h
  rw[<- h];simp
theorem V6 (h:insG lt x acc nxt acc.length put):(if put then nxt else nxt++[x])=insB lt x acc:=by
 unfold insG at h
 split
 ·rename_i hp;rw[if_pos hp] at h;simpa using h
 ·rename_i hp;rw[if_neg hp] at h;simpa [insB] using h
theorem A8m {l:List α} {p:α->Bool} {i:Nat} (hi:i<l.length):Az lt ((l.take (i+1)).filter p)=if p l[i] then insB lt l[i] (Az lt ((l.take i).filter p)) else Az lt ((l.take i).filter p):=by
 rw[Gq hi]
 split
 ·rw[Kb]
 ·simp
theorem Adg {l:List α} {p:α->Bool} {i:Nat}:(Az lt ((l.take i).filter p)).length<=l.length:=by
 rw[D6];exact E1 l p i
end
def isZ (d:Dot):Bool:=decide (d=⟨0,0⟩)
def A5j (d:Dot):List Dot:=if isZ d then[] else[d]
def Wm (sc:List Cell) (S:List Dot):List Dot:=S.reverse.flatMap fun d=>A5j d++(rowA sc d).map (·.dot)
def T8 (sc:List Cell) (S:List Dot):Nat:=(S.map fun d=>1+(rowA sc d).length).sum
theorem Abd {sc:List Cell} {S:List Dot} {d:Dot} (hd:Adq sc fuel d) (hz:∀ c∈sc,c.dot≠⟨0,0⟩):Wm sc (S++[d])=A5j d++Wm sc (S++((sc.filter (D7 d)).map (·.dot)).reverse):=by
 unfold Wm
 rw[Zbq,Zbq,List.reverse_reverse,Zbc,Zbc]
 simp only[Zbz,List.reverse_nil,List.nil_append,Zal,Zb6,Zb9,List.append_assoc]
 congr 1
 congr 1
 rw[A8k hd,Zb5,List.map_flatMap]
 refine J3 fun c hc=> ?_
 have:isZ c.dot=false:=by simpa [isZ] using hz c (Zao.1 hc).1
 simp[A5j,this]
theorem Aht {l:List Nat}:l.reverse.sum=l.sum:=by
 induction l with
 |nil=>rfl
 |cons x l ih=>rw[Zbz,Za9,ih];simp;omega
theorem Abe {sc:List Cell} {S:List Dot} {d:Dot} (hd:Adq sc fuel d):T8 sc (S++[d])=T8 sc (S++((sc.filter (D7 d)).map (·.dot)).reverse)+1:=by
 unfold T8
 rw[Za8,Za8,Za9,Za9,List.map_reverse,Aht,List.map_map]
 have:(rowA sc d).length=(((sc.filter (D7 d))).map ((fun d=>1+(rowA sc d).length) ∘ fun c=>c.dot)).sum:=by
  rw[A8k hd,List.length_flatMap]
  congr 1
  refine List.map_congr_left fun c _=> ?_
  simp;omega
 simp only[Za2,List.map_nil,Zbr,List.sum_nil]
 rw[<- this];omega
theorem A0l {sc:List Cell}:∀ S:List Dot,S.length<=T8 sc S
 |[]=>Nat.zero_le _
 |d::S=>by
  have:=A0l (sc:=sc) S
  simp only[T8,Za2,Zbr,Zau] at*
  omega
section
structure El (α:Type) [Inhabited α] where
 p:Pl α
 g:Bool
 val:α->GV
 hv:∀ x,mkv g (p.enc x)=some (val x)
 hc:∀ x,(val x).cells=p.enc x
 hz:0<p.z
section
variable {α:Type} [Inhabited α] {e:El α} {σ τ:St} {rs:List Thg} {v:GV} {d:Array α}
open Go.Sort (swp)
theorem Ahu {j:Nat} (hj:j<d.size):d.toList[j]? =some d[j]! :=by
 rw[getElem!_pos d j hj];simp
theorem El.at (e:El α) (H:Hp σ τ rs) (k:Nat) (hk:rs[k]? =some (ow e.p.kd v d.toList)) {j:Nat} (hj:j<d.size):iadG e.p.z v (some j)=some (atz e.p.z v j)/\ldG e.g e.p.z τ (atz e.p.z v j)=some (e.val d[j]!):=by
 have h:=H.sl k hk
 have hl:j<d.toList.length:=by simpa using hj
 refine⟨RdN.iad h hl,?_⟩
 obtain⟨cs,hR,hs⟩:=RdN.cells h hl
 have e1:cs=e.p.enc d.toList[j]:=hR
 have e2:d.toList[j]=d[j]! :=by
  have:=Ahu hj
  rw[Zaz hl] at this
  injection this
 have hlen:=e.p.len d.toList[j]
 have:=hs 0 e.p.z cs (by unfold seg;rw[if_pos (by rw[e1,hlen];omega),List.drop_zero,Zbk (by rw[e1,hlen];exact Za0 _)]) e.g
 rw[Af0] at this
 have this:ldG e.g e.p.z τ (atz e.p.z v j)=mkv e.g cs:=this
 rw[this,e1,e.hv,e2]
theorem El.sw (e:El α) (H:Hp σ τ rs) (k:Nat) (hk:rs[k]? =some (ow e.p.kd v d.toList)) {a b:Nat} (ha:a<d.size) (hb:b<d.size):∃ τ1 τ2,stG e.p.z τ (atz e.p.z v a) (e.val d[b]!)=some (.tup [],τ1)/\stG e.p.z τ1 (atz e.p.z v b) (e.val d[a]!)=some (.tup [],τ2)/\Hp σ τ2 (rs.set k (ow e.p.kd v (swp d a b).toList)):=by
 have hkl:=(Zam.1 hk).1
 obtain⟨τ1,e1,H1⟩:=H.stw k hk (j:=a) (by simpa using ha) e.p.z (e.val d[b]!) d[b]! (e.hc _) rfl e.hz
 obtain⟨τ2,e2,H2⟩:=H1.stw k (by rw[Zat hkl]) (j:=b) (by simpa using hb) e.p.z (e.val d[a]!) d[a]! (e.hc _) rfl e.hz
 refine⟨τ1,τ2,e1,e2,?_⟩
 rw[Zb0] at H2
 have:(swp d a b).toList=(d.toList.set a d[b]!).set b d[a]! :=by simp[swp]
 rw[this];exact H2
def Holds (e:El α) (σ0 τ:St) (rs:List Thg) (k:Nat) (v:GV) (d:Array α):Prop:=k<rs.length/\Hp σ0 τ (rs.set k (ow e.p.kd v d.toList))
theorem Holds.of {σ0:St} (H:Hp σ0 τ rs) {k:Nat} (hk:rs[k]? =some (ow e.p.kd v d.toList)):Holds e σ0 τ rs k v d:=by
 obtain⟨h1,h2⟩:=Zam.1 hk
 refine⟨h1,?_⟩
 rw[<- h2,Zbl];exact H
theorem Holds.at {σ0:St} {k:Nat} (h:Holds e σ0 τ rs k v d) {j:Nat} (hj:j<d.size):iadG e.p.z v (some j)=some (atz e.p.z v j)/\ldG e.g e.p.z τ (atz e.p.z v j)=some (e.val d[j]!):=e.at h.2 k (Zat h.1) hj
theorem Holds.iad {σ0:St} {k:Nat} (h:Holds e σ0 τ rs k v d) {j:Nat} (hj:j<d.size):iadG e.p.z v (some j)=some (atz e.p.z v j):=(h.at hj).1
theorem Holds.ld {σ0:St} {k:Nat} (h:Holds e σ0 τ rs k v d) {j:Nat} (hj:j<d.size):ldG e.g e.p.z τ (atz e.p.z v j)=some (e.val d[j]!):=(h.at hj).2
theorem Holds.sw {σ0:St} {k:Nat} (h:Holds e σ0 τ rs k v d) {a b:Nat} (ha:a<d.size) (hb:b<d.size):∃ τ1 τ2,stG e.p.z τ (atz e.p.z v a) (e.val d[b]!)=some (.tup [],τ1)/\stG e.p.z τ1 (atz e.p.z v b) (e.val d[a]!)=some (.tup [],τ2)/\Holds e σ0 τ2 rs k v (swp d a b)/\τ2.length=τ.length:=by
 obtain⟨τ1,τ2,e1,e2,H⟩:=e.sw h.2 k (Zat h.1) ha hb
 exact⟨τ1,τ2,e1,e2,⟨h.1,by rwa [Zb0] at H⟩,by rw[A7p e2,A7p e1]⟩
theorem Bd {k:IntKind} {x:Int} {j:Nat} (h:x=(j:Int)):B8 (some (.int k x))=some j:=by rw[h];exact A0
theorem swp_size (d:Array α) (i j:Nat):(swp d i j).size=d.size:=by simp[swp]
end
theorem Df {P:Program} {a:Cd} {Q:Ex->Env->St->Prop} {env:Env} {σ:St} (I:Nat->Env->St->Prop) (n j0:Nat) (X:Env->St->Prop) (h0:I n env σ)
  (hs:∀(J:Nat->Env->St->Prop) (Y:Env->St->Prop),(∀ k env σ,I k env σ->J k env σ)->(∀ env σ,X env σ->Y env σ)->∀ k env σ,I k env σ->vc P a (fun e env' σ'=>match e with| .nxt=>∃ k',k'<k/\J k' env' σ'| .ext j=>if j=j0 then Y env' σ' else Q (.ext j) env' σ'| .ret=>Q .ret env' σ') env σ)
  (hx:∀ env σ,X env σ->Q (.ext j0) env σ):vc P (.lop a) Q env σ:=by
 refine Sm I n h0 fun k env σ hI=>B4 (hs I X (fun _ _ _ h=>h) (fun _ _ h=>h) k env σ hI) fun e env' σ' he=> ?_
 cases e with
 |nxt=>exact he
 |ret=>exact he
 |ext j=>
  have h5:if j=j0 then X env' σ' else Q (.ext j) env' σ':=he
  by_cases h:j=j0
  ·rw[if_pos h] at h5
   subst h;exact hx _ _ h5
  ·rw[if_neg h] at h5;exact h5
theorem M0 {P:Program} {a:Cd} {Q:Ex->Env->St->Prop} {env:Env} {σ:St} (n ri j0:Nat) (I:Nat->Env->St->Prop) (X:Env->St->Prop) (hr:env ri=gi 0) (h0:I 0 env σ)
  (hs:∀(J:Nat->Env->St->Prop) (Y:Env->St->Prop),(∀ i env σ,I i env σ->J i env σ)->(∀ env σ,X env σ->Y env σ)->∀ i env σ,i<n->env ri=gi i->decide ((i:Int)<n)=true->I i env σ->vc P a (fun e env' σ'=>match e with| .nxt=>env' ri=gi ((i:Int)+1)/\J (i+1) env' σ'| .ext j=>j=j0/\Y env' σ'| .ret=>False) env σ)
  (he:∀(Y:Env->St->Prop),(∀ env σ,X env σ->Y env σ)->∀ env σ,env ri=gi n->decide ((n:Int)<n)=false->I n env σ->vc P a (fun e env' σ'=>match e with| .nxt=>False| .ext j=>j=j0/\Y env' σ'| .ret=>False) env σ)
  (hx:∀ env σ,X env σ->Q (.ext j0) env σ):vc P (.lop a) Q env σ:=by
 refine Ce n ri I hr h0 (fun i env σ h1 h2 h3 h4=>B4 (hs I X (fun _ _ _ h=>h) (fun _ _ h=>h) i env σ h1 h2 h3 h4) fun e env' σ' hq=> ?_) (fun env σ h1 h2 h3=>B4 (he X (fun _ _ h=>h) env σ h1 h2 h3) fun e env' σ' hq=> ?_)
 ·cases e with
  |nxt=>exact hq
  |ret=>exact hq.elim
  |ext j=>obtain⟨rfl,hq⟩:=hq;exact hx _ _ hq
 ·cases e with
  |nxt=>exact hq
  |ret=>exact hq.elim
  |ext j=>obtain⟨rfl,hq⟩:=hq;exact hx _ _ hq
theorem Cx {P:Program} {a b:Cd} {Q:Ex->Env->St->Prop} {env:Env} {σ:St} (X:Env->St->Prop)
  (ha:∀ Y:Env->St->Prop,(∀ env σ,X env σ->Y env σ)->vc P a (fun e env' σ'=>match e with| .nxt=>Y env' σ'| .ext j=>Q (.ext j) env' σ'| .ret=>Q .ret env' σ') env σ)
  (hb:∀ env σ,X env σ->vc P b Q env σ):vc P (.seq a b) Q env σ:=by
 rw[vc_seq]
 refine B4 (ha X fun _ _ h=>h) fun e env' σ' he=> ?_
 cases e with
 |nxt=>exact hb _ _ he
 |ret=>exact he
 |ext j=>exact he
open Go.Sort (bitsLen bitsLen_le_iff)
abbrev len8:ByteArray:=⟨#[0,1,2,2,3,3,3,3,4,4,4,4,4,4,4,4,5,5,5,5,5,5,5,5,5,5,5,5,5,5,5,5,6,6,6,6,6,6,6,6,6,6,6,6,6,6,6,6,6,6,6,6,6,6,6,6,6,6,6,6,6,6,6,6,7,7,7,7,7,7,7,7,7,7,7,7,7,7,7,7,7,7,7,7,7,7,7,7,7,7,7,7,7,7,7,7,7,7,7,7,7,7,7,7,7,7,7,7,7,7,7,7,7,7,7,7,7,7,7,7,7,7,7,7,7,7,7,7,8,8,8,8,8,8,8,8,8,8,8,8,8,8,8,8,8,8,8,8,8,8,8,8,8,8,8,8,8,8,8,8,8,8,8,8,8,8,8,8,8,8,8,8,8,8,8,8,8,8,8,8,8,8,8,8,8,8,8,8,8,8,8,8,8,8,8,8,8,8,8,8,8,8,8,8,8,8,8,8,8,8,8,8,8,8,8,8,8,8,8,8,8,8,8,8,8,8,8,8,8,8,8,8,8,8,8,8,8,8,8,8,8,8,8,8,8,8,8,8,8,8,8,8,8,8,8,8]⟩
set_option maxRecDepth 100000 in
theorem Af9:(bl len8).length=256:=by decide +kernel
set_option maxRecDepth 100000 in
theorem Rg {m:Nat} (h:m<256):idxG (.str len8) (some m)=some (.int .u8 (bitsLen m:Nat)):=by
 have key:∀ m:Fin 256,idxG (.str len8) (some m.1)=some (.int .u8 (bitsLen m.1:Nat)):=by
  intro m
  have hm:m.1<(bl len8).length:=by rw[Af9];exact m.2
  rw[Ad7 hm]
  have:∀ m:Fin 256,((bl len8).getD m.1 0).toNat=bitsLen m.1:=by decide +kernel
  have h2:=this m
  rw[Zbd,Zaz hm,Zb4] at h2
  rw[h2]
 exact key ⟨m,h⟩
theorem Abf {x k:Nat} (h:2 ^ k<=x):bitsLen x=bitsLen (x / 2 ^ k)+k:=by
 have h1:∀ m,bitsLen x<=m↔bitsLen (x / 2 ^ k)+k<=m:=by
  intro m
  rw[bitsLen_le_iff]
  have hx:¬ x<2 ^ k:=by omega
  constructor
  ·intro hlt
   have hkm:k<m:=by
    rcases Za5 k m with h2|h2
    ·exact h2
    ·have:2 ^ m<=2 ^ k:=Nat.pow_le_pow_right (by omega) h2
     omega
   have:bitsLen (x / 2 ^ k)<=m - k:=by
    rw[bitsLen_le_iff,Zbp (Zca k),<-Nat.pow_add]
    rwa [Zbw (by omega)]
   omega
  ·intro hle
   have:bitsLen (x / 2 ^ k)<=m - k:=by omega
   rw[bitsLen_le_iff,Zbp (Zca k),<-Nat.pow_add,Zbw (by omega)] at this
   exact this
 have h2:=(h1 _).1 (Za0 _)
 have h3:=(h1 _).2 (Za0 _)
 omega
theorem A8n {n:Nat} (h:n<=1099511627776):bitsLen n<=41:=(bitsLen_le_iff n 41).2 (by omega)
end
end Go.Proofs.YtbeoiejnogdkpaaGreat.Sy
