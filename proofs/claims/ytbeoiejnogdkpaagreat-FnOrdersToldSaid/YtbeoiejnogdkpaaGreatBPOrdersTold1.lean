/- Texts of this proof, one behind the other. -/
import Derived.Test.YtbeoiejnogdkpaaGreatBC
import Derived.Test.YtbeoiejnogdkpaaGreatProg
import Derived.KernelRfl
import Derived.Sort.AssemblyPlain
import Derived.Sort.LotD3
import Derived.Sort.LotD1
set_option linter.unusedSimpArgs false
set_option linter.unusedVariables false
set_option maxRecDepth 4000
set_option maxHeartbeats 4000000
open Bool renaming and_eq_true→Zaa,eq_iff_iff→Zag,and_eq_false_iff→Zaj,or_eq_false_iff→Zak,or_eq_true→Zao,false_or→Zaq,false_eq_true→Zar,true_and→Za1,true_or→Zbd,not_eq_false'→Zbs,not_eq_true'→Zbw,and_false→Zb8,and_self→Zb9
open List renaming prefix_refl→Zab,mem_cons_self→Zac,take_length→Zad,drop_eq_getElem_cons→Zae,getElem_mem→Zah,getElem?_eq_some_iff→Zai,mem_cons_of_mem→Zal,flatMap_cons→Zan,getElem?_set_self→Zap,findIdx?_eq_some_iff_getElem→Zas,zipWith→Zau,pairwise_cons→Zav,findIdx?_eq_none_iff→Zaw,getElem?_eq_getElem→Zax,mem_filter→Zay,getElem_of_mem→Zaz,mem_cons→Za0,length_cons→Za2,take_of_length_le→Za4,length_take→Za7,mem_map_of_mem→Za8,filter_sublist→Za9,getD_eq_getElem?_getD→Zba,findIdx?_cons→Zbe,pairwise_iff_getElem→Zbf,map_cons→Zbg,drop_length→Zbh,map_append→Zbi,set_getElem_self→Zbj,nodup_cons→Zbl,length_filter_le→Zbm,dropWhile_cons→Zbo,takeWhile_cons→Zbp,length_append→Zbt,set_set→Zbx,mem_map→Zby,all_eq_true→Zbz,cons_append→Zb0,mem_flatMap→Zb2,sum_append→Zb3,length_nil→Zb5,append_nil→Zb6
open Nat renaming eq_zero_or_pos→Zaf,le_refl→Za3,lt_or_ge→Za5,le_trans→Zbc,div_lt_iff_lt_mul→Zbn,add_sub_cancel→Zbr,sub_add_cancel→Zbu,two_pow_pos→Zb7
open Int renaming ofNat_zero→Zam,lt_irrefl→Zat,tmod_eq_emod_of_nonneg→Zbb,tmod_lt_of_pos→Zbq,lt_trichotomy→Zbv,tmod_nonneg→Zb4
open Option renaming bind_some→Za6,map_some→Zbk,getD_some→Zb1
namespace Go.Proofs.YtbeoiejnogdkpaaGreat.Sy
open Go Go.RowKit
def sumL {Y:Type} (f:Y->Nat) (l:List Y):Nat:=(l.map f).sum
theorem Amn {Y:Type} {f:Y->Nat} {l:List Y} {i:Nat} (h:i<l.length):sumL f (l.take (i+1))=sumL f (l.take i)+f l[i]:=by
 unfold sumL;rw[Ak h,Zbi,Zb3];simp
theorem Ks {Y:Type} (f:Y->Nat) (l:List Y) (i:Nat):sumL f (l.take i)<=sumL f l:=by
 have:sumL f l=sumL f (l.take i)+sumL f (l.drop i):=by
  conv=>lhs;rw[<- List.take_append_drop i l]
  unfold sumL;rw[Zbi,Zb3]
 omega
theorem Ev {Y:Type} {f:Y->Nat} {l:List Y} {x:Y} (h:x∈l):f x<=sumL f l:=by
 induction l with
 |nil=>simp at h
 |cons y l ih=>
  simp only[sumL,Zbg,List.sum_cons] at*
  rcases Za0.1 h with rfl|h
  ·omega
  ·have:=ih h;omega
theorem Ap2 {z i:Nat} {v:GV}:fld 0 (atz z v i)=atz z v i:=by
 cases v<;>rfl
namespace Hp
end Hp
def Bl (x:Tally):Nat:=x.obj.size
def G6 (x:Live):Nat:=x.obj.size+x.key.size
def Ht (x:Cell):Nat:=x.obj.size
def Ck (x:Act):Nat:=x.knew.length+x.obj.size+x.key.size
instance:DecidableEq Act:=fun a b=>if h:a.dot=b.dot/\a.time=b.time/\a.knew=b.knew/\a.kind=b.kind/\a.obj=b.obj/\a.key=b.key/\a.val=b.val/\a.ref=b.ref then isTrue (by cases a;cases b;simp only at h;obtain⟨rfl,rfl,rfl,rfl,rfl,rfl,rfl,rfl⟩:=h;rfl) else isFalse (fun e=>h (by subst e;exact⟨rfl,rfl,rfl,rfl,rfl,rfl,rfl,rfl⟩))
theorem Act.eq_iff {a b:Act}:a=b↔a.dot=b.dot/\a.time=b.time/\a.knew=b.knew/\a.kind=b.kind/\a.obj=b.obj/\a.key=b.key/\a.val=b.val/\a.ref=b.ref:=⟨fun h=>by subst h;exact⟨rfl,rfl,rfl,rfl,rfl,rfl,rfl,rfl⟩,fun h=>by cases a;cases b;simp only at h;obtain⟨rfl,rfl,rfl,rfl,rfl,rfl,rfl,rfl⟩:=h;rfl⟩
def Ad (x:State):Nat:=x.know.length+(x.tallies.length+sumL Bl x.tallies)+(x.lives.length+sumL G6 x.lives)+(x.cells.length+sumL Ht x.cells)
instance:DecidableEq State:=fun a b=>if h:a.know=b.know/\a.tallies=b.tallies/\a.lives=b.lives/\a.cells=b.cells then isTrue (by cases a;cases b;simp only at h;obtain⟨rfl,rfl,rfl,rfl⟩:=h;rfl) else isFalse (fun e=>h (by subst e;exact⟨rfl,rfl,rfl,rfl⟩))
theorem State.eq_iff {a b:State}:a=b↔a.know=b.know/\a.tallies=b.tallies/\a.lives=b.lives/\a.cells=b.cells:=⟨fun h=>by subst h;exact⟨rfl,rfl,rfl,rfl⟩,fun h=>by cases a;cases b;simp only at h;obtain⟨rfl,rfl,rfl,rfl⟩:=h;rfl⟩
def Au (x:Delta):Nat:=x.base.length+x.know.length+(x.tallies.length+sumL Bl x.tallies)+(x.lives.length+sumL G6 x.lives)+x.dead.length+(x.cells.length+sumL Ht x.cells)
instance:DecidableEq Delta:=fun a b=>if h:a.base=b.base/\a.know=b.know/\a.tallies=b.tallies/\a.lives=b.lives/\a.dead=b.dead/\a.cells=b.cells then isTrue (by cases a;cases b;simp only at h;obtain⟨rfl,rfl,rfl,rfl,rfl,rfl⟩:=h;rfl) else isFalse (fun e=>h (by subst e;exact⟨rfl,rfl,rfl,rfl,rfl,rfl⟩))
theorem Delta.eq_iff {a b:Delta}:a=b↔a.base=b.base/\a.know=b.know/\a.tallies=b.tallies/\a.lives=b.lives/\a.dead=b.dead/\a.cells=b.cells:=⟨fun h=>by subst h;exact⟨rfl,rfl,rfl,rfl,rfl,rfl⟩,fun h=>by cases a;cases b;simp only at h;obtain⟨rfl,rfl,rfl,rfl,rfl,rfl⟩:=h;rfl⟩
def Aj (x:Unit_):Nat:=Ck x.act+Au x.delta
instance:DecidableEq Unit_:=fun a b=>if h:a.batch=b.batch/\a.act=b.act/\a.delta=b.delta then isTrue (by cases a;cases b;simp only at h;obtain⟨rfl,rfl,rfl⟩:=h;rfl) else isFalse (fun e=>h (by subst e;exact⟨rfl,rfl,rfl⟩))
theorem Unit_.eq_iff {a b:Unit_}:a=b↔a.batch=b.batch/\a.act=b.act/\a.delta=b.delta:=⟨fun h=>by subst h;exact⟨rfl,rfl,rfl⟩,fun h=>by cases a;cases b;simp only at h;obtain⟨rfl,rfl,rfl⟩:=h;rfl⟩
def Amo (x:Log):Nat:=Ad x.state+(x.units.length+sumL Aj x.units)+(x.waits.length+sumL Aj x.waits)
instance:DecidableEq Log:=fun a b=>if h:a.rep=b.rep/\a.time=b.time/\a.state=b.state/\a.units=b.units/\a.waits=b.waits then isTrue (by cases a;cases b;simp only at h;obtain⟨rfl,rfl,rfl,rfl,rfl⟩:=h;rfl) else isFalse (fun e=>h (by subst e;exact⟨rfl,rfl,rfl,rfl,rfl⟩))
instance:DecidableEq Commit:=fun a b=>if h:a.id=b.id/\a.ups=b.ups/\a.state=b.state then isTrue (by cases a;cases b;simp only at h;obtain⟨rfl,rfl,rfl⟩:=h;rfl) else isFalse (fun e=>h (by subst e;exact⟨rfl,rfl,rfl⟩))
instance:DecidableEq Graph:=fun a b=>if h:a.commits=b.commits/\a.head=b.head then isTrue (by cases a;cases b;simp only at h;obtain⟨rfl,rfl⟩:=h;rfl) else isFalse (fun e=>h (by subst e;exact⟨rfl,rfl⟩))
instance:DecidableEq Replica:=fun a b=>if h:a.way=b.way/\a.log=b.log/\a.graph=b.graph/\a.file=b.file/\a.out=b.out then isTrue (by cases a;cases b;simp only at h;obtain⟨rfl,rfl,rfl,rfl,rfl⟩:=h;rfl) else isFalse (fun e=>h (by subst e;exact⟨rfl,rfl,rfl,rfl,rfl⟩))
instance:DecidableEq World_:=fun a b=>if h:a.replicas=b.replicas/\a.net=b.net/\a.codes=b.codes/\a.synced=b.synced then isTrue (by cases a;cases b;simp only at h;obtain⟨rfl,rfl,rfl,rfl⟩:=h;rfl) else isFalse (fun e=>h (by subst e;exact⟨rfl,rfl,rfl,rfl⟩))
instance:DecidableEq Script:=fun a b=>if h:a.ways=b.ways/\a.events=b.events/\a.calm=b.calm then isTrue (by cases a;cases b;simp only at h;obtain⟨rfl,rfl,rfl⟩:=h;rfl) else isFalse (fun e=>h (by subst e;exact⟨rfl,rfl,rfl⟩))
def crs (c v:GV) (n:Nat):Thg:=⟨fun N fp=>∃ g i h,c= .ptr g 0/\fp=[g]/\i<=n/\bk N g=some (.row 1 [v,gi (i:Nat),gi h]),fun⟨g,i,h,h1,h2,h3,h4⟩ hf=>⟨g,i,h,h1,h2,h3,by rw[hf g (by rw[h2];exact Zac)];exact h4⟩⟩
theorem Aqm {n z g off:Nat} {N:St} {cs:List GV} {x:GV} (hB:bk N g=some (.row z cs)) (h1:off+n<=cs.length) (h2:0<n) (h3:x.cells.length=n):stG n N (.ptr g off) x=some (.tup [],N.set g (some (.row z (B5 cs off x.cells)))):=by
 simp only[stG,Co.1 hB]
 rw[if_pos ⟨h1,h2,h3⟩]
theorem Amp {N:St} {g z:Nat} {cs cs':List GV} (hB:bk N g=some (.row z cs)):bk (N.set g (some (.row z cs'))) g=some (.row z cs'):=Co.2 (by rw[Zap (bk_lt hB)])
theorem Aqn {N:St} {g z:Nat} {cs:List GV} (hB:bk N g=some (.row z cs)):rdB N g=some cs:=by
 unfold rdB;rw[Co.1 hB];rfl
theorem Agr {N:St} {v:GV} {l:List Int} (h:RS pB.kd N v l) {i:Nat} (hi:i<l.length):iadG 1 v (some i)=some (atz 1 v i)/\ldG false 1 N (atz 1 v i)=some (.int .u8 l[i]):=⟨RdN.iad h hi,RdN.ld h hi (by decide)⟩
theorem Aqo (b:Int) (hb:0<=b):∃ f:Int->Int,∀ a,binG .shr (.int .i64 a) (.int .u64 b)=some (.int .i64 (f a)):=⟨fun a=>a.fdiv (2 ^ min b.toNat IntKind.i64.bits),fun a=>by simp only[binG,Hd];rw[if_neg (by omega)]⟩
theorem xor_ex:∃ f:Int->Int->Int,∀ a b,binG .xor (.int .i64 a) (.int .i64 b)=some (.int .i64 (f a b)):=⟨fun a b=>IntKind.i64.wrap (BitVec.ofInt IntKind.i64.bits a ^^^ BitVec.ofInt IntKind.i64.bits b).toNat,fun a b=>rfl⟩
theorem Aqp (m:Nat) (hm:m<2 ^ 62):∃ f:Int->Int,(∀ a,binG .and (.int .i64 a) (.int .i64 (m:Nat))=some (.int .i64 (f a)))/\∀ a,0≤f a/\f a<=m:=by
 refine⟨fun a=>IntKind.i64.wrap (BitVec.ofInt IntKind.i64.bits a &&& BitVec.ofInt IntKind.i64.bits (m:Nat)).toNat,fun a=>rfl,fun a=> ?_⟩
 have h1:(BitVec.ofInt IntKind.i64.bits a &&& BitVec.ofInt IntKind.i64.bits (m:Nat)).toNat<=m:=by
  rw[BitVec.toNat_and]
  refine Zbc Nat.and_le_right ?_
  rw[BitVec.toNat_ofInt]
  show((m:Int) % ((2 ^ 64:Nat):Int)).toNat<=m
  omega
 show 0<=IntKind.i64.wrap _/\IntKind.i64.wrap _<=_
 rw[Eu (by omega) (by omega)]
 omega
@[go_sem] theorem bit_tup2 {l:List GV}:(GV.tup l).bit=none:=(rfl)
theorem A34 {P:Program} {D:Bool} {os:List Op1}:∀ {K:Env->St->Prop} {env:Env} {N:St},Al D P os K env N->Al D P os (fun env' N'=>K env' N'/\N.length<=N'.length) env N:=by
 induction os with
 |nil=>intro K env N h;exact⟨h,Za3 _⟩
 |cons o r ih=>
  intro K env N h
  simp only[Al] at h ⊢
  split at h
  ·rename_i hw
   rw[if_pos hw]
   obtain⟨v,N',hs,hp,hk⟩:=h
   refine⟨v,N',hs,hp,Cv (ih hk) fun env' N1 hq=>⟨hq.1,?_⟩⟩
   have:=A2i hs
   omega
  ·rename_i hw
   rw[if_neg hw]
   exact ih h
theorem vc_len {P:Program} {d:Cd}:∀ {Q:Ex->Env->St->Prop} {env:Env} {N:St},vc P d Q env N->vc P d (fun e env' N'=>Q e env' N'/\N.length<=N'.length) env N:=by
 induction d with
 |skip=>intro Q env N h;exact⟨h,Za3 _⟩
 |reg ops=>intro Q env N h;exact A34 h
 |drw xs ys=>
  intro Q env N h
  refine Cv (A34 h) fun env1 N1 h1=>Cv (A34 h1.1) fun env2 N2 h2=>⟨h2.1,?_⟩
  have:=h1.2
  have:=h2.2
  omega
 |seq a b iha ihb=>
  intro Q env N h
  refine Bh (d:=a) (iha h) fun e env1 N1 he=> ?_
  cases e with
  |nxt=>exact Bh (ihb he.1) fun e env2 N2 h2=>⟨h2.1,Zbc he.2 h2.2⟩
  |ext j=>exact he
  |ret=>exact he
 |cnd c a b iha ihb=>
  intro Q env N h
  obtain⟨t,ht,h1,h2⟩:=h
  exact⟨t,ht,fun e=>iha (h1 e),fun e=>ihb (h2 e)⟩
 |blk id a ih=>
  intro Q env N h
  refine Bh (d:=a) (ih h) fun e env1 N1 he=> ?_
  cases e with
  |nxt=>exact he
  |ext j=>
   obtain⟨h1,h2⟩:=he
   simp only at h1 ⊢
   split at h1
   ·rename_i hj;rw[if_pos hj];exact⟨h1,h2⟩
   ·rename_i hj;rw[if_neg hj];exact⟨h1,h2⟩
  |ret=>exact he
 |lop a ih=>
  intro Q env N h
  obtain⟨I,μ,hI,hs⟩:=h
  refine⟨fun env1 N1=>I env1 N1/\N.length<=N1.length,μ,⟨hI,Za3 _⟩,fun env1 N1 hi=>Bh (ih (hs env1 N1 hi.1)) fun e env2 N2 he=> ?_⟩
  cases e with
  |nxt=>exact⟨⟨he.1.1,Zbc hi.2 he.2⟩,he.1.2⟩
  |ext j=>exact⟨he.1,Zbc hi.2 he.2⟩
  |ret=>exact⟨he.1,Zbc hi.2 he.2⟩
 |ext id=>intro Q env N h;exact⟨h,Za3 _⟩
 |ret=>intro Q env N h;exact⟨h,Za3 _⟩
theorem Hu {P:Program} {f:Nat} {F:Fn1} {args:List GV} {N:St} {Post:GV->St->Prop} (hF:A8 P f=some F) (hl:args.length<=F.n)
  (h:vc P F.c (fun e env U=>A6u e=true/\∃ r,resG env U F.rs=some r/\Post r U) (env0 args) N):∃ r U,Ret P f args N r U/\Post r U:=
 F4 hF hl (Bh (vc_len h) fun e env U he=>⟨he.1.1,by obtain⟨⟨_,r,h1,h2⟩,h3⟩:=he;exact⟨r,h1,h3,h2⟩⟩)
theorem Hp.crs {N U:St} {rs:List Thg} (H:Hp N U rs) {k:Nat} {c v:GV} {n:Nat} (hk:rs[k]? =some (crs c v n)):∃(g i:Nat) (h:Int),c= .ptr g 0/\i<=n/\bk U g=some (.row 1 [v,gi i,gi h])/\∀(i':Nat) (h':Int),i'≤n->Hp N (U.set g (some (.row 1 [v,gi i',gi h']))) rs:=by
 obtain⟨a,⟨g,i,h,rfl,rfl,hi,hB⟩,hnd,hbd,ht⟩:=(H.pick k hk).turn
 refine⟨g,i,h,rfl,hi,hB,fun i' h' hi'=> ?_⟩
 have:=Hp.unpick (i:=k) (ht (U':=U.set g (some (.row 1 [v,gi i',gi h']))) (r':=Sy.crs (.ptr g 0) v n) (a':=[g]) ⟨by simp,fun g' h=>.inl h,by simp,fun g' h h'=>Iw fun e=>h' (by rw[e];exact Zac)⟩ ⟨g,i',h',rfl,rfl,hi',Amp hB⟩) (Zai.1 hk).1
 obtain⟨h1,h2⟩:=Zai.1 hk
 rw[<- h2,Zbj] at this
 exact this
theorem Hp.ptCur {N U:St} {rs:List Thg} {g n:Nat} {v:GV} {h:Int} (H:Hp N U (Sy.pt 1 g [v,gi 0,gi h]::rs)):Hp N U (Sy.crs (.ptr g 0) v n::rs):=
 H.conv fun fp ⟨h1,h2⟩=>⟨g,0,h,rfl,h1,Nat.zero_le _,h2⟩
def A7r:Fn1:=⟨32,[.t 2],(rg [o 2 (.mov (.k .nilP))] (rg [oM 5 0,oN 6 5,o 7 (.bin .add (ki 93901) (.t 6)),oM 3 7] (.seq (rg [oV 4 (ki 0)] (oH 0 (.seq (rg [oM 8 4,oM 9 0,oN 10 9,oB 11 .lss 8 10,oM 12 11,jM 13 12 4,jE 14 12 .lss 13 4000,oQ 15 12 14] (oJ 15 0)) (.seq (.blk 1 (.reg [oM 18 3,oE 19 .mul 18 131,oM 20 0,oM 21 4,oI 22 1 20 21,oL 23 22,o 24 (.cvi .i64 (.t 23)),oB 25 .add 19 24,oZ 26 25 7,oE 27 .and 26 1073741823,oM 3 27])) (.reg [oM 16 4,oZ 17 16 1,oM 4 17]))))) (rg [oM 28 0,oM 29 3,o 30 (.build [.nilS,z0,z0] [(0,1,(.t 28)),(2,1,(.t 29))]),oX 31 30,oM 2 31] .ret))))⟩
theorem Ags:A8 Tryz.prog 161=some A7r:=by kernel_rfl
def A36:Fn1:=⟨58,[.t 2],(rg [oV 2 (ki 0)] (rg [oM 4 0,oM 5 0,oK 6 5,oF 7 2 6,oL 8 7,oE 9 .mul 8 6364136223846793005,oZ 10 9 1442695040888963407,oK 11 4,oF 12 2 11,oS 1 12 10] (dw [oM 13 0,oK 14 13,oF 15 2 14,oL 16 15,o 17 (.bin .shr (.t 16) (.k (.int .u64 33))),oM 18 0,oK 19 18,oF 20 2 19,oL 21 20] [o 22 (.bin .shr (.t 21) (.k (.int .u64 45))),oB 23 .xor 17 22,oE 24 .and 23 255,oM 3 24] (.seq (dw [oM 25 0,oK 26 25,oF 27 1 26,oL 28 27,oM 29 0,oK 30 29,oF 31 0 30,oL 32 31] [oN 33 32,oB 34 .lss 28 33] (oG 34 (dw [oM 35 3,oM 36 0,oK 37 36,oF 38 0 37,oL 39 38,oM 40 0,oK 41 40,oF 42 1 41,oL 43 42] [oI 44 1 39 43,oL 45 44,o 46 (.cvi .i64 (.t 45)),oB 47 .add 35 46,oE 48 .and 47 255,oM 3 48] (.reg [oM 49 0,oM 50 0,oK 51 50,oF 52 1 51,oL 53 52,oZ 54 53 1,oK 55 49,oF 56 1 55,oS 1 56 54])))) (rg [oM 57 3,oM 2 57] .ret)))))⟩
theorem Acv:A8 Tryz.prog 188=some A36:=by kernel_rfl
def Kv:Fn1:=⟨37,[.t 4],(rg [oV 4 (ki 0)] (.seq (rg [oM 9 1,oE 10 .leq 9 0] (oG 10 (oR 4 (ki 0)))) (.seq (rg [oM 11 1,oE 12 .leq 11 256] (oG 12 (rg [oM 13 0,oC 14 188 13,oM 15 1,oB 16 .rem 14 15,oM 4 16] .ret))) (rg [oM 17 0,oC 18 188 17,oM 5 18] (rg [oM 19 0,oC 20 188 19,oM 6 20] (rg [oM 21 0,oC 22 188 21,oM 7 22] (rg [oM 23 0,oC 24 188 23,oM 8 24] (rg [oM 25 5,oE 26 .mul 25 16777216,oM 27 6,oE 28 .mul 27 65536,oB 29 .add 26 28,oM 30 7,oE 31 .mul 30 256,oB 32 .add 29 31,oM 33 8,oB 34 .add 32 33,oM 35 1,oB 36 .rem 34 35,oM 4 36] .ret))))))))⟩
theorem Aa0:A8 Tryz.prog 163=some Kv:=by kernel_rfl
theorem Acw (N:St) (v:GV) (bs:List Int) (hv:RS pB.kd N v bs) (hl:bs.length<=1099511627776):∃ c U,Ret Tryz.prog 161 [v] N c U/\Hp N U [crs c v bs.length]:=by
 refine Tr (rs:=fun c=>[crs c v bs.length]) Ags (Z0z rfl) ?_
 obtain⟨fa,ha,_⟩:=Aqp 1073741823 (by decide)
 have ha:∀ a,binG .and (.int .i64 a) (.int .i64 1073741823)=some (.int .i64 (fa a)):=ha
 simp(disch:=omega) only[go_sem,A7r,hv.len]
 refine Dg (min bs.length 4000) 4 (fun i env U=>env 0=v/\(∃ h:Int,env 3=gi h)/\N=U) rfl ⟨rfl,⟨_,rfl⟩,rfl⟩ ?_ ?_
 ·rintro i env U hi e4 c0 ⟨e0,⟨h,e3⟩,rfl⟩
  have hi':i<bs.length:=by omega
  have c1:decide ((i:Int)<bs.length)=true:=by simp;omega
  have c2:decide ((i:Int)<4000)=true:=by simp;omega
  simp(disch:=omega) only[go_sem,c1,c2,e0,e3,e4,hv.len,Agr hv hi',ha]
  exact⟨_,rfl⟩
 ·rintro env U e4 c0 ⟨e0,⟨h,e3⟩,rfl⟩
  by_cases hb:bs.length<=4000
  ·have c1:decide (((min bs.length 4000:Nat):Int)<bs.length)=false:=by simp;omega
   simp only[go_sem,c1,e0,e3,e4,hv.len,hv.cell]
   exact⟨_,rfl,((Hp.refl N).new 1 _).ptCur⟩
  ·have c1:decide (((min bs.length 4000:Nat):Int)<bs.length)=true:=by simp;omega
   have c2:decide (((min bs.length 4000:Nat):Int)<4000)=false:=by simp;omega
   simp only[go_sem,c1,c2,e0,e3,e4,hv.len,hv.cell]
   exact⟨_,rfl,((Hp.refl N).new 1 _).ptCur⟩
theorem Hv {N0 N:St} {rs:List Thg} (H:Hp N0 N rs) {k:Nat} {c v:GV} {bs:List Int} (hk:rs[k]? =some (crs c v bs.length)) (hv:RS pB.kd N0 v bs) (hl:bs.length<=1099511627776):
  ∃ r U,Ret Tryz.prog 188 [c] N r U/\∃ x:Int,r=gi x/\0<=x/\x<=255/\Hp N0 U rs:=by
 obtain⟨g,i,h,rfl,hi,hB,hm⟩:=H.crs hk
 refine Hu Acv (Z0z rfl) ?_
 obtain⟨fa,ha,hfa⟩:=Aqp 255 (by decide)
 have ha:∀ a,binG .and (.int .i64 a) (.int .i64 255)=some (.int .i64 (fa a)):=ha
 obtain⟨f33,h33⟩:=Aqo 33 (by decide)
 obtain⟨f45,h45⟩:=Aqo 45 (by decide)
 obtain⟨fx,hx⟩:=xor_ex
 have hs1:∀ y:Int,stG 1 N (.ptr g 2) (.int .i64 y)=some (.tup [],N.set g (some (.row 1 [v,gi i,gi y]))):=fun y=>Aqm (x:=.int .i64 y) (n:=1) hB (by simp) (by decide) rfl
 have hs2:∀ y x:Int,stG 1 (N.set g (some (.row 1 [v,gi i,gi y]))) (.ptr g 1) (.int .i64 x)=some (.tup [],N.set g (some (.row 1 [v,gi x,gi y]))):=fun y x=>by
  rw[Aqm (x:=.int .i64 x) (n:=1) (Amp hB) (by simp) (by decide) rfl,Zbx];rfl
 have hr:∀ y:Int,rdB (N.set g (some (.row 1 [v,gi i,gi y]))) g=some [v,gi i,gi y]:=fun y=>Aqn (Amp hB)
 have hlen:∀ y x:Int,(N.set g (some (.row 1 [v,gi x,gi y]))).length=N.length:=fun y x=>by simp
 simp +contextual only[go_sem,A36,A7 (Aqn hB),hs1,A7 (hr _),h33,h45,hx,ha,hv.len,hv.notup]
 refine⟨fun hn=> ?_,fun hn=> ?_⟩
 ·have hi':i<bs.length:=by simpa using hn
  have hb1:=(Agr hv hi').1
  have hb2:∀ y:Int,ldG false 1 (N.set g (some (.row 1 [v,gi i,gi y]))) (atz 1 v i)=some (.int .u8 bs[i]):=fun y=>(Agr (hv.pre (hm i y hi).sub) hi').2
  simp(disch:=omega) only[go_sem,A7 (hr _),hb1,hb2,ha,hs2]
  exact⟨_,rfl,_,rfl,(hfa _).1,(hfa _).2,hm _ _ hi'⟩
 ·exact⟨_,rfl,_,rfl,(hfa _).1,(hfa _).2,hm _ _ hi⟩
theorem Lg {N0 N:St} {rs:List Thg} (H:Hp N0 N rs) {k:Nat} {c v:GV} {bs:List Int} (hk:rs[k]? =some (crs c v bs.length)) (hv:RS pB.kd N0 v bs) (hl:bs.length<=1099511627776) (n:Int) (hn:n<=4611686018427387904):
  ∃ r U,Ret Tryz.prog 163 [c,gi n] N r U/\∃ x:Int,r=gi x/\0<=x/\(n<=0->x=0)/\(0<n->x<n)/\Hp N0 U rs:=by
 refine Hu Aa0 (Z0z rfl) ?_
 by_cases h0:n<=0
 ·have c0:decide (n<=0)=true:=decide_eq_true h0
  simp only[go_sem,Kv,c0]
  exact⟨_,rfl,0,rfl,by omega,fun _=>rfl,fun h=>by omega,H⟩
 ·have c0:decide (n<=0)=false:=decide_eq_false h0
  have hn0:¬ (n=0):=by omega
  by_cases h1:n<=256
  ·have c1:decide (n<=256)=true:=decide_eq_true h1
   simp only[go_sem,Kv,c0,c1]
   obtain⟨r,U,R,x,rfl,hx0,hx1,H1⟩:=Hv H hk hv hl
   refine Ce R ?_
   simp only[go_sem,hn0]
   exact⟨_,rfl,_,rfl,Zb4 _ hx0,fun h=>by omega,fun h=>Zbq _ h,H1⟩
  ·have c1:decide (n<=256)=false:=decide_eq_false h1
   simp only[go_sem,Kv,c0,c1]
   obtain⟨r,U1,R,x,rfl,hx0,hx1,H1⟩:=Hv H hk hv hl
   refine Ce R ?_
   simp only[go_sem]
   obtain⟨r,U2,R,y,rfl,hy0,hy1,H2⟩:=Hv H1 hk hv hl
   refine Ce R ?_
   simp only[go_sem]
   obtain⟨r,U3,R,z,rfl,hz0,hz1,H3⟩:=Hv H2 hk hv hl
   refine Ce R ?_
   simp only[go_sem]
   obtain⟨r,U4,R,w,rfl,hw0,hw1,H4⟩:=Hv H3 hk hv hl
   refine Ce R ?_
   simp(disch:=omega) only[go_sem,hn0]
   exact⟨_,rfl,_,rfl,Zb4 _ (by omega),fun h=>by omega,fun h=>Zbq _ h,H4⟩
def Acy:Fn1:=⟨15,[.t 6],(rg [oV 6 kf] (rg [oM 7 0,oM 8 1,oB 9 .geq 7 8,oM 10 9,jM 11 10 0,jM 12 10 2,jB 13 10 .leq 11 12,oQ 14 10 13,oM 6 14] .ret))⟩
theorem Aka:A8 Tryz.prog 122=some Acy:=by kernel_rfl
def A7t:Fn1:=⟨15,[.t 6],(rg [oV 6 kf] (rg [oM 7 0,oM 8 1,oB 9 .geq 7 8,oM 10 9,jM 11 10 0,jM 12 10 2,jB 13 10 .leq 11 12,oQ 14 10 13,oM 6 14] .ret))⟩
theorem Agt:A8 Tryz.prog 236=some A7t:=by kernel_rfl
def A7v:Fn1:=⟨23,[.t 2],(rg [oV 2 kf] (.seq (rg [oV 3 (ki 0)] (oH 0 (.seq (rg [oM 4 3,oM 5 0,o 6 (.len true (.t 5)),oB 7 .lss 4 6] (oJ 7 0)) (.seq (.blk 1 (rg [oM 10 0,oM 11 3,o 12 (.idx (.t 10) (.t 11)),o 13 (.bin .lss (.t 12) (.k (.int .u8 97))),oM 14 13,vM 15 14 0,vM 16 14 3,og 17 14 false (.idx (.t 15) (.t 16)),og 18 14 false (.bin .gtr (.t 17) (.k (.int .u8 122))),oP 19 14 18] (oG 19 (oR 2 kf)))) (.reg [oM 8 3,oZ 9 8 1,oM 3 9]))))) (rg [oM 20 0,o 21 (.len true (.t 20)),o 22 (.call 122 [(.t 21),(ki 1),(ki 8)]),oM 2 22] .ret)))⟩
theorem Agu:A8 Tryz.prog 348=some A7v:=by kernel_rfl
def A7x:Fn1:=⟨19,[.t 2],(rg [oV 2 kf] (.seq (rg [oV 3 (ki 0)] (oH 0 (.seq (rg [oM 4 3,oM 5 0,o 6 (.len true (.t 5)),oB 7 .lss 4 6] (oJ 7 0)) (.seq (.blk 1 (rg [oM 10 0,oM 11 3,o 12 (.idx (.t 10) (.t 11)),o 13 (.cvi .i64 (.t 12)),o 14 (.call 236 [(.t 13),(ki 97),(ki 122)]),oU 15 14] (oG 15 (oR 2 kf)))) (.reg [oM 8 3,oZ 9 8 1,oM 3 9]))))) (rg [oM 16 0,o 17 (.len true (.t 16)),o 18 (.call 236 [(.t 17),(ki 1),(ki 8)]),oM 2 18] .ret)))⟩
theorem Agv:A8 Tryz.prog 341=some A7x:=by kernel_rfl
def A7z:Fn1:=⟨19,[.t 2],(rg [oV 2 kf] (.seq (rg [oV 3 (ki 0)] (oH 0 (.seq (rg [oM 4 3,oM 5 0,oN 6 5,oB 7 .lss 4 6] (oJ 7 0)) (.seq (.blk 1 (rg [oM 10 0,oM 11 3,oI 12 1 10 11,oL 13 12,o 14 (.call 122 [(.t 13),(ki 0),(ki 1000)]),oU 15 14] (oG 15 (oR 2 kf)))) (.reg [oM 8 3,oZ 9 8 1,oM 3 9]))))) (rg [oM 16 0,oN 17 16,oE 18 .eql 17 3,oM 2 18] .ret)))⟩
theorem Agw:A8 Tryz.prog 167=some A7z:=by kernel_rfl
def A81:Fn1:=⟨18,[.t 2],(rg [oV 2 kf] (.seq (rg [oM 5 0,oN 6 5,oV 7 (ki 0)] (oH 0 (rg [oB 8 .lss 7 6] (.seq (oJ 8 0) (.seq (.blk 1 (rg [oI 9 1 5 7,oL 10 9,oM 4 10] (rg [oM 11 4,o 12 (.call 236 [(.t 11),(ki 0),(ki 1000)]),oU 13 12] (oG 13 (oR 2 kf))))) (.reg [oZ 14 7 1,oM 7 14])))))) (rg [oM 15 0,oN 16 15,oE 17 .eql 16 3,oM 2 17] .ret)))⟩
theorem Agx:A8 Tryz.prog 176=some A81:=by kernel_rfl
def Ad0:Fn1:=⟨11,[.t 2],(rg [oX 1 0,oV 2 kf] (rg [oF 3 0 1,oL 4 3,o 5 (.call 122 [(.t 4),(ki 0),(ki 2)]),oM 6 5,jF 7 6 1 1,jL 8 6 7,og 9 6 true (.call 122 [(.t 8),(ki 1),(ki 1000)]),oQ 10 6 9,oM 2 10] .ret))⟩
theorem Akb:A8 Tryz.prog 168=some Ad0:=by kernel_rfl
def Ad2:Fn1:=⟨11,[.t 2],(rg [oX 1 0,oV 2 kf] (rg [oF 3 0 1,oL 4 3,o 5 (.call 236 [(.t 4),(ki 0),(ki 2)]),oM 6 5,jF 7 6 1 1,jL 8 6 7,og 9 6 true (.call 236 [(.t 8),(ki 1),(ki 1000)]),oQ 10 6 9,oM 2 10] .ret))⟩
theorem Akc:A8 Tryz.prog 272=some Ad2:=by kernel_rfl
def Ad4:Fn1:=⟨21,[.t 4],(rg [oX 3 1,oV 4 kf] (dw [oM 5 0,oC 6 167 5,oM 7 6,jW 8 7 2 3,jC 9 7 168 8,oQ 10 7 9,oM 11 10,jF 12 11 1 3,jL 13 11 12,jM 14 11 0,jF 15 11 0 3,jL 16 11 15,jI 17 11 1 14 16,jL 18 11 17] [jB 19 11 .leq 13 18,oQ 20 11 19,oM 4 20] .ret))⟩
theorem Akd:A8 Tryz.prog 45=some Ad4:=by kernel_rfl
def Ad6:Fn1:=⟨21,[.t 4],(rg [oX 3 1,oV 4 kf] (dw [oM 5 0,oC 6 176 5,oM 7 6,jW 8 7 2 3,jC 9 7 272 8,oQ 10 7 9,oM 11 10,jF 12 11 1 3,jL 13 11 12,jM 14 11 0,jF 15 11 0 3,jL 16 11 15,jI 17 11 1 14 16,jL 18 11 17] [jB 19 11 .leq 13 18,oQ 20 11 19,oM 4 20] .ret))⟩
theorem Ake:A8 Tryz.prog 170=some Ad6:=by kernel_rfl
def A0h:Fn1:=⟨5,[.t 2],(rg [oV 2 kf] (rg [oM 3 0,o 4 (.call 122 [(.t 3),(ki 2),(ki 5)]),oM 2 4] .ret))⟩
theorem Aa1:A8 Tryz.prog 332=some A0h:=by kernel_rfl
def Tt:Fn1:=⟨13,[.t 2],(rg [oV 2 kf] (rg [oM 3 0,oE 4 .eql 3 1,oM 5 4,vM 6 5 0,vE 7 5 .eql 6 4,oP 8 5 7,oM 9 8,vM 10 9 0,vE 11 9 .eql 10 6,oP 12 9 11,oM 2 12] .ret))⟩
theorem A6v:A8 Tryz.prog 333=some Tt:=by kernel_rfl
def A83:Fn1:=⟨5,[.t 2],(rg [oV 2 kf] (rg [oM 3 0,o 4 (.call 236 [(.t 3),(ki 2),(ki 5)]),oM 2 4] .ret))⟩
theorem Agy:A8 Tryz.prog 342=some A83:=by kernel_rfl
def A85:Fn1:=⟨13,[.t 2],(rg [oV 2 kf] (rg [oM 3 0,oE 4 .eql 3 1,oM 5 4,vM 6 5 0,vE 7 5 .eql 6 4,oP 8 5 7,oM 9 8,vM 10 9 0,vE 11 9 .eql 10 6,oP 12 9 11,oM 2 12] .ret))⟩
theorem Agz:A8 Tryz.prog 343=some A85:=by kernel_rfl
def A0j:Fn1:=⟨45,[.t 8],(rg [oV 8 kf] (.seq (rg [oM 9 0,o 10 (.call 122 [(.t 9),(ki 1),(ki 7)]),oU 11 10,oM 12 11,vM 13 12 1,vC 14 12 348 13,vU 15 12 14,oP 16 12 15,oM 17 16,vM 18 17 0,vC 19 17 332 18,vM 20 17 19,jM 21 20 2,jC 22 20 348 21,jU 23 20 22,og 24 17 false (.pick (.t 20) (.t 23) kf),oP 25 17 24,oM 26 25,vM 27 26 0,vC 28 26 332 27,vU 29 26 28,vM 30 26 29,jM 31 30 2,og 32 30 true (.bin .neq (.t 31) (.k s0)),og 33 26 false (.pick (.t 30) (.t 32) kf),oP 34 26 33] (oG 34 (oR 8 kf))) (rg [oM 35 3,oE 36 .eql 35 0,oM 37 36,vM 38 37 0,vC 39 37 333 38,vM 40 37 39,jM 41 40 3,og 42 40 true (.call 122 [(.t 41),(ki 0),(ki 999999)]),og 43 37 false (.pick (.t 40) (.t 42) kf),oP 44 37 43,oM 8 44] .ret)))⟩
theorem Aa2:A8 Tryz.prog 279=some A0j:=by kernel_rfl
def A38:Fn1:=⟨46,[.t 8],(rg [oV 8 kf] (.seq (rg [oM 10 0,o 11 (.call 236 [(.t 10),(ki 1),(ki 7)]),oU 12 11,oM 13 12,vM 14 13 1,vC 15 13 341 14,vU 16 13 15,oP 17 13 16] (oG 17 (oR 8 kf))) (rg [oM 18 2,o 19 (.bin .eql (.t 18) (.k s0)),oM 20 19,jM 21 20 0,jC 22 20 342 21,jU 23 20 22,oQ 24 20 23,oM 25 24,vM 26 25 2,vC 27 25 341 26,vM 28 25 27,jM 29 28 0,jC 30 28 342 29,og 31 25 false (.pick (.t 28) (.t 30) kf),oP 32 25 31,oM 9 32] (rg [oM 33 9,oM 34 33,jM 35 34 3,jE 36 34 .eql 35 0,jM 37 34 36,vM 38 37 0,vC 39 37 343 38,vM 40 37 39,jM 41 40 3,og 42 40 true (.call 236 [(.t 41),(ki 0),(ki 999999)]),og 43 37 false (.pick (.t 40) (.t 42) kf),og 44 34 true (.pick (.t 37) kt (.t 43)),oQ 45 34 44,oM 8 45] .ret))))⟩
theorem Ad7:A8 Tryz.prog 273=some A38:=by kernel_rfl
def Ad9:Fn1:=⟨71,[.t 2],(rg [oX 1 0,oV 2 kf] (.seq (dw [oF 3 0 1,oW 4 2 3,oC 5 168 4,oU 6 5,oM 7 6,vF 8 7 3 1,vL 9 7 8,vC 10 7 167 9,vU 11 7 10,oP 12 7 11,oM 13 12,vF 14 13 3 1,vL 15 13 14,vF 16 13 0 1,vF 17 13 0 16,vL 18 13 17,vI 19 13 1 15 18,vL 20 13 19,vF 21 13 0 1,vF 22 13 1 21,vL 23 13 22,vE 24 13 .sub 23 1,vB 25 13 .neq 20 24,oP 26 13 25,oM 27 26,vF 28 27 2 1,vL 29 27 28,og 30 27 false (.call 122 [(.t 29),(ki 1),(ki 10000)]),vU 31 27 30,oP 32 27 31,oM 33 32,vF 34 33 4 1,vL 35 33 34,vF 36 33 5 1,vL 37 33 36,vF 38 33 6 1,vL 39 33 38,vF 40 33 7 1,vL 41 33 40] [og 42 33 false (.call 279 (oT [35,37,39,41])),vU 43 33 42,oP 44 33 43] (oG 44 (oR 2 kf))) (.seq (rg [oF 45 4 1,oL 46 45] (.blk 0 (rg [oE 48 .eql 46 7,oM 47 48] (cn 47 (rg [oF 49 3 1,oL 50 49,oF 51 8 1,oW 52 2 51,oD 53 45 50 52,oM 2 53] .ret) (rg [oE 55 .eql 46 6,oM 54 55] (oG 54 (rg [oF 56 8 1,oW 57 2 56,o 58 (.build [z0,z0] []),o 59 (.eqs false [.i .i64,.i .i64] (.t 57) (.t 58)),oM 60 59,vF 61 60 3 1,vL 62 60 61,vF 63 60 8 1,vW 64 60 2 63,vD 65 60 45 62 64,oP 66 60 65,oM 2 66] .ret))))))) (rg [oF 67 8 1,oW 68 2 67,o 69 (.build [z0,z0] []),o 70 (.eqs false [.i .i64,.i .i64] (.t 68) (.t 69)),oM 2 70] .ret))))⟩
theorem Akf:A8 Tryz.prog 185=some Ad9:=by kernel_rfl
def Adb:Fn1:=⟨71,[.t 2],(rg [oX 1 0,oV 2 kf] (.seq (dw [oF 5 0 1,oW 6 2 5,oC 7 272 6,oU 8 7,oM 9 8,vF 10 9 3 1,vL 11 9 10,vC 12 9 176 11,vU 13 9 12,oP 14 9 13,oM 15 14,vF 16 15 3 1,vL 17 15 16,vF 18 15 0 1,vF 19 15 0 18,vL 20 15 19,vI 21 15 1 17 20,vL 22 15 21,vF 23 15 0 1,vF 24 15 1 23,vL 25 15 24] [vE 26 15 .sub 25 1,vB 27 15 .neq 22 26,oP 28 15 27,oM 29 28,vF 30 29 2 1,vL 31 29 30,og 32 29 false (.call 236 [(.t 31),(ki 1),(ki 10000)]),vU 33 29 32,oP 34 29 33] (oG 34 (oR 2 kf))) (rg [oF 35 8 1,oW 36 2 35,o 37 (.build [z0,z0] []),o 38 (.eqs false [.i .i64,.i .i64] (.t 36) (.t 37)),oM 3 38] (rg [oM 39 3,oM 4 39] (.seq (rg [oF 40 4 1,oL 41 40] (.blk 0 (rg [oE 43 .eql 41 7,oM 42 43] (cn 42 (.reg [oF 44 3 1,oL 45 44,oF 46 8 1,oW 47 2 46,oD 48 170 45 47,oM 4 48]) (rg [oE 50 .eql 41 6,oM 49 50] (oG 49 (.reg [oM 51 3,oM 52 51,vF 53 52 3 1,vL 54 52 53,vF 55 52 8 1,vW 56 52 2 55,vD 57 52 170 54 56,oP 58 52 57,oM 4 58]))))))) (rg [oM 59 4,oM 60 59,jF 61 60 4 1,jL 62 60 61,jF 63 60 5 1,jL 64 60 63,jF 65 60 6 1,jL 66 60 65,jF 67 60 7 1,jL 68 60 67,og 69 60 true (.call 273 (oT [62,64,66,68])),oQ 70 60 69,oM 2 70] .ret))))))⟩
theorem Akg:A8 Tryz.prog 169=some Adb:=by kernel_rfl
theorem Ac {P:Program} {env:Env} {N:St} {K:Kt} {r:List Op1} {d:Option Nat} {D:Bool} {f:Nat} {args:List GV} {b:Bool} (h:Ret P f args N (.bool b) N) (ht:b=true->Al D P r K (upo env d (.bool true)) N) (hf:b=false->Al D P r K (upo env d (.bool false)) N):A9x D f args P r K env d N:=by
 cases b with
 |true=>exact Ao h (ht rfl)
 |false=>exact Ao h (hf rfl)
def inB (n a b:Int):Bool:=decide (a<=n)&&decide (n<=b)
theorem Di {n a b:Int}:inB n a b=true↔a<=n/\n<=b:=by simp[inB]
theorem Bd (N:St) (n a b:Int):Ret Tryz.prog 122 [gi n,gi a,gi b] N (.bool (inB n a b)) N:=by
 refine B7 Aka (Z0z rfl) trivial ?_
 simp +contextual only[go_sem,Acy,inB]
theorem Bf (N:St) (n a b:Int):Ret Tryz.prog 236 [gi n,gi a,gi b] N (.bool (inB n a b)) N:=by
 refine B7 Agt (Z0z rfl) trivial ?_
 simp +contextual only[go_sem,A7t,inB]
def bl (s:ByteArray):List UInt8:=s.data.toList
theorem P9 (s:ByteArray):(bl s).length=s.size:=by
 unfold bl;rw[Array.length_toList];rfl
theorem Amq {s:ByteArray} {i:Nat} (hi:i<(bl s).length):idxG (.str s) (some i)=some (.int .u8 (((bl s)[i].toNat:Nat):Int)):=by
 have h2:i<s.size:=by rw[<- P9];exact hi
 have e:s[i]? =some (bl s)[i]:=by
  rw[getElem?_pos s i h2];rfl
 simp only[idxG,e,Zbk];rfl
theorem u8_lt (b:UInt8):b.toNat<256:=b.toNat_lt
def lowB (b:UInt8):Bool:=inB (b.toNat:Int) 97 122
def Ea (s:ByteArray):Bool:=(bl s).all lowB&&inB s.size 1 8
theorem Hf (N:St) (s:ByteArray) (hs:s.size<=1099511627776):Ret Tryz.prog 348 [.str s] N (.bool (Ea s)) N:=by
 refine B7 Agu (Z0z rfl) trivial ?_
 simp only[go_sem,A7v]
 refine Dg (bl s).length 3 (fun i env U=>env 0= .str s/\((bl s).take i).all lowB=true/\N <+: U) rfl ⟨rfl,rfl,Zab _⟩ ?_ ?_
 ·rintro i env U hi e3 c0 ⟨e0,ha,hp⟩
  have hl:=P9 s
  rw[hl] at c0
  have hf:=fun h=>Cp (p:=lowB) hi h
  have ht:=C6 hi ha
  simp +contextual (disch:=omega) only[go_sem,c0,e0,e3,Amq hi,hp]
  simp only[lowB,inB,Ea] at*
  generalize(((bl s)[i].toNat:Nat):Int)=b at*
  grind
 ·rintro env U e3 c0 ⟨e0,ha,hp⟩
  rw[Zad] at ha
  rw[P9] at c0 e3
  simp only[go_sem,c0,e0,e3]
  refine Ao (Bd U _ _ _) ?_
  simp only[go_sem,Ea,ha,hp]
theorem Fm (N:St) (s:ByteArray) (hs:s.size<=1099511627776):Ret Tryz.prog 341 [.str s] N (.bool (Ea s)) N:=by
 refine B7 Agv (Z0z rfl) trivial ?_
 simp only[go_sem,A7x]
 refine Dg (bl s).length 3 (fun i env U=>env 0= .str s/\((bl s).take i).all lowB=true/\N <+: U) rfl ⟨rfl,rfl,Zab _⟩ ?_ ?_
 ·rintro i env U hi e3 c0 ⟨e0,ha,hp⟩
  have hl:=P9 s
  rw[hl] at c0
  have hf:=fun h=>Cp (p:=lowB) hi h
  have ht:=C6 hi ha
  have h8:=u8_lt (bl s)[i]
  simp(disch:=omega) only[go_sem,c0,e0,e3,Amq hi,As1]
  refine Ac (Bf U _ _ _) (fun h=> ?_) (fun h=> ?_)
  ·simp(disch:=omega) only[go_sem,e0,e3,hp]
   exact ht h
  ·simp only[go_sem,e0,e3,hp]
   simp[Ea,hf h]
 ·rintro env U e3 c0 ⟨e0,ha,hp⟩
  rw[Zad] at ha
  rw[P9] at c0 e3
  simp only[go_sem,c0,e0,e3]
  refine Ao (Bf U _ _ _) ?_
  simp only[go_sem,Ea,ha,hp]
def seqB (n:Int):Bool:=inB n 0 1000
def okK (l:List Int):Bool:=l.all seqB&&decide (l.length=3)
theorem D8 {l:List Int} (h:okK l=true):l.length=3:=by
 simp only[okK,Zaa,decide_eq_true_eq] at h
 exact h.2
theorem Bv (N:St) (v:GV) (l:List Int) (h:RS pI.kd N v l) (hl:l.length<=1099511627776):Ret Tryz.prog 167 [v] N (.bool (okK l)) N:=by
 refine B7 Agw (Z0z rfl) trivial ?_
 simp only[go_sem,A7z]
 refine Dg l.length 3 (fun i env U=>env 0=v/\(l.take i).all seqB=true/\N <+: U) rfl ⟨rfl,rfl,Zab _⟩ ?_ ?_
 ·rintro i env U hi e3 c0 ⟨e0,ha,hp⟩
  have hf:=fun h=>Cp (p:=seqB) hi h
  have ht:=C6 hi ha
  simp only[go_sem,c0,e0,e3,h.len,Cw (h.pre hp) hi]
  refine Ac (Bd U _ _ _) (fun h=> ?_) (fun h=> ?_)
  ·simp(disch:=omega) only[go_sem,e0,e3,hp]
   exact ht h
  ·simp only[go_sem,e0,e3,hp]
   simp[okK,hf h]
 ·rintro env U e3 c0 ⟨e0,ha,hp⟩
  rw[Zad] at ha
  simp only[go_sem,c0,e0,e3,h.len,hp,okK,ha]
  exact Amj
theorem Bw (N:St) (v:GV) (l:List Int) (h:RS pI.kd N v l) (hl:l.length<=1099511627776):Ret Tryz.prog 176 [v] N (.bool (okK l)) N:=by
 refine B7 Agx (Z0z rfl) trivial ?_
 simp only[go_sem,A81,h.len]
 refine Dg l.length 7 (fun i env U=>env 0=v/\env 5=v/\env 6=gi l.length/\(l.take i).all seqB=true/\N <+: U) rfl ⟨rfl,rfl,rfl,rfl,Zab _⟩ ?_ ?_
 ·rintro i env U hi e7 c0 ⟨e0,e5,e6,ha,hp⟩
  have hf:=fun h=>Cp (p:=seqB) hi h
  have ht:=C6 hi ha
  simp only[go_sem,c0,e0,e5,e6,e7,h.len,Cw (h.pre hp) hi]
  refine Ac (Bf U _ _ _) (fun h=> ?_) (fun h=> ?_)
  ·simp(disch:=omega) only[go_sem,e0,e5,e6,e7,hp]
   exact ht h
  ·simp only[go_sem,e0,e5,e6,e7,hp]
   simp[okK,hf h]
 ·rintro env U e7 c0 ⟨e0,e5,e6,ha,hp⟩
  rw[Zad] at ha
  simp only[go_sem,c0,e0,e5,e6,e7,h.len,hp,okK,ha]
  exact Amj
def Ik (d:Dot):Bool:=inB d.rep 0 2&&inB d.seq 1 1000
theorem Pa {d:Dot}:Ik d=true↔(0<=d.rep/\d.rep<=2)/\1<=d.seq/\d.seq<=1000:=by simp[Ik,Di]
theorem Gq (N:St) (d:Dot):Ret Tryz.prog 168 [.agg [gi d.rep,gi d.seq]] N (.bool (Ik d)) N:=by
 refine B7 Akb (Z0z rfl) trivial ?_
 simp only[go_sem,Ad0]
 refine Ac (Bd _ _ _ _) (fun h=> ?_) (fun h=> ?_)
 ·simp only[go_sem]
  refine Ao (Bd _ _ _ _) ?_
  simp only[go_sem,Ik,h]
 ·simp only[go_sem,Ik,h]
theorem Sb (N:St) (d:Dot):Ret Tryz.prog 272 [.agg [gi d.rep,gi d.seq]] N (.bool (Ik d)) N:=by
 refine B7 Akc (Z0z rfl) trivial ?_
 simp only[go_sem,Ad2]
 refine Ac (Bf _ _ _ _) (fun h=> ?_) (fun h=> ?_)
 ·simp only[go_sem]
  refine Ao (Bf _ _ _ _) ?_
  simp only[go_sem,Ik,h]
 ·simp only[go_sem,Ik,h]
def at0 (l:List Int) (r:Int):Int:=l.getD r.toNat 0
def As (k:List Int) (d:Dot):Bool:=okK k&&Ik d&&decide (d.seq<=at0 k d.rep)
theorem Amr {k:IntKind} {n:Int} (h:0<=n):Bu (some (.int k n))=some n.toNat:=by simp[Bu,h]
theorem Jd {N:St} {v:GV} {l:List Int} {r:Int} (h:RS pI.kd N v l) (hk:okK l=true) (h0:0<=r) (h2:r<=2):(Bu (some (gi r))=some r.toNat/\iadG 1 v (some r.toNat)=some (atz 1 v r.toNat))/\ldG false 1 N (atz 1 v r.toNat)=some (gi (at0 l r)):=by
 have hl:=D8 hk
 have hi:r.toNat<l.length:=by omega
 have e:=Cw h hi
 refine⟨⟨Amr h0,e.1⟩,?_⟩
 rw[e.2,at0,Zba,Zax hi];rfl
theorem Ba (N:St) (v:GV) (k:List Int) (d:Dot) (h:RS pI.kd N v k) (hl:k.length<=1099511627776):Ret Tryz.prog 45 [v,.agg [gi d.rep,gi d.seq]] N (.bool (As k d)) N:=by
 refine B7 Akd (Z0z rfl) trivial ?_
 simp only[go_sem,Ad4]
 have h1:=h.pre (pre1 N (some (Blk.row 1 [gi d.rep,gi d.seq])))
 refine Ac (Bv _ v k h1 hl) (fun hk=> ?_) (fun hk=> ?_)
 ·simp only[go_sem]
  refine Ac (Gq _ d) (fun hd=> ?_) (fun hd=> ?_)
  ·have hd':=Pa.1 hd
   have hr:=Jd h1 hk hd'.1.1 hd'.1.2
   simp only[go_sem,hr,As,hk,hd]
  ·simp only[go_sem,As,hk,hd]
 ·simp only[go_sem,As,hk]
theorem Ch (N:St) (v:GV) (k:List Int) (d:Dot) (h:RS pI.kd N v k) (hl:k.length<=1099511627776):Ret Tryz.prog 170 [v,.agg [gi d.rep,gi d.seq]] N (.bool (As k d)) N:=by
 refine B7 Ake (Z0z rfl) trivial ?_
 simp only[go_sem,Ad6]
 have h1:=h.pre (pre1 N (some (Blk.row 1 [gi d.rep,gi d.seq])))
 refine Ac (Bw _ v k h1 hl) (fun hk=> ?_) (fun hk=> ?_)
 ·simp only[go_sem]
  refine Ac (Sb _ d) (fun hd=> ?_) (fun hd=> ?_)
  ·have hd':=Pa.1 hd
   have hr:=Jd h1 hk hd'.1.1 hd'.1.2
   simp only[go_sem,hr,As,hk,hd]
  ·simp only[go_sem,As,hk,hd]
 ·simp only[go_sem,As,hk]
def A39:Fn1:=⟨16,[.t 2],(rg [o 2 (.mov (.k .nilS))] (rg [o 5 (.lit 1 0 [] []),oM 3 5] (.seq (rg [oV 4 (ki 0)] (oH 0 (.seq (rg [oM 6 4,oE 7 .lss 6 3] (oJ 7 0)) (.seq (.blk 1 (.reg [oM 10 3,oM 11 0,o 12 (.call 163 [(.t 11),(ki 5)]),o 13 (.lit 1 1 [z0] [(0,1,(.t 12))]),o 14 (.app 1 8 [z0] (.t 10) (.t 13)),oM 3 14])) (.reg [oM 8 4,oZ 9 8 1,oM 4 9]))))) (rg [oM 15 3,oM 2 15] .ret))))⟩
theorem Adc:A8 Tryz.prog 344=some A39:=by kernel_rfl
def low5 (l:List Int):Prop:=l.length=3/\∀ x∈l,0≤x/\x<5
theorem Aa3 {N0 N:St} {rs:List Thg} (H:Hp N0 N rs) {k:Nat} {c v:GV} {bs:List Int} (hk:rs[k]? =some (crs c v bs.length)) (hv:RS pB.kd N0 v bs) (hl:bs.length<=1099511627776):
  ∃ r U,Ret Tryz.prog 344 [c] N r U/\∃ l,low5 l/\Hp N0 U (ow pI.kd r l::rs):=by
 refine Hu Adc (Z0z rfl) ?_
 simp only[go_sem,A39]
 refine Dg 3 4 (fun i env U=>env 0=c/\∃ l,l.length=i/\(∀ x∈l,0≤x/\x<5)/\Hp N0 U (ow pI.kd (env 3) l::rs)) rfl ⟨rfl,[],rfl,by simp,H.nil_int⟩ ?_ ?_
 ·rintro i env U hi e4 c0 ⟨e0,l,hl1,hx,H⟩
  have c0:decide ((i:Int)<3)=true:=c0
  simp only[go_sem,c0,e0,e4]
  obtain⟨r,U1,R,x,rfl,hx0,_,hx1,H1⟩:=Lg H (k:=k+1) (by simpa using hk) hv hl 5 (by decide)
  refine Ce R ?_
  obtain⟨v',U2,e,H2⟩:=H1.app_int 0 rfl x (by omega)
  simp(disch:=omega) only[go_sem,e0,e4,e]
  refine⟨l++[x],by simp[hl1],fun y hy=> ?_,H2⟩
  ·rcases List.mem_append.1 hy with h|h
   ·exact hx y h
   ·simp only[List.mem_singleton] at h
    subst h;exact⟨hx0,hx1 (by decide)⟩
 ·rintro env U e4 c0 ⟨e0,l,hl1,hx,H⟩
  have c0:decide ((3:Int)<3)=false:=rfl
  simp only[go_sem,c0,e0,e4]
  exact⟨_,rfl,l,⟨hl1,hx⟩,H⟩
@[go_sem] theorem bit_tup {vs:List GV}:(GV.tup vs).bit=none:=(rfl)
def A6w (k:Int):Bool:=inB k 2 5
def Rd (k:Int):Bool:=k==1||k==4||k==6
def noS:ByteArray:=⟨#[]⟩
theorem Jz (N:St) (k:Int):Ret Tryz.prog 332 [gi k] N (.bool (A6w k)) N:=by
 refine B7 Aa1 (Z0z rfl) trivial ?_
 simp only[go_sem,A0h]
 refine Ao (Bd _ _ _ _) ?_
 simp only[go_sem,A6w]
theorem A0k (N:St) (k:Int):Ret Tryz.prog 342 [gi k] N (.bool (A6w k)) N:=by
 refine B7 Agy (Z0z rfl) trivial ?_
 simp only[go_sem,A83]
 refine Ao (Bf _ _ _ _) ?_
 simp only[go_sem,A6w]
theorem Cq (N:St) (k:Int):Ret Tryz.prog 333 [gi k] N (.bool (Rd k)) N:=by
 refine B7 A6v (Z0z rfl) trivial ?_
 simp +contextual only[go_sem,Tt,Rd]
 grind
theorem A0l (N:St) (k:Int):Ret Tryz.prog 343 [gi k] N (.bool (Rd k)) N:=by
 refine B7 Agz (Z0z rfl) trivial ?_
 simp +contextual only[go_sem,A85,Rd]
 grind
def Se (kind val:Int):Bool:=val==0||Rd kind&&inB val 0 999999
def C7 (kind:Int) (obj key:ByteArray) (val:Int):Bool:=inB kind 1 7&&(Ea obj&&((if A6w kind then Ea key else decide (key=noS))&&Se kind val))
theorem Mp (N:St) (kind:Int) (obj key:ByteArray) (val:Int) (ho:obj.size<=1099511627776) (hk:key.size<=1099511627776):Ret Tryz.prog 279 [gi kind,.str obj,.str key,gi val] N (.bool (C7 kind obj key val)) N:=by
 refine B7 Aa2 (Z0z rfl) trivial ?_
 simp only[go_sem,A0j]
 refine Ac (Bd _ _ _ _) (fun h1=> ?_) (fun h1=> ?_)
 ·simp only[go_sem]
  refine Ac (Hf _ obj ho) (fun h2=> ?_) (fun h2=> ?_)
  ·simp only[go_sem]
   refine Ac (Jz _ _) (fun h3=> ?_) (fun h3=> ?_)
   ·simp only[go_sem]
    refine Ac (Hf _ key hk) (fun h4=> ?_) (fun h4=> ?_)
    ·simp only[go_sem]
     refine Ac (Jz _ _) (fun h3=> ?_) (fun h3'=>by rw[h3] at h3';cases h3')
     simp +contextual only[go_sem]
     cases hv:(val==0) with
     |true=>simp only[go_sem,C7,h1,h2,h3,h4,Se,hv,Zbd]
     |false=>
      simp only[go_sem,hv]
      refine Ac (Cq _ _) (fun h5=> ?_) (fun h5=> ?_)
      ·simp only[go_sem]
       refine Ao (Bd _ _ _ _) ?_
       simp only[go_sem,C7,h1,h2,h3,h4,h5,Se,hv,Zaq]
      ·simp only[go_sem,C7,h1,h2,h3,h4,h5,Se,hv,Zaq]
    ·simp only[go_sem,C7,h1,h2,h3,h4]
   ·simp only[go_sem]
    refine Ac (Jz _ _) (fun h3'=>by rw[h3] at h3';cases h3') (fun h3=> ?_)
    simp +contextual only[go_sem]
    cases hq:decide (key=noS) with
    |false=>
     have hq':decide (key={data:= #[]})=false:=hq
     simp only[go_sem,hq',C7,h1,h2,h3,hq]
    |true=>
     have hq':decide (key={data:= #[]})=true:=hq
     simp only[go_sem,hq']
     cases hv:(val==0) with
     |true=>simp only[go_sem,C7,h1,h2,h3,hq,Se,hv,Zbd]
     |false=>
      simp only[go_sem,hv]
      refine Ac (Cq _ _) (fun h5=> ?_) (fun h5=> ?_)
      ·simp only[go_sem]
       refine Ao (Bd _ _ _ _) ?_
       simp only[go_sem,C7,h1,h2,h3,hq,h5,Se,hv,Zaq]
      ·simp only[go_sem,C7,h1,h2,h3,hq,h5,Se,hv,Zaq]
  ·simp only[go_sem,C7,h1,h2]
 ·simp only[go_sem,C7,h1]
theorem Jl (N:St) (kind:Int) (obj key:ByteArray) (val:Int) (ho:obj.size<=1099511627776) (hk:key.size<=1099511627776):Ret Tryz.prog 273 [gi kind,.str obj,.str key,gi val] N (.bool (C7 kind obj key val)) N:=by
 have ne:Ea noS=false:=by decide
 refine B7 Ad7 (Z0z rfl) trivial ?_
 simp only[go_sem,A38]
 refine Ac (Bf _ _ _ _) (fun h1=> ?_) (fun h1=> ?_)
 ·simp only[go_sem]
  refine Ac (Fm _ obj ho) (fun h2=> ?_) (fun h2=> ?_)
  ·simp +contextual only[go_sem]
   cases hq:decide (key=noS) with
   |true=>
    have hq':decide (key={data:= #[]})=true:=hq
    have hkn:Ea key=false:=by rw[of_decide_eq_true hq];exact ne
    simp only[go_sem,hq']
    refine Ac (A0k _ _) (fun h3=> ?_) (fun h3=> ?_)
    ·simp only[go_sem]
     refine Ac (Fm _ key hk) (fun h4=>by rw[hkn] at h4;cases h4) (fun h4=> ?_)
     simp only[go_sem,C7,h1,h2,h3,h4]
    ·simp +contextual only[go_sem]
     cases hv:(val==0) with
     |true=>simp only[go_sem,C7,h1,h2,h3,hq,Se,hv,Zbd]
     |false=>
      simp only[go_sem,hv]
      refine Ac (A0l _ _) (fun h5=> ?_) (fun h5=> ?_)
      ·simp only[go_sem]
       refine Ao (Bf _ _ _ _) ?_
       simp only[go_sem,C7,h1,h2,h3,hq,h5,Se,hv,Zaq]
      ·simp only[go_sem,C7,h1,h2,h3,hq,h5,Se,hv,Zaq]
   |false=>
    have hq':decide (key={data:= #[]})=false:=hq
    simp only[go_sem,hq']
    refine Ac (Fm _ key hk) (fun h4=> ?_) (fun h4=> ?_)
    ·simp only[go_sem]
     refine Ac (A0k _ _) (fun h3=> ?_) (fun h3=> ?_)
     ·simp +contextual only[go_sem]
      cases hv:(val==0) with
      |true=>simp only[go_sem,C7,h1,h2,h3,h4,Se,hv,Zbd]
      |false=>
       simp only[go_sem,hv]
       refine Ac (A0l _ _) (fun h5=> ?_) (fun h5=> ?_)
       ·simp only[go_sem]
        refine Ao (Bf _ _ _ _) ?_
        simp only[go_sem,C7,h1,h2,h3,h4,h5,Se,hv,Zaq]
       ·simp only[go_sem,C7,h1,h2,h3,h4,h5,Se,hv,Zaq]
     ·simp only[go_sem,C7,h1,h2,h3,hq]
    ·simp only[go_sem]
     cases h3:A6w kind<;>simp only[go_sem,C7,h1,h2,h3,h4,hq]
  ·simp only[go_sem,C7,h1,h2]
 ·simp only[go_sem,C7,h1]
def d0:Dot:=⟨0,0⟩
def Sf (a:Act):Bool:=if a.kind==7 then As a.knew a.ref else if a.kind==6 then decide (a.ref=d0)||As a.knew a.ref else decide (a.ref=d0)
def Ew (a:Act):Bool:=Ik a.dot&&(okK a.knew&&(decide (at0 a.knew a.dot.rep=a.dot.seq - 1)&&inB a.time 1 10000))
def Dj (a:Act):Bool:=Ew a&&(C7 a.kind a.obj a.key a.val&&Sf a)
theorem K0 (N:St) (cs:List GV) (a:Act) (hR:kAct.R N a cs) (hl:Ck a<=1099511627776):Ret Tryz.prog 185 [.agg cs] N (.bool (Dj a)) N:=by
 obtain⟨v,rfl,h⟩:=hR
 unfold Ck at hl
 have h1:=h.pre (pre1 N (some (Blk.row 1 [.int .i64 a.dot.rep,.int .i64 a.dot.seq,.int .i64 a.time,v,.int .i64 a.kind,.str a.obj,.str a.key,.int .i64 a.val,.int .i64 a.ref.rep,.int .i64 a.ref.seq])))
 refine B7 Akf (Z0z rfl) trivial ?_
 simp only[go_sem,Ad9]
 refine Ac (Gq _ a.dot) (fun hd=> ?_) (fun hd=> ?_)
 ·simp only[go_sem]
  refine Ac (Bv _ v a.knew h1 (by omega)) (fun hk=> ?_) (fun hk=> ?_)
  ·have hd':=Pa.1 hd
   have hr:=Jd h1 hk hd'.1.1 hd'.1.2
   cases he:(at0 a.knew a.dot.rep==a.dot.seq - 1) with
   |false=>
    have he':decide (at0 a.knew a.dot.rep=a.dot.seq - 1)=false:=he
    simp(disch:=omega) only[go_sem,hr,bne,he,Dj,Ew,hd,hk,he']
   |true=>
    have he':decide (at0 a.knew a.dot.rep=a.dot.seq - 1)=true:=he
    simp(disch:=omega) only[go_sem,hr,bne,he]
    refine Ac (Bd _ _ _ _) (fun ht=> ?_) (fun ht=> ?_)
    ·have hh:Ew a=true:=by simp only[Ew,hd,hk,he',ht,Zb9]
     simp only[go_sem]
     refine Ac (Mp _ _ _ _ _ (by omega) (by omega)) (fun hp=> ?_) (fun hp=> ?_)
     ·simp +contextual only[go_sem]
      cases h7:(a.kind==7) with
      |true=>
       simp only[go_sem,h7]
       refine Ao (Ba _ v a.knew a.ref h1 (by omega)) ?_
       simp only[go_sem,Dj,hh,hp,Sf,h7]
      |false=>
       cases h6:(a.kind==6) with
       |false=>
        simp only[go_sem,h7,h6,Dj,hh,hp,Sf,d0]
        rfl
       |true=>
        simp only[go_sem,h7,h6]
        cases hz:decide (a.ref=d0) with
        |true=>
         have hz':decide (a.ref={rep:=0,seq:=0})=true:=hz
         simp only[go_sem,hz',Dj,hh,hp,Sf,h7,h6,hz,Zbd]
        |false=>
         have hz':decide (a.ref={rep:=0,seq:=0})=false:=hz
         simp only[go_sem,hz']
         refine Ao (Ba _ v a.knew a.ref h1 (by omega)) ?_
         simp only[go_sem,Dj,hh,hp,Sf,h7,h6,hz,Zaq]
     ·simp only[go_sem,Dj,hh,hp]
    ·simp only[go_sem,Dj,Ew,hd,hk,he',ht]
  ·simp only[go_sem,Dj,Ew,hd,hk]
 ·simp only[go_sem,Dj,Ew,hd]
theorem Mq (N:St) (cs:List GV) (a:Act) (hR:kAct.R N a cs) (hl:Ck a<=1099511627776):Ret Tryz.prog 169 [.agg cs] N (.bool (Dj a)) N:=by
 obtain⟨v,rfl,h⟩:=hR
 unfold Ck at hl
 have h1:=h.pre (pre1 N (some (Blk.row 1 [.int .i64 a.dot.rep,.int .i64 a.dot.seq,.int .i64 a.time,v,.int .i64 a.kind,.str a.obj,.str a.key,.int .i64 a.val,.int .i64 a.ref.rep,.int .i64 a.ref.seq])))
 refine B7 Akg (Z0z rfl) trivial ?_
 simp only[go_sem,Adb]
 refine Ac (Sb _ a.dot) (fun hd=> ?_) (fun hd=> ?_)
 ·simp only[go_sem]
  refine Ac (Bw _ v a.knew h1 (by omega)) (fun hk=> ?_) (fun hk=> ?_)
  ·have hd':=Pa.1 hd
   have hr:=Jd h1 hk hd'.1.1 hd'.1.2
   cases he:(at0 a.knew a.dot.rep==a.dot.seq - 1) with
   |false=>
    have he':decide (at0 a.knew a.dot.rep=a.dot.seq - 1)=false:=he
    simp(disch:=omega) only[go_sem,hr,bne,he,Dj,Ew,hd,hk,he']
   |true=>
    have he':decide (at0 a.knew a.dot.rep=a.dot.seq - 1)=true:=he
    simp(disch:=omega) only[go_sem,hr,bne,he]
    refine Ac (Bf _ _ _ _) (fun ht=> ?_) (fun ht=> ?_)
    ·have hh:Ew a=true:=by simp only[Ew,hd,hk,he',ht,Zb9]
     have fin:∀ b:Bool,Sf a=b->Dj a=(C7 a.kind a.obj a.key a.val&&b):=fun b hb=>by rw[Dj,hh,hb];rfl
     cases h7:(a.kind==7) with
     |true=>
      simp only[go_sem,h7]
      refine Ac (Ch _ v a.knew a.ref h1 (by omega)) (fun hq=> ?_) (fun hq=> ?_)
      ·simp only[go_sem]
       refine Ao (Jl _ _ _ _ _ (by omega) (by omega)) ?_
       simp only[go_sem,fin true (by simp[Sf,h7,hq])]
      ·simp only[go_sem,fin false (by simp[Sf,h7,hq])]
     |false=>
      cases h6:(a.kind==6) with
      |false=>
       cases hz:decide (a.ref=d0) with
       |true=>
        have hz':decide (a.ref={rep:=0,seq:=0})=true:=hz
        simp only[go_sem,h7,h6,hz']
        refine Ao (Jl _ _ _ _ _ (by omega) (by omega)) ?_
        simp only[go_sem,fin true (by simp[Sf,h7,h6,hz])]
       |false=>
        have hz':decide (a.ref={rep:=0,seq:=0})=false:=hz
        simp only[go_sem,h7,h6,hz',fin false (by simp[Sf,h7,h6,hz])]
      |true=>
       cases hz:decide (a.ref=d0) with
       |true=>
        have hz':decide (a.ref={rep:=0,seq:=0})=true:=hz
        simp only[go_sem,h7,h6,hz']
        refine Ao (Jl _ _ _ _ _ (by omega) (by omega)) ?_
        simp only[go_sem,fin true (by simp[Sf,h7,h6,hz])]
       |false=>
        have hz':decide (a.ref={rep:=0,seq:=0})=false:=hz
        simp only[go_sem,h7,h6,hz']
        refine Ac (Ch _ v a.knew a.ref h1 (by omega)) (fun hq=> ?_) (fun hq=> ?_)
        ·simp only[go_sem]
         refine Ao (Jl _ _ _ _ _ (by omega) (by omega)) ?_
         simp only[go_sem,fin true (by simp[Sf,h7,h6,hz,hq])]
        ·simp only[go_sem,fin false (by simp[Sf,h7,h6,hz,hq])]
    ·simp only[go_sem,Dj,Ew,hd,hk,he',ht]
  ·simp only[go_sem,Dj,Ew,hd,hk]
 ·simp only[go_sem,Dj,Ew,hd]
def eD (p:Dot×Int):GV×GV:=(.agg [gi p.1.rep,gi p.1.seq],gi p.2)
def Mr (ps:List (Dot×Int)) (d:Dot):Option Int:=(ps.find? fun p=>decide (d=p.1)).map (·.2)
def mpt (m:GV) (ps:List (Dot×Int)):Thg:=⟨fun N fp=>∃ g,m= .mp g/\fp=[g]/\bk N g=some (.map (ps.map eD)),fun⟨g,h1,h2,h3⟩ hf=>⟨g,h1,h2,by rw[hf g (by rw[h2];exact Zac)];exact h3⟩⟩
theorem Xy (d:Dot):∀(ps:List (Dot×Int)) (i:Nat),∃ q,A1x [.i .i64,.i .i64] [gi d.rep,gi d.seq] (ps.map eD) i=some q/\match Mr ps d with
  |some v=>∃ j,q=some (j,gi v)
  |none=>q=none
 |[],i=>⟨none,rfl,rfl⟩
 |p::ps,i=>by
  obtain⟨q,h1,h2⟩:=Xy d ps (i+1)
  have e:Ez [.i .i64,.i .i64] [gi d.rep,gi d.seq] [gi p.1.rep,gi p.1.seq]=some (decide (d=p.1)):=by
   have:decide (d=p.1)=(decide (d.rep=p.1.rep)&&decide (d.seq=p.1.seq)):=by
    rw[Zag]
    simp only[decide_eq_true_eq,Zaa]
    constructor
    ·rintro rfl;exact⟨rfl,rfl⟩
    ·rintro⟨h3,h4⟩;cases d;cases hp:p.1;simp_all
   rw[this]
   simp only[Ez,scEq,and_self,if_true,Za6,Zbk,Bool.and_true,Option.some.injEq]
   rw[Zag];simp
  by_cases hd:d=p.1
  ·refine⟨some (i,gi p.2),?_,?_⟩
   ·simp only[Zbg,eD,A1x] at e ⊢
    rw[e];simp[hd]
   ·have:Mr (p::ps) d=some p.2:=by simp[Mr,hd]
    rw[this];exact⟨i,rfl⟩
  ·refine⟨q,?_,?_⟩
   ·simp only[Zbg,eD,A1x] at e ⊢
    rw[e];simp only[hd,decide_false,Za6,Zar,if_false]
    exact h1
   ·have:Mr (p::ps) d=Mr ps d:=by simp[Mr,hd]
    rw[this];exact h2
namespace Hp
variable {N U:St} {rs:List Thg}
theorem newMap (H:Hp N U rs):Hp N (U++[some (.map [])]) (mpt (.mp U.length) []::rs):=
 H.add (rs':=[mpt (.mp U.length) []]) ⟨List.prefix_append _ _,[U.length],⟨[U.length],[],⟨_,rfl,rfl,Iv⟩,rfl,rfl⟩,by simp,by simp⟩
theorem mup (H:Hp N U rs) (i:Nat) {m:GV} {ps:List (Dot×Int)} (hi:rs[i]? =some (mpt m ps)) (d:Dot) (n:Int) (h:Mr ps d=none):
  ∃ U',mupG U [.i .i64,.i .i64] m (.agg [gi d.rep,gi d.seq]) (gi n)=some (.tup [],U')/\Hp N U' (rs.set i (mpt m (ps++[(d,n)]))):=by
 obtain⟨a,⟨g,rfl,rfl,hB⟩,hnd,hbd,ht⟩:=(H.pick i hi).turn
 have hlt:=(hbd g Zac).2
 obtain⟨q,h1,h2⟩:=Xy d ps 0
 rw[h] at h2
 subst h2
 refine⟨U.set g (some (.map ((ps++[(d,n)]).map eD))),?_,unpick (ht (a':=[g]) ⟨by simp,fun g' h=>.inl h,by simp,fun g' h h'=>Iw fun e=>h' (by rw[e];exact Zac)⟩ ⟨g,rfl,rfl,Co.2 (by rw[Zap hlt])⟩) (Zai.1 hi).1⟩
 simp only[mupG,mpG,Co.1 hB,Za6,keyG,Za2,Zb5,if_true]
 rw[h1]
 simp[Eq,Ar5,eD]
theorem mlk (H:Hp N U rs) (i:Nat) {m:GV} {ps:List (Dot×Int)} (hi:rs[i]? =some (mpt m ps)) (d:Dot):
  mlkG U [.i .i64,.i .i64] (gi 0) true m (.agg [gi d.rep,gi d.seq])=some (.tup [gi ((Mr ps d).getD 0),.bool (Mr ps d).isSome]):=by
 obtain⟨a,⟨g,rfl,rfl,hB⟩,_⟩:=H.see hi
 obtain⟨q,h1,h2⟩:=Xy d ps 0
 simp only[mlkG,mpG,Co.1 hB,Za6,keyG,Za2,Zb5,if_true]
 rw[h1]
 cases hl:Mr ps d with
 |none=>rw[hl] at h2;subst h2;rfl
 |some v=>rw[hl] at h2;obtain⟨j,rfl⟩:=h2;rfl
end Hp
theorem Kw:∀(x y:List UInt8),Op.bytesLess x y=decide (x<y)
 |_,[]=>by simp[Op.bytesLess]
 |[],_::_=>by simp[Op.bytesLess]
 |a::x,b::y=>by
  rw[Op.bytesLess,Kw x y,Zag]
  simp only[Zao,decide_eq_true_eq,Zaa,beq_iff_eq,List.cons_lt_cons_iff]
def txLt (a b:ByteArray):Bool:=Op.bytesLess a.toList b.toList
theorem Akh {a b:ByteArray} (h:a.toList=b.toList):a=b:=by
 have:=He (a:=a) (b:=b)
 rw[h] at this
 simpa using this.symm
theorem Ky (a:ByteArray):txLt a a=false:=by
 rw[txLt,Kw];simp
theorem Qk {a b c:ByteArray} (h1:txLt a b=true) (h2:txLt b c=true):txLt a c=true:=by
 rw[txLt,Kw,decide_eq_true_eq] at*
 exact List.lt_trans h1 h2
theorem Add {a b:ByteArray} (h1:txLt a b=true):txLt b a=false:=by
 cases h:txLt b a with
 |false=>rfl
 |true=>have:=Qk h1 h;rw[Ky] at this;cases this
theorem Ql {a b:ByteArray} (h1:txLt a b=false) (h2:txLt b a=false):a=b:=by
 rw[txLt,Kw,decide_eq_false_iff_not] at*
 exact Akh (List.le_antisymm (List.not_lt.1 h2) (List.not_lt.1 h1))
@[go_sem] theorem bin_slss {a b:ByteArray}:binG .lss (.str a) (.str b)=some (.bool (txLt a b)):=(rfl)
@[go_sem] theorem bin_sgtr {a b:ByteArray}:binG .gtr (.str a) (.str b)=some (.bool (txLt b a)):=by
 have:(!(txLt a b||decide (a=b)))=txLt b a:=by
  by_cases h:a=b
  ·subst h;simp[Ky]
  ·cases h1:txLt a b with
   |true=>rw[Add h1];simp
   |false=>
    cases h2:txLt b a with
    |true=>simp[h]
    |false=>exact absurd (Ql h1 h2) h
 simp only[binG,strG,He]
 exact congrArg (fun b=>some (GV.bool b)) this
def cmpI (a b:Int):Int:=if a<b then -1 else if b<a then 1 else 0
def cmpS (a b:ByteArray):Int:=if txLt a b then -1 else if txLt b a then 1 else 0
def orI (a b:Int):Int:=if a=0 then b else a
def Re (a b:Dot):Int:=orI (cmpI a.rep b.rep) (cmpI a.seq b.seq)
def It (a b:Tally):Int:=orI (cmpS a.obj b.obj) (cmpI a.rep b.rep)
def Az (a b:Dot):Bool:=decide (a.rep<b.rep)||decide (a.rep=b.rep)&&decide (a.seq<b.seq)
def Af (a b:Tally):Bool:=txLt a.obj b.obj||decide (a.obj=b.obj)&&decide (a.rep<b.rep)
theorem Pb {a b:Dot}:decide (Re a b<0)=Az a b:=by
 unfold Re Az orI cmpI
 rw[Zag]
 simp only[decide_eq_true_eq,Zao,Zaa]
 repeat' split
 all_goals omega
theorem Pc {a b:Dot}:decide (0<=Re a b)= !Az a b:=by
 rw[<- Pb,Zag];simp
theorem As6 {a b:Int}:cmpI a b=0↔a=b:=by
 unfold cmpI
 rcases Zbv a b with h|h|h
 ·rw[if_pos h];omega
 ·subst h;simp
 ·rw[if_neg (by omega),if_pos h];omega
theorem Ap3 {a b:Int}:cmpI a b<0↔a<b:=by
 unfold cmpI
 rcases Zbv a b with h|h|h
 ·rw[if_pos h];omega
 ·subst h;simp
 ·rw[if_neg (by omega),if_pos h];omega
theorem Ap4 {a b:ByteArray}:cmpS a b<0↔txLt a b=true:=by
 unfold cmpS
 cases h1:txLt a b with
 |true=>simp
 |false=>
  cases h2:txLt b a with
  |true=>simp
  |false=>simp
theorem Ah0 {a b:ByteArray}:cmpS a b=0↔a=b:=by
 unfold cmpS
 cases h1:txLt a b with
 |true=>
  have h3:a≠b:=fun e=>by rw[e,Ky] at h1;cases h1
  simp[h3]
 |false=>
  cases h2:txLt b a with
  |true=>
   have h3:a≠b:=fun e=>by rw[e,Ky] at h2;cases h2
   simp[h3]
  |false=>simp[Ql h1 h2]
theorem Sg {a b:Tally}:decide (It a b<0)=Af a b:=by
 unfold It Af orI
 rw[Zag]
 simp only[decide_eq_true_eq,Zao,Zaa]
 by_cases h:a.obj=b.obj
 ·rw[if_pos (Ah0.2 h),Ap3,h,Ky];simp
 ·rw[if_neg (fun e=>h (Ah0.1 e)),Ap4];simp[h]
theorem Ah1 {a b:Tally}:decide (0<=It a b)= !Af a b:=by
 rw[<- Sg,Zag];simp
theorem Hw (a:Dot):Az a a=false:=by simp[Az]
theorem Il {a b c:Dot} (h1:Az a b=true) (h2:Az b c=true):Az a c=true:=by
 simp only[Az,Zao,Zaa,decide_eq_true_eq] at *;omega
theorem Tu {a b:Dot} (h1:Az a b=false) (h2:Az b a=false):a=b:=by
 rw[Dot.eq_iff]
 simp only[Az,Zak,Zaj,decide_eq_false_iff_not] at *;omega
def allR (n:Nat) (p:Nat->Bool):Bool:=(List.range n).all p
theorem Bp {n:Nat} {p:Nat->Bool}:allR n p=true↔∀ i,i<n->p i=true:=by simp[allR]
theorem Im {n i:Nat} {p:Nat->Bool} (hi:i<n) (h:p i=false):allR n p=false:=by
 cases e:allR n p with
 |false=>rfl
 |true=>rw[Bp.1 e i hi] at h;cases h
theorem G0 {n:Nat} {p:Nat->Bool} (h:∀ i,i<n->p i=true):allR n p=true:=Bp.2 h
theorem Ci {i:Nat} {p:Nat->Bool} (h:∀ j,j<i->p j=true) (hi:p i=true):∀ j,j<i+1->p j=true:=fun j hj=>by
 rcases Za5 j i with h1|h1
 ·exact h j h1
 ·have:j=i:=by omega
  subst this;exact hi
def onI {Y:Type} (l:List Y) (i:Nat) (p:Y->Bool):Bool:=match l[i]? with
 |some x=>p x
 |none=>true
theorem Br {Y:Type} {l:List Y} {i:Nat} {p:Y->Bool} (hi:i<l.length):onI l i p=p l[i]:=by
 simp only[onI,Zax hi]
def upI {Y:Type} (lt:Y->Y->Bool) (l:List Y):Nat->Bool
 |0=>true
 |i+1=>onI l i fun a=>onI l (i+1) fun b=>lt a b
theorem Lu {Y:Type} {lt:Y->Y->Bool} {l:List Y} {i:Nat} (h0:i≠0) (hi:i<l.length) (hj:i - 1<l.length):upI lt l i=lt l[i - 1] l[i]:=by
 cases i with
 |zero=>exact absurd rfl h0
 |succ i=>
  simp only[upI,Zbr]
  rw[Br (by omega),Br hi]
theorem Tv {Y:Type} {lt:Y->Y->Bool} (ht:∀ a b c,lt a b=true->lt b c=true->lt a c=true) {l:List Y} (h:∀ i,i<l.length->upI lt l i=true):l.Pairwise fun a b=>lt a b=true:=by
 have key:∀(j i:Nat) (hi:i<l.length) (hj:j<l.length),i<j->lt l[i] l[j]=true:=by
  intro j
  induction j with
  |zero=>intro i hi hj h;omega
  |succ j ih=>
   intro i hi hj hij
   have h1:=h (j+1) hj
   rw[Lu (by omega) hj (by omega)] at h1
   simp only[Zbr] at h1
   rcases Za5 i j with h2|h2
   ·exact ht _ _ _ (ih i hi (by omega) h2) h1
   ·have:i=j:=by omega
    subst this;exact h1
 rw[Zbf]
 exact fun i j hi hj hij=>key j i hi hj hij
def tal1 (t:Tally):Bool:=Ea t.obj&&(inB t.rep 0 2&&inB t.sum 0 999999)
def talP (l:List Tally) (i:Nat):Bool:=onI l i tal1&&upI Af l i
def Fc (l:List Tally):Bool:=allR l.length (talP l)&&decide (l.length<=120)
def liv1 (x:Live):Bool:=Ea x.obj&&(Ea x.key&&(inB x.val 0 999999&&(x.map||decide (x.val=0))))
def C5 (a b:Live):Bool:=Az a.dot b.dot
def livP (l:List Live) (k:List Int) (i:Nat):Bool:=(onI l i fun x=>As k x.dot)&&((onI l i liv1)&&upI C5 l i)
def Kz (l:List Live) (k:List Int):Bool:=allR l.length (livP l k)&&decide (l.length<=120)
def Ah2 (l:List Live) (i:Nat):Bool:=(onI l i fun x=>Ik x.dot)&&((onI l i liv1)&&upI C5 l i)
def Ade (l:List Live):Bool:=allR l.length (Ah2 l)&&decide (l.length<=120)
def cel1 (x:Cell):Bool:=Ea x.obj&&(inB x.val 0 999999&&inB x.time 1 10000)
def Dk (a b:Cell):Bool:=Az a.dot b.dot
def celP (l:List Cell) (k:List Int) (i:Nat):Bool:=(onI l i fun x=>As k x.dot)&&((onI l i cel1)&&upI Dk l i)
def Je (l:List Cell) (k:List Int):Bool:=allR l.length (celP l k)&&decide (l.length<=120)
def refD (x:Cell):Bool:=decide (x.ref=⟨0,0⟩)||Ik x.ref
def Ah3 (l:List Cell) (i:Nat):Bool:=(onI l i fun x=>Ik x.dot)&&((onI l i cel1)&&((onI l i refD)&&upI Dk l i))
def Adf (l:List Cell):Bool:=allR l.length (Ah3 l)&&decide (l.length<=120)
def Cx (l:List Cell) (d:Dot):Option Nat:=l.findIdx? fun c=>decide (c.dot=d)
def ref1 (l:List Cell) (c:Cell):Bool:=decide (c.ref=⟨0,0⟩)||match Cx l c.ref with
 |none=>false
 |some k=>onI l k fun y=>decide (y.obj=c.obj)&&decide (y.time<c.time)
def A86 (l:List Cell):Bool:=l.all (ref1 l)
def B6 (s:State):Bool:=okK s.know&&(Fc s.tallies&&(Kz s.lives s.know&&(Je s.cells s.know&&A86 s.cells)))
def livK (k:List Int) (x:Live):Bool:=As k x.dot
def celK (l:List Cell) (k:List Int) (x:Cell):Bool:=As k x.dot&&ref1 l x
def Gm (s:State):Bool:=okK s.know&&(Fc s.tallies&&(Ade s.lives&&(Adf s.cells&&(s.lives.all (livK s.know)&&s.cells.all (celK s.cells s.know)))))
theorem Ix {k:List Int} {d:Dot} (h:As k d=true):Ik d=true:=by
 simp only[As,Zaa] at h;exact h.1.2
theorem Bs {l:List Cell} {d:Dot} {k:Nat} (h:Cx l d=some k):∃ hk:k<l.length,l[k].dot=d:=by
 obtain⟨hk,h1,_⟩:=Zas.1 h
 exact⟨hk,by simpa using h1⟩
theorem As7 {Y:Type} {l:List Y} {p:Y->Bool}:l.all p=allR l.length fun i=>onI l i p:=by
 rw[Zag,Bp,Zbz]
 constructor
 ·intro h i hi;rw[Br hi];exact h _ (Zah hi)
 ·intro h x hx
  obtain⟨i,hi,rfl⟩:=Zaz hx
  have:=h i hi
  rwa [Br hi] at this
theorem Ah4 (s:State):Gm s=B6 s:=by
 unfold Gm B6
 cases h1:okK s.know with
 |false=>rfl
 |true=>
  cases h2:Fc s.tallies with
  |false=>rfl
  |true=>
   simp only[Za1]
   rw[Zag]
   simp only[Zaa,Ade,Kz,Adf,Je,A86,As7,Bp,decide_eq_true_eq,Ah2,livP,Ah3,celP]
   constructor
   ·rintro⟨⟨hl,hl2⟩,⟨hc,hc2⟩,hlk,hck⟩
    refine⟨⟨fun i hi=>⟨hlk i hi,(hl i hi).2⟩,hl2⟩,⟨fun i hi=> ?_,hc2⟩,fun i hi=> ?_⟩
    ·have:=hck i hi
     have h4:=hc i hi
     rw[Br hi,celK] at this
     simp only[Zaa] at this
     exact⟨by rw[Br hi];exact this.1,h4.2.1,h4.2.2.2⟩
    ·have:=hck i hi
     rw[Br hi] at this ⊢
     rw[celK] at this
     simp only[Zaa] at this
     exact this.2
   ·rintro⟨⟨hl,hl2⟩,⟨hc,hc2⟩,hr⟩
    refine⟨⟨fun i hi=>⟨?_,(hl i hi).2⟩,hl2⟩,⟨fun i hi=>⟨?_,(hc i hi).2.1,?_,(hc i hi).2.2⟩,hc2⟩,fun i hi=>(hl i hi).1,fun i hi=> ?_⟩
    ·have:=(hl i hi).1
     rw[Br hi] at this ⊢
     exact Ix this
    ·have:=(hc i hi).1
     rw[Br hi] at this ⊢
     exact Ix this
    ·have:=hr i hi
     rw[Br hi] at this ⊢
     unfold ref1 at this
     unfold refD
     simp only[Zao] at this ⊢
     refine this.imp id fun h=> ?_
     split at h
     ·cases h
     ·rename_i k hk
      obtain⟨hkl,e⟩:=Bs hk
      have:=(hc k hkl).1
      rw[Br hkl,e] at this
      exact Ix this
    ·have h5:=(hc i hi).1
     have h6:=hr i hi
     rw[Br hi] at h5 h6 ⊢
     rw[celK,h5,h6];rfl
theorem Xz {l:List Cell} {k:List Int} (h:Je l k=true):l.Pairwise fun a b=>Az a.dot b.dot=true:=by
 simp only[Je,Zaa,Bp,celP] at h
 exact Tv (lt:=Dk) (fun a b c h1 h2=>Il h1 h2) fun i hi=>(h.1 i hi).2.2
theorem A2l {l:List Live} {k:List Int} (h:Kz l k=true):l.Pairwise fun a b=>Az a.dot b.dot=true:=by
 simp only[Kz,Zaa,Bp,livP] at h
 exact Tv (lt:=C5) (fun a b c h1 h2=>Il h1 h2) fun i hi=>(h.1 i hi).2.2
def plc:Nat->List Cell->List (Dot×Int)
 |_,[]=>[]
 |n,c::l=>(c.dot,(n:Int))::plc (n+1) l
theorem Aa4 (c:Cell):∀(n:Nat) (l:List Cell),plc n (l++[c])=plc n l++[(c.dot,((n+l.length:Nat):Int))]
 |n,[]=>rfl
 |n,x::l=>by
  simp only[Zb0,plc,Aa4 c (n+1) l,Za2]
  rw[show n+1+l.length=n+(l.length+1) by omega]
theorem Tw (d:Dot):∀(n:Nat) (l:List Cell),Mr (plc n l) d=(Cx l d).map fun k=>((n+k:Nat):Int)
 |n,[]=>rfl
 |n,x::l=>by
  have ih:=Tw d (n+1) l
  unfold Cx at*
  rw[Zbe]
  by_cases h:x.dot=d
  ·subst h;simp[plc,Mr]
  ·have h':d≠x.dot:=fun e=>h e.symm
   have e:Mr (plc n (x::l)) d=Mr (plc (n+1) l) d:=by simp[plc,Mr,h']
   rw[e,ih]
   simp only[h,decide_false,Zar,if_false,Option.map_map]
   congr 1
   funext k
   simp only[Function.comp]
   omega
theorem Ams {l:List Cell} (h:l.Pairwise fun a b=>Az a.dot b.dot=true) {i:Nat} (hi:i<l.length):Mr (plc 0 (l.take i)) l[i].dot=none:=by
 rw[Tw]
 have:Cx (l.take i) l[i].dot=none:=by
  unfold Cx
  rw[Zaw]
  intro c hc
  obtain⟨j,hj,rfl⟩:=Zaz hc
  rw[Za7] at hj
  rw[List.getElem_take]
  have:=Zbf.1 h j i (by omega) hi (by omega)
  simp only[decide_eq_false_iff_not]
  intro e
  rw[e,Hw] at this;cases this
 rw[this];rfl
theorem Ap5 {l:List Cell} {i:Nat} (hi:i<l.length):plc 0 (l.take (i+1))=plc 0 (l.take i)++[(l[i].dot,(i:Int))]:=by
 rw[Ak hi,Aa4,Za7,show 0+min i l.length=i by omega]
def Bm (l:List Cell) (d:Dot):Int:=match Cx l d with
 |some k=>k
 |none=> -1
theorem Ah5 {l:List Cell} {d:Dot} {i:Nat} (hi:i<l.length) (h:∀ j (hj:j<i),(l[j]'(by omega)).dot≠d) (he:l[i].dot=d):Cx l d=some i:=by
 unfold Cx
 rw[Zas]
 exact⟨hi,by simpa using he,fun j hj=>by simpa using h j hj⟩
theorem Ah6 {l:List Cell} {d:Dot} (h:∀ j (hj:j<l.length),l[j].dot≠d):Cx l d=none:=by
 unfold Cx
 rw[Zaw]
 intro c hc
 obtain⟨j,hj,rfl⟩:=Zaz hc
 simpa using h j hj
def Pe:Fn1:=⟨6,[.t 2],(rg [oV 2 kf] (rg [oM 3 0,oM 4 0,oB 5 .neq 3 4,oM 2 5] .ret))⟩
theorem A1y:A8 Tryz.prog 230=some Pe:=by kernel_rfl
def L5:Fn1:=⟨6,[.t 2],(rg [oV 2 kf] (rg [oM 3 0,oM 4 0,oB 5 .neq 3 4,oM 2 5] .ret))⟩
theorem Sh:A8 Tryz.prog 392=some L5:=by kernel_rfl
def Lw:Fn1:=⟨20,[.t 4],(rg [oV 4 (ki 0)] (rg [oM 7 0,oC 8 230 7,oM 5 8] (rg [oM 9 1,oC 10 230 9,oM 6 10] (.seq (rg [oM 11 5] (oG 11 (.seq (rg [oM 12 6] (oG 12 (oR 4 (ki 0)))) (rg [o 4 (.mov (ki (-1)))] .ret)))) (.seq (rg [oM 13 6] (oG 13 (oR 4 (ki 1)))) (.seq (rg [oM 14 0,oM 15 1,oB 16 .lss 14 15] (oG 16 (rg [o 4 (.mov (ki (-1)))] .ret))) (.seq (rg [oM 17 0,oM 18 1,oB 19 .gtr 17 18] (oG 19 (oR 4 (ki 1)))) (oR 4 (ki 0)))))))))⟩
theorem Tx:A8 Tryz.prog 106=some Lw:=by kernel_rfl
def Jg:Fn1:=⟨20,[.t 4],(rg [oV 4 (ki 0)] (rg [oM 7 0,oC 8 392 7,oM 5 8] (rg [oM 9 1,oC 10 392 9,oM 6 10] (.seq (rg [oM 11 5] (oG 11 (.seq (rg [oM 12 6] (oG 12 (oR 4 (ki 0)))) (rg [o 4 (.mov (ki (-1)))] .ret)))) (.seq (rg [oM 13 6] (oG 13 (oR 4 (ki 1)))) (.seq (rg [oM 14 0,oM 15 1,oB 16 .lss 14 15] (oG 16 (rg [o 4 (.mov (ki (-1)))] .ret))) (.seq (rg [oM 17 0,oM 18 1,oB 19 .gtr 17 18] (oG 19 (oR 4 (ki 1)))) (oR 4 (ki 0)))))))))⟩
theorem Pf:A8 Tryz.prog 376=some Jg:=by kernel_rfl
def A0n:Fn1:=⟨18,[.t 2],(rg [oV 2 (ki 0)] (rg [oV 3 (ki 0)] (.seq (rg [oM 6 0,oN 7 6,oV 8 (ki 0)] (oH 0 (rg [oB 9 .lss 8 7] (.seq (oJ 9 0) (.seq (.blk 1 (rg [oI 10 1 6 8,oL 11 10,oM 5 11] (rg [oM 12 5,oM 13 3,oB 14 .neq 12 13] (oG 14 (rg [oM 15 5,oM 2 15] .ret))))) (.reg [oZ 16 8 1,oM 8 16])))))) (rg [oM 17 3,oM 2 17] .ret))))⟩
theorem Aa5:A8 Tryz.prog 105=some A0n:=by kernel_rfl
def Ph:Fn1:=⟨17,[.t 4],(rg [oX 2 0,oX 3 1,oV 4 (ki 0)] (dw [oF 5 0 2,oL 6 5,oF 7 0 3,oL 8 7,oD 9 106 6 8,oF 10 1 2,oL 11 10,oF 12 1 3,oL 13 12] [oD 14 106 11 13,o 15 (.lit 1 2 [z0,z0] [(0,1,(.t 9)),(1,1,(.t 14))]),oC 16 105 15,oM 4 16] .ret))⟩
theorem A1z:A8 Tryz.prog 306=some Ph:=by kernel_rfl
def L6:Fn1:=⟨17,[.t 4],(rg [oX 2 0,oX 3 1,oV 4 (ki 0)] (dw [oF 5 0 2,oL 6 5,oF 7 0 3,oL 8 7,oD 9 376 6 8,oF 10 1 2,oL 11 10,oF 12 1 3,oL 13 12] [oD 14 106 11 13,o 15 (.lit 1 2 [z0,z0] [(0,1,(.t 9)),(1,1,(.t 14))]),oC 16 105 15,oM 4 16] .ret))⟩
theorem Sm:A8 Tryz.prog 324=some L6:=by kernel_rfl
def Tz:Fn1:=⟨24,[.t 4],(rg [oX 2 0,oX 3 1,oV 4 kf] (rg [oF 5 0 2,oL 6 5,oF 7 0 3,oL 8 7,oB 9 .lss 6 8,oM 10 9,vF 11 10 0 2,vL 12 10 11,vF 13 10 0 3,vL 14 10 13,vB 15 10 .eql 12 14,vM 16 10 15,jF 17 16 1 2,jL 18 16 17,jF 19 16 1 3,jL 20 16 19,jB 21 16 .lss 18 20,og 22 10 false (.pick (.t 16) (.t 21) kf),oP 23 10 22,oM 4 23] .ret))⟩
theorem A6x:A8 Tryz.prog 362=some Tz:=by kernel_rfl
theorem Lx (N:St) (a:Int):Ret Tryz.prog 230 [gi a] N (.bool false) N:=by
 refine B7 A1y (Z0z rfl) trivial ?_
 simp only[go_sem,Pe,bne_self_eq_false]
theorem Jh (N:St) (a:ByteArray):Ret Tryz.prog 392 [.str a] N (.bool false) N:=by
 refine B7 Sh (Z0z rfl) trivial ?_
 simp only[go_sem,L5,decide_true,Bool.not_true]
theorem Dl (N:St) (a b:Int):Ret Tryz.prog 106 [gi a,gi b] N (gi (cmpI a b)) N:=by
 refine B7 Tx (Z0z rfl) trivial ?_
 simp only[go_sem,Lw]
 refine Ao (Lx _ _) ?_
 simp only[go_sem]
 refine Ao (Lx _ _) ?_
 simp only[go_sem]
 unfold cmpI
 grind
theorem Ox (N:St) (a b:ByteArray):Ret Tryz.prog 376 [.str a,.str b] N (gi (cmpS a b)) N:=by
 refine B7 Pf (Z0z rfl) trivial ?_
 simp only[go_sem,Jg]
 refine Ao (Jh _ _) ?_
 simp only[go_sem]
 refine Ao (Jh _ _) ?_
 simp only[go_sem]
 unfold cmpS
 grind
def orL:List Int->Int
 |[]=>0
 |x::l=>if x=0 then orL l else x
theorem Lh (N:St) (v:GV) (l:List Int) (h:RS pI.kd N v l) (hl:l.length<=1099511627776):Ret Tryz.prog 105 [v] N (gi (orL l)) N:=by
 refine B7 Aa5 (Z0z rfl) trivial ?_
 simp only[go_sem,A0n,h.len]
 refine Dg l.length 8 (fun i env U=>env 3=gi 0/\env 6=v/\env 7=gi l.length/\orL (l.drop i)=orL l/\N <+: U) rfl ⟨rfl,rfl,rfl,rfl,Zab _⟩ ?_ ?_
 ·rintro i env U hi e8 c0 ⟨e3,e6,e7,hd,hp⟩
  rw[Zae hi,orL] at hd
  simp(disch:=omega) only[go_sem,c0,e3,e6,e7,e8,Cw (h.pre hp) hi,hp]
  grind
 ·rintro env U e8 c0 ⟨e3,e6,e7,hd,hp⟩
  rw[Zbh] at hd
  simp only[go_sem,c0,e3,e6,e7,e8,hp]
  rw[<- hd];rfl
theorem Ah7 (a b:Int):orL [a,b]=orI a b:=by
 unfold orI
 simp only[orL]
 split
 ·split
  ·omega
  ·rfl
 ·rfl
theorem Bx (N:St) (a b:Dot):Ret Tryz.prog 306 [.agg [gi a.rep,gi a.seq],.agg [gi b.rep,gi b.seq]] N (gi (Re a b)) N:=by
 refine B7 A1z (Z0z rfl) trivial ?_
 simp only[go_sem,Ph]
 refine Ao (Dl _ _ _) ?_
 simp only[go_sem]
 refine Ao (Dl _ _ _) ?_
 simp only[go_sem]
 refine Ao (Lh _ _ [cmpI a.rep b.rep,cmpI a.seq b.seq] (Aql (p:=pI) _ _ rfl rfl rfl) (by simp)) ?_
 simp only[go_sem,Ah7]
 rfl
theorem G8 (N:St) (a b:Tally):Ret Tryz.prog 324 [.agg [.str a.obj,gi a.rep,gi a.sum],.agg [.str b.obj,gi b.rep,gi b.sum]] N (gi (It a b)) N:=by
 refine B7 Sm (Z0z rfl) trivial ?_
 simp only[go_sem,L6]
 refine Ao (Ox _ _ _) ?_
 simp only[go_sem]
 refine Ao (Dl _ _ _) ?_
 simp only[go_sem]
 refine Ao (Lh _ _ [cmpS a.obj b.obj,cmpI a.rep b.rep] (Aql (p:=pI) _ _ rfl rfl rfl) (by simp)) ?_
 simp only[go_sem,Ah7]
 rfl
theorem Dm (N:St) (a b:Dot):Ret Tryz.prog 362 [.agg [gi a.rep,gi a.seq],.agg [gi b.rep,gi b.seq]] N (.bool (Az a b)) N:=by
 refine B7 A6x (Z0z rfl) trivial ?_
 simp +contextual only[go_sem,Tz]
 unfold Az
 grind
def Rg:Fn1:=⟨69,[.t 2],(rg [oV 2 kf] (.seq (rg [oV 3 (ki 0)] (oH 0 (.seq (rg [oM 5 3,oM 6 0,oN 7 6,oB 8 .lss 5 7] (oJ 8 0)) (.seq (.blk 1 (rg [oM 11 0,oM 12 3,oI 13 3 11 12,oW 14 3 13,o 4 (.new [s0,z0,z0]),oS 3 4 14] (.seq (rg [oF 15 0 4,oL 16 15,oC 17 348 16,oU 18 17,oM 19 18,vF 20 19 1 4,vL 21 19 20,og 22 19 false (.call 122 [(.t 21),(ki 0),(ki 2)]),vU 23 19 22,oP 24 19 23,oM 25 24,vF 26 25 2 4,vL 27 25 26,og 28 25 false (.call 122 [(.t 27),(ki 0),(ki 999999)]),vU 29 25 28,oP 30 25 29] (oG 30 (oR 2 kf))) (dw [oM 31 3,oE 32 .gtr 31 0,oM 33 32,jM 34 33 0,jM 35 33 3,jE 36 33 .sub 35 1,jI 37 33 3 34 36,jF 38 33 0 37,jL 39 33 38,jF 40 33 0 4,jL 41 33 40,jB 42 33 .gtr 39 41,jM 43 33 42,vM 44 43 0,vM 45 43 3,vE 46 43 .sub 45 1,vI 47 43 3 44 46,vF 48 43 0 47,vL 49 43 48,vF 50 43 0 4,vL 51 43 50,vB 52 43 .eql 49 51,vM 53 43 52,jM 54 53 0,jM 55 53 3,jE 56 53 .sub 55 1,jI 57 53 3 54 56,jF 58 53 1 57,jL 59 53 58,jF 60 53 1 4,jL 61 53 60] [jB 62 53 .geq 59 61,og 63 43 false (.pick (.t 53) (.t 62) kf),og 64 33 true (.pick (.t 43) kt (.t 63)),oQ 65 33 64] (oG 65 (oR 2 kf)))))) (.reg [oM 9 3,oZ 10 9 1,oM 3 10]))))) (rg [oM 66 0,oN 67 66,oE 68 .leq 67 120,oM 2 68] .ret)))⟩
theorem A3a:A8 Tryz.prog 290=some Rg:=by kernel_rfl
def V3:Fn1:=⟨46,[.t 2],(rg [oV 2 kf] (.seq (rg [oM 5 0,oN 6 5,oV 7 (ki 0)] (oH 0 (rg [oB 8 .lss 7 6] (.seq (oJ 8 0) (.seq (.blk 1 (rg [oM 9 7,oI 10 3 5 7,oW 11 3 10,o 4 (.new [s0,z0,z0]),oM 3 9,oS 3 4 11] (dw [oF 12 0 4,oL 13 12,oC 14 341 13,oU 15 14,oM 16 15,vF 17 16 1 4,vL 18 16 17,og 19 16 false (.call 236 [(.t 18),(ki 0),(ki 2)]),vU 20 16 19,oP 21 16 20,oM 22 21,vF 23 22 2 4,vL 24 22 23,og 25 22 false (.call 236 [(.t 24),(ki 0),(ki 999999)]),vU 26 22 25,oP 27 22 26,oM 28 27,vM 29 28 3,vE 30 28 .gtr 29 0,vM 31 28 30,jM 32 31 0,jM 33 31 3,jE 34 31 .sub 33 1,jI 35 31 3 32 34,jW 36 31 3 35,jW 37 31 3 4] [jD 38 31 324 36 37,jE 39 31 .geq 38 0,og 40 28 false (.pick (.t 31) (.t 39) kf),oP 41 28 40] (oG 41 (oR 2 kf))))) (.reg [oZ 42 7 1,oM 7 42])))))) (rg [oM 43 0,oN 44 43,oE 45 .leq 44 120,oM 2 45] .ret)))⟩
theorem A6y:A8 Tryz.prog 285=some V3:=by kernel_rfl
def A0p:Fn1:=⟨66,[.t 2],(rg [oV 2 kf] (.seq (rg [oV 3 (ki 0)] (oH 0 (.seq (rg [oM 5 3,oM 6 0,oN 7 6,oB 8 .lss 5 7] (oJ 8 0)) (.seq (.blk 1 (rg [oM 11 0,oM 12 3,oI 13 6 11 12,oW 14 6 13,o 4 (.new [(.bool false),s0,s0,z0,z0,z0]),oS 6 4 14] (dw [oF 15 4 4,oW 16 2 15,oC 17 168 16,oU 18 17,oM 19 18,vF 20 19 1 4,vL 21 19 20,vC 22 19 348 21,vU 23 19 22,oP 24 19 23,oM 25 24,vF 26 25 2 4,vL 27 25 26,vC 28 25 348 27,vU 29 25 28,oP 30 25 29,oM 31 30,vF 32 31 3 4,vL 33 31 32,og 34 31 false (.call 122 [(.t 33),(ki 0),(ki 999999)]),vU 35 31 34,oP 36 31 35,oM 37 36,vF 38 37 0 4,vL 39 37 38,vU 40 37 39,vM 41 37 40,jF 42 41 3 4,jL 43 41 42,jE 44 41 .neq 43 0,og 45 37 false (.pick (.t 41) (.t 44) kf),oP 46 37 45,oM 47 46,vM 48 47 3,vE 49 47 .gtr 48 0,vM 50 47 49,jM 51 50 0,jM 52 50 3,jE 53 50 .sub 52 1,jI 54 50 6 51 53,jF 55 50 4 54,jW 56 50 2 55,jF 57 50 4 4,jW 58 50 2 57] [jD 59 50 362 56 58,jU 60 50 59,og 61 47 false (.pick (.t 50) (.t 60) kf),oP 62 47 61] (oG 62 (oR 2 kf))))) (.reg [oM 9 3,oZ 10 9 1,oM 3 10]))))) (rg [oM 63 0,oN 64 63,oE 65 .leq 64 120,oM 2 65] .ret)))⟩
theorem Aa6:A8 Tryz.prog 291=some A0p:=by kernel_rfl
def A3c:Fn1:=⟨65,[.t 4],(rg [oV 4 kf] (.seq (rg [oM 7 0,oN 8 7,oV 9 (ki 0)] (oH 0 (rg [oB 10 .lss 9 8] (.seq (oJ 10 0) (.seq (.blk 1 (rg [oM 11 9,oI 12 6 7 9,oW 13 6 12,o 6 (.new [(.bool false),s0,s0,z0,z0,z0]),oM 5 11,oS 6 6 13] (.seq (rg [oM 14 1,oF 15 4 6,oW 16 2 15,oD 17 170 14 16,oU 18 17,oM 19 18,vF 20 19 1 6,vL 21 19 20,vC 22 19 341 21,vU 23 19 22,oP 24 19 23,oM 25 24,vF 26 25 2 6,vL 27 25 26,vC 28 25 341 27,vU 29 25 28,oP 30 25 29,oM 31 30,vF 32 31 3 6,vL 33 31 32,og 34 31 false (.call 236 [(.t 33),(ki 0),(ki 999999)]),vU 35 31 34,oP 36 31 35,oM 37 36,vF 38 37 0 6,vL 39 37 38,vU 40 37 39,vM 41 37 40,jF 42 41 3 6,jL 43 41 42,jE 44 41 .neq 43 0,og 45 37 false (.pick (.t 41) (.t 44) kf),oP 46 37 45] (oG 46 (oR 4 kf))) (dw [oM 47 5,oE 48 .gtr 47 0,oM 49 48,jM 50 49 0,jM 51 49 5,jE 52 49 .sub 51 1,jI 53 49 6 50 52,jF 54 49 4 53,jW 55 49 2 54,jF 56 49 4 6,jW 57 49 2 56] [jD 58 49 306 55 57,jE 59 49 .geq 58 0,oQ 60 49 59] (oG 60 (oR 4 kf)))))) (.reg [oZ 61 9 1,oM 9 61])))))) (rg [oM 62 0,oN 63 62,oE 64 .leq 63 120,oM 4 64] .ret)))⟩
theorem Adg:A8 Tryz.prog 286=some A3c:=by kernel_rfl
def A0r:Fn1:=⟨68,[.t 2],(rg [oV 2 kf] (.seq (rg [oV 3 (ki 0)] (oH 0 (.seq (rg [oM 5 3,oM 6 0,oN 7 6,oB 8 .lss 5 7] (oJ 8 0)) (.seq (.blk 1 (rg [oM 11 0,oM 12 3,oI 13 8 11 12,oW 14 8 13,o 4 (.new [s0,z0,z0,z0,z0,z0,z0,(.bool false)]),oS 8 4 14] (dw [oF 15 1 4,oW 16 2 15,oC 17 168 16,oU 18 17,oM 19 18,vF 20 19 0 4,vL 21 19 20,vC 22 19 348 21,vU 23 19 22,oP 24 19 23,oM 25 24,vF 26 25 3 4,vL 27 25 26,og 28 25 false (.call 122 [(.t 27),(ki 1),(ki 10000)]),vU 29 25 28,oP 30 25 29,oM 31 30,vF 32 31 6 4,vL 33 31 32,og 34 31 false (.call 122 [(.t 33),(ki 0),(ki 999999)]),vU 35 31 34,oP 36 31 35,oM 37 36,vF 38 37 4 4,vW 39 37 2 38,og 40 37 false (.build [z0,z0] []),og 41 37 false (.eqs true [.i .i64,.i .i64] (.t 39) (.t 40)),vM 42 37 41,jF 43 42 4 4,jW 44 42 2 43,jC 45 42 168 44,jU 46 42 45,og 47 37 false (.pick (.t 42) (.t 46) kf),oP 48 37 47,oM 49 48,vM 50 49 3,vE 51 49 .gtr 50 0,vM 52 49 51,jM 53 52 0,jM 54 52 3,jE 55 52 .sub 54 1,jI 56 52 8 53 55,jF 57 52 1 56,jW 58 52 2 57,jF 59 52 1 4,jW 60 52 2 59] [jD 61 52 362 58 60,jU 62 52 61,og 63 49 false (.pick (.t 52) (.t 62) kf),oP 64 49 63] (oG 64 (oR 2 kf))))) (.reg [oM 9 3,oZ 10 9 1,oM 3 10]))))) (rg [oM 65 0,oN 66 65,oE 67 .leq 66 120,oM 2 67] .ret)))⟩
theorem Aa7:A8 Tryz.prog 292=some A0r:=by kernel_rfl
def A3e:Fn1:=⟨55,[.t 4],(rg [oV 4 kf] (.seq (rg [oM 7 0,oN 8 7,oV 9 (ki 0)] (oH 0 (rg [oB 10 .lss 9 8] (.seq (oJ 10 0) (.seq (.blk 1 (rg [oM 11 9,oI 12 8 7 9,oW 13 8 12,o 6 (.new [s0,z0,z0,z0,z0,z0,z0,(.bool false)]),oM 5 11,oS 8 6 13] (.seq (rg [oM 14 1,oF 15 1 6,oW 16 2 15,oD 17 170 14 16,oU 18 17,oM 19 18,vF 20 19 0 6,vL 21 19 20,vC 22 19 341 21,vU 23 19 22,oP 24 19 23,oM 25 24,vF 26 25 6 6,vL 27 25 26,og 28 25 false (.call 236 [(.t 27),(ki 0),(ki 999999)]),vU 29 25 28,oP 30 25 29,oM 31 30,vF 32 31 3 6,vL 33 31 32,og 34 31 false (.call 236 [(.t 33),(ki 1),(ki 10000)]),vU 35 31 34,oP 36 31 35] (oG 36 (oR 4 kf))) (dw [oM 37 5,oE 38 .gtr 37 0,oM 39 38,jM 40 39 0,jM 41 39 5,jE 42 39 .sub 41 1,jI 43 39 8 40 42,jF 44 39 1 43,jW 45 39 2 44,jF 46 39 1 6,jW 47 39 2 46] [jD 48 39 306 45 47,jE 49 39 .geq 48 0,oQ 50 39 49] (oG 50 (oR 4 kf)))))) (.reg [oZ 51 9 1,oM 9 51])))))) (rg [oM 52 0,oN 53 52,oE 54 .leq 53 120,oM 4 54] .ret)))⟩
theorem Adh:A8 Tryz.prog 287=some A3e:=by kernel_rfl
theorem A87 {Y:Type} {l:List Y} {n:Nat}:decide ((l.length:Int)<=(n:Nat))=decide (l.length<=n):=by
 rw[Zag];simp only[decide_eq_true_eq];omega
theorem sub1 {i:Nat} (h:0<i):(i:Int) - 1=((i - 1:Nat):Int):=by omega
theorem Ah8 (a b:Tally):Af a b= !(txLt b.obj a.obj||decide (a.obj=b.obj)&&decide (b.rep<=a.rep)):=by
 unfold Af
 by_cases h:a.obj=b.obj
 ·rw[h,Ky];rw[Zag];simp
 ·cases h1:txLt a.obj b.obj with
  |true=>simp[h,Add h1]
  |false=>
   cases h2:txLt b.obj a.obj with
   |true=>simp[h]
   |false=>exact absurd (Ql h1 h2) h
theorem Aj6 (m:Bool) (n:Int):m=true∨(m=false/\(n != 0)=false/\n=0)∨(m=false/\(n != 0)=true/\n≠0):=by
 cases m
 ·by_cases h:n=0
  ·exact .inr (.inl ⟨rfl,by simp[h],h⟩)
  ·exact .inr (.inr ⟨rfl,by simp[h],h⟩)
 ·exact .inl rfl
theorem Oi (N:St) (v:GV) (l:List Tally) (h:RS Ah.kd N v l) (hl:l.length<=1099511627776) (hsz:∀ x∈l,x.obj.size<=1099511627776):Ret Tryz.prog 290 [v] N (.bool (Fc l)) N:=by
 refine B7 A3a (Z0z rfl) trivial ?_
 simp only[go_sem,Rg,h.len]
 refine Dg l.length 3 (fun i env U=>env 0=v/\(∀ j,j<i->talP l j=true)/\N <+: U) rfl ⟨rfl,fun j hj=>by omega,Zab _⟩ ?_ ?_
 ·rintro i env U hi ei c0 ⟨e0,ha,hp⟩
  have hno:talP l i=false->Fc l=false:=fun hh=>by simp[Fc,Im hi hh]
  have hat:talP l i=((Ea l[i].obj&&(inB l[i].rep 0 2&&inB l[i].sum 0 999999))&&upI Af l i):=by simp only[talP,tal1,Br hi]
  simp only[go_sem,c0,e0,ei,Ae (h.pre hp) hi,fun r=>Ae (h.pre (A3 hp r)) hi,h.len,A3 hp _,hp]
  refine Ac (Hf _ l[i].obj (hsz _ (Zah hi))) (fun h0=> ?_) (fun h0=> ?_)
  rotate_left
  ·simp only[go_sem,c0,e0,ei,Ae (h.pre hp) hi,fun r=>Ae (h.pre (A3 hp r)) hi,h.len,A3 hp _,hp]
   simp[hno (by rw[hat];simp[h0])]
  simp only[go_sem,c0,e0,ei,Ae (h.pre hp) hi,fun r=>Ae (h.pre (A3 hp r)) hi,h.len,A3 hp _,hp]
  refine Ac (Bd _ _ _ _) (fun h1=> ?_) (fun h1=> ?_)
  rotate_left
  ·simp only[go_sem,c0,e0,ei,Ae (h.pre hp) hi,fun r=>Ae (h.pre (A3 hp r)) hi,h.len,A3 hp _,hp]
   simp[hno (by rw[hat];simp[h1])]
  simp only[go_sem,c0,e0,ei,Ae (h.pre hp) hi,fun r=>Ae (h.pre (A3 hp r)) hi,h.len,A3 hp _,hp]
  refine Ac (Bd _ _ _ _) (fun h2=> ?_) (fun h2=> ?_)
  rotate_left
  ·simp only[go_sem,c0,e0,ei,Ae (h.pre hp) hi,fun r=>Ae (h.pre (A3 hp r)) hi,h.len,A3 hp _,hp]
   simp[hno (by rw[hat];simp[h2])]
  simp +contextual (disch:=omega) only[go_sem,c0,e0,ei,Ae (h.pre hp) hi,fun r=>Ae (h.pre (A3 hp r)) hi,h.len,A3 hp _,hp]
  rcases Zaf i with hz|hz
  ·subst hz
   simp only[go_sem,Zam,decide_false,Zat,c0,e0,ei,Ae (h.pre hp) hi,fun r=>Ae (h.pre (A3 hp r)) hi,h.len,A3 hp _,hp]
   refine Ci ha (by rw[hat];simp[h0,h1,h2,upI])
  ·have c1:decide ((0:Int)<i)=true:=by simp;omega
   have hj:i - 1<l.length:=by omega
   have hz':i≠0:=by omega
   simp only[Lu hz' hi hj] at hat
   simp +contextual (disch:=omega) only[go_sem,c1,sub1 hz,Ae (h.pre hp) hj,fun r=>Ae (h.pre (A3 hp r)) hj,c0,e0,ei,Ae (h.pre hp) hi,fun r=>Ae (h.pre (A3 hp r)) hi,h.len,A3 hp _,hp]
   rw[Ah8] at hat
   generalize txLt l[i].obj l[i-1].obj=b1 at*
   generalize decide (l[i-1].obj=l[i].obj)=b2 at*
   grind
 ·rintro env U ei c0 ⟨e0,ha,hp⟩
  simp only[go_sem,c0,e0,ei,h.len,hp]
  simp only[Fc,G0 ha,Za1]
  exact A87
theorem Pi (N:St) (v:GV) (l:List Tally) (h:RS Ah.kd N v l) (hl:l.length<=1099511627776) (hsz:∀ x∈l,x.obj.size<=1099511627776):Ret Tryz.prog 285 [v] N (.bool (Fc l)) N:=by
 refine B7 A6y (Z0z rfl) trivial ?_
 simp only[go_sem,V3,h.len]
 refine Dg l.length 7 (fun i env U=>env 0=v/\env 5=v/\env 6=gi l.length/\(∀ j,j<i->talP l j=true)/\N <+: U) rfl ⟨rfl,rfl,rfl,fun j hj=>by omega,Zab _⟩ ?_ ?_
 ·rintro i env U hi ei c0 ⟨e0,e5,e6,ha,hp⟩
  have hno:talP l i=false->Fc l=false:=fun hh=>by simp[Fc,Im hi hh]
  have hat:talP l i=((Ea l[i].obj&&(inB l[i].rep 0 2&&inB l[i].sum 0 999999))&&upI Af l i):=by simp only[talP,tal1,Br hi]
  simp only[go_sem,c0,e0,e5,e6,ei,Ae (h.pre hp) hi,fun r=>Ae (h.pre (A3 hp r)) hi,h.len,A3 hp _,hp]
  refine Ac (Fm _ l[i].obj (hsz _ (Zah hi))) (fun h0=> ?_) (fun h0=> ?_)
  rotate_left
  ·simp only[go_sem,c0,e0,e5,e6,ei,Ae (h.pre hp) hi,fun r=>Ae (h.pre (A3 hp r)) hi,h.len,A3 hp _,hp]
   simp[hno (by rw[hat];simp[h0])]
  simp only[go_sem,c0,e0,e5,e6,ei,Ae (h.pre hp) hi,fun r=>Ae (h.pre (A3 hp r)) hi,h.len,A3 hp _,hp]
  refine Ac (Bf _ _ _ _) (fun h1=> ?_) (fun h1=> ?_)
  rotate_left
  ·simp only[go_sem,c0,e0,e5,e6,ei,Ae (h.pre hp) hi,fun r=>Ae (h.pre (A3 hp r)) hi,h.len,A3 hp _,hp]
   simp[hno (by rw[hat];simp[h1])]
  simp only[go_sem,c0,e0,e5,e6,ei,Ae (h.pre hp) hi,fun r=>Ae (h.pre (A3 hp r)) hi,h.len,A3 hp _,hp]
  refine Ac (Bf _ _ _ _) (fun h2=> ?_) (fun h2=> ?_)
  rotate_left
  ·simp only[go_sem,c0,e0,e5,e6,ei,Ae (h.pre hp) hi,fun r=>Ae (h.pre (A3 hp r)) hi,h.len,A3 hp _,hp]
   simp[hno (by rw[hat];simp[h2])]
  simp +contextual (disch:=omega) only[go_sem,c0,e0,e5,e6,ei,Ae (h.pre hp) hi,fun r=>Ae (h.pre (A3 hp r)) hi,h.len,A3 hp _,hp]
  rcases Zaf i with hz|hz
  ·subst hz
   simp only[go_sem,Zam,decide_false,Zat,c0,e0,e5,e6,ei,Ae (h.pre hp) hi,fun r=>Ae (h.pre (A3 hp r)) hi,h.len,A3 hp _,hp]
   refine Ci ha (by rw[hat];simp[h0,h1,h2,upI])
  ·have c1:decide ((0:Int)<i)=true:=by simp;omega
   have hj:i - 1<l.length:=by omega
   have hz':i≠0:=by omega
   simp only[Lu hz' hi hj] at hat
   simp only[go_sem,c1,sub1 hz,Ae (h.pre hp) hj,fun r=>Ae (h.pre (A3 hp r)) hj,c0,e0,e5,e6,ei,Ae (h.pre hp) hi,fun r=>Ae (h.pre (A3 hp r)) hi,h.len,A3 hp _,hp]
   refine Ao (G8 _ l[i-1] l[i]) ?_
   simp(disch:=omega) only[go_sem,Ah1,c1,sub1 hz,Ae (h.pre hp) hj,fun r=>Ae (h.pre (A3 hp r)) hj,c0,e0,e5,e6,ei,Ae (h.pre hp) hi,fun r=>Ae (h.pre (A3 hp r)) hi,h.len,A3 hp _,hp]
   cases ho:Af l[i-1] l[i] with
   |true=>
    simp only[go_sem,c1,sub1 hz,Ae (h.pre hp) hj,fun r=>Ae (h.pre (A3 hp r)) hj,c0,e0,e5,e6,ei,Ae (h.pre hp) hi,fun r=>Ae (h.pre (A3 hp r)) hi,h.len,A3 hp _,hp]
    exact Ci ha (by rw[hat];simp[h0,h1,h2,ho])
   |false=>
    simp only[go_sem,c1,sub1 hz,Ae (h.pre hp) hj,fun r=>Ae (h.pre (A3 hp r)) hj,c0,e0,e5,e6,ei,Ae (h.pre hp) hi,fun r=>Ae (h.pre (A3 hp r)) hi,h.len,A3 hp _,hp]
    simp[hno (by rw[hat];simp[ho])]
 ·rintro env U ei c0 ⟨e0,e5,e6,ha,hp⟩
  simp only[go_sem,c0,e0,e5,e6,ei,h.len,hp]
  simp only[Fc,G0 ha,Za1]
  exact A87
theorem Rh (N:St) (v:GV) (l:List Live) (h:RS Ap.kd N v l) (hl:l.length<=1099511627776) (hsz:∀ x∈l,x.obj.size<=1099511627776/\x.key.size<=1099511627776):Ret Tryz.prog 291 [v] N (.bool (Ade l)) N:=by
 refine B7 Aa6 (Z0z rfl) trivial ?_
 simp only[go_sem,A0p,h.len]
 refine Dg l.length 3 (fun i env U=>env 0=v/\(∀ j,j<i->Ah2 l j=true)/\N <+: U) rfl ⟨rfl,fun j hj=>by omega,Zab _⟩ ?_ ?_
 ·rintro i env U hi ei c0 ⟨e0,ha,hp⟩
  have hno:Ah2 l i=false->Ade l=false:=fun hh=>by simp[Ade,Im hi hh]
  have hat:Ah2 l i=(Ik l[i].dot&&((Ea l[i].obj&&(Ea l[i].key&&(inB l[i].val 0 999999&&(l[i].map||decide (l[i].val=0)))))&&upI C5 l i)):=by simp only[Ah2,liv1,Br hi]
  simp only[go_sem,c0,e0,ei,Aa (h.pre hp) hi,fun r=>Aa (h.pre (A3 hp r)) hi,h.len,A3 hp _,hp]
  refine Ac (Gq _ l[i].dot) (fun h0=> ?_) (fun h0=> ?_)
  rotate_left
  ·simp only[go_sem,c0,e0,ei,Aa (h.pre hp) hi,fun r=>Aa (h.pre (A3 hp r)) hi,h.len,A3 hp _,hp]
   simp[hno (by rw[hat];simp[h0])]
  simp only[go_sem,c0,e0,ei,Aa (h.pre hp) hi,fun r=>Aa (h.pre (A3 hp r)) hi,h.len,A3 hp _,hp]
  refine Ac (Hf _ l[i].obj (hsz _ (Zah hi)).1) (fun h1=> ?_) (fun h1=> ?_)
  rotate_left
  ·simp only[go_sem,c0,e0,ei,Aa (h.pre hp) hi,fun r=>Aa (h.pre (A3 hp r)) hi,h.len,A3 hp _,hp]
   simp[hno (by rw[hat];simp[h1])]
  simp only[go_sem,c0,e0,ei,Aa (h.pre hp) hi,fun r=>Aa (h.pre (A3 hp r)) hi,h.len,A3 hp _,hp]
  refine Ac (Hf _ l[i].key (hsz _ (Zah hi)).2) (fun h2=> ?_) (fun h2=> ?_)
  rotate_left
  ·simp only[go_sem,c0,e0,ei,Aa (h.pre hp) hi,fun r=>Aa (h.pre (A3 hp r)) hi,h.len,A3 hp _,hp]
   simp[hno (by rw[hat];simp[h2])]
  simp only[go_sem,c0,e0,ei,Aa (h.pre hp) hi,fun r=>Aa (h.pre (A3 hp r)) hi,h.len,A3 hp _,hp]
  refine Ac (Bd _ _ _ _) (fun h3=> ?_) (fun h3=> ?_)
  rotate_left
  ·simp only[go_sem,c0,e0,ei,Aa (h.pre hp) hi,fun r=>Aa (h.pre (A3 hp r)) hi,h.len,A3 hp _,hp]
   simp[hno (by rw[hat];simp[h3])]
  simp +contextual (disch:=omega) only[go_sem,c0,e0,ei,Aa (h.pre hp) hi,fun r=>Aa (h.pre (A3 hp r)) hi,h.len,A3 hp _,hp]
  rcases Aj6 l[i].map l[i].val with hm|⟨hm,hv,hv'⟩|⟨hm,hv,hv'⟩
  rotate_left 2
  ·simp only[go_sem,hm,hv,c0,e0,ei,Aa (h.pre hp) hi,fun r=>Aa (h.pre (A3 hp r)) hi,h.len,A3 hp _,hp]
   simp[hno (by rw[hat];simp[hm,hv'])]
  ·simp only[go_sem,hm,c0,e0,ei,Aa (h.pre hp) hi,fun r=>Aa (h.pre (A3 hp r)) hi,h.len,A3 hp _,hp]
   rcases Zaf i with hz|hz
   ·subst hz
    simp only[go_sem,Zam,decide_false,Zat,hm,c0,e0,ei,Aa (h.pre hp) hi,fun r=>Aa (h.pre (A3 hp r)) hi,h.len,A3 hp _,hp]
    refine Ci ha (by rw[hat];simp[h0,h1,h2,h3,hm,upI])
   ·have c1:decide ((0:Int)<i)=true:=by simp;omega
    have hj:i - 1<l.length:=by omega
    have hz':i≠0:=by omega
    simp only[Lu hz' hi hj] at hat
    simp only[go_sem,c1,sub1 hz,Aa (h.pre hp) hj,fun r=>Aa (h.pre (A3 hp r)) hj,hm,c0,e0,ei,Aa (h.pre hp) hi,fun r=>Aa (h.pre (A3 hp r)) hi,h.len,A3 hp _,hp]
    refine Ao (Dm _ l[i-1].dot l[i].dot) ?_
    cases ho:Az l[i-1].dot l[i].dot with
    |true=>
     simp(disch:=omega) only[go_sem,c1,sub1 hz,Aa (h.pre hp) hj,fun r=>Aa (h.pre (A3 hp r)) hj,hm,c0,e0,ei,Aa (h.pre hp) hi,fun r=>Aa (h.pre (A3 hp r)) hi,h.len,A3 hp _,hp]
     exact Ci ha (by rw[hat];simp[h0,h1,h2,h3,hm,ho,C5])
    |false=>
     simp only[go_sem,c1,sub1 hz,Aa (h.pre hp) hj,fun r=>Aa (h.pre (A3 hp r)) hj,hm,c0,e0,ei,Aa (h.pre hp) hi,fun r=>Aa (h.pre (A3 hp r)) hi,h.len,A3 hp _,hp]
     simp[hno (by rw[hat];simp[ho,C5])]
  ·simp only[go_sem,hm,hv,c0,e0,ei,Aa (h.pre hp) hi,fun r=>Aa (h.pre (A3 hp r)) hi,h.len,A3 hp _,hp]
   rcases Zaf i with hz|hz
   ·subst hz
    simp only[go_sem,Zam,decide_false,Zat,hm,hv,c0,e0,ei,Aa (h.pre hp) hi,fun r=>Aa (h.pre (A3 hp r)) hi,h.len,A3 hp _,hp]
    refine Ci ha (by rw[hat];simp[h0,h1,h2,h3,hm,decide_eq_true hv',upI])
   ·have c1:decide ((0:Int)<i)=true:=by simp;omega
    have hj:i - 1<l.length:=by omega
    have hz':i≠0:=by omega
    simp only[Lu hz' hi hj] at hat
    simp only[go_sem,c1,sub1 hz,Aa (h.pre hp) hj,fun r=>Aa (h.pre (A3 hp r)) hj,hm,hv,c0,e0,ei,Aa (h.pre hp) hi,fun r=>Aa (h.pre (A3 hp r)) hi,h.len,A3 hp _,hp]
    refine Ao (Dm _ l[i-1].dot l[i].dot) ?_
    cases ho:Az l[i-1].dot l[i].dot with
    |true=>
     simp(disch:=omega) only[go_sem,c1,sub1 hz,Aa (h.pre hp) hj,fun r=>Aa (h.pre (A3 hp r)) hj,hm,hv,c0,e0,ei,Aa (h.pre hp) hi,fun r=>Aa (h.pre (A3 hp r)) hi,h.len,A3 hp _,hp]
     exact Ci ha (by rw[hat];simp[h0,h1,h2,h3,hm,decide_eq_true hv',ho,C5])
    |false=>
     simp only[go_sem,c1,sub1 hz,Aa (h.pre hp) hj,fun r=>Aa (h.pre (A3 hp r)) hj,hm,hv,c0,e0,ei,Aa (h.pre hp) hi,fun r=>Aa (h.pre (A3 hp r)) hi,h.len,A3 hp _,hp]
     simp[hno (by rw[hat];simp[ho,C5])]
 ·rintro env U ei c0 ⟨e0,ha,hp⟩
  simp only[go_sem,c0,e0,ei,h.len,hp]
  simp only[Ade,G0 ha,Za1]
  exact A87
theorem V4 (N:St) (v:GV) (l:List Live) (h:RS Ap.kd N v l) (u:GV) (k:List Int) (hk:RS pI.kd N u k) (hlk:k.length<=1099511627776) (hl:l.length<=1099511627776) (hsz:∀ x∈l,x.obj.size<=1099511627776/\x.key.size<=1099511627776):Ret Tryz.prog 286 [v,u] N (.bool (Kz l k)) N:=by
 refine B7 Adg (Z0z rfl) trivial ?_
 simp only[go_sem,A3c,h.len]
 refine Dg l.length 9 (fun i env U=>env 0=v/\env 1=u/\env 7=v/\env 8=gi l.length/\(∀ j,j<i->livP l k j=true)/\N <+: U) rfl ⟨rfl,rfl,rfl,rfl,fun j hj=>by omega,Zab _⟩ ?_ ?_
 ·rintro i env U hi ei c0 ⟨e0,e1,e7,e8,ha,hp⟩
  have hno:livP l k i=false->Kz l k=false:=fun hh=>by simp[Kz,Im hi hh]
  have hat:livP l k i=(As k l[i].dot&&((Ea l[i].obj&&(Ea l[i].key&&(inB l[i].val 0 999999&&(l[i].map||decide (l[i].val=0)))))&&upI C5 l i)):=by simp only[livP,liv1,Br hi]
  simp only[go_sem,c0,e0,e1,e7,e8,ei,Aa (h.pre hp) hi,fun r=>Aa (h.pre (A3 hp r)) hi,h.len,A3 hp _,hp]
  refine Ac (Ch _ u k l[i].dot (hk.pre (A3 hp _)) hlk) (fun h0=> ?_) (fun h0=> ?_)
  rotate_left
  ·simp only[go_sem,c0,e0,e1,e7,e8,ei,Aa (h.pre hp) hi,fun r=>Aa (h.pre (A3 hp r)) hi,h.len,A3 hp _,hp]
   simp[hno (by rw[hat];simp[h0])]
  simp only[go_sem,c0,e0,e1,e7,e8,ei,Aa (h.pre hp) hi,fun r=>Aa (h.pre (A3 hp r)) hi,h.len,A3 hp _,hp]
  refine Ac (Fm _ l[i].obj (hsz _ (Zah hi)).1) (fun h1=> ?_) (fun h1=> ?_)
  rotate_left
  ·simp only[go_sem,c0,e0,e1,e7,e8,ei,Aa (h.pre hp) hi,fun r=>Aa (h.pre (A3 hp r)) hi,h.len,A3 hp _,hp]
   simp[hno (by rw[hat];simp[h1])]
  simp only[go_sem,c0,e0,e1,e7,e8,ei,Aa (h.pre hp) hi,fun r=>Aa (h.pre (A3 hp r)) hi,h.len,A3 hp _,hp]
  refine Ac (Fm _ l[i].key (hsz _ (Zah hi)).2) (fun h2=> ?_) (fun h2=> ?_)
  rotate_left
  ·simp only[go_sem,c0,e0,e1,e7,e8,ei,Aa (h.pre hp) hi,fun r=>Aa (h.pre (A3 hp r)) hi,h.len,A3 hp _,hp]
   simp[hno (by rw[hat];simp[h2])]
  simp only[go_sem,c0,e0,e1,e7,e8,ei,Aa (h.pre hp) hi,fun r=>Aa (h.pre (A3 hp r)) hi,h.len,A3 hp _,hp]
  refine Ac (Bf _ _ _ _) (fun h3=> ?_) (fun h3=> ?_)
  rotate_left
  ·simp only[go_sem,c0,e0,e1,e7,e8,ei,Aa (h.pre hp) hi,fun r=>Aa (h.pre (A3 hp r)) hi,h.len,A3 hp _,hp]
   simp[hno (by rw[hat];simp[h3])]
  simp +contextual (disch:=omega) only[go_sem,c0,e0,e1,e7,e8,ei,Aa (h.pre hp) hi,fun r=>Aa (h.pre (A3 hp r)) hi,h.len,A3 hp _,hp]
  rcases Aj6 l[i].map l[i].val with hm|⟨hm,hv,hv'⟩|⟨hm,hv,hv'⟩
  rotate_left 2
  ·simp only[go_sem,hm,hv,c0,e0,e1,e7,e8,ei,Aa (h.pre hp) hi,fun r=>Aa (h.pre (A3 hp r)) hi,h.len,A3 hp _,hp]
   simp[hno (by rw[hat];simp[hm,hv'])]
  ·simp only[go_sem,hm,c0,e0,e1,e7,e8,ei,Aa (h.pre hp) hi,fun r=>Aa (h.pre (A3 hp r)) hi,h.len,A3 hp _,hp]
   rcases Zaf i with hz|hz
   ·subst hz
    simp only[go_sem,Zam,decide_false,Zat,hm,c0,e0,e1,e7,e8,ei,Aa (h.pre hp) hi,fun r=>Aa (h.pre (A3 hp r)) hi,h.len,A3 hp _,hp]
    refine Ci ha (by rw[hat];simp[h0,h1,h2,h3,hm,upI])
   ·have c1:decide ((0:Int)<i)=true:=by simp;omega
    have hj:i - 1<l.length:=by omega
    have hz':i≠0:=by omega
    simp only[Lu hz' hi hj] at hat
    simp only[go_sem,c1,sub1 hz,Aa (h.pre hp) hj,fun r=>Aa (h.pre (A3 hp r)) hj,hm,c0,e0,e1,e7,e8,ei,Aa (h.pre hp) hi,fun r=>Aa (h.pre (A3 hp r)) hi,h.len,A3 hp _,hp]
    refine Ao (Bx _ l[i-1].dot l[i].dot) ?_
    simp(disch:=omega) only[go_sem,Pc,c1,sub1 hz,Aa (h.pre hp) hj,fun r=>Aa (h.pre (A3 hp r)) hj,hm,c0,e0,e1,e7,e8,ei,Aa (h.pre hp) hi,fun r=>Aa (h.pre (A3 hp r)) hi,h.len,A3 hp _,hp]
    cases ho:Az l[i-1].dot l[i].dot with
    |true=>
     simp only[go_sem,c1,sub1 hz,Aa (h.pre hp) hj,fun r=>Aa (h.pre (A3 hp r)) hj,hm,c0,e0,e1,e7,e8,ei,Aa (h.pre hp) hi,fun r=>Aa (h.pre (A3 hp r)) hi,h.len,A3 hp _,hp]
     exact Ci ha (by rw[hat];simp[h0,h1,h2,h3,hm,ho,C5])
    |false=>
     simp only[go_sem,c1,sub1 hz,Aa (h.pre hp) hj,fun r=>Aa (h.pre (A3 hp r)) hj,hm,c0,e0,e1,e7,e8,ei,Aa (h.pre hp) hi,fun r=>Aa (h.pre (A3 hp r)) hi,h.len,A3 hp _,hp]
     simp[hno (by rw[hat];simp[ho,C5])]
  ·simp only[go_sem,hm,hv,c0,e0,e1,e7,e8,ei,Aa (h.pre hp) hi,fun r=>Aa (h.pre (A3 hp r)) hi,h.len,A3 hp _,hp]
   rcases Zaf i with hz|hz
   ·subst hz
    simp only[go_sem,Zam,decide_false,Zat,hm,hv,c0,e0,e1,e7,e8,ei,Aa (h.pre hp) hi,fun r=>Aa (h.pre (A3 hp r)) hi,h.len,A3 hp _,hp]
    refine Ci ha (by rw[hat];simp[h0,h1,h2,h3,hm,decide_eq_true hv',upI])
   ·have c1:decide ((0:Int)<i)=true:=by simp;omega
    have hj:i - 1<l.length:=by omega
    have hz':i≠0:=by omega
    simp only[Lu hz' hi hj] at hat
    simp only[go_sem,c1,sub1 hz,Aa (h.pre hp) hj,fun r=>Aa (h.pre (A3 hp r)) hj,hm,hv,c0,e0,e1,e7,e8,ei,Aa (h.pre hp) hi,fun r=>Aa (h.pre (A3 hp r)) hi,h.len,A3 hp _,hp]
    refine Ao (Bx _ l[i-1].dot l[i].dot) ?_
    simp(disch:=omega) only[go_sem,Pc,c1,sub1 hz,Aa (h.pre hp) hj,fun r=>Aa (h.pre (A3 hp r)) hj,hm,hv,c0,e0,e1,e7,e8,ei,Aa (h.pre hp) hi,fun r=>Aa (h.pre (A3 hp r)) hi,h.len,A3 hp _,hp]
    cases ho:Az l[i-1].dot l[i].dot with
    |true=>
     simp only[go_sem,c1,sub1 hz,Aa (h.pre hp) hj,fun r=>Aa (h.pre (A3 hp r)) hj,hm,hv,c0,e0,e1,e7,e8,ei,Aa (h.pre hp) hi,fun r=>Aa (h.pre (A3 hp r)) hi,h.len,A3 hp _,hp]
     exact Ci ha (by rw[hat];simp[h0,h1,h2,h3,hm,decide_eq_true hv',ho,C5])
    |false=>
     simp only[go_sem,c1,sub1 hz,Aa (h.pre hp) hj,fun r=>Aa (h.pre (A3 hp r)) hj,hm,hv,c0,e0,e1,e7,e8,ei,Aa (h.pre hp) hi,fun r=>Aa (h.pre (A3 hp r)) hi,h.len,A3 hp _,hp]
     simp[hno (by rw[hat];simp[ho,C5])]
 ·rintro env U ei c0 ⟨e0,e1,e7,e8,ha,hp⟩
  simp only[go_sem,c0,e0,e1,e7,e8,ei,h.len,hp]
  simp only[Kz,G0 ha,Za1]
  exact A87
theorem Ri (N:St) (v:GV) (l:List Cell) (h:RS Ai.kd N v l) (hl:l.length<=1099511627776) (hsz:∀ x∈l,x.obj.size<=1099511627776):Ret Tryz.prog 292 [v] N (.bool (Adf l)) N:=by
 refine B7 Aa7 (Z0z rfl) trivial ?_
 simp only[go_sem,A0r,h.len]
 refine Dg l.length 3 (fun i env U=>env 0=v/\(∀ j,j<i->Ah3 l j=true)/\N <+: U) rfl ⟨rfl,fun j hj=>by omega,Zab _⟩ ?_ ?_
 ·rintro i env U hi ei c0 ⟨e0,ha,hp⟩
  have hno:Ah3 l i=false->Adf l=false:=fun hh=>by simp[Adf,Im hi hh]
  have hat:Ah3 l i=(Ik l[i].dot&&((Ea l[i].obj&&(inB l[i].val 0 999999&&inB l[i].time 1 10000))&&((decide (l[i].ref=⟨0,0⟩)||Ik l[i].ref)&&upI Dk l i))):=by simp only[Ah3,cel1,refD,Br hi]
  simp only[go_sem,c0,e0,ei,Ab (h.pre hp) hi,fun r=>Ab (h.pre (A3 hp r)) hi,h.len,A3 hp _,hp]
  refine Ac (Gq _ l[i].dot) (fun h0=> ?_) (fun h0=> ?_)
  rotate_left
  ·simp only[go_sem,c0,e0,ei,Ab (h.pre hp) hi,fun r=>Ab (h.pre (A3 hp r)) hi,h.len,A3 hp _,hp]
   simp[hno (by rw[hat];simp[h0])]
  simp only[go_sem,c0,e0,ei,Ab (h.pre hp) hi,fun r=>Ab (h.pre (A3 hp r)) hi,h.len,A3 hp _,hp]
  refine Ac (Hf _ l[i].obj (hsz _ (Zah hi))) (fun h1=> ?_) (fun h1=> ?_)
  rotate_left
  ·simp only[go_sem,c0,e0,ei,Ab (h.pre hp) hi,fun r=>Ab (h.pre (A3 hp r)) hi,h.len,A3 hp _,hp]
   simp[hno (by rw[hat];simp[h1])]
  simp only[go_sem,c0,e0,ei,Ab (h.pre hp) hi,fun r=>Ab (h.pre (A3 hp r)) hi,h.len,A3 hp _,hp]
  refine Ac (Bd _ _ _ _) (fun h2=> ?_) (fun h2=> ?_)
  rotate_left
  ·simp only[go_sem,c0,e0,ei,Ab (h.pre hp) hi,fun r=>Ab (h.pre (A3 hp r)) hi,h.len,A3 hp _,hp]
   simp[hno (by rw[hat];simp[h2])]
  simp only[go_sem,c0,e0,ei,Ab (h.pre hp) hi,fun r=>Ab (h.pre (A3 hp r)) hi,h.len,A3 hp _,hp]
  refine Ac (Bd _ _ _ _) (fun h3=> ?_) (fun h3=> ?_)
  rotate_left
  ·simp only[go_sem,c0,e0,ei,Ab (h.pre hp) hi,fun r=>Ab (h.pre (A3 hp r)) hi,h.len,A3 hp _,hp]
   simp[hno (by rw[hat];simp[h3])]
  simp +contextual (disch:=omega) only[go_sem,c0,e0,ei,Ab (h.pre hp) hi,fun r=>Ab (h.pre (A3 hp r)) hi,h.len,A3 hp _,hp]
  by_cases hr:l[i].ref=⟨0,0⟩
  ·have hrd:=decide_eq_true hr
   simp only[go_sem,hrd,c0,e0,ei,Ab (h.pre hp) hi,fun r=>Ab (h.pre (A3 hp r)) hi,h.len,A3 hp _,hp]
   rcases Zaf i with hz|hz
   ·subst hz
    simp only[go_sem,Zam,decide_false,Zat,hrd,c0,e0,ei,Ab (h.pre hp) hi,fun r=>Ab (h.pre (A3 hp r)) hi,h.len,A3 hp _,hp]
    refine Ci ha (by rw[hat];simp[h0,h1,h2,h3,hrd,upI])
   ·have c1:decide ((0:Int)<i)=true:=by simp;omega
    have hj:i - 1<l.length:=by omega
    have hz':i≠0:=by omega
    simp only[Lu hz' hi hj] at hat
    simp only[go_sem,c1,sub1 hz,Ab (h.pre hp) hj,fun r=>Ab (h.pre (A3 hp r)) hj,hrd,c0,e0,ei,Ab (h.pre hp) hi,fun r=>Ab (h.pre (A3 hp r)) hi,h.len,A3 hp _,hp]
    refine Ao (Dm _ l[i-1].dot l[i].dot) ?_
    cases ho:Az l[i-1].dot l[i].dot with
    |true=>
     simp(disch:=omega) only[go_sem,c1,sub1 hz,Ab (h.pre hp) hj,fun r=>Ab (h.pre (A3 hp r)) hj,hrd,c0,e0,ei,Ab (h.pre hp) hi,fun r=>Ab (h.pre (A3 hp r)) hi,h.len,A3 hp _,hp]
     exact Ci ha (by rw[hat];simp[h0,h1,h2,h3,hrd,ho,Dk])
    |false=>
     simp only[go_sem,c1,sub1 hz,Ab (h.pre hp) hj,fun r=>Ab (h.pre (A3 hp r)) hj,hrd,c0,e0,ei,Ab (h.pre hp) hi,fun r=>Ab (h.pre (A3 hp r)) hi,h.len,A3 hp _,hp]
     simp[hno (by rw[hat];simp[ho,Dk])]
  ·have hrd:=decide_eq_false hr
   simp only[go_sem,hrd,c0,e0,ei,Ab (h.pre hp) hi,fun r=>Ab (h.pre (A3 hp r)) hi,h.len,A3 hp _,hp]
   refine Ac (Gq _ l[i].ref) (fun hq=> ?_) (fun hq=> ?_)
   rotate_left
   ·simp only[go_sem,hrd,c0,e0,ei,Ab (h.pre hp) hi,fun r=>Ab (h.pre (A3 hp r)) hi,h.len,A3 hp _,hp]
    simp[hno (by rw[hat];simp[hrd,hq])]
   simp +contextual (disch:=omega) only[go_sem,hrd,c0,e0,ei,Ab (h.pre hp) hi,fun r=>Ab (h.pre (A3 hp r)) hi,h.len,A3 hp _,hp]
   rcases Zaf i with hz|hz
   ·subst hz
    simp only[go_sem,Zam,decide_false,Zat,hrd,c0,e0,ei,Ab (h.pre hp) hi,fun r=>Ab (h.pre (A3 hp r)) hi,h.len,A3 hp _,hp]
    refine Ci ha (by rw[hat];simp[h0,h1,h2,h3,hrd,hq,upI])
   ·have c1:decide ((0:Int)<i)=true:=by simp;omega
    have hj:i - 1<l.length:=by omega
    have hz':i≠0:=by omega
    simp only[Lu hz' hi hj] at hat
    simp only[go_sem,c1,sub1 hz,Ab (h.pre hp) hj,fun r=>Ab (h.pre (A3 hp r)) hj,hrd,c0,e0,ei,Ab (h.pre hp) hi,fun r=>Ab (h.pre (A3 hp r)) hi,h.len,A3 hp _,hp]
    refine Ao (Dm _ l[i-1].dot l[i].dot) ?_
    cases ho:Az l[i-1].dot l[i].dot with
    |true=>
     simp(disch:=omega) only[go_sem,c1,sub1 hz,Ab (h.pre hp) hj,fun r=>Ab (h.pre (A3 hp r)) hj,hrd,c0,e0,ei,Ab (h.pre hp) hi,fun r=>Ab (h.pre (A3 hp r)) hi,h.len,A3 hp _,hp]
     exact Ci ha (by rw[hat];simp[h0,h1,h2,h3,hrd,hq,ho,Dk])
    |false=>
     simp only[go_sem,c1,sub1 hz,Ab (h.pre hp) hj,fun r=>Ab (h.pre (A3 hp r)) hj,hrd,c0,e0,ei,Ab (h.pre hp) hi,fun r=>Ab (h.pre (A3 hp r)) hi,h.len,A3 hp _,hp]
     simp[hno (by rw[hat];simp[ho,Dk])]
 ·rintro env U ei c0 ⟨e0,ha,hp⟩
  simp only[go_sem,c0,e0,ei,h.len,hp]
  simp only[Adf,G0 ha,Za1]
  exact A87
theorem V5 (N:St) (v:GV) (l:List Cell) (h:RS Ai.kd N v l) (u:GV) (k:List Int) (hk:RS pI.kd N u k) (hlk:k.length<=1099511627776) (hl:l.length<=1099511627776) (hsz:∀ x∈l,x.obj.size<=1099511627776):Ret Tryz.prog 287 [v,u] N (.bool (Je l k)) N:=by
 refine B7 Adh (Z0z rfl) trivial ?_
 simp only[go_sem,A3e,h.len]
 refine Dg l.length 9 (fun i env U=>env 0=v/\env 1=u/\env 7=v/\env 8=gi l.length/\(∀ j,j<i->celP l k j=true)/\N <+: U) rfl ⟨rfl,rfl,rfl,rfl,fun j hj=>by omega,Zab _⟩ ?_ ?_
 ·rintro i env U hi ei c0 ⟨e0,e1,e7,e8,ha,hp⟩
  have hno:celP l k i=false->Je l k=false:=fun hh=>by simp[Je,Im hi hh]
  have hat:celP l k i=(As k l[i].dot&&((Ea l[i].obj&&(inB l[i].val 0 999999&&inB l[i].time 1 10000))&&upI Dk l i)):=by simp only[celP,cel1,Br hi]
  simp only[go_sem,c0,e0,e1,e7,e8,ei,Ab (h.pre hp) hi,fun r=>Ab (h.pre (A3 hp r)) hi,h.len,A3 hp _,hp]
  refine Ac (Ch _ u k l[i].dot (hk.pre (A3 hp _)) hlk) (fun h0=> ?_) (fun h0=> ?_)
  rotate_left
  ·simp only[go_sem,c0,e0,e1,e7,e8,ei,Ab (h.pre hp) hi,fun r=>Ab (h.pre (A3 hp r)) hi,h.len,A3 hp _,hp]
   simp[hno (by rw[hat];simp[h0])]
  simp only[go_sem,c0,e0,e1,e7,e8,ei,Ab (h.pre hp) hi,fun r=>Ab (h.pre (A3 hp r)) hi,h.len,A3 hp _,hp]
  refine Ac (Fm _ l[i].obj (hsz _ (Zah hi))) (fun h1=> ?_) (fun h1=> ?_)
  rotate_left
  ·simp only[go_sem,c0,e0,e1,e7,e8,ei,Ab (h.pre hp) hi,fun r=>Ab (h.pre (A3 hp r)) hi,h.len,A3 hp _,hp]
   simp[hno (by rw[hat];simp[h1])]
  simp only[go_sem,c0,e0,e1,e7,e8,ei,Ab (h.pre hp) hi,fun r=>Ab (h.pre (A3 hp r)) hi,h.len,A3 hp _,hp]
  refine Ac (Bf _ _ _ _) (fun h2=> ?_) (fun h2=> ?_)
  rotate_left
  ·simp only[go_sem,c0,e0,e1,e7,e8,ei,Ab (h.pre hp) hi,fun r=>Ab (h.pre (A3 hp r)) hi,h.len,A3 hp _,hp]
   simp[hno (by rw[hat];simp[h2])]
  simp only[go_sem,c0,e0,e1,e7,e8,ei,Ab (h.pre hp) hi,fun r=>Ab (h.pre (A3 hp r)) hi,h.len,A3 hp _,hp]
  refine Ac (Bf _ _ _ _) (fun h3=> ?_) (fun h3=> ?_)
  rotate_left
  ·simp only[go_sem,c0,e0,e1,e7,e8,ei,Ab (h.pre hp) hi,fun r=>Ab (h.pre (A3 hp r)) hi,h.len,A3 hp _,hp]
   simp[hno (by rw[hat];simp[h3])]
  simp +contextual (disch:=omega) only[go_sem,c0,e0,e1,e7,e8,ei,Ab (h.pre hp) hi,fun r=>Ab (h.pre (A3 hp r)) hi,h.len,A3 hp _,hp]
  rcases Zaf i with hz|hz
  ·subst hz
   simp only[go_sem,Zam,decide_false,Zat,c0,e0,e1,e7,e8,ei,Ab (h.pre hp) hi,fun r=>Ab (h.pre (A3 hp r)) hi,h.len,A3 hp _,hp]
   refine Ci ha (by rw[hat];simp[h0,h1,h2,h3,upI])
  ·have c1:decide ((0:Int)<i)=true:=by simp;omega
   have hj:i - 1<l.length:=by omega
   have hz':i≠0:=by omega
   simp only[Lu hz' hi hj] at hat
   simp only[go_sem,c1,sub1 hz,Ab (h.pre hp) hj,fun r=>Ab (h.pre (A3 hp r)) hj,c0,e0,e1,e7,e8,ei,Ab (h.pre hp) hi,fun r=>Ab (h.pre (A3 hp r)) hi,h.len,A3 hp _,hp]
   refine Ao (Bx _ l[i-1].dot l[i].dot) ?_
   simp(disch:=omega) only[go_sem,Pc,c1,sub1 hz,Ab (h.pre hp) hj,fun r=>Ab (h.pre (A3 hp r)) hj,c0,e0,e1,e7,e8,ei,Ab (h.pre hp) hi,fun r=>Ab (h.pre (A3 hp r)) hi,h.len,A3 hp _,hp]
   cases ho:Az l[i-1].dot l[i].dot with
   |true=>
    simp only[go_sem,c1,sub1 hz,Ab (h.pre hp) hj,fun r=>Ab (h.pre (A3 hp r)) hj,c0,e0,e1,e7,e8,ei,Ab (h.pre hp) hi,fun r=>Ab (h.pre (A3 hp r)) hi,h.len,A3 hp _,hp]
    exact Ci ha (by rw[hat];simp[h0,h1,h2,h3,ho,Dk])
   |false=>
    simp only[go_sem,c1,sub1 hz,Ab (h.pre hp) hj,fun r=>Ab (h.pre (A3 hp r)) hj,c0,e0,e1,e7,e8,ei,Ab (h.pre hp) hi,fun r=>Ab (h.pre (A3 hp r)) hi,h.len,A3 hp _,hp]
    simp[hno (by rw[hat];simp[ho,Dk])]
 ·rintro env U ei c0 ⟨e0,e1,e7,e8,ha,hp⟩
  simp only[go_sem,c0,e0,e1,e7,e8,ei,h.len,hp]
  simp only[Je,G0 ha,Za1]
  exact A87
def A3g:Fn1:=⟨2,[.t 0],(rg [o 0 (.mov (.k .nilS))] (rg [o 1 (.mks 1 8 [z0] (ki 3) (ki 3)),oM 0 1] .ret))⟩
theorem Adi:A8 Tryz.prog 165=some A3g:=by kernel_rfl
def A3i:Fn1:=⟨2,[.t 0],(rg [o 0 (.mov (.k .nilS))] (rg [o 1 (.mks 1 8 [z0] (ki 3) (ki 3)),oM 0 1] .ret))⟩
theorem Adj:A8 Tryz.prog 179=some A3i:=by kernel_rfl
def A0t:Fn1:=⟨6,[.t 2],(rg [o 2 (.mov (.k .nilS))] (rg [o 3 (.lit 1 0 [] []),oM 4 0,o 5 (.app 1 8 [z0] (.t 3) (.t 4)),oM 2 5] .ret))⟩
theorem Aa8:A8 Tryz.prog 182=some A0t:=by kernel_rfl
def A3k:Fn1:=⟨43,[.t 4],(rg [o 4 (.mov (.k .nilS))] (rg [o 8 (.lit 1 0 [] []),oM 5 8] (.seq (rg [oM 9 0,oC 10 167 9,oU 11 10,oM 12 11,vM 13 12 1,vC 14 12 167 13,vU 15 12 14,oP 16 12 15] (oG 16 (rg [oM 17 5,oM 4 17] .ret))) (.seq (rg [oV 6 (ki 0)] (oH 0 (.seq (rg [oM 18 6,oM 19 0,oN 20 19,oB 21 .lss 18 20] (oJ 21 0)) (.seq (.blk 1 (rg [oM 24 0,oM 25 6,oI 26 1 24 25,oL 27 26,oM 7 27] (.seq (rg [oM 28 1,oM 29 6,oI 30 1 28 29,oL 31 30,oM 32 7,oB 33 .gtr 31 32] (oG 33 (.reg [oM 34 1,oM 35 6,oI 36 1 34 35,oL 37 36,oM 7 37]))) (.reg [oM 38 5,oM 39 7,o 40 (.lit 1 1 [z0] [(0,1,(.t 39))]),o 41 (.app 1 8 [z0] (.t 38) (.t 40)),oM 5 41])))) (.reg [oM 22 6,oZ 23 22 1,oM 6 23]))))) (rg [oM 42 5,oM 4 42] .ret)))))⟩
theorem Adk:A8 Tryz.prog 181=some A3k:=by kernel_rfl
def A3m:Fn1:=⟨36,[.t 4],(rg [o 4 (.mov (.k .nilS))] (.seq (rg [oM 8 0,oC 9 176 8,oU 10 9,oM 11 10,vM 12 11 1,vC 13 11 176 12,vU 14 11 13,oP 15 11 14] (oG 15 (rg [o 4 (.mov (.k .nilS))] .ret))) (rg [oM 16 0,oC 17 182 16,oM 5 17] (.seq (rg [oM 18 1,oN 19 18,oV 20 (ki 0)] (oH 0 (rg [oB 21 .lss 20 19] (.seq (oJ 21 0) (.seq (.blk 1 (rg [oM 22 20,oI 23 1 18 20,oL 24 23,oM 6 22,oM 7 24] (.reg [oM 25 5,oM 26 6,oM 27 5,oM 28 6,oI 29 1 27 28,oL 30 29,oM 31 7,o 32 (.mm true (.t 30) (.t 31)),oI 33 1 25 26,oS 1 33 32]))) (.reg [oZ 34 20 1,oM 20 34])))))) (rg [oM 35 5,oM 4 35] .ret)))))⟩
theorem Adl:A8 Tryz.prog 180=some A3m:=by kernel_rfl
def A89:Fn1:=⟨29,[.t 4],(rg [oV 4 kf] (.seq (rg [oM 6 0,oC 7 167 6,oU 8 7,oM 9 8,vM 10 9 1,vC 11 9 167 10,vU 12 9 11,oP 13 9 12] (oG 13 (oR 4 kf))) (.seq (rg [oV 5 (ki 0)] (oH 0 (.seq (rg [oM 14 5,oM 15 0,oN 16 15,oB 17 .lss 14 16] (oJ 17 0)) (.seq (.blk 1 (dw [oM 20 0,oM 21 5,oI 22 1 20 21,oL 23 22,oM 24 1,oM 25 5,oI 26 1 24 25,oL 27 26] [oB 28 .gtr 23 27] (oG 28 (oR 4 kf)))) (.reg [oM 18 5,oZ 19 18 1,oM 5 19]))))) (oR 4 kt))))⟩
theorem Ah9:A8 Tryz.prog 178=some A89:=by kernel_rfl
def A8b:Fn1:=⟨29,[.t 4],(rg [oV 4 kf] (.seq (rg [oM 7 0,oC 8 176 7,oU 9 8,oM 10 9,vM 11 10 1,vC 12 10 176 11,vU 13 10 12,oP 14 10 13] (oG 14 (oR 4 kf))) (.seq (rg [oM 15 0,oN 16 15,oV 17 (ki 0)] (oH 0 (rg [oB 18 .lss 17 16] (.seq (oJ 18 0) (.seq (.blk 1 (rg [oM 19 17,oI 20 1 15 17,oL 21 20,oM 5 19,oM 6 21] (rg [oM 22 6,oM 23 1,oM 24 5,oI 25 1 23 24,oL 26 25,oB 27 .gtr 22 26] (oG 27 (oR 4 kf))))) (.reg [oZ 28 17 1,oM 17 28])))))) (oR 4 kt))))⟩
theorem Aha:A8 Tryz.prog 177=some A8b:=by kernel_rfl
def A3o:Fn1:=⟨26,[.t 4],(rg [oV 4 kf] (.seq (rg [oM 6 0,oN 7 6,oM 8 1,oN 9 8,oB 10 .neq 7 9] (oG 10 (oR 4 kf))) (.seq (rg [oV 5 (ki 0)] (oH 0 (.seq (rg [oM 11 5,oM 12 0,oN 13 12,oB 14 .lss 11 13] (oJ 14 0)) (.seq (.blk 1 (dw [oM 17 0,oM 18 5,oI 19 1 17 18,oL 20 19,oM 21 1,oM 22 5,oI 23 1 21 22,oL 24 23] [oB 25 .neq 20 24] (oG 25 (oR 4 kf)))) (.reg [oM 15 5,oZ 16 15 1,oM 5 16]))))) (oR 4 kt))))⟩
theorem Adm:A8 Tryz.prog 171=some A3o:=by kernel_rfl
def Ii:Fn1:=⟨26,[.t 4],(rg [oV 4 kf] (.seq (rg [oM 6 0,oN 7 6,oM 8 1,oN 9 8,oB 10 .neq 7 9] (oG 10 (oR 4 kf))) (.seq (rg [oM 11 0,oN 12 11,oV 13 (ki 0)] (oH 0 (rg [oB 14 .lss 13 12] (.seq (oJ 14 0) (.seq (.blk 1 (rg [oM 15 13,oM 5 15] (dw [oM 16 0,oM 17 5,oI 18 1 16 17,oL 19 18,oM 20 1,oM 21 5,oI 22 1 20 21,oL 23 22] [oB 24 .neq 19 23] (oG 24 (oR 4 kf))))) (.reg [oZ 25 13 1,oM 13 25])))))) (oR 4 kt))))⟩
theorem Ms:A8 Tryz.prog 156=some Ii:=by kernel_rfl
theorem V6 (N:St):∃ r U,Ret Tryz.prog 165 [] N r U/\Hp N U [ow pI.kd r [0,0,0]]:=by
 refine Tr (rs:=fun r=>[ow pI.kd r [0,0,0]]) Adi (Z0z rfl) ?_
 have h3:Bu (some (.int .i64 3))=some 3:=rfl
 simp only[go_sem,A3g,h3,Aqj (show 3*8<=140737488355328 by omega)]
 exact⟨_,rfl,((Hp.refl N).new 1 (reps 3 [gi 0])).toRow 0 (p:=pI) rfl [0,0,0] rfl rfl 3 rfl⟩
theorem V7 (N:St):∃ r U,Ret Tryz.prog 179 [] N r U/\Hp N U [ow pI.kd r [0,0,0]]:=by
 refine Tr (rs:=fun r=>[ow pI.kd r [0,0,0]]) Adj (Z0z rfl) ?_
 have h3:Bu (some (.int .i64 3))=some 3:=rfl
 simp only[go_sem,A3i,h3,Aqj (show 3*8<=140737488355328 by omega)]
 exact⟨_,rfl,((Hp.refl N).new 1 (reps 3 [gi 0])).toRow 0 (p:=pI) rfl [0,0,0] rfl rfl 3 rfl⟩
theorem E6 (N:St) (v:GV) (l:List Int) (h:RS pI.kd N v l) (hl:l.length<=1099511627776):∃ r U,Ret Tryz.prog 182 [v] N r U/\Hp N U [ow pI.kd r l]:=by
 refine Tr (rs:=fun r=>[ow pI.kd r l]) Aa8 (Z0z rfl) ?_
 obtain⟨v',U',e,H⟩:=(Hp.refl N).nil_int.apps_int 0 rfl (h.pre (pre1 _ _)) (by simp;omega)
 simp only[go_sem,A0t,e]
 exact⟨_,rfl,H⟩
def zipK (f:Int->Int->Int) (a b:List Int):List Int:=if okK a&&okK b then Zau f a b else[]
def mx (x y:Int):Int:=if y>x then y else x
def mn (x y:Int):Int:=if y<x then y else x
def kMax (a b:List Int):List Int:=zipK mx a b
theorem Aa9 (f:Int->Int->Int) (a b:List Int):(zipK f a b).length<=3:=by
 unfold zipK
 split
 ·rename_i h
  simp only[Zaa] at h
  have:=D8 h.1
  simp;omega
 ·simp
theorem A3p {f:Int->Int->Int} {a b:List Int} (ha:okK a=true) (hb:okK b=true):zipK f a b=Zau f a b:=by simp[zipK,ha,hb]
theorem Aaa {f:Int->Int->Int} {a b:List Int} {i:Nat} (hi:i<a.length) (hj:i<b.length):(Zau f a b).take (i+1)=(Zau f a b).take i++[f a[i] b[i]]:=by
 rw[Ak (by simp;omega),List.getElem_zipWith]
theorem Mt (N:St) (v u:GV) (a b:List Int) (ha:RS pI.kd N v a) (hb:RS pI.kd N u b) (hla:a.length<=1099511627776) (hlb:b.length<=1099511627776):∃ r U,Ret Tryz.prog 181 [v,u] N r U/\Hp N U [ow pI.kd r (kMax a b)]:=by
 refine Tr (rs:=fun r=>[ow pI.kd r (kMax a b)]) Adk (Z0z rfl) ?_
 have H:=(Hp.refl N).nil_int
 simp only[go_sem,A3k]
 refine Ac (Bv _ v a (ha.pre H.sub) hla) (fun h1=> ?_) (fun h1=> ?_)
 ·simp only[go_sem]
  refine Ac (Bv _ u b (hb.pre H.sub) hlb) (fun h2=> ?_) (fun h2=> ?_)
  ·have hk:kMax a b=Zau mx a b:=A3p h1 h2
   have la:=D8 h1
   have lb:=D8 h2
   simp only[go_sem]
   refine Dg a.length 6 (fun i env U=>env 0=v/\env 1=u/\Hp N U [ow pI.kd (env 5) ((kMax a b).take i)]) rfl ⟨rfl,rfl,H⟩ ?_ ?_
   ·rintro i env U hi e6 c0 ⟨e0,e1,H⟩
    have hj:i<b.length:=by omega
    obtain⟨v',U',e,H'⟩:=H.app_int 0 rfl (mx a[i] b[i]) (by rw[hk];simp;omega)
    rw[hk,<-Aaa hi hj,<-hk] at H'
    by_cases hc:b[i]>a[i]
    ·have hm:mx a[i] b[i]=b[i]:=if_pos hc
     have hd:decide (a[i]<b[i])=true:=decide_eq_true hc
     rw[hm] at e
     simp(disch:=omega) only[go_sem,c0,e0,e1,e6,ha.len,Cw (ha.pre H.sub) hi,Cw (hb.pre H.sub) hj,hd,e]
     exact H'
    ·have hm:mx a[i] b[i]=a[i]:=if_neg hc
     have hd:decide (a[i]<b[i])=false:=decide_eq_false hc
     rw[hm] at e
     simp(disch:=omega) only[go_sem,c0,e0,e1,e6,ha.len,Cw (ha.pre H.sub) hi,Cw (hb.pre H.sub) hj,hd,e]
     exact H'
   ·rintro env U e6 c0 ⟨e0,e1,H⟩
    rw[Za4 (by rw[hk];simp;omega)] at H
    simp only[go_sem,c0,e0,e1,e6,ha.len]
    exact⟨_,rfl,H⟩
  ·simp only[go_sem]
   exact⟨_,rfl,by simpa [kMax,zipK,h1,h2] using H⟩
 ·simp only[go_sem]
  exact⟨_,rfl,by simpa [kMax,zipK,h1] using H⟩
theorem Aj7 {l:List Int} {f:Int->Int->Int} {b:List Int} {i:Nat} (hi:i<l.length) (hj:i<b.length) (hlen:l.length=b.length):((Zau f l b).take i++l.drop i).set i (f l[i] b[i])=(Zau f l b).take (i+1)++l.drop (i+1):=by
 rw[Aaa hi hj,List.set_append_right _ _ (by simp;omega)]
 have e1:i - ((Zau f l b).take i).length=0:=by simp;omega
 rw[e1,Zae hi,List.set_cons_zero,List.append_assoc];rfl
theorem Amt {l b:List Int} {f:Int->Int->Int} {i:Nat} (hi:i<l.length) (hj:i<b.length):∃ h,((Zau f l b).take i++l.drop i)[i]'h=l[i]:=by
 refine⟨by simp;omega,?_⟩
 rw[List.getElem_append_right (by simp;omega)]
 simp only[Za7,List.length_zipWith,List.getElem_drop]
 congr 1;omega
theorem V8 (N:St) (v u:GV) (a b:List Int) (ha:RS pI.kd N v a) (hb:RS pI.kd N u b) (hla:a.length<=1099511627776) (hlb:b.length<=1099511627776):∃ r U,Ret Tryz.prog 180 [v,u] N r U/\Hp N U [ow pI.kd r (kMax a b)]:=by
 refine Tr (rs:=fun r=>[ow pI.kd r (kMax a b)]) Adl (Z0z rfl) ?_
 simp only[go_sem,A3m]
 refine Ac (Bw _ v a ha hla) (fun h1=> ?_) (fun h1=> ?_)
 ·simp only[go_sem]
  refine Ac (Bw _ u b hb hlb) (fun h2=> ?_) (fun h2=> ?_)
  ·have hk:kMax a b=Zau mx a b:=A3p h1 h2
   have la:=D8 h1
   have lb:=D8 h2
   simp only[go_sem]
   obtain⟨r,U,R,K⟩:=E6 N v a ha hla
   refine J8 R K ?_
   simp only[go_sem,hb.len]
   refine Dg b.length 20 (fun i env U=>env 5=r/\env 18=u/\env 19=gi b.length/\Hp N U [ow pI.kd r ((kMax a b).take i++a.drop i)]) rfl ⟨rfl,rfl,rfl,by simpa using K⟩ ?_ ?_
   ·rintro i env U hi e20 c0 ⟨e5,e18,e19,H⟩
    have hj:i<a.length:=by omega
    rw[hk] at H
    obtain⟨hq,hcur⟩:=Amt (f:=mx) hj hi
    have hat:=Cw (H.sl 0 rfl) hq
    rw[hcur] at hat
    obtain⟨U2,es,H2⟩:=H.stw 0 rfl hq 1 (.int .i64 (mx a[i] b[i])) (mx a[i] b[i]) rfl rfl (by decide)
    have es:stG 1 U (atz 1 r i) (.int .i64 (if b[i]>a[i] then b[i] else a[i]))=some (.tup [],U2):=es
    rw[Aj7 hj hi (by omega),<-hk] at H2
    simp(disch:=omega) only[go_sem,c0,e5,e18,e19,e20,Cw (hb.pre H.sub) hi,hat,es]
    exact H2
   ·rintro env U e20 c0 ⟨e5,e18,e19,H⟩
    rw[Za4 (by rw[hk];simp;omega),List.drop_eq_nil_of_le (by omega),Zb6] at H
    simp only[go_sem,c0,e5,e18,e19,e20]
    exact⟨_,rfl,H⟩
  ·simp only[go_sem]
   exact⟨_,rfl,by simpa [kMax,zipK,h1,h2] using (Hp.refl N).nilS (d:=pI.kd)⟩
 ·simp only[go_sem]
  exact⟨_,rfl,by simpa [kMax,zipK,h1] using (Hp.refl N).nilS (d:=pI.kd)⟩
def kLe:List Int->List Int->Bool
 |x::xs,y::ys=>decide (x<=y)&&kLe xs ys
 |_,_=>true
theorem Aj8 {a b:List Int} {i:Nat} (hi:i<a.length) (hj:i<b.length):kLe (a.drop i) (b.drop i)=(decide (a[i]<=b[i])&&kLe (a.drop (i+1)) (b.drop (i+1))):=by
 rw[Zae hi,Zae hj];rfl
def Gf (a b:List Int):Bool:=okK a&&(okK b&&kLe a b)
theorem Hg (N:St) (v u:GV) (a b:List Int) (ha:RS pI.kd N v a) (hb:RS pI.kd N u b) (hla:a.length<=1099511627776) (hlb:b.length<=1099511627776):Ret Tryz.prog 178 [v,u] N (.bool (Gf a b)) N:=by
 refine B7 Ah9 (Z0z rfl) trivial ?_
 simp only[go_sem,A89]
 refine Ac (Bv _ v a ha hla) (fun h1=> ?_) (fun h1=> ?_)
 ·simp only[go_sem]
  refine Ac (Bv _ u b hb hlb) (fun h2=> ?_) (fun h2=> ?_)
  ·have la:=D8 h1
   have lb:=D8 h2
   simp only[go_sem,Gf,h1,h2]
   refine Dg a.length 5 (fun i env U=>env 0=v/\env 1=u/\kLe (a.drop i) (b.drop i)=kLe a b/\N <+: U) rfl ⟨rfl,rfl,rfl,Zab _⟩ ?_ ?_
   ·rintro i env U hi e5 c0 ⟨e0,e1,hk,hp⟩
    have hj:i<b.length:=by omega
    rw[Aj8 hi hj] at hk
    simp(disch:=omega) only[go_sem,c0,e0,e1,e5,ha.len,Cw (ha.pre hp) hi,Cw (hb.pre hp) hj,hp]
    grind
   ·rintro env U e5 c0 ⟨e0,e1,hk,hp⟩
    rw[Zbh] at hk
    simp only[go_sem,c0,e0,e1,e5,ha.len,hp]
    rw[<- hk];rfl
  ·simp only[go_sem,Gf,h1,h2]
 ·simp only[go_sem,Gf,h1]
theorem Hh (N:St) (v u:GV) (a b:List Int) (ha:RS pI.kd N v a) (hb:RS pI.kd N u b) (hla:a.length<=1099511627776) (hlb:b.length<=1099511627776):Ret Tryz.prog 177 [v,u] N (.bool (Gf a b)) N:=by
 refine B7 Aha (Z0z rfl) trivial ?_
 simp only[go_sem,A8b]
 refine Ac (Bw _ v a ha hla) (fun h1=> ?_) (fun h1=> ?_)
 ·simp only[go_sem]
  refine Ac (Bw _ u b hb hlb) (fun h2=> ?_) (fun h2=> ?_)
  ·have la:=D8 h1
   have lb:=D8 h2
   simp only[go_sem,Gf,h1,h2,ha.len]
   refine Dg a.length 17 (fun i env U=>env 1=u/\env 15=v/\env 16=gi a.length/\kLe (a.drop i) (b.drop i)=kLe a b/\N <+: U) rfl ⟨rfl,rfl,rfl,rfl,Zab _⟩ ?_ ?_
   ·rintro i env U hi e17 c0 ⟨e1,e15,e16,hk,hp⟩
    have hj:i<b.length:=by omega
    rw[Aj8 hi hj] at hk
    simp(disch:=omega) only[go_sem,c0,e1,e15,e16,e17,Cw (ha.pre hp) hi,Cw (hb.pre hp) hj,hp]
    grind
   ·rintro env U e17 c0 ⟨e1,e15,e16,hk,hp⟩
    rw[Zbh] at hk
    simp only[go_sem,c0,e1,e15,e16,e17,hp]
    rw[<- hk];rfl
  ·simp only[go_sem,Gf,h1,h2]
 ·simp only[go_sem,Gf,h1]
theorem Qm (N:St) (v u:GV) (a b:List Int) (ha:RS pI.kd N v a) (hb:RS pI.kd N u b) (hla:a.length<=1099511627776):Ret Tryz.prog 171 [v,u] N (.bool (decide (a=b))) N:=by
 refine B7 Adm (Z0z rfl) trivial ?_
 simp +contextual only[go_sem,A3o,ha.len,hb.len]
 refine⟨fun hn=> ?_,fun hn=> ?_⟩
 ·have:a≠b:=fun h=>by subst h;simp at hn
  simp[this]
 ·have hlm:a.length=b.length:=by
                     have h2:(a.length:Int)=b.length:=by simpa using hn
                     omega
  refine Dg a.length 5 (fun i env U=>env 0=v/\env 1=u/\a.take i=b.take i/\N <+: U) rfl ⟨rfl,rfl,rfl,Zab _⟩ ?_ ?_
  ·rintro i env U hi e5 c0 ⟨e0,e1,he,hp⟩
   have hj:i<b.length:=by omega
   have hne:a[i]≠b[i]->a≠b:=fun h h'=>h (by subst h';rfl)
   have hst:a[i]=b[i]->a.take (i+1)=b.take (i+1):=fun h=>by rw[Ak hi,Ak hj,he,h]
   simp(disch:=omega) only[go_sem,c0,e0,e1,e5,ha.len,hb.len,Cw (ha.pre hp) hi,Cw (hb.pre hp) hj,hp]
   refine⟨fun h=> ?_,fun h=> ?_⟩
   ·simp[hne (by simpa using h)]
   ·simpa using hst (by simpa using h)
  ·rintro env U e5 c0 ⟨e0,e1,he,hp⟩
   rw[Zad,hlm,Zad] at he
   simp only[go_sem,c0,e0,e1,e5,ha.len,hb.len,hp]
   simp[he]
theorem Ep (N:St) (v u:GV) (a b:List Int) (ha:RS pI.kd N v a) (hb:RS pI.kd N u b) (hla:a.length<=1099511627776):Ret Tryz.prog 156 [v,u] N (.bool (decide (a=b))) N:=by
 refine B7 Ms (Z0z rfl) trivial ?_
 simp +contextual only[go_sem,Ii,ha.len,hb.len]
 refine⟨fun hn=> ?_,fun hn=> ?_⟩
 ·have:a≠b:=fun h=>by subst h;simp at hn
  simp[this]
 ·have hlm:a.length=b.length:=by
                     have h2:(a.length:Int)=b.length:=by simpa using hn
                     omega
  refine Dg a.length 13 (fun i env U=>env 0=v/\env 1=u/\env 12=gi a.length/\a.take i=b.take i/\N <+: U) rfl ⟨rfl,rfl,rfl,rfl,Zab _⟩ ?_ ?_
  ·rintro i env U hi e13 c0 ⟨e0,e1,e12,he,hp⟩
   have hj:i<b.length:=by omega
   have hne:a[i]≠b[i]->a≠b:=fun h h'=>h (by subst h';rfl)
   have hst:a[i]=b[i]->a.take (i+1)=b.take (i+1):=fun h=>by rw[Ak hi,Ak hj,he,h]
   simp(disch:=omega) only[go_sem,c0,e0,e1,e12,e13,Cw (ha.pre hp) hi,Cw (hb.pre hp) hj,hp]
   refine⟨fun h=> ?_,fun h=> ?_⟩
   ·simp[hne (by simpa using h)]
   ·simpa using hst (by simpa using h)
  ·rintro env U e13 c0 ⟨e0,e1,e12,he,hp⟩
   rw[Zad,hlm,Zad] at he
   simp only[go_sem,c0,e0,e1,e12,e13,hp]
   simp[he]
def A8c:Fn1:=⟨22,[.t 4],(rg [oX 2 0,oX 3 1,oV 4 (ki 0)] (.seq (rg [oV 5 (ki 0)] (oH 0 (.seq (rg [oM 6 5,oF 7 3 2,oL 8 7,oN 9 8,oB 10 .lss 6 9] (oJ 10 0)) (.seq (.blk 1 (dw [oF 13 3 2,oL 14 13,oM 15 5,oI 16 8 14 15,oF 17 1 16,oW 18 2 17,oW 19 2 3] [o 20 (.eqs false [.i .i64,.i .i64] (.t 18) (.t 19))] (oG 20 (rg [oM 21 5,oM 4 21] .ret)))) (.reg [oM 11 5,oZ 12 11 1,oM 5 12]))))) (rg [o 4 (.mov (ki (-1)))] .ret)))⟩
theorem Ahb:A8 Tryz.prog 146=some A8c:=by kernel_rfl
def A8d:Fn1:=⟨9,[.t 4],(rg [oX 2 0,oX 3 1,oV 4 (ki 0)] (rg [oF 5 3 2,oL 6 5,o 7 (.mkf 265 [(.t 3)]),oD 8 263 6 7,oM 4 8] .ret))⟩
theorem Ahc:A8 Tryz.prog 158=some A8d:=by kernel_rfl
def V9:Fn1:=⟨8,[.t 3],(rg [oX 2 0,oV 3 kf] (rg [oF 4 1 2,oW 5 2 4,oW 6 2 1,o 7 (.eqs false [.i .i64,.i .i64] (.t 5) (.t 6)),oM 3 7] .ret))⟩
theorem A6z:A8 Tryz.prog 265=some V9:=by kernel_rfl
def D5:Fn1:=⟨19,[.t 4],(rg [oV 4 (ki 0)] (.seq (rg [oM 6 0,oN 7 6,oV 8 (ki 0)] (oH 0 (rg [oB 9 .lss 8 7] (.seq (oJ 9 0) (.seq (.blk 1 (rg [oM 10 8,oM 5 10] (rg [oM 11 1,oM 12 0,oM 13 5,oI 14 8 12 13,oW 15 8 14,o 16 (.callv (.t 11) [(.t 15)])] (oG 16 (rg [oM 17 5,oM 4 17] .ret))))) (.reg [oZ 18 8 1,oM 8 18])))))) (rg [o 4 (.mov (ki (-1)))] .ret)))⟩
theorem Fn:A8 Tryz.prog 263=some D5:=by kernel_rfl
def A8f:Fn1:=⟨63,[.t 2],(rg [oV 2 kf] (rg [o 10 (.mkm),oM 3 10] (.seq (rg [oM 11 0,oN 12 11,oV 13 (ki 0)] (oH 0 (rg [oB 14 .lss 13 12] (.seq (oJ 14 0) (.seq (.blk 1 (rg [oM 15 13,oI 16 8 11 13,oW 17 8 16,o 5 (.new [s0,z0,z0,z0,z0,z0,z0,(.bool false)]),oM 4 15,oS 8 5 17] (.reg [oM 18 3,oF 19 1 5,oW 20 2 19,oM 21 4,on (.mup [.i .i64,.i .i64] (.t 18) (.t 20) (.t 21))]))) (.reg [oZ 22 13 1,oM 13 22])))))) (.seq (rg [oM 23 0,oN 24 23,oV 25 (ki 0)] (oH 2 (rg [oB 26 .lss 25 24] (.seq (oJ 26 2) (.seq (.blk 3 (rg [oI 27 8 23 25,oW 28 8 27,o 7 (.new [s0,z0,z0,z0,z0,z0,z0,(.bool false)]),oS 8 7 28] (.seq (rg [oF 29 4 7,oW 30 2 29,o 31 (.build [z0,z0] []),o 32 (.eqs false [.i .i64,.i .i64] (.t 30) (.t 31))] (oG 32 (.ext 3))) (rg [oM 34 3,oF 35 4 7,oW 36 2 35,o 37 (.mlk [.i .i64,.i .i64] z0 true (.t 34) (.t 36)),oM 33 37,o 38 (.ext 0 (.t 33)),o 39 (.ext 1 (.t 33)),oM 8 38,oM 9 39] (dw [oM 40 9,oU 41 40,oM 42 41,vM 43 42 0,vM 44 42 8,vI 45 42 8 43 44,vF 46 42 0 45,vL 47 42 46,vF 48 42 0 7,vL 49 42 48,vB 50 42 .neq 47 49,oP 51 42 50,oM 52 51,vM 53 52 0,vM 54 52 8,vI 55 52 8 53 54,vF 56 52 3 55,vL 57 52 56,vF 58 52 3 7,vL 59 52 58] [vB 60 52 .geq 57 59,oP 61 52 60] (oG 61 (oR 2 kf))))))) (.reg [oZ 62 25 1,oM 25 62])))))) (oR 2 kt)))))⟩
theorem Ahd:A8 Tryz.prog 288=some A8f:=by kernel_rfl
def A3r:Fn1:=⟨96,[.t 2],(rg [oX 1 0,oV 2 kf] (.seq (rg [oF 7 0 1,oL 8 7,oC 9 167 8,oU 10 9,oM 11 10,vF 12 11 1 1,vL 13 11 12,vC 14 11 290 13,vU 15 11 14,oP 16 11 15,oM 17 16,vF 18 17 2 1,vL 19 17 18,vC 20 17 291 19,vU 21 17 20,oP 22 17 21,oM 23 22,vF 24 23 3 1,vL 25 23 24,vC 26 23 292 25,vU 27 23 26,oP 28 23 27] (oG 28 (oR 2 kf))) (.seq (rg [oV 3 (ki 0)] (oH 0 (.seq (rg [oM 29 3,oF 30 2 1,oL 31 30,oN 32 31,oB 33 .lss 29 32] (oJ 33 0)) (.seq (.blk 1 (dw [oF 36 0 1,oL 37 36,oF 38 2 1,oL 39 38,oM 40 3,oI 41 6 39 40,oF 42 4 41,oW 43 2 42] [oD 44 45 37 43,oU 45 44] (oG 45 (oR 2 kf)))) (.reg [oM 34 3,oZ 35 34 1,oM 3 35]))))) (.seq (rg [oV 4 (ki 0)] (oH 2 (.seq (rg [oM 46 4,oF 47 3 1,oL 48 47,oN 49 48,oB 50 .lss 46 49] (oJ 50 2)) (.seq (.blk 3 (rg [oF 53 3 1,oL 54 53,oM 55 4,oI 56 8 54 55,oW 57 8 56,o 5 (.new [s0,z0,z0,z0,z0,z0,z0,(.bool false)]),oS 8 5 57] (.seq (rg [oF 58 0 1,oL 59 58,oF 60 1 5,oW 61 2 60,oD 62 45 59 61,oU 63 62] (oG 63 (oR 2 kf))) (.seq (rg [oF 64 4 5,oW 65 2 64,o 66 (.build [z0,z0] []),o 67 (.eqs false [.i .i64,.i .i64] (.t 65) (.t 66))] (oG 67 (.ext 3))) (rg [oW 68 4 1,oF 69 4 5,oW 70 2 69,oD 71 146 68 70,oM 6 71] (dw [oM 72 6,oE 73 .lss 72 0,oM 74 73,vF 75 74 3 1,vL 76 74 75,vM 77 74 6,vI 78 74 8 76 77,vF 79 74 0 78,vL 80 74 79,vF 81 74 0 5,vL 82 74 81,vB 83 74 .neq 80 82,oP 84 74 83,oM 85 84,vF 86 85 3 1,vL 87 85 86,vM 88 85 6,vI 89 85 8 87 88,vF 90 85 3 89,vL 91 85 90,vF 92 85 3 5,vL 93 85 92] [vB 94 85 .geq 91 93,oP 95 85 94] (oG 95 (oR 2 kf)))))))) (.reg [oM 51 4,oZ 52 51 1,oM 4 52]))))) (oR 2 kt)))))⟩
theorem Adn:A8 Tryz.prog 199=some A3r:=by kernel_rfl
def A3t:Fn1:=⟨30,[.t 2],(rg [oX 1 0,oV 2 kf] (rg [oF 3 0 1,oL 4 3,oC 5 176 4,oM 6 5,jF 7 6 1 1,jL 8 6 7,jC 9 6 285 8,oQ 10 6 9,oM 11 10,jF 12 11 2 1,jL 13 11 12,jF 14 11 0 1,jL 15 11 14,jD 16 11 286 13 15,oQ 17 11 16,oM 18 17,jF 19 18 3 1,jL 20 18 19,jF 21 18 0 1,jL 22 18 21,jD 23 18 287 20 22,oQ 24 18 23,oM 25 24,jF 26 25 3 1,jL 27 25 26,jC 28 25 288 27,oQ 29 25 28,oM 2 29] .ret))⟩
theorem Ado:A8 Tryz.prog 195=some A3t:=by kernel_rfl
def A3u:Fn1:=⟨20,[.c 2 true 4],(rg [oX 1 0,o 2 (.new [.nilS,.nilS,.nilS,.nilS])] (dw [o 3 (.lit 1 0 [] []),oF 4 0 1,oL 5 4,o 6 (.app 1 8 [z0] (.t 3) (.t 5)),o 7 (.lit 3 0 [] []),oF 8 1 1,oL 9 8,o 10 (.app 3 32 [s0,z0,z0] (.t 7) (.t 9)),o 11 (.lit 6 0 [] []),oF 12 2 1,oL 13 12,o 14 (.app 6 64 [(.bool false),s0,s0,z0,z0,z0] (.t 11) (.t 13)),o 15 (.lit 8 0 [] []),oF 16 3 1,oL 17 16] [o 18 (.app 8 72 [s0,z0,z0,z0,z0,z0,z0,(.bool false)] (.t 15) (.t 17)),o 19 (.build [.nilS,.nilS,.nilS,.nilS] [(0,1,(.t 6)),(1,1,(.t 10)),(2,1,(.t 14)),(3,1,(.t 18))]),oS 4 2 19] .ret))⟩
theorem Adp:A8 Tryz.prog 247=some A3u:=by kernel_rfl
def Va:Fn1:=⟨19,[.c 2 true 4],(rg [oX 1 0,o 2 (.new [.nilS,.nilS,.nilS,.nilS])] (dw [oF 3 0 1,oL 4 3,oC 5 182 4,o 6 (.lit 3 0 [] []),oF 7 1 1,oL 8 7,o 9 (.app 3 32 [s0,z0,z0] (.t 6) (.t 8)),o 10 (.lit 6 0 [] []),oF 11 2 1,oL 12 11,o 13 (.app 6 64 [(.bool false),s0,s0,z0,z0,z0] (.t 10) (.t 12)),o 14 (.lit 8 0 [] []),oF 15 3 1,oL 16 15] [o 17 (.app 8 72 [s0,z0,z0,z0,z0,z0,z0,(.bool false)] (.t 14) (.t 16)),o 18 (.build [.nilS,.nilS,.nilS,.nilS] [(0,1,(.t 5)),(1,1,(.t 9)),(2,1,(.t 13)),(3,1,(.t 17))]),oS 4 2 18] .ret))⟩
theorem A70:A8 Tryz.prog 255=some Va:=by kernel_rfl
theorem A3v (N:St) (a b c v:GV) (l:List Cell) (d:Dot) (h:RS Ai.kd N v l) (hl:l.length<=1099511627776):Ret Tryz.prog 146 [.agg [a,b,c,v],.agg [gi d.rep,gi d.seq]] N (gi (Bm l d)) N:=by
 refine B7 Ahb (Z0z rfl) trivial ?_
 simp only[go_sem,A8c]
 refine Dg l.length 5 (fun i env U=>env 2= .ptr N.length 0/\env 3= .ptr (N++[some (Blk.row 1 [a,b,c,v])]).length 0/\(∀ j (hj:j<i) (hl:j<l.length),l[j].dot≠d)/\N++[some (.row 1 [a,b,c,v])]++[some (.row 1 [gi d.rep,gi d.seq])] <+: U) rfl ⟨rfl,rfl,fun j hj=>by omega,Zab _⟩ ?_ ?_
 ·rintro i env U hi e5 c0 ⟨e2,e3,ha,hp⟩
  have h1:=h.pre (A9z hp)
  by_cases hd:l[i].dot=d
  ·have hq:Bm l d=i:=by rw[Bm,Ah5 hi (fun j hj=>ha j hj (by omega)) hd]
   simp only[go_sem,c0,e2,e3,e5,A7 (Agq hp),A7 (A0f hp),h.len,Ab h1 hi,hp,decide_eq_true hd,hq,A9z hp]
  ·simp(disch:=omega) only[go_sem,c0,e2,e3,e5,A7 (Agq hp),A7 (A0f hp),h.len,Ab h1 hi,hp,decide_eq_false hd]
   intro j hj hl
   rcases Za5 j i with h2|h2
   ·exact ha j h2 hl
   ·have:j=i:=by omega
    subst this;exact hd
 ·rintro env U e5 c0 ⟨e2,e3,ha,hp⟩
  have hq:Bm l d= -1:=by rw[Bm,Ah6 (fun j hj=>ha j hj hj)]
  simp only[go_sem,c0,e2,e3,e5,A7 (Agq hp),h.len,hq,A9z hp]
theorem Li (N:St) (v:GV) (l:List Cell) (h:RS Ai.kd N v l) (hl:l.length<=1099511627776) (f:Nat) (cs:List (Nat×Nat)) (p:Cell->Bool) (hf:∀(U:St) (x:Cell),N <+: U->Ret Tryz.prog f (.agg (Ai.enc x)::cs.map fun c=>.ptr c.1 c.2) U (.bool (p x)) U):
  Ret Tryz.prog 263 [v,.fn f cs] N (gi (match l.findIdx? p with|some k=>(k:Int)|none=> -1)) N:=by
 refine B7 Fn (Z0z rfl) trivial ?_
 simp only[go_sem,D5,h.len]
 refine Dg l.length 8 (fun i env U=>env 0=v/\env 1= .fn f cs/\env 6=v/\env 7=gi l.length/\(∀ j (hj:j<i) (hl:j<l.length),p l[j]=false)/\N <+: U) rfl ⟨rfl,rfl,rfl,rfl,fun j hj=>by omega,Zab _⟩ ?_ ?_
 ·rintro i env U hi e8 c0 ⟨e0,e1,e6,e7,ha,hp⟩
  simp only[go_sem,c0,e0,e1,e6,e7,e8,Ab (h.pre hp) hi,hp]
  have hpx:=hf U l[i] hp
  refine Ac hpx (fun h1=> ?_) (fun h1=> ?_)
  ·have hq:l.findIdx? p=some i:=Zas.2 ⟨hi,h1,fun j hj=>by simp[ha j hj (by omega)]⟩
   simp only[go_sem,c0,e0,e1,e6,e7,e8,hq,hp]
  ·simp(disch:=omega) only[go_sem,c0,e0,e1,e6,e7,e8,hp]
   intro j hj hl
   rcases Za5 j i with h2|h2
   ·exact ha j h2 hl
   ·have:j=i:=by omega
    subst this;exact h1
 ·rintro env U e8 c0 ⟨e0,e1,e6,e7,ha,hp⟩
  have hq:l.findIdx? p=none:=by
   rw[Zaw]
   intro x hx
   obtain⟨j,hj,rfl⟩:=Zaz hx
   exact ha j hj hj
  simp only[go_sem,c0,e0,e1,e6,e7,e8,hq,hp]
theorem A3w (U:St) (x:Cell) (g:Nat) (d:Dot) (hg:rdB U g=some [gi d.rep,gi d.seq]):Ret Tryz.prog 265 [.agg (Ai.enc x),.ptr g 0] U (.bool (decide (x.dot=d))) U:=by
 refine B7 A6z (Z0z rfl) trivial ?_
 simp only[go_sem,V9,A9y,A7 (Mo hg _)]
theorem Ahe (N:St) (a b c v:GV) (l:List Cell) (d:Dot) (h:RS Ai.kd N v l) (hl:l.length<=1099511627776):Ret Tryz.prog 158 [.agg [a,b,c,v],.agg [gi d.rep,gi d.seq]] N (gi (Bm l d)) N:=by
 refine B7 Ahc (Z0z rfl) trivial ?_
 simp only[go_sem,A8d]
 have R:=Li (N++[some (.row 1 [a,b,c,v])]++[some (.row 1 [gi d.rep,gi d.seq])]) v l (h.pre pre2) hl 265 [((N++[some (Blk.row 1 [a,b,c,v])]).length,0)] (fun c=>decide (c.dot=d)) (fun U x hp=>A3w U x _ d (A0f hp))
 refine Ao R ?_
 simp only[go_sem]
 rfl
theorem Adr (N:St) (v:GV) (l:List Cell) (h:RS Ai.kd N v l) (hl:l.length<=1099511627776) (hu:l.Pairwise fun a b=>Az a.dot b.dot=true):Ret Tryz.prog 288 [v] N (.bool (A86 l)) N:=by
 refine B7 Ahd (Z0z rfl) trivial ?_
 simp only[go_sem,A8f,h.len]
 have H0:=(Hp.refl N).newMap
 refine Dg l.length 13 (fun i env U=>env 0=v/\env 3= .mp N.length/\env 11=v/\env 12=gi l.length/\Hp N U [mpt (.mp N.length) (plc 0 (l.take i))]) rfl ⟨rfl,rfl,rfl,rfl,H0⟩ ?_ ?_
 ·rintro i env U hi e13 c0 ⟨e0,e3,e11,e12,H⟩
  obtain⟨U',e,H2⟩:=(H.grow (pre1 U (some (Blk.row 1 [.str l[i].obj,gi l[i].dot.rep,gi l[i].dot.seq,gi l[i].time,gi l[i].ref.rep,gi l[i].ref.seq,gi l[i].val,.bool l[i].gone])))).mup 0 rfl l[i].dot i (Ams hu hi)
  simp(disch:=omega) only[go_sem,c0,e0,e3,e11,e12,e13,Ab (h.pre H.sub) hi,fun r=>Ab (h.pre (A3 H.sub r)) hi,e]
  rw[Ap5 hi]
  exact H2
 ·rintro env U e13 c0 ⟨e0,e3,e11,e12,H⟩
  rw[Zad] at H
  simp only[go_sem,c0,e0,e3,e11,e12,e13,(h.pre H.sub).len]
  refine Dg l.length 25 (fun i env U=>env 0=v/\env 3= .mp N.length/\env 23=v/\env 24=gi l.length/\(l.take i).all (ref1 l)=true/\Hp N U [mpt (.mp N.length) (plc 0 l)]) rfl ⟨e0,e3,rfl,rfl,rfl,H⟩ ?_ ?_
  ·rintro i env U hi e25 c0 ⟨e0,e3,e23,e24,ha,H⟩
   have hf:=fun h=>Cp (p:=ref1 l) hi h
   have ht:=C6 hi ha
   have G:=H.grow (pre1 U (some (Blk.row 1 [.str l[i].obj,gi l[i].dot.rep,gi l[i].dot.seq,gi l[i].time,gi l[i].ref.rep,gi l[i].ref.seq,gi l[i].val,.bool l[i].gone])))
   have hlk:=G.mlk 0 rfl l[i].ref
   have hdl:=Tw l[i].ref 0 l
   by_cases hr:l[i].ref=⟨0,0⟩
   ·simp(disch:=omega) only[go_sem,c0,e0,e3,e23,e24,e25,Ab (h.pre H.sub) hi,decide_eq_true hr]
    exact⟨ht (by simp[ref1,hr]),G⟩
   ·cases hx:Cx l l[i].ref with
    |none=>
     rw[hx] at hdl
     have hb:ref1 l l[i]=false:=by simp[ref1,hr,hx]
     rw[hdl] at hlk
     simp only[go_sem,c0,e0,e3,e23,e24,e25,Ab (h.pre H.sub) hi,decide_eq_false hr,hlk,Option.map_none,Option.isSome_none,Option.getD_none]
     exact⟨by simp[A86,hf hb],G.sub⟩
    |some k=>
     rw[hx] at hdl
     obtain⟨hkl,_⟩:=Bs hx
     have hb:ref1 l l[i]=(decide (l[k].obj=l[i].obj)&&decide (l[k].time<l[i].time)):=by simp[ref1,hr,hx,Br hkl]
     rw[hdl] at hlk
     simp +contextual (disch:=omega) only[go_sem,c0,e0,e3,e23,e24,e25,Ab (h.pre H.sub) hi,decide_eq_false hr,hlk,Zbk,Option.isSome_some,Zb1,Nat.zero_add,Ab (h.pre H.sub) hkl,fun r=>Ab (h.pre (A3 H.sub r)) hkl]
     refine⟨fun q1=>⟨?_,G.sub⟩,fun q1=>⟨fun q2=>⟨?_,G.sub⟩,fun q2=>⟨ht ?_,G⟩⟩⟩
     ·simp only[Zbw] at q1
      rw[q1] at hb
      simp[A86,hf (by rw[hb];rfl)]
     ·rw[decide_eq_false (show ¬ l[k].time<l[i].time by have:=of_decide_eq_true q2;omega),Zb8] at hb
      simp[A86,hf hb]
     ·simp only[Zbs] at q1
      rw[hb,q1,decide_eq_true (show l[k].time<l[i].time by have:=of_decide_eq_false q2;omega)];rfl
  ·rintro env U e25 c0 ⟨e0,e3,e23,e24,ha,H⟩
   rw[Zad] at ha
   simp only[go_sem,c0,e0,e3,e23,e24,e25,H.sub]
   exact ha.symm
theorem C8 {s:State} (h:Ad s<=1099511627776):s.know.length<=1099511627776/\s.tallies.length<=1099511627776/\s.lives.length<=1099511627776/\s.cells.length<=1099511627776/\
  (∀ x∈s.tallies,x.obj.size<=1099511627776)/\(∀ x∈s.lives,x.obj.size<=1099511627776/\x.key.size<=1099511627776)/\∀ x∈s.cells,x.obj.size<=1099511627776:=by
 unfold Ad at h
 refine⟨by omega,by omega,by omega,by omega,fun x hx=> ?_,fun x hx=> ?_,fun x hx=> ?_⟩
 ·have h1:=Ev (f:=Bl) hx
  unfold Bl at h1;unfold Bl at h;omega
 ·have h1:=Ev (f:=G6) hx
  unfold G6 at h1;unfold G6 at h;omega
 ·have h1:=Ev (f:=Ht) hx
  unfold Ht at h1;unfold Ht at h;omega
theorem Mw (N:St) (cs:List GV) (s:State) (hR:A4.R N s cs) (hl:Ad s<=1099511627776):Ret Tryz.prog 195 [.agg cs] N (.bool (B6 s)) N:=by
 obtain⟨a,b,c,v,rfl,hk,ht,hv,hc⟩:=hR
 obtain⟨l1,l2,l3,l4,z1,z2,z3⟩:=C8 hl
 have p1:=pre1 N (some (Blk.row 1 [a,b,c,v]))
 refine B7 Ado (Z0z rfl) trivial ?_
 simp only[go_sem,A3t]
 refine Ac (Bw _ a s.know (hk.pre p1) l1) (fun h1=> ?_) (fun h1=> ?_)
 rotate_left
 ·simp only[go_sem]
  simp[B6,h1]
 simp only[go_sem]
 refine Ac (Pi _ b s.tallies (ht.pre p1) l2 z1) (fun h2=> ?_) (fun h2=> ?_)
 rotate_left
 ·simp only[go_sem]
  simp[B6,h2]
 simp only[go_sem]
 refine Ac (V4 _ c s.lives (hv.pre p1) a s.know (hk.pre p1) l1 l3 z2) (fun h3=> ?_) (fun h3=> ?_)
 rotate_left
 ·simp only[go_sem]
  simp[B6,h3]
 simp only[go_sem]
 refine Ac (V5 _ v s.cells (hc.pre p1) a s.know (hk.pre p1) l1 l4 z3) (fun h4=> ?_) (fun h4=> ?_)
 rotate_left
 ·simp only[go_sem]
  simp[B6,h4]
 simp only[go_sem]
 refine Ao (Adr _ v s.cells (hc.pre p1) l4 (Xz h4)) ?_
 simp only[go_sem]
 simp[B6,h1,h2,h3,h4]
theorem As8:decide ((-1:Int)<0)=true:=rfl
theorem Cl (N:St) (cs:List GV) (s:State) (hR:A4.R N s cs) (hl:Ad s<=1099511627776):Ret Tryz.prog 199 [.agg cs] N (.bool (B6 s)) N:=by
 obtain⟨a,b,c,v,rfl,hk,ht,hv,hc⟩:=hR
 obtain⟨l1,l2,l3,l4,z1,z2,z3⟩:=C8 hl
 have p1:=pre1 N (some (Blk.row 1 [a,b,c,v]))
 rw[<- Ah4]
 refine B7 Adn (Z0z rfl) trivial ?_
 simp only[go_sem,A3r]
 refine Ac (Bv _ a s.know (hk.pre p1) l1) (fun h1=> ?_) (fun h1=> ?_)
 rotate_left
 ·simp only[go_sem]
  simp[Gm,h1]
 simp only[go_sem]
 refine Ac (Oi _ b s.tallies (ht.pre p1) l2 z1) (fun h2=> ?_) (fun h2=> ?_)
 rotate_left
 ·simp only[go_sem]
  simp[Gm,h2]
 simp only[go_sem]
 refine Ac (Rh _ c s.lives (hv.pre p1) l3 z2) (fun h3=> ?_) (fun h3=> ?_)
 rotate_left
 ·simp only[go_sem]
  simp[Gm,h3]
 simp only[go_sem]
 refine Ac (Ri _ v s.cells (hc.pre p1) l4 z3) (fun h4=> ?_) (fun h4=> ?_)
 rotate_left
 ·simp only[go_sem]
  simp[Gm,h4]
 simp only[go_sem]
 refine Dg s.lives.length 3 (fun i env U=>env 1= .ptr N.length 0/\(s.lives.take i).all (livK s.know)=true/\N++[some (.row 1 [a,b,c,v])] <+: U) rfl ⟨rfl,rfl,Zab _⟩ ?_ ?_
 ·rintro i env U hi e3 c0 ⟨e1,ha,hp⟩
  have hf:=fun h=>Cp (p:=livK s.know) hi h
  have hq:=C6 hi ha
  simp only[go_sem,c0,e1,e3,A7 (A0f hp),hv.len,Aa (hv.pre (F5 hp)) hi]
  refine Ac (Ba _ a s.know s.lives[i].dot (hk.pre (F5 hp)) l1) (fun h5=> ?_) (fun h5=> ?_)
  ·simp(disch:=omega) only[go_sem,e1,e3,hp]
   exact hq h5
  ·simp only[go_sem,F5 hp]
   simp[Gm,hf h5]
 ·rintro env U e3 c0 ⟨e1,ha5,hp⟩
  rw[Zad] at ha5
  simp only[go_sem,c0,e1,e3,A7 (A0f hp),hv.len]
  refine Dg s.cells.length 4 (fun i env U=>env 1= .ptr N.length 0/\(s.cells.take i).all (celK s.cells s.know)=true/\N++[some (.row 1 [a,b,c,v])] <+: U) rfl ⟨e1,rfl,hp⟩ ?_ ?_
  ·rintro i env U hi e4 c0 ⟨e1,ha,hp⟩
   have hf:=fun h=>Cp (p:=celK s.cells s.know) hi h
   have hq:=C6 hi ha
   have C0:=Ab (hc.pre (F5 hp)) hi
   have hr:=A0f hp
   have hr2:rdB (U++[some (Blk.row 1 [.str s.cells[i].obj,gi s.cells[i].dot.rep,gi s.cells[i].dot.seq,gi s.cells[i].time,gi s.cells[i].ref.rep,gi s.cells[i].ref.seq,gi s.cells[i].val,.bool s.cells[i].gone])]) N.length=some [a,b,c,v]:=Mo hr _
   simp only[go_sem,c0,e1,e4,A7 hr,A7 hr2,hc.len,C0]
   refine Ac (Ba _ a s.know s.cells[i].dot (hk.pre (A3 (F5 hp) _)) l1) (fun h6=> ?_) (fun h6=> ?_)
   rotate_left
   ·simp only[go_sem,F5 hp,A3 (F5 hp) _]
    simp[Gm,hf (by simp[celK,h6])]
   by_cases hz:s.cells[i].ref=⟨0,0⟩
   ·simp(disch:=omega) only[go_sem,e1,e4,decide_eq_true hz,A3 hp _]
    exact hq (by simp[celK,ref1,h6,hz])
   ·simp only[go_sem,e1,e4,decide_eq_false hz,A7 hr2]
    refine Ao (A3v _ a b c v s.cells s.cells[i].ref (hc.pre (A3 (F5 hp) _)) l4) ?_
    cases hx:Cx s.cells s.cells[i].ref with
    |none=>
     have hb:celK s.cells s.know s.cells[i]=false:=by simp[celK,ref1,hz,hx]
     have hn:Bm s.cells s.cells[i].ref= -1:=by simp[Bm,hx]
     simp only[go_sem,hn,As8,F5 hp,A3 (F5 hp) _]
     simp[Gm,hf hb]
    |some k=>
     obtain⟨hkl,_⟩:=Bs hx
     have hb:celK s.cells s.know s.cells[i]=(decide (s.cells[k].obj=s.cells[i].obj)&&decide (s.cells[k].time<s.cells[i].time)):=by simp[celK,h6,ref1,hz,hx,Br hkl]
     have hn:Bm s.cells s.cells[i].ref=k:=by simp[Bm,hx]
     have hd:decide ((k:Int)<0)=false:=by simp
     simp +contextual (disch:=omega) only[go_sem,hn,hd,e1,e4,A7 hr2,Ab (hc.pre (F5 hp)) hkl,fun r=>Ab (hc.pre (A3 (F5 hp) r)) hkl,F5 hp,A3 (F5 hp) _,A3 hp _]
     refine⟨fun q1=> ?_,fun q1=>⟨fun q2=> ?_,fun q2=>hq ?_⟩⟩
     ·simp only[Zbw] at q1
      rw[q1] at hb
      simp[Gm,hf (by rw[hb];rfl)]
     ·rw[decide_eq_false (show ¬ s.cells[k].time<s.cells[i].time by have:=of_decide_eq_true q2;omega),Zb8] at hb
      simp[Gm,hf hb]
     ·simp only[Zbs] at q1
      rw[hb,q1,decide_eq_true (show s.cells[k].time<s.cells[i].time by have:=of_decide_eq_false q2;omega)];rfl
  ·rintro env U e4 c0 ⟨e1,ha,hp⟩
   rw[Zad] at ha
   simp only[go_sem,c0,e1,e4,A7 (A0f hp),hc.len,F5 hp]
   simp[Gm,h1,h2,h3,h4,ha5,ha]
theorem Pj (N:St) (cs:List GV) (s:State) (hR:A4.R N s cs) (d:Dot) (hl:Ad s<=1099511627776):Ret Tryz.prog 146 [.agg cs,.agg [gi d.rep,gi d.seq]] N (gi (Bm s.cells d)) N:=by
 obtain⟨a,b,c,v,rfl,_,_,_,h⟩:=hR
 exact A3v N a b c v s.cells d h (C8 hl).2.2.2.1
theorem Ads (N:St) (cs:List GV) (s:State) (hR:A4.R N s cs) (d:Dot) (hl:Ad s<=1099511627776):Ret Tryz.prog 158 [.agg cs,.agg [gi d.rep,gi d.seq]] N (gi (Bm s.cells d)) N:=by
 obtain⟨a,b,c,v,rfl,_,_,_,h⟩:=hR
 exact Ahe N a b c v s.cells d h (C8 hl).2.2.2.1
def A0v:Fn1:=⟨34,[.t 4],(rg [oX 2 0,oX 3 1,oV 4 kf] (rg [oW 5 10 2,oC 6 185 5,oM 7 6,jW 8 7 10 3,jC 9 7 185 8,oQ 10 7 9,oM 11 10,jF 12 11 0 2,jW 13 11 2 12,jF 14 11 0 3,jW 15 11 2 14,og 16 11 true (.eqs true [.i .i64,.i .i64] (.t 13) (.t 15)),oQ 17 11 16,oM 18 17,jF 19 18 3 2,jL 20 18 19,jF 21 18 0 3,jW 22 18 2 21,jD 23 18 45 20 22,jU 24 18 23,oQ 25 18 24,oM 26 25,jF 27 26 3 3,jL 28 26 27,jF 29 26 0 2,jW 30 26 2 29,jD 31 26 45 28 30,jU 32 26 31,oQ 33 26 32,oM 4 33] .ret))⟩
theorem Aab:A8 Tryz.prog 60=some A0v:=by kernel_rfl
def A0x:Fn1:=⟨34,[.t 4],(rg [oX 2 0,oX 3 1,oV 4 kf] (rg [oW 5 10 2,oC 6 169 5,oM 7 6,jW 8 7 10 3,jC 9 7 169 8,oQ 10 7 9,oM 11 10,jF 12 11 0 2,jW 13 11 2 12,jF 14 11 0 3,jW 15 11 2 14,og 16 11 true (.eqs true [.i .i64,.i .i64] (.t 13) (.t 15)),oQ 17 11 16,oM 18 17,jF 19 18 3 2,jL 20 18 19,jF 21 18 0 3,jW 22 18 2 21,jD 23 18 170 20 22,jU 24 18 23,oQ 25 18 24,oM 26 25,jF 27 26 3 3,jL 28 26 27,jF 29 26 0 2,jW 30 26 2 29,jD 31 26 170 28 30,jU 32 26 31,oQ 33 26 32,oM 4 33] .ret))⟩
theorem Aac:A8 Tryz.prog 46=some A0x:=by kernel_rfl
def G1 (a b:Act):Bool:=Dj a&&(Dj b&&(!decide (a.dot=b.dot)&&(!As a.knew b.dot&& !As b.knew a.dot)))
theorem A71 (N:St) (cs:List GV) (a:Act) (hR:kAct.R N a cs) (ds:List GV) (b:Act) (hS:kAct.R N b ds) (hl:Ck a<=1099511627776) (hm:Ck b<=1099511627776):Ret Tryz.prog 60 [.agg cs,.agg ds] N (.bool (G1 a b)) N:=by
 have lc:=kAct.len hR
 have ld:=kAct.len hS
 have hR0:=hR
 have hS0:=hS
 obtain⟨v,rfl,h⟩:=hR
 obtain⟨u,rfl,k⟩:=hS
 have hR1:=kAct.pre hR0 (pre2 (x:=some (Blk.row 1 [.int .i64 a.dot.rep,.int .i64 a.dot.seq,.int .i64 a.time,v,.int .i64 a.kind,.str a.obj,.str a.key,.int .i64 a.val,.int .i64 a.ref.rep,.int .i64 a.ref.seq])) (y:=some (Blk.row 1 [.int .i64 b.dot.rep,.int .i64 b.dot.seq,.int .i64 b.time,u,.int .i64 b.kind,.str b.obj,.str b.key,.int .i64 b.val,.int .i64 b.ref.rep,.int .i64 b.ref.seq])))
 have hS1:=kAct.pre hS0 (pre2 (x:=some (Blk.row 1 [.int .i64 a.dot.rep,.int .i64 a.dot.seq,.int .i64 a.time,v,.int .i64 a.kind,.str a.obj,.str a.key,.int .i64 a.val,.int .i64 a.ref.rep,.int .i64 a.ref.seq])) (y:=some (Blk.row 1 [.int .i64 b.dot.rep,.int .i64 b.dot.seq,.int .i64 b.time,u,.int .i64 b.kind,.str b.obj,.str b.key,.int .i64 b.val,.int .i64 b.ref.rep,.int .i64 b.ref.seq])))
 have h1:=h.pre (pre2 (x:=some (Blk.row 1 [.int .i64 a.dot.rep,.int .i64 a.dot.seq,.int .i64 a.time,v,.int .i64 a.kind,.str a.obj,.str a.key,.int .i64 a.val,.int .i64 a.ref.rep,.int .i64 a.ref.seq])) (y:=some (Blk.row 1 [.int .i64 b.dot.rep,.int .i64 b.dot.seq,.int .i64 b.time,u,.int .i64 b.kind,.str b.obj,.str b.key,.int .i64 b.val,.int .i64 b.ref.rep,.int .i64 b.ref.seq])))
 have k1:=k.pre (pre2 (x:=some (Blk.row 1 [.int .i64 a.dot.rep,.int .i64 a.dot.seq,.int .i64 a.time,v,.int .i64 a.kind,.str a.obj,.str a.key,.int .i64 a.val,.int .i64 a.ref.rep,.int .i64 a.ref.seq])) (y:=some (Blk.row 1 [.int .i64 b.dot.rep,.int .i64 b.dot.seq,.int .i64 b.time,u,.int .i64 b.kind,.str b.obj,.str b.key,.int .i64 b.val,.int .i64 b.ref.rep,.int .i64 b.ref.seq])))
 have ha:a.knew.length<=1099511627776:=by unfold Ck at hl;omega
 have hb:b.knew.length<=1099511627776:=by unfold Ck at hm;omega
 refine B7 Aab (Z0z rfl) trivial ?_
 simp only[go_sem,A0v]
 refine Ac (K0 _ _ a hR1 hl) (fun h2=> ?_) (fun h2=> ?_)
 ·simp only[go_sem]
  refine Ac (K0 _ _ b hS1 hm) (fun h3=> ?_) (fun h3=> ?_)
  ·cases hd:decide (a.dot=b.dot) with
   |true=>simp only[go_sem,hd,G1,h2,h3]
   |false=>
    simp only[go_sem,hd]
    refine Ac (Ba _ v a.knew b.dot h1 ha) (fun h4=> ?_) (fun h4=> ?_)
    ·simp only[go_sem,G1,h2,h3,hd,h4]
    ·simp only[go_sem]
     refine Ao (Ba _ u b.knew a.dot k1 hb) ?_
     simp only[go_sem,G1,h2,h3,hd,h4]
  ·simp only[go_sem,G1,h2,h3]
 ·simp only[go_sem,G1,h2]
theorem A72 (N:St) (cs:List GV) (a:Act) (hR:kAct.R N a cs) (ds:List GV) (b:Act) (hS:kAct.R N b ds) (hl:Ck a<=1099511627776) (hm:Ck b<=1099511627776):Ret Tryz.prog 46 [.agg cs,.agg ds] N (.bool (G1 a b)) N:=by
 have lc:=kAct.len hR
 have ld:=kAct.len hS
 have hR0:=hR
 have hS0:=hS
 obtain⟨v,rfl,h⟩:=hR
 obtain⟨u,rfl,k⟩:=hS
 have hR1:=kAct.pre hR0 (pre2 (x:=some (Blk.row 1 [.int .i64 a.dot.rep,.int .i64 a.dot.seq,.int .i64 a.time,v,.int .i64 a.kind,.str a.obj,.str a.key,.int .i64 a.val,.int .i64 a.ref.rep,.int .i64 a.ref.seq])) (y:=some (Blk.row 1 [.int .i64 b.dot.rep,.int .i64 b.dot.seq,.int .i64 b.time,u,.int .i64 b.kind,.str b.obj,.str b.key,.int .i64 b.val,.int .i64 b.ref.rep,.int .i64 b.ref.seq])))
 have hS1:=kAct.pre hS0 (pre2 (x:=some (Blk.row 1 [.int .i64 a.dot.rep,.int .i64 a.dot.seq,.int .i64 a.time,v,.int .i64 a.kind,.str a.obj,.str a.key,.int .i64 a.val,.int .i64 a.ref.rep,.int .i64 a.ref.seq])) (y:=some (Blk.row 1 [.int .i64 b.dot.rep,.int .i64 b.dot.seq,.int .i64 b.time,u,.int .i64 b.kind,.str b.obj,.str b.key,.int .i64 b.val,.int .i64 b.ref.rep,.int .i64 b.ref.seq])))
 have h1:=h.pre (pre2 (x:=some (Blk.row 1 [.int .i64 a.dot.rep,.int .i64 a.dot.seq,.int .i64 a.time,v,.int .i64 a.kind,.str a.obj,.str a.key,.int .i64 a.val,.int .i64 a.ref.rep,.int .i64 a.ref.seq])) (y:=some (Blk.row 1 [.int .i64 b.dot.rep,.int .i64 b.dot.seq,.int .i64 b.time,u,.int .i64 b.kind,.str b.obj,.str b.key,.int .i64 b.val,.int .i64 b.ref.rep,.int .i64 b.ref.seq])))
 have k1:=k.pre (pre2 (x:=some (Blk.row 1 [.int .i64 a.dot.rep,.int .i64 a.dot.seq,.int .i64 a.time,v,.int .i64 a.kind,.str a.obj,.str a.key,.int .i64 a.val,.int .i64 a.ref.rep,.int .i64 a.ref.seq])) (y:=some (Blk.row 1 [.int .i64 b.dot.rep,.int .i64 b.dot.seq,.int .i64 b.time,u,.int .i64 b.kind,.str b.obj,.str b.key,.int .i64 b.val,.int .i64 b.ref.rep,.int .i64 b.ref.seq])))
 have ha:a.knew.length<=1099511627776:=by unfold Ck at hl;omega
 have hb:b.knew.length<=1099511627776:=by unfold Ck at hm;omega
 refine B7 Aac (Z0z rfl) trivial ?_
 simp only[go_sem,A0x]
 refine Ac (Mq _ _ a hR1 hl) (fun h2=> ?_) (fun h2=> ?_)
 ·simp only[go_sem]
  refine Ac (Mq _ _ b hS1 hm) (fun h3=> ?_) (fun h3=> ?_)
  ·cases hd:decide (a.dot=b.dot) with
   |true=>simp only[go_sem,hd,G1,h2,h3]
   |false=>
    simp only[go_sem,hd]
    refine Ac (Ch _ v a.knew b.dot h1 ha) (fun h4=> ?_) (fun h4=> ?_)
    ·simp only[go_sem,G1,h2,h3,hd,h4]
    ·simp only[go_sem]
     refine Ao (Ch _ u b.knew a.dot k1 hb) ?_
     simp only[go_sem,G1,h2,h3,hd,h4]
  ·simp only[go_sem,G1,h2,h3]
 ·simp only[go_sem,G1,h2]
section
variable {Y:Type}
def insB (lt:Y->Y->Bool) (x:Y):List Y->List Y
 |[]=>[x]
 |k::r=>if lt x k then x::k::r else k::insB lt x r
def Ar (lt:Y->Y->Bool) (l:List Y):List Y:=l.foldl (fun acc x=>insB lt x acc) []
theorem K8 {lt:Y->Y->Bool} {l:List Y} {x:Y}:Ar lt (l++[x])=insB lt x (Ar lt l):=by simp[Ar]
theorem Ly (lt:Y->Y->Bool) (x:Y):∀ l:List Y,(insB lt x l).Perm (x::l)
 |[]=>.refl _
 |k::r=>by
  unfold insB
  split
  ·exact .refl _
  ·exact((Ly lt x r).cons k).trans (.swap x k r)
theorem Bb (lt:Y->Y->Bool) (l:List Y):(Ar lt l).Perm l:=by
 have key:∀(l acc:List Y),(l.foldl (fun acc x=>insB lt x acc) acc).Perm (acc++l):=by
  intro l
  induction l with
  |nil=>intro acc;simp
  |cons x l ih=>
   intro acc
   simp only[List.foldl_cons]
   refine(ih _).trans ?_
   refine((Ly lt x acc).append_right l).trans ?_
   rw[Zb0]
   exact List.perm_middle.symm
 have:=key l []
 unfold Ar
 simpa using this
theorem Ka (lt:Y->Y->Bool) (x:Y) (l:List Y):(insB lt x l).length=l.length+1:=(Ly lt x l).length_eq
theorem Cm (lt:Y->Y->Bool) (l:List Y):(Ar lt l).length=l.length:=(Bb lt l).length_eq
abbrev Up (lt:Y->Y->Bool) (l:List Y):Prop:=l.Pairwise fun a b=>lt b a=false
open Go.Sort (SWO) in
theorem SWO.asym {lt:Y->Y->Bool} (h:SWO lt) {x y:Y} (hxy:lt x y=true):lt y x=false:=by
 cases e:lt y x with
 |false=>rfl
 |true=>have:=h.trans _ _ _ hxy e;rw[h.irrefl] at this;cases this
theorem Ahf {lt:Y->Y->Bool} (h:Go.Sort.SWO lt) {x:Y}:∀ {l:List Y},Up lt l->Up lt (insB lt x l)
 |[],_=>by simp[insB]
 |k::r,hl=>by
  obtain⟨h1,h2⟩:=Zav.1 hl
  unfold insB
  split
  ·rename_i hx
   refine Zav.2 ⟨fun y hy=> ?_,hl⟩
   rcases Za0.1 hy with rfl|hy
   ·exact SWO.asym h hx
   ·have:=h1 y hy
    cases e:lt y x with
    |false=>rfl
    |true=>rw[h.trans _ _ _ e hx] at this;cases this
  ·rename_i hx
   refine Zav.2 ⟨fun y hy=> ?_,Ahf h h2⟩
   rcases Za0.1 ((Ly lt x r).mem_iff.1 hy) with rfl|hy
   ·simpa using hx
   ·exact h1 y hy
theorem Vb {lt:Y->Y->Bool} (h:Go.Sort.SWO lt) (l:List Y):Up lt (Ar lt l):=by
 have key:∀(l acc:List Y),Up lt acc->Up lt (l.foldl (fun acc x=>insB lt x acc) acc):=by
  intro l
  induction l with
  |nil=>intro acc h;exact h
  |cons x l ih=>intro acc ha;exact ih _ (Ahf h ha)
 exact key l [] .nil
theorem A3x {lt:Y->Y->Bool}:∀ {l m:List Y},(∀ x∈l,∀ y∈l,lt x y=false->lt y x=false->x=y)->l.Perm m->Up lt l->Up lt m->l=m
 |[],m,_,hp,_,_=>(List.nil_perm.1 hp).symm
 |a::l,[],_,hp,_,_=>by have:=hp.length_eq;simp at this
 |a::l,b::m,ht,hp,h1,h2=>by
  obtain⟨h3,h4⟩:=Zav.1 h1
  obtain⟨h5,h6⟩:=Zav.1 h2
  have hab:a=b:=by
   have ha:a∈b::m:=hp.mem_iff.1 Zac
   have hb:b∈a::l:=hp.mem_iff.2 Zac
   rcases Za0.1 ha with e|ha
   ·exact e
   ·rcases Za0.1 hb with e|hb
    ·exact e.symm
    ·exact ht a Zac b (Zal _ hb) (h5 a ha) (h3 b hb)
  subst hab
  rw[A3x (fun x hx y hy=>ht x (Zal _ hx) y (Zal _ hy)) hp.cons_inv h4 h6]
theorem A3y {lt:Y->Y->Bool} (h:Go.Sort.SWO lt) {l m:List Y} (htri:∀ x∈l,∀ y∈l,lt x y=false->lt y x=false->x=y) (hp:m.Perm l) (hu:Up lt m):m=Ar lt l:=A3x (fun x hx y hy=>htri x (hp.mem_iff.1 hx) y (hp.mem_iff.1 hy)) (hp.trans (Bb lt l).symm) hu (Vb h l)
end
theorem Ap6:Go.Sort.SWO txLt:=⟨Ky,fun x y z=>Qk,fun x y z h1 h2=>by
 cases e:txLt x z with
 |false=>rfl
 |true=>
  by_cases hxy:x=y
  ·subst hxy;rw[h2] at e;cases e
  ·have h3:txLt y x=true:=by
    cases e2:txLt y x with
    |true=>rfl
    |false=>exact absurd (Ql h1 e2) hxy
   rw[Qk h3 e] at h2;cases h2⟩
theorem J9:Go.Sort.SWO Az:=⟨Hw,fun x y z=>Il,fun x y z h1 h2=>by
 simp only[Az,Zak,Zaj,decide_eq_false_iff_not] at *;omega⟩
def Iy (a b:Cell):Bool:=decide (b.time<a.time)||decide (a.time=b.time)&&Az b.dot a.dot
theorem Adt:Go.Sort.SWO Iy:=⟨fun x=>by simp[Iy,Hw],fun x y z h1 h2=>by
  simp only[Iy,Az,Zao,Zaa,decide_eq_true_eq] at *;omega,fun x y z h1 h2=>by
  simp only[Iy,Az,Zak,Zaj,decide_eq_false_iff_not] at *;omega⟩
theorem Amu {x y:Cell} (h1:Iy x y=false) (h2:Iy y x=false):x.dot=y.dot:=by
 rw[Dot.eq_iff]
 simp only[Iy,Az,Zak,Zaj,decide_eq_false_iff_not] at *;omega
def Iz (d:Dot) (c:Cell):Bool:=decide (c.ref=d)
def A73 (o:ByteArray) (c:Cell):Bool:=decide (c.obj=o)
def rowF (sc:List Cell):Nat->Dot->List Cell
 |0,_=>[]
 |f+1,d=>(sc.filter (Iz d)).flatMap fun c=>c::rowF sc f c.dot
def Adq (sc:List Cell):Nat->Dot->Prop
 |0,d=>∀ c∈sc,c.ref≠d
 |f+1,d=>∀ c∈sc,c.ref=d->Adq sc f c.dot
theorem Adq.up {sc:List Cell}:∀ {f:Nat} {d:Dot},Adq sc f d->Adq sc (f+1) d
 |0,d,h=>fun c hc e=>absurd e (h c hc)
 |f+1,d,h=>fun c hc e=>(h c hc e).up
theorem Adq.le {sc:List Cell} {f g:Nat} {d:Dot} (h:Adq sc f d) (hg:f<=g):Adq sc g d:=by
 induction g with
 |zero=>
      have:f=0:=by omega
      subst this;exact h
 |succ g ih=>
  rcases Za5 g f with h1|h1
  ·have:f=g+1:=by omega
   subst this;exact h
  ·exact(ih h1).up
theorem Rj {Y β:Type} {f g:Y->List β}:∀ {l:List Y},(∀ x∈l,f x=g x)->l.flatMap f=l.flatMap g
 |[],_=>rfl
 |x::l,h=>by rw[Zan,Zan,h x Zac,Rj fun y hy=>h y (Zal _ hy)]
theorem Amv {sc:List Cell}:∀ {f:Nat} {d:Dot},Adq sc f d->rowF sc (f+1) d=rowF sc f d
 |0,d,h=>by
  have:sc.filter (Iz d)=[]:=List.filter_eq_nil_iff.2 fun c hc=>by simpa [Iz] using h c hc
  simp[rowF,this]
 |f+1,d,h=>by
  rw[rowF,rowF]
  refine Rj fun c hc=> ?_
  obtain⟨h1,h2⟩:=Zay.1 hc
  rw[Amv (h c h1 (by simpa [Iz] using h2))]
def fuel:Nat:=10001
def rowA (sc:List Cell) (d:Dot):List Cell:=rowF sc fuel d
theorem As9 {sc:List Cell} {d:Dot} (h:Adq sc fuel d):rowA sc d=(sc.filter (Iz d)).flatMap fun c=>c::rowA sc c.dot:=by
 unfold rowA
 rw[<- Amv h,rowF]
theorem Adu {Y:Type} [DecidableEq Y]:∀ {l m:List Y},l.Nodup->(∀ x∈l,x∈m)->l.length<=m.length
 |[],m,_,_=>by simp
 |x::l,m,hn,h=>by
  rw[Zbl] at hn
  have hx:=h x Zac
  have:=Adu (l:=l) (m:=m.erase x) hn.2 fun y hy=>by
   rw[List.mem_erase_of_ne (fun e=>hn.1 (by rw[<- e];exact hy))]
   exact h y (Zal _ hy)
  rw[List.length_erase_of_mem hx] at this
  have:=List.length_pos_of_mem hx
  simp only[Za2];omega
theorem Aad {l:List Cell} (h:(l.map (·.dot)).Nodup) {a b:Cell} (ha:a∈l) (hb:b∈l) (e:a.dot=b.dot):a=b:=by
 induction l with
 |nil=>simp at ha
 |cons z l ih=>
  rw[Zbg,Zbl] at h
  rcases Za0.1 ha with h1|h1<;>rcases Za0.1 hb with h2|h2
  ·rw[h1,h2]
  ·exact(h.1 (by rw[<- h1,e];exact Za8 (f:=(·.dot)) h2)).elim
  ·exact(h.1 (by rw[<- h2,<-e];exact Za8 (f:=(·.dot)) h1)).elim
  ·exact ih h.2 h1 h2
theorem A8g {sc:List Cell} (hd:(sc.map (·.dot)).Nodup):∀ {ds:List Dot},ds.Nodup->((ds.flatMap fun d=>sc.filter (Iz d)).map (·.dot)).Nodup
 |[],_=>by simp
 |d::ds,hn=>by
  rw[Zbl] at hn
  rw[Zan,Zbi,List.nodup_append]
  refine⟨hd.sublist ((Za9).map _),A8g hd hn.2,fun x hx y hy e=> ?_⟩
  obtain⟨a,ha,rfl⟩:=Zby.1 hx
  obtain⟨b,hb,rfl⟩:=Zby.1 hy
  obtain⟨d',hd',hb⟩:=Zb2.1 hb
  obtain⟨ha1,ha2⟩:=Zay.1 ha
  obtain⟨hb1,hb2⟩:=Zay.1 hb
  have hab:a=b:=Aad hd ha1 hb1 e
  subst hab
  have e1:a.ref=d:=by simpa [Iz] using ha2
  have e2:a.ref=d':=by simpa [Iz] using hb2
  exact hn.1 (by rw[<- e1,e2];exact hd')
theorem A3z {Y β γ:Type} {k:Y->List β} {g:β->List γ} (w:Y->List γ) (hw:∀ a,(w a).length=(k a).length+((k a).flatMap g).length):∀ ds:List Y,(ds.flatMap w).length=(ds.flatMap k).length+((ds.flatMap k).flatMap g).length
 |[]=>rfl
 |d::ds=>by
  simp only[Zan,Zbt,List.flatMap_append,hw,A3z w hw ds];omega
theorem Vc {β γ:Type} (g:β->List γ) (h:β->γ):∀ l:List β,(l.flatMap fun c=>h c::g c).length=l.length+(l.flatMap g).length
 |[]=>rfl
 |c::l=>by
  have:=Vc g h l
  simp only[Zan,Zbt,Za2] at *;omega
theorem Aj9 {sc:List Cell} (hd:(sc.map (·.dot)).Nodup):∀(f:Nat) {ds:List Dot},ds.Nodup->(ds.flatMap (rowF sc f)).length<=f*sc.length
 |0,ds,_=>by
  have:∀ ds:List Dot,ds.flatMap (rowF sc 0)=[]:=by
   intro ds
   induction ds with
   |nil=>rfl
   |cons d ds ih=>rw[Zan,ih];rfl
  rw[this];simp
 |f+1,ds,hn=>by
  have h1:=A3z (k:=fun d=>sc.filter (Iz d)) (g:=fun c=>rowF sc f c.dot) (rowF sc (f+1)) (fun d=>by rw[rowF];exact Vc (fun c=>rowF sc f c.dot) id _) ds
  have h2:=A8g hd hn
  have h3:=Aj9 hd f h2
  have e:(ds.flatMap fun d=>sc.filter (Iz d)).flatMap (fun c=>rowF sc f c.dot)=((ds.flatMap fun d=>sc.filter (Iz d)).map (·.dot)).flatMap (rowF sc f):=by rw[List.flatMap_map]
  rw[e] at h1
  have h4:(ds.flatMap fun d=>sc.filter (Iz d)).length<=sc.length:=by
   have:=Adu (m:=sc.map (·.dot)) h2 fun x hx=>by
    obtain⟨a,ha,rfl⟩:=Zby.1 hx
    obtain⟨d,_,ha⟩:=Zb2.1 ha
    exact Za8 (Zay.1 ha).1
   simpa using this
  rw[h1,Nat.add_mul]
  omega
theorem Ap7 {l:List Cell} (h:l.Pairwise fun a b=>Az a.dot b.dot=true):(l.map (·.dot)).Nodup:=by
 rw[List.Nodup,List.pairwise_map]
 exact h.imp fun {a b} h e=>by rw[e,Hw] at h;cases h
structure CelR (l:List Cell):Prop where
 nd:(l.map (·.dot)).Nodup
 time:∀ c∈l,1≤c.time/\c.time<=10000
 dot:∀ c∈l,Ik c.dot=true
 ref:∀ c∈l,c.ref=⟨0,0⟩∨∃ y∈l,y.dot=c.ref/\y.obj=c.obj/\y.time<c.time
 len:l.length<=120
theorem Amw {s:State} (h:B6 s=true):CelR s.cells:=by
 simp only[B6,Zaa] at h
 obtain⟨_,_,_,h4,h5⟩:=h
 have hup:=Xz h4
 simp only[Je,Zaa,Bp,celP,decide_eq_true_eq] at h4
 have at':∀ c∈s.cells,As s.know c.dot=true/\cel1 c=true:=fun c hc=>by
  obtain⟨i,hi,rfl⟩:=Zaz hc
  have:=h4.1 i hi
  rw[Br hi,Br hi] at this
  exact⟨this.1,this.2.1⟩
 refine⟨Ap7 hup,fun c hc=> ?_,fun c hc=>Ix (at' c hc).1,fun c hc=> ?_,h4.2⟩
 ·have:=(at' c hc).2
  simp only[cel1,Zaa] at this
  exact Di.1 this.2.2
 ·have:=Zbz.1 h5 c hc
  unfold ref1 at this
  simp only[Zao,decide_eq_true_eq] at this
  refine this.imp id fun h=> ?_
  split at h
  ·cases h
  ·rename_i k hk
   obtain⟨hkl,e⟩:=Bs hk
   rw[Br hkl] at h
   simp only[Zaa,decide_eq_true_eq] at h
   exact⟨_,Zah hkl,e,h.1,h.2⟩
theorem Aki:Ik ⟨0,0⟩=false:=by decide
theorem Aae {sc:List Cell} (hnd:(sc.map (·.dot)).Nodup) (ht:∀ c∈sc,1≤c.time/\c.time<=10000) (hr:∀ c∈sc,∀ y∈sc,y.dot=c.ref->y.time<c.time):∀(f:Nat) (d:Dot) (t:Int),(∀ c∈sc,c.ref=d->t<c.time)->10000 - t<=f->Adq sc f d
 |0,d,t,h,hf=>fun c hc e=>by have:=h c hc e;have:=(ht c hc).2;omega
 |f+1,d,t,h,hf=>fun c hc e=>Aae hnd ht hr f c.dot c.time (fun x hx ex=>hr x hx c hc ex.symm) (by have:=h c hc e;omega)
def objC (l:List Cell) (o:ByteArray):List Cell:=Ar Iy (l.filter (A73 o))
theorem Aaf {l:List Cell} {o:ByteArray} {c:Cell}:c∈objC l o↔c∈l/\c.obj=o:=by
 rw[objC,(Bb _ _).mem_iff,Zay];simp[A73]
theorem Ahg {l:List Cell} (h:(l.map (·.dot)).Nodup) (o:ByteArray):((objC l o).map (·.dot)).Nodup:=(((Bb Iy (l.filter (A73 o))).map (·.dot)).nodup_iff).2 (h.sublist ((Za9).map _))
theorem Aja (l:List Cell) (o:ByteArray):(objC l o).length<=l.length:=by
 rw[objC,Cm];exact Zbm _ _
theorem Ap8 {l:List Cell} (h:CelR l) (o:ByteArray):Adq (objC l o) fuel ⟨0,0⟩/\∀ c∈objC l o,Adq (objC l o) fuel c.dot:=by
 have ht:∀ c∈objC l o,1≤c.time/\c.time<=10000:=fun c hc=>h.time c (Aaf.1 hc).1
 have hr:∀ c∈objC l o,∀ y∈objC l o,y.dot=c.ref->y.time<c.time:=fun c hc y hy e=>by
  obtain⟨hc,_⟩:=Aaf.1 hc
  obtain⟨hy,_⟩:=Aaf.1 hy
  rcases h.ref c hc with e0|⟨z,hz,e1,_,e2⟩
  ·have:=h.dot y hy
   rw[e,e0,Aki] at this;cases this
  ·rw[Aad h.nd hy hz (e.trans e1.symm)];exact e2
 refine⟨Aae (Ahg h.nd o) ht hr fuel _ 0 (fun c hc _=>by have:=(ht c hc).1;omega) (by decide),fun c hc=> ?_⟩
 refine Aae (Ahg h.nd o) ht hr fuel _ c.time (fun x hx ex=>hr x hx c hc ex.symm) ?_
 have:=(ht c hc).1
 show 10000 - c.time<=((10001:Nat):Int)
 omega
def rowC (s:State) (o:ByteArray):List Cell:=rowA (objC s.cells o) ⟨0,0⟩
theorem Ajb {s:State} (h:CelR s.cells) (o:ByteArray):(rowC s o).length<=1200120:=by
 have:=Aj9 (Ahg h.nd o) fuel (ds:=[⟨0,0⟩]) (by simp)
 have h2:=Aja s.cells o
 have h3:=h.len
 rw[Zan,List.flatMap_nil,Zb6] at this
 unfold rowC rowA
 have h4:fuel*(objC s.cells o).length<=fuel*120:=Nat.mul_le_mul_left _ (by omega)
 have h5:fuel*120=1200120:=rfl
 omega
theorem Asa {l:List Cell} (h:(l.map (·.dot)).Nodup) (o:ByteArray) (d:Dot):Ar Iy (l.filter fun c=>A73 o c&&Iz d c)=(objC l o).filter (Iz d):=by
 refine A3x (fun x hx y hy h1 h2=> ?_) ?_ (Vb Adt _) ((Vb Adt _).sublist Za9)
 ·have hx:=(Zay.1 ((Bb Iy _).mem_iff.1 hx)).1
  have hy:=(Zay.1 ((Bb Iy _).mem_iff.1 hy)).1
  exact Aad h hx hy (Amu h1 h2)
 ·refine(Bb _ _).trans ?_
  have e:(l.filter fun c=>A73 o c&&Iz d c)=(l.filter (A73 o)).filter (Iz d):=by
   rw[List.filter_filter]
   congr 1
   funext c
   exact Bool.and_comm _ _
  rw[e]
  exact(Bb Iy (l.filter (A73 o))).symm.filter _
def rowL (s:State) (o:ByteArray):List Cell:=if B6 s then(rowC s o).filter (fun c=> !c.gone) else[]
def addM (a b:Int):Int:=(a+b).tmod 1000000
def In (obj:ByteArray) (rep:Int) (t:Tally):Bool:=decide (t.obj=obj)&&decide (t.rep=rep)
def Eb (l:List Tally) (obj:ByteArray) (rep val:Int):List Tally:=match l.findIdx? (In obj rep) with
 |some i=>l.modify i fun t=>{t with sum:=addM t.sum val}
 |none=>insB Af ⟨obj,rep,val⟩ l
def Mx (l:List Tally) (obj:ByteArray) (rep val:Int):List Tally:=
 let p:=fun t=>Af t ⟨obj,rep,0⟩
 match l.dropWhile p with
 |[]=>l.takeWhile p++[⟨obj,rep,addM 0 val⟩]
 |r::rr=>if In obj rep r then l.takeWhile p++⟨obj,rep,addM r.sum val⟩::rr else l.takeWhile p++⟨obj,rep,addM 0 val⟩::r::rr
theorem L7 {a b:Tally} (h:a.obj=b.obj) (h2:a.rep=b.rep):Af a b=false:=by simp[Af,h,h2,Ky]
theorem Kb:Go.Sort.SWO Af:=⟨fun x=>L7 rfl rfl,fun x y z h1 h2=>by
  simp only[Af,Zao,Zaa,decide_eq_true_eq] at*
  rcases h1 with h1|⟨h1,h3⟩<;>rcases h2 with h2|⟨h2,h4⟩
  ·exact .inl (Qk h1 h2)
  ·exact .inl (by rw[<- h2];exact h1)
  ·exact .inl (by rw[h1];exact h2)
  ·exact .inr ⟨h1.trans h2,by omega⟩,fun x y z h1 h2=>by
  simp only[Af,Zak,Zaj,decide_eq_false_iff_not] at*
  refine⟨Ap6.ntrans _ _ _ h1.1 h2.1,?_⟩
  by_cases hxz:x.obj=z.obj
  ·right
   have hxy:x.obj=y.obj:=by
    by_cases e:x.obj=y.obj
    ·exact e
    ·exfalso
     have h3:txLt y.obj x.obj=true:=by
      cases e2:txLt y.obj x.obj with
      |true=>rfl
      |false=>exact absurd (Ql h1.1 e2) e
     rw[hxz] at h3
     rw[h3] at h2
     simp at h2
   rcases h1.2 with h|h
   ·exact absurd hxy h
   ·rcases h2.2 with h'|h'
    ·exact absurd (hxy.symm.trans hxz) h'
    ·omega
  ·exact .inl hxz⟩
theorem A40 {x y:Tally} (h1:Af x y=false) (h2:Af y x=false):x.obj=y.obj/\x.rep=y.rep:=by
 simp only[Af,Zak,Zaj,decide_eq_false_iff_not] at*
 have e:=Ql h1.1 h2.1
 refine⟨e,?_⟩
 rcases h1.2 with h|h
 ·exact absurd e h
 ·rcases h2.2 with h'|h'
  ·exact absurd e.symm h'
  ·omega
theorem J0 {obj:ByteArray} {rep:Int} {t:Tally}:In obj rep t=true↔t.obj=obj/\t.rep=rep:=by simp[In]
theorem Adv {obj:ByteArray} {rep val:Int} (hv:0<=val/\val<=999999):∀ {l:List Tally},l.Pairwise (fun a b=>Af a b=true)->Mx l obj rep val=Eb l obj rep val
 |[],_=>by
  have:addM 0 val=val:=by unfold addM;rw[Int.zero_add,Zbb hv.1];omega
  simp[Mx,Eb,insB,this]
 |k::l,h=>by
  obtain⟨h1,h2⟩:=Zav.1 h
  have ih:=Adv (obj:=obj) (rep:=rep) hv h2
  have h0:addM 0 val=val:=by unfold addM;rw[Int.zero_add,Zbb hv.1];omega
  cases hk:Af k ⟨obj,rep,0⟩ with
  |true=>
   have hne:In obj rep k=false:=by
    cases e:In obj rep k with
    |false=>rfl
    |true=>rw[L7 (J0.1 e).1 (J0.1 e).2] at hk;cases hk
   have hins:Af ⟨obj,rep,val⟩ k=false:=by
    have:=SWO.asym Kb hk
    exact this
   have e1:Eb (k::l) obj rep val=k::Eb l obj rep val:=by
    unfold Eb
    rw[Zbe,hne]
    simp only[Zar,if_false]
    cases hf:l.findIdx? (In obj rep) with
    |none=>simp[insB,hins]
    |some i=>simp[List.modify_succ_cons]
   rw[e1,<-ih]
   unfold Mx
   simp only[Zbo,Zbp,hk,if_true]
   split
   ·rfl
   ·split<;>rfl
  |false=>
   unfold Mx Eb
   simp only[Zbo,Zbp,hk,Zar,if_false,List.nil_append]
   rw[Zbe]
   cases he:In obj rep k with
   |true=>
    obtain⟨e1,e2⟩:=J0.1 he
    subst e1 e2
    simp
   |false=>
    have hlt:Af ⟨obj,rep,val⟩ k=true:=by
     cases e:Af ⟨obj,rep,val⟩ k with
     |true=>rfl
     |false=>
      have:=A40 (x:=k) (y:=⟨obj,rep,0⟩) hk e
      rw[J0.2 this] at he;cases he
    have hn:l.findIdx? (In obj rep)=none:=by
     rw[Zaw]
     intro x hx
     cases e:In obj rep x with
     |false=>rfl
     |true=>
      have h3:=Kb.trans _ _ _ hlt (h1 x hx)
      rw[L7 (J0.1 e).1.symm (J0.1 e).2.symm] at h3
      cases h3
    simp[hn,insB,hlt,h0]
def insW {Y:Type} (p:Y->Bool) (x:Y) (l:List Y):List Y:=l.takeWhile p++x::l.dropWhile p
theorem A41 {Y:Type} {p:Y->Bool} {lt:Y->Y->Bool} {x:Y}:∀ {l:List Y},(∀ k∈l,lt x k= !p k)->insW p x l=insB lt x l
 |[],_=>rfl
 |k::l,h=>by
  have ih:=A41 (p:=p) (lt:=lt) (x:=x) (l:=l) fun y hy=>h y (Zal _ hy)
  have hk:=h k Zac
  unfold insB
  cases hp:p k with
  |true=>
   rw[hp] at hk
   rw[if_neg (by rw[hk];simp),<-ih]
   simp[insW,hp]
  |false=>
   rw[hp] at hk
   rw[if_pos (by rw[hk];rfl)]
   simp[insW,hp]
theorem Adw {a b:Dot} (h:a≠b):Az a b= !Az b a:=by
 cases h1:Az a b with
 |true=>
  cases h2:Az b a with
  |false=>rfl
  |true=>have:=Il h1 h2;rw[Hw] at this;cases this
 |false=>
  cases h2:Az b a with
  |true=>rfl
  |false=>exact absurd (Tu h1 h2) h
def Hy (x:Live) (l:List Live):List Live:=insB C5 x l
def Kc (x:Cell) (l:List Cell):List Cell:=insB Dk x l
def Lz (m:Bool) (obj key:ByteArray) (knew:List Int) (x:Live):Bool:= !(x.map==m)||(!decide (x.obj=obj)||(!decide (x.key=key)|| !As knew x.dot))
def J1 (l:List Cell) (d:Dot):List Cell:=match Cx l d with
 |some k=>l.modify k fun c=>{c with gone:=true}
 |none=>l
def Da (s:State) (a:Act):State:=
 if a.kind=1 then {s with tallies:=Eb s.tallies a.obj a.dot.rep a.val}
 else if a.kind=2 then {s with lives:=Hy ⟨false,a.obj,a.key,0,a.dot⟩ s.lives}
 else if a.kind=3 then {s with lives:=s.lives.filter (Lz false a.obj a.key a.knew)}
 else if a.kind=4 then {s with lives:=Hy ⟨true,a.obj,a.key,a.val,a.dot⟩ (s.lives.filter (Lz true a.obj a.key a.knew))}
 else if a.kind=5 then {s with lives:=s.lives.filter (Lz true a.obj a.key a.knew)}
 else if a.kind=6 then {s with cells:=Kc ⟨a.obj,a.dot,a.time,a.ref,a.val,false⟩ s.cells}
 else {s with cells:=J1 s.cells a.ref}
def Jm (s:State) (a:Act):State:=Da {s with know:=s.know.set a.dot.rep.toNat a.dot.seq} a
def F6 (s:State):Bool:=decide (120<s.tallies.length)||(decide (120<s.lives.length)||decide (120<s.cells.length))
def Jn (s:State) (a:Act):Bool:=if a.kind=7∨(a.kind=6/\a.ref≠d0) then(match Cx s.cells a.ref with
 |some k=>onI s.cells k fun c=>decide (c.obj=a.obj)&&(decide (a.kind=7)||decide (c.time<a.time))
 |none=>false) else true
def Bi (s:State) (a:Act):State×Int:=
 if !(B6 s&&Dj a) then(s,3) else if As s.know a.dot then(s,1) else if !Gf a.knew s.know then(s,2) else if !Jn s a then(s,3) else
 if F6 (Jm s a) then(s,4) else(Jm s a,0)
theorem L8 {Y:Type} {l:List Y} {p:Y->Bool} {i:Nat} (hi:i<l.length):(l.take (i+1)).filter p=(l.take i).filter p++(if p l[i] then[l[i]] else[]):=by
 rw[Ak hi,List.filter_append]
 congr 1
 cases h:p l[i]<;>simp[h]
theorem Ke {Y:Type} (l:List Y) (p:Y->Bool) (i:Nat):((l.take i).filter p).length<=l.length:=by
 have:=Zbm p (l.take i)
 rw[Za7] at this
 omega
section
variable {Y:Type} {lt:Y->Y->Bool} {x:Y} {acc nxt:List Y} {j:Nat} {put:Bool}
def insG (lt:Y->Y->Bool) (x:Y) (acc nxt:List Y) (j:Nat) (put:Bool):Prop:=if put then nxt++acc.drop j=insB lt x acc else nxt++insB lt x (acc.drop j)=insB lt x acc
theorem Vd:insG lt x acc [] 0 false:=by simp[insG]
theorem Ey (h:insG lt x acc nxt j put):nxt.length<=acc.length+1:=by
 unfold insG at h
 have:(insB lt x acc).length=acc.length+1:=Ka lt x acc
 split at h
 ·rw[<- this,<-h];simp
 ·rw[<- this,<-h];simp
theorem Qn (h:insG lt x acc nxt j false) (hj:j<acc.length) (hl:lt x acc[j]=true):insG lt x acc (nxt++[x]++[acc[j]]) (j+1) true:=by
 simp only[insG,Zar,if_false,if_true] at h ⊢
 rw[Zae hj,insB,if_pos hl] at h
 rw[<- h];simp
theorem Fo (h:insG lt x acc nxt j put) (hj:j<acc.length) (hl:put=true∨lt x acc[j]=false):insG lt x acc (nxt++[acc[j]]) (j+1) put:=by
 cases put with
 |true=>
  simp only[insG,if_true] at h ⊢
  rw[Zae hj] at h
  rw[<- h];simp
 |false=>
  have hl:lt x acc[j]=false:=hl.resolve_left (by intro h;cases h)
  simp only[insG,Zar,if_false] at h ⊢
  rw[Zae hj,insB,if_neg (by rw[hl];simp)] at h
  rw[<- h];simp
theorem Ve (h:insG lt x acc nxt acc.length put):(if put then nxt else nxt++[x])=insB lt x acc:=by
 unfold insG at h
 split
 ·rename_i hp;rw[if_pos hp] at h;simpa using h
 ·rename_i hp;rw[if_neg hp] at h;simpa [insB] using h
theorem A42 {l:List Y} {p:Y->Bool} {i:Nat} (hi:i<l.length):Ar lt ((l.take (i+1)).filter p)=if p l[i] then insB lt l[i] (Ar lt ((l.take i).filter p)) else Ar lt ((l.take i).filter p):=by
 rw[L8 hi]
 split
 ·rw[K8]
 ·simp
theorem Adx {l:List Y} {p:Y->Bool} {i:Nat}:(Ar lt ((l.take i).filter p)).length<=l.length:=by
 rw[Cm];exact Ke l p i
end
section
structure El (Y:Type) [Inhabited Y] where
 p:Pl Y
 g:Bool
 val:Y->GV
 hv:∀ x,mkv g (p.enc x)=some (val x)
 hc:∀ x,(val x).cells=p.enc x
 hz:0<p.z
section
variable {Y:Type} [Inhabited Y] {e:El Y} {N U:St} {rs:List Thg} {v:GV} {d:Array Y}
open Go.Sort (swp)
theorem Asb {j:Nat} (hj:j<d.size):d.toList[j]? =some d[j]! :=by
 rw[getElem!_pos d j hj];simp
theorem El.at (e:El Y) (H:Hp N U rs) (k:Nat) (hk:rs[k]? =some (ow e.p.kd v d.toList)) {j:Nat} (hj:j<d.size):iadG e.p.z v (some j)=some (atz e.p.z v j)/\ldG e.g e.p.z U (atz e.p.z v j)=some (e.val d[j]!):=by
 have h:=H.sl k hk
 have hl:j<d.toList.length:=by simpa using hj
 refine⟨RdN.iad h hl,?_⟩
 obtain⟨cs,hR,hs⟩:=RdN.cells h hl
 have e1:cs=e.p.enc d.toList[j]:=hR
 have e2:d.toList[j]=d[j]! :=by
  have:=Asb hj
  rw[Zax hl] at this
  injection this
 have hlen:=e.p.len d.toList[j]
 have:=hs 0 e.p.z cs (by unfold seg;rw[if_pos (by rw[e1,hlen];omega),List.drop_zero,Za4 (by rw[e1,hlen];exact Za3 _)]) e.g
 rw[Ap2] at this
 have this:ldG e.g e.p.z U (atz e.p.z v j)=mkv e.g cs:=this
 rw[this,e1,e.hv,e2]
theorem El.sw (e:El Y) (H:Hp N U rs) (k:Nat) (hk:rs[k]? =some (ow e.p.kd v d.toList)) {a b:Nat} (ha:a<d.size) (hb:b<d.size):∃ U1 U2,stG e.p.z U (atz e.p.z v a) (e.val d[b]!)=some (.tup [],U1)/\stG e.p.z U1 (atz e.p.z v b) (e.val d[a]!)=some (.tup [],U2)/\Hp N U2 (rs.set k (ow e.p.kd v (swp d a b).toList)):=by
 have hkl:=(Zai.1 hk).1
 obtain⟨U1,e1,H1⟩:=H.stw k hk (j:=a) (by simpa using ha) e.p.z (e.val d[b]!) d[b]! (e.hc _) rfl e.hz
 obtain⟨U2,e2,H2⟩:=H1.stw k (by rw[Zap hkl]) (j:=b) (by simpa using hb) e.p.z (e.val d[a]!) d[a]! (e.hc _) rfl e.hz
 refine⟨U1,U2,e1,e2,?_⟩
 rw[Zbx] at H2
 have:(swp d a b).toList=(d.toList.set a d[b]!).set b d[a]! :=by simp[swp]
 rw[this];exact H2
def Holds (e:El Y) (N0 U:St) (rs:List Thg) (k:Nat) (v:GV) (d:Array Y):Prop:=k<rs.length/\Hp N0 U (rs.set k (ow e.p.kd v d.toList))
theorem Holds.of {N0:St} (H:Hp N0 U rs) {k:Nat} (hk:rs[k]? =some (ow e.p.kd v d.toList)):Holds e N0 U rs k v d:=by
 obtain⟨h1,h2⟩:=Zai.1 hk
 refine⟨h1,?_⟩
 rw[<- h2,Zbj];exact H
theorem Holds.at {N0:St} {k:Nat} (h:Holds e N0 U rs k v d) {j:Nat} (hj:j<d.size):iadG e.p.z v (some j)=some (atz e.p.z v j)/\ldG e.g e.p.z U (atz e.p.z v j)=some (e.val d[j]!):=e.at h.2 k (Zap h.1) hj
theorem Holds.iad {N0:St} {k:Nat} (h:Holds e N0 U rs k v d) {j:Nat} (hj:j<d.size):iadG e.p.z v (some j)=some (atz e.p.z v j):=(h.at hj).1
theorem Holds.ld {N0:St} {k:Nat} (h:Holds e N0 U rs k v d) {j:Nat} (hj:j<d.size):ldG e.g e.p.z U (atz e.p.z v j)=some (e.val d[j]!):=(h.at hj).2
theorem Holds.sw {N0:St} {k:Nat} (h:Holds e N0 U rs k v d) {a b:Nat} (ha:a<d.size) (hb:b<d.size):∃ U1 U2,stG e.p.z U (atz e.p.z v a) (e.val d[b]!)=some (.tup [],U1)/\stG e.p.z U1 (atz e.p.z v b) (e.val d[a]!)=some (.tup [],U2)/\Holds e N0 U2 rs k v (swp d a b)/\U2.length=U.length:=by
 obtain⟨U1,U2,e1,e2,H⟩:=e.sw h.2 k (Zap h.1) ha hb
 exact⟨U1,U2,e1,e2,⟨h.1,by rwa [Zbx] at H⟩,by rw[Aml e2,Aml e1]⟩
theorem Df {k:IntKind} {x:Int} {j:Nat} (h:x=(j:Int)):Bu (some (.int k x))=some j:=by rw[h];exact A0
theorem swp_size (d:Array Y) (i j:Nat):(swp d i j).size=d.size:=by simp[swp]
end
theorem Lj {P:Program} {a:Cd} {Q:Ex->Env->St->Prop} {env:Env} {N:St} (I:Nat->Env->St->Prop) (n j0:Nat) (X:Env->St->Prop) (h0:I n env N)
  (hs:∀(J:Nat->Env->St->Prop) (Yq:Env->St->Prop),(∀ k env N,I k env N->J k env N)->(∀ env N,X env N->Yq env N)->∀ k env N,I k env N->vc P a (fun e env' N'=>match e with| .nxt=>∃ k',k'<k/\J k' env' N'| .ext j=>if j=j0 then Yq env' N' else Q (.ext j) env' N'| .ret=>Q .ret env' N') env N)
  (hx:∀ env N,X env N->Q (.ext j0) env N):vc P (.lop a) Q env N:=by
 refine A7q I n h0 fun k env N hI=>Bh (hs I X (fun _ _ _ h=>h) (fun _ _ h=>h) k env N hI) fun e env' N' he=> ?_
 cases e with
 |nxt=>exact he
 |ret=>exact he
 |ext j=>
  have h5:if j=j0 then X env' N' else Q (.ext j) env' N':=he
  by_cases h:j=j0
  ·rw[if_pos h] at h5
   subst h;exact hx _ _ h5
  ·rw[if_neg h] at h5;exact h5
theorem Sp {P:Program} {a:Cd} {Q:Ex->Env->St->Prop} {env:Env} {N:St} (n ri j0:Nat) (I:Nat->Env->St->Prop) (X:Env->St->Prop) (hr:env ri=gi 0) (h0:I 0 env N)
  (hs:∀(J:Nat->Env->St->Prop) (Yq:Env->St->Prop),(∀ i env N,I i env N->J i env N)->(∀ env N,X env N->Yq env N)->∀ i env N,i<n->env ri=gi i->decide ((i:Int)<n)=true->I i env N->vc P a (fun e env' N'=>match e with| .nxt=>env' ri=gi ((i:Int)+1)/\J (i+1) env' N'| .ext j=>j=j0/\Yq env' N'| .ret=>False) env N)
  (he:∀(Yq:Env->St->Prop),(∀ env N,X env N->Yq env N)->∀ env N,env ri=gi n->decide ((n:Int)<n)=false->I n env N->vc P a (fun e env' N'=>match e with| .nxt=>False| .ext j=>j=j0/\Yq env' N'| .ret=>False) env N)
  (hx:∀ env N,X env N->Q (.ext j0) env N):vc P (.lop a) Q env N:=by
 refine Dg n ri I hr h0 (fun i env N h1 h2 h3 h4=>Bh (hs I X (fun _ _ _ h=>h) (fun _ _ h=>h) i env N h1 h2 h3 h4) fun e env' N' hq=> ?_) (fun env N h1 h2 h3=>Bh (he X (fun _ _ h=>h) env N h1 h2 h3) fun e env' N' hq=> ?_)
 ·cases e with
  |nxt=>exact hq
  |ret=>exact hq.elim
  |ext j=>obtain⟨rfl,hq⟩:=hq;exact hx _ _ hq
 ·cases e with
  |nxt=>exact hq
  |ret=>exact hq.elim
  |ext j=>obtain⟨rfl,hq⟩:=hq;exact hx _ _ hq
theorem E1 {P:Program} {a b:Cd} {Q:Ex->Env->St->Prop} {env:Env} {N:St} (X:Env->St->Prop)
  (ha:∀ Yq:Env->St->Prop,(∀ env N,X env N->Yq env N)->vc P a (fun e env' N'=>match e with| .nxt=>Yq env' N'| .ext j=>Q (.ext j) env' N'| .ret=>Q .ret env' N') env N)
  (hb:∀ env N,X env N->vc P b Q env N):vc P (.seq a b) Q env N:=by
 rw[vc_seq]
 refine Bh (ha X fun _ _ h=>h) fun e env' N' he=> ?_
 cases e with
 |nxt=>exact hb _ _ he
 |ret=>exact he
 |ext j=>exact he
open Go.Sort (bitsLen bitsLen_le_iff)
abbrev len8:ByteArray:=⟨#[0,1,2,2,3,3,3,3,4,4,4,4,4,4,4,4,5,5,5,5,5,5,5,5,5,5,5,5,5,5,5,5,6,6,6,6,6,6,6,6,6,6,6,6,6,6,6,6,6,6,6,6,6,6,6,6,6,6,6,6,6,6,6,6,7,7,7,7,7,7,7,7,7,7,7,7,7,7,7,7,7,7,7,7,7,7,7,7,7,7,7,7,7,7,7,7,7,7,7,7,7,7,7,7,7,7,7,7,7,7,7,7,7,7,7,7,7,7,7,7,7,7,7,7,7,7,7,7,8,8,8,8,8,8,8,8,8,8,8,8,8,8,8,8,8,8,8,8,8,8,8,8,8,8,8,8,8,8,8,8,8,8,8,8,8,8,8,8,8,8,8,8,8,8,8,8,8,8,8,8,8,8,8,8,8,8,8,8,8,8,8,8,8,8,8,8,8,8,8,8,8,8,8,8,8,8,8,8,8,8,8,8,8,8,8,8,8,8,8,8,8,8,8,8,8,8,8,8,8,8,8,8,8,8,8,8,8,8,8,8,8,8,8,8,8,8,8,8,8,8,8,8,8,8,8,8]⟩
set_option maxRecDepth 100000 in
theorem Ap9:(bl len8).length=256:=by decide +kernel
set_option maxRecDepth 100000 in
theorem Z3 {m:Nat} (h:m<256):idxG (.str len8) (some m)=some (.int .u8 (bitsLen m:Nat)):=by
 have key:∀ m:Fin 256,idxG (.str len8) (some m.1)=some (.int .u8 (bitsLen m.1:Nat)):=by
  intro m
  have hm:m.1<(bl len8).length:=by rw[Ap9];exact m.2
  rw[Amq hm]
  have:∀ m:Fin 256,((bl len8).getD m.1 0).toNat=bitsLen m.1:=by decide +kernel
  have h2:=this m
  rw[Zba,Zax hm,Zb1] at h2
  rw[h2]
 exact key ⟨m,h⟩
theorem Akj {x k:Nat} (h:2 ^ k<=x):bitsLen x=bitsLen (x / 2 ^ k)+k:=by
 have h1:∀ m,bitsLen x<=m↔bitsLen (x / 2 ^ k)+k<=m:=by
  intro m
  rw[bitsLen_le_iff]
  have hx:¬ x<2 ^ k:=by omega
  constructor
  ·intro hlt
   have hkm:k<m:=by
    rcases Za5 k m with h2|h2
    ·exact h2
    ·have:2 ^ m<=2 ^ k:=Nat.pow_le_pow_right (by omega) h2
     omega
   have:bitsLen (x / 2 ^ k)<=m - k:=by
    rw[bitsLen_le_iff,Zbn (Zb7 k),<-Nat.pow_add]
    rwa [Zbu (by omega)]
   omega
  ·intro hle
   have:bitsLen (x / 2 ^ k)<=m - k:=by omega
   rw[bitsLen_le_iff,Zbn (Zb7 k),<-Nat.pow_add,Zbu (by omega)] at this
   exact this
 have h2:=(h1 _).1 (Za3 _)
 have h3:=(h1 _).2 (Za3 _)
 omega
theorem Amx {n:Nat} (h:n<=1099511627776):bitsLen n<=41:=(bitsLen_le_iff n 41).2 (by omega)
end
end Go.Proofs.YtbeoiejnogdkpaaGreat.Sy
