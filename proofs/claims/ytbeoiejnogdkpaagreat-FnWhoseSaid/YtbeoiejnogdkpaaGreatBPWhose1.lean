/- Texts of this proof, one behind the other. -/
import Derived.Test.YtbeoiejnogdkpaaGreatBC
import Derived.Test.YtbeoiejnogdkpaaGreatProg
import Derived.KernelRfl
import Derived.Sort.AssemblyPlain
import Derived.Sort.LotD3
import Derived.Sort.LotD1
set_option linter.unusedSimpArgs false
set_option linter.unusedVariables false
set_option maxRecDepth 4000
set_option maxHeartbeats 4000000
open List renaming mem_cons_self→Zaa,prefix_refl→Zac,pairwise_cons→Zad,mem_cons→Zae,take_length→Zaf,getElem_mem→Zag,mem_cons_of_mem→Zah,drop_eq_getElem_cons→Zak,flatMap_cons→Zal,getElem?_eq_some_iff→Zam,mem_filter→Zan,getElem_of_mem→Zaq,getElem?_set_self→Zar,length_cons→Zas,findIdx?_eq_some_iff_getElem→Zau,findIdx?_eq_none_iff→Zax,getElem?_eq_getElem→Zaz,map_cons→Za2,length_filter_le→Za6,mem_map_of_mem→Za8,filter_sublist→Za9,flatMap_append→Zba,getD_eq_getElem?_getD→Zbb,pairwise_iff_getElem→Zbd,length_take→Zbe,drop_length→Zbf,mem_flatMap→Zbg,set_getElem_self→Zbi,foldl_cons→Zbj,nodup_cons→Zbk,map_append→Zbl,sum_append→Zbm,reverse_append→Zbo,sum_cons→Zbp,length_append→Zbs,reverse_cons→Zbw,mem_map→Zbx,all_eq_true→Zby,cons_append→Zbz,flatMap_map→Zb1,flatMap_nil→Zb2,length_nil→Zb3,append_nil→Zb4
open Bool renaming and_eq_true→Zab,eq_iff_iff→Zaj,or_eq_true→Zap,and_eq_false_iff→Zat,false_or→Zaw,or_eq_false_iff→Zay,true_and→Za1,false_eq_true→Za3,true_or→Zbc,not_eq_false'→Zbr,not_eq_true'→Zbv,and_false→Zb6,and_self→Zb7
open Nat renaming eq_zero_or_pos→Zai,le_refl→Za0,lt_or_ge→Za4,le_trans→Za5,div_lt_iff_lt_mul→Zbn,add_sub_cancel→Zbq,sub_add_cancel→Zbt,two_pow_pos→Zb5
open Int renaming ofNat_zero→Zao,lt_irrefl→Zav,lt_trichotomy→Zbu
open Option renaming bind_some→Za7,map_some→Zbh,getD_some→Zb0
namespace Go.Proofs.YtbeoiejnogdkpaaGreat.Sy
open Go Go.RowKit
def sumL {α:Type} (f:α->Nat) (l:List α):Nat:=(l.map f).sum
theorem Hm {α:Type} {f:α->Nat} {l:List α} {x:α} (h:x∈l):f x<=sumL f l:=by
 induction l with
 |nil=>simp at h
 |cons y l ih=>
  simp only[sumL,Za2,Zbp] at*
  rcases Zae.1 h with rfl|h
  ·omega
  ·have:=ih h;omega
theorem Aap {z i:Nat} {v:GV}:fld 0 (atz z v i)=atz z v i:=by
 cases v<;>rfl
namespace Hp
end Hp
def J5 (x:Tally):Nat:=x.obj.size
def Kl (x:Live):Nat:=x.obj.size+x.key.size
def No (x:Cell):Nat:=x.obj.size
def Ha (x:Act):Nat:=x.knew.length+x.obj.size+x.key.size
instance:DecidableEq Act:=fun a b=>if h:a.dot=b.dot/\a.time=b.time/\a.knew=b.knew/\a.kind=b.kind/\a.obj=b.obj/\a.key=b.key/\a.val=b.val/\a.ref=b.ref then isTrue (by cases a;cases b;simp only at h;obtain⟨rfl,rfl,rfl,rfl,rfl,rfl,rfl,rfl⟩:=h;rfl) else isFalse (fun e=>h (by subst e;exact⟨rfl,rfl,rfl,rfl,rfl,rfl,rfl,rfl⟩))
theorem Act.eq_iff {a b:Act}:a=b↔a.dot=b.dot/\a.time=b.time/\a.knew=b.knew/\a.kind=b.kind/\a.obj=b.obj/\a.key=b.key/\a.val=b.val/\a.ref=b.ref:=⟨fun h=>by subst h;exact⟨rfl,rfl,rfl,rfl,rfl,rfl,rfl,rfl⟩,fun h=>by cases a;cases b;simp only at h;obtain⟨rfl,rfl,rfl,rfl,rfl,rfl,rfl,rfl⟩:=h;rfl⟩
def Ah (x:State):Nat:=x.know.length+(x.tallies.length+sumL J5 x.tallies)+(x.lives.length+sumL Kl x.lives)+(x.cells.length+sumL No x.cells)
instance:DecidableEq State:=fun a b=>if h:a.know=b.know/\a.tallies=b.tallies/\a.lives=b.lives/\a.cells=b.cells then isTrue (by cases a;cases b;simp only at h;obtain⟨rfl,rfl,rfl,rfl⟩:=h;rfl) else isFalse (fun e=>h (by subst e;exact⟨rfl,rfl,rfl,rfl⟩))
theorem State.eq_iff {a b:State}:a=b↔a.know=b.know/\a.tallies=b.tallies/\a.lives=b.lives/\a.cells=b.cells:=⟨fun h=>by subst h;exact⟨rfl,rfl,rfl,rfl⟩,fun h=>by cases a;cases b;simp only at h;obtain⟨rfl,rfl,rfl,rfl⟩:=h;rfl⟩
def C9 (x:Delta):Nat:=x.base.length+x.know.length+(x.tallies.length+sumL J5 x.tallies)+(x.lives.length+sumL Kl x.lives)+x.dead.length+(x.cells.length+sumL No x.cells)
instance:DecidableEq Delta:=fun a b=>if h:a.base=b.base/\a.know=b.know/\a.tallies=b.tallies/\a.lives=b.lives/\a.dead=b.dead/\a.cells=b.cells then isTrue (by cases a;cases b;simp only at h;obtain⟨rfl,rfl,rfl,rfl,rfl,rfl⟩:=h;rfl) else isFalse (fun e=>h (by subst e;exact⟨rfl,rfl,rfl,rfl,rfl,rfl⟩))
theorem Delta.eq_iff {a b:Delta}:a=b↔a.base=b.base/\a.know=b.know/\a.tallies=b.tallies/\a.lives=b.lives/\a.dead=b.dead/\a.cells=b.cells:=⟨fun h=>by subst h;exact⟨rfl,rfl,rfl,rfl,rfl,rfl⟩,fun h=>by cases a;cases b;simp only at h;obtain⟨rfl,rfl,rfl,rfl,rfl,rfl⟩:=h;rfl⟩
def Bq (x:Unit_):Nat:=Ha x.act+C9 x.delta
instance:DecidableEq Unit_:=fun a b=>if h:a.batch=b.batch/\a.act=b.act/\a.delta=b.delta then isTrue (by cases a;cases b;simp only at h;obtain⟨rfl,rfl,rfl⟩:=h;rfl) else isFalse (fun e=>h (by subst e;exact⟨rfl,rfl,rfl⟩))
theorem Unit_.eq_iff {a b:Unit_}:a=b↔a.batch=b.batch/\a.act=b.act/\a.delta=b.delta:=⟨fun h=>by subst h;exact⟨rfl,rfl,rfl⟩,fun h=>by cases a;cases b;simp only at h;obtain⟨rfl,rfl,rfl⟩:=h;rfl⟩
def A93 (x:Log):Nat:=Ah x.state+(x.units.length+sumL Bq x.units)+(x.waits.length+sumL Bq x.waits)
instance:DecidableEq Log:=fun a b=>if h:a.rep=b.rep/\a.time=b.time/\a.state=b.state/\a.units=b.units/\a.waits=b.waits then isTrue (by cases a;cases b;simp only at h;obtain⟨rfl,rfl,rfl,rfl,rfl⟩:=h;rfl) else isFalse (fun e=>h (by subst e;exact⟨rfl,rfl,rfl,rfl,rfl⟩))
theorem Log.eq_iff {a b:Log}:a=b↔a.rep=b.rep/\a.time=b.time/\a.state=b.state/\a.units=b.units/\a.waits=b.waits:=⟨fun h=>by subst h;exact⟨rfl,rfl,rfl,rfl,rfl⟩,fun h=>by cases a;cases b;simp only at h;obtain⟨rfl,rfl,rfl,rfl,rfl⟩:=h;rfl⟩
instance:DecidableEq Commit:=fun a b=>if h:a.id=b.id/\a.ups=b.ups/\a.state=b.state then isTrue (by cases a;cases b;simp only at h;obtain⟨rfl,rfl,rfl⟩:=h;rfl) else isFalse (fun e=>h (by subst e;exact⟨rfl,rfl,rfl⟩))
theorem Commit.eq_iff {a b:Commit}:a=b↔a.id=b.id/\a.ups=b.ups/\a.state=b.state:=⟨fun h=>by subst h;exact⟨rfl,rfl,rfl⟩,fun h=>by cases a;cases b;simp only at h;obtain⟨rfl,rfl,rfl⟩:=h;rfl⟩
instance:DecidableEq Graph:=fun a b=>if h:a.commits=b.commits/\a.head=b.head then isTrue (by cases a;cases b;simp only at h;obtain⟨rfl,rfl⟩:=h;rfl) else isFalse (fun e=>h (by subst e;exact⟨rfl,rfl⟩))
theorem Graph.eq_iff {a b:Graph}:a=b↔a.commits=b.commits/\a.head=b.head:=⟨fun h=>by subst h;exact⟨rfl,rfl⟩,fun h=>by cases a;cases b;simp only at h;obtain⟨rfl,rfl⟩:=h;rfl⟩
instance:DecidableEq Replica:=fun a b=>if h:a.way=b.way/\a.log=b.log/\a.graph=b.graph/\a.file=b.file/\a.out=b.out then isTrue (by cases a;cases b;simp only at h;obtain⟨rfl,rfl,rfl,rfl,rfl⟩:=h;rfl) else isFalse (fun e=>h (by subst e;exact⟨rfl,rfl,rfl,rfl,rfl⟩))
theorem Replica.eq_iff {a b:Replica}:a=b↔a.way=b.way/\a.log=b.log/\a.graph=b.graph/\a.file=b.file/\a.out=b.out:=⟨fun h=>by subst h;exact⟨rfl,rfl,rfl,rfl,rfl⟩,fun h=>by cases a;cases b;simp only at h;obtain⟨rfl,rfl,rfl,rfl,rfl⟩:=h;rfl⟩
instance:DecidableEq World_:=fun a b=>if h:a.replicas=b.replicas/\a.net=b.net/\a.codes=b.codes/\a.synced=b.synced then isTrue (by cases a;cases b;simp only at h;obtain⟨rfl,rfl,rfl,rfl⟩:=h;rfl) else isFalse (fun e=>h (by subst e;exact⟨rfl,rfl,rfl,rfl⟩))
theorem World_.eq_iff {a b:World_}:a=b↔a.replicas=b.replicas/\a.net=b.net/\a.codes=b.codes/\a.synced=b.synced:=⟨fun h=>by subst h;exact⟨rfl,rfl,rfl,rfl⟩,fun h=>by cases a;cases b;simp only at h;obtain⟨rfl,rfl,rfl,rfl⟩:=h;rfl⟩
instance:DecidableEq Script:=fun a b=>if h:a.ways=b.ways/\a.events=b.events/\a.calm=b.calm then isTrue (by cases a;cases b;simp only at h;obtain⟨rfl,rfl,rfl⟩:=h;rfl) else isFalse (fun e=>h (by subst e;exact⟨rfl,rfl,rfl⟩))
theorem Script.eq_iff {a b:Script}:a=b↔a.ways=b.ways/\a.events=b.events/\a.calm=b.calm:=⟨fun h=>by subst h;exact⟨rfl,rfl,rfl⟩,fun h=>by cases a;cases b;simp only at h;obtain⟨rfl,rfl,rfl⟩:=h;rfl⟩
def eD (p:Dot×Int):GV×GV:=(.agg [gi p.1.rep,gi p.1.seq],gi p.2)
def K6 (ps:List (Dot×Int)) (d:Dot):Option Int:=(ps.find? fun p=>decide (d=p.1)).map (·.2)
def mpt (m:GV) (ps:List (Dot×Int)):Thg:=⟨fun σ fp=>∃ g,m= .mp g/\fp=[g]/\bk σ g=some (.map (ps.map eD)),fun⟨g,h1,h2,h3⟩ hf=>⟨g,h1,h2,by rw[hf g (by rw[h2];exact Zaa)];exact h3⟩⟩
theorem Ph (d:Dot):∀(ps:List (Dot×Int)) (i:Nat),∃ q,S6 [.i .i64,.i .i64] [gi d.rep,gi d.seq] (ps.map eD) i=some q/\match K6 ps d with
  |some v=>∃ j,q=some (j,gi v)
  |none=>q=none
 |[],i=>⟨none,rfl,rfl⟩
 |p::ps,i=>by
  obtain⟨q,h1,h2⟩:=Ph d ps (i+1)
  have e:Cj [.i .i64,.i .i64] [gi d.rep,gi d.seq] [gi p.1.rep,gi p.1.seq]=some (decide (d=p.1)):=by
   have:decide (d=p.1)=(decide (d.rep=p.1.rep)&&decide (d.seq=p.1.seq)):=by
    rw[Zaj]
    simp only[decide_eq_true_eq,Zab]
    constructor
    ·rintro rfl;exact⟨rfl,rfl⟩
    ·rintro⟨h3,h4⟩;cases d;cases hp:p.1;simp_all
   rw[this]
   simp only[Cj,scEq,and_self,if_true,Za7,Zbh,Bool.and_true,Option.some.injEq]
   rw[Zaj];simp
  by_cases hd:d=p.1
  ·refine⟨some (i,gi p.2),?_,?_⟩
   ·simp only[Za2,eD,S6] at e ⊢
    rw[e];simp[hd]
   ·have:K6 (p::ps) d=some p.2:=by simp[K6,hd]
    rw[this];exact⟨i,rfl⟩
  ·refine⟨q,?_,?_⟩
   ·simp only[Za2,eD,S6] at e ⊢
    rw[e];simp only[hd,decide_false,Za7,Za3,if_false]
    exact h1
   ·have:K6 (p::ps) d=K6 ps d:=by simp[K6,hd]
    rw[this];exact h2
namespace Hp
variable {σ τ:St} {rs:List Thg}
theorem newMap (H:Hp σ τ rs):Hp σ (τ++[some (.map [])]) (mpt (.mp τ.length) []::rs):=
 H.add (rs':=[mpt (.mp τ.length) []]) ⟨List.prefix_append _ _,[τ.length],⟨[τ.length],[],⟨_,rfl,rfl,C8⟩,rfl,rfl⟩,by simp,by simp⟩
theorem mup (H:Hp σ τ rs) (i:Nat) {m:GV} {ps:List (Dot×Int)} (hi:rs[i]? =some (mpt m ps)) (d:Dot) (n:Int) (h:K6 ps d=none):
  ∃ τ',mupG τ [.i .i64,.i .i64] m (.agg [gi d.rep,gi d.seq]) (gi n)=some (.tup [],τ')/\Hp σ τ' (rs.set i (mpt m (ps++[(d,n)]))):=by
 obtain⟨a,⟨g,rfl,rfl,hB⟩,hnd,hbd,ht⟩:=(H.pick i hi).turn
 have hlt:=(hbd g Zaa).2
 obtain⟨q,h1,h2⟩:=Ph d ps 0
 rw[h] at h2
 subst h2
 refine⟨τ.set g (some (.map ((ps++[(d,n)]).map eD))),?_,unpick (ht (a':=[g]) ⟨by simp,fun g' h=>.inl h,by simp,fun g' h h'=>E5 fun e=>h' (by rw[e];exact Zaa)⟩ ⟨g,rfl,rfl,Ar.2 (by rw[Zar hlt])⟩) (Zam.1 hi).1⟩
 simp only[mupG,mpG,Ar.1 hB,Za7,keyG,Zas,Zb3,if_true]
 rw[h1]
 simp[C7,Abz,eD]
theorem mlk (H:Hp σ τ rs) (i:Nat) {m:GV} {ps:List (Dot×Int)} (hi:rs[i]? =some (mpt m ps)) (d:Dot):
  mlkG τ [.i .i64,.i .i64] (gi 0) true m (.agg [gi d.rep,gi d.seq])=some (.tup [gi ((K6 ps d).getD 0),.bool (K6 ps d).isSome]):=by
 obtain⟨a,⟨g,rfl,rfl,hB⟩,_⟩:=H.see hi
 obtain⟨q,h1,h2⟩:=Ph d ps 0
 simp only[mlkG,mpG,Ar.1 hB,Za7,keyG,Zas,Zb3,if_true]
 rw[h1]
 cases hl:K6 ps d with
 |none=>rw[hl] at h2;subst h2;rfl
 |some v=>rw[hl] at h2;obtain⟨j,rfl⟩:=h2;rfl
end Hp
abbrev A15:Nat:=122
def A16:Fn1:=⟨15,[.t 6],(rg [oV 6 kf] (rg [oM 7 0,oM 8 1,oB 9 .geq 7 8,oM 10 9,jM 11 10 0,jM 12 10 2,jB 13 10 .leq 11 12,oQ 14 10 13,oM 6 14] .ret))⟩
theorem A7b:A6 Tryz.prog A15=some A16:=by kernel_rfl
abbrev Wy:Nat:=236
def Wz:Fn1:=⟨15,[.t 6],(rg [oV 6 kf] (rg [oM 7 0,oM 8 1,oB 9 .geq 7 8,oM 10 9,jM 11 10 0,jM 12 10 2,jB 13 10 .leq 11 12,oQ 14 10 13,oM 6 14] .ret))⟩
theorem A41:A6 Tryz.prog Wy=some Wz:=by kernel_rfl
abbrev X0:Nat:=348
def X3:Fn1:=⟨23,[.t 2],(rg [oV 2 kf] (.seq (rg [oV 3 (ki 0)] (.blk 0 (.lop (.seq (rg [oM 4 3,oM 5 0,o 6 (.len true (.t 5)),oB 7 .lss 4 6] (cn 7 .skip (.ext 0))) (.seq (.blk 1 (rg [oM 10 0,oM 11 3,o 12 (.idx (.t 10) (.t 11)),o 13 (.bin .lss (.t 12) (.k (.int .u8 97))),oM 14 13,vM 15 14 0,vM 16 14 3,og 17 14 false (.idx (.t 15) (.t 16)),og 18 14 false (.bin .gtr (.t 17) (.k (.int .u8 122))),oP 19 14 18] (cn 19 (rg [oV 2 kf] .ret) .skip))) (.reg [oM 8 3,oZ 9 8 1,oM 3 9])))))) (rg [oM 20 0,o 21 (.len true (.t 20)),o 22 (.call 122 [(.t 21),(ki 1),(ki 8)]),oM 2 22] .ret)))⟩
theorem A42:A6 Tryz.prog X0=some X3:=by kernel_rfl
abbrev X5:Nat:=341
def X7:Fn1:=⟨19,[.t 2],(rg [oV 2 kf] (.seq (rg [oV 3 (ki 0)] (.blk 0 (.lop (.seq (rg [oM 4 3,oM 5 0,o 6 (.len true (.t 5)),oB 7 .lss 4 6] (cn 7 .skip (.ext 0))) (.seq (.blk 1 (rg [oM 10 0,oM 11 3,o 12 (.idx (.t 10) (.t 11)),o 13 (.cvi .i64 (.t 12)),o 14 (.call 236 [(.t 13),(ki 97),(ki 122)]),oU 15 14] (cn 15 (rg [oV 2 kf] .ret) .skip))) (.reg [oM 8 3,oZ 9 8 1,oM 3 9])))))) (rg [oM 16 0,o 17 (.len true (.t 16)),o 18 (.call 236 [(.t 17),(ki 1),(ki 8)]),oM 2 18] .ret)))⟩
theorem A43:A6 Tryz.prog X5=some X7:=by kernel_rfl
abbrev X8:Nat:=167
def X9:Fn1:=⟨19,[.t 2],(rg [oV 2 kf] (.seq (rg [oV 3 (ki 0)] (.blk 0 (.lop (.seq (rg [oM 4 3,oM 5 0,oN 6 5,oB 7 .lss 4 6] (cn 7 .skip (.ext 0))) (.seq (.blk 1 (rg [oM 10 0,oM 11 3,oI 12 1 10 11,oL 13 12,o 14 (.call 122 [(.t 13),(ki 0),(ki 1000)]),oU 15 14] (cn 15 (rg [oV 2 kf] .ret) .skip))) (.reg [oM 8 3,oZ 9 8 1,oM 3 9])))))) (rg [oM 16 0,oN 17 16,oE 18 .eql 17 3,oM 2 18] .ret)))⟩
theorem A44:A6 Tryz.prog X8=some X9:=by kernel_rfl
abbrev Xa:Nat:=176
def Xb:Fn1:=⟨18,[.t 2],(rg [oV 2 kf] (.seq (rg [oM 5 0,oN 6 5,oV 7 (ki 0)] (.blk 0 (.lop (rg [oB 8 .lss 7 6] (.seq (cn 8 .skip (.ext 0)) (.seq (.blk 1 (rg [oI 9 1 5 7,oL 10 9,oM 4 10] (rg [oM 11 4,o 12 (.call 236 [(.t 11),(ki 0),(ki 1000)]),oU 13 12] (cn 13 (rg [oV 2 kf] .ret) .skip)))) (.reg [oZ 14 7 1,oM 7 14]))))))) (rg [oM 15 0,oN 16 15,oE 17 .eql 16 3,oM 2 17] .ret)))⟩
theorem A45:A6 Tryz.prog Xa=some Xb:=by kernel_rfl
abbrev A17:Nat:=168
def A18:Fn1:=⟨11,[.t 2],(rg [oX 1 0,oV 2 kf] (rg [oF 3 0 1,oL 4 3,o 5 (.call 122 [(.t 4),(ki 0),(ki 2)]),oM 6 5,jF 7 6 1 1,jL 8 6 7,og 9 6 true (.call 122 [(.t 8),(ki 1),(ki 1000)]),oQ 10 6 9,oM 2 10] .ret))⟩
theorem A7c:A6 Tryz.prog A17=some A18:=by kernel_rfl
abbrev A19:Nat:=272
def A1a:Fn1:=⟨11,[.t 2],(rg [oX 1 0,oV 2 kf] (rg [oF 3 0 1,oL 4 3,o 5 (.call 236 [(.t 4),(ki 0),(ki 2)]),oM 6 5,jF 7 6 1 1,jL 8 6 7,og 9 6 true (.call 236 [(.t 8),(ki 1),(ki 1000)]),oQ 10 6 9,oM 2 10] .ret))⟩
theorem A7d:A6 Tryz.prog A19=some A1a:=by kernel_rfl
abbrev A1b:Nat:=45
def A1c:Fn1:=⟨21,[.t 4],(rg [oX 3 1,oV 4 kf] (dw [oM 5 0,oC 6 167 5,oM 7 6,jW 8 7 2 3,jC 9 7 168 8,oQ 10 7 9,oM 11 10,jF 12 11 1 3,jL 13 11 12,jM 14 11 0,jF 15 11 0 3,jL 16 11 15,jI 17 11 1 14 16,jL 18 11 17] [jB 19 11 .leq 13 18,oQ 20 11 19,oM 4 20] .ret))⟩
theorem A7e:A6 Tryz.prog A1b=some A1c:=by kernel_rfl
abbrev A1d:Nat:=170
def A1e:Fn1:=⟨21,[.t 4],(rg [oX 3 1,oV 4 kf] (dw [oM 5 0,oC 6 176 5,oM 7 6,jW 8 7 2 3,jC 9 7 272 8,oQ 10 7 9,oM 11 10,jF 12 11 1 3,jL 13 11 12,jM 14 11 0,jF 15 11 0 3,jL 16 11 15,jI 17 11 1 14 16,jL 18 11 17] [jB 19 11 .leq 13 18,oQ 20 11 19,oM 4 20] .ret))⟩
theorem A7f:A6 Tryz.prog A1d=some A1e:=by kernel_rfl
abbrev Qh:Nat:=332
def Qi:Fn1:=⟨5,[.t 2],(rg [oV 2 kf] (rg [oM 3 0,o 4 (.call 122 [(.t 3),(ki 2),(ki 5)]),oM 2 4] .ret))⟩
theorem Z5:A6 Tryz.prog Qh=some Qi:=by kernel_rfl
abbrev Np:Nat:=333
def Nq:Fn1:=⟨13,[.t 2],(rg [oV 2 kf] (rg [oM 3 0,oE 4 .eql 3 1,oM 5 4,vM 6 5 0,vE 7 5 .eql 6 4,oP 8 5 7,oM 9 8,vM 10 9 0,vE 11 9 .eql 10 6,oP 12 9 11,oM 2 12] .ret))⟩
theorem Wb:A6 Tryz.prog Np=some Nq:=by kernel_rfl
abbrev Xc:Nat:=342
def Xd:Fn1:=⟨5,[.t 2],(rg [oV 2 kf] (rg [oM 3 0,o 4 (.call 236 [(.t 3),(ki 2),(ki 5)]),oM 2 4] .ret))⟩
theorem A46:A6 Tryz.prog Xc=some Xd:=by kernel_rfl
abbrev Xe:Nat:=343
def Xf:Fn1:=⟨13,[.t 2],(rg [oV 2 kf] (rg [oM 3 0,oE 4 .eql 3 1,oM 5 4,vM 6 5 0,vE 7 5 .eql 6 4,oP 8 5 7,oM 9 8,vM 10 9 0,vE 11 9 .eql 10 6,oP 12 9 11,oM 2 12] .ret))⟩
theorem A47:A6 Tryz.prog Xe=some Xf:=by kernel_rfl
abbrev Qj:Nat:=279
def Qk:Fn1:=⟨45,[.t 8],(rg [oV 8 kf] (.seq (rg [oM 9 0,o 10 (.call 122 [(.t 9),(ki 1),(ki 7)]),oU 11 10,oM 12 11,vM 13 12 1,vC 14 12 348 13,vU 15 12 14,oP 16 12 15,oM 17 16,vM 18 17 0,vC 19 17 332 18,vM 20 17 19,jM 21 20 2,jC 22 20 348 21,jU 23 20 22,og 24 17 false (.pick (.t 20) (.t 23) kf),oP 25 17 24,oM 26 25,vM 27 26 0,vC 28 26 332 27,vU 29 26 28,vM 30 26 29,jM 31 30 2,og 32 30 true (.bin .neq (.t 31) (.k s0)),og 33 26 false (.pick (.t 30) (.t 32) kf),oP 34 26 33] (cn 34 (rg [oV 8 kf] .ret) .skip)) (rg [oM 35 3,oE 36 .eql 35 0,oM 37 36,vM 38 37 0,vC 39 37 333 38,vM 40 37 39,jM 41 40 3,og 42 40 true (.call 122 [(.t 41),(ki 0),(ki 999999)]),og 43 37 false (.pick (.t 40) (.t 42) kf),oP 44 37 43,oM 8 44] .ret)))⟩
theorem Z6:A6 Tryz.prog Qj=some Qk:=by kernel_rfl
abbrev Tg:Nat:=273
def Th:Fn1:=⟨46,[.t 8],(rg [oV 8 kf] (.seq (rg [oM 10 0,o 11 (.call 236 [(.t 10),(ki 1),(ki 7)]),oU 12 11,oM 13 12,vM 14 13 1,vC 15 13 341 14,vU 16 13 15,oP 17 13 16] (cn 17 (rg [oV 8 kf] .ret) .skip)) (rg [oM 18 2,o 19 (.bin .eql (.t 18) (.k s0)),oM 20 19,jM 21 20 0,jC 22 20 342 21,jU 23 20 22,oQ 24 20 23,oM 25 24,vM 26 25 2,vC 27 25 341 26,vM 28 25 27,jM 29 28 0,jC 30 28 342 29,og 31 25 false (.pick (.t 28) (.t 30) kf),oP 32 25 31,oM 9 32] (rg [oM 33 9,oM 34 33,jM 35 34 3,jE 36 34 .eql 35 0,jM 37 34 36,vM 38 37 0,vC 39 37 343 38,vM 40 37 39,jM 41 40 3,og 42 40 true (.call 236 [(.t 41),(ki 0),(ki 999999)]),og 43 37 false (.pick (.t 40) (.t 42) kf),og 44 34 true (.pick (.t 37) kt (.t 43)),oQ 45 34 44,oM 8 45] .ret))))⟩
theorem A1f:A6 Tryz.prog Tg=some Th:=by kernel_rfl
abbrev A1g:Nat:=185
def A1h:Fn1:=⟨71,[.t 2],(rg [oX 1 0,oV 2 kf] (.seq (dw [oF 3 0 1,oW 4 2 3,oC 5 168 4,oU 6 5,oM 7 6,vF 8 7 3 1,vL 9 7 8,vC 10 7 167 9,vU 11 7 10,oP 12 7 11,oM 13 12,vF 14 13 3 1,vL 15 13 14,vF 16 13 0 1,vF 17 13 0 16,vL 18 13 17,vI 19 13 1 15 18,vL 20 13 19,vF 21 13 0 1,vF 22 13 1 21,vL 23 13 22,vE 24 13 .sub 23 1,vB 25 13 .neq 20 24,oP 26 13 25,oM 27 26,vF 28 27 2 1,vL 29 27 28,og 30 27 false (.call 122 [(.t 29),(ki 1),(ki 10000)]),vU 31 27 30,oP 32 27 31,oM 33 32,vF 34 33 4 1,vL 35 33 34,vF 36 33 5 1,vL 37 33 36,vF 38 33 6 1,vL 39 33 38,vF 40 33 7 1,vL 41 33 40] [og 42 33 false (.call 279 [(.t 35),(.t 37),(.t 39),(.t 41)]),vU 43 33 42,oP 44 33 43] (cn 44 (rg [oV 2 kf] .ret) .skip)) (.seq (rg [oF 45 4 1,oL 46 45] (.blk 0 (rg [oE 48 .eql 46 7,oM 47 48] (cn 47 (rg [oF 49 3 1,oL 50 49,oF 51 8 1,oW 52 2 51,oD 53 45 50 52,oM 2 53] .ret) (rg [oE 55 .eql 46 6,oM 54 55] (cn 54 (rg [oF 56 8 1,oW 57 2 56,o 58 (.build [z0,z0] []),o 59 (.eqs false [.i .i64,.i .i64] (.t 57) (.t 58)),oM 60 59,vF 61 60 3 1,vL 62 60 61,vF 63 60 8 1,vW 64 60 2 63,vD 65 60 45 62 64,oP 66 60 65,oM 2 66] .ret) .skip)))))) (rg [oF 67 8 1,oW 68 2 67,o 69 (.build [z0,z0] []),o 70 (.eqs false [.i .i64,.i .i64] (.t 68) (.t 69)),oM 2 70] .ret))))⟩
theorem A7g:A6 Tryz.prog A1g=some A1h:=by kernel_rfl
abbrev A1i:Nat:=169
def A1j:Fn1:=⟨71,[.t 2],(rg [oX 1 0,oV 2 kf] (.seq (dw [oF 5 0 1,oW 6 2 5,oC 7 272 6,oU 8 7,oM 9 8,vF 10 9 3 1,vL 11 9 10,vC 12 9 176 11,vU 13 9 12,oP 14 9 13,oM 15 14,vF 16 15 3 1,vL 17 15 16,vF 18 15 0 1,vF 19 15 0 18,vL 20 15 19,vI 21 15 1 17 20,vL 22 15 21,vF 23 15 0 1,vF 24 15 1 23,vL 25 15 24] [vE 26 15 .sub 25 1,vB 27 15 .neq 22 26,oP 28 15 27,oM 29 28,vF 30 29 2 1,vL 31 29 30,og 32 29 false (.call 236 [(.t 31),(ki 1),(ki 10000)]),vU 33 29 32,oP 34 29 33] (cn 34 (rg [oV 2 kf] .ret) .skip)) (rg [oF 35 8 1,oW 36 2 35,o 37 (.build [z0,z0] []),o 38 (.eqs false [.i .i64,.i .i64] (.t 36) (.t 37)),oM 3 38] (rg [oM 39 3,oM 4 39] (.seq (rg [oF 40 4 1,oL 41 40] (.blk 0 (rg [oE 43 .eql 41 7,oM 42 43] (cn 42 (.reg [oF 44 3 1,oL 45 44,oF 46 8 1,oW 47 2 46,oD 48 170 45 47,oM 4 48]) (rg [oE 50 .eql 41 6,oM 49 50] (cn 49 (.reg [oM 51 3,oM 52 51,vF 53 52 3 1,vL 54 52 53,vF 55 52 8 1,vW 56 52 2 55,vD 57 52 170 54 56,oP 58 52 57,oM 4 58]) .skip)))))) (rg [oM 59 4,oM 60 59,jF 61 60 4 1,jL 62 60 61,jF 63 60 5 1,jL 64 60 63,jF 65 60 6 1,jL 66 60 65,jF 67 60 7 1,jL 68 60 67,og 69 60 true (.call 273 [(.t 62),(.t 64),(.t 66),(.t 68)]),oQ 70 60 69,oM 2 70] .ret))))))⟩
theorem A7h:A6 Tryz.prog A1i=some A1j:=by kernel_rfl
theorem Aa {P:Program} {env:Env} {σ:St} {K:Kt} {r:List Op1} {d:Option Nat} {D:Bool} {f:Nat} {args:List GV} {b:Bool} (h:Ret P f args σ (.bool b) σ) (ht:b=true->Ae D P r K (upo env d (.bool true)) σ) (hf:b=false->Ae D P r K (upo env d (.bool false)) σ):Z2 D f args P r K env d σ:=by
 cases b with
 |true=>exact Ad h (ht rfl)
 |false=>exact Ad h (hf rfl)
def inB (n a b:Int):Bool:=decide (a<=n)&&decide (n<=b)
theorem Br {n a b:Int}:inB n a b=true↔a<=n/\n<=b:=by simp[inB]
theorem As (σ:St) (n a b:Int):Ret Tryz.prog A15 [gi n,gi a,gi b] σ (.bool (inB n a b)) σ:=by
 refine Am A7b (Z0z rfl) trivial ?_
 simp +contextual (disch:=omega) only[go_sem,A16,inB]
theorem Ax (σ:St) (n a b:Int):Ret Tryz.prog Wy [gi n,gi a,gi b] σ (.bool (inB n a b)) σ:=by
 refine Am A41 (Z0z rfl) trivial ?_
 simp +contextual (disch:=omega) only[go_sem,Wz,inB]
def bl (s:ByteArray):List UInt8:=s.data.toList
theorem Km (s:ByteArray):(bl s).length=s.size:=by
 unfold bl;rw[Array.length_toList];rfl
theorem A94 {s:ByteArray} {i:Nat} (hi:i<(bl s).length):idxG (.str s) (some i)=some (.int .u8 (((bl s)[i].toNat:Nat):Int)):=by
 have h2:i<s.size:=by rw[<- Km];exact hi
 have e:s[i]? =some (bl s)[i]:=by
  rw[getElem?_pos s i h2];rfl
 simp only[idxG,e,Zbh];rfl
theorem u8_lt (b:UInt8):b.toNat<256:=b.toNat_lt
def lowB (b:UInt8):Bool:=inB (b.toNat:Int) 97 122
def Cc (s:ByteArray):Bool:=(bl s).all lowB&&inB s.size 1 8
theorem Ep (σ:St) (s:ByteArray) (hs:s.size<=1099511627776):Ret Tryz.prog X0 [.str s] σ (.bool (Cc s)) σ:=by
 refine Am A42 (Z0z rfl) trivial ?_
 simp +contextual (disch:=omega) only[go_sem,X3]
 refine Cr (bl s).length 3 (fun i env τ=>env 0= .str s/\((bl s).take i).all lowB=true/\σ <+: τ) rfl ⟨rfl,rfl,Zac _⟩ ?_ ?_
 ·rintro i env τ hi e3 c0 ⟨e0,ha,hp⟩
  have hl:=Km s
  rw[hl] at c0
  have hf:=fun h=>Dk (p:=lowB) hi h
  have ht:=D6 hi ha
  simp +contextual (disch:=omega) only[go_sem,c0,e0,e3,A94 hi,hp]
  simp only[lowB,inB,Cc] at*
  generalize(((bl s)[i].toNat:Nat):Int)=b at*
  grind
 ·rintro env τ e3 c0 ⟨e0,ha,hp⟩
  rw[Zaf] at ha
  rw[Km] at c0 e3
  simp +contextual (disch:=omega) only[go_sem,c0,e0,e3]
  refine Ad (As τ _ _ _) ?_
  simp +contextual (disch:=omega) only[go_sem,Cc,ha,hp]
theorem Dl (σ:St) (s:ByteArray) (hs:s.size<=1099511627776):Ret Tryz.prog X5 [.str s] σ (.bool (Cc s)) σ:=by
 refine Am A43 (Z0z rfl) trivial ?_
 simp +contextual (disch:=omega) only[go_sem,X7]
 refine Cr (bl s).length 3 (fun i env τ=>env 0= .str s/\((bl s).take i).all lowB=true/\σ <+: τ) rfl ⟨rfl,rfl,Zac _⟩ ?_ ?_
 ·rintro i env τ hi e3 c0 ⟨e0,ha,hp⟩
  have hl:=Km s
  rw[hl] at c0
  have hf:=fun h=>Dk (p:=lowB) hi h
  have ht:=D6 hi ha
  have h8:=u8_lt (bl s)[i]
  simp +contextual (disch:=omega) only[go_sem,c0,e0,e3,A94 hi,Acx]
  refine Aa (Ax τ _ _ _) (fun h=> ?_) (fun h=> ?_)
  ·simp +contextual (disch:=omega) only[go_sem,e0,e3,hp]
   exact ht h
  ·simp +contextual (disch:=omega) only[go_sem,e0,e3,hp]
   simp[Cc,hf h]
 ·rintro env τ e3 c0 ⟨e0,ha,hp⟩
  rw[Zaf] at ha
  rw[Km] at c0 e3
  simp +contextual (disch:=omega) only[go_sem,c0,e0,e3]
  refine Ad (Ax τ _ _ _) ?_
  simp +contextual (disch:=omega) only[go_sem,Cc,ha,hp]
def seqB (n:Int):Bool:=inB n 0 1000
def okK (l:List Int):Bool:=l.all seqB&&decide (l.length=3)
theorem D8 {l:List Int} (h:okK l=true):l.length=3:=by
 simp only[okK,Zab,decide_eq_true_eq] at h
 exact h.2
theorem G8 (σ:St) (v:GV) (l:List Int) (h:RS pI.kd σ v l) (hl:l.length<=1099511627776):Ret Tryz.prog X8 [v] σ (.bool (okK l)) σ:=by
 refine Am A44 (Z0z rfl) trivial ?_
 simp +contextual (disch:=omega) only[go_sem,X9]
 refine Cr l.length 3 (fun i env τ=>env 0=v/\(l.take i).all seqB=true/\σ <+: τ) rfl ⟨rfl,rfl,Zac _⟩ ?_ ?_
 ·rintro i env τ hi e3 c0 ⟨e0,ha,hp⟩
  have hf:=fun h=>Dk (p:=seqB) hi h
  have ht:=D6 hi ha
  simp +contextual (disch:=omega) only[go_sem,c0,e0,e3,h.len,E6 (h.pre hp) hi]
  refine Aa (As τ _ _ _) (fun h=> ?_) (fun h=> ?_)
  ·simp +contextual (disch:=omega) only[go_sem,e0,e3,hp]
   exact ht h
  ·simp +contextual (disch:=omega) only[go_sem,e0,e3,hp]
   simp[okK,hf h]
 ·rintro env τ e3 c0 ⟨e0,ha,hp⟩
  rw[Zaf] at ha
  simp +contextual (disch:=omega) only[go_sem,c0,e0,e3,h.len,hp,okK,ha]
  exact A91
theorem G9 (σ:St) (v:GV) (l:List Int) (h:RS pI.kd σ v l) (hl:l.length<=1099511627776):Ret Tryz.prog Xa [v] σ (.bool (okK l)) σ:=by
 refine Am A45 (Z0z rfl) trivial ?_
 simp +contextual (disch:=omega) only[go_sem,Xb,h.len]
 refine Cr l.length 7 (fun i env τ=>env 0=v/\env 5=v/\env 6=gi l.length/\(l.take i).all seqB=true/\σ <+: τ) rfl ⟨rfl,rfl,rfl,rfl,Zac _⟩ ?_ ?_
 ·rintro i env τ hi e7 c0 ⟨e0,e5,e6,ha,hp⟩
  have hf:=fun h=>Dk (p:=seqB) hi h
  have ht:=D6 hi ha
  simp +contextual (disch:=omega) only[go_sem,c0,e0,e5,e6,e7,h.len,E6 (h.pre hp) hi]
  refine Aa (Ax τ _ _ _) (fun h=> ?_) (fun h=> ?_)
  ·simp +contextual (disch:=omega) only[go_sem,e0,e5,e6,e7,hp]
   exact ht h
  ·simp +contextual (disch:=omega) only[go_sem,e0,e5,e6,e7,hp]
   simp[okK,hf h]
 ·rintro env τ e7 c0 ⟨e0,e5,e6,ha,hp⟩
  rw[Zaf] at ha
  simp +contextual (disch:=omega) only[go_sem,c0,e0,e5,e6,e7,h.len,hp,okK,ha]
  exact A91
def F4 (d:Dot):Bool:=inB d.rep 0 2&&inB d.seq 1 1000
theorem Kn {d:Dot}:F4 d=true↔(0<=d.rep/\d.rep<=2)/\1<=d.seq/\d.seq<=1000:=by simp[F4,Br]
theorem Ee (σ:St) (d:Dot):Ret Tryz.prog A17 [.agg [gi d.rep,gi d.seq]] σ (.bool (F4 d)) σ:=by
 refine Am A7c (Z0z rfl) trivial ?_
 simp +contextual (disch:=omega) only[go_sem,A18]
 refine Aa (As _ _ _ _) (fun h=> ?_) (fun h=> ?_)
 ·simp +contextual (disch:=omega) only[go_sem]
  refine Ad (As _ _ _ _) ?_
  simp +contextual (disch:=omega) only[go_sem,F4,h]
 ·simp +contextual (disch:=omega) only[go_sem,F4,h]
theorem Mm (σ:St) (d:Dot):Ret Tryz.prog A19 [.agg [gi d.rep,gi d.seq]] σ (.bool (F4 d)) σ:=by
 refine Am A7d (Z0z rfl) trivial ?_
 simp +contextual (disch:=omega) only[go_sem,A1a]
 refine Aa (Ax _ _ _ _) (fun h=> ?_) (fun h=> ?_)
 ·simp +contextual (disch:=omega) only[go_sem]
  refine Ad (Ax _ _ _ _) ?_
  simp +contextual (disch:=omega) only[go_sem,F4,h]
 ·simp +contextual (disch:=omega) only[go_sem,F4,h]
def at0 (l:List Int) (r:Int):Int:=l.getD r.toNat 0
def Ap (k:List Int) (d:Dot):Bool:=okK k&&F4 d&&decide (d.seq<=at0 k d.rep)
theorem A95 {k:IntKind} {n:Int} (h:0<=n):Aw (some (.int k n))=some n.toNat:=by simp[Aw,h]
theorem A6d {σ:St} {v:GV} {l:List Int} {r:Int} (h:RS pI.kd σ v l) (hk:okK l=true) (h0:0<=r) (h2:r<=2):(Aw (some (gi r))=some r.toNat/\iadG 1 v (some r.toNat)=some (atz 1 v r.toNat))/\ldG false 1 σ (atz 1 v r.toNat)=some (gi (at0 l r)):=by
 have hl:=D8 hk
 have hi:r.toNat<l.length:=by omega
 have e:=E6 h hi
 refine⟨⟨A95 h0,e.1⟩,?_⟩
 rw[e.2,at0,Zbb,Zaz hi];rfl
theorem Co (σ:St) (v:GV) (k:List Int) (d:Dot) (h:RS pI.kd σ v k) (hl:k.length<=1099511627776):Ret Tryz.prog A1b [v,.agg [gi d.rep,gi d.seq]] σ (.bool (Ap k d)) σ:=by
 refine Am A7e (Z0z rfl) trivial ?_
 simp +contextual (disch:=omega) only[go_sem,A1c]
 have h1:=h.pre (pre1 σ (some (Blk.row 1 [gi d.rep,gi d.seq])))
 refine Aa (G8 _ v k h1 hl) (fun hk=> ?_) (fun hk=> ?_)
 ·simp +contextual (disch:=omega) only[go_sem]
  refine Aa (Ee _ d) (fun hd=> ?_) (fun hd=> ?_)
  ·have hd':=Kn.1 hd
   have hr:=A6d h1 hk hd'.1.1 hd'.1.2
   simp +contextual (disch:=omega) only[go_sem,hr,Ap,hk,hd]
  ·simp +contextual (disch:=omega) only[go_sem,Ap,hk,hd]
 ·simp +contextual (disch:=omega) only[go_sem,Ap,hk]
theorem Fv (σ:St) (v:GV) (k:List Int) (d:Dot) (h:RS pI.kd σ v k) (hl:k.length<=1099511627776):Ret Tryz.prog A1d [v,.agg [gi d.rep,gi d.seq]] σ (.bool (Ap k d)) σ:=by
 refine Am A7f (Z0z rfl) trivial ?_
 simp +contextual (disch:=omega) only[go_sem,A1e]
 have h1:=h.pre (pre1 σ (some (Blk.row 1 [gi d.rep,gi d.seq])))
 refine Aa (G9 _ v k h1 hl) (fun hk=> ?_) (fun hk=> ?_)
 ·simp +contextual (disch:=omega) only[go_sem]
  refine Aa (Mm _ d) (fun hd=> ?_) (fun hd=> ?_)
  ·have hd':=Kn.1 hd
   have hr:=A6d h1 hk hd'.1.1 hd'.1.2
   simp +contextual (disch:=omega) only[go_sem,hr,Ap,hk,hd]
  ·simp +contextual (disch:=omega) only[go_sem,Ap,hk,hd]
 ·simp +contextual (disch:=omega) only[go_sem,Ap,hk]
theorem Ho:∀(x y:List UInt8),Op.bytesLess x y=decide (x<y)
 |_,[]=>by simp[Op.bytesLess]
 |[],_::_=>by simp[Op.bytesLess]
 |a::x,b::y=>by
  rw[Op.bytesLess,Ho x y,Zaj]
  simp only[Zap,decide_eq_true_eq,Zab,beq_iff_eq,List.cons_lt_cons_iff]
def txLt (a b:ByteArray):Bool:=Op.bytesLess a.toList b.toList
theorem A7i {a b:ByteArray} (h:a.toList=b.toList):a=b:=by
 have:=Bn (a:=a) (b:=b)
 rw[h] at this
 simpa using this.symm
theorem Gn (a:ByteArray):txLt a a=false:=by
 rw[txLt,Ho];simp
theorem Lt {a b c:ByteArray} (h1:txLt a b=true) (h2:txLt b c=true):txLt a c=true:=by
 rw[txLt,Ho,decide_eq_true_eq] at*
 exact List.lt_trans h1 h2
theorem Ti {a b:ByteArray} (h1:txLt a b=true):txLt b a=false:=by
 cases h:txLt b a with
 |false=>rfl
 |true=>have:=Lt h1 h;rw[Gn] at this;cases this
theorem J6 {a b:ByteArray} (h1:txLt a b=false) (h2:txLt b a=false):a=b:=by
 rw[txLt,Ho,decide_eq_false_iff_not] at*
 exact A7i (List.le_antisymm (List.not_lt.1 h2) (List.not_lt.1 h1))
@[go_sem] theorem bin_slss {a b:ByteArray}:binG .lss (.str a) (.str b)=some (.bool (txLt a b)):=(rfl)
@[go_sem] theorem bin_sgtr {a b:ByteArray}:binG .gtr (.str a) (.str b)=some (.bool (txLt b a)):=by
 have:(!(txLt a b||decide (a=b)))=txLt b a:=by
  by_cases h:a=b
  ·subst h;simp[Gn]
  ·cases h1:txLt a b with
   |true=>rw[Ti h1];simp
   |false=>
    cases h2:txLt b a with
    |true=>simp[h]
    |false=>exact absurd (J6 h1 h2) h
 simp only[binG,strG,Bn]
 exact congrArg (fun b=>some (GV.bool b)) this
@[go_sem] theorem bin_sgeq {a b:ByteArray}:binG .geq (.str a) (.str b)=some (.bool (!txLt a b)):=(rfl)
@[go_sem] theorem bin_sleq {a b:ByteArray}:binG .leq (.str a) (.str b)=some (.bool (!txLt b a)):=by
 have:(txLt a b||decide (a=b))= !txLt b a:=by
  by_cases h:a=b
  ·subst h;simp[Gn]
  ·cases h1:txLt a b with
   |true=>rw[Ti h1];simp
   |false=>
    cases h2:txLt b a with
    |true=>simp[h]
    |false=>exact absurd (J6 h1 h2) h
 simp only[binG,strG,Bn]
 exact congrArg (fun b=>some (GV.bool b)) this
def cmpI (a b:Int):Int:=if a<b then -1 else if b<a then 1 else 0
def cmpS (a b:ByteArray):Int:=if txLt a b then -1 else if txLt b a then 1 else 0
def orI (a b:Int):Int:=if a=0 then b else a
def Tj (a b:Dot):Int:=orI (cmpI a.rep b.rep) (cmpI a.seq b.seq)
def Sw (a b:Tally):Int:=orI (cmpS a.obj b.obj) (cmpI a.rep b.rep)
def Bh (a b:Dot):Bool:=decide (a.rep<b.rep)||decide (a.rep=b.rep)&&decide (a.seq<b.seq)
def Az (a b:Tally):Bool:=txLt a.obj b.obj||decide (a.obj=b.obj)&&decide (a.rep<b.rep)
theorem A1k {a b:Dot}:decide (Tj a b<0)=Bh a b:=by
 unfold Tj Bh orI cmpI
 rw[Zaj]
 simp only[decide_eq_true_eq,Zap,Zab]
 repeat' split
 all_goals omega
theorem Ko {a b:Dot}:decide (0<=Tj a b)= !Bh a b:=by
 rw[<- A1k,Zaj];simp
theorem Ad0 {a b:Int}:cmpI a b=0↔a=b:=by
 unfold cmpI
 rcases Zbu a b with h|h|h
 ·rw[if_pos h];omega
 ·subst h;simp
 ·rw[if_neg (by omega),if_pos h];omega
theorem A6e {a b:Int}:cmpI a b<0↔a<b:=by
 unfold cmpI
 rcases Zbu a b with h|h|h
 ·rw[if_pos h];omega
 ·subst h;simp
 ·rw[if_neg (by omega),if_pos h];omega
theorem Aaq {a b:ByteArray}:cmpS a b<0↔txLt a b=true:=by
 unfold cmpS
 cases h1:txLt a b with
 |true=>simp
 |false=>
  cases h2:txLt b a with
  |true=>simp
  |false=>simp
theorem A96 {a b:ByteArray}:cmpS a b=0↔a=b:=by
 unfold cmpS
 cases h1:txLt a b with
 |true=>
  have h3:a≠b:=fun e=>by rw[e,Gn] at h1;cases h1
  simp[h3]
 |false=>
  cases h2:txLt b a with
  |true=>
   have h3:a≠b:=fun e=>by rw[e,Gn] at h2;cases h2
   simp[h3]
  |false=>simp[J6 h1 h2]
theorem A48 {a b:Tally}:decide (Sw a b<0)=Az a b:=by
 unfold Sw Az orI
 rw[Zaj]
 simp only[decide_eq_true_eq,Zap,Zab]
 by_cases h:a.obj=b.obj
 ·rw[if_pos (A96.2 h),A6e,h,Gn];simp
 ·rw[if_neg (fun e=>h (A96.1 e)),Aaq];simp[h]
theorem A49 {a b:Tally}:decide (0<=Sw a b)= !Az a b:=by
 rw[<- A48,Zaj];simp
theorem Kp (a:Dot):Bh a a=false:=by simp[Bh]
theorem J7 {a b c:Dot} (h1:Bh a b=true) (h2:Bh b c=true):Bh a c=true:=by
 simp only[Bh,Zap,Zab,decide_eq_true_eq] at *;omega
theorem A97 {a b:Dot} (h1:Bh a b=false) (h2:Bh b a=false):a=b:=by
 rw[Dot.eq_iff]
 simp only[Bh,Zay,Zat,decide_eq_false_iff_not] at *;omega
def allR (n:Nat) (p:Nat->Bool):Bool:=(List.range n).all p
theorem C4 {n:Nat} {p:Nat->Bool}:allR n p=true↔∀ i,i<n->p i=true:=by simp[allR]
theorem Fw {n i:Nat} {p:Nat->Bool} (hi:i<n) (h:p i=false):allR n p=false:=by
 cases e:allR n p with
 |false=>rfl
 |true=>rw[C4.1 e i hi] at h;cases h
theorem Dt {n:Nat} {p:Nat->Bool} (h:∀ i,i<n->p i=true):allR n p=true:=C4.2 h
theorem Bo {i:Nat} {p:Nat->Bool} (h:∀ j,j<i->p j=true) (hi:p i=true):∀ j,j<i+1->p j=true:=fun j hj=>by
 rcases Za4 j i with h1|h1
 ·exact h j h1
 ·have:j=i:=by omega
  subst this;exact hi
def onI {α:Type} (l:List α) (i:Nat) (p:α->Bool):Bool:=match l[i]? with
 |some x=>p x
 |none=>true
theorem Bl {α:Type} {l:List α} {i:Nat} {p:α->Bool} (hi:i<l.length):onI l i p=p l[i]:=by
 simp only[onI,Zaz hi]
def upI {α:Type} (lt:α->α->Bool) (l:List α):Nat->Bool
 |0=>true
 |i+1=>onI l i fun a=>onI l (i+1) fun b=>lt a b
theorem Ij {α:Type} {lt:α->α->Bool} {l:List α} {i:Nat} (h0:i≠0) (hi:i<l.length) (hj:i - 1<l.length):upI lt l i=lt l[i - 1] l[i]:=by
 cases i with
 |zero=>exact absurd rfl h0
 |succ i=>
  simp only[upI,Zbq]
  rw[Bl (by omega),Bl hi]
theorem Z7 {α:Type} {lt:α->α->Bool} (ht:∀ a b c,lt a b=true->lt b c=true->lt a c=true) {l:List α} (h:∀ i,i<l.length->upI lt l i=true):l.Pairwise fun a b=>lt a b=true:=by
 have key:∀(j i:Nat) (hi:i<l.length) (hj:j<l.length),i<j->lt l[i] l[j]=true:=by
  intro j
  induction j with
  |zero=>intro i hi hj h;omega
  |succ j ih=>
   intro i hi hj hij
   have h1:=h (j+1) hj
   rw[Ij (by omega) hj (by omega)] at h1
   simp only[Zbq] at h1
   rcases Za4 i j with h2|h2
   ·exact ht _ _ _ (ih i hi (by omega) h2) h1
   ·have:i=j:=by omega
    subst this;exact h1
 rw[Zbd]
 exact fun i j hi hj hij=>key j i hi hj hij
def tal1 (t:Tally):Bool:=Cc t.obj&&(inB t.rep 0 2&&inB t.sum 0 999999)
def talP (l:List Tally) (i:Nat):Bool:=onI l i tal1&&upI Az l i
def Ga (l:List Tally):Bool:=allR l.length (talP l)&&decide (l.length<=120)
def liv1 (x:Live):Bool:=Cc x.obj&&(Cc x.key&&(inB x.val 0 999999&&(x.map||decide (x.val=0))))
def E7 (a b:Live):Bool:=Bh a.dot b.dot
def livP (l:List Live) (k:List Int) (i:Nat):Bool:=(onI l i fun x=>Ap k x.dot)&&((onI l i liv1)&&upI E7 l i)
def Ik (l:List Live) (k:List Int):Bool:=allR l.length (livP l k)&&decide (l.length<=120)
def A4a (l:List Live) (i:Nat):Bool:=(onI l i fun x=>F4 x.dot)&&((onI l i liv1)&&upI E7 l i)
def A1l (l:List Live):Bool:=allR l.length (A4a l)&&decide (l.length<=120)
def cel1 (x:Cell):Bool:=Cc x.obj&&(inB x.val 0 999999&&inB x.time 1 10000)
def F5 (a b:Cell):Bool:=Bh a.dot b.dot
def celP (l:List Cell) (k:List Int) (i:Nat):Bool:=(onI l i fun x=>Ap k x.dot)&&((onI l i cel1)&&upI F5 l i)
def Hb (l:List Cell) (k:List Int):Bool:=allR l.length (celP l k)&&decide (l.length<=120)
def refD (x:Cell):Bool:=decide (x.ref=⟨0,0⟩)||F4 x.ref
def A4b (l:List Cell) (i:Nat):Bool:=(onI l i fun x=>F4 x.dot)&&((onI l i cel1)&&((onI l i refD)&&upI F5 l i))
def A1m (l:List Cell):Bool:=allR l.length (A4b l)&&decide (l.length<=120)
def Dw (l:List Cell) (d:Dot):Option Nat:=l.findIdx? fun c=>decide (c.dot=d)
def ref1 (l:List Cell) (c:Cell):Bool:=decide (c.ref=⟨0,0⟩)||match Dw l c.ref with
 |none=>false
 |some k=>onI l k fun y=>decide (y.obj=c.obj)&&decide (y.time<c.time)
def Xg (l:List Cell):Bool:=l.all (ref1 l)
def B6 (s:State):Bool:=okK s.know&&(Ga s.tallies&&(Ik s.lives s.know&&(Hb s.cells s.know&&Xg s.cells)))
def livK (k:List Int) (x:Live):Bool:=Ap k x.dot
def celK (l:List Cell) (k:List Int) (x:Cell):Bool:=Ap k x.dot&&ref1 l x
def Ec (s:State):Bool:=okK s.know&&(Ga s.tallies&&(A1l s.lives&&(A1m s.cells&&(s.lives.all (livK s.know)&&s.cells.all (celK s.cells s.know)))))
theorem Hc {k:List Int} {d:Dot} (h:Ap k d=true):F4 d=true:=by
 simp only[Ap,Zab] at h;exact h.1.2
theorem Cp {l:List Cell} {d:Dot} {k:Nat} (h:Dw l d=some k):∃ hk:k<l.length,l[k].dot=d:=by
 obtain⟨hk,h1,_⟩:=Zau.1 h
 exact⟨hk,by simpa using h1⟩
theorem Ad1 {α:Type} {l:List α} {p:α->Bool}:l.all p=allR l.length fun i=>onI l i p:=by
 rw[Zaj,C4,Zby]
 constructor
 ·intro h i hi;rw[Bl hi];exact h _ (Zag hi)
 ·intro h x hx
  obtain⟨i,hi,rfl⟩:=Zaq hx
  have:=h i hi
  rwa [Bl hi] at this
theorem A4c (s:State):Ec s=B6 s:=by
 unfold Ec B6
 cases h1:okK s.know with
 |false=>rfl
 |true=>
  cases h2:Ga s.tallies with
  |false=>rfl
  |true=>
   simp only[Za1]
   rw[Zaj]
   simp only[Zab,A1l,Ik,A1m,Hb,Xg,Ad1,C4,decide_eq_true_eq,A4a,livP,A4b,celP]
   constructor
   ·rintro⟨⟨hl,hl2⟩,⟨hc,hc2⟩,hlk,hck⟩
    refine⟨⟨fun i hi=>⟨hlk i hi,(hl i hi).2⟩,hl2⟩,⟨fun i hi=> ?_,hc2⟩,fun i hi=> ?_⟩
    ·have:=hck i hi
     have h4:=hc i hi
     rw[Bl hi,celK] at this
     simp only[Zab] at this
     exact⟨by rw[Bl hi];exact this.1,h4.2.1,h4.2.2.2⟩
    ·have:=hck i hi
     rw[Bl hi] at this ⊢
     rw[celK] at this
     simp only[Zab] at this
     exact this.2
   ·rintro⟨⟨hl,hl2⟩,⟨hc,hc2⟩,hr⟩
    refine⟨⟨fun i hi=>⟨?_,(hl i hi).2⟩,hl2⟩,⟨fun i hi=>⟨?_,(hc i hi).2.1,?_,(hc i hi).2.2⟩,hc2⟩,fun i hi=>(hl i hi).1,fun i hi=> ?_⟩
    ·have:=(hl i hi).1
     rw[Bl hi] at this ⊢
     exact Hc this
    ·have:=(hc i hi).1
     rw[Bl hi] at this ⊢
     exact Hc this
    ·have:=hr i hi
     rw[Bl hi] at this ⊢
     unfold ref1 at this
     unfold refD
     simp only[Zap] at this ⊢
     refine this.imp id fun h=> ?_
     split at h
     ·cases h
     ·rename_i k hk
      obtain⟨hkl,e⟩:=Cp hk
      have:=(hc k hkl).1
      rw[Bl hkl,e] at this
      exact Hc this
    ·have h5:=(hc i hi).1
     have h6:=hr i hi
     rw[Bl hi] at h5 h6 ⊢
     rw[celK,h5,h6];rfl
theorem A4d {l:List Cell} {k:List Int} (h:Hb l k=true):l.Pairwise fun a b=>Bh a.dot b.dot=true:=by
 simp only[Hb,Zab,C4,celP] at h
 exact Z7 (lt:=F5) (fun a b c h1 h2=>J7 h1 h2) fun i hi=>(h.1 i hi).2.2
theorem Aar {l:List Live} {k:List Int} (h:Ik l k=true):l.Pairwise fun a b=>Bh a.dot b.dot=true:=by
 simp only[Ik,Zab,C4,livP] at h
 exact Z7 (lt:=E7) (fun a b c h1 h2=>J7 h1 h2) fun i hi=>(h.1 i hi).2.2
def plc:Nat->List Cell->List (Dot×Int)
 |_,[]=>[]
 |n,c::l=>(c.dot,(n:Int))::plc (n+1) l
theorem A6f (c:Cell):∀(n:Nat) (l:List Cell),plc n (l++[c])=plc n l++[(c.dot,((n+l.length:Nat):Int))]
 |n,[]=>rfl
 |n,x::l=>by
  simp only[Zbz,plc,A6f c (n+1) l,Zas]
  rw[show n+1+l.length=n+(l.length+1) by omega]
theorem Tk (d:Dot):∀(n:Nat) (l:List Cell),K6 (plc n l) d=(Dw l d).map fun k=>((n+k:Nat):Int)
 |n,[]=>rfl
 |n,x::l=>by
  have ih:=Tk d (n+1) l
  unfold Dw at*
  rw[List.findIdx?_cons]
  by_cases h:x.dot=d
  ·subst h;simp[plc,K6]
  ·have h':d≠x.dot:=fun e=>h e.symm
   have e:K6 (plc n (x::l)) d=K6 (plc (n+1) l) d:=by simp[plc,K6,h']
   rw[e,ih]
   simp only[h,decide_false,Za3,if_false,Option.map_map]
   congr 1
   funext k
   simp only[Function.comp]
   omega
theorem Ad2 {l:List Cell} (h:l.Pairwise fun a b=>Bh a.dot b.dot=true) {i:Nat} (hi:i<l.length):K6 (plc 0 (l.take i)) l[i].dot=none:=by
 rw[Tk]
 have:Dw (l.take i) l[i].dot=none:=by
  unfold Dw
  rw[Zax]
  intro c hc
  obtain⟨j,hj,rfl⟩:=Zaq hc
  rw[Zbe] at hj
  rw[List.getElem_take]
  have:=Zbd.1 h j i (by omega) hi (by omega)
  simp only[decide_eq_false_iff_not]
  intro e
  rw[e,Kp] at this;cases this
 rw[this];rfl
theorem Aas {l:List Cell} {i:Nat} (hi:i<l.length):plc 0 (l.take (i+1))=plc 0 (l.take i)++[(l[i].dot,(i:Int))]:=by
 rw[Av hi,A6f,Zbe,show 0+min i l.length=i by omega]
def Eq (l:List Cell) (d:Dot):Int:=match Dw l d with
 |some k=>k
 |none=> -1
theorem A4e {l:List Cell} {d:Dot} {i:Nat} (hi:i<l.length) (h:∀ j (hj:j<i),(l[j]'(by omega)).dot≠d) (he:l[i].dot=d):Dw l d=some i:=by
 unfold Dw
 rw[Zau]
 exact⟨hi,by simpa using he,fun j hj=>by simpa using h j hj⟩
theorem A4f {l:List Cell} {d:Dot} (h:∀ j (hj:j<l.length),l[j].dot≠d):Dw l d=none:=by
 unfold Dw
 rw[Zax]
 intro c hc
 obtain⟨j,hj,rfl⟩:=Zaq hc
 simpa using h j hj
def crs (c v:GV) (n:Nat):Thg:=⟨fun σ fp=>∃ g i h,c= .ptr g 0/\fp=[g]/\i<=n/\bk σ g=some (.row 1 [v,gi (i:Nat),gi h]),fun⟨g,i,h,h1,h2,h3,h4⟩ hf=>⟨g,i,h,h1,h2,h3,by rw[hf g (by rw[h2];exact Zaa)];exact h4⟩⟩
theorem Abp {n z g off:Nat} {σ:St} {cs:List GV} {x:GV} (hB:bk σ g=some (.row z cs)) (h1:off+n<=cs.length) (h2:0<n) (h3:x.cells.length=n):stG n σ (.ptr g off) x=some (.tup [],σ.set g (some (.row z (Al cs off x.cells)))):=by
 simp only[stG,Ar.1 hB]
 rw[if_pos ⟨h1,h2,h3⟩]
theorem A98 {σ:St} {g z:Nat} {cs cs':List GV} (hB:bk σ g=some (.row z cs)):bk (σ.set g (some (.row z cs'))) g=some (.row z cs'):=Ar.2 (by rw[Zar (A7a hB)])
theorem Abq {σ:St} {g z:Nat} {cs:List GV} (hB:bk σ g=some (.row z cs)):rdB σ g=some cs:=by
 unfold rdB;rw[Ar.1 hB];rfl
theorem A4g {σ:St} {v:GV} {l:List Int} (h:RS pB.kd σ v l) {i:Nat} (hi:i<l.length):iadG 1 v (some i)=some (atz 1 v i)/\ldG false 1 σ (atz 1 v i)=some (.int .u8 l[i]):=⟨RdN.iad h hi,RdN.ld h hi (by decide)⟩
theorem Abr (b:Int) (hb:0<=b):∃ f:Int->Int,∀ a,binG .shr (.int .i64 a) (.int .u64 b)=some (.int .i64 (f a)):=⟨fun a=>a.fdiv (2 ^ min b.toNat IntKind.i64.bits),fun a=>by simp only[binG,F1];rw[if_neg (by omega)]⟩
theorem xor_ex:∃ f:Int->Int->Int,∀ a b,binG .xor (.int .i64 a) (.int .i64 b)=some (.int .i64 (f a b)):=⟨fun a b=>IntKind.i64.wrap (BitVec.ofInt IntKind.i64.bits a ^^^ BitVec.ofInt IntKind.i64.bits b).toNat,fun a b=>rfl⟩
theorem Abs (m:Nat) (hm:m<2 ^ 62):∃ f:Int->Int,(∀ a,binG .and (.int .i64 a) (.int .i64 (m:Nat))=some (.int .i64 (f a)))/\∀ a,0≤f a/\f a<=m:=by
 refine⟨fun a=>IntKind.i64.wrap (BitVec.ofInt IntKind.i64.bits a &&& BitVec.ofInt IntKind.i64.bits (m:Nat)).toNat,fun a=>rfl,fun a=> ?_⟩
 have h1:(BitVec.ofInt IntKind.i64.bits a &&& BitVec.ofInt IntKind.i64.bits (m:Nat)).toNat<=m:=by
  rw[BitVec.toNat_and]
  refine Za5 Nat.and_le_right ?_
  rw[BitVec.toNat_ofInt]
  show((m:Int) % ((2 ^ 64:Nat):Int)).toNat<=m
  omega
 show 0<=IntKind.i64.wrap _/\IntKind.i64.wrap _<=_
 rw[Eb (by omega) (by omega)]
 omega
@[go_sem] theorem bit_tup2 {l:List GV}:(GV.tup l).bit=none:=(rfl)
theorem Tl {P:Program} {D:Bool} {os:List Op1}:∀ {K:Env->St->Prop} {env:Env} {σ:St},Ae D P os K env σ->Ae D P os (fun env' σ'=>K env' σ'/\σ.length<=σ'.length) env σ:=by
 induction os with
 |nil=>intro K env σ h;exact⟨h,Za0 _⟩
 |cons o r ih=>
  intro K env σ h
  simp only[Ae] at h ⊢
  split at h
  ·rename_i hw
   rw[if_pos hw]
   obtain⟨v,σ',hs,hp,hk⟩:=h
   refine⟨v,σ',hs,hp,Bu (ih hk) fun env' σ1 hq=>⟨hq.1,?_⟩⟩
   have:=Sr hs
   omega
  ·rename_i hw
   rw[if_neg hw]
   exact ih h
theorem vc_len {P:Program} {d:Cd}:∀ {Q:Ex->Env->St->Prop} {env:Env} {σ:St},vc P d Q env σ->vc P d (fun e env' σ'=>Q e env' σ'/\σ.length<=σ'.length) env σ:=by
 induction d with
 |skip=>intro Q env σ h;exact⟨h,Za0 _⟩
 |reg ops=>intro Q env σ h;exact Tl h
 |drw xs ys=>
  intro Q env σ h
  refine Bu (Tl h) fun env1 σ1 h1=>Bu (Tl h1.1) fun env2 σ2 h2=>⟨h2.1,?_⟩
  have:=h1.2
  have:=h2.2
  omega
 |seq a b iha ihb=>
  intro Q env σ h
  refine Aq (d:=a) (iha h) fun e env1 σ1 he=> ?_
  cases e with
  |nxt=>exact Aq (ihb he.1) fun e env2 σ2 h2=>⟨h2.1,Za5 he.2 h2.2⟩
  |ext j=>exact he
  |ret=>exact he
 |cnd c a b iha ihb=>
  intro Q env σ h
  obtain⟨t,ht,h1,h2⟩:=h
  exact⟨t,ht,fun e=>iha (h1 e),fun e=>ihb (h2 e)⟩
 |blk id a ih=>
  intro Q env σ h
  refine Aq (d:=a) (ih h) fun e env1 σ1 he=> ?_
  cases e with
  |nxt=>exact he
  |ext j=>
   obtain⟨h1,h2⟩:=he
   simp only at h1 ⊢
   split at h1
   ·rename_i hj;rw[if_pos hj];exact⟨h1,h2⟩
   ·rename_i hj;rw[if_neg hj];exact⟨h1,h2⟩
  |ret=>exact he
 |lop a ih=>
  intro Q env σ h
  obtain⟨I,μ,hI,hs⟩:=h
  refine⟨fun env1 σ1=>I env1 σ1/\σ.length<=σ1.length,μ,⟨hI,Za0 _⟩,fun env1 σ1 hi=>Aq (ih (hs env1 σ1 hi.1)) fun e env2 σ2 he=> ?_⟩
  cases e with
  |nxt=>exact⟨⟨he.1.1,Za5 hi.2 he.2⟩,he.1.2⟩
  |ext j=>exact⟨he.1,Za5 hi.2 he.2⟩
  |ret=>exact⟨he.1,Za5 hi.2 he.2⟩
 |ext id=>intro Q env σ h;exact⟨h,Za0 _⟩
 |ret=>intro Q env σ h;exact⟨h,Za0 _⟩
theorem E8 {P:Program} {f:Nat} {F:Fn1} {args:List GV} {σ:St} {Post:GV->St->Prop} (hF:A6 P f=some F) (hl:args.length<=F.n)
  (h:vc P F.c (fun e env τ=>Tb e=true/\∃ r,resG env τ F.rs=some r/\Post r τ) (env0 args) σ):∃ r τ,Ret P f args σ r τ/\Post r τ:=
 Ay hF hl (Aq (vc_len h) fun e env τ he=>⟨he.1.1,by obtain⟨⟨_,r,h1,h2⟩,h3⟩:=he;exact⟨r,h1,h3,h2⟩⟩)
theorem Ret.le {P:Program} {f:Nat} {args:List GV} {σ τ:St} {r:GV} (h:Ret P f args σ r τ):σ.length<=τ.length:=h.2.1
theorem Hp.crs {σ τ:St} {rs:List Thg} (H:Hp σ τ rs) {k:Nat} {c v:GV} {n:Nat} (hk:rs[k]? =some (crs c v n)):∃(g i:Nat) (h:Int),c= .ptr g 0/\i<=n/\bk τ g=some (.row 1 [v,gi i,gi h])/\∀(i':Nat) (h':Int),i'≤n->Hp σ (τ.set g (some (.row 1 [v,gi i',gi h']))) rs:=by
 obtain⟨a,⟨g,i,h,rfl,rfl,hi,hB⟩,hnd,hbd,ht⟩:=(H.pick k hk).turn
 refine⟨g,i,h,rfl,hi,hB,fun i' h' hi'=> ?_⟩
 have:=Hp.unpick (i:=k) (ht (τ':=τ.set g (some (.row 1 [v,gi i',gi h']))) (r':=Sy.crs (.ptr g 0) v n) (a':=[g]) ⟨by simp,fun g' h=>.inl h,by simp,fun g' h h'=>E5 fun e=>h' (by rw[e];exact Zaa)⟩ ⟨g,i',h',rfl,rfl,hi',A98 hB⟩) (Zam.1 hk).1
 obtain⟨h1,h2⟩:=Zam.1 hk
 rw[<- h2,Zbi] at this
 exact this
theorem Hp.ptCur {σ τ:St} {rs:List Thg} {g n:Nat} {v:GV} {h:Int} (H:Hp σ τ (Sy.pt 1 g [v,gi 0,gi h]::rs)):Hp σ τ (Sy.crs (.ptr g 0) v n::rs):=
 H.conv fun fp ⟨h1,h2⟩=>⟨g,0,h,rfl,h1,Nat.zero_le _,h2⟩
abbrev Kq:Nat:=230
def Kr:Fn1:=⟨6,[.t 2],(rg [oV 2 kf] (rg [oM 3 0,oM 4 0,oB 5 .neq 3 4,oM 2 5] .ret))⟩
theorem S7:A6 Tryz.prog Kq=some Kr:=by kernel_rfl
abbrev Hq:Nat:=392
def Ht:Fn1:=⟨6,[.t 2],(rg [oV 2 kf] (rg [oM 3 0,oM 4 0,oB 5 .neq 3 4,oM 2 5] .ret))⟩
theorem Mn:A6 Tryz.prog Hq=some Ht:=by kernel_rfl
abbrev Il:Nat:=106
def Im:Fn1:=⟨20,[.t 4],(rg [oV 4 (ki 0)] (rg [oM 7 0,oC 8 230 7,oM 5 8] (rg [oM 9 1,oC 10 230 9,oM 6 10] (.seq (rg [oM 11 5] (cn 11 (.seq (rg [oM 12 6] (cn 12 (rg [oV 4 (ki 0)] .ret) .skip)) (rg [o 4 (.mov (ki (-1)))] .ret)) .skip)) (.seq (rg [oM 13 6] (cn 13 (rg [oV 4 (ki 1)] .ret) .skip)) (.seq (rg [oM 14 0,oM 15 1,oB 16 .lss 14 15] (cn 16 (rg [o 4 (.mov (ki (-1)))] .ret) .skip)) (.seq (rg [oM 17 0,oM 18 1,oB 19 .gtr 17 18] (cn 19 (rg [oV 4 (ki 1)] .ret) .skip)) (rg [oV 4 (ki 0)] .ret))))))))⟩
theorem Nr:A6 Tryz.prog Il=some Im:=by kernel_rfl
abbrev Ge:Nat:=376
def Gf:Fn1:=⟨20,[.t 4],(rg [oV 4 (ki 0)] (rg [oM 7 0,oC 8 392 7,oM 5 8] (rg [oM 9 1,oC 10 392 9,oM 6 10] (.seq (rg [oM 11 5] (cn 11 (.seq (rg [oM 12 6] (cn 12 (rg [oV 4 (ki 0)] .ret) .skip)) (rg [o 4 (.mov (ki (-1)))] .ret)) .skip)) (.seq (rg [oM 13 6] (cn 13 (rg [oV 4 (ki 1)] .ret) .skip)) (.seq (rg [oM 14 0,oM 15 1,oB 16 .lss 14 15] (cn 16 (rg [o 4 (.mov (ki (-1)))] .ret) .skip)) (.seq (rg [oM 17 0,oM 18 1,oB 19 .gtr 17 18] (cn 19 (rg [oV 4 (ki 1)] .ret) .skip)) (rg [oV 4 (ki 0)] .ret))))))))⟩
theorem Ks:A6 Tryz.prog Ge=some Gf:=by kernel_rfl
abbrev Ql:Nat:=105
def Qm:Fn1:=⟨18,[.t 2],(rg [oV 2 (ki 0)] (rg [oV 3 (ki 0)] (.seq (rg [oM 6 0,oN 7 6,oV 8 (ki 0)] (.blk 0 (.lop (rg [oB 9 .lss 8 7] (.seq (cn 9 .skip (.ext 0)) (.seq (.blk 1 (rg [oI 10 1 6 8,oL 11 10,oM 5 11] (rg [oM 12 5,oM 13 3,oB 14 .neq 12 13] (cn 14 (rg [oM 15 5,oM 2 15] .ret) .skip)))) (.reg [oZ 16 8 1,oM 8 16]))))))) (rg [oM 17 3,oM 2 17] .ret))))⟩
theorem Z8:A6 Tryz.prog Ql=some Qm:=by kernel_rfl
abbrev Ku:Nat:=306
def Kv:Fn1:=⟨17,[.t 4],(rg [oX 2 0,oX 3 1,oV 4 (ki 0)] (dw [oF 5 0 2,oL 6 5,oF 7 0 3,oL 8 7,oD 9 106 6 8,oF 10 1 2,oL 11 10,oF 12 1 3,oL 13 12] [oD 14 106 11 13,o 15 (.lit 1 2 [z0,z0] [(0,1,(.t 9)),(1,1,(.t 14))]),oC 16 105 15,oM 4 16] .ret))⟩
theorem S8:A6 Tryz.prog Ku=some Kv:=by kernel_rfl
abbrev Hu:Nat:=324
def Hv:Fn1:=⟨17,[.t 4],(rg [oX 2 0,oX 3 1,oV 4 (ki 0)] (dw [oF 5 0 2,oL 6 5,oF 7 0 3,oL 8 7,oD 9 376 6 8,oF 10 1 2,oL 11 10,oF 12 1 3,oL 13 12] [oD 14 106 11 13,o 15 (.lit 1 2 [z0,z0] [(0,1,(.t 9)),(1,1,(.t 14))]),oC 16 105 15,oM 4 16] .ret))⟩
theorem Mo:A6 Tryz.prog Hu=some Hv:=by kernel_rfl
abbrev Ns:Nat:=362
def Nt:Fn1:=⟨24,[.t 4],(rg [oX 2 0,oX 3 1,oV 4 kf] (rg [oF 5 0 2,oL 6 5,oF 7 0 3,oL 8 7,oB 9 .lss 6 8,oM 10 9,vF 11 10 0 2,vL 12 10 11,vF 13 10 0 3,vL 14 10 13,vB 15 10 .eql 12 14,vM 16 10 15,jF 17 16 1 2,jL 18 16 17,jF 19 16 1 3,jL 20 16 19,jB 21 16 .lss 18 20,og 22 10 false (.pick (.t 16) (.t 21) kf),oP 23 10 22,oM 4 23] .ret))⟩
theorem Wc:A6 Tryz.prog Ns=some Nt:=by kernel_rfl
theorem Fx (σ:St) (a:Int):Ret Tryz.prog Kq [gi a] σ (.bool false) σ:=by
 refine Am S7 (Z0z rfl) trivial ?_
 simp +contextual (disch:=omega) only[go_sem,Kr,bne_self_eq_false]
theorem Gg (σ:St) (a:ByteArray):Ret Tryz.prog Hq [.str a] σ (.bool false) σ:=by
 refine Am Mn (Z0z rfl) trivial ?_
 simp +contextual (disch:=omega) only[go_sem,Ht,decide_true,Bool.not_true]
theorem D9 (σ:St) (a b:Int):Ret Tryz.prog Il [gi a,gi b] σ (gi (cmpI a b)) σ:=by
 refine Am Nr (Z0z rfl) trivial ?_
 simp +contextual (disch:=omega) only[go_sem,Im]
 refine Ad (Fx _ _) ?_
 simp +contextual (disch:=omega) only[go_sem]
 refine Ad (Fx _ _) ?_
 simp +contextual (disch:=omega) only[go_sem]
 unfold cmpI
 grind
theorem K8 (σ:St) (a b:ByteArray):Ret Tryz.prog Ge [.str a,.str b] σ (gi (cmpS a b)) σ:=by
 refine Am Ks (Z0z rfl) trivial ?_
 simp +contextual (disch:=omega) only[go_sem,Gf]
 refine Ad (Gg _ _) ?_
 simp +contextual (disch:=omega) only[go_sem]
 refine Ad (Gg _ _) ?_
 simp +contextual (disch:=omega) only[go_sem]
 unfold cmpS
 grind
def orL:List Int->Int
 |[]=>0
 |x::l=>if x=0 then orL l else x
theorem I9 (σ:St) (v:GV) (l:List Int) (h:RS pI.kd σ v l) (hl:l.length<=1099511627776):Ret Tryz.prog Ql [v] σ (gi (orL l)) σ:=by
 refine Am Z8 (Z0z rfl) trivial ?_
 simp +contextual (disch:=omega) only[go_sem,Qm,h.len]
 refine Cr l.length 8 (fun i env τ=>env 3=gi 0/\env 6=v/\env 7=gi l.length/\orL (l.drop i)=orL l/\σ <+: τ) rfl ⟨rfl,rfl,rfl,rfl,Zac _⟩ ?_ ?_
 ·rintro i env τ hi e8 c0 ⟨e3,e6,e7,hd,hp⟩
  rw[Zak hi,orL] at hd
  simp +contextual (disch:=omega) only[go_sem,c0,e3,e6,e7,e8,E6 (h.pre hp) hi,hp]
  grind
 ·rintro env τ e8 c0 ⟨e3,e6,e7,hd,hp⟩
  rw[Zbf] at hd
  simp +contextual (disch:=omega) only[go_sem,c0,e3,e6,e7,e8,hp]
  rw[<- hd];rfl
theorem A4h (a b:Int):orL [a,b]=orI a b:=by
 unfold orI
 simp only[orL]
 split
 ·split
  ·omega
  ·rfl
 ·rfl
theorem Cv (σ:St) (a b:Dot):Ret Tryz.prog Ku [.agg [gi a.rep,gi a.seq],.agg [gi b.rep,gi b.seq]] σ (gi (Tj a b)) σ:=by
 refine Am S8 (Z0z rfl) trivial ?_
 simp +contextual (disch:=omega) only[go_sem,Kv]
 refine Ad (D9 _ _ _) ?_
 simp +contextual (disch:=omega) only[go_sem]
 refine Ad (D9 _ _ _) ?_
 simp +contextual (disch:=omega) only[go_sem]
 refine Ad (I9 _ _ [cmpI a.rep b.rep,cmpI a.seq b.seq] (A92 (p:=pI) _ _ rfl rfl rfl) (by simp)) ?_
 simp +contextual (disch:=omega) only[go_sem,A4h]
 rfl
theorem Lz (σ:St) (a b:Tally):Ret Tryz.prog Hu [.agg [.str a.obj,gi a.rep,gi a.sum],.agg [.str b.obj,gi b.rep,gi b.sum]] σ (gi (Sw a b)) σ:=by
 refine Am Mo (Z0z rfl) trivial ?_
 simp +contextual (disch:=omega) only[go_sem,Hv]
 refine Ad (K8 _ _ _) ?_
 simp +contextual (disch:=omega) only[go_sem]
 refine Ad (D9 _ _ _) ?_
 simp +contextual (disch:=omega) only[go_sem]
 refine Ad (I9 _ _ [cmpS a.obj b.obj,cmpI a.rep b.rep] (A92 (p:=pI) _ _ rfl rfl rfl) (by simp)) ?_
 simp +contextual (disch:=omega) only[go_sem,A4h]
 rfl
theorem Ca (σ:St) (a b:Dot):Ret Tryz.prog Ns [.agg [gi a.rep,gi a.seq],.agg [gi b.rep,gi b.seq]] σ (.bool (Bh a b)) σ:=by
 refine Am Wc (Z0z rfl) trivial ?_
 simp +contextual (disch:=omega) only[go_sem,Nt]
 unfold Bh
 grind
abbrev M5:Nat:=290
def M6:Fn1:=⟨69,[.t 2],(rg [oV 2 kf] (.seq (rg [oV 3 (ki 0)] (.blk 0 (.lop (.seq (rg [oM 5 3,oM 6 0,oN 7 6,oB 8 .lss 5 7] (cn 8 .skip (.ext 0))) (.seq (.blk 1 (rg [oM 11 0,oM 12 3,oI 13 3 11 12,oW 14 3 13,o 4 (.new [s0,z0,z0]),oS 3 4 14] (.seq (rg [oF 15 0 4,oL 16 15,oC 17 348 16,oU 18 17,oM 19 18,vF 20 19 1 4,vL 21 19 20,og 22 19 false (.call 122 [(.t 21),(ki 0),(ki 2)]),vU 23 19 22,oP 24 19 23,oM 25 24,vF 26 25 2 4,vL 27 25 26,og 28 25 false (.call 122 [(.t 27),(ki 0),(ki 999999)]),vU 29 25 28,oP 30 25 29] (cn 30 (rg [oV 2 kf] .ret) .skip)) (dw [oM 31 3,oE 32 .gtr 31 0,oM 33 32,jM 34 33 0,jM 35 33 3,jE 36 33 .sub 35 1,jI 37 33 3 34 36,jF 38 33 0 37,jL 39 33 38,jF 40 33 0 4,jL 41 33 40,jB 42 33 .gtr 39 41,jM 43 33 42,vM 44 43 0,vM 45 43 3,vE 46 43 .sub 45 1,vI 47 43 3 44 46,vF 48 43 0 47,vL 49 43 48,vF 50 43 0 4,vL 51 43 50,vB 52 43 .eql 49 51,vM 53 43 52,jM 54 53 0,jM 55 53 3,jE 56 53 .sub 55 1,jI 57 53 3 54 56,jF 58 53 1 57,jL 59 53 58,jF 60 53 1 4,jL 61 53 60] [jB 62 53 .geq 59 61,og 63 43 false (.pick (.t 53) (.t 62) kf),og 64 33 true (.pick (.t 43) kt (.t 63)),oQ 65 33 64] (cn 65 (rg [oV 2 kf] .ret) .skip))))) (.reg [oM 9 3,oZ 10 9 1,oM 3 10])))))) (rg [oM 66 0,oN 67 66,oE 68 .leq 67 120,oM 2 68] .ret)))⟩
theorem Tm:A6 Tryz.prog M5=some M6:=by kernel_rfl
abbrev Nu:Nat:=285
def Nv:Fn1:=⟨46,[.t 2],(rg [oV 2 kf] (.seq (rg [oM 5 0,oN 6 5,oV 7 (ki 0)] (.blk 0 (.lop (rg [oB 8 .lss 7 6] (.seq (cn 8 .skip (.ext 0)) (.seq (.blk 1 (rg [oM 9 7,oI 10 3 5 7,oW 11 3 10,o 4 (.new [s0,z0,z0]),oM 3 9,oS 3 4 11] (dw [oF 12 0 4,oL 13 12,oC 14 341 13,oU 15 14,oM 16 15,vF 17 16 1 4,vL 18 16 17,og 19 16 false (.call 236 [(.t 18),(ki 0),(ki 2)]),vU 20 16 19,oP 21 16 20,oM 22 21,vF 23 22 2 4,vL 24 22 23,og 25 22 false (.call 236 [(.t 24),(ki 0),(ki 999999)]),vU 26 22 25,oP 27 22 26,oM 28 27,vM 29 28 3,vE 30 28 .gtr 29 0,vM 31 28 30,jM 32 31 0,jM 33 31 3,jE 34 31 .sub 33 1,jI 35 31 3 32 34,jW 36 31 3 35,jW 37 31 3 4] [jD 38 31 324 36 37,jE 39 31 .geq 38 0,og 40 28 false (.pick (.t 31) (.t 39) kf),oP 41 28 40] (cn 41 (rg [oV 2 kf] .ret) .skip)))) (.reg [oZ 42 7 1,oM 7 42]))))))) (rg [oM 43 0,oN 44 43,oE 45 .leq 44 120,oM 2 45] .ret)))⟩
theorem Wd:A6 Tryz.prog Nu=some Nv:=by kernel_rfl
abbrev Qn:Nat:=291
def Qo:Fn1:=⟨66,[.t 2],(rg [oV 2 kf] (.seq (rg [oV 3 (ki 0)] (.blk 0 (.lop (.seq (rg [oM 5 3,oM 6 0,oN 7 6,oB 8 .lss 5 7] (cn 8 .skip (.ext 0))) (.seq (.blk 1 (rg [oM 11 0,oM 12 3,oI 13 6 11 12,oW 14 6 13,o 4 (.new [(.bool false),s0,s0,z0,z0,z0]),oS 6 4 14] (dw [oF 15 4 4,oW 16 2 15,oC 17 168 16,oU 18 17,oM 19 18,vF 20 19 1 4,vL 21 19 20,vC 22 19 348 21,vU 23 19 22,oP 24 19 23,oM 25 24,vF 26 25 2 4,vL 27 25 26,vC 28 25 348 27,vU 29 25 28,oP 30 25 29,oM 31 30,vF 32 31 3 4,vL 33 31 32,og 34 31 false (.call 122 [(.t 33),(ki 0),(ki 999999)]),vU 35 31 34,oP 36 31 35,oM 37 36,vF 38 37 0 4,vL 39 37 38,vU 40 37 39,vM 41 37 40,jF 42 41 3 4,jL 43 41 42,jE 44 41 .neq 43 0,og 45 37 false (.pick (.t 41) (.t 44) kf),oP 46 37 45,oM 47 46,vM 48 47 3,vE 49 47 .gtr 48 0,vM 50 47 49,jM 51 50 0,jM 52 50 3,jE 53 50 .sub 52 1,jI 54 50 6 51 53,jF 55 50 4 54,jW 56 50 2 55,jF 57 50 4 4,jW 58 50 2 57] [jD 59 50 362 56 58,jU 60 50 59,og 61 47 false (.pick (.t 50) (.t 60) kf),oP 62 47 61] (cn 62 (rg [oV 2 kf] .ret) .skip)))) (.reg [oM 9 3,oZ 10 9 1,oM 3 10])))))) (rg [oM 63 0,oN 64 63,oE 65 .leq 64 120,oM 2 65] .ret)))⟩
theorem Z9:A6 Tryz.prog Qn=some Qo:=by kernel_rfl
abbrev Tn:Nat:=286
def To:Fn1:=⟨65,[.t 4],(rg [oV 4 kf] (.seq (rg [oM 7 0,oN 8 7,oV 9 (ki 0)] (.blk 0 (.lop (rg [oB 10 .lss 9 8] (.seq (cn 10 .skip (.ext 0)) (.seq (.blk 1 (rg [oM 11 9,oI 12 6 7 9,oW 13 6 12,o 6 (.new [(.bool false),s0,s0,z0,z0,z0]),oM 5 11,oS 6 6 13] (.seq (rg [oM 14 1,oF 15 4 6,oW 16 2 15,oD 17 170 14 16,oU 18 17,oM 19 18,vF 20 19 1 6,vL 21 19 20,vC 22 19 341 21,vU 23 19 22,oP 24 19 23,oM 25 24,vF 26 25 2 6,vL 27 25 26,vC 28 25 341 27,vU 29 25 28,oP 30 25 29,oM 31 30,vF 32 31 3 6,vL 33 31 32,og 34 31 false (.call 236 [(.t 33),(ki 0),(ki 999999)]),vU 35 31 34,oP 36 31 35,oM 37 36,vF 38 37 0 6,vL 39 37 38,vU 40 37 39,vM 41 37 40,jF 42 41 3 6,jL 43 41 42,jE 44 41 .neq 43 0,og 45 37 false (.pick (.t 41) (.t 44) kf),oP 46 37 45] (cn 46 (rg [oV 4 kf] .ret) .skip)) (dw [oM 47 5,oE 48 .gtr 47 0,oM 49 48,jM 50 49 0,jM 51 49 5,jE 52 49 .sub 51 1,jI 53 49 6 50 52,jF 54 49 4 53,jW 55 49 2 54,jF 56 49 4 6,jW 57 49 2 56] [jD 58 49 306 55 57,jE 59 49 .geq 58 0,oQ 60 49 59] (cn 60 (rg [oV 4 kf] .ret) .skip))))) (.reg [oZ 61 9 1,oM 9 61]))))))) (rg [oM 62 0,oN 63 62,oE 64 .leq 63 120,oM 4 64] .ret)))⟩
theorem A1n:A6 Tryz.prog Tn=some To:=by kernel_rfl
abbrev Qp:Nat:=292
def Qq:Fn1:=⟨68,[.t 2],(rg [oV 2 kf] (.seq (rg [oV 3 (ki 0)] (.blk 0 (.lop (.seq (rg [oM 5 3,oM 6 0,oN 7 6,oB 8 .lss 5 7] (cn 8 .skip (.ext 0))) (.seq (.blk 1 (rg [oM 11 0,oM 12 3,oI 13 8 11 12,oW 14 8 13,o 4 (.new [s0,z0,z0,z0,z0,z0,z0,(.bool false)]),oS 8 4 14] (dw [oF 15 1 4,oW 16 2 15,oC 17 168 16,oU 18 17,oM 19 18,vF 20 19 0 4,vL 21 19 20,vC 22 19 348 21,vU 23 19 22,oP 24 19 23,oM 25 24,vF 26 25 3 4,vL 27 25 26,og 28 25 false (.call 122 [(.t 27),(ki 1),(ki 10000)]),vU 29 25 28,oP 30 25 29,oM 31 30,vF 32 31 6 4,vL 33 31 32,og 34 31 false (.call 122 [(.t 33),(ki 0),(ki 999999)]),vU 35 31 34,oP 36 31 35,oM 37 36,vF 38 37 4 4,vW 39 37 2 38,og 40 37 false (.build [z0,z0] []),og 41 37 false (.eqs true [.i .i64,.i .i64] (.t 39) (.t 40)),vM 42 37 41,jF 43 42 4 4,jW 44 42 2 43,jC 45 42 168 44,jU 46 42 45,og 47 37 false (.pick (.t 42) (.t 46) kf),oP 48 37 47,oM 49 48,vM 50 49 3,vE 51 49 .gtr 50 0,vM 52 49 51,jM 53 52 0,jM 54 52 3,jE 55 52 .sub 54 1,jI 56 52 8 53 55,jF 57 52 1 56,jW 58 52 2 57,jF 59 52 1 4,jW 60 52 2 59] [jD 61 52 362 58 60,jU 62 52 61,og 63 49 false (.pick (.t 52) (.t 62) kf),oP 64 49 63] (cn 64 (rg [oV 2 kf] .ret) .skip)))) (.reg [oM 9 3,oZ 10 9 1,oM 3 10])))))) (rg [oM 65 0,oN 66 65,oE 67 .leq 66 120,oM 2 67] .ret)))⟩
theorem Za:A6 Tryz.prog Qp=some Qq:=by kernel_rfl
abbrev Tp:Nat:=287
def Tq:Fn1:=⟨55,[.t 4],(rg [oV 4 kf] (.seq (rg [oM 7 0,oN 8 7,oV 9 (ki 0)] (.blk 0 (.lop (rg [oB 10 .lss 9 8] (.seq (cn 10 .skip (.ext 0)) (.seq (.blk 1 (rg [oM 11 9,oI 12 8 7 9,oW 13 8 12,o 6 (.new [s0,z0,z0,z0,z0,z0,z0,(.bool false)]),oM 5 11,oS 8 6 13] (.seq (rg [oM 14 1,oF 15 1 6,oW 16 2 15,oD 17 170 14 16,oU 18 17,oM 19 18,vF 20 19 0 6,vL 21 19 20,vC 22 19 341 21,vU 23 19 22,oP 24 19 23,oM 25 24,vF 26 25 6 6,vL 27 25 26,og 28 25 false (.call 236 [(.t 27),(ki 0),(ki 999999)]),vU 29 25 28,oP 30 25 29,oM 31 30,vF 32 31 3 6,vL 33 31 32,og 34 31 false (.call 236 [(.t 33),(ki 1),(ki 10000)]),vU 35 31 34,oP 36 31 35] (cn 36 (rg [oV 4 kf] .ret) .skip)) (dw [oM 37 5,oE 38 .gtr 37 0,oM 39 38,jM 40 39 0,jM 41 39 5,jE 42 39 .sub 41 1,jI 43 39 8 40 42,jF 44 39 1 43,jW 45 39 2 44,jF 46 39 1 6,jW 47 39 2 46] [jD 48 39 306 45 47,jE 49 39 .geq 48 0,oQ 50 39 49] (cn 50 (rg [oV 4 kf] .ret) .skip))))) (.reg [oZ 51 9 1,oM 9 51]))))))) (rg [oM 52 0,oN 53 52,oE 54 .leq 53 120,oM 4 54] .ret)))⟩
theorem A1o:A6 Tryz.prog Tp=some Tq:=by kernel_rfl
theorem Xh {α:Type} {l:List α} {n:Nat}:decide ((l.length:Int)<=(n:Nat))=decide (l.length<=n):=by
 rw[Zaj];simp only[decide_eq_true_eq];omega
theorem sub1 {i:Nat} (h:0<i):(i:Int) - 1=((i - 1:Nat):Int):=by omega
theorem A4i (a b:Tally):Az a b= !(txLt b.obj a.obj||decide (a.obj=b.obj)&&decide (b.rep<=a.rep)):=by
 unfold Az
 by_cases h:a.obj=b.obj
 ·rw[h,Gn];rw[Zaj];simp
 ·cases h1:txLt a.obj b.obj with
  |true=>simp[h,Ti h1]
  |false=>
   cases h2:txLt b.obj a.obj with
   |true=>simp[h]
   |false=>exact absurd (J6 h1 h2) h
theorem A6g (m:Bool) (n:Int):m=true∨(m=false/\(n != 0)=false/\n=0)∨(m=false/\(n != 0)=true/\n≠0):=by
 cases m
 ·by_cases h:n=0
  ·exact .inr (.inl ⟨rfl,by simp[h],h⟩)
  ·exact .inr (.inr ⟨rfl,by simp[h],h⟩)
 ·exact .inl rfl
theorem Ju (σ:St) (v:GV) (l:List Tally) (h:RS Bi.kd σ v l) (hl:l.length<=1099511627776) (hsz:∀ x∈l,x.obj.size<=1099511627776):Ret Tryz.prog M5 [v] σ (.bool (Ga l)) σ:=by
 refine Am Tm (Z0z rfl) trivial ?_
 simp +contextual (disch:=omega) only[go_sem,M6,h.len]
 refine Cr l.length 3 (fun i env τ=>env 0=v/\(∀ j,j<i->talP l j=true)/\σ <+: τ) rfl ⟨rfl,fun j hj=>by omega,Zac _⟩ ?_ ?_
 ·rintro i env τ hi ei c0 ⟨e0,ha,hp⟩
  have hno:talP l i=false->Ga l=false:=fun hh=>by simp[Ga,Fw hi hh]
  have hat:talP l i=((Cc l[i].obj&&(inB l[i].rep 0 2&&inB l[i].sum 0 999999))&&upI Az l i):=by simp only[talP,tal1,Bl hi]
  simp +contextual (disch:=omega) only[go_sem,c0,e0,ei,Ac (h.pre hp) hi,fun r=>Ac (h.pre (A0 hp r)) hi,h.len,A0 hp _,hp]
  refine Aa (Ep _ l[i].obj (hsz _ (Zag hi))) (fun h0=> ?_) (fun h0=> ?_)
  rotate_left
  ·simp +contextual (disch:=omega) only[go_sem,c0,e0,ei,Ac (h.pre hp) hi,fun r=>Ac (h.pre (A0 hp r)) hi,h.len,A0 hp _,hp]
   simp[hno (by rw[hat];simp[h0])]
  simp +contextual (disch:=omega) only[go_sem,c0,e0,ei,Ac (h.pre hp) hi,fun r=>Ac (h.pre (A0 hp r)) hi,h.len,A0 hp _,hp]
  refine Aa (As _ _ _ _) (fun h1=> ?_) (fun h1=> ?_)
  rotate_left
  ·simp +contextual (disch:=omega) only[go_sem,c0,e0,ei,Ac (h.pre hp) hi,fun r=>Ac (h.pre (A0 hp r)) hi,h.len,A0 hp _,hp]
   simp[hno (by rw[hat];simp[h1])]
  simp +contextual (disch:=omega) only[go_sem,c0,e0,ei,Ac (h.pre hp) hi,fun r=>Ac (h.pre (A0 hp r)) hi,h.len,A0 hp _,hp]
  refine Aa (As _ _ _ _) (fun h2=> ?_) (fun h2=> ?_)
  rotate_left
  ·simp +contextual (disch:=omega) only[go_sem,c0,e0,ei,Ac (h.pre hp) hi,fun r=>Ac (h.pre (A0 hp r)) hi,h.len,A0 hp _,hp]
   simp[hno (by rw[hat];simp[h2])]
  simp +contextual (disch:=omega) only[go_sem,c0,e0,ei,Ac (h.pre hp) hi,fun r=>Ac (h.pre (A0 hp r)) hi,h.len,A0 hp _,hp]
  rcases Zai i with hz|hz
  ·subst hz
   simp +contextual (disch:=omega) only[go_sem,Zao,decide_false,Zav,c0,e0,ei,Ac (h.pre hp) hi,fun r=>Ac (h.pre (A0 hp r)) hi,h.len,A0 hp _,hp]
   refine Bo ha (by rw[hat];simp[h0,h1,h2,upI])
  ·have c1:decide ((0:Int)<i)=true:=by simp;omega
   have hj:i - 1<l.length:=by omega
   have hz':i≠0:=by omega
   simp only[Ij hz' hi hj] at hat
   simp +contextual (disch:=omega) only[go_sem,c1,sub1 hz,Ac (h.pre hp) hj,fun r=>Ac (h.pre (A0 hp r)) hj,c0,e0,ei,Ac (h.pre hp) hi,fun r=>Ac (h.pre (A0 hp r)) hi,h.len,A0 hp _,hp]
   rw[A4i] at hat
   generalize txLt l[i].obj l[i-1].obj=b1 at*
   generalize decide (l[i-1].obj=l[i].obj)=b2 at*
   grind
 ·rintro env τ ei c0 ⟨e0,ha,hp⟩
  simp +contextual (disch:=omega) only[go_sem,c0,e0,ei,h.len,hp]
  simp only[Ga,Dt ha,Za1]
  exact Xh
theorem Kw (σ:St) (v:GV) (l:List Tally) (h:RS Bi.kd σ v l) (hl:l.length<=1099511627776) (hsz:∀ x∈l,x.obj.size<=1099511627776):Ret Tryz.prog Nu [v] σ (.bool (Ga l)) σ:=by
 refine Am Wd (Z0z rfl) trivial ?_
 simp +contextual (disch:=omega) only[go_sem,Nv,h.len]
 refine Cr l.length 7 (fun i env τ=>env 0=v/\env 5=v/\env 6=gi l.length/\(∀ j,j<i->talP l j=true)/\σ <+: τ) rfl ⟨rfl,rfl,rfl,fun j hj=>by omega,Zac _⟩ ?_ ?_
 ·rintro i env τ hi ei c0 ⟨e0,e5,e6,ha,hp⟩
  have hno:talP l i=false->Ga l=false:=fun hh=>by simp[Ga,Fw hi hh]
  have hat:talP l i=((Cc l[i].obj&&(inB l[i].rep 0 2&&inB l[i].sum 0 999999))&&upI Az l i):=by simp only[talP,tal1,Bl hi]
  simp +contextual (disch:=omega) only[go_sem,c0,e0,e5,e6,ei,Ac (h.pre hp) hi,fun r=>Ac (h.pre (A0 hp r)) hi,h.len,A0 hp _,hp]
  refine Aa (Dl _ l[i].obj (hsz _ (Zag hi))) (fun h0=> ?_) (fun h0=> ?_)
  rotate_left
  ·simp +contextual (disch:=omega) only[go_sem,c0,e0,e5,e6,ei,Ac (h.pre hp) hi,fun r=>Ac (h.pre (A0 hp r)) hi,h.len,A0 hp _,hp]
   simp[hno (by rw[hat];simp[h0])]
  simp +contextual (disch:=omega) only[go_sem,c0,e0,e5,e6,ei,Ac (h.pre hp) hi,fun r=>Ac (h.pre (A0 hp r)) hi,h.len,A0 hp _,hp]
  refine Aa (Ax _ _ _ _) (fun h1=> ?_) (fun h1=> ?_)
  rotate_left
  ·simp +contextual (disch:=omega) only[go_sem,c0,e0,e5,e6,ei,Ac (h.pre hp) hi,fun r=>Ac (h.pre (A0 hp r)) hi,h.len,A0 hp _,hp]
   simp[hno (by rw[hat];simp[h1])]
  simp +contextual (disch:=omega) only[go_sem,c0,e0,e5,e6,ei,Ac (h.pre hp) hi,fun r=>Ac (h.pre (A0 hp r)) hi,h.len,A0 hp _,hp]
  refine Aa (Ax _ _ _ _) (fun h2=> ?_) (fun h2=> ?_)
  rotate_left
  ·simp +contextual (disch:=omega) only[go_sem,c0,e0,e5,e6,ei,Ac (h.pre hp) hi,fun r=>Ac (h.pre (A0 hp r)) hi,h.len,A0 hp _,hp]
   simp[hno (by rw[hat];simp[h2])]
  simp +contextual (disch:=omega) only[go_sem,c0,e0,e5,e6,ei,Ac (h.pre hp) hi,fun r=>Ac (h.pre (A0 hp r)) hi,h.len,A0 hp _,hp]
  rcases Zai i with hz|hz
  ·subst hz
   simp +contextual (disch:=omega) only[go_sem,Zao,decide_false,Zav,c0,e0,e5,e6,ei,Ac (h.pre hp) hi,fun r=>Ac (h.pre (A0 hp r)) hi,h.len,A0 hp _,hp]
   refine Bo ha (by rw[hat];simp[h0,h1,h2,upI])
  ·have c1:decide ((0:Int)<i)=true:=by simp;omega
   have hj:i - 1<l.length:=by omega
   have hz':i≠0:=by omega
   simp only[Ij hz' hi hj] at hat
   simp +contextual (disch:=omega) only[go_sem,c1,sub1 hz,Ac (h.pre hp) hj,fun r=>Ac (h.pre (A0 hp r)) hj,c0,e0,e5,e6,ei,Ac (h.pre hp) hi,fun r=>Ac (h.pre (A0 hp r)) hi,h.len,A0 hp _,hp]
   refine Ad (Lz _ l[i-1] l[i]) ?_
   simp +contextual (disch:=omega) only[go_sem,A49,c1,sub1 hz,Ac (h.pre hp) hj,fun r=>Ac (h.pre (A0 hp r)) hj,c0,e0,e5,e6,ei,Ac (h.pre hp) hi,fun r=>Ac (h.pre (A0 hp r)) hi,h.len,A0 hp _,hp]
   cases ho:Az l[i-1] l[i] with
   |true=>
    simp +contextual (disch:=omega) only[go_sem,c1,sub1 hz,Ac (h.pre hp) hj,fun r=>Ac (h.pre (A0 hp r)) hj,c0,e0,e5,e6,ei,Ac (h.pre hp) hi,fun r=>Ac (h.pre (A0 hp r)) hi,h.len,A0 hp _,hp]
    exact Bo ha (by rw[hat];simp[h0,h1,h2,ho])
   |false=>
    simp +contextual (disch:=omega) only[go_sem,c1,sub1 hz,Ac (h.pre hp) hj,fun r=>Ac (h.pre (A0 hp r)) hj,c0,e0,e5,e6,ei,Ac (h.pre hp) hi,fun r=>Ac (h.pre (A0 hp r)) hi,h.len,A0 hp _,hp]
    simp[hno (by rw[hat];simp[ho])]
 ·rintro env τ ei c0 ⟨e0,e5,e6,ha,hp⟩
  simp +contextual (disch:=omega) only[go_sem,c0,e0,e5,e6,ei,h.len,hp]
  simp only[Ga,Dt ha,Za1]
  exact Xh
theorem M7 (σ:St) (v:GV) (l:List Live) (h:RS Cl.kd σ v l) (hl:l.length<=1099511627776) (hsz:∀ x∈l,x.obj.size<=1099511627776/\x.key.size<=1099511627776):Ret Tryz.prog Qn [v] σ (.bool (A1l l)) σ:=by
 refine Am Z9 (Z0z rfl) trivial ?_
 simp +contextual (disch:=omega) only[go_sem,Qo,h.len]
 refine Cr l.length 3 (fun i env τ=>env 0=v/\(∀ j,j<i->A4a l j=true)/\σ <+: τ) rfl ⟨rfl,fun j hj=>by omega,Zac _⟩ ?_ ?_
 ·rintro i env τ hi ei c0 ⟨e0,ha,hp⟩
  have hno:A4a l i=false->A1l l=false:=fun hh=>by simp[A1l,Fw hi hh]
  have hat:A4a l i=(F4 l[i].dot&&((Cc l[i].obj&&(Cc l[i].key&&(inB l[i].val 0 999999&&(l[i].map||decide (l[i].val=0)))))&&upI E7 l i)):=by simp only[A4a,liv1,Bl hi]
  simp +contextual (disch:=omega) only[go_sem,c0,e0,ei,A5 (h.pre hp) hi,fun r=>A5 (h.pre (A0 hp r)) hi,h.len,A0 hp _,hp]
  refine Aa (Ee _ l[i].dot) (fun h0=> ?_) (fun h0=> ?_)
  rotate_left
  ·simp +contextual (disch:=omega) only[go_sem,c0,e0,ei,A5 (h.pre hp) hi,fun r=>A5 (h.pre (A0 hp r)) hi,h.len,A0 hp _,hp]
   simp[hno (by rw[hat];simp[h0])]
  simp +contextual (disch:=omega) only[go_sem,c0,e0,ei,A5 (h.pre hp) hi,fun r=>A5 (h.pre (A0 hp r)) hi,h.len,A0 hp _,hp]
  refine Aa (Ep _ l[i].obj (hsz _ (Zag hi)).1) (fun h1=> ?_) (fun h1=> ?_)
  rotate_left
  ·simp +contextual (disch:=omega) only[go_sem,c0,e0,ei,A5 (h.pre hp) hi,fun r=>A5 (h.pre (A0 hp r)) hi,h.len,A0 hp _,hp]
   simp[hno (by rw[hat];simp[h1])]
  simp +contextual (disch:=omega) only[go_sem,c0,e0,ei,A5 (h.pre hp) hi,fun r=>A5 (h.pre (A0 hp r)) hi,h.len,A0 hp _,hp]
  refine Aa (Ep _ l[i].key (hsz _ (Zag hi)).2) (fun h2=> ?_) (fun h2=> ?_)
  rotate_left
  ·simp +contextual (disch:=omega) only[go_sem,c0,e0,ei,A5 (h.pre hp) hi,fun r=>A5 (h.pre (A0 hp r)) hi,h.len,A0 hp _,hp]
   simp[hno (by rw[hat];simp[h2])]
  simp +contextual (disch:=omega) only[go_sem,c0,e0,ei,A5 (h.pre hp) hi,fun r=>A5 (h.pre (A0 hp r)) hi,h.len,A0 hp _,hp]
  refine Aa (As _ _ _ _) (fun h3=> ?_) (fun h3=> ?_)
  rotate_left
  ·simp +contextual (disch:=omega) only[go_sem,c0,e0,ei,A5 (h.pre hp) hi,fun r=>A5 (h.pre (A0 hp r)) hi,h.len,A0 hp _,hp]
   simp[hno (by rw[hat];simp[h3])]
  simp +contextual (disch:=omega) only[go_sem,c0,e0,ei,A5 (h.pre hp) hi,fun r=>A5 (h.pre (A0 hp r)) hi,h.len,A0 hp _,hp]
  rcases A6g l[i].map l[i].val with hm|⟨hm,hv,hv'⟩|⟨hm,hv,hv'⟩
  rotate_left 2
  ·simp +contextual (disch:=omega) only[go_sem,hm,hv,c0,e0,ei,A5 (h.pre hp) hi,fun r=>A5 (h.pre (A0 hp r)) hi,h.len,A0 hp _,hp]
   simp[hno (by rw[hat];simp[hm,hv'])]
  ·simp +contextual (disch:=omega) only[go_sem,hm,c0,e0,ei,A5 (h.pre hp) hi,fun r=>A5 (h.pre (A0 hp r)) hi,h.len,A0 hp _,hp]
   rcases Zai i with hz|hz
   ·subst hz
    simp +contextual (disch:=omega) only[go_sem,Zao,decide_false,Zav,hm,c0,e0,ei,A5 (h.pre hp) hi,fun r=>A5 (h.pre (A0 hp r)) hi,h.len,A0 hp _,hp]
    refine Bo ha (by rw[hat];simp[h0,h1,h2,h3,hm,upI])
   ·have c1:decide ((0:Int)<i)=true:=by simp;omega
    have hj:i - 1<l.length:=by omega
    have hz':i≠0:=by omega
    simp only[Ij hz' hi hj] at hat
    simp +contextual (disch:=omega) only[go_sem,c1,sub1 hz,A5 (h.pre hp) hj,fun r=>A5 (h.pre (A0 hp r)) hj,hm,c0,e0,ei,A5 (h.pre hp) hi,fun r=>A5 (h.pre (A0 hp r)) hi,h.len,A0 hp _,hp]
    refine Ad (Ca _ l[i-1].dot l[i].dot) ?_
    cases ho:Bh l[i-1].dot l[i].dot with
    |true=>
     simp +contextual (disch:=omega) only[go_sem,c1,sub1 hz,A5 (h.pre hp) hj,fun r=>A5 (h.pre (A0 hp r)) hj,hm,c0,e0,ei,A5 (h.pre hp) hi,fun r=>A5 (h.pre (A0 hp r)) hi,h.len,A0 hp _,hp]
     exact Bo ha (by rw[hat];simp[h0,h1,h2,h3,hm,ho,E7])
    |false=>
     simp +contextual (disch:=omega) only[go_sem,c1,sub1 hz,A5 (h.pre hp) hj,fun r=>A5 (h.pre (A0 hp r)) hj,hm,c0,e0,ei,A5 (h.pre hp) hi,fun r=>A5 (h.pre (A0 hp r)) hi,h.len,A0 hp _,hp]
     simp[hno (by rw[hat];simp[ho,E7])]
  ·simp +contextual (disch:=omega) only[go_sem,hm,hv,c0,e0,ei,A5 (h.pre hp) hi,fun r=>A5 (h.pre (A0 hp r)) hi,h.len,A0 hp _,hp]
   rcases Zai i with hz|hz
   ·subst hz
    simp +contextual (disch:=omega) only[go_sem,Zao,decide_false,Zav,hm,hv,c0,e0,ei,A5 (h.pre hp) hi,fun r=>A5 (h.pre (A0 hp r)) hi,h.len,A0 hp _,hp]
    refine Bo ha (by rw[hat];simp[h0,h1,h2,h3,hm,decide_eq_true hv',upI])
   ·have c1:decide ((0:Int)<i)=true:=by simp;omega
    have hj:i - 1<l.length:=by omega
    have hz':i≠0:=by omega
    simp only[Ij hz' hi hj] at hat
    simp +contextual (disch:=omega) only[go_sem,c1,sub1 hz,A5 (h.pre hp) hj,fun r=>A5 (h.pre (A0 hp r)) hj,hm,hv,c0,e0,ei,A5 (h.pre hp) hi,fun r=>A5 (h.pre (A0 hp r)) hi,h.len,A0 hp _,hp]
    refine Ad (Ca _ l[i-1].dot l[i].dot) ?_
    cases ho:Bh l[i-1].dot l[i].dot with
    |true=>
     simp +contextual (disch:=omega) only[go_sem,c1,sub1 hz,A5 (h.pre hp) hj,fun r=>A5 (h.pre (A0 hp r)) hj,hm,hv,c0,e0,ei,A5 (h.pre hp) hi,fun r=>A5 (h.pre (A0 hp r)) hi,h.len,A0 hp _,hp]
     exact Bo ha (by rw[hat];simp[h0,h1,h2,h3,hm,decide_eq_true hv',ho,E7])
    |false=>
     simp +contextual (disch:=omega) only[go_sem,c1,sub1 hz,A5 (h.pre hp) hj,fun r=>A5 (h.pre (A0 hp r)) hj,hm,hv,c0,e0,ei,A5 (h.pre hp) hi,fun r=>A5 (h.pre (A0 hp r)) hi,h.len,A0 hp _,hp]
     simp[hno (by rw[hat];simp[ho,E7])]
 ·rintro env τ ei c0 ⟨e0,ha,hp⟩
  simp +contextual (disch:=omega) only[go_sem,c0,e0,ei,h.len,hp]
  simp only[A1l,Dt ha,Za1]
  exact Xh
theorem Nw (σ:St) (v:GV) (l:List Live) (h:RS Cl.kd σ v l) (u:GV) (k:List Int) (hk:RS pI.kd σ u k) (hlk:k.length<=1099511627776) (hl:l.length<=1099511627776) (hsz:∀ x∈l,x.obj.size<=1099511627776/\x.key.size<=1099511627776):Ret Tryz.prog Tn [v,u] σ (.bool (Ik l k)) σ:=by
 refine Am A1n (Z0z rfl) trivial ?_
 simp +contextual (disch:=omega) only[go_sem,To,h.len]
 refine Cr l.length 9 (fun i env τ=>env 0=v/\env 1=u/\env 7=v/\env 8=gi l.length/\(∀ j,j<i->livP l k j=true)/\σ <+: τ) rfl ⟨rfl,rfl,rfl,rfl,fun j hj=>by omega,Zac _⟩ ?_ ?_
 ·rintro i env τ hi ei c0 ⟨e0,e1,e7,e8,ha,hp⟩
  have hno:livP l k i=false->Ik l k=false:=fun hh=>by simp[Ik,Fw hi hh]
  have hat:livP l k i=(Ap k l[i].dot&&((Cc l[i].obj&&(Cc l[i].key&&(inB l[i].val 0 999999&&(l[i].map||decide (l[i].val=0)))))&&upI E7 l i)):=by simp only[livP,liv1,Bl hi]
  simp +contextual (disch:=omega) only[go_sem,c0,e0,e1,e7,e8,ei,A5 (h.pre hp) hi,fun r=>A5 (h.pre (A0 hp r)) hi,h.len,A0 hp _,hp]
  refine Aa (Fv _ u k l[i].dot (hk.pre (A0 hp _)) hlk) (fun h0=> ?_) (fun h0=> ?_)
  rotate_left
  ·simp +contextual (disch:=omega) only[go_sem,c0,e0,e1,e7,e8,ei,A5 (h.pre hp) hi,fun r=>A5 (h.pre (A0 hp r)) hi,h.len,A0 hp _,hp]
   simp[hno (by rw[hat];simp[h0])]
  simp +contextual (disch:=omega) only[go_sem,c0,e0,e1,e7,e8,ei,A5 (h.pre hp) hi,fun r=>A5 (h.pre (A0 hp r)) hi,h.len,A0 hp _,hp]
  refine Aa (Dl _ l[i].obj (hsz _ (Zag hi)).1) (fun h1=> ?_) (fun h1=> ?_)
  rotate_left
  ·simp +contextual (disch:=omega) only[go_sem,c0,e0,e1,e7,e8,ei,A5 (h.pre hp) hi,fun r=>A5 (h.pre (A0 hp r)) hi,h.len,A0 hp _,hp]
   simp[hno (by rw[hat];simp[h1])]
  simp +contextual (disch:=omega) only[go_sem,c0,e0,e1,e7,e8,ei,A5 (h.pre hp) hi,fun r=>A5 (h.pre (A0 hp r)) hi,h.len,A0 hp _,hp]
  refine Aa (Dl _ l[i].key (hsz _ (Zag hi)).2) (fun h2=> ?_) (fun h2=> ?_)
  rotate_left
  ·simp +contextual (disch:=omega) only[go_sem,c0,e0,e1,e7,e8,ei,A5 (h.pre hp) hi,fun r=>A5 (h.pre (A0 hp r)) hi,h.len,A0 hp _,hp]
   simp[hno (by rw[hat];simp[h2])]
  simp +contextual (disch:=omega) only[go_sem,c0,e0,e1,e7,e8,ei,A5 (h.pre hp) hi,fun r=>A5 (h.pre (A0 hp r)) hi,h.len,A0 hp _,hp]
  refine Aa (Ax _ _ _ _) (fun h3=> ?_) (fun h3=> ?_)
  rotate_left
  ·simp +contextual (disch:=omega) only[go_sem,c0,e0,e1,e7,e8,ei,A5 (h.pre hp) hi,fun r=>A5 (h.pre (A0 hp r)) hi,h.len,A0 hp _,hp]
   simp[hno (by rw[hat];simp[h3])]
  simp +contextual (disch:=omega) only[go_sem,c0,e0,e1,e7,e8,ei,A5 (h.pre hp) hi,fun r=>A5 (h.pre (A0 hp r)) hi,h.len,A0 hp _,hp]
  rcases A6g l[i].map l[i].val with hm|⟨hm,hv,hv'⟩|⟨hm,hv,hv'⟩
  rotate_left 2
  ·simp +contextual (disch:=omega) only[go_sem,hm,hv,c0,e0,e1,e7,e8,ei,A5 (h.pre hp) hi,fun r=>A5 (h.pre (A0 hp r)) hi,h.len,A0 hp _,hp]
   simp[hno (by rw[hat];simp[hm,hv'])]
  ·simp +contextual (disch:=omega) only[go_sem,hm,c0,e0,e1,e7,e8,ei,A5 (h.pre hp) hi,fun r=>A5 (h.pre (A0 hp r)) hi,h.len,A0 hp _,hp]
   rcases Zai i with hz|hz
   ·subst hz
    simp +contextual (disch:=omega) only[go_sem,Zao,decide_false,Zav,hm,c0,e0,e1,e7,e8,ei,A5 (h.pre hp) hi,fun r=>A5 (h.pre (A0 hp r)) hi,h.len,A0 hp _,hp]
    refine Bo ha (by rw[hat];simp[h0,h1,h2,h3,hm,upI])
   ·have c1:decide ((0:Int)<i)=true:=by simp;omega
    have hj:i - 1<l.length:=by omega
    have hz':i≠0:=by omega
    simp only[Ij hz' hi hj] at hat
    simp +contextual (disch:=omega) only[go_sem,c1,sub1 hz,A5 (h.pre hp) hj,fun r=>A5 (h.pre (A0 hp r)) hj,hm,c0,e0,e1,e7,e8,ei,A5 (h.pre hp) hi,fun r=>A5 (h.pre (A0 hp r)) hi,h.len,A0 hp _,hp]
    refine Ad (Cv _ l[i-1].dot l[i].dot) ?_
    simp +contextual (disch:=omega) only[go_sem,Ko,c1,sub1 hz,A5 (h.pre hp) hj,fun r=>A5 (h.pre (A0 hp r)) hj,hm,c0,e0,e1,e7,e8,ei,A5 (h.pre hp) hi,fun r=>A5 (h.pre (A0 hp r)) hi,h.len,A0 hp _,hp]
    cases ho:Bh l[i-1].dot l[i].dot with
    |true=>
     simp +contextual (disch:=omega) only[go_sem,c1,sub1 hz,A5 (h.pre hp) hj,fun r=>A5 (h.pre (A0 hp r)) hj,hm,c0,e0,e1,e7,e8,ei,A5 (h.pre hp) hi,fun r=>A5 (h.pre (A0 hp r)) hi,h.len,A0 hp _,hp]
     exact Bo ha (by rw[hat];simp[h0,h1,h2,h3,hm,ho,E7])
    |false=>
     simp +contextual (disch:=omega) only[go_sem,c1,sub1 hz,A5 (h.pre hp) hj,fun r=>A5 (h.pre (A0 hp r)) hj,hm,c0,e0,e1,e7,e8,ei,A5 (h.pre hp) hi,fun r=>A5 (h.pre (A0 hp r)) hi,h.len,A0 hp _,hp]
     simp[hno (by rw[hat];simp[ho,E7])]
  ·simp +contextual (disch:=omega) only[go_sem,hm,hv,c0,e0,e1,e7,e8,ei,A5 (h.pre hp) hi,fun r=>A5 (h.pre (A0 hp r)) hi,h.len,A0 hp _,hp]
   rcases Zai i with hz|hz
   ·subst hz
    simp +contextual (disch:=omega) only[go_sem,Zao,decide_false,Zav,hm,hv,c0,e0,e1,e7,e8,ei,A5 (h.pre hp) hi,fun r=>A5 (h.pre (A0 hp r)) hi,h.len,A0 hp _,hp]
    refine Bo ha (by rw[hat];simp[h0,h1,h2,h3,hm,decide_eq_true hv',upI])
   ·have c1:decide ((0:Int)<i)=true:=by simp;omega
    have hj:i - 1<l.length:=by omega
    have hz':i≠0:=by omega
    simp only[Ij hz' hi hj] at hat
    simp +contextual (disch:=omega) only[go_sem,c1,sub1 hz,A5 (h.pre hp) hj,fun r=>A5 (h.pre (A0 hp r)) hj,hm,hv,c0,e0,e1,e7,e8,ei,A5 (h.pre hp) hi,fun r=>A5 (h.pre (A0 hp r)) hi,h.len,A0 hp _,hp]
    refine Ad (Cv _ l[i-1].dot l[i].dot) ?_
    simp +contextual (disch:=omega) only[go_sem,Ko,c1,sub1 hz,A5 (h.pre hp) hj,fun r=>A5 (h.pre (A0 hp r)) hj,hm,hv,c0,e0,e1,e7,e8,ei,A5 (h.pre hp) hi,fun r=>A5 (h.pre (A0 hp r)) hi,h.len,A0 hp _,hp]
    cases ho:Bh l[i-1].dot l[i].dot with
    |true=>
     simp +contextual (disch:=omega) only[go_sem,c1,sub1 hz,A5 (h.pre hp) hj,fun r=>A5 (h.pre (A0 hp r)) hj,hm,hv,c0,e0,e1,e7,e8,ei,A5 (h.pre hp) hi,fun r=>A5 (h.pre (A0 hp r)) hi,h.len,A0 hp _,hp]
     exact Bo ha (by rw[hat];simp[h0,h1,h2,h3,hm,decide_eq_true hv',ho,E7])
    |false=>
     simp +contextual (disch:=omega) only[go_sem,c1,sub1 hz,A5 (h.pre hp) hj,fun r=>A5 (h.pre (A0 hp r)) hj,hm,hv,c0,e0,e1,e7,e8,ei,A5 (h.pre hp) hi,fun r=>A5 (h.pre (A0 hp r)) hi,h.len,A0 hp _,hp]
     simp[hno (by rw[hat];simp[ho,E7])]
 ·rintro env τ ei c0 ⟨e0,e1,e7,e8,ha,hp⟩
  simp +contextual (disch:=omega) only[go_sem,c0,e0,e1,e7,e8,ei,h.len,hp]
  simp only[Ik,Dt ha,Za1]
  exact Xh
theorem M8 (σ:St) (v:GV) (l:List Cell) (h:RS Aj.kd σ v l) (hl:l.length<=1099511627776) (hsz:∀ x∈l,x.obj.size<=1099511627776):Ret Tryz.prog Qp [v] σ (.bool (A1m l)) σ:=by
 refine Am Za (Z0z rfl) trivial ?_
 simp +contextual (disch:=omega) only[go_sem,Qq,h.len]
 refine Cr l.length 3 (fun i env τ=>env 0=v/\(∀ j,j<i->A4b l j=true)/\σ <+: τ) rfl ⟨rfl,fun j hj=>by omega,Zac _⟩ ?_ ?_
 ·rintro i env τ hi ei c0 ⟨e0,ha,hp⟩
  have hno:A4b l i=false->A1m l=false:=fun hh=>by simp[A1m,Fw hi hh]
  have hat:A4b l i=(F4 l[i].dot&&((Cc l[i].obj&&(inB l[i].val 0 999999&&inB l[i].time 1 10000))&&((decide (l[i].ref=⟨0,0⟩)||F4 l[i].ref)&&upI F5 l i))):=by simp only[A4b,cel1,refD,Bl hi]
  simp +contextual (disch:=omega) only[go_sem,c0,e0,ei,A4 (h.pre hp) hi,fun r=>A4 (h.pre (A0 hp r)) hi,h.len,A0 hp _,hp]
  refine Aa (Ee _ l[i].dot) (fun h0=> ?_) (fun h0=> ?_)
  rotate_left
  ·simp +contextual (disch:=omega) only[go_sem,c0,e0,ei,A4 (h.pre hp) hi,fun r=>A4 (h.pre (A0 hp r)) hi,h.len,A0 hp _,hp]
   simp[hno (by rw[hat];simp[h0])]
  simp +contextual (disch:=omega) only[go_sem,c0,e0,ei,A4 (h.pre hp) hi,fun r=>A4 (h.pre (A0 hp r)) hi,h.len,A0 hp _,hp]
  refine Aa (Ep _ l[i].obj (hsz _ (Zag hi))) (fun h1=> ?_) (fun h1=> ?_)
  rotate_left
  ·simp +contextual (disch:=omega) only[go_sem,c0,e0,ei,A4 (h.pre hp) hi,fun r=>A4 (h.pre (A0 hp r)) hi,h.len,A0 hp _,hp]
   simp[hno (by rw[hat];simp[h1])]
  simp +contextual (disch:=omega) only[go_sem,c0,e0,ei,A4 (h.pre hp) hi,fun r=>A4 (h.pre (A0 hp r)) hi,h.len,A0 hp _,hp]
  refine Aa (As _ _ _ _) (fun h2=> ?_) (fun h2=> ?_)
  rotate_left
  ·simp +contextual (disch:=omega) only[go_sem,c0,e0,ei,A4 (h.pre hp) hi,fun r=>A4 (h.pre (A0 hp r)) hi,h.len,A0 hp _,hp]
   simp[hno (by rw[hat];simp[h2])]
  simp +contextual (disch:=omega) only[go_sem,c0,e0,ei,A4 (h.pre hp) hi,fun r=>A4 (h.pre (A0 hp r)) hi,h.len,A0 hp _,hp]
  refine Aa (As _ _ _ _) (fun h3=> ?_) (fun h3=> ?_)
  rotate_left
  ·simp +contextual (disch:=omega) only[go_sem,c0,e0,ei,A4 (h.pre hp) hi,fun r=>A4 (h.pre (A0 hp r)) hi,h.len,A0 hp _,hp]
   simp[hno (by rw[hat];simp[h3])]
  simp +contextual (disch:=omega) only[go_sem,c0,e0,ei,A4 (h.pre hp) hi,fun r=>A4 (h.pre (A0 hp r)) hi,h.len,A0 hp _,hp]
  by_cases hr:l[i].ref=⟨0,0⟩
  ·have hrd:=decide_eq_true hr
   simp +contextual (disch:=omega) only[go_sem,hrd,c0,e0,ei,A4 (h.pre hp) hi,fun r=>A4 (h.pre (A0 hp r)) hi,h.len,A0 hp _,hp]
   rcases Zai i with hz|hz
   ·subst hz
    simp +contextual (disch:=omega) only[go_sem,Zao,decide_false,Zav,hrd,c0,e0,ei,A4 (h.pre hp) hi,fun r=>A4 (h.pre (A0 hp r)) hi,h.len,A0 hp _,hp]
    refine Bo ha (by rw[hat];simp[h0,h1,h2,h3,hrd,upI])
   ·have c1:decide ((0:Int)<i)=true:=by simp;omega
    have hj:i - 1<l.length:=by omega
    have hz':i≠0:=by omega
    simp only[Ij hz' hi hj] at hat
    simp +contextual (disch:=omega) only[go_sem,c1,sub1 hz,A4 (h.pre hp) hj,fun r=>A4 (h.pre (A0 hp r)) hj,hrd,c0,e0,ei,A4 (h.pre hp) hi,fun r=>A4 (h.pre (A0 hp r)) hi,h.len,A0 hp _,hp]
    refine Ad (Ca _ l[i-1].dot l[i].dot) ?_
    cases ho:Bh l[i-1].dot l[i].dot with
    |true=>
     simp +contextual (disch:=omega) only[go_sem,c1,sub1 hz,A4 (h.pre hp) hj,fun r=>A4 (h.pre (A0 hp r)) hj,hrd,c0,e0,ei,A4 (h.pre hp) hi,fun r=>A4 (h.pre (A0 hp r)) hi,h.len,A0 hp _,hp]
     exact Bo ha (by rw[hat];simp[h0,h1,h2,h3,hrd,ho,F5])
    |false=>
     simp +contextual (disch:=omega) only[go_sem,c1,sub1 hz,A4 (h.pre hp) hj,fun r=>A4 (h.pre (A0 hp r)) hj,hrd,c0,e0,ei,A4 (h.pre hp) hi,fun r=>A4 (h.pre (A0 hp r)) hi,h.len,A0 hp _,hp]
     simp[hno (by rw[hat];simp[ho,F5])]
  ·have hrd:=decide_eq_false hr
   simp +contextual (disch:=omega) only[go_sem,hrd,c0,e0,ei,A4 (h.pre hp) hi,fun r=>A4 (h.pre (A0 hp r)) hi,h.len,A0 hp _,hp]
   refine Aa (Ee _ l[i].ref) (fun hq=> ?_) (fun hq=> ?_)
   rotate_left
   ·simp +contextual (disch:=omega) only[go_sem,hrd,c0,e0,ei,A4 (h.pre hp) hi,fun r=>A4 (h.pre (A0 hp r)) hi,h.len,A0 hp _,hp]
    simp[hno (by rw[hat];simp[hrd,hq])]
   simp +contextual (disch:=omega) only[go_sem,hrd,c0,e0,ei,A4 (h.pre hp) hi,fun r=>A4 (h.pre (A0 hp r)) hi,h.len,A0 hp _,hp]
   rcases Zai i with hz|hz
   ·subst hz
    simp +contextual (disch:=omega) only[go_sem,Zao,decide_false,Zav,hrd,c0,e0,ei,A4 (h.pre hp) hi,fun r=>A4 (h.pre (A0 hp r)) hi,h.len,A0 hp _,hp]
    refine Bo ha (by rw[hat];simp[h0,h1,h2,h3,hrd,hq,upI])
   ·have c1:decide ((0:Int)<i)=true:=by simp;omega
    have hj:i - 1<l.length:=by omega
    have hz':i≠0:=by omega
    simp only[Ij hz' hi hj] at hat
    simp +contextual (disch:=omega) only[go_sem,c1,sub1 hz,A4 (h.pre hp) hj,fun r=>A4 (h.pre (A0 hp r)) hj,hrd,c0,e0,ei,A4 (h.pre hp) hi,fun r=>A4 (h.pre (A0 hp r)) hi,h.len,A0 hp _,hp]
    refine Ad (Ca _ l[i-1].dot l[i].dot) ?_
    cases ho:Bh l[i-1].dot l[i].dot with
    |true=>
     simp +contextual (disch:=omega) only[go_sem,c1,sub1 hz,A4 (h.pre hp) hj,fun r=>A4 (h.pre (A0 hp r)) hj,hrd,c0,e0,ei,A4 (h.pre hp) hi,fun r=>A4 (h.pre (A0 hp r)) hi,h.len,A0 hp _,hp]
     exact Bo ha (by rw[hat];simp[h0,h1,h2,h3,hrd,hq,ho,F5])
    |false=>
     simp +contextual (disch:=omega) only[go_sem,c1,sub1 hz,A4 (h.pre hp) hj,fun r=>A4 (h.pre (A0 hp r)) hj,hrd,c0,e0,ei,A4 (h.pre hp) hi,fun r=>A4 (h.pre (A0 hp r)) hi,h.len,A0 hp _,hp]
     simp[hno (by rw[hat];simp[ho,F5])]
 ·rintro env τ ei c0 ⟨e0,ha,hp⟩
  simp +contextual (disch:=omega) only[go_sem,c0,e0,ei,h.len,hp]
  simp only[A1m,Dt ha,Za1]
  exact Xh
theorem Nx (σ:St) (v:GV) (l:List Cell) (h:RS Aj.kd σ v l) (u:GV) (k:List Int) (hk:RS pI.kd σ u k) (hlk:k.length<=1099511627776) (hl:l.length<=1099511627776) (hsz:∀ x∈l,x.obj.size<=1099511627776):Ret Tryz.prog Tp [v,u] σ (.bool (Hb l k)) σ:=by
 refine Am A1o (Z0z rfl) trivial ?_
 simp +contextual (disch:=omega) only[go_sem,Tq,h.len]
 refine Cr l.length 9 (fun i env τ=>env 0=v/\env 1=u/\env 7=v/\env 8=gi l.length/\(∀ j,j<i->celP l k j=true)/\σ <+: τ) rfl ⟨rfl,rfl,rfl,rfl,fun j hj=>by omega,Zac _⟩ ?_ ?_
 ·rintro i env τ hi ei c0 ⟨e0,e1,e7,e8,ha,hp⟩
  have hno:celP l k i=false->Hb l k=false:=fun hh=>by simp[Hb,Fw hi hh]
  have hat:celP l k i=(Ap k l[i].dot&&((Cc l[i].obj&&(inB l[i].val 0 999999&&inB l[i].time 1 10000))&&upI F5 l i)):=by simp only[celP,cel1,Bl hi]
  simp +contextual (disch:=omega) only[go_sem,c0,e0,e1,e7,e8,ei,A4 (h.pre hp) hi,fun r=>A4 (h.pre (A0 hp r)) hi,h.len,A0 hp _,hp]
  refine Aa (Fv _ u k l[i].dot (hk.pre (A0 hp _)) hlk) (fun h0=> ?_) (fun h0=> ?_)
  rotate_left
  ·simp +contextual (disch:=omega) only[go_sem,c0,e0,e1,e7,e8,ei,A4 (h.pre hp) hi,fun r=>A4 (h.pre (A0 hp r)) hi,h.len,A0 hp _,hp]
   simp[hno (by rw[hat];simp[h0])]
  simp +contextual (disch:=omega) only[go_sem,c0,e0,e1,e7,e8,ei,A4 (h.pre hp) hi,fun r=>A4 (h.pre (A0 hp r)) hi,h.len,A0 hp _,hp]
  refine Aa (Dl _ l[i].obj (hsz _ (Zag hi))) (fun h1=> ?_) (fun h1=> ?_)
  rotate_left
  ·simp +contextual (disch:=omega) only[go_sem,c0,e0,e1,e7,e8,ei,A4 (h.pre hp) hi,fun r=>A4 (h.pre (A0 hp r)) hi,h.len,A0 hp _,hp]
   simp[hno (by rw[hat];simp[h1])]
  simp +contextual (disch:=omega) only[go_sem,c0,e0,e1,e7,e8,ei,A4 (h.pre hp) hi,fun r=>A4 (h.pre (A0 hp r)) hi,h.len,A0 hp _,hp]
  refine Aa (Ax _ _ _ _) (fun h2=> ?_) (fun h2=> ?_)
  rotate_left
  ·simp +contextual (disch:=omega) only[go_sem,c0,e0,e1,e7,e8,ei,A4 (h.pre hp) hi,fun r=>A4 (h.pre (A0 hp r)) hi,h.len,A0 hp _,hp]
   simp[hno (by rw[hat];simp[h2])]
  simp +contextual (disch:=omega) only[go_sem,c0,e0,e1,e7,e8,ei,A4 (h.pre hp) hi,fun r=>A4 (h.pre (A0 hp r)) hi,h.len,A0 hp _,hp]
  refine Aa (Ax _ _ _ _) (fun h3=> ?_) (fun h3=> ?_)
  rotate_left
  ·simp +contextual (disch:=omega) only[go_sem,c0,e0,e1,e7,e8,ei,A4 (h.pre hp) hi,fun r=>A4 (h.pre (A0 hp r)) hi,h.len,A0 hp _,hp]
   simp[hno (by rw[hat];simp[h3])]
  simp +contextual (disch:=omega) only[go_sem,c0,e0,e1,e7,e8,ei,A4 (h.pre hp) hi,fun r=>A4 (h.pre (A0 hp r)) hi,h.len,A0 hp _,hp]
  rcases Zai i with hz|hz
  ·subst hz
   simp +contextual (disch:=omega) only[go_sem,Zao,decide_false,Zav,c0,e0,e1,e7,e8,ei,A4 (h.pre hp) hi,fun r=>A4 (h.pre (A0 hp r)) hi,h.len,A0 hp _,hp]
   refine Bo ha (by rw[hat];simp[h0,h1,h2,h3,upI])
  ·have c1:decide ((0:Int)<i)=true:=by simp;omega
   have hj:i - 1<l.length:=by omega
   have hz':i≠0:=by omega
   simp only[Ij hz' hi hj] at hat
   simp +contextual (disch:=omega) only[go_sem,c1,sub1 hz,A4 (h.pre hp) hj,fun r=>A4 (h.pre (A0 hp r)) hj,c0,e0,e1,e7,e8,ei,A4 (h.pre hp) hi,fun r=>A4 (h.pre (A0 hp r)) hi,h.len,A0 hp _,hp]
   refine Ad (Cv _ l[i-1].dot l[i].dot) ?_
   simp +contextual (disch:=omega) only[go_sem,Ko,c1,sub1 hz,A4 (h.pre hp) hj,fun r=>A4 (h.pre (A0 hp r)) hj,c0,e0,e1,e7,e8,ei,A4 (h.pre hp) hi,fun r=>A4 (h.pre (A0 hp r)) hi,h.len,A0 hp _,hp]
   cases ho:Bh l[i-1].dot l[i].dot with
   |true=>
    simp +contextual (disch:=omega) only[go_sem,c1,sub1 hz,A4 (h.pre hp) hj,fun r=>A4 (h.pre (A0 hp r)) hj,c0,e0,e1,e7,e8,ei,A4 (h.pre hp) hi,fun r=>A4 (h.pre (A0 hp r)) hi,h.len,A0 hp _,hp]
    exact Bo ha (by rw[hat];simp[h0,h1,h2,h3,ho,F5])
   |false=>
    simp +contextual (disch:=omega) only[go_sem,c1,sub1 hz,A4 (h.pre hp) hj,fun r=>A4 (h.pre (A0 hp r)) hj,c0,e0,e1,e7,e8,ei,A4 (h.pre hp) hi,fun r=>A4 (h.pre (A0 hp r)) hi,h.len,A0 hp _,hp]
    simp[hno (by rw[hat];simp[ho,F5])]
 ·rintro env τ ei c0 ⟨e0,e1,e7,e8,ha,hp⟩
  simp +contextual (disch:=omega) only[go_sem,c0,e0,e1,e7,e8,ei,h.len,hp]
  simp only[Hb,Dt ha,Za1]
  exact Xh
abbrev Tr:Nat:=165
def Ts:Fn1:=⟨2,[.t 0],(rg [o 0 (.mov (.k .nilS))] (rg [o 1 (.mks 1 8 [z0] (ki 3) (ki 3)),oM 0 1] .ret))⟩
theorem A1p:A6 Tryz.prog Tr=some Ts:=by kernel_rfl
abbrev Qr:Nat:=182
def Qs:Fn1:=⟨6,[.t 2],(rg [o 2 (.mov (.k .nilS))] (rg [o 3 (.lit 1 0 [] []),oM 4 0,o 5 (.app 1 8 [z0] (.t 3) (.t 4)),oM 2 5] .ret))⟩
theorem Zb:A6 Tryz.prog Qr=some Qs:=by kernel_rfl
abbrev Xi:Nat:=178
def Xj:Fn1:=⟨29,[.t 4],(rg [oV 4 kf] (.seq (rg [oM 6 0,oC 7 167 6,oU 8 7,oM 9 8,vM 10 9 1,vC 11 9 167 10,vU 12 9 11,oP 13 9 12] (cn 13 (rg [oV 4 kf] .ret) .skip)) (.seq (rg [oV 5 (ki 0)] (.blk 0 (.lop (.seq (rg [oM 14 5,oM 15 0,oN 16 15,oB 17 .lss 14 16] (cn 17 .skip (.ext 0))) (.seq (.blk 1 (dw [oM 20 0,oM 21 5,oI 22 1 20 21,oL 23 22,oM 24 1,oM 25 5,oI 26 1 24 25,oL 27 26] [oB 28 .gtr 23 27] (cn 28 (rg [oV 4 kf] .ret) .skip))) (.reg [oM 18 5,oZ 19 18 1,oM 5 19])))))) (rg [oV 4 kt] .ret))))⟩
theorem A4j:A6 Tryz.prog Xi=some Xj:=by kernel_rfl
abbrev Xk:Nat:=177
def Xl:Fn1:=⟨29,[.t 4],(rg [oV 4 kf] (.seq (rg [oM 7 0,oC 8 176 7,oU 9 8,oM 10 9,vM 11 10 1,vC 12 10 176 11,vU 13 10 12,oP 14 10 13] (cn 14 (rg [oV 4 kf] .ret) .skip)) (.seq (rg [oM 15 0,oN 16 15,oV 17 (ki 0)] (.blk 0 (.lop (rg [oB 18 .lss 17 16] (.seq (cn 18 .skip (.ext 0)) (.seq (.blk 1 (rg [oM 19 17,oI 20 1 15 17,oL 21 20,oM 5 19,oM 6 21] (rg [oM 22 6,oM 23 1,oM 24 5,oI 25 1 23 24,oL 26 25,oB 27 .gtr 22 26] (cn 27 (rg [oV 4 kf] .ret) .skip)))) (.reg [oZ 28 17 1,oM 17 28]))))))) (rg [oV 4 kt] .ret))))⟩
theorem A4k:A6 Tryz.prog Xk=some Xl:=by kernel_rfl
abbrev Tt:Nat:=171
def Tu:Fn1:=⟨26,[.t 4],(rg [oV 4 kf] (.seq (rg [oM 6 0,oN 7 6,oM 8 1,oN 9 8,oB 10 .neq 7 9] (cn 10 (rg [oV 4 kf] .ret) .skip)) (.seq (rg [oV 5 (ki 0)] (.blk 0 (.lop (.seq (rg [oM 11 5,oM 12 0,oN 13 12,oB 14 .lss 11 13] (cn 14 .skip (.ext 0))) (.seq (.blk 1 (dw [oM 17 0,oM 18 5,oI 19 1 17 18,oL 20 19,oM 21 1,oM 22 5,oI 23 1 21 22,oL 24 23] [oB 25 .neq 20 24] (cn 25 (rg [oV 4 kf] .ret) .skip))) (.reg [oM 15 5,oZ 16 15 1,oM 5 16])))))) (rg [oV 4 kt] .ret))))⟩
theorem A1q:A6 Tryz.prog Tt=some Tu:=by kernel_rfl
abbrev Fl:Nat:=156
def Fm:Fn1:=⟨26,[.t 4],(rg [oV 4 kf] (.seq (rg [oM 6 0,oN 7 6,oM 8 1,oN 9 8,oB 10 .neq 7 9] (cn 10 (rg [oV 4 kf] .ret) .skip)) (.seq (rg [oM 11 0,oN 12 11,oV 13 (ki 0)] (.blk 0 (.lop (rg [oB 14 .lss 13 12] (.seq (cn 14 .skip (.ext 0)) (.seq (.blk 1 (rg [oM 15 13,oM 5 15] (dw [oM 16 0,oM 17 5,oI 18 1 16 17,oL 19 18,oM 20 1,oM 21 5,oI 22 1 20 21,oL 23 22] [oB 24 .neq 19 23] (cn 24 (rg [oV 4 kf] .ret) .skip)))) (.reg [oZ 25 13 1,oM 13 25]))))))) (rg [oV 4 kt] .ret))))⟩
theorem J8:A6 Tryz.prog Fl=some Fm:=by kernel_rfl
theorem Zc (σ:St):∃ r τ,Ret Tryz.prog Tr [] σ r τ/\Hp σ τ [ow pI.kd r [0,0,0]]:=by
 refine A6c (rs:=fun r=>[ow pI.kd r [0,0,0]]) A1p (Z0z rfl) ?_
 have h3:Aw (some (.int .i64 3))=some 3:=rfl
 simp +contextual (disch:=omega) only[go_sem,Ts,h3,mks_ok (show 3*8<=140737488355328 by omega)]
 exact⟨_,rfl,((Hp.refl σ).new 1 (reps 3 [gi 0])).toRow 0 (p:=pI) rfl [0,0,0] rfl rfl 3 rfl⟩
theorem We (σ:St) (v:GV) (l:List Int) (h:RS pI.kd σ v l) (hl:l.length<=1099511627776):∃ r τ,Ret Tryz.prog Qr [v] σ r τ/\Hp σ τ [ow pI.kd r l]:=by
 refine A6c (rs:=fun r=>[ow pI.kd r l]) Zb (Z0z rfl) ?_
 obtain⟨v',τ',e,H⟩:=(Hp.refl σ).nil_int.apps_int 0 rfl (h.pre (pre1 _ _)) (by simp;omega)
 simp +contextual (disch:=omega) only[go_sem,Qs,e]
 exact⟨_,rfl,H⟩
def zipK (f:Int->Int->Int) (a b:List Int):List Int:=if okK a&&okK b then List.zipWith f a b else[]
def mx (x y:Int):Int:=if y>x then y else x
def kMax (a b:List Int):List Int:=zipK mx a b
def kLe:List Int->List Int->Bool
 |x::xs,y::ys=>decide (x<=y)&&kLe xs ys
 |_,_=>true
theorem A6h {a b:List Int} {i:Nat} (hi:i<a.length) (hj:i<b.length):kLe (a.drop i) (b.drop i)=(decide (a[i]<=b[i])&&kLe (a.drop (i+1)) (b.drop (i+1))):=by
 rw[Zak hi,Zak hj];rfl
def Fn (a b:List Int):Bool:=okK a&&(okK b&&kLe a b)
theorem Qt (σ:St) (v u:GV) (a b:List Int) (ha:RS pI.kd σ v a) (hb:RS pI.kd σ u b) (hla:a.length<=1099511627776) (hlb:b.length<=1099511627776):Ret Tryz.prog Xi [v,u] σ (.bool (Fn a b)) σ:=by
 refine Am A4j (Z0z rfl) trivial ?_
 simp +contextual (disch:=omega) only[go_sem,Xj]
 refine Aa (G8 _ v a ha hla) (fun h1=> ?_) (fun h1=> ?_)
 ·simp +contextual (disch:=omega) only[go_sem]
  refine Aa (G8 _ u b hb hlb) (fun h2=> ?_) (fun h2=> ?_)
  ·have la:=D8 h1
   have lb:=D8 h2
   simp +contextual (disch:=omega) only[go_sem,Fn,h1,h2]
   refine Cr a.length 5 (fun i env τ=>env 0=v/\env 1=u/\kLe (a.drop i) (b.drop i)=kLe a b/\σ <+: τ) rfl ⟨rfl,rfl,rfl,Zac _⟩ ?_ ?_
   ·rintro i env τ hi e5 c0 ⟨e0,e1,hk,hp⟩
    have hj:i<b.length:=by omega
    rw[A6h hi hj] at hk
    simp +contextual (disch:=omega) only[go_sem,c0,e0,e1,e5,ha.len,E6 (ha.pre hp) hi,E6 (hb.pre hp) hj,hp]
    grind
   ·rintro env τ e5 c0 ⟨e0,e1,hk,hp⟩
    rw[Zbf] at hk
    simp +contextual (disch:=omega) only[go_sem,c0,e0,e1,e5,ha.len,hp]
    rw[<- hk];rfl
  ·simp +contextual (disch:=omega) only[go_sem,Fn,h1,h2]
 ·simp +contextual (disch:=omega) only[go_sem,Fn,h1]
theorem A1r (σ:St) (v u:GV) (a b:List Int) (ha:RS pI.kd σ v a) (hb:RS pI.kd σ u b) (hla:a.length<=1099511627776) (hlb:b.length<=1099511627776):Ret Tryz.prog Xk [v,u] σ (.bool (Fn a b)) σ:=by
 refine Am A4k (Z0z rfl) trivial ?_
 simp +contextual (disch:=omega) only[go_sem,Xl]
 refine Aa (G9 _ v a ha hla) (fun h1=> ?_) (fun h1=> ?_)
 ·simp +contextual (disch:=omega) only[go_sem]
  refine Aa (G9 _ u b hb hlb) (fun h2=> ?_) (fun h2=> ?_)
  ·have la:=D8 h1
   have lb:=D8 h2
   simp +contextual (disch:=omega) only[go_sem,Fn,h1,h2,ha.len]
   refine Cr a.length 17 (fun i env τ=>env 1=u/\env 15=v/\env 16=gi a.length/\kLe (a.drop i) (b.drop i)=kLe a b/\σ <+: τ) rfl ⟨rfl,rfl,rfl,rfl,Zac _⟩ ?_ ?_
   ·rintro i env τ hi e17 c0 ⟨e1,e15,e16,hk,hp⟩
    have hj:i<b.length:=by omega
    rw[A6h hi hj] at hk
    simp +contextual (disch:=omega) only[go_sem,c0,e1,e15,e16,e17,E6 (ha.pre hp) hi,E6 (hb.pre hp) hj,hp]
    grind
   ·rintro env τ e17 c0 ⟨e1,e15,e16,hk,hp⟩
    rw[Zbf] at hk
    simp +contextual (disch:=omega) only[go_sem,c0,e1,e15,e16,e17,hp]
    rw[<- hk];rfl
  ·simp +contextual (disch:=omega) only[go_sem,Fn,h1,h2]
 ·simp +contextual (disch:=omega) only[go_sem,Fn,h1]
theorem Pi (σ:St) (v u:GV) (a b:List Int) (ha:RS pI.kd σ v a) (hb:RS pI.kd σ u b) (hla:a.length<=1099511627776):Ret Tryz.prog Tt [v,u] σ (.bool (decide (a=b))) σ:=by
 refine Am A1q (Z0z rfl) trivial ?_
 simp +contextual (disch:=omega) only[go_sem,Tu,ha.len,hb.len]
 refine⟨fun hn=> ?_,fun hn=> ?_⟩
 ·have:a≠b:=fun h=>by subst h;simp at hn
  simp[this]
 ·have hlm:a.length=b.length:=by
                     have h2:(a.length:Int)=b.length:=by simpa using hn
                     omega
  refine Cr a.length 5 (fun i env τ=>env 0=v/\env 1=u/\a.take i=b.take i/\σ <+: τ) rfl ⟨rfl,rfl,rfl,Zac _⟩ ?_ ?_
  ·rintro i env τ hi e5 c0 ⟨e0,e1,he,hp⟩
   have hj:i<b.length:=by omega
   have hne:a[i]≠b[i]->a≠b:=fun h h'=>h (by subst h';rfl)
   have hst:a[i]=b[i]->a.take (i+1)=b.take (i+1):=fun h=>by rw[Av hi,Av hj,he,h]
   simp +contextual (disch:=omega) only[go_sem,c0,e0,e1,e5,ha.len,hb.len,E6 (ha.pre hp) hi,E6 (hb.pre hp) hj,hp]
   refine⟨fun h=> ?_,fun h=> ?_⟩
   ·simp[hne (by simpa using h)]
   ·simpa using hst (by simpa using h)
  ·rintro env τ e5 c0 ⟨e0,e1,he,hp⟩
   rw[Zaf,hlm,Zaf] at he
   simp +contextual (disch:=omega) only[go_sem,c0,e0,e1,e5,ha.len,hb.len,hp]
   simp[he]
theorem Dx (σ:St) (v u:GV) (a b:List Int) (ha:RS pI.kd σ v a) (hb:RS pI.kd σ u b) (hla:a.length<=1099511627776):Ret Tryz.prog Fl [v,u] σ (.bool (decide (a=b))) σ:=by
 refine Am J8 (Z0z rfl) trivial ?_
 simp +contextual (disch:=omega) only[go_sem,Fm,ha.len,hb.len]
 refine⟨fun hn=> ?_,fun hn=> ?_⟩
 ·have:a≠b:=fun h=>by subst h;simp at hn
  simp[this]
 ·have hlm:a.length=b.length:=by
                     have h2:(a.length:Int)=b.length:=by simpa using hn
                     omega
  refine Cr a.length 13 (fun i env τ=>env 0=v/\env 1=u/\env 12=gi a.length/\a.take i=b.take i/\σ <+: τ) rfl ⟨rfl,rfl,rfl,rfl,Zac _⟩ ?_ ?_
  ·rintro i env τ hi e13 c0 ⟨e0,e1,e12,he,hp⟩
   have hj:i<b.length:=by omega
   have hne:a[i]≠b[i]->a≠b:=fun h h'=>h (by subst h';rfl)
   have hst:a[i]=b[i]->a.take (i+1)=b.take (i+1):=fun h=>by rw[Av hi,Av hj,he,h]
   simp +contextual (disch:=omega) only[go_sem,c0,e0,e1,e12,e13,E6 (ha.pre hp) hi,E6 (hb.pre hp) hj,hp]
   refine⟨fun h=> ?_,fun h=> ?_⟩
   ·simp[hne (by simpa using h)]
   ·simpa using hst (by simpa using h)
  ·rintro env τ e13 c0 ⟨e0,e1,e12,he,hp⟩
   rw[Zaf,hlm,Zaf] at he
   simp +contextual (disch:=omega) only[go_sem,c0,e0,e1,e12,e13,hp]
   simp[he]
abbrev Pj:Nat:=146
def Xm:Fn1:=⟨22,[.t 4],(rg [oX 2 0,oX 3 1,oV 4 (ki 0)] (.seq (rg [oV 5 (ki 0)] (.blk 0 (.lop (.seq (rg [oM 6 5,oF 7 3 2,oL 8 7,oN 9 8,oB 10 .lss 6 9] (cn 10 .skip (.ext 0))) (.seq (.blk 1 (dw [oF 13 3 2,oL 14 13,oM 15 5,oI 16 8 14 15,oF 17 1 16,oW 18 2 17,oW 19 2 3] [o 20 (.eqs false [.i .i64,.i .i64] (.t 18) (.t 19))] (cn 20 (rg [oM 21 5,oM 4 21] .ret) .skip))) (.reg [oM 11 5,oZ 12 11 1,oM 5 12])))))) (rg [o 4 (.mov (ki (-1)))] .ret)))⟩
theorem A4l:A6 Tryz.prog Pj=some Xm:=by kernel_rfl
abbrev Pk:Nat:=158
def Xn:Fn1:=⟨9,[.t 4],(rg [oX 2 0,oX 3 1,oV 4 (ki 0)] (rg [oF 5 3 2,oL 6 5,o 7 (.mkf 265 [(.t 3)]),oD 8 263 6 7,oM 4 8] .ret))⟩
theorem A4m:A6 Tryz.prog Pk=some Xn:=by kernel_rfl
abbrev J9:Nat:=265
def Ny:Fn1:=⟨8,[.t 3],(rg [oX 2 0,oV 3 kf] (rg [oF 4 1 2,oW 5 2 4,oW 6 2 1,o 7 (.eqs false [.i .i64,.i .i64] (.t 5) (.t 6)),oM 3 7] .ret))⟩
theorem Wf:A6 Tryz.prog J9=some Ny:=by kernel_rfl
abbrev Bv:Nat:=263
def Bw:Fn1:=⟨19,[.t 4],(rg [oV 4 (ki 0)] (.seq (rg [oM 6 0,oN 7 6,oV 8 (ki 0)] (.blk 0 (.lop (rg [oB 9 .lss 8 7] (.seq (cn 9 .skip (.ext 0)) (.seq (.blk 1 (rg [oM 10 8,oM 5 10] (rg [oM 11 1,oM 12 0,oM 13 5,oI 14 8 12 13,oW 15 8 14,o 16 (.callv (.t 11) [(.t 15)])] (cn 16 (rg [oM 17 5,oM 4 17] .ret) .skip)))) (.reg [oZ 18 8 1,oM 8 18]))))))) (rg [o 4 (.mov (ki (-1)))] .ret)))⟩
theorem Dm:A6 Tryz.prog Bv=some Bw:=by kernel_rfl
abbrev Xo:Nat:=288
def Xp:Fn1:=⟨63,[.t 2],(rg [oV 2 kf] (rg [o 10 (.mkm),oM 3 10] (.seq (rg [oM 11 0,oN 12 11,oV 13 (ki 0)] (.blk 0 (.lop (rg [oB 14 .lss 13 12] (.seq (cn 14 .skip (.ext 0)) (.seq (.blk 1 (rg [oM 15 13,oI 16 8 11 13,oW 17 8 16,o 5 (.new [s0,z0,z0,z0,z0,z0,z0,(.bool false)]),oM 4 15,oS 8 5 17] (.reg [oM 18 3,oF 19 1 5,oW 20 2 19,oM 21 4,on (.mup [.i .i64,.i .i64] (.t 18) (.t 20) (.t 21))]))) (.reg [oZ 22 13 1,oM 13 22]))))))) (.seq (rg [oM 23 0,oN 24 23,oV 25 (ki 0)] (.blk 2 (.lop (rg [oB 26 .lss 25 24] (.seq (cn 26 .skip (.ext 2)) (.seq (.blk 3 (rg [oI 27 8 23 25,oW 28 8 27,o 7 (.new [s0,z0,z0,z0,z0,z0,z0,(.bool false)]),oS 8 7 28] (.seq (rg [oF 29 4 7,oW 30 2 29,o 31 (.build [z0,z0] []),o 32 (.eqs false [.i .i64,.i .i64] (.t 30) (.t 31))] (cn 32 (.ext 3) .skip)) (rg [oM 34 3,oF 35 4 7,oW 36 2 35,o 37 (.mlk [.i .i64,.i .i64] z0 true (.t 34) (.t 36)),oM 33 37,o 38 (.ext 0 (.t 33)),o 39 (.ext 1 (.t 33)),oM 8 38,oM 9 39] (dw [oM 40 9,oU 41 40,oM 42 41,vM 43 42 0,vM 44 42 8,vI 45 42 8 43 44,vF 46 42 0 45,vL 47 42 46,vF 48 42 0 7,vL 49 42 48,vB 50 42 .neq 47 49,oP 51 42 50,oM 52 51,vM 53 52 0,vM 54 52 8,vI 55 52 8 53 54,vF 56 52 3 55,vL 57 52 56,vF 58 52 3 7,vL 59 52 58] [vB 60 52 .geq 57 59,oP 61 52 60] (cn 61 (rg [oV 2 kf] .ret) .skip)))))) (.reg [oZ 62 25 1,oM 25 62]))))))) (rg [oV 2 kt] .ret)))))⟩
theorem A4n:A6 Tryz.prog Xo=some Xp:=by kernel_rfl
abbrev Tv:Nat:=199
def Tw:Fn1:=⟨96,[.t 2],(rg [oX 1 0,oV 2 kf] (.seq (rg [oF 7 0 1,oL 8 7,oC 9 167 8,oU 10 9,oM 11 10,vF 12 11 1 1,vL 13 11 12,vC 14 11 290 13,vU 15 11 14,oP 16 11 15,oM 17 16,vF 18 17 2 1,vL 19 17 18,vC 20 17 291 19,vU 21 17 20,oP 22 17 21,oM 23 22,vF 24 23 3 1,vL 25 23 24,vC 26 23 292 25,vU 27 23 26,oP 28 23 27] (cn 28 (rg [oV 2 kf] .ret) .skip)) (.seq (rg [oV 3 (ki 0)] (.blk 0 (.lop (.seq (rg [oM 29 3,oF 30 2 1,oL 31 30,oN 32 31,oB 33 .lss 29 32] (cn 33 .skip (.ext 0))) (.seq (.blk 1 (dw [oF 36 0 1,oL 37 36,oF 38 2 1,oL 39 38,oM 40 3,oI 41 6 39 40,oF 42 4 41,oW 43 2 42] [oD 44 45 37 43,oU 45 44] (cn 45 (rg [oV 2 kf] .ret) .skip))) (.reg [oM 34 3,oZ 35 34 1,oM 3 35])))))) (.seq (rg [oV 4 (ki 0)] (.blk 2 (.lop (.seq (rg [oM 46 4,oF 47 3 1,oL 48 47,oN 49 48,oB 50 .lss 46 49] (cn 50 .skip (.ext 2))) (.seq (.blk 3 (rg [oF 53 3 1,oL 54 53,oM 55 4,oI 56 8 54 55,oW 57 8 56,o 5 (.new [s0,z0,z0,z0,z0,z0,z0,(.bool false)]),oS 8 5 57] (.seq (rg [oF 58 0 1,oL 59 58,oF 60 1 5,oW 61 2 60,oD 62 45 59 61,oU 63 62] (cn 63 (rg [oV 2 kf] .ret) .skip)) (.seq (rg [oF 64 4 5,oW 65 2 64,o 66 (.build [z0,z0] []),o 67 (.eqs false [.i .i64,.i .i64] (.t 65) (.t 66))] (cn 67 (.ext 3) .skip)) (rg [oW 68 4 1,oF 69 4 5,oW 70 2 69,oD 71 146 68 70,oM 6 71] (dw [oM 72 6,oE 73 .lss 72 0,oM 74 73,vF 75 74 3 1,vL 76 74 75,vM 77 74 6,vI 78 74 8 76 77,vF 79 74 0 78,vL 80 74 79,vF 81 74 0 5,vL 82 74 81,vB 83 74 .neq 80 82,oP 84 74 83,oM 85 84,vF 86 85 3 1,vL 87 85 86,vM 88 85 6,vI 89 85 8 87 88,vF 90 85 3 89,vL 91 85 90,vF 92 85 3 5,vL 93 85 92] [vB 94 85 .geq 91 93,oP 95 85 94] (cn 95 (rg [oV 2 kf] .ret) .skip))))))) (.reg [oM 51 4,oZ 52 51 1,oM 4 52])))))) (rg [oV 2 kt] .ret)))))⟩
theorem A1s:A6 Tryz.prog Tv=some Tw:=by kernel_rfl
abbrev Tx:Nat:=195
def Ty:Fn1:=⟨30,[.t 2],(rg [oX 1 0,oV 2 kf] (rg [oF 3 0 1,oL 4 3,oC 5 176 4,oM 6 5,jF 7 6 1 1,jL 8 6 7,jC 9 6 285 8,oQ 10 6 9,oM 11 10,jF 12 11 2 1,jL 13 11 12,jF 14 11 0 1,jL 15 11 14,jD 16 11 286 13 15,oQ 17 11 16,oM 18 17,jF 19 18 3 1,jL 20 18 19,jF 21 18 0 1,jL 22 18 21,jD 23 18 287 20 22,oQ 24 18 23,oM 25 24,jF 26 25 3 1,jL 27 25 26,jC 28 25 288 27,oQ 29 25 28,oM 2 29] .ret))⟩
theorem A1t:A6 Tryz.prog Tx=some Ty:=by kernel_rfl
abbrev Mp:Nat:=247
def Tz:Fn1:=⟨20,[.c 2 true 4],(rg [oX 1 0,o 2 (.new [.nilS,.nilS,.nilS,.nilS])] (dw [o 3 (.lit 1 0 [] []),oF 4 0 1,oL 5 4,o 6 (.app 1 8 [z0] (.t 3) (.t 5)),o 7 (.lit 3 0 [] []),oF 8 1 1,oL 9 8,o 10 (.app 3 32 [s0,z0,z0] (.t 7) (.t 9)),o 11 (.lit 6 0 [] []),oF 12 2 1,oL 13 12,o 14 (.app 6 64 [(.bool false),s0,s0,z0,z0,z0] (.t 11) (.t 13)),o 15 (.lit 8 0 [] []),oF 16 3 1,oL 17 16] [o 18 (.app 8 72 [s0,z0,z0,z0,z0,z0,z0,(.bool false)] (.t 15) (.t 17)),o 19 (.build [.nilS,.nilS,.nilS,.nilS] [(0,1,(.t 6)),(1,1,(.t 10)),(2,1,(.t 14)),(3,1,(.t 18))]),oS 4 2 19] .ret))⟩
theorem A1u:A6 Tryz.prog Mp=some Tz:=by kernel_rfl
theorem U0 (σ:St) (a b c v:GV) (l:List Cell) (d:Dot) (h:RS Aj.kd σ v l) (hl:l.length<=1099511627776):Ret Tryz.prog Pj [.agg [a,b,c,v],.agg [gi d.rep,gi d.seq]] σ (gi (Eq l d)) σ:=by
 refine Am A4l (Z0z rfl) trivial ?_
 simp +contextual (disch:=omega) only[go_sem,Xm]
 refine Cr l.length 5 (fun i env τ=>env 2= .ptr σ.length 0/\env 3= .ptr (σ++[some (Blk.row 1 [a,b,c,v])]).length 0/\(∀ j (hj:j<i) (hl:j<l.length),l[j].dot≠d)/\σ++[some (.row 1 [a,b,c,v])]++[some (.row 1 [gi d.rep,gi d.seq])] <+: τ) rfl ⟨rfl,rfl,fun j hj=>by omega,Zac _⟩ ?_ ?_
 ·rintro i env τ hi e5 c0 ⟨e2,e3,ha,hp⟩
  have h1:=h.pre (Z4 hp)
  by_cases hd:l[i].dot=d
  ·have hq:Eq l d=i:=by rw[Eq,A4e hi (fun j hj=>ha j hj (by omega)) hd]
   simp +contextual (disch:=omega) only[go_sem,c0,e2,e3,e5,A7 (A3z hp),A7 (M3 hp),h.len,A4 h1 hi,hp,decide_eq_true hd,hq,Z4 hp]
  ·simp +contextual (disch:=omega) only[go_sem,c0,e2,e3,e5,A7 (A3z hp),A7 (M3 hp),h.len,A4 h1 hi,hp,decide_eq_false hd]
   intro j hj hl
   rcases Za4 j i with h2|h2
   ·exact ha j h2 hl
   ·have:j=i:=by omega
    subst this;exact hd
 ·rintro env τ e5 c0 ⟨e2,e3,ha,hp⟩
  have hq:Eq l d= -1:=by rw[Eq,A4f (fun j hj=>ha j hj hj)]
  simp +contextual (disch:=omega) only[go_sem,c0,e2,e3,e5,A7 (A3z hp),h.len,hq,Z4 hp]
theorem Ia (σ:St) (v:GV) (l:List Cell) (h:RS Aj.kd σ v l) (hl:l.length<=1099511627776) (f:Nat) (cs:List (Nat×Nat)) (p:Cell->Bool) (hf:∀(τ:St) (x:Cell),σ <+: τ->Ret Tryz.prog f (.agg (Aj.enc x)::cs.map fun c=>.ptr c.1 c.2) τ (.bool (p x)) τ):
  Ret Tryz.prog Bv [v,.fn f cs] σ (gi (match l.findIdx? p with|some k=>(k:Int)|none=> -1)) σ:=by
 refine Am Dm (Z0z rfl) trivial ?_
 simp +contextual (disch:=omega) only[go_sem,Bw,h.len]
 refine Cr l.length 8 (fun i env τ=>env 0=v/\env 1= .fn f cs/\env 6=v/\env 7=gi l.length/\(∀ j (hj:j<i) (hl:j<l.length),p l[j]=false)/\σ <+: τ) rfl ⟨rfl,rfl,rfl,rfl,fun j hj=>by omega,Zac _⟩ ?_ ?_
 ·rintro i env τ hi e8 c0 ⟨e0,e1,e6,e7,ha,hp⟩
  simp +contextual (disch:=omega) only[go_sem,c0,e0,e1,e6,e7,e8,A4 (h.pre hp) hi,hp]
  have hpx:=hf τ l[i] hp
  refine Aa hpx (fun h1=> ?_) (fun h1=> ?_)
  ·have hq:l.findIdx? p=some i:=Zau.2 ⟨hi,h1,fun j hj=>by simp[ha j hj (by omega)]⟩
   simp +contextual (disch:=omega) only[go_sem,c0,e0,e1,e6,e7,e8,hq,hp]
  ·simp +contextual (disch:=omega) only[go_sem,c0,e0,e1,e6,e7,e8,hp]
   intro j hj hl
   rcases Za4 j i with h2|h2
   ·exact ha j h2 hl
   ·have:j=i:=by omega
    subst this;exact h1
 ·rintro env τ e8 c0 ⟨e0,e1,e6,e7,ha,hp⟩
  have hq:l.findIdx? p=none:=by
   rw[Zax]
   intro x hx
   obtain⟨j,hj,rfl⟩:=Zaq hx
   exact ha j hj hj
  simp +contextual (disch:=omega) only[go_sem,c0,e0,e1,e6,e7,e8,hq,hp]
theorem U1 (τ:St) (x:Cell) (g:Nat) (d:Dot) (hg:rdB τ g=some [gi d.rep,gi d.seq]):Ret Tryz.prog J9 [.agg (Aj.enc x),.ptr g 0] τ (.bool (decide (x.dot=d))) τ:=by
 refine Am Wf (Z0z rfl) trivial ?_
 simp +contextual (disch:=omega) only[go_sem,Ny,A6b,A7 (Pf hg _)]
theorem A4o (σ:St) (a b c v:GV) (l:List Cell) (d:Dot) (h:RS Aj.kd σ v l) (hl:l.length<=1099511627776):Ret Tryz.prog Pk [.agg [a,b,c,v],.agg [gi d.rep,gi d.seq]] σ (gi (Eq l d)) σ:=by
 refine Am A4m (Z0z rfl) trivial ?_
 simp +contextual (disch:=omega) only[go_sem,Xn]
 have R:=Ia (σ++[some (.row 1 [a,b,c,v])]++[some (.row 1 [gi d.rep,gi d.seq])]) v l (h.pre pre2) hl J9 [((σ++[some (Blk.row 1 [a,b,c,v])]).length,0)] (fun c=>decide (c.dot=d)) (fun τ x hp=>U1 τ x _ d (M3 hp))
 refine Ad R ?_
 simp +contextual (disch:=omega) only[go_sem]
 rfl
theorem A1v (σ:St) (v:GV) (l:List Cell) (h:RS Aj.kd σ v l) (hl:l.length<=1099511627776) (hu:l.Pairwise fun a b=>Bh a.dot b.dot=true):Ret Tryz.prog Xo [v] σ (.bool (Xg l)) σ:=by
 refine Am A4n (Z0z rfl) trivial ?_
 simp +contextual (disch:=omega) only[go_sem,Xp,h.len]
 have H0:=(Hp.refl σ).newMap
 refine Cr l.length 13 (fun i env τ=>env 0=v/\env 3= .mp σ.length/\env 11=v/\env 12=gi l.length/\Hp σ τ [mpt (.mp σ.length) (plc 0 (l.take i))]) rfl ⟨rfl,rfl,rfl,rfl,H0⟩ ?_ ?_
 ·rintro i env τ hi e13 c0 ⟨e0,e3,e11,e12,H⟩
  obtain⟨τ',e,H2⟩:=(H.grow (pre1 τ (some (Blk.row 1 [.str l[i].obj,gi l[i].dot.rep,gi l[i].dot.seq,gi l[i].time,gi l[i].ref.rep,gi l[i].ref.seq,gi l[i].val,.bool l[i].gone])))).mup 0 rfl l[i].dot i (Ad2 hu hi)
  simp +contextual (disch:=omega) only[go_sem,c0,e0,e3,e11,e12,e13,A4 (h.pre H.sub) hi,fun r=>A4 (h.pre (A0 H.sub r)) hi,e]
  rw[Aas hi]
  exact H2
 ·rintro env τ e13 c0 ⟨e0,e3,e11,e12,H⟩
  rw[Zaf] at H
  simp +contextual (disch:=omega) only[go_sem,c0,e0,e3,e11,e12,e13,(h.pre H.sub).len]
  refine Cr l.length 25 (fun i env τ=>env 0=v/\env 3= .mp σ.length/\env 23=v/\env 24=gi l.length/\(l.take i).all (ref1 l)=true/\Hp σ τ [mpt (.mp σ.length) (plc 0 l)]) rfl ⟨e0,e3,rfl,rfl,rfl,H⟩ ?_ ?_
  ·rintro i env τ hi e25 c0 ⟨e0,e3,e23,e24,ha,H⟩
   have hf:=fun h=>Dk (p:=ref1 l) hi h
   have ht:=D6 hi ha
   have G:=H.grow (pre1 τ (some (Blk.row 1 [.str l[i].obj,gi l[i].dot.rep,gi l[i].dot.seq,gi l[i].time,gi l[i].ref.rep,gi l[i].ref.seq,gi l[i].val,.bool l[i].gone])))
   have hlk:=G.mlk 0 rfl l[i].ref
   have hdl:=Tk l[i].ref 0 l
   by_cases hr:l[i].ref=⟨0,0⟩
   ·simp +contextual (disch:=omega) only[go_sem,c0,e0,e3,e23,e24,e25,A4 (h.pre H.sub) hi,decide_eq_true hr]
    exact⟨ht (by simp[ref1,hr]),G⟩
   ·cases hx:Dw l l[i].ref with
    |none=>
     rw[hx] at hdl
     have hb:ref1 l l[i]=false:=by simp[ref1,hr,hx]
     rw[hdl] at hlk
     simp +contextual (disch:=omega) only[go_sem,c0,e0,e3,e23,e24,e25,A4 (h.pre H.sub) hi,decide_eq_false hr,hlk,Option.map_none,Option.isSome_none,Option.getD_none]
     exact⟨by simp[Xg,hf hb],G.sub⟩
    |some k=>
     rw[hx] at hdl
     obtain⟨hkl,_⟩:=Cp hx
     have hb:ref1 l l[i]=(decide (l[k].obj=l[i].obj)&&decide (l[k].time<l[i].time)):=by simp[ref1,hr,hx,Bl hkl]
     rw[hdl] at hlk
     simp +contextual (disch:=omega) only[go_sem,c0,e0,e3,e23,e24,e25,A4 (h.pre H.sub) hi,decide_eq_false hr,hlk,Zbh,Option.isSome_some,Zb0,Nat.zero_add,A4 (h.pre H.sub) hkl,fun r=>A4 (h.pre (A0 H.sub r)) hkl]
     refine⟨fun q1=>⟨?_,G.sub⟩,fun q1=>⟨fun q2=>⟨?_,G.sub⟩,fun q2=>⟨ht ?_,G⟩⟩⟩
     ·simp only[Zbv] at q1
      rw[q1] at hb
      simp[Xg,hf (by rw[hb];rfl)]
     ·rw[decide_eq_false (show ¬ l[k].time<l[i].time by have:=of_decide_eq_true q2;omega),Zb6] at hb
      simp[Xg,hf hb]
     ·simp only[Zbr] at q1
      rw[hb,q1,decide_eq_true (show l[k].time<l[i].time by have:=of_decide_eq_false q2;omega)];rfl
  ·rintro env τ e25 c0 ⟨e0,e3,e23,e24,ha,H⟩
   rw[Zaf] at ha
   simp +contextual (disch:=omega) only[go_sem,c0,e0,e3,e23,e24,e25,H.sub]
   exact ha.symm
theorem Ao {s:State} (h:Ah s<=1099511627776):s.know.length<=1099511627776/\s.tallies.length<=1099511627776/\s.lives.length<=1099511627776/\s.cells.length<=1099511627776/\
  (∀ x∈s.tallies,x.obj.size<=1099511627776)/\(∀ x∈s.lives,x.obj.size<=1099511627776/\x.key.size<=1099511627776)/\∀ x∈s.cells,x.obj.size<=1099511627776:=by
 unfold Ah at h
 refine⟨by omega,by omega,by omega,by omega,fun x hx=> ?_,fun x hx=> ?_,fun x hx=> ?_⟩
 ·have h1:=Hm (f:=J5) hx
  unfold J5 at h1;unfold J5 at h;omega
 ·have h1:=Hm (f:=Kl) hx
  unfold Kl at h1;unfold Kl at h;omega
 ·have h1:=Hm (f:=No) hx
  unfold No at h1;unfold No at h;omega
theorem Nz (σ:St) (cs:List GV) (s:State) (hR:A8.R σ s cs) (hl:Ah s<=1099511627776):Ret Tryz.prog Tx [.agg cs] σ (.bool (B6 s)) σ:=by
 obtain⟨a,b,c,v,rfl,hk,ht,hv,hc⟩:=hR
 obtain⟨l1,l2,l3,l4,z1,z2,z3⟩:=Ao hl
 have p1:=pre1 σ (some (Blk.row 1 [a,b,c,v]))
 refine Am A1t (Z0z rfl) trivial ?_
 simp +contextual (disch:=omega) only[go_sem,Ty]
 refine Aa (G9 _ a s.know (hk.pre p1) l1) (fun h1=> ?_) (fun h1=> ?_)
 rotate_left
 ·simp +contextual (disch:=omega) only[go_sem]
  simp[B6,h1]
 simp +contextual (disch:=omega) only[go_sem]
 refine Aa (Kw _ b s.tallies (ht.pre p1) l2 z1) (fun h2=> ?_) (fun h2=> ?_)
 rotate_left
 ·simp +contextual (disch:=omega) only[go_sem]
  simp[B6,h2]
 simp +contextual (disch:=omega) only[go_sem]
 refine Aa (Nw _ c s.lives (hv.pre p1) a s.know (hk.pre p1) l1 l3 z2) (fun h3=> ?_) (fun h3=> ?_)
 rotate_left
 ·simp +contextual (disch:=omega) only[go_sem]
  simp[B6,h3]
 simp +contextual (disch:=omega) only[go_sem]
 refine Aa (Nx _ v s.cells (hc.pre p1) a s.know (hk.pre p1) l1 l4 z3) (fun h4=> ?_) (fun h4=> ?_)
 rotate_left
 ·simp +contextual (disch:=omega) only[go_sem]
  simp[B6,h4]
 simp +contextual (disch:=omega) only[go_sem]
 refine Ad (A1v _ v s.cells (hc.pre p1) l4 (A4d h4)) ?_
 simp +contextual (disch:=omega) only[go_sem]
 simp[B6,h1,h2,h3,h4]
theorem Ad3:decide ((-1:Int)<0)=true:=rfl
theorem Gp (σ:St) (cs:List GV) (s:State) (hR:A8.R σ s cs) (hl:Ah s<=1099511627776):Ret Tryz.prog Tv [.agg cs] σ (.bool (B6 s)) σ:=by
 obtain⟨a,b,c,v,rfl,hk,ht,hv,hc⟩:=hR
 obtain⟨l1,l2,l3,l4,z1,z2,z3⟩:=Ao hl
 have p1:=pre1 σ (some (Blk.row 1 [a,b,c,v]))
 rw[<- A4c]
 refine Am A1s (Z0z rfl) trivial ?_
 simp +contextual (disch:=omega) only[go_sem,Tw]
 refine Aa (G8 _ a s.know (hk.pre p1) l1) (fun h1=> ?_) (fun h1=> ?_)
 rotate_left
 ·simp +contextual (disch:=omega) only[go_sem]
  simp[Ec,h1]
 simp +contextual (disch:=omega) only[go_sem]
 refine Aa (Ju _ b s.tallies (ht.pre p1) l2 z1) (fun h2=> ?_) (fun h2=> ?_)
 rotate_left
 ·simp +contextual (disch:=omega) only[go_sem]
  simp[Ec,h2]
 simp +contextual (disch:=omega) only[go_sem]
 refine Aa (M7 _ c s.lives (hv.pre p1) l3 z2) (fun h3=> ?_) (fun h3=> ?_)
 rotate_left
 ·simp +contextual (disch:=omega) only[go_sem]
  simp[Ec,h3]
 simp +contextual (disch:=omega) only[go_sem]
 refine Aa (M8 _ v s.cells (hc.pre p1) l4 z3) (fun h4=> ?_) (fun h4=> ?_)
 rotate_left
 ·simp +contextual (disch:=omega) only[go_sem]
  simp[Ec,h4]
 simp +contextual (disch:=omega) only[go_sem]
 refine Cr s.lives.length 3 (fun i env τ=>env 1= .ptr σ.length 0/\(s.lives.take i).all (livK s.know)=true/\σ++[some (.row 1 [a,b,c,v])] <+: τ) rfl ⟨rfl,rfl,Zac _⟩ ?_ ?_
 ·rintro i env τ hi e3 c0 ⟨e1,ha,hp⟩
  have hf:=fun h=>Dk (p:=livK s.know) hi h
  have hq:=D6 hi ha
  simp +contextual (disch:=omega) only[go_sem,c0,e1,e3,A7 (M3 hp),hv.len,A5 (hv.pre (D7 hp)) hi]
  refine Aa (Co _ a s.know s.lives[i].dot (hk.pre (D7 hp)) l1) (fun h5=> ?_) (fun h5=> ?_)
  ·simp +contextual (disch:=omega) only[go_sem,e1,e3,hp]
   exact hq h5
  ·simp +contextual (disch:=omega) only[go_sem,D7 hp]
   simp[Ec,hf h5]
 ·rintro env τ e3 c0 ⟨e1,ha5,hp⟩
  rw[Zaf] at ha5
  simp +contextual (disch:=omega) only[go_sem,c0,e1,e3,A7 (M3 hp),hv.len]
  refine Cr s.cells.length 4 (fun i env τ=>env 1= .ptr σ.length 0/\(s.cells.take i).all (celK s.cells s.know)=true/\σ++[some (.row 1 [a,b,c,v])] <+: τ) rfl ⟨e1,rfl,hp⟩ ?_ ?_
  ·rintro i env τ hi e4 c0 ⟨e1,ha,hp⟩
   have hf:=fun h=>Dk (p:=celK s.cells s.know) hi h
   have hq:=D6 hi ha
   have C0:=A4 (hc.pre (D7 hp)) hi
   have hr:=M3 hp
   have hr2:rdB (τ++[some (Blk.row 1 [.str s.cells[i].obj,gi s.cells[i].dot.rep,gi s.cells[i].dot.seq,gi s.cells[i].time,gi s.cells[i].ref.rep,gi s.cells[i].ref.seq,gi s.cells[i].val,.bool s.cells[i].gone])]) σ.length=some [a,b,c,v]:=Pf hr _
   simp +contextual (disch:=omega) only[go_sem,c0,e1,e4,A7 hr,A7 hr2,hc.len,C0]
   refine Aa (Co _ a s.know s.cells[i].dot (hk.pre (A0 (D7 hp) _)) l1) (fun h6=> ?_) (fun h6=> ?_)
   rotate_left
   ·simp +contextual (disch:=omega) only[go_sem,D7 hp,A0 (D7 hp) _]
    simp[Ec,hf (by simp[celK,h6])]
   by_cases hz:s.cells[i].ref=⟨0,0⟩
   ·simp +contextual (disch:=omega) only[go_sem,e1,e4,decide_eq_true hz,A0 hp _]
    exact hq (by simp[celK,ref1,h6,hz])
   ·simp +contextual (disch:=omega) only[go_sem,e1,e4,decide_eq_false hz,A7 hr2]
    refine Ad (U0 _ a b c v s.cells s.cells[i].ref (hc.pre (A0 (D7 hp) _)) l4) ?_
    cases hx:Dw s.cells s.cells[i].ref with
    |none=>
     have hb:celK s.cells s.know s.cells[i]=false:=by simp[celK,ref1,hz,hx]
     have hn:Eq s.cells s.cells[i].ref= -1:=by simp[Eq,hx]
     simp +contextual (disch:=omega) only[go_sem,hn,Ad3,D7 hp,A0 (D7 hp) _]
     simp[Ec,hf hb]
    |some k=>
     obtain⟨hkl,_⟩:=Cp hx
     have hb:celK s.cells s.know s.cells[i]=(decide (s.cells[k].obj=s.cells[i].obj)&&decide (s.cells[k].time<s.cells[i].time)):=by simp[celK,h6,ref1,hz,hx,Bl hkl]
     have hn:Eq s.cells s.cells[i].ref=k:=by simp[Eq,hx]
     have hd:decide ((k:Int)<0)=false:=by simp
     simp +contextual (disch:=omega) only[go_sem,hn,hd,e1,e4,A7 hr2,A4 (hc.pre (D7 hp)) hkl,fun r=>A4 (hc.pre (A0 (D7 hp) r)) hkl,D7 hp,A0 (D7 hp) _,A0 hp _]
     refine⟨fun q1=> ?_,fun q1=>⟨fun q2=> ?_,fun q2=>hq ?_⟩⟩
     ·simp only[Zbv] at q1
      rw[q1] at hb
      simp[Ec,hf (by rw[hb];rfl)]
     ·rw[decide_eq_false (show ¬ s.cells[k].time<s.cells[i].time by have:=of_decide_eq_true q2;omega),Zb6] at hb
      simp[Ec,hf hb]
     ·simp only[Zbr] at q1
      rw[hb,q1,decide_eq_true (show s.cells[k].time<s.cells[i].time by have:=of_decide_eq_false q2;omega)];rfl
  ·rintro env τ e4 c0 ⟨e1,ha,hp⟩
   rw[Zaf] at ha
   simp +contextual (disch:=omega) only[go_sem,c0,e1,e4,A7 (M3 hp),hc.len,D7 hp]
   simp[Ec,h1,h2,h3,h4,ha5,ha]
theorem Qu (σ:St) (cs:List GV) (s:State) (hR:A8.R σ s cs) (d:Dot) (hl:Ah s<=1099511627776):Ret Tryz.prog Pj [.agg cs,.agg [gi d.rep,gi d.seq]] σ (gi (Eq s.cells d)) σ:=by
 obtain⟨a,b,c,v,rfl,_,_,_,h⟩:=hR
 exact U0 σ a b c v s.cells d h (Ao hl).2.2.2.1
theorem A1w (σ:St) (cs:List GV) (s:State) (hR:A8.R σ s cs) (d:Dot) (hl:Ah s<=1099511627776):Ret Tryz.prog Pk [.agg cs,.agg [gi d.rep,gi d.seq]] σ (gi (Eq s.cells d)) σ:=by
 obtain⟨a,b,c,v,rfl,_,_,_,h⟩:=hR
 exact A4o σ a b c v s.cells d h (Ao hl).2.2.2.1
@[go_sem] theorem bit_tup {vs:List GV}:(GV.tup vs).bit=none:=(rfl)
def Wg (k:Int):Bool:=inB k 2 5
def O0 (k:Int):Bool:=k==1||k==4||k==6
def noS:ByteArray:=⟨#[]⟩
theorem Ja (σ:St) (k:Int):Ret Tryz.prog Qh [gi k] σ (.bool (Wg k)) σ:=by
 refine Am Z5 (Z0z rfl) trivial ?_
 simp +contextual (disch:=omega) only[go_sem,Qi]
 refine Ad (As _ _ _ _) ?_
 simp +contextual (disch:=omega) only[go_sem,Wg]
theorem Qv (σ:St) (k:Int):Ret Tryz.prog Xc [gi k] σ (.bool (Wg k)) σ:=by
 refine Am A46 (Z0z rfl) trivial ?_
 simp +contextual (disch:=omega) only[go_sem,Xd]
 refine Ad (Ax _ _ _ _) ?_
 simp +contextual (disch:=omega) only[go_sem,Wg]
theorem C5 (σ:St) (k:Int):Ret Tryz.prog Np [gi k] σ (.bool (O0 k)) σ:=by
 refine Am Wb (Z0z rfl) trivial ?_
 simp +contextual (disch:=omega) only[go_sem,Nq,O0]
 grind
theorem Qw (σ:St) (k:Int):Ret Tryz.prog Xe [gi k] σ (.bool (O0 k)) σ:=by
 refine Am A47 (Z0z rfl) trivial ?_
 simp +contextual (disch:=omega) only[go_sem,Xf,O0]
 grind
def Ky (kind val:Int):Bool:=val==0||O0 kind&&inB val 0 999999
def Bd (kind:Int) (obj key:ByteArray) (val:Int):Bool:=inB kind 1 7&&(Cc obj&&((if Wg kind then Cc key else decide (key=noS))&&Ky kind val))
theorem Jb (σ:St) (kind:Int) (obj key:ByteArray) (val:Int) (ho:obj.size<=1099511627776) (hk:key.size<=1099511627776):Ret Tryz.prog Qj [gi kind,.str obj,.str key,gi val] σ (.bool (Bd kind obj key val)) σ:=by
 refine Am Z6 (Z0z rfl) trivial ?_
 simp +contextual (disch:=omega) only[go_sem,Qk]
 refine Aa (As _ _ _ _) (fun h1=> ?_) (fun h1=> ?_)
 ·simp +contextual (disch:=omega) only[go_sem]
  refine Aa (Ep _ obj ho) (fun h2=> ?_) (fun h2=> ?_)
  ·simp +contextual (disch:=omega) only[go_sem]
   refine Aa (Ja _ _) (fun h3=> ?_) (fun h3=> ?_)
   ·simp +contextual (disch:=omega) only[go_sem]
    refine Aa (Ep _ key hk) (fun h4=> ?_) (fun h4=> ?_)
    ·simp +contextual (disch:=omega) only[go_sem]
     refine Aa (Ja _ _) (fun h3=> ?_) (fun h3'=>by rw[h3] at h3';cases h3')
     simp +contextual (disch:=omega) only[go_sem]
     cases hv:(val==0) with
     |true=>simp +contextual (disch:=omega) only[go_sem,Bd,h1,h2,h3,h4,Ky,hv,Zbc]
     |false=>
      simp +contextual (disch:=omega) only[go_sem,hv]
      refine Aa (C5 _ _) (fun h5=> ?_) (fun h5=> ?_)
      ·simp +contextual (disch:=omega) only[go_sem]
       refine Ad (As _ _ _ _) ?_
       simp +contextual (disch:=omega) only[go_sem,Bd,h1,h2,h3,h4,h5,Ky,hv,Zaw]
      ·simp +contextual (disch:=omega) only[go_sem,Bd,h1,h2,h3,h4,h5,Ky,hv,Zaw]
    ·simp +contextual (disch:=omega) only[go_sem,Bd,h1,h2,h3,h4]
   ·simp +contextual (disch:=omega) only[go_sem]
    refine Aa (Ja _ _) (fun h3'=>by rw[h3] at h3';cases h3') (fun h3=> ?_)
    simp +contextual (disch:=omega) only[go_sem]
    cases hq:decide (key=noS) with
    |false=>
     have hq':decide (key={data:= #[]})=false:=hq
     simp +contextual (disch:=omega) only[go_sem,hq',Bd,h1,h2,h3,hq]
    |true=>
     have hq':decide (key={data:= #[]})=true:=hq
     simp +contextual (disch:=omega) only[go_sem,hq']
     cases hv:(val==0) with
     |true=>simp +contextual (disch:=omega) only[go_sem,Bd,h1,h2,h3,hq,Ky,hv,Zbc]
     |false=>
      simp +contextual (disch:=omega) only[go_sem,hv]
      refine Aa (C5 _ _) (fun h5=> ?_) (fun h5=> ?_)
      ·simp +contextual (disch:=omega) only[go_sem]
       refine Ad (As _ _ _ _) ?_
       simp +contextual (disch:=omega) only[go_sem,Bd,h1,h2,h3,hq,h5,Ky,hv,Zaw]
      ·simp +contextual (disch:=omega) only[go_sem,Bd,h1,h2,h3,hq,h5,Ky,hv,Zaw]
  ·simp +contextual (disch:=omega) only[go_sem,Bd,h1,h2]
 ·simp +contextual (disch:=omega) only[go_sem,Bd,h1]
theorem Gq (σ:St) (kind:Int) (obj key:ByteArray) (val:Int) (ho:obj.size<=1099511627776) (hk:key.size<=1099511627776):Ret Tryz.prog Tg [gi kind,.str obj,.str key,gi val] σ (.bool (Bd kind obj key val)) σ:=by
 have ne:Cc noS=false:=by decide
 refine Am A1f (Z0z rfl) trivial ?_
 simp +contextual (disch:=omega) only[go_sem,Th]
 refine Aa (Ax _ _ _ _) (fun h1=> ?_) (fun h1=> ?_)
 ·simp +contextual (disch:=omega) only[go_sem]
  refine Aa (Dl _ obj ho) (fun h2=> ?_) (fun h2=> ?_)
  ·simp +contextual (disch:=omega) only[go_sem]
   cases hq:decide (key=noS) with
   |true=>
    have hq':decide (key={data:= #[]})=true:=hq
    have hkn:Cc key=false:=by rw[of_decide_eq_true hq];exact ne
    simp +contextual (disch:=omega) only[go_sem,hq']
    refine Aa (Qv _ _) (fun h3=> ?_) (fun h3=> ?_)
    ·simp +contextual (disch:=omega) only[go_sem]
     refine Aa (Dl _ key hk) (fun h4=>by rw[hkn] at h4;cases h4) (fun h4=> ?_)
     simp +contextual (disch:=omega) only[go_sem,Bd,h1,h2,h3,h4]
    ·simp +contextual (disch:=omega) only[go_sem]
     cases hv:(val==0) with
     |true=>simp +contextual (disch:=omega) only[go_sem,Bd,h1,h2,h3,hq,Ky,hv,Zbc]
     |false=>
      simp +contextual (disch:=omega) only[go_sem,hv]
      refine Aa (Qw _ _) (fun h5=> ?_) (fun h5=> ?_)
      ·simp +contextual (disch:=omega) only[go_sem]
       refine Ad (Ax _ _ _ _) ?_
       simp +contextual (disch:=omega) only[go_sem,Bd,h1,h2,h3,hq,h5,Ky,hv,Zaw]
      ·simp +contextual (disch:=omega) only[go_sem,Bd,h1,h2,h3,hq,h5,Ky,hv,Zaw]
   |false=>
    have hq':decide (key={data:= #[]})=false:=hq
    simp +contextual (disch:=omega) only[go_sem,hq']
    refine Aa (Dl _ key hk) (fun h4=> ?_) (fun h4=> ?_)
    ·simp +contextual (disch:=omega) only[go_sem]
     refine Aa (Qv _ _) (fun h3=> ?_) (fun h3=> ?_)
     ·simp +contextual (disch:=omega) only[go_sem]
      cases hv:(val==0) with
      |true=>simp +contextual (disch:=omega) only[go_sem,Bd,h1,h2,h3,h4,Ky,hv,Zbc]
      |false=>
       simp +contextual (disch:=omega) only[go_sem,hv]
       refine Aa (Qw _ _) (fun h5=> ?_) (fun h5=> ?_)
       ·simp +contextual (disch:=omega) only[go_sem]
        refine Ad (Ax _ _ _ _) ?_
        simp +contextual (disch:=omega) only[go_sem,Bd,h1,h2,h3,h4,h5,Ky,hv,Zaw]
       ·simp +contextual (disch:=omega) only[go_sem,Bd,h1,h2,h3,h4,h5,Ky,hv,Zaw]
     ·simp +contextual (disch:=omega) only[go_sem,Bd,h1,h2,h3,hq]
    ·simp +contextual (disch:=omega) only[go_sem]
     cases h3:Wg kind<;>simp +contextual (disch:=omega) only[go_sem,Bd,h1,h2,h3,h4,hq]
  ·simp +contextual (disch:=omega) only[go_sem,Bd,h1,h2]
 ·simp +contextual (disch:=omega) only[go_sem,Bd,h1]
def d0:Dot:=⟨0,0⟩
def Pm (a:Act):Bool:=if a.kind==7 then Ap a.knew a.ref else if a.kind==6 then decide (a.ref=d0)||Ap a.knew a.ref else decide (a.ref=d0)
def Cq (a:Act):Bool:=F4 a.dot&&(okK a.knew&&(decide (at0 a.knew a.dot.rep=a.dot.seq - 1)&&inB a.time 1 10000))
def De (a:Act):Bool:=Cq a&&(Bd a.kind a.obj a.key a.val&&Pm a)
theorem Mq (σ:St) (cs:List GV) (a:Act) (hR:kAct.R σ a cs) (hl:Ha a<=1099511627776):Ret Tryz.prog A1g [.agg cs] σ (.bool (De a)) σ:=by
 obtain⟨v,rfl,h⟩:=hR
 unfold Ha at hl
 have h1:=h.pre (pre1 σ (some (Blk.row 1 [.int .i64 a.dot.rep,.int .i64 a.dot.seq,.int .i64 a.time,v,.int .i64 a.kind,.str a.obj,.str a.key,.int .i64 a.val,.int .i64 a.ref.rep,.int .i64 a.ref.seq])))
 refine Am A7g (Z0z rfl) trivial ?_
 simp +contextual (disch:=omega) only[go_sem,A1h]
 refine Aa (Ee _ a.dot) (fun hd=> ?_) (fun hd=> ?_)
 ·simp +contextual (disch:=omega) only[go_sem]
  refine Aa (G8 _ v a.knew h1 (by omega)) (fun hk=> ?_) (fun hk=> ?_)
  ·have hd':=Kn.1 hd
   have hr:=A6d h1 hk hd'.1.1 hd'.1.2
   cases he:(at0 a.knew a.dot.rep==a.dot.seq - 1) with
   |false=>
    have he':decide (at0 a.knew a.dot.rep=a.dot.seq - 1)=false:=he
    simp +contextual (disch:=omega) only[go_sem,hr,bne,he,De,Cq,hd,hk,he']
   |true=>
    have he':decide (at0 a.knew a.dot.rep=a.dot.seq - 1)=true:=he
    simp +contextual (disch:=omega) only[go_sem,hr,bne,he]
    refine Aa (As _ _ _ _) (fun ht=> ?_) (fun ht=> ?_)
    ·have hh:Cq a=true:=by simp only[Cq,hd,hk,he',ht,Zb7]
     simp +contextual (disch:=omega) only[go_sem]
     refine Aa (Jb _ _ _ _ _ (by omega) (by omega)) (fun hp=> ?_) (fun hp=> ?_)
     ·simp +contextual (disch:=omega) only[go_sem]
      cases h7:(a.kind==7) with
      |true=>
       simp +contextual (disch:=omega) only[go_sem,h7]
       refine Ad (Co _ v a.knew a.ref h1 (by omega)) ?_
       simp +contextual (disch:=omega) only[go_sem,De,hh,hp,Pm,h7]
      |false=>
       cases h6:(a.kind==6) with
       |false=>
        simp +contextual (disch:=omega) only[go_sem,h7,h6,De,hh,hp,Pm,d0]
        rfl
       |true=>
        simp +contextual (disch:=omega) only[go_sem,h7,h6]
        cases hz:decide (a.ref=d0) with
        |true=>
         have hz':decide (a.ref={rep:=0,seq:=0})=true:=hz
         simp +contextual (disch:=omega) only[go_sem,hz',De,hh,hp,Pm,h7,h6,hz,Zbc]
        |false=>
         have hz':decide (a.ref={rep:=0,seq:=0})=false:=hz
         simp +contextual (disch:=omega) only[go_sem,hz']
         refine Ad (Co _ v a.knew a.ref h1 (by omega)) ?_
         simp +contextual (disch:=omega) only[go_sem,De,hh,hp,Pm,h7,h6,hz,Zaw]
     ·simp +contextual (disch:=omega) only[go_sem,De,hh,hp]
    ·simp +contextual (disch:=omega) only[go_sem,De,Cq,hd,hk,he',ht]
  ·simp +contextual (disch:=omega) only[go_sem,De,Cq,hd,hk]
 ·simp +contextual (disch:=omega) only[go_sem,De,Cq,hd]
theorem A4p (σ:St) (cs:List GV) (a:Act) (hR:kAct.R σ a cs) (hl:Ha a<=1099511627776):Ret Tryz.prog A1i [.agg cs] σ (.bool (De a)) σ:=by
 obtain⟨v,rfl,h⟩:=hR
 unfold Ha at hl
 have h1:=h.pre (pre1 σ (some (Blk.row 1 [.int .i64 a.dot.rep,.int .i64 a.dot.seq,.int .i64 a.time,v,.int .i64 a.kind,.str a.obj,.str a.key,.int .i64 a.val,.int .i64 a.ref.rep,.int .i64 a.ref.seq])))
 refine Am A7h (Z0z rfl) trivial ?_
 simp +contextual (disch:=omega) only[go_sem,A1j]
 refine Aa (Mm _ a.dot) (fun hd=> ?_) (fun hd=> ?_)
 ·simp +contextual (disch:=omega) only[go_sem]
  refine Aa (G9 _ v a.knew h1 (by omega)) (fun hk=> ?_) (fun hk=> ?_)
  ·have hd':=Kn.1 hd
   have hr:=A6d h1 hk hd'.1.1 hd'.1.2
   cases he:(at0 a.knew a.dot.rep==a.dot.seq - 1) with
   |false=>
    have he':decide (at0 a.knew a.dot.rep=a.dot.seq - 1)=false:=he
    simp +contextual (disch:=omega) only[go_sem,hr,bne,he,De,Cq,hd,hk,he']
   |true=>
    have he':decide (at0 a.knew a.dot.rep=a.dot.seq - 1)=true:=he
    simp +contextual (disch:=omega) only[go_sem,hr,bne,he]
    refine Aa (Ax _ _ _ _) (fun ht=> ?_) (fun ht=> ?_)
    ·have hh:Cq a=true:=by simp only[Cq,hd,hk,he',ht,Zb7]
     have fin:∀ b:Bool,Pm a=b->De a=(Bd a.kind a.obj a.key a.val&&b):=fun b hb=>by rw[De,hh,hb];rfl
     cases h7:(a.kind==7) with
     |true=>
      simp +contextual (disch:=omega) only[go_sem,h7]
      refine Aa (Fv _ v a.knew a.ref h1 (by omega)) (fun hq=> ?_) (fun hq=> ?_)
      ·simp +contextual (disch:=omega) only[go_sem]
       refine Ad (Gq _ _ _ _ _ (by omega) (by omega)) ?_
       simp +contextual (disch:=omega) only[go_sem,fin true (by simp[Pm,h7,hq])]
      ·simp +contextual (disch:=omega) only[go_sem,fin false (by simp[Pm,h7,hq])]
     |false=>
      cases h6:(a.kind==6) with
      |false=>
       cases hz:decide (a.ref=d0) with
       |true=>
        have hz':decide (a.ref={rep:=0,seq:=0})=true:=hz
        simp +contextual (disch:=omega) only[go_sem,h7,h6,hz']
        refine Ad (Gq _ _ _ _ _ (by omega) (by omega)) ?_
        simp +contextual (disch:=omega) only[go_sem,fin true (by simp[Pm,h7,h6,hz])]
       |false=>
        have hz':decide (a.ref={rep:=0,seq:=0})=false:=hz
        simp +contextual (disch:=omega) only[go_sem,h7,h6,hz',fin false (by simp[Pm,h7,h6,hz])]
      |true=>
       cases hz:decide (a.ref=d0) with
       |true=>
        have hz':decide (a.ref={rep:=0,seq:=0})=true:=hz
        simp +contextual (disch:=omega) only[go_sem,h7,h6,hz']
        refine Ad (Gq _ _ _ _ _ (by omega) (by omega)) ?_
        simp +contextual (disch:=omega) only[go_sem,fin true (by simp[Pm,h7,h6,hz])]
       |false=>
        have hz':decide (a.ref={rep:=0,seq:=0})=false:=hz
        simp +contextual (disch:=omega) only[go_sem,h7,h6,hz']
        refine Aa (Fv _ v a.knew a.ref h1 (by omega)) (fun hq=> ?_) (fun hq=> ?_)
        ·simp +contextual (disch:=omega) only[go_sem]
         refine Ad (Gq _ _ _ _ _ (by omega) (by omega)) ?_
         simp +contextual (disch:=omega) only[go_sem,fin true (by simp[Pm,h7,h6,hz,hq])]
        ·simp +contextual (disch:=omega) only[go_sem,fin false (by simp[Pm,h7,h6,hz,hq])]
    ·simp +contextual (disch:=omega) only[go_sem,De,Cq,hd,hk,he',ht]
  ·simp +contextual (disch:=omega) only[go_sem,De,Cq,hd,hk]
 ·simp +contextual (disch:=omega) only[go_sem,De,Cq,hd]
section
variable {α:Type}
def insB (lt:α->α->Bool) (x:α):List α->List α
 |[]=>[x]
 |k::r=>if lt x k then x::k::r else k::insB lt x r
def Ce (lt:α->α->Bool) (l:List α):List α:=l.foldl (fun acc x=>insB lt x acc) []
theorem A4q {lt:α->α->Bool} {l:List α} {x:α}:Ce lt (l++[x])=insB lt x (Ce lt l):=by simp[Ce]
theorem Hd (lt:α->α->Bool) (x:α):∀ l:List α,(insB lt x l).Perm (x::l)
 |[]=>.refl _
 |k::r=>by
  unfold insB
  split
  ·exact .refl _
  ·exact((Hd lt x r).cons k).trans (.swap x k r)
theorem Da (lt:α->α->Bool) (l:List α):(Ce lt l).Perm l:=by
 have key:∀(l acc:List α),(l.foldl (fun acc x=>insB lt x acc) acc).Perm (acc++l):=by
  intro l
  induction l with
  |nil=>intro acc;simp
  |cons x l ih=>
   intro acc
   simp only[Zbj]
   refine(ih _).trans ?_
   refine((Hd lt x acc).append_right l).trans ?_
   rw[Zbz]
   exact List.perm_middle.symm
 have:=key l []
 unfold Ce
 simpa using this
theorem U2 (lt:α->α->Bool) (x:α) (l:List α):(insB lt x l).length=l.length+1:=(Hd lt x l).length_eq
theorem Jc (lt:α->α->Bool) (l:List α):(Ce lt l).length=l.length:=(Da lt l).length_eq
abbrev Up (lt:α->α->Bool) (l:List α):Prop:=l.Pairwise fun a b=>lt b a=false
open Go.Sort (SWO) in
theorem SWO.asym {lt:α->α->Bool} (h:SWO lt) {x y:α} (hxy:lt x y=true):lt y x=false:=by
 cases e:lt y x with
 |false=>rfl
 |true=>have:=h.trans _ _ _ hxy e;rw[h.irrefl] at this;cases this
theorem A99 {lt:α->α->Bool} (h:Go.Sort.SWO lt) {x:α}:∀ {l:List α},Up lt l->Up lt (insB lt x l)
 |[],_=>by simp[insB]
 |k::r,hl=>by
  obtain⟨h1,h2⟩:=Zad.1 hl
  unfold insB
  split
  ·rename_i hx
   refine Zad.2 ⟨fun y hy=> ?_,hl⟩
   rcases Zae.1 hy with rfl|hy
   ·exact SWO.asym h hx
   ·have:=h1 y hy
    cases e:lt y x with
    |false=>rfl
    |true=>rw[h.trans _ _ _ e hx] at this;cases this
  ·rename_i hx
   refine Zad.2 ⟨fun y hy=> ?_,A99 h h2⟩
   rcases Zae.1 ((Hd lt x r).mem_iff.1 hy) with rfl|hy
   ·simpa using hx
   ·exact h1 y hy
theorem O1 {lt:α->α->Bool} (h:Go.Sort.SWO lt) (l:List α):Up lt (Ce lt l):=by
 have key:∀(l acc:List α),Up lt acc->Up lt (l.foldl (fun acc x=>insB lt x acc) acc):=by
  intro l
  induction l with
  |nil=>intro acc h;exact h
  |cons x l ih=>intro acc ha;exact ih _ (A99 h ha)
 exact key l [] .nil
theorem U3 {lt:α->α->Bool}:∀ {l m:List α},(∀ x∈l,∀ y∈l,lt x y=false->lt y x=false->x=y)->l.Perm m->Up lt l->Up lt m->l=m
 |[],m,_,hp,_,_=>(List.nil_perm.1 hp).symm
 |a::l,[],_,hp,_,_=>by have:=hp.length_eq;simp at this
 |a::l,b::m,ht,hp,h1,h2=>by
  obtain⟨h3,h4⟩:=Zad.1 h1
  obtain⟨h5,h6⟩:=Zad.1 h2
  have hab:a=b:=by
   have ha:a∈b::m:=hp.mem_iff.1 Zaa
   have hb:b∈a::l:=hp.mem_iff.2 Zaa
   rcases Zae.1 ha with e|ha
   ·exact e
   ·rcases Zae.1 hb with e|hb
    ·exact e.symm
    ·exact ht a Zaa b (Zah _ hb) (h5 a ha) (h3 b hb)
  subst hab
  rw[U3 (fun x hx y hy=>ht x (Zah _ hx) y (Zah _ hy)) hp.cons_inv h4 h6]
theorem O2 {lt:α->α->Bool} (hi:∀ x,lt x x=false) (ha:∀ x y,lt x y=true->lt y x=true->False):∀ {l m:List α},l.Pairwise (fun a b=>lt a b=true)->m.Pairwise (fun a b=>lt a b=true)->(∀ x,x∈l↔x∈m)->l=m
 |[],[],_,_,_=>rfl
 |[],b::m,_,_,h=>absurd ((h b).2 Zaa) (by simp)
 |a::l,[],_,_,h=>absurd ((h a).1 Zaa) (by simp)
 |a::l,b::m,h1,h2,h=>by
  obtain⟨h3,h4⟩:=Zad.1 h1
  obtain⟨h5,h6⟩:=Zad.1 h2
  have hab:a=b:=by
   rcases Zae.1 ((h a).1 Zaa) with e|hm
   ·exact e
   ·rcases Zae.1 ((h b).2 Zaa) with e|hl
    ·exact e.symm
    ·exact(ha _ _ (h3 b hl) (h5 a hm)).elim
  subst hab
  rw[O2 hi ha h4 h6 fun x=> ?_]
  constructor
  ·intro hx
   rcases Zae.1 ((h x).1 (Zah _ hx)) with e|hm
   ·subst e;have:=h3 x hx;rw[hi] at this;cases this
   ·exact hm
  ·intro hx
   rcases Zae.1 ((h x).2 (Zah _ hx)) with e|hm
   ·subst e;have:=h5 x hx;rw[hi] at this;cases this
   ·exact hm
def putU [DecidableEq α] (lt:α->α->Bool) (x:α) (l:List α):List α:=if x∈l then l else insB lt x l
def Hw [DecidableEq α] (lt:α->α->Bool) (l:List α):List α:=l.foldl (fun acc x=>putU lt x acc) []
theorem A4r [DecidableEq α] {lt:α->α->Bool} {l:List α} {x:α}:Hw lt (l++[x])=putU lt x (Hw lt l):=by simp[Hw]
theorem A6i [DecidableEq α] {lt:α->α->Bool} {x y:α} {l:List α}:y∈putU lt x l↔y=x∨y∈l:=by
 unfold putU
 split
 ·rename_i h
  exact⟨.inr,fun h'=>by rcases h' with rfl|h'<;>assumption⟩
 ·rw[(Hd lt x l).mem_iff,Zae]
theorem U4 {lt:α->α->Bool} (ht:∀ x y z,lt x y=true->lt y z=true->lt x z=true) (htri:∀ x y,lt x y=false->lt y x=false->x=y) {x:α}:∀ {l:List α},x∉l->l.Pairwise (fun a b=>lt a b=true)->(insB lt x l).Pairwise (fun a b=>lt a b=true)
 |[],_,_=>by simp[insB]
 |k::r,hx,hl=>by
  obtain⟨h1,h2⟩:=Zad.1 hl
  unfold insB
  split
  ·rename_i hk
   refine Zad.2 ⟨fun y hy=> ?_,hl⟩
   rcases Zae.1 hy with rfl|hy
   ·exact hk
   ·exact ht _ _ _ hk (h1 y hy)
  ·rename_i hk
   have hk':lt x k=false:=by simpa using hk
   have hkx:lt k x=true:=by
    cases e:lt k x with
    |true=>rfl
    |false=>exact absurd (htri _ _ hk' e) fun e=>hx (by rw[e];exact Zaa)
   refine Zad.2 ⟨fun y hy=> ?_,U4 ht htri (fun h=>hx (Zah _ h)) h2⟩
   rcases Zae.1 ((Hd lt x r).mem_iff.1 hy) with rfl|hy
   ·exact hkx
   ·exact h1 y hy
theorem A4s [DecidableEq α] {lt:α->α->Bool} (ht:∀ x y z,lt x y=true->lt y z=true->lt x z=true) (htri:∀ x y,lt x y=false->lt y x=false->x=y) {x:α} {l:List α} (hl:l.Pairwise (fun a b=>lt a b=true)):(putU lt x l).Pairwise (fun a b=>lt a b=true):=by
 unfold putU
 split
 ·exact hl
 ·rename_i h;exact U4 ht htri h hl
theorem A4t [DecidableEq α] {lt:α->α->Bool} (ht:∀ x y z,lt x y=true->lt y z=true->lt x z=true) (htri:∀ x y,lt x y=false->lt y x=false->x=y) (l:List α):(Hw lt l).Pairwise (fun a b=>lt a b=true)/\∀ y,y∈Hw lt l↔y∈l:=by
 have key:∀(l acc:List α),acc.Pairwise (fun a b=>lt a b=true)->(l.foldl (fun acc x=>putU lt x acc) acc).Pairwise (fun a b=>lt a b=true)/\∀ y,y∈l.foldl (fun acc x=>putU lt x acc) acc↔y∈acc∨y∈l:=by
  intro l
  induction l with
  |nil=>intro acc h;exact⟨h,by simp⟩
  |cons x l ih=>
   intro acc h
   obtain⟨h1,h2⟩:=ih (putU lt x acc) (A4s ht htri h)
   refine⟨h1,fun y=> ?_⟩
   rw[Zbj,h2,A6i,Zae]
   constructor
   ·rintro((h|h)|h)
    ·exact .inr (.inl h)
    ·exact .inl h
    ·exact .inr (.inr h)
   ·rintro(h|h|h)
    ·exact .inl (.inr h)
    ·exact .inl (.inl h)
    ·exact .inr h
 have:=key l [] .nil
 exact⟨this.1,fun y=>by rw[Hw,this.2];simp⟩
theorem A4u [DecidableEq α] (lt:α->α->Bool) (x:α) (l:List α):(putU lt x l).length<=l.length+1:=by
 unfold putU
 split
 ·omega
 ·rw[U2];exact Za0 _
theorem O3 [DecidableEq α] (lt:α->α->Bool) (l:List α):(Hw lt l).length<=l.length:=by
 have key:∀(l acc:List α),(l.foldl (fun acc x=>putU lt x acc) acc).length<=acc.length+l.length:=by
  intro l
  induction l with
  |nil=>intro acc;simp
  |cons x l ih=>
   intro acc
   have h1:=ih (putU lt x acc)
   have h2:=A4u lt x acc
   simp only[Zbj,Zas];omega
 have:=key l []
 unfold Hw
 simpa using this
def Be [DecidableEq α]:List α->List α
 |[]=>[]
 |[x]=>[x]
 |x::y::r=>if x=y then Be (y::r) else x::Be (y::r)
theorem Jd [DecidableEq α]:∀ {l:List α} {z:α},z∈Be l↔z∈l
 |[],z=>by simp[Be]
 |[x],z=>by simp[Be]
 |x::y::r,z=>by
  unfold Be
  split
  ·rename_i h;subst h
   rw[Jd];simp
  ·rw[Zae,Jd];simp
theorem Ib [DecidableEq α] {lt:α->α->Bool} (h:Go.Sort.SWO lt) (htri:∀ x y,lt x y=false->lt y x=false->x=y):∀ {l:List α},Up lt l->(Be l).Pairwise (fun a b=>lt a b=true)
 |[],_=>.nil
 |[x],_=>by simp[Be]
 |x::y::r,hl=>by
  obtain⟨h1,h2⟩:=Zad.1 hl
  unfold Be
  split
  ·exact Ib h htri h2
  ·rename_i hne
   refine Zad.2 ⟨fun z hz=> ?_,Ib h htri h2⟩
   have hz:=Jd.1 hz
   have hyx:lt x y=true:=by
    cases e:lt x y with
    |true=>rfl
    |false=>exact absurd (htri _ _ e (h1 y Zaa)) hne
   rcases Zae.1 hz with rfl|hz
   ·exact hyx
   ·have h5:=(Zad.1 h2).1 z hz
    cases e:lt x z with
    |true=>rfl
    |false=>
     have:=h.ntrans _ _ _ e h5
     rw[hyx] at this;cases this
theorem Wh [DecidableEq α] {lt:α->α->Bool} (h:Go.Sort.SWO lt) (htri:∀ x y,lt x y=false->lt y x=false->x=y) {l m:List α} (hp:m.Perm l) (hu:Up lt m):Be m=Hw lt l:=by
 obtain⟨h1,h2⟩:=A4t h.trans htri l
 refine O2 h.irrefl (fun x y h3 h4=>by rw[SWO.asym h h3] at h4;cases h4) (Ib h htri hu) h1 fun x=> ?_
 rw[Jd,h2,hp.mem_iff]
theorem U5 {lt:α->α->Bool} (h:Go.Sort.SWO lt) {l m:List α} (htri:∀ x∈l,∀ y∈l,lt x y=false->lt y x=false->x=y) (hp:m.Perm l) (hu:Up lt m):m=Ce lt l:=U3 (fun x hx y hy=>htri x (hp.mem_iff.1 hx) y (hp.mem_iff.1 hy)) (hp.trans (Da lt l).symm) hu (O1 h l)
end
def ltI (a b:Int):Bool:=decide (a<b)
theorem A4v:Go.Sort.SWO ltI:=⟨fun x=>by simp[ltI],fun x y z h1 h2=>by simp only[ltI,decide_eq_true_eq] at *;omega,fun x y z h1 h2=>by simp only[ltI,decide_eq_false_iff_not] at *;omega⟩
theorem A9a (x y:Int) (h1:ltI x y=false) (h2:ltI y x=false):x=y:=by simp only[ltI,decide_eq_false_iff_not] at *;omega
theorem Aat:Go.Sort.SWO txLt:=⟨Gn,fun x y z=>Lt,fun x y z h1 h2=>by
 cases e:txLt x z with
 |false=>rfl
 |true=>
  by_cases hxy:x=y
  ·subst hxy;rw[h2] at e;cases e
  ·have h3:txLt y x=true:=by
    cases e2:txLt y x with
    |true=>rfl
    |false=>exact absurd (J6 h1 e2) hxy
   rw[Lt h3 e] at h2;cases h2⟩
def Ef (a b:Cell):Bool:=decide (b.time<a.time)||decide (a.time=b.time)&&Bh b.dot a.dot
theorem U6:Go.Sort.SWO Ef:=⟨fun x=>by simp[Ef,Kp],fun x y z h1 h2=>by
  simp only[Ef,Bh,Zap,Zab,decide_eq_true_eq] at *;omega,fun x y z h1 h2=>by
  simp only[Ef,Bh,Zay,Zat,decide_eq_false_iff_not] at *;omega⟩
theorem A1x {x y:Cell} (h1:Ef x y=false) (h2:Ef y x=false):x.dot=y.dot:=by
 rw[Dot.eq_iff]
 simp only[Ef,Bh,Zay,Zat,decide_eq_false_iff_not] at *;omega
def Cm (d:Dot) (c:Cell):Bool:=decide (c.ref=d)
def In (o:ByteArray) (c:Cell):Bool:=decide (c.obj=o)
def rowF (sc:List Cell):Nat->Dot->List Cell
 |0,_=>[]
 |f+1,d=>(sc.filter (Cm d)).flatMap fun c=>c::rowF sc f c.dot
def Adq (sc:List Cell):Nat->Dot->Prop
 |0,d=>∀ c∈sc,c.ref≠d
 |f+1,d=>∀ c∈sc,c.ref=d->Adq sc f c.dot
theorem Adq.up {sc:List Cell}:∀ {f:Nat} {d:Dot},Adq sc f d->Adq sc (f+1) d
 |0,d,h=>fun c hc e=>absurd e (h c hc)
 |f+1,d,h=>fun c hc e=>(h c hc e).up
theorem Adq.le {sc:List Cell} {f g:Nat} {d:Dot} (h:Adq sc f d) (hg:f<=g):Adq sc g d:=by
 induction g with
 |zero=>
      have:f=0:=by omega
      subst this;exact h
 |succ g ih=>
  rcases Za4 g f with h1|h1
  ·have:f=g+1:=by omega
   subst this;exact h
  ·exact(ih h1).up
theorem Ic {α β:Type} {f g:α->List β}:∀ {l:List α},(∀ x∈l,f x=g x)->l.flatMap f=l.flatMap g
 |[],_=>rfl
 |x::l,h=>by rw[Zal,Zal,h x Zaa,Ic fun y hy=>h y (Zah _ hy)]
theorem A9b {sc:List Cell}:∀ {f:Nat} {d:Dot},Adq sc f d->rowF sc (f+1) d=rowF sc f d
 |0,d,h=>by
  have:sc.filter (Cm d)=[]:=List.filter_eq_nil_iff.2 fun c hc=>by simpa [Cm] using h c hc
  simp[rowF,this]
 |f+1,d,h=>by
  rw[rowF,rowF]
  refine Ic fun c hc=> ?_
  obtain⟨h1,h2⟩:=Zan.1 hc
  rw[A9b (h c h1 (by simpa [Cm] using h2))]
def fuel:Nat:=10001
def rowA (sc:List Cell) (d:Dot):List Cell:=rowF sc fuel d
theorem A4w {sc:List Cell} {d:Dot} (h:Adq sc fuel d):rowA sc d=(sc.filter (Cm d)).flatMap fun c=>c::rowA sc c.dot:=by
 unfold rowA
 rw[<- A9b h,rowF]
theorem A6j {sc:List Cell}:∀ {f:Nat} {d:Dot} {c:Cell},c∈rowF sc f d->c∈sc
 |0,_,_,h=>by simp[rowF] at h
 |f+1,d,c,h=>by
  rw[rowF,Zbg] at h
  obtain⟨x,hx,h⟩:=h
  rcases Zae.1 h with rfl|h
  ·exact(Zan.1 hx).1
  ·exact A6j h
theorem A1y {α:Type} [DecidableEq α]:∀ {l m:List α},l.Nodup->(∀ x∈l,x∈m)->l.length<=m.length
 |[],m,_,_=>by simp
 |x::l,m,hn,h=>by
  rw[Zbk] at hn
  have hx:=h x Zaa
  have:=A1y (l:=l) (m:=m.erase x) hn.2 fun y hy=>by
   rw[List.mem_erase_of_ne (fun e=>hn.1 (by rw[<- e];exact hy))]
   exact h y (Zah _ hy)
  rw[List.length_erase_of_mem hx] at this
  have:=List.length_pos_of_mem hx
  simp only[Zas];omega
theorem U7 {l:List Cell} (h:(l.map (·.dot)).Nodup) {a b:Cell} (ha:a∈l) (hb:b∈l) (e:a.dot=b.dot):a=b:=by
 induction l with
 |nil=>simp at ha
 |cons z l ih=>
  rw[Za2,Zbk] at h
  rcases Zae.1 ha with h1|h1<;>rcases Zae.1 hb with h2|h2
  ·rw[h1,h2]
  ·exact(h.1 (by rw[<- h1,e];exact Za8 (f:=(·.dot)) h2)).elim
  ·exact(h.1 (by rw[<- h2,<-e];exact Za8 (f:=(·.dot)) h1)).elim
  ·exact ih h.2 h1 h2
theorem Xq {sc:List Cell} (hd:(sc.map (·.dot)).Nodup):∀ {ds:List Dot},ds.Nodup->((ds.flatMap fun d=>sc.filter (Cm d)).map (·.dot)).Nodup
 |[],_=>by simp
 |d::ds,hn=>by
  rw[Zbk] at hn
  rw[Zal,Zbl,List.nodup_append]
  refine⟨hd.sublist ((Za9).map _),Xq hd hn.2,fun x hx y hy e=> ?_⟩
  obtain⟨a,ha,rfl⟩:=Zbx.1 hx
  obtain⟨b,hb,rfl⟩:=Zbx.1 hy
  obtain⟨d',hd',hb⟩:=Zbg.1 hb
  obtain⟨ha1,ha2⟩:=Zan.1 ha
  obtain⟨hb1,hb2⟩:=Zan.1 hb
  have hab:a=b:=U7 hd ha1 hb1 e
  subst hab
  have e1:a.ref=d:=by simpa [Cm] using ha2
  have e2:a.ref=d':=by simpa [Cm] using hb2
  exact hn.1 (by rw[<- e1,e2];exact hd')
theorem U8 {α β γ:Type} {k:α->List β} {g:β->List γ} (w:α->List γ) (hw:∀ a,(w a).length=(k a).length+((k a).flatMap g).length):∀ ds:List α,(ds.flatMap w).length=(ds.flatMap k).length+((ds.flatMap k).flatMap g).length
 |[]=>rfl
 |d::ds=>by
  simp only[Zal,Zbs,Zba,hw,U8 w hw ds];omega
theorem O4 {β γ:Type} (g:β->List γ) (h:β->γ):∀ l:List β,(l.flatMap fun c=>h c::g c).length=l.length+(l.flatMap g).length
 |[]=>rfl
 |c::l=>by
  have:=O4 g h l
  simp only[Zal,Zbs,Zas] at *;omega
theorem A6k {sc:List Cell} (hd:(sc.map (·.dot)).Nodup):∀(f:Nat) {ds:List Dot},ds.Nodup->(ds.flatMap (rowF sc f)).length<=f*sc.length
 |0,ds,_=>by
  have:∀ ds:List Dot,ds.flatMap (rowF sc 0)=[]:=by
   intro ds
   induction ds with
   |nil=>rfl
   |cons d ds ih=>rw[Zal,ih];rfl
  rw[this];simp
 |f+1,ds,hn=>by
  have h1:=U8 (k:=fun d=>sc.filter (Cm d)) (g:=fun c=>rowF sc f c.dot) (rowF sc (f+1)) (fun d=>by rw[rowF];exact O4 (fun c=>rowF sc f c.dot) id _) ds
  have h2:=Xq hd hn
  have h3:=A6k hd f h2
  have e:(ds.flatMap fun d=>sc.filter (Cm d)).flatMap (fun c=>rowF sc f c.dot)=((ds.flatMap fun d=>sc.filter (Cm d)).map (·.dot)).flatMap (rowF sc f):=by rw[Zb1]
  rw[e] at h1
  have h4:(ds.flatMap fun d=>sc.filter (Cm d)).length<=sc.length:=by
   have:=A1y (m:=sc.map (·.dot)) h2 fun x hx=>by
    obtain⟨a,ha,rfl⟩:=Zbx.1 hx
    obtain⟨d,_,ha⟩:=Zbg.1 ha
    exact Za8 (Zan.1 ha).1
   simpa using this
  rw[h1,Nat.add_mul]
  omega
theorem Aau {l:List Cell} (h:l.Pairwise fun a b=>Bh a.dot b.dot=true):(l.map (·.dot)).Nodup:=by
 rw[List.Nodup,List.pairwise_map]
 exact h.imp fun {a b} h e=>by rw[e,Kp] at h;cases h
structure CelR (l:List Cell):Prop where
 nd:(l.map (·.dot)).Nodup
 time:∀ c∈l,1≤c.time/\c.time<=10000
 dot:∀ c∈l,F4 c.dot=true
 ref:∀ c∈l,c.ref=⟨0,0⟩∨∃ y∈l,y.dot=c.ref/\y.obj=c.obj/\y.time<c.time
 len:l.length<=120
theorem Mr {s:State} (h:B6 s=true):CelR s.cells:=by
 simp only[B6,Zab] at h
 obtain⟨_,_,_,h4,h5⟩:=h
 have hup:=A4d h4
 simp only[Hb,Zab,C4,celP,decide_eq_true_eq] at h4
 have at':∀ c∈s.cells,Ap s.know c.dot=true/\cel1 c=true:=fun c hc=>by
  obtain⟨i,hi,rfl⟩:=Zaq hc
  have:=h4.1 i hi
  rw[Bl hi,Bl hi] at this
  exact⟨this.1,this.2.1⟩
 refine⟨Aau hup,fun c hc=> ?_,fun c hc=>Hc (at' c hc).1,fun c hc=> ?_,h4.2⟩
 ·have:=(at' c hc).2
  simp only[cel1,Zab] at this
  exact Br.1 this.2.2
 ·have:=Zby.1 h5 c hc
  unfold ref1 at this
  simp only[Zap,decide_eq_true_eq] at this
  refine this.imp id fun h=> ?_
  split at h
  ·cases h
  ·rename_i k hk
   obtain⟨hkl,e⟩:=Cp hk
   rw[Bl hkl] at h
   simp only[Zab,decide_eq_true_eq] at h
   exact⟨_,Zag hkl,e,h.1,h.2⟩
theorem Xr:F4 ⟨0,0⟩=false:=by decide
theorem Zd {sc:List Cell} (hnd:(sc.map (·.dot)).Nodup) (ht:∀ c∈sc,1≤c.time/\c.time<=10000) (hr:∀ c∈sc,∀ y∈sc,y.dot=c.ref->y.time<c.time):∀(f:Nat) (d:Dot) (t:Int),(∀ c∈sc,c.ref=d->t<c.time)->10000 - t<=f->Adq sc f d
 |0,d,t,h,hf=>fun c hc e=>by have:=h c hc e;have:=(ht c hc).2;omega
 |f+1,d,t,h,hf=>fun c hc e=>Zd hnd ht hr f c.dot c.time (fun x hx ex=>hr x hx c hc ex.symm) (by have:=h c hc e;omega)
def objC (l:List Cell) (o:ByteArray):List Cell:=Ce Ef (l.filter (In o))
theorem O5 {l:List Cell} {o:ByteArray} {c:Cell}:c∈objC l o↔c∈l/\c.obj=o:=by
 rw[objC,(Da _ _).mem_iff,Zan];simp[In]
theorem A4x {l:List Cell} (h:(l.map (·.dot)).Nodup) (o:ByteArray):((objC l o).map (·.dot)).Nodup:=(((Da Ef (l.filter (In o))).map (·.dot)).nodup_iff).2 (h.sublist ((Za9).map _))
theorem Ze (l:List Cell) (o:ByteArray):(objC l o).length<=l.length:=by
 rw[objC,Jc];exact Za6 _ _
theorem A6l {l:List Cell} (h:CelR l) (o:ByteArray):Adq (objC l o) fuel ⟨0,0⟩/\∀ c∈objC l o,Adq (objC l o) fuel c.dot:=by
 have ht:∀ c∈objC l o,1≤c.time/\c.time<=10000:=fun c hc=>h.time c (O5.1 hc).1
 have hr:∀ c∈objC l o,∀ y∈objC l o,y.dot=c.ref->y.time<c.time:=fun c hc y hy e=>by
  obtain⟨hc,_⟩:=O5.1 hc
  obtain⟨hy,_⟩:=O5.1 hy
  rcases h.ref c hc with e0|⟨z,hz,e1,_,e2⟩
  ·have:=h.dot y hy
   rw[e,e0,Xr] at this;cases this
  ·rw[U7 h.nd hy hz (e.trans e1.symm)];exact e2
 refine⟨Zd (A4x h.nd o) ht hr fuel _ 0 (fun c hc _=>by have:=(ht c hc).1;omega) (by decide),fun c hc=> ?_⟩
 refine Zd (A4x h.nd o) ht hr fuel _ c.time (fun x hx ex=>hr x hx c hc ex.symm) ?_
 have:=(ht c hc).1
 show 10000 - c.time<=((10001:Nat):Int)
 omega
def rowC (s:State) (o:ByteArray):List Cell:=rowA (objC s.cells o) ⟨0,0⟩
theorem Aav {s:State} {o:ByteArray} {c:Cell} (h:c∈rowC s o):c∈s.cells:=(O5.1 (A6j h)).1
theorem Lu {s:State} (h:CelR s.cells) (o:ByteArray):(rowC s o).length<=1200120:=by
 have:=A6k (A4x h.nd o) fuel (ds:=[⟨0,0⟩]) (by simp)
 have h2:=Ze s.cells o
 have h3:=h.len
 rw[Zal,Zb2,Zb4] at this
 unfold rowC rowA
 have h4:fuel*(objC s.cells o).length<=fuel*120:=Nat.mul_le_mul_left _ (by omega)
 have h5:fuel*120=1200120:=rfl
 omega
theorem Ad4 {l:List Cell} (h:(l.map (·.dot)).Nodup) (o:ByteArray) (d:Dot):Ce Ef (l.filter fun c=>In o c&&Cm d c)=(objC l o).filter (Cm d):=by
 refine U3 (fun x hx y hy h1 h2=> ?_) ?_ (O1 U6 _) ((O1 U6 _).sublist Za9)
 ·have hx:=(Zan.1 ((Da Ef _).mem_iff.1 hx)).1
  have hy:=(Zan.1 ((Da Ef _).mem_iff.1 hy)).1
  exact U7 h hx hy (A1x h1 h2)
 ·refine(Da _ _).trans ?_
  have e:(l.filter fun c=>In o c&&Cm d c)=(l.filter (In o)).filter (Cm d):=by
   rw[List.filter_filter]
   congr 1
   funext c
   exact Bool.and_comm _ _
  rw[e]
  exact(Da Ef (l.filter (In o))).symm.filter _
def rowL (s:State) (o:ByteArray):List Cell:=if B6 s then(rowC s o).filter (fun c=> !c.gone) else[]
def rowD (s:State) (o:ByteArray):List Dot:=if B6 s then(rowC s o).map (·.dot) else[]
theorem Aaw (s:State) (o:ByteArray):(rowL s o).length<=1200120:=by
 unfold rowL
 split
 ·rename_i h
  exact Za5 (Za6 _ _) (Lu (Mr h) o)
 ·simp
theorem A9c {s:State} {o:ByteArray} (h:B6 s=true) {c:Cell} (hc:c∈rowC s o):∃ k,∃ hk:k<s.cells.length,Dw s.cells c.dot=some k/\s.cells[k]=c:=by
 have hm:=Aav hc
 obtain⟨i,hi,e⟩:=Zaq hm
 cases hx:Dw s.cells c.dot with
 |none=>
  unfold Dw at hx
  rw[Zax] at hx
  have:=hx c hm
  simp at this
 |some k=>
  obtain⟨hk,e2⟩:=Cp hx
  exact⟨k,hk,rfl,U7 (Mr h).nd (Zag hk) hm e2⟩
def addM (a b:Int):Int:=(a+b).tmod 1000000
def Ms (obj:ByteArray) (rep:Int) (t:Tally):Bool:=decide (t.obj=obj)&&decide (t.rep=rep)
def Io (l:List Tally) (obj:ByteArray) (rep val:Int):List Tally:=match l.findIdx? (Ms obj rep) with
 |some i=>l.modify i fun t=>{t with sum:=addM t.sum val}
 |none=>insB Az ⟨obj,rep,val⟩ l
theorem Qy {a b:Tally} (h:a.obj=b.obj) (h2:a.rep=b.rep):Az a b=false:=by simp[Az,h,h2,Gn]
theorem A1z:Go.Sort.SWO Az:=⟨fun x=>Qy rfl rfl,fun x y z h1 h2=>by
  simp only[Az,Zap,Zab,decide_eq_true_eq] at*
  rcases h1 with h1|⟨h1,h3⟩<;>rcases h2 with h2|⟨h2,h4⟩
  ·exact .inl (Lt h1 h2)
  ·exact .inl (by rw[<- h2];exact h1)
  ·exact .inl (by rw[h1];exact h2)
  ·exact .inr ⟨h1.trans h2,by omega⟩,fun x y z h1 h2=>by
  simp only[Az,Zay,Zat,decide_eq_false_iff_not] at*
  refine⟨Aat.ntrans _ _ _ h1.1 h2.1,?_⟩
  by_cases hxz:x.obj=z.obj
  ·right
   have hxy:x.obj=y.obj:=by
    by_cases e:x.obj=y.obj
    ·exact e
    ·exfalso
     have h3:txLt y.obj x.obj=true:=by
      cases e2:txLt y.obj x.obj with
      |true=>rfl
      |false=>exact absurd (J6 h1.1 e2) e
     rw[hxz] at h3
     rw[h3] at h2
     simp at h2
   rcases h1.2 with h|h
   ·exact absurd hxy h
   ·rcases h2.2 with h'|h'
    ·exact absurd (hxy.symm.trans hxz) h'
    ·omega
  ·exact .inl hxz⟩
theorem A9d {x y:Tally} (h1:Az x y=false) (h2:Az y x=false):x.obj=y.obj/\x.rep=y.rep:=by
 simp only[Az,Zay,Zat,decide_eq_false_iff_not] at*
 have e:=J6 h1.1 h2.1
 refine⟨e,?_⟩
 rcases h1.2 with h|h
 ·exact absurd e h
 ·rcases h2.2 with h'|h'
  ·exact absurd e.symm h'
  ·omega
theorem A9e {obj:ByteArray} {rep:Int} {t:Tally}:Ms obj rep t=true↔t.obj=obj/\t.rep=rep:=by simp[Ms]
def Je (x:Live) (l:List Live):List Live:=insB E7 x l
def Mt (x:Cell) (l:List Cell):List Cell:=insB F5 x l
def S9 (m:Bool) (obj key:ByteArray) (knew:List Int) (x:Live):Bool:= !(x.map==m)||(!decide (x.obj=obj)||(!decide (x.key=key)|| !Ap knew x.dot))
def Ip (l:List Cell) (d:Dot):List Cell:=match Dw l d with
 |some k=>l.modify k fun c=>{c with gone:=true}
 |none=>l
def Fo (s:State) (a:Act):State:=
 if a.kind=1 then {s with tallies:=Io s.tallies a.obj a.dot.rep a.val}
 else if a.kind=2 then {s with lives:=Je ⟨false,a.obj,a.key,0,a.dot⟩ s.lives}
 else if a.kind=3 then {s with lives:=s.lives.filter (S9 false a.obj a.key a.knew)}
 else if a.kind=4 then {s with lives:=Je ⟨true,a.obj,a.key,a.val,a.dot⟩ (s.lives.filter (S9 true a.obj a.key a.knew))}
 else if a.kind=5 then {s with lives:=s.lives.filter (S9 true a.obj a.key a.knew)}
 else if a.kind=6 then {s with cells:=Mt ⟨a.obj,a.dot,a.time,a.ref,a.val,false⟩ s.cells}
 else {s with cells:=Ip s.cells a.ref}
def Jf (s:State) (a:Act):State:=Fo {s with know:=s.know.set a.dot.rep.toNat a.dot.seq} a
def Fy (s:State):Bool:=decide (120<s.tallies.length)||(decide (120<s.lives.length)||decide (120<s.cells.length))
def Pn (s:State) (a:Act):Bool:=if a.kind=7∨(a.kind=6/\a.ref≠d0) then(match Dw s.cells a.ref with
 |some k=>onI s.cells k fun c=>decide (c.obj=a.obj)&&(decide (a.kind=7)||decide (c.time<a.time))
 |none=>false) else true
def Cw (s:State) (a:Act):State×Int:=
 if !(B6 s&&De a) then(s,3) else if Ap s.know a.dot then(s,1) else if !Fn a.knew s.know then(s,2) else if !Pn s a then(s,3) else
 if Fy (Jf s a) then(s,4) else(Jf s a,0)
def Gh (o:ByteArray) (n:Int) (t:Tally):Int:=if t.obj=o then addM n (t.sum.tmod 1000000) else n
def Eg (s:State) (o:ByteArray):Int:=s.tallies.foldl (Gh o) 0
theorem A4y {l:List Tally} {o:ByteArray} {n:Int} {t:Tally}:(l++[t]).foldl (Gh o) n=Gh o (l.foldl (Gh o) n) t:=by rw[List.foldl_append];rfl
def Gb (m:Bool) (o k:ByteArray) (l:Live):Bool:=(l.map==m)&&(decide (l.obj=o)&&decide (l.key=k))
def Po (s:State) (m:Bool) (o k:ByteArray):List Live:=s.lives.filter (Gb m o k)
def Dn (m:Bool) (o:ByteArray) (l:Live):Bool:=(l.map==m)&&decide (l.obj=o)
def Qz (s:State) (m:Bool) (o:ByteArray):List ByteArray:=Hw txLt ((s.lives.filter (Dn m o)).map (·.key))
def A4z (s:State) (o:ByteArray):List Int:=(rowL s o).map (·.val)
def Sz (s:State) (o:ByteArray):List Int:=(rowL s o).map (·.dot.rep)
def Fz (s:State) (m:Bool) (o k:ByteArray):List Int:=Hw ltI ((Po s m o k).map (·.dot.rep))
theorem A9f {l:List Tally} {o:ByteArray}:∀ {n:Int},-1000000<n/\n<1000000-> -1000000<l.foldl (Gh o) n/\l.foldl (Gh o) n<1000000:=by
 induction l with
 |nil=>intro n h;exact h
 |cons t l ih=>
  intro n h
  refine ih ?_
  unfold Gh
  split
  ·unfold addM
   have:=Int.tmod_lt_of_pos (n+t.sum.tmod 1000000) (show (0:Int)<1000000 by omega)
   have:=Int.lt_tmod_of_pos (n+t.sum.tmod 1000000) (show (0:Int)<1000000 by omega)
   omega
  ·exact h
theorem Er {α:Type} {l:List α} {p:α->Bool} {i:Nat} (hi:i<l.length):(l.take (i+1)).filter p=(l.take i).filter p++(if p l[i] then[l[i]] else[]):=by
 rw[Av hi,List.filter_append]
 congr 1
 cases h:p l[i]<;>simp[h]
theorem Cx {α:Type} (l:List α) (p:α->Bool) (i:Nat):((l.take i).filter p).length<=l.length:=by
 have:=Za6 p (l.take i)
 rw[Zbe] at this
 omega
section
variable {α:Type} {lt:α->α->Bool} {x:α} {acc nxt:List α} {j:Nat} {put:Bool}
def insG (lt:α->α->Bool) (x:α) (acc nxt:List α) (j:Nat) (put:Bool):Prop:=if put then nxt++acc.drop j=insB lt x acc else nxt++insB lt x (acc.drop j)=insB lt x acc
theorem O6:insG lt x acc [] 0 false:=by simp[insG]
theorem Cu (h:insG lt x acc nxt j put):nxt.length<=acc.length+1:=by
 unfold insG at h
 have:(insB lt x acc).length=acc.length+1:=U2 lt x acc
 split at h
 ·rw[<- this,<-h];simp
 ·rw[<- this,<-h];simp
theorem Lv (h:insG lt x acc nxt j false) (hj:j<acc.length) (hl:lt x acc[j]=true):insG lt x acc (nxt++[x]++[acc[j]]) (j+1) true:=by
 simp only[insG,Za3,if_false,if_true] at h ⊢
 rw[Zak hj,insB,if_pos hl] at h
 rw[<- h];simp
theorem Do (h:insG lt x acc nxt j put) (hj:j<acc.length) (hl:put=true∨lt x acc[j]=false):insG lt x acc (nxt++[acc[j]]) (j+1) put:=by
 cases put with
 |true=>
  simp only[insG,if_true] at h ⊢
  rw[Zak hj] at h
  rw[<- h];simp
 |false=>
  have hl:lt x acc[j]=false:=hl.resolve_left (by intro h;cases h)
  simp only[insG,Za3,if_false] at h ⊢
  rw[Zak hj,insB,if_neg (by rw[hl];simp)] at h
  rw[<- h];simp
theorem O7 (h:insG lt x acc nxt acc.length put):(if put then nxt else nxt++[x])=insB lt x acc:=by
 unfold insG at h
 split
 ·rename_i hp;rw[if_pos hp] at h;simpa using h
 ·rename_i hp;rw[if_neg hp] at h;simpa [insB] using h
theorem A50 {l:List α} {p:α->Bool} {i:Nat} (hi:i<l.length):Ce lt ((l.take (i+1)).filter p)=if p l[i] then insB lt l[i] (Ce lt ((l.take i).filter p)) else Ce lt ((l.take i).filter p):=by
 rw[Er hi]
 split
 ·rw[A4q]
 ·simp
theorem A9g {l:List α} {p:α->Bool} {i:Nat}:(Ce lt ((l.take i).filter p)).length<=l.length:=by
 rw[Jc];exact Cx l p i
end
def isZ (d:Dot):Bool:=decide (d=⟨0,0⟩)
def A20 (d:Dot):List Dot:=if isZ d then[] else[d]
def U9 (sc:List Cell) (S:List Dot):List Dot:=S.reverse.flatMap fun d=>A20 d++(rowA sc d).map (·.dot)
def R0 (sc:List Cell) (S:List Dot):Nat:=(S.map fun d=>1+(rowA sc d).length).sum
theorem A7j {sc:List Cell} {S:List Dot} {d:Dot} (hd:Adq sc fuel d) (hz:∀ c∈sc,c.dot≠⟨0,0⟩):U9 sc (S++[d])=A20 d++U9 sc (S++((sc.filter (Cm d)).map (·.dot)).reverse):=by
 unfold U9
 rw[Zbo,Zbo,List.reverse_reverse,Zba,Zba]
 simp only[Zbw,List.reverse_nil,List.nil_append,Zal,Zb2,Zb4,List.append_assoc]
 congr 1
 congr 1
 rw[A4w hd,Zb1,List.map_flatMap]
 refine Ic fun c hc=> ?_
 have:isZ c.dot=false:=by simpa [isZ] using hz c (Zan.1 hc).1
 simp[A20,this]
theorem Ad5 {l:List Nat}:l.reverse.sum=l.sum:=by
 induction l with
 |nil=>rfl
 |cons x l ih=>rw[Zbw,Zbm,ih];simp;omega
theorem A7k {sc:List Cell} {S:List Dot} {d:Dot} (hd:Adq sc fuel d):R0 sc (S++[d])=R0 sc (S++((sc.filter (Cm d)).map (·.dot)).reverse)+1:=by
 unfold R0
 rw[Zbl,Zbl,Zbm,Zbm,List.map_reverse,Ad5,List.map_map]
 have:(rowA sc d).length=(((sc.filter (Cm d))).map ((fun d=>1+(rowA sc d).length) ∘ fun c=>c.dot)).sum:=by
  rw[A4w hd,List.length_flatMap]
  congr 1
  refine List.map_congr_left fun c _=> ?_
  simp;omega
 simp only[Za2,List.map_nil,Zbp,List.sum_nil]
 rw[<- this];omega
theorem Xs {sc:List Cell}:∀ S:List Dot,S.length<=R0 sc S
 |[]=>Nat.zero_le _
 |d::S=>by
  have:=Xs (sc:=sc) S
  simp only[R0,Za2,Zbp,Zas] at*
  omega
section
structure El (α:Type) [Inhabited α] where
 p:Pl α
 g:Bool
 val:α->GV
 hv:∀ x,mkv g (p.enc x)=some (val x)
 hc:∀ x,(val x).cells=p.enc x
 hz:0<p.z
section
variable {α:Type} [Inhabited α] {e:El α} {σ τ:St} {rs:List Thg} {v:GV} {d:Array α}
open Go.Sort (swp)
theorem Ad6 {j:Nat} (hj:j<d.size):d.toList[j]? =some d[j]! :=by
 rw[getElem!_pos d j hj];simp
theorem El.at (e:El α) (H:Hp σ τ rs) (k:Nat) (hk:rs[k]? =some (ow e.p.kd v d.toList)) {j:Nat} (hj:j<d.size):iadG e.p.z v (some j)=some (atz e.p.z v j)/\ldG e.g e.p.z τ (atz e.p.z v j)=some (e.val d[j]!):=by
 have h:=H.sl k hk
 have hl:j<d.toList.length:=by simpa using hj
 refine⟨RdN.iad h hl,?_⟩
 obtain⟨cs,hR,hs⟩:=RdN.cells h hl
 have e1:cs=e.p.enc d.toList[j]:=hR
 have e2:d.toList[j]=d[j]! :=by
  have:=Ad6 hj
  rw[Zaz hl] at this
  injection this
 have hlen:=e.p.len d.toList[j]
 have:=hs 0 e.p.z cs (by unfold seg;rw[if_pos (by rw[e1,hlen];omega),List.drop_zero,List.take_of_length_le (by rw[e1,hlen];exact Za0 _)]) e.g
 rw[Aap] at this
 have this:ldG e.g e.p.z τ (atz e.p.z v j)=mkv e.g cs:=this
 rw[this,e1,e.hv,e2]
theorem El.sw (e:El α) (H:Hp σ τ rs) (k:Nat) (hk:rs[k]? =some (ow e.p.kd v d.toList)) {a b:Nat} (ha:a<d.size) (hb:b<d.size):∃ τ1 τ2,stG e.p.z τ (atz e.p.z v a) (e.val d[b]!)=some (.tup [],τ1)/\stG e.p.z τ1 (atz e.p.z v b) (e.val d[a]!)=some (.tup [],τ2)/\Hp σ τ2 (rs.set k (ow e.p.kd v (swp d a b).toList)):=by
 have hkl:=(Zam.1 hk).1
 obtain⟨τ1,e1,H1⟩:=H.stw k hk (j:=a) (by simpa using ha) e.p.z (e.val d[b]!) d[b]! (e.hc _) rfl e.hz
 obtain⟨τ2,e2,H2⟩:=H1.stw k (by rw[Zar hkl]) (j:=b) (by simpa using hb) e.p.z (e.val d[a]!) d[a]! (e.hc _) rfl e.hz
 refine⟨τ1,τ2,e1,e2,?_⟩
 rw[List.set_set] at H2
 have:(swp d a b).toList=(d.toList.set a d[b]!).set b d[a]! :=by simp[swp]
 rw[this];exact H2
def Holds (e:El α) (σ0 τ:St) (rs:List Thg) (k:Nat) (v:GV) (d:Array α):Prop:=k<rs.length/\Hp σ0 τ (rs.set k (ow e.p.kd v d.toList))
theorem Holds.of {σ0:St} (H:Hp σ0 τ rs) {k:Nat} (hk:rs[k]? =some (ow e.p.kd v d.toList)):Holds e σ0 τ rs k v d:=by
 obtain⟨h1,h2⟩:=Zam.1 hk
 refine⟨h1,?_⟩
 rw[<- h2,Zbi];exact H
theorem Holds.at {σ0:St} {k:Nat} (h:Holds e σ0 τ rs k v d) {j:Nat} (hj:j<d.size):iadG e.p.z v (some j)=some (atz e.p.z v j)/\ldG e.g e.p.z τ (atz e.p.z v j)=some (e.val d[j]!):=e.at h.2 k (Zar h.1) hj
theorem Holds.iad {σ0:St} {k:Nat} (h:Holds e σ0 τ rs k v d) {j:Nat} (hj:j<d.size):iadG e.p.z v (some j)=some (atz e.p.z v j):=(h.at hj).1
theorem Holds.ld {σ0:St} {k:Nat} (h:Holds e σ0 τ rs k v d) {j:Nat} (hj:j<d.size):ldG e.g e.p.z τ (atz e.p.z v j)=some (e.val d[j]!):=(h.at hj).2
theorem Holds.sw {σ0:St} {k:Nat} (h:Holds e σ0 τ rs k v d) {a b:Nat} (ha:a<d.size) (hb:b<d.size):∃ τ1 τ2,stG e.p.z τ (atz e.p.z v a) (e.val d[b]!)=some (.tup [],τ1)/\stG e.p.z τ1 (atz e.p.z v b) (e.val d[a]!)=some (.tup [],τ2)/\Holds e σ0 τ2 rs k v (swp d a b)/\τ2.length=τ.length:=by
 obtain⟨τ1,τ2,e1,e2,H⟩:=e.sw h.2 k (Zar h.1) ha hb
 exact⟨τ1,τ2,e1,e2,⟨h.1,by rwa [List.set_set] at H⟩,by rw[A40 e2,A40 e1]⟩
theorem B9 {k:IntKind} {x:Int} {j:Nat} (h:x=(j:Int)):Aw (some (.int k x))=some j:=by rw[h];exact A3
theorem swp_size (d:Array α) (i j:Nat):(swp d i j).size=d.size:=by simp[swp]
end
theorem Cy {P:Program} {a:Cd} {Q:Ex->Env->St->Prop} {env:Env} {σ:St} (I:Nat->Env->St->Prop) (n j0:Nat) (X:Env->St->Prop) (h0:I n env σ)
  (hs:∀(J:Nat->Env->St->Prop) (Y:Env->St->Prop),(∀ k env σ,I k env σ->J k env σ)->(∀ env σ,X env σ->Y env σ)->∀ k env σ,I k env σ->vc P a (fun e env' σ'=>match e with| .nxt=>∃ k',k'<k/\J k' env' σ'| .ext j=>if j=j0 then Y env' σ' else Q (.ext j) env' σ'| .ret=>Q .ret env' σ') env σ)
  (hx:∀ env σ,X env σ->Q (.ext j0) env σ):vc P (.lop a) Q env σ:=by
 refine Qg I n h0 fun k env σ hI=>Aq (hs I X (fun _ _ _ h=>h) (fun _ _ h=>h) k env σ hI) fun e env' σ' he=> ?_
 cases e with
 |nxt=>exact he
 |ret=>exact he
 |ext j=>
  have h5:if j=j0 then X env' σ' else Q (.ext j) env' σ':=he
  by_cases h:j=j0
  ·rw[if_pos h] at h5
   subst h;exact hx _ _ h5
  ·rw[if_neg h] at h5;exact h5
theorem Jg {P:Program} {a:Cd} {Q:Ex->Env->St->Prop} {env:Env} {σ:St} (n ri j0:Nat) (I:Nat->Env->St->Prop) (X:Env->St->Prop) (hr:env ri=gi 0) (h0:I 0 env σ)
  (hs:∀(J:Nat->Env->St->Prop) (Y:Env->St->Prop),(∀ i env σ,I i env σ->J i env σ)->(∀ env σ,X env σ->Y env σ)->∀ i env σ,i<n->env ri=gi i->decide ((i:Int)<n)=true->I i env σ->vc P a (fun e env' σ'=>match e with| .nxt=>env' ri=gi ((i:Int)+1)/\J (i+1) env' σ'| .ext j=>j=j0/\Y env' σ'| .ret=>False) env σ)
  (he:∀(Y:Env->St->Prop),(∀ env σ,X env σ->Y env σ)->∀ env σ,env ri=gi n->decide ((n:Int)<n)=false->I n env σ->vc P a (fun e env' σ'=>match e with| .nxt=>False| .ext j=>j=j0/\Y env' σ'| .ret=>False) env σ)
  (hx:∀ env σ,X env σ->Q (.ext j0) env σ):vc P (.lop a) Q env σ:=by
 refine Cr n ri I hr h0 (fun i env σ h1 h2 h3 h4=>Aq (hs I X (fun _ _ _ h=>h) (fun _ _ h=>h) i env σ h1 h2 h3 h4) fun e env' σ' hq=> ?_) (fun env σ h1 h2 h3=>Aq (he X (fun _ _ h=>h) env σ h1 h2 h3) fun e env' σ' hq=> ?_)
 ·cases e with
  |nxt=>exact hq
  |ret=>exact hq.elim
  |ext j=>obtain⟨rfl,hq⟩:=hq;exact hx _ _ hq
 ·cases e with
  |nxt=>exact hq
  |ret=>exact hq.elim
  |ext j=>obtain⟨rfl,hq⟩:=hq;exact hx _ _ hq
theorem Ci {P:Program} {a b:Cd} {Q:Ex->Env->St->Prop} {env:Env} {σ:St} (X:Env->St->Prop)
  (ha:∀ Y:Env->St->Prop,(∀ env σ,X env σ->Y env σ)->vc P a (fun e env' σ'=>match e with| .nxt=>Y env' σ'| .ext j=>Q (.ext j) env' σ'| .ret=>Q .ret env' σ') env σ)
  (hb:∀ env σ,X env σ->vc P b Q env σ):vc P (.seq a b) Q env σ:=by
 rw[vc_seq]
 refine Aq (ha X fun _ _ h=>h) fun e env' σ' he=> ?_
 cases e with
 |nxt=>exact hb _ _ he
 |ret=>exact he
 |ext j=>exact he
open Go.Sort (bitsLen bitsLen_le_iff)
abbrev len8:ByteArray:=⟨#[0,1,2,2,3,3,3,3,4,4,4,4,4,4,4,4,5,5,5,5,5,5,5,5,5,5,5,5,5,5,5,5,6,6,6,6,6,6,6,6,6,6,6,6,6,6,6,6,6,6,6,6,6,6,6,6,6,6,6,6,6,6,6,6,7,7,7,7,7,7,7,7,7,7,7,7,7,7,7,7,7,7,7,7,7,7,7,7,7,7,7,7,7,7,7,7,7,7,7,7,7,7,7,7,7,7,7,7,7,7,7,7,7,7,7,7,7,7,7,7,7,7,7,7,7,7,7,7,8,8,8,8,8,8,8,8,8,8,8,8,8,8,8,8,8,8,8,8,8,8,8,8,8,8,8,8,8,8,8,8,8,8,8,8,8,8,8,8,8,8,8,8,8,8,8,8,8,8,8,8,8,8,8,8,8,8,8,8,8,8,8,8,8,8,8,8,8,8,8,8,8,8,8,8,8,8,8,8,8,8,8,8,8,8,8,8,8,8,8,8,8,8,8,8,8,8,8,8,8,8,8,8,8,8,8,8,8,8,8,8,8,8,8,8,8,8,8,8,8,8,8,8,8,8,8,8]⟩
set_option maxRecDepth 100000 in
theorem Aax:(bl len8).length=256:=by decide +kernel
set_option maxRecDepth 100000 in
theorem Pp {m:Nat} (h:m<256):idxG (.str len8) (some m)=some (.int .u8 (bitsLen m:Nat)):=by
 have key:∀ m:Fin 256,idxG (.str len8) (some m.1)=some (.int .u8 (bitsLen m.1:Nat)):=by
  intro m
  have hm:m.1<(bl len8).length:=by rw[Aax];exact m.2
  rw[A94 hm]
  have:∀ m:Fin 256,((bl len8).getD m.1 0).toNat=bitsLen m.1:=by decide +kernel
  have h2:=this m
  rw[Zbb,Zaz hm,Zb0] at h2
  rw[h2]
 exact key ⟨m,h⟩
theorem A7l {x k:Nat} (h:2 ^ k<=x):bitsLen x=bitsLen (x / 2 ^ k)+k:=by
 have h1:∀ m,bitsLen x<=m↔bitsLen (x / 2 ^ k)+k<=m:=by
  intro m
  rw[bitsLen_le_iff]
  have hx:¬ x<2 ^ k:=by omega
  constructor
  ·intro hlt
   have hkm:k<m:=by
    rcases Za4 k m with h2|h2
    ·exact h2
    ·have:2 ^ m<=2 ^ k:=Nat.pow_le_pow_right (by omega) h2
     omega
   have:bitsLen (x / 2 ^ k)<=m - k:=by
    rw[bitsLen_le_iff,Zbn (Zb5 k),<-Nat.pow_add]
    rwa [Zbt (by omega)]
   omega
  ·intro hle
   have:bitsLen (x / 2 ^ k)<=m - k:=by omega
   rw[bitsLen_le_iff,Zbn (Zb5 k),<-Nat.pow_add,Zbt (by omega)] at this
   exact this
 have h2:=(h1 _).1 (Za0 _)
 have h3:=(h1 _).2 (Za0 _)
 omega
theorem A51 {n:Nat} (h:n<=1099511627776):bitsLen n<=41:=(bitsLen_le_iff n 41).2 (by omega)
end
end Go.Proofs.YtbeoiejnogdkpaaGreat.Sy
