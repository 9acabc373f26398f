/- Texts of this proof, one behind the other. -/
import Derived.Test.YtnknigikcdgebaaGreatDoorBA
import Derived.Orders
import Derived.ChangeArms
import Derived.DataReads
import Derived.ChangeShapes
import Derived.WideShapes
import Derived.Laws.Concat
set_option linter.unusedSimpArgs false
set_option linter.unusedVariables false
set_option maxRecDepth 4000
set_option maxHeartbeats 4000000
open List renaming getElem?_eq_getElem→Zaa,getElem?_eq_some_iff→Zad,getElem?_append_left→Zae,getElem?_cons_zero→Zah,mem_append_right→Zak,prefix_refl→Zal,mem_append_left→Zao,all_eq_true→Zap,append_assoc→Zaq,mem_filterMap→Zar,take_append_of_le_length→Zat,mem_range→Zau,take_of_length_le→Zav,length_append→Zax,mem_cons_of_mem→Zaz,flatten_cons→Za1,getElem?_cons_succ→Za2,mem_cons_self→Za3,drop_append→Za6,drop_eq_nil_of_le→Za7,cons_append→Za8,length_cons→Za9,mem_cons→Zbb,drop_zero→Zbc,prefix_append→Zbd,nil_append→Zbe,getD_eq_getElem?_getD→Zbf,nodup_append→Zbj,eq_nil_iff_forall_not_mem→Zbl,contains_iff_mem→Zbm,range→Zbo,mem_append→Zbq,eraseIdx_cons_succ→Zbt,getElem?_set_self→Zbu,getElem?_eq_none→Zbv,length_nil→Zbw,nodup_cons→Zbx,getElem?_take→Zb0,set_cons_succ→Zb1,getElem?_map→Zb3,size_toArray→Zb4,take_add_one→Zb5,ext_getElem?→Zb6,mem_map→Zb7,mem_flatten→Zb9,take_append→Zca,drop_drop→Zcc,mem_ofFn→Zcf,take_add→Zcg,ofFn→Zch
open Array renaming getElem?_eq_getElem→Zab,getElem?_eq_some_iff→Zac,replicate→Zam,getD_eq_getD_getElem?→Zan,getElem?_replicate→Za4
open Nat renaming lt_or_ge→Zaf,le_refl→Zai,lt_of_lt_of_le→Zaw,add_mul→Za5,le_trans→Zba,zero_le→Zbg,one_mul→Zbi,zero_add→Zbk,mul_le_mul_right→Zbn,zero_mul→Zbr,lt_of_le_of_lt→Zbz,lt_trichotomy→Zb2,add_comm→Zb8
open Option renaming bind_some→Zag,some→Zaj,isSome_iff_exists→Za0,map_some→Zbp
open Bool renaming and_eq_true→Zas,or_eq_true→Zay,false_eq_true→Zbh,not_eq_true'→Zbs,false_or→Zby,not_false→Zcb,false_and→Zcd,or_false→Zce
namespace Go.Proofs.YtnknigikcdgebaaGreatDoor.Sy
open Go Go.RowKit
theorem Rw {p:Nat->Prop} (h:∃ m,p m):∃ m,p m/\∀ k,p k->m<=k:=by
 obtain⟨m,hm⟩:=h
 induction m using Nat.strongRecOn with
 |_ m ih=>
  by_cases hk:∃ k,p k/\k<m
  ·obtain⟨k,h1,h2⟩:=hk
   exact ih k h2 h1
  ·exact⟨m,hm,fun k h1=>Nat.le_of_not_lt fun h2=>hk ⟨k,h1,h2⟩⟩
section pureSteps
variable {P:Program} {n:Nat}
def Opd.on (E E':Env):Opd->Prop
 | .t n=>E n=E' n
 | .k _=>True
end pureSteps
structure Run (P:Program) (k:Nat) (os:List Op1) (E:Nat->Env) (S:Nat->St) (V:Nat->GV):Prop where
 len:k<=os.length
 step:∀(i:Nat) o,i<k->os[i]? =some o->E (i+1)=upo (E i) o.d (V i)/\S i <+: S (i+1)/\((Ae (E i) o.g=true/\Step P (E i) (S i) o.i (V i) (S (i+1)))∨(Ae (E i) o.g=false/\V i= .tup []/\S (i+1)=S i))
theorem Run.mono {P:Program} {k:Nat} {os:List Op1} {E:Nat->Env} {S:Nat->St} {V:Nat->GV} (h:Run P k os E S V) {i j:Nat} (hij:i<=j) (hj:j<=k):S i <+: S j:=by
 induction j with
 |zero=>
      have:i=0:=by omega
      subst this;exact Zal _
 |succ j ih=>
  rcases Zaf j i with h1|h1
  ·have:i=j+1:=by omega
   subst this;exact Zal _
  ·have hjl:j<os.length:=Zaw (by omega) h.len
   exact(ih h1 (by omega)).trans (h.step j os[j] (by omega) (Zaa hjl)).2.1
def Clo (N:St):Prop:=∀(g:Nat) B,N[g]? =some (some B)->B.lt N.length
section sound
variable {P:Program} {n:Nat} {w0 w1:World} {W0:Rho} {N0:St}
theorem Ad {ops:Array Oper} {o:Oper} {o1:Op1} (h:Au P n ops o=some o1):A2a n o.dst=true/\o1.d=o.dst/\Co ops o.guard=some o1.g/\Lb P o.op=some o1.i:=by
 unfold Au at h
 split at h
 ·rename_i hd
  obtain⟨g,hg,h⟩:=Z1z.1 h
  obtain⟨i,hi,rfl⟩:=Z2z.1 h
  exact⟨hd,rfl,hg,hi⟩
 ·cases h
theorem Agm {ops:Array Oper} {os:List Op1} {k:Nat} {E:Nat->Env} {S:Nat->St} {V:Nat->GV} (hR:Run P k os E S V) (hos:∀(i:Nat) o1,os[i]? =some o1->∃ o,ops[i]? =some o/\Au P n ops o=some o1)
  {W:Rho} {a:Act} {w:World} (hA:At n w0 W0 N0 w1 (E 0) (S 0) W a w):∀ i,i≤k->Clo (S i)/\∀ j,j<i->vLt (S (j+1)).length (V j):=by
 have key:∀ m i,m+i<=k->∀ {W:Rho} {a:Act} {w:World},At n w0 W0 N0 w1 (E i) (S i) W a w->Clo (S (m+i))/\∀ j,i≤j->j<m+i->vLt (S (j+1)).length (V j):=by
  intro m
  induction m with
  |zero=>intro i _ W a w hA;rw[Zbk];exact⟨hA.good.closed,fun j h1 h2=>by omega⟩
  |succ m ih=>
   intro i hi W a w hA
   have hil:i<os.length:=Zaw (by omega) hR.len
   obtain⟨o,ho,hc⟩:=hos i os[i] (Zaa hil)
   obtain⟨hE,hp,hst⟩:=hR.step i os[i] (by omega) (Zaa hil)
   obtain⟨hd,hdd,hg,hop⟩:=Ad hc
   have fin:∀ {W':Rho} {a':Act} {w':World},At n w0 W0 N0 w1 (E (i+1)) (S (i+1)) W' a' w'->vLt (S (i+1)).length (V i)->Clo (S (m+1+i))/\∀ j,i≤j->j<m+1+i->vLt (S (j+1)).length (V j):=by
    intro W' a' w' hA' hv
    have:=ih (i+1) (by omega) hA'
    rw[show m+(i+1)=m+1+i by omega] at this
    refine⟨this.1,fun j h1 h2=> ?_⟩
    rcases Zaf i j with h3|h3
    ·exact this.2 j h3 h2
    ·have:j=i:=by omega
     subst this;exact hv
   have hps:∀ u,(a.put o.dst u).tmps.size=n/\(a.put o.dst u).defers=[]:=fun u=>by
    cases ho:o.dst<;>simp[Act.put,hA.size,hA.defers]
   rcases hst with⟨hw,hs⟩|⟨hw,hv,hS⟩
   ·have hO:=S6 hop (hA.env.on _) hA.good hs (fun _ _=>Clo (S (m+1+i))/\∀ j,i≤j->j<m+1+i->vLt (S (j+1)).length (V j)) fun W' u w' hsub hv hG hF=> ?_
    ·exact hO.pure
    ·have hle':Le W W':=Good.le_of_sub hA.good.fresh hsub
     refine fin (W':=W') (a':=a.put o.dst u) (w':=w') ?_ (hv.lt hG.fresh)
     rw[hE]
     exact {env:=by rw[hdd];exact Ij (fun t=>(hA.env t).mono hle') hv hA.size hd,good:=hG,size:=(hps u).1,defers:=(hps u).2,len:=Zba hA.len hp.length_le,sub:=fun g hg=>by rw[hsub g (Zaw hg hA.len),hA.sub g hg],frame:=hA.frame.trans hF}
   ·refine fin (W':=W) (a':=a.put o.dst undef) (w':=w) ?_ (by rw[hv];exact fun v h=>by cases h)
    rw[hE,hS,hv]
    exact {env:=by rw[hdd];exact Ij hA.env ⟨[],rfl,.nil⟩ hA.size hd,good:=hA.good,size:=(hps _).1,defers:=(hps _).2,len:=hA.len,sub:=hA.sub,frame:=hA.frame}
 intro i hi
 have:=key i 0 (by omega) hA
 exact⟨this.1,fun j hj=>this.2 j (by omega) hj⟩
def cur (d:Nat->Option Nat) (V:Nat->GV) (E0:Env) (D:Nat->Bool):Nat->Env
 |0=>E0
 |m+1=>fun t=>if D m=true/\d m=some t then V m else cur d V E0 D m t
section order
variable {ops:Array Oper} {fl:List Bool} {k k':Nat}
def S8 (ops:Array Oper) (D:Nat->Bool):Prop:=∀(i:Nat) o,ops[i]? =some o->D i=true->∀ e∈o.after.toList,Region.binds .any e=true->D e.on=true
theorem Gf (hok:Hu fl ops k=true) {i:Nat} {o:Oper} (ho:ops[i]? =some o):(∀ e∈o.after.toList,Region.binds .any e=true->e.on<i)/\∀ j,j<i->
  (((Region.before ops).getD i 0).testBit j=true->Ad1 (Region.before ops) o j=true)/\(k<=i->atB fl i=false->atB fl j=false->((Region.before ops).getD i 0).testBit j=true)/\(∀ x,ops[j]? =some x->must ops x o=true->((Region.before ops).getD i 0).testBit j=true):=by
 have hi:i<ops.size:=(Zac.1 ho).1
 have h:=Zap.1 hok i (Zau.2 hi)
 unfold Aad at h
 rw[ho] at h
 simp only[Zas] at h
 obtain⟨h1,h2⟩:=h
 refine⟨fun e he hb=>by simpa [hb] using Zap.1 h1 e he,fun j hj=> ?_⟩
 have h3:=Zap.1 h2 j (Zau.2 hj)
 simp only[Zas,Zay,Zbs] at h3
 obtain⟨h3,h4⟩:=h3
 refine⟨fun hb=> ?_,fun hk hp hq=> ?_,fun x hx hmu=> ?_⟩
 ·rcases h3 with h3|h3
  ·rw[hb] at h3;cases h3
  ·exact h3
 ·rcases h4 with h4|h4
  ·simp[hk,hp,hq] at h4
  ·exact h4
 ·rcases h4 with h4|h4
  ·rw[hx] at h4
   simp[hmu] at h4
  ·exact h4
theorem Ko (hok:Hu fl ops k=true) {D:Nat->Bool} (hc:S8 ops D):∀(i:Nat) o,ops[i]? =some o->(∀ e∈o.after.toList,Region.binds .any e=true->D e.on=true)->∀ j,j<i->((Region.before ops).getD i 0).testBit j=true->D j=true:=by
 intro i
 induction i using Nat.strongRecOn with
 |_ i ih=>
  intro o ho he j hj hb
  obtain⟨h1,h2⟩:=Gf hok ho
  have h3:=(h2 j hj).1 hb
  unfold Ad1 at h3
  obtain⟨e,hem,h4⟩:=List.any_eq_true.1 h3
  simp only[Zas,Zay,beq_iff_eq,decide_eq_true_eq] at h4
  obtain⟨hbi,h4⟩:=h4
  have hD:=he e hem hbi
  rcases h4 with rfl|⟨h5,h6⟩
  ·exact hD
  ·have hlt:=h1 e hem hbi
   have hi:i<ops.size:=(Zac.1 ho).1
   have ho':ops[e.on]? =some ops[e.on]:=Zab (by omega)
   exact ih e.on hlt _ ho' (hc e.on _ ho' hD) j h5 h6
end order
structure Mid (n:Nat) (w0:World) (W0:Rho) (N0:St) (w1:World) (C:Env) (S:St) (W:Rho) (a:Act) (w:World):Prop where
 env:∀ t,vRel W (C t) (a.eval (.tmp t))
 good:Good w0 W S w
 size:a.tmps.size=n
 defers:a.defers=[]
 len:N0.length<=S.length
 sub:∀ g,g<N0.length->W g=W0 g
 frame:Frame W0 N0 w1 W S w
theorem Aes {ops:Array Oper} {o:Oper} {o1:Op1} (hc:Au P n ops o=some o1) {Ei C:Env} {Si Sj Sk:St} {v:GV} {W:Rho} {a:Act} {w:World} (hM:Mid n w0 W0 N0 w1 C Sk W a w) (hij:Si <+: Sj) (hjk:Sj <+: Sk) (h0i:N0.length<=Si.length) (hCi:Clo Si) (hCj:Clo Sj)
  (hops:∀ t∈Di ops o,C t=Ei t/\vLt Si.length (Ei t)) (hund:∀ g,Si.length<=g->g<Sj.length->W g=none) (hst:(Ae Ei o1.g=true/\Step P Ei Si o1.i v Sj)∨(Ae Ei o1.g=false/\v= .tup []/\Sj=Si))
  {next:Act->World->Prop} {Q:Exit->Act->World->Prop} (hn:∀ u w' W',Mid n w0 W0 N0 w1 (upo C o.dst v) Sk W' (a.put o.dst u) w'->(∀ g,(g<Si.length∨Sj.length<=g)->W' g=W g)->next (a.put o.dst u) w') {i:Nat} (hi:ops[i]? =some o):wpOp P ops Q i next a w:=by
 obtain⟨hd,hdd,hg,hop⟩:=Ad hc
 have hps:∀ u,(a.put o.dst u).tmps.size=n/\(a.put o.dst u).defers=[]:=fun u=>by
  cases ho:o.dst<;>simp[Act.put,hM.size,hM.defers]
 have hik:Si <+: Sk:=hij.trans hjk
 have getI:∀(g:Nat),g<Si.length->Sk[g]? =Si[g]? :=fun g h=>by obtain⟨r,rfl⟩:=hik;exact Zae h
 have getJ:∀(g:Nat),g<Sj.length->Sk[g]? =Sj[g]? :=fun g h=>by obtain⟨r,rfl⟩:=hjk;exact Zae h
 have hwant:Region.wanted o (yielded ops a.tmps)=Ae Ei o1.g:=by
  rw[Kn (ops:=ops) (hM.env:EnvRel W C a) hg]
  unfold Co at hg
  split at hg
  ·injection hg with hg;rw[<- hg];rfl
  ·rename_i j b hgd
   obtain⟨t,ht,hg⟩:=Z2z.1 hg
   rw[<- hg]
   have:C t=Ei t:=(hops t (by
    unfold Di
    rw[hgd]
    refine Zak _ ?_
    simp[ht])).1
   simp only[Ae,this]
 unfold wpOp
 rw[hi]
 simp only[hwant]
 rcases hst with⟨hw,hs⟩|⟨hw,hv,hS⟩
 ·rw[if_pos hw]
  have hGi:Good w0 (Good.cut W Si.length) Si w:=by
   have:=hM.good.trunc (n:=Si.length) hik.length_le (fun g B hg hB=>by rw[getI g hg] at hB;exact hCi g B hB)
   rwa [show Sk.take Si.length=Si by obtain⟨r,rfl⟩:=hik;simp] at this
  have hon:L5 (Good.cut W Si.length) Ei a o.op.operands.toList:=fun x hx y hy=>by
   cases x with
   |tmp t=>
    simp only[opd,Zaj.injEq] at hy
    subst hy
    obtain⟨h1,h2⟩:=hops t (by
     unfold Di
     exact Zao _ (Zar.2 ⟨.tmp t,hx,rfl⟩))
    have h3:=hM.env t
    rw[h1] at h3
    exact h3.back (n:=Si.length) (fun g hg=>(Good.cut_lt hg).symm) h2
   |const u=>
    obtain⟨q,hq,rfl⟩:=Z2z.1 hy
    exact Ru hq
   |func f=>
    simp only[opd,Zaj.injEq] at hy
    subst hy
    exact⟨[],rfl,.nil⟩
   |global g=>cases hy
  refine .inl ((S6 hop hon hGi hs (fun u w'=>next (a.put o.dst u) w') fun W' u w' hsub hv hG hF=> ?_).wp fun _ _ h=>h)
  let W2:Rho:=fun g=>if Si.length<=g/\g<Sj.length then W' g else W g
  have eqout:∀ g,(g<Si.length∨Sj.length<=g)->W2 g=W g:=fun g hg=>if_neg (by omega)
  have eqlt:∀ g,g<Sj.length->W' g=W2 g:=fun g hg=>by
   rcases Zaf g Si.length with h1|h1
   ·rw[eqout g (.inl h1),hsub g h1,Good.cut_lt h1]
   ·exact(if_pos ⟨h1,hg⟩).symm
  have hle:Le W W2:=fun g L hL=>by
   by_cases hg:Si.length<=g/\g<Sj.length
   ·rw[hund g hg.1 hg.2] at hL;cases hL
   ·rw[eqout g (by omega)];exact hL
  have hblk:∀ g L,W g=some L->L.a.block<w.heap.size:=fun g L hL=>by
   cases ho:L.own with
   |true=>exact(hM.good.loc g L hL ho).2.2.1
   |false=>exact Zaw (hM.good.old g L hL ho) hM.good.below.size
  have hkeep:∀(g:Nat) B L,Sj.length<=g->Sk[g]? =some (some B)->W g=some L->w'.heap[L.a.block]? =w.heap[L.a.block]? :=fun g B L hg hB hL=>by
   refine hF.2.2 L.a.block (hblk g L hL) fun g1 B1 L1 hB1 hL1 ho1 he=> ?_
   obtain⟨hlt1,hL1'⟩:=Good.cut_some hL1
   have hB1':Sk[g1]? =some (some B1):=by rw[getI g1 hlt1];exact hB1
   cases ho:L.own with
   |true=>
    have:=hM.good.inj g1 g B1 B L1 L hB1' hB hL1' hL ho1 ho he
    have:=hij.length_le
    omega
   |false=>
    have h1:=hM.good.old g L hL ho
    have h2:=(hM.good.loc g1 L1 hL1' ho1).2.1
    omega
  have hlive:∀(g:Nat) B L,g<Sj.length->Sk[g]? =some (some B)->W2 g=some L->L.own=true->L.a.block<w.heap.size->∃ g0 B0 L0,g0<Si.length/\Sk[g0]? =some (some B0)/\W g0=some L0/\L0.own=true/\L0.a.block=L.a.block:=fun g B L hg hB hL ho hlt=>by
   obtain⟨g0,B0,L0,h1,h2,h3,h4⟩:=hF.1 g B L (by rw[<- getJ g hg];exact hB) (by rw[eqlt g hg];exact hL) ho hlt
   obtain⟨h5,h6⟩:=Good.cut_some h2
   exact⟨g0,B0,L0,h5,by rw[getI g0 h5];exact h1,h6,h3,h4⟩
  refine hn u w' W2 ?_ eqout
  refine {env:=Ij (fun t=>(hM.env t).mono hle) (hv.back (n:=Sj.length) eqlt (hv.lt hG.fresh)) hM.size hd,good:= ?_,size:=(hps u).1,defers:=(hps u).2,len:=hM.len,sub:=fun g hg=>by rw[eqout g (.inl (Zaw hg h0i)),hM.sub g hg],frame:=hM.frame.trans ?_}
  ·refine {lay:=hG.lay,below:=hG.below,fresh:=fun g hg=>by rw[eqout g (.inr (Zba hjk.length_le hg))];exact hM.good.fresh g hg,loc:= ?_,old:= ?_,closed:=hM.good.closed,mem:= ?_,inj:= ?_}
   ·intro g L hL ho
    rcases Zaf g Sj.length with h1|h1
    ·exact hG.loc g L (by rw[eqlt g h1];exact hL) ho
    ·rw[eqout g (.inr h1)] at hL
     have:=hM.good.loc g L hL ho
     exact⟨this.1,this.2.1,Zaw this.2.2.1 hF.2.1,this.2.2.2⟩
   ·intro g L hL ho
    rcases Zaf g Sj.length with h1|h1
    ·exact hG.old g L (by rw[eqlt g h1];exact hL) ho
    ·rw[eqout g (.inr h1)] at hL
     exact hM.good.old g L hL ho
   ·intro g B L hB hL
    rcases Zaf g Sj.length with h1|h1
    ·have hBj:Sj[g]? =some (some B):=by rw[<- getJ g h1];exact hB
     exact Good.holds_back (n:=Sj.length) eqlt (hCj g B hBj) (hG.mem g B L hBj (by rw[eqlt g h1];exact hL))
    ·rw[eqout g (.inr h1)] at hL
     exact Good.holds_mono hle (Good.holds_step (hM.good.mem g B L hB hL) (hkeep g B L h1 hB hL))
   ·have cross:∀(g g':Nat) B B' L L',g<Sj.length->Sj.length<=g'->Sk[g]? =some (some B)->Sk[g']? =some (some B')->W2 g=some L->W2 g'=some L'->L.own=true->L'.own=true->L.a.block=L'.a.block->False:=by
     intro g g' B B' L L' h1 h1' hB hB' hL hL' ho ho' he
     rw[eqout g' (.inr h1')] at hL'
     obtain⟨g0,B0,L0,k1,k2,k3,k4,k5⟩:=hlive g B L h1 hB hL ho (by rw[he];exact hblk g' L' hL')
     have:=hM.good.inj g0 g' B0 B' L0 L' k2 hB' k3 hL' k4 ho' (k5.trans he)
     have:=hij.length_le
     omega
    intro g g' B B' L L' hB hB' hL hL' ho ho' he
    rcases Zaf g Sj.length with h1|h1<;>rcases Zaf g' Sj.length with h1'|h1'
    ·exact hG.inj g g' B B' L L' (by rw[<- getJ g h1];exact hB) (by rw[<- getJ g' h1'];exact hB') (by rw[eqlt g h1];exact hL) (by rw[eqlt g' h1'];exact hL') ho ho' he
    ·exact(cross g g' B B' L L' h1 h1' hB hB' hL hL' ho ho' he).elim
    ·exact(cross g' g B' B L' L h1' h1 hB' hB hL' hL ho' ho he.symm).elim
    ·rw[eqout g (.inr h1)] at hL
     rw[eqout g' (.inr h1')] at hL'
     exact hM.good.inj g g' B B' L L' hB hB' hL hL' ho ho' he
  ·refine .of hF.2.1 (fun b hb hno=>hF.2.2 b hb fun g1 B1 L1 hB1 hL1 ho1=> ?_) fun g B L hB hL ho hlt=> ?_
   ·obtain⟨hlt1,hL1'⟩:=Good.cut_some hL1
    exact hno g1 B1 L1 (by rw[getI g1 hlt1];exact hB1) hL1' ho1
   ·rcases Zaf g Sj.length with h1|h1
    ·obtain⟨g0,B0,L0,k1,k2,k3,k4,k5⟩:=hlive g B L h1 hB hL ho hlt
     exact⟨g0,B0,L0,k2,k3,k4,k5⟩
    ·rw[eqout g (.inr h1)] at hL
     exact⟨g,B,L,hB,hL,ho,rfl⟩
 ·rw[if_neg (by rw[hw];simp)]
  refine hn undef w W ?_ (fun _ _=>rfl)
  exact {env:=Ij (hM.env:EnvRel W C a) (by rw[hv];exact⟨[],rfl,.nil⟩) hM.size hd,good:=hM.good,size:=(hps _).1,defers:=(hps _).2,len:=hM.len,sub:=hM.sub,frame:=hM.frame}
def cnt (D:Nat->Bool):Nat->Nat
 |0=>0
 |m+1=>cnt D m+(if D m then 0 else 1)
theorem Afn {D D':Nat->Bool} (h:∀ j,D j=true->D' j=true):∀ m,cnt D' m<=cnt D m
 |0=>Zai _
 |m+1=>by
  have:=Afn h m
  simp only[cnt]
  cases h1:D m with
  |true=>rw[h m h1];simpa using this
  |false=>cases D' m<;>simp<;>omega
theorem Afo {D D':Nat->Bool} (h:∀ j,D j=true->D' j=true) {i:Nat} (h1:D i=false) (h2:D' i=true):∀ m,i<m->cnt D' m<cnt D m
 |0,hi=>by omega
 |m+1,hi=>by
  simp only[cnt]
  by_cases he:i=m
  ·subst he
   have:=Afn h i
   rw[h1,h2]
   simp
   omega
  ·have:=Afo h h1 h2 m (by omega)
   cases h3:D m with
   |true=>rw[h m h3];simpa using this
   |false=>cases D' m<;>simp<;>omega
theorem A7s {D:Nat->Bool}:∀ m,cnt D m<=m
 |0=>Zai _
 |m+1=>by
  have:=A7s (D:=D) m
  simp only[cnt]
  split<;>omega
theorem Pb {l:Array Bool} {i:Nat} (h:i<l.size) (b c:Bool):l.getD i b=l.getD i c:=by
 simp[Array.getD,h]
structure Run2 (P:Program) (k:Nat) (os:List Op1) (E:Nat->Env) (S:Nat->St) (V:Nat->GV):Prop where
 step:∀(i:Nat) o,os[i]? =some o->E (i+1)=upo (E i) o.d (V i)/\(i<k->S i <+: S (i+1))/\((Ae (E i) o.g=true/\Step P (E i) (S i) o.i (V i) (S (i+1)))∨(Ae (E i) o.g=false/\V i= .tup []/\S (i+1)=S i))
theorem Ad5 {P:Program}:∀ {os:List Op1} (k:Nat) {K:Env->St->Prop} {env:Env} {N:St},Ac true P (os.take k) (Ac false P (os.drop k) K) env N->∃ E S V,E 0=env/\S 0=N/\Run2 P k os E S V/\K (E os.length) (S os.length)
 |[],k,K,env,N,h=>⟨fun _=>env,fun _=>N,fun _=>.nilS,rfl,rfl,⟨fun i o ho=>by simp at ho⟩,by simpa [Ac] using h⟩
 |o::os,k,K,env,N,h=>by
  have key:∀(k':Nat) (v:GV) (N':St),(0<k->N <+: N')->k'=k - 1->((Ae env o.g=true/\Step P env N o.i v N')∨(Ae env o.g=false/\v= .tup []/\N'=N))->Ac true P (os.take k') (Ac false P (os.drop k') K) (upo env o.d v) N'->∃ E S V,E 0=env/\S 0=N/\Run2 P k (o::os) E S V/\K (E (o::os).length) (S (o::os).length):=by
   intro k' v N' hp hk hst hv
   obtain⟨E,S,V,h1,h2,h3,h4⟩:=Ad5 k' hv
   refine⟨fun i=>match i with|0=>env|i+1=>E i,fun i=>match i with|0=>N|i+1=>S i,fun i=>match i with|0=>v|i+1=>V i,rfl,rfl,⟨fun i o' ho=> ?_⟩,h4⟩
   cases i with
   |zero=>
    simp only[Zah,Zaj.injEq] at ho
    subst ho
    simp only[h1,h2]
    exact⟨trivial,hp,hst⟩
   |succ i=>
    simp only[Za2] at ho
    obtain⟨a,b,c⟩:=h3.step i o' ho
    exact⟨a,fun hi=>b (by omega),c⟩
  cases k with
  |zero=>
   simp only[List.take_zero,Ac,Zbc] at h
   split at h
   ·rename_i hw
    obtain⟨v,N',hs,_,hv⟩:=h
    exact key 0 v N' (fun h=>by omega) rfl (.inl ⟨hw,hs⟩) (by simpa [Ac] using hv)
   ·rename_i hw
    exact key 0 (.tup []) N (fun h=>by omega) rfl (.inr ⟨by simpa using hw,rfl,rfl⟩) (by simpa [Ac] using h)
  |succ k=>
   simp only[List.take_succ_cons,Ac,List.drop_succ_cons] at h
   split at h
   ·rename_i hw
    obtain⟨v,N',hs,hp,hv⟩:=h
    exact key k v N' (fun _=>hp trivial) rfl (.inl ⟨hw,hs⟩) hv
   ·rename_i hw
    exact key k (.tup []) N (fun _=>Zal _) rfl (.inr ⟨by simpa using hw,rfl,rfl⟩) h
theorem Pc {ops:Array Oper} {o:Oper} {o1:Op1} (hc:Au P n ops o=some o1) {Ei C:Env} {Sx Sy:St} {v:GV} {W:Rho} {a:Act} {w:World} (hM:Mid n w0 W0 N0 w1 C Sx W a w)
  (hops:∀ t∈Di ops o,C t=Ei t) (hst:(Ae Ei o1.g=true/\Step P Ei Sx o1.i v Sy)∨(Ae Ei o1.g=false/\v= .tup []/\Sy=Sx))
  {next:Act->World->Prop} {Q:Exit->Act->World->Prop} (hn:∀ u w' W',Mid n w0 W0 N0 w1 (upo C o.dst v) Sy W' (a.put o.dst u) w'->(∀ g,g<Sx.length->W' g=W g)->next (a.put o.dst u) w') {i:Nat} (hi:ops[i]? =some o):wpOp P ops Q i next a w:=by
 obtain⟨hd,hdd,hg,hop⟩:=Ad hc
 have hps:∀ u,(a.put o.dst u).tmps.size=n/\(a.put o.dst u).defers=[]:=fun u=>by
  cases ho:o.dst<;>simp[Act.put,hM.size,hM.defers]
 have hwant:Region.wanted o (yielded ops a.tmps)=Ae Ei o1.g:=by
  rw[Kn (ops:=ops) (hM.env:EnvRel W C a) hg]
  unfold Co at hg
  split at hg
  ·injection hg with hg;rw[<- hg];rfl
  ·rename_i j b hgd
   obtain⟨t,ht,hg⟩:=Z2z.1 hg
   rw[<- hg]
   have:C t=Ei t:=hops t (by
    unfold Di
    rw[hgd]
    refine Zak _ ?_
    simp[ht])
   simp only[Ae,this]
 unfold wpOp
 rw[hi]
 simp only[hwant]
 rcases hst with⟨hw,hs⟩|⟨hw,hv,hS⟩
 ·rw[if_pos hw]
  have hon:L5 W Ei a o.op.operands.toList:=fun x hx y hy=>by
   cases x with
   |tmp t=>
    simp only[opd,Zaj.injEq] at hy
    subst hy
    have h1:=hops t (by
     unfold Di
     exact Zao _ (Zar.2 ⟨.tmp t,hx,rfl⟩))
    have h3:=hM.env t
    rw[h1] at h3
    exact h3
   |const u=>
    obtain⟨q,hq,rfl⟩:=Z2z.1 hy
    exact Ru hq
   |func f=>
    simp only[opd,Zaj.injEq] at hy
    subst hy
    exact⟨[],rfl,.nil⟩
   |global g=>cases hy
  refine .inl ((S6 hop hon hM.good hs (fun u w'=>next (a.put o.dst u) w') fun W' u w' hsub hv hG hF=>hn u w' W' ?_ hsub).wp fun _ _ h=>h)
  have hle:Le W W':=Good.le_of_sub hM.good.fresh hsub
  exact {env:=Ij (fun t=>(hM.env t).mono hle) hv hM.size hd,good:=hG,size:=(hps u).1,defers:=(hps u).2,len:=Zba hM.len (Rv hs),sub:=fun g hg=>by rw[hsub g (Zaw hg hM.len),hM.sub g hg],frame:=hM.frame.trans hF}
 ·rw[if_neg (by rw[hw];simp)]
  refine hn undef w W ?_ (fun _ _=>rfl)
  rw[hS]
  exact {env:=Ij (hM.env:EnvRel W C a) (by rw[hv];exact⟨[],rfl,.nil⟩) hM.size hd,good:=hM.good,size:=(hps _).1,defers:=(hps _).2,len:=hM.len,sub:=hM.sub,frame:=hM.frame}
theorem Ad6 {ops:Array Oper} {E:Nat->Env} {V:Nat->GV} {D:Nat->Bool} (hE:∀ i,i<ops.size->∀ t,E (i+1) t=if((ops[i]?).bind (·.dst))=some t then V i else E i t) {i:Nat} {o:Oper} (ho:ops[i]? =some o) (hDi:D i=false)
  (hpre:∀ m,m<i->∀ x,ops[m]? =some x->must ops x o=true->D m=true) (hlat:∀ m,i<m->∀ x,ops[m]? =some x->must ops o x=true->D m=false) {t:Nat} (ht:t∈Di ops o):
  cur (fun i=>(ops[i]?).bind (·.dst)) V (E 0) D ops.size t=E i t:=by
 have hin:i<ops.size:=(Zac.1 ho).1
 have:∀ m,m≤ops.size->cur (fun i=>(ops[i]?).bind (·.dst)) V (E 0) D m t=if m<=i then E m t else E i t:=by
  intro m
  induction m with
  |zero=>intro _;rw[if_pos (Zbg _)];rfl
  |succ m ihm=>
   intro hm
   have hxm:ops[m]? =some ops[m]:=Zab (by omega)
   simp only[cur]
   rw[ihm (by omega)]
   rcases Zb2 m i with h|h|h
   ·rw[if_pos (show m<=i by omega),if_pos (show m+1<=i by omega),hE m (by omega) t]
    by_cases hdm:((ops[m]?).bind (·.dst))=some t
    ·have hmu:must ops ops[m] o=true:=by
      simp only[hxm,Zag] at hdm
      simp[must,hdm,ht]
     rw[if_pos ⟨hpre m h _ hxm hmu,hdm⟩,if_pos hdm]
    ·rw[if_neg (fun h=>hdm h.2),if_neg hdm]
   ·subst h
    rw[if_neg (by rw[hDi];simp),if_pos (Zai _),if_neg (by omega)]
   ·rw[if_neg (show ¬ m<=i by omega),if_neg (show ¬ m+1<=i by omega)]
    by_cases hdm:((ops[m]?).bind (·.dst))=some t
    ·have hmu:must ops o ops[m]=true:=by
      simp only[hxm,Zag] at hdm
      simp[must,hdm,ht]
     rw[if_neg (by rw[hlat m h _ hxm hmu];simp)]
    ·rw[if_neg (fun h=>hdm h.2)]
 have:=this ops.size (Zai _)
 rw[if_neg (by omega)] at this
 exact this
theorem Ad7 {ops:Array Oper} {E0:Env} {V:Nat->GV} {D D':Nat->Bool} {i:Nat} {o:Oper} (ho:ops[i]? =some o) (hD':∀ j,j<ops.size->D' j=if j=i then true else D j)
  (hlat:∀ m,i<m->∀ x,ops[m]? =some x->must ops o x=true->D m=false) (t:Nat):
  cur (fun i=>(ops[i]?).bind (·.dst)) V E0 D' ops.size t=upo (cur (fun i=>(ops[i]?).bind (·.dst)) V E0 D ops.size) o.dst (V i) t:=by
 have hin:i<ops.size:=(Zac.1 ho).1
 have ho2:((ops[i]?).bind (·.dst))=o.dst:=by rw[ho];rfl
 have hcur:∀ m,m≤ops.size->cur (fun i=>(ops[i]?).bind (·.dst)) V E0 D' m t=if i<m/\o.dst=some t then V i else cur (fun i=>(ops[i]?).bind (·.dst)) V E0 D m t:=by
  intro m
  induction m with
  |zero=>intro _;rw[if_neg (by omega)];rfl
  |succ m ihm=>
   intro hm
   have hxm:ops[m]? =some ops[m]:=Zab (by omega)
   simp only[cur]
   rw[ihm (by omega)]
   by_cases hmi:m=i
   ·subst hmi
    have hDm:D' m=true:=by rw[hD' m (by omega),if_pos rfl]
    simp only[ho2,hDm,true_and,Nat.lt_succ_self,Nat.lt_irrefl,false_and,if_false]
    by_cases hdm:o.dst=some t
    ·rw[if_pos hdm,if_pos hdm]
    ·rw[if_neg hdm,if_neg hdm,if_neg (fun h=>hdm h.2)]
   ·have hDm:D' m=D m:=by rw[hD' m (by omega),if_neg hmi]
    simp only[hDm]
    by_cases hdm:D m=true/\((ops[m]?).bind (·.dst))=some t
    ·rw[if_pos hdm]
     by_cases hc2:i<m+1/\o.dst=some t
     ·exfalso
      have hmu:must ops o ops[m]=true:=by
       have e1:=hdm.2
       simp only[hxm,Zag] at e1
       simp[must,e1,hc2.2]
      have:=hlat m (by omega) _ hxm hmu
      rw[hdm.1] at this;cases this
     ·rw[if_neg hc2,if_pos hdm]
    ·rw[if_neg hdm,if_neg hdm]
     by_cases hc2:i<m/\o.dst=some t
     ·rw[if_pos hc2,if_pos ⟨by omega,hc2.2⟩]
     ·rw[if_neg hc2,if_neg (fun h=>hc2 ⟨by omega,h.2⟩)]
 rw[hcur _ (Zai _)]
 cases hd:o.dst with
 |none=>simp[upo]
 |some d=>
  simp only[upo,up,Zaj.injEq]
  by_cases htd:t=d
  ·subst htd;simp[hin]
  ·rw[if_neg htd,if_neg (fun h=>htd h.2.symm)]
theorem Run2.run {os:List Op1} {k k':Nat} {E:Nat->Env} {S:Nat->St} {V:Nat->GV} (h:Run2 P k os E S V) (hk:k'<=k) (hl:k'<=os.length):Run P k' os E S V:=
 ⟨hl,fun i o hi ho=>by
  obtain⟨a,b,c⟩:=h.step i o ho
  exact⟨a,b (by omega),c⟩⟩
def Ad8 (P:Program) (os:List Op1) (E:Nat->Env) (S:Nat->St) (V:Nat->GV) (i m:Nat):Prop:=∀ o1,os[i]? =some o1->(Ae (E i) o1.g=true/\Step P (E i) (S m) o1.i (V i) (S m))∨(Ae (E i) o1.g=false/\V i= .tup []/\S m=S m)
theorem A2c {D:Nat->Bool} {i:Nat} (h:D i=false):∀ m,i<m->0<cnt D m
 |0,hi=>by omega
 |m+1,hi=>by
  simp only[cnt]
  by_cases he:i=m
  ·subst he;simp[h]
  ·have:=A2c h m (by omega);omega
theorem A7t {ops:Array Oper} {E:Nat->Env} {V:Nat->GV} {D:Nat->Bool} (hE:∀ i,i<ops.size->∀ t,E (i+1) t=if((ops[i]?).bind (·.dst))=some t then V i else E i t) (all:∀ i,i<ops.size->D i=true):∀ m,m≤ops.size->∀ t,cur (fun i=>(ops[i]?).bind (·.dst)) V (E 0) D m t=E m t
 |0,_,t=>rfl
 |m+1,hm,t=>by
  simp only[cur]
  rw[hE m (by omega) t,A7t hE all m (by omega) t]
  simp only[all m (by omega),true_and]
section free
variable {ops:Array Oper} {os:List Op1} {fl:List Bool} {k k':Nat} {E:Nat->Env} {S:Nat->St} {V:Nat->GV} {Q:Exit->Act->World->Prop}
theorem Lq (hok:Hu fl ops k=true) {listed:Array Bool} (hs:listed.size=ops.size) {i:Nat} (hi:i<ops.size) (hl:listed.getD i false=false):Region.ready .any ops listed≠[]:=by
 obtain⟨i0,⟨h0,h0f⟩,hmin⟩:=Rw (p:=fun i=>i<ops.size/\listed.getD i false=false) ⟨i,hi,hl⟩
 have ho0:ops[i0]? =some ops[i0]:=Zab (by omega)
 have hr0:i0∈Region.ready .any ops listed:=mem_ready.2 ⟨by rw[Pb (by omega) true false];exact h0f,_,ho0,fun e he hbe=>by
  have hlt:=(Gf hok ho0).1 e (by simpa using he) hbe
  cases hb:listed.getD e.on false with
  |true=>rfl
  |false=>have:=hmin e.on ⟨by omega,hb⟩;omega⟩
 intro h
 rw[h] at hr0
 simp at hr0
theorem A2d {listed:Array Bool} (hs:listed.size=ops.size) (hcl:S8 ops fun i=>listed.getD i false) {i:Nat} {o:Oper} (ho:ops[i]? =some o) (h1:listed.getD i false=false) (h2:∀ e∈o.after.toList,Region.binds .any e=true->listed.getD e.on false=true):
  (listed.setIfInBounds i true).size=ops.size/\(∀ j,j<ops.size->(listed.setIfInBounds i true).getD j false=if j=i then true else listed.getD j false)/\cnt (fun j=>(listed.setIfInBounds i true).getD j false) ops.size<cnt (fun j=>listed.getD j false) ops.size/\S8 ops fun j=>(listed.setIfInBounds i true).getD j false:=by
 have hiN:i<ops.size:=(Zac.1 ho).1
 have hD':∀ j,j<ops.size->(listed.setIfInBounds i true).getD j false=if j=i then true else listed.getD j false:=fun j hj=>by
  by_cases hji:j=i
  ·subst hji
   rw[if_pos rfl]
   simp[Array.getD,hs,hj]
  ·rw[if_neg hji,getD_set_ne false (Ne.symm hji)]
 have hsub:∀ j,listed.getD j false=true->(listed.setIfInBounds i true).getD j false=true:=fun j hj=>getD_set_true hj
 refine⟨by simpa using hs,hD',Afo (D:=fun j=>listed.getD j false) (D':=fun j=>(listed.setIfInBounds i true).getD j false) hsub h1 (by show(listed.setIfInBounds i true).getD i false=true;rw[hD' i hiN,if_pos rfl]) ops.size hiN,?_⟩
 intro j x hx hj e he hbi
 have hjN:j<ops.size:=(Zac.1 hx).1
 show(listed.setIfInBounds i true).getD e.on false=true
 have hj:(listed.setIfInBounds i true).getD j false=true:=hj
 rw[hD' j hjN] at hj
 by_cases hji:j=i
 ·subst hji
  rw[ho] at hx;injection hx with hx;subst hx
  exact hsub _ (h2 e he hbi)
 ·rw[if_neg hji] at hj
  exact hsub _ (hcl j x hx hj e he hbi)
theorem Kp (hok:Hu fl ops k=true) {listed:Array Bool} (hcl:S8 ops fun i=>listed.getD i false) {i:Nat} (h1:listed.getD i false=false) {m:Nat} {x:Oper} (hx:ops[m]? =some x) (him:i<m) (hbit:((Region.before ops).getD m 0).testBit i=true):listed.getD m false=false:=by
 cases hb:listed.getD m false with
 |false=>rfl
 |true=>
  have:=Ko hok hcl m x hx (fun e he hbi=>hcl m x hx hb e he hbi) i him hbit
  rw[h1] at this;cases this
theorem Afp (hok:Hu fl ops k=true) (hk:k'=min k ops.size) (hlen:os.length=ops.size) (hget:∀(i:Nat) o1,os[i]? =some o1->∃ o,ops[i]? =some o/\Au P n ops o=some o1)
  (hR:Run2 P k os E S V) (hE:∀ i,i<ops.size->∀ t,E (i+1) t=if((ops[i]?).bind (·.dst))=some t then V i else E i t)
  (hfl:∀ i,i<ops.size->atB fl i=true->S (i+1)=S i/\∀ m,k'≤m->m<=ops.size->(k'<=i->(∀ j,j<i->atB fl j=false->((Region.before ops).getD i 0).testBit j=true->j<m)/\(∀ j,i<j->j<ops.size->atB fl j=false->((Region.before ops).getD j 0).testBit i=true->m<=j))->Ad8 P os E S V i m)
  (hK:∀ W' a' w',At n w0 W0 N0 w1 (E ops.size) (S ops.size) W' a' w'->Q .normal a' w'):∀(fuel m:Nat) (listed:Array Bool) (W:Rho) (a:Act) (w:World),listed.size=ops.size->cnt (fun i=>listed.getD i false) ops.size<=fuel->S8 ops (fun i=>listed.getD i false)->k'<=m->m<=ops.size->
  (∀ i,i<m->i<ops.size->atB fl i=false->listed.getD i false=true)->(∀ i,m≤i->i<ops.size->atB fl i=false->listed.getD i false=false)->
  Mid n w0 W0 N0 w1 (cur (fun i=>(ops[i]?).bind (·.dst)) V (E 0) (fun i=>listed.getD i false) ops.size) (S m) W a w->wpAny P .any ops Q fuel listed a w:=by
 have same:∀ j m,(∀ i,m≤i->i<j->atB fl i=true)->m<=j->j<=ops.size->S j=S m:=by
  intro j
  induction j with
  |zero=>
       intro m _ h1 _;have:m=0:=by omega
       subst this;rfl
  |succ j ih=>
   intro m h h1 h2
   rcases Zaf j m with h3|h3
   ·have:m=j+1:=by omega
    subst this;rfl
   ·rw[(hfl j (by omega) (h j h3 (by omega))).1]
    exact ih m (fun i h4 h5=>h i h4 (by omega)) h3 (by omega)
 have fin:∀(m:Nat) (listed:Array Bool) (W:Rho) (a:Act) (w:World),m≤ops.size->(∀ i,i<ops.size->listed.getD i false=true)->(∀ i,m≤i->i<ops.size->atB fl i=false->listed.getD i false=false)->
   Mid n w0 W0 N0 w1 (cur (fun i=>(ops[i]?).bind (·.dst)) V (E 0) (fun i=>listed.getD i false) ops.size) (S m) W a w->Q .normal a w:=by
  intro m listed W a w hm hall hno hM
  have hS:S ops.size=S m:=same ops.size m (fun i h1 h2=>by
   cases hf:atB fl i with
   |true=>rfl
   |false=>have:=hno i h1 h2 hf;rw[hall i h2] at this;cases this) hm (Zai _)
  refine hK W a w {env:=fun t=> ?_,good:=hS ▸ hM.good,size:=hM.size,defers:=hM.defers,len:=hS ▸ hM.len,sub:=hM.sub,frame:=hS ▸ hM.frame}
  rw[<- A7t hE hall ops.size (Zai _) t]
  exact hM.env t
 intro fuel
 induction fuel with
 |zero=>
  intro m listed W a w hs hf hcl hkm hm hL hU hM
  have all:∀ i,i<ops.size->listed.getD i false=true:=fun i hi=>by
   cases h:listed.getD i false with
   |true=>rfl
   |false=>have:=A2c (D:=fun i=>listed.getD i false) h ops.size hi;omega
  refine⟨?_,fin m listed W a w hm all hU hM⟩
  refine Zbl.2 fun i hi=> ?_
  obtain⟨h1,o,ho,_⟩:=mem_ready.1 hi
  have hlt:i<ops.size:=(Zac.1 ho).1
  rw[Pb (by omega) true false,all i hlt] at h1
  cases h1
 |succ fuel ih=>
  intro m listed W a w hs hf hcl hkm hm hL hU hM
  refine⟨fun h0=>fin m listed W a w hm (fun i hi=> ?_) hU hM,fun i hi=> ?_⟩
  ·cases h:listed.getD i false with
   |true=>rfl
   |false=>exact absurd h0 (Lq hok hs hi h)
  obtain⟨h1,o,ho,h2⟩:=mem_ready.1 hi
  have hiN:i<ops.size:=(Zac.1 ho).1
  rw[Pb (by omega) true false] at h1
  have h2':∀ e∈o.after.toList,Region.binds .any e=true->listed.getD e.on false=true:=fun e he hb=>h2 e (by simpa using he) hb
  have hpre:=Ko hok hcl i o ho h2'
  have hlat:∀ m,i<m->∀ x,ops[m]? =some x->must ops o x=true->listed.getD m false=false:=fun m him x hx hmu=>Kp hok hcl h1 hx him (((Gf hok hx).2 i him).2.2 o ho hmu)
  have hil:i<os.length:=by omega
  obtain⟨o',ho',hc⟩:=hget i os[i] (Zaa hil)
  rw[ho] at ho';injection ho' with ho';subst ho'
  obtain⟨_,hdd,_,_⟩:=Ad hc
  obtain⟨hs',hD',hcnt,hcl'⟩:=A2d hs hcl ho h1 h2'
  have hat:∀ t∈Di ops o,cur (fun i=>(ops[i]?).bind (·.dst)) V (E 0) (fun i=>listed.getD i false) ops.size t=E i t:=fun t ht=>Ad6 hE ho h1 (fun m hm x hx hmu=>hpre m hm (((Gf hok ho).2 m hm).2.2 x hx hmu)) hlat ht
  have hup:cur (fun i=>(ops[i]?).bind (·.dst)) V (E 0) (fun j=>(listed.setIfInBounds i true).getD j false) ops.size=upo (cur (fun i=>(ops[i]?).bind (·.dst)) V (E 0) (fun i=>listed.getD i false) ops.size) o.dst (V i):=funext fun t=>Ad7 (D':=fun j=>(listed.setIfInBounds i true).getD j false) ho hD' hlat t
  cases hfi:atB fl i with
  |true=>
   have hfire:=(hfl i hiN hfi).2 m hkm hm fun _=>⟨fun j hj hfj hb=>by
    rcases Zaf j m with h|h
    ·exact h
    ·have:=hU j h (by omega) hfj
     exact absurd (hpre j hj hb) (by rw[this];simp),fun j hj hjN hfj hb=>by
    rcases Zaf j m with h|h
    ·have h3:=hL j h hjN hfj
     rw[Kp hok hcl h1 (Zab hjN) hj hb] at h3;cases h3
    ·exact h⟩
   refine Pc hc hM hat (hfire _ (Zaa hil)) (fun u w' W' hM' _=> ?_) ho
   refine ih m _ W' _ w' hs' (by omega) hcl' hkm hm (fun j hj hjN hfj=>by
    rw[hD' j hjN]
    split
    ·rfl
    ·exact hL j hj hjN hfj) (fun j hj hjN hfj=>by
    rw[hD' j hjN,if_neg (fun h=>by rw[h,hfi] at hfj;cases hfj)]
    exact hU j hj hjN hfj) ?_
   rw[hup]
   exact hM'
  |false=>
   have hmi:m<=i:=by
    rcases Zaf i m with h|h
    ·have:=hL i h hiN hfi
     rw[h1] at this;cases this
    ·exact h
   have hbetw:∀ j,m≤j->j<i->atB fl j=true:=fun j hj1 hj2=>by
    cases hfj:atB fl j with
    |true=>rfl
    |false=>
     have hb:=((Gf hok ho).2 j hj2).2.1 (by omega) hfi hfj
     have:=hU j hj1 (by omega) hfj
     rw[hpre j hj2 hb] at this;cases this
   have hSi:S i=S m:=same i m hbetw hmi (by omega)
   obtain⟨_,_,hst⟩:=hR.step i os[i] (Zaa hil)
   rw[hSi] at hst
   refine Pc hc hM hat hst (fun u w' W' hM' _=> ?_) ho
   refine ih (i+1) _ W' _ w' hs' (by omega) hcl' (by omega) (by omega) (fun j hj hjN hfj=> ?_) (fun j hj hjN hfj=> ?_) ?_
   ·rw[hD' j hjN]
    split
    ·rfl
    ·rcases Zaf j m with h|h
     ·exact hL j h hjN hfj
     ·rw[hbetw j h (by omega)] at hfj;cases hfj
   ·rw[hD' j hjN,if_neg (by omega)]
    exact hU j (by omega) hjN hfj
   ·rw[hup]
    exact hM'
theorem Ad9 (hok:Hu fl ops k=true) (hk:k'=min k ops.size) (hlen:os.length=ops.size) (hget:∀(i:Nat) o1,os[i]? =some o1->∃ o,ops[i]? =some o/\Au P n ops o=some o1)
  (hR:Run2 P k os E S V)
  (hfl:∀ i,i<ops.size->atB fl i=true->S (i+1)=S i/\∀ m,k'≤m->m<=ops.size->(k'<=i->(∀ j,j<i->atB fl j=false->((Region.before ops).getD i 0).testBit j=true->j<m)/\(∀ j,i<j->j<ops.size->atB fl j=false->((Region.before ops).getD j 0).testBit i=true->m<=j))->Ad8 P os E S V i m)
  (hK:∀ W' a' w',At n w0 W0 N0 w1 (E ops.size) (S ops.size) W' a' w'->Q .normal a' w') {W:Rho} {a:Act} {w:World} (hA:At n w0 W0 N0 w1 (E 0) (S 0) W a w):wpAny P .any ops Q ops.size (Zam ops.size false) a w:=by
 have hk'l:k'<=os.length:=by omega
 have hR':Run P k' os E S V:=hR.run (by omega) hk'l
 have hclo:=Agm hR' hget hA
 have hE:∀ i,i<ops.size->∀ t,E (i+1) t=if((ops[i]?).bind (·.dst))=some t then V i else E i t:=fun i hi t=>by
  have hil:i<os.length:=by omega
  obtain⟨o,ho,hc⟩:=hget i os[i] (Zaa hil)
  obtain⟨hE,_,_⟩:=hR.step i os[i] (Zaa hil)
  obtain⟨_,hdd,_,_⟩:=Ad hc
  rw[hE,hdd]
  simp only[ho,Zag]
  cases o.dst with
  |none=>simp[upo]
  |some d=>
   simp only[upo,up,Zaj.injEq]
   by_cases h:t=d
   ·rw[if_pos h,if_pos h.symm]
   ·rw[if_neg h,if_neg (Ne.symm h)]
 have hlt:∀ i,i≤k'->∀ t,vLt (S i).length (E i t):=by
  intro i
  induction i with
  |zero=>intro _ t;exact(hA.env t).lt hA.good.fresh
  |succ i ih=>
   intro hi t
   rw[hE i (by omega) t]
   split
   ·exact(hclo (i+1) hi).2 i (by omega)
   ·have:=ih (by omega) t
    have hle:=(hR'.mono (show i<=i+1 by omega) hi).length_le
    revert this
    cases E i t with
    |tup vs=>
     intro this v hv
     have:=this v hv
     cases v with
     |agg cs=>exact fun c hc=>(this c hc).mono hle
     |_=>simp only[cLt] at this ⊢;exact sLt.mono hle this
    |agg cs=>intro this c hc;exact(this c hc).mono hle
    |_=>intro this;simp only[vLt,cLt] at this ⊢;exact sLt.mono hle this
 have phaseA:∀(fuel:Nat) (listed:Array Bool) (W:Rho) (a:Act) (w:World),listed.size=ops.size->cnt (fun i=>listed.getD i false) ops.size<=fuel->S8 ops (fun i=>listed.getD i false)->(∀ i,k'≤i->i<ops.size->atB fl i=false->listed.getD i false=false)->
   Mid n w0 W0 N0 w1 (cur (fun i=>(ops[i]?).bind (·.dst)) V (E 0) (fun i=>listed.getD i false) ops.size) (S k') W a w->(∀ i,i<k'->listed.getD i false=false->∀ g,(S i).length<=g->g<(S (i+1)).length->W g=none)->wpAny P .any ops Q fuel listed a w:=by
  intro fuel
  induction fuel with
  |zero=>
   intro listed W a w hs hf hcl hB hM hund
   refine Afp hok hk hlen hget hR hE hfl hK 0 k' listed W a w hs hf hcl (Zai _) (by omega) (fun i hi hiN _=> ?_) hB hM
   cases h:listed.getD i false with
   |true=>rfl
   |false=>have:=A2c (D:=fun i=>listed.getD i false) h ops.size hiN;omega
  |succ fuel ih=>
   intro listed W a w hs hf hcl hB hM hund
   by_cases hall:∀ i,i<k'->i<ops.size->atB fl i=false->listed.getD i false=true
   ·exact Afp hok hk hlen hget hR hE hfl hK (fuel+1) k' listed W a w hs hf hcl (Zai _) (by omega) hall hB hM
   have hex:∃ i,i<k'/\atB fl i=false/\listed.getD i false=false:=by
    apply Classical.byContradiction
    intro h
    exact hall fun i hi _ hfi=>by
     cases hb:listed.getD i false with
     |true=>rfl
     |false=>exact(h ⟨i,hi,hfi,hb⟩).elim
   obtain⟨i0,h0,h0a,h0f⟩:=hex
   refine⟨fun h=>absurd h (Lq hok hs (by omega) h0f),fun i hi=> ?_⟩
   obtain⟨h1,o,ho,h2⟩:=mem_ready.1 hi
   have hiN:i<ops.size:=(Zac.1 ho).1
   rw[Pb (by omega) true false] at h1
   have h2':∀ e∈o.after.toList,Region.binds .any e=true->listed.getD e.on false=true:=fun e he hb=>h2 e (by simpa using he) hb
   have hpre:=Ko hok hcl i o ho h2'
   have hlat:∀ m,i<m->∀ x,ops[m]? =some x->must ops o x=true->listed.getD m false=false:=fun m him x hx hmu=>Kp hok hcl h1 hx him (((Gf hok hx).2 i him).2.2 o ho hmu)
   have hil:i<os.length:=by omega
   obtain⟨o',ho',hc⟩:=hget i os[i] (Zaa hil)
   rw[ho] at ho';injection ho' with ho';subst ho'
   obtain⟨_,hdd,_,_⟩:=Ad hc
   obtain⟨hs',hD',hcnt,hcl'⟩:=A2d hs hcl ho h1 h2'
   have hat:∀ t∈Di ops o,cur (fun i=>(ops[i]?).bind (·.dst)) V (E 0) (fun i=>listed.getD i false) ops.size t=E i t:=fun t ht=>Ad6 hE ho h1 (fun m hm x hx hmu=>hpre m hm (((Gf hok ho).2 m hm).2.2 x hx hmu)) hlat ht
   have hup:cur (fun i=>(ops[i]?).bind (·.dst)) V (E 0) (fun j=>(listed.setIfInBounds i true).getD j false) ops.size=upo (cur (fun i=>(ops[i]?).bind (·.dst)) V (E 0) (fun i=>listed.getD i false) ops.size) o.dst (V i):=funext fun t=>Ad7 (D':=fun j=>(listed.setIfInBounds i true).getD j false) ho hD' hlat t
   cases hfi:atB fl i with
   |true=>
    have hfire:=(hfl i hiN hfi).2 k' (Zai _) (by omega) fun hki=>⟨fun j hj hfj hb=>by
     rcases Zaf j k' with h|h
     ·exact h
     ·have:=hB j h (by omega) hfj
      exact absurd (hpre j hj hb) (by rw[this];simp),fun j hj _ _ _=>by omega⟩
    refine Pc hc hM hat (hfire _ (Zaa hil)) (fun u w' W' hM' hkeep=> ?_) ho
    refine ih _ W' _ w' hs' (by omega) hcl' (fun j hj hjN hfj=>by
     rw[hD' j hjN,if_neg (fun h=>by rw[h,hfi] at hfj;cases hfj)]
     exact hB j hj hjN hfj) (by rw[hup];exact hM') fun j hj hjf g hg1 hg2=> ?_
    rw[hkeep g (Zaw hg2 (hR'.mono (by omega) (Zai _)).length_le)]
    refine hund j hj ?_ g hg1 hg2
    rw[hD' j (by omega)] at hjf
    split at hjf
    ·cases hjf
    ·exact hjf
   |false=>
    have hik:i<k':=by
     rcases Zaf i k' with h|h
     ·exact h
     ·have hb:=((Gf hok ho).2 i0 (by omega)).2.1 (by omega) hfi h0a
      have:=hpre i0 (by omega) hb
      rw[h0f] at this;cases this
    obtain⟨_,hpfx,hst⟩:=hR'.step i os[i] hik (Zaa hil)
    refine Aes hc hM hpfx (hR'.mono (by omega) (Zai _)) (Zba hA.len (hR'.mono (Zbg i) (by omega)).length_le) (hclo i (by omega)).1 (hclo (i+1) (by omega)).1 (fun t ht=>⟨hat t ht,hlt i (by omega) t⟩) (hund i hik h1) hst (fun u w' W' hM' hkeep=> ?_) ho
    refine ih _ W' _ w' hs' (by omega) hcl' (fun j hj hjN hfj=>by
     rw[hD' j hjN,if_neg (by omega)]
     exact hB j hj hjN hfj) (by rw[hup];exact hM') fun j hj hjf g hg1 hg2=> ?_
    rw[hD' j (by omega)] at hjf
    by_cases hji:j=i
    ·rw[if_pos hji] at hjf;cases hjf
    ·rw[if_neg hji] at hjf
     rw[hkeep g (by
      rcases Zaf j i with h|h
      ·have:=(hR'.mono (show j+1<=i by omega) (by omega)).length_le
       exact .inl (by omega)
      ·have:=(hR'.mono (show i+1<=j by omega) (by omega)).length_le
       exact .inr (by omega))]
     exact hund j hj hjf g hg1 hg2
 have hM0:Mid n w0 W0 N0 w1 (cur (fun i=>(ops[i]?).bind (·.dst)) V (E 0) (fun i=>(Zam ops.size false).getD i false) ops.size) (S k') W a w:=by
  have hlen0:(S 0).length<=(S k').length:=(hR'.mono (Zbg k') (Zai _)).length_le
  have get0:∀(g:Nat),g<(S 0).length->(S k')[g]? =(S 0)[g]? :=fun g h=>by
   obtain⟨r,hr⟩:=hR'.mono (Zbg k') (Zai _)
   rw[<- hr];exact Zae h
  have hmap:∀ g L,W g=some L->g<(S 0).length:=fun g L hL=>by
   rcases Zaf g (S 0).length with h|h
   ·exact h
   ·rw[hA.good.fresh g h] at hL;cases hL
  have hcur0:∀ m t,cur (fun i=>(ops[i]?).bind (·.dst)) V (E 0) (fun i=>(Zam ops.size false).getD i false) m t=E 0 t:=by
   intro m t
   induction m with
   |zero=>rfl
   |succ m ihm=>
    simp only[cur]
    rw[ihm]
    have:(Zam ops.size false).getD m false=false:=by
     simp only[Zan,Za4]
     split<;>rfl
    simp only[this,Zbh,false_and,if_false]
  have hd:=hA.good
  refine {env:=fun t=>by rw[hcur0];exact hA.env t,good:= ?_,size:=hA.size,defers:=hA.defers,len:=Zba hA.len hlen0,sub:=hA.sub,frame:=hA.frame.trans ?_}
  ·exact {lay:=hd.lay,below:=hd.below,fresh:=fun g hg=>hd.fresh g (Zba hlen0 hg),loc:=hd.loc,old:=hd.old,closed:=(hclo k' (Zai _)).1,mem:=fun g B L hB hL=>hd.mem g B L (by rw[<- get0 g (hmap g L hL)];exact hB) hL,inj:=fun g g' B B' L L' hB hB' hL hL'=>hd.inj g g' B B' L L' (by rw[<- get0 g (hmap g L hL)];exact hB) (by rw[<- get0 g' (hmap g' L' hL')];exact hB') hL hL'}
  ·exact .of (Zai _) (fun _ _ _=>rfl) fun g B L hB hL ho _=>⟨g,B,L,by rw[<- get0 g (hmap g L hL)];exact hB,hL,ho,rfl⟩
 refine phaseA ops.size (Zam ops.size false) W a _ (by simp) (A7s _) (fun i o ho hi=> ?_) (fun i h1 h2 _=> ?_) hM0 (fun i hi _ g hg1 hg2=> ?_)
 ·simp only[Zan,Za4] at hi
  split at hi<;>simp at hi
 ·simp[Zan,h2]
 ·exact hA.good.fresh g (Zba (hR'.mono (Zbg i) (by omega)).length_le hg1)
end free
theorem A46 {env:Env} {N N':St} {i:Ins} {v:GV} (hp:Abc i=true) (h:Step P env N i v N'):N'=N/\∀ U,Step P env U i v U:=by
 have hc:i.isCall=false:=by cases i<;>first|rfl|cases hp
 obtain⟨h1,h2⟩:=A45 hp (Ge hc h)
 refine⟨h1,fun U=> ?_⟩
 have:=h2 U
 cases i<;>first|exact this|cases hc
theorem Pd {ops:Array Oper} {os:List Op1} {k:Nat} {E:Nat->Env} {S:Nat->St} {V:Nat->GV} (hlen:os.length=ops.size) (hget:∀(i:Nat) o1,os[i]? =some o1->∃ o,ops[i]? =some o/\Au P n ops o=some o1) (hR:Run2 P k os E S V) {i:Nat} (hi:i<ops.size) {o:Oper} (ho:ops[i]? =some o) (hp:A2b P o=true):
  S (i+1)=S i/\∀ m,Ad8 P os E S V i m:=by
 have hil:i<os.length:=by omega
 obtain⟨o',ho',hc⟩:=hget i os[i] (Zaa hil)
 rw[ho] at ho';injection ho' with ho';subst ho'
 obtain⟨_,_,hst⟩:=hR.step i os[i] (Zaa hil)
 obtain⟨_,_,_,hop⟩:=Ad hc
 have hpi:Abc os[i].i=true:=by
  unfold A2b at hp
  rw[hop] at hp
  exact hp
 rcases hst with⟨hw,hs⟩|⟨hw,hv,hS⟩
 ·obtain⟨h1,h2⟩:=A46 hpi hs
  refine⟨h1,fun m o1 ho1=>.inl ?_⟩
  rw[Zaa hil] at ho1
  injection ho1 with ho1
  subst ho1
  exact⟨hw,h2 _⟩
 ·refine⟨hS,fun m o1 ho1=>.inr ?_⟩
  rw[Zaa hil] at ho1
  injection ho1 with ho1
  subst ho1
  exact⟨hw,hv,rfl⟩
theorem Jc {ops:Array Oper} {f:Oper->Bool} {i:Nat} {o:Oper} (ho:ops[i]? =some o):atB (ops.toList.map f) i=f o:=by
 unfold atB
 rw[Zbf,Zb3]
 have:ops.toList[i]? =some o:=by simpa using ho
 rw[this]
 rfl
theorem Agn {ops:Array Oper} {os:List Op1} {k:Nat} {Q:Exit->Act->World->Prop} {K:Env->St->Prop} {env:Env} {N:St} {W:Rho} {a:Act} {w:World} (hok:Hu (Abd P ops) ops k=true) (hos:B6 (Au P n ops) ops.toList=some os)
  (hv:Ac true P (os.take k) (Ac false P (os.drop k) K) env N) (hA:At n w0 W0 N0 w1 env N W a w)
  (hK:∀ env' N' W' a' w',K env' N'->At n w0 W0 N0 w1 env' N' W' a' w'->Q .normal a' w'):wpAny P .any ops Q ops.size (Zam ops.size false) a w:=by
 have hlen:os.length=ops.size:=by rw[<- (Bd hos).length];simp
 have hget:∀(i:Nat) o1,os[i]? =some o1->∃ o,ops[i]? =some o/\Au P n ops o=some o1:=fun i o1 h=>by
  obtain⟨o,h1,h2⟩:=(Bd hos).get' h
  exact⟨o,by simpa using h1,h2⟩
 obtain⟨E,S,V,rfl,rfl,hR,hKB⟩:=Ad5 k hv
 rw[hlen] at hKB
 refine Ad9 hok rfl hlen hget hR (fun i hi hf=> ?_) (fun W' a' w' hA'=>hK _ _ W' a' w' hKB hA') hA
 have ho:ops[i]? =some ops[i]:=Zab hi
 rw[Abd,Jc ho] at hf
 obtain⟨h1,h2⟩:=Pd hlen hget hR hi ho hf
 exact⟨h1,fun m _ _ _=>h2 m⟩
theorem Aae {K:Env->St->Prop} {env:Env} {N:St} {r:List Op1}:∀(c:List Op1),(∀ q∈c,∃ d x,q=⟨none,none,.chk d x⟩)->Ac false P (c++r) K env N->(∀ d x,(⟨none,none,.chk d x⟩:Op1)∈c->exec env N x=some (env d,N))/\Ac false P r K env N
 |[],_,h=>⟨fun d x h=>by simp at h,h⟩
 |q::c,hc,h=>by
  obtain⟨d,x,rfl⟩:=hc q (by simp)
  simp only[Za8,Ac,Ae,if_true,Step,upo] at h
  obtain⟨v,N',⟨rfl,rfl,hx⟩,_,h⟩:=h
  obtain⟨h1,h2⟩:=Aae c (fun q hq=>hc q (by simp[hq])) h
  refine⟨fun d' x' hm=> ?_,h2⟩
  rcases Zbb.1 hm with hm|hm
  ·injection hm with _ _ hm
   injection hm with h3 h4
   subst h3 h4
   exact hx
  ·exact h1 d' x' hm
theorem Ada:∀ {os:List Op1} {cs:List (List Op1)} {K:Env->St->Prop} {env:Env} {N:St},cs.length=os.length->(∀ c∈cs,∀ q∈c,∃ d x,q=(⟨none,none,.chk d x⟩:Op1))->Ac false P (A7r os cs) K env N->
  ∃ E S V,E 0=env/\S 0=N/\Run2 P 0 os E S V/\(∀ (i:Nat) c,cs[i]? =some c->∀ d x,(⟨none,none,.chk d x⟩:Op1)∈c->exec (E (i+1)) (S (i+1)) x=some (E (i+1) d,S (i+1)))/\K (E os.length) (S os.length)
 |[],[],K,env,N,_,_,h=>⟨fun _=>env,fun _=>N,fun _=>.nilS,rfl,rfl,⟨fun i o ho=>by simp at ho⟩,(fun i c hc=>by simp at hc),by simpa [A7r,Ac] using h⟩
 |o::os,c::cs,K,env,N,hl,hcs,h=>by
  have key:∀(v:GV) (N':St),((Ae env o.g=true/\Step P env N o.i v N')∨(Ae env o.g=false/\v= .tup []/\N'=N))->Ac false P (c++A7r os cs) K (upo env o.d v) N'->∃ E S V,E 0=env/\S 0=N/\Run2 P 0 (o::os) E S V/\(∀ (i:Nat) c',(c::cs)[i]? =some c'->∀ d x,(⟨none,none,.chk d x⟩:Op1)∈c'->exec (E (i+1)) (S (i+1)) x=some (E (i+1) d,S (i+1)))/\K (E (o::os).length) (S (o::os).length):=by
   intro v N' hst hv
   obtain⟨hk1,hv⟩:=Aae c (hcs c (by simp)) hv
   obtain⟨E,S,V,h1,h2,h3,h5,h4⟩:=Ada (by simpa using hl) (fun c hc=>hcs c (by simp[hc])) hv
   refine⟨fun i=>match i with|0=>env|i+1=>E i,fun i=>match i with|0=>N|i+1=>S i,fun i=>match i with|0=>v|i+1=>V i,rfl,rfl,⟨fun i o' ho=> ?_⟩,fun i c' hc' d x hm=> ?_,h4⟩
   ·cases i with
    |zero=>
     simp only[Zah,Zaj.injEq] at ho
     subst ho
     simp only[h1,h2]
     exact⟨trivial,(fun h=>by omega),hst⟩
    |succ i=>
     simp only[Za2] at ho
     obtain⟨a,b,c⟩:=h3.step i o' ho
     exact⟨a,(fun hi=>by omega),c⟩
   ·cases i with
    |zero=>
     simp only[Zah,Zaj.injEq] at hc'
     subst hc'
     simp only[h1,h2]
     exact hk1 d x hm
    |succ i=>
     simp only[Za2] at hc'
     exact h5 i c' hc' d x hm
  simp only[A7r,Ac] at h
  split at h
  ·rename_i hw
   obtain⟨v,N',hs,_,hv⟩:=h
   exact key v N' (.inl ⟨hw,hs⟩) hv
  ·rename_i hw
   exact key (.tup []) N (.inr ⟨by simpa using hw,rfl,rfl⟩) h
 |[],_::_,_,_,_,hl,_,_=>by simp at hl
 |_::_,[],_,_,_,hl,_,_=>by simp at hl
theorem Gr {o:Oper} {d n t:Nat} {g:Bool} (h:ldO P o=some (d,g,n,t)):o.guard=none/\o.dst=some d/\Lb P o.op=some (.ld g n (.t t)):=by
 unfold ldO at h
 split at h
 ·rename_i d' g' n' t' h1 h2 h3
  simp only[Zaj.injEq,Prod.mk.injEq] at h
  obtain⟨rfl,rfl,rfl,rfl⟩:=h
  exact⟨h1,h2,h3⟩
 ·cases h
theorem Adb {ops:Array Oper} {T:Array Nat} {j:Nat} {x:Oper} {d nn t:Nat} {g:Bool} (h:ldOk P ops T j=true) (hx:ops[j]? =some x) (hl:ldO P x=some (d,g,nn,t)):∀(i:Nat) o,ops[i]? =some o->(j<=i->o.dst≠some t)/\(j<i->o.dst≠some d)/\(i<j->atB (ldL P ops) i=false->(T.getD j 0).testBit i=true):=by
 intro i o ho
 have hi:i<ops.size:=(Zac.1 ho).1
 unfold ldOk at h
 rw[hx] at h
 simp only[hl] at h
 have:=Zap.1 h i (Zau.2 hi)
 rw[ho] at this
 simp only[Zas,Zay,decide_eq_true_eq,bne_iff_ne,ne_eq] at this
 obtain⟨h1,h2,h3⟩:=this
 refine⟨fun hji=>h1.resolve_left (by omega),fun hji=>h2.resolve_left (by omega),fun hij ha=> ?_⟩
 rcases h3 with h3|h3|h3
 ·omega
 ·rw[ha] at h3;cases h3
 ·exact h3
theorem drw_ld {ops:Array Oper} {os:List Op1} {Q:Exit->Act->World->Prop} {K:Env->St->Prop} {env:Env} {N:St} {W:Rho} {a:Act} {w:World} (hok:Hu (ldL P ops) ops 0=true) (hld:(Zbo ops.size).all (ldOk P ops (Region.before ops))=true) (hos:B6 (Au P n ops) ops.toList=some os)
  (hv:Ac false P (A7r os ((Zbo ops.size).map (chks P ops (Region.before ops)))) K env N) (hA:At n w0 W0 N0 w1 env N W a w)
  (hK:∀ env' N' W' a' w',K env' N'->At n w0 W0 N0 w1 env' N' W' a' w'->Q .normal a' w'):wpAny P .any ops Q ops.size (Zam ops.size false) a w:=by
 have hlen:os.length=ops.size:=by rw[<- (Bd hos).length];simp
 have hget:∀(i:Nat) o1,os[i]? =some o1->∃ o,ops[i]? =some o/\Au P n ops o=some o1:=fun i o1 h=>by
  obtain⟨o,h1,h2⟩:=(Bd hos).get' h
  exact⟨o,by simpa using h1,h2⟩
 have hcs:∀ c∈(Zbo ops.size).map (chks P ops (Region.before ops)),∀ q∈c,∃ d x,q=(⟨none,none,.chk d x⟩:Op1):=by
  intro c hc q hq
  obtain⟨i,_,rfl⟩:=Zb7.1 hc
  unfold chks at hq
  split at hq
  ·simp at hq
  ·obtain⟨j,_,hq⟩:=Zar.1 hq
   split at hq
   ·cases hq
   ·obtain⟨x,_,hq⟩:=Z1z.1 hq
    obtain⟨⟨d,g,nn,t⟩,_,rfl⟩:=Z2z.1 hq
    exact⟨_,_,rfl⟩
 obtain⟨E,S,V,rfl,rfl,hR,hchk,hKB⟩:=Ada (by simp[hlen]) hcs hv
 rw[hlen] at hKB
 have hdst:∀ i,i<ops.size->∀ t,ops[i]?.bind (·.dst)≠some t->E (i+1) t=E i t:=fun i hi t hne=>by
  have hil:i<os.length:=by omega
  obtain⟨o,ho,hc⟩:=hget i os[i] (Zaa hil)
  obtain⟨hE,_,_⟩:=hR.step i os[i] (Zaa hil)
  obtain⟨_,hdd,_,_⟩:=Ad hc
  rw[hE,hdd]
  rw[ho] at hne
  simp only[Zag] at hne
  cases hd:o.dst with
  |none=>rfl
  |some d=>
   rw[hd] at hne
   simp only[upo,up]
   rw[if_neg (fun h=>hne (by rw[h]))]
 have hsame:∀ i,i<ops.size->atB (ldL P ops) i=true->S (i+1)=S i:=fun i hi hf=>by
  have ho:ops[i]? =some ops[i]:=Zab hi
  rw[ldL,Jc ho] at hf
  cases hp:A2b P ops[i] with
  |true=>exact(Pd hlen hget hR hi ho hp).1
  |false=>
   rw[hp] at hf
   simp only[Zby,Za0] at hf
   obtain⟨⟨d,g,nn,t⟩,hl⟩:=hf
   obtain⟨_,_,hcx⟩:=Gr hl
   have hil:i<os.length:=by omega
   obtain⟨o,ho',hc⟩:=hget i os[i] (Zaa hil)
   rw[ho] at ho';injection ho' with ho';subst ho'
   obtain⟨_,_,_,hop⟩:=Ad hc
   rw[hcx] at hop
   injection hop with hop
   obtain⟨_,_,hst⟩:=hR.step i os[i] (Zaa hil)
   rcases hst with⟨_,hs⟩|⟨_,_,hS⟩
   ·rw[<- hop] at hs
    simp only[Step,exec] at hs
    obtain⟨p,_,hs⟩:=Z1z.1 hs
    obtain⟨cc,_,hs⟩:=Z1z.1 hs
    obtain⟨rr,_,hs⟩:=Z1z.1 hs
    obtain⟨vv,_,hs⟩:=Z2z.1 hs
    injection hs with _ hs
    exact hs.symm
   ·exact hS
 have hrun:∀ b c,b≤c->c<=ops.size->(∀ i,b≤i->i<c->atB (ldL P ops) i=true)->S c=S b:=by
  intro b c
  induction c with
  |zero=>
       intro h1 _ _;have:b=0:=by omega
       subst this;rfl
  |succ c ih=>
   intro h1 h2 h3
   rcases Zaf c b with h4|h4
   ·have:b=c+1:=by omega
    subst this;rfl
   ·rw[hsame c (by omega) (h3 c h4 (by omega))]
    exact ih h4 (by omega) fun i h5 h6=>h3 i h5 (by omega)
 refine Ad9 hok (k':=0) (by omega) hlen hget hR (fun i hi hf=>⟨hsame i hi hf,fun m hm hmN hcon=> ?_⟩) (fun W' a' w' hA'=>hK _ _ W' a' w' hKB hA') hA
 have ho:ops[i]? =some ops[i]:=Zab hi
 obtain⟨hc1,hc2⟩:=hcon (Zbg _)
 rw[ldL,Jc ho] at hf
 cases hp:A2b P ops[i] with
 |true=>exact(Pd hlen hget hR hi ho hp).2 m
 |false=>
  rw[hp] at hf
  simp only[Zby,Za0] at hf
  obtain⟨⟨d,g,nn,t⟩,hl⟩:=hf
  obtain⟨hgu,hdx,hcx⟩:=Gr hl
  have hspec:=Adb (Zap.1 hld i (Zau.2 hi)) ho hl
  have hil:i<os.length:=by omega
  obtain⟨o,ho',hc⟩:=hget i os[i] (Zaa hil)
  rw[ho] at ho';injection ho' with ho';subst ho'
  obtain⟨_,hdd,hg,hop⟩:=Ad hc
  rw[hcx] at hop
  injection hop with hop
  have hgn:os[i].g=none:=by
   unfold Co at hg
   rw[hgu] at hg
   simpa using hg.symm
  obtain⟨hEi,_,hst⟩:=hR.step i os[i] (Zaa hil)
  rw[hgn] at hst
  have hstep:Step P (E i) (S i) os[i].i (V i) (S (i+1)):=by
   rcases hst with⟨_,hs⟩|⟨hw,_⟩
   ·exact hs
   ·simp[Ae] at hw
  intro o1 ho1
  rw[Zaa hil] at ho1
  injection ho1 with ho1
  subst ho1
  refine .inl ⟨by rw[hgn];rfl,?_⟩
  rw[hsame i hi (by rw[ldL,Jc ho,hl];simp)] at hstep
  by_cases hmS:S m=S i
  ·rw[hmS];exact hstep
  have hmi:i<m:=by
   rcases Zaf i m with h|h
   ·exact h
   ·exact absurd (hrun m i h (by omega) fun j h1 h2=>by
     cases hj:atB (ldL P ops) j with
     |true=>rfl
     |false=>
      have ho2:ops[j]? =some ops[j]:=Zab (by omega)
      have:=hc1 j h2 hj ((hspec j _ ho2).2.2 h2 hj)
      omega).symm hmS
  have hex:∃ q,i<q/\q<m/\q<ops.size/\atB (ldL P ops) q=false/\S m=S (q+1):=by
   have:∀ m,i<m->S m=S i∨ops.size<m∨∃ q,i<q/\q<m/\q<ops.size/\atB (ldL P ops) q=false/\S m=S (q+1):=by
    intro m
    induction m with
    |zero=>intro h;omega
    |succ m ihm=>
     intro h
     rcases Zaf i m with h1|h1
     ·by_cases hmN:m<ops.size
      ·cases hfm:atB (ldL P ops) m with
       |false=>exact .inr (.inr ⟨m,h1,by omega,hmN,hfm,rfl⟩)
       |true=>
        rw[hsame m hmN hfm]
        rcases ihm h1 with h2|h2|⟨q,h2,h3,h4⟩
        ·exact .inl h2
        ·exact .inr (.inl (by omega))
        ·exact .inr (.inr ⟨q,h2,by omega,h4⟩)
      ·exact .inr (.inl (by omega))
     ·have:m=i:=by omega
      subst this
      exact .inl (hsame m hi (by rw[ldL,Jc ho,hl];simp))
   rcases this m hmi with h|h|h
   ·exact absurd h hmS
   ·omega
   ·exact h
  obtain⟨q,hq1,hq2,hq3,hq4,hSq⟩:=hex
  have hbit:((Region.before ops).getD q 0).testBit i=false:=by
   cases hb:((Region.before ops).getD q 0).testBit i with
   |false=>rfl
   |true=>have:=hc2 q hq1 hq3 hq4 hb;omega
  have hmem:(⟨none,none,.chk d (.ld g nn (.t t))⟩:Op1)∈chks P ops (Region.before ops) q:=by
   unfold chks
   rw[if_neg (by rw[hq4];simp)]
   refine Zar.2 ⟨i,Zau.2 hq1,?_⟩
   rw[if_neg (by rw[hbit];simp),ho]
   simp[hl]
  have hck:=hchk q (chks P ops (Region.before ops) q) (by simp[hq3]) d _ hmem
  have keep:∀ j,i≤j->j<ops.size->E (j+1) t=E i t/\E (j+1) d=V i:=by
   intro j
   induction j with
   |zero=>
    intro h1 h2
    have:i=0:=by omega
    subst this
    refine⟨hdst 0 h2 t (by rw[ho];exact(hspec 0 _ ho).1 (Zai _)),?_⟩
    rw[hEi,hdd,hdx];simp[upo,up]
   |succ j ihj=>
    intro h1 h2
    have ho2:ops[j+1]? =some ops[j+1]:=Zab h2
    have ht:E (j+1+1) t=E (j+1) t:=hdst (j+1) h2 t (by rw[ho2];exact(hspec (j+1) _ ho2).1 h1)
    rcases Zaf j i with h3|h3
    ·have:i=j+1:=by omega
     subst this
     refine⟨ht,?_⟩
     rw[hEi,hdd,hdx];simp[upo,up]
    ·obtain⟨k1,k2⟩:=ihj h3 (by omega)
     refine⟨ht.trans k1,?_⟩
     rw[hdst (j+1) h2 d (by rw[ho2];exact(hspec (j+1) _ ho2).2.1 (by omega)),k2]
  obtain⟨k1,k2⟩:=keep q (by omega) hq3
  rw[hSq,<-hop]
  simp only[exec,Opd.ev] at hck
  simp only[Step,exec,Opd.ev]
  rw[k1,k2] at hck
  exact hck
theorem At.drew {env:Env} {N:St} {W:Rho} {a:Act} {w:World} (hA:At n w0 W0 N0 w1 env N W a w):At n w0 W0 N0 w1 env N W a {w with drawn:=w.drawn+1}:=
 {hA with good:=hA.good.drew,frame:=hA.frame.trans (.of (Zai _) (fun _ _ _=>rfl) fun g B L hB hL ho _=>⟨g,B,L,hB,hL,ho,rfl⟩)}
theorem drw_of {ops:Array Oper} {d:Cd} {Q:Exit->Act->World->Prop} {K:Ex->Env->St->Prop} {env:Env} {N:St} {W:Rho} {a:Act} {w:World} (hd:A44 P n ops=some d) (hv:vc P d K env N) (hA:At n w0 W0 N0 w1 env N W a w)
  (hK:∀ env' N' W' a' w',K .nxt env' N'->At n w0 W0 N0 w1 env' N' W' a' w'->Q .normal a' w'):wpAny P .any ops Q ops.size (Zam ops.size false) a w:=by
 have two:Aeq P n ops=some d->wpAny P .any ops Q ops.size (Zam ops.size false) a w:=fun hd=>by
  unfold Aeq at hd
  split at hd
  ·rename_i hok
   simp only[Zas] at hok
   obtain⟨os,hos,rfl⟩:=Z2z.1 hd
   exact drw_ld hok.1 hok.2 hos hv hA hK
  ·cases hd
 unfold A44 at hd
 split at hd
 ·rename_i d' hd'
  split at hd
  ·injection hd with hd;subst hd
   unfold drwOf at hd'
   split at hd'
   ·rename_i hok
    obtain⟨os,hos,rfl⟩:=Z2z.1 hd'
    exact Agn hok hos hv hA hK
   ·cases hd'
  ·exact two hd
 ·exact two hd
theorem A47 {id:Nat} {ops:Array Oper} {d:Cd} {Q:Exit->Act->World->Prop} {K:Ex->Env->St->Prop} {env:Env} {N:St} {W:Rho} {a:Act} {w:World} (hm:(P.follows .mixedOrders|| !Region.departs ops)=true) (hd:A44 P n ops=some d) (hv:vc P d K env N) (hA:At n w0 W0 N0 w1 env N W a w)
  (hK:∀ env' N' W' a' w',K .nxt env' N'->At n w0 W0 N0 w1 env' N' W' a' w'->Q .normal a' w'):(Code.region id ops true).wp P Q a w:=wp_region_draw fun t=>by
 simp only[Region.schedule]
 rw[if_pos hm]
 exact wpAny_sound ops.size t _ a _ (drw_of hd hv hA.drew hK)
end sound
theorem Aaf {c:GV} (h:Abe c=true) (n:Nat):sLt n c:=by
 cases c<;>first|(cases h;done)|(simp only[sLt])
section
variable {P:Program} {n:Nat} {w0 w1:World} {W0:Rho} {N0:St}
theorem Aet {ops:Array Oper} {o:Oper} {o1:Op1} (hc:Au P n ops o=some o1) {cs:List GV} (hg0:o.guard=none) (hi1:o1.i= .new cs) (hfl:cs.all Abe=true) {C:Env} {S:St} {W:Rho} {a:Act} {w:World} (hM:Mid n w0 W0 N0 w1 C S W a w) {b:Nat} (hb:W b=none) (hS:S[b]? =some (some (.row 1 cs))) (hb0:N0.length<=b)
  {next:Act->World->Prop} {Q:Exit->Act->World->Prop} (hn:∀ u w' W',Mid n w0 W0 N0 w1 (upo C o.dst (.ptr b 0)) S W' (a.put o.dst u) w'->(∀ g,g≠b->W' g=W g)->next (a.put o.dst u) w') {i:Nat} (hi:ops[i]? =some o):wpOp P ops Q i next a w:=by
 obtain⟨hd,hdd,hg,hop⟩:=Ad hc
 have hps:∀ u,(a.put o.dst u).tmps.size=n/\(a.put o.dst u).defers=[]:=fun u=>by
  cases ho:o.dst<;>simp[Act.put,hM.size,hM.defers]
 have hbl:b<S.length:=(Zad.1 hS).1
 have hwant:Region.wanted o (yielded ops a.tmps)=true:=by
  rw[Kn (ops:=ops) (hM.env:EnvRel W C a) hg]
  unfold Co at hg
  rw[hg0] at hg
  injection hg with hg;rw[<- hg];rfl
 unfold wpOp
 rw[hi]
 simp only[hwant,if_true]
 have hon:L5 W C a o.op.operands.toList:=fun x hx y hy=>by
  cases x with
  |tmp t=>
   simp only[opd,Zaj.injEq] at hy
   subst hy
   exact hM.env t
  |const u=>
   obtain⟨q,hq,rfl⟩:=Z2z.1 hy
   exact Ru hq
  |func f=>
   simp only[opd,Zaj.injEq] at hy
   subst hy
   exact⟨[],rfl,.nil⟩
  |global g=>cases hy
 have hs:Step P C S o1.i (.ptr S.length 0) (S++[some (.row 1 cs)]):=by rw[hi1];rfl
 refine .inl ((S6 hop hon hM.good hs (fun u w'=>next (a.put o.dst u) w') fun W' u w' hsub hv hG hF=> ?_).wp fun _ _ h=>h)
 obtain⟨L0,hL0,hu⟩:=G3 hv
 let W2:Rho:=fun g=>if g=b then W' S.length else W g
 have e1:W2 b=some L0:=by show(if b=b then _ else _)=_;rw[if_pos rfl,hL0]
 have e2:∀ g,g≠b->W2 g=W g:=fun g hg=>if_neg hg
 have hle:Le W W2:=fun g L hL=>by
  by_cases hg:g=b
  ·rw[hg,hb] at hL;cases hL
  ·rw[e2 g hg];exact hL
 have hlow:∀ g,g<S.length->W' g=W g:=hsub
 have inApp:∀ {g:Nat} {B:Blk},S[g]? =some (some B)->(S++[some (.row 1 cs)])[g]? =some (some B):=fun {g B} h=>by
  rw[Zae (Zad.1 h).1];exact h
 have atEnd:(S++[some (Blk.row 1 cs)])[S.length]? =some (some (.row 1 cs)):=by simp
 have holdsNew:holds W2 w' L0 (.row 1 cs):=by
  have h1:=hG.mem S.length _ L0 atEnd hL0
  have hlt:(Blk.row 1 cs).lt 0:=fun c hc=>Aaf (Zap.1 hfl c hc) 0
  exact Good.holds_back (W:=W2) (n:=0) (fun g hg=>absurd hg (Nat.not_lt_zero g)) hlt h1
 have blockNew:∀ {g:Nat} {B:Blk} {L:Loc},S[g]? =some (some B)->W g=some L->L.own=true->L0.own=true->L.a.block=L0.a.block->False:=fun {g B L} hB hL ho ho0 he=>by
  have hgl:g<S.length:=(Zad.1 hB).1
  have:=hG.inj g S.length B _ L L0 (inApp hB) atEnd (by rw[hlow g hgl];exact hL) hL0 ho ho0 he
  omega
 refine hn u w' W2 ?_ e2
 refine {env:=Ij (fun t=>(hM.env t).mono hle) ?_ hM.size hd,good:= ?_,size:=(hps u).1,defers:=(hps u).2,len:=hM.len,sub:=fun g hg=>by rw[e2 g (by omega),hM.sub g hg],frame:=hM.frame.trans ?_}
 ·rw[hu];exact⟨L0,e1,rfl⟩
 ·refine {lay:=hG.lay,below:=hG.below,fresh:=fun g hg=>by rw[e2 g (by omega)];exact hM.good.fresh g hg,loc:= ?_,old:= ?_,closed:=hM.good.closed,mem:= ?_,inj:= ?_}
  ·intro g L hL ho
   by_cases hgb:g=b
   ·rw[hgb,e1] at hL;injection hL with hL;subst hL
    exact hG.loc S.length L0 hL0 ho
   ·rw[e2 g hgb] at hL
    have:=hM.good.loc g L hL ho
    exact⟨this.1,this.2.1,Zaw this.2.2.1 hF.2.1,this.2.2.2⟩
  ·intro g L hL ho
   by_cases hgb:g=b
   ·rw[hgb,e1] at hL;injection hL with hL;subst hL
    exact hG.old S.length L0 hL0 ho
   ·rw[e2 g hgb] at hL
    exact hM.good.old g L hL ho
  ·intro g B L hB hL
   by_cases hgb:g=b
   ·rw[hgb,e1] at hL;injection hL with hL;subst hL
    rw[hgb,hS] at hB;injection hB with hB;injection hB with hB;subst hB
    exact holdsNew
   ·rw[e2 g hgb] at hL
    have hgl:g<S.length:=(Zad.1 hB).1
    have h1:=hG.mem g B L (inApp hB) (by rw[hlow g hgl];exact hL)
    have h2:holds W w' L B:=Good.holds_back (n:=S.length) hlow (hM.good.closed g B hB) h1
    exact Good.holds_mono hle h2
  ·intro g g' B B' L L' hB hB' hL hL' ho ho' he
   by_cases hgb:g=b<;>by_cases hgb':g'=b
   ·omega
   ·exfalso
    rw[hgb,e1] at hL;injection hL with hL;subst hL
    rw[e2 g' hgb'] at hL'
    exact blockNew hB' hL' ho' ho he.symm
   ·exfalso
    rw[hgb',e1] at hL';injection hL' with hL';subst hL'
    rw[e2 g hgb] at hL
    exact blockNew hB hL ho ho' he
   ·rw[e2 g hgb] at hL
    rw[e2 g' hgb'] at hL'
    exact hM.good.inj g g' B B' L L' hB hB' hL hL' ho ho' he
 ·refine .of hF.2.1 (fun bb hbb hno=>hF.2.2 bb hbb hno) fun g B L hB hL ho hlt=> ?_
  by_cases hgb:g=b
  ·rw[hgb,e1] at hL;injection hL with hL;subst hL
   exact hF.1 S.length _ L0 atEnd hL0 ho hlt
  ·rw[e2 g hgb] at hL
   exact⟨g,B,L,hB,hL,ho,rfl⟩
theorem phaseN {ops:Array Oper} {os:List Op1} {fl:List Bool} {E G:Nat->Env} {S:Nat->St} {V:Nat->GV} {al fr:Nat->Bool} {B:Nat->Nat} {CS:Nat->List GV} {Q:Exit->Act->World->Prop} (hok:Hu fl ops 0=true) (hlen:os.length=ops.size) (hget:∀(i:Nat) o1,os[i]? =some o1->∃ o,ops[i]? =some o/\Au P n ops o=some o1)
  (hal:∀(i:Nat) o,ops[i]? =some o->al i=true->atB fl i=true/\o.guard=none/\(∀ o1,os[i]? =some o1->o1.i= .new (CS i))/\(CS i).all Abe=true/\V i= .ptr (B i) 0/\N0.length<=B i/\S (i+1)=S i)
  (hinj:∀ i j,i<ops.size->j<ops.size->al i=true->al j=true->B i=B j->i=j)
  (hG:∀ i,i<ops.size->∀ t,G (i+1) t=if((ops[i]?).bind (·.dst))=some t then V i else G i t)
  (hFr:∀(i:Nat) o,ops[i]? =some o->fr i=true->al i=false->atB fl i=true/\S (i+1)=S i/\∀ m,m≤ops.size->(∀ q,i<q->q<m->q<ops.size->atB fl q=false->((Region.before ops).getD q 0).testBit i=false)->∀ o1,os[i]? =some o1->(Ae (G i) o1.g=true/\Step P (G i) (S m) o1.i (V i) (S m))∨(Ae (G i) o1.g=false/\V i= .tup []/\S m=S m))
  (hGE:∀(i:Nat) o,ops[i]? =some o->al i=false->fr i=false->∀ t∈Di ops o,G i t=E i t)
  (hst:∀(i:Nat) o1,os[i]? =some o1->al i=false->fr i=false->((Ae (E i) o1.g=true/\Step P (E i) (S i) o1.i (V i) (S (i+1)))∨(Ae (E i) o1.g=false/\V i= .tup []/\S (i+1)=S i)))
  (hfl:∀ i,i<ops.size->atB fl i=true->al i=false->fr i=false->S (i+1)=S i/\∀ m,m≤ops.size->((∀ j,j<i->atB fl j=false->((Region.before ops).getD i 0).testBit j=true->j<m)/\(∀ j,i<j->j<ops.size->atB fl j=false->((Region.before ops).getD j 0).testBit i=true->m<=j))->Ad8 P os E S V i m)
  (hC:∀ i j,i<ops.size->j<ops.size->atB fl i=false->al j=true->(decide (j<i)&&((Region.before ops).getD i 0).testBit j)=false->(S (i+1))[B j]? =some (some (.row 1 (CS j))))
  (hK:∀ W' a' w',At n w0 W0 N0 w1 (G ops.size) (S ops.size) W' a' w'->Q .normal a' w'):∀(fuel m:Nat) (listed:Array Bool) (W:Rho) (a:Act) (w:World),listed.size=ops.size->cnt (fun i=>listed.getD i false) ops.size<=fuel->S8 ops (fun i=>listed.getD i false)->m<=ops.size->
  (∀ i,i<m->i<ops.size->atB fl i=false->listed.getD i false=true)->(∀ i,m≤i->i<ops.size->atB fl i=false->listed.getD i false=false)->
  (∀ j,j<ops.size->al j=true->listed.getD j false=false->W (B j)=none/\(S m)[B j]? =some (some (.row 1 (CS j))))->
  Mid n w0 W0 N0 w1 (cur (fun i=>(ops[i]?).bind (·.dst)) V (G 0) (fun i=>listed.getD i false) ops.size) (S m) W a w->wpAny P .any ops Q fuel listed a w:=by
 have hStay:∀ i,i<ops.size->atB fl i=true->S (i+1)=S i:=fun i hi hf=>by
  cases ha:al i with
  |true=>exact(hal i _ (Zab hi) ha).2.2.2.2.2.2
  |false=>cases hr:fr i with
   |true=>exact(hFr i _ (Zab hi) hr ha).2.1
   |false=>exact(hfl i hi hf ha hr).1
 have same:∀ j m,(∀ i,m≤i->i<j->atB fl i=true)->m<=j->j<=ops.size->S j=S m:=by
  intro j
  induction j with
  |zero=>
       intro m _ h1 _;have:m=0:=by omega
       subst this;rfl
  |succ j ih=>
   intro m h h1 h2
   rcases Zaf j m with h3|h3
   ·have:m=j+1:=by omega
    subst this;rfl
   ·rw[hStay j (by omega) (h j h3 (by omega))]
    exact ih m (fun i h4 h5=>h i h4 (by omega)) h3 (by omega)
 have fin:∀(m:Nat) (listed:Array Bool) (W:Rho) (a:Act) (w:World),m≤ops.size->(∀ i,i<ops.size->listed.getD i false=true)->(∀ i,m≤i->i<ops.size->atB fl i=false->listed.getD i false=false)->
   Mid n w0 W0 N0 w1 (cur (fun i=>(ops[i]?).bind (·.dst)) V (G 0) (fun i=>listed.getD i false) ops.size) (S m) W a w->Q .normal a w:=by
  intro m listed W a w hm hall hno hM
  have hS:S ops.size=S m:=same ops.size m (fun i h1 h2=>by
   cases hf:atB fl i with
   |true=>rfl
   |false=>have:=hno i h1 h2 hf;rw[hall i h2] at this;cases this) hm (Zai _)
  refine hK W a w {env:=fun t=> ?_,good:=hS ▸ hM.good,size:=hM.size,defers:=hM.defers,len:=hS ▸ hM.len,sub:=hM.sub,frame:=hS ▸ hM.frame}
  rw[<- A7t hG hall ops.size (Zai _) t]
  exact hM.env t
 intro fuel
 induction fuel with
 |zero=>
  intro m listed W a w hs hf hcl hm hL hU hP hM
  have all:∀ i,i<ops.size->listed.getD i false=true:=fun i hi=>by
   cases h:listed.getD i false with
   |true=>rfl
   |false=>have:=A2c (D:=fun i=>listed.getD i false) h ops.size hi;omega
  refine⟨?_,fin m listed W a w hm all hU hM⟩
  refine Zbl.2 fun i hi=> ?_
  obtain⟨h1,o,ho,_⟩:=mem_ready.1 hi
  have hlt:i<ops.size:=(Zac.1 ho).1
  rw[Pb (by omega) true false,all i hlt] at h1
  cases h1
 |succ fuel ih=>
  intro m listed W a w hs hf hcl hm hL hU hP hM
  refine⟨fun h0=>fin m listed W a w hm (fun i hi=> ?_) hU hM,fun i hi=> ?_⟩
  ·cases h:listed.getD i false with
   |true=>rfl
   |false=>exact absurd h0 (Lq hok hs hi h)
  obtain⟨h1,o,ho,h2⟩:=mem_ready.1 hi
  have hiN:i<ops.size:=(Zac.1 ho).1
  rw[Pb (by omega) true false] at h1
  have h2':∀ e∈o.after.toList,Region.binds .any e=true->listed.getD e.on false=true:=fun e he hb=>h2 e (by simpa using he) hb
  have hpre:=Ko hok hcl i o ho h2'
  have hlat:∀ m,i<m->∀ x,ops[m]? =some x->must ops o x=true->listed.getD m false=false:=fun m him x hx hmu=>Kp hok hcl h1 hx him (((Gf hok hx).2 i him).2.2 o ho hmu)
  have hil:i<os.length:=by omega
  obtain⟨o',ho',hc⟩:=hget i os[i] (Zaa hil)
  rw[ho] at ho';injection ho' with ho';subst ho'
  obtain⟨_,hdd,_,_⟩:=Ad hc
  obtain⟨hs',hD',hcnt,hcl'⟩:=A2d hs hcl ho h1 h2'
  have hat0:∀ t∈Di ops o,cur (fun i=>(ops[i]?).bind (·.dst)) V (G 0) (fun i=>listed.getD i false) ops.size t=G i t:=fun t ht=>Ad6 hG ho h1 (fun m hm x hx hmu=>hpre m hm (((Gf hok ho).2 m hm).2.2 x hx hmu)) hlat ht
  have hup:cur (fun i=>(ops[i]?).bind (·.dst)) V (G 0) (fun j=>(listed.setIfInBounds i true).getD j false) ops.size=upo (cur (fun i=>(ops[i]?).bind (·.dst)) V (G 0) (fun i=>listed.getD i false) ops.size) o.dst (V i):=funext fun t=>Ad7 (D':=fun j=>(listed.setIfInBounds i true).getD j false) ho hD' hlat t
  have stillNo:∀ j,j<ops.size->(listed.setIfInBounds i true).getD j false=false->j≠i/\listed.getD j false=false:=fun j hj hf=>by
   rw[hD' j hj] at hf
   by_cases hji:j=i
   ·rw[if_pos hji] at hf;cases hf
   ·rw[if_neg hji] at hf;exact⟨hji,hf⟩
  cases ha:al i with
  |true=>
   obtain⟨hfi,hgu,hnew,hflat,hV,hb0,_⟩:=hal i o ho ha
   obtain⟨hr,hSB⟩:=hP i hiN ha h1
   refine Aet hc hgu (hnew _ (Zaa hil)) hflat hM hr hSB hb0 (fun u w' W' hM' hkeep=> ?_) ho
   refine ih m _ W' _ w' hs' (by omega) hcl' hm (fun j hj hjN hfj=>by
    rw[hD' j hjN]
    split
    ·rfl
    ·exact hL j hj hjN hfj) (fun j hj hjN hfj=>by
    rw[hD' j hjN,if_neg (fun h=>by rw[h,hfi] at hfj;cases hfj)]
    exact hU j hj hjN hfj) (fun j hj haj hfj=> ?_) ?_
   ·obtain⟨hne,hfj⟩:=stillNo j hj hfj
    obtain⟨k1,k2⟩:=hP j hj haj hfj
    exact⟨by rw[hkeep _ fun e=>hne (hinj j i hj hiN haj ha e)];exact k1,k2⟩
   ·rw[hup,hV]
    exact hM'
  |false=>
  cases hfr:fr i with
  |true=>
   obtain⟨hfi,_,hfire⟩:=hFr i o ho hfr ha
   have hfire:=hfire m hm fun q hq1 hq2 hq3 hq4=>by
    cases hb:((Region.before ops).getD q 0).testBit i with
    |false=>rfl
    |true=>
     have h3:=hL q hq2 hq3 hq4
     rw[Kp hok hcl h1 (Zab hq3) hq1 hb] at h3;cases h3
   refine Pc hc hM hat0 (hfire _ (Zaa hil)) (fun u w' W' hM' hkeep=> ?_) ho
   refine ih m _ W' _ w' hs' (by omega) hcl' hm (fun j hj hjN hfj=>by
    rw[hD' j hjN]
    split
    ·rfl
    ·exact hL j hj hjN hfj) (fun j hj hjN hfj=>by
    rw[hD' j hjN,if_neg (fun h=>by rw[h,hfi] at hfj;cases hfj)]
    exact hU j hj hjN hfj) (fun j hj haj hfj=> ?_) ?_
   ·obtain⟨hne,hfj⟩:=stillNo j hj hfj
    obtain⟨k1,k2⟩:=hP j hj haj hfj
    exact⟨by rw[hkeep _ (Zad.1 k2).1];exact k1,k2⟩
   ·rw[hup]
    exact hM'
  |false=>
  have hat:∀ t∈Di ops o,cur (fun i=>(ops[i]?).bind (·.dst)) V (G 0) (fun i=>listed.getD i false) ops.size t=E i t:=fun t ht=>(hat0 t ht).trans (hGE i o ho ha hfr t ht)
  cases hfi:atB fl i with
  |true=>
   have hfire:=(hfl i hiN hfi ha hfr).2 m hm ⟨fun j hj hfj hb=>by
    rcases Zaf j m with h|h
    ·exact h
    ·have:=hU j h (by omega) hfj
     exact absurd (hpre j hj hb) (by rw[this];simp),fun j hj hjN hfj hb=>by
    rcases Zaf j m with h|h
    ·have h3:=hL j h hjN hfj
     rw[Kp hok hcl h1 (Zab hjN) hj hb] at h3;cases h3
    ·exact h⟩
   refine Pc hc hM hat (hfire _ (Zaa hil)) (fun u w' W' hM' hkeep=> ?_) ho
   refine ih m _ W' _ w' hs' (by omega) hcl' hm (fun j hj hjN hfj=>by
    rw[hD' j hjN]
    split
    ·rfl
    ·exact hL j hj hjN hfj) (fun j hj hjN hfj=>by
    rw[hD' j hjN,if_neg (fun h=>by rw[h,hfi] at hfj;cases hfj)]
    exact hU j hj hjN hfj) (fun j hj haj hfj=> ?_) ?_
   ·obtain⟨hne,hfj⟩:=stillNo j hj hfj
    obtain⟨k1,k2⟩:=hP j hj haj hfj
    exact⟨by rw[hkeep _ (Zad.1 k2).1];exact k1,k2⟩
   ·rw[hup]
    exact hM'
  |false=>
   have hmi:m<=i:=by
    rcases Zaf i m with h|h
    ·have:=hL i h hiN hfi
     rw[h1] at this;cases this
    ·exact h
   have hbetw:∀ j,m≤j->j<i->atB fl j=true:=fun j hj1 hj2=>by
    cases hfj:atB fl j with
    |true=>rfl
    |false=>
     have hb:=((Gf hok ho).2 j hj2).2.1 (by omega) hfi hfj
     have:=hU j hj1 (by omega) hfj
     rw[hpre j hj2 hb] at this;cases this
   have hSi:S i=S m:=same i m hbetw hmi (by omega)
   have hst:=hst i os[i] (Zaa hil) ha hfr
   rw[hSi] at hst
   refine Pc hc hM hat hst (fun u w' W' hM' hkeep=> ?_) ho
   refine ih (i+1) _ W' _ w' hs' (by omega) hcl' (by omega) (fun j hj hjN hfj=> ?_) (fun j hj hjN hfj=> ?_) (fun j hj haj hfj=> ?_) ?_
   ·rw[hD' j hjN]
    split
    ·rfl
    ·rcases Zaf j m with h|h
     ·exact hL j h hjN hfj
     ·rw[hbetw j h (by omega)] at hfj;cases hfj
   ·rw[hD' j hjN,if_neg (by omega)]
    exact hU j (by omega) hjN hfj
   ·obtain⟨hne,hfj⟩:=stillNo j hj hfj
    obtain⟨k1,k2⟩:=hP j hj haj hfj
    refine⟨by rw[hkeep _ (Zad.1 k2).1];exact k1,?_⟩
    refine hC i j hiN hj hfi haj ?_
    by_cases hji:j<i
    ·cases hb:((Region.before ops).getD i 0).testBit j with
     |false=>simp
     |true=>rw[hpre j hji hb] at hfj;cases hfj
    ·simp[hji]
   ·rw[hup]
    exact hM'
theorem Aeu {N U:St} (h:N <+: U) {g:Nat} {cs:List GV} (hr:rdB N g=some cs):rdB U g=some cs:=by
 obtain⟨r,rfl⟩:=h
 unfold rdB at hr ⊢
 cases hg:N[g]? with
 |none=>rw[hg] at hr;cases hr
 |some B=>
  rw[Zae (Zad.1 hg).1,hg]
  rw[hg] at hr
  exact hr
theorem A7u {N U:St} (h:N <+: U) {env env':Env} {g:Bool} {n t:Nat} {v:GV} (ht:env' t=env t) (hx:exec env N (.ld g n (.t t))=some (v,N)):exec env' U (.ld g n (.t t))=some (v,U):=by
 simp only[exec,Opd.ev] at hx ⊢
 rw[ht]
 obtain⟨p,h1,hx⟩:=Z1z.1 hx
 obtain⟨c,h2,hx⟩:=Z1z.1 hx
 obtain⟨r,h3,hx⟩:=Z1z.1 hx
 obtain⟨w,h4,hx⟩:=Z2z.1 hx
 injection hx with hx _
 subst hx
 rw[h1,Zag,Aeu h h2,Zag,h3,Zag,h4];rfl
theorem Ago {env:Env} {N N':St} {g:Bool} {n t:Nat} {v:GV} (hx:exec env N (.ld g n (.t t))=some (v,N')):N'=N:=by
 simp only[exec,Opd.ev] at hx
 obtain⟨p,h1,hx⟩:=Z1z.1 hx
 obtain⟨c,h2,hx⟩:=Z1z.1 hx
 obtain⟨r,h3,hx⟩:=Z1z.1 hx
 obtain⟨w,h4,hx⟩:=Z2z.1 hx
 injection hx with _ hx
 exact hx.symm
abbrev opN (d:Nat) (cs:List GV):Op1:=⟨some d,none,.new cs⟩
abbrev opL (d:Nat) (g:Bool) (n t:Nat):Op1:=⟨some d,none,.ld g n (.t t)⟩
theorem Rx:∀ {as_:List Bool} {os:List Op1} {K:Env->St->Prop} {env:Env} {N:St},as_.length=os.length->(∀ (j:Nat) o,as_[j]? =some true->os[j]? =some o->(∃ d cs,o=opN d cs)∨∃ d g n t,o=opL d g n t/\∀(j':Nat) o',as_[j']? =some true->os[j']? =some o'->o'.d≠some t)->Ac true P (Ma as_ os) K env N->
  ∃(env1:Env) (N1:St) (B:Nat->Nat) (V1:Nat->GV),K env1 N1/\N <+: N1/\(∀ g,N.length<=g->g<N1.length->∃(j:Nat) (d:Nat) (cs:List GV),as_[j]? =some true/\os[j]? =some (opN d cs)/\N1[g]? =some (some (.row 1 cs)))/\
   (∀ (j d:Nat) cs,as_[j]? =some true->os[j]? =some (opN d cs)->N.length<=B j/\N1[B j]? =some (some (.row 1 cs))/\(∀ (j' d':Nat) cs',as_[j']? =some true->os[j']? =some (opN d' cs')->j<j'->B j<B j')/\V1 j= .ptr (B j) 0)/\
   (∀ (j d n t:Nat) g,as_[j]? =some true->os[j]? =some (opL d g n t)->env1 t=env t/\exec env1 N1 (.ld g n (.t t))=some (V1 j,N1))/\
   (∀ (j:Nat) d o,as_[j]? =some true->os[j]? =some o->o.d=some d->(∀ (j':Nat) o',j<j'->as_[j']? =some true->os[j']? =some o'->o'.d≠some d)->env1 d=V1 j)/\
   ∀ t,(∀ (j:Nat) o,as_[j]? =some true->os[j]? =some o->o.d≠some t)->env1 t=env t
 |[],os,K,env,N,hl,_,h=>⟨env,N,fun _=>0,fun _=>.nilS,by simpa [Ma,Ac] using h,Zal _,fun g h1 h2=>by omega,fun j d cs h1=>by simp at h1,fun j d n t g h1=>by simp at h1,fun j d o h1=>by simp at h1,fun t _=>rfl⟩
 |false::as_,[],K,env,N,hl,_,h=>by simp at hl
 |true::as_,[],K,env,N,hl,_,h=>by simp at hl
 |false::as_,o::os,K,env,N,hl,hn,h=>by
  obtain⟨env1,N1,B,V1,h1,h2,h3,h4,h6,h7,h5⟩:=Rx (as_:=as_) (os:=os) (by simpa using hl) (fun j o ha ho=>(hn (j+1) o (by simpa using ha) (by simpa using ho)).imp id fun⟨d,g,n,t,e,hx⟩=>⟨d,g,n,t,e,fun j' o' ha' ho'=>hx (j'+1) o' (by simpa using ha') (by simpa using ho')⟩) (by simpa [Ma] using h)
  refine⟨env1,N1,fun j=>B (j - 1),fun j=>V1 (j - 1),h1,h2,fun g k1 k2=> ?_,fun j d cs ha ho=> ?_,fun j d n t g ha ho=> ?_,fun j d o ha ho hd hx=> ?_,fun t ht=>h5 t fun j o ha ho=>ht (j+1) o (by simpa using ha) (by simpa using ho)⟩
  ·obtain⟨j,d,cs,ha,ho,e⟩:=h3 g k1 k2
   exact⟨j+1,d,cs,by simpa using ha,by simpa using ho,e⟩
  ·cases j with
   |zero=>simp at ha
   |succ j=>
    obtain⟨q1,q2,q3,q4⟩:=h4 j d cs (by simpa using ha) (by simpa using ho)
    refine⟨q1,q2,fun j' d' cs' ha' ho' hj=> ?_,q4⟩
    cases j' with
    |zero=>omega
    |succ j'=>exact q3 j' d' cs' (by simpa using ha') (by simpa using ho') (by omega)
  ·cases j with
   |zero=>simp at ha
   |succ j=>exact h6 j d n t g (by simpa using ha) (by simpa using ho)
  ·cases j with
   |zero=>simp at ha
   |succ j=>exact h7 j d o (by simpa using ha) (by simpa using ho) hd fun j' o' hj ha' ho'=>hx (j'+1) o' (by omega) (by simpa using ha') (by simpa using ho')
 |true::as_,o::os,K,env,N,hl,hn,h=>by
  have hnt:∀(j:Nat) o,as_[j]? =some true->os[j]? =some o->(∃ d cs,o=opN d cs)∨∃ d g n t,o=opL d g n t/\∀(j':Nat) o',as_[j']? =some true->os[j']? =some o'->o'.d≠some t:=fun j o ha ho=>(hn (j+1) o (by simpa using ha) (by simpa using ho)).imp id fun⟨d,g,n,t,e,hx⟩=>⟨d,g,n,t,e,fun j' o' ha' ho'=>hx (j'+1) o' (by simpa using ha') (by simpa using ho')⟩
  rcases hn 0 o rfl rfl with⟨d0,cs0,rfl⟩|⟨d0,g0,n0,t0,rfl,ht0⟩
  ·simp only[Ma,Ac,Ae,if_true,Step,exec] at h
   obtain⟨v,N',hs,_,h⟩:=h
   injection hs with hs
   injection hs with hs1 hs2
   subst hs1 hs2
   obtain⟨env1,N1,B,V1,h1,h2,h3,h4,h6,h7,h5⟩:=Rx (as_:=as_) (os:=os) (by simpa using hl) hnt h
   have hlen2:(N++[some (Blk.row 1 cs0)]).length=N.length+1:=by simp
   have at0:N1[N.length]? =some (some (.row 1 cs0)):=by
    obtain⟨r,rfl⟩:=h2
    rw[Zae (by rw[hlen2];omega)];simp
   refine⟨env1,N1,fun j=>match j with|0=>N.length|j+1=>B j,fun j=>match j with|0=>.ptr N.length 0|j+1=>V1 j,h1,(Zbd _ _).trans h2,fun g k1 k2=> ?_,fun j d cs ha ho=> ?_,fun j d n t g ha ho=> ?_,fun j d o ha ho hd hx=> ?_,fun t ht=> ?_⟩
   ·by_cases hg:g=N.length
    ·exact⟨0,d0,cs0,rfl,rfl,by rw[hg];exact at0⟩
    ·obtain⟨j,d,cs,ha,ho,e⟩:=h3 g (by rw[hlen2];omega) k2
     exact⟨j+1,d,cs,by simpa using ha,by simpa using ho,e⟩
   ·cases j with
    |zero=>
     simp only[Zah,Zaj.injEq] at ho
     injection ho with e1 e2 e3
     injection e1 with e1
     injection e3 with e3
     subst e1 e3
     refine⟨Zai _,at0,fun j' d' cs' ha' ho' hj=> ?_,rfl⟩
     cases j' with
     |zero=>omega
     |succ j'=>
      have:=(h4 j' d' cs' (by simpa using ha') (by simpa using ho')).1
      rw[hlen2] at this
      show N.length<B j'
      omega
    |succ j=>
     obtain⟨q1,q2,q3,q4⟩:=h4 j d cs (by simpa using ha) (by simpa using ho)
     refine⟨by rw[hlen2] at q1;show N.length<=B j;omega,q2,fun j' d' cs' ha' ho' hj=> ?_,q4⟩
     cases j' with
     |zero=>omega
     |succ j'=>exact q3 j' d' cs' (by simpa using ha') (by simpa using ho') (by omega)
   ·cases j with
    |zero=>
     simp only[Zah,Zaj.injEq] at ho
     injection ho with _ _ e3;cases e3
    |succ j=>
     obtain⟨q1,q2⟩:=h6 j d n t g (by simpa using ha) (by simpa using ho)
     refine⟨?_,q2⟩
     rw[q1]
     rcases hn (j+1) _ ha ho with⟨_,_,e⟩|⟨d',g',n',t',e,hx⟩
     ·injection e with _ _ e;cases e
     ·injection e with _ _ e
      injection e with _ _ e
      injection e with e
      have:=hx 0 _ rfl rfl
      simp only[upo,up]
      rw[if_neg (fun e2:t=d0=>this (by rw[<- e,e2]))]
   ·cases j with
    |zero=>
     simp only[Zah,Zaj.injEq] at ho
     subst ho
     injection hd with hd
     subst hd
     rw[h5 d0 fun j o ha ho=>hx (j+1) o (by omega) (by simpa using ha) (by simpa using ho)]
     simp[upo,up]
    |succ j=>exact h7 j d o (by simpa using ha) (by simpa using ho) hd fun j' o' hj ha' ho'=>hx (j'+1) o' (by omega) (by simpa using ha') (by simpa using ho')
   ·rw[h5 t fun j o ha ho=>ht (j+1) o (by simpa using ha) (by simpa using ho)]
    have:=ht 0 _ rfl rfl
    simp only[upo,up]
    rw[if_neg (fun e:t=d0=>this (by rw[e]))]
  ·simp only[Ma,Ac,Ae,if_true,Step] at h
   obtain⟨v,N',hs,_,h⟩:=h
   have:=Ago hs
   subst this
   obtain⟨env1,N1,B,V1,h1,h2,h3,h4,h6,h7,h5⟩:=Rx (as_:=as_) (os:=os) (by simpa using hl) hnt h
   have ht00:t0≠d0:=fun e=>ht0 0 _ rfl rfl (by rw[e])
   have ke:∀ t,t≠d0->upo env (some d0) v t=env t:=fun t ht=>by simp only[upo,up];rw[if_neg ht]
   have e0:env1 t0=env t0:=by
    rw[h5 t0 fun j o ha ho=>ht0 (j+1) o (by simpa using ha) (by simpa using ho),ke t0 ht00]
   refine⟨env1,N1,fun j=>B (j - 1),fun j=>match j with|0=>v|j+1=>V1 j,h1,h2,fun g k1 k2=> ?_,fun j d cs ha ho=> ?_,fun j d n t g ha ho=> ?_,fun j d o ha ho hd hx=> ?_,fun t ht=> ?_⟩
   ·obtain⟨j,d,cs,ha,ho,e⟩:=h3 g k1 k2
    exact⟨j+1,d,cs,by simpa using ha,by simpa using ho,e⟩
   ·cases j with
    |zero=>
     simp only[Zah,Zaj.injEq] at ho
     injection ho with _ _ e3;cases e3
    |succ j=>
     obtain⟨q1,q2,q3,q4⟩:=h4 j d cs (by simpa using ha) (by simpa using ho)
     refine⟨q1,q2,fun j' d' cs' ha' ho' hj=> ?_,q4⟩
     cases j' with
     |zero=>omega
     |succ j'=>exact q3 j' d' cs' (by simpa using ha') (by simpa using ho') (by omega)
   ·cases j with
    |zero=>
     simp only[Zah,Zaj.injEq] at ho
     injection ho with e1 _ e3
     injection e3 with k1 k2 k3
     injection k3 with k3
     subst k1 k2 k3
     exact⟨e0,A7u h2 e0 hs⟩
    |succ j=>
     obtain⟨q1,q2⟩:=h6 j d n t g (by simpa using ha) (by simpa using ho)
     refine⟨?_,q2⟩
     rw[q1]
     rcases hn (j+1) _ ha ho with⟨_,_,e⟩|⟨d',g',n',t',e,hx⟩
     ·injection e with _ _ e;cases e
     ·injection e with _ _ e
      injection e with _ _ e
      injection e with e
      have:=hx 0 _ rfl rfl
      exact ke t fun e2=>this (by rw[<- e,e2])
   ·cases j with
    |zero=>
     simp only[Zah,Zaj.injEq] at ho
     subst ho
     injection hd with hd
     subst hd
     rw[h5 d0 fun j o ha ho=>hx (j+1) o (by omega) (by simpa using ha) (by simpa using ho)]
     simp[upo,up]
    |succ j=>exact h7 j d o (by simpa using ha) (by simpa using ho) hd fun j' o' hj ha' ho'=>hx (j'+1) o' (by omega) (by simpa using ha') (by simpa using ho')
   ·rw[h5 t fun j o ha ho=>ht (j+1) o (by simpa using ha) (by simpa using ho)]
    exact ke t fun e=>ht 0 _ rfl rfl (by rw[e])
theorem S9 {K:Env->St->Prop} {env:Env} {N:St} {r:List Op1}:∀(c:List Op1),(∀ q∈c,(∃ d x,q=⟨none,none,.chk d x⟩)∨∃ t ds,q=⟨none,none,.blc t ds⟩)->Ac false P (c++r) K env N->
  (∀ d x,(⟨none,none,.chk d x⟩:Op1)∈c->exec env N x=some (env d,N))/\(∀ t ds,(⟨none,none,.blc t ds⟩:Op1)∈c->∃ b,env t= .ptr b 0/\N[b]? =some (some (.row 1 ds)))/\Ac false P r K env N
 |[],_,h=>⟨fun d x h=>by simp at h,fun t ds h=>by simp at h,h⟩
 |q::c,hc,h=>by
  rcases hc q (by simp) with⟨d,x,rfl⟩|⟨t,ds,rfl⟩
  ·simp only[Za8,Ac,Ae,if_true,Step,upo] at h
   obtain⟨v,N',⟨rfl,rfl,hx⟩,_,h⟩:=h
   obtain⟨h1,h2,h3⟩:=S9 c (fun q hq=>hc q (by simp[hq])) h
   refine⟨fun d' x' hm=> ?_,fun t ds hm=> ?_,h3⟩
   ·rcases Zbb.1 hm with hm|hm
    ·injection hm with _ _ hm
     injection hm with h3 h4
     subst h3 h4
     exact hx
    ·exact h1 d' x' hm
   ·rcases Zbb.1 hm with hm|hm
    ·injection hm with _ _ hm;cases hm
    ·exact h2 t ds hm
  ·simp only[Za8,Ac,Ae,if_true,Step,upo] at h
   obtain⟨v,N',⟨rfl,rfl,hx⟩,_,h⟩:=h
   obtain⟨h1,h2,h3⟩:=S9 c (fun q hq=>hc q (by simp[hq])) h
   refine⟨fun d' x' hm=> ?_,fun t' ds' hm=> ?_,h3⟩
   ·rcases Zbb.1 hm with hm|hm
    ·injection hm with _ _ hm;cases hm
    ·exact h1 d' x' hm
   ·rcases Zbb.1 hm with hm|hm
    ·injection hm with _ _ hm
     injection hm with h3 h4
     subst h3 h4
     exact hx
    ·exact h2 t' ds' hm
theorem A7v:∀ {as_:List Bool} {os:List Op1} {cs:List (List Op1)} {K:Env->St->Prop} {env:Env} {N:St},as_.length=os.length->cs.length=os.length->(∀ c∈cs,∀ q∈c,(∃ d x,q=(⟨none,none,.chk d x⟩:Op1))∨∃ t ds,q=(⟨none,none,.blc t ds⟩:Op1))->Ac false P (M9 as_ os cs) K env N->
  ∃(E:Nat->Env) (S:Nat->St) (V:Nat->GV),E 0=env/\S 0=N/\(∀ (i:Nat) o,os[i]? =some o->(as_[i]? =some true->E (i+1)=E i/\S (i+1)=S i)/\(as_[i]? =some false->E (i+1)=upo (E i) o.d (V i)/\((Ae (E i) o.g=true/\Step P (E i) (S i) o.i (V i) (S (i+1)))∨(Ae (E i) o.g=false/\V i= .tup []/\S (i+1)=S i))))/\
   (∀ (i:Nat) c,cs[i]? =some c->as_[i]? =some false->(∀ d x,(⟨none,none,.chk d x⟩:Op1)∈c->exec (E (i+1)) (S (i+1)) x=some (E (i+1) d,S (i+1)))/\∀ t ds,(⟨none,none,.blc t ds⟩:Op1)∈c->∃ b,E (i+1) t= .ptr b 0/\(S (i+1))[b]? =some (some (.row 1 ds)))/\K (E os.length) (S os.length)
 |[],[],[],K,env,N,_,_,_,h=>⟨fun _=>env,fun _=>N,fun _=>.nilS,rfl,rfl,fun i o ho=>by simp at ho,fun i c hc=>by simp at hc,by simpa [M9,Ac] using h⟩
 |true::as_,o::os,c::cs,K,env,N,h1,h2,hcs,h=>by
  obtain⟨E,S,V,e1,e2,e3,e4,e5⟩:=A7v (as_:=as_) (os:=os) (cs:=cs) (by simpa using h1) (by simpa using h2) (fun c hc=>hcs c (by simp[hc])) (by simpa [M9] using h)
  refine⟨fun i=>match i with|0=>env|i+1=>E i,fun i=>match i with|0=>N|i+1=>S i,fun i=>match i with|0=>.nilS|i+1=>V i,rfl,rfl,fun i o' ho=> ?_,fun i c' hc' ha=> ?_,e5⟩
  ·cases i with
   |zero=>exact⟨fun _=>⟨e1,e2⟩,fun ha=>by simp at ha⟩
   |succ i=>
    have:=e3 i o' (by simpa using ho)
    exact⟨fun ha=>this.1 (by simpa using ha),fun ha=>this.2 (by simpa using ha)⟩
  ·cases i with
   |zero=>simp at ha
   |succ i=>exact e4 i c' (by simpa using hc') (by simpa using ha)
 |false::as_,o::os,c::cs,K,env,N,h1,h2,hcs,h=>by
  have key:∀(v:GV) (N':St),((Ae env o.g=true/\Step P env N o.i v N')∨(Ae env o.g=false/\v= .tup []/\N'=N))->Ac false P (c++M9 as_ os cs) K (upo env o.d v) N'->∃(E:Nat->Env) (S:Nat->St) (V:Nat->GV),E 0=env/\S 0=N/\(∀ (i:Nat) o',(o::os)[i]? =some o'->((false::as_)[i]? =some true->E (i+1)=E i/\S (i+1)=S i)/\((false::as_)[i]? =some false->E (i+1)=upo (E i) o'.d (V i)/\((Ae (E i) o'.g=true/\Step P (E i) (S i) o'.i (V i) (S (i+1)))∨(Ae (E i) o'.g=false/\V i= .tup []/\S (i+1)=S i))))/\
    (∀ (i:Nat) c',(c::cs)[i]? =some c'->(false::as_)[i]? =some false->(∀ d x,(⟨none,none,.chk d x⟩:Op1)∈c'->exec (E (i+1)) (S (i+1)) x=some (E (i+1) d,S (i+1)))/\∀ t ds,(⟨none,none,.blc t ds⟩:Op1)∈c'->∃ b,E (i+1) t= .ptr b 0/\(S (i+1))[b]? =some (some (.row 1 ds)))/\K (E (o::os).length) (S (o::os).length):=by
   intro v N' hst hv
   obtain⟨k1,k2,hv⟩:=S9 c (hcs c (by simp)) hv
   obtain⟨E,S,V,e1,e2,e3,e4,e5⟩:=A7v (as_:=as_) (os:=os) (cs:=cs) (by simpa using h1) (by simpa using h2) (fun c hc=>hcs c (by simp[hc])) hv
   refine⟨fun i=>match i with|0=>env|i+1=>E i,fun i=>match i with|0=>N|i+1=>S i,fun i=>match i with|0=>v|i+1=>V i,rfl,rfl,fun i o' ho=> ?_,fun i c' hc' ha=> ?_,e5⟩
   ·cases i with
    |zero=>
     simp only[Zah,Zaj.injEq] at ho
     subst ho
     refine⟨fun ha=>by simp at ha,fun _=> ?_⟩
     simp only[e1,e2]
     exact⟨trivial,hst⟩
    |succ i=>
     have:=e3 i o' (by simpa using ho)
     exact⟨fun ha=>this.1 (by simpa using ha),fun ha=>this.2 (by simpa using ha)⟩
   ·cases i with
    |zero=>
     simp only[Zah,Zaj.injEq] at hc'
     subst hc'
     simp only[e1,e2]
     exact⟨k1,k2⟩
    |succ i=>exact e4 i c' (by simpa using hc') (by simpa using ha)
  simp only[M9,Ac] at h
  split at h
  ·rename_i hw
   obtain⟨v,N',hs,_,hv⟩:=h
   exact key v N' (.inl ⟨hw,hs⟩) hv
  ·rename_i hw
   exact key (.tup []) N (.inr ⟨by simpa using hw,rfl,rfl⟩) h
 |[],_::_,_,_,_,_,hl,_,_,_=>by simp at hl
 |_::_,[],_,_,_,_,hl,_,_,_=>by simp at hl
 |_,[],_::_,_,_,_,_,hl,_,_=>by simp at hl
 |_,_::_,[],_,_,_,_,hl,_,_=>by simp at hl
theorem Aag {o:Oper} {d:Nat} {cs:List GV} (h:nwO P o=some (d,cs)):o.guard=none/\o.dst=some d/\Lb P o.op=some (.new cs)/\cs.all Abe=true:=by
 unfold nwO at h
 split at h
 ·rename_i d' cs' h1 h2 h3
  split at h
  ·rename_i hf
   simp only[Zaj.injEq,Prod.mk.injEq] at h
   obtain⟨rfl,rfl⟩:=h
   exact⟨h1,h2,h3,hf⟩
  ·cases h
 ·cases h
def gEnv (ops:Array Oper) (V:Nat->GV) (env:Env):Nat->Env
 |0=>env
 |i+1=>fun t=>if((ops[i]?).bind (·.dst))=some t then V i else gEnv ops V env i t
theorem Abh {ops:Array Oper} {T:Array Nat} {j:Nat} {x:Oper} {d nn t:Nat} {g:Bool} (h:Ad2 P ops T j=true) (hx:ops[j]? =some x) (hl:ldO P x=some (d,g,nn,t)):∀(i:Nat) o,ops[i]? =some o->(j<=i->o.dst≠some t)/\(j<i->o.dst≠some d)/\(i<j->atB (nwL P ops) i=false->(T.getD j 0).testBit i=true):=by
 intro i o ho
 have hi:i<ops.size:=(Zac.1 ho).1
 unfold Ad2 at h
 rw[hx] at h
 simp only[hl] at h
 have:=Zap.1 h i (Zau.2 hi)
 rw[ho] at this
 simp only[Zas,Zay,decide_eq_true_eq,bne_iff_ne,ne_eq] at this
 obtain⟨h1,h2,h3⟩:=this
 refine⟨fun hji=>h1.resolve_left (by omega),fun hji=>h2.resolve_left (by omega),fun hij ha=> ?_⟩
 rcases h3 with h3|h3|h3
 ·omega
 ·rw[ha] at h3;cases h3
 ·exact h3
theorem Adc {ops:Array Oper} {j:Nat} {x:Oper} {d:Nat} {cs:List GV} (h:nwOk P ops j=true) (hx:ops[j]? =some x) (hl:nwO P x=some (d,cs)):∀(i:Nat) o,ops[i]? =some o->(i≠j->o.dst≠some d)/\(i<j->d∉Di ops o):=by
 intro i o ho
 have hi:i<ops.size:=(Zac.1 ho).1
 unfold nwOk at h
 rw[hx] at h
 simp only[hl] at h
 have:=Zap.1 h i (Zau.2 hi)
 rw[ho] at this
 simp only[Zas,Zay,decide_eq_true_eq,bne_iff_ne,ne_eq,beq_iff_eq,Zbs,Zbm] at this
 obtain⟨h1,h2⟩:=this
 refine⟨fun hji=>h1.resolve_left hji,fun hij hm=> ?_⟩
 rcases h2 with h2|h2
 ·omega
 ·rw[<- Zbm] at hm
  rw[hm] at h2;cases h2
theorem drw_nw {ops:Array Oper} {os:List Op1} {Q:Exit->Act->World->Prop} {K:Env->St->Prop} {env:Env} {N:St} {W:Rho} {a:Act} {w:World} (hok:Hu (nwL P ops) ops 0=true) (hld:(Zbo ops.size).all (fun j=>frO P ops (Region.before ops) j||Ad2 P ops (Region.before ops) j)=true) (hnw:(Zbo ops.size).all (nwOk P ops)=true) (hos:B6 (Au P n ops) ops.toList=some os)
  (hv:Ac true P (Ma (nwA P ops (Region.before ops)) os) (Ac false P (M9 (nwA P ops (Region.before ops)) os ((Zbo ops.size).map (Pa P ops (Region.before ops)))) K) env N) (hA:At n w0 W0 N0 w1 env N W a w)
  (hK:∀ env' N' W' a' w',K env' N'->At n w0 W0 N0 w1 env' N' W' a' w'->Q .normal a' w'):wpAny P .any ops Q ops.size (Zam ops.size false) a w:=by
 have hlen:os.length=ops.size:=by rw[<- (Bd hos).length];simp
 have hget:∀(i:Nat) o1,os[i]? =some o1->∃ o,ops[i]? =some o/\Au P n ops o=some o1:=fun i o1 h=>by
  obtain⟨o,h1,h2⟩:=(Bd hos).get' h
  exact⟨o,by simpa using h1,h2⟩
 have hasl:(nwA P ops (Region.before ops)).length=os.length:=by rw[hlen];simp[nwA]
 let fr:Nat->Bool:=fun i=>frO P ops (Region.before ops) i
 have has:∀(i:Nat) o,ops[i]? =some o->(nwA P ops (Region.before ops))[i]? =some ((nwO P o).isSome||fr i):=fun i o ho=>by
  unfold nwA
  have hi:i<ops.size:=(Zac.1 ho).1
  rw[Zb3,List.getElem?_range hi]
  simp only[Zbp,ho];rfl
 have hfrs:∀(i:Nat) o,ops[i]? =some o->fr i=true->∃ d g nn t,ldO P o=some (d,g,nn,t)/\∀(k:Nat) x,ops[k]? =some x->x.dst≠some t/\(k≠i->x.dst≠some d)/\(k<i->d∉Di ops x)/\(((Region.before ops).getD i 0).testBit k=true->atB (nwL P ops) k=true):=fun i o ho hf=>by
  have hf:frO P ops (Region.before ops) i=true:=hf
  unfold frO at hf
  rw[ho] at hf
  simp only at hf
  split at hf
  ·cases hf
  ·rename_i d g nn t hl
   rw[Zas] at hf
   refine⟨d,g,nn,t,hl,fun k x hx=> ?_⟩
   have hk:k<ops.size:=(Zac.1 hx).1
   have:=Zap.1 hf.2 k (Zau.2 hk)
   rw[hx] at this
   simp only[Zas,Zay,decide_eq_true_eq,bne_iff_ne,ne_eq,beq_iff_eq,Zbs] at this
   obtain⟨⟨h1,h2⟩,h3,h4⟩:=this
   refine⟨h1,fun hne=>h2.resolve_left hne,fun hlt hm=> ?_,fun hb=> ?_⟩
   ·rcases h3 with h3|h3
    ·omega
    ·rw[<- Zbm] at hm
     rw[hm] at h3;cases h3
   ·rcases h4 with h4|h4
    ·exact h4
    ·rw[hb] at h4;cases h4
 have hnwfr:∀(i:Nat) o,ops[i]? =some o->fr i=true->nwO P o=none:=fun i o ho hf=>by
  obtain⟨d,g,nn,t,hl,_⟩:=hfrs i o ho hf
  obtain⟨h1,h2,h3⟩:=Gr hl
  unfold nwO
  rw[h1,h2,h3]
 have hos1:∀(i:Nat) o,ops[i]? =some o->∃ o1,os[i]? =some o1/\Au P n ops o=some o1:=fun i o ho=>by
  have hi:i<os.length:=by rw[hlen];exact(Zac.1 ho).1
  obtain⟨o',ho',hc⟩:=hget i os[i] (Zaa hi)
  rw[ho] at ho';injection ho' with ho';subst ho'
  exact⟨_,Zaa hi,hc⟩
 have hnop:∀(i:Nat) o d cs,ops[i]? =some o->nwO P o=some (d,cs)->os[i]? =some (⟨some d,none,.new cs⟩:Op1):=fun i o d cs ho hn=>by
  obtain⟨h1,h2,h3,h4⟩:=Aag hn
  obtain⟨o1,ho1,hc⟩:=hos1 i o ho
  obtain⟨_,hdd,hg,hop⟩:=Ad hc
  rw[h3] at hop
  injection hop with hop
  unfold Co at hg
  rw[h1] at hg
  injection hg with hg
  rw[ho1]
  obtain⟨d1,g1,i1⟩:=o1
  simp only at hdd hg hop
  rw[hdd,h2,<-hg,<-hop]
 have hlop:∀(i:Nat) o d g nn tt,ops[i]? =some o->ldO P o=some (d,g,nn,tt)->os[i]? =some (opL d g nn tt):=fun i o d g nn tt ho hl=>by
  obtain⟨h1,h2,h3⟩:=Gr hl
  obtain⟨o1,ho1,hc⟩:=hos1 i o ho
  obtain⟨_,hdd,hg,hop⟩:=Ad hc
  rw[h3] at hop
  injection hop with hop
  unfold Co at hg
  rw[h1] at hg
  injection hg with hg
  rw[ho1]
  obtain⟨d1,g1,i1⟩:=o1
  simp only at hdd hg hop
  rw[hdd,h2,<-hg,<-hop]
 have hn1:∀(j:Nat) o,(nwA P ops (Region.before ops))[j]? =some true->os[j]? =some o->(∃ d cs,o=opN d cs)∨∃ d g n t,o=opL d g n t/\∀(j':Nat) o',(nwA P ops (Region.before ops))[j']? =some true->os[j']? =some o'->o'.d≠some t:=fun j o ha ho=>by
  obtain⟨o',ho',hc⟩:=hget j o ho
  rw[has j o' ho'] at ha
  injection ha with ha
  rw[Zay] at ha
  rcases ha with ha|ha
  ·obtain⟨⟨d,cs⟩,hq⟩:=Za0.1 ha
   have:=hnop j o' d cs ho' hq
   rw[ho] at this
   injection this with this
   exact .inl ⟨d,cs,this⟩
  ·obtain⟨d,g,nn,tt,hl,hx⟩:=hfrs j o' ho' ha
   have:=hlop j o' d g nn tt ho' hl
   rw[ho] at this
   injection this with this
   refine .inr ⟨d,g,nn,tt,this,fun j' o2 _ ho2 hd=> ?_⟩
   obtain⟨x,hx',hc'⟩:=hget j' o2 ho2
   obtain⟨_,hdd,_,_⟩:=Ad hc'
   rw[hdd] at hd
   exact(hx j' x hx').1 hd
 obtain⟨env1,N1,B,V1,hv,hpre,hgap,hBs,hLs,hDs,henv1⟩:=Rx hasl hn1 hv
 have hcs:∀ c∈(Zbo ops.size).map (Pa P ops (Region.before ops)),∀ q∈c,(∃ d x,q=(⟨none,none,.chk d x⟩:Op1))∨∃ t ds,q=(⟨none,none,.blc t ds⟩:Op1):=by
  intro c hc q hq
  obtain⟨i,_,rfl⟩:=Zb7.1 hc
  unfold Pa at hq
  split at hq
  ·simp at hq
  ·have ldc:∀ j,Abf P ops j=some q->∃ d x,q=(⟨none,none,.chk d x⟩:Op1):=fun j hq=>by
    obtain⟨x,_,hq⟩:=Z1z.1 hq
    obtain⟨⟨d,g,nn,t⟩,_,rfl⟩:=Z2z.1 hq
    exact⟨_,_,rfl⟩
   rcases Zbq.1 hq with hq|hq
   ·obtain⟨j,_,hq⟩:=Zar.1 hq
    split at hq
    ·cases hq
    ·exact .inl (ldc j hq)
   ·rcases Zbq.1 hq with hq|hq
    ·obtain⟨j,_,hq⟩:=Zar.1 hq
     split at hq
     ·exact .inl (ldc j hq)
     ·cases hq
    ·obtain⟨j,_,hq⟩:=Zar.1 hq
     split at hq
     ·cases hq
     ·obtain⟨x,_,hq⟩:=Z1z.1 hq
      obtain⟨⟨d,cs⟩,_,rfl⟩:=Z2z.1 hq
      exact .inr ⟨_,_,rfl⟩
 obtain⟨E,S,V0,hE0,hS0,hrun,hchk,hKB⟩:=A7v hasl (by simp[hlen]) hcs hv
 rw[hlen] at hKB
 let al:Nat->Bool:=fun i=>match ops[i]? with
  |some o=>(nwO P o).isSome
  |none=>false
 have hal:∀(i:Nat) o,ops[i]? =some o->al i=(nwO P o).isSome:=fun i o ho=>by
  show(match ops[i]? with|some o=>(nwO P o).isSome|none=>false)=_
  rw[ho]
 have halA:∀(i:Nat) o b,ops[i]? =some o->(al i||fr i)=b->(nwA P ops (Region.before ops))[i]? =some b:=fun i o b ho hb=>by rw[has i o ho,<-hal i o ho,hb]
 have hfal:∀(i:Nat) o,ops[i]? =some o->fr i=true->al i=false:=fun i o ho hf=>by rw[hal i o ho,hnwfr i o ho hf];rfl
 let CS:Nat->List GV:=fun i=>match ops[i]? with
  |some o=>(match nwO P o with
   |some q=>q.2
   |none=>[])
  |none=>[]
 have hCSi:∀(i:Nat) o d cs,ops[i]? =some o->nwO P o=some (d,cs)->CS i=cs:=fun i o d cs ho hn=>by
  show(match ops[i]? with|some o=>_|none=>_)=cs
  rw[ho];simp only[hn]
 let V:Nat->GV:=fun i=>if(al i||fr i)=true then V1 i else V0 i
 have hV1:∀ i,(al i||fr i)=true->V i=V1 i:=fun i h=>if_pos h
 have hVf:∀ i,(al i||fr i)=false->V i=V0 i:=fun i h=>if_neg (by rw[h];simp)
 have hstep:∀(i:Nat) o o1,ops[i]? =some o->os[i]? =some o1->(al i||fr i)=false->E (i+1)=upo (E i) o1.d (V i)/\((Ae (E i) o1.g=true/\Step P (E i) (S i) o1.i (V i) (S (i+1)))∨(Ae (E i) o1.g=false/\V i= .tup []/\S (i+1)=S i)):=fun i o o1 ho ho1 ha=>by
  rw[hVf i ha]
  exact(hrun i o1 ho1).2 (halA i o false ho ha)
 have hstay:∀(i:Nat) o,ops[i]? =some o->(al i||fr i)=true->E (i+1)=E i/\S (i+1)=S i:=fun i o ho ha=>by
  obtain⟨o1,ho1,_⟩:=hos1 i o ho
  exact(hrun i o1 ho1).1 (halA i o true ho ha)
 have hnew:∀(i:Nat) o,ops[i]? =some o->al i=true->∃ d cs,nwO P o=some (d,cs)/\o.guard=none/\o.dst=some d/\cs.all Abe=true/\os[i]? =some (opN d cs)/\N.length<=B i/\N1[B i]? =some (some (.row 1 cs))/\V i= .ptr (B i) 0/\CS i=cs:=fun i o ho ha=>by
  have ha2:=ha
  rw[hal i o ho] at ha
  obtain⟨⟨d,cs⟩,hq⟩:=Za0.1 ha
  obtain⟨h1,h2,h3,h4⟩:=Aag hq
  have h5:=hnop i o d cs ho hq
  obtain⟨h6,h7,h8,h9⟩:=hBs i d cs (by rw[has i o ho,ha];rfl) h5
  exact⟨d,cs,hq,h1,h2,h4,h5,h6,h7,by rw[hV1 i (by rw[ha2];rfl),h9],hCSi i o d cs ho hq⟩
 have hfd:∀(i:Nat) o,ops[i]? =some o->(al i||fr i)=true->∃ d,o.dst=some d/\env1 d=V i/\∀(k:Nat) x,ops[k]? =some x->(k≠i->x.dst≠some d)/\(k<i->d∉Di ops x):=fun i o ho ha=>by
  have hiN:i<ops.size:=(Zac.1 ho).1
  have key:∃ d,o.dst=some d/\∀(k:Nat) x,ops[k]? =some x->(k≠i->x.dst≠some d)/\(k<i->d∉Di ops x):=by
   rw[Zay] at ha
   rcases ha with ha|ha
   ·obtain⟨d,cs,hq,_,h2,_⟩:=hnew i o ho ha
    exact⟨d,h2,fun k x hx=>Adc (Zap.1 hnw i (Zau.2 hiN)) ho hq k x hx⟩
   ·obtain⟨d,g,nn,tt,hl,hx⟩:=hfrs i o ho ha
    exact⟨d,(Gr hl).2.1,fun k x hk=>⟨(hx k x hk).2.1,(hx k x hk).2.2.1⟩⟩
  obtain⟨d,hd,hk⟩:=key
  obtain⟨o1,ho1,hc⟩:=hos1 i o ho
  obtain⟨_,hdd,_,_⟩:=Ad hc
  refine⟨d,hd,?_,hk⟩
  rw[hV1 i ha]
  refine hDs i d o1 (halA i o true ho ha) ho1 (by rw[hdd,hd]) fun j' o' hj _ ho' hd'=> ?_
  obtain⟨x,hx,hc'⟩:=hget j' o' ho'
  obtain⟨_,hdd',_,_⟩:=Ad hc'
  rw[hdd'] at hd'
  exact(hk j' x hx).1 (by omega) hd'
 have hdst:∀ i,i<ops.size->∀ t,ops[i]?.bind (·.dst)≠some t->E (i+1) t=E i t:=fun i hi t hne=>by
  have ho:ops[i]? =some ops[i]:=Zab hi
  obtain⟨o1,ho1,hc⟩:=hos1 i _ ho
  cases ha:(al i||fr i) with
  |true=>rw[(hstay i _ ho ha).1]
  |false=>
   obtain⟨_,hdd,_,_⟩:=Ad hc
   rw[(hstep i _ o1 ho ho1 ha).1,hdd]
   rw[ho] at hne
   simp only[Zag] at hne
   cases hd:ops[i].dst with
   |none=>rfl
   |some d=>
    rw[hd] at hne
    simp only[upo,up]
    rw[if_neg (fun h=>hne (by rw[h]))]
 have hEd:∀(j:Nat) o d,ops[j]? =some o->(al j||fr j)=true->o.dst=some d->∀ k,k≤ops.size->E k d=V j:=fun j o d ho haj hdo k=>by
  obtain⟨d',hd',h1,h2⟩:=hfd j o ho haj
  rw[hdo] at hd'
  injection hd' with hd'
  subst hd'
  induction k with
  |zero=>
   intro _
   rw[hE0];exact h1
  |succ k ih=>
   intro hk
   have hok2:ops[k]? =some ops[k]:=Zab (by omega)
   rw[<- ih (by omega)]
   by_cases hkj:k=j
   ·subst hkj
    rw[(hstay k o ho haj).1]
   ·refine hdst k (by omega) d ?_
    rw[hok2]
    exact(h2 k _ hok2).1 hkj
 have hG:∀ i,i<ops.size->∀ t,gEnv ops V env (i+1) t=if((ops[i]?).bind (·.dst))=some t then V i else gEnv ops V env i t:=fun _ _ _=>rfl
 have hGE':∀ i,i≤ops.size->∀ t,(∀ (j:Nat) o,i≤j->ops[j]? =some o->(al j||fr j)=true->o.dst≠some t)->gEnv ops V env i t=E i t:=by
  intro i
  induction i with
  |zero=>
   intro _ t ht
   show env t=E 0 t
   rw[hE0]
   refine(henv1 t fun j o ha ho hd=> ?_).symm
   obtain⟨x,hx,hc⟩:=hget j o ho
   obtain⟨_,hdd,_,_⟩:=Ad hc
   rw[hdd] at hd
   rw[has j x hx] at ha
   injection ha with ha
   exact ht j x (Zbg _) hx (by rw[hal j x hx,ha]) hd
  |succ i ih=>
   intro hi t ht
   have ho:ops[i]? =some ops[i]:=Zab (by omega)
   show(if ((ops[i]?).bind (·.dst))=some t then V i else gEnv ops V env i t)=E (i+1) t
   obtain⟨o1,ho1,hc⟩:=hos1 i _ ho
   by_cases hd:((ops[i]?).bind (·.dst))=some t
   ·rw[if_pos hd]
    rw[ho] at hd
    simp only[Zag] at hd
    cases ha:(al i||fr i) with
    |true=>rw[hEd i _ t ho ha hd (i+1) hi]
    |false=>
     obtain⟨_,hdd,_,_⟩:=Ad hc
     rw[(hstep i _ o1 ho ho1 ha).1,hdd]
     rw[hd]
     simp[upo,up]
   ·rw[if_neg hd,hdst i (by omega) t hd]
    refine ih (by omega) t fun j o hj hoj haj=> ?_
    rcases Zaf i j with h|h
    ·exact ht j o (by omega) hoj haj
    ·have:j=i:=by omega
     subst this
     intro hdj
     exact hd (by rw[hoj];exact hdj)
 have hGE:∀(i:Nat) o,ops[i]? =some o->(al i||fr i)=false->∀ t∈Di ops o,gEnv ops V env i t=E i t:=fun i o ho ha t ht=>by
  have hiN:i<ops.size:=(Zac.1 ho).1
  refine hGE' i (by omega) t fun j x hj hx haj hd=> ?_
  obtain⟨d,hdo,_,hk⟩:=hfd j x hx haj
  have hdt:d=t:=by rw[hdo] at hd;injection hd
  have hne:i≠j:=fun e=>by subst e;rw[ha] at haj;cases haj
  exact(hk i o ho).2 (by omega) (hdt ▸ ht)
 have hfin:gEnv ops V env ops.size=E ops.size:=funext fun t=>hGE' ops.size (Zai _) t fun j o hj ho _=>by
  have:=(Zac.1 ho).1
  omega
 have hflA:∀(i:Nat) o,ops[i]? =some o->(al i||fr i)=true->atB (nwL P ops) i=true:=fun i o ho ha=>by
  rw[Zay] at ha
  rw[nwL,Jc ho]
  rcases ha with ha|ha
  ·rw[<- hal i o ho,ha];simp
  ·obtain⟨d,g,nn,tt,hl,_⟩:=hfrs i o ho ha
   rw[hl];simp
 have hpureS:∀(i:Nat) o o1,ops[i]? =some o->os[i]? =some o1->(al i||fr i)=false->A2b P o=true->S (i+1)=S i/\∀ m,Ad8 P os E S V i m:=fun i o o1 ho ho1 ha hp=>by
  obtain⟨o1',ho1',hc⟩:=hos1 i o ho
  rw[ho1] at ho1';injection ho1' with ho1';subst ho1'
  obtain⟨_,_,_,hop⟩:=Ad hc
  have hpi:Abc o1.i=true:=by
   unfold A2b at hp
   rw[hop] at hp
   exact hp
  rcases(hstep i o o1 ho ho1 ha).2 with⟨hw,hs⟩|⟨hw,hv,hS⟩
  ·obtain⟨h1,h2⟩:=A46 hpi hs
   refine⟨h1,fun m o2 ho2=>.inl ?_⟩
   rw[ho1] at ho2
   injection ho2 with ho2
   subst ho2
   exact⟨hw,h2 _⟩
  ·refine⟨hS,fun m o2 ho2=>.inr ?_⟩
   rw[ho1] at ho2
   injection ho2 with ho2
   subst ho2
   exact⟨hw,hv,rfl⟩
 have hldS:∀(i:Nat) o o1,ops[i]? =some o->os[i]? =some o1->(al i||fr i)=false->(ldO P o).isSome=true->S (i+1)=S i:=fun i o o1 ho ho1 ha hl=>by
  obtain⟨⟨d,g,nn,t⟩,hl⟩:=Za0.1 hl
  obtain⟨_,_,hcx⟩:=Gr hl
  obtain⟨o1',ho1',hc⟩:=hos1 i o ho
  rw[ho1] at ho1';injection ho1' with ho1';subst ho1'
  obtain⟨_,_,_,hop⟩:=Ad hc
  rw[hcx] at hop
  injection hop with hop
  rcases(hstep i o o1 ho ho1 ha).2 with⟨_,hs⟩|⟨_,_,hS⟩
  ·rw[<- hop] at hs
   simp only[Step,exec] at hs
   obtain⟨p,_,hs⟩:=Z1z.1 hs
   obtain⟨cc,_,hs⟩:=Z1z.1 hs
   obtain⟨rr,_,hs⟩:=Z1z.1 hs
   obtain⟨vv,_,hs⟩:=Z2z.1 hs
   injection hs with _ hs
   exact hs.symm
  ·exact hS
 have hsame:∀ i,i<ops.size->atB (nwL P ops) i=true->S (i+1)=S i:=fun i hi hf=>by
  have ho:ops[i]? =some ops[i]:=Zab hi
  obtain⟨o1,ho1,_⟩:=hos1 i _ ho
  cases ha:(al i||fr i) with
  |true=>exact(hstay i _ ho ha).2
  |false=>
   have ha1:al i=false:=(Bool.or_eq_false_iff.1 ha).1
   rw[nwL,Jc ho,<-hal i _ ho,ha1] at hf
   simp only[Zce,Zay] at hf
   rcases hf with hf|hf
   ·exact(hpureS i _ o1 ho ho1 ha hf).1
   ·exact hldS i _ o1 ho ho1 ha hf
 have hrun2:∀ b c,b≤c->c<=ops.size->(∀ i,b≤i->i<c->atB (nwL P ops) i=true)->S c=S b:=by
  intro b c
  induction c with
  |zero=>
       intro h1 _ _;have:b=0:=by omega
       subst this;rfl
  |succ c ih=>
   intro h1 h2 h3
   rcases Zaf c b with h4|h4
   ·have:b=c+1:=by omega
    subst this;rfl
   ·rw[hsame c (by omega) (h3 c h4 (by omega))]
    exact ih h4 (by omega) fun i h5 h6=>h3 i h5 (by omega)
 have hstart:Mid n w0 W0 N0 w1 (cur (fun i=>(ops[i]?).bind (·.dst)) V (gEnv ops V env 0) (fun i=>(Zam ops.size false).getD i false) ops.size) (S 0) W a w:=by
  rw[hS0]
  have hd:=hA.good
  have hll:=hpre.length_le
  have getl:∀(g:Nat),g<N.length->N1[g]? =N[g]? :=fun g h=>by obtain⟨r,rfl⟩:=hpre;exact Zae h
  have hmap:∀ g L,W g=some L->g<N.length:=fun g L hL=>by
   rcases Zaf g N.length with h|h
   ·exact h
   ·rw[hd.fresh g h] at hL;cases hL
  have hcur0:∀ m t,cur (fun i=>(ops[i]?).bind (·.dst)) V (gEnv ops V env 0) (fun i=>(Zam ops.size false).getD i false) m t=env t:=by
   intro m t
   induction m with
   |zero=>rfl
   |succ m ihm=>
    simp only[cur]
    rw[ihm]
    have:(Zam ops.size false).getD m false=false:=by
     simp only[Zan,Za4]
     split<;>rfl
    simp only[this,Zbh,false_and,if_false]
  refine {env:=fun t=>by rw[hcur0];exact hA.env t,good:= ?_,size:=hA.size,defers:=hA.defers,len:=Zba hA.len hll,sub:=hA.sub,frame:=hA.frame.trans ?_}
  ·refine {lay:=hd.lay,below:=hd.below,fresh:=fun g hg=>hd.fresh g (Zba hll hg),loc:=hd.loc,old:=hd.old,closed:=fun g B hB=> ?_,mem:=fun g B L hB hL=>hd.mem g B L (by rw[<- getl g (hmap g L hL)];exact hB) hL,inj:=fun g g' B B' L L' hB hB' hL hL'=>hd.inj g g' B B' L L' (by rw[<- getl g (hmap g L hL)];exact hB) (by rw[<- getl g' (hmap g' L' hL')];exact hB') hL hL'}
   rcases Zaf g N.length with h|h
   ·exact(hd.closed g B (by rw[<- getl g h];exact hB)).mono hll
   ·obtain⟨j,d,cs,ha,hoj,e⟩:=hgap g h (Zad.1 hB).1
    rw[e] at hB
    injection hB with hB;injection hB with hB;subst hB
    obtain⟨x,hx,hc⟩:=hget j _ hoj
    rw[has j x hx] at ha
    injection ha with ha
    have ha1:al j=true:=by
     rw[Zay] at ha
     rcases ha with ha|ha
     ·rw[hal j x hx,ha]
     ·exfalso
      obtain⟨d',g,nn,tt,hl,_⟩:=hfrs j x hx ha
      rw[hlop j x d' g nn tt hx hl] at hoj
      injection hoj with hoj
      injection hoj with _ _ hoj
      cases hoj
    obtain⟨d',cs',hq,_,_,hfl,h5,_⟩:=hnew j x hx ha1
    rw[hoj] at h5
    injection h5 with h5
    injection h5 with _ _ h5
    injection h5 with h5
    subst h5
    exact fun c hc=>Aaf (Zap.1 hfl c hc) _
  ·exact .of (Zai _) (fun _ _ _=>rfl) fun g B L hB hL ho _=>⟨g,B,L,by rw[<- getl g (hmap g L hL)];exact hB,hL,ho,rfl⟩
 refine phaseN (os:=os) (fl:=nwL P ops) (E:=E) (G:=gEnv ops V env) (S:=S) (V:=V) (al:=al) (fr:=fr) (B:=B) (CS:=CS) hok hlen hget (fun i o ho ha=> ?_) (fun i j hi hj hai haj he=> ?_) hG (fun i o ho hfr ha=> ?_) (fun i o ho ha hfr=>hGE i o ho (by rw[ha,hfr];rfl)) (fun i o1 ho1 ha hfr=> ?_) (fun i hi hf ha hfr=>⟨hsame i hi hf,fun m hmN hcon=> ?_⟩) (fun i j hi hj hf haj hb=> ?_) (fun W' a' w' hA'=> ?_) ops.size 0 (Zam ops.size false) W a w (by simp) (A7s _) (fun i o ho hi=> ?_) (Zbg _) (fun i hi=>by omega) (fun i _ hi _=> ?_) (fun j hj haj _=> ?_) hstart
 ·obtain⟨d,cs,hq,h1,h2,h3,h4,h5,h6,h7,h8⟩:=hnew i o ho ha
  have ha2:(al i||fr i)=true:=by rw[ha];rfl
  refine⟨hflA i o ho ha2,h1,fun o1 ho1=> ?_,by rw[h8];exact h3,h7,Zba hA.len h5,(hstay i o ho ha2).2⟩
  rw[h4] at ho1
  injection ho1 with ho1
  rw[<- ho1,h8]
 ·have lt:∀ i j,i<ops.size->j<ops.size->al i=true->al j=true->i<j->B i<B j:=fun i j hi hj hai haj hij=>by
   have hoi:ops[i]? =some ops[i]:=Zab hi
   have hoj:ops[j]? =some ops[j]:=Zab hj
   obtain⟨d,cs,hq,_,_,_,h5,_⟩:=hnew i _ hoi hai
   obtain⟨d',cs',hq',_,_,_,h5',_⟩:=hnew j _ hoj haj
   exact(hBs i d cs (halA i _ true hoi (by rw[hai];rfl)) h5).2.2.1 j d' cs' (halA j _ true hoj (by rw[haj];rfl)) h5' hij
  rcases Zb2 i j with h|h|h
  ·have:=lt i j hi hj hai haj h;omega
  ·exact h
  ·have:=lt j i hj hi haj hai h;omega
 ·have ha2:(al i||fr i)=true:=by rw[hfr];simp
  refine⟨hflA i o ho ha2,(hstay i o ho ha2).2,fun m hm hcon o1 ho1=>.inl ?_⟩
  obtain⟨d,g,nn,tt,hl,hx⟩:=hfrs i o ho hfr
  have h5:=hlop i o d g nn tt ho hl
  rw[h5] at ho1
  injection ho1 with ho1
  subst ho1
  refine⟨rfl,?_⟩
  show exec (gEnv ops V env i) (S m) (.ld g nn (.t tt))=some (V i,S m)
  obtain⟨k1,k2⟩:=hLs i d nn tt g (halA i o true ho ha2) h5
  have hGt:∀ k,k≤ops.size->gEnv ops V env k tt=env tt:=by
   intro k
   induction k with
   |zero=>intro _;rfl
   |succ k ih=>
    intro hk
    have hok2:ops[k]? =some ops[k]:=Zab (by omega)
    show(if ((ops[k]?).bind (·.dst))=some tt then V k else gEnv ops V env k tt)=env tt
    rw[hok2,Zag,if_neg (hx k _ hok2).1,ih (by omega)]
  have hiN:i<ops.size:=(Zac.1 ho).1
  have hEt:∀ k,k≤ops.size->E k tt=env tt:=by
   intro k
   induction k with
   |zero=>intro _;rw[hE0];exact k1
   |succ k ih=>
    intro hk
    have hok2:ops[k]? =some ops[k]:=Zab (by omega)
    rw[hdst k (by omega) tt (by rw[hok2];exact(hx k _ hok2).1),ih (by omega)]
  have hdo:o.dst=some d:=(Gr hl).2.1
  rw[hV1 i ha2]
  have at0:exec (gEnv ops V env i) (S 0) (.ld g nn (.t tt))=some (V1 i,S 0):=by
   rw[hS0]
   exact A7u (Zal _) (by rw[hGt i (by omega),k1]) k2
  have hex:∀ m,m≤ops.size->S m=S 0∨∃ q,q<m/\q<ops.size/\atB (nwL P ops) q=false/\S m=S (q+1):=by
   intro m
   induction m with
   |zero=>intro _;exact .inl rfl
   |succ m ihm=>
    intro hmN
    cases hfm:atB (nwL P ops) m with
    |false=>exact .inr ⟨m,by omega,by omega,hfm,rfl⟩
    |true=>
     rw[hsame m (by omega) hfm]
     rcases ihm (by omega) with h2|⟨q,h2,h3⟩
     ·exact .inl h2
     ·exact .inr ⟨q,by omega,h3⟩
  rcases hex m hm with h|⟨q,hq1,hq3,hq4,hSq⟩
  ·rw[h];exact at0
  ·have hoq:ops[q]? =some ops[q]:=Zab hq3
   have haq:(al q||fr q)=false:=by
    cases h:(al q||fr q) with
    |false=>rfl
    |true=>rw[hflA q _ hoq h] at hq4;cases hq4
   have hqi:q≠i:=fun e=>by subst e;rw[ha2] at haq;cases haq
   have hmem:(⟨none,none,.chk d (.ld g nn (.t tt))⟩:Op1)∈Pa P ops (Region.before ops) q:=by
    have hlc:Abf P ops i=some (⟨none,none,.chk d (.ld g nn (.t tt))⟩:Op1):=by
     unfold Abf
     rw[ho,Zag,hl];rfl
    unfold Pa
    rw[if_neg (by rw[hq4];simp)]
    rcases Zaf i q with h|h
    ·refine Zao _ (Zar.2 ⟨i,Zau.2 h,?_⟩)
     rw[if_neg (by rw[hcon q h hq1 hq3 hq4];simp)]
     exact hlc
    ·refine Zak _ (Zao _ (Zar.2 ⟨i,Zau.2 hiN,?_⟩))
     rw[if_pos]
     ·exact hlc
     ·rw[Zas]
      exact⟨by simp;omega,hfr⟩
   have hck:=(hchk q (Pa P ops (Region.before ops) q) (by simp[hq3]) (halA q _ false hoq haq)).1 d _ hmem
   rw[hSq]
   rw[hEd i o d ho ha2 hdo (q+1) (by omega),hV1 i ha2] at hck
   exact A7u (Zal _) (by rw[hGt i (by omega),hEt (q+1) (by omega)]) hck
 ·obtain⟨o,ho,_⟩:=hget i o1 ho1
  exact(hstep i o o1 ho ho1 (by rw[ha,hfr];rfl)).2
 ·have ho:ops[i]? =some ops[i]:=Zab hi
  have ha1:=ha
  have ha:(al i||fr i)=false:=by rw[ha1,hfr];rfl
  obtain⟨o1,ho1,hc⟩:=hos1 i _ ho
  obtain⟨hc1,hc2⟩:=hcon
  have hf':=hf
  rw[nwL,Jc ho,<-hal i _ ho,ha1] at hf
  simp only[Zce,Zay] at hf
  rcases hf with hf|hf
  ·exact(hpureS i _ o1 ho ho1 ha hf).2 m
  obtain⟨⟨d,g,nn,t⟩,hl⟩:=Za0.1 hf
  obtain⟨hgu,hdx,hcx⟩:=Gr hl
  have hspec:=Abh (by
   have:=Zap.1 hld i (Zau.2 hi)
   rw[show frO P ops (Region.before ops) i=false from hfr,Zby] at this
   exact this) ho hl
  obtain⟨_,hdd,hg,hop⟩:=Ad hc
  rw[hcx] at hop
  injection hop with hop
  have hgn:o1.g=none:=by
   unfold Co at hg
   rw[hgu] at hg
   simpa using hg.symm
  obtain⟨hEi,hst⟩:=hstep i _ o1 ho ho1 ha
  rw[hgn] at hst
  have hsti:Step P (E i) (S i) o1.i (V i) (S (i+1)):=by
   rcases hst with⟨_,hs⟩|⟨hw,_⟩
   ·exact hs
   ·simp[Ae] at hw
  intro o2 ho2
  rw[ho1] at ho2
  injection ho2 with ho2
  subst ho2
  refine .inl ⟨by rw[hgn];rfl,?_⟩
  rw[hsame i hi hf'] at hsti
  by_cases hmS:S m=S i
  ·rw[hmS];exact hsti
  have hmi:i<m:=by
   rcases Zaf i m with h|h
   ·exact h
   ·exact absurd (hrun2 m i h (by omega) fun j h1 h2=>by
     cases hj:atB (nwL P ops) j with
     |true=>rfl
     |false=>
      have ho2:ops[j]? =some ops[j]:=Zab (by omega)
      have:=hc1 j h2 hj ((hspec j _ ho2).2.2 h2 hj)
      omega).symm hmS
  have hex:∃ q,i<q/\q<m/\q<ops.size/\atB (nwL P ops) q=false/\S m=S (q+1):=by
   have:∀ m,i<m->S m=S i∨ops.size<m∨∃ q,i<q/\q<m/\q<ops.size/\atB (nwL P ops) q=false/\S m=S (q+1):=by
    intro m
    induction m with
    |zero=>intro h;omega
    |succ m ihm=>
     intro h
     rcases Zaf i m with h1|h1
     ·by_cases hmN:m<ops.size
      ·cases hfm:atB (nwL P ops) m with
       |false=>exact .inr (.inr ⟨m,h1,by omega,hmN,hfm,rfl⟩)
       |true=>
        rw[hsame m hmN hfm]
        rcases ihm h1 with h2|h2|⟨q,h2,h3,h4⟩
        ·exact .inl h2
        ·exact .inr (.inl (by omega))
        ·exact .inr (.inr ⟨q,h2,by omega,h4⟩)
      ·exact .inr (.inl (by omega))
     ·have:m=i:=by omega
      subst this
      exact .inl (hsame m hi hf')
   rcases this m hmi with h|h|h
   ·exact absurd h hmS
   ·omega
   ·exact h
  obtain⟨q,hq1,hq2,hq3,hq4,hSq⟩:=hex
  have hbit:((Region.before ops).getD q 0).testBit i=false:=by
   cases hb:((Region.before ops).getD q 0).testBit i with
   |false=>rfl
   |true=>have:=hc2 q hq1 hq3 hq4 hb;omega
  have hoq:ops[q]? =some ops[q]:=Zab hq3
  have haq:(al q||fr q)=false:=by
   cases h:(al q||fr q) with
   |false=>rfl
   |true=>rw[hflA q _ hoq h] at hq4;cases hq4
  have hmem:(⟨none,none,.chk d (.ld g nn (.t t))⟩:Op1)∈Pa P ops (Region.before ops) q:=by
   unfold Pa
   rw[if_neg (by rw[hq4];simp)]
   refine Zao _ (Zar.2 ⟨i,Zau.2 hq1,?_⟩)
   rw[if_neg (by rw[hbit];simp)]
   unfold Abf
   rw[ho,Zag,hl];rfl
  have hck:=(hchk q (Pa P ops (Region.before ops) q) (by simp[hq3]) (halA q _ false hoq haq)).1 d _ hmem
  have keep:∀ j,i≤j->j<ops.size->E (j+1) t=E i t/\E (j+1) d=V i:=by
   have first:E (i+1) t=E i t/\E (i+1) d=V i:=by
    refine⟨hdst i hi t (by rw[ho];exact(hspec i _ ho).1 (Zai _)),?_⟩
    rw[hEi,hdd,hdx];simp[upo,up]
   intro j
   induction j with
   |zero=>
    intro h1 h2
    have:i=0:=by omega
    subst this
    exact first
   |succ j ihj=>
    intro h1 h2
    have ho2:ops[j+1]? =some ops[j+1]:=Zab h2
    have ht:E (j+1+1) t=E (j+1) t:=hdst (j+1) h2 t (by rw[ho2];exact(hspec (j+1) _ ho2).1 h1)
    rcases Zaf j i with h3|h3
    ·have:i=j+1:=by omega
     subst this
     exact first
    ·obtain⟨k1,k2⟩:=ihj h3 (by omega)
     refine⟨ht.trans k1,?_⟩
     rw[hdst (j+1) h2 d (by rw[ho2];exact(hspec (j+1) _ ho2).2.1 (by omega)),k2]
  obtain⟨k1,k2⟩:=keep q (by omega) hq3
  rw[hSq,<-hop]
  simp only[exec,Opd.ev] at hck
  simp only[Step,exec,Opd.ev]
  rw[k1,k2] at hck
  exact hck
 ·have ho:ops[i]? =some ops[i]:=Zab hi
  have hoj:ops[j]? =some ops[j]:=Zab hj
  have ha:(al i||fr i)=false:=by
   cases h:(al i||fr i) with
   |false=>rfl
   |true=>rw[hflA i _ ho h] at hf;cases hf
  obtain⟨d,cs,hq,_,hdo,_,_,_,_,h7,h8⟩:=hnew j _ hoj haj
  have hmem:(⟨none,none,.blc d cs⟩:Op1)∈Pa P ops (Region.before ops) i:=by
   unfold Pa
   rw[if_neg (by rw[hf];simp)]
   refine Zak _ (Zak _ (Zar.2 ⟨j,Zau.2 hj,?_⟩))
   rw[if_neg (by rw[hb];simp),hoj]
   simp[hq]
  obtain⟨b,hb1,hb2⟩:=(hchk i (Pa P ops (Region.before ops) i) (by simp[hi]) (halA i _ false ho ha)).2 d cs hmem
  rw[hEd j _ d hoj (by rw[haj];rfl) hdo (i+1) (by omega),h7] at hb1
  injection hb1 with hb1
  rw[hb1,h8];exact hb2
 ·rw[hfin] at hA'
  exact hK _ _ W' a' w' hKB hA'
 ·simp only[Zan,Za4] at hi
  split at hi<;>simp at hi
 ·simp[Zan,hi]
 ·have hoj:ops[j]? =some ops[j]:=Zab hj
  obtain⟨d,cs,hq,_,_,_,_,h6,h7,_,h8⟩:=hnew j _ hoj haj
  exact⟨hA.good.fresh (B j) h6,by rw[hS0,h8];exact h7⟩
theorem Abi {md:Bool} {id:Nat} {ops:Array Oper} {d:Cd} {Q:Exit->Act->World->Prop} {K:Ex->Env->St->Prop} {env:Env} {N:St} {W:Rho} {a:Act} {w:World} (hm:(P.follows .mixedOrders|| !Region.departs ops)=true) (hd:drwM md P n ops=some d) (hv:vc P d K env N) (hA:At n w0 W0 N0 w1 env N W a w)
  (hK:∀ env' N' W' a' w',K .nxt env' N'->At n w0 W0 N0 w1 env' N' W' a' w'->Q .normal a' w'):(Code.region id ops true).wp P Q a w:=by
 cases md with
 |false=>exact A47 hm hd hv hA hK
 |true=>
  unfold drwM at hd
  simp only at hd
  split at hd
  ·rename_i d' hd'
   injection hd with hd;subst hd
   refine wp_region_draw fun t=> ?_
   simp only[Region.schedule]
   rw[if_pos hm]
   unfold drwNw at hd'
   split at hd'
   ·rename_i hok
    simp only[Zas] at hok
    obtain⟨os,hos,rfl⟩:=Z2z.1 hd'
    exact wpAny_sound ops.size t _ a _ (drw_nw hok.1 hok.2.1 hok.2.2 hos hv hA.drew hK)
   ·cases hd'
  ·exact A47 hm hd hv hA hK
end
section sound
variable {P:Program} {n:Nat} {w0 w1:World} {W0:Rho} {N0:St}
def Ex.go:Ex->Exit
 | .nxt=>.normal
 | .ext id=>.exit id
 | .ret=>.ret
noncomputable def leastOf (p:Nat->Prop):Nat:= @dite _ (∃ m,p m) (Classical.propDecidable _) (fun h=>Classical.choose (Rw h)) (fun _=>0)
theorem Qb {p:Nat->Prop} (h:∃ m,p m):p (leastOf p):=by
 unfold leastOf
 rw[dif_pos h]
 exact(Classical.choose_spec (Rw h)).1
theorem Zt {p:Nat->Prop} {k:Nat} (hk:p k):leastOf p<=k:=by
 have h:∃ m,p m:=⟨k,hk⟩
 unfold leastOf
 rw[dif_pos h]
 exact(Classical.choose_spec (Rw h)).2 k hk
theorem Aev {md:Bool}:∀ {c:Code} {d:Cd},Z0 md P n c=some d->∀ {Q:Ex->Env->St->Prop} {QQ:Exit->Act->World->Prop} {env:Env} {N:St} {W:Rho} {a:Act} {w:World},vc P d Q env N->At n w0 W0 N0 w1 env N W a w->
  (∀ e env' N' W' a' w',Q e env' N'->At n w0 W0 N0 w1 env' N' W' a' w'->QQ e.go a' w')->c.wp P QQ a w:=by
 intro c
 induction c with
 |skip=>
  intro d hd Q QQ env N W a w hv hA hQ
  cases hd
  exact wp_skip (hQ .nxt env N W a w hv hA)
 |region id ops draw=>
  intro d hd Q QQ env N W a w hv hA hQ
  cases draw with
  |true=>
   simp only[Z0] at hd
   split at hd
   ·rename_i hm
    exact Abi hm hd hv hA fun env' N' W' a' w' hk hA'=>hQ .nxt env' N' W' a' w' hk hA'
   ·cases hd
  |false=>
   obtain⟨os,hos,rfl⟩:=Z2z.1 hd
   exact wp_region (S7 (Abg hos) hv hA fun env' N' W' a' w' hk hA'=>hQ .nxt env' N' W' a' w' hk hA')
 |seq x y ihx ihy=>
  intro d hd Q QQ env N W a w hv hA hQ
  obtain⟨dx,hx,hd⟩:=Z1z.1 hd
  obtain⟨dy,hy,rfl⟩:=Z2z.1 hd
  refine wp_seq (ihx hx hv hA fun e env' N' W' a' w' hk hA'=> ?_)
  cases e with
  |nxt=>exact ihy hy hk hA' hQ
  |ext j=>exact hQ (.ext j) env' N' W' a' w' hk hA'
  |ret=>exact hQ .ret env' N' W' a' w' hk hA'
 |cond c x y ihx ihy=>
  intro d hd Q QQ env N W a w hv hA hQ
  obtain⟨c',hc,hd⟩:=Z1z.1 hd
  obtain⟨dx,hx,hd⟩:=Z1z.1 hd
  obtain⟨dy,hy,rfl⟩:=Z2z.1 hd
  obtain⟨t,ht,h1,h2⟩:=hv
  have hcr:=Acw hc hA.env
  have hcb:=Ad3 hcr
  rw[ht] at hcb
  have hce:a.eval c= .bool t:=by
   cases hu:a.eval c<;>rw[hu] at hcb<;>simp only[vbit,Zaj.injEq,reduceCtorEq] at hcb
   rw[hcb]
  exact wp_cond_split hce (fun e=>ihx hx (h1 e) hA hQ) (fun e=>ihy hy (h2 e) hA hQ)
 |block id x ih=>
  intro d hd Q QQ env N W a w hv hA hQ
  obtain⟨dx,hx,rfl⟩:=Z2z.1 hd
  refine wp_block (ih hx hv hA fun e env' N' W' a' w' hk hA'=> ?_)
  cases e with
  |nxt=>exact hQ .nxt env' N' W' a' w' hk hA'
  |ext j=>
   simp only[Ex.go,Exit.inBlock]
   simp only at hk
   by_cases hj:j=id
   ·rw[if_pos hj] at hk
    rw[if_pos hj]
    exact hQ .nxt env' N' W' a' w' hk hA'
   ·rw[if_neg hj] at hk
    rw[if_neg hj]
    exact hQ (.ext j) env' N' W' a' w' hk hA'
  |ret=>exact hQ .ret env' N' W' a' w' hk hA'
 |loop x ih=>
  intro d hd Q QQ env N W a w hv hA hQ
  obtain⟨dx,hx,rfl⟩:=Z2z.1 hd
  obtain⟨I,μ,hI,hstep⟩:=hv
  let J:Act->World->Nat->Prop:=fun a w m=>∃ env N W,I env N/\At n w0 W0 N0 w1 env N W a w/\μ env N=m
  refine wp_loop (fun a w=>∃ m,J a w m) (fun a w=>leastOf (J a w)) ⟨_,env,N,W,hI,hA,rfl⟩ fun a w hJ=> ?_
  obtain⟨env,N,W,hI,hA,hm⟩:=Qb hJ
  refine ih hx (hstep env N hI) hA fun e env' N' W' a' w' hk hA'=> ?_
  cases e with
  |nxt=>exact⟨⟨_,env',N',W',hk.1,hA',rfl⟩,Zbz (Zt ⟨env',N',W',hk.1,hA',rfl⟩) (by rw[<- hm];exact hk.2)⟩
  |ext j=>exact hQ (.ext j) env' N' W' a' w' hk hA'
  |ret=>exact hQ .ret env' N' W' a' w' hk hA'
 |exit id=>
  intro d hd Q QQ env N W a w hv hA hQ
  cases hd
  exact wp_exit (hQ (.ext id) env N W a w hv hA)
 |ret=>
  intro d hd Q QQ env N W a w hv hA hQ
  cases hd
  exact wp_ret (hQ .ret env N W a w hv hA)
 |_=>intro d hd;cases hd
end sound
inductive Rs where
 |t (n:Nat)
 |c (a:Nat) (agg:Bool) (n:Nat)
structure Fn1 where
 n:Nat
 rs:List Rs
 c:Cd
def Rs.ev (env:Env) (N:St):Rs->Option GV
 | .t n=>some (env n)
 | .c a agg n=>(ptrG (env a)).bind fun p=>(rdB N p.1).bind fun cs=>(seg cs p.2 n).bind fun r=>mkv agg r
def resG (env:Env) (N:St):List Rs->Option GV
 |[r]=>r.ev env N
 |rs=>(B6 (Rs.ev env N) rs).bind fun vs=>if vs.all Ew then some (.tup vs) else none
def A48 (P:Program):ResultVar->Option Rs
 | .tmp t=>some (.t t)
 | .cell a t=>(A40 P t).map fun c=>.c a c.1 c.2
def Gg (md:Bool) (P:Program) (f:Nat):Option Fn1:=(P.funcs[f]?).bind fun fn=>fn.body.bind fun c=>
 if fn.name= "runtime.NumGoroutine" then none else(B6 (A48 P) fn.results.toList).bind fun rs=>(Z0 md P fn.ntmps c).map fun d=>⟨fn.ntmps,rs,d⟩
abbrev A4 (P:Program) (f:Nat):Option Fn1:=Gg false P f
def env0 (args:List GV):Env:=fun n=>args.getD n (.tup [])
theorem Bj {P:Program} {D:Bool}:∀ {os:List Op1} {K K':Env->St->Prop} {env:Env} {N:St},Ac D P os K env N->(∀ env N,K env N->K' env N)->Ac D P os K' env N
 |[],_,_,env,N,h,hk=>hk env N h
 |o::os,K,K',env,N,h,hk=>by
  simp only[Ac] at h ⊢
  split at h
  ·rename_i hw
   rw[if_pos hw]
   obtain⟨v,N',hs,hp,h⟩:=h
   exact⟨v,N',hs,hp,Bj h hk⟩
  ·rename_i hw
   rw[if_neg hw]
   exact Bj h hk
theorem Ao {P:Program} {d:Cd}:∀ {Q Q':Ex->Env->St->Prop} {env:Env} {N:St},vc P d Q env N->(∀ e env N,Q e env N->Q' e env N)->vc P d Q' env N:=by
 induction d with
 |skip=>intro Q Q' env N h hq;exact hq _ _ _ h
 |reg ops=>intro Q Q' env N h hq;exact Bj h fun env N=>hq _ env N
 |drw as_ bs=>intro Q Q' env N h hq;exact Bj h fun env N h=>Bj h fun env N=>hq _ env N
 |seq a b iha ihb=>
  intro Q Q' env N h hq
  refine iha h fun e env N he=> ?_
  cases e with
  |nxt=>exact ihb he hq
  |ext j=>exact hq _ _ _ he
  |ret=>exact hq _ _ _ he
 |cnd c a b iha ihb=>
  intro Q Q' env N h hq
  obtain⟨t,ht,h1,h2⟩:=h
  exact⟨t,ht,fun e=>iha (h1 e) hq,fun e=>ihb (h2 e) hq⟩
 |blk id a ih=>
  intro Q Q' env N h hq
  refine ih h fun e env N he=> ?_
  cases e with
  |nxt=>exact hq _ _ _ he
  |ext j=>
   simp only at he ⊢
   split at he
   ·rename_i hj;rw[if_pos hj];exact hq _ _ _ he
   ·rename_i hj;rw[if_neg hj];exact hq _ _ _ he
  |ret=>exact hq _ _ _ he
 |lop a ih=>
  intro Q Q' env N h hq
  obtain⟨I,μ,hI,hs⟩:=h
  refine⟨I,μ,hI,fun env N hi=>ih (hs env N hi) fun e env' N' he=> ?_⟩
  cases e with
  |nxt=>exact he
  |ext j=>exact hq _ _ _ he
  |ret=>exact hq _ _ _ he
 |ext id=>intro Q Q' env N h hq;exact hq _ _ _ h
 |ret=>intro Q Q' env N h hq;exact hq _ _ _ h
def Eq3 (e:Ex) (env:Env) (N:St):Ex->Env->St->Prop:=fun e1 env1 N1=>e1=e/\env1=env/\N1=N
theorem Jd {P:Program} {D:Bool}:∀ {os:List Op1} {K:Env->St->Prop} {env:Env} {N:St},Ac D P os K env N->∃ env' N',K env' N'/\Ac D P os (fun e s=>e=env'/\s=N') env N
 |[],_,env,N,h=>⟨env,N,h,rfl,rfl⟩
 |o::os,K,env,N,h=>by
  simp only[Ac] at h ⊢
  split at h
  ·rename_i hw
   obtain⟨v,U,hs,hp,h⟩:=h
   obtain⟨env',N',hk,h⟩:=Jd h
   exact⟨env',N',hk,by rw[if_pos hw];exact⟨v,U,hs,hp,h⟩⟩
  ·rename_i hw
   obtain⟨env',N',hk,h⟩:=Jd h
   exact⟨env',N',hk,by rw[if_neg hw];exact h⟩
inductive LB (P:Program) (a:Cd) (I:Env->St->Prop) (μ:Env->St->Nat) (e:Ex) (env':Env) (N':St):Env->St->Prop
 |out {env:Env} {N:St}:I env N->e≠.nxt->vc P a (Eq3 e env' N') env N->LB P a I μ e env' N' env N
 |more {env:Env} {N:St} {env1:Env} {N1:St}:I env N->vc P a (Eq3 .nxt env1 N1) env N->μ env1 N1<μ env N->LB P a I μ e env' N' env1 N1->LB P a I μ e env' N' env N
theorem vc_det {P:Program} {d:Cd}:∀ {Q:Ex->Env->St->Prop} {env:Env} {N:St},vc P d Q env N->∃ e env' N',Q e env' N'/\vc P d (Eq3 e env' N') env N:=by
 induction d with
 |skip=>intro Q env N h;exact⟨_,_,_,h,rfl,rfl,rfl⟩
 |reg ops=>
  intro Q env N h
  obtain⟨env',N',hk,h⟩:=Jd h
  exact⟨.nxt,env',N',hk,Bj h fun _ _ he=>⟨rfl,he.1,he.2⟩⟩
 |drw as_ bs=>
  intro Q env N h
  obtain⟨env1,N1,hk,h1⟩:=Jd h
  obtain⟨env',N',hk,h2⟩:=Jd hk
  refine⟨.nxt,env',N',hk,?_⟩
  show Ac true P as_ _ env N
  refine Bj h1 fun e s he=> ?_
  obtain⟨rfl,rfl⟩:=he
  exact Bj h2 fun _ _ he=>⟨rfl,he.1,he.2⟩
 |seq a b iha ihb=>
  intro Q env N h
  obtain⟨e,env1,N1,hq,h1⟩:=iha h
  cases e with
  |nxt=>
   obtain⟨e,env',N',hq,h2⟩:=ihb hq
   refine⟨e,env',N',hq,?_⟩
   show vc P a _ env N
   refine Ao h1 fun e1 en s he=> ?_
   obtain⟨rfl,rfl,rfl⟩:=he
   exact h2
  |ext j=>
   refine⟨.ext j,env1,N1,hq,?_⟩
   show vc P a _ env N
   refine Ao h1 fun e1 en s he=> ?_
   obtain⟨rfl,rfl,rfl⟩:=he
   exact⟨rfl,rfl,rfl⟩
  |ret=>
   refine⟨.ret,env1,N1,hq,?_⟩
   show vc P a _ env N
   refine Ao h1 fun e1 en s he=> ?_
   obtain⟨rfl,rfl,rfl⟩:=he
   exact⟨rfl,rfl,rfl⟩
 |cnd c a b iha ihb=>
  intro Q env N h
  obtain⟨t,ht,h1,h2⟩:=h
  cases t with
  |true=>
   obtain⟨e,env',N',hq,h⟩:=iha (h1 rfl)
   exact⟨e,env',N',hq,true,ht,fun _=>h,fun e=>by cases e⟩
  |false=>
   obtain⟨e,env',N',hq,h⟩:=ihb (h2 rfl)
   exact⟨e,env',N',hq,false,ht,(fun e=>by cases e),fun _=>h⟩
 |blk id a ih=>
  intro Q env N h
  obtain⟨e,env1,N1,hq,h1⟩:=ih h
  cases e with
  |nxt=>
   refine⟨.nxt,env1,N1,hq,?_⟩
   show vc P a _ env N
   refine Ao h1 fun e1 en s he=> ?_
   obtain⟨rfl,rfl,rfl⟩:=he
   exact⟨rfl,rfl,rfl⟩
  |ext j=>
   by_cases hj:j=id
   ·simp only[if_pos hj] at hq
    refine⟨.nxt,env1,N1,hq,?_⟩
    show vc P a _ env N
    refine Ao h1 fun e1 en s he=> ?_
    obtain⟨rfl,rfl,rfl⟩:=he
    simp only[if_pos hj]
    exact⟨rfl,rfl,rfl⟩
   ·simp only[if_neg hj] at hq
    refine⟨.ext j,env1,N1,hq,?_⟩
    show vc P a _ env N
    refine Ao h1 fun e1 en s he=> ?_
    obtain⟨rfl,rfl,rfl⟩:=he
    simp only[if_neg hj]
    exact⟨rfl,rfl,rfl⟩
  |ret=>
   refine⟨.ret,env1,N1,hq,?_⟩
   show vc P a _ env N
   refine Ao h1 fun e1 en s he=> ?_
   obtain⟨rfl,rfl,rfl⟩:=he
   exact⟨rfl,rfl,rfl⟩
 |lop a ih=>
  intro Q env N h
  obtain⟨I,μ,hI,hs⟩:=h
  have key:∀ m env N,μ env N=m->I env N->∃ e env' N',Q e env' N'/\LB P a I μ e env' N' env N:=by
   intro m
   induction m using Nat.strongRecOn with
   |_ m ihm=>
    intro env N hm hi
    obtain⟨e,env1,N1,hq,h1⟩:=ih (hs env N hi)
    cases e with
    |nxt=>
     obtain⟨e,env',N',hq',hl⟩:=ihm _ (hm ▸ hq.2) env1 N1 rfl hq.1
     exact⟨e,env',N',hq',.more hi h1 hq.2 hl⟩
    |ext j=>exact⟨.ext j,env1,N1,hq,.out hi (by simp) h1⟩
    |ret=>exact⟨.ret,env1,N1,hq,.out hi (by simp) h1⟩
  obtain⟨e,env',N',hq,hl⟩:=key _ env N rfl hI
  refine⟨e,env',N',hq,LB P a I μ e env' N',μ,hl,fun env N hl=> ?_⟩
  cases hl with
  |out hi hne h1=>
   refine Ao h1 fun e1 en s he=> ?_
   obtain⟨rfl,rfl,rfl⟩:=he
   cases e1 with
   |nxt=>exact absurd rfl hne
   |ext j=>exact⟨rfl,rfl,rfl⟩
   |ret=>exact⟨rfl,rfl,rfl⟩
  |more hi h1 hlt hl=>
   refine Ao h1 fun e1 en s he=> ?_
   obtain⟨rfl,rfl,rfl⟩:=he
   exact⟨hl,hlt⟩
 |ext id=>intro Q env N h;exact⟨_,_,_,h,rfl,rfl,rfl⟩
 |ret=>intro Q env N h;exact⟨_,_,_,h,rfl,rfl,rfl⟩
section fns
variable {P:Program}
def A49 (tmps:Array Value):ResultVar->Sem Value
 | .tmp t=>pure (tmps.getD t undef)
 | .cell p t=>do loadVar t (<- asAddr (tmps.getD p undef))
theorem Abj (fn:Func) (tmps:Array Value):results fn tmps=(fn.results.mapM (A49 tmps) >>= fun vs=>pure (if h:vs.size=1 then vs[0] else .tuple vs)):=rfl
theorem run_rs {n:Nat} {w0 w1 w:World} {W0 W:Rho} {N0 N:St} {env:Env} {a:Act} (hA:At n w0 W0 N0 w1 env N W a w) {rv:ResultVar} {r:Rs} {v:GV} (hr:A48 P rv=some r) (hv:r.ev env N=some v):
  ∃ u,((A49 a.tmps rv).run P w= .ok u w)/\vRel W v u:=by
 cases rv with
 |tmp t=>
  simp only[A48,Zaj.injEq] at hr
  subst hr
  simp only[Rs.ev,Zaj.injEq] at hv
  subst hv
  exact⟨_,rfl,hA.env t⟩
 |cell p t=>
  obtain⟨c,hc,rfl⟩:=Z2z.1 hr
  obtain⟨d,ti,hd,hi,hag,hn,hn1⟩:=Lo hc
  simp only[Rs.ev,Z1z] at hv
  obtain⟨q,hq,cs,hcs,r,hr,hv⟩:=hv
  have hp:=hA.env p
  cases hpv:env p<;>rw[hpv] at hq<;>simp only[ptrG,Zaj.injEq,reduceCtorEq] at hq
  subst hq
  rw[hpv] at hp
  obtain⟨L,hL,hpu⟩:=G3 hp
  obtain⟨u,hrun,hu⟩:=Aa9 (P:=P) hA.good hd hag hi hn hn1 hL hcs hr hv
  simp only[Act.eval] at hpu
  refine⟨u,?_,hu.v⟩
  simp only[A49,hpu,asAddr,Sem.run_bind,Sem.run_pure,Result.andThen_ok,hrun]
theorem A7w {n:Nat} {w0 w1 w:World} {W0 W:Rho} {N0 N:St} {env:Env} {a:Act} (hA:At n w0 W0 N0 w1 env N W a w):∀ {rvs:List ResultVar} {rs:List Rs} {vs:List GV},B6 (A48 P) rvs=some rs->B6 (Rs.ev env N) rs=some vs->
  ∃ us,((rvs.mapM (A49 a.tmps)).run P w= .ok us w)/\All2 (vRel W) vs us
 |[],rs,vs,h,hv=>by
  simp only[B6,Zaj.injEq] at h
  subst h
  simp only[B6,Zaj.injEq] at hv
  subst hv
  exact⟨[],rfl,.nil⟩
 |rv::rvs,rs,vs,h,hv=>by
  simp only[B6,Z1z,Z2z] at h
  obtain⟨r,hr,rs',hrs,rfl⟩:=h
  simp only[B6,Z1z,Z2z] at hv
  obtain⟨v,hv,vs',hvs,rfl⟩:=hv
  obtain⟨u,hu,hur⟩:=run_rs hA hr hv
  obtain⟨us,hus,hur'⟩:=A7w hA hrs hvs
  refine⟨u::us,?_,.cons hur hur'⟩
  rw[List.mapM_cons]
  simp only[Sem.run_bind,hu,Result.andThen_ok,hus,Sem.run_pure]
theorem A7x {n:Nat} {w0 w1 w:World} {W0 W:Rho} {N0 N:St} {env:Env} {a:Act} {fn:Func} {rs:List Rs} {v:GV} (hA:At n w0 W0 N0 w1 env N W a w) (hr:B6 (A48 P) fn.results.toList=some rs) (hv:resG env N rs=some v):
  ∃ u,(results fn a.tmps).run P w= .ok u w/\vRel W v u:=by
 have hm:∀ us,((fn.results.toList.mapM (A49 a.tmps)).run P w= .ok us w)->(results fn a.tmps).run P w= .ok (if h:us.toArray.size=1 then us.toArray[0] else .tuple us.toArray) w:=by
  intro us hus
  rw[Abj,<-Array.toArray_toList (xs:=fn.results),List.mapM_toArray,map_eq_pure_bind]
  simp only[Sem.run_bind]
  rw[hus]
  simp only[Result.andThen_ok,Sem.run_pure]
 have gen:∀ vs,B6 (Rs.ev env N) rs=some vs->vs.length≠1->vs.all Ew=true->v= .tup vs->∃ u,(results fn a.tmps).run P w= .ok u w/\vRel W v u:=by
  intro vs hvs h1 hnt hv
  obtain⟨us,hus,hur⟩:=A7w hA hr hvs
  refine⟨_,hm us hus,?_⟩
  have:us.toArray.size≠1:=by rw[Zb4,<-hur.length];exact h1
  rw[dif_neg this,hv]
  refine⟨us,rfl,hur.imp_mem fun x u hx hxu=> ?_⟩
  have hx2:=Zap.1 hnt x hx
  cases x with
  |tup _=>simp[Ew] at hx2
  |_=>exact hxu
 unfold resG at hv
 split at hv
 ·rename_i r
  obtain⟨us,hus,hur⟩:=A7w hA hr (vs:=[v]) (by simp[B6,hv])
  match us,hur,hus with
  |[u],.cons h1 _,hus=>exact⟨u,hm [u] hus,h1⟩
 ·rename_i hne
  obtain⟨vs,hvs,hv⟩:=Z1z.1 hv
  split at hv
  ·rename_i hnt
   injection hv with hv
   refine gen vs hvs ?_ hnt hv.symm
   have:=(Bd hvs).length
   rw[<- this]
   intro h1
   match rs,h1,hne with
   |[r],_,hne=>exact hne r rfl
  ·cases hv
theorem Add {md:Bool} {f:Nat} {F:Fn1} {args:List GV} {N:St} {Post:GV->St->Prop} (hF:Gg md P f=some F) (hl:args.length<=F.n)
  (h:vc P F.c (fun e env U=>(∀ j,e≠.ext j)/\N.length<=U.length/\∃ r,resG env U F.rs=some r/\Post r U) (env0 args) N):∃ r U,Ret P f args N r U/\Post r U:=by
 obtain⟨e,env',U,⟨hne,hlen,r,hr,hp⟩,hd⟩:=vc_det h
 refine⟨r,U,⟨?_,hlen,fun w0 W w us hG ha=> ?_⟩,hp⟩
 ·unfold Gg at hF
  obtain⟨fn,hfn,hF⟩:=Z1z.1 hF
  obtain⟨c,hc,hF⟩:=Z1z.1 hF
  split at hF
  ·cases hF
  ·rename_i hn
   simp[M4,hfn,hc,hn]
 ·unfold Gg at hF
  obtain⟨fn,hfn,hF⟩:=Z1z.1 hF
  obtain⟨c,hc,hF⟩:=Z1z.1 hF
  split at hF
  ·cases hF
  ·obtain⟨rs,hrs,hF⟩:=Z1z.1 hF
   obtain⟨d,hcd,rfl⟩:=Z2z.1 hF
   have hul:=ha.length
   refine calls_of_wp hfn hc (Aev hcd hd (n:=fn.ntmps) (w0:=w0) (w1:=w) (W0:=W) (N0:=N) (W:=W) ?_ fun e1 env1 U1 W' a' w' he hA=> ?_)
   ·refine {env:=fun t=> ?_,good:=hG,size:= ?_,defers:=rfl,len:=Zai _,sub:=fun _ _=>rfl,frame:=Frame.refl _ _ _}
    ·simp only[Act.eval,env0]
     rcases Zaf t args.length with h1|h1
     ·have e1:args[t]? =some args[t]:=Zaa h1
      obtain⟨u,hu,hr⟩:=ha.get e1
      have e2:(us.toArray++Zam (fn.ntmps - us.toArray.size) undef)[t]? =some u:=by
       rw[Array.getElem?_append_left (by simp;omega)]
       simpa using hu
      rw[Zbf,e1,Zan,e2]
      exact hr
     ·rw[Zbf,Zbv h1]
      have e2:(us.toArray++Zam (fn.ntmps - us.toArray.size) undef).getD t undef=undef:=by
       rw[Zan,Array.getElem?_append_right (by simp;omega)]
       rw[Za4]
       split<;>rfl
      rw[e2]
      exact⟨[],rfl,.nil⟩
    ·simp only[Array.size_append,Array.size_replicate,Zb4]
     simp only at hl
     omega
   ·obtain⟨rfl,rfl,rfl⟩:=he
    obtain⟨u,hu,hv⟩:=A7x hA hrs hr
    cases e1 with
    |nxt=>exact⟨hA.defers,u,hu,W',hA.sub,hv,hA.good,hA.frame⟩
    |ret=>exact⟨hA.defers,u,hu,W',hA.sub,hv,hA.good,hA.frame⟩
    |ext j=>exact absurd rfl (hne j)
theorem Ret.trunc {f:Nat} {args:List GV} {N U:St} {r:GV} (h:Ret P f args N r U) (hp:N <+: U) (hr:vLt N.length r):Ret P f args N r N:=by
 refine⟨h.1,Zai _,fun w0 W w us hG ha=>(h.2.2 w0 W w us hG ha).mono fun e w' he=> ?_⟩
 cases e with
 |panicked _=>exact he
 |outgrown=>exact he
 |returned u=>
  obtain⟨W',hs,hv,hG',hF⟩:=he
  obtain⟨ex,rfl⟩:=hp
  have hcl:∀(g:Nat) B,g<N.length->(N++ex)[g]? =some (some B)->B.lt N.length:=fun g B hg hB=>by
   rw[Zae hg] at hB
   exact hG.closed g B hB
  have hT:=hG'.trunc (n:=N.length) (by simp) hcl
  rw[List.take_left] at hT
  refine⟨Good.cut W' N.length,fun g hg=>by rw[Good.cut_lt hg,hs g hg],hv.back (n:=N.length) (fun g hg=>(Good.cut_lt hg).symm ▸ rfl) hr,hT,?_⟩
  exact .of hF.2.1 hF.2.2 fun g B L hB hL ho hlt=>hF.1 g B L (by
   have hg:g<N.length:=(Zad.1 hB).1
   rw[Zae hg];exact hB) (Good.cut_some hL).2 ho hlt
end fns
def Sa:Ex->Bool
 | .ext _=>false
 |_=>true
theorem A2e {e:Ex} (h:Sa e=true):∀ j,e≠.ext j:=by
 intro j hj
 subst hj
 cases h
section fns
variable {P:Program}
theorem Ab {md:Bool} {f:Nat} {F:Fn1} {args:List GV} {N:St} {r:GV} (hF:Gg md P f=some F) (hl:args.length<=F.n) (hr:vLt N.length r)
  (h:vc P F.c (fun e env U=>Sa e=true/\resG env U F.rs=some r/\N <+: U) (env0 args) N):Ret P f args N r N:=by
 obtain⟨r',U,hR,rfl,hp⟩:=Add (Post:=fun r' U=>r'=r/\N <+: U) hF hl (Ao h fun e env U he=>⟨A2e he.1,he.2.2.length_le,r,he.2.1,rfl,he.2.2⟩)
 exact hR.trunc hp hr
theorem Ap {md:Bool} {f:Nat} {F:Fn1} {args:List GV} {N:St} {Post:GV->St->Prop} (hF:Gg md P f=some F) (hl:args.length<=F.n)
  (h:vc P F.c (fun e env U=>Sa e=true/\∃ r,resG env U F.rs=some r/\N.length<=U.length/\Post r U) (env0 args) N):∃ r U,Ret P f args N r U/\Post r U:=
 Add (Post:=Post) hF hl (Ao h fun e env U he=>by
  obtain⟨ho,r,hr,hp,hq⟩:=he
  exact⟨A2e ho,hp,r,hr,hq⟩)
theorem Sb {md:Bool} {f:Nat} {F:Fn1} {args:List GV} {N:St} {Post:GV->St->Prop} (hF:Gg md P f=some F) (hl:args.length<=F.n)
  (h:vc P F.c (fun e env U=>Sa e=true/\∃ r,resG env U F.rs=some r/\N <+: U/\Post r U) (env0 args) N):∃ r U,Ret P f args N r U/\N <+: U/\Post r U:=by
 obtain⟨r',U,hR,hp⟩:=Add (Post:=fun r U=>N <+: U/\Post r U) hF hl (Ao h fun e env U he=>by
  obtain⟨ho,r,hr,hp,hq⟩:=he
  exact⟨A2e ho,hp.length_le,r,hr,hp,hq⟩)
 exact⟨r',U,hR,hp⟩
end fns
@[go_sem] def o (d:Nat) (i:Ins):Op1:=⟨some d,none,i⟩
@[go_sem] def og (d g:Nat) (b:Bool) (i:Ins):Op1:=⟨some d,some (g,b),i⟩
@[go_sem] def on (i:Ins):Op1:=⟨none,none,i⟩
@[go_sem] def ong (g:Nat) (b:Bool) (i:Ins):Op1:=⟨none,some (g,b),i⟩
@[go_sem] def oF (d k t:Nat):Op1:=o d (.fad k (.t t))
@[go_sem] def oM (d t:Nat):Op1:=o d (.mov (.t t))
@[go_sem] def oL (d t:Nat):Op1:=o d (.ld false 1 (.t t))
@[go_sem] def oW (d z t:Nat):Op1:=o d (.ld true z (.t t))
@[go_sem] def oI (d z a b:Nat):Op1:=o d (.iad z (.t a) (.t b))
@[go_sem] def oB (d:Nat) (p:BinOp) (a b:Nat):Op1:=o d (.bin p (.t a) (.t b))
@[go_sem] def oN (d t:Nat):Op1:=o d (.len false (.t t))
@[go_sem] def oK (d t:Nat):Op1:=o d (.nck (.t t))
@[go_sem] def oX (d t:Nat):Op1:=o d (.box (.t t))
@[go_sem] def oU (d t:Nat):Op1:=o d (.un .not (.t t))
@[go_sem] def oS (z a b:Nat):Op1:=on (.st z (.t a) (.t b))
@[go_sem] def oC (d f a:Nat):Op1:=o d (.call f [.t a])
@[go_sem] def oD (d f a b:Nat):Op1:=o d (.call f [.t a,.t b])
@[go_sem] def ki (n:Int):Opd:=.k (.int .i64 n)
@[go_sem] def kf:Opd:=.k (.bool false)
@[go_sem] def kt:Opd:=.k (.bool true)
@[go_sem] def oZ (d t:Nat) (n:Int):Op1:=o d (.bin .add (.t t) (.k (.int .i64 n)))
@[go_sem] def oV (d:Nat) (c:Opd):Op1:=o d (.mov c)
@[go_sem] def rg (l:List Op1) (c:Cd):Cd:=.seq (.reg l) c
@[go_sem] def z0:GV:=.int .i64 0
@[go_sem] def jF (d g k t:Nat):Op1:=og d g true (.fad k (.t t))
@[go_sem] def jM (d g t:Nat):Op1:=og d g true (.mov (.t t))
@[go_sem] def jL (d g t:Nat):Op1:=og d g true (.ld false 1 (.t t))
@[go_sem] def jW (d g z t:Nat):Op1:=og d g true (.ld true z (.t t))
@[go_sem] def jC (d g f a:Nat):Op1:=og d g true (.call f [.t a])
@[go_sem] def jD (d g f a b:Nat):Op1:=og d g true (.call f [.t a,.t b])
@[go_sem] def jB (d g:Nat) (p:BinOp) (a b:Nat):Op1:=og d g true (.bin p (.t a) (.t b))
@[go_sem] def jE (d g:Nat) (p:BinOp) (a:Nat) (n:Int):Op1:=og d g true (.bin p (.t a) (.k (.int .i64 n)))
@[go_sem] def jI (d g z a b:Nat):Op1:=og d g true (.iad z (.t a) (.t b))
@[go_sem] def jU (d g t:Nat):Op1:=og d g true (.un .not (.t t))
@[go_sem] def vF (d g k t:Nat):Op1:=og d g false (.fad k (.t t))
@[go_sem] def vM (d g t:Nat):Op1:=og d g false (.mov (.t t))
@[go_sem] def vL (d g t:Nat):Op1:=og d g false (.ld false 1 (.t t))
@[go_sem] def vW (d g z t:Nat):Op1:=og d g false (.ld true z (.t t))
@[go_sem] def vC (d g f a:Nat):Op1:=og d g false (.call f [.t a])
@[go_sem] def vD (d g f a b:Nat):Op1:=og d g false (.call f [.t a,.t b])
@[go_sem] def vB (d g:Nat) (p:BinOp) (a b:Nat):Op1:=og d g false (.bin p (.t a) (.t b))
@[go_sem] def vE (d g:Nat) (p:BinOp) (a:Nat) (n:Int):Op1:=og d g false (.bin p (.t a) (.k (.int .i64 n)))
@[go_sem] def vI (d g z a b:Nat):Op1:=og d g false (.iad z (.t a) (.t b))
@[go_sem] def vU (d g t:Nat):Op1:=og d g false (.un .not (.t t))
@[go_sem] def oE (d:Nat) (p:BinOp) (a:Nat) (n:Int):Op1:=o d (.bin p (.t a) (.k (.int .i64 n)))
@[go_sem] def oP (d c y:Nat):Op1:=o d (.pick (.t c) (.k (.bool true)) (.t y))
@[go_sem] def oQ (d c y:Nat):Op1:=o d (.pick (.t c) (.t y) (.k (.bool false)))
@[go_sem] def cn (c:Nat) (a b:Cd):Cd:=.cnd (.t c) a b
@[go_sem] def dw (l m:List Op1) (c:Cd):Cd:=.seq (.drw l m) c
@[go_sem] def s0:GV:=.str ⟨#[]⟩
@[go_sem] def oT:List Nat->List Opd
 |[]=>[]
 |a::l=>.t a::oT l
@[go_sem] def oH (n:Nat) (a:Cd):Cd:=.blk n (.lop a)
@[go_sem] def oJ (c n:Nat):Cd:=.cnd (.t c) .skip (.ext n)
@[go_sem] def oG (c:Nat) (a:Cd):Cd:=.cnd (.t c) a .skip
@[go_sem] def oR (d:Nat) (c:Opd):Cd:=.seq (.reg [o d (.mov c)]) .ret
abbrev gi (n:Int):GV:=.int .i64 n
theorem Sd {P:Program} {a:Cd} {Q:Ex->Env->St->Prop} {env:Env} {N:St} (I:Nat->Env->St->Prop) (n:Nat) (h0:I n env N)
  (hs:∀ k env N,I k env N->vc P a (fun e env' N'=>match e with| .nxt=>∃ k',k'<k/\I k' env' N'|e=>Q e env' N') env N):vc P (.lop a) Q env N:=by
 let J:Env->St->Nat->Prop:=fun env N k=>I k env N
 refine⟨fun env N=>∃ k,J env N k,fun env N=>leastOf (J env N),⟨n,h0⟩,fun env N hk=> ?_⟩
 refine Ao (hs (leastOf (J env N)) env N (Qb hk)) fun e env' N' he=> ?_
 cases e with
 |nxt=>
  obtain⟨k',hlt,hI⟩:=he
  exact⟨⟨k',hI⟩,Zbz (Zt (p:=J env' N') hI) hlt⟩
 |ext j=>exact he
 |ret=>exact he
abbrev Kt:=Env->St->Prop
def Dq (D:Bool) (v:Option GV) (P:Program) (r:List Op1) (K:Kt) (env:Env) (d:Option Nat) (N:St):Prop:=match v with
 |some v=>Ac D P r K (upo env d v) N
 |none=>False
def Fs (D:Bool) (N:St) (v:Option (GV×St)) (P:Program) (r:List Op1) (K:Kt) (env:Env) (d:Option Nat):Prop:=match v with
 |some v=>(D=true->N <+: v.2)/\Ac D P r K (upo env d v.1) v.2
 |none=>False
def A2f (D:Bool) (f:Nat) (args:List GV) (P:Program) (r:List Op1) (K:Kt) (env:Env) (d:Option Nat) (N:St):Prop:=∃ v N',Ret P f args N v N'/\(D=true->N <+: N')/\Ac D P r K (upo env d v) N'
def Agp (D:Bool) (v:GV) (args:List GV) (P:Program) (r:List Op1) (K:Kt) (env:Env) (d:Option Nat) (N:St):Prop:=match v with
 | .fn f caps=>A2f D f (args++caps.map fun c=>.ptr c.1 c.2) P r K env d N
 |_=>False
def Pe (D:Bool) (c:Option Bool) (b:Bool) (P:Program) (d:Option Nat) (i:Ins) (r:List Op1) (K:Kt) (env:Env) (N:St):Prop:=match c with
 |some c=>(c=b->Ac D P (⟨d,none,i⟩::r) K env N)/\(c= !b->Ac D P r K (upo env d (.tup [])) N)
 |none=>Ac D P r K (upo env d (.tup [])) N
def Se (c:Option Bool) (P:Program) (a b:Cd) (Q:Ex->Env->St->Prop) (env:Env) (N:St):Prop:=match c with
 |some c=>(c=true->vc P a Q env N)/\(c=false->vc P b Q env N)
 |none=>False
section eqs
variable {P:Program} {env:Env} {N:St} {K:Kt} {r:List Op1} {d:Option Nat} {D:Bool}
@[go_sem] theorem bindV_some {v:GV}:Dq D (some v) P r K env d N=Ac D P r K (upo env d v) N:=(rfl)
@[go_sem] theorem bindP_some {v:GV} {N':St}:Fs D N (some (v,N')) P r K env d=((D=true->N <+: N')/\Ac D P r K (upo env d v) N'):=(rfl)
@[go_sem] theorem bindF_fn {f:Nat} {caps:List (Nat×Nat)} {args:List GV}:Agp D (.fn f caps) args P r K env d N=A2f D f (args++caps.map fun c=>.ptr c.1 c.2) P r K env d N:=(rfl)
@[go_sem] theorem bindG_tt {b:Bool} {i:Ins}:Pe D (some b) b P d i r K env N=Ac D P (⟨d,none,i⟩::r) K env N:=by
 cases b<;>simp[Pe]
@[go_sem] theorem bindG_tf {i:Ins}:Pe D (some true) false P d i r K env N=Ac D P r K (upo env d (.tup [])) N:=by simp[Pe]
@[go_sem] theorem bindG_ft {i:Ins}:Pe D (some false) true P d i r K env N=Ac D P r K (upo env d (.tup [])) N:=by simp[Pe]
@[go_sem] theorem bindG_none {b:Bool} {i:Ins}:Pe D none b P d i r K env N=Ac D P r K (upo env d (.tup [])) N:=(rfl)
@[go_sem low] theorem bindG_true {c:Bool} {i:Ins}:Pe D (some c) true P d i r K env N=((c=true->Ac D P (⟨d,none,i⟩::r) K env N)/\(c=false->Ac D P r K (upo env d (.tup [])) N)):=(rfl)
@[go_sem low] theorem Agq {c:Bool} {i:Ins}:Pe D (some c) false P d i r K env N=((c=true->Ac D P r K (upo env d (.tup [])) N)/\(c=false->Ac D P (⟨d,none,i⟩::r) K env N)):=by
 simp only[Pe,Zcb]
 exact propext And.comm
@[go_sem] theorem Agr {a b:Cd} {Q:Ex->Env->St->Prop}:Se (some true) P a b Q env N=vc P a Q env N:=by simp[Se]
@[go_sem] theorem Afq {a b:Cd} {Q:Ex->Env->St->Prop}:Se (some false) P a b Q env N=vc P b Q env N:=by simp[Se]
@[go_sem low] theorem Ags {c:Bool} {a b:Cd} {Q:Ex->Env->St->Prop}:Se (some c) P a b Q env N=((c=true->vc P a Q env N)/\(c=false->vc P b Q env N)):=(rfl)
@[go_sem] theorem vcOps_nil:Ac D P [] K env N=K env N:=(rfl)
@[go_sem] theorem vcOps_g {g:Nat} {b:Bool} {i:Ins}:Ac D P (⟨d,some (g,b),i⟩::r) K env N=Pe D (env g).bit b P d i r K env N:=by
 cases hc:(env g).bit with
 |none=>
  have hw:Ae env (some (g,b))=false:=by simp[Ae,hc]
  simp[Ac,hw,Pe]
 |some c=>
  have hw:Ae env (some (g,b))=(c==b):=by simp[Ae,hc]
  have hn:Ae env none=true:=rfl
  cases c<;>cases b<;>simp[Ac,hw,hn,Pe]
theorem Be {i:Ins} (h:i.isCall=false):Ac D P (⟨d,none,i⟩::r) K env N=Fs D N (exec env N i) P r K env d:=by
 apply propext
 simp only[Ac,Ae,if_true]
 constructor
 ·rintro⟨v,N',hs,hp,hk⟩
  rw[Ge h hs];exact⟨hp,hk⟩
 ·intro hk
  cases he:exec env N i with
  |none=>rw[he] at hk;exact hk.elim
  |some q=>
   obtain⟨v,N'⟩:=q
   rw[he] at hk
   exact⟨v,N',(by cases i<;>first|exact he|cases h),hk.1,hk.2⟩
theorem Hv {v:Option GV}:Fs D N (v.map fun v=>(v,N)) P r K env d=Dq D v P r K env d N:=by cases v<;>simp[Fs,Dq]
@[go_sem] theorem vi_mov {x:Opd}:Ac D P (⟨d,none,.mov x⟩::r) K env N=Ac D P r K (upo env d (x.ev env)) N:=by rw[Be rfl];simp[exec,Fs]
@[go_sem] theorem vi_pick {c a b:Opd}:Ac D P (⟨d,none,.pick c a b⟩::r) K env N=Dq D ((c.ev env).bit.map fun t=>if t then a.ev env else b.ev env) P r K env d N:=by
 rw[Be rfl]
 simp only[exec]
 cases(c.ev env).bit<;>simp[Fs,Dq]
@[go_sem] theorem vi_new {cs:List GV}:Ac D P (⟨d,none,.new cs⟩::r) K env N=Ac D P r K (upo env d (.ptr N.length 0)) (N++[some (.row 1 cs)]):=by rw[Be rfl];simp[exec,Fs]
@[go_sem] theorem vi_box {x:Opd}:Ac D P (⟨d,none,.box x⟩::r) K env N=Fs D N (boxG N (x.ev env)) P r K env d:=Be rfl
@[go_sem] theorem box_agg {cs:List GV}:boxG N (.agg cs)=some (.ptr N.length 0,N++[some (.row 1 cs)]):=(rfl)
@[go_sem] theorem vi_build {z:List GV} {ps:List (Nat×Nat×Opd)}:Ac D P (⟨d,none,.build z ps⟩::r) K env N=Dq D ((Ht z (ps.map fun p=>(p.1,p.2.1,p.2.2.ev env))).map .agg) P r K env d N:=by
 rw[Be rfl]
 simp only[exec]
 cases(Ht z (ps.map fun p=>(p.1,p.2.1,p.2.2.ev env)))<;>simp[Fs,Dq]
@[go_sem] theorem vi_lit {z l:Nat} {ze:List GV} {ps:List (Nat×Nat×Opd)}:Ac D P (⟨d,none,.lit z l ze ps⟩::r) K env N=Fs D N ((Ht ze (ps.map fun p=>(p.1,p.2.1,p.2.2.ev env))).map fun cs=>(.sl N.length 0 l,N++[some (.row z cs)])) P r K env d:=Be rfl
def ldG (g:Bool) (n:Nat) (N:St):GV->Option GV
 | .ptr b off=>(rdB N b).bind fun cs=>(seg cs off n).bind (mkv g)
 |_=>none
@[go_sem] theorem vi_ld {g:Bool} {n:Nat} {a:Opd}:Ac D P (⟨d,none,.ld g n a⟩::r) K env N=Dq D (ldG g n N (a.ev env)) P r K env d N:=by
 rw[Be rfl]
 simp only[exec]
 cases a.ev env with
 |ptr b off=>
  simp only[ptrG,Zag,ldG]
  cases h2:rdB N b with
  |none=>rfl
  |some cs=>
   simp only[Zag]
   cases h3:seg cs off n with
   |none=>rfl
   |some r=>simp only[Zag,Hv]
 |_=>rfl
def stG (n:Nat) (N:St):GV->GV->Option (GV×St)
 | .ptr b off,x=>match N[b]? with
  |some (some (.row z cs))=>if off+n<=cs.length/\0<n/\x.cells.length=n then some (.tup [],N.set b (some (.row z (Al cs off x.cells)))) else none
  |_=>none
 |_,_=>none
@[go_sem] theorem vi_st {n:Nat} {a x:Opd}:Ac D P (⟨d,none,.st n a x⟩::r) K env N=Fs D N (stG n N (a.ev env) (x.ev env)) P r K env d:=by
 rw[Be rfl]
 simp only[exec]
 cases a.ev env<;>rfl
@[go_sem] theorem vi_nck {x:Opd}:Ac D P (⟨d,none,.nck x⟩::r) K env N=Dq D (nckG (x.ev env)) P r K env d N:=by rw[Be rfl];simp only[exec,Hv]
@[go_sem] theorem vi_bin {op:BinOp} {x y:Opd}:Ac D P (⟨d,none,.bin op x y⟩::r) K env N=Dq D (binG op (x.ev env) (y.ev env)) P r K env d N:=by rw[Be rfl];simp only[exec,Hv]
def eqbG (n:Bool) (x y:GV):Option GV:=x.bit.bind fun a=>y.bit.map fun b=>.bool (n ^^ (a==b))
@[go_sem] theorem vi_eqb {n:Bool} {x y:Opd}:Ac D P (⟨d,none,.eqb n x y⟩::r) K env N=Dq D (eqbG n (x.ev env) (y.ev env)) P r K env d N:=by
 rw[Be rfl]
 simp only[exec,eqbG]
 cases(x.ev env).bit with
 |none=>rfl
 |some a=>cases(y.ev env).bit<;>simp[Fs,Dq,eqbG]
def eqsG (n:Bool) (ks:List Sc):GV->GV->Option GV
 | .agg xs,.agg ys=>(Cz ks xs ys).map fun b=>.bool (n ^^ b)
 |_,_=>none
@[go_sem] theorem vi_eqs {n:Bool} {ks:List Sc} {x y:Opd}:Ac D P (⟨d,none,.eqs n ks x y⟩::r) K env N=Dq D (eqsG n ks (x.ev env) (y.ev env)) P r K env d N:=by
 rw[Be rfl]
 simp only[exec]
 cases x.ev env<;>first|rfl|skip
 cases y.ev env<;>first|rfl|skip
 simp only[eqsG]
 cases Cz ks _ _<;>simp[Fs,Dq,eqsG]
@[go_sem] theorem vi_un {op:UnOp} {x:Opd}:Ac D P (⟨d,none,.un op x⟩::r) K env N=Dq D (unG op (x.ev env)) P r K env d N:=by rw[Be rfl];simp only[exec,Hv]
def cviG (k:IntKind):GV->Option GV
 | .int _ n=>some (.int k (k.wrap n))
 |_=>none
@[go_sem] theorem vi_cvi {k:IntKind} {x:Opd}:Ac D P (⟨d,none,.cvi k x⟩::r) K env N=Dq D (cviG k (x.ev env)) P r K env d N:=by
 rw[Be rfl]
 simp only[exec]
 cases x.ev env<;>simp[Fs,Dq,cviG]
@[go_sem] theorem vi_mkf {f:Nat} {cs:List Opd}:Ac D P (⟨d,none,.mkf f cs⟩::r) K env N=Dq D ((cs.mapM fun c=>Ab6 (c.ev env)).map fun cs=>.fn f cs) P r K env d N:=by
 rw[Be rfl]
 simp only[exec]
 cases cs.mapM fun c=>Ab6 (c.ev env)<;>simp[Fs,Dq]
def mksG (z b:Nat) (ze:List GV) (N:St):Option Nat->Option Nat->Option (GV×St)
 |some n,some c=>if n=c/\n*b<=140737488355328 then some (.sl N.length 0 n,N++[some (.row z (reps n ze))]) else none
 |_,_=>none
@[go_sem] theorem vi_mks {z b:Nat} {ze:List GV} {n c:Opd}:Ac D P (⟨d,none,.mks z b ze n c⟩::r) K env N=Fs D N (mksG z b ze N (B9 (some (n.ev env))) (B9 (some (c.ev env)))) P r K env d:=by
 rw[Be rfl]
 simp only[exec]
 cases B9 (some (n.ev env)) with
 |none=>rfl
 |some n=>cases B9 (some (c.ev env))<;>rfl
@[go_sem] theorem vi_cut {z:Nat} {x:Opd} {lo hi:Option Opd}:Ac D P (⟨d,none,.cut z x lo hi⟩::r) K env N=Dq D (if zOk N z (x.ev env) then cutG z (x.ev env) (lo.map (·.ev env)) (hi.map (·.ev env)) else none) P r K env d N:=by
 rw[Be rfl]
 simp only[exec]
 split
 ·rw[Hv]
 ·rfl
def fadG (n:Nat):GV->Option GV
 | .ptr g off=>some (.ptr g (off+n))
 |_=>none
@[go_sem] theorem vi_fad {n:Nat} {a:Opd}:Ac D P (⟨d,none,.fad n a⟩::r) K env N=Dq D (fadG n (a.ev env)) P r K env d N:=by
 rw[Be rfl]
 simp only[exec]
 cases a.ev env<;>simp[Fs,Dq,fadG,ptrG]
def iadG (z:Nat):GV->Option Nat->Option GV
 | .sl g off len,some i=>if i<len then some (.ptr g (off+i*z)) else none
 |_,_=>none
@[go_sem] theorem vi_iad {z:Nat} {x i:Opd}:Ac D P (⟨d,none,.iad z x i⟩::r) K env N=Dq D (iadG z (x.ev env) (B9 (some (i.ev env)))) P r K env d N:=by
 rw[Be rfl]
 simp only[exec]
 cases x.ev env with
 |sl g off len=>
  simp only
  cases B9 (some (i.ev env)) with
  |none=>rfl
  |some n=>
   simp only[Zag,iadG]
   split<;>simp[Fs,Dq,iadG]
 |_=>rfl
def idxG:GV->Option Nat->Option GV
 | .str s,some i=>(s[i]?).map fun b=>.int .u8 b.toNat
 |_,_=>none
@[go_sem] theorem vi_idx {x i:Opd}:Ac D P (⟨d,none,.idx x i⟩::r) K env N=Dq D (idxG (x.ev env) (B9 (some (i.ev env)))) P r K env d N:=by
 rw[Be rfl]
 simp only[exec]
 cases x.ev env with
 |str s=>
  simp only
  cases B9 (some (i.ev env)) with
  |none=>rfl
  |some n=>
   simp only[Zag,idxG]
   cases s[n]? <;>simp[Fs,Dq,idxG]
 |_=>rfl
def extG (i:Nat):GV->Option GV
 | .tup vs=>match vs[i]? with
  |some (.tup _)=>none
  |v=>v
 |_=>none
@[go_sem] theorem vi_ext {i:Nat} {x:Opd}:Ac D P (⟨d,none,.ext i x⟩::r) K env N=Dq D (extG i (x.ev env)) P r K env d N:=by
 rw[Be rfl]
 simp only[exec]
 cases x.ev env with
 |tup vs=>
  simp only[extG]
  cases vs[i]? with
  |none=>rfl
  |some v=>cases v<;>simp[Fs,Dq,extG]
 |_=>rfl
@[go_sem] theorem vi_len {s:Bool} {x:Opd}:Ac D P (⟨d,none,.len s x⟩::r) K env N=Dq D ((lenG s (x.ev env)).map fun n=>.int .i64 n) P r K env d N:=by
 rw[Be rfl]
 simp only[exec]
 cases lenG s (x.ev env)<;>simp[Fs,Dq]
def appV (z b:Nat) (N:St) (s x:GV):Option (GV×St):=match x with
 | .str c=>if z=1 then appG z b N s c.size (c.data.toList.map fun c=>.int .u8 c.toNat) else none
 |x=>(elems N z x).bind fun r=>appG z b N s r.1 r.2
@[go_sem] theorem vi_app {z b:Nat} {ze:List GV} {s x:Opd}:Ac D P (⟨d,none,.app z b ze s x⟩::r) K env N=Fs D N (appV z b N (s.ev env) (x.ev env)) P r K env d:=by
 rw[Be rfl]
 rfl
def mmG (mx:Bool):GV->GV->Option GV
 | .int k a,.int _ b=>some (.int k (if mx then(if b>a then b else a) else(if b<a then b else a)))
 |_,_=>none
@[go_sem] theorem vi_clr {z:Nat} {ze:List GV} {x:Opd}:Ac D P (⟨d,none,.clr z ze x⟩::r) K env N=Fs D N (clrG z ze N (x.ev env)) P r K env d:=Be rfl
@[go_sem] theorem vi_mkm:Ac D P (⟨d,none,.mkm⟩::r) K env N=Ac D P r K (upo env d (.mp N.length)) (N++[some (.map [])]):=by rw[Be rfl];simp[exec,Fs]
@[go_sem] theorem vi_mlk {ks:List Sc} {z:GV} {ok:Bool} {m k:Opd}:Ac D P (⟨d,none,.mlk ks z ok m k⟩::r) K env N=Dq D (mlkG N ks z ok (m.ev env) (k.ev env)) P r K env d N:=by rw[Be rfl];simp only[exec,Hv]
@[go_sem] theorem vi_mup {ks:List Sc} {m k v:Opd}:Ac D P (⟨d,none,.mup ks m k v⟩::r) K env N=Fs D N (mupG N ks (m.ev env) (k.ev env) (v.ev env)) P r K env d:=Be rfl
@[go_sem] theorem vi_call {f:Nat} {xs:List Opd}:Ac D P (⟨d,none,.call f xs⟩::r) K env N=A2f D f (xs.map (·.ev env)) P r K env d N:=by
 simp only[Ac,Ae,if_true,A2f,Step]
@[go_sem] theorem vi_callv {x:Opd} {xs:List Opd}:Ac D P (⟨d,none,.callv x xs⟩::r) K env N=Agp D (x.ev env) (xs.map (·.ev env)) P r K env d N:=by
 apply propext
 simp only[Ac,Ae,if_true,Step,Agp]
 constructor
 ·rintro⟨v,N',⟨f,caps,hf,hR⟩,hp,hk⟩
  rw[hf]
  exact⟨v,N',hR,hp,hk⟩
 ·intro h
  split at h
  ·rename_i f caps hf
   obtain⟨v,N',hR,hp,hk⟩:=h
   exact⟨v,N',⟨f,caps,hf,hR⟩,hp,hk⟩
  ·exact h.elim
section code
variable {Q:Ex->Env->St->Prop}
@[go_sem] theorem vc_skip:vc P .skip Q env N=Q .nxt env N:=(rfl)
@[go_sem] theorem vc_reg {os:List Op1}:vc P (.reg os) Q env N=Ac false P os (Q .nxt) env N:=(rfl)
@[go_sem] theorem vc_drw {as_ bs:List Op1}:vc P (.drw as_ bs) Q env N=Ac true P as_ (Ac false P bs (Q .nxt)) env N:=(rfl)
@[go_sem] theorem vc_seq {a b:Cd}:vc P (.seq a b) Q env N=vc P a (fun e=>match e with
  | .nxt=>vc P b Q
  |e=>Q e) env N:=(rfl)
@[go_sem] theorem vc_cnd {c:Opd} {a b:Cd}:vc P (.cnd c a b) Q env N=Se (c.ev env).bit P a b Q env N:=by
 simp only[vc,Se]
 cases(c.ev env).bit<;>simp
@[go_sem] theorem Afr {id:Nat} {a:Cd}:vc P (.blk id a) Q env N=vc P a (fun e=>match e with
  | .ext j=>if j=id then Q .nxt else Q (.ext j)
  |e=>Q e) env N:=(rfl)
@[go_sem] theorem vc_ext {id:Nat}:vc P (.ext id) Q env N=Q (.ext id) env N:=(rfl)
@[go_sem] theorem vc_ret:vc P .ret Q env N=Q .ret env N:=(rfl)
end code
@[go_sem] theorem ev_t {n:Nat}:(Opd.t n).ev env=env n:=(rfl)
@[go_sem] theorem ev_k {v:GV}:(Opd.k v).ev env=v:=(rfl)
@[go_sem] theorem upo_some {d:Nat} {v:GV}:upo env (some d) v=up env d v:=(rfl)
@[go_sem] theorem upo_none {v:GV}:upo env none v=env:=(rfl)
@[go_sem] theorem up_at {d n:Nat} {v:GV}:up env d v n=if n=d then v else env n:=(rfl)
@[go_sem] theorem env0_at {args:List GV} {n:Nat}:env0 args n=args.getD n (.tup []):=(rfl)
theorem A6 {f:Nat} {args:List GV} {v:GV} (h:Ret P f args N v N) (k:Ac D P r K (upo env d v) N):A2f D f args P r K env d N:=⟨v,N,h,fun _=>Zal _,k⟩
theorem by_new {f:Nat} {args:List GV} {v:GV} {N':St} (h:Ret P f args N v N') (hp:N <+: N') (k:Ac D P r K (upo env d v) N'):A2f D f args P r K env d N:=⟨v,N',h,fun _=>hp,k⟩
theorem Ai {f:Nat} {args:List GV} {v:GV} {N':St} (h:Ret P f args N v N') (k:Ac false P r K (upo env d v) N'):A2f false f args P r K env d N:=⟨v,N',h,(fun h=>by cases h),k⟩
end eqs
def bk (N:St) (g:Nat):Option Blk:=(N[g]?).join
theorem Br {N:St} {g:Nat} {B:Blk}:bk N g=some B↔N[g]? =some (some B):=by
 unfold bk
 cases N[g]? with
 |none=>simp
 |some x=>simp
theorem Aah {N U:St} (h:N <+: U) {g:Nat} {B:Blk} (hb:bk N g=some B):bk U g=some B:=by
 rw[Br] at*
 obtain⟨r,rfl⟩:=h
 have:=(Zad.1 hb).1
 rw[Zae this];exact hb
def fx:Blk->Option (Nat×List GV)
 | .ice z cs=>some (z,cs)
 | .ro z cs=>some (z,cs)
 |_=>none
def fxb (N:St) (g:Nat):Option (Nat×List GV):=(bk N g).bind fx
def Keep (N U:St):Prop:=∀ g q,fxb N g=some q->fxb U g=some q
theorem Keep.pre {N U:St} (h:N <+: U):Keep N U:=fun g q hq=>by
 unfold fxb at*
 obtain⟨B,hB,hf⟩:=Z1z.1 hq
 rw[Aah h hB];exact hf
theorem Agt {N:St} {g:Nat} {q:Nat×List GV} (h:fxb N g=some q):rdB N g=some q.2:=by
 unfold fxb at h
 obtain⟨B,hB,hf⟩:=Z1z.1 h
 unfold rdB
 rw[Br.1 hB]
 cases B<;>simp only[fx,Zaj.injEq,reduceCtorEq] at hf<;>subst hf<;>rfl
structure Ek (Y:Type) where
 z:Nat
 R:St->Y->List GV->Prop
 len:∀ {N x cs},R N x cs->cs.length=z
 mono:∀ {N U x cs},R N x cs->Keep N U->R U x cs
def Ek.int (k:IntKind):Ek Int:=⟨1,fun _ n cs=>cs=[.int k n],fun h=>by rw[h];rfl,fun h _=>h⟩
def Ek.bool:Ek Bool:=⟨1,fun _ b cs=>cs=[.bool b],fun h=>by rw[h];rfl,fun h _=>h⟩
def Ek.str:Ek ByteArray:=⟨1,fun _ s cs=>cs=[.str s],fun h=>by rw[h];rfl,fun h _=>h⟩
def Sl {Y:Type} (d:Ek Y) (N:St) (v:GV) (xs:List Y):Prop:=
 (xs=[]/\(v= .nilS∨v= .emp))∨∃ g off cs,v= .sl g off xs.length/\fxb N g=some (d.z,cs)/\off+xs.length*d.z<=cs.length/\∀(i:Nat) x,xs[i]? =some x->d.R N x ((cs.drop (off+i*d.z)).take d.z)
theorem Sl.mono {Y:Type} {d:Ek Y} {N U:St} {v:GV} {xs:List Y} (h:Sl d N v xs) (hk:Keep N U):Sl d U v xs:=by
 rcases h with h|⟨g,off,cs,h1,h2,h3,h4⟩
 ·exact .inl h
 ·exact .inr ⟨g,off,cs,h1,hk _ _ h2,h3,fun i x hx=>d.mono (h4 i x hx) hk⟩
def Ek.slice {Y:Type} (d:Ek Y):Ek (List Y):=⟨1,fun N xs cs=>∃ v,cs=[v]/\Sl d N v xs,fun⟨v,h,_⟩=>by rw[h];rfl,fun⟨v,h,hs⟩ hk=>⟨v,h,hs.mono hk⟩⟩
def Ek.pair {Y β:Type} (a:Ek Y) (b:Ek β):Ek (Y×β):=⟨a.z+b.z,fun N x cs=>∃ c0 c1,cs=c0++c1/\a.R N x.1 c0/\b.R N x.2 c1,
 fun⟨c0,c1,h,h0,h1⟩=>by rw[h,Zax,a.len h0,b.len h1],fun⟨c0,c1,h,h0,h1⟩ hk=>⟨c0,c1,h,a.mono h0 hk,b.mono h1 hk⟩⟩
def Ek.iso {Y β:Type} (a:Ek Y) (f:β->Y):Ek β:=⟨a.z,fun N x cs=>a.R N (f x) cs,a.len,a.mono⟩
section opens
variable {w:World} {W:Rho} {N:St}
theorem Good.nil (w:World) (hl:Laid w):Good w (fun _=>none) [] w:=
 {lay:=hl,below:=⟨rfl,rfl,rfl,Zai _,fun _ _=>rfl⟩,fresh:=fun _ _=>rfl,loc:=fun g L h=>(by cases h),old:=fun g L h=>(by cases h),closed:=fun g B h=>(by simp at h),mem:=fun g B L h=>(by simp at h),inj:=fun g g' B B' L L' h=>(by simp at h)}
theorem Good.see {w0:World} (h:Good w0 W N w) {z:Nat} {cs:List GV} {a:Addr} (hb:a.block<w0.heap.size) (hm:∀(j:Nat) (c:GV),cs[j]? =some c->∃ v,w.cell? (a.add j)=some v/\sRel W c v):
  Good w0 (Good.put W N.length ⟨a,0,z,false⟩) (N++[some (.ro z cs)]) w:=by
 have hle:Le W (Good.put W N.length ⟨a,0,z,false⟩):=Good.put_le (h.fresh _ (Zai _))
 have hlt:∀ c∈cs,sLt N.length c:=fun c hc=>by
  obtain⟨j,hj⟩:=List.getElem?_of_mem hc
  obtain⟨v,_,hr⟩:=hm j c hj
  exact hr.lt h.fresh
 exact {
     lay:=h.lay,below:=h.below,fresh:=fun g hg=>by
      simp only[Zax,Za9,Zbw] at hg
      unfold Good.put
      rw[if_neg (by omega)]
      exact h.fresh g (by omega)
     loc:=fun g L hL ho=>by
      rcases G1 hL with⟨_,rfl⟩|⟨_,hL⟩
      ·cases ho
      ·exact h.loc g L hL ho
     old:=fun g L hL ho=>by
      rcases G1 hL with⟨_,rfl⟩|⟨_,hL⟩
      ·exact hb
      ·exact h.old g L hL ho
     closed:=fun g B hB=>by
      simp only[Zax,Za9,Zbw]
      rcases Kj hB with⟨_,hB⟩|⟨_,hx⟩
      ·exact(h.closed g B hB).mono (by omega)
      ·injection hx with hx;subst hx
       exact fun c hc=>(hlt c hc).mono (by omega)
     mem:=fun g B L hB hL=>by
      rcases Kj hB with⟨hg,hB⟩|⟨hg,hx⟩
      ·rcases G1 hL with⟨e,_⟩|⟨_,hL⟩
       ·omega
       ·exact Good.holds_mono hle (h.mem g B L hB hL)
      ·injection hx with hx;subst hx
       rcases G1 hL with⟨_,rfl⟩|⟨e,_⟩
       ·refine⟨rfl,fun j c hc=> ?_⟩
        obtain⟨v,hv,hr⟩:=hm j c hc
        exact⟨v,hv,hr.mono hle⟩
       ·exact absurd hg e
     inj:=fun g g' B B' L L' hB hB' hL hL' ho ho' he=>by
      rcases G1 hL with⟨_,rfl⟩|⟨e,hL⟩
      ·cases ho
      ·rcases G1 hL' with⟨_,rfl⟩|⟨e',hL'⟩
       ·cases ho'
       ·rcases Kj hB with⟨_,hB⟩|⟨hg,_⟩
        ·rcases Kj hB' with⟨_,hB'⟩|⟨hg',_⟩
         ·exact h.inj g g' B B' L L' hB hB' hL hL' ho ho' he
         ·exact absurd hg' e'
        ·exact absurd hg e}
def Opens {Y:Type} (P:Program) (t:TypeId) (d:Ek Y) (wf:Y->Prop):Prop:=
 P.cellsOf t=d.z/\∀(H:Type) (enc:TypeId×Value->H) (w:World) (base:Nat) (spare:Nat->Bool) (held:Bool) (fuel:Nat) (cs:List Value) (x:DataW H×List MemPlace),
  DataW.trod enc P w base spare held fuel t cs=some x->∀(W:Rho) (N:St),Good w W N w->∃(a:Y) (gs:List GV) (W':Rho) (N':St),Good w W' N' w/\N <+: N'/\Le W W'/\All2 (sRel W') gs cs/\d.R N' a gs/\wf a
def I64 (n:Int):Prop:= -9223372036854775808<=n/\n<=9223372036854775807
theorem opens_i64 {P:Program} {t:TypeId} (ht:P.underlying t=some (.int .i64)) (hc:P.cellsOf t=1):Opens P t (Ek.int .i64) I64:=
 ⟨hc,fun _ _ _ _ _ _ _ _ _ h W N hG=>by
  obtain⟨n,rfl,_,hw⟩:=DataW.trod_int ht h
  refine⟨n,[.int .i64 n],W,N,hG,Zal _,Le.refl _,.cons rfl .nil,rfl,?_⟩
  simp only[Lit.wf,Zas,decide_eq_true_eq] at hw
  exact hw⟩
theorem opens_bool {P:Program} {t:TypeId} (ht:P.underlying t=some .bool) (hc:P.cellsOf t=1):Opens P t Ek.bool (fun _=>True):=
 ⟨hc,fun _ _ _ _ _ _ _ _ _ h W N hG=>by
  obtain⟨n,rfl,_⟩:=DataW.trod_bool ht h
  exact⟨n,[.bool n],W,N,hG,Zal _,Le.refl _,.cons rfl .nil,rfl,trivial⟩⟩
theorem opens_str {P:Program} {t:TypeId} (ht:P.underlying t=some .string) (hc:P.cellsOf t=1):Opens P t Ek.str (fun s=>s.size<=9223372036854775807):=
 ⟨hc,fun _ _ _ _ _ _ _ _ _ h W N hG=>by
  obtain⟨n,rfl,_,hw⟩:=DataW.trod_string ht h
  exact⟨n,[.str n],W,N,hG,Zal _,Le.refl _,.cons rfl .nil,rfl,by unfold maxLen at hw;omega⟩⟩
theorem Sf {P:Program} {e:TypeId} {Y:Type} {d:Ek Y} {wf:Y->Prop} (hd:Opens P e d wf) {H:Type} {enc:TypeId×Value->H} {w:World} {base:Nat} {spare:Nat->Bool} {held:Bool} {fuel:Nat}:
  ∀(css:List (List Value)),(∀ c∈css,∃ x,DataW.trod enc P w base spare held fuel e c=some x)->∀(W:Rho) (N:St),Good w W N w->
  ∃(as_:List Y) (gs:List GV) (W':Rho) (N':St),as_.length=css.length/\Good w W' N' w/\N <+: N'/\Le W W'/\All2 (sRel W') gs css.flatten/\gs.length=as_.length*d.z/\(∀ (i:Nat) a,as_[i]? =some a->d.R N' a ((gs.drop (i*d.z)).take d.z))/\∀ a∈as_,wf a
 |[],_,W,N,hG=>⟨[],[],W,N,rfl,hG,Zal _,Le.refl _,.nil,by simp,fun i a h=>by simp at h,by simp⟩
 |c::css,h,W,N,hG=>by
  obtain⟨x,hx⟩:=h c Za3
  obtain⟨a,g0,W1,N1,hG1,hp1,hl1,hr1,hR1,hw1⟩:=hd.2 H enc w base spare held fuel c x hx W N hG
  obtain⟨as_,gs,W2,N2,hl,hG2,hp2,hl2,hr2,hgl,hR2,hw2⟩:=Sf hd css (fun c hc=>h c (Zaz _ hc)) W1 N1 hG1
  refine⟨a::as_,g0++gs,W2,N2,by simp[hl],hG2,hp1.trans hp2,hl1.trans hl2,?_,?_,fun i b hb=> ?_,fun b hb=> ?_⟩
  ·rw[Za1]
   exact(hr1.imp fun _ _ h=>h.mono hl2).append hr2
  ·rw[Zax,hgl,d.len hR1,Za9,Za5];omega
  ·have hg0:=d.len hR1
   cases i with
   |zero=>
    simp only[Zah,Zaj.injEq] at hb
    subst hb
    rw[Zbr,Zbc,Zat (by omega),Zav (by omega)]
    exact d.mono hR1 (.pre hp2)
   |succ i=>
    simp only[Za2] at hb
    have e:(g0++gs).drop ((i+1)*d.z)=gs.drop (i*d.z):=by
     rw[Za5,Zbi,Zb8,<-hg0,Za6]
     simp
    rw[e]
    exact hR2 i b hb
  ·rcases Zbb.1 hb with rfl|hb
   ·exact hw1
   ·exact hw2 b hb
theorem opens_slice {P:Program} {t e:TypeId} {Y:Type} {d:Ek Y} {wf:Y->Prop} (ht:P.underlying t=some (.slice e)) (hc:P.cellsOf t=1) (hz:0<d.z) (hd:Opens P e d wf):Opens P t (Ek.slice d) (fun xs=>xs.length<=9223372036854775807/\∀ x∈xs,wf x):=by
 refine⟨hc,fun H enc w base spare held fuel cs x h W N hG=> ?_⟩
 rcases DataW.trod_slice ht h with⟨rfl,_⟩|⟨a,len,cap,elems,rest,m,_,rfl,_,_,hl,hm,hlen,hel,_,_⟩
 ·exact⟨[],[.nilS],W,N,hG,Zal _,Le.refl _,.cons rfl .nil,⟨.nilS,rfl,.inl ⟨rfl,.inl rfl⟩⟩,by simp,by simp⟩
 ·by_cases h0:len=0
  ·subst h0
   exact⟨[],[.emp],W,N,hG,Zal _,Le.refl _,.cons ⟨some a,cap,rfl⟩ .nil,⟨.emp,rfl,.inl ⟨rfl,.inr rfl⟩⟩,by simp,by simp⟩
  ·have each:∀ i:Fin len,∃ c:List Value,(∃ y,DataW.trod enc P w base spare held m e c=some y)/\c.length=d.z/\∀(j:Nat) u,c[j]? =some u->w.cell? (a.add (i.val*d.z+j))=some u:=by
    intro i
    have h1:=hel i.val i.isLt
    rw[Zaa (by omega:i.val<elems.length),hd.1,Z1z] at h1
    obtain⟨c,hcs,hy⟩:=h1
    obtain⟨_,hcl,hcell⟩:=World.cells?_some hcs
    refine⟨c,⟨_,hy⟩,hcl,fun j u hu=> ?_⟩
    have hj:j<d.z:=by
     have:=(Zad.1 hu).1
     omega
    have h2:=hcell j hj
    rw[hu] at h2
    rw[<- h2]
    unfold Addr.add
    by_cases h3:i.val*d.z=0<;>by_cases h4:j=0<;>simp[h3,h4,Nat.add_assoc]
   obtain⟨f,hf⟩:=Classical.axiomOfChoice each
   obtain⟨as_,gs,W1,N1,hasl,hG1,hp,hle,hr,hgl,hR,hw⟩:=Sf hd (Zch f) (fun c hc=>by obtain⟨i,rfl⟩:=(Zcf).1 hc;exact(hf i).1) W N hG
   have flat:∀(css:List (List Value)) (k:Nat),(∀ c∈css,c.length=d.z)->(∀ (i:Nat) c,css[i]? =some c->∀(j:Nat) u,c[j]? =some u->w.cell? (a.add ((k+i)*d.z+j))=some u)->∀(j:Nat) u,css.flatten[j]? =some u->w.cell? (a.add (k*d.z+j))=some u:=by
    intro css
    induction css with
    |nil=>intro k _ _ j u hu;simp at hu
    |cons c css ih=>
     intro k hl hc j u hu
     have hcl:=hl c Za3
     rw[Za1] at hu
     by_cases hj:j<c.length
     ·rw[Zae hj] at hu
      exact hc 0 c rfl j u hu
     ·rw[List.getElem?_append_right (by omega)] at hu
      have:=ih (k+1) (fun c h=>hl c (Zaz _ h)) (fun i c h j u hu=>by rw[show k+1+i=k+(i+1) by omega];exact hc (i+1) c (by simpa using h) j u hu) (j - c.length) u hu
      rw[Za5,Zbi] at this
      rw[show k*d.z+d.z+(j - c.length)=k*d.z+j by omega] at this
      exact this
   have hcell:∀(j:Nat) u,(Zch f).flatten[j]? =some u->w.cell? (a.add j)=some u:=fun j u hu=>by
    have:=flat (Zch f) 0 (fun c hc=>by obtain⟨i,rfl⟩:=(Zcf).1 hc;exact(hf i).2.1) (fun i c hc j u hu=>by
     obtain⟨hi,rfl⟩:=Zad.1 hc
     simp only[List.length_ofFn] at hi
     simp only[List.getElem_ofFn] at hu
     have:=(hf ⟨i,hi⟩).2.2 j u hu
     rw[Zbk]
     exact this) j u hu
    rw[Zbr,Zbk] at this
    exact this
   have hasl':as_.length=len:=by rw[hasl];simp
   have hblk:a.block<w.heap.size:=by
    have hlt:0<gs.length:=by rw[hgl,hasl'];exact Nat.mul_pos (by omega) hz
    obtain⟨u,hu,_⟩:=hr.get (Zaa hlt)
    have:=hcell 0 u hu
    unfold World.cell? at this
    rw[A3w] at this
    cases hb:w.heap[a.block]? with
    |none=>rw[hb] at this;cases this
    |some o=>exact(Zac.1 hb).1
   have hG2:=hG1.see (z:=d.z) (cs:=gs) hblk (fun j c hc=>by
    obtain⟨u,hu,hs⟩:=hr.get hc
    exact⟨u,hcell j u hu,hs⟩)
   refine⟨as_,[.sl N1.length 0 as_.length],_,_,hG2,hp.trans (Zbd _ _),hle.trans (Good.put_le (hG1.fresh _ (Zai _))),.cons ⟨_,Acs,a,cap,by rw[hasl'],by omega,.inr ⟨by simp[Addr.add],fun h=>by cases h⟩⟩ .nil,⟨_,rfl,.inr ⟨N1.length,0,gs,rfl,?_,by rw[hgl];omega,fun i x hx=> ?_⟩⟩,by rw[hasl'];unfold maxLen at hm;omega,hw⟩
   ·unfold fxb
    rw[show bk (N1++[some (Blk.ro d.z gs)]) N1.length=some (.ro d.z gs) from Br.2 (by simp)]
    rfl
   ·rw[Zbk]
    exact d.mono (hR i x hx) (.pre (Zbd _ _))
def Part {Y:Type} (P:Program) (fs:Array Field) (off n:Nat) (d:Ek Y) (wf:Y->Prop):Prop:=
 ∀(H:Type) (enc:TypeId×Value->H) (w:World) (base:Nat) (spare:Nat->Bool) (held:Bool) (fuel:Nat) (cs:List Value),
  (∀ (i:Nat) (f:Field),fs[i]? =some f->∃ x,DataW.trod enc P w base spare held fuel f.type ((cs.drop f.offset).take (P.cellsOf f.type))=some x)->
  ∀(W:Rho) (N:St),Good w W N w->∃(a:Y) (gs:List GV) (W':Rho) (N':St),Good w W' N' w/\N <+: N'/\Le W W'/\All2 (sRel W') gs ((cs.drop off).take n)/\d.R N' a gs/\wf a
theorem part_one {P:Program} {fs:Array Field} {off n:Nat} {Y:Type} {d:Ek Y} {wf:Y->Prop} (i:Nat) (t:TypeId) (h:∃ f,fs[i]? =some f/\f.type=t/\f.offset=off) (hn:d.z=n) (hd:Opens P t d wf):Part P fs off n d wf:=by
 obtain⟨f,hf,rfl,rfl⟩:=h
 intro H enc w base spare held fuel cs hall W N hG
 obtain⟨x,hx⟩:=hall i f hf
 rw[hd.1,hn] at hx
 exact hd.2 _ _ _ _ _ _ _ _ _ hx W N hG
theorem part_pair {P:Program} {fs:Array Field} {off n m:Nat} {Y β:Type} {a:Ek Y} {b:Ek β} {wa:Y->Prop} {wb:β->Prop} (ha:Part P fs off n a wa) (hb:Part P fs (off+n) m b wb):
  Part P fs off (n+m) (Ek.pair a b) (fun x=>wa x.1/\wb x.2):=by
 intro H enc w base spare held fuel cs hall W N hG
 obtain⟨x,g1,W1,N1,hG1,hp1,hl1,hr1,hR1,hw1⟩:=ha H enc w base spare held fuel cs hall W N hG
 obtain⟨y,g2,W2,N2,hG2,hp2,hl2,hr2,hR2,hw2⟩:=hb H enc w base spare held fuel cs hall W1 N1 hG1
 refine⟨(x,y),g1++g2,W2,N2,hG2,hp1.trans hp2,hl1.trans hl2,?_,⟨g1,g2,rfl,a.mono hR1 (.pre hp2),hR2⟩,hw1,hw2⟩
 rw[Zcg,Zcc]
 exact(hr1.imp fun _ _ h=>h.mono hl2).append hr2
theorem opens_struct {P:Program} {t:TypeId} {fs:Array Field} {n:Nat} {Y:Type} {d:Ek Y} {wf:Y->Prop} (ht:P.underlying t=some (.struct fs)) (hc:P.cellsOf t=n) (hn:d.z=n) (hp:Part P fs 0 n d wf):Opens P t d wf:=by
 refine⟨by rw[hc,hn],fun H enc w base spare held fuel cs x h W N hG=> ?_⟩
 obtain⟨xs,m,rfl,_,hl,hxl,hall⟩:=DataW.trod_struct ht h
 have:=hp H enc w base spare held m cs (fun i f hf=>by
  rw[hall i f hf,Zaa (by rw[hxl];exact(Zac.1 hf).1)]
  exact⟨_,rfl⟩) W N hG
 rw[Zbc,Zav (by omega)] at this
 exact this
theorem opens_iso {P:Program} {t:TypeId} {Y β:Type} {d:Ek Y} {wf:Y->Prop} (f:β->Y) (g:Y->β) (hfg:∀ a,f (g a)=a) (h:Opens P t d wf):Opens P t (Ek.iso d f) (fun b=>wf (f b)):=
 ⟨h.1,fun H enc w base spare held fuel cs x hx W N hG=>by
  obtain⟨a,gs,W',N',h1,h2,h3,h4,h5,h6⟩:=h.2 H enc w base spare held fuel cs x hx W N hG
  exact⟨g a,gs,W',N',h1,h2,h3,h4,show d.R N' (f (g a)) gs by rw[hfg];exact h5,show wf (f (g a)) by rw[hfg];exact h6⟩⟩
theorem opens_mono {P:Program} {t:TypeId} {Y:Type} {d:Ek Y} {wf wf':Y->Prop} (h:Opens P t d wf) (hw:∀ a,wf a->wf' a):Opens P t d wf':=
 ⟨h.1,fun H enc w base spare held fuel cs x hx W N hG=>by
  obtain⟨a,gs,W',N',h1,h2,h3,h4,h5,h6⟩:=h.2 H enc w base spare held fuel cs x hx W N hG
  exact⟨a,gs,W',N',h1,h2,h3,h4,h5,hw a h6⟩⟩
theorem Ret.row {P:Program} {f:Nat} {args:List GV} {U:St} (h:Ret P f args N (.bool true) U) (hG:Good w W N w) {us:List Value} (ha:All2 (vRel W) args us):Calls P f us.toArray w fun e w'=>e= .returned (.bool true)/\Below w.heap.size w w':=
 (h.2.2 w W w us hG ha).mono fun e w' he=>by
  cases e with
  |returned u=>
   obtain⟨W',_,hv,hG',_⟩:=he
   exact⟨by rw[J8 hv],hG'.below⟩
  |panicked _=>exact he.elim
  |outgrown=>exact he.elim
end opens
@[go_sem] theorem isOut_ret:Sa .ret=true:=(rfl)
@[go_sem] theorem isOut_nxt:Sa .nxt=true:=(rfl)
@[go_sem] theorem resG_one {env:Env} {N:St} {r:Rs}:resG env N [r]=r.ev env N:=(rfl)
@[go_sem] theorem rs_t {env:Env} {N:St} {n:Nat}:(Rs.t n).ev env N=some (env n):=(rfl)
@[go_sem] theorem bit_bool {b:Bool}:(GV.bool b).bit=some b:=(rfl)
@[go_sem] theorem bin_add {k:IntKind} {a b:Int}:binG .add (.int k a) (.int k b)=some (.int k (k.wrap (a+b))):=by simp[binG,intG]
@[go_sem] theorem bin_sub {k:IntKind} {a b:Int}:binG .sub (.int k a) (.int k b)=some (.int k (k.wrap (a - b))):=by simp[binG,intG]
@[go_sem] theorem bin_mul {k:IntKind} {a b:Int}:binG .mul (.int k a) (.int k b)=some (.int k (k.wrap (a*b))):=by simp[binG,intG]
@[go_sem] theorem bin_quo {k:IntKind} {a b:Int}:binG .quo (.int k a) (.int k b)=if b=0 then none else some (.int k (k.wrap (a.tdiv b))):=by simp[binG,intG]
@[go_sem] theorem bin_rem {k:IntKind} {a b:Int}:binG .rem (.int k a) (.int k b)=if b=0 then none else some (.int k (a.tmod b)):=by simp[binG,intG]
@[go_sem] theorem bin_eql {k:IntKind} {a b:Int}:binG .eql (.int k a) (.int k b)=some (.bool (a==b)):=by simp[binG,intG]
@[go_sem] theorem bin_neq {k:IntKind} {a b:Int}:binG .neq (.int k a) (.int k b)=some (.bool (a != b)):=by simp[binG,intG]
@[go_sem] theorem bin_lss {k:IntKind} {a b:Int}:binG .lss (.int k a) (.int k b)=some (.bool (decide (a<b))):=by simp[binG,intG]
@[go_sem] theorem bin_leq {k:IntKind} {a b:Int}:binG .leq (.int k a) (.int k b)=some (.bool (decide (a<=b))):=by simp[binG,intG]
@[go_sem] theorem bin_gtr {k:IntKind} {a b:Int}:binG .gtr (.int k a) (.int k b)=some (.bool (decide (b<a))):=by simp[binG,intG]
@[go_sem] theorem bin_geq {k:IntKind} {a b:Int}:binG .geq (.int k a) (.int k b)=some (.bool (decide (b<=a))):=by simp[binG,intG]
@[go_sem] theorem bin_shl {k k':IntKind} {a b:Int}:binG .shl (.int k a) (.int k' b)=Ev .shl k a b:=(rfl)
@[go_sem] theorem bin_shr {k k':IntKind} {a b:Int}:binG .shr (.int k a) (.int k' b)=Ev .shr k a b:=(rfl)
@[go_sem] theorem bin_sadd {a b:ByteArray}:binG .add (.str a) (.str b)=if a.size+b.size<=9223372036854775807 then some (.str (a++b)) else none:=(rfl)
theorem Hw (a b:ByteArray):(a.toList==b.toList)=decide (a=b):=by
 by_cases h:a=b
 ·subst h;simp
 ·have:¬ a.toList=b.toList:=fun e=>by
   rw[ByteArray.toList_eq,ByteArray.toList_eq] at e
   exact h (ByteArray.ext (Array.ext' e))
  rw[decide_eq_false h]
  exact beq_eq_false_iff_ne.2 this
@[go_sem] theorem Aew {a b:ByteArray}:binG .eql (.str a) (.str b)=some (.bool (decide (a=b))):=by simp only[binG,strG,Hw]
@[go_sem] theorem Aex {a b:ByteArray}:binG .neq (.str a) (.str b)=some (.bool !(decide (a=b))):=by simp only[binG,strG,Hw]
@[go_sem] theorem un_not {b:Bool}:unG .not (.bool b)=some (.bool !b):=(rfl)
theorem A1 {k:IntKind} {n:Nat}:B9 (some (.int k (n:Int)))=some n:=by simp[B9]
attribute [go_sem] A1
attribute [go_sem] Zbp Zag
@[go_sem] theorem mm_int {m:Bool} {k k':IntKind} {a b:Int}:mmG m (.int k a) (.int k' b)=some (.int k (if m then(if b>a then b else a) else(if b<a then b else a))):=(rfl)
@[go_sem] theorem nck_ptr {g off:Nat}:nckG (.ptr g off)=some (.ptr g off):=(rfl)
@[go_sem] theorem fad_ptr {n g off:Nat}:fadG n (.ptr g off)=some (.ptr g (off+n)):=(rfl)
@[go_sem] theorem fillG_nil {cs:List GV}:Ht cs []=some cs:=(rfl)
attribute [go_sem] List.map_nil List.map_cons
attribute [go_sem] List.getD_cons_zero List.getD_cons_succ Zal Bool.true_and Zcd Bool.and_true Bool.and_false and_self implies_true Zbh true_and and_true false_implies true_implies Bool.not_true Zcb
def Rd (N:St) (v:GV) (l:List Int):Prop:=
 (l=[]/\(v= .nilS∨v= .emp))∨∃ g off cs,v= .sl g off l.length/\rdB N g=some cs/\off+l.length<=cs.length/\∀(i:Nat) x,l[i]? =some x->cs[off+i]? =some (gi x)
theorem Aq {N U:St} (h:N <+: U) {g:Nat} {cs:List GV} (hr:rdB N g=some cs):rdB U g=some cs:=by
 unfold rdB at*
 obtain⟨r,rfl⟩:=h
 split at hr
 ·rename_i B hB
  have:=(Zad.1 hB).1
  rw[Zae this,hB];exact hr
 ·cases hr
theorem Rd.pre {N U:St} {v:GV} {l:List Int} (h:Rd N v l) (hp:N <+: U):Rd U v l:=by
 rcases h with h|⟨g,off,cs,h1,h2,h3⟩
 ·exact .inl h
 ·exact .inr ⟨g,off,cs,h1,Aq hp h2,h3⟩
theorem Af {a:Int} (h: -9223372036854775808<=a) (h':a<=9223372036854775807):IntKind.i64.wrap a=a:=Afm h h'
def OwnI (b:Nat) (U:St) (v:GV) (l:List Int):Prop:=(l=[]/\v= .nilS)∨∃ g,b≤g/\v= .sl g 0 l.length/\bk U g=some (.row 1 (l.map gi))
theorem OwnI.pre {b:Nat} {U U':St} {v:GV} {l:List Int} (h:OwnI b U v l) (hp:U <+: U'):OwnI b U' v l:=by
 rcases h with h|⟨g,hb,hv,hB⟩
 ·exact .inl h
 ·exact .inr ⟨g,hb,hv,Aah hp hB⟩
theorem A0 {N U:St} (h:N <+: U) (r:St):N <+: U++r:=h.trans (Zbd _ _)
theorem Dj {U:St} {g:Nat} {r:St} (h:g<U.length):bk (U++r) g=bk U g:=by
 unfold bk;rw[Zae h]
theorem Hy {U:St} {B:Option Blk}:bk (U++[B]) U.length=B:=by
 unfold bk;simp
theorem Gh {U:St} {g k:Nat} {x:Option Blk} (h:g≠k):bk (U.set g x) k=bk U k:=by
 unfold bk;rw[List.getElem?_set_ne h]
theorem Ade {z bytes g off len n:Nat} {N:St} {cs new:List GV} (hB:N[g]? =some (some (.row z cs))) (hn:n≠0) (h1:off+len*z<=cs.length) (h2:(len+n)*bytes<=140737488355328):
  ∃ N1,appG z bytes N (.sl g off len) n new=some (.sl N.length 0 (len+n),N1++[some (.row z ((cs.drop off).take (len*z)++new))])/\(N1=N∨N1=N.set g none):=by
 by_cases hc:cs=[]/\off=0/\len=0/\True/\n*bytes<=140737488355328
 ·refine⟨N,?_,.inl rfl⟩
  simp only[appG,hB,if_neg hn]
  rw[if_pos hc]
  obtain⟨rfl,rfl,rfl,_,_⟩:=hc
  simp
 ·refine⟨N.set g none,?_,.inr rfl⟩
  simp only[appG,hB,if_neg hn]
  rw[if_neg hc,if_pos ⟨trivial,h1,h2⟩]
theorem Aw {Y:Type} {l:List Y} {i:Nat} (h:i<l.length):l.take (i+1)=l.take i++[l[i]]:=by rw[Zb5,Zaa h];rfl
theorem C6 {Y:Type} {l:List Y} {p:Y->Bool} {i:Nat} (h:i<l.length) (ha:(l.take i).all p=true) (hp:p l[i]=true):(l.take (i+1)).all p=true:=by
 have e:l.take (i+1)=l.take i++[l[i]]:=by rw[Zb5,Zaa h];rfl
 rw[e,List.all_append,ha]
 simp[hp]
theorem Cp {Y:Type} {l:List Y} {p:Y->Bool} {i:Nat} (h:i<l.length) (hp:p l[i]=false):l.all p=false:=by
 cases ha:l.all p with
 |false=>rfl
 |true=>rw[Zap.1 ha _ (List.getElem_mem h)] at hp;cases hp
theorem Adf {n m:Nat}:(((n:Int)==(m:Int)):Bool)=decide (n=m):=by
 cases h:decide (n=m) with
 |true=>have:=of_decide_eq_true h;subst this;simp
 |false=>have:=of_decide_eq_false h;simp;omega
def RdE {Y:Type} (E:St->GV->Y->Prop) (N:St) (v:GV) (l:List Y):Prop:=
 (l=[]/\(v= .nilS∨v= .emp))∨∃ g off cs,v= .sl g off l.length/\rdB N g=some cs/\off+l.length<=cs.length/\∀(i:Nat) x,l[i]? =some x->∃ c,cs[off+i]? =some c/\E N c x
theorem RdE.pre {Y:Type} {E:St->GV->Y->Prop} (hE:∀ N U c x,E N c x->N <+: U->E U c x) {N U:St} {v:GV} {l:List Y} (h:RdE E N v l) (hp:N <+: U):RdE E U v l:=by
 rcases h with h|⟨g,off,cs,h1,h2,h3,h4⟩
 ·exact .inl h
 ·refine .inr ⟨g,off,cs,h1,Aq hp h2,h3,fun i x hx=> ?_⟩
  obtain⟨c,hc,he⟩:=h4 i x hx
  exact⟨c,hc,hE _ _ _ _ he hp⟩
abbrev Rd2:=RdE Rd
theorem Rd2.pre {N U:St} {v:GV} {l:List (List Int)} (h:Rd2 N v l) (hp:N <+: U):Rd2 U v l:=RdE.pre (E:=Rd) (fun _ _ _ _ h hp=>Rd.pre h hp) h hp
theorem A4a {z b n:Nat} {ze:List GV} {N:St} (h:n*b<=140737488355328):mksG z b ze N (some n) (some n)=some (.sl N.length 0 n,N++[some (.row z (reps n ze))]):=by
 unfold mksG
 simp[h]
def Own2 (g:Nat) (U:St) (v:GV) (cs:List GV) (ll:List (List Int)):Prop:=
 v= .sl g 0 ll.length/\bk U g=some (.row 1 cs)/\cs.length=ll.length/\∀(i:Nat) l,ll[i]? =some l->∃ c,cs[i]? =some c/\OwnI (g+1) U c l
theorem Own2.pre {g:Nat} {U U':St} {v:GV} {cs:List GV} {ll:List (List Int)} (h:Own2 g U v cs ll) (hp:U <+: U'):Own2 g U' v cs ll:=by
 obtain⟨hv,hB,hl,hc⟩:=h
 exact⟨hv,Aah hp hB,hl,fun i x hx=>by obtain⟨c,h1,h2⟩:=hc i x hx;exact⟨c,h1,h2.pre hp⟩⟩
structure En (Y:Type) where
 z:Nat
 R:St->Y->List GV->Prop
 len:∀ {N x cs},R N x cs->cs.length=z
 pre:∀ {N U x cs},R N x cs->N <+: U->R U x cs
def En.flat {Y:Type} (z:Nat) (enc:Y->List GV) (h:∀ x,(enc x).length=z):En Y:=⟨z,fun _ x cs=>cs=enc x,fun hh=>by rw[hh,h],fun hh _=>hh⟩
def RdN {Y:Type} (d:En Y) (N:St) (v:GV) (l:List Y):Prop:=
 (l=[]/\(v= .nilS∨v= .emp))∨∃ g off cs,v= .sl g off l.length/\rdB N g=some cs/\off+l.length*d.z<=cs.length/\∀(i:Nat) x,l[i]? =some x->d.R N x ((cs.drop (off+i*d.z)).take d.z)
def atz (z:Nat) (v:GV) (i:Nat):GV:=match v with
 | .sl g off _=>.ptr g (off+i*z)
 |_=>.nilP
def fld (k:Nat) (p:GV):GV:=match p with
 | .ptr g off=>.ptr g (off+k)
 |p=>p
section
variable {Y:Type} {d:En Y} {N U:St} {v:GV} {l:List Y}
theorem RdN.pre (h:RdN d N v l) (hp:N <+: U):RdN d U v l:=by
 rcases h with h|⟨g,off,cs,h1,h2,h3,h4⟩
 ·exact .inl h
 ·exact .inr ⟨g,off,cs,h1,Aq hp h2,h3,fun i x hx=>d.pre (h4 i x hx) hp⟩
theorem RdN.len (h:RdN d N v l):lenG false v=some (l.length:Int):=by
 rcases h with⟨rfl,rfl|rfl⟩|⟨g,off,cs,rfl,_⟩<;>rfl
theorem RdN.iad (h:RdN d N v l) {i:Nat} (hi:i<l.length):iadG d.z v (some i)=some (atz d.z v i):=by
 rcases h with⟨rfl,_⟩|⟨g,off,cs,rfl,_⟩
 ·simp at hi
 ·simp[atz,iadG,hi]
theorem RdN.cells (h:RdN d N v l) {i:Nat} (hi:i<l.length):∃ cs,d.R N l[i] cs/\∀ k n r,seg cs k n=some r->∀ g',ldG g' n N (fld k (atz d.z v i))=mkv g' r:=by
 rcases h with⟨rfl,_⟩|⟨g,off,cs,rfl,h2,h3,h4⟩
 ·simp at hi
 ·have h5:=h4 i l[i] (Zaa hi)
  refine⟨_,h5,fun k n r hr g'=> ?_⟩
  have hl:=d.len h5
  obtain⟨hr1,hr2,hr3,rfl⟩:=A21 hr
  have hb:off+i*d.z+d.z<=cs.length:=by
   have:(i+1)*d.z<=l.length*d.z:=Zbn _ hi
   rw[Za5] at this;omega
  have e:seg cs (off+i*d.z+k) n=some ((((cs.drop (off+i*d.z)).take d.z).drop k).take n):=by
   unfold seg
   rw[if_pos (by omega)]
   congr 1
   apply Zb6
   intro j
   simp only[Zb0,List.getElem?_drop]
   by_cases hj:j<n
   ·rw[if_pos hj,if_pos hj,if_pos (by omega)]
    congr 1;omega
   ·rw[if_neg hj,if_neg hj]
  simp only[fld,atz,ldG,h2,Zag,e]
end
structure Pl (Y:Type) where
 z:Nat
 enc:Y->List GV
 len:∀ x,(enc x).length=z
def Pl.en {Y:Type} (p:Pl Y):En Y:=En.flat p.z p.enc p.len
def Pl.cells {Y:Type} (p:Pl Y) (l:List Y):List GV:=l.flatMap p.enc
section
variable {Y:Type} {p:Pl Y}
theorem Pl.cells_length (l:List Y):(p.cells l).length=l.length*p.z:=by
 induction l with
 |nil=>simp[Pl.cells]
 |cons x l ih=>
  have e:p.cells (x::l)=p.enc x++p.cells l:=rfl
  rw[e,Zax,ih,p.len,Za9,Za5];omega
theorem Pl.cells_append (l m:List Y):p.cells (l++m)=p.cells l++p.cells m:=by simp[Pl.cells]
def OwnP (p:Pl Y) (b:Nat) (U:St) (v:GV) (l:List Y):Prop:=(l=[]/\v= .nilS)∨∃ g,b≤g/\v= .sl g 0 l.length/\bk U g=some (.row p.z (p.cells l))
variable {b:Nat} {N U U':St} {v x:GV} {l m:List Y}
theorem OwnP.pre (h:OwnP p b U v l) (hp:U <+: U'):OwnP p b U' v l:=by
 rcases h with h|⟨g,hb,hv,hB⟩
 ·exact .inl h
 ·exact .inr ⟨g,hb,hv,Aah hp hB⟩
theorem RdN.elems {x:GV} (h:RdN p.en U x m):Sy.elems U p.z x=some (m.length,p.cells m):=by
 rcases h with⟨rfl,rfl|rfl⟩|⟨g,off,cs,rfl,h2,h3,h4⟩
 ·rfl
 ·rfl
 ·have h3':off+m.length*p.z<=cs.length:=h3
  have e:seg cs off (m.length*p.z)=some (p.cells m):=by
   unfold seg
   rw[if_pos h3']
   congr 1
   clear h2
   induction m generalizing off with
   |nil=>simp[Pl.cells]
   |cons y m ih=>
    have e0:(cs.drop (off+0*p.z)).take p.z=p.enc y:=h4 0 y rfl
    rw[Zbr,Nat.add_zero] at e0
    have hle:off+p.z+m.length*p.z<=cs.length:=by
     simp only[Za9,Za5,Zbi] at h3';omega
    have:=ih (off:=off+p.z) hle (fun i x hx=>by
     have:=h4 (i+1) x (by simpa using hx)
     show(cs.drop (off+p.z+i*p.z)).take p.z=p.enc x
     rw[show off+p.z+i*p.z=off+(i+1)*p.z by rw[Za5];omega]
     exact this) hle
    have e1:p.cells (y::m)=p.enc y++p.cells m:=rfl
    rw[e1,<-e0,<-this,Za9,Za5,Zbi,Zb8 (m.length*p.z),Zcg,Zcc]
  simp only[Sy.elems,h2,Zag,e,Zbp]
end
def pB:Pl Int:=⟨1,fun n=>[.int .u8 n],fun _=>rfl⟩
def pI:Pl Int:=⟨1,fun n=>[.int .i64 n],fun _=>rfl⟩
def pS:Pl ByteArray:=⟨1,fun s=>[.str s],fun _=>rfl⟩
def txt (l:List Int):ByteArray:=⟨(l.map fun n=>UInt8.ofNat n.toNat).toArray⟩
theorem Abk (l:List Int):F5 (pB.cells l)=some (l.map fun n=>UInt8.ofNat n.toNat):=by
 induction l with
 |nil=>rfl
 |cons n l ih=>
  have e:pB.cells (n::l)= .int .u8 n::pB.cells l:=rfl
  rw[e,F5,ih];rfl
theorem bts_ok {N:St} {v:GV} {l:List Int} (h:RdN pB.en N v l):((elems N 1 v).bind fun r=>(F5 r.2).map fun bs=>GV.str ⟨bs.toArray⟩)=some (.str (txt l)):=by
 have he:=RdN.elems (p:=pB) h
 have hz:pB.z=1:=rfl
 rw[hz] at he
 rw[he]
 simp only[Zag,Abk,Zbp,txt]
theorem wrap8 {n:Int} (h:0<=n) (h':n<256):IntKind.u8.wrap n=n:=by
 show(if (false&&decide (n % 2 ^ 8≥2 ^ 7))=true then n % 2 ^ 8 - 2 ^ 8 else n % 2 ^ 8)=n
 simp only[Zcd,Zbh,if_false]
 omega
@[go_sem] theorem Agu {k k':IntKind} {n:Int}:cviG k (.int k' n)=some (.int k (k.wrap n)):=(rfl)
def tup2 (x y:Option GV):Option GV:=x.bind fun x=>y.bind fun y=>if Ew x&&Ew y then some (.tup [x,y]) else none
@[go_sem] theorem resG_two {env:Env} {N:St} {r s:Rs}:resG env N [r,s]=tup2 (r.ev env N) (s.ev env N):=by
 simp only[resG,B6,tup2]
 cases r.ev env N with
 |none=>rfl
 |some x=>cases s.ev env N<;>simp
structure Kd (Y:Type) where
 z:Nat
 R:St->Y->List GV->Prop
 O:St->Y->List GV->List Nat->Prop
 len:∀ {N x cs},R N x cs->cs.length=z
 pre:∀ {N U x cs},R N x cs->N <+: U->R U x cs
 rd:∀ {N x cs fp},O N x cs fp->R N x cs
 loc:∀ {N U x cs fp},O N x cs fp->(∀ g∈fp,bk U g=bk N g)->O U x cs fp
def Kd.en {Y:Type} (d:Kd Y):En Y:=⟨d.z,d.R,d.len,d.pre⟩
abbrev RS {Y:Type} (d:Kd Y) (N:St) (v:GV) (l:List Y):Prop:=RdN d.en N v l
def Pl.kd {Y:Type} (p:Pl Y):Kd Y:=⟨p.z,fun _ x cs=>cs=p.enc x,fun _ x cs fp=>cs=p.enc x/\fp=[],fun h=>by rw[h,p.len],fun h _=>h,fun h=>h.1,fun h _=>h⟩
inductive All3 {Y β γ:Type} (R:Y->β->γ->Prop):List Y->List β->List γ->Prop
 |nil:All3 R [] [] []
 |cons {a b c as_ bs cs}:R a b c->All3 R as_ bs cs->All3 R (a::as_) (b::bs) (c::cs)
namespace All3
variable {Y β γ:Type} {R S:Y->β->γ->Prop}
theorem imp {as_:List Y} {bs:List β} {cs:List γ} (h:All3 R as_ bs cs) (f:∀ a b c,c∈cs->R a b c->S a b c):All3 S as_ bs cs:=by
 induction h with
 |nil=>exact .nil
 |cons h _ ih=>exact .cons (f _ _ _ Za3 h) (ih fun a b c hc=>f a b c (Zaz _ hc))
theorem append {as_ as':List Y} {bs bs':List β} {cs cs':List γ} (h:All3 R as_ bs cs) (h':All3 R as' bs' cs'):All3 R (as_++as') (bs++bs') (cs++cs'):=by
 induction h with
 |nil=>exact h'
 |cons h _ ih=>exact .cons h ih
theorem get {as_:List Y} {bs:List β} {cs:List γ} (h:All3 R as_ bs cs):∀ {j:Nat} {a:Y},as_[j]? =some a->∃ b c,bs[j]? =some b/\cs[j]? =some c/\R a b c:=by
 induction h with
 |nil=>intro j a ha;simp at ha
 |cons h _ ih=>
  intro j a ha
  cases j with
  |zero=>simp at ha;subst ha;exact⟨_,_,rfl,rfl,h⟩
  |succ j=>exact ih (by simpa using ha)
theorem set {as_:List Y} {bs:List β} {cs:List γ} (h:All3 R as_ bs cs):∀(n:Nat) {a:Y} {b:β} {c:γ},R a b c->All3 R (as_.set n a) (bs.set n b) (cs.set n c):=by
 induction h with
 |nil=>intro n a b c _;simp;exact .nil
 |cons h t ih=>intro n a b c hr;cases n with
  |zero=>exact .cons hr t
  |succ n=>exact .cons h (ih n hr)
end All3
def OS {Y:Type} (d:Kd Y) (N:St) (l:List Y) (v:GV) (fp:List Nat):Prop:=
 (l=[]/\v= .nilS/\fp=[])∨∃ g pre css post fps,v= .sl g pre.length l.length/\bk N g=some (.row d.z (pre++css.flatten++post))/\All3 (d.O N) l css fps/\fp=g::fps.flatten
theorem A2g {Y:Type} {d:Kd Y} {N:St} {l:List Y} {css:List (List GV)} {fps:List (List Nat)} (h:All3 (d.O N) l css fps):css.flatten.length=l.length*d.z:=by
 induction h with
 |nil=>simp
 |cons h _ ih=>rw[Za1,Zax,ih,d.len (d.rd h),Za9,Za5];omega
theorem Agv {Y:Type} {d:Kd Y} {N:St} {l:List Y} {css:List (List GV)} {fps:List (List Nat)} (h:All3 (d.O N) l css fps):∀ {i:Nat} {cs:List GV},css[i]? =some cs->(css.flatten.drop (i*d.z)).take d.z=cs:=by
 induction h with
 |nil=>intro i cs h;simp at h
 | @cons a b c as_ bs cs0 h t ih=>
  intro i cs hc
  have hb:=d.len (d.rd h)
  cases i with
  |zero=>
   simp only[Zah,Zaj.injEq] at hc
   subst hc
   rw[Za1,Zbr,Zbc,Zat (by omega),Zav (by omega)]
  |succ i=>
   simp only[Za2] at hc
   have e2:(b++bs.flatten).drop ((i+1)*d.z)=bs.flatten.drop (i*d.z):=by
    rw[Za5,Zbi,Zb8,<-hb,Za6]
    simp
   rw[Za1,e2]
   exact ih hc
theorem OS.rd {Y:Type} {d:Kd Y} {N:St} {l:List Y} {v:GV} {fp:List Nat} (h:OS d N l v fp):RS d N v l:=by
 rcases h with⟨h1,h2,_⟩|⟨g,pre,css,post,fps,hv,hB,hA,_⟩
 ·exact .inl ⟨h1,.inl h2⟩
 ·have hl:=A2g hA
  refine .inr ⟨g,pre.length,pre++css.flatten++post,hv,by unfold rdB;rw[Br.1 hB];rfl,?_,fun i x hx=> ?_⟩
  ·show pre.length+l.length*d.z<=_
   simp only[Zax];omega
  ·obtain⟨cs,f,hcs,_,ho⟩:=hA.get hx
   have h1:=Agv hA hcs
   have hlt:i<l.length:=(Zad.1 hx).1
   have hm:(i+1)*d.z<=l.length*d.z:=Zbn _ hlt
   rw[Za5,Zbi] at hm
   have e:(((pre++css.flatten++post).drop (pre.length+i*d.z)).take d.z)=cs:=by
    rw[Zaq,Za6,Za6]
    have e1:List.drop (pre.length+i*d.z) pre=[]:=Za7 (by omega)
    rw[e1,Zbe,show pre.length+i*d.z - pre.length=i*d.z by omega,show i*d.z - css.flatten.length=0 by omega,Zbc,Zat (by rw[List.length_drop];omega),h1]
   show d.R N x (((pre++css.flatten++post).drop (pre.length+i*d.z)).take d.z)
   rw[e]
   exact d.rd ho
theorem OS.loc {Y:Type} {d:Kd Y} {N U:St} {l:List Y} {v:GV} {fp:List Nat} (h:OS d N l v fp) (hf:∀ g∈fp,bk U g=bk N g):OS d U l v fp:=by
 rcases h with h|⟨g,pre,css,post,fps,hv,hB,hA,rfl⟩
 ·exact .inl h
 ·refine .inr ⟨g,pre,css,post,fps,hv,by rw[hf g Za3];exact hB,hA.imp fun a b c hc ho=>d.loc ho fun g' hg'=>hf g' (Zaz _ (Zb9.2 ⟨c,hc,hg'⟩)),rfl⟩
def Kd.sl {Y:Type} (d:Kd Y):Kd (List Y):=⟨1,fun N l cs=>∃ v,cs=[v]/\RS d N v l,fun N l cs fp=>∃ v,cs=[v]/\OS d N l v fp,
 fun⟨v,h,_⟩=>by rw[h];rfl,fun⟨v,h,hr⟩ hp=>⟨v,h,hr.pre hp⟩,fun⟨v,h,ho⟩=>⟨v,h,ho.rd⟩,fun⟨v,h,ho⟩ hf=>⟨v,h,ho.loc hf⟩⟩
structure Thg where
 P:St->List Nat->Prop
 loc:∀ {N U fp},P N fp->(∀ g∈fp,bk U g=bk N g)->P U fp
def own {Y:Type} (d:Kd Y) (cs:List GV) (x:Y):Thg:=⟨fun N fp=>d.O N x cs fp,d.loc⟩
def ow {Y:Type} (d:Kd Y) (v:GV) (l:List Y):Thg:=⟨fun N fp=>OS d N l v fp,OS.loc⟩
def pt (z g:Nat) (cs:List GV):Thg:=⟨fun N fp=>fp=[g]/\bk N g=some (.row z cs),fun h hf=>⟨h.1,by rw[hf g (by rw[h.1];exact Za3)];exact h.2⟩⟩
def sat (U:St):List Thg->List Nat->Prop
 |[],fp=>fp=[]
 |r::rs,fp=>∃ a b,r.P U a/\sat U rs b/\fp=a++b
theorem sat.loc {N U:St}:∀ {rs:List Thg} {fp:List Nat},sat N rs fp->(∀ g∈fp,bk U g=bk N g)->sat U rs fp
 |[],_,h,_=>h
 |r::rs,_,⟨a,b,hr,hs,rfl⟩,hf=>⟨a,b,r.loc hr fun g hg=>hf g (Zao _ hg),sat.loc hs fun g hg=>hf g (Zak _ hg),rfl⟩
theorem sat.perm {U:St} {rs rs':List Thg} (hp:rs.Perm rs'):∀ {fp:List Nat},sat U rs fp->∃ fp',fp.Perm fp'/\sat U rs' fp':=by
 induction hp with
 |nil=>intro fp h;exact⟨fp,.refl _,h⟩
 |cons r _ ih=>
  rintro fp ⟨a,b,hr,hs,rfl⟩
  obtain⟨b',hb,hs'⟩:=ih hs
  exact⟨a++b',hb.append_left a,a,b',hr,hs',rfl⟩
 |swap r s rs=>
  rintro fp ⟨a,b,hr,⟨c,e,hs,ht,rfl⟩,rfl⟩
  refine⟨c++(a++e),?_,c,a++e,hs,⟨a,e,hr,ht,rfl⟩,rfl⟩
  rw[<- Zaq,<-Zaq]
  exact List.perm_append_comm.append_right e
 |trans _ _ ih1 ih2=>
  intro fp h
  obtain⟨f1,p1,h1⟩:=ih1 h
  obtain⟨f2,p2,h2⟩:=ih2 h1
  exact⟨f2,p1.trans p2,h2⟩
theorem sat.app {U:St} {rs':List Thg} {fp':List Nat}:∀ {rs:List Thg} {fp:List Nat},sat U rs fp->sat U rs' fp'->sat U (rs++rs') (fp++fp')
 |[],_,h,h'=>by cases h;exact h'
 |r::rs,_,⟨a,b,hr,hs,rfl⟩,h'=>⟨a,b++fp',hr,hs.app h',by rw[Zaq]⟩
def Hp (N U:St) (rs:List Thg):Prop:=N <+: U/\∃ fp,sat U rs fp/\fp.Nodup/\∀ g∈fp,N.length<=g/\g<U.length
namespace Hp
variable {N U U':St} {rs rs':List Thg} {r r':Thg}
theorem sub (H:Hp N U rs):N <+: U:=H.1
theorem nil (h:N <+: U):Hp N U []:=⟨h,[],rfl,List.nodup_nil,by simp⟩
theorem refl (N:St):Hp N N []:=nil (Zal _)
theorem perm (H:Hp N U rs) (hp:rs.Perm rs'):Hp N U rs':=by
 obtain⟨h,fp,hs,hn,hb⟩:=H
 obtain⟨fp',hp',hs'⟩:=hs.perm hp
 exact⟨h,fp',hs',hp'.nodup_iff.1 hn,fun g hg=>hb g (hp'.mem_iff.2 hg)⟩
theorem pick_perm:∀ {rs:List Thg} {i:Nat} {r:Thg},rs[i]? =some r->rs.Perm (r::rs.eraseIdx i)
 |[],i,r,h=>by simp at h
 |x::xs,0,r,h=>by simp at h;subst h;simp
 |x::xs,i+1,r,h=>by
  have:=pick_perm (rs:=xs) (i:=i) (r:=r) (by simpa using h)
  simp only[Zbt]
  exact(this.cons x).trans (List.Perm.swap r x _)
theorem Aai:∀ {rs:List Thg} {i:Nat} {r:Thg},i<rs.length->(r::rs.eraseIdx i).Perm (rs.set i r)
 |[],i,r,h=>by simp at h
 |x::xs,0,r,h=>by simp
 |x::xs,i+1,r,h=>by
  have:=Aai (rs:=xs) (i:=i) (r:=r) (by simpa using h)
  simp only[Zbt,Zb1]
  exact(List.Perm.swap x r _).trans (this.cons x)
theorem pick (H:Hp N U rs) (i:Nat) (h:rs[i]? =some r):Hp N U (r::rs.eraseIdx i):=H.perm (pick_perm h)
theorem unpick {i:Nat} (H:Hp N U (r::rs.eraseIdx i)) (h:i<rs.length):Hp N U (rs.set i r):=H.perm (Aai h)
theorem drop1 (H:Hp N U (r::rs)):Hp N U rs:=by
 obtain⟨h,fp,⟨a,b,_,hs,rfl⟩,hn,hb⟩:=H
 exact⟨h,b,hs,(Zbj.1 hn).2.1,fun g hg=>hb g (Zak _ hg)⟩
theorem grow (H:Hp N U rs) (h:U <+: U'):Hp N U' rs:=by
 obtain⟨h0,fp,hs,hn,hb⟩:=H
 have hl:=h.length_le
 refine⟨h0.trans h,fp,hs.loc fun g hg=> ?_,hn,fun g hg=>⟨(hb g hg).1,Zaw (hb g hg).2 hl⟩⟩
 obtain⟨e,rfl⟩:=h
 exact Dj (hb g hg).2
theorem add (H:Hp N U rs) (K:Hp U U' rs'):Hp N U' (rs'++rs):=by
 obtain⟨h0,f1,s1,n1,b1⟩:=H
 obtain⟨h2,f2,s2,n2,b2⟩:=K
 have hl:=h2.length_le
 have hl0:=h0.length_le
 have s1':sat U' rs f1:=s1.loc fun g hg=>by
  obtain⟨e,rfl⟩:=h2
  exact Dj (b1 g hg).2
 refine⟨h0.trans h2,f2++f1,s2.app s1',Zbj.2 ⟨n2,n1,fun x hx y hy=> ?_⟩,fun g hg=> ?_⟩
 ·have:=(b2 x hx).1
  have:=(b1 y hy).2
  omega
 ·rcases Zbq.1 hg with hg|hg
  ·have:=b2 g hg;omega
  ·have:=b1 g hg;omega
end Hp
theorem Aey {N U U':St} (h:N <+: U) (hl:U.length<=U'.length) (hs:∀ g,g<N.length->bk U' g=bk U g):N <+: U':=by
 have hle:=h.length_le
 refine⟨U'.drop N.length,?_⟩
 have e:N=U'.take N.length:=by
  apply Zb6
  intro g
  rw[Zb0]
  by_cases hg:g<N.length
  ·rw[if_pos hg]
   have h1:=hs g hg
   obtain⟨r,rfl⟩:=h
   unfold bk at h1
   rw[Zae hg,Zaa hg] at h1
   have hg':g<U'.length:=by omega
   rw[Zaa hg'] at h1
   simp only[Option.join_some] at h1
   rw[Zaa hg,Zaa hg',h1]
  ·rw[if_neg hg,Zbv (by omega)]
 calc N++U'.drop N.length=U'.take N.length++U'.drop N.length:=by rw[<- e]
  _=U':=List.take_append_drop _ _
def both (r s:Thg):Thg:=⟨fun U fp=>∃ a b,r.P U a/\s.P U b/\fp=a++b,fun⟨a,b,h1,h2,e⟩ hf=>⟨a,b,r.loc h1 fun g hg=>hf g (by rw[e];exact Zao _ hg),s.loc h2 fun g hg=>hf g (by rw[e];exact Zak _ hg),e⟩⟩
structure Turn (U U':St) (a a':List Nat):Prop where
 nd:a'.Nodup
 mem:∀ g∈a',g∈a∨(U.length<=g/\g<U'.length)
 len:U.length<=U'.length
 rest:∀ g,g<U.length->g∉a->bk U' g=bk U g
namespace Hp
variable {N U U':St} {rs rs':List Thg} {r r' s:Thg}
theorem join (H:Hp N U (r::s::rs)):Hp N U (both r s::rs):=by
 obtain⟨h,fp,⟨a,b,hr,⟨c,d,hs,ht,rfl⟩,rfl⟩,hn,hb⟩:=H
 exact⟨h,a++c++d,⟨a++c,d,⟨a,c,hr,hs,rfl⟩,ht,rfl⟩,by rw[Zaq];exact hn,by rw[Zaq];exact hb⟩
theorem turn (H:Hp N U (r::rs)):∃ a,r.P U a/\a.Nodup/\(∀ g∈a,N.length<=g/\g<U.length)/\∀ {U':St} {r':Thg} {a':List Nat},Turn U U' a a'->r'.P U' a'->Hp N U' (r'::rs):=by
 obtain⟨h,fp,⟨a,b,hr,hs,rfl⟩,hn,hb⟩:=H
 rw[Zbj] at hn
 refine⟨a,hr,hn.1,fun g hg=>hb g (Zao _ hg),fun {U' r' a'} ht hr'=> ?_⟩
 have hbb:∀ g∈b,bk U' g=bk U g:=fun g hg=>ht.rest g (hb g (Zak _ hg)).2 fun ha=>hn.2.2 g ha g hg rfl
 refine⟨Aey h ht.len fun g hg=>ht.rest g (by have:=h.length_le;omega) fun ha=>by have:=(hb g (Zao _ ha)).1;omega,a'++b,⟨a',b,hr',hs.loc hbb,rfl⟩,Zbj.2 ⟨ht.nd,hn.2.1,fun x hx y hy e=> ?_⟩,fun g hg=> ?_⟩
 ·subst e
  rcases ht.mem x hx with h1|h1
  ·exact hn.2.2 x h1 x hy rfl
  ·have:=(hb x (Zak _ hy)).2;omega
 ·have hl:=h.length_le
  have hl2:=ht.len
  rcases Zbq.1 hg with hg|hg
  ·rcases ht.mem g hg with h1|h1
   ·have:=hb g (Zao _ h1);omega
   ·omega
  ·have:=hb g (Zak _ hg);omega
theorem see (H:Hp N U rs) {i:Nat} (hi:rs[i]? =some r):∃ a,r.P U a/\a.Nodup/\∀ g∈a,N.length<=g/\g<U.length:=by
 obtain⟨a,h1,h2,h3,_⟩:=(H.pick i hi).turn
 exact⟨a,h1,h2,h3⟩
theorem sl {Y:Type} {d:Kd Y} {v:GV} {l:List Y} (H:Hp N U rs) (i:Nat) (hi:rs[i]? =some (ow d v l)):RS d U v l:=by
 obtain⟨a,h,_⟩:=H.see hi
 exact OS.rd h
theorem rd {Y:Type} {d:Kd Y} {cs:List GV} {x:Y} (H:Hp N U rs) (i:Nat) (hi:rs[i]? =some (own d cs x)):d.R U x cs:=by
 obtain⟨a,h,_⟩:=H.see hi
 exact d.rd h
theorem pt (H:Hp N U rs) (i:Nat) {z g:Nat} {cs:List GV} (hi:rs[i]? =some (pt z g cs)):rdB U g=some cs:=by
 obtain⟨a,h,_⟩:=H.see hi
 unfold rdB;rw[Br.1 h.2];rfl
theorem new (H:Hp N U rs) (z:Nat) (cs:List GV):Hp N (U++[some (.row z cs)]) (Sy.pt z U.length cs::rs):=
 H.add (rs':=[Sy.pt z U.length cs]) ⟨Zbd _ _,[U.length],⟨[U.length],[],⟨rfl,Hy⟩,rfl,rfl⟩,by simp,by simp⟩
theorem st (H:Hp N U rs) (i:Nat) {z g:Nat} {cs:List GV} (hi:rs[i]? =some (Sy.pt z g cs)) (n off:Nat) (x:GV) (hx:x.cells.length=n) (hn:0<n) (hb:off+n<=cs.length):
  ∃ U',stG n U (.ptr g off) x=some (.tup [],U')/\Hp N U' (rs.set i (Sy.pt z g (Al cs off x.cells)))/\U'.length=U.length:=by
 obtain⟨a,⟨rfl,hB⟩,hnd,hbd,ht⟩:=(H.pick i hi).turn
 have hlt:=(hbd g Za3).2
 refine⟨U.set g (some (.row z (Al cs off x.cells))),?_,unpick (ht (a':=[g]) ⟨by simp,fun g' h=>.inl h,by simp,fun g' h h'=>Gh fun e=>h' (by rw[e];exact Za3)⟩ ⟨rfl,Br.2 (by rw[Zbu hlt])⟩) (Zad.1 hi).1,by simp⟩
 simp only[stG,Br.1 hB]
 rw[if_pos ⟨hb,hn,hx⟩]
end Hp
section os
variable {Y:Type} {d:Kd Y} {p:Pl Y} {N U:St} {l:List Y} {v:GV} {fp:List Nat}
theorem OS.isSl (h:OS d U l v fp):isSl v=true:=by
 rcases h with⟨_,rfl,_⟩|⟨g,pre,css,post,fps,rfl,_⟩<;>rfl
theorem OS.app1 {by8:Nat} {x:Y} {cs:List GV} {fx:List Nat} (h:OS d U l v fp) (hx:d.O U x cs fx) (hn:(fp++fx).Nodup) (hlt:∀ g∈fp++fx,g<U.length) (hz:0<d.z) (hb:(l.length+1)*by8<=140737488355328):
  ∃ v' U' fp',appV d.z by8 (U++[some (.row d.z cs)]) v (.sl U.length 0 1)=some (v',U')/\OS d U' (l++[x]) v' fp'/\Turn U U' (fp++fx) fp':=by
 have hcl:=d.len (d.rd hx)
 have hel:elems (U++[some (.row d.z cs)]) d.z (.sl U.length 0 1)=some (1,cs):=by
  simp[elems,rdB,Blk.cells,seg,hcl]
  exact Zav (by omega)
 have ha:appV d.z by8 (U++[some (.row d.z cs)]) v (.sl U.length 0 1)=appG d.z by8 (U++[some (.row d.z cs)]) v 1 cs:=by
  simp only[appV,hel,Zag]
 rw[ha]
 have hl1:(U++[some (Blk.row d.z cs)]).length=U.length+1:=by simp
 rcases h with⟨rfl,rfl,rfl⟩|⟨g,pre,css,post,fps,rfl,hB,hA,rfl⟩
 ·have hb':1*by8<=140737488355328:=by simpa using hb
  refine⟨.sl (U.length+1) 0 1,(U++[some (.row d.z cs)])++[some (.row d.z cs)],(U.length+1)::fx,?_,?_,?_⟩
  ·simp only[appG,hl1]
   rw[if_neg (by omega),if_pos hb']
  ·refine .inr ⟨U.length+1,[],[cs],[],[fx],rfl,?_,.cons (d.loc hx fun g hg=> ?_) .nil,by simp⟩
   ·rw[<- hl1,Hy];try simp
   ·rw[Zaq,Dj (hlt g (by simpa using hg))]
  ·refine⟨?_,?_,by simp,fun g hg _=>by rw[Zaq,Dj hg]⟩
   ·rw[Zbx]
    exact⟨fun h=>by have:=hlt (U.length+1) (by simpa using h);omega,by simpa using hn⟩
   ·intro g hg
    rcases Zbb.1 hg with rfl|hg
    ·right;simp
    ·left;simpa using hg
 ·rw[Za8,Zbx] at hn
  have hgt:g<U.length:=hlt g (by simp)
  have hfl:=A2g hA
  have hB1:(U++[some (.row d.z cs)])[g]? =some (some (.row d.z (pre++css.flatten++post))):=by rw[Zae hgt];exact Br.1 hB
  have e:((pre++css.flatten++post).drop pre.length).take (l.length*d.z)=css.flatten:=by
   rw[Zaq,Za6,Za7 (Zai _),Zbe,Nat.sub_self,Zbc,Zat (by omega),Zav (by omega)]
  have c1:pre.length+l.length*d.z<=(pre++css.flatten++post).length:=by simp only[Zax];omega
  obtain⟨N1,e1,hs⟩:=Ade (bytes:=by8) (n:=1) (new:=cs) hB1 (by omega) c1 hb
  have hsl:N1.length=U.length+1:=by rcases hs with rfl|rfl<;>simp
  have hbk:∀ g',g≠g'->bk N1 g'=bk (U++[some (Blk.row d.z cs)]) g':=fun g' hne=>by
   rcases hs with rfl|rfl
   ·rfl
   ·exact Gh hne
  rw[e,hl1] at e1
  refine⟨.sl (U.length+1) 0 (l.length+1),N1++[some (.row d.z (css.flatten++cs))],(U.length+1)::(fps.flatten++fx),e1,?_,?_⟩
  ·have keep:∀ g'∈fps.flatten++fx,bk (N1++[some (.row d.z (css.flatten++cs))]) g'=bk U g':=fun g' hg'=>by
    have h1:g'<U.length:=hlt g' (by simp only[Za8];exact Zaz _ hg')
    have h2:g≠g':=fun e=>hn.1 (by rw[e];exact hg')
    rw[Dj (by rw[hsl];omega),hbk g' h2,Dj h1]
   refine .inr ⟨U.length+1,[],css++[cs],[],fps++[fx],by simp,?_,(hA.imp fun a b c hc ho=>d.loc ho fun g' hg'=>keep g' (Zao _ (Zb9.2 ⟨c,hc,hg'⟩))).append (.cons (d.loc hx fun g' hg'=>keep g' (Zak _ hg')) .nil),by simp⟩
   rw[<- hsl,Hy];simp
  ·refine⟨?_,?_,by simp[hsl];omega,fun g' hg' hne=> ?_⟩
   ·rw[Zbx]
    exact⟨fun h=>by have:=hlt (U.length+1) (by simp only[Za8];exact Zaz _ h);omega,hn.2⟩
   ·intro g' hg'
    rcases Zbb.1 hg' with rfl|hg'
    ·right;simp[hsl]
    ·left;simp only[Za8];exact Zaz _ hg'
   ·have h2:g≠g':=fun e=>hne (by rw[e];simp)
    rw[Dj (by rw[hsl];omega),hbk g' h2,Dj hg']
theorem A4b {css:List (List GV)} {fps:List (List Nat)}:All3 (p.kd.O U) l css fps↔css=l.map p.enc/\fps=l.map fun _=>[]:=by
 constructor
 ·intro h
  induction h with
  |nil=>exact⟨rfl,rfl⟩
  |cons h _ ih=>rw[h.1,h.2,ih.1,ih.2];exact⟨rfl,rfl⟩
 ·rintro⟨rfl,rfl⟩
  induction l with
  |nil=>exact .nil
  |cons x l ih=>exact .cons ⟨rfl,rfl⟩ ih
theorem Aaj {Y:Type} (l:List Y):(l.map fun _=>([]:List Nat)).flatten=[]:=by
 induction l with
 |nil=>rfl
 |cons x l ih=>simp
theorem OS.flat:OS p.kd U l v fp↔(l=[]/\v= .nilS/\fp=[])∨∃ g pre post,v= .sl g pre.length l.length/\bk U g=some (.row p.z (pre++p.cells l++post))/\fp=[g]:=by
 unfold OS
 constructor
 ·rintro(h|⟨g,pre,css,post,fps,hv,hB,hA,hf⟩)
  ·exact .inl h
  ·obtain⟨rfl,rfl⟩:=A4b.1 hA
   exact .inr ⟨g,pre,post,hv,by rw[hB];rfl,by rw[hf,Aaj]⟩
 ·rintro(h|⟨g,pre,post,hv,hB,hf⟩)
  ·exact .inl h
  ·exact .inr ⟨g,pre,l.map p.enc,post,l.map fun _=>[],hv,by rw[hB];rfl,A4b.2 ⟨rfl,rfl⟩,by rw[hf,Aaj]⟩
theorem OS.app {by8:Nat} {x:GV} {m:List Y} (h:OS p.kd U l v fp) (hlt:∀ g∈fp,g<U.length) (hx:RdN p.kd.en U x m) (hz:0<p.z) (hb:(l.length+m.length)*by8<=140737488355328):
  ∃ v' U' fp',appV p.z by8 U v x=some (v',U')/\OS p.kd U' (l++m) v' fp'/\Turn U U' fp fp':=by
 have hx':RdN p.en U x m:=hx
 have ha:appV p.z by8 U v x=appG p.z by8 U v m.length (p.cells m):=by
  have he:=hx'.elems
  unfold appV
  rcases hx' with⟨rfl,rfl|rfl⟩|⟨g,off,cs,rfl,_⟩<;>simp only[he,Zag]
 rw[ha]
 have hsl:=h.isSl
 have hf:=OS.flat.1 h
 by_cases hm:m.length=0
 ·have:m=[]:=List.eq_nil_of_length_eq_zero hm
  subst this
  refine⟨v,U,fp,by simp[appG,hsl],by simpa using h,⟨?_,fun g hg=>.inl hg,Zai _,fun _ _ _=>rfl⟩⟩
  rcases hf with⟨_,_,rfl⟩|⟨g,pre,post,_,_,rfl⟩<;>simp
 ·rcases hf with⟨rfl,rfl,rfl⟩|⟨g,pre,post,rfl,hB,rfl⟩
  ·have hb':m.length*by8<=140737488355328:=by simpa using hb
   refine⟨.sl U.length 0 m.length,U++[some (.row p.z (p.cells m))],[U.length],by simp only[appG];rw[if_neg hm,if_pos hb'],OS.flat.2 (.inr ⟨U.length,[],[],by simp,?_,rfl⟩),⟨by simp,by simp,by simp,fun g hg _=>Dj hg⟩⟩
   rw[Hy];simp
  ·have hgt:g<U.length:=hlt g (by simp)
   have hcl:=Pl.cells_length (p:=p) l
   have e:((pre++p.cells l++post).drop pre.length).take (l.length*p.z)=p.cells l:=by
    rw[Zaq,Za6,Za7 (Zai _),Zbe,Nat.sub_self,Zbc,Zat (by omega),Zav (by omega)]
   have c1:pre.length+l.length*p.z<=(pre++p.cells l++post).length:=by simp only[Zax];omega
   obtain⟨N1,e1,hs⟩:=Ade (bytes:=by8) (n:=m.length) (new:=p.cells m) (Br.1 hB) hm c1 hb
   have hsl:N1.length=U.length:=by rcases hs with rfl|rfl<;>simp
   have hbk:∀ g',g≠g'->bk N1 g'=bk U g':=fun g' hne=>by
    rcases hs with rfl|rfl
    ·rfl
    ·exact Gh hne
   rw[e] at e1
   refine⟨.sl U.length 0 (l.length+m.length),N1++[some (.row p.z (p.cells l++p.cells m))],[U.length],e1,OS.flat.2 (.inr ⟨U.length,[],[],by simp,?_,rfl⟩),⟨by simp,by simp[hsl],by simp[hsl],fun g' hg' hne=> ?_⟩⟩
   ·rw[<- hsl,Hy,Pl.cells_append];simp
   ·rw[Dj (by rw[hsl];exact hg'),hbk g' fun e=>hne (by rw[e];simp)]
end os
theorem Pf {pre c post x:List GV} {k:Nat} (hk:k+x.length<=c.length):Al (pre++c++post) (pre.length+k) x=pre++Al c k x++post:=by
 unfold Al
 rw[Zaq pre c post,Zca,Za6]
 have e1:pre.length+k - pre.length=k:=by omega
 have e2:pre.length+k+x.length - pre.length=k+x.length:=by omega
 rw[e1,e2,Zav (by omega:pre.length<=pre.length+k),Za7 (by omega:pre.length<=pre.length+k+x.length),Zbe,Zat (by omega),List.drop_append_of_le_length hk]
 simp only[Zaq]
theorem Sg {css:List (List GV)} {z:Nat} (hz:∀ c∈css,c.length=z):∀ {i:Nat} {c x:List GV} {k:Nat},css[i]? =some c->k+x.length<=z->Al css.flatten (i*z+k) x=(css.set i (Al c k x)).flatten:=by
 induction css with
 |nil=>intro i c x k h;simp at h
 |cons b bs ih=>
  intro i c x k hc hk
  have hb:=hz b Za3
  cases i with
  |zero=>
   simp only[Zah,Zaj.injEq] at hc
   subst hc
   have:=Pf (pre:=[]) (c:=b) (post:=bs.flatten) (x:=x) (k:=k) (by omega)
   simp only[Zbe,Zbw,Zbk] at this
   rw[Za1,Zbr,Zbk,this,List.set_cons_zero,Za1]
  |succ i=>
   simp only[Za2] at hc
   have h1:=ih (fun c h=>hz c (Zaz _ h)) hc hk
   rw[Za1,Zb1,Za1,<-h1]
   unfold Al
   have e:(i+1)*z+k=b.length+(i*z+k):=by rw[Za5,hb];omega
   rw[e,Zca,Za6]
   rw[Zav (by omega:b.length<=b.length+(i*z+k)),Za7 (by omega:b.length<=b.length+(i*z+k)+x.length)]
   rw[show b.length+(i*z+k) - b.length=i*z+k by omega,show b.length+(i*z+k)+x.length - b.length=i*z+k+x.length by omega]
   simp only[Zaq,Zbe]
section os
variable {Y:Type} {d:Kd Y} {p:Pl Y} {N U:St} {l:List Y} {v:GV} {fp:List Nat}
theorem OS.st (h:OS p.kd U l v fp) (hlt:∀ g∈fp,g<U.length) {i:Nat} (hi:i<l.length) {n k:Nat} {x:GV} {y:Y} (hx:x.cells.length=n) (hn:0<n) (hk:k+n<=p.z) (hy:p.enc y=Al (p.enc l[i]) k x.cells):
  ∃ U',stG n U (fld k (atz p.z v i)) x=some (.tup [],U')/\OS p.kd U' (l.set i y) v fp/\Turn U U' fp fp/\U'.length=U.length:=by
 rcases OS.flat.1 h with⟨rfl,rfl,rfl⟩|⟨g,pre,post,rfl,hB,rfl⟩
 ·simp at hi
 ·have hgt:g<U.length:=hlt g (by simp)
  have hcl:=Pl.cells_length (p:=p) l
  have hm:(i+1)*p.z<=l.length*p.z:=Zbn _ hi
  rw[Za5,Zbi] at hm
  have e1:(p.cells l)=(l.map p.enc).flatten:=rfl
  have e2:Al (p.cells l) (i*p.z+k) x.cells=p.cells (l.set i y):=by
   rw[e1,Sg (z:=p.z) (c:=p.enc l[i]) (by intro c hc;obtain⟨a,_,rfl⟩:=Zb7.1 hc;exact p.len a) (by simp[hi]) (by omega),<-hy]
   show _=((l.set i y).map p.enc).flatten
   rw[List.map_set]
  have e3:Al (pre++p.cells l++post) (pre.length+(i*p.z+k)) x.cells=pre++p.cells (l.set i y)++post:=by
   rw[Pf (by omega),e2]
  refine⟨U.set g (some (.row p.z (pre++p.cells (l.set i y)++post))),?_,OS.flat.2 (.inr ⟨g,pre,post,by simp,Br.2 (by rw[Zbu hgt]),rfl⟩),⟨by simp,fun g h=>.inl h,by simp,fun g' hg' hne=>Gh fun e=>hne (by rw[e];simp)⟩,by simp⟩
  simp only[fld,atz,stG,Br.1 hB]
  rw[if_pos ⟨by simp only[Zax];omega,hn,hx⟩,Nat.add_assoc,e3]
end os
namespace Hp
variable {N U U':St} {rs rs':List Thg} {r r' s:Thg} {Y:Type} {d:Kd Y} {p:Pl Y} {v:GV} {l:List Y}
theorem app1 {by8:Nat} (H:Hp N U rs) (i:Nat) (hi:rs[i]? =some (ow p.kd v l)) (x:Y) (hz:0<p.z) (hb:(l.length+1)*by8<=140737488355328):
  ∃ v' U',appV p.z by8 (U++[some (.row p.z (p.enc x))]) v (.sl U.length 0 1)=some (v',U')/\Hp N U' (rs.set i (ow p.kd v' (l++[x]))):=by
 obtain⟨a,ha,hn,hbd,ht⟩:=(H.pick i hi).turn
 obtain⟨v',U',fp',e,ho,hT⟩:=OS.app1 (by8:=by8) (x:=x) (cs:=p.enc x) (fx:=[]) ha ⟨rfl,rfl⟩ (by simpa using hn) (fun g hg=>(hbd g (by simpa using hg)).2) hz hb
 rw[List.append_nil] at hT
 exact⟨v',U',e,unpick (ht hT ho) (Zad.1 hi).1⟩
theorem app {by8:Nat} (H:Hp N U rs) (i:Nat) (hi:rs[i]? =some (ow p.kd v l)) {x:GV} {m:List Y} (hx:RS p.kd U x m) (hz:0<p.z) (hb:(l.length+m.length)*by8<=140737488355328):
  ∃ v' U',appV p.z by8 U v x=some (v',U')/\Hp N U' (rs.set i (ow p.kd v' (l++m))):=by
 obtain⟨a,ha,hn,hbd,ht⟩:=(H.pick i hi).turn
 obtain⟨v',U',fp',e,ho,hT⟩:=OS.app (by8:=by8) ha (fun g hg=>(hbd g hg).2) hx hz hb
 exact⟨v',U',e,unpick (ht hT ho) (Zad.1 hi).1⟩
theorem ste (H:Hp N U rs) (i:Nat) (hi:rs[i]? =some (ow p.kd v l)) {j:Nat} (hj:j<l.length) (n k:Nat) (x:GV) (y:Y) (hx:x.cells.length=n) (hn:0<n) (hk:k+n<=p.z) (hy:p.enc y=Al (p.enc l[j]) k x.cells):
  ∃ U',stG n U (fld k (atz p.z v j)) x=some (.tup [],U')/\Hp N U' (rs.set i (ow p.kd v (l.set j y))):=by
 obtain⟨a,ha,hnd,hbd,ht⟩:=(H.pick i hi).turn
 obtain⟨U',e,ho,hT,_⟩:=OS.st ha (fun g hg=>(hbd g hg).2) hj hx hn hk hy
 exact⟨U',e,unpick (ht hT ho) (Zad.1 hi).1⟩
theorem toRow (H:Hp N U rs) (i:Nat) {z g:Nat} {cs:List GV} (hi:rs[i]? =some (Sy.pt z g cs)) (l:List Y) (hz:z=p.z) (hc:cs=p.cells l) (n:Nat) (hl:n=l.length):Hp N U (rs.set i (ow p.kd (.sl g 0 n) l)):=by
 obtain⟨a,⟨rfl,hB⟩,hn,hbd,ht⟩:=(H.pick i hi).turn
 refine unpick (ht (a':=[g]) ⟨hn,fun g h=>.inl h,Zai _,fun _ _ _=>rfl⟩ (OS.flat.2 (.inr ⟨g,[],[],by rw[hl];rfl,by rw[hB,hz,hc];simp,rfl⟩))) (Zad.1 hi).1
theorem toNil (H:Hp N U rs) (i:Nat) {g:Nat} {z:Nat} (hi:rs[i]? =some (Sy.pt z g [])) (hz:z=d.z):Hp N U (rs.set i (ow d (.sl g 0 0) [])):=by
 obtain⟨a,⟨rfl,hB⟩,hn,hbd,ht⟩:=(H.pick i hi).turn
 refine unpick (ht (a':=[g]) ⟨hn,fun g h=>.inl h,Zai _,fun _ _ _=>rfl⟩ (.inr ⟨g,[],[],[],[],rfl,by rw[hB,hz];rfl,.nil,rfl⟩)) (Zad.1 hi).1
theorem nilS (H:Hp N U rs):Hp N U (ow d .nilS ([]:List Y)::rs):=by
 obtain⟨h,fp,hs,hn,hb⟩:=H
 exact⟨h,fp,⟨[],fp,.inl ⟨rfl,rfl,rfl⟩,hs,rfl⟩,hn,hb⟩
theorem newNil (H:Hp N U rs) (d:Kd Y):Hp N (U++[some (.row d.z [])]) (ow d (.sl U.length 0 0) ([]:List Y)::rs):=(H.new d.z []).toNil 0 rfl rfl
end Hp
end Go.Proofs.YtnknigikcdgebaaGreatDoor.Sy
