/- Texts of this proof, one behind the other. -/
import Derived.Test.YtbeoiejnogdkpaaGreatBPOrdersTold3
import Derived.Test.YtbeoiejnogdkpaaGreatProg
import Derived.KernelRfl
set_option linter.unusedSimpArgs false
set_option linter.unusedVariables false
set_option maxRecDepth 4000
set_option maxHeartbeats 4000000
open Bool renaming and_eq_true→Zaa,false_and→Zac,true_and→Zad,false_eq_true→Za1,or_eq_true→Za6,or_false→Zbg,eq_iff_iff→Zbl,or_assoc→Zbt
open List renaming take_length→Zab,getElem_mem→Zae,mem_map→Zaf,mem_filter→Zag,findIdx?_eq_none_iff→Zah,getElem_of_mem→Zai,map_congr_left→Zaj,length_filter_le→Zak,mem_cons→Zal,pairwise_map→Zam,append_assoc→Zan,map_append→Zao,filter_nil→Zap,getElem_map→Zaq,length_append→Zar,pairwise_iff_getElem→Zas,mem_cons_of_mem→Zat,nodup_append→Zau,append_nil→Zav,mem_cons_self→Zaw,modify_succ_cons→Zax,take_sublist→Zay,length_take→Zaz,pairwise_cons→Za0,filter_append→Za2,take_succ_eq_append_getElem→Za3,foldl_append→Za4,filter_cons→Za5,getD_eq_getElem?_getD→Za7,take_zero→Za8,map_cons→Za9,all_eq_true→Zba,take_of_length_le→Zbb,map_map→Zbc,mem_of_mem_take→Zbd,map_id→Zbe,getElem_take→Zbi,ext_getElem→Zbj,foldl_cons→Zbm,any_append→Zbn,mem_append→Zbo,length_map→Zbp,length_nil→Zbq,any_cons→Zbs
open Nat renaming eq_zero_or_pos→Zbf,lt_trichotomy→Zbh
open Option renaming bind_some→Zbk
open Int renaming ofNat_zero→Zbr
namespace Go.Proofs.YtbeoiejnogdkpaaGreat.Sy
open Go Go.RowKit
structure OkS (s:State):Prop where
 kn:okK s.know=true
 tl:s.tallies.Pairwise fun a b=>Af a b=true
 t1:∀ t∈s.tallies,tal1 t=true
 tn:s.tallies.length<=120
 ll:s.lives.Pairwise fun a b=>Az a.dot b.dot=true
 l1:∀ x∈s.lives,As s.know x.dot=true/\liv1 x=true
 ln:s.lives.length<=120
 cl:s.cells.Pairwise fun a b=>Az a.dot b.dot=true
 c1:∀ x∈s.cells,As s.know x.dot=true/\cel1 x=true
 cn:s.cells.length<=120
 rf:∀ c∈s.cells,c.ref=d0∨∃ y∈s.cells,y.dot=c.ref/\y.obj=c.obj/\y.time<c.time
theorem Aaw {Y:Type} {lt:Y->Y->Bool} {l:List Y} (h:l.Pairwise fun a b=>lt a b=true) (i:Nat) (hi:i<l.length):upI lt l i=true:=by
 by_cases h0:i=0
 ·subst h0;rfl
 ·rw[Lu h0 hi (by omega)]
  exact Zas.1 h (i - 1) i (by omega) hi (by omega)
theorem Kg {Y:Type} {l:List Y} {p:Y->Bool}:(∀ i,i<l.length->onI l i p=true)↔∀ x∈l,p x=true:=by
 constructor
 ·intro h x hx
  obtain⟨i,hi,rfl⟩:=Zai hx
  have:=h i hi
  rwa [Br hi] at this
 ·intro h i hi
  rw[Br hi];exact h _ (Zae hi)
theorem Apl {l:List Cell} (h:l.Pairwise fun a b=>Az a.dot b.dot=true) {x y:Cell} (hx:x∈l) (hy:y∈l) (e:x.dot=y.dot):x=y:=by
 obtain⟨i,hi,rfl⟩:=Zai hx
 obtain⟨j,hj,rfl⟩:=Zai hy
 rcases Zbh i j with h1|h1|h1
 ·have:=Zas.1 h i j hi hj h1
  rw[e,Hw] at this;cases this
 ·subst h1;rfl
 ·have:=Zas.1 h j i hj hi h1
  rw[e,Hw] at this;cases this
theorem Akx {l:List Cell} (h:l.Pairwise fun a b=>Az a.dot b.dot=true) {y:Cell} (hy:y∈l):∃ k,Cx l y.dot=some k/\∃ hk:k<l.length,l[k]=y:=by
 cases hc:Cx l y.dot with
 |none=>
  exfalso
  have:=Zah.1 hc y hy
  simp at this
 |some k=>
  obtain⟨hk,e⟩:=Bs hc
  exact⟨k,rfl,hk,Apl h (Zae hk) hy e⟩
theorem Aso {s:State}:B6 s=true↔OkS s:=by
 unfold B6
 simp only[Zaa]
 constructor
 ·rintro⟨h1,h2,h3,h4,h5⟩
  have hc:=Xz h4
  have hl:=A2l h3
  simp only[Fc,Zaa,Bp,talP,decide_eq_true_eq] at h2
  simp only[Kz,Zaa,Bp,livP,decide_eq_true_eq] at h3
  simp only[Je,Zaa,Bp,celP,decide_eq_true_eq] at h4
  refine {kn:=h1,tl:=Tv (lt:=Af) (fun a b c=>Kb.trans a b c) fun i hi=>(h2.1 i hi).2,t1:=Kg.1 fun i hi=>(h2.1 i hi).1,tn:=h2.2,ll:=hl,l1:=fun x hx=>⟨Kg.1 (fun i hi=>(h3.1 i hi).1) x hx,Kg.1 (fun i hi=>(h3.1 i hi).2.1) x hx⟩,ln:=h3.2,cl:=hc,c1:=fun x hx=>⟨Kg.1 (fun i hi=>(h4.1 i hi).1) x hx,Kg.1 (fun i hi=>(h4.1 i hi).2.1) x hx⟩,cn:=h4.2,rf:=fun c hcm=> ?_}
  have:=Zba.1 h5 c hcm
  unfold ref1 at this
  simp only[Za6,decide_eq_true_eq] at this
  refine this.imp (fun h=>h) fun h=> ?_
  split at h
  ·cases h
  ·rename_i k hk
   obtain⟨hkl,e⟩:=Bs hk
   rw[Br hkl] at h
   simp only[Zaa,decide_eq_true_eq] at h
   exact⟨_,Zae hkl,e,h.1,h.2⟩
 ·intro h
  refine⟨h.kn,?_,?_,?_,?_⟩
  ·simp only[Fc,Zaa,Bp,talP,decide_eq_true_eq]
   exact⟨fun i hi=>⟨Kg.2 h.t1 i hi,Aaw h.tl i hi⟩,h.tn⟩
  ·simp only[Kz,Zaa,Bp,livP,decide_eq_true_eq]
   exact⟨fun i hi=>⟨Kg.2 (fun x hx=>(h.l1 x hx).1) i hi,Kg.2 (fun x hx=>(h.l1 x hx).2) i hi,Aaw (lt:=C5) h.ll i hi⟩,h.ln⟩
  ·simp only[Je,Zaa,Bp,celP,decide_eq_true_eq]
   exact⟨fun i hi=>⟨Kg.2 (fun x hx=>(h.c1 x hx).1) i hi,Kg.2 (fun x hx=>(h.c1 x hx).2) i hi,Aaw (lt:=Dk) h.cl i hi⟩,h.cn⟩
  ·refine Zba.2 fun c hc=> ?_
   unfold ref1
   simp only[Za6,decide_eq_true_eq]
   refine(h.rf c hc).imp (fun h=>h) fun⟨y,hy,e1,e2,e3⟩=> ?_
   obtain⟨k,hk,hkl,ek⟩:=Akx h.cl hy
   rw[<- e1,hk]
   simp only
   rw[Br hkl,ek]
   simp[e2,e3]
theorem O3 {Y:Type} {lt:Y->Y->Bool} {x y:Y} {l:List Y}:y∈insB lt x l↔y=x∨y∈l:=by
 rw[(Ly lt x l).mem_iff,Zal]
theorem Aax {Y:Type} {lt:Y->Y->Bool} (ht:∀ a b c,lt a b=true->lt b c=true->lt a c=true) {x:Y}:∀ {l:List Y},l.Pairwise (fun a b=>lt a b=true)->(∀ y∈l,lt x y=true∨lt y x=true)->(insB lt x l).Pairwise fun a b=>lt a b=true
 |[],_,_=>by simp[insB]
 |k::r,h,hx=>by
  obtain⟨h1,h2⟩:=Za0.1 h
  unfold insB
  split
  ·rename_i hk
   refine Za0.2 ⟨fun y hy=> ?_,h⟩
   rcases Zal.1 hy with rfl|hy
   ·exact hk
   ·exact ht _ _ _ hk (h1 y hy)
  ·rename_i hk
   refine Za0.2 ⟨fun y hy=> ?_,Aax ht h2 fun y hy=>hx y (Zat _ hy)⟩
   rcases O3.1 hy with rfl|hy
   ·exact(hx k Zaw).resolve_left hk
   ·exact h1 y hy
theorem Zf {Y β:Type} {f:Y->Y} {g:Y->β} (h:∀ x,g (f x)=g x):∀(l:List Y) (k:Nat),(l.modify k f).map g=l.map g
 |[],k=>by simp
 |x::l,0=>by simp[h]
 |x::l,k+1=>by simp[Zax,Zf h l k]
theorem Zg {Y:Type} {f:Y->Y}:∀ {l:List Y} {k:Nat} {x:Y},x∈l.modify k f->∃ y∈l,x=y∨x=f y
 |[],k,x,h=>by simp at h
 |y::l,0,x,h=>by
  simp only[List.modify_zero_cons,Zal] at h
  rcases h with h|h
  ·exact⟨y,Zaw,.inr h⟩
  ·exact⟨x,Zat _ h,.inl rfl⟩
 |y::l,k+1,x,h=>by
  simp only[Zax,Zal] at h
  rcases h with h|h
  ·exact⟨y,Zaw,.inl h⟩
  ·obtain⟨z,hz,e⟩:=Zg h
   exact⟨z,Zat _ hz,e⟩
theorem A8v {Y:Type} {f:Y->Y}:∀ {l:List Y} {k:Nat} {y:Y},y∈l->∃ x∈l.modify k f,x=y∨x=f y
 |[],k,x,h=>by simp at h
 |y::l,0,x,h=>by
  rcases Zal.1 h with rfl|h
  ·exact⟨f x,by simp,.inr rfl⟩
  ·exact⟨x,by simp[h],.inl rfl⟩
 |y::l,k+1,x,h=>by
  rcases Zal.1 h with rfl|h
  ·exact⟨x,by simp[Zax],.inl rfl⟩
  ·obtain⟨z,hz,e⟩:=A8v (k:=k) h
   exact⟨z,by simp[Zax,hz],e⟩
theorem Anf {l:List Int} {r q:Int} {v:Int} (hr:0<=r) (hq:0<=q) (hl:r.toNat<l.length):at0 (l.set r.toNat v) q=if q=r then v else at0 l q:=by
 unfold at0
 rw[Za7,Za7,List.getElem?_set]
 by_cases h:q=r
 ·subst h;simp[hl]
 ·have:¬ r.toNat=q.toNat:=by omega
  rw[if_neg this,if_neg h]
structure Fits (s:State) (a:Act):Prop where
 dot:Ik a.dot=true
 seq:a.dot.seq=at0 s.know a.dot.rep+1
 new:As s.know a.dot=false
 kn:okK (s.know.set a.dot.rep.toNat a.dot.seq)=true
 mono:∀ d,As s.know d=true->As (s.know.set a.dot.rep.toNat a.dot.seq) d=true
 self:As (s.know.set a.dot.rep.toNat a.dot.seq) a.dot=true
theorem kLe_at:∀ {a b:List Int},a.length=b.length->kLe a b=true->∀ i:Nat,a.getD i 0<=b.getD i 0:=by
 intro a
 induction a with
 |nil=>intro b hl _ i;cases b with
  |nil=>simp
  |cons _ _=>simp at hl
 |cons x a ih=>
  intro b hl h i
  cases b with
  |nil=>simp at hl
  |cons y b=>
   simp only[kLe,Zaa,decide_eq_true_eq] at h
   cases i with
   |zero=>simpa using h.1
   |succ i=>simpa using ih (by simpa using hl) h.2 i
theorem Asp {s:State} {a:Act} (hs:okK s.know=true) (ha:Ew a=true) (hn:As s.know a.dot=false) (hk:Gf a.knew s.know=true):Fits s a:=by
 simp only[Ew,Zaa,decide_eq_true_eq] at ha
 obtain⟨h1,h2,h3,h4⟩:=ha
 simp only[Gf,Zaa] at hk
 have hle:=kLe_at (by rw[D8 hk.1,D8 hs]) hk.2.2 a.dot.rep.toNat
 have hle:at0 a.knew a.dot.rep<=at0 s.know a.dot.rep:=hle
 have hd:=h1
 simp only[Ik,Zaa,Di] at hd
 have hnot:¬ a.dot.seq<=at0 s.know a.dot.rep:=by
  intro h
  have:As s.know a.dot=true:=by unfold As;rw[hs,h1];simpa using h
  rw[hn] at this;cases this
 have hlen:=D8 hs
 have hr:a.dot.rep.toNat<s.know.length:=by omega
 have e:a.dot.seq=at0 s.know a.dot.rep+1:=by omega
 have hkn:okK (s.know.set a.dot.rep.toNat a.dot.seq)=true:=by
  simp only[okK,Zaa,Zba,decide_eq_true_eq] at hs ⊢
  refine⟨fun x hx=> ?_,by rw[List.length_set];exact hs.2⟩
  rcases List.mem_or_eq_of_mem_set hx with h|h
  ·exact hs.1 x h
  ·rw[h];exact Di.2 ⟨by omega,by omega⟩
 refine⟨h1,e,hn,hkn,fun d hd'=> ?_,?_⟩
 ·simp only[As,Zaa,decide_eq_true_eq] at hd' ⊢
  refine⟨⟨hkn,hd'.1.2⟩,?_⟩
  have hq:=hd'.1.2
  simp only[Ik,Zaa,Di] at hq
  rw[Anf (by omega) (by omega) hr]
  split
  ·rename_i hq2;rw[hq2] at hd';omega
  ·exact hd'.2
 ·simp only[As,Zaa,decide_eq_true_eq]
  refine⟨⟨hkn,h1⟩,?_⟩
  rw[Anf (by omega) (by omega) hr,if_pos rfl]
  omega
theorem Ang {l:List Tally} {obj:ByteArray} {rep val:Int} (hp:l.Pairwise fun a b=>Af a b=true) (h1:∀ t∈l,tal1 t=true) (hn:Ea obj=true) (hr:inB rep 0 2=true) (hv:0<=val/\val<=999999):
  (Eb l obj rep val).Pairwise (fun a b=>Af a b=true)/\∀ t∈Eb l obj rep val,tal1 t=true:=by
 unfold Eb
 split
 ·rename_i i hi
  constructor
  ·have e:((l.modify i fun t=>{t with sum:=addM t.sum val}).map fun t=>(⟨t.obj,t.rep,0⟩:Tally))=l.map fun t=>(⟨t.obj,t.rep,0⟩:Tally):=Zf (f:=fun t=>{t with sum:=addM t.sum val}) (g:=fun t=>(⟨t.obj,t.rep,0⟩:Tally)) (fun _=>rfl) l i
   have h2:(l.map fun t=>(⟨t.obj,t.rep,0⟩:Tally)).Pairwise fun a b=>Af a b=true:=Zam.2 (hp.imp fun h=>h)
   rw[<- e] at h2
   exact(Zam.1 h2).imp fun h=>h
  ·intro t ht
   obtain⟨y,hy,e⟩:=Zg ht
   have hy1:=h1 y hy
   rcases e with rfl|rfl
   ·exact hy1
   ·simp only[tal1,Zaa,Di] at hy1 ⊢
    refine⟨hy1.1,hy1.2.1,?_⟩
    unfold addM
    rw[Int.tmod_eq_emod_of_nonneg (by omega)]
    omega
 ·rename_i hi
  constructor
  ·refine Aax (fun a b c=>Kb.trans a b c) hp fun y hy=> ?_
   have:=Zah.1 hi y hy
   cases h2:Af ⟨obj,rep,val⟩ y with
   |true=>exact .inl rfl
   |false=>
    cases h3:Af y ⟨obj,rep,val⟩ with
    |true=>exact .inr rfl
    |false=>
     obtain⟨e1,e2⟩:=A40 h2 h3
     have:In obj rep y=true:=J0.2 ⟨e1.symm,e2.symm⟩
     simp_all
  ·intro t ht
   rcases O3.1 ht with rfl|ht
   ·simp only[tal1,Zaa]
    exact⟨hn,hr,Di.2 hv⟩
   ·exact h1 t ht
theorem Anh {k:List Int} {a d:Dot} (hn:As k a=false) (hd:As k d=true):Az a d=true∨Az d a=true:=by
 cases h1:Az a d with
 |true=>exact .inl rfl
 |false=>
  cases h2:Az d a with
  |true=>exact .inr rfl
  |false=>rw[Tu h1 h2,hd] at hn;cases hn
theorem A8w {l:List Live} {k k':List Int} {x:Live} (hp:l.Pairwise fun a b=>Az a.dot b.dot=true) (h1:∀ y∈l,As k y.dot=true/\liv1 y=true) (hm:∀ d,As k d=true->As k' d=true) (hn:As k x.dot=false) (hx:As k' x.dot=true/\liv1 x=true):
  (Hy x l).Pairwise (fun a b=>Az a.dot b.dot=true)/\∀ y∈Hy x l,As k' y.dot=true/\liv1 y=true:=by
 constructor
 ·exact Aax (lt:=C5) (fun a b c h1 h2=>Il h1 h2) hp fun y hy=>Anh hn (h1 y hy).1
 ·intro y hy
  rcases O3.1 hy with rfl|hy
  ·exact hx
  ·exact⟨hm _ (h1 y hy).1,(h1 y hy).2⟩
theorem Aky {l:List Cell} {k k':List Int} {x:Cell} (hp:l.Pairwise fun a b=>Az a.dot b.dot=true) (h1:∀ y∈l,As k y.dot=true/\cel1 y=true) (hm:∀ d,As k d=true->As k' d=true) (hn:As k x.dot=false) (hx:As k' x.dot=true/\cel1 x=true):
  (Kc x l).Pairwise (fun a b=>Az a.dot b.dot=true)/\∀ y∈Kc x l,As k' y.dot=true/\cel1 y=true:=by
 constructor
 ·exact Aax (lt:=Dk) (fun a b c h1 h2=>Il h1 h2) hp fun y hy=>Anh hn (h1 y hy).1
 ·intro y hy
  rcases O3.1 hy with rfl|hy
  ·exact hx
  ·exact⟨hm _ (h1 y hy).1,(h1 y hy).2⟩
theorem A8x {l:List Cell} {d:Dot} {x:Cell} (h:x∈J1 l d):∃ y∈l,x=y∨x={y with gone:=true}:=by
 unfold J1 at h
 split at h
 ·exact Zg h
 ·exact⟨x,h,.inl rfl⟩
theorem Akz {l:List Cell} {d:Dot} {y:Cell} (h:y∈l):∃ x∈J1 l d,x=y∨x={y with gone:=true}:=by
 unfold J1
 split
 ·exact A8v h
 ·exact⟨y,h,.inl rfl⟩
theorem A4q (l:List Cell) (d:Dot):(J1 l d).map (·.dot)=l.map (·.dot):=by
 unfold J1
 split
 ·exact Zf (f:=fun c:Cell=>{c with gone:=true}) (g:=fun c=>c.dot) (fun _=>rfl) _ _
 ·rfl
theorem Al0 (l:List Cell) (d:Dot):(J1 l d).length=l.length:=by
 have:=congrArg List.length (A4q l d)
 simpa using this
theorem Apm {s:State} {a:Act} (h:OkS s) (ha:Dj a=true) (hn:As s.know a.dot=false) (hk:Gf a.knew s.know=true) (hr:Jn s a=true) (ht:F6 (Jm s a)=false):OkS (Jm s a):=by
 simp only[Dj,Zaa] at ha
 obtain⟨hh,hpl,hrf⟩:=ha
 have F:=Asp h.kn hh hn hk
 simp only[C7,Zaa,Di] at hpl
 obtain⟨hkd,hob,hky,hvl⟩:=hpl
 simp only[F6,Bool.or_eq_false_iff,decide_eq_false_iff_not,Nat.not_lt] at ht
 obtain⟨ht1,ht2,ht3⟩:=ht
 have hd:=F.dot
 simp only[Ik,Zaa] at hd
 have htime:inB a.time 1 10000=true:=by
  simp only[Ew,Zaa] at hh;exact hh.2.2.2
 have L1:∀ x∈s.lives,As (s.know.set a.dot.rep.toNat a.dot.seq) x.dot=true/\liv1 x=true:=fun x hx=>⟨F.mono _ (h.l1 x hx).1,(h.l1 x hx).2⟩
 have C1:∀ x∈s.cells,As (s.know.set a.dot.rep.toNat a.dot.seq) x.dot=true/\cel1 x=true:=fun x hx=>⟨F.mono _ (h.c1 x hx).1,(h.c1 x hx).2⟩
 have hval:Rd a.kind=true->0<=a.val/\a.val<=999999:=fun hv=>by
  simp only[Se,Za6,Zaa,beq_iff_eq,Di] at hvl
  rcases hvl with h|h
  ·omega
  ·exact h.2
 have hkeyed:A6w a.kind=true->Ea a.key=true:=fun hk=>by rw[if_pos hk] at hky;exact hky
 revert ht1 ht2 ht3
 unfold Jm Da
 repeat' split
 all_goals intro ht1 ht2 ht3
 ·rename_i hkind
  have T:=Ang (obj:=a.obj) (rep:=a.dot.rep) (val:=a.val) h.tl h.t1 hob hd.1 (hval (by rw[hkind];rfl))
  exact {kn:=F.kn,tl:=T.1,t1:=T.2,tn:=ht1,ll:=h.ll,l1:=L1,ln:=h.ln,cl:=h.cl,c1:=C1,cn:=h.cn,rf:=h.rf}
 ·rename_i _ hkind
  have T:=A8w (x:=⟨false,a.obj,a.key,0,a.dot⟩) h.ll h.l1 F.mono F.new ⟨F.self,by simp only[liv1,Zaa];exact⟨hob,hkeyed (by rw[hkind];rfl),by decide,by simp⟩⟩
  exact {kn:=F.kn,tl:=h.tl,t1:=h.t1,tn:=h.tn,ll:=T.1,l1:=T.2,ln:=ht2,cl:=h.cl,c1:=C1,cn:=h.cn,rf:=h.rf}
 ·exact {kn:=F.kn,tl:=h.tl,t1:=h.t1,tn:=h.tn,ll:=h.ll.filter _,l1:=fun x hx=>L1 x (Zag.1 hx).1,ln:=ht2,cl:=h.cl,c1:=C1,cn:=h.cn,rf:=h.rf}
 ·rename_i _ _ _ hkind
  have T:=A8w (l:=s.lives.filter (Lz true a.obj a.key a.knew)) (x:=⟨true,a.obj,a.key,a.val,a.dot⟩) (h.ll.filter _) (fun y hy=>h.l1 y (Zag.1 hy).1) F.mono F.new ⟨F.self,by simp only[liv1,Zaa];exact⟨hob,hkeyed (by rw[hkind];rfl),Di.2 (hval (by rw[hkind];rfl)),by simp⟩⟩
  exact {kn:=F.kn,tl:=h.tl,t1:=h.t1,tn:=h.tn,ll:=T.1,l1:=T.2,ln:=ht2,cl:=h.cl,c1:=C1,cn:=h.cn,rf:=h.rf}
 ·exact {kn:=F.kn,tl:=h.tl,t1:=h.t1,tn:=h.tn,ll:=h.ll.filter _,l1:=fun x hx=>L1 x (Zag.1 hx).1,ln:=ht2,cl:=h.cl,c1:=C1,cn:=h.cn,rf:=h.rf}
 ·rename_i _ _ _ _ _ hkind
  have T:=Aky (x:=⟨a.obj,a.dot,a.time,a.ref,a.val,false⟩) h.cl h.c1 F.mono F.new ⟨F.self,by simp only[cel1,Zaa];exact⟨hob,Di.2 (hval (by rw[hkind];rfl)),htime⟩⟩
  refine {kn:=F.kn,tl:=h.tl,t1:=h.t1,tn:=h.tn,ll:=h.ll,l1:=L1,ln:=h.ln,cl:=T.1,c1:=T.2,cn:=ht3,rf:=fun c hc=> ?_}
  rcases O3.1 hc with rfl|hc
  ·by_cases hz:a.ref=d0
   ·exact .inl hz
   ·right
    unfold Jn at hr
    rw[if_pos (.inr ⟨hkind,hz⟩)] at hr
    split at hr
    ·rename_i k hkx
     obtain⟨hkl,e⟩:=Bs hkx
     rw[Br hkl] at hr
     simp only[Zaa,Za6,decide_eq_true_eq] at hr
     exact⟨s.cells[k],O3.2 (.inr (Zae hkl)),e,hr.1,hr.2.resolve_left (by omega)⟩
    ·cases hr
  ·rcases h.rf c hc with hz|⟨y,hy,e⟩
   ·exact .inl hz
   ·exact .inr ⟨y,O3.2 (.inr hy),e⟩
 ·have hdots:(J1 s.cells a.ref).Pairwise fun a b=>Az a.dot b.dot=true:=by
   have h2:(s.cells.map (·.dot)).Pairwise fun a b=>Az a b=true:=Zam.2 h.cl
   rw[<- A4q s.cells a.ref] at h2
   exact Zam.1 h2
  refine {kn:=F.kn,tl:=h.tl,t1:=h.t1,tn:=h.tn,ll:=h.ll,l1:=L1,ln:=h.ln,cl:=hdots,c1:=fun x hx=> ?_,cn:=by rw[Al0];exact h.cn,rf:=fun c hc=> ?_}
  ·obtain⟨y,hy,e⟩:=A8x hx
   rcases e with rfl|rfl
   ·exact C1 x hy
   ·exact C1 y hy
  ·obtain⟨y,hy,e⟩:=A8x hc
   have key:∀ r,(r=d0∨∃ z∈s.cells,z.dot=r/\z.obj=y.obj/\z.time<y.time)->r=d0∨∃ z∈J1 s.cells a.ref,z.dot=r/\z.obj=y.obj/\z.time<y.time:=fun r hr=>hr.imp id fun⟨z,hz,q1,q2,q3⟩=>by
    obtain⟨x,hx,e⟩:=Akz (d:=a.ref) hz
    rcases e with rfl|rfl
    ·exact⟨x,hx,q1,q2,q3⟩
    ·exact⟨_,hx,q1,q2,q3⟩
   have:=key _ (h.rf y hy)
   rcases e with rfl|rfl
   ·exact this
   ·exact this
theorem A2m {s:State} (a:Act) (h:OkS s):OkS (Bi s a).1:=by
 unfold Bi
 split
 ·exact h
 ·rename_i h1
  have h1:B6 s=true/\Dj a=true:=by simpa using h1
  split
  ·exact h
  ·rename_i h2
   split
   ·exact h
   ·rename_i h3
    split
    ·exact h
    ·rename_i h4
     split
     ·exact h
     ·rename_i h5
      exact Apm h h1.2 (by simpa using h2) (by simpa using h3) (by simpa using h4) (by simpa using h5)
theorem Gh {s:ByteArray} (h:Ea s=true):s.size<=8:=by
 simp only[Ea,Zaa,Di] at h
 omega
theorem O4 {Y:Type} {f:Y->Nat} {l:List Y} {n:Nat} (h:∀ x∈l,f x<=n):sumL f l<=l.length*n:=by
 induction l with
 |nil=>simp[sumL]
 |cons x l ih=>
  have h1:=h x Zaw
  have h2:=ih fun y hy=>h y (Zat _ hy)
  have:sumL f (x::l)=f x+sumL f l:=by simp[sumL]
  rw[this,List.length_cons,Nat.add_mul];omega
theorem OkS.ms {s:State} (h:OkS s):Ad s<=5000:=by
 have k:=D8 h.kn
 have a1:=O4 (f:=Bl) (l:=s.tallies) (n:=8) fun t ht=>by
  have:=h.t1 t ht
  simp only[tal1,Zaa] at this
  exact Gh this.1
 have a2:=O4 (f:=G6) (l:=s.lives) (n:=16) fun t ht=>by
  have:=(h.l1 t ht).2
  simp only[liv1,Zaa] at this
  have h1:=Gh this.1
  have h2:=Gh this.2.1
  unfold G6;omega
 have a3:=O4 (f:=Ht) (l:=s.cells) (n:=8) fun t ht=>by
  have:=(h.c1 t ht).2
  simp only[cel1,Zaa] at this
  exact Gh this.1
 have:=h.tn
 have:=h.ln
 have:=h.cn
 unfold Ad
 omega
theorem OkS.time {s:State} (h:OkS s):∀ c∈s.cells,1≤c.time/\c.time<=10000:=fun c hc=>by
 have:=(h.c1 c hc).2
 simp only[cel1,Zaa,Di] at this
 exact this.2.2
theorem A8y:OkS ⟨[0,0,0],[],[],[]⟩:={kn:=by decide,tl:=.nil,t1:=fun _ h=>(by cases h),tn:=by decide,ll:=.nil,l1:=fun _ h=>(by cases h),ln:=by decide,cl:=.nil,c1:=fun _ h=>(by cases h),cn:=by decide,rf:=fun _ h=>(by cases h)}
def A4s:Fn1:=⟨103,[.t 2],(rg [oX 1 0,oV 2 kf] (.seq (rg [oF 9 0 1,oL 10 9,oF 11 1 1,oL 12 11,oD 13 177 10 12,oU 14 13,oM 15 14,vF 16 15 2 1,vL 17 15 16,vC 18 15 285 17,vU 19 15 18,oP 20 15 19,oM 21 20,vF 22 21 3 1,vL 23 21 22,vF 24 21 1 1,vL 25 21 24,vD 26 21 286 23 25,vU 27 21 26,oP 28 21 27,oM 29 28,vF 30 29 5 1,vL 31 29 30,vF 32 29 1 1,vL 33 29 32,vD 34 29 287 31 33,vU 35 29 34,oP 36 29 35,oM 37 36,vF 38 37 4 1,vL 39 37 38,og 40 37 false (.len false (.t 39)),vE 41 37 .gtr 40 120,oP 42 37 41] (oG 42 (oR 2 kf))) (.seq (rg [oF 43 3 1,oL 44 43,oN 45 44,oV 46 (ki 0)] (oH 0 (rg [oB 47 .lss 46 45] (.seq (oJ 47 0) (.seq (.blk 1 (rg [oI 48 6 44 46,oW 49 6 48,o 4 (.new [(.bool false),s0,s0,z0,z0,z0]),oS 6 4 49] (rg [oF 50 0 1,oL 51 50,oF 52 4 4,oW 53 2 52,oD 54 170 51 53] (oG 54 (oR 2 kf))))) (.reg [oZ 55 46 1,oM 46 55])))))) (.seq (rg [oF 56 4 1,oL 57 56,oN 58 57,oV 59 (ki 0)] (oH 2 (rg [oB 60 .lss 59 58] (.seq (oJ 60 2) (.seq (.blk 3 (rg [oM 61 59,oI 62 2 57 59,oW 63 2 62,o 6 (.new [z0,z0]),oM 5 61,oS 2 6 63] (dw [oF 64 0 1,oL 65 64,oW 66 2 6,oD 67 170 65 66,oU 68 67,oM 69 68,vM 70 69 5,vE 71 69 .gtr 70 0,vM 72 69 71,jF 73 72 4 1,jL 74 72 73,jM 75 72 5,jE 76 72 .sub 75 1,jI 77 72 2 74 76,jW 78 72 2 77,jW 79 72 2 6] [jD 80 72 306 78 79,jE 81 72 .geq 80 0,og 82 69 false (.pick (.t 72) (.t 81) kf),oP 83 69 82] (oG 83 (oR 2 kf))))) (.reg [oZ 84 59 1,oM 59 84])))))) (.seq (rg [oF 85 5 1,oL 86 85,oN 87 86,oV 88 (ki 0)] (oH 4 (rg [oB 89 .lss 88 87] (.seq (oJ 89 4) (.seq (.blk 5 (rg [oI 90 8 86 88,oW 91 8 90,o 8 (.new [s0,z0,z0,z0,z0,z0,z0,(.bool false)]),oS 8 8 91] (rg [oF 92 4 8,oW 93 2 92,o 94 (.build [z0,z0] []),o 95 (.eqs true [.i .i64,.i .i64] (.t 93) (.t 94)),oM 96 95,jF 97 96 4 8,jW 98 96 2 97,jC 99 96 272 98,jU 100 96 99,oQ 101 96 100] (oG 101 (oR 2 kf))))) (.reg [oZ 102 88 1,oM 88 102])))))) (oR 2 kt))))))⟩
theorem Ael:A8 Tryz.prog 225=some A4s:=by kernel_rfl
def A4u:Fn1:=⟨36,[.t 2],(rg [oV 2 kf] (.seq (rg [oV 3 (ki 0)] (oH 0 (.seq (rg [oM 4 3,oM 5 0,oN 6 5,oB 7 .lss 4 6] (oJ 7 0)) (.seq (.blk 1 (dw [oM 10 0,oM 11 3,oI 12 2 10 11,oW 13 2 12,oC 14 168 13,oU 15 14,oM 16 15,vM 17 16 3,vE 18 16 .gtr 17 0,vM 19 16 18,jM 20 19 0,jM 21 19 3,jE 22 19 .sub 21 1,jI 23 19 2 20 22,jW 24 19 2 23,jM 25 19 0,jM 26 19 3,jI 27 19 2 25 26,jW 28 19 2 27] [jD 29 19 362 24 28,jU 30 19 29,og 31 16 false (.pick (.t 19) (.t 30) kf),oP 32 16 31] (oG 32 (oR 2 kf)))) (.reg [oM 8 3,oZ 9 8 1,oM 3 9]))))) (rg [oM 33 0,oN 34 33,oE 35 .leq 34 120,oM 2 35] .ret)))⟩
theorem Aem:A8 Tryz.prog 304=some A4u:=by kernel_rfl
def A4w:Fn1:=⟨97,[.t 2],(rg [oX 1 0,oV 2 kf] (.seq (rg [oF 6 0 1,oL 7 6,oF 8 1 1,oL 9 8,oD 10 178 7 9,oU 11 10,oM 12 11,vF 13 12 2 1,vL 14 12 13,vC 15 12 290 14,vU 16 12 15,oP 17 12 16,oM 18 17,vF 19 18 3 1,vL 20 18 19,vC 21 18 291 20,vU 22 18 21,oP 23 18 22,oM 24 23,vF 25 24 5 1,vL 26 24 25,vC 27 24 292 26,vU 28 24 27,oP 29 24 28,oM 30 29,vF 31 30 4 1,vL 32 30 31,vC 33 30 304 32,vU 34 30 33,oP 35 30 34] (oG 35 (oR 2 kf))) (.seq (rg [oV 3 (ki 0)] (oH 0 (.seq (rg [oM 36 3,oF 37 3 1,oL 38 37,oN 39 38,oB 40 .lss 36 39] (oJ 40 0)) (.seq (.blk 1 (dw [oF 43 1 1,oL 44 43,oF 45 3 1,oL 46 45,oM 47 3,oI 48 6 46 47,oF 49 4 48,oW 50 2 49,oD 51 45 44 50,oU 52 51,oM 53 52,vF 54 53 0 1,vL 55 53 54,vF 56 53 3 1,vL 57 53 56,vM 58 53 3,vI 59 53 6 57 58,vF 60 53 4 59,vW 61 53 2 60] [vD 62 53 45 55 61,oP 63 53 62] (oG 63 (oR 2 kf)))) (.reg [oM 41 3,oZ 42 41 1,oM 3 42]))))) (.seq (rg [oV 4 (ki 0)] (oH 2 (.seq (rg [oM 64 4,oF 65 4 1,oL 66 65,oN 67 66,oB 68 .lss 64 67] (oJ 68 2)) (.seq (.blk 3 (dw [oF 71 0 1,oL 72 71,oF 73 4 1,oL 74 73,oM 75 4,oI 76 2 74 75,oW 77 2 76] [oD 78 45 72 77,oU 79 78] (oG 79 (oR 2 kf)))) (.reg [oM 69 4,oZ 70 69 1,oM 4 70]))))) (.seq (rg [oV 5 (ki 0)] (oH 4 (.seq (rg [oM 80 5,oF 81 5 1,oL 82 81,oN 83 82,oB 84 .lss 80 83] (oJ 84 4)) (.seq (.blk 5 (dw [oF 87 1 1,oL 88 87,oF 89 5 1,oL 90 89,oM 91 5,oI 92 8 90 91,oF 93 1 92,oW 94 2 93] [oD 95 45 88 94,oU 96 95] (oG 96 (oR 2 kf)))) (.reg [oM 85 5,oZ 86 85 1,oM 5 86]))))) (oR 2 kt))))))⟩
theorem Aen:A8 Tryz.prog 219=some A4w:=by kernel_rfl
def newL (k:List Int) (l:List Live) (i:Nat):Bool:=onI l i fun x=> !As k x.dot
def Ahx (k:List Int) (l:List Dot) (i:Nat):Bool:=onI l i (As k)&&upI Az l i
def dotP (l:List Dot) (i:Nat):Bool:=onI l i Ik&&upI Az l i
def A4x (l:List Dot):Bool:=allR l.length (dotP l)&&decide (l.length<=120)
def refP (l:List Cell) (i:Nat):Bool:=onI l i refD
def Bt (d:Delta):Bool:=Gf d.base d.know&&(Fc d.tallies&&(Kz d.lives d.know&&(Je d.cells d.know&&(decide (d.dead.length<=120)&&(allR d.lives.length (newL d.base d.lives)&&(allR d.dead.length (Ahx d.base d.dead)&&allR d.cells.length (refP d.cells)))))))
def midL (k b:List Int) (l:List Live) (i:Nat):Bool:=onI l i fun x=>As k x.dot&& !As b x.dot
def E4 (d:Delta):Bool:=Gf d.base d.know&&(Fc d.tallies&&(Ade d.lives&&(Adf d.cells&&(A4x d.dead&&(allR d.lives.length (midL d.know d.base d.lives)&&(allR d.dead.length (fun i=>onI d.dead i (As d.base))&&allR d.cells.length (fun i=>onI d.cells i fun x=>As d.know x.dot)))))))
theorem Asq {Y:Type} (l:List Y) (i:Nat) (p q:Y->Bool):(onI l i fun x=>p x&&q x)=(onI l i p&&onI l i q):=by
 unfold onI
 cases l[i]? <;>rfl
theorem Ahy {Y:Type} {l:List Y} {i:Nat} {p q:Y->Bool} (h:∀ x,p x=true->q x=true) (hp:onI l i p=true):onI l i q=true:=by
 unfold onI at*
 cases hl:l[i]? with
 |none=>rfl
 |some x=>rw[hl] at hp;exact h x hp
theorem Ahz (d:Delta):E4 d=Bt d:=by
 rw[Zbl]
 simp only[E4,Bt,Ade,Kz,Adf,Je,A4x,Zaa,Bp,Ah2,livP,Ah3,celP,dotP,Ahx,midL,newL,refP,Asq,decide_eq_true_eq]
 constructor
 ·rintro⟨h1,h2,⟨h3,h3'⟩,⟨h4,h4'⟩,⟨h5,h5'⟩,h6,h7,h8⟩
  exact⟨h1,h2,⟨fun i hi=>⟨(h6 i hi).1,(h3 i hi).2⟩,h3'⟩,⟨fun i hi=>⟨h8 i hi,(h4 i hi).2.1,(h4 i hi).2.2.2⟩,h4'⟩,h5',fun i hi=>(h6 i hi).2,fun i hi=>⟨h7 i hi,(h5 i hi).2⟩,fun i hi=>(h4 i hi).2.2.1⟩
 ·rintro⟨h1,h2,⟨h3,h3'⟩,⟨h4,h4'⟩,h5,h6,h7,h8⟩
  exact⟨h1,h2,⟨fun i hi=>⟨Ahy (fun x=>Ix) (h3 i hi).1,(h3 i hi).2⟩,h3'⟩,⟨fun i hi=>⟨Ahy (fun x=>Ix) (h4 i hi).1,(h4 i hi).2.1,h8 i hi,(h4 i hi).2.2⟩,h4'⟩,⟨fun i hi=>⟨Ahy (fun x=>Ix) (h7 i hi).1,(h7 i hi).2⟩,h5⟩,fun i hi=>⟨(h3 i hi).1,h6 i hi⟩,fun i hi=>(h7 i hi).1,fun i hi=>(h4 i hi).1⟩
theorem Fs {d:Delta} {n:Nat} (h:Au d<=n):d.base.length<=n/\d.know.length<=n/\d.tallies.length<=n/\d.lives.length<=n/\d.dead.length<=n/\d.cells.length<=n/\(∀ x∈d.tallies,x.obj.size<=n)/\(∀ x∈d.lives,x.obj.size<=n/\x.key.size<=n)/\∀ x∈d.cells,x.obj.size<=n:=by
 unfold Au at h
 refine⟨by omega,by omega,by omega,by omega,by omega,by omega,fun x hx=> ?_,fun x hx=> ?_,fun x hx=> ?_⟩
 ·have:x.obj.size<=sumL Bl d.tallies:=Ev (f:=Bl) hx
  omega
 ·have:x.obj.size+x.key.size<=sumL G6 d.lives:=Ev (f:=G6) hx
  omega
 ·have:x.obj.size<=sumL Ht d.cells:=Ev (f:=Ht) hx
  omega
theorem Vt (N:St) (cs:List GV) (d:Delta) (hR:Aw.R N d cs) (hl:Au d<=1099511627776):Ret Tryz.prog 225 [.agg cs] N (.bool (Bt d)) N:=by
 obtain⟨v0,v1,v2,v3,v4,v5,rfl,q0,q1,q2,q3,q4,q5⟩:=hR
 obtain⟨l0,l1,l2,l3,l4,l5,t2,t3,t5⟩:=Fs hl
 refine Cb Ael (Z0z rfl) trivial ?_
 simp +contextual only[go_sem,A4s]
 intro n f U H
 have S:=H.sub
 refine by_b H (Hh _ v0 v1 _ _ (q0.pre S) (q1.pre S) l0 l1) (fun h1=> ?_) (fun h1=> ?_)
 rotate_left
 ·simp only[go_sem]
  simp[Bt,h1]
 simp(disch:=omega) only[go_sem]
 refine by_b H (Pi _ v2 _ (q2.pre S) l2 t2) (fun h2=> ?_) (fun h2=> ?_)
 rotate_left
 ·simp only[go_sem]
  simp[Bt,h2]
 simp(disch:=omega) only[go_sem]
 refine by_b H (V4 _ v3 _ (q3.pre S) v1 _ (q1.pre S) l1 l3 t3) (fun h3=> ?_) (fun h3=> ?_)
 rotate_left
 ·simp only[go_sem]
  simp[Bt,h3]
 simp(disch:=omega) only[go_sem]
 refine by_b H (V5 _ v5 _ (q5.pre S) v1 _ (q1.pre S) l1 l5 t5) (fun h4=> ?_) (fun h4=> ?_)
 rotate_left
 ·simp only[go_sem]
  simp[Bt,h4]
 cases h5:decide (120<d.dead.length) with
 |true=>
  simp(disch:=omega) only[go_sem,q4.len,Ip,h5]
  have h5':=of_decide_eq_true h5
  have:decide (d.dead.length<=120)=false:=decide_eq_false (by omega)
  simp[Bt,this]
 |false=>
 have h5':d.dead.length<=120:=by have:=of_decide_eq_false h5;omega
 simp(disch:=omega) only[go_sem,q3.len,q4.len,Ip,h5]
 refine Ax d.lives.length 46 0 (fun i env h=>env 1= .ptr n 0/\env 44=v3/\env 45=gi d.lives.length/\(∀ j,j<i->newL d.base d.lives j=true)/\h=[.box 1 n [v0,v1,v2,v3,v4,v5]]) (fun env h=>env 1= .ptr n 0/\allR d.lives.length (newL d.base d.lives)=true/\h=[.box 1 n [v0,v1,v2,v3,v4,v5]]) (fun env h=>env 2= .bool (Bt d)) _ H (rfl) ⟨rfl,rfl,rfl,fun j hj=>by omega,rfl⟩ ?_ ?_ ?_ ?_
 ·rintro J Yq Wq hJ hY hW i env h U hi ei c0 H ⟨e1,e44,e45,ha,rfl⟩
  have L1:=Aa q3 hi
  have hat:newL d.base d.lives i= !As d.base d.lives[i].dot:=Br hi
  have no:newL d.base d.lives i=false->Bt d=false:=fun hh=>by simp[Bt,Im hi hh]
  simp +contextual (disch:=omega) only[go_sem,c0,e1,e44,e45,ei,A0,L1]
  intro m fm U1 _ U2 H2
  refine by_b H2 (Ch _ v0 _ _ (q0.pre H2.sub) l0) (fun k1=> ?_) (fun k1=> ?_)
  ·simp only[go_sem]
   exact hW _ _ _ H2 (by simp only[go_sem,no (by rw[hat,k1];rfl)])
  ·simp(disch:=omega) only[go_sem,e1,e44,e45,ei]
   exact hJ _ _ _ _ (H2.re [1] (by decide)) ⟨e1,e44,e45,Ci ha (by rw[hat,k1];rfl),rfl⟩
 ·rintro Yq hY env h U ei c0 H ⟨e1,e44,e45,ha,rfl⟩
  simp only[go_sem,c0,e45,ei]
  exact hY _ _ _ H ⟨e1,G0 ha,rfl⟩
 rotate_left
 ·rintro env h U H e2
  simp only[go_sem,e2]
 clear H S
 rintro env h U H ⟨e1,h6,rfl⟩
 simp(disch:=omega) only[go_sem,e1,q4.len]
 refine Ax d.dead.length 59 2 (fun i env h=>env 1= .ptr n 0/\env 57=v4/\env 58=gi d.dead.length/\(∀ j,j<i->Ahx d.base d.dead j=true)/\h=[.box 1 n [v0,v1,v2,v3,v4,v5]]) (fun env h=>env 1= .ptr n 0/\allR d.dead.length (Ahx d.base d.dead)=true/\h=[.box 1 n [v0,v1,v2,v3,v4,v5]]) (fun env h=>env 2= .bool (Bt d)) _ H (rfl) ⟨e1,rfl,rfl,fun j hj=>by omega,rfl⟩ ?_ ?_ ?_ ?_
 ·clear H e1
  rintro J Yq Wq hJ hY hW i env h U hi ei c0 H ⟨e1,e57,e58,ha,rfl⟩
  have L1:=P8 q4 hi
  have hat:Ahx d.base d.dead i=(As d.base d.dead[i]&&upI Az d.dead i):=by simp only[Ahx,Br hi]
  have no:Ahx d.base d.dead i=false->Bt d=false:=fun hh=>by simp[Bt,Im hi hh]
  simp +contextual (disch:=omega) only[go_sem,c0,e1,e57,e58,ei,A0,L1]
  intro m fm U1 _ U2 H2
  refine by_b H2 (Ch _ v0 _ _ (q0.pre H2.sub) l0) (fun k1=> ?_) (fun k1=> ?_)
  rotate_left
  ·simp only[go_sem]
   exact hW _ _ _ H2 (by simp only[go_sem,no (by rw[hat,k1];rfl)])
  rcases Zbf i with hz|hz
  ·subst hz
   simp(disch:=omega) only[go_sem,Zbr,decide_false,Int.lt_irrefl,e1,e57,e58,ei]
   exact hJ _ _ _ _ (H2.re [1] (by decide)) ⟨e1,e57,e58,Ci ha (by rw[hat,k1];rfl),rfl⟩
  ·have c1:decide ((0:Int)<i)=true:=by simp;omega
   have hj:i - 1<d.dead.length:=by omega
   have hu:=Lu (lt:=Az) (by omega) hi hj
   simp(disch:=omega) only[go_sem,c1,sub1 hz,P8 q4 hj,e1,e57,e58,ei]
   refine by_r H2 (Bx _ d.dead[i-1] d.dead[i]) ?_
   cases ho:Az d.dead[i-1] d.dead[i] with
   |true=>
    simp(disch:=omega) only[go_sem,Pc,ho,e1,e57,e58,ei]
    exact hJ _ _ _ _ (H2.re [1] (by decide)) ⟨e1,e57,e58,Ci ha (by rw[hat,k1,hu,ho];rfl),rfl⟩
   |false=>
    simp only[go_sem,Pc,ho]
    exact hW _ _ _ H2 (by simp only[go_sem,no (by rw[hat,k1,hu,ho];rfl)])
 ·clear H e1
  rintro Yq hY env h U ei c0 H ⟨e1,e57,e58,ha,rfl⟩
  simp only[go_sem,c0,e58,ei]
  exact hY _ _ _ H ⟨e1,G0 ha,rfl⟩
 rotate_left
 ·rintro env h U H e2
  simp only[go_sem,e2]
 clear H e1
 rintro env h U H ⟨e1,h7,rfl⟩
 simp(disch:=omega) only[go_sem,e1,q5.len]
 refine Ax d.cells.length 88 4 (fun i env h=>env 86=v5/\env 87=gi d.cells.length/\(∀ j,j<i->refP d.cells j=true)/\h=[]) (fun env h=>allR d.cells.length (refP d.cells)=true/\h=[]) (fun env h=>env 2= .bool (Bt d)) _ (H.re [] (by decide)) (rfl) ⟨rfl,rfl,fun j hj=>by omega,rfl⟩ ?_ ?_ ?_ ?_
 ·clear H e1
  rintro J Yq Wq hJ hY hW i env h U hi ei c0 H ⟨e86,e87,ha,rfl⟩
  have L1:=Ab q5 hi
  have hat:refP d.cells i=(decide (d.cells[i].ref=⟨0,0⟩)||Ik d.cells[i].ref):=Br hi
  have no:refP d.cells i=false->Bt d=false:=fun hh=>by simp[Bt,Im hi hh]
  cases k0:decide (d.cells[i].ref=⟨0,0⟩) with
  |true=>
   simp +contextual (disch:=omega) only[go_sem,c0,e86,e87,ei,A0,L1,k0]
   intro m fm U1 _ U2 H2
   exact hJ _ _ _ _ (H2.re [] (by decide)) ⟨e86,e87,Ci ha (by rw[hat,k0];rfl),rfl⟩
  |false=>
   simp +contextual only[go_sem,c0,e86,e87,ei,A0,L1,k0]
   intro m fm U1 _ U2 H2
   refine by_b H2 (Sb _ d.cells[i].ref) (fun k1=> ?_) (fun k1=> ?_)
   ·simp(disch:=omega) only[go_sem,e86,e87,ei]
    exact hJ _ _ _ _ (H2.re [] (by decide)) ⟨e86,e87,Ci ha (by rw[hat,k0,k1];rfl),rfl⟩
   ·simp only[go_sem]
    exact hW _ _ _ H2 (by simp only[go_sem,no (by rw[hat,k0,k1];rfl)])
 ·clear H e1
  rintro Yq hY env h U ei c0 H ⟨e86,e87,ha,rfl⟩
  simp only[go_sem,c0,e87,ei]
  exact hY _ _ _ H ⟨G0 ha,rfl⟩
 ·clear H e1
  rintro env h U H ⟨h8,rfl⟩
  simp only[go_sem]
  exact fun _=>by simp[Bt,h1,h2,h3,h4,h5',h6,h7,h8]
 ·rintro env h U H e2
  simp only[go_sem,e2]
theorem Aay (N:St) (v:GV) (l:List Dot) (h:RS pDot.kd N v l) (hl:l.length<=1099511627776):Ret Tryz.prog 304 [v] N (.bool (A4x l)) N:=by
 refine Cb Aem (Z0z rfl) trivial ?_
 simp only[go_sem,A4u]
 refine Ax l.length 3 0 (fun i env h=>env 0=v/\(∀ j,j<i->dotP l j=true)/\h=[]) (fun env h=>env 0=v/\allR l.length (dotP l)=true/\h=[]) (fun env h=>env 2= .bool (A4x l)) _ (Hx.refl N) (rfl) ⟨rfl,fun j hj=>by omega,rfl⟩ ?_ ?_ ?_ ?_
 ·rintro J Yq Wq hJ hY hW i env h U hi ei c0 H ⟨e0,ha,rfl⟩
  have L1:=P8 h hi
  have hat:dotP l i=(Ik l[i]&&upI Az l i):=by simp only[dotP,Br hi]
  have no:dotP l i=false->A4x l=false:=fun hh=>by simp[A4x,Im hi hh]
  simp only[go_sem,c0,e0,ei,A0,L1,h.len]
  refine by_b H (Gq _ l[i]) (fun k1=> ?_) (fun k1=> ?_)
  rotate_left
  ·simp only[go_sem]
   exact hW _ _ _ H (by simp only[go_sem,no (by rw[hat,k1];rfl)])
  rcases Zbf i with hz|hz
  ·subst hz
   simp(disch:=omega) only[go_sem,Zbr,decide_false,Int.lt_irrefl,e0,ei]
   exact hJ _ _ _ _ H ⟨e0,Ci ha (by rw[hat,k1];rfl),rfl⟩
  ·have c1:decide ((0:Int)<i)=true:=by simp;omega
   have hj:i - 1<l.length:=by omega
   have hu:=Lu (lt:=Az) (by omega) hi hj
   simp(disch:=omega) only[go_sem,c1,sub1 hz,P8 h hj,L1,A0,e0,ei]
   refine by_r H (Dm _ l[i-1] l[i]) ?_
   cases ho:Az l[i-1] l[i] with
   |true=>
    simp(disch:=omega) only[go_sem,e0,ei]
    exact hJ _ _ _ _ H ⟨e0,Ci ha (by rw[hat,k1,hu,ho];rfl),rfl⟩
   |false=>
    simp only[go_sem]
    exact hW _ _ _ H (by simp only[go_sem,no (by rw[hat,k1,hu,ho];rfl)])
 ·rintro Yq hY env h U ei c0 H ⟨e0,ha,rfl⟩
  simp only[go_sem,c0,e0,ei,h.len]
  exact hY _ _ _ H ⟨e0,G0 ha,rfl⟩
 ·rintro env h U H ⟨e0,ha,rfl⟩
  simp only[go_sem,e0,h.len]
  have:decide ((l.length:Int)<=120)=decide (l.length<=120):=by rw[decide_eq_decide];omega
  exact fun _=>by simp[A4x,ha,this]
 ·rintro env h U H e2
  simp only[go_sem,e2]
theorem Vu (N:St) (cs:List GV) (d:Delta) (hR:Aw.R N d cs) (hl:Au d<=1099511627776):Ret Tryz.prog 219 [.agg cs] N (.bool (Bt d)) N:=by
 rw[<- Ahz]
 obtain⟨v0,v1,v2,v3,v4,v5,rfl,q0,q1,q2,q3,q4,q5⟩:=hR
 obtain⟨l0,l1,l2,l3,l4,l5,t2,t3,t5⟩:=Fs hl
 refine Cb Aen (Z0z rfl) trivial ?_
 simp +contextual only[go_sem,A4w]
 intro n f U H
 have S:=H.sub
 refine by_b H (Hg _ v0 v1 _ _ (q0.pre S) (q1.pre S) l0 l1) (fun h1=> ?_) (fun h1=> ?_)
 rotate_left
 ·simp only[go_sem]
  simp[E4,h1]
 simp(disch:=omega) only[go_sem]
 refine by_b H (Oi _ v2 _ (q2.pre S) l2 t2) (fun h2=> ?_) (fun h2=> ?_)
 rotate_left
 ·simp only[go_sem]
  simp[E4,h2]
 simp(disch:=omega) only[go_sem]
 refine by_b H (Rh _ v3 _ (q3.pre S) l3 t3) (fun h3=> ?_) (fun h3=> ?_)
 rotate_left
 ·simp only[go_sem]
  simp[E4,h3]
 simp(disch:=omega) only[go_sem]
 refine by_b H (Ri _ v5 _ (q5.pre S) l5 t5) (fun h4=> ?_) (fun h4=> ?_)
 rotate_left
 ·simp only[go_sem]
  simp[E4,h4]
 simp(disch:=omega) only[go_sem]
 refine by_b H (Aay _ v4 _ (q4.pre S) l4) (fun h5=> ?_) (fun h5=> ?_)
 rotate_left
 ·simp only[go_sem]
  simp[E4,h5]
 simp only[go_sem]
 refine Ax d.lives.length 3 0 (fun i env h=>env 1= .ptr n 0/\(∀ j,j<i->midL d.know d.base d.lives j=true)/\h=[.box 1 n [v0,v1,v2,v3,v4,v5]]) (fun env h=>env 1= .ptr n 0/\allR d.lives.length (midL d.know d.base d.lives)=true/\h=[.box 1 n [v0,v1,v2,v3,v4,v5]]) (fun env h=>env 2= .bool (E4 d)) _ H (rfl) ⟨rfl,fun j hj=>by omega,rfl⟩ ?_ ?_ ?_ ?_
 ·rintro J Yq Wq hJ hY hW i env h U hi ei c0 H ⟨e1,ha,rfl⟩
  have L1:=Aa q3 hi
  have hat:midL d.know d.base d.lives i=(As d.know d.lives[i].dot&& !As d.base d.lives[i].dot):=Br hi
  have no:midL d.know d.base d.lives i=false->E4 d=false:=fun hh=>by simp[E4,Im hi hh]
  simp(disch:=omega) only[go_sem,c0,e1,ei,A0,L1,q3.len]
  refine by_b H (Ba _ v1 _ _ (q1.pre H.sub) l1) (fun k1=> ?_) (fun k1=> ?_)
  rotate_left
  ·simp only[go_sem]
   exact hW _ _ _ H (by simp only[go_sem,no (by rw[hat,k1];rfl)])
  simp(disch:=omega) only[go_sem,e1,ei,A0,L1]
  refine by_b H (Ba _ v0 _ _ (q0.pre H.sub) l0) (fun k2=> ?_) (fun k2=> ?_)
  ·simp only[go_sem]
   exact hW _ _ _ H (by simp only[go_sem,no (by rw[hat,k1,k2];rfl)])
  ·simp(disch:=omega) only[go_sem,e1,ei]
   exact hJ _ _ _ _ H ⟨e1,Ci ha (by rw[hat,k1,k2];rfl),rfl⟩
 ·rintro Yq hY env h U ei c0 H ⟨e1,ha,rfl⟩
  simp(disch:=omega) only[go_sem,c0,e1,ei,q3.len]
  exact hY _ _ _ H ⟨e1,G0 ha,rfl⟩
 rotate_left
 ·rintro env h U H e2
  simp only[go_sem,e2]
 clear H S
 rintro env h U H ⟨e1,h6,rfl⟩
 simp only[go_sem,e1]
 refine Ax d.dead.length 4 2 (fun i env h=>env 1= .ptr n 0/\(∀ j,j<i->onI d.dead j (As d.base)=true)/\h=[.box 1 n [v0,v1,v2,v3,v4,v5]]) (fun env h=>env 1= .ptr n 0/\allR d.dead.length (fun j=>onI d.dead j (As d.base))=true/\h=[.box 1 n [v0,v1,v2,v3,v4,v5]]) (fun env h=>env 2= .bool (E4 d)) _ H (rfl) ⟨e1,fun j hj=>by omega,rfl⟩ ?_ ?_ ?_ ?_
 ·clear H e1
  rintro J Yq Wq hJ hY hW i env h U hi ei c0 H ⟨e1,ha,rfl⟩
  have L1:=P8 q4 hi
  have hat:onI d.dead i (As d.base)=As d.base d.dead[i]:=Br hi
  have no:onI d.dead i (As d.base)=false->E4 d=false:=fun hh=>by simp[E4,Im (p:=fun j=>onI d.dead j (As d.base)) hi hh]
  simp(disch:=omega) only[go_sem,c0,e1,ei,A0,L1,q4.len]
  refine by_b H (Ba _ v0 _ _ (q0.pre H.sub) l0) (fun k1=> ?_) (fun k1=> ?_)
  ·simp(disch:=omega) only[go_sem,e1,ei]
   exact hJ _ _ _ _ H ⟨e1,Ci ha (by rw[hat,k1]),rfl⟩
  ·simp only[go_sem]
   exact hW _ _ _ H (by simp only[go_sem,no (by rw[hat,k1])])
 ·clear H e1
  rintro Yq hY env h U ei c0 H ⟨e1,ha,rfl⟩
  simp(disch:=omega) only[go_sem,c0,e1,ei,q4.len]
  exact hY _ _ _ H ⟨e1,G0 ha,rfl⟩
 rotate_left
 ·rintro env h U H e2
  simp only[go_sem,e2]
 clear H e1
 rintro env h U H ⟨e1,h7,rfl⟩
 simp only[go_sem,e1]
 refine Ax d.cells.length 5 4 (fun i env h=>env 1= .ptr n 0/\(∀ j,j<i->(onI d.cells j fun x=>As d.know x.dot)=true)/\h=[.box 1 n [v0,v1,v2,v3,v4,v5]]) (fun env h=>allR d.cells.length (fun j=>onI d.cells j fun x=>As d.know x.dot)=true) (fun env h=>env 2= .bool (E4 d)) _ H (rfl) ⟨e1,fun j hj=>by omega,rfl⟩ ?_ ?_ ?_ ?_
 ·clear H e1
  rintro J Yq Wq hJ hY hW i env h U hi ei c0 H ⟨e1,ha,rfl⟩
  have L1:=Ab q5 hi
  have hat:(onI d.cells i fun x=>As d.know x.dot)=As d.know d.cells[i].dot:=Br hi
  have no:(onI d.cells i fun x=>As d.know x.dot)=false->E4 d=false:=fun hh=>by simp[E4,Im (p:=fun j=>onI d.cells j fun x=>As d.know x.dot) hi hh]
  simp(disch:=omega) only[go_sem,c0,e1,ei,A0,L1,q5.len]
  refine by_b H (Ba _ v1 _ _ (q1.pre H.sub) l1) (fun k1=> ?_) (fun k1=> ?_)
  ·simp(disch:=omega) only[go_sem,e1,ei]
   exact hJ _ _ _ _ H ⟨e1,Ci ha (by rw[hat,k1]),rfl⟩
  ·simp only[go_sem]
   exact hW _ _ _ H (by simp only[go_sem,no (by rw[hat,k1])])
 ·clear H e1
  rintro Yq hY env h U ei c0 H ⟨e1,ha,rfl⟩
  simp(disch:=omega) only[go_sem,c0,e1,ei,q5.len]
  exact hY _ _ _ H (G0 ha)
 ·clear H e1
  rintro env h U H h8
  simp only[go_sem]
  exact fun _=>by simp[E4,h1,h2,h3,h4,h5,h6,h7,h8]
 ·rintro env h U H e2
  simp only[go_sem,e2]
def A90:Fn1:=⟨18,[.t 4],(rg [oX 3 1,oV 4 kf] (.seq (rg [oV 5 (ki 0)] (oH 0 (.seq (rg [oM 6 5,oM 7 0,oN 8 7,oB 9 .lss 6 8] (oJ 9 0)) (.seq (.blk 1 (dw [oM 12 0,oM 13 5,oI 14 6 12 13,oW 15 6 14,oW 16 6 3] [o 17 (.eqs false [.b,.s,.s,.i .i64,.i .i64,.i .i64] (.t 15) (.t 16))] (oG 17 (oR 4 kt)))) (.reg [oM 10 5,oZ 11 10 1,oM 5 11]))))) (oR 4 kf)))⟩
theorem Ai0:A8 Tryz.prog 234=some A90:=by kernel_rfl
def A4z:Fn1:=⟨18,[.t 4],(rg [oX 3 1,oV 4 kf] (.seq (rg [oV 5 (ki 0)] (oH 0 (.seq (rg [oM 6 5,oM 7 0,oN 8 7,oB 9 .lss 6 8] (oJ 9 0)) (.seq (.blk 1 (dw [oM 12 0,oM 13 5,oI 14 2 12 13,oW 15 2 14,oW 16 2 3] [o 17 (.eqs false [.i .i64,.i .i64] (.t 15) (.t 16))] (oG 17 (oR 4 kt)))) (.reg [oM 10 5,oZ 11 10 1,oM 5 11]))))) (oR 4 kf)))⟩
theorem Aeo:A8 Tryz.prog 340=some A4z:=by kernel_rfl
def Dw:Fn1:=⟨19,[.t 4],(rg [oX 3 1,oV 4 (ki 0)] (.seq (rg [oM 6 0,oN 7 6,oV 8 (ki 0)] (oH 0 (rg [oB 9 .lss 8 7] (.seq (oJ 9 0) (.seq (.blk 1 (rg [oM 10 8,oM 5 10] (dw [oW 11 6 3,oM 12 0,oM 13 5,oI 14 6 12 13,oW 15 6 14] [o 16 (.eqs false [.b,.s,.s,.i .i64,.i .i64,.i .i64] (.t 11) (.t 15))] (oG 16 (rg [oM 17 5,oM 4 17] .ret))))) (.reg [oZ 18 8 1,oM 8 18])))))) (rg [o 4 (.mov (ki (-1)))] .ret)))⟩
theorem Gu:A8 Tryz.prog 375=some Dw:=by kernel_rfl
def Dd:Fn1:=⟨9,[.t 4],(rg [oX 3 1,oV 4 kf] (rg [oM 5 0,oW 6 6 3,oD 7 375 5 6,oE 8 .geq 7 0,oM 4 8] .ret))⟩
theorem G3:A8 Tryz.prog 318=some Dd:=by kernel_rfl
def Ed:Fn1:=⟨19,[.t 4],(rg [oX 3 1,oV 4 (ki 0)] (.seq (rg [oM 6 0,oN 7 6,oV 8 (ki 0)] (oH 0 (rg [oB 9 .lss 8 7] (.seq (oJ 9 0) (.seq (.blk 1 (rg [oM 10 8,oM 5 10] (dw [oW 11 2 3,oM 12 0,oM 13 5,oI 14 2 12 13,oW 15 2 14] [o 16 (.eqs false [.i .i64,.i .i64] (.t 11) (.t 15))] (oG 16 (rg [oM 17 5,oM 4 17] .ret))))) (.reg [oZ 18 8 1,oM 8 18])))))) (rg [o 4 (.mov (ki (-1)))] .ret)))⟩
theorem I5:A8 Tryz.prog 380=some Ed:=by kernel_rfl
def Dp:Fn1:=⟨9,[.t 4],(rg [oX 3 1,oV 4 kf] (rg [oM 5 0,oW 6 2 3,oD 7 380 5 6,oE 8 .geq 7 0,oM 4 8] .ret))⟩
theorem Gi:A8 Tryz.prog 336=some Dp:=by kernel_rfl
def Rq {Y:Type} [DecidableEq Y] (l:List Y) (x:Y):Int:=match l.findIdx? (fun y=>decide (y=x)) with
 |some k=>k
 |none=> -1
theorem Aep {Y:Type} [DecidableEq Y] {l:List Y} {x:Y} {i:Nat} (hi:i<l.length) (ha:∀ j (hj:j<l.length),j<i->l[j]≠x) (h:l[i]=x):Rq l x=i:=by
 have:l.findIdx? (fun y=>decide (y=x))=some i:=List.findIdx?_eq_some_iff_getElem.2 ⟨hi,by simpa using h,fun j hj=>by simpa using ha j (by omega) hj⟩
 simp[Rq,this]
theorem A50 {Y:Type} [DecidableEq Y] {l:List Y} {x:Y} (h:x∉l):Rq l x= -1:=by
 have:l.findIdx? (fun y=>decide (y=x))=none:=by
  rw[Zah]
  intro y hy
  simp only[decide_eq_false_iff_not]
  rintro rfl;exact h hy
 simp[Rq,this]
theorem A2n {Y:Type} {l:List Y} {x:Y} (h:∀ j (hj:j<l.length),l[j]≠x):x∉l:=fun hx=>by
 obtain⟨i,hi,e⟩:=Zai hx
 exact h i hi e
theorem Aeq {Y:Type} [DecidableEq Y] (l:List Y) (x:Y):decide (Rq l x≥0)=decide (x∈l):=by
 by_cases h:x∈l
 ·obtain⟨i,hi,e⟩:=Zai h
  unfold Rq
  cases hf:l.findIdx? (fun y=>decide (y=x)) with
  |none=>
   rw[Zah] at hf
   have:=hf x h
   simp at this
  |some k=>simp[h]
 ·rw[A50 h];simp[h]
theorem Aaz {Y:Type} {l:List Y} {x:Y} {i:Nat} (hi:i<l.length) (ha:∀ j (hj:j<l.length),j<i->l[j]≠x) (h:l[i]≠x):∀ j (hj:j<l.length),j<i+1->l[j]≠x:=fun j hj hji=>by
 rcases Nat.lt_or_ge j i with h1|h1
 ·exact ha j hj h1
 ·have:j=i:=by omega
  subst this;exact h
theorem Pt (N:St) (v:GV) (l:List Live) (h:RS Ap.kd N v l) (x:Live) (hl:l.length<=1099511627776):Ret Tryz.prog 234 [v,.agg (Qw x)] N (.bool (decide (x∈l))) N:=by
 refine Cb Ai0 (Z0z rfl) trivial ?_
 simp only[go_sem,A90]
 intro n f U H
 refine Ax l.length 5 0 (fun i env h=>env 0=v/\env 3= .ptr n 0/\(∀ j (hj:j<l.length),j<i->l[j]≠x)/\h=[.box 1 n (Qw x)]) (fun env h=>x∉l) (fun env h=>env 4= .bool true/\x∈l) _ H (rfl) ⟨rfl,rfl,fun j hj hh=>by omega,rfl⟩ ?_ ?_ ?_ ?_
 ·rintro J Yq Wq hJ hY hW i env h' U hi ei c0 H ⟨e0,e3,ha,rfl⟩
  have L1:=Aa h hi
  by_cases hx:l[i]=x
  ·have b:decide (l[i]=x)=true:=decide_eq_true hx
   simp(disch:=omega) only[go_sem,c0,e0,e3,ei,A0,L1,h.len,b]
   exact hW _ _ _ H ⟨rfl,by rw[<- hx];exact Zae hi⟩
  ·have b:decide (l[i]=x)=false:=decide_eq_false hx
   simp(disch:=omega) only[go_sem,c0,e0,e3,ei,A0,L1,h.len,b]
   exact hJ _ _ _ _ H ⟨e0,e3,Aaz hi ha hx,rfl⟩
 ·rintro Yq hY env h' U ei c0 H ⟨e0,e3,ha,rfl⟩
  simp only[go_sem,c0,e0,ei,h.len]
  exact hY _ _ _ H (A2n fun j hj=>ha j hj hj)
 ·rintro env h' U H hx
  simp only[go_sem,hx,decide_false]
 ·rintro env h' U H ⟨e4,hx⟩
  simp only[go_sem,e4,hx,decide_true]
theorem Ab0 (N:St) (v:GV) (l:List Dot) (h:RS pDot.kd N v l) (x:Dot) (hl:l.length<=1099511627776):Ret Tryz.prog 340 [v,.agg [gi x.rep,gi x.seq]] N (.bool (decide (x∈l))) N:=by
 refine Cb Aeo (Z0z rfl) trivial ?_
 simp only[go_sem,A4z]
 intro n f U H
 refine Ax l.length 5 0 (fun i env h=>env 0=v/\env 3= .ptr n 0/\(∀ j (hj:j<l.length),j<i->l[j]≠x)/\h=[.box 1 n [gi x.rep,gi x.seq]]) (fun env h=>x∉l) (fun env h=>env 4= .bool true/\x∈l) _ H (rfl) ⟨rfl,rfl,fun j hj hh=>by omega,rfl⟩ ?_ ?_ ?_ ?_
 ·rintro J Yq Wq hJ hY hW i env h' U hi ei c0 H ⟨e0,e3,ha,rfl⟩
  have L1:=P8 h hi
  by_cases hx:l[i]=x
  ·have b:decide (l[i]=x)=true:=decide_eq_true hx
   simp(disch:=omega) only[go_sem,c0,e0,e3,ei,A0,L1,h.len,b]
   exact hW _ _ _ H ⟨rfl,by rw[<- hx];exact Zae hi⟩
  ·have b:decide (l[i]=x)=false:=decide_eq_false hx
   simp(disch:=omega) only[go_sem,c0,e0,e3,ei,A0,L1,h.len,b]
   exact hJ _ _ _ _ H ⟨e0,e3,Aaz hi ha hx,rfl⟩
 ·rintro Yq hY env h' U ei c0 H ⟨e0,e3,ha,rfl⟩
  simp only[go_sem,c0,e0,ei,h.len]
  exact hY _ _ _ H (A2n fun j hj=>ha j hj hj)
 ·rintro env h' U H hx
  simp only[go_sem,hx,decide_false]
 ·rintro env h' U H ⟨e4,hx⟩
  simp only[go_sem,e4,hx,decide_true]
theorem Pu (N:St) (v:GV) (l:List Live) (h:RS Ap.kd N v l) (x:Live) (hl:l.length<=1099511627776):Ret Tryz.prog 375 [v,.agg (Qw x)] N (gi (Rq l x)) N:=by
 refine Cb Gu (Z0z rfl) trivial ?_
 simp only[go_sem,Dw,h.len]
 intro n f U H
 refine Ax l.length 8 0 (fun i env h=>env 0=v/\env 3= .ptr n 0/\env 7=gi l.length/\(∀ j (hj:j<l.length),j<i->l[j]≠x)/\h=[.box 1 n (Qw x)]) (fun env h=>x∉l) (fun env h=>env 4=gi (Rq l x)) _ H (rfl) ⟨rfl,rfl,rfl,fun j hj hh=>by omega,rfl⟩ ?_ ?_ ?_ ?_
 ·rintro J Yq Wq hJ hY hW i env h' U hi ei c0 H ⟨e0,e3,e7,ha,rfl⟩
  have L1:=Aa h hi
  by_cases hx:x=l[i]
  ·have b:decide (x=l[i])=true:=decide_eq_true hx
   simp(disch:=omega) only[go_sem,c0,e0,e3,e7,ei,A0,L1,h.len,b]
   exact hW _ _ _ H (by simp only[go_sem,Aep hi ha hx.symm])
  ·have b:decide (x=l[i])=false:=decide_eq_false hx
   simp(disch:=omega) only[go_sem,c0,e0,e3,e7,ei,A0,L1,h.len,b]
   exact hJ _ _ _ _ H ⟨e0,e3,e7,Aaz hi ha (fun e=>hx e.symm),rfl⟩
 ·rintro Yq hY env h' U ei c0 H ⟨e0,e3,e7,ha,rfl⟩
  simp only[go_sem,c0,e7,ei,h.len]
  exact hY _ _ _ H (A2n fun j hj=>ha j hj hj)
 ·rintro env h' U H hx
  simp only[go_sem,A50 hx]
 ·rintro env h' U H e4
  simp only[go_sem,e4]
theorem Ma (N:St) (v:GV) (l:List Live) (h:RS Ap.kd N v l) (x:Live) (hl:l.length<=1099511627776):Ret Tryz.prog 318 [v,.agg (Qw x)] N (.bool (decide (x∈l))) N:=by
 refine Cb G3 (Z0z rfl) trivial ?_
 simp +contextual only[go_sem,Dd]
 intro n f U H
 refine by_r H (Pu _ v l (h.pre H.sub) x hl) ?_
 simp only[go_sem,Aeq]
theorem Qz (N:St) (v:GV) (l:List Dot) (h:RS pDot.kd N v l) (x:Dot) (hl:l.length<=1099511627776):Ret Tryz.prog 380 [v,.agg [gi x.rep,gi x.seq]] N (gi (Rq l x)) N:=by
 refine Cb I5 (Z0z rfl) trivial ?_
 simp only[go_sem,Ed,h.len]
 intro n f U H
 refine Ax l.length 8 0 (fun i env h=>env 0=v/\env 3= .ptr n 0/\env 7=gi l.length/\(∀ j (hj:j<l.length),j<i->l[j]≠x)/\h=[.box 1 n [gi x.rep,gi x.seq]]) (fun env h=>x∉l) (fun env h=>env 4=gi (Rq l x)) _ H (rfl) ⟨rfl,rfl,rfl,fun j hj hh=>by omega,rfl⟩ ?_ ?_ ?_ ?_
 ·rintro J Yq Wq hJ hY hW i env h' U hi ei c0 H ⟨e0,e3,e7,ha,rfl⟩
  have L1:=P8 h hi
  by_cases hx:x=l[i]
  ·have b:decide (x=l[i])=true:=decide_eq_true hx
   simp(disch:=omega) only[go_sem,c0,e0,e3,e7,ei,A0,L1,h.len,b]
   exact hW _ _ _ H (by simp only[go_sem,Aep hi ha hx.symm])
  ·have b:decide (x=l[i])=false:=decide_eq_false hx
   simp(disch:=omega) only[go_sem,c0,e0,e3,e7,ei,A0,L1,h.len,b]
   exact hJ _ _ _ _ H ⟨e0,e3,e7,Aaz hi ha (fun e=>hx e.symm),rfl⟩
 ·rintro Yq hY env h' U ei c0 H ⟨e0,e3,e7,ha,rfl⟩
  simp only[go_sem,c0,e7,ei,h.len]
  exact hY _ _ _ H (A2n fun j hj=>ha j hj hj)
 ·rintro env h' U H hx
  simp only[go_sem,A50 hx]
 ·rintro env h' U H e4
  simp only[go_sem,e4]
theorem O5 (N:St) (v:GV) (l:List Dot) (h:RS pDot.kd N v l) (x:Dot) (hl:l.length<=1099511627776):Ret Tryz.prog 336 [v,.agg [gi x.rep,gi x.seq]] N (.bool (decide (x∈l))) N:=by
 refine Cb Gi (Z0z rfl) trivial ?_
 simp +contextual only[go_sem,Dp]
 intro n f U H
 refine by_r H (Qz _ v l (h.pre H.sub) x hl) ?_
 simp only[go_sem,Aeq]
theorem Ani {Y β:Type} {f:Y->β}:∀ {l:List Y},(l.map f).Nodup->∀ {a b:Y},a∈l->b∈l->f a=f b->a=b
 |[],_,a,_,ha,_,_=>by simp at ha
 |x::l,h,a,b,ha,hb,e=>by
  rw[Za9,List.nodup_cons] at h
  rcases Zal.1 ha with h1|h1
  ·rcases Zal.1 hb with h2|h2
   ·rw[h1,h2]
   ·exact absurd (Zaf.2 ⟨b,h2,by rw[<- e,h1]⟩) h.1
  ·rcases Zal.1 hb with h2|h2
   ·exact absurd (Zaf.2 ⟨a,h1,by rw[e,h2]⟩) h.1
   ·exact Ani h.2 h1 h2 e
theorem Apn {Y β:Type} {f:Y->β} {l:List Y} (h:(l.map f).Nodup) {i j:Nat} (hi:i<l.length) (hj:j<l.length) (e:f l[i]=f l[j]):i=j:=by
 have hp:=Zas.1 h
 rcases Zbh i j with h1|h1|h1
 ·exact absurd (by rw[Zaq,Zaq];exact e) (hp i j (by simpa using hi) (by simpa using hj) h1)
 ·exact h1
 ·exact absurd (by rw[Zaq,Zaq];exact e.symm) (hp j i (by simpa using hj) (by simpa using hi) h1)
section
variable {Y:Type} {lt:Y->Y->Bool}
theorem Aqv (h:Go.Sort.SWO lt):∀ {l:List Y},l.Pairwise (fun a b=>lt a b=true)->∀ x∈l,∀ y∈l,lt x y=false->lt y x=false->x=y
 |[],_,x,hx,_,_,_,_=>by simp at hx
 |a::l,hp,x,hx,y,hy,h1,h2=>by
  obtain⟨p1,p2⟩:=Za0.1 hp
  rcases Zal.1 hx with rfl|hx
  ·rcases Zal.1 hy with rfl|hy
   ·rfl
   ·rw[p1 y hy] at h1;cases h1
  ·rcases Zal.1 hy with rfl|hy
   ·rw[p1 x (by assumption)] at h2;cases h2
   ·exact Aqv h p2 x hx y hy h1 h2
theorem pw_up (h:Go.Sort.SWO lt) {l:List Y} (hp:l.Pairwise fun a b=>lt a b=true):Up lt l:=hp.imp fun h1=>SWO.asym h h1
theorem O6 (h:Go.Sort.SWO lt) {l:List Y} (hp:l.Pairwise fun a b=>lt a b=true):Ar lt l=l:=(A3y h (Aqv h hp) (.refl _) (pw_up h hp)).symm
theorem Ajk {g:Y->Y} (hg:∀ x y,lt (g x) (g y)=lt x y) (x:Y):∀ l:List Y,insB lt (g x) (l.map g)=(insB lt x l).map g
 |[]=>rfl
 |k::r=>by
  simp only[Za9,insB,hg]
  split
  ·rfl
  ·rw[Za9,Ajk hg x r]
theorem Al1 {g:Y->Y} (hg:∀ x y,lt (g x) (g y)=lt x y):∀ l:List Y,Ar lt (l.map g)=(Ar lt l).map g:=by
 intro l
 have key:∀(l acc:List Y),(l.map g).foldl (fun acc x=>insB lt x acc) (acc.map g)=(l.foldl (fun acc x=>insB lt x acc) acc).map g:=by
  intro l
  induction l with
  |nil=>intro acc;rfl
  |cons x l ih=>intro acc;simp only[Za9,Zbm,Ajk hg];exact ih _
 exact key l []
theorem Qq {l:List Y} {x:Y}:x∈Ar lt l↔x∈l:=(Bb lt l).mem_iff
end
def tkey (t:Tally):ByteArray×Int:=(t.obj,t.rep)
def Ft (f:Int->Bool) (a b:List Tally):List Tally:=Ar Af (a.filter (fun t=> !f t.rep)++b.filter fun t=>f t.rep)
theorem Al2 {l:List Tally} (h:(l.map tkey).Nodup):∀ x∈l,∀ y∈l,Af x y=false->Af y x=false->x=y:=fun x hx y hy h1 h2=>by
 have:=A40 h1 h2
 have e:tkey x=tkey y:=by simp[tkey,this.1,this.2]
 exact Ani h hx hy e
theorem A91 {l:List Tally} (h:l.Pairwise fun a b=>Af a b=true):(l.map tkey).Nodup:=by
 rw[List.Nodup,Zam]
 refine h.imp fun {a b} h1 e=> ?_
 injection e with e1 e2
 rw[L7 e1 e2] at h1;cases h1
theorem Zh {f:Int->Bool} {a b:List Tally} (ha:a.Pairwise fun a b=>Af a b=true) (hb:b.Pairwise fun a b=>Af a b=true):((a.filter (fun t=> !f t.rep)++b.filter fun t=>f t.rep).map tkey).Nodup:=by
 rw[Zao,Zau]
 refine⟨A91 (ha.filter _),A91 (hb.filter _),?_⟩
 intro x hx y hy e
 obtain⟨t,ht,rfl⟩:=Zaf.1 hx
 obtain⟨u,hu,rfl⟩:=Zaf.1 hy
 have h1:=(Zag.1 ht).2
 have h2:=(Zag.1 hu).2
 injection e with _ e2
 rw[e2] at h1;simp only[h2] at h1;cases h1
def putT (acc:List Tally) (t:Tally):List Tally:=Eb acc t.obj t.rep t.sum
theorem Apo {acc:List Tally} {t:Tally} (h:tkey t∉acc.map tkey):putT acc t=insB Af t acc:=by
 have:acc.findIdx? (In t.obj t.rep)=none:=by
  rw[Zah]
  intro x hx
  cases e:In t.obj t.rep x with
  |false=>rfl
  |true=>
   have:=J0.1 e
   exact absurd (Zaf.2 ⟨x,hx,by simp[tkey,this.1,this.2]⟩) h
 unfold putT Eb
 rw[this]
theorem Aqw:Go.Sort.SWO C5:=⟨fun x=>J9.irrefl _,fun x y z h1 h2=>J9.trans _ _ _ h1 h2,fun x y z h1 h2=>J9.ntrans _ _ _ h1 h2⟩
def Rr (b:List Cell) (c:Cell):Cell:={c with gone:=c.gone||b.any fun x=>decide (x.dot=c.dot)&&x.gone}
def Mb (a:List Cell) (x:Cell):Bool:= !a.any fun c=>decide (c.dot=x.dot)
def Ff (a b:List Cell):List Cell:=a.map (Rr b)++b.filter (Mb a)
def Bz (a b:List Cell):List Cell:=Ar Dk (Ff a b)
def Ab1 (out:List Cell) (x:Cell):List Cell:=match Cx out x.dot with
 |none=>Kc x out
 |some k=>if x.gone then out.modify k fun c=>{c with gone:=true} else out
theorem swo_cl:Go.Sort.SWO Dk:=⟨fun x=>J9.irrefl _,fun x y z h1 h2=>J9.trans _ _ _ h1 h2,fun x y z h1 h2=>J9.ntrans _ _ _ h1 h2⟩
theorem Mc {l:List Cell} (h:l.Pairwise fun a b=>Az a.dot b.dot=true):(l.map (·.dot)).Nodup:=by
 rw[List.Nodup,Zam]
 refine h.imp fun {a b} h1 e=> ?_
 rw[e,Hw] at h1;cases h1
theorem Anj {l:List Cell} (h:(l.map (·.dot)).Nodup):∀ x∈l,∀ y∈l,Dk x y=false->Dk y x=false->x=y:=fun x hx y hy h1 h2=>Aad h hx hy (Tu h1 h2)
theorem Md {a:List Cell} {x:Cell}:Mb a x=true↔x.dot∉a.map (·.dot):=by
 simp only[Mb,Bool.not_eq_true',List.any_eq_false,decide_eq_true_eq,Zaf,not_exists,not_and]
theorem Zi {a b:List Cell}:(Ff a b).map (·.dot)=a.map (·.dot)++(b.filter (Mb a)).map (·.dot):=by
 unfold Ff
 rw[Zao,Zbc]
 rfl
theorem O7 {a b:List Cell} (ha:(a.map (·.dot)).Nodup) (hb:(b.map (·.dot)).Nodup):((Ff a b).map (·.dot)).Nodup:=by
 rw[Zi,Zau]
 refine⟨ha,?_,?_⟩
 ·exact(List.filter_sublist.map _).nodup hb
 ·intro x hx y hy e
  subst e
  obtain⟨c,hc,e⟩:=Zaf.1 hy
  have h1:=Md.1 (Zag.1 hc).2
  rw[e] at h1
  exact h1 hx
def A23 (x:Cell) (c:Cell):Cell:=if c.dot=x.dot then {c with gone:=c.gone||x.gone} else c
theorem Aer (x c:Cell):(A23 x c).dot=c.dot:=by unfold A23;split<;>rfl
theorem Aes {l:List Cell} {d:Dot} (h:d∈l.map (·.dot)):∃ k,Cx l d=some k:=by
 cases e:Cx l d with
 |some k=>exact⟨k,rfl⟩
 |none=>
  unfold Cx at e
  rw[Zah] at e
  obtain⟨c,hc,rfl⟩:=Zaf.1 h
  have:=e c hc
  simp at this
theorem Aet {l:List Cell} {d:Dot} (h:d∉l.map (·.dot)):Cx l d=none:=by
 unfold Cx
 rw[Zah]
 intro c hc
 simp only[decide_eq_false_iff_not]
 exact fun e=>h (Zaf.2 ⟨c,hc,e⟩)
theorem App {l:List Cell} {x:Cell} (hn:(l.map (·.dot)).Nodup) (hx:x.dot∈l.map (·.dot)):Ab1 l x=l.map (A23 x):=by
 obtain⟨k,hk⟩:=Aes hx
 obtain⟨hlt,hd⟩:=Bs hk
 unfold Ab1
 rw[hk]
 have hother:∀ j (hj:j<l.length),j≠k->l[j].dot≠x.dot:=fun j hj hne e=>by
  exact hne (Apn hn hj hlt (by rw[e,hd]))
 simp only
 refine Zbj (by split<;>simp) fun j h1 h2=> ?_
 have hj:j<l.length:=by simpa using h2
 rw[Zaq]
 unfold A23
 by_cases hg:x.gone
 ·simp only[hg,if_true]
  rw[List.getElem_modify]
  by_cases hjk:k=j
  ·subst hjk
   rw[if_pos rfl,if_pos hd,Bool.or_true]
  ·rw[if_neg hjk,if_neg (hother j hj (Ne.symm hjk))]
 ·have hg:x.gone=false:=by simpa using hg
  simp only[hg,Za1,if_false,Zbg]
  split<;>rfl
theorem A92 {a b:List Cell} {x:Cell} (ha:(a.map (·.dot)).Nodup) (hb:((b++[x]).map (·.dot)).Nodup):Ab1 (Bz a b) x=Bz a (b++[x]):=by
 have hb0:(b.map (·.dot)).Nodup:=by rw[Zao,Zau] at hb;exact hb.1
 have hxb:x.dot∉b.map (·.dot):=by
  rw[Zao,Zau] at hb
  exact fun h=>hb.2.2 _ h x.dot (by simp) rfl
 have hj:=O7 ha hb0
 have hp:=Bb Dk (Ff a b)
 have hn:((Bz a b).map (·.dot)).Nodup:=(hp.map _).nodup_iff.2 hj
 by_cases hxa:x.dot∈a.map (·.dot)
 ·have hin:x.dot∈(Bz a b).map (·.dot):=(hp.map _).mem_iff.2 (by rw[Zi];exact List.mem_append_left _ hxa)
  rw[App hn hin]
  unfold Bz
  rw[<- Al1 (lt:=Dk) (g:=A23 x) (fun y z=>by unfold Dk;rw[Aer,Aer])]
  congr 1
  unfold Ff
  have hf:Mb a x=false:=by
   cases e:Mb a x with
   |false=>rfl
   |true=>exact absurd hxa (Md.1 e)
  rw[Zao,Zbc,Za2,Za5,hf]
  simp only[Za1,if_false,Zap,Zav]
  congr 1
  ·refine Zaj fun c hc=> ?_
   simp only[Function.comp,A23,Rr,Zbn,Zbs,List.any_nil,Zbg]
   by_cases e:c.dot=x.dot
   ·simp[e,Zbt]
   ·have e':¬ x.dot=c.dot:=fun h=>e h.symm
    simp[e,e']
  ·refine(Zaj fun c hc=> ?_).trans (Zbe _)
   unfold A23
   rw[if_neg fun e=>hxb (Zaf.2 ⟨c,(Zag.1 hc).1,e⟩)];rfl
 ·have hout:x.dot∉(Bz a b).map (·.dot):=fun h=>by
   have:=(hp.map (·.dot)).mem_iff.1 h
   rw[Zi] at this
   rcases Zbo.1 this with h1|h1
   ·exact hxa h1
   ·obtain⟨c,hc,e⟩:=Zaf.1 h1
    exact hxb (Zaf.2 ⟨c,(Zag.1 hc).1,e⟩)
  unfold Ab1
  rw[Aet hout]
  have ht:Mb a x=true:=Md.2 hxa
  have e:Ff a (b++[x])=Ff a b++[x]:=by
   unfold Ff
   rw[Za2,Za5,ht]
   simp only[if_true,Zap,<-Zan]
   congr 2
   refine Zaj fun c hc=> ?_
   have:¬ x.dot=c.dot:=fun h=>hxa (Zaf.2 ⟨c,hc,h.symm⟩)
   simp[Rr,this]
  unfold Bz
  rw[e,K8]
  rfl
theorem A51 {a:List Cell} (ha:a.Pairwise fun a b=>Az a.dot b.dot=true) {b:List Cell} (hb:(b.map (·.dot)).Nodup):∀ n,n≤b.length->(b.take n).foldl Ab1 a=Bz a (b.take n)
 |0,_=>by
  have:Ff a []=a:=by
   simp only[Ff,Zap,Zav]
   refine(Zaj fun c _=> ?_).trans (Zbe _)
   simp[Rr]
  simp only[Za8,List.foldl_nil,Bz,this]
  exact(O6 swo_cl ha).symm
 |n+1,h=>by
  rw[Za3 (by omega),Za4,A51 ha hb n (by omega)]
  refine A92 (Mc ha) ?_
  rw[<- Za3 (by omega)]
  exact((Zay _ _).map _).nodup hb
def On:Fn1:=⟨10,[.t 4],(rg [oX 2 0,oX 3 1,oV 4 (ki 0)] (rg [oF 5 4 2,oW 6 2 5,oF 7 4 3,oW 8 2 7,oD 9 306 6 8,oM 4 9] .ret))⟩
theorem Zj:A8 Tryz.prog 382=some On:=by kernel_rfl
def Ld:Fn1:=⟨10,[.t 4],(rg [oX 2 0,oX 3 1,oV 4 (ki 0)] (rg [oF 5 1 2,oW 6 2 5,oF 7 1 3,oW 8 2 7,oD 9 306 6 8,oM 4 9] .ret))⟩
theorem T1:A8 Tryz.prog 383=some Ld:=by kernel_rfl
instance:Inhabited Tally:=⟨⟨.empty,0,0⟩⟩
def Ai1:El Tally:=⟨Ah,true,fun x=>.agg (Ah.enc x),fun _=>rfl,fun _=>rfl,by decide⟩
instance:Inhabited Live:=⟨⟨false,.empty,.empty,0,⟨0,0⟩⟩⟩
def Ank:El Live:=⟨Ap,true,fun x=>.agg (Ap.enc x),fun _=>rfl,fun _=>rfl,by decide⟩
theorem Apq:Go.Sort.SWO C5:=⟨fun x=>J9.irrefl _,fun x y z h1 h2=>J9.trans _ _ _ h1 h2,fun x y z h1 h2=>J9.ntrans _ _ _ h1 h2⟩
theorem Apr:Go.Sort.SWO Dk:=⟨fun x=>J9.irrefl _,fun x y z h1 h2=>J9.trans _ _ _ h1 h2,fun x y z h1 h2=>J9.ntrans _ _ _ h1 h2⟩
theorem Al3 (N:St) (a b:Tally):Ret Tryz.prog 324 [Ai1.val a,Ai1.val b] N (gi (It a b)) N:=by
 show Ret Tryz.prog 324 [.agg (Ah.enc a),.agg (Ah.enc b)] N (gi (It a b)) N
 simp only[Amk]
 exact G8 N a b
theorem Anl (N:St) (a b:Live):Ret Tryz.prog 382 [Ank.val a,Ank.val b] N (gi (Re a.dot b.dot)) N:=by
 show Ret Tryz.prog 382 [.agg (Ap.enc a),.agg (Ap.enc b)] N (gi (Re a.dot b.dot)) N
 simp only[Ap1]
 refine Cb Zj (Z0z rfl) trivial ?_
 simp +contextual (disch:=omega) only[go_sem,On]
 intro n f U H n2 f2 U2 H2
 refine by_r H2 (Bx _ _ _) ?_
 simp only[go_sem]
theorem Anm (N:St) (a b:Cell):Ret Tryz.prog 383 [An2.val a,An2.val b] N (gi (Re a.dot b.dot)) N:=by
 show Ret Tryz.prog 383 [.agg (Ai.enc a),.agg (Ai.enc b)] N (gi (Re a.dot b.dot)) N
 simp only[A9y]
 refine Cb T1 (Z0z rfl) trivial ?_
 simp +contextual (disch:=omega) only[go_sem,Ld]
 intro n f U H n2 f2 U2 H2
 refine by_r H2 (Bx _ _ _) ?_
 simp only[go_sem]
def qTally:SN:=⟨416,436,417,420,421,422,423,418,443,438,437,419,402,0,385,386⟩
def qLive:SN:=⟨424,439,425,428,429,430,431,426,444,441,440,427,403,0,385,386⟩
def Aps:SrtC Tally Af where
 e:=Ai1
 q:=qTally
 f:=324
 k:=It
 call:=Al3
 klt:=fun a b=>Sg
 h_insertionSort:=by kernel_rfl
 h_siftDown:=by kernel_rfl
 h_heapSort:=by kernel_rfl
 h_reverseRange:=by kernel_rfl
 h_partialInsertionSort:=by kernel_rfl
 h_partitionEqual:=by kernel_rfl
 h_partition:=by kernel_rfl
 h_breakPatterns:=by kernel_rfl
 h_order2:=by kernel_rfl
 h_median:=by kernel_rfl
 h_medianAdjacent:=by kernel_rfl
 h_choosePivot:=by kernel_rfl
 h_pdqsort:=by kernel_rfl
 nS:=379
 h_Sort:=by kernel_rfl
 hnp:=rfl
 hxs:=rfl
def Asr:SrtC Live C5 where
 e:=Ank
 q:=qLive
 f:=382
 k:=fun a b=>Re a.dot b.dot
 call:=Anl
 klt:=fun a b=>Pb
 h_insertionSort:=by kernel_rfl
 h_siftDown:=by kernel_rfl
 h_heapSort:=by kernel_rfl
 h_reverseRange:=by kernel_rfl
 h_partialInsertionSort:=by kernel_rfl
 h_partitionEqual:=by kernel_rfl
 h_partition:=by kernel_rfl
 h_breakPatterns:=by kernel_rfl
 h_order2:=by kernel_rfl
 h_median:=by kernel_rfl
 h_medianAdjacent:=by kernel_rfl
 h_choosePivot:=by kernel_rfl
 h_pdqsort:=by kernel_rfl
 nS:=381
 h_Sort:=by kernel_rfl
 hnp:=rfl
 hxs:=rfl
def Apt:SrtC Cell Dk where
 e:=An2
 q:=qCell
 f:=383
 k:=fun a b=>Re a.dot b.dot
 call:=Anm
 klt:=fun a b=>Pb
 h_insertionSort:=by kernel_rfl
 h_siftDown:=by kernel_rfl
 h_heapSort:=by kernel_rfl
 h_reverseRange:=by kernel_rfl
 h_partialInsertionSort:=by kernel_rfl
 h_partitionEqual:=by kernel_rfl
 h_partition:=by kernel_rfl
 h_breakPatterns:=by kernel_rfl
 h_order2:=by kernel_rfl
 h_median:=by kernel_rfl
 h_medianAdjacent:=by kernel_rfl
 h_choosePivot:=by kernel_rfl
 h_pdqsort:=by kernel_rfl
 nS:=360
 h_Sort:=by kernel_rfl
 hnp:=rfl
 hxs:=rfl
theorem Ab2 {N0 N:St} {rs:List Thg} {v:GV} {l:List Tally} (H:Hp N0 N rs) (k:Nat) (hk:rs[k]? =some (ow Ah.kd v l)) (hl:l.length<=1099511627776) (htri:∀ x∈l,∀ y∈l,Af x y=false->Af y x=false->x=y):∃ U,Ret Tryz.prog 379 [v,.fn 324 []] N (.tup []) U/\Hp N0 U (rs.set k (ow Ah.kd v (Ar Af l))):=
 C.sort_ret Aps Kb H k hk hl htri
theorem Aeu {N0 N:St} {rs:List Thg} {v:GV} {l:List Live} (H:Hp N0 N rs) (k:Nat) (hk:rs[k]? =some (ow Ap.kd v l)) (hl:l.length<=1099511627776) (htri:∀ x∈l,∀ y∈l,C5 x y=false->C5 y x=false->x=y):∃ U,Ret Tryz.prog 381 [v,.fn 382 []] N (.tup []) U/\Hp N0 U (rs.set k (ow Ap.kd v (Ar C5 l))):=
 C.sort_ret Asr Apq H k hk hl htri
theorem Ab3 {N0 N:St} {rs:List Thg} {v:GV} {l:List Cell} (H:Hp N0 N rs) (k:Nat) (hk:rs[k]? =some (ow Ai.kd v l)) (hl:l.length<=1099511627776) (htri:∀ x∈l,∀ y∈l,Dk x y=false->Dk y x=false->x=y):∃ U,Ret Tryz.prog 360 [v,.fn 383 []] N (.tup []) U/\Hp N0 U (rs.set k (ow Ai.kd v (Ar Dk l))):=
 C.sort_ret Apt Apr H k hk hl htri
def Mf:Fn1:=⟨47,[.t 6],(rg [o 6 (.mov (.k .nilS))] (rg [o 12 (.lit 3 0 [] []),oM 7 12] (.seq (rg [oM 13 0,oN 14 13,oV 15 (ki 0)] (oH 0 (rg [oB 16 .lss 15 14] (.seq (oJ 16 0) (.seq (.blk 1 (rg [oI 17 3 13 15,oW 18 3 17,o 9 (.new [s0,z0,z0]),oS 3 9 18] (rg [oM 19 2,oF 20 1 9,oL 21 20,o 22 (.callv (.t 19) [(.t 21)]),oU 23 22] (oG 23 (.reg [oM 24 7,oW 25 3 9,o 26 (.lit 3 1 [s0,z0,z0] [(0,3,(.t 25))]),o 27 (.app 3 32 [s0,z0,z0] (.t 24) (.t 26)),oM 7 27]))))) (.reg [oZ 28 15 1,oM 15 28])))))) (.seq (rg [oM 29 1,oN 30 29,oV 31 (ki 0)] (oH 2 (rg [oB 32 .lss 31 30] (.seq (oJ 32 2) (.seq (.blk 3 (rg [oI 33 3 29 31,oW 34 3 33,o 11 (.new [s0,z0,z0]),oS 3 11 34] (rg [oM 35 2,oF 36 1 11,oL 37 36,o 38 (.callv (.t 35) [(.t 37)])] (oG 38 (.reg [oM 39 7,oW 40 3 11,o 41 (.lit 3 1 [s0,z0,z0] [(0,3,(.t 40))]),o 42 (.app 3 32 [s0,z0,z0] (.t 39) (.t 41)),oM 7 42]))))) (.reg [oZ 43 31 1,oM 31 43])))))) (rg [oM 44 7,o 45 (.call 379 [(.t 44),(.k (.fn 324 []))])] (rg [oM 46 7,oM 6 46] .ret))))))⟩
theorem Vv:A8 Tryz.prog 334=some Mf:=by kernel_rfl
def Vw:Fn1:=⟨4,[],(.reg [oM 2 0,o 3 (.call 381 [(.t 2),(.k (.fn 382 []))])])⟩
theorem A77:A8 Tryz.prog 337=some Vw:=by kernel_rfl
def Pw:Fn1:=⟨64,[.t 4],(rg [o 4 (.mov (.k .nilS))] (rg [o 13 (.lit 8 0 [] []),oM 14 0,o 15 (.app 8 72 [s0,z0,z0,z0,z0,z0,z0,(.bool false)] (.t 13) (.t 14)),oM 5 15] (rg [o 16 (.mkm),oM 6 16] (.seq (rg [oM 17 0,oN 18 17,oV 19 (ki 0)] (oH 0 (rg [oB 20 .lss 19 18] (.seq (oJ 20 0) (.seq (.blk 1 (rg [oM 21 19,oI 22 8 17 19,oW 23 8 22,o 8 (.new [s0,z0,z0,z0,z0,z0,z0,(.bool false)]),oM 7 21,oS 8 8 23] (.reg [oM 24 6,oF 25 1 8,oW 26 2 25,oM 27 7,on (.mup [.i .i64,.i .i64] (.t 24) (.t 26) (.t 27))]))) (.reg [oZ 28 19 1,oM 19 28])))))) (.seq (rg [oM 29 1,oN 30 29,oV 31 (ki 0)] (oH 2 (rg [oB 32 .lss 31 30] (.seq (oJ 32 2) (.seq (.blk 3 (rg [oI 33 8 29 31,oW 34 8 33,o 10 (.new [s0,z0,z0,z0,z0,z0,z0,(.bool false)]),oS 8 10 34] (rg [oM 36 6,oF 37 1 10,oW 38 2 37,o 39 (.mlk [.i .i64,.i .i64] z0 true (.t 36) (.t 38)),oM 35 39,o 40 (.ext 0 (.t 35)),o 41 (.ext 1 (.t 35)),oM 11 40,oM 12 41] (rg [oM 42 12] (cn 42 (.reg [oM 43 5,oM 44 11,oM 45 5,oM 46 11,oI 47 8 45 46,oF 48 7 47,oL 49 48,oM 50 49,vF 51 50 7 10,vL 52 50 51,oP 53 50 52,oI 54 8 43 44,oF 55 7 54,oS 1 55 53]) (.reg [oM 56 5,oW 57 8 10,o 58 (.lit 8 1 [s0,z0,z0,z0,z0,z0,z0,(.bool false)] [(0,8,(.t 57))]),o 59 (.app 8 72 [s0,z0,z0,z0,z0,z0,z0,(.bool false)] (.t 56) (.t 58)),oM 5 59])))))) (.reg [oZ 60 31 1,oM 31 60])))))) (rg [oM 61 5,o 62 (.call 360 [(.t 61),(.k (.fn 383 []))])] (rg [oM 63 5,oM 4 63] .ret)))))))⟩
theorem A24:A8 Tryz.prog 338=some Pw:=by kernel_rfl
theorem A52 {N0 N:St} {rs:List Thg} {v:GV} {l:List Live} (H:Hp N0 N rs) (k:Nat) (hk:rs[k]? =some (ow Ap.kd v l)) (hl:l.length<=1099511627776) (htri:∀ x∈l,∀ y∈l,C5 x y=false->C5 y x=false->x=y):∃ U,Ret Tryz.prog 337 [v] N (.tup []) U/\Hp N0 U (rs.set k (ow Ap.kd v (Ar C5 l))):=by
 have key:∃ r U,Ret Tryz.prog 337 [v] N r U/\r= .tup []/\Hp N0 U (rs.set k (ow Ap.kd v (Ar C5 l))):=by
  refine Bg A77 (Z0z rfl) (Hx.of H) ?_
  simp only[go_sem,Vw]
  obtain⟨U,R,H1⟩:=Aeu H k hk hl htri
  refine by_m R (Hx.of H1) ?_
  simp only[go_sem]
  exact fun _=>⟨_,rfl,rfl,H1⟩
 obtain⟨r,U,R,rfl,h⟩:=key
 exact⟨U,R,h⟩
theorem A93 {Y:Type} {p q:Y->Bool} {a b:List Y} {i n:Nat} (ha:a.length<=n) (hb:b.length<=n):(a.filter p++(b.take i).filter q).length<=n+n:=by
 rw[Zar]
 have:=Zak p a
 have:=Rm (p:=q) (i:=i) hb
 omega
theorem T2 (N:St) (va vb:GV) (a b:List Tally) (ha:RS Ah.kd N va a) (hb:RS Ah.kd N vb b) (F:Nat) (caps:List (Nat×Nat)) (f:Int->Bool) (hf:∀ U t,N <+: U->t∈a∨t∈b->Ret Tryz.prog F (gi t.rep::caps.map fun c=>.ptr c.1 c.2) U (.bool (f t.rep)) U) (hla:a.length<=1073741824) (hlb:b.length<=1073741824) (htri:((a.filter (fun t=> !f t.rep)++b.filter fun t=>f t.rep).map tkey).Nodup):∃ r U,Ret Tryz.prog 334 [va,vb,.fn F caps] N r U/\Hp N U [ow Ah.kd r (Ft f a b)]:=by
 refine Bg Vv (Z0z rfl) (Hx.refl N) ?_
 simp only[go_sem,Mf,ha.len]
 intro n fn U H
 refine Ax a.length 15 0 (fun i env h=>∃ w,env 1=vb/\env 2= .fn F caps/\env 7=w/\env 13=va/\env 14=gi a.length/\h=[.th (ow Ah.kd w ((a.take i).filter fun t=> !f t.rep))]) (fun env h=>∃ w,env 1=vb/\env 2= .fn F caps/\env 7=w/\h=[.th (ow Ah.kd w (a.filter fun t=> !f t.rep))]) (fun env h=>False) _ (H.emp Ah.kd rfl) (rfl) ⟨_,rfl,rfl,rfl,rfl,rfl,rfl⟩ ?_ ?_ ?_ ?_
 ·clear H
  rintro J Yq Wq hJ hY hW i env h U hi ei c0 H ⟨w,e1,e2,e7,e13,e14,rfl⟩
  have L1:=Ae ha hi
  simp +contextual only[go_sem,c0,e1,e2,e7,e13,e14,ei,A0,L1]
  intro m fm U1 _ U2 H2
  refine by_b H2 (hf _ a[i] H2.sub (.inl (Zae hi))) (fun k1=> ?_) (fun k1=> ?_)
  ·simp(disch:=omega) only[go_sem,e1,e2,e7,e13,e14,ei]
   exact hJ _ _ _ _ (H2.re [1] (by decide)) ⟨w,e1,e2,e7,e13,e14,by rw[Pr hi (by simp[k1])];rfl⟩
  ·simp(disch:=omega) only[go_sem,e1,e2,e7,e13,e14,ei]
   intro n3 f3 U3 H3
   refine E8 (p:=Ah) H3 2 rfl a[i] Be (by decide) (by have:=Rm (p:=fun t=> !f t.rep) (i:=i) hla;omega) fun w' U4 H4=> ?_
   simp(disch:=omega) only[go_sem,e1,e2,e13,e14,ei]
   exact hJ _ _ _ _ (H4.re [2] (by decide)) ⟨w',e1,e2,rfl,e13,e14,by rw[Oy hi (by simp[k1])];rfl⟩
 ·clear H
  rintro Yq hY env h U ei c0 H ⟨w,e1,e2,e7,e13,e14,rfl⟩
  simp only[go_sem,c0,e14,ei]
  exact hY _ _ _ H ⟨w,e1,e2,e7,by rw[Zab]⟩
 rotate_left
 ·exact fun _ _ _ _ h=>h.elim
 clear H
 rintro env h U H ⟨w,e1,e2,e7,rfl⟩
 simp only[go_sem,e1,e2,e7,hb.len]
 refine Ax b.length 31 2 (fun i env h=>∃ w,env 2= .fn F caps/\env 7=w/\env 29=vb/\env 30=gi b.length/\h=[.th (ow Ah.kd w (a.filter (fun t=> !f t.rep)++(b.take i).filter fun t=>f t.rep))]) (fun env h=>∃ w,env 7=w/\h=[.th (ow Ah.kd w (a.filter (fun t=> !f t.rep)++b.filter fun t=>f t.rep))]) (fun env h=>False) _ H (rfl) ⟨w,e2,e7,rfl,rfl,by simp⟩ ?_ ?_ ?_ ?_
 ·clear H e1 e2 e7
  rintro J Yq Wq hJ hY hW i env h U hi ei c0 H ⟨w,e2,e7,e29,e30,rfl⟩
  have L1:=Ae hb hi
  simp +contextual only[go_sem,c0,e2,e7,e29,e30,ei,A0,L1]
  intro m fm U1 _ U2 H2
  refine by_b H2 (hf _ b[i] H2.sub (.inr (Zae hi))) (fun k1=> ?_) (fun k1=> ?_)
  rotate_left
  ·simp(disch:=omega) only[go_sem,e2,e7,e29,e30,ei]
   exact hJ _ _ _ _ (H2.re [1] (by decide)) ⟨w,e2,e7,e29,e30,by rw[Pr hi (by simp[k1])];rfl⟩
  ·simp(disch:=omega) only[go_sem,e2,e7,e29,e30,ei]
   intro n3 f3 U3 H3
   refine E8 (p:=Ah) H3 2 rfl b[i] Be (by decide) (by have:=A93 (p:=fun t=> !f t.rep) (q:=fun t=>f t.rep) (i:=i) hla hlb;omega) fun w' U4 H4=> ?_
   simp(disch:=omega) only[go_sem,e2,e29,e30,ei]
   exact hJ _ _ _ _ (H4.re [2] (by decide)) ⟨w',e2,rfl,e29,e30,by rw[Oy hi (by simp[k1]),<-Zan];rfl⟩
 ·clear H e1 e2 e7
  rintro Yq hY env h U ei c0 H ⟨w,e2,e7,e29,e30,rfl⟩
  simp only[go_sem,c0,e30,ei]
  exact hY _ _ _ H ⟨w,e7,by rw[Zab]⟩
 ·clear H e1 e2 e7
  rintro env h U H ⟨w,e7,rfl⟩
  simp only[go_sem,e7]
  have hll:=A93 (p:=fun t=> !f t.rep) (q:=fun t=>f t.rep) (i:=b.length) hla hlb
  rw[Zab] at hll
  obtain⟨U5,R5,H5⟩:=Ab2 H.hp 0 rfl (by omega) (Al2 htri)
  refine by_m (h':=[.th (ow Ah.kd w (Ft f a b))]) R5 H5 ?_
  simp only[go_sem,e7]
  exact fun _=>⟨_,rfl,H5⟩
 ·exact fun _ _ _ _ h=>h.elim
theorem Ann {a b:List Cell} {x:Cell} (hxa:x.dot∈a.map (·.dot)) (hxb:x.dot∉b.map (·.dot)):Ff a (b++[x])=(Ff a b).map (A23 x):=by
 unfold Ff
 have hf:Mb a x=false:=by
  cases e:Mb a x with
  |false=>rfl
  |true=>exact absurd hxa (Md.1 e)
 rw[Zao,Zbc,Za2,Za5,hf]
 simp only[Za1,if_false,Zap,Zav]
 congr 1
 ·refine(Zaj fun c hc=> ?_)
  simp only[Function.comp,A23,Rr,Zbn,Zbs,List.any_nil,Zbg]
  by_cases e:c.dot=x.dot
  ·simp[e,Zbt]
  ·have e':¬ x.dot=c.dot:=fun h=>e h.symm
   simp[e,e']
 ·refine((Zaj fun c hc=> ?_).trans (Zbe _)).symm
  unfold A23
  rw[if_neg fun e=>hxb (Zaf.2 ⟨c,(Zag.1 hc).1,e⟩)];rfl
theorem Ai2 {a b:List Cell} {x:Cell} (hxa:x.dot∉a.map (·.dot)):Ff a (b++[x])=Ff a b++[x]:=by
 have ht:Mb a x=true:=Md.2 hxa
 unfold Ff
 rw[Za2,Za5,ht]
 simp only[if_true,Zap,<-Zan]
 congr 2
 refine Zaj fun c hc=> ?_
 have:¬ x.dot=c.dot:=fun h=>hxa (Zaf.2 ⟨c,hc,h.symm⟩)
 simp[Rr,this]
theorem Ano (a:List Cell):Ff a []=a:=by
 simp only[Ff,Zap,Zav]
 refine(Zaj fun c _=> ?_).trans (Zbe _)
 simp[Rr]
theorem Ab4 (a b:List Cell):(Ff a b).length<=a.length+b.length:=by
 unfold Ff
 rw[Zar,Zbp]
 have:=Zak (Mb a) b
 omega
theorem Apu {a b:List Cell} {i:Nat} (hi:i<a.length):∃ h:i<(Ff a b).length,(Ff a b)[i]=Rr b a[i]:=by
 have h:i<(Ff a b).length:=by unfold Ff;rw[Zar,Zbp];omega
 refine⟨h,?_⟩
 show(a.map (Rr b)++b.filter (Mb a))[i]'h=_
 exact(List.getElem_append_left (by simpa using hi)).trans (Zaq _)
theorem Anp {l:List Cell} {x:Cell} {k:Nat} (hn:(l.map (·.dot)).Nodup) (hk:k<l.length) (hd:l[k].dot=x.dot):l.map (A23 x)=l.set k {l[k] with gone:=l[k].gone||x.gone}:=by
 refine Zbj (by simp) fun j h1 h2=> ?_
 have hj:j<l.length:=by simpa using h1
 rw[Zaq,List.getElem_set]
 unfold A23
 by_cases hjk:k=j
 ·subst hjk
  rw[if_pos rfl,if_pos hd]
 ·rw[if_neg hjk,if_neg fun e=>hjk (Apn hn hk hj (by rw[hd,e]))]
theorem Zk (N:St) (va vb:GV) (a b:List Cell) (ha:RS Ai.kd N va a) (hb:RS Ai.kd N vb b) (hla:a.length<=1073741824) (hlb:b.length<=1073741824) (hpa:a.Pairwise fun a b=>Az a.dot b.dot=true) (hnb:(b.map (·.dot)).Nodup):∃ r U,Ret Tryz.prog 338 [va,vb] N r U/\Hp N U [ow Ai.kd r (Bz a b)]:=by
 have hna:=Mc hpa
 refine Bg A24 (Z0z rfl) (Hx.refl N) ?_
 simp only[go_sem,Pw]
 intro n fn U H
 refine Qy (p:=Ai) H (ha.pre H.sub) (by decide) (by omega) fun w U1 H1=> ?_
 simp only[go_sem]
 refine by_mkm H1 fun m U2 H2=> ?_
 simp only[go_sem,ha.len]
 refine Ax a.length 19 0 (fun i env h=>env 1=vb/\env 5=w/\env 6=m/\env 17=va/\env 18=gi a.length/\h=[.th (mpt m (plc 0 (a.take i))),.th (ow Ai.kd w a)]) (fun env h=>env 1=vb/\env 5=w/\env 6=m/\h=[.th (mpt m (plc 0 a)),.th (ow Ai.kd w a)]) (fun env h=>False) _ H2 (rfl) ⟨rfl,rfl,rfl,rfl,rfl,rfl⟩ ?_ ?_ ?_ ?_
 ·clear H H1 H2
  rintro J Yq Wq hJ hY hW i env h U hi ei c0 H ⟨e1,e5,e6,e17,e18,rfl⟩
  have L1:=Ab ha hi
  simp +contextual only[go_sem,c0,e1,e5,e6,e17,e18,ei,A0,L1]
  intro n1 f1 U1 _ U2 H2
  refine by_mup H2 1 rfl a[i].dot i (Ams hpa hi) fun U3 H3=> ?_
  simp(disch:=omega) only[go_sem,ei]
  refine hJ _ _ _ _ (H3.re [1,2] (by decide)) ⟨e1,e5,e6,e17,e18,?_⟩
  rw[Ak hi,Aa4,Zaz,Nat.min_eq_left (by omega),Nat.zero_add]
  rfl
 ·clear H H1 H2
  rintro Yq hY env h U ei c0 H ⟨e1,e5,e6,e17,e18,rfl⟩
  simp only[go_sem,c0,e18,ei]
  exact hY _ _ _ H ⟨e1,e5,e6,by rw[Zab]⟩
 rotate_left
 ·exact fun _ _ _ _ h=>h.elim
 clear H H1 H2
 rintro env h U H ⟨e1,e5,e6,rfl⟩
 simp only[go_sem,e1,hb.len]
 refine Ax b.length 31 2 (fun i env h=>∃ w,env 5=w/\env 6=m/\env 29=vb/\env 30=gi b.length/\h=[.th (mpt m (plc 0 a)),.th (ow Ai.kd w (Ff a (b.take i)))]) (fun env h=>∃ w,env 5=w/\h=[.th (mpt m (plc 0 a)),.th (ow Ai.kd w (Ff a b))]) (fun env h=>False) _ H (rfl) ⟨w,e5,e6,rfl,rfl,by rw[Za8,Ano]⟩ ?_ ?_ ?_ ?_
 ·clear H e1 e5 e6
  rintro J Yq Wq hJ hY hW i env h U hi ei c0 H ⟨w,e5,e6,e29,e30,rfl⟩
  have L1:=Ab hb hi
  have hxb:b[i].dot∉(b.take i).map (·.dot):=fun hm=>by
   obtain⟨c,hc,e⟩:=Zaf.1 hm
   obtain⟨j,hj,rfl⟩:=Zai hc
   have hj2:j<b.length:=by simp at hj;omega
   rw[Zbi] at e
   have:=Apn hnb hj2 hi e
   simp at hj;omega
  have hjn:=O7 hna (((Zay i b).map (·.dot)).nodup hnb)
  have hjl:=Ab4 a (b.take i)
  have hjl2:(b.take i).length<=b.length:=by rw[Zaz];omega
  simp +contextual only[go_sem,c0,e5,e6,e29,e30,ei,A0,L1]
  intro n1 f1 U1 _ U2 H2
  have ML:=H2.mlk 1 rfl b[i].dot
  rw[Tw] at ML
  cases hx:Cx a b[i].dot with
  |none=>
   have hxa:b[i].dot∉a.map (·.dot):=fun h=>by obtain⟨k,hk⟩:=Aes h;rw[hx] at hk;cases hk
   simp only[hx,Option.map_none,Option.getD_none,Option.isSome_none] at ML
   simp(disch:=omega) only[go_sem,ML,e5,e6,e29,e30,ei]
   intro n3 f3 U3 H3
   refine E8 (p:=Ai) H3 3 rfl b[i] Be (by decide) (by omega) fun w' U4 H4=> ?_
   simp(disch:=omega) only[go_sem,e6,e29,e30,ei]
   exact hJ _ _ _ _ (H4.re [2,3] (by decide)) ⟨w',rfl,e6,e29,e30,by rw[Ak hi,Ai2 hxa];rfl⟩
  |some k=>
   obtain⟨hk,hd⟩:=Bs hx
   obtain⟨hk2,hke⟩:=Apu (b:=b.take i) hk
   have hxa:b[i].dot∈a.map (·.dot):=Zaf.2 ⟨a[k],Zae hk,hd⟩
   simp only[hx,Option.map_some,Option.getD_some,Option.isSome_some,Nat.zero_add] at ML
   have O1:=Aat H2 2 rfl hk2
   have hgs:=Anp (x:=b[i]) hjn hk2 (by rw[hke];exact hd)
   have hst:∀ b',b'=((Ff a (b.take i))[k].gone||b[i].gone)->Ff a (b.take (i+1))=(Ff a (b.take i)).set k {(Ff a (b.take i))[k] with gone:=b'}:=fun b' e=>by
    rw[Ak hi,Ann hxa hxb,hgs,e]
   cases hg:(Ff a (b.take i))[k].gone with
   |true=>
    simp only[go_sem,ML,e5,e6,e29,e30,ei,A0,O1,hg]
    refine Ajh (p:=Ai) H2 2 rfl hk2 {(Ff a (b.take i))[k] with gone:=true} rfl (by decide) (by decide) rfl fun U3 H3=> ?_
    simp(disch:=omega) only[go_sem,e5,e6,e29,e30,ei]
    exact hJ _ _ _ _ (H3.re [1,2] (by decide)) ⟨w,e5,e6,e29,e30,by rw[hst true (by rw[hg];rfl)];rfl⟩
   |false=>
    simp(disch:=omega) only[go_sem,ML,e5,e6,e29,e30,ei,A0,O1,hg]
    refine Ajh (p:=Ai) H2 2 rfl hk2 {(Ff a (b.take i))[k] with gone:=b[i].gone} rfl (by decide) (by decide) rfl fun U3 H3=> ?_
    simp(disch:=omega) only[go_sem,e5,e6,e29,e30,ei]
    exact hJ _ _ _ _ (H3.re [1,2] (by decide)) ⟨w,e5,e6,e29,e30,by rw[hst b[i].gone (by rw[hg];rfl)];rfl⟩
 ·clear H e1 e5 e6
  rintro Yq hY env h U ei c0 H ⟨w,e5,e6,e29,e30,rfl⟩
  simp only[go_sem,c0,e30,ei]
  exact hY _ _ _ H ⟨w,e5,by rw[Zab]⟩
 ·clear H e1 e5 e6
  rintro env h U H ⟨w,e5,rfl⟩
  simp only[go_sem,e5]
  have hjl:=Ab4 a b
  obtain⟨U5,R5,H5⟩:=Ab3 H.hp 1 rfl (by omega) (Anj (O7 hna hnb))
  refine by_m (h':=[.th (mpt m (plc 0 a)),.th (ow Ai.kd w (Bz a b))]) R5 H5 ?_
  simp only[go_sem,e5]
  exact fun _=>⟨_,rfl,Hp.sel H5 [1] (by decide)⟩
 ·exact fun _ _ _ _ h=>h.elim
def A54:Fn1:=⟨26,[.t 4],(rg [oV 4 (ki 0)] (.seq (.blk 0 (rg [oM 6 0,oC 7 176 6,oU 8 7,oM 9 8,vM 10 9 1,vC 11 9 176 10,vU 12 9 11,oP 13 9 12,oM 5 13] (cn 5 (oR 4 (ki 3)) (rg [oM 15 0,oM 16 1,oD 17 156 15 16,oM 14 17] (cn 14 (oR 4 (ki 0)) (rg [oM 19 0,oM 20 1,oD 21 177 19 20,oM 18 21] (cn 18 (rg [o 4 (.mov (ki (-1)))] .ret) (rg [oM 23 1,oM 24 0,oD 25 177 23 24,oM 22 25] (oG 22 (oR 4 (ki 1))))))))))) (oR 4 (ki 2))))⟩
theorem Aev:A8 Tryz.prog 53=some A54:=by kernel_rfl
def A56:Fn1:=⟨21,[.t 2],(rg [o 2 (.mov (.k .nilS))] (rg [o 6 (.call 179 []),oM 3 6] (.seq (rg [oM 7 0,oN 8 7,oV 9 (ki 0)] (oH 0 (rg [oB 10 .lss 9 8] (.seq (oJ 10 0) (.seq (.blk 1 (rg [oI 11 1 7 9,oL 12 11,oM 5 12] (.seq (rg [oM 13 5,oC 14 176 13,oU 15 14] (oG 15 (rg [o 2 (.mov (.k .nilS))] .ret))) (.reg [oM 16 3,oM 17 5,oD 18 180 16 17,oM 3 18])))) (.reg [oZ 19 9 1,oM 9 19])))))) (rg [oM 20 3,oM 2 20] .ret))))⟩
theorem Aew:A8 Tryz.prog 56=some A56:=by kernel_rfl
def A58:Fn1:=⟨26,[.t 2],(rg [o 2 (.mov (.k .nilS))] (rg [o 6 (.lit 1 0 [] []),oM 3 6] (.seq (rg [oM 7 0,oN 8 7,oV 9 (ki 0)] (oH 0 (rg [oB 10 .lss 9 8] (.seq (oJ 10 0) (.seq (.blk 1 (rg [oM 11 9,oI 12 1 7 9,oL 13 12,oM 4 11,oM 5 13] (.seq (rg [oM 14 5,oC 15 176 14,oU 16 15] (oG 16 (rg [o 2 (.mov (.k .nilS))] .ret))) (.seq (rg [oM 17 4,oE 18 .eql 17 0] (oG 18 (.reg [oM 19 5,oC 20 182 19,oM 3 20]))) (.reg [oM 21 3,oM 22 5,oD 23 183 21 22,oM 3 23]))))) (.reg [oZ 24 9 1,oM 9 24])))))) (rg [oM 25 3,oM 2 25] .ret))))⟩
theorem Aex:A8 Tryz.prog 58=some A58:=by kernel_rfl
def A5a:Fn1:=⟨36,[.t 4],(rg [o 4 (.mov (.k .nilS))] (.seq (rg [oM 8 0,oC 9 176 8,oU 10 9,oM 11 10,vM 12 11 1,vC 13 11 176 12,vU 14 11 13,oP 15 11 14] (oG 15 (rg [o 4 (.mov (.k .nilS))] .ret))) (rg [oM 16 0,oC 17 182 16,oM 5 17] (.seq (rg [oM 18 1,oN 19 18,oV 20 (ki 0)] (oH 0 (rg [oB 21 .lss 20 19] (.seq (oJ 21 0) (.seq (.blk 1 (rg [oM 22 20,oI 23 1 18 20,oL 24 23,oM 6 22,oM 7 24] (.reg [oM 25 5,oM 26 6,oM 27 5,oM 28 6,oI 29 1 27 28,oL 30 29,oM 31 7,o 32 (.mm false (.t 30) (.t 31)),oI 33 1 25 26,oS 1 33 32]))) (.reg [oZ 34 20 1,oM 20 34])))))) (rg [oM 35 5,oM 4 35] .ret)))))⟩
theorem Aey:A8 Tryz.prog 183=some A5a:=by kernel_rfl
def kMin (a b:List Int):List Int:=zipK mn a b
theorem Vx (N:St) (v u:GV) (a b:List Int) (ha:RS pI.kd N v a) (hb:RS pI.kd N u b) (hla:a.length<=1099511627776) (hlb:b.length<=1099511627776):∃ r U,Ret Tryz.prog 183 [v,u] N r U/\Hp N U [ow pI.kd r (kMin a b)]:=by
 refine Tr (rs:=fun r=>[ow pI.kd r (kMin a b)]) Aey (Z0z rfl) ?_
 simp only[go_sem,A5a]
 refine Ac (Bw _ v a ha hla) (fun h1=> ?_) (fun h1=> ?_)
 ·simp only[go_sem]
  refine Ac (Bw _ u b hb hlb) (fun h2=> ?_) (fun h2=> ?_)
  ·have hk:kMin a b=List.zipWith mn a b:=A3p h1 h2
   have la:=D8 h1
   have lb:=D8 h2
   simp only[go_sem]
   obtain⟨r,U,R,K⟩:=E6 N v a ha hla
   refine J8 R K ?_
   simp only[go_sem,hb.len]
   refine Dg b.length 20 (fun i env U=>env 5=r/\env 18=u/\env 19=gi b.length/\Hp N U [ow pI.kd r ((kMin a b).take i++a.drop i)]) rfl ⟨rfl,rfl,rfl,by simpa using K⟩ ?_ ?_
   ·rintro i env U hi e20 c0 ⟨e5,e18,e19,H⟩
    have hj:i<a.length:=by omega
    rw[hk] at H
    obtain⟨hq,hcur⟩:=Amt (f:=mn) hj hi
    have hat:=Cw (H.sl 0 rfl) hq
    rw[hcur] at hat
    obtain⟨U2,es,H2⟩:=H.stw 0 rfl hq 1 (.int .i64 (mn a[i] b[i])) (mn a[i] b[i]) rfl rfl (by decide)
    have es:stG 1 U (atz 1 r i) (.int .i64 (if b[i]<a[i] then b[i] else a[i]))=some (.tup [],U2):=es
    rw[Aj7 hj hi (by omega),<-hk] at H2
    simp(disch:=omega) only[go_sem,c0,e5,e18,e19,e20,Cw (hb.pre H.sub) hi,hat,es]
    exact H2
   ·rintro env U e20 c0 ⟨e5,e18,e19,H⟩
    rw[Zbb (by rw[hk];simp;omega),List.drop_eq_nil_of_le (by omega),Zav] at H
    simp only[go_sem,c0,e5,e18,e19,e20]
    exact⟨_,rfl,H⟩
  ·simp only[go_sem]
   exact⟨_,rfl,by simpa [kMin,zipK,h1,h2] using (Hp.refl N).nilS (d:=pI.kd)⟩
 ·simp only[go_sem]
  exact⟨_,rfl,by simpa [kMin,zipK,h1] using (Hp.refl N).nilS (d:=pI.kd)⟩
def Mg (a b:List Int):Int:=if okK a&&okK b then(if a=b then 0 else if Gf a b then -1 else if Gf b a then 1 else 2) else 3
theorem Ab5 (N:St) (v u:GV) (a b:List Int) (ha:RS pI.kd N v a) (hb:RS pI.kd N u b) (hla:a.length<=1099511627776) (hlb:b.length<=1099511627776):Ret Tryz.prog 53 [v,u] N (gi (Mg a b)) N:=by
 refine B7 Aev (Z0z rfl) trivial ?_
 simp only[go_sem,A54]
 refine Ac (Bw _ v a ha hla) (fun h1=> ?_) (fun h1=> ?_)
 ·simp only[go_sem]
  refine Ac (Bw _ u b hb hlb) (fun h2=> ?_) (fun h2=> ?_)
  ·simp only[go_sem]
   refine Ac (Ep N v u a b ha hb hla) (fun h3=> ?_) (fun h3=> ?_)
   ·simp only[go_sem]
    simp[Mg,h1,h2,of_decide_eq_true h3]
   ·simp only[go_sem]
    have h3:=of_decide_eq_false h3
    refine Ac (Hh N v u a b ha hb hla hlb) (fun h4=> ?_) (fun h4=> ?_)
    ·simp only[go_sem]
     simp[Mg,h1,h2,h3,h4]
    ·simp only[go_sem]
     refine Ac (Hh N u v b a hb ha hlb hla) (fun h5=> ?_) (fun h5=> ?_)
     ·simp only[go_sem]
      simp[Mg,h1,h2,h3,h4,h5]
     ·simp only[go_sem]
      simp[Mg,h1,h2,h3,h4,h5]
  ·simp only[go_sem]
   simp[Mg,h1,h2]
 ·simp only[go_sem]
  simp[Mg,h1]
def Zl (ll:List (List Int)):List Int:=if ll.all okK then ll.foldl kMax [0,0,0] else[]
theorem A2o (a b:List Int):(kMax a b).length<=3:=Aa9 mx a b
theorem Px (ll:List (List Int)):∀ a:List Int,a.length<=3->(ll.foldl kMax a).length<=3:=by
 induction ll with
 |nil=>intro a h;exact h
 |cons k ll ih=>intro a _;exact ih _ (A2o a k)
theorem Ab6 (N:St) (v:GV) (ll:List (List Int)) (h:RS pI.kd.sl N v ll) (hl:ll.length<=1099511627776) (hll:∀ l∈ll,l.length<=1099511627776):∃ r U,Ret Tryz.prog 56 [v] N r U/\Hp N U [ow pI.kd r (Zl ll)]:=by
 refine Tr (rs:=fun r=>[ow pI.kd r (Zl ll)]) Aew (Z0z rfl) ?_
 simp only[go_sem,A56]
 obtain⟨r,U,R,K⟩:=V7 N
 refine J8 R K ?_
 simp only[go_sem,(h.pre K.sub).len]
 refine Dg ll.length 9 (fun i env U=>env 7=v/\env 8=gi ll.length/\(ll.take i).all okK=true/\Hp N U [ow pI.kd (env 3) ((ll.take i).foldl kMax [0,0,0])]) rfl ⟨rfl,rfl,rfl,K⟩ ?_ ?_
 ·rintro i env U hi e9 c0 ⟨e7,e8,ha,H⟩
  have hf:=fun h=>Cp (p:=okK) hi h
  have ht:=C6 hi ha
  obtain⟨c,hc,hr⟩:=RdN.cells1 (h.pre H.sub) hi
  have hlc:=hll _ (Zae hi)
  simp only[go_sem,c0,e7,e8,e9,hc]
  refine Ac (Bw U c _ hr hlc) (fun h1=> ?_) (fun h1=> ?_)
  ·simp only[go_sem]
   have hlf:=Px (ll.take i) [0,0,0] (by simp)
   obtain⟨r2,U2,R2,K2⟩:=V8 U (env 3) c _ _ (H.sl 0 rfl) hr (by omega) hlc
   refine J8 R2 K2 ?_
   simp(disch:=omega) only[go_sem,e7,e8,e9]
   refine⟨ht h1,?_⟩
   rw[Ak hi,Za4]
   exact(H.add K2).one
  ·simp only[go_sem]
   refine⟨_,rfl,?_⟩
   have:Zl ll=[]:=by simp[Zl,hf h1]
   rw[this]
   exact(Hp.nil H.sub).nilS
 ·rintro env U e9 c0 ⟨e7,e8,ha,H⟩
  rw[Zab] at ha H
  simp only[go_sem,c0,e7,e8,e9]
  refine⟨_,rfl,?_⟩
  have:Zl ll=ll.foldl kMax [0,0,0]:=by simp[Zl,ha]
  rw[this]
  exact H
def Zm:List (List Int)->List Int
 |[]=>[]
 |k::r=>(k::r).foldl kMin k
def Zn (ll:List (List Int)):List Int:=if ll.all okK then Zm ll else[]
theorem Zo (ll:List (List Int)) (k:List Int):Zm (ll++[k])=kMin (if ll.length=0 then k else Zm ll) k:=by
 cases ll with
 |nil=>rfl
 |cons x r=>
  show List.foldl kMin x (x::r++[k])=_
  rw[Za4];rfl
theorem A5b (ll:List (List Int)):(Zm ll).length<=3:=by
 cases ll with
 |nil=>simp[Zm]
 |cons x r=>
  have:∀(r:List (List Int)) (a:List Int),a.length<=3->(r.foldl kMin a).length<=3:=by
   intro r
   induction r with
   |nil=>intro a h;exact h
   |cons k r ih=>intro a _;exact ih _ (Aa9 mn a k)
  exact this r _ (Aa9 mn x x)
theorem Ab7 (N:St) (v:GV) (ll:List (List Int)) (h:RS pI.kd.sl N v ll) (hl:ll.length<=1099511627776) (hll:∀ l∈ll,l.length<=1099511627776):∃ r U,Ret Tryz.prog 58 [v] N r U/\Hp N U [ow pI.kd r (Zn ll)]:=by
 refine Tr (rs:=fun r=>[ow pI.kd r (Zn ll)]) Aex (Z0z rfl) ?_
 have H0:=(Hp.refl N).nil_int
 simp only[go_sem,A58,(h.pre H0.sub).len]
 refine Dg ll.length 9 (fun i env U=>env 7=v/\env 8=gi ll.length/\(ll.take i).all okK=true/\Hp N U [ow pI.kd (env 3) (Zm (ll.take i))]) rfl ⟨rfl,rfl,rfl,H0⟩ ?_ ?_
 ·rintro i env U hi e9 c0 ⟨e7,e8,ha,H⟩
  have hf:=fun h=>Cp (p:=okK) hi h
  have ht:=C6 hi ha
  obtain⟨c,hc,hr⟩:=RdN.cells1 (h.pre H.sub) hi
  have hlc:=hll _ (Zae hi)
  simp only[go_sem,c0,e7,e8,e9,hc]
  refine Ac (Bw U c _ hr hlc) (fun h1=> ?_) (fun h1=> ?_)
  ·have hlt:(ll.take i).length=i:=by simp;omega
   simp +contextual only[go_sem]
   refine⟨fun hz=> ?_,fun hz=> ?_⟩
   ·have hz:i=0:=by simpa using hz
    subst hz
    obtain⟨r2,U2,R2,K2⟩:=E6 U c _ hr hlc
    obtain⟨r3,U3,R3,K3⟩:=Vx U2 r2 c _ _ (K2.sl 0 rfl) (hr.pre K2.sub) hlc hlc
    refine J8 R2 K2 ?_
    simp only[go_sem]
    refine J8 R3 K3 ?_
    simp(disch:=omega) only[go_sem,e7,e8,e9]
    refine⟨ht h1,?_⟩
    rw[Ak hi,Zo]
    exact((H.add K2).add K3).one
   ·have hz:i≠0:=by simpa using hz
    have hlf:=A5b (ll.take i)
    obtain⟨r2,U2,R2,K2⟩:=Vx U (env 3) c _ _ (H.sl 0 rfl) hr (by omega) hlc
    refine J8 R2 K2 ?_
    simp(disch:=omega) only[go_sem,e7,e8,e9]
    refine⟨ht h1,?_⟩
    rw[Ak hi,Zo,if_neg (by omega)]
    exact(H.add K2).one
  ·simp only[go_sem]
   refine⟨_,rfl,?_⟩
   have:Zn ll=[]:=by simp[Zn,hf h1]
   rw[this]
   exact(Hp.nil H.sub).nilS
 ·rintro env U e9 c0 ⟨e7,e8,ha,H⟩
  rw[Zab] at ha H
  simp only[go_sem,c0,e7,e8,e9]
  refine⟨_,rfl,?_⟩
  have:Zn ll=Zm ll:=by simp[Zn,ha]
  rw[this]
  exact H
def Rt:Fn1:=⟨16,[.t 4],(rg [oV 4 kf] (dw [oF 5 1 1,oL 6 5,oM 7 0,oI 8 1 6 7,oL 9 8,oF 10 0 2,oL 11 10,oM 12 0,oI 13 1 11 12,oL 14 13] [oB 15 .gtr 9 14,oM 4 15] .ret))⟩
theorem A5c:A8 Tryz.prog 335=some Rt:=by kernel_rfl
def A5d:Fn1:=⟨134,[.c 4 true 4,.t 5],(rg [oX 2 0,oX 3 1,o 4 (.new [.nilS,.nilS,.nilS,.nilS]),oV 5 (ki 0)] (rg [oW 13 4 2,oC 14 255 13,o 6 (.new [.nilS,.nilS,.nilS,.nilS]),oS 4 6 14] (.seq (.blk 0 (rg [oW 16 4 2,oC 17 195 16,oU 18 17,oM 19 18,vW 20 19 6 3,vC 21 19 225 20,vU 22 19 21,oP 23 19 22,oM 15 23] (cn 15 (rg [oW 24 4 6,oS 4 4 24,oV 5 (ki 3)] .ret) (rg [oF 26 1 3,oL 27 26,oF 28 0 2,oL 29 28,oD 30 177 27 29,oM 25 30] (cn 25 (rg [oW 31 4 6,oS 4 4 31,oV 5 (ki 1)] .ret) (rg [oF 33 0 3,oL 34 33,oF 35 0 2,oL 36 35,oD 37 177 34 36,oU 38 37,oM 32 38] (oG 32 (rg [oW 39 4 6,oS 4 4 39,oV 5 (ki 2)] .ret)))))))) (rg [oF 40 0 2,oL 41 40,oF 42 1 3,oL 43 42,oD 44 180 41 43,o 45 (.build [.nilS,.nilS,.nilS,.nilS] [(0,1,(.t 44))]),o 7 (.new [.nilS,.nilS,.nilS,.nilS]),oS 4 7 45] (rg [oF 46 1 2,oL 47 46,oF 48 2 3,oL 49 48,o 50 (.mkf 335 (oT [3,2])),o 51 (.call 334 (oT [47,49,50])),oF 52 1 7,oS 1 52 51] (.seq (rg [oF 53 2 2,oL 54 53,oN 55 54,oV 56 (ki 0)] (oH 1 (rg [oB 57 .lss 56 55] (.seq (oJ 57 1) (.seq (.blk 2 (rg [oI 58 6 54 56,oW 59 6 58,o 9 (.new [(.bool false),s0,s0,z0,z0,z0]),oS 6 9 59] (rg [oF 60 1 3,oL 61 60,oF 62 4 9,oW 63 2 62,oD 64 170 61 63,oM 65 64,jF 66 65 0 3,jL 67 65 66,jF 68 65 4 9,jW 69 65 2 68,jD 70 65 170 67 69,jU 71 65 70,oQ 72 65 71,oM 73 72,jF 74 73 3 3,jL 75 73 74,jW 76 73 6 9,jD 77 73 318 75 76,jU 78 73 77,oQ 79 73 78,oM 10 79] (rg [oM 80 10,oU 81 80,oM 82 81,jF 83 82 4 3,jL 84 82 83,jF 85 82 4 9,jW 86 82 2 85,jD 87 82 336 84 86,jU 88 82 87,oQ 89 82 88] (oG 89 (.reg [oF 90 2 7,oL 91 90,oW 92 6 9,o 93 (.lit 6 1 [(.bool false),s0,s0,z0,z0,z0] [(0,6,(.t 92))]),o 94 (.app 6 64 [(.bool false),s0,s0,z0,z0,z0] (.t 91) (.t 93)),oF 95 2 7,oS 1 95 94])))))) (.reg [oZ 96 56 1,oM 56 96])))))) (.seq (rg [oF 97 3 3,oL 98 97,oN 99 98,oV 100 (ki 0)] (oH 3 (rg [oB 101 .lss 100 99] (.seq (oJ 101 3) (.seq (.blk 4 (rg [oI 102 6 98 100,oW 103 6 102,o 12 (.new [(.bool false),s0,s0,z0,z0,z0]),oS 6 12 103] (rg [oF 104 0 2,oL 105 104,oF 106 4 12,oW 107 2 106,oD 108 170 105 107,oU 109 108] (oG 109 (.reg [oF 110 2 7,oL 111 110,oW 112 6 12,o 113 (.lit 6 1 [(.bool false),s0,s0,z0,z0,z0] [(0,6,(.t 112))]),o 114 (.app 6 64 [(.bool false),s0,s0,z0,z0,z0] (.t 111) (.t 113)),oF 115 2 7,oS 1 115 114]))))) (.reg [oZ 116 100 1,oM 100 116])))))) (rg [oF 117 2 7,oL 118 117,oC 119 337 118] (rg [oF 120 3 2,oL 121 120,oF 122 5 3,oL 123 122,oD 124 338 121 123,oF 125 3 7,oS 1 125 124] (.seq (rg [oW 126 4 7,oC 127 260 126] (oG 127 (rg [oW 128 4 6,oS 4 4 128,oV 5 (ki 4)] .ret))) (.seq (rg [oW 129 4 7,oC 130 195 129,oU 131 130] (oG 131 (rg [oW 132 4 6,oS 4 4 132,oV 5 (ki 3)] .ret))) (rg [oW 133 4 7,oS 4 4 133,oV 5 (ki 0)] .ret))))))))))))⟩
theorem Aez:A8 Tryz.prog 270=some A5d:=by kernel_rfl
def Fb (s:State) (d:Delta) (rep:Int):Bool:=decide (at0 s.know rep<at0 d.know rep)
def Mh (d:Delta) (l:Live):Bool:= !(As d.know l.dot&&(!As d.base l.dot&& !decide (l∈d.lives)))&& !decide (l.dot∈d.dead)
def newD (s:State) (l:Live):Bool:= !As s.know l.dot
def R0 (s:State) (d:Delta):State:=⟨kMax s.know d.know,Ft (Fb s d) s.tallies d.tallies,Ar C5 (s.lives.filter (Mh d)++d.lives.filter (newD s)),Bz s.cells d.cells⟩
def Ay (s:State) (d:Delta):State×Int:=
 if !(B6 s&&Bt d) then(s,3) else if Gf d.know s.know then(s,1) else if !Gf d.base s.know then(s,2) else
 if F6 (R0 s d) then(s,4) else if !B6 (R0 s d) then(s,3) else(R0 s d,0)
theorem Ai3 {l:List Tally} (h:Fc l=true):l.Pairwise fun a b=>Af a b=true:=by
 simp only[Fc,Zaa,Bp,talP] at h
 exact Tv (lt:=Af) (fun a b c h1 h2=>Kb.trans _ _ _ h1 h2) fun i hi=>(h.1 i hi).2
theorem Ab8 {l:List Tally} (h:Fc l=true) {t:Tally} (ht:t∈l):0<=t.rep/\t.rep<=2:=by
 simp only[Fc,Zaa,Bp,talP] at h
 obtain⟨i,hi,rfl⟩:=Zai ht
 have:=(h.1 i hi).1
 rw[Br hi] at this
 simp only[tal1,Zaa] at this
 exact Di.1 this.2.1
theorem A5e {s:State} {d:Delta} (hs:B6 s=true) (hd:Bt d=true):okK s.know=true/\okK d.know=true/\s.tallies.Pairwise (fun a b=>Af a b=true)/\d.tallies.Pairwise (fun a b=>Af a b=true)/\(∀ t,t∈s.tallies∨t∈d.tallies->0<=t.rep/\t.rep<=2)/\s.cells.Pairwise (fun a b=>Az a.dot b.dot=true)/\d.cells.Pairwise (fun a b=>Az a.dot b.dot=true)/\s.lives.Pairwise (fun a b=>Az a.dot b.dot=true)/\d.lives.Pairwise (fun a b=>Az a.dot b.dot=true)/\∀ l∈s.lives,As s.know l.dot=true:=by
 have hk:=(Su hs).2.1
 simp only[B6,Zaa] at hs
 simp only[Bt,Zaa] at hd
 obtain⟨a1,a2,a3,a4,_⟩:=hs
 obtain⟨b1,b2,b3,b4,_⟩:=hd
 simp only[Gf,Zaa] at b1
 exact⟨a1,b1.2.1,Ai3 a2,Ai3 b2,fun t ht=>ht.elim (Ab8 a2) (Ab8 b2),Xz a4,Xz b4,A2l a3,A2l b3,hk⟩
theorem Af0 {l:List Live} (h:l.Pairwise fun a b=>Az a.dot b.dot=true):(l.map (·.dot)).Nodup:=by
 rw[List.Nodup,Zam]
 refine h.imp fun {a b} h1 e=> ?_
 rw[e,Hw] at h1;cases h1
theorem Anq {l:List Live} (h:(l.map (·.dot)).Nodup):∀ x∈l,∀ y∈l,C5 x y=false->C5 y x=false->x=y:=fun x hx y hy h1 h2=>Ani h hx hy (Tu h1 h2)
theorem Al4 {p:Live->Bool} {k:List Int} {a b:List Live} (ha:a.Pairwise fun a b=>Az a.dot b.dot=true) (hb:b.Pairwise fun a b=>Az a.dot b.dot=true) (hk:∀ l∈a,As k l.dot=true):((a.filter p++b.filter fun l=> !As k l.dot).map (·.dot)).Nodup:=by
 rw[Zao,Zau]
 refine⟨Af0 (ha.filter _),Af0 (hb.filter _),?_⟩
 intro x hx y hy e
 obtain⟨t,ht,rfl⟩:=Zaf.1 hx
 obtain⟨u,hu,rfl⟩:=Zaf.1 hy
 have h1:=hk t (Zag.1 ht).1
 have h2:=(Zag.1 hu).2
 rw[<- e,h1] at h2;cases h2
theorem Kh {Y:Type} (f:Y->Nat) (l m:List Y):sumL f (l++m)=sumL f l+sumL f m:=by simp[sumL]
theorem Anr {Y:Type} (f:Y->Nat) {g:Y->Y} (hg:∀ x,f (g x)=f x) (l:List Y):sumL f (l.map g)=sumL f l:=by
 unfold sumL
 rw[Zbc]
 congr 1
 exact Zaj fun x _=>hg x
theorem Af1 (f:Int->Bool) (a b:List Tally):(Ft f a b).length<=a.length+b.length/\sumL Bl (Ft f a b)<=sumL Bl a+sumL Bl b:=by
 unfold Ft
 rw[Cm,M9 Bl (Bb _ _),Zar,Kh]
 have:=Zak (fun t:Tally=> !f t.rep) a
 have:=Zak (fun t:Tally=>f t.rep) b
 have:=Gn Bl (fun t:Tally=> !f t.rep) a
 have:=Gn Bl (fun t:Tally=>f t.rep) b
 omega
theorem Vy (a b:List Cell):(Bz a b).length<=a.length+b.length/\sumL Ht (Bz a b)<=sumL Ht a+sumL Ht b:=by
 unfold Bz
 rw[Cm,M9 Ht (Bb _ _)]
 refine⟨Ab4 a b,?_⟩
 unfold Ff
 rw[Kh,Anr Ht (g:=Rr b) fun x=>rfl]
 have:=Gn Ht (Mb a) b
 omega
theorem Ajl (p q:Live->Bool) (a b:List Live):(Ar C5 (a.filter p++b.filter q)).length<=a.length+b.length/\sumL G6 (Ar C5 (a.filter p++b.filter q))<=sumL G6 a+sumL G6 b:=by
 rw[Cm,M9 G6 (Bb _ _),Zar,Kh]
 have:=Zak p a
 have:=Zak q b
 have:=Gn G6 p a
 have:=Gn G6 q b
 omega
theorem Ans (s:State) (d:Delta):Ad (R0 s d)<=Ad s+Au d+3:=by
 have h1:=Af1 (Fb s d) s.tallies d.tallies
 have h2:=Vy s.cells d.cells
 have h3:=Ajl (Mh d) (newD s) s.lives d.lives
 have h4:=A2o s.know d.know
 simp only[R0,Ad,Au]
 omega
theorem A25 (N:St) (nd ns:Nat) (ds cs:List GV) (d:Delta) (s:State) (hd:rdB N nd=some ds) (hs:rdB N ns=some cs) (hD:Aw.R N d ds) (hS:A4.R N s cs) (h1:okK d.know=true) (h2:okK s.know=true) (rep:Int) (h0:0<=rep/\rep<=2):Ret Tryz.prog 335 [gi rep,.ptr nd 0,.ptr ns 0] N (.bool (Fb s d rep)) N:=by
 obtain⟨w0,w1,w2,w3,w4,w5,rfl,q0,q1,q2,q3,q4,q5⟩:=hD
 obtain⟨a,b,c,v,rfl,hk,_⟩:=hS
 refine Cb A5c (Z0z rfl) trivial ?_
 have A1:=Jd q1 h1 h0.1 h0.2
 have A2:=Jd hk h2 h0.1 h0.2
 have F1:ldG false 1 N (.ptr nd 1)=some w1:=by rw[A7 hd];rfl
 have F2:ldG false 1 N (.ptr ns 0)=some a:=by rw[A7 hs];rfl
 simp only[go_sem,Rt,fun h U=>Aeh (h:=h) (U:=U) F1,fun h U=>Aeh (h:=h) (U:=U) F2,A1,A2]
 exact fun _=>rfl
abbrev z4':List GV:=[GV.nilS,GV.nilS,GV.nilS,GV.nilS]
theorem Ab9 (N:St) (cs:List GV) (s:State) (hR:A4.R N s cs) (ds:List GV) (d:Delta) (hD:Aw.R N d ds) (hl:Ad s<=1073741824) (hm:Au d<=1073741824):∃ r U,Ret Tryz.prog 270 [.agg cs,.agg ds] N (.tup [.agg r,gi (Ay s d).2]) U/\Hp N U [own A4 r (Ay s d).1]:=by
 have hR0:=hR
 have hD0:=hD
 obtain⟨a,b,c,v,rfl,qa,qb,qc,qv⟩:=hR
 obtain⟨w0,w1,w2,w3,w4,w5,rfl,p0,p1,p2,p3,p4,p5⟩:=hD
 have hl':=hl
 unfold Ad at hl'
 obtain⟨m0,m1,m2,m3,m4,m5,_⟩:=Fs hm
 have key:∃ q U,Ret Tryz.prog 270 [.agg [a,b,c,v],.agg [w0,w1,w2,w3,w4,w5]] N q U/\∃ r,q= .tup [.agg r,gi (Ay s d).2]/\Hp N U [own A4 r (Ay s d).1]:=by
  refine Bg Aez (Z0z rfl) (Hx.refl N) ?_
  simp +contextual (disch:=omega) only[go_sem,A5d]
  intro n2 f2 U2 H2 n3 f3 U3 H3 n4 f4 U4 H4
  obtain⟨es,U5,R5,K5⟩:=Kf U4 _ s (A4.pre hR0 H4.sub) (by omega)
  have gl:es.length=4:=A4.len (K5.rd 0 rfl)
  have sf:=A5 (cs:=z4') gl rfl
  have sg:=A6 gl
  refine by_c H4 R5 K5 fun H5=> ?_
  simp +contextual (disch:=omega) only[go_sem,sf,gl,sg]
  intro n6 f6 U6 _ U7 H7
  refine by_b H7 (Mw _ _ s (A4.pre hR0 H7.sub) (by omega)) (fun hok=> ?_) (fun hok=> ?_)
  rotate_left
  ·have hd:Ay s d=(s,3):=by simp[Ay,hok]
   simp +contextual (disch:=omega) only[go_sem,sf,gl,sg]
   intro U8 H8
   exact⟨_,rfl,es,by rw[hd],by rw[hd];exact H8.sel [1] (by decide)⟩
  simp(disch:=omega) only[go_sem]
  refine by_b H7 (Vt _ _ d (Aw.pre hD0 H7.sub) (by omega)) (fun hdk=> ?_) (fun hdk=> ?_)
  rotate_left
  ·have hd:Ay s d=(s,3):=by simp[Ay,hok,hdk]
   simp +contextual (disch:=omega) only[go_sem,sf,gl,sg]
   intro U8 H8
   exact⟨_,rfl,es,by rw[hd],by rw[hd];exact H8.sel [1] (by decide)⟩
  simp(disch:=omega) only[go_sem]
  refine by_b H7 (Hh _ w1 a _ _ (p1.pre H7.sub) (qa.pre H7.sub) (by omega) (by omega)) (fun k1=> ?_) (fun k1=> ?_)
  ·have hd:Ay s d=(s,1):=by simp[Ay,hok,hdk,k1]
   simp +contextual (disch:=omega) only[go_sem,sf,gl,sg]
   intro U8 H8
   exact⟨_,rfl,es,by rw[hd],by rw[hd];exact H8.sel [1] (by decide)⟩
  simp(disch:=omega) only[go_sem]
  refine by_b H7 (Hh _ w0 a _ _ (p0.pre H7.sub) (qa.pre H7.sub) (by omega) (by omega)) (fun k2=> ?_) (fun k2=> ?_)
  rotate_left
  ·have hd:Ay s d=(s,2):=by simp[Ay,hok,hdk,k1,k2]
   simp +contextual (disch:=omega) only[go_sem,sf,gl,sg]
   intro U8 H8
   exact⟨_,rfl,es,by rw[hd],by rw[hd];exact H8.sel [1] (by decide)⟩
  obtain⟨o1,o2,t1,t2,t3,c1,c2,l5,l6,l7⟩:=A5e hok hdk
  simp(disch:=omega) only[go_sem]
  obtain⟨kv,U9,R9,K9⟩:=V8 U7 a w1 _ _ (qa.pre H7.sub) (p1.pre H7.sub) (by omega) (by omega)
  refine by_c H7 R9 K9 fun H9=> ?_
  have ck:=(H9.hp.sl 0 rfl).cell
  simp +contextual (disch:=omega) only[go_sem,ck]
  intro n7 f7 U10 _ U11 H11
  obtain⟨tv,U12,R12,K12⟩:=T2 U11 b w2 s.tallies d.tallies (qb.pre H11.sub) (p2.pre H11.sub) 335 [(n3,0),(n2,0)] (Fb s d) (fun U' t hp ht=>A25 U' n3 n2 _ _ d s (Xv hp (H11.hp.pt 5 rfl)) (Xv hp (H11.hp.pt 6 rfl)) (Aw.pre hD0 (H11.sub.trans hp)) (A4.pre hR0 (H11.sub.trans hp)) o2 o1 t.rep (t3 t ht)) (by omega) (by omega) (Zh t1 t2)
  refine by_c H11 R12 K12 fun H12=> ?_
  have ct:=(H12.hp.sl 0 rfl).cell
  simp(disch:=omega) only[go_sem,ck,ct,qc.len]
  intro U13 H13
  have H14:=H13.nil Ap.kd
  refine Ax s.lives.length 56 1 (fun i env h=>∃ w,env 2= .ptr n2 0/\env 3= .ptr n3 0/\env 4= .ptr n4 0/\env 6= .ptr n6 0/\env 7= .ptr n7 0/\env 54=c/\env 55=gi s.lives.length/\h=[.th (ow Ap.kd w ((s.lives.take i).filter (Mh d))),.box 1 n7 [kv,tv,w,.nilS],.th (ow Ah.kd tv (Ft (Fb s d) s.tallies d.tallies)),.th (ow pI.kd kv (kMax s.know d.know)),.box 1 n6 es,.th (own A4 es s),.box 1 n4 z4',.box 1 n3 [w0,w1,w2,w3,w4,w5],.box 1 n2 [a,b,c,v]]) (fun env h=>∃ w,env 2= .ptr n2 0/\env 3= .ptr n3 0/\env 4= .ptr n4 0/\env 6= .ptr n6 0/\env 7= .ptr n7 0/\h=[.th (ow Ap.kd w (s.lives.filter (Mh d))),.box 1 n7 [kv,tv,w,.nilS],.th (ow Ah.kd tv (Ft (Fb s d) s.tallies d.tallies)),.th (ow pI.kd kv (kMax s.know d.know)),.box 1 n6 es,.th (own A4 es s),.box 1 n4 z4',.box 1 n3 [w0,w1,w2,w3,w4,w5],.box 1 n2 [a,b,c,v]]) (fun env h=>False) _ (H14.re [0,2,1,3,4,5,6,7,8] (by decide)) (rfl) ⟨.nilS,rfl,rfl,rfl,rfl,rfl,rfl,rfl,rfl⟩ ?_ ?_ ?_ (fun _ _ _ _ h=>h.elim)
  ·clear H2 H3 H4 H5 H7 H9 H11 H12 H13 H14
   rintro J Yq Wq hJ hY hW i env h U hi ei k0 H ⟨w,e2,e3,e4,e6,e7,e54,e55,rfl⟩
   have L1:=Aa qc hi
   have cw:=(H.hp.sl 0 rfl).cell
   simp +contextual (disch:=omega) only[go_sem,k0,e2,e3,e4,e6,e7,e54,e55,ei,A0,L1]
   intro n9 f9 U1 _ U2 H2
   have kE:Mh d s.lives[i]=(!(As d.know s.lives[i].dot&&(!As d.base s.lives[i].dot&& !decide (s.lives[i]∈d.lives)))&& !decide (s.lives[i].dot∈d.dead)):=rfl
   refine Ajg H2 57 10 (.bool (As d.know s.lives[i].dot&&(!As d.base s.lives[i].dot&& !decide (s.lives[i]∈d.lives)))) (fun Yq hY=> ?_) ?_
   ·refine by_b H2 (Ch _ w1 _ _ (p1.pre H2.sub) (by omega)) (fun k1=> ?_) (fun k1=> ?_)
    rotate_left
    ·simp only[go_sem]
     exact hY _ (by repeat(first|exact fun _ _=>by with_reducible rfl|refine kp (by decide) ?_)) (by simp only[go_sem,k1])
    simp(disch:=omega) only[go_sem,e3]
    refine by_b H2 (Ch _ w0 _ _ (p0.pre H2.sub) (by omega)) (fun k2=> ?_) (fun k2=> ?_)
    ·simp only[go_sem]
     exact hY _ (by repeat(first|exact fun _ _=>by with_reducible rfl|refine kp (by decide) ?_)) (by simp only[go_sem,k1,k2])
    simp(disch:=omega) only[go_sem,e3]
    refine by_r H2 (Ma _ w3 _ (p3.pre H2.sub) s.lives[i] (by omega)) ?_
    simp only[go_sem]
    exact hY _ (by repeat(first|exact fun _ _=>by with_reducible rfl|refine kp (by decide) ?_)) (by simp only[go_sem,k1,k2])
   intro env' ke e10
   have kk:∀ r,r<57/\r≠9/\r≠10->env' r=env r:=fun r h=>(ke r (by omega)).trans (by revert r h;repeat(first|exact fun _ _=>by with_reducible rfl|refine kp (by decide) ?_))
   have k9:env' 9= .ptr n9 0:=by simp(disch:=omega) only[go_sem,ke]
   have keep:Mh d s.lives[i]=false->∀ env'':Env,(∀ r,r<57/\r≠9/\r≠10/\r≠56->env'' r=env' r)->J (i+1) env'' U2:=fun hk env'' k2=>hJ _ _ _ _ (H2.re [1,2,3,4,5,6,7,8,9] (by decide)) ⟨w,by simp(disch:=omega) only[go_sem,k2,kk,e2],by simp(disch:=omega) only[go_sem,k2,kk,e3],by simp(disch:=omega) only[go_sem,k2,kk,e4],by simp(disch:=omega) only[go_sem,k2,kk,e6],by simp(disch:=omega) only[go_sem,k2,kk,e7],by simp(disch:=omega) only[go_sem,k2,kk,e54],by simp(disch:=omega) only[go_sem,k2,kk,e55],by rw[Pr hi hk];rfl⟩
   cases hg:(As d.know s.lives[i].dot&&(!As d.base s.lives[i].dot&& !decide (s.lives[i]∈d.lives))) with
   |true=>
    rw[hg] at e10 kE
    simp(disch:=omega) only[go_sem,e10,kk,ei]
    exact keep kE _ (by repeat(first|exact fun _ _=>by with_reducible rfl|refine kp (by decide) ?_))
   |false=>
    rw[hg] at e10 kE
    simp(disch:=omega) only[go_sem,e10,kk,k9,e3,ei]
    refine by_b H2 (O5 _ w4 _ (p4.pre H2.sub) s.lives[i].dot (by omega)) (fun k4=> ?_) (fun k4=> ?_)
    ·rw[k4] at kE
     simp(disch:=omega) only[go_sem,kk,ei]
     exact keep kE _ (by repeat(first|exact fun _ _=>by with_reducible rfl|refine kp (by decide) ?_))
    ·rw[k4] at kE
     simp(disch:=omega) only[go_sem,kk,k9,e7,ei]
     intro nl fl U3 H3
     refine E8 (p:=Ap) H3 2 rfl s.lives[i] Be (by decide) (by have:=Rm (p:=Mh d) (l:=s.lives) (i:=i) (n:=1073741824) (by omega);omega) fun w' U4 H4=> ?_
     have cw':=(H4.hp.sl 2 rfl).cell
     simp(disch:=omega) only[go_sem,kk,e7,ei,cw']
     intro U5 H5
     refine hJ _ _ _ _ (H5.re [2,3,4,5,6,7,8,9,10] (by decide)) ⟨w',by simp(disch:=omega) only[go_sem,kk,e2],by simp(disch:=omega) only[go_sem,kk,e3],by simp(disch:=omega) only[go_sem,kk,e4],by simp(disch:=omega) only[go_sem,kk,e6],by simp(disch:=omega) only[go_sem,kk,e7],by simp(disch:=omega) only[go_sem,kk,e54],by simp(disch:=omega) only[go_sem,kk,e55],by rw[Oy hi kE];rfl⟩
  ·clear H2 H3 H4 H5 H7 H9 H11 H12 H13 H14
   rintro Yq hY env h U ei k0 H ⟨w,e2,e3,e4,e6,e7,e54,e55,rfl⟩
   simp only[go_sem,k0,e55,ei]
   exact hY _ _ _ H ⟨w,e2,e3,e4,e6,e7,by rw[Zab]⟩
  clear H2 H3 H4 H5 H7 H9 H11 H12 H13 H14
  rintro env h U H ⟨w,e2,e3,e4,e6,e7,rfl⟩
  simp(disch:=omega) only[go_sem,e3,p3.len]
  refine Ax d.lives.length 100 3 (fun i env h=>∃ w,env 2= .ptr n2 0/\env 3= .ptr n3 0/\env 4= .ptr n4 0/\env 6= .ptr n6 0/\env 7= .ptr n7 0/\env 98=w3/\env 99=gi d.lives.length/\h=[.th (ow Ap.kd w (s.lives.filter (Mh d)++(d.lives.take i).filter (newD s))),.box 1 n7 [kv,tv,w,.nilS],.th (ow Ah.kd tv (Ft (Fb s d) s.tallies d.tallies)),.th (ow pI.kd kv (kMax s.know d.know)),.box 1 n6 es,.th (own A4 es s),.box 1 n4 z4',.box 1 n3 [w0,w1,w2,w3,w4,w5],.box 1 n2 [a,b,c,v]]) (fun env h=>∃ w,env 2= .ptr n2 0/\env 3= .ptr n3 0/\env 4= .ptr n4 0/\env 6= .ptr n6 0/\env 7= .ptr n7 0/\h=[.th (ow Ap.kd w (s.lives.filter (Mh d)++d.lives.filter (newD s))),.box 1 n7 [kv,tv,w,.nilS],.th (ow Ah.kd tv (Ft (Fb s d) s.tallies d.tallies)),.th (ow pI.kd kv (kMax s.know d.know)),.box 1 n6 es,.th (own A4 es s),.box 1 n4 z4',.box 1 n3 [w0,w1,w2,w3,w4,w5],.box 1 n2 [a,b,c,v]]) (fun env h=>False) _ H (rfl) ⟨w,e2,e3,e4,e6,e7,rfl,rfl,by simp⟩ ?_ ?_ ?_ (fun _ _ _ _ h=>h.elim)
  ·clear H e2 e3 e4 e6 e7
   rintro J Yq Wq hJ hY hW i env h U hi ei k0 H ⟨w,e2,e3,e4,e6,e7,e98,e99,rfl⟩
   have L1:=Aa p3 hi
   have cw:=(H.hp.sl 0 rfl).cell
   simp +contextual (disch:=omega) only[go_sem,k0,e2,e3,e4,e6,e7,e98,e99,ei,A0,L1]
   intro n9 f9 U1 _ U2 H2
   refine by_b H2 (Ch _ a _ _ (qa.pre H2.sub) (by omega)) (fun k1=> ?_) (fun k1=> ?_)
   ·simp(disch:=omega) only[go_sem,ei]
    exact hJ _ _ _ _ (H2.re [1,2,3,4,5,6,7,8,9] (by decide)) ⟨w,e2,e3,e4,e6,e7,e98,e99,by rw[Pr hi (by simp[newD,k1])];rfl⟩
   ·simp(disch:=omega) only[go_sem,e7,ei]
    intro nl fl U3 H3
    refine E8 (p:=Ap) H3 2 rfl d.lives[i] Be (by decide) (by have:=A93 (p:=Mh d) (q:=newD s) (a:=s.lives) (b:=d.lives) (i:=i) (n:=1073741824) (by omega) (by omega);omega) fun w' U4 H4=> ?_
    have cw':=(H4.hp.sl 2 rfl).cell
    simp(disch:=omega) only[go_sem,e7,ei,cw']
    intro U5 H5
    refine hJ _ _ _ _ (H5.re [2,3,4,5,6,7,8,9,10] (by decide)) ⟨w',e2,e3,e4,e6,e7,e98,e99,by rw[Oy hi (by simp[newD,k1]),<-Zan];rfl⟩
  ·clear H e2 e3 e4 e6 e7
   rintro Yq hY env h U ei k0 H ⟨w,e2,e3,e4,e6,e7,e98,e99,rfl⟩
   simp only[go_sem,k0,e99,ei]
   exact hY _ _ _ H ⟨w,e2,e3,e4,e6,e7,by rw[Zab]⟩
  clear H e2 e3 e4 e6 e7
  rintro env h U H ⟨w,e2,e3,e4,e6,e7,rfl⟩
  have hll:=A93 (p:=Mh d) (q:=newD s) (a:=s.lives) (b:=d.lives) (i:=d.lives.length) (n:=1073741824) (by omega) (by omega)
  rw[Zab] at hll
  have ck:=(H.hp.sl 3 rfl).cell
  have ct:=(H.hp.sl 2 rfl).cell
  have cw:=(H.hp.sl 0 rfl).cell
  simp(disch:=omega) only[go_sem,e7]
  obtain⟨U1,R1,H1⟩:=A52 H.hp 0 rfl (by omega) (Anq (Al4 (p:=Mh d) l5 l6 l7))
  refine Asl 0 R1 H1 fun H1=> ?_
  simp(disch:=omega) only[go_sem,e2,e3,e7]
  obtain⟨cv,U2,R2,K2⟩:=Zk U1 v w5 s.cells d.cells (qv.pre H1.sub) (p5.pre H1.sub) (by omega) (by omega) c1 (Mc c2)
  refine by_c H1 R2 K2 fun H2=> ?_
  have cc:=(H2.hp.sl 0 rfl).cell
  simp(disch:=omega) only[go_sem,e2,e3,e4,e6,e7,cc]
  intro U3 H3
  have hst:A4.R U3 (R0 s d) [kv,tv,w,cv]:=⟨_,_,_,_,rfl,H3.hp.sl 4 rfl,H3.hp.sl 3 rfl,H3.hp.sl 1 rfl,H3.hp.sl 0 rfl⟩
  have hms:=Ans s d
  refine by_b H3 (Vk _ _ _ hst) (fun k3=> ?_) (fun k3=> ?_)
  ·have hd:Ay s d=(s,4):=by simp[Ay,hok,hdk,k1,k2,k3]
   simp +contextual (disch:=omega) only[go_sem,e4,e6,sf,gl,sg]
   intro U8 H8
   exact⟨_,rfl,es,by rw[hd],by rw[hd];exact H8.sel [6] (by decide)⟩
  simp(disch:=omega) only[go_sem,e7]
  refine by_b H3 (Mw _ _ _ hst (by omega)) (fun k4=> ?_) (fun k4=> ?_)
  rotate_left
  ·have hd:Ay s d=(s,3):=by simp[Ay,hok,hdk,k1,k2,k3,k4]
   simp +contextual (disch:=omega) only[go_sem,e4,e6,sf,gl,sg]
   intro U8 H8
   exact⟨_,rfl,es,by rw[hd],by rw[hd];exact H8.sel [6] (by decide)⟩
  have hd:Ay s d=(R0 s d,0):=by simp[Ay,hok,hdk,k1,k2,k3,k4]
  simp +contextual (disch:=omega) only[go_sem,e4,e7]
  intro U8 H8
  exact⟨_,rfl,[kv,tv,w,cv],by rw[hd],by rw[hd];exact Hp.ownState (H8.sel [4,3,1,0] (by decide))⟩
 obtain⟨q,U,R,r,rfl,h⟩:=key
 exact⟨r,U,R,h⟩
def A1c:Fn1:=⟨54,[.t 4],(rg [o 4 (.mov (.k .nilS))] (rg [o 9 (.lit 8 0 [] []),oM 10 0,o 11 (.app 8 72 [s0,z0,z0,z0,z0,z0,z0,(.bool false)] (.t 9) (.t 10)),oM 5 11] (.seq (rg [oV 6 (ki 0)] (oH 0 (.seq (rg [oM 12 6,oM 13 1,oN 14 13,oB 15 .lss 12 14] (oJ 15 0)) (.seq (.blk 1 (rg [o 7 (.mov (ki (-1)))] (.seq (rg [oV 8 (ki 0)] (oH 2 (.seq (rg [oM 18 8,oM 19 5,oN 20 19,oB 21 .lss 18 20] (oJ 21 2)) (.seq (.blk 3 (dw [oM 24 5,oM 25 8,oI 26 8 24 25,oF 27 1 26,oW 28 2 27,oM 29 1,oM 30 6,oI 31 8 29 30,oF 32 1 31,oW 33 2 32] [o 34 (.eqs false [.i .i64,.i .i64] (.t 28) (.t 33))] (oG 34 (.reg [oM 35 8,oM 7 35])))) (.reg [oM 22 8,oZ 23 22 1,oM 8 23]))))) (rg [oM 36 7,oE 37 .lss 36 0] (cn 37 (.reg [oM 38 5,oM 39 1,oM 40 6,oI 41 8 39 40,oW 42 8 41,oD 43 322 38 42,oM 5 43]) (rg [oM 44 1,oM 45 6,oI 46 8 44 45,oF 47 7 46,oL 48 47] (oG 48 (.reg [oM 49 5,oM 50 7,oI 51 8 49 50,oF 52 7 51,on (.st 1 (.t 52) kt)])))))))) (.reg [oM 16 6,oZ 17 16 1,oM 6 17]))))) (rg [oM 53 5,oM 4 53] .ret))))⟩
theorem Aba:A8 Tryz.prog 339=some A1c:=by kernel_rfl
theorem A5f (l:List Cell) (x:Cell) (d:Dot):Cx (l++[x]) d=(Cx l d).or (if x.dot=d then some l.length else none):=by
 unfold Cx
 rw[List.findIdx?_append]
 congr 1
 by_cases h:x.dot=d<;>simp[h,List.findIdx?_cons]
theorem Al5 {l:List Cell} (hn:(l.map (·.dot)).Nodup) {k:Nat} (hk:k<l.length) {d:Dot} (h:l[k].dot=d):Bm (l.take (k+1)) d=k:=by
 have hno:d∉(l.take k).map (·.dot):=fun hm=>by
  obtain⟨c,hc,e⟩:=Zaf.1 hm
  obtain⟨j,hj,rfl⟩:=Zai hc
  have hj1:j<k/\j<l.length:=by rw[Zaz] at hj;omega
  rw[Zbi] at e
  have:=Apn hn hj1.2 hk (by rw[e,h])
  omega
 unfold Bm
 rw[Ak hk,A5f,Aet hno,if_pos h]
 simp;omega
theorem Ai4 {l:List Cell} {k:Nat} (hk:k<l.length) {d:Dot} (h:l[k].dot≠d):Bm (l.take (k+1)) d=Bm (l.take k) d:=by
 unfold Bm
 rw[Ak hk,A5f,if_neg h]
 simp
theorem Ru (N:St) (va vb:GV) (a b:List Cell) (ha:RS Ai.kd N va a) (hb:RS Ai.kd N vb b) (hla:a.length<=1073741824) (hlb:b.length<=1073741824) (hpa:a.Pairwise fun a b=>Az a.dot b.dot=true) (hnb:(b.map (·.dot)).Nodup):∃ r U,Ret Tryz.prog 339 [va,vb] N r U/\Hp N U [ow Ai.kd r (Bz a b)]:=by
 have hna:=Mc hpa
 refine Bg Aba (Z0z rfl) (Hx.refl N) ?_
 simp only[go_sem,A1c]
 intro n fn U H
 refine Qy (p:=Ai) H (ha.pre H.sub) (by decide) (by omega) fun w U1 H1=> ?_
 simp only[go_sem]
 refine Ax b.length 6 0 (fun i env h=>∃ w,env 1=vb/\env 5=w/\h=[.th (ow Ai.kd w (Bz a (b.take i)))]) (fun env h=>∃ w,env 5=w/\h=[.th (ow Ai.kd w (Bz a b))]) (fun env h=>False) _ H1 (rfl) ⟨w,rfl,rfl,by rw[<- A51 hpa hnb 0 (by omega)];rfl⟩ ?_ ?_ ?_ (fun _ _ _ _ h=>h.elim)
 ·clear H H1
  rintro J Yq Wq hJ hY hW i env h U hi ei c0 H ⟨w,e1,e5,rfl⟩
  have hst:Ab1 (Bz a (b.take i)) b[i]=Bz a (b.take (i+1)):=by
   rw[Ak hi]
   refine A92 hna ?_
   rw[<- Ak hi]
   exact((Zay _ b).map (·.dot)).nodup hnb
  have hjn:((Bz a (b.take i)).map (·.dot)).Nodup:=((Bb Dk (Ff a (b.take i))).map _).nodup_iff.2 (O7 hna (((Zay i b).map (·.dot)).nodup hnb))
  have hml:=(Vy a (b.take i)).1
  have hbl:(b.take i).length<=b.length:=by rw[Zaz];omega
  generalize Bz a (b.take i)=O at*
  have B1:=Ab hb hi
  simp only[go_sem,c0,e1,e5,ei,hb.len]
  refine Ax O.length 8 2 (fun k env h=>env 1=vb/\env 5=w/\env 6=gi i/\env 7=gi (Bm (O.take k) b[i].dot)/\h=[.th (ow Ai.kd w O)]) (fun env h=>env 1=vb/\env 5=w/\env 6=gi i/\env 7=gi (Bm O b[i].dot)/\h=[.th (ow Ai.kd w O)]) (fun env h=>False) _ H (rfl) ⟨e1,e5,ei,by simp only[go_sem];rfl,rfl⟩ ?_ ?_ ?_ (fun _ _ _ _ h=>h.elim)
  ·clear H e1 e5 ei
   rintro J2 Yq2 Wq2 hJ2 hY2 hW2 k env h U hk ek c1 H ⟨e1,e5,e6,e7,rfl⟩
   have O1:=Aat H 0 rfl hk
   have ol:=(H.hp.sl 0 rfl).len
   by_cases hx:O[k].dot=b[i].dot
   ·have bx:decide (O[k].dot=b[i].dot)=true:=decide_eq_true hx
    simp(disch:=omega) only[go_sem,c1,e1,e5,e6,e7,ek,A0,B1,O1,ol,bx]
    exact hJ2 _ _ _ _ H ⟨e1,e5,e6,by simp only[go_sem,Al5 hjn hk hx],rfl⟩
   ·have bx:decide (O[k].dot=b[i].dot)=false:=decide_eq_false hx
    simp(disch:=omega) only[go_sem,c1,e1,e5,e6,e7,ek,A0,B1,O1,ol,bx]
    exact hJ2 _ _ _ _ H ⟨e1,e5,e6,by simp only[go_sem,Ai4 hk hx,e7],rfl⟩
  ·clear H e1 e5 ei
   rintro Yq2 hY2 env h U ek c1 H ⟨e1,e5,e6,e7,rfl⟩
   have ol:=(H.hp.sl 0 rfl).len
   simp only[go_sem,c1,e5,ek,ol]
   exact hY2 _ _ _ H ⟨e1,e5,e6,by rw[Zab] at e7;simp only[go_sem,e7],rfl⟩
  clear H e1 e5 ei
  rintro env h U H ⟨e1,e5,e6,e7,rfl⟩
  cases hx:Cx O b[i].dot with
  |none=>
   have hno:Bm O b[i].dot= -1:=by simp[Bm,hx]
   have cm:decide ((-1:Int)<0)=true:=rfl
   rw[hno] at e7
   simp only[go_sem,e7,cm,e1,e5,e6,A0,B1]
   obtain⟨w',U2,R2,K2⟩:=Vn U w O (H.hp.sl 0 rfl) b[i] (by omega)
   refine by_c H R2 K2 fun H2=> ?_
   simp(disch:=omega) only[go_sem,e6]
   refine hJ _ _ _ _ (H2.re [0] (by decide)) ⟨w',e1,rfl,?_⟩
   rw[<- hst]
   simp only[Ab1,hx];rfl
  |some k=>
   obtain⟨hk,hd⟩:=Bs hx
   have hno:Bm O b[i].dot=k:=by simp[Bm,hx]
   have cm:decide ((k:Int)<0)=false:=by simp
   rw[hno] at e7
   have O1:=Aat H 0 rfl hk
   cases hg:b[i].gone with
   |false=>
    simp(disch:=omega) only[go_sem,e7,cm,e1,e5,e6,A0,B1,hg]
    refine hJ _ _ _ _ H ⟨w,e1,e5,?_⟩
    rw[<- hst]
    simp only[Ab1,hx,hg,Za1,if_false]
   |true=>
    simp only[go_sem,e7,cm,e1,e5,e6,A0,B1,hg,O1]
    refine Ajh (p:=Ai) H 0 rfl hk {O[k] with gone:=true} rfl (by decide) (by decide) rfl fun U3 H3=> ?_
    simp(disch:=omega) only[go_sem,e6]
    refine hJ _ _ _ _ H3 ⟨w,e1,e5,?_⟩
    rw[<- hst]
    simp only[Ab1,hx,hg,if_true]
    rw[Js _ hk];rfl
 ·clear H H1
  rintro Yq hY env h U ei c0 H ⟨w,e1,e5,rfl⟩
  simp only[go_sem,c0,e1,ei,hb.len]
  exact hY _ _ _ H ⟨w,e5,by rw[Zab]⟩
 ·clear H H1
  rintro env h U H ⟨w,e5,rfl⟩
  simp only[go_sem,e5]
  exact fun _=>⟨_,rfl,H.hp⟩
def A5g:Fn1:=⟨164,[.c 4 true 4],(rg [oX 2 0,oX 3 1,o 4 (.new [.nilS,.nilS,.nilS,.nilS])] (dw [oF 14 0 2,oL 15 14,oF 16 1 3,oL 17 16,oD 18 181 15 17,oF 19 3 2,oL 20 19,oF 21 5 3,oL 22 21,oD 23 339 20 22,o 24 (.build [.nilS,.nilS,.nilS,.nilS] [(0,1,(.t 18)),(3,1,(.t 23))]),o 5 (.new [.nilS,.nilS,.nilS,.nilS])] [oS 4 5 24] (.seq (rg [oV 6 (ki 0)] (oH 0 (.seq (rg [oM 25 6,oF 26 1 2,oL 27 26,oN 28 27,oB 29 .lss 25 28] (oJ 29 0)) (.seq (.blk 1 (rg [oF 32 1 2,oL 33 32,oM 34 6,oI 35 3 33 34,oW 36 3 35,o 7 (.new [s0,z0,z0]),oS 3 7 36] (dw [oF 37 1 3,oL 38 37,oF 39 1 7,oL 40 39,oI 41 1 38 40,oL 42 41,oF 43 0 2,oL 44 43,oF 45 1 7,oL 46 45,oI 47 1 44 46,oL 48 47] [oB 49 .leq 42 48] (oG 49 (.reg [oF 50 0 7,oL 51 50,oF 52 1 7,oL 53 52,oF 54 2 7,oL 55 54,o 56 (.call 319 (oT [5,51,53,55]))]))))) (.reg [oM 30 6,oZ 31 30 1,oM 6 31]))))) (.seq (rg [oV 8 (ki 0)] (oH 2 (.seq (rg [oM 57 8,oF 58 2 3,oL 59 58,oN 60 59,oB 61 .lss 57 60] (oJ 61 2)) (.seq (.blk 3 (rg [oF 64 2 3,oL 65 64,oM 66 8,oI 67 3 65 66,oW 68 3 67,o 9 (.new [s0,z0,z0]),oS 3 9 68] (dw [oF 69 1 3,oL 70 69,oF 71 1 9,oL 72 71,oI 73 1 70 72,oL 74 73,oF 75 0 2,oL 76 75,oF 77 1 9,oL 78 77,oI 79 1 76 78,oL 80 79] [oB 81 .gtr 74 80] (oG 81 (.reg [oF 82 0 9,oL 83 82,oF 84 1 9,oL 85 84,oF 86 2 9,oL 87 86,o 88 (.call 319 (oT [5,83,85,87]))]))))) (.reg [oM 62 8,oZ 63 62 1,oM 8 63]))))) (.seq (rg [oV 10 (ki 0)] (oH 4 (.seq (rg [oM 89 10,oF 90 2 2,oL 91 90,oN 92 91,oB 93 .lss 89 92] (oJ 93 4)) (.seq (.blk 5 (rg [oF 96 2 2,oL 97 96,oM 98 10,oI 99 6 97 98,oW 100 6 99,o 11 (.new [(.bool false),s0,s0,z0,z0,z0]),oS 6 11 100] (rg [oF 101 1 3,oL 102 101,oF 103 4 11,oW 104 2 103,oD 105 45 102 104,oM 106 105,jF 107 106 0 3,jL 108 106 107,jF 109 106 4 11,jW 110 106 2 109,jD 111 106 45 108 110,jU 112 106 111,oQ 113 106 112,oM 114 113,jF 115 114 3 3,jL 116 114 115,jW 117 114 6 11,jD 118 114 234 116 117,jU 119 114 118,oQ 120 114 119,oM 12 120] (rg [oM 121 12,oU 122 121,oM 123 122,jF 124 123 4 3,jL 125 123 124,jF 126 123 4 11,jW 127 123 2 126,jD 128 123 340 125 127,jU 129 123 128,oQ 130 123 129] (oG 130 (.reg [oF 131 2 5,oL 132 131,oW 133 6 11,o 134 (.lit 6 1 [(.bool false),s0,s0,z0,z0,z0] [(0,6,(.t 133))]),o 135 (.app 6 64 [(.bool false),s0,s0,z0,z0,z0] (.t 132) (.t 134)),oF 136 2 5,oS 1 136 135])))))) (.reg [oM 94 10,oZ 95 94 1,oM 10 95]))))) (.seq (rg [oV 13 (ki 0)] (oH 6 (.seq (rg [oM 137 13,oF 138 3 3,oL 139 138,oN 140 139,oB 141 .lss 137 140] (oJ 141 6)) (.seq (.blk 7 (dw [oF 144 0 2,oL 145 144,oF 146 3 3,oL 147 146,oM 148 13,oI 149 6 147 148,oF 150 4 149,oW 151 2 150] [oD 152 45 145 151,oU 153 152] (oG 153 (.drw [oF 154 2 5,oL 155 154,oF 156 3 3,oL 157 156,oM 158 13,oI 159 6 157 158,oW 160 6 159] [oD 161 320 155 160,oF 162 2 5,oS 1 162 161])))) (.reg [oM 142 13,oZ 143 142 1,oM 13 143]))))) (rg [oW 163 4 5,oS 4 4 163] .ret)))))))⟩
theorem Af2:A8 Tryz.prog 271=some A5g:=by kernel_rfl
theorem Vz {L M:List Tally} {t:Tally} (hn:(M.map tkey).Nodup) (hs:(L++[t]).Sublist M):Eb (Ar Af L) t.obj t.rep t.sum=Ar Af (L++[t]):=by
 have h1:((L++[t]).map tkey).Nodup:=(hs.map tkey).nodup hn
 rw[K8]
 refine Apo (acc:=Ar Af L) fun hm=> ?_
 have hm:=((Bb Af L).map tkey).mem_iff.1 hm
 rw[Zao,Zau] at h1
 exact h1.2.2 _ hm (tkey t) (by simp) rfl
theorem Abb {Y:Type} (p:Y->Bool) (l:List Y) (i:Nat):((l.take i).filter p).Sublist (l.filter p):=(Zay i l).filter p
theorem Abc {l:List Tally} (h:Fc l=true) {t:Tally} (ht:t∈l): -1000000<=t.sum/\t.sum<=1000000:=by
 simp only[Fc,Zaa,Bp,talP] at h
 obtain⟨i,hi,rfl⟩:=Zai ht
 have:=(h.1 i hi).1
 rw[Br hi] at this
 simp only[tal1,Zaa] at this
 have:=Di.1 this.2.2
 omega
theorem Al6 {s:State} {d:Delta} (hs:B6 s=true) (hd:Bt d=true):∀ t,t∈s.tallies∨t∈d.tallies-> -1000000<=t.sum/\t.sum<=1000000:=by
 simp only[B6,Zaa] at hs
 simp only[Bt,Zaa] at hd
 exact fun t ht=>ht.elim (Abc hs.2.1) (Abc hd.2.1)
theorem A2p (p q:Tally->Bool) (a b:List Tally) (i j:Nat):(Ar Af ((a.take i).filter p++(b.take j).filter q)).length<=a.length+b.length/\sumL Bl (Ar Af ((a.take i).filter p++(b.take j).filter q))<=sumL Bl a+sumL Bl b:=by
 rw[Cm,M9 Bl (Bb _ _),Zar,Kh]
 have h1:=Zak p (a.take i)
 have h2:=Zak q (b.take j)
 have h3:=Gn Bl p (a.take i)
 have h4:=Gn Bl q (b.take j)
 have h5:=Ks Bl a i
 have h6:=Ks Bl b j
 rw[Zaz] at h1 h2
 omega
theorem Aqx {s:State} {d:Delta} {T:List Tally} (hT:T.length<=s.tallies.length+d.tallies.length/\sumL Bl T<=sumL Bl s.tallies+sumL Bl d.tallies):Ad ⟨kMax s.know d.know,T,[],Bz s.cells d.cells⟩<=Ad s+Au d+3:=by
 have h2:=Vy s.cells d.cells
 have h4:=A2o s.know d.know
 simp only[Ad,Au,Zbq,sumL,List.map_nil,List.sum_nil]
 simp only[sumL] at*
 omega
theorem Py {s:State} {n:Nat} (h:Ad s<=n):s.know.length<=n/\s.tallies.length<=n/\s.lives.length<=n/\s.cells.length<=n:=by
 unfold Ad at h
 omega
theorem Aqy {s:State} {d:Delta} {r:Int}:decide (at0 d.know r<=at0 s.know r)= !Fb s d r:=by
 unfold Fb
 rw[Zbl]
 simp
theorem Abd (N:St) (cs:List GV) (s:State) (hR:A4.R N s cs) (ds:List GV) (d:Delta) (hD:Aw.R N d ds) (hl:Ad s<=1073741824) (hm:Au d<=1073741824) (hok:B6 s=true) (hdk:Bt d=true):∃ r U,Ret Tryz.prog 271 [.agg cs,.agg ds] N (.agg r) U/\Hp N U [own A4 r (R0 s d)]:=by
 have hR0:=hR
 have hD0:=hD
 obtain⟨a,b,c,v,rfl,qa,qb,qc,qv⟩:=hR
 obtain⟨w0,w1,w2,w3,w4,w5,rfl,p0,p1,p2,p3,p4,p5⟩:=hD
 obtain⟨ls0,ls1,ls2,ls3⟩:=Py hl
 obtain⟨m0,m1,m2,m3,m4,m5,_⟩:=Fs hm
 obtain⟨o1,o2,t1,t2,t3,c1,c2,l5,l6,l7⟩:=A5e hok hdk
 have sums:=Al6 hok hdk
 have hmk:=Zh (f:=Fb s d) t1 t2
 have key:∃ q U,Ret Tryz.prog 271 [.agg [a,b,c,v],.agg [w0,w1,w2,w3,w4,w5]] N q U/\∃ r,q= .agg r/\Hp N U [own A4 r (R0 s d)]:=by
  refine Bg Af2 (Z0z rfl) (Hx.refl N) ?_
  simp +contextual (disch:=omega) only[go_sem,A5g]
  intro n2 f2 U2 H2 n3 f3 U3 H3 n4 f4 U4 H4
  obtain⟨kv,U5,R5,K5⟩:=Mt U4 a w1 _ _ (qa.pre H4.sub) (p1.pre H4.sub) (by omega) (by omega)
  refine by_c H4 R5 K5 fun H5=> ?_
  simp(disch:=omega) only[go_sem]
  obtain⟨cv,U6,R6,K6⟩:=Ru U5 v w5 s.cells d.cells (qv.pre H5.sub) (p5.pre H5.sub) (by omega) (by omega) c1 (Mc c2)
  refine by_c H5 R6 K6 fun H6=> ?_
  have ck:=(H6.hp.sl 1 rfl).cell
  have cc:=(H6.hp.sl 0 rfl).cell
  simp only[go_sem,ck,cc]
  intro n5 f5 U7 _ U8 H8
  have H9:=(H8.nil Ap.kd).nil Ah.kd
  refine Ax s.tallies.length 6 0 (fun i env h=>∃ v0 v1 v2 v3,env 2= .ptr n2 0/\env 3= .ptr n3 0/\env 4= .ptr n4 0/\env 5= .ptr n5 0/\h=[.box 1 n5 [v0,v1,v2,v3],.th (ow pI.kd v0 (kMax s.know d.know)),.th (ow Ah.kd v1 (Ar Af ((s.tallies.take i).filter fun t=> !Fb s d t.rep))),.th (ow Ap.kd v2 []),.th (ow Ai.kd v3 (Bz s.cells d.cells)),.box 1 n4 z4',.box 1 n3 [w0,w1,w2,w3,w4,w5],.box 1 n2 [a,b,c,v]]) (fun env h=>∃ v0 v1 v2 v3,env 2= .ptr n2 0/\env 3= .ptr n3 0/\env 4= .ptr n4 0/\env 5= .ptr n5 0/\h=[.box 1 n5 [v0,v1,v2,v3],.th (ow pI.kd v0 (kMax s.know d.know)),.th (ow Ah.kd v1 (Ar Af (s.tallies.filter fun t=> !Fb s d t.rep))),.th (ow Ap.kd v2 []),.th (ow Ai.kd v3 (Bz s.cells d.cells)),.box 1 n4 z4',.box 1 n3 [w0,w1,w2,w3,w4,w5],.box 1 n2 [a,b,c,v]]) (fun env h=>False) _ (H9.re [2,4,0,1,3,5,6,7] (by decide)) (rfl) ⟨kv,.nilS,.nilS,cv,rfl,rfl,rfl,rfl,rfl⟩ ?_ ?_ ?_ (fun _ _ _ _ h=>h.elim)
  ·clear H2 H3 H4 H5 H6 H8 H9
   rintro J Yq Wq hJ hY hW i env h U hi ei k0 H ⟨v0,v1,v2,v3,e2,e3,e4,e5,rfl⟩
   have B1:=Ae qb hi
   have hin:=t3 s.tallies[i] (.inl (Zae hi))
   have A1:=Jd p1 o2 hin.1 hin.2
   have A2:=Jd qa o1 hin.1 hin.2
   simp +contextual (disch:=omega) only[go_sem,k0,e2,e3,e4,e5,ei,A0,B1,qb.len]
   intro n7 f7 U1 _ U2 H2
   cases hf:Fb s d s.tallies[i].rep with
   |true=>
    simp(disch:=omega) only[go_sem,e2,e3,e5,ei,A1,A2,Aqy,hf,Bool.not_true]
    exact hJ _ _ _ _ (H2.re [1,2,3,4,5,6,7,8] (by decide)) ⟨v0,v1,v2,v3,e2,e3,e4,e5,by rw[Pr hi (by rw[hf];rfl)];rfl⟩
   |false=>
    simp(disch:=omega) only[go_sem,e2,e3,e5,ei,A1,A2,Aqy,hf,Bool.not_false]
    have hpm:=A2p (fun t=> !Fb s d t.rep) (fun t=>Fb s d t.rep) s.tallies d.tallies i 0
    rw[Za8,Zap,Zav] at hpm
    have hpm:=Aqx hpm
    obtain⟨U3,R3,v0',v1',v2',v3',H3⟩:=Gg (s:=⟨kMax s.know d.know,(Ar Af ((s.tallies.take i).filter fun t=> !Fb s d t.rep)),[],Bz s.cells d.cells⟩) (rest:=[pt 1 n7 [.str s.tallies[i].obj,gi s.tallies[i].rep,gi s.tallies[i].sum],pt 1 n4 z4',pt 1 n3 [w0,w1,w2,w3,w4,w5],pt 1 n2 [a,b,c,v]]) ⟨v0,v1,v2,v3,H2.sel [2,3,4,5,1,0,6,7,8] (by decide)⟩ s.tallies[i].obj s.tallies[i].rep s.tallies[i].sum (Nat.le_trans hpm (by omega)) (sums _ (.inl (Zae hi))) (fun t ht=>sums t (.inl (Zbd (Zag.1 (Qq.1 ht)).1)))
    have H3':Hx N U3 [.box 1 n5 [v0',v1',v2',v3'],.th (ow pI.kd v0' (kMax s.know d.know)),.th (ow Ah.kd v1' (Eb (Ar Af ((s.tallies.take i).filter fun t=> !Fb s d t.rep)) s.tallies[i].obj s.tallies[i].rep s.tallies[i].sum)),.th (ow Ap.kd v2' []),.th (ow Ai.kd v3' (Bz s.cells d.cells)),.box 1 n4 z4',.box 1 n3 [w0,w1,w2,w3,w4,w5],.box 1 n2 [a,b,c,v]]:=H3.sel [4,0,1,2,3,6,7,8] (by decide)
    refine by_m R3 H3' ?_
    simp(disch:=omega) only[go_sem,ei]
    refine hJ _ _ _ _ H3' ⟨v0',v1',v2',v3',e2,e3,e4,e5,?_⟩
    have hfl:(s.tallies.take (i+1)).filter (fun t=> !Fb s d t.rep)=(s.tallies.take i).filter (fun t=> !Fb s d t.rep)++[s.tallies[i]]:=Oy hi (by rw[hf];rfl)
    rw[hfl,<-Vz hmk (by rw[<- hfl];exact(Abb _ _ _).trans (List.sublist_append_left _ _))]
  ·clear H2 H3 H4 H5 H6 H8 H9
   rintro Yq hY env h U ei k0 H ⟨v0,v1,v2,v3,e2,e3,e4,e5,rfl⟩
   simp(disch:=omega) only[go_sem,k0,e2,ei,qb.len]
   exact hY _ _ _ H ⟨v0,v1,v2,v3,e2,e3,e4,e5,by rw[Zab]⟩
  clear H2 H3 H4 H5 H6 H8 H9
  rintro env h U H ⟨v0,v1,v2,v3,e2,e3,e4,e5,rfl⟩
  simp only[go_sem]
  refine Ax d.tallies.length 8 2 (fun i env h=>∃ v0 v1 v2 v3,env 2= .ptr n2 0/\env 3= .ptr n3 0/\env 4= .ptr n4 0/\env 5= .ptr n5 0/\h=[.box 1 n5 [v0,v1,v2,v3],.th (ow pI.kd v0 (kMax s.know d.know)),.th (ow Ah.kd v1 (Ar Af (s.tallies.filter (fun t=> !Fb s d t.rep)++(d.tallies.take i).filter fun t=>Fb s d t.rep))),.th (ow Ap.kd v2 []),.th (ow Ai.kd v3 (Bz s.cells d.cells)),.box 1 n4 z4',.box 1 n3 [w0,w1,w2,w3,w4,w5],.box 1 n2 [a,b,c,v]]) (fun env h=>∃ v0 v1 v2 v3,env 2= .ptr n2 0/\env 3= .ptr n3 0/\env 4= .ptr n4 0/\env 5= .ptr n5 0/\h=[.box 1 n5 [v0,v1,v2,v3],.th (ow pI.kd v0 (kMax s.know d.know)),.th (ow Ah.kd v1 (Ft (Fb s d) s.tallies d.tallies)),.th (ow Ap.kd v2 []),.th (ow Ai.kd v3 (Bz s.cells d.cells)),.box 1 n4 z4',.box 1 n3 [w0,w1,w2,w3,w4,w5],.box 1 n2 [a,b,c,v]]) (fun env h=>False) _ H (rfl) ⟨v0,v1,v2,v3,e2,e3,e4,e5,by simp⟩ ?_ ?_ ?_ (fun _ _ _ _ h=>h.elim)
  ·clear H e2 e3 e4 e5
   rintro J Yq Wq hJ hY hW i env h U hi ei k0 H ⟨v0,v1,v2,v3,e2,e3,e4,e5,rfl⟩
   have B1:=Ae p2 hi
   have hin:=t3 d.tallies[i] (.inr (Zae hi))
   have A1:=Jd p1 o2 hin.1 hin.2
   have A2:=Jd qa o1 hin.1 hin.2
   have gt:decide (at0 s.know d.tallies[i].rep<at0 d.know d.tallies[i].rep)=Fb s d d.tallies[i].rep:=rfl
   simp +contextual (disch:=omega) only[go_sem,k0,e2,e3,e4,e5,ei,A0,B1,p2.len]
   intro n7 f7 U1 _ U2 H2
   cases hf:Fb s d d.tallies[i].rep with
   |false=>
    simp(disch:=omega) only[go_sem,e2,e3,e5,ei,A1,A2,gt,hf]
    exact hJ _ _ _ _ (H2.re [1,2,3,4,5,6,7,8] (by decide)) ⟨v0,v1,v2,v3,e2,e3,e4,e5,by rw[Pr hi hf];rfl⟩
   |true=>
    simp(disch:=omega) only[go_sem,e2,e3,e5,ei,A1,A2,gt,hf]
    have hpm:=A2p (fun t=> !Fb s d t.rep) (fun t=>Fb s d t.rep) s.tallies d.tallies s.tallies.length i
    rw[Zab] at hpm
    have hpm:=Aqx hpm
    obtain⟨U3,R3,v0',v1',v2',v3',H3⟩:=Gg (s:=⟨kMax s.know d.know,(Ar Af (s.tallies.filter (fun t=> !Fb s d t.rep)++(d.tallies.take i).filter fun t=>Fb s d t.rep)),[],Bz s.cells d.cells⟩) (rest:=[pt 1 n7 [.str d.tallies[i].obj,gi d.tallies[i].rep,gi d.tallies[i].sum],pt 1 n4 z4',pt 1 n3 [w0,w1,w2,w3,w4,w5],pt 1 n2 [a,b,c,v]]) ⟨v0,v1,v2,v3,H2.sel [2,3,4,5,1,0,6,7,8] (by decide)⟩ d.tallies[i].obj d.tallies[i].rep d.tallies[i].sum (Nat.le_trans hpm (by omega)) (sums _ (.inr (Zae hi))) (fun t ht=>(Zbo.1 (Qq.1 ht)).elim (fun h=>sums t (.inl (Zag.1 h).1)) fun h=>sums t (.inr (Zbd (Zag.1 h).1)))
    have H3':Hx N U3 [.box 1 n5 [v0',v1',v2',v3'],.th (ow pI.kd v0' (kMax s.know d.know)),.th (ow Ah.kd v1' (Eb (Ar Af (s.tallies.filter (fun t=> !Fb s d t.rep)++(d.tallies.take i).filter fun t=>Fb s d t.rep)) d.tallies[i].obj d.tallies[i].rep d.tallies[i].sum)),.th (ow Ap.kd v2' []),.th (ow Ai.kd v3' (Bz s.cells d.cells)),.box 1 n4 z4',.box 1 n3 [w0,w1,w2,w3,w4,w5],.box 1 n2 [a,b,c,v]]:=H3.sel [4,0,1,2,3,6,7,8] (by decide)
    refine by_m R3 H3' ?_
    simp(disch:=omega) only[go_sem,ei]
    refine hJ _ _ _ _ H3' ⟨v0',v1',v2',v3',e2,e3,e4,e5,?_⟩
    have hfl:(d.tallies.take (i+1)).filter (fun t=>Fb s d t.rep)=(d.tallies.take i).filter (fun t=>Fb s d t.rep)++[d.tallies[i]]:=Oy hi hf
    rw[hfl,<-Zan,<-Vz hmk (by rw[Zan,<-hfl];exact List.Sublist.append (List.Sublist.refl _) (Abb _ _ _))]
  ·clear H e2 e3 e4 e5
   rintro Yq hY env h U ei k0 H ⟨v0,v1,v2,v3,e2,e3,e4,e5,rfl⟩
   simp(disch:=omega) only[go_sem,k0,e3,ei,p2.len]
   exact hY _ _ _ H ⟨v0,v1,v2,v3,e2,e3,e4,e5,by rw[Zab];rfl⟩
  clear H e2 e3 e4 e5 v0 v1 v2 v3
  rintro env h U H ⟨v0,v1,v2,v3,e2,e3,e4,e5,rfl⟩
  simp only[go_sem]
  refine Ax s.lives.length 10 4 (fun i env h=>∃ v0 v1 v2 v3,env 2= .ptr n2 0/\env 3= .ptr n3 0/\env 4= .ptr n4 0/\env 5= .ptr n5 0/\h=[.box 1 n5 [v0,v1,v2,v3],.th (ow pI.kd v0 (kMax s.know d.know)),.th (ow Ah.kd v1 (Ft (Fb s d) s.tallies d.tallies)),.th (ow Ap.kd v2 ((s.lives.take i).filter (Mh d))),.th (ow Ai.kd v3 (Bz s.cells d.cells)),.box 1 n4 z4',.box 1 n3 [w0,w1,w2,w3,w4,w5],.box 1 n2 [a,b,c,v]]) (fun env h=>∃ v0 v1 v2 v3,env 2= .ptr n2 0/\env 3= .ptr n3 0/\env 4= .ptr n4 0/\env 5= .ptr n5 0/\h=[.box 1 n5 [v0,v1,v2,v3],.th (ow pI.kd v0 (kMax s.know d.know)),.th (ow Ah.kd v1 (Ft (Fb s d) s.tallies d.tallies)),.th (ow Ap.kd v2 (s.lives.filter (Mh d))),.th (ow Ai.kd v3 (Bz s.cells d.cells)),.box 1 n4 z4',.box 1 n3 [w0,w1,w2,w3,w4,w5],.box 1 n2 [a,b,c,v]]) (fun env h=>False) _ H (rfl) ⟨v0,v1,v2,v3,e2,e3,e4,e5,rfl⟩ ?_ ?_ ?_ (fun _ _ _ _ h=>h.elim)
  ·clear H e2 e3 e4 e5
   rintro J Yq Wq hJ hY hW i env h U hi ei k0 H ⟨v0,v1,v2,v3,e2,e3,e4,e5,rfl⟩
   have B1:=Aa qc hi
   have d2:=(H.hp.sl 3 rfl).cell
   simp +contextual (disch:=omega) only[go_sem,k0,e2,e3,e4,e5,ei,A0,B1,qc.len]
   intro n9 f9 U1 _ U2 H2
   have kE:Mh d s.lives[i]=(!(As d.know s.lives[i].dot&&(!As d.base s.lives[i].dot&& !decide (s.lives[i]∈d.lives)))&& !decide (s.lives[i].dot∈d.dead)):=rfl
   refine Ajg H2 94 12 (.bool (As d.know s.lives[i].dot&&(!As d.base s.lives[i].dot&& !decide (s.lives[i]∈d.lives)))) (fun Yq hY=> ?_) ?_
   ·refine by_b H2 (Ba _ w1 _ _ (p1.pre H2.sub) (by omega)) (fun k1=> ?_) (fun k1=> ?_)
    rotate_left
    ·simp only[go_sem]
     exact hY _ (by repeat(first|exact fun _ _=>by with_reducible rfl|refine kp (by decide) ?_)) (by simp only[go_sem,k1])
    simp(disch:=omega) only[go_sem,e3]
    refine by_b H2 (Ba _ w0 _ _ (p0.pre H2.sub) (by omega)) (fun k2=> ?_) (fun k2=> ?_)
    ·simp only[go_sem]
     exact hY _ (by repeat(first|exact fun _ _=>by with_reducible rfl|refine kp (by decide) ?_)) (by simp only[go_sem,k1,k2])
    simp(disch:=omega) only[go_sem,e3]
    refine by_r H2 (Pt _ w3 _ (p3.pre H2.sub) s.lives[i] (by omega)) ?_
    simp only[go_sem]
    exact hY _ (by repeat(first|exact fun _ _=>by with_reducible rfl|refine kp (by decide) ?_)) (by simp only[go_sem,k1,k2])
   intro env' ke e12
   have kk:∀ r,r<25/\r≠11/\r≠12->env' r=env r:=fun r h=>(ke r (by omega)).trans (by revert r h;repeat(first|exact fun _ _=>by with_reducible rfl|refine kp (by decide) ?_))
   have k9:env' 11= .ptr n9 0:=by simp(disch:=omega) only[go_sem,ke]
   have keep:Mh d s.lives[i]=false->∀ env'':Env,(∀ r,r<25/\r≠10/\r≠11/\r≠12->env'' r=env' r)->J (i+1) env'' U2:=fun hk env'' k2=>hJ _ _ _ _ (H2.re [1,2,3,4,5,6,7,8] (by decide)) ⟨v0,v1,v2,v3,by simp(disch:=omega) only[go_sem,k2,kk,e2],by simp(disch:=omega) only[go_sem,k2,kk,e3],by simp(disch:=omega) only[go_sem,k2,kk,e4],by simp(disch:=omega) only[go_sem,k2,kk,e5],by rw[Pr hi hk];rfl⟩
   cases hg:(As d.know s.lives[i].dot&&(!As d.base s.lives[i].dot&& !decide (s.lives[i]∈d.lives))) with
   |true=>
    rw[hg] at e12 kE
    simp(disch:=omega) only[go_sem,e12,kk,ei]
    exact keep kE _ (by repeat(first|exact fun _ _=>by with_reducible rfl|refine kp (by decide) ?_))
   |false=>
    rw[hg] at e12 kE
    simp(disch:=omega) only[go_sem,e12,kk,k9,e3,ei]
    refine by_b H2 (Ab0 _ w4 _ (p4.pre H2.sub) s.lives[i].dot (by omega)) (fun k4=> ?_) (fun k4=> ?_)
    ·rw[k4] at kE
     simp(disch:=omega) only[go_sem,kk,ei]
     exact keep kE _ (by repeat(first|exact fun _ _=>by with_reducible rfl|refine kp (by decide) ?_))
    ·rw[k4] at kE
     simp(disch:=omega) only[go_sem,kk,k9,e5,ei]
     intro nl fl U3 H3
     refine E8 (p:=Ap) H3 5 rfl s.lives[i] Be (by decide) (by have:=Rm (p:=Mh d) (l:=s.lives) (i:=i) (n:=1073741824) (by omega);omega) fun w' U4 H4=> ?_
     have cw':=(H4.hp.sl 5 rfl).cell
     simp(disch:=omega) only[go_sem,kk,e5,ei,cw']
     intro U5 H5
     exact hJ _ _ _ _ (H5.re [2,3,4,5,6,7,8,9] (by decide)) ⟨v0,v1,w',v3,by simp(disch:=omega) only[go_sem,kk,e2],by simp(disch:=omega) only[go_sem,kk,e3],by simp(disch:=omega) only[go_sem,kk,e4],by simp(disch:=omega) only[go_sem,kk,e5],by rw[Oy hi kE];rfl⟩
  ·clear H e2 e3 e4 e5
   rintro Yq hY env h U ei k0 H ⟨v0,v1,v2,v3,e2,e3,e4,e5,rfl⟩
   simp(disch:=omega) only[go_sem,k0,e2,ei,qc.len]
   exact hY _ _ _ H ⟨v0,v1,v2,v3,e2,e3,e4,e5,by rw[Zab]⟩
  clear H e2 e3 e4 e5 v0 v1 v2 v3
  rintro env h U H ⟨v0,v1,v2,v3,e2,e3,e4,e5,rfl⟩
  simp only[go_sem]
  refine Ax d.lives.length 13 6 (fun i env h=>∃ v0 v1 v2 v3,env 2= .ptr n2 0/\env 3= .ptr n3 0/\env 4= .ptr n4 0/\env 5= .ptr n5 0/\h=[.box 1 n5 [v0,v1,v2,v3],.th (ow pI.kd v0 (kMax s.know d.know)),.th (ow Ah.kd v1 (Ft (Fb s d) s.tallies d.tallies)),.th (ow Ap.kd v2 (Ar C5 (s.lives.filter (Mh d)++(d.lives.take i).filter (newD s)))),.th (ow Ai.kd v3 (Bz s.cells d.cells)),.box 1 n4 z4',.box 1 n3 [w0,w1,w2,w3,w4,w5],.box 1 n2 [a,b,c,v]]) (fun env h=>∃ v0 v1 v2 v3,env 4= .ptr n4 0/\env 5= .ptr n5 0/\h=[.box 1 n5 [v0,v1,v2,v3],.th (ow pI.kd v0 (kMax s.know d.know)),.th (ow Ah.kd v1 (Ft (Fb s d) s.tallies d.tallies)),.th (ow Ap.kd v2 (Ar C5 (s.lives.filter (Mh d)++d.lives.filter (newD s)))),.th (ow Ai.kd v3 (Bz s.cells d.cells)),.box 1 n4 z4',.box 1 n3 [w0,w1,w2,w3,w4,w5],.box 1 n2 [a,b,c,v]]) (fun env h=>False) _ H (rfl) ⟨v0,v1,v2,v3,e2,e3,e4,e5,by rw[Za8,Zap,Zav,O6 Aqw (l5.filter _)]⟩ ?_ ?_ ?_ (fun _ _ _ _ h=>h.elim)
  ·clear H e2 e3 e4 e5
   rintro J Yq Wq hJ hY hW i env h U hi ei k0 H ⟨v0,v1,v2,v3,e2,e3,e4,e5,rfl⟩
   have B1:=Aa p3 hi
   have d2:=(H.hp.sl 3 rfl).cell
   simp(disch:=omega) only[go_sem,k0,e2,e3,e4,e5,ei,A0,B1,p3.len]
   refine by_b H (Ba _ a _ _ (qa.pre H.sub) (by omega)) (fun k1=> ?_) (fun k1=> ?_)
   ·simp(disch:=omega) only[go_sem,ei]
    exact hJ _ _ _ _ H ⟨v0,v1,v2,v3,e2,e3,e4,e5,by rw[Pr hi (by simp[newD,k1])]⟩
   ·have hll:=A93 (p:=Mh d) (q:=newD s) (a:=s.lives) (b:=d.lives) (i:=i) (n:=1073741824) (by omega) (by omega)
    simp(disch:=omega) only[go_sem,e3,e5,ei,A0,B1,d2]
    obtain⟨w',U2,R2,K2⟩:=Jp U v2 _ (H.hp.sl 3 rfl) d.lives[i] (by rw[Cm];omega)
    refine by_c H R2 K2 fun H2=> ?_
    have d3:=(H2.hp.sl 0 rfl).cell
    simp(disch:=omega) only[go_sem,e5,ei,d3]
    intro U5 H5
    refine hJ _ _ _ _ (H5.re [1,2,3,0,5,6,7,8] (by decide)) ⟨v0,v1,w',v3,e2,e3,e4,e5,?_⟩
    rw[Oy hi (by simp[newD,k1]),<-Zan,K8]
    rfl
  ·clear H e2 e3 e4 e5
   rintro Yq hY env h U ei k0 H ⟨v0,v1,v2,v3,e2,e3,e4,e5,rfl⟩
   simp(disch:=omega) only[go_sem,k0,e3,ei,p3.len]
   exact hY _ _ _ H ⟨v0,v1,v2,v3,e4,e5,by rw[Zab]⟩
  clear H e2 e3 e4 e5 v0 v1 v2 v3
  rintro env h U H ⟨v0,v1,v2,v3,e4,e5,rfl⟩
  simp +contextual (disch:=omega) only[go_sem,e4,e5]
  intro U8 H8
  exact⟨_,rfl,_,rfl,Hp.ownState (x:=R0 s d) (H8.sel [1,2,3,4] (by decide))⟩
 obtain⟨q,U,R,r,rfl,h⟩:=key
 exact⟨r,U,R,h⟩
def A5h:Fn1:=⟨57,[.c 4 true 4,.t 5],(rg [oX 2 0,oX 3 1,o 4 (.new [.nilS,.nilS,.nilS,.nilS]),oV 5 (ki 0)] (rg [oW 8 4 2,oC 9 247 8,o 6 (.new [.nilS,.nilS,.nilS,.nilS]),oS 4 6 9] (.seq (rg [oW 10 4 2,oC 11 199 10,oU 12 11,oM 13 12,vW 14 13 6 3,vC 15 13 219 14,vU 16 13 15,oP 17 13 16] (oG 17 (rg [oW 18 4 6,oS 4 4 18,oV 5 (ki 3)] .ret))) (.seq (rg [oF 19 1 3,oL 20 19,oF 21 0 2,oL 22 21,oD 23 178 20 22] (oG 23 (rg [oW 24 4 6,oS 4 4 24,oV 5 (ki 1)] .ret))) (.seq (rg [oF 25 0 3,oL 26 25,oF 27 0 2,oL 28 27,oD 29 178 26 28,oU 30 29] (oG 30 (rg [oW 31 4 6,oS 4 4 31,oV 5 (ki 2)] .ret))) (rg [oW 32 4 2,oW 33 6 3,oD 34 271 32 33,o 7 (.new [.nilS,.nilS,.nilS,.nilS]),oS 4 7 34] (.seq (rg [oF 35 1 7,oL 36 35,oN 37 36,oE 38 .gtr 37 120,oM 39 38,vF 40 39 2 7,vL 41 39 40,og 42 39 false (.len false (.t 41)),vE 43 39 .gtr 42 120,oP 44 39 43,oM 45 44,vF 46 45 3 7,vL 47 45 46,og 48 45 false (.len false (.t 47)),vE 49 45 .gtr 48 120,oP 50 45 49] (oG 50 (rg [oW 51 4 6,oS 4 4 51,oV 5 (ki 4)] .ret))) (.seq (rg [oW 52 4 7,oC 53 199 52,oU 54 53] (oG 54 (rg [oW 55 4 6,oS 4 4 55,oV 5 (ki 3)] .ret))) (rg [oW 56 4 7,oS 4 4 56,oV 5 (ki 0)] .ret)))))))))⟩
theorem Af3:A8 Tryz.prog 166=some A5h:=by kernel_rfl
theorem Abe (N:St) (cs:List GV) (s:State) (hR:A4.R N s cs) (ds:List GV) (d:Delta) (hD:Aw.R N d ds) (hl:Ad s<=1073741824) (hm:Au d<=1073741824):∃ r U,Ret Tryz.prog 166 [.agg cs,.agg ds] N (.tup [.agg r,gi (Ay s d).2]) U/\Hp N U [own A4 r (Ay s d).1]:=by
 have hR0:=hR
 have hD0:=hD
 obtain⟨a,b,c,v,rfl,qa,qb,qc,qv⟩:=hR
 obtain⟨w0,w1,w2,w3,w4,w5,rfl,p0,p1,p2,p3,p4,p5⟩:=hD
 obtain⟨ls0,ls1,ls2,ls3⟩:=Py hl
 obtain⟨m0,m1,m2,m3,m4,m5,_⟩:=Fs hm
 have key:∃ q U,Ret Tryz.prog 166 [.agg [a,b,c,v],.agg [w0,w1,w2,w3,w4,w5]] N q U/\∃ r,q= .tup [.agg r,gi (Ay s d).2]/\Hp N U [own A4 r (Ay s d).1]:=by
  refine Bg Af3 (Z0z rfl) (Hx.refl N) ?_
  simp +contextual (disch:=omega) only[go_sem,A5h]
  intro n2 f2 U2 H2 n3 f3 U3 H3 n4 f4 U4 H4
  obtain⟨es,U5,R5,K5⟩:=Cn U4 _ s (A4.pre hR0 H4.sub) (by omega)
  have gl:es.length=4:=A4.len (K5.rd 0 rfl)
  have sf:=A5 (cs:=z4') gl rfl
  have sg:=A6 gl
  refine by_c H4 R5 K5 fun H5=> ?_
  simp +contextual (disch:=omega) only[go_sem,sf,gl,sg]
  intro n6 f6 U6 _ U7 H7
  refine by_b H7 (Cl _ _ s (A4.pre hR0 H7.sub) (by omega)) (fun hok=> ?_) (fun hok=> ?_)
  rotate_left
  ·have hd:Ay s d=(s,3):=by simp[Ay,hok]
   simp +contextual (disch:=omega) only[go_sem,sf,gl,sg]
   intro U8 H8
   exact⟨_,rfl,es,by rw[hd],by rw[hd];exact H8.sel [1] (by decide)⟩
  simp(disch:=omega) only[go_sem]
  refine by_b H7 (Vu _ _ d (Aw.pre hD0 H7.sub) (by omega)) (fun hdk=> ?_) (fun hdk=> ?_)
  rotate_left
  ·have hd:Ay s d=(s,3):=by simp[Ay,hok,hdk]
   simp +contextual (disch:=omega) only[go_sem,sf,gl,sg]
   intro U8 H8
   exact⟨_,rfl,es,by rw[hd],by rw[hd];exact H8.sel [1] (by decide)⟩
  simp(disch:=omega) only[go_sem]
  refine by_b H7 (Hg _ w1 a _ _ (p1.pre H7.sub) (qa.pre H7.sub) (by omega) (by omega)) (fun k1=> ?_) (fun k1=> ?_)
  ·have hd:Ay s d=(s,1):=by simp[Ay,hok,hdk,k1]
   simp +contextual (disch:=omega) only[go_sem,sf,gl,sg]
   intro U8 H8
   exact⟨_,rfl,es,by rw[hd],by rw[hd];exact H8.sel [1] (by decide)⟩
  simp(disch:=omega) only[go_sem]
  refine by_b H7 (Hg _ w0 a _ _ (p0.pre H7.sub) (qa.pre H7.sub) (by omega) (by omega)) (fun k2=> ?_) (fun k2=> ?_)
  rotate_left
  ·have hd:Ay s d=(s,2):=by simp[Ay,hok,hdk,k1,k2]
   simp +contextual (disch:=omega) only[go_sem,sf,gl,sg]
   intro U8 H8
   exact⟨_,rfl,es,by rw[hd],by rw[hd];exact H8.sel [1] (by decide)⟩
  simp(disch:=omega) only[go_sem]
  obtain⟨os,U9,R9,K9⟩:=Abd U7 _ s (A4.pre hR0 H7.sub) _ d (Aw.pre hD0 H7.sub) hl hm hok hdk
  refine by_c H7 R9 K9 fun H9=> ?_
  obtain⟨kv,tv,lv,cv,rfl,K10⟩:=(H9.hp.pick 0 rfl).splitState
  have ht:=(K10.sl 1 rfl).len
  have hlv:=(K10.sl 2 rfl).len
  have hcv:=(K10.sl 3 rfl).len
  have hst:A4.R U9 (R0 s d) [kv,tv,lv,cv]:=H9.hp.rd 0 rfl
  have hms:=Ans s d
  have kE:F6 (R0 s d)=(decide (120<(R0 s d).tallies.length)||(decide (120<(R0 s d).lives.length)||decide (120<(R0 s d).cells.length))):=rfl
  generalize hD:R0 s d=o at*
  cases t1:decide (120<o.tallies.length) with
  |true=>
   have hd:Ay s d=(s,4):=by simp[Ay,hok,hdk,k1,k2,hD,kE,t1]
   simp +contextual (disch:=omega) only[go_sem,ht,Ip,t1,sf,gl,sg]
   intro n7 f7 U10 _ U11 H11 U12 H12
   exact⟨_,rfl,es,by rw[hd],by rw[hd];exact H12.sel [3] (by decide)⟩
  |false=>
  cases t2:decide (120<o.lives.length) with
  |true=>
   have hd:Ay s d=(s,4):=by simp[Ay,hok,hdk,k1,k2,hD,kE,t2]
   simp +contextual (disch:=omega) only[go_sem,ht,hlv,Ip,t1,t2,sf,gl,sg]
   intro n7 f7 U10 _ U11 H11 U12 H12
   exact⟨_,rfl,es,by rw[hd],by rw[hd];exact H12.sel [3] (by decide)⟩
  |false=>
  cases t3:decide (120<o.cells.length) with
  |true=>
   have hd:Ay s d=(s,4):=by simp[Ay,hok,hdk,k1,k2,hD,kE,t3]
   simp +contextual (disch:=omega) only[go_sem,ht,hlv,hcv,Ip,t1,t2,t3,sf,gl,sg]
   intro n7 f7 U10 _ U11 H11 U12 H12
   exact⟨_,rfl,es,by rw[hd],by rw[hd];exact H12.sel [3] (by decide)⟩
  |false=>
  have k3:F6 o=false:=by rw[kE,t1,t2,t3];rfl
  simp +contextual only[go_sem,ht,hlv,hcv,Ip,t1,t2,t3]
  intro n7 f7 U10 _ U11 H11
  refine by_b H11 (Cl _ _ _ (H11.hp.rd 1 rfl) (by omega)) (fun k4=> ?_) (fun k4=> ?_)
  rotate_left
  ·have hd:Ay s d=(s,3):=by simp[Ay,hok,hdk,k1,k2,hD,k3,k4]
   simp +contextual (disch:=omega) only[go_sem,sf,gl,sg]
   intro U8 H8
   exact⟨_,rfl,es,by rw[hd],by rw[hd];exact H8.sel [3] (by decide)⟩
  have hd:Ay s d=(o,0):=by simp[Ay,hok,hdk,k1,k2,hD,k3,k4]
  simp +contextual (disch:=omega) only[go_sem]
  intro U8 H8
  exact⟨_,rfl,_,by rw[hd],by rw[hd];exact H8.sel [1] (by decide)⟩
 obtain⟨q,U,R,r,rfl,h⟩:=key
 exact⟨r,U,R,h⟩
abbrev z4:List GV:=[GV.nilS,GV.nilS,GV.nilS,GV.nilS]
theorem Abf (s:State) (rep t:Int) (e:Edit):Ck (E7 s rep t e).1<=s.know.length+e.obj.size+e.key.size:=by
 unfold E7
 repeat' split
 all_goals simp only[A8o,An6,act0,Ck,show(ByteArray.mk #[]).size=0 from rfl,Zbq]
 all_goals omega
theorem Pz (s:State):s.know.length<=Ad s:=by unfold Ad;omega
theorem Ass {N U:St} {h:List Item} (H:Hx N U h) {i:Nat} {cs:List GV} {s:State} (hi:h[i]? =some (.th (own A4 cs s))):zSt U cs:=by
 obtain⟨v0,v1,v2,v3,rfl,H'⟩:=(H.hp.pick i (at_t hi)).splitState
 exact⟨v0,v1,v2,v3,rfl,H'.zok 1 rfl,H'.zok 2 rfl,H'.zok 3 rfl⟩
def Qr:Fn1:=⟨20,[.c 4 true 4,.t 5],(rg [oX 2 0,oX 3 1,o 4 (.new [.nilS,.nilS,.nilS,.nilS]),oV 5 (ki 0)] (.seq (rg [oF 6 0 3,oL 7 6] (oG 7 (rg [oW 8 4 2,oF 9 11 3,oW 10 6 9,oD 11 166 8 10,o 12 (.ext 0 (.t 11)),o 13 (.ext 1 (.t 11)),oS 4 4 12,oM 5 13] .ret))) (rg [oW 14 4 2,oF 15 1 3,oW 16 10 15,oD 17 140 14 16,o 18 (.ext 0 (.t 17)),o 19 (.ext 1 (.t 17)),oS 4 4 18,oM 5 19] .ret)))⟩
theorem A5i:A8 Tryz.prog 44=some Qr:=by kernel_rfl
def Zq:Fn1:=⟨20,[.c 4 true 4,.t 5],(rg [oX 2 0,oX 3 1,o 4 (.new [.nilS,.nilS,.nilS,.nilS]),oV 5 (ki 0)] (.seq (rg [oF 6 0 3,oL 7 6] (oG 7 (rg [oW 8 4 2,oF 9 11 3,oW 10 6 9,oD 11 270 8 10,o 12 (.ext 0 (.t 11)),o 13 (.ext 1 (.t 11)),oS 4 4 12,oM 5 13] .ret))) (rg [oW 14 4 2,oF 15 1 3,oW 16 10 15,oD 17 152 14 16,o 18 (.ext 0 (.t 17)),o 19 (.ext 1 (.t 17)),oS 4 4 18,oM 5 19] .ret)))⟩
theorem Ai5:A8 Tryz.prog 164=some Zq:=by kernel_rfl
def A1d:Fn1:=⟨3,[.c 0 true 4],(rg [o 0 (.new [.nilS,.nilS,.nilS,.nilS])] (rg [o 1 (.call 165 []),o 2 (.build [.nilS,.nilS,.nilS,.nilS] [(0,1,(.t 1))]),oS 4 0 2] .ret))⟩
theorem Abg:A8 Tryz.prog 43=some A1d:=by kernel_rfl
def A1e:Fn1:=⟨3,[.c 0 true 4],(rg [o 0 (.new [.nilS,.nilS,.nilS,.nilS])] (rg [o 1 (.call 179 []),o 2 (.build [.nilS,.nilS,.nilS,.nilS] [(0,1,(.t 1))]),oS 4 0 2] .ret))⟩
theorem Abh:A8 Tryz.prog 127=some A1e:=by kernel_rfl
def A1g:Fn1:=⟨26,[.t 2],(rg [oV 2 kf] (rg [o 7 (.call 43 []),o 3 (.new [.nilS,.nilS,.nilS,.nilS]),oS 4 3 7] (.seq (rg [oV 4 (ki 0)] (oH 0 (.seq (rg [oM 8 4,oM 9 0,oN 10 9,oB 11 .lss 8 10] (oJ 11 0)) (.seq (.blk 1 (dw [oW 15 4 3,oM 16 0,oM 17 4,oI 18 17 16 17,oW 19 17 18,oD 20 44 15 19,oM 14 20,o 21 (.ext 0 (.t 14)),o 22 (.ext 1 (.t 14)),o 5 (.new [.nilS,.nilS,.nilS,.nilS])] [oS 4 5 21,oM 6 22] (.seq (rg [oM 23 6,oE 24 .neq 23 0] (oG 24 (oR 2 kf))) (.reg [oW 25 4 5,oS 4 3 25])))) (.reg [oM 12 4,oZ 13 12 1,oM 4 13]))))) (oR 2 kt))))⟩
theorem Abi:A8 Tryz.prog 62=some A1g:=by kernel_rfl
def A1i:Fn1:=⟨25,[.t 2],(rg [oV 2 kf] (rg [o 8 (.call 127 []),o 3 (.new [.nilS,.nilS,.nilS,.nilS]),oS 4 3 8] (.seq (rg [oM 9 0,oN 10 9,oV 11 (ki 0)] (oH 0 (rg [oB 12 .lss 11 10] (.seq (oJ 12 0) (.seq (.blk 1 (rg [oI 13 17 9 11,oW 14 17 13,o 5 (.new [(.bool false),z0,z0,z0,.nilS,z0,s0,s0,z0,z0,z0,.nilS,.nilS,.nilS,.nilS,.nilS,.nilS]),oS 17 5 14] (rg [oW 16 4 3,oW 17 17 5,oD 18 164 16 17,oM 15 18,o 19 (.ext 0 (.t 15)),o 20 (.ext 1 (.t 15)),o 6 (.new [.nilS,.nilS,.nilS,.nilS]),oS 4 6 19,oM 7 20] (.seq (rg [oM 21 7,oE 22 .neq 21 0] (oG 22 (oR 2 kf))) (.reg [oW 23 4 6,oS 4 3 23]))))) (.reg [oZ 24 11 1,oM 11 24])))))) (oR 2 kt))))⟩
theorem Abj:A8 Tryz.prog 42=some A1i:=by kernel_rfl
abbrev zeU:List GV:=[.bool false,gi 0,gi 0,gi 0,.nilS,gi 0,.str ⟨#[]⟩,.str ⟨#[]⟩,gi 0,gi 0,gi 0,.nilS,.nilS,.nilS,.nilS,.nilS,.nilS]
def B9 (s:State) (u:Unit_):State×Int:=if u.batch then Ay s u.delta else Bi s u.act
def st0:State:=⟨[0,0,0],[],[],[]⟩
theorem Abk {b:Bool} {v1 v2:List GV} (h1:v1.length=10) (h2:v2.length=6):(seg (.bool b::v1++(v2++[])) 1 10).bind (mkv true)=some (.agg v1)/\(seg (.bool b::v1++(v2++[])) 11 6).bind (mkv true)=some (.agg v2)/\(seg (.bool b::v1++(v2++[])) 0 1).bind (mkv false)=some (.bool b)/\(GV.bool b::v1++(v2++[])).length=17:=by
 refine⟨?_,?_,?_,by simp[h1,h2]⟩
 ·simp[seg,mkv,h1,h2]
 ·have:List.drop 10 (v1++v2)=v2:=by rw[<- h1,List.drop_left]
  simp[seg,mkv,h1,h2,this]
  exact Zbb (by omega)
 ·simp[seg,mkv]
theorem Gk (N:St):∃ r U,Ret Tryz.prog 43 [] N (.agg r) U/\Hp N U [own A4 r st0]:=by
 have key:∃ q U,Ret Tryz.prog 43 [] N q U/\∃ r,q= .agg r/\Hp N U [own A4 r st0]:=by
  refine Bg Abg (Z0z rfl) (Hx.refl N) ?_
  simp only[go_sem,A1d]
  intro n f U H
  obtain⟨kv,U1,R1,K1⟩:=V6 U
  refine by_c H R1 K1 fun H1=> ?_
  have ck:=(H1.hp.sl 0 rfl).cell
  simp +contextual (disch:=omega) only[go_sem,ck]
  intro U2 H2
  exact⟨_,rfl,_,rfl,Hp.ownState (x:=st0) (((((H2.sel [0] (by decide)).nilS (d:=Ai.kd)).nilS (d:=Ap.kd)).nilS (d:=Ah.kd)).sel [3,0,1,2] (by decide))⟩
 obtain⟨q,U,R,r,rfl,h⟩:=key
 exact⟨r,U,R,h⟩
theorem A78 (N:St):∃ r U,Ret Tryz.prog 127 [] N (.agg r) U/\Hp N U [own A4 r st0]:=by
 have key:∃ q U,Ret Tryz.prog 127 [] N q U/\∃ r,q= .agg r/\Hp N U [own A4 r st0]:=by
  refine Bg Abh (Z0z rfl) (Hx.refl N) ?_
  simp only[go_sem,A1e]
  intro n f U H
  obtain⟨kv,U1,R1,K1⟩:=V7 U
  refine by_c H R1 K1 fun H1=> ?_
  have ck:=(H1.hp.sl 0 rfl).cell
  simp +contextual (disch:=omega) only[go_sem,ck]
  intro U2 H2
  exact⟨_,rfl,_,rfl,Hp.ownState (x:=st0) (((((H2.sel [0] (by decide)).nilS (d:=Ai.kd)).nilS (d:=Ap.kd)).nilS (d:=Ah.kd)).sel [3,0,1,2] (by decide))⟩
 obtain⟨q,U,R,r,rfl,h⟩:=key
 exact⟨r,U,R,h⟩
theorem Af4 (N:St) (cs:List GV) (s:State) (hR:A4.R N s cs) (ds:List GV) (u:Unit_) (hU:A9.R N u ds) (hl:Ad s<=1073741824) (hm:Aj u<=1073741824):∃ r U,Ret Tryz.prog 44 [.agg cs,.agg ds] N (.tup [.agg r,gi (B9 s u).2]) U/\Hp N U [own A4 r (B9 s u).1]:=by
 obtain⟨v1,v2,rfl,hA,hD⟩:=hU
 obtain⟨g1,g2,g3,g4⟩:=Abk (b:=u.batch) (kAct.len hA) (Aw.len hD)
 have gl:cs.length=4:=A4.len hR
 have sg:=A6 gl
 have hma:Ck u.act<=1073741824/\Au u.delta<=1073741824:=by unfold Aj at hm;omega
 generalize(.bool u.batch::v1++(v2++[]):List GV)=ds at*
 have key:∃ q U,Ret Tryz.prog 44 [.agg cs,.agg ds] N q U/\∃ r,q= .tup [.agg r,gi (B9 s u).2]/\Hp N U [own A4 r (B9 s u).1]:=by
  refine Bg A5i (Z0z rfl) (Hx.refl N) ?_
  cases hb:u.batch with
  |true=>
   rw[hb] at g3
   have hd:B9 s u=Ay s u.delta:=by unfold B9;rw[if_pos hb]
   simp +contextual (disch:=omega) only[go_sem,Qr,g3,sg,g2]
   intro n2 f2 U2 H2 n3 f3 U3 H3 n4 f4 U4 H4
   obtain⟨r,U5,R5,K5⟩:=Abe U4 _ s (A4.pre hR H4.sub) _ _ (Aw.pre hD H4.sub) hl hma.2
   have rl:r.length=4:=A4.len (K5.rd 0 rfl)
   refine by_c H4 R5 K5 fun H5=> ?_
   simp +contextual (disch:=omega) only[go_sem,A5 (cs:=z4) rl rfl,rl,A6 rl]
   intro U6 H6
   exact⟨_,rfl,r,by rw[hd],by rw[hd];exact H6.sel [0] (by decide)⟩
  |false=>
   rw[hb] at g3
   have hd:B9 s u=Bi s u.act:=by unfold B9;rw[if_neg (by simp[hb])]
   simp +contextual (disch:=omega) only[go_sem,Qr,g3,sg,g1]
   intro n2 f2 U2 H2 n3 f3 U3 H3 n4 f4 U4 H4
   obtain⟨r,U5,R5,K5⟩:=Gt U4 _ s (A4.pre hR H4.sub) _ _ (kAct.pre hA H4.sub) (by omega) (by omega)
   have rl:r.length=4:=A4.len (K5.rd 0 rfl)
   refine by_c H4 R5 K5 fun H5=> ?_
   simp +contextual (disch:=omega) only[go_sem,A5 (cs:=z4) rl rfl,rl,A6 rl]
   intro U6 H6
   exact⟨_,rfl,r,by rw[hd],by rw[hd];exact H6.sel [0] (by decide)⟩
 obtain⟨q,U,R,r,rfl,h⟩:=key
 exact⟨r,U,R,h⟩
theorem T6 (N:St) (cs:List GV) (s:State) (hR:A4.R N s cs) (ds:List GV) (u:Unit_) (hU:A9.R N u ds) (hl:Ad s<=1073741824) (hm:Aj u<=1073741824) (hb:u.batch=false):∃ r U,Ret Tryz.prog 44 [.agg cs,.agg ds] N (.tup [.agg r,gi (B9 s u).2]) U/\Hp N U [own A4 r (B9 s u).1]:=by
 obtain⟨v1,v2,rfl,hA,hD⟩:=hU
 obtain⟨g1,g2,g3,g4⟩:=Abk (b:=u.batch) (kAct.len hA) (Aw.len hD)
 have gl:cs.length=4:=A4.len hR
 have sg:=A6 gl
 have hma:Ck u.act<=1073741824/\Au u.delta<=1073741824:=by unfold Aj at hm;omega
 generalize(.bool u.batch::v1++(v2++[]):List GV)=ds at*
 have key:∃ q U,Ret Tryz.prog 44 [.agg cs,.agg ds] N q U/\∃ r,q= .tup [.agg r,gi (B9 s u).2]/\Hp N U [own A4 r (B9 s u).1]:=by
  refine Bg A5i (Z0z rfl) (Hx.refl N) ?_
  rw[hb] at g3
  have hd:B9 s u=Bi s u.act:=by unfold B9;rw[if_neg (by simp[hb])]
  simp +contextual (disch:=omega) only[go_sem,Qr,g3,sg,g1]
  intro n2 f2 U2 H2 n3 f3 U3 H3 n4 f4 U4 H4
  obtain⟨r,U5,R5,K5⟩:=Gt U4 _ s (A4.pre hR H4.sub) _ _ (kAct.pre hA H4.sub) (by omega) (by omega)
  have rl:r.length=4:=A4.len (K5.rd 0 rfl)
  refine by_c H4 R5 K5 fun H5=> ?_
  simp +contextual (disch:=omega) only[go_sem,A5 (cs:=z4) rl rfl,rl,A6 rl]
  intro U6 H6
  exact⟨_,rfl,r,by rw[hd],by rw[hd];exact H6.sel [0] (by decide)⟩
 obtain⟨q,U,R,r,rfl,h⟩:=key
 exact⟨r,U,R,h⟩
theorem Af5 (N:St) (cs:List GV) (s:State) (hR:A4.R N s cs) (hz:zSt N cs) (ds:List GV) (u:Unit_) (hU:A9.R N u ds) (hl:Ad s<=1073741824) (hm:Aj u<=1073741824):∃ r U,Ret Tryz.prog 164 [.agg cs,.agg ds] N (.tup [.agg r,gi (B9 s u).2]) U/\Hp N U [own A4 r (B9 s u).1]:=by
 obtain⟨v1,v2,rfl,hA,hD⟩:=hU
 obtain⟨g1,g2,g3,g4⟩:=Abk (b:=u.batch) (kAct.len hA) (Aw.len hD)
 have gl:cs.length=4:=A4.len hR
 have sg:=A6 gl
 have hma:Ck u.act<=1073741824/\Au u.delta<=1073741824:=by unfold Aj at hm;omega
 generalize(.bool u.batch::v1++(v2++[]):List GV)=ds at*
 have key:∃ q U,Ret Tryz.prog 164 [.agg cs,.agg ds] N q U/\∃ r,q= .tup [.agg r,gi (B9 s u).2]/\Hp N U [own A4 r (B9 s u).1]:=by
  refine Bg Ai5 (Z0z rfl) (Hx.refl N) ?_
  cases hb:u.batch with
  |true=>
   rw[hb] at g3
   have hd:B9 s u=Ay s u.delta:=by unfold B9;rw[if_pos hb]
   simp +contextual (disch:=omega) only[go_sem,Zq,g3,sg,g2]
   intro n2 f2 U2 H2 n3 f3 U3 H3 n4 f4 U4 H4
   obtain⟨r,U5,R5,K5⟩:=Ab9 U4 _ s (A4.pre hR H4.sub) _ _ (Aw.pre hD H4.sub) hl hma.2
   have rl:r.length=4:=A4.len (K5.rd 0 rfl)
   refine by_c H4 R5 K5 fun H5=> ?_
   simp +contextual (disch:=omega) only[go_sem,A5 (cs:=z4) rl rfl,rl,A6 rl]
   intro U6 H6
   exact⟨_,rfl,r,by rw[hd],by rw[hd];exact H6.sel [0] (by decide)⟩
  |false=>
   rw[hb] at g3
   have hd:B9 s u=Bi s u.act:=by unfold B9;rw[if_neg (by simp[hb])]
   simp +contextual (disch:=omega) only[go_sem,Zq,g3,sg,g1]
   intro n2 f2 U2 H2 n3 f3 U3 H3 n4 f4 U4 H4
   obtain⟨a',b',c',v',hcs,z1,z2,z3⟩:=hz
   obtain⟨r,U5,R5,K5⟩:=Ahq U4 _ s (A4.pre hR H4.sub) ⟨a',b',c',v',hcs,Gs z1 H4.sub,Gs z2 H4.sub,Gs z3 H4.sub⟩ _ _ (kAct.pre hA H4.sub) (by omega) (by omega)
   have rl:r.length=4:=A4.len (K5.rd 0 rfl)
   refine by_c H4 R5 K5 fun H5=> ?_
   simp +contextual (disch:=omega) only[go_sem,A5 (cs:=z4) rl rfl,rl,A6 rl]
   intro U6 H6
   exact⟨_,rfl,r,by rw[hd],by rw[hd];exact H6.sel [0] (by decide)⟩
 obtain⟨q,U,R,r,rfl,h⟩:=key
 exact⟨r,U,R,h⟩
def runU (us:List Unit_):Nat->Option State
 |0=>some st0
 |i+1=>(runU us i).bind fun s=>if h:i<us.length then(if (B9 s us[i]).2=0 then some (B9 s us[i]).1 else none) else some s
def Iu (us:List Unit_):Bool:=(runU us us.length).isSome
theorem Abl {us:List Unit_} {i:Nat} {s:State} (hi:i<us.length) (h:runU us i=some s) (h0:(B9 s us[i]).2=0):runU us (i+1)=some (B9 s us[i]).1:=by
 rw[runU,h,Zbk,dif_pos hi,if_pos h0]
theorem Af6 {us:List Unit_} {i:Nat} (h:runU us i=none):∀ j,runU us (i+j)=none
 |0=>h
 |j+1=>by
  show runU us ((i+j)+1)=none
  rw[runU,Af6 h j];rfl
theorem Ant {us:List Unit_} {i:Nat} {s:State} (hi:i<us.length) (h:runU us i=some s) (h0:¬ (B9 s us[i]).2=0):Iu us=false:=by
 have h1:runU us (i+1)=none:=by rw[runU,h,Zbk,dif_pos hi,if_neg h0]
 obtain⟨j,hj⟩:∃ j,us.length=(i+1)+j:=⟨us.length - (i+1),by omega⟩
 unfold Iu
 rw[hj,Af6 h1];rfl
theorem Al7 (s:State) (d:Delta):Ad (Ay s d).1<=Ad s+Au d+3:=by
 have:=Ans s d
 unfold Ay
 repeat' split
 all_goals first|exact this|(simp only[];omega)
theorem Anu (s:State) (u:Unit_):Ad (B9 s u).1<=Ad s+Aj u+3:=by
 unfold B9
 split
 ·have:=Al7 s u.delta
  simp only[Aj];omega
 ·have:=Apk s u.act
  simp only[Aj,Ck];omega
theorem Ai6 (us:List Unit_):∀ i,i≤us.length->∀ s,runU us i=some s->Ad s<=3+sumL Aj (us.take i)+3*i
 |0,_,s,h=>by
  rw[runU] at h
  injection h with h;subst h
  simp[st0,Ad,sumL]
 |i+1,hi,s,h=>by
  rw[runU] at h
  obtain⟨s',h1,h2⟩:=Z1z.1 h
  have ih:=Ai6 us i (by omega) s' h1
  rw[dif_pos (by omega)] at h2
  split at h2
  ·injection h2 with h2;subst h2
   have:=Anu s' us[i]
   rw[Amn (by omega)]
   omega
  ·cases h2
theorem Anv {N:St} {v:GV} {l:List Unit_} (h:RS A9 N v l) {i:Nat} (hi:i<l.length):∃ cs,(iadG 17 v (some i)=some (atz 17 v i)/\ldG true 17 N (atz 17 v i)=some (.agg cs))/\A9.R N l[i] cs:=by
 obtain⟨cs,⟨h1,_,_,h4,_⟩,h5⟩:=RdN.cellsN h hi
 exact⟨cs,⟨h1,h4⟩,h5⟩
theorem A79 (N:St) (v:GV) (l:List Unit_) (h:RS A9 N v l) (hl:l.length+sumL Aj l<=1048576):Ret Tryz.prog 62 [v] N (.bool (Iu l)) N:=by
 refine Cb Abi (Z0z rfl) trivial ?_
 simp only[go_sem,A1g]
 obtain⟨r,U1,R1,K1⟩:=Gk N
 have rl:r.length=4:=A4.len (K1.rd 0 rfl)
 refine by_c (Hx.refl N) R1 K1 fun H1=> ?_
 simp only[go_sem,A5 (cs:=z4) rl rfl,rl]
 intro n3 f3 U2 _ U3 H3
 refine Ax l.length 4 0 (fun i env h=>env 0=v/\env 3= .ptr n3 0/\∃ s r,runU l i=some s/\r.length=4/\h=[.box 1 n3 r,.th (own A4 r s)]) (fun env h=>Iu l=true) (fun env h=>env 2= .bool (Iu l)) _ H3 (rfl) ⟨rfl,rfl,st0,r,rfl,rl,rfl⟩ ?_ ?_ ?_ ?_
 ·clear H1 H3
  rintro J Yq Wq hJ hY hW i env h' U hi ei c0 H ⟨e0,e3,s,r,hs,rl,rfl⟩
  obtain⟨cs,Uq1,hU⟩:=Anv h hi
  have hms:=Ai6 l i (by omega) s hs
  have htk:=Ks Aj l i
  have hmu:Aj l[i]<=sumL Aj l:=Ev (f:=Aj) (Zae hi)
  simp(disch:=omega) only[go_sem,c0,e0,e3,ei,A0,h.len,Uq1,A6 rl]
  obtain⟨q,U4,R4,K4⟩:=Af4 U r s (H.hp.rd 1 rfl) cs l[i] (A9.pre hU H.sub) (by omega) (by omega)
  have ql:q.length=4:=A4.len (K4.rd 0 rfl)
  refine by_c H R4 K4 fun H4=> ?_
  by_cases hz:(B9 s l[i]).2=0
  ·have b1:((B9 s l[i]).2 != 0)=false:=by simp[hz]
   simp +contextual (disch:=omega) only[go_sem,A5 (cs:=z4) ql rfl,A5 (cs:=r) ql rl,ql,rl,b1,e3,ei,A6 ql]
   intro n5 f5 U5 _ U6 _ U7 H7
   exact hJ _ _ _ _ (H7.re [2,1] (by decide)) ⟨e0,e3,_,q,Abl hi hs hz,ql,rfl⟩
  ·have b1:((B9 s l[i]).2 != 0)=true:=by simp[hz]
   simp only[go_sem,A5 (cs:=z4) ql rfl,ql,b1]
   intro n5 f5 U5 _ U6 H6
   exact hW _ _ _ H6 (by simp only[go_sem,Ant hi hs hz])
 ·clear H1 H3
  rintro Yq hY env h' U ei c0 H ⟨e0,e3,s,r,hs,rl,rfl⟩
  simp only[go_sem,c0,e0,ei,h.len]
  exact hY _ _ _ H (by simp[Iu,hs])
 ·rintro env h' U H hm
  simp only[go_sem,hm]
 ·rintro env h' U H e2
  simp only[go_sem,e2]
theorem A7a (N:St) (v:GV) (l:List Unit_) (h:RS A9 N v l) (hl:l.length+sumL Aj l<=1048576):Ret Tryz.prog 42 [v] N (.bool (Iu l)) N:=by
 refine Cb Abj (Z0z rfl) trivial ?_
 simp only[go_sem,A1i]
 obtain⟨r,U1,R1,K1⟩:=A78 N
 have rl:r.length=4:=A4.len (K1.rd 0 rfl)
 refine by_c (Hx.refl N) R1 K1 fun H1=> ?_
 simp only[go_sem,A5 (cs:=z4) rl rfl,rl,h.len]
 intro n3 f3 U2 _ U3 H3
 refine Ax l.length 11 0 (fun i env h=>env 9=v/\env 10=gi l.length/\env 3= .ptr n3 0/\∃ s r,runU l i=some s/\r.length=4/\h=[.box 1 n3 r,.th (own A4 r s)]) (fun env h=>Iu l=true) (fun env h=>env 2= .bool (Iu l)) _ H3 (rfl) ⟨rfl,rfl,rfl,st0,r,rfl,rl,rfl⟩ ?_ ?_ ?_ ?_
 ·clear H1 H3
  rintro J Yq Wq hJ hY hW i env h' U hi ei c0 H ⟨e9,e10,e3,s,r,hs,rl,rfl⟩
  obtain⟨cs,Uq1,hU⟩:=Anv h hi
  have hms:=Ai6 l i (by omega) s hs
  have htk:=Ks Aj l i
  have hmu:Aj l[i]<=sumL Aj l:=Ev (f:=Aj) (Zae hi)
  have cl:cs.length=17:=A9.len hU
  simp +contextual (disch:=omega) only[go_sem,c0,e9,e10,e3,ei,A0,Uq1,A6 rl,cl,A6 cl,A5 (cs:=zeU) cl rfl]
  intro n5 f5 U5 _ U6 H6
  obtain⟨q,U4,R4,K4⟩:=Af5 U6 r s (H6.hp.rd 2 rfl) (Ass H6 (i:=2) rfl) cs l[i] (A9.pre hU H6.sub) (by omega) (by omega)
  have ql:q.length=4:=A4.len (K4.rd 0 rfl)
  refine by_c H6 R4 K4 fun H4=> ?_
  by_cases hz:(B9 s l[i]).2=0
  ·have b1:((B9 s l[i]).2 != 0)=false:=by simp[hz]
   simp +contextual (disch:=omega) only[go_sem,A5 (cs:=z4) ql rfl,A5 (cs:=r) ql rl,ql,rl,b1,e3,ei,A6 ql]
   intro n6 f6 U7 _ U8 _ U9 H9
   exact hJ _ _ _ _ (H9.re [3,1] (by decide)) ⟨e9,e10,e3,_,q,Abl hi hs hz,ql,rfl⟩
  ·have b1:((B9 s l[i]).2 != 0)=true:=by simp[hz]
   simp only[go_sem,A5 (cs:=z4) ql rfl,ql,b1]
   intro n6 f6 U7 _ U8 H8
   exact hW _ _ _ H8 (by simp only[go_sem,Ant hi hs hz])
 ·clear H1 H3
  rintro Yq hY env h' U ei c0 H ⟨e9,e10,e3,s,r,hs,rl,rfl⟩
  simp only[go_sem,c0,e10,ei]
  exact hY _ _ _ H (by simp[Iu,hs])
 ·rintro env h' U H hm
  simp only[go_sem,hm]
 ·rintro env h' U H e2
  simp only[go_sem,e2]
def A95:Fn1:=⟨27,[.t 2],(rg [oX 1 0,oV 2 (ki 0)] (rg [oV 3 (ki 0)] (.seq (rg [oV 4 (ki 0)] (oH 0 (.seq (rg [oM 5 4,oF 6 3 1,oL 7 6,oN 8 7,oB 9 .lss 5 8] (oJ 9 0)) (.seq (.blk 1 (rg [oF 12 3 1,oL 13 12,oM 14 4,oI 15 8 13 14,oF 16 3 15,oL 17 16,oM 18 3,oB 19 .gtr 17 18] (oG 19 (.reg [oF 20 3 1,oL 21 20,oM 22 4,oI 23 8 21 22,oF 24 3 23,oL 25 24,oM 3 25])))) (.reg [oM 10 4,oZ 11 10 1,oM 4 11]))))) (rg [oM 26 3,oM 2 26] .ret))))⟩
theorem Ai7:A8 Tryz.prog 277=some A95:=by kernel_rfl
def A1j:Fn1:=⟨43,[.c 6 true 4],(rg [oX 4 1,o 6 (.new [.nilS,.nilS,.nilS,.nilS])] (.seq (rg [oV 7 (ki 0)] (oH 0 (.seq (rg [oM 12 7,oM 13 2,oB 14 .lss 12 13] (oJ 14 0)) (.seq (.blk 1 (rg [oM 17 0,o 18 (.call 163 [(.t 17),(ki 3)]),oM 8 18] (rg [oM 19 0,oC 20 269 19,o 9 (.new [z0,s0,s0,z0,z0]),oS 5 9 20] (dw [oW 30 5 9,o 10 (.new [z0,z0,z0,.nilS,z0,s0,s0,z0,z0,z0])] [oW 22 4 4,oM 23 8,oW 24 4 4,oC 25 277 24,on (.chk 22 (.ld true 4 (.t 4))),on (.chk 30 (.ld true 5 (.t 9))),on (.blc 10 [z0,z0,z0,.nilS,z0,s0,s0,z0,z0,z0]),oZ 26 25 1,oM 27 0,o 28 (.call 163 [(.t 27),(ki 2)]),on (.chk 22 (.ld true 4 (.t 4))),on (.chk 30 (.ld true 5 (.t 9))),on (.blc 10 [z0,z0,z0,.nilS,z0,s0,s0,z0,z0,z0]),oB 29 .add 26 28,o 31 (.call 276 (oT [22,23,29,30])),on (.blc 10 [z0,z0,z0,.nilS,z0,s0,s0,z0,z0,z0]),oM 21 31,o 32 (.ext 0 (.t 21)),o 33 (.ext 1 (.t 21)),oS 10 10 32,oM 11 33] (rg [oM 34 11,oE 35 .eql 34 0] (oG 35 (.reg [oW 37 4 4,oW 38 10 10,oD 39 140 37 38,oM 36 39,o 40 (.ext 0 (.t 36)),o 41 (.ext 1 (.t 36)),oS 4 4 40]))))))) (.reg [oM 15 7,oZ 16 15 1,oM 7 16]))))) (rg [oW 42 4 4,oS 4 6 42] .ret)))⟩
theorem Abm:F3 true Tryz.prog 281=some A1j:=by kernel_rfl
def Fx (l:List Cell):Int:=l.foldl (fun n c=>if c.time>n then c.time else n) 0
theorem Af7 {l:List Cell} {i:Nat} (hi:i<l.length):Fx (l.take (i+1))=if l[i].time>Fx (l.take i) then l[i].time else Fx (l.take i):=by
 unfold Fx;rw[Ak hi,Za4];rfl
theorem Qs {l:List Cell} (h:∀ c∈l,c.time<=10000):0<=Fx l/\Fx l<=10000:=by
 have key:∀(l:List Cell) (n:Int),0≤n/\n<=10000->(∀ c∈l,c.time<=10000)->0<=l.foldl (fun n c=>if c.time>n then c.time else n) n/\l.foldl (fun n c=>if c.time>n then c.time else n) n<=10000:=by
  intro l
  induction l with
  |nil=>intro n hn _;exact hn
  |cons x l ih=>
   intro n hn hx
   rw[Zbm]
   refine ih _ ?_ fun c hc=>hx c (Zat _ hc)
   have:=hx x Zaw
   split<;>omega
 exact key l 0 (by omega) h
theorem J6 (N:St) (cs:List GV) (s:State) (hR:A4.R N s cs) (hl:Ad s<=1099511627776):Ret Tryz.prog 277 [.agg cs] N (gi (Fx s.cells)) N:=by
 obtain⟨v0,v1,v2,v3,rfl,q0,q1,q2,q3⟩:=hR
 have hlc:s.cells.length<=1099511627776:=by unfold Ad at hl;omega
 refine Cb Ai7 (Z0z rfl) trivial ?_
 simp only[go_sem,A95]
 intro n1 f1 U1 H1
 refine Ax s.cells.length 4 0 (fun i env h=>env 1= .ptr n1 0/\env 3=gi (Fx (s.cells.take i))/\h=[.box 1 n1 [v0,v1,v2,v3]]) (fun env h=>env 3=gi (Fx s.cells)) (fun _ _=>False) _ H1 (rfl) ⟨rfl,by simp only[go_sem];rfl,rfl⟩ ?_ ?_ ?_ (fun _ _ _ _ h=>h.elim)
 ·clear H1
  rintro J Yq Wq hJ hY hW i env h' U hi ei c0 H ⟨e1,e3,rfl⟩
  have hl3:=q3.len
  have L:=Ab q3 hi
  obtain⟨q,hq⟩:∃ q,q=Fx (s.cells.take i):=⟨_,rfl⟩
  have hsn:=Af7 hi
  rw[<- hq] at e3 hsn
  cases hc:decide (q<s.cells[i].time) with
  |true=>
   rw[if_pos (of_decide_eq_true hc)] at hsn
   simp(disch:=omega) only[go_sem,c0,e1,e3,ei,A0,hl3,L,hc]
   exact hJ _ _ _ _ H ⟨e1,by simp only[go_sem,hsn],rfl⟩
  |false=>
   rw[if_neg (of_decide_eq_false hc)] at hsn
   simp(disch:=omega) only[go_sem,c0,e1,e3,ei,A0,hl3,L,hc]
   exact hJ _ _ _ _ H ⟨e1,by simp only[go_sem,e3,hsn],rfl⟩
 ·clear H1
  rintro Yq hY env h' U ei c0 H ⟨e1,e3,rfl⟩
  have hl3:=q3.len
  simp(disch:=omega) only[go_sem,c0,e1,ei,hl3]
  exact hY _ _ _ H (by simp only[go_sem,e3,Zab])
 ·rintro env h' U H e3
  simp only[go_sem,e3]
section
variable {N0 N:St} {h:List Item} {c v:GV} {bs:List Int}
theorem Hx.fst {x:Item} (H:Hx N0 N h) (i:Nat) (hi:h[i]? =some x):Hx N0 N (x::h.eraseIdx i):=by
 have H1:=H.hp.pick i (by rw[List.getElem?_map,hi];rfl:(h.map Item.t)[i]? =some x.t)
 rw[Aas] at H1
 exact H1
theorem Hx.era (H:Hx N0 N h) (i:Nat):Hx N0 N (h.eraseIdx i):=by
 cases hi:h[i]? with
 |none=>rw[List.eraseIdx_of_length_le (List.getElem?_eq_none_iff.1 hi)];exact H
 |some x=>exact(H.fst i hi).tl
inductive Grw (s0:State):State->Prop
 |nil:Grw s0 s0
 |act {s:State} (rep dt:Int) (e:Edit):Grw s0 s->0<=rep->rep<=2->0<=dt->dt<=1->EdD e->(E7 s rep (Fx s.cells+1+dt) e).2=0->Grw s0 (Bi s (E7 s rep (Fx s.cells+1+dt) e).1).1
theorem Grw.ok {s0 s:State} (h:Grw s0 s) (h0:OkS s0):OkS s:=by
 induction h with
 |nil=>exact h0
 |act rep dt e _ _ _ _ _ _ _ ih=>exact A2m _ ih
theorem A7b {cs:List GV} {s:State} (H:Hx N0 N (.th (own A4 cs s)::h)) (k:Nat) (hk:h[k]? =some (cuI c v bs)) (D:Dr N0 v bs) (hs:OkS s) (n:Nat) (hn:n<=1000):
  ∃(ds:List GV) (s':State) (U:St),Grw s s'/\Ret Tryz.prog 281 [c,.agg cs,gi n] N (.agg ds) U/\Hx N0 U (.th (own A4 ds s')::h):=by
 have hlen:cs.length=4:=A4.len (H.hp.rd 0 rfl)
 have key:∃ w U,Ret Tryz.prog 281 [c,.agg cs,gi n] N w U/\∃ ds s',w= .agg ds/\Grw s s'/\Hx N0 U (.th (own A4 ds s')::h):=by
  refine Bg Abm (Z0z rfl) H ?_
  simp only[go_sem,A1j]
  intro n4 f4 U4 H4 n6 f6 U6 H6
  have g4:=Av (h:=h) f4
  have g6:=Av (h:=h) f6.2
  have ne46:=f6.1
  clear H4 f4 f6
  refine Ax n 7 0 (fun i env hh=>env 0=c/\env 2=gi n/\env 4= .ptr n4 0/\env 6= .ptr n6 0/\∃ ds s',Grw s s'/\ds.length=4/\hh= .box 1 n6 z4::.box 1 n4 ds::.th (own A4 ds s')::h) (fun env hh=>env 4= .ptr n4 0/\env 6= .ptr n6 0/\∃ ds s',Grw s s'/\ds.length=4/\hh= .box 1 n6 z4::.box 1 n4 ds::.th (own A4 ds s')::h) (fun _ _=>False) _ H6 (rfl) ⟨rfl,rfl,rfl,rfl,cs,s,.nil,hlen,rfl⟩ ?_ ?_ ?_ (fun _ _ _ _ h=>h.elim)
  ·clear H6
   rintro J Yq Wq hJ hY hW i env h' U hi ei c0 H ⟨e0,e2,e4,e6,ds,s',hg,gl,rfl⟩
   have hok:=hg.ok hs
   have hms:=hok.ms
   have htm:=Qs fun c hc=>(hok.time c hc).2
   simp only[go_sem,c0,e0,e2,e4,e6,ei]
   obtain⟨rep,U1,hrep,R1,H1⟩:=Bn H (k+3) hk D 3 (by decide) (by decide)
   refine by_k R1 H1 ?_
   simp only[go_sem,e0,e2,e4,e6,ei]
   obtain⟨e,U2,he,R2,H2⟩:=Jq H1 (k+3) hk D
   refine by_k R2 H2 ?_
   simp +contextual (disch:=omega) only[go_sem,e0,e2,e4,e6,ei]
   intro n9 f9 U3 H3 U5 H5 n10 f10 U7 H7
   have g9:=Av (h:=h) f9.2.2
   have g10:=Av (h:=h) f10.2.2.2
   simp(disch:=omega) only[go_sem,e0,e2,e4,e6,ei,A6 gl]
   refine by_r H7 (J6 _ ds s' (H7.hp.rd 4 rfl) (by omega)) ?_
   obtain⟨tm,htm'⟩:∃ tm,tm=Fx s'.cells:=⟨_,rfl⟩
   rw[<- htm'] at htm ⊢
   simp(disch:=omega) only[go_sem,e0,e2,e4,e6,ei,A6 gl]
   obtain⟨dt,U8,hdt,R8,H8⟩:=Bn H7 (k+5) hk D 2 (by decide) (by decide)
   refine by_k R8 H8 ?_
   simp(disch:=omega) only[go_sem,e0,e2,e4,e6,ei,A6 gl,Eu]
   have hsz:=he.size
   have hkn:=Pz s'
   obtain⟨as',U9,R9,K9⟩:=O0 U8 ds s' (H8.hp.rd 4 rfl) rep (tm+1+dt) e (by omega) (by omega) (by omega) (by have:=he.place;omega) (by omega)
   have al:as'.length=10:=kAct.len (K9.rd 0 rfl)
   refine by_c H8 R9 K9 fun H9=> ?_
   have hma:=Abf s' rep (tm+1+dt) e
   have hstep:(E7 s' rep (tm+1+dt) e).2=0->Grw s (Bi s' (E7 s' rep (tm+1+dt) e).1).1:=fun hz=>by
    rw[htm'] at hz ⊢
    exact .act rep dt e hg (by omega) (by omega) (by omega) (by omega) he hz
   generalize E7 s' rep (tm+1+dt) e=A at*
   cases hz:(A.2==0) with
   |false=>
    simp(disch:=omega) only[go_sem,e0,e2,e4,e6,ei,A6 gl,A5 (cs:=zeV) al rfl,al,hz]
    intro U11 H11
    have HA:=(((H11.era 0).era 0).era 0)
    exact hJ _ _ _ _ HA ⟨e0,e2,e4,e6,ds,s',hg,gl,rfl⟩
   |true=>
    simp(disch:=omega) only[go_sem,e0,e2,e4,e6,ei,A6 gl,A5 (cs:=zeV) al rfl,al,hz,A6 al]
    intro U11 H11
    obtain⟨ds2,U12,R12,K12⟩:=Gt U11 ds s' (H11.hp.rd 5 rfl) as' A.1 (H11.hp.rd 0 rfl) (by omega) (by omega)
    have gl2:ds2.length=4:=A4.len (K12.rd 0 rfl)
    refine by_c H11 R12 K12 fun H12=> ?_
    simp(disch:=omega) only[go_sem,e0,e2,e4,e6,ei,A5 (cs:=ds) gl2 gl,gl2,gl,hz]
    intro U13 H13
    have HA:=((((H13.era 6).era 3).era 2).era 1)
    have HB:=(HA.fst 2 rfl).fst 2 rfl
    exact hJ _ _ _ _ HB ⟨e0,e2,e4,e6,ds2,_,hstep (by simpa using hz),gl2,rfl⟩
  ·clear H6
   rintro Yq hY env h' U ei c0 H ⟨e0,e2,e4,e6,ds,s',hg,gl,rfl⟩
   simp only[go_sem,c0,e2,ei]
   exact hY _ _ _ H ⟨e4,e6,ds,s',hg,gl,rfl⟩
  ·rintro env h' U H ⟨e4,e6,ds,s',hg,gl,rfl⟩
   simp +contextual (disch:=omega) only[go_sem,e4,e6,A6 gl,A5 (cs:=z4) gl rfl,gl]
   intro U1 H1
   exact⟨_,rfl,ds,s',rfl,hg,(H1.era 1).era 0⟩
 obtain⟨w,U,R,ds,s',rfl,hg,H'⟩:=key
 exact⟨ds,s',U,hg,R,H'⟩
theorem Abn {Y:Type} {f:Y->Nat} (l:List Y) (y:Y):sumL f (l++[y])=sumL f l+f y:=by simp[sumL]
end
def Ast:Act:=⟨⟨0,0⟩,0,[],0,⟨#[]⟩,⟨#[]⟩,0,⟨0,0⟩⟩
abbrev zeA:List GV:=[gi 0,gi 0,gi 0,.nilS,gi 0,.str ⟨#[]⟩,.str ⟨#[]⟩,gi 0,gi 0,gi 0]
abbrev zeD:List GV:=[.nilS,.nilS,.nilS,.nilS,.nilS,.nilS]
theorem Apv (U:St):kAct.O U Ast zeA []:=⟨.nilS,[],rfl,.inl ⟨rfl,rfl,rfl⟩,rfl⟩
theorem Al8 (U:St):Aw.O U ⟨[],[],[],[],[],[]⟩ zeD []:=⟨.nilS,.nilS,.nilS,.nilS,.nilS,.nilS,[],[],[],[],[],[],rfl,.inl ⟨rfl,rfl,rfl⟩,.inl ⟨rfl,rfl,rfl⟩,.inl ⟨rfl,rfl,rfl⟩,.inl ⟨rfl,rfl,rfl⟩,.inl ⟨rfl,rfl,rfl⟩,.inl ⟨rfl,rfl,rfl⟩,rfl⟩
def A1l:Fn1:=⟨44,[.t 2],(rg [oX 1 0,oV 2 kf] (rg [oF 3 0 1,oW 4 2 3,o 5 (.build [z0,z0] []),o 6 (.eqs false [.i .i64,.i .i64] (.t 4) (.t 5)),oM 7 6,jF 8 7 2 1,jL 9 7 8,jE 10 7 .eql 9 0,oQ 11 7 10,oM 12 11,jF 13 12 3 1,jL 14 12 13,og 15 12 true (.len false (.t 14)),jE 16 12 .eql 15 0,oQ 17 12 16,oM 18 17,jF 19 18 4 1,jL 20 18 19,jE 21 18 .eql 20 0,oQ 22 18 21,oM 23 22,jF 24 23 5 1,jL 25 23 24,og 26 23 true (.bin .eql (.t 25) (.k s0)),oQ 27 23 26,oM 28 27,jF 29 28 6 1,jL 30 28 29,og 31 28 true (.bin .eql (.t 30) (.k s0)),oQ 32 28 31,oM 33 32,jF 34 33 7 1,jL 35 33 34,jE 36 33 .eql 35 0,oQ 37 33 36,oM 38 37,jF 39 38 8 1,jW 40 38 2 39,og 41 38 true (.build [z0,z0] []),og 42 38 true (.eqs false [.i .i64,.i .i64] (.t 40) (.t 41)),oQ 43 38 42,oM 2 43] .ret))⟩
theorem Abo:A8 Tryz.prog 220=some A1l:=by kernel_rfl
def Rw:Fn1:=⟨37,[.t 2],(rg [oX 1 0,oV 2 kf] (rg [oF 3 0 1,oL 4 3,oN 5 4,oE 6 .eql 5 0,oM 7 6,jF 8 7 1 1,jL 9 7 8,og 10 7 true (.len false (.t 9)),jE 11 7 .eql 10 0,oQ 12 7 11,oM 13 12,jF 14 13 2 1,jL 15 13 14,og 16 13 true (.len false (.t 15)),jE 17 13 .eql 16 0,oQ 18 13 17,oM 19 18,jF 20 19 3 1,jL 21 19 20,og 22 19 true (.len false (.t 21)),jE 23 19 .eql 22 0,oQ 24 19 23,oM 25 24,jF 26 25 4 1,jL 27 25 26,og 28 25 true (.len false (.t 27)),jE 29 25 .eql 28 0,oQ 30 25 29,oM 31 30,jF 32 31 5 1,jL 33 31 32,og 34 31 true (.len false (.t 33)),jE 35 31 .eql 34 0,oQ 36 31 35,oM 2 36] .ret))⟩
theorem A5j:A8 Tryz.prog 221=some Rw:=by kernel_rfl
def A5l:Fn1:=⟨59,[.t 4],(rg [oX 2 0,oX 3 1,oV 4 kf] (rg [oF 5 0 2,oW 6 2 5,oF 7 0 3,oW 8 2 7,o 9 (.eqs false [.i .i64,.i .i64] (.t 6) (.t 8)),oM 10 9,jF 11 10 2 2,jL 12 10 11,jF 13 10 2 3,jL 14 10 13,jB 15 10 .eql 12 14,oQ 16 10 15,oM 17 16,jF 18 17 3 2,jL 19 17 18,jF 20 17 3 3,jL 21 17 20,jD 22 17 156 19 21,oQ 23 17 22,oM 24 23,jF 25 24 4 2,jL 26 24 25,jF 27 24 4 3,jL 28 24 27,jB 29 24 .eql 26 28,oQ 30 24 29,oM 31 30,jF 32 31 5 2,jL 33 31 32,jF 34 31 5 3,jL 35 31 34,jB 36 31 .eql 33 35,oQ 37 31 36,oM 38 37,jF 39 38 6 2,jL 40 38 39,jF 41 38 6 3,jL 42 38 41,jB 43 38 .eql 40 42,oQ 44 38 43,oM 45 44,jF 46 45 7 2,jL 47 45 46,jF 48 45 7 3,jL 49 45 48,jB 50 45 .eql 47 49,oQ 51 45 50,oM 52 51,jF 53 52 8 2,jW 54 52 2 53,jF 55 52 8 3,jW 56 52 2 55,og 57 52 true (.eqs false [.i .i64,.i .i64] (.t 54) (.t 56)),oQ 58 52 57,oM 4 58] .ret))⟩
theorem Af8:A8 Tryz.prog 226=some A5l:=by kernel_rfl
def X5:Fn1:=⟨45,[.t 4],(rg [oX 2 0,oX 3 1,oV 4 kf] (rg [oF 5 0 2,oL 6 5,oF 7 0 3,oL 8 7,oD 9 156 6 8,oM 10 9,jF 11 10 1 2,jL 12 10 11,jF 13 10 1 3,jL 14 10 13,jD 15 10 156 12 14,oQ 16 10 15,oM 17 16,jF 18 17 2 2,jL 19 17 18,jF 20 17 2 3,jL 21 17 20,jD 22 17 307 19 21,oQ 23 17 22,oM 24 23,jF 25 24 3 2,jL 26 24 25,jF 27 24 3 3,jL 28 24 27,jD 29 24 308 26 28,oQ 30 24 29,oM 31 30,jF 32 31 4 2,jL 33 31 32,jF 34 31 4 3,jL 35 31 34,jD 36 31 309 33 35,oQ 37 31 36,oM 38 37,jF 39 38 5 2,jL 40 38 39,jF 41 38 5 3,jL 42 38 41,jD 43 38 310 40 42,oQ 44 38 43,oM 4 44] .ret))⟩
theorem A7c:A8 Tryz.prog 227=some X5:=by kernel_rfl
def T7:Fn1:=⟨21,[.t 2],(rg [oX 1 0,oV 2 kf] (.seq (rg [oF 3 0 1,oL 4 3] (oG 4 (rg [oF 5 11 1,oW 6 6 5,oC 7 219 6,oM 8 7,jF 9 8 1 1,jW 10 8 10 9,jC 11 8 220 10,oQ 12 8 11,oM 2 12] .ret))) (rg [oF 13 1 1,oW 14 10 13,oC 15 185 14,oM 16 15,jF 17 16 11 1,jW 18 16 6 17,jC 19 16 221 18,oQ 20 16 19,oM 2 20] .ret)))⟩
theorem Af9:A8 Tryz.prog 97=some T7:=by kernel_rfl
def Zr:Fn1:=⟨23,[.t 2],(rg [oX 1 0,oV 2 kf] (.seq (rg [oF 3 0 1,oL 4 3] (oG 4 (rg [oF 5 11 1,oW 6 6 5,oC 7 225 6,oM 8 7,jF 9 8 1 1,jW 10 8 10 9,og 11 8 true (.build [z0,z0,z0,.nilS,z0,s0,s0,z0,z0,z0] []),jD 12 8 226 10 11,oQ 13 8 12,oM 2 13] .ret))) (rg [oF 14 1 1,oW 15 10 14,oC 16 169 15,oM 17 16,jF 18 17 11 1,jW 19 17 6 18,og 20 17 true (.build [.nilS,.nilS,.nilS,.nilS,.nilS,.nilS] []),jD 21 17 227 19 20,oQ 22 17 21,oM 2 22] .ret)))⟩
theorem Ai8:A8 Tryz.prog 101=some Zr:=by kernel_rfl
def Bo:Fn1:=⟨26,[.t 4],(rg [oV 4 kf] (.seq (rg [oM 6 0,oN 7 6,oM 8 1,oN 9 8,oB 10 .neq 7 9] (oG 10 (oR 4 kf))) (.seq (rg [oM 11 0,oN 12 11,oV 13 (ki 0)] (oH 0 (rg [oB 14 .lss 13 12] (.seq (oJ 14 0) (.seq (.blk 1 (rg [oM 15 13,oM 5 15] (dw [oM 16 0,oM 17 5,oI 18 3 16 17,oW 19 3 18,oM 20 1,oM 21 5,oI 22 3 20 21,oW 23 3 22] [o 24 (.eqs true [.s,.i .i64,.i .i64] (.t 19) (.t 23))] (oG 24 (oR 4 kf))))) (.reg [oZ 25 13 1,oM 13 25])))))) (oR 4 kt))))⟩
theorem Gc:A8 Tryz.prog 307=some Bo:=by kernel_rfl
def C3:Fn1:=⟨26,[.t 4],(rg [oV 4 kf] (.seq (rg [oM 6 0,oN 7 6,oM 8 1,oN 9 8,oB 10 .neq 7 9] (oG 10 (oR 4 kf))) (.seq (rg [oM 11 0,oN 12 11,oV 13 (ki 0)] (oH 0 (rg [oB 14 .lss 13 12] (.seq (oJ 14 0) (.seq (.blk 1 (rg [oM 15 13,oM 5 15] (dw [oM 16 0,oM 17 5,oI 18 6 16 17,oW 19 6 18,oM 20 1,oM 21 5,oI 22 6 20 21,oW 23 6 22] [o 24 (.eqs true [.b,.s,.s,.i .i64,.i .i64,.i .i64] (.t 19) (.t 23))] (oG 24 (oR 4 kf))))) (.reg [oZ 25 13 1,oM 13 25])))))) (oR 4 kt))))⟩
theorem Gy:A8 Tryz.prog 308=some C3:=by kernel_rfl
def Cc:Fn1:=⟨26,[.t 4],(rg [oV 4 kf] (.seq (rg [oM 6 0,oN 7 6,oM 8 1,oN 9 8,oB 10 .neq 7 9] (oG 10 (oR 4 kf))) (.seq (rg [oM 11 0,oN 12 11,oV 13 (ki 0)] (oH 0 (rg [oB 14 .lss 13 12] (.seq (oJ 14 0) (.seq (.blk 1 (rg [oM 15 13,oM 5 15] (dw [oM 16 0,oM 17 5,oI 18 2 16 17,oW 19 2 18,oM 20 1,oM 21 5,oI 22 2 20 21,oW 23 2 22] [o 24 (.eqs true [.i .i64,.i .i64] (.t 19) (.t 23))] (oG 24 (oR 4 kf))))) (.reg [oZ 25 13 1,oM 13 25])))))) (oR 4 kt))))⟩
theorem I9:A8 Tryz.prog 309=some Cc:=by kernel_rfl
def C4:Fn1:=⟨26,[.t 4],(rg [oV 4 kf] (.seq (rg [oM 6 0,oN 7 6,oM 8 1,oN 9 8,oB 10 .neq 7 9] (oG 10 (oR 4 kf))) (.seq (rg [oM 11 0,oN 12 11,oV 13 (ki 0)] (oH 0 (rg [oB 14 .lss 13 12] (.seq (oJ 14 0) (.seq (.blk 1 (rg [oM 15 13,oM 5 15] (dw [oM 16 0,oM 17 5,oI 18 8 16 17,oW 19 8 18,oM 20 1,oM 21 5,oI 22 8 20 21,oW 23 8 22] [o 24 (.eqs true [.s,.i .i64,.i .i64,.i .i64,.i .i64,.i .i64,.i .i64,.b] (.t 19) (.t 23))] (oG 24 (oR 4 kf))))) (.reg [oZ 25 13 1,oM 13 25])))))) (oR 4 kt))))⟩
theorem Gz:A8 Tryz.prog 310=some C4:=by kernel_rfl
theorem Oz (N:St) (v u:GV) (l m:List Tally) (hv:RS Ah.kd N v l) (hu:RS Ah.kd N u m) (hl:l.length<=1099511627776):Ret Tryz.prog 307 [v,u] N (.bool (decide (l=m))) N:=by
 refine Cb Gc (Z0z rfl) trivial ?_
 by_cases hlm:l.length=m.length
 rotate_left
 ·have b:((l.length:Int) != (m.length:Int))=true:=by simp;omega
  have d:decide (l=m)=false:=decide_eq_false fun h=>hlm (by rw[h])
  simp only[go_sem,Bo,hv.len,hu.len,b,d]
  try exact fun _=>rfl
 have b:((l.length:Int) != (m.length:Int))=false:=by simp;omega
 simp only[go_sem,Bo,hv.len,hu.len,b]
 refine Ax l.length 13 0 (fun i env h=>env 0=v/\env 1=u/\env 12=gi l.length/\l.take i=m.take i/\h=[]) (fun env h=>l=m) (fun env h=>env 4= .bool false/\l≠m) _ (Hx.refl N) (rfl) ⟨rfl,rfl,rfl,rfl,rfl⟩ ?_ ?_ ?_ ?_
 ·rintro J Yq Wq hJ hY hW i env h' U hi ei c0 H ⟨e0,e1,e12,he,rfl⟩
  have hj:i<m.length:=by omega
  have L1:=Ae hv hi
  have L2:=Ae hu hj
  by_cases hx:l[i]=m[i]
  ·have b:decide (l[i]=m[i])=true:=decide_eq_true hx
   simp(disch:=omega) only[go_sem,c0,e0,e1,e12,ei,A0,L1,L2,b]
   exact hJ _ _ _ _ H ⟨e0,e1,e12,by rw[Ak hi,Ak hj,he,hx],rfl⟩
  ·have b:decide (l[i]=m[i])=false:=decide_eq_false hx
   simp only[go_sem,c0,e0,e1,e12,ei,A0,L1,L2,b]
   exact hW _ _ _ H ⟨rfl,fun h=>hx (by subst h;rfl)⟩
 ·rintro Yq hY env h' U ei c0 H ⟨e0,e1,e12,he,rfl⟩
  simp only[go_sem,c0,e12,ei]
  rw[Zab,hlm,Zab] at he
  exact hY _ _ _ H he
 ·rintro env h' U H hx
  simp only[go_sem,hx,decide_true]
 ·rintro env h' U H ⟨e4,hx⟩
  simp only[go_sem,e4,hx,decide_false]
theorem Q3 (N:St) (v u:GV) (l m:List Live) (hv:RS Ap.kd N v l) (hu:RS Ap.kd N u m) (hl:l.length<=1099511627776):Ret Tryz.prog 308 [v,u] N (.bool (decide (l=m))) N:=by
 refine Cb Gy (Z0z rfl) trivial ?_
 by_cases hlm:l.length=m.length
 rotate_left
 ·have b:((l.length:Int) != (m.length:Int))=true:=by simp;omega
  have d:decide (l=m)=false:=decide_eq_false fun h=>hlm (by rw[h])
  simp only[go_sem,C3,hv.len,hu.len,b,d]
  try exact fun _=>rfl
 have b:((l.length:Int) != (m.length:Int))=false:=by simp;omega
 simp only[go_sem,C3,hv.len,hu.len,b]
 refine Ax l.length 13 0 (fun i env h=>env 0=v/\env 1=u/\env 12=gi l.length/\l.take i=m.take i/\h=[]) (fun env h=>l=m) (fun env h=>env 4= .bool false/\l≠m) _ (Hx.refl N) (rfl) ⟨rfl,rfl,rfl,rfl,rfl⟩ ?_ ?_ ?_ ?_
 ·rintro J Yq Wq hJ hY hW i env h' U hi ei c0 H ⟨e0,e1,e12,he,rfl⟩
  have hj:i<m.length:=by omega
  have L1:=Aa hv hi
  have L2:=Aa hu hj
  by_cases hx:l[i]=m[i]
  ·have b:decide (l[i]=m[i])=true:=decide_eq_true hx
   simp(disch:=omega) only[go_sem,c0,e0,e1,e12,ei,A0,L1,L2,b]
   exact hJ _ _ _ _ H ⟨e0,e1,e12,by rw[Ak hi,Ak hj,he,hx],rfl⟩
  ·have b:decide (l[i]=m[i])=false:=decide_eq_false hx
   simp only[go_sem,c0,e0,e1,e12,ei,A0,L1,L2,b]
   exact hW _ _ _ H ⟨rfl,fun h=>hx (by subst h;rfl)⟩
 ·rintro Yq hY env h' U ei c0 H ⟨e0,e1,e12,he,rfl⟩
  simp only[go_sem,c0,e12,ei]
  rw[Zab,hlm,Zab] at he
  exact hY _ _ _ H he
 ·rintro env h' U H hx
  simp only[go_sem,hx,decide_true]
 ·rintro env h' U H ⟨e4,hx⟩
  simp only[go_sem,e4,hx,decide_false]
theorem Ra (N:St) (v u:GV) (l m:List Dot) (hv:RS pDot.kd N v l) (hu:RS pDot.kd N u m) (hl:l.length<=1099511627776):Ret Tryz.prog 309 [v,u] N (.bool (decide (l=m))) N:=by
 refine Cb I9 (Z0z rfl) trivial ?_
 by_cases hlm:l.length=m.length
 rotate_left
 ·have b:((l.length:Int) != (m.length:Int))=true:=by simp;omega
  have d:decide (l=m)=false:=decide_eq_false fun h=>hlm (by rw[h])
  simp only[go_sem,Cc,hv.len,hu.len,b,d]
  try exact fun _=>rfl
 have b:((l.length:Int) != (m.length:Int))=false:=by simp;omega
 simp only[go_sem,Cc,hv.len,hu.len,b]
 refine Ax l.length 13 0 (fun i env h=>env 0=v/\env 1=u/\env 12=gi l.length/\l.take i=m.take i/\h=[]) (fun env h=>l=m) (fun env h=>env 4= .bool false/\l≠m) _ (Hx.refl N) (rfl) ⟨rfl,rfl,rfl,rfl,rfl⟩ ?_ ?_ ?_ ?_
 ·rintro J Yq Wq hJ hY hW i env h' U hi ei c0 H ⟨e0,e1,e12,he,rfl⟩
  have hj:i<m.length:=by omega
  have L1:=P8 hv hi
  have L2:=P8 hu hj
  by_cases hx:l[i]=m[i]
  ·have b:decide (l[i]=m[i])=true:=decide_eq_true hx
   simp(disch:=omega) only[go_sem,c0,e0,e1,e12,ei,A0,L1,L2,b]
   exact hJ _ _ _ _ H ⟨e0,e1,e12,by rw[Ak hi,Ak hj,he,hx],rfl⟩
  ·have b:decide (l[i]=m[i])=false:=decide_eq_false hx
   simp only[go_sem,c0,e0,e1,e12,ei,A0,L1,L2,b]
   exact hW _ _ _ H ⟨rfl,fun h=>hx (by subst h;rfl)⟩
 ·rintro Yq hY env h' U ei c0 H ⟨e0,e1,e12,he,rfl⟩
  simp only[go_sem,c0,e12,ei]
  rw[Zab,hlm,Zab] at he
  exact hY _ _ _ H he
 ·rintro env h' U H hx
  simp only[go_sem,hx,decide_true]
 ·rintro env h' U H ⟨e4,hx⟩
  simp only[go_sem,e4,hx,decide_false]
theorem Q4 (N:St) (v u:GV) (l m:List Cell) (hv:RS Ai.kd N v l) (hu:RS Ai.kd N u m) (hl:l.length<=1099511627776):Ret Tryz.prog 310 [v,u] N (.bool (decide (l=m))) N:=by
 refine Cb Gz (Z0z rfl) trivial ?_
 by_cases hlm:l.length=m.length
 rotate_left
 ·have b:((l.length:Int) != (m.length:Int))=true:=by simp;omega
  have d:decide (l=m)=false:=decide_eq_false fun h=>hlm (by rw[h])
  simp only[go_sem,C4,hv.len,hu.len,b,d]
  try exact fun _=>rfl
 have b:((l.length:Int) != (m.length:Int))=false:=by simp;omega
 simp only[go_sem,C4,hv.len,hu.len,b]
 refine Ax l.length 13 0 (fun i env h=>env 0=v/\env 1=u/\env 12=gi l.length/\l.take i=m.take i/\h=[]) (fun env h=>l=m) (fun env h=>env 4= .bool false/\l≠m) _ (Hx.refl N) (rfl) ⟨rfl,rfl,rfl,rfl,rfl⟩ ?_ ?_ ?_ ?_
 ·rintro J Yq Wq hJ hY hW i env h' U hi ei c0 H ⟨e0,e1,e12,he,rfl⟩
  have hj:i<m.length:=by omega
  have L1:=Ab hv hi
  have L2:=Ab hu hj
  by_cases hx:l[i]=m[i]
  ·have b:decide (l[i]=m[i])=true:=decide_eq_true hx
   simp(disch:=omega) only[go_sem,c0,e0,e1,e12,ei,A0,L1,L2,b]
   exact hJ _ _ _ _ H ⟨e0,e1,e12,by rw[Ak hi,Ak hj,he,hx],rfl⟩
  ·have b:decide (l[i]=m[i])=false:=decide_eq_false hx
   simp only[go_sem,c0,e0,e1,e12,ei,A0,L1,L2,b]
   exact hW _ _ _ H ⟨rfl,fun h=>hx (by subst h;rfl)⟩
 ·rintro Yq hY env h' U ei c0 H ⟨e0,e1,e12,he,rfl⟩
  simp only[go_sem,c0,e12,ei]
  rw[Zab,hlm,Zab] at he
  exact hY _ _ _ H he
 ·rintro env h' U H hx
  simp only[go_sem,hx,decide_true]
 ·rintro env h' U H ⟨e4,hx⟩
  simp only[go_sem,e4,hx,decide_false]
def Zs (a b:Act):Bool:=decide (a.dot=b.dot)&&(a.time==b.time&&(decide (a.knew=b.knew)&&(a.kind==b.kind&&(decide (a.obj=b.obj)&&(decide (a.key=b.key)&&(a.val==b.val&&decide (a.ref=b.ref)))))))
def Afa (a:Act):Bool:=decide (a.dot=⟨0,0⟩)&&(a.time==0&&(a.knew.isEmpty&&(a.kind==0&&(decide (a.obj=⟨#[]⟩)&&(decide (a.key=⟨#[]⟩)&&(a.val==0&&decide (a.ref=⟨0,0⟩)))))))
abbrev delta0:Delta:=⟨[],[],[],[],[],[]⟩
def O9 (d:Delta):Bool:=d.base.isEmpty&&(d.know.isEmpty&&(d.tallies.isEmpty&&(d.lives.isEmpty&&(d.dead.isEmpty&&d.cells.isEmpty))))
def X7 (a b:Delta):Bool:=decide (a.base=b.base)&&(decide (a.know=b.know)&&(decide (a.tallies=b.tallies)&&(decide (a.lives=b.lives)&&(decide (a.dead=b.dead)&&decide (a.cells=b.cells)))))
def Fy (u:Unit_):Bool:=if u.batch then Bt u.delta&&Afa u.act else Dj u.act&&O9 u.delta
theorem len0 {Y:Type} (l:List Y):((l.length:Int)==0)=l.isEmpty:=by cases l<;>simp;omega
theorem isE {Y:Type} (l:List Y) {i:Decidable (l=[])}: @decide (l=[]) i=l.isEmpty:=by cases l<;>simp
theorem Al9 (d:Delta):X7 d delta0=O9 d:=by
 simp only[O9,delta0,X7,isE]
theorem A26 (N:St) (cs:List GV) (d:Delta) (hR:Aw.R N d cs):Ret Tryz.prog 221 [.agg cs] N (.bool (O9 d)) N:=by
 obtain⟨v0,v1,v2,v3,v4,v5,rfl,q0,q1,q2,q3,q4,q5⟩:=hR
 refine Cb A5j (Z0z rfl) trivial ?_
 unfold O9
 simp +contextual only[go_sem,Rw]
 intro n f U H
 simp only[go_sem,q0.len,q1.len,q2.len,q3.len,q4.len,q5.len,len0]
 cases h0:d.base.isEmpty with
 |false=>
  simp only[go_sem,Zac,q0.len,q1.len,q2.len,q3.len,q4.len,q5.len,len0]
  try exact fun _=>rfl
 |true=>
  simp(disch:=omega) only[go_sem,Zad,q0.len,q1.len,q2.len,q3.len,q4.len,q5.len,len0]
  cases h1:d.know.isEmpty with
  |false=>
   simp only[go_sem,Zac,q0.len,q1.len,q2.len,q3.len,q4.len,q5.len,len0]
   try exact fun _=>rfl
  |true=>
   simp(disch:=omega) only[go_sem,Zad,q0.len,q1.len,q2.len,q3.len,q4.len,q5.len,len0]
   cases h2:d.tallies.isEmpty with
   |false=>
    simp only[go_sem,Zac,q0.len,q1.len,q2.len,q3.len,q4.len,q5.len,len0]
    try exact fun _=>rfl
   |true=>
    simp(disch:=omega) only[go_sem,Zad,q0.len,q1.len,q2.len,q3.len,q4.len,q5.len,len0]
    cases h3:d.lives.isEmpty with
    |false=>
     simp only[go_sem,Zac,q0.len,q1.len,q2.len,q3.len,q4.len,q5.len,len0]
     try exact fun _=>rfl
    |true=>
     simp(disch:=omega) only[go_sem,Zad,q0.len,q1.len,q2.len,q3.len,q4.len,q5.len,len0]
     cases h4:d.dead.isEmpty with
     |false=>
      simp only[go_sem,Zac,q0.len,q1.len,q2.len,q3.len,q4.len,q5.len,len0]
      try exact fun _=>rfl
     |true=>
      simp(disch:=omega) only[go_sem,Zad,q0.len,q1.len,q2.len,q3.len,q4.len,q5.len,len0]
theorem A5n (N:St) (cs ds:List GV) (d e:Delta) (hR:Aw.R N d cs) (hS:Aw.R N e ds) (hl:Au d<=1099511627776):Ret Tryz.prog 227 [.agg cs,.agg ds] N (.bool (X7 d e)) N:=by
 obtain⟨v0,v1,v2,v3,v4,v5,rfl,q0,q1,q2,q3,q4,q5⟩:=hR
 obtain⟨u0,u1,u2,u3,u4,u5,rfl,p0,p1,p2,p3,p4,p5⟩:=hS
 obtain⟨l0,l1,l2,l3,l4,l5,t2,t3,t5⟩:=Fs hl
 refine Cb A7c (Z0z rfl) trivial ?_
 unfold X7
 simp +contextual (disch:=omega) only[go_sem,X5]
 intro n f U0 _ m g U H
 have S:=H.sub
 refine by_b H (Ep _ v0 u0 _ _ (q0.pre S) (p0.pre S) l0) (fun h0=> ?_) (fun h0=> ?_)
 rotate_left
 ·simp only[go_sem,h0,Zac]
  try exact fun _=>rfl
 simp(disch:=omega) only[go_sem,h0,Zad]
 refine by_b H (Ep _ v1 u1 _ _ (q1.pre S) (p1.pre S) l1) (fun h1=> ?_) (fun h1=> ?_)
 rotate_left
 ·simp only[go_sem,h1,Zac]
  try exact fun _=>rfl
 simp(disch:=omega) only[go_sem,h1,Zad]
 refine by_b H (Oz _ v2 u2 _ _ (q2.pre S) (p2.pre S) l2) (fun h2=> ?_) (fun h2=> ?_)
 rotate_left
 ·simp only[go_sem,h2,Zac]
  try exact fun _=>rfl
 simp(disch:=omega) only[go_sem,h2,Zad]
 refine by_b H (Q3 _ v3 u3 _ _ (q3.pre S) (p3.pre S) l3) (fun h3=> ?_) (fun h3=> ?_)
 rotate_left
 ·simp only[go_sem,h3,Zac]
  try exact fun _=>rfl
 simp(disch:=omega) only[go_sem,h3,Zad]
 refine by_b H (Ra _ v4 u4 _ _ (q4.pre S) (p4.pre S) l4) (fun h4=> ?_) (fun h4=> ?_)
 rotate_left
 ·simp only[go_sem,h4,Zac]
  try exact fun _=>rfl
 simp(disch:=omega) only[go_sem,h4,Zad]
 refine by_r H (Q4 _ v5 u5 _ _ (q5.pre S) (p5.pre S) l5) ?_
 simp only[go_sem]
theorem Apw (a:Act):Zs a Ast=Afa a:=by
 show(decide (a.dot=⟨0,0⟩)&&(a.time==0&&(decide (a.knew=[])&&(a.kind==0&&(decide (a.obj=⟨#[]⟩)&&(decide (a.key=⟨#[]⟩)&&(a.val==0&&decide (a.ref=⟨0,0⟩))))))))=_
 simp only[isE,Afa]
theorem A7d (N:St) (cs:List GV) (a:Act) (hR:kAct.R N a cs):Ret Tryz.prog 220 [.agg cs] N (.bool (Afa a)) N:=by
 obtain⟨v,rfl,q⟩:=hR
 refine Cb Abo (Z0z rfl) trivial ?_
 unfold Afa
 simp +contextual only[go_sem,A1l]
 intro n f U H
 cases h0:decide (a.dot=⟨0,0⟩) with
 |false=>
  simp only[go_sem,Zac,q.len,len0]
  try exact fun _=>rfl
 |true=>
  simp(disch:=omega) only[go_sem,Zad,q.len,len0]
  cases h1:a.time==0 with
  |false=>
   simp only[go_sem,Zac,q.len,len0]
   try exact fun _=>rfl
  |true=>
   simp(disch:=omega) only[go_sem,Zad,q.len,len0]
   cases h2:a.knew.isEmpty with
   |false=>
    simp only[go_sem,Zac,q.len,len0]
    try exact fun _=>rfl
   |true=>
    simp(disch:=omega) only[go_sem,Zad,q.len,len0]
    cases h3:a.kind==0 with
    |false=>
     simp only[go_sem,Zac,q.len,len0]
     try exact fun _=>rfl
    |true=>
     simp(disch:=omega) only[go_sem,Zad,q.len,len0]
     cases h4:decide (a.obj=⟨#[]⟩) with
     |false=>
      simp only[go_sem,Zac,q.len,len0]
      try exact fun _=>rfl
     |true=>
      simp(disch:=omega) only[go_sem,Zad,q.len,len0]
      cases h5:decide (a.key=⟨#[]⟩) with
      |false=>
       simp only[go_sem,Zac,q.len,len0]
       try exact fun _=>rfl
      |true=>
       simp(disch:=omega) only[go_sem,Zad,q.len,len0]
       cases h6:a.val==0 with
       |false=>
        simp only[go_sem,Zac,q.len,len0]
        try exact fun _=>rfl
       |true=>
        simp(disch:=omega) only[go_sem,Zad,q.len,len0]
theorem Abp (N:St) (cs ds:List GV) (a b:Act) (hR:kAct.R N a cs) (hS:kAct.R N b ds) (hl:a.knew.length<=1099511627776):Ret Tryz.prog 226 [.agg cs,.agg ds] N (.bool (Zs a b)) N:=by
 obtain⟨v,rfl,q⟩:=hR
 obtain⟨u,rfl,p⟩:=hS
 refine Cb Af8 (Z0z rfl) trivial ?_
 unfold Zs
 simp +contextual (disch:=omega) only[go_sem,A5l]
 intro n f U0 _ m g U H
 have S:=H.sub
 cases h0:decide (a.dot=b.dot) with
 |false=>
  simp only[go_sem,Zac]
  try exact fun _=>rfl
 |true=>
  simp(disch:=omega) only[go_sem,Zad]
  cases h1:a.time==b.time with
  |false=>
   simp only[go_sem,Zac]
   try exact fun _=>rfl
  |true=>
   simp(disch:=omega) only[go_sem,Zad]
   refine by_b H (Ep _ v u _ _ (q.pre S) (p.pre S) hl) (fun k1=> ?_) (fun k1=> ?_)
   rotate_left
   ·simp only[go_sem,k1,Zac]
    try exact fun _=>rfl
   simp(disch:=omega) only[go_sem,k1,Zad]
   cases h0:a.kind==b.kind with
   |false=>
    simp only[go_sem,Zac]
    try exact fun _=>rfl
   |true=>
    simp(disch:=omega) only[go_sem,Zad]
    cases h1:decide (a.obj=b.obj) with
    |false=>
     simp only[go_sem,Zac]
     try exact fun _=>rfl
    |true=>
     simp(disch:=omega) only[go_sem,Zad]
     cases h2:decide (a.key=b.key) with
     |false=>
      simp only[go_sem,Zac]
      try exact fun _=>rfl
     |true=>
      simp(disch:=omega) only[go_sem,Zad]
      cases h3:a.val==b.val with
      |false=>
       simp only[go_sem,Zac]
       try exact fun _=>rfl
      |true=>
       simp(disch:=omega) only[go_sem,Zad]
abbrev unV (x:Unit_) (kv d0 d1 d2 d3 d4 d5:GV):List GV:=[.bool x.batch,.int .i64 x.act.dot.rep,.int .i64 x.act.dot.seq,.int .i64 x.act.time,kv,.int .i64 x.act.kind,.str x.act.obj,.str x.act.key,.int .i64 x.act.val,.int .i64 x.act.ref.rep,.int .i64 x.act.ref.seq,d0,d1,d2,d3,d4,d5]
theorem Er {N:St} {x:Unit_} {cs:List GV} (h:A9.R N x cs):∃ kv d0 d1 d2 d3 d4 d5,cs=unV x kv d0 d1 d2 d3 d4 d5/\kAct.R N x.act (actV x.act kv)/\Aw.R N x.delta [d0,d1,d2,d3,d4,d5]:=by
 obtain⟨v1,v2,rfl,hA,hD⟩:=h
 have hA0:=hA
 have hD0:=hD
 obtain⟨kv,rfl,_⟩:=hA
 obtain⟨d0,d1,d2,d3,d4,d5,rfl,_⟩:=hD
 exact⟨kv,d0,d1,d2,d3,d4,d5,rfl,hA0,hD0⟩
theorem act0_R (N:St):kAct.R N Ast zeA:=kAct.rd (Apv N)
theorem Apx (N:St):Aw.R N delta0 zeD:=Aw.rd (Al8 N)
theorem Jr (N:St) (cs:List GV) (x:Unit_) (hR:A9.R N x cs) (hl:Aj x<=1073741824):Ret Tryz.prog 97 [.agg cs] N (.bool (Fy x)) N:=by
 obtain⟨kv,d0,d1,d2,d3,d4,d5,rfl,hA,hD⟩:=Er hR
 have hma:Ck x.act<=1073741824/\Au x.delta<=1073741824:=by unfold Aj at hl;omega
 refine Cb Af9 (Z0z rfl) trivial ?_
 cases hb:x.batch with
 |true=>
  have hu:Fy x=(Bt x.delta&&Afa x.act):=by unfold Fy;rw[if_pos hb]
  rw[hu]
  simp +contextual only[go_sem,T7,hb]
  intro n f U H
  refine by_b H (Vu _ _ _ (Aw.pre hD H.sub) (by omega)) (fun h1=> ?_) (fun h1=> ?_)
  rotate_left
  ·simp only[go_sem,h1,Zac]
  simp(disch:=omega) only[go_sem]
  refine by_r H (A7d _ _ _ (kAct.pre hA H.sub)) ?_
  simp only[go_sem,h1,Zad]
 |false=>
  have hu:Fy x=(Dj x.act&&O9 x.delta):=by unfold Fy;rw[if_neg (by simp[hb])]
  rw[hu]
  simp +contextual only[go_sem,T7,hb]
  intro n f U H
  refine by_b H (K0 _ _ _ (kAct.pre hA H.sub) (by omega)) (fun h1=> ?_) (fun h1=> ?_)
  rotate_left
  ·simp only[go_sem,h1,Zac]
  simp(disch:=omega) only[go_sem]
  refine by_r H (A26 _ _ _ (Aw.pre hD H.sub)) ?_
  simp only[go_sem,h1,Zad]
theorem Afb (N:St) (cs:List GV) (x:Unit_) (hR:A9.R N x cs) (hl:Aj x<=1073741824):Ret Tryz.prog 101 [.agg cs] N (.bool (Fy x)) N:=by
 obtain⟨kv,d0,d1,d2,d3,d4,d5,rfl,hA,hD⟩:=Er hR
 have hma:Ck x.act<=1073741824/\Au x.delta<=1073741824:=by unfold Aj at hl;omega
 refine Cb Ai8 (Z0z rfl) trivial ?_
 cases hb:x.batch with
 |true=>
  have hu:Fy x=(Bt x.delta&&Afa x.act):=by unfold Fy;rw[if_pos hb]
  rw[hu]
  simp +contextual only[go_sem,Zr,hb]
  intro n f U H
  refine by_b H (Vt _ _ _ (Aw.pre hD H.sub) (by omega)) (fun h1=> ?_) (fun h1=> ?_)
  rotate_left
  ·simp only[go_sem,h1,Zac]
  simp(disch:=omega) only[go_sem]
  refine by_r H (Abp _ _ _ _ _ (kAct.pre hA H.sub) (act0_R _) (by have:=hma.1;unfold Ck at this;omega)) ?_
  simp only[go_sem,h1,Zad,Apw]
 |false=>
  have hu:Fy x=(Dj x.act&&O9 x.delta):=by unfold Fy;rw[if_neg (by simp[hb])]
  rw[hu]
  simp +contextual only[go_sem,Zr,hb]
  intro n f U H
  refine by_b H (Mq _ _ _ (kAct.pre hA H.sub) (by omega)) (fun h1=> ?_) (fun h1=> ?_)
  rotate_left
  ·simp only[go_sem,h1,Zac]
  simp(disch:=omega) only[go_sem]
  refine by_r H (A5n _ _ _ _ _ (Aw.pre hD H.sub) (Apx _) (by omega)) ?_
  simp only[go_sem,h1,Zad,Al9]
end Go.Proofs.YtbeoiejnogdkpaaGreat.Sy
