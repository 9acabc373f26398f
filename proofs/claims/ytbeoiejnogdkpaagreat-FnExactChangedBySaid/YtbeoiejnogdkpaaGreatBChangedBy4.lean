/- Texts of this proof, one behind the other. -/
import Derived.Test.YtbeoiejnogdkpaaGreatBChangedBy3
import Derived.Test.YtbeoiejnogdkpaaGreatProg
import Derived.KernelRfl
set_option linter.unusedSimpArgs false
set_option linter.unusedVariables false
set_option maxRecDepth 4000
namespace Go.Proofs.YtbeoiejnogdkpaaGreat.Sy
section
open Go Go.RowKit
structure OkS (s:State):Prop where
 kn:okK s.know=true
 tl:s.tallies.Pairwise fun a b=>Ah a b=true
 t1:∀ t∈s.tallies,tal1 t=true
 tn:s.tallies.length≤120
 ll:s.lives.Pairwise fun a b=>Bq a.dot b.dot=true
 l1:∀ x∈s.lives,B5 s.know x.dot=true∧liv1 x=true
 ln:s.lives.length≤120
 cl:s.cells.Pairwise fun a b=>Bq a.dot b.dot=true
 c1:∀ x∈s.cells,B5 s.know x.dot=true∧cel1 x=true
 cn:s.cells.length≤120
 rf:∀ c∈s.cells,c.ref=d0∨∃ y∈s.cells,y.dot=c.ref∧y.obj=c.obj∧y.time<c.time
theorem Jf {α:Type} {lt:α→α→Bool} {x y:α} {l:List α}:y∈insB lt x l↔y=x∨y∈l:=by
 rw[(Km lt x l).mem_iff,List.mem_cons]
theorem A15 {α:Type} {lt:α→α→Bool} (ht:∀ a b c,lt a b=true→lt b c=true→lt a c=true) {x:α}:∀ {l:List α},l.Pairwise (fun a b=>lt a b=true)→(∀ y∈l,lt x y=true∨lt y x=true)→(insB lt x l).Pairwise fun a b=>lt a b=true
 |[],_,_=>by simp[insB]
 |k::r,h,hx=>by
  obtain⟨h1,h2⟩:=List.pairwise_cons.1 h
  unfold insB
  split
  ·rename_i hk
   refine List.pairwise_cons.2 ⟨fun y hy=> ?_,h⟩
   rcases List.mem_cons.1 hy with rfl|hy
   ·exact hk
   ·exact ht _ _ _ hk (h1 y hy)
  ·rename_i hk
   refine List.pairwise_cons.2 ⟨fun y hy=> ?_,A15 ht h2 fun y hy=>hx y (List.mem_cons_of_mem _ hy)⟩
   rcases Jf.1 hy with rfl|hy
   ·exact(hx k List.mem_cons_self).resolve_left hk
   ·exact h1 y hy
theorem Qa {α β:Type} {f:α→α} {g:α→β} (h:∀ x,g (f x)=g x):∀(l:List α) (k:Nat),(l.modify k f).map g=l.map g
 |[],k=>by simp
 |x::l,0=>by simp[h]
 |x::l,k+1=>by simp[List.modify_succ_cons,Qa h l k]
theorem Qb {α:Type} {f:α→α}:∀ {l:List α} {k:Nat} {x:α},x∈l.modify k f→∃ y∈l,x=y∨x=f y
 |[],k,x,h=>by simp at h
 |y::l,0,x,h=>by
  simp only[List.modify_zero_cons,List.mem_cons] at h
  rcases h with h|h
  ·exact⟨y,List.mem_cons_self,.inr h⟩
  ·exact⟨x,List.mem_cons_of_mem _ h,.inl rfl⟩
 |y::l,k+1,x,h=>by
  simp only[List.modify_succ_cons,List.mem_cons] at h
  rcases h with h|h
  ·exact⟨y,List.mem_cons_self,.inl h⟩
  ·obtain⟨z,hz,e⟩:=Qb h
   exact⟨z,List.mem_cons_of_mem _ hz,e⟩
theorem Yw {α:Type} {f:α→α}:∀ {l:List α} {k:Nat} {y:α},y∈l→∃ x∈l.modify k f,x=y∨x=f y
 |[],k,x,h=>by simp at h
 |y::l,0,x,h=>by
  rcases List.mem_cons.1 h with rfl|h
  ·exact⟨f x,by simp,.inr rfl⟩
  ·exact⟨x,by simp[h],.inl rfl⟩
 |y::l,k+1,x,h=>by
  rcases List.mem_cons.1 h with rfl|h
  ·exact⟨x,by simp[List.modify_succ_cons],.inl rfl⟩
  ·obtain⟨z,hz,e⟩:=Yw (k:=k) h
   exact⟨z,by simp[List.modify_succ_cons,hz],e⟩
theorem Ab6 {l:List Int} {r q:Int} {v:Int} (hr:0≤r) (hq:0≤q) (hl:r.toNat<l.length):at0 (l.set r.toNat v) q=if q=r then v else at0 l q:=by
 unfold at0
 rw[List.getD_eq_getElem?_getD,List.getD_eq_getElem?_getD,List.getElem?_set]
 by_cases h:q=r
 ·subst h;simp[hl]
 ·have:¬ r.toNat=q.toNat:=by omega
  rw[if_neg this,if_neg h]
structure Fits (s:State) (a:Act):Prop where
 dot:G5 a.dot=true
 seq:a.dot.seq=at0 s.know a.dot.rep+1
 new:B5 s.know a.dot=false
 kn:okK (s.know.set a.dot.rep.toNat a.dot.seq)=true
 mono:∀ d,B5 s.know d=true→B5 (s.know.set a.dot.rep.toNat a.dot.seq) d=true
 self:B5 (s.know.set a.dot.rep.toNat a.dot.seq) a.dot=true
theorem kLe_at:∀ {a b:List Int},a.length=b.length→kLe a b=true→∀ i:Nat,a.getD i 0≤b.getD i 0:=by
 intro a
 induction a with
 |nil=>intro b hl _ i;cases b with
  |nil=>simp
  |cons _ _=>simp at hl
 |cons x a ih=>
  intro b hl h i
  cases b with
  |nil=>simp at hl
  |cons y b=>
   simp only[kLe,Bool.and_eq_true,decide_eq_true_eq] at h
   cases i with
   |zero=>simpa using h.1
   |succ i=>simpa using ih (by simpa using hl) h.2 i
theorem Ain {s:State} {a:Act} (hs:okK s.know=true) (ha:A0d a=true) (hn:B5 s.know a.dot=false) (hk:M3 a.knew s.know=true):Fits s a:=by
 simp only[A0d,Bool.and_eq_true,decide_eq_true_eq] at ha
 obtain⟨h1,h2,h3,h4⟩:=ha
 simp only[M3,Bool.and_eq_true] at hk
 have hle:=kLe_at (by rw[J1 hk.1,J1 hs]) hk.2.2 a.dot.rep.toNat
 have hle:at0 a.knew a.dot.rep≤at0 s.know a.dot.rep:=hle
 have hd:=h1
 simp only[G5,Bool.and_eq_true,Cc] at hd
 have hnot:¬ a.dot.seq≤at0 s.know a.dot.rep:=by
  intro h
  have:B5 s.know a.dot=true:=by unfold B5;rw[hs,h1];simpa using h
  rw[hn] at this;cases this
 have hlen:=J1 hs
 have hr:a.dot.rep.toNat<s.know.length:=by omega
 have e:a.dot.seq=at0 s.know a.dot.rep+1:=by omega
 have hkn:okK (s.know.set a.dot.rep.toNat a.dot.seq)=true:=by
  simp only[okK,Bool.and_eq_true,List.all_eq_true,decide_eq_true_eq] at hs ⊢
  refine⟨fun x hx=> ?_,by rw[List.length_set];exact hs.2⟩
  rcases List.mem_or_eq_of_mem_set hx with h|h
  ·exact hs.1 x h
  ·rw[h];exact Cc.2 ⟨by omega,by omega⟩
 refine⟨h1,e,hn,hkn,fun d hd'=> ?_,?_⟩
 ·simp only[B5,Bool.and_eq_true,decide_eq_true_eq] at hd' ⊢
  refine⟨⟨hkn,hd'.1.2⟩,?_⟩
  have hq:=hd'.1.2
  simp only[G5,Bool.and_eq_true,Cc] at hq
  rw[Ab6 (by omega) (by omega) hr]
  split
  ·rename_i hq2;rw[hq2] at hd';omega
  ·exact hd'.2
 ·simp only[B5,Bool.and_eq_true,decide_eq_true_eq]
  refine⟨⟨hkn,h1⟩,?_⟩
  rw[Ab6 (by omega) (by omega) hr,if_pos rfl]
  omega
theorem Ab7 {l:List Tally} {obj:ByteArray} {rep val:Int} (hp:l.Pairwise fun a b=>Ah a b=true) (h1:∀ t∈l,tal1 t=true) (hn:Dc obj=true) (hr:inB rep 0 2=true) (hv:0≤val∧val≤999999):
  (Gf l obj rep val).Pairwise (fun a b=>Ah a b=true)∧∀ t∈Gf l obj rep val,tal1 t=true:=by
 unfold Gf
 split
 ·rename_i i hi
  constructor
  ·have e:((l.modify i fun t=>{t with sum:=addM t.sum val}).map fun t=>(⟨t.obj,t.rep,0⟩:Tally))=l.map fun t=>(⟨t.obj,t.rep,0⟩:Tally):=Qa (f:=fun t=>{t with sum:=addM t.sum val}) (g:=fun t=>(⟨t.obj,t.rep,0⟩:Tally)) (fun _=>rfl) l i
   have h2:(l.map fun t=>(⟨t.obj,t.rep,0⟩:Tally)).Pairwise fun a b=>Ah a b=true:=List.pairwise_map.2 (hp.imp fun h=>h)
   rw[← e] at h2
   exact(List.pairwise_map.1 h2).imp fun h=>h
  ·intro t ht
   obtain⟨y,hy,e⟩:=Qb ht
   have hy1:=h1 y hy
   rcases e with rfl|rfl
   ·exact hy1
   ·simp only[tal1,Bool.and_eq_true,Cc] at hy1 ⊢
    refine⟨hy1.1,hy1.2.1,?_⟩
    unfold addM
    rw[Int.tmod_eq_emod_of_nonneg (by omega)]
    omega
 ·rename_i hi
  constructor
  ·refine A15 (fun a b c=>Nt.trans a b c) hp fun y hy=> ?_
   have:=List.findIdx?_eq_none_iff.1 hi y hy
   cases h2:Ah ⟨obj,rep,val⟩ y with
   |true=>exact .inl rfl
   |false=>
    cases h3:Ah y ⟨obj,rep,val⟩ with
    |true=>exact .inr rfl
    |false=>
     obtain⟨e1,e2⟩:=A31 h2 h3
     have:Jr obj rep y=true:=A32.2 ⟨e1.symm,e2.symm⟩
     simp_all
  ·intro t ht
   rcases Jf.1 ht with rfl|ht
   ·simp only[tal1,Bool.and_eq_true]
    exact⟨hn,hr,Cc.2 hv⟩
   ·exact h1 t ht
theorem Ab8 {k:List Int} {a d:Dot} (hn:B5 k a=false) (hd:B5 k d=true):Bq a d=true∨Bq d a=true:=by
 cases h1:Bq a d with
 |true=>exact .inl rfl
 |false=>
  cases h2:Bq d a with
  |true=>exact .inr rfl
  |false=>rw[Tz h1 h2,hd] at hn;cases hn
theorem Yx {l:List Live} {k k':List Int} {x:Live} (hp:l.Pairwise fun a b=>Bq a.dot b.dot=true) (h1:∀ y∈l,B5 k y.dot=true∧liv1 y=true) (hm:∀ d,B5 k d=true→B5 k' d=true) (hn:B5 k x.dot=false) (hx:B5 k' x.dot=true∧liv1 x=true):
  (Mt x l).Pairwise (fun a b=>Bq a.dot b.dot=true)∧∀ y∈Mt x l,B5 k' y.dot=true∧liv1 y=true:=by
 constructor
 ·exact A15 (lt:=Br) (fun a b c h1 h2=>Hj h1 h2) hp fun y hy=>Ab8 hn (h1 y hy).1
 ·intro y hy
  rcases Jf.1 hy with rfl|hy
  ·exact hx
  ·exact⟨hm _ (h1 y hy).1,(h1 y hy).2⟩
theorem A8g {l:List Cell} {k k':List Int} {x:Cell} (hp:l.Pairwise fun a b=>Bq a.dot b.dot=true) (h1:∀ y∈l,B5 k y.dot=true∧cel1 y=true) (hm:∀ d,B5 k d=true→B5 k' d=true) (hn:B5 k x.dot=false) (hx:B5 k' x.dot=true∧cel1 x=true):
  (Mu x l).Pairwise (fun a b=>Bq a.dot b.dot=true)∧∀ y∈Mu x l,B5 k' y.dot=true∧cel1 y=true:=by
 constructor
 ·exact A15 (lt:=Cl) (fun a b c h1 h2=>Hj h1 h2) hp fun y hy=>Ab8 hn (h1 y hy).1
 ·intro y hy
  rcases Jf.1 hy with rfl|hy
  ·exact hx
  ·exact⟨hm _ (h1 y hy).1,(h1 y hy).2⟩
theorem Yy {l:List Cell} {d:Dot} {x:Cell} (h:x∈M4 l d):∃ y∈l,x=y∨x={y with gone:=true}:=by
 unfold M4 at h
 split at h
 ·exact Qb h
 ·exact⟨x,h,.inl rfl⟩
theorem A8h {l:List Cell} {d:Dot} {y:Cell} (h:y∈l):∃ x∈M4 l d,x=y∨x={y with gone:=true}:=by
 unfold M4
 split
 ·exact Yw h
 ·exact⟨y,h,.inl rfl⟩
theorem Vd (l:List Cell) (d:Dot):(M4 l d).map (·.dot)=l.map (·.dot):=by
 unfold M4
 split
 ·exact Qa (f:=fun c:Cell=>{c with gone:=true}) (g:=fun c=>c.dot) (fun _=>rfl) _ _
 ·rfl
theorem A8i (l:List Cell) (d:Dot):(M4 l d).length=l.length:=by
 have:=congrArg List.length (Vd l d)
 simpa using this
theorem Adl {s:State} {a:Act} (h:OkS s) (ha:A2z a=true) (hn:B5 s.know a.dot=false) (hk:M3 a.knew s.know=true) (hr:Ah2 s a=true) (ht:A0e (Aa8 s a)=false):OkS (Aa8 s a):=by
 simp only[A2z,Bool.and_eq_true] at ha
 obtain⟨hh,hpl,hrf⟩:=ha
 have F:=Ain h.kn hh hn hk
 simp only[A0c,Bool.and_eq_true,Cc] at hpl
 obtain⟨hkd,hob,hky,hvl⟩:=hpl
 simp only[A0e,Bool.or_eq_false_iff,decide_eq_false_iff_not,Nat.not_lt] at ht
 obtain⟨ht1,ht2,ht3⟩:=ht
 have hd:=F.dot
 simp only[G5,Bool.and_eq_true] at hd
 have htime:inB a.time 1 10000=true:=by
  simp only[A0d,Bool.and_eq_true] at hh;exact hh.2.2.2
 have L1:∀ x∈s.lives,B5 (s.know.set a.dot.rep.toNat a.dot.seq) x.dot=true∧liv1 x=true:=fun x hx=>⟨F.mono _ (h.l1 x hx).1,(h.l1 x hx).2⟩
 have C1:∀ x∈s.cells,B5 (s.know.set a.dot.rep.toNat a.dot.seq) x.dot=true∧cel1 x=true:=fun x hx=>⟨F.mono _ (h.c1 x hx).1,(h.c1 x hx).2⟩
 have hval:Aa4 a.kind=true→0≤a.val∧a.val≤999999:=fun hv=>by
  simp only[Acw,Bool.or_eq_true,Bool.and_eq_true,beq_iff_eq,Cc] at hvl
  rcases hvl with h|h
  ·omega
  ·exact h.2
 have hkeyed:Acv a.kind=true→Dc a.key=true:=fun hk=>by rw[if_pos hk] at hky;exact hky
 revert ht1 ht2 ht3
 unfold Aa8 Ael
 repeat' split
 all_goals intro ht1 ht2 ht3
 ·rename_i hkind
  have T:=Ab7 (obj:=a.obj) (rep:=a.dot.rep) (val:=a.val) h.tl h.t1 hob hd.1 (hval (by rw[hkind];rfl))
  exact {kn:=F.kn,tl:=T.1,t1:=T.2,tn:=ht1,ll:=h.ll,l1:=L1,ln:=h.ln,cl:=h.cl,c1:=C1,cn:=h.cn,rf:=h.rf}
 ·rename_i _ hkind
  have T:=Yx (x:=⟨false,a.obj,a.key,0,a.dot⟩) h.ll h.l1 F.mono F.new ⟨F.self,by simp only[liv1,Bool.and_eq_true];exact⟨hob,hkeyed (by rw[hkind];rfl),by decide,by simp⟩⟩
  exact {kn:=F.kn,tl:=h.tl,t1:=h.t1,tn:=h.tn,ll:=T.1,l1:=T.2,ln:=ht2,cl:=h.cl,c1:=C1,cn:=h.cn,rf:=h.rf}
 ·exact {kn:=F.kn,tl:=h.tl,t1:=h.t1,tn:=h.tn,ll:=h.ll.filter _,l1:=fun x hx=>L1 x (List.mem_filter.1 hx).1,ln:=ht2,cl:=h.cl,c1:=C1,cn:=h.cn,rf:=h.rf}
 ·rename_i _ _ _ hkind
  have T:=Yx (l:=s.lives.filter (Acy true a.obj a.key a.knew)) (x:=⟨true,a.obj,a.key,a.val,a.dot⟩) (h.ll.filter _) (fun y hy=>h.l1 y (List.mem_filter.1 hy).1) F.mono F.new ⟨F.self,by simp only[liv1,Bool.and_eq_true];exact⟨hob,hkeyed (by rw[hkind];rfl),Cc.2 (hval (by rw[hkind];rfl)),by simp⟩⟩
  exact {kn:=F.kn,tl:=h.tl,t1:=h.t1,tn:=h.tn,ll:=T.1,l1:=T.2,ln:=ht2,cl:=h.cl,c1:=C1,cn:=h.cn,rf:=h.rf}
 ·exact {kn:=F.kn,tl:=h.tl,t1:=h.t1,tn:=h.tn,ll:=h.ll.filter _,l1:=fun x hx=>L1 x (List.mem_filter.1 hx).1,ln:=ht2,cl:=h.cl,c1:=C1,cn:=h.cn,rf:=h.rf}
 ·rename_i _ _ _ _ _ hkind
  have T:=A8g (x:=⟨a.obj,a.dot,a.time,a.ref,a.val,false⟩) h.cl h.c1 F.mono F.new ⟨F.self,by simp only[cel1,Bool.and_eq_true];exact⟨hob,Cc.2 (hval (by rw[hkind];rfl)),htime⟩⟩
  refine {kn:=F.kn,tl:=h.tl,t1:=h.t1,tn:=h.tn,ll:=h.ll,l1:=L1,ln:=h.ln,cl:=T.1,c1:=T.2,cn:=ht3,rf:=fun c hc=> ?_}
  rcases Jf.1 hc with rfl|hc
  ·by_cases hz:a.ref=d0
   ·exact .inl hz
   ·right
    unfold Ah2 at hr
    rw[if_pos (.inr ⟨hkind,hz⟩)] at hr
    split at hr
    ·rename_i k hkx
     obtain⟨hkl,e⟩:=Df hkx
     rw[Di hkl] at hr
     simp only[Bool.and_eq_true,Bool.or_eq_true,decide_eq_true_eq] at hr
     exact⟨s.cells[k],Jf.2 (.inr (List.getElem_mem hkl)),e,hr.1,hr.2.resolve_left (by omega)⟩
    ·cases hr
  ·rcases h.rf c hc with hz|⟨y,hy,e⟩
   ·exact .inl hz
   ·exact .inr ⟨y,Jf.2 (.inr hy),e⟩
 ·have hdots:(M4 s.cells a.ref).Pairwise fun a b=>Bq a.dot b.dot=true:=by
   have h2:(s.cells.map (·.dot)).Pairwise fun a b=>Bq a b=true:=List.pairwise_map.2 h.cl
   rw[← Vd s.cells a.ref] at h2
   exact List.pairwise_map.1 h2
  refine {kn:=F.kn,tl:=h.tl,t1:=h.t1,tn:=h.tn,ll:=h.ll,l1:=L1,ln:=h.ln,cl:=hdots,c1:=fun x hx=> ?_,cn:=by rw[A8i];exact h.cn,rf:=fun c hc=> ?_}
  ·obtain⟨y,hy,e⟩:=Yy hx
   rcases e with rfl|rfl
   ·exact C1 x hy
   ·exact C1 y hy
  ·obtain⟨y,hy,e⟩:=Yy hc
   have key:∀ r,(r=d0∨∃ z∈s.cells,z.dot=r∧z.obj=y.obj∧z.time<y.time)→r=d0∨∃ z∈M4 s.cells a.ref,z.dot=r∧z.obj=y.obj∧z.time<y.time:=fun r hr=>hr.imp id fun⟨z,hz,q1,q2,q3⟩=>by
    obtain⟨x,hx,e⟩:=A8h (d:=a.ref) hz
    rcases e with rfl|rfl
    ·exact⟨x,hx,q1,q2,q3⟩
    ·exact⟨_,hx,q1,q2,q3⟩
   have:=key _ (h.rf y hy)
   rcases e with rfl|rfl
   ·exact this
   ·exact this
theorem Adm {s:State} (a:Act) (h:OkS s):OkS (A5k s a).1:=by
 unfold A5k
 split
 ·exact h
 ·rename_i h1
  have h1:Bh s=true∧A2z a=true:=by simpa using h1
  split
  ·exact h
  ·rename_i h2
   split
   ·exact h
   ·rename_i h3
    split
    ·exact h
    ·rename_i h4
     split
     ·exact h
     ·rename_i h5
      exact Adl h h1.2 (by simpa using h2) (by simpa using h3) (by simpa using h4) (by simpa using h5)
theorem OkS.time {s:State} (h:OkS s):∀ c∈s.cells,1≤c.time∧c.time≤10000:=fun c hc=>by
 have:=(h.c1 c hc).2
 simp only[cel1,Bool.and_eq_true,Cc] at this
 exact this.2.2
theorem st0_ok:OkS ⟨[0,0,0],[],[],[]⟩:={kn:=by decide,tl:=.nil,t1:=fun _ h=>(by cases h),tn:=by decide,ll:=.nil,l1:=fun _ h=>(by cases h),ln:=by decide,cl:=.nil,c1:=fun _ h=>(by cases h),cn:=by decide,rf:=fun _ h=>(by cases h)}
end
section
open Go Go.RowKit
theorem Gb {s:State} (hs:Bh s=true):okK s.know=true∧s.tallies.Pairwise (fun a b=>Ah a b=true)∧(∀ t∈s.tallies,0≤t.rep∧t.rep≤2)∧s.cells.Pairwise (fun a b=>Bq a.dot b.dot=true)∧s.lives.Pairwise (fun a b=>Bq a.dot b.dot=true)∧(∀ l∈s.lives,B5 s.know l.dot=true)∧∀ t∈s.tallies,-1000000≤t.sum∧t.sum≤1000000:=by
 have hk:=(A5n hs).2.1
 simp only[Bh,Bool.and_eq_true] at hs
 obtain⟨a1,a2,a3,a4,_⟩:=hs
 exact⟨a1,Ai8 a2,fun t ht=>Adg a2 ht,Aa1 a4,Acq a3,hk,fun t ht=>Adi a2 ht⟩
def Be (a b:State) (rep:Int):Bool:=decide (at0 a.know rep<at0 b.know rep)
def Jg (b:State) (l:Live):Bool:=decide (l∈b.lives)|| !B5 b.know l.dot
def X7 (a b:State):State:=⟨kMax a.know b.know,Fs (Be a b) a.tallies b.tallies,Bc Br (a.lives.filter (Jg b)++b.lives.filter (newD a)),Cy a.cells b.cells⟩
def Da (a b:State):State:=if Bh a then(if Bh b then(if Bh (X7 a b) then X7 a b else a) else a) else a
def behind (a b:State):Bool:=Bh a&&(Bh b&&decide (Da a b=b))
theorem Ab9 (a b:State):Ad (X7 a b)≤Ad a+Ad b+3:=by
 have h1:=Ab4 (Be a b) a.tallies b.tallies
 have h2:=A3k a.cells b.cells
 have h3:=Adh (Jg b) (newD a) a.lives b.lives
 have h4:=Adf a.know b.know
 simp only[X7,Ad]
 omega
theorem A70 (a b:State):Ad (Da a b)≤Ad a+Ad b+3:=by
 have:=Ab9 a b
 unfold Da
 repeat' split
 all_goals omega
def newC (p:State) (x:Cell):Bool:=match Cm p.cells x.dot with
 |none=>true
 |some i=>x.gone&& !(p.cells[i]?.getD x).gone
def A5v (p c:State):Delta:=⟨p.know,c.know,c.tallies.filter fun t=>Be p c t.rep,c.lives.filter (newD p),(p.lives.filter fun l=> !decide (l∈c.lives)).map (·.dot),c.cells.filter (newC p)⟩
def Cx (p c:State):Delta×Bool:=if behind p c then(A5v p c,true) else(delta0,false)
theorem ms_dif (p c:State):Hf (A5v p c)≤Ad p+2*Ad c:=by
 have h1:=List.length_filter_le (fun t:Tally=>Be p c t.rep) c.tallies
 have h2:=Fr Ar (fun t:Tally=>Be p c t.rep) c.tallies
 have h3:=List.length_filter_le (newD p) c.lives
 have h4:=Fr Ck (newD p) c.lives
 have h5:=List.length_filter_le (fun l:Live=> !decide (l∈c.lives)) p.lives
 have h6:=List.length_filter_le (newC p) c.cells
 have h7:=Fr D8 (newC p) c.cells
 simp only[A5v,Hf,Ad,List.length_map]
 omega
end
section
open Go Go.RowKit
theorem All3.cut {α β γ:Type} {R:α→β→γ→Prop}:∀ {x y:List α} {bs:List β} {cs:List γ},All3 R (x++y) bs cs→∃ b1 b2 c1 c2,bs=b1++b2∧cs=c1++c2∧All3 R x b1 c1∧All3 R y b2 c2
 |[],y,bs,cs,h=>⟨[],bs,[],cs,rfl,rfl,.nil,h⟩
 |a::x,y,_,_,.cons h t=>by
  obtain⟨b1,b2,c1,c2,rfl,rfl,h1,h2⟩:=All3.cut t
  exact⟨_::b1,b2,_::c1,c2,rfl,rfl,.cons h h1,h2⟩
theorem A71 (a b c:List Nat):(a++(b++c)).Perm (b++(a++c)):=by
 rw[← List.append_assoc,←List.append_assoc];exact List.Perm.append_right _ List.perm_append_comm
def holeP {α:Type} (d:Kd α) (v:GV) (l:List α) (j:Nat) (cs:List GV) (τ:St) (fp:List Nat):Prop:=
 ∃ g pre c1 c2 post f1 f2,v= .sl g pre.length l.length∧bk τ g=some (.row d.z (pre++(c1.flatten++(cs++c2.flatten))++post))∧cs.length=d.z∧All3 (d.O τ) (l.take j) c1 f1∧All3 (d.O τ) (l.drop (j+1)) c2 f2∧fp=g::(f1.flatten++f2.flatten)
def hole {α:Type} (d:Kd α) (v:GV) (l:List α) (j:Nat) (cs:List GV):Thg:=⟨holeP d v l j cs,fun {σ τ fp} h hf=>by
 obtain⟨g,pre,c1,c2,post,f1,f2,h1,h2,h3,h4,h5,rfl⟩:=h
 refine⟨g,pre,c1,c2,post,f1,f2,h1,by rw[hf g List.mem_cons_self];exact h2,h3,h4.imp fun a b c hc ho=>d.loc ho fun g' hg'=>hf g' ?_,h5.imp fun a b c hc ho=>d.loc ho fun g' hg'=>hf g' ?_,rfl⟩
 ·exact List.mem_cons_of_mem _ (List.mem_append_left _ (List.mem_flatten.2 ⟨c,hc,hg'⟩))
 ·exact List.mem_cons_of_mem _ (List.mem_append_right _ (List.mem_flatten.2 ⟨c,hc,hg'⟩))⟩
section
variable {σ τ:St} {rs:List Thg} {α:Type} {d:Kd α} {v:GV} {l:List α} {cs:List GV} {j:Nat}
theorem Hp.zoom (H:Hp σ τ (ow d v l::rs)) (hj:j<l.length):∃ cs,Hp σ τ (own d cs l[j]::hole d v l j cs::rs):=by
 obtain⟨h,_,⟨a,b,hr,hs,rfl⟩,hn,hb⟩:=H
 rcases hr with⟨rfl,_,_⟩|⟨g,pre,css,post,fps,hv,hB,hA,rfl⟩
 ·simp at hj
 have el:l=l.take j++(l[j]::l.drop (j+1)):=by rw[List.getElem_cons_drop,List.take_append_drop]
 have hA':All3 (d.O τ) (l.take j++(l[j]::l.drop (j+1))) css fps:=by rw[← el];exact hA
 obtain⟨c1,c2',f1,f2',rfl,rfl,h1,h2⟩:=All3.cut hA'
 cases h2 with
 | @cons _ cs fx _ c2 f2 hx h2=>
  have hp:(g::(f1++fx::f2).flatten++b).Perm (fx++((g::(f1.flatten++f2.flatten))++b)):=by
   have e:g::(f1++fx::f2).flatten++b=(g::f1.flatten)++(fx++(f2.flatten++b)):=by simp
   have e2:fx++((g::(f1.flatten++f2.flatten))++b)=fx++((g::f1.flatten)++(f2.flatten++b)):=by simp
   rw[e,e2];exact A71 _ _ _
  refine⟨cs,h,_,⟨fx,_,hx,⟨_,b,⟨g,pre,c1,c2,post,f1,f2,hv,?_,d.len (d.rd hx),h1,h2,rfl⟩,hs,rfl⟩,rfl⟩,hp.nodup_iff.1 hn,fun g' hg'=>hb g' (hp.mem_iff.2 hg')⟩
  rw[hB];simp
theorem Hp.unzoom {y:α} (H:Hp σ τ (own d cs y::hole d v l j cs::rs)) (hj:j<l.length):Hp σ τ (ow d v (l.set j y)::rs):=by
 obtain⟨h,_,⟨fx,_,hx,⟨_,b,⟨g,pre,c1,c2,post,f1,f2,hv,hB,hl,h1,h2,rfl⟩,hs,rfl⟩,rfl⟩,hn,hb⟩:=H
 have hp:(g::(f1++fx::f2).flatten++b).Perm (fx++((g::(f1.flatten++f2.flatten))++b)):=by
  have e:g::(f1++fx::f2).flatten++b=(g::f1.flatten)++(fx++(f2.flatten++b)):=by simp
  have e2:fx++((g::(f1.flatten++f2.flatten))++b)=fx++((g::f1.flatten)++(f2.flatten++b)):=by simp
  rw[e,e2];exact A71 _ _ _
 have el:l.set j y=l.take j++(y::l.drop (j+1)):=List.set_eq_take_append_cons_drop.trans (if_pos hj)
 refine⟨h,_,⟨_,b,.inr ⟨g,pre,c1++cs::c2,post,f1++fx::f2,by rw[List.length_set];exact hv,?_,?_,rfl⟩,hs,rfl⟩,hp.nodup_iff.2 hn,fun g' hg'=>hb g' (hp.mem_iff.1 hg')⟩
 ·rw[hB];simp
 ·rw[el]
  exact h1.append (.cons hx h2)
theorem Aba {fp:List Nat} (h:(hole d v l j cs).P τ fp) (hj:j<l.length):∃ g off,g∈fp∧v= .sl g off l.length∧atz d.z v j= .ptr g (off+j*d.z)∧∃ A B,off+j*d.z=A.length∧cs.length=d.z∧bk τ g=some (.row d.z (A++cs++B))∧∀(τ':St) (cs':List GV),cs'.length=d.z→bk τ' g=some (.row d.z (A++cs'++B))→(∀ g'∈fp,g'≠g→bk τ' g'=bk τ g')→fp.Nodup→(hole d v l j cs').P τ' fp:=by
 obtain⟨g,pre,c1,c2,post,f1,f2,rfl,h2,h3,h4,h5,rfl⟩:=h
 have hc:c1.flatten.length=j*d.z:=by rw[T5 h4,List.length_take,Nat.min_eq_left (by omega)]
 refine⟨g,pre.length,List.mem_cons_self,rfl,rfl,pre++c1.flatten,c2.flatten++post,by rw[List.length_append,hc],h3,by rw[h2];simp,fun τ' cs' hl hB hk hn=> ?_⟩
 rw[List.nodup_cons] at hn
 refine⟨g,pre,c1,c2,post,f1,f2,rfl,by rw[hB];simp,hl,h4.imp fun a b c hc ho=>d.loc ho fun g' hg'=> ?_,h5.imp fun a b c hc ho=>d.loc ho fun g' hg'=> ?_,rfl⟩
 ·have hm:g'∈f1.flatten++f2.flatten:=List.mem_append_left _ (List.mem_flatten.2 ⟨c,hc,hg'⟩)
  exact hk g' (List.mem_cons_of_mem _ hm) fun e=>hn.1 (e ▸ hm)
 ·have hm:g'∈f1.flatten++f2.flatten:=List.mem_append_right _ (List.mem_flatten.2 ⟨c,hc,hg'⟩)
  exact hk g' (List.mem_cons_of_mem _ hm) fun e=>hn.1 (e ▸ hm)
end
section
variable {P:Program} {σ τ:St} {h:List Item} {K:Kx} {v:GV} {α:Type} {l:List α} {d:Kd α} {cs:List GV} {j:Nat}
theorem Hx.hole_rd (H:Hx σ τ h) (i:Nat) (hi:h[i]? =some (.th (hole d v l j cs))) (hj:j<l.length):iadG d.z v (some j)=some (atz d.z v j)∧(∀ k,fadG k (atz d.z v j)=some (fld k (atz d.z v j)))∧(∀ k m,fadG k (fld m (atz d.z v j))=some (fld (m+k) (atz d.z v j)))∧(∀ k n a,k+n≤d.z→ldG a n τ (fld k (atz d.z v j))=(seg cs k n).bind (mkv a)):=by
 obtain⟨fp,hP,_⟩:=(H.hp.pick i (at_t hi)).turn
 obtain⟨g,off,hg,rfl,e,A,B,h1,h2,h3,_⟩:=Aba hP hj
 rw[e]
 have hi':iadG d.z (.sl g off l.length) (some j)=some (.ptr g (off+j*d.z)):=by simp only[iadG];rw[if_pos hj]
 refine⟨hi',fun k=>rfl,fun k m=>by simp only[fld,fadG];rw[Nat.add_assoc],fun k n a hk=> ?_⟩
 simp only[fld,ldG]
 have hr:rdB τ g=some (A++cs++B):=by unfold rdB;rw[Bg.1 h3];rfl
 rw[hr,Option.bind_some,h1]
 congr 1
 unfold seg
 rw[if_pos (by simp only[List.length_append];omega),if_pos (by omega)]
 congr 1
 rw[List.append_assoc,←List.drop_drop,List.drop_left,List.drop_append_of_le_length (by omega),List.take_append_of_le_length (by rw[List.length_drop];omega)]
theorem Afc (H:Hx σ τ h) (i:Nat) (hi:h[i]? =some (.th (hole d v l j cs))) (hj:j<l.length) {k n:Nat} {x:GV} (hx:x.cells.length=n) (hn:0<n) (hk:k+n≤d.z)
  (kk:∀ τ',Hx σ τ' (h.set i (.th (hole d v l j (Ao cs k x.cells))))→K (.tup []) (h.set i (.th (hole d v l j (Ao cs k x.cells)))) τ'):stX σ false h τ n K (fld k (atz d.z v j)) x:=by
 obtain⟨fp,hP,hnd,hbd,ht⟩:=(H.hp.pick i (at_t hi)).turn
 obtain⟨g,off,hg,rfl,e,A,B,h1,h2,h3,h4⟩:=Aba hP hj
 have hgt:=(hbd g hg).2
 have hsl:(Ao cs k x.cells).length=d.z:=by unfold Ao;simp only[List.length_append,List.length_take,List.length_drop];omega
 have es:Ao (A++cs++B) (A.length+k) x.cells=A++Ao cs k x.cells++B:=Lo (by omega)
 have e2:stG n τ (.ptr g (off+j*d.z+k)) x=some (.tup [],τ.set g (some (.row d.z (A++Ao cs k x.cells++B)))):=by
  simp only[stG,Bg.1 h3]
  rw[if_pos ⟨by simp only[List.length_append];omega,hn,hx⟩,h1,es]
 have hP':(hole d (.sl g off l.length) l j (Ao cs k x.cells)).P (τ.set g (some (.row d.z (A++Ao cs k x.cells++B)))) fp:=
  h4 _ _ hsl (Bg.2 (by rw[List.getElem?_set_self hgt])) (fun g' hg' hne=>Eu (Ne.symm hne)) hnd
 have H':=Hp.unpick (ht (r':=hole d (.sl g off l.length) l j (Ao cs k x.cells)) (τ':=τ.set g (some (.row d.z (A++Ao cs k x.cells++B)))) ⟨hnd,fun g' hg'=>.inl hg',by simp,fun g' hg' hne=>Eu fun e=>hne (e ▸ hg)⟩ hP') (List.getElem?_eq_some_iff.1 (at_t hi)).1
 rw[← A89] at H'
 rw[e]
 have hno:look h g=none:=Aax H hi fun fp'' ho'=>by
  obtain⟨g',pre,c1,c2,post,f1,f2,e',_,_,_,_,rfl⟩:=ho'
  injection e' with e1;rw[e1];exact List.mem_cons_self
 show stB σ false h τ n K g (off+j*d.z+k) x (look h g)
 rw[hno]
 exact⟨_,_,_,e2,(fun h=>by cases h),H',kk _ H'⟩
end
end
section
open Go Go.RowKit
def restP {α:Type} (d:Kd α) (v:GV) (l:List α) (j:Nat) (τ:St) (fp:List Nat):Prop:=
 (l=[]∧v= .nilS∧fp=[])∨∃ g pre c1 c2 post f2,v= .sl g pre.length l.length∧bk τ g=some (.row d.z (pre++(c1++c2.flatten)++post))∧c1.length=j*d.z∧All3 (d.O τ) (l.drop j) c2 f2∧fp=g::f2.flatten
def rest {α:Type} (d:Kd α) (v:GV) (l:List α) (j:Nat):Thg:=⟨restP d v l j,fun {σ τ fp} h hf=>by
 rcases h with h|⟨g,pre,c1,c2,post,f2,h1,h2,h3,h4,rfl⟩
 ·exact .inl h
 refine .inr ⟨g,pre,c1,c2,post,f2,h1,by rw[hf g List.mem_cons_self];exact h2,h3,h4.imp fun a b c hc ho=>d.loc ho fun g' hg'=>hf g' ?_,rfl⟩
 exact List.mem_cons_of_mem _ (List.mem_flatten.2 ⟨c,hc,hg'⟩)⟩
section
variable {σ τ:St} {rs:List Thg} {α:Type} {d:Kd α} {v:GV} {l:List α} {j:Nat}
end
def rstP {α:Type} (d:Kd α) (v:GV) (l:List α) (j:Nat) (cs:List GV) (τ:St) (fp:List Nat):Prop:=
 ∃ g pre c1 c2 post f2,v= .sl g pre.length l.length∧bk τ g=some (.row d.z (pre++(c1++(cs++c2.flatten))++post))∧c1.length=j*d.z∧cs.length=d.z∧All3 (d.O τ) (l.drop (j+1)) c2 f2∧fp=g::f2.flatten
def rst {α:Type} (d:Kd α) (v:GV) (l:List α) (j:Nat) (cs:List GV):Thg:=⟨rstP d v l j cs,fun {σ τ fp} h hf=>by
 obtain⟨g,pre,c1,c2,post,f2,h1,h2,h3,h5,h4,rfl⟩:=h
 refine⟨g,pre,c1,c2,post,f2,h1,by rw[hf g List.mem_cons_self];exact h2,h3,h5,h4.imp fun a b c hc ho=>d.loc ho fun g' hg'=>hf g' ?_,rfl⟩
 exact List.mem_cons_of_mem _ (List.mem_flatten.2 ⟨c,hc,hg'⟩)⟩
section
variable {σ τ:St} {rs:List Thg} {α:Type} {d:Kd α} {v:GV} {l:List α} {cs:List GV} {j:Nat}
end
end
section
open Go Go.RowKit
abbrev O7:Nat:=47
def O8:Fn1:=⟨95,[.t 4],(rg [oX 2 0,oX 3 1,oV 4 kf] (.seq (rg [oF 8 0 2,oL 9 8,oF 10 0 3,oL 11 10,oD 12 171 9 11,oU 13 12,oM 14 13,og 15 14 false (.fad 1 (.t 2)),og 16 14 false (.ld false 1 (.t 15)),og 17 14 false (.len false (.t 16)),og 18 14 false (.fad 1 (.t 3)),og 19 14 false (.ld false 1 (.t 18)),og 20 14 false (.len false (.t 19)),og 21 14 false (.bin .neq (.t 17) (.t 20)),o 22 (.pick (.t 14) kt (.t 21)),oM 23 22,og 24 23 false (.fad 2 (.t 2)),og 25 23 false (.ld false 1 (.t 24)),og 26 23 false (.len false (.t 25)),og 27 23 false (.fad 2 (.t 3)),og 28 23 false (.ld false 1 (.t 27)),og 29 23 false (.len false (.t 28)),og 30 23 false (.bin .neq (.t 26) (.t 29)),o 31 (.pick (.t 23) kt (.t 30)),oM 32 31,og 33 32 false (.fad 3 (.t 2)),og 34 32 false (.ld false 1 (.t 33)),og 35 32 false (.len false (.t 34)),og 36 32 false (.fad 3 (.t 3)),og 37 32 false (.ld false 1 (.t 36)),og 38 32 false (.len false (.t 37)),og 39 32 false (.bin .neq (.t 35) (.t 38)),o 40 (.pick (.t 32) kt (.t 39))] (.cnd (.t 40) (rg [oV 4 kf] .ret) .skip)) (.seq (rg [oV 5 (ki 0)] (.blk 0 (.lop (.seq (rg [oM 41 5,oF 42 1 2,oL 43 42,oN 44 43,oB 45 .lss 41 44] (.cnd (.t 45) .skip (.ext 0))) (.seq (.blk 1 (.seq (.drw [oF 48 1 2,oL 49 48,oM 50 5,oI 51 3 49 50,oW 52 3 51,oF 53 1 3,oL 54 53,oM 55 5,oI 56 3 54 55,oW 57 3 56] [o 58 (.eqs true [.s,.i .i64,.i .i64] (.t 52) (.t 57))]) (.cnd (.t 58) (rg [oV 4 kf] .ret) .skip))) (.reg [oM 46 5,oZ 47 46 1,oM 5 47])))))) (.seq (rg [oV 6 (ki 0)] (.blk 2 (.lop (.seq (rg [oM 59 6,oF 60 2 2,oL 61 60,oN 62 61,oB 63 .lss 59 62] (.cnd (.t 63) .skip (.ext 2))) (.seq (.blk 3 (.seq (.drw [oF 66 2 2,oL 67 66,oM 68 6,oI 69 6 67 68,oW 70 6 69,oF 71 2 3,oL 72 71,oM 73 6,oI 74 6 72 73,oW 75 6 74] [o 76 (.eqs true [.b,.s,.s,.i .i64,.i .i64,.i .i64] (.t 70) (.t 75))]) (.cnd (.t 76) (rg [oV 4 kf] .ret) .skip))) (.reg [oM 64 6,oZ 65 64 1,oM 6 65])))))) (.seq (rg [oV 7 (ki 0)] (.blk 4 (.lop (.seq (rg [oM 77 7,oF 78 3 2,oL 79 78,oN 80 79,oB 81 .lss 77 80] (.cnd (.t 81) .skip (.ext 4))) (.seq (.blk 5 (.seq (.drw [oF 84 3 2,oL 85 84,oM 86 7,oI 87 8 85 86,oW 88 8 87,oF 89 3 3,oL 90 89,oM 91 7,oI 92 8 90 91,oW 93 8 92] [o 94 (.eqs true [.s,.i .i64,.i .i64,.i .i64,.i .i64,.i .i64,.i .i64,.b] (.t 88) (.t 93))]) (.cnd (.t 94) (rg [oV 4 kf] .ret) .skip))) (.reg [oM 82 7,oZ 83 82 1,oM 7 83])))))) (rg [oV 4 kt] .ret))))))⟩
theorem X8:A8 Tryz.prog O7=some O8:=by kernel_rfl
theorem Gc {a b:State} (h:¬ (a.know=b.know∧a.tallies=b.tallies∧a.lives=b.lives∧a.cells=b.cells)):decide (a=b)=false:=decide_eq_false fun e=>h (State.eq_iff.1 e)
set_option maxHeartbeats 2000000 in
theorem Ve (σ:St) (cs ds:List GV) (a b:State) (hR:A9.R σ a cs) (hS:A9.R σ b ds) (hl:Ad a≤1099511627776) (hm:Ad b≤1099511627776):Ret Tryz.prog O7 [.agg cs,.agg ds] σ (.bool (decide (a=b))) σ:=by
 obtain⟨v0,v1,v2,v3,rfl,q0,q1,q2,q3⟩:=hR
 obtain⟨u0,u1,u2,u3,rfl,p0,p1,p2,p3⟩:=hS
 have hkl:a.know.length≤1099511627776:=by unfold Ad at hl;omega
 have b1:a.tallies.length≤1099511627776:=by unfold Ad at hl;omega
 have b2:a.lives.length≤1099511627776:=by unfold Ad at hl;omega
 have b3:a.cells.length≤1099511627776:=by unfold Ad at hl;omega
 clear hl hm
 refine Em X8 (Z0z rfl) trivial ?_
 simp +contextual (disch:=omega) only[go_sem,O8]
 intro n1 f1 τ0 _ n2 f2 τ H
 have g1:σ.length≤n1:=f1
 have g2:σ.length≤n2:=f2.2
 have S:=H.sub
 refine by_r H (A81 _ v0 u0 _ _ (q0.pre S) (p0.pre S) hkl) ?_
 have l1:=q1.len
 have l2:=q2.len
 have l3:=q3.len
 have m1:=p1.len
 have m2:=p2.len
 have m3:=p3.len
 by_cases h0:a.know=b.know
 rotate_left
 ·have d:=Gc (a:=a) (b:=b) fun h=>h0 h.1
  have e0:decide (a.know=b.know)=false:=decide_eq_false h0
  simp +contextual (disch:=omega) only[go_sem,e0,d]
  try exact fun _=>rfl
 have e0:decide (a.know=b.know)=true:=decide_eq_true h0
 by_cases h1:a.tallies.length=b.tallies.length
 rotate_left
 ·have d:=Gc (a:=a) (b:=b) fun h=>h1 (by rw[h.2.1])
  have e1:((a.tallies.length:Int) != (b.tallies.length:Int))=true:=by simp;omega
  simp +contextual (disch:=omega) only[go_sem,e0,e1,l1,m1,d]
  try exact fun _=>rfl
 have e1:((a.tallies.length:Int) != (b.tallies.length:Int))=false:=by simp;omega
 by_cases h2:a.lives.length=b.lives.length
 rotate_left
 ·have d:=Gc (a:=a) (b:=b) fun h=>h2 (by rw[h.2.2.1])
  have e2:((a.lives.length:Int) != (b.lives.length:Int))=true:=by simp;omega
  simp +contextual (disch:=omega) only[go_sem,e0,e1,e2,l1,m1,l2,m2,d]
  try exact fun _=>rfl
 have e2:((a.lives.length:Int) != (b.lives.length:Int))=false:=by simp;omega
 by_cases h3:a.cells.length=b.cells.length
 rotate_left
 ·have d:=Gc (a:=a) (b:=b) fun h=>h3 (by rw[h.2.2.2])
  have e3:((a.cells.length:Int) != (b.cells.length:Int))=true:=by simp;omega
  simp +contextual (disch:=omega) only[go_sem,e0,e1,e2,e3,l1,m1,l2,m2,l3,m3,d]
  try exact fun _=>rfl
 have e3:((a.cells.length:Int) != (b.cells.length:Int))=false:=by simp;omega
 simp +contextual (disch:=omega) only[go_sem,e0,e1,e2,e3,l1,m1,l2,m2,l3,m3]
 refine Bs a.tallies.length 5 0 (fun i env h=>env 2= .ptr n1 0∧env 3= .ptr n2 0∧a.tallies.take i=b.tallies.take i∧h=[.box 1 n2 [u0,u1,u2,u3],.box 1 n1 [v0,v1,v2,v3]]) (fun env h=>a.tallies=b.tallies∧env 2= .ptr n1 0∧env 3= .ptr n2 0∧h=[.box 1 n2 [u0,u1,u2,u3],.box 1 n1 [v0,v1,v2,v3]]) (fun env h=>env 4= .bool false∧a.tallies≠b.tallies) _ H (by simp +contextual (disch:=omega) only[go_sem]) ⟨by simp +contextual (disch:=omega) only[go_sem],by simp +contextual (disch:=omega) only[go_sem],by simp,rfl⟩ ?_ ?_ ?_ ?_
 ·clear H
  rintro J Y W hJ hY hW i env h' τ1 hi ei c0 H1 ⟨e2',e3',he,rfl⟩
  have hj:i<b.tallies.length:=by omega
  have L1:=Aa q1 hi
  have L2:=Aa p1 hj
  by_cases hx:a.tallies[i]=b.tallies[i]
  ·have bb:decide (a.tallies[i]=b.tallies[i])=true:=decide_eq_true hx
   simp +contextual (disch:=omega) only[go_sem,c0,e2',e3',ei,A4,l1,m1,L1,L2,bb]
   exact hJ _ _ _ _ H1 ⟨by simp +contextual (disch:=omega) only[go_sem,e2'],by simp +contextual (disch:=omega) only[go_sem,e3'],by rw[Ag hi,Ag hj,he,hx],rfl⟩
  ·have bb:decide (a.tallies[i]=b.tallies[i])=false:=decide_eq_false hx
   simp +contextual (disch:=omega) only[go_sem,c0,e2',e3',ei,A4,l1,m1,L1,L2,bb]
   exact hW _ _ _ H1 ⟨by simp +contextual (disch:=omega) only[go_sem],fun h=>hx (by simp only[h])⟩
 ·rintro Y hY env h' τ1 ei c0 H1 ⟨e2',e3',he,rfl⟩
  simp +contextual (disch:=omega) only[go_sem,c0,e2',e3',ei,l1]
  rw[List.take_length,h1,List.take_length] at he
  exact hY _ _ _ H1 ⟨he,by simp +contextual (disch:=omega) only[go_sem,e2'],by simp +contextual (disch:=omega) only[go_sem,e3'],rfl⟩
 rotate_left
 ·rintro env h' τ1 H1 ⟨e4,hx⟩
  have d:=Gc (a:=a) (b:=b) fun h=>hx h.2.1
  simp +contextual (disch:=omega) only[go_sem,e4,d]
 rintro env h' τ10 H ⟨t0,e2',e3',rfl⟩
 simp +contextual (disch:=omega) only[go_sem,e2',e3']
 refine Bs a.lives.length 6 2 (fun i env h=>env 2= .ptr n1 0∧env 3= .ptr n2 0∧a.lives.take i=b.lives.take i∧h=[.box 1 n2 [u0,u1,u2,u3],.box 1 n1 [v0,v1,v2,v3]]) (fun env h=>a.lives=b.lives∧env 2= .ptr n1 0∧env 3= .ptr n2 0∧h=[.box 1 n2 [u0,u1,u2,u3],.box 1 n1 [v0,v1,v2,v3]]) (fun env h=>env 4= .bool false∧a.lives≠b.lives) _ H (by simp +contextual (disch:=omega) only[go_sem]) ⟨by simp +contextual (disch:=omega) only[go_sem,e2'],by simp +contextual (disch:=omega) only[go_sem,e3'],by simp,rfl⟩ ?_ ?_ ?_ ?_
 ·skip
  rintro J Y W hJ hY hW i env h' τ1 hi ei c0 H1 ⟨e2',e3',he,rfl⟩
  have hj:i<b.lives.length:=by omega
  have L1:=A6 q2 hi
  have L2:=A6 p2 hj
  by_cases hx:a.lives[i]=b.lives[i]
  ·have bb:decide (a.lives[i]=b.lives[i])=true:=decide_eq_true hx
   simp +contextual (disch:=omega) only[go_sem,c0,e2',e3',ei,A4,l2,m2,L1,L2,bb]
   exact hJ _ _ _ _ H1 ⟨by simp +contextual (disch:=omega) only[go_sem,e2'],by simp +contextual (disch:=omega) only[go_sem,e3'],by rw[Ag hi,Ag hj,he,hx],rfl⟩
  ·have bb:decide (a.lives[i]=b.lives[i])=false:=decide_eq_false hx
   simp +contextual (disch:=omega) only[go_sem,c0,e2',e3',ei,A4,l2,m2,L1,L2,bb]
   exact hW _ _ _ H1 ⟨by simp +contextual (disch:=omega) only[go_sem],fun h=>hx (by simp only[h])⟩
 ·rintro Y hY env h' τ1 ei c0 H1 ⟨e2',e3',he,rfl⟩
  simp +contextual (disch:=omega) only[go_sem,c0,e2',e3',ei,l2]
  rw[List.take_length,h2,List.take_length] at he
  exact hY _ _ _ H1 ⟨he,by simp +contextual (disch:=omega) only[go_sem,e2'],by simp +contextual (disch:=omega) only[go_sem,e3'],rfl⟩
 rotate_left
 ·rintro env h' τ1 H1 ⟨e4,hx⟩
  have d:=Gc (a:=a) (b:=b) fun h=>hx h.2.2.1
  simp +contextual (disch:=omega) only[go_sem,e4,d]
 rintro env h' τ11 H ⟨t1,e2',e3',rfl⟩
 simp +contextual (disch:=omega) only[go_sem,e2',e3']
 refine Bs a.cells.length 7 4 (fun i env h=>env 2= .ptr n1 0∧env 3= .ptr n2 0∧a.cells.take i=b.cells.take i∧h=[.box 1 n2 [u0,u1,u2,u3],.box 1 n1 [v0,v1,v2,v3]]) (fun env h=>a.cells=b.cells∧env 2= .ptr n1 0∧env 3= .ptr n2 0∧h=[.box 1 n2 [u0,u1,u2,u3],.box 1 n1 [v0,v1,v2,v3]]) (fun env h=>env 4= .bool false∧a.cells≠b.cells) _ H (by simp +contextual (disch:=omega) only[go_sem]) ⟨by simp +contextual (disch:=omega) only[go_sem,e2'],by simp +contextual (disch:=omega) only[go_sem,e3'],by simp,rfl⟩ ?_ ?_ ?_ ?_
 ·skip
  rintro J Y W hJ hY hW i env h' τ1 hi ei c0 H1 ⟨e2',e3',he,rfl⟩
  have hj:i<b.cells.length:=by omega
  have L1:=A7 q3 hi
  have L2:=A7 p3 hj
  by_cases hx:a.cells[i]=b.cells[i]
  ·have bb:decide (a.cells[i]=b.cells[i])=true:=decide_eq_true hx
   simp +contextual (disch:=omega) only[go_sem,c0,e2',e3',ei,A4,l3,m3,L1,L2,bb]
   exact hJ _ _ _ _ H1 ⟨by simp +contextual (disch:=omega) only[go_sem,e2'],by simp +contextual (disch:=omega) only[go_sem,e3'],by rw[Ag hi,Ag hj,he,hx],rfl⟩
  ·have bb:decide (a.cells[i]=b.cells[i])=false:=decide_eq_false hx
   simp +contextual (disch:=omega) only[go_sem,c0,e2',e3',ei,A4,l3,m3,L1,L2,bb]
   exact hW _ _ _ H1 ⟨by simp +contextual (disch:=omega) only[go_sem],fun h=>hx (by simp only[h])⟩
 ·rintro Y hY env h' τ1 ei c0 H1 ⟨e2',e3',he,rfl⟩
  simp +contextual (disch:=omega) only[go_sem,c0,e2',e3',ei,l3]
  rw[List.take_length,h3,List.take_length] at he
  exact hY _ _ _ H1 ⟨he,by simp +contextual (disch:=omega) only[go_sem,e2'],by simp +contextual (disch:=omega) only[go_sem,e3'],rfl⟩
 rotate_left
 ·rintro env h' τ1 H1 ⟨e4,hx⟩
  have d:=Gc (a:=a) (b:=b) fun h=>hx h.2.2.2
  simp +contextual (disch:=omega) only[go_sem,e4,d]
 rintro env h' τ12 H ⟨t2,e2',e3',rfl⟩
 have d:decide (a=b)=true:=decide_eq_true (State.eq_iff.2 ⟨h0,t0,t1,t2⟩)
 simp +contextual (disch:=omega) only[go_sem,d]
 try exact fun _=>rfl
end
section
open Go Go.RowKit
abbrev Vf:Nat:=239
def Vg:Fn1:=⟨9,[.t 4],(rg [oX 2 0,oX 3 1,oV 4 kf] (rg [oF 5 2 2,oL 6 5,oW 7 6 3,oD 8 318 6 7,oM 4 8] .ret))⟩
theorem A3t:A8 Tryz.prog Vf=some Vg:=by kernel_rfl
abbrev G7:Nat:=374
def Iv:Fn1:=⟨16,[.t 4],(rg [oV 4 kf] (.seq (.drw [oF 5 0 1,oL 6 5,oM 7 0,oI 8 1 6 7,oL 9 8,oF 10 0 2,oL 11 10,oM 12 0,oI 13 1 11 12,oL 14 13] [oB 15 .gtr 9 14,oM 4 15]) .ret))⟩
theorem O9:A8 Tryz.prog G7=some Iv:=by kernel_rfl
abbrev Ib:Nat:=317
def M9:Fn1:=⟨93,[.c 4 true 4],(rg [oX 2 0,oX 3 1,o 4 (.new [.nilS,.nilS,.nilS,.nilS])] (.seq (rg [oW 10 4 2,oC 11 195 10,oU 12 11,oM 13 12,og 14 13 false (.ld true 4 (.t 3)),og 15 13 false (.call 195 [(.t 14)]),og 16 13 false (.un .not (.t 15)),o 17 (.pick (.t 13) kt (.t 16))] (.cnd (.t 17) (rg [oW 18 4 2,oC 19 255 18,oS 4 4 19] .ret) .skip)) (rg [oF 20 0 2,oL 21 20,oF 22 0 3,oL 23 22,oD 24 180 21 23,o 25 (.build [.nilS,.nilS,.nilS,.nilS] [(0,1,(.t 24))]),o 5 (.new [.nilS,.nilS,.nilS,.nilS]),oS 4 5 25] (rg [oF 26 1 2,oL 27 26,oF 28 1 3,oL 29 28,o 30 (.mkf 374 [(.t 3),(.t 2)]),o 31 (.call 334 [(.t 27),(.t 29),(.t 30)]),oF 32 1 5,oS 1 32 31] (.seq (rg [oF 33 2 2,oL 34 33,oN 35 34,oV 36 (ki 0)] (.blk 0 (.lop (rg [oB 37 .lss 36 35] (.seq (.cnd (.t 37) .skip (.ext 0)) (.seq (.blk 1 (rg [oI 38 6 34 36,oW 39 6 38,o 7 (.new [(.bool false),(.str ⟨#[]⟩),(.str ⟨#[]⟩),z0,z0,z0]),oS 6 7 39] (rg [oW 40 4 3,oW 41 6 7,oD 42 239 40 41,oM 43 42,og 44 43 false (.fad 0 (.t 3)),og 45 43 false (.ld false 1 (.t 44)),og 46 43 false (.fad 4 (.t 7)),og 47 43 false (.ld true 2 (.t 46)),og 48 43 false (.call 170 [(.t 45),(.t 47)]),og 49 43 false (.un .not (.t 48)),o 50 (.pick (.t 43) kt (.t 49))] (.cnd (.t 50) (.reg [oF 51 2 5,oL 52 51,oW 53 6 7,o 54 (.lit 6 1 [(.bool false),(.str ⟨#[]⟩),(.str ⟨#[]⟩),z0,z0,z0] [(0,6,(.t 53))]),o 55 (.app 6 64 [(.bool false),(.str ⟨#[]⟩),(.str ⟨#[]⟩),z0,z0,z0] (.t 52) (.t 54)),oF 56 2 5,oS 1 56 55]) .skip)))) (.reg [oZ 57 36 1,oM 36 57]))))))) (.seq (rg [oF 58 2 3,oL 59 58,oN 60 59,oV 61 (ki 0)] (.blk 2 (.lop (rg [oB 62 .lss 61 60] (.seq (.cnd (.t 62) .skip (.ext 2)) (.seq (.blk 3 (rg [oI 63 6 59 61,oW 64 6 63,o 9 (.new [(.bool false),(.str ⟨#[]⟩),(.str ⟨#[]⟩),z0,z0,z0]),oS 6 9 64] (rg [oF 65 0 2,oL 66 65,oF 67 4 9,oW 68 2 67,oD 69 170 66 68,oU 70 69] (.cnd (.t 70) (.reg [oF 71 2 5,oL 72 71,oW 73 6 9,o 74 (.lit 6 1 [(.bool false),(.str ⟨#[]⟩),(.str ⟨#[]⟩),z0,z0,z0] [(0,6,(.t 73))]),o 75 (.app 6 64 [(.bool false),(.str ⟨#[]⟩),(.str ⟨#[]⟩),z0,z0,z0] (.t 72) (.t 74)),oF 76 2 5,oS 1 76 75]) .skip)))) (.reg [oZ 77 61 1,oM 61 77]))))))) (rg [oF 78 2 5,oL 79 78,oC 80 337 79] (rg [oF 81 3 2,oL 82 81,oF 83 3 3,oL 84 83,oD 85 338 82 84,oF 86 3 5,oS 1 86 85] (.seq (rg [oW 87 4 5,oC 88 195 87,oU 89 88] (.cnd (.t 89) (rg [oW 90 4 2,oC 91 255 90,oS 4 4 91] .ret) .skip)) (rg [oW 92 4 5,oS 4 4 92] .ret))))))))))⟩
theorem Vh:A8 Tryz.prog Ib=some M9:=by kernel_rfl
abbrev Oa:Nat:=316
def Ob:Fn1:=⟨31,[.t 4],(rg [oX 2 0,oX 3 1,oV 4 kf] (rg [oF 5 0 2,oL 6 5,oF 7 0 3,oL 8 7,oD 9 156 6 8,oM 10 9,og 11 10 true (.fad 1 (.t 2)),og 12 10 true (.ld false 1 (.t 11)),og 13 10 true (.fad 1 (.t 3)),og 14 10 true (.ld false 1 (.t 13)),og 15 10 true (.call 307 [(.t 12),(.t 14)]),o 16 (.pick (.t 10) (.t 15) kf),oM 17 16,og 18 17 true (.fad 2 (.t 2)),og 19 17 true (.ld false 1 (.t 18)),og 20 17 true (.fad 2 (.t 3)),og 21 17 true (.ld false 1 (.t 20)),og 22 17 true (.call 308 [(.t 19),(.t 21)]),o 23 (.pick (.t 17) (.t 22) kf),oM 24 23,og 25 24 true (.fad 3 (.t 2)),og 26 24 true (.ld false 1 (.t 25)),og 27 24 true (.fad 3 (.t 3)),og 28 24 true (.ld false 1 (.t 27)),og 29 24 true (.call 310 [(.t 26),(.t 28)]),o 30 (.pick (.t 24) (.t 29) kf),oM 4 30] .ret))⟩
theorem X9:A8 Tryz.prog Oa=some Ob:=by kernel_rfl
abbrev Yz:Nat:=238
def Z1:Fn1:=⟨18,[.t 4],(rg [oX 2 0,oX 3 1,oV 4 kf] (.seq (.drw [oW 5 4 2,oC 6 195 5,oM 7 6,og 8 7 true (.ld true 4 (.t 3)),og 9 7 true (.call 195 [(.t 8)]),o 10 (.pick (.t 7) (.t 9) kf),oM 11 10,og 12 11 true (.ld true 4 (.t 2)),og 13 11 true (.ld true 4 (.t 3)),og 14 11 true (.call 317 [(.t 12),(.t 13)]),og 15 11 true (.ld true 4 (.t 3))] [og 16 11 true (.call 316 [(.t 14),(.t 15)]),o 17 (.pick (.t 11) (.t 16) kf),oM 4 17]) .ret))⟩
theorem A5w:A8 Tryz.prog Yz=some Z1:=by kernel_rfl
theorem Oc (σ:St) (cs:List GV) (s:State) (hR:A9.R σ s cs) (x:Live) (hl:s.lives.length≤1099511627776):Ret Tryz.prog Vf [.agg cs,.agg (Uu x)] σ (.bool (decide (x∈s.lives))) σ:=by
 obtain⟨a,b,c,v,rfl,qa,qb,qc,qv⟩:=hR
 refine Em A3t (Z0z rfl) trivial ?_
 simp +contextual (disch:=omega) only[go_sem,Vg]
 intro n f τ0 _ m g τ H
 refine by_r H (Io _ c _ (qc.pre H.sub) x hl) ?_
 simp +contextual (disch:=omega) only[go_sem]
 try exact fun _=>rfl
theorem N1 (σ:St) (nd ns:Nat) (ds cs:List GV) (d:State) (s:State) (hd:rdB σ nd=some ds) (hs:rdB σ ns=some cs) (hD:A9.R σ d ds) (hS:A9.R σ s cs) (h1:okK d.know=true) (h2:okK s.know=true) (rep:Int) (h0:0≤rep∧rep≤2):Ret Tryz.prog G7 [gi rep,.ptr nd 0,.ptr ns 0] σ (.bool (Be s d rep)) σ:=by
 obtain⟨w0,w1,w2,w3,rfl,q0,q1,q2,q3⟩:=hD
 obtain⟨a,b,c,v,rfl,hk,_⟩:=hS
 refine Em O9 (Z0z rfl) trivial ?_
 have A1:=Jk q0 h1 h0.1 h0.2
 have A2:=Jk hk h2 h0.1 h0.2
 have F1:ldG false 1 σ (.ptr nd 0)=some w0:=by rw[A5 hd];rfl
 have F2:ldG false 1 σ (.ptr ns 0)=some a:=by rw[A5 hs];rfl
 simp +contextual (disch:=omega) only[go_sem,Iv,fun h τ=>A6w (h:=h) (τ:=τ) F1,fun h τ=>A6w (h:=h) (τ:=τ) F2,A1,A2]
 exact fun _=>rfl
set_option maxHeartbeats 4000000 in
theorem Sp (σ:St) (cs:List GV) (s:State) (hR:A9.R σ s cs) (ds:List GV) (t:State) (hD:A9.R σ t ds) (hl:Ad s≤1073741824) (hm:Ad t≤1073741824):∃ r τ,Ret Tryz.prog Ib [.agg cs,.agg ds] σ (.agg r) τ∧Hp σ τ [own A9 r (Da s t)]:=by
 have hR0:=hR
 have hD0:=hD
 obtain⟨a,b,c,v,rfl,qa,qb,qc,qv⟩:=hR
 obtain⟨w0,w1,w2,w3,rfl,p0,p1,p2,p3⟩:=hD
 obtain⟨ls0,ls1,ls2,ls3⟩:=Hm hl
 obtain⟨m0,m1,m2,m3⟩:=Hm hm
 have key:∃ q τ,Ret Tryz.prog Ib [.agg [a,b,c,v],.agg [w0,w1,w2,w3]] σ q τ∧∃ r,q= .agg r∧Hp σ τ [own A9 r (Da s t)]:=by
  refine Lv Vh (Z0z rfl) (Hx.refl σ) ?_
  simp +contextual (disch:=omega) only[go_sem,M9]
  intro n2 f2 τ2 H2 n3 f3 τ3 H3 n4 f4 τ4 H4
  refine by_b H4 (Ec _ _ s (A9.pre hR0 H4.sub) (by omega)) (fun hok=> ?_) (fun hok=> ?_)
  rotate_left
  ·have hd:Da s t=s:=by simp[Da,hok]
   simp +contextual (disch:=omega) only[go_sem]
   obtain⟨es,τ5,R5,K5⟩:=Hl τ4 _ s (A9.pre hR0 H4.sub) (by omega)
   have gl:es.length=4:=A9.len (K5.rd 0 rfl)
   refine by_c H4 R5 K5 fun H5=> ?_
   simp +contextual (disch:=omega) only[go_sem,Bl (cs:=z4') gl rfl,gl,Au gl]
   intro τ8 H8
   exact⟨_,rfl,es,rfl,by rw[hd];exact H8.sel [0] (by decide)⟩
  simp +contextual (disch:=omega) only[go_sem]
  refine by_b H4 (Ec _ _ t (A9.pre hD0 H4.sub) (by omega)) (fun hdk=> ?_) (fun hdk=> ?_)
  rotate_left
  ·have hd:Da s t=s:=by simp[Da,hok,hdk]
   simp +contextual (disch:=omega) only[go_sem]
   obtain⟨es,τ5,R5,K5⟩:=Hl τ4 _ s (A9.pre hR0 H4.sub) (by omega)
   have gl:es.length=4:=A9.len (K5.rd 0 rfl)
   refine by_c H4 R5 K5 fun H5=> ?_
   simp +contextual (disch:=omega) only[go_sem,Bl (cs:=z4') gl rfl,gl,Au gl]
   intro τ8 H8
   exact⟨_,rfl,es,rfl,by rw[hd];exact H8.sel [0] (by decide)⟩
  obtain⟨o1,t1,r1,c1,l5,l7,_⟩:=Gb hok
  obtain⟨o2,t2,r2,c2,l6,_,_⟩:=Gb hdk
  simp +contextual (disch:=omega) only[go_sem]
  obtain⟨kv,τ9,R9,K9⟩:=A0b τ4 a w0 _ _ (qa.pre H4.sub) (p0.pre H4.sub) (by omega) (by omega)
  refine by_c H4 R9 K9 fun H9=> ?_
  have ck:=(H9.hp.sl 0 rfl).cell
  simp +contextual (disch:=omega) only[go_sem,ck]
  intro n5 f5 τ10 _ τ11 H11
  obtain⟨tv,τ12,R12,K12⟩:=N0 τ11 b w1 s.tallies t.tallies (qb.pre H11.sub) (p1.pre H11.sub) G7 [(n3,0),(n2,0)] (Be s t) (fun τ' x hp ht=>N1 τ' n3 n2 _ _ t s (Aw hp (H11.hp.pt 3 rfl)) (Aw hp (H11.hp.pt 4 rfl)) (A9.pre hD0 (H11.sub.trans hp)) (A9.pre hR0 (H11.sub.trans hp)) o2 o1 x.rep (ht.elim (r1 x) (r2 x))) (by omega) (by omega) (Yo t1 t2)
  refine by_c H11 R12 K12 fun H12=> ?_
  have ct:=(H12.hp.sl 0 rfl).cell
  simp +contextual (disch:=omega) only[go_sem,ck,ct,qc.len]
  intro τ13 H13
  have H14:=H13.nil Ai.kd
  have hX:Hx σ τ13 [.th (ow Ai.kd .nilS []),.box 1 n5 [kv,tv,.nilS,.nilS],.th (ow Ab.kd tv (Fs (Be s t) s.tallies t.tallies)),.th (ow pI.kd kv (kMax s.know t.know)),.box 1 n4 z4',.box 1 n3 [w0,w1,w2,w3],.box 1 n2 [a,b,c,v]]:=H14.re [0,2,1,3,4,5,6] (by decide)
  clear H14 H13 H12 H11 H9 H4 H3 H2
  refine Bs s.lives.length 36 0 (fun i env h=>∃ w,env 2= .ptr n2 0∧env 3= .ptr n3 0∧env 4= .ptr n4 0∧env 5= .ptr n5 0∧env 34=c∧env 35=gi s.lives.length∧h=[.th (ow Ai.kd w ((s.lives.take i).filter (Jg t))),.box 1 n5 [kv,tv,w,.nilS],.th (ow Ab.kd tv (Fs (Be s t) s.tallies t.tallies)),.th (ow pI.kd kv (kMax s.know t.know)),.box 1 n4 z4',.box 1 n3 [w0,w1,w2,w3],.box 1 n2 [a,b,c,v]]) (fun env h=>∃ w,env 2= .ptr n2 0∧env 3= .ptr n3 0∧env 4= .ptr n4 0∧env 5= .ptr n5 0∧h=[.th (ow Ai.kd w (s.lives.filter (Jg t))),.box 1 n5 [kv,tv,w,.nilS],.th (ow Ab.kd tv (Fs (Be s t) s.tallies t.tallies)),.th (ow pI.kd kv (kMax s.know t.know)),.box 1 n4 z4',.box 1 n3 [w0,w1,w2,w3],.box 1 n2 [a,b,c,v]]) (fun env h=>False) _ hX (by simp +contextual (disch:=omega) only[go_sem]) ⟨_,by simp +contextual (disch:=omega) only[go_sem],by simp +contextual (disch:=omega) only[go_sem],by simp +contextual (disch:=omega) only[go_sem],by simp +contextual (disch:=omega) only[go_sem],by simp +contextual (disch:=omega) only[go_sem],by simp +contextual (disch:=omega) only[go_sem],rfl⟩ ?_ ?_ ?_ (fun _ _ _ _ h=>h.elim)
  ·clear hX
   rintro J Y W hJ hY hW i env h τ hi ei k0 H ⟨w,e2,e3,e4,e5,e34,e35,rfl⟩
   have L1:=A6 qc hi
   have cw:=(H.hp.sl 0 rfl).cell
   have hbd:=I4 (p:=Jg t) (l:=s.lives) (i:=i) (n:=1073741824) (by omega)
   simp +contextual (disch:=omega) only[go_sem,k0,e2,e3,e4,e5,e34,e35,ei,A4,L1]
   intro n9 f9 τ1 _ τ2 H2
   refine by_r H2 (Oc _ _ t (A9.pre hD0 H2.sub) s.lives[i] (by omega)) ?_
   have kE:Jg t s.lives[i]=(decide (s.lives[i]∈t.lives)|| !B5 t.know s.lives[i].dot):=rfl
   cases h1:decide (s.lives[i]∈t.lives) with
   |true=>
    rw[h1] at kE
    simp +contextual (disch:=omega) only[go_sem,e5,ei,cw]
    intro nl fl τ3 H3
    refine Dn (p:=Ai) H3 2 rfl s.lives[i] Dm (by decide) (by omega) fun w' τ4 H4=> ?_
    have cw':=(H4.hp.sl 2 rfl).cell
    simp +contextual (disch:=omega) only[go_sem,e5,ei,cw']
    intro τ5 H5
    exact hJ _ _ _ _ (H5.re [2,3,4,5,6,7,8] (by decide)) ⟨w',by simp +contextual (disch:=omega) only[go_sem,e2],by simp +contextual (disch:=omega) only[go_sem,e3],by simp +contextual (disch:=omega) only[go_sem,e4],by simp +contextual (disch:=omega) only[go_sem,e5],by simp +contextual (disch:=omega) only[go_sem,e34],by simp +contextual (disch:=omega) only[go_sem,e35],by rw[Ir hi kE];rfl⟩
   |false=>
    rw[h1] at kE
    simp +contextual (disch:=omega) only[go_sem,e3,ei]
    refine by_r H2 (Hi _ w0 _ _ (p0.pre H2.sub) (by omega)) ?_
    cases h2:B5 t.know s.lives[i].dot with
    |true=>
     rw[h2] at kE
     simp +contextual (disch:=omega) only[go_sem,ei]
     exact hJ _ _ _ _ (H2.re [1,2,3,4,5,6,7] (by decide)) ⟨w,by simp +contextual (disch:=omega) only[go_sem,e2],by simp +contextual (disch:=omega) only[go_sem,e3],by simp +contextual (disch:=omega) only[go_sem,e4],by simp +contextual (disch:=omega) only[go_sem,e5],by simp +contextual (disch:=omega) only[go_sem,e34],by simp +contextual (disch:=omega) only[go_sem,e35],by rw[Js hi kE];rfl⟩
    |false=>
     rw[h2] at kE
     simp +contextual (disch:=omega) only[go_sem,e5,ei,cw]
     intro nl fl τ3 H3
     refine Dn (p:=Ai) H3 2 rfl s.lives[i] Dm (by decide) (by omega) fun w' τ4 H4=> ?_
     have cw':=(H4.hp.sl 2 rfl).cell
     simp +contextual (disch:=omega) only[go_sem,e5,ei,cw']
     intro τ5 H5
     exact hJ _ _ _ _ (H5.re [2,3,4,5,6,7,8] (by decide)) ⟨w',by simp +contextual (disch:=omega) only[go_sem,e2],by simp +contextual (disch:=omega) only[go_sem,e3],by simp +contextual (disch:=omega) only[go_sem,e4],by simp +contextual (disch:=omega) only[go_sem,e5],by simp +contextual (disch:=omega) only[go_sem,e34],by simp +contextual (disch:=omega) only[go_sem,e35],by rw[Ir hi kE];rfl⟩
  ·clear hX
   rintro Y hY env h τ ei k0 H ⟨w,e2,e3,e4,e5,e34,e35,rfl⟩
   simp +contextual (disch:=omega) only[go_sem,k0,e35,ei]
   exact hY _ _ _ H ⟨w,e2,e3,e4,e5,by rw[List.take_length]⟩
  clear hX
  rintro env h τ H ⟨w,e2,e3,e4,e5,rfl⟩
  simp +contextual (disch:=omega) only[go_sem,e3,p2.len]
  refine Bs t.lives.length 61 2 (fun i env h=>∃ w,env 2= .ptr n2 0∧env 3= .ptr n3 0∧env 4= .ptr n4 0∧env 5= .ptr n5 0∧env 59=w2∧env 60=gi t.lives.length∧h=[.th (ow Ai.kd w (s.lives.filter (Jg t)++(t.lives.take i).filter (newD s))),.box 1 n5 [kv,tv,w,.nilS],.th (ow Ab.kd tv (Fs (Be s t) s.tallies t.tallies)),.th (ow pI.kd kv (kMax s.know t.know)),.box 1 n4 z4',.box 1 n3 [w0,w1,w2,w3],.box 1 n2 [a,b,c,v]]) (fun env h=>∃ w,env 2= .ptr n2 0∧env 3= .ptr n3 0∧env 4= .ptr n4 0∧env 5= .ptr n5 0∧h=[.th (ow Ai.kd w (s.lives.filter (Jg t)++t.lives.filter (newD s))),.box 1 n5 [kv,tv,w,.nilS],.th (ow Ab.kd tv (Fs (Be s t) s.tallies t.tallies)),.th (ow pI.kd kv (kMax s.know t.know)),.box 1 n4 z4',.box 1 n3 [w0,w1,w2,w3],.box 1 n2 [a,b,c,v]]) (fun env h=>False) _ H (by simp +contextual (disch:=omega) only[go_sem]) ⟨w,by simp +contextual (disch:=omega) only[go_sem,e2],by simp +contextual (disch:=omega) only[go_sem,e3],by simp +contextual (disch:=omega) only[go_sem,e4],by simp +contextual (disch:=omega) only[go_sem,e5],by simp +contextual (disch:=omega) only[go_sem],by simp +contextual (disch:=omega) only[go_sem],by simp⟩ ?_ ?_ ?_ (fun _ _ _ _ h=>h.elim)
  ·clear H e2 e3 e4 e5
   rintro J Y W hJ hY hW i env h τ hi ei k0 H ⟨w,e2,e3,e4,e5,e59,e60,rfl⟩
   have L1:=A6 p2 hi
   have cw:=(H.hp.sl 0 rfl).cell
   simp +contextual (disch:=omega) only[go_sem,k0,e2,e3,e4,e5,e59,e60,ei,A4,L1]
   intro n9 f9 τ1 _ τ2 H2
   refine by_b H2 (Hi _ a _ _ (qa.pre H2.sub) (by omega)) (fun k1=> ?_) (fun k1=> ?_)
   ·simp +contextual (disch:=omega) only[go_sem,ei]
    exact hJ _ _ _ _ (H2.re [1,2,3,4,5,6,7] (by decide)) ⟨w,by simp +contextual (disch:=omega) only[go_sem,e2],by simp +contextual (disch:=omega) only[go_sem,e3],by simp +contextual (disch:=omega) only[go_sem,e4],by simp +contextual (disch:=omega) only[go_sem,e5],by simp +contextual (disch:=omega) only[go_sem,e59],by simp +contextual (disch:=omega) only[go_sem,e60],by rw[Js hi (by simp[newD,k1])];rfl⟩
   ·simp +contextual (disch:=omega) only[go_sem,e5,ei]
    intro nl fl τ3 H3
    refine Dn (p:=Ai) H3 2 rfl t.lives[i] Dm (by decide) (by have:=A3i (p:=Jg t) (q:=newD s) (a:=s.lives) (b:=t.lives) (i:=i) (n:=1073741824) (by omega) (by omega);omega) fun w' τ4 H4=> ?_
    have cw':=(H4.hp.sl 2 rfl).cell
    simp +contextual (disch:=omega) only[go_sem,e5,ei,cw']
    intro τ5 H5
    exact hJ _ _ _ _ (H5.re [2,3,4,5,6,7,8] (by decide)) ⟨w',by simp +contextual (disch:=omega) only[go_sem,e2],by simp +contextual (disch:=omega) only[go_sem,e3],by simp +contextual (disch:=omega) only[go_sem,e4],by simp +contextual (disch:=omega) only[go_sem,e5],by simp +contextual (disch:=omega) only[go_sem,e59],by simp +contextual (disch:=omega) only[go_sem,e60],by rw[Ir hi (by simp[newD,k1]),←List.append_assoc];rfl⟩
  ·clear H e2 e3 e4 e5
   rintro Y hY env h τ ei k0 H ⟨w,e2,e3,e4,e5,e59,e60,rfl⟩
   simp +contextual (disch:=omega) only[go_sem,k0,e60,ei]
   exact hY _ _ _ H ⟨w,e2,e3,e4,e5,by rw[List.take_length]⟩
  clear H e2 e3 e4 e5
  rintro env h τ H ⟨w,e2,e3,e4,e5,rfl⟩
  have hll:=A3i (p:=Jg t) (q:=newD s) (a:=s.lives) (b:=t.lives) (i:=t.lives.length) (n:=1073741824) (by omega) (by omega)
  rw[List.take_length] at hll
  have ck:=(H.hp.sl 3 rfl).cell
  have ct:=(H.hp.sl 2 rfl).cell
  have cw:=(H.hp.sl 0 rfl).cell
  simp +contextual (disch:=omega) only[go_sem,e5]
  obtain⟨τ1,R1,H1⟩:=V5 H.hp 0 rfl (by omega) (Ab2 (A8d (p:=Jg t) l5 l6 l7))
  refine Q8 0 R1 H1 fun H1=> ?_
  simp +contextual (disch:=omega) only[go_sem,e2,e3,e5]
  obtain⟨cv,τ2,R2,K2⟩:=Q9 τ1 v w3 s.cells t.cells (qv.pre H1.sub) (p3.pre H1.sub) (by omega) (by omega) c1 (Ks c2)
  refine by_c H1 R2 K2 fun H2=> ?_
  have cc:=(H2.hp.sl 0 rfl).cell
  simp +contextual (disch:=omega) only[go_sem,e2,e3,e4,e5,cc]
  intro τ3 H3
  have hst:A9.R τ3 (X7 s t) [kv,tv,w,cv]:=⟨_,_,_,_,rfl,H3.hp.sl 4 rfl,H3.hp.sl 3 rfl,H3.hp.sl 1 rfl,H3.hp.sl 0 rfl⟩
  have hms:=Ab9 s t
  refine by_b H3 (Ec _ _ _ hst (by omega)) (fun k4=> ?_) (fun k4=> ?_)
  rotate_left
  ·have hd:Da s t=s:=by simp[Da,hok,hdk,k4]
   simp +contextual (disch:=omega) only[go_sem,e2,e4]
   obtain⟨es,τ5,R5,K5⟩:=Hl τ3 _ s (A9.pre hR0 H3.sub) (by omega)
   have gl:es.length=4:=A9.len (K5.rd 0 rfl)
   refine by_c H3 R5 K5 fun H5=> ?_
   simp +contextual (disch:=omega) only[go_sem,e4,Bl (cs:=z4') gl rfl,gl,Au gl]
   intro τ8 H8
   exact⟨_,rfl,es,rfl,by rw[hd];exact H8.sel [0] (by decide)⟩
  have hd:Da s t=X7 s t:=by simp[Da,hok,hdk,k4]
  simp +contextual (disch:=omega) only[go_sem,e4,e5]
  intro τ8 H8
  exact⟨_,rfl,[kv,tv,w,cv],rfl,by rw[hd];exact Hp.ownState (x:=X7 s t) (H8.sel [4,3,1,0] (by decide))⟩
 obtain⟨q,τ,R,r,rfl,h⟩:=key
 exact⟨r,τ,R,h⟩
theorem Vi (σ:St) (cs ds:List GV) (a b:State) (hR:A9.R σ a cs) (hS:A9.R σ b ds) (hl:Ad a≤1099511627776):Ret Tryz.prog Oa [.agg cs,.agg ds] σ (.bool (decide (a=b))) σ:=by
 obtain⟨v0,v1,v2,v3,rfl,q0,q1,q2,q3⟩:=hR
 obtain⟨u0,u1,u2,u3,rfl,p0,p1,p2,p3⟩:=hS
 obtain⟨l0,l1,l2,l3⟩:=Hm hl
 clear hl
 refine Em X9 (Z0z rfl) trivial ?_
 simp +contextual (disch:=omega) only[go_sem,Ob]
 intro n1 f1 τ0 _ n2 f2 τ H
 have S:=H.sub
 refine by_r H (Lu _ v0 u0 _ _ (q0.pre S) (p0.pre S) l0) ?_
 by_cases h0:a.know=b.know
 rotate_left
 ·have d:=Gc (a:=a) (b:=b) fun h=>h0 h.1
  have e0:decide (a.know=b.know)=false:=decide_eq_false h0
  simp +contextual (disch:=omega) only[go_sem,e0,d]
  try exact fun _=>rfl
 have e0:decide (a.know=b.know)=true:=decide_eq_true h0
 simp +contextual (disch:=omega) only[go_sem,e0]
 refine by_r H (Jt _ v1 u1 _ _ (q1.pre S) (p1.pre S) l1) ?_
 by_cases h1:a.tallies=b.tallies
 rotate_left
 ·have d:=Gc (a:=a) (b:=b) fun h=>h1 h.2.1
  have e1:decide (a.tallies=b.tallies)=false:=decide_eq_false h1
  simp +contextual (disch:=omega) only[go_sem,e1,d]
  try exact fun _=>rfl
 have e1:decide (a.tallies=b.tallies)=true:=decide_eq_true h1
 simp +contextual (disch:=omega) only[go_sem,e1]
 refine by_r H (Kz _ v2 u2 _ _ (q2.pre S) (p2.pre S) l2) ?_
 by_cases h2:a.lives=b.lives
 rotate_left
 ·have d:=Gc (a:=a) (b:=b) fun h=>h2 h.2.2.1
  have e2:decide (a.lives=b.lives)=false:=decide_eq_false h2
  simp +contextual (disch:=omega) only[go_sem,e2,d]
  try exact fun _=>rfl
 have e2:decide (a.lives=b.lives)=true:=decide_eq_true h2
 simp +contextual (disch:=omega) only[go_sem,e2]
 refine by_r H (L3 _ v3 u3 _ _ (q3.pre S) (p3.pre S) l3) ?_
 have d:decide (a=b)=decide (a.cells=b.cells):=by
  rw[Bool.eq_iff_iff]
  simp only[decide_eq_true_eq,State.eq_iff,h0,h1,h2,true_and]
 simp +contextual (disch:=omega) only[go_sem,d]
 try exact fun _=>rfl
theorem L4 (σ:St) (cs ds:List GV) (a b:State) (hR:A9.R σ a cs) (hS:A9.R σ b ds) (hl:Ad a≤1073741824) (hm:Ad b≤1073741824):Ret Tryz.prog Yz [.agg cs,.agg ds] σ (.bool (behind a b)) σ:=by
 have ga:cs.length=4:=A9.len hR
 have gb:ds.length=4:=A9.len hS
 refine Em A5w (Z0z rfl) trivial ?_
 simp +contextual (disch:=omega) only[go_sem,Z1]
 intro n1 f1 τ0 _ n2 f2 τ H
 have S:=H.sub
 simp +contextual (disch:=omega) only[go_sem,Au ga,Au gb]
 refine by_b H (Ec _ _ a (A9.pre hR S) (by omega)) (fun h0=> ?_) (fun h0=> ?_)
 rotate_left
 ·have d:behind a b=false:=by simp[behind,h0]
  simp +contextual (disch:=omega) only[go_sem,d]
  try exact fun _=>rfl
 simp +contextual (disch:=omega) only[go_sem,Au ga,Au gb]
 refine by_b H (Ec _ _ b (A9.pre hS S) (by omega)) (fun h1=> ?_) (fun h1=> ?_)
 rotate_left
 ·have d:behind a b=false:=by simp[behind,h0,h1]
  simp +contextual (disch:=omega) only[go_sem,d]
  try exact fun _=>rfl
 simp +contextual (disch:=omega) only[go_sem,Au ga,Au gb]
 obtain⟨r,τ2,R2,K2⟩:=Sp τ cs a (A9.pre hR S) ds b (A9.pre hS S) hl hm
 refine by_c H R2 K2 fun H2=> ?_
 simp +contextual (disch:=omega) only[go_sem,Au ga,Au gb]
 have hmm:=A70 a b
 refine by_r H2 (Vi _ r ds (Da a b) b (H2.hp.rd 0 rfl) (A9.pre hS H2.sub) (by omega)) ?_
 have d:behind a b=decide (Da a b=b):=by simp[behind,h0,h1]
 simp +contextual (disch:=omega) only[go_sem,d]
 try exact fun _=>rfl
end
section
open Go Go.RowKit
abbrev Ma:Nat:=371
def Mb:Fn1:=⟨77,[.t 4],(rg [oX 2 0,oX 3 1,o 4 (.mov (.k .nilS))] (rg [o 10 (.build [.nilS,.nilS,.nilS,.nilS] []),o 5 (.new [.nilS,.nilS,.nilS,.nilS]),oS 4 5 10] (.seq (rg [oV 6 (ki 0)] (.blk 0 (.lop (.seq (rg [oM 11 6,oF 12 1 2,oL 13 12,oN 14 13,oB 15 .lss 11 14] (.cnd (.t 15) .skip (.ext 0))) (.seq (.blk 1 (rg [oF 18 1 2,oL 19 18,oM 20 6,oI 21 3 19 20,oW 22 3 21,o 7 (.new [(.str ⟨#[]⟩),z0,z0]),oS 3 7 22] (.seq (.drw [oF 23 0 2,oL 24 23,oF 25 1 7,oL 26 25,oI 27 1 24 26,oL 28 27,oF 29 0 3,oL 30 29,oF 31 1 7,oL 32 31,oI 33 1 30 32,oL 34 33] [oB 35 .geq 28 34]) (.cnd (.t 35) (.reg [oF 36 0 7,oL 37 36,oF 38 1 7,oL 39 38,oF 40 2 7,oL 41 40,o 42 (.call 319 [(.t 5),(.t 37),(.t 39),(.t 41)])]) .skip)))) (.reg [oM 16 6,oZ 17 16 1,oM 6 17])))))) (.seq (rg [oV 8 (ki 0)] (.blk 2 (.lop (.seq (rg [oM 43 8,oF 44 1 3,oL 45 44,oN 46 45,oB 47 .lss 43 46] (.cnd (.t 47) .skip (.ext 2))) (.seq (.blk 3 (rg [oF 50 1 3,oL 51 50,oM 52 8,oI 53 3 51 52,oW 54 3 53,o 9 (.new [(.str ⟨#[]⟩),z0,z0]),oS 3 9 54] (.seq (.drw [oF 55 0 3,oL 56 55,oF 57 1 9,oL 58 57,oI 59 1 56 58,oL 60 59,oF 61 0 2,oL 62 61,oF 63 1 9,oL 64 63,oI 65 1 62 64,oL 66 65] [oB 67 .gtr 60 66]) (.cnd (.t 67) (.reg [oF 68 0 9,oL 69 68,oF 70 1 9,oL 71 70,oF 72 2 9,oL 73 72,o 74 (.call 319 [(.t 5),(.t 69),(.t 71),(.t 73)])]) .skip)))) (.reg [oM 48 8,oZ 49 48 1,oM 8 49])))))) (rg [oF 75 1 5,oL 76 75,oM 4 76] .ret)))))⟩
theorem Vj:A8 Tryz.prog Ma=some Mb:=by kernel_rfl
abbrev Ic:Nat:=314
def Mc:Fn1:=⟨95,[.c 4 true 4],(rg [oX 2 0,oX 3 1,o 4 (.new [.nilS,.nilS,.nilS,.nilS])] (.seq (rg [oW 9 4 2,oC 10 199 9,oU 11 10,oM 12 11,og 13 12 false (.ld true 4 (.t 3)),og 14 12 false (.call 199 [(.t 13)]),og 15 12 false (.un .not (.t 14)),o 16 (.pick (.t 12) kt (.t 15))] (.cnd (.t 16) (rg [oW 17 4 2,oC 18 247 17,oS 4 4 18] .ret) .skip)) (.seq (.drw [oF 19 0 2,oL 20 19,oF 21 0 3,oL 22 21,oD 23 181 20 22,oW 24 4 2,oW 25 4 3,oD 26 371 24 25,oF 27 3 2,oL 28 27,oF 29 3 3,oL 30 29,oD 31 339 28 30,o 32 (.build [.nilS,.nilS,.nilS,.nilS] [(0,1,(.t 23)),(1,1,(.t 26)),(3,1,(.t 31))]),o 5 (.new [.nilS,.nilS,.nilS,.nilS])] [oS 4 5 32]) (.seq (rg [oV 6 (ki 0)] (.blk 0 (.lop (.seq (rg [oM 33 6,oF 34 2 2,oL 35 34,oN 36 35,oB 37 .lss 33 36] (.cnd (.t 37) .skip (.ext 0))) (.seq (.blk 1 (rg [oF 40 2 2,oL 41 40,oM 42 6,oI 43 6 41 42,oW 44 6 43,o 7 (.new [(.bool false),(.str ⟨#[]⟩),(.str ⟨#[]⟩),z0,z0,z0]),oS 6 7 44] (rg [oF 45 0 3,oL 46 45,oF 47 4 7,oW 48 2 47,oD 49 45 46 48,oU 50 49,oM 51 50,og 52 51 false (.fad 2 (.t 3)),og 53 51 false (.ld false 1 (.t 52)),og 54 51 false (.ld true 6 (.t 7)),og 55 51 false (.call 234 [(.t 53),(.t 54)]),o 56 (.pick (.t 51) kt (.t 55))] (.cnd (.t 56) (.reg [oF 57 2 5,oL 58 57,oW 59 6 7,o 60 (.lit 6 1 [(.bool false),(.str ⟨#[]⟩),(.str ⟨#[]⟩),z0,z0,z0] [(0,6,(.t 59))]),o 61 (.app 6 64 [(.bool false),(.str ⟨#[]⟩),(.str ⟨#[]⟩),z0,z0,z0] (.t 58) (.t 60)),oF 62 2 5,oS 1 62 61]) .skip)))) (.reg [oM 38 6,oZ 39 38 1,oM 6 39])))))) (.seq (rg [oV 8 (ki 0)] (.blk 2 (.lop (.seq (rg [oM 63 8,oF 64 2 3,oL 65 64,oN 66 65,oB 67 .lss 63 66] (.cnd (.t 67) .skip (.ext 2))) (.seq (.blk 3 (.seq (.drw [oF 70 0 2,oL 71 70,oF 72 2 3,oL 73 72,oM 74 8,oI 75 6 73 74,oF 76 4 75,oW 77 2 76] [oD 78 45 71 77,oU 79 78]) (.cnd (.t 79) (.drw [oF 80 2 5,oL 81 80,oF 82 2 3,oL 83 82,oM 84 8,oI 85 6 83 84,oW 86 6 85] [oD 87 320 81 86,oF 88 2 5,oS 1 88 87]) .skip))) (.reg [oM 68 8,oZ 69 68 1,oM 8 69])))))) (.seq (rg [oW 89 4 5,oC 90 199 89,oU 91 90] (.cnd (.t 91) (rg [oW 92 4 2,oC 93 247 92,oS 4 4 93] .ret) .skip)) (rg [oW 94 4 5,oS 4 4 94] .ret)))))))⟩
theorem Vk:A8 Tryz.prog Ic=some Mc:=by kernel_rfl
abbrev Z2:Nat:=233
def Z3:Fn1:=⟨18,[.t 4],(rg [oX 2 0,oX 3 1,oV 4 kf] (.seq (.drw [oW 5 4 2,oC 6 199 5,oM 7 6,og 8 7 true (.ld true 4 (.t 3)),og 9 7 true (.call 199 [(.t 8)]),o 10 (.pick (.t 7) (.t 9) kf),oM 11 10,og 12 11 true (.ld true 4 (.t 2)),og 13 11 true (.ld true 4 (.t 3)),og 14 11 true (.call 314 [(.t 12),(.t 13)]),og 15 11 true (.ld true 4 (.t 3))] [og 16 11 true (.call 47 [(.t 14),(.t 15)]),o 17 (.pick (.t 11) (.t 16) kf),oM 4 17]) .ret))⟩
theorem A5x:A8 Tryz.prog Z2=some Z3:=by kernel_rfl
theorem Abb {s t:State} {r:Int}:decide (at0 t.know r≤at0 s.know r)= !Be s t r:=by
 unfold Be
 rw[← Bool.not_not (b:=decide (at0 t.know r≤at0 s.know r)),←decide_not]
 congr 2
 exact propext Int.not_le
theorem Abc {s t:State} {T:List Tally} (hT:T.length≤s.tallies.length+t.tallies.length∧sumL Ar T≤sumL Ar s.tallies+sumL Ar t.tallies):Ad ⟨[],T,[],[]⟩≤Ad s+Ad t:=by
 simp only[Ad,sumL,List.map_nil,List.sum_nil,List.length_nil] at*
 omega
set_option maxHeartbeats 4000000 in
theorem Sq (σ:St) (cs:List GV) (s:State) (hR:A9.R σ s cs) (ds:List GV) (t:State) (hD:A9.R σ t ds) (hl:Ad s≤1073741824) (hm:Ad t≤1073741824) (hok:Bh s=true) (hdk:Bh t=true):∃ w τ,Ret Tryz.prog Ma [.agg cs,.agg ds] σ w τ∧Hp σ τ [ow Ab.kd w (Fs (Be s t) s.tallies t.tallies)]:=by
 obtain⟨a,b,c,v,rfl,qa,qb,qc,qv⟩:=hR
 obtain⟨w0,w1,w2,w3,rfl,p0,p1,p2,p3⟩:=hD
 obtain⟨ls0,ls1,ls2,ls3⟩:=Hm hl
 obtain⟨m0,m1,m2,m3⟩:=Hm hm
 obtain⟨o1,t1,r1,_,_,_,u1⟩:=Gb hok
 obtain⟨o2,t2,r2,_,_,_,u2⟩:=Gb hdk
 have hmk:=Yo (f:=Be s t) t1 t2
 refine Lv Vj (Z0z rfl) (Hx.refl σ) ?_
 simp +contextual (disch:=omega) only[go_sem,Mb]
 intro n2 f2 τ2 H2 n3 f3 τ3 H3 n5 f5 τ7 _ τ8 H8
 have H9:=(((H8.nil Ae.kd).nil Ai.kd).nil Ab.kd).nil pI.kd
 refine Bs s.tallies.length 6 0 (fun i env h=>∃ v0 v1 v2 v3,env 2= .ptr n2 0∧env 3= .ptr n3 0∧env 5= .ptr n5 0∧h=[.box 1 n5 [v0,v1,v2,v3],.th (ow pI.kd v0 []),.th (ow Ab.kd v1 (Bc Ah ((s.tallies.take i).filter fun x=> !Be s t x.rep))),.th (ow Ai.kd v2 []),.th (ow Ae.kd v3 []),.box 1 n3 [w0,w1,w2,w3],.box 1 n2 [a,b,c,v]]) (fun env h=>∃ v0 v1 v2 v3,env 2= .ptr n2 0∧env 3= .ptr n3 0∧env 5= .ptr n5 0∧h=[.box 1 n5 [v0,v1,v2,v3],.th (ow pI.kd v0 []),.th (ow Ab.kd v1 (Bc Ah (s.tallies.filter fun x=> !Be s t x.rep))),.th (ow Ai.kd v2 []),.th (ow Ae.kd v3 []),.box 1 n3 [w0,w1,w2,w3],.box 1 n2 [a,b,c,v]]) (fun env h=>False) _ (H9.re [4,0,1,2,3,5,6] (by decide)) (by simp +contextual (disch:=omega) only[go_sem]) ⟨.nilS,.nilS,.nilS,.nilS,by simp +contextual (disch:=omega) only[go_sem],by simp +contextual (disch:=omega) only[go_sem],by simp +contextual (disch:=omega) only[go_sem],rfl⟩ ?_ ?_ ?_ (fun _ _ _ _ h=>h.elim)
 ·clear H2 H3 H8 H9
  rintro J Y W hJ hY hW i env h τ hi ei k0 H ⟨v0,v1,v2,v3,e2,e3,e5,rfl⟩
  have B1:=Aa qb hi
  have hin:=r1 s.tallies[i] (List.getElem_mem hi)
  have A1:=Jk p0 o2 hin.1 hin.2
  have A2:=Jk qa o1 hin.1 hin.2
  simp +contextual (disch:=omega) only[go_sem,k0,e2,e3,e5,ei,A4,B1,qb.len]
  intro n7 f7 τ1 _ τ2 H2
  cases hf:Be s t s.tallies[i].rep with
  |true=>
   simp +contextual (disch:=omega) only[go_sem,e2,e3,e5,ei,A1,A2,Abb,hf,Bool.not_true]
   exact hJ _ _ _ _ (H2.re [1,2,3,4,5,6,7] (by decide)) ⟨v0,v1,v2,v3,by simp +contextual (disch:=omega) only[go_sem,e2],by simp +contextual (disch:=omega) only[go_sem,e3],by simp +contextual (disch:=omega) only[go_sem,e5],by rw[Js hi (by rw[hf];rfl)];rfl⟩
  |false=>
   simp +contextual (disch:=omega) only[go_sem,e2,e3,e5,ei,A1,A2,Abb,hf,Bool.not_false]
   have hpm:=A6x (fun x=> !Be s t x.rep) (fun x=>Be s t x.rep) s.tallies t.tallies i 0
   rw[List.take_zero,List.filter_nil,List.append_nil] at hpm
   have hpm:=Abc hpm
   obtain⟨τ3,R3,v0',v1',v2',v3',H3⟩:=M6 (s:=⟨[],(Bc Ah ((s.tallies.take i).filter fun x=> !Be s t x.rep)),[],[]⟩) (rest:=[pt 1 n7 [.str s.tallies[i].obj,gi s.tallies[i].rep,gi s.tallies[i].sum],pt 1 n3 [w0,w1,w2,w3],pt 1 n2 [a,b,c,v]]) ⟨v0,v1,v2,v3,H2.sel [2,3,4,5,1,0,6,7] (by decide)⟩ s.tallies[i].obj s.tallies[i].rep s.tallies[i].sum (Nat.le_trans hpm (by omega)) (u1 _ (List.getElem_mem hi)) (fun x hx=>u1 x (List.mem_of_mem_take (List.mem_filter.1 (Ym.1 hx)).1))
   have H3':Hx σ τ3 [.box 1 n5 [v0',v1',v2',v3'],.th (ow pI.kd v0' []),.th (ow Ab.kd v1' (Gf (Bc Ah ((s.tallies.take i).filter fun x=> !Be s t x.rep)) s.tallies[i].obj s.tallies[i].rep s.tallies[i].sum)),.th (ow Ai.kd v2' []),.th (ow Ae.kd v3' []),.box 1 n3 [w0,w1,w2,w3],.box 1 n2 [a,b,c,v]]:=H3.sel [4,0,1,2,3,6,7] (by decide)
   refine by_m R3 H3' ?_
   simp +contextual (disch:=omega) only[go_sem,ei]
   refine hJ _ _ _ _ H3' ⟨v0',v1',v2',v3',by simp +contextual (disch:=omega) only[go_sem,e2],by simp +contextual (disch:=omega) only[go_sem,e3],by simp +contextual (disch:=omega) only[go_sem,e5],?_⟩
   have hfl:(s.tallies.take (i+1)).filter (fun x=> !Be s t x.rep)=(s.tallies.take i).filter (fun x=> !Be s t x.rep)++[s.tallies[i]]:=Ir hi (by rw[hf];rfl)
   rw[hfl,←A3l hmk (by rw[← hfl];exact(Ab5 _ _ _).trans (List.sublist_append_left _ _))]
 ·clear H2 H3 H8 H9
  rintro Y hY env h τ ei k0 H ⟨v0,v1,v2,v3,e2,e3,e5,rfl⟩
  simp +contextual (disch:=omega) only[go_sem,k0,e2,ei,qb.len]
  exact hY _ _ _ H ⟨v0,v1,v2,v3,e2,e3,e5,by rw[List.take_length]⟩
 clear H2 H3 H8 H9
 rintro env h τ H ⟨v0,v1,v2,v3,e2,e3,e5,rfl⟩
 simp +contextual (disch:=omega) only[go_sem]
 refine Bs t.tallies.length 8 2 (fun i env h=>∃ v0 v1 v2 v3,env 2= .ptr n2 0∧env 3= .ptr n3 0∧env 5= .ptr n5 0∧h=[.box 1 n5 [v0,v1,v2,v3],.th (ow pI.kd v0 []),.th (ow Ab.kd v1 (Bc Ah (s.tallies.filter (fun x=> !Be s t x.rep)++(t.tallies.take i).filter fun x=>Be s t x.rep))),.th (ow Ai.kd v2 []),.th (ow Ae.kd v3 []),.box 1 n3 [w0,w1,w2,w3],.box 1 n2 [a,b,c,v]]) (fun env h=>∃ v0 v1 v2 v3,env 5= .ptr n5 0∧h=[.box 1 n5 [v0,v1,v2,v3],.th (ow pI.kd v0 []),.th (ow Ab.kd v1 (Fs (Be s t) s.tallies t.tallies)),.th (ow Ai.kd v2 []),.th (ow Ae.kd v3 []),.box 1 n3 [w0,w1,w2,w3],.box 1 n2 [a,b,c,v]]) (fun env h=>False) _ H (by simp +contextual (disch:=omega) only[go_sem]) ⟨v0,v1,v2,v3,by simp +contextual (disch:=omega) only[go_sem,e2],by simp +contextual (disch:=omega) only[go_sem,e3],by simp +contextual (disch:=omega) only[go_sem,e5],by simp⟩ ?_ ?_ ?_ (fun _ _ _ _ h=>h.elim)
 ·clear H e2 e3 e5
  rintro J Y W hJ hY hW i env h τ hi ei k0 H ⟨v0,v1,v2,v3,e2,e3,e5,rfl⟩
  have B1:=Aa p1 hi
  have hin:=r2 t.tallies[i] (List.getElem_mem hi)
  have A1:=Jk p0 o2 hin.1 hin.2
  have A2:=Jk qa o1 hin.1 hin.2
  have gt:decide (at0 s.know t.tallies[i].rep<at0 t.know t.tallies[i].rep)=Be s t t.tallies[i].rep:=rfl
  simp +contextual (disch:=omega) only[go_sem,k0,e2,e3,e5,ei,A4,B1,p1.len]
  intro n7 f7 τ1 _ τ2 H2
  cases hf:Be s t t.tallies[i].rep with
  |false=>
   simp +contextual (disch:=omega) only[go_sem,e2,e3,e5,ei,A1,A2,gt,hf]
   exact hJ _ _ _ _ (H2.re [1,2,3,4,5,6,7] (by decide)) ⟨v0,v1,v2,v3,by simp +contextual (disch:=omega) only[go_sem,e2],by simp +contextual (disch:=omega) only[go_sem,e3],by simp +contextual (disch:=omega) only[go_sem,e5],by rw[Js hi hf];rfl⟩
  |true=>
   simp +contextual (disch:=omega) only[go_sem,e2,e3,e5,ei,A1,A2,gt,hf]
   have hpm:=A6x (fun x=> !Be s t x.rep) (fun x=>Be s t x.rep) s.tallies t.tallies s.tallies.length i
   rw[List.take_length] at hpm
   have hpm:=Abc hpm
   obtain⟨τ3,R3,v0',v1',v2',v3',H3⟩:=M6 (s:=⟨[],(Bc Ah (s.tallies.filter (fun x=> !Be s t x.rep)++(t.tallies.take i).filter fun x=>Be s t x.rep)),[],[]⟩) (rest:=[pt 1 n7 [.str t.tallies[i].obj,gi t.tallies[i].rep,gi t.tallies[i].sum],pt 1 n3 [w0,w1,w2,w3],pt 1 n2 [a,b,c,v]]) ⟨v0,v1,v2,v3,H2.sel [2,3,4,5,1,0,6,7] (by decide)⟩ t.tallies[i].obj t.tallies[i].rep t.tallies[i].sum (Nat.le_trans hpm (by omega)) (u2 _ (List.getElem_mem hi)) (fun x hx=>(List.mem_append.1 (Ym.1 hx)).elim (fun h=>u1 x (List.mem_filter.1 h).1) fun h=>u2 x (List.mem_of_mem_take (List.mem_filter.1 h).1))
   have H3':Hx σ τ3 [.box 1 n5 [v0',v1',v2',v3'],.th (ow pI.kd v0' []),.th (ow Ab.kd v1' (Gf (Bc Ah (s.tallies.filter (fun x=> !Be s t x.rep)++(t.tallies.take i).filter fun x=>Be s t x.rep)) t.tallies[i].obj t.tallies[i].rep t.tallies[i].sum)),.th (ow Ai.kd v2' []),.th (ow Ae.kd v3' []),.box 1 n3 [w0,w1,w2,w3],.box 1 n2 [a,b,c,v]]:=H3.sel [4,0,1,2,3,6,7] (by decide)
   refine by_m R3 H3' ?_
   simp +contextual (disch:=omega) only[go_sem,ei]
   refine hJ _ _ _ _ H3' ⟨v0',v1',v2',v3',by simp +contextual (disch:=omega) only[go_sem,e2],by simp +contextual (disch:=omega) only[go_sem,e3],by simp +contextual (disch:=omega) only[go_sem,e5],?_⟩
   have hfl:(t.tallies.take (i+1)).filter (fun x=>Be s t x.rep)=(t.tallies.take i).filter (fun x=>Be s t x.rep)++[t.tallies[i]]:=Ir hi hf
   rw[hfl,←List.append_assoc,←A3l hmk (by rw[List.append_assoc,←hfl];exact List.Sublist.append (List.Sublist.refl _) (Ab5 _ _ _))]
 ·clear H e2 e3 e5
  rintro Y hY env h τ ei k0 H ⟨v0,v1,v2,v3,e2,e3,e5,rfl⟩
  simp +contextual (disch:=omega) only[go_sem,k0,e3,ei,p1.len]
  exact hY _ _ _ H ⟨v0,v1,v2,v3,e5,by rw[List.take_length];rfl⟩
 clear H e2 e3 e5 v0 v1 v2 v3
 rintro env h τ H ⟨v0,v1,v2,v3,e5,rfl⟩
 simp +contextual (disch:=omega) only[go_sem,e5]
 exact fun _=>⟨_,rfl,H.sel [2] (by decide)⟩
set_option maxHeartbeats 4000000 in
theorem Sr (σ:St) (cs:List GV) (s:State) (hR:A9.R σ s cs) (ds:List GV) (t:State) (hD:A9.R σ t ds) (hl:Ad s≤1073741824) (hm:Ad t≤1073741824):∃ r τ,Ret Tryz.prog Ic [.agg cs,.agg ds] σ (.agg r) τ∧Hp σ τ [own A9 r (Da s t)]:=by
 have hR0:=hR
 have hD0:=hD
 obtain⟨a,b,c,v,rfl,qa,qb,qc,qv⟩:=hR
 obtain⟨w0,w1,w2,w3,rfl,p0,p1,p2,p3⟩:=hD
 obtain⟨ls0,ls1,ls2,ls3⟩:=Hm hl
 obtain⟨m0,m1,m2,m3⟩:=Hm hm
 have key:∃ q τ,Ret Tryz.prog Ic [.agg [a,b,c,v],.agg [w0,w1,w2,w3]] σ q τ∧∃ r,q= .agg r∧Hp σ τ [own A9 r (Da s t)]:=by
  refine Lv Vk (Z0z rfl) (Hx.refl σ) ?_
  simp +contextual (disch:=omega) only[go_sem,Mc]
  intro n2 f2 τ2 H2 n3 f3 τ3 H3 n4 f4 τ4 H4
  refine by_b H4 (Ed _ _ s (A9.pre hR0 H4.sub) (by omega)) (fun hok=> ?_) (fun hok=> ?_)
  rotate_left
  ·have hd:Da s t=s:=by simp[Da,hok]
   simp +contextual (disch:=omega) only[go_sem]
   obtain⟨es,τ5,R5,K5⟩:=J9 τ4 _ s (A9.pre hR0 H4.sub) (by omega)
   have gl:es.length=4:=A9.len (K5.rd 0 rfl)
   refine by_c H4 R5 K5 fun H5=> ?_
   simp +contextual (disch:=omega) only[go_sem,Bl (cs:=z4') gl rfl,gl,Au gl]
   intro τ8 H8
   exact⟨_,rfl,es,rfl,by rw[hd];exact H8.sel [0] (by decide)⟩
  simp +contextual (disch:=omega) only[go_sem]
  refine by_b H4 (Ed _ _ t (A9.pre hD0 H4.sub) (by omega)) (fun hdk=> ?_) (fun hdk=> ?_)
  rotate_left
  ·have hd:Da s t=s:=by simp[Da,hok,hdk]
   simp +contextual (disch:=omega) only[go_sem]
   obtain⟨es,τ5,R5,K5⟩:=J9 τ4 _ s (A9.pre hR0 H4.sub) (by omega)
   have gl:es.length=4:=A9.len (K5.rd 0 rfl)
   refine by_c H4 R5 K5 fun H5=> ?_
   simp +contextual (disch:=omega) only[go_sem,Bl (cs:=z4') gl rfl,gl,Au gl]
   intro τ8 H8
   exact⟨_,rfl,es,rfl,by rw[hd];exact H8.sel [0] (by decide)⟩
  obtain⟨o1,t1,r1,c1,l5,l7,_⟩:=Gb hok
  obtain⟨o2,t2,r2,c2,l6,_,_⟩:=Gb hdk
  simp +contextual (disch:=omega) only[go_sem]
  obtain⟨kv,τ9,R9,K9⟩:=A0a τ4 a w0 _ _ (qa.pre H4.sub) (p0.pre H4.sub) (by omega) (by omega)
  refine by_c H4 R9 K9 fun H9=> ?_
  have ck:=(H9.hp.sl 0 rfl).cell
  simp +contextual (disch:=omega) only[go_sem,ck]
  obtain⟨tv,τ10,R10,K10⟩:=Sq τ9 _ s (A9.pre hR0 H9.sub) _ t (A9.pre hD0 H9.sub) hl hm hok hdk
  refine by_c H9 R10 K10 fun H10=> ?_
  have ct:=(H10.hp.sl 0 rfl).cell
  simp +contextual (disch:=omega) only[go_sem,ck,ct]
  obtain⟨cv,τ11,R11,K11⟩:=X3 τ10 v w3 s.cells t.cells (qv.pre H10.sub) (p3.pre H10.sub) (by omega) (by omega) c1 (Ks c2)
  refine by_c H10 R11 K11 fun H11=> ?_
  have cc:=(H11.hp.sl 0 rfl).cell
  simp +contextual (disch:=omega) only[go_sem,ck,ct,cc]
  intro n5 f5 τ12 _ τ13 H13
  have H14:=H13.nil Ai.kd
  have hX:Hx σ τ13 [.th (ow Ai.kd .nilS []),.box 1 n5 [kv,tv,.nilS,cv],.th (ow Ae.kd cv (Cy s.cells t.cells)),.th (ow Ab.kd tv (Fs (Be s t) s.tallies t.tallies)),.th (ow pI.kd kv (kMax s.know t.know)),.box 1 n4 z4',.box 1 n3 [w0,w1,w2,w3],.box 1 n2 [a,b,c,v]]:=H14
  clear H14 H13 H11 H10 H9 H4 H3 H2
  refine Bs s.lives.length 6 0 (fun i env h=>∃ w,env 2= .ptr n2 0∧env 3= .ptr n3 0∧env 4= .ptr n4 0∧env 5= .ptr n5 0∧h=[.th (ow Ai.kd w ((s.lives.take i).filter (Jg t))),.box 1 n5 [kv,tv,w,cv],.th (ow Ae.kd cv (Cy s.cells t.cells)),.th (ow Ab.kd tv (Fs (Be s t) s.tallies t.tallies)),.th (ow pI.kd kv (kMax s.know t.know)),.box 1 n4 z4',.box 1 n3 [w0,w1,w2,w3],.box 1 n2 [a,b,c,v]]) (fun env h=>∃ w,env 2= .ptr n2 0∧env 3= .ptr n3 0∧env 4= .ptr n4 0∧env 5= .ptr n5 0∧h=[.th (ow Ai.kd w (s.lives.filter (Jg t))),.box 1 n5 [kv,tv,w,cv],.th (ow Ae.kd cv (Cy s.cells t.cells)),.th (ow Ab.kd tv (Fs (Be s t) s.tallies t.tallies)),.th (ow pI.kd kv (kMax s.know t.know)),.box 1 n4 z4',.box 1 n3 [w0,w1,w2,w3],.box 1 n2 [a,b,c,v]]) (fun env h=>False) _ hX (by simp +contextual (disch:=omega) only[go_sem]) ⟨_,by simp +contextual (disch:=omega) only[go_sem],by simp +contextual (disch:=omega) only[go_sem],by simp +contextual (disch:=omega) only[go_sem],by simp +contextual (disch:=omega) only[go_sem],rfl⟩ ?_ ?_ ?_ (fun _ _ _ _ h=>h.elim)
  ·clear hX
   rintro J Y W hJ hY hW i env h τ hi ei k0 H ⟨w,e2,e3,e4,e5,rfl⟩
   have L1:=A6 qc hi
   have cw:=(H.hp.sl 0 rfl).cell
   have hbd:=I4 (p:=Jg t) (l:=s.lives) (i:=i) (n:=1073741824) (by omega)
   simp +contextual (disch:=omega) only[go_sem,k0,e2,e3,e4,e5,ei,A4,L1,qc.len]
   intro n9 f9 τ1 _ τ2 H2
   try simp +contextual (disch:=omega) only[go_sem,e3]
   refine by_r H2 (Hh _ w0 _ _ (p0.pre H2.sub) (by omega)) ?_
   have kE:Jg t s.lives[i]=(decide (s.lives[i]∈t.lives)|| !B5 t.know s.lives[i].dot):=rfl
   cases h2:B5 t.know s.lives[i].dot with
   |false=>
    rw[h2] at kE
    have kE:Jg t s.lives[i]=true:=by rw[kE];simp
    simp +contextual (disch:=omega) only[go_sem,e5,ei,cw]
    intro nl fl τ3 H3
    refine Dn (p:=Ai) H3 2 rfl s.lives[i] Dm (by decide) (by omega) fun w' τ4 H4=> ?_
    have cw':=(H4.hp.sl 2 rfl).cell
    simp +contextual (disch:=omega) only[go_sem,e5,ei,cw']
    intro τ5 H5
    exact hJ _ _ _ _ (H5.re [2,3,4,5,6,7,8,9] (by decide)) ⟨w',by simp +contextual (disch:=omega) only[go_sem,e2],by simp +contextual (disch:=omega) only[go_sem,e3],by simp +contextual (disch:=omega) only[go_sem,e4],by simp +contextual (disch:=omega) only[go_sem,e5],by rw[Ir hi kE];rfl⟩
   |true=>
    simp +contextual (disch:=omega) only[go_sem,e3,ei]
    refine by_r H2 (Rg _ w2 _ (p2.pre H2.sub) s.lives[i] (by omega)) ?_
    cases h1:decide (s.lives[i]∈t.lives) with
    |false=>
     rw[h1,h2] at kE
     simp +contextual (disch:=omega) only[go_sem,ei]
     exact hJ _ _ _ _ (H2.re [1,2,3,4,5,6,7,8] (by decide)) ⟨w,by simp +contextual (disch:=omega) only[go_sem,e2],by simp +contextual (disch:=omega) only[go_sem,e3],by simp +contextual (disch:=omega) only[go_sem,e4],by simp +contextual (disch:=omega) only[go_sem,e5],by rw[Js hi kE];rfl⟩
    |true=>
     rw[h1] at kE
     simp +contextual (disch:=omega) only[go_sem,e5,ei,cw]
     intro nl fl τ3 H3
     refine Dn (p:=Ai) H3 2 rfl s.lives[i] Dm (by decide) (by omega) fun w' τ4 H4=> ?_
     have cw':=(H4.hp.sl 2 rfl).cell
     simp +contextual (disch:=omega) only[go_sem,e5,ei,cw']
     intro τ5 H5
     exact hJ _ _ _ _ (H5.re [2,3,4,5,6,7,8,9] (by decide)) ⟨w',by simp +contextual (disch:=omega) only[go_sem,e2],by simp +contextual (disch:=omega) only[go_sem,e3],by simp +contextual (disch:=omega) only[go_sem,e4],by simp +contextual (disch:=omega) only[go_sem,e5],by rw[Ir hi kE];rfl⟩
  ·clear hX
   rintro Y hY env h τ ei k0 H ⟨w,e2,e3,e4,e5,rfl⟩
   simp +contextual (disch:=omega) only[go_sem,k0,e2,ei,qc.len]
   exact hY _ _ _ H ⟨w,e2,e3,e4,e5,by rw[List.take_length]⟩
  clear hX
  rintro env h τ H ⟨w,e2,e3,e4,e5,rfl⟩
  simp +contextual (disch:=omega) only[go_sem]
  refine Bs t.lives.length 8 2 (fun i env h=>∃ w,env 2= .ptr n2 0∧env 3= .ptr n3 0∧env 4= .ptr n4 0∧env 5= .ptr n5 0∧h=[.th (ow Ai.kd w (Bc Br (s.lives.filter (Jg t)++(t.lives.take i).filter (newD s)))),.box 1 n5 [kv,tv,w,cv],.th (ow Ae.kd cv (Cy s.cells t.cells)),.th (ow Ab.kd tv (Fs (Be s t) s.tallies t.tallies)),.th (ow pI.kd kv (kMax s.know t.know)),.box 1 n4 z4',.box 1 n3 [w0,w1,w2,w3],.box 1 n2 [a,b,c,v]]) (fun env h=>∃ w,env 2= .ptr n2 0∧env 4= .ptr n4 0∧env 5= .ptr n5 0∧h=[.th (ow Ai.kd w (Bc Br (s.lives.filter (Jg t)++t.lives.filter (newD s)))),.box 1 n5 [kv,tv,w,cv],.th (ow Ae.kd cv (Cy s.cells t.cells)),.th (ow Ab.kd tv (Fs (Be s t) s.tallies t.tallies)),.th (ow pI.kd kv (kMax s.know t.know)),.box 1 n4 z4',.box 1 n3 [w0,w1,w2,w3],.box 1 n2 [a,b,c,v]]) (fun env h=>False) _ H (by simp +contextual (disch:=omega) only[go_sem]) ⟨w,by simp +contextual (disch:=omega) only[go_sem,e2],by simp +contextual (disch:=omega) only[go_sem,e3],by simp +contextual (disch:=omega) only[go_sem,e4],by simp +contextual (disch:=omega) only[go_sem,e5],by rw[List.take_zero,List.filter_nil,List.append_nil,O4 swo_lv (l5.filter _)]⟩ ?_ ?_ ?_ (fun _ _ _ _ h=>h.elim)
  ·clear H e2 e3 e4 e5
   rintro J Y W hJ hY hW i env h τ hi ei k0 H ⟨w,e2,e3,e4,e5,rfl⟩
   have B1:=A6 p2 hi
   have d2:=(H.hp.sl 0 rfl).cell
   simp +contextual (disch:=omega) only[go_sem,k0,e2,e3,e4,e5,ei,A4,B1,p2.len]
   refine by_b H (Hh _ a _ _ (qa.pre H.sub) (by omega)) (fun k1=> ?_) (fun k1=> ?_)
   ·simp +contextual (disch:=omega) only[go_sem,ei]
    exact hJ _ _ _ _ H ⟨w,by simp +contextual (disch:=omega) only[go_sem,e2],by simp +contextual (disch:=omega) only[go_sem,e3],by simp +contextual (disch:=omega) only[go_sem,e4],by simp +contextual (disch:=omega) only[go_sem,e5],by rw[Js hi (by simp[newD,k1])]⟩
   ·have hll:=A3i (p:=Jg t) (q:=newD s) (a:=s.lives) (b:=t.lives) (i:=i) (n:=1073741824) (by omega) (by omega)
    simp +contextual (disch:=omega) only[go_sem,e3,e5,ei,A4,B1,d2]
    obtain⟨w',τ2,R2,K2⟩:=A0k τ w _ (H.hp.sl 0 rfl) t.lives[i] (by rw[Fm];omega)
    refine by_c H R2 K2 fun H2=> ?_
    have d3:=(H2.hp.sl 0 rfl).cell
    simp +contextual (disch:=omega) only[go_sem,e5,ei,d3]
    intro τ5 H5
    refine hJ _ _ _ _ (H5.re [0,2,3,4,5,6,7,8] (by decide)) ⟨w',by simp +contextual (disch:=omega) only[go_sem,e2],by simp +contextual (disch:=omega) only[go_sem,e3],by simp +contextual (disch:=omega) only[go_sem,e4],by simp +contextual (disch:=omega) only[go_sem,e5],?_⟩
    rw[Ir hi (by simp[newD,k1]),←List.append_assoc,Ms]
    rfl
  ·clear H e2 e3 e4 e5
   rintro Y hY env h τ ei k0 H ⟨w,e2,e3,e4,e5,rfl⟩
   simp +contextual (disch:=omega) only[go_sem,k0,e3,ei,p2.len]
   exact hY _ _ _ H ⟨w,e2,e4,e5,by rw[List.take_length]⟩
  clear H e2 e3 e4 e5
  rintro env h τ H ⟨w,e2,e4,e5,rfl⟩
  have hst:A9.R τ (X7 s t) [kv,tv,w,cv]:=⟨_,_,_,_,rfl,H.hp.sl 4 rfl,H.hp.sl 3 rfl,H.hp.sl 0 rfl,H.hp.sl 2 rfl⟩
  have hms:=Ab9 s t
  simp +contextual (disch:=omega) only[go_sem,e5]
  refine by_b H (Ed _ _ _ hst (by omega)) (fun k4=> ?_) (fun k4=> ?_)
  rotate_left
  ·have hd:Da s t=s:=by simp[Da,hok,hdk,k4]
   simp +contextual (disch:=omega) only[go_sem,e2,e4]
   obtain⟨es,τ5,R5,K5⟩:=J9 τ _ s (A9.pre hR0 H.sub) (by omega)
   have gl:es.length=4:=A9.len (K5.rd 0 rfl)
   refine by_c H R5 K5 fun H5=> ?_
   simp +contextual (disch:=omega) only[go_sem,e4,Bl (cs:=z4') gl rfl,gl,Au gl]
   intro τ8 H8
   exact⟨_,rfl,es,rfl,by rw[hd];exact H8.sel [0] (by decide)⟩
  have hd:Da s t=X7 s t:=by simp[Da,hok,hdk,k4]
  simp +contextual (disch:=omega) only[go_sem,e4,e5]
  intro τ8 H8
  exact⟨_,rfl,[kv,tv,w,cv],rfl,by rw[hd];exact Hp.ownState (x:=X7 s t) (H8.sel [4,3,0,2] (by decide))⟩
 obtain⟨q,τ,R,r,rfl,h⟩:=key
 exact⟨r,τ,R,h⟩
theorem L5 (σ:St) (cs ds:List GV) (a b:State) (hR:A9.R σ a cs) (hS:A9.R σ b ds) (hl:Ad a≤1073741824) (hm:Ad b≤1073741824):Ret Tryz.prog Z2 [.agg cs,.agg ds] σ (.bool (behind a b)) σ:=by
 have ga:cs.length=4:=A9.len hR
 have gb:ds.length=4:=A9.len hS
 refine Em A5x (Z0z rfl) trivial ?_
 simp +contextual (disch:=omega) only[go_sem,Z3]
 intro n1 f1 τ0 _ n2 f2 τ H
 have S:=H.sub
 simp +contextual (disch:=omega) only[go_sem,Au ga,Au gb]
 refine by_b H (Ed _ _ a (A9.pre hR S) (by omega)) (fun h0=> ?_) (fun h0=> ?_)
 rotate_left
 ·have d:behind a b=false:=by simp[behind,h0]
  simp +contextual (disch:=omega) only[go_sem,d]
  try exact fun _=>rfl
 simp +contextual (disch:=omega) only[go_sem,Au ga,Au gb]
 refine by_b H (Ed _ _ b (A9.pre hS S) (by omega)) (fun h1=> ?_) (fun h1=> ?_)
 rotate_left
 ·have d:behind a b=false:=by simp[behind,h0,h1]
  simp +contextual (disch:=omega) only[go_sem,d]
  try exact fun _=>rfl
 simp +contextual (disch:=omega) only[go_sem,Au ga,Au gb]
 obtain⟨r,τ2,R2,K2⟩:=Sr τ cs a (A9.pre hR S) ds b (A9.pre hS S) hl hm
 refine by_c H R2 K2 fun H2=> ?_
 simp +contextual (disch:=omega) only[go_sem,Au ga,Au gb]
 have hmm:=A70 a b
 refine by_r H2 (Ve _ r ds (Da a b) b (H2.hp.rd 0 rfl) (A9.pre hS H2.sub) (by omega) (by omega)) ?_
 have d:behind a b=decide (Da a b=b):=by simp[behind,h0,h1]
 simp +contextual (disch:=omega) only[go_sem,d]
 try exact fun _=>rfl
end
section
open Go Go.RowKit
abbrev N2:Nat:=128
def Vl:Fn1:=⟨128,[.c 4 true 6,.t 5],(rg [oX 2 0,oX 3 1,o 4 (.new [.nilS,.nilS,.nilS,.nilS,.nilS,.nilS]),oV 5 kf] (.seq (rg [oW 16 4 2,oW 17 4 3,oD 18 238 16 17,oU 19 18] (.cnd (.t 19) (rg [o 20 (.build [.nilS,.nilS,.nilS,.nilS,.nilS,.nilS] []),oS 6 4 20,oV 5 kf] .ret) .skip)) (.seq (.drw [oF 21 0 2,oL 22 21,oC 23 182 22,oF 24 0 3,oL 25 24,oC 26 182 25,o 27 (.build [.nilS,.nilS,.nilS,.nilS,.nilS,.nilS] [(0,1,(.t 23)),(1,1,(.t 26))]),o 6 (.new [.nilS,.nilS,.nilS,.nilS,.nilS,.nilS])] [oS 6 6 27]) (.seq (rg [oF 28 1 3,oL 29 28,oN 30 29,oV 31 (ki 0)] (.blk 0 (.lop (rg [oB 32 .lss 31 30] (.seq (.cnd (.t 32) .skip (.ext 0)) (.seq (.blk 1 (rg [oI 33 3 29 31,oW 34 3 33,o 8 (.new [(.str ⟨#[]⟩),z0,z0]),oS 3 8 34] (.seq (.drw [oF 35 0 3,oL 36 35,oF 37 1 8,oL 38 37,oI 39 1 36 38,oL 40 39,oF 41 0 2,oL 42 41,oF 43 1 8,oL 44 43,oI 45 1 42 44,oL 46 45] [oB 47 .gtr 40 46]) (.cnd (.t 47) (.reg [oF 48 2 6,oL 49 48,oW 50 3 8,o 51 (.lit 3 1 [(.str ⟨#[]⟩),z0,z0] [(0,3,(.t 50))]),o 52 (.app 3 32 [(.str ⟨#[]⟩),z0,z0] (.t 49) (.t 51)),oF 53 2 6,oS 1 53 52]) .skip)))) (.reg [oZ 54 31 1,oM 31 54]))))))) (.seq (rg [oF 55 2 3,oL 56 55,oN 57 56,oV 58 (ki 0)] (.blk 2 (.lop (rg [oB 59 .lss 58 57] (.seq (.cnd (.t 59) .skip (.ext 2)) (.seq (.blk 3 (rg [oI 60 6 56 58,oW 61 6 60,o 10 (.new [(.bool false),(.str ⟨#[]⟩),(.str ⟨#[]⟩),z0,z0,z0]),oS 6 10 61] (rg [oF 62 0 2,oL 63 62,oF 64 4 10,oW 65 2 64,oD 66 170 63 65,oU 67 66] (.cnd (.t 67) (.reg [oF 68 3 6,oL 69 68,oW 70 6 10,o 71 (.lit 6 1 [(.bool false),(.str ⟨#[]⟩),(.str ⟨#[]⟩),z0,z0,z0] [(0,6,(.t 70))]),o 72 (.app 6 64 [(.bool false),(.str ⟨#[]⟩),(.str ⟨#[]⟩),z0,z0,z0] (.t 69) (.t 71)),oF 73 3 6,oS 1 73 72]) .skip)))) (.reg [oZ 74 58 1,oM 58 74]))))))) (.seq (rg [oF 75 2 2,oL 76 75,oN 77 76,oV 78 (ki 0)] (.blk 4 (.lop (rg [oB 79 .lss 78 77] (.seq (.cnd (.t 79) .skip (.ext 4)) (.seq (.blk 5 (rg [oI 80 6 76 78,oW 81 6 80,o 12 (.new [(.bool false),(.str ⟨#[]⟩),(.str ⟨#[]⟩),z0,z0,z0]),oS 6 12 81] (rg [oW 82 4 3,oW 83 6 12,oD 84 239 82 83,oU 85 84] (.cnd (.t 85) (.reg [oF 86 4 6,oL 87 86,oF 88 4 12,oW 89 2 88,o 90 (.lit 2 1 [z0,z0] [(0,2,(.t 89))]),o 91 (.app 2 16 [z0,z0] (.t 87) (.t 90)),oF 92 4 6,oS 1 92 91]) .skip)))) (.reg [oZ 93 78 1,oM 78 93]))))))) (.seq (rg [oF 94 3 3,oL 95 94,oN 96 95,oV 97 (ki 0)] (.blk 6 (.lop (rg [oB 98 .lss 97 96] (.seq (.cnd (.t 98) .skip (.ext 6)) (.seq (.blk 7 (rg [oI 99 8 95 97,oW 100 8 99,o 14 (.new [(.str ⟨#[]⟩),z0,z0,z0,z0,z0,z0,(.bool false)]),oS 8 14 100] (rg [oW 101 4 2,oF 102 1 14,oW 103 2 102,oD 104 158 101 103,oM 15 104] (rg [oM 105 15,o 106 (.bin .lss (.t 105) (ki 0)),oM 107 106,og 108 107 false (.fad 7 (.t 14)),og 109 107 false (.ld false 1 (.t 108)),og 110 107 false (.mov (.t 109)),og 111 110 true (.fad 3 (.t 2)),og 112 110 true (.ld false 1 (.t 111)),og 113 110 true (.mov (.t 15)),og 114 110 true (.iad 8 (.t 112) (.t 113)),og 115 110 true (.fad 7 (.t 114)),og 116 110 true (.ld false 1 (.t 115)),og 117 110 true (.un .not (.t 116)),og 118 107 false (.pick (.t 110) (.t 117) kf),o 119 (.pick (.t 107) kt (.t 118))] (.cnd (.t 119) (.reg [oF 120 5 6,oL 121 120,oW 122 8 14,o 123 (.lit 8 1 [(.str ⟨#[]⟩),z0,z0,z0,z0,z0,z0,(.bool false)] [(0,8,(.t 122))]),o 124 (.app 8 72 [(.str ⟨#[]⟩),z0,z0,z0,z0,z0,z0,(.bool false)] (.t 121) (.t 123)),oF 125 5 6,oS 1 125 124]) .skip))))) (.reg [oZ 126 97 1,oM 97 126]))))))) (rg [oW 127 6 6,oS 6 4 127,oV 5 kt] .ret))))))))⟩
theorem A3u:A8 Tryz.prog N2=some Vl:=by kernel_rfl
abbrev z6':List GV:=[GV.nilS,GV.nilS,GV.nilS,GV.nilS,GV.nilS,GV.nilS]
theorem Hx.delta0 {σ τ:St} {h:List Item} (H:Hx σ τ h):Hx σ τ (.th (own Ch z6' Sy.delta0)::h):=Hp.ownDelta (x:=Sy.delta0) ((((((H.nil Ae.kd).nil pDot.kd).nil Ai.kd).nil Ab.kd).nil pI.kd).nil pI.kd).hp
set_option maxHeartbeats 4000000 in
theorem Od (σ:St) (cs:List GV) (s:State) (hR:A9.R σ s cs) (ds:List GV) (t:State) (hD:A9.R σ t ds) (hl:Ad s≤1073741824) (hm:Ad t≤1073741824):∃ r τ,Ret Tryz.prog N2 [.agg cs,.agg ds] σ (.tup [.agg r,.bool (Cx s t).2]) τ∧Hp σ τ [own Ch r (Cx s t).1]:=by
 have hR0:=hR
 have hD0:=hD
 obtain⟨a,b,e,v,rfl,qa,qb,qe,qv⟩:=hR
 obtain⟨w0,w1,w2,w3,rfl,p0,p1,p2,p3⟩:=hD
 obtain⟨ls0,ls1,ls2,ls3⟩:=Hm hl
 obtain⟨m0,m1,m2,m3⟩:=Hm hm
 have key:∃ q τ,Ret Tryz.prog N2 [.agg [a,b,e,v],.agg [w0,w1,w2,w3]] σ q τ∧∃ r,q= .tup [.agg r,.bool (Cx s t).2]∧Hp σ τ [own Ch r (Cx s t).1]:=by
  refine Lv A3u (Z0z rfl) (Hx.refl σ) ?_
  simp +contextual (disch:=omega) only[go_sem,Vl]
  intro n2 f2 τ2 H2 n3 f3 τ3 H3 n4 f4 τ4 H4
  refine by_b H4 (L4 _ _ _ s t (A9.pre hR0 H4.sub) (A9.pre hD0 H4.sub) hl hm) (fun hbe=> ?_) (fun hbe=> ?_)
  rotate_left
  ·have hd:Cx s t=(delta0,false):=by simp[Cx,hbe]
   simp +contextual (disch:=omega) only[go_sem]
   intro τ5 H5
   exact⟨_,rfl,_,by rw[hd],by rw[hd];exact(H5.delta0).hp.sel [0] (by decide)⟩
  have hd:Cx s t=(A5v s t,true):=by simp[Cx,hbe]
  simp only[behind,Bool.and_eq_true] at hbe
  obtain⟨hok,hdk,_⟩:=hbe
  obtain⟨o1,t1,r1,c1,l5,l7,_⟩:=Gb hok
  obtain⟨o2,t2,r2,c2,l6,_,_⟩:=Gb hdk
  simp +contextual (disch:=omega) only[go_sem]
  obtain⟨k0,τ5,R5,K5⟩:=G9 τ4 a _ (qa.pre H4.sub) (by omega)
  refine by_c H4 R5 K5 fun H5=> ?_
  have ck0:=(H5.hp.sl 0 rfl).cell
  simp +contextual (disch:=omega) only[go_sem,ck0]
  obtain⟨k1,τ6,R6,K6⟩:=G9 τ5 w0 _ (p0.pre H5.sub) (by omega)
  refine by_c H5 R6 K6 fun H6=> ?_
  have ck1:=(H6.hp.sl 0 rfl).cell
  simp +contextual (disch:=omega) only[go_sem,ck0,ck1]
  intro n6 f6 τ7 _ τ8 H8
  try simp +contextual (disch:=omega) only[go_sem,p1.len]
  have H9:=((((H8.nil Ae.kd).nil pDot.kd).nil Ai.kd).nil Ab.kd)
  have hX:Hx σ τ8 [.box 1 n6 [k0,k1,GV.nilS,GV.nilS,GV.nilS,GV.nilS],.th (ow pI.kd k0 s.know),.th (ow pI.kd k1 t.know),.th (ow Ab.kd .nilS []),.th (ow Ai.kd .nilS []),.th (ow pDot.kd .nilS []),.th (ow Ae.kd .nilS []),.box 1 n4 z6',.box 1 n3 [w0,w1,w2,w3],.box 1 n2 [a,b,e,v]]:=H9.re [4,6,5,0,1,2,3,7,8,9] (by decide)
  clear H9 H8 H4 H3 H2
  refine Bs t.tallies.length 31 0 (fun i env h=>∃ x2 x3 x4 x5,env 2= .ptr n2 0∧env 3= .ptr n3 0∧env 4= .ptr n4 0∧env 6= .ptr n6 0∧env 29=w1∧env 30=gi t.tallies.length∧h=[.box 1 n6 [k0,k1,x2,x3,x4,x5],.th (ow pI.kd k0 s.know),.th (ow pI.kd k1 t.know),.th (ow Ab.kd x2 ((t.tallies.take i).filter fun x=>Be s t x.rep)),.th (ow Ai.kd x3 []),.th (ow pDot.kd x4 []),.th (ow Ae.kd x5 []),.box 1 n4 z6',.box 1 n3 [w0,w1,w2,w3],.box 1 n2 [a,b,e,v]]) (fun env h=>∃ x2 x3 x4 x5,env 2= .ptr n2 0∧env 3= .ptr n3 0∧env 4= .ptr n4 0∧env 6= .ptr n6 0∧h=[.box 1 n6 [k0,k1,x2,x3,x4,x5],.th (ow pI.kd k0 s.know),.th (ow pI.kd k1 t.know),.th (ow Ab.kd x2 (t.tallies.filter fun x=>Be s t x.rep)),.th (ow Ai.kd x3 []),.th (ow pDot.kd x4 []),.th (ow Ae.kd x5 []),.box 1 n4 z6',.box 1 n3 [w0,w1,w2,w3],.box 1 n2 [a,b,e,v]]) (fun _ _=>False) _ hX (by simp +contextual (disch:=omega) only[go_sem]) ⟨.nilS,.nilS,.nilS,.nilS,by simp +contextual (disch:=omega) only[go_sem],by simp +contextual (disch:=omega) only[go_sem],by simp +contextual (disch:=omega) only[go_sem],by simp +contextual (disch:=omega) only[go_sem],by simp +contextual (disch:=omega) only[go_sem],by simp +contextual (disch:=omega) only[go_sem],rfl⟩ ?_ ?_ ?_ (fun _ _ _ _ h=>h.elim)
  ·clear hX
   rintro J Y W hJ hY hW i env h τ hi ei k9 H ⟨x2,x3,x4,x5,e2,e3,e4,e6,e29,e30,rfl⟩
   have L1:=Aa p1 hi
   have cw:=(H.hp.sl 3 rfl).cell
   have hin:=r2 t.tallies[i] (List.getElem_mem hi)
   have A1:=Jk p0 o2 hin.1 hin.2
   have A2:=Jk qa o1 hin.1 hin.2
   have gt:decide (at0 s.know t.tallies[i].rep<at0 t.know t.tallies[i].rep)=Be s t t.tallies[i].rep:=rfl
   simp +contextual (disch:=omega) only[go_sem,k9,e2,e3,e4,e6,e29,e30,ei,A4,L1,cw]
   intro n9 f9 τ1 _ τ2 H2
   try simp +contextual (disch:=omega) only[go_sem,e2,e3,e4,e6,e29,e30]
   cases hf:Be s t t.tallies[i].rep with
   |false=>
    simp +contextual (disch:=omega) only[go_sem,e2,e3,e4,e6,e29,e30,ei,A4,L1,A1,A2,gt,hf]
    exact hJ _ _ _ _ (H2.re [1,2,3,4,5,6,7,8,9,10] (by decide)) ⟨x2,x3,x4,x5,by simp +contextual (disch:=omega) only[go_sem,e2],by simp +contextual (disch:=omega) only[go_sem,e3],by simp +contextual (disch:=omega) only[go_sem,e4],by simp +contextual (disch:=omega) only[go_sem,e6],by simp +contextual (disch:=omega) only[go_sem,e29],by simp +contextual (disch:=omega) only[go_sem,e30],by rw[Js hi hf];rfl⟩
   |true=>
    simp +contextual (disch:=omega) only[go_sem,e2,e3,e4,e6,e29,e30,ei,A4,L1,A1,A2,gt,hf,cw]
    intro nl fl τ3 H3
    refine Dn (p:=Ab) H3 5 rfl t.tallies[i] Dm (by decide) (by have:=I4 (p:=(fun x=>Be s t x.rep)) (l:=t.tallies) (i:=i) (n:=1073741824) (by omega);(try simp only[List.length_map]);omega) fun w' τ4 H4=> ?_
    have cw':=(H4.hp.sl 5 rfl).cell
    simp +contextual (disch:=omega) only[go_sem,e2,e3,e4,e6,e29,e30,ei,cw']
    intro τ5 H5
    exact hJ _ _ _ _ (H5.re [2,3,4,5,6,7,8,9,10,11] (by decide)) ⟨w',x3,x4,x5,by simp +contextual (disch:=omega) only[go_sem,e2],by simp +contextual (disch:=omega) only[go_sem,e3],by simp +contextual (disch:=omega) only[go_sem,e4],by simp +contextual (disch:=omega) only[go_sem,e6],by simp +contextual (disch:=omega) only[go_sem,e29],by simp +contextual (disch:=omega) only[go_sem,e30],by rw[Ir hi hf];rfl⟩
  ·clear hX
   rintro Y hY env h τ ei k9 H ⟨x2,x3,x4,x5,e2,e3,e4,e6,e29,e30,rfl⟩
   simp +contextual (disch:=omega) only[go_sem,k9,e2,e3,e4,e6,e29,e30,ei]
   exact hY _ _ _ H ⟨x2,x3,x4,x5,e2,e3,e4,e6,by rw[List.take_length]⟩
  clear hX
  rintro env h τ H ⟨x2,x3,x4,x5,e2,e3,e4,e6,rfl⟩
  try simp +contextual (disch:=omega) only[go_sem,e2,e3,e4,e6,p2.len]
  refine Bs t.lives.length 58 2 (fun i env h=>∃ x2 x3 x4 x5,env 2= .ptr n2 0∧env 3= .ptr n3 0∧env 4= .ptr n4 0∧env 6= .ptr n6 0∧env 56=w2∧env 57=gi t.lives.length∧h=[.box 1 n6 [k0,k1,x2,x3,x4,x5],.th (ow pI.kd k0 s.know),.th (ow pI.kd k1 t.know),.th (ow Ab.kd x2 (t.tallies.filter fun x=>Be s t x.rep)),.th (ow Ai.kd x3 ((t.lives.take i).filter (newD s))),.th (ow pDot.kd x4 []),.th (ow Ae.kd x5 []),.box 1 n4 z6',.box 1 n3 [w0,w1,w2,w3],.box 1 n2 [a,b,e,v]]) (fun env h=>∃ x2 x3 x4 x5,env 2= .ptr n2 0∧env 3= .ptr n3 0∧env 4= .ptr n4 0∧env 6= .ptr n6 0∧h=[.box 1 n6 [k0,k1,x2,x3,x4,x5],.th (ow pI.kd k0 s.know),.th (ow pI.kd k1 t.know),.th (ow Ab.kd x2 (t.tallies.filter fun x=>Be s t x.rep)),.th (ow Ai.kd x3 (t.lives.filter (newD s))),.th (ow pDot.kd x4 []),.th (ow Ae.kd x5 []),.box 1 n4 z6',.box 1 n3 [w0,w1,w2,w3],.box 1 n2 [a,b,e,v]]) (fun _ _=>False) _ H (by simp +contextual (disch:=omega) only[go_sem]) ⟨x2,x3,x4,x5,by simp +contextual (disch:=omega) only[go_sem,e2],by simp +contextual (disch:=omega) only[go_sem,e3],by simp +contextual (disch:=omega) only[go_sem,e4],by simp +contextual (disch:=omega) only[go_sem,e6],by simp +contextual (disch:=omega) only[go_sem],by simp +contextual (disch:=omega) only[go_sem],by rfl⟩ ?_ ?_ ?_ (fun _ _ _ _ h=>h.elim)
  ·clear H e2 e3 e4 e6
   rintro J Y W hJ hY hW i env h τ hi ei k9 H ⟨x2,x3,x4,x5,e2,e3,e4,e6,e56,e57,rfl⟩
   have L1:=A6 p2 hi
   have cw:=(H.hp.sl 4 rfl).cell
   simp +contextual (disch:=omega) only[go_sem,k9,e2,e3,e4,e6,e56,e57,ei,A4,L1,cw]
   intro n9 f9 τ1 _ τ2 H2
   try simp +contextual (disch:=omega) only[go_sem,e2,e3,e4,e6,e56,e57]
   refine by_b H2 (Hi _ a _ _ (qa.pre H2.sub) (by omega)) (fun h1=> ?_) (fun h1=> ?_)
   ·simp +contextual (disch:=omega) only[go_sem,e2,e3,e4,e6,e56,e57,ei]
    exact hJ _ _ _ _ (H2.re [1,2,3,4,5,6,7,8,9,10] (by decide)) ⟨x2,x3,x4,x5,by simp +contextual (disch:=omega) only[go_sem,e2],by simp +contextual (disch:=omega) only[go_sem,e3],by simp +contextual (disch:=omega) only[go_sem,e4],by simp +contextual (disch:=omega) only[go_sem,e6],by simp +contextual (disch:=omega) only[go_sem,e56],by simp +contextual (disch:=omega) only[go_sem,e57],by rw[Js hi (by simp[newD,h1])];rfl⟩
   ·simp +contextual (disch:=omega) only[go_sem,e2,e3,e4,e6,e56,e57,ei,A4,L1,cw]
    intro nl fl τ3 H3
    refine Dn (p:=Ai) H3 6 rfl t.lives[i] Dm (by decide) (by have:=I4 (p:=(newD s)) (l:=t.lives) (i:=i) (n:=1073741824) (by omega);(try simp only[List.length_map]);omega) fun w' τ4 H4=> ?_
    have cw':=(H4.hp.sl 6 rfl).cell
    simp +contextual (disch:=omega) only[go_sem,e2,e3,e4,e6,e56,e57,ei,cw']
    intro τ5 H5
    exact hJ _ _ _ _ (H5.re [2,3,4,5,6,7,8,9,10,11] (by decide)) ⟨x2,w',x4,x5,by simp +contextual (disch:=omega) only[go_sem,e2],by simp +contextual (disch:=omega) only[go_sem,e3],by simp +contextual (disch:=omega) only[go_sem,e4],by simp +contextual (disch:=omega) only[go_sem,e6],by simp +contextual (disch:=omega) only[go_sem,e56],by simp +contextual (disch:=omega) only[go_sem,e57],by rw[Ir hi (by simp[newD,h1])];rfl⟩
  ·clear H e2 e3 e4 e6
   rintro Y hY env h τ ei k9 H ⟨x2,x3,x4,x5,e2,e3,e4,e6,e56,e57,rfl⟩
   simp +contextual (disch:=omega) only[go_sem,k9,e2,e3,e4,e6,e56,e57,ei]
   exact hY _ _ _ H ⟨x2,x3,x4,x5,e2,e3,e4,e6,by rw[List.take_length]⟩
  clear H e2 e3 e4 e6
  rintro env h τ H ⟨x2,x3,x4,x5,e2,e3,e4,e6,rfl⟩
  try simp +contextual (disch:=omega) only[go_sem,e2,e3,e4,e6,qe.len]
  refine Bs s.lives.length 78 4 (fun i env h=>∃ x2 x3 x4 x5,env 2= .ptr n2 0∧env 3= .ptr n3 0∧env 4= .ptr n4 0∧env 6= .ptr n6 0∧env 76=e∧env 77=gi s.lives.length∧h=[.box 1 n6 [k0,k1,x2,x3,x4,x5],.th (ow pI.kd k0 s.know),.th (ow pI.kd k1 t.know),.th (ow Ab.kd x2 (t.tallies.filter fun x=>Be s t x.rep)),.th (ow Ai.kd x3 (t.lives.filter (newD s))),.th (ow pDot.kd x4 (((s.lives.take i).filter fun x=> !decide (x∈t.lives)).map (·.dot))),.th (ow Ae.kd x5 []),.box 1 n4 z6',.box 1 n3 [w0,w1,w2,w3],.box 1 n2 [a,b,e,v]]) (fun env h=>∃ x2 x3 x4 x5,env 2= .ptr n2 0∧env 3= .ptr n3 0∧env 4= .ptr n4 0∧env 6= .ptr n6 0∧h=[.box 1 n6 [k0,k1,x2,x3,x4,x5],.th (ow pI.kd k0 s.know),.th (ow pI.kd k1 t.know),.th (ow Ab.kd x2 (t.tallies.filter fun x=>Be s t x.rep)),.th (ow Ai.kd x3 (t.lives.filter (newD s))),.th (ow pDot.kd x4 ((s.lives.filter fun x=> !decide (x∈t.lives)).map (·.dot))),.th (ow Ae.kd x5 []),.box 1 n4 z6',.box 1 n3 [w0,w1,w2,w3],.box 1 n2 [a,b,e,v]]) (fun _ _=>False) _ H (by simp +contextual (disch:=omega) only[go_sem]) ⟨x2,x3,x4,x5,by simp +contextual (disch:=omega) only[go_sem,e2],by simp +contextual (disch:=omega) only[go_sem,e3],by simp +contextual (disch:=omega) only[go_sem,e4],by simp +contextual (disch:=omega) only[go_sem,e6],by simp +contextual (disch:=omega) only[go_sem],by simp +contextual (disch:=omega) only[go_sem],by rfl⟩ ?_ ?_ ?_ (fun _ _ _ _ h=>h.elim)
  ·clear H e2 e3 e4 e6
   rintro J Y W hJ hY hW i env h τ hi ei k9 H ⟨x2,x3,x4,x5,e2,e3,e4,e6,e76,e77,rfl⟩
   have L1:=A6 qe hi
   have cw:=(H.hp.sl 5 rfl).cell
   simp +contextual (disch:=omega) only[go_sem,k9,e2,e3,e4,e6,e76,e77,ei,A4,L1,cw]
   intro n9 f9 τ1 _ τ2 H2
   try simp +contextual (disch:=omega) only[go_sem,e2,e3,e4,e6,e76,e77]
   refine by_b H2 (Oc _ _ t (A9.pre hD0 H2.sub) s.lives[i] (by omega)) (fun h1=> ?_) (fun h1=> ?_)
   ·simp +contextual (disch:=omega) only[go_sem,e2,e3,e4,e6,e76,e77,ei]
    exact hJ _ _ _ _ (H2.re [1,2,3,4,5,6,7,8,9,10] (by decide)) ⟨x2,x3,x4,x5,by simp +contextual (disch:=omega) only[go_sem,e2],by simp +contextual (disch:=omega) only[go_sem,e3],by simp +contextual (disch:=omega) only[go_sem,e4],by simp +contextual (disch:=omega) only[go_sem,e6],by simp +contextual (disch:=omega) only[go_sem,e76],by simp +contextual (disch:=omega) only[go_sem,e77],by rw[Js hi (by simpa using h1)];rfl⟩
   ·simp +contextual (disch:=omega) only[go_sem,e2,e3,e4,e6,e76,e77,ei,A4,L1,cw]
    intro nl fl τ3 H3
    refine Dn (p:=pDot) H3 7 rfl s.lives[i].dot Dm (by decide) (by have:=I4 (p:=(fun x=> !decide (x∈t.lives))) (l:=s.lives) (i:=i) (n:=1073741824) (by omega);(try simp only[List.length_map]);omega) fun w' τ4 H4=> ?_
    have cw':=(H4.hp.sl 7 rfl).cell
    simp +contextual (disch:=omega) only[go_sem,e2,e3,e4,e6,e76,e77,ei,cw']
    intro τ5 H5
    exact hJ _ _ _ _ (H5.re [2,3,4,5,6,7,8,9,10,11] (by decide)) ⟨x2,x3,w',x5,by simp +contextual (disch:=omega) only[go_sem,e2],by simp +contextual (disch:=omega) only[go_sem,e3],by simp +contextual (disch:=omega) only[go_sem,e4],by simp +contextual (disch:=omega) only[go_sem,e6],by simp +contextual (disch:=omega) only[go_sem,e76],by simp +contextual (disch:=omega) only[go_sem,e77],by rw[Ir hi (by simpa using h1)];simp⟩
  ·clear H e2 e3 e4 e6
   rintro Y hY env h τ ei k9 H ⟨x2,x3,x4,x5,e2,e3,e4,e6,e76,e77,rfl⟩
   simp +contextual (disch:=omega) only[go_sem,k9,e2,e3,e4,e6,e76,e77,ei]
   exact hY _ _ _ H ⟨x2,x3,x4,x5,e2,e3,e4,e6,by rw[List.take_length]⟩
  clear H e2 e3 e4 e6
  rintro env h τ H ⟨x2,x3,x4,x5,e2,e3,e4,e6,rfl⟩
  try simp +contextual (disch:=omega) only[go_sem,e2,e3,e4,e6,p3.len]
  refine Bs t.cells.length 97 6 (fun i env h=>∃ x2 x3 x4 x5,env 2= .ptr n2 0∧env 4= .ptr n4 0∧env 6= .ptr n6 0∧env 95=w3∧env 96=gi t.cells.length∧h=[.box 1 n6 [k0,k1,x2,x3,x4,x5],.th (ow pI.kd k0 s.know),.th (ow pI.kd k1 t.know),.th (ow Ab.kd x2 (t.tallies.filter fun x=>Be s t x.rep)),.th (ow Ai.kd x3 (t.lives.filter (newD s))),.th (ow pDot.kd x4 ((s.lives.filter fun x=> !decide (x∈t.lives)).map (·.dot))),.th (ow Ae.kd x5 ((t.cells.take i).filter (newC s))),.box 1 n4 z6',.box 1 n3 [w0,w1,w2,w3],.box 1 n2 [a,b,e,v]]) (fun env h=>∃ x2 x3 x4 x5,env 4= .ptr n4 0∧env 6= .ptr n6 0∧h=[.box 1 n6 [k0,k1,x2,x3,x4,x5],.th (ow pI.kd k0 s.know),.th (ow pI.kd k1 t.know),.th (ow Ab.kd x2 (t.tallies.filter fun x=>Be s t x.rep)),.th (ow Ai.kd x3 (t.lives.filter (newD s))),.th (ow pDot.kd x4 ((s.lives.filter fun x=> !decide (x∈t.lives)).map (·.dot))),.th (ow Ae.kd x5 (t.cells.filter (newC s))),.box 1 n4 z6',.box 1 n3 [w0,w1,w2,w3],.box 1 n2 [a,b,e,v]]) (fun _ _=>False) _ H (by simp +contextual (disch:=omega) only[go_sem]) ⟨x2,x3,x4,x5,by simp +contextual (disch:=omega) only[go_sem,e2],by simp +contextual (disch:=omega) only[go_sem,e4],by simp +contextual (disch:=omega) only[go_sem,e6],by simp +contextual (disch:=omega) only[go_sem],by simp +contextual (disch:=omega) only[go_sem],by rfl⟩ ?_ ?_ ?_ (fun _ _ _ _ h=>h.elim)
  ·clear H e2 e3 e4 e6
   rintro J Y W hJ hY hW i env h τ hi ei k9 H ⟨x2,x3,x4,x5,e2,e4,e6,e95,e96,rfl⟩
   have L1:=A7 p3 hi
   have cw:=(H.hp.sl 6 rfl).cell
   simp +contextual (disch:=omega) only[go_sem,k9,e2,e4,e6,e95,e96,ei,A4,L1,cw]
   intro n9 f9 τ1 _ τ2 H2
   try simp +contextual (disch:=omega) only[go_sem,e2,e4,e6,e95,e96]
   refine by_r H2 (A2y _ _ s (A9.pre hR0 H2.sub) t.cells[i].dot (by omega)) ?_
   cases hx:Cm s.cells t.cells[i].dot with
   |none=>
    have hno:Cj s.cells t.cells[i].dot= -1:=by simp[Cj,hx]
    have kE:newC s t.cells[i]=true:=by simp[newC,hx]
    have b0:decide ((-1:Int)<0)=true:=rfl
    simp +contextual (disch:=omega) only[go_sem,hno,b0,e2,e4,e6,e95,e96,ei,A4,L1,cw]
    intro nl fl τ3 H3
    refine Dn (p:=Ae) H3 8 rfl t.cells[i] Dm (by decide) (by have:=I4 (p:=(newC s)) (l:=t.cells) (i:=i) (n:=1073741824) (by omega);(try simp only[List.length_map]);omega) fun w' τ4 H4=> ?_
    have cw':=(H4.hp.sl 8 rfl).cell
    simp +contextual (disch:=omega) only[go_sem,e2,e4,e6,e95,e96,ei,cw']
    intro τ5 H5
    exact hJ _ _ _ _ (H5.re [2,3,4,5,6,7,8,9,10,11] (by decide)) ⟨x2,x3,x4,w',by simp +contextual (disch:=omega) only[go_sem,e2],by simp +contextual (disch:=omega) only[go_sem,e4],by simp +contextual (disch:=omega) only[go_sem,e6],by simp +contextual (disch:=omega) only[go_sem,e95],by simp +contextual (disch:=omega) only[go_sem,e96],by rw[Ir hi kE];rfl⟩
   |some j=>
    obtain⟨hj,hjd⟩:=Df hx
    have hno:Cj s.cells t.cells[i].dot=j:=by simp[Cj,hx]
    have b0:decide ((j:Int)<0)=false:=by simp
    have L2:=A7 qv hj
    cases hg:t.cells[i].gone with
    |false=>
     have kE:newC s t.cells[i]=false:=by simp[newC,hx,hg]
     simp +contextual (disch:=omega) only[go_sem,hno,b0,hg,e2,e4,e6,e95,e96,ei,A4,L1,cw]
     exact hJ _ _ _ _ (H2.re [1,2,3,4,5,6,7,8,9,10] (by decide)) ⟨x2,x3,x4,x5,by simp +contextual (disch:=omega) only[go_sem,e2],by simp +contextual (disch:=omega) only[go_sem,e4],by simp +contextual (disch:=omega) only[go_sem,e6],by simp +contextual (disch:=omega) only[go_sem,e95],by simp +contextual (disch:=omega) only[go_sem,e96],by rw[Js hi kE];rfl⟩
    |true=>
     cases hs:s.cells[j].gone with
     |true=>
      have kE:newC s t.cells[i]=false:=by simp[newC,hx,hg,hj,hs]
      simp +contextual (disch:=omega) only[go_sem,hno,b0,hg,hs,e2,e4,e6,e95,e96,ei,A4,L1,L2,cw]
      exact hJ _ _ _ _ (H2.re [1,2,3,4,5,6,7,8,9,10] (by decide)) ⟨x2,x3,x4,x5,by simp +contextual (disch:=omega) only[go_sem,e2],by simp +contextual (disch:=omega) only[go_sem,e4],by simp +contextual (disch:=omega) only[go_sem,e6],by simp +contextual (disch:=omega) only[go_sem,e95],by simp +contextual (disch:=omega) only[go_sem,e96],by rw[Js hi kE];rfl⟩
     |false=>
      have kE:newC s t.cells[i]=true:=by simp[newC,hx,hg,hj,hs]
      simp +contextual (disch:=omega) only[go_sem,hno,b0,hg,hs,e2,e4,e6,e95,e96,ei,A4,L1,L2,cw]
      intro nl fl τ3 H3
      refine Dn (p:=Ae) H3 8 rfl t.cells[i] (by simp only[Dm,Nc,hg]) (by decide) (by have:=I4 (p:=(newC s)) (l:=t.cells) (i:=i) (n:=1073741824) (by omega);(try simp only[List.length_map]);omega) fun w' τ4 H4=> ?_
      have cw':=(H4.hp.sl 8 rfl).cell
      simp +contextual (disch:=omega) only[go_sem,e2,e4,e6,e95,e96,ei,cw']
      intro τ5 H5
      exact hJ _ _ _ _ (H5.re [2,3,4,5,6,7,8,9,10,11] (by decide)) ⟨x2,x3,x4,w',by simp +contextual (disch:=omega) only[go_sem,e2],by simp +contextual (disch:=omega) only[go_sem,e4],by simp +contextual (disch:=omega) only[go_sem,e6],by simp +contextual (disch:=omega) only[go_sem,e95],by simp +contextual (disch:=omega) only[go_sem,e96],by rw[Ir hi kE];rfl⟩
  ·clear H e2 e3 e4 e6
   rintro Y hY env h τ ei k9 H ⟨x2,x3,x4,x5,e2,e4,e6,e95,e96,rfl⟩
   simp +contextual (disch:=omega) only[go_sem,k9,e2,e4,e6,e95,e96,ei]
   exact hY _ _ _ H ⟨x2,x3,x4,x5,e4,e6,by rw[List.take_length]⟩
  clear H e2 e3 e4 e6
  rintro env h τ H ⟨x2,x3,x4,x5,e4,e6,rfl⟩
  have cc2:=(H.hp.sl 3 rfl).cell
  have cc3:=(H.hp.sl 4 rfl).cell
  have cc4:=(H.hp.sl 5 rfl).cell
  have cc5:=(H.hp.sl 6 rfl).cell
  simp +contextual (disch:=omega) only[go_sem,e4,e6,cc2,cc3,cc4,cc5]
  intro τ8 H8
  exact⟨_,rfl,_,by rw[hd],by rw[hd];exact Hp.ownDelta (x:=A5v s t) (H8.sel [1,2,3,4,5,6] (by decide))⟩
 obtain⟨q,τ,R,r,rfl,h⟩:=key
 exact⟨r,τ,R,h⟩
end
section
open Go Go.RowKit
abbrev N3:Nat:=123
def Vm:Fn1:=⟨160,[.c 4 true 6,.t 5],(rg [oX 2 0,oX 3 1,o 4 (.new [.nilS,.nilS,.nilS,.nilS,.nilS,.nilS]),oV 5 kf] (.seq (rg [oW 13 4 2,oW 14 4 3,oD 15 233 13 14,oU 16 15] (.cnd (.t 16) (rg [o 17 (.build [.nilS,.nilS,.nilS,.nilS,.nilS,.nilS] []),oS 6 4 17,oV 5 kf] .ret) .skip)) (.seq (.drw [o 18 (.lit 1 0 [] []),oF 19 0 2,oL 20 19,o 21 (.app 1 8 [z0] (.t 18) (.t 20)),o 22 (.lit 1 0 [] []),oF 23 0 3,oL 24 23,o 25 (.app 1 8 [z0] (.t 22) (.t 24)),o 26 (.build [.nilS,.nilS,.nilS,.nilS,.nilS,.nilS] [(0,1,(.t 21)),(1,1,(.t 25))]),o 6 (.new [.nilS,.nilS,.nilS,.nilS,.nilS,.nilS])] [oS 6 6 26]) (.seq (rg [oV 7 (ki 0)] (.blk 0 (.lop (.seq (rg [oM 27 7,oF 28 1 3,oL 29 28,oN 30 29,oB 31 .lss 27 30] (.cnd (.t 31) .skip (.ext 0))) (.seq (.blk 1 (rg [oF 34 1 3,oL 35 34,oM 36 7,oI 37 3 35 36,oF 38 1 37,oL 39 38,oM 8 39] (.seq (.drw [oF 40 0 3,oL 41 40,oM 42 8,oI 43 1 41 42,oL 44 43,oF 45 0 2,oL 46 45,oM 47 8,oI 48 1 46 47,oL 49 48] [oB 50 .gtr 44 49]) (.cnd (.t 50) (.drw [oF 51 2 6,oL 52 51,oF 53 1 3,oL 54 53,oM 55 7,oI 56 3 54 55,oW 57 3 56,o 58 (.lit 3 1 [(.str ⟨#[]⟩),z0,z0] [(0,3,(.t 57))])] [o 59 (.app 3 32 [(.str ⟨#[]⟩),z0,z0] (.t 52) (.t 58)),oF 60 2 6,oS 1 60 59]) .skip)))) (.reg [oM 32 7,oZ 33 32 1,oM 7 33])))))) (.seq (rg [oV 9 (ki 0)] (.blk 2 (.lop (.seq (rg [oM 61 9,oF 62 2 3,oL 63 62,oN 64 63,oB 65 .lss 61 64] (.cnd (.t 65) .skip (.ext 2))) (.seq (.blk 3 (.seq (.drw [oF 68 0 2,oL 69 68,oF 70 2 3,oL 71 70,oM 72 9,oI 73 6 71 72,oF 74 4 73,oW 75 2 74] [oD 76 45 69 75,oU 77 76]) (.cnd (.t 77) (.drw [oF 78 3 6,oL 79 78,oF 80 2 3,oL 81 80,oM 82 9,oI 83 6 81 82,oW 84 6 83,o 85 (.lit 6 1 [(.bool false),(.str ⟨#[]⟩),(.str ⟨#[]⟩),z0,z0,z0] [(0,6,(.t 84))])] [o 86 (.app 6 64 [(.bool false),(.str ⟨#[]⟩),(.str ⟨#[]⟩),z0,z0,z0] (.t 79) (.t 85)),oF 87 3 6,oS 1 87 86]) .skip))) (.reg [oM 66 9,oZ 67 66 1,oM 9 67])))))) (.seq (rg [oV 10 (ki 0)] (.blk 4 (.lop (.seq (rg [oM 88 10,oF 89 2 2,oL 90 89,oN 91 90,oB 92 .lss 88 91] (.cnd (.t 92) .skip (.ext 4))) (.seq (.blk 5 (.seq (.drw [oF 95 2 3,oL 96 95,oF 97 2 2,oL 98 97,oM 99 10,oI 100 6 98 99,oW 101 6 100] [oD 102 234 96 101,oU 103 102]) (.cnd (.t 103) (.drw [oF 104 4 6,oL 105 104,oF 106 2 2,oL 107 106,oM 108 10,oI 109 6 107 108,oF 110 4 109,oW 111 2 110,o 112 (.lit 2 1 [z0,z0] [(0,2,(.t 111))])] [o 113 (.app 2 16 [z0,z0] (.t 105) (.t 112)),oF 114 4 6,oS 1 114 113]) .skip))) (.reg [oM 93 10,oZ 94 93 1,oM 10 94])))))) (.seq (rg [oV 11 (ki 0)] (.blk 6 (.lop (.seq (rg [oM 115 11,oF 116 3 3,oL 117 116,oN 118 117,oB 119 .lss 115 118] (.cnd (.t 119) .skip (.ext 6))) (.seq (.blk 7 (.seq (.drw [oW 122 4 2,oF 123 3 3,oL 124 123,oM 125 11,oI 126 8 124 125,oF 127 1 126,oW 128 2 127] [oD 129 146 122 128,oM 12 129]) (rg [oM 130 12,o 131 (.bin .lss (.t 130) (ki 0)),oM 132 131,og 133 132 false (.fad 3 (.t 3)),og 134 132 false (.ld false 1 (.t 133)),og 135 132 false (.mov (.t 11)),og 136 132 false (.iad 8 (.t 134) (.t 135)),og 137 132 false (.fad 7 (.t 136)),og 138 132 false (.ld false 1 (.t 137)),og 139 132 false (.mov (.t 138)),og 140 139 true (.fad 3 (.t 2)),og 141 139 true (.ld false 1 (.t 140)),og 142 139 true (.mov (.t 12)),og 143 139 true (.iad 8 (.t 141) (.t 142)),og 144 139 true (.fad 7 (.t 143)),og 145 139 true (.ld false 1 (.t 144)),og 146 139 true (.un .not (.t 145)),og 147 132 false (.pick (.t 139) (.t 146) kf),o 148 (.pick (.t 132) kt (.t 147))] (.cnd (.t 148) (.drw [oF 149 5 6,oL 150 149,oF 151 3 3,oL 152 151,oM 153 11,oI 154 8 152 153,oW 155 8 154,o 156 (.lit 8 1 [(.str ⟨#[]⟩),z0,z0,z0,z0,z0,z0,(.bool false)] [(0,8,(.t 155))])] [o 157 (.app 8 72 [(.str ⟨#[]⟩),z0,z0,z0,z0,z0,z0,(.bool false)] (.t 150) (.t 156)),oF 158 5 6,oS 1 158 157]) .skip)))) (.reg [oM 120 11,oZ 121 120 1,oM 11 121])))))) (rg [oW 159 6 6,oS 6 4 159,oV 5 kt] .ret))))))))⟩
theorem A3v:A8 Tryz.prog N3=some Vm:=by kernel_rfl
set_option maxHeartbeats 4000000 in
theorem Oe (σ:St) (cs:List GV) (s:State) (hR:A9.R σ s cs) (ds:List GV) (t:State) (hD:A9.R σ t ds) (hl:Ad s≤1073741824) (hm:Ad t≤1073741824):∃ r τ,Ret Tryz.prog N3 [.agg cs,.agg ds] σ (.tup [.agg r,.bool (Cx s t).2]) τ∧Hp σ τ [own Ch r (Cx s t).1]:=by
 have hR0:=hR
 have hD0:=hD
 obtain⟨a,b,e,v,rfl,qa,qb,qe,qv⟩:=hR
 obtain⟨w0,w1,w2,w3,rfl,p0,p1,p2,p3⟩:=hD
 obtain⟨ls0,ls1,ls2,ls3⟩:=Hm hl
 obtain⟨m0,m1,m2,m3⟩:=Hm hm
 have key:∃ q τ,Ret Tryz.prog N3 [.agg [a,b,e,v],.agg [w0,w1,w2,w3]] σ q τ∧∃ r,q= .tup [.agg r,.bool (Cx s t).2]∧Hp σ τ [own Ch r (Cx s t).1]:=by
  refine Lv A3v (Z0z rfl) (Hx.refl σ) ?_
  simp +contextual (disch:=omega) only[go_sem,Vm]
  intro n2 f2 τ2 H2 n3 f3 τ3 H3 n4 f4 τ4 H4
  refine by_b H4 (L5 _ _ _ s t (A9.pre hR0 H4.sub) (A9.pre hD0 H4.sub) hl hm) (fun hbe=> ?_) (fun hbe=> ?_)
  rotate_left
  ·have hd:Cx s t=(delta0,false):=by simp[Cx,hbe]
   simp +contextual (disch:=omega) only[go_sem]
   intro τ5 H5
   exact⟨_,rfl,_,by rw[hd],by rw[hd];exact(H5.delta0).hp.sel [0] (by decide)⟩
  have hd:Cx s t=(A5v s t,true):=by simp[Cx,hbe]
  simp only[behind,Bool.and_eq_true] at hbe
  obtain⟨hok,hdk,_⟩:=hbe
  obtain⟨o1,t1,r1,c1,l5,l7,_⟩:=Gb hok
  obtain⟨o2,t2,r2,c2,l6,_,_⟩:=Gb hdk
  simp +contextual (disch:=omega) only[go_sem]
  intro n7 f7 τ5 H5
  refine Ad5 (p:=pI) H5 (qa.pre H5.sub) (by decide) (by omega) fun k0 τ6 H6=> ?_
  have ck0:=(H6.hp.sl 0 rfl).cell
  simp +contextual (disch:=omega) only[go_sem,ck0]
  intro n8 f8 τ60 H60
  refine Ad5 (p:=pI) H60 (p0.pre H60.sub) (by decide) (by omega) fun k1 τ61 H61=> ?_
  have ck1:=(H61.hp.sl 0 rfl).cell
  simp +contextual (disch:=omega) only[go_sem,ck0,ck1]
  intro n6 f6 τ7 _ τ8 H8
  try simp +contextual (disch:=omega) only[go_sem]
  have H9:=((((H8.nil Ae.kd).nil pDot.kd).nil Ai.kd).nil Ab.kd)
  have hX:Hx σ τ8 [.box 1 n6 [k0,k1,GV.nilS,GV.nilS,GV.nilS,GV.nilS],.th (ow pI.kd k0 s.know),.th (ow pI.kd k1 t.know),.th (ow Ab.kd .nilS []),.th (ow Ai.kd .nilS []),.th (ow pDot.kd .nilS []),.th (ow Ae.kd .nilS []),.box 1 n4 z6',.box 1 n3 [w0,w1,w2,w3],.box 1 n2 [a,b,e,v]]:=H9.re [4,6,5,0,1,2,3,7,8,9] (by decide)
  clear H9 H8 H4 H3 H2
  refine Bs t.tallies.length 7 0 (fun i env h=>∃ x2 x3 x4 x5,env 2= .ptr n2 0∧env 3= .ptr n3 0∧env 4= .ptr n4 0∧env 6= .ptr n6 0∧h=[.box 1 n6 [k0,k1,x2,x3,x4,x5],.th (ow pI.kd k0 s.know),.th (ow pI.kd k1 t.know),.th (ow Ab.kd x2 ((t.tallies.take i).filter fun x=>Be s t x.rep)),.th (ow Ai.kd x3 []),.th (ow pDot.kd x4 []),.th (ow Ae.kd x5 []),.box 1 n4 z6',.box 1 n3 [w0,w1,w2,w3],.box 1 n2 [a,b,e,v]]) (fun env h=>∃ x2 x3 x4 x5,env 2= .ptr n2 0∧env 3= .ptr n3 0∧env 4= .ptr n4 0∧env 6= .ptr n6 0∧h=[.box 1 n6 [k0,k1,x2,x3,x4,x5],.th (ow pI.kd k0 s.know),.th (ow pI.kd k1 t.know),.th (ow Ab.kd x2 (t.tallies.filter fun x=>Be s t x.rep)),.th (ow Ai.kd x3 []),.th (ow pDot.kd x4 []),.th (ow Ae.kd x5 []),.box 1 n4 z6',.box 1 n3 [w0,w1,w2,w3],.box 1 n2 [a,b,e,v]]) (fun _ _=>False) _ hX (by simp +contextual (disch:=omega) only[go_sem]) ⟨.nilS,.nilS,.nilS,.nilS,by simp +contextual (disch:=omega) only[go_sem],by simp +contextual (disch:=omega) only[go_sem],by simp +contextual (disch:=omega) only[go_sem],by simp +contextual (disch:=omega) only[go_sem],rfl⟩ ?_ ?_ ?_ (fun _ _ _ _ h=>h.elim)
  ·clear hX
   rintro J Y W hJ hY hW i env h τ hi ei k9 H ⟨x2,x3,x4,x5,e2,e3,e4,e6,rfl⟩
   have L1:=Aa p1 hi
   have cw:=(H.hp.sl 3 rfl).cell
   have hin:=r2 t.tallies[i] (List.getElem_mem hi)
   have A1:=Jk p0 o2 hin.1 hin.2
   have A2:=Jk qa o1 hin.1 hin.2
   have gt:decide (at0 s.know t.tallies[i].rep<at0 t.know t.tallies[i].rep)=Be s t t.tallies[i].rep:=rfl
   simp +contextual (disch:=omega) only[go_sem,k9,e2,e3,e4,e6,ei,A4,L1,p1.len,cw,A1,A2,gt]
   cases hf:Be s t t.tallies[i].rep with
   |false=>
    simp +contextual (disch:=omega) only[go_sem,e2,e3,e4,e6,ei,A4,L1,A1,A2,gt,hf]
    exact hJ _ _ _ _ (H) ⟨x2,x3,x4,x5,by simp +contextual (disch:=omega) only[go_sem,e2],by simp +contextual (disch:=omega) only[go_sem,e3],by simp +contextual (disch:=omega) only[go_sem,e4],by simp +contextual (disch:=omega) only[go_sem,e6],by rw[Js hi hf]⟩
   |true=>
    simp +contextual (disch:=omega) only[go_sem,e2,e3,e4,e6,ei,A4,L1,A1,A2,gt,hf,cw]
    intro nl fl τ3 H3
    refine Dn (p:=Ab) H3 4 rfl t.tallies[i] Dm (by decide) (by have:=I4 (p:=(fun x=>Be s t x.rep)) (l:=t.tallies) (i:=i) (n:=1073741824) (by omega);(try simp only[List.length_map]);omega) fun w' τ4 H4=> ?_
    have cw':=(H4.hp.sl 4 rfl).cell
    simp +contextual (disch:=omega) only[go_sem,e2,e3,e4,e6,ei,cw']
    intro τ5 H5
    exact hJ _ _ _ _ (H5.re [1,2,3,4,5,6,7,8,9,10] (by decide)) ⟨w',x3,x4,x5,by simp +contextual (disch:=omega) only[go_sem,e2],by simp +contextual (disch:=omega) only[go_sem,e3],by simp +contextual (disch:=omega) only[go_sem,e4],by simp +contextual (disch:=omega) only[go_sem,e6],by rw[Ir hi hf];rfl⟩
  ·clear hX
   rintro Y hY env h τ ei k9 H ⟨x2,x3,x4,x5,e2,e3,e4,e6,rfl⟩
   simp +contextual (disch:=omega) only[go_sem,k9,e2,e3,e4,e6,ei,p1.len]
   exact hY _ _ _ H ⟨x2,x3,x4,x5,e2,e3,e4,e6,by rw[List.take_length]⟩
  clear hX
  rintro env h τ H ⟨x2,x3,x4,x5,e2,e3,e4,e6,rfl⟩
  try simp +contextual (disch:=omega) only[go_sem]
  refine Bs t.lives.length 9 2 (fun i env h=>∃ x2 x3 x4 x5,env 2= .ptr n2 0∧env 3= .ptr n3 0∧env 4= .ptr n4 0∧env 6= .ptr n6 0∧h=[.box 1 n6 [k0,k1,x2,x3,x4,x5],.th (ow pI.kd k0 s.know),.th (ow pI.kd k1 t.know),.th (ow Ab.kd x2 (t.tallies.filter fun x=>Be s t x.rep)),.th (ow Ai.kd x3 ((t.lives.take i).filter (newD s))),.th (ow pDot.kd x4 []),.th (ow Ae.kd x5 []),.box 1 n4 z6',.box 1 n3 [w0,w1,w2,w3],.box 1 n2 [a,b,e,v]]) (fun env h=>∃ x2 x3 x4 x5,env 2= .ptr n2 0∧env 3= .ptr n3 0∧env 4= .ptr n4 0∧env 6= .ptr n6 0∧h=[.box 1 n6 [k0,k1,x2,x3,x4,x5],.th (ow pI.kd k0 s.know),.th (ow pI.kd k1 t.know),.th (ow Ab.kd x2 (t.tallies.filter fun x=>Be s t x.rep)),.th (ow Ai.kd x3 (t.lives.filter (newD s))),.th (ow pDot.kd x4 []),.th (ow Ae.kd x5 []),.box 1 n4 z6',.box 1 n3 [w0,w1,w2,w3],.box 1 n2 [a,b,e,v]]) (fun _ _=>False) _ H (by simp +contextual (disch:=omega) only[go_sem]) ⟨x2,x3,x4,x5,by simp +contextual (disch:=omega) only[go_sem,e2],by simp +contextual (disch:=omega) only[go_sem,e3],by simp +contextual (disch:=omega) only[go_sem,e4],by simp +contextual (disch:=omega) only[go_sem,e6],by rfl⟩ ?_ ?_ ?_ (fun _ _ _ _ h=>h.elim)
  ·clear H e2 e3 e4 e6
   rintro J Y W hJ hY hW i env h τ hi ei k9 H ⟨x2,x3,x4,x5,e2,e3,e4,e6,rfl⟩
   have L1:=A6 p2 hi
   have cw:=(H.hp.sl 4 rfl).cell
   simp +contextual (disch:=omega) only[go_sem,k9,e2,e3,e4,e6,ei,A4,L1,p2.len,cw]
   refine by_b H (Hh _ a _ _ (qa.pre H.sub) (by omega)) (fun h1=> ?_) (fun h1=> ?_)
   ·simp +contextual (disch:=omega) only[go_sem,e2,e3,e4,e6,ei]
    exact hJ _ _ _ _ (H) ⟨x2,x3,x4,x5,by simp +contextual (disch:=omega) only[go_sem,e2],by simp +contextual (disch:=omega) only[go_sem,e3],by simp +contextual (disch:=omega) only[go_sem,e4],by simp +contextual (disch:=omega) only[go_sem,e6],by rw[Js hi (by simp[newD,h1])]⟩
   ·simp +contextual (disch:=omega) only[go_sem,e2,e3,e4,e6,ei,A4,L1,cw]
    intro nl fl τ3 H3
    refine Dn (p:=Ai) H3 5 rfl t.lives[i] Dm (by decide) (by have:=I4 (p:=(newD s)) (l:=t.lives) (i:=i) (n:=1073741824) (by omega);(try simp only[List.length_map]);omega) fun w' τ4 H4=> ?_
    have cw':=(H4.hp.sl 5 rfl).cell
    simp +contextual (disch:=omega) only[go_sem,e2,e3,e4,e6,ei,cw']
    intro τ5 H5
    exact hJ _ _ _ _ (H5.re [1,2,3,4,5,6,7,8,9,10] (by decide)) ⟨x2,w',x4,x5,by simp +contextual (disch:=omega) only[go_sem,e2],by simp +contextual (disch:=omega) only[go_sem,e3],by simp +contextual (disch:=omega) only[go_sem,e4],by simp +contextual (disch:=omega) only[go_sem,e6],by rw[Ir hi (by simp[newD,h1])];rfl⟩
  ·clear H e2 e3 e4 e6
   rintro Y hY env h τ ei k9 H ⟨x2,x3,x4,x5,e2,e3,e4,e6,rfl⟩
   simp +contextual (disch:=omega) only[go_sem,k9,e2,e3,e4,e6,ei,p2.len]
   exact hY _ _ _ H ⟨x2,x3,x4,x5,e2,e3,e4,e6,by rw[List.take_length]⟩
  clear H e2 e3 e4 e6
  rintro env h τ H ⟨x2,x3,x4,x5,e2,e3,e4,e6,rfl⟩
  try simp +contextual (disch:=omega) only[go_sem]
  refine Bs s.lives.length 10 4 (fun i env h=>∃ x2 x3 x4 x5,env 2= .ptr n2 0∧env 3= .ptr n3 0∧env 4= .ptr n4 0∧env 6= .ptr n6 0∧h=[.box 1 n6 [k0,k1,x2,x3,x4,x5],.th (ow pI.kd k0 s.know),.th (ow pI.kd k1 t.know),.th (ow Ab.kd x2 (t.tallies.filter fun x=>Be s t x.rep)),.th (ow Ai.kd x3 (t.lives.filter (newD s))),.th (ow pDot.kd x4 (((s.lives.take i).filter fun x=> !decide (x∈t.lives)).map (·.dot))),.th (ow Ae.kd x5 []),.box 1 n4 z6',.box 1 n3 [w0,w1,w2,w3],.box 1 n2 [a,b,e,v]]) (fun env h=>∃ x2 x3 x4 x5,env 2= .ptr n2 0∧env 3= .ptr n3 0∧env 4= .ptr n4 0∧env 6= .ptr n6 0∧h=[.box 1 n6 [k0,k1,x2,x3,x4,x5],.th (ow pI.kd k0 s.know),.th (ow pI.kd k1 t.know),.th (ow Ab.kd x2 (t.tallies.filter fun x=>Be s t x.rep)),.th (ow Ai.kd x3 (t.lives.filter (newD s))),.th (ow pDot.kd x4 ((s.lives.filter fun x=> !decide (x∈t.lives)).map (·.dot))),.th (ow Ae.kd x5 []),.box 1 n4 z6',.box 1 n3 [w0,w1,w2,w3],.box 1 n2 [a,b,e,v]]) (fun _ _=>False) _ H (by simp +contextual (disch:=omega) only[go_sem]) ⟨x2,x3,x4,x5,by simp +contextual (disch:=omega) only[go_sem,e2],by simp +contextual (disch:=omega) only[go_sem,e3],by simp +contextual (disch:=omega) only[go_sem,e4],by simp +contextual (disch:=omega) only[go_sem,e6],by rfl⟩ ?_ ?_ ?_ (fun _ _ _ _ h=>h.elim)
  ·clear H e2 e3 e4 e6
   rintro J Y W hJ hY hW i env h τ hi ei k9 H ⟨x2,x3,x4,x5,e2,e3,e4,e6,rfl⟩
   have L1:=A6 qe hi
   have cw:=(H.hp.sl 5 rfl).cell
   simp +contextual (disch:=omega) only[go_sem,k9,e2,e3,e4,e6,ei,A4,L1,qe.len,cw]
   refine by_b H (Rg _ w2 _ (p2.pre H.sub) s.lives[i] (by omega)) (fun h1=> ?_) (fun h1=> ?_)
   ·simp +contextual (disch:=omega) only[go_sem,e2,e3,e4,e6,ei]
    exact hJ _ _ _ _ (H) ⟨x2,x3,x4,x5,by simp +contextual (disch:=omega) only[go_sem,e2],by simp +contextual (disch:=omega) only[go_sem,e3],by simp +contextual (disch:=omega) only[go_sem,e4],by simp +contextual (disch:=omega) only[go_sem,e6],by rw[Js hi (by simpa using h1)]⟩
   ·simp +contextual (disch:=omega) only[go_sem,e2,e3,e4,e6,ei,A4,L1,cw]
    intro nl fl τ3 H3
    refine Dn (p:=pDot) H3 6 rfl s.lives[i].dot Dm (by decide) (by have:=I4 (p:=(fun x=> !decide (x∈t.lives))) (l:=s.lives) (i:=i) (n:=1073741824) (by omega);(try simp only[List.length_map]);omega) fun w' τ4 H4=> ?_
    have cw':=(H4.hp.sl 6 rfl).cell
    simp +contextual (disch:=omega) only[go_sem,e2,e3,e4,e6,ei,cw']
    intro τ5 H5
    exact hJ _ _ _ _ (H5.re [1,2,3,4,5,6,7,8,9,10] (by decide)) ⟨x2,x3,w',x5,by simp +contextual (disch:=omega) only[go_sem,e2],by simp +contextual (disch:=omega) only[go_sem,e3],by simp +contextual (disch:=omega) only[go_sem,e4],by simp +contextual (disch:=omega) only[go_sem,e6],by rw[Ir hi (by simpa using h1)];simp⟩
  ·clear H e2 e3 e4 e6
   rintro Y hY env h τ ei k9 H ⟨x2,x3,x4,x5,e2,e3,e4,e6,rfl⟩
   simp +contextual (disch:=omega) only[go_sem,k9,e2,e3,e4,e6,ei,qe.len]
   exact hY _ _ _ H ⟨x2,x3,x4,x5,e2,e3,e4,e6,by rw[List.take_length]⟩
  clear H e2 e3 e4 e6
  rintro env h τ H ⟨x2,x3,x4,x5,e2,e3,e4,e6,rfl⟩
  try simp +contextual (disch:=omega) only[go_sem]
  refine Bs t.cells.length 11 6 (fun i env h=>∃ x2 x3 x4 x5,env 2= .ptr n2 0∧env 3= .ptr n3 0∧env 4= .ptr n4 0∧env 6= .ptr n6 0∧h=[.box 1 n6 [k0,k1,x2,x3,x4,x5],.th (ow pI.kd k0 s.know),.th (ow pI.kd k1 t.know),.th (ow Ab.kd x2 (t.tallies.filter fun x=>Be s t x.rep)),.th (ow Ai.kd x3 (t.lives.filter (newD s))),.th (ow pDot.kd x4 ((s.lives.filter fun x=> !decide (x∈t.lives)).map (·.dot))),.th (ow Ae.kd x5 ((t.cells.take i).filter (newC s))),.box 1 n4 z6',.box 1 n3 [w0,w1,w2,w3],.box 1 n2 [a,b,e,v]]) (fun env h=>∃ x2 x3 x4 x5,env 4= .ptr n4 0∧env 6= .ptr n6 0∧h=[.box 1 n6 [k0,k1,x2,x3,x4,x5],.th (ow pI.kd k0 s.know),.th (ow pI.kd k1 t.know),.th (ow Ab.kd x2 (t.tallies.filter fun x=>Be s t x.rep)),.th (ow Ai.kd x3 (t.lives.filter (newD s))),.th (ow pDot.kd x4 ((s.lives.filter fun x=> !decide (x∈t.lives)).map (·.dot))),.th (ow Ae.kd x5 (t.cells.filter (newC s))),.box 1 n4 z6',.box 1 n3 [w0,w1,w2,w3],.box 1 n2 [a,b,e,v]]) (fun _ _=>False) _ H (by simp +contextual (disch:=omega) only[go_sem]) ⟨x2,x3,x4,x5,by simp +contextual (disch:=omega) only[go_sem,e2],by simp +contextual (disch:=omega) only[go_sem,e3],by simp +contextual (disch:=omega) only[go_sem,e4],by simp +contextual (disch:=omega) only[go_sem,e6],by rfl⟩ ?_ ?_ ?_ (fun _ _ _ _ h=>h.elim)
  ·clear H e2 e3 e4 e6
   rintro J Y W hJ hY hW i env h τ hi ei k9 H ⟨x2,x3,x4,x5,e2,e3,e4,e6,rfl⟩
   have L1:=A7 p3 hi
   have cw:=(H.hp.sl 6 rfl).cell
   simp +contextual (disch:=omega) only[go_sem,k9,e2,e3,e4,e6,ei,A4,L1,p3.len,cw]
   refine by_r H (A2x _ _ s (A9.pre hR0 H.sub) t.cells[i].dot (by omega)) ?_
   cases hx:Cm s.cells t.cells[i].dot with
   |none=>
    have hno:Cj s.cells t.cells[i].dot= -1:=by simp[Cj,hx]
    have kE:newC s t.cells[i]=true:=by simp[newC,hx]
    have b0:decide ((-1:Int)<0)=true:=rfl
    simp +contextual (disch:=omega) only[go_sem,hno,b0,e2,e3,e4,e6,ei,A4,L1,cw]
    intro nl fl τ3 H3
    refine Dn (p:=Ae) H3 7 rfl t.cells[i] Dm (by decide) (by have:=I4 (p:=(newC s)) (l:=t.cells) (i:=i) (n:=1073741824) (by omega);(try simp only[List.length_map]);omega) fun w' τ4 H4=> ?_
    have cw':=(H4.hp.sl 7 rfl).cell
    simp +contextual (disch:=omega) only[go_sem,e2,e3,e4,e6,ei,cw']
    intro τ5 H5
    exact hJ _ _ _ _ (H5.re [1,2,3,4,5,6,7,8,9,10] (by decide)) ⟨x2,x3,x4,w',by simp +contextual (disch:=omega) only[go_sem,e2],by simp +contextual (disch:=omega) only[go_sem,e3],by simp +contextual (disch:=omega) only[go_sem,e4],by simp +contextual (disch:=omega) only[go_sem,e6],by rw[Ir hi kE];rfl⟩
   |some j=>
    obtain⟨hj,hjd⟩:=Df hx
    have hno:Cj s.cells t.cells[i].dot=j:=by simp[Cj,hx]
    have b0:decide ((j:Int)<0)=false:=by simp
    have L2:=A7 qv hj
    cases hg:t.cells[i].gone with
    |false=>
     have kE:newC s t.cells[i]=false:=by simp[newC,hx,hg]
     simp +contextual (disch:=omega) only[go_sem,hno,b0,hg,e2,e3,e4,e6,ei,A4,L1,cw]
     exact hJ _ _ _ _ (H) ⟨x2,x3,x4,x5,by simp +contextual (disch:=omega) only[go_sem,e2],by simp +contextual (disch:=omega) only[go_sem,e3],by simp +contextual (disch:=omega) only[go_sem,e4],by simp +contextual (disch:=omega) only[go_sem,e6],by rw[Js hi kE]⟩
    |true=>
     cases hs:s.cells[j].gone with
     |true=>
      have kE:newC s t.cells[i]=false:=by simp[newC,hx,hg,hj,hs]
      simp +contextual (disch:=omega) only[go_sem,hno,b0,hg,hs,e2,e3,e4,e6,ei,A4,L1,L2,cw]
      exact hJ _ _ _ _ (H) ⟨x2,x3,x4,x5,by simp +contextual (disch:=omega) only[go_sem,e2],by simp +contextual (disch:=omega) only[go_sem,e3],by simp +contextual (disch:=omega) only[go_sem,e4],by simp +contextual (disch:=omega) only[go_sem,e6],by rw[Js hi kE]⟩
     |false=>
      have kE:newC s t.cells[i]=true:=by simp[newC,hx,hg,hj,hs]
      simp +contextual (disch:=omega) only[go_sem,hno,b0,hg,hs,e2,e3,e4,e6,ei,A4,L1,L2,cw]
      intro nl fl τ3 H3
      refine Dn (p:=Ae) H3 7 rfl t.cells[i] (by simp only[Dm,Nc,hg]) (by decide) (by have:=I4 (p:=(newC s)) (l:=t.cells) (i:=i) (n:=1073741824) (by omega);(try simp only[List.length_map]);omega) fun w' τ4 H4=> ?_
      have cw':=(H4.hp.sl 7 rfl).cell
      simp +contextual (disch:=omega) only[go_sem,e2,e3,e4,e6,ei,cw']
      intro τ5 H5
      exact hJ _ _ _ _ (H5.re [1,2,3,4,5,6,7,8,9,10] (by decide)) ⟨x2,x3,x4,w',by simp +contextual (disch:=omega) only[go_sem,e2],by simp +contextual (disch:=omega) only[go_sem,e3],by simp +contextual (disch:=omega) only[go_sem,e4],by simp +contextual (disch:=omega) only[go_sem,e6],by rw[Ir hi kE];rfl⟩
  ·clear H e2 e3 e4 e6
   rintro Y hY env h τ ei k9 H ⟨x2,x3,x4,x5,e2,e3,e4,e6,rfl⟩
   simp +contextual (disch:=omega) only[go_sem,k9,e2,e3,e4,e6,ei,p3.len]
   exact hY _ _ _ H ⟨x2,x3,x4,x5,e4,e6,by rw[List.take_length]⟩
  clear H e2 e3 e4 e6
  rintro env h τ H ⟨x2,x3,x4,x5,e4,e6,rfl⟩
  have cc2:=(H.hp.sl 3 rfl).cell
  have cc3:=(H.hp.sl 4 rfl).cell
  have cc4:=(H.hp.sl 5 rfl).cell
  have cc5:=(H.hp.sl 6 rfl).cell
  simp +contextual (disch:=omega) only[go_sem,e4,e6,cc2,cc3,cc4,cc5]
  intro τ8 H8
  exact⟨_,rfl,_,by rw[hd],by rw[hd];exact Hp.ownDelta (x:=A5v s t) (H8.sel [1,2,3,4,5,6] (by decide))⟩
 obtain⟨q,τ,R,r,rfl,h⟩:=key
 exact⟨r,τ,R,h⟩
end
section
open Go Go.RowKit
abbrev Aio:Nat:=211
def Aip:Fn1:=⟨11,[.c 2 true 10],(rg [oX 1 0,o 2 (.new [z0,z0,z0,.nilS,z0,(.str ⟨#[]⟩),(.str ⟨#[]⟩),z0,z0,z0])] (rg [oW 4 10 1,o 3 (.new [z0,z0,z0,.nilS,z0,(.str ⟨#[]⟩),(.str ⟨#[]⟩),z0,z0,z0]),oS 10 3 4] (rg [o 5 (.lit 1 0 [] []),oF 6 3 1,oL 7 6,o 8 (.app 1 8 [z0] (.t 5) (.t 7)),oF 9 3 3,oS 1 9 8] (rg [oW 10 10 3,oS 10 2 10] .ret))))⟩
abbrev Aiq:Nat:=194
def Air:Fn1:=⟨8,[.c 2 true 10],(rg [oX 1 0,o 2 (.new [z0,z0,z0,.nilS,z0,(.str ⟨#[]⟩),(.str ⟨#[]⟩),z0,z0,z0])] (rg [oF 3 3 1,oL 4 3,oC 5 182 4,oF 6 3 1,oS 1 6 5] (rg [oW 7 10 1,oS 10 2 7] .ret)))⟩
abbrev n_s_ActsBy:Nat:=80
def F_s_ActsBy:Fn1:=⟨48,[.t 4],(rg [o 4 (.mov (.k .nilS))] (rg [o 7 (.lit 10 0 [] []),oM 5 7] (.seq (rg [oV 6 (ki 0)] (.blk 0 (.lop (.seq (rg [oM 8 6,oM 9 0,oN 10 9,oB 11 .lss 8 10] (.cnd (.t 11) .skip (.ext 0))) (.seq (.blk 1 (rg [oM 14 0,oM 15 6,oI 16 17 14 15,oF 17 0 16,oL 18 17,oU 19 18,oM 20 19,og 21 20 true (.mov (.t 0)),og 22 20 true (.mov (.t 6)),og 23 20 true (.iad 17 (.t 21) (.t 22)),og 24 20 true (.ld true 17 (.t 23)),og 25 20 true (.call 97 [(.t 24)]),o 26 (.pick (.t 20) (.t 25) kf),oM 27 26,og 28 27 true (.mov (.t 0)),og 29 27 true (.mov (.t 6)),og 30 27 true (.iad 17 (.t 28) (.t 29)),og 31 27 true (.fad 1 (.t 30)),og 32 27 true (.fad 0 (.t 31)),og 33 27 true (.fad 0 (.t 32)),og 34 27 true (.ld false 1 (.t 33)),og 35 27 true (.mov (.t 1)),og 36 27 true (.bin .eql (.t 34) (.t 35)),o 37 (.pick (.t 27) (.t 36) kf)] (.cnd (.t 37) (.reg [oM 38 5,oM 39 0,oM 40 6,oI 41 17 39 40,oF 42 1 41,oW 43 10 42,oC 44 211 43,o 45 (.lit 10 1 [z0,z0,z0,.nilS,z0,(.str ⟨#[]⟩),(.str ⟨#[]⟩),z0,z0,z0] [(0,10,(.t 44))]),o 46 (.app 10 112 [z0,z0,z0,.nilS,z0,(.str ⟨#[]⟩),(.str ⟨#[]⟩),z0,z0,z0] (.t 38) (.t 45)),oM 5 46]) .skip))) (.reg [oM 12 6,oZ 13 12 1,oM 6 13])))))) (rg [oM 47 5,oM 4 47] .ret))))⟩
abbrev n_i_ActsBy:Nat:=68
def F_i_ActsBy:Fn1:=⟨38,[.t 4],(rg [o 4 (.mov (.k .nilS))] (rg [o 8 (.lit 10 0 [] []),oM 5 8] (.seq (rg [oM 9 0,oN 10 9,oV 11 (ki 0)] (.blk 0 (.lop (rg [oB 12 .lss 11 10] (.seq (.cnd (.t 12) .skip (.ext 0)) (.seq (.blk 1 (rg [oI 13 17 9 11,oW 14 17 13,o 7 (.new [(.bool false),z0,z0,z0,.nilS,z0,(.str ⟨#[]⟩),(.str ⟨#[]⟩),z0,z0,z0,.nilS,.nilS,.nilS,.nilS,.nilS,.nilS]),oS 17 7 14] (rg [oW 15 17 7,oC 16 101 15,oM 17 16,og 18 17 true (.fad 0 (.t 7)),og 19 17 true (.ld false 1 (.t 18)),og 20 17 true (.un .not (.t 19)),o 21 (.pick (.t 17) (.t 20) kf),oM 22 21,og 23 22 true (.fad 1 (.t 7)),og 24 22 true (.fad 0 (.t 23)),og 25 22 true (.fad 0 (.t 24)),og 26 22 true (.ld false 1 (.t 25)),og 27 22 true (.mov (.t 1)),og 28 22 true (.bin .eql (.t 26) (.t 27)),o 29 (.pick (.t 22) (.t 28) kf)] (.cnd (.t 29) (.reg [oM 30 5,oF 31 1 7,oW 32 10 31,oC 33 194 32,o 34 (.lit 10 1 [z0,z0,z0,.nilS,z0,(.str ⟨#[]⟩),(.str ⟨#[]⟩),z0,z0,z0] [(0,10,(.t 33))]),o 35 (.app 10 112 [z0,z0,z0,.nilS,z0,(.str ⟨#[]⟩),(.str ⟨#[]⟩),z0,z0,z0] (.t 30) (.t 34)),oM 5 35]) .skip)))) (.reg [oZ 36 11 1,oM 11 36]))))))) (rg [oM 37 5,oM 4 37] .ret))))⟩
def byRep (r:Int) (u:Unit_):Bool:=A6z u&&(!u.batch&&u.act.dot.rep==r)
def actsBy (us:List Unit_) (r:Int):List Act:=(us.filter (byRep r)).map (·.act)
end
section
open Go Go.RowKit
abbrev Ais:Nat:=223
def Ait:Fn1:=⟨28,[.c 2 true 6],(rg [oX 1 0,o 2 (.new [.nilS,.nilS,.nilS,.nilS,.nilS,.nilS])] (.seq (.drw [o 3 (.lit 1 0 [] []),oF 4 0 1,oL 5 4,o 6 (.app 1 8 [z0] (.t 3) (.t 5)),o 7 (.lit 1 0 [] []),oF 8 1 1,oL 9 8,o 10 (.app 1 8 [z0] (.t 7) (.t 9)),o 11 (.lit 3 0 [] []),oF 12 2 1,oL 13 12,o 14 (.app 3 32 [(.str ⟨#[]⟩),z0,z0] (.t 11) (.t 13)),o 15 (.lit 6 0 [] []),oF 16 3 1,oL 17 16,o 18 (.app 6 64 [(.bool false),(.str ⟨#[]⟩),(.str ⟨#[]⟩),z0,z0,z0] (.t 15) (.t 17)),o 19 (.lit 2 0 [] []),oF 20 4 1,oL 21 20,o 22 (.app 2 16 [z0,z0] (.t 19) (.t 21)),o 23 (.lit 8 0 [] []),oF 24 5 1,oL 25 24] [o 26 (.app 8 72 [(.str ⟨#[]⟩),z0,z0,z0,z0,z0,z0,(.bool false)] (.t 23) (.t 25)),o 27 (.build [.nilS,.nilS,.nilS,.nilS,.nilS,.nilS] [(0,1,(.t 6)),(1,1,(.t 10)),(2,1,(.t 14)),(3,1,(.t 18)),(4,1,(.t 22)),(5,1,(.t 26))]),oS 6 2 27]) .ret))⟩
abbrev Adn:Nat:=311
def Ado:Fn1:=⟨26,[.c 2 true 6],(rg [oX 1 0,o 2 (.new [.nilS,.nilS,.nilS,.nilS,.nilS,.nilS])] (.seq (.drw [oF 3 0 1,oL 4 3,oC 5 182 4,oF 6 1 1,oL 7 6,oC 8 182 7,o 9 (.lit 3 0 [] []),oF 10 2 1,oL 11 10,o 12 (.app 3 32 [(.str ⟨#[]⟩),z0,z0] (.t 9) (.t 11)),o 13 (.lit 6 0 [] []),oF 14 3 1,oL 15 14,o 16 (.app 6 64 [(.bool false),(.str ⟨#[]⟩),(.str ⟨#[]⟩),z0,z0,z0] (.t 13) (.t 15)),o 17 (.lit 2 0 [] []),oF 18 4 1,oL 19 18,o 20 (.app 2 16 [z0,z0] (.t 17) (.t 19)),o 21 (.lit 8 0 [] []),oF 22 5 1,oL 23 22] [o 24 (.app 8 72 [(.str ⟨#[]⟩),z0,z0,z0,z0,z0,z0,(.bool false)] (.t 21) (.t 23)),o 25 (.build [.nilS,.nilS,.nilS,.nilS,.nilS,.nilS] [(0,1,(.t 5)),(1,1,(.t 8)),(2,1,(.t 12)),(3,1,(.t 16)),(4,1,(.t 20)),(5,1,(.t 24))]),oS 6 2 25]) .ret))⟩
abbrev Abd:Nat:=99
def Abe:Fn1:=⟨12,[.c 2 true 17],(rg [oX 1 0,o 2 (.new [(.bool false),z0,z0,z0,.nilS,z0,(.str ⟨#[]⟩),(.str ⟨#[]⟩),z0,z0,z0,.nilS,.nilS,.nilS,.nilS,.nilS,.nilS])] (.seq (.drw [oF 3 0 1,oL 4 3,oF 5 1 1,oW 6 10 5,oC 7 211 6,oF 8 11 1,oW 9 6 8,oC 10 223 9] [o 11 (.build [(.bool false),z0,z0,z0,.nilS,z0,(.str ⟨#[]⟩),(.str ⟨#[]⟩),z0,z0,z0,.nilS,.nilS,.nilS,.nilS,.nilS,.nilS] [(0,1,(.t 4)),(1,10,(.t 7)),(11,6,(.t 10))]),oS 17 2 11]) .ret))⟩
abbrev Afd:Nat:=228
def Afe:Fn1:=⟨12,[.c 2 true 17],(rg [oX 1 0,o 2 (.new [(.bool false),z0,z0,z0,.nilS,z0,(.str ⟨#[]⟩),(.str ⟨#[]⟩),z0,z0,z0,.nilS,.nilS,.nilS,.nilS,.nilS,.nilS])] (.seq (.drw [oF 3 0 1,oL 4 3,oF 5 1 1,oW 6 10 5,oC 7 194 6,oF 8 11 1,oW 9 6 8,oC 10 311 9] [o 11 (.build [(.bool false),z0,z0,z0,.nilS,z0,(.str ⟨#[]⟩),(.str ⟨#[]⟩),z0,z0,z0,.nilS,.nilS,.nilS,.nilS,.nilS,.nilS] [(0,1,(.t 4)),(1,10,(.t 7)),(11,6,(.t 10))]),oS 17 2 11]) .ret))⟩
abbrev Adp:Nat:=102
def Adr:Fn1:=⟨20,[.t 2],(rg [o 2 (.mov (.k .nilS))] (rg [o 6 (.lit 17 0 [] []),oM 3 6] (.seq (rg [oM 7 0,oN 8 7,oV 9 (ki 0)] (.blk 0 (.lop (rg [oB 10 .lss 9 8] (.seq (.cnd (.t 10) .skip (.ext 0)) (.seq (.blk 1 (rg [oI 11 17 7 9,oW 12 17 11,o 5 (.new [(.bool false),z0,z0,z0,.nilS,z0,(.str ⟨#[]⟩),(.str ⟨#[]⟩),z0,z0,z0,.nilS,.nilS,.nilS,.nilS,.nilS,.nilS]),oS 17 5 12] (.reg [oM 13 3,oW 14 17 5,oC 15 228 14,o 16 (.lit 17 1 [(.bool false),z0,z0,z0,.nilS,z0,(.str ⟨#[]⟩),(.str ⟨#[]⟩),z0,z0,z0,.nilS,.nilS,.nilS,.nilS,.nilS,.nilS] [(0,17,(.t 15))]),o 17 (.app 17 264 [(.bool false),z0,z0,z0,.nilS,z0,(.str ⟨#[]⟩),(.str ⟨#[]⟩),z0,z0,z0,.nilS,.nilS,.nilS,.nilS,.nilS,.nilS] (.t 13) (.t 16)),oM 3 17]))) (.reg [oZ 18 9 1,oM 9 18]))))))) (rg [oM 19 3,oM 2 19] .ret))))⟩
end
section
open Go Go.RowKit
abbrev n_i_sumOf:Nat:=107
def F_i_sumOf:Fn1:=⟨17,[.t 2],(rg [oV 2 (ki 0)] (rg [oV 3 (ki 0)] (.seq (rg [oM 6 0,oN 7 6,oV 8 (ki 0)] (.blk 0 (.lop (rg [oB 9 .lss 8 7] (.seq (.cnd (.t 9) .skip (.ext 0)) (.seq (.blk 1 (rg [oI 10 1 6 8,oL 11 10,oM 5 11] (.reg [oM 12 3,oM 13 5,oB 14 .add 12 13,oM 3 14]))) (.reg [oZ 15 8 1,oM 8 15]))))))) (rg [oM 16 3,oM 2 16] .ret))))⟩
abbrev n_s_l26Sum:Nat:=222
def F_s_l26Sum:Fn1:=⟨18,[.t 2],(rg [oV 2 (ki 0)] (rg [oV 3 (ki 0)] (.seq (rg [oV 4 (ki 0)] (.blk 0 (.lop (.seq (rg [oM 5 4,oM 6 0,oN 7 6,oB 8 .lss 5 7] (.cnd (.t 8) .skip (.ext 0))) (.seq (.blk 1 (.reg [oM 11 3,oM 12 0,oM 13 4,oI 14 1 12 13,oL 15 14,oB 16 .add 11 15,oM 3 16])) (.reg [oM 9 4,oZ 10 9 1,oM 4 10])))))) (rg [oM 17 3,oM 2 17] .ret))))⟩
abbrev Aiu:Nat:=98
def Aiv:Fn1:=⟨26,[.t 4],(rg [oX 2 0,oX 3 1,oV 4 kf] (.seq (.seq (.drw [oF 5 3 2,oL 6 5,oC 7 222 6,oF 8 3 3,oL 9 8] [oC 10 222 9,oB 11 .neq 7 10]) (.cnd (.t 11) (.seq (.drw [oF 12 3 2,oL 13 12,oC 14 222 13,oF 15 3 3,oL 16 15] [oC 17 222 16,oB 18 .lss 14 17,oM 4 18]) .ret) .skip)) (rg [oF 19 0 2,oF 20 0 19,oL 21 20,oF 22 0 3,oF 23 0 22,oL 24 23,oB 25 .lss 21 24,oM 4 25] .ret)))⟩
abbrev Abu:Nat:=104
def Abv:Fn1:=⟨25,[.t 4],(rg [oX 2 0,oX 3 1,oV 4 (ki 0)] (.seq (.drw [oF 5 1 2,oF 6 3 5,oL 7 6,oC 8 107 7,oF 9 1 3,oF 10 3 9,oL 11 10,oC 12 107 11,oD 13 106 8 12,oF 14 1 2,oF 15 0 14,oF 16 0 15,oL 17 16,oF 18 1 3,oF 19 0 18,oF 20 0 19,oL 21 20] [oD 22 106 17 21,o 23 (.lit 1 2 [z0,z0] [(0,1,(.t 13)),(1,1,(.t 22))]),oC 24 105 23,oM 4 24]) .ret))⟩
def sumW (l:List Int):Int:=l.foldl (fun a b=>IntKind.i64.wrap (a+b)) 0
def lessA (a b:Act):Bool:=if sumW a.knew != sumW b.knew then decide (sumW a.knew<sumW b.knew) else decide (a.dot.rep<b.dot.rep)
def cmpU (a b:Unit_):Int:=orI (cmpI (sumW a.act.knew) (sumW b.act.knew)) (cmpI a.act.dot.rep b.act.dot.rep)
end
section
open Go Go.RowKit
abbrev Aiw:Nat:=12
def Aix:Fn1:=⟨79,[.t 2,.t 3],(rg [o 2 (.mov (.k .nilS)),oV 3 kf] (rg [o 9 (.lit 17 0 [] []),oM 4 9] (.seq (rg [oV 5 (ki 0)] (.blk 0 (.lop (.seq (rg [oM 10 5,oM 11 0,oN 12 11,oB 13 .lss 10 12] (.cnd (.t 13) .skip (.ext 0))) (.seq (.blk 1 (.seq (rg [oM 16 0,oM 17 5,oI 18 17 16 17,oF 19 0 18,oL 20 19,oM 21 20,og 22 21 false (.mov (.t 0)),og 23 21 false (.mov (.t 5)),og 24 21 false (.iad 17 (.t 22) (.t 23)),og 25 21 false (.ld true 17 (.t 24)),og 26 21 false (.call 97 [(.t 25)]),og 27 21 false (.un .not (.t 26)),o 28 (.pick (.t 21) kt (.t 27))] (.cnd (.t 28) (rg [o 29 (.lit 17 0 [] []),oM 2 29,oV 3 kf] .ret) .skip)) (rg [o 30 (.lit 17 0 [] []),oM 6 30] (rg [oV 7 kf] (.seq (rg [oV 8 (ki 0)] (.blk 2 (.lop (.seq (rg [oM 31 8,oM 32 4,oN 33 32,oB 34 .lss 31 33] (.cnd (.t 34) .skip (.ext 2))) (.seq (.blk 3 (.seq (.seq (.drw [oM 37 7,oU 38 37,oM 39 38,og 40 39 true (.mov (.t 0)),og 41 39 true (.mov (.t 5)),og 42 39 true (.iad 17 (.t 40) (.t 41)),og 43 39 true (.fad 1 (.t 42)),og 44 39 true (.ld true 10 (.t 43)),og 45 39 true (.mov (.t 4)),og 46 39 true (.mov (.t 8)),og 47 39 true (.iad 17 (.t 45) (.t 46)),og 48 39 true (.fad 1 (.t 47)),og 49 39 true (.ld true 10 (.t 48))] [og 50 39 true (.call 98 [(.t 44),(.t 49)]),o 51 (.pick (.t 39) (.t 50) kf)]) (.cnd (.t 51) (rg [oM 52 6,oM 53 0,oM 54 5,oI 55 17 53 54,oW 56 17 55,oC 57 99 56,o 58 (.lit 17 1 [(.bool false),z0,z0,z0,.nilS,z0,(.str ⟨#[]⟩),(.str ⟨#[]⟩),z0,z0,z0,.nilS,.nilS,.nilS,.nilS,.nilS,.nilS] [(0,17,(.t 57))]),o 59 (.app 17 264 [(.bool false),z0,z0,z0,.nilS,z0,(.str ⟨#[]⟩),(.str ⟨#[]⟩),z0,z0,z0,.nilS,.nilS,.nilS,.nilS,.nilS,.nilS] (.t 52) (.t 58)),oM 6 59] (.reg [oV 7 kt])) .skip)) (.reg [oM 60 6,oM 61 4,oM 62 8,oI 63 17 61 62,oW 64 17 63,o 65 (.lit 17 1 [(.bool false),z0,z0,z0,.nilS,z0,(.str ⟨#[]⟩),(.str ⟨#[]⟩),z0,z0,z0,.nilS,.nilS,.nilS,.nilS,.nilS,.nilS] [(0,17,(.t 64))]),o 66 (.app 17 264 [(.bool false),z0,z0,z0,.nilS,z0,(.str ⟨#[]⟩),(.str ⟨#[]⟩),z0,z0,z0,.nilS,.nilS,.nilS,.nilS,.nilS,.nilS] (.t 60) (.t 65)),oM 6 66]))) (.reg [oM 35 8,oZ 36 35 1,oM 8 36])))))) (.seq (rg [oM 67 7,oU 68 67] (.cnd (.t 68) (.reg [oM 69 6,oM 70 0,oM 71 5,oI 72 17 70 71,oW 73 17 72,oC 74 99 73,o 75 (.lit 17 1 [(.bool false),z0,z0,z0,.nilS,z0,(.str ⟨#[]⟩),(.str ⟨#[]⟩),z0,z0,z0,.nilS,.nilS,.nilS,.nilS,.nilS,.nilS] [(0,17,(.t 74))]),o 76 (.app 17 264 [(.bool false),z0,z0,z0,.nilS,z0,(.str ⟨#[]⟩),(.str ⟨#[]⟩),z0,z0,z0,.nilS,.nilS,.nilS,.nilS,.nilS,.nilS] (.t 69) (.t 75)),oM 6 76]) .skip)) (.reg [oM 77 6,oM 4 77]))))))) (.reg [oM 14 5,oZ 15 14 1,oM 5 15])))))) (rg [oM 78 4,oM 2 78,oV 3 kt] .ret))))⟩
def fitU (u:Unit_):Bool:= !u.batch&&A6z u
def lessU (x y:Unit_):Bool:=lessA x.act y.act
def allFit (us:List Unit_):Bool:=us.all fitU
def byOrder (us:List Unit_):List Unit_:=if allFit us then Bc lessU us else[]
def zmR (v w:GV) (acc nxt:List Unit_) (j:Nat) (h:List Item):Prop:=(∃ hj:j<acc.length,∃ cs,h=[.th (own Ej cs acc[j]),.th (ow Ej v nxt),.th (rst Ej w acc j cs)])∨(j=acc.length∧h=[.th (ow Ej v nxt),.th (rest Ej w acc j)])
end
section
open Go Go.RowKit
def mInt (k:Int):Int:=k
def mString (k:Int):ByteArray:=mtx k
def mDot (k:Int):Dot:=⟨k,k+1⟩
def I6 (k:Int):Tally:=⟨mtx (k),k+1,k+1+1⟩
def Qc (k:Int):Live:=⟨((k).tmod 3==0),mtx (k+1),mtx (k+1+1),k+1+1+1,⟨k+1+1+1+1,k+1+1+1+1+1⟩⟩
def Ss (k:Int):Cell:=⟨mtx (k),⟨k+1,k+1+1⟩,k+1+1+1,⟨k+1+1+1+1,k+1+1+1+1+1⟩,k+1+1+1+1+1+1,((k+1+1+1+1+1+1+1).tmod 3==0)⟩
def mEdit (k:Int):Edit:=⟨k,mtx (k+1),mtx (k+1+1),k+1+1+1,k+1+1+1+1⟩
def mWatch (k:Int):Watch:=⟨k,mtx (k+1),mtx (k+1+1)⟩
def mClash (k:Int):Clash:=⟨mtx (k),mtx (k+1)⟩
def mFile (k:Int):File:=⟨mtx (k),k+1⟩
def mLetter (k:Int):Letter:=⟨k,mtx (k+1)⟩
def mEvent (k:Int):Event:=⟨k,k+1,k+1+1,⟨k+1+1+1,mtx (k+1+1+1+1),mtx (k+1+1+1+1+1),k+1+1+1+1+1+1,k+1+1+1+1+1+1+1⟩⟩
end
section
open Go Go.RowKit
abbrev Ro:Nat:=109
def Rp:Fn1:=⟨19,[.t 4],(rg [oV 4 (ki 0)] (.seq (rg [oV 5 (ki 0)] (.blk 0 (.lop (.seq (rg [oM 6 5,oM 7 0,oN 8 7,oB 9 .lss 6 8] (.cnd (.t 9) .skip (.ext 0))) (.seq (.blk 1 (rg [oM 12 0,oM 13 5,oM 14 1,oI 15 1 12 13,oS 1 15 14] (.reg [oM 16 1,oZ 17 16 1,oM 1 17]))) (.reg [oM 10 5,oZ 11 10 1,oM 5 11])))))) (rg [oM 18 1,oM 4 18] .ret)))⟩
theorem A16:A8 Tryz.prog Ro=some Rp:=by kernel_rfl
theorem Gd {σ τ:St} {rs:List Thg} (i0:Nat) (v:GV) (l:List Int) (k:Int) (H:Hp σ τ rs) (hi0:rs[i0]? =some (ow pI.kd v l)) (h0:0≤k) (hk:k+1*l.length≤4611686018427387904):∃ τ',Ret Tryz.prog Ro [v,gi k] τ (gi (k+1*l.length)) τ'∧Hp σ τ' (rs.set i0 (ow pI.kd v (mkF mInt 1 k l.length))):=by
 have H:=H.pick i0 hi0
 have hlt:=(List.getElem?_eq_some_iff.1 hi0).1
 obtain⟨r,τ',hR,rfl,H'⟩:=Bw (P:=Tryz.prog) (σ:=τ) (args:=[v,gi k]) (Post:=fun r τ'=>r=gi (k+1*l.length)∧Hp σ τ' (ow pI.kd v (mkF mInt 1 k l.length)::rs.eraseIdx i0)) A16 (Z0z rfl) (by
  simp +contextual (disch:=omega) only[go_sem,Rp]
  refine B4 l.length 5 (fun i env τ'=>env 0=v∧env 1=gi (k+1*(i:Int))∧τ.length≤τ'.length∧Hp σ τ' (ow pI.kd v ((mkF mInt 1 k l.length).take i++l.drop i)::rs.eraseIdx i0)) rfl ⟨rfl,(by show gi k=gi (k+1*0);simp),Nat.le_refl _,by simpa using H⟩ ?_ ?_
  ·rintro i env τ' hi e5 c0 ⟨e0,e1,hle,H⟩
   have hL:=Nh (l:=l) (e:=mInt) (c:=1) (k:=k) (i:=i)
   have hst:=Ke (e:=mInt) (c:=1) (k:=k) hi
   generalize(mkF mInt 1 k l.length).take i++l.drop i=L at H hL hst
   have hj:i<L.length:=by omega
   have h1:=H.sl 0 rfl
   have hln:=h1.len
   rw[hL] at hln
   have hat:=Db h1 hj
   simp +contextual (disch:=omega) only[go_sem,c0,e0,e1,e5,hln,hat]
   obtain⟨τ2,es,H2⟩:=H.stw 0 rfl hj 1 (.int .i64 (k+1*(i:Int))) (mInt (k+1*(i:Int))) rfl rfl (by decide)
   have es:stG 1 τ' (atz 1 v i) (.int .i64 (k+1*(i:Int)))=some (.tup [],τ2):=es
   have hlen:=Cr es
   have H2:Hp σ τ2 (ow pI.kd v (L.set i (mInt (k+(1:Nat)*(i:Int))))::rs.eraseIdx i0):=H2
   rw[hst] at H2
   simp +contextual (disch:=omega) only[go_sem,c0,e0,e1,e5,hln,hat,es]
   exact⟨by omega,by omega,H2⟩
  ·rintro env τ' e5 c0 ⟨e0,e1,hle,H⟩
   rw[Ni] at H
   have hln:=(H.sl 0 rfl).len
   rw[Az] at hln
   simp +contextual (disch:=omega) only[go_sem,c0,e0,e1,e5,hln]
   exact⟨_,rfl,hle,rfl,H⟩)
 exact⟨τ',hR,H'.unpick hlt⟩
end
section
open Go Go.RowKit
section
variable {α:Type} {f:Int→α→α} {c:α→Nat}
def Gw (f:Int→α→α) (c:α→Nat):Int→List α→List α
 |_,[]=>[]
 |k,x::l=>f k x::Gw f c (k+c x) l
theorem Vn:∀ {l:List α} {k:Int},(Gw f c k l).length=l.length
 |[],_=>rfl
 |x::l,k=>by rw[Gw,List.length_cons,List.length_cons,Vn]
theorem A3w:∀ {a b:List α} {k:Int},Gw f c k (a++b)=Gw f c k a++Gw f c (k+(sumL c a:Nat)) b
 |[],b,k=>by simp[Gw,sumL]
 |x::a,b,k=>by
  rw[List.cons_append,Gw,Gw,A3w,List.cons_append]
  have:sumL c (x::a)=c x+sumL c a:=by simp[sumL]
  rw[this,show k+(c x:Int)+(sumL c a:Nat)=k+((c x+sumL c a:Nat):Int) by omega]
theorem A8j {l:List α} {i:Nat} {k:Int} (hi:i<l.length):Gw f c k (l.take (i+1))=Gw f c k (l.take i)++[f (k+(sumL c (l.take i):Nat)) l[i]]:=by
 rw[Ag hi,A3w];rfl
theorem A3x {l:List α} {i:Nat} {k:Int} (hi:i<l.length) {y:α} (hy:y=f (k+(sumL c (l.take i):Nat)) l[i]):(Gw f c k (l.take i)++l.drop i).set i y=Gw f c k (l.take (i+1))++l.drop (i+1):=by
 have hl:(Gw f c k (l.take i)).length=i:=by rw[Vn,List.length_take,Nat.min_eq_left (by omega)]
 rw[A8j hi,List.set_append_right _ _ (by omega),hl,Nat.sub_self,←List.getElem_cons_drop hi,List.set_cons_zero,hy,List.append_assoc];rfl
theorem A72 {l:List α} {i:Nat} {k:Int} (hi:i<l.length):∃ h,(Gw f c k (l.take i)++l.drop i)[i]'h=l[i]:=by
 have hl:(Gw f c k (l.take i)).length=i:=by rw[Vn,List.length_take,Nat.min_eq_left (by omega)]
 refine⟨by rw[List.length_append,hl,List.length_drop];omega,?_⟩
 rw[List.getElem_append_right (by omega)]
 simp[hl]
theorem A8k {l:List α} {k:Int}:Gw f c k (l.take l.length)++l.drop l.length=Gw f c k l:=by
 rw[List.take_length,List.drop_length,List.append_nil]
theorem A73 (hc:∀ x,1≤c x):∀ l:List α,l.length≤sumL c l
 |[]=>by simp
 |x::l=>by
  have:=hc x
  have h:=A73 hc l
  have:sumL c (x::l)=c x+sumL c l:=by simp[sumL]
  rw[List.length_cons];omega
end
def ctE (x:Act):Nat:=9+x.knew.length
def kE (k:Int) (x:Act):Int:=k+1+1+1+1*(x.knew.length:Int)
def mActE (k:Int) (x:Act):Act:=⟨⟨k,k+1⟩,k+1+1,mkF mInt 1 (k+1+1+1) x.knew.length,kE k x,mtx (kE k x+1),mtx (kE k x+1+1),kE k x+1+1+1,⟨kE k x+1+1+1+1,kE k x+1+1+1+1+1⟩⟩
def zmA (v:GV) (l L:List Act) (i:Nat) (R h:List Item):Prop:=(∃ hi:i<l.length,∃ kv,h= .th (ow pI.kd kv l[i].knew)::.th (hole kAct v L i (actV l[i] kv))::R)∨(i=l.length∧h= .th (ow kAct v L)::R)
end
section
open Go Go.RowKit
def L6 (x:State):Nat:=1*x.know.length+3*x.tallies.length+6*x.lives.length+8*x.cells.length
def Ea (k:Int) (x:State):State:={x with know:=(mkF mInt 1 (k) x.know.length),tallies:=(mkF I6 3 (k+1*(x.know.length:Int)) x.tallies.length),lives:=(mkF Qc 6 (k+1*(x.know.length:Int)+3*(x.tallies.length:Int)) x.lives.length),cells:=(mkF Ss 8 (k+1*(x.know.length:Int)+3*(x.tallies.length:Int)+6*(x.lives.length:Int)) x.cells.length)}
theorem A8l (x:State):L6 x≤10*Ad x:=by
 unfold L6 Ad;omega
def ctAct (x:Act):Nat:=1*x.knew.length
def mkAct (k:Int) (x:Act):Act:={x with knew:=(mkF mInt 1 (k) x.knew.length)}
def Gi (x:Delta):Nat:=1*x.base.length+1*x.know.length+3*x.tallies.length+6*x.lives.length+2*x.dead.length+8*x.cells.length
def Vo (k:Int) (x:Delta):Delta:={x with base:=(mkF mInt 1 (k) x.base.length),know:=(mkF mInt 1 (k+1*(x.base.length:Int)) x.know.length),tallies:=(mkF I6 3 (k+1*(x.base.length:Int)+1*(x.know.length:Int)) x.tallies.length),lives:=(mkF Qc 6 (k+1*(x.base.length:Int)+1*(x.know.length:Int)+3*(x.tallies.length:Int)) x.lives.length),dead:=(mkF mDot 2 (k+1*(x.base.length:Int)+1*(x.know.length:Int)+3*(x.tallies.length:Int)+6*(x.lives.length:Int)) x.dead.length),cells:=(mkF Ss 8 (k+1*(x.base.length:Int)+1*(x.know.length:Int)+3*(x.tallies.length:Int)+6*(x.lives.length:Int)+2*(x.dead.length:Int)) x.cells.length)}
theorem Qd (x:Delta):Gi x≤10*Hf x:=by
 unfold Gi Hf;omega
end
section
open Go Go.RowKit
abbrev Md:Nat:=111
def Me:Fn1:=⟨35,[.t 4],(rg [oV 4 (ki 0)] (.seq (rg [oV 5 (ki 0)] (.blk 0 (.lop (.seq (rg [oM 6 5,oM 7 0,oN 8 7,oB 9 .lss 6 8] (.cnd (.t 9) .skip (.ext 0))) (.seq (.blk 1 (rg [oM 12 0,oM 13 5,oM 14 1,oC 15 110 14,oI 16 3 12 13,oF 17 0 16,oS 1 17 15] (rg [oM 18 1,oZ 19 18 1,oM 1 19] (rg [oM 20 0,oM 21 5,oM 22 1,oI 23 3 20 21,oF 24 1 23,oS 1 24 22] (rg [oM 25 1,oZ 26 25 1,oM 1 26] (rg [oM 27 0,oM 28 5,oM 29 1,oI 30 3 27 28,oF 31 2 30,oS 1 31 29] (.reg [oM 32 1,oZ 33 32 1,oM 1 33]))))))) (.reg [oM 10 5,oZ 11 10 1,oM 5 11])))))) (rg [oM 34 1,oM 4 34] .ret)))⟩
theorem Vp:A8 Tryz.prog Md=some Me:=by kernel_rfl
theorem Jp {σ τ:St} {rs:List Thg} (i0:Nat) (v:GV) (l:List Tally) (k:Int) (H:Hp σ τ rs) (hi0:rs[i0]? =some (ow Ab.kd v l)) (h0:0≤k) (hk:k+3*l.length≤4611686018427387904):∃ τ',Ret Tryz.prog Md [v,gi k] τ (gi (k+3*l.length)) τ'∧Hp σ τ' (rs.set i0 (ow Ab.kd v (mkF I6 3 k l.length))):=by
 have H:=H.pick i0 hi0
 have hlt:=(List.getElem?_eq_some_iff.1 hi0).1
 obtain⟨r,τ',hR,rfl,H'⟩:=Bw (P:=Tryz.prog) (σ:=τ) (args:=[v,gi k]) (Post:=fun r τ'=>r=gi (k+3*l.length)∧Hp σ τ' (ow Ab.kd v (mkF I6 3 k l.length)::rs.eraseIdx i0)) Vp (Z0z rfl) (by
  simp +contextual (disch:=omega) only[go_sem,Me]
  refine B4 l.length 5 (fun i env τ'=>env 0=v∧env 1=gi (k+3*(i:Int))∧τ.length≤τ'.length∧Hp σ τ' (ow Ab.kd v ((mkF I6 3 k l.length).take i++l.drop i)::rs.eraseIdx i0)) rfl ⟨rfl,(by show gi k=gi (k+3*0);simp),Nat.le_refl _,by simpa using H⟩ ?_ ?_
  ·rintro i env τ' hi e5 c0 ⟨e0,e1,hle,H⟩
   have hL:=Nh (l:=l) (e:=I6) (c:=3) (k:=k) (i:=i)
   have hst:=Ke (e:=I6) (c:=3) (k:=k) hi
   generalize(mkF I6 3 k l.length).take i++l.drop i=L at H hL hst
   have hj:i<L.length:=by omega
   have h1:=H.sl 0 rfl
   have hln:=h1.len
   rw[hL] at hln
   have hat:=Aa h1 hj
   rw[T9 hj] at H
   generalize hy:L[i]=y at H hat
   simp +contextual (disch:=omega) only[go_sem,c0,e0,e1,e5,hln,hat]
   refine Ac (Ce _ _ (by omega)) ?_
   simp +contextual (disch:=omega) only[go_sem,e0,e1,hat]
   obtain⟨τ0,es,H⟩:=H.sts hj 1 0 (.str (mtx (k+3*(i:Int)))) (⟨mtx (k+3*(i:Int)),y.rep,y.sum⟩) rfl (by decide) (by decide) rfl
   have es:stG 1 τ' (fld 0 (atz 3 v i)) (.str (mtx (k+3*(i:Int))))=some (.tup [],τ0):=es
   have hl0:=Cr es
   simp +contextual (disch:=omega) only[go_sem,e0,e1,e5,hat,es]
   obtain⟨τ1,es,H⟩:=H.sts hj 1 1 (.int .i64 (k+3*(i:Int)+1)) (⟨mtx (k+3*(i:Int)),k+3*(i:Int)+1,y.sum⟩) rfl (by decide) (by decide) rfl
   have es:stG 1 τ0 (fld 1 (atz 3 v i)) (.int .i64 (k+3*(i:Int)+1))=some (.tup [],τ1):=es
   have hl1:=Cr es
   simp +contextual (disch:=omega) only[go_sem,e0,e1,e5,hat,es]
   obtain⟨τ2,es,H⟩:=H.sts hj 1 2 (.int .i64 (k+3*(i:Int)+1+1)) (⟨mtx (k+3*(i:Int)),k+3*(i:Int)+1,k+3*(i:Int)+1+1⟩) rfl (by decide) (by decide) rfl
   have es:stG 1 τ1 (fld 2 (atz 3 v i)) (.int .i64 (k+3*(i:Int)+1+1))=some (.tup [],τ2):=es
   have hl2:=Cr es
   simp +contextual (disch:=omega) only[go_sem,e0,e1,e5,hat,es]
   have H2:Hp σ τ2 (ow Ab.kd v (L.set i (I6 (k+(3:Nat)*(i:Int))))::rs.eraseIdx i0):=H
   rw[hst] at H2
   exact⟨by omega,by omega,H2⟩
  ·rintro env τ' e5 c0 ⟨e0,e1,hle,H⟩
   rw[Ni] at H
   have hln:=(H.sl 0 rfl).len
   rw[Az] at hln
   simp +contextual (disch:=omega) only[go_sem,c0,e0,e1,e5,hln]
   exact⟨_,rfl,hle,rfl,H⟩)
 exact⟨τ',hR,H'.unpick hlt⟩
end
section
open Go Go.RowKit
abbrev Og:Nat:=112
def Oh:Fn1:=⟨61,[.t 4],(rg [oV 4 (ki 0)] (.seq (rg [oV 5 (ki 0)] (.blk 0 (.lop (.seq (rg [oM 6 5,oM 7 0,oN 8 7,oB 9 .lss 6 8] (.cnd (.t 9) .skip (.ext 0))) (.seq (.blk 1 (rg [oM 12 0,oM 13 5,oM 14 1,o 15 (.bin .rem (.t 14) (ki 3)),o 16 (.bin .eql (.t 15) (ki 0)),oI 17 6 12 13,oF 18 0 17,oS 1 18 16] (rg [oM 19 1,oZ 20 19 1,oM 1 20] (rg [oM 21 0,oM 22 5,oM 23 1,oC 24 110 23,oI 25 6 21 22,oF 26 1 25,oS 1 26 24] (rg [oM 27 1,oZ 28 27 1,oM 1 28] (rg [oM 29 0,oM 30 5,oM 31 1,oC 32 110 31,oI 33 6 29 30,oF 34 2 33,oS 1 34 32] (rg [oM 35 1,oZ 36 35 1,oM 1 36] (rg [oM 37 0,oM 38 5,oM 39 1,oI 40 6 37 38,oF 41 3 40,oS 1 41 39] (rg [oM 42 1,oZ 43 42 1,oM 1 43] (rg [oM 44 0,oM 45 5,oM 46 1,oI 47 6 44 45,oF 48 4 47,oF 49 0 48,oS 1 49 46] (rg [oM 50 1,oZ 51 50 1,oM 1 51] (rg [oM 52 0,oM 53 5,oM 54 1,oI 55 6 52 53,oF 56 4 55,oF 57 1 56,oS 1 57 54] (.reg [oM 58 1,oZ 59 58 1,oM 1 59]))))))))))))) (.reg [oM 10 5,oZ 11 10 1,oM 5 11])))))) (rg [oM 60 1,oM 4 60] .ret)))⟩
theorem Xa:A8 Tryz.prog Og=some Oh:=by kernel_rfl
theorem L7 {σ τ:St} {rs:List Thg} (i0:Nat) (v:GV) (l:List Live) (k:Int) (H:Hp σ τ rs) (hi0:rs[i0]? =some (ow Ai.kd v l)) (h0:0≤k) (hk:k+6*l.length≤4611686018427387904):∃ τ',Ret Tryz.prog Og [v,gi k] τ (gi (k+6*l.length)) τ'∧Hp σ τ' (rs.set i0 (ow Ai.kd v (mkF Qc 6 k l.length))):=by
 have H:=H.pick i0 hi0
 have hlt:=(List.getElem?_eq_some_iff.1 hi0).1
 obtain⟨r,τ',hR,rfl,H'⟩:=Bw (P:=Tryz.prog) (σ:=τ) (args:=[v,gi k]) (Post:=fun r τ'=>r=gi (k+6*l.length)∧Hp σ τ' (ow Ai.kd v (mkF Qc 6 k l.length)::rs.eraseIdx i0)) Xa (Z0z rfl) (by
  simp +contextual (disch:=omega) only[go_sem,Oh]
  refine B4 l.length 5 (fun i env τ'=>env 0=v∧env 1=gi (k+6*(i:Int))∧τ.length≤τ'.length∧Hp σ τ' (ow Ai.kd v ((mkF Qc 6 k l.length).take i++l.drop i)::rs.eraseIdx i0)) rfl ⟨rfl,(by show gi k=gi (k+6*0);simp),Nat.le_refl _,by simpa using H⟩ ?_ ?_
  ·rintro i env τ' hi e5 c0 ⟨e0,e1,hle,H⟩
   have hL:=Nh (l:=l) (e:=Qc) (c:=6) (k:=k) (i:=i)
   have hst:=Ke (e:=Qc) (c:=6) (k:=k) hi
   generalize(mkF Qc 6 k l.length).take i++l.drop i=L at H hL hst
   have hj:i<L.length:=by omega
   have h1:=H.sl 0 rfl
   have hln:=h1.len
   rw[hL] at hln
   have hat:=A6 h1 hj
   rw[T9 hj] at H
   generalize hy:L[i]=y at H hat
   simp +contextual (disch:=omega) only[go_sem,c0,e0,e1,e5,hln,hat]
   obtain⟨τ0,es,H⟩:=H.sts hj 1 0 (.bool ((k+6*(i:Int)).tmod 3==0)) (⟨((k+6*(i:Int)).tmod 3==0),y.obj,y.key,y.val,⟨y.dot.rep,y.dot.seq⟩⟩) rfl (by decide) (by decide) rfl
   have es:stG 1 τ' (fld 0 (atz 6 v i)) (.bool ((k+6*(i:Int)).tmod 3==0))=some (.tup [],τ0):=es
   have hl0:=Cr es
   simp +contextual (disch:=omega) only[go_sem,e0,e1,e5,hat,es]
   refine Ac (Ce _ _ (by omega)) ?_
   simp +contextual (disch:=omega) only[go_sem,e0,e1,hat]
   obtain⟨τ1,es,H⟩:=H.sts hj 1 1 (.str (mtx (k+6*(i:Int)+1))) (⟨((k+6*(i:Int)).tmod 3==0),mtx (k+6*(i:Int)+1),y.key,y.val,⟨y.dot.rep,y.dot.seq⟩⟩) rfl (by decide) (by decide) rfl
   have es:stG 1 τ0 (fld 1 (atz 6 v i)) (.str (mtx (k+6*(i:Int)+1)))=some (.tup [],τ1):=es
   have hl1:=Cr es
   simp +contextual (disch:=omega) only[go_sem,e0,e1,e5,hat,es]
   refine Ac (Ce _ _ (by omega)) ?_
   simp +contextual (disch:=omega) only[go_sem,e0,e1,hat]
   obtain⟨τ2,es,H⟩:=H.sts hj 1 2 (.str (mtx (k+6*(i:Int)+1+1))) (⟨((k+6*(i:Int)).tmod 3==0),mtx (k+6*(i:Int)+1),mtx (k+6*(i:Int)+1+1),y.val,⟨y.dot.rep,y.dot.seq⟩⟩) rfl (by decide) (by decide) rfl
   have es:stG 1 τ1 (fld 2 (atz 6 v i)) (.str (mtx (k+6*(i:Int)+1+1)))=some (.tup [],τ2):=es
   have hl2:=Cr es
   simp +contextual (disch:=omega) only[go_sem,e0,e1,e5,hat,es]
   obtain⟨τ3,es,H⟩:=H.sts hj 1 3 (.int .i64 (k+6*(i:Int)+1+1+1)) (⟨((k+6*(i:Int)).tmod 3==0),mtx (k+6*(i:Int)+1),mtx (k+6*(i:Int)+1+1),k+6*(i:Int)+1+1+1,⟨y.dot.rep,y.dot.seq⟩⟩) rfl (by decide) (by decide) rfl
   have es:stG 1 τ2 (fld 3 (atz 6 v i)) (.int .i64 (k+6*(i:Int)+1+1+1))=some (.tup [],τ3):=es
   have hl3:=Cr es
   simp +contextual (disch:=omega) only[go_sem,e0,e1,e5,hat,es]
   obtain⟨τ4,es,H⟩:=H.sts hj 1 4 (.int .i64 (k+6*(i:Int)+1+1+1+1)) (⟨((k+6*(i:Int)).tmod 3==0),mtx (k+6*(i:Int)+1),mtx (k+6*(i:Int)+1+1),k+6*(i:Int)+1+1+1,⟨k+6*(i:Int)+1+1+1+1,y.dot.seq⟩⟩) rfl (by decide) (by decide) rfl
   have es:stG 1 τ3 (fld 4 (atz 6 v i)) (.int .i64 (k+6*(i:Int)+1+1+1+1))=some (.tup [],τ4):=es
   have hl4:=Cr es
   simp +contextual (disch:=omega) only[go_sem,e0,e1,e5,hat,es]
   obtain⟨τ5,es,H⟩:=H.sts hj 1 5 (.int .i64 (k+6*(i:Int)+1+1+1+1+1)) (⟨((k+6*(i:Int)).tmod 3==0),mtx (k+6*(i:Int)+1),mtx (k+6*(i:Int)+1+1),k+6*(i:Int)+1+1+1,⟨k+6*(i:Int)+1+1+1+1,k+6*(i:Int)+1+1+1+1+1⟩⟩) rfl (by decide) (by decide) rfl
   have es:stG 1 τ4 (fld 5 (atz 6 v i)) (.int .i64 (k+6*(i:Int)+1+1+1+1+1))=some (.tup [],τ5):=es
   have hl5:=Cr es
   simp +contextual (disch:=omega) only[go_sem,e0,e1,e5,hat,es]
   have H2:Hp σ τ5 (ow Ai.kd v (L.set i (Qc (k+(6:Nat)*(i:Int))))::rs.eraseIdx i0):=H
   rw[hst] at H2
   exact⟨by omega,by omega,H2⟩
  ·rintro env τ' e5 c0 ⟨e0,e1,hle,H⟩
   rw[Ni] at H
   have hln:=(H.sl 0 rfl).len
   rw[Az] at hln
   simp +contextual (disch:=omega) only[go_sem,c0,e0,e1,e5,hln]
   exact⟨_,rfl,hle,rfl,H⟩)
 exact⟨τ',hR,H'.unpick hlt⟩
end
section
open Go Go.RowKit
abbrev Rq:Nat:=113
def Rr:Fn1:=⟨27,[.t 4],(rg [oV 4 (ki 0)] (.seq (rg [oV 5 (ki 0)] (.blk 0 (.lop (.seq (rg [oM 6 5,oM 7 0,oN 8 7,oB 9 .lss 6 8] (.cnd (.t 9) .skip (.ext 0))) (.seq (.blk 1 (rg [oM 12 0,oM 13 5,oM 14 1,oI 15 2 12 13,oF 16 0 15,oS 1 16 14] (rg [oM 17 1,oZ 18 17 1,oM 1 18] (rg [oM 19 0,oM 20 5,oM 21 1,oI 22 2 19 20,oF 23 1 22,oS 1 23 21] (.reg [oM 24 1,oZ 25 24 1,oM 1 25]))))) (.reg [oM 10 5,oZ 11 10 1,oM 5 11])))))) (rg [oM 26 1,oM 4 26] .ret)))⟩
theorem A17:A8 Tryz.prog Rq=some Rr:=by kernel_rfl
theorem Xb {σ τ:St} {rs:List Thg} (i0:Nat) (v:GV) (l:List Dot) (k:Int) (H:Hp σ τ rs) (hi0:rs[i0]? =some (ow pDot.kd v l)) (h0:0≤k) (hk:k+2*l.length≤4611686018427387904):∃ τ',Ret Tryz.prog Rq [v,gi k] τ (gi (k+2*l.length)) τ'∧Hp σ τ' (rs.set i0 (ow pDot.kd v (mkF mDot 2 k l.length))):=by
 have H:=H.pick i0 hi0
 have hlt:=(List.getElem?_eq_some_iff.1 hi0).1
 obtain⟨r,τ',hR,rfl,H'⟩:=Bw (P:=Tryz.prog) (σ:=τ) (args:=[v,gi k]) (Post:=fun r τ'=>r=gi (k+2*l.length)∧Hp σ τ' (ow pDot.kd v (mkF mDot 2 k l.length)::rs.eraseIdx i0)) A17 (Z0z rfl) (by
  simp +contextual (disch:=omega) only[go_sem,Rr]
  refine B4 l.length 5 (fun i env τ'=>env 0=v∧env 1=gi (k+2*(i:Int))∧τ.length≤τ'.length∧Hp σ τ' (ow pDot.kd v ((mkF mDot 2 k l.length).take i++l.drop i)::rs.eraseIdx i0)) rfl ⟨rfl,(by show gi k=gi (k+2*0);simp),Nat.le_refl _,by simpa using H⟩ ?_ ?_
  ·rintro i env τ' hi e5 c0 ⟨e0,e1,hle,H⟩
   have hL:=Nh (l:=l) (e:=mDot) (c:=2) (k:=k) (i:=i)
   have hst:=Ke (e:=mDot) (c:=2) (k:=k) hi
   generalize(mkF mDot 2 k l.length).take i++l.drop i=L at H hL hst
   have hj:i<L.length:=by omega
   have h1:=H.sl 0 rfl
   have hln:=h1.len
   rw[hL] at hln
   have hat:=A6k h1 hj
   rw[T9 hj] at H
   generalize hy:L[i]=y at H hat
   simp +contextual (disch:=omega) only[go_sem,c0,e0,e1,e5,hln,hat]
   obtain⟨τ0,es,H⟩:=H.sts hj 1 0 (.int .i64 (k+2*(i:Int))) (⟨k+2*(i:Int),y.seq⟩) rfl (by decide) (by decide) rfl
   have es:stG 1 τ' (fld 0 (atz 2 v i)) (.int .i64 (k+2*(i:Int)))=some (.tup [],τ0):=es
   have hl0:=Cr es
   simp +contextual (disch:=omega) only[go_sem,e0,e1,e5,hat,es]
   obtain⟨τ1,es,H⟩:=H.sts hj 1 1 (.int .i64 (k+2*(i:Int)+1)) (⟨k+2*(i:Int),k+2*(i:Int)+1⟩) rfl (by decide) (by decide) rfl
   have es:stG 1 τ0 (fld 1 (atz 2 v i)) (.int .i64 (k+2*(i:Int)+1))=some (.tup [],τ1):=es
   have hl1:=Cr es
   simp +contextual (disch:=omega) only[go_sem,e0,e1,e5,hat,es]
   have H2:Hp σ τ1 (ow pDot.kd v (L.set i (mDot (k+(2:Nat)*(i:Int))))::rs.eraseIdx i0):=H
   rw[hst] at H2
   exact⟨by omega,by omega,H2⟩
  ·rintro env τ' e5 c0 ⟨e0,e1,hle,H⟩
   rw[Ni] at H
   have hln:=(H.sl 0 rfl).len
   rw[Az] at hln
   simp +contextual (disch:=omega) only[go_sem,c0,e0,e1,e5,hln]
   exact⟨_,rfl,hle,rfl,H⟩)
 exact⟨τ',hR,H'.unpick hlt⟩
end
section
open Go Go.RowKit
abbrev Oi:Nat:=114
def Oj:Fn1:=⟨76,[.t 4],(rg [oV 4 (ki 0)] (.seq (rg [oV 5 (ki 0)] (.blk 0 (.lop (.seq (rg [oM 6 5,oM 7 0,oN 8 7,oB 9 .lss 6 8] (.cnd (.t 9) .skip (.ext 0))) (.seq (.blk 1 (rg [oM 12 0,oM 13 5,oM 14 1,oC 15 110 14,oI 16 8 12 13,oF 17 0 16,oS 1 17 15] (rg [oM 18 1,oZ 19 18 1,oM 1 19] (rg [oM 20 0,oM 21 5,oM 22 1,oI 23 8 20 21,oF 24 1 23,oF 25 0 24,oS 1 25 22] (rg [oM 26 1,oZ 27 26 1,oM 1 27] (rg [oM 28 0,oM 29 5,oM 30 1,oI 31 8 28 29,oF 32 1 31,oF 33 1 32,oS 1 33 30] (rg [oM 34 1,oZ 35 34 1,oM 1 35] (rg [oM 36 0,oM 37 5,oM 38 1,oI 39 8 36 37,oF 40 3 39,oS 1 40 38] (rg [oM 41 1,oZ 42 41 1,oM 1 42] (rg [oM 43 0,oM 44 5,oM 45 1,oI 46 8 43 44,oF 47 4 46,oF 48 0 47,oS 1 48 45] (rg [oM 49 1,oZ 50 49 1,oM 1 50] (rg [oM 51 0,oM 52 5,oM 53 1,oI 54 8 51 52,oF 55 4 54,oF 56 1 55,oS 1 56 53] (rg [oM 57 1,oZ 58 57 1,oM 1 58] (rg [oM 59 0,oM 60 5,oM 61 1,oI 62 8 59 60,oF 63 6 62,oS 1 63 61] (rg [oM 64 1,oZ 65 64 1,oM 1 65] (rg [oM 66 0,oM 67 5,oM 68 1,o 69 (.bin .rem (.t 68) (ki 3)),o 70 (.bin .eql (.t 69) (ki 0)),oI 71 8 66 67,oF 72 7 71,oS 1 72 70] (.reg [oM 73 1,oZ 74 73 1,oM 1 74]))))))))))))))))) (.reg [oM 10 5,oZ 11 10 1,oM 5 11])))))) (rg [oM 75 1,oM 4 75] .ret)))⟩
theorem Xc:A8 Tryz.prog Oi=some Oj:=by kernel_rfl
theorem L8 {σ τ:St} {rs:List Thg} (i0:Nat) (v:GV) (l:List Cell) (k:Int) (H:Hp σ τ rs) (hi0:rs[i0]? =some (ow Ae.kd v l)) (h0:0≤k) (hk:k+8*l.length≤4611686018427387904):∃ τ',Ret Tryz.prog Oi [v,gi k] τ (gi (k+8*l.length)) τ'∧Hp σ τ' (rs.set i0 (ow Ae.kd v (mkF Ss 8 k l.length))):=by
 have H:=H.pick i0 hi0
 have hlt:=(List.getElem?_eq_some_iff.1 hi0).1
 obtain⟨r,τ',hR,rfl,H'⟩:=Bw (P:=Tryz.prog) (σ:=τ) (args:=[v,gi k]) (Post:=fun r τ'=>r=gi (k+8*l.length)∧Hp σ τ' (ow Ae.kd v (mkF Ss 8 k l.length)::rs.eraseIdx i0)) Xc (Z0z rfl) (by
  simp +contextual (disch:=omega) only[go_sem,Oj]
  refine B4 l.length 5 (fun i env τ'=>env 0=v∧env 1=gi (k+8*(i:Int))∧τ.length≤τ'.length∧Hp σ τ' (ow Ae.kd v ((mkF Ss 8 k l.length).take i++l.drop i)::rs.eraseIdx i0)) rfl ⟨rfl,(by show gi k=gi (k+8*0);simp),Nat.le_refl _,by simpa using H⟩ ?_ ?_
  ·rintro i env τ' hi e5 c0 ⟨e0,e1,hle,H⟩
   have hL:=Nh (l:=l) (e:=Ss) (c:=8) (k:=k) (i:=i)
   have hst:=Ke (e:=Ss) (c:=8) (k:=k) hi
   generalize(mkF Ss 8 k l.length).take i++l.drop i=L at H hL hst
   have hj:i<L.length:=by omega
   have h1:=H.sl 0 rfl
   have hln:=h1.len
   rw[hL] at hln
   have hat:=A7 h1 hj
   rw[T9 hj] at H
   generalize hy:L[i]=y at H hat
   simp +contextual (disch:=omega) only[go_sem,c0,e0,e1,e5,hln,hat]
   refine Ac (Ce _ _ (by omega)) ?_
   simp +contextual (disch:=omega) only[go_sem,e0,e1,hat]
   obtain⟨τ0,es,H⟩:=H.sts hj 1 0 (.str (mtx (k+8*(i:Int)))) (⟨mtx (k+8*(i:Int)),⟨y.dot.rep,y.dot.seq⟩,y.time,⟨y.ref.rep,y.ref.seq⟩,y.val,y.gone⟩) rfl (by decide) (by decide) rfl
   have es:stG 1 τ' (fld 0 (atz 8 v i)) (.str (mtx (k+8*(i:Int))))=some (.tup [],τ0):=es
   have hl0:=Cr es
   simp +contextual (disch:=omega) only[go_sem,e0,e1,e5,hat,es]
   obtain⟨τ1,es,H⟩:=H.sts hj 1 1 (.int .i64 (k+8*(i:Int)+1)) (⟨mtx (k+8*(i:Int)),⟨k+8*(i:Int)+1,y.dot.seq⟩,y.time,⟨y.ref.rep,y.ref.seq⟩,y.val,y.gone⟩) rfl (by decide) (by decide) rfl
   have es:stG 1 τ0 (fld 1 (atz 8 v i)) (.int .i64 (k+8*(i:Int)+1))=some (.tup [],τ1):=es
   have hl1:=Cr es
   simp +contextual (disch:=omega) only[go_sem,e0,e1,e5,hat,es]
   obtain⟨τ2,es,H⟩:=H.sts hj 1 2 (.int .i64 (k+8*(i:Int)+1+1)) (⟨mtx (k+8*(i:Int)),⟨k+8*(i:Int)+1,k+8*(i:Int)+1+1⟩,y.time,⟨y.ref.rep,y.ref.seq⟩,y.val,y.gone⟩) rfl (by decide) (by decide) rfl
   have es:stG 1 τ1 (fld 2 (atz 8 v i)) (.int .i64 (k+8*(i:Int)+1+1))=some (.tup [],τ2):=es
   have hl2:=Cr es
   simp +contextual (disch:=omega) only[go_sem,e0,e1,e5,hat,es]
   obtain⟨τ3,es,H⟩:=H.sts hj 1 3 (.int .i64 (k+8*(i:Int)+1+1+1)) (⟨mtx (k+8*(i:Int)),⟨k+8*(i:Int)+1,k+8*(i:Int)+1+1⟩,k+8*(i:Int)+1+1+1,⟨y.ref.rep,y.ref.seq⟩,y.val,y.gone⟩) rfl (by decide) (by decide) rfl
   have es:stG 1 τ2 (fld 3 (atz 8 v i)) (.int .i64 (k+8*(i:Int)+1+1+1))=some (.tup [],τ3):=es
   have hl3:=Cr es
   simp +contextual (disch:=omega) only[go_sem,e0,e1,e5,hat,es]
   obtain⟨τ4,es,H⟩:=H.sts hj 1 4 (.int .i64 (k+8*(i:Int)+1+1+1+1)) (⟨mtx (k+8*(i:Int)),⟨k+8*(i:Int)+1,k+8*(i:Int)+1+1⟩,k+8*(i:Int)+1+1+1,⟨k+8*(i:Int)+1+1+1+1,y.ref.seq⟩,y.val,y.gone⟩) rfl (by decide) (by decide) rfl
   have es:stG 1 τ3 (fld 4 (atz 8 v i)) (.int .i64 (k+8*(i:Int)+1+1+1+1))=some (.tup [],τ4):=es
   have hl4:=Cr es
   simp +contextual (disch:=omega) only[go_sem,e0,e1,e5,hat,es]
   obtain⟨τ5,es,H⟩:=H.sts hj 1 5 (.int .i64 (k+8*(i:Int)+1+1+1+1+1)) (⟨mtx (k+8*(i:Int)),⟨k+8*(i:Int)+1,k+8*(i:Int)+1+1⟩,k+8*(i:Int)+1+1+1,⟨k+8*(i:Int)+1+1+1+1,k+8*(i:Int)+1+1+1+1+1⟩,y.val,y.gone⟩) rfl (by decide) (by decide) rfl
   have es:stG 1 τ4 (fld 5 (atz 8 v i)) (.int .i64 (k+8*(i:Int)+1+1+1+1+1))=some (.tup [],τ5):=es
   have hl5:=Cr es
   simp +contextual (disch:=omega) only[go_sem,e0,e1,e5,hat,es]
   obtain⟨τ6,es,H⟩:=H.sts hj 1 6 (.int .i64 (k+8*(i:Int)+1+1+1+1+1+1)) (⟨mtx (k+8*(i:Int)),⟨k+8*(i:Int)+1,k+8*(i:Int)+1+1⟩,k+8*(i:Int)+1+1+1,⟨k+8*(i:Int)+1+1+1+1,k+8*(i:Int)+1+1+1+1+1⟩,k+8*(i:Int)+1+1+1+1+1+1,y.gone⟩) rfl (by decide) (by decide) rfl
   have es:stG 1 τ5 (fld 6 (atz 8 v i)) (.int .i64 (k+8*(i:Int)+1+1+1+1+1+1))=some (.tup [],τ6):=es
   have hl6:=Cr es
   simp +contextual (disch:=omega) only[go_sem,e0,e1,e5,hat,es]
   obtain⟨τ7,es,H⟩:=H.sts hj 1 7 (.bool ((k+8*(i:Int)+1+1+1+1+1+1+1).tmod 3==0)) (⟨mtx (k+8*(i:Int)),⟨k+8*(i:Int)+1,k+8*(i:Int)+1+1⟩,k+8*(i:Int)+1+1+1,⟨k+8*(i:Int)+1+1+1+1,k+8*(i:Int)+1+1+1+1+1⟩,k+8*(i:Int)+1+1+1+1+1+1,((k+8*(i:Int)+1+1+1+1+1+1+1).tmod 3==0)⟩) rfl (by decide) (by decide) rfl
   have es:stG 1 τ6 (fld 7 (atz 8 v i)) (.bool ((k+8*(i:Int)+1+1+1+1+1+1+1).tmod 3==0))=some (.tup [],τ7):=es
   have hl7:=Cr es
   simp +contextual (disch:=omega) only[go_sem,e0,e1,e5,hat,es]
   have H2:Hp σ τ7 (ow Ae.kd v (L.set i (Ss (k+(8:Nat)*(i:Int))))::rs.eraseIdx i0):=H
   rw[hst] at H2
   exact⟨by omega,by omega,H2⟩
  ·rintro env τ' e5 c0 ⟨e0,e1,hle,H⟩
   rw[Ni] at H
   have hln:=(H.sl 0 rfl).len
   rw[Az] at hln
   simp +contextual (disch:=omega) only[go_sem,c0,e0,e1,e5,hln]
   exact⟨_,rfl,hle,rfl,H⟩)
 exact⟨τ',hR,H'.unpick hlt⟩
end
section
open Go Go.RowKit
abbrev Ads:Nat:=16
def Adt:Fn1:=⟨156,[.t 4],(rg [oV 4 (ki 0)] (.seq (rg [oV 5 (ki 0)] (.blk 0 (.lop (.seq (rg [oM 6 5,oM 7 0,oN 8 7,oB 9 .lss 6 8] (.cnd (.t 9) .skip (.ext 0))) (.seq (.blk 1 (rg [oM 12 0,oM 13 5,oM 14 1,o 15 (.bin .rem (.t 14) (ki 3)),o 16 (.bin .eql (.t 15) (ki 0)),oI 17 17 12 13,oF 18 0 17,oS 1 18 16] (rg [oM 19 1,oZ 20 19 1,oM 1 20] (rg [oM 21 0,oM 22 5,oM 23 1,oI 24 17 21 22,oF 25 1 24,oF 26 0 25,oF 27 0 26,oS 1 27 23] (rg [oM 28 1,oZ 29 28 1,oM 1 29] (rg [oM 30 0,oM 31 5,oM 32 1,oI 33 17 30 31,oF 34 1 33,oF 35 0 34,oF 36 1 35,oS 1 36 32] (rg [oM 37 1,oZ 38 37 1,oM 1 38] (rg [oM 39 0,oM 40 5,oM 41 1,oI 42 17 39 40,oF 43 1 42,oF 44 2 43,oS 1 44 41] (rg [oM 45 1,oZ 46 45 1,oM 1 46] (rg [oM 47 0,oM 48 5,oI 49 17 47 48,oF 50 1 49,oF 51 3 50,oL 52 51,oM 53 1,oD 54 109 52 53,oM 1 54] (rg [oM 55 0,oM 56 5,oM 57 1,oI 58 17 55 56,oF 59 1 58,oF 60 4 59,oS 1 60 57] (rg [oM 61 1,oZ 62 61 1,oM 1 62] (rg [oM 63 0,oM 64 5,oM 65 1,oC 66 110 65,oI 67 17 63 64,oF 68 1 67,oF 69 5 68,oS 1 69 66] (rg [oM 70 1,oZ 71 70 1,oM 1 71] (rg [oM 72 0,oM 73 5,oM 74 1,oC 75 110 74,oI 76 17 72 73,oF 77 1 76,oF 78 6 77,oS 1 78 75] (rg [oM 79 1,oZ 80 79 1,oM 1 80] (rg [oM 81 0,oM 82 5,oM 83 1,oI 84 17 81 82,oF 85 1 84,oF 86 7 85,oS 1 86 83] (rg [oM 87 1,oZ 88 87 1,oM 1 88] (rg [oM 89 0,oM 90 5,oM 91 1,oI 92 17 89 90,oF 93 1 92,oF 94 8 93,oF 95 0 94,oS 1 95 91] (rg [oM 96 1,oZ 97 96 1,oM 1 97] (rg [oM 98 0,oM 99 5,oM 100 1,oI 101 17 98 99,oF 102 1 101,oF 103 8 102,oF 104 1 103,oS 1 104 100] (rg [oM 105 1,oZ 106 105 1,oM 1 106] (rg [oM 107 0,oM 108 5,oI 109 17 107 108,oF 110 11 109,oF 111 0 110,oL 112 111,oM 113 1,oD 114 109 112 113,oM 1 114] (rg [oM 115 0,oM 116 5,oI 117 17 115 116,oF 118 11 117,oF 119 1 118,oL 120 119,oM 121 1,oD 122 109 120 121,oM 1 122] (rg [oM 123 0,oM 124 5,oI 125 17 123 124,oF 126 11 125,oF 127 2 126,oL 128 127,oM 129 1,oD 130 111 128 129,oM 1 130] (rg [oM 131 0,oM 132 5,oI 133 17 131 132,oF 134 11 133,oF 135 3 134,oL 136 135,oM 137 1,oD 138 112 136 137,oM 1 138] (rg [oM 139 0,oM 140 5,oI 141 17 139 140,oF 142 11 141,oF 143 4 142,oL 144 143,oM 145 1,oD 146 113 144 145,oM 1 146] (.reg [oM 147 0,oM 148 5,oI 149 17 147 148,oF 150 11 149,oF 151 5 150,oL 152 151,oM 153 1,oD 154 114 152 153,oM 1 154])))))))))))))))))))))))))))) (.reg [oM 10 5,oZ 11 10 1,oM 5 11])))))) (rg [oM 155 1,oM 4 155] .ret)))⟩
def ctU (x:Unit_):Nat:=1+(ctE x.act+Gi x.delta)
def kU (k:Int) (x:Unit_):Int:=kE (k+1) x.act+1+1+1+1+1+1
def mUnitE (k:Int) (x:Unit_):Unit_:=⟨k.tmod 3==0,mActE (k+1) x.act,Vo (kU k x) x.delta⟩
abbrev dItems (x:Delta) (d0 d1 d2 d3 d4 d5:GV):List Item:=[.th (ow pI.kd d0 x.base),.th (ow pI.kd d1 x.know),.th (ow Ab.kd d2 x.tallies),.th (ow Ai.kd d3 x.lives),.th (ow pDot.kd d4 x.dead),.th (ow Ae.kd d5 x.cells)]
def zmU (v:GV) (l L:List Unit_) (i:Nat) (R h:List Item):Prop:=(∃ hi:i<l.length,∃ kv d0 d1 d2 d3 d4 d5,h= .th (ow pI.kd d0 l[i].delta.base)::.th (ow pI.kd d1 l[i].delta.know)::.th (ow Ab.kd d2 l[i].delta.tallies)::.th (ow Ai.kd d3 l[i].delta.lives)::.th (ow pDot.kd d4 l[i].delta.dead)::.th (ow Ae.kd d5 l[i].delta.cells)::.th (ow pI.kd kv l[i].act.knew)::.th (hole Ej v L i [.bool l[i].batch,gi l[i].act.dot.rep,gi l[i].act.dot.seq,gi l[i].act.time,kv,gi l[i].act.kind,.str l[i].act.obj,.str l[i].act.key,gi l[i].act.val,gi l[i].act.ref.rep,gi l[i].act.ref.seq,d0,d1,d2,d3,d4,d5])::R)∨(i=l.length∧h= .th (ow Ej v L)::R)
end
section
open Go Go.RowKit
structure LogG (l:Log):Prop where
 rp:0≤l.rep∧l.rep≤2
 tm:0≤l.time∧l.time≤1000000
 st:OkS l.state
 un:∀ u∈l.units,A6z u=true
 wa:∀ u∈l.waits,A6z u=true
 nu:l.units.length≤60
 nw:l.waits.length≤6
 ub:∀ u∈l.units,u.batch=false
 wb:∀ u∈l.waits,u.batch=false
 run:runU l.units l.units.length=some l.state
theorem Aiy {r:Int} (h:0≤r∧r≤2):LogG ⟨r,0,⟨[0,0,0],[],[],[]⟩,[],[]⟩:=⟨h,⟨Int.le_refl 0,by show(0:Int)≤1000000;decide⟩,st0_ok,fun _ h=>(by cases h),fun _ h=>(by cases h),Nat.zero_le _,Nat.zero_le _,fun _ h=>(by cases h),fun _ h=>(by cases h),rfl⟩
end
section
open Go Go.RowKit
abbrev n_s_l01New:Nat:=161
def F_s_l01New:Fn1:=⟨32,[.t 2],(rg [o 2 (.mov (.k .nilP))] (rg [oM 5 0,oN 6 5,o 7 (.bin .add (ki 93901) (.t 6)),oM 3 7] (.seq (rg [oV 4 (ki 0)] (.blk 0 (.lop (.seq (rg [oM 8 4,oM 9 0,oN 10 9,oB 11 .lss 8 10,oM 12 11,og 13 12 true (.mov (.t 4)),og 14 12 true (.bin .lss (.t 13) (ki 4000)),o 15 (.pick (.t 12) (.t 14) kf)] (.cnd (.t 15) .skip (.ext 0))) (.seq (.blk 1 (.reg [oM 18 3,o 19 (.bin .mul (.t 18) (ki 131)),oM 20 0,oM 21 4,oI 22 1 20 21,oL 23 22,o 24 (.cvi .i64 (.t 23)),oB 25 .add 19 24,oZ 26 25 7,o 27 (.bin .and (.t 26) (ki 1073741823)),oM 3 27])) (.reg [oM 16 4,oZ 17 16 1,oM 4 17])))))) (rg [oM 28 0,oM 29 3,o 30 (.build [.nilS,z0,z0] [(0,1,(.t 28)),(2,1,(.t 29))]),oX 31 30,oM 2 31] .ret))))⟩
abbrev Aiz:Nat:=188
def Aj0:Fn1:=⟨58,[.t 2],(rg [oV 2 (ki 0)] (rg [oM 4 0,oM 5 0,oK 6 5,oF 7 2 6,oL 8 7,o 9 (.bin .mul (.t 8) (ki 6364136223846793005)),oZ 10 9 1442695040888963407,oK 11 4,oF 12 2 11,oS 1 12 10] (.seq (.drw [oM 13 0,oK 14 13,oF 15 2 14,oL 16 15,o 17 (.bin .shr (.t 16) (.k (.int .u64 33))),oM 18 0,oK 19 18,oF 20 2 19,oL 21 20] [o 22 (.bin .shr (.t 21) (.k (.int .u64 45))),oB 23 .xor 17 22,o 24 (.bin .and (.t 23) (ki 255)),oM 3 24]) (.seq (.seq (.drw [oM 25 0,oK 26 25,oF 27 1 26,oL 28 27,oM 29 0,oK 30 29,oF 31 0 30,oL 32 31] [oN 33 32,oB 34 .lss 28 33]) (.cnd (.t 34) (.seq (.drw [oM 35 3,oM 36 0,oK 37 36,oF 38 0 37,oL 39 38,oM 40 0,oK 41 40,oF 42 1 41,oL 43 42] [oI 44 1 39 43,oL 45 44,o 46 (.cvi .i64 (.t 45)),oB 47 .add 35 46,o 48 (.bin .and (.t 47) (ki 255)),oM 3 48]) (.reg [oM 49 0,oM 50 0,oK 51 50,oF 52 1 51,oL 53 52,oZ 54 53 1,oK 55 49,oF 56 1 55,oS 1 56 54])) .skip)) (rg [oM 57 3,oM 2 57] .ret)))))⟩
abbrev Aff:Nat:=163
def Afg:Fn1:=⟨37,[.t 4],(rg [oV 4 (ki 0)] (.seq (rg [oM 9 1,o 10 (.bin .leq (.t 9) (ki 0))] (.cnd (.t 10) (rg [oV 4 (ki 0)] .ret) .skip)) (.seq (rg [oM 11 1,o 12 (.bin .leq (.t 11) (ki 256))] (.cnd (.t 12) (rg [oM 13 0,oC 14 188 13,oM 15 1,oB 16 .rem 14 15,oM 4 16] .ret) .skip)) (rg [oM 17 0,oC 18 188 17,oM 5 18] (rg [oM 19 0,oC 20 188 19,oM 6 20] (rg [oM 21 0,oC 22 188 21,oM 7 22] (rg [oM 23 0,oC 24 188 23,oM 8 24] (rg [oM 25 5,o 26 (.bin .mul (.t 25) (ki 16777216)),oM 27 6,o 28 (.bin .mul (.t 27) (ki 65536)),oB 29 .add 26 28,oM 30 7,o 31 (.bin .mul (.t 30) (ki 256)),oB 32 .add 29 31,oM 33 8,oB 34 .add 32 33,oM 35 1,oB 36 .rem 34 35,oM 4 36] .ret))))))))⟩
end
section
open Go Go.RowKit
abbrev Aj1:Nat:=344
def Aj2:Fn1:=⟨16,[.t 2],(rg [o 2 (.mov (.k .nilS))] (rg [o 5 (.lit 1 0 [] []),oM 3 5] (.seq (rg [oV 4 (ki 0)] (.blk 0 (.lop (.seq (rg [oM 6 4,o 7 (.bin .lss (.t 6) (ki 3))] (.cnd (.t 7) .skip (.ext 0))) (.seq (.blk 1 (.reg [oM 10 3,oM 11 0,o 12 (.call 163 [(.t 11),(ki 5)]),o 13 (.lit 1 1 [z0] [(0,1,(.t 12))]),o 14 (.app 1 8 [z0] (.t 10) (.t 13)),oM 3 14])) (.reg [oM 8 4,oZ 9 8 1,oM 4 9])))))) (rg [oM 15 3,oM 2 15] .ret))))⟩
def low5 (l:List Int):Prop:=l.length=3∧∀ x∈l,0≤x∧x<5
end
section
open Go Go.RowKit
abbrev Aj3:Nat:=202
def Aj4:Fn1:=⟨9,[.t 4],(rg [oV 4 kf] (rg [oM 5 0,oM 6 1,oD 7 163 5 6,o 8 (.bin .eql (.t 7) (ki 0)),oM 4 8] .ret))⟩
abbrev Aj5:Nat:=295
def Aj6:Fn1:=⟨12,[.t 4],(rg [o 4 (.mov (.k (.str ⟨#[]⟩)))] (rg [oM 5 1,oM 6 0,oM 7 1,oN 8 7,oD 9 163 6 8,oI 10 1 5 9,oL 11 10,oM 4 11] .ret))⟩
abbrev Abw:Nat:=331
def Abx:Fn1:=⟨12,[.t 4],(rg [oV 4 (ki 0)] (rg [oM 5 1,oM 6 0,oM 7 1,oN 8 7,oD 9 163 6 8,oI 10 1 5 9,oL 11 10,oM 4 11] .ret))⟩
abbrev n_s_l05Obj:Nat:=293
def F_s_l05Obj:Fn1:=⟨6,[.t 2],(rg [o 2 (.mov (.k (.str ⟨#[]⟩)))] (rg [oM 3 0,o 4 (.lit 1 3 [(.str ⟨#[]⟩),(.str ⟨#[]⟩),(.str ⟨#[]⟩)] [(0,1,(.k (.str ⟨#[97]⟩))),(1,1,(.k (.str ⟨#[98]⟩))),(2,1,(.k (.str ⟨#[116,97,108,108,121]⟩)))]),oD 5 295 3 4,oM 2 5] .ret))⟩
abbrev n_s_l05Key:Nat:=201
def F_s_l05Key:Fn1:=⟨6,[.t 2],(rg [o 2 (.mov (.k (.str ⟨#[]⟩)))] (rg [oM 3 0,o 4 (.lit 1 3 [(.str ⟨#[]⟩),(.str ⟨#[]⟩),(.str ⟨#[]⟩)] [(0,1,(.k (.str ⟨#[120]⟩))),(1,1,(.k (.str ⟨#[121]⟩))),(2,1,(.k (.str ⟨#[122,111,111]⟩)))]),oD 5 295 3 4,oM 2 5] .ret))⟩
abbrev n_s_l04Dot:Nat:=347
def F_s_l04Dot:Fn1:=⟨9,[.c 2 true 2],(rg [o 2 (.new [z0,z0])] (rg [oM 3 0,o 4 (.call 163 [(.t 3),(ki 3)]),oM 5 0,o 6 (.call 163 [(.t 5),(ki 5)]),o 7 (.bin .add (ki 1) (.t 6)),o 8 (.build [z0,z0] [(0,1,(.t 4)),(1,1,(.t 7))]),oS 2 2 8] .ret))⟩
abbrev n_s_l04Any:Nat:=274
def F_s_l04Any:Fn1:=⟨23,[.t 2],(rg [o 2 (.mov (.k .nilS))] (rg [oM 5 0,o 6 (.call 163 [(.t 5),(ki 12)]),oM 3 6] (rg [oM 7 0,oC 8 344 7,oM 4 8] (.seq (rg [oM 9 3] (.blk 0 (rg [o 11 (.bin .eql (.t 9) (ki 0)),oM 10 11] (.cnd (.t 10) (.reg [oM 12 4,o 13 (.lit 1 1 [z0] [(0,1,(ki 1))]),o 14 (.app 1 8 [z0] (.t 12) (.t 13)),oM 4 14]) (rg [o 16 (.bin .eql (.t 9) (ki 1)),oM 15 16] (.cnd (.t 15) (.reg [oM 17 4,oM 18 0,o 19 (.lit 1 3 [z0,z0,z0] [(0,1,(ki (-1))),(1,1,(ki 1000)),(2,1,(ki 1001))]),oD 20 331 18 19,o 21 (.iad 1 (.t 17) (ki 0)),oS 1 21 20]) .skip)))))) (rg [oM 22 4,oM 2 22] .ret)))))⟩
abbrev Aj7:Nat:=269
def Aj8:Fn1:=⟨30,[.c 2 true 5],(rg [o 2 (.new [z0,(.str ⟨#[]⟩),(.str ⟨#[]⟩),z0,z0])] (rg [oM 4 0,o 5 (.lit 1 9 [z0,z0,z0,z0,z0,z0,z0,z0,z0] [(0,1,(ki 1)),(1,1,(ki 2)),(2,1,(ki 3)),(3,1,(ki 4)),(4,1,(ki 5)),(5,1,(ki 6)),(6,1,(ki 6)),(7,1,(ki 6)),(8,1,(ki 7))]),oD 6 331 4 5,oM 7 0,oC 8 293 7,o 9 (.build [z0,(.str ⟨#[]⟩),(.str ⟨#[]⟩),z0,z0] [(0,1,(.t 6)),(1,1,(.t 8))]),o 3 (.new [z0,(.str ⟨#[]⟩),(.str ⟨#[]⟩),z0,z0]),oS 5 3 9] (.seq (rg [oF 10 0 3,oL 11 10,oC 12 332 11] (.cnd (.t 12) (.reg [oM 13 0,oC 14 201 13,oF 15 2 3,oS 1 15 14]) .skip)) (.seq (rg [oF 16 0 3,oL 17 16,oC 18 333 17] (.cnd (.t 18) (.reg [oM 19 0,o 20 (.lit 1 4 [z0,z0,z0,z0] [(0,1,(ki 0)),(1,1,(ki 1)),(2,1,(ki 7)),(3,1,(ki 999999))]),oD 21 331 19 20,oF 22 3 3,oS 1 22 21]) .skip)) (.seq (rg [oF 23 0 3,oL 24 23,o 25 (.bin .geq (.t 24) (ki 6))] (.cnd (.t 25) (.reg [oM 26 0,o 27 (.call 163 [(.t 26),(ki 3)]),oF 28 4 3,oS 1 28 27]) .skip)) (rg [oW 29 5 3,oS 5 2 29] .ret))))))⟩
section
variable {P:Program} {D:Bool} {σ0 σ τ τ':St} {h:List Item} {k:Kx} {f:Nat} {args:List GV} {v:GV}
theorem Hx.tl {x:Item} (H:Hx σ τ (x::h)):Hx σ τ h:=Hp.drop1 H
end
structure Dr (σ0:St) (v:GV) (bs:List Int):Prop where
 hv:RS pB.kd σ0 v bs
 hl:bs.length≤1099511627776
abbrev cuI (c v:GV) (bs:List Int):Item:=.th (crs c v bs.length)
section
variable {σ0 σ:St} {h:List Item} {c v:GV} {bs:List Int}
def Aj9:List ByteArray:=[⟨#[97]⟩,⟨#[98]⟩,⟨#[116,97,108,108,121]⟩]
def Aja:List ByteArray:=[⟨#[120]⟩,⟨#[121]⟩,⟨#[122,111,111]⟩]
structure EdD (e:Edit):Prop where
 kind:1≤e.kind∧e.kind≤7
 obj:e.obj∈Aj9
 key:if Acv e.kind then e.key∈Aja else e.key=noS
 val:e.val=0∨(Aa4 e.kind=true∧e.val∈[0,1,7,999999])
 place:0≤e.place∧e.place≤2∧(e.kind<6→e.place=0)
theorem Abf {s:ByteArray} (h:s∈Aj9):Dc s=true∧s.size≤5:=by
 simp only[Aj9,List.mem_cons,List.not_mem_nil,or_false] at h
 rcases h with rfl|rfl|rfl<;>decide
theorem Abg {s:ByteArray} (h:s∈Aja):Dc s=true∧s.size≤3:=by
 simp only[Aja,List.mem_cons,List.not_mem_nil,or_false] at h
 rcases h with rfl|rfl|rfl<;>decide
theorem EdD.size {e:Edit} (h:EdD e):e.obj.size≤5∧e.key.size≤3:=by
 refine⟨(Abf h.obj).2,?_⟩
 have:=h.key
 split at this
 ·exact(Abg this).2
 ·rw[this];decide
theorem EdD.ok {e:Edit} (h:EdD e):Aag e=true:=by
 have h1:inB e.kind 1 7=true:=Cc.2 h.kind
 have h2:Dc e.obj=true:=(Abf h.obj).1
 have h3:(if Acv e.kind then Dc e.key else decide (e.key=noS))=true:=by
  have:=h.key
  split at this
  ·rename_i hk;rw[if_pos hk];exact(Abg this).1
  ·rename_i hk;rw[if_neg hk];simp[this]
 have h4:Acw e.kind e.val=true:=by
  unfold Acw
  rcases h.val with h|⟨hv,h⟩
  ·simp[h]
  ·have:inB e.val 0 999999=true:=by
    simp only[List.mem_cons,List.not_mem_nil,or_false] at h
    rcases h with h|h|h|h<;>rw[h]<;>decide
   simp[hv,this]
 have h5:decide (0≤e.place)=true:=decide_eq_true h.place.1
 have h6:((e.kind==6||e.kind==7)||e.place==0)=true:=by
  by_cases hk:e.kind<6
  ·simp[h.place.2.2 hk]
  ·have:=h.kind
   have:e.kind=6∨e.kind=7:=by omega
   rcases this with h|h<;>simp[h]
 unfold Aag A0c
 rw[h1,h2,h3,h4,h5,h6];rfl
end
end
section
open Go Go.RowKit
abbrev n_s_TimeOf:Nat:=277
def F_s_TimeOf:Fn1:=⟨27,[.t 2],(rg [oX 1 0,oV 2 (ki 0)] (rg [oV 3 (ki 0)] (.seq (rg [oV 4 (ki 0)] (.blk 0 (.lop (.seq (rg [oM 5 4,oF 6 3 1,oL 7 6,oN 8 7,oB 9 .lss 5 8] (.cnd (.t 9) .skip (.ext 0))) (.seq (.blk 1 (rg [oF 12 3 1,oL 13 12,oM 14 4,oI 15 8 13 14,oF 16 3 15,oL 17 16,oM 18 3,oB 19 .gtr 17 18] (.cnd (.t 19) (.reg [oF 20 3 1,oL 21 20,oM 22 4,oI 23 8 21 22,oF 24 3 23,oL 25 24,oM 3 25]) .skip))) (.reg [oM 10 4,oZ 11 10 1,oM 4 11])))))) (rg [oM 26 3,oM 2 26] .ret))))⟩
abbrev Afh:Nat:=281
def Afi:Fn1:=⟨43,[.c 6 true 4],(rg [oX 4 1,o 6 (.new [.nilS,.nilS,.nilS,.nilS])] (.seq (rg [oV 7 (ki 0)] (.blk 0 (.lop (.seq (rg [oM 12 7,oM 13 2,oB 14 .lss 12 13] (.cnd (.t 14) .skip (.ext 0))) (.seq (.blk 1 (rg [oM 17 0,o 18 (.call 163 [(.t 17),(ki 3)]),oM 8 18] (rg [oM 19 0,oC 20 269 19,o 9 (.new [z0,(.str ⟨#[]⟩),(.str ⟨#[]⟩),z0,z0]),oS 5 9 20] (.seq (.drw [oW 30 5 9,o 10 (.new [z0,z0,z0,.nilS,z0,(.str ⟨#[]⟩),(.str ⟨#[]⟩),z0,z0,z0])] [oW 22 4 4,oM 23 8,oW 24 4 4,oC 25 277 24,on (.chk 22 (.ld true 4 (.t 4))),on (.chk 30 (.ld true 5 (.t 9))),on (.blc 10 [z0,z0,z0,.nilS,z0,(.str ⟨#[]⟩),(.str ⟨#[]⟩),z0,z0,z0]),oZ 26 25 1,oM 27 0,o 28 (.call 163 [(.t 27),(ki 2)]),on (.chk 22 (.ld true 4 (.t 4))),on (.chk 30 (.ld true 5 (.t 9))),on (.blc 10 [z0,z0,z0,.nilS,z0,(.str ⟨#[]⟩),(.str ⟨#[]⟩),z0,z0,z0]),oB 29 .add 26 28,o 31 (.call 276 [(.t 22),(.t 23),(.t 29),(.t 30)]),on (.blc 10 [z0,z0,z0,.nilS,z0,(.str ⟨#[]⟩),(.str ⟨#[]⟩),z0,z0,z0]),oM 21 31,o 32 (.ext 0 (.t 21)),o 33 (.ext 1 (.t 21)),oS 10 10 32,oM 11 33]) (rg [oM 34 11,o 35 (.bin .eql (.t 34) (ki 0))] (.cnd (.t 35) (.reg [oW 37 4 4,oW 38 10 10,oD 39 140 37 38,oM 36 39,o 40 (.ext 0 (.t 36)),o 41 (.ext 1 (.t 36)),oS 4 4 40]) .skip)))))) (.reg [oM 15 7,oZ 16 15 1,oM 7 16])))))) (rg [oW 42 4 4,oS 4 6 42] .ret)))⟩
abbrev Afj:Nat:=187
def Afk:Fn1:=⟨9,[.c 2 true 4],(rg [o 2 (.new [.nilS,.nilS,.nilS,.nilS])] (rg [oM 3 0,o 4 (.call 43 []),oM 5 0,o 6 (.call 163 [(.t 5),(ki 9)]),o 7 (.bin .add (ki 2) (.t 6)),o 8 (.call 281 [(.t 3),(.t 4),(.t 7)]),oS 4 2 8] .ret))⟩
abbrev n_s_l06Any:Nat:=294
def F_s_l06Any:Fn1:=⟨89,[.c 2 true 4],(rg [o 2 (.new [.nilS,.nilS,.nilS,.nilS])] (rg [oM 6 0,o 7 (.call 163 [(.t 6),(ki 14)]),oM 3 7] (rg [oM 8 0,o 9 (.call 163 [(.t 8),(ki 60)]),oM 4 9] (rg [oM 10 0,oC 11 187 10,oC 12 247 11,o 5 (.new [.nilS,.nilS,.nilS,.nilS]),oS 4 5 12] (.seq (rg [oM 13 3] (.blk 0 (rg [o 15 (.bin .eql (.t 13) (ki 0)),oM 14 15] (.cnd (.t 14) (.drw [] [oF 16 0 5,oL 17 16,oM 18 4,o 19 (.bin .rem (.t 18) (ki 3)),o 20 (.lit 1 3 [z0,z0,z0] [(0,1,(ki 0)),(1,1,(ki (-1))),(2,1,(ki 1001))]),on (.chk 17 (.ld false 1 (.t 16))),oM 21 4,o 22 (.bin .rem (.t 21) (ki 3)),oI 23 1 20 22,oL 24 23,oI 25 1 17 19,oS 1 25 24]) (rg [o 27 (.bin .eql (.t 13) (ki 1)),oM 26 27] (.cnd (.t 26) (.reg [oF 28 1 5,oL 29 28,oM 30 4,o 31 (.bin .rem (.t 30) (ki 4)),oM 32 4,o 33 (.build [(.str ⟨#[]⟩),z0,z0] [(0,1,(.k (.str ⟨#[97]⟩))),(1,1,(.t 31)),(2,1,(.t 32))]),o 34 (.lit 3 1 [(.str ⟨#[]⟩),z0,z0] [(0,3,(.t 33))]),o 35 (.app 3 32 [(.str ⟨#[]⟩),z0,z0] (.t 29) (.t 34)),oF 36 1 5,oS 1 36 35]) (rg [o 38 (.bin .eql (.t 13) (ki 2)),oM 37 38] (.cnd (.t 37) (.reg [oF 39 2 5,oL 40 39,oM 41 4,o 42 (.bin .rem (.t 41) (ki 2)),o 43 (.bin .eql (.t 42) (ki 0)),oM 44 4,o 45 (.bin .rem (.t 44) (ki 3)),oM 46 4,o 47 (.bin .rem (.t 46) (ki 4)),oM 48 4,o 49 (.bin .rem (.t 48) (ki 5)),o 50 (.bin .add (ki 1) (.t 49)),o 51 (.build [z0,z0] [(0,1,(.t 47)),(1,1,(.t 50))]),o 52 (.build [(.bool false),(.str ⟨#[]⟩),(.str ⟨#[]⟩),z0,z0,z0] [(0,1,(.t 43)),(1,1,(.k (.str ⟨#[97]⟩))),(2,1,(.k (.str ⟨#[120]⟩))),(3,1,(.t 45)),(4,2,(.t 51))]),o 53 (.lit 6 1 [(.bool false),(.str ⟨#[]⟩),(.str ⟨#[]⟩),z0,z0,z0] [(0,6,(.t 52))]),o 54 (.app 6 64 [(.bool false),(.str ⟨#[]⟩),(.str ⟨#[]⟩),z0,z0,z0] (.t 40) (.t 53)),oF 55 2 5,oS 1 55 54]) (rg [o 57 (.bin .eql (.t 13) (ki 3)),oM 56 57] (.cnd (.t 56) (.reg [oF 58 3 5,oL 59 58,oM 60 4,o 61 (.bin .rem (.t 60) (ki 9)),o 62 (.bin .add (ki 1) (.t 61)),o 63 (.build [z0,z0] [(0,1,(ki 2)),(1,1,(.t 62))]),oM 64 4,o 65 (.bin .rem (.t 64) (ki 9)),oM 66 4,o 67 (.bin .rem (.t 66) (ki 3)),o 68 (.build [z0,z0] [(0,1,(ki 0)),(1,1,(.t 67))]),o 69 (.build [(.str ⟨#[]⟩),z0,z0,z0,z0,z0,z0,(.bool false)] [(0,1,(.k (.str ⟨#[97]⟩))),(1,2,(.t 63)),(3,1,(.t 65)),(4,2,(.t 68))]),o 70 (.lit 8 1 [(.str ⟨#[]⟩),z0,z0,z0,z0,z0,z0,(.bool false)] [(0,8,(.t 69))]),o 71 (.app 8 72 [(.str ⟨#[]⟩),z0,z0,z0,z0,z0,z0,(.bool false)] (.t 59) (.t 70)),oF 72 3 5,oS 1 72 71]) (rg [o 74 (.bin .eql (.t 13) (ki 4)),oM 73 74] (.cnd (.t 73) (rg [oF 75 3 5,oL 76 75,oN 77 76,o 78 (.bin .gtr (.t 77) (ki 0))] (.cnd (.t 78) (.drw [] [oF 79 3 5,oL 80 79,oM 81 4,oF 82 3 5,oL 83 82,oN 84 83,oB 85 .rem 81 84,oI 86 8 80 85,oF 87 0 86,on (.st 1 (.t 87) (.k (.str ⟨#[98]⟩)))]) .skip)) .skip)))))))))))) (rg [oW 88 4 5,oS 4 2 88] .ret))))))⟩
def A5y (l:List Cell):Int:=l.foldl (fun n c=>if c.time>n then c.time else n) 0
section
variable {σ0 σ:St} {h:List Item} {c v:GV} {bs:List Int}
inductive Grw (s0:State):State→Prop
 |nil:Grw s0 s0
 |act {s:State} (rep dt:Int) (e:Edit):Grw s0 s→0≤rep→rep≤2→0≤dt→dt≤1→EdD e→(A0n s rep (A5y s.cells+1+dt) e).2=0→Grw s0 (A5k s (A0n s rep (A5y s.cells+1+dt) e).1).1
theorem Grw.ok {s0 s:State} (h:Grw s0 s) (h0:OkS s0):OkS s:=by
 induction h with
 |nil=>exact h0
 |act rep dt e _ _ _ _ _ _ _ ih=>exact Adm _ ih
end
end
section
open Go Go.RowKit
abbrev n_s_LogNew:Nat:=266
def F_s_LogNew:Fn1:=⟨6,[.c 2 true 8],(rg [o 2 (.new [z0,z0,.nilS,.nilS,.nilS,.nilS,.nilS,.nilS])] (rg [oM 3 0,o 4 (.call 43 []),o 5 (.build [z0,z0,.nilS,.nilS,.nilS,.nilS,.nilS,.nilS] [(0,1,(.t 3)),(2,4,(.t 4))]),oS 8 2 5] .ret))⟩
abbrev Afl:Nat:=204
def Afm:Fn1:=⟨21,[.t 2],(rg [o 2 (.mov (.k .nilS))] (rg [o 5 (.lit 17 0 [] []),oM 3 5] (.seq (rg [oV 4 (ki 0)] (.blk 0 (.lop (.seq (rg [oM 6 4,oM 7 0,oN 8 7,oB 9 .lss 6 8] (.cnd (.t 9) .skip (.ext 0))) (.seq (.blk 1 (.reg [oM 12 3,oM 13 0,oM 14 4,oI 15 17 13 14,oW 16 17 15,oC 17 99 16,o 18 (.lit 17 1 [(.bool false),z0,z0,z0,.nilS,z0,(.str ⟨#[]⟩),(.str ⟨#[]⟩),z0,z0,z0,.nilS,.nilS,.nilS,.nilS,.nilS,.nilS] [(0,17,(.t 17))]),o 19 (.app 17 264 [(.bool false),z0,z0,z0,.nilS,z0,(.str ⟨#[]⟩),(.str ⟨#[]⟩),z0,z0,z0,.nilS,.nilS,.nilS,.nilS,.nilS,.nilS] (.t 12) (.t 18)),oM 3 19])) (.reg [oM 10 4,oZ 11 10 1,oM 4 11])))))) (rg [oM 20 3,oM 2 20] .ret))))⟩
abbrev Ajb:Nat:=327
def Ajc:Fn1:=⟨17,[.c 2 true 8],(rg [oX 1 0,o 2 (.new [z0,z0,.nilS,.nilS,.nilS,.nilS,.nilS,.nilS])] (.seq (.drw [oF 3 0 1,oL 4 3,oF 5 1 1,oL 6 5,oF 7 2 1,oW 8 4 7,oC 9 247 8,oF 10 6 1,oL 11 10,oC 12 204 11,oF 13 7 1,oL 14 13,oC 15 204 14] [o 16 (.build [z0,z0,.nilS,.nilS,.nilS,.nilS,.nilS,.nilS] [(0,1,(.t 4)),(1,1,(.t 6)),(2,4,(.t 9)),(6,1,(.t 12)),(7,1,(.t 15))]),oS 8 2 16]) .ret))⟩
abbrev Ajd:Nat:=378
def Aje:Fn1:=⟨14,[.t 2],(rg [oX 1 0,oV 2 (ki 0)] (.seq (rg [oF 3 0 1,oL 4 3,oU 5 4] (.cnd (.t 5) (rg [oF 6 1 1,oF 7 2 6,oL 8 7,oM 2 8] .ret) .skip)) (rg [oF 9 11 1,oF 10 5 9,oL 11 10,o 12 (.build [.nilS,.nilS,.nilS,.nilS] [(3,1,(.t 11))]),oC 13 277 12,oM 2 13] .ret)))⟩
abbrev logV (l:Log) (s0 s1 s2 s3 u w:GV):List GV:=[gi l.rep,gi l.time,s0,s1,s2,s3,u,w]
def A74 (u:Unit_):Int:=if u.batch then A5y u.delta.cells else u.act.time
end
end Go.Proofs.YtbeoiejnogdkpaaGreat.Sy
