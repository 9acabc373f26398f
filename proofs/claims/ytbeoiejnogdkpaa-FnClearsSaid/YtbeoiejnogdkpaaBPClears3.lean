/- Texts of this proof, one behind the other. -/
import Derived.Test.YtbeoiejnogdkpaaBPClears2
import Derived.Test.YtbeoiejnogdkpaaProg
import Derived.KernelRfl
import Derived.Sort.LotC
import Derived.Sort.AssemblyPlain
namespace Go.Proofs.Ytbeoiejnogdkpaa.Sy
open Go Go.RowKit
set_option linter.unusedSimpArgs false
set_option linter.unusedVariables false
theorem sat_feet {τ:St}:∀ {rs:List Thg} {fp:List Nat},sat τ rs fp→fp.Nodup→∃ F:Nat→List Nat,(∀ (i:Nat) (r:Thg),rs[i]? =some r→r.P τ (F i))∧(∀ i,(F i).Nodup)∧(∀ i j,i≠j→∀ g∈F i,g∉F j)∧∀ i,∀ g∈F i,g∈fp
 |[],fp,h,hn=>⟨fun _=>[],by simp,by simp,by simp,by simp⟩
 |r::rs,_,⟨a,b,hr,hs,rfl⟩,hn=>by
  rw[List.nodup_append] at hn
  obtain⟨F,h1,h2,h3,h4⟩:=sat_feet hs hn.2.1
  refine⟨fun i=>match i with|0=>a|i+1=>F i,?_,?_,?_,?_⟩
  ·intro i s hi
   cases i with
   |zero=>simp at hi;subst hi;exact hr
   |succ i=>exact h1 i s (by simpa using hi)
  ·intro i;cases i with
   |zero=>exact hn.1
   |succ i=>exact h2 i
  ·intro i j hij g hg
   cases i with
   |zero=>cases j with
    |zero=>exact absurd rfl hij
    |succ j=>exact fun h=>hn.2.2 g hg g (h4 j g h) rfl
   |succ i=>cases j with
    |zero=>exact fun h=>hn.2.2 g h g (h4 i g hg) rfl
    |succ j=>exact h3 i j (by omega) g hg
  ·intro i g hg
   cases i with
   |zero=>exact List.mem_append_left _ hg
   |succ i=>exact List.mem_append_right _ (h4 i g hg)
theorem sat_sel {τ:St} {rs:List Thg} {F:Nat→List Nat} (h1:∀(i:Nat) (r:Thg),rs[i]? =some r→r.P τ (F i)) (h2:∀ i,(F i).Nodup) (h3:∀ i j,i≠j→∀ g∈F i,g∉F j):∀ {is:List Nat},is.Nodup→∃ fp,sat τ (is.filterMap (rs[·]?)) fp∧fp.Nodup∧∀ g∈fp,∃ i∈is,g∈F i
 |[],_=>⟨[],rfl,by simp,by simp⟩
 |i::is,hn=>by
  rw[List.nodup_cons] at hn
  obtain⟨fp,k1,k2,k3⟩:=sat_sel h1 h2 h3 hn.2
  cases hi:rs[i]? with
  |none=>exact⟨fp,by rw[List.filterMap_cons,hi];exact k1,k2,fun g hg=>by obtain⟨j,hj,h⟩:=k3 g hg;exact⟨j,List.mem_cons_of_mem _ hj,h⟩⟩
  |some r=>
   refine⟨F i++fp,by rw[List.filterMap_cons,hi];exact⟨F i,fp,h1 i r hi,k1,rfl⟩,List.nodup_append.2 ⟨h2 i,k2,fun x hx y hy e=> ?_⟩,fun g hg=> ?_⟩
   ·subst e
    obtain⟨j,hj,h⟩:=k3 x hy
    exact h3 i j (fun e=>hn.1 (by rw[e];exact hj)) x hx h
   ·rcases List.mem_append.1 hg with hg|hg
    ·exact⟨i,List.mem_cons_self,hg⟩
    ·obtain⟨j,hj,h⟩:=k3 g hg;exact⟨j,List.mem_cons_of_mem _ hj,h⟩
theorem Hp.sel {σ τ:St} {rs:List Thg} (H:Hp σ τ rs) (is:List Nat) (hn:is.Nodup):Hp σ τ (is.filterMap (rs[·]?)):=by
 obtain⟨h,fp,hs,hnd,hb⟩:=H
 obtain⟨F,h1,h2,h3,h4⟩:=sat_feet hs hnd
 obtain⟨fp',k1,k2,k3⟩:=sat_sel h1 h2 h3 hn
 exact⟨h,fp',k1,k2,fun g hg=>by obtain⟨i,_,hi⟩:=k3 g hg;exact hb g (h4 i g hi)⟩
theorem Hx.sel {σ τ:St} {h:List Item} (H:Hx σ τ h) (is:List Nat) (hn:is.Nodup):Hp σ τ (is.filterMap ((h.map Item.t)[·]?)):=Hp.sel H is hn
theorem Hx.re {σ τ:St} {h:List Item} (H:Hx σ τ h) (is:List Nat) (hn:is.Nodup):Hx σ τ (is.filterMap (h[·]?)):=by
 have e:(is.filterMap (h[·]?)).map Item.t=is.filterMap ((h.map Item.t)[·]?):=by
  induction is with
  |nil=>rfl
  |cons i is ih=>
   have ih:=ih (List.nodup_cons.1 hn).2
   rw[List.filterMap_cons,List.filterMap_cons,List.getElem?_map]
   cases h[i]? with
   |none=>exact ih
   |some x=>simp only[Option.map_some,List.map_cons,ih]
 unfold Hx
 rw[e]
 exact H.sel is hn
section os
variable {α:Type} {d:Kd α} {σ τ:St} {l:List α} {v:GV} {fp:List Nat}
end os
theorem RS_one {α:Type} {p:Pl α} {τ:St} {n:Nat} {x:α} (h:rdB τ n=some (p.enc x)):RS p.kd τ (.sl n 0 1) [x]:=by
 refine .inr ⟨n,0,p.enc x,rfl,h,?_,fun i y hy=> ?_⟩
 ·show 0+1*p.z≤_;rw[p.len];omega
 ·have hi:i<1:=by simpa using (List.getElem?_eq_some_iff.1 hy).1
  have hi:i=0:=by omega
  subst hi
  simp at hy;subst hy
  show List.take p.z (List.drop (0+0*p.z) (p.enc x))=p.enc x
  simp only[Nat.zero_mul,Nat.add_zero,List.drop_zero]
  exact List.take_of_length_le (by rw[p.len];exact Nat.le_refl _)
section rules
variable {P:Program} {D:Bool} {σ τ τ':St} {env:Env} {h:List Item} {k:Kx} {f:Nat} {args:List GV} {v:GV} {α:Type}
theorem map_th {rs:List Thg} {h:List Item}:(rs.map Item.th++h).map Item.t=rs++h.map Item.t:=by
 rw[List.map_append,List.map_map]
 congr 1
 exact List.map_id _
theorem by_cs {rs:List Thg} (H:Hx σ τ h) (R:Ret P f args τ v τ') (K:Hp τ τ' rs) (kk:Hx σ τ' (rs.map Item.th++h)→k v (rs.map Item.th++h) τ'):callX P σ D τ f args k:=by
 have H':Hx σ τ' (rs.map Item.th++h):=by unfold Hx;rw[map_th];exact H.hp.add K
 exact⟨v,τ',_,R,fun _=>K.sub,H',kk H'⟩
theorem by_c {r:Thg} (H:Hx σ τ h) (R:Ret P f args τ v τ') (K:Hp τ τ' [r]) (kk:Hx σ τ' (.th r::h)→k v (.th r::h) τ'):callX P σ D τ f args k:=by_cs H R K kk
theorem by_r (H:Hx σ τ h) (R:Ret P f args τ v τ) (kk:k v h τ):callX P σ D τ f args k:=⟨v,τ,h,R,fun _=>List.prefix_refl _,H,kk⟩
theorem by_b {b:Bool} (H:Hx σ τ h) (R:Ret P f args τ (.bool b) τ) (h1:b=true→k (.bool true) h τ) (h2:b=false→k (.bool false) h τ):callX P σ D τ f args k:=by
 refine by_r H R ?_
 cases b with
 |true=>exact h1 rfl
 |false=>exact h2 rfl
theorem by_m {h':List Item} (R:Ret P f args τ v τ') (H:Hx σ τ' h') (kk:k v h' τ'):callX P σ false τ f args k:=⟨v,τ',h',R,(fun h=>by cases h),H,kk⟩
theorem set_t {h:List Item} {i:Nat} {r:Thg}:(h.set i (.th r)).map Item.t=(h.map Item.t).set i r:=List.map_set ..
theorem at_t {h:List Item} {i:Nat} {r:Thg} (hi:h[i]? =some (.th r)):(h.map Item.t)[i]? =some r:=by rw[List.getElem?_map,hi];rfl
theorem by_app1 {p:Pl α} {b8 n:Nat} {l:List α} (H:Hx σ τ h) (i:Nat) (hi:h[i]? =some (.th (ow p.kd v l))) (x:α) (hl:look h n=some (p.enc x)) (hz:0<p.z) (hb:(l.length+1)*b8≤140737488355328)
  (kk:∀ v' τ',Hx σ τ' (h.set i (.th (ow p.kd v' (l++[x]))))→k v' (h.set i (.th (ow p.kd v' (l++[x])))) τ'):genX σ false τ (appV p.z b8 τ v (.sl n 0 1)) k:=by
 obtain⟨z,j,h1,_⟩:=look_at hl
 obtain⟨v',τ',e,H'⟩:=H.hp.app (by8:=b8) i (at_t hi) (RS_one (H.hp.pt j h1)) hz hb
 rw[← set_t] at H'
 exact⟨v',τ',_,e,(fun h=>by cases h),H',kk v' τ' H'⟩
theorem map_era:∀(h:List Item) (j:Nat),(h.map Item.t).eraseIdx j=(h.eraseIdx j).map Item.t
 |[],_=>rfl
 |x::h,0=>rfl
 |x::h,j+1=>by simp only[List.map_cons,List.eraseIdx_cons_succ,map_era h j]
theorem by_cp {p:Pl α} {b8 n:Nat} {m:List α} {u:GV} (H:Hx σ τ (.box p.z n []::h)) (hu:RS p.kd τ u m) (hz:0<p.z) (hb:m.length*b8≤140737488355328)
  (kk:∀ v' τ',Hx σ τ' (.th (ow p.kd v' m)::h)→k v' (.th (ow p.kd v' m)::h) τ'):genX σ D τ (appV p.z b8 τ (.sl n 0 0) u) k:=by
 have hu':RdN p.en τ u m:=hu
 have ha:appV p.z b8 τ (.sl n 0 0) u=appG p.z b8 τ (.sl n 0 0) m.length (p.cells m):=by
  have he:=hu'.elems
  unfold appV
  rcases hu' with⟨rfl,rfl|rfl⟩|⟨g,off,cs,rfl,_⟩<;>simp only[he,Option.bind_some]
 rw[ha]
 by_cases hm:m.length=0
 ·have:m=[]:=List.eq_nil_of_length_eq_zero hm
  subst this
  have H1:Hx σ τ (.th (ow p.kd (.sl n 0 0) [])::h):=H.hp.toNil (d:=p.kd) 0 rfl rfl
  exact⟨.sl n 0 0,τ,_,by simp[appG,isSl],fun _=>List.prefix_refl _,H1,kk _ _ H1⟩
 ·obtain⟨a,ha,_⟩:=H.hp.see (i:=0) rfl
  have hB:=bk_some.1 ha.2
  have H1:Hx σ (τ++[some (.row p.z (p.cells m))]) (.th (ow p.kd (.sl τ.length 0 m.length) m)::h):=(H.hp.drop1.new p.z (p.cells m)).toRow 0 rfl m rfl rfl _ rfl
  refine⟨.sl τ.length 0 m.length,τ++[some (.row p.z (p.cells m))],_,?_,fun _=>pre1 _ _,H1,kk _ _ H1⟩
  simp only[appG,hB,if_neg hm]
  rw[if_pos ⟨trivial,trivial,trivial,trivial,hb⟩]
theorem genX_mono {e:Option (GV×St)} {k k':Kx} (hk:∀ v h τ,k v h τ→k' v h τ):genX σ D τ e k→genX σ D τ e k':=fun⟨v,τ',h',h1,h2,h3,h4⟩=>⟨v,τ',h',h1,h2,h3,hk _ _ _ h4⟩
theorem alloc_mono {z:Nat} {cs:List GV} {w:Nat→GV} {k k':Kx} (hk:∀ v h τ,k v h τ→k' v h τ) (e:allocX σ h z cs w k):allocX σ h z cs w k':=fun n hf τ' H=>hk _ _ _ (e n hf τ' H)
theorem sxI_mono {k k':Kx} (hk:∀ v h τ,k v h τ→k' v h τ):∀ {i:Ins},sxI P D σ env h τ k i→sxI P D σ env h τ k' i:=by
 have bm:∀ {v:Option GV},bindX v k h τ→bindX v k' h τ:=fun {v} e=>by
  cases v with
  |none=>exact e
  |some v=>exact hk _ _ _ e
 intro i e
 cases i with
 |new cs=>exact alloc_mono hk e
 |box x=>exact⟨e.1,alloc_mono hk e.2⟩
 |lit z len zero parts=>
  simp only[sxI] at e ⊢
  revert e
  cases fillG zero (parts.map fun p=>(p.1,p.2.1,p.2.2.ev env)) with
  |none=>exact id
  |some cs=>exact alloc_mono hk
 |mks z b ze n c=>
  simp only[sxI] at e ⊢
  revert e
  cases natOf (some (n.ev env)) with
  |none=>exact id
  |some n=>cases natOf (some (c.ev env)) with
   |none=>exact id
   |some c=>exact fun e=>⟨e.1,e.2.1,alloc_mono hk e.2.2⟩
 |st n a x=>
  simp only[sxI] at e ⊢
  revert e
  cases a.ev env with
  |ptr b off=>
   simp only[stX]
   unfold stB
   cases look h b with
   |none=>exact genX_mono hk
   |some cs=>exact fun e=>⟨e.1,fun τ' H=>hk _ _ _ (e.2 τ' H)⟩
  |_=>exact genX_mono hk
 |call f xs=>
  obtain⟨v,τ',h',h1,h2,h3,h4⟩:=e
  exact⟨v,τ',h',h1,h2,h3,hk _ _ _ h4⟩
 |callv x xs=>
  simp only[sxI] at e ⊢
  revert e
  cases x.ev env with
  |fn f caps=>exact fun⟨v,τ',h',h1,h2,h3,h4⟩=>⟨v,τ',h',h1,h2,h3,hk _ _ _ h4⟩
  |_=>exact id
 |chk d x=>
  cases x with
  |ld g n a=>cases a with
   |t t=>exact⟨e.1,hk _ _ _ e.2⟩
   |k v=>exact e
  |_=>exact e
 |blc t cs=>exact⟨e.1,hk _ _ _ e.2⟩
 |app z b ze s x=>exact genX_mono hk e
 |clr z ze x=>exact genX_mono hk e
 |mkm=>exact genX_mono hk e
 |mup ks m k2 v=>exact genX_mono hk e
 |mov x=>exact hk _ _ _ e
 |pan=>exact e
 |_=>exact bm e
theorem sx_mono:∀ {os:List Op1} {K K':Env→List Item→St→Prop} {env:Env} {h:List Item} {τ:St},(∀ env h τ,K env h τ→K' env h τ)→sx P D σ os K env h τ→sx P D σ os K' env h τ
 |[],K,K',env,h,τ,hk,e=>hk _ _ _ e
 |o::r,K,K',env,h,τ,hk,e=>by
  simp only[sx] at e ⊢
  have y:sxI P D σ env h τ (fun v h' τ'=>sx P D σ r K (upo env o.d v) h' τ') o.i→sxI P D σ env h τ (fun v h' τ'=>sx P D σ r K' (upo env o.d v) h' τ') o.i:=sxI_mono fun v h τ=>sx_mono hk
  have n:sx P D σ r K (upo env o.d (.tup [])) h τ→sx P D σ r K' (upo env o.d (.tup [])) h τ:=sx_mono hk
  revert e
  cases o.g.map fun g=>((env g.1).bit,g.2) with
  |none=>exact y
  |some q=>
   obtain⟨c,b⟩:=q
   cases c with
   |none=>exact n
   |some c=>exact fun e=>⟨fun hc=>y (e.1 hc),fun hc=>n (e.2 hc)⟩
theorem sxc_mono {d:Cd}:∀ {Q Q':Qx} {env:Env} {h:List Item} {τ:St},(∀ e env h τ,Q e env h τ→Q' e env h τ)→sxc P σ d Q env h τ→sxc P σ d Q' env h τ:=by
 induction d with
 |skip=>intro Q Q' env h τ hq e;exact hq _ _ _ _ e
 |reg ops=>intro Q Q' env h τ hq e;exact sx_mono (hq _) e
 |drw a1 bs=>intro Q Q' env h τ hq e;exact sx_mono (fun _ _ _=>sx_mono (hq _)) e
 |seq a b iha ihb=>
  intro Q Q' env h τ hq e
  refine iha (fun e env h τ he=> ?_) e
  cases e with
  |nxt=>exact ihb hq he
  |ext j=>exact hq _ _ _ _ he
  |ret=>exact hq _ _ _ _ he
 |cnd c a b iha ihb=>
  intro Q Q' env h τ hq e
  simp only[sxc] at e ⊢
  unfold ifX at e ⊢
  split
  ·rename_i hc;rw[hc] at e;exact⟨fun k=>iha hq (e.1 k),fun k=>ihb hq (e.2 k)⟩
  ·rename_i hc;rw[hc] at e;exact e
 |blk id a ih=>
  intro Q Q' env h τ hq e
  refine ih (fun e env h τ he=> ?_) e
  cases e with
  |nxt=>exact hq _ _ _ _ he
  |ext j=>
   simp only at he ⊢
   split at he
   ·rename_i hj;rw[if_pos hj];exact hq _ _ _ _ he
   ·rename_i hj;rw[if_neg hj];exact hq _ _ _ _ he
  |ret=>exact hq _ _ _ _ he
 |lop a ih=>
  intro Q Q' env h τ hq e
  obtain⟨I,n,h0,H0,hI,hs⟩:=e
  refine⟨I,n,h0,H0,hI,fun k env h τ H hi=>ih (fun e env' h' τ' he=> ?_) (hs k env h τ H hi)⟩
  cases e with
  |nxt=>exact he
  |ext j=>obtain⟨h1,H1,he⟩:=he;exact⟨h1,H1,hq _ _ _ _ he⟩
  |ret=>obtain⟨h1,H1,he⟩:=he;exact⟨h1,H1,hq _ _ _ _ he⟩
 |ext id=>intro Q Q' env h τ hq e;exact hq _ _ _ _ e
 |ret=>intro Q Q' env h τ hq e;exact hq _ _ _ _ e
variable {a b:Cd} {Q:Qx}
theorem sx_lop (n j0:Nat) (I:Nat→Env→List Item→Prop) (X Z:Env→List Item→Prop) (h0:List Item) (H0:Hx σ τ h0) (hI:I n env h0)
  (hs:∀(J:Nat→Env→St→Prop) (Y W:Env→St→Prop),(∀ i env h τ,Hx σ τ h→I i env h→J i env τ)→(∀ env h τ,Hx σ τ h→X env h→Y env τ)→(∀ env h τ,Hx σ τ h→Z env h→W env τ)→∀ i env h τ,Hx σ τ h→I i env h→sxc P σ a (fun e env' h' τ'=>match e with
   | .nxt=>∃ i',i'<i∧J i' env' τ'
   | .ext j=>j=j0∧Y env' τ'
   | .ret=>W env' τ') env h τ)
  (hx:∀ env h τ,Hx σ τ h→X env h→Q (.ext j0) env h τ) (hz:∀ env h τ,Hx σ τ h→Z env h→Q .ret env h τ):sxc P σ (.lop a) Q env h τ:=by
 refine⟨fun i env h τ=>I i env h,n,h0,H0,hI,fun i env h τ H hi=>sxc_mono (fun e env' h' τ' he=> ?_) (hs (fun i env τ=>∃ h,Hx σ τ h∧I i env h) (fun env τ=>∃ h,Hx σ τ h∧X env h) (fun env τ=>∃ h,Hx σ τ h∧Z env h) (fun _ _ h _ H e=>⟨h,H,e⟩) (fun _ h _ H e=>⟨h,H,e⟩) (fun _ h _ H e=>⟨h,H,e⟩) i env h τ H hi)⟩
 cases e with
 |nxt=>obtain⟨i',h1,h2,h3,h4⟩:=he;exact⟨i',h2,h1,h3,h4⟩
 |ext j=>obtain⟨rfl,h2,h3,h4⟩:=he;exact⟨h2,h3,hx _ _ _ h3 h4⟩
 |ret=>obtain⟨h2,h3,h4⟩:=he;exact⟨h2,h3,hz _ _ _ h3 h4⟩
theorem sx_for (n ri j0:Nat) (I:Nat→Env→List Item→Prop) (X Z:Env→List Item→Prop) (h0:List Item) (H0:Hx σ τ h0) (hr:env ri=gi 0) (hI:I 0 env h0)
  (hs:∀(J:Nat→Env→St→Prop) (Y W:Env→St→Prop),(∀ i env h τ,Hx σ τ h→I i env h→J i env τ)→(∀ env h τ,Hx σ τ h→X env h→Y env τ)→(∀ env h τ,Hx σ τ h→Z env h→W env τ)→∀ i env h τ,i<n→env ri=gi i→decide ((i:Int)<n)=true→Hx σ τ h→I i env h→sxc P σ a (fun e env' h' τ'=>match e with
   | .nxt=>env' ri=gi ((i:Int)+1)∧J (i+1) env' τ'
   | .ext j=>j=j0∧Y env' τ'
   | .ret=>W env' τ') env h τ)
  (he:∀(Y:Env→St→Prop),(∀ env h τ,Hx σ τ h→X env h→Y env τ)→∀ env h τ,env ri=gi n→decide ((n:Int)<n)=false→Hx σ τ h→I n env h→sxc P σ a (fun e env' h' τ'=>match e with
   | .nxt=>False
   | .ext j=>j=j0∧Y env' τ'
   | .ret=>False) env h τ)
  (hx:∀ env h τ,Hx σ τ h→X env h→Q (.ext j0) env h τ) (hz:∀ env h τ,Hx σ τ h→Z env h→Q .ret env h τ):sxc P σ (.lop a) Q env h τ:=by
 refine sx_lop n j0 (fun k env h=>∃ i:Nat,k=n - i∧i≤n∧env ri=gi i∧I i env h) X Z h0 H0 ⟨0,rfl,Nat.zero_le _,hr,hI⟩ (fun J Y W hJ hY hW k env h τ H hi=> ?_) hx hz
 obtain⟨i,rfl,h1,h2,h3⟩:=hi
 rcases Nat.lt_or_ge i n with hlt|hge
 ·refine sxc_mono (fun e env' h' τ' q=> ?_) (hs (fun i' env τ=>i'≤n→env ri=gi i'→J (n - i') env τ) Y W (fun j env h τ H e hj hr=>hJ _ env h τ H ⟨j,rfl,hj,hr,e⟩) hY hW i env h τ hlt h2 (by simp;omega) H h3)
  cases e with
  |nxt=>exact⟨n - (i+1),by omega,q.2 (by omega) q.1⟩
  |ext j=>exact q
  |ret=>exact q
 ·obtain rfl:i=n:=by omega
  refine sxc_mono (fun e env' h' τ' q=> ?_) (he Y hY env h τ h2 (by simp) H h3)
  cases e with
  |nxt=>exact q.elim
  |ext j=>exact q
  |ret=>exact q.elim
theorem ret_xe {md:Bool} {F:Fn1} {r:GV} (hF:compFnM md P f=some F) (hl:args.length≤F.n) (hr:vLt σ.length r)
  (hc:sxc P σ F.c (fun e env h τ=>Hx σ τ h→isOut e=true∧resX σ h τ env F.rs=some r) (env0 args) [] σ):Ret P f args σ r σ:=
 ret_eq hF hl hr (vc_mono (sxc_sound (Hx.refl σ) hc) fun e env τ he=>by
  obtain⟨_,h,H,hq⟩:=he
  exact⟨(hq H).1,resX_sound H (hq H).2,H.sub⟩)
end rules
end Go.Proofs.Ytbeoiejnogdkpaa.Sy
namespace Go.Proofs.Ytbeoiejnogdkpaa.Sy
open Go Go.RowKit
set_option linter.unusedSimpArgs false
set_option linter.unusedVariables false
attribute [go_sem] List.set_cons_zero List.set_cons_succ List.eraseIdx_cons_succ List.eraseIdx_cons_zero List.map_cons List.map_nil List.cons_append List.nil_append
section
variable {P:Program} {D:Bool} {σ τ:St} {env:Env} {h:List Item} {k:Kx} {v:GV} {α:Type} {l:List α}
theorem Hx.of {rs:List Thg} (H:Hp σ τ rs):Hx σ τ (rs.map Item.th):=by
 have e:(rs.map Item.th).map Item.t=rs:=by
  have:=map_th (rs:=rs) (h:=[])
  simpa using this
 unfold Hx
 rw[e];exact H
theorem Hx.nil (H:Hx σ τ h) (d:Kd α):Hx σ τ (.th (ow d .nilS ([]:List α))::h):=Hp.nilS H
theorem Hx.emp {z n:Nat} (H:Hx σ τ (.box z n []::h)) (d:Kd α) (hz:z=d.z):Hx σ τ (.th (ow d (.sl n 0 0) ([]:List α))::h):=H.hp.toNil 0 rfl hz
theorem kp {p:Nat→Prop} {env0 env:Env} {d:Nat} {v:GV} (hd:¬ p d) (h:∀ r,p r→env r=env0 r):∀ r,p r→up env d v r=env0 r:=fun r hr=>by
 unfold up
 rw[if_neg (fun e:r=d=>hd (by rw[← e];exact hr))]
 exact h r hr
theorem Hx.mlk {m:GV} {ps:List (Dot×Int)} (H:Hx σ τ h) (i:Nat) (hi:h[i]? =some (.th (mpt m ps))) (d:Dot):mlkG τ [.i .i64,.i .i64] (gi 0) true m (.agg [gi d.rep,gi d.seq])=some (.tup [gi ((dlook ps d).getD 0),.bool (dlook ps d).isSome]):=H.hp.mlk i (at_t hi) d
theorem ldX_own (H:Hx σ τ h) {g:Bool} {n:Nat} {a x:GV} (e:ldG g n τ a=some x):ldX σ h τ g n a=some x:=by
 unfold ldX orX
 cases h1:ldG g n σ a with
 |some y=>have:=ldG_pre h1 H.sub;rw[e] at this;exact this.symm
 |none=>
  show ldY h τ g n a=some x
  cases a with
  |ptr b off=>
   simp only[ldY]
   cases hl:look h b with
   |none=>exact e
   |some cs=>
    obtain⟨z,i,h2,_⟩:=look_at hl
    have:=H.hp.pt i h2
    simp only[ldG,this,Option.bind_some] at e
    exact e
  |_=>exact e
theorem look_box:∀ {h:List Item} {n:Nat} {cs:List GV},look h n=some cs→∃ z,∃ i:Nat,h[i]? =some (.box z n cs)
 |[],_,_,e=>by cases e
 | .box z m cs'::h,n,cs,e=>by
  simp only[look] at e
  by_cases hm:m=n
  ·rw[if_pos hm] at e
   injection e with e;subst e hm
   exact⟨z,0,rfl⟩
  ·rw[if_neg hm] at e
   obtain⟨z',i,h1⟩:=look_box e
   exact⟨z',i+1,by simpa using h1⟩
 | .th r::h,n,cs,e=>by
  obtain⟨z',i,h1⟩:=look_box (h:=h) (by simpa [look] using e)
  exact⟨z',i+1,by simpa using h1⟩
theorem no_box (H:Hx σ τ h) {i:Nat} {r:Thg} (hi:h[i]? =some (.th r)) {b:Nat} (hb:∀ fp,r.P τ fp→b∈fp):look h b=none:=by
 cases hl:look h b with
 |none=>rfl
 |some cs=>
  obtain⟨z,j,h1⟩:=look_box hl
  obtain⟨_,fp,hs,hn,_⟩:=H.hp
  obtain⟨F,k1,k2,k3,_⟩:=sat_feet hs hn
  have hj:=k1 j (pt z b cs) (by rw[List.getElem?_map,h1];rfl)
  have hr:=k1 i _ (at_t hi)
  have hij:i≠j:=by
   rintro rfl
   rw[hi] at h1;cases h1
  have h2:b∈F j:=by rw[hj.1];exact List.mem_cons_self
  exact(k3 i j hij b (hb _ hr) h2).elim
theorem stX_gen (H:Hx σ τ h) {p:Pl α} {i:Nat} (hi:h[i]? =some (.th (ow p.kd v l))) {j:Nat} (hj:j<l.length) {m n:Nat} {x:GV} (e:genX σ false τ (stG n τ (fld m (atz p.z v j)) x) k):stX σ false h τ n k (fld m (atz p.z v j)) x:=by
 obtain⟨fp,ho,_⟩:=H.hp.see (at_t hi)
 rcases OS.flat.1 ho with⟨rfl,_⟩|⟨g,pre,post,rfl,hB,rfl⟩
 ·simp at hj
 ·have hn:look h g=none:=no_box H hi fun fp' ho'=>by
   rcases OS.flat.1 ho' with⟨rfl,_⟩|⟨g',pre',post',e',_,rfl⟩
   ·simp at hj
   ·injection e' with e1;rw[e1];exact List.mem_cons_self
  show stB σ false h τ n k g _ x (look h g)
  rw[hn]
  exact e
theorem by_ste {p:Pl α} (H:Hx σ τ h) (i:Nat) (hi:h[i]? =some (.th (ow p.kd v l))) {j:Nat} (hj:j<l.length) {m n:Nat} {x:GV} (y:α) (hx:x.cells.length=n) (hn:0<n) (hk:m+n≤p.z) (hy:p.enc y=splice (p.enc l[j]) m x.cells)
  (kk:∀ τ',Hx σ τ' (h.set i (.th (ow p.kd v (l.set j y))))→k (.tup []) (h.set i (.th (ow p.kd v (l.set j y)))) τ'):stX σ false h τ n k (fld m (atz p.z v j)) x:=by
 obtain⟨τ',e,H'⟩:=H.hp.ste i (at_t hi) hj n m x y hx hn hk hy
 rw[← set_t] at H'
 exact stX_gen H hi hj ⟨_,τ',_,e,(fun h=>by cases h),H',kk τ' H'⟩
theorem by_stw {p:Pl α} (H:Hx σ τ h) (i:Nat) (hi:h[i]? =some (.th (ow p.kd v l))) {j:Nat} (hj:j<l.length) {n:Nat} {x:GV} (y:α) (hx:x.cells=p.enc y) (hn:n=p.z) (hz:0<n)
  (kk:∀ τ',Hx σ τ' (h.set i (.th (ow p.kd v (l.set j y))))→k (.tup []) (h.set i (.th (ow p.kd v (l.set j y)))) τ'):stX σ false h τ n k (atz p.z v j) x:=by
 subst hn
 have e:atz p.z v j=fld 0 (atz p.z v j):=by cases v<;>rfl
 rw[e]
 exact by_ste H i hi hj y (by rw[hx,p.len]) hz (by omega) (by rw[hx];unfold splice;rw[List.take_zero,List.nil_append,p.len,List.drop_eq_nil_of_le (by rw[p.len];omega),List.append_nil]) kk
end
end Go.Proofs.Ytbeoiejnogdkpaa.Sy
namespace Go.Proofs.Ytbeoiejnogdkpaa.Sy
open Go Go.RowKit
set_option linter.unusedSimpArgs false
set_option linter.unusedVariables false
section os
variable {α:Type} {d:Kd α} {σ τ:St} {l:List α} {v:GV} {fp:List Nat}
theorem OS.fresh {x0:α} {ze:List GV} {n len:Nat} (h0:∀ τ,d.O τ x0 ze []) (hB:bk τ n=some (.row d.z (reps len ze))):OS d τ (List.replicate len x0) (.sl n 0 len) [n]:=by
 refine .inr ⟨n,[],List.replicate len ze,[],List.replicate len [],by simp,by rw[hB];simp[reps],?_,?_⟩
 ·clear hB
  induction len with
  |zero=>exact .nil
  |succ k ih=>exact .cons (h0 τ) ih
 ·simp
end os
section rules
variable {P:Program} {D:Bool} {σ τ:St} {h:List Item} {k:Kx} {v:GV} {α:Type} {l:List α} {d:Kd α}
theorem Hx.mk {x0:α} {ze:List GV} {n len z:Nat} (H:Hx σ τ (.box z n (reps len ze)::h)) (d:Kd α) (hz:z=d.z) (h0:∀ τ,d.O τ x0 ze []):Hx σ τ (.th (ow d (.sl n 0 len) (List.replicate len x0))::h):=
 H.hp.conv fun fp hp=>by
  obtain⟨rfl,hB⟩:=hp
  exact OS.fresh h0 (hz ▸ hB)
end rules
end Go.Proofs.Ytbeoiejnogdkpaa.Sy
namespace Go.Proofs.Ytbeoiejnogdkpaa.Sy
open Go Go.RowKit
set_option linter.unusedSimpArgs false
set_option linter.unusedVariables false
theorem All3.cut {α β γ:Type} {R:α→β→γ→Prop}:∀ {x y:List α} {bs:List β} {cs:List γ},All3 R (x++y) bs cs→∃ b1 b2 c1 c2,bs=b1++b2∧cs=c1++c2∧All3 R x b1 c1∧All3 R y b2 c2
 |[],y,bs,cs,h=>⟨[],bs,[],cs,rfl,rfl,.nil,h⟩
 |a::x,y,_,_,.cons h t=>by
  obtain⟨b1,b2,c1,c2,rfl,rfl,h1,h2⟩:=All3.cut t
  exact⟨_::b1,b2,_::c1,c2,rfl,rfl,.cons h h1,h2⟩
def holeP {α:Type} (d:Kd α) (v:GV) (l:List α) (j:Nat) (cs:List GV) (τ:St) (fp:List Nat):Prop:=
 ∃ g pre c1 c2 post f1 f2,v= .sl g pre.length l.length∧bk τ g=some (.row d.z (pre++(c1.flatten++(cs++c2.flatten))++post))∧cs.length=d.z∧All3 (d.O τ) (l.take j) c1 f1∧All3 (d.O τ) (l.drop (j+1)) c2 f2∧fp=g::(f1.flatten++f2.flatten)
def hole {α:Type} (d:Kd α) (v:GV) (l:List α) (j:Nat) (cs:List GV):Thg:=⟨holeP d v l j cs,fun {σ τ fp} h hf=>by
 obtain⟨g,pre,c1,c2,post,f1,f2,h1,h2,h3,h4,h5,rfl⟩:=h
 refine⟨g,pre,c1,c2,post,f1,f2,h1,by rw[hf g List.mem_cons_self];exact h2,h3,h4.imp fun a b c hc ho=>d.loc ho fun g' hg'=>hf g' ?_,h5.imp fun a b c hc ho=>d.loc ho fun g' hg'=>hf g' ?_,rfl⟩
 ·exact List.mem_cons_of_mem _ (List.mem_append_left _ (List.mem_flatten.2 ⟨c,hc,hg'⟩))
 ·exact List.mem_cons_of_mem _ (List.mem_append_right _ (List.mem_flatten.2 ⟨c,hc,hg'⟩))⟩
section
variable {σ τ:St} {rs:List Thg} {α:Type} {d:Kd α} {v:GV} {l:List α} {cs:List GV} {j:Nat}
end
section
variable {P:Program} {σ τ:St} {h:List Item} {K:Kx} {v:GV} {α:Type} {l:List α} {d:Kd α} {cs:List GV} {j:Nat}
end
end Go.Proofs.Ytbeoiejnogdkpaa.Sy
namespace Go.Proofs.Ytbeoiejnogdkpaa.Sy
open Go Go.RowKit
set_option linter.unusedSimpArgs false
set_option linter.unusedVariables false
def restP {α:Type} (d:Kd α) (v:GV) (l:List α) (j:Nat) (τ:St) (fp:List Nat):Prop:=
 (l=[]∧v= .nilS∧fp=[])∨∃ g pre c1 c2 post f2,v= .sl g pre.length l.length∧bk τ g=some (.row d.z (pre++(c1++c2.flatten)++post))∧c1.length=j*d.z∧All3 (d.O τ) (l.drop j) c2 f2∧fp=g::f2.flatten
def rest {α:Type} (d:Kd α) (v:GV) (l:List α) (j:Nat):Thg:=⟨restP d v l j,fun {σ τ fp} h hf=>by
 rcases h with h|⟨g,pre,c1,c2,post,f2,h1,h2,h3,h4,rfl⟩
 ·exact .inl h
 refine .inr ⟨g,pre,c1,c2,post,f2,h1,by rw[hf g List.mem_cons_self];exact h2,h3,h4.imp fun a b c hc ho=>d.loc ho fun g' hg'=>hf g' ?_,rfl⟩
 exact List.mem_cons_of_mem _ (List.mem_flatten.2 ⟨c,hc,hg'⟩)⟩
section
variable {σ τ:St} {rs:List Thg} {α:Type} {d:Kd α} {v:GV} {l:List α} {j:Nat}
end
def rstP {α:Type} (d:Kd α) (v:GV) (l:List α) (j:Nat) (cs:List GV) (τ:St) (fp:List Nat):Prop:=
 ∃ g pre c1 c2 post f2,v= .sl g pre.length l.length∧bk τ g=some (.row d.z (pre++(c1++(cs++c2.flatten))++post))∧c1.length=j*d.z∧cs.length=d.z∧All3 (d.O τ) (l.drop (j+1)) c2 f2∧fp=g::f2.flatten
def rst {α:Type} (d:Kd α) (v:GV) (l:List α) (j:Nat) (cs:List GV):Thg:=⟨rstP d v l j cs,fun {σ τ fp} h hf=>by
 obtain⟨g,pre,c1,c2,post,f2,h1,h2,h3,h5,h4,rfl⟩:=h
 refine⟨g,pre,c1,c2,post,f2,h1,by rw[hf g List.mem_cons_self];exact h2,h3,h5,h4.imp fun a b c hc ho=>d.loc ho fun g' hg'=>hf g' ?_,rfl⟩
 exact List.mem_cons_of_mem _ (List.mem_flatten.2 ⟨c,hc,hg'⟩)⟩
section
variable {σ τ:St} {rs:List Thg} {α:Type} {d:Kd α} {v:GV} {l:List α} {cs:List GV} {j:Nat}
end
end Go.Proofs.Ytbeoiejnogdkpaa.Sy
namespace Go.Proofs.Ytbeoiejnogdkpaa.Sy
open Go Go.RowKit
set_option linter.unusedSimpArgs false
set_option linter.unusedVariables false
set_option maxRecDepth 4000
abbrev n_s_l01Once:Nat:=44
def F_s_l01Once:Fn1:=⟨9,[.t 4],(.seq (.reg [o 4 (.mov (.k (.bool false)))]) (.seq (.reg [o 5 (.mov (.t 0)),o 6 (.mov (.t 1)),o 7 (.call 30 [(.t 5),(.t 6)]),o 8 (.bin .eql (.t 7) (.k (.int .i64 0))),o 4 (.mov (.t 8))]) .ret))⟩
abbrev n_s_l01Pick:Nat:=82
def F_s_l01Pick:Fn1:=⟨12,[.t 4],(.seq (.reg [o 4 (.mov (.k (.str ⟨#[]⟩)))]) (.seq (.reg [o 5 (.mov (.t 1)),o 6 (.mov (.t 0)),o 7 (.mov (.t 1)),o 8 (.len false (.t 7)),o 9 (.call 30 [(.t 6),(.t 8)]),o 10 (.iad 1 (.t 5) (.t 9)),o 11 (.ld false 1 (.t 10)),o 4 (.mov (.t 11))]) .ret))⟩
theorem ir_s_l01Pick:compFn Try.prog n_s_l01Pick=some F_s_l01Pick:=by kernel_rfl
abbrev n_s_l01PickInt:Nat:=66
def F_s_l01PickInt:Fn1:=⟨12,[.t 4],(.seq (.reg [o 4 (.mov (.k (.int .i64 0)))]) (.seq (.reg [o 5 (.mov (.t 1)),o 6 (.mov (.t 0)),o 7 (.mov (.t 1)),o 8 (.len false (.t 7)),o 9 (.call 30 [(.t 6),(.t 8)]),o 10 (.iad 1 (.t 5) (.t 9)),o 11 (.ld false 1 (.t 10)),o 4 (.mov (.t 11))]) .ret))⟩
theorem ir_s_l01PickInt:compFn Try.prog n_s_l01PickInt=some F_s_l01PickInt:=by kernel_rfl
abbrev n_s_l05Obj:Nat:=64
def F_s_l05Obj:Fn1:=⟨6,[.t 2],(.seq (.reg [o 2 (.mov (.k (.str ⟨#[]⟩)))]) (.seq (.reg [o 3 (.mov (.t 0)),o 4 (.lit 1 3 [(.str ⟨#[]⟩),(.str ⟨#[]⟩),(.str ⟨#[]⟩)] [(0,1,(.k (.str ⟨#[97]⟩))),(1,1,(.k (.str ⟨#[98]⟩))),(2,1,(.k (.str ⟨#[116,97,108,108,121]⟩)))]),o 5 (.call 82 [(.t 3),(.t 4)]),o 2 (.mov (.t 5))]) .ret))⟩
theorem ir_s_l05Obj:compFn Try.prog n_s_l05Obj=some F_s_l05Obj:=by kernel_rfl
abbrev n_s_l05Key:Nat:=84
def F_s_l05Key:Fn1:=⟨6,[.t 2],(.seq (.reg [o 2 (.mov (.k (.str ⟨#[]⟩)))]) (.seq (.reg [o 3 (.mov (.t 0)),o 4 (.lit 1 3 [(.str ⟨#[]⟩),(.str ⟨#[]⟩),(.str ⟨#[]⟩)] [(0,1,(.k (.str ⟨#[120]⟩))),(1,1,(.k (.str ⟨#[121]⟩))),(2,1,(.k (.str ⟨#[122,111,111]⟩)))]),o 5 (.call 82 [(.t 3),(.t 4)]),o 2 (.mov (.t 5))]) .ret))⟩
theorem ir_s_l05Key:compFn Try.prog n_s_l05Key=some F_s_l05Key:=by kernel_rfl
abbrev n_s_l04Dot:Nat:=65
def F_s_l04Dot:Fn1:=⟨9,[.c 2 true 2],(.seq (.reg [o 2 (.new [(.int .i64 0),(.int .i64 0)])]) (.seq (.reg [o 3 (.mov (.t 0)),o 4 (.call 30 [(.t 3),(.k (.int .i64 3))]),o 5 (.mov (.t 0)),o 6 (.call 30 [(.t 5),(.k (.int .i64 5))]),o 7 (.bin .add (.k (.int .i64 1)) (.t 6)),o 8 (.build [(.int .i64 0),(.int .i64 0)] [(0,1,(.t 4)),(1,1,(.t 7))]),on (.st 2 (.t 2) (.t 8))]) .ret))⟩
abbrev n_s_l04AnyDot:Nat:=45
def F_s_l04AnyDot:Fn1:=⟨21,[.c 2 true 2],(.seq (.reg [o 2 (.new [(.int .i64 0),(.int .i64 0)])]) (.seq (.reg [o 4 (.mov (.t 0)),o 5 (.call 65 [(.t 4)]),o 3 (.new [(.int .i64 0),(.int .i64 0)]),on (.st 2 (.t 3) (.t 5))]) (.seq (.seq (.reg [o 6 (.mov (.t 0)),o 7 (.call 30 [(.t 6),(.k (.int .i64 10))])]) (.blk 0 (.seq (.reg [o 9 (.bin .eql (.t 7) (.k (.int .i64 0))),o 8 (.mov (.t 9))]) (.cnd (.t 8) (.reg [o 10 (.mov (.t 0)),o 11 (.lit 1 2 [(.int .i64 0),(.int .i64 0)] [(0,1,(.k (.int .i64 (-1)))),(1,1,(.k (.int .i64 3)))]),o 12 (.call 66 [(.t 10),(.t 11)]),o 13 (.fad 0 (.t 3)),on (.st 1 (.t 13) (.t 12))]) (.seq (.reg [o 15 (.bin .eql (.t 7) (.k (.int .i64 1))),o 14 (.mov (.t 15))]) (.cnd (.t 14) (.reg [o 16 (.mov (.t 0)),o 17 (.lit 1 3 [(.int .i64 0),(.int .i64 0),(.int .i64 0)] [(0,1,(.k (.int .i64 0))),(1,1,(.k (.int .i64 1000))),(2,1,(.k (.int .i64 1001)))]),o 18 (.call 66 [(.t 16),(.t 17)]),o 19 (.fad 1 (.t 3)),on (.st 1 (.t 19) (.t 18))]) .skip)))))) (.seq (.reg [o 20 (.ld true 2 (.t 3)),on (.st 2 (.t 2) (.t 20))]) .ret))))⟩
abbrev n_s_l04Any:Nat:=67
def F_s_l04Any:Fn1:=⟨23,[.t 2],(.seq (.reg [o 2 (.mov (.k .nilS))]) (.seq (.reg [o 5 (.mov (.t 0)),o 6 (.call 30 [(.t 5),(.k (.int .i64 12))]),o 3 (.mov (.t 6))]) (.seq (.reg [o 7 (.mov (.t 0)),o 8 (.call 68 [(.t 7)]),o 4 (.mov (.t 8))]) (.seq (.seq (.reg [o 9 (.mov (.t 3))]) (.blk 0 (.seq (.reg [o 11 (.bin .eql (.t 9) (.k (.int .i64 0))),o 10 (.mov (.t 11))]) (.cnd (.t 10) (.reg [o 12 (.mov (.t 4)),o 13 (.lit 1 1 [(.int .i64 0)] [(0,1,(.k (.int .i64 1)))]),o 14 (.app 1 8 [(.int .i64 0)] (.t 12) (.t 13)),o 4 (.mov (.t 14))]) (.seq (.reg [o 16 (.bin .eql (.t 9) (.k (.int .i64 1))),o 15 (.mov (.t 16))]) (.cnd (.t 15) (.reg [o 17 (.mov (.t 4)),o 18 (.mov (.t 0)),o 19 (.lit 1 3 [(.int .i64 0),(.int .i64 0),(.int .i64 0)] [(0,1,(.k (.int .i64 (-1)))),(1,1,(.k (.int .i64 1000))),(2,1,(.k (.int .i64 1001)))]),o 20 (.call 66 [(.t 18),(.t 19)]),o 21 (.iad 1 (.t 17) (.k (.int .i64 0))),on (.st 1 (.t 21) (.t 20))]) .skip)))))) (.seq (.reg [o 22 (.mov (.t 4)),o 2 (.mov (.t 22))]) .ret)))))⟩
abbrev n_s_l09Edit:Nat:=69
def F_s_l09Edit:Fn1:=⟨30,[.c 2 true 5],(.seq (.reg [o 2 (.new [(.int .i64 0),(.str ⟨#[]⟩),(.str ⟨#[]⟩),(.int .i64 0),(.int .i64 0)])]) (.seq (.reg [o 4 (.mov (.t 0)),o 5 (.lit 1 9 [(.int .i64 0),(.int .i64 0),(.int .i64 0),(.int .i64 0),(.int .i64 0),(.int .i64 0),(.int .i64 0),(.int .i64 0),(.int .i64 0)] [(0,1,(.k (.int .i64 1))),(1,1,(.k (.int .i64 2))),(2,1,(.k (.int .i64 3))),(3,1,(.k (.int .i64 4))),(4,1,(.k (.int .i64 5))),(5,1,(.k (.int .i64 6))),(6,1,(.k (.int .i64 6))),(7,1,(.k (.int .i64 6))),(8,1,(.k (.int .i64 7)))]),o 6 (.call 66 [(.t 4),(.t 5)]),o 7 (.mov (.t 0)),o 8 (.call 64 [(.t 7)]),o 9 (.build [(.int .i64 0),(.str ⟨#[]⟩),(.str ⟨#[]⟩),(.int .i64 0),(.int .i64 0)] [(0,1,(.t 6)),(1,1,(.t 8))]),o 3 (.new [(.int .i64 0),(.str ⟨#[]⟩),(.str ⟨#[]⟩),(.int .i64 0),(.int .i64 0)]),on (.st 5 (.t 3) (.t 9))]) (.seq (.seq (.reg [o 10 (.fad 0 (.t 3)),o 11 (.ld false 1 (.t 10)),o 12 (.call 83 [(.t 11)])]) (.cnd (.t 12) (.reg [o 13 (.mov (.t 0)),o 14 (.call 84 [(.t 13)]),o 15 (.fad 2 (.t 3)),on (.st 1 (.t 15) (.t 14))]) .skip)) (.seq (.seq (.reg [o 16 (.fad 0 (.t 3)),o 17 (.ld false 1 (.t 16)),o 18 (.call 85 [(.t 17)])]) (.cnd (.t 18) (.reg [o 19 (.mov (.t 0)),o 20 (.lit 1 4 [(.int .i64 0),(.int .i64 0),(.int .i64 0),(.int .i64 0)] [(0,1,(.k (.int .i64 0))),(1,1,(.k (.int .i64 1))),(2,1,(.k (.int .i64 7))),(3,1,(.k (.int .i64 999999)))]),o 21 (.call 66 [(.t 19),(.t 20)]),o 22 (.fad 3 (.t 3)),on (.st 1 (.t 22) (.t 21))]) .skip)) (.seq (.seq (.reg [o 23 (.fad 0 (.t 3)),o 24 (.ld false 1 (.t 23)),o 25 (.bin .geq (.t 24) (.k (.int .i64 6)))]) (.cnd (.t 25) (.reg [o 26 (.mov (.t 0)),o 27 (.call 30 [(.t 26),(.k (.int .i64 3))]),o 28 (.fad 4 (.t 3)),on (.st 1 (.t 28) (.t 27))]) .skip)) (.seq (.reg [o 29 (.ld true 5 (.t 3)),on (.st 5 (.t 2) (.t 29))]) .ret))))))⟩
theorem ir_s_l09Edit:compFn Try.prog n_s_l09Edit=some F_s_l09Edit:=by kernel_rfl
section
variable {P:Program} {D:Bool} {σ0 σ τ τ':St} {h:List Item} {k:Kx} {f:Nat} {args:List GV} {v:GV}
theorem by_k (R:Ret P f args τ v τ') (H:Hx σ τ' h) (kk:k v h τ'):callX P σ false τ f args k:=by_m R H kk
theorem frX_len:∀ {h:List Item} {n:Nat},frX σ0 h n→σ0.length≤n
 |[],_,h=>h
 | .box _ _ _::h,_,hf=>frX_len (h:=h) hf.2
 | .th _::h,_,hf=>frX_len (h:=h) hf
theorem Hx.tl {x:Item} (H:Hx σ τ (x::h)):Hx σ τ h:=Hp.drop1 H
end
structure Dr (σ0:St) (v:GV) (bs:List Int):Prop where
 hv:RS pB.kd σ0 v bs
 hl:bs.length≤1099511627776
abbrev cuI (c v:GV) (bs:List Int):Item:=.th (crs c v bs.length)
section
variable {σ0 σ:St} {h:List Item} {c v:GV} {bs:List Int}
theorem below_x (H:Hx σ0 σ h) (k:Nat) (hk:h[k]? =some (cuI c v bs)) (D:Dr σ0 v bs) (n:Int) (hn:0<n) (hn2:n≤4611686018427387904):∃(x:Nat) (τ:St),(x:Int)<n∧Ret Try.prog n_s_l01Below [c,gi n] σ (gi x) τ∧Hx σ0 τ h:=by
 obtain⟨r,τ,R,x,rfl,h1,_,h2,H'⟩:=s_l01Below_ret (σ0:=σ0) H (at_t hk) D.hv D.hl n hn2
 obtain⟨y,rfl⟩:∃ y:Nat,x=y:=⟨x.toNat,by omega⟩
 exact⟨y,τ,h2 hn,R,H'⟩
theorem s_l01Pick_ret (H:Hx σ0 σ h) (k:Nat) (hk:h[k]? =some (cuI c v bs)) (D:Dr σ0 v bs) {u:GV} {l:List ByteArray} (hu:∀ τ',Hx σ0 τ' h→RS pS.kd τ' u l) (hl:0<l.length) (hl2:l.length≤1000):∃(s:ByteArray) (τ:St),s∈l∧Ret Try.prog n_s_l01Pick [c,u] σ (.str s) τ∧Hx σ0 τ h:=by
 have key:∃ w τ,Ret Try.prog n_s_l01Pick [c,u] σ w τ∧∃ s,w= .str s∧s∈l∧Hx σ0 τ h:=by
  refine ret_x ir_s_l01Pick (Nat.le_of_ble_eq_true rfl) H ?_
  have hn:=(hu σ H).len
  simp +contextual (disch:=omega) only[go_sem,F_s_l01Pick,hn]
  obtain⟨x,τ1,hx,R1,H1⟩:=below_x H k hk D l.length (by omega) (by omega)
  refine by_k R1 H1 ?_
  have L:=str_at (hu τ1 H1) (i:=x) (by omega)
  have L2:=ldX_own H1 L.2
  simp +contextual (disch:=omega) only[go_sem,natOf_nat,L.1,L2]
  exact fun _=>⟨_,rfl,_,rfl,List.getElem_mem _⟩
 obtain⟨w,τ,R,s,rfl,hs,H'⟩:=key
 exact⟨s,τ,hs,R,H'⟩
theorem s_l01PickInt_ret (H:Hx σ0 σ h) (k:Nat) (hk:h[k]? =some (cuI c v bs)) (D:Dr σ0 v bs) {u:GV} {l:List Int} (hu:∀ τ',Hx σ0 τ' h→RS pI.kd τ' u l) (hl:0<l.length) (hl2:l.length≤1000):∃(s:Int) (τ:St),s∈l∧Ret Try.prog n_s_l01PickInt [c,u] σ (gi s) τ∧Hx σ0 τ h:=by
 have key:∃ w τ,Ret Try.prog n_s_l01PickInt [c,u] σ w τ∧∃ s,w=gi s∧s∈l∧Hx σ0 τ h:=by
  refine ret_x ir_s_l01PickInt (Nat.le_of_ble_eq_true rfl) H ?_
  have hn:=(hu σ H).len
  simp +contextual (disch:=omega) only[go_sem,F_s_l01PickInt,hn]
  obtain⟨x,τ1,hx,R1,H1⟩:=below_x H k hk D l.length (by omega) (by omega)
  refine by_k R1 H1 ?_
  have L:=int_at (hu τ1 H1) (i:=x) (by omega)
  have L2:=ldX_own H1 L.2
  simp +contextual (disch:=omega) only[go_sem,natOf_nat,L.1,L2]
  exact fun _=>⟨_,rfl,_,rfl,List.getElem_mem _⟩
 obtain⟨w,τ,R,s,rfl,hs,H'⟩:=key
 exact⟨s,τ,hs,R,H'⟩
theorem litS {n:Nat} {l:List ByteArray} {cs:List GV} (e:cs=pS.cells l) (hl:0<l.length):∀ τ,Hx σ0 τ (.box 1 n cs::h)→RS pS.kd τ (.sl n 0 l.length) l:=fun τ H=>(Hp.toRow (p:=pS) H.hp 0 (by rw[e];rfl) l rfl rfl _ rfl).sl 0 rfl
theorem litI {n:Nat} {l:List Int} {cs:List GV} (e:cs=pI.cells l) (hl:0<l.length):∀ τ,Hx σ0 τ (.box 1 n cs::h)→RS pI.kd τ (.sl n 0 l.length) l:=fun τ H=>(Hp.toRow (p:=pI) H.hp 0 (by rw[e];rfl) l rfl rfl _ rfl).sl 0 rfl
def objsL:List ByteArray:=[⟨#[97]⟩,⟨#[98]⟩,⟨#[116,97,108,108,121]⟩]
def keysL:List ByteArray:=[⟨#[120]⟩,⟨#[121]⟩,⟨#[122,111,111]⟩]
theorem s_l05Obj_ret (H:Hx σ0 σ h) (k:Nat) (hk:h[k]? =some (cuI c v bs)) (D:Dr σ0 v bs):∃(s:ByteArray) (τ:St),s∈objsL∧Ret Try.prog n_s_l05Obj [c] σ (.str s) τ∧Hx σ0 τ h:=by
 have key:∃ w τ,Ret Try.prog n_s_l05Obj [c] σ w τ∧∃ s,w= .str s∧s∈objsL∧Hx σ0 τ h:=by
  refine ret_x ir_s_l05Obj (Nat.le_of_ble_eq_true rfl) H ?_
  simp +contextual (disch:=omega) only[go_sem,F_s_l05Obj]
  intro n1 f1 τ1 H1
  have g1:=frX_len (by first|exact f1|exact f1.2|exact f1.2.2|exact f1.2.2.2:frX σ0 h n1)
  obtain⟨s,τ2,hs,R2,H2⟩:=s_l01Pick_ret H1 (k+1) hk D (litS (l:=objsL) rfl (by decide)) (by decide) (by decide)
  refine by_k R2 H2 ?_
  simp +contextual (disch:=omega) only[go_sem]
  exact fun _=>⟨_,rfl,_,rfl,hs,H2.tl⟩
 obtain⟨w,τ,R,s,rfl,hs,H'⟩:=key
 exact⟨s,τ,hs,R,H'⟩
theorem s_l05Key_ret (H:Hx σ0 σ h) (k:Nat) (hk:h[k]? =some (cuI c v bs)) (D:Dr σ0 v bs):∃(s:ByteArray) (τ:St),s∈keysL∧Ret Try.prog n_s_l05Key [c] σ (.str s) τ∧Hx σ0 τ h:=by
 have key:∃ w τ,Ret Try.prog n_s_l05Key [c] σ w τ∧∃ s,w= .str s∧s∈keysL∧Hx σ0 τ h:=by
  refine ret_x ir_s_l05Key (Nat.le_of_ble_eq_true rfl) H ?_
  simp +contextual (disch:=omega) only[go_sem,F_s_l05Key]
  intro n1 f1 τ1 H1
  have g1:=frX_len (by first|exact f1|exact f1.2|exact f1.2.2|exact f1.2.2.2:frX σ0 h n1)
  obtain⟨s,τ2,hs,R2,H2⟩:=s_l01Pick_ret H1 (k+1) hk D (litS (l:=keysL) rfl (by decide)) (by decide) (by decide)
  refine by_k R2 H2 ?_
  simp +contextual (disch:=omega) only[go_sem]
  exact fun _=>⟨_,rfl,_,rfl,hs,H2.tl⟩
 obtain⟨w,τ,R,s,rfl,hs,H'⟩:=key
 exact⟨s,τ,hs,R,H'⟩
structure EdD (e:Edit):Prop where
 kind:1≤e.kind∧e.kind≤7
 obj:e.obj∈objsL
 key:if keyed e.kind then e.key∈keysL else e.key=noS
 val:e.val=0∨(valued e.kind=true∧e.val∈[0,1,7,999999])
 place:0≤e.place∧e.place≤2∧(e.kind<6→e.place=0)
theorem objs_ok {s:ByteArray} (h:s∈objsL):nameOk s=true∧s.size≤5:=by
 simp only[objsL,List.mem_cons,List.not_mem_nil,or_false] at h
 rcases h with rfl|rfl|rfl<;>decide
theorem keys_ok {s:ByteArray} (h:s∈keysL):nameOk s=true∧s.size≤3:=by
 simp only[keysL,List.mem_cons,List.not_mem_nil,or_false] at h
 rcases h with rfl|rfl|rfl<;>decide
theorem EdD.size {e:Edit} (h:EdD e):e.obj.size≤5∧e.key.size≤3:=by
 refine⟨(objs_ok h.obj).2,?_⟩
 have:=h.key
 split at this
 ·exact(keys_ok this).2
 ·rw[this];decide
theorem EdD.ok {e:Edit} (h:EdD e):editOk e=true:=by
 have h1:inB e.kind 1 7=true:=inB_iff.2 h.kind
 have h2:nameOk e.obj=true:=(objs_ok h.obj).1
 have h3:(if keyed e.kind then nameOk e.key else decide (e.key=noS))=true:=by
  have:=h.key
  split at this
  ·rename_i hk;rw[if_pos hk];exact(keys_ok this).1
  ·rename_i hk;rw[if_neg hk];simp[this]
 have h4:valOk e.kind e.val=true:=by
  unfold valOk
  rcases h.val with h|⟨hv,h⟩
  ·simp[h]
  ·have:inB e.val 0 999999=true:=by
    simp only[List.mem_cons,List.not_mem_nil,or_false] at h
    rcases h with h|h|h|h<;>rw[h]<;>decide
   simp[hv,this]
 have h5:decide (0≤e.place)=true:=decide_eq_true h.place.1
 have h6:((e.kind==6||e.kind==7)||e.place==0)=true:=by
  by_cases hk:e.kind<6
  ·simp[h.place.2.2 hk]
  ·have:=h.kind
   have:e.kind=6∨e.kind=7:=by omega
   rcases this with h|h<;>simp[h]
 unfold editOk plainOk
 rw[h1,h2,h3,h4,h5,h6];rfl
set_option maxHeartbeats 1000000 in
theorem s_l09Edit_ret (H:Hx σ0 σ h) (k:Nat) (hk:h[k]? =some (cuI c v bs)) (D:Dr σ0 v bs):∃(e:Edit) (τ:St),EdD e∧Ret Try.prog n_s_l09Edit [c] σ (.agg (edV e)) τ∧Hx σ0 τ h:=by
 have key:∃ w τ,Ret Try.prog n_s_l09Edit [c] σ w τ∧∃ e:Edit,w= .agg (edV e)∧EdD e∧Hx σ0 τ h:=by
  refine ret_x ir_s_l09Edit (Nat.le_of_ble_eq_true rfl) H ?_
  simp +contextual (disch:=omega) only[go_sem,F_s_l09Edit]
  intro n1 f1 τ1 H1 n2 f2 τ2 H2
  have g1:=frX_len (by first|exact f1|exact f1.2|exact f1.2.2|exact f1.2.2.2:frX σ0 h n1)
  have g2:=frX_len (by first|exact f2|exact f2.2|exact f2.2.2|exact f2.2.2.2:frX σ0 h n2)
  obtain⟨kd,τ3,hkd,R3,H3⟩:=s_l01PickInt_ret H2 (k+2) hk D (litI (l:=[1,2,3,4,5,6,6,6,7]) rfl (by decide)) (by decide) (by decide)
  have hkd:1≤kd∧kd≤7:=by
   simp only[List.mem_cons,List.not_mem_nil,or_false] at hkd
   omega
  refine by_k R3 H3 ?_
  simp +contextual (disch:=omega) only[go_sem]
  obtain⟨ob,τ4,hob,R4,H4⟩:=s_l05Obj_ret H3 (k+2) hk D
  refine by_k R4 H4 ?_
  simp +contextual (disch:=omega) only[go_sem]
  intro n5 f5 τ5 H5 τ6 H6
  have g5:=frX_len (by first|exact f5|exact f5.2|exact f5.2.2|exact f5.2.2.2:frX σ0 h n5)
  refine by_r H6 (s_Keyed_ret _ kd) ?_
  cases hk1:keyed kd with
  |true=>
   cases hv1:valued kd with
   |true=>
    cases hp1:decide (6≤kd) with
    |true=>
     simp +contextual (disch:=omega) only[go_sem,hk1,hv1,hp1]
     obtain⟨ky,τ7,hky,R7,H7⟩:=s_l05Key_ret H6 (k+3) hk D
     refine by_k R7 H7 ?_
     simp +contextual (disch:=omega) only[go_sem,hk1,hv1,hp1]
     intro τ8 H8
     refine by_r H8 (s_Valued_ret _ kd) ?_
     simp +contextual (disch:=omega) only[go_sem,hk1,hv1,hp1]
     intro n9 f9 τ9 H9
     have g9:=frX_len (by first|exact f9|exact f9.2|exact f9.2.2|exact f9.2.2.2:frX σ0 h n9)
     obtain⟨vl,τ10,hvl,R10,H10⟩:=s_l01PickInt_ret H9 (k+4) hk D (litI (l:=[0,1,7,999999]) rfl (by decide)) (by decide) (by decide)
     refine by_k R10 H10 ?_
     simp +contextual (disch:=omega) only[go_sem,hk1,hv1,hp1]
     intro τ11 H11
     try simp +contextual (disch:=omega) only[go_sem,hk1,hv1,hp1]
     obtain⟨pl,τ12,hpl,R12,H12⟩:=below_x H11 (k+4) hk D 3 (by decide) (by decide)
     refine by_k R12 H12 ?_
     simp +contextual (disch:=omega) only[go_sem,hk1,hv1,hp1]
     intro τ13 H13
     intro τ14 H14
     exact⟨_,rfl,⟨kd,ob,ky,vl,pl⟩,rfl,⟨hkd,hob,by simp only[hk1];exact hky,.inr ⟨hv1,hvl⟩,by simp only[decide_eq_true_eq,decide_eq_false_iff_not] at hp1;refine⟨by simp,by simp;try omega,fun h=> ?_⟩;simp only at h;first|rfl|omega⟩,H14.tl.tl.tl.tl⟩
    |false=>
     simp +contextual (disch:=omega) only[go_sem,hk1,hv1,hp1]
     obtain⟨ky,τ7,hky,R7,H7⟩:=s_l05Key_ret H6 (k+3) hk D
     refine by_k R7 H7 ?_
     simp +contextual (disch:=omega) only[go_sem,hk1,hv1,hp1]
     intro τ8 H8
     refine by_r H8 (s_Valued_ret _ kd) ?_
     simp +contextual (disch:=omega) only[go_sem,hk1,hv1,hp1]
     intro n9 f9 τ9 H9
     have g9:=frX_len (by first|exact f9|exact f9.2|exact f9.2.2|exact f9.2.2.2:frX σ0 h n9)
     obtain⟨vl,τ10,hvl,R10,H10⟩:=s_l01PickInt_ret H9 (k+4) hk D (litI (l:=[0,1,7,999999]) rfl (by decide)) (by decide) (by decide)
     refine by_k R10 H10 ?_
     simp +contextual (disch:=omega) only[go_sem,hk1,hv1,hp1]
     intro τ11 H11
     try simp +contextual (disch:=omega) only[go_sem,hk1,hv1,hp1]
     intro τ14 H14
     exact⟨_,rfl,⟨kd,ob,ky,vl,0⟩,rfl,⟨hkd,hob,by simp only[hk1];exact hky,.inr ⟨hv1,hvl⟩,by simp only[decide_eq_true_eq,decide_eq_false_iff_not] at hp1;refine⟨by simp,by simp;try omega,fun h=> ?_⟩;simp only at h;first|rfl|omega⟩,H14.tl.tl.tl.tl⟩
   |false=>
    cases hp1:decide (6≤kd) with
    |true=>
     simp +contextual (disch:=omega) only[go_sem,hk1,hv1,hp1]
     obtain⟨ky,τ7,hky,R7,H7⟩:=s_l05Key_ret H6 (k+3) hk D
     refine by_k R7 H7 ?_
     simp +contextual (disch:=omega) only[go_sem,hk1,hv1,hp1]
     intro τ8 H8
     refine by_r H8 (s_Valued_ret _ kd) ?_
     simp +contextual (disch:=omega) only[go_sem,hk1,hv1,hp1]
     obtain⟨pl,τ12,hpl,R12,H12⟩:=below_x H8 (k+3) hk D 3 (by decide) (by decide)
     refine by_k R12 H12 ?_
     simp +contextual (disch:=omega) only[go_sem,hk1,hv1,hp1]
     intro τ13 H13
     intro τ14 H14
     exact⟨_,rfl,⟨kd,ob,ky,0,pl⟩,rfl,⟨hkd,hob,by simp only[hk1];exact hky,.inl rfl,by simp only[decide_eq_true_eq,decide_eq_false_iff_not] at hp1;refine⟨by simp,by simp;try omega,fun h=> ?_⟩;simp only at h;first|rfl|omega⟩,H14.tl.tl.tl⟩
    |false=>
     simp +contextual (disch:=omega) only[go_sem,hk1,hv1,hp1]
     obtain⟨ky,τ7,hky,R7,H7⟩:=s_l05Key_ret H6 (k+3) hk D
     refine by_k R7 H7 ?_
     simp +contextual (disch:=omega) only[go_sem,hk1,hv1,hp1]
     intro τ8 H8
     refine by_r H8 (s_Valued_ret _ kd) ?_
     simp +contextual (disch:=omega) only[go_sem,hk1,hv1,hp1]
     intro τ14 H14
     exact⟨_,rfl,⟨kd,ob,ky,0,0⟩,rfl,⟨hkd,hob,by simp only[hk1];exact hky,.inl rfl,by simp only[decide_eq_true_eq,decide_eq_false_iff_not] at hp1;refine⟨by simp,by simp;try omega,fun h=> ?_⟩;simp only at h;first|rfl|omega⟩,H14.tl.tl.tl⟩
  |false=>
   cases hv1:valued kd with
   |true=>
    cases hp1:decide (6≤kd) with
    |true=>
     simp +contextual (disch:=omega) only[go_sem,hk1,hv1,hp1]
     refine by_r H6 (s_Valued_ret _ kd) ?_
     simp +contextual (disch:=omega) only[go_sem,hk1,hv1,hp1]
     intro n9 f9 τ9 H9
     have g9:=frX_len (by first|exact f9|exact f9.2|exact f9.2.2|exact f9.2.2.2:frX σ0 h n9)
     obtain⟨vl,τ10,hvl,R10,H10⟩:=s_l01PickInt_ret H9 (k+4) hk D (litI (l:=[0,1,7,999999]) rfl (by decide)) (by decide) (by decide)
     refine by_k R10 H10 ?_
     simp +contextual (disch:=omega) only[go_sem,hk1,hv1,hp1]
     intro τ11 H11
     try simp +contextual (disch:=omega) only[go_sem,hk1,hv1,hp1]
     obtain⟨pl,τ12,hpl,R12,H12⟩:=below_x H11 (k+4) hk D 3 (by decide) (by decide)
     refine by_k R12 H12 ?_
     simp +contextual (disch:=omega) only[go_sem,hk1,hv1,hp1]
     intro τ13 H13
     intro τ14 H14
     exact⟨_,rfl,⟨kd,ob,noS,vl,pl⟩,rfl,⟨hkd,hob,by simp only[hk1];simp,.inr ⟨hv1,hvl⟩,by simp only[decide_eq_true_eq,decide_eq_false_iff_not] at hp1;refine⟨by simp,by simp;try omega,fun h=> ?_⟩;simp only at h;first|rfl|omega⟩,H14.tl.tl.tl.tl⟩
    |false=>
     simp +contextual (disch:=omega) only[go_sem,hk1,hv1,hp1]
     refine by_r H6 (s_Valued_ret _ kd) ?_
     simp +contextual (disch:=omega) only[go_sem,hk1,hv1,hp1]
     intro n9 f9 τ9 H9
     have g9:=frX_len (by first|exact f9|exact f9.2|exact f9.2.2|exact f9.2.2.2:frX σ0 h n9)
     obtain⟨vl,τ10,hvl,R10,H10⟩:=s_l01PickInt_ret H9 (k+4) hk D (litI (l:=[0,1,7,999999]) rfl (by decide)) (by decide) (by decide)
     refine by_k R10 H10 ?_
     simp +contextual (disch:=omega) only[go_sem,hk1,hv1,hp1]
     intro τ11 H11
     try simp +contextual (disch:=omega) only[go_sem,hk1,hv1,hp1]
     intro τ14 H14
     exact⟨_,rfl,⟨kd,ob,noS,vl,0⟩,rfl,⟨hkd,hob,by simp only[hk1];simp,.inr ⟨hv1,hvl⟩,by simp only[decide_eq_true_eq,decide_eq_false_iff_not] at hp1;refine⟨by simp,by simp;try omega,fun h=> ?_⟩;simp only at h;first|rfl|omega⟩,H14.tl.tl.tl.tl⟩
   |false=>
    cases hp1:decide (6≤kd) with
    |true=>
     simp +contextual (disch:=omega) only[go_sem,hk1,hv1,hp1]
     refine by_r H6 (s_Valued_ret _ kd) ?_
     simp +contextual (disch:=omega) only[go_sem,hk1,hv1,hp1]
     obtain⟨pl,τ12,hpl,R12,H12⟩:=below_x H6 (k+3) hk D 3 (by decide) (by decide)
     refine by_k R12 H12 ?_
     simp +contextual (disch:=omega) only[go_sem,hk1,hv1,hp1]
     intro τ13 H13
     intro τ14 H14
     exact⟨_,rfl,⟨kd,ob,noS,0,pl⟩,rfl,⟨hkd,hob,by simp only[hk1];simp,.inl rfl,by simp only[decide_eq_true_eq,decide_eq_false_iff_not] at hp1;refine⟨by simp,by simp;try omega,fun h=> ?_⟩;simp only at h;first|rfl|omega⟩,H14.tl.tl.tl⟩
    |false=>
     simp +contextual (disch:=omega) only[go_sem,hk1,hv1,hp1]
     refine by_r H6 (s_Valued_ret _ kd) ?_
     simp +contextual (disch:=omega) only[go_sem,hk1,hv1,hp1]
     intro τ14 H14
     exact⟨_,rfl,⟨kd,ob,noS,0,0⟩,rfl,⟨hkd,hob,by simp only[hk1];simp,.inl rfl,by simp only[decide_eq_true_eq,decide_eq_false_iff_not] at hp1;refine⟨by simp,by simp;try omega,fun h=> ?_⟩;simp only at h;first|rfl|omega⟩,H14.tl.tl.tl⟩
 obtain⟨w,τ,R,e,rfl,he,H'⟩:=key
 exact⟨e,τ,he,R,H'⟩
end
end Go.Proofs.Ytbeoiejnogdkpaa.Sy
namespace Go.Proofs.Ytbeoiejnogdkpaa.Sy
open Go Go.RowKit
set_option linter.unusedSimpArgs false
set_option linter.unusedVariables false
set_option maxRecDepth 4000
def stepE (s:State) (rep t:Int) (e:Edit):State×Int:=if(actOf s rep t e).2=0 then doAct s (actOf s rep t e).1 else(s,(actOf s rep t e).2)
def runE (s:State) (rep t:Int) (es:List Edit):Nat→State×Int
 |0=>(s,0)
 |i+1=>if(runE s rep t es i).2=0 then(if h:i<es.length then stepE (runE s rep t es i).1 rep (IntKind.i64.wrap (t+i)) es[i] else runE s rep t es i) else runE s rep t es i
def doEdits (s:State) (rep t:Int) (es:List Edit):State×Int:=runE s rep t es es.length
end Go.Proofs.Ytbeoiejnogdkpaa.Sy
namespace Go.Proofs.Ytbeoiejnogdkpaa.Sy
open Go Go.RowKit
set_option linter.unusedSimpArgs false
set_option linter.unusedVariables false
structure OkS (s:State):Prop where
 kn:okK s.know=true
 tl:s.tallies.Pairwise fun a b=>tallyLt a b=true
 t1:∀ t∈s.tallies,tal1 t=true
 tn:s.tallies.length≤120
 ll:s.lives.Pairwise fun a b=>dotLt a.dot b.dot=true
 l1:∀ x∈s.lives,knows s.know x.dot=true∧liv1 x=true
 ln:s.lives.length≤120
 cl:s.cells.Pairwise fun a b=>dotLt a.dot b.dot=true
 c1:∀ x∈s.cells,knows s.know x.dot=true∧cel1 x=true
 cn:s.cells.length≤120
 rf:∀ c∈s.cells,c.ref=d0∨∃ y∈s.cells,y.dot=c.ref∧y.obj=c.obj∧y.time<c.time
theorem up_pairs {α:Type} {lt:α→α→Bool} {l:List α} (h:l.Pairwise fun a b=>lt a b=true) (i:Nat) (hi:i<l.length):upI lt l i=true:=by
 by_cases h0:i=0
 ·subst h0;rfl
 ·rw[upI_at h0 hi (by omega)]
  exact List.pairwise_iff_getElem.1 h (i - 1) i (by omega) hi (by omega)
theorem onI_all {α:Type} {l:List α} {p:α→Bool}:(∀ i,i<l.length→onI l i p=true)↔∀ x∈l,p x=true:=by
 constructor
 ·intro h x hx
  obtain⟨i,hi,rfl⟩:=List.getElem_of_mem hx
  have:=h i hi
  rwa [onI_at hi] at this
 ·intro h i hi
  rw[onI_at hi];exact h _ (List.getElem_mem hi)
theorem dot_uniq {l:List Cell} (h:l.Pairwise fun a b=>dotLt a.dot b.dot=true) {x y:Cell} (hx:x∈l) (hy:y∈l) (e:x.dot=y.dot):x=y:=by
 obtain⟨i,hi,rfl⟩:=List.getElem_of_mem hx
 obtain⟨j,hj,rfl⟩:=List.getElem_of_mem hy
 rcases Nat.lt_trichotomy i j with h1|h1|h1
 ·have:=List.pairwise_iff_getElem.1 h i j hi hj h1
  rw[e,dotLt_irr] at this;cases this
 ·subst h1;rfl
 ·have:=List.pairwise_iff_getElem.1 h j i hj hi h1
  rw[e,dotLt_irr] at this;cases this
theorem cellIx_mem {l:List Cell} (h:l.Pairwise fun a b=>dotLt a.dot b.dot=true) {y:Cell} (hy:y∈l):∃ k,cellIx l y.dot=some k∧∃ hk:k<l.length,l[k]=y:=by
 cases hc:cellIx l y.dot with
 |none=>
  exfalso
  have:=List.findIdx?_eq_none_iff.1 hc y hy
  simp at this
 |some k=>
  obtain⟨hk,e⟩:=cellIx_some hc
  exact⟨k,rfl,hk,dot_uniq h (List.getElem_mem hk) hy e⟩
theorem okS_iff {s:State}:stateOk s=true↔OkS s:=by
 unfold stateOk
 simp only[Bool.and_eq_true]
 constructor
 ·rintro⟨h1,h2,h3,h4,h5⟩
  have hc:=dots_up h4
  have hl:=lives_up h3
  simp only[talsOk,Bool.and_eq_true,allR_iff,talP,decide_eq_true_eq] at h2
  simp only[livsOk,Bool.and_eq_true,allR_iff,livP,decide_eq_true_eq] at h3
  simp only[celsOk,Bool.and_eq_true,allR_iff,celP,decide_eq_true_eq] at h4
  refine {kn:=h1,tl:=pairs_up (lt:=tallyLt) (fun a b c=>swo_tally.trans a b c) fun i hi=>(h2.1 i hi).2,t1:=onI_all.1 fun i hi=>(h2.1 i hi).1,tn:=h2.2,ll:=hl,l1:=fun x hx=>⟨onI_all.1 (fun i hi=>(h3.1 i hi).1) x hx,onI_all.1 (fun i hi=>(h3.1 i hi).2.1) x hx⟩,ln:=h3.2,cl:=hc,c1:=fun x hx=>⟨onI_all.1 (fun i hi=>(h4.1 i hi).1) x hx,onI_all.1 (fun i hi=>(h4.1 i hi).2.1) x hx⟩,cn:=h4.2,rf:=fun c hcm=> ?_}
  have:=List.all_eq_true.1 h5 c hcm
  unfold ref1 at this
  simp only[Bool.or_eq_true,decide_eq_true_eq] at this
  refine this.imp (fun h=>h) fun h=> ?_
  split at h
  ·cases h
  ·rename_i k hk
   obtain⟨hkl,e⟩:=cellIx_some hk
   rw[onI_at hkl] at h
   simp only[Bool.and_eq_true,decide_eq_true_eq] at h
   exact⟨_,List.getElem_mem hkl,e,h.1,h.2⟩
 ·intro h
  refine⟨h.kn,?_,?_,?_,?_⟩
  ·simp only[talsOk,Bool.and_eq_true,allR_iff,talP,decide_eq_true_eq]
   exact⟨fun i hi=>⟨onI_all.2 h.t1 i hi,up_pairs h.tl i hi⟩,h.tn⟩
  ·simp only[livsOk,Bool.and_eq_true,allR_iff,livP,decide_eq_true_eq]
   exact⟨fun i hi=>⟨onI_all.2 (fun x hx=>(h.l1 x hx).1) i hi,onI_all.2 (fun x hx=>(h.l1 x hx).2) i hi,up_pairs (lt:=liveLt) h.ll i hi⟩,h.ln⟩
  ·simp only[celsOk,Bool.and_eq_true,allR_iff,celP,decide_eq_true_eq]
   exact⟨fun i hi=>⟨onI_all.2 (fun x hx=>(h.c1 x hx).1) i hi,onI_all.2 (fun x hx=>(h.c1 x hx).2) i hi,up_pairs (lt:=cellLt) h.cl i hi⟩,h.cn⟩
  ·refine List.all_eq_true.2 fun c hc=> ?_
   unfold ref1
   simp only[Bool.or_eq_true,decide_eq_true_eq]
   refine(h.rf c hc).imp (fun h=>h) fun⟨y,hy,e1,e2,e3⟩=> ?_
   obtain⟨k,hk,hkl,ek⟩:=cellIx_mem h.cl hy
   rw[← e1,hk]
   simp only
   rw[onI_at hkl,ek]
   simp[e2,e3]
theorem insB_mem {α:Type} {lt:α→α→Bool} {x y:α} {l:List α}:y∈insB lt x l↔y=x∨y∈l:=by
 rw[(insB_perm lt x l).mem_iff,List.mem_cons]
theorem insB_pw {α:Type} {lt:α→α→Bool} (ht:∀ a b c,lt a b=true→lt b c=true→lt a c=true) {x:α}:∀ {l:List α},l.Pairwise (fun a b=>lt a b=true)→(∀ y∈l,lt x y=true∨lt y x=true)→(insB lt x l).Pairwise fun a b=>lt a b=true
 |[],_,_=>by simp[insB]
 |k::r,h,hx=>by
  obtain⟨h1,h2⟩:=List.pairwise_cons.1 h
  unfold insB
  split
  ·rename_i hk
   refine List.pairwise_cons.2 ⟨fun y hy=> ?_,h⟩
   rcases List.mem_cons.1 hy with rfl|hy
   ·exact hk
   ·exact ht _ _ _ hk (h1 y hy)
  ·rename_i hk
   refine List.pairwise_cons.2 ⟨fun y hy=> ?_,insB_pw ht h2 fun y hy=>hx y (List.mem_cons_of_mem _ hy)⟩
   rcases insB_mem.1 hy with rfl|hy
   ·exact(hx k List.mem_cons_self).resolve_left hk
   ·exact h1 y hy
theorem map_modify {α β:Type} {f:α→α} {g:α→β} (h:∀ x,g (f x)=g x):∀(l:List α) (k:Nat),(l.modify k f).map g=l.map g
 |[],k=>by simp
 |x::l,0=>by simp[h]
 |x::l,k+1=>by simp[List.modify_succ_cons,map_modify h l k]
theorem mem_modify {α:Type} {f:α→α}:∀ {l:List α} {k:Nat} {x:α},x∈l.modify k f→∃ y∈l,x=y∨x=f y
 |[],k,x,h=>by simp at h
 |y::l,0,x,h=>by
  simp only[List.modify_zero_cons,List.mem_cons] at h
  rcases h with h|h
  ·exact⟨y,List.mem_cons_self,.inr h⟩
  ·exact⟨x,List.mem_cons_of_mem _ h,.inl rfl⟩
 |y::l,k+1,x,h=>by
  simp only[List.modify_succ_cons,List.mem_cons] at h
  rcases h with h|h
  ·exact⟨y,List.mem_cons_self,.inl h⟩
  ·obtain⟨z,hz,e⟩:=mem_modify h
   exact⟨z,List.mem_cons_of_mem _ hz,e⟩
theorem modify_mem {α:Type} {f:α→α}:∀ {l:List α} {k:Nat} {y:α},y∈l→∃ x∈l.modify k f,x=y∨x=f y
 |[],k,x,h=>by simp at h
 |y::l,0,x,h=>by
  rcases List.mem_cons.1 h with rfl|h
  ·exact⟨f x,by simp,.inr rfl⟩
  ·exact⟨x,by simp[h],.inl rfl⟩
 |y::l,k+1,x,h=>by
  rcases List.mem_cons.1 h with rfl|h
  ·exact⟨x,by simp[List.modify_succ_cons],.inl rfl⟩
  ·obtain⟨z,hz,e⟩:=modify_mem (k:=k) h
   exact⟨z,by simp[List.modify_succ_cons,hz],e⟩
theorem at0_set {l:List Int} {r q:Int} {v:Int} (hr:0≤r) (hq:0≤q) (hl:r.toNat<l.length):at0 (l.set r.toNat v) q=if q=r then v else at0 l q:=by
 unfold at0
 rw[List.getD_eq_getElem?_getD,List.getD_eq_getElem?_getD,List.getElem?_set]
 by_cases h:q=r
 ·subst h;simp[hl]
 ·have:¬ r.toNat=q.toNat:=by omega
  rw[if_neg this,if_neg h]
structure Fits (s:State) (a:Act):Prop where
 dot:dotOk a.dot=true
 seq:a.dot.seq=at0 s.know a.dot.rep+1
 new:knows s.know a.dot=false
 kn:okK (s.know.set a.dot.rep.toNat a.dot.seq)=true
 mono:∀ d,knows s.know d=true→knows (s.know.set a.dot.rep.toNat a.dot.seq) d=true
 self:knows (s.know.set a.dot.rep.toNat a.dot.seq) a.dot=true
theorem kLe_at:∀ {a b:List Int},a.length=b.length→kLe a b=true→∀ i:Nat,a.getD i 0≤b.getD i 0:=by
 intro a
 induction a with
 |nil=>intro b hl _ i;cases b with
  |nil=>simp
  |cons _ _=>simp at hl
 |cons x a ih=>
  intro b hl h i
  cases b with
  |nil=>simp at hl
  |cons y b=>
   simp only[kLe,Bool.and_eq_true,decide_eq_true_eq] at h
   cases i with
   |zero=>simpa using h.1
   |succ i=>simpa using ih (by simpa using hl) h.2 i
theorem fits_of {s:State} {a:Act} (hs:okK s.know=true) (ha:actHead a=true) (hn:knows s.know a.dot=false) (hk:knowIn a.knew s.know=true):Fits s a:=by
 simp only[actHead,Bool.and_eq_true,decide_eq_true_eq] at ha
 obtain⟨h1,h2,h3,h4⟩:=ha
 simp only[knowIn,Bool.and_eq_true] at hk
 have hle:=kLe_at (by rw[okK_len hk.1,okK_len hs]) hk.2.2 a.dot.rep.toNat
 have hle:at0 a.knew a.dot.rep≤at0 s.know a.dot.rep:=hle
 have hd:=h1
 simp only[dotOk,Bool.and_eq_true,inB_iff] at hd
 have hnot:¬ a.dot.seq≤at0 s.know a.dot.rep:=by
  intro h
  have:knows s.know a.dot=true:=by unfold knows;rw[hs,h1];simpa using h
  rw[hn] at this;cases this
 have hlen:=okK_len hs
 have hr:a.dot.rep.toNat<s.know.length:=by omega
 have e:a.dot.seq=at0 s.know a.dot.rep+1:=by omega
 have hkn:okK (s.know.set a.dot.rep.toNat a.dot.seq)=true:=by
  simp only[okK,Bool.and_eq_true,List.all_eq_true,decide_eq_true_eq] at hs ⊢
  refine⟨fun x hx=> ?_,by rw[List.length_set];exact hs.2⟩
  rcases List.mem_or_eq_of_mem_set hx with h|h
  ·exact hs.1 x h
  ·rw[h];exact inB_iff.2 ⟨by omega,by omega⟩
 refine⟨h1,e,hn,hkn,fun d hd'=> ?_,?_⟩
 ·simp only[knows,Bool.and_eq_true,decide_eq_true_eq] at hd' ⊢
  refine⟨⟨hkn,hd'.1.2⟩,?_⟩
  have hq:=hd'.1.2
  simp only[dotOk,Bool.and_eq_true,inB_iff] at hq
  rw[at0_set (by omega) (by omega) hr]
  split
  ·rename_i hq2;rw[hq2] at hd';omega
  ·exact hd'.2
 ·simp only[knows,Bool.and_eq_true,decide_eq_true_eq]
  refine⟨⟨hkn,h1⟩,?_⟩
  rw[at0_set (by omega) (by omega) hr,if_pos rfl]
  omega
theorem talPut_ok {l:List Tally} {obj:ByteArray} {rep val:Int} (hp:l.Pairwise fun a b=>tallyLt a b=true) (h1:∀ t∈l,tal1 t=true) (hn:nameOk obj=true) (hr:inB rep 0 2=true) (hv:0≤val∧val≤999999):
  (talPut l obj rep val).Pairwise (fun a b=>tallyLt a b=true)∧∀ t∈talPut l obj rep val,tal1 t=true:=by
 unfold talPut
 split
 ·rename_i i hi
  constructor
  ·have e:((l.modify i fun t=>{t with sum:=addM t.sum val}).map fun t=>(⟨t.obj,t.rep,0⟩:Tally))=l.map fun t=>(⟨t.obj,t.rep,0⟩:Tally):=map_modify (f:=fun t=>{t with sum:=addM t.sum val}) (g:=fun t=>(⟨t.obj,t.rep,0⟩:Tally)) (fun _=>rfl) l i
   have h2:(l.map fun t=>(⟨t.obj,t.rep,0⟩:Tally)).Pairwise fun a b=>tallyLt a b=true:=List.pairwise_map.2 (hp.imp fun h=>h)
   rw[← e] at h2
   exact(List.pairwise_map.1 h2).imp fun h=>h
  ·intro t ht
   obtain⟨y,hy,e⟩:=mem_modify ht
   have hy1:=h1 y hy
   rcases e with rfl|rfl
   ·exact hy1
   ·simp only[tal1,Bool.and_eq_true,inB_iff] at hy1 ⊢
    refine⟨hy1.1,hy1.2.1,?_⟩
    unfold addM
    rw[Int.tmod_eq_emod_of_nonneg (by omega)]
    omega
 ·rename_i hi
  constructor
  ·refine insB_pw (fun a b c=>swo_tally.trans a b c) hp fun y hy=> ?_
   have:=List.findIdx?_eq_none_iff.1 hi y hy
   cases h2:tallyLt ⟨obj,rep,val⟩ y with
   |true=>exact .inl rfl
   |false=>
    cases h3:tallyLt y ⟨obj,rep,val⟩ with
    |true=>exact .inr rfl
    |false=>
     obtain⟨e1,e2⟩:=tally_tri h2 h3
     have:isTal obj rep y=true:=isTal_iff.2 ⟨e1.symm,e2.symm⟩
     simp_all
  ·intro t ht
   rcases insB_mem.1 ht with rfl|ht
   ·simp only[tal1,Bool.and_eq_true]
    exact⟨hn,hr,inB_iff.2 hv⟩
   ·exact h1 t ht
theorem dot_new {k:List Int} {a d:Dot} (hn:knows k a=false) (hd:knows k d=true):dotLt a d=true∨dotLt d a=true:=by
 cases h1:dotLt a d with
 |true=>exact .inl rfl
 |false=>
  cases h2:dotLt d a with
  |true=>exact .inr rfl
  |false=>rw[dotLt_tri h1 h2,hd] at hn;cases hn
theorem insLive_ok {l:List Live} {k k':List Int} {x:Live} (hp:l.Pairwise fun a b=>dotLt a.dot b.dot=true) (h1:∀ y∈l,knows k y.dot=true∧liv1 y=true) (hm:∀ d,knows k d=true→knows k' d=true) (hn:knows k x.dot=false) (hx:knows k' x.dot=true∧liv1 x=true):
  (insLive x l).Pairwise (fun a b=>dotLt a.dot b.dot=true)∧∀ y∈insLive x l,knows k' y.dot=true∧liv1 y=true:=by
 constructor
 ·exact insB_pw (lt:=liveLt) (fun a b c h1 h2=>dotLt_trans h1 h2) hp fun y hy=>dot_new hn (h1 y hy).1
 ·intro y hy
  rcases insB_mem.1 hy with rfl|hy
  ·exact hx
  ·exact⟨hm _ (h1 y hy).1,(h1 y hy).2⟩
theorem insCell_ok {l:List Cell} {k k':List Int} {x:Cell} (hp:l.Pairwise fun a b=>dotLt a.dot b.dot=true) (h1:∀ y∈l,knows k y.dot=true∧cel1 y=true) (hm:∀ d,knows k d=true→knows k' d=true) (hn:knows k x.dot=false) (hx:knows k' x.dot=true∧cel1 x=true):
  (insCell x l).Pairwise (fun a b=>dotLt a.dot b.dot=true)∧∀ y∈insCell x l,knows k' y.dot=true∧cel1 y=true:=by
 constructor
 ·exact insB_pw (lt:=cellLt) (fun a b c h1 h2=>dotLt_trans h1 h2) hp fun y hy=>dot_new hn (h1 y hy).1
 ·intro y hy
  rcases insB_mem.1 hy with rfl|hy
  ·exact hx
  ·exact⟨hm _ (h1 y hy).1,(h1 y hy).2⟩
theorem goneAt_mem {l:List Cell} {d:Dot} {x:Cell} (h:x∈goneAt l d):∃ y∈l,x=y∨x={y with gone:=true}:=by
 unfold goneAt at h
 split at h
 ·exact mem_modify h
 ·exact⟨x,h,.inl rfl⟩
theorem mem_goneAt {l:List Cell} {d:Dot} {y:Cell} (h:y∈l):∃ x∈goneAt l d,x=y∨x={y with gone:=true}:=by
 unfold goneAt
 split
 ·exact modify_mem h
 ·exact⟨y,h,.inl rfl⟩
theorem goneAt_dots (l:List Cell) (d:Dot):(goneAt l d).map (·.dot)=l.map (·.dot):=by
 unfold goneAt
 split
 ·exact map_modify (f:=fun c:Cell=>{c with gone:=true}) (g:=fun c=>c.dot) (fun _=>rfl) _ _
 ·rfl
theorem goneAt_len (l:List Cell) (d:Dot):(goneAt l d).length=l.length:=by
 have:=congrArg List.length (goneAt_dots l d)
 simpa using this
theorem doOne_ok {s:State} {a:Act} (h:OkS s) (ha:actOk a=true) (hn:knows s.know a.dot=false) (hk:knowIn a.knew s.know=true) (hr:refIn s a=true) (ht:tooMany (doOne s a)=false):OkS (doOne s a):=by
 simp only[actOk,Bool.and_eq_true] at ha
 obtain⟨hh,hpl,hrf⟩:=ha
 have F:=fits_of h.kn hh hn hk
 simp only[plainOk,Bool.and_eq_true,inB_iff] at hpl
 obtain⟨hkd,hob,hky,hvl⟩:=hpl
 simp only[tooMany,Bool.or_eq_false_iff,decide_eq_false_iff_not,Nat.not_lt] at ht
 obtain⟨ht1,ht2,ht3⟩:=ht
 have hd:=F.dot
 simp only[dotOk,Bool.and_eq_true] at hd
 have htime:inB a.time 1 10000=true:=by
  simp only[actHead,Bool.and_eq_true] at hh;exact hh.2.2.2
 have L1:∀ x∈s.lives,knows (s.know.set a.dot.rep.toNat a.dot.seq) x.dot=true∧liv1 x=true:=fun x hx=>⟨F.mono _ (h.l1 x hx).1,(h.l1 x hx).2⟩
 have C1:∀ x∈s.cells,knows (s.know.set a.dot.rep.toNat a.dot.seq) x.dot=true∧cel1 x=true:=fun x hx=>⟨F.mono _ (h.c1 x hx).1,(h.c1 x hx).2⟩
 have hval:valued a.kind=true→0≤a.val∧a.val≤999999:=fun hv=>by
  simp only[valOk,Bool.or_eq_true,Bool.and_eq_true,beq_iff_eq,inB_iff] at hvl
  rcases hvl with h|h
  ·omega
  ·exact h.2
 have hkeyed:keyed a.kind=true→nameOk a.key=true:=fun hk=>by rw[if_pos hk] at hky;exact hky
 revert ht1 ht2 ht3
 unfold doOne doKind
 repeat' split
 all_goals intro ht1 ht2 ht3
 ·rename_i hkind
  have T:=talPut_ok (obj:=a.obj) (rep:=a.dot.rep) (val:=a.val) h.tl h.t1 hob hd.1 (hval (by rw[hkind];rfl))
  exact {kn:=F.kn,tl:=T.1,t1:=T.2,tn:=ht1,ll:=h.ll,l1:=L1,ln:=h.ln,cl:=h.cl,c1:=C1,cn:=h.cn,rf:=h.rf}
 ·rename_i _ hkind
  have T:=insLive_ok (x:=⟨false,a.obj,a.key,0,a.dot⟩) h.ll h.l1 F.mono F.new ⟨F.self,by simp only[liv1,Bool.and_eq_true];exact⟨hob,hkeyed (by rw[hkind];rfl),by decide,by simp⟩⟩
  exact {kn:=F.kn,tl:=h.tl,t1:=h.t1,tn:=h.tn,ll:=T.1,l1:=T.2,ln:=ht2,cl:=h.cl,c1:=C1,cn:=h.cn,rf:=h.rf}
 ·exact {kn:=F.kn,tl:=h.tl,t1:=h.t1,tn:=h.tn,ll:=h.ll.filter _,l1:=fun x hx=>L1 x (List.mem_filter.1 hx).1,ln:=ht2,cl:=h.cl,c1:=C1,cn:=h.cn,rf:=h.rf}
 ·rename_i _ _ _ hkind
  have T:=insLive_ok (l:=s.lives.filter (keepL true a.obj a.key a.knew)) (x:=⟨true,a.obj,a.key,a.val,a.dot⟩) (h.ll.filter _) (fun y hy=>h.l1 y (List.mem_filter.1 hy).1) F.mono F.new ⟨F.self,by simp only[liv1,Bool.and_eq_true];exact⟨hob,hkeyed (by rw[hkind];rfl),inB_iff.2 (hval (by rw[hkind];rfl)),by simp⟩⟩
  exact {kn:=F.kn,tl:=h.tl,t1:=h.t1,tn:=h.tn,ll:=T.1,l1:=T.2,ln:=ht2,cl:=h.cl,c1:=C1,cn:=h.cn,rf:=h.rf}
 ·exact {kn:=F.kn,tl:=h.tl,t1:=h.t1,tn:=h.tn,ll:=h.ll.filter _,l1:=fun x hx=>L1 x (List.mem_filter.1 hx).1,ln:=ht2,cl:=h.cl,c1:=C1,cn:=h.cn,rf:=h.rf}
 ·rename_i _ _ _ _ _ hkind
  have T:=insCell_ok (x:=⟨a.obj,a.dot,a.time,a.ref,a.val,false⟩) h.cl h.c1 F.mono F.new ⟨F.self,by simp only[cel1,Bool.and_eq_true];exact⟨hob,inB_iff.2 (hval (by rw[hkind];rfl)),htime⟩⟩
  refine {kn:=F.kn,tl:=h.tl,t1:=h.t1,tn:=h.tn,ll:=h.ll,l1:=L1,ln:=h.ln,cl:=T.1,c1:=T.2,cn:=ht3,rf:=fun c hc=> ?_}
  rcases insB_mem.1 hc with rfl|hc
  ·by_cases hz:a.ref=d0
   ·exact .inl hz
   ·right
    unfold refIn at hr
    rw[if_pos (.inr ⟨hkind,hz⟩)] at hr
    split at hr
    ·rename_i k hkx
     obtain⟨hkl,e⟩:=cellIx_some hkx
     rw[onI_at hkl] at hr
     simp only[Bool.and_eq_true,Bool.or_eq_true,decide_eq_true_eq] at hr
     exact⟨s.cells[k],insB_mem.2 (.inr (List.getElem_mem hkl)),e,hr.1,hr.2.resolve_left (by omega)⟩
    ·cases hr
  ·rcases h.rf c hc with hz|⟨y,hy,e⟩
   ·exact .inl hz
   ·exact .inr ⟨y,insB_mem.2 (.inr hy),e⟩
 ·have hdots:(goneAt s.cells a.ref).Pairwise fun a b=>dotLt a.dot b.dot=true:=by
   have h2:(s.cells.map (·.dot)).Pairwise fun a b=>dotLt a b=true:=List.pairwise_map.2 h.cl
   rw[← goneAt_dots s.cells a.ref] at h2
   exact List.pairwise_map.1 h2
  refine {kn:=F.kn,tl:=h.tl,t1:=h.t1,tn:=h.tn,ll:=h.ll,l1:=L1,ln:=h.ln,cl:=hdots,c1:=fun x hx=> ?_,cn:=by rw[goneAt_len];exact h.cn,rf:=fun c hc=> ?_}
  ·obtain⟨y,hy,e⟩:=goneAt_mem hx
   rcases e with rfl|rfl
   ·exact C1 x hy
   ·exact C1 y hy
  ·obtain⟨y,hy,e⟩:=goneAt_mem hc
   have key:∀ r,(r=d0∨∃ z∈s.cells,z.dot=r∧z.obj=y.obj∧z.time<y.time)→r=d0∨∃ z∈goneAt s.cells a.ref,z.dot=r∧z.obj=y.obj∧z.time<y.time:=fun r hr=>hr.imp id fun⟨z,hz,q1,q2,q3⟩=>by
    obtain⟨x,hx,e⟩:=mem_goneAt (d:=a.ref) hz
    rcases e with rfl|rfl
    ·exact⟨x,hx,q1,q2,q3⟩
    ·exact⟨_,hx,q1,q2,q3⟩
   have:=key _ (h.rf y hy)
   rcases e with rfl|rfl
   ·exact this
   ·exact this
theorem doAct_ok {s:State} (a:Act) (h:OkS s):OkS (doAct s a).1:=by
 unfold doAct
 split
 ·exact h
 ·rename_i h1
  have h1:stateOk s=true∧actOk a=true:=by simpa using h1
  split
  ·exact h
  ·rename_i h2
   split
   ·exact h
   ·rename_i h3
    split
    ·exact h
    ·rename_i h4
     split
     ·exact h
     ·rename_i h5
      exact doOne_ok h h1.2 (by simpa using h2) (by simpa using h3) (by simpa using h4) (by simpa using h5)
theorem name_size {s:ByteArray} (h:nameOk s=true):s.size≤8:=by
 simp only[nameOk,Bool.and_eq_true,inB_iff] at h
 omega
theorem sumL_bd {α:Type} {f:α→Nat} {l:List α} {n:Nat} (h:∀ x∈l,f x≤n):sumL f l≤l.length*n:=by
 induction l with
 |nil=>simp[sumL]
 |cons x l ih=>
  have h1:=h x List.mem_cons_self
  have h2:=ih fun y hy=>h y (List.mem_cons_of_mem _ hy)
  have:sumL f (x::l)=f x+sumL f l:=by simp[sumL]
  rw[this,List.length_cons,Nat.add_mul];omega
theorem OkS.ms {s:State} (h:OkS s):msState s≤5000:=by
 have k:=okK_len h.kn
 have a1:=sumL_bd (f:=msTally) (l:=s.tallies) (n:=8) fun t ht=>by
  have:=h.t1 t ht
  simp only[tal1,Bool.and_eq_true] at this
  exact name_size this.1
 have a2:=sumL_bd (f:=msLive) (l:=s.lives) (n:=16) fun t ht=>by
  have:=(h.l1 t ht).2
  simp only[liv1,Bool.and_eq_true] at this
  have h1:=name_size this.1
  have h2:=name_size this.2.1
  unfold msLive;omega
 have a3:=sumL_bd (f:=msCell) (l:=s.cells) (n:=8) fun t ht=>by
  have:=(h.c1 t ht).2
  simp only[cel1,Bool.and_eq_true] at this
  exact name_size this.1
 have:=h.tn
 have:=h.ln
 have:=h.cn
 unfold msState
 omega
theorem OkS.time {s:State} (h:OkS s):∀ c∈s.cells,1≤c.time∧c.time≤10000:=fun c hc=>by
 have:=(h.c1 c hc).2
 simp only[cel1,Bool.and_eq_true,inB_iff] at this
 exact this.2.2
theorem st0_ok:OkS ⟨[0,0,0],[],[],[]⟩:={kn:=by decide,tl:=.nil,t1:=fun _ h=>(by cases h),tn:=by decide,ll:=.nil,l1:=fun _ h=>(by cases h),ln:=by decide,cl:=.nil,c1:=fun _ h=>(by cases h),cn:=by decide,rf:=fun _ h=>(by cases h)}
end Go.Proofs.Ytbeoiejnogdkpaa.Sy
namespace Go.Proofs.Ytbeoiejnogdkpaa.Sy
open Go Go.RowKit
set_option linter.unusedSimpArgs false
set_option linter.unusedVariables false
set_option maxRecDepth 4000
def newL (k:List Int) (l:List Live) (i:Nat):Bool:=onI l i fun x=> !knows k x.dot
def deadP (k:List Int) (l:List Dot) (i:Nat):Bool:=onI l i (knows k)&&upI dotLt l i
def dotP (l:List Dot) (i:Nat):Bool:=onI l i dotOk&&upI dotLt l i
def dotsOk (l:List Dot):Bool:=allR l.length (dotP l)&&decide (l.length≤120)
def refP (l:List Cell) (i:Nat):Bool:=onI l i refD
def deltaOk (d:Delta):Bool:=knowIn d.base d.know&&(talsOk d.tallies&&(livsOk d.lives d.know&&(celsOk d.cells d.know&&(decide (d.dead.length≤120)&&(allR d.lives.length (newL d.base d.lives)&&(allR d.dead.length (deadP d.base d.dead)&&allR d.cells.length (refP d.cells)))))))
def midL (k b:List Int) (l:List Live) (i:Nat):Bool:=onI l i fun x=>knows k x.dot&& !knows b x.dot
def deltaOkS (d:Delta):Bool:=knowIn d.base d.know&&(talsOk d.tallies&&(livsS d.lives&&(celsS d.cells&&(dotsOk d.dead&&(allR d.lives.length (midL d.know d.base d.lives)&&(allR d.dead.length (fun i=>onI d.dead i (knows d.base))&&allR d.cells.length (fun i=>onI d.cells i fun x=>knows d.know x.dot)))))))
end Go.Proofs.Ytbeoiejnogdkpaa.Sy
namespace Go.Proofs.Ytbeoiejnogdkpaa.Sy
open Go Go.RowKit
set_option linter.unusedSimpArgs false
set_option linter.unusedVariables false
set_option maxRecDepth 4000
def placeI {α:Type} [DecidableEq α] (l:List α) (x:α):Int:=match l.findIdx? (fun y=>decide (y=x)) with
 |some k=>k
 |none=> -1
end Go.Proofs.Ytbeoiejnogdkpaa.Sy
namespace Go.Proofs.Ytbeoiejnogdkpaa.Sy
open Go Go.RowKit
set_option linter.unusedSimpArgs false
set_option linter.unusedVariables false
section
variable {α:Type} {lt:α→α→Bool}
end
def tkey (t:Tally):ByteArray×Int:=(t.obj,t.rep)
def mergeT (f:Int→Bool) (a b:List Tally):List Tally:=insAll tallyLt (a.filter (fun t=> !f t.rep)++b.filter fun t=>f t.rep)
def putT (acc:List Tally) (t:Tally):List Tally:=talPut acc t.obj t.rep t.sum
def goneBy (b:List Cell) (c:Cell):Cell:={c with gone:=c.gone||b.any fun x=>decide (x.dot=c.dot)&&x.gone}
def isNewC (a:List Cell) (x:Cell):Bool:= !a.any fun c=>decide (c.dot=x.dot)
def joinC (a b:List Cell):List Cell:=a.map (goneBy b)++b.filter (isNewC a)
def mergeC (a b:List Cell):List Cell:=insAll cellLt (joinC a b)
def stepC (out:List Cell) (x:Cell):List Cell:=match cellIx out x.dot with
 |none=>insCell x out
 |some k=>if x.gone then out.modify k fun c=>{c with gone:=true} else out
def goneX (x:Cell) (c:Cell):Cell:=if c.dot=x.dot then {c with gone:=c.gone||x.gone} else c
end Go.Proofs.Ytbeoiejnogdkpaa.Sy
namespace Go.Proofs.Ytbeoiejnogdkpaa.Sy
open Go Go.RowKit
set_option linter.unusedSimpArgs false
set_option linter.unusedVariables false
set_option maxRecDepth 4000
instance:Inhabited Tally:=⟨⟨.empty,0,0⟩⟩
def elTally:El Tally:=⟨pTally,true,fun x=>.agg (pTally.enc x),fun _=>rfl,fun _=>rfl,by decide⟩
instance:Inhabited Live:=⟨⟨false,.empty,.empty,0,⟨0,0⟩⟩⟩
def elLive:El Live:=⟨pLive,true,fun x=>.agg (pLive.enc x),fun _=>rfl,fun _=>rfl,by decide⟩
end Go.Proofs.Ytbeoiejnogdkpaa.Sy
namespace Go.Proofs.Ytbeoiejnogdkpaa.Sy
open Go Go.RowKit
set_option linter.unusedSimpArgs false
set_option linter.unusedVariables false
set_option maxRecDepth 4000
end Go.Proofs.Ytbeoiejnogdkpaa.Sy
namespace Go.Proofs.Ytbeoiejnogdkpaa.Sy
open Go Go.RowKit
set_option linter.unusedSimpArgs false
set_option linter.unusedVariables false
def kMin (a b:List Int):List Int:=zipK mn a b
def ordOf (a b:List Int):Int:=if okK a&&okK b then(if a=b then 0 else if knowIn a b then -1 else if knowIn b a then 1 else 2) else 3
def joinL (ll:List (List Int)):List Int:=if ll.all okK then ll.foldl kMax [0,0,0] else[]
def meetG:List (List Int)→List Int
 |[]=>[]
 |k::r=>(k::r).foldl kMin k
def meetL (ll:List (List Int)):List Int:=if ll.all okK then meetG ll else[]
end Go.Proofs.Ytbeoiejnogdkpaa.Sy
namespace Go.Proofs.Ytbeoiejnogdkpaa.Sy
open Go Go.RowKit
set_option linter.unusedSimpArgs false
set_option linter.unusedVariables false
set_option maxRecDepth 4000
def fromD (s:State) (d:Delta) (rep:Int):Bool:=decide (at0 s.know rep<at0 d.know rep)
def keepD (d:Delta) (l:Live):Bool:= !(knows d.know l.dot&&(!knows d.base l.dot&& !decide (l∈d.lives)))&& !decide (l.dot∈d.dead)
def newD (s:State) (l:Live):Bool:= !knows s.know l.dot
def dltTo (s:State) (d:Delta):State:=⟨kMax s.know d.know,mergeT (fromD s d) s.tallies d.tallies,insAll liveLt (s.lives.filter (keepD d)++d.lives.filter (newD s)),mergeC s.cells d.cells⟩
def doDelta (s:State) (d:Delta):State×Int:=
 if !(stateOk s&&deltaOk d) then(s,3) else if knowIn d.know s.know then(s,1) else if !knowIn d.base s.know then(s,2) else
 if tooMany (dltTo s d) then(s,4) else if !stateOk (dltTo s d) then(s,3) else(dltTo s d,0)
abbrev z4':List GV:=[GV.nilS,GV.nilS,GV.nilS,GV.nilS]
end Go.Proofs.Ytbeoiejnogdkpaa.Sy
namespace Go.Proofs.Ytbeoiejnogdkpaa.Sy
open Go Go.RowKit
set_option linter.unusedSimpArgs false
set_option linter.unusedVariables false
set_option maxRecDepth 4000
end Go.Proofs.Ytbeoiejnogdkpaa.Sy
namespace Go.Proofs.Ytbeoiejnogdkpaa.Sy
open Go Go.RowKit
set_option linter.unusedSimpArgs false
set_option linter.unusedVariables false
set_option maxRecDepth 4000
end Go.Proofs.Ytbeoiejnogdkpaa.Sy
namespace Go.Proofs.Ytbeoiejnogdkpaa.Sy
open Go Go.RowKit
set_option linter.unusedSimpArgs false
set_option linter.unusedVariables false
set_option maxRecDepth 4000
end Go.Proofs.Ytbeoiejnogdkpaa.Sy
namespace Go.Proofs.Ytbeoiejnogdkpaa.Sy
open Go Go.RowKit
set_option linter.unusedSimpArgs false
set_option linter.unusedVariables false
set_option maxRecDepth 4000
abbrev z4:List GV:=[GV.nilS,GV.nilS,GV.nilS,GV.nilS]
theorem msAct_of (s:State) (rep t:Int) (e:Edit):msAct (actOf s rep t e).1≤s.know.length+e.obj.size+e.key.size:=by
 unfold actOf
 repeat' split
 all_goals simp only[actRaw,actWith,act0,msAct,show(ByteArray.mk #[]).size=0 from rfl,List.length_nil]
 all_goals omega
theorem msState_know (s:State):s.know.length≤msState s:=by unfold msState;omega
end Go.Proofs.Ytbeoiejnogdkpaa.Sy
namespace Go.Proofs.Ytbeoiejnogdkpaa.Sy
open Go Go.RowKit
set_option linter.unusedSimpArgs false
set_option linter.unusedVariables false
set_option maxRecDepth 4000
end Go.Proofs.Ytbeoiejnogdkpaa.Sy
namespace Go.Proofs.Ytbeoiejnogdkpaa.Sy
open Go Go.RowKit
set_option linter.unusedSimpArgs false
set_option linter.unusedVariables false
set_option maxRecDepth 4000
abbrev n_s_StateNew:Nat:=50
def F_s_StateNew:Fn1:=⟨3,[.c 0 true 4],(.seq (.reg [o 0 (.new [.nilS,.nilS,.nilS,.nilS])]) (.seq (.reg [o 1 (.call 73 []),o 2 (.build [.nilS,.nilS,.nilS,.nilS] [(0,1,(.t 1))]),on (.st 4 (.t 0) (.t 2))]) .ret))⟩
theorem ir_s_StateNew:compFn Try.prog n_s_StateNew=some F_s_StateNew:=by kernel_rfl
abbrev zeU:List GV:=[.bool false,gi 0,gi 0,gi 0,.nilS,gi 0,.str ⟨#[]⟩,.str ⟨#[]⟩,gi 0,gi 0,gi 0,.nilS,.nilS,.nilS,.nilS,.nilS,.nilS]
def doUnit (s:State) (u:Unit_):State×Int:=if u.batch then doDelta s u.delta else doAct s u.act
def st0:State:=⟨[0,0,0],[],[],[]⟩
theorem s_StateNew_ret (σ:St):∃ r τ,Ret Try.prog n_s_StateNew [] σ (.agg r) τ∧Hp σ τ [own kState r st0]:=by
 have key:∃ q τ,Ret Try.prog n_s_StateNew [] σ q τ∧∃ r,q= .agg r∧Hp σ τ [own kState r st0]:=by
  refine ret_x ir_s_StateNew (Nat.le_of_ble_eq_true rfl) (Hx.refl σ) ?_
  simp +contextual (disch:=omega) only[go_sem,F_s_StateNew]
  intro n f τ H
  obtain⟨kv,τ1,R1,K1⟩:=s_KnowNew_ret τ
  refine by_c H R1 K1 fun H1=> ?_
  have ck:=(H1.hp.sl 0 rfl).cell
  simp +contextual (disch:=omega) only[go_sem,ck]
  intro τ2 H2
  exact⟨_,rfl,_,rfl,Hp.ownState (x:=st0) (((((H2.sel [0] (by decide)).nilS (d:=pCell.kd)).nilS (d:=pLive.kd)).nilS (d:=pTally.kd)).sel [3,0,1,2] (by decide))⟩
 obtain⟨q,τ,R,r,rfl,h⟩:=key
 exact⟨r,τ,R,h⟩
def runU (us:List Unit_):Nat→Option State
 |0=>some st0
 |i+1=>(runU us i).bind fun s=>if h:i<us.length then(if (doUnit s us[i]).2=0 then some (doUnit s us[i]).1 else none) else some s
def mayStand (us:List Unit_):Bool:=(runU us us.length).isSome
end Go.Proofs.Ytbeoiejnogdkpaa.Sy
namespace Go.Proofs.Ytbeoiejnogdkpaa.Sy
open Go Go.RowKit
set_option linter.unusedSimpArgs false
set_option linter.unusedVariables false
set_option maxRecDepth 4000
abbrev n_s_TimeOf:Nat:=71
def F_s_TimeOf:Fn1:=⟨27,[.t 2],(.seq (.reg [o 1 (.box (.t 0)),o 2 (.mov (.k (.int .i64 0)))]) (.seq (.reg [o 3 (.mov (.k (.int .i64 0)))]) (.seq (.seq (.reg [o 4 (.mov (.k (.int .i64 0)))]) (.blk 0 (.lop (.seq (.seq (.reg [o 5 (.mov (.t 4)),o 6 (.fad 3 (.t 1)),o 7 (.ld false 1 (.t 6)),o 8 (.len false (.t 7)),o 9 (.bin .lss (.t 5) (.t 8))]) (.cnd (.t 9) .skip (.ext 0))) (.seq (.blk 1 (.seq (.reg [o 12 (.fad 3 (.t 1)),o 13 (.ld false 1 (.t 12)),o 14 (.mov (.t 4)),o 15 (.iad 8 (.t 13) (.t 14)),o 16 (.fad 3 (.t 15)),o 17 (.ld false 1 (.t 16)),o 18 (.mov (.t 3)),o 19 (.bin .gtr (.t 17) (.t 18))]) (.cnd (.t 19) (.reg [o 20 (.fad 3 (.t 1)),o 21 (.ld false 1 (.t 20)),o 22 (.mov (.t 4)),o 23 (.iad 8 (.t 21) (.t 22)),o 24 (.fad 3 (.t 23)),o 25 (.ld false 1 (.t 24)),o 3 (.mov (.t 25))]) .skip))) (.reg [o 10 (.mov (.t 4)),o 11 (.bin .add (.t 10) (.k (.int .i64 1))),o 4 (.mov (.t 11))])))))) (.seq (.reg [o 26 (.mov (.t 3)),o 2 (.mov (.t 26))]) .ret))))⟩
theorem ir_s_TimeOf:compFn Try.prog n_s_TimeOf=some F_s_TimeOf:=by kernel_rfl
abbrev n_s_l06Grown:Nat:=49
def F_s_l06Grown:Fn1:=⟨43,[.c 6 true 4],(.seq (.reg [o 4 (.box (.t 1)),o 6 (.new [.nilS,.nilS,.nilS,.nilS])]) (.seq (.seq (.reg [o 7 (.mov (.k (.int .i64 0)))]) (.blk 0 (.lop (.seq (.seq (.reg [o 12 (.mov (.t 7)),o 13 (.mov (.t 2)),o 14 (.bin .lss (.t 12) (.t 13))]) (.cnd (.t 14) .skip (.ext 0))) (.seq (.blk 1 (.seq (.reg [o 17 (.mov (.t 0)),o 18 (.call 30 [(.t 17),(.k (.int .i64 3))]),o 8 (.mov (.t 18))]) (.seq (.reg [o 19 (.mov (.t 0)),o 20 (.call 69 [(.t 19)]),o 9 (.new [(.int .i64 0),(.str ⟨#[]⟩),(.str ⟨#[]⟩),(.int .i64 0),(.int .i64 0)]),on (.st 5 (.t 9) (.t 20))]) (.seq (.drw [o 30 (.ld true 5 (.t 9)),o 10 (.new [(.int .i64 0),(.int .i64 0),(.int .i64 0),.nilS,(.int .i64 0),(.str ⟨#[]⟩),(.str ⟨#[]⟩),(.int .i64 0),(.int .i64 0),(.int .i64 0)])] [o 22 (.ld true 4 (.t 4)),o 23 (.mov (.t 8)),o 24 (.ld true 4 (.t 4)),o 25 (.call 71 [(.t 24)]),on (.chk 22 (.ld true 4 (.t 4))),on (.chk 30 (.ld true 5 (.t 9))),on (.blc 10 [(.int .i64 0),(.int .i64 0),(.int .i64 0),.nilS,(.int .i64 0),(.str ⟨#[]⟩),(.str ⟨#[]⟩),(.int .i64 0),(.int .i64 0),(.int .i64 0)]),o 26 (.bin .add (.t 25) (.k (.int .i64 1))),o 27 (.mov (.t 0)),o 28 (.call 30 [(.t 27),(.k (.int .i64 2))]),on (.chk 22 (.ld true 4 (.t 4))),on (.chk 30 (.ld true 5 (.t 9))),on (.blc 10 [(.int .i64 0),(.int .i64 0),(.int .i64 0),.nilS,(.int .i64 0),(.str ⟨#[]⟩),(.str ⟨#[]⟩),(.int .i64 0),(.int .i64 0),(.int .i64 0)]),o 29 (.bin .add (.t 26) (.t 28)),o 31 (.call 70 [(.t 22),(.t 23),(.t 29),(.t 30)]),on (.blc 10 [(.int .i64 0),(.int .i64 0),(.int .i64 0),.nilS,(.int .i64 0),(.str ⟨#[]⟩),(.str ⟨#[]⟩),(.int .i64 0),(.int .i64 0),(.int .i64 0)]),o 21 (.mov (.t 31)),o 32 (.ext 0 (.t 21)),o 33 (.ext 1 (.t 21)),on (.st 10 (.t 10) (.t 32)),o 11 (.mov (.t 33))]) (.seq (.reg [o 34 (.mov (.t 11)),o 35 (.bin .eql (.t 34) (.k (.int .i64 0)))]) (.cnd (.t 35) (.reg [o 37 (.ld true 4 (.t 4)),o 38 (.ld true 10 (.t 10)),o 39 (.call 72 [(.t 37),(.t 38)]),o 36 (.mov (.t 39)),o 40 (.ext 0 (.t 36)),o 41 (.ext 1 (.t 36)),on (.st 4 (.t 4) (.t 40))]) .skip)))))) (.reg [o 15 (.mov (.t 7)),o 16 (.bin .add (.t 15) (.k (.int .i64 1))),o 7 (.mov (.t 16))])))))) (.seq (.reg [o 42 (.ld true 4 (.t 4)),on (.st 4 (.t 6) (.t 42))]) .ret)))⟩
theorem ir_s_l06Grown:compFnM true Try.prog n_s_l06Grown=some F_s_l06Grown:=by kernel_rfl
abbrev n_s_l06State:Nat:=27
def F_s_l06State:Fn1:=⟨9,[.c 2 true 4],(.seq (.reg [o 2 (.new [.nilS,.nilS,.nilS,.nilS])]) (.seq (.reg [o 3 (.mov (.t 0)),o 4 (.call 50 []),o 5 (.mov (.t 0)),o 6 (.call 30 [(.t 5),(.k (.int .i64 9))]),o 7 (.bin .add (.k (.int .i64 2)) (.t 6)),o 8 (.call 49 [(.t 3),(.t 4),(.t 7)]),on (.st 4 (.t 2) (.t 8))]) .ret))⟩
theorem ir_s_l06State:compFn Try.prog n_s_l06State=some F_s_l06State:=by kernel_rfl
abbrev n_s_l06Any:Nat:=43
def F_s_l06Any:Fn1:=⟨89,[.c 2 true 4],(.seq (.reg [o 2 (.new [.nilS,.nilS,.nilS,.nilS])]) (.seq (.reg [o 6 (.mov (.t 0)),o 7 (.call 30 [(.t 6),(.k (.int .i64 14))]),o 3 (.mov (.t 7))]) (.seq (.reg [o 8 (.mov (.t 0)),o 9 (.call 30 [(.t 8),(.k (.int .i64 60))]),o 4 (.mov (.t 9))]) (.seq (.reg [o 10 (.mov (.t 0)),o 11 (.call 27 [(.t 10)]),o 12 (.call 47 [(.t 11)]),o 5 (.new [.nilS,.nilS,.nilS,.nilS]),on (.st 4 (.t 5) (.t 12))]) (.seq (.seq (.reg [o 13 (.mov (.t 3))]) (.blk 0 (.seq (.reg [o 15 (.bin .eql (.t 13) (.k (.int .i64 0))),o 14 (.mov (.t 15))]) (.cnd (.t 14) (.drw [] [o 16 (.fad 0 (.t 5)),o 17 (.ld false 1 (.t 16)),o 18 (.mov (.t 4)),o 19 (.bin .rem (.t 18) (.k (.int .i64 3))),o 20 (.lit 1 3 [(.int .i64 0),(.int .i64 0),(.int .i64 0)] [(0,1,(.k (.int .i64 0))),(1,1,(.k (.int .i64 (-1)))),(2,1,(.k (.int .i64 1001)))]),on (.chk 17 (.ld false 1 (.t 16))),o 21 (.mov (.t 4)),o 22 (.bin .rem (.t 21) (.k (.int .i64 3))),o 23 (.iad 1 (.t 20) (.t 22)),o 24 (.ld false 1 (.t 23)),o 25 (.iad 1 (.t 17) (.t 19)),on (.st 1 (.t 25) (.t 24))]) (.seq (.reg [o 27 (.bin .eql (.t 13) (.k (.int .i64 1))),o 26 (.mov (.t 27))]) (.cnd (.t 26) (.reg [o 28 (.fad 1 (.t 5)),o 29 (.ld false 1 (.t 28)),o 30 (.mov (.t 4)),o 31 (.bin .rem (.t 30) (.k (.int .i64 4))),o 32 (.mov (.t 4)),o 33 (.build [(.str ⟨#[]⟩),(.int .i64 0),(.int .i64 0)] [(0,1,(.k (.str ⟨#[97]⟩))),(1,1,(.t 31)),(2,1,(.t 32))]),o 34 (.lit 3 1 [(.str ⟨#[]⟩),(.int .i64 0),(.int .i64 0)] [(0,3,(.t 33))]),o 35 (.app 3 32 [(.str ⟨#[]⟩),(.int .i64 0),(.int .i64 0)] (.t 29) (.t 34)),o 36 (.fad 1 (.t 5)),on (.st 1 (.t 36) (.t 35))]) (.seq (.reg [o 38 (.bin .eql (.t 13) (.k (.int .i64 2))),o 37 (.mov (.t 38))]) (.cnd (.t 37) (.reg [o 39 (.fad 2 (.t 5)),o 40 (.ld false 1 (.t 39)),o 41 (.mov (.t 4)),o 42 (.bin .rem (.t 41) (.k (.int .i64 2))),o 43 (.bin .eql (.t 42) (.k (.int .i64 0))),o 44 (.mov (.t 4)),o 45 (.bin .rem (.t 44) (.k (.int .i64 3))),o 46 (.mov (.t 4)),o 47 (.bin .rem (.t 46) (.k (.int .i64 4))),o 48 (.mov (.t 4)),o 49 (.bin .rem (.t 48) (.k (.int .i64 5))),o 50 (.bin .add (.k (.int .i64 1)) (.t 49)),o 51 (.build [(.int .i64 0),(.int .i64 0)] [(0,1,(.t 47)),(1,1,(.t 50))]),o 52 (.build [(.bool false),(.str ⟨#[]⟩),(.str ⟨#[]⟩),(.int .i64 0),(.int .i64 0),(.int .i64 0)] [(0,1,(.t 43)),(1,1,(.k (.str ⟨#[97]⟩))),(2,1,(.k (.str ⟨#[120]⟩))),(3,1,(.t 45)),(4,2,(.t 51))]),o 53 (.lit 6 1 [(.bool false),(.str ⟨#[]⟩),(.str ⟨#[]⟩),(.int .i64 0),(.int .i64 0),(.int .i64 0)] [(0,6,(.t 52))]),o 54 (.app 6 64 [(.bool false),(.str ⟨#[]⟩),(.str ⟨#[]⟩),(.int .i64 0),(.int .i64 0),(.int .i64 0)] (.t 40) (.t 53)),o 55 (.fad 2 (.t 5)),on (.st 1 (.t 55) (.t 54))]) (.seq (.reg [o 57 (.bin .eql (.t 13) (.k (.int .i64 3))),o 56 (.mov (.t 57))]) (.cnd (.t 56) (.reg [o 58 (.fad 3 (.t 5)),o 59 (.ld false 1 (.t 58)),o 60 (.mov (.t 4)),o 61 (.bin .rem (.t 60) (.k (.int .i64 9))),o 62 (.bin .add (.k (.int .i64 1)) (.t 61)),o 63 (.build [(.int .i64 0),(.int .i64 0)] [(0,1,(.k (.int .i64 2))),(1,1,(.t 62))]),o 64 (.mov (.t 4)),o 65 (.bin .rem (.t 64) (.k (.int .i64 9))),o 66 (.mov (.t 4)),o 67 (.bin .rem (.t 66) (.k (.int .i64 3))),o 68 (.build [(.int .i64 0),(.int .i64 0)] [(0,1,(.k (.int .i64 0))),(1,1,(.t 67))]),o 69 (.build [(.str ⟨#[]⟩),(.int .i64 0),(.int .i64 0),(.int .i64 0),(.int .i64 0),(.int .i64 0),(.int .i64 0),(.bool false)] [(0,1,(.k (.str ⟨#[97]⟩))),(1,2,(.t 63)),(3,1,(.t 65)),(4,2,(.t 68))]),o 70 (.lit 8 1 [(.str ⟨#[]⟩),(.int .i64 0),(.int .i64 0),(.int .i64 0),(.int .i64 0),(.int .i64 0),(.int .i64 0),(.bool false)] [(0,8,(.t 69))]),o 71 (.app 8 72 [(.str ⟨#[]⟩),(.int .i64 0),(.int .i64 0),(.int .i64 0),(.int .i64 0),(.int .i64 0),(.int .i64 0),(.bool false)] (.t 59) (.t 70)),o 72 (.fad 3 (.t 5)),on (.st 1 (.t 72) (.t 71))]) (.seq (.reg [o 74 (.bin .eql (.t 13) (.k (.int .i64 4))),o 73 (.mov (.t 74))]) (.cnd (.t 73) (.seq (.reg [o 75 (.fad 3 (.t 5)),o 76 (.ld false 1 (.t 75)),o 77 (.len false (.t 76)),o 78 (.bin .gtr (.t 77) (.k (.int .i64 0)))]) (.cnd (.t 78) (.drw [] [o 79 (.fad 3 (.t 5)),o 80 (.ld false 1 (.t 79)),o 81 (.mov (.t 4)),o 82 (.fad 3 (.t 5)),o 83 (.ld false 1 (.t 82)),o 84 (.len false (.t 83)),o 85 (.bin .rem (.t 81) (.t 84)),o 86 (.iad 8 (.t 80) (.t 85)),o 87 (.fad 0 (.t 86)),on (.st 1 (.t 87) (.k (.str ⟨#[98]⟩)))]) .skip)) .skip)))))))))))) (.seq (.reg [o 88 (.ld true 4 (.t 5)),on (.st 4 (.t 2) (.t 88))]) .ret))))))⟩
def timeMax (l:List Cell):Int:=l.foldl (fun n c=>if c.time>n then c.time else n) 0
theorem timeMax_snoc {l:List Cell} {i:Nat} (hi:i<l.length):timeMax (l.take (i+1))=if l[i].time>timeMax (l.take i) then l[i].time else timeMax (l.take i):=by
 unfold timeMax;rw[take_snoc hi,List.foldl_append];rfl
theorem timeMax_bd {l:List Cell} (h:∀ c∈l,c.time≤10000):0≤timeMax l∧timeMax l≤10000:=by
 have key:∀(l:List Cell) (n:Int),0≤n∧n≤10000→(∀ c∈l,c.time≤10000)→0≤l.foldl (fun n c=>if c.time>n then c.time else n) n∧l.foldl (fun n c=>if c.time>n then c.time else n) n≤10000:=by
  intro l
  induction l with
  |nil=>intro n hn _;exact hn
  |cons x l ih=>
   intro n hn hx
   rw[List.foldl_cons]
   refine ih _ ?_ fun c hc=>hx c (List.mem_cons_of_mem _ hc)
   have:=hx x List.mem_cons_self
   split<;>omega
 exact key l 0 (by omega) h
theorem s_TimeOf_ret (σ:St) (cs:List GV) (s:State) (hR:kState.R σ s cs) (hl:msState s≤1099511627776):Ret Try.prog n_s_TimeOf [.agg cs] σ (gi (timeMax s.cells)) σ:=by
 obtain⟨v0,v1,v2,v3,rfl,q0,q1,q2,q3⟩:=hR
 have hlc:s.cells.length≤1099511627776:=by unfold msState at hl;omega
 refine ret_xe ir_s_TimeOf (Nat.le_of_ble_eq_true rfl) trivial ?_
 simp +contextual (disch:=omega) only[go_sem,F_s_TimeOf]
 intro n1 f1 τ1 H1
 refine sx_for s.cells.length 4 0 (fun i env h=>env 1= .ptr n1 0∧env 3=gi (timeMax (s.cells.take i))∧h=[.box 1 n1 [v0,v1,v2,v3]]) (fun env h=>env 3=gi (timeMax s.cells)) (fun _ _=>False) _ H1 (by simp +contextual (disch:=omega) only[go_sem]) ⟨by simp +contextual (disch:=omega) only[go_sem],by simp +contextual (disch:=omega) only[go_sem];rfl,rfl⟩ ?_ ?_ ?_ (fun _ _ _ _ h=>h.elim)
 ·clear H1
  rintro J Y W hJ hY hW i env h' τ hi ei c0 H ⟨e1,e3,rfl⟩
  have hl3:=q3.len
  have L:=Cell_at q3 hi
  obtain⟨q,hq⟩:∃ q,q=timeMax (s.cells.take i):=⟨_,rfl⟩
  have hsn:=timeMax_snoc hi
  rw[← hq] at e3 hsn
  cases hc:decide (q<s.cells[i].time) with
  |true=>
   rw[if_pos (of_decide_eq_true hc)] at hsn
   simp +contextual (disch:=omega) only[go_sem,c0,e1,e3,ei,natOf_nat,hl3,L,hc]
   exact hJ _ _ _ _ H ⟨by simp +contextual (disch:=omega) only[go_sem,e1],by simp +contextual (disch:=omega) only[go_sem,hsn],rfl⟩
  |false=>
   rw[if_neg (of_decide_eq_false hc)] at hsn
   simp +contextual (disch:=omega) only[go_sem,c0,e1,e3,ei,natOf_nat,hl3,L,hc]
   exact hJ _ _ _ _ H ⟨by simp +contextual (disch:=omega) only[go_sem,e1],by simp +contextual (disch:=omega) only[go_sem,e3,hsn],rfl⟩
 ·clear H1
  rintro Y hY env h' τ ei c0 H ⟨e1,e3,rfl⟩
  have hl3:=q3.len
  simp +contextual (disch:=omega) only[go_sem,c0,e1,ei,hl3]
  exact hY _ _ _ H (by simp +contextual (disch:=omega) only[go_sem,e3,List.take_length])
 ·rintro env h' τ H e3
  simp +contextual (disch:=omega) only[go_sem,e3]
section
variable {σ0 σ:St} {h:List Item} {c v:GV} {bs:List Int}
theorem Hx.fst {x:Item} (H:Hx σ0 σ h) (i:Nat) (hi:h[i]? =some x):Hx σ0 σ (x::h.eraseIdx i):=by
 have H1:=H.hp.pick i (by rw[List.getElem?_map,hi];rfl:(h.map Item.t)[i]? =some x.t)
 rw[map_era] at H1
 exact H1
theorem Hx.era (H:Hx σ0 σ h) (i:Nat):Hx σ0 σ (h.eraseIdx i):=by
 cases hi:h[i]? with
 |none=>rw[List.eraseIdx_of_length_le (List.getElem?_eq_none_iff.1 hi)];exact H
 |some x=>exact(H.fst i hi).tl
inductive Grw (s0:State):State→Prop
 |nil:Grw s0 s0
 |act {s:State} (rep dt:Int) (e:Edit):Grw s0 s→0≤rep→rep≤2→0≤dt→dt≤1→EdD e→(actOf s rep (timeMax s.cells+1+dt) e).2=0→Grw s0 (doAct s (actOf s rep (timeMax s.cells+1+dt) e).1).1
theorem Grw.ok {s0 s:State} (h:Grw s0 s) (h0:OkS s0):OkS s:=by
 induction h with
 |nil=>exact h0
 |act rep dt e _ _ _ _ _ _ _ ih=>exact doAct_ok _ ih
set_option maxHeartbeats 2000000 in
theorem s_l06Grown_ret {cs:List GV} {s:State} (H:Hx σ0 σ (.th (own kState cs s)::h)) (k:Nat) (hk:h[k]? =some (cuI c v bs)) (D:Dr σ0 v bs) (hs:OkS s) (n:Nat) (hn:n≤1000):
  ∃(ds:List GV) (s':State) (τ:St),Grw s s'∧Ret Try.prog n_s_l06Grown [c,.agg cs,gi n] σ (.agg ds) τ∧Hx σ0 τ (.th (own kState ds s')::h):=by
 have hlen:cs.length=4:=kState.len (H.hp.rd 0 rfl)
 have key:∃ w τ,Ret Try.prog n_s_l06Grown [c,.agg cs,gi n] σ w τ∧∃ ds s',w= .agg ds∧Grw s s'∧Hx σ0 τ (.th (own kState ds s')::h):=by
  refine ret_x ir_s_l06Grown (Nat.le_of_ble_eq_true rfl) H ?_
  simp +contextual (disch:=omega) only[go_sem,F_s_l06Grown]
  intro n4 f4 τ4 H4 n6 f6 τ6 H6
  have g4:=frX_len (h:=h) f4
  have g6:=frX_len (h:=h) f6.2
  have ne46:=f6.1
  clear H4 f4 f6
  refine sx_for n 7 0 (fun i env hh=>env 0=c∧env 2=gi n∧env 4= .ptr n4 0∧env 6= .ptr n6 0∧∃ ds s',Grw s s'∧ds.length=4∧hh= .box 1 n6 z4::.box 1 n4 ds::.th (own kState ds s')::h) (fun env hh=>env 4= .ptr n4 0∧env 6= .ptr n6 0∧∃ ds s',Grw s s'∧ds.length=4∧hh= .box 1 n6 z4::.box 1 n4 ds::.th (own kState ds s')::h) (fun _ _=>False) _ H6 (by simp +contextual (disch:=omega) only[go_sem]) ⟨by simp +contextual (disch:=omega) only[go_sem],by simp +contextual (disch:=omega) only[go_sem],by simp +contextual (disch:=omega) only[go_sem],by simp +contextual (disch:=omega) only[go_sem],cs,s,.nil,hlen,rfl⟩ ?_ ?_ ?_ (fun _ _ _ _ h=>h.elim)
  ·clear H6
   rintro J Y W hJ hY hW i env h' τ hi ei c0 H ⟨e0,e2,e4,e6,ds,s',hg,gl,rfl⟩
   have hok:=hg.ok hs
   have hms:=hok.ms
   have htm:=timeMax_bd fun c hc=>(hok.time c hc).2
   simp +contextual (disch:=omega) only[go_sem,c0,e0,e2,e4,e6,ei]
   obtain⟨rep,τ1,hrep,R1,H1⟩:=below_x H (k+3) hk D 3 (by decide) (by decide)
   refine by_k R1 H1 ?_
   simp +contextual (disch:=omega) only[go_sem,e0,e2,e4,e6,ei]
   obtain⟨e,τ2,he,R2,H2⟩:=s_l09Edit_ret H1 (k+3) hk D
   refine by_k R2 H2 ?_
   simp +contextual (disch:=omega) only[go_sem,e0,e2,e4,e6,ei]
   intro n9 f9 τ3 H3 τ5 H5 n10 f10 τ7 H7
   have g9:=frX_len (h:=h) f9.2.2
   have g10:=frX_len (h:=h) f10.2.2.2
   simp +contextual (disch:=omega) only[go_sem,e0,e2,e4,e6,ei,seg_full gl]
   refine by_r H7 (s_TimeOf_ret _ ds s' (H7.hp.rd 4 rfl) (by omega)) ?_
   obtain⟨tm,htm'⟩:∃ tm,tm=timeMax s'.cells:=⟨_,rfl⟩
   rw[← htm'] at htm ⊢
   simp +contextual (disch:=omega) only[go_sem,e0,e2,e4,e6,ei,seg_full gl]
   obtain⟨dt,τ8,hdt,R8,H8⟩:=below_x H7 (k+5) hk D 2 (by decide) (by decide)
   refine by_k R8 H8 ?_
   simp +contextual (disch:=omega) only[go_sem,e0,e2,e4,e6,ei,seg_full gl,wrap_add]
   have hsz:=he.size
   have hkn:=msState_know s'
   obtain⟨as',τ9,R9,K9⟩:=s_ActOf_ret τ8 ds s' (H8.hp.rd 4 rfl) rep (tm+1+dt) e (by omega) (by omega) (by omega) (by have:=he.place;omega) (by omega)
   have al:as'.length=10:=kAct.len (K9.rd 0 rfl)
   refine by_c H8 R9 K9 fun H9=> ?_
   have hma:=msAct_of s' rep (tm+1+dt) e
   have hstep:(actOf s' rep (tm+1+dt) e).2=0→Grw s (doAct s' (actOf s' rep (tm+1+dt) e).1).1:=fun hz=>by
    rw[htm'] at hz ⊢
    exact .act rep dt e hg (by omega) (by omega) (by omega) (by omega) he hz
   generalize actOf s' rep (tm+1+dt) e=A at*
   cases hz:(A.2==0) with
   |false=>
    simp +contextual (disch:=omega) only[go_sem,e0,e2,e4,e6,ei,seg_full gl,splice_full (cs:=zeV) al rfl,al,hz]
    intro τ11 H11
    have HA:=(((H11.era 0).era 0).era 0)
    exact hJ _ _ _ _ HA ⟨by simp +contextual (disch:=omega) only[go_sem,e0],by simp +contextual (disch:=omega) only[go_sem,e2],by simp +contextual (disch:=omega) only[go_sem,e4],by simp +contextual (disch:=omega) only[go_sem,e6],ds,s',hg,gl,rfl⟩
   |true=>
    simp +contextual (disch:=omega) only[go_sem,e0,e2,e4,e6,ei,seg_full gl,splice_full (cs:=zeV) al rfl,al,hz,seg_full al]
    intro τ11 H11
    obtain⟨ds2,τ12,R12,K12⟩:=s_DoAct_ret τ11 ds s' (H11.hp.rd 5 rfl) as' A.1 (H11.hp.rd 0 rfl) (by omega) (by omega)
    have gl2:ds2.length=4:=kState.len (K12.rd 0 rfl)
    refine by_c H11 R12 K12 fun H12=> ?_
    simp +contextual (disch:=omega) only[go_sem,e0,e2,e4,e6,ei,splice_full (cs:=ds) gl2 gl,gl2,gl,hz]
    intro τ13 H13
    have HA:=((((H13.era 6).era 3).era 2).era 1)
    have HB:=(HA.fst 2 rfl).fst 2 rfl
    exact hJ _ _ _ _ HB ⟨by simp +contextual (disch:=omega) only[go_sem,e0],by simp +contextual (disch:=omega) only[go_sem,e2],by simp +contextual (disch:=omega) only[go_sem,e4],by simp +contextual (disch:=omega) only[go_sem,e6],ds2,_,hstep (by simpa using hz),gl2,rfl⟩
  ·clear H6
   rintro Y hY env h' τ ei c0 H ⟨e0,e2,e4,e6,ds,s',hg,gl,rfl⟩
   simp +contextual (disch:=omega) only[go_sem,c0,e2,ei]
   exact hY _ _ _ H ⟨by simp +contextual (disch:=omega) only[go_sem,e4],by simp +contextual (disch:=omega) only[go_sem,e6],ds,s',hg,gl,rfl⟩
  ·rintro env h' τ H ⟨e4,e6,ds,s',hg,gl,rfl⟩
   simp +contextual (disch:=omega) only[go_sem,e4,e6,seg_full gl,splice_full (cs:=z4) gl rfl,gl]
   intro τ1 H1
   exact⟨_,rfl,ds,s',rfl,hg,(H1.era 1).era 0⟩
 obtain⟨w,τ,R,ds,s',rfl,hg,H'⟩:=key
 exact⟨ds,s',τ,hg,R,H'⟩
theorem s_l06State_ret (H:Hx σ0 σ h) (k:Nat) (hk:h[k]? =some (cuI c v bs)) (D:Dr σ0 v bs):
  ∃(ds:List GV) (s:State) (τ:St),Grw st0 s∧Ret Try.prog n_s_l06State [c] σ (.agg ds) τ∧Hx σ0 τ (.th (own kState ds s)::h):=by
 have key:∃ w τ,Ret Try.prog n_s_l06State [c] σ w τ∧∃ ds s,w= .agg ds∧Grw st0 s∧Hx σ0 τ (.th (own kState ds s)::h):=by
  refine ret_x ir_s_l06State (Nat.le_of_ble_eq_true rfl) H ?_
  simp +contextual (disch:=omega) only[go_sem,F_s_l06State]
  intro n2 f2 τ2 H2
  have g2:=frX_len (h:=h) f2
  obtain⟨cs,τ3,R3,K3⟩:=s_StateNew_ret τ2
  refine by_c H2 R3 K3 fun H3=> ?_
  simp +contextual (disch:=omega) only[go_sem]
  obtain⟨x,τ4,hx,R4,H4⟩:=below_x H3 (k+2) hk D 9 (by decide) (by decide)
  refine by_k R4 H4 ?_
  obtain⟨q,hq⟩:∃ q:Nat,q=2+x:=⟨_,rfl⟩
  have e:(2:Int)+x=(q:Int):=by omega
  simp +contextual (disch:=omega) only[go_sem,e]
  obtain⟨ds,s,τ5,hg,R5,H5⟩:=s_l06Grown_ret H4 (k+1) hk D st0_ok q (by omega)
  have gl:ds.length=4:=kState.len (H5.hp.rd 0 rfl)
  refine by_k R5 H5 ?_
  simp +contextual (disch:=omega) only[go_sem,splice_full (cs:=z4) gl rfl,gl,seg_full gl]
  intro τ6 H6
  exact⟨_,rfl,ds,s,rfl,hg,H6.era 1⟩
 obtain⟨w,τ,R,ds,s,rfl,hg,H'⟩:=key
 exact⟨ds,s,τ,hg,R,H'⟩
end
end Go.Proofs.Ytbeoiejnogdkpaa.Sy
namespace Go.Proofs.Ytbeoiejnogdkpaa.Sy
open Go Go.RowKit
set_option linter.unusedSimpArgs false
set_option linter.unusedVariables false
set_option maxRecDepth 4000
abbrev n_s_l08Pair:Nat:=42
def F_s_l08Pair:Fn1:=⟨13,[.c 2 true 4,.t 3],(.seq (.reg [o 2 (.new [.nilS,.nilS,.nilS,.nilS]),o 3 (.mov (.k (.str ⟨#[]⟩)))]) (.seq (.reg [o 6 (.mov (.t 0)),o 7 (.call 28 [(.t 6)]),o 4 (.mov (.t 7))]) (.seq (.reg [o 8 (.mov (.t 4)),o 9 (.call 64 [(.t 8)]),o 5 (.mov (.t 9))]) (.seq (.reg [o 10 (.mov (.t 4)),o 11 (.call 43 [(.t 10)]),o 12 (.mov (.t 5)),on (.st 4 (.t 2) (.t 11)),o 3 (.mov (.t 12))]) .ret))))⟩
abbrev n_s_DrawGoneIn:Nat:=18
def F_s_DrawGoneIn:Fn1:=⟨8,[.c 2 true 4,.t 3],(.seq (.reg [o 2 (.new [.nilS,.nilS,.nilS,.nilS]),o 3 (.mov (.k (.str ⟨#[]⟩)))]) (.seq (.reg [o 4 (.mov (.t 0)),o 5 (.call 42 [(.t 4)]),o 6 (.ext 0 (.t 5)),o 7 (.ext 1 (.t 5)),on (.st 4 (.t 2) (.t 6)),o 3 (.mov (.t 7))]) .ret))⟩
abbrev n_s_DrawRefsTo:Nat:=19
def F_s_DrawRefsTo:Fn1:=⟨35,[.c 2 true 4,.c 3 true 2],(.seq (.reg [o 2 (.new [.nilS,.nilS,.nilS,.nilS]),o 3 (.new [(.int .i64 0),(.int .i64 0)])]) (.seq (.reg [o 7 (.mov (.t 0)),o 8 (.call 28 [(.t 7)]),o 4 (.mov (.t 8))]) (.seq (.reg [o 9 (.mov (.t 4)),o 10 (.call 30 [(.t 9),(.k (.int .i64 20))]),o 5 (.mov (.t 10))]) (.seq (.reg [o 11 (.mov (.t 4)),o 12 (.call 43 [(.t 11)]),o 6 (.new [.nilS,.nilS,.nilS,.nilS]),on (.st 4 (.t 6) (.t 12))]) (.seq (.seq (.reg [o 13 (.fad 3 (.t 6)),o 14 (.ld false 1 (.t 13)),o 15 (.len false (.t 14)),o 16 (.bin .gtr (.t 15) (.k (.int .i64 0))),o 17 (.mov (.t 16)),og 18 17 true (.mov (.t 4)),og 19 17 true (.call 44 [(.t 18),(.k (.int .i64 2))]),o 20 (.pick (.t 17) (.t 19) (.k (.bool false)))]) (.cnd (.t 20) (.seq (.drw [] [o 21 (.ld true 4 (.t 6)),o 22 (.fad 3 (.t 6)),o 23 (.ld false 1 (.t 22)),o 24 (.mov (.t 5)),o 25 (.fad 3 (.t 6)),o 26 (.ld false 1 (.t 25)),o 27 (.len false (.t 26)),o 28 (.bin .rem (.t 24) (.t 27)),o 29 (.iad 8 (.t 23) (.t 28)),o 30 (.fad 4 (.t 29)),o 31 (.ld true 2 (.t 30)),on (.st 4 (.t 2) (.t 21)),on (.chk 23 (.ld false 1 (.t 22))),on (.chk 26 (.ld false 1 (.t 25))),on (.chk 31 (.ld true 2 (.t 30))),on (.st 2 (.t 3) (.t 31))]) .ret) .skip)) (.seq (.drw [] [o 32 (.ld true 4 (.t 6)),o 33 (.mov (.t 4)),o 34 (.call 45 [(.t 33)]),on (.chk 32 (.ld true 4 (.t 6))),on (.st 4 (.t 2) (.t 32)),on (.st 2 (.t 3) (.t 34))]) .ret))))))⟩
abbrev n_s_DrawMayClear:Nat:=20
def F_s_DrawMayClear:Fn1:=⟨52,[.c 2 true 4,.c 3 true 2,.t 4],(.seq (.reg [o 2 (.new [.nilS,.nilS,.nilS,.nilS]),o 3 (.new [(.int .i64 0),(.int .i64 0)]),o 4 (.mov (.k .nilS))]) (.seq (.reg [o 11 (.mov (.t 0)),o 12 (.call 28 [(.t 11)]),o 5 (.mov (.t 12))]) (.seq (.reg [o 13 (.mov (.t 5)),o 14 (.call 30 [(.t 13),(.k (.int .i64 20))]),o 6 (.mov (.t 14))]) (.seq (.reg [o 15 (.mov (.t 5)),o 16 (.call 43 [(.t 15)]),o 7 (.new [.nilS,.nilS,.nilS,.nilS]),on (.st 4 (.t 7) (.t 16))]) (.seq (.reg [o 17 (.mov (.t 5)),o 18 (.ld true 4 (.t 7)),o 19 (.call 46 [(.t 17),(.t 18)]),o 8 (.mov (.t 19))]) (.seq (.seq (.reg [o 9 (.mov (.k (.int .i64 0)))]) (.blk 0 (.lop (.seq (.seq (.reg [o 20 (.mov (.t 9)),o 21 (.fad 3 (.t 7)),o 22 (.ld false 1 (.t 21)),o 23 (.len false (.t 22)),o 24 (.bin .lss (.t 20) (.t 23))]) (.cnd (.t 24) .skip (.ext 0))) (.seq (.blk 1 (.seq (.reg [o 27 (.mov (.t 9)),o 28 (.mov (.t 6)),o 29 (.bin .add (.t 27) (.t 28)),o 30 (.fad 3 (.t 7)),o 31 (.ld false 1 (.t 30)),o 32 (.len false (.t 31)),o 33 (.bin .rem (.t 29) (.t 32)),o 10 (.mov (.t 33))]) (.seq (.reg [o 34 (.fad 3 (.t 7)),o 35 (.ld false 1 (.t 34)),o 36 (.mov (.t 10)),o 37 (.iad 8 (.t 35) (.t 36)),o 38 (.fad 7 (.t 37)),o 39 (.ld false 1 (.t 38))]) (.cnd (.t 39) (.seq (.drw [] [o 40 (.ld true 4 (.t 7)),o 41 (.fad 3 (.t 7)),o 42 (.ld false 1 (.t 41)),o 43 (.mov (.t 10)),o 44 (.iad 8 (.t 42) (.t 43)),o 45 (.fad 1 (.t 44)),o 46 (.ld true 2 (.t 45)),o 47 (.mov (.t 8)),on (.st 4 (.t 2) (.t 40)),on (.chk 42 (.ld false 1 (.t 41))),on (.chk 46 (.ld true 2 (.t 45))),on (.st 2 (.t 3) (.t 46)),o 4 (.mov (.t 47))]) .ret) .skip)))) (.reg [o 25 (.mov (.t 9)),o 26 (.bin .add (.t 25) (.k (.int .i64 1))),o 9 (.mov (.t 26))])))))) (.seq (.drw [] [o 48 (.ld true 4 (.t 7)),o 49 (.mov (.t 5)),o 50 (.call 45 [(.t 49)]),on (.chk 48 (.ld true 4 (.t 7))),o 51 (.mov (.t 8)),on (.st 4 (.t 2) (.t 48)),on (.st 2 (.t 3) (.t 50)),o 4 (.mov (.t 51))]) .ret)))))))⟩
abbrev n_s_DrawClearOnce:Nat:=21
def F_s_DrawClearOnce:Fn1:=⟨14,[.c 2 true 4,.t 3],(.seq (.reg [o 2 (.new [.nilS,.nilS,.nilS,.nilS]),o 3 (.mov (.k .nilS))]) (.seq (.reg [o 6 (.mov (.t 0)),o 7 (.call 28 [(.t 6)]),o 4 (.mov (.t 7))]) (.seq (.reg [o 8 (.mov (.t 4)),o 9 (.call 43 [(.t 8)]),o 5 (.new [.nilS,.nilS,.nilS,.nilS]),on (.st 4 (.t 5) (.t 9))]) (.seq (.drw [] [o 10 (.ld true 4 (.t 5)),o 11 (.mov (.t 4)),o 12 (.ld true 4 (.t 5)),o 13 (.call 46 [(.t 11),(.t 12)]),on (.chk 10 (.ld true 4 (.t 5))),on (.st 4 (.t 2) (.t 10)),o 3 (.mov (.t 13))]) .ret))))⟩
abbrev n_s_l24Known:Nat:=46
def F_s_l24Known:Fn1:=⟨19,[.t 4],(.seq (.reg [o 3 (.box (.t 1)),o 4 (.mov (.k .nilS))]) (.seq (.seq (.reg [o 5 (.mov (.t 0)),o 6 (.call 30 [(.t 5),(.k (.int .i64 4))])]) (.blk 0 (.seq (.reg [o 8 (.bin .eql (.t 6) (.k (.int .i64 0))),o 7 (.mov (.t 8))]) (.cnd (.t 7) (.seq (.reg [o 9 (.mov (.t 0)),o 10 (.call 67 [(.t 9)]),o 4 (.mov (.t 10))]) .ret) (.seq (.reg [o 12 (.bin .eql (.t 6) (.k (.int .i64 1))),o 11 (.mov (.t 12))]) (.cnd (.t 11) (.seq (.reg [o 13 (.mov (.t 0)),o 14 (.call 68 [(.t 13)]),o 4 (.mov (.t 14))]) .ret) .skip)))))) (.seq (.reg [o 15 (.lit 1 0 [] []),o 16 (.fad 0 (.t 3)),o 17 (.ld false 1 (.t 16)),o 18 (.app 1 8 [(.int .i64 0)] (.t 15) (.t 17)),o 4 (.mov (.t 18))]) .ret)))⟩
section
variable {P:Program} {σ0 σ τ:St} {h:List Item} {c v:GV} {bs:List Int} {α:Type} {l:List α}
theorem Dr.pre (D:Dr σ0 v bs) (hp:σ0 <+: σ):Dr σ v bs:=⟨D.hv.pre hp,D.hl⟩
theorem new_x (H:Hx σ0 σ h) (D:Dr σ0 v bs):∃(c:GV) (τ:St),Ret Try.prog n_s_l01New [v] σ c τ∧Hx σ0 τ (cuI c v bs::h):=by
 obtain⟨c,τ,R,K⟩:=s_l01New_ret σ v bs (D.hv.pre H.sub) D.hl
 exact⟨c,τ,R,H.hp.add K⟩
end
end Go.Proofs.Ytbeoiejnogdkpaa.Sy
namespace Go.Proofs.Ytbeoiejnogdkpaa.Sy
open Go Go.RowKit
set_option linter.unusedSimpArgs false
set_option linter.unusedVariables false
set_option maxRecDepth 4000
abbrev n_l_big:Nat:=6
def F_l_big:Fn1:=⟨6,[.t 2],(.seq (.reg [o 2 (.mov (.k (.bool false)))]) (.seq (.reg [o 3 (.mov (.t 0)),o 4 (.len false (.t 3)),o 5 (.bin .gtr (.t 4) (.k (.int .i64 1048576))),o 2 (.mov (.t 5))]) .ret))⟩
theorem ir_l_big:compFn Try.prog n_l_big=some F_l_big:=by kernel_rfl
abbrev n_l_sameInts:Nat:=11
def F_l_sameInts:Fn1:=⟨26,[.t 4],(.seq (.reg [o 4 (.mov (.k (.bool false)))]) (.seq (.seq (.reg [o 6 (.mov (.t 0)),o 7 (.len false (.t 6)),o 8 (.mov (.t 1)),o 9 (.len false (.t 8)),o 10 (.bin .neq (.t 7) (.t 9))]) (.cnd (.t 10) (.seq (.reg [o 4 (.mov (.k (.bool false)))]) .ret) .skip)) (.seq (.seq (.reg [o 5 (.mov (.k (.int .i64 0)))]) (.blk 0 (.lop (.seq (.seq (.reg [o 11 (.mov (.t 5)),o 12 (.mov (.t 0)),o 13 (.len false (.t 12)),o 14 (.bin .lss (.t 11) (.t 13))]) (.cnd (.t 14) .skip (.ext 0))) (.seq (.blk 1 (.seq (.drw [o 17 (.mov (.t 0)),o 18 (.mov (.t 5)),o 19 (.iad 1 (.t 17) (.t 18)),o 20 (.ld false 1 (.t 19)),o 21 (.mov (.t 1)),o 22 (.mov (.t 5)),o 23 (.iad 1 (.t 21) (.t 22)),o 24 (.ld false 1 (.t 23))] [o 25 (.bin .neq (.t 20) (.t 24))]) (.cnd (.t 25) (.seq (.reg [o 4 (.mov (.k (.bool false)))]) .ret) .skip))) (.reg [o 15 (.mov (.t 5)),o 16 (.bin .add (.t 15) (.k (.int .i64 1))),o 5 (.mov (.t 16))])))))) (.seq (.reg [o 4 (.mov (.k (.bool true)))]) .ret))))⟩
theorem ir_l_sameInts:compFn Try.prog n_l_sameInts=some F_l_sameInts:=by kernel_rfl
theorem l_big_ret (σ:St) (v:GV) (l:List Int) (h:RS pB.kd σ v l):Ret Try.prog n_l_big [v] σ (.bool (decide ((1048576:Int)<l.length))) σ:=by
 refine ret_xe ir_l_big (Nat.le_of_ble_eq_true rfl) trivial ?_
 simp +contextual (disch:=omega) only[go_sem,F_l_big,h.len]
 try exact fun _=>rfl
theorem l_sameInts_ret (σ:St) (v u:GV) (a b:List Int) (ha:RS pI.kd σ v a) (hb:RS pI.kd σ u b) (hla:a.length≤1099511627776):Ret Try.prog n_l_sameInts [v,u] σ (.bool (decide (a=b))) σ:=by
 refine ret_eq ir_l_sameInts (Nat.le_of_ble_eq_true rfl) trivial ?_
 simp +contextual (disch:=omega) only[go_sem,F_l_sameInts,ha.len,hb.len]
 refine⟨fun hn=> ?_,fun hn=> ?_⟩
 ·have:a≠b:=fun h=>by subst h;simp at hn
  simp[this]
 ·have hlm:a.length=b.length:=by
                     have h2:(a.length:Int)=b.length:=by simpa using hn
                     omega
  refine vc_for a.length 5 (fun i env τ=>env 0=v∧env 1=u∧a.take i=b.take i∧σ <+: τ) rfl ⟨rfl,rfl,rfl,List.prefix_refl _⟩ ?_ ?_
  ·rintro i env τ hi e5 c0 ⟨e0,e1,he,hp⟩
   have hj:i<b.length:=by omega
   have hne:a[i]≠b[i]→a≠b:=fun h h'=>h (by subst h';rfl)
   have hst:a[i]=b[i]→a.take (i+1)=b.take (i+1):=fun h=>by rw[take_snoc hi,take_snoc hj,he,h]
   simp +contextual (disch:=omega) only[go_sem,c0,e0,e1,e5,ha.len,hb.len,int_at (ha.pre hp) hi,int_at (hb.pre hp) hj,hp]
   refine⟨fun h=> ?_,fun h=> ?_⟩
   ·simp[hne (by simpa using h)]
   ·simpa using hst (by simpa using h)
  ·rintro env τ e5 c0 ⟨e0,e1,he,hp⟩
   rw[List.take_length,hlm,List.take_length] at he
   simp +contextual (disch:=omega) only[go_sem,c0,e0,e1,e5,ha.len,hb.len,hp]
   simp[he]
end Go.Proofs.Ytbeoiejnogdkpaa.Sy
namespace Go.Proofs.Ytbeoiejnogdkpaa.Sy
open Go Go.RowKit
set_option linter.unusedSimpArgs false
set_option linter.unusedVariables false
set_option maxRecDepth 4000
abbrev n_s_DrawPlaces:Nat:=8
def F_s_DrawPlaces:Fn1:=⟨21,[.t 2],(.seq (.reg [o 2 (.mov (.k .nilS))]) (.seq (.reg [o 6 (.mov (.t 0)),o 7 (.call 28 [(.t 6)]),o 3 (.mov (.t 7))]) (.seq (.reg [o 8 (.mov (.t 3)),o 9 (.call 29 [(.t 8)])]) (.seq (.reg [o 10 (.lit 1 0 [] []),o 4 (.mov (.t 10))]) (.seq (.seq (.reg [o 5 (.mov (.k (.int .i64 0)))]) (.blk 0 (.lop (.seq (.seq (.reg [o 11 (.mov (.t 5)),o 12 (.bin .lss (.t 11) (.k (.int .i64 12)))]) (.cnd (.t 12) .skip (.ext 0))) (.seq (.blk 1 (.reg [o 15 (.mov (.t 4)),o 16 (.mov (.t 3)),o 17 (.call 30 [(.t 16),(.k (.int .i64 10000))]),o 18 (.lit 1 1 [(.int .i64 0)] [(0,1,(.t 17))]),o 19 (.app 1 8 [(.int .i64 0)] (.t 15) (.t 18)),o 4 (.mov (.t 19))])) (.reg [o 13 (.mov (.t 5)),o 14 (.bin .add (.t 13) (.k (.int .i64 1))),o 5 (.mov (.t 14))])))))) (.seq (.reg [o 20 (.mov (.t 4)),o 2 (.mov (.t 20))]) .ret))))))⟩
theorem ir_s_DrawPlaces:compFn Try.prog n_s_DrawPlaces=some F_s_DrawPlaces:=by kernel_rfl
abbrev n_s_DrawState:Nat:=7
def F_s_DrawState:Fn1:=⟨6,[.c 2 true 4],(.seq (.reg [o 2 (.new [.nilS,.nilS,.nilS,.nilS])]) (.seq (.reg [o 3 (.mov (.t 0)),o 4 (.call 28 [(.t 3)]),o 5 (.call 27 [(.t 4)]),on (.st 4 (.t 2) (.t 5))]) .ret))⟩
theorem ir_s_DrawState:compFn Try.prog n_s_DrawState=some F_s_DrawState:=by kernel_rfl
section
variable {σ0 σ τ:St} {h:List Item} {c v:GV} {bs:List Int}
theorem byte_x (H:Hx σ0 σ h) (k:Nat) (hk:h[k]? =some (cuI c v bs)) (D:Dr σ0 v bs):∃(x:Nat) (τ:St),x≤255∧Ret Try.prog n_s_l01Byte [c] σ (gi x) τ∧Hx σ0 τ h:=by
 obtain⟨r,τ,R,x,rfl,h1,h2,H'⟩:=s_l01Byte_ret (σ0:=σ0) H (at_t hk) D.hv D.hl
 obtain⟨y,rfl⟩:∃ y:Nat,x=y:=⟨x.toNat,by omega⟩
 exact⟨y,τ,by omega,R,H'⟩
theorem s_DrawState_ret (H:Hx σ0 σ h) (D:Dr σ0 v bs):∃(ds:List GV) (s:State) (τ:St),Grw st0 s∧Ret Try.prog n_s_DrawState [v] σ (.agg ds) τ∧Hx σ0 τ (.th (own kState ds s)::h):=by
 have key:∃ w τ,Ret Try.prog n_s_DrawState [v] σ w τ∧∃ ds s,w= .agg ds∧Grw st0 s∧Hx σ0 τ (.th (own kState ds s)::h):=by
  refine ret_x ir_s_DrawState (Nat.le_of_ble_eq_true rfl) H ?_
  simp +contextual (disch:=omega) only[go_sem,F_s_DrawState]
  intro n1 f1 τ1 H1
  have g1:=frX_len (h:=h) f1
  obtain⟨c,τ2,R2,H2⟩:=new_x H1 D
  refine by_k R2 H2 ?_
  simp +contextual (disch:=omega) only[go_sem]
  obtain⟨ds,s,τ3,hg,R3,H3⟩:=s_l06State_ret H2 0 rfl D
  have gl:ds.length=4:=kState.len (H3.hp.rd 0 rfl)
  refine by_k R3 H3 ?_
  simp +contextual (disch:=omega) only[go_sem,splice_full (cs:=z4) gl rfl,gl,seg_full gl]
  intro τ4 H4
  exact⟨_,rfl,ds,s,rfl,hg,(H4.era 2).era 1⟩
 obtain⟨w,τ,R,ds,s,rfl,h1,h2⟩:=key
 exact⟨ds,s,τ,h1,R,h2⟩
theorem s_DrawPlaces_ret (H:Hx σ0 σ h) (D:Dr σ0 v bs):∃(r:GV) (l:List Int) (τ:St),(l.length=12∧∀ x∈l,0≤x∧x<10000)∧Ret Try.prog n_s_DrawPlaces [v] σ r τ∧Hx σ0 τ (.th (ow pI.kd r l)::h):=by
 have key:∃ w τ,Ret Try.prog n_s_DrawPlaces [v] σ w τ∧∃ l:List Int,(l.length=12∧∀ x∈l,0≤x∧x<10000)∧Hx σ0 τ (.th (ow pI.kd w l)::h):=by
  refine ret_x ir_s_DrawPlaces (Nat.le_of_ble_eq_true rfl) H ?_
  simp +contextual (disch:=omega) only[go_sem,F_s_DrawPlaces]
  obtain⟨c,τ2,R2,H2⟩:=new_x H D
  refine by_k R2 H2 ?_
  simp +contextual (disch:=omega) only[go_sem]
  obtain⟨x0,τ3,hx0,R3,H3⟩:=byte_x H2 0 rfl D
  refine by_k R3 H3 ?_
  simp +contextual (disch:=omega) only[go_sem]
  intro n4 f4 τ4 H4
  refine sx_for 12 5 0 (fun i env hh=>env 3=c∧∃ w l,env 4=w∧l.length=i∧(∀ x∈l,(0:Int)≤x∧x<10000)∧hh= .th (ow pI.kd w l)::cuI c v bs::h) (fun env hh=>∃ w l,env 4=w∧l.length=12∧(∀ x∈l,(0:Int)≤x∧x<10000)∧hh= .th (ow pI.kd w l)::cuI c v bs::h) (fun _ _=>False) _ (H4.emp pI.kd rfl) (by simp +contextual (disch:=omega) only[go_sem]) ⟨by simp +contextual (disch:=omega) only[go_sem],_,[],by simp +contextual (disch:=omega) only[go_sem],rfl,by simp,rfl⟩ ?_ ?_ ?_ (fun _ _ _ _ h=>h.elim)
  ·clear H4
   rintro J Y W hJ hY hW i env h' τ hi ei c0 H ⟨e3,w,l,e4,hl,hx,rfl⟩
   have c0:decide ((i:Int)<12)=true:=c0
   simp +contextual (disch:=omega) only[go_sem,c0,e3,e4,ei]
   obtain⟨y,τ5,hy,R5,H5⟩:=below_x H 1 rfl D 10000 (by decide) (by decide)
   refine by_k R5 H5 ?_
   simp +contextual (disch:=omega) only[go_sem,e3,e4,ei]
   intro n6 f6 τ6 H6
   refine by_app1 (p:=pI) H6 1 rfl (y:Int) look_eq (by decide) (by omega) fun v' τ7 H7=> ?_
   simp +contextual (disch:=omega) only[go_sem,e3,e4,ei]
   exact hJ _ _ _ _ H7.tl ⟨by simp +contextual (disch:=omega) only[go_sem,e3],v',l++[(y:Int)],by simp +contextual (disch:=omega) only[go_sem],by simp[hl],fun x hx'=>by
    rcases List.mem_append.1 hx' with h|h
    ·exact hx x h
    ·simp only[List.mem_singleton] at h;subst h;exact⟨by omega,hy⟩,rfl⟩
  ·clear H4
   rintro Y hY env h' τ ei c0 H ⟨e3,w,l,e4,hl,hx,rfl⟩
   have c0:decide ((12:Int)<12)=false:=rfl
   simp +contextual (disch:=omega) only[go_sem,c0,ei]
   exact hY _ _ _ H ⟨w,l,e4,hl,hx,rfl⟩
  ·rintro env h' τ H ⟨w,l,e4,hl,hx,rfl⟩
   simp +contextual (disch:=omega) only[go_sem,e4]
   exact fun _=>⟨_,rfl,l,⟨hl,hx⟩,H.era 1⟩
 obtain⟨w,τ,R,l,h1,h2⟩:=key
 exact⟨w,l,τ,h1,R,h2⟩
end
end Go.Proofs.Ytbeoiejnogdkpaa.Sy
namespace Go.Proofs.Ytbeoiejnogdkpaa.Sy
open Go Go.RowKit
set_option linter.unusedSimpArgs false
set_option linter.unusedVariables false
set_option maxRecDepth 4000
abbrev n_s_ClearOnce:Nat:=22
def F_s_ClearOnce:Fn1:=⟨51,[.c 4 true 4,.t 5],(.seq (.reg [o 2 (.box (.t 0)),o 4 (.new [.nilS,.nilS,.nilS,.nilS]),o 5 (.mov (.k (.int .i64 0)))]) (.seq (.reg [o 8 (.ld true 4 (.t 2)),o 9 (.call 47 [(.t 8)]),o 6 (.new [.nilS,.nilS,.nilS,.nilS]),on (.st 4 (.t 6) (.t 9))]) (.seq (.seq (.reg [o 10 (.ld true 4 (.t 2)),o 11 (.call 14 [(.t 10)]),o 12 (.un .not (.t 11))]) (.cnd (.t 12) (.seq (.reg [o 13 (.ld true 4 (.t 6)),on (.st 4 (.t 4) (.t 13)),o 5 (.mov (.k (.int .i64 0)))]) .ret) .skip)) (.seq (.reg [o 14 (.lit 8 0 [] []),o 15 (.fad 3 (.t 6)),on (.st 1 (.t 15) (.t 14))]) (.seq (.seq (.reg [o 7 (.mov (.k (.int .i64 0)))]) (.blk 0 (.lop (.seq (.seq (.reg [o 16 (.mov (.t 7)),o 17 (.fad 3 (.t 2)),o 18 (.ld false 1 (.t 17)),o 19 (.len false (.t 18)),o 20 (.bin .lss (.t 16) (.t 19))]) (.cnd (.t 20) .skip (.ext 0))) (.seq (.blk 1 (.seq (.drw [o 23 (.ld true 4 (.t 2)),o 24 (.fad 3 (.t 2)),o 25 (.ld false 1 (.t 24)),o 26 (.mov (.t 7)),o 27 (.iad 8 (.t 25) (.t 26)),o 28 (.fad 1 (.t 27)),o 29 (.ld true 2 (.t 28))] [o 30 (.mov (.t 1)),o 31 (.call 48 [(.t 23),(.t 29),(.t 30)]),o 32 (.un .not (.t 31))]) (.cnd (.t 32) (.drw [o 33 (.fad 3 (.t 6)),o 34 (.ld false 1 (.t 33)),o 35 (.fad 3 (.t 2)),o 36 (.ld false 1 (.t 35)),o 37 (.mov (.t 7)),o 38 (.iad 8 (.t 36) (.t 37)),o 39 (.ld true 8 (.t 38)),o 40 (.lit 8 1 [(.str ⟨#[]⟩),(.int .i64 0),(.int .i64 0),(.int .i64 0),(.int .i64 0),(.int .i64 0),(.int .i64 0),(.bool false)] [(0,8,(.t 39))])] [o 41 (.app 8 72 [(.str ⟨#[]⟩),(.int .i64 0),(.int .i64 0),(.int .i64 0),(.int .i64 0),(.int .i64 0),(.int .i64 0),(.bool false)] (.t 34) (.t 40)),o 42 (.fad 3 (.t 6)),on (.st 1 (.t 42) (.t 41))]) .skip))) (.reg [o 21 (.mov (.t 7)),o 22 (.bin .add (.t 21) (.k (.int .i64 1))),o 7 (.mov (.t 22))])))))) (.seq (.drw [] [o 43 (.ld true 4 (.t 6)),o 44 (.fad 3 (.t 2)),o 45 (.ld false 1 (.t 44)),o 46 (.len false (.t 45)),o 47 (.fad 3 (.t 6)),o 48 (.ld false 1 (.t 47)),o 49 (.len false (.t 48)),o 50 (.bin .sub (.t 46) (.t 49)),on (.st 4 (.t 4) (.t 43)),on (.chk 45 (.ld false 1 (.t 44))),on (.chk 48 (.ld false 1 (.t 47))),o 5 (.mov (.t 50))]) .ret))))))⟩
abbrev n_i_ClearOnce:Nat:=10
def F_i_ClearOnce:Fn1:=⟨44,[.c 4 true 4,.t 5],(.seq (.reg [o 2 (.box (.t 0)),o 4 (.new [.nilS,.nilS,.nilS,.nilS]),o 5 (.mov (.k (.int .i64 0)))]) (.seq (.reg [o 9 (.ld true 4 (.t 2)),o 10 (.call 31 [(.t 9)]),o 6 (.new [.nilS,.nilS,.nilS,.nilS]),on (.st 4 (.t 6) (.t 10))]) (.seq (.seq (.reg [o 11 (.ld true 4 (.t 2)),o 12 (.call 32 [(.t 11)]),o 13 (.un .not (.t 12))]) (.cnd (.t 13) (.seq (.reg [o 14 (.ld true 4 (.t 6)),on (.st 4 (.t 4) (.t 14)),o 5 (.mov (.k (.int .i64 0)))]) .ret) .skip)) (.seq (.reg [o 15 (.fad 3 (.t 6)),on (.st 1 (.t 15) (.k .nilS))]) (.seq (.seq (.reg [o 16 (.fad 3 (.t 2)),o 17 (.ld false 1 (.t 16)),o 18 (.len false (.t 17)),o 19 (.mov (.k (.int .i64 0)))]) (.blk 0 (.lop (.seq (.reg [o 20 (.bin .lss (.t 19) (.t 18))]) (.seq (.cnd (.t 20) .skip (.ext 0)) (.seq (.blk 1 (.seq (.reg [o 21 (.iad 8 (.t 17) (.t 19)),o 22 (.ld true 8 (.t 21)),o 8 (.new [(.str ⟨#[]⟩),(.int .i64 0),(.int .i64 0),(.int .i64 0),(.int .i64 0),(.int .i64 0),(.int .i64 0),(.bool false)]),on (.st 8 (.t 8) (.t 22))]) (.seq (.reg [o 23 (.ld true 4 (.t 2)),o 24 (.fad 1 (.t 8)),o 25 (.ld true 2 (.t 24)),o 26 (.mov (.t 1)),o 27 (.call 33 [(.t 23),(.t 25),(.t 26)]),o 28 (.un .not (.t 27))]) (.cnd (.t 28) (.reg [o 29 (.fad 3 (.t 6)),o 30 (.ld false 1 (.t 29)),o 31 (.ld true 8 (.t 8)),o 32 (.lit 8 1 [(.str ⟨#[]⟩),(.int .i64 0),(.int .i64 0),(.int .i64 0),(.int .i64 0),(.int .i64 0),(.int .i64 0),(.bool false)] [(0,8,(.t 31))]),o 33 (.app 8 72 [(.str ⟨#[]⟩),(.int .i64 0),(.int .i64 0),(.int .i64 0),(.int .i64 0),(.int .i64 0),(.int .i64 0),(.bool false)] (.t 30) (.t 32)),o 34 (.fad 3 (.t 6)),on (.st 1 (.t 34) (.t 33))]) .skip)))) (.reg [o 35 (.bin .add (.t 19) (.k (.int .i64 1))),o 19 (.mov (.t 35))]))))))) (.seq (.drw [] [o 36 (.ld true 4 (.t 6)),o 37 (.fad 3 (.t 2)),o 38 (.ld false 1 (.t 37)),o 39 (.len false (.t 38)),o 40 (.fad 3 (.t 6)),o 41 (.ld false 1 (.t 40)),o 42 (.len false (.t 41)),o 43 (.bin .sub (.t 39) (.t 42)),on (.st 4 (.t 4) (.t 36)),on (.chk 38 (.ld false 1 (.t 37))),on (.chk 41 (.ld false 1 (.t 40))),o 5 (.mov (.t 43))]) .ret))))))⟩
theorem ir_i_ClearOnce:compFn Try.prog n_i_ClearOnce=some F_i_ClearOnce:=by kernel_rfl
def keepC (s:State) (kn:List Int) (c:Cell):Bool:= !mayClr s c.dot kn
def clr (s:State) (kn:List Int):State:=if stateOk s then {s with cells:=s.cells.filter (keepC s kn)} else s
def clrN (s:State) (kn:List Int):Int:=(s.cells.length:Int) - (clr s kn).cells.length
theorem clr_le (s:State) (kn:List Int):(clr s kn).cells.length≤s.cells.length:=by
 unfold clr
 split
 ·exact List.length_filter_le _ _
 ·exact Nat.le_refl _
theorem filter_snoc {l:List Cell} {p:Cell→Bool} {i:Nat} (hi:i<l.length):(l.take (i+1)).filter p=(l.take i).filter p++(if p l[i] then[l[i]] else[]):=by
 rw[take_snoc hi,List.filter_append]
 congr 1
 cases h:p l[i]<;>simp[h]
theorem i_ClearOnce_r0 (σ:St) (cs:List GV) (s:State) (hR:kState.R σ s cs) (u:GV) (kn:List Int) (hk:RS pI.kd σ u kn) (hl:msState s≤1099511627776) (hlk:kn.length≤1099511627776):
  ∃ r τ,Ret Try.prog n_i_ClearOnce [.agg cs,u] σ r τ∧∃ ds,r= .tup [.agg ds,gi (clrN s kn)]∧Hp σ τ [own kState ds (clr s kn)]:=by
 have hR0:=hR
 obtain⟨a,b,c,v,rfl,_,_,_,hc⟩:=hR
 obtain⟨l1,l2,l3,l4,_⟩:=msState_all hl
 refine ret_dr ir_i_ClearOnce (Nat.le_of_ble_eq_true rfl) ?_
 have H:=((Hp.refl σ).new 1 [a,b,c,v]).new 1 [GV.nilS,GV.nilS,GV.nilS,GV.nilS]
 simp +contextual (disch:=omega) only[go_sem,F_i_ClearOnce]
 obtain⟨ds,τ1,R,K⟩:=i_copyState_ret _ _ s (kState.pre hR0 H.sub) hl
 refine by_hp R K ?_
 have H:=H.add K
 have gl:ds.length=4:=kState.len (K.rd 0 rfl)
 have H:=H.new 1 ds
 have z2:=H.pt 3 rfl
 simp +contextual (disch:=omega) only[go_sem,splice_full (cs:=[GV.nilS,GV.nilS,GV.nilS,GV.nilS]) gl rfl,gl,ld_ptr z2]
 refine by_bool (i_StateOk_ret _ _ s (kState.pre hR0 H.sub) hl) (fun hok=> ?_) (fun hok=> ?_)
 rotate_left
 ·have ec:clr s kn=s:=by simp[clr,hok]
  have en:clrN s kn=0:=by simp[clrN,ec]
  have z6:=H.pt 0 rfl
  obtain⟨τ2,e2,H2,_⟩:=H.st 2 rfl 4 0 (.agg ds) gl (by decide) (by simp)
  have z4:rdB τ2 _=some (splice [GV.nilS,GV.nilS,GV.nilS,GV.nilS] 0 ds):=H2.pt 2 rfl
  rw[splice_full gl rfl] at z4
  simp +contextual (disch:=omega) only[go_sem,ld_ptr z6,seg_full gl,e2,ld_ptr z4]
  refine⟨_,rfl,ds,by rw[en],?_⟩
  rw[ec]
  exact(H2.pick 1 rfl).one
 have ec:clr s kn={s with cells:=s.cells.filter (keepC s kn)}:=by simp[clr,hok]
 obtain⟨v0,v1,v2,v3,rfl,H⟩:=(H.pick 1 rfl).splitState
 have H:Hp σ _ [ow pI.kd v0 s.know,ow pTally.kd v1 s.tallies,ow pLive.kd v2 s.lives,ow pCell.kd v3 s.cells,pt 1 τ1.length [v0,v1,v2,v3],pt 1 (σ++[some (Blk.row 1 [a,b,c,v])]).length [GV.nilS,GV.nilS,GV.nilS,GV.nilS],pt 1 σ.length [a,b,c,v]]:=H
 obtain⟨τ2,e2,H,_⟩:=H.st 4 rfl 1 3 .nilS rfl (by decide) (by simp)
 have H:Hp σ τ2 [ow pI.kd v0 s.know,ow pTally.kd v1 s.tallies,ow pLive.kd v2 s.lives,ow pCell.kd v3 s.cells,pt 1 τ1.length [v0,v1,v2,.nilS],pt 1 (σ++[some (Blk.row 1 [a,b,c,v])]).length [GV.nilS,GV.nilS,GV.nilS,GV.nilS],pt 1 σ.length [a,b,c,v]]:=H
 have H:=H.nilS (d:=pCell.kd)
 generalize hb6:τ1.length=b6 at*
 generalize hb4:(σ++[some (Blk.row 1 [a,b,c,v])]).length=b4 at*
 generalize hb2:σ.length=b2 at*
 simp +contextual (disch:=omega) only[go_sem,e2,ld_ptr (H.pt 7 rfl),hc.len]
 refine vc_for s.cells.length 19 (fun i env τ=>env 1=u∧env 2= .ptr b2 0∧env 4= .ptr b4 0∧env 6= .ptr b6 0∧env 17=v∧env 18=gi s.cells.length∧∃ w,Hp σ τ [ow pCell.kd w ((s.cells.take i).filter (keepC s kn)),ow pI.kd v0 s.know,ow pTally.kd v1 s.tallies,ow pLive.kd v2 s.lives,ow pCell.kd v3 s.cells,pt 1 b6 [v0,v1,v2,w],pt 1 b4 [GV.nilS,GV.nilS,GV.nilS,GV.nilS],pt 1 b2 [a,b,c,v]]) rfl ⟨rfl,rfl,rfl,rfl,rfl,rfl,_,H⟩ ?_ ?_
 ·rintro i env τ hi e19 c0 ⟨e1,e2,e4,e6,e17,e18,w,H⟩
  have hfl:=List.length_filter_le (keepC s kn) (s.cells.take i)
  rw[List.length_take] at hfl
  have C1:=Cell_at (hc.pre H.sub) hi
  have G:=H.grow (pre1 τ (some (Blk.row 1 [.str s.cells[i].obj,gi s.cells[i].dot.rep,gi s.cells[i].dot.seq,gi s.cells[i].time,gi s.cells[i].ref.rep,gi s.cells[i].ref.seq,gi s.cells[i].val,.bool s.cells[i].gone])))
  simp +contextual (disch:=omega) only[go_sem,c0,e1,e2,e4,e6,e17,e18,e19,C1,ld_ptr (G.pt 7 rfl)]
  refine by_bool (i_mayClear_ret _ _ s (kState.pre hR0 G.sub) s.cells[i].dot u kn (hk.pre G.sub) hl hlk) (fun hm=> ?_) (fun hm=> ?_)
  ·have hkp:keepC s kn s.cells[i]=false:=by simp[keepC,hm]
   have hfs:=filter_snoc (p:=keepC s kn) hi
   rw[hkp] at hfs
   simp only[Bool.false_eq_true,if_false,List.append_nil] at hfs
   simp +contextual (disch:=omega) only[go_sem,e1,e2,e4,e6,e17,e18,e19]
   exact⟨w,by rw[hfs];exact G⟩
  ·have hkp:keepC s kn s.cells[i]=true:=by simp[keepC,hm]
   have hfs:=filter_snoc (p:=keepC s kn) hi
   rw[hkp] at hfs
   simp only[if_true] at hfs
   obtain⟨w',τ3,e3,H3⟩:=G.app_Cell 0 rfl s.cells[i] (by omega)
   obtain⟨τ4,e5,H4,_⟩:=H3.st 5 rfl 1 3 w' (by rw[(H3.sl 0 rfl).cell];rfl) (by decide) (by simp)
   simp +contextual (disch:=omega) only[go_sem,e1,e2,e4,e6,e17,e18,e19,ld_ptr (G.pt 5 rfl),e3,e5]
   refine⟨w',?_⟩
   rw[hfs]
   have c1:=(H3.sl 0 rfl).cell
   simp only[c1,List.set_cons_zero,List.set_cons_succ,splice_succ,splice_cons,splice_nil] at H4
   exact H4
 ·rintro env τ e19 c0 ⟨e1,e2,e4,e6,e17,e18,w,H⟩
  rw[List.take_length] at H
  have hfl:=List.length_filter_le (keepC s kn) s.cells
  have hwl:=(H.sl 0 rfl).len
  obtain⟨τ3,e3,H3,_⟩:=H.st 6 rfl 4 0 (.agg [v0,v1,v2,w]) rfl (by decide) (by simp)
  have z3:=H3.pt 6 rfl
  have z3:rdB τ3 b4=some [v0,v1,v2,w]:=z3
  simp +contextual (disch:=omega) only[go_sem,c0,e1,e2,e4,e6,e17,e18,e19,ld_ptr (H.pt 5 rfl),ld_ptr (H.pt 7 rfl),hc.len,hwl,e3,ld_ptr z3,ld_ptr (H3.pt 5 rfl),ld_ptr (H3.pt 7 rfl)]
  refine⟨_,rfl,[v0,v1,v2,w],?_,?_⟩
  ·rw[clrN,ec]
  ·rw[ec]
   exact((((H3.pick 3 rfl).pick 3 rfl).pick 3 rfl).ownState (x:={s with cells:=s.cells.filter (keepC s kn)})).one
theorem i_ClearOnce_ret (σ:St) (cs:List GV) (s:State) (hR:kState.R σ s cs) (u:GV) (kn:List Int) (hk:RS pI.kd σ u kn) (hl:msState s≤1099511627776) (hlk:kn.length≤1099511627776):
  ∃ ds τ,Ret Try.prog n_i_ClearOnce [.agg cs,u] σ (.tup [.agg ds,gi (clrN s kn)]) τ∧Hp σ τ [own kState ds (clr s kn)]:=by
 obtain⟨r,τ,R,ds,rfl,H⟩:=i_ClearOnce_r0 σ cs s hR u kn hk hl hlk
 exact⟨ds,τ,R,H⟩
end Go.Proofs.Ytbeoiejnogdkpaa.Sy
namespace Go.Proofs.Ytbeoiejnogdkpaa.Sy
open Go Go.RowKit
set_option linter.unusedSimpArgs false
set_option linter.unusedVariables false
set_option maxRecDepth 4000
abbrev n_s_Cleared:Nat:=23
def F_s_Cleared:Fn1:=⟨26,[.c 4 true 4,.t 5],(.seq (.reg [o 2 (.box (.t 0)),o 4 (.new [.nilS,.nilS,.nilS,.nilS]),o 5 (.mov (.k (.int .i64 0)))]) (.seq (.reg [o 10 (.ld true 4 (.t 2)),o 11 (.call 47 [(.t 10)]),o 6 (.new [.nilS,.nilS,.nilS,.nilS]),on (.st 4 (.t 6) (.t 11))]) (.seq (.reg [o 7 (.mov (.k (.int .i64 0)))]) (.blk 0 (.lop (.blk 1 (.seq (.reg [o 13 (.ld true 4 (.t 6)),o 14 (.mov (.t 1)),o 15 (.call 22 [(.t 13),(.t 14)]),o 12 (.mov (.t 15)),o 16 (.ext 0 (.t 12)),o 17 (.ext 1 (.t 12)),o 8 (.new [.nilS,.nilS,.nilS,.nilS]),on (.st 4 (.t 8) (.t 16)),o 9 (.mov (.t 17))]) (.seq (.seq (.reg [o 18 (.mov (.t 9)),o 19 (.bin .eql (.t 18) (.k (.int .i64 0)))]) (.cnd (.t 19) (.seq (.reg [o 20 (.ld true 4 (.t 6)),o 21 (.mov (.t 7)),on (.st 4 (.t 4) (.t 20)),o 5 (.mov (.t 21))]) .ret) .skip)) (.seq (.reg [o 22 (.ld true 4 (.t 8)),on (.st 4 (.t 6) (.t 22))]) (.reg [o 23 (.mov (.t 7)),o 24 (.mov (.t 9)),o 25 (.bin .add (.t 23) (.t 24)),o 7 (.mov (.t 25))]))))))))))⟩
abbrev n_i_Cleared:Nat:=9
def F_i_Cleared:Fn1:=⟨26,[.c 4 true 4,.t 5],(.seq (.reg [o 2 (.box (.t 0)),o 4 (.new [.nilS,.nilS,.nilS,.nilS]),o 5 (.mov (.k (.int .i64 0)))]) (.seq (.reg [o 10 (.ld true 4 (.t 2)),o 11 (.call 31 [(.t 10)]),o 6 (.new [.nilS,.nilS,.nilS,.nilS]),on (.st 4 (.t 6) (.t 11))]) (.seq (.reg [o 7 (.mov (.k (.int .i64 0)))]) (.blk 0 (.lop (.blk 1 (.seq (.reg [o 13 (.ld true 4 (.t 6)),o 14 (.mov (.t 1)),o 15 (.call 10 [(.t 13),(.t 14)]),o 12 (.mov (.t 15)),o 16 (.ext 0 (.t 12)),o 17 (.ext 1 (.t 12)),o 8 (.new [.nilS,.nilS,.nilS,.nilS]),on (.st 4 (.t 8) (.t 16)),o 9 (.mov (.t 17))]) (.seq (.seq (.reg [o 18 (.mov (.t 9)),o 19 (.bin .eql (.t 18) (.k (.int .i64 0)))]) (.cnd (.t 19) (.seq (.reg [o 20 (.ld true 4 (.t 6)),o 21 (.mov (.t 7)),on (.st 4 (.t 4) (.t 20)),o 5 (.mov (.t 21))]) .ret) .skip)) (.seq (.reg [o 22 (.ld true 4 (.t 8)),on (.st 4 (.t 6) (.t 22))]) (.reg [o 23 (.mov (.t 7)),o 24 (.mov (.t 9)),o 25 (.bin .add (.t 23) (.t 24)),o 7 (.mov (.t 25))]))))))))))⟩
theorem ir_i_Cleared:compFn Try.prog n_i_Cleared=some F_i_Cleared:=by kernel_rfl
def clrs (kn:List Int):Nat→State→State
 |0,s=>s
 |f+1,s=>if clrN s kn=0 then s else clrs kn f (clr s kn)
theorem clrN_pos (s:State) (kn:List Int):0≤clrN s kn:=by
 have:=clr_le s kn
 unfold clrN;omega
theorem clrs_more {kn:List Int}:∀ {f g:Nat} {s:State},s.cells.length≤f→f≤g→clrs kn g s=clrs kn f s
 |0,0,s,_,_=>rfl
 |0,g+1,s,h,_=>by
  have h1:=clr_le s kn
  have:clrN s kn=0:=by unfold clrN;omega
  simp[clrs,this]
 |f+1,0,s,_,h=>by omega
 |f+1,g+1,s,h,hg=>by
  simp only[clrs]
  split
  ·rfl
  ·rename_i hn
   have h1:=clr_le s kn
   have h2:=clrN_pos s kn
   refine clrs_more ?_ (by omega)
   unfold clrN at hn h2;omega
def clrA (s:State) (kn:List Int):State:=clrs kn s.cells.length s
def clrC (s:State) (kn:List Int):Int:=(s.cells.length:Int) - (clrA s kn).cells.length
theorem clrA_stop {s:State} {kn:List Int} (h:clrN s kn=0):clrA s kn=s:=by
 unfold clrA
 cases s.cells.length with
 |zero=>rfl
 |succ f=>simp[clrs,h]
theorem clrA_step {s:State} {kn:List Int} (h:clrN s kn≠0):clrA (clr s kn) kn=clrA s kn:=by
 have h1:=clr_le s kn
 have h2:=clrN_pos s kn
 have h3:(clr s kn).cells.length<s.cells.length:=by unfold clrN at h h2;omega
 unfold clrA
 obtain⟨f,hf⟩:∃ f,s.cells.length=f+1:=⟨s.cells.length - 1,by omega⟩
 rw[hf,clrs,if_neg h]
 exact(clrs_more (Nat.le_refl _) (by omega)).symm
theorem sumL_filter {α:Type} (f:α→Nat) (p:α→Bool):∀ l:List α,sumL f (l.filter p)≤sumL f l
 |[]=>Nat.le_refl _
 |x::l=>by
  have:=sumL_filter f p l
  rw[List.filter_cons]
  split
  ·simp only[sumL,List.map_cons,List.sum_cons] at *;omega
  ·simp only[sumL,List.map_cons,List.sum_cons] at *;omega
theorem clr_ms (s:State) (kn:List Int):msState (clr s kn)≤msState s:=by
 unfold clr
 split
 ·unfold msState
  simp only
  have h1:=List.length_filter_le (keepC s kn) s.cells
  have h2:sumL msCell (s.cells.filter (keepC s kn))≤sumL msCell s.cells:=sumL_filter _ _ _
  omega
 ·exact Nat.le_refl _
theorem i_Cleared_r0 (σ:St) (cs:List GV) (s:State) (hR:kState.R σ s cs) (u:GV) (kn:List Int) (hk:RS pI.kd σ u kn) (hl:msState s≤1099511627776) (hlk:kn.length≤1099511627776):
  ∃ r τ,Ret Try.prog n_i_Cleared [.agg cs,u] σ r τ∧∃ ds,r= .tup [.agg ds,gi (clrC s kn)]∧Hp σ τ [own kState ds (clrA s kn)]:=by
 have hlen:=kState.len hR
 have l4:=(msState_all hl).2.2.2.1
 refine ret_dr ir_i_Cleared (Nat.le_of_ble_eq_true rfl) ?_
 have H:=((Hp.refl σ).new 1 cs).new 1 [GV.nilS,GV.nilS,GV.nilS,GV.nilS]
 have hs4:(seg cs 0 4).bind (mkv true)=some (.agg cs):=seg_full hlen
 simp +contextual (disch:=omega) only[go_sem,F_i_Cleared,hs4]
 obtain⟨ds,τ1,R,K⟩:=i_copyState_ret _ _ s (kState.pre hR H.sub) hl
 refine by_hp R K ?_
 have H:=H.add K
 have gl:ds.length=4:=kState.len (K.rd 0 rfl)
 have H:=H.new 1 ds
 simp +contextual (disch:=omega) only[go_sem,splice_full (cs:=[GV.nilS,GV.nilS,GV.nilS,GV.nilS]) gl rfl,gl]
 generalize hb6:τ1.length=b6 at*
 generalize hb4:(σ++[some (Blk.row 1 cs)]).length=b4 at*
 have H:Hp σ (τ1++[some (Blk.row 1 ds)]) [pt 1 b6 ds,own kState ds s,pt 1 b4 [GV.nilS,GV.nilS,GV.nilS,GV.nilS]]:=(((H.pick 3 rfl).drop1.pick 2 rfl).pick 2 rfl).pick 2 rfl
 refine vc_lopJ (fun m env τ=>∃(x:State) (es:List GV),m=x.cells.length∧clrA x kn=clrA s kn∧x.cells.length≤s.cells.length∧msState x≤msState s∧env 1=u∧env 4= .ptr b4 0∧env 6= .ptr b6 0∧env 7=gi ((s.cells.length:Int) - x.cells.length)∧Hp σ τ [pt 1 b6 es,own kState es x,pt 1 b4 [GV.nilS,GV.nilS,GV.nilS,GV.nilS]]) s.cells.length ⟨s,ds,rfl,rfl,Nat.le_refl _,Nat.le_refl _,rfl,rfl,rfl,by rw[Int.sub_self];rfl,H⟩ ?_
 rintro J hJ m env τ ⟨x,es,rfl,hx,hxl,hxm,e1,e4,e6,e7,H⟩
 have hes:es.length=4:=kState.len (H.rd 1 rfl)
 have hs5:=seg_full hes
 have hs5:(seg es 0 4).bind (mkv true)=some (.agg es):=hs5
 simp +contextual (disch:=omega) only[go_sem,e1,e6,ld_ptr (H.pt 0 rfl),hs5]
 obtain⟨ds',τ2,R2,K2⟩:=i_ClearOnce_ret _ es x (H.rd 1 rfl) u kn (hk.pre H.sub) (by omega) hlk
 refine by_hp R2 K2 ?_
 have H2:=(H.add K2).new 1 ds'
 have gl2:ds'.length=4:=kState.len (K2.rd 0 rfl)
 have hs6:(seg ds' 0 4).bind (mkv true)=some (.agg ds'):=seg_full gl2
 generalize hb8:τ2.length=b8 at*
 have H2:Hp σ (τ2++[some (Blk.row 1 ds')]) [pt 1 b8 ds',own kState ds' (clr x kn),pt 1 b6 es,own kState es x,pt 1 b4 [GV.nilS,GV.nilS,GV.nilS,GV.nilS]]:=H2
 have hbn:=clrN_pos x kn
 have hbl:=clr_le x kn
 by_cases hn:clrN x kn=0
 ·have d1:(clrN x kn==0)=true:=by simpa using hn
  obtain⟨τ3,e3,H3,_⟩:=H2.st 4 rfl 4 0 (.agg es) hes (by decide) (by simp)
  have z4:rdB τ3 b4=some (splice [GV.nilS,GV.nilS,GV.nilS,GV.nilS] 0 es):=H3.pt 4 rfl
  rw[splice_full hes rfl] at z4
  simp +contextual (disch:=omega) only[go_sem,splice_full (cs:=[GV.nilS,GV.nilS,GV.nilS,GV.nilS]) gl2 rfl,gl2,e1,e4,e6,e7,d1,ld_ptr (H2.pt 2 rfl),hs5,e3,ld_ptr z4]
  refine⟨_,rfl,es,?_,?_⟩
  ·rw[clrC,←hx,clrA_stop hn]
  ·rw[← hx,clrA_stop hn]
   exact(H3.pick 3 rfl).one
 ·have d1:(clrN x kn==0)=false:=by simpa using hn
  obtain⟨τ3,e3,H3,_⟩:=H2.st 2 rfl 4 0 (.agg ds') gl2 (by decide) (by simp[hes])
  have hcl:(clr x kn).cells.length<x.cells.length:=by unfold clrN at hn hbn;omega
  have hcn:clrN x kn≤x.cells.length:=by unfold clrN;omega
  simp +contextual (disch:=omega) only[go_sem,splice_full (cs:=[GV.nilS,GV.nilS,GV.nilS,GV.nilS]) gl2 rfl,gl2,e1,e4,e6,e7,d1,ld_ptr (H2.pt 0 rfl),hs6,e3]
  refine⟨_,hcl,hJ _ _ _ ⟨clr x kn,ds',rfl,?_,by omega,Nat.le_trans (clr_ms x kn) hxm,?_,?_,?_,?_,?_⟩⟩
  ·rw[clrA_step hn,hx]
  ·simp +contextual (disch:=omega) only[go_sem,e1]
  ·simp +contextual (disch:=omega) only[go_sem,e4]
  ·simp +contextual (disch:=omega) only[go_sem,e6]
  ·simp +contextual (disch:=omega) only[go_sem,e7]
   have hw:clrN x kn=(x.cells.length:Int) - (clr x kn).cells.length:=rfl
   omega
  ·rw[show ([pt 1 b8 ds',own kState ds' (clr x kn),pt 1 b6 es,own kState es x,pt 1 b4 [GV.nilS,GV.nilS,GV.nilS,GV.nilS]].set 2 (pt 1 b6 (splice es 0 (GV.agg ds').cells)))=[pt 1 b8 ds',own kState ds' (clr x kn),pt 1 b6 ds',own kState es x,pt 1 b4 [GV.nilS,GV.nilS,GV.nilS,GV.nilS]] by simp[GV.cells,splice_full gl2 hes]] at H3
   exact(((H3.drop1.pick 2 rfl).drop1.pick 0 rfl).pick 1 rfl)
theorem i_Cleared_ret (σ:St) (cs:List GV) (s:State) (hR:kState.R σ s cs) (u:GV) (kn:List Int) (hk:RS pI.kd σ u kn) (hl:msState s≤1099511627776) (hlk:kn.length≤1099511627776):
  ∃ ds τ,Ret Try.prog n_i_Cleared [.agg cs,u] σ (.tup [.agg ds,gi (clrC s kn)]) τ∧Hp σ τ [own kState ds (clrA s kn)]:=by
 obtain⟨r,τ,R,ds,rfl,H⟩:=i_Cleared_r0 σ cs s hR u kn hk hl hlk
 exact⟨ds,τ,R,H⟩
end Go.Proofs.Ytbeoiejnogdkpaa.Sy
namespace Go.Proofs.Ytbeoiejnogdkpaa.Sy
open Go Go.RowKit
set_option linter.unusedSimpArgs false
set_option linter.unusedVariables false
theorem cells_nd {s:State} (h:OkS s):(s.cells.map (·.dot)).Nodup:=by
 rw[List.nodup_iff_pairwise_ne,List.pairwise_map]
 refine h.cl.imp fun {a b} hab e=> ?_
 rw[e,dotLt_irr] at hab;cases hab
theorem keepC_iff {s:State} {kn:List Int} (h:OkS s) {c:Cell} (hc:c∈s.cells):keepC s kn c=false↔c.gone=true∧knows kn c.dot=true∧refsTo s.cells c.dot=0:=by
 obtain⟨k,hk,hkl,e⟩:=cellIx_mem h.cl hc
 unfold keepC mayClr
 rw[hk]
 simp only
 rw[onI_at hkl,e]
 simp
theorem refs0 {l:List Cell} {d:Dot} (hd:d≠⟨0,0⟩) (h:refsTo l d=0):∀ c∈l,c.ref≠d:=fun c hc e=>by
 unfold refsTo at h
 rw[List.countP_eq_zero] at h
 have:=h c hc
 simp[e,hd] at this
theorem dot_nz {k:List Int} {d:Dot} (h:knows k d=true):d≠⟨0,0⟩:=fun e=>by
 rw[e] at h
 simp[knows,dotOk,inB] at h
theorem clr_ok {s:State} {kn:List Int} (h:OkS s):OkS (clr s kn):=by
 unfold clr
 rw[if_pos (okS_iff.2 h)]
 refine {kn:=h.kn,tl:=h.tl,t1:=h.t1,tn:=h.tn,ll:=h.ll,l1:=h.l1,ln:=h.ln,cl:=h.cl.filter _,c1:=fun x hx=>h.c1 x (List.mem_filter.1 hx).1,cn:=Nat.le_trans (List.length_filter_le _ _) h.cn,rf:=fun c hc=> ?_}
 obtain⟨hc,_⟩:=List.mem_filter.1 hc
 rcases h.rf c hc with e|⟨y,hy,e1,e2,e3⟩
 ·exact .inl e
 ·refine .inr ⟨y,List.mem_filter.2 ⟨hy,?_⟩,e1,e2,e3⟩
  cases hk:keepC s kn y with
  |true=>rfl
  |false=>
   have:=(keepC_iff h hy).1 hk
   exact absurd e1.symm (refs0 (dot_nz (h.c1 y hy).1) this.2.2 c hc)
theorem rowF_leaf {sc:List Cell} {K:Cell→Bool} (hk:∀ c∈sc,K c=false→∀ x∈sc,x.ref≠c.dot):∀(f:Nat) (d:Dot),rowF (sc.filter K) f d=(rowF sc f d).filter K
 |0,d=>rfl
 |f+1,d=>by
  rw[rowF,rowF,List.filter_flatMap]
  have e:(sc.filter K).filter (isRef d)=(sc.filter (isRef d)).filter K:=by
   rw[List.filter_filter,List.filter_filter];congr 1;funext c;exact Bool.and_comm _ _
  rw[e]
  have key:∀ l:List Cell,(∀ c∈l,c∈sc)→(l.filter K).flatMap (fun c=>c::rowF (sc.filter K) f c.dot)=l.flatMap fun c=>(c::rowF sc f c.dot).filter K:=by
   intro l
   induction l with
   |nil=>intro _;rfl
   |cons c l ih=>
    intro hl
    rw[List.filter_cons,List.flatMap_cons]
    have ih:=ih fun x hx=>hl x (List.mem_cons_of_mem _ hx)
    cases hc:K c with
    |true=>
     rw[if_pos rfl,List.flatMap_cons,ih,rowF_leaf hk f c.dot]
     simp[List.filter_cons,hc]
    |false=>
     have hz:rowF sc f c.dot=[]:=by
      cases f with
      |zero=>rfl
      |succ f=>
       have:sc.filter (isRef c.dot)=[]:=List.filter_eq_nil_iff.2 fun x hx=>by
        simpa [isRef] using hk c (hl c List.mem_cons_self) hc x hx
       rw[rowF,this];rfl
     rw[if_neg (by simp),ih,hz]
     simp[List.filter_cons,hc]
  exact key _ fun c hc=>(List.mem_filter.1 hc).1
theorem objC_filter {l:List Cell} (h:(l.map (·.dot)).Nodup) (K:Cell→Bool) (o:ByteArray):objC (l.filter K) o=(objC l o).filter K:=by
 unfold objC
 refine(sort_insAll swo_later (fun x hx y hy h1 h2=> ?_) ?_ ((insAll_up swo_later _).sublist List.filter_sublist)).symm
 ·have hx:=(List.mem_filter.1 (List.mem_filter.1 hx).1).1
  have hy:=(List.mem_filter.1 (List.mem_filter.1 hy).1).1
  exact cell_eq h hx hy (later_tri h1 h2)
 ·have e:(l.filter K).filter (isObj o)=(l.filter (isObj o)).filter K:=by
   rw[List.filter_filter,List.filter_filter];congr 1;funext c;exact Bool.and_comm _ _
  rw[e]
  exact(insAll_perm later _).filter _
theorem rowL_clr {s:State} {kn:List Int} (h:OkS s) (o:ByteArray):rowL (clr s kn) o=rowL s o:=by
 unfold rowL
 rw[if_pos (okS_iff.2 (clr_ok h)),if_pos (okS_iff.2 h)]
 have ec:(clr s kn).cells=s.cells.filter (keepC s kn):=by unfold clr;rw[if_pos (okS_iff.2 h)]
 unfold rowC rowA
 rw[ec,objC_filter (cells_nd h)]
 rw[rowF_leaf (fun c hc hk x hx=> ?_),List.filter_filter]
 ·refine List.filter_congr fun c hc=> ?_
  have hm:c∈s.cells:=(objC_mem.1 (rowF_mem hc)).1
  cases hg:c.gone with
  |true=>rfl
  |false=>
   have:keepC s kn c=true:=by
    cases hk:keepC s kn c with
    |true=>rfl
    |false=>have:=(keepC_iff h hm).1 hk;rw[hg] at this;cases this.1
   simp[this]
 ·have hcm:=(objC_mem.1 hc).1
  have:=(keepC_iff h hcm).1 hk
  exact refs0 (dot_nz (h.c1 c hcm).1) this.2.2 x (objC_mem.1 hx).1
theorem clrs_ok {kn:List Int}:∀(f:Nat) {s:State},OkS s→OkS (clrs kn f s)
 |0,s,h=>h
 |f+1,s,h=>by
  unfold clrs
  split
  ·exact h
  ·exact clrs_ok f (clr_ok h)
theorem clrs_row {kn:List Int} (o:ByteArray):∀(f:Nat) {s:State},OkS s→rowL (clrs kn f s) o=rowL s o
 |0,s,h=>rfl
 |f+1,s,h=>by
  unfold clrs
  split
  ·rfl
  ·rw[clrs_row o f (clr_ok h),rowL_clr h]
theorem clrs_len {kn:List Int}:∀(f:Nat) (s:State),(clrs kn f s).cells.length≤s.cells.length
 |0,s=>Nat.le_refl _
 |f+1,s=>by
  unfold clrs
  split
  ·exact Nat.le_refl _
  ·exact Nat.le_trans (clrs_len f _) (clr_le s kn)
theorem clrs_end {kn:List Int}:∀(f:Nat) {s:State},s.cells.length≤f→clrN (clrs kn f s) kn=0
 |0,s,h=>by
  have h1:=clr_le s kn
  show clrN s kn=0
  unfold clrN;omega
 |f+1,s,h=>by
  unfold clrs
  split
  ·rename_i h0;exact h0
  ·rename_i h0
   have h1:=clr_le s kn
   refine clrs_end f ?_
   unfold clrN at h0;omega
theorem clr_fix {s:State} {kn:List Int} (h:clrN s kn=0):clr s kn=s:=by
 unfold clrN at h
 unfold clr at h ⊢
 split
 ·rename_i hs
  rw[if_pos hs] at h
  have:s.cells.filter (keepC s kn)=s.cells:=List.length_filter_eq_length_iff.1 (by simp only at h;omega) |> List.filter_eq_self.2
  rw[this]
 ·rfl
theorem clrA_ok {s:State} {kn:List Int} (h:OkS s):OkS (clrA s kn):=clrs_ok _ h
theorem clrA_row {s:State} {kn:List Int} (h:OkS s) (o:ByteArray):rowOf (clrA s kn) o=rowOf s o:=by unfold rowOf clrA;rw[clrs_row o _ h]
theorem clr_row {s:State} {kn:List Int} (h:OkS s) (o:ByteArray):rowOf (clr s kn) o=rowOf s o:=by unfold rowOf;rw[rowL_clr h]
theorem clrA_end (s:State) (kn:List Int):clrN (clrA s kn) kn=0:=clrs_end _ (Nat.le_refl _)
theorem clrA_fix (s:State) (kn:List Int):clr (clrA s kn) kn=clrA s kn:=clr_fix (clrA_end s kn)
theorem clrA_le (s:State) (kn:List Int):(clrA s kn).cells.length≤(clr s kn).cells.length:=by
 by_cases h:clrN s kn=0
 ·rw[clrA_stop h,clr_fix h];exact Nat.le_refl _
 ·rw[← clrA_step h];exact clrs_len _ _
theorem clrs_gone {kn:List Int} (p:Cell→Bool):∀(f:Nat) (s:State),(clrs kn f s).cells.countP p≤s.cells.countP p
 |0,s=>Nat.le_refl _
 |f+1,s=>by
  unfold clrs
  split
  ·exact Nat.le_refl _
  ·refine Nat.le_trans (clrs_gone p f _) ?_
   unfold clr
   split
   ·exact(List.filter_sublist).countP_le
   ·exact Nat.le_refl _
theorem clrA_gone (s:State) (kn:List Int) (o:ByteArray):goneIn (clrA s kn).cells o≤goneIn s.cells o:=clrs_gone _ _ _
end Go.Proofs.Ytbeoiejnogdkpaa.Sy
namespace Go.Proofs.Ytbeoiejnogdkpaa.Sy
open Go Go.RowKit
set_option linter.unusedSimpArgs false
set_option linter.unusedVariables false
set_option maxRecDepth 4000
abbrev n_s_SameState:Nat:=15
def F_s_SameState:Fn1:=⟨95,[.t 4],(.seq (.reg [o 2 (.box (.t 0)),o 3 (.box (.t 1)),o 4 (.mov (.k (.bool false)))]) (.seq (.seq (.reg [o 8 (.fad 0 (.t 2)),o 9 (.ld false 1 (.t 8)),o 10 (.fad 0 (.t 3)),o 11 (.ld false 1 (.t 10)),o 12 (.call 41 [(.t 9),(.t 11)]),o 13 (.un .not (.t 12)),o 14 (.mov (.t 13)),og 15 14 false (.fad 1 (.t 2)),og 16 14 false (.ld false 1 (.t 15)),og 17 14 false (.len false (.t 16)),og 18 14 false (.fad 1 (.t 3)),og 19 14 false (.ld false 1 (.t 18)),og 20 14 false (.len false (.t 19)),og 21 14 false (.bin .neq (.t 17) (.t 20)),o 22 (.pick (.t 14) (.k (.bool true)) (.t 21)),o 23 (.mov (.t 22)),og 24 23 false (.fad 2 (.t 2)),og 25 23 false (.ld false 1 (.t 24)),og 26 23 false (.len false (.t 25)),og 27 23 false (.fad 2 (.t 3)),og 28 23 false (.ld false 1 (.t 27)),og 29 23 false (.len false (.t 28)),og 30 23 false (.bin .neq (.t 26) (.t 29)),o 31 (.pick (.t 23) (.k (.bool true)) (.t 30)),o 32 (.mov (.t 31)),og 33 32 false (.fad 3 (.t 2)),og 34 32 false (.ld false 1 (.t 33)),og 35 32 false (.len false (.t 34)),og 36 32 false (.fad 3 (.t 3)),og 37 32 false (.ld false 1 (.t 36)),og 38 32 false (.len false (.t 37)),og 39 32 false (.bin .neq (.t 35) (.t 38)),o 40 (.pick (.t 32) (.k (.bool true)) (.t 39))]) (.cnd (.t 40) (.seq (.reg [o 4 (.mov (.k (.bool false)))]) .ret) .skip)) (.seq (.seq (.reg [o 5 (.mov (.k (.int .i64 0)))]) (.blk 0 (.lop (.seq (.seq (.reg [o 41 (.mov (.t 5)),o 42 (.fad 1 (.t 2)),o 43 (.ld false 1 (.t 42)),o 44 (.len false (.t 43)),o 45 (.bin .lss (.t 41) (.t 44))]) (.cnd (.t 45) .skip (.ext 0))) (.seq (.blk 1 (.seq (.drw [o 48 (.fad 1 (.t 2)),o 49 (.ld false 1 (.t 48)),o 50 (.mov (.t 5)),o 51 (.iad 3 (.t 49) (.t 50)),o 52 (.ld true 3 (.t 51)),o 53 (.fad 1 (.t 3)),o 54 (.ld false 1 (.t 53)),o 55 (.mov (.t 5)),o 56 (.iad 3 (.t 54) (.t 55)),o 57 (.ld true 3 (.t 56))] [o 58 (.eqs true [.s,.i .i64,.i .i64] (.t 52) (.t 57))]) (.cnd (.t 58) (.seq (.reg [o 4 (.mov (.k (.bool false)))]) .ret) .skip))) (.reg [o 46 (.mov (.t 5)),o 47 (.bin .add (.t 46) (.k (.int .i64 1))),o 5 (.mov (.t 47))])))))) (.seq (.seq (.reg [o 6 (.mov (.k (.int .i64 0)))]) (.blk 2 (.lop (.seq (.seq (.reg [o 59 (.mov (.t 6)),o 60 (.fad 2 (.t 2)),o 61 (.ld false 1 (.t 60)),o 62 (.len false (.t 61)),o 63 (.bin .lss (.t 59) (.t 62))]) (.cnd (.t 63) .skip (.ext 2))) (.seq (.blk 3 (.seq (.drw [o 66 (.fad 2 (.t 2)),o 67 (.ld false 1 (.t 66)),o 68 (.mov (.t 6)),o 69 (.iad 6 (.t 67) (.t 68)),o 70 (.ld true 6 (.t 69)),o 71 (.fad 2 (.t 3)),o 72 (.ld false 1 (.t 71)),o 73 (.mov (.t 6)),o 74 (.iad 6 (.t 72) (.t 73)),o 75 (.ld true 6 (.t 74))] [o 76 (.eqs true [.b,.s,.s,.i .i64,.i .i64,.i .i64] (.t 70) (.t 75))]) (.cnd (.t 76) (.seq (.reg [o 4 (.mov (.k (.bool false)))]) .ret) .skip))) (.reg [o 64 (.mov (.t 6)),o 65 (.bin .add (.t 64) (.k (.int .i64 1))),o 6 (.mov (.t 65))])))))) (.seq (.seq (.reg [o 7 (.mov (.k (.int .i64 0)))]) (.blk 4 (.lop (.seq (.seq (.reg [o 77 (.mov (.t 7)),o 78 (.fad 3 (.t 2)),o 79 (.ld false 1 (.t 78)),o 80 (.len false (.t 79)),o 81 (.bin .lss (.t 77) (.t 80))]) (.cnd (.t 81) .skip (.ext 4))) (.seq (.blk 5 (.seq (.drw [o 84 (.fad 3 (.t 2)),o 85 (.ld false 1 (.t 84)),o 86 (.mov (.t 7)),o 87 (.iad 8 (.t 85) (.t 86)),o 88 (.ld true 8 (.t 87)),o 89 (.fad 3 (.t 3)),o 90 (.ld false 1 (.t 89)),o 91 (.mov (.t 7)),o 92 (.iad 8 (.t 90) (.t 91)),o 93 (.ld true 8 (.t 92))] [o 94 (.eqs true [.s,.i .i64,.i .i64,.i .i64,.i .i64,.i .i64,.i .i64,.b] (.t 88) (.t 93))]) (.cnd (.t 94) (.seq (.reg [o 4 (.mov (.k (.bool false)))]) .ret) .skip))) (.reg [o 82 (.mov (.t 7)),o 83 (.bin .add (.t 82) (.k (.int .i64 1))),o 7 (.mov (.t 83))])))))) (.seq (.reg [o 4 (.mov (.k (.bool true)))]) .ret))))))⟩
theorem ir_s_SameState:compFn Try.prog n_s_SameState=some F_s_SameState:=by kernel_rfl
theorem state_ne {a b:State} (h:¬ (a.know=b.know∧a.tallies=b.tallies∧a.lives=b.lives∧a.cells=b.cells)):decide (a=b)=false:=decide_eq_false fun e=>h (State.eq_iff.1 e)
set_option maxHeartbeats 2000000 in
theorem s_SameState_ret (σ:St) (cs ds:List GV) (a b:State) (hR:kState.R σ a cs) (hS:kState.R σ b ds) (hl:msState a≤1099511627776) (hm:msState b≤1099511627776):Ret Try.prog n_s_SameState [.agg cs,.agg ds] σ (.bool (decide (a=b))) σ:=by
 obtain⟨v0,v1,v2,v3,rfl,q0,q1,q2,q3⟩:=hR
 obtain⟨u0,u1,u2,u3,rfl,p0,p1,p2,p3⟩:=hS
 have hkl:a.know.length≤1099511627776:=by unfold msState at hl;omega
 have b1:a.tallies.length≤1099511627776:=by unfold msState at hl;omega
 have b2:a.lives.length≤1099511627776:=by unfold msState at hl;omega
 have b3:a.cells.length≤1099511627776:=by unfold msState at hl;omega
 clear hl hm
 refine ret_xe ir_s_SameState (Nat.le_of_ble_eq_true rfl) trivial ?_
 simp +contextual (disch:=omega) only[go_sem,F_s_SameState]
 intro n1 f1 τ0 _ n2 f2 τ H
 have g1:σ.length≤n1:=f1
 have g2:σ.length≤n2:=f2.2
 have S:=H.sub
 refine by_r H (s_Same_ret _ v0 u0 _ _ (q0.pre S) (p0.pre S) hkl) ?_
 have l1:=q1.len
 have l2:=q2.len
 have l3:=q3.len
 have m1:=p1.len
 have m2:=p2.len
 have m3:=p3.len
 by_cases h0:a.know=b.know
 rotate_left
 ·have d:=state_ne (a:=a) (b:=b) fun h=>h0 h.1
  have e0:decide (a.know=b.know)=false:=decide_eq_false h0
  simp +contextual (disch:=omega) only[go_sem,e0,d]
  try exact fun _=>rfl
 have e0:decide (a.know=b.know)=true:=decide_eq_true h0
 by_cases h1:a.tallies.length=b.tallies.length
 rotate_left
 ·have d:=state_ne (a:=a) (b:=b) fun h=>h1 (by rw[h.2.1])
  have e1:((a.tallies.length:Int) != (b.tallies.length:Int))=true:=by simp;omega
  simp +contextual (disch:=omega) only[go_sem,e0,e1,l1,m1,d]
  try exact fun _=>rfl
 have e1:((a.tallies.length:Int) != (b.tallies.length:Int))=false:=by simp;omega
 by_cases h2:a.lives.length=b.lives.length
 rotate_left
 ·have d:=state_ne (a:=a) (b:=b) fun h=>h2 (by rw[h.2.2.1])
  have e2:((a.lives.length:Int) != (b.lives.length:Int))=true:=by simp;omega
  simp +contextual (disch:=omega) only[go_sem,e0,e1,e2,l1,m1,l2,m2,d]
  try exact fun _=>rfl
 have e2:((a.lives.length:Int) != (b.lives.length:Int))=false:=by simp;omega
 by_cases h3:a.cells.length=b.cells.length
 rotate_left
 ·have d:=state_ne (a:=a) (b:=b) fun h=>h3 (by rw[h.2.2.2])
  have e3:((a.cells.length:Int) != (b.cells.length:Int))=true:=by simp;omega
  simp +contextual (disch:=omega) only[go_sem,e0,e1,e2,e3,l1,m1,l2,m2,l3,m3,d]
  try exact fun _=>rfl
 have e3:((a.cells.length:Int) != (b.cells.length:Int))=false:=by simp;omega
 simp +contextual (disch:=omega) only[go_sem,e0,e1,e2,e3,l1,m1,l2,m2,l3,m3]
 refine sx_for a.tallies.length 5 0 (fun i env h=>env 2= .ptr n1 0∧env 3= .ptr n2 0∧a.tallies.take i=b.tallies.take i∧h=[.box 1 n2 [u0,u1,u2,u3],.box 1 n1 [v0,v1,v2,v3]]) (fun env h=>a.tallies=b.tallies∧env 2= .ptr n1 0∧env 3= .ptr n2 0∧h=[.box 1 n2 [u0,u1,u2,u3],.box 1 n1 [v0,v1,v2,v3]]) (fun env h=>env 4= .bool false∧a.tallies≠b.tallies) _ H (by simp +contextual (disch:=omega) only[go_sem]) ⟨by simp +contextual (disch:=omega) only[go_sem],by simp +contextual (disch:=omega) only[go_sem],by simp,rfl⟩ ?_ ?_ ?_ ?_
 ·clear H
  rintro J Y W hJ hY hW i env h' τ1 hi ei c0 H1 ⟨e2',e3',he,rfl⟩
  have hj:i<b.tallies.length:=by omega
  have L1:=Tally_at q1 hi
  have L2:=Tally_at p1 hj
  by_cases hx:a.tallies[i]=b.tallies[i]
  ·have bb:decide (a.tallies[i]=b.tallies[i])=true:=decide_eq_true hx
   simp +contextual (disch:=omega) only[go_sem,c0,e2',e3',ei,natOf_nat,l1,m1,L1,L2,bb]
   exact hJ _ _ _ _ H1 ⟨by simp +contextual (disch:=omega) only[go_sem,e2'],by simp +contextual (disch:=omega) only[go_sem,e3'],by rw[take_snoc hi,take_snoc hj,he,hx],rfl⟩
  ·have bb:decide (a.tallies[i]=b.tallies[i])=false:=decide_eq_false hx
   simp +contextual (disch:=omega) only[go_sem,c0,e2',e3',ei,natOf_nat,l1,m1,L1,L2,bb]
   exact hW _ _ _ H1 ⟨by simp +contextual (disch:=omega) only[go_sem],fun h=>hx (by simp only[h])⟩
 ·rintro Y hY env h' τ1 ei c0 H1 ⟨e2',e3',he,rfl⟩
  simp +contextual (disch:=omega) only[go_sem,c0,e2',e3',ei,l1]
  rw[List.take_length,h1,List.take_length] at he
  exact hY _ _ _ H1 ⟨he,by simp +contextual (disch:=omega) only[go_sem,e2'],by simp +contextual (disch:=omega) only[go_sem,e3'],rfl⟩
 rotate_left
 ·rintro env h' τ1 H1 ⟨e4,hx⟩
  have d:=state_ne (a:=a) (b:=b) fun h=>hx h.2.1
  simp +contextual (disch:=omega) only[go_sem,e4,d]
 rintro env h' τ10 H ⟨t0,e2',e3',rfl⟩
 simp +contextual (disch:=omega) only[go_sem,e2',e3']
 refine sx_for a.lives.length 6 2 (fun i env h=>env 2= .ptr n1 0∧env 3= .ptr n2 0∧a.lives.take i=b.lives.take i∧h=[.box 1 n2 [u0,u1,u2,u3],.box 1 n1 [v0,v1,v2,v3]]) (fun env h=>a.lives=b.lives∧env 2= .ptr n1 0∧env 3= .ptr n2 0∧h=[.box 1 n2 [u0,u1,u2,u3],.box 1 n1 [v0,v1,v2,v3]]) (fun env h=>env 4= .bool false∧a.lives≠b.lives) _ H (by simp +contextual (disch:=omega) only[go_sem]) ⟨by simp +contextual (disch:=omega) only[go_sem,e2'],by simp +contextual (disch:=omega) only[go_sem,e3'],by simp,rfl⟩ ?_ ?_ ?_ ?_
 ·skip
  rintro J Y W hJ hY hW i env h' τ1 hi ei c0 H1 ⟨e2',e3',he,rfl⟩
  have hj:i<b.lives.length:=by omega
  have L1:=Live_at q2 hi
  have L2:=Live_at p2 hj
  by_cases hx:a.lives[i]=b.lives[i]
  ·have bb:decide (a.lives[i]=b.lives[i])=true:=decide_eq_true hx
   simp +contextual (disch:=omega) only[go_sem,c0,e2',e3',ei,natOf_nat,l2,m2,L1,L2,bb]
   exact hJ _ _ _ _ H1 ⟨by simp +contextual (disch:=omega) only[go_sem,e2'],by simp +contextual (disch:=omega) only[go_sem,e3'],by rw[take_snoc hi,take_snoc hj,he,hx],rfl⟩
  ·have bb:decide (a.lives[i]=b.lives[i])=false:=decide_eq_false hx
   simp +contextual (disch:=omega) only[go_sem,c0,e2',e3',ei,natOf_nat,l2,m2,L1,L2,bb]
   exact hW _ _ _ H1 ⟨by simp +contextual (disch:=omega) only[go_sem],fun h=>hx (by simp only[h])⟩
 ·rintro Y hY env h' τ1 ei c0 H1 ⟨e2',e3',he,rfl⟩
  simp +contextual (disch:=omega) only[go_sem,c0,e2',e3',ei,l2]
  rw[List.take_length,h2,List.take_length] at he
  exact hY _ _ _ H1 ⟨he,by simp +contextual (disch:=omega) only[go_sem,e2'],by simp +contextual (disch:=omega) only[go_sem,e3'],rfl⟩
 rotate_left
 ·rintro env h' τ1 H1 ⟨e4,hx⟩
  have d:=state_ne (a:=a) (b:=b) fun h=>hx h.2.2.1
  simp +contextual (disch:=omega) only[go_sem,e4,d]
 rintro env h' τ11 H ⟨t1,e2',e3',rfl⟩
 simp +contextual (disch:=omega) only[go_sem,e2',e3']
 refine sx_for a.cells.length 7 4 (fun i env h=>env 2= .ptr n1 0∧env 3= .ptr n2 0∧a.cells.take i=b.cells.take i∧h=[.box 1 n2 [u0,u1,u2,u3],.box 1 n1 [v0,v1,v2,v3]]) (fun env h=>a.cells=b.cells∧env 2= .ptr n1 0∧env 3= .ptr n2 0∧h=[.box 1 n2 [u0,u1,u2,u3],.box 1 n1 [v0,v1,v2,v3]]) (fun env h=>env 4= .bool false∧a.cells≠b.cells) _ H (by simp +contextual (disch:=omega) only[go_sem]) ⟨by simp +contextual (disch:=omega) only[go_sem,e2'],by simp +contextual (disch:=omega) only[go_sem,e3'],by simp,rfl⟩ ?_ ?_ ?_ ?_
 ·skip
  rintro J Y W hJ hY hW i env h' τ1 hi ei c0 H1 ⟨e2',e3',he,rfl⟩
  have hj:i<b.cells.length:=by omega
  have L1:=Cell_at q3 hi
  have L2:=Cell_at p3 hj
  by_cases hx:a.cells[i]=b.cells[i]
  ·have bb:decide (a.cells[i]=b.cells[i])=true:=decide_eq_true hx
   simp +contextual (disch:=omega) only[go_sem,c0,e2',e3',ei,natOf_nat,l3,m3,L1,L2,bb]
   exact hJ _ _ _ _ H1 ⟨by simp +contextual (disch:=omega) only[go_sem,e2'],by simp +contextual (disch:=omega) only[go_sem,e3'],by rw[take_snoc hi,take_snoc hj,he,hx],rfl⟩
  ·have bb:decide (a.cells[i]=b.cells[i])=false:=decide_eq_false hx
   simp +contextual (disch:=omega) only[go_sem,c0,e2',e3',ei,natOf_nat,l3,m3,L1,L2,bb]
   exact hW _ _ _ H1 ⟨by simp +contextual (disch:=omega) only[go_sem],fun h=>hx (by simp only[h])⟩
 ·rintro Y hY env h' τ1 ei c0 H1 ⟨e2',e3',he,rfl⟩
  simp +contextual (disch:=omega) only[go_sem,c0,e2',e3',ei,l3]
  rw[List.take_length,h3,List.take_length] at he
  exact hY _ _ _ H1 ⟨he,by simp +contextual (disch:=omega) only[go_sem,e2'],by simp +contextual (disch:=omega) only[go_sem,e3'],rfl⟩
 rotate_left
 ·rintro env h' τ1 H1 ⟨e4,hx⟩
  have d:=state_ne (a:=a) (b:=b) fun h=>hx h.2.2.2
  simp +contextual (disch:=omega) only[go_sem,e4,d]
 rintro env h' τ12 H ⟨t2,e2',e3',rfl⟩
 have d:decide (a=b)=true:=decide_eq_true (State.eq_iff.2 ⟨h0,t0,t1,t2⟩)
 simp +contextual (disch:=omega) only[go_sem,d]
 try exact fun _=>rfl
end Go.Proofs.Ytbeoiejnogdkpaa.Sy
namespace Go.Proofs.Ytbeoiejnogdkpaa.Sy.O
open Go Go.RowKit Go.Proofs.Ytbeoiejnogdkpaa.Sy Go.Sort
set_option linter.unusedSimpArgs false
set_option linter.unusedVariables false
set_option maxRecDepth 4000
variable {α:Type} [Inhabited α] {lt:α→α→Bool} {σ0 σ:St} {rs:List Thg} {k:Nat} {v:GV} {d:Array α}
end Go.Proofs.Ytbeoiejnogdkpaa.Sy.O
namespace Go.Proofs.Ytbeoiejnogdkpaa.Sy.O
open Go Go.RowKit Go.Proofs.Ytbeoiejnogdkpaa.Sy Go.Sort
set_option linter.unusedSimpArgs false
set_option linter.unusedVariables false
set_option maxRecDepth 4000
variable {α:Type} [Inhabited α] {lt:α→α→Bool} {σ0 σ:St} {rs:List Thg} {k:Nat} {v:GV} {d:Array α}
end Go.Proofs.Ytbeoiejnogdkpaa.Sy.O
namespace Go.Proofs.Ytbeoiejnogdkpaa.Sy.O
open Go Go.RowKit Go.Proofs.Ytbeoiejnogdkpaa.Sy Go.Sort
set_option linter.unusedSimpArgs false
set_option linter.unusedVariables false
set_option maxRecDepth 4000
variable {α:Type} [Inhabited α] {lt:α→α→Bool} {σ0 σ:St} {rs:List Thg} {k:Nat} {v:GV} {d:Array α}
end Go.Proofs.Ytbeoiejnogdkpaa.Sy.O
namespace Go.Proofs.Ytbeoiejnogdkpaa.Sy.O
open Go Go.RowKit Go.Proofs.Ytbeoiejnogdkpaa.Sy Go.Sort
set_option linter.unusedSimpArgs false
set_option linter.unusedVariables false
set_option maxRecDepth 4000
variable {α:Type} [Inhabited α] {lt:α→α→Bool} {σ0 σ:St} {rs:List Thg} {k:Nat} {v:GV} {d:Array α}
end Go.Proofs.Ytbeoiejnogdkpaa.Sy.O
namespace Go.Proofs.Ytbeoiejnogdkpaa.Sy.O
open Go Go.RowKit Go.Proofs.Ytbeoiejnogdkpaa.Sy Go.Sort
set_option linter.unusedSimpArgs false
set_option linter.unusedVariables false
set_option maxRecDepth 4000
variable {α:Type} [Inhabited α] {lt:α→α→Bool} {σ0 σ:St} {rs:List Thg} {k g:Nat} {s:Int} {v:GV} {d:Array α}
end Go.Proofs.Ytbeoiejnogdkpaa.Sy.O
namespace Go.Proofs.Ytbeoiejnogdkpaa.Sy.O
open Go Go.RowKit Go.Proofs.Ytbeoiejnogdkpaa.Sy Go.Sort
set_option linter.unusedSimpArgs false
set_option linter.unusedVariables false
set_option maxRecDepth 4000
variable {α:Type} [Inhabited α] {lt:α→α→Bool} {σ0:St} {rs:List Thg} {k:Nat} {v:GV}
end Go.Proofs.Ytbeoiejnogdkpaa.Sy.O
namespace Go.Proofs.Ytbeoiejnogdkpaa.Sy.O
open Go Go.RowKit Go.Proofs.Ytbeoiejnogdkpaa.Sy Go.Sort
set_option linter.unusedSimpArgs false
set_option linter.unusedVariables false
set_option maxRecDepth 4000
variable {α:Type} [Inhabited α] {lt:α→α→Bool} {σ0 σ:St} {rs:List Thg} {v:GV}
end Go.Proofs.Ytbeoiejnogdkpaa.Sy.O
namespace Go.Proofs.Ytbeoiejnogdkpaa.Sy
open Go Go.RowKit
set_option linter.unusedSimpArgs false
set_option linter.unusedVariables false
set_option maxRecDepth 4000
def elI:El Int:=⟨pI,false,gi,fun _=>rfl,fun _=>rfl,by decide⟩
end Go.Proofs.Ytbeoiejnogdkpaa.Sy
namespace Go.Proofs.Ytbeoiejnogdkpaa.Sy
open Go Go.RowKit
set_option linter.unusedSimpArgs false
set_option linter.unusedVariables false
set_option maxRecDepth 4000
end Go.Proofs.Ytbeoiejnogdkpaa.Sy
namespace Go.Proofs.Ytbeoiejnogdkpaa.Sy
open Go Go.RowKit
set_option linter.unusedSimpArgs false
set_option linter.unusedVariables false
set_option maxRecDepth 4000
def elS:El ByteArray:=⟨pS,false,.str,fun _=>rfl,fun _=>rfl,by decide⟩
end Go.Proofs.Ytbeoiejnogdkpaa.Sy
namespace Go.Proofs.Ytbeoiejnogdkpaa.Sy
open Go Go.RowKit
set_option linter.unusedSimpArgs false
set_option linter.unusedVariables false
set_option maxRecDepth 4000
end Go.Proofs.Ytbeoiejnogdkpaa.Sy
namespace Go.Proofs.Ytbeoiejnogdkpaa.Sy
open Go Go.RowKit
set_option linter.unusedSimpArgs false
set_option linter.unusedVariables false
set_option maxRecDepth 4000
abbrev n_s_RowOf:Nat:=12
def F_s_RowOf:Fn1:=⟨37,[.t 4],(.seq (.reg [o 2 (.box (.t 0)),o 4 (.mov (.k .nilS))]) (.seq (.reg [o 8 (.lit 1 0 [] []),o 5 (.mov (.t 8))]) (.seq (.seq (.reg [o 9 (.ld true 4 (.t 2)),o 10 (.call 14 [(.t 9)]),o 11 (.un .not (.t 10))]) (.cnd (.t 11) (.seq (.reg [o 12 (.mov (.t 5)),o 4 (.mov (.t 12))]) .ret) .skip)) (.seq (.reg [o 13 (.ld true 4 (.t 2)),o 14 (.mov (.t 1)),o 15 (.call 34 [(.t 13),(.t 14)]),o 6 (.mov (.t 15))]) (.seq (.seq (.reg [o 7 (.mov (.k (.int .i64 0)))]) (.blk 0 (.lop (.seq (.seq (.reg [o 16 (.mov (.t 7)),o 17 (.mov (.t 6)),o 18 (.len false (.t 17)),o 19 (.bin .lss (.t 16) (.t 18))]) (.cnd (.t 19) .skip (.ext 0))) (.seq (.blk 1 (.seq (.reg [o 22 (.mov (.t 6)),o 23 (.mov (.t 7)),o 24 (.iad 8 (.t 22) (.t 23)),o 25 (.fad 7 (.t 24)),o 26 (.ld false 1 (.t 25)),o 27 (.un .not (.t 26))]) (.cnd (.t 27) (.reg [o 28 (.mov (.t 5)),o 29 (.mov (.t 6)),o 30 (.mov (.t 7)),o 31 (.iad 8 (.t 29) (.t 30)),o 32 (.fad 6 (.t 31)),o 33 (.ld false 1 (.t 32)),o 34 (.lit 1 1 [(.int .i64 0)] [(0,1,(.t 33))]),o 35 (.app 1 8 [(.int .i64 0)] (.t 28) (.t 34)),o 5 (.mov (.t 35))]) .skip))) (.reg [o 20 (.mov (.t 7)),o 21 (.bin .add (.t 20) (.k (.int .i64 1))),o 7 (.mov (.t 21))])))))) (.seq (.reg [o 36 (.mov (.t 5)),o 4 (.mov (.t 36))]) .ret))))))⟩
theorem ir_s_RowOf:compFn Try.prog n_s_RowOf=some F_s_RowOf:=by kernel_rfl
def eqS:Eqs elS:=⟨fun x y=>by
 show binG .eql (.str x) (.str y)=_
 simp only[bin_seql],fun x y=>by
 show binG .neq (.str x) (.str y)=_
 simp only[bin_sneq],[.str ⟨#[]⟩],rfl⟩
theorem s_RowOf_ret (σ:St) (cs:List GV) (s:State) (hR:kState.R σ s cs) (o:ByteArray) (hl:msState s≤1099511627776):∃ r τ,Ret Try.prog n_s_RowOf [.agg cs,.str o] σ r τ∧Hp σ τ [ow pI.kd r (rowOf s o)]:=by
 have hlen:=kState.len hR
 have hlen:cs.length=4:=hlen
 refine ret_dr ir_s_RowOf (Nat.le_of_ble_eq_true rfl) ?_
 have H:=((Hp.refl σ).new 1 cs).nil_int
 simp +contextual (disch:=omega) only[go_sem,F_s_RowOf,ld_new,ld_new2,seg_full hlen]
 refine by_bool (s_StateOk_ret _ _ s (kState.pre hR H.sub) hl) (fun hok=> ?_) (fun hok=> ?_)
 rotate_left
 ·have e:rowOf s o=[]:=by simp[rowOf,rowL,hok]
  simp +contextual (disch:=omega) only[go_sem]
  exact⟨_,rfl,by rw[e];exact H.one⟩
 have e:rowOf s o=((rowC s o).filter goneNot).map (·.val):=by simp only[rowOf,rowL,hok,if_true];rfl
 rw[e]
 simp +contextual (disch:=omega) only[go_sem,ld_new,ld_new2,seg_full hlen]
 obtain⟨r1,τ1,R1,K1⟩:=s_l08Row_ret _ cs s (kState.pre hR H.sub) o hok hl
 refine by_hp R1 K1 ?_
 have H:=H.add K1
 simp only[List.cons_append,List.nil_append] at H
 have hb:=rowC_len (celR_of hok) o
 generalize rowC s o=T at*
 simp +contextual (disch:=omega) only[go_sem]
 generalize hn1:σ.length=n1 at*
 refine vc_forJ T.length 7 (fun i env τ=>env 6=r1∧∃ u,env 5=u∧Hp σ τ [ow pI.kd u (((T.take i).filter goneNot).map (·.val)),ow pCell.kd r1 T,pt 1 n1 cs]) rfl ⟨rfl,_,rfl,H.pick 1 rfl⟩ ?_ ?_
 ·clear H
  rintro J hJ i env τ hi e7 c0 ⟨e6,u,e5,H⟩
  have hfl:=filter_take_len T goneNot i
  have hsn:=gone_snoc hi
  have C1:=Cell_at (H.sl 1 rfl) hi
  have hln:=(H.sl 1 rfl).len
  cases hg:T[i].gone with
  |true=>
   have hk0:goneNot T[i]=false:=by simp[goneNot,hg]
   rw[hk0,if_neg (by simp)] at hsn
   simp +contextual (disch:=omega) only[go_sem,c0,e5,e6,e7,hln,C1,hg]
   refine hJ _ _ _ ⟨?_,u,?_,by rw[hsn];exact H⟩
   all_goals simp +contextual (disch:=omega) only[go_sem,e5,e6,e7]
  |false=>
   have hk0:goneNot T[i]=true:=by simp[goneNot,hg]
   rw[hk0,if_pos rfl] at hsn
   obtain⟨w',τ3,e8,H3⟩:=H.app_int 0 rfl T[i].val (by simp;omega)
   simp +contextual (disch:=omega) only[go_sem,c0,e5,e6,e7,hln,C1,hg,e8]
   refine hJ _ _ _ ⟨?_,w',?_,?_⟩
   all_goals first|(simp +contextual (disch:=omega) only[go_sem,e5,e6,e7];done)|skip
   rw[hsn,List.map_append,List.map_cons,List.map_nil]
   exact H3
 ·clear H
  rintro env τ e7 c0 ⟨e6,u,e5,H⟩
  rw[List.take_length] at H
  have hln:=(H.sl 1 rfl).len
  simp +contextual (disch:=omega) only[go_sem,c0,e5,e6,e7,hln]
  exact⟨_,rfl,H.one⟩
end Go.Proofs.Ytbeoiejnogdkpaa.Sy
namespace Go.Proofs.Ytbeoiejnogdkpaa.Sy
open Go Go.RowKit
set_option linter.unusedSimpArgs false
set_option linter.unusedVariables false
set_option maxRecDepth 4000
abbrev n_l_FnClears:Nat:=3
def F_l_FnClears:Fn1:=⟨154,[.t 2],(.seq (.reg [o 2 (.mov (.k (.bool false)))]) (.seq (.seq (.reg [o 14 (.mov (.t 0)),o 15 (.call 6 [(.t 14)])]) (.cnd (.t 15) (.seq (.reg [o 2 (.mov (.k (.bool true)))]) .ret) .skip)) (.seq (.reg [o 16 (.mov (.t 0)),o 17 (.call 7 [(.t 16)]),o 3 (.new [.nilS,.nilS,.nilS,.nilS]),on (.st 4 (.t 3) (.t 17))]) (.seq (.reg [o 18 (.mov (.t 0)),o 19 (.call 8 [(.t 18)]),o 4 (.mov (.t 19))]) (.seq (.reg [o 20 (.lit 1 0 [] []),o 21 (.fad 0 (.t 3)),o 22 (.ld false 1 (.t 21)),o 23 (.app 1 8 [(.int .i64 0)] (.t 20) (.t 22)),o 5 (.mov (.t 23))]) (.seq (.drw [] [o 24 (.mov (.t 5)),o 25 (.mov (.t 4)),o 26 (.iad 1 (.t 25) (.k (.int .i64 0))),o 27 (.ld false 1 (.t 26)),o 28 (.bin .rem (.t 27) (.k (.int .i64 3))),o 29 (.mov (.t 4)),o 30 (.iad 1 (.t 29) (.k (.int .i64 1))),o 31 (.ld false 1 (.t 30)),o 32 (.mov (.t 5)),o 33 (.mov (.t 4)),o 34 (.iad 1 (.t 33) (.k (.int .i64 0))),o 35 (.ld false 1 (.t 34)),o 36 (.bin .rem (.t 35) (.k (.int .i64 3))),o 37 (.iad 1 (.t 32) (.t 36)),o 38 (.ld false 1 (.t 37)),o 39 (.bin .add (.t 38) (.k (.int .i64 1))),o 40 (.bin .rem (.t 31) (.t 39)),o 41 (.iad 1 (.t 24) (.t 28)),on (.st 1 (.t 41) (.t 40))]) (.seq (.reg [o 43 (.ld true 4 (.t 3)),o 44 (.mov (.t 5)),o 45 (.call 9 [(.t 43),(.t 44)]),o 42 (.mov (.t 45)),o 46 (.ext 0 (.t 42)),o 47 (.ext 1 (.t 42)),o 6 (.new [.nilS,.nilS,.nilS,.nilS]),on (.st 4 (.t 6) (.t 46)),o 7 (.mov (.t 47))]) (.seq (.reg [o 49 (.ld true 4 (.t 3)),o 50 (.mov (.t 5)),o 51 (.call 10 [(.t 49),(.t 50)]),o 48 (.mov (.t 51)),o 52 (.ext 0 (.t 48)),o 53 (.ext 1 (.t 48)),o 8 (.new [.nilS,.nilS,.nilS,.nilS]),on (.st 4 (.t 8) (.t 52)),o 9 (.mov (.t 53))]) (.seq (.reg [o 55 (.ld true 4 (.t 6)),o 56 (.mov (.t 5)),o 57 (.call 10 [(.t 55),(.t 56)]),o 54 (.mov (.t 57)),o 58 (.ext 0 (.t 54)),o 59 (.ext 1 (.t 54)),o 10 (.new [.nilS,.nilS,.nilS,.nilS]),on (.st 4 (.t 10) (.t 58)),o 11 (.mov (.t 59))]) (.seq (.reg [o 60 (.lit 1 3 [(.str ⟨#[]⟩),(.str ⟨#[]⟩),(.str ⟨#[]⟩)] [(0,1,(.k (.str ⟨#[97]⟩))),(1,1,(.k (.str ⟨#[98]⟩))),(2,1,(.k (.str ⟨#[116,97,108,108,121]⟩)))]),o 12 (.mov (.t 60))]) (.seq (.seq (.reg [o 13 (.mov (.k (.int .i64 0)))]) (.blk 0 (.lop (.seq (.seq (.reg [o 61 (.mov (.t 13)),o 62 (.mov (.t 12)),o 63 (.len false (.t 62)),o 64 (.bin .lss (.t 61) (.t 63))]) (.cnd (.t 64) .skip (.ext 0))) (.seq (.blk 1 (.seq (.drw [o 67 (.ld true 4 (.t 6)),o 68 (.mov (.t 12)),o 69 (.mov (.t 13)),o 70 (.iad 1 (.t 68) (.t 69)),o 71 (.ld false 1 (.t 70)),o 72 (.call 12 [(.t 67),(.t 71)]),o 73 (.ld true 4 (.t 3)),o 74 (.mov (.t 12)),o 75 (.mov (.t 13)),o 76 (.iad 1 (.t 74) (.t 75)),o 77 (.ld false 1 (.t 76)),o 78 (.call 12 [(.t 73),(.t 77)]),o 79 (.call 11 [(.t 72),(.t 78)]),o 80 (.un .not (.t 79)),o 81 (.mov (.t 80)),og 82 81 false (.ld true 4 (.t 8)),og 83 81 false (.mov (.t 12)),og 84 81 false (.mov (.t 13)),og 85 81 false (.iad 1 (.t 83) (.t 84)),og 86 81 false (.ld false 1 (.t 85)),og 87 81 false (.call 12 [(.t 82),(.t 86)]),og 88 81 false (.ld true 4 (.t 3)),og 89 81 false (.mov (.t 12)),og 90 81 false (.mov (.t 13)),og 91 81 false (.iad 1 (.t 89) (.t 90)),og 92 81 false (.ld false 1 (.t 91)),og 93 81 false (.call 12 [(.t 88),(.t 92)]),og 94 81 false (.call 11 [(.t 87),(.t 93)]),og 95 81 false (.un .not (.t 94)),o 96 (.pick (.t 81) (.k (.bool true)) (.t 95)),o 97 (.mov (.t 96)),og 98 97 false (.ld true 4 (.t 6)),og 99 97 false (.mov (.t 12)),og 100 97 false (.mov (.t 13)),og 101 97 false (.iad 1 (.t 99) (.t 100)),og 102 97 false (.ld false 1 (.t 101)),og 103 97 false (.call 13 [(.t 98),(.t 102)]),og 104 97 false (.ld true 4 (.t 3)),og 105 97 false (.mov (.t 12)),og 106 97 false (.mov (.t 13)),og 107 97 false (.iad 1 (.t 105) (.t 106)),og 108 97 false (.ld false 1 (.t 107))] [og 109 97 false (.call 13 [(.t 104),(.t 108)]),og 110 97 false (.bin .gtr (.t 103) (.t 109)),o 111 (.pick (.t 97) (.k (.bool true)) (.t 110))]) (.cnd (.t 111) (.seq (.reg [o 2 (.mov (.k (.bool false)))]) .ret) .skip))) (.reg [o 65 (.mov (.t 13)),o 66 (.bin .add (.t 65) (.k (.int .i64 1))),o 13 (.mov (.t 66))])))))) (.seq (.reg [o 112 (.ld true 4 (.t 6)),o 113 (.call 14 [(.t 112)]),o 114 (.mov (.t 113)),og 115 114 true (.ld true 4 (.t 8)),og 116 114 true (.call 14 [(.t 115)]),o 117 (.pick (.t 114) (.t 116) (.k (.bool false))),o 118 (.mov (.t 117)),og 119 118 true (.mov (.t 11)),og 120 118 true (.bin .eql (.t 119) (.k (.int .i64 0))),o 121 (.pick (.t 118) (.t 120) (.k (.bool false))),o 122 (.mov (.t 121)),og 123 122 true (.ld true 4 (.t 10)),og 124 122 true (.ld true 4 (.t 6)),og 125 122 true (.call 15 [(.t 123),(.t 124)]),o 126 (.pick (.t 122) (.t 125) (.k (.bool false))),o 127 (.mov (.t 126)),og 128 127 true (.mov (.t 9)),og 129 127 true (.mov (.t 7)),og 130 127 true (.bin .leq (.t 128) (.t 129)),o 131 (.pick (.t 127) (.t 130) (.k (.bool false))),o 132 (.mov (.t 131)),og 133 132 true (.fad 3 (.t 6)),og 134 132 true (.ld false 1 (.t 133)),og 135 132 true (.len false (.t 134)),og 136 132 true (.mov (.t 7)),og 137 132 true (.bin .add (.t 135) (.t 136)),og 138 132 true (.fad 3 (.t 3)),og 139 132 true (.ld false 1 (.t 138)),og 140 132 true (.len false (.t 139)),og 141 132 true (.bin .eql (.t 137) (.t 140)),o 142 (.pick (.t 132) (.t 141) (.k (.bool false))),o 143 (.mov (.t 142)),og 144 143 true (.fad 3 (.t 8)),og 145 143 true (.ld false 1 (.t 144)),og 146 143 true (.len false (.t 145)),og 147 143 true (.mov (.t 9)),og 148 143 true (.bin .add (.t 146) (.t 147)),og 149 143 true (.fad 3 (.t 3)),og 150 143 true (.ld false 1 (.t 149)),og 151 143 true (.len false (.t 150)),og 152 143 true (.bin .eql (.t 148) (.t 151)),o 153 (.pick (.t 143) (.t 152) (.k (.bool false))),o 2 (.mov (.t 153))]) .ret))))))))))))⟩
theorem ir_l_FnClears:compFnM true Try.prog n_l_FnClears=some F_l_FnClears:=by kernel_rfl
section
variable {P:Program} {σ τ:St} {h:List Item} {α:Type}
theorem int_rd {v:GV} {l:List Int} (H:Hx σ τ h) (i:Nat) (hi:h[i]? =some (.th (ow pI.kd v l))) {j:Nat} (hj:j<l.length):iadG 1 v (some j)=some (atz 1 v j)∧ldX σ h τ false 1 (atz 1 v j)=some (gi l[j]):=by
 have L:=int_at (H.hp.sl i (at_t hi)) hj
 exact⟨L.1,ldX_own H L.2⟩
theorem str_rd {v:GV} {l:List ByteArray} (H:Hx σ τ h) (i:Nat) (hi:h[i]? =some (.th (ow pS.kd v l))) {j:Nat} (hj:j<l.length):iadG 1 v (some j)=some (atz 1 v j)∧ldX σ h τ false 1 (atz 1 v j)=some (.str l[j]):=by
 have L:=str_at (H.hp.sl i (at_t hi)) hj
 exact⟨L.1,ldX_own H L.2⟩
theorem Hx.rowS {n len:Nat} {l:List ByteArray} {cs:List GV} (H:Hx σ τ (.box 1 n cs::h)) (e:cs=pS.cells l) (hl:len=l.length):Hx σ τ (.th (ow pS.kd (.sl n 0 len) l)::h):=by
 subst hl
 exact Hp.toRow (p:=pS) H.hp 0 (by rw[e];rfl) l rfl rfl _ rfl
end
set_option maxHeartbeats 8000000 in
theorem law_Clears (σ:St) (v:GV) (bs:List Int) (hv:Sl (Ek.int .u8) σ v bs) (hw:bs.length≤9223372036854775807∧∀ y∈bs,(Lit.int .u8 y).wf=true):∃ r τ,Ret Try.prog n_l_FnClears [v] σ r τ∧r= .bool true:=by
 have hv:RS pB.kd σ v bs:=hv.rs rfl (fun h=>h)
 refine ret_x ir_l_FnClears (Nat.le_of_ble_eq_true rfl) (Hx.refl σ) ?_
 simp +contextual (disch:=omega) only[go_sem,F_l_FnClears]
 refine by_b (Hx.refl σ) (l_big_ret σ v bs hv) (fun h0=> ?_) (fun h0=> ?_)
 ·simp +contextual (disch:=omega) only[go_sem]
  try exact fun _=>⟨_,rfl,rfl⟩
 have h0:=of_decide_eq_false h0
 have D:Dr σ v bs:=⟨hv,by omega⟩
 simp +contextual (disch:=omega) only[go_sem]
 obtain⟨ds,s,τ1,hg,R1,H1⟩:=s_DrawState_ret (Hx.refl σ) D
 have gl:ds.length=4:=kState.len (H1.hp.rd 0 rfl)
 have hok:=hg.ok st0_ok
 have hms:=hok.ms
 refine by_k R1 H1 ?_
 obtain⟨v0,v1,v2,v3,rfl,_⟩:=H1.hp.rd 0 rfl
 simp +contextual (disch:=omega) only[go_sem]
 intro n1 f1 τ2 _ τ3 H3
 have g1:σ.length≤n1:=by omega
 have kst:∀(hh:List Item) (i:Nat) (τ:St),Hx σ τ hh→hh[i]? =some (.th (own kState [v0,v1,v2,v3] s))→RS pI.kd τ v0 s.know∧RS pCell.kd τ v3 s.cells:=fun hh i τ H hi=>by
  obtain⟨_,_,_,_,e,q0,_,_,q3⟩:=H.hp.rd i (at_t hi)
  injection e with e0 e;injection e with _ e;injection e with _ e;injection e with e _
  subst e0 e;exact⟨q0,q3⟩
 have hkl:=okK_len hok.kn
 obtain⟨pv,pl,τ4,⟨hpl,hpb⟩,R4,H4⟩:=s_DrawPlaces_ret H3 D
 refine by_m R4 H4 ?_
 simp +contextual (disch:=omega) only[go_sem]
 intro n2 f2 τ5 H5
 have g2:σ.length≤n2:=by omega
 refine by_cp (p:=pI) H5 (kst _ 3 τ5 H5 rfl).1 (by decide) (by omega) fun kv τ6 H6=> ?_
 have P0:=int_rd H6 1 rfl (j:=0) (by omega)
 have P1:=int_rd H6 1 rfl (j:=1) (by omega)
 have nn0:natOf (some (GV.int .i64 0))=some 0:=rfl
 have nn1:natOf (some (GV.int .i64 1))=some 1:=rfl
 have m3:¬ ((3:Int)=0):=by decide
 obtain⟨p0,hp0⟩:∃ p0:Nat,pl[0]'(by omega)=(p0:Int):=⟨(pl[0]'(by omega)).toNat,by have:=hpb _ (List.getElem_mem (by omega:0<pl.length));omega⟩
 obtain⟨p1,hp1⟩:∃ p1:Nat,pl[1]'(by omega)=(p1:Int):=⟨(pl[1]'(by omega)).toNat,by have:=hpb _ (List.getElem_mem (by omega:1<pl.length));omega⟩
 rw[hp0] at P0
 rw[hp1] at P1
 obtain⟨q,hq⟩:∃ q,q=p0 % 3:=⟨_,rfl⟩
 have tq:(p0:Int).tmod 3=(q:Int):=by rw[Int.tmod_eq_emod_of_nonneg (by omega),hq];omega
 have hq3:q<s.know.length:=by omega
 have K0:=int_rd H6 0 rfl hq3
 have hkq:=okK_mem hok.kn (List.getElem_mem hq3)
 obtain⟨kq,hkq'⟩:∃ kq,kq=s.know[q]:=⟨_,rfl⟩
 rw[← hkq'] at K0 hkq
 have mk:¬ (kq+1=0):=by omega
 simp +contextual (disch:=omega) only[go_sem,nn0,nn1,m3,P0,P1,tq,natOf_nat,K0,mk,wrap_add]
 refine by_stw (p:=pI) H6 0 rfl hq3 (x:=gi ((p1:Int).tmod (kq+1))) ((p1:Int).tmod (kq+1)) rfl rfl (by decide) fun τ7 H7=> ?_
 obtain⟨kn,hkn⟩:∃ kn,kn=s.know.set q ((p1:Int).tmod (kq+1)):=⟨_,rfl⟩
 have H7:Hx σ τ7 [.th (ow pI.kd kv kn),.th (ow pI.kd pv pl),.box 1 n1 [v0,v1,v2,v3],.th (own kState [v0,v1,v2,v3] s)]:=by rw[hkn];exact H7
 have hknl:kn.length=3:=by rw[hkn,List.length_set];exact hkl
 rw[← hkn]
 clear H6 H5 H4 H3 H1 R1 R4 P0 P1 K0
 simp +contextual (disch:=omega) only[go_sem]
 obtain⟨ca,τ8,R8,K8⟩:=i_Cleared_ret τ7 _ s (H7.hp.rd 3 rfl) kv kn (H7.hp.sl 0 rfl) (by omega) (by omega)
 obtain⟨A,hA⟩:∃ A,A=clrA s kn:=⟨_,rfl⟩
 have hAok:=clrA_ok (kn:=kn) hok
 have hcC:clrC s kn=(s.cells.length:Int) - A.cells.length:=by rw[hA];rfl
 have hAr:∀ o,rowOf A o=rowOf s o:=fun o=>by rw[hA];exact clrA_row hok o
 have hAg:∀ o,goneIn A.cells o≤goneIn s.cells o:=fun o=>by rw[hA];exact clrA_gone s kn o
 have hAf:clr A kn=A:=by rw[hA];exact clrA_fix s kn
 have hAe:clrN A kn=0:=by rw[hA];exact clrA_end s kn
 have hAB:=clrA_le s kn
 rw[← hA] at K8 hAok hAB
 have hAms:=hAok.ms
 have gca:ca.length=4:=kState.len (K8.rd 0 rfl)
 refine by_c H7 R8 K8 fun H8=> ?_
 obtain⟨a0,a1,a2,a3,rfl,_⟩:=K8.rd 0 rfl
 simp +contextual (disch:=omega) only[go_sem]
 intro n3 f3 τ9 _ τ10 H10
 have g3:σ.length≤n3:=by omega
 try simp +contextual (disch:=omega) only[go_sem]
 obtain⟨cb,τ11,R11,K11⟩:=i_ClearOnce_ret τ10 _ s (H10.hp.rd 5 rfl) kv kn (H10.hp.sl 2 rfl) (by omega) (by omega)
 obtain⟨B,hB⟩:∃ B,B=clr s kn:=⟨_,rfl⟩
 have hBok:=clr_ok (kn:=kn) hok
 have hcN:clrN s kn=(s.cells.length:Int) - B.cells.length:=by rw[hB];rfl
 have hBr:∀ o,rowOf B o=rowOf s o:=fun o=>by rw[hB];exact clr_row hok o
 rw[← hB] at K11 hBok hAB
 have hBms:=hBok.ms
 have gcb:cb.length=4:=kState.len (K11.rd 0 rfl)
 refine by_c H10 R11 K11 fun H11=> ?_
 obtain⟨b0,b1,b2,b3,rfl,_⟩:=K11.rd 0 rfl
 simp +contextual (disch:=omega) only[go_sem]
 intro n4 f4 τ12 _ τ13 H13
 have g4:σ.length≤n4:=by omega
 try simp +contextual (disch:=omega) only[go_sem]
 obtain⟨cc,τ14,R14,K14⟩:=i_ClearOnce_ret τ13 _ A (H13.hp.rd 3 rfl) kv kn (H13.hp.sl 4 rfl) (by omega) (by omega)
 rw[hAf] at K14
 rw[hAe] at R14
 have gcc:cc.length=4:=kState.len (K14.rd 0 rfl)
 refine by_c H13 R14 K14 fun H14=> ?_
 obtain⟨c0,c1,c2,c3,rfl,_⟩:=K14.rd 0 rfl
 simp +contextual (disch:=omega) only[go_sem]
 intro n5 f5 τ15 _ τ16 H16
 have g5:σ.length≤n5:=by omega
 try simp +contextual (disch:=omega) only[go_sem]
 intro n6 f6 τ17 H17
 have g6:σ.length≤n6:=by omega
 have HP:=(H17.re [0,1,2,3,4,5,6,9,10] (by decide)).rowS (l:=objsL) rfl rfl
 clear H17 H16 H14 H13 H11 H10 H8 H7 R8 R11 R14 K8 K11 K14
 have HP:Hx σ τ17 [.th (ow pS.kd (.sl n6 0 3) objsL),.box 1 n5 [c0,c1,c2,c3],.th (own kState [c0,c1,c2,c3] A),.box 1 n4 [b0,b1,b2,b3],.th (own kState [b0,b1,b2,b3] B),.box 1 n3 [a0,a1,a2,a3],.th (own kState [a0,a1,a2,a3] A),.box 1 n1 [v0,v1,v2,v3],.th (own kState [v0,v1,v2,v3] s)]:=HP
 refine sx_for 3 13 0 (fun i env hh=>env 3= .ptr n1 0∧env 6= .ptr n3 0∧env 7=gi (clrC s kn)∧env 8= .ptr n4 0∧env 9=gi (clrN s kn)∧env 10= .ptr n5 0∧env 11=gi 0∧env 12= .sl n6 0 3∧hh=[.th (ow pS.kd (.sl n6 0 3) objsL),.box 1 n5 [c0,c1,c2,c3],.th (own kState [c0,c1,c2,c3] A),.box 1 n4 [b0,b1,b2,b3],.th (own kState [b0,b1,b2,b3] B),.box 1 n3 [a0,a1,a2,a3],.th (own kState [a0,a1,a2,a3] A),.box 1 n1 [v0,v1,v2,v3],.th (own kState [v0,v1,v2,v3] s)]) (fun env hh=>env 3= .ptr n1 0∧env 6= .ptr n3 0∧env 7=gi (clrC s kn)∧env 8= .ptr n4 0∧env 9=gi (clrN s kn)∧env 10= .ptr n5 0∧env 11=gi 0∧hh=[.th (ow pS.kd (.sl n6 0 3) objsL),.box 1 n5 [c0,c1,c2,c3],.th (own kState [c0,c1,c2,c3] A),.box 1 n4 [b0,b1,b2,b3],.th (own kState [b0,b1,b2,b3] B),.box 1 n3 [a0,a1,a2,a3],.th (own kState [a0,a1,a2,a3] A),.box 1 n1 [v0,v1,v2,v3],.th (own kState [v0,v1,v2,v3] s)]) (fun _ _=>False) _ HP (by simp +contextual (disch:=omega) only[go_sem]) ⟨by simp +contextual (disch:=omega) only[go_sem],by simp +contextual (disch:=omega) only[go_sem],by simp +contextual (disch:=omega) only[go_sem],by simp +contextual (disch:=omega) only[go_sem],by simp +contextual (disch:=omega) only[go_sem],by simp +contextual (disch:=omega) only[go_sem],by simp +contextual (disch:=omega) only[go_sem],by simp +contextual (disch:=omega) only[go_sem],rfl⟩ ?_ ?_ ?_ (fun _ _ _ _ h=>h.elim)
 ·clear HP
  rintro J Y W hJ hY hW i env h' τ hi ei cc0 H ⟨e3,e6,e7,e8,e9,e10,e11,e12,rfl⟩
  have hlit:lenG false (.sl n6 0 3)=some 3:=rfl
  have hi3:i<objsL.length:=hi
  obtain⟨o,ho⟩:∃ o,o=objsL[i]:=⟨_,rfl⟩
  have ho5:=(objs_ok (List.getElem_mem hi3)).2
  have L0:=str_rd H 0 rfl hi3
  rw[← ho] at ho5 L0
  have cc0:decide ((i:Int)<3)=true:=cc0
  simp +contextual (disch:=omega) only[go_sem,cc0,e3,e6,e7,e8,e9,e10,e11,e12,ei,natOf_nat,hlit,L0]
  obtain⟨r1,t1,R1,K1⟩:=s_RowOf_ret τ _ A (H.hp.rd 6 rfl) o (by omega)
  refine by_c H R1 K1 fun H1=> ?_
  have L1:=str_rd H1 1 rfl hi3
  rw[← ho] at L1
  simp +contextual (disch:=omega) only[go_sem,e3,e6,e7,e8,e9,e10,e11,e12,ei,natOf_nat,L1]
  obtain⟨r2,t2,R2,K2⟩:=s_RowOf_ret t1 _ s (H1.hp.rd 9 rfl) o (by omega)
  refine by_c H1 R2 K2 fun H2=> ?_
  have L2:=str_rd H2 2 rfl hi3
  rw[← ho] at L2
  have rl:(rowOf s o).length≤1200120:=by unfold rowOf;rw[List.length_map];exact rowL_len s o
  have d1:decide (rowOf A o=rowOf s o)=true:=decide_eq_true (hAr o)
  simp +contextual (disch:=omega) only[go_sem,e3,e6,e7,e8,e9,e10,e11,e12,ei,natOf_nat,L2]
  refine by_r H2 (l_sameInts_ret t2 r1 r2 _ _ (H2.hp.sl 1 rfl) (H2.hp.sl 0 rfl) (by rw[hAr];omega)) ?_
  simp +contextual (disch:=omega) only[go_sem,e3,e6,e7,e8,e9,e10,e11,e12,ei,natOf_nat,L2,d1]
  obtain⟨r3,t3,R3,K3⟩:=s_RowOf_ret t2 _ B (H2.hp.rd 6 rfl) o (by omega)
  refine by_c H2 R3 K3 fun H3=> ?_
  have L3:=str_rd H3 3 rfl hi3
  rw[← ho] at L3
  simp +contextual (disch:=omega) only[go_sem,e3,e6,e7,e8,e9,e10,e11,e12,ei,natOf_nat,L3,d1]
  obtain⟨r4,t4,R4,K4⟩:=s_RowOf_ret t3 _ s (H3.hp.rd 11 rfl) o (by omega)
  refine by_c H3 R4 K4 fun H4=> ?_
  have L4:=str_rd H4 4 rfl hi3
  rw[← ho] at L4
  have d2:decide (rowOf B o=rowOf s o)=true:=decide_eq_true (hBr o)
  simp +contextual (disch:=omega) only[go_sem,e3,e6,e7,e8,e9,e10,e11,e12,ei,natOf_nat,L4]
  refine by_r H4 (l_sameInts_ret t4 r3 r4 _ _ (H4.hp.sl 1 rfl) (H4.hp.sl 0 rfl) (by rw[hBr];omega)) ?_
  simp +contextual (disch:=omega) only[go_sem,e3,e6,e7,e8,e9,e10,e11,e12,ei,natOf_nat,L4,d2]
  refine by_r H4 (i_GoneIn_ret t4 _ A (H4.hp.rd 10 rfl) o (by omega) (by omega)) ?_
  simp +contextual (disch:=omega) only[go_sem,e3,e6,e7,e8,e9,e10,e11,e12,ei,natOf_nat,L4]
  refine by_r H4 (i_GoneIn_ret t4 _ s (H4.hp.rd 12 rfl) o (by omega) (by omega)) ?_
  have d3:decide ((goneIn s.cells o:Int)<(goneIn A.cells o:Int))=false:=decide_eq_false (by have:=hAg o;omega)
  simp +contextual (disch:=omega) only[go_sem,e3,e6,e7,e8,e9,e10,e11,e12,ei,d3]
  exact hJ _ _ _ _ (H4.re [4,5,6,7,8,9,10,11,12] (by decide)) ⟨by simp +contextual (disch:=omega) only[go_sem,e3],by simp +contextual (disch:=omega) only[go_sem,e6],by simp +contextual (disch:=omega) only[go_sem,e7],by simp +contextual (disch:=omega) only[go_sem,e8],by simp +contextual (disch:=omega) only[go_sem,e9],by simp +contextual (disch:=omega) only[go_sem,e10],by simp +contextual (disch:=omega) only[go_sem,e11],by simp +contextual (disch:=omega) only[go_sem,e12],rfl⟩
 ·clear HP
  rintro Y hY env h' τ ei cc0 H ⟨e3,e6,e7,e8,e9,e10,e11,e12,rfl⟩
  have hlit:lenG false (.sl n6 0 3)=some 3:=rfl
  have cc0:decide ((3:Int)<3)=false:=rfl
  simp +contextual (disch:=omega) only[go_sem,cc0,e12,ei,hlit]
  exact hY _ _ _ H ⟨by simp +contextual (disch:=omega) only[go_sem,e3],by simp +contextual (disch:=omega) only[go_sem,e6],by simp +contextual (disch:=omega) only[go_sem,e7],by simp +contextual (disch:=omega) only[go_sem,e8],by simp +contextual (disch:=omega) only[go_sem,e9],by simp +contextual (disch:=omega) only[go_sem,e10],by simp +contextual (disch:=omega) only[go_sem,e11],rfl⟩
 clear HP
 rintro env h' τ H ⟨e3,e6,e7,e8,e9,e10,e11,rfl⟩
 simp +contextual (disch:=omega) only[go_sem,e3,e6,e7,e8,e9,e10,e11]
 refine by_r H (s_StateOk_ret τ _ A (H.hp.rd 6 rfl) (by omega)) ?_
 have oA:=okS_iff.2 hAok
 have oB:=okS_iff.2 hBok
 have bz:((0:Int)==0)=true:=rfl
 simp +contextual (disch:=omega) only[go_sem,e3,e6,e7,e8,e9,e10,e11,oA]
 refine by_r H (s_StateOk_ret τ _ B (H.hp.rd 4 rfl) (by omega)) ?_
 simp +contextual (disch:=omega) only[go_sem,e3,e6,e7,e8,e9,e10,e11,oB,bz]
 refine by_r H (s_SameState_ret τ _ _ A A (H.hp.rd 2 rfl) (H.hp.rd 6 rfl) (by omega) (by omega)) ?_
 have dA:decide (A=A)=true:=decide_eq_true rfl
 have dl:decide (clrN s kn≤clrC s kn)=true:=decide_eq_true (by rw[hcN,hcC];omega)
 obtain⟨_,_,_,_,eA,_,_,_,qA⟩:=H.hp.rd 6 rfl
 injection eA with _ eA;injection eA with _ eA;injection eA with _ eA;injection eA with eA _
 subst eA
 obtain⟨_,_,_,_,eB,_,_,_,qB⟩:=H.hp.rd 4 rfl
 injection eB with _ eB;injection eB with _ eB;injection eB with _ eB;injection eB with eB _
 subst eB
 have lA:=qA.len
 have lB:=qB.len
 have lS:=(kst _ 8 τ H rfl).2.len
 have hAc:=hAok.cn
 have hBc:=hBok.cn
 have hsc:=hok.cn
 have w1:(A.cells.length:Int)+clrC s kn=s.cells.length:=by rw[hcC];omega
 have w2:(B.cells.length:Int)+clrN s kn=s.cells.length:=by rw[hcN];omega
 have w3:IntKind.i64.wrap (s.cells.length:Int)=s.cells.length:=wrap_add (by omega) (by omega)
 simp +contextual (disch:=omega) only[go_sem,e3,e6,e7,e8,e9,e10,e11,dA,dl,lA,lB,lS,w1,w2,w3,beq_self_eq_true]
 exact fun _=>⟨_,rfl,rfl⟩
end Go.Proofs.Ytbeoiejnogdkpaa.Sy
