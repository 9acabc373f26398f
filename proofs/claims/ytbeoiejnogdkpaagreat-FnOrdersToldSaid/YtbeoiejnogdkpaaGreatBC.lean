/- Texts of this proof, one behind the other. -/
import Derived.Test.YtbeoiejnogdkpaaGreatBB
set_option linter.unusedSimpArgs false
set_option linter.unusedVariables false
set_option maxRecDepth 4000
set_option maxHeartbeats 4000000
open List renaming prefix_append→Zaa,append_nil→Zab
namespace Go.Proofs.YtbeoiejnogdkpaaGreat.Sy
open Go Go.RowKit
theorem Dg {P:Program} {a:Cd} {Q:Ex->Env->St->Prop} {env:Env} {N:St} (n ri:Nat) (I:Nat->Env->St->Prop) (hr:env ri=gi 0) (h0:I 0 env N)
  (hs:∀ i env N,i<n->env ri=gi i->decide ((i:Int)<n)=true->I i env N->vc P a (fun e env' N'=>match e with| .nxt=>env' ri=gi ((i:Int)+1)/\I (i+1) env' N'|e=>Q e env' N') env N)
  (he:∀ env N,env ri=gi n->decide ((n:Int)<n)=false->I n env N->vc P a (fun e env' N'=>match e with| .nxt=>False|e=>Q e env' N') env N):vc P (.lop a) Q env N:=by
 refine A7q (fun k env N=>∃ i:Nat,k=n - i/\i<=n/\env ri=gi i/\I i env N) n ⟨0,rfl,Nat.zero_le _,hr,h0⟩ ?_
 rintro k env N ⟨i,rfl,hi,h1,h2⟩
 rcases Nat.lt_or_ge i n with hlt|hge
 ·refine Bh (hs i env N hlt h1 (by simp;omega) h2) fun e env' N' he=> ?_
  cases e with
  |nxt=>
   obtain⟨h3,h4⟩:=he
   exact⟨n - (i+1),by omega,i+1,rfl,hlt,h3,h4⟩
  |ext j=>exact he
  |ret=>exact he
 ·obtain rfl:i=n:=by omega
  refine Bh (he env N h1 (by simp) h2) fun e env' N' he=> ?_
  cases e with
  |nxt=>exact he.elim
  |ext j=>exact he
  |ret=>exact he
theorem Jy {P:Program} {a:Cd} {Q:Ex->Env->St->Prop} {env:Env} {N:St} (I:Nat->Env->St->Prop) (n:Nat) (h0:I n env N)
  (hs:∀ J:Nat->Env->St->Prop,(∀ k env N,I k env N->J k env N)->∀ k env N,I k env N->vc P a (fun e env' N'=>match e with| .nxt=>∃ k',k'<k/\J k' env' N'|e=>Q e env' N') env N):vc P (.lop a) Q env N:=A7q I n h0 (hs I fun _ _ _ h=>h)
theorem As4 {P:Program} {a:Cd} {Q:Ex->Env->St->Prop} {env:Env} {N:St} (n ri:Nat) (I:Nat->Env->St->Prop) (hr:env ri=gi 0) (h0:I 0 env N)
  (hs:∀ J:Nat->Env->St->Prop,(∀ i env N,I i env N->J i env N)->∀ i env N,i<n->env ri=gi i->decide ((i:Int)<n)=true->I i env N->vc P a (fun e env' N'=>match e with| .nxt=>env' ri=gi ((i:Int)+1)/\J (i+1) env' N'|e=>Q e env' N') env N)
  (he:∀ env N,env ri=gi n->decide ((n:Int)<n)=false->I n env N->vc P a (fun e env' N'=>match e with| .nxt=>False|e=>Q e env' N') env N):vc P (.lop a) Q env N:=Dg n ri I hr h0 (hs I fun _ _ _ h=>h) he
theorem F5 {N U:St} {x:Option Blk} (h:N++[x] <+: U):N <+: U:=(Zaa _ _).trans h
theorem A0f {N U:St} {z:Nat} {cs:List GV} (h:N++[some (.row z cs)] <+: U):rdB U N.length=some cs:=Xv h (by unfold rdB;simp[Blk.cells])
theorem Mo {N:St} {g:Nat} {cs:List GV} (h:rdB N g=some cs) (r:St):rdB (N++r) g=some cs:=Xv (Zaa _ _) h
theorem pre1 (N:St) (x:Option Blk):N <+: N++[x]:=Zaa _ _
theorem A9z {N U:St} {x y:Option Blk} (h:N++[x]++[y] <+: U):N <+: U:=F5 (F5 h)
theorem Agq {N U:St} {z:Nat} {cs:List GV} {y:Option Blk} (h:N++[some (.row z cs)]++[y] <+: U):rdB U N.length=some cs:=A0f (F5 h)
attribute [go_sem] Bool.true_xor Bool.false_xor Eu Nat.reduceEqDiff Int.reduceEq Int.reduceNeg Zab
attribute [go_sem ↓] reduceIte
theorem RdN.cells1 {Y:Type} {d:Kd Y} {U:St} {v:GV} {l:List (List Y)} (h:RS d.sl U v l) {i:Nat} (hi:i<l.length):∃ c,(iadG 1 v (some i)=some (atz 1 v i)/\ldG false 1 U (atz 1 v i)=some c)/\RS d U c l[i]:=by
 obtain⟨cs,⟨c,rfl,hr⟩,hs⟩:=RdN.cells h hi
 have h1:=hs 0 1 [c] (by simp[seg]) false
 refine⟨c,⟨RdN.iad h hi,?_⟩,hr⟩
 rw[<- As3 (c:=c),<-h1]
 rcases h with⟨rfl,_⟩|⟨g,off,cs,rfl,_⟩
 ·simp at hi
 ·rfl
theorem RdN.cellsN {Y:Type} {d:Kd Y} {U:St} {v:GV} {l:List Y} (h:RS d U v l) {i:Nat} (hi:i<l.length):∃ cs,(iadG d.z v (some i)=some (atz d.z v i)/\(∀ k,fadG k (atz d.z v i)=some (fld k (atz d.z v i)))/\(∀ k m,fadG k (fld m (atz d.z v i))=some (fld (m+k) (atz d.z v i)))/\ldG true d.z U (atz d.z v i)=some (.agg cs)/\∀ k n a,k+n<=d.z->ldG a n U (fld k (atz d.z v i))=(seg cs k n).bind (mkv a))/\d.R U l[i] cs:=by
 obtain⟨cs,hr,hs⟩:=RdN.cells h hi
 have hl:=d.len hr
 have h1:=hs 0 d.z cs (by simp[seg,hl];exact List.take_of_length_le (by omega)) true
 refine⟨cs,⟨RdN.iad h hi,fun k=>RdN.fad h hi,fun k m=>RdN.fad2 h hi,?_,fun k n a hk=> ?_⟩,hr⟩
 ·have h2:mkv true cs=some (.agg cs):=rfl
  rw[<- h2,<-h1]
  rcases h with⟨rfl,_⟩|⟨g,off,cs,rfl,_⟩
  ·simp at hi
  ·rfl
 ·have e:seg cs k n=some ((cs.drop k).take n):=by unfold seg;rw[if_pos (by omega)]
  rw[e];exact hs k n _ e a
theorem J8 {P:Program} {env:Env} {U U':St} {K:Kt} {r:List Op1} {d:Option Nat} {D:Bool} {f:Nat} {args:List GV} {v:GV} {rs:List Thg} (h:Ret P f args U v U') (hp:Hp U U' rs) (k:Al D P r K (upo env d v) U'):A9x D f args P r K env d U:=by_new h hp.sub k
theorem Tr {md:Bool} {P:Program} {f:Nat} {F:Fn1} {args:List GV} {N:St} {rs:GV->List Thg} (hF:F3 md P f=some F) (hl:args.length<=F.n)
  (h:vc P F.c (fun e env U=>A6u e=true/\∃ r,resG env U F.rs=some r/\Hp N U (rs r)) (env0 args) N):∃ r U,Ret P f args N r U/\Hp N U (rs r):=by
 obtain⟨r,U,h1,h2,h3⟩:=Arv (Post:=fun r U=>Hp N U (rs r)) hF hl (Bh h fun e env U he=>by
  obtain⟨ho,r,hr,hp⟩:=he
  exact⟨ho,r,hr,hp.sub,hp⟩)
 exact⟨r,U,h1,h3⟩
@[go_sem] theorem rs_c {env:Env} {N:St} {a n:Nat} {agg:Bool}:(Rs.c a agg n).ev env N=ldG agg n N (env a):=by
 cases h:env a<;>simp[Rs.ev,h,ptrG,ldG]
@[go_sem] theorem st_new {n:Nat} {U:St} {z off:Nat} {cs:List GV} {x:GV}:stG n (U++[some (.row z cs)]) (.ptr U.length off) x=if off+n<=cs.length/\0<n/\x.cells.length=n then some (.tup [],U++[some (.row z (B5 cs off x.cells))]) else none:=by
 simp[stG]
theorem Aml {n:Nat} {U U':St} {a x:GV} (h:stG n U a x=some (.tup [],U')):U'.length=U.length:=by
 unfold stG at h
 repeat' split at h
 all_goals first|cases h;done|(injection h with h;injection h with h1 h2;subst h2;simp)
@[go_sem] theorem ld_new {a:Bool} {n:Nat} {U:St} {z off:Nat} {cs:List GV}:ldG a n (U++[some (.row z cs)]) (.ptr U.length off)=(seg cs off n).bind (mkv a):=A7 (by unfold rdB;simp[Blk.cells])
@[go_sem] theorem Amm {a:Bool} {n:Nat} {U:St} {z off:Nat} {cs:List GV} {b:Option Blk}:ldG a n (U++[some (.row z cs)]++[b]) (.ptr U.length off)=(seg cs off n).bind (mkv a):=A7 (by unfold rdB;simp[Blk.cells])
@[go_sem] theorem ld_new3 {a:Bool} {n:Nat} {U:St} {z off:Nat} {cs:List GV} {b c:Option Blk}:ldG a n (U++[some (.row z cs)]++[b]++[c]) (.ptr U.length off)=(seg cs off n).bind (mkv a):=A7 (by unfold rdB;simp[Blk.cells])
@[go_sem] theorem eqb_bool {n a b:Bool}:eqbG n (.bool a) (.bool b)=some (.bool (n ^^ (a==b))):=(rfl)
@[go_sem] theorem len_str {s:ByteArray}:lenG true (.str s)=some (s.size:Int):=(rfl)
theorem pre2 {N:St} {x y:Option Blk}:N <+: N++[x]++[y]:=A3 (pre1 _ _) _
theorem pre3 {N:St} {x y z:Option Blk}:N <+: N++[x]++[y]++[z]:=A3 pre2 _
attribute [go_sem] pre1 pre2 pre3 Option.some.injEq GV.int.injEq GV.bool.injEq GV.str.injEq
attribute [go_sem] decide_true decide_false Int.natCast_add Int.cast_ofNat_Int Int.add_zero Bool.true_eq_false
theorem A6 {cs:List GV} {n:Nat} (h:cs.length=n):(seg cs 0 n).bind (mkv true)=some (.agg cs):=by
 subst h
 simp[seg,mkv]
theorem A5 {cs ds:List GV} {n:Nat} (h:ds.length=n) (hc:cs.length=n):B5 cs 0 ds=ds:=by
 simp[B5,h,<-hc]
@[go_sem] theorem ext_0a {c r:List GV}:extG 0 (.tup (.agg c::r))=some (.agg c):=(rfl)
@[go_sem] theorem ext_0i {k:IntKind} {n:Int} {r:List GV}:extG 0 (.tup (.int k n::r))=some (.int k n):=(rfl)
@[go_sem] theorem ext_1a {w:GV} {c r:List GV}:extG 1 (.tup (w::.agg c::r))=some (.agg c):=(rfl)
@[go_sem] theorem ext_1i {w:GV} {k:IntKind} {n:Int} {r:List GV}:extG 1 (.tup (w::.int k n::r))=some (.int k n):=(rfl)
@[go_sem] theorem ext_1b {w:GV} {c:Bool} {r:List GV}:extG 1 (.tup (w::.bool c::r))=some (.bool c):=(rfl)
@[go_sem] theorem ext_2i {u w:GV} {k:IntKind} {n:Int} {r:List GV}:extG 2 (.tup (u::w::.int k n::r))=some (.int k n):=(rfl)
@[go_sem] theorem tup2_if {x y:GV}:tup2 (some x) (some y)=if Eq x&&Eq y then some (.tup [x,y]) else none:=(rfl)
@[go_sem] theorem tup3_if {x y z:GV}:tup3 (some x) (some y) (some z)=if Eq x&&(Eq y&&Eq z) then some (.tup [x,y,z]) else none:=(rfl)
@[go_sem] theorem notTup_int {k:IntKind} {n:Int}:Eq (.int k n)=true:=(rfl)
@[go_sem] theorem As5 {b:Bool}:Eq (.bool b)=true:=(rfl)
@[go_sem] theorem notTup_agg {cs:List GV}:Eq (.agg cs)=true:=(rfl)
@[go_sem] theorem notTup_nil:Eq .nilS=true:=(rfl)
theorem Aql {Y:Type} {p:Pl Y} (U:St) {z:Nat} {cs:List GV} (l:List Y) {n:Nat} (hz:z=p.z) (hc:cs=p.cells l) (hn:n=l.length):RS p.kd (U++[some (.row z cs)]) (.sl U.length 0 n) l:=by
 subst hz hc hn
 exact(((Hp.refl U).new p.z (p.cells l)).toRow 0 rfl l rfl rfl _ rfl).sl 0 rfl
namespace Hp
theorem conv {N U:St} {r r':Thg} {rs:List Thg} (H:Hp N U (r::rs)) (h:∀ fp,r.P U fp->r'.P U fp):Hp N U (r'::rs):=by
 obtain⟨a,ha,hn,hb,ht⟩:=H.turn
 exact ht ⟨hn,fun g hg=>.inl hg,Nat.le_refl _,fun _ _ _=>rfl⟩ (h a ha)
theorem app_int {N U:St} {rs:List Thg} {v:GV} {l:List Int} (H:Hp N U rs) (i:Nat) (hi:rs[i]? =some (ow pI.kd v l)) (x:Int) (hb:(l.length+1)*8<=140737488355328):∃ v' U',appV 1 8 (U++[some (.row 1 [.int .i64 x])]) v (.sl U.length 0 1)=some (v',U')/\Hp N U' (rs.set i (ow pI.kd v' (l++[x]))):=H.app1 i hi x (by decide) hb
theorem apps_int {N U:St} {rs:List Thg} {v u:GV} {l k:List Int} (H:Hp N U rs) (i:Nat) (hi:rs[i]? =some (ow pI.kd v l)) (hx:RS pI.kd U u k) (hb:(l.length+k.length)*8<=140737488355328):∃ v' U',appV 1 8 U v u=some (v',U')/\Hp N U' (rs.set i (ow pI.kd v' (l++k))):=H.app i hi hx (by decide) hb
theorem nil_int {N U:St} {rs:List Thg} (H:Hp N U rs):Hp N (U++[some (.row 1 [])]) (ow pI.kd (.sl U.length 0 0) []::rs):=H.newNil pI.kd
theorem app_Tally {N U:St} {rs:List Thg} {v:GV} {l:List Tally} (H:Hp N U rs) (i:Nat) (hi:rs[i]? =some (ow Ah.kd v l)) (x:Tally) (hb:(l.length+1)*32<=140737488355328):∃ v' U',appV 3 32 (U++[some (.row 3 [.str x.obj,.int .i64 x.rep,.int .i64 x.sum])]) v (.sl U.length 0 1)=some (v',U')/\Hp N U' (rs.set i (ow Ah.kd v' (l++[x]))):=H.app1 i hi x (by decide) hb
theorem apps_Tally {N U:St} {rs:List Thg} {v u:GV} {l k:List Tally} (H:Hp N U rs) (i:Nat) (hi:rs[i]? =some (ow Ah.kd v l)) (hx:RS Ah.kd U u k) (hb:(l.length+k.length)*32<=140737488355328):∃ v' U',appV 3 32 U v u=some (v',U')/\Hp N U' (rs.set i (ow Ah.kd v' (l++k))):=H.app i hi hx (by decide) hb
theorem nil_Tally {N U:St} {rs:List Thg} (H:Hp N U rs):Hp N (U++[some (.row 3 [])]) (ow Ah.kd (.sl U.length 0 0) []::rs):=H.newNil Ah.kd
theorem app_Live {N U:St} {rs:List Thg} {v:GV} {l:List Live} (H:Hp N U rs) (i:Nat) (hi:rs[i]? =some (ow Ap.kd v l)) (x:Live) (hb:(l.length+1)*64<=140737488355328):∃ v' U',appV 6 64 (U++[some (.row 6 [.bool x.map,.str x.obj,.str x.key,.int .i64 x.val,.int .i64 x.dot.rep,.int .i64 x.dot.seq])]) v (.sl U.length 0 1)=some (v',U')/\Hp N U' (rs.set i (ow Ap.kd v' (l++[x]))):=H.app1 i hi x (by decide) hb
theorem apps_Live {N U:St} {rs:List Thg} {v u:GV} {l k:List Live} (H:Hp N U rs) (i:Nat) (hi:rs[i]? =some (ow Ap.kd v l)) (hx:RS Ap.kd U u k) (hb:(l.length+k.length)*64<=140737488355328):∃ v' U',appV 6 64 U v u=some (v',U')/\Hp N U' (rs.set i (ow Ap.kd v' (l++k))):=H.app i hi hx (by decide) hb
theorem nil_Live {N U:St} {rs:List Thg} (H:Hp N U rs):Hp N (U++[some (.row 6 [])]) (ow Ap.kd (.sl U.length 0 0) []::rs):=H.newNil Ap.kd
theorem app_Cell {N U:St} {rs:List Thg} {v:GV} {l:List Cell} (H:Hp N U rs) (i:Nat) (hi:rs[i]? =some (ow Ai.kd v l)) (x:Cell) (hb:(l.length+1)*72<=140737488355328):∃ v' U',appV 8 72 (U++[some (.row 8 [.str x.obj,.int .i64 x.dot.rep,.int .i64 x.dot.seq,.int .i64 x.time,.int .i64 x.ref.rep,.int .i64 x.ref.seq,.int .i64 x.val,.bool x.gone])]) v (.sl U.length 0 1)=some (v',U')/\Hp N U' (rs.set i (ow Ai.kd v' (l++[x]))):=H.app1 i hi x (by decide) hb
theorem apps_Cell {N U:St} {rs:List Thg} {v u:GV} {l k:List Cell} (H:Hp N U rs) (i:Nat) (hi:rs[i]? =some (ow Ai.kd v l)) (hx:RS Ai.kd U u k) (hb:(l.length+k.length)*72<=140737488355328):∃ v' U',appV 8 72 U v u=some (v',U')/\Hp N U' (rs.set i (ow Ai.kd v' (l++k))):=H.app i hi hx (by decide) hb
theorem nil_Cell {N U:St} {rs:List Thg} (H:Hp N U rs):Hp N (U++[some (.row 8 [])]) (ow Ai.kd (.sl U.length 0 0) []::rs):=H.newNil Ai.kd
theorem one {N U:St} {r:Thg} {rs:List Thg} (H:Hp N U (r::rs)):Hp N U [r]:=by
 obtain⟨h,fp,⟨a,b,hr,hs,rfl⟩,hn,hb⟩:=H
 exact⟨h,a,⟨a,[],hr,rfl,by simp⟩,(List.nodup_append.1 hn).1,fun g hg=>hb g (List.mem_append_left _ hg)⟩
theorem stw {Y:Type} {p:Pl Y} {N U:St} {rs:List Thg} {v:GV} {l:List Y} (H:Hp N U rs) (i:Nat) (hi:rs[i]? =some (ow p.kd v l)) {j:Nat} (hj:j<l.length) (n:Nat) (x:GV) (y:Y) (hx:x.cells=p.enc y) (hn:n=p.z) (hz:0<n):
  ∃ U',stG n U (atz p.z v j) x=some (.tup [],U')/\Hp N U' (rs.set i (ow p.kd v (l.set j y))):=by
 subst hn
 have:=H.ste i hi hj p.z 0 x y (by rw[hx,p.len]) hz (by omega) (by rw[hx];unfold B5;rw[List.take_zero,List.nil_append,p.len,List.drop_eq_nil_of_le (by rw[p.len];omega),Zab])
 obtain⟨U',e,h⟩:=this
 refine⟨U',?_,h⟩
 rw[<- e]
 cases v<;>rfl
end Hp
theorem Sl.rs {Y:Type} {e:Ek Y} {k:Kd Y} (hz:e.z=k.z) (hb:∀ {N x cs},e.R N x cs->k.R N x cs) {N:St} {v:GV} {l:List Y} (h:Sl e N v l):RS k N v l:=by
 rcases h with h|⟨g,off,cs,h1,h2,h3,h4⟩
 ·exact .inl h
 ·refine .inr ⟨g,off,cs,h1,As0 h2,by show off+l.length*k.z<=_;rw[<- hz];exact h3,fun i x hx=> ?_⟩
  show k.R N x ((cs.drop (off+i*k.z)).take k.z)
  rw[<- hz];exact hb (h4 i x hx)
end Go.Proofs.YtbeoiejnogdkpaaGreat.Sy
