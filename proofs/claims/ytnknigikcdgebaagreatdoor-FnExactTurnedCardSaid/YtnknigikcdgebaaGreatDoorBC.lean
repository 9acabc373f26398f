/- Texts of this proof, one behind the other. -/
import Derived.Test.YtnknigikcdgebaaGreatDoorBB
set_option linter.unusedSimpArgs false
set_option linter.unusedVariables false
set_option maxRecDepth 4000
set_option maxHeartbeats 4000000
open List renaming prefix_append→Zaa,append_nil→Zab
namespace Go.Proofs.YtnknigikcdgebaaGreatDoor.Sy
open Go Go.RowKit
theorem Aw {P:Program} {a:Cd} {Q:Ex->Env->St->Prop} {env:Env} {N:St} (n ri:Nat) (I:Nat->Env->St->Prop) (hr:env ri=gi 0) (h0:I 0 env N)
  (hs:∀ i env N,i<n->env ri=gi i->decide ((i:Int)<n)=true->I i env N->vc P a (fun e env' N'=>match e with| .nxt=>env' ri=gi ((i:Int)+1)/\I (i+1) env' N'|e=>Q e env' N') env N)
  (he:∀ env N,env ri=gi n->decide ((n:Int)<n)=false->I n env N->vc P a (fun e env' N'=>match e with| .nxt=>False|e=>Q e env' N') env N):vc P (.lop a) Q env N:=by
 refine Mm (fun k env N=>∃ i:Nat,k=n - i/\i<=n/\env ri=gi i/\I i env N) n ⟨0,rfl,Nat.zero_le _,hr,h0⟩ ?_
 rintro k env N ⟨i,rfl,hi,h1,h2⟩
 rcases Nat.lt_or_ge i n with hlt|hge
 ·refine Ao (hs i env N hlt h1 (by simp;omega) h2) fun e env' N' he=> ?_
  cases e with
  |nxt=>
   obtain⟨h3,h4⟩:=he
   exact⟨n - (i+1),by omega,i+1,rfl,hlt,h3,h4⟩
  |ext j=>exact he
  |ret=>exact he
 ·obtain rfl:i=n:=by omega
  refine Ao (he env N h1 (by simp) h2) fun e env' N' he=> ?_
  cases e with
  |nxt=>exact he.elim
  |ext j=>exact he
  |ret=>exact he
theorem Be {P:Program} {a:Cd} {Q:Ex->Env->St->Prop} {env:Env} {N:St} (I:Nat->Env->St->Prop) (n:Nat) (h0:I n env N)
  (hs:∀ J:Nat->Env->St->Prop,(∀ k env N,I k env N->J k env N)->∀ k env N,I k env N->vc P a (fun e env' N'=>match e with| .nxt=>∃ k',k'<k/\J k' env' N'|e=>Q e env' N') env N):vc P (.lop a) Q env N:=Mm I n h0 (hs I fun _ _ _ h=>h)
theorem M3 {P:Program} {a:Cd} {Q:Ex->Env->St->Prop} {env:Env} {N:St} (n ri:Nat) (I:Nat->Env->St->Prop) (hr:env ri=gi 0) (h0:I 0 env N)
  (hs:∀ J:Nat->Env->St->Prop,(∀ i env N,I i env N->J i env N)->∀ i env N,i<n->env ri=gi i->decide ((i:Int)<n)=true->I i env N->vc P a (fun e env' N'=>match e with| .nxt=>env' ri=gi ((i:Int)+1)/\J (i+1) env' N'|e=>Q e env' N') env N)
  (he:∀ env N,env ri=gi n->decide ((n:Int)<n)=false->I n env N->vc P a (fun e env' N'=>match e with| .nxt=>False|e=>Q e env' N') env N):vc P (.lop a) Q env N:=Aw n ri I hr h0 (hs I fun _ _ _ h=>h) he
theorem C3 {N U:St} {x:Option Blk} (h:N++[x] <+: U):N <+: U:=(Zaa _ _).trans h
theorem J3 {N U:St} {z:Nat} {cs:List GV} (h:N++[some (.row z cs)] <+: U):rdB U N.length=some cs:=A6 h (by unfold rdB;simp[Blk.cells])
theorem A8l {N:St} {g:Nat} {cs:List GV} (h:rdB N g=some cs) (r:St):rdB (N++r) g=some cs:=A6 (Zaa _ _) h
theorem pre1 (N:St) (x:Option Blk):N <+: N++[x]:=Zaa _ _
theorem Z0 {N U:St} {x y:Option Blk} (h:N++[x]++[y] <+: U):N <+: U:=C3 (C3 h)
theorem Z1 {N U:St} {z:Nat} {cs:List GV} {y:Option Blk} (h:N++[some (.row z cs)]++[y] <+: U):rdB U N.length=some cs:=J3 (C3 h)
attribute [go_sem] Bool.true_xor Bool.false_xor Bh Nat.reduceEqDiff Int.reduceEq Int.reduceNeg Zab
attribute [go_sem ↓] reduceIte
theorem Er {P:Program} {env:Env} {U U':St} {K:Kt} {r:List Op1} {d:Option Nat} {D:Bool} {f:Nat} {args:List GV} {v:GV} {rs:List Thg} (h:Ret P f args U v U') (hp:Hp U U' rs) (k:Ab D P r K (upo env d v) U'):Xz D f args P r K env d U:=Aar h hp.sub k
theorem A13 {md:Bool} {P:Program} {f:Nat} {F:Fn1} {args:List GV} {N:St} {rs:GV->List Thg} (hF:Fd md P f=some F) (hl:args.length<=F.n)
  (h:vc P F.c (fun e env U=>Pq e=true/\∃ r,resG env U F.rs=some r/\Hp N U (rs r)) (env0 args) N):∃ r U,Ret P f args N r U/\Hp N U (rs r):=by
 obtain⟨r,U,h1,h2,h3⟩:=A8h (Post:=fun r U=>Hp N U (rs r)) hF hl (Ao h fun e env U he=>by
  obtain⟨ho,r,hr,hp⟩:=he
  exact⟨ho,r,hr,hp.sub,hp⟩)
 exact⟨r,U,h1,h3⟩
@[go_sem] theorem rs_c {env:Env} {N:St} {a n:Nat} {agg:Bool}:(Rs.c a agg n).ev env N=ldG agg n N (env a):=by
 cases h:env a<;>simp[Rs.ev,h,ptrG,ldG]
@[go_sem] theorem st_new {n:Nat} {U:St} {z off:Nat} {cs:List GV} {x:GV}:stG n (U++[some (.row z cs)]) (.ptr U.length off) x=if off+n<=cs.length/\0<n/\x.cells.length=n then some (.tup [],U++[some (.row z (Am cs off x.cells))]) else none:=by
 simp[stG]
@[go_sem] theorem st_new2 {n:Nat} {U:St} {z off:Nat} {cs:List GV} {x:GV} {b:Option Blk}:stG n (U++[some (.row z cs)]++[b]) (.ptr U.length off) x=if off+n<=cs.length/\0<n/\x.cells.length=n then some (.tup [],U++[some (.row z (Am cs off x.cells))]++[b]) else none:=by
 simp[stG]
theorem Bf {n:Nat} {U U':St} {a x:GV} (h:stG n U a x=some (.tup [],U')):U'.length=U.length:=by
 unfold stG at h
 repeat' split at h
 all_goals first|cases h;done|(injection h with h;injection h with h1 h2;subst h2;simp)
@[go_sem] theorem Mn {a:Bool} {n:Nat} {U:St} {z off:Nat} {cs:List GV}:ldG a n (U++[some (.row z cs)]) (.ptr U.length off)=(seg cs off n).bind (mkv a):=A1 (by unfold rdB;simp[Blk.cells])
@[go_sem] theorem I0 {a:Bool} {n:Nat} {U:St} {z off:Nat} {cs:List GV} {b:Option Blk}:ldG a n (U++[some (.row z cs)]++[b]) (.ptr U.length off)=(seg cs off n).bind (mkv a):=A1 (by unfold rdB;simp[Blk.cells])
@[go_sem] theorem ld_new3 {a:Bool} {n:Nat} {U:St} {z off:Nat} {cs:List GV} {b c:Option Blk}:ldG a n (U++[some (.row z cs)]++[b]++[c]) (.ptr U.length off)=(seg cs off n).bind (mkv a):=A1 (by unfold rdB;simp[Blk.cells])
@[go_sem] theorem eqb_bool {n a b:Bool}:eqbG n (.bool a) (.bool b)=some (.bool (n ^^ (a==b))):=(rfl)
@[go_sem] theorem len_str {s:ByteArray}:lenG true (.str s)=some (s.size:Int):=(rfl)
theorem pre2 {N:St} {x y:Option Blk}:N <+: N++[x]++[y]:=A0 (pre1 _ _) _
theorem pre3 {N:St} {x y z:Option Blk}:N <+: N++[x]++[y]++[z]:=A0 pre2 _
attribute [go_sem] pre1 pre2 pre3 Option.some.injEq GV.int.injEq GV.bool.injEq GV.str.injEq
attribute [go_sem] decide_true decide_false Int.natCast_add Int.cast_ofNat_Int Int.add_zero Bool.true_eq_false
theorem Ah {cs:List GV} {n:Nat} (h:cs.length=n):(seg cs 0 n).bind (mkv true)=some (.agg cs):=by
 subst h
 simp[seg,mkv]
theorem Pt {cs ds:List GV} {n:Nat} (h:ds.length=n) (hc:cs.length=n):Am cs 0 ds=ds:=by
 simp[Am,h,<-hc]
@[go_sem] theorem ext_0i {k:IntKind} {n:Int} {r:List GV}:extG 0 (.tup (.int k n::r))=some (.int k n):=(rfl)
@[go_sem] theorem ext_1i {w:GV} {k:IntKind} {n:Int} {r:List GV}:extG 1 (.tup (w::.int k n::r))=some (.int k n):=(rfl)
@[go_sem] theorem ext_1b {w:GV} {c:Bool} {r:List GV}:extG 1 (.tup (w::.bool c::r))=some (.bool c):=(rfl)
theorem Ac0 {md:Bool} {P:Program} {f:Nat} {F:Fn1} {args:List GV} {N:St} (hF:Fd md P f=some F) (hl:args.length<=F.n)
  (h:vc P F.c (fun e env U=>Pq e=true/\resG env U F.rs=some (.bool true)/\N.length<=U.length) (env0 args) N):∃ r U,Ret P f args N r U/\r= .bool true:=
 Ak (Post:=fun r U=>r= .bool true) hF hl (Ao h fun e env U he=>⟨he.1,_,he.2.1,he.2.2,rfl⟩)
@[go_sem] theorem tup2_if {x y:GV}:tup2 (some x) (some y)=if Dk x&&Dk y then some (.tup [x,y]) else none:=(rfl)
@[go_sem] theorem notTup_int {k:IntKind} {n:Int}:Dk (.int k n)=true:=(rfl)
@[go_sem] theorem Ac1 {b:Bool}:Dk (.bool b)=true:=(rfl)
@[go_sem] theorem notTup_agg {cs:List GV}:Dk (.agg cs)=true:=(rfl)
theorem A8m {Y:Type} {p:Pl Y} (U:St) {z:Nat} {cs:List GV} (l:List Y) {n:Nat} (hz:z=p.z) (hc:cs=p.cells l) (hn:n=l.length):RS p.kd (U++[some (.row z cs)]) (.sl U.length 0 n) l:=by
 subst hz hc hn
 exact(((Hp.refl U).new p.z (p.cells l)).toRow 0 rfl l rfl rfl _ rfl).sl 0 rfl
theorem A3w {n:Nat}:decide (1+(n:Int)<0)=false:=decide_eq_false (by omega)
theorem A3x {n:Nat} {c:Int} (h:0<=c):decide (1+c*(n:Int)<0)=false:=decide_eq_false (by have:=Int.mul_nonneg h (Int.natCast_nonneg n);omega)
namespace Hp
theorem conv {N U:St} {r r':Thg} {rs:List Thg} (H:Hp N U (r::rs)) (h:∀ fp,r.P U fp->r'.P U fp):Hp N U (r'::rs):=by
 obtain⟨a,ha,hn,hb,ht⟩:=H.turn
 exact ht ⟨hn,fun g hg=>.inl hg,Nat.le_refl _,fun _ _ _=>rfl⟩ (h a ha)
theorem app_int {N U:St} {rs:List Thg} {v:GV} {l:List Int} (H:Hp N U rs) (i:Nat) (hi:rs[i]? =some (ow pI.kd v l)) (x:Int) (hb:(l.length+1)*8<=140737488355328):∃ v' U',appV 1 8 (U++[some (.row 1 [.int .i64 x])]) v (.sl U.length 0 1)=some (v',U')/\Hp N U' (rs.set i (ow pI.kd v' (l++[x]))):=H.app1 i hi x (by decide) hb
theorem nil_int {N U:St} {rs:List Thg} (H:Hp N U rs):Hp N (U++[some (.row 1 [])]) (ow pI.kd (.sl U.length 0 0) []::rs):=H.newNil pI.kd
theorem app_str {N U:St} {rs:List Thg} {v:GV} {l:List ByteArray} (H:Hp N U rs) (i:Nat) (hi:rs[i]? =some (ow pS.kd v l)) (x:ByteArray) (hb:(l.length+1)*16<=140737488355328):∃ v' U',appV 1 16 (U++[some (.row 1 [.str x])]) v (.sl U.length 0 1)=some (v',U')/\Hp N U' (rs.set i (ow pS.kd v' (l++[x]))):=H.app1 i hi x (by decide) hb
theorem nil_str {N U:St} {rs:List Thg} (H:Hp N U rs):Hp N (U++[some (.row 1 [])]) (ow pS.kd (.sl U.length 0 0) []::rs):=H.newNil pS.kd
theorem app_Dot {N U:St} {rs:List Thg} {v:GV} {l:List Dot} (H:Hp N U rs) (i:Nat) (hi:rs[i]? =some (ow pDot.kd v l)) (x:Dot) (hb:(l.length+1)*16<=140737488355328):∃ v' U',appV 2 16 (U++[some (.row 2 [.int .i64 x.rep,.int .i64 x.seq])]) v (.sl U.length 0 1)=some (v',U')/\Hp N U' (rs.set i (ow pDot.kd v' (l++[x]))):=H.app1 i hi x (by decide) hb
theorem nil_Dot {N U:St} {rs:List Thg} (H:Hp N U rs):Hp N (U++[some (.row 2 [])]) (ow pDot.kd (.sl U.length 0 0) []::rs):=H.newNil pDot.kd
theorem app_Live {N U:St} {rs:List Thg} {v:GV} {l:List Live} (H:Hp N U rs) (i:Nat) (hi:rs[i]? =some (ow Cb.kd v l)) (x:Live) (hb:(l.length+1)*64<=140737488355328):∃ v' U',appV 6 64 (U++[some (.row 6 [.bool x.map,.str x.obj,.str x.key,.int .i64 x.val,.int .i64 x.dot.rep,.int .i64 x.dot.seq])]) v (.sl U.length 0 1)=some (v',U')/\Hp N U' (rs.set i (ow Cb.kd v' (l++[x]))):=H.app1 i hi x (by decide) hb
theorem nil_Live {N U:St} {rs:List Thg} (H:Hp N U rs):Hp N (U++[some (.row 6 [])]) (ow Cb.kd (.sl U.length 0 0) []::rs):=H.newNil Cb.kd
theorem app_Cell {N U:St} {rs:List Thg} {v:GV} {l:List Cell} (H:Hp N U rs) (i:Nat) (hi:rs[i]? =some (ow Aj.kd v l)) (x:Cell) (hb:(l.length+1)*72<=140737488355328):∃ v' U',appV 8 72 (U++[some (.row 8 [.str x.obj,.int .i64 x.dot.rep,.int .i64 x.dot.seq,.int .i64 x.time,.int .i64 x.ref.rep,.int .i64 x.ref.seq,.int .i64 x.val,.bool x.gone])]) v (.sl U.length 0 1)=some (v',U')/\Hp N U' (rs.set i (ow Aj.kd v' (l++[x]))):=H.app1 i hi x (by decide) hb
theorem nil_Cell {N U:St} {rs:List Thg} (H:Hp N U rs):Hp N (U++[some (.row 8 [])]) (ow Aj.kd (.sl U.length 0 0) []::rs):=H.newNil Aj.kd
theorem one {N U:St} {r:Thg} {rs:List Thg} (H:Hp N U (r::rs)):Hp N U [r]:=by
 obtain⟨h,fp,⟨a,b,hr,hs,rfl⟩,hn,hb⟩:=H
 exact⟨h,a,⟨a,[],hr,rfl,by simp⟩,(List.nodup_append.1 hn).1,fun g hg=>hb g (List.mem_append_left _ hg)⟩
theorem stw {Y:Type} {p:Pl Y} {N U:St} {rs:List Thg} {v:GV} {l:List Y} (H:Hp N U rs) (i:Nat) (hi:rs[i]? =some (ow p.kd v l)) {j:Nat} (hj:j<l.length) (n:Nat) (x:GV) (y:Y) (hx:x.cells=p.enc y) (hn:n=p.z) (hz:0<n):
  ∃ U',stG n U (atz p.z v j) x=some (.tup [],U')/\Hp N U' (rs.set i (ow p.kd v (l.set j y))):=by
 subst hn
 have:=H.ste i hi hj p.z 0 x y (by rw[hx,p.len]) hz (by omega) (by rw[hx];unfold Am;rw[List.take_zero,List.nil_append,p.len,List.drop_eq_nil_of_le (by rw[p.len];omega),Zab])
 obtain⟨U',e,h⟩:=this
 refine⟨U',?_,h⟩
 rw[<- e]
 cases v<;>rfl
end Hp
theorem Sl.rs {Y:Type} {e:Ek Y} {k:Kd Y} (hz:e.z=k.z) (hb:∀ {N x cs},e.R N x cs->k.R N x cs) {N:St} {v:GV} {l:List Y} (h:Sl e N v l):RS k N v l:=by
 rcases h with h|⟨g,off,cs,h1,h2,h3,h4⟩
 ·exact .inl h
 ·refine .inr ⟨g,off,cs,h1,Abv h2,by show off+l.length*k.z<=_;rw[<- hz];exact h3,fun i x hx=> ?_⟩
  show k.R N x ((cs.drop (off+i*k.z)).take k.z)
  rw[<- hz];exact hb (h4 i x hx)
theorem agg_of {P:Program} {w:World} {r:Reach} {base:Nat} {t:TypeId} {fs:Array Field} {v:Value} (ht:P.underlying t=some (.struct fs)) (h:Value.okWide P w r base t v):∃ cs,v= .agg cs:=by
 simp only[Value.okWide,ht] at h
 obtain⟨cs,h1,_⟩:=h
 exact⟨cs,h1⟩
def eDot:Ek Dot:=Ek.iso (Ek.pair (Ek.int .i64) (Ek.int .i64)) (fun x=>(x.rep,x.seq))
def zDot (x:Dot):Prop:=I64 (x.rep)/\I64 (x.seq)
theorem Ac2 {N:St} {x:Dot} {cs:List GV} (h:eDot.R N x cs):pDot.kd.R N x cs:=by
 obtain⟨c0,d0,rfl,h0,h⟩:=h
 obtain rfl:=h0
 obtain rfl:=h
 rfl
def eTally:Ek Tally:=Ek.iso (Ek.pair Ek.str (Ek.pair (Ek.int .i64) (Ek.int .i64))) (fun x=>(x.obj,x.rep,x.sum))
def zTally (x:Tally):Prop:=(x.obj).size<=9223372036854775807/\I64 (x.rep)/\I64 (x.sum)
theorem Ac3 {N:St} {x:Tally} {cs:List GV} (h:eTally.R N x cs):Cm.kd.R N x cs:=by
 obtain⟨c0,d0,rfl,h0,h⟩:=h
 obtain rfl:=h0
 obtain⟨c1,d1,rfl,h1,h⟩:=h
 obtain rfl:=h1
 obtain rfl:=h
 rfl
def eLive:Ek Live:=Ek.iso (Ek.pair Ek.bool (Ek.pair Ek.str (Ek.pair Ek.str (Ek.pair (Ek.int .i64) eDot)))) (fun x=>(x.map,x.obj,x.key,x.val,x.dot))
def zLive (x:Live):Prop:=True/\(x.obj).size<=9223372036854775807/\(x.key).size<=9223372036854775807/\I64 (x.val)/\zDot (x.dot)
theorem brLive {N:St} {x:Live} {cs:List GV} (h:eLive.R N x cs):Cb.kd.R N x cs:=by
 obtain⟨c0,d0,rfl,h0,h⟩:=h
 obtain rfl:=h0
 obtain⟨c1,d1,rfl,h1,h⟩:=h
 obtain rfl:=h1
 obtain⟨c2,d2,rfl,h2,h⟩:=h
 obtain rfl:=h2
 obtain⟨c3,d3,rfl,h3,h⟩:=h
 obtain rfl:=h3
 obtain rfl:=Ac2 h
 rfl
def eCell:Ek Cell:=Ek.iso (Ek.pair Ek.str (Ek.pair eDot (Ek.pair (Ek.int .i64) (Ek.pair eDot (Ek.pair (Ek.int .i64) Ek.bool))))) (fun x=>(x.obj,x.dot,x.time,x.ref,x.val,x.gone))
def zCell (x:Cell):Prop:=(x.obj).size<=9223372036854775807/\zDot (x.dot)/\I64 (x.time)/\zDot (x.ref)/\I64 (x.val)/\True
theorem brCell {N:St} {x:Cell} {cs:List GV} (h:eCell.R N x cs):Aj.kd.R N x cs:=by
 obtain⟨c0,d0,rfl,h0,h⟩:=h
 obtain rfl:=h0
 obtain⟨c1,d1,rfl,h1,h⟩:=h
 obtain rfl:=Ac2 h1
 obtain⟨c2,d2,rfl,h2,h⟩:=h
 obtain rfl:=h2
 obtain⟨c3,d3,rfl,h3,h⟩:=h
 obtain rfl:=Ac2 h3
 obtain⟨c4,d4,rfl,h4,h⟩:=h
 obtain rfl:=h4
 obtain rfl:=h
 rfl
def eWatch:Ek Watch:=Ek.iso (Ek.pair (Ek.int .i64) (Ek.pair Ek.str Ek.str)) (fun x=>(x.kind,x.obj,x.key))
def zWatch (x:Watch):Prop:=I64 (x.kind)/\(x.obj).size<=9223372036854775807/\(x.key).size<=9223372036854775807
theorem Ac4 {N:St} {x:Watch} {cs:List GV} (h:eWatch.R N x cs):Dm.kd.R N x cs:=by
 obtain⟨c0,d0,rfl,h0,h⟩:=h
 obtain rfl:=h0
 obtain⟨c1,d1,rfl,h1,h⟩:=h
 obtain rfl:=h1
 obtain rfl:=h
 rfl
def eState:Ek State:=Ek.iso (Ek.pair (Ek.slice (Ek.int .i64)) (Ek.pair (Ek.slice eTally) (Ek.pair (Ek.slice eLive) (Ek.slice eCell)))) (fun x=>(x.know,x.tallies,x.lives,x.cells))
def zState (x:State):Prop:=((x.know).length<=9223372036854775807/\∀ y4∈x.know,I64 (y4))/\((x.tallies).length<=9223372036854775807/\∀ y6∈x.tallies,zTally (y6))/\((x.lives).length<=9223372036854775807/\∀ y5∈x.lives,zLive (y5))/\((x.cells).length<=9223372036854775807/\∀ y5∈x.cells,zCell (y5))
theorem A8n {N:St} {x:State} {cs:List GV} (h:eState.R N x cs):A9.R N x cs:=by
 obtain⟨c0,d0,rfl,h0,h⟩:=h
 obtain⟨v0,rfl,s0⟩:=h0
 obtain⟨c1,d1,rfl,h1,h⟩:=h
 obtain⟨v1,rfl,s1⟩:=h1
 obtain⟨c2,d2,rfl,h2,h⟩:=h
 obtain⟨v2,rfl,s2⟩:=h2
 obtain⟨v3,rfl,s3⟩:=h
 exact⟨v0,v1,v2,v3,rfl,s0.rs rfl (fun h=>h),s1.rs rfl (Ac3),s2.rs rfl (brLive),s3.rs rfl (brCell)⟩
end Go.Proofs.YtnknigikcdgebaaGreatDoor.Sy
