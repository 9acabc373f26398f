/- Texts of this proof, one behind the other. -/
import Derived.Test.YtbeoiejnogdkpaaGreatBB
set_option linter.unusedSimpArgs false
set_option linter.unusedVariables false
set_option maxRecDepth 4000
namespace Go.Proofs.YtbeoiejnogdkpaaGreat.Sy
section
open Go Go.RowKit
@[go_sem] theorem seg_zero {cs:List GV}:seg cs 0 0=some []:=by simp[seg]
@[go_sem] theorem seg_take {c:GV} {cs:List GV} {m:Nat}:seg (c::cs) 0 (m+1)=(seg cs 0 m).map (c::·):=by
 unfold seg
 by_cases h:m≤cs.length
 ·rw[if_pos (by simp;omega),if_pos (by omega)];simp
 ·rw[if_neg (by simp;omega),if_neg (by omega)];rfl
@[go_sem] theorem seg_drop {c:GV} {cs:List GV} {n m:Nat}:seg (c::cs) (n+1) m=seg cs n m:=by
 unfold seg
 by_cases h:n+m≤cs.length
 ·rw[if_pos (by simp;omega),if_pos h];simp
 ·rw[if_neg (by simp;omega),if_neg h]
@[go_sem] theorem mkv_one {c:GV}:mkv false [c]=some c:=(rfl)
@[go_sem] theorem mkv_all {cs:List GV}:mkv true cs=some (.agg cs):=(rfl)
@[go_sem] theorem Xx {cs:List GV}:Ao cs 0 []=cs:=by simp[Ao]
@[go_sem] theorem Tr {c x:GV} {cs xs:List GV}:Ao (c::cs) 0 (x::xs)=x::Ao cs 0 xs:=by simp[Ao]
@[go_sem] theorem Ts {c:GV} {cs xs:List GV} {n:Nat}:Ao (c::cs) (n+1) xs=c::Ao cs n xs:=by
 simp only[Ao,List.take_succ_cons,List.cons_append,List.cons.injEq,true_and]
 congr 1
 rw[show n+1+xs.length=(n+xs.length)+1 by omega,List.drop_succ_cons]
@[go_sem] theorem fillG_cons {cs:List GV} {off size:Nat} {v:GV} {r:List (Nat×Nat×GV)}:Gr cs ((off,size,v)::r)=if v.cells.length=size∧0<size∧off+size≤cs.length then Gr (Ao cs off v.cells) r else none:=(rfl)
@[go_sem] theorem cells_int {k:IntKind} {n:Int}:(GV.int k n).cells=[.int k n]:=(rfl)
@[go_sem] theorem cells_str {s:ByteArray}:(GV.str s).cells=[.str s]:=(rfl)
@[go_sem] theorem cells_bool {b:Bool}:(GV.bool b).cells=[.bool b]:=(rfl)
@[go_sem] theorem cells_agg {cs:List GV}:(GV.agg cs).cells=cs:=(rfl)
@[go_sem] theorem cells_nil:GV.nilS.cells=[.nilS]:=(rfl)
@[go_sem] theorem cells_sl {g o n:Nat}:(GV.sl g o n).cells=[.sl g o n]:=(rfl)
attribute [go_sem] List.length_cons List.length_nil Nat.zero_add Nat.reduceAdd Nat.reduceLeDiff Nat.reduceLT Nat.lt_add_one Nat.le_refl Nat.add_zero List.cons_append List.nil_append
theorem A5 {a:Bool} {n g off:Nat} {τ:St} {cs:List GV} (h:rdB τ g=some cs):ldG a n τ (.ptr g off)=(seg cs off n).bind (mkv a):=by simp only[ldG,h,Option.bind_some]
section
variable {α:Type} {d:En α} {p:Pl α} {σ:St} {v:GV} {l:List α}
theorem RdN.cell (h:RdN d σ v l):v.cells=[v]:=by
 rcases h with⟨_,rfl|rfl⟩|⟨g,off,cs,rfl,_⟩<;>rfl
theorem RdN.fad (h:RdN d σ v l) {i:Nat} (hi:i<l.length) {z k:Nat}:fadG k (atz z v i)=some (fld k (atz z v i)):=by
 rcases h with⟨rfl,_⟩|⟨g,off,cs,rfl,_⟩
 ·simp at hi
 ·rfl
theorem RdN.fad2 (h:RdN d σ v l) {i:Nat} (hi:i<l.length) {z k m:Nat}:fadG k (fld m (atz z v i))=some (fld (m+k) (atz z v i)):=by
 rcases h with⟨rfl,_⟩|⟨g,off,cs,rfl,_⟩
 ·simp at hi
 ·simp only[fld,atz,fadG,Nat.add_assoc]
theorem RdN.ldf (h:RdN p.kd.en σ v l) {i:Nat} (hi:i<l.length) {k n:Nat} {a:Bool} (hk:k+n≤p.z):ldG a n σ (fld k (atz p.z v i))=(seg (p.enc l[i]) k n).bind (mkv a):=by
 obtain⟨cs,hc,hs⟩:=RdN.cells h hi
 have hc:cs=p.enc l[i]:=hc
 subst hc
 have e:seg (p.enc l[i]) k n=some (((p.enc l[i]).drop k).take n):=by unfold seg;rw[if_pos (by rw[p.len];exact hk)]
 rw[e]
 exact hs k n _ e a
theorem RdN.ld (h:RdN p.kd.en σ v l) {i:Nat} (hi:i<l.length) {n:Nat} {a:Bool} (hk:n≤p.z):ldG a n σ (atz p.z v i)=(seg (p.enc l[i]) 0 n).bind (mkv a):=by
 have:=h.ldf hi (k:=0) (n:=n) (a:=a) (by omega)
 rw[← this]
 rcases h with⟨rfl,_⟩|⟨g,off,cs,rfl,_⟩
 ·simp at hi
 ·rfl
end
structure Dot where
 rep:Int
 seq:Int
instance:DecidableEq Dot:=fun a b=>if h:a.rep=b.rep∧a.seq=b.seq then isTrue (by cases a;cases b;simp only at h;obtain⟨rfl,rfl⟩:=h;rfl) else isFalse (fun e=>h (by subst e;exact⟨rfl,rfl⟩))
theorem Dot.eq_iff {a b:Dot}:a=b↔a.rep=b.rep∧a.seq=b.seq:=⟨fun h=>by subst h;exact⟨rfl,rfl⟩,fun h=>by cases a;cases b;simp only at h;obtain⟨rfl,rfl⟩:=h;rfl⟩
def pDot:Pl Dot:=⟨2,fun x=>[.int .i64 x.rep,.int .i64 x.seq],fun _=>rfl⟩
@[go_sem] theorem eqs_Dot {n:Bool} {a0:Int} {a1:Int} {b0:Int} {b1:Int}:eqsG n [.i .i64,.i .i64] (.agg [.int .i64 a0,.int .i64 a1]) (.agg [.int .i64 b0,.int .i64 b1])=some (.bool (n ^^ decide ((⟨a0,a1⟩:Dot)=⟨b0,b1⟩))):=by
 simp only[eqsG,Cs,scEq,and_self,if_true,Option.bind_some,Option.map_some,Bu]
 congr 3;rw[Bool.eq_iff_iff];simp[and_assoc]
@[go_sem] theorem eta_Dot {x:Dot}:(⟨x.rep,x.seq⟩:Dot)=x:=(rfl)
theorem A6k {σ:St} {v:GV} {l:List Dot} (h:RS pDot.kd σ v l) {i:Nat} (hi:i<l.length):iadG 2 v (some i)=some (atz 2 v i)∧(∀ k,fadG k (atz 2 v i)=some (fld k (atz 2 v i)))∧(∀ k m,fadG k (fld m (atz 2 v i))=some (fld (m+k) (atz 2 v i)))∧ldG false 1 σ (fld 0 (atz 2 v i))=some (.int .i64 l[i].rep)∧ldG false 1 σ (fld 1 (atz 2 v i))=some (.int .i64 l[i].seq)∧ldG true 2 σ (atz 2 v i)=some (.agg [.int .i64 l[i].rep,.int .i64 l[i].seq]):=
 ⟨RdN.iad h hi,fun k=>RdN.fad h hi,fun k m=>RdN.fad2 h hi,RdN.ldf h hi (k:=0) (by decide),RdN.ldf h hi (k:=1) (by decide),RdN.ld h hi (by decide)⟩
structure Tally where
 obj:ByteArray
 rep:Int
 sum:Int
instance:DecidableEq Tally:=fun a b=>if h:a.obj=b.obj∧a.rep=b.rep∧a.sum=b.sum then isTrue (by cases a;cases b;simp only at h;obtain⟨rfl,rfl,rfl⟩:=h;rfl) else isFalse (fun e=>h (by subst e;exact⟨rfl,rfl,rfl⟩))
theorem Tally.eq_iff {a b:Tally}:a=b↔a.obj=b.obj∧a.rep=b.rep∧a.sum=b.sum:=⟨fun h=>by subst h;exact⟨rfl,rfl,rfl⟩,fun h=>by cases a;cases b;simp only at h;obtain⟨rfl,rfl,rfl⟩:=h;rfl⟩
def Ab:Pl Tally:=⟨3,fun x=>[.str x.obj,.int .i64 x.rep,.int .i64 x.sum],fun _=>rfl⟩
theorem A9s {x:Tally}:Ab.enc x=[.str x.obj,.int .i64 x.rep,.int .i64 x.sum]:=(rfl)
@[go_sem] theorem eqs_Tally {n:Bool} {a0:ByteArray} {a1:Int} {a2:Int} {b0:ByteArray} {b1:Int} {b2:Int}:eqsG n [.s,.i .i64,.i .i64] (.agg [.str a0,.int .i64 a1,.int .i64 a2]) (.agg [.str b0,.int .i64 b1,.int .i64 b2])=some (.bool (n ^^ decide ((⟨a0,a1,a2⟩:Tally)=⟨b0,b1,b2⟩))):=by
 simp only[eqsG,Cs,scEq,and_self,if_true,Option.bind_some,Option.map_some,Bu]
 congr 3;rw[Bool.eq_iff_iff];simp[and_assoc]
@[go_sem] theorem eta_Tally {x:Tally}:(⟨x.obj,x.rep,x.sum⟩:Tally)=x:=(rfl)
theorem Aa {σ:St} {v:GV} {l:List Tally} (h:RS Ab.kd σ v l) {i:Nat} (hi:i<l.length):iadG 3 v (some i)=some (atz 3 v i)∧(∀ k,fadG k (atz 3 v i)=some (fld k (atz 3 v i)))∧(∀ k m,fadG k (fld m (atz 3 v i))=some (fld (m+k) (atz 3 v i)))∧ldG false 1 σ (fld 0 (atz 3 v i))=some (.str l[i].obj)∧ldG false 1 σ (fld 1 (atz 3 v i))=some (.int .i64 l[i].rep)∧ldG false 1 σ (fld 2 (atz 3 v i))=some (.int .i64 l[i].sum)∧ldG true 3 σ (atz 3 v i)=some (.agg [.str l[i].obj,.int .i64 l[i].rep,.int .i64 l[i].sum]):=
 ⟨RdN.iad h hi,fun k=>RdN.fad h hi,fun k m=>RdN.fad2 h hi,RdN.ldf h hi (k:=0) (by decide),RdN.ldf h hi (k:=1) (by decide),RdN.ldf h hi (k:=2) (by decide),RdN.ld h hi (by decide)⟩
structure Live where
 map:Bool
 obj:ByteArray
 key:ByteArray
 val:Int
 dot:Dot
instance:DecidableEq Live:=fun a b=>if h:a.map=b.map∧a.obj=b.obj∧a.key=b.key∧a.val=b.val∧a.dot=b.dot then isTrue (by cases a;cases b;simp only at h;obtain⟨rfl,rfl,rfl,rfl,rfl⟩:=h;rfl) else isFalse (fun e=>h (by subst e;exact⟨rfl,rfl,rfl,rfl,rfl⟩))
theorem Live.eq_iff {a b:Live}:a=b↔a.map=b.map∧a.obj=b.obj∧a.key=b.key∧a.val=b.val∧a.dot=b.dot:=⟨fun h=>by subst h;exact⟨rfl,rfl,rfl,rfl,rfl⟩,fun h=>by cases a;cases b;simp only at h;obtain⟨rfl,rfl,rfl,rfl,rfl⟩:=h;rfl⟩
def Ai:Pl Live:=⟨6,fun x=>[.bool x.map,.str x.obj,.str x.key,.int .i64 x.val,.int .i64 x.dot.rep,.int .i64 x.dot.seq],fun _=>rfl⟩
theorem Ach {x:Live}:Ai.enc x=[.bool x.map,.str x.obj,.str x.key,.int .i64 x.val,.int .i64 x.dot.rep,.int .i64 x.dot.seq]:=(rfl)
@[go_sem] theorem eqs_Live {n:Bool} {a0:Bool} {a1:ByteArray} {a2:ByteArray} {a3:Int} {a4:Int} {a5:Int} {b0:Bool} {b1:ByteArray} {b2:ByteArray} {b3:Int} {b4:Int} {b5:Int}:eqsG n [.b,.s,.s,.i .i64,.i .i64,.i .i64] (.agg [.bool a0,.str a1,.str a2,.int .i64 a3,.int .i64 a4,.int .i64 a5]) (.agg [.bool b0,.str b1,.str b2,.int .i64 b3,.int .i64 b4,.int .i64 b5])=some (.bool (n ^^ decide ((⟨a0,a1,a2,a3,⟨a4,a5⟩⟩:Live)=⟨b0,b1,b2,b3,⟨b4,b5⟩⟩))):=by
 simp only[eqsG,Cs,scEq,and_self,if_true,Option.bind_some,Option.map_some,Bu]
 congr 3;rw[Bool.eq_iff_iff];simp[and_assoc]
@[go_sem] theorem eta_Live {x:Live}:(⟨x.map,x.obj,x.key,x.val,x.dot⟩:Live)=x:=(rfl)
theorem A6 {σ:St} {v:GV} {l:List Live} (h:RS Ai.kd σ v l) {i:Nat} (hi:i<l.length):iadG 6 v (some i)=some (atz 6 v i)∧(∀ k,fadG k (atz 6 v i)=some (fld k (atz 6 v i)))∧(∀ k m,fadG k (fld m (atz 6 v i))=some (fld (m+k) (atz 6 v i)))∧ldG false 1 σ (fld 0 (atz 6 v i))=some (.bool l[i].map)∧ldG false 1 σ (fld 1 (atz 6 v i))=some (.str l[i].obj)∧ldG false 1 σ (fld 2 (atz 6 v i))=some (.str l[i].key)∧ldG false 1 σ (fld 3 (atz 6 v i))=some (.int .i64 l[i].val)∧ldG false 1 σ (fld 4 (atz 6 v i))=some (.int .i64 l[i].dot.rep)∧ldG false 1 σ (fld 5 (atz 6 v i))=some (.int .i64 l[i].dot.seq)∧ldG true 2 σ (fld 4 (atz 6 v i))=some (.agg [.int .i64 l[i].dot.rep,.int .i64 l[i].dot.seq])∧ldG true 6 σ (atz 6 v i)=some (.agg [.bool l[i].map,.str l[i].obj,.str l[i].key,.int .i64 l[i].val,.int .i64 l[i].dot.rep,.int .i64 l[i].dot.seq]):=
 ⟨RdN.iad h hi,fun k=>RdN.fad h hi,fun k m=>RdN.fad2 h hi,RdN.ldf h hi (k:=0) (by decide),RdN.ldf h hi (k:=1) (by decide),RdN.ldf h hi (k:=2) (by decide),RdN.ldf h hi (k:=3) (by decide),RdN.ldf h hi (k:=4) (by decide),RdN.ldf h hi (k:=5) (by decide),RdN.ldf h hi (k:=4) (by decide),RdN.ld h hi (by decide)⟩
structure Cell where
 obj:ByteArray
 dot:Dot
 time:Int
 ref:Dot
 val:Int
 gone:Bool
instance:DecidableEq Cell:=fun a b=>if h:a.obj=b.obj∧a.dot=b.dot∧a.time=b.time∧a.ref=b.ref∧a.val=b.val∧a.gone=b.gone then isTrue (by cases a;cases b;simp only at h;obtain⟨rfl,rfl,rfl,rfl,rfl,rfl⟩:=h;rfl) else isFalse (fun e=>h (by subst e;exact⟨rfl,rfl,rfl,rfl,rfl,rfl⟩))
theorem Cell.eq_iff {a b:Cell}:a=b↔a.obj=b.obj∧a.dot=b.dot∧a.time=b.time∧a.ref=b.ref∧a.val=b.val∧a.gone=b.gone:=⟨fun h=>by subst h;exact⟨rfl,rfl,rfl,rfl,rfl,rfl⟩,fun h=>by cases a;cases b;simp only at h;obtain⟨rfl,rfl,rfl,rfl,rfl,rfl⟩:=h;rfl⟩
def Ae:Pl Cell:=⟨8,fun x=>[.str x.obj,.int .i64 x.dot.rep,.int .i64 x.dot.seq,.int .i64 x.time,.int .i64 x.ref.rep,.int .i64 x.ref.seq,.int .i64 x.val,.bool x.gone],fun _=>rfl⟩
theorem Nc {x:Cell}:Ae.enc x=[.str x.obj,.int .i64 x.dot.rep,.int .i64 x.dot.seq,.int .i64 x.time,.int .i64 x.ref.rep,.int .i64 x.ref.seq,.int .i64 x.val,.bool x.gone]:=(rfl)
@[go_sem] theorem eqs_Cell {n:Bool} {a0:ByteArray} {a1:Int} {a2:Int} {a3:Int} {a4:Int} {a5:Int} {a6:Int} {a7:Bool} {b0:ByteArray} {b1:Int} {b2:Int} {b3:Int} {b4:Int} {b5:Int} {b6:Int} {b7:Bool}:eqsG n [.s,.i .i64,.i .i64,.i .i64,.i .i64,.i .i64,.i .i64,.b] (.agg [.str a0,.int .i64 a1,.int .i64 a2,.int .i64 a3,.int .i64 a4,.int .i64 a5,.int .i64 a6,.bool a7]) (.agg [.str b0,.int .i64 b1,.int .i64 b2,.int .i64 b3,.int .i64 b4,.int .i64 b5,.int .i64 b6,.bool b7])=some (.bool (n ^^ decide ((⟨a0,⟨a1,a2⟩,a3,⟨a4,a5⟩,a6,a7⟩:Cell)=⟨b0,⟨b1,b2⟩,b3,⟨b4,b5⟩,b6,b7⟩))):=by
 simp only[eqsG,Cs,scEq,and_self,if_true,Option.bind_some,Option.map_some,Bu]
 congr 3;rw[Bool.eq_iff_iff];simp[and_assoc]
@[go_sem] theorem eta_Cell {x:Cell}:(⟨x.obj,x.dot,x.time,x.ref,x.val,x.gone⟩:Cell)=x:=(rfl)
theorem A7 {σ:St} {v:GV} {l:List Cell} (h:RS Ae.kd σ v l) {i:Nat} (hi:i<l.length):iadG 8 v (some i)=some (atz 8 v i)∧(∀ k,fadG k (atz 8 v i)=some (fld k (atz 8 v i)))∧(∀ k m,fadG k (fld m (atz 8 v i))=some (fld (m+k) (atz 8 v i)))∧ldG false 1 σ (fld 0 (atz 8 v i))=some (.str l[i].obj)∧ldG false 1 σ (fld 1 (atz 8 v i))=some (.int .i64 l[i].dot.rep)∧ldG false 1 σ (fld 2 (atz 8 v i))=some (.int .i64 l[i].dot.seq)∧ldG false 1 σ (fld 3 (atz 8 v i))=some (.int .i64 l[i].time)∧ldG false 1 σ (fld 4 (atz 8 v i))=some (.int .i64 l[i].ref.rep)∧ldG false 1 σ (fld 5 (atz 8 v i))=some (.int .i64 l[i].ref.seq)∧ldG false 1 σ (fld 6 (atz 8 v i))=some (.int .i64 l[i].val)∧ldG false 1 σ (fld 7 (atz 8 v i))=some (.bool l[i].gone)∧ldG true 2 σ (fld 1 (atz 8 v i))=some (.agg [.int .i64 l[i].dot.rep,.int .i64 l[i].dot.seq])∧ldG true 2 σ (fld 4 (atz 8 v i))=some (.agg [.int .i64 l[i].ref.rep,.int .i64 l[i].ref.seq])∧ldG true 8 σ (atz 8 v i)=some (.agg [.str l[i].obj,.int .i64 l[i].dot.rep,.int .i64 l[i].dot.seq,.int .i64 l[i].time,.int .i64 l[i].ref.rep,.int .i64 l[i].ref.seq,.int .i64 l[i].val,.bool l[i].gone]):=
 ⟨RdN.iad h hi,fun k=>RdN.fad h hi,fun k m=>RdN.fad2 h hi,RdN.ldf h hi (k:=0) (by decide),RdN.ldf h hi (k:=1) (by decide),RdN.ldf h hi (k:=2) (by decide),RdN.ldf h hi (k:=3) (by decide),RdN.ldf h hi (k:=4) (by decide),RdN.ldf h hi (k:=5) (by decide),RdN.ldf h hi (k:=6) (by decide),RdN.ldf h hi (k:=7) (by decide),RdN.ldf h hi (k:=1) (by decide),RdN.ldf h hi (k:=4) (by decide),RdN.ld h hi (by decide)⟩
structure Edit where
 kind:Int
 obj:ByteArray
 key:ByteArray
 val:Int
 place:Int
instance:DecidableEq Edit:=fun a b=>if h:a.kind=b.kind∧a.obj=b.obj∧a.key=b.key∧a.val=b.val∧a.place=b.place then isTrue (by cases a;cases b;simp only at h;obtain⟨rfl,rfl,rfl,rfl,rfl⟩:=h;rfl) else isFalse (fun e=>h (by subst e;exact⟨rfl,rfl,rfl,rfl,rfl⟩))
theorem Edit.eq_iff {a b:Edit}:a=b↔a.kind=b.kind∧a.obj=b.obj∧a.key=b.key∧a.val=b.val∧a.place=b.place:=⟨fun h=>by subst h;exact⟨rfl,rfl,rfl,rfl,rfl⟩,fun h=>by cases a;cases b;simp only at h;obtain⟨rfl,rfl,rfl,rfl,rfl⟩:=h;rfl⟩
def pEdit:Pl Edit:=⟨5,fun x=>[.int .i64 x.kind,.str x.obj,.str x.key,.int .i64 x.val,.int .i64 x.place],fun _=>rfl⟩
@[go_sem] theorem eqs_Edit {n:Bool} {a0:Int} {a1:ByteArray} {a2:ByteArray} {a3:Int} {a4:Int} {b0:Int} {b1:ByteArray} {b2:ByteArray} {b3:Int} {b4:Int}:eqsG n [.i .i64,.s,.s,.i .i64,.i .i64] (.agg [.int .i64 a0,.str a1,.str a2,.int .i64 a3,.int .i64 a4]) (.agg [.int .i64 b0,.str b1,.str b2,.int .i64 b3,.int .i64 b4])=some (.bool (n ^^ decide ((⟨a0,a1,a2,a3,a4⟩:Edit)=⟨b0,b1,b2,b3,b4⟩))):=by
 simp only[eqsG,Cs,scEq,and_self,if_true,Option.bind_some,Option.map_some,Bu]
 congr 3;rw[Bool.eq_iff_iff];simp[and_assoc]
@[go_sem] theorem eta_Edit {x:Edit}:(⟨x.kind,x.obj,x.key,x.val,x.place⟩:Edit)=x:=(rfl)
structure Watch where
 kind:Int
 obj:ByteArray
 key:ByteArray
instance:DecidableEq Watch:=fun a b=>if h:a.kind=b.kind∧a.obj=b.obj∧a.key=b.key then isTrue (by cases a;cases b;simp only at h;obtain⟨rfl,rfl,rfl⟩:=h;rfl) else isFalse (fun e=>h (by subst e;exact⟨rfl,rfl,rfl⟩))
theorem Watch.eq_iff {a b:Watch}:a=b↔a.kind=b.kind∧a.obj=b.obj∧a.key=b.key:=⟨fun h=>by subst h;exact⟨rfl,rfl,rfl⟩,fun h=>by cases a;cases b;simp only at h;obtain⟨rfl,rfl,rfl⟩:=h;rfl⟩
def pWatch:Pl Watch:=⟨3,fun x=>[.int .i64 x.kind,.str x.obj,.str x.key],fun _=>rfl⟩
@[go_sem] theorem eqs_Watch {n:Bool} {a0:Int} {a1:ByteArray} {a2:ByteArray} {b0:Int} {b1:ByteArray} {b2:ByteArray}:eqsG n [.i .i64,.s,.s] (.agg [.int .i64 a0,.str a1,.str a2]) (.agg [.int .i64 b0,.str b1,.str b2])=some (.bool (n ^^ decide ((⟨a0,a1,a2⟩:Watch)=⟨b0,b1,b2⟩))):=by
 simp only[eqsG,Cs,scEq,and_self,if_true,Option.bind_some,Option.map_some,Bu]
 congr 3;rw[Bool.eq_iff_iff];simp[and_assoc]
@[go_sem] theorem eta_Watch {x:Watch}:(⟨x.kind,x.obj,x.key⟩:Watch)=x:=(rfl)
structure Clash where
 obj:ByteArray
 key:ByteArray
instance:DecidableEq Clash:=fun a b=>if h:a.obj=b.obj∧a.key=b.key then isTrue (by cases a;cases b;simp only at h;obtain⟨rfl,rfl⟩:=h;rfl) else isFalse (fun e=>h (by subst e;exact⟨rfl,rfl⟩))
theorem Clash.eq_iff {a b:Clash}:a=b↔a.obj=b.obj∧a.key=b.key:=⟨fun h=>by subst h;exact⟨rfl,rfl⟩,fun h=>by cases a;cases b;simp only at h;obtain⟨rfl,rfl⟩:=h;rfl⟩
def pClash:Pl Clash:=⟨2,fun x=>[.str x.obj,.str x.key],fun _=>rfl⟩
@[go_sem] theorem eqs_Clash {n:Bool} {a0:ByteArray} {a1:ByteArray} {b0:ByteArray} {b1:ByteArray}:eqsG n [.s,.s] (.agg [.str a0,.str a1]) (.agg [.str b0,.str b1])=some (.bool (n ^^ decide ((⟨a0,a1⟩:Clash)=⟨b0,b1⟩))):=by
 simp only[eqsG,Cs,scEq,and_self,if_true,Option.bind_some,Option.map_some,Bu]
 congr 3;rw[Bool.eq_iff_iff];simp[and_assoc]
@[go_sem] theorem eta_Clash {x:Clash}:(⟨x.obj,x.key⟩:Clash)=x:=(rfl)
structure File where
 text:ByteArray
 synced:Int
instance:DecidableEq File:=fun a b=>if h:a.text=b.text∧a.synced=b.synced then isTrue (by cases a;cases b;simp only at h;obtain⟨rfl,rfl⟩:=h;rfl) else isFalse (fun e=>h (by subst e;exact⟨rfl,rfl⟩))
theorem File.eq_iff {a b:File}:a=b↔a.text=b.text∧a.synced=b.synced:=⟨fun h=>by subst h;exact⟨rfl,rfl⟩,fun h=>by cases a;cases b;simp only at h;obtain⟨rfl,rfl⟩:=h;rfl⟩
def pFile:Pl File:=⟨2,fun x=>[.str x.text,.int .i64 x.synced],fun _=>rfl⟩
@[go_sem] theorem eqs_File {n:Bool} {a0:ByteArray} {a1:Int} {b0:ByteArray} {b1:Int}:eqsG n [.s,.i .i64] (.agg [.str a0,.int .i64 a1]) (.agg [.str b0,.int .i64 b1])=some (.bool (n ^^ decide ((⟨a0,a1⟩:File)=⟨b0,b1⟩))):=by
 simp only[eqsG,Cs,scEq,and_self,if_true,Option.bind_some,Option.map_some,Bu]
 congr 3;rw[Bool.eq_iff_iff];simp[and_assoc]
@[go_sem] theorem eta_File {x:File}:(⟨x.text,x.synced⟩:File)=x:=(rfl)
structure Letter where
 to:Int
 text:ByteArray
instance:DecidableEq Letter:=fun a b=>if h:a.to=b.to∧a.text=b.text then isTrue (by cases a;cases b;simp only at h;obtain⟨rfl,rfl⟩:=h;rfl) else isFalse (fun e=>h (by subst e;exact⟨rfl,rfl⟩))
theorem Letter.eq_iff {a b:Letter}:a=b↔a.to=b.to∧a.text=b.text:=⟨fun h=>by subst h;exact⟨rfl,rfl⟩,fun h=>by cases a;cases b;simp only at h;obtain⟨rfl,rfl⟩:=h;rfl⟩
def A9t:Pl Letter:=⟨2,fun x=>[.int .i64 x.to,.str x.text],fun _=>rfl⟩
@[go_sem] theorem eqs_Letter {n:Bool} {a0:Int} {a1:ByteArray} {b0:Int} {b1:ByteArray}:eqsG n [.i .i64,.s] (.agg [.int .i64 a0,.str a1]) (.agg [.int .i64 b0,.str b1])=some (.bool (n ^^ decide ((⟨a0,a1⟩:Letter)=⟨b0,b1⟩))):=by
 simp only[eqsG,Cs,scEq,and_self,if_true,Option.bind_some,Option.map_some,Bu]
 congr 3;rw[Bool.eq_iff_iff];simp[and_assoc]
@[go_sem] theorem eta_Letter {x:Letter}:(⟨x.to,x.text⟩:Letter)=x:=(rfl)
structure Event where
 kind:Int
 at_:Int
 num:Int
 edit:Edit
instance:DecidableEq Event:=fun a b=>if h:a.kind=b.kind∧a.at_=b.at_∧a.num=b.num∧a.edit=b.edit then isTrue (by cases a;cases b;simp only at h;obtain⟨rfl,rfl,rfl,rfl⟩:=h;rfl) else isFalse (fun e=>h (by subst e;exact⟨rfl,rfl,rfl,rfl⟩))
theorem Event.eq_iff {a b:Event}:a=b↔a.kind=b.kind∧a.at_=b.at_∧a.num=b.num∧a.edit=b.edit:=⟨fun h=>by subst h;exact⟨rfl,rfl,rfl,rfl⟩,fun h=>by cases a;cases b;simp only at h;obtain⟨rfl,rfl,rfl,rfl⟩:=h;rfl⟩
def Aeb:Pl Event:=⟨8,fun x=>[.int .i64 x.kind,.int .i64 x.at_,.int .i64 x.num,.int .i64 x.edit.kind,.str x.edit.obj,.str x.edit.key,.int .i64 x.edit.val,.int .i64 x.edit.place],fun _=>rfl⟩
@[go_sem] theorem eqs_Event {n:Bool} {a0:Int} {a1:Int} {a2:Int} {a3:Int} {a4:ByteArray} {a5:ByteArray} {a6:Int} {a7:Int} {b0:Int} {b1:Int} {b2:Int} {b3:Int} {b4:ByteArray} {b5:ByteArray} {b6:Int} {b7:Int}:eqsG n [.i .i64,.i .i64,.i .i64,.i .i64,.s,.s,.i .i64,.i .i64] (.agg [.int .i64 a0,.int .i64 a1,.int .i64 a2,.int .i64 a3,.str a4,.str a5,.int .i64 a6,.int .i64 a7]) (.agg [.int .i64 b0,.int .i64 b1,.int .i64 b2,.int .i64 b3,.str b4,.str b5,.int .i64 b6,.int .i64 b7])=some (.bool (n ^^ decide ((⟨a0,a1,a2,⟨a3,a4,a5,a6,a7⟩⟩:Event)=⟨b0,b1,b2,⟨b3,b4,b5,b6,b7⟩⟩))):=by
 simp only[eqsG,Cs,scEq,and_self,if_true,Option.bind_some,Option.map_some,Bu]
 congr 3;rw[Bool.eq_iff_iff];simp[and_assoc]
@[go_sem] theorem eta_Event {x:Event}:(⟨x.kind,x.at_,x.num,x.edit⟩:Event)=x:=(rfl)
theorem Db {σ:St} {v:GV} {l:List Int} (h:RS pI.kd σ v l) {i:Nat} (hi:i<l.length):iadG 1 v (some i)=some (atz 1 v i)∧ldG false 1 σ (atz 1 v i)=some (.int .i64 l[i]):=⟨RdN.iad h hi,RdN.ld h hi (by decide)⟩
structure Act where
 dot:Dot
 time:Int
 knew:List Int
 kind:Int
 obj:ByteArray
 key:ByteArray
 val:Int
 ref:Dot
def kAct:Kd Act where
 z:=10
 R σ x cs:=∃ v2,cs=(.int .i64 x.dot.rep)::(.int .i64 x.dot.seq)::(.int .i64 x.time)::v2::(.int .i64 x.kind)::(.str x.obj)::(.str x.key)::(.int .i64 x.val)::(.int .i64 x.ref.rep)::(.int .i64 x.ref.seq)::[]∧RS pI.kd σ v2 x.knew
 O σ x cs fp:=∃ v2 f2,cs=(.int .i64 x.dot.rep)::(.int .i64 x.dot.seq)::(.int .i64 x.time)::v2::(.int .i64 x.kind)::(.str x.obj)::(.str x.key)::(.int .i64 x.val)::(.int .i64 x.ref.rep)::(.int .i64 x.ref.seq)::[]∧OS pI.kd σ x.knew v2 f2∧fp=f2
 len:=by
  rintro σ x cs ⟨v2,rfl,h0⟩
  simp[]
 pre:=by
  rintro σ τ x cs ⟨v2,rfl,h0⟩ hp
  exact⟨_,rfl,h0.pre hp⟩
 rd:=by
  rintro σ x cs fp ⟨v2,f2,rfl,h0,rfl⟩
  exact⟨_,rfl,h0.rd⟩
 loc:=by
  rintro σ τ x cs fp ⟨v2,f2,rfl,h0,rfl⟩ hf
  exact⟨_,_,rfl,h0.loc (fun g hg=>hf g hg),rfl⟩
structure State where
 know:List Int
 tallies:List Tally
 lives:List Live
 cells:List Cell
def A9:Kd State where
 z:=4
 R σ x cs:=∃ v0 v1 v2 v3,cs=v0::v1::v2::v3::[]∧RS pI.kd σ v0 x.know∧RS Ab.kd σ v1 x.tallies∧RS Ai.kd σ v2 x.lives∧RS Ae.kd σ v3 x.cells
 O σ x cs fp:=∃ v0 v1 v2 v3 f0 f1 f2 f3,cs=v0::v1::v2::v3::[]∧OS pI.kd σ x.know v0 f0∧OS Ab.kd σ x.tallies v1 f1∧OS Ai.kd σ x.lives v2 f2∧OS Ae.kd σ x.cells v3 f3∧fp=f0++(f1++(f2++(f3)))
 len:=by
  rintro σ x cs ⟨v0,v1,v2,v3,rfl,h0,h1,h2,h3⟩
  simp[]
 pre:=by
  rintro σ τ x cs ⟨v0,v1,v2,v3,rfl,h0,h1,h2,h3⟩ hp
  exact⟨_,_,_,_,rfl,h0.pre hp,h1.pre hp,h2.pre hp,h3.pre hp⟩
 rd:=by
  rintro σ x cs fp ⟨v0,v1,v2,v3,f0,f1,f2,f3,rfl,h0,h1,h2,h3,rfl⟩
  exact⟨_,_,_,_,rfl,h0.rd,h1.rd,h2.rd,h3.rd⟩
 loc:=by
  rintro σ τ x cs fp ⟨v0,v1,v2,v3,f0,f1,f2,f3,rfl,h0,h1,h2,h3,rfl⟩ hf
  exact⟨_,_,_,_,_,_,_,_,rfl,h0.loc (fun g hg=>hf g (List.mem_append_left _ hg)),h1.loc (fun g hg=>hf g (List.mem_append_right _ (List.mem_append_left _ hg))),h2.loc (fun g hg=>hf g (List.mem_append_right _ (List.mem_append_right _ (List.mem_append_left _ hg)))),h3.loc (fun g hg=>hf g (List.mem_append_right _ (List.mem_append_right _ (List.mem_append_right _ hg)))),rfl⟩
structure Delta where
 base:List Int
 know:List Int
 tallies:List Tally
 lives:List Live
 dead:List Dot
 cells:List Cell
def Ch:Kd Delta where
 z:=6
 R σ x cs:=∃ v0 v1 v2 v3 v4 v5,cs=v0::v1::v2::v3::v4::v5::[]∧RS pI.kd σ v0 x.base∧RS pI.kd σ v1 x.know∧RS Ab.kd σ v2 x.tallies∧RS Ai.kd σ v3 x.lives∧RS pDot.kd σ v4 x.dead∧RS Ae.kd σ v5 x.cells
 O σ x cs fp:=∃ v0 v1 v2 v3 v4 v5 f0 f1 f2 f3 f4 f5,cs=v0::v1::v2::v3::v4::v5::[]∧OS pI.kd σ x.base v0 f0∧OS pI.kd σ x.know v1 f1∧OS Ab.kd σ x.tallies v2 f2∧OS Ai.kd σ x.lives v3 f3∧OS pDot.kd σ x.dead v4 f4∧OS Ae.kd σ x.cells v5 f5∧fp=f0++(f1++(f2++(f3++(f4++(f5)))))
 len:=by
  rintro σ x cs ⟨v0,v1,v2,v3,v4,v5,rfl,h0,h1,h2,h3,h4,h5⟩
  simp[]
 pre:=by
  rintro σ τ x cs ⟨v0,v1,v2,v3,v4,v5,rfl,h0,h1,h2,h3,h4,h5⟩ hp
  exact⟨_,_,_,_,_,_,rfl,h0.pre hp,h1.pre hp,h2.pre hp,h3.pre hp,h4.pre hp,h5.pre hp⟩
 rd:=by
  rintro σ x cs fp ⟨v0,v1,v2,v3,v4,v5,f0,f1,f2,f3,f4,f5,rfl,h0,h1,h2,h3,h4,h5,rfl⟩
  exact⟨_,_,_,_,_,_,rfl,h0.rd,h1.rd,h2.rd,h3.rd,h4.rd,h5.rd⟩
 loc:=by
  rintro σ τ x cs fp ⟨v0,v1,v2,v3,v4,v5,f0,f1,f2,f3,f4,f5,rfl,h0,h1,h2,h3,h4,h5,rfl⟩ hf
  exact⟨_,_,_,_,_,_,_,_,_,_,_,_,rfl,h0.loc (fun g hg=>hf g (List.mem_append_left _ hg)),h1.loc (fun g hg=>hf g (List.mem_append_right _ (List.mem_append_left _ hg))),h2.loc (fun g hg=>hf g (List.mem_append_right _ (List.mem_append_right _ (List.mem_append_left _ hg)))),h3.loc (fun g hg=>hf g (List.mem_append_right _ (List.mem_append_right _ (List.mem_append_right _ (List.mem_append_left _ hg))))),h4.loc (fun g hg=>hf g (List.mem_append_right _ (List.mem_append_right _ (List.mem_append_right _ (List.mem_append_right _ (List.mem_append_left _ hg)))))),h5.loc (fun g hg=>hf g (List.mem_append_right _ (List.mem_append_right _ (List.mem_append_right _ (List.mem_append_right _ (List.mem_append_right _ hg)))))),rfl⟩
structure Unit_ where
 batch:Bool
 act:Act
 delta:Delta
def Ej:Kd Unit_ where
 z:=17
 R σ x cs:=∃ v1 v2,cs=(.bool x.batch)::v1++(v2++([]))∧kAct.R σ x.act v1∧Ch.R σ x.delta v2
 O σ x cs fp:=∃ v1 v2 f1 f2,cs=(.bool x.batch)::v1++(v2++([]))∧kAct.O σ x.act v1 f1∧Ch.O σ x.delta v2 f2∧fp=f1++(f2)
 len:=by
  rintro σ x cs ⟨v1,v2,rfl,h0,h1⟩
  have l0:=kAct.len h0
  have l1:=Ch.len h1
  simp[l0,l1,kAct,Ch]
 pre:=by
  rintro σ τ x cs ⟨v1,v2,rfl,h0,h1⟩ hp
  exact⟨_,_,rfl,kAct.pre h0 hp,Ch.pre h1 hp⟩
 rd:=by
  rintro σ x cs fp ⟨v1,v2,f1,f2,rfl,h0,h1,rfl⟩
  exact⟨_,_,rfl,kAct.rd h0,Ch.rd h1⟩
 loc:=by
  rintro σ τ x cs fp ⟨v1,v2,f1,f2,rfl,h0,h1,rfl⟩ hf
  exact⟨_,_,_,_,rfl,kAct.loc h0 (fun g hg=>hf g (List.mem_append_left _ hg)),Ch.loc h1 (fun g hg=>hf g (List.mem_append_right _ hg)),rfl⟩
structure Log where
 rep:Int
 time:Int
 state:State
 units:List Unit_
 waits:List Unit_
def kLog:Kd Log where
 z:=8
 R σ x cs:=∃ v2 v3 v4,cs=(.int .i64 x.rep)::(.int .i64 x.time)::v2++(v3::v4::[])∧A9.R σ x.state v2∧RS Ej σ v3 x.units∧RS Ej σ v4 x.waits
 O σ x cs fp:=∃ v2 v3 v4 f2 f3 f4,cs=(.int .i64 x.rep)::(.int .i64 x.time)::v2++(v3::v4::[])∧A9.O σ x.state v2 f2∧OS Ej σ x.units v3 f3∧OS Ej σ x.waits v4 f4∧fp=f2++(f3++(f4))
 len:=by
  rintro σ x cs ⟨v2,v3,v4,rfl,h0,h1,h2⟩
  have l0:=A9.len h0
  simp[l0,A9]
 pre:=by
  rintro σ τ x cs ⟨v2,v3,v4,rfl,h0,h1,h2⟩ hp
  exact⟨_,_,_,rfl,A9.pre h0 hp,h1.pre hp,h2.pre hp⟩
 rd:=by
  rintro σ x cs fp ⟨v2,v3,v4,f2,f3,f4,rfl,h0,h1,h2,rfl⟩
  exact⟨_,_,_,rfl,A9.rd h0,h1.rd,h2.rd⟩
 loc:=by
  rintro σ τ x cs fp ⟨v2,v3,v4,f2,f3,f4,rfl,h0,h1,h2,rfl⟩ hf
  exact⟨_,_,_,_,_,_,rfl,A9.loc h0 (fun g hg=>hf g (List.mem_append_left _ hg)),h1.loc (fun g hg=>hf g (List.mem_append_right _ (List.mem_append_left _ hg))),h2.loc (fun g hg=>hf g (List.mem_append_right _ (List.mem_append_right _ hg))),rfl⟩
structure Commit where
 id:Dot
 ups:List Int
 state:State
def Am:Kd Commit where
 z:=7
 R σ x cs:=∃ v1 v2,cs=(.int .i64 x.id.rep)::(.int .i64 x.id.seq)::v1::v2++([])∧RS pI.kd σ v1 x.ups∧A9.R σ x.state v2
 O σ x cs fp:=∃ v1 v2 f1 f2,cs=(.int .i64 x.id.rep)::(.int .i64 x.id.seq)::v1::v2++([])∧OS pI.kd σ x.ups v1 f1∧A9.O σ x.state v2 f2∧fp=f1++(f2)
 len:=by
  rintro σ x cs ⟨v1,v2,rfl,h0,h1⟩
  have l1:=A9.len h1
  simp[l1,A9]
 pre:=by
  rintro σ τ x cs ⟨v1,v2,rfl,h0,h1⟩ hp
  exact⟨_,_,rfl,h0.pre hp,A9.pre h1 hp⟩
 rd:=by
  rintro σ x cs fp ⟨v1,v2,f1,f2,rfl,h0,h1,rfl⟩
  exact⟨_,_,rfl,h0.rd,A9.rd h1⟩
 loc:=by
  rintro σ τ x cs fp ⟨v1,v2,f1,f2,rfl,h0,h1,rfl⟩ hf
  exact⟨_,_,_,_,rfl,h0.loc (fun g hg=>hf g (List.mem_append_left _ hg)),A9.loc h1 (fun g hg=>hf g (List.mem_append_right _ hg)),rfl⟩
structure Graph where
 commits:List Commit
 head:Int
def Ay:Kd Graph where
 z:=2
 R σ x cs:=∃ v0,cs=v0::(.int .i64 x.head)::[]∧RS Am σ v0 x.commits
 O σ x cs fp:=∃ v0 f0,cs=v0::(.int .i64 x.head)::[]∧OS Am σ x.commits v0 f0∧fp=f0
 len:=by
  rintro σ x cs ⟨v0,rfl,h0⟩
  simp[]
 pre:=by
  rintro σ τ x cs ⟨v0,rfl,h0⟩ hp
  exact⟨_,rfl,h0.pre hp⟩
 rd:=by
  rintro σ x cs fp ⟨v0,f0,rfl,h0,rfl⟩
  exact⟨_,rfl,h0.rd⟩
 loc:=by
  rintro σ τ x cs fp ⟨v0,f0,rfl,h0,rfl⟩ hf
  exact⟨_,_,rfl,h0.loc (fun g hg=>hf g hg),rfl⟩
structure Replica where
 way:Int
 log:Log
 graph:Graph
 file:File
 out:List Unit_
def A6l:Kd Replica where
 z:=14
 R σ x cs:=∃ v1 v2 v4,cs=(.int .i64 x.way)::v1++(v2++((.str x.file.text)::(.int .i64 x.file.synced)::v4::[]))∧kLog.R σ x.log v1∧Ay.R σ x.graph v2∧RS Ej σ v4 x.out
 O σ x cs fp:=∃ v1 v2 v4 f1 f2 f4,cs=(.int .i64 x.way)::v1++(v2++((.str x.file.text)::(.int .i64 x.file.synced)::v4::[]))∧kLog.O σ x.log v1 f1∧Ay.O σ x.graph v2 f2∧OS Ej σ x.out v4 f4∧fp=f1++(f2++(f4))
 len:=by
  rintro σ x cs ⟨v1,v2,v4,rfl,h0,h1,h2⟩
  have l0:=kLog.len h0
  have l1:=Ay.len h1
  simp[l0,l1,kLog,Ay]
 pre:=by
  rintro σ τ x cs ⟨v1,v2,v4,rfl,h0,h1,h2⟩ hp
  exact⟨_,_,_,rfl,kLog.pre h0 hp,Ay.pre h1 hp,h2.pre hp⟩
 rd:=by
  rintro σ x cs fp ⟨v1,v2,v4,f1,f2,f4,rfl,h0,h1,h2,rfl⟩
  exact⟨_,_,_,rfl,kLog.rd h0,Ay.rd h1,h2.rd⟩
 loc:=by
  rintro σ τ x cs fp ⟨v1,v2,v4,f1,f2,f4,rfl,h0,h1,h2,rfl⟩ hf
  exact⟨_,_,_,_,_,_,rfl,kLog.loc h0 (fun g hg=>hf g (List.mem_append_left _ hg)),Ay.loc h1 (fun g hg=>hf g (List.mem_append_right _ (List.mem_append_left _ hg))),h2.loc (fun g hg=>hf g (List.mem_append_right _ (List.mem_append_right _ hg))),rfl⟩
structure World_ where
 replicas:List Replica
 net:List Letter
 codes:List Int
 synced:List (List Int)
def kWorld_:Kd World_ where
 z:=4
 R σ x cs:=∃ v0 v1 v2 v3,cs=v0::v1::v2::v3::[]∧RS A6l σ v0 x.replicas∧RS A9t.kd σ v1 x.net∧RS pI.kd σ v2 x.codes∧RS (Kd.sl pI.kd) σ v3 x.synced
 O σ x cs fp:=∃ v0 v1 v2 v3 f0 f1 f2 f3,cs=v0::v1::v2::v3::[]∧OS A6l σ x.replicas v0 f0∧OS A9t.kd σ x.net v1 f1∧OS pI.kd σ x.codes v2 f2∧OS (Kd.sl pI.kd) σ x.synced v3 f3∧fp=f0++(f1++(f2++(f3)))
 len:=by
  rintro σ x cs ⟨v0,v1,v2,v3,rfl,h0,h1,h2,h3⟩
  simp[]
 pre:=by
  rintro σ τ x cs ⟨v0,v1,v2,v3,rfl,h0,h1,h2,h3⟩ hp
  exact⟨_,_,_,_,rfl,h0.pre hp,h1.pre hp,h2.pre hp,h3.pre hp⟩
 rd:=by
  rintro σ x cs fp ⟨v0,v1,v2,v3,f0,f1,f2,f3,rfl,h0,h1,h2,h3,rfl⟩
  exact⟨_,_,_,_,rfl,h0.rd,h1.rd,h2.rd,h3.rd⟩
 loc:=by
  rintro σ τ x cs fp ⟨v0,v1,v2,v3,f0,f1,f2,f3,rfl,h0,h1,h2,h3,rfl⟩ hf
  exact⟨_,_,_,_,_,_,_,_,rfl,h0.loc (fun g hg=>hf g (List.mem_append_left _ hg)),h1.loc (fun g hg=>hf g (List.mem_append_right _ (List.mem_append_left _ hg))),h2.loc (fun g hg=>hf g (List.mem_append_right _ (List.mem_append_right _ (List.mem_append_left _ hg)))),h3.loc (fun g hg=>hf g (List.mem_append_right _ (List.mem_append_right _ (List.mem_append_right _ hg)))),rfl⟩
structure Script where
 ways:List Int
 events:List Event
 calm:Bool
def kScript:Kd Script where
 z:=3
 R σ x cs:=∃ v0 v1,cs=v0::v1::(.bool x.calm)::[]∧RS pI.kd σ v0 x.ways∧RS Aeb.kd σ v1 x.events
 O σ x cs fp:=∃ v0 v1 f0 f1,cs=v0::v1::(.bool x.calm)::[]∧OS pI.kd σ x.ways v0 f0∧OS Aeb.kd σ x.events v1 f1∧fp=f0++(f1)
 len:=by
  rintro σ x cs ⟨v0,v1,rfl,h0,h1⟩
  simp[]
 pre:=by
  rintro σ τ x cs ⟨v0,v1,rfl,h0,h1⟩ hp
  exact⟨_,_,rfl,h0.pre hp,h1.pre hp⟩
 rd:=by
  rintro σ x cs fp ⟨v0,v1,f0,f1,rfl,h0,h1,rfl⟩
  exact⟨_,_,rfl,h0.rd,h1.rd⟩
 loc:=by
  rintro σ τ x cs fp ⟨v0,v1,f0,f1,rfl,h0,h1,rfl⟩ hf
  exact⟨_,_,_,_,rfl,h0.loc (fun g hg=>hf g (List.mem_append_left _ hg)),h1.loc (fun g hg=>hf g (List.mem_append_right _ hg)),rfl⟩
end
section
open Go Go.RowKit
theorem B4 {P:Program} {a:Cd} {Q:Ex→Env→St→Prop} {env:Env} {σ:St} (n ri:Nat) (I:Nat→Env→St→Prop) (hr:env ri=gi 0) (h0:I 0 env σ)
  (hs:∀ i env σ,i<n→env ri=gi i→decide ((i:Int)<n)=true→I i env σ→vc P a (fun e env' σ'=>match e with| .nxt=>env' ri=gi ((i:Int)+1)∧I (i+1) env' σ'|e=>Q e env' σ') env σ)
  (he:∀ env σ,env ri=gi n→decide ((n:Int)<n)=false→I n env σ→vc P a (fun e env' σ'=>match e with| .nxt=>False|e=>Q e env' σ') env σ):vc P (.lop a) Q env σ:=by
 refine Xv (fun k env σ=>∃ i:Nat,k=n - i∧i≤n∧env ri=gi i∧I i env σ) n ⟨0,rfl,Nat.zero_le _,hr,h0⟩ ?_
 rintro k env σ ⟨i,rfl,hi,h1,h2⟩
 rcases Nat.lt_or_ge i n with hlt|hge
 ·refine B6 (hs i env σ hlt h1 (by simp;omega) h2) fun e env' σ' he=> ?_
  cases e with
  |nxt=>
   obtain⟨h3,h4⟩:=he
   exact⟨n - (i+1),by omega,i+1,rfl,hlt,h3,h4⟩
  |ext j=>exact he
  |ret=>exact he
 ·obtain rfl:i=n:=by omega
  refine B6 (he env σ h1 (by simp) h2) fun e env' σ' he=> ?_
  cases e with
  |nxt=>exact he.elim
  |ext j=>exact he
  |ret=>exact he
theorem He {P:Program} {a:Cd} {Q:Ex→Env→St→Prop} {env:Env} {σ:St} (I:Nat→Env→St→Prop) (n:Nat) (h0:I n env σ)
  (hs:∀ J:Nat→Env→St→Prop,(∀ k env σ,I k env σ→J k env σ)→∀ k env σ,I k env σ→vc P a (fun e env' σ'=>match e with| .nxt=>∃ k',k'<k∧J k' env' σ'|e=>Q e env' σ') env σ):vc P (.lop a) Q env σ:=Xv I n h0 (hs I fun _ _ _ h=>h)
theorem Dl {σ τ:St} {x:Option Blk} (h:σ++[x] <+: τ):σ <+: τ:=(List.prefix_append _ _).trans h
theorem Nd {σ τ:St} {z:Nat} {cs:List GV} (h:σ++[some (.row z cs)] <+: τ):rdB τ σ.length=some cs:=Aw h (by unfold rdB;simp[Blk.cells])
theorem Ka {σ:St} {g:Nat} {cs:List GV} (h:rdB σ g=some cs) (r:St):rdB (σ++r) g=some cs:=Aw (List.prefix_append _ _) h
theorem pre1 (σ:St) (x:Option Blk):σ <+: σ++[x]:=List.prefix_append _ _
theorem Zz {σ τ:St} {x y:Option Blk} (h:σ++[x]++[y] <+: τ):σ <+: τ:=Dl (Dl h)
theorem A4x {σ τ:St} {z:Nat} {cs:List GV} {y:Option Blk} (h:σ++[some (.row z cs)]++[y] <+: τ):rdB τ σ.length=some cs:=Nd (Dl h)
attribute [go_sem] Bool.true_xor Bool.false_xor D6 Nat.reduceEqDiff Int.reduceEq Int.reduceNeg List.append_nil
attribute [go_sem ↓] reduceIte
theorem RdN.cellsN {α:Type} {d:Kd α} {τ:St} {v:GV} {l:List α} (h:RS d τ v l) {i:Nat} (hi:i<l.length):∃ cs,(iadG d.z v (some i)=some (atz d.z v i)∧(∀ k,fadG k (atz d.z v i)=some (fld k (atz d.z v i)))∧(∀ k m,fadG k (fld m (atz d.z v i))=some (fld (m+k) (atz d.z v i)))∧ldG true d.z τ (atz d.z v i)=some (.agg cs)∧∀ k n a,k+n≤d.z→ldG a n τ (fld k (atz d.z v i))=(seg cs k n).bind (mkv a))∧d.R τ l[i] cs:=by
 obtain⟨cs,hr,hs⟩:=RdN.cells h hi
 have hl:=d.len hr
 have h1:=hs 0 d.z cs (by simp[seg,hl];exact List.take_of_length_le (by omega)) true
 refine⟨cs,⟨RdN.iad h hi,fun k=>RdN.fad h hi,fun k m=>RdN.fad2 h hi,?_,fun k n a hk=> ?_⟩,hr⟩
 ·have h2:mkv true cs=some (.agg cs):=rfl
  rw[← h2,←h1]
  rcases h with⟨rfl,_⟩|⟨g,off,cs,rfl,_⟩
  ·simp at hi
  ·rfl
 ·have e:seg cs k n=some ((cs.drop k).take n):=by unfold seg;rw[if_pos (by omega)]
  rw[e];exact hs k n _ e a
theorem Aci (l:List Int):pI.cells l=l.map gi:=by
 induction l with
 |nil=>rfl
 |cons x l ih=>
  have e:pI.cells (x::l)=gi x::pI.cells l:=rfl
  rw[e,ih];rfl
theorem OwnI.hp {σ τ:St} {v:GV} {l:List Int} (h:OwnI σ.length τ v l) (hp:σ <+: τ):Hp σ τ [ow pI.kd v l]:=by
 rcases h with⟨rfl,rfl⟩|⟨g,hg,rfl,hB⟩
 ·exact⟨hp,[],⟨[],[],.inl ⟨rfl,rfl,rfl⟩,rfl,rfl⟩,by simp,by simp⟩
 ·exact⟨hp,[g],⟨[g],[],OS.flat.2 (.inr ⟨g,[],[],rfl,by rw[hB,Aci];simp;rfl,rfl⟩),rfl,rfl⟩,by simp,by simpa using ⟨hg,A7p hB⟩⟩
theorem Pq {P:Program} {env:Env} {τ τ':St} {K:Kt} {r:List Op1} {d:Option Nat} {D:Bool} {f:Nat} {args:List GV} {v:GV} {rs:List Thg} (h:Ret P f args τ v τ') (hp:Hp τ τ' rs) (k:Af D P r K (upo env d v) τ'):Zx D f args P r K env d τ:=Aea h hp.sub k
theorem Nf {md:Bool} {P:Program} {f:Nat} {F:Fn1} {args:List GV} {σ:St} {rs:GV→List Thg} (hF:Hd md P f=some F) (hl:args.length≤F.n)
  (h:vc P F.c (fun e env τ=>Tm e=true∧∃ r,resG env τ F.rs=some r∧Hp σ τ (rs r)) (env0 args) σ):∃ r τ,Ret P f args σ r τ∧Hp σ τ (rs r):=by
 obtain⟨r,τ,h1,h2,h3⟩:=A4w (Post:=fun r τ=>Hp σ τ (rs r)) hF hl (B6 h fun e env τ he=>by
  obtain⟨ho,r,hr,hp⟩:=he
  exact⟨ho,r,hr,hp.sub,hp⟩)
 exact⟨r,τ,h1,h3⟩
@[go_sem] theorem rs_c {env:Env} {σ:St} {a n:Nat} {agg:Bool}:(Rs.c a agg n).ev env σ=ldG agg n σ (env a):=by
 cases h:env a<;>simp[Rs.ev,h,ptrG,ldG]
@[go_sem] theorem st_new {n:Nat} {τ:St} {z off:Nat} {cs:List GV} {x:GV}:stG n (τ++[some (.row z cs)]) (.ptr τ.length off) x=if off+n≤cs.length∧0<n∧x.cells.length=n then some (.tup [],τ++[some (.row z (Ao cs off x.cells))]) else none:=by
 simp[stG]
@[go_sem] theorem st_new2 {n:Nat} {τ:St} {z off:Nat} {cs:List GV} {x:GV} {b:Option Blk}:stG n (τ++[some (.row z cs)]++[b]) (.ptr τ.length off) x=if off+n≤cs.length∧0<n∧x.cells.length=n then some (.tup [],τ++[some (.row z (Ao cs off x.cells))]++[b]) else none:=by
 simp[stG]
theorem Cr {n:Nat} {τ τ':St} {a x:GV} (h:stG n τ a x=some (.tup [],τ')):τ'.length=τ.length:=by
 unfold stG at h
 repeat' split at h
 all_goals first|cases h;done|(injection h with h;injection h with h1 h2;subst h2;simp)
@[go_sem] theorem ld_new {a:Bool} {n:Nat} {τ:St} {z off:Nat} {cs:List GV}:ldG a n (τ++[some (.row z cs)]) (.ptr τ.length off)=(seg cs off n).bind (mkv a):=A5 (by unfold rdB;simp[Blk.cells])
@[go_sem] theorem ld_new2 {a:Bool} {n:Nat} {τ:St} {z off:Nat} {cs:List GV} {b:Option Blk}:ldG a n (τ++[some (.row z cs)]++[b]) (.ptr τ.length off)=(seg cs off n).bind (mkv a):=A5 (by unfold rdB;simp[Blk.cells])
@[go_sem] theorem ld_new3 {a:Bool} {n:Nat} {τ:St} {z off:Nat} {cs:List GV} {b c:Option Blk}:ldG a n (τ++[some (.row z cs)]++[b]++[c]) (.ptr τ.length off)=(seg cs off n).bind (mkv a):=A5 (by unfold rdB;simp[Blk.cells])
@[go_sem] theorem eqb_bool {n a b:Bool}:eqbG n (.bool a) (.bool b)=some (.bool (n ^^ (a==b))):=(rfl)
@[go_sem] theorem len_str {s:ByteArray}:lenG true (.str s)=some (s.size:Int):=(rfl)
theorem pre2 {σ:St} {x y:Option Blk}:σ <+: σ++[x]++[y]:=A0 (pre1 _ _) _
theorem pre3 {σ:St} {x y z:Option Blk}:σ <+: σ++[x]++[y]++[z]:=A0 pre2 _
attribute [go_sem] pre1 pre2 pre3 Option.some.injEq GV.int.injEq GV.bool.injEq GV.str.injEq
attribute [go_sem] decide_true decide_false Int.natCast_add Int.cast_ofNat_Int Int.add_zero Bool.true_eq_false
theorem Au {cs:List GV} {n:Nat} (h:cs.length=n):(seg cs 0 n).bind (mkv true)=some (.agg cs):=by
 subst h
 simp[seg,mkv]
theorem Bl {cs ds:List GV} {n:Nat} (h:ds.length=n) (hc:cs.length=n):Ao cs 0 ds=ds:=by
 simp[Ao,h,←hc]
@[go_sem] theorem ext_0a {c r:List GV}:extG 0 (.tup (.agg c::r))=some (.agg c):=(rfl)
@[go_sem] theorem ext_0i {k:IntKind} {n:Int} {r:List GV}:extG 0 (.tup (.int k n::r))=some (.int k n):=(rfl)
@[go_sem] theorem ext_0s {c:ByteArray} {r:List GV}:extG 0 (.tup (.str c::r))=some (.str c):=(rfl)
@[go_sem] theorem ext_0b {c:Bool} {r:List GV}:extG 0 (.tup (.bool c::r))=some (.bool c):=(rfl)
@[go_sem] theorem ext_1a {w:GV} {c r:List GV}:extG 1 (.tup (w::.agg c::r))=some (.agg c):=(rfl)
@[go_sem] theorem ext_1i {w:GV} {k:IntKind} {n:Int} {r:List GV}:extG 1 (.tup (w::.int k n::r))=some (.int k n):=(rfl)
@[go_sem] theorem ext_1s {w:GV} {c:ByteArray} {r:List GV}:extG 1 (.tup (w::.str c::r))=some (.str c):=(rfl)
@[go_sem] theorem ext_1b {w:GV} {c:Bool} {r:List GV}:extG 1 (.tup (w::.bool c::r))=some (.bool c):=(rfl)
@[go_sem] theorem ext_2i {u w:GV} {k:IntKind} {n:Int} {r:List GV}:extG 2 (.tup (u::w::.int k n::r))=some (.int k n):=(rfl)
@[go_sem] theorem ext_2b {u w:GV} {c:Bool} {r:List GV}:extG 2 (.tup (u::w::.bool c::r))=some (.bool c):=(rfl)
theorem Agp {md:Bool} {P:Program} {f:Nat} {F:Fn1} {args:List GV} {σ:St} (hF:Hd md P f=some F) (hl:args.length≤F.n)
  (h:vc P F.c (fun e env τ=>Tm e=true∧resG env τ F.rs=some (.bool true)∧σ.length≤τ.length) (env0 args) σ):∃ r τ,Ret P f args σ r τ∧r= .bool true:=
 Bw (Post:=fun r τ=>r= .bool true) hF hl (B6 h fun e env τ he=>⟨he.1,_,he.2.1,he.2.2,rfl⟩)
@[go_sem] theorem tup2_if {x y:GV}:tup2 (some x) (some y)=if Bm x&&Bm y then some (.tup [x,y]) else none:=(rfl)
@[go_sem] theorem tup3_if {x y z:GV}:tup3 (some x) (some y) (some z)=if Bm x&&(Bm y&&Bm z) then some (.tup [x,y,z]) else none:=(rfl)
@[go_sem] theorem notTup_int {k:IntKind} {n:Int}:Bm (.int k n)=true:=(rfl)
@[go_sem] theorem notTup_str {s:ByteArray}:Bm (.str s)=true:=(rfl)
@[go_sem] theorem Agq {b:Bool}:Bm (.bool b)=true:=(rfl)
@[go_sem] theorem notTup_agg {cs:List GV}:Bm (.agg cs)=true:=(rfl)
@[go_sem] theorem notTup_nil:Bm .nilS=true:=(rfl)
@[go_sem] theorem notTup_sl {g o n:Nat}:Bm (.sl g o n)=true:=(rfl)
theorem A9u {α:Type} {p:Pl α} (τ:St) {z:Nat} {cs:List GV} (l:List α) {n:Nat} (hz:z=p.z) (hc:cs=p.cells l) (hn:n=l.length):RS p.kd (τ++[some (.row z cs)]) (.sl τ.length 0 n) l:=by
 subst hz hc hn
 exact(((Hp.refl τ).new p.z (p.cells l)).toRow 0 rfl l rfl rfl _ rfl).sl 0 rfl
theorem A4y {n:Nat}:decide (1+(n:Int)<0)=false:=decide_eq_false (by omega)
theorem A4z {n:Nat} {c:Int} (h:0≤c):decide (1+c*(n:Int)<0)=false:=decide_eq_false (by have:=Int.mul_nonneg h (Int.natCast_nonneg n);omega)
namespace Hp
theorem conv {σ τ:St} {r r':Thg} {rs:List Thg} (H:Hp σ τ (r::rs)) (h:∀ fp,r.P τ fp→r'.P τ fp):Hp σ τ (r'::rs):=by
 obtain⟨a,ha,hn,hb,ht⟩:=H.turn
 exact ht ⟨hn,fun g hg=>.inl hg,Nat.le_refl _,fun _ _ _=>rfl⟩ (h a ha)
theorem app_int {σ τ:St} {rs:List Thg} {v:GV} {l:List Int} (H:Hp σ τ rs) (i:Nat) (hi:rs[i]? =some (ow pI.kd v l)) (x:Int) (hb:(l.length+1)*8≤140737488355328):∃ v' τ',appV 1 8 (τ++[some (.row 1 [.int .i64 x])]) v (.sl τ.length 0 1)=some (v',τ')∧Hp σ τ' (rs.set i (ow pI.kd v' (l++[x]))):=H.app1 i hi x (by decide) hb
theorem apps_int {σ τ:St} {rs:List Thg} {v u:GV} {l k:List Int} (H:Hp σ τ rs) (i:Nat) (hi:rs[i]? =some (ow pI.kd v l)) (hx:RS pI.kd τ u k) (hb:(l.length+k.length)*8≤140737488355328):∃ v' τ',appV 1 8 τ v u=some (v',τ')∧Hp σ τ' (rs.set i (ow pI.kd v' (l++k))):=H.app i hi hx (by decide) hb
theorem nil_int {σ τ:St} {rs:List Thg} (H:Hp σ τ rs):Hp σ (τ++[some (.row 1 [])]) (ow pI.kd (.sl τ.length 0 0) []::rs):=H.newNil pI.kd
theorem app_Tally {σ τ:St} {rs:List Thg} {v:GV} {l:List Tally} (H:Hp σ τ rs) (i:Nat) (hi:rs[i]? =some (ow Ab.kd v l)) (x:Tally) (hb:(l.length+1)*32≤140737488355328):∃ v' τ',appV 3 32 (τ++[some (.row 3 [.str x.obj,.int .i64 x.rep,.int .i64 x.sum])]) v (.sl τ.length 0 1)=some (v',τ')∧Hp σ τ' (rs.set i (ow Ab.kd v' (l++[x]))):=H.app1 i hi x (by decide) hb
theorem nil_Tally {σ τ:St} {rs:List Thg} (H:Hp σ τ rs):Hp σ (τ++[some (.row 3 [])]) (ow Ab.kd (.sl τ.length 0 0) []::rs):=H.newNil Ab.kd
theorem app_Live {σ τ:St} {rs:List Thg} {v:GV} {l:List Live} (H:Hp σ τ rs) (i:Nat) (hi:rs[i]? =some (ow Ai.kd v l)) (x:Live) (hb:(l.length+1)*64≤140737488355328):∃ v' τ',appV 6 64 (τ++[some (.row 6 [.bool x.map,.str x.obj,.str x.key,.int .i64 x.val,.int .i64 x.dot.rep,.int .i64 x.dot.seq])]) v (.sl τ.length 0 1)=some (v',τ')∧Hp σ τ' (rs.set i (ow Ai.kd v' (l++[x]))):=H.app1 i hi x (by decide) hb
theorem nil_Live {σ τ:St} {rs:List Thg} (H:Hp σ τ rs):Hp σ (τ++[some (.row 6 [])]) (ow Ai.kd (.sl τ.length 0 0) []::rs):=H.newNil Ai.kd
theorem app_Cell {σ τ:St} {rs:List Thg} {v:GV} {l:List Cell} (H:Hp σ τ rs) (i:Nat) (hi:rs[i]? =some (ow Ae.kd v l)) (x:Cell) (hb:(l.length+1)*72≤140737488355328):∃ v' τ',appV 8 72 (τ++[some (.row 8 [.str x.obj,.int .i64 x.dot.rep,.int .i64 x.dot.seq,.int .i64 x.time,.int .i64 x.ref.rep,.int .i64 x.ref.seq,.int .i64 x.val,.bool x.gone])]) v (.sl τ.length 0 1)=some (v',τ')∧Hp σ τ' (rs.set i (ow Ae.kd v' (l++[x]))):=H.app1 i hi x (by decide) hb
theorem nil_Cell {σ τ:St} {rs:List Thg} (H:Hp σ τ rs):Hp σ (τ++[some (.row 8 [])]) (ow Ae.kd (.sl τ.length 0 0) []::rs):=H.newNil Ae.kd
theorem one {σ τ:St} {r:Thg} {rs:List Thg} (H:Hp σ τ (r::rs)):Hp σ τ [r]:=by
 obtain⟨h,fp,⟨a,b,hr,hs,rfl⟩,hn,hb⟩:=H
 exact⟨h,a,⟨a,[],hr,rfl,by simp⟩,(List.nodup_append.1 hn).1,fun g hg=>hb g (List.mem_append_left _ hg)⟩
theorem stw {α:Type} {p:Pl α} {σ τ:St} {rs:List Thg} {v:GV} {l:List α} (H:Hp σ τ rs) (i:Nat) (hi:rs[i]? =some (ow p.kd v l)) {j:Nat} (hj:j<l.length) (n:Nat) (x:GV) (y:α) (hx:x.cells=p.enc y) (hn:n=p.z) (hz:0<n):
  ∃ τ',stG n τ (atz p.z v j) x=some (.tup [],τ')∧Hp σ τ' (rs.set i (ow p.kd v (l.set j y))):=by
 subst hn
 have:=H.ste i hi hj p.z 0 x y (by rw[hx,p.len]) hz (by omega) (by rw[hx];unfold Ao;rw[List.take_zero,List.nil_append,p.len,List.drop_eq_nil_of_le (by rw[p.len];omega),List.append_nil])
 obtain⟨τ',e,h⟩:=this
 refine⟨τ',?_,h⟩
 rw[← e]
 cases v<;>rfl
end Hp
end
section
open Go Go.RowKit
theorem Sl.rs {α:Type} {e:Ek α} {k:Kd α} (hz:e.z=k.z) (hb:∀ {σ x cs},e.R σ x cs→k.R σ x cs) {σ:St} {v:GV} {l:List α} (h:Sl e σ v l):RS k σ v l:=by
 rcases h with h|⟨g,off,cs,h1,h2,h3,h4⟩
 ·exact .inl h
 ·refine .inr ⟨g,off,cs,h1,A9p h2,by show off+l.length*k.z≤_;rw[← hz];exact h3,fun i x hx=> ?_⟩
  show k.R σ x ((cs.drop (off+i*k.z)).take k.z)
  rw[← hz];exact hb (h4 i x hx)
theorem agg_of {P:Program} {w:World} {r:Reach} {base:Nat} {t:TypeId} {fs:Array Field} {v:Value} (ht:P.underlying t=some (.struct fs)) (h:Value.okWide P w r base t v):∃ cs,v= .agg cs:=by
 simp only[Value.okWide,ht] at h
 obtain⟨cs,h1,_⟩:=h
 exact⟨cs,h1⟩
def eDot:Ek Dot:=Ek.iso (Ek.pair (Ek.int .i64) (Ek.int .i64)) (fun x=>(x.rep,x.seq))
def zDot (x:Dot):Prop:=I64 (x.rep)∧I64 (x.seq)
theorem Adv {σ:St} {x:Dot} {cs:List GV} (h:eDot.R σ x cs):pDot.kd.R σ x cs:=by
 obtain⟨c0,d0,rfl,h0,h⟩:=h
 obtain rfl:=h0
 obtain rfl:=h
 rfl
def eTally:Ek Tally:=Ek.iso (Ek.pair Ek.str (Ek.pair (Ek.int .i64) (Ek.int .i64))) (fun x=>(x.obj,x.rep,x.sum))
def zTally (x:Tally):Prop:=(x.obj).size≤9223372036854775807∧I64 (x.rep)∧I64 (x.sum)
theorem Ajr {σ:St} {x:Tally} {cs:List GV} (h:eTally.R σ x cs):Ab.kd.R σ x cs:=by
 obtain⟨c0,d0,rfl,h0,h⟩:=h
 obtain rfl:=h0
 obtain⟨c1,d1,rfl,h1,h⟩:=h
 obtain rfl:=h1
 obtain rfl:=h
 rfl
def eLive:Ek Live:=Ek.iso (Ek.pair Ek.bool (Ek.pair Ek.str (Ek.pair Ek.str (Ek.pair (Ek.int .i64) eDot)))) (fun x=>(x.map,x.obj,x.key,x.val,x.dot))
def zLive (x:Live):Prop:=True∧(x.obj).size≤9223372036854775807∧(x.key).size≤9223372036854775807∧I64 (x.val)∧zDot (x.dot)
theorem brLive {σ:St} {x:Live} {cs:List GV} (h:eLive.R σ x cs):Ai.kd.R σ x cs:=by
 obtain⟨c0,d0,rfl,h0,h⟩:=h
 obtain rfl:=h0
 obtain⟨c1,d1,rfl,h1,h⟩:=h
 obtain rfl:=h1
 obtain⟨c2,d2,rfl,h2,h⟩:=h
 obtain rfl:=h2
 obtain⟨c3,d3,rfl,h3,h⟩:=h
 obtain rfl:=h3
 obtain rfl:=Adv h
 rfl
def eCell:Ek Cell:=Ek.iso (Ek.pair Ek.str (Ek.pair eDot (Ek.pair (Ek.int .i64) (Ek.pair eDot (Ek.pair (Ek.int .i64) Ek.bool))))) (fun x=>(x.obj,x.dot,x.time,x.ref,x.val,x.gone))
def zCell (x:Cell):Prop:=(x.obj).size≤9223372036854775807∧zDot (x.dot)∧I64 (x.time)∧zDot (x.ref)∧I64 (x.val)∧True
theorem brCell {σ:St} {x:Cell} {cs:List GV} (h:eCell.R σ x cs):Ae.kd.R σ x cs:=by
 obtain⟨c0,d0,rfl,h0,h⟩:=h
 obtain rfl:=h0
 obtain⟨c1,d1,rfl,h1,h⟩:=h
 obtain rfl:=Adv h1
 obtain⟨c2,d2,rfl,h2,h⟩:=h
 obtain rfl:=h2
 obtain⟨c3,d3,rfl,h3,h⟩:=h
 obtain rfl:=Adv h3
 obtain⟨c4,d4,rfl,h4,h⟩:=h
 obtain rfl:=h4
 obtain rfl:=h
 rfl
def eEdit:Ek Edit:=Ek.iso (Ek.pair (Ek.int .i64) (Ek.pair Ek.str (Ek.pair Ek.str (Ek.pair (Ek.int .i64) (Ek.int .i64))))) (fun x=>(x.kind,x.obj,x.key,x.val,x.place))
def zEdit (x:Edit):Prop:=I64 (x.kind)∧(x.obj).size≤9223372036854775807∧(x.key).size≤9223372036854775807∧I64 (x.val)∧I64 (x.place)
def eWatch:Ek Watch:=Ek.iso (Ek.pair (Ek.int .i64) (Ek.pair Ek.str Ek.str)) (fun x=>(x.kind,x.obj,x.key))
def zWatch (x:Watch):Prop:=I64 (x.kind)∧(x.obj).size≤9223372036854775807∧(x.key).size≤9223372036854775807
def eClash:Ek Clash:=Ek.iso (Ek.pair Ek.str Ek.str) (fun x=>(x.obj,x.key))
def zClash (x:Clash):Prop:=(x.obj).size≤9223372036854775807∧(x.key).size≤9223372036854775807
def eFile:Ek File:=Ek.iso (Ek.pair Ek.str (Ek.int .i64)) (fun x=>(x.text,x.synced))
def zFile (x:File):Prop:=(x.text).size≤9223372036854775807∧I64 (x.synced)
def Ajs:Ek Letter:=Ek.iso (Ek.pair (Ek.int .i64) Ek.str) (fun x=>(x.to,x.text))
def Ajt (x:Letter):Prop:=I64 (x.to)∧(x.text).size≤9223372036854775807
def eEvent:Ek Event:=Ek.iso (Ek.pair (Ek.int .i64) (Ek.pair (Ek.int .i64) (Ek.pair (Ek.int .i64) eEdit))) (fun x=>(x.kind,x.at_,x.num,x.edit))
def zEvent (x:Event):Prop:=I64 (x.kind)∧I64 (x.at_)∧I64 (x.num)∧zEdit (x.edit)
def eAct:Ek Act:=Ek.iso (Ek.pair eDot (Ek.pair (Ek.int .i64) (Ek.pair (Ek.slice (Ek.int .i64)) (Ek.pair (Ek.int .i64) (Ek.pair Ek.str (Ek.pair Ek.str (Ek.pair (Ek.int .i64) eDot))))))) (fun x=>(x.dot,x.time,x.knew,x.kind,x.obj,x.key,x.val,x.ref))
def zAct (x:Act):Prop:=zDot (x.dot)∧I64 (x.time)∧((x.knew).length≤9223372036854775807∧∀ y4∈x.knew,I64 (y4))∧I64 (x.kind)∧(x.obj).size≤9223372036854775807∧(x.key).size≤9223372036854775807∧I64 (x.val)∧zDot (x.ref)
def eState:Ek State:=Ek.iso (Ek.pair (Ek.slice (Ek.int .i64)) (Ek.pair (Ek.slice eTally) (Ek.pair (Ek.slice eLive) (Ek.slice eCell)))) (fun x=>(x.know,x.tallies,x.lives,x.cells))
def zState (x:State):Prop:=((x.know).length≤9223372036854775807∧∀ y4∈x.know,I64 (y4))∧((x.tallies).length≤9223372036854775807∧∀ y6∈x.tallies,zTally (y6))∧((x.lives).length≤9223372036854775807∧∀ y5∈x.lives,zLive (y5))∧((x.cells).length≤9223372036854775807∧∀ y5∈x.cells,zCell (y5))
theorem Aju {σ:St} {x:State} {cs:List GV} (h:eState.R σ x cs):A9.R σ x cs:=by
 obtain⟨c0,d0,rfl,h0,h⟩:=h
 obtain⟨v0,rfl,s0⟩:=h0
 obtain⟨c1,d1,rfl,h1,h⟩:=h
 obtain⟨v1,rfl,s1⟩:=h1
 obtain⟨c2,d2,rfl,h2,h⟩:=h
 obtain⟨v2,rfl,s2⟩:=h2
 obtain⟨v3,rfl,s3⟩:=h
 exact⟨v0,v1,v2,v3,rfl,s0.rs rfl (fun h=>h),s1.rs rfl (Ajr),s2.rs rfl (brLive),s3.rs rfl (brCell)⟩
def eDelta:Ek Delta:=Ek.iso (Ek.pair (Ek.slice (Ek.int .i64)) (Ek.pair (Ek.slice (Ek.int .i64)) (Ek.pair (Ek.slice eTally) (Ek.pair (Ek.slice eLive) (Ek.pair (Ek.slice eDot) (Ek.slice eCell)))))) (fun x=>(x.base,x.know,x.tallies,x.lives,x.dead,x.cells))
def zDelta (x:Delta):Prop:=((x.base).length≤9223372036854775807∧∀ y4∈x.base,I64 (y4))∧((x.know).length≤9223372036854775807∧∀ y4∈x.know,I64 (y4))∧((x.tallies).length≤9223372036854775807∧∀ y6∈x.tallies,zTally (y6))∧((x.lives).length≤9223372036854775807∧∀ y5∈x.lives,zLive (y5))∧((x.dead).length≤9223372036854775807∧∀ y4∈x.dead,zDot (y4))∧((x.cells).length≤9223372036854775807∧∀ y5∈x.cells,zCell (y5))
def Abk:Ek Unit_:=Ek.iso (Ek.pair Ek.bool (Ek.pair eAct eDelta)) (fun x=>(x.batch,x.act,x.delta))
def Abl (x:Unit_):Prop:=True∧zAct (x.act)∧zDelta (x.delta)
def eLog:Ek Log:=Ek.iso (Ek.pair (Ek.int .i64) (Ek.pair (Ek.int .i64) (Ek.pair eState (Ek.pair (Ek.slice Abk) (Ek.slice Abk))))) (fun x=>(x.rep,x.time,x.state,x.units,x.waits))
def zLog (x:Log):Prop:=I64 (x.rep)∧I64 (x.time)∧zState (x.state)∧((x.units).length≤9223372036854775807∧∀ y6∈x.units,Abl (y6))∧((x.waits).length≤9223372036854775807∧∀ y6∈x.waits,Abl (y6))
def eCommit:Ek Commit:=Ek.iso (Ek.pair eDot (Ek.pair (Ek.slice (Ek.int .i64)) eState)) (fun x=>(x.id,x.ups,x.state))
def zCommit (x:Commit):Prop:=zDot (x.id)∧((x.ups).length≤9223372036854775807∧∀ y4∈x.ups,I64 (y4))∧zState (x.state)
theorem Adw {σ:St} {x:Commit} {cs:List GV} (h:eCommit.R σ x cs):Am.R σ x cs:=by
 obtain⟨c0,d0,rfl,h0,h⟩:=h
 obtain rfl:=Adv h0
 obtain⟨c1,d1,rfl,h1,h⟩:=h
 obtain⟨v1,rfl,s1⟩:=h1
 have s2:=Aju h
 exact⟨v1,_,by simp[pDot,pFile],s1.rs rfl (fun h=>h),s2⟩
def eGraph:Ek Graph:=Ek.iso (Ek.pair (Ek.slice eCommit) (Ek.int .i64)) (fun x=>(x.commits,x.head))
def zGraph (x:Graph):Prop:=((x.commits).length≤9223372036854775807∧∀ y7∈x.commits,zCommit (y7))∧I64 (x.head)
theorem Ajv {σ:St} {x:Graph} {cs:List GV} (h:eGraph.R σ x cs):Ay.R σ x cs:=by
 obtain⟨c0,d0,rfl,h0,h⟩:=h
 obtain⟨v0,rfl,s0⟩:=h0
 obtain rfl:=h
 exact⟨v0,rfl,s0.rs rfl (Adw)⟩
def Adx:Ek Replica:=Ek.iso (Ek.pair (Ek.int .i64) (Ek.pair eLog (Ek.pair eGraph (Ek.pair eFile (Ek.slice Abk))))) (fun x=>(x.way,x.log,x.graph,x.file,x.out))
def Ady (x:Replica):Prop:=I64 (x.way)∧zLog (x.log)∧zGraph (x.graph)∧zFile (x.file)∧((x.out).length≤9223372036854775807∧∀ y6∈x.out,Abl (y6))
def eWorld_:Ek World_:=Ek.iso (Ek.pair (Ek.slice Adx) (Ek.pair (Ek.slice Ajs) (Ek.pair (Ek.slice (Ek.int .i64)) (Ek.slice (Ek.slice (Ek.int .i64)))))) (fun x=>(x.replicas,x.net,x.codes,x.synced))
def zWorld_ (x:World_):Prop:=((x.replicas).length≤9223372036854775807∧∀ y8∈x.replicas,Ady (y8))∧((x.net).length≤9223372036854775807∧∀ y7∈x.net,Ajt (y7))∧((x.codes).length≤9223372036854775807∧∀ y4∈x.codes,I64 (y4))∧((x.synced).length≤9223372036854775807∧∀ y5∈x.synced,((y5).length≤9223372036854775807∧∀ y4∈y5,I64 (y4)))
def eScript:Ek Script:=Ek.iso (Ek.pair (Ek.slice (Ek.int .i64)) (Ek.pair (Ek.slice eEvent) Ek.bool)) (fun x=>(x.ways,x.events,x.calm))
def zScript (x:Script):Prop:=((x.ways).length≤9223372036854775807∧∀ y4∈x.ways,I64 (y4))∧((x.events).length≤9223372036854775807∧∀ y6∈x.events,zEvent (y6))∧True
end
end Go.Proofs.YtbeoiejnogdkpaaGreat.Sy
