/- Texts of this proof, one behind the other. -/
import Derived.Test.YtbeoiejnogdkpaaGreatBB
set_option linter.unusedSimpArgs false
set_option linter.unusedVariables false
set_option maxRecDepth 4000
set_option maxHeartbeats 4000000
open List renaming mem_append_right→Zaa,mem_append_left→Zab,prefix_append→Zaf,cons_append→Zag,nil_append→Zah,append_nil→Zai
open Option renaming bind_some→Zac,map_some→Zad
open Bool renaming eq_iff_iff→Zae
namespace Go.Proofs.YtbeoiejnogdkpaaGreat.Sy
open Go Go.RowKit
@[go_sem] theorem seg_zero {cs:List GV}:seg cs 0 0=some []:=by simp[seg]
@[go_sem] theorem seg_take {c:GV} {cs:List GV} {m:Nat}:seg (c::cs) 0 (m+1)=(seg cs 0 m).map (c::·):=by
 unfold seg
 by_cases h:m<=cs.length
 ·rw[if_pos (by simp;omega),if_pos (by omega)];simp
 ·rw[if_neg (by simp;omega),if_neg (by omega)];rfl
@[go_sem] theorem seg_drop {c:GV} {cs:List GV} {n m:Nat}:seg (c::cs) (n+1) m=seg cs n m:=by
 unfold seg
 by_cases h:n+m<=cs.length
 ·rw[if_pos (by simp;omega),if_pos h];simp
 ·rw[if_neg (by simp;omega),if_neg h]
@[go_sem] theorem mkv_one {c:GV}:mkv false [c]=some c:=(rfl)
@[go_sem] theorem mkv_all {cs:List GV}:mkv true cs=some (.agg cs):=(rfl)
@[go_sem] theorem Gt {cs:List GV}:Al cs 0 []=cs:=by simp[Al]
@[go_sem] theorem Ft {c x:GV} {cs xs:List GV}:Al (c::cs) 0 (x::xs)=x::Al cs 0 xs:=by simp[Al]
@[go_sem] theorem Fu {c:GV} {cs xs:List GV} {n:Nat}:Al (c::cs) (n+1) xs=c::Al cs n xs:=by
 simp only[Al,List.take_succ_cons,Zag,List.cons.injEq,true_and]
 congr 1
 rw[show n+1+xs.length=(n+xs.length)+1 by omega,List.drop_succ_cons]
@[go_sem] theorem fillG_cons {cs:List GV} {off size:Nat} {v:GV} {r:List (Nat×Nat×GV)}:Gk cs ((off,size,v)::r)=if v.cells.length=size/\0<size/\off+size<=cs.length then Gk (Al cs off v.cells) r else none:=(rfl)
@[go_sem] theorem cells_int {k:IntKind} {n:Int}:(GV.int k n).cells=[.int k n]:=(rfl)
@[go_sem] theorem cells_str {s:ByteArray}:(GV.str s).cells=[.str s]:=(rfl)
@[go_sem] theorem cells_bool {b:Bool}:(GV.bool b).cells=[.bool b]:=(rfl)
@[go_sem] theorem cells_agg {cs:List GV}:(GV.agg cs).cells=cs:=(rfl)
@[go_sem] theorem cells_nil:GV.nilS.cells=[.nilS]:=(rfl)
@[go_sem] theorem cells_sl {g o n:Nat}:(GV.sl g o n).cells=[.sl g o n]:=(rfl)
attribute [go_sem] List.length_cons List.length_nil Nat.zero_add Nat.reduceAdd Nat.reduceLeDiff Nat.reduceLT Nat.lt_add_one Nat.le_refl Nat.add_zero Zag Zah
theorem A7 {a:Bool} {n g off:Nat} {τ:St} {cs:List GV} (h:rdB τ g=some cs):ldG a n τ (.ptr g off)=(seg cs off n).bind (mkv a):=by simp only[ldG,h,Zac]
section
variable {α:Type} {d:En α} {p:Pl α} {σ:St} {v:GV} {l:List α}
theorem RdN.cell (h:RdN d σ v l):v.cells=[v]:=by
 rcases h with⟨_,rfl|rfl⟩|⟨g,off,cs,rfl,_⟩<;>rfl
theorem RdN.notup (h:RdN d σ v l):C7 v=true:=by
 rcases h with⟨_,rfl|rfl⟩|⟨g,off,cs,rfl,_⟩<;>rfl
theorem RdN.fad (h:RdN d σ v l) {i:Nat} (hi:i<l.length) {z k:Nat}:fadG k (atz z v i)=some (fld k (atz z v i)):=by
 rcases h with⟨rfl,_⟩|⟨g,off,cs,rfl,_⟩
 ·simp at hi
 ·rfl
theorem RdN.fad2 (h:RdN d σ v l) {i:Nat} (hi:i<l.length) {z k m:Nat}:fadG k (fld m (atz z v i))=some (fld (m+k) (atz z v i)):=by
 rcases h with⟨rfl,_⟩|⟨g,off,cs,rfl,_⟩
 ·simp at hi
 ·simp only[fld,atz,fadG,Nat.add_assoc]
theorem RdN.ldf (h:RdN p.kd.en σ v l) {i:Nat} (hi:i<l.length) {k n:Nat} {a:Bool} (hk:k+n<=p.z):ldG a n σ (fld k (atz p.z v i))=(seg (p.enc l[i]) k n).bind (mkv a):=by
 obtain⟨cs,hc,hs⟩:=RdN.cells h hi
 have hc:cs=p.enc l[i]:=hc
 subst hc
 have e:seg (p.enc l[i]) k n=some (((p.enc l[i]).drop k).take n):=by unfold seg;rw[if_pos (by rw[p.len];exact hk)]
 rw[e]
 exact hs k n _ e a
theorem RdN.ld (h:RdN p.kd.en σ v l) {i:Nat} (hi:i<l.length) {n:Nat} {a:Bool} (hk:n<=p.z):ldG a n σ (atz p.z v i)=(seg (p.enc l[i]) 0 n).bind (mkv a):=by
 have:=h.ldf hi (k:=0) (n:=n) (a:=a) (by omega)
 rw[<- this]
 rcases h with⟨rfl,_⟩|⟨g,off,cs,rfl,_⟩
 ·simp at hi
 ·rfl
end
structure Dot where
 rep:Int
 seq:Int
instance:DecidableEq Dot:=fun a b=>if h:a.rep=b.rep/\a.seq=b.seq then isTrue (by cases a;cases b;simp only at h;obtain⟨rfl,rfl⟩:=h;rfl) else isFalse (fun e=>h (by subst e;exact⟨rfl,rfl⟩))
theorem Dot.eq_iff {a b:Dot}:a=b↔a.rep=b.rep/\a.seq=b.seq:=⟨fun h=>by subst h;exact⟨rfl,rfl⟩,fun h=>by cases a;cases b;simp only at h;obtain⟨rfl,rfl⟩:=h;rfl⟩
def pDot:Pl Dot:=⟨2,fun x=>[.int .i64 x.rep,.int .i64 x.seq],fun _=>rfl⟩
@[go_sem] theorem eqs_Dot {n:Bool} {a0:Int} {a1:Int} {b0:Int} {b1:Int}:eqsG n [.i .i64,.i .i64] (.agg [.int .i64 a0,.int .i64 a1]) (.agg [.int .i64 b0,.int .i64 b1])=some (.bool (n ^^ decide ((⟨a0,a1⟩:Dot)=⟨b0,b1⟩))):=by
 simp only[eqsG,Cj,scEq,and_self,if_true,Zac,Zad,Bn]
 congr 3;rw[Zae];simp[and_assoc]
@[go_sem] theorem eta_Dot {x:Dot}:(⟨x.rep,x.seq⟩:Dot)=x:=(rfl)
theorem Kj {σ:St} {v:GV} {l:List Dot} (h:RS pDot.kd σ v l) {i:Nat} (hi:i<l.length):iadG 2 v (some i)=some (atz 2 v i)/\(∀ k,fadG k (atz 2 v i)=some (fld k (atz 2 v i)))/\(∀ k m,fadG k (fld m (atz 2 v i))=some (fld (m+k) (atz 2 v i)))/\ldG false 1 σ (fld 0 (atz 2 v i))=some (.int .i64 l[i].rep)/\ldG false 1 σ (fld 1 (atz 2 v i))=some (.int .i64 l[i].seq)/\ldG true 2 σ (atz 2 v i)=some (.agg [.int .i64 l[i].rep,.int .i64 l[i].seq]):=
 ⟨RdN.iad h hi,fun k=>RdN.fad h hi,fun k m=>RdN.fad2 h hi,RdN.ldf h hi (k:=0) (by decide),RdN.ldf h hi (k:=1) (by decide),RdN.ld h hi (by decide)⟩
structure Tally where
 obj:ByteArray
 rep:Int
 sum:Int
instance:DecidableEq Tally:=fun a b=>if h:a.obj=b.obj/\a.rep=b.rep/\a.sum=b.sum then isTrue (by cases a;cases b;simp only at h;obtain⟨rfl,rfl,rfl⟩:=h;rfl) else isFalse (fun e=>h (by subst e;exact⟨rfl,rfl,rfl⟩))
theorem Tally.eq_iff {a b:Tally}:a=b↔a.obj=b.obj/\a.rep=b.rep/\a.sum=b.sum:=⟨fun h=>by subst h;exact⟨rfl,rfl,rfl⟩,fun h=>by cases a;cases b;simp only at h;obtain⟨rfl,rfl,rfl⟩:=h;rfl⟩
def Bi:Pl Tally:=⟨3,fun x=>[.str x.obj,.int .i64 x.rep,.int .i64 x.sum],fun _=>rfl⟩
@[go_sem] theorem eqs_Tally {n:Bool} {a0:ByteArray} {a1:Int} {a2:Int} {b0:ByteArray} {b1:Int} {b2:Int}:eqsG n [.s,.i .i64,.i .i64] (.agg [.str a0,.int .i64 a1,.int .i64 a2]) (.agg [.str b0,.int .i64 b1,.int .i64 b2])=some (.bool (n ^^ decide ((⟨a0,a1,a2⟩:Tally)=⟨b0,b1,b2⟩))):=by
 simp only[eqsG,Cj,scEq,and_self,if_true,Zac,Zad,Bn]
 congr 3;rw[Zae];simp[and_assoc]
@[go_sem] theorem eta_Tally {x:Tally}:(⟨x.obj,x.rep,x.sum⟩:Tally)=x:=(rfl)
theorem Ac {σ:St} {v:GV} {l:List Tally} (h:RS Bi.kd σ v l) {i:Nat} (hi:i<l.length):iadG 3 v (some i)=some (atz 3 v i)/\(∀ k,fadG k (atz 3 v i)=some (fld k (atz 3 v i)))/\(∀ k m,fadG k (fld m (atz 3 v i))=some (fld (m+k) (atz 3 v i)))/\ldG false 1 σ (fld 0 (atz 3 v i))=some (.str l[i].obj)/\ldG false 1 σ (fld 1 (atz 3 v i))=some (.int .i64 l[i].rep)/\ldG false 1 σ (fld 2 (atz 3 v i))=some (.int .i64 l[i].sum)/\ldG true 3 σ (atz 3 v i)=some (.agg [.str l[i].obj,.int .i64 l[i].rep,.int .i64 l[i].sum]):=
 ⟨RdN.iad h hi,fun k=>RdN.fad h hi,fun k m=>RdN.fad2 h hi,RdN.ldf h hi (k:=0) (by decide),RdN.ldf h hi (k:=1) (by decide),RdN.ldf h hi (k:=2) (by decide),RdN.ld h hi (by decide)⟩
structure Live where
 map:Bool
 obj:ByteArray
 key:ByteArray
 val:Int
 dot:Dot
instance:DecidableEq Live:=fun a b=>if h:a.map=b.map/\a.obj=b.obj/\a.key=b.key/\a.val=b.val/\a.dot=b.dot then isTrue (by cases a;cases b;simp only at h;obtain⟨rfl,rfl,rfl,rfl,rfl⟩:=h;rfl) else isFalse (fun e=>h (by subst e;exact⟨rfl,rfl,rfl,rfl,rfl⟩))
theorem Live.eq_iff {a b:Live}:a=b↔a.map=b.map/\a.obj=b.obj/\a.key=b.key/\a.val=b.val/\a.dot=b.dot:=⟨fun h=>by subst h;exact⟨rfl,rfl,rfl,rfl,rfl⟩,fun h=>by cases a;cases b;simp only at h;obtain⟨rfl,rfl,rfl,rfl,rfl⟩:=h;rfl⟩
def Cl:Pl Live:=⟨6,fun x=>[.bool x.map,.str x.obj,.str x.key,.int .i64 x.val,.int .i64 x.dot.rep,.int .i64 x.dot.seq],fun _=>rfl⟩
@[go_sem] theorem eqs_Live {n:Bool} {a0:Bool} {a1:ByteArray} {a2:ByteArray} {a3:Int} {a4:Int} {a5:Int} {b0:Bool} {b1:ByteArray} {b2:ByteArray} {b3:Int} {b4:Int} {b5:Int}:eqsG n [.b,.s,.s,.i .i64,.i .i64,.i .i64] (.agg [.bool a0,.str a1,.str a2,.int .i64 a3,.int .i64 a4,.int .i64 a5]) (.agg [.bool b0,.str b1,.str b2,.int .i64 b3,.int .i64 b4,.int .i64 b5])=some (.bool (n ^^ decide ((⟨a0,a1,a2,a3,⟨a4,a5⟩⟩:Live)=⟨b0,b1,b2,b3,⟨b4,b5⟩⟩))):=by
 simp only[eqsG,Cj,scEq,and_self,if_true,Zac,Zad,Bn]
 congr 3;rw[Zae];simp[and_assoc]
@[go_sem] theorem eta_Live {x:Live}:(⟨x.map,x.obj,x.key,x.val,x.dot⟩:Live)=x:=(rfl)
theorem A5 {σ:St} {v:GV} {l:List Live} (h:RS Cl.kd σ v l) {i:Nat} (hi:i<l.length):iadG 6 v (some i)=some (atz 6 v i)/\(∀ k,fadG k (atz 6 v i)=some (fld k (atz 6 v i)))/\(∀ k m,fadG k (fld m (atz 6 v i))=some (fld (m+k) (atz 6 v i)))/\ldG false 1 σ (fld 0 (atz 6 v i))=some (.bool l[i].map)/\ldG false 1 σ (fld 1 (atz 6 v i))=some (.str l[i].obj)/\ldG false 1 σ (fld 2 (atz 6 v i))=some (.str l[i].key)/\ldG false 1 σ (fld 3 (atz 6 v i))=some (.int .i64 l[i].val)/\ldG false 1 σ (fld 4 (atz 6 v i))=some (.int .i64 l[i].dot.rep)/\ldG false 1 σ (fld 5 (atz 6 v i))=some (.int .i64 l[i].dot.seq)/\ldG true 2 σ (fld 4 (atz 6 v i))=some (.agg [.int .i64 l[i].dot.rep,.int .i64 l[i].dot.seq])/\ldG true 6 σ (atz 6 v i)=some (.agg [.bool l[i].map,.str l[i].obj,.str l[i].key,.int .i64 l[i].val,.int .i64 l[i].dot.rep,.int .i64 l[i].dot.seq]):=
 ⟨RdN.iad h hi,fun k=>RdN.fad h hi,fun k m=>RdN.fad2 h hi,RdN.ldf h hi (k:=0) (by decide),RdN.ldf h hi (k:=1) (by decide),RdN.ldf h hi (k:=2) (by decide),RdN.ldf h hi (k:=3) (by decide),RdN.ldf h hi (k:=4) (by decide),RdN.ldf h hi (k:=5) (by decide),RdN.ldf h hi (k:=4) (by decide),RdN.ld h hi (by decide)⟩
structure Cell where
 obj:ByteArray
 dot:Dot
 time:Int
 ref:Dot
 val:Int
 gone:Bool
instance:DecidableEq Cell:=fun a b=>if h:a.obj=b.obj/\a.dot=b.dot/\a.time=b.time/\a.ref=b.ref/\a.val=b.val/\a.gone=b.gone then isTrue (by cases a;cases b;simp only at h;obtain⟨rfl,rfl,rfl,rfl,rfl,rfl⟩:=h;rfl) else isFalse (fun e=>h (by subst e;exact⟨rfl,rfl,rfl,rfl,rfl,rfl⟩))
theorem Cell.eq_iff {a b:Cell}:a=b↔a.obj=b.obj/\a.dot=b.dot/\a.time=b.time/\a.ref=b.ref/\a.val=b.val/\a.gone=b.gone:=⟨fun h=>by subst h;exact⟨rfl,rfl,rfl,rfl,rfl,rfl⟩,fun h=>by cases a;cases b;simp only at h;obtain⟨rfl,rfl,rfl,rfl,rfl,rfl⟩:=h;rfl⟩
def Aj:Pl Cell:=⟨8,fun x=>[.str x.obj,.int .i64 x.dot.rep,.int .i64 x.dot.seq,.int .i64 x.time,.int .i64 x.ref.rep,.int .i64 x.ref.seq,.int .i64 x.val,.bool x.gone],fun _=>rfl⟩
theorem A6b {x:Cell}:Aj.enc x=[.str x.obj,.int .i64 x.dot.rep,.int .i64 x.dot.seq,.int .i64 x.time,.int .i64 x.ref.rep,.int .i64 x.ref.seq,.int .i64 x.val,.bool x.gone]:=(rfl)
@[go_sem] theorem eqs_Cell {n:Bool} {a0:ByteArray} {a1:Int} {a2:Int} {a3:Int} {a4:Int} {a5:Int} {a6:Int} {a7:Bool} {b0:ByteArray} {b1:Int} {b2:Int} {b3:Int} {b4:Int} {b5:Int} {b6:Int} {b7:Bool}:eqsG n [.s,.i .i64,.i .i64,.i .i64,.i .i64,.i .i64,.i .i64,.b] (.agg [.str a0,.int .i64 a1,.int .i64 a2,.int .i64 a3,.int .i64 a4,.int .i64 a5,.int .i64 a6,.bool a7]) (.agg [.str b0,.int .i64 b1,.int .i64 b2,.int .i64 b3,.int .i64 b4,.int .i64 b5,.int .i64 b6,.bool b7])=some (.bool (n ^^ decide ((⟨a0,⟨a1,a2⟩,a3,⟨a4,a5⟩,a6,a7⟩:Cell)=⟨b0,⟨b1,b2⟩,b3,⟨b4,b5⟩,b6,b7⟩))):=by
 simp only[eqsG,Cj,scEq,and_self,if_true,Zac,Zad,Bn]
 congr 3;rw[Zae];simp[and_assoc]
@[go_sem] theorem eta_Cell {x:Cell}:(⟨x.obj,x.dot,x.time,x.ref,x.val,x.gone⟩:Cell)=x:=(rfl)
theorem A4 {σ:St} {v:GV} {l:List Cell} (h:RS Aj.kd σ v l) {i:Nat} (hi:i<l.length):iadG 8 v (some i)=some (atz 8 v i)/\(∀ k,fadG k (atz 8 v i)=some (fld k (atz 8 v i)))/\(∀ k m,fadG k (fld m (atz 8 v i))=some (fld (m+k) (atz 8 v i)))/\ldG false 1 σ (fld 0 (atz 8 v i))=some (.str l[i].obj)/\ldG false 1 σ (fld 1 (atz 8 v i))=some (.int .i64 l[i].dot.rep)/\ldG false 1 σ (fld 2 (atz 8 v i))=some (.int .i64 l[i].dot.seq)/\ldG false 1 σ (fld 3 (atz 8 v i))=some (.int .i64 l[i].time)/\ldG false 1 σ (fld 4 (atz 8 v i))=some (.int .i64 l[i].ref.rep)/\ldG false 1 σ (fld 5 (atz 8 v i))=some (.int .i64 l[i].ref.seq)/\ldG false 1 σ (fld 6 (atz 8 v i))=some (.int .i64 l[i].val)/\ldG false 1 σ (fld 7 (atz 8 v i))=some (.bool l[i].gone)/\ldG true 2 σ (fld 1 (atz 8 v i))=some (.agg [.int .i64 l[i].dot.rep,.int .i64 l[i].dot.seq])/\ldG true 2 σ (fld 4 (atz 8 v i))=some (.agg [.int .i64 l[i].ref.rep,.int .i64 l[i].ref.seq])/\ldG true 8 σ (atz 8 v i)=some (.agg [.str l[i].obj,.int .i64 l[i].dot.rep,.int .i64 l[i].dot.seq,.int .i64 l[i].time,.int .i64 l[i].ref.rep,.int .i64 l[i].ref.seq,.int .i64 l[i].val,.bool l[i].gone]):=
 ⟨RdN.iad h hi,fun k=>RdN.fad h hi,fun k m=>RdN.fad2 h hi,RdN.ldf h hi (k:=0) (by decide),RdN.ldf h hi (k:=1) (by decide),RdN.ldf h hi (k:=2) (by decide),RdN.ldf h hi (k:=3) (by decide),RdN.ldf h hi (k:=4) (by decide),RdN.ldf h hi (k:=5) (by decide),RdN.ldf h hi (k:=6) (by decide),RdN.ldf h hi (k:=7) (by decide),RdN.ldf h hi (k:=1) (by decide),RdN.ldf h hi (k:=4) (by decide),RdN.ld h hi (by decide)⟩
structure Edit where
 kind:Int
 obj:ByteArray
 key:ByteArray
 val:Int
 place:Int
instance:DecidableEq Edit:=fun a b=>if h:a.kind=b.kind/\a.obj=b.obj/\a.key=b.key/\a.val=b.val/\a.place=b.place then isTrue (by cases a;cases b;simp only at h;obtain⟨rfl,rfl,rfl,rfl,rfl⟩:=h;rfl) else isFalse (fun e=>h (by subst e;exact⟨rfl,rfl,rfl,rfl,rfl⟩))
theorem Edit.eq_iff {a b:Edit}:a=b↔a.kind=b.kind/\a.obj=b.obj/\a.key=b.key/\a.val=b.val/\a.place=b.place:=⟨fun h=>by subst h;exact⟨rfl,rfl,rfl,rfl,rfl⟩,fun h=>by cases a;cases b;simp only at h;obtain⟨rfl,rfl,rfl,rfl,rfl⟩:=h;rfl⟩
@[go_sem] theorem eqs_Edit {n:Bool} {a0:Int} {a1:ByteArray} {a2:ByteArray} {a3:Int} {a4:Int} {b0:Int} {b1:ByteArray} {b2:ByteArray} {b3:Int} {b4:Int}:eqsG n [.i .i64,.s,.s,.i .i64,.i .i64] (.agg [.int .i64 a0,.str a1,.str a2,.int .i64 a3,.int .i64 a4]) (.agg [.int .i64 b0,.str b1,.str b2,.int .i64 b3,.int .i64 b4])=some (.bool (n ^^ decide ((⟨a0,a1,a2,a3,a4⟩:Edit)=⟨b0,b1,b2,b3,b4⟩))):=by
 simp only[eqsG,Cj,scEq,and_self,if_true,Zac,Zad,Bn]
 congr 3;rw[Zae];simp[and_assoc]
@[go_sem] theorem eta_Edit {x:Edit}:(⟨x.kind,x.obj,x.key,x.val,x.place⟩:Edit)=x:=(rfl)
structure Watch where
 kind:Int
 obj:ByteArray
 key:ByteArray
instance:DecidableEq Watch:=fun a b=>if h:a.kind=b.kind/\a.obj=b.obj/\a.key=b.key then isTrue (by cases a;cases b;simp only at h;obtain⟨rfl,rfl,rfl⟩:=h;rfl) else isFalse (fun e=>h (by subst e;exact⟨rfl,rfl,rfl⟩))
theorem Watch.eq_iff {a b:Watch}:a=b↔a.kind=b.kind/\a.obj=b.obj/\a.key=b.key:=⟨fun h=>by subst h;exact⟨rfl,rfl,rfl⟩,fun h=>by cases a;cases b;simp only at h;obtain⟨rfl,rfl,rfl⟩:=h;rfl⟩
@[go_sem] theorem eqs_Watch {n:Bool} {a0:Int} {a1:ByteArray} {a2:ByteArray} {b0:Int} {b1:ByteArray} {b2:ByteArray}:eqsG n [.i .i64,.s,.s] (.agg [.int .i64 a0,.str a1,.str a2]) (.agg [.int .i64 b0,.str b1,.str b2])=some (.bool (n ^^ decide ((⟨a0,a1,a2⟩:Watch)=⟨b0,b1,b2⟩))):=by
 simp only[eqsG,Cj,scEq,and_self,if_true,Zac,Zad,Bn]
 congr 3;rw[Zae];simp[and_assoc]
@[go_sem] theorem eta_Watch {x:Watch}:(⟨x.kind,x.obj,x.key⟩:Watch)=x:=(rfl)
structure Clash where
 obj:ByteArray
 key:ByteArray
instance:DecidableEq Clash:=fun a b=>if h:a.obj=b.obj/\a.key=b.key then isTrue (by cases a;cases b;simp only at h;obtain⟨rfl,rfl⟩:=h;rfl) else isFalse (fun e=>h (by subst e;exact⟨rfl,rfl⟩))
theorem Clash.eq_iff {a b:Clash}:a=b↔a.obj=b.obj/\a.key=b.key:=⟨fun h=>by subst h;exact⟨rfl,rfl⟩,fun h=>by cases a;cases b;simp only at h;obtain⟨rfl,rfl⟩:=h;rfl⟩
@[go_sem] theorem eqs_Clash {n:Bool} {a0:ByteArray} {a1:ByteArray} {b0:ByteArray} {b1:ByteArray}:eqsG n [.s,.s] (.agg [.str a0,.str a1]) (.agg [.str b0,.str b1])=some (.bool (n ^^ decide ((⟨a0,a1⟩:Clash)=⟨b0,b1⟩))):=by
 simp only[eqsG,Cj,scEq,and_self,if_true,Zac,Zad,Bn]
 congr 3;rw[Zae];simp[and_assoc]
@[go_sem] theorem eta_Clash {x:Clash}:(⟨x.obj,x.key⟩:Clash)=x:=(rfl)
structure File where
 text:ByteArray
 synced:Int
instance:DecidableEq File:=fun a b=>if h:a.text=b.text/\a.synced=b.synced then isTrue (by cases a;cases b;simp only at h;obtain⟨rfl,rfl⟩:=h;rfl) else isFalse (fun e=>h (by subst e;exact⟨rfl,rfl⟩))
theorem File.eq_iff {a b:File}:a=b↔a.text=b.text/\a.synced=b.synced:=⟨fun h=>by subst h;exact⟨rfl,rfl⟩,fun h=>by cases a;cases b;simp only at h;obtain⟨rfl,rfl⟩:=h;rfl⟩
@[go_sem] theorem eqs_File {n:Bool} {a0:ByteArray} {a1:Int} {b0:ByteArray} {b1:Int}:eqsG n [.s,.i .i64] (.agg [.str a0,.int .i64 a1]) (.agg [.str b0,.int .i64 b1])=some (.bool (n ^^ decide ((⟨a0,a1⟩:File)=⟨b0,b1⟩))):=by
 simp only[eqsG,Cj,scEq,and_self,if_true,Zac,Zad,Bn]
 congr 3;rw[Zae];simp[and_assoc]
@[go_sem] theorem eta_File {x:File}:(⟨x.text,x.synced⟩:File)=x:=(rfl)
structure Letter where
 to:Int
 text:ByteArray
instance:DecidableEq Letter:=fun a b=>if h:a.to=b.to/\a.text=b.text then isTrue (by cases a;cases b;simp only at h;obtain⟨rfl,rfl⟩:=h;rfl) else isFalse (fun e=>h (by subst e;exact⟨rfl,rfl⟩))
theorem Letter.eq_iff {a b:Letter}:a=b↔a.to=b.to/\a.text=b.text:=⟨fun h=>by subst h;exact⟨rfl,rfl⟩,fun h=>by cases a;cases b;simp only at h;obtain⟨rfl,rfl⟩:=h;rfl⟩
@[go_sem] theorem eqs_Letter {n:Bool} {a0:Int} {a1:ByteArray} {b0:Int} {b1:ByteArray}:eqsG n [.i .i64,.s] (.agg [.int .i64 a0,.str a1]) (.agg [.int .i64 b0,.str b1])=some (.bool (n ^^ decide ((⟨a0,a1⟩:Letter)=⟨b0,b1⟩))):=by
 simp only[eqsG,Cj,scEq,and_self,if_true,Zac,Zad,Bn]
 congr 3;rw[Zae];simp[and_assoc]
@[go_sem] theorem eta_Letter {x:Letter}:(⟨x.to,x.text⟩:Letter)=x:=(rfl)
structure Event where
 kind:Int
 at_:Int
 num:Int
 edit:Edit
instance:DecidableEq Event:=fun a b=>if h:a.kind=b.kind/\a.at_=b.at_/\a.num=b.num/\a.edit=b.edit then isTrue (by cases a;cases b;simp only at h;obtain⟨rfl,rfl,rfl,rfl⟩:=h;rfl) else isFalse (fun e=>h (by subst e;exact⟨rfl,rfl,rfl,rfl⟩))
theorem Event.eq_iff {a b:Event}:a=b↔a.kind=b.kind/\a.at_=b.at_/\a.num=b.num/\a.edit=b.edit:=⟨fun h=>by subst h;exact⟨rfl,rfl,rfl,rfl⟩,fun h=>by cases a;cases b;simp only at h;obtain⟨rfl,rfl,rfl,rfl⟩:=h;rfl⟩
@[go_sem] theorem eqs_Event {n:Bool} {a0:Int} {a1:Int} {a2:Int} {a3:Int} {a4:ByteArray} {a5:ByteArray} {a6:Int} {a7:Int} {b0:Int} {b1:Int} {b2:Int} {b3:Int} {b4:ByteArray} {b5:ByteArray} {b6:Int} {b7:Int}:eqsG n [.i .i64,.i .i64,.i .i64,.i .i64,.s,.s,.i .i64,.i .i64] (.agg [.int .i64 a0,.int .i64 a1,.int .i64 a2,.int .i64 a3,.str a4,.str a5,.int .i64 a6,.int .i64 a7]) (.agg [.int .i64 b0,.int .i64 b1,.int .i64 b2,.int .i64 b3,.str b4,.str b5,.int .i64 b6,.int .i64 b7])=some (.bool (n ^^ decide ((⟨a0,a1,a2,⟨a3,a4,a5,a6,a7⟩⟩:Event)=⟨b0,b1,b2,⟨b3,b4,b5,b6,b7⟩⟩))):=by
 simp only[eqsG,Cj,scEq,and_self,if_true,Zac,Zad,Bn]
 congr 3;rw[Zae];simp[and_assoc]
@[go_sem] theorem eta_Event {x:Event}:(⟨x.kind,x.at_,x.num,x.edit⟩:Event)=x:=(rfl)
theorem E6 {σ:St} {v:GV} {l:List Int} (h:RS pI.kd σ v l) {i:Nat} (hi:i<l.length):iadG 1 v (some i)=some (atz 1 v i)/\ldG false 1 σ (atz 1 v i)=some (.int .i64 l[i]):=⟨RdN.iad h hi,RdN.ld h hi (by decide)⟩
theorem A14 {σ:St} {v:GV} {l:List ByteArray} (h:RS pS.kd σ v l) {i:Nat} (hi:i<l.length):iadG 1 v (some i)=some (atz 1 v i)/\ldG false 1 σ (atz 1 v i)=some (.str l[i]):=⟨RdN.iad h hi,RdN.ld h hi (by decide)⟩
structure Act where
 dot:Dot
 time:Int
 knew:List Int
 kind:Int
 obj:ByteArray
 key:ByteArray
 val:Int
 ref:Dot
def kAct:Kd Act where
 z:=10
 R σ x cs:=∃ v2,cs=(.int .i64 x.dot.rep)::(.int .i64 x.dot.seq)::(.int .i64 x.time)::v2::(.int .i64 x.kind)::(.str x.obj)::(.str x.key)::(.int .i64 x.val)::(.int .i64 x.ref.rep)::(.int .i64 x.ref.seq)::[]/\RS pI.kd σ v2 x.knew
 O σ x cs fp:=∃ v2 f2,cs=(.int .i64 x.dot.rep)::(.int .i64 x.dot.seq)::(.int .i64 x.time)::v2::(.int .i64 x.kind)::(.str x.obj)::(.str x.key)::(.int .i64 x.val)::(.int .i64 x.ref.rep)::(.int .i64 x.ref.seq)::[]/\OS pI.kd σ x.knew v2 f2/\fp=f2
 len:=by
  rintro σ x cs ⟨v2,rfl,h0⟩
  simp[]
 pre:=by
  rintro σ τ x cs ⟨v2,rfl,h0⟩ hp
  exact⟨_,rfl,h0.pre hp⟩
 rd:=by
  rintro σ x cs fp ⟨v2,f2,rfl,h0,rfl⟩
  exact⟨_,rfl,h0.rd⟩
 loc:=by
  rintro σ τ x cs fp ⟨v2,f2,rfl,h0,rfl⟩ hf
  exact⟨_,_,rfl,h0.loc (fun g hg=>hf g hg),rfl⟩
structure State where
 know:List Int
 tallies:List Tally
 lives:List Live
 cells:List Cell
def A8:Kd State where
 z:=4
 R σ x cs:=∃ v0 v1 v2 v3,cs=v0::v1::v2::v3::[]/\RS pI.kd σ v0 x.know/\RS Bi.kd σ v1 x.tallies/\RS Cl.kd σ v2 x.lives/\RS Aj.kd σ v3 x.cells
 O σ x cs fp:=∃ v0 v1 v2 v3 f0 f1 f2 f3,cs=v0::v1::v2::v3::[]/\OS pI.kd σ x.know v0 f0/\OS Bi.kd σ x.tallies v1 f1/\OS Cl.kd σ x.lives v2 f2/\OS Aj.kd σ x.cells v3 f3/\fp=f0++(f1++(f2++(f3)))
 len:=by
  rintro σ x cs ⟨v0,v1,v2,v3,rfl,h0,h1,h2,h3⟩
  simp[]
 pre:=by
  rintro σ τ x cs ⟨v0,v1,v2,v3,rfl,h0,h1,h2,h3⟩ hp
  exact⟨_,_,_,_,rfl,h0.pre hp,h1.pre hp,h2.pre hp,h3.pre hp⟩
 rd:=by
  rintro σ x cs fp ⟨v0,v1,v2,v3,f0,f1,f2,f3,rfl,h0,h1,h2,h3,rfl⟩
  exact⟨_,_,_,_,rfl,h0.rd,h1.rd,h2.rd,h3.rd⟩
 loc:=by
  rintro σ τ x cs fp ⟨v0,v1,v2,v3,f0,f1,f2,f3,rfl,h0,h1,h2,h3,rfl⟩ hf
  exact⟨_,_,_,_,_,_,_,_,rfl,h0.loc (fun g hg=>hf g (Zab _ hg)),h1.loc (fun g hg=>hf g (Zaa _ (Zab _ hg))),h2.loc (fun g hg=>hf g (Zaa _ (Zaa _ (Zab _ hg)))),h3.loc (fun g hg=>hf g (Zaa _ (Zaa _ (Zaa _ hg)))),rfl⟩
structure Delta where
 base:List Int
 know:List Int
 tallies:List Tally
 lives:List Live
 dead:List Dot
 cells:List Cell
def Bx:Kd Delta where
 z:=6
 R σ x cs:=∃ v0 v1 v2 v3 v4 v5,cs=v0::v1::v2::v3::v4::v5::[]/\RS pI.kd σ v0 x.base/\RS pI.kd σ v1 x.know/\RS Bi.kd σ v2 x.tallies/\RS Cl.kd σ v3 x.lives/\RS pDot.kd σ v4 x.dead/\RS Aj.kd σ v5 x.cells
 O σ x cs fp:=∃ v0 v1 v2 v3 v4 v5 f0 f1 f2 f3 f4 f5,cs=v0::v1::v2::v3::v4::v5::[]/\OS pI.kd σ x.base v0 f0/\OS pI.kd σ x.know v1 f1/\OS Bi.kd σ x.tallies v2 f2/\OS Cl.kd σ x.lives v3 f3/\OS pDot.kd σ x.dead v4 f4/\OS Aj.kd σ x.cells v5 f5/\fp=f0++(f1++(f2++(f3++(f4++(f5)))))
 len:=by
  rintro σ x cs ⟨v0,v1,v2,v3,v4,v5,rfl,h0,h1,h2,h3,h4,h5⟩
  simp[]
 pre:=by
  rintro σ τ x cs ⟨v0,v1,v2,v3,v4,v5,rfl,h0,h1,h2,h3,h4,h5⟩ hp
  exact⟨_,_,_,_,_,_,rfl,h0.pre hp,h1.pre hp,h2.pre hp,h3.pre hp,h4.pre hp,h5.pre hp⟩
 rd:=by
  rintro σ x cs fp ⟨v0,v1,v2,v3,v4,v5,f0,f1,f2,f3,f4,f5,rfl,h0,h1,h2,h3,h4,h5,rfl⟩
  exact⟨_,_,_,_,_,_,rfl,h0.rd,h1.rd,h2.rd,h3.rd,h4.rd,h5.rd⟩
 loc:=by
  rintro σ τ x cs fp ⟨v0,v1,v2,v3,v4,v5,f0,f1,f2,f3,f4,f5,rfl,h0,h1,h2,h3,h4,h5,rfl⟩ hf
  exact⟨_,_,_,_,_,_,_,_,_,_,_,_,rfl,h0.loc (fun g hg=>hf g (Zab _ hg)),h1.loc (fun g hg=>hf g (Zaa _ (Zab _ hg))),h2.loc (fun g hg=>hf g (Zaa _ (Zaa _ (Zab _ hg)))),h3.loc (fun g hg=>hf g (Zaa _ (Zaa _ (Zaa _ (Zab _ hg))))),h4.loc (fun g hg=>hf g (Zaa _ (Zaa _ (Zaa _ (Zaa _ (Zab _ hg)))))),h5.loc (fun g hg=>hf g (Zaa _ (Zaa _ (Zaa _ (Zaa _ (Zaa _ hg)))))),rfl⟩
structure Unit_ where
 batch:Bool
 act:Act
 delta:Delta
def Ab:Kd Unit_ where
 z:=17
 R σ x cs:=∃ v1 v2,cs=(.bool x.batch)::v1++(v2++([]))/\kAct.R σ x.act v1/\Bx.R σ x.delta v2
 O σ x cs fp:=∃ v1 v2 f1 f2,cs=(.bool x.batch)::v1++(v2++([]))/\kAct.O σ x.act v1 f1/\Bx.O σ x.delta v2 f2/\fp=f1++(f2)
 len:=by
  rintro σ x cs ⟨v1,v2,rfl,h0,h1⟩
  have l0:=kAct.len h0
  have l1:=Bx.len h1
  simp[l0,l1,kAct,Bx]
 pre:=by
  rintro σ τ x cs ⟨v1,v2,rfl,h0,h1⟩ hp
  exact⟨_,_,rfl,kAct.pre h0 hp,Bx.pre h1 hp⟩
 rd:=by
  rintro σ x cs fp ⟨v1,v2,f1,f2,rfl,h0,h1,rfl⟩
  exact⟨_,_,rfl,kAct.rd h0,Bx.rd h1⟩
 loc:=by
  rintro σ τ x cs fp ⟨v1,v2,f1,f2,rfl,h0,h1,rfl⟩ hf
  exact⟨_,_,_,_,rfl,kAct.loc h0 (fun g hg=>hf g (Zab _ hg)),Bx.loc h1 (fun g hg=>hf g (Zaa _ hg)),rfl⟩
structure Log where
 rep:Int
 time:Int
 state:State
 units:List Unit_
 waits:List Unit_
def kLog:Kd Log where
 z:=8
 R σ x cs:=∃ v2 v3 v4,cs=(.int .i64 x.rep)::(.int .i64 x.time)::v2++(v3::v4::[])/\A8.R σ x.state v2/\RS Ab σ v3 x.units/\RS Ab σ v4 x.waits
 O σ x cs fp:=∃ v2 v3 v4 f2 f3 f4,cs=(.int .i64 x.rep)::(.int .i64 x.time)::v2++(v3::v4::[])/\A8.O σ x.state v2 f2/\OS Ab σ x.units v3 f3/\OS Ab σ x.waits v4 f4/\fp=f2++(f3++(f4))
 len:=by
  rintro σ x cs ⟨v2,v3,v4,rfl,h0,h1,h2⟩
  have l0:=A8.len h0
  simp[l0,A8]
 pre:=by
  rintro σ τ x cs ⟨v2,v3,v4,rfl,h0,h1,h2⟩ hp
  exact⟨_,_,_,rfl,A8.pre h0 hp,h1.pre hp,h2.pre hp⟩
 rd:=by
  rintro σ x cs fp ⟨v2,v3,v4,f2,f3,f4,rfl,h0,h1,h2,rfl⟩
  exact⟨_,_,_,rfl,A8.rd h0,h1.rd,h2.rd⟩
 loc:=by
  rintro σ τ x cs fp ⟨v2,v3,v4,f2,f3,f4,rfl,h0,h1,h2,rfl⟩ hf
  exact⟨_,_,_,_,_,_,rfl,A8.loc h0 (fun g hg=>hf g (Zab _ hg)),h1.loc (fun g hg=>hf g (Zaa _ (Zab _ hg))),h2.loc (fun g hg=>hf g (Zaa _ (Zaa _ hg))),rfl⟩
structure Commit where
 id:Dot
 ups:List Int
 state:State
structure Graph where
 commits:List Commit
 head:Int
structure Replica where
 way:Int
 log:Log
 graph:Graph
 file:File
 out:List Unit_
structure World_ where
 replicas:List Replica
 net:List Letter
 codes:List Int
 synced:List (List Int)
structure Script where
 ways:List Int
 events:List Event
 calm:Bool
theorem Cr {P:Program} {a:Cd} {Q:Ex->Env->St->Prop} {env:Env} {σ:St} (n ri:Nat) (I:Nat->Env->St->Prop) (hr:env ri=gi 0) (h0:I 0 env σ)
  (hs:∀ i env σ,i<n->env ri=gi i->decide ((i:Int)<n)=true->I i env σ->vc P a (fun e env' σ'=>match e with| .nxt=>env' ri=gi ((i:Int)+1)/\I (i+1) env' σ'|e=>Q e env' σ') env σ)
  (he:∀ env σ,env ri=gi n->decide ((n:Int)<n)=false->I n env σ->vc P a (fun e env' σ'=>match e with| .nxt=>False|e=>Q e env' σ') env σ):vc P (.lop a) Q env σ:=by
 refine Qg (fun k env σ=>∃ i:Nat,k=n - i/\i<=n/\env ri=gi i/\I i env σ) n ⟨0,rfl,Nat.zero_le _,hr,h0⟩ ?_
 rintro k env σ ⟨i,rfl,hi,h1,h2⟩
 rcases Nat.lt_or_ge i n with hlt|hge
 ·refine Aq (hs i env σ hlt h1 (by simp;omega) h2) fun e env' σ' he=> ?_
  cases e with
  |nxt=>
   obtain⟨h3,h4⟩:=he
   exact⟨n - (i+1),by omega,i+1,rfl,hlt,h3,h4⟩
  |ext j=>exact he
  |ret=>exact he
 ·obtain rfl:i=n:=by omega
  refine Aq (he env σ h1 (by simp) h2) fun e env' σ' he=> ?_
  cases e with
  |nxt=>exact he.elim
  |ext j=>exact he
  |ret=>exact he
theorem C3 {P:Program} {a:Cd} {Q:Ex->Env->St->Prop} {env:Env} {σ:St} (I:Nat->Env->St->Prop) (n:Nat) (h0:I n env σ)
  (hs:∀ J:Nat->Env->St->Prop,(∀ k env σ,I k env σ->J k env σ)->∀ k env σ,I k env σ->vc P a (fun e env' σ'=>match e with| .nxt=>∃ k',k'<k/\J k' env' σ'|e=>Q e env' σ') env σ):vc P (.lop a) Q env σ:=Qg I n h0 (hs I fun _ _ _ h=>h)
theorem Pe {P:Program} {a:Cd} {Q:Ex->Env->St->Prop} {env:Env} {σ:St} (n ri:Nat) (I:Nat->Env->St->Prop) (hr:env ri=gi 0) (h0:I 0 env σ)
  (hs:∀ J:Nat->Env->St->Prop,(∀ i env σ,I i env σ->J i env σ)->∀ i env σ,i<n->env ri=gi i->decide ((i:Int)<n)=true->I i env σ->vc P a (fun e env' σ'=>match e with| .nxt=>env' ri=gi ((i:Int)+1)/\J (i+1) env' σ'|e=>Q e env' σ') env σ)
  (he:∀ env σ,env ri=gi n->decide ((n:Int)<n)=false->I n env σ->vc P a (fun e env' σ'=>match e with| .nxt=>False|e=>Q e env' σ') env σ):vc P (.lop a) Q env σ:=Cr n ri I hr h0 (hs I fun _ _ _ h=>h) he
theorem D7 {σ τ:St} {x:Option Blk} (h:σ++[x] <+: τ):σ <+: τ:=(Zaf _ _).trans h
theorem M3 {σ τ:St} {z:Nat} {cs:List GV} (h:σ++[some (.row z cs)] <+: τ):rdB τ σ.length=some cs:=J4 h (by unfold rdB;simp[Blk.cells])
theorem Pf {σ:St} {g:Nat} {cs:List GV} (h:rdB σ g=some cs) (r:St):rdB (σ++r) g=some cs:=J4 (Zaf _ _) h
theorem pre1 (σ:St) (x:Option Blk):σ <+: σ++[x]:=Zaf _ _
theorem Z4 {σ τ:St} {x y:Option Blk} (h:σ++[x]++[y] <+: τ):σ <+: τ:=D7 (D7 h)
theorem A3z {σ τ:St} {z:Nat} {cs:List GV} {y:Option Blk} (h:σ++[some (.row z cs)]++[y] <+: τ):rdB τ σ.length=some cs:=M3 (D7 h)
attribute [go_sem] Bool.true_xor Bool.false_xor Eb Nat.reduceEqDiff Int.reduceEq Int.reduceNeg Zai
attribute [go_sem ↓] reduceIte
theorem RdN.cellsN {α:Type} {d:Kd α} {τ:St} {v:GV} {l:List α} (h:RS d τ v l) {i:Nat} (hi:i<l.length):∃ cs,(iadG d.z v (some i)=some (atz d.z v i)/\(∀ k,fadG k (atz d.z v i)=some (fld k (atz d.z v i)))/\(∀ k m,fadG k (fld m (atz d.z v i))=some (fld (m+k) (atz d.z v i)))/\ldG true d.z τ (atz d.z v i)=some (.agg cs)/\∀ k n a,k+n<=d.z->ldG a n τ (fld k (atz d.z v i))=(seg cs k n).bind (mkv a))/\d.R τ l[i] cs:=by
 obtain⟨cs,hr,hs⟩:=RdN.cells h hi
 have hl:=d.len hr
 have h1:=hs 0 d.z cs (by simp[seg,hl];exact List.take_of_length_le (by omega)) true
 refine⟨cs,⟨RdN.iad h hi,fun k=>RdN.fad h hi,fun k m=>RdN.fad2 h hi,?_,fun k n a hk=> ?_⟩,hr⟩
 ·have h2:mkv true cs=some (.agg cs):=rfl
  rw[<- h2,<-h1]
  rcases h with⟨rfl,_⟩|⟨g,off,cs,rfl,_⟩
  ·simp at hi
  ·rfl
 ·have e:seg cs k n=some ((cs.drop k).take n):=by unfold seg;rw[if_pos (by omega)]
  rw[e];exact hs k n _ e a
theorem Aao (l:List Int):pI.cells l=l.map gi:=by
 induction l with
 |nil=>rfl
 |cons x l ih=>
  have e:pI.cells (x::l)=gi x::pI.cells l:=rfl
  rw[e,ih];rfl
theorem OwnI.hp {σ τ:St} {v:GV} {l:List Int} (h:OwnI σ.length τ v l) (hp:σ <+: τ):Hp σ τ [ow pI.kd v l]:=by
 rcases h with⟨rfl,rfl⟩|⟨g,hg,rfl,hB⟩
 ·exact⟨hp,[],⟨[],[],.inl ⟨rfl,rfl,rfl⟩,rfl,rfl⟩,by simp,by simp⟩
 ·exact⟨hp,[g],⟨[g],[],OS.flat.2 (.inr ⟨g,[],[],rfl,by rw[hB,Aao];simp;rfl,rfl⟩),rfl,rfl⟩,by simp,by simpa using ⟨hg,A7a hB⟩⟩
theorem Pg {P:Program} {env:Env} {τ τ':St} {K:Kt} {r:List Op1} {d:Option Nat} {D:Bool} {f:Nat} {args:List GV} {v:GV} {rs:List Thg} (h:Ret P f args τ v τ') (hp:Hp τ τ' rs) (k:Ae D P r K (upo env d v) τ'):Z2 D f args P r K env d τ:=by_new h hp.sub k
theorem A6c {md:Bool} {P:Program} {f:Nat} {F:Fn1} {args:List GV} {σ:St} {rs:GV->List Thg} (hF:Fs md P f=some F) (hl:args.length<=F.n)
  (h:vc P F.c (fun e env τ=>Tb e=true/\∃ r,resG env τ F.rs=some r/\Hp σ τ (rs r)) (env0 args) σ):∃ r τ,Ret P f args σ r τ/\Hp σ τ (rs r):=by
 obtain⟨r,τ,h1,h2,h3⟩:=Acp (Post:=fun r τ=>Hp σ τ (rs r)) hF hl (Aq h fun e env τ he=>by
  obtain⟨ho,r,hr,hp⟩:=he
  exact⟨ho,r,hr,hp.sub,hp⟩)
 exact⟨r,τ,h1,h3⟩
@[go_sem] theorem rs_c {env:Env} {σ:St} {a n:Nat} {agg:Bool}:(Rs.c a agg n).ev env σ=ldG agg n σ (env a):=by
 cases h:env a<;>simp[Rs.ev,h,ptrG,ldG]
@[go_sem] theorem st_new {n:Nat} {τ:St} {z off:Nat} {cs:List GV} {x:GV}:stG n (τ++[some (.row z cs)]) (.ptr τ.length off) x=if off+n<=cs.length/\0<n/\x.cells.length=n then some (.tup [],τ++[some (.row z (Al cs off x.cells))]) else none:=by
 simp[stG]
@[go_sem] theorem st_new2 {n:Nat} {τ:St} {z off:Nat} {cs:List GV} {x:GV} {b:Option Blk}:stG n (τ++[some (.row z cs)]++[b]) (.ptr τ.length off) x=if off+n<=cs.length/\0<n/\x.cells.length=n then some (.tup [],τ++[some (.row z (Al cs off x.cells))]++[b]) else none:=by
 simp[stG]
theorem A40 {n:Nat} {τ τ':St} {a x:GV} (h:stG n τ a x=some (.tup [],τ')):τ'.length=τ.length:=by
 unfold stG at h
 repeat' split at h
 all_goals first|cases h;done|(injection h with h;injection h with h1 h2;subst h2;simp)
@[go_sem] theorem Tf {a:Bool} {n:Nat} {τ:St} {z off:Nat} {cs:List GV}:ldG a n (τ++[some (.row z cs)]) (.ptr τ.length off)=(seg cs off n).bind (mkv a):=A7 (by unfold rdB;simp[Blk.cells])
@[go_sem] theorem Kk {a:Bool} {n:Nat} {τ:St} {z off:Nat} {cs:List GV} {b:Option Blk}:ldG a n (τ++[some (.row z cs)]++[b]) (.ptr τ.length off)=(seg cs off n).bind (mkv a):=A7 (by unfold rdB;simp[Blk.cells])
@[go_sem] theorem ld_new3 {a:Bool} {n:Nat} {τ:St} {z off:Nat} {cs:List GV} {b c:Option Blk}:ldG a n (τ++[some (.row z cs)]++[b]++[c]) (.ptr τ.length off)=(seg cs off n).bind (mkv a):=A7 (by unfold rdB;simp[Blk.cells])
@[go_sem] theorem eqb_bool {n a b:Bool}:eqbG n (.bool a) (.bool b)=some (.bool (n ^^ (a==b))):=(rfl)
@[go_sem] theorem len_str {s:ByteArray}:lenG true (.str s)=some (s.size:Int):=(rfl)
theorem pre2 {σ:St} {x y:Option Blk}:σ <+: σ++[x]++[y]:=A0 (pre1 _ _) _
theorem pre3 {σ:St} {x y z:Option Blk}:σ <+: σ++[x]++[y]++[z]:=A0 pre2 _
attribute [go_sem] pre1 pre2 pre3 Option.some.injEq GV.int.injEq GV.bool.injEq GV.str.injEq
attribute [go_sem] decide_true decide_false Int.natCast_add Int.cast_ofNat_Int Int.add_zero Bool.true_eq_false
theorem A9 {cs:List GV} {n:Nat} (h:cs.length=n):(seg cs 0 n).bind (mkv true)=some (.agg cs):=by
 subst h
 simp[seg,mkv]
theorem Ai {cs ds:List GV} {n:Nat} (h:ds.length=n) (hc:cs.length=n):Al cs 0 ds=ds:=by
 simp[Al,h,<-hc]
@[go_sem] theorem ext_0a {c r:List GV}:extG 0 (.tup (.agg c::r))=some (.agg c):=(rfl)
@[go_sem] theorem ext_0i {k:IntKind} {n:Int} {r:List GV}:extG 0 (.tup (.int k n::r))=some (.int k n):=(rfl)
@[go_sem] theorem ext_0s {c:ByteArray} {r:List GV}:extG 0 (.tup (.str c::r))=some (.str c):=(rfl)
@[go_sem] theorem ext_0b {c:Bool} {r:List GV}:extG 0 (.tup (.bool c::r))=some (.bool c):=(rfl)
@[go_sem] theorem ext_1a {w:GV} {c r:List GV}:extG 1 (.tup (w::.agg c::r))=some (.agg c):=(rfl)
@[go_sem] theorem ext_1i {w:GV} {k:IntKind} {n:Int} {r:List GV}:extG 1 (.tup (w::.int k n::r))=some (.int k n):=(rfl)
@[go_sem] theorem ext_1s {w:GV} {c:ByteArray} {r:List GV}:extG 1 (.tup (w::.str c::r))=some (.str c):=(rfl)
@[go_sem] theorem ext_1b {w:GV} {c:Bool} {r:List GV}:extG 1 (.tup (w::.bool c::r))=some (.bool c):=(rfl)
@[go_sem] theorem ext_2i {u w:GV} {k:IntKind} {n:Int} {r:List GV}:extG 2 (.tup (u::w::.int k n::r))=some (.int k n):=(rfl)
@[go_sem] theorem ext_2b {u w:GV} {c:Bool} {r:List GV}:extG 2 (.tup (u::w::.bool c::r))=some (.bool c):=(rfl)
@[go_sem] theorem tup2_if {x y:GV}:tup2 (some x) (some y)=if C7 x&&C7 y then some (.tup [x,y]) else none:=(rfl)
@[go_sem] theorem tup3_if {x y z:GV}:tup3 (some x) (some y) (some z)=if C7 x&&(C7 y&&C7 z) then some (.tup [x,y,z]) else none:=(rfl)
@[go_sem] theorem notTup_int {k:IntKind} {n:Int}:C7 (.int k n)=true:=(rfl)
@[go_sem] theorem notTup_str {s:ByteArray}:C7 (.str s)=true:=(rfl)
@[go_sem] theorem Acz {b:Bool}:C7 (.bool b)=true:=(rfl)
@[go_sem] theorem notTup_agg {cs:List GV}:C7 (.agg cs)=true:=(rfl)
@[go_sem] theorem notTup_nil:C7 .nilS=true:=(rfl)
@[go_sem] theorem notTup_sl {g o n:Nat}:C7 (.sl g o n)=true:=(rfl)
theorem A92 {α:Type} {p:Pl α} (τ:St) {z:Nat} {cs:List GV} (l:List α) {n:Nat} (hz:z=p.z) (hc:cs=p.cells l) (hn:n=l.length):RS p.kd (τ++[some (.row z cs)]) (.sl τ.length 0 n) l:=by
 subst hz hc hn
 exact(((Hp.refl τ).new p.z (p.cells l)).toRow 0 rfl l rfl rfl _ rfl).sl 0 rfl
namespace Hp
theorem rebase {σ0 σ τ:St} {rs:List Thg} (H:Hp σ τ rs) (h:σ0 <+: σ):Hp σ0 τ rs:=by
 obtain⟨h1,fp,h2,h3,h4⟩:=H
 have:=h.length_le
 exact⟨h.trans h1,fp,h2,h3,fun g hg=>by have:=h4 g hg;omega⟩
theorem conv {σ τ:St} {r r':Thg} {rs:List Thg} (H:Hp σ τ (r::rs)) (h:∀ fp,r.P τ fp->r'.P τ fp):Hp σ τ (r'::rs):=by
 obtain⟨a,ha,hn,hb,ht⟩:=H.turn
 exact ht ⟨hn,fun g hg=>.inl hg,Nat.le_refl _,fun _ _ _=>rfl⟩ (h a ha)
theorem app_int {σ τ:St} {rs:List Thg} {v:GV} {l:List Int} (H:Hp σ τ rs) (i:Nat) (hi:rs[i]? =some (ow pI.kd v l)) (x:Int) (hb:(l.length+1)*8<=140737488355328):∃ v' τ',appV 1 8 (τ++[some (.row 1 [.int .i64 x])]) v (.sl τ.length 0 1)=some (v',τ')/\Hp σ τ' (rs.set i (ow pI.kd v' (l++[x]))):=H.app1 i hi x (by decide) hb
theorem apps_int {σ τ:St} {rs:List Thg} {v u:GV} {l k:List Int} (H:Hp σ τ rs) (i:Nat) (hi:rs[i]? =some (ow pI.kd v l)) (hx:RS pI.kd τ u k) (hb:(l.length+k.length)*8<=140737488355328):∃ v' τ',appV 1 8 τ v u=some (v',τ')/\Hp σ τ' (rs.set i (ow pI.kd v' (l++k))):=H.app i hi hx (by decide) hb
theorem nil_int {σ τ:St} {rs:List Thg} (H:Hp σ τ rs):Hp σ (τ++[some (.row 1 [])]) (ow pI.kd (.sl τ.length 0 0) []::rs):=H.newNil pI.kd
theorem app_str {σ τ:St} {rs:List Thg} {v:GV} {l:List ByteArray} (H:Hp σ τ rs) (i:Nat) (hi:rs[i]? =some (ow pS.kd v l)) (x:ByteArray) (hb:(l.length+1)*16<=140737488355328):∃ v' τ',appV 1 16 (τ++[some (.row 1 [.str x])]) v (.sl τ.length 0 1)=some (v',τ')/\Hp σ τ' (rs.set i (ow pS.kd v' (l++[x]))):=H.app1 i hi x (by decide) hb
theorem nil_str {σ τ:St} {rs:List Thg} (H:Hp σ τ rs):Hp σ (τ++[some (.row 1 [])]) (ow pS.kd (.sl τ.length 0 0) []::rs):=H.newNil pS.kd
theorem app_Dot {σ τ:St} {rs:List Thg} {v:GV} {l:List Dot} (H:Hp σ τ rs) (i:Nat) (hi:rs[i]? =some (ow pDot.kd v l)) (x:Dot) (hb:(l.length+1)*16<=140737488355328):∃ v' τ',appV 2 16 (τ++[some (.row 2 [.int .i64 x.rep,.int .i64 x.seq])]) v (.sl τ.length 0 1)=some (v',τ')/\Hp σ τ' (rs.set i (ow pDot.kd v' (l++[x]))):=H.app1 i hi x (by decide) hb
theorem nil_Dot {σ τ:St} {rs:List Thg} (H:Hp σ τ rs):Hp σ (τ++[some (.row 2 [])]) (ow pDot.kd (.sl τ.length 0 0) []::rs):=H.newNil pDot.kd
theorem app_Tally {σ τ:St} {rs:List Thg} {v:GV} {l:List Tally} (H:Hp σ τ rs) (i:Nat) (hi:rs[i]? =some (ow Bi.kd v l)) (x:Tally) (hb:(l.length+1)*32<=140737488355328):∃ v' τ',appV 3 32 (τ++[some (.row 3 [.str x.obj,.int .i64 x.rep,.int .i64 x.sum])]) v (.sl τ.length 0 1)=some (v',τ')/\Hp σ τ' (rs.set i (ow Bi.kd v' (l++[x]))):=H.app1 i hi x (by decide) hb
theorem nil_Tally {σ τ:St} {rs:List Thg} (H:Hp σ τ rs):Hp σ (τ++[some (.row 3 [])]) (ow Bi.kd (.sl τ.length 0 0) []::rs):=H.newNil Bi.kd
theorem app_Live {σ τ:St} {rs:List Thg} {v:GV} {l:List Live} (H:Hp σ τ rs) (i:Nat) (hi:rs[i]? =some (ow Cl.kd v l)) (x:Live) (hb:(l.length+1)*64<=140737488355328):∃ v' τ',appV 6 64 (τ++[some (.row 6 [.bool x.map,.str x.obj,.str x.key,.int .i64 x.val,.int .i64 x.dot.rep,.int .i64 x.dot.seq])]) v (.sl τ.length 0 1)=some (v',τ')/\Hp σ τ' (rs.set i (ow Cl.kd v' (l++[x]))):=H.app1 i hi x (by decide) hb
theorem nil_Live {σ τ:St} {rs:List Thg} (H:Hp σ τ rs):Hp σ (τ++[some (.row 6 [])]) (ow Cl.kd (.sl τ.length 0 0) []::rs):=H.newNil Cl.kd
theorem app_Cell {σ τ:St} {rs:List Thg} {v:GV} {l:List Cell} (H:Hp σ τ rs) (i:Nat) (hi:rs[i]? =some (ow Aj.kd v l)) (x:Cell) (hb:(l.length+1)*72<=140737488355328):∃ v' τ',appV 8 72 (τ++[some (.row 8 [.str x.obj,.int .i64 x.dot.rep,.int .i64 x.dot.seq,.int .i64 x.time,.int .i64 x.ref.rep,.int .i64 x.ref.seq,.int .i64 x.val,.bool x.gone])]) v (.sl τ.length 0 1)=some (v',τ')/\Hp σ τ' (rs.set i (ow Aj.kd v' (l++[x]))):=H.app1 i hi x (by decide) hb
theorem nil_Cell {σ τ:St} {rs:List Thg} (H:Hp σ τ rs):Hp σ (τ++[some (.row 8 [])]) (ow Aj.kd (.sl τ.length 0 0) []::rs):=H.newNil Aj.kd
theorem one {σ τ:St} {r:Thg} {rs:List Thg} (H:Hp σ τ (r::rs)):Hp σ τ [r]:=by
 obtain⟨h,fp,⟨a,b,hr,hs,rfl⟩,hn,hb⟩:=H
 exact⟨h,a,⟨a,[],hr,rfl,by simp⟩,(List.nodup_append.1 hn).1,fun g hg=>hb g (Zab _ hg)⟩
theorem stw {α:Type} {p:Pl α} {σ τ:St} {rs:List Thg} {v:GV} {l:List α} (H:Hp σ τ rs) (i:Nat) (hi:rs[i]? =some (ow p.kd v l)) {j:Nat} (hj:j<l.length) (n:Nat) (x:GV) (y:α) (hx:x.cells=p.enc y) (hn:n=p.z) (hz:0<n):
  ∃ τ',stG n τ (atz p.z v j) x=some (.tup [],τ')/\Hp σ τ' (rs.set i (ow p.kd v (l.set j y))):=by
 subst hn
 have:=H.ste i hi hj p.z 0 x y (by rw[hx,p.len]) hz (by omega) (by rw[hx];unfold Al;rw[List.take_zero,Zah,p.len,List.drop_eq_nil_of_le (by rw[p.len];omega),Zai])
 obtain⟨τ',e,h⟩:=this
 refine⟨τ',?_,h⟩
 rw[<- e]
 cases v<;>rfl
end Hp
theorem Sl.rs {α:Type} {e:Ek α} {k:Kd α} (hz:e.z=k.z) (hb:∀ {σ x cs},e.R σ x cs->k.R σ x cs) {σ:St} {v:GV} {l:List α} (h:Sl e σ v l):RS k σ v l:=by
 rcases h with h|⟨g,off,cs,h1,h2,h3,h4⟩
 ·exact .inl h
 ·refine .inr ⟨g,off,cs,h1,A8z h2,by show off+l.length*k.z<=_;rw[<- hz];exact h3,fun i x hx=> ?_⟩
  show k.R σ x ((cs.drop (off+i*k.z)).take k.z)
  rw[<- hz];exact hb (h4 i x hx)
end Go.Proofs.YtbeoiejnogdkpaaGreat.Sy
