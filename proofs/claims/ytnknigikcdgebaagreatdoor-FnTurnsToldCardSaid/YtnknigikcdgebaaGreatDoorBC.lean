/- Texts of this proof, one behind the other. -/
import Derived.Test.YtnknigikcdgebaaGreatDoorBB
set_option linter.unusedSimpArgs false
set_option linter.unusedVariables false
set_option maxRecDepth 4000
set_option maxHeartbeats 4000000
open List renaming mem_append_right→Zaa,mem_append_left→Zab,prefix_append→Zac,cons_append→Zae,nil_append→Zaf,append_nil→Zai
open Option renaming bind_some→Zad,map_some→Zag
open Bool renaming eq_iff_iff→Zah
namespace Go.Proofs.YtnknigikcdgebaaGreatDoor.Sy
open Go Go.RowKit
@[go_sem] theorem seg_zero {cs:List GV}:seg cs 0 0=some []:=by simp[seg]
@[go_sem] theorem seg_take {c:GV} {cs:List GV} {m:Nat}:seg (c::cs) 0 (m+1)=(seg cs 0 m).map (c::·):=by
 unfold seg
 by_cases h:m<=cs.length
 ·rw[if_pos (by simp;omega),if_pos (by omega)];simp
 ·rw[if_neg (by simp;omega),if_neg (by omega)];rfl
@[go_sem] theorem seg_drop {c:GV} {cs:List GV} {n m:Nat}:seg (c::cs) (n+1) m=seg cs n m:=by
 unfold seg
 by_cases h:n+m<=cs.length
 ·rw[if_pos (by simp;omega),if_pos h];simp
 ·rw[if_neg (by simp;omega),if_neg h]
@[go_sem] theorem mkv_one {c:GV}:mkv false [c]=some c:=(rfl)
@[go_sem] theorem mkv_all {cs:List GV}:mkv true cs=some (.agg cs):=(rfl)
@[go_sem] theorem B4 {cs:List GV}:Ar cs 0 []=cs:=by simp[Ar]
@[go_sem] theorem Au {c x:GV} {cs xs:List GV}:Ar (c::cs) 0 (x::xs)=x::Ar cs 0 xs:=by simp[Ar]
@[go_sem] theorem Av {c:GV} {cs xs:List GV} {n:Nat}:Ar (c::cs) (n+1) xs=c::Ar cs n xs:=by
 simp only[Ar,List.take_succ_cons,Zae,List.cons.injEq,true_and]
 congr 1
 rw[show n+1+xs.length=(n+xs.length)+1 by omega,List.drop_succ_cons]
@[go_sem] theorem fillG_cons {cs:List GV} {off size:Nat} {v:GV} {r:List (Nat×Nat×GV)}:Id cs ((off,size,v)::r)=if v.cells.length=size/\0<size/\off+size<=cs.length then Id (Ar cs off v.cells) r else none:=(rfl)
@[go_sem] theorem cells_int {k:IntKind} {n:Int}:(GV.int k n).cells=[.int k n]:=(rfl)
@[go_sem] theorem cells_str {s:ByteArray}:(GV.str s).cells=[.str s]:=(rfl)
@[go_sem] theorem cells_bool {b:Bool}:(GV.bool b).cells=[.bool b]:=(rfl)
@[go_sem] theorem cells_agg {cs:List GV}:(GV.agg cs).cells=cs:=(rfl)
attribute [go_sem] List.length_cons List.length_nil Nat.zero_add Nat.reduceAdd Nat.reduceLeDiff Nat.reduceLT Nat.lt_add_one Nat.le_refl Nat.add_zero Zae Zaf
theorem A3 {a:Bool} {n g off:Nat} {N:St} {cs:List GV} (h:rdB N g=some cs):ldG a n N (.ptr g off)=(seg cs off n).bind (mkv a):=by simp only[ldG,h,Zad]
section
variable {Y:Type} {d:En Y} {p:Pl Y} {U:St} {v:GV} {l:List Y}
theorem RdN.cell (h:RdN d U v l):v.cells=[v]:=by
 rcases h with⟨_,rfl|rfl⟩|⟨g,off,cs,rfl,_⟩<;>rfl
theorem RdN.notup (h:RdN d U v l):Al v=true:=by
 rcases h with⟨_,rfl|rfl⟩|⟨g,off,cs,rfl,_⟩<;>rfl
theorem RdN.fad (h:RdN d U v l) {i:Nat} (hi:i<l.length) {z k:Nat}:fadG k (atz z v i)=some (fld k (atz z v i)):=by
 rcases h with⟨rfl,_⟩|⟨g,off,cs,rfl,_⟩
 ·simp at hi
 ·rfl
theorem RdN.fad2 (h:RdN d U v l) {i:Nat} (hi:i<l.length) {z k m:Nat}:fadG k (fld m (atz z v i))=some (fld (m+k) (atz z v i)):=by
 rcases h with⟨rfl,_⟩|⟨g,off,cs,rfl,_⟩
 ·simp at hi
 ·simp only[fld,atz,fadG,Nat.add_assoc]
theorem RdN.ldf (h:RdN p.kd.en U v l) {i:Nat} (hi:i<l.length) {k n:Nat} {a:Bool} (hk:k+n<=p.z):ldG a n U (fld k (atz p.z v i))=(seg (p.enc l[i]) k n).bind (mkv a):=by
 obtain⟨cs,hc,hs⟩:=RdN.cells h hi
 have hc:cs=p.enc l[i]:=hc
 subst hc
 have e:seg (p.enc l[i]) k n=some (((p.enc l[i]).drop k).take n):=by unfold seg;rw[if_pos (by rw[p.len];exact hk)]
 rw[e]
 exact hs k n _ e a
theorem RdN.ld (h:RdN p.kd.en U v l) {i:Nat} (hi:i<l.length) {n:Nat} {a:Bool} (hk:n<=p.z):ldG a n U (atz p.z v i)=(seg (p.enc l[i]) 0 n).bind (mkv a):=by
 have:=h.ldf hi (k:=0) (n:=n) (a:=a) (by omega)
 rw[<- this]
 rcases h with⟨rfl,_⟩|⟨g,off,cs,rfl,_⟩
 ·simp at hi
 ·rfl
end
structure Dot where
 rep:Int
 seq:Int
instance:DecidableEq Dot:=fun a b=>if h:a.rep=b.rep/\a.seq=b.seq then isTrue (by cases a;cases b;simp only at h;obtain⟨rfl,rfl⟩:=h;rfl) else isFalse (fun e=>h (by subst e;exact⟨rfl,rfl⟩))
theorem Dot.eq_iff {a b:Dot}:a=b↔a.rep=b.rep/\a.seq=b.seq:=⟨fun h=>by subst h;exact⟨rfl,rfl⟩,fun h=>by cases a;cases b;simp only at h;obtain⟨rfl,rfl⟩:=h;rfl⟩
def pDot:Pl Dot:=⟨2,fun x=>[.int .i64 x.rep,.int .i64 x.seq],fun _=>rfl⟩
@[go_sem] theorem eqs_Dot {n:Bool} {a0:Int} {a1:Int} {b0:Int} {b1:Int}:eqsG n [.i .i64,.i .i64] (.agg [.int .i64 a0,.int .i64 a1]) (.agg [.int .i64 b0,.int .i64 b1])=some (.bool (n ^^ decide ((⟨a0,a1⟩:Dot)=⟨b0,b1⟩))):=by
 simp only[eqsG,Dg,scEq,and_self,if_true,Zad,Zag,Hq]
 congr 3;rw[Zah];simp[and_assoc]
@[go_sem] theorem eta_Dot {x:Dot}:(⟨x.rep,x.seq⟩:Dot)=x:=(rfl)
theorem Am7 {U:St} {v:GV} {l:List Dot} (h:RS pDot.kd U v l) {i:Nat} (hi:i<l.length):iadG 2 v (some i)=some (atz 2 v i)/\(∀ k,fadG k (atz 2 v i)=some (fld k (atz 2 v i)))/\(∀ k m,fadG k (fld m (atz 2 v i))=some (fld (m+k) (atz 2 v i)))/\ldG false 1 U (fld 0 (atz 2 v i))=some (.int .i64 l[i].rep)/\ldG false 1 U (fld 1 (atz 2 v i))=some (.int .i64 l[i].seq)/\ldG true 2 U (atz 2 v i)=some (.agg [.int .i64 l[i].rep,.int .i64 l[i].seq]):=
 ⟨RdN.iad h hi,fun k=>RdN.fad h hi,fun k m=>RdN.fad2 h hi,RdN.ldf h hi (k:=0) (by decide),RdN.ldf h hi (k:=1) (by decide),RdN.ld h hi (by decide)⟩
structure Tally where
 obj:ByteArray
 rep:Int
 sum:Int
instance:DecidableEq Tally:=fun a b=>if h:a.obj=b.obj/\a.rep=b.rep/\a.sum=b.sum then isTrue (by cases a;cases b;simp only at h;obtain⟨rfl,rfl,rfl⟩:=h;rfl) else isFalse (fun e=>h (by subst e;exact⟨rfl,rfl,rfl⟩))
theorem Tally.eq_iff {a b:Tally}:a=b↔a.obj=b.obj/\a.rep=b.rep/\a.sum=b.sum:=⟨fun h=>by subst h;exact⟨rfl,rfl,rfl⟩,fun h=>by cases a;cases b;simp only at h;obtain⟨rfl,rfl,rfl⟩:=h;rfl⟩
def Ba:Pl Tally:=⟨3,fun x=>[.str x.obj,.int .i64 x.rep,.int .i64 x.sum],fun _=>rfl⟩
theorem Ad {U:St} {v:GV} {l:List Tally} (h:RS Ba.kd U v l) {i:Nat} (hi:i<l.length):iadG 3 v (some i)=some (atz 3 v i)/\(∀ k,fadG k (atz 3 v i)=some (fld k (atz 3 v i)))/\(∀ k m,fadG k (fld m (atz 3 v i))=some (fld (m+k) (atz 3 v i)))/\ldG false 1 U (fld 0 (atz 3 v i))=some (.str l[i].obj)/\ldG false 1 U (fld 1 (atz 3 v i))=some (.int .i64 l[i].rep)/\ldG false 1 U (fld 2 (atz 3 v i))=some (.int .i64 l[i].sum)/\ldG true 3 U (atz 3 v i)=some (.agg [.str l[i].obj,.int .i64 l[i].rep,.int .i64 l[i].sum]):=
 ⟨RdN.iad h hi,fun k=>RdN.fad h hi,fun k m=>RdN.fad2 h hi,RdN.ldf h hi (k:=0) (by decide),RdN.ldf h hi (k:=1) (by decide),RdN.ldf h hi (k:=2) (by decide),RdN.ld h hi (by decide)⟩
structure Live where
 map:Bool
 obj:ByteArray
 key:ByteArray
 val:Int
 dot:Dot
instance:DecidableEq Live:=fun a b=>if h:a.map=b.map/\a.obj=b.obj/\a.key=b.key/\a.val=b.val/\a.dot=b.dot then isTrue (by cases a;cases b;simp only at h;obtain⟨rfl,rfl,rfl,rfl,rfl⟩:=h;rfl) else isFalse (fun e=>h (by subst e;exact⟨rfl,rfl,rfl,rfl,rfl⟩))
theorem Live.eq_iff {a b:Live}:a=b↔a.map=b.map/\a.obj=b.obj/\a.key=b.key/\a.val=b.val/\a.dot=b.dot:=⟨fun h=>by subst h;exact⟨rfl,rfl,rfl,rfl,rfl⟩,fun h=>by cases a;cases b;simp only at h;obtain⟨rfl,rfl,rfl,rfl,rfl⟩:=h;rfl⟩
def Bp:Pl Live:=⟨6,fun x=>[.bool x.map,.str x.obj,.str x.key,.int .i64 x.val,.int .i64 x.dot.rep,.int .i64 x.dot.seq],fun _=>rfl⟩
theorem A7 {U:St} {v:GV} {l:List Live} (h:RS Bp.kd U v l) {i:Nat} (hi:i<l.length):iadG 6 v (some i)=some (atz 6 v i)/\(∀ k,fadG k (atz 6 v i)=some (fld k (atz 6 v i)))/\(∀ k m,fadG k (fld m (atz 6 v i))=some (fld (m+k) (atz 6 v i)))/\ldG false 1 U (fld 0 (atz 6 v i))=some (.bool l[i].map)/\ldG false 1 U (fld 1 (atz 6 v i))=some (.str l[i].obj)/\ldG false 1 U (fld 2 (atz 6 v i))=some (.str l[i].key)/\ldG false 1 U (fld 3 (atz 6 v i))=some (.int .i64 l[i].val)/\ldG false 1 U (fld 4 (atz 6 v i))=some (.int .i64 l[i].dot.rep)/\ldG false 1 U (fld 5 (atz 6 v i))=some (.int .i64 l[i].dot.seq)/\ldG true 2 U (fld 4 (atz 6 v i))=some (.agg [.int .i64 l[i].dot.rep,.int .i64 l[i].dot.seq])/\ldG true 6 U (atz 6 v i)=some (.agg [.bool l[i].map,.str l[i].obj,.str l[i].key,.int .i64 l[i].val,.int .i64 l[i].dot.rep,.int .i64 l[i].dot.seq]):=
 ⟨RdN.iad h hi,fun k=>RdN.fad h hi,fun k m=>RdN.fad2 h hi,RdN.ldf h hi (k:=0) (by decide),RdN.ldf h hi (k:=1) (by decide),RdN.ldf h hi (k:=2) (by decide),RdN.ldf h hi (k:=3) (by decide),RdN.ldf h hi (k:=4) (by decide),RdN.ldf h hi (k:=5) (by decide),RdN.ldf h hi (k:=4) (by decide),RdN.ld h hi (by decide)⟩
structure Cell where
 obj:ByteArray
 dot:Dot
 time:Int
 ref:Dot
 val:Int
 gone:Bool
instance:DecidableEq Cell:=fun a b=>if h:a.obj=b.obj/\a.dot=b.dot/\a.time=b.time/\a.ref=b.ref/\a.val=b.val/\a.gone=b.gone then isTrue (by cases a;cases b;simp only at h;obtain⟨rfl,rfl,rfl,rfl,rfl,rfl⟩:=h;rfl) else isFalse (fun e=>h (by subst e;exact⟨rfl,rfl,rfl,rfl,rfl,rfl⟩))
theorem Cell.eq_iff {a b:Cell}:a=b↔a.obj=b.obj/\a.dot=b.dot/\a.time=b.time/\a.ref=b.ref/\a.val=b.val/\a.gone=b.gone:=⟨fun h=>by subst h;exact⟨rfl,rfl,rfl,rfl,rfl,rfl⟩,fun h=>by cases a;cases b;simp only at h;obtain⟨rfl,rfl,rfl,rfl,rfl,rfl⟩:=h;rfl⟩
def Ak:Pl Cell:=⟨8,fun x=>[.str x.obj,.int .i64 x.dot.rep,.int .i64 x.dot.seq,.int .i64 x.time,.int .i64 x.ref.rep,.int .i64 x.ref.seq,.int .i64 x.val,.bool x.gone],fun _=>rfl⟩
theorem Ag9 {x:Cell}:Ak.enc x=[.str x.obj,.int .i64 x.dot.rep,.int .i64 x.dot.seq,.int .i64 x.time,.int .i64 x.ref.rep,.int .i64 x.ref.seq,.int .i64 x.val,.bool x.gone]:=(rfl)
theorem A8 {U:St} {v:GV} {l:List Cell} (h:RS Ak.kd U v l) {i:Nat} (hi:i<l.length):iadG 8 v (some i)=some (atz 8 v i)/\(∀ k,fadG k (atz 8 v i)=some (fld k (atz 8 v i)))/\(∀ k m,fadG k (fld m (atz 8 v i))=some (fld (m+k) (atz 8 v i)))/\ldG false 1 U (fld 0 (atz 8 v i))=some (.str l[i].obj)/\ldG false 1 U (fld 1 (atz 8 v i))=some (.int .i64 l[i].dot.rep)/\ldG false 1 U (fld 2 (atz 8 v i))=some (.int .i64 l[i].dot.seq)/\ldG false 1 U (fld 3 (atz 8 v i))=some (.int .i64 l[i].time)/\ldG false 1 U (fld 4 (atz 8 v i))=some (.int .i64 l[i].ref.rep)/\ldG false 1 U (fld 5 (atz 8 v i))=some (.int .i64 l[i].ref.seq)/\ldG false 1 U (fld 6 (atz 8 v i))=some (.int .i64 l[i].val)/\ldG false 1 U (fld 7 (atz 8 v i))=some (.bool l[i].gone)/\ldG true 2 U (fld 1 (atz 8 v i))=some (.agg [.int .i64 l[i].dot.rep,.int .i64 l[i].dot.seq])/\ldG true 2 U (fld 4 (atz 8 v i))=some (.agg [.int .i64 l[i].ref.rep,.int .i64 l[i].ref.seq])/\ldG true 8 U (atz 8 v i)=some (.agg [.str l[i].obj,.int .i64 l[i].dot.rep,.int .i64 l[i].dot.seq,.int .i64 l[i].time,.int .i64 l[i].ref.rep,.int .i64 l[i].ref.seq,.int .i64 l[i].val,.bool l[i].gone]):=
 ⟨RdN.iad h hi,fun k=>RdN.fad h hi,fun k m=>RdN.fad2 h hi,RdN.ldf h hi (k:=0) (by decide),RdN.ldf h hi (k:=1) (by decide),RdN.ldf h hi (k:=2) (by decide),RdN.ldf h hi (k:=3) (by decide),RdN.ldf h hi (k:=4) (by decide),RdN.ldf h hi (k:=5) (by decide),RdN.ldf h hi (k:=6) (by decide),RdN.ldf h hi (k:=7) (by decide),RdN.ldf h hi (k:=1) (by decide),RdN.ldf h hi (k:=4) (by decide),RdN.ld h hi (by decide)⟩
structure Edit where
 kind:Int
 obj:ByteArray
 key:ByteArray
 val:Int
 place:Int
instance:DecidableEq Edit:=fun a b=>if h:a.kind=b.kind/\a.obj=b.obj/\a.key=b.key/\a.val=b.val/\a.place=b.place then isTrue (by cases a;cases b;simp only at h;obtain⟨rfl,rfl,rfl,rfl,rfl⟩:=h;rfl) else isFalse (fun e=>h (by subst e;exact⟨rfl,rfl,rfl,rfl,rfl⟩))
structure Watch where
 kind:Int
 obj:ByteArray
 key:ByteArray
instance:DecidableEq Watch:=fun a b=>if h:a.kind=b.kind/\a.obj=b.obj/\a.key=b.key then isTrue (by cases a;cases b;simp only at h;obtain⟨rfl,rfl,rfl⟩:=h;rfl) else isFalse (fun e=>h (by subst e;exact⟨rfl,rfl,rfl⟩))
def Lp:Pl Watch:=⟨3,fun x=>[.int .i64 x.kind,.str x.obj,.str x.key],fun _=>rfl⟩
theorem Aja {x:Watch}:Lp.enc x=[.int .i64 x.kind,.str x.obj,.str x.key]:=(rfl)
@[go_sem] theorem eqs_Watch {n:Bool} {a0:Int} {a1:ByteArray} {a2:ByteArray} {b0:Int} {b1:ByteArray} {b2:ByteArray}:eqsG n [.i .i64,.s,.s] (.agg [.int .i64 a0,.str a1,.str a2]) (.agg [.int .i64 b0,.str b1,.str b2])=some (.bool (n ^^ decide ((⟨a0,a1,a2⟩:Watch)=⟨b0,b1,b2⟩))):=by
 simp only[eqsG,Dg,scEq,and_self,if_true,Zad,Zag,Hq]
 congr 3;rw[Zah];simp[and_assoc]
@[go_sem] theorem eta_Watch {x:Watch}:(⟨x.kind,x.obj,x.key⟩:Watch)=x:=(rfl)
theorem Aga {U:St} {v:GV} {l:List Watch} (h:RS Lp.kd U v l) {i:Nat} (hi:i<l.length):iadG 3 v (some i)=some (atz 3 v i)/\(∀ k,fadG k (atz 3 v i)=some (fld k (atz 3 v i)))/\(∀ k m,fadG k (fld m (atz 3 v i))=some (fld (m+k) (atz 3 v i)))/\ldG false 1 U (fld 0 (atz 3 v i))=some (.int .i64 l[i].kind)/\ldG false 1 U (fld 1 (atz 3 v i))=some (.str l[i].obj)/\ldG false 1 U (fld 2 (atz 3 v i))=some (.str l[i].key)/\ldG true 3 U (atz 3 v i)=some (.agg [.int .i64 l[i].kind,.str l[i].obj,.str l[i].key]):=
 ⟨RdN.iad h hi,fun k=>RdN.fad h hi,fun k m=>RdN.fad2 h hi,RdN.ldf h hi (k:=0) (by decide),RdN.ldf h hi (k:=1) (by decide),RdN.ldf h hi (k:=2) (by decide),RdN.ld h hi (by decide)⟩
structure Clash where
 obj:ByteArray
 key:ByteArray
instance:DecidableEq Clash:=fun a b=>if h:a.obj=b.obj/\a.key=b.key then isTrue (by cases a;cases b;simp only at h;obtain⟨rfl,rfl⟩:=h;rfl) else isFalse (fun e=>h (by subst e;exact⟨rfl,rfl⟩))
structure File where
 text:ByteArray
 synced:Int
instance:DecidableEq File:=fun a b=>if h:a.text=b.text/\a.synced=b.synced then isTrue (by cases a;cases b;simp only at h;obtain⟨rfl,rfl⟩:=h;rfl) else isFalse (fun e=>h (by subst e;exact⟨rfl,rfl⟩))
structure Letter where
 to:Int
 text:ByteArray
instance:DecidableEq Letter:=fun a b=>if h:a.to=b.to/\a.text=b.text then isTrue (by cases a;cases b;simp only at h;obtain⟨rfl,rfl⟩:=h;rfl) else isFalse (fun e=>h (by subst e;exact⟨rfl,rfl⟩))
structure Event where
 kind:Int
 at_:Int
 num:Int
 edit:Edit
instance:DecidableEq Event:=fun a b=>if h:a.kind=b.kind/\a.at_=b.at_/\a.num=b.num/\a.edit=b.edit then isTrue (by cases a;cases b;simp only at h;obtain⟨rfl,rfl,rfl,rfl⟩:=h;rfl) else isFalse (fun e=>h (by subst e;exact⟨rfl,rfl,rfl,rfl⟩))
theorem Cx {U:St} {v:GV} {l:List Int} (h:RS pI.kd U v l) {i:Nat} (hi:i<l.length):iadG 1 v (some i)=some (atz 1 v i)/\ldG false 1 U (atz 1 v i)=some (.int .i64 l[i]):=⟨RdN.iad h hi,RdN.ld h hi (by decide)⟩
theorem Ih {U:St} {v:GV} {l:List ByteArray} (h:RS pS.kd U v l) {i:Nat} (hi:i<l.length):iadG 1 v (some i)=some (atz 1 v i)/\ldG false 1 U (atz 1 v i)=some (.str l[i]):=⟨RdN.iad h hi,RdN.ld h hi (by decide)⟩
structure Act where
 dot:Dot
 time:Int
 knew:List Int
 kind:Int
 obj:ByteArray
 key:ByteArray
 val:Int
 ref:Dot
def kAct:Kd Act where
 z:=10
 R U x cs:=∃ v2,cs=(.int .i64 x.dot.rep)::(.int .i64 x.dot.seq)::(.int .i64 x.time)::v2::(.int .i64 x.kind)::(.str x.obj)::(.str x.key)::(.int .i64 x.val)::(.int .i64 x.ref.rep)::(.int .i64 x.ref.seq)::[]/\RS pI.kd U v2 x.knew
 O U x cs fp:=∃ v2 f2,cs=(.int .i64 x.dot.rep)::(.int .i64 x.dot.seq)::(.int .i64 x.time)::v2::(.int .i64 x.kind)::(.str x.obj)::(.str x.key)::(.int .i64 x.val)::(.int .i64 x.ref.rep)::(.int .i64 x.ref.seq)::[]/\OS pI.kd U x.knew v2 f2/\fp=f2
 len:=by
  rintro U x cs ⟨v2,rfl,h0⟩
  simp[]
 pre:=by
  rintro U N x cs ⟨v2,rfl,h0⟩ hp
  exact⟨_,rfl,h0.pre hp⟩
 rd:=by
  rintro U x cs fp ⟨v2,f2,rfl,h0,rfl⟩
  exact⟨_,rfl,h0.rd⟩
 loc:=by
  rintro U N x cs fp ⟨v2,f2,rfl,h0,rfl⟩ hf
  exact⟨_,_,rfl,h0.loc (fun g hg=>hf g hg),rfl⟩
structure State where
 know:List Int
 tallies:List Tally
 lives:List Live
 cells:List Cell
def A4:Kd State where
 z:=4
 R U x cs:=∃ v0 v1 v2 v3,cs=v0::v1::v2::v3::[]/\RS pI.kd U v0 x.know/\RS Ba.kd U v1 x.tallies/\RS Bp.kd U v2 x.lives/\RS Ak.kd U v3 x.cells
 O U x cs fp:=∃ v0 v1 v2 v3 f0 f1 f2 f3,cs=v0::v1::v2::v3::[]/\OS pI.kd U x.know v0 f0/\OS Ba.kd U x.tallies v1 f1/\OS Bp.kd U x.lives v2 f2/\OS Ak.kd U x.cells v3 f3/\fp=f0++(f1++(f2++(f3)))
 len:=by
  rintro U x cs ⟨v0,v1,v2,v3,rfl,h0,h1,h2,h3⟩
  simp[]
 pre:=by
  rintro U N x cs ⟨v0,v1,v2,v3,rfl,h0,h1,h2,h3⟩ hp
  exact⟨_,_,_,_,rfl,h0.pre hp,h1.pre hp,h2.pre hp,h3.pre hp⟩
 rd:=by
  rintro U x cs fp ⟨v0,v1,v2,v3,f0,f1,f2,f3,rfl,h0,h1,h2,h3,rfl⟩
  exact⟨_,_,_,_,rfl,h0.rd,h1.rd,h2.rd,h3.rd⟩
 loc:=by
  rintro U N x cs fp ⟨v0,v1,v2,v3,f0,f1,f2,f3,rfl,h0,h1,h2,h3,rfl⟩ hf
  exact⟨_,_,_,_,_,_,_,_,rfl,h0.loc (fun g hg=>hf g (Zab _ hg)),h1.loc (fun g hg=>hf g (Zaa _ (Zab _ hg))),h2.loc (fun g hg=>hf g (Zaa _ (Zaa _ (Zab _ hg)))),h3.loc (fun g hg=>hf g (Zaa _ (Zaa _ (Zaa _ hg)))),rfl⟩
structure Delta where
 base:List Int
 know:List Int
 tallies:List Tally
 lives:List Live
 dead:List Dot
 cells:List Cell
structure Unit_ where
 batch:Bool
 act:Act
 delta:Delta
structure Log where
 rep:Int
 time:Int
 state:State
 units:List Unit_
 waits:List Unit_
structure Commit where
 id:Dot
 ups:List Int
 state:State
structure Graph where
 commits:List Commit
 head:Int
structure Replica where
 way:Int
 log:Log
 graph:Graph
 file:File
 out:List Unit_
structure World_ where
 replicas:List Replica
 net:List Letter
 codes:List Int
 synced:List (List Int)
structure Script where
 ways:List Int
 events:List Event
 calm:Bool
theorem Bk {P:Program} {a:Cd} {Q:Ex->Env->St->Prop} {env:Env} {U:St} (n ri:Nat) (I:Nat->Env->St->Prop) (hr:env ri=gi 0) (h0:I 0 env U)
  (hs:∀ i env U,i<n->env ri=gi i->decide ((i:Int)<n)=true->I i env U->vc P a (fun e env' U'=>match e with| .nxt=>env' ri=gi ((i:Int)+1)/\I (i+1) env' U'|e=>Q e env' U') env U)
  (he:∀ env U,env ri=gi n->decide ((n:Int)<n)=false->I n env U->vc P a (fun e env' U'=>match e with| .nxt=>False|e=>Q e env' U') env U):vc P (.lop a) Q env U:=by
 refine Oy (fun k env U=>∃ i:Nat,k=n - i/\i<=n/\env ri=gi i/\I i env U) n ⟨0,rfl,Nat.zero_le _,hr,h0⟩ ?_
 rintro k env U ⟨i,rfl,hi,h1,h2⟩
 rcases Nat.lt_or_ge i n with hlt|hge
 ·refine B7 (hs i env U hlt h1 (by simp;omega) h2) fun e env' U' he=> ?_
  cases e with
  |nxt=>
   obtain⟨h3,h4⟩:=he
   exact⟨n - (i+1),by omega,i+1,rfl,hlt,h3,h4⟩
  |ext j=>exact he
  |ret=>exact he
 ·obtain rfl:i=n:=by omega
  refine B7 (he env U h1 (by simp) h2) fun e env' U' he=> ?_
  cases e with
  |nxt=>exact he.elim
  |ext j=>exact he
  |ret=>exact he
theorem C4 {P:Program} {a:Cd} {Q:Ex->Env->St->Prop} {env:Env} {U:St} (I:Nat->Env->St->Prop) (n:Nat) (h0:I n env U)
  (hs:∀ J:Nat->Env->St->Prop,(∀ k env U,I k env U->J k env U)->∀ k env U,I k env U->vc P a (fun e env' U'=>match e with| .nxt=>∃ k',k'<k/\J k' env' U'|e=>Q e env' U') env U):vc P (.lop a) Q env U:=Oy I n h0 (hs I fun _ _ _ h=>h)
theorem Ti {P:Program} {a:Cd} {Q:Ex->Env->St->Prop} {env:Env} {U:St} (n ri:Nat) (I:Nat->Env->St->Prop) (hr:env ri=gi 0) (h0:I 0 env U)
  (hs:∀ J:Nat->Env->St->Prop,(∀ i env U,I i env U->J i env U)->∀ i env U,i<n->env ri=gi i->decide ((i:Int)<n)=true->I i env U->vc P a (fun e env' U'=>match e with| .nxt=>env' ri=gi ((i:Int)+1)/\J (i+1) env' U'|e=>Q e env' U') env U)
  (he:∀ env U,env ri=gi n->decide ((n:Int)<n)=false->I n env U->vc P a (fun e env' U'=>match e with| .nxt=>False|e=>Q e env' U') env U):vc P (.lop a) Q env U:=Bk n ri I hr h0 (hs I fun _ _ _ h=>h) he
theorem Dd {U N:St} {x:Option Blk} (h:U++[x] <+: N):U <+: N:=(Zac _ _).trans h
theorem M4 {U N:St} {z:Nat} {cs:List GV} (h:U++[some (.row z cs)] <+: N):rdB N U.length=some cs:=Aj h (by unfold rdB;simp[Blk.cells])
theorem Tj {U:St} {g:Nat} {cs:List GV} (h:rdB U g=some cs) (r:St):rdB (U++r) g=some cs:=Aj (Zac _ _) h
theorem pre1 (U:St) (x:Option Blk):U <+: U++[x]:=Zac _ _
theorem A7w {U N:St} {x y:Option Blk} (h:U++[x]++[y] <+: N):U <+: N:=Dd (Dd h)
theorem A7x {U N:St} {z:Nat} {cs:List GV} {y:Option Blk} (h:U++[some (.row z cs)]++[y] <+: N):rdB N U.length=some cs:=M4 (Dd h)
attribute [go_sem] Bool.true_xor Bool.false_xor Bi Nat.reduceEqDiff Int.reduceEq Int.reduceNeg Zai
attribute [go_sem ↓] reduceIte
theorem RdN.cellsN {Y:Type} {d:Kd Y} {N:St} {v:GV} {l:List Y} (h:RS d N v l) {i:Nat} (hi:i<l.length):∃ cs,(iadG d.z v (some i)=some (atz d.z v i)/\(∀ k,fadG k (atz d.z v i)=some (fld k (atz d.z v i)))/\(∀ k m,fadG k (fld m (atz d.z v i))=some (fld (m+k) (atz d.z v i)))/\ldG true d.z N (atz d.z v i)=some (.agg cs)/\∀ k n a,k+n<=d.z->ldG a n N (fld k (atz d.z v i))=(seg cs k n).bind (mkv a))/\d.R N l[i] cs:=by
 obtain⟨cs,hr,hs⟩:=RdN.cells h hi
 have hl:=d.len hr
 have h1:=hs 0 d.z cs (by simp[seg,hl];exact List.take_of_length_le (by omega)) true
 refine⟨cs,⟨RdN.iad h hi,fun k=>RdN.fad h hi,fun k m=>RdN.fad2 h hi,?_,fun k n a hk=> ?_⟩,hr⟩
 ·have h2:mkv true cs=some (.agg cs):=rfl
  rw[<- h2,<-h1]
  rcases h with⟨rfl,_⟩|⟨g,off,cs,rfl,_⟩
  ·simp at hi
  ·rfl
 ·have e:seg cs k n=some ((cs.drop k).take n):=by unfold seg;rw[if_pos (by omega)]
  rw[e];exact hs k n _ e a
theorem Ck {P:Program} {env:Env} {N N':St} {K:Kt} {r:List Op1} {d:Option Nat} {D:Bool} {f:Nat} {args:List GV} {v:GV} {rs:List Thg} (h:Ret P f args N v N') (hp:Hp N N' rs) (k:Af D P r K (upo env d v) N'):A7u D f args P r K env d N:=by_new h hp.sub k
theorem A56 {md:Bool} {P:Program} {f:Nat} {F:Fn1} {args:List GV} {U:St} {rs:GV->List Thg} (hF:E4 md P f=some F) (hl:args.length<=F.n)
  (h:vc P F.c (fun e env N=>A02 e=true/\∃ r,resG env N F.rs=some r/\Hp U N (rs r)) (env0 args) U):∃ r N,Ret P f args U r N/\Hp U N (rs r):=by
 obtain⟨r,N,h1,h2,h3⟩:=Aj5 (Post:=fun r N=>Hp U N (rs r)) hF hl (B7 h fun e env N he=>by
  obtain⟨ho,r,hr,hp⟩:=he
  exact⟨ho,r,hr,hp.sub,hp⟩)
 exact⟨r,N,h1,h3⟩
@[go_sem] theorem rs_c {env:Env} {U:St} {a n:Nat} {agg:Bool}:(Rs.c a agg n).ev env U=ldG agg n U (env a):=by
 cases h:env a<;>simp[Rs.ev,h,ptrG,ldG]
@[go_sem] theorem st_new {n:Nat} {N:St} {z off:Nat} {cs:List GV} {x:GV}:stG n (N++[some (.row z cs)]) (.ptr N.length off) x=if off+n<=cs.length/\0<n/\x.cells.length=n then some (.tup [],N++[some (.row z (Ar cs off x.cells))]) else none:=by
 simp[stG]
@[go_sem] theorem st_new2 {n:Nat} {N:St} {z off:Nat} {cs:List GV} {x:GV} {b:Option Blk}:stG n (N++[some (.row z cs)]++[b]) (.ptr N.length off) x=if off+n<=cs.length/\0<n/\x.cells.length=n then some (.tup [],N++[some (.row z (Ar cs off x.cells))]++[b]) else none:=by
 simp[stG]
theorem Ady {n:Nat} {N N':St} {a x:GV} (h:stG n N a x=some (.tup [],N')):N'.length=N.length:=by
 unfold stG at h
 repeat' split at h
 all_goals first|cases h;done|(injection h with h;injection h with h1 h2;subst h2;simp)
@[go_sem] theorem Oz {a:Bool} {n:Nat} {N:St} {z off:Nat} {cs:List GV}:ldG a n (N++[some (.row z cs)]) (.ptr N.length off)=(seg cs off n).bind (mkv a):=A3 (by unfold rdB;simp[Blk.cells])
@[go_sem] theorem I5 {a:Bool} {n:Nat} {N:St} {z off:Nat} {cs:List GV} {b:Option Blk}:ldG a n (N++[some (.row z cs)]++[b]) (.ptr N.length off)=(seg cs off n).bind (mkv a):=A3 (by unfold rdB;simp[Blk.cells])
@[go_sem] theorem ld_new3 {a:Bool} {n:Nat} {N:St} {z off:Nat} {cs:List GV} {b c:Option Blk}:ldG a n (N++[some (.row z cs)]++[b]++[c]) (.ptr N.length off)=(seg cs off n).bind (mkv a):=A3 (by unfold rdB;simp[Blk.cells])
@[go_sem] theorem eqb_bool {n a b:Bool}:eqbG n (.bool a) (.bool b)=some (.bool (n ^^ (a==b))):=(rfl)
@[go_sem] theorem len_str {s:ByteArray}:lenG true (.str s)=some (s.size:Int):=(rfl)
theorem pre2 {U:St} {x y:Option Blk}:U <+: U++[x]++[y]:=A0 (pre1 _ _) _
theorem pre3 {U:St} {x y z:Option Blk}:U <+: U++[x]++[y]++[z]:=A0 pre2 _
attribute [go_sem] pre1 pre2 pre3 Option.some.injEq GV.int.injEq GV.bool.injEq GV.str.injEq
attribute [go_sem] decide_true decide_false Int.natCast_add Int.cast_ofNat_Int Int.add_zero Bool.true_eq_false
theorem A2 {cs:List GV} {n:Nat} (h:cs.length=n):(seg cs 0 n).bind (mkv true)=some (.agg cs):=by
 subst h
 simp[seg,mkv]
theorem Ab {cs ds:List GV} {n:Nat} (h:ds.length=n) (hc:cs.length=n):Ar cs 0 ds=ds:=by
 simp[Ar,h,<-hc]
@[go_sem] theorem ext_0a {c r:List GV}:extG 0 (.tup (.agg c::r))=some (.agg c):=(rfl)
@[go_sem] theorem ext_0i {k:IntKind} {n:Int} {r:List GV}:extG 0 (.tup (.int k n::r))=some (.int k n):=(rfl)
@[go_sem] theorem ext_0s {c:ByteArray} {r:List GV}:extG 0 (.tup (.str c::r))=some (.str c):=(rfl)
@[go_sem] theorem ext_1a {w:GV} {c r:List GV}:extG 1 (.tup (w::.agg c::r))=some (.agg c):=(rfl)
@[go_sem] theorem ext_1i {w:GV} {k:IntKind} {n:Int} {r:List GV}:extG 1 (.tup (w::.int k n::r))=some (.int k n):=(rfl)
@[go_sem] theorem ext_1b {w:GV} {c:Bool} {r:List GV}:extG 1 (.tup (w::.bool c::r))=some (.bool c):=(rfl)
@[go_sem] theorem ext_2b {u w:GV} {c:Bool} {r:List GV}:extG 2 (.tup (u::w::.bool c::r))=some (.bool c):=(rfl)
theorem Ajb {md:Bool} {P:Program} {f:Nat} {F:Fn1} {args:List GV} {U:St} (hF:E4 md P f=some F) (hl:args.length<=F.n)
  (h:vc P F.c (fun e env N=>A02 e=true/\resG env N F.rs=some (.bool true)/\U.length<=N.length) (env0 args) U):∃ r N,Ret P f args U r N/\r= .bool true:=
 B8 (Post:=fun r N=>r= .bool true) hF hl (B7 h fun e env N he=>⟨he.1,_,he.2.1,he.2.2,rfl⟩)
@[go_sem] theorem tup2_if {x y:GV}:tup2 (some x) (some y)=if Al x&&Al y then some (.tup [x,y]) else none:=(rfl)
@[go_sem] theorem tup3_if {x y z:GV}:tup3 (some x) (some y) (some z)=if Al x&&(Al y&&Al z) then some (.tup [x,y,z]) else none:=(rfl)
@[go_sem] theorem notTup_int {k:IntKind} {n:Int}:Al (.int k n)=true:=(rfl)
@[go_sem] theorem notTup_str {s:ByteArray}:Al (.str s)=true:=(rfl)
@[go_sem] theorem Anq {b:Bool}:Al (.bool b)=true:=(rfl)
@[go_sem] theorem notTup_agg {cs:List GV}:Al (.agg cs)=true:=(rfl)
theorem Aa6 {Y:Type} {p:Pl Y} (N:St) {z:Nat} {cs:List GV} (l:List Y) {n:Nat} (hz:z=p.z) (hc:cs=p.cells l) (hn:n=l.length):RS p.kd (N++[some (.row z cs)]) (.sl N.length 0 n) l:=by
 subst hz hc hn
 exact(((Hp.refl N).new p.z (p.cells l)).toRow 0 rfl l rfl rfl _ rfl).sl 0 rfl
namespace Hp
theorem restart {U N:St} {rs:List Thg} (H:Hp U N rs):Hp N N []:=refl N
theorem conv {U N:St} {r r':Thg} {rs:List Thg} (H:Hp U N (r::rs)) (h:∀ fp,r.P N fp->r'.P N fp):Hp U N (r'::rs):=by
 obtain⟨a,ha,hn,hb,ht⟩:=H.turn
 exact ht ⟨hn,fun g hg=>.inl hg,Nat.le_refl _,fun _ _ _=>rfl⟩ (h a ha)
theorem app_int {U N:St} {rs:List Thg} {v:GV} {l:List Int} (H:Hp U N rs) (i:Nat) (hi:rs[i]? =some (ow pI.kd v l)) (x:Int) (hb:(l.length+1)*8<=140737488355328):∃ v' N',appV 1 8 (N++[some (.row 1 [.int .i64 x])]) v (.sl N.length 0 1)=some (v',N')/\Hp U N' (rs.set i (ow pI.kd v' (l++[x]))):=H.app1 i hi x (by decide) hb
theorem nil_int {U N:St} {rs:List Thg} (H:Hp U N rs):Hp U (N++[some (.row 1 [])]) (ow pI.kd (.sl N.length 0 0) []::rs):=H.newNil pI.kd
theorem app_str {U N:St} {rs:List Thg} {v:GV} {l:List ByteArray} (H:Hp U N rs) (i:Nat) (hi:rs[i]? =some (ow pS.kd v l)) (x:ByteArray) (hb:(l.length+1)*16<=140737488355328):∃ v' N',appV 1 16 (N++[some (.row 1 [.str x])]) v (.sl N.length 0 1)=some (v',N')/\Hp U N' (rs.set i (ow pS.kd v' (l++[x]))):=H.app1 i hi x (by decide) hb
theorem nil_str {U N:St} {rs:List Thg} (H:Hp U N rs):Hp U (N++[some (.row 1 [])]) (ow pS.kd (.sl N.length 0 0) []::rs):=H.newNil pS.kd
theorem app_Dot {U N:St} {rs:List Thg} {v:GV} {l:List Dot} (H:Hp U N rs) (i:Nat) (hi:rs[i]? =some (ow pDot.kd v l)) (x:Dot) (hb:(l.length+1)*16<=140737488355328):∃ v' N',appV 2 16 (N++[some (.row 2 [.int .i64 x.rep,.int .i64 x.seq])]) v (.sl N.length 0 1)=some (v',N')/\Hp U N' (rs.set i (ow pDot.kd v' (l++[x]))):=H.app1 i hi x (by decide) hb
theorem nil_Dot {U N:St} {rs:List Thg} (H:Hp U N rs):Hp U (N++[some (.row 2 [])]) (ow pDot.kd (.sl N.length 0 0) []::rs):=H.newNil pDot.kd
theorem app_Tally {U N:St} {rs:List Thg} {v:GV} {l:List Tally} (H:Hp U N rs) (i:Nat) (hi:rs[i]? =some (ow Ba.kd v l)) (x:Tally) (hb:(l.length+1)*32<=140737488355328):∃ v' N',appV 3 32 (N++[some (.row 3 [.str x.obj,.int .i64 x.rep,.int .i64 x.sum])]) v (.sl N.length 0 1)=some (v',N')/\Hp U N' (rs.set i (ow Ba.kd v' (l++[x]))):=H.app1 i hi x (by decide) hb
theorem nil_Tally {U N:St} {rs:List Thg} (H:Hp U N rs):Hp U (N++[some (.row 3 [])]) (ow Ba.kd (.sl N.length 0 0) []::rs):=H.newNil Ba.kd
theorem app_Live {U N:St} {rs:List Thg} {v:GV} {l:List Live} (H:Hp U N rs) (i:Nat) (hi:rs[i]? =some (ow Bp.kd v l)) (x:Live) (hb:(l.length+1)*64<=140737488355328):∃ v' N',appV 6 64 (N++[some (.row 6 [.bool x.map,.str x.obj,.str x.key,.int .i64 x.val,.int .i64 x.dot.rep,.int .i64 x.dot.seq])]) v (.sl N.length 0 1)=some (v',N')/\Hp U N' (rs.set i (ow Bp.kd v' (l++[x]))):=H.app1 i hi x (by decide) hb
theorem nil_Live {U N:St} {rs:List Thg} (H:Hp U N rs):Hp U (N++[some (.row 6 [])]) (ow Bp.kd (.sl N.length 0 0) []::rs):=H.newNil Bp.kd
theorem app_Cell {U N:St} {rs:List Thg} {v:GV} {l:List Cell} (H:Hp U N rs) (i:Nat) (hi:rs[i]? =some (ow Ak.kd v l)) (x:Cell) (hb:(l.length+1)*72<=140737488355328):∃ v' N',appV 8 72 (N++[some (.row 8 [.str x.obj,.int .i64 x.dot.rep,.int .i64 x.dot.seq,.int .i64 x.time,.int .i64 x.ref.rep,.int .i64 x.ref.seq,.int .i64 x.val,.bool x.gone])]) v (.sl N.length 0 1)=some (v',N')/\Hp U N' (rs.set i (ow Ak.kd v' (l++[x]))):=H.app1 i hi x (by decide) hb
theorem nil_Cell {U N:St} {rs:List Thg} (H:Hp U N rs):Hp U (N++[some (.row 8 [])]) (ow Ak.kd (.sl N.length 0 0) []::rs):=H.newNil Ak.kd
theorem one {U N:St} {r:Thg} {rs:List Thg} (H:Hp U N (r::rs)):Hp U N [r]:=by
 obtain⟨h,fp,⟨a,b,hr,hs,rfl⟩,hn,hb⟩:=H
 exact⟨h,a,⟨a,[],hr,rfl,by simp⟩,(List.nodup_append.1 hn).1,fun g hg=>hb g (Zab _ hg)⟩
theorem stw {Y:Type} {p:Pl Y} {U N:St} {rs:List Thg} {v:GV} {l:List Y} (H:Hp U N rs) (i:Nat) (hi:rs[i]? =some (ow p.kd v l)) {j:Nat} (hj:j<l.length) (n:Nat) (x:GV) (y:Y) (hx:x.cells=p.enc y) (hn:n=p.z) (hz:0<n):
  ∃ N',stG n N (atz p.z v j) x=some (.tup [],N')/\Hp U N' (rs.set i (ow p.kd v (l.set j y))):=by
 subst hn
 have:=H.ste i hi hj p.z 0 x y (by rw[hx,p.len]) hz (by omega) (by rw[hx];unfold Ar;rw[List.take_zero,Zaf,p.len,List.drop_eq_nil_of_le (by rw[p.len];omega),Zai])
 obtain⟨N',e,h⟩:=this
 refine⟨N',?_,h⟩
 rw[<- e]
 cases v<;>rfl
end Hp
theorem Sl.rs {Y:Type} {e:Ek Y} {k:Kd Y} (hz:e.z=k.z) (hb:∀ {U x cs},e.R U x cs->k.R U x cs) {U:St} {v:GV} {l:List Y} (h:Sl e U v l):RS k U v l:=by
 rcases h with h|⟨g,off,cs,h1,h2,h3,h4⟩
 ·exact .inl h
 ·refine .inr ⟨g,off,cs,h1,Ano h2,by show off+l.length*k.z<=_;rw[<- hz];exact h3,fun i x hx=> ?_⟩
  show k.R U x ((cs.drop (off+i*k.z)).take k.z)
  rw[<- hz];exact hb (h4 i x hx)
theorem agg_of {P:Program} {w:World} {r:Reach} {base:Nat} {t:TypeId} {fs:Array Field} {v:Value} (ht:P.underlying t=some (.struct fs)) (h:Value.okWide P w r base t v):∃ cs,v= .agg cs:=by
 simp only[Value.okWide,ht] at h
 obtain⟨cs,h1,_⟩:=h
 exact⟨cs,h1⟩
def eDot:Ek Dot:=Ek.iso (Ek.pair (Ek.int .i64) (Ek.int .i64)) (fun x=>(x.rep,x.seq))
def zDot (x:Dot):Prop:=I64 (x.rep)/\I64 (x.seq)
theorem Anr {U:St} {x:Dot} {cs:List GV} (h:eDot.R U x cs):pDot.kd.R U x cs:=by
 obtain⟨c0,d0,rfl,h0,h⟩:=h
 obtain rfl:=h0
 obtain rfl:=h
 rfl
def eTally:Ek Tally:=Ek.iso (Ek.pair Ek.str (Ek.pair (Ek.int .i64) (Ek.int .i64))) (fun x=>(x.obj,x.rep,x.sum))
def zTally (x:Tally):Prop:=(x.obj).size<=9223372036854775807/\I64 (x.rep)/\I64 (x.sum)
theorem Ans {U:St} {x:Tally} {cs:List GV} (h:eTally.R U x cs):Ba.kd.R U x cs:=by
 obtain⟨c0,d0,rfl,h0,h⟩:=h
 obtain rfl:=h0
 obtain⟨c1,d1,rfl,h1,h⟩:=h
 obtain rfl:=h1
 obtain rfl:=h
 rfl
def eLive:Ek Live:=Ek.iso (Ek.pair Ek.bool (Ek.pair Ek.str (Ek.pair Ek.str (Ek.pair (Ek.int .i64) eDot)))) (fun x=>(x.map,x.obj,x.key,x.val,x.dot))
def zLive (x:Live):Prop:=True/\(x.obj).size<=9223372036854775807/\(x.key).size<=9223372036854775807/\I64 (x.val)/\zDot (x.dot)
theorem brLive {U:St} {x:Live} {cs:List GV} (h:eLive.R U x cs):Bp.kd.R U x cs:=by
 obtain⟨c0,d0,rfl,h0,h⟩:=h
 obtain rfl:=h0
 obtain⟨c1,d1,rfl,h1,h⟩:=h
 obtain rfl:=h1
 obtain⟨c2,d2,rfl,h2,h⟩:=h
 obtain rfl:=h2
 obtain⟨c3,d3,rfl,h3,h⟩:=h
 obtain rfl:=h3
 obtain rfl:=Anr h
 rfl
def eCell:Ek Cell:=Ek.iso (Ek.pair Ek.str (Ek.pair eDot (Ek.pair (Ek.int .i64) (Ek.pair eDot (Ek.pair (Ek.int .i64) Ek.bool))))) (fun x=>(x.obj,x.dot,x.time,x.ref,x.val,x.gone))
def zCell (x:Cell):Prop:=(x.obj).size<=9223372036854775807/\zDot (x.dot)/\I64 (x.time)/\zDot (x.ref)/\I64 (x.val)/\True
theorem brCell {U:St} {x:Cell} {cs:List GV} (h:eCell.R U x cs):Ak.kd.R U x cs:=by
 obtain⟨c0,d0,rfl,h0,h⟩:=h
 obtain rfl:=h0
 obtain⟨c1,d1,rfl,h1,h⟩:=h
 obtain rfl:=Anr h1
 obtain⟨c2,d2,rfl,h2,h⟩:=h
 obtain rfl:=h2
 obtain⟨c3,d3,rfl,h3,h⟩:=h
 obtain rfl:=Anr h3
 obtain⟨c4,d4,rfl,h4,h⟩:=h
 obtain rfl:=h4
 obtain rfl:=h
 rfl
def eWatch:Ek Watch:=Ek.iso (Ek.pair (Ek.int .i64) (Ek.pair Ek.str Ek.str)) (fun x=>(x.kind,x.obj,x.key))
def zWatch (x:Watch):Prop:=I64 (x.kind)/\(x.obj).size<=9223372036854775807/\(x.key).size<=9223372036854775807
theorem Ant {U:St} {x:Watch} {cs:List GV} (h:eWatch.R U x cs):Lp.kd.R U x cs:=by
 obtain⟨c0,d0,rfl,h0,h⟩:=h
 obtain rfl:=h0
 obtain⟨c1,d1,rfl,h1,h⟩:=h
 obtain rfl:=h1
 obtain rfl:=h
 rfl
def eState:Ek State:=Ek.iso (Ek.pair (Ek.slice (Ek.int .i64)) (Ek.pair (Ek.slice eTally) (Ek.pair (Ek.slice eLive) (Ek.slice eCell)))) (fun x=>(x.know,x.tallies,x.lives,x.cells))
def zState (x:State):Prop:=((x.know).length<=9223372036854775807/\∀ y4∈x.know,I64 (y4))/\((x.tallies).length<=9223372036854775807/\∀ y6∈x.tallies,zTally (y6))/\((x.lives).length<=9223372036854775807/\∀ y5∈x.lives,zLive (y5))/\((x.cells).length<=9223372036854775807/\∀ y5∈x.cells,zCell (y5))
theorem Ajc {U:St} {x:State} {cs:List GV} (h:eState.R U x cs):A4.R U x cs:=by
 obtain⟨c0,d0,rfl,h0,h⟩:=h
 obtain⟨v0,rfl,s0⟩:=h0
 obtain⟨c1,d1,rfl,h1,h⟩:=h
 obtain⟨v1,rfl,s1⟩:=h1
 obtain⟨c2,d2,rfl,h2,h⟩:=h
 obtain⟨v2,rfl,s2⟩:=h2
 obtain⟨v3,rfl,s3⟩:=h
 exact⟨v0,v1,v2,v3,rfl,s0.rs rfl (fun h=>h),s1.rs rfl (Ans),s2.rs rfl (brLive),s3.rs rfl (brCell)⟩
end Go.Proofs.YtnknigikcdgebaaGreatDoor.Sy
