/- Texts of this proof, one behind the other. -/
import Derived.Test.YtnknigikcdgebaaGreatDoorBB
set_option linter.unusedSimpArgs false
set_option linter.unusedVariables false
set_option maxRecDepth 4000
set_option maxHeartbeats 4000000
open List renaming mem_append_right→Zaa,mem_append_left→Zab,prefix_append→Zac,cons_append→Zad,nil_append→Zaf,append_nil→Zag
open Option renaming bind_some→Zae
namespace Go.Proofs.YtnknigikcdgebaaGreatDoor.Sy
open Go Go.RowKit
@[go_sem] theorem seg_zero {cs:List GV}:seg cs 0 0=some []:=by simp[seg]
@[go_sem] theorem seg_take {c:GV} {cs:List GV} {m:Nat}:seg (c::cs) 0 (m+1)=(seg cs 0 m).map (c::·):=by
 unfold seg
 by_cases h:m<=cs.length
 ·rw[if_pos (by simp;omega),if_pos (by omega)];simp
 ·rw[if_neg (by simp;omega),if_neg (by omega)];rfl
@[go_sem] theorem seg_drop {c:GV} {cs:List GV} {n m:Nat}:seg (c::cs) (n+1) m=seg cs n m:=by
 unfold seg
 by_cases h:n+m<=cs.length
 ·rw[if_pos (by simp;omega),if_pos h];simp
 ·rw[if_neg (by simp;omega),if_neg h]
@[go_sem] theorem mkv_one {c:GV}:mkv false [c]=some c:=(rfl)
@[go_sem] theorem mkv_all {cs:List GV}:mkv true cs=some (.agg cs):=(rfl)
@[go_sem] theorem splice_nil {cs:List GV}:Al cs 0 []=cs:=by simp[Al]
@[go_sem] theorem Agw {c x:GV} {cs xs:List GV}:Al (c::cs) 0 (x::xs)=x::Al cs 0 xs:=by simp[Al]
@[go_sem] theorem Agx {c:GV} {cs xs:List GV} {n:Nat}:Al (c::cs) (n+1) xs=c::Al cs n xs:=by
 simp only[Al,List.take_succ_cons,Zad,List.cons.injEq,true_and]
 congr 1
 rw[show n+1+xs.length=(n+xs.length)+1 by omega,List.drop_succ_cons]
@[go_sem] theorem fillG_cons {cs:List GV} {off size:Nat} {v:GV} {r:List (Nat×Nat×GV)}:Ht cs ((off,size,v)::r)=if v.cells.length=size/\0<size/\off+size<=cs.length then Ht (Al cs off v.cells) r else none:=(rfl)
@[go_sem] theorem cells_int {k:IntKind} {n:Int}:(GV.int k n).cells=[.int k n]:=(rfl)
@[go_sem] theorem cells_str {s:ByteArray}:(GV.str s).cells=[.str s]:=(rfl)
@[go_sem] theorem cells_bool {b:Bool}:(GV.bool b).cells=[.bool b]:=(rfl)
@[go_sem] theorem cells_agg {cs:List GV}:(GV.agg cs).cells=cs:=(rfl)
attribute [go_sem] List.length_cons List.length_nil Nat.zero_add Nat.reduceAdd Nat.reduceLeDiff Nat.reduceLT Nat.lt_add_one Nat.le_refl Nat.add_zero Zad Zaf
theorem A2 {a:Bool} {n g off:Nat} {U:St} {cs:List GV} (h:rdB U g=some cs):ldG a n U (.ptr g off)=(seg cs off n).bind (mkv a):=by simp only[ldG,h,Zae]
section
variable {Y:Type} {d:En Y} {p:Pl Y} {N:St} {v:GV} {l:List Y}
theorem RdN.cell (h:RdN d N v l):v.cells=[v]:=by
 rcases h with⟨_,rfl|rfl⟩|⟨g,off,cs,rfl,_⟩<;>rfl
theorem RdN.fad (h:RdN d N v l) {i:Nat} (hi:i<l.length) {z k:Nat}:fadG k (atz z v i)=some (fld k (atz z v i)):=by
 rcases h with⟨rfl,_⟩|⟨g,off,cs,rfl,_⟩
 ·simp at hi
 ·rfl
theorem RdN.fad2 (h:RdN d N v l) {i:Nat} (hi:i<l.length) {z k m:Nat}:fadG k (fld m (atz z v i))=some (fld (m+k) (atz z v i)):=by
 rcases h with⟨rfl,_⟩|⟨g,off,cs,rfl,_⟩
 ·simp at hi
 ·simp only[fld,atz,fadG,Nat.add_assoc]
theorem RdN.ldf (h:RdN p.kd.en N v l) {i:Nat} (hi:i<l.length) {k n:Nat} {a:Bool} (hk:k+n<=p.z):ldG a n N (fld k (atz p.z v i))=(seg (p.enc l[i]) k n).bind (mkv a):=by
 obtain⟨cs,hc,hs⟩:=RdN.cells h hi
 have hc:cs=p.enc l[i]:=hc
 subst hc
 have e:seg (p.enc l[i]) k n=some (((p.enc l[i]).drop k).take n):=by unfold seg;rw[if_pos (by rw[p.len];exact hk)]
 rw[e]
 exact hs k n _ e a
theorem RdN.ld (h:RdN p.kd.en N v l) {i:Nat} (hi:i<l.length) {n:Nat} {a:Bool} (hk:n<=p.z):ldG a n N (atz p.z v i)=(seg (p.enc l[i]) 0 n).bind (mkv a):=by
 have:=h.ldf hi (k:=0) (n:=n) (a:=a) (by omega)
 rw[<- this]
 rcases h with⟨rfl,_⟩|⟨g,off,cs,rfl,_⟩
 ·simp at hi
 ·rfl
end
structure Dot where
 rep:Int
 seq:Int
instance:DecidableEq Dot:=fun a b=>if h:a.rep=b.rep/\a.seq=b.seq then isTrue (by cases a;cases b;simp only at h;obtain⟨rfl,rfl⟩:=h;rfl) else isFalse (fun e=>h (by subst e;exact⟨rfl,rfl⟩))
theorem Dot.eq_iff {a b:Dot}:a=b↔a.rep=b.rep/\a.seq=b.seq:=⟨fun h=>by subst h;exact⟨rfl,rfl⟩,fun h=>by cases a;cases b;simp only at h;obtain⟨rfl,rfl⟩:=h;rfl⟩
def pDot:Pl Dot:=⟨2,fun x=>[.int .i64 x.rep,.int .i64 x.seq],fun _=>rfl⟩
@[go_sem] theorem eqs_Dot {n:Bool} {a0:Int} {a1:Int} {b0:Int} {b1:Int}:eqsG n [.i .i64,.i .i64] (.agg [.int .i64 a0,.int .i64 a1]) (.agg [.int .i64 b0,.int .i64 b1])=some (.bool (n ^^ decide ((⟨a0,a1⟩:Dot)=⟨b0,b1⟩))):=by
 simp only[eqsG,Cz,scEq,and_self,if_true,Zae,Option.map_some,Hw]
 congr 3;rw[Bool.eq_iff_iff];simp[and_assoc]
@[go_sem] theorem eta_Dot {x:Dot}:(⟨x.rep,x.seq⟩:Dot)=x:=(rfl)
theorem Sh {N:St} {v:GV} {l:List Dot} (h:RS pDot.kd N v l) {i:Nat} (hi:i<l.length):iadG 2 v (some i)=some (atz 2 v i)/\(∀ k,fadG k (atz 2 v i)=some (fld k (atz 2 v i)))/\(∀ k m,fadG k (fld m (atz 2 v i))=some (fld (m+k) (atz 2 v i)))/\ldG false 1 N (fld 0 (atz 2 v i))=some (.int .i64 l[i].rep)/\ldG false 1 N (fld 1 (atz 2 v i))=some (.int .i64 l[i].seq)/\ldG true 2 N (atz 2 v i)=some (.agg [.int .i64 l[i].rep,.int .i64 l[i].seq]):=
 ⟨RdN.iad h hi,fun k=>RdN.fad h hi,fun k m=>RdN.fad2 h hi,RdN.ldf h hi (k:=0) (by decide),RdN.ldf h hi (k:=1) (by decide),RdN.ld h hi (by decide)⟩
structure Tally where
 obj:ByteArray
 rep:Int
 sum:Int
instance:DecidableEq Tally:=fun a b=>if h:a.obj=b.obj/\a.rep=b.rep/\a.sum=b.sum then isTrue (by cases a;cases b;simp only at h;obtain⟨rfl,rfl,rfl⟩:=h;rfl) else isFalse (fun e=>h (by subst e;exact⟨rfl,rfl,rfl⟩))
theorem Tally.eq_iff {a b:Tally}:a=b↔a.obj=b.obj/\a.rep=b.rep/\a.sum=b.sum:=⟨fun h=>by subst h;exact⟨rfl,rfl,rfl⟩,fun h=>by cases a;cases b;simp only at h;obtain⟨rfl,rfl,rfl⟩:=h;rfl⟩
def Dz:Pl Tally:=⟨3,fun x=>[.str x.obj,.int .i64 x.rep,.int .i64 x.sum],fun _=>rfl⟩
theorem Aa {N:St} {v:GV} {l:List Tally} (h:RS Dz.kd N v l) {i:Nat} (hi:i<l.length):iadG 3 v (some i)=some (atz 3 v i)/\(∀ k,fadG k (atz 3 v i)=some (fld k (atz 3 v i)))/\(∀ k m,fadG k (fld m (atz 3 v i))=some (fld (m+k) (atz 3 v i)))/\ldG false 1 N (fld 0 (atz 3 v i))=some (.str l[i].obj)/\ldG false 1 N (fld 1 (atz 3 v i))=some (.int .i64 l[i].rep)/\ldG false 1 N (fld 2 (atz 3 v i))=some (.int .i64 l[i].sum)/\ldG true 3 N (atz 3 v i)=some (.agg [.str l[i].obj,.int .i64 l[i].rep,.int .i64 l[i].sum]):=
 ⟨RdN.iad h hi,fun k=>RdN.fad h hi,fun k m=>RdN.fad2 h hi,RdN.ldf h hi (k:=0) (by decide),RdN.ldf h hi (k:=1) (by decide),RdN.ldf h hi (k:=2) (by decide),RdN.ld h hi (by decide)⟩
structure Live where
 map:Bool
 obj:ByteArray
 key:ByteArray
 val:Int
 dot:Dot
instance:DecidableEq Live:=fun a b=>if h:a.map=b.map/\a.obj=b.obj/\a.key=b.key/\a.val=b.val/\a.dot=b.dot then isTrue (by cases a;cases b;simp only at h;obtain⟨rfl,rfl,rfl,rfl,rfl⟩:=h;rfl) else isFalse (fun e=>h (by subst e;exact⟨rfl,rfl,rfl,rfl,rfl⟩))
theorem Live.eq_iff {a b:Live}:a=b↔a.map=b.map/\a.obj=b.obj/\a.key=b.key/\a.val=b.val/\a.dot=b.dot:=⟨fun h=>by subst h;exact⟨rfl,rfl,rfl,rfl,rfl⟩,fun h=>by cases a;cases b;simp only at h;obtain⟨rfl,rfl,rfl,rfl,rfl⟩:=h;rfl⟩
def Da:Pl Live:=⟨6,fun x=>[.bool x.map,.str x.obj,.str x.key,.int .i64 x.val,.int .i64 x.dot.rep,.int .i64 x.dot.seq],fun _=>rfl⟩
theorem A3 {N:St} {v:GV} {l:List Live} (h:RS Da.kd N v l) {i:Nat} (hi:i<l.length):iadG 6 v (some i)=some (atz 6 v i)/\(∀ k,fadG k (atz 6 v i)=some (fld k (atz 6 v i)))/\(∀ k m,fadG k (fld m (atz 6 v i))=some (fld (m+k) (atz 6 v i)))/\ldG false 1 N (fld 0 (atz 6 v i))=some (.bool l[i].map)/\ldG false 1 N (fld 1 (atz 6 v i))=some (.str l[i].obj)/\ldG false 1 N (fld 2 (atz 6 v i))=some (.str l[i].key)/\ldG false 1 N (fld 3 (atz 6 v i))=some (.int .i64 l[i].val)/\ldG false 1 N (fld 4 (atz 6 v i))=some (.int .i64 l[i].dot.rep)/\ldG false 1 N (fld 5 (atz 6 v i))=some (.int .i64 l[i].dot.seq)/\ldG true 2 N (fld 4 (atz 6 v i))=some (.agg [.int .i64 l[i].dot.rep,.int .i64 l[i].dot.seq])/\ldG true 6 N (atz 6 v i)=some (.agg [.bool l[i].map,.str l[i].obj,.str l[i].key,.int .i64 l[i].val,.int .i64 l[i].dot.rep,.int .i64 l[i].dot.seq]):=
 ⟨RdN.iad h hi,fun k=>RdN.fad h hi,fun k m=>RdN.fad2 h hi,RdN.ldf h hi (k:=0) (by decide),RdN.ldf h hi (k:=1) (by decide),RdN.ldf h hi (k:=2) (by decide),RdN.ldf h hi (k:=3) (by decide),RdN.ldf h hi (k:=4) (by decide),RdN.ldf h hi (k:=5) (by decide),RdN.ldf h hi (k:=4) (by decide),RdN.ld h hi (by decide)⟩
structure Cell where
 obj:ByteArray
 dot:Dot
 time:Int
 ref:Dot
 val:Int
 gone:Bool
instance:DecidableEq Cell:=fun a b=>if h:a.obj=b.obj/\a.dot=b.dot/\a.time=b.time/\a.ref=b.ref/\a.val=b.val/\a.gone=b.gone then isTrue (by cases a;cases b;simp only at h;obtain⟨rfl,rfl,rfl,rfl,rfl,rfl⟩:=h;rfl) else isFalse (fun e=>h (by subst e;exact⟨rfl,rfl,rfl,rfl,rfl,rfl⟩))
theorem Cell.eq_iff {a b:Cell}:a=b↔a.obj=b.obj/\a.dot=b.dot/\a.time=b.time/\a.ref=b.ref/\a.val=b.val/\a.gone=b.gone:=⟨fun h=>by subst h;exact⟨rfl,rfl,rfl,rfl,rfl,rfl⟩,fun h=>by cases a;cases b;simp only at h;obtain⟨rfl,rfl,rfl,rfl,rfl,rfl⟩:=h;rfl⟩
def Aj:Pl Cell:=⟨8,fun x=>[.str x.obj,.int .i64 x.dot.rep,.int .i64 x.dot.seq,.int .i64 x.time,.int .i64 x.ref.rep,.int .i64 x.ref.seq,.int .i64 x.val,.bool x.gone],fun _=>rfl⟩
theorem Aak {x:Cell}:Aj.enc x=[.str x.obj,.int .i64 x.dot.rep,.int .i64 x.dot.seq,.int .i64 x.time,.int .i64 x.ref.rep,.int .i64 x.ref.seq,.int .i64 x.val,.bool x.gone]:=(rfl)
theorem A5 {N:St} {v:GV} {l:List Cell} (h:RS Aj.kd N v l) {i:Nat} (hi:i<l.length):iadG 8 v (some i)=some (atz 8 v i)/\(∀ k,fadG k (atz 8 v i)=some (fld k (atz 8 v i)))/\(∀ k m,fadG k (fld m (atz 8 v i))=some (fld (m+k) (atz 8 v i)))/\ldG false 1 N (fld 0 (atz 8 v i))=some (.str l[i].obj)/\ldG false 1 N (fld 1 (atz 8 v i))=some (.int .i64 l[i].dot.rep)/\ldG false 1 N (fld 2 (atz 8 v i))=some (.int .i64 l[i].dot.seq)/\ldG false 1 N (fld 3 (atz 8 v i))=some (.int .i64 l[i].time)/\ldG false 1 N (fld 4 (atz 8 v i))=some (.int .i64 l[i].ref.rep)/\ldG false 1 N (fld 5 (atz 8 v i))=some (.int .i64 l[i].ref.seq)/\ldG false 1 N (fld 6 (atz 8 v i))=some (.int .i64 l[i].val)/\ldG false 1 N (fld 7 (atz 8 v i))=some (.bool l[i].gone)/\ldG true 2 N (fld 1 (atz 8 v i))=some (.agg [.int .i64 l[i].dot.rep,.int .i64 l[i].dot.seq])/\ldG true 2 N (fld 4 (atz 8 v i))=some (.agg [.int .i64 l[i].ref.rep,.int .i64 l[i].ref.seq])/\ldG true 8 N (atz 8 v i)=some (.agg [.str l[i].obj,.int .i64 l[i].dot.rep,.int .i64 l[i].dot.seq,.int .i64 l[i].time,.int .i64 l[i].ref.rep,.int .i64 l[i].ref.seq,.int .i64 l[i].val,.bool l[i].gone]):=
 ⟨RdN.iad h hi,fun k=>RdN.fad h hi,fun k m=>RdN.fad2 h hi,RdN.ldf h hi (k:=0) (by decide),RdN.ldf h hi (k:=1) (by decide),RdN.ldf h hi (k:=2) (by decide),RdN.ldf h hi (k:=3) (by decide),RdN.ldf h hi (k:=4) (by decide),RdN.ldf h hi (k:=5) (by decide),RdN.ldf h hi (k:=6) (by decide),RdN.ldf h hi (k:=7) (by decide),RdN.ldf h hi (k:=1) (by decide),RdN.ldf h hi (k:=4) (by decide),RdN.ld h hi (by decide)⟩
structure Edit where
 kind:Int
 obj:ByteArray
 key:ByteArray
 val:Int
 place:Int
instance:DecidableEq Edit:=fun a b=>if h:a.kind=b.kind/\a.obj=b.obj/\a.key=b.key/\a.val=b.val/\a.place=b.place then isTrue (by cases a;cases b;simp only at h;obtain⟨rfl,rfl,rfl,rfl,rfl⟩:=h;rfl) else isFalse (fun e=>h (by subst e;exact⟨rfl,rfl,rfl,rfl,rfl⟩))
structure Watch where
 kind:Int
 obj:ByteArray
 key:ByteArray
instance:DecidableEq Watch:=fun a b=>if h:a.kind=b.kind/\a.obj=b.obj/\a.key=b.key then isTrue (by cases a;cases b;simp only at h;obtain⟨rfl,rfl,rfl⟩:=h;rfl) else isFalse (fun e=>h (by subst e;exact⟨rfl,rfl,rfl⟩))
structure Clash where
 obj:ByteArray
 key:ByteArray
instance:DecidableEq Clash:=fun a b=>if h:a.obj=b.obj/\a.key=b.key then isTrue (by cases a;cases b;simp only at h;obtain⟨rfl,rfl⟩:=h;rfl) else isFalse (fun e=>h (by subst e;exact⟨rfl,rfl⟩))
structure File where
 text:ByteArray
 synced:Int
instance:DecidableEq File:=fun a b=>if h:a.text=b.text/\a.synced=b.synced then isTrue (by cases a;cases b;simp only at h;obtain⟨rfl,rfl⟩:=h;rfl) else isFalse (fun e=>h (by subst e;exact⟨rfl,rfl⟩))
theorem File.eq_iff {a b:File}:a=b↔a.text=b.text/\a.synced=b.synced:=⟨fun h=>by subst h;exact⟨rfl,rfl⟩,fun h=>by cases a;cases b;simp only at h;obtain⟨rfl,rfl⟩:=h;rfl⟩
def Adg:Pl File:=⟨2,fun x=>[.str x.text,.int .i64 x.synced],fun _=>rfl⟩
structure Letter where
 to:Int
 text:ByteArray
instance:DecidableEq Letter:=fun a b=>if h:a.to=b.to/\a.text=b.text then isTrue (by cases a;cases b;simp only at h;obtain⟨rfl,rfl⟩:=h;rfl) else isFalse (fun e=>h (by subst e;exact⟨rfl,rfl⟩))
structure Event where
 kind:Int
 at_:Int
 num:Int
 edit:Edit
instance:DecidableEq Event:=fun a b=>if h:a.kind=b.kind/\a.at_=b.at_/\a.num=b.num/\a.edit=b.edit then isTrue (by cases a;cases b;simp only at h;obtain⟨rfl,rfl,rfl,rfl⟩:=h;rfl) else isFalse (fun e=>h (by subst e;exact⟨rfl,rfl,rfl,rfl⟩))
theorem Hz {N:St} {v:GV} {l:List Int} (h:RS pI.kd N v l) {i:Nat} (hi:i<l.length):iadG 1 v (some i)=some (atz 1 v i)/\ldG false 1 N (atz 1 v i)=some (.int .i64 l[i]):=⟨RdN.iad h hi,RdN.ld h hi (by decide)⟩
theorem Gs {N:St} {v:GV} {l:List ByteArray} (h:RS pS.kd N v l) {i:Nat} (hi:i<l.length):iadG 1 v (some i)=some (atz 1 v i)/\ldG false 1 N (atz 1 v i)=some (.str l[i]):=⟨RdN.iad h hi,RdN.ld h hi (by decide)⟩
structure Act where
 dot:Dot
 time:Int
 knew:List Int
 kind:Int
 obj:ByteArray
 key:ByteArray
 val:Int
 ref:Dot
def kAct:Kd Act where
 z:=10
 R N x cs:=∃ v2,cs=(.int .i64 x.dot.rep)::(.int .i64 x.dot.seq)::(.int .i64 x.time)::v2::(.int .i64 x.kind)::(.str x.obj)::(.str x.key)::(.int .i64 x.val)::(.int .i64 x.ref.rep)::(.int .i64 x.ref.seq)::[]/\RS pI.kd N v2 x.knew
 O N x cs fp:=∃ v2 f2,cs=(.int .i64 x.dot.rep)::(.int .i64 x.dot.seq)::(.int .i64 x.time)::v2::(.int .i64 x.kind)::(.str x.obj)::(.str x.key)::(.int .i64 x.val)::(.int .i64 x.ref.rep)::(.int .i64 x.ref.seq)::[]/\OS pI.kd N x.knew v2 f2/\fp=f2
 len:=by
  rintro N x cs ⟨v2,rfl,h0⟩
  simp[]
 pre:=by
  rintro N U x cs ⟨v2,rfl,h0⟩ hp
  exact⟨_,rfl,h0.pre hp⟩
 rd:=by
  rintro N x cs fp ⟨v2,f2,rfl,h0,rfl⟩
  exact⟨_,rfl,h0.rd⟩
 loc:=by
  rintro N U x cs fp ⟨v2,f2,rfl,h0,rfl⟩ hf
  exact⟨_,_,rfl,h0.loc (fun g hg=>hf g hg),rfl⟩
structure State where
 know:List Int
 tallies:List Tally
 lives:List Live
 cells:List Cell
def A8:Kd State where
 z:=4
 R N x cs:=∃ v0 v1 v2 v3,cs=v0::v1::v2::v3::[]/\RS pI.kd N v0 x.know/\RS Dz.kd N v1 x.tallies/\RS Da.kd N v2 x.lives/\RS Aj.kd N v3 x.cells
 O N x cs fp:=∃ v0 v1 v2 v3 f0 f1 f2 f3,cs=v0::v1::v2::v3::[]/\OS pI.kd N x.know v0 f0/\OS Dz.kd N x.tallies v1 f1/\OS Da.kd N x.lives v2 f2/\OS Aj.kd N x.cells v3 f3/\fp=f0++(f1++(f2++(f3)))
 len:=by
  rintro N x cs ⟨v0,v1,v2,v3,rfl,h0,h1,h2,h3⟩
  simp[]
 pre:=by
  rintro N U x cs ⟨v0,v1,v2,v3,rfl,h0,h1,h2,h3⟩ hp
  exact⟨_,_,_,_,rfl,h0.pre hp,h1.pre hp,h2.pre hp,h3.pre hp⟩
 rd:=by
  rintro N x cs fp ⟨v0,v1,v2,v3,f0,f1,f2,f3,rfl,h0,h1,h2,h3,rfl⟩
  exact⟨_,_,_,_,rfl,h0.rd,h1.rd,h2.rd,h3.rd⟩
 loc:=by
  rintro N U x cs fp ⟨v0,v1,v2,v3,f0,f1,f2,f3,rfl,h0,h1,h2,h3,rfl⟩ hf
  exact⟨_,_,_,_,_,_,_,_,rfl,h0.loc (fun g hg=>hf g (Zab _ hg)),h1.loc (fun g hg=>hf g (Zaa _ (Zab _ hg))),h2.loc (fun g hg=>hf g (Zaa _ (Zaa _ (Zab _ hg)))),h3.loc (fun g hg=>hf g (Zaa _ (Zaa _ (Zaa _ hg)))),rfl⟩
structure Delta where
 base:List Int
 know:List Int
 tallies:List Tally
 lives:List Live
 dead:List Dot
 cells:List Cell
def Dk:Kd Delta where
 z:=6
 R N x cs:=∃ v0 v1 v2 v3 v4 v5,cs=v0::v1::v2::v3::v4::v5::[]/\RS pI.kd N v0 x.base/\RS pI.kd N v1 x.know/\RS Dz.kd N v2 x.tallies/\RS Da.kd N v3 x.lives/\RS pDot.kd N v4 x.dead/\RS Aj.kd N v5 x.cells
 O N x cs fp:=∃ v0 v1 v2 v3 v4 v5 f0 f1 f2 f3 f4 f5,cs=v0::v1::v2::v3::v4::v5::[]/\OS pI.kd N x.base v0 f0/\OS pI.kd N x.know v1 f1/\OS Dz.kd N x.tallies v2 f2/\OS Da.kd N x.lives v3 f3/\OS pDot.kd N x.dead v4 f4/\OS Aj.kd N x.cells v5 f5/\fp=f0++(f1++(f2++(f3++(f4++(f5)))))
 len:=by
  rintro N x cs ⟨v0,v1,v2,v3,v4,v5,rfl,h0,h1,h2,h3,h4,h5⟩
  simp[]
 pre:=by
  rintro N U x cs ⟨v0,v1,v2,v3,v4,v5,rfl,h0,h1,h2,h3,h4,h5⟩ hp
  exact⟨_,_,_,_,_,_,rfl,h0.pre hp,h1.pre hp,h2.pre hp,h3.pre hp,h4.pre hp,h5.pre hp⟩
 rd:=by
  rintro N x cs fp ⟨v0,v1,v2,v3,v4,v5,f0,f1,f2,f3,f4,f5,rfl,h0,h1,h2,h3,h4,h5,rfl⟩
  exact⟨_,_,_,_,_,_,rfl,h0.rd,h1.rd,h2.rd,h3.rd,h4.rd,h5.rd⟩
 loc:=by
  rintro N U x cs fp ⟨v0,v1,v2,v3,v4,v5,f0,f1,f2,f3,f4,f5,rfl,h0,h1,h2,h3,h4,h5,rfl⟩ hf
  exact⟨_,_,_,_,_,_,_,_,_,_,_,_,rfl,h0.loc (fun g hg=>hf g (Zab _ hg)),h1.loc (fun g hg=>hf g (Zaa _ (Zab _ hg))),h2.loc (fun g hg=>hf g (Zaa _ (Zaa _ (Zab _ hg)))),h3.loc (fun g hg=>hf g (Zaa _ (Zaa _ (Zaa _ (Zab _ hg))))),h4.loc (fun g hg=>hf g (Zaa _ (Zaa _ (Zaa _ (Zaa _ (Zab _ hg)))))),h5.loc (fun g hg=>hf g (Zaa _ (Zaa _ (Zaa _ (Zaa _ (Zaa _ hg)))))),rfl⟩
structure Unit_ where
 batch:Bool
 act:Act
 delta:Delta
def Bt:Kd Unit_ where
 z:=17
 R N x cs:=∃ v1 v2,cs=(.bool x.batch)::v1++(v2++([]))/\kAct.R N x.act v1/\Dk.R N x.delta v2
 O N x cs fp:=∃ v1 v2 f1 f2,cs=(.bool x.batch)::v1++(v2++([]))/\kAct.O N x.act v1 f1/\Dk.O N x.delta v2 f2/\fp=f1++(f2)
 len:=by
  rintro N x cs ⟨v1,v2,rfl,h0,h1⟩
  have l0:=kAct.len h0
  have l1:=Dk.len h1
  simp[l0,l1,kAct,Dk]
 pre:=by
  rintro N U x cs ⟨v1,v2,rfl,h0,h1⟩ hp
  exact⟨_,_,rfl,kAct.pre h0 hp,Dk.pre h1 hp⟩
 rd:=by
  rintro N x cs fp ⟨v1,v2,f1,f2,rfl,h0,h1,rfl⟩
  exact⟨_,_,rfl,kAct.rd h0,Dk.rd h1⟩
 loc:=by
  rintro N U x cs fp ⟨v1,v2,f1,f2,rfl,h0,h1,rfl⟩ hf
  exact⟨_,_,_,_,rfl,kAct.loc h0 (fun g hg=>hf g (Zab _ hg)),Dk.loc h1 (fun g hg=>hf g (Zaa _ hg)),rfl⟩
structure Log where
 rep:Int
 time:Int
 state:State
 units:List Unit_
 waits:List Unit_
def kLog:Kd Log where
 z:=8
 R N x cs:=∃ v2 v3 v4,cs=(.int .i64 x.rep)::(.int .i64 x.time)::v2++(v3::v4::[])/\A8.R N x.state v2/\RS Bt N v3 x.units/\RS Bt N v4 x.waits
 O N x cs fp:=∃ v2 v3 v4 f2 f3 f4,cs=(.int .i64 x.rep)::(.int .i64 x.time)::v2++(v3::v4::[])/\A8.O N x.state v2 f2/\OS Bt N x.units v3 f3/\OS Bt N x.waits v4 f4/\fp=f2++(f3++(f4))
 len:=by
  rintro N x cs ⟨v2,v3,v4,rfl,h0,h1,h2⟩
  have l0:=A8.len h0
  simp[l0,A8]
 pre:=by
  rintro N U x cs ⟨v2,v3,v4,rfl,h0,h1,h2⟩ hp
  exact⟨_,_,_,rfl,A8.pre h0 hp,h1.pre hp,h2.pre hp⟩
 rd:=by
  rintro N x cs fp ⟨v2,v3,v4,f2,f3,f4,rfl,h0,h1,h2,rfl⟩
  exact⟨_,_,_,rfl,A8.rd h0,h1.rd,h2.rd⟩
 loc:=by
  rintro N U x cs fp ⟨v2,v3,v4,f2,f3,f4,rfl,h0,h1,h2,rfl⟩ hf
  exact⟨_,_,_,_,_,_,rfl,A8.loc h0 (fun g hg=>hf g (Zab _ hg)),h1.loc (fun g hg=>hf g (Zaa _ (Zab _ hg))),h2.loc (fun g hg=>hf g (Zaa _ (Zaa _ hg))),rfl⟩
structure Commit where
 id:Dot
 ups:List Int
 state:State
def Bo:Kd Commit where
 z:=7
 R N x cs:=∃ v1 v2,cs=(.int .i64 x.id.rep)::(.int .i64 x.id.seq)::v1::v2++([])/\RS pI.kd N v1 x.ups/\A8.R N x.state v2
 O N x cs fp:=∃ v1 v2 f1 f2,cs=(.int .i64 x.id.rep)::(.int .i64 x.id.seq)::v1::v2++([])/\OS pI.kd N x.ups v1 f1/\A8.O N x.state v2 f2/\fp=f1++(f2)
 len:=by
  rintro N x cs ⟨v1,v2,rfl,h0,h1⟩
  have l1:=A8.len h1
  simp[l1,A8]
 pre:=by
  rintro N U x cs ⟨v1,v2,rfl,h0,h1⟩ hp
  exact⟨_,_,rfl,h0.pre hp,A8.pre h1 hp⟩
 rd:=by
  rintro N x cs fp ⟨v1,v2,f1,f2,rfl,h0,h1,rfl⟩
  exact⟨_,_,rfl,h0.rd,A8.rd h1⟩
 loc:=by
  rintro N U x cs fp ⟨v1,v2,f1,f2,rfl,h0,h1,rfl⟩ hf
  exact⟨_,_,_,_,rfl,h0.loc (fun g hg=>hf g (Zab _ hg)),A8.loc h1 (fun g hg=>hf g (Zaa _ hg)),rfl⟩
structure Graph where
 commits:List Commit
 head:Int
def E1:Kd Graph where
 z:=2
 R N x cs:=∃ v0,cs=v0::(.int .i64 x.head)::[]/\RS Bo N v0 x.commits
 O N x cs fp:=∃ v0 f0,cs=v0::(.int .i64 x.head)::[]/\OS Bo N x.commits v0 f0/\fp=f0
 len:=by
  rintro N x cs ⟨v0,rfl,h0⟩
  simp[]
 pre:=by
  rintro N U x cs ⟨v0,rfl,h0⟩ hp
  exact⟨_,rfl,h0.pre hp⟩
 rd:=by
  rintro N x cs fp ⟨v0,f0,rfl,h0,rfl⟩
  exact⟨_,rfl,h0.rd⟩
 loc:=by
  rintro N U x cs fp ⟨v0,f0,rfl,h0,rfl⟩ hf
  exact⟨_,_,rfl,h0.loc (fun g hg=>hf g hg),rfl⟩
structure Replica where
 way:Int
 log:Log
 graph:Graph
 file:File
 out:List Unit_
def Bi:Kd Replica where
 z:=14
 R N x cs:=∃ v1 v2 v4,cs=(.int .i64 x.way)::v1++(v2++((.str x.file.text)::(.int .i64 x.file.synced)::v4::[]))/\kLog.R N x.log v1/\E1.R N x.graph v2/\RS Bt N v4 x.out
 O N x cs fp:=∃ v1 v2 v4 f1 f2 f4,cs=(.int .i64 x.way)::v1++(v2++((.str x.file.text)::(.int .i64 x.file.synced)::v4::[]))/\kLog.O N x.log v1 f1/\E1.O N x.graph v2 f2/\OS Bt N x.out v4 f4/\fp=f1++(f2++(f4))
 len:=by
  rintro N x cs ⟨v1,v2,v4,rfl,h0,h1,h2⟩
  have l0:=kLog.len h0
  have l1:=E1.len h1
  simp[l0,l1,kLog,E1]
 pre:=by
  rintro N U x cs ⟨v1,v2,v4,rfl,h0,h1,h2⟩ hp
  exact⟨_,_,_,rfl,kLog.pre h0 hp,E1.pre h1 hp,h2.pre hp⟩
 rd:=by
  rintro N x cs fp ⟨v1,v2,v4,f1,f2,f4,rfl,h0,h1,h2,rfl⟩
  exact⟨_,_,_,rfl,kLog.rd h0,E1.rd h1,h2.rd⟩
 loc:=by
  rintro N U x cs fp ⟨v1,v2,v4,f1,f2,f4,rfl,h0,h1,h2,rfl⟩ hf
  exact⟨_,_,_,_,_,_,rfl,kLog.loc h0 (fun g hg=>hf g (Zab _ hg)),E1.loc h1 (fun g hg=>hf g (Zaa _ (Zab _ hg))),h2.loc (fun g hg=>hf g (Zaa _ (Zaa _ hg))),rfl⟩
structure World_ where
 replicas:List Replica
 net:List Letter
 codes:List Int
 synced:List (List Int)
structure Script where
 ways:List Int
 events:List Event
 calm:Bool
theorem Bc {P:Program} {a:Cd} {Q:Ex->Env->St->Prop} {env:Env} {N:St} (n ri:Nat) (I:Nat->Env->St->Prop) (hr:env ri=gi 0) (h0:I 0 env N)
  (hs:∀ i env N,i<n->env ri=gi i->decide ((i:Int)<n)=true->I i env N->vc P a (fun e env' N'=>match e with| .nxt=>env' ri=gi ((i:Int)+1)/\I (i+1) env' N'|e=>Q e env' N') env N)
  (he:∀ env N,env ri=gi n->decide ((n:Int)<n)=false->I n env N->vc P a (fun e env' N'=>match e with| .nxt=>False|e=>Q e env' N') env N):vc P (.lop a) Q env N:=by
 refine Sd (fun k env N=>∃ i:Nat,k=n - i/\i<=n/\env ri=gi i/\I i env N) n ⟨0,rfl,Nat.zero_le _,hr,h0⟩ ?_
 rintro k env N ⟨i,rfl,hi,h1,h2⟩
 rcases Nat.lt_or_ge i n with hlt|hge
 ·refine Ao (hs i env N hlt h1 (by simp;omega) h2) fun e env' N' he=> ?_
  cases e with
  |nxt=>
   obtain⟨h3,h4⟩:=he
   exact⟨n - (i+1),by omega,i+1,rfl,hlt,h3,h4⟩
  |ext j=>exact he
  |ret=>exact he
 ·obtain rfl:i=n:=by omega
  refine Ao (he env N h1 (by simp) h2) fun e env' N' he=> ?_
  cases e with
  |nxt=>exact he.elim
  |ext j=>exact he
  |ret=>exact he
theorem Bp {P:Program} {a:Cd} {Q:Ex->Env->St->Prop} {env:Env} {N:St} (I:Nat->Env->St->Prop) (n:Nat) (h0:I n env N)
  (hs:∀ J:Nat->Env->St->Prop,(∀ k env N,I k env N->J k env N)->∀ k env N,I k env N->vc P a (fun e env' N'=>match e with| .nxt=>∃ k',k'<k/\J k' env' N'|e=>Q e env' N') env N):vc P (.lop a) Q env N:=Sd I n h0 (hs I fun _ _ _ h=>h)
theorem Pg {P:Program} {a:Cd} {Q:Ex->Env->St->Prop} {env:Env} {N:St} (n ri:Nat) (I:Nat->Env->St->Prop) (hr:env ri=gi 0) (h0:I 0 env N)
  (hs:∀ J:Nat->Env->St->Prop,(∀ i env N,I i env N->J i env N)->∀ i env N,i<n->env ri=gi i->decide ((i:Int)<n)=true->I i env N->vc P a (fun e env' N'=>match e with| .nxt=>env' ri=gi ((i:Int)+1)/\J (i+1) env' N'|e=>Q e env' N') env N)
  (he:∀ env N,env ri=gi n->decide ((n:Int)<n)=false->I n env N->vc P a (fun e env' N'=>match e with| .nxt=>False|e=>Q e env' N') env N):vc P (.lop a) Q env N:=Bc n ri I hr h0 (hs I fun _ _ _ h=>h) he
theorem Ch {N U:St} {x:Option Blk} (h:N++[x] <+: U):N <+: U:=(Zac _ _).trans h
theorem Je {N U:St} {z:Nat} {cs:List GV} (h:N++[some (.row z cs)] <+: U):rdB U N.length=some cs:=Aq h (by unfold rdB;simp[Blk.cells])
theorem Adh {N:St} {g:Nat} {cs:List GV} (h:rdB N g=some cs) (r:St):rdB (N++r) g=some cs:=Aq (Zac _ _) h
theorem pre1 (N:St) (x:Option Blk):N <+: N++[x]:=Zac _ _
theorem A2h {N U:St} {x y:Option Blk} (h:N++[x]++[y] <+: U):N <+: U:=Ch (Ch h)
theorem A7y {N U:St} {z:Nat} {cs:List GV} {y:Option Blk} (h:N++[some (.row z cs)]++[y] <+: U):rdB U N.length=some cs:=Je (Ch h)
attribute [go_sem] Bool.true_xor Bool.false_xor Af Nat.reduceEqDiff Int.reduceEq Int.reduceNeg Zag
attribute [go_sem ↓] reduceIte
theorem RdN.cellsN {Y:Type} {d:Kd Y} {U:St} {v:GV} {l:List Y} (h:RS d U v l) {i:Nat} (hi:i<l.length):∃ cs,(iadG d.z v (some i)=some (atz d.z v i)/\(∀ k,fadG k (atz d.z v i)=some (fld k (atz d.z v i)))/\(∀ k m,fadG k (fld m (atz d.z v i))=some (fld (m+k) (atz d.z v i)))/\ldG true d.z U (atz d.z v i)=some (.agg cs)/\∀ k n a,k+n<=d.z->ldG a n U (fld k (atz d.z v i))=(seg cs k n).bind (mkv a))/\d.R U l[i] cs:=by
 obtain⟨cs,hr,hs⟩:=RdN.cells h hi
 have hl:=d.len hr
 have h1:=hs 0 d.z cs (by simp[seg,hl];exact List.take_of_length_le (by omega)) true
 refine⟨cs,⟨RdN.iad h hi,fun k=>RdN.fad h hi,fun k m=>RdN.fad2 h hi,?_,fun k n a hk=> ?_⟩,hr⟩
 ·have h2:mkv true cs=some (.agg cs):=rfl
  rw[<- h2,<-h1]
  rcases h with⟨rfl,_⟩|⟨g,off,cs,rfl,_⟩
  ·simp at hi
  ·rfl
 ·have e:seg cs k n=some ((cs.drop k).take n):=by unfold seg;rw[if_pos (by omega)]
  rw[e];exact hs k n _ e a
theorem F6 {P:Program} {env:Env} {U U':St} {K:Kt} {r:List Op1} {d:Option Nat} {D:Bool} {f:Nat} {args:List GV} {v:GV} {rs:List Thg} (h:Ret P f args U v U') (hp:Hp U U' rs) (k:Ac D P r K (upo env d v) U'):A2f D f args P r K env d U:=by_new h hp.sub k
theorem A4c {md:Bool} {P:Program} {f:Nat} {F:Fn1} {args:List GV} {N:St} {rs:GV->List Thg} (hF:Gg md P f=some F) (hl:args.length<=F.n)
  (h:vc P F.c (fun e env U=>Sa e=true/\∃ r,resG env U F.rs=some r/\Hp N U (rs r)) (env0 args) N):∃ r U,Ret P f args N r U/\Hp N U (rs r):=by
 obtain⟨r,U,h1,h2,h3⟩:=Sb (Post:=fun r U=>Hp N U (rs r)) hF hl (Ao h fun e env U he=>by
  obtain⟨ho,r,hr,hp⟩:=he
  exact⟨ho,r,hr,hp.sub,hp⟩)
 exact⟨r,U,h1,h3⟩
@[go_sem] theorem rs_c {env:Env} {N:St} {a n:Nat} {agg:Bool}:(Rs.c a agg n).ev env N=ldG agg n N (env a):=by
 cases h:env a<;>simp[Rs.ev,h,ptrG,ldG]
@[go_sem] theorem st_new {n:Nat} {U:St} {z off:Nat} {cs:List GV} {x:GV}:stG n (U++[some (.row z cs)]) (.ptr U.length off) x=if off+n<=cs.length/\0<n/\x.cells.length=n then some (.tup [],U++[some (.row z (Al cs off x.cells))]) else none:=by
 simp[stG]
@[go_sem] theorem st_new2 {n:Nat} {U:St} {z off:Nat} {cs:List GV} {x:GV} {b:Option Blk}:stG n (U++[some (.row z cs)]++[b]) (.ptr U.length off) x=if off+n<=cs.length/\0<n/\x.cells.length=n then some (.tup [],U++[some (.row z (Al cs off x.cells))]++[b]) else none:=by
 simp[stG]
theorem A7z {n:Nat} {U U':St} {a x:GV} (h:stG n U a x=some (.tup [],U')):U'.length=U.length:=by
 unfold stG at h
 repeat' split at h
 all_goals first|cases h;done|(injection h with h;injection h with h1 h2;subst h2;simp)
@[go_sem] theorem Lc {a:Bool} {n:Nat} {U:St} {z off:Nat} {cs:List GV}:ldG a n (U++[some (.row z cs)]) (.ptr U.length off)=(seg cs off n).bind (mkv a):=A2 (by unfold rdB;simp[Blk.cells])
@[go_sem] theorem Jf {a:Bool} {n:Nat} {U:St} {z off:Nat} {cs:List GV} {b:Option Blk}:ldG a n (U++[some (.row z cs)]++[b]) (.ptr U.length off)=(seg cs off n).bind (mkv a):=A2 (by unfold rdB;simp[Blk.cells])
@[go_sem] theorem ld_new3 {a:Bool} {n:Nat} {U:St} {z off:Nat} {cs:List GV} {b c:Option Blk}:ldG a n (U++[some (.row z cs)]++[b]++[c]) (.ptr U.length off)=(seg cs off n).bind (mkv a):=A2 (by unfold rdB;simp[Blk.cells])
@[go_sem] theorem eqb_bool {n a b:Bool}:eqbG n (.bool a) (.bool b)=some (.bool (n ^^ (a==b))):=(rfl)
@[go_sem] theorem len_str {s:ByteArray}:lenG true (.str s)=some (s.size:Int):=(rfl)
theorem pre2 {N:St} {x y:Option Blk}:N <+: N++[x]++[y]:=A0 (pre1 _ _) _
theorem pre3 {N:St} {x y z:Option Blk}:N <+: N++[x]++[y]++[z]:=A0 pre2 _
attribute [go_sem] pre1 pre2 pre3 Option.some.injEq GV.int.injEq GV.bool.injEq GV.str.injEq
attribute [go_sem] decide_true decide_false Int.natCast_add Int.cast_ofNat_Int Int.add_zero Bool.true_eq_false
theorem Bb {cs:List GV} {n:Nat} (h:cs.length=n):(seg cs 0 n).bind (mkv true)=some (.agg cs):=by
 subst h
 simp[seg,mkv]
theorem Sm {cs ds:List GV} {n:Nat} (h:ds.length=n) (hc:cs.length=n):Al cs 0 ds=ds:=by
 simp[Al,h,<-hc]
@[go_sem] theorem ext_0i {k:IntKind} {n:Int} {r:List GV}:extG 0 (.tup (.int k n::r))=some (.int k n):=(rfl)
@[go_sem] theorem ext_1i {w:GV} {k:IntKind} {n:Int} {r:List GV}:extG 1 (.tup (w::.int k n::r))=some (.int k n):=(rfl)
@[go_sem] theorem ext_1b {w:GV} {c:Bool} {r:List GV}:extG 1 (.tup (w::.bool c::r))=some (.bool c):=(rfl)
theorem Adi {md:Bool} {P:Program} {f:Nat} {F:Fn1} {args:List GV} {N:St} (hF:Gg md P f=some F) (hl:args.length<=F.n)
  (h:vc P F.c (fun e env U=>Sa e=true/\resG env U F.rs=some (.bool true)/\N.length<=U.length) (env0 args) N):∃ r U,Ret P f args N r U/\r= .bool true:=
 Ap (Post:=fun r U=>r= .bool true) hF hl (Ao h fun e env U he=>⟨he.1,_,he.2.1,he.2.2,rfl⟩)
@[go_sem] theorem tup2_if {x y:GV}:tup2 (some x) (some y)=if Ew x&&Ew y then some (.tup [x,y]) else none:=(rfl)
@[go_sem] theorem notTup_int {k:IntKind} {n:Int}:Ew (.int k n)=true:=(rfl)
@[go_sem] theorem Agy {b:Bool}:Ew (.bool b)=true:=(rfl)
@[go_sem] theorem notTup_agg {cs:List GV}:Ew (.agg cs)=true:=(rfl)
theorem Adj {Y:Type} {p:Pl Y} (U:St) {z:Nat} {cs:List GV} (l:List Y) {n:Nat} (hz:z=p.z) (hc:cs=p.cells l) (hn:n=l.length):RS p.kd (U++[some (.row z cs)]) (.sl U.length 0 n) l:=by
 subst hz hc hn
 exact(((Hp.refl U).new p.z (p.cells l)).toRow 0 rfl l rfl rfl _ rfl).sl 0 rfl
namespace Hp
theorem restart {N U:St} {rs:List Thg} (H:Hp N U rs):Hp U U []:=refl U
theorem conv {N U:St} {r r':Thg} {rs:List Thg} (H:Hp N U (r::rs)) (h:∀ fp,r.P U fp->r'.P U fp):Hp N U (r'::rs):=by
 obtain⟨a,ha,hn,hb,ht⟩:=H.turn
 exact ht ⟨hn,fun g hg=>.inl hg,Nat.le_refl _,fun _ _ _=>rfl⟩ (h a ha)
theorem app_int {N U:St} {rs:List Thg} {v:GV} {l:List Int} (H:Hp N U rs) (i:Nat) (hi:rs[i]? =some (ow pI.kd v l)) (x:Int) (hb:(l.length+1)*8<=140737488355328):∃ v' U',appV 1 8 (U++[some (.row 1 [.int .i64 x])]) v (.sl U.length 0 1)=some (v',U')/\Hp N U' (rs.set i (ow pI.kd v' (l++[x]))):=H.app1 i hi x (by decide) hb
theorem nil_int {N U:St} {rs:List Thg} (H:Hp N U rs):Hp N (U++[some (.row 1 [])]) (ow pI.kd (.sl U.length 0 0) []::rs):=H.newNil pI.kd
theorem app_str {N U:St} {rs:List Thg} {v:GV} {l:List ByteArray} (H:Hp N U rs) (i:Nat) (hi:rs[i]? =some (ow pS.kd v l)) (x:ByteArray) (hb:(l.length+1)*16<=140737488355328):∃ v' U',appV 1 16 (U++[some (.row 1 [.str x])]) v (.sl U.length 0 1)=some (v',U')/\Hp N U' (rs.set i (ow pS.kd v' (l++[x]))):=H.app1 i hi x (by decide) hb
theorem nil_str {N U:St} {rs:List Thg} (H:Hp N U rs):Hp N (U++[some (.row 1 [])]) (ow pS.kd (.sl U.length 0 0) []::rs):=H.newNil pS.kd
theorem app_Dot {N U:St} {rs:List Thg} {v:GV} {l:List Dot} (H:Hp N U rs) (i:Nat) (hi:rs[i]? =some (ow pDot.kd v l)) (x:Dot) (hb:(l.length+1)*16<=140737488355328):∃ v' U',appV 2 16 (U++[some (.row 2 [.int .i64 x.rep,.int .i64 x.seq])]) v (.sl U.length 0 1)=some (v',U')/\Hp N U' (rs.set i (ow pDot.kd v' (l++[x]))):=H.app1 i hi x (by decide) hb
theorem nil_Dot {N U:St} {rs:List Thg} (H:Hp N U rs):Hp N (U++[some (.row 2 [])]) (ow pDot.kd (.sl U.length 0 0) []::rs):=H.newNil pDot.kd
theorem app_Live {N U:St} {rs:List Thg} {v:GV} {l:List Live} (H:Hp N U rs) (i:Nat) (hi:rs[i]? =some (ow Da.kd v l)) (x:Live) (hb:(l.length+1)*64<=140737488355328):∃ v' U',appV 6 64 (U++[some (.row 6 [.bool x.map,.str x.obj,.str x.key,.int .i64 x.val,.int .i64 x.dot.rep,.int .i64 x.dot.seq])]) v (.sl U.length 0 1)=some (v',U')/\Hp N U' (rs.set i (ow Da.kd v' (l++[x]))):=H.app1 i hi x (by decide) hb
theorem nil_Live {N U:St} {rs:List Thg} (H:Hp N U rs):Hp N (U++[some (.row 6 [])]) (ow Da.kd (.sl U.length 0 0) []::rs):=H.newNil Da.kd
theorem app_Cell {N U:St} {rs:List Thg} {v:GV} {l:List Cell} (H:Hp N U rs) (i:Nat) (hi:rs[i]? =some (ow Aj.kd v l)) (x:Cell) (hb:(l.length+1)*72<=140737488355328):∃ v' U',appV 8 72 (U++[some (.row 8 [.str x.obj,.int .i64 x.dot.rep,.int .i64 x.dot.seq,.int .i64 x.time,.int .i64 x.ref.rep,.int .i64 x.ref.seq,.int .i64 x.val,.bool x.gone])]) v (.sl U.length 0 1)=some (v',U')/\Hp N U' (rs.set i (ow Aj.kd v' (l++[x]))):=H.app1 i hi x (by decide) hb
theorem nil_Cell {N U:St} {rs:List Thg} (H:Hp N U rs):Hp N (U++[some (.row 8 [])]) (ow Aj.kd (.sl U.length 0 0) []::rs):=H.newNil Aj.kd
theorem one {N U:St} {r:Thg} {rs:List Thg} (H:Hp N U (r::rs)):Hp N U [r]:=by
 obtain⟨h,fp,⟨a,b,hr,hs,rfl⟩,hn,hb⟩:=H
 exact⟨h,a,⟨a,[],hr,rfl,by simp⟩,(List.nodup_append.1 hn).1,fun g hg=>hb g (Zab _ hg)⟩
theorem stw {Y:Type} {p:Pl Y} {N U:St} {rs:List Thg} {v:GV} {l:List Y} (H:Hp N U rs) (i:Nat) (hi:rs[i]? =some (ow p.kd v l)) {j:Nat} (hj:j<l.length) (n:Nat) (x:GV) (y:Y) (hx:x.cells=p.enc y) (hn:n=p.z) (hz:0<n):
  ∃ U',stG n U (atz p.z v j) x=some (.tup [],U')/\Hp N U' (rs.set i (ow p.kd v (l.set j y))):=by
 subst hn
 have:=H.ste i hi hj p.z 0 x y (by rw[hx,p.len]) hz (by omega) (by rw[hx];unfold Al;rw[List.take_zero,Zaf,p.len,List.drop_eq_nil_of_le (by rw[p.len];omega),Zag])
 obtain⟨U',e,h⟩:=this
 refine⟨U',?_,h⟩
 rw[<- e]
 cases v<;>rfl
end Hp
theorem Sl.rs {Y:Type} {e:Ek Y} {k:Kd Y} (hz:e.z=k.z) (hb:∀ {N x cs},e.R N x cs->k.R N x cs) {N:St} {v:GV} {l:List Y} (h:Sl e N v l):RS k N v l:=by
 rcases h with h|⟨g,off,cs,h1,h2,h3,h4⟩
 ·exact .inl h
 ·refine .inr ⟨g,off,cs,h1,Agt h2,by show off+l.length*k.z<=_;rw[<- hz];exact h3,fun i x hx=> ?_⟩
  show k.R N x ((cs.drop (off+i*k.z)).take k.z)
  rw[<- hz];exact hb (h4 i x hx)
theorem agg_of {P:Program} {w:World} {r:Reach} {base:Nat} {t:TypeId} {fs:Array Field} {v:Value} (ht:P.underlying t=some (.struct fs)) (h:Value.okWide P w r base t v):∃ cs,v= .agg cs:=by
 simp only[Value.okWide,ht] at h
 obtain⟨cs,h1,_⟩:=h
 exact⟨cs,h1⟩
def eDot:Ek Dot:=Ek.iso (Ek.pair (Ek.int .i64) (Ek.int .i64)) (fun x=>(x.rep,x.seq))
def zDot (x:Dot):Prop:=I64 (x.rep)/\I64 (x.seq)
theorem A80 {N:St} {x:Dot} {cs:List GV} (h:eDot.R N x cs):pDot.kd.R N x cs:=by
 obtain⟨c0,d0,rfl,h0,h⟩:=h
 obtain rfl:=h0
 obtain rfl:=h
 rfl
def eTally:Ek Tally:=Ek.iso (Ek.pair Ek.str (Ek.pair (Ek.int .i64) (Ek.int .i64))) (fun x=>(x.obj,x.rep,x.sum))
def zTally (x:Tally):Prop:=(x.obj).size<=9223372036854775807/\I64 (x.rep)/\I64 (x.sum)
theorem Adk {N:St} {x:Tally} {cs:List GV} (h:eTally.R N x cs):Dz.kd.R N x cs:=by
 obtain⟨c0,d0,rfl,h0,h⟩:=h
 obtain rfl:=h0
 obtain⟨c1,d1,rfl,h1,h⟩:=h
 obtain rfl:=h1
 obtain rfl:=h
 rfl
def eLive:Ek Live:=Ek.iso (Ek.pair Ek.bool (Ek.pair Ek.str (Ek.pair Ek.str (Ek.pair (Ek.int .i64) eDot)))) (fun x=>(x.map,x.obj,x.key,x.val,x.dot))
def zLive (x:Live):Prop:=True/\(x.obj).size<=9223372036854775807/\(x.key).size<=9223372036854775807/\I64 (x.val)/\zDot (x.dot)
theorem Afs {N:St} {x:Live} {cs:List GV} (h:eLive.R N x cs):Da.kd.R N x cs:=by
 obtain⟨c0,d0,rfl,h0,h⟩:=h
 obtain rfl:=h0
 obtain⟨c1,d1,rfl,h1,h⟩:=h
 obtain rfl:=h1
 obtain⟨c2,d2,rfl,h2,h⟩:=h
 obtain rfl:=h2
 obtain⟨c3,d3,rfl,h3,h⟩:=h
 obtain rfl:=h3
 obtain rfl:=A80 h
 rfl
def eCell:Ek Cell:=Ek.iso (Ek.pair Ek.str (Ek.pair eDot (Ek.pair (Ek.int .i64) (Ek.pair eDot (Ek.pair (Ek.int .i64) Ek.bool))))) (fun x=>(x.obj,x.dot,x.time,x.ref,x.val,x.gone))
def zCell (x:Cell):Prop:=(x.obj).size<=9223372036854775807/\zDot (x.dot)/\I64 (x.time)/\zDot (x.ref)/\I64 (x.val)/\True
theorem Aft {N:St} {x:Cell} {cs:List GV} (h:eCell.R N x cs):Aj.kd.R N x cs:=by
 obtain⟨c0,d0,rfl,h0,h⟩:=h
 obtain rfl:=h0
 obtain⟨c1,d1,rfl,h1,h⟩:=h
 obtain rfl:=A80 h1
 obtain⟨c2,d2,rfl,h2,h⟩:=h
 obtain rfl:=h2
 obtain⟨c3,d3,rfl,h3,h⟩:=h
 obtain rfl:=A80 h3
 obtain⟨c4,d4,rfl,h4,h⟩:=h
 obtain rfl:=h4
 obtain rfl:=h
 rfl
def eFile:Ek File:=Ek.iso (Ek.pair Ek.str (Ek.int .i64)) (fun x=>(x.text,x.synced))
def zFile (x:File):Prop:=(x.text).size<=9223372036854775807/\I64 (x.synced)
theorem brFile {N:St} {x:File} {cs:List GV} (h:eFile.R N x cs):Adg.kd.R N x cs:=by
 obtain⟨c0,d0,rfl,h0,h⟩:=h
 obtain rfl:=h0
 obtain rfl:=h
 rfl
def eAct:Ek Act:=Ek.iso (Ek.pair eDot (Ek.pair (Ek.int .i64) (Ek.pair (Ek.slice (Ek.int .i64)) (Ek.pair (Ek.int .i64) (Ek.pair Ek.str (Ek.pair Ek.str (Ek.pair (Ek.int .i64) eDot))))))) (fun x=>(x.dot,x.time,x.knew,x.kind,x.obj,x.key,x.val,x.ref))
def zAct (x:Act):Prop:=zDot (x.dot)/\I64 (x.time)/\((x.knew).length<=9223372036854775807/\∀ y4∈x.knew,I64 (y4))/\I64 (x.kind)/\(x.obj).size<=9223372036854775807/\(x.key).size<=9223372036854775807/\I64 (x.val)/\zDot (x.ref)
theorem brAct {N:St} {x:Act} {cs:List GV} (h:eAct.R N x cs):kAct.R N x cs:=by
 obtain⟨c0,d0,rfl,h0,h⟩:=h
 obtain rfl:=A80 h0
 obtain⟨c1,d1,rfl,h1,h⟩:=h
 obtain rfl:=h1
 obtain⟨c2,d2,rfl,h2,h⟩:=h
 obtain⟨v2,rfl,s2⟩:=h2
 obtain⟨c3,d3,rfl,h3,h⟩:=h
 obtain rfl:=h3
 obtain⟨c4,d4,rfl,h4,h⟩:=h
 obtain rfl:=h4
 obtain⟨c5,d5,rfl,h5,h⟩:=h
 obtain rfl:=h5
 obtain⟨c6,d6,rfl,h6,h⟩:=h
 obtain rfl:=h6
 obtain rfl:=A80 h
 exact⟨v2,rfl,s2.rs rfl (fun h=>h)⟩
def eState:Ek State:=Ek.iso (Ek.pair (Ek.slice (Ek.int .i64)) (Ek.pair (Ek.slice eTally) (Ek.pair (Ek.slice eLive) (Ek.slice eCell)))) (fun x=>(x.know,x.tallies,x.lives,x.cells))
def zState (x:State):Prop:=((x.know).length<=9223372036854775807/\∀ y4∈x.know,I64 (y4))/\((x.tallies).length<=9223372036854775807/\∀ y6∈x.tallies,zTally (y6))/\((x.lives).length<=9223372036854775807/\∀ y5∈x.lives,zLive (y5))/\((x.cells).length<=9223372036854775807/\∀ y5∈x.cells,zCell (y5))
theorem A81 {N:St} {x:State} {cs:List GV} (h:eState.R N x cs):A8.R N x cs:=by
 obtain⟨c0,d0,rfl,h0,h⟩:=h
 obtain⟨v0,rfl,s0⟩:=h0
 obtain⟨c1,d1,rfl,h1,h⟩:=h
 obtain⟨v1,rfl,s1⟩:=h1
 obtain⟨c2,d2,rfl,h2,h⟩:=h
 obtain⟨v2,rfl,s2⟩:=h2
 obtain⟨v3,rfl,s3⟩:=h
 exact⟨v0,v1,v2,v3,rfl,s0.rs rfl (fun h=>h),s1.rs rfl (Adk),s2.rs rfl (Afs),s3.rs rfl (Aft)⟩
def eDelta:Ek Delta:=Ek.iso (Ek.pair (Ek.slice (Ek.int .i64)) (Ek.pair (Ek.slice (Ek.int .i64)) (Ek.pair (Ek.slice eTally) (Ek.pair (Ek.slice eLive) (Ek.pair (Ek.slice eDot) (Ek.slice eCell)))))) (fun x=>(x.base,x.know,x.tallies,x.lives,x.dead,x.cells))
def zDelta (x:Delta):Prop:=((x.base).length<=9223372036854775807/\∀ y4∈x.base,I64 (y4))/\((x.know).length<=9223372036854775807/\∀ y4∈x.know,I64 (y4))/\((x.tallies).length<=9223372036854775807/\∀ y6∈x.tallies,zTally (y6))/\((x.lives).length<=9223372036854775807/\∀ y5∈x.lives,zLive (y5))/\((x.dead).length<=9223372036854775807/\∀ y4∈x.dead,zDot (y4))/\((x.cells).length<=9223372036854775807/\∀ y5∈x.cells,zCell (y5))
theorem Agz {N:St} {x:Delta} {cs:List GV} (h:eDelta.R N x cs):Dk.R N x cs:=by
 obtain⟨c0,d0,rfl,h0,h⟩:=h
 obtain⟨v0,rfl,s0⟩:=h0
 obtain⟨c1,d1,rfl,h1,h⟩:=h
 obtain⟨v1,rfl,s1⟩:=h1
 obtain⟨c2,d2,rfl,h2,h⟩:=h
 obtain⟨v2,rfl,s2⟩:=h2
 obtain⟨c3,d3,rfl,h3,h⟩:=h
 obtain⟨v3,rfl,s3⟩:=h3
 obtain⟨c4,d4,rfl,h4,h⟩:=h
 obtain⟨v4,rfl,s4⟩:=h4
 obtain⟨v5,rfl,s5⟩:=h
 exact⟨v0,v1,v2,v3,v4,v5,rfl,s0.rs rfl (fun h=>h),s1.rs rfl (fun h=>h),s2.rs rfl (Adk),s3.rs rfl (Afs),s4.rs rfl (A80),s5.rs rfl (Aft)⟩
def eUnit_:Ek Unit_:=Ek.iso (Ek.pair Ek.bool (Ek.pair eAct eDelta)) (fun x=>(x.batch,x.act,x.delta))
def zUnit_ (x:Unit_):Prop:=True/\zAct (x.act)/\zDelta (x.delta)
theorem A82 {N:St} {x:Unit_} {cs:List GV} (h:eUnit_.R N x cs):Bt.R N x cs:=by
 obtain⟨c0,d0,rfl,h0,h⟩:=h
 obtain rfl:=h0
 obtain⟨c1,d1,rfl,h1,h⟩:=h
 have s1:=brAct h1
 have s2:=Agz h
 exact⟨_,_,by simp[pDot,Adg],s1,s2⟩
def eLog:Ek Log:=Ek.iso (Ek.pair (Ek.int .i64) (Ek.pair (Ek.int .i64) (Ek.pair eState (Ek.pair (Ek.slice eUnit_) (Ek.slice eUnit_))))) (fun x=>(x.rep,x.time,x.state,x.units,x.waits))
def zLog (x:Log):Prop:=I64 (x.rep)/\I64 (x.time)/\zState (x.state)/\((x.units).length<=9223372036854775807/\∀ y6∈x.units,zUnit_ (y6))/\((x.waits).length<=9223372036854775807/\∀ y6∈x.waits,zUnit_ (y6))
theorem brLog {N:St} {x:Log} {cs:List GV} (h:eLog.R N x cs):kLog.R N x cs:=by
 obtain⟨c0,d0,rfl,h0,h⟩:=h
 obtain rfl:=h0
 obtain⟨c1,d1,rfl,h1,h⟩:=h
 obtain rfl:=h1
 obtain⟨c2,d2,rfl,h2,h⟩:=h
 have s2:=A81 h2
 obtain⟨c3,d3,rfl,h3,h⟩:=h
 obtain⟨v3,rfl,s3⟩:=h3
 obtain⟨v4,rfl,s4⟩:=h
 exact⟨_,v3,v4,by simp[pDot,Adg],s2,s3.rs rfl (A82),s4.rs rfl (A82)⟩
def eCommit:Ek Commit:=Ek.iso (Ek.pair eDot (Ek.pair (Ek.slice (Ek.int .i64)) eState)) (fun x=>(x.id,x.ups,x.state))
def zCommit (x:Commit):Prop:=zDot (x.id)/\((x.ups).length<=9223372036854775807/\∀ y4∈x.ups,I64 (y4))/\zState (x.state)
theorem Aez {N:St} {x:Commit} {cs:List GV} (h:eCommit.R N x cs):Bo.R N x cs:=by
 obtain⟨c0,d0,rfl,h0,h⟩:=h
 obtain rfl:=A80 h0
 obtain⟨c1,d1,rfl,h1,h⟩:=h
 obtain⟨v1,rfl,s1⟩:=h1
 have s2:=A81 h
 exact⟨v1,_,by simp[pDot,Adg],s1.rs rfl (fun h=>h),s2⟩
def eGraph:Ek Graph:=Ek.iso (Ek.pair (Ek.slice eCommit) (Ek.int .i64)) (fun x=>(x.commits,x.head))
def zGraph (x:Graph):Prop:=((x.commits).length<=9223372036854775807/\∀ y7∈x.commits,zCommit (y7))/\I64 (x.head)
theorem Ah0 {N:St} {x:Graph} {cs:List GV} (h:eGraph.R N x cs):E1.R N x cs:=by
 obtain⟨c0,d0,rfl,h0,h⟩:=h
 obtain⟨v0,rfl,s0⟩:=h0
 obtain rfl:=h
 exact⟨v0,rfl,s0.rs rfl (Aez)⟩
def eReplica:Ek Replica:=Ek.iso (Ek.pair (Ek.int .i64) (Ek.pair eLog (Ek.pair eGraph (Ek.pair eFile (Ek.slice eUnit_))))) (fun x=>(x.way,x.log,x.graph,x.file,x.out))
def zReplica (x:Replica):Prop:=I64 (x.way)/\zLog (x.log)/\zGraph (x.graph)/\zFile (x.file)/\((x.out).length<=9223372036854775807/\∀ y6∈x.out,zUnit_ (y6))
theorem Adl {N:St} {x:Replica} {cs:List GV} (h:eReplica.R N x cs):Bi.R N x cs:=by
 obtain⟨c0,d0,rfl,h0,h⟩:=h
 obtain rfl:=h0
 obtain⟨c1,d1,rfl,h1,h⟩:=h
 have s1:=brLog h1
 obtain⟨c2,d2,rfl,h2,h⟩:=h
 have s2:=Ah0 h2
 obtain⟨c3,d3,rfl,h3,h⟩:=h
 obtain rfl:=brFile h3
 obtain⟨v4,rfl,s4⟩:=h
 exact⟨_,_,v4,by simp[pDot,Adg],s1,s2,s4.rs rfl (A82)⟩
end Go.Proofs.YtnknigikcdgebaaGreatDoor.Sy
