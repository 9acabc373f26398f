/- Texts of this proof, one behind the other. -/
import Derived.Laws.AppendOwn
import Derived.Laws.CopyRow
import Derived.Orders
import Derived.Below
import Derived.Tactics
import Derived.Test.YtnknigikcdgebaaGreatDoorProg
import Derived.Calls
import Derived.Lib.ItoaNum
import Derived.ArgAppend
import Derived.Laws.StructEq
import Derived.Laws.Rows
import Derived.Laws.IdiomStrings
import Derived.Great.FillDense
import Derived.MapKept
import Derived.Carry
import Derived.Control
set_option linter.unusedSimpArgs false
set_option linter.unusedVariables false
set_option maxRecDepth 4000
set_option maxHeartbeats 4000000
open List renaming getElem?_append_left→Zaa,getElem?_append_right→Zab,eq_nil_of_length_eq_zero→Zae,getElem?_toArray→Zah,range→Zai,length_append→Zaj,getElem?_take→Zak,getElem?_drop→Zam,getElem?_eq_some_iff→Zao,mem_cons_of_mem→Zap,getElem?_of_mem→Zaq,length_cons→Zar,map_toArray→Zas,mem_cons_self→Zat,headD_cons→Zau,append_assoc→Zav,mem_of_getElem?→Zaw,length_nil→Zay,map_cons→Za0,map_nil→Za4,getElem?_eq_getElem→Za5,append_eq_nil_iff→Zba,length_set→Zbc,mem_append_right→Zbe,replicate_succ→Zbf,size_toArray→Zbj,set_set→Zbl,length_take→Zbn,drop_drop→Zbo,mapM_cons→Zbp
open Option renaming some→Zac,isSome_iff_exists→Za6,bind_some→Za9
open Nat renaming le_refl→Zad,lt_of_lt_of_le→Zaf,lt_or_ge→Zal,add_assoc→Zaz,add_mul→Za1,zero_le→Za7,le_mul_of_pos_right→Za8,add_zero→Zbd,pos_of_ne_zero→Zbi,le_trans→Zbk,zero_add→Zbm
open Bool renaming false_eq_true→Zag,true_and→Zbh
open Array renaming getElem?_toList→Zan,ext'→Zax,length_toList→Za2,range→Za3,getElem?_eq_none→Zbb,toList_append→Zbg
namespace Go.Proofs.YtnknigikcdgebaaGreatDoor.Sy
open Go Go.RowKit
theorem Z0z {n m:Nat} (h:Nat.ble n m=true):n<=m:=Nat.le_of_ble_eq_true h
theorem Z1z {Y β:Type} {o:Option Y} {f:Y->Option β} {b:β}:o.bind f=some b↔∃ a,o=some a/\f a=some b:=Option.bind_eq_some_iff
theorem Z2z {Y β:Type} {o:Option Y} {f:Y->β} {b:β}:o.map f=some b↔∃ a,o=some a/\f a=b:=Option.map_eq_some_iff
inductive All2 {Y β:Type} (R:Y->β->Prop):List Y->List β->Prop
 |nil:All2 R [] []
 |cons {a:Y} {b:β} {as_:List Y} {bs:List β}:R a b->All2 R as_ bs->All2 R (a::as_) (b::bs)
namespace All2
variable {Y β:Type} {R S:Y->β->Prop}
theorem length {as_:List Y} {bs:List β} (h:All2 R as_ bs):as_.length=bs.length:=by
 induction h with
 |nil=>rfl
 |cons _ _ ih=>simp[ih]
theorem imp {as_:List Y} {bs:List β} (h:All2 R as_ bs) (f:∀ a b,R a b->S a b):All2 S as_ bs:=by
 induction h with
 |nil=>exact .nil
 |cons h _ ih=>exact .cons (f _ _ h) ih
theorem imp_mem {as_:List Y} {bs:List β} (h:All2 R as_ bs) (f:∀ a b,a∈as_->R a b->S a b):All2 S as_ bs:=by
 induction h with
 |nil=>exact .nil
 |cons h _ ih=>exact .cons (f _ _ (Zat) h) (ih fun a b ha=>f a b (Zap _ ha))
theorem get {as_:List Y} {bs:List β} (h:All2 R as_ bs):∀ {j:Nat} {a:Y},as_[j]? =some a->∃ b,bs[j]? =some b/\R a b:=by
 induction h with
 |nil=>intro j a ha;simp at ha
 |cons h _ ih=>
  intro j a ha
  cases j with
  |zero=>simp at ha;subst ha;exact⟨_,rfl,h⟩
  |succ j=>exact ih (by simpa using ha)
theorem get' {as_:List Y} {bs:List β} (h:All2 R as_ bs):∀ {j:Nat} {b:β},bs[j]? =some b->∃ a,as_[j]? =some a/\R a b:=by
 induction h with
 |nil=>intro j a ha;simp at ha
 |cons h _ ih=>
  intro j a ha
  cases j with
  |zero=>simp at ha;subst ha;exact⟨_,rfl,h⟩
  |succ j=>exact ih (by simpa using ha)
theorem append {as_ as':List Y} {bs bs':List β} (h:All2 R as_ bs) (h':All2 R as' bs'):All2 R (as_++as') (bs++bs'):=by
 induction h with
 |nil=>exact h'
 |cons h _ ih=>exact .cons h ih
theorem take {as_:List Y} {bs:List β} (h:All2 R as_ bs):∀ n,All2 R (as_.take n) (bs.take n):=by
 induction h with
 |nil=>intro n;simp;exact .nil
 |cons h _ ih=>intro n;cases n with
  |zero=>exact .nil
  |succ n=>exact .cons h (ih n)
theorem drop {as_:List Y} {bs:List β} (h:All2 R as_ bs):∀ n,All2 R (as_.drop n) (bs.drop n):=by
 induction h with
 |nil=>intro n;simp;exact .nil
 |cons h t ih=>intro n;cases n with
  |zero=>exact .cons h t
  |succ n=>exact ih n
theorem of_get {as_:List Y}:∀ {bs:List β},as_.length=bs.length->(∀ (j:Nat) (a:Y) (b:β),as_[j]? =some a->bs[j]? =some b->R a b)->All2 R as_ bs:=by
 induction as_ with
 |nil=>intro bs hl _;cases bs with|nil=>exact .nil|cons b bs=>simp at hl
 |cons a as_ ih=>
  intro bs hl h
  cases bs with
  |nil=>simp at hl
  |cons b bs=>exact .cons (h 0 a b rfl rfl) (ih (by simpa using hl) fun(j:Nat) a' b' ha hb=>h (j+1) a' b' (by simpa using ha) (by simpa using hb))
theorem mem {as_:List Y} {bs:List β} (h:All2 R as_ bs) {a:Y} (ha:a∈as_):∃ b,b∈bs/\R a b:=by
 obtain⟨j,hj⟩:=Zaq ha
 obtain⟨b,hb,hr⟩:=h.get hj
 exact⟨b,Zaw hb,hr⟩
theorem mem' {as_:List Y} {bs:List β} (h:All2 R as_ bs) {b:β} (hb:b∈bs):∃ a,a∈as_/\R a b:=by
 obtain⟨j,hj⟩:=Zaq hb
 obtain⟨a,ha,hr⟩:=h.get' hj
 exact⟨a,Zaw ha,hr⟩
end All2
inductive GV where
 |int (k:IntKind) (n:Int)
 |bool (b:Bool)
 |str (s:ByteArray)
 |nilS
 |emp
 |sl (g off len:Nat)
 |nilP
 |ptr (g off:Nat)
 |fn (f:Nat) (caps:List (Nat×Nat))
 |mp (g:Nat)
 |agg (cs:List GV)
 |tup (vs:List GV)
structure Loc where
 a:Addr
 tot:Nat
 z:Nat
 own:Bool
abbrev Rho:=Nat->Option Loc
def sRel (W:Rho):GV->Value->Prop
 | .int k n,v=>v= .int k n
 | .bool b,v=>v= .bool b
 | .str s,v=>v= .string s
 | .nilS,v=>v= .slice none 0 0
 | .emp,v=>∃ a cap,v= .slice a 0 cap
 | .nilP,v=>v= .pointer none
 | .sl g off len,v=>∃ L,W g=some L/\∃ a cap,v= .slice (some a) len cap/\len<=cap/\(cap=0∨(a=L.a.add off/\(L.own=true->L.a.off+off+cap*L.z=L.tot)))
 | .ptr g off,v=>∃ L,W g=some L/\v= .pointer (some (L.a.add off))
 | .fn f caps,v=>∃ vs:List Value,v= .func (.func f) #[] vs.toArray/\All2 (fun c u=>∃ L,W c.1=some L/\u= .pointer (some (L.a.add c.2))) caps vs
 | .mp g,v=>∃ L,W g=some L/\v= .map (some L.a.block)
 | .agg _,_=>False
 | .tup _,_=>False
def cRel (W:Rho):GV->Value->Prop
 | .agg cs,v=>∃ vs:List Value,v= .agg vs.toArray/\All2 (sRel W) cs vs
 |x,v=>sRel W x v
def vRel (W:Rho):GV->Value->Prop
 | .tup xs,v=>∃ vs:List Value,v= .tuple vs.toArray/\All2 (cRel W) xs vs
 |x,v=>cRel W x v
def sLt (n:Nat):GV->Prop
 | .sl g _ _=>g<n
 | .ptr g _=>g<n
 | .mp g=>g<n
 | .fn _ caps=>∀ c∈caps,c.1<n
 | .agg _=>False
 | .tup _=>False
 |_=>True
def cLt (n:Nat):GV->Prop
 | .agg cs=>∀ c∈cs,sLt n c
 |x=>sLt n x
def vLt (n:Nat):GV->Prop
 | .tup vs=>∀ v∈vs,cLt n v
 |x=>cLt n x
def Le (W W':Rho):Prop:=∀ g L,W g=some L->W' g=some L
theorem Le.refl (W:Rho):Le W W:=fun _ _ h=>h
theorem Le.trans {a b c:Rho} (h:Le a b) (k:Le b c):Le a c:=fun g L hg=>k g L (h g L hg)
theorem sRel.mono {W W':Rho} (h:Le W W') {c:GV} {v:Value} (hr:sRel W c v):sRel W' c v:=by
 cases c with
 |sl g off len=>obtain⟨L,hL,r⟩:=hr;exact⟨L,h _ _ hL,r⟩
 |ptr g off=>obtain⟨L,hL,r⟩:=hr;exact⟨L,h _ _ hL,r⟩
 |mp g=>obtain⟨L,hL,r⟩:=hr;exact⟨L,h _ _ hL,r⟩
 |fn f caps=>obtain⟨vs,hv,r⟩:=hr;exact⟨vs,hv,r.imp fun _ _ ⟨L,hL,e⟩=>⟨L,h _ _ hL,e⟩⟩
 |_=>exact hr
theorem cRel.mono {W W':Rho} (h:Le W W') {c:GV} {v:Value} (hr:cRel W c v):cRel W' c v:=by
 cases c with
 |agg cs=>obtain⟨vs,hv,r⟩:=hr;exact⟨vs,hv,r.imp fun _ _ hs=>hs.mono h⟩
 |_=>simp only[cRel] at hr ⊢;exact sRel.mono h hr
theorem vRel.mono {W W':Rho} (h:Le W W') {c:GV} {v:Value} (hr:vRel W c v):vRel W' c v:=by
 cases c with
 |tup cs=>obtain⟨vs,hv,r⟩:=hr;exact⟨vs,hv,r.imp fun _ _ hs=>hs.mono h⟩
 |_=>simp only[vRel] at hr ⊢;exact cRel.mono h hr
theorem sRel.back {W W':Rho} {n:Nat} (h:∀ g,g<n->W' g=W g) {c:GV} {v:Value} (hl:sLt n c) (hr:sRel W' c v):sRel W c v:=by
 cases c with
 |sl g off len=>obtain⟨L,hL,r⟩:=hr;exact⟨L,(h g hl) ▸ hL,r⟩
 |ptr g off=>obtain⟨L,hL,r⟩:=hr;exact⟨L,(h g hl) ▸ hL,r⟩
 |mp g=>obtain⟨L,hL,r⟩:=hr;exact⟨L,(h g hl) ▸ hL,r⟩
 |fn f caps=>obtain⟨vs,hv,r⟩:=hr;exact⟨vs,hv,r.imp_mem fun c _ hm ⟨L,hL,e⟩=>⟨L,(h _ (hl c hm)) ▸ hL,e⟩⟩
 |_=>exact hr
theorem cRel.back {W W':Rho} {n:Nat} (h:∀ g,g<n->W' g=W g) {c:GV} {v:Value} (hl:cLt n c) (hr:cRel W' c v):cRel W c v:=by
 cases c with
 |agg cs=>obtain⟨vs,hv,r⟩:=hr;exact⟨vs,hv,r.imp_mem fun c _ hm hs=>hs.back h (hl c hm)⟩
 |_=>simp only[cRel,cLt] at hr hl ⊢;exact sRel.back h hl hr
theorem vRel.back {W W':Rho} {n:Nat} (h:∀ g,g<n->W' g=W g) {c:GV} {v:Value} (hl:vLt n c) (hr:vRel W' c v):vRel W c v:=by
 cases c with
 |tup cs=>obtain⟨vs,hv,r⟩:=hr;exact⟨vs,hv,r.imp_mem fun c _ hm hs=>hs.back h (hl c hm)⟩
 |_=>simp only[vRel,vLt] at hr hl ⊢;exact cRel.back h hl hr
theorem sRel.lt {W:Rho} {n:Nat} (hf:∀ g,n≤g->W g=none) {c:GV} {v:Value} (hr:sRel W c v):sLt n c:=by
 have key:∀ g L,W g=some L->g<n:=fun g L h=>by
  rcases Zal g n with h1|h1
  ·exact h1
  ·rw[hf g h1] at h;cases h
 cases c with
 |sl g off len=>obtain⟨L,hL,_⟩:=hr;exact key _ _ hL
 |ptr g off=>obtain⟨L,hL,_⟩:=hr;exact key _ _ hL
 |mp g=>obtain⟨L,hL,_⟩:=hr;exact key _ _ hL
 |fn f caps=>obtain⟨vs,_,r⟩:=hr;intro c hc;obtain⟨_,_,L,hL,_⟩:=r.mem hc;exact key _ _ hL
 |agg _=>exact hr.elim
 |tup _=>exact hr.elim
 |_=>trivial
theorem cRel.lt {W:Rho} {n:Nat} (hf:∀ g,n≤g->W g=none) {c:GV} {v:Value} (hr:cRel W c v):cLt n c:=by
 cases c with
 |agg cs=>obtain⟨vs,_,r⟩:=hr;intro c hc;obtain⟨_,_,hs⟩:=r.mem hc;exact hs.lt hf
 |_=>simp only[cRel,cLt] at hr ⊢;exact sRel.lt hf hr
theorem vRel.lt {W:Rho} {n:Nat} (hf:∀ g,n≤g->W g=none) {c:GV} {v:Value} (hr:vRel W c v):vLt n c:=by
 cases c with
 |tup cs=>obtain⟨vs,_,r⟩:=hr;intro c hc;obtain⟨_,_,hs⟩:=r.mem hc;exact hs.lt hf
 |_=>simp only[vRel,vLt] at hr ⊢;exact cRel.lt hf hr
theorem sLt.mono {n m:Nat} (h:n<=m) {c:GV} (hl:sLt n c):sLt m c:=by
 cases c with
 |fn f caps=>exact fun c hc=>Zaf (hl c hc) h
 |sl _ _ _=>exact Zaf hl h
 |ptr _ _=>exact Zaf hl h
 |mp _=>exact Zaf hl h
 |_=>exact hl
theorem cLt.mono {n m:Nat} (h:n<=m) {c:GV} (hl:cLt n c):cLt m c:=by
 cases c with
 |agg cs=>exact fun c hc=>(hl c hc).mono h
 |_=>simp only[cLt] at hl ⊢;exact sLt.mono h hl
theorem sRel.one {W:Rho} {c:GV} {v:Value} (hr:sRel W c v):v.oneCell'=true:=by
 cases c with
 |sl g off len=>obtain⟨L,hL,a,cap,rfl,_⟩:=hr;rfl
 |ptr g off=>obtain⟨L,hL,rfl⟩:=hr;rfl
 |mp g=>obtain⟨L,hL,rfl⟩:=hr;rfl
 |fn f caps=>obtain⟨vs,rfl,_⟩:=hr;rfl
 |emp=>obtain⟨a,cap,rfl⟩:=hr;rfl
 |agg _=>exact hr.elim
 |tup _=>exact hr.elim
 |_=>cases hr;rfl
inductive Blk where
 |row (z:Nat) (cs:List GV)
 |ice (z:Nat) (cs:List GV)
 |ro (z:Nat) (cs:List GV)
 |map (es:List (GV×GV))
def Blk.lt (n:Nat):Blk->Prop
 | .row _ cs=>∀ c∈cs,sLt n c
 | .ice _ cs=>∀ c∈cs,sLt n c
 | .ro _ cs=>∀ c∈cs,sLt n c
 | .map es=>∀ e∈es,cLt n e.1/\cLt n e.2
theorem Blk.lt.mono {n m:Nat} (h:n<=m) {B:Blk} (hl:B.lt n):B.lt m:=by
 cases B with
 |row ty cs=>exact fun c hc=>(hl c hc).mono h
 |ice z cs=>exact fun c hc=>(hl c hc).mono h
 |ro z cs=>exact fun c hc=>(hl c hc).mono h
 |map es=>exact fun e he=>⟨(hl e he).1.mono h,(hl e he).2.mono h⟩
def Blk.cells:Blk->Option (List GV)
 | .row _ cs=>some cs
 | .ice _ cs=>some cs
 | .ro _ cs=>some cs
 | .map _=>none
abbrev St:=List (Option Blk)
def A3v (W:Rho) (w:World) (L:Loc) (cs:List GV):Prop:=
 ∃ cur ty,w.heap[L.a.block]? =some (.cells cur ty (0,0))/\cur.size=L.tot/\(L.a.off+cs.length<=L.tot/\(cs=[]->L.tot=L.a.off))/\∀(j:Nat) (c:GV),cs[j]? =some c->∃ v,cur[L.a.off+j]? =some v/\sRel W c v
def holds (W:Rho) (w:World) (L:Loc):Blk->Prop
 | .row z cs=>L.own=true/\L.z=z/\A3v W w L cs
 | .ice z cs=>L.own=true/\L.z=z/\A3v W w L cs
 | .ro _ cs=>L.own=false/\∀(j:Nat) (c:GV),cs[j]? =some c->∃ v,w.cell? (L.a.add j)=some v/\sRel W c v
 | .map es=>L.own=true/\∃ entries clock,w.heap[L.a.block]? =some (.map entries clock)/\All2 (fun e (x:MapEntry)=>cRel W e.1 x.key/\cRel W e.2 x.val) es entries.toList
def Laid:World->Prop:=fun w0=>∀ w,Below w0.heap.size w0 w->∀ n:Int,-9223372036854775808<=n->n<=9223372036854775807->Calls Tryz.prog 249 #[.int .i64 n] w fun e w'=>e= .returned (.string ⟨(Lib.itoa n).toArray⟩)/\Below w.heap.size w w'
structure Good (w0:World) (W:Rho) (N:St) (w:World):Prop where
 below:Below w0.heap.size w0 w
 lay:Laid w0
 fresh:∀ g,N.length<=g->W g=none
 loc:∀ g L,W g=some L->L.own=true->L.a.spot=none/\w0.heap.size<=L.a.block/\L.a.block<w.heap.size/\0<L.z
 old:∀ g L,W g=some L->L.own=false->L.a.block<w0.heap.size
 closed:∀(g:Nat) B,N[g]? =some (some B)->B.lt N.length
 mem:∀(g:Nat) B L,N[g]? =some (some B)->W g=some L->holds W w L B
 inj:∀(g g':Nat) B B' L L',N[g]? =some (some B)->N[g']? =some (some B')->W g=some L->W g'=some L'->L.own=true->L'.own=true->L.a.block=L'.a.block->g=g'
def Frame (W:Rho) (N:St) (w:World) (W':Rho) (N':St) (w':World):Prop:=
 (∀ (g:Nat) B L,N'[g]? =some (some B)->W' g=some L->L.own=true->L.a.block<w.heap.size->∃(g0:Nat) (B0:Blk) (L0:Loc),N[g0]? =some (some B0)/\W g0=some L0/\L0.own=true/\L0.a.block=L.a.block)/\
 w.heap.size<=w'.heap.size/\∀ b,b<w.heap.size->(∀ (g:Nat) B L,N[g]? =some (some B)->W g=some L->L.own=true->L.a.block≠b)->w'.heap[b]? =w.heap[b]?
theorem Frame.refl (W:Rho) (N:St) (w:World):Frame W N w W N w:=⟨fun g B L h h1 h2 _=>⟨g,B,L,h,h1,h2,rfl⟩,Zad _,fun _ _ _=>rfl⟩
theorem P4 (a:Addr) (m n:Nat):(a.add m).add n=a.add (m+n):=by
 unfold Addr.add
 by_cases h:m=0<;>by_cases k:n=0<;>simp[h,k,Zaz]
theorem Ln {a:Addr} (h:a.spot=none) (n:Nat):a.add n=⟨a.block,a.off+n,none⟩:=by
 unfold Addr.add
 by_cases k:n=0
 ·subst k
  obtain⟨b,o,s⟩:=a
  simp only at h
  simp[h]
 ·simp[k]
theorem A3w (a:Addr) (n:Nat):(a.add n).block=a.block:=by
 unfold Addr.add
 split<;>rfl
namespace Good
variable {w0 w:World} {W:Rho} {N:St}
theorem Acl {L:Loc} {cs:List GV} (hs:L.a.spot=none) (hm:A3v W w L cs) {j:Nat} {c:GV} (hc:cs[j]? =some c):∃ v,w.cell? (L.a.add j)=some v/\sRel W c v:=by
 obtain⟨cur,ty,h1,_,_,h4⟩:=hm
 obtain⟨v,hv,hr⟩:=h4 j c hc
 refine⟨v,?_,hr⟩
 rw[Ln hs,cell_of_row w L.a.block _ cur ty (0,0) h1]
 exact hv
theorem cell (h:Good w0 W N w) {g:Nat} {B:Blk} {cs:List GV} {L:Loc} (hB:N[g]? =some (some B)) (hcs:B.cells=some cs) (hL:W g=some L) {j:Nat} {c:GV} (hc:cs[j]? =some c):∃ v,w.cell? (L.a.add j)=some v/\sRel W c v:=by
 have hm:=h.mem g _ L hB hL
 cases B with
 |map es=>cases hcs
 |ro z cs'=>
  cases hcs
  exact hm.2 j c hc
 |ice z cs'=>
  cases hcs
  exact Acl (h.loc g L hL hm.1).1 hm.2.2 hc
 |row ty cs'=>
  cases hcs
  exact Acl (h.loc g L hL hm.1).1 hm.2.2 hc
theorem holds_step {w':World} {L:Loc} {B:Blk} (hm:holds W w L B) (hb:w'.heap[L.a.block]? =w.heap[L.a.block]?):holds W w' L B:=by
 cases B with
 |row ty cs=>
  obtain⟨ho,hz,cur,ty,h1,r⟩:=hm
  exact⟨ho,hz,cur,ty,hb.trans h1,r⟩
 |ice z cs=>
  obtain⟨ho,hz,cur,ty,h1,r⟩:=hm
  exact⟨ho,hz,cur,ty,hb.trans h1,r⟩
 |ro z cs=>
  refine⟨hm.1,fun j c hc=> ?_⟩
  obtain⟨v,hv,hr⟩:=hm.2 j c hc
  refine⟨v,?_,hr⟩
  rw[<- hv]
  exact World.cell?_of_block (by rw[A3w];exact hb)
 |map es=>
  obtain⟨ho,entries,clock,h1,r⟩:=hm
  exact⟨ho,entries,clock,hb.trans h1,r⟩
theorem keep (h:Good w0 W N w) {w':World} (hos:w'.os=w.os) (htp:w'.tape=w.tape) (hou:w'.output=w.output) (hsz:w.heap.size<=w'.heap.size) (hk:∀ b,b<w.heap.size->w'.heap[b]? =w.heap[b]?):Good w0 W N w':=by
 have hlt:∀ g L,W g=some L->L.a.block<w.heap.size:=fun g L hL=>by
  cases ho:L.own with
  |true=>exact(h.loc g L hL ho).2.2.1
  |false=>exact Zaf (h.old g L hL ho) h.below.size
 exact {lay:=h.lay,below:=⟨hos.trans h.below.os,htp.trans h.below.tape,hou.trans h.below.output,Zbk h.below.size hsz,fun k hkk=>(hk k (Zaf hkk h.below.size)).trans (h.below.block k hkk)⟩,fresh:=h.fresh,loc:=fun g L hL ho=>⟨(h.loc g L hL ho).1,(h.loc g L hL ho).2.1,Zaf (h.loc g L hL ho).2.2.1 hsz,(h.loc g L hL ho).2.2.2⟩,old:=h.old,closed:=h.closed,mem:=fun g B L hB hL=>holds_step (h.mem g B L hB hL) (hk _ (hlt g L hL)),inj:=h.inj}
theorem drew (h:Good w0 W N w):Good w0 W N w.drew:=h.keep rfl rfl rfl (Zad _) (fun _ _=>rfl)
theorem le_of_sub {W':Rho} {n:Nat} (hf:∀ g,n≤g->W g=none) (hs:∀ g,g<n->W' g=W g):Le W W':=fun g L hg=>by
 rcases Zal g n with h1|h1
 ·rw[hs g h1];exact hg
 ·rw[hf g h1] at hg;cases hg
theorem Zq {W':Rho} (hl:Le W W') {L:Loc} {cs:List GV} (hm:A3v W w L cs):A3v W' w L cs:=by
 obtain⟨cur,ty,h1,h2,h3,h4⟩:=hm
 exact⟨cur,ty,h1,h2,h3,fun j c hc=>by obtain⟨v,hv,hr⟩:=h4 j c hc;exact⟨v,hv,hr.mono hl⟩⟩
theorem holds_mono {W':Rho} (hl:Le W W') {L:Loc} {B:Blk} (hm:holds W w L B):holds W' w L B:=by
 cases B with
 |row ty cs=>exact⟨hm.1,hm.2.1,Zq hl hm.2.2⟩
 |ice z cs=>exact⟨hm.1,hm.2.1,Zq hl hm.2.2⟩
 |ro z cs=>
  refine⟨hm.1,fun j c hc=> ?_⟩
  obtain⟨v,hv,hr⟩:=hm.2 j c hc
  exact⟨v,hv,hr.mono hl⟩
 |map es=>
  obtain⟨ho,entries,clock,h1,r⟩:=hm
  exact⟨ho,entries,clock,h1,r.imp fun _ _ hh=>⟨hh.1.mono hl,hh.2.mono hl⟩⟩
def put (W:Rho) (n:Nat) (L:Loc):Rho:=fun g=>if g=n then some L else W g
theorem put_le {n:Nat} {L:Loc} (hf:W n=none):Le W (put W n L):=fun g M hg=>by
 unfold put
 split
 ·rename_i e;subst e;rw[hf] at hg;cases hg
 ·exact hg
theorem put_sub {n:Nat} {L:Loc}:∀ g,g<n->put W n L g=W g:=fun g hg=>by
 unfold put
 rw[if_neg (by omega)]
theorem alloc (h:Good w0 W N w) {ty z:Nat} {cs:List GV} {vs:Array Value} (hz:0<z) (hcs:∀(j:Nat) (c:GV),cs[j]? =some c->∃ v,vs[j]? =some v/\sRel W c v) (hlen:cs.length<=vs.size) (hnil:cs=[]->vs.size=0):
  Good w0 (put W N.length ⟨⟨w.heap.size,0,none⟩,vs.size,z,true⟩) (N++[some (.row z cs)]) (w.alloc (.cells vs ty)):=by
 have h':=h.keep (w':=w.alloc (.cells vs ty)) rfl rfl rfl (by simp) (fun b hb=>Below.heap_alloc w _ b hb)
 have hle:Le W (put W N.length ⟨⟨w.heap.size,0,none⟩,vs.size,z,true⟩):=put_le (h.fresh _ (Zad _))
 have hpg:∀ g L,put W N.length ⟨⟨w.heap.size,0,none⟩,vs.size,z,true⟩ g=some L->(g=N.length/\L=⟨⟨w.heap.size,0,none⟩,vs.size,z,true⟩)∨(g<N.length/\W g=some L):=by
  intro g L hg
  unfold put at hg
  split at hg
  ·rename_i e;exact .inl ⟨e,by injection hg with hg;exact hg.symm⟩
  ·refine .inr ⟨?_,hg⟩
   rcases Zal g N.length with h1|h1
   ·exact h1
   ·rw[h.fresh g h1] at hg;cases hg
 have hsg:∀(g:Nat) B,(N++[some (.row z cs)])[g]? =some (some B)->(g<N.length/\N[g]? =some (some B))∨(g=N.length/\B= .row z cs):=by
  intro g B hB
  rcases Zal g N.length with h1|h1
  ·rw[Zaa h1] at hB;exact .inl ⟨h1,hB⟩
  ·rw[Zab h1] at hB
   cases hd:g - N.length with
   |zero=>rw[hd] at hB;simp at hB;exact .inr ⟨by omega,hB.symm⟩
   |succ n=>rw[hd] at hB;simp at hB
 have hlt:∀ c∈cs,sLt N.length c:=fun c hc=>by
  obtain⟨j,hj⟩:=Zaq hc
  obtain⟨v,_,hr⟩:=hcs j c hj
  exact hr.lt h.fresh
 have hblt:∀ g L,W g=some L->L.own=true->L.a.block≠w.heap.size:=fun g L hL ho=>by have:=(h.loc g L hL ho).2.2.1;omega
 exact {
     lay:=h'.lay,below:=h'.below,fresh:=fun g hg=>by
      simp only[Zaj,Zar,Zay] at hg
      unfold put
      rw[if_neg (by omega)]
      exact h.fresh g (by omega)
     loc:=fun g L hL ho=>by
      rcases hpg g L hL with⟨rfl,rfl⟩|⟨_,hL⟩
      ·exact⟨rfl,h.below.size,by simp,hz⟩
      ·exact h'.loc g L hL ho
     old:=fun g L hL ho=>by
      rcases hpg g L hL with⟨rfl,rfl⟩|⟨_,hL⟩
      ·cases ho
      ·exact h'.old g L hL ho
     closed:=fun g B hB=>by
      simp only[Zaj,Zar,Zay]
      rcases hsg g B hB with⟨_,hB⟩|⟨_,rfl⟩
      ·exact(h.closed g B hB).mono (by omega)
      ·exact fun c hc=>(hlt c hc).mono (by omega)
     mem:=fun g B L hB hL=>by
      rcases hsg g B hB with⟨hg,hB⟩|⟨rfl,rfl⟩
      ·rcases hpg g L hL with⟨rfl,_⟩|⟨_,hL⟩
       ·omega
       ·exact holds_mono hle (h'.mem g B L hB hL)
      ·rcases hpg _ L hL with⟨_,rfl⟩|⟨hg,_⟩
       ·refine⟨rfl,rfl,vs,ty,heap_alloc_new w _,rfl,⟨by simpa using hlen,fun e=>by simpa using hnil e⟩,fun j c hc=> ?_⟩
        obtain⟨v,hv,hr⟩:=hcs j c hc
        exact⟨v,by simpa using hv,hr.mono hle⟩
       ·omega
     inj:=fun g g' B B' L L' hB hB' hL hL' ho ho' he=>by
      rcases hsg g B hB with⟨hg,hB⟩|⟨rfl,rfl⟩<;>rcases hsg g' B' hB' with⟨hg',hB'⟩|⟨rfl,rfl⟩
      ·rcases hpg g L hL with⟨rfl,_⟩|⟨_,hL⟩
       ·omega
       ·rcases hpg g' L' hL' with⟨rfl,_⟩|⟨_,hL'⟩
        ·omega
        ·exact h.inj g g' B B' L L' hB hB' hL hL' ho ho' he
      ·rcases hpg g L hL with⟨rfl,_⟩|⟨_,hL⟩
       ·omega
       ·rcases hpg _ L' hL' with⟨_,rfl⟩|⟨hg',_⟩
        ·exact absurd he (hblt g L hL ho)
        ·omega
      ·rcases hpg g' L' hL' with⟨rfl,_⟩|⟨_,hL'⟩
       ·omega
       ·rcases hpg _ L hL with⟨_,rfl⟩|⟨hg,_⟩
        ·exact absurd he.symm (hblt g' L' hL' ho')
        ·omega
      ·rfl}
end Good
namespace Good
variable {w0 w:World} {W:Rho} {N:St}
theorem set_some {g g':Nat} {x:Option Blk} {B:Blk} (h:(N.set g x)[g']? =some (some B)):(g'=g/\x=some B/\g<N.length)∨(g'≠g/\N[g']? =some (some B)):=by
 rw[List.getElem?_set] at h
 split at h
 ·rename_i e
  subst e
  split at h
  ·rename_i hl;exact .inl ⟨rfl,by simpa using h,hl⟩
  ·cases h
 ·rename_i e;exact .inr ⟨fun he=>e he.symm,h⟩
theorem kill (h:Good w0 W N w) (g:Nat):Good w0 W (N.set g none) w:=
 have key:∀(g':Nat) B,(N.set g none)[g']? =some (some B)->N[g']? =some (some B):=fun g' B hB=>by
  rcases set_some hB with⟨_,hx,_⟩|⟨_,hB⟩
  ·cases hx
  ·exact hB
 {lay:=h.lay,below:=h.below,fresh:=fun g' hg=>h.fresh g' (by simpa using hg),loc:=h.loc,old:=h.old,closed:=fun g' B hB=>by simpa using h.closed g' B (key g' B hB),mem:=fun g' B L hB hL=>h.mem g' B L (key g' B hB) hL,inj:=fun g' g'' B B' L L' hB hB'=>h.inj g' g'' B B' L L' (key _ _ hB) (key _ _ hB')}
theorem touch (h:Good w0 W N w) {w':World} {b:Nat} (hb:w0.heap.size<=b) (hno:∀(g:Nat) B L,N[g]? =some (some B)->W g=some L->L.own=true->L.a.block≠b)
  (hos:w'.os=w.os) (htp:w'.tape=w.tape) (hou:w'.output=w.output) (hsz:w'.heap.size=w.heap.size) (hk:∀ k,k≠b->w'.heap[k]? =w.heap[k]?):Good w0 W N w':=
 {
  lay:=h.lay,below:=⟨hos.trans h.below.os,htp.trans h.below.tape,hou.trans h.below.output,by rw[hsz];exact h.below.size,fun k hkk=>(hk k (by omega)).trans (h.below.block k hkk)⟩,fresh:=h.fresh,loc:=fun g L hL ho=>by rw[hsz];exact h.loc g L hL ho,old:=h.old,closed:=h.closed,mem:=fun g B L hB hL=>holds_step (h.mem g B L hB hL) (hk _ (by
   cases ho:L.own with
   |true=>exact hno g B L hB hL ho
   |false=>have:=h.old g L hL ho;omega))
  inj:=h.inj}
theorem revive (h:Good w0 W N w) {g:Nat} {B:Blk} {L:Loc} (hL:W g=some L) (hlt:B.lt N.length) (hm:holds W w L B)
  (hno:∀(g':Nat) B' L',g'≠g->N[g']? =some (some B')->W g'=some L'->L'.own=true->L.own=true->L'.a.block≠L.a.block):Good w0 W (N.set g (some B)) w:=
 {
  lay:=h.lay,below:=h.below,fresh:=fun g' hg=>h.fresh g' (by simpa using hg),loc:=h.loc,old:=h.old,closed:=fun g' B' hB=>by
   rw[Zbc]
   rcases set_some hB with⟨_,hx,_⟩|⟨_,hB⟩
   ·injection hx with hx;subst hx;exact hlt
   ·exact h.closed g' B' hB
  mem:=fun g' B' L' hB hL'=>by
   rcases set_some hB with⟨rfl,hx,_⟩|⟨_,hB⟩
   ·injection hx with hx;subst hx
    rw[hL] at hL';injection hL' with hL';subst hL'
    exact hm
   ·exact h.mem g' B' L' hB hL'
  inj:=fun g' g'' B' B'' L' L'' hB hB' hL' hL'' ho ho' he=>by
   rcases set_some hB with⟨e,hx,_⟩|⟨hne,kB⟩<;>rcases set_some hB' with⟨e',hx',_⟩|⟨hne',kB'⟩
   ·rw[e,e']
   ·rw[e,hL] at hL';injection hL' with hL';subst hL'
    exact absurd he.symm (hno g'' B'' L'' hne' kB' hL'' ho' ho)
   ·rw[e',hL] at hL'';injection hL'' with hL'';subst hL''
    exact absurd he (hno g' B' L' hne kB hL' ho ho')
   ·exact h.inj g' g'' B' B'' L' L'' kB kB' hL' hL'' ho ho' he}
theorem adopt (h:Good w0 W N w) {z:Nat} {cs:List GV} {L:Loc} (ho:L.own=true) (hloc:L.a.spot=none/\w0.heap.size<=L.a.block/\L.a.block<w.heap.size/\0<L.z)
  (hm:holds W w L (.row z cs)) (hno:∀(g':Nat) B' L',N[g']? =some (some B')->W g'=some L'->L'.own=true->L'.a.block≠L.a.block):
  Good w0 (put W N.length L) (N++[some (.row z cs)]) w:=by
 have hle:Le W (put W N.length L):=put_le (h.fresh _ (Zad _))
 have hpg:∀ g M,put W N.length L g=some M->(g=N.length/\M=L)∨(g<N.length/\W g=some M):=by
  intro g M hg
  unfold put at hg
  split at hg
  ·rename_i e;exact .inl ⟨e,by injection hg with hg;exact hg.symm⟩
  ·refine .inr ⟨?_,hg⟩
   rcases Zal g N.length with h1|h1
   ·exact h1
   ·rw[h.fresh g h1] at hg;cases hg
 have hsg:∀(g:Nat) B,(N++[some (.row z cs)])[g]? =some (some B)->(g<N.length/\N[g]? =some (some B))∨(g=N.length/\B= .row z cs):=by
  intro g B hB
  rcases Zal g N.length with h1|h1
  ·rw[Zaa h1] at hB;exact .inl ⟨h1,hB⟩
  ·rw[Zab h1] at hB
   cases hd:g - N.length with
   |zero=>rw[hd] at hB;simp at hB;exact .inr ⟨by omega,hB.symm⟩
   |succ n=>rw[hd] at hB;simp at hB
 have hlt:∀ c∈cs,sLt N.length c:=fun c hc=>by
  obtain⟨j,hj⟩:=Zaq hc
  obtain⟨_,_,_,_,_,_,_,h4⟩:=hm
  obtain⟨v,_,hr⟩:=h4 j c hj
  exact hr.lt h.fresh
 exact {
     lay:=h.lay,below:=h.below,fresh:=fun g hg=>by
      simp only[Zaj,Zar,Zay] at hg
      unfold put
      rw[if_neg (by omega)]
      exact h.fresh g (by omega)
     loc:=fun g M hM hom=>by
      rcases hpg g M hM with⟨rfl,rfl⟩|⟨_,hM⟩
      ·exact hloc
      ·exact h.loc g M hM hom
     old:=fun g M hM hom=>by
      rcases hpg g M hM with⟨rfl,rfl⟩|⟨_,hM⟩
      ·rw[ho] at hom;cases hom
      ·exact h.old g M hM hom
     closed:=fun g B hB=>by
      simp only[Zaj,Zar,Zay]
      rcases hsg g B hB with⟨_,hB⟩|⟨_,rfl⟩
      ·exact(h.closed g B hB).mono (by omega)
      ·exact fun c hc=>(hlt c hc).mono (by omega)
     mem:=fun g B M hB hM=>by
      rcases hsg g B hB with⟨hg,hB⟩|⟨rfl,rfl⟩
      ·rcases hpg g M hM with⟨rfl,_⟩|⟨_,hM⟩
       ·omega
       ·exact holds_mono hle (h.mem g B M hB hM)
      ·rcases hpg _ M hM with⟨_,rfl⟩|⟨hg,_⟩
       ·exact holds_mono hle hm
       ·omega
     inj:=fun g g' B B' M M' hB hB' hM hM' hom hom' he=>by
      rcases hsg g B hB with⟨hg,hB⟩|⟨rfl,rfl⟩<;>rcases hsg g' B' hB' with⟨hg',hB'⟩|⟨rfl,rfl⟩
      ·rcases hpg g M hM with⟨rfl,_⟩|⟨_,hM⟩
       ·omega
       ·rcases hpg g' M' hM' with⟨rfl,_⟩|⟨_,hM'⟩
        ·omega
        ·exact h.inj g g' B B' M M' hB hB' hM hM' hom hom' he
      ·rcases hpg g M hM with⟨rfl,_⟩|⟨_,kM⟩
       ·omega
       ·rcases hpg _ M' hM' with⟨_,e⟩|⟨hg',_⟩
        ·rw[e] at he;exact absurd he (hno g B M hB kM hom)
        ·omega
      ·rcases hpg g' M' hM' with⟨rfl,_⟩|⟨_,kM'⟩
       ·omega
       ·rcases hpg _ M hM with⟨_,e⟩|⟨hg,_⟩
        ·rw[e] at he;exact absurd he.symm (hno g' B' M' hB' kM' hom')
        ·omega
      ·rfl}
theorem write (h:Good w0 W N w) {g z ty:Nat} {cs cs':List GV} {L:Loc} (hB:N[g]? =some (some (.row z cs))) (hL:W g=some L) (ho:L.own=true) {cur cur':Array Value}
  (hcur:w.heap[L.a.block]? =some (.cells cur ty (0,0))) (hs:cur'.size=cur.size) (hl:L.a.off+cs'.length<=cur.size) (hnil:cs'=[]->cs=[]) (hc:∀(j:Nat) (c:GV),cs'[j]? =some c->∃ v,cur'[L.a.off+j]? =some v/\sRel W c v):
  Good w0 W (N.set g (some (.row z cs'))) (w.setRow L.a.block cur'):=by
 have hno:∀(g':Nat) B' L',g'≠g->N[g']? =some (some B')->W g'=some L'->L'.own=true->L'.a.block≠L.a.block:=fun g' B' L' hne hB' hL' ho' he=>hne (h.inj g' g B' _ L' L hB' hB hL' hL ho' ho he)
 have k:=(h.kill g).touch (w':=w.setRow L.a.block cur') (b:=L.a.block) (h.loc g L hL ho).2.1 (fun g' B' L' hB' hL' ho'=>by
  rcases set_some hB' with⟨_,hx,_⟩|⟨hne,hB'⟩
  ·cases hx
  ·exact hno g' B' L' hne hB' hL' ho') rfl rfl rfl (by simp) (fun k hk=>setRow_other w _ _ _ hk)
 have hz:L.z=z:=(h.mem g _ L hB hL).2.1
 have htot:cur.size=L.tot:=by
  obtain⟨_,_,cur2,ty2,h1,h2,_⟩:=h.mem g _ L hB hL
  rw[hcur] at h1;injection h1 with h1;injection h1 with h1 _ _;subst h1;exact h2
 have hold:cs=[]->L.tot=L.a.off:=by
  obtain⟨_,_,_,_,_,_,h3,_⟩:=h.mem g _ L hB hL
  exact h3.2
 have r:=k.revive (g:=g) (B:=.row z cs') hL (fun c hcm=>by
  obtain⟨j,hj⟩:=Zaq hcm
  obtain⟨v,_,hr⟩:=hc j c hj
  have:=hr.lt h.fresh
  simpa using this) ⟨ho,hz,cur',ty,setRow_heap w _ cur cur' ty (0,0) hcur,by omega,⟨by omega,fun e=>hold (hnil e)⟩,hc⟩
  (fun g' B' L' hne hB' hL' ho' _=>by
   rcases set_some hB' with⟨_,hx,_⟩|⟨_,hB'⟩
   ·cases hx
   ·exact hno g' B' L' hne hB' hL' ho')
 rwa [Zbl] at r
theorem regrow (h:Good w0 W N w) {g z ty:Nat} {cs cs':List GV} {L:Loc} (hB:N[g]? =some (some (.row z cs))) (hL:W g=some L) (ho:L.own=true) {cur cur':Array Value} {off:Nat}
  (hcur:w.heap[L.a.block]? =some (.cells cur ty (0,0))) (hs:cur'.size=cur.size) (hl:L.a.off+off+cs'.length<=cur.size) (hne:cs'≠[]) (hc:∀(j:Nat) (c:GV),cs'[j]? =some c->∃ v,cur'[L.a.off+off+j]? =some v/\sRel W c v):
  Good w0 (put W N.length ⟨⟨L.a.block,L.a.off+off,none⟩,L.tot,L.z,true⟩) (N.set g none++[some (.row z cs')]) (w.setRow L.a.block cur'):=by
 have hno:∀(g':Nat) B' L',g'≠g->N[g']? =some (some B')->W g'=some L'->L'.own=true->L'.a.block≠L.a.block:=fun g' B' L' hne hB' hL' ho' he=>hne (h.inj g' g B' _ L' L hB' hB hL' hL ho' ho he)
 have hno2:∀(g':Nat) B' L',(N.set g none)[g']? =some (some B')->W g'=some L'->L'.own=true->L'.a.block≠L.a.block:=fun g' B' L' hB' hL' ho'=>by
  rcases set_some hB' with⟨_,hx,_⟩|⟨hne,hB'⟩
  ·cases hx
  ·exact hno g' B' L' hne hB' hL' ho'
 have hloc:=h.loc g L hL ho
 have k:=(h.kill g).touch (w':=w.setRow L.a.block cur') (b:=L.a.block) hloc.2.1 hno2 rfl rfl rfl (by simp) (fun k hk=>setRow_other w _ _ _ hk)
 have hz:L.z=z:=(h.mem g _ L hB hL).2.1
 have htot:cur.size=L.tot:=by
  obtain⟨_,_,cur2,ty2,h1,h2,_⟩:=h.mem g _ L hB hL
  rw[hcur] at h1;injection h1 with h1;injection h1 with h1 _ _;subst h1;exact h2
 have r:=k.adopt (z:=z) (cs:=cs') (L:=⟨⟨L.a.block,L.a.off+off,none⟩,L.tot,L.z,true⟩) rfl ⟨rfl,hloc.2.1,by simpa using hloc.2.2.1,hloc.2.2.2⟩
  ⟨rfl,hz,cur',ty,setRow_heap w _ cur cur' ty (0,0) hcur,by simp only;omega,⟨by simp only;omega,fun e=>absurd e hne⟩,hc⟩ hno2
 simpa using r
def tagEq:Option Blk->Option Blk->Prop
 |some (.row z cs),some (.ice z' cs')=>z=z'/\cs=cs'
 |some (.ice z cs),some (.row z' cs')=>z=z'/\cs=cs'
 |x,y=>x=y
theorem tagEq.some {x:Option Blk} {B:Blk} (h:tagEq x (some B)):∃ B',x=some B'/\(∀ (W:Rho) (w:World) L,holds W w L B'↔holds W w L B)/\∀ n,B'.lt n↔B.lt n:=by
 cases x with
 |none=>cases B<;>cases h
 |some B'=>
  refine⟨B',rfl,?_⟩
  cases B'<;>cases B<;>first|(cases h;done)|(cases h;exact⟨fun _ _ _=>Iff.rfl,fun _=>Iff.rfl⟩)|(obtain ⟨rfl,rfl⟩:=h;exact⟨fun _ _ _=>Iff.rfl,fun _=>Iff.rfl⟩)
def cut (W:Rho) (n:Nat):Rho:=fun g=>if g<n then W g else none
theorem cut_lt {W:Rho} {n g:Nat} (h:g<n):cut W n g=W g:=by unfold cut;rw[if_pos h]
theorem cut_some {W:Rho} {n g:Nat} {L:Loc} (h:cut W n g=some L):g<n/\W g=some L:=by
 unfold cut at h
 split at h
 ·rename_i hl;exact⟨hl,h⟩
 ·cases h
theorem Zr {W':Rho} {n:Nat} (hs:∀ g,g<n->W' g=W g) {L:Loc} {cs:List GV} (hlt:∀ c∈cs,sLt n c) (hm:A3v W' w L cs):A3v W w L cs:=by
 obtain⟨cur,ty,h1,h2,h3,h4⟩:=hm
 exact⟨cur,ty,h1,h2,h3,fun j c hc=>by obtain⟨v,hv,hr⟩:=h4 j c hc;exact⟨v,hv,hr.back hs (hlt c (Zaw hc))⟩⟩
theorem holds_back {W':Rho} {n:Nat} (hs:∀ g,g<n->W' g=W g) {L:Loc} {B:Blk} (hlt:B.lt n) (hm:holds W' w L B):holds W w L B:=by
 cases B with
 |row z cs=>exact⟨hm.1,hm.2.1,Zr hs hlt hm.2.2⟩
 |ice z cs=>exact⟨hm.1,hm.2.1,Zr hs hlt hm.2.2⟩
 |ro z cs=>
  refine⟨hm.1,fun j c hc=> ?_⟩
  obtain⟨v,hv,hr⟩:=hm.2 j c hc
  exact⟨v,hv,hr.back hs (hlt c (Zaw hc))⟩
 |map es=>
  obtain⟨ho,entries,clock,h1,r⟩:=hm
  exact⟨ho,entries,clock,h1,r.imp_mem fun e x he hh=>⟨hh.1.back hs (hlt e he).1,hh.2.back hs (hlt e he).2⟩⟩
theorem trunc (h:Good w0 W N w) {n:Nat} (hn:n<=N.length) (hc:∀(g:Nat) B,g<n->N[g]? =some (some B)->B.lt n):Good w0 (cut W n) (N.take n) w:=
 have hlen:(N.take n).length=n:=by rw[Zbn];omega
 have key:∀(g:Nat) B,(N.take n)[g]? =some (some B)->g<n/\N[g]? =some (some B):=fun g B hB=>by
  rcases Zal g n with h1|h1
  ·rw[List.getElem?_take_of_lt h1] at hB;exact⟨h1,hB⟩
  ·rw[List.getElem?_eq_none (by omega)] at hB;cases hB
 {lay:=h.lay,below:=h.below,fresh:=fun g hg=>by unfold cut;rw[if_neg (by omega)],loc:=fun g L hL=>h.loc g L (cut_some hL).2,old:=fun g L hL=>h.old g L (cut_some hL).2,closed:=fun g B hB=>by rw[hlen];exact hc g B (key g B hB).1 (key g B hB).2,mem:=fun g B L hB hL=>holds_back (n:=n) (fun k hk=>(cut_lt hk).symm) (hc g B (key g B hB).1 (key g B hB).2) (h.mem g B L (key g B hB).2 (cut_some hL).2),inj:=fun g g' B B' L L' hB hB' hL hL'=>h.inj g g' B B' L L' (key g B hB).2 (key g' B' hB').2 (cut_some hL).2 (cut_some hL').2}
end Good
theorem Frame.of {W W':Rho} {N N':St} {w w':World} (hsz:w.heap.size<=w'.heap.size) (hk:∀ b,b<w.heap.size->(∀ (g:Nat) B L,N[g]? =some (some B)->W g=some L->L.own=true->L.a.block≠b)->w'.heap[b]? =w.heap[b]?)
  (hl:∀(g:Nat) B L,N'[g]? =some (some B)->W' g=some L->L.own=true->L.a.block<w.heap.size->∃(g0:Nat) (B0:Blk) (L0:Loc),N[g0]? =some (some B0)/\W g0=some L0/\L0.own=true/\L0.a.block=L.a.block):Frame W N w W' N' w':=⟨hl,hsz,hk⟩
theorem G1 {W:Rho} {n g:Nat} {L M:Loc} (h:Good.put W n L g=some M):(g=n/\M=L)∨(g≠n/\W g=some M):=by
 unfold Good.put at h
 split at h
 ·rename_i e;exact .inl ⟨e,by injection h with h;exact h.symm⟩
 ·rename_i e;exact .inr ⟨e,h⟩
theorem Kj {N:St} {x:Option Blk} {g:Nat} {B:Blk} (h:(N++[x])[g]? =some (some B)):(g<N.length/\N[g]? =some (some B))∨(g=N.length/\x=some B):=by
 rcases Zal g N.length with h1|h1
 ·rw[Zaa h1] at h;exact .inl ⟨h1,h⟩
 ·rw[Zab h1] at h
  cases hd:g - N.length with
  |zero=>rw[hd] at h;simp at h;exact .inr ⟨by omega,h⟩
  |succ n=>rw[hd] at h;simp at h
theorem Frame.alloc {W:Rho} {N N1:St} {w:World} {o:Obj} {L:Loc} {x:Option Blk} (hb:L.a.block=w.heap.size) (h1:N1.length=N.length) (h2:∀(g:Nat) B,N1[g]? =some (some B)->N[g]? =some (some B)) {w':World} (hw:w'.heap=(w.alloc o).heap):
  Frame W N w (Good.put W N.length L) (N1++[x]) w':=
 .of (by rw[hw];simp) (fun b hb _=>by rw[hw];exact Below.heap_alloc w o b hb) (fun g B M hB hM ho hlt=>by
  rcases G1 hM with⟨_,rfl⟩|⟨hne,hM⟩
  ·omega
  ·rcases Kj hB with⟨_,hB⟩|⟨e,_⟩
   ·exact⟨g,B,M,h2 g B hB,hM,ho,rfl⟩
   ·omega)
theorem Frame.setRow {W:Rho} {N:St} {w:World} {g:Nat} {B B':Blk} {L:Loc} (hB:N[g]? =some (some B)) (hL:W g=some L) (ho:L.own=true) (cur:Array Value):Frame W N w W (N.set g (some B')) (w.setRow L.a.block cur):=
 .of (by simp) (fun b _ hno=>setRow_other w _ _ _ (fun e=>hno g B L hB hL ho e.symm)) (fun g' B1 M hB1 hM hom _=>by
  rcases Good.set_some hB1 with⟨rfl,_,_⟩|⟨_,hB1⟩
  ·exact⟨g',B,M,hB,hM,hom,rfl⟩
  ·exact⟨g',B1,M,hB1,hM,hom,rfl⟩)
theorem Frame.regrow {W:Rho} {N:St} {w:World} {g:Nat} {B:Blk} {x:Option Blk} {L M:Loc} (hB:N[g]? =some (some B)) (hL:W g=some L) (ho:L.own=true) (hM:M.a.block=L.a.block) (cur:Array Value):Frame W N w (Good.put W N.length M) (N.set g none++[x]) (w.setRow L.a.block cur):=
 .of (by simp) (fun b _ hno=>setRow_other w _ _ _ (fun e=>hno g B L hB hL ho e.symm)) (fun g' B1 Nq hB1 hN hon _=>by
  rcases G1 hN with⟨_,rfl⟩|⟨hne,hN⟩
  ·exact⟨g,B,L,hB,hL,ho,hM.symm⟩
  ·rcases Kj hB1 with⟨_,hB1⟩|⟨e,_⟩
   ·rcases Good.set_some hB1 with⟨_,hx,_⟩|⟨_,hB1⟩
    ·cases hx
    ·exact⟨g',B1,Nq,hB1,hN,hon,rfl⟩
   ·rw[Zbc] at e;omega)
theorem Frame.trans {W W' W'':Rho} {N N' N'':St} {w w' w'':World} (h:Frame W N w W' N' w') (k:Frame W' N' w' W'' N'' w''):Frame W N w W'' N'' w'':=
 .of (Zbk h.2.1 k.2.1) (fun b hb hno=>(k.2.2 b (Zaf hb h.2.1) (fun g B L hB hL ho he=>by
  obtain⟨g0,B0,L0,h1,h2,h3,h4⟩:=h.1 g B L hB hL ho (by omega)
  exact hno g0 B0 L0 h1 h2 h3 (by omega))).trans (h.2.2 b hb hno))
  (fun g B L hB hL ho hlt=>by
   obtain⟨g1,B1,L1,h1,h2,h3,h4⟩:=k.1 g B L hB hL ho (Zaf hlt h.2.1)
   obtain⟨g0,B0,L0,k1,k2,k3,k4⟩:=h.1 g1 B1 L1 h1 h2 h3 (by omega)
   exact⟨g0,B0,L0,k1,k2,k3,by omega⟩)
section
inductive Opd where
 |t (n:Nat)
 |k (v:GV)
inductive Sc where
 |b
 |i (k:IntKind)
 |s
inductive Ins where
 |mov (x:Opd)
 |pick (c a b:Opd)
 |new (cs:List GV)
 |box (x:Opd)
 |build (zero:List GV) (parts:List (Nat×Nat×Opd))
 |lit (z len:Nat) (zero:List GV) (parts:List (Nat×Nat×Opd))
 |ld (agg:Bool) (n:Nat) (a:Opd)
 |st (n:Nat) (a x:Opd)
 |nck (x:Opd)
 |bin (op:BinOp) (x y:Opd)
 |eqb (neg:Bool) (x y:Opd)
 |eqn (p neg:Bool) (x y:Opd)
 |eqs (neg:Bool) (ks:List Sc) (x y:Opd)
 |un (op:UnOp) (x:Opd)
 |cvi (k:IntKind) (x:Opd)
 |bts (x:Opd)
 |mkf (f:Nat) (caps:List Opd)
 |mks (z bytes:Nat) (zero:List GV) (n c:Opd)
 |cutS (x:Opd) (lo hi:Option Opd)
 |cut (z:Nat) (x:Opd) (lo hi:Option Opd)
 |fad (off:Nat) (a:Opd)
 |part (agg:Bool) (off n:Nat) (x:Opd)
 |iad (z:Nat) (x i:Opd)
 |idx (x i:Opd)
 |ext (i:Nat) (x:Opd)
 |len (str:Bool) (x:Opd)
 |app (z bytes:Nat) (zero:List GV) (s x:Opd)
 |mm (max:Bool) (x y:Opd)
 |mkm
 |pan
 |mlk (ks:List Sc) (z:GV) (ok:Bool) (m k:Opd)
 |mup (ks:List Sc) (m k v:Opd)
 |call (f:Nat) (xs:List Opd)
 |callv (x:Opd) (xs:List Opd)
 |chk (d:Nat) (x:Ins)
 |blc (t:Nat) (cs:List GV)
 |clr (z:Nat) (zero:List GV) (x:Opd)
def GV.cells:GV->List GV
 | .agg cs=>cs
 | .tup _=>[]
 |x=>[x]
def GV.bit:GV->Option Bool
 | .bool b=>some b
 |_=>none
def mkv (agg:Bool) (cs:List GV):Option GV:=if agg then some (.agg cs) else cs.head?
def Al (cs:List GV) (off:Nat) (new:List GV):List GV:=cs.take off++new++cs.drop (off+new.length)
def Ht:List GV->List (Nat×Nat×GV)->Option (List GV)
 |cs,[]=>some cs
 |cs,(off,size,v)::rest=>if v.cells.length=size/\0<size/\off+size<=cs.length then Ht (Al cs off v.cells) rest else none
def rdB (N:St) (g:Nat):Option (List GV):=match N[g]? with
 |some (some B)=>B.cells
 |_=>none
def seg (cs:List GV) (off n:Nat):Option (List GV):=if off+n<=cs.length then some ((cs.drop off).take n) else none
def reps (n:Nat) (zero:List GV):List GV:=(List.replicate n zero).flatten
def Ev (op:BinOp) (k:IntKind) (a b:Int):Option GV:=
 if b<0 then none else
 match op with
 | .shl=>some (.int k (k.wrap (a*2 ^ min b.toNat k.bits)))
 | .shr=>some (.int k (a.fdiv (2 ^ min b.toNat k.bits)))
 |_=>none
def bitG (k:IntKind) (r:BitVec k.bits):Option GV:=some (.int k (k.wrap r.toNat))
def intG (op:BinOp) (k:IntKind) (a b:Int):Option GV:=
 match op with
 | .add=>some (.int k (k.wrap (a+b)))
 | .sub=>some (.int k (k.wrap (a - b)))
 | .mul=>some (.int k (k.wrap (a*b)))
 | .quo=>if b=0 then none else some (.int k (k.wrap (a.tdiv b)))
 | .rem=>if b=0 then none else some (.int k (a.tmod b))
 | .and=>bitG k (BitVec.ofInt k.bits a &&& BitVec.ofInt k.bits b)
 | .or=>bitG k (BitVec.ofInt k.bits a ||| BitVec.ofInt k.bits b)
 | .xor=>bitG k (BitVec.ofInt k.bits a ^^^ BitVec.ofInt k.bits b)
 | .andNot=>bitG k (BitVec.ofInt k.bits a &&& ~~~ BitVec.ofInt k.bits b)
 | .eql=>some (.bool (a==b))
 | .neq=>some (.bool (a != b))
 | .lss=>some (.bool (a<b))
 | .leq=>some (.bool (a<=b))
 | .gtr=>some (.bool (a>b))
 | .geq=>some (.bool (a≥b))
 |_=>none
def strG (op:BinOp) (a b:ByteArray):Option GV:=
 match op with
 | .add=>if a.size+b.size<=9223372036854775807 then some (.str (a++b)) else none
 | .eql=>some (.bool (a.toList==b.toList))
 | .neq=>some (.bool !(a.toList==b.toList))
 | .lss=>some (.bool (Op.bytesLess a.toList b.toList))
 | .leq=>some (.bool (Op.bytesLess a.toList b.toList||a.toList==b.toList))
 | .gtr=>some (.bool !(Op.bytesLess a.toList b.toList||a.toList==b.toList))
 | .geq=>some (.bool !(Op.bytesLess a.toList b.toList))
 |_=>none
def binG (op:BinOp):GV->GV->Option GV
 | .int k a,.int k' b=>match op with
  | .shl=>Ev .shl k a b
  | .shr=>Ev .shr k a b
  |op=>if k=k' then intG op k a b else none
 | .str a,.str b=>strG op a b
 |_,_=>none
def nilG:Bool->GV->GV->Option Bool
 |false,.nilS,.nilS=>some true
 |false,.nilS,.sl _ _ _=>some false
 |false,.sl _ _ _,.nilS=>some false
 |true,.nilP,.nilP=>some true
 |true,.nilP,.ptr _ _=>some false
 |true,.ptr _ _,.nilP=>some false
 |_,_,_=>none
def scEq:Sc->GV->GV->Option Bool
 | .b,.bool x,.bool y=>some (x==y)
 | .i k,.int k1 x,.int k2 y=>if k1=k/\k2=k then some (x==y) else none
 | .s,.str x,.str y=>some (x.toList==y.toList)
 |_,_,_=>none
def Cz:List Sc->List GV->List GV->Option Bool
 |[],[],[]=>some true
 |k::ks,x::xs,y::ys=>(scEq k x y).bind fun b=>(Cz ks xs ys).map fun c=>b&&c
 |_,_,_=>none
def unG:UnOp->GV->Option GV
 | .not,.bool b=>some (.bool !b)
 | .neg,.int k n=>some (.int k (k.wrap (0 - n)))
 |_,_=>none
def B9:Option GV->Option Nat
 |some (.int _ n)=>if 0<=n then some n.toNat else none
 |_=>none
def Ab6:GV->Option (Nat×Nat)
 | .ptr g off=>some (g,off)
 |_=>none
def F5:List GV->Option (List UInt8)
 |[]=>some []
 | .int .u8 n::r=>(F5 r).map (UInt8.ofNat n.toNat::·)
 |_=>none
def elems (N:St) (z:Nat):GV->Option (Nat×List GV)
 | .nilS=>some (0,[])
 | .emp=>some (0,[])
 | .sl g off len=>(rdB N g).bind fun cs=>(seg cs off (len*z)).map fun r=>(len,r)
 |_=>none
abbrev Env:=Nat->GV
def up (env:Env) (d:Nat) (v:GV):Env:=fun n=>if n=d then v else env n
def upo (env:Env) (d:Option Nat) (v:GV):Env:=match d with
 |some d=>up env d v
 |none=>env
def Opd.ev (env:Env):Opd->GV
 | .t n=>env n
 | .k v=>v
def ptrG:GV->Option (Nat×Nat)
 | .ptr g off=>some (g,off)
 |_=>none
def lenG (str:Bool):GV->Option Int
 | .str s=>if str then some s.size else none
 | .nilS=>if str then none else some 0
 | .emp=>if str then none else some 0
 | .sl _ _ n=>if str then none else some n
 |_=>none
def A3x:TypeDesc->Bool
 | .struct _=>true
 | .array _ _=>true
 |_=>false
def nckG:GV->Option GV
 | .ptr g off=>some (.ptr g off)
 | .fn f caps=>some (.fn f caps)
 |_=>none
def Ew:GV->Bool
 | .tup _=>false
 |_=>true
def boxG (N:St) (v:GV):Option (GV×St):=if Ew v=true then some (.ptr N.length 0,N++[some (.row 1 v.cells)]) else none
def isSl:GV->Bool
 | .nilS=>true
 | .emp=>true
 | .sl _ _ _=>true
 |_=>false
def appG (z bytes:Nat) (N:St) (s:GV) (n:Nat) (new:List GV):Option (GV×St):=
 if n=0 then(if isSl s then some (s,N) else none) else
 match s with
 | .nilS=>if n*bytes<=140737488355328 then some (.sl N.length 0 n,N++[some (.row z new)]) else none
 | .sl g off len=>match N[g]? with
  |some (some (.row z' cs))=>
   if cs=[]/\off=0/\len=0/\z'=z/\n*bytes<=140737488355328 then some (.sl N.length 0 n,N++[some (.row z new)])
   else if z'=z/\off+len*z<=cs.length/\(len+n)*bytes<=140737488355328 then
    some (.sl N.length 0 (len+n),N.set g none++[some (.row z ((cs.drop off).take (len*z)++new))])
   else none
  |_=>none
 |_=>none
def clrG (z:Nat) (zero:List GV) (N:St):GV->Option (GV×St)
 | .nilS=>some (.tup [],N)
 | .emp=>some (.tup [],N)
 | .sl g off len=>if len=0 then some (.tup [],N) else match N[g]? with
  |some (some (.row z' cs))=>if z'=z/\off+(reps len zero).length<=cs.length then some (.tup [],N.set g (some (.row z (Al cs off (reps len zero))))) else none
  |_=>none
 |_=>none
def bndG (d m:Nat):Option GV->Option Nat
 |none=>some d
 |some x=>(B9 (some x)).bind fun n=>if n<=m then some n else none
def cutG (z:Nat) (x:GV) (lo hi:Option GV):Option GV:=
 match x with
 | .nilS=>(bndG 0 0 hi).bind fun _=>(bndG 0 0 lo).bind fun _=>some .nilS
 | .emp=>(bndG 0 0 hi).bind fun _=>(bndG 0 0 lo).bind fun _=>some .emp
 | .sl g off len=>
  (bndG len len hi).bind fun h=>(bndG 0 h lo).bind fun l=>
  some (.sl g (off+l*z) (h - l))
 |_=>none
def zOk (N:St) (z:Nat):GV->Bool
 | .sl g _ _=>match N[g]? with
  |some (some (.row z' _))=>z'==z
  |some (some (.ice z' _))=>z'==z
  |_=>false
 |_=>true
def Aei (x:GV) (lo hi:Option GV):Option GV:=
 match x with
 | .str s=>
  (bndG s.size s.size hi).bind fun h=>(bndG 0 h lo).bind fun l=>
  some (.str (s.extract l h))
 |_=>none
def Rh (ks:List Sc) (k:List GV):List (GV×GV)->Nat->Option (Option (Nat×GV))
 |[],_=>some none
 |e::es,i=>match e.1 with
  | .agg c=>(Cz ks k c).bind fun b=>if b then some (some (i,e.2)) else Rh ks k es (i+1)
  |_=>none
def mpG (N:St):GV->Option (Nat×List (GV×GV))
 | .mp g=>match N[g]? with
  |some (some (.map es))=>some (g,es)
  |_=>none
 |_=>none
def keyG (n:Nat):GV->Option (List GV)
 | .agg c=>if c.length=n then some c else none
 |_=>none
def lkG (z:GV) (ok:Bool) (q:Option (Nat×GV)):GV:=match ok,q with
 |true,some (_,v)=>.tup [v,.bool true]
 |true,none=>.tup [z,.bool false]
 |false,some (_,v)=>v
 |false,none=>z
def mlkG (N:St) (ks:List Sc) (z:GV) (ok:Bool) (m k:GV):Option GV:=(mpG N m).bind fun r=>(keyG ks.length k).bind fun kc=>(Rh ks kc r.2 0).map (lkG z ok)
def Afz:Option (Option (Nat×GV))->Bool
 |some none=>true
 |_=>false
def mupG (N:St) (ks:List Sc) (m k v:GV):Option (GV×St):=(mpG N m).bind fun r=>(keyG ks.length k).bind fun kc=>if Ew v=true/\Afz (Rh ks kc r.2 0)=true then some (.tup [],N.set r.1 (some (.map (r.2++[(k,v)])))) else none
def exec (env:Env) (N:St):Ins->Option (GV×St)
 | .mov x=>some (x.ev env,N)
 | .pick c a b=>(c.ev env).bit.map fun c=>(if c then a.ev env else b.ev env,N)
 | .new cs=>some (.ptr N.length 0,N++[some (.row 1 cs)])
 | .box x=>boxG N (x.ev env)
 | .build zero parts=>(Ht zero (parts.map fun p=>(p.1,p.2.1,p.2.2.ev env))).map fun cs=>(.agg cs,N)
 | .lit z len zero parts=>(Ht zero (parts.map fun p=>(p.1,p.2.1,p.2.2.ev env))).map fun cs=>(.sl N.length 0 len,N++[some (.row z cs)])
 | .ld agg n a=>(ptrG (a.ev env)).bind fun p=>(rdB N p.1).bind fun cs=>(seg cs p.2 n).bind fun r=>(mkv agg r).map fun v=>(v,N)
 | .st n a x=>(ptrG (a.ev env)).bind fun p=>match N[p.1]? with
  |some (some (.row z cs))=>if p.2+n<=cs.length/\0<n/\(x.ev env).cells.length=n then some (.tup [],N.set p.1 (some (.row z (Al cs p.2 (x.ev env).cells)))) else none
  |_=>none
 | .nck x=>(nckG (x.ev env)).map fun v=>(v,N)
 | .bin op x y=>(binG op (x.ev env) (y.ev env)).map fun v=>(v,N)
 | .eqb neg x y=>(x.ev env).bit.bind fun a=>(y.ev env).bit.map fun b=>(.bool (neg ^^ (a==b)),N)
 | .eqn p neg x y=>(nilG p (x.ev env) (y.ev env)).map fun b=>(.bool (neg ^^ b),N)
 | .eqs neg ks x y=>match x.ev env,y.ev env with
  | .agg xs,.agg ys=>(Cz ks xs ys).map fun b=>(.bool (neg ^^ b),N)
  |_,_=>none
 | .un op x=>(unG op (x.ev env)).map fun v=>(v,N)
 | .cvi k x=>match x.ev env with
  | .int _ n=>some (.int k (k.wrap n),N)
  |_=>none
 | .bts x=>(elems N 1 (x.ev env)).bind fun r=>(F5 r.2).map fun bs=>(.str ⟨bs.toArray⟩,N)
 | .mkf f caps=>(caps.mapM fun c=>Ab6 (c.ev env)).map fun cs=>(.fn f cs,N)
 | .mks z bytes zero n c=>(B9 (some (n.ev env))).bind fun n=>(B9 (some (c.ev env))).bind fun c=>
   if n=c/\n*bytes<=140737488355328 then some (.sl N.length 0 n,N++[some (.row z (reps n zero))]) else none
 | .cutS x lo hi=>(Aei (x.ev env) (lo.map (·.ev env)) (hi.map (·.ev env))).map fun v=>(v,N)
 | .cut z x lo hi=>if zOk N z (x.ev env) then(cutG z (x.ev env) (lo.map (·.ev env)) (hi.map (·.ev env))).map fun v=>(v,N) else none
 | .fad off a=>(ptrG (a.ev env)).map fun p=>(.ptr p.1 (p.2+off),N)
 | .part agg off n x=>match x.ev env with
  | .agg cs=>(seg cs off n).bind fun r=>(mkv agg r).map fun v=>(v,N)
  |_=>none
 | .iad z x i=>match x.ev env with
  | .sl g off len=>(B9 (some (i.ev env))).bind fun i=>if i<len then some (.ptr g (off+i*z),N) else none
  |_=>none
 | .idx x i=>match x.ev env with
  | .str s=>(B9 (some (i.ev env))).bind fun i=>(s[i]?).map fun b=>(.int .u8 b.toNat,N)
  |_=>none
 | .ext i x=>match x.ev env with
  | .tup vs=>match vs[i]? with
   |some v=>match v with
    | .tup _=>none
    |v=>some (v,N)
   |none=>none
  |_=>none
 | .len str x=>(lenG str (x.ev env)).map fun n=>(.int .i64 n,N)
 | .app z bytes _ s x=>match x.ev env with
  | .str b=>if z=1 then appG z bytes N (s.ev env) b.size (b.data.toList.map fun c=>.int .u8 c.toNat) else none
  |x=>(elems N z x).bind fun r=>appG z bytes N (s.ev env) r.1 r.2
 | .mm max x y=>match x.ev env,y.ev env with
  | .int k a,.int _ b=>some (.int k (if max then(if b>a then b else a) else(if b<a then b else a)),N)
  |_,_=>none
 | .pan=>none
 | .mkm=>some (.mp N.length,N++[some (.map [])])
 | .mlk ks z ok m k=>(mlkG N ks z ok (m.ev env) (k.ev env)).map fun v=>(v,N)
 | .mup ks m k v=>mupG N ks (m.ev env) (k.ev env) (v.ev env)
 | .call _ _=>none
 | .callv _ _=>none
 | .chk _ _=>none
 | .blc _ _=>none
 | .clr z zero x=>clrG z zero N (x.ev env)
variable {P:Program}
def Res (P:Program) (m:Sem Value) (w0:World) (W:Rho) (N:St) (w:World) (v:GV) (N':St):Prop:=
 ∃ u w' W',m.run P w= .ok u w'/\(∀ g,g<N.length->W' g=W g)/\vRel W' v u/\Good w0 W' N' w'/\Frame W N w W' N' w'
def M4 (P:Program) (f:Nat):Bool:=match P.funcs[f]? with
 |some fn=>fn.name != "runtime.NumGoroutine" &&fn.body.isSome
 |none=>false
def Ret (P:Program) (f:Nat) (args:List GV) (N:St) (r:GV) (N':St):Prop:=
 M4 P f=true/\N.length<=N'.length/\∀ w0 W w (us:List Value),Good w0 W N w->All2 (vRel W) args us->
  Calls P f us.toArray w fun
   | .returned u,w'=>∃ W',(∀ g,g<N.length->W' g=W g)/\vRel W' r u/\Good w0 W' N' w'/\Frame W N w W' N' w'
   |_,_=>False
def Step (P:Program) (env:Env) (N:St):Ins->GV->St->Prop
 | .call f xs,v,N'=>Ret P f (xs.map (·.ev env)) N v N'
 | .callv x xs,v,N'=>∃ f caps,x.ev env= .fn f caps/\Ret P f (xs.map (·.ev env)++caps.map fun c=>.ptr c.1 c.2) N v N'
 | .chk d x,v,N'=>v= .tup []/\N'=N/\exec env N x=some (env d,N)
 | .blc t cs,v,N'=>v= .tup []/\N'=N/\∃ b,env t= .ptr b 0/\N[b]? =some (some (.row 1 cs))
 |i,v,N'=>exec env N i=some (v,N')
def Q5 (W:Rho):Option GV->Option Value->Prop
 |none,none=>True
 |some x,some u=>vRel W x u
 |_,_=>False
section res
variable {w0 w:World} {W:Rho} {N:St}
theorem Res.pure (hG:Good w0 W N w) {m:Sem Value} {u:Value} {v:GV} (h:m.run P w= .ok u w) (hr:vRel W v u):Res P m w0 W N w v N:=
 ⟨u,w,W,h,fun _ _=>rfl,hr,hG,Frame.refl _ _ _⟩
theorem Eb {k:IntKind} {n:Int} {u:Value} (h:vRel W (.int k n) u):u= .int k n:=h
theorem J8 {b:Bool} {u:Value} (h:vRel W (.bool b) u):u= .bool b:=h
theorem Kk {s:ByteArray} {u:Value} (h:vRel W (.str s) u):u= .string s:=h
theorem Dh {u:Value} (h:vRel W .nilS u):u= .slice none 0 0:=h
theorem M5 {u:Value} (h:vRel W .emp u):∃ a cap,u= .slice a 0 cap:=h
theorem M6 {u:Value} (h:vRel W .nilP u):u= .pointer none:=h
theorem G3 {g off:Nat} {u:Value} (h:vRel W (.ptr g off) u):∃ L,W g=some L/\u= .pointer (some (L.a.add off)):=h
theorem If {g off len:Nat} {u:Value} (h:vRel W (.sl g off len) u):∃ L,W g=some L/\∃ a cap,u= .slice (some a) len cap/\len<=cap/\(cap=0∨(a=L.a.add off/\(L.own=true->L.a.off+off+cap*L.z=L.tot))):=h
theorem Kl {cs:List GV} {u:Value} (h:vRel W (.agg cs) u):∃ vs:List Value,u= .agg vs.toArray/\All2 (sRel W) cs vs:=h
theorem Aej {xs:List GV} {u:Value} (h:vRel W (.tup xs) u):∃ vs:List Value,u= .tuple vs.toArray/\All2 (cRel W) xs vs:=h
theorem Acm {v:GV} {u:Value} (h:cRel W v u):All2 (sRel W) v.cells u.cells.toList:=by
 cases v with
 |agg cs=>obtain⟨vs,rfl,hv⟩:=h;exact hv
 |tup xs=>exact h.elim
 |_=>
  have k:=h
  simp only[cRel] at k
  have hu:u.cells= #[u]:=by
   have:=k.one
   cases u<;>first|rfl|(simp [Value.oneCell'] at this)
  rw[hu]
  exact .cons k .nil
theorem P5 {v:GV} {u:Value} (h:vRel W v u) (hn:0<v.cells.length):All2 (sRel W) v.cells u.cells.toList:=by
 cases v with
 |tup xs=>simp[GV.cells] at hn
 |_=>exact Acm h
end res
end
section ops
variable {P:Program} {w0 w:World} {W:Rho} {N:St}
theorem Ag0 {g:Nat} {cs:List GV} (h:rdB N g=some cs):∃ B,N[g]? =some (some B)/\B.cells=some cs:=by
 unfold rdB at h
 split at h
 ·rename_i B hB;exact⟨B,hB,h⟩
 ·cases h
theorem A21 {cs r:List GV} {off n:Nat} (h:seg cs off n=some r):r.length=n/\(∀ (j:Nat) c,r[j]? =some c->cs[off+j]? =some c)/\off+n<=cs.length/\r=(cs.drop off).take n:=by
 unfold seg at h
 split at h
 ·rename_i hl
  injection h with h
  subst h
  refine⟨by simp;omega,fun j c hj=> ?_,hl,rfl⟩
  rw[Zak] at hj
  split at hj
  ·rw[Zam] at hj;exact hj
  ·cases hj
 ·cases h
theorem Good.read (hG:Good w0 W N w) {g off n:Nat} {cs r:List GV} {L:Loc} (hcs:rdB N g=some cs) (hr:seg cs off n=some r) (hL:W g=some L):
  ∃ us:List Value,us.length=n/\(∀ (j:Nat) v,us[j]? =some v->w.cell? ((L.a.add off).add j)=some v)/\All2 (sRel W) r us:=by
 obtain⟨B,hB,hc⟩:=Ag0 hcs
 obtain⟨hl,hj,hx1,hx2⟩:=A21 hr
 have key:∀(j:Nat),j<n->∃ v,w.cell? ((L.a.add off).add j)=some v/\∀ c,r[j]? =some c->sRel W c v:=by
  intro j hjn
  have hrj:r[j]? =some r[j]:=Za5 (by omega)
  obtain⟨v,hv,hs⟩:=hG.cell hB hc hL (hj j _ hrj)
  refine⟨v,by rw[P4];exact hv,fun c hc=> ?_⟩
  rw[hrj] at hc;injection hc with hc;rw[<- hc];exact hs
 have us:∃ us:List Value,us.length=n/\∀(j:Nat) v,us[j]? =some v->w.cell? ((L.a.add off).add j)=some v/\∀ c,r[j]? =some c->sRel W c v:=by
  clear hl hj hr hx1 hx2
  induction n with
  |zero=>exact⟨[],rfl,fun j v h=>by simp at h⟩
  |succ n ih=>
   obtain⟨us,h1,h2⟩:=ih (fun j hjn=>key j (by omega))
   obtain⟨v,hv,hs⟩:=key n (by omega)
   refine⟨us++[v],by simp[h1],fun j u hu=> ?_⟩
   rcases Zal j n with hjn|hjn
   ·rw[Zaa (by omega)] at hu;exact h2 j u hu
   ·rw[Zab (by omega)] at hu
    have:j - us.length=0:=by
     cases hd:j - us.length with
     |zero=>rfl
     |succ k=>rw[hd] at hu;simp at hu
    rw[this] at hu
    simp at hu
    subst hu
    have:j=n:=by omega
    subst this
    exact⟨hv,hs⟩
 obtain⟨us,h1,h2⟩:=us
 exact⟨us,h1,fun j v h=>(h2 j v h).1,All2.of_get (by omega) fun j c v hc hv=>(h2 j v hv).2 c hc⟩
theorem Aa9 (hG:Good w0 W N w) {t:TypeId} {d:TypeDesc} {i:TypeInfo} {agg:Bool} {n g off:Nat} {L:Loc} {cs r:List GV} {v:GV} (hd:P.underlying t=some d) (hagg:A3x d=agg)
  (hi:P.info? t=some i) (hn:agg=true->i.size=n) (hn1:agg=false->n=1) (hL:W g=some L) (hcs:rdB N g=some cs) (hr:seg cs off n=some r) (hv:mkv agg r=some v):∃ u,(loadVar t (L.a.add off)).run P w= .ok u w/\cRel W v u:=by
 obtain⟨us,hl,hc,ha⟩:=hG.read hcs hr hL
 cases agg with
 |true=>
  have hv:v= .agg r:=by simpa [mkv] using hv.symm
  subst hv
  have hrun:=run_loadCells_list (P:=P) w (L.a.add off) us hc
  refine⟨.agg us.toArray,?_,us,rfl,ha⟩
  have hag:(isAgg t).run P w= .ok true w:=by
   simp only[isAgg,Sem.run_bind,run_underlying hd,Result.andThen_ok]
   cases d<;>simp_all [A3x]
  simp only[loadVar,Sem.run_bind,Sem.run_pure,Result.andThen_ok,hag,if_true,sizeOf,typeInfo,hi,run_program]
  rw[show i.size=us.length by rw[hn rfl,hl],hrun]
  rfl
 |false=>
  have hn:=hn1 rfl
  subst hn
  match us,hl,r,ha,hv with
  |[u],_,[c],.cons hs _,hv=>
   simp only[mkv,Zag,if_false,List.head?_cons,Zac.injEq] at hv
   subst hv
   refine⟨u,?_,?_⟩
   ·have hag:(isAgg t).run P w= .ok false w:=by
     simp only[isAgg,Sem.run_bind,run_underlying hd,Result.andThen_ok]
     cases d<;>simp_all [A3x]
    have h0:=hc 0 u rfl
    rw[show (L.a.add off).add 0=L.a.add off from by simp[Addr.add]] at h0
    simp only[loadVar,Sem.run_bind,Sem.run_pure,Result.andThen_ok,hag,Zag,if_false,run_load,h0]
   ·cases c with
    |agg _=>exact hs.elim
    |tup _=>exact hs.elim
    |_=>exact hs
theorem cRel.v {c:GV} {v:Value} (h:cRel W c v):vRel W c v:=by
 cases c with
 |tup _=>exact h.elim
 |_=>exact h
theorem Aek (hG:Good w0 W N w) {t:TypeId} {d:TypeDesc} {i:TypeInfo} {agg:Bool} {n g off:Nat} {u:Value} {cs r:List GV} {v:GV} (hd:P.underlying t=some d) (hagg:A3x d=agg)
  (hi:P.info? t=some i) (hn:agg=true->i.size=n) (hn1:agg=false->n=1) (hu:vRel W (.ptr g off) u) (hcs:rdB N g=some cs) (hr:seg cs off n=some r) (hv:mkv agg r=some v):Res P (Instr.loadAt t u) w0 W N w v N:=by
 obtain⟨L,hL,rfl⟩:=G3 hu
 obtain⟨u,hrun,hu⟩:=Aa9 (P:=P) hG hd hagg hi hn hn1 hL hcs hr hv
 exact Res.pure hG (u:=u) (by simp only[Instr.loadAt,Instr.sureAddr,Sem.run_bind,Sem.run_pure,Result.andThen_ok,hrun]) hu.v
theorem Aaa {r:List GV} {us:List Value} (h:All2 (sRel W) r us):∀ u∈us,u.oneCell'=true:=fun u hu=>by
 obtain⟨c,_,hs⟩:=h.mem' hu
 exact hs.one
theorem Zs {cs new:List GV} {off:Nat} (hl:off+new.length<=cs.length) (j:Nat):(Al cs off new)[j]? =if off<=j/\j<off+new.length then new[j - off]? else cs[j]? :=by
 unfold Al
 rw[Zav]
 by_cases h1:j<off
 ·rw[Zaa (by simp;omega),if_neg (by omega),Zak,if_pos h1]
 ·rw[Zab (by simp;omega)]
  have e:(cs.take off).length=off:=by simp;omega
  rw[e]
  by_cases h2:j<off+new.length
  ·rw[Zaa (by omega),if_pos (by omega)]
  ·rw[Zab (by omega),if_neg (by omega),Zam]
   congr 1
   omega
theorem G4 {cs new:List GV} {off:Nat} (hl:off+new.length<=cs.length):(Al cs off new).length=cs.length:=by
 unfold Al
 simp
 omega
theorem Good.store (hG:Good w0 W N w) {g z off:Nat} {cs new:List GV} {us:List Value} {L:Loc} (hB:N[g]? =some (some (.row z cs))) (hL:W g=some L) (hl:off+new.length<=cs.length) (ha:All2 (sRel W) new us):
  ∃ w',(storeCells (L.a.add off) us 0).run P w= .ok () w'/\Good w0 W (N.set g (some (.row z (Al cs off new)))) w'/\Frame W N w W (N.set g (some (.row z (Al cs off new)))) w':=by
 obtain⟨ho,hz,cur,ty,h1,h2,h3,h4⟩:=hG.mem g _ L hB hL
 have hsp:=(hG.loc g L hL ho).1
 have hul:=ha.length
 have hrun:=run_storeCells_at P L.a.block (L.a.off+off) ty us 0 cur w h1 (by omega) (Aaa ha)
 rw[Ln hsp]
 refine⟨_,hrun,?_,Frame.setRow hB hL ho _⟩
 refine hG.write hB hL ho h1 ?_ ?_ (fun e=>by
  have:=G4 hl
  rw[e] at this
  exact Zae this.symm) ?_
 ·simp;omega
 ·rw[G4 hl];omega
 ·intro j c hc
  rw[Zs hl] at hc
  have elen:(cur.toList.take (L.a.off+off+0)).length=L.a.off+off:=by simp;omega
  split at hc
  ·rename_i hj
   obtain⟨u,hu,hs⟩:=ha.get hc
   refine⟨u,?_,hs⟩
   simp only[Zah]
   rw[Zav,Zab (by omega),Zaa (by omega),elen]
   rw[<- hu]
   congr 1
   omega
  ·rename_i hj
   obtain⟨u,hu,hs⟩:=h4 j c hc
   refine⟨u,?_,hs⟩
   simp only[Zah]
   rw[Zav]
   by_cases h5:j<off
   ·rw[Zaa (by omega),Zak,if_pos (by omega),<-hu]
    simp
   ·rw[Zab (by omega),Zab (by omega),elen,Zam,<-hu]
    simp only[Zan]
    congr 1
    omega
theorem Acn (hG:Good w0 W N w) {t:TypeId} {i:TypeInfo} {z g off:Nat} {ua ux:Value} {cs:List GV} {x:GV} (hi:P.info? t=some i) (hua:vRel W (.ptr g off) ua) (hux:vRel W x ux)
  (hB:N[g]? =some (some (.row z cs))) (hl:off+i.size<=cs.length) (hn:0<i.size) (hx:x.cells.length=i.size):∃ w',(Instr.storeAt t ua ux).run P w= .ok () w'/\Good w0 W (N.set g (some (.row z (Al cs off x.cells)))) w'/\Frame W N w W (N.set g (some (.row z (Al cs off x.cells)))) w':=by
 obtain⟨L,hL,rfl⟩:=G3 hua
 have ha:=P5 hux (by omega)
 obtain⟨w',hrun,hG',hF⟩:=hG.store (P:=P) hB hL (off:=off) (new:=x.cells) (by omega) ha
 refine⟨w',?_,hG',hF⟩
 have hsz:ux.cells.size=i.size:=by rw[<- hx,ha.length];simp
 simp only[Instr.storeAt,Instr.sureAddr,storeVar,Sem.run_bind,Sem.run_pure,Result.andThen_ok,sizeOf,typeInfo,hi,run_program,hsz,ne_eq,not_true_eq_false,if_false,hrun]
theorem A22 (hG:Good w0 W N w) {e z:Nat} {cs:List GV} {vs:Array Value} (hz:0<z) (ha:All2 (sRel W) cs vs.toList):
  ∃ a w' W',(newRow e vs).run P w= .ok a w'/\(∀ g,g<N.length->W' g=W g)/\W' N.length=some ⟨a,vs.size,z,true⟩/\a.off=0/\a.spot=none/\Good w0 W' (N++[some (.row z cs)]) w'/\Frame W N w W' (N++[some (.row z cs)]) w':=by
 refine⟨_,_,Good.put W N.length ⟨⟨w.heap.size,0,none⟩,vs.size,z,true⟩,rfl,Good.put_sub,?_,rfl,rfl,hG.alloc (ty:=e) hz (fun j c hc=> ?_) ?_ (fun e=>by have:=ha.length;rw[e] at this;simpa using this.symm),Frame.alloc rfl rfl (fun _ _ h=>h) rfl⟩
 ·simp[Good.put]
 ·obtain⟨u,hu,hs⟩:=ha.get hc
  exact⟨u,by simpa using hu,hs⟩
 ·rw[ha.length];simp
theorem Ag1 (hG:Good w0 W N w) {e:Nat} {x:GV} {ux:Value} (hux:vRel W x ux) (hnt:Ew x=true):Res P (Instr.box e ux) w0 W N w (.ptr N.length 0) (N++[some (.row 1 x.cells)]):=by
 by_cases hn:0<x.cells.length
 ·obtain⟨a,w',W',hrun,hs,hL,_,hsp,hG',hF⟩:=A22 (P:=P) hG (e:=e) (z:=1) (cs:=x.cells) (vs:=ux.cells) (by omega) (P5 hux hn)
  refine⟨.pointer (some a),w',W',?_,hs,⟨_,hL,by simp[Addr.add]⟩,hG',hF⟩
  simp only[Instr.box,newVar,Sem.run_bind,hrun,Result.andThen_ok,Sem.run_pure]
 ·have h0:x.cells=[]:=Zae (by omega)
  have hu0:ux.cells.size=0:=by
   cases x with
   |agg cs=>
    obtain⟨vs,rfl,hvs⟩:=Kl hux
    have h0:cs=[]:=h0
    subst h0
    have:=hvs.length
    simpa [Value.cells] using this.symm
   |tup _=>cases hnt
   |_=>cases h0
  rw[h0]
  refine⟨.pointer (some ⟨w.heap.size,0,none⟩),w.alloc (.cells ux.cells e),Good.put W N.length ⟨⟨w.heap.size,0,none⟩,ux.cells.size,1,true⟩,rfl,Good.put_sub,⟨⟨⟨w.heap.size,0,none⟩,ux.cells.size,1,true⟩,by simp[Good.put],by simp[Addr.add]⟩,hG.alloc (ty:=e) (by omega) (fun j c hc=>by simp at hc) (by simp) (fun _=>hu0),Frame.alloc rfl rfl (fun _ _ h=>h) rfl⟩
theorem Aco (hG:Good w0 W N w) {e:Nat} {i:TypeInfo} {zv:Value} {cs:List GV} (hi:P.info? e=some i) (hz:i.zero=some zv) (ha:All2 (sRel W) cs zv.cells.toList):Res P (Instr.alloc e true (.tuple #[])) w0 W N w (.ptr N.length 0) (N++[some (.row 1 cs)]):=by
 obtain⟨a,w',W',hrun,hs,hL,_,hsp,hG',hF⟩:=A22 (P:=P) hG (e:=e) (z:=1) (cs:=cs) (vs:=zv.cells) (by omega) ha
 refine⟨.pointer (some a),w',W',?_,hs,⟨_,hL,by simp[Addr.add]⟩,hG',hF⟩
 have hzr:(zeroValue e).run P w= .ok zv w:=by simp[zeroValue,typeInfo,hi,hz]
 simp only[Instr.alloc,Sem.run_bind,hzr,newVar,hrun,Result.andThen_ok,Sem.run_pure]
end ops
section ops
variable {P:Program} {w0 w:World} {W:Rho} {N:St}
theorem Acp {op:BinOp} {t:TypeId} {ox oy:Operand} {x y v:GV} {ux uy:Value} (hx:vRel W x ux) (hy:vRel W y uy) (h:binG op x y=some v):
  ∃ u,((do eqGuard op t ox oy ux uy;binOp op t ux uy:Sem Value).run P w= .ok u w)/\vRel W v u:=by
 cases x with
 |int k a=>
  cases y with
  |int k' b=>
   have hx:=Eb hx;have hy:=Eb hy;subst hx;subst hy
   cases op<;>simp only[binG,Ev,intG,bitG] at h<;>(try split at h)<;>(try split at h)<;>(try cases h)<;>
    refine⟨_,?_,rfl⟩<;>simp_all [eqGuard,binOp,Op.shift,Op.intArith,Op.intDiv,Op.intBits,Op.intCmp]<;>(intro hneg;exfalso;omega)
  |_=>simp[binG] at h
 |str a=>
  cases y with
  |str b=>
   have hx:=Kk hx;have hy:=Kk hy;subst hx;subst hy
   cases op<;>simp only[binG,strG] at h<;>(try split at h)<;>(try cases h)<;>
    refine⟨_,?_,rfl⟩<;>simp_all [eqGuard,binOp,Op.stringOp]
   omega
  |_=>simp[binG] at h
 |_=>simp[binG] at h
theorem Gb {t:TypeId} {x y:Value} {b:Bool} (h:∀ d:Nat,(Op.equalIn (d+1) t x y).run P w= .ok b w):(Op.equal t x y).run P w= .ok b w:=h 9999
theorem Ag2 {op:BinOp} {neg:Bool} {t:TypeId} {ox oy:Operand} {x y:GV} {a b:Bool} {ux uy:Value} (hu:P.underlying t=some .bool) (hop:(op= .eql/\neg=false)∨(op= .neq/\neg=true)) (hx:vRel W x ux) (hy:vRel W y uy) (ha:x.bit=some a) (hb:y.bit=some b):
  ((do eqGuard op t ox oy ux uy;binOp op t ux uy:Sem Value).run P w= .ok (.bool (neg ^^ (a==b))) w):=by
 cases x<;>simp only[GV.bit,Zac.injEq,reduceCtorEq] at ha
 cases y<;>simp only[GV.bit,Zac.injEq,reduceCtorEq] at hb
 subst ha;subst hb
 have hx:=J8 hx;have hy:=J8 hy;subst hx;subst hy
 have h:∀ p q:Bool,(Op.equal t (.bool p) (.bool q)).run P w= .ok (p==q) w:=fun p q=>Gb (fun d=>run_equalIn_bool w d t p q hu)
 rcases hop with⟨rfl,rfl⟩|⟨rfl,rfl⟩<;>simp only[eqGuard,binOp,Sem.run_bind]<;>simp[h]
theorem Ag3 {op:BinOp} {p neg:Bool} {t:TypeId} {d:TypeDesc} {ox oy:Operand} {x y:GV} {b:Bool} {ux uy:Value} (hu:P.underlying t=some d) (hd:(p=false/\∃ e,d= .slice e)∨(p=true/\∃ e,d= .pointer e))
  (hop:(op= .eql/\neg=false)∨(op= .neq/\neg=true)) (hx:vRel W x ux) (hy:vRel W y uy) (hb:nilG p x y=some b):
  ((do eqGuard op t ox oy ux uy;binOp op t ux uy:Sem Value).run P w= .ok (.bool (neg ^^ b)) w):=by
 rcases hd with⟨rfl,e,rfl⟩|⟨rfl,e,rfl⟩<;>cases x<;>cases y<;>simp only[nilG,Zac.injEq,reduceCtorEq] at hb<;>subst hb
 ·rw[Dh hx,Dh hy]
  have h:=Gb (P:=P) (w:=w) (t:=t) (x:=.slice none 0 0) (y:=.slice none 0 0) (b:=true) (fun d=>by simp[Op.equalIn,run_underlying hu])
  rcases hop with⟨rfl,rfl⟩|⟨rfl,rfl⟩<;>simp only[eqGuard,binOp,Sem.run_bind]<;>simp[h]
 ·obtain⟨L,hL,a,cap,rfl,_⟩:=If hy
  rw[Dh hx]
  have h:∀ n,(Op.equal t (.slice none 0 0) (.slice (some a) n cap)).run P w= .ok false w:=fun n=>Gb (fun d=>by simp[Op.equalIn,run_underlying hu])
  rcases hop with⟨rfl,rfl⟩|⟨rfl,rfl⟩<;>simp only[eqGuard,binOp,Sem.run_bind]<;>simp[h]
 ·obtain⟨L,hL,a,cap,rfl,_⟩:=If hx
  rw[Dh hy]
  have h:∀ n,(Op.equal t (.slice (some a) n cap) (.slice none 0 0)).run P w= .ok false w:=fun n=>Gb (fun d=>by simp[Op.equalIn,run_underlying hu])
  rcases hop with⟨rfl,rfl⟩|⟨rfl,rfl⟩<;>simp only[eqGuard,binOp,Sem.run_bind]<;>simp[h]
 ·rw[M6 hx,M6 hy]
  have h:=Gb (P:=P) (w:=w) (t:=t) (x:=.pointer none) (y:=.pointer none) (b:=true) (fun d=>by simp[Op.equalIn,run_underlying hu])
  rcases hop with⟨rfl,rfl⟩|⟨rfl,rfl⟩<;>simp only[eqGuard,binOp,Sem.run_bind]<;>simp[h]
 ·obtain⟨L,hL,rfl⟩:=G3 hy
  rw[M6 hx]
  have h:∀ a,(Op.equal t (.pointer none) (.pointer (some a))).run P w= .ok false w:=fun a=>Gb (fun d=>by simp[Op.equalIn,run_underlying hu])
  rcases hop with⟨rfl,rfl⟩|⟨rfl,rfl⟩<;>simp only[eqGuard,binOp,Sem.run_bind]<;>simp[h]
 ·obtain⟨L,hL,rfl⟩:=G3 hx
  rw[M6 hy]
  have h:∀ a,(Op.equal t (.pointer (some a)) (.pointer none)).run P w= .ok false w:=fun a=>Gb (fun d=>by simp[Op.equalIn,run_underlying hu])
  rcases hop with⟨rfl,rfl⟩|⟨rfl,rfl⟩<;>simp only[eqGuard,binOp,Sem.run_bind]<;>simp[h]
theorem run_un {op:UnOp} {x v:GV} {ux:Value} (hx:vRel W x ux) (h:unG op x=some v):∃ u,(Op.unary op ux).run P w= .ok u w/\vRel W v u:=by
 cases x with
 |int k n=>
  have hx:=Eb hx;subst hx
  cases op<;>simp only[unG,Zac.injEq,reduceCtorEq] at h
  subst h
  exact⟨_,by simp[Op.unary,Op.intArith],rfl⟩
 |bool b=>
  have hx:=J8 hx;subst hx
  cases op<;>simp only[unG,Zac.injEq,reduceCtorEq] at h
  subst h
  exact⟨_,by simp[Op.unary],rfl⟩
 |_=>cases op<;>simp[unG] at h
theorem Afl {mx:Bool} {x y:GV} {k k':IntKind} {a b:Int} {ux uy:Value} (hx:vRel W x ux) (hy:vRel W y uy) (ha:x= .int k a) (hb:y= .int k' b) (ts:Array TypeId) (ty:TypeId):
  ((if mx then Builtin.max_ ts ty #[ux,uy] else Builtin.min_ ts ty #[ux,uy]).run P w= .ok (.int k (if mx then(if b>a then b else a) else(if b<a then b else a))) w):=by
 subst ha;subst hb
 have hx:=Eb hx;have hy:=Eb hy;subst hx;subst hy
 cases mx<;>simp[Builtin.max_,Builtin.min_,Builtin.max2,Builtin.min2]
theorem Ag4 {x:GV} {n:Int} {str:Bool} {t ty:TypeId} {d:TypeDesc} {ux:Value} (hu:P.underlying t=some d) (hd:(str=true/\d= .string)∨(str=false/\∃ e,d= .slice e)) (hx:vRel W x ux)
  (h:lenG str x=some n):(Builtin.len_ #[t] ty #[ux]).run P w= .ok (.int .i64 n) w:=by
 rcases hd with⟨rfl,rfl⟩|⟨rfl,e,rfl⟩<;>cases x<;>simp only[lenG,if_true,Zag,if_false,Zac.injEq,reduceCtorEq] at h<;>subst h
 ·have hx:=Kk hx;subst hx
  simp[Builtin.len_,run_underlying hu,goInt]
 ·have hx:=Dh hx;subst hx
  simp[Builtin.len_,run_underlying hu,goInt]
 ·obtain⟨a,cap,rfl⟩:=M5 hx
  simp[Builtin.len_,run_underlying hu,goInt]
 ·obtain⟨L,hL,a,cap,rfl,_⟩:=If hx
  simp[Builtin.len_,run_underlying hu,goInt]
theorem J9 {i:GV} {n:Nat} (h:B9 (some i)=some n):∃ k m,i= .int k m/\0<=m/\n=m.toNat:=by
 cases i<;>simp[B9] at h
 rename_i k m
 exact⟨k,m,rfl,h.1,h.2.symm⟩
theorem Ag5 {t e:TypeId} {i:TypeInfo} {g off len n:Nat} {ix:GV} {ux ui:Value} (hu:P.underlying t=some (.slice e)) (hi:P.info? e=some i) (hx:vRel W (.sl g off len) ux) (hix:vRel W ix ui) (hn:B9 (some ix)=some n) (hl:n<len):
  ∃ u,(Instr.indexAt t ux ui).run P w= .ok u w/\vRel W (.ptr g (off+n*i.size)) u:=by
 obtain⟨L,hL,a,cap,rfl,hle,hc⟩:=If hx
 obtain⟨k,m,rfl,h0,rfl⟩:=J9 hn
 have hui:=Eb hix;subst hui
 rcases hc with hc|⟨rfl,_⟩
 ·omega
 ·refine⟨.pointer (some ((L.a.add off).add (m.toNat*i.size))),?_,L,hL,by rw[P4]⟩
  have hlt:m<len:=by omega
  simp[Instr.indexAt,asIntOf,run_underlying hu,sizeOf,typeInfo,hi,h0,hlt]
theorem Ag6 {t:TypeId} {s:ByteArray} {n:Nat} {ix:GV} {b:UInt8} {ux ui:Value} (hu:P.underlying t=some .string) (hx:vRel W (.str s) ux) (hix:vRel W ix ui) (hn:B9 (some ix)=some n) (hb:s[n]? =some b):
  (Instr.index t ux ui).run P w= .ok (.int .u8 b.toNat) w:=by
 obtain⟨k,m,rfl,h0,rfl⟩:=J9 hn
 have hui:=Eb hix;subst hui
 have hx:=Kk hx;subst hx
 simp[Instr.index,asIntOf,run_underlying hu,h0,hb]
theorem Ag7 {s:TypeId} {fs:Array Field} {fi:Nat} {f:Field} {i:TypeInfo} {g off:Nat} {ua:Value} (hu:P.underlying s=some (.struct fs)) (hf:fs[fi]? =some f) (hi:P.info? f.type=some i) (hz:i.size≠0) (ha:vRel W (.ptr g off) ua):
  ∃ u,(Instr.fieldAt s ua fi).run P w= .ok u w/\vRel W (.ptr g (off+f.offset)) u:=by
 obtain⟨L,hL,rfl⟩:=G3 ha
 refine⟨.pointer (some ((L.a.add off).add f.offset)),?_,L,hL,by rw[P4]⟩
 simp[Instr.fieldAt,run_underlying hu,hf,Instr.sureAddr,fieldPlace,sizeOf,typeInfo,hi,hz]
theorem Ael {s:TypeId} {fs:Array Field} {fi:Nat} {f:Field} {i:TypeInfo} {d:TypeDesc} {agg:Bool} {n:Nat} {cs r:List GV} {v:GV} {ua:Value} (hu:P.underlying s=some (.struct fs)) (hf:fs[fi]? =some f) (hi:P.info? f.type=some i) (hd:P.underlying f.type=some d)
  (hagg:A3x d=agg) (hn:agg=true->i.size=n) (hn1:agg=false->n=1) (ha:vRel W (.agg cs) ua) (hr:seg cs f.offset n=some r) (hv:mkv agg r=some v):
  ∃ u,(Instr.field s ua fi).run P w= .ok u w/\vRel W v u:=by
 obtain⟨vs,rfl,hvs⟩:=Kl ha
 obtain⟨hl,hj,hle,rfl⟩:=A21 hr
 have hag:(isAgg f.type).run P w= .ok agg w:=by
  simp only[isAgg,Sem.run_bind,run_underlying hd,Result.andThen_ok]
  cases d<;>simp_all [A3x]
 have hlen:=hvs.length
 cases agg with
 |true=>
  have hv:v= .agg ((cs.drop f.offset).take n):=by simpa [mkv] using hv.symm
  subst hv
  refine⟨.agg ((vs.drop f.offset).take n).toArray,?_,_,rfl,(hvs.drop _).take _⟩
  simp only[Instr.field,Sem.run_bind,run_underlying hu,Result.andThen_ok,hf,asAgg,part,hag,if_true,sizeOf,typeInfo,run_program,hi,hn rfl,Sem.run_pure]
  congr 2
  apply Zax
  simp
 |false=>
  have hn:=hn1 rfl
  subst hn
  have h0:(((cs.drop f.offset).take 1))[0]? =some v:=by
   have:mkv false ((cs.drop f.offset).take 1)=((cs.drop f.offset).take 1)[0]? :=by
    simp[mkv,List.head?_eq_getElem?]
   rw[<- this];exact hv
  have h1:=hj 0 v h0
  obtain⟨u,hu1,hs⟩:=hvs.get h1
  refine⟨u,?_,?_⟩
  ·simp only[Zbd] at hu1
   simp only[Instr.field,Sem.run_bind,run_underlying hu,Result.andThen_ok,hf,asAgg,part,hag,Zag,if_false,Sem.run_pure,Zah,hu1]
  ·cases v with
   |agg _=>exact hs.elim
   |tup _=>exact hs.elim
   |_=>exact hs
theorem Ag8 {i:Nat} {vs:List GV} {v:GV} {ux:Value} (hx:vRel W (.tup vs) ux) (h:vs[i]? =some v) (ht:∀ xs,v≠.tup xs):∃ u,(Instr.extract ux i).run P w= .ok u w/\vRel W v u:=by
 obtain⟨us,rfl,hvs⟩:=Aej hx
 obtain⟨u,hu,hs⟩:=hvs.get h
 refine⟨u,by simp[Instr.extract,hu],?_⟩
 cases v with
 |tup xs=>exact absurd rfl (ht xs)
 |_=>exact hs
theorem Ag9 {src dst:TypeId} {k k':IntKind} {n:Int} {d:TypeDesc} {ux:Value} (hs:P.underlying src=some d) (hd:P.underlying dst=some (.int k)) (hx:vRel W (.int k' n) ux):(convert src dst ux).run P w= .ok (.int k (k.wrap n)) w:=by
 have hx:=Eb hx;subst hx
 cases d<;>simp[convert,run_underlying hs,run_underlying hd,Conv.intToInt]
theorem Aga {x v:GV} {ux:Value} {o:Oper} {ox:Operand} {ev:Operand->Value} (ho:o.op= .nilCheck ox) (he:ev ox=ux) (hx:vRel W x ux) (h:nckG x=some v):
  v=x/\(execOp ev o).run P w= .ok (.value ux) w:=by
 unfold execOp
 rw[ho]
 simp only[he]
 cases x<;>simp only[nckG,Zac.injEq,reduceCtorEq] at h
 ·obtain⟨L,hL,rfl⟩:=G3 hx
  exact⟨h.symm,rfl⟩
 ·obtain⟨vs,rfl,_⟩:=hx
  exact⟨h.symm,rfl⟩
end ops
def S1 (P:Program) (flat:TypeId->Option (List Sc)):List Field->Nat->Option (List Sc)
 |[],_=>some []
 |f::fs,off=>if f.name≠ "_" /\f.offset=off then(flat f.type).bind fun ks=>if(P.info? f.type).map (·.size)=some ks.length then(S1 P flat fs (off+ks.length)).map (ks++·) else none else none
def Ey (P:Program):Nat->TypeId->Option (List Sc)
 |0,_=>none
 |d+1,t=>match P.underlying t with
  |some .bool=>some [.b]
  |some (.int k)=>some [.i k]
  |some .string=>some [.s]
  |some (.struct fs)=>if P.stoodInHeld t then none else S1 P (Ey P d) fs.toList 0
  |_=>none
def P6 (P:Program) (t:TypeId) (us:List Value):Value:=match P.underlying t with
 |some (.struct _)=>.agg us.toArray
 |_=>us.headD undef
section ops
variable {P:Program} {w0 w:World} {W:Rho} {N:St}
theorem Q6:∀ {ks:List Sc} {xs ys:List GV} {b:Bool},Cz ks xs ys=some b->xs.length=ks.length/\ys.length=ks.length
 |[],[],[],_,_=>⟨rfl,rfl⟩
 |k::ks,x::xs,y::ys,b,h=>by
  simp only[Cz,Z1z,Z2z] at h
  obtain⟨_,_,_,h2,_⟩:=h
  have:=Q6 h2
  simp only[Zar]
  omega
 |[],[],_::_,_,h=>by simp[Cz] at h
 |[],_::_,_,_,h=>by simp[Cz] at h
 |_::_,[],_,_,h=>by simp[Cz] at h
 |_::_,_::_,[],_,h=>by simp[Cz] at h
theorem Q7:∀ {ks ks':List Sc} {xs ys:List GV} {b:Bool},Cz (ks++ks') xs ys=some b->
  ∃ b1 b2,Cz ks (xs.take ks.length) (ys.take ks.length)=some b1/\Cz ks' (xs.drop ks.length) (ys.drop ks.length)=some b2/\b=(b1&&b2)
 |[],ks',xs,ys,b,h=>⟨true,b,by simp[Cz],by simpa using h,by simp⟩
 |k::ks,ks',x::xs,y::ys,b,h=>by
  simp only[List.cons_append,Cz,Z1z,Z2z] at h
  obtain⟨c,hc,e,he,rfl⟩:=h
  obtain⟨b1,b2,h1,h2,rfl⟩:=Q7 he
  refine⟨c&&b1,b2,?_,?_,by simp[Bool.and_assoc]⟩
  ·simp[Cz,hc,h1]
  ·simpa using h2
 |_::_,_,[],_,_,h=>by simp[Cz] at h
 |_::_,_,_::_,[],_,h=>by simp[Cz] at h
theorem Ig {d:Nat} {t:TypeId} {ks:List Sc} (hf:Ey P d t=some ks) (hi:(P.info? t).map (·.size)=some ks.length) {us:List Value} {off:Nat} (hl:off+ks.length<=us.length):
  (part t us.toArray off).run P w= .ok (P6 P t ((us.drop off).take ks.length)) w:=by
 cases hii:P.info? t with
 |none=>rw[hii] at hi;cases hi
 |some i=>
  rw[hii] at hi
  have hsz:i.size=ks.length:=by simpa using hi
  cases d with
  |zero=>cases hf
  |succ d=>
   unfold Ey at hf
   unfold P6
   have one:∀ s0:Sc,ks=[s0]->(us.drop off).take ks.length=[us[off]?.getD undef]/\us[off]? =some (us[off]?.getD undef):=fun s0 hs=>by
    subst hs
    have hlt:off<us.length:=by simp only[Zar,Zay] at hl;omega
    have e:(us.drop off).take 1=[us[off]]:=by rw[List.drop_eq_getElem_cons hlt];rfl
    have e2:us[off]? =some us[off]:=Za5 hlt
    refine⟨by rw[e2];exact e,by rw[e2];rfl⟩
   split at hf
   ·rename_i hu
    injection hf with hf
    obtain⟨e1,e2⟩:=one _ hf.symm
    simp only[hu,e1,Zau]
    simp only[part,isAgg,Sem.run_bind,run_underlying hu,Result.andThen_ok,Sem.run_pure,Zag,if_false,Zah]
    rw[e2]
    rfl
   ·rename_i hu
    injection hf with hf
    obtain⟨e1,e2⟩:=one _ hf.symm
    simp only[hu,e1,Zau]
    simp only[part,isAgg,Sem.run_bind,run_underlying hu,Result.andThen_ok,Sem.run_pure,Zag,if_false,Zah]
    rw[e2]
    rfl
   ·rename_i hu
    injection hf with hf
    obtain⟨e1,e2⟩:=one _ hf.symm
    simp only[hu,e1,Zau]
    simp only[part,isAgg,Sem.run_bind,run_underlying hu,Result.andThen_ok,Sem.run_pure,Zag,if_false,Zah]
    rw[e2]
    rfl
   ·rename_i fs hu
    simp only[hu]
    simp only[part,isAgg,Sem.run_bind,run_underlying hu,Result.andThen_ok,Sem.run_pure,if_true,sizeOf,typeInfo,run_program,hii,hsz]
    congr 2
    apply Zax
    simp
   ·cases hf
theorem Q8 {d m:Nat} (ih:∀(t:TypeId) (ks:List Sc),Ey P d t=some ks->∀(xs ys:List GV) (us vs:List Value) (b:Bool),Cz ks xs ys=some b->All2 (sRel W) xs us->All2 (sRel W) ys vs->(Op.equalIn (d+m) t (P6 P t us) (P6 P t vs)).run P w= .ok b w):
  ∀(fs:List Field) (off:Nat) (ks:List Sc),S1 P (Ey P d) fs off=some ks->∀(xs ys:List GV) (us vs:List Value) (b:Bool),Cz ks (xs.drop off) (ys.drop off)=some b->All2 (sRel W) xs us->All2 (sRel W) ys vs->off<=xs.length->off<=ys.length->
   (Op.eqFields (d+m) us.toArray vs.toArray fs).run P w= .ok b w
 |[],off,ks,hf,xs,ys,us,vs,b,hb,hx,hy,_,_=>by
  simp only[S1,Zac.injEq] at hf
  subst hf
  have:b=true:=by
   cases h1:xs.drop off with
   |nil=>cases h2:ys.drop off with
    |nil=>rw[h1,h2] at hb;simpa [Cz] using hb.symm
    |cons _ _=>rw[h1,h2] at hb;simp[Cz] at hb
   |cons _ _=>rw[h1] at hb;simp[Cz] at hb
  subst this
  simp[Op.eqFields]
 |f::fs,off,ks,hf,xs,ys,us,vs,b,hb,hx,hy,hlx,hly=>by
  simp only[S1] at hf
  split at hf
  ·rename_i hn
   obtain⟨hnm,rfl⟩:=hn
   obtain⟨k1,hk1,hf⟩:=Z1z.1 hf
   split at hf
   ·rename_i hi
    obtain⟨k2,hk2,rfl⟩:=Z2z.1 hf
    obtain⟨b1,b2,h1,h2,rfl⟩:=Q7 hb
    obtain⟨l1,l2⟩:=Q6 h1
    simp only[Zbn,List.length_drop] at l1 l2
    have ex:=hx.length
    have ey:=hy.length
    have p1:=Ig (w:=w) hk1 hi (us:=us) (off:=f.offset) (by omega)
    have p2:=Ig (w:=w) hk1 hi (us:=vs) (off:=f.offset) (by omega)
    have e:=ih f.type k1 hk1 _ _ _ _ b1 h1 ((hx.drop f.offset).take k1.length) ((hy.drop f.offset).take k1.length)
    simp only[Op.eqFields,hnm,ne_eq,not_false_eq_true,if_true,Sem.run_bind,p1,p2,e,Result.andThen_ok]
    rw[Zbo,Zbo] at h2
    cases b1 with
    |false=>simp
    |true=>
     simp only[Bool.not_true,Zag,if_false,Zbh]
     exact Q8 ih fs (f.offset+k1.length) k2 hk2 xs ys us vs b2 h2 hx hy (by omega) (by omega)
   ·cases hf
  ·cases hf
theorem P7 (m:Nat):∀(d:Nat) (t:TypeId) (ks:List Sc),Ey P d t=some ks->∀(xs ys:List GV) (us vs:List Value) (b:Bool),Cz ks xs ys=some b->All2 (sRel W) xs us->All2 (sRel W) ys vs->
  (Op.equalIn (d+m) t (P6 P t us) (P6 P t vs)).run P w= .ok b w
 |0,_,_,hf,_,_,_,_,_,_,_,_=>by cases hf
 |d+1,t,ks,hf,xs,ys,us,vs,b,hb,hx,hy=>by
  have hf0:=hf
  unfold Ey at hf
  rw[show d+1+m=(d+m)+1 by omega]
  unfold P6
  have sc:∀ s0:Sc,ks=[s0]->∃ x y u v,xs=[x]/\ys=[y]/\us=[u]/\vs=[v]/\scEq s0 x y=some b/\sRel W x u/\sRel W y v:=fun s0 hs=>by
   subst hs
   match xs,ys,us,vs,hb,hx,hy with
   |[],_,_,_,hb,_,_=>simp[Cz] at hb
   |_::_,[],_,_,hb,_,_=>simp[Cz] at hb
   |[x],[y],[u],[v],hb,.cons h1 _,.cons h2 _=>exact⟨x,y,u,v,rfl,rfl,rfl,rfl,by simpa [Cz] using hb,h1,h2⟩
   |_::_::_,_::_,_,_,hb,_,_=>simp[Cz] at hb
   |[_],_::_::_,_,_,hb,_,_=>simp[Cz] at hb
  split at hf
  ·rename_i hu
   injection hf with hf
   obtain⟨x,y,u,v,rfl,rfl,rfl,rfl,h1,h2,h3⟩:=sc _ hf.symm
   simp only[hu,Zau]
   cases x<;>simp only[scEq,reduceCtorEq] at h1
   cases y<;>simp only[scEq,Zac.injEq,reduceCtorEq] at h1
   cases h2;cases h3;subst h1
   exact run_equalIn_bool w _ t _ _ hu
  ·rename_i k hu
   injection hf with hf
   obtain⟨x,y,u,v,rfl,rfl,rfl,rfl,h1,h2,h3⟩:=sc _ hf.symm
   simp only[hu,Zau]
   cases x<;>simp only[scEq,reduceCtorEq] at h1
   cases y<;>simp only[scEq,reduceCtorEq] at h1
   split at h1
   ·rename_i hk
    obtain⟨rfl,rfl⟩:=hk
    injection h1 with h1
    cases h2;cases h3;subst h1
    exact run_equalIn_int w _ t _ _ _ _ hu
   ·cases h1
  ·rename_i hu
   injection hf with hf
   obtain⟨x,y,u,v,rfl,rfl,rfl,rfl,h1,h2,h3⟩:=sc _ hf.symm
   simp only[hu,Zau]
   cases x<;>simp only[scEq,reduceCtorEq] at h1
   cases y<;>simp only[scEq,Zac.injEq,reduceCtorEq] at h1
   cases h2;cases h3;subst h1
   exact run_equalIn_string w _ t _ _ hu
  ·rename_i fs hu
   split at hf
   ·cases hf
   ·rename_i hst
    simp only[hu]
    have hfo:P.fieldsOf t=fs:=by simp[Program.fieldsOf,hu]
    rw[run_equalIn_struct w (d+m) t _ _ (by rw[hfo];exact hu) (by simpa using hst),hfo]
    exact Q8 (fun t ks h xs ys us vs b hb hx hy=>P7 m d t ks h xs ys us vs b hb hx hy) fs.toList 0 ks hf xs ys us vs b (by simpa using hb) hx hy (Za7 _) (Za7 _)
  ·cases hf
theorem Agb {op:BinOp} {neg:Bool} {t:TypeId} {fs:Array Field} {d:Nat} {ks:List Sc} {ox oy:Operand} {xs ys:List GV} {b:Bool} {ux uy:Value} (hu:P.underlying t=some (.struct fs)) (hd:d<=10000) (hf:Ey P d t=some ks) (hg:P.eqGuardType P.depth t=false)
  (hop:(op= .eql/\neg=false)∨(op= .neq/\neg=true)) (hx:vRel W (.agg xs) ux) (hy:vRel W (.agg ys) uy) (hb:Cz ks xs ys=some b):
  ((do eqGuard op t ox oy ux uy;binOp op t ux uy:Sem Value).run P w= .ok (.bool (neg ^^ b)) w):=by
 obtain⟨us,rfl,hxs⟩:=Kl hx
 obtain⟨vs,rfl,hys⟩:=Kl hy
 have h:=P7 (P:=P) (w:=w) (10000 - d) d t ks hf xs ys us vs b hb hxs hys
 rw[show d+(10000 - d)=10000 by omega] at h
 simp only[P6,hu] at h
 rcases hop with⟨rfl,rfl⟩|⟨rfl,rfl⟩
 ·simp only[Sem.run_bind,run_eqGuard_agg w .eql t ox oy _ _ hg,Result.andThen_ok,run_eql_struct,h]
  simp
 ·simp only[Sem.run_bind,run_eqGuard_agg w .neq t ox oy _ _ hg,Result.andThen_ok,run_neq_struct,h]
  simp
end ops
section ops
variable {P:Program} {w0 w:World} {W:Rho} {N:St}
theorem Good.elems (hG:Good w0 W N w) {z n:Nat} {x:GV} {r:List GV} {ux:Value} (hx:vRel W x ux) (he:elems N z x=some (n,r)):
  ∃ us:List Value,us.length=n*z/\All2 (sRel W) r us/\(((∃ a cap,ux= .slice a 0 cap)/\n=0)∨∃ g off a cap,x= .sl g off n/\ux= .slice (some a) n cap/\n<=cap/\∀(j:Nat) v,us[j]? =some v->w.cell? (a.add j)=some v):=by
 cases x with
 |nilS=>
  simp only[Sy.elems,Zac.injEq,Prod.mk.injEq] at he
  obtain⟨rfl,rfl⟩:=he
  exact⟨[],by simp,.nil,.inl ⟨⟨none,0,Dh hx⟩,rfl⟩⟩
 |emp=>
  simp only[Sy.elems,Zac.injEq,Prod.mk.injEq] at he
  obtain⟨rfl,rfl⟩:=he
  exact⟨[],by simp,.nil,.inl ⟨M5 hx,rfl⟩⟩
 |sl g off len=>
  simp only[Sy.elems,Z1z,Z2z,Prod.mk.injEq] at he
  obtain⟨cs,hcs,r',hr,rfl,rfl⟩:=he
  obtain⟨L,hL,a,cap,rfl,hle,hc⟩:=If hx
  obtain⟨us,hl,hcell,ha⟩:=hG.read hcs hr hL
  refine⟨us,hl,ha,.inr ⟨g,off,a,cap,rfl,rfl,hle,?_⟩⟩
  rcases hc with hc|⟨rfl,_⟩
  ·have:len=0:=by omega
   subst this
   have:us=[]:=Zae (by omega)
   subst this
   intro j v hj
   simp at hj
  ·exact hcell
 |_=>simp[Sy.elems] at he
theorem Q9:∀ {cs:List GV} {us:List Value} {bs:List UInt8},F5 cs=some bs->All2 (sRel W) cs us->∃ ns:List Int,us=ns.map (Value.int .u8)/\bs=ns.map fun n=>UInt8.ofNat n.toNat
 |[],_,_,h,.nil=>⟨[],rfl,by simpa [F5] using h.symm⟩
 |c::cs,_,bs,h,.cons h1 h2=>by
  cases c with
  |int k n=>
   cases k<;>simp only[F5,Z2z,reduceCtorEq] at h
   obtain⟨bs',hb,rfl⟩:=h
   obtain⟨ns,rfl,rfl⟩:=Q9 hb h2
   cases h1
   exact⟨n::ns,rfl,rfl⟩
  |_=>simp[F5] at h
theorem Agc (hG:Good w0 W N w) {src dst e:TypeId} {n:Nat} {x:GV} {r:List GV} {bs:List UInt8} {ux:Value} (hs:P.underlying src=some (.slice e)) (he:P.underlying e=some (.int .u8)) (hd:P.underlying dst=some .string)
  (hx:vRel W x ux) (hr:elems N 1 x=some (n,r)) (hb:F5 r=some bs):(convert src dst ux).run P w= .ok (.string ⟨bs.toArray⟩) w:=by
 obtain⟨us,hl,ha,h⟩:=hG.elems hx hr
 obtain⟨ns,rfl,rfl⟩:=Q9 hb ha
 rcases h with⟨⟨a,cap,rfl⟩,rfl⟩|⟨g,off,a,cap,_,rfl,_,hc⟩
 ·rw[run_convert_bytes_string w src dst e a 0 cap hs he hd]
  have:ns=[]:=Zae (by simpa using hl)
  subst this
  cases a with
  |none=>rfl
  |some a=>rw[run_bytesToString w a 0 cap [] rfl];rfl
 ·rw[run_convert_bytes_string w src dst e (some a) n cap hs he hd]
  have hlo:=run_loadCells_list (P:=P) w a _ hc
  rw[hl,Nat.mul_one] at hlo
  rw[run_bytesToString w a n cap ns hlo]
  have:∀(l:List Int) (r:ByteArray),l.foldl (fun r n=>r.push (UInt8.ofNat n.toNat)) r=⟨r.data++(l.map fun n=>UInt8.ofNat n.toNat).toArray⟩:=by
   intro l
   induction l with
   |nil=>intro r;simp
   |cons n l ih=>intro r;simp only[List.foldl_cons];rw[ih];simp[ByteArray.push]
  rw[this]
  have he0:ByteArray.empty.data= #[]:=rfl
  rw[he0]
  simp
theorem Acq {x:GV} {ux:Value} {n y:Nat} {c:BoundsCode} (hx:vRel W x ux) (hn:B9 (some x)=some n) (hl:n<=y):(Instr.sliceBound ux y c).run P w= .ok n w:=by
 obtain⟨k,m,rfl,h0,rfl⟩:=J9 hn
 have:=Eb hx
 subst this
 have hle:m<=y:=by omega
 simp[Instr.sliceBound,asIntOf,h0,hle]
theorem Good.zOk (hG:Good w0 W N w) {z:Nat} {x:GV} (h:zOk N z x=true):∀ g off len L,x= .sl g off len->W g=some L->L.own=true->L.z=z:=by
 intro g off len L hx hL ho
 subst hx
 simp only[Sy.zOk] at h
 split at h
 ·rename_i hB
  rw[<- eq_of_beq h];exact(hG.mem g _ L hB hL).2.1
 ·rename_i hB
  rw[<- eq_of_beq h];exact(hG.mem g _ L hB hL).2.1
 ·cases h
theorem A23 {x:Option GV} {ux:Option Value} {d m n y:Nat} {c:BoundsCode} (hx:Q5 W x ux) (h:bndG d m x=some n) (hd:d<=m) (hy:m<=y):n<=m/\((match ux with|some v=>Instr.sliceBound v y c|none=>Pure.pure d:Sem Nat).run P w= .ok n w):=by
 cases x with
 |none=>
  cases ux with
  |none=>simp only[bndG,Zac.injEq] at h;subst h;exact⟨hd,rfl⟩
  |some u=>exact hx.elim
 |some x=>
  cases ux with
  |none=>exact hx.elim
  |some u=>
   simp only[bndG,Z1z] at h
   obtain⟨k,hk,h⟩:=h
   split at h
   ·injection h with h;subst h
    exact⟨by assumption,Acq hx hk (by omega)⟩
   ·cases h
theorem Km {lo hi:Option GV} {ulo uhi:Option Value} {isS:Bool} {len cap h l:Nat} (hcap:len<=cap) (hlo:Q5 W lo ulo) (hhi:Q5 W hi uhi) (hh:bndG len len hi=some h) (hl:bndG 0 h lo=some l):
  (Instr.sliceBounds isS len cap ulo uhi none).run P w= .ok (l,h,cap) w/\l<=h/\h<=len:=by
 obtain⟨h1,k1⟩:=A23 (P:=P) (w:=w) (y:=cap) (c:=if isS then .sliceAcap else .sliceAlen) hhi hh (Zad _) hcap
 obtain⟨h2,k2⟩:=A23 (P:=P) (w:=w) (y:=h) (c:=.sliceB) hlo hl (Za7 _) (Zad _)
 refine⟨?_,h2,h1⟩
 unfold Instr.sliceBounds
 cases uhi<;>cases ulo<;>simp_all
theorem Aem {t:TypeId} {x v:GV} {lo hi:Option GV} {ux:Value} {ulo uhi:Option Value} (hu:P.underlying t=some .string) (hx:vRel W x ux) (hlo:Q5 W lo ulo) (hhi:Q5 W hi uhi)
  (h:Aei x lo hi=some v):∃ u,(Instr.sliceAt t ux ulo uhi none).run P w= .ok u w/\vRel W v u:=by
 cases x with
 |str s0=>
  have hx:=Kk hx;subst hx
  simp only[Aei] at h
  obtain⟨b,hb,h⟩:=Z1z.1 h
  obtain⟨a,ha,h⟩:=Z1z.1 h
  injection h with h
  subst h
  obtain⟨hr,_,_⟩:=Km (P:=P) (w:=w) (isS:=false) (Zad s0.size) hlo hhi hb ha
  exact⟨.string (s0.extract a b),by simp[Instr.sliceAt,run_underlying hu,Instr.slice,hr],rfl⟩
 |_=>simp[Aei] at h
theorem Agd {t e:TypeId} {i:TypeInfo} {x v:GV} {lo hi:Option GV} {ux:Value} {ulo uhi:Option Value} (hu:P.underlying t=some (.slice e)) (hi':P.info? e=some i) (hx:vRel W x ux) (hlo:Q5 W lo ulo) (hhi:Q5 W hi uhi)
  (hz:∀ g off len L,x= .sl g off len->W g=some L->L.own=true->L.z=i.size) (h:cutG i.size x lo hi=some v):∃ u,(Instr.sliceAt t ux ulo uhi none).run P w= .ok u w/\vRel W v u:=by
 cases x with
 |nilS=>
  have hx:=Dh hx;subst hx
  simp only[cutG] at h
  obtain⟨b,hb,h⟩:=Z1z.1 h
  obtain⟨l,ha,h⟩:=Z1z.1 h
  injection h with h
  subst h
  have e:b=0:=by
   have:=(A23 (P:=P) (w:=w) (c:=.sliceB) hhi hb (Zad _) (Zad _)).1
   omega
  subst e
  obtain⟨hr,h1,h2⟩:=Km (P:=P) (w:=w) (isS:=true) (Zad 0) hlo hhi hb ha
  have:l=0:=by omega
  subst this
  exact⟨.slice none 0 0,by simp[Instr.sliceAt,run_underlying hu,Instr.slice,hr,sizeOf,typeInfo,hi'],rfl⟩
 |emp=>
  obtain⟨a,cap,rfl⟩:=M5 hx
  simp only[cutG] at h
  obtain⟨b,hb,h⟩:=Z1z.1 h
  obtain⟨l,ha,h⟩:=Z1z.1 h
  injection h with h
  subst h
  have e:b=0:=by
   have:=(A23 (P:=P) (w:=w) (c:=.sliceB) hhi hb (Zad _) (Zad _)).1
   omega
  subst e
  obtain⟨hr,h1,h2⟩:=Km (P:=P) (w:=w) (isS:=true) (Za7 cap) hlo hhi hb ha
  have:l=0:=by omega
  subst this
  refine⟨.slice (if cap=0 then a else a.map (·.add (0*i.size))) 0 cap,?_,_,_,rfl⟩
  simp[Instr.sliceAt,run_underlying hu,Instr.slice,hr,sizeOf,typeInfo,hi']
 |sl g off len=>
  obtain⟨L,hL,a,cap,rfl,hle,hc⟩:=If hx
  simp only[cutG] at h
  obtain⟨b,hb,h⟩:=Z1z.1 h
  obtain⟨l,ha,h⟩:=Z1z.1 h
  injection h with h
  subst h
  obtain⟨hr,h1,h2⟩:=Km (P:=P) (w:=w) (isS:=true) hle hlo hhi hb ha
  refine⟨.slice (some (if cap=l then a else a.add (l*i.size))) (b - l) (cap - l),?_,L,hL,_,_,rfl,by omega,?_⟩
  ·simp[Instr.sliceAt,run_underlying hu,Instr.slice,hr,sizeOf,typeInfo,hi']
   split<;>rfl
  ·by_cases hcl:cap=l
   ·exact .inl (by omega)
   ·rcases hc with hc|⟨rfl,hc⟩
    ·omega
    ·refine .inr ⟨by rw[if_neg hcl,P4],fun ho=> ?_⟩
     have:=hc ho
     rw[<- this,hz g off len L rfl hL ho]
     have e:(cap - l)*i.size+l*i.size=cap*i.size:=by rw[<- Za1];congr 1;omega
     omega
 |_=>simp[cutG] at h
theorem Acr {caps:List GV} {cs:List (Nat×Nat)} {us:List Value} (h:caps.mapM Ab6=some cs) (ha:All2 (vRel W) caps us):All2 (fun c u=>∃ L,W c.1=some L/\u= .pointer (some (L.a.add c.2))) cs us:=by
 induction ha generalizing cs with
 |nil=>simp at h;subst h;exact .nil
 |cons h1 _ ih=>
  rw[Zbp] at h
  simp only[bind,Z1z,pure,Zac.injEq] at h
  obtain⟨c,hc,cs',hcs,rfl⟩:=h
  refine .cons ?_ (ih hcs)
  rename_i x _ _ _ _
  cases x<;>simp only[Ab6,Zac.injEq,reduceCtorEq] at hc
  subst hc
  exact G3 h1
theorem A24 {place:Nat->Option (Nat×Nat)}:∀ {ps:List (Nat×Value)} {qs:List (Nat×Nat×GV)} {zero cs:List GV} {cells:Array Value},Ht zero qs=some cs->All2 (sRel W) zero cells.toList->
  All2 (fun (p:Nat×Value) (q:Nat×Nat×GV)=>place p.1=some (q.1,q.2.1)/\vRel W q.2.2 p.2) ps qs->∃ r,Instr.fill place cells ps=some r/\All2 (sRel W) cs r.toList
 |_,_,zero,cs,cells,h,hz,.nil=>by
  simp only[Ht,Zac.injEq] at h
  subst h
  exact⟨cells,rfl,hz⟩
 |(pi,pv)::ps,(off,size,v)::qs,zero,cs,cells,h,hz,.cons h1 h2=>by
  simp only[Ht] at h
  split at h
  ·rename_i hc
   obtain⟨hs,h0,hl⟩:=hc
   obtain⟨hp,hv⟩:=h1
   have ha:=P5 (v:=v) hv (by omega)
   have hsz:pv.cells.size=size:=by rw[<- hs,ha.length];simp
   have hcz:cells.size=zero.length:=by rw[hz.length];simp
   have hf:=Great.foldl_set off pv.cells.toList 0 cells
   have hz':All2 (sRel W) (Al zero off v.cells) (pv.cells.zipIdx.foldl (fun cs (c,j)=>cs.setIfInBounds (off+j) c) cells).toList:=by
    rw[<- Array.foldl_toList,Array.toList_zipIdx]
    refine All2.of_get ?_ fun j a b hja hjb=> ?_
    ·rw[G4 (by omega)]
     have:=hf.1
     simp only[Za2]
     rw[this,hcz]
    ·rw[Zan] at hjb
     rw[hf.2 j] at hjb
     rw[Zs (by omega)] at hja
     simp only[Zbd,Za2] at hjb
     split at hja
     ·rename_i hj
      rw[if_pos (by omega)] at hjb
      obtain⟨u,hu,hs⟩:=ha.get hja
      rw[hu] at hjb
      injection hjb with hjb
      rw[<- hjb];exact hs
     ·rename_i hj
      rw[if_neg (by omega)] at hjb
      obtain⟨u,hu,hs⟩:=hz.get hja
      rw[Zan] at hu
      rw[hu] at hjb
      injection hjb with hjb
      rw[<- hjb];exact hs
   obtain⟨r,hr,har⟩:=A24 h hz' h2
   refine⟨r,?_,har⟩
   simp only[Instr.fill,hp]
   rw[if_neg (by simp;omega)]
   exact hr
  ·cases h
end ops
section ops
variable {P:Program} {w0 w:World} {W:Rho} {N:St}
theorem Afm {m:Int} (h: -9223372036854775808<=m) (h':m<=9223372036854775807):IntKind.i64.wrap m=m:=by
 show(if (true&&decide (m % 2 ^ 64≥2 ^ 63))=true then m % 2 ^ 64 - 2 ^ 64 else m % 2 ^ 64)=m
 by_cases hd:m % 2 ^ 64≥(2:Int) ^ 63
 ·rw[if_pos (by simp only[Zbh];exact decide_eq_true hd)]
  omega
 ·rw[if_neg (by simp only[Zbh];simpa using hd)]
  omega
theorem Rr {e:TypeId} {i:TypeInfo} {zv:Value} (hi:P.info? e=some i) (hz:i.zero=some zv) (w:World):(zeroValue e).run P w= .ok zv w:=by simp[zeroValue,typeInfo,hi,hz]
theorem A25 {e:TypeId} {i:TypeInfo} (hi:P.info? e=some i) (w:World):(sizeOf e).run P w= .ok i.size w:=by simp[sizeOf,typeInfo,hi]
theorem Aen {zero:List GV} {n j:Nat} (hz:0<zero.length) (hj:j<n*zero.length):(reps n zero)[j]? =zero[j % zero.length]? :=by
 induction n generalizing j with
 |zero=>simp at hj
 |succ n ih=>
  have e:reps (n+1) zero=zero++reps n zero:=by simp[reps,Zbf]
  rw[e]
  rw[Za1,Nat.one_mul] at hj
  by_cases h:j<zero.length
  ·rw[Zaa h,Nat.mod_eq_of_lt h]
  ·rw[Zab (by omega),ih (by omega)]
   congr 1
   rw[<- Nat.mod_eq_sub_mod (by omega)]
theorem Ih (n:Nat) (zero:List GV):(reps n zero).length=n*zero.length:=by
 induction n with
 |zero=>simp[reps]
 |succ n ih=>
  have e:reps (n+1) zero=zero++reps n zero:=by simp[reps,Zbf]
  rw[e,Zaj,ih,Za1]
  omega
theorem S2 {zero:List GV} {zc:Array Value} {n:Nat} (ha:All2 (sRel W) zero zc.toList) (hz:0<zc.size):All2 (sRel W) (reps n zero) ((Za3 (n*zc.size)).map (fun j=>zc[j % zc.size]!)).toList:=by
 have hl:zero.length=zc.size:=by rw[ha.length];simp
 refine All2.of_get ?_ fun j c v hc hv=> ?_
 ·rw[Ih,hl];simp
 ·have hj:j<n*zero.length:=by
   have:=(Zao.1 hc).1
   rwa [Ih] at this
  rw[Aen (by omega) hj] at hc
  obtain⟨u,hu,hs⟩:=ha.get hc
  have hm:j % zc.size<zc.size:=Nat.mod_lt _ hz
  rw[hl] at hu
  rw[Zan,Array.getElem?_eq_getElem hm] at hu
  injection hu with hu
  rw[hl] at hj
  simp[hj] at hv
  rw[<- hv,getElem!_pos zc _ hm,hu]
  exact hs
theorem A3y {W':Rho} {a:Addr} {len cap tot z g:Nat} (hL:W' g=some ⟨a,tot,z,true⟩) (h0:a.off=0) (hle:len<=cap) (htot:cap*z=tot):vRel W' (.sl g 0 len) (.slice (some a) len cap):=
 ⟨_,hL,a,cap,rfl,hle,.inr ⟨by simp[Addr.add],fun _=>by simp only;omega⟩⟩
theorem Age (hG:Good w0 W N w) {t e:TypeId} {i:TypeInfo} {zv:Value} {zero:List GV} {x y:GV} {ux uy:Value} {n:Nat} (hu:P.underlying t=some (.slice e)) (hi:P.info? e=some i) (hz:i.zero=some zv) (hzs:zv.cells.size=i.size) (hsz:0<i.size)
  (ha:All2 (sRel W) zero zv.cells.toList) (hx:vRel W x ux) (hy:vRel W y uy) (hn:B9 (some x)=some n) (hm:B9 (some y)=some n) (hb:n*i.bytes<=140737488355328) (h63:n<=9223372036854775807):
  Res P (Instr.makeSlice t ux uy) w0 W N w (.sl N.length 0 n) (N++[some (.row i.size (reps n zero))]):=by
 obtain⟨k,m,rfl,h0,rfl⟩:=J9 hn
 obtain⟨k',m',rfl,h0',e'⟩:=J9 hm
 have hmm:m'=m:=by omega
 subst hmm
 clear e'
 have:=Eb hx;subst this
 have:=Eb hy;subst this
 obtain⟨a,w',W',hrun,hs,hL,ho,hsp,hG',hF⟩:=A22 (P:=P) hG (e:=e) (z:=i.size) (cs:=reps m'.toNat zero) (vs:=(Za3 (m'.toNat*zv.cells.size)).map (fun j=>zv.cells[j % zv.cells.size]!)) hsz (S2 ha (by omega))
 refine⟨.slice (some a) m'.toNat m'.toNat,w',W',?_,hs,A3y hL ho (Zad _) (by simp[hzs]),hG',hF⟩
 have hw:IntKind.i64.wrap m'=m':=Afm (by omega) (by omega)
 have hbig:¬ ((i.bytes:Int)*m'>2 ^ 48):=by
  have h1:((m'.toNat*i.bytes:Nat):Int)<=140737488355328:=by omega
  rw[Int.natCast_mul,Int.toNat_of_nonneg h0,Int.mul_comm] at h1
  omega
 have hrow:(Za3 (m'.toNat*i.size)).map (fun j=>(if m'.toNat*i.size=0 then #[] else zv.cells)[j % (if m'.toNat*i.size=0 then(#[]:Array Value) else zv.cells).size]!)=(Za3 (m'.toNat*zv.cells.size)).map (fun j=>zv.cells[j % zv.cells.size]!):=by
  split
  ·rename_i h;rw[hzs,h];simp
  ·rw[hzs]
 simp only[Instr.makeSlice,Sem.run_bind,run_underlying hu,Result.andThen_ok,asInt,asIntOf,Sem.run_pure,typeInfo,run_program,hi,hw]
 have c1:(decide (m'<0)||decide (↑i.bytes*m'>(2:Int) ^ 48))=false:=by
  rw[decide_eq_false hbig,decide_eq_false (by omega)];rfl
 rw[if_neg (by simp only[c1];simp;omega)]
 simp only[Sem.run_bind,Sem.run_pure,Result.andThen_ok,run_askRoom,A25 hi]
 by_cases h0s:m'.toNat*i.size=0
 ·simp only[if_pos h0s] at hrow ⊢
  simp only[Sem.run_bind,Sem.run_pure,Result.andThen_ok,hrow,hrun]
 ·simp only[if_neg h0s] at hrow ⊢
  simp only[Sem.run_bind,Rr hi hz,Sem.run_pure,Result.andThen_ok,hrow,hrun]
theorem Agf (hG:Good w0 W N w) {t e:TypeId} {i:TypeInfo} {zv:Value} {zero cs:List GV} {len:Nat} {ps:List (Nat×Value)} {qs:List (Nat×Nat×GV)} (hu:P.underlying t=some (.slice e)) (hi:P.info? e=some i) (hz:i.zero=some zv) (hzs:zv.cells.size=i.size) (hsz:0<i.size)
  (ha:All2 (sRel W) zero zv.cells.toList) (hl:len*i.size<=16777216) (hp:All2 (fun (p:Nat×Value) (q:Nat×Nat×GV)=>some (p.1*i.size,i.size)=some (q.1,q.2.1)/\vRel W q.2.2 p.2) ps qs) (hf:Ht (reps len zero) qs=some cs):
  Res P (Instr.buildSlice t len ps.toArray) w0 W N w (.sl N.length 0 len) (N++[some (.row i.size cs)]):=by
 obtain⟨r,hr,har⟩:=A24 (place:=fun j=>some (j*i.size,i.size)) hf (S2 (n:=len) ha (by omega)) hp
 obtain⟨a,w',W',hrun,hs,hL,ho,hsp,hG',hF⟩:=A22 (P:=P) hG (e:=e) (z:=i.size) (cs:=cs) (vs:=r) hsz har
 have hlen:cs.length=len*i.size:=by
  have:∀(qs:List (Nat×Nat×GV)) (c0 c1:List GV),Ht c0 qs=some c1->c1.length=c0.length:=by
   intro qs
   induction qs with
   |nil=>intro c0 c1 h;simp only[Ht,Zac.injEq] at h;rw[h]
   |cons q qs ih=>
    intro c0 c1 h
    obtain⟨off,size,v⟩:=q
    simp only[Ht] at h
    split at h
    ·rename_i hc;rw[ih _ _ h,G4 (by omega)]
    ·cases h
  rw[this qs _ _ hf,Ih,ha.length]
  simp[hzs]
 have hrs:r.size=len*i.size:=by rw[<- hlen,har.length];simp
 refine⟨.slice (some a) len len,w',W',?_,hs,A3y hL ho (Zad _) hrs.symm,hG',hF⟩
 have hrow:(Za3 (len*i.size)).map (fun j=>(if len*i.size=0 then #[] else zv.cells)[j % (if len*i.size=0 then(#[]:Array Value) else zv.cells).size]!)=(Za3 (len*zv.cells.size)).map (fun j=>zv.cells[j % zv.cells.size]!):=by
  split
  ·rename_i h;rw[hzs,h];simp
  ·rw[hzs]
 simp only[Instr.buildSlice,Sem.run_bind,run_underlying hu,Result.andThen_ok,A25 hi,Sem.run_ite]
 rw[if_neg (by omega)]
 simp only[Sem.run_pure,Result.andThen_ok]
 by_cases h0s:len*i.size=0
 ·simp only[if_pos h0s] at hrow ⊢
  simp only[Sem.run_bind,Sem.run_pure,Result.andThen_ok,hrow,hr,hrun]
 ·simp only[if_neg h0s] at hrow ⊢
  simp only[Sem.run_bind,Rr hi hz,Sem.run_pure,Result.andThen_ok,hrow,hr,hrun]
end ops
section ops
variable {P:Program} {w0 w:World} {W:Rho} {N:St}
theorem Ab7 {L:Loc} {cs:List GV} (hm:A3v W w L cs) (hsp:L.a.spot=none) {off n:Nat} (hl:off+n<=cs.length):
  ∃ us:List Value,us.length=n/\(∀ (j:Nat) v,us[j]? =some v->w.cell? ((L.a.add off).add j)=some v)/\All2 (sRel W) ((cs.drop off).take n) us:=by
 obtain⟨cur,ty,h1,h2,h3,h4⟩:=hm
 refine⟨((cur.toList.drop (L.a.off+off)).take n),by simp;omega,fun j v hj=> ?_,All2.of_get (by simp;omega) fun j c v hc hv=> ?_⟩
 ·rw[Zak] at hj
  split at hj
  ·rw[Zam] at hj
   rw[P4,Ln hsp,cell_of_row w L.a.block _ cur ty (0,0) h1,<-hj]
   simp[Zaz]
  ·cases hj
 ·rw[Zak] at hc hv
  split at hc
  ·rename_i hjn
   rw[if_pos hjn] at hv
   rw[Zam] at hc hv
   obtain⟨u,hu,hs⟩:=h4 _ _ hc
   rw[<- Zaz] at hu
   simp only[Zan] at hv
   rw[hu] at hv
   injection hv with hv
   rw[<- hv];exact hs
  ·cases hc
theorem Acs {n:Nat} {L:Loc}:Good.put W n L n=some L:=by simp[Good.put]
theorem Qa (w:World) {t t2 ty e:TypeId} {d2:TypeDesc} {i:TypeInfo} {base:Option Addr} {ux:Value} {sLen sCap n:Nat} {uns:List Value} {w':World} (ht:P.underlying t=some (.slice e)) (ht2:P.underlying t2=some d2) (hd2:(∃ e',d2= .slice e')∨d2= .string)
  (hi:P.info? e=some i) (hlen:(Builtin.lenOf ux).run P w= .ok n w) (hfst:(Builtin.firstCells i.size n ux).run P w= .ok uns.toArray w) (hroom:sLen+n<=sCap)
  (hst:∀ a,base=some a->(storeCells (a.add (sLen*i.size)) uns).run P w= .ok () w') (hb:base=none->w'=w):
  (Builtin.append_ #[t,t2] ty #[.slice base sLen sCap,ux]).run P w= .ok (.slice base (sLen+n) sCap) w':=by
 cases base with
 |none=>
  have:=hb rfl
  subst this
  rcases hd2 with⟨e',rfl⟩|rfl<;>simp[Builtin.append_,run_underlying ht,run_underlying ht2,sizeOf,typeInfo,hi,hlen,hroom,hfst]
 |some a=>
  have:=hst a rfl
  rcases hd2 with⟨e',rfl⟩|rfl<;>simp[Builtin.append_,run_underlying ht,run_underlying ht2,sizeOf,typeInfo,hi,hlen,hroom,hfst,this]
theorem A7n (w:World) {t t2 ty e:TypeId} {d2:TypeDesc} {i:TypeInfo} {zv:Value} {base:Option Addr} {ux:Value} {sLen sCap n:Nat} {olds uns:List Value} (ht:P.underlying t=some (.slice e)) (ht2:P.underlying t2=some d2) (hd2:(∃ e',d2= .slice e')∨d2= .string)
  (hi:P.info? e=some i) (hz:i.zero=some zv) (hby:0<i.bytes) (hlen:(Builtin.lenOf ux).run P w= .ok n w) (hfst:(Builtin.firstCells i.size n ux).run P w.drew= .ok uns.toArray w.drew) (hold:(Builtin.firstCells i.size sLen (.slice base sLen sCap)).run P w.drew= .ok olds.toArray w.drew) (hroom:sCap<sLen+n) (hbytes:(sLen+n)*i.bytes<=140737488355328):
  (Builtin.append_ #[t,t2] ty #[.slice base sLen sCap,ux]).run P w= .ok (.slice (some ⟨w.heap.size,0,none⟩) (sLen+n) (grownCap w (sLen+n) sCap e)) (w.drew.alloc (.cells (olds++uns++(Builtin.zeroCells zv.cells (grownCap w (sLen+n) sCap e - (sLen+n))).toList).toArray e)):=by
 have hn:¬ (sLen+n<=sCap):=by omega
 have hle:sLen+n<=(sLen+n)*i.bytes:=Za8 _ hby
 have hby':i.bytes≠0:=by omega
 have h48':¬ (281474976710656<Builtin.nextslicecap (sLen+n) sCap*i.bytes):=by
  have:=growslice_fits hroom hbytes
  omega
 rcases hd2 with⟨e',rfl⟩|rfl<;>
 ·simp[Builtin.append_,run_underlying ht,run_underlying ht2,sizeOf,typeInfo,zeroValue,hi,hz,hlen,hn,hby',h48',Question.forced,hfst,hold,newRow,grownCap]
  congr 2
  apply Zax
  simp[Zav]
theorem Acu (hG:Good w0 W N w) {t t2 ty e:TypeId} {d2:TypeDesc} {i:TypeInfo} {zv:Value} {s v:GV} {us ux:Value} {n:Nat} {new:List GV} {uns:List Value} {N':St} (ht:P.underlying t=some (.slice e)) (ht2:P.underlying t2=some d2) (hd2:(∃ e',d2= .slice e')∨d2= .string)
  (hi:P.info? e=some i) (hz:i.zero=some zv) (hzs:zv.cells.size=i.size) (hsz:0<i.size) (hby:0<i.bytes) (hs:vRel W s us) (hlen:∀ w,(Builtin.lenOf ux).run P w= .ok n w)
  (hfst:∀ w',(∀ a v,w.cell? a=some v->w'.cell? a=some v)->(Builtin.firstCells i.size n ux).run P w'= .ok uns.toArray w') (hul:uns.length=n*i.size) (ha:All2 (sRel W) new uns) (h:appG i.size i.bytes N s n new=some (v,N')):
  Res P (Builtin.append_ #[t,t2] ty #[us,ux]) w0 W N w v N':=by
 have hfw:=hfst w (fun _ _ h=>h)
 have hfd:=hfst w.drew (fun _ _ h=>h)
 have hnl:=ha.length
 unfold appG at h
 have grow:∀(base:Option Addr) (sLen sCap:Nat) (olds:List Value) (cs:List GV) (N1:St),us= .slice base sLen sCap->sCap<sLen+n->(sLen+n)*i.bytes<=140737488355328->olds.length=sLen*i.size->All2 (sRel W) cs olds->
   (Builtin.firstCells i.size sLen (.slice base sLen sCap)).run P w.drew= .ok olds.toArray w.drew->Good w0 W N1 w->n≠0->N1.length=N.length->
   (∀ (g:Nat) B,N1[g]? =some (some B)->N[g]? =some (some B))->Res P (Builtin.append_ #[t,t2] ty #[us,ux]) w0 W N w (.sl N.length 0 (sLen+n)) (N1++[some (.row i.size (cs++new))]):=by
  intro base sLen sCap olds cs N1 hus hcap hbytes hol hcs hold hG1 hn0 hlen1 hsub
  subst hus
  have hr:=A7n (P:=P) w (ty:=ty) ht ht2 hd2 hi hz hby (hlen w) hfd hold hcap hbytes
  have hge:=grownCap_ge w (sLen+n) sCap e
  have hA:=hG1.drew.alloc (ty:=e) (z:=i.size) (cs:=cs++new) (vs:=(olds++uns++(Builtin.zeroCells zv.cells (grownCap w (sLen+n) sCap e - (sLen+n))).toList).toArray) hsz (fun j c hc=>by
   obtain⟨u,hu,hs⟩:=(hcs.append ha).get hc
   refine⟨u,?_,hs⟩
   have hlt:=(Zao.1 hu).1
   simp only[Zah]
   rw[Zaa hlt]
   exact hu) (by
   have:=(hcs.append ha).length
   simp only[Zbj,Zaj] at this ⊢
   omega) (fun e=>by
   have h1:=(Zba.1 e).2
   have h2:=ha.length
   rw[h1,hul] at h2
   have h3:0<n:=Zbi hn0
   have:=Nat.mul_pos h3 hsz
   simp at h2;omega)
  rw[<- hlen1]
  refine⟨_,_,_,hr,fun g hg=>Good.put_sub g (by omega),⟨_,Acs,_,_,rfl,hge,.inr ⟨by simp[Addr.add],fun _=> ?_⟩⟩,hA,?_⟩
  ·simp only[Zbj,Zaj,Za2,size_zeroCells,hzs,hol,hul,Zbm,Zbd]
   rw[<- Za1,<-Za1]
   congr 1
   omega
  ·rw[hlen1];exact Frame.alloc (w:=w) rfl hlen1 hsub rfl
 by_cases hn:n=0
 ·rw[if_pos hn] at h
  split at h
  rotate_left
  ·cases h
  rename_i hsl
  injection h with h
  injection h with h1 h2
  subst h1;subst h2;subst hn
  have huns:uns=[]:=Zae (by omega)
  subst huns
  have key:∀ base sLen sCap,us= .slice base sLen sCap->sLen<=sCap->Res P (Builtin.append_ #[t,t2] ty #[us,ux]) w0 W N w s N:=fun base sLen sCap he hle=>by
   subst he
   exact Res.pure hG (Qa w (ty:=ty) (w':=w) ht ht2 hd2 hi (hlen w) hfw (by omega) (fun a _=>rfl) (fun _=>rfl)) hs
  cases s with
  |nilS=>exact key none 0 0 (Dh hs) (Zad _)
  |emp=>
   obtain⟨a,cap,hus⟩:=M5 hs
   exact key a 0 cap hus (Za7 _)
  |sl g off len=>
   obtain⟨L,hL,a,cap,hus,hle,_⟩:=If hs
   exact key _ _ _ hus hle
  |_=>simp[isSl] at hsl
 ·rw[if_neg hn] at h
  cases s with
  |nilS=>
   have hus:=Dh hs
   simp only at h
   split at h
   ·injection h with h
    injection h with h1 h2
    subst h1;subst h2
    have:=grow none 0 0 [] [] N hus (by omega) (by rw[Zbm];assumption) (by simp) .nil (run_firstCells_none _ _ _ _ _) hG hn rfl (fun _ _ h=>h)
    simpa using this
   ·cases h
  |sl g off len=>
   obtain⟨L,hL,a,cap,hus,hle,hc⟩:=If hs
   simp only at h
   split at h
   ·rename_i z' cs hB
    split at h
    ·rename_i hcond
     obtain⟨rfl,rfl,rfl,rfl,hbytes⟩:=hcond
     injection h with h
     injection h with h1 h2
     subst h1;subst h2
     obtain⟨ho,hLz,cur,ty0,g1,g2,g3,g4⟩:=hG.mem g _ L hB hL
     have hz0:=(hG.loc g L hL ho).2.2.2
     have hcap0:cap=0:=by
      rcases hc with hc|⟨_,hcap⟩
      ·exact hc
      ·have h1:=hcap ho
       have h2:=g3.2 rfl
       have h3:cap*L.z=0:=by omega
       rcases Nat.mul_eq_zero.1 h3 with h4|h4
       ·exact h4
       ·omega
     subst hcap0
     have:=grow (some a) 0 0 [] [] N hus (by omega) (by rw[Zbm];assumption) (by simp) .nil (run_firstCells_some w.drew i.size 0 a 0 0 [] (by simp) fun j v hj=>by simp at hj) hG hn rfl (fun _ _ h=>h)
     simpa using this
    split at h
    ·rename_i _ hcond
     obtain⟨rfl,hfit,hbytes⟩:=hcond
     injection h with h
     injection h with h1 h2
     subst h1;subst h2
     have hm:=hG.mem g _ L hB hL
     obtain⟨ho,hLz,hrow⟩:=hm
     have hsp:=(hG.loc g L hL ho).1
     obtain⟨olds,hol,hoc,hoa⟩:=Ab7 hrow hsp (off:=off) (n:=len*i.size) hfit
     by_cases hroom:len+n<=cap
     ·rcases hc with hc|⟨ha',hcap⟩
      ·omega
      ·have hcap:=hcap ho
       subst ha'
       obtain⟨cur,ty0,g1,g2,g3,g4⟩:=hrow
       rw[hLz] at hcap
       have hmul:(len+n)*i.size<=cap*i.size:=Nat.mul_le_mul_right _ hroom
       rw[Za1] at hmul
       have hst:=run_storeCells_at P L.a.block (L.a.off+off+len*i.size) ty0 uns 0 cur w g1 (by omega) (Aaa ha)
       have hst':(storeCells ((L.a.add off).add (len*i.size)) uns).run P w= .ok () (w.setRow L.a.block (cur.toList.take (L.a.off+off+len*i.size+0)++uns++cur.toList.drop (L.a.off+off+len*i.size+0+uns.length)).toArray):=by
        rw[P4,Ln hsp,<-Zaz]
        exact hst
       have hr:=Qa w (ty:=ty) (base:=some (L.a.add off)) (sLen:=len) (sCap:=cap) ht ht2 hd2 hi (hlen w) hfw hroom (fun a ha=>by injection ha with ha;subst ha;exact hst') (fun h=>by cases h)
       rw[hus]
       have hG':=hG.regrow hB hL ho (off:=off) (cs':=(cs.drop off).take (len*i.size)++new) g1 (cur':=(cur.toList.take (L.a.off+off+len*i.size+0)++uns++cur.toList.drop (L.a.off+off+len*i.size+0+uns.length)).toArray) (by simp;omega) (by simp;omega) (fun e=>by
        have h1:=(Zba.1 e).2
        have h2:=ha.length
        rw[h1,hul] at h2
        have:=Nat.mul_pos (Zbi hn) hsz
        simp at h2;omega) (fun j c hc=>by
        have hlen0:((cs.drop off).take (len*i.size)).length=len*i.size:=by simp;omega
        have htk:(cur.toList.take (L.a.off+off+len*i.size+0)).length=L.a.off+off+len*i.size:=by simp;omega
        simp only[Zah]
        rw[Zav]
        by_cases hj:j<len*i.size
        ·rw[Zaa (by omega),Zak,if_pos hj,Zam] at hc
         obtain⟨u,hu,hs⟩:=g4 _ _ hc
         refine⟨u,?_,hs⟩
         rw[Zaa (by omega),Zak,if_pos (by omega),<-hu]
         simp[Zaz]
        ·rw[Zab (by omega),hlen0] at hc
         obtain⟨u,hu,hs⟩:=ha.get hc
         refine⟨u,?_,hs⟩
         have hlt:=(Zao.1 hu).1
         rw[Zab (by omega),htk,show L.a.off+off+j - (L.a.off+off+len*i.size)=j - len*i.size by omega,Zaa (by omega)]
         exact hu)
       refine⟨_,_,_,hr,fun g hg=>Good.put_sub g hg,⟨_,Acs,_,_,rfl,hroom,.inr ⟨?_,fun _=> ?_⟩⟩,hG',Frame.regrow (M:=⟨⟨L.a.block,L.a.off+off,none⟩,L.tot,L.z,true⟩) hB hL ho rfl _⟩
       ·rw[Ln hsp];simp[Addr.add]
       ·simp only[Zbd,hLz];omega
     ·have hfo:(Builtin.firstCells i.size len (.slice (some a) len cap)).run P w.drew= .ok olds.toArray w.drew:=by
       refine run_firstCells_some w.drew i.size len a len cap olds hol fun j v hj=> ?_
       rcases hc with hc|⟨ha',_⟩
       ·have:len=0:=by omega
        subst this
        simp only[Nat.zero_mul] at hol
        have:olds=[]:=Zae hol
        subst this
        simp at hj
       ·subst ha'
        exact hoc j v hj
      exact grow (some a) len cap olds _ (N.set g none) hus (by omega) hbytes hol hoa hfo (hG.kill g) hn (by simp) (fun g' B' hB'=>by
       rcases Good.set_some hB' with⟨_,hx,_⟩|⟨_,hB'⟩
       ·cases hx
       ·exact hB')
    ·cases h
   ·cases h
  |_=>simp at h
end ops
section ops
variable {P:Program} {w0 w:World} {W:Rho} {N:St}
theorem Agg (hG:Good w0 W N w) {t:TypeId}:Res P (Instr.makeMap t none) w0 W N w (.mp N.length) (N++[some (.map [])]):=by
 have h1:=hG.alloc (ty:=0) (z:=1) (cs:=[]) (vs:= #[]) (by omega) (fun j c hc=>by simp at hc) (by simp) (fun _=>rfl)
 have hL:Good.put W N.length ⟨⟨w.heap.size,0,none⟩,0,1,true⟩ N.length=some ⟨⟨w.heap.size,0,none⟩,0,1,true⟩:=by simp[Good.put]
 have hno:∀(g:Nat) B L,((N++[some (Blk.row 1 [])]).set N.length none)[g]? =some (some B)->Good.put W N.length ⟨⟨w.heap.size,0,none⟩,0,1,true⟩ g=some L->L.own=true->L.a.block≠w.heap.size:=fun g B L hB hg ho=>by
  rcases Good.set_some hB with⟨_,hx,_⟩|⟨hne,_⟩
  ·cases hx
  ·rcases G1 hg with⟨e,_⟩|⟨_,hg⟩
   ·exact absurd e hne
   ·have:=(hG.loc g L hg ho).2.2.1;omega
 have h3:=(h1.kill N.length).touch (w':=w.alloc (.map #[] 0)) (b:=w.heap.size) hG.below.size hno rfl rfl rfl (by simp) (fun k hk=>by
  rcases Zal k w.heap.size with h|h
  ·rw[Below.heap_alloc w _ k h,Below.heap_alloc w _ k h]
  ·rw[Zbb (by simp;omega),Zbb (by simp;omega)])
 have h4:=h3.revive (g:=N.length) (B:=.map []) hL (fun e he=>by simp at he) ⟨rfl,#[],0,heap_alloc_new w _,.nil⟩ (fun g' B' L' hne hB' hg' ho' _=>hno g' B' L' hB' hg' ho')
 have e:(((N++[some (Blk.row 1 [])]).set N.length none).set N.length (some (Blk.map [])))=N++[some (Blk.map [])]:=by
  rw[Zbl,List.set_append_right _ _ (Zad _)];simp
 rw[e] at h4
 exact⟨.map (some w.heap.size),w.alloc (.map #[] 0),_,run_makeMap t w,Good.put_sub,⟨_,hL,rfl⟩,h4,Frame.alloc rfl rfl (fun _ _ h=>h) rfl⟩
theorem Acv {g:Nat} {u:Value} (h:vRel W (.mp g) u):∃ L,W g=some L/\u= .map (some L.a.block):=h
theorem Ii (em:Bool) (m:Nat):∀(d:Nat) (t:TypeId) (ks:List Sc),Ey P d t=some ks->∀(us:List Value),us.length=ks.length->(Instr.checkKey em (d+m) t (P6 P t us)).run P w= .ok () w
 |0,_,_,hf,_,_=>by cases hf
 |d+1,t,ks,hf,us,hl=>by
  have hf0:=hf
  unfold Ey at hf
  rw[show d+1+m=(d+m)+1 by omega]
  unfold P6
  rw[Instr.checkKey]
  split at hf
  ·rename_i hu
   simp only[Sem.run_bind,run_underlying hu,Result.andThen_ok,hu]
   rfl
  ·rename_i k hu
   simp only[Sem.run_bind,run_underlying hu,Result.andThen_ok,hu]
   rfl
  ·rename_i hu
   simp only[Sem.run_bind,run_underlying hu,Result.andThen_ok,hu]
   rfl
  ·rename_i fs hu
   split at hf
   ·cases hf
   ·simp only[Sem.run_bind,run_underlying hu,Result.andThen_ok,hu]
    rw[<- Array.forIn_toList]
    have key:∀(L:List Field) (off:Nat) (ks:List Sc),S1 P (Ey P d) L off=some ks->off+ks.length<=us.length->
      (forIn L PUnit.unit fun f _=>(do
       if f.name≠ "_" then Instr.checkKey em (d+m) f.type (<- part f.type us.toArray f.offset)
       pure (ForInStep.yield PUnit.unit):Sem (ForInStep PUnit))).run P w= .ok PUnit.unit w:=by
     intro L
     induction L with
     |nil=>intro off ks _ _;simp
     |cons f L ih=>
      intro off ks hf hle
      simp only[S1] at hf
      split at hf
      ·rename_i hn
       obtain⟨hnm,rfl⟩:=hn
       obtain⟨k1,hk1,hf⟩:=Z1z.1 hf
       split at hf
       ·rename_i hi
        obtain⟨k2,hk2,rfl⟩:=Z2z.1 hf
        rw[Zaj] at hle
        have p1:=Ig (w:=w) hk1 hi (us:=us) (off:=f.offset) (by omega)
        have p2:=Ii em m d f.type k1 hk1 ((us.drop f.offset).take k1.length) (by simp;omega)
        simp only[List.forIn_cons,Sem.run_bind,hnm,ne_eq,not_false_eq_true,if_true,Result.andThen_ok,p1,p2,Sem.run_pure]
        exact ih _ k2 hk2 (by omega)
       ·cases hf
      ·cases hf
    exact congrArg (fun r:Result PUnit=>r.andThen fun a w'=>Sem.run P (pure ()) w') (key fs.toList 0 ks hf (by omega))
  ·cases hf
theorem A7o {t:TypeId} {fs:Array Field} {d:Nat} {ks:List Sc} (hu:P.underlying t=some (.struct fs)) (hd:d<=10000) (hf:Ey P d t=some ks) {kc:List GV} {us:List Value} (hk:All2 (sRel W) kc us):
  ∀ {es:List (GV×GV)} {xs:List MapEntry},All2 (fun e (x:MapEntry)=>cRel W e.1 x.key/\cRel W e.2 x.val) es xs->∀ {i:Nat} {q:Option (Nat×GV)},Rh ks kc es i=some q->
  ∃ q',(Instr.findAsking t (.agg us.toArray) xs i).run P w= .ok q' w/\match q,q' with
   |some (j,v),some (j',u)=>j=j'/\i<=j/\(∃ e x,es[j - i]? =some e/\xs[j - i]? =some x/\e.2=v/\x.val=u)/\cRel W v u
   |none,none=>True
   |_,_=>False:=by
 intro es xs h
 induction h with
 |nil=>intro i q hq;simp only[Rh,Zac.injEq] at hq;subst hq;exact⟨none,rfl,trivial⟩
 | @cons e x es xs he ht ih=>
  intro i q hq
  simp only[Rh] at hq
  split at hq
  ·rename_i c hc
   obtain⟨b,hb,hq⟩:=Z1z.1 hq
   have hek:=he.1
   rw[hc] at hek
   obtain⟨vs,hx,hvs⟩:=hek
   have r:=P7 (P:=P) (w:=w) (10000 - d) d t ks hf _ _ _ _ b hb hk hvs
   rw[show d+(10000 - d)=10000 by omega] at r
   simp only[P6,hu] at r
   have r:(Op.equal t (.agg us.toArray) x.key).run P w= .ok b w:=by rw[hx];exact r
   simp only[Instr.findAsking,Sem.run_bind,r,Result.andThen_ok]
   cases b with
   |true=>
    simp only[if_true,Zac.injEq] at hq
    subst hq
    exact⟨some (i,x.val),rfl,rfl,Zad _,⟨e,x,by simp,by simp,rfl,rfl⟩,he.2⟩
   |false=>
    simp only[Zag,if_false] at hq
    obtain⟨q',h1,h2⟩:=ih hq
    refine⟨q',h1,?_⟩
    cases q with
    |none=>cases q'<;>exact h2
    |some qv=>
     cases q' with
     |none=>exact h2
     |some qv'=>
      obtain⟨h3,h4,⟨e',x',h5,h6,h7,h8⟩,h9⟩:=h2
      refine⟨h3,by omega,⟨e',x',?_,?_,h7,h8⟩,h9⟩
      ·rw[show qv.1 - i=(qv.1 - (i+1))+1 by omega];simpa using h5
      ·rw[show qv.1 - i=(qv.1 - (i+1))+1 by omega];simpa using h6
  ·cases hq
theorem Ja {t:TypeId} {fs:Array Field} {d:Nat} {ks:List Sc} (hu:P.underlying t=some (.struct fs)) (hd:d<=10000) (hf:Ey P d t=some ks) {kc:List GV} {us:List Value} (hk:All2 (sRel W) kc us)
  {es:List (GV×GV)} {xs:List MapEntry} (h:All2 (fun e (x:MapEntry)=>cRel W e.1 x.key/\cRel W e.2 x.val) es xs) {q:Option (Nat×GV)} (hq:Rh ks kc es 0=some q):
  ∃ q',(Instr.findKey t (.agg us.toArray) xs).run P w= .ok q' w/\match q,q' with
   |some (j,v),some (j',u)=>j=j'/\(∃ e x,es[j]? =some e/\xs[j]? =some x/\e.2=v/\x.val=u)/\cRel W v u
   |none,none=>True
   |_,_=>False:=by
 obtain⟨q',h1,h2⟩:=A7o (P:=P) (w:=w) hu hd hf hk h hq
 refine⟨q',?_,?_⟩
 ·simp only[Instr.findKey,Sem.run_bind,run_underlying hu,Result.andThen_ok]
  cases xs with
  |nil=>
   simp only[Instr.findNow,Sem.run_pure]
   simpa [Instr.findAsking] using h1
  |cons x xs=>
   have:Instr.findNow (.struct fs) (.agg us.toArray) (x::xs) 0=none:=by simp[Instr.findNow,Instr.sameNow]
   rw[this]
   exact h1
 ·cases q with
  |none=>cases q'<;>exact h2
  |some qv=>cases q' with
   |none=>exact h2
   |some qv'=>obtain⟨h3,_,h5,h6⟩:=h2;exact⟨h3,by simpa using h5,h6⟩
theorem Aab {x:GV} {g:Nat} {es:List (GV×GV)} (h:mpG N x=some (g,es)):x= .mp g/\N[g]? =some (some (.map es)):=by
 unfold mpG at h
 split at h
 ·split at h
  ·injection h with h;injection h with h1 h2;subst h1 h2;exact⟨rfl,‹_›⟩
  ·cases h
 ·cases h
theorem A3z {n:Nat} {x:GV} {kc:List GV} (h:keyG n x=some kc):x= .agg kc/\kc.length=n:=by
 unfold keyG at h
 split at h
 ·split at h
  ·injection h with h;subst h;exact⟨rfl,‹_›⟩
  ·cases h
 ·cases h
theorem Ab8 {q:Option (Option (Nat×GV))} (h:Afz q=true):q=some none:=by
 cases q with
 |none=>cases h
 |some q=>cases q with
  |none=>rfl
  |some _=>cases h
theorem Agh (hG:Good w0 W N w) {mt kt et:TypeId} {fs:Array Field} {d:Nat} {ks:List Sc} {i:TypeInfo} {zv:Value} {z m k:GV} {um uk:Value} {g:Nat} {es:List (GV×GV)} {kc:List GV} {ok:Bool} {q:Option (Nat×GV)} (hmt:P.underlying mt=some (.map kt et)) (hu:P.underlying kt=some (.struct fs)) (hd:d<=10000) (hf:Ey P d kt=some ks) (hi:P.info? et=some i) (hz:i.zero=some zv) (hzr:sRel W z zv)
  (hm:vRel W m um) (hk:vRel W k uk) (h1:mpG N m=some (g,es)) (h2:keyG ks.length k=some kc) (h3:Rh ks kc es 0=some q):∃ u,(Instr.lookup mt um uk ok).run P w= .ok u w/\vRel W (lkG z ok q) u:=by
 obtain⟨rfl,hB⟩:=Aab h1
 obtain⟨rfl,hkl⟩:=A3z h2
 obtain⟨L,hL,rfl⟩:=Acv hm
 obtain⟨us,rfl,hus⟩:=Kl hk
 obtain⟨ho,entries,clock,hb,hA⟩:=hG.mem g _ L hB hL
 have hc:=Ii (P:=P) (w:=w) entries.isEmpty (10000 - d) d kt ks hf us (by rw[<- hus.length,hkl])
 rw[show d+(10000 - d)=10000 by omega] at hc
 simp only[P6,hu] at hc
 obtain⟨q',hr,hq⟩:=Ja (P:=P) (w:=w) hu hd hf hus hA h3
 have hzz:(zeroValue et).run P w= .ok zv w:=by simp[zeroValue,typeInfo,hi,hz]
 have hcz:cRel W z zv:=by
  cases z with
  |agg _=>exact hzr.elim
  |tup _=>exact hzr.elim
  |_=>exact hzr
 have tov:∀ {v:GV} {u:Value},cRel W v u->vRel W v u:=fun {v u} h=>by
  cases v with
  |tup _=>exact h.elim
  |_=>exact h
 have base:(Instr.lookup mt (.map (some L.a.block)) (.agg us.toArray) ok).run P w= .ok (match q' with|some (_,v)=>if ok then .tuple #[v,.bool true] else v|none=>if ok then .tuple #[zv,.bool false] else zv) w:=by
  simp only[Instr.lookup,Sem.run_bind,run_underlying hmt,Result.andThen_ok,MapKept.run_getObj_map hb,Sem.run_pure,hc,hr]
  cases q' with
  |none=>simp only[Sem.run_bind,hzz,Result.andThen_ok,Sem.run_pure]
  |some qv=>obtain⟨j,u⟩:=qv;cases ok<;>rfl
 refine⟨_,base,?_⟩
 cases q with
 |none=>
  cases q' with
  |some _=>exact hq.elim
  |none=>
   cases ok with
   |true=>exact⟨[zv,.bool false],rfl,.cons hcz (.cons rfl .nil)⟩
   |false=>exact tov hcz
 |some qv=>
  cases q' with
  |none=>exact hq.elim
  |some qv'=>
   obtain⟨j,v⟩:=qv
   obtain⟨j',u⟩:=qv'
   have hv:cRel W v u:=hq.2.2
   cases ok with
   |true=>exact⟨[u,.bool true],rfl,.cons hv (.cons rfl .nil)⟩
   |false=>exact tov hv
theorem Frame.setObj {g:Nat} {B B':Blk} {L:Loc} (hB:N[g]? =some (some B)) (hL:W g=some L) (ho:L.own=true) (o:Obj):Frame W N w W (N.set g (some B')) {w with heap:=w.heap.setIfInBounds L.a.block o}:=
 .of (by simp) (fun b _ hno=>by
  have:L.a.block≠b:=hno g B L hB hL ho
  simp[this]) (fun g' B1 M hB1 hM hom _=>by
  rcases Good.set_some hB1 with⟨rfl,_,_⟩|⟨_,hB1⟩
  ·exact⟨g',B,M,hB,hM,hom,rfl⟩
  ·exact⟨g',B1,M,hB1,hM,hom,rfl⟩)
theorem Agi (hG:Good w0 W N w) {mt kt et:TypeId} {fs:Array Field} {d:Nat} {ks:List Sc} {m k v:GV} {um uk uv:Value} {g:Nat} {es:List (GV×GV)} {kc:List GV} (hmt:P.underlying mt=some (.map kt et)) (hu:P.underlying kt=some (.struct fs)) (hd:d<=10000) (hf:Ey P d kt=some ks)
  (hm:vRel W m um) (hk:vRel W k uk) (hv:vRel W v uv) (hnt:Ew v=true) (h1:mpG N m=some (g,es)) (h2:keyG ks.length k=some kc) (h3:Rh ks kc es 0=some none):
  ∃ w',(Instr.mapUpdate mt um uk uv).run P w= .ok () w'/\Good w0 W (N.set g (some (.map (es++[(k,v)])))) w'/\Frame W N w W (N.set g (some (.map (es++[(k,v)])))) w':=by
 obtain⟨rfl,hB⟩:=Aab h1
 obtain⟨rfl,hkl⟩:=A3z h2
 obtain⟨L,hL,rfl⟩:=Acv hm
 obtain⟨us,rfl,hus⟩:=Kl hk
 obtain⟨ho,entries,clock,hb,hA⟩:=hG.mem g _ L hB hL
 have hc:=Ii (P:=P) (w:=w) false (10000 - d) d kt ks hf us (by rw[<- hus.length,hkl])
 rw[show d+(10000 - d)=10000 by omega] at hc
 simp only[P6,hu] at hc
 obtain⟨q',hr,hq⟩:=Ja (P:=P) (w:=w) hu hd hf hus hA h3
 have hq':q'=none:=by cases q' with
  |none=>rfl
  |some _=>exact hq.elim
 subst hq'
 have hcv:cRel W v uv:=by
  cases v with
  |tup _=>cases hnt
  |_=>exact hv
 have hck:cRel W (.agg kc) (.agg us.toArray):=⟨us,rfl,hus⟩
 have hno:∀(g':Nat) B' L',g'≠g->N[g']? =some (some B')->W g'=some L'->L'.own=true->L'.a.block≠L.a.block:=fun g' B' L' hne hB' hL' ho' he=>hne (hG.inj g' g B' _ L' L hB' hB hL' hL ho' ho he)
 have hblt:=(hG.loc g L hL ho).2.2.1
 have k2:=(hG.kill g).touch (w':={w with heap:=w.heap.setIfInBounds L.a.block (.map (entries.push {key:=.agg us.toArray,val:=uv,born:=clock}) (clock+1))}) (b:=L.a.block) (hG.loc g L hL ho).2.1 (fun g' B' L' hB' hL' ho'=>by
  rcases Good.set_some hB' with⟨_,hx,_⟩|⟨hne,hB'⟩
  ·cases hx
  ·exact hno g' B' L' hne hB' hL' ho') rfl rfl rfl (by simp) (fun k hk=>by simp[Ne.symm hk])
 have r:=k2.revive (g:=g) (B:=.map (es++[(.agg kc,v)])) hL (fun e he=>by
  rw[Zbc]
  rcases List.mem_append.1 he with he|he
  ·exact hG.closed g _ hB e he
  ·simp only[List.mem_singleton] at he
   subst he
   exact⟨hck.lt hG.fresh,hcv.lt hG.fresh⟩) ⟨ho,entries.push {key:=.agg us.toArray,val:=uv,born:=clock},clock+1,by simp[hblt],by
   rw[Array.toList_push]
   exact hA.append (.cons ⟨hck,hcv⟩ .nil)⟩
  (fun g' B' L' hne hB' hL' ho' _=>by
   rcases Good.set_some hB' with⟨_,hx,_⟩|⟨_,hB'⟩
   ·cases hx
   ·exact hno g' B' L' hne hB' hL' ho')
 rw[Zbl] at r
 refine⟨_,?_,r,Frame.setObj hB hL ho _⟩
 simp only[Instr.mapUpdate,Sem.run_bind,run_underlying hmt,Result.andThen_ok,MapKept.run_getObj_map hb,hc,hr,MapKept.run_setObj_map _ hb]
end ops
def B6 {Y β:Type} (f:Y->Option β):List Y->Option (List β)
 |[]=>some []
 |x::xs=>(f x).bind fun y=>(B6 f xs).map (y::·)
theorem Bd {Y β:Type} {f:Y->Option β}:∀ {xs:List Y} {ys:List β},B6 f xs=some ys->All2 (fun x y=>f x=some y) xs ys
 |[],_,h=>by simp only[B6,Zac.injEq] at h;subst h;exact .nil
 |x::xs,ys,h=>by
  simp only[B6,Z1z,Z2z] at h
  obtain⟨y,hy,ys',hys,rfl⟩:=h
  exact .cons hy (Bd hys)
def sval:Value->Option GV
 | .bool b=>some (.bool b)
 | .int k n=>some (.int k n)
 | .string s=>some (.str s)
 | .slice none 0 0=>some .nilS
 | .pointer none=>some .nilP
 |_=>none
def gval:Value->Option GV
 | .agg cs=>(B6 sval cs.toList).map .agg
 |v=>sval v
def opd:Operand->Option Opd
 | .tmp t=>some (.t t)
 | .const v=>(gval v).map .k
 | .func f=>some (.k (.fn f []))
 | .global _=>none
def opdO:Option Operand->Option (Option Opd)
 |none=>some none
 |some x=>(opd x).map some
def Ab9 (P:Program) (e:TypeId):Option (List GV):=(P.info? e).bind fun i=>i.zero.bind fun zv=>B6 sval zv.cells.toList
def A40 (P:Program) (t:TypeId):Option (Bool×Nat):=(P.underlying t).bind fun d=>(P.info? t).bind fun i=>
 match d with
 | .struct _| .array _ _=>some (true,i.size)
 |_=>some (false,1)
def rowG (P:Program) (e:TypeId):Option (Nat×Nat×List GV):=(P.info? e).bind fun i=>(Ab9 P e).bind fun z=>if z.length=i.size/\0<i.size/\0<i.bytes then some (i.size,i.bytes,z) else none
def S3 (P:Program) (t:TypeId):Option TypeId:=match P.underlying t with
 |some (.slice e)=>some e
 |_=>none
def Agj (fs:Array Field) (P:Program) (p:Nat×Operand):Option (Nat×Nat×Opd):=(fs[p.1]?).bind fun f=>(P.info? f.type).bind fun i=>(opd p.2).map fun x=>(f.offset,i.size,x)
def Agk (size:Nat) (p:Nat×Operand):Option (Nat×Nat×Opd):=(opd p.2).map fun x=>(p.1*size,size,x)
def S4 (P:Program) (t:TypeId):Option (Array Field):=match P.underlying t with
 |some (.struct fs)=>some fs
 |_=>none
def P8 (P:Program) (neg:Bool) (op:BinOp) (t:TypeId) (x y:Opd):Option Ins:=match P.underlying t with
 |some .bool=>some (.eqb neg x y)
 |some (.slice _)=>some (.eqn false neg x y)
 |some (.pointer _)=>some (.eqn true neg x y)
 |some (.struct _)=>if P.eqGuardType P.depth t then none else(Ey P 100 t).map fun ks=>.eqs neg ks x y
 |some (.int _)=>some (.bin op x y)
 |some .string=>some (.bin op x y)
 |_=>none
def Rt (P:Program) (src dst:TypeId) (x:Opd):Option Ins:=match P.underlying src,P.underlying dst with
 |some (.int _),some (.int k)=>some (.cvi k x)
 |some (.slice e),some .string=>if P.underlying e matches some (.int .u8) then some (.bts x) else none
 |_,_=>none
def M7 (P:Program) (t:TypeId) (x:Opd) (lo hi:Option Opd):Option Ins:=match P.underlying t with
 |some .string=>some (.cutS x lo hi)
 |some (.slice e)=>(P.info? e).map fun i=>.cut i.size x lo hi
 |_=>none
def A26 (P:Program) (t t2:TypeId) (s x:Opd):Option Ins:=(S3 P t).bind fun e=>(rowG P e).bind fun r=>match P.underlying t2 with
 |some (.slice _)=>some (.app r.1 r.2.1 r.2.2 s x)
 |some .string=>some (.app r.1 r.2.1 r.2.2 s x)
 |_=>none
def Gc (P:Program):Builtin->List Operand->List TypeId->Option Ins
 | .len,[x],[t]=>match P.underlying t with
  |some .string=>(opd x).map (.len true)
  |some (.slice _)=>(opd x).map (.len false)
  |_=>none
 | .append,[s,x],[t,t2]=>(opd s).bind fun s=>(opd x).bind fun x=>A26 P t t2 s x
 | .max,[x,y],_=>(opd x).bind fun x=>(opd y).map fun y=>.mm true x y
 | .min,[x,y],_=>(opd x).bind fun x=>(opd y).map fun y=>.mm false x y
 | .clear,[x],[t]=>(S3 P t).bind fun e=>(rowG P e).bind fun r=>(opd x).map (.clr r.1 r.2.2)
 |_,_,_=>none
def A27 (P:Program) (c:Call):Option Ins:=match c.callee with
 | .builtin b=>Gc P b c.args.toList c.argTypes.toList
 | .value (.func f)=>(B6 opd c.args.toList).map (.call f)
 | .value (.tmp t)=>(B6 opd c.args.toList).map (.callv (.t t))
 |_=>none
def mapG (P:Program) (t:TypeId):Option (List Sc×GV):=match P.underlying t with
 |some (.map kt et)=>match P.underlying kt with
  |some (.struct _)=>(Ey P 100 kt).bind fun ks=>(P.info? et).bind fun i=>i.zero.bind fun zv=>(sval zv).map fun z=>(ks,z)
  |_=>none
 |_=>none
def Lb (P:Program):Op->Option Ins
 | .move x=>(opd x).map .mov
 | .assign x=>(opd x).map .mov
 | .pick c a b=>(opd c).bind fun c=>(opd a).bind fun a=>(opd b).map fun b=>.pick c a b
 | .alloc e=>(Ab9 P e).map .new
 | .box _ x=>(opd x).map .box
 | .build t parts=>(S4 P t).bind fun fs=>(Ab9 P t).bind fun z=>if fs.toList.all (fun f=>(P.info? f.type).isSome) then(B6 (Agj fs P) parts.toList).map fun ps=>.build z ps else none
 | .buildSlice t len parts=>(S3 P t).bind fun e=>(rowG P e).bind fun r=>if len*r.1<=16777216 then(B6 (Agk r.1) parts.toList).map fun ps=>.lit r.1 len (reps len r.2.2) ps else none
 | .load t a=>(A40 P t).bind fun c=>(opd a).map fun a=>.ld c.1 c.2 a
 | .store t a x=>(P.info? t).bind fun i=>(opd a).bind fun a=>(opd x).map fun x=>.st i.size a x
 | .nilCheck x=>(opd x).map .nck
 | .binOp op t x y _=>(opd x).bind fun x=>(opd y).bind fun y=>match op with
  | .eql=>P8 P false .eql t x y
  | .neq=>P8 P true .neq t x y
  |op=>some (.bin op x y)
 | .unOp op _ x=>(opd x).map (.un op)
 | .convert src dst x=>(opd x).bind fun x=>Rt P src dst x
 | .makeFunc (.func f) first caps=>if first.size=0 then(B6 opd caps.toList).map (.mkf f) else none
 | .makeSlice t l c=>(S3 P t).bind fun e=>(rowG P e).bind fun r=>(opd l).bind fun l=>(opd c).map fun c=>.mks r.1 r.2.1 r.2.2 l c
 | .slice t x lo hi none=>(opd x).bind fun x=>(opdO lo).bind fun lo=>(opdO hi).bind fun hi=>M7 P t x lo hi
 | .fieldAddr s a f=>(S4 P s).bind fun fs=>(fs[f]?).bind fun fd=>(P.info? fd.type).bind fun i=>if i.size=0 then none else(opd a).map (.fad fd.offset)
 | .field s x f=>(S4 P s).bind fun fs=>(fs[f]?).bind fun fd=>(A40 P fd.type).bind fun c=>(opd x).map (.part c.1 fd.offset c.2)
 | .indexAddr t x ix=>(S3 P t).bind fun e=>(P.info? e).bind fun i=>(opd x).bind fun x=>(opd ix).map fun ix=>.iad i.size x ix
 | .index t x ix=>match P.underlying t with
  |some .string=>(opd x).bind fun x=>(opd ix).map fun ix=>.idx x ix
  |_=>none
 | .extract x i=>(opd x).map (.ext i)
 | .panic _=>some .pan
 | .makeInterface .. =>some .pan
 | .makeMap t none=>(mapG P t).map fun _=>.mkm
 | .lookup t m k ok=>(mapG P t).bind fun q=>(opd m).bind fun m=>(opd k).map fun k=>.mlk q.1 q.2 ok m k
 | .mapUpdate t m k v=>(mapG P t).bind fun q=>(opd m).bind fun m=>(opd k).bind fun k=>(opd v).map fun v=>.mup q.1 m k v
 | .call c=>A27 P c
 |_=>none
section ops
variable {P:Program} {w0 w:World} {W:Rho} {N:St}
theorem A28 {v:Value} {g:GV} (h:sval v=some g):sRel W g v:=by
 unfold sval at h
 split at h<;>first|(injection h with h;subst h;rfl)|cases h
theorem A41 {vs:List Value} {gs:List GV} (h:B6 sval vs=some gs):All2 (sRel W) gs vs:=by
 have:=Bd h
 clear h
 induction this with
 |nil=>exact .nil
 |cons h _ ih=>exact .cons (A28 h) ih
theorem sRel.v {c:GV} {v:Value} (h:sRel W c v):vRel W c v:=by
 cases c with
 |agg _=>exact h.elim
 |tup _=>exact h.elim
 |_=>exact h
theorem Ru {v:Value} {g:GV} (h:gval v=some g):vRel W g v:=by
 unfold gval at h
 split at h
 ·rename_i cs
  obtain⟨gs,hg,rfl⟩:=Z2z.1 h
  exact⟨cs.toList,rfl,A41 hg⟩
 ·exact(A28 h).v
def EnvRel (W:Rho) (env:Env) (a:Act):Prop:=∀ n,vRel W (env n) (a.eval (.tmp n))
theorem Acw {env:Env} {a:Act} {x:Operand} {y:Opd} (h:opd x=some y) (he:EnvRel W env a):vRel W (y.ev env) (a.eval x):=by
 unfold opd at h
 split at h
 ·injection h with h;subst h;exact he _
 ·obtain⟨g,hg,rfl⟩:=Z2z.1 h
  exact Ru hg
 ·injection h with h;subst h
  exact⟨[],rfl,.nil⟩
 ·cases h
def L5 (W:Rho) (env:Env) (a:Act) (L:List Operand):Prop:=∀ x∈L,∀ y,opd x=some y->vRel W (y.ev env) (a.eval x)
theorem EnvRel.on {env:Env} {a:Act} (he:EnvRel W env a) (L:List Operand):L5 W env a L:=fun _ _ _ h=>Acw h he
theorem As {env:Env} {a:Act} {L:List Operand} {x:Operand} {y:Opd} (h:opd x=some y) (he:L5 W env a L) (hx:x∈L):vRel W (y.ev env) (a.eval x):=he x hx y h
theorem A29 {env:Env} {a:Act} {L:List Operand} {x:Option Operand} {y:Option Opd} (h:opdO x=some y) (he:L5 W env a L) (hx:∀ z,x=some z->z∈L):Q5 W (y.map (·.ev env)) (x.map a.eval):=by
 unfold opdO at h
 split at h
 ·injection h with h;subst h;trivial
 ·obtain⟨g,hg,rfl⟩:=Z2z.1 h
  exact As hg he (hx _ rfl)
theorem A7p {env:Env} {a:Act} {L:List Operand} {xs:List Operand} {ys:List Opd} (h:B6 opd xs=some ys) (he:L5 W env a L) (hx:∀ x∈xs,x∈L):All2 (vRel W) (ys.map (·.ev env)) (xs.map a.eval):=by
 have:=Bd h
 clear h
 induction this with
 |nil=>exact .nil
 |cons h _ ih=>exact .cons (As h he (hx _ Zat)) (ih fun x hm=>hx x (Zap _ hm))
theorem Gd {t e:TypeId} (h:S3 P t=some e):P.underlying t=some (.slice e):=by
 unfold S3 at h
 split at h
 ·rename_i hu;injection h with h;subst h;exact hu
 ·cases h
theorem Jb {t:TypeId} {fs:Array Field} (h:S4 P t=some fs):P.underlying t=some (.struct fs):=by
 unfold S4 at h
 split at h
 ·rename_i hu;injection h with h;subst h;exact hu
 ·cases h
theorem A42 {t:TypeId} {q:List Sc×GV} (h:mapG P t=some q):∃ kt et fs i zv,P.underlying t=some (.map kt et)/\P.underlying kt=some (.struct fs)/\Ey P 100 kt=some q.1/\P.info? et=some i/\i.zero=some zv/\∀ W,sRel W q.2 zv:=by
 unfold mapG at h
 split at h
 ·rename_i kt et hu
  split at h
  ·rename_i fs hk
   obtain⟨ks,hf,h⟩:=Z1z.1 h
   obtain⟨i,hi,h⟩:=Z1z.1 h
   obtain⟨zv,hz,h⟩:=Z1z.1 h
   obtain⟨z,hs,rfl⟩:=Z2z.1 h
   exact⟨kt,et,fs,i,zv,hu,hk,hf,hi,hz,fun _=>A28 hs⟩
  ·cases h
 ·cases h
theorem P9 {e:TypeId} {z:List GV} (h:Ab9 P e=some z):∃ i zv,P.info? e=some i/\i.zero=some zv/\∀ W,All2 (sRel W) z zv.cells.toList:=by
 unfold Ab9 at h
 obtain⟨i,hi,h⟩:=Z1z.1 h
 obtain⟨zv,hz,h⟩:=Z1z.1 h
 exact⟨i,zv,hi,hz,fun _=>A41 h⟩
theorem M8 {e:TypeId} {r:Nat×Nat×List GV} (h:rowG P e=some r):∃ i zv,P.info? e=some i/\i.zero=some zv/\(∀ W,All2 (sRel W) r.2.2 zv.cells.toList)/\zv.cells.size=i.size/\0<i.size/\0<i.bytes/\r.1=i.size/\r.2.1=i.bytes:=by
 unfold rowG at h
 obtain⟨i,hi,h⟩:=Z1z.1 h
 obtain⟨z,hz,h⟩:=Z1z.1 h
 split at h
 ·rename_i hc
  injection h with h;subst h
  obtain⟨i',zv,hi',hzv,ha⟩:=P9 hz
  rw[hi] at hi';injection hi' with hi';subst hi'
  refine⟨i,zv,hi,hzv,ha,?_,hc.2.1,hc.2.2,rfl,rfl⟩
  have:=(ha (fun _=>none)).length
  rw[<- hc.1,this];simp
 ·cases h
theorem Lo {t:TypeId} {c:Bool×Nat} (h:A40 P t=some c):∃ d i,P.underlying t=some d/\P.info? t=some i/\A3x d=c.1/\(c.1=true->i.size=c.2)/\(c.1=false->c.2=1):=by
 unfold A40 at h
 obtain⟨d,hd,h⟩:=Z1z.1 h
 obtain⟨i,hi,h⟩:=Z1z.1 h
 refine⟨d,i,hd,hi,?_⟩
 split at h<;>injection h with h<;>subst h
 ·exact⟨rfl,fun _=>rfl,fun h=>by cases h⟩
 ·exact⟨rfl,fun _=>rfl,fun h=>by cases h⟩
 ·refine⟨?_,(fun h=>by cases h),fun _=>rfl⟩
  cases d<;>simp_all [A3x]
def Out (P:Program) (k:Value->World->Prop):Result Next->Prop
 | .ok (.value v) w=>k v w
 | .ok .skip w=>k undef w
 | .ok (.enter f args) w=>Calls P f args w fun
   | .returned v,w'=>k v w'
   |_,_=>False
 |_=>False
theorem Out.wp {o:Oper} {a:Act} {k:Value->World->Prop} {next:Act->World->Prop} {Q:Exit->Act->World->Prop} (h:Out P k ((execOp a.eval o).run P w)) (hk:∀ u w',k u w'->next (a.put o.dst u) w'):o.wp P a w next Q:=by
 unfold Oper.wp
 generalize(execOp a.eval o).run P w=r at h
 unfold Out at h
 split at h
 ·exact hk _ _ h
 ·exact hk _ _ h
 ·rw[Oper.upon_enter]
  refine h.mono fun e w' he=> ?_
  cases e with
  |returned v=>exact hk _ _ he
  |panicked _=>exact he.elim
  |outgrown=>exact he.elim
 ·exact h.elim
theorem Out.pure {S:Prop} {r:Result Next} (h:Out P (fun _ _=>S) r):S:=by
 unfold Out at h
 split at h
 ·exact h
 ·exact h
 ·obtain⟨e,w',_,he,_⟩:=h []
  cases e with
  |returned v=>exact he
  |panicked _=>exact he.elim
  |outgrown=>exact he.elim
 ·exact h.elim
def Does (P:Program) (o:Oper) (a:Act) (w0:World) (W:Rho) (N:St) (w:World) (v:GV) (N':St):Prop:=
 ∀(k:Value->World->Prop),(∀ W' u w',(∀ g,g<N.length->W' g=W g)->vRel W' v u->Good w0 W' N' w'->Frame W N w W' N' w'->k u w')->Out P k ((execOp a.eval o).run P w)
theorem Does.res {o:Oper} {a:Act} {m:Sem Value} {v:GV} {N':St} (he:execOp a.eval o=(do pure (.value (<- m)))) (h:Res P m w0 W N w v N'):Does P o a w0 W N w v N':=by
 intro k hn
 obtain⟨u,w',W',hrun,hs,hv,hG,hF⟩:=h
 rw[he]
 simp only[Sem.run_bind,hrun,Result.andThen_ok,Sem.run_pure]
 exact hn W' u w' hs hv hG hF
theorem Does.val {o:Oper} {a:Act} {u:Value} {v:GV} (he:(execOp a.eval o).run P w= .ok (.value u) w) (hG:Good w0 W N w) (hv:vRel W v u):Does P o a w0 W N w v N:=by
 intro k hn
 rw[he]
 exact hn W u w (fun _ _=>rfl) hv hG (Frame.refl _ _ _)
end ops
section ops
variable {P:Program} {w0 w:World} {W:Rho} {N:St}
theorem Does.of_run {o:Oper} {a:Act} {m:Sem Value} {u:Value} {v:GV} (he:execOp a.eval o=(do pure (.value (<- m)))) (hr:m.run P w= .ok u w) (hG:Good w0 W N w) (hv:vRel W v u):Does P o a w0 W N w v N:=
 .res he (.pure hG hr hv)
theorem S5 {f:Nat} {us:Array Value} (h:M4 P f=true):(callFunc f us).run P w= .ok (.enter f us) w:=by
 unfold M4 at h
 split at h
 ·rename_i fn hf
  simp only[Bool.and_eq_true,bne_iff_ne,ne_eq] at h
  obtain⟨hn,hb⟩:=h
  obtain⟨c,hb'⟩:=Za6.1 hb
  simp[callFunc,hf,hn,hb']
 ·cases h
theorem Does.call {o:Oper} {a:Act} {f:Nat} {us:List Value} {args:List GV} {v:GV} {N':St} (he:(execOp a.eval o).run P w= .ok (.enter f us.toArray) w) (hR:Ret P f args N v N') (hG:Good w0 W N w) (ha:All2 (vRel W) args us):Does P o a w0 W N w v N':=by
 intro k hn
 rw[he]
 refine(hR.2.2 w0 W w us hG ha).mono fun e w' h=> ?_
 cases e with
 |returned u=>
  obtain⟨W',hs,hv,hG',hF⟩:=h
  exact hn W' u w' hs hv hG' hF
 |panicked _=>exact h.elim
 |outgrown=>exact h.elim
theorem Aeo {o:Oper} {a:Act} {env:Env} {s0 x0:Operand} {t t2:TypeId} {s x:Opd} {i:Ins} {v:GV} {N':St} (hx':execOp a.eval o=(do pure (.value (<- Builtin.append_ #[t,t2] o.type #[a.eval s0,a.eval x0])))) (h:A26 P t t2 s x=some i)
  (hsr:vRel W (s.ev env) (a.eval s0)) (hxr:vRel W (x.ev env) (a.eval x0)) (hG:Good w0 W N w) (hs:exec env N i=some (v,N')):Does P o a w0 W N w v N':=by
 unfold A26 at h
 obtain⟨e,hte,h⟩:=Z1z.1 h
 obtain⟨r,hr,h⟩:=Z1z.1 h
 have ht:=Gd hte
 obtain⟨ti,zv,hi,hz,hza,hzs,hsz,hby,e1,e2⟩:=M8 hr
 have key:∃ d2,P.underlying t2=some d2/\((∃ e',d2= .slice e')∨d2= .string)/\i= .app r.1 r.2.1 r.2.2 s x:=by
  split at h
  ·rename_i e' hu;injection h with h;exact⟨_,hu,.inl ⟨e',rfl⟩,h.symm⟩
  ·rename_i hu;injection h with h;exact⟨_,hu,.inr rfl,h.symm⟩
  ·cases h
 obtain⟨d2,ht2,hd2,rfl⟩:=key
 have slice:∀ X:GV,x.ev env=X->(∀ b,X≠.str b)->(elems N r.1 X).bind (fun q=>appG r.1 r.2.1 N (s.ev env) q.1 q.2)=some (v,N')->Does P o a w0 W N w v N':=by
  intro X hX _ hb
  rw[hX] at hxr
  obtain⟨q,hq,hb⟩:=Z1z.1 hb
  rw[e1] at hq
  obtain⟨us,hul,hua,hcase⟩:=hG.elems hxr hq
  rw[e1,e2] at hb
  refine .res hx' (Acu hG ht ht2 hd2 hi hz hzs hsz hby hsr (n:=q.1) (uns:=us) ?_ ?_ hul hua hb)
  ·intro w
   rcases hcase with⟨⟨ad,cap,hu⟩,h0⟩|⟨g,off,ad,cap,_,hu,_,_⟩<;>rw[hu]
   ·rw[h0];rfl
   ·rfl
  ·intro w' hw'
   rcases hcase with⟨⟨ad,cap,hu⟩,h0⟩|⟨g,off,ad,cap,_,hu,_,hc⟩<;>rw[hu]
   ·have:us=[]:=Zae (by rw[hul,h0];simp)
    subst this
    cases ad with
    |none=>exact run_firstCells_none _ _ _ _ _
    |some ad=>exact run_firstCells_some w' ti.size q.1 ad 0 cap [] (by rw[h0];simp) fun j v hj=>by simp at hj
   ·exact run_firstCells_some w' ti.size q.1 ad q.1 cap us hul fun j v hj=>hw' _ _ (hc j v hj)
 simp only[exec] at hs
 split at hs
 ·rename_i b hb
  split at hs
  ·rename_i h1
   rw[hb] at hxr
   have hxr:=Kk hxr
   rw[e1,e2] at hs
   refine .res hx' (Acu hG ht ht2 hd2 hi hz hzs hsz hby hsr (n:=b.size) (uns:=b.data.toList.map fun c=>.int .u8 c.toNat) ?_ ?_ ?_ ?_ hs)
   ·intro w;rw[hxr];rfl
   ·intro w' _;rw[hxr]
    simp only[Builtin.firstCells,Sem.run_pure]
    have he:b.extract 0 b.size=b:=by
     apply ByteArray.ext;simp
    rw[he]
    congr 1
    apply Zax
    simp
   ·simp[<- e1,h1]
   ·have:∀ l:List UInt8,All2 (sRel W) (l.map fun c=>.int .u8 c.toNat) (l.map fun c=>.int .u8 c.toNat):=by
     intro l
     induction l with
     |nil=>exact .nil
     |cons c l ih=>exact .cons rfl ih
    exact this _
  ·cases hs
 ·rename_i hne
  exact slice _ rfl (fun b hb=>hne b hb) hs
theorem Agl (hG:Good w0 W N w) {t e:TypeId} {ty:TypeId} {i:TypeInfo} {zv:Value} {zero:List GV} {x v:GV} {ux:Value} {N':St} (hu:P.underlying t=some (.slice e)) (hi:P.info? e=some i) (hz:i.zero=some zv)
  (ha:All2 (sRel W) zero zv.cells.toList) (hp:0<zv.cells.size) (hx:vRel W x ux) (hc:clrG i.size zero N x=some (v,N')):Res P (Builtin.clear_ #[t] ty #[ux]) w0 W N w v N':=by
 have nope:∀ {a:Option Addr} {cap:Nat},(Builtin.clear_ #[t] ty #[.slice a 0 cap]).run P w= .ok (.tuple #[]) w:=by
  intro a cap
  cases a<;>simp[Builtin.clear_,run_underlying hu]
 cases x with
 |nilS=>
  have:=Dh hx;subst this
  injection hc with hc;injection hc with h1 h2;subst h1 h2
  exact .pure hG nope ⟨[],rfl,.nil⟩
 |emp=>
  obtain⟨a,cap,rfl⟩:=M5 hx
  injection hc with hc;injection hc with h1 h2;subst h1 h2
  exact .pure hG nope ⟨[],rfl,.nil⟩
 |sl g off len=>
  obtain⟨L,hL,a,cap,rfl,hle,hcap⟩:=If hx
  simp only[clrG] at hc
  split at hc
  ·rename_i h0
   subst h0
   injection hc with hc;injection hc with h1 h2;subst h1 h2
   exact .pure hG nope ⟨[],rfl,.nil⟩
  ·rename_i h0
   split at hc
   ·rename_i z' cs hB
    split at hc
    ·rename_i hcon
     obtain⟨rfl,hl⟩:=hcon
     injection hc with hc;injection hc with h1 h2;subst h1 h2
     have haa:a=L.a.add off:=by
      rcases hcap with h|h
      ·omega
      ·exact h.1
     subst haa
     obtain⟨w',hrun,hG',hF⟩:=hG.store (P:=P) hB hL (off:=off) (new:=reps len zero) hl (S2 (n:=len) ha hp)
     refine⟨.tuple #[],w',W,?_,fun _ _=>rfl,⟨[],rfl,.nil⟩,hG',hF⟩
     obtain⟨n,rfl⟩:∃ n,len=n+1:=⟨len - 1,by omega⟩
     simp[Builtin.clear_,run_underlying hu,Rr hi hz,Builtin.zeroCells] at hrun ⊢
     simp[hrun]
    ·cases hc
   ·cases hc
 |_=>cases hc
theorem A43 {o:Oper} {a:Act} {b:Builtin} {xs:List Operand} {ts:List TypeId} {env:Env} {i:Ins} {v:GV} {N':St} (hop:o.op= .call {callee:=.builtin b,args:=xs.toArray,argTypes:=ts.toArray}) (h:Gc P b xs ts=some i) (he:L5 W env a o.op.operands.toList) (hG:Good w0 W N w) (hs:exec env N i=some (v,N')):Does P o a w0 W N w v N':=by
 unfold Gc at h
 split at h
 ·rename_i x t
  have hx':execOp a.eval o=(do pure (.value (<- Builtin.len_ #[t] o.type #[a.eval x]))):=by unfold execOp;rw[hop];simp only[resolve,Zas,Za0,Za4];rfl
  have fin:∀(str:Bool) (d:TypeDesc),P.underlying t=some d->((str=true/\d= .string)∨(str=false/\∃ e,d= .slice e))->(opd x).map (Ins.len str)=some i->Does P o a w0 W N w v N':=by
   intro str d hd hd2 h
   obtain⟨x',hx,rfl⟩:=Z2z.1 h
   simp only[exec,Z2z,Prod.mk.injEq] at hs
   obtain⟨n,hn,rfl,rfl⟩:=hs
   exact .of_run hx' (Ag4 hd hd2 (As hx he (by rw[hop];simp[Op.operands,Call.operands])) hn) hG rfl
  split at h
  ·rename_i hu;exact fin true _ hu (.inl ⟨rfl,rfl⟩) h
  ·rename_i e hu;exact fin false _ hu (.inr ⟨rfl,e,rfl⟩) h
  ·cases h
 ·rename_i s x t t2
  have hx':execOp a.eval o=(do pure (.value (<- Builtin.append_ #[t,t2] o.type #[a.eval s,a.eval x]))):=by unfold execOp;rw[hop];simp only[resolve,Zas,Za0,Za4];rfl
  obtain⟨s',hs0,h⟩:=Z1z.1 h
  obtain⟨x',hx0,h⟩:=Z1z.1 h
  exact Aeo hx' h (As hs0 he (by rw[hop];simp[Op.operands,Call.operands])) (As hx0 he (by rw[hop];simp[Op.operands,Call.operands])) hG hs
 ·rename_i x y
  have hx':execOp a.eval o=(do pure (.value (<- Builtin.max_ ts.toArray o.type #[a.eval x,a.eval y]))):=by unfold execOp;rw[hop];simp only[resolve,Zas,Za0,Za4];rfl
  obtain⟨x',hx0,h⟩:=Z1z.1 h
  obtain⟨y',hy0,rfl⟩:=Z2z.1 h
  simp only[exec] at hs
  split at hs
  ·rename_i k p k' q h1 h2
   injection hs with hs
   injection hs with hs1 hs2
   subst hs1;subst hs2
   exact .of_run hx' (Afl (mx:=true) (As hx0 he (by rw[hop];simp[Op.operands,Call.operands])) (As hy0 he (by rw[hop];simp[Op.operands,Call.operands])) h1 h2 ts.toArray o.type) hG rfl
  ·cases hs
 ·rename_i x y
  have hx':execOp a.eval o=(do pure (.value (<- Builtin.min_ ts.toArray o.type #[a.eval x,a.eval y]))):=by unfold execOp;rw[hop];simp only[resolve,Zas,Za0,Za4];rfl
  obtain⟨x',hx0,h⟩:=Z1z.1 h
  obtain⟨y',hy0,rfl⟩:=Z2z.1 h
  simp only[exec] at hs
  split at hs
  ·rename_i k p k' q h1 h2
   injection hs with hs
   injection hs with hs1 hs2
   subst hs1;subst hs2
   exact .of_run hx' (Afl (mx:=false) (As hx0 he (by rw[hop];simp[Op.operands,Call.operands])) (As hy0 he (by rw[hop];simp[Op.operands,Call.operands])) h1 h2 ts.toArray o.type) hG rfl
  ·cases hs
 ·rename_i x t
  have hx':execOp a.eval o=(do pure (.value (<- Builtin.clear_ #[t] o.type #[a.eval x]))):=by unfold execOp;rw[hop];simp only[resolve,Zas,Za0,Za4];rfl
  obtain⟨e,hte,h⟩:=Z1z.1 h
  obtain⟨r,hr,h⟩:=Z1z.1 h
  obtain⟨x',hx0,rfl⟩:=Z2z.1 h
  have ht:=Gd hte
  obtain⟨ti,zv,hi,hz,hza,hzs,hsz,hby,e1,e2⟩:=M8 hr
  simp only[exec] at hs
  rw[e1] at hs
  exact .res hx' (Agl hG ht hi hz (hza _) (by omega) (As hx0 he (by rw[hop];simp[Op.operands,Call.operands])) hs)
 ·cases h
def Ins.isCall:Ins->Bool
 | .call _ _=>true
 | .callv _ _=>true
 | .chk _ _=>true
 | .blc _ _=>true
 |_=>false
theorem Ge {env:Env} {i:Ins} {v:GV} {N':St} (h:i.isCall=false) (hs:Step P env N i v N'):exec env N i=some (v,N'):=by
 cases i<;>first|exact hs|cases h
theorem Lp {b:Builtin} {xs:List Operand} {ts:List TypeId} {i:Ins} (h:Gc P b xs ts=some i):i.isCall=false:=by
 unfold Gc at h
 split at h
 ·split at h
  ·obtain⟨_,_,rfl⟩:=Z2z.1 h;rfl
  ·obtain⟨_,_,rfl⟩:=Z2z.1 h;rfl
  ·cases h
 ·obtain⟨s',hs0,h⟩:=Z1z.1 h
  obtain⟨x',hx0,h⟩:=Z1z.1 h
  unfold A26 at h
  obtain⟨e,hte,h⟩:=Z1z.1 h
  obtain⟨r,hr,h⟩:=Z1z.1 h
  split at h
  ·injection h with h;subst h;rfl
  ·injection h with h;subst h;rfl
  ·cases h
 ·obtain⟨x',hx0,h⟩:=Z1z.1 h
  obtain⟨y',hy0,rfl⟩:=Z2z.1 h
  rfl
 ·obtain⟨x',hx0,h⟩:=Z1z.1 h
  obtain⟨y',hy0,rfl⟩:=Z2z.1 h
  rfl
 ·obtain⟨_,_,h⟩:=Z1z.1 h
  obtain⟨_,_,h⟩:=Z1z.1 h
  obtain⟨_,_,rfl⟩:=Z2z.1 h
  rfl
 ·cases h
theorem Acx {o:Oper} {a:Act} {c:Call} {env:Env} {i:Ins} {v:GV} {N':St} (hop:o.op= .call c) (h:A27 P c=some i) (he:L5 W env a o.op.operands.toList) (hG:Good w0 W N w) (hs:Step P env N i v N'):Does P o a w0 W N w v N':=by
 obtain⟨callee,args,argTypes⟩:=c
 unfold A27 at h
 simp only at h
 split at h
 ·rename_i b
  exact A43 (xs:=args.toList) (ts:=argTypes.toList) (by simpa using hop) h he hG (Ge (Lp h) hs)
 ·rename_i f
  obtain⟨xs,hxs,rfl⟩:=Z2z.1 h
  refine .call (us:=(args.toList.map a.eval)) ?_ hs hG (A7p hxs he (fun x hx=>by rw[hop];simp only[Op.operands,Call.operands,Zbg];exact Zbe _ hx))
  unfold execOp
  rw[hop]
  simp only[resolve,Act.eval,Deferred.ofValue,Sem.run_bind,Sem.run_pure,Result.andThen_ok,invoke,Array.append_empty]
  rw[S5 hs.1]
  congr 2
  apply Zax
  simp
 ·rename_i t
  obtain⟨xs,hxs,rfl⟩:=Z2z.1 h
  obtain⟨f,caps,hf,hR⟩:=hs
  have hv:=he (.tmp t) (by rw[hop];simp[Op.operands,Call.operands]) (.t t) rfl
  simp only[Opd.ev] at hf hv
  rw[hf] at hv
  obtain⟨vs,hvs,hcs⟩:=hv
  refine .call (us:=(args.toList.map a.eval++vs)) ?_ hR hG ((A7p hxs he (fun x hx=>by rw[hop];simp only[Op.operands,Call.operands,Zbg];exact Zbe _ hx)).append ?_)
  ·unfold execOp
   rw[hop]
   simp only[resolve,hvs,Deferred.ofValue,Sem.run_bind,Sem.run_pure,Result.andThen_ok,invoke]
   rw[S5 hR.1]
   congr 2
   apply Zax
   simp
  ·clear hvs hf hR
   induction hcs with
   |nil=>exact .nil
   |cons h _ ih=>exact .cons h ih
 ·cases h
end ops
section ops
variable {P:Program} {w0 w:World} {W:Rho} {N:St}
theorem Acy {fs:Array Field} {P:Program} {env:Env} {a:Act} {L:List Operand} (he:L5 W env a L):∀ {ps:List (Nat×Operand)} {qs:List (Nat×Nat×Opd)},(∀ p∈ps,p.2∈L)->B6 (Agj fs P) ps=some qs->
  All2 (fun (p:Nat×Value) (q:Nat×Nat×GV)=>((fs[p.1]?).bind fun f=>(P.info? f.type).map fun i=>(f.offset,i.size))=some (q.1,q.2.1)/\vRel W q.2.2 p.2) (ps.map fun p=>(p.1,a.eval p.2)) (qs.map fun p=>(p.1,p.2.1,p.2.2.ev env)):=by
 intro ps qs hL h
 have:=Bd h
 clear h
 induction this with
 |nil=>exact .nil
 |cons h _ ih=>
  refine .cons ?_ (ih fun p hp=>hL p (Zap _ hp))
  unfold Agj at h
  obtain⟨f,hf,h⟩:=Z1z.1 h
  obtain⟨i,hi,h⟩:=Z1z.1 h
  obtain⟨x,hx,rfl⟩:=Z2z.1 h
  exact⟨by simp[hf,hi],As hx he (hL _ Zat)⟩
theorem Aba {n:Nat} {env:Env} {a:Act} {L:List Operand} (he:L5 W env a L):∀ {ps:List (Nat×Operand)} {qs:List (Nat×Nat×Opd)},(∀ p∈ps,p.2∈L)->B6 (Agk n) ps=some qs->
  All2 (fun (p:Nat×Value) (q:Nat×Nat×GV)=>some (p.1*n,n)=some (q.1,q.2.1)/\vRel W q.2.2 p.2) (ps.map fun p=>(p.1,a.eval p.2)) (qs.map fun p=>(p.1,p.2.1,p.2.2.ev env)):=by
 intro ps qs hL h
 have:=Bd h
 clear h
 induction this with
 |nil=>exact .nil
 |cons h _ ih=>
  refine .cons ?_ (ih fun p hp=>hL p (Zap _ hp))
  unfold Agk at h
  obtain⟨x,hx,rfl⟩:=Z2z.1 h
  exact⟨rfl,As hx he (hL _ Zat)⟩
theorem Acz {t:TypeId} {fs:Array Field} {zero cs:List GV} {ps:List (Nat×Value)} {qs:List (Nat×Nat×GV)} (hu:P.underlying t=some (.struct fs)) (hz:Ab9 P t=some zero) (hfs:∀ f∈fs.toList,(P.info? f.type).isSome=true)
  (hp:All2 (fun (p:Nat×Value) (q:Nat×Nat×GV)=>((fs[p.1]?).bind fun f=>(P.info? f.type).map fun i=>(f.offset,i.size))=some (q.1,q.2.1)/\vRel W q.2.2 p.2) ps qs) (hf:Ht zero qs=some cs):
  ∃ u,(Instr.build t ps.toArray).run P w= .ok u w/\vRel W (.agg cs) u:=by
 obtain⟨i,zv,hi,hzv,hza⟩:=P9 hz
 have hmap:∀(l:List Field),(∀ f∈l,(P.info? f.type).isSome=true)->∃ r:List (Nat×Nat),(l.mapM (m:=Sem) fun f=>do pure (f.offset,<-sizeOf f.type)).run P w= .ok r w/\r.length=l.length/\∀(j:Nat) f,l[j]? =some f->∃ i,P.info? f.type=some i/\r[j]? =some (f.offset,i.size):=by
  intro l hl
  induction l with
  |nil=>exact⟨[],rfl,rfl,fun j f h=>by simp at h⟩
  |cons f l ih=>
   obtain⟨r,hr,hrl,hr2⟩:=ih (fun g hg=>hl g (Zap _ hg))
   obtain⟨i,hi⟩:=Za6.1 (hl f Zat)
   refine⟨(f.offset,i.size)::r,?_,by simp[hrl],fun j g h=> ?_⟩
   ·simp only[Zbp,Sem.run_bind,A25 hi,Result.andThen_ok,Sem.run_pure,hr]
   ·cases j with
    |zero=>simp at h;subst h;exact⟨i,hi,rfl⟩
    |succ j=>exact hr2 j g (by simpa using h)
 obtain⟨r,hr,hrl,hr2⟩:=hmap fs.toList hfs
 have hp':All2 (fun (p:Nat×Value) (q:Nat×Nat×GV)=>r.toArray[p.1]? =some (q.1,q.2.1)/\vRel W q.2.2 p.2) ps qs:=hp.imp fun p q hh=>by
  refine⟨?_,hh.2⟩
  obtain⟨f,hf,h2⟩:=Z1z.1 hh.1
  obtain⟨i',hi',h3⟩:=hr2 p.1 f (by simpa using hf)
  rw[hi'] at h2
  simp only[Option.map_some] at h2
  rw[<- h2]
  simpa using h3
 obtain⟨cells,hc,hca⟩:=A24 (place:=fun j=>r.toArray[j]?) hf (hza W) hp'
 refine⟨.agg cells,?_,cells.toList,rfl,hca⟩
 have hm:(fs.mapM (m:=Sem) fun f=>do pure (f.offset,<-sizeOf f.type)).run P w= .ok r.toArray w:=by
  rw[<- Array.toArray_toList (xs:=fs)]
  rw[List.mapM_toArray]
  rw[map_eq_pure_bind]
  simp only[Sem.run_bind,hr,Result.andThen_ok,Sem.run_pure]
 simp only[Instr.build,Sem.run_bind,Rr hi hzv,Result.andThen_ok,run_underlying hu,hm,hc,Sem.run_pure]
theorem Aac {o:Oper} {a:Act} {env:Env} {op:BinOp} {neg:Bool} {t ty:TypeId} {x0 y0:Operand} {x y:Opd} {i:Ins} {v:GV} {N':St} (hop:o.op= .binOp op t x0 y0 ty) (hx:opd x0=some x) (hy:opd y0=some y) (hn:(op= .eql/\neg=false)∨(op= .neq/\neg=true))
  (h:P8 P neg op t x y=some i) (he:L5 W env a o.op.operands.toList) (hG:Good w0 W N w) (hs:exec env N i=some (v,N')):Does P o a w0 W N w v N':=by
 have hx':execOp a.eval o=(do pure (.value (<- (do eqGuard op t x0 y0 (a.eval x0) (a.eval y0);binOp op t (a.eval x0) (a.eval y0):Sem Value)))):=by unfold execOp;rw[hop]
 have hxr:=As hx he (by rw[hop];simp[Op.operands,Call.operands])
 have hyr:=As hy he (by rw[hop];simp[Op.operands,Call.operands])
 have bin:exec env N (.bin op x y)=some (v,N')->Does P o a w0 W N w v N':=fun hs=>by
  simp only[exec,Z2z,Prod.mk.injEq] at hs
  obtain⟨r,hr,rfl,rfl⟩:=hs
  obtain⟨u,hu,hv⟩:=Acp (P:=P) (w:=w) (t:=t) (ox:=x0) (oy:=y0) hxr hyr hr
  exact .of_run hx' hu hG hv
 have nil:∀ p d,P.underlying t=some d->((p=false/\∃ e,d= .slice e)∨(p=true/\∃ e,d= .pointer e))->exec env N (.eqn p neg x y)=some (v,N')->Does P o a w0 W N w v N':=fun p d hd hdd hs=>by
  simp only[exec,Z2z,Prod.mk.injEq] at hs
  obtain⟨b,hb,rfl,rfl⟩:=hs
  exact .of_run hx' (Ag3 hd hdd hn hxr hyr hb) hG rfl
 unfold P8 at h
 split at h
 ·rename_i hu
  injection h with h;subst h
  simp only[exec,Z1z,Z2z,Prod.mk.injEq] at hs
  obtain⟨b1,h1,b2,h2,rfl,rfl⟩:=hs
  exact .of_run hx' (Ag2 hu hn hxr hyr h1 h2) hG rfl
 ·rename_i e hu
  injection h with h;subst h
  exact nil false _ hu (.inl ⟨rfl,e,rfl⟩) hs
 ·rename_i e hu
  injection h with h;subst h
  exact nil true _ hu (.inr ⟨rfl,e,rfl⟩) hs
 ·rename_i fs hu
  split at h
  ·cases h
  ·rename_i hg
   obtain⟨ks,hks,rfl⟩:=Z2z.1 h
   simp only[exec] at hs
   split at hs
   ·rename_i xs ys hxe hye
    obtain⟨b,hb,hs⟩:=Z2z.1 hs
    injection hs with h1 h2
    subst h1;subst h2
    rw[hxe] at hxr
    rw[hye] at hyr
    exact .of_run hx' (Agb hu (by omega) hks (by simpa using hg) hn hxr hyr hb) hG rfl
   ·cases hs
 ·injection h with h;subst h;exact bin hs
 ·injection h with h;subst h;exact bin hs
 ·cases h
theorem Ad0 {o:Oper} {a:Act} {env:Env} {src dst:TypeId} {x0:Operand} {x:Opd} {i:Ins} {v:GV} {N':St} (hop:o.op= .convert src dst x0) (hx:opd x0=some x)
  (h:Rt P src dst x=some i) (he:L5 W env a o.op.operands.toList) (hG:Good w0 W N w) (hs:exec env N i=some (v,N')):Does P o a w0 W N w v N':=by
 have hx':execOp a.eval o=(do pure (.value (<- convert src dst (a.eval x0)))):=by unfold execOp;rw[hop]
 have hxr:=As hx he (by rw[hop];simp[Op.operands,Call.operands])
 unfold Rt at h
 split at h
 ·rename_i k0 k hsu hdu
  injection h with h;subst h
  simp only[exec] at hs
  split at hs
  ·rename_i k' n hxe
   injection hs with hs;injection hs with h1 h2;subst h1;subst h2
   rw[hxe] at hxr
   exact .of_run hx' (Ag9 hsu hdu hxr) hG rfl
  ·cases hs
 ·rename_i e hsu hdu
  split at h
  ·rename_i hee
   injection h with h;subst h
   simp only[exec,Z1z,Z2z,Prod.mk.injEq] at hs
   obtain⟨r,hr,bs,hb,rfl,rfl⟩:=hs
   have hee':P.underlying e=some (.int .u8):=hee
   exact .of_run hx' (Agc hG hsu hee' hdu hxr hr hb) hG rfl
  ·cases h
 ·cases h
theorem Abb {o:Oper} {a:Act} {env:Env} {t:TypeId} {x0:Operand} {lo0 hi0:Option Operand} {x:Opd} {lo hi:Option Opd} {i:Ins} {v:GV} {N':St} (hop:o.op= .slice t x0 lo0 hi0 none) (hx:opd x0=some x) (hlo:opdO lo0=some lo) (hhi:opdO hi0=some hi)
  (h:M7 P t x lo hi=some i) (he:L5 W env a o.op.operands.toList) (hG:Good w0 W N w) (hs:exec env N i=some (v,N')):Does P o a w0 W N w v N':=by
 have hx':execOp a.eval o=(do pure (.value (<- Instr.sliceAt t (a.eval x0) (lo0.map a.eval) (hi0.map a.eval) none))):=by unfold execOp;rw[hop];rfl
 unfold M7 at h
 split at h
 ·rename_i hu
  injection h with h;subst h
  simp only[exec,Z2z,Prod.mk.injEq] at hs
  obtain⟨r,hr,rfl,rfl⟩:=hs
  obtain⟨u,hrun,hv⟩:=Aem (P:=P) (w:=w) hu (As hx he (by rw[hop];simp[Op.operands,Call.operands])) (A29 hlo he (fun z hz=>by subst hz;rw[hop];simp[Op.operands])) (A29 hhi he (fun z hz=>by subst hz;rw[hop];simp[Op.operands])) hr
  exact .of_run hx' hrun hG hv
 ·rename_i e hu
  obtain⟨ti,hti,rfl⟩:=Z2z.1 h
  simp only[exec] at hs
  split at hs
  ·rename_i hz
   obtain⟨r,hr,hs⟩:=Z2z.1 hs
   injection hs with h1 h2;subst h1;subst h2
   obtain⟨u,hrun,hv⟩:=Agd (P:=P) (w:=w) hu hti (As hx he (by rw[hop];simp[Op.operands,Call.operands])) (A29 hlo he (fun z hz=>by subst hz;rw[hop];simp[Op.operands])) (A29 hhi he (fun z hz=>by subst hz;rw[hop];simp[Op.operands])) (hG.zOk hz) hr
   exact .of_run hx' hrun hG hv
  ·cases hs
 ·cases h
theorem Aep {env:Env} {a:Act} {L:List Operand} {caps:List Opd} {caps0:List Operand} {cs:List (Nat×Nat)} (hc:B6 opd caps0=some caps) (he:L5 W env a L) (hL:∀ x∈caps0,x∈L) (h:(caps.mapM fun c=>Ab6 (c.ev env))=some cs):
  All2 (fun c u=>∃ L,W c.1=some L/\u= .pointer (some (L.a.add c.2))) cs (caps0.map a.eval):=by
 have h2:=A7p hc he hL
 refine Acr (caps:=caps.map (·.ev env)) ?_ h2
 rw[<- h]
 simp only[List.mapM_map]
 rfl
theorem S6 {o:Oper} {a:Act} {env:Env} {i:Ins} {v:GV} {N':St} (h:Lb P o.op=some i) (he:L5 W env a o.op.operands.toList) (hG:Good w0 W N w) (hs:Step P env N i v N'):Does P o a w0 W N w v N':=by
 cases hop:o.op<;>rw[hop] at h<;>(try (cases h;done))
 case move x=>
  obtain⟨x',hx,rfl⟩:=Z2z.1 h
  cases hs
  exact .val (by unfold execOp;rw[hop];rfl) hG (As hx he (by rw[hop];simp[Op.operands,Call.operands]))
 case assign x=>
  obtain⟨x',hx,rfl⟩:=Z2z.1 h
  cases hs
  exact .val (by unfold execOp;rw[hop];rfl) hG (As hx he (by rw[hop];simp[Op.operands,Call.operands]))
 case pick c x y=>
  obtain⟨c',hc,h⟩:=Z1z.1 h
  obtain⟨x',hx,h⟩:=Z1z.1 h
  obtain⟨y',hy,rfl⟩:=Z2z.1 h
  simp only[Step,exec,Z2z,Prod.mk.injEq] at hs
  obtain⟨b,hb,rfl,rfl⟩:=hs
  have hcr:=As hc he (by rw[hop];simp[Op.operands,Call.operands])
  cases hcv:c'.ev env<;>rw[hcv] at hb<;>simp only[GV.bit,Zac.injEq,reduceCtorEq] at hb
  subst hb
  rw[hcv] at hcr
  have hcr:=J8 hcr
  refine .val (u:=if _ then a.eval x else a.eval y) (by unfold execOp;rw[hop];simp only[hcr,asBool,Sem.run_bind,Sem.run_pure,Result.andThen_ok];rfl) hG ?_
  split
  ·exact As hx he (by rw[hop];simp[Op.operands,Call.operands])
  ·exact As hy he (by rw[hop];simp[Op.operands,Call.operands])
 case alloc e=>
  obtain⟨z,hz,rfl⟩:=Z2z.1 h
  cases hs
  obtain⟨ti,zv,hi,hzv,ha⟩:=P9 hz
  exact .res (by unfold execOp;rw[hop]) (Aco hG hi hzv (ha W))
 case box e x=>
  obtain⟨x',hx,rfl⟩:=Z2z.1 h
  simp only[Step,exec,boxG] at hs
  split at hs
  ·rename_i hnt
   injection hs with hs;injection hs with h1 h2;subst h1;subst h2
   exact .res (by unfold execOp;rw[hop]) (Ag1 hG (As hx he (by rw[hop];simp[Op.operands,Call.operands])) hnt)
  ·cases hs
 case build t parts=>
  obtain⟨fs,hfs,h⟩:=Z1z.1 h
  obtain⟨z,hz,h⟩:=Z1z.1 h
  split at h
  rotate_left
  ·cases h
  rename_i hall
  obtain⟨ps,hps,rfl⟩:=Z2z.1 h
  simp only[Step,exec,Z2z,Prod.mk.injEq] at hs
  obtain⟨cs,hcs,rfl,rfl⟩:=hs
  obtain⟨u,hu,hv⟩:=Acz (P:=P) (w:=w) (Jb hfs) hz (List.all_eq_true.1 hall) (Acy he (fun p hp=>by rw[hop];simp only[Op.operands];exact List.mem_map.2 ⟨p,hp,rfl⟩) hps) hcs
  refine .of_run (m:=Instr.build t (parts.map fun(i,x)=>(i,a.eval x))) (by unfold execOp;rw[hop]) ?_ hG hv
  rw[<- hu]
  congr 2
  apply Zax
  simp
 case buildSlice t len parts=>
  obtain⟨e,hte,h⟩:=Z1z.1 h
  obtain⟨r,hr,h⟩:=Z1z.1 h
  split at h
  ·rename_i hl
   obtain⟨ps,hps,rfl⟩:=Z2z.1 h
   obtain⟨ti,zv,hi,hz,hza,hzs,hsz,hby,e1,e2⟩:=M8 hr
   simp only[Step,exec,Z2z,Prod.mk.injEq] at hs
   obtain⟨cs,hcs,rfl,rfl⟩:=hs
   rw[e1] at hps hl
   have:=Agf (P:=P) hG (t:=t) (Gd hte) hi hz hzs hsz (hza W) hl (Aba he (fun p hp=>by rw[hop];simp only[Op.operands];exact List.mem_map.2 ⟨p,hp,rfl⟩) hps) hcs
   rw[e1]
   refine .res (m:=Instr.buildSlice t len (parts.map fun(i,x)=>(i,a.eval x))) (by unfold execOp;rw[hop]) ?_
   have e3:(parts.map fun(i,x)=>(i,a.eval x))=(parts.toList.map fun p=>(p.1,a.eval p.2)).toArray:=by
    apply Zax
    simp
   rw[e3]
   exact this
  ·cases h
 case load t x=>
  obtain⟨c,hc,h⟩:=Z1z.1 h
  obtain⟨x',hx,rfl⟩:=Z2z.1 h
  obtain⟨d,ti,hd,hi,hag,hn,hn1⟩:=Lo hc
  simp only[Step,exec,Z1z,Z2z,Prod.mk.injEq] at hs
  obtain⟨p,hp,cs,hcs,r,hr,v',hv,rfl,rfl⟩:=hs
  have hxr:=As hx he (by rw[hop];simp[Op.operands,Call.operands])
  cases hxv:x'.ev env<;>rw[hxv] at hp<;>simp only[ptrG,Zac.injEq,reduceCtorEq] at hp
  subst hp
  rw[hxv] at hxr
  exact .res (by unfold execOp;rw[hop]) (Aek hG hd hag hi hn hn1 hxr hcs hr hv)
 case store t x y=>
  obtain⟨ti,hi,h⟩:=Z1z.1 h
  obtain⟨x',hx,h⟩:=Z1z.1 h
  obtain⟨y',hy,rfl⟩:=Z2z.1 h
  simp only[Step,exec,Z1z] at hs
  obtain⟨p,hp,hs⟩:=hs
  have hxr:=As hx he (by rw[hop];simp[Op.operands,Call.operands])
  cases hxv:x'.ev env<;>rw[hxv] at hp<;>simp only[ptrG,Zac.injEq,reduceCtorEq] at hp
  subst hp
  rw[hxv] at hxr
  split at hs
  ·rename_i z cs hB
   split at hs
   ·rename_i hc
    injection hs with hs;injection hs with h1 h2;subst h1;subst h2
    obtain⟨w',hrun,hG',hF⟩:=Acn (P:=P) hG hi hxr (As hy he (by rw[hop];simp[Op.operands,Call.operands])) hB hc.1 hc.2.1 hc.2.2
    intro k hn
    have:(execOp a.eval o).run P w= .ok .skip w':=by
     unfold execOp;rw[hop]
     simp only[Sem.run_bind,hrun,Result.andThen_ok,Sem.run_pure]
    rw[this]
    exact hn W undef w' (fun _ _=>rfl) ⟨[],rfl,.nil⟩ hG' hF
   ·cases hs
  ·cases hs
 case panic x=>
  cases h
  cases hs
 case makeInterface t x=>
  cases h
  cases hs
 case makeMap t r=>
  cases r with
  |some _=>cases h
  |none=>
   obtain⟨q,_,rfl⟩:=Z2z.1 h
   cases hs
   exact .res (m:=Instr.makeMap t none) (by unfold execOp;rw[hop];rfl) (Agg hG)
 case lookup t m k ok=>
  obtain⟨q,hq,h⟩:=Z1z.1 h
  obtain⟨m',hm,h⟩:=Z1z.1 h
  obtain⟨k',hk,rfl⟩:=Z2z.1 h
  obtain⟨kt,et,fs,i,zv,hmt,hu,hf,hi,hz,hsv⟩:=A42 hq
  simp only[Step,exec,mlkG,Z1z,Z2z,Prod.mk.injEq] at hs
  obtain⟨_,⟨⟨g,es⟩,h1,kc,h2,r,h3,rfl⟩,rfl,rfl⟩:=hs
  obtain⟨u,hrun,hv⟩:=Agh (P:=P) (ok:=ok) hG hmt hu (by decide) hf hi hz (hsv W) (As hm he (by rw[hop];simp[Op.operands,Call.operands])) (As hk he (by rw[hop];simp[Op.operands,Call.operands])) h1 h2 h3
  exact .of_run (by unfold execOp;rw[hop]) hrun hG hv
 case mapUpdate t m k x=>
  obtain⟨q,hq,h⟩:=Z1z.1 h
  obtain⟨m',hm,h⟩:=Z1z.1 h
  obtain⟨k',hk,h⟩:=Z1z.1 h
  obtain⟨x',hx,rfl⟩:=Z2z.1 h
  obtain⟨kt,et,fs,i,zv,hmt,hu,hf,hi,hz,hsv⟩:=A42 hq
  simp only[Step,exec,mupG,Z1z] at hs
  obtain⟨⟨g,es⟩,h1,kc,h2,hs⟩:=hs
  split at hs
  ·rename_i hc
   injection hs with hs;injection hs with e1 e2;subst e1;subst e2
   obtain⟨w',hrun,hG',hF⟩:=Agi (P:=P) hG hmt hu (by decide) hf (As hm he (by rw[hop];simp[Op.operands,Call.operands])) (As hk he (by rw[hop];simp[Op.operands,Call.operands])) (As hx he (by rw[hop];simp[Op.operands,Call.operands])) hc.1 h1 h2 (Ab8 hc.2)
   intro kk hn
   have:(execOp a.eval o).run P w= .ok .skip w':=by
    unfold execOp;rw[hop]
    simp only[Sem.run_bind,hrun,Result.andThen_ok,Sem.run_pure]
   rw[this]
   exact hn W undef w' (fun _ _=>rfl) ⟨[],rfl,.nil⟩ hG' hF
  ·cases hs
 case nilCheck x=>
  obtain⟨x',hx,rfl⟩:=Z2z.1 h
  simp only[Step,exec,Z2z,Prod.mk.injEq] at hs
  obtain⟨r,hr,rfl,rfl⟩:=hs
  have hxr:=As hx he (by rw[hop];simp[Op.operands,Call.operands])
  obtain⟨k1,hrun⟩:=Aga (P:=P) (w:=w) hop rfl hxr hr
  exact .val hrun hG (by rw[k1];exact hxr)
 case binOp op t x y ty=>
  obtain⟨x',hx,h⟩:=Z1z.1 h
  obtain⟨y',hy,h⟩:=Z1z.1 h
  have hx':execOp a.eval o=(do pure (.value (<- (do eqGuard op t x y (a.eval x) (a.eval y);binOp op t (a.eval x) (a.eval y):Sem Value)))):=by unfold execOp;rw[hop]
  split at h
  ·exact Aac hop hx hy (.inl ⟨rfl,rfl⟩) h he hG (Ge (by
    unfold P8 at h
    split at h<;>(try split at h)<;>first|(cases h;done)|(injection h with h;subst h;rfl)|(obtain ⟨_,_,rfl⟩:=Z2z.1 h;rfl)) hs)
  ·exact Aac hop hx hy (.inr ⟨rfl,rfl⟩) h he hG (Ge (by
    unfold P8 at h
    split at h<;>(try split at h)<;>first|(cases h;done)|(injection h with h;subst h;rfl)|(obtain ⟨_,_,rfl⟩:=Z2z.1 h;rfl)) hs)
  ·injection h with h;subst h
   simp only[Step,exec,Z2z,Prod.mk.injEq] at hs
   obtain⟨r,hr,rfl,rfl⟩:=hs
   obtain⟨u,hu,hv⟩:=Acp (P:=P) (w:=w) (t:=t) (ox:=x) (oy:=y) (As hx he (by rw[hop];simp[Op.operands,Call.operands])) (As hy he (by rw[hop];simp[Op.operands,Call.operands])) hr
   exact .of_run hx' hu hG hv
 case unOp op t x=>
  obtain⟨x',hx,rfl⟩:=Z2z.1 h
  simp only[Step,exec,Z2z,Prod.mk.injEq] at hs
  obtain⟨r,hr,rfl,rfl⟩:=hs
  obtain⟨u,hu,hv⟩:=run_un (P:=P) (w:=w) (As hx he (by rw[hop];simp[Op.operands,Call.operands])) hr
  exact .of_run (by unfold execOp;rw[hop]) hu hG hv
 case convert src dst x=>
  obtain⟨x',hx,h⟩:=Z1z.1 h
  exact Ad0 hop hx h he hG (Ge (by
    unfold Rt at h
    split at h<;>(try split at h)<;>first|(cases h;done)|(injection h with h;subst h;rfl)) hs)
 case makeFunc fn first caps=>
  cases fn<;>(try (cases h;done))
  rename_i f
  simp only[Lb] at h
  split at h
  ·rename_i h0
   obtain⟨xs,hxs,rfl⟩:=Z2z.1 h
   simp only[Step,exec,Z2z,Prod.mk.injEq] at hs
   obtain⟨cs,hcs,rfl,rfl⟩:=hs
   have hf:first= #[]:=Array.eq_empty_of_size_eq_zero h0
   subst hf
   refine .val (u:=.func (.func f) #[] (caps.toList.map a.eval).toArray) ?_ hG ⟨_,rfl,Aep hxs he (fun x hx=>by rw[hop];simpa [Op.operands] using hx) hcs⟩
   unfold execOp
   rw[hop]
   simp only[Instr.makeFunc,Sem.run_bind,Sem.run_pure,Result.andThen_ok]
   congr 2
   simp only[Zas,Array.map_empty]<;>(congr 1;apply Zax;simp)
  ·cases h
 case makeSlice t l c=>
  obtain⟨e,hte,h⟩:=Z1z.1 h
  obtain⟨r,hr,h⟩:=Z1z.1 h
  obtain⟨l',hl,h⟩:=Z1z.1 h
  obtain⟨c',hc,rfl⟩:=Z2z.1 h
  obtain⟨ti,zv,hi,hz,hza,hzs,hsz,hby,e1,e2⟩:=M8 hr
  simp only[Step,exec,Z1z] at hs
  obtain⟨n,hn,m,hm,hs⟩:=hs
  split at hs
  ·rename_i hcond
   injection hs with hs;injection hs with h1 h2;subst h1;subst h2
   obtain⟨rfl,hb⟩:=hcond
   rw[e2] at hb
   rw[e1]
   exact .res (by unfold execOp;rw[hop]) (Age hG (Gd hte) hi hz hzs hsz (hza W) (As hl he (by rw[hop];simp[Op.operands,Call.operands])) (As hc he (by rw[hop];simp[Op.operands,Call.operands])) hn hm hb (by
    have:n<=n*ti.bytes:=Za8 _ hby
    omega))
  ·cases hs
 case slice t x lo hi mx=>
  cases mx with
  |some _=>cases h
  |none=>
   obtain⟨x',hx,h⟩:=Z1z.1 h
   obtain⟨lo',hlo,h⟩:=Z1z.1 h
   obtain⟨hi',hhi,h⟩:=Z1z.1 h
   exact Abb hop hx hlo hhi h he hG (Ge (by
    unfold M7 at h
    split at h<;>first|(cases h;done)|(injection h with h;subst h;rfl)|(obtain ⟨_,_,rfl⟩:=Z2z.1 h;rfl)) hs)
 case fieldAddr s x f=>
  obtain⟨fs,hfs,h⟩:=Z1z.1 h
  obtain⟨fd,hfd,h⟩:=Z1z.1 h
  obtain⟨ti,hi,h⟩:=Z1z.1 h
  split at h
  ·cases h
  ·rename_i h0
   obtain⟨x',hx,rfl⟩:=Z2z.1 h
   simp only[Step,exec,Z2z,Prod.mk.injEq] at hs
   obtain⟨p,hp,rfl,rfl⟩:=hs
   have hxr:=As hx he (by rw[hop];simp[Op.operands,Call.operands])
   cases hxv:x'.ev env<;>rw[hxv] at hp<;>simp only[ptrG,Zac.injEq,reduceCtorEq] at hp
   subst hp
   rw[hxv] at hxr
   obtain⟨u,hu,hv⟩:=Ag7 (P:=P) (w:=w) (Jb hfs) hfd hi h0 hxr
   exact .of_run (by unfold execOp;rw[hop]) hu hG hv
 case field s x f=>
  obtain⟨fs,hfs,h⟩:=Z1z.1 h
  obtain⟨fd,hfd,h⟩:=Z1z.1 h
  obtain⟨c,hc,h⟩:=Z1z.1 h
  obtain⟨x',hx,rfl⟩:=Z2z.1 h
  obtain⟨d,ti,hd,hi,hag,hn,hn1⟩:=Lo hc
  simp only[Step,exec] at hs
  have hxr:=As hx he (by rw[hop];simp[Op.operands,Call.operands])
  split at hs
  ·rename_i cs hxv
   rw[hxv] at hxr
   obtain⟨r,hr,hs⟩:=Z1z.1 hs
   obtain⟨v',hv,hs⟩:=Z2z.1 hs
   injection hs with h1 h2;subst h1;subst h2
   obtain⟨u,hu,hv⟩:=Ael (P:=P) (w:=w) (Jb hfs) hfd hi hd hag hn hn1 hxr hr hv
   exact .of_run (by unfold execOp;rw[hop]) hu hG hv
  ·cases hs
 case indexAddr t x ix=>
  obtain⟨e,hte,h⟩:=Z1z.1 h
  obtain⟨ti,hi,h⟩:=Z1z.1 h
  obtain⟨x',hx,h⟩:=Z1z.1 h
  obtain⟨ix',hix,rfl⟩:=Z2z.1 h
  simp only[Step,exec] at hs
  have hxr:=As hx he (by rw[hop];simp[Op.operands,Call.operands])
  split at hs
  ·rename_i g off len hxv
   rw[hxv] at hxr
   obtain⟨n,hn,hs⟩:=Z1z.1 hs
   split at hs
   ·rename_i hl
    injection hs with hs;injection hs with h1 h2;subst h1;subst h2
    obtain⟨u,hu,hv⟩:=Ag5 (P:=P) (w:=w) (Gd hte) hi hxr (As hix he (by rw[hop];simp[Op.operands,Call.operands])) hn hl
    exact .of_run (by unfold execOp;rw[hop]) hu hG hv
   ·cases hs
  ·cases hs
 case index t x ix=>
  simp only[Lb] at h
  split at h
  ·rename_i hu
   obtain⟨x',hx,h⟩:=Z1z.1 h
   obtain⟨ix',hix,rfl⟩:=Z2z.1 h
   simp only[Step,exec] at hs
   have hxr:=As hx he (by rw[hop];simp[Op.operands,Call.operands])
   split at hs
   ·rename_i b hxv
    rw[hxv] at hxr
    obtain⟨n,hn,hs⟩:=Z1z.1 hs
    obtain⟨c,hc,hs⟩:=Z2z.1 hs
    injection hs with h1 h2;subst h1;subst h2
    exact .of_run (by unfold execOp;rw[hop]) (Ag6 hu hxr (As hix he (by rw[hop];simp[Op.operands,Call.operands])) hn hc) hG rfl
   ·cases hs
  ·cases h
 case extract x n=>
  obtain⟨x',hx,rfl⟩:=Z2z.1 h
  simp only[Step,exec] at hs
  have hxr:=As hx he (by rw[hop];simp[Op.operands,Call.operands])
  split at hs
  ·rename_i vs hxv
   rw[hxv] at hxr
   split at hs
   ·rename_i v' hv
    split at hs
    ·cases hs
    ·rename_i hnt
     injection hs with hs;injection hs with h1 h2;subst h1;subst h2
     obtain⟨u,hu,hv⟩:=Ag8 (P:=P) (w:=w) hxr hv (fun xs e=>hnt xs e)
     exact .of_run (by unfold execOp;rw[hop]) hu hG hv
   ·cases hs
  ·cases hs
 case call c=>exact Acx hop h he hG hs
end ops
structure Op1 where
 d:Option Nat
 g:Option (Nat×Bool)
 i:Ins
inductive Cd where
 |skip
 |reg (ops:List Op1)
 |drw (as_ bs:List Op1)
 |seq (a b:Cd)
 |cnd (c:Opd) (a b:Cd)
 |blk (id:Nat) (a:Cd)
 |lop (a:Cd)
 |ext (id:Nat)
 |ret
inductive Ex where
 |nxt
 |ext (id:Nat)
 |ret
def A2a (n:Nat):Option Nat->Bool
 |none=>true
 |some d=>d<n
def Co (ops:Array Oper):Option (Nat×Bool)->Option (Option (Nat×Bool))
 |none=>some none
 |some (j,b)=>((ops[j]?).bind (·.dst)).map fun t=>some (t,b)
def Au (P:Program) (n:Nat) (ops:Array Oper) (o:Oper):Option Op1:=
 if A2a n o.dst then(Co ops o.guard).bind fun g=>(Lb P o.op).map fun i=>⟨o.dst,g,i⟩ else none
def Di (ops:Array Oper) (o:Oper):List Nat:=(o.op.operands.toList.filterMap fun| .tmp t=>some t|_=>none)++(match o.guard with
 |some (j,_)=>(((ops[j]?).bind (·.dst)).toList)
 |none=>[])
def must (ops:Array Oper) (x y:Oper):Bool:=(match x.dst with
 |some d=>(Di ops y).contains d||y.dst==some d
 |none=>false)||(match y.dst with
 |some d=>(Di ops x).contains d
 |none=>false)
def Ad1 (T:Array Nat) (o:Oper) (j:Nat):Bool:=o.after.toList.any fun e=>Region.binds .any e&&(e.on==j||(decide (j<e.on)&&(T.getD e.on 0).testBit j))
def Abc:Ins->Bool
 | .mov _| .pick .. | .build .. | .nck _| .bin .. | .eqb .. | .eqn .. | .eqs .. | .un .. | .cvi .. | .cutS .. | .fad .. | .part .. | .iad .. | .idx .. | .ext .. | .len .. | .mm .. =>true
 |_=>false
def A2b (P:Program) (o:Oper):Bool:=match Lb P o.op with
 |some i=>Abc i
 |none=>false
def ldO (P:Program) (o:Oper):Option (Nat×Bool×Nat×Nat):=match o.guard,o.dst,Lb P o.op with
 |none,some d,some (.ld g n (.t t))=>some (d,g,n,t)
 |_,_,_=>none
def atB (l:List Bool) (i:Nat):Bool:=l.getD i false
def Aad (fl:List Bool) (ops:Array Oper) (T:Array Nat) (k i:Nat):Bool:=match ops[i]? with
 |none=>false
 |some o=>(o.after.toList.all fun e=> !Region.binds .any e||decide (e.on<i))&&(Zai i).all fun j=>(!(T.getD i 0).testBit j||Ad1 T o j)&&(!((decide (k<=i)&&(!atB fl i&& !atB fl j))||(match ops[j]? with|some x=>must ops x o|none=>false))||(T.getD i 0).testBit j)
def Hu (fl:List Bool) (ops:Array Oper) (k:Nat):Bool:=(Zai ops.size).all (Aad fl ops (Region.before ops) k)
def A7q (fl:List Bool) (ops:Array Oper):Nat:=(Zai ops.size).foldl (fun k i=>if atB fl i||(Zai i).all (fun j=>atB fl j||((Region.before ops).getD i 0).testBit j) then k else i+1) 0
def Abd (P:Program) (ops:Array Oper):List Bool:=ops.toList.map (A2b P)
def drwOf (P:Program) (n:Nat) (ops:Array Oper):Option Cd:=if Hu (Abd P ops) ops (A7q (Abd P ops) ops) then(B6 (Au P n ops) ops.toList).map fun os=>.drw (os.take (A7q (Abd P ops) ops)) (os.drop (A7q (Abd P ops) ops)) else none
def ldL (P:Program) (ops:Array Oper):List Bool:=ops.toList.map fun o=>A2b P o||(ldO P o).isSome
def ldOk (P:Program) (ops:Array Oper) (T:Array Nat) (j:Nat):Bool:=match ops[j]? with
 |none=>false
 |some x=>match ldO P x with
  |none=>true
  |some (d,_,_,t)=>(Zai ops.size).all fun i=>match ops[i]? with
   |none=>false
   |some o=>(decide (i<j)||o.dst != some t)&&((decide (i<=j)||o.dst != some d)&&(decide (j<=i)||(atB (ldL P ops) i||(T.getD j 0).testBit i)))
def chks (P:Program) (ops:Array Oper) (T:Array Nat) (i:Nat):List Op1:=if atB (ldL P ops) i then[] else(Zai i).filterMap fun j=>if(T.getD i 0).testBit j then none else(ops[j]?).bind fun x=>(ldO P x).map fun(d,g,n,t)=>⟨none,none,.chk d (.ld g n (.t t))⟩
def A7r:List Op1->List (List Op1)->List Op1
 |o::os,c::cs=>o::(c++A7r os cs)
 |os,_=>os
def Aeq (P:Program) (n:Nat) (ops:Array Oper):Option Cd:=if Hu (ldL P ops) ops 0&&(Zai ops.size).all (ldOk P ops (Region.before ops)) then(B6 (Au P n ops) ops.toList).map fun os=>.drw [] (A7r os ((Zai ops.size).map (chks P ops (Region.before ops)))) else none
def Abe:GV->Bool
 | .int .. =>true
 | .str _=>true
 | .bool _=>true
 | .nilS=>true
 | .nilP=>true
 |_=>false
def nwO (P:Program) (o:Oper):Option (Nat×List GV):=match o.guard,o.dst,Lb P o.op with
 |none,some d,some (.new cs)=>if cs.all Abe then some (d,cs) else none
 |_,_,_=>none
def nwL (P:Program) (ops:Array Oper):List Bool:=ops.toList.map fun o=>(A2b P o||(ldO P o).isSome)||(nwO P o).isSome
def Ad2 (P:Program) (ops:Array Oper) (T:Array Nat) (j:Nat):Bool:=match ops[j]? with
 |none=>false
 |some x=>match ldO P x with
  |none=>true
  |some (d,_,_,t)=>(Zai ops.size).all fun i=>match ops[i]? with
   |none=>false
   |some o=>(decide (i<j)||o.dst != some t)&&((decide (i<=j)||o.dst != some d)&&(decide (j<=i)||(atB (nwL P ops) i||(T.getD j 0).testBit i)))
def frO (P:Program) (ops:Array Oper) (T:Array Nat) (j:Nat):Bool:=match ops[j]? with
 |none=>false
 |some x=>match ldO P x with
  |none=>false
  |some (d,_,_,t)=> !(Ad2 P ops T j)&&(Zai ops.size).all fun i=>match ops[i]? with
   |none=>false
   |some o=>(o.dst != some t&&(i==j||o.dst != some d))&&((decide (j<=i)|| !(Di ops o).contains d)&&(atB (nwL P ops) i|| !(T.getD j 0).testBit i))
def nwOk (P:Program) (ops:Array Oper) (j:Nat):Bool:=match ops[j]? with
 |none=>false
 |some x=>match nwO P x with
  |none=>true
  |some (d,_)=>(Zai ops.size).all fun i=>match ops[i]? with
   |none=>false
   |some o=>(i==j||o.dst != some d)&&(decide (j<=i)|| !(Di ops o).contains d)
def Abf (P:Program) (ops:Array Oper) (j:Nat):Option Op1:=(ops[j]?).bind fun x=>(ldO P x).map fun(d,g,n,t)=>⟨none,none,.chk d (.ld g n (.t t))⟩
def Pa (P:Program) (ops:Array Oper) (T:Array Nat) (i:Nat):List Op1:=if atB (nwL P ops) i then[] else((Zai i).filterMap fun j=>if(T.getD i 0).testBit j then none else Abf P ops j)++
 (((Zai ops.size).filterMap fun j=>if decide (i<j)&&frO P ops T j then Abf P ops j else none)++
 (Zai ops.size).filterMap fun j=>if decide (j<i)&&(T.getD i 0).testBit j then none else(ops[j]?).bind fun x=>(nwO P x).map fun(d,cs)=>⟨none,none,.blc d cs⟩)
def M9:List Bool->List Op1->List (List Op1)->List Op1
 |true::as_,_::os,_::cs=>M9 as_ os cs
 |false::as_,o::os,c::cs=>o::(c++M9 as_ os cs)
 |_,_,_=>[]
def Ma:List Bool->List Op1->List Op1
 |true::as_,o::os=>o::Ma as_ os
 |false::as_,_::os=>Ma as_ os
 |_,_=>[]
def nwA (P:Program) (ops:Array Oper) (T:Array Nat):List Bool:=(Zai ops.size).map fun i=>(match ops[i]? with
 |some o=>(nwO P o).isSome
 |none=>false)||frO P ops T i
def drwNw (P:Program) (n:Nat) (ops:Array Oper):Option Cd:=if Hu (nwL P ops) ops 0&&((Zai ops.size).all (fun j=>frO P ops (Region.before ops) j||Ad2 P ops (Region.before ops) j)&&(Zai ops.size).all (nwOk P ops)) then(B6 (Au P n ops) ops.toList).map fun os=>.drw (Ma (nwA P ops (Region.before ops)) os) (M9 (nwA P ops (Region.before ops)) os ((Zai ops.size).map (Pa P ops (Region.before ops)))) else none
def mutI:Ins->Bool
 | .st .. | .clr .. | .mup .. =>true
 |_=>false
def okAs:Cd->Bool
 | .drw as_ _=>as_.all fun o=> !mutI o.i
 |_=>false
def A44 (P:Program) (n:Nat) (ops:Array Oper):Option Cd:=match drwOf P n ops with
 |some d=>if okAs d then some d else Aeq P n ops
 |none=>Aeq P n ops
def drwM (md:Bool) (P:Program) (n:Nat) (ops:Array Oper):Option Cd:=match md with
 |false=>A44 P n ops
 |true=>match drwNw P n ops with
  |some d=>some d
  |none=>A44 P n ops
def Z0 (md:Bool) (P:Program) (n:Nat):Code->Option Cd
 | .skip=>some .skip
 | .region _ ops false=>(B6 (Au P n ops) ops.toList).map .reg
 | .region _ ops true=>if P.follows .mixedOrders|| !Region.departs ops then drwM md P n ops else none
 | .seq a b=>(Z0 md P n a).bind fun a=>(Z0 md P n b).map fun b=>.seq a b
 | .cond c a b=>(opd c).bind fun c=>(Z0 md P n a).bind fun a=>(Z0 md P n b).map fun b=>.cnd c a b
 | .block id a=>(Z0 md P n a).map (.blk id)
 | .loop a=>(Z0 md P n a).map .lop
 | .exit id=>some (.ext id)
 | .ret=>some .ret
 |_=>none
abbrev comp (P:Program) (n:Nat):Code->Option Cd:=Z0 false P n
def Ae (env:Env):Option (Nat×Bool)->Bool
 |none=>true
 |some (t,b)=>match (env t).bit with
  |some c=>c==b
  |none=>false
def Ac (D:Bool) (P:Program):List Op1->(Env->St->Prop)->Env->St->Prop
 |[],K,env,N=>K env N
 |o::r,K,env,N=>if Ae env o.g then ∃ v N',Step P env N o.i v N'/\(D=true->N <+: N')/\Ac D P r K (upo env o.d v) N' else Ac D P r K (upo env o.d (.tup [])) N
def vc (P:Program):Cd->(Ex->Env->St->Prop)->Env->St->Prop
 | .skip,Q=>Q .nxt
 | .reg ops,Q=>Ac false P ops (Q .nxt)
 | .drw as_ bs,Q=>Ac true P as_ (Ac false P bs (Q .nxt))
 | .seq a b,Q=>vc P a fun e=>match e with
  | .nxt=>vc P b Q
  |e=>Q e
 | .cnd c a b,Q=>fun env N=>∃ t,(c.ev env).bit=some t/\(t=true->vc P a Q env N)/\(t=false->vc P b Q env N)
 | .blk id a,Q=>vc P a fun e=>match e with
  | .ext j=>if j=id then Q .nxt else Q (.ext j)
  |e=>Q e
 | .lop a,Q=>fun env N=>∃(I:Env->St->Prop) (μ:Env->St->Nat),I env N/\∀ env N,I env N->vc P a (fun e env' N'=>match e with
  | .nxt=>I env' N'/\μ env' N'<μ env N
  |e=>Q e env' N') env N
 | .ext id,Q=>Q (.ext id)
 | .ret,Q=>Q .ret
structure At (n:Nat) (w0:World) (W0:Rho) (N0:St) (w1:World) (env:Env) (N:St) (W:Rho) (a:Act) (w:World):Prop where
 env:EnvRel W env a
 good:Good w0 W N w
 size:a.tmps.size=n
 defers:a.defers=[]
 len:N0.length<=N.length
 sub:∀ g,g<N0.length->W g=W0 g
 frame:Frame W0 N0 w1 W N w
section sound
variable {P:Program} {n:Nat} {w0 w1:World} {W0:Rho} {N0:St}
theorem Ij {W:Rho} {env:Env} {a:Act} {d:Option Nat} {v:GV} {u:Value} (he:EnvRel W env a) (hv:vRel W v u) (hs:a.tmps.size=n) (hd:A2a n d=true):EnvRel W (upo env d v) (a.put d u):=by
 intro t
 cases d with
 |none=>exact he t
 |some d=>
  have hd:d<n:=by simpa [A2a] using hd
  simp only[upo,up,Act.put,Act.eval]
  by_cases h:t=d
  ·subst h
   rw[if_pos rfl]
   simp[hs,hd]
   exact hv
  ·rw[if_neg h]
   have:=he t
   simp only[Act.eval] at this
   simpa [Array.getElem?_setIfInBounds,Ne.symm h] using this
def vbit:Value->Option Bool
 | .bool b=>some b
 |_=>none
theorem Ad3 {W:Rho} {v:GV} {u:Value} (h:vRel W v u):v.bit=vbit u:=by
 cases v with
 |sl g off len=>obtain⟨L,_,a,cap,rfl,_⟩:=h;rfl
 |ptr g off=>obtain⟨L,_,rfl⟩:=h;rfl
 |mp g=>obtain⟨L,_,rfl⟩:=h;rfl
 |fn f caps=>obtain⟨vs,rfl,_⟩:=h;rfl
 |agg cs=>obtain⟨vs,rfl,_⟩:=h;rfl
 |tup cs=>obtain⟨vs,rfl,_⟩:=h;rfl
 |emp=>obtain⟨a,cap,rfl⟩:=h;rfl
 |_=>cases h;rfl
theorem Kn {W:Rho} {env:Env} {a:Act} {ops:Array Oper} {o:Oper} {g:Option (Nat×Bool)} (he:EnvRel W env a) (hg:Co ops o.guard=some g):Region.wanted o (yielded ops a.tmps)=Ae env g:=by
 unfold Co at hg
 split at hg
 ·rename_i h
  injection hg with hg;subst hg
  simp[Region.wanted,h,Ae]
 ·rename_i j b h
  obtain⟨t,ht,rfl⟩:=Z2z.1 hg
  have hb:=Ad3 (he t)
  simp only[Region.wanted,h,Ae,yielded,ht,Za9]
  rw[hb]
  simp only[Act.eval,Array.getD_eq_getD_getElem?]
  cases hc:a.tmps[t]? with
  |none=>simp[undef,vbit]
  |some u=>cases u<;>simp[vbit]
theorem Aer {env:Env} {N N':St} {i:Ins} {v:GV} (h:exec env N i=some (v,N')):N.length<=N'.length:=by
 have app:∀ {z b:Nat} {s:GV} {n:Nat} {new:List GV},appG z b N s n new=some (v,N')->N.length<=N'.length:=by
  intro z b s n new h
  unfold appG at h
  repeat' split at h
  all_goals first|cases h;done|(injection h with h;injection h with h1 h2;subst h2;simp)
 have none':∀ {Y:Type} {x:Y},(none:Option Y)=some x->False:=fun h=>by cases h
 have one:∀ {x:GV} {U:St},some (x,U)=some (v,N')->N.length<=U.length->N.length<=N'.length:=fun h hl=>by
  injection h with h;injection h with h1 h2;subst h2;exact hl
 have via:∀ {Y:Type} {x:Option Y} {f:Y->GV},(x.map fun y=>(f y,N))=some (v,N')->N.length<=N'.length:=fun h=>by
  obtain⟨y,_,h⟩:=Z2z.1 h
  injection h with h1 h2;subst h2;exact Zad _
 cases i with
 |mov x=>exact one h (Zad _)
 |pick c a b=>exact via h
 |new cs=>exact one h (by simp)
 |box x=>
  simp only[exec,boxG] at h
  split at h
  ·exact one h (by simp)
  ·exact(none' h).elim
 |build zero parts=>exact via h
 |lit z len zero parts=>
  obtain⟨y,_,h⟩:=Z2z.1 h
  injection h with h1 h2;subst h2;simp
 |ld agg n a=>
  obtain⟨_,_,h⟩:=Z1z.1 h
  obtain⟨_,_,h⟩:=Z1z.1 h
  obtain⟨_,_,h⟩:=Z1z.1 h
  exact via h
 |st n a x=>
  obtain⟨_,_,h⟩:=Z1z.1 h
  repeat' split at h
  all_goals first|exact(none' h).elim|exact one h (by simp)
 |nck x=>exact via h
 |bin op x y=>exact via h
 |eqb neg x y=>
  obtain⟨_,_,h⟩:=Z1z.1 h
  exact via h
 |eqn p neg x y=>exact via h
 |eqs neg ks x y=>
  simp only[exec] at h
  split at h
  ·exact via h
  ·exact(none' h).elim
 |un op x=>exact via h
 |cvi k x=>
  simp only[exec] at h
  split at h
  ·exact one h (Zad _)
  ·exact(none' h).elim
 |bts x=>
  obtain⟨_,_,h⟩:=Z1z.1 h
  exact via h
 |mkf f caps=>exact via h
 |mks z bytes zero n c=>
  obtain⟨_,_,h⟩:=Z1z.1 h
  obtain⟨_,_,h⟩:=Z1z.1 h
  split at h
  ·exact one h (by simp)
  ·exact(none' h).elim
 |cutS x lo hi=>exact via h
 |cut z x lo hi=>
  simp only[exec] at h
  split at h
  ·exact via h
  ·exact(none' h).elim
 |fad off a=>exact via h
 |part agg off n x=>
  simp only[exec] at h
  split at h
  ·obtain⟨_,_,h⟩:=Z1z.1 h
   exact via h
  ·exact(none' h).elim
 |iad z x i=>
  simp only[exec] at h
  split at h
  ·obtain⟨_,_,h⟩:=Z1z.1 h
   split at h
   ·exact one h (Zad _)
   ·exact(none' h).elim
  ·exact(none' h).elim
 |idx x i=>
  simp only[exec] at h
  split at h
  ·obtain⟨_,_,h⟩:=Z1z.1 h
   exact via h
  ·exact(none' h).elim
 |ext i x=>
  simp only[exec] at h
  repeat' split at h
  all_goals first|exact(none' h).elim|exact one h (Zad _)
 |len str x=>exact via h
 |app z bytes zero s x=>
  simp only[exec] at h
  split at h
  ·split at h
   ·exact app h
   ·exact(none' h).elim
  ·obtain⟨_,_,h⟩:=Z1z.1 h
   exact app h
 |pan=>exact(none' h).elim
 |mkm=>exact one h (by simp)
 |mlk ks z ok m k=>exact via h
 |mup ks m k v=>
  simp only[exec,mupG] at h
  obtain⟨_,_,h⟩:=Z1z.1 h
  obtain⟨_,_,h⟩:=Z1z.1 h
  split at h
  ·exact one h (by simp)
  ·exact(none' h).elim
 |mm max x y=>
  simp only[exec] at h
  split at h
  ·exact one h (Zad _)
  ·exact(none' h).elim
 |call f xs=>exact(none' h).elim
 |callv x xs=>exact(none' h).elim
 |chk d x=>exact(none' h).elim
 |blc t cs=>exact(none' h).elim
 |clr z zero x=>
  simp only[exec,clrG] at h
  repeat' split at h
  all_goals first|exact(none' h).elim|exact one h (by simp)
theorem Rv {env:Env} {N N':St} {i:Ins} {v:GV} (h:Step P env N i v N'):N.length<=N'.length:=by
 cases i with
 |call f xs=>exact h.2.1
 |callv x xs=>obtain⟨f,caps,_,h⟩:=h;exact h.2.1
 |chk d x=>rw[h.2.1];exact Zad _
 |blc t cs=>rw[h.2.1];exact Zad _
 |_=>exact Aer h
theorem Ad4 {o:Oper} {ops:Array Oper} {o1:Op1} {env:Env} {N:St} {W:Rho} {a:Act} {w:World} (hc:Au P n ops o=some o1) (hA:At n w0 W0 N0 w1 env N W a w) {next:Act->World->Prop} {Q:Exit->Act->World->Prop}:
  (∀ v N',Ae env o1.g=true->Step P env N o1.i v N'->(∀ W' u w',At n w0 W0 N0 w1 (upo env o1.d v) N' W' (a.put o.dst u) w'->next (a.put o.dst u) w')->o.wp P a w next Q)/\
  (Ae env o1.g=false->At n w0 W0 N0 w1 (upo env o1.d (.tup [])) N W (a.put o.dst undef) w)/\Region.wanted o (yielded ops a.tmps)=Ae env o1.g:=by
 unfold Au at hc
 split at hc
 ·rename_i hd
  obtain⟨g,hg,hc⟩:=Z1z.1 hc
  obtain⟨i,hi,rfl⟩:=Z2z.1 hc
  have hps:∀ u,(a.put o.dst u).tmps.size=n/\(a.put o.dst u).defers=[]:=fun u=>by
   cases ho:o.dst<;>simp[Act.put,hA.size,hA.defers]
  refine⟨fun v N' _ hs hn=> ?_,fun _=> ?_,Kn hA.env hg⟩
  ·have hle:=Rv hs
   refine(S6 hi (hA.env.on _) hA.good hs (fun u w'=>next (a.put o.dst u) w') fun W' u w' hsub hv hG hF=>hn W' u w' ?_).wp fun _ _ h=>h
   have hle':Le W W':=Good.le_of_sub hA.good.fresh hsub
   exact {env:=Ij (fun t=>(hA.env t).mono hle') hv hA.size hd,good:=hG,size:=(hps u).1,defers:=(hps u).2,len:=Zbk hA.len hle,sub:=fun g hg=>by rw[hsub g (Zaf hg hA.len),hA.sub g hg],frame:=hA.frame.trans hF}
  ·exact {env:=Ij hA.env ⟨[],rfl,.nil⟩ hA.size hd,good:=hA.good,size:=(hps _).1,defers:=(hps _).2,len:=hA.len,sub:=hA.sub,frame:=hA.frame}
 ·cases hc
theorem S7 {ops:Array Oper} {Q:Exit->Act->World->Prop}:∀ {l:List Nat} {os:List Op1},All2 (fun i o1=>∃ o,ops[i]? =some o/\Au P n ops o=some o1) l os->∀ {K:Env->St->Prop} {env:Env} {N:St} {W:Rho} {a:Act} {w:World},Ac false P os K env N->At n w0 W0 N0 w1 env N W a w->
  (∀ env' N' W' a' w',K env' N'->At n w0 W0 N0 w1 env' N' W' a' w'->Q .normal a' w')->wpOps P ops Q l a w
 |_,_,.nil,K,env,N,W,a,w,hv,hA,hK=>hK env N W a w hv hA
 |i::l,o1::os,.cons ⟨o,ho,hc⟩ ht,K,env,N,W,a,w,hv,hA,hK=>by
  simp only[wpOps,ho]
  obtain⟨h1,h2,h3⟩:=Ad4 (next:=wpOps P ops Q l) (Q:=Q) hc hA
  rw[h3]
  simp only[Ac] at hv
  cases hw:Ae env o1.g with
  |true=>
   rw[hw] at hv
   simp only[if_true] at hv ⊢
   obtain⟨v,N',hs,_,hv⟩:=hv
   exact .inl (h1 v N' hw hs fun W' u w' hA'=>S7 ht hv hA' hK)
  |false=>
   rw[hw] at hv
   simp only[Zag,if_false] at hv ⊢
   exact S7 ht hv (h2 hw) hK
theorem Abg {ops:Array Oper} {os:List Op1} (h:B6 (Au P n ops) ops.toList=some os):All2 (fun i o1=>∃ o,ops[i]? =some o/\Au P n ops o=some o1) (Zai ops.size) os:=by
 have h2:=Bd h
 refine All2.of_get (by have:=h2.length;simp at this ⊢;omega) fun j i o1 hi ho=> ?_
 obtain⟨o,h3,h4⟩:=h2.get' ho
 have hj:j<ops.size:=by
  have:=(Zao.1 hi).1
  simpa using this
 simp only[List.getElem?_range hj,Zac.injEq] at hi
 subst hi
 exact⟨o,by simpa using h3,h4⟩
end sound
theorem A45 {env:Env} {N N':St} {i:Ins} {v:GV} (hp:Abc i=true) (h:exec env N i=some (v,N')):N'=N/\∀ U,exec env U i=some (v,U):=by
 have via:∀ {x:Option GV},(x.map fun y=>(y,N))=some (v,N')->N'=N/\∀ U:St,(x.map fun y=>(y,U))=some (v,U):=fun h=>by
  obtain⟨y,hy,h⟩:=Z2z.1 h
  injection h with h1 h2
  subst h1 h2
  exact⟨rfl,fun U=>by rw[hy];rfl⟩
 by_cases hm:∃ m x y,i= .mm m x y
 ·obtain⟨m,x,y,rfl⟩:=hm
  simp only[exec] at h ⊢
  generalize x.ev env=u at*
  generalize y.ev env=w at*
  cases u<;>first|(cases h;done)|skip
  cases w<;>first|(cases h;done)|skip
  injection h with h
  injection h with h1 h2
  subst h1 h2
  exact⟨rfl,fun _=>rfl⟩
 cases i<;>first|(cases hp;done)|(exact absurd ⟨_,_,_,rfl⟩ hm)|skip
 all_goals simp only[exec] at h ⊢
 all_goals first
  |(injection h with h;injection h with h1 h2;subst h1 h2;exact⟨rfl,fun _=>rfl⟩)
  |(obtain ⟨y,hy,h⟩:=Z2z.1 h;injection h with h1 h2;subst h1 h2;exact⟨rfl,fun U=>by rw[hy];rfl⟩)
  |skip
 all_goals (repeat' split at h)
 all_goals first
  |(cases h;done)
  |(injection h with h;injection h with h1 h2;subst h1 h2;exact⟨rfl,fun _=>rfl⟩)
  |(obtain ⟨y,hy,h⟩:=Z2z.1 h;injection h with h1 h2;subst h1 h2;exact⟨rfl,fun U=>by rw[hy];rfl⟩)
  |(obtain ⟨x,hx,h⟩:=Z1z.1 h;obtain⟨y,hy,h⟩:=Z2z.1 h;injection h with h1 h2;subst h1 h2;exact⟨rfl,fun U=>by rw[hx];simp only[Za9];rw[hy];rfl⟩)
  |(obtain ⟨x,hx,h⟩:=Z1z.1 h;split at h<;>first|(cases h;done)|(rename_i hc;injection h with h;injection h with h1 h2;subst h1 h2;exact⟨rfl,fun U=>by rw[hx];simp only[Za9];rw[if_pos hc]⟩))
  |(obtain ⟨x,hx,h⟩:=Z1z.1 h;injection h with h;injection h with h1 h2;subst h1 h2;exact⟨rfl,fun U=>by rw[hx];rfl⟩)
end Go.Proofs.YtnknigikcdgebaaGreatDoor.Sy
