/- Texts of this proof, one behind the other. -/
import Derived.Test.YtbeoiejnogdkpaaGreatBByOrder3
import Derived.Test.YtbeoiejnogdkpaaGreatProg
import Derived.KernelRfl
namespace Go.Proofs.YtbeoiejnogdkpaaGreat.Sy
open Go Go.RowKit
set_option linter.unusedSimpArgs false
set_option linter.unusedVariables false
section
variable {α:Type} {lt:α→α→Bool}
open Go.Sort (SWO)
def alike (lt:α→α→Bool) (y x:α):Bool:= !lt x y&& !lt y x
def Sim (lt:α→α→Bool) (l m:List α):Prop:=∀ y,l.filter (alike lt y)=m.filter (alike lt y)
theorem Sim.refl (l:List α):Sim lt l l:=fun _=>rfl
theorem Sim.trans {l m n:List α} (h:Sim lt l m) (k:Sim lt m n):Sim lt l n:=fun y=>(h y).trans (k y)
theorem Sim.symm {l m:List α} (h:Sim lt l m):Sim lt m l:=fun y=>(h y).symm
theorem Sim.app {a b c d:List α} (h:Sim lt a b) (k:Sim lt c d):Sim lt (a++c) (b++d):=fun y=>by
 rw[List.filter_append,List.filter_append,h y,k y]
theorem alike_not (h:SWO lt) {x y z:α} (hx:alike lt y x=true) (hz:alike lt y z=true):lt z x=false:=by
 simp only[alike,Bool.and_eq_true,Bool.not_eq_true'] at hx hz
 exact h.ntrans _ _ _ hz.1 hx.2
theorem Sim.swap (h:SWO lt) {A B:List α} (hab:∀ x∈A,∀ y∈B,lt y x=true):Sim lt (A++B) (B++A):=fun y=>by
 rw[List.filter_append,List.filter_append]
 by_cases hA:A.filter (alike lt y)=[]
 ·rw[hA];simp
 ·by_cases hB:B.filter (alike lt y)=[]
  ·rw[hB];simp
  ·exfalso
   obtain⟨x,hx⟩:=List.exists_mem_of_ne_nil _ hA
   obtain⟨z,hz⟩:=List.exists_mem_of_ne_nil _ hB
   rw[List.mem_filter] at hx hz
   have h1:=hab x hx.1 z hz.1
   have h2:=alike_not h hx.2 hz.2
   rw[h1] at h2;cases h2
theorem alike_self (h:SWO lt) (x:α):alike lt x x=true:=by simp[alike,h.irrefl]
theorem Sim.mem (h:SWO lt) {l m:List α} (s:Sim lt l m) {x:α} (hx:x∈l):x∈m:=by
 have:x∈l.filter (alike lt x):=List.mem_filter.2 ⟨hx,alike_self h x⟩
 rw[s x] at this
 exact(List.mem_filter.1 this).1
theorem Sim.one (h:SWO lt):∀ {l m:List α},Sim lt l m→Up lt l→Up lt m→l=m
 |[],[],_,_,_=>rfl
 |[],b::m,s,_,_=>by have:=s.symm.mem h (x:=b) (by simp);simp at this
 |a::l,[],s,_,_=>by have:=s.mem h (x:=a) (by simp);simp at this
 |a::l,b::m,s,hl,hm=>by
  have h1:lt a b=false:=by
   rcases List.mem_cons.1 (s.mem h (x:=a) (by simp)) with e|e
   ·rw[e];exact h.irrefl b
   ·exact(List.pairwise_cons.1 hm).1 a e
  have h2:lt b a=false:=by
   rcases List.mem_cons.1 (s.symm.mem h (x:=b) (by simp)) with e|e
   ·rw[e];exact h.irrefl a
   ·exact(List.pairwise_cons.1 hl).1 b e
  have h3:alike lt a b=true:=by simp[alike,h1,h2]
  have e:=s a
  rw[List.filter_cons,List.filter_cons,if_pos (alike_self h a),if_pos h3] at e
  injection e with e1 e2
  subst e1
  rw[Sim.one h (l:=l) (m:=m) (fun y=>by
   have:=s y
   rw[List.filter_cons,List.filter_cons] at this
   split at this
   ·injection this
   ·exact this) (List.pairwise_cons.1 hl).2 (List.pairwise_cons.1 hm).2]
theorem insB_sim (h:SWO lt) {x:α}:∀ {l:List α},Up lt l→Sim lt (insB lt x l) (l++[x])
 |[],_=>Sim.refl _
 |k::r,hl=>by
  unfold insB
  split
  ·rename_i hx
   refine(Sim.swap h (A:=k::r) (B:=[x]) fun a ha y hy=> ?_).symm
   obtain rfl:y=x:=by simpa using hy
   rcases List.mem_cons.1 ha with rfl|ha
   ·exact hx
   ·have:=(List.pairwise_cons.1 hl).1 a ha
    cases e:lt y a with
    |true=>rfl
    |false=>rw[h.ntrans _ _ _ e this] at hx;cases hx
  ·exact Sim.app (a:=[k]) (b:=[k]) (Sim.refl _) (insB_sim h (List.pairwise_cons.1 hl).2)
theorem insAll_sim (h:SWO lt) (l:List α):Sim lt (insAll lt l) l:=by
 have key:∀(l acc:List α),Up lt acc→Sim lt (l.foldl (fun acc x=>insB lt x acc) acc) (acc++l):=by
  intro l
  induction l with
  |nil=>intro acc _;rw[List.append_nil];exact Sim.refl _
  |cons x l ih=>
   intro acc ha
   rw[List.foldl_cons]
   refine(ih _ (insB_up h ha)).trans ?_
   have:=Sim.app (insB_sim h ha (x:=x)) (Sim.refl (lt:=lt) l)
   rwa [List.append_assoc] at this
 exact key l [] .nil
theorem stable_insAll (h:SWO lt) {l m:List α} (s:Sim lt l m) (hu:Up lt m):m=insAll lt l:=
 Sim.one h (s.symm.trans (insAll_sim h l).symm) hu (insAll_up h l)
def rotF {β:Type} (f:Nat→β) (lo mid hi t:Nat):β:=if lo≤t∧t<lo+(hi - mid) then f (t - lo+mid) else if lo+(hi - mid)≤t∧t<hi then f (t - (lo+(hi - mid))+lo) else f t
def swF {β:Type} (f:Nat→β) (p q n t:Nat):β:=if p≤t∧t<p+n then f (t - p+q) else if q≤t∧t<q+n then f (t - q+p) else f t
theorem rot_gt {β:Type} (f:Nat→β) {m i j:Nat} (hm:i≤m) (h:j<i):rotF (swF f (m - i) m j) (m - (i - j)) m (m+j)=rotF f (m - i) m (m+j):=by
 funext t
 simp only[rotF,swF]
 repeat' split
 all_goals first|omega|(congr 1<;>omega)
theorem rot_lt {β:Type} (f:Nat→β) {m i j:Nat} (hm:i≤m) (h:i<j):rotF (swF f (m - i) (m+j - i) i) (m - i) m (m+(j - i))=rotF f (m - i) m (m+j):=by
 funext t
 simp only[rotF,swF]
 repeat' split
 all_goals first|omega|(congr 1<;>omega)
theorem rot_eq {β:Type} (f:Nat→β) {m i:Nat} (hm:i≤m):swF f (m - i) m i=rotF f (m - i) m (m+i):=by
 funext t
 simp only[rotF,swF]
 repeat' split
 all_goals first|omega|(congr 1<;>omega)
theorem rot_up {β:Type} (f:Nat→β) {a k:Nat} (h:a≤k):swF (rotF f a (a+1) (k+1)) k (k+1) 1=rotF f a (a+1) (k+2):=by
 funext t
 simp only[rotF,swF]
 repeat' split
 all_goals first|omega|(congr 1<;>omega)
theorem rot_dn {β:Type} (f:Nat→β) {m k:Nat} (h:k+1≤m):swF (rotF f (k+1) m (m+1)) k (k+1) 1=rotF f k m (m+1):=by
 funext t
 simp only[rotF,swF]
 repeat' split
 all_goals first|omega|(congr 1<;>omega)
theorem rot_id {β:Type} (f:Nat→β) {a m:Nat}:rotF f a m m=f:=by
 funext t
 simp only[rotF]
 repeat' split
 all_goals first|omega|(congr 1<;>omega)
theorem rot_id2 {β:Type} (f:Nat→β) {m b:Nat}:rotF f m m b=f:=by
 funext t
 simp only[rotF]
 repeat' split
 all_goals first|omega|(congr 1<;>omega)
def ga {β:Type} (L:List β):Nat→Option β:=fun t=>L[t]?
theorem ga_ext {β:Type} {L M:List β} (h:ga L=ga M):L=M:=List.ext_getElem? fun i=>congrFun h i
theorem set2_at {β:Type} {L:List β} {p q:Nat} (hp:p<L.length) (hq:q<L.length) (hpq:p<q):ga ((L.set p L[q]).set q L[p])=swF (ga L) p q 1:=by
 funext t
 simp only[ga,swF]
 by_cases h1:t=q
 ·subst h1
  rw[List.getElem?_set_self (by simpa using hq),if_neg (by omega),if_pos (by omega),Nat.sub_self,Nat.zero_add,List.getElem?_eq_getElem hp]
 ·rw[List.getElem?_set_ne (Ne.symm h1)]
  by_cases h2:t=p
  ·subst h2
   rw[List.getElem?_set_self hp,if_pos (by omega),Nat.sub_self,Nat.zero_add,List.getElem?_eq_getElem hq]
  ·rw[List.getElem?_set_ne (Ne.symm h2),if_neg (by omega),if_neg (by omega)]
theorem sw_more {β:Type} (f:Nat→β) {p q i:Nat} (h:p+i<q):swF (swF f p q i) (p+i) (q+i) 1=swF f p q (i+1):=by
 funext t
 simp only[swF]
 repeat' split
 all_goals first|omega|(congr 1<;>omega)
theorem sw_zero {β:Type} (f:Nat→β) {p q:Nat}:swF f p q 0=f:=by
 funext t
 simp only[swF]
 repeat' split
 all_goals first|omega|rfl
theorem rot_list {β:Type} {L M:List β} {a m b:Nat} (ha:a≤m) (hm:m≤b) (hb:b≤L.length) (h:ga M=rotF (ga L) a m b):
  ∃ X A B Y,L=X++(A++B)++Y∧M=X++(B++A)++Y∧X.length=a∧A.length=m - a∧B.length=b - m:=by
 refine⟨L.take a,(L.drop a).take (m - a),(L.drop m).take (b - m),L.drop b,?_,?_,by simp;omega,by simp;omega,by simp;omega⟩
 ·have e1:(L.drop a).take (m - a)++(L.drop m).take (b - m)=(L.drop a).take (b - a):=by
   rw[show L.drop m=(L.drop a).drop (m - a) by rw[List.drop_drop];congr 1;omega,show b - a=(m - a)+(b - m) by omega,List.take_add]
  have e2:L.take a++(L.drop a).take (b - a)=L.take b:=by
   conv=>rhs;rw[show b=a+(b - a) by omega,List.take_add]
  rw[e1,e2,List.take_append_drop]
 ·refine ga_ext ?_
  rw[h]
  funext t
  have hl1:(L.take a).length=a:=by simp;omega
  have hl2:((L.drop m).take (b - m)).length=b - m:=by simp;omega
  have hl3:((L.drop a).take (m - a)).length=m - a:=by simp;omega
  simp only[rotF,ga]
  by_cases c1:t<a
  ·rw[if_neg (by omega),if_neg (by omega),List.append_assoc,List.getElem?_append_left (by omega),List.getElem?_take_of_lt c1]
  ·by_cases c2:t<a+(b - m)
   ·rw[if_pos (by omega),List.append_assoc,List.getElem?_append_right (by omega),hl1,List.append_assoc,List.getElem?_append_left (by omega),List.getElem?_take_of_lt (by omega),List.getElem?_drop]
    congr 1;omega
   ·by_cases c3:t<b
    ·rw[if_neg (by omega),if_pos (by omega),List.append_assoc,List.getElem?_append_right (by omega),hl1,List.append_assoc,List.getElem?_append_right (by omega),hl2,List.getElem?_append_left (by omega),List.getElem?_take_of_lt (by omega),List.getElem?_drop]
     congr 1;omega
    ·rw[if_neg (by omega),if_neg (by omega),List.append_assoc,List.getElem?_append_right (by omega),hl1,List.append_assoc,List.getElem?_append_right (by omega),hl2,List.getElem?_append_right (by omega),hl3,List.getElem?_drop]
     congr 1;omega
theorem rot_sim (hS:SWO lt) {L M:List α} {a m b:Nat} (ha:a≤m) (hm:m≤b) (hb:b≤L.length) (h:ga M=rotF (ga L) a m b) (hc:∀ i j x y,a≤i→i<m→m≤j→j<b→ga L i=some x→ga L j=some y→lt y x=true):Sim lt L M:=by
 obtain⟨X,A,B,Y,rfl,rfl,h1,h2,h3⟩:=rot_list ha hm hb h
 refine Sim.app (Sim.app (Sim.refl _) (Sim.swap hS fun x hx y hy=> ?_)) (Sim.refl _)
 obtain⟨i,hi,ex⟩:=List.getElem_of_mem hx
 obtain⟨j,hj,ey⟩:=List.getElem_of_mem hy
 refine hc (a+i) (m+j) x y (by omega) (by omega) (by omega) (by omega) ?_ ?_
 ·simp only[ga]
  rw[List.append_assoc,List.getElem?_append_right (by omega),List.append_assoc,List.getElem?_append_left (by omega),h1,show a+i - a=i by omega,List.getElem?_eq_getElem hi,ex]
 ·simp only[ga]
  rw[List.append_assoc,List.getElem?_append_right (by omega),List.append_assoc,List.getElem?_append_right (by omega),List.getElem?_append_left (by omega),h1,h2,show m+j - a - (m - a)=j by omega,List.getElem?_eq_getElem hj,ey]
def Srt (lt:α→α→Bool) (f:Nat→Option α) (a b:Nat):Prop:=∀ i j x y,a≤i→i<j→j<b→f i=some x→f j=some y→lt y x=false
def Crs (lt:α→α→Bool) (f:Nat→Option α) (a m b:Nat):Prop:=∀ i j x y,a≤i→i<m→m≤j→j<b→f i=some x→f j=some y→lt y x=false
def Frm (f g:Nat→Option α) (a b:Nat):Prop:=(∀ t,t<a∨b≤t→g t=f t)∧∀ t,a≤t→t<b→∃ s,a≤s∧s<b∧g t=f s
theorem Srt.join {f:Nat→Option α} {a m b:Nat} (h1:Srt lt f a m) (h2:Srt lt f m b) (h3:Crs lt f a m b):Srt lt f a b:=fun i j x y hi hij hj ex ey=>by
 by_cases c1:j<m
 ·exact h1 i j x y hi hij c1 ex ey
 ·by_cases c2:i<m
  ·exact h3 i j x y hi c2 (by omega) hj ex ey
  ·exact h2 i j x y (by omega) hij hj ex ey
theorem Srt.one {f:Nat→Option α} {a b:Nat} (h:b≤a+1):Srt lt f a b:=fun i j x y hi hij hj ex ey=>by omega
theorem Frm.refl (f:Nat→Option α) (a b:Nat):Frm f f a b:=⟨fun _ _=>rfl,fun t h1 h2=>⟨t,h1,h2,rfl⟩⟩
theorem Frm.trans {f g h:Nat→Option α} {a b:Nat} (k1:Frm f g a b) (k2:Frm g h a b):Frm f h a b:=⟨fun t ht=>(k2.1 t ht).trans (k1.1 t ht),fun t h1 h2=>by
 obtain⟨s,s1,s2,e⟩:=k2.2 t h1 h2
 obtain⟨r,r1,r2,e2⟩:=k1.2 s s1 s2
 exact⟨r,r1,r2,e.trans e2⟩⟩
theorem Frm.wide {f g:Nat→Option α} {a b a' b':Nat} (k:Frm f g a b) (ha:a'≤a) (hb:b≤b'):Frm f g a' b':=⟨fun t ht=>k.1 t (by omega),fun t h1 h2=>by
 by_cases c:a≤t∧t<b
 ·obtain⟨s,s1,s2,e⟩:=k.2 t c.1 c.2
  exact⟨s,by omega,by omega,e⟩
 ·exact⟨t,h1,h2,k.1 t (by omega)⟩⟩
theorem Frm.rot (f:Nat→Option α) {a m b:Nat} (ha:a≤m) (hm:m≤b):Frm f (rotF f a m b) a b:=⟨fun t ht=>by
 simp only[rotF];rw[if_neg (by omega),if_neg (by omega)],fun t h1 h2=>by
 simp only[rotF]
 by_cases c:t<a+(b - m)
 ·exact⟨t - a+m,by omega,by omega,by rw[if_pos (by omega)]⟩
 ·exact⟨t - (a+(b - m))+a,by omega,by omega,by rw[if_neg (by omega),if_pos (by omega)]⟩⟩
theorem Srt.frm {f g:Nat→Option α} {a b c d:Nat} (h:Srt lt f c d) (k:Frm f g a b) (hd:d≤a∨b≤c):Srt lt g c d:=fun i j x y hi hij hj ex ey=>by
 rw[k.1 i (by omega)] at ex
 rw[k.1 j (by omega)] at ey
 exact h i j x y hi hij hj ex ey
theorem Crs.frm {f g:Nat→Option α} {a m b:Nat} (h:Crs lt f a m b) (h1:Frm f g a m∨Frm f g m b):Crs lt g a m b:=fun i j x y hi him hmj hj ex ey=>by
 rcases h1 with k|k
 ·obtain⟨s,s1,s2,e⟩:=k.2 i hi him
  rw[e] at ex
  rw[k.1 j (by omega)] at ey
  exact h s j x y s1 s2 hmj hj ex ey
 ·obtain⟨s,s1,s2,e⟩:=k.2 j hmj hj
  rw[e] at ey
  rw[k.1 i (by omega)] at ex
  exact h i s x y hi him s1 s2 ex ey
theorem rot_parts (hS:SWO lt) {f:Nat→Option α} {a s m e b mid:Nat} (h1:a≤s) (h2:s≤m) (h3:m≤e) (h4:e≤b) (hmid:mid=s+(e - m)) (sa:Srt lt f a m) (sb:Srt lt f m b)
  (p1:∀ i j x y,s≤i→i<m→m≤j→j<e→f i=some x→f j=some y→lt y x=true) (p2:∀ i j x y,a≤i→i<s→e≤j→j<b→f i=some x→f j=some y→lt y x=false):
  Srt lt (rotF f s m e) a s∧Srt lt (rotF f s m e) s mid∧Srt lt (rotF f s m e) mid e∧Srt lt (rotF f s m e) e b∧Crs lt (rotF f s m e) a mid b:=by
 have lo:∀ t,t<s→rotF f s m e t=f t:=fun t ht=>by simp only[rotF];rw[if_neg (by omega),if_neg (by omega)]
 have hi:∀ t,e≤t→rotF f s m e t=f t:=fun t ht=>by simp only[rotF];rw[if_neg (by omega),if_neg (by omega)]
 have m1:∀ t,s≤t→t<mid→rotF f s m e t=f (t - s+m):=fun t h h'=>by simp only[rotF];rw[if_pos (by omega)]
 have m2:∀ t,mid≤t→t<e→rotF f s m e t=f (t - mid+s):=fun t h h'=>by simp only[rotF];rw[if_neg (by omega),if_pos (by omega),hmid]
 refine⟨fun i j x y k1 k2 k3 ex ey=> ?_,fun i j x y k1 k2 k3 ex ey=> ?_,fun i j x y k1 k2 k3 ex ey=> ?_,fun i j x y k1 k2 k3 ex ey=> ?_,fun i j x y k1 k2 k3 k4 ex ey=> ?_⟩
 ·rw[lo i (by omega)] at ex;rw[lo j (by omega)] at ey;exact sa i j x y k1 k2 (by omega) ex ey
 ·rw[m1 i (by omega) (by omega)] at ex;rw[m1 j (by omega) (by omega)] at ey;exact sb _ _ x y (by omega) (by omega) (by omega) ex ey
 ·rw[m2 i (by omega) (by omega)] at ex;rw[m2 j (by omega) (by omega)] at ey;exact sa _ _ x y (by omega) (by omega) (by omega) ex ey
 ·rw[hi i (by omega)] at ex;rw[hi j (by omega)] at ey;exact sb _ _ x y (by omega) (by omega) (by omega) ex ey
 ·by_cases c1:i<s
  ·rw[lo i c1] at ex
   by_cases c2:j<e
   ·rw[m2 j k3 c2] at ey;exact sa _ _ x y k1 (by omega) (by omega) ex ey
   ·rw[hi j (by omega)] at ey;exact p2 _ _ x y k1 c1 (by omega) k4 ex ey
  ·rw[m1 i (by omega) k2] at ex
   by_cases c2:j<e
   ·rw[m2 j k3 c2] at ey
    exact SWO.asym hS (p1 _ _ y x (by omega) (by omega) (by omega) (by omega) ey ex)
   ·rw[hi j (by omega)] at ey;exact sb _ _ x y (by omega) (by omega) (by omega) ex ey
theorem cut_ok (hS:SWO lt) {f:Nat→Option α} {a m b n s:Nat} (sa:Srt lt f a m) (sb:Srt lt f m b) (hf:∀ t,a≤t→t<b→∃ x,f t=some x) (h1:a≤s) (h2:s≤m) (h3:m≤n - s) (h4:n - s≤b) (hn:s≤n)
  (q1:s<m→m<n - s→∀ x y,f s=some x→f (n - 1 - s)=some y→lt y x=true) (q2:a<s→n - s<b→∀ x y,f (s - 1)=some x→f (n - s)=some y→lt y x=false):
  (∀ i j x y,s≤i→i<m→m≤j→j<n - s→f i=some x→f j=some y→lt y x=true)∧(∀ i j x y,a≤i→i<s→n - s≤j→j<b→f i=some x→f j=some y→lt y x=false):=by
 refine⟨fun i j x y k1 k2 k3 k4 ex ey=> ?_,fun i j x y k1 k2 k3 k4 ex ey=> ?_⟩
 ·obtain⟨x0,e0⟩:=hf s (by omega) (by omega)
  obtain⟨y0,f0⟩:=hf (n - 1 - s) (by omega) (by omega)
  have c:=q1 (by omega) (by omega) x0 y0 e0 f0
  have cx:lt x x0=false:=by
   rcases Nat.lt_or_ge s i with h|h
   ·exact sa s i x0 x (by omega) h (by omega) e0 ex
   ·obtain rfl:i=s:=by omega
    rw[e0] at ex;cases ex;exact hS.irrefl _
  have cy:lt y0 y=false:=by
   rcases Nat.lt_or_ge j (n - 1 - s) with h|h
   ·exact sb j (n - 1 - s) y y0 (by omega) h (by omega) ey f0
   ·obtain rfl:j=n - 1 - s:=by omega
    rw[f0] at ey;cases ey;exact hS.irrefl _
  cases e:lt y x with
  |true=>rfl
  |false=>rw[hS.ntrans _ _ _ cy (hS.ntrans _ _ _ e cx)] at c;cases c
 ·obtain⟨x0,e0⟩:=hf (s - 1) (by omega) (by omega)
  obtain⟨y0,f0⟩:=hf (n - s) (by omega) (by omega)
  have c:=q2 (by omega) (by omega) x0 y0 e0 f0
  have cx:lt x0 x=false:=by
   rcases Nat.lt_or_ge i (s - 1) with h|h
   ·exact sa i (s - 1) x x0 (by omega) h (by omega) ex e0
   ·obtain rfl:i=s - 1:=by omega
    rw[e0] at ex;cases ex;exact hS.irrefl _
  have cy:lt y y0=false:=by
   rcases Nat.lt_or_ge (n - s) j with h|h
   ·exact sb (n - s) j y0 y (by omega) h (by omega) f0 ey
   ·obtain rfl:j=n - s:=by omega
    rw[f0] at ey;cases ey;exact hS.irrefl _
  exact hS.ntrans _ _ _ cy (hS.ntrans _ _ _ c cx)
theorem srt_up {L:List α} (h:Srt lt (ga L) 0 L.length):Up lt L:=by
 rw[Up,List.pairwise_iff_getElem]
 intro i j hi hj hij
 exact h i j L[i] L[j] (Nat.zero_le _) hij hj (by simp[ga,hi]) (by simp[ga,hj])
end
end Go.Proofs.YtbeoiejnogdkpaaGreat.Sy
namespace Go.Proofs.YtbeoiejnogdkpaaGreat.Sy
open Go Go.RowKit
set_option linter.unusedSimpArgs false
set_option linter.unusedVariables false
section
variable {α:Type} {lt:α→α→Bool}
open Go.Sort (SWO)
theorem ins_parts (hS:SWO lt) {f:Nat→Option α} {a s i:Nat} {x:α} (h1:a≤s) (h2:s≤i) (hx:f i=some x) (hf:∀ t,a≤t→t<i→∃ y,f t=some y) (sa:Srt lt f a i) (p1:∀ t y,s≤t→t<i→f t=some y→lt x y=true) (p2:a<s→∀ y,f (s - 1)=some y→lt x y=false):Srt lt (rotF f s i (i+1)) a (i+1):=by
 have lo:∀ t,t<s→rotF f s i (i+1) t=f t:=fun t ht=>by simp only[rotF];rw[if_neg (by omega),if_neg (by omega)]
 have at0:rotF f s i (i+1) s=f i:=by simp only[rotF];rw[if_pos (by omega)];congr 1;omega
 have up:∀ t,s<t→t<i+1→rotF f s i (i+1) t=f (t - 1):=fun t h h'=>by simp only[rotF];rw[if_neg (by omega),if_pos (by omega)];congr 1;omega
 intro p q y z hp hpq hq ep eq
 rcases Nat.lt_trichotomy q s with c|c|c
 ·rw[lo p (by omega)] at ep;rw[lo q c] at eq;exact sa p q y z hp hpq (by omega) ep eq
 ·subst c
  rw[lo p (by omega)] at ep;rw[at0,hx] at eq;cases eq
  obtain⟨w,hw⟩:=hf (q - 1) (by omega) (by omega)
  have e1:=p2 (by omega) w hw
  rcases Nat.lt_or_ge p (q - 1) with h|h
  ·exact hS.ntrans _ _ _ e1 (sa p (q - 1) y w hp h (by omega) ep hw)
  ·have:p=q - 1:=by omega
   subst this;rw[hw] at ep;cases ep;exact e1
 ·rw[up q c hq] at eq
  rcases Nat.lt_trichotomy p s with d|d|d
  ·rw[lo p d] at ep;exact sa p (q - 1) y z hp (by omega) (by omega) ep eq
  ·subst d
   rw[at0,hx] at ep;cases ep
   exact SWO.asym hS (p1 (q - 1) z (by omega) (by omega) eq)
  ·rw[up p d (by omega)] at ep;exact sa (p - 1) (q - 1) y z (by omega) (by omega) (by omega) ep eq
theorem ins_sim (hS:SWO lt) {L M:List α} {s i:Nat} {x:α} (h2:s≤i) (hi:i<L.length) (hx:ga L i=some x) (p1:∀ t y,s≤t→t<i→ga L t=some y→lt x y=true) (h:ga M=rotF (ga L) s i (i+1)):Sim lt L M:=
 rot_sim hS h2 (by omega) (by omega) h fun p q y z k1 k2 k3 k4 ep eq=>by
  have:q=i:=by omega
  subst this
  rw[hx] at eq;cases eq
  exact p1 p y k1 k2 ep
theorem up_parts (hS:SWO lt) {f:Nat→Option α} {a i b:Nat} {x:α} (h1:a+1≤i) (h2:i≤b) (hx:f a=some x) (sb:Srt lt f (a+1) b) (p1:∀ t y,a+1≤t→t<i→f t=some y→lt y x=true) (p2:∀ t y,i≤t→t<b→f t=some y→lt y x=false):Srt lt (rotF f a (a+1) i) a b:=by
 have lo:∀ t,a≤t→t<i - 1→rotF f a (a+1) i t=f (t+1):=fun t h ht=>by simp only[rotF];rw[if_pos (by omega)];congr 1;omega
 have at0:rotF f a (a+1) i (i - 1)=f a:=by simp only[rotF];rw[if_neg (by omega),if_pos (by omega)];congr 1;omega
 have up:∀ t,i≤t→rotF f a (a+1) i t=f t:=fun t h=>by simp only[rotF];rw[if_neg (by omega),if_neg (by omega)]
 intro p q y z hp hpq hq ep eq
 by_cases c1:q<i - 1
 ·rw[lo p hp (by omega)] at ep;rw[lo q (by omega) c1] at eq;exact sb _ _ y z (by omega) (by omega) (by omega) ep eq
 ·by_cases c2:q=i - 1
  ·subst c2
   rw[lo p hp (by omega)] at ep;rw[at0,hx] at eq;cases eq
   exact SWO.asym hS (p1 (p+1) y (by omega) (by omega) ep)
  ·rw[up q (by omega)] at eq
   by_cases c3:p<i - 1
   ·rw[lo p hp c3] at ep;exact sb _ _ y z (by omega) (by omega) hq ep eq
   ·by_cases c4:p=i - 1
    ·subst c4
     rw[at0,hx] at ep;cases ep
     exact p2 q z (by omega) hq eq
    ·rw[up p (by omega)] at ep;exact sb _ _ y z (by omega) hpq hq ep eq
theorem up_sim (hS:SWO lt) {L M:List α} {a i:Nat} {x:α} (h1:a+1≤i) (h2:i≤L.length) (hx:ga L a=some x) (p1:∀ t y,a+1≤t→t<i→ga L t=some y→lt y x=true) (h:ga M=rotF (ga L) a (a+1) i):Sim lt L M:=
 rot_sim hS (by omega) h1 h2 h fun p q y z k1 k2 k3 k4 ep eq=>by
  have:p=a:=by omega
  subst this
  rw[hx] at ep;cases ep
  exact p1 q z k3 k4 eq
def Blks (lt:α→α→Bool) (f:Nat→Option α) (bs n:Nat):Prop:=∀ t,Srt lt f (t*bs) (min ((t+1)*bs) n)
theorem ga_some {L:List α} {i:Nat} (h:i<L.length):ga L i=some L[i]:=by simp[ga,h]
structure Outs (lt:α→α→Bool) (L M:List α) (a b:Nat):Prop where
 len:M.length=L.length
 sim:Sim lt L M
 frm:Frm (ga L) (ga M) a b
 srt:Srt lt (ga M) a b
theorem Sim.perm (hS:SWO lt):∀ {l m:List α},Sim lt l m→l.Perm m
 |[],m,s=>by
  cases m with
  |nil=>exact .refl _
  |cons b m=>have:=s.symm.mem hS (x:=b) (by simp);simp at this
 |a::l,m,s=>by
  have e:=s a
  rw[List.filter_cons,if_pos (alike_self hS a)] at e
  obtain⟨m1,m2,hm,h1⟩:∃ m1 m2,m=m1++a::m2∧∀ z∈m1,alike lt a z=false:=by
   have key:∀(m:List α) (r:List α),m.filter (alike lt a)=a::r→∃ m1 m2,m=m1++a::m2∧∀ z∈m1,alike lt a z=false:=by
    intro m
    induction m with
    |nil=>intro r h;simp at h
    |cons b m ih=>
     intro r h
     rw[List.filter_cons] at h
     split at h
     ·injection h with h1 h2
      subst h1
      exact⟨[],m,rfl,by simp⟩
     ·rename_i hb
      obtain⟨m1,m2,e1,e2⟩:=ih r h
      exact⟨b::m1,m2,by rw[e1];rfl,fun z hz=>by
       rcases List.mem_cons.1 hz with rfl|hz
       ·simpa using hb
       ·exact e2 z hz⟩
   exact key m _ e.symm
  subst hm
  have s2:Sim lt l (m1++m2):=fun y=>by
   have e:=s y
   rw[List.filter_cons,List.filter_append,List.filter_cons] at e
   rw[List.filter_append]
   by_cases hy:alike lt y a=true
   ·rw[if_pos hy,if_pos hy] at e
    have:m1.filter (alike lt y)=[]:=List.filter_eq_nil_iff.2 fun z hz hyz=>by
     have h3:=h1 z hz
     have:alike lt a z=true:=by
      simp only[alike,Bool.and_eq_true,Bool.not_eq_true'] at*
      exact⟨hS.ntrans _ _ _ hyz.1 hy.2,hS.ntrans _ _ _ hy.1 hyz.2⟩
     rw[h3] at this;cases this
    rw[this] at e ⊢
    simpa using e
   ·rw[if_neg hy,if_neg hy] at e
    exact e
  exact((Sim.perm hS s2).cons a).trans List.perm_middle.symm
end
end Go.Proofs.YtbeoiejnogdkpaaGreat.Sy
namespace Go.Proofs.YtbeoiejnogdkpaaGreat.Sy
open Go Go.RowKit
set_option linter.unusedSimpArgs false
set_option linter.unusedVariables false
def restP {α:Type} (d:Kd α) (v:GV) (l:List α) (j:Nat) (τ:St) (fp:List Nat):Prop:=
 (l=[]∧v= .nilS∧fp=[])∨∃ g pre c1 c2 post f2,v= .sl g pre.length l.length∧bk τ g=some (.row d.z (pre++(c1++c2.flatten)++post))∧c1.length=j*d.z∧All3 (d.O τ) (l.drop j) c2 f2∧fp=g::f2.flatten
def rest {α:Type} (d:Kd α) (v:GV) (l:List α) (j:Nat):Thg:=⟨restP d v l j,fun {σ τ fp} h hf=>by
 rcases h with h|⟨g,pre,c1,c2,post,f2,h1,h2,h3,h4,rfl⟩
 ·exact .inl h
 refine .inr ⟨g,pre,c1,c2,post,f2,h1,by rw[hf g List.mem_cons_self];exact h2,h3,h4.imp fun a b c hc ho=>d.loc ho fun g' hg'=>hf g' ?_,rfl⟩
 exact List.mem_cons_of_mem _ (List.mem_flatten.2 ⟨c,hc,hg'⟩)⟩
section
variable {σ τ:St} {rs:List Thg} {α:Type} {d:Kd α} {v:GV} {l:List α} {j:Nat}
theorem Hp.toRest (H:Hp σ τ (ow d v l::rs)):Hp σ τ (rest d v l 0::rs):=
 H.conv fun fp h=>by
  rcases h with h|⟨g,pre,css,post,fps,h1,h2,h3,h4⟩
  ·exact .inl ⟨h.1,h.2.1,h.2.2⟩
  ·exact .inr ⟨g,pre,[],css,post,fps,h1,by rw[h2];rfl,by simp,h3,h4⟩
end
def rstP {α:Type} (d:Kd α) (v:GV) (l:List α) (j:Nat) (cs:List GV) (τ:St) (fp:List Nat):Prop:=
 ∃ g pre c1 c2 post f2,v= .sl g pre.length l.length∧bk τ g=some (.row d.z (pre++(c1++(cs++c2.flatten))++post))∧c1.length=j*d.z∧cs.length=d.z∧All3 (d.O τ) (l.drop (j+1)) c2 f2∧fp=g::f2.flatten
def rst {α:Type} (d:Kd α) (v:GV) (l:List α) (j:Nat) (cs:List GV):Thg:=⟨rstP d v l j cs,fun {σ τ fp} h hf=>by
 obtain⟨g,pre,c1,c2,post,f2,h1,h2,h3,h5,h4,rfl⟩:=h
 refine⟨g,pre,c1,c2,post,f2,h1,by rw[hf g List.mem_cons_self];exact h2,h3,h5,h4.imp fun a b c hc ho=>d.loc ho fun g' hg'=>hf g' ?_,rfl⟩
 exact List.mem_cons_of_mem _ (List.mem_flatten.2 ⟨c,hc,hg'⟩)⟩
section
variable {σ τ:St} {rs:List Thg} {α:Type} {d:Kd α} {v:GV} {l:List α} {cs:List GV} {j:Nat}
theorem Hp.toRst (H:Hp σ τ (rest d v l j::rs)) (hj:j<l.length):∃ cs,Hp σ τ (own d cs l[j]::rst d v l j cs::rs):=by
 obtain⟨h,_,⟨a,b,hr,hs,rfl⟩,hn,hb⟩:=H
 rcases hr with⟨rfl,_,_⟩|⟨g,pre,c1,c2,post,f2,rfl,hB,hc,hA,rfl⟩
 ·simp at hj
 rw[← List.getElem_cons_drop hj] at hA
 cases hA with
 | @cons _ cs fx _ c2 f2 hx hA=>
  have hcl:cs.length=d.z:=d.len (d.rd hx)
  have hp:(g::(fx::f2).flatten++b).Perm (fx++((g::f2.flatten)++b)):=by
   have e:g::(fx::f2).flatten++b=[g]++(fx++(f2.flatten++b)):=by simp
   have e2:fx++((g::f2.flatten)++b)=fx++([g]++(f2.flatten++b)):=by simp
   rw[e,e2];exact mid_perm _ _ _
  exact⟨cs,h,_,⟨fx,_,hx,⟨_,b,⟨g,pre,c1,c2,post,f2,rfl,by rw[hB];simp,hc,hcl,hA,rfl⟩,hs,rfl⟩,rfl⟩,hp.nodup_iff.1 hn,fun g' hg'=>hb g' (hp.mem_iff.2 hg')⟩
theorem Hp.ofRst (H:Hp σ τ (rst d v l j cs::rs)):Hp σ τ (rest d v l (j+1)::rs):=
 H.conv fun fp h=>by
  obtain⟨g,pre,c1,c2,post,f2,h1,h2,h3,h5,h4,h6⟩:=h
  exact .inr ⟨g,pre,c1++cs,c2,post,f2,h1,by rw[h2];simp,by rw[List.length_append,h3,h5,Nat.add_mul,Nat.one_mul],h4,h6⟩
theorem Hx.rst_rd {h:List Item} (H:Hx σ τ h) (i:Nat) (hi:h[i]? =some (.th (rst d v l j cs))) (hj:j<l.length):iadG d.z v (some j)=some (atz d.z v j)∧(∀ k,fadG k (atz d.z v j)=some (fld k (atz d.z v j)))∧(∀ k m,fadG k (fld m (atz d.z v j))=some (fld (m+k) (atz d.z v j)))∧ldG true d.z τ (atz d.z v j)=some (.agg cs)∧∀ k n a,k+n≤d.z→ldG a n τ (fld k (atz d.z v j))=(seg cs k n).bind (mkv a):=by
 obtain⟨fp,hP,_⟩:=(H.hp.pick i (at_t hi)).turn
 obtain⟨g,pre,c1,c2,post,f2,rfl,hB,hc,hcl,hA,rfl⟩:=hP
 have hr:rdB τ g=some (pre++(c1++(cs++c2.flatten))++post):=by unfold rdB;rw[bk_some.1 hB];rfl
 have key:∀ k n a,k+n≤d.z→ldG a n τ (.ptr g (pre.length+j*d.z+k))=(seg cs k n).bind (mkv a):=by
  intro k n a hk
  simp only[ldG]
  rw[hr,Option.bind_some]
  congr 1
  have e:pre++(c1++(cs++c2.flatten))++post=(pre++c1)++(cs++(c2.flatten++post)):=by simp
  rw[e]
  unfold seg
  rw[if_pos (by simp only[List.length_append];omega),if_pos (by omega)]
  congr 1
  rw[show pre.length+j*d.z+k=(pre++c1).length+k by rw[List.length_append,hc],←List.drop_drop,List.drop_left,List.drop_append_of_le_length (by omega),List.take_append_of_le_length (by rw[List.length_drop];omega)]
 refine⟨by simp only[iadG];rw[if_pos hj];rfl,fun k=>rfl,fun k m=>by simp only[atz,fld,fadG];rw[Nat.add_assoc],?_,fun k n a hk=>key k n a hk⟩
 have:=key 0 d.z true (by omega)
 rw[Nat.add_zero] at this
 simp only[atz]
 rw[this]
 have e:seg cs 0 d.z=some cs:=by unfold seg;rw[if_pos (by omega),List.drop_zero,List.take_of_length_le (by omega)]
 rw[e];rfl
end
end Go.Proofs.YtbeoiejnogdkpaaGreat.Sy
namespace Go.Proofs.YtbeoiejnogdkpaaGreat.Sy
open Go Go.RowKit
set_option linter.unusedSimpArgs false
set_option linter.unusedVariables false
set_option maxRecDepth 4000
abbrev n_s_l11Copy:Nat:=223
def F_s_l11Copy:Fn1:=⟨28,[.c 2 true 6],(.seq (.reg [o 1 (.box (.t 0)),o 2 (.new [.nilS,.nilS,.nilS,.nilS,.nilS,.nilS])]) (.seq (.drw [o 3 (.lit 1 0 [] []),o 4 (.fad 0 (.t 1)),o 5 (.ld false 1 (.t 4)),o 6 (.app 1 8 [(.int .i64 0)] (.t 3) (.t 5)),o 7 (.lit 1 0 [] []),o 8 (.fad 1 (.t 1)),o 9 (.ld false 1 (.t 8)),o 10 (.app 1 8 [(.int .i64 0)] (.t 7) (.t 9)),o 11 (.lit 3 0 [] []),o 12 (.fad 2 (.t 1)),o 13 (.ld false 1 (.t 12)),o 14 (.app 3 32 [(.str ⟨#[]⟩),(.int .i64 0),(.int .i64 0)] (.t 11) (.t 13)),o 15 (.lit 6 0 [] []),o 16 (.fad 3 (.t 1)),o 17 (.ld false 1 (.t 16)),o 18 (.app 6 64 [(.bool false),(.str ⟨#[]⟩),(.str ⟨#[]⟩),(.int .i64 0),(.int .i64 0),(.int .i64 0)] (.t 15) (.t 17)),o 19 (.lit 2 0 [] []),o 20 (.fad 4 (.t 1)),o 21 (.ld false 1 (.t 20)),o 22 (.app 2 16 [(.int .i64 0),(.int .i64 0)] (.t 19) (.t 21)),o 23 (.lit 8 0 [] []),o 24 (.fad 5 (.t 1)),o 25 (.ld false 1 (.t 24))] [o 26 (.app 8 72 [(.str ⟨#[]⟩),(.int .i64 0),(.int .i64 0),(.int .i64 0),(.int .i64 0),(.int .i64 0),(.int .i64 0),(.bool false)] (.t 23) (.t 25)),o 27 (.build [.nilS,.nilS,.nilS,.nilS,.nilS,.nilS] [(0,1,(.t 6)),(1,1,(.t 10)),(2,1,(.t 14)),(3,1,(.t 18)),(4,1,(.t 22)),(5,1,(.t 26))]),on (.st 6 (.t 2) (.t 27))]) .ret))⟩
theorem ir_s_l11Copy:compFn Tryz.prog n_s_l11Copy=some F_s_l11Copy:=by kernel_rfl
abbrev n_i_copyDelta:Nat:=311
def F_i_copyDelta:Fn1:=⟨26,[.c 2 true 6],(.seq (.reg [o 1 (.box (.t 0)),o 2 (.new [.nilS,.nilS,.nilS,.nilS,.nilS,.nilS])]) (.seq (.drw [o 3 (.fad 0 (.t 1)),o 4 (.ld false 1 (.t 3)),o 5 (.call 182 [(.t 4)]),o 6 (.fad 1 (.t 1)),o 7 (.ld false 1 (.t 6)),o 8 (.call 182 [(.t 7)]),o 9 (.lit 3 0 [] []),o 10 (.fad 2 (.t 1)),o 11 (.ld false 1 (.t 10)),o 12 (.app 3 32 [(.str ⟨#[]⟩),(.int .i64 0),(.int .i64 0)] (.t 9) (.t 11)),o 13 (.lit 6 0 [] []),o 14 (.fad 3 (.t 1)),o 15 (.ld false 1 (.t 14)),o 16 (.app 6 64 [(.bool false),(.str ⟨#[]⟩),(.str ⟨#[]⟩),(.int .i64 0),(.int .i64 0),(.int .i64 0)] (.t 13) (.t 15)),o 17 (.lit 2 0 [] []),o 18 (.fad 4 (.t 1)),o 19 (.ld false 1 (.t 18)),o 20 (.app 2 16 [(.int .i64 0),(.int .i64 0)] (.t 17) (.t 19)),o 21 (.lit 8 0 [] []),o 22 (.fad 5 (.t 1)),o 23 (.ld false 1 (.t 22))] [o 24 (.app 8 72 [(.str ⟨#[]⟩),(.int .i64 0),(.int .i64 0),(.int .i64 0),(.int .i64 0),(.int .i64 0),(.int .i64 0),(.bool false)] (.t 21) (.t 23)),o 25 (.build [.nilS,.nilS,.nilS,.nilS,.nilS,.nilS] [(0,1,(.t 5)),(1,1,(.t 8)),(2,1,(.t 12)),(3,1,(.t 16)),(4,1,(.t 20)),(5,1,(.t 24))]),on (.st 6 (.t 2) (.t 25))]) .ret))⟩
theorem ir_i_copyDelta:compFn Tryz.prog n_i_copyDelta=some F_i_copyDelta:=by kernel_rfl
abbrev n_s_l13CopyUnit:Nat:=99
def F_s_l13CopyUnit:Fn1:=⟨12,[.c 2 true 17],(.seq (.reg [o 1 (.box (.t 0)),o 2 (.new [(.bool false),(.int .i64 0),(.int .i64 0),(.int .i64 0),.nilS,(.int .i64 0),(.str ⟨#[]⟩),(.str ⟨#[]⟩),(.int .i64 0),(.int .i64 0),(.int .i64 0),.nilS,.nilS,.nilS,.nilS,.nilS,.nilS])]) (.seq (.drw [o 3 (.fad 0 (.t 1)),o 4 (.ld false 1 (.t 3)),o 5 (.fad 1 (.t 1)),o 6 (.ld true 10 (.t 5)),o 7 (.call 211 [(.t 6)]),o 8 (.fad 11 (.t 1)),o 9 (.ld true 6 (.t 8)),o 10 (.call 223 [(.t 9)])] [o 11 (.build [(.bool false),(.int .i64 0),(.int .i64 0),(.int .i64 0),.nilS,(.int .i64 0),(.str ⟨#[]⟩),(.str ⟨#[]⟩),(.int .i64 0),(.int .i64 0),(.int .i64 0),.nilS,.nilS,.nilS,.nilS,.nilS,.nilS] [(0,1,(.t 4)),(1,10,(.t 7)),(11,6,(.t 10))]),on (.st 17 (.t 2) (.t 11))]) .ret))⟩
theorem ir_s_l13CopyUnit:compFn Tryz.prog n_s_l13CopyUnit=some F_s_l13CopyUnit:=by kernel_rfl
abbrev n_i_copyUnit:Nat:=228
def F_i_copyUnit:Fn1:=⟨12,[.c 2 true 17],(.seq (.reg [o 1 (.box (.t 0)),o 2 (.new [(.bool false),(.int .i64 0),(.int .i64 0),(.int .i64 0),.nilS,(.int .i64 0),(.str ⟨#[]⟩),(.str ⟨#[]⟩),(.int .i64 0),(.int .i64 0),(.int .i64 0),.nilS,.nilS,.nilS,.nilS,.nilS,.nilS])]) (.seq (.drw [o 3 (.fad 0 (.t 1)),o 4 (.ld false 1 (.t 3)),o 5 (.fad 1 (.t 1)),o 6 (.ld true 10 (.t 5)),o 7 (.call 194 [(.t 6)]),o 8 (.fad 11 (.t 1)),o 9 (.ld true 6 (.t 8)),o 10 (.call 311 [(.t 9)])] [o 11 (.build [(.bool false),(.int .i64 0),(.int .i64 0),(.int .i64 0),.nilS,(.int .i64 0),(.str ⟨#[]⟩),(.str ⟨#[]⟩),(.int .i64 0),(.int .i64 0),(.int .i64 0),.nilS,.nilS,.nilS,.nilS,.nilS,.nilS] [(0,1,(.t 4)),(1,10,(.t 7)),(11,6,(.t 10))]),on (.st 17 (.t 2) (.t 11))]) .ret))⟩
theorem ir_i_copyUnit:compFn Tryz.prog n_i_copyUnit=some F_i_copyUnit:=by kernel_rfl
abbrev n_i_copyUnits:Nat:=102
def F_i_copyUnits:Fn1:=⟨20,[.t 2],(.seq (.reg [o 2 (.mov (.k .nilS))]) (.seq (.reg [o 6 (.lit 17 0 [] []),o 3 (.mov (.t 6))]) (.seq (.seq (.reg [o 7 (.mov (.t 0)),o 8 (.len false (.t 7)),o 9 (.mov (.k (.int .i64 0)))]) (.blk 0 (.lop (.seq (.reg [o 10 (.bin .lss (.t 9) (.t 8))]) (.seq (.cnd (.t 10) .skip (.ext 0)) (.seq (.blk 1 (.seq (.reg [o 11 (.iad 17 (.t 7) (.t 9)),o 12 (.ld true 17 (.t 11)),o 5 (.new [(.bool false),(.int .i64 0),(.int .i64 0),(.int .i64 0),.nilS,(.int .i64 0),(.str ⟨#[]⟩),(.str ⟨#[]⟩),(.int .i64 0),(.int .i64 0),(.int .i64 0),.nilS,.nilS,.nilS,.nilS,.nilS,.nilS]),on (.st 17 (.t 5) (.t 12))]) (.reg [o 13 (.mov (.t 3)),o 14 (.ld true 17 (.t 5)),o 15 (.call 228 [(.t 14)]),o 16 (.lit 17 1 [(.bool false),(.int .i64 0),(.int .i64 0),(.int .i64 0),.nilS,(.int .i64 0),(.str ⟨#[]⟩),(.str ⟨#[]⟩),(.int .i64 0),(.int .i64 0),(.int .i64 0),.nilS,.nilS,.nilS,.nilS,.nilS,.nilS] [(0,17,(.t 15))]),o 17 (.app 17 264 [(.bool false),(.int .i64 0),(.int .i64 0),(.int .i64 0),.nilS,(.int .i64 0),(.str ⟨#[]⟩),(.str ⟨#[]⟩),(.int .i64 0),(.int .i64 0),(.int .i64 0),.nilS,.nilS,.nilS,.nilS,.nilS,.nilS] (.t 13) (.t 16)),o 3 (.mov (.t 17))]))) (.reg [o 18 (.bin .add (.t 9) (.k (.int .i64 1))),o 9 (.mov (.t 18))]))))))) (.seq (.reg [o 19 (.mov (.t 3)),o 2 (.mov (.t 19))]) .ret))))⟩
theorem ir_i_copyUnits:compFn Tryz.prog n_i_copyUnits=some F_i_copyUnits:=by kernel_rfl
set_option maxHeartbeats 1000000 in
theorem s_l11Copy_ret (σ:St) (cs:List GV) (x:Delta) (hR:kDelta.R σ x cs) (hl:msDelta x≤1073741824):∃ r τ,Ret Tryz.prog n_s_l11Copy [.agg cs] σ (.agg r) τ∧Hp σ τ [own kDelta r x]:=by
 obtain⟨v0,v1,v2,v3,v4,v5,rfl,q0,q1,q2,q3,q4,q5⟩:=hR
 obtain⟨l0,l1,l2,l3,l4,l5,_⟩:=msDelta_all hl
 have key:∃ w τ,Ret Tryz.prog n_s_l11Copy [.agg [v0,v1,v2,v3,v4,v5]] σ w τ∧∃ r,w= .agg r∧Hp σ τ [own kDelta r x]:=by
  refine ret_x ir_s_l11Copy (Nat.le_of_ble_eq_true rfl) (Hx.refl σ) ?_
  simp +contextual (disch:=omega) only[go_sem,F_s_l11Copy]
  intro n1 f1 τ1 H1 n2 f2 τ2 H2
  intro n3 f3 τ3 H3
  refine by_cp (p:=pI) H3 (q0.pre H3.sub) (by decide) (by omega) fun w0 τ4 H4=> ?_
  have c0:=(H4.hp.sl 0 rfl).cell
  simp +contextual (disch:=omega) only[go_sem,c0]
  intro n5 f5 τ5 H5
  refine by_cp (p:=pI) H5 (q1.pre H5.sub) (by decide) (by omega) fun w1 τ6 H6=> ?_
  have c1:=(H6.hp.sl 0 rfl).cell
  simp +contextual (disch:=omega) only[go_sem,c0,c1]
  intro n7 f7 τ7 H7
  refine by_cp (p:=pTally) H7 (q2.pre H7.sub) (by decide) (by omega) fun w2 τ8 H8=> ?_
  have c2:=(H8.hp.sl 0 rfl).cell
  simp +contextual (disch:=omega) only[go_sem,c0,c1,c2]
  intro n9 f9 τ9 H9
  refine by_cp (p:=pLive) H9 (q3.pre H9.sub) (by decide) (by omega) fun w3 τ10 H10=> ?_
  have c3:=(H10.hp.sl 0 rfl).cell
  simp +contextual (disch:=omega) only[go_sem,c0,c1,c2,c3]
  intro n11 f11 τ11 H11
  refine by_cp (p:=pDot) H11 (q4.pre H11.sub) (by decide) (by omega) fun w4 τ12 H12=> ?_
  have c4:=(H12.hp.sl 0 rfl).cell
  simp +contextual (disch:=omega) only[go_sem,c0,c1,c2,c3,c4]
  intro n13 f13 τ13 H13
  refine by_cp (p:=pCell) H13 (q5.pre H13.sub) (by decide) (by omega) fun w5 τ14 H14=> ?_
  have c5:=(H14.hp.sl 0 rfl).cell
  simp +contextual (disch:=omega) only[go_sem,c0,c1,c2,c3,c4,c5]
  intro τ15 H15
  exact⟨_,rfl,_,rfl,Hp.ownDelta (x:=x) (H15.sel [5,4,3,2,1,0] (by decide))⟩
 obtain⟨q,τ,R,r,rfl,h⟩:=key
 exact⟨r,τ,R,h⟩
set_option maxHeartbeats 1000000 in
theorem i_copyDelta_ret (σ:St) (cs:List GV) (x:Delta) (hR:kDelta.R σ x cs) (hl:msDelta x≤1073741824):∃ r τ,Ret Tryz.prog n_i_copyDelta [.agg cs] σ (.agg r) τ∧Hp σ τ [own kDelta r x]:=by
 obtain⟨v0,v1,v2,v3,v4,v5,rfl,q0,q1,q2,q3,q4,q5⟩:=hR
 obtain⟨l0,l1,l2,l3,l4,l5,_⟩:=msDelta_all hl
 have key:∃ w τ,Ret Tryz.prog n_i_copyDelta [.agg [v0,v1,v2,v3,v4,v5]] σ w τ∧∃ r,w= .agg r∧Hp σ τ [own kDelta r x]:=by
  refine ret_x ir_i_copyDelta (Nat.le_of_ble_eq_true rfl) (Hx.refl σ) ?_
  simp +contextual (disch:=omega) only[go_sem,F_i_copyDelta]
  intro n1 f1 τ1 H1 n2 f2 τ2 H2
  obtain⟨w0,τ3,R3,K3⟩:=i_copyInts_ret τ2 v0 _ (q0.pre H2.sub) (by omega)
  refine by_c H2 R3 K3 fun H3=> ?_
  have c0:=(H3.hp.sl 0 rfl).cell
  simp +contextual (disch:=omega) only[go_sem,c0]
  obtain⟨w1,τ4,R4,K4⟩:=i_copyInts_ret τ3 v1 _ (q1.pre H3.sub) (by omega)
  refine by_c H3 R4 K4 fun H4=> ?_
  have c1:=(H4.hp.sl 0 rfl).cell
  simp +contextual (disch:=omega) only[go_sem,c0,c1]
  intro n5 f5 τ5 H5
  refine by_cp (p:=pTally) H5 (q2.pre H5.sub) (by decide) (by omega) fun w2 τ6 H6=> ?_
  have c2:=(H6.hp.sl 0 rfl).cell
  simp +contextual (disch:=omega) only[go_sem,c0,c1,c2]
  intro n7 f7 τ7 H7
  refine by_cp (p:=pLive) H7 (q3.pre H7.sub) (by decide) (by omega) fun w3 τ8 H8=> ?_
  have c3:=(H8.hp.sl 0 rfl).cell
  simp +contextual (disch:=omega) only[go_sem,c0,c1,c2,c3]
  intro n9 f9 τ9 H9
  refine by_cp (p:=pDot) H9 (q4.pre H9.sub) (by decide) (by omega) fun w4 τ10 H10=> ?_
  have c4:=(H10.hp.sl 0 rfl).cell
  simp +contextual (disch:=omega) only[go_sem,c0,c1,c2,c3,c4]
  intro n11 f11 τ11 H11
  refine by_cp (p:=pCell) H11 (q5.pre H11.sub) (by decide) (by omega) fun w5 τ12 H12=> ?_
  have c5:=(H12.hp.sl 0 rfl).cell
  simp +contextual (disch:=omega) only[go_sem,c0,c1,c2,c3,c4,c5]
  intro τ13 H13
  exact⟨_,rfl,_,rfl,Hp.ownDelta (x:=x) (H13.sel [5,4,3,2,1,0] (by decide))⟩
 obtain⟨q,τ,R,r,rfl,h⟩:=key
 exact⟨r,τ,R,h⟩
set_option maxHeartbeats 1000000 in
theorem s_l13CopyUnit_ret (σ:St) (cs:List GV) (x:Unit_) (hR:kUnit_.R σ x cs) (hl:msUnit x≤1073741824):∃ r τ,Ret Tryz.prog n_s_l13CopyUnit [.agg cs] σ (.agg r) τ∧Hp σ τ [own kUnit_ r x]:=by
 obtain⟨kv,d0,d1,d2,d3,d4,d5,rfl,hA,hD⟩:=unit_cells hR
 have hma:msAct x.act≤1073741824∧msDelta x.delta≤1073741824:=by unfold msUnit at hl;omega
 have hkn:x.act.knew.length≤1073741824:=by have:=hma.1;unfold msAct at this;omega
 have key:∃ w τ,Ret Tryz.prog n_s_l13CopyUnit [.agg (unV x kv d0 d1 d2 d3 d4 d5)] σ w τ∧∃ r,w= .agg r∧Hp σ τ [own kUnit_ r x]:=by
  refine ret_x ir_s_l13CopyUnit (Nat.le_of_ble_eq_true rfl) (Hx.refl σ) ?_
  simp +contextual (disch:=omega) only[go_sem,F_s_l13CopyUnit]
  intro n1 f1 τ1 H1 n2 f2 τ2 H2
  obtain⟨a,τ3,R3,K3⟩:=s_l05Copy_ret τ2 _ x.act (kAct.pre hA H2.sub) (by omega)
  refine by_c H2 R3 K3 fun H3=> ?_
  obtain⟨ka,rfl,_⟩:=K3.rd 0 rfl
  simp +contextual (disch:=omega) only[go_sem]
  obtain⟨e,τ4,R4,K4⟩:=s_l11Copy_ret τ3 _ x.delta (kDelta.pre hD H3.sub) hma.2
  refine by_c H3 R4 K4 fun H4=> ?_
  obtain⟨e0,e1,e2,e3,e4,e5,rfl,_⟩:=K4.rd 0 rfl
  simp +contextual (disch:=omega) only[go_sem]
  intro τ5 H5
  exact⟨_,rfl,_,rfl,Hp.ownUnit_ (x:=x) (H5.sel [1,0] (by decide))⟩
 obtain⟨q,τ,R,r,rfl,h⟩:=key
 exact⟨r,τ,R,h⟩
set_option maxHeartbeats 1000000 in
theorem i_copyUnit_ret (σ:St) (cs:List GV) (x:Unit_) (hR:kUnit_.R σ x cs) (hl:msUnit x≤1073741824):∃ r τ,Ret Tryz.prog n_i_copyUnit [.agg cs] σ (.agg r) τ∧Hp σ τ [own kUnit_ r x]:=by
 obtain⟨kv,d0,d1,d2,d3,d4,d5,rfl,hA,hD⟩:=unit_cells hR
 have hma:msAct x.act≤1073741824∧msDelta x.delta≤1073741824:=by unfold msUnit at hl;omega
 have hkn:x.act.knew.length≤1073741824:=by have:=hma.1;unfold msAct at this;omega
 have key:∃ w τ,Ret Tryz.prog n_i_copyUnit [.agg (unV x kv d0 d1 d2 d3 d4 d5)] σ w τ∧∃ r,w= .agg r∧Hp σ τ [own kUnit_ r x]:=by
  refine ret_x ir_i_copyUnit (Nat.le_of_ble_eq_true rfl) (Hx.refl σ) ?_
  simp +contextual (disch:=omega) only[go_sem,F_i_copyUnit]
  intro n1 f1 τ1 H1 n2 f2 τ2 H2
  obtain⟨a,τ3,R3,K3⟩:=i_copyAct_ret τ2 _ x.act (kAct.pre hA H2.sub) (by omega)
  refine by_c H2 R3 K3 fun H3=> ?_
  obtain⟨ka,rfl,_⟩:=K3.rd 0 rfl
  simp +contextual (disch:=omega) only[go_sem]
  obtain⟨e,τ4,R4,K4⟩:=i_copyDelta_ret τ3 _ x.delta (kDelta.pre hD H3.sub) hma.2
  refine by_c H3 R4 K4 fun H4=> ?_
  obtain⟨e0,e1,e2,e3,e4,e5,rfl,_⟩:=K4.rd 0 rfl
  simp +contextual (disch:=omega) only[go_sem]
  intro τ5 H5
  exact⟨_,rfl,_,rfl,Hp.ownUnit_ (x:=x) (H5.sel [1,0] (by decide))⟩
 obtain⟨q,τ,R,r,rfl,h⟩:=key
 exact⟨r,τ,R,h⟩
set_option maxHeartbeats 1000000 in
theorem i_copyUnits_ret (σ:St) (v:GV) (l:List Unit_) (h:RS kUnit_ σ v l) (hl:l.length+sumL msUnit l≤1048576):∃ w τ,Ret Tryz.prog n_i_copyUnits [v] σ w τ∧Hp σ τ [ow kUnit_ w l]:=by
 refine ret_x ir_i_copyUnits (Nat.le_of_ble_eq_true rfl) (Hx.refl σ) ?_
 simp +contextual (disch:=omega) only[go_sem,F_i_copyUnits,h.len]
 intro n1 f1 τ1 H1
 refine sx_for l.length 9 0 (fun i env h=>env 7=v∧env 8=gi l.length∧∃ w,env 3=w∧h=[.th (ow kUnit_ w (l.take i))]) (fun env h=>∃ w,env 3=w∧h=[.th (ow kUnit_ w l)]) (fun _ _=>False) _ (H1.emp kUnit_ rfl) (by simp +contextual (disch:=omega) only[go_sem]) ⟨by simp +contextual (disch:=omega) only[go_sem],by simp +contextual (disch:=omega) only[go_sem],_,by simp +contextual (disch:=omega) only[go_sem],rfl⟩ ?_ ?_ ?_ (fun _ _ _ _ h=>h.elim)
 ·clear H1
  rintro J Y W hJ hY hW i env h' τ hi ei c0 H ⟨e7,e8,w,e3,rfl⟩
  obtain⟨kv,d0,d1,d2,d3,d4,d5,U,hU,hA,hD⟩:=unit_row h hi
  have hmu:msUnit l[i]≤sumL msUnit l:=sumL_mem (f:=msUnit) (List.getElem_mem hi)
  simp +contextual (disch:=omega) only[go_sem,c0,e7,e8,e3,ei,natOf_nat,U]
  intro n2 f2 τ2 _ τ3 H3
  obtain⟨q,τ4,R4,K4⟩:=i_copyUnit_ret τ3 _ l[i] (kUnit_.pre hU H3.sub) (by omega)
  have ql:q.length=17:=kUnit_.len (K4.rd 0 rfl)
  refine by_c H3 R4 K4 fun H4=> ?_
  simp +contextual (disch:=omega) only[go_sem,splice_full (cs:=zeU) ql rfl,ql,e3]
  intro n3 f3 τ5 H5
  refine by_appc H5 1 2 rfl rfl look_eq (by decide) (by rw[List.length_take];omega) fun w' τ6 H6=> ?_
  simp +contextual (disch:=omega) only[go_sem,ei]
  exact hJ _ _ _ _ (H6.re [2] (by decide)) ⟨by simp +contextual (disch:=omega) only[go_sem,e7],by simp +contextual (disch:=omega) only[go_sem,e8],w',by simp +contextual (disch:=omega) only[go_sem],by rw[take_snoc hi];rfl⟩
 ·clear H1
  rintro Y hY env h' τ ei c0 H ⟨e7,e8,w,e3,rfl⟩
  simp +contextual (disch:=omega) only[go_sem,c0,e8,ei]
  exact hY _ _ _ H ⟨w,e3,by rw[List.take_length]⟩
 ·rintro env h' τ H ⟨w,e3,rfl⟩
  simp +contextual (disch:=omega) only[go_sem,e3]
  exact fun _=>⟨_,rfl,H.hp⟩
end Go.Proofs.YtbeoiejnogdkpaaGreat.Sy
namespace Go.Proofs.YtbeoiejnogdkpaaGreat.Sy
open Go Go.RowKit
set_option linter.unusedSimpArgs false
set_option linter.unusedVariables false
set_option maxRecDepth 4000
abbrev n_i_sumOf:Nat:=107
def F_i_sumOf:Fn1:=⟨17,[.t 2],(.seq (.reg [o 2 (.mov (.k (.int .i64 0)))]) (.seq (.reg [o 3 (.mov (.k (.int .i64 0)))]) (.seq (.seq (.reg [o 6 (.mov (.t 0)),o 7 (.len false (.t 6)),o 8 (.mov (.k (.int .i64 0)))]) (.blk 0 (.lop (.seq (.reg [o 9 (.bin .lss (.t 8) (.t 7))]) (.seq (.cnd (.t 9) .skip (.ext 0)) (.seq (.blk 1 (.seq (.reg [o 10 (.iad 1 (.t 6) (.t 8)),o 11 (.ld false 1 (.t 10)),o 5 (.mov (.t 11))]) (.reg [o 12 (.mov (.t 3)),o 13 (.mov (.t 5)),o 14 (.bin .add (.t 12) (.t 13)),o 3 (.mov (.t 14))]))) (.reg [o 15 (.bin .add (.t 8) (.k (.int .i64 1))),o 8 (.mov (.t 15))]))))))) (.seq (.reg [o 16 (.mov (.t 3)),o 2 (.mov (.t 16))]) .ret))))⟩
theorem ir_i_sumOf:compFn Tryz.prog n_i_sumOf=some F_i_sumOf:=by kernel_rfl
abbrev n_s_l26Sum:Nat:=222
def F_s_l26Sum:Fn1:=⟨18,[.t 2],(.seq (.reg [o 2 (.mov (.k (.int .i64 0)))]) (.seq (.reg [o 3 (.mov (.k (.int .i64 0)))]) (.seq (.seq (.reg [o 4 (.mov (.k (.int .i64 0)))]) (.blk 0 (.lop (.seq (.seq (.reg [o 5 (.mov (.t 4)),o 6 (.mov (.t 0)),o 7 (.len false (.t 6)),o 8 (.bin .lss (.t 5) (.t 7))]) (.cnd (.t 8) .skip (.ext 0))) (.seq (.blk 1 (.reg [o 11 (.mov (.t 3)),o 12 (.mov (.t 0)),o 13 (.mov (.t 4)),o 14 (.iad 1 (.t 12) (.t 13)),o 15 (.ld false 1 (.t 14)),o 16 (.bin .add (.t 11) (.t 15)),o 3 (.mov (.t 16))])) (.reg [o 9 (.mov (.t 4)),o 10 (.bin .add (.t 9) (.k (.int .i64 1))),o 4 (.mov (.t 10))])))))) (.seq (.reg [o 17 (.mov (.t 3)),o 2 (.mov (.t 17))]) .ret))))⟩
theorem ir_s_l26Sum:compFn Tryz.prog n_s_l26Sum=some F_s_l26Sum:=by kernel_rfl
abbrev n_s_l26Less:Nat:=98
def F_s_l26Less:Fn1:=⟨26,[.t 4],(.seq (.reg [o 2 (.box (.t 0)),o 3 (.box (.t 1)),o 4 (.mov (.k (.bool false)))]) (.seq (.seq (.drw [o 5 (.fad 3 (.t 2)),o 6 (.ld false 1 (.t 5)),o 7 (.call 222 [(.t 6)]),o 8 (.fad 3 (.t 3)),o 9 (.ld false 1 (.t 8))] [o 10 (.call 222 [(.t 9)]),o 11 (.bin .neq (.t 7) (.t 10))]) (.cnd (.t 11) (.seq (.drw [o 12 (.fad 3 (.t 2)),o 13 (.ld false 1 (.t 12)),o 14 (.call 222 [(.t 13)]),o 15 (.fad 3 (.t 3)),o 16 (.ld false 1 (.t 15))] [o 17 (.call 222 [(.t 16)]),o 18 (.bin .lss (.t 14) (.t 17)),o 4 (.mov (.t 18))]) .ret) .skip)) (.seq (.reg [o 19 (.fad 0 (.t 2)),o 20 (.fad 0 (.t 19)),o 21 (.ld false 1 (.t 20)),o 22 (.fad 0 (.t 3)),o 23 (.fad 0 (.t 22)),o 24 (.ld false 1 (.t 23)),o 25 (.bin .lss (.t 21) (.t 24)),o 4 (.mov (.t 25))]) .ret)))⟩
theorem ir_s_l26Less:compFn Tryz.prog n_s_l26Less=some F_s_l26Less:=by kernel_rfl
abbrev n_i_ByOrder_f1:Nat:=104
def F_i_ByOrder_f1:Fn1:=⟨25,[.t 4],(.seq (.reg [o 2 (.box (.t 0)),o 3 (.box (.t 1)),o 4 (.mov (.k (.int .i64 0)))]) (.seq (.drw [o 5 (.fad 1 (.t 2)),o 6 (.fad 3 (.t 5)),o 7 (.ld false 1 (.t 6)),o 8 (.call 107 [(.t 7)]),o 9 (.fad 1 (.t 3)),o 10 (.fad 3 (.t 9)),o 11 (.ld false 1 (.t 10)),o 12 (.call 107 [(.t 11)]),o 13 (.call 106 [(.t 8),(.t 12)]),o 14 (.fad 1 (.t 2)),o 15 (.fad 0 (.t 14)),o 16 (.fad 0 (.t 15)),o 17 (.ld false 1 (.t 16)),o 18 (.fad 1 (.t 3)),o 19 (.fad 0 (.t 18)),o 20 (.fad 0 (.t 19)),o 21 (.ld false 1 (.t 20))] [o 22 (.call 106 [(.t 17),(.t 21)]),o 23 (.lit 1 2 [(.int .i64 0),(.int .i64 0)] [(0,1,(.t 13)),(1,1,(.t 22))]),o 24 (.call 105 [(.t 23)]),o 4 (.mov (.t 24))]) .ret))⟩
theorem ir_i_ByOrder_f1:compFn Tryz.prog n_i_ByOrder_f1=some F_i_ByOrder_f1:=by kernel_rfl
def sumW (l:List Int):Int:=l.foldl (fun a b=>IntKind.i64.wrap (a+b)) 0
theorem sumW_snoc {l:List Int} {i:Nat} (hi:i<l.length):sumW (l.take (i+1))=IntKind.i64.wrap (sumW (l.take i)+l[i]):=by
 unfold sumW;rw[take_snoc hi,List.foldl_append];rfl
theorem i_sumOf_ret (σ:St) (v:GV) (l:List Int) (h:RS pI.kd σ v l) (hl:l.length≤1099511627776):Ret Tryz.prog n_i_sumOf [v] σ (gi (sumW l)) σ:=by
 refine ret_xe ir_i_sumOf (Nat.le_of_ble_eq_true rfl) trivial ?_
 simp +contextual (disch:=omega) only[go_sem,F_i_sumOf,h.len]
 refine sx_for l.length 8 0 (fun i env h=>env 6=v∧env 7=gi l.length∧env 3=gi (sumW (l.take i))∧h=[]) (fun env h=>env 3=gi (sumW l)) (fun _ _=>False) _ (Hx.refl σ) (by simp +contextual (disch:=omega) only[go_sem]) ⟨by simp +contextual (disch:=omega) only[go_sem],by simp +contextual (disch:=omega) only[go_sem],by simp +contextual (disch:=omega) only[go_sem];rfl,rfl⟩ ?_ ?_ ?_ (fun _ _ _ _ h=>h.elim)
 ·rintro J Y W hJ hY hW i env h' τ hi ei c0 H ⟨e6,e7,e3,rfl⟩
  have L:=int_at h hi
  obtain⟨q,hq⟩:∃ q,q=sumW (l.take i):=⟨_,rfl⟩
  rw[← hq] at e3
  simp +contextual (disch:=omega) only[go_sem,c0,e6,e7,e3,ei,natOf_nat,L]
  exact hJ _ _ _ _ H ⟨by simp +contextual (disch:=omega) only[go_sem,e6],by simp +contextual (disch:=omega) only[go_sem,e7],by simp +contextual (disch:=omega) only[go_sem];rw[sumW_snoc hi,hq],rfl⟩
 ·rintro Y hY env h' τ ei c0 H ⟨e6,e7,e3,rfl⟩
  simp +contextual (disch:=omega) only[go_sem,c0,e7,ei]
  exact hY _ _ _ H (by simp +contextual (disch:=omega) only[go_sem,e3,List.take_length])
 ·rintro env h' τ H e3
  simp +contextual (disch:=omega) only[go_sem,e3]
theorem s_l26Sum_ret (σ:St) (v:GV) (l:List Int) (h:RS pI.kd σ v l) (hl:l.length≤1099511627776):Ret Tryz.prog n_s_l26Sum [v] σ (gi (sumW l)) σ:=by
 refine ret_xe ir_s_l26Sum (Nat.le_of_ble_eq_true rfl) trivial ?_
 simp +contextual (disch:=omega) only[go_sem,F_s_l26Sum,h.len]
 refine sx_for l.length 4 0 (fun i env h=>env 0=v∧env 3=gi (sumW (l.take i))∧h=[]) (fun env h=>env 3=gi (sumW l)) (fun _ _=>False) _ (Hx.refl σ) (by simp +contextual (disch:=omega) only[go_sem]) ⟨by simp +contextual (disch:=omega) only[go_sem],by simp +contextual (disch:=omega) only[go_sem];rfl,rfl⟩ ?_ ?_ ?_ (fun _ _ _ _ h=>h.elim)
 ·rintro J Y W hJ hY hW i env h' τ hi ei c0 H ⟨e0,e3,rfl⟩
  have L:=int_at h hi
  obtain⟨q,hq⟩:∃ q,q=sumW (l.take i):=⟨_,rfl⟩
  rw[← hq] at e3
  simp +contextual (disch:=omega) only[go_sem,c0,e0,e3,ei,natOf_nat,L,h.len]
  exact hJ _ _ _ _ H ⟨by simp +contextual (disch:=omega) only[go_sem,e0],by simp +contextual (disch:=omega) only[go_sem];rw[sumW_snoc hi,hq],rfl⟩
 ·rintro Y hY env h' τ ei c0 H ⟨e0,e3,rfl⟩
  simp +contextual (disch:=omega) only[go_sem,c0,e0,ei,h.len]
  exact hY _ _ _ H (by simp +contextual (disch:=omega) only[go_sem,e3,List.take_length])
 ·rintro env h' τ H e3
  simp +contextual (disch:=omega) only[go_sem,e3]
def lessA (a b:Act):Bool:=if sumW a.knew != sumW b.knew then decide (sumW a.knew<sumW b.knew) else decide (a.dot.rep<b.dot.rep)
def cmpU (a b:Unit_):Int:=orI (cmpI (sumW a.act.knew) (sumW b.act.knew)) (cmpI a.act.dot.rep b.act.dot.rep)
theorem cmpU_lt (a b:Unit_):decide (cmpU a b<0)=lessA a.act b.act:=by
 unfold cmpU lessA orI cmpI
 simp only[bne_iff_ne]
 repeat' split
 all_goals simp_all
 all_goals omega
theorem s_l26Less_ret (σ:St) (cs ds:List GV) (a b:Act) (hR:kAct.R σ a cs) (hS:kAct.R σ b ds) (hl:a.knew.length≤1099511627776) (hm:b.knew.length≤1099511627776):Ret Tryz.prog n_s_l26Less [.agg cs,.agg ds] σ (.bool (lessA a b)) σ:=by
 obtain⟨v,rfl,q⟩:=hR
 obtain⟨u,rfl,p⟩:=hS
 refine ret_xe ir_s_l26Less (Nat.le_of_ble_eq_true rfl) trivial ?_
 simp +contextual (disch:=omega) only[go_sem,F_s_l26Less]
 intro n1 f1 τ0 _ n2 f2 τ H
 have S:=H.sub
 refine by_r H (s_l26Sum_ret _ v _ (q.pre S) hl) ?_
 simp +contextual (disch:=omega) only[go_sem]
 refine by_r H (s_l26Sum_ret _ u _ (p.pre S) hm) ?_
 simp +contextual (disch:=omega) only[go_sem]
 cases hb:(sumW a.knew != sumW b.knew) with
 |true=>
  have e:lessA a b=decide (sumW a.knew<sumW b.knew):=by unfold lessA;rw[if_pos hb]
  simp +contextual (disch:=omega) only[go_sem,hb]
  refine by_r H (s_l26Sum_ret _ v _ (q.pre S) hl) ?_
  simp +contextual (disch:=omega) only[go_sem]
  refine by_r H (s_l26Sum_ret _ u _ (p.pre S) hm) ?_
  simp +contextual (disch:=omega) only[go_sem,e]
 |false=>
  have e:lessA a b=decide (a.dot.rep<b.dot.rep):=by unfold lessA;rw[if_neg (by simp[hb])]
  simp +contextual (disch:=omega) only[go_sem,hb,e]
theorem i_cmpU_ret (σ:St) (cs ds:List GV) (a b:Unit_) (hR:kUnit_.R σ a cs) (hS:kUnit_.R σ b ds) (hl:a.act.knew.length≤1099511627776) (hm:b.act.knew.length≤1099511627776):Ret Tryz.prog n_i_ByOrder_f1 [.agg cs,.agg ds] σ (gi (cmpU a b)) σ:=by
 obtain⟨v,c0,c1,c2,c3,c4,c5,rfl,⟨_,e1,q⟩,_⟩:=unit_cells hR
 obtain⟨u,d0,d1,d2,d3,d4,d5,rfl,⟨_,e2,p⟩,_⟩:=unit_cells hS
 cases e1
 cases e2
 refine ret_xe ir_i_ByOrder_f1 (Nat.le_of_ble_eq_true rfl) trivial ?_
 simp +contextual (disch:=omega) only[go_sem,F_i_ByOrder_f1]
 intro n1 f1 τ0 _ n2 f2 τ H
 have S:=H.sub
 refine by_r H (i_sumOf_ret _ v _ (q.pre S) hl) ?_
 simp +contextual (disch:=omega) only[go_sem]
 refine by_r H (i_sumOf_ret _ u _ (p.pre S) hm) ?_
 simp +contextual (disch:=omega) only[go_sem]
 refine by_r H (cmp_Compare_int_ret _ _ _) ?_
 simp +contextual (disch:=omega) only[go_sem]
 refine by_r H (cmp_Compare_int_ret _ _ _) ?_
 simp +contextual (disch:=omega) only[go_sem]
 intro n3 f3 τ3 H3
 refine by_r H3 (cmp_Or_int_ret _ _ [cmpI (sumW a.act.knew) (sumW b.act.knew),cmpI a.act.dot.rep b.act.dot.rep] ((Hp.toRow (p:=pI) H3.hp 0 rfl [cmpI (sumW a.act.knew) (sumW b.act.knew),cmpI a.act.dot.rep b.act.dot.rep] rfl rfl _ rfl).sl 0 rfl) (by simp)) ?_
 simp +contextual (disch:=omega) only[go_sem,orL_two]
 exact fun _=>rfl
end Go.Proofs.YtbeoiejnogdkpaaGreat.Sy
namespace Go.Proofs.YtbeoiejnogdkpaaGreat.Sy
open Go Go.RowKit
set_option linter.unusedSimpArgs false
set_option linter.unusedVariables false
set_option maxRecDepth 4000
abbrev n_s_ByOrder:Nat:=12
def F_s_ByOrder:Fn1:=⟨79,[.t 2,.t 3],(.seq (.reg [o 2 (.mov (.k .nilS)),o 3 (.mov (.k (.bool false)))]) (.seq (.reg [o 9 (.lit 17 0 [] []),o 4 (.mov (.t 9))]) (.seq (.seq (.reg [o 5 (.mov (.k (.int .i64 0)))]) (.blk 0 (.lop (.seq (.seq (.reg [o 10 (.mov (.t 5)),o 11 (.mov (.t 0)),o 12 (.len false (.t 11)),o 13 (.bin .lss (.t 10) (.t 12))]) (.cnd (.t 13) .skip (.ext 0))) (.seq (.blk 1 (.seq (.seq (.reg [o 16 (.mov (.t 0)),o 17 (.mov (.t 5)),o 18 (.iad 17 (.t 16) (.t 17)),o 19 (.fad 0 (.t 18)),o 20 (.ld false 1 (.t 19)),o 21 (.mov (.t 20)),og 22 21 false (.mov (.t 0)),og 23 21 false (.mov (.t 5)),og 24 21 false (.iad 17 (.t 22) (.t 23)),og 25 21 false (.ld true 17 (.t 24)),og 26 21 false (.call 97 [(.t 25)]),og 27 21 false (.un .not (.t 26)),o 28 (.pick (.t 21) (.k (.bool true)) (.t 27))]) (.cnd (.t 28) (.seq (.reg [o 29 (.lit 17 0 [] []),o 2 (.mov (.t 29)),o 3 (.mov (.k (.bool false)))]) .ret) .skip)) (.seq (.reg [o 30 (.lit 17 0 [] []),o 6 (.mov (.t 30))]) (.seq (.reg [o 7 (.mov (.k (.bool false)))]) (.seq (.seq (.reg [o 8 (.mov (.k (.int .i64 0)))]) (.blk 2 (.lop (.seq (.seq (.reg [o 31 (.mov (.t 8)),o 32 (.mov (.t 4)),o 33 (.len false (.t 32)),o 34 (.bin .lss (.t 31) (.t 33))]) (.cnd (.t 34) .skip (.ext 2))) (.seq (.blk 3 (.seq (.seq (.drw [o 37 (.mov (.t 7)),o 38 (.un .not (.t 37)),o 39 (.mov (.t 38)),og 40 39 true (.mov (.t 0)),og 41 39 true (.mov (.t 5)),og 42 39 true (.iad 17 (.t 40) (.t 41)),og 43 39 true (.fad 1 (.t 42)),og 44 39 true (.ld true 10 (.t 43)),og 45 39 true (.mov (.t 4)),og 46 39 true (.mov (.t 8)),og 47 39 true (.iad 17 (.t 45) (.t 46)),og 48 39 true (.fad 1 (.t 47)),og 49 39 true (.ld true 10 (.t 48))] [og 50 39 true (.call 98 [(.t 44),(.t 49)]),o 51 (.pick (.t 39) (.t 50) (.k (.bool false)))]) (.cnd (.t 51) (.seq (.reg [o 52 (.mov (.t 6)),o 53 (.mov (.t 0)),o 54 (.mov (.t 5)),o 55 (.iad 17 (.t 53) (.t 54)),o 56 (.ld true 17 (.t 55)),o 57 (.call 99 [(.t 56)]),o 58 (.lit 17 1 [(.bool false),(.int .i64 0),(.int .i64 0),(.int .i64 0),.nilS,(.int .i64 0),(.str ⟨#[]⟩),(.str ⟨#[]⟩),(.int .i64 0),(.int .i64 0),(.int .i64 0),.nilS,.nilS,.nilS,.nilS,.nilS,.nilS] [(0,17,(.t 57))]),o 59 (.app 17 264 [(.bool false),(.int .i64 0),(.int .i64 0),(.int .i64 0),.nilS,(.int .i64 0),(.str ⟨#[]⟩),(.str ⟨#[]⟩),(.int .i64 0),(.int .i64 0),(.int .i64 0),.nilS,.nilS,.nilS,.nilS,.nilS,.nilS] (.t 52) (.t 58)),o 6 (.mov (.t 59))]) (.reg [o 7 (.mov (.k (.bool true)))])) .skip)) (.reg [o 60 (.mov (.t 6)),o 61 (.mov (.t 4)),o 62 (.mov (.t 8)),o 63 (.iad 17 (.t 61) (.t 62)),o 64 (.ld true 17 (.t 63)),o 65 (.lit 17 1 [(.bool false),(.int .i64 0),(.int .i64 0),(.int .i64 0),.nilS,(.int .i64 0),(.str ⟨#[]⟩),(.str ⟨#[]⟩),(.int .i64 0),(.int .i64 0),(.int .i64 0),.nilS,.nilS,.nilS,.nilS,.nilS,.nilS] [(0,17,(.t 64))]),o 66 (.app 17 264 [(.bool false),(.int .i64 0),(.int .i64 0),(.int .i64 0),.nilS,(.int .i64 0),(.str ⟨#[]⟩),(.str ⟨#[]⟩),(.int .i64 0),(.int .i64 0),(.int .i64 0),.nilS,.nilS,.nilS,.nilS,.nilS,.nilS] (.t 60) (.t 65)),o 6 (.mov (.t 66))]))) (.reg [o 35 (.mov (.t 8)),o 36 (.bin .add (.t 35) (.k (.int .i64 1))),o 8 (.mov (.t 36))])))))) (.seq (.seq (.reg [o 67 (.mov (.t 7)),o 68 (.un .not (.t 67))]) (.cnd (.t 68) (.reg [o 69 (.mov (.t 6)),o 70 (.mov (.t 0)),o 71 (.mov (.t 5)),o 72 (.iad 17 (.t 70) (.t 71)),o 73 (.ld true 17 (.t 72)),o 74 (.call 99 [(.t 73)]),o 75 (.lit 17 1 [(.bool false),(.int .i64 0),(.int .i64 0),(.int .i64 0),.nilS,(.int .i64 0),(.str ⟨#[]⟩),(.str ⟨#[]⟩),(.int .i64 0),(.int .i64 0),(.int .i64 0),.nilS,.nilS,.nilS,.nilS,.nilS,.nilS] [(0,17,(.t 74))]),o 76 (.app 17 264 [(.bool false),(.int .i64 0),(.int .i64 0),(.int .i64 0),.nilS,(.int .i64 0),(.str ⟨#[]⟩),(.str ⟨#[]⟩),(.int .i64 0),(.int .i64 0),(.int .i64 0),.nilS,.nilS,.nilS,.nilS,.nilS,.nilS] (.t 69) (.t 75)),o 6 (.mov (.t 76))]) .skip)) (.reg [o 77 (.mov (.t 6)),o 4 (.mov (.t 77))]))))))) (.reg [o 14 (.mov (.t 5)),o 15 (.bin .add (.t 14) (.k (.int .i64 1))),o 5 (.mov (.t 15))])))))) (.seq (.reg [o 78 (.mov (.t 4)),o 2 (.mov (.t 78)),o 3 (.mov (.k (.bool true)))]) .ret))))⟩
theorem ir_s_ByOrder:compFn Tryz.prog n_s_ByOrder=some F_s_ByOrder:=by kernel_rfl
def fitU (u:Unit_):Bool:= !u.batch&&unitOk u
def lessU (x y:Unit_):Bool:=lessA x.act y.act
def allFit (us:List Unit_):Bool:=us.all fitU
def byOrder (us:List Unit_):List Unit_:=if allFit us then insAll lessU us else[]
def zmR (v w:GV) (acc nxt:List Unit_) (j:Nat) (h:List Item):Prop:=(∃ hj:j<acc.length,∃ cs,h=[.th (own kUnit_ cs acc[j]),.th (ow kUnit_ v nxt),.th (rst kUnit_ w acc j cs)])∨(j=acc.length∧h=[.th (ow kUnit_ v nxt),.th (rest kUnit_ w acc j)])
theorem zmR_of {σ τ:St} {v w:GV} {acc nxt:List Unit_} {j:Nat} (H:Hx σ τ [.th (ow kUnit_ v nxt),.th (rest kUnit_ w acc j)]) (hle:j≤acc.length):∃ h,Hx σ τ h∧zmR v w acc nxt j h:=by
 by_cases hj:j<acc.length
 ·obtain⟨cs,Z⟩:=Hp.toRst (H.hp.pick 1 rfl) hj
  exact⟨_,(Hx.of Z).re [0,2,1] (by decide),.inl ⟨hj,cs,rfl⟩⟩
 ·exact⟨_,H,.inr ⟨by omega,rfl⟩⟩
theorem fit_no {l:List Unit_} {i:Nat} (hi:i<l.length) (h:fitU l[i]=false):allFit l=false:=by
 unfold allFit
 rw[List.all_eq_false]
 exact⟨l[i],List.getElem_mem hi,by simp[h]⟩
theorem fit_snoc {l:List Unit_} {i:Nat} (hi:i<l.length) (ha:∀ j (hj:j<l.length),j<i→fitU l[j]=true) (h:fitU l[i]=true):∀ j (hj:j<l.length),j<i+1→fitU l[j]=true:=fun j hj hji=>by
 rcases Nat.lt_or_ge j i with h1|h1
 ·exact ha j hj h1
 ·have:j=i:=by omega
  subst this;exact h
theorem fit_all {l:List Unit_} (ha:∀ j (hj:j<l.length),j<l.length→fitU l[j]=true):allFit l=true:=by
 unfold allFit
 rw[List.all_eq_true]
 intro x hx
 obtain⟨i,hi,e⟩:=List.getElem_of_mem hx
 rw[← e];exact ha i hi hi
theorem ins_take {l:List Unit_} {i:Nat} (hi:i<l.length):insAll lessU (l.take (i+1))=insB lessU l[i] (insAll lessU (l.take i)):=by
 have:=insAll_take (lt:=lessU) (l:=l) (p:=fun _=>true) hi
 have e:∀ m:List Unit_,m.filter (fun _=>true)=m:=fun m=>List.filter_eq_self.2 fun _ _=>rfl
 rw[e,e] at this
 simpa using this
set_option maxHeartbeats 2000000 in
theorem s_ByOrder_x (σ:St) (v:GV) (l:List Unit_) (h:RS kUnit_ σ v l) (hl:l.length+sumL msUnit l≤1048576):∃ q τ,Ret Tryz.prog n_s_ByOrder [v] σ q τ∧∃ w,q= .tup [w,.bool (allFit l)]∧Hp σ τ [ow kUnit_ w (byOrder l)]:=by
 refine ret_x ir_s_ByOrder (Nat.le_of_ble_eq_true rfl) (Hx.refl σ) ?_
 simp +contextual (disch:=omega) only[go_sem,F_s_ByOrder]
 intro n1 f1 τ1 H1
 refine sx_for l.length 5 0 (fun i env h=>env 0=v∧(∀ j (hj:j<l.length),j<i→fitU l[j]=true)∧∃ w,env 4=w∧h=[.th (ow kUnit_ w (insAll lessU (l.take i)))]) (fun env h=>allFit l=true∧∃ w,env 4=w∧h=[.th (ow kUnit_ w (insAll lessU l))]) (fun env h=>allFit l=false∧∃ w,env 2=w∧env 3= .bool false∧h=[.th (ow kUnit_ w [])]) _ (H1.emp kUnit_ rfl) (by simp +contextual (disch:=omega) only[go_sem]) ⟨by simp +contextual (disch:=omega) only[go_sem],fun j hj hh=>by omega,_,by simp +contextual (disch:=omega) only[go_sem],rfl⟩ ?_ ?_ ?_ ?_
 ·skip
  rintro J Y W hJ hY hW i env h' τ hi ei c0 H ⟨e0,ha,w,e4,rfl⟩
  obtain⟨kv,d0,d1,d2,d3,d4,d5,U,hU,hA,hD⟩:=unit_row h hi
  have hmu:msUnit l[i]≤sumL msUnit l:=sumL_mem (f:=msUnit) (List.getElem_mem hi)
  have hkn:l[i].act.knew.length≤msUnit l[i]:=by unfold msUnit msAct;omega
  cases hb:l[i].batch with
  |true=>
   have hf:fitU l[i]=false:=by simp[fitU,hb]
   simp +contextual (disch:=omega) only[go_sem,c0,e0,e4,ei,natOf_nat,h.len,U,hb]
   intro n2 f2 τ2 H2
   refine hW _ _ _ ((H2.emp kUnit_ rfl).re [0] (by decide)) ⟨fit_no hi hf,_,by simp +contextual (disch:=omega) only[go_sem],by simp +contextual (disch:=omega) only[go_sem],rfl⟩
  |false=>
   simp +contextual (disch:=omega) only[go_sem,c0,e0,e4,ei,natOf_nat,h.len,U,hb]
   refine by_b H (s_l13Unit_ret _ _ l[i] (kUnit_.pre hU H.sub) (by omega)) (fun h1=> ?_) (fun h1=> ?_)
   rotate_left
   ·have hf:fitU l[i]=false:=by simp[fitU,hb,h1]
    simp +contextual (disch:=omega) only[go_sem,c0,e0,e4,ei]
    intro n2 f2 τ2 H2
    refine hW _ _ _ ((H2.emp kUnit_ rfl).re [0] (by decide)) ⟨fit_no hi hf,_,by simp +contextual (disch:=omega) only[go_sem],by simp +contextual (disch:=omega) only[go_sem],rfl⟩
   have hf:fitU l[i]=true:=by simp[fitU,hb,h1]
   simp +contextual (disch:=omega) only[go_sem,c0,e0,e4,ei]
   intro n2 f2 τ2 H2
   obtain⟨acc,hacc⟩:∃ acc,acc=insAll lessU (l.take i):=⟨_,rfl⟩
   rw[← hacc] at H H2
   have hmem:∀ x∈acc,x∈l:=fun x hx=>by rw[hacc] at hx;exact List.mem_of_mem_take ((insAll_perm _ _).mem_iff.1 hx)
   have hnext:insAll lessU (l.take (i+1))=insB lessU l[i] acc:=by rw[hacc];exact ins_take hi
   have hal:acc.length≤l.length:=by
    have:=insAll_bd (lt:=lessU) (l:=l) (p:=fun _=>true) (i:=i)
    have e:(l.take i).filter (fun _=>true)=l.take i:=List.filter_eq_self.2 fun _ _=>rfl
    rw[e] at this;rw[hacc];exact this
   have hwl:lenG false w=some (acc.length:Int):=(H.hp.sl 0 rfl).len
   have H3:Hx σ τ2 [.th (ow kUnit_ (.sl n2 0 0) []),.th (rest kUnit_ w acc 0)]:=(Hx.of (Hp.toRest (((H2.emp kUnit_ rfl).re [1,0] (by decide)).hp))).re [1,0] (by decide)
   obtain⟨hz,HZ,Z0⟩:=zmR_of H3 (by omega)
   refine sx_for acc.length 8 2 (fun j env h=>env 0=v∧env 5=gi i∧env 4=w∧∃ w6 nxt put,env 6=w6∧env 7= .bool put∧insG lessU l[i] acc nxt j put∧zmR w6 w acc nxt j h) (fun env h=>env 0=v∧env 5=gi i∧∃ w6 nxt put,env 6=w6∧env 7= .bool put∧insG lessU l[i] acc nxt acc.length put∧h=[.th (ow kUnit_ w6 nxt)]) (fun _ _=>False) hz HZ (by simp +contextual (disch:=omega) only[go_sem]) ⟨by simp +contextual (disch:=omega) only[go_sem,e0],by simp +contextual (disch:=omega) only[go_sem,ei],by simp +contextual (disch:=omega) only[go_sem,e4],_,[],false,by simp +contextual (disch:=omega) only[go_sem],by simp +contextual (disch:=omega) only[go_sem],insG_nil,Z0⟩ ?_ ?_ ?_ (fun _ _ _ _ h=>h.elim)
   ·clear H H1 H2 H3 HZ Z0
    rintro J2 Y2 W2 hJ2 hY2 hW2 j env h' τ hj ej c0 H ⟨e0,ei,e4,w6,nxt,put,e6,e7,hI,hz⟩
    rcases hz with⟨_,cs,rfl⟩|⟨hz,_⟩
    rotate_left
    ·omega
    have hcu:=H.hp.rd 0 rfl
    have hcl:cs.length=17:=kUnit_.len hcu
    obtain⟨ku,b0,b1,b2,b3,b4,b5,hcs,hAu,hDu⟩:=unit_cells hcu
    obtain⟨z1,z2,z3,z4,z5⟩:=H.rst_rd 2 rfl hj
    have z1:iadG 17 w (some j)=some (atz 17 w j):=z1
    have z2:∀ k,fadG k (atz 17 w j)=some (fld k (atz 17 w j)):=z2
    have z4:ldX σ [.th (own kUnit_ cs acc[j]),.th (ow kUnit_ w6 nxt),.th (rst kUnit_ w acc j cs)] τ true 17 (atz 17 w j)=some (.agg cs):=ldX_own H z4
    have z5:ldX σ [.th (own kUnit_ cs acc[j]),.th (ow kUnit_ w6 nxt),.th (rst kUnit_ w acc j cs)] τ true 10 (fld 1 (atz 17 w j))=some (.agg (actV acc[j].act ku)):=ldX_own H (by
     have z6:ldG true 10 τ (fld 1 (atz 17 w j))=(seg cs 1 10).bind (mkv true):=z5 1 10 true (by decide)
     rw[z6,hcs];rfl)
    have hnl:=insG_len hI
    have S:=H.sub
    have hacc:acc.length=(l.take i).length:=by rw[hacc,insAll_length]
    have hact:acc.length<l.length:=by rw[hacc,List.length_take];omega
    have fin:∀(w7:GV) (nx:List Unit_) (b:List Item) (τ:St),Hx σ τ [.th (ow kUnit_ w7 nx),.th (rst kUnit_ w acc j cs)]→∃ hz,Hx σ τ hz∧zmR w7 w acc nx (j+1) hz:=fun w7 nx b τ H=>by
     have H2:Hx σ τ [.th (ow kUnit_ w7 nx),.th (rest kUnit_ w acc (j+1))]:=(Hx.of (Hp.ofRst ((H.re [1,0] (by decide)).hp))).re [1,0] (by decide)
     exact zmR_of H2 (by omega)
    have mu:msUnit l[i]≤1048576:=by omega
    cases put with
    |true=>
     simp +contextual (disch:=omega) only[go_sem,c0,e0,ei,e4,e6,e7,ej,natOf_nat,hwl,z1,z2,z4,z5,U,splice_full (cs:=zeU) hcl rfl,hcl]
     intro n3 f3 τ3 H3
     refine by_appc H3 1 1 rfl rfl look_eq (by decide) (by omega) fun w7 τ4 H4=> ?_
     simp +contextual (disch:=omega) only[go_sem,e0,ei,e4,e6,e7,ej]
     obtain⟨hz,HZ,Z0⟩:=fin w7 (nxt++[acc[j]]) [] τ4 (H4.re [1,2] (by decide))
     exact hJ2 _ _ _ _ HZ ⟨by simp +contextual (disch:=omega) only[go_sem,e0],by simp +contextual (disch:=omega) only[go_sem,ei],by simp +contextual (disch:=omega) only[go_sem,e4],w7,nxt++[acc[j]],true,by simp +contextual (disch:=omega) only[go_sem],by simp +contextual (disch:=omega) only[go_sem,e7],insG_step hI hj (.inl rfl),Z0⟩
    |false=>
     simp +contextual (disch:=omega) only[go_sem,c0,e0,ei,e4,e6,e7,ej,natOf_nat,hwl,z1,z2,z4,z5,U]
     refine by_r H (s_l26Less_ret τ _ _ l[i].act acc[j].act (kAct.pre hA S) hAu (by omega) (by
      have h1:msUnit acc[j]≤sumL msUnit l:=sumL_mem (f:=msUnit) (hmem _ (List.getElem_mem hj))
      have h2:acc[j].act.knew.length≤msUnit acc[j]:=by unfold msUnit msAct;omega
      omega)) ?_
     cases hlt:lessA l[i].act acc[j].act with
     |false=>
      simp +contextual (disch:=omega) only[go_sem,c0,e0,ei,e4,e6,e7,ej,natOf_nat,hwl,z1,z2,z4,z5,U,hlt,splice_full (cs:=zeU) hcl rfl,hcl]
      intro n3 f3 τ3 H3
      refine by_appc H3 1 1 rfl rfl look_eq (by decide) (by omega) fun w7 τ4 H4=> ?_
      simp +contextual (disch:=omega) only[go_sem,e0,ei,e4,e6,e7,ej]
      obtain⟨hz,HZ,Z0⟩:=fin w7 (nxt++[acc[j]]) [] τ4 (H4.re [1,2] (by decide))
      exact hJ2 _ _ _ _ HZ ⟨by simp +contextual (disch:=omega) only[go_sem,e0],by simp +contextual (disch:=omega) only[go_sem,ei],by simp +contextual (disch:=omega) only[go_sem,e4],w7,nxt++[acc[j]],false,by simp +contextual (disch:=omega) only[go_sem],by simp +contextual (disch:=omega) only[go_sem,e7],insG_step hI hj (.inr hlt),Z0⟩
     |true=>
      simp +contextual (disch:=omega) only[go_sem,c0,e0,ei,e4,e6,e7,ej,natOf_nat,hwl,z1,z2,z4,z5,U,hlt]
      obtain⟨q,τ3,R3,K3⟩:=s_l13CopyUnit_ret τ _ l[i] (kUnit_.pre hU S) (by omega)
      have ql:q.length=17:=kUnit_.len (K3.rd 0 rfl)
      refine by_c H R3 K3 fun H3=> ?_
      simp +contextual (disch:=omega) only[go_sem,splice_full (cs:=zeU) ql rfl,ql,e0,ei,e4,e6,e7,ej]
      intro n4 f4 τ4 H4
      refine by_appc H4 1 2 rfl rfl look_eq (by decide) (by omega) fun w7 τ5 H5=> ?_
      obtain⟨y1,_,_,y4,_⟩:=H5.rst_rd 3 rfl hj
      have y1:iadG 17 w (some j)=some (atz 17 w j):=y1
      have y4:ldX σ [.box 17 n4 q,.th (own kUnit_ cs acc[j]),.th (ow kUnit_ w7 (nxt++[l[i]])),.th (rst kUnit_ w acc j cs)] τ5 true 17 (atz 17 w j)=some (.agg cs):=ldX_own H5 y4
      simp +contextual (disch:=omega) only[go_sem,e0,ei,e4,e6,e7,ej,natOf_nat,y1,y4,splice_full (cs:=zeU) hcl rfl,hcl]
      intro n6 f6 τ6 H6
      refine by_appc H6 2 2 rfl rfl look_eq (by decide) (by simp only[List.length_append,List.length_singleton];omega) fun w8 τ7 H7=> ?_
      simp +contextual (disch:=omega) only[go_sem,e0,ei,e4,e6,e7,ej]
      obtain⟨hz,HZ,Z0⟩:=fin w8 (nxt++[l[i]]++[acc[j]]) [] τ7 (H7.re [2,3] (by decide))
      exact hJ2 _ _ _ _ HZ ⟨by simp +contextual (disch:=omega) only[go_sem,e0],by simp +contextual (disch:=omega) only[go_sem,ei],by simp +contextual (disch:=omega) only[go_sem,e4],w8,nxt++[l[i]]++[acc[j]],true,by simp +contextual (disch:=omega) only[go_sem],by simp +contextual (disch:=omega) only[go_sem],insG_put hI hj hlt,Z0⟩
   ·skip
    rintro Y2 hY2 env h' τ ej c0 H ⟨e0,ei,e4,w6,nxt,put,e6,e7,hI,hz⟩
    rcases hz with⟨hj,_⟩|⟨_,rfl⟩
    ·omega
    simp +contextual (disch:=omega) only[go_sem,c0,e4,ej,hwl]
    exact hY2 _ _ _ (H.re [0] (by decide)) ⟨by simp +contextual (disch:=omega) only[go_sem,e0],by simp +contextual (disch:=omega) only[go_sem,ei],w6,nxt,put,by simp +contextual (disch:=omega) only[go_sem,e6],by simp +contextual (disch:=omega) only[go_sem,e7],hI,rfl⟩
   ·skip
    rintro env h' τ H ⟨e0,ei,w6,nxt,put,e6,e7,hI,rfl⟩
    have hE:=insG_end hI
    have hnl:=insG_len hI
    cases put with
    |true=>
     rw[if_pos rfl] at hE
     simp +contextual (disch:=omega) only[go_sem,e0,ei,e6,e7]
     exact hJ _ _ _ _ H ⟨by simp +contextual (disch:=omega) only[go_sem,e0],fit_snoc hi ha hf,w6,by simp +contextual (disch:=omega) only[go_sem],by rw[hnext,hE]⟩
    |false=>
     rw[if_neg (by simp)] at hE
     simp +contextual (disch:=omega) only[go_sem,e0,ei,e6,e7,natOf_nat,U]
     obtain⟨q,τ3,R3,K3⟩:=s_l13CopyUnit_ret τ _ l[i] (kUnit_.pre hU H.sub) (by omega)
     have ql:q.length=17:=kUnit_.len (K3.rd 0 rfl)
     refine by_c H R3 K3 fun H3=> ?_
     simp +contextual (disch:=omega) only[go_sem,splice_full (cs:=zeU) ql rfl,ql,e0,ei,e6,e7]
     intro n4 f4 τ4 H4
     refine by_appc H4 1 1 rfl rfl look_eq (by decide) (by omega) fun w7 τ5 H5=> ?_
     simp +contextual (disch:=omega) only[go_sem,e0,ei,e6,e7]
     exact hJ _ _ _ _ (H5.re [1] (by decide)) ⟨by simp +contextual (disch:=omega) only[go_sem,e0],fit_snoc hi ha hf,w7,by simp +contextual (disch:=omega) only[go_sem],by rw[hnext,←hE];rfl⟩
 ·skip
  rintro Y hY env h' τ ei c0 H ⟨e0,ha,w,e4,rfl⟩
  simp +contextual (disch:=omega) only[go_sem,c0,e0,ei,h.len]
  exact hY _ _ _ H ⟨fit_all ha,w,e4,by rw[List.take_length]⟩
 ·rintro env h' τ H ⟨hf,w,e4,rfl⟩
  have hb:byOrder l=insAll lessU l:=by unfold byOrder;rw[if_pos hf]
  have nt:=RdN.notup (H.hp.sl 0 rfl)
  simp +contextual (disch:=omega) only[go_sem,e4,hf,nt]
  exact fun _=>⟨_,rfl,_,rfl,by rw[hb];exact H.hp⟩
 ·rintro env h' τ H ⟨hf,w,e2,e3,rfl⟩
  have hb:byOrder l=[]:=by unfold byOrder;rw[if_neg (by simp[hf])]
  have nt:=RdN.notup (H.hp.sl 0 rfl)
  simp +contextual (disch:=omega) only[go_sem,e2,e3,hf,nt]
  exact fun _=>⟨_,rfl,_,rfl,by rw[hb];exact H.hp⟩
end Go.Proofs.YtbeoiejnogdkpaaGreat.Sy
namespace Go.Proofs.YtbeoiejnogdkpaaGreat.Sy
open Go Go.RowKit Go.Sort
set_option linter.unusedSimpArgs false
set_option linter.unusedVariables false
set_option maxRecDepth 4000
abbrev n_slices_swapRangeCmpFunc_impl_Unit:Nat:=391
def F_slices_swapRangeCmpFunc_impl_Unit:Fn1:=⟨38,[],(.seq (.reg [o 10 (.mov (.k (.int .i64 0)))]) (.blk 0 (.lop (.seq (.seq (.reg [o 11 (.mov (.t 10)),o 12 (.mov (.t 3)),o 13 (.bin .lss (.t 11) (.t 12))]) (.cnd (.t 13) .skip (.ext 0))) (.seq (.blk 1 (.drw [] [o 16 (.mov (.t 0)),o 17 (.mov (.t 1)),o 18 (.mov (.t 10)),o 19 (.bin .add (.t 17) (.t 18)),o 20 (.mov (.t 0)),o 21 (.mov (.t 2)),o 22 (.mov (.t 10)),o 23 (.bin .add (.t 21) (.t 22)),o 24 (.mov (.t 0)),o 25 (.mov (.t 2)),o 26 (.mov (.t 10)),o 27 (.bin .add (.t 25) (.t 26)),o 28 (.iad 17 (.t 24) (.t 27)),o 29 (.ld true 17 (.t 28)),o 30 (.mov (.t 0)),o 31 (.mov (.t 1)),o 32 (.mov (.t 10)),o 33 (.bin .add (.t 31) (.t 32)),o 34 (.iad 17 (.t 30) (.t 33)),o 35 (.ld true 17 (.t 34)),o 36 (.iad 17 (.t 16) (.t 19)),on (.st 17 (.t 36) (.t 29)),o 37 (.iad 17 (.t 20) (.t 23)),on (.st 17 (.t 37) (.t 35))])) (.reg [o 14 (.mov (.t 10)),o 15 (.bin .add (.t 14) (.k (.int .i64 1))),o 10 (.mov (.t 15))]))))))⟩
theorem ir_slices_swapRangeCmpFunc_impl_Unit:compFnM true Tryz.prog n_slices_swapRangeCmpFunc_impl_Unit=some F_slices_swapRangeCmpFunc_impl_Unit:=by kernel_rfl
abbrev n_slices_rotateCmpFunc_impl_Unit:Nat:=370
def F_slices_rotateCmpFunc_impl_Unit:Fn1:=⟨58,[],(.seq (.reg [o 12 (.mov (.t 2)),o 13 (.mov (.t 1)),o 14 (.bin .sub (.t 12) (.t 13)),o 10 (.mov (.t 14))]) (.seq (.reg [o 15 (.mov (.t 3)),o 16 (.mov (.t 2)),o 17 (.bin .sub (.t 15) (.t 16)),o 11 (.mov (.t 17))]) (.seq (.blk 0 (.lop (.seq (.seq (.reg [o 18 (.mov (.t 10)),o 19 (.mov (.t 11)),o 20 (.bin .neq (.t 18) (.t 19))]) (.cnd (.t 20) .skip (.ext 0))) (.blk 1 (.seq (.reg [o 21 (.mov (.t 10)),o 22 (.mov (.t 11)),o 23 (.bin .gtr (.t 21) (.t 22))]) (.cnd (.t 23) (.seq (.reg [o 24 (.mov (.t 0)),o 25 (.mov (.t 2)),o 26 (.mov (.t 10)),o 27 (.bin .sub (.t 25) (.t 26)),o 28 (.mov (.t 2)),o 29 (.mov (.t 11)),o 30 (.mov (.t 4)),o 31 (.call 391 [(.t 24),(.t 27),(.t 28),(.t 29),(.t 30)])]) (.reg [o 32 (.mov (.t 10)),o 33 (.mov (.t 11)),o 34 (.bin .sub (.t 32) (.t 33)),o 10 (.mov (.t 34))])) (.seq (.reg [o 35 (.mov (.t 0)),o 36 (.mov (.t 2)),o 37 (.mov (.t 10)),o 38 (.bin .sub (.t 36) (.t 37)),o 39 (.mov (.t 2)),o 40 (.mov (.t 11)),o 41 (.bin .add (.t 39) (.t 40)),o 42 (.mov (.t 10)),o 43 (.bin .sub (.t 41) (.t 42)),o 44 (.mov (.t 10)),o 45 (.mov (.t 4)),o 46 (.call 391 [(.t 35),(.t 38),(.t 43),(.t 44),(.t 45)])]) (.reg [o 47 (.mov (.t 11)),o 48 (.mov (.t 10)),o 49 (.bin .sub (.t 47) (.t 48)),o 11 (.mov (.t 49))])))))))) (.reg [o 50 (.mov (.t 0)),o 51 (.mov (.t 2)),o 52 (.mov (.t 10)),o 53 (.bin .sub (.t 51) (.t 52)),o 54 (.mov (.t 2)),o 55 (.mov (.t 10)),o 56 (.mov (.t 4)),o 57 (.call 391 [(.t 50),(.t 53),(.t 54),(.t 55),(.t 56)])]))))⟩
theorem ir_slices_rotateCmpFunc_impl_Unit:compFn Tryz.prog n_slices_rotateCmpFunc_impl_Unit=some F_slices_rotateCmpFunc_impl_Unit:=by kernel_rfl
abbrev n_slices_insertionSortCmpFunc_impl_Unit:Nat:=312
def F_slices_insertionSortCmpFunc_impl_Unit:Fn1:=⟨53,[],(.seq (.reg [o 10 (.mov (.t 1)),o 11 (.bin .add (.t 10) (.k (.int .i64 1))),o 8 (.mov (.t 11))]) (.blk 0 (.lop (.seq (.seq (.reg [o 12 (.mov (.t 8)),o 13 (.mov (.t 2)),o 14 (.bin .lss (.t 12) (.t 13))]) (.cnd (.t 14) .skip (.ext 0))) (.seq (.blk 1 (.seq (.reg [o 17 (.mov (.t 8)),o 9 (.mov (.t 17))]) (.blk 2 (.lop (.seq (.seq (.drw [o 18 (.mov (.t 9)),o 19 (.mov (.t 1)),o 20 (.bin .gtr (.t 18) (.t 19)),o 21 (.mov (.t 20)),og 22 21 true (.mov (.t 3)),og 23 21 true (.mov (.t 0)),og 24 21 true (.mov (.t 9)),og 25 21 true (.iad 17 (.t 23) (.t 24)),og 26 21 true (.ld true 17 (.t 25)),og 27 21 true (.mov (.t 0)),og 28 21 true (.mov (.t 9)),og 29 21 true (.bin .sub (.t 28) (.k (.int .i64 1))),og 30 21 true (.iad 17 (.t 27) (.t 29)),og 31 21 true (.ld true 17 (.t 30))] [og 32 21 true (.callv (.t 22) [(.t 26),(.t 31)]),og 33 21 true (.bin .lss (.t 32) (.k (.int .i64 0))),o 34 (.pick (.t 21) (.t 33) (.k (.bool false)))]) (.cnd (.t 34) .skip (.ext 2))) (.seq (.blk 3 (.drw [] [o 37 (.mov (.t 0)),o 38 (.mov (.t 9)),o 39 (.mov (.t 0)),o 40 (.mov (.t 9)),o 41 (.bin .sub (.t 40) (.k (.int .i64 1))),o 42 (.mov (.t 0)),o 43 (.mov (.t 9)),o 44 (.bin .sub (.t 43) (.k (.int .i64 1))),o 45 (.iad 17 (.t 42) (.t 44)),o 46 (.ld true 17 (.t 45)),o 47 (.mov (.t 0)),o 48 (.mov (.t 9)),o 49 (.iad 17 (.t 47) (.t 48)),o 50 (.ld true 17 (.t 49)),o 51 (.iad 17 (.t 37) (.t 38)),on (.st 17 (.t 51) (.t 46)),o 52 (.iad 17 (.t 39) (.t 41)),on (.st 17 (.t 52) (.t 50))])) (.reg [o 35 (.mov (.t 9)),o 36 (.bin .sub (.t 35) (.k (.int .i64 1))),o 9 (.mov (.t 36))]))))))) (.reg [o 15 (.mov (.t 8)),o 16 (.bin .add (.t 15) (.k (.int .i64 1))),o 8 (.mov (.t 16))]))))))⟩
theorem ir_slices_insertionSortCmpFunc_impl_Unit:compFnM true Tryz.prog n_slices_insertionSortCmpFunc_impl_Unit=some F_slices_insertionSortCmpFunc_impl_Unit:=by kernel_rfl
def UC:Type:={p:Unit_×List GV // p.2.length=17}
def pU:Pl UC:=⟨17,fun x=>x.1.2,fun x=>x.2⟩
def ltU (x y:UC):Bool:=lessU x.1.1 y.1.1
theorem lessA_swo:SWO (fun a b:Unit_=>lessU a b) where
 irrefl:=fun a=>by simp[lessU,lessA]
 trans:=fun a b c h k=>by
  simp only[lessU,lessA] at*
  split at h<;>split at k<;>split<;>simp_all<;>omega
 ntrans:=fun a b c h k=>by
  simp only[lessU,lessA] at*
  split at h<;>split at k<;>split<;>simp_all<;>omega
theorem ltU_swo:SWO ltU where
 irrefl:=fun a=>lessA_swo.irrefl _
 trans:=fun a b c h k=>lessA_swo.trans _ _ _ h k
 ntrans:=fun a b c h k=>lessA_swo.ntrans _ _ _ h k
section
variable {σ0 σ τ:St} {v g:GV} {L L0:List UC} {R:List Item} {a b m n:Nat}
theorem U_own {h:List Item} (H:Hx σ0 τ h) (i:Nat) (hi:h[i]? =some (.th (ow pU.kd v L))) {j:Nat} (hj:j<L.length):iadG 17 v (some j)=some (atz 17 v j)∧ldX σ0 h τ true 17 (atz 17 v j)=some (.agg (pU.enc L[j])):=by
 obtain⟨p1,-,-,p4,-⟩:=own_at H i hi hj
 exact⟨p1,p4⟩
theorem set2_at' {β:Type} {L:List β} {p q:Nat} (hp:p<L.length) (hq:q<L.length) (hpq:q<p):ga ((L.set p L[q]).set q L[p])=swF (ga L) q p 1:=by
 rw[List.set_comm _ _ (by omega),set2_at hq hp hpq]
theorem swr_ret (H:Hx σ0 σ (.th (ow pU.kd v L)::R)) (hab:a+n≤b) (hb:b+n≤L.length) (hs:L.length≤1099511627776):∃ q τ,Ret Tryz.prog n_slices_swapRangeCmpFunc_impl_Unit [v,gi a,gi b,gi n,g] σ q τ∧q= .tup []∧∃ M,Hx σ0 τ (.th (ow pU.kd v M)::R)∧M.length=L.length∧ga M=swF (ga L) a b n:=by
 refine ret_x ir_slices_swapRangeCmpFunc_impl_Unit (Nat.le_of_ble_eq_true rfl) H ?_
 simp +contextual (disch:=omega) only[go_sem,F_slices_swapRangeCmpFunc_impl_Unit]
 refine sx_for n 10 0 (fun i env h=>env 0=v∧env 1=gi a∧env 2=gi b∧env 3=gi n∧∃ M,M.length=L.length∧ga M=swF (ga L) a b i∧h= .th (ow pU.kd v M)::R) (fun env h=>∃ M,M.length=L.length∧ga M=swF (ga L) a b n∧h= .th (ow pU.kd v M)::R) (fun _ _=>False) _ H (by simp +contextual (disch:=omega) only[go_sem]) ⟨by simp +contextual (disch:=omega) only[go_sem],by simp +contextual (disch:=omega) only[go_sem],by simp +contextual (disch:=omega) only[go_sem],by simp +contextual (disch:=omega) only[go_sem],L,rfl,(sw_zero _).symm,rfl⟩ ?_ ?_ ?_ (fun _ _ _ _ h=>h.elim)
 ·rintro J Y W hJ hY hW i env h' τ hi ei c0 H ⟨e0,e1,e2,e3,M,hM,hE,rfl⟩
  have hp:a+i<M.length:=by omega
  have hq:b+i<M.length:=by omega
  obtain⟨p1,p4⟩:=U_own H 0 rfl hp
  obtain⟨q1,q4⟩:=U_own H 0 rfl hq
  have n1:natOf (some (.int .i64 ((a:Int)+i)))=some (a+i):=natOf_of (by simp)
  have n2:natOf (some (.int .i64 ((b:Int)+i)))=some (b+i):=natOf_of (by simp)
  simp +contextual (disch:=omega) only[go_sem,c0,e0,e1,e2,e3,ei,n1,n2,p1,p4,q1,q4]
  refine by_stw H 0 rfl hp M[b+i] rfl rfl (by decide) fun τ1 H1=> ?_
  simp +contextual (disch:=omega) only[go_sem,c0,e0,e1,e2,e3,ei,n1,n2,p1,p4,q1,q4]
  refine by_stw H1 0 rfl (by simpa using hq) M[a+i] rfl rfl (by decide) fun τ2 H2=> ?_
  simp +contextual (disch:=omega) only[go_sem,e0,e1,e2,e3,ei]
  exact hJ _ _ _ _ H2 ⟨by simp +contextual (disch:=omega) only[go_sem,e0],by simp +contextual (disch:=omega) only[go_sem,e1],by simp +contextual (disch:=omega) only[go_sem,e2],by simp +contextual (disch:=omega) only[go_sem,e3],_,by simp[hM],by rw[set2_at hp hq (by omega),hE];exact sw_more _ (by omega),rfl⟩
 ·rintro Y hY env h' τ ej c0 H ⟨e0,e1,e2,e3,M,hM,hE,rfl⟩
  simp +contextual (disch:=omega) only[go_sem,c0,e3,ej]
  exact hY _ _ _ H ⟨M,hM,hE,rfl⟩
 ·rintro env h' τ H ⟨M,hM,hE,rfl⟩
  simp +contextual (disch:=omega) only[go_sem]
  exact fun _=>⟨_,rfl,rfl,M,H,hM,hE⟩
theorem rotU_ret (H:Hx σ0 σ (.th (ow pU.kd v L)::R)) (ham:a<m) (hmb:m<b) (hb:b≤L.length) (hs:L.length≤1099511627776):∃ q τ,Ret Tryz.prog n_slices_rotateCmpFunc_impl_Unit [v,gi a,gi m,gi b,g] σ q τ∧q= .tup []∧∃ M,Hx σ0 τ (.th (ow pU.kd v M)::R)∧M.length=L.length∧ga M=rotF (ga L) a m b:=by
 refine ret_x ir_slices_rotateCmpFunc_impl_Unit (Nat.le_of_ble_eq_true rfl) H ?_
 obtain⟨i0,hi0⟩:∃ q:Nat,q=m - a:=⟨_,rfl⟩
 obtain⟨j0,hj0⟩:∃ q:Nat,q=b - m:=⟨_,rfl⟩
 have s1:(m:Int) - a=i0:=by omega
 have s2:(b:Int) - m=j0:=by omega
 simp +contextual (disch:=omega) only[go_sem,F_slices_rotateCmpFunc_impl_Unit,s1,s2]
 refine sx_lop (i0+j0) 0 (fun k env h=>env 0=v∧env 2=gi m∧env 4=g∧∃(i j:Nat) (M:List UC),env 10=gi i∧env 11=gi j∧k=i+j∧0<i∧0<j∧i≤i0∧j≤j0∧M.length=L.length∧rotF (ga M) (m - i) m (m+j)=rotF (ga L) a m b∧h= .th (ow pU.kd v M)::R) (fun env h=>env 0=v∧env 2=gi m∧env 4=g∧∃(i:Nat) (M:List UC),env 10=gi i∧0<i∧i≤i0∧i≤j0∧M.length=L.length∧swF (ga M) (m - i) m i=rotF (ga L) a m b∧h= .th (ow pU.kd v M)::R) (fun _ _=>False) _ H ⟨by simp +contextual (disch:=omega) only[go_sem],by simp +contextual (disch:=omega) only[go_sem],by simp +contextual (disch:=omega) only[go_sem],i0,j0,L,by simp +contextual (disch:=omega) only[go_sem],by simp +contextual (disch:=omega) only[go_sem],rfl,by omega,by omega,by omega,by omega,rfl,by rw[hi0,hj0,show m - (m - a)=a by omega,show m+(b - m)=b by omega],rfl⟩ ?_ ?_ (fun _ _ _ _ h=>h.elim)
 ·rintro J Y W hJ hY hW k env h' τ H ⟨e0,e2,e4,i,j,M,e10,e11,rfl,hi,hj,hi',hj',hM,hE,rfl⟩
  rcases Nat.lt_trichotomy i j with hl|rfl|hl
  ·have c1:((i:Int) != j)=true:=by simp;omega
   have c2:decide ((j:Int)<i)=false:=by simp;omega
   have s3:(m:Int) - i=((m - i:Nat):Int):=by omega
   have s4:(m:Int)+j - i=((m+j - i:Nat):Int):=by omega
   have s5:(j:Int) - i=((j - i:Nat):Int):=by omega
   obtain⟨x1,hx1⟩:∃ q:Nat,q=m - i:=⟨_,rfl⟩
   obtain⟨x2,hx2⟩:∃ q:Nat,q=m+j - i:=⟨_,rfl⟩
   obtain⟨x3,hx3⟩:∃ q:Nat,q=j - i:=⟨_,rfl⟩
   rw[← hx1] at s3;rw[← hx2] at s4;rw[← hx3] at s5
   simp +contextual (disch:=omega) only[go_sem,e0,e2,e4,e10,e11,c1,c2,s3,s4,s5]
   obtain⟨_,τ1,R1,rfl,N,H1,hN,hE1⟩:=swr_ret (g:=g) (a:=x1) (b:=x2) (n:=i) H (by omega) (by omega) (by omega)
   refine by_m R1 H1 ?_
   simp +contextual (disch:=omega) only[go_sem,e0,e2,e4,e10,e11,s5]
   refine⟨i+x3,by omega,hJ _ _ _ _ H1 ⟨by simp +contextual (disch:=omega) only[go_sem,e0],by simp +contextual (disch:=omega) only[go_sem,e2],by simp +contextual (disch:=omega) only[go_sem,e4],i,x3,N,by simp +contextual (disch:=omega) only[go_sem,e10],by simp +contextual (disch:=omega) only[go_sem],rfl,hi,by omega,hi',by omega,by omega,?_,rfl⟩⟩
   rw[hE1,hx1,hx2,hx3,rot_lt _ (by omega) hl,hE]
  ·have c1:((i:Int) != i)=false:=by simp
   simp +contextual (disch:=omega) only[go_sem,e0,e2,e4,e10,e11,c1]
   exact hY _ _ _ H ⟨by simp +contextual (disch:=omega) only[go_sem,e0],by simp +contextual (disch:=omega) only[go_sem,e2],by simp +contextual (disch:=omega) only[go_sem,e4],i,M,by simp +contextual (disch:=omega) only[go_sem,e10],hi,hi',hj',hM,by rw[rot_eq _ (by omega)];exact hE,rfl⟩
  ·have c1:((i:Int) != j)=true:=by simp;omega
   have c2:decide ((j:Int)<i)=true:=by simp;omega
   have s3:(m:Int) - i=((m - i:Nat):Int):=by omega
   have s5:(i:Int) - j=((i - j:Nat):Int):=by omega
   obtain⟨x1,hx1⟩:∃ q:Nat,q=m - i:=⟨_,rfl⟩
   obtain⟨x3,hx3⟩:∃ q:Nat,q=i - j:=⟨_,rfl⟩
   rw[← hx1] at s3;rw[← hx3] at s5
   simp +contextual (disch:=omega) only[go_sem,e0,e2,e4,e10,e11,c1,c2,s3,s5]
   obtain⟨_,τ1,R1,rfl,N,H1,hN,hE1⟩:=swr_ret (g:=g) (a:=x1) (b:=m) (n:=j) H (by omega) (by omega) (by omega)
   refine by_m R1 H1 ?_
   simp +contextual (disch:=omega) only[go_sem,e0,e2,e4,e10,e11,s5]
   refine⟨x3+j,by omega,hJ _ _ _ _ H1 ⟨by simp +contextual (disch:=omega) only[go_sem,e0],by simp +contextual (disch:=omega) only[go_sem,e2],by simp +contextual (disch:=omega) only[go_sem,e4],x3,j,N,by simp +contextual (disch:=omega) only[go_sem],by simp +contextual (disch:=omega) only[go_sem,e11],rfl,by omega,hj,by omega,hj',by omega,?_,rfl⟩⟩
   rw[hE1,hx1,hx3,rot_gt _ (by omega) hl,hE]
 ·rintro env h' τ H ⟨e0,e2,e4,i,M,e10,hi,hi',hj',hM,hE,rfl⟩
  have s3:(m:Int) - i=((m - i:Nat):Int):=by omega
  obtain⟨x1,hx1⟩:∃ q:Nat,q=m - i:=⟨_,rfl⟩
  rw[← hx1] at s3
  simp +contextual (disch:=omega) only[go_sem,e0,e2,e4,e10,s3]
  obtain⟨_,τ1,R1,rfl,N,H1,hN,hE1⟩:=swr_ret (g:=g) (a:=x1) (b:=m) (n:=i) H (by omega) (by omega) (by omega)
  refine by_m R1 H1 ?_
  simp +contextual (disch:=omega) only[go_sem]
  exact fun _=>⟨_,rfl,rfl,N,H1,by omega,by rw[hE1,hx1,hE]⟩
theorem rot_id1 {β:Type} (f:Nat→β) {i:Nat}:rotF f i i (i+1)=f:=rot_id2 f
def CallU (σ0:St) (R:List Item) (L0:List UC):Prop:=∀ τ v L,Hx σ0 τ (.th (ow pU.kd v L)::R)→∀ x∈L0,∀ y∈L0,Ret Tryz.prog n_i_ByOrder_f1 [.agg (pU.enc x),.agg (pU.enc y)] τ (gi (cmpU x.1.1 y.1.1)) τ
theorem ltU_eq (x y:UC):decide (cmpU x.1.1 y.1.1<0)=ltU x y:=cmpU_lt _ _
theorem rot_lo {β:Type} (f:Nat→β) {j i t:Nat} (h:t<j):rotF f j i (i+1) t=f t:=by simp only[rotF];rw[if_neg (by omega),if_neg (by omega)]
theorem rot_hd {β:Type} (f:Nat→β) {j i:Nat} (h:j≤i):rotF f j i (i+1) j=f i:=by simp only[rotF];rw[if_pos (by omega)];congr 1;omega
theorem insU_ret (C:CallU σ0 R L0) (H:Hx σ0 σ (.th (ow pU.kd v L)::R)) (hm:∀ x∈L,x∈L0) (hab:a≤b) (hb:b≤L.length) (hs:L.length≤1099511627776):∃ q τ,Ret Tryz.prog n_slices_insertionSortCmpFunc_impl_Unit [v,gi a,gi b,.fn n_i_ByOrder_f1 []] σ q τ∧q= .tup []∧∃ M,Hx σ0 τ (.th (ow pU.kd v M)::R)∧Outs ltU L M a b:=by
 refine ret_x ir_slices_insertionSortCmpFunc_impl_Unit (Nat.le_of_ble_eq_true rfl) H ?_
 simp +contextual (disch:=omega) only[go_sem,F_slices_insertionSortCmpFunc_impl_Unit]
 refine sx_lop (b - (a+1)) 0 (fun k env h=>env 0=v∧env 1=gi a∧env 2=gi b∧env 3= .fn n_i_ByOrder_f1 []∧∃(i:Nat) (M:List UC),env 8=gi i∧k=b - i∧a+1≤i∧(i≤b∨i=a+1)∧M.length=L.length∧Sim ltU L M∧Frm (ga L) (ga M) a b∧Srt ltU (ga M) a i∧h= .th (ow pU.kd v M)::R) (fun env h=>∃ M,Outs ltU L M a b∧h= .th (ow pU.kd v M)::R) (fun _ _=>False) _ H ⟨by simp +contextual (disch:=omega) only[go_sem],by simp +contextual (disch:=omega) only[go_sem],by simp +contextual (disch:=omega) only[go_sem],by simp +contextual (disch:=omega) only[go_sem],a+1,L,by simp +contextual (disch:=omega) only[go_sem],rfl,by omega,.inr rfl,rfl,Sim.refl _,Frm.refl _ _ _,Srt.one (by omega),rfl⟩ ?_ ?_ (fun _ _ _ _ h=>h.elim)
 ·rintro J Y W hJ hY hW k env h' τ H ⟨e0,e1,e2,e3,i,M,e8,rfl,hi1,hi2,hM,hS,hF,hT,rfl⟩
  rcases Nat.lt_or_ge i b with hi|hi
  ·have c0:decide ((i:Int)<b)=true:=by simp;omega
   have hml:i<M.length:=by omega
   have hx:ga M i=some M[i]:=ga_some hml
   have hmM:∀ x∈M,x∈L0:=fun x hx=>hm x ((Sim.perm ltU_swo hS).mem_iff.2 hx)
   simp +contextual (disch:=omega) only[go_sem,c0,e0,e1,e2,e3,e8]
   refine sx_lop i 2 (fun k env h=>env 0=v∧env 1=gi a∧env 2=gi b∧env 3= .fn n_i_ByOrder_f1 []∧env 8=gi i∧env 9=gi k∧a≤k∧k≤i∧(∀ t y,k≤t→t<i→ga M t=some y→ltU M[i] y=true)∧∃ N:List UC,N.length=L.length∧ga N=rotF (ga M) k i (i+1)∧h= .th (ow pU.kd v N)::R) (fun env h=>env 0=v∧env 1=gi a∧env 2=gi b∧env 3= .fn n_i_ByOrder_f1 []∧env 8=gi i∧∃ N:List UC,N.length=L.length∧Sim ltU L N∧Frm (ga L) (ga N) a b∧Srt ltU (ga N) a (i+1)∧h= .th (ow pU.kd v N)::R) (fun _ _=>False) _ H ⟨by simp +contextual (disch:=omega) only[go_sem,e0],by simp +contextual (disch:=omega) only[go_sem,e1],by simp +contextual (disch:=omega) only[go_sem,e2],by simp +contextual (disch:=omega) only[go_sem,e3],by simp +contextual (disch:=omega) only[go_sem,e8],by simp +contextual (disch:=omega) only[go_sem],by omega,by omega,fun t y h1 h2=>by omega,M,hM,(rot_id1 _).symm,rfl⟩ ?_ ?_ (fun _ _ _ _ h=>h.elim)
   ·clear H e0 e1 e2 e3 e8
    rintro J2 Y2 W2 hJ2 hY2 hW2 j env h' τ H ⟨e0,e1,e2,e3,e8,e9,haj,hji,hp,N,hN,hE,rfl⟩
    have fin:(a<j→∀ y,ga M (j - 1)=some y→ltU M[i] y=false)→Sim ltU L N∧Frm (ga L) (ga N) a b∧Srt ltU (ga N) a (i+1):=fun h2=>by
     refine⟨hS.trans (ins_sim ltU_swo hji hml hx hp hE),hF.trans ?_,?_⟩
     ·rw[hE];exact(Frm.rot _ hji (Nat.le_succ i)).wide haj (by omega)
     ·rw[hE];exact ins_parts ltU_swo haj hji hx (fun t h1 h2=>⟨_,ga_some (by omega)⟩) hT hp h2
    rcases Nat.lt_or_ge a j with hc|hc
    ·have c1:decide ((a:Int)<j)=true:=by simp;omega
     obtain⟨t,rfl⟩:∃ t,j=t+1:=⟨j - 1,by omega⟩
     have n1:natOf (some (.int .i64 ((t:Int)+1)))=some (t+1):=natOf_of (by simp)
     have m1:(t:Int)+1 - 1=t:=by omega
     have c1:decide ((a:Int)<(t:Int)+1)=true:=c1
     have e9:env 9=gi ((t:Int)+1):=e9
     have h1:t+1<N.length:=by omega
     have h0:t<N.length:=by omega
     have k1:N[t+1]=M[i]:=by
      have:=congrFun hE (t+1)
      rw[rot_hd _ hji,hx,ga_some h1] at this
      exact Option.some.inj this
     have k0:ga M t=some N[t]:=by
      have:=congrFun hE t
      rw[rot_lo _ (by omega),ga_some h0] at this
      exact this.symm
     obtain⟨p1,p4⟩:=U_own H 0 rfl h1
     obtain⟨q1,q4⟩:=U_own H 0 rfl h0
     have R1:=C _ _ _ H N[t+1] (by rw[k1];exact hmM _ (List.getElem_mem _)) N[t] (hmM _ (by
      have e:M[t]'(by omega)=N[t]:=Option.some.inj ((ga_some (by omega)).symm.trans k0)
      rw[← e];exact List.getElem_mem _))
     have kl:=ltU_eq N[t+1] N[t]
     simp +contextual (disch:=omega) only[go_sem,e0,e1,e2,e3,e8,e9,c1,n1,m1,natOf_nat,p1,p4,q1,q4]
     refine by_r H R1 ?_
     cases hl:ltU N[t+1] N[t] with
     |true=>
      simp +contextual (disch:=omega) only[go_sem,e0,e1,e2,e3,e8,e9,c1,n1,m1,natOf_nat,p1,p4,q1,q4,kl,hl]
      refine by_stw H 0 rfl h1 N[t] rfl rfl (by decide) fun τ1 H1=> ?_
      simp +contextual (disch:=omega) only[go_sem,e0,e1,e2,e3,e8,e9,c1,n1,m1,natOf_nat,p1,p4,q1,q4]
      refine by_stw H1 0 rfl (by simpa using h0) N[t+1] rfl rfl (by decide) fun τ2 H2=> ?_
      simp +contextual (disch:=omega) only[go_sem,e0,e1,e2,e3,e8,e9,m1]
      refine⟨t,by omega,hJ2 _ _ _ _ H2 ⟨by simp +contextual (disch:=omega) only[go_sem,e0],by simp +contextual (disch:=omega) only[go_sem,e1],by simp +contextual (disch:=omega) only[go_sem,e2],by simp +contextual (disch:=omega) only[go_sem,e3],by simp +contextual (disch:=omega) only[go_sem,e8],by simp +contextual (disch:=omega) only[go_sem],by omega,by omega,fun u y h1 h2 hu=> ?_,_,by simp[hN],by rw[set2_at' h1 h0 (by omega),hE];exact rot_dn _ (by omega),rfl⟩⟩
      rcases Nat.lt_or_ge t u with h|h
      ·exact hp u y (by omega) h2 hu
      ·have:u=t:=by omega
       subst this
       rw[k0] at hu;cases hu
       rw[← k1];exact hl
     |false=>
      simp +contextual (disch:=omega) only[go_sem,e0,e1,e2,e3,e8,e9,c1,n1,m1,kl,hl]
      obtain⟨f1,f2,f3⟩:=fin fun _ y hy=>by
       rw[show t+1 - 1=t from rfl,k0] at hy;cases hy
       rw[← k1];exact hl
      exact hY2 _ _ _ H ⟨by simp +contextual (disch:=omega) only[go_sem,e0],by simp +contextual (disch:=omega) only[go_sem,e1],by simp +contextual (disch:=omega) only[go_sem,e2],by simp +contextual (disch:=omega) only[go_sem,e3],by simp +contextual (disch:=omega) only[go_sem,e8],N,hN,f1,f2,f3,rfl⟩
    ·have c1:decide ((a:Int)<j)=false:=by simp;omega
     simp +contextual (disch:=omega) only[go_sem,e0,e1,e2,e3,e8,e9,c1]
     obtain⟨f1,f2,f3⟩:=fin fun h=>by omega
     exact hY2 _ _ _ H ⟨by simp +contextual (disch:=omega) only[go_sem,e0],by simp +contextual (disch:=omega) only[go_sem,e1],by simp +contextual (disch:=omega) only[go_sem,e2],by simp +contextual (disch:=omega) only[go_sem,e3],by simp +contextual (disch:=omega) only[go_sem,e8],N,hN,f1,f2,f3,rfl⟩
   ·clear H e0 e1 e2 e3 e8
    rintro env h' τ H ⟨e0,e1,e2,e3,e8,N,hN,f1,f2,f3,rfl⟩
    simp +contextual (disch:=omega) only[go_sem,e0,e1,e2,e3,e8]
    exact⟨b - (i+1),by omega,hJ _ _ _ _ H ⟨by simp +contextual (disch:=omega) only[go_sem,e0],by simp +contextual (disch:=omega) only[go_sem,e1],by simp +contextual (disch:=omega) only[go_sem,e2],by simp +contextual (disch:=omega) only[go_sem,e3],i+1,N,by simp +contextual (disch:=omega) only[go_sem],rfl,by omega,.inl (by omega),hN,f1,f2,f3,rfl⟩⟩
  ·have c0:decide ((i:Int)<b)=false:=by simp;omega
   simp +contextual (disch:=omega) only[go_sem,c0,e0,e1,e2,e3,e8]
   exact hY _ _ _ H ⟨M,⟨hM,hS,hF,fun p q y z h1 h2 h3=>hT p q y z h1 h2 (by omega)⟩,rfl⟩
 ·rintro env h' τ H ⟨M,hO,rfl⟩
  simp +contextual (disch:=omega) only[go_sem]
  exact fun _=>⟨_,rfl,rfl,M,H,hO⟩
end
end Go.Proofs.YtbeoiejnogdkpaaGreat.Sy
namespace Go.Proofs.YtbeoiejnogdkpaaGreat.Sy
open Go Go.RowKit Go.Sort
set_option linter.unusedSimpArgs false
set_option linter.unusedVariables false
set_option maxRecDepth 4000
abbrev n_slices_symMergeCmpFunc_impl_Unit:Nat:=313
def F_slices_symMergeCmpFunc_impl_Unit:Fn1:=⟨220,[],(.seq (.seq (.reg [o 25 (.mov (.t 2)),o 26 (.mov (.t 1)),o 27 (.bin .sub (.t 25) (.t 26)),o 28 (.bin .eql (.t 27) (.k (.int .i64 1)))]) (.cnd (.t 28) (.seq (.reg [o 29 (.mov (.t 2)),o 10 (.mov (.t 29))]) (.seq (.reg [o 30 (.mov (.t 3)),o 11 (.mov (.t 30))]) (.seq (.blk 0 (.lop (.seq (.seq (.reg [o 31 (.mov (.t 10)),o 32 (.mov (.t 11)),o 33 (.bin .lss (.t 31) (.t 32))]) (.cnd (.t 33) .skip (.ext 0))) (.blk 1 (.seq (.reg [o 34 (.mov (.t 10)),o 35 (.mov (.t 11)),o 36 (.bin .add (.t 34) (.t 35)),o 37 (.cvi .u64 (.t 36)),o 38 (.bin .shr (.t 37) (.k (.int .u64 1))),o 39 (.cvi .i64 (.t 38)),o 12 (.mov (.t 39))]) (.seq (.drw [] [o 40 (.mov (.t 4)),o 41 (.mov (.t 0)),o 42 (.mov (.t 12)),o 43 (.iad 17 (.t 41) (.t 42)),o 44 (.ld true 17 (.t 43)),o 45 (.mov (.t 0)),o 46 (.mov (.t 1)),o 47 (.iad 17 (.t 45) (.t 46)),o 48 (.ld true 17 (.t 47)),o 49 (.callv (.t 40) [(.t 44),(.t 48)]),o 50 (.bin .lss (.t 49) (.k (.int .i64 0)))]) (.cnd (.t 50) (.reg [o 51 (.mov (.t 12)),o 52 (.bin .add (.t 51) (.k (.int .i64 1))),o 10 (.mov (.t 52))]) (.reg [o 53 (.mov (.t 12)),o 11 (.mov (.t 53))])))))))) (.seq (.seq (.reg [o 54 (.mov (.t 1)),o 13 (.mov (.t 54))]) (.blk 2 (.lop (.seq (.seq (.reg [o 55 (.mov (.t 13)),o 56 (.mov (.t 10)),o 57 (.bin .sub (.t 56) (.k (.int .i64 1))),o 58 (.bin .lss (.t 55) (.t 57))]) (.cnd (.t 58) .skip (.ext 2))) (.seq (.blk 3 (.drw [] [o 61 (.mov (.t 0)),o 62 (.mov (.t 13)),o 63 (.mov (.t 0)),o 64 (.mov (.t 13)),o 65 (.bin .add (.t 64) (.k (.int .i64 1))),o 66 (.mov (.t 0)),o 67 (.mov (.t 13)),o 68 (.bin .add (.t 67) (.k (.int .i64 1))),o 69 (.iad 17 (.t 66) (.t 68)),o 70 (.ld true 17 (.t 69)),o 71 (.mov (.t 0)),o 72 (.mov (.t 13)),o 73 (.iad 17 (.t 71) (.t 72)),o 74 (.ld true 17 (.t 73)),o 75 (.iad 17 (.t 61) (.t 62)),on (.st 17 (.t 75) (.t 70)),o 76 (.iad 17 (.t 63) (.t 65)),on (.st 17 (.t 76) (.t 74))])) (.reg [o 59 (.mov (.t 13)),o 60 (.bin .add (.t 59) (.k (.int .i64 1))),o 13 (.mov (.t 60))])))))) .ret)))) .skip)) (.seq (.seq (.reg [o 77 (.mov (.t 3)),o 78 (.mov (.t 2)),o 79 (.bin .sub (.t 77) (.t 78)),o 80 (.bin .eql (.t 79) (.k (.int .i64 1)))]) (.cnd (.t 80) (.seq (.reg [o 81 (.mov (.t 1)),o 14 (.mov (.t 81))]) (.seq (.reg [o 82 (.mov (.t 2)),o 15 (.mov (.t 82))]) (.seq (.blk 4 (.lop (.seq (.seq (.reg [o 83 (.mov (.t 14)),o 84 (.mov (.t 15)),o 85 (.bin .lss (.t 83) (.t 84))]) (.cnd (.t 85) .skip (.ext 4))) (.blk 5 (.seq (.reg [o 86 (.mov (.t 14)),o 87 (.mov (.t 15)),o 88 (.bin .add (.t 86) (.t 87)),o 89 (.cvi .u64 (.t 88)),o 90 (.bin .shr (.t 89) (.k (.int .u64 1))),o 91 (.cvi .i64 (.t 90)),o 16 (.mov (.t 91))]) (.seq (.drw [] [o 92 (.mov (.t 4)),o 93 (.mov (.t 0)),o 94 (.mov (.t 2)),o 95 (.iad 17 (.t 93) (.t 94)),o 96 (.ld true 17 (.t 95)),o 97 (.mov (.t 0)),o 98 (.mov (.t 16)),o 99 (.iad 17 (.t 97) (.t 98)),o 100 (.ld true 17 (.t 99)),o 101 (.callv (.t 92) [(.t 96),(.t 100)]),o 102 (.bin .lss (.t 101) (.k (.int .i64 0))),o 103 (.un .not (.t 102))]) (.cnd (.t 103) (.reg [o 104 (.mov (.t 16)),o 105 (.bin .add (.t 104) (.k (.int .i64 1))),o 14 (.mov (.t 105))]) (.reg [o 106 (.mov (.t 16)),o 15 (.mov (.t 106))])))))))) (.seq (.seq (.reg [o 107 (.mov (.t 2)),o 17 (.mov (.t 107))]) (.blk 6 (.lop (.seq (.seq (.reg [o 108 (.mov (.t 17)),o 109 (.mov (.t 14)),o 110 (.bin .gtr (.t 108) (.t 109))]) (.cnd (.t 110) .skip (.ext 6))) (.seq (.blk 7 (.drw [] [o 113 (.mov (.t 0)),o 114 (.mov (.t 17)),o 115 (.mov (.t 0)),o 116 (.mov (.t 17)),o 117 (.bin .sub (.t 116) (.k (.int .i64 1))),o 118 (.mov (.t 0)),o 119 (.mov (.t 17)),o 120 (.bin .sub (.t 119) (.k (.int .i64 1))),o 121 (.iad 17 (.t 118) (.t 120)),o 122 (.ld true 17 (.t 121)),o 123 (.mov (.t 0)),o 124 (.mov (.t 17)),o 125 (.iad 17 (.t 123) (.t 124)),o 126 (.ld true 17 (.t 125)),o 127 (.iad 17 (.t 113) (.t 114)),on (.st 17 (.t 127) (.t 122)),o 128 (.iad 17 (.t 115) (.t 117)),on (.st 17 (.t 128) (.t 126))])) (.reg [o 111 (.mov (.t 17)),o 112 (.bin .sub (.t 111) (.k (.int .i64 1))),o 17 (.mov (.t 112))])))))) .ret)))) .skip)) (.seq (.reg [o 129 (.mov (.t 1)),o 130 (.mov (.t 3)),o 131 (.bin .add (.t 129) (.t 130)),o 132 (.cvi .u64 (.t 131)),o 133 (.bin .shr (.t 132) (.k (.int .u64 1))),o 134 (.cvi .i64 (.t 133)),o 18 (.mov (.t 134))]) (.seq (.reg [o 135 (.mov (.t 18)),o 136 (.mov (.t 2)),o 137 (.bin .add (.t 135) (.t 136)),o 19 (.mov (.t 137))]) (.seq (.reg [o 20 (.mov (.k (.int .i64 0))),o 21 (.mov (.k (.int .i64 0)))]) (.seq (.seq (.reg [o 138 (.mov (.t 2)),o 139 (.mov (.t 18)),o 140 (.bin .gtr (.t 138) (.t 139))]) (.cnd (.t 140) (.seq (.reg [o 141 (.mov (.t 19)),o 142 (.mov (.t 3)),o 143 (.bin .sub (.t 141) (.t 142)),o 20 (.mov (.t 143))]) (.reg [o 144 (.mov (.t 18)),o 21 (.mov (.t 144))])) (.seq (.reg [o 145 (.mov (.t 1)),o 20 (.mov (.t 145))]) (.reg [o 146 (.mov (.t 2)),o 21 (.mov (.t 146))])))) (.seq (.reg [o 147 (.mov (.t 19)),o 148 (.bin .sub (.t 147) (.k (.int .i64 1))),o 22 (.mov (.t 148))]) (.seq (.blk 8 (.lop (.seq (.seq (.reg [o 149 (.mov (.t 20)),o 150 (.mov (.t 21)),o 151 (.bin .lss (.t 149) (.t 150))]) (.cnd (.t 151) .skip (.ext 8))) (.blk 9 (.seq (.reg [o 152 (.mov (.t 20)),o 153 (.mov (.t 21)),o 154 (.bin .add (.t 152) (.t 153)),o 155 (.cvi .u64 (.t 154)),o 156 (.bin .shr (.t 155) (.k (.int .u64 1))),o 157 (.cvi .i64 (.t 156)),o 23 (.mov (.t 157))]) (.seq (.drw [] [o 158 (.mov (.t 4)),o 159 (.mov (.t 0)),o 160 (.mov (.t 22)),o 161 (.mov (.t 23)),o 162 (.bin .sub (.t 160) (.t 161)),o 163 (.iad 17 (.t 159) (.t 162)),o 164 (.ld true 17 (.t 163)),o 165 (.mov (.t 0)),o 166 (.mov (.t 23)),o 167 (.iad 17 (.t 165) (.t 166)),o 168 (.ld true 17 (.t 167)),o 169 (.callv (.t 158) [(.t 164),(.t 168)]),o 170 (.bin .lss (.t 169) (.k (.int .i64 0))),o 171 (.un .not (.t 170))]) (.cnd (.t 171) (.reg [o 172 (.mov (.t 23)),o 173 (.bin .add (.t 172) (.k (.int .i64 1))),o 20 (.mov (.t 173))]) (.reg [o 174 (.mov (.t 23)),o 21 (.mov (.t 174))])))))))) (.seq (.reg [o 175 (.mov (.t 19)),o 176 (.mov (.t 20)),o 177 (.bin .sub (.t 175) (.t 176)),o 24 (.mov (.t 177))]) (.seq (.seq (.reg [o 178 (.mov (.t 20)),o 179 (.mov (.t 2)),o 180 (.bin .lss (.t 178) (.t 179)),o 181 (.mov (.t 180)),og 182 181 true (.mov (.t 2)),og 183 181 true (.mov (.t 24)),og 184 181 true (.bin .lss (.t 182) (.t 183)),o 185 (.pick (.t 181) (.t 184) (.k (.bool false)))]) (.cnd (.t 185) (.reg [o 186 (.mov (.t 0)),o 187 (.mov (.t 20)),o 188 (.mov (.t 2)),o 189 (.mov (.t 24)),o 190 (.mov (.t 4)),o 191 (.call 370 [(.t 186),(.t 187),(.t 188),(.t 189),(.t 190)])]) .skip)) (.seq (.seq (.reg [o 192 (.mov (.t 1)),o 193 (.mov (.t 20)),o 194 (.bin .lss (.t 192) (.t 193)),o 195 (.mov (.t 194)),og 196 195 true (.mov (.t 20)),og 197 195 true (.mov (.t 18)),og 198 195 true (.bin .lss (.t 196) (.t 197)),o 199 (.pick (.t 195) (.t 198) (.k (.bool false)))]) (.cnd (.t 199) (.reg [o 200 (.mov (.t 0)),o 201 (.mov (.t 1)),o 202 (.mov (.t 20)),o 203 (.mov (.t 18)),o 204 (.mov (.t 4)),o 205 (.call 313 [(.t 200),(.t 201),(.t 202),(.t 203),(.t 204)])]) .skip)) (.seq (.reg [o 206 (.mov (.t 18)),o 207 (.mov (.t 24)),o 208 (.bin .lss (.t 206) (.t 207)),o 209 (.mov (.t 208)),og 210 209 true (.mov (.t 24)),og 211 209 true (.mov (.t 3)),og 212 209 true (.bin .lss (.t 210) (.t 211)),o 213 (.pick (.t 209) (.t 212) (.k (.bool false)))]) (.cnd (.t 213) (.reg [o 214 (.mov (.t 0)),o 215 (.mov (.t 18)),o 216 (.mov (.t 24)),o 217 (.mov (.t 3)),o 218 (.mov (.t 4)),o 219 (.call 313 [(.t 214),(.t 215),(.t 216),(.t 217),(.t 218)])]) .skip)))))))))))))⟩
theorem ir_slices_symMergeCmpFunc_impl_Unit:compFnM true Tryz.prog n_slices_symMergeCmpFunc_impl_Unit=some F_slices_symMergeCmpFunc_impl_Unit:=by kernel_rfl
section cuts
variable {P:Program} {σ:St} {env:Env} {h:List Item} {τ:St} {Q:Qx} {a b c d:Cd}
theorem sx_cut1 (Z:Env→List Item→St→Prop) (h1:sxc P σ a (fun e env h τ=>e= .nxt∧Z env h τ) env h τ) (h2:∀ env h τ,Z env h τ→sxc P σ d Q env h τ):sxc P σ (.seq a d) Q env h τ:=by
 rw[xc_seq]
 refine sxc_mono (fun e env h τ q=> ?_) h1
 obtain⟨rfl,q⟩:=q
 exact h2 _ _ _ q
end cuts
theorem half_ok {i j:Nat} (h:i+j≤1125899906842624):IntKind.u64.wrap ((i:Int)+j)=(i:Int)+j∧shiftG .shr .u64 ((i:Int)+j) 1=some (.int .u64 (((i+j) / 2:Nat):Int)):=by
 refine⟨?_,?_⟩
 ·exact wrapU64 (by omega) (by omega)
 ·have:=shrU (x:=i+j) (c:=1) (by decide)
  simpa using this
section
variable {σ0:St} {v:GV} {L0:List UC} {R:List Item}
set_option maxHeartbeats 4000000 in
theorem symU_ret (C:CallU σ0 R L0):∀(w a m b:Nat) (L:List UC) (σ:St),b - a≤w→Hx σ0 σ (.th (ow pU.kd v L)::R)→(∀ x∈L,x∈L0)→a<m→m<b→b≤L.length→L.length≤1099511627776→Srt ltU (ga L) a m→Srt ltU (ga L) m b→∃ q τ,Ret Tryz.prog n_slices_symMergeCmpFunc_impl_Unit [v,gi a,gi m,gi b,.fn n_i_ByOrder_f1 []] σ q τ∧q= .tup []∧∃ M,Hx σ0 τ (.th (ow pU.kd v M)::R)∧Outs ltU L M a b
 |0,a,m,b,L,σ,hw,H,hm,ham,hmb,hb,hs,sa,sb=>by omega
 |w+1,a,m,b,L,σ,hw,H,hm,ham,hmb,hb,hs,sa,sb=>by
  refine ret_x ir_slices_symMergeCmpFunc_impl_Unit (Nat.le_of_ble_eq_true rfl) H ?_
  obtain⟨d1,hd1⟩:∃ q:Nat,q=m - a:=⟨_,rfl⟩
  have s1:(m:Int) - a=d1:=by omega
  obtain⟨d2,hd2⟩:∃ q:Nat,q=b - m:=⟨_,rfl⟩
  have s2:(b:Int) - m=d2:=by omega
  have pres:∀ t (ht:t<L.length),L[t]∈L0:=fun t ht=>hm _ (List.getElem_mem ht)
  by_cases c1:d1=1
  ·have b1:((d1:Int)==1)=true:=by simp;omega
   have hx:ga L a=some L[a]:=ga_some (by omega)
   obtain rfl:m=a+1:=by omega
   have s1:((a:Int)+1) - a=d1:=s1
   simp +contextual (disch:=omega) only[go_sem,F_slices_symMergeCmpFunc_impl_Unit,s1,b1]
   refine sx_lop (b - (a+1)) 0 (fun k env h=>env 0=v∧env 1=gi a∧env 4= .fn n_i_ByOrder_f1 []∧∃ i j:Nat,env 10=gi i∧env 11=gi j∧k=j - i∧a+1≤i∧i≤j∧j≤b∧(∀ t y,a+1≤t→t<i→ga L t=some y→ltU y L[a]=true)∧(∀ t y,j≤t→t<b→ga L t=some y→ltU y L[a]=false)∧h= .th (ow pU.kd v L)::R) (fun env h=>env 0=v∧env 1=gi a∧∃ i:Nat,env 10=gi i∧a+1≤i∧i≤b∧(∀ t y,a+1≤t→t<i→ga L t=some y→ltU y L[a]=true)∧(∀ t y,i≤t→t<b→ga L t=some y→ltU y L[a]=false)∧h= .th (ow pU.kd v L)::R) (fun _ _=>False) _ H ⟨by simp +contextual (disch:=omega) only[go_sem],by simp +contextual (disch:=omega) only[go_sem],by simp +contextual (disch:=omega) only[go_sem],a+1,b,by simp +contextual (disch:=omega) only[go_sem],by simp +contextual (disch:=omega) only[go_sem],rfl,by omega,by omega,by omega,fun t y h1 h2=>by omega,fun t y h1 h2=>by omega,rfl⟩ ?_ ?_ (fun _ _ _ _ h=>h.elim)
   ·clear H
    rintro J Y W hJ hY hW k env h' τ H ⟨e0,e1,e4,i,j,e10,e11,rfl,hi,hij,hj,p1,p2,rfl⟩
    rcases Nat.lt_or_ge i j with hl|hl
    ·have c0:decide ((i:Int)<j)=true:=by simp;omega
     obtain⟨u1,u2⟩:=half_ok (i:=i) (j:=j) (by omega)
     obtain⟨q,hq⟩:∃ q:Nat,q=(i+j) / 2:=⟨_,rfl⟩
     rw[← hq] at u2
     have hqL:q<L.length:=by omega
     obtain⟨x1,x4⟩:=U_own H 0 rfl hqL
     obtain⟨y1,y4⟩:=U_own H 0 rfl (show a<L.length by omega)
     have R1:=C _ _ _ H L[q] (pres _ _) L[a] (pres _ _)
     have kl:=ltU_eq L[q] L[a]
     simp +contextual (disch:=omega) only[go_sem,c0,e0,e1,e4,e10,e11,u1,u2,natOf_nat,x1,x4,y1,y4]
     refine by_r H R1 ?_
     cases hl:ltU L[q] L[a] with
     |true=>
      simp +contextual (disch:=omega) only[go_sem,e0,e1,e4,e10,e11,kl,hl]
      refine⟨j - (q+1),by omega,hJ _ _ _ _ H ⟨by simp +contextual (disch:=omega) only[go_sem,e0],by simp +contextual (disch:=omega) only[go_sem,e1],by simp +contextual (disch:=omega) only[go_sem,e4],q+1,j,by simp +contextual (disch:=omega) only[go_sem],by simp +contextual (disch:=omega) only[go_sem,e11],rfl,by omega,by omega,hj,fun t y h1 h2 hy=> ?_,p2,rfl⟩⟩
      rcases Nat.lt_or_ge t q with h|h
      ·have h3:=sb t q y L[q] h1 h (by omega) hy (ga_some hqL)
       cases h4:ltU y L[a] with
       |true=>rfl
       |false=>rw[ltU_swo.ntrans _ _ _ h3 h4] at hl;cases hl
      ·obtain rfl:t=q:=by omega
       rw[ga_some hqL] at hy;cases hy;exact hl
     |false=>
      simp +contextual (disch:=omega) only[go_sem,e0,e1,e4,e10,e11,kl,hl]
      refine⟨q - i,by omega,hJ _ _ _ _ H ⟨by simp +contextual (disch:=omega) only[go_sem,e0],by simp +contextual (disch:=omega) only[go_sem,e1],by simp +contextual (disch:=omega) only[go_sem,e4],i,q,by simp +contextual (disch:=omega) only[go_sem,e10],by simp +contextual (disch:=omega) only[go_sem],rfl,by omega,by omega,by omega,p1,fun t y h1 h2 hy=> ?_,rfl⟩⟩
      rcases Nat.lt_or_ge q t with h|h
      ·exact ltU_swo.ntrans _ _ _ (sb q t L[q] y (by omega) h h2 (ga_some hqL) hy) hl
      ·obtain rfl:t=q:=by omega
       rw[ga_some hqL] at hy;cases hy;exact hl
    ·have c0:decide ((i:Int)<j)=false:=by simp;omega
     simp +contextual (disch:=omega) only[go_sem,c0,e0,e1,e4,e10,e11]
     exact hY _ _ _ H ⟨by simp +contextual (disch:=omega) only[go_sem,e0],by simp +contextual (disch:=omega) only[go_sem,e1],i,by simp +contextual (disch:=omega) only[go_sem,e10],hi,by omega,p1,fun t y h1=>p2 t y (by omega),rfl⟩
   ·clear H
    rintro env h' τ H ⟨e0,e1,i,e10,hi,hib,p1,p2,rfl⟩
    obtain⟨i1,rfl⟩:∃ i1,i=i1+1:=⟨i - 1,by omega⟩
    have s3:((i1:Int)+1) - 1=i1:=by omega
    have e10:env 10=gi ((i1:Int)+1):=e10
    simp +contextual (disch:=omega) only[go_sem,e0,e1,e10]
    refine sx_lop (i1 - a) 2 (fun k env h=>env 0=v∧env 10=gi ((i1:Int)+1)∧∃(j:Nat) (N:List UC),env 13=gi j∧k=i1 - j∧a≤j∧j≤i1∧N.length=L.length∧ga N=rotF (ga L) a (a+1) (j+1)∧h= .th (ow pU.kd v N)::R) (fun env h=>∃ N:List UC,N.length=L.length∧ga N=rotF (ga L) a (a+1) (i1+1)∧h= .th (ow pU.kd v N)::R) (fun _ _=>False) _ H ⟨by simp +contextual (disch:=omega) only[go_sem,e0],by simp +contextual (disch:=omega) only[go_sem,e10],a,L,by simp +contextual (disch:=omega) only[go_sem],rfl,by omega,by omega,rfl,(rot_id _).symm,rfl⟩ ?_ ?_ (fun _ _ _ _ h=>h.elim)
    ·clear H e0 e1 e10
     rintro J Y W hJ hY hW k env h' τ H ⟨e0,e10,j,N,e13,rfl,haj,hj,hN,hE,rfl⟩
     rcases Nat.lt_or_ge j i1 with hl|hl
     ·have c0:decide ((j:Int)<i1)=true:=by simp;omega
      have h0:j<N.length:=by omega
      have h1:j+1<N.length:=by omega
      have n1:natOf (some (.int .i64 ((j:Int)+1)))=some (j+1):=natOf_of (by simp)
      obtain⟨x1,x4⟩:=U_own H 0 rfl h0
      obtain⟨y1,y4⟩:=U_own H 0 rfl h1
      simp +contextual (disch:=omega) only[go_sem,e0,e10,s3,c0,e13,natOf_nat,n1,x1,x4,y1,y4]
      refine by_stw H 0 rfl h0 N[j+1] rfl rfl (by decide) fun τ1 H1=> ?_
      simp +contextual (disch:=omega) only[go_sem,e0,e10,s3,c0,e13,natOf_nat,n1,x1,x4,y1,y4]
      refine by_stw H1 0 rfl (by simpa using h1) N[j] rfl rfl (by decide) fun τ2 H2=> ?_
      simp +contextual (disch:=omega) only[go_sem,e0,e10,e13]
      exact⟨i1 - (j+1),by omega,hJ _ _ _ _ H2 ⟨by simp +contextual (disch:=omega) only[go_sem,e0],by simp +contextual (disch:=omega) only[go_sem,e10],j+1,_,by simp +contextual (disch:=omega) only[go_sem],rfl,by omega,by omega,by simp[hN],by rw[set2_at h0 h1 (by omega),hE];exact rot_up _ (by omega),rfl⟩⟩
     ·have c0:decide ((j:Int)<i1)=false:=by simp;omega
      simp +contextual (disch:=omega) only[go_sem,e0,e10,s3,c0,e13]
      obtain rfl:j=i1:=by omega
      exact hY _ _ _ H ⟨N,hN,hE,rfl⟩
    ·clear H e0 e1 e10
     rintro env h' τ H ⟨N,hN,hE,rfl⟩
     simp +contextual (disch:=omega) only[go_sem]
     exact fun _=>⟨_,rfl,rfl,N,H,hN,up_sim ltU_swo hi (by omega) hx p1 hE,by rw[hE];exact(Frm.rot _ (by omega) hi).wide (by omega) hib,by rw[hE];exact up_parts ltU_swo hi hib hx sb p1 p2⟩
  ·have b1:((d1:Int)==1)=false:=by simp;omega
   by_cases c2:d2=1
   ·have b2:((d2:Int)==1)=true:=by simp;omega
    have hx:ga L m=some L[m]:=ga_some (by omega)
    obtain rfl:b=m+1:=by omega
    have s2:((m:Int)+1) - m=d2:=s2
    simp +contextual (disch:=omega) only[go_sem,F_slices_symMergeCmpFunc_impl_Unit,s1,b1,s2,b2]
    refine sx_lop (m - a) 4 (fun k env h=>env 0=v∧env 2=gi m∧env 4= .fn n_i_ByOrder_f1 []∧∃ i j:Nat,env 14=gi i∧env 15=gi j∧k=j - i∧a≤i∧i≤j∧j≤m∧(∀ t y,a≤t→t<i→ga L t=some y→ltU L[m] y=false)∧(∀ t y,j≤t→t<m→ga L t=some y→ltU L[m] y=true)∧h= .th (ow pU.kd v L)::R) (fun env h=>env 0=v∧env 2=gi m∧∃ i:Nat,env 14=gi i∧a≤i∧i≤m∧(∀ t y,a≤t→t<i→ga L t=some y→ltU L[m] y=false)∧(∀ t y,i≤t→t<m→ga L t=some y→ltU L[m] y=true)∧h= .th (ow pU.kd v L)::R) (fun _ _=>False) _ H ⟨by simp +contextual (disch:=omega) only[go_sem],by simp +contextual (disch:=omega) only[go_sem],by simp +contextual (disch:=omega) only[go_sem],a,m,by simp +contextual (disch:=omega) only[go_sem],by simp +contextual (disch:=omega) only[go_sem],rfl,by omega,by omega,by omega,fun t y h1 h2=>by omega,fun t y h1 h2=>by omega,rfl⟩ ?_ ?_ (fun _ _ _ _ h=>h.elim)
    ·clear H
     rintro J Y W hJ hY hW k env h' τ H ⟨e0,e2,e4,i,j,e10,e11,rfl,hi,hij,hj,p1,p2,rfl⟩
     rcases Nat.lt_or_ge i j with hl|hl
     ·have c0:decide ((i:Int)<j)=true:=by simp;omega
      obtain⟨u1,u2⟩:=half_ok (i:=i) (j:=j) (by omega)
      obtain⟨q,hq⟩:∃ q:Nat,q=(i+j) / 2:=⟨_,rfl⟩
      rw[← hq] at u2
      have hqL:q<L.length:=by omega
      obtain⟨x1,x4⟩:=U_own H 0 rfl hqL
      obtain⟨y1,y4⟩:=U_own H 0 rfl (show m<L.length by omega)
      have R1:=C _ _ _ H L[m] (pres _ _) L[q] (pres _ _)
      have kl:=ltU_eq L[m] L[q]
      simp +contextual (disch:=omega) only[go_sem,c0,e0,e2,e4,e10,e11,u1,u2,natOf_nat,x1,x4,y1,y4]
      refine by_r H R1 ?_
      cases hl:ltU L[m] L[q] with
      |false=>
       simp +contextual (disch:=omega) only[go_sem,e0,e2,e4,e10,e11,kl,hl]
       refine⟨j - (q+1),by omega,hJ _ _ _ _ H ⟨by simp +contextual (disch:=omega) only[go_sem,e0],by simp +contextual (disch:=omega) only[go_sem,e2],by simp +contextual (disch:=omega) only[go_sem,e4],q+1,j,by simp +contextual (disch:=omega) only[go_sem],by simp +contextual (disch:=omega) only[go_sem,e11],rfl,by omega,by omega,hj,fun t y h1 h2 hy=> ?_,p2,rfl⟩⟩
       rcases Nat.lt_or_ge t q with h|h
       ·exact ltU_swo.ntrans _ _ _ hl (sa t q y L[q] h1 h (by omega) hy (ga_some hqL))
       ·obtain rfl:t=q:=by omega
        rw[ga_some hqL] at hy;cases hy;exact hl
      |true=>
       simp +contextual (disch:=omega) only[go_sem,e0,e2,e4,e10,e11,kl,hl]
       refine⟨q - i,by omega,hJ _ _ _ _ H ⟨by simp +contextual (disch:=omega) only[go_sem,e0],by simp +contextual (disch:=omega) only[go_sem,e2],by simp +contextual (disch:=omega) only[go_sem,e4],i,q,by simp +contextual (disch:=omega) only[go_sem,e10],by simp +contextual (disch:=omega) only[go_sem],rfl,by omega,by omega,by omega,p1,fun t y h1 h2 hy=> ?_,rfl⟩⟩
       rcases Nat.lt_or_ge q t with h|h
       ·have h3:=sa q t L[q] y (by omega) h h2 (ga_some hqL) hy
        cases h4:ltU L[m] y with
        |true=>rfl
        |false=>rw[ltU_swo.ntrans _ _ _ h4 h3] at hl;cases hl
       ·obtain rfl:t=q:=by omega
        rw[ga_some hqL] at hy;cases hy;exact hl
     ·have c0:decide ((i:Int)<j)=false:=by simp;omega
      simp +contextual (disch:=omega) only[go_sem,c0,e0,e2,e4,e10,e11]
      exact hY _ _ _ H ⟨by simp +contextual (disch:=omega) only[go_sem,e0],by simp +contextual (disch:=omega) only[go_sem,e2],i,by simp +contextual (disch:=omega) only[go_sem,e10],hi,by omega,p1,fun t y h1=>p2 t y (by omega),rfl⟩
    ·clear H
     rintro env h' τ H ⟨e0,e2,i,e10,hi,hib,p1,p2,rfl⟩
     simp +contextual (disch:=omega) only[go_sem,e0,e2,e10]
     refine sx_lop m 6 (fun k env h=>env 0=v∧env 14=gi i∧env 17=gi k∧i≤k∧k≤m∧∃(N:List UC),N.length=L.length∧ga N=rotF (ga L) k m (m+1)∧h= .th (ow pU.kd v N)::R) (fun env h=>∃ N:List UC,N.length=L.length∧ga N=rotF (ga L) i m (m+1)∧h= .th (ow pU.kd v N)::R) (fun _ _=>False) _ H ⟨by simp +contextual (disch:=omega) only[go_sem,e0],by simp +contextual (disch:=omega) only[go_sem,e10],by simp +contextual (disch:=omega) only[go_sem],by omega,by omega,L,rfl,(rot_id1 _).symm,rfl⟩ ?_ ?_ (fun _ _ _ _ h=>h.elim)
     ·clear H e0 e2 e10
      rintro J Y W hJ hY hW k env h' τ H ⟨e0,e10,e13,hik,hkm,N,hN,hE,rfl⟩
      rcases Nat.lt_or_ge i k with hl|hl
      ·obtain⟨j,rfl⟩:∃ j,k=j+1:=⟨k - 1,by omega⟩
       have c0:decide ((i:Int)<(j:Int)+1)=true:=by simp;omega
       have s3:((j:Int)+1) - 1=j:=by omega
       have e13:env 17=gi ((j:Int)+1):=e13
       have h0:j<N.length:=by omega
       have h1:j+1<N.length:=by omega
       have n1:natOf (some (.int .i64 ((j:Int)+1)))=some (j+1):=natOf_of (by simp)
       obtain⟨x1,x4⟩:=U_own H 0 rfl h0
       obtain⟨y1,y4⟩:=U_own H 0 rfl h1
       simp +contextual (disch:=omega) only[go_sem,e0,e10,s3,c0,e13,natOf_nat,n1,x1,x4,y1,y4]
       refine by_stw H 0 rfl h1 N[j] rfl rfl (by decide) fun τ1 H1=> ?_
       simp +contextual (disch:=omega) only[go_sem,e0,e10,s3,c0,e13,natOf_nat,n1,x1,x4,y1,y4]
       refine by_stw H1 0 rfl (by simpa using h0) N[j+1] rfl rfl (by decide) fun τ2 H2=> ?_
       simp +contextual (disch:=omega) only[go_sem,e0,e10,s3,e13]
       exact⟨j,by omega,hJ _ _ _ _ H2 ⟨by simp +contextual (disch:=omega) only[go_sem,e0],by simp +contextual (disch:=omega) only[go_sem,e10],by simp +contextual (disch:=omega) only[go_sem],by omega,by omega,_,by simp[hN],by rw[set2_at' h1 h0 (by omega),hE];exact rot_dn _ (by omega),rfl⟩⟩
      ·have c0:decide ((i:Int)<k)=false:=by simp;omega
       simp +contextual (disch:=omega) only[go_sem,e0,e10,c0,e13]
       obtain rfl:k=i:=by omega
       exact hY _ _ _ H ⟨N,hN,hE,rfl⟩
     ·clear H e0 e2 e10
      rintro env h' τ H ⟨N,hN,hE,rfl⟩
      simp +contextual (disch:=omega) only[go_sem]
      exact fun _=>⟨_,rfl,rfl,N,H,hN,ins_sim ltU_swo hib (by omega) hx p2 hE,by rw[hE];exact(Frm.rot _ (by omega) (by omega)).wide (by omega) (by omega),by rw[hE];exact ins_parts ltU_swo hi hib hx (fun t h1 h2=>⟨_,ga_some (by omega)⟩) sa p2 fun h y hy=>p1 (i - 1) y (by omega) (by omega) hy⟩
   ·have b2:((d2:Int)==1)=false:=by simp;omega
    obtain⟨v1,v2⟩:=half_ok (i:=a) (j:=b) (by omega)
    obtain⟨c,hc⟩:∃ q:Nat,q=(a+b) / 2:=⟨_,rfl⟩
    rw[← hc] at v2
    obtain⟨n0,hn0⟩:∃ q:Nat,q=c+m:=⟨_,rfl⟩
    have t1:(c:Int)+m=n0:=by omega
    obtain⟨n1,hn1⟩:∃ q:Nat,q=n0 - 1:=⟨_,rfl⟩
    have t2:(n0:Int) - 1=n1:=by omega
    rcases Nat.lt_or_ge c m with hcm|hcm
    ·have b3:decide ((c:Int)<m)=true:=by simp;omega
     obtain⟨s0,hs0⟩:∃ q:Nat,q=n0 - b:=⟨_,rfl⟩
     have t3:(n0:Int) - b=s0:=by omega
     have g:a≤s0∧s0≤c∧c≤m∧n0 - s0≤b∧m≤n0 - c∧c≤n0∧(n0 - s0=b∨s0=a)∧(n0 - c=m∨c=m):=by omega
     simp +contextual (disch:=omega) only[go_sem,F_slices_symMergeCmpFunc_impl_Unit,s1,b1,s2,b2,v1,v2,t1,t2,b3,t3]
     obtain⟨g1,g2,g3,g4,g5,g6,g7,g8⟩:=g
     refine sx_lop (c - s0) 8 (fun k env h=>env 0=v∧env 1=gi a∧env 2=gi m∧env 3=gi b∧env 4= .fn n_i_ByOrder_f1 []∧env 18=gi c∧env 19=gi n0∧env 22=gi n1∧∃ s r:Nat,env 20=gi s∧env 21=gi r∧k=r - s∧s0≤s∧s≤r∧r≤c∧(s=s0∨∀ x y,ga L (s - 1)=some x→ga L (n0 - s)=some y→ltU y x=false)∧(r=c∨∀ x y,ga L r=some x→ga L (n0 - 1 - r)=some y→ltU y x=true)∧h= .th (ow pU.kd v L)::R) (fun env h=>env 0=v∧env 1=gi a∧env 2=gi m∧env 3=gi b∧env 4= .fn n_i_ByOrder_f1 []∧env 18=gi c∧env 19=gi n0∧∃ s:Nat,env 20=gi s∧s0≤s∧s≤c∧(s=s0∨∀ x y,ga L (s - 1)=some x→ga L (n0 - s)=some y→ltU y x=false)∧(s=c∨∀ x y,ga L s=some x→ga L (n0 - 1 - s)=some y→ltU y x=true)∧h= .th (ow pU.kd v L)::R) (fun _ _=>False) _ H ⟨by simp +contextual (disch:=omega) only[go_sem],by simp +contextual (disch:=omega) only[go_sem],by simp +contextual (disch:=omega) only[go_sem],by simp +contextual (disch:=omega) only[go_sem],by simp +contextual (disch:=omega) only[go_sem],by simp +contextual (disch:=omega) only[go_sem],by simp +contextual (disch:=omega) only[go_sem],by simp +contextual (disch:=omega) only[go_sem],s0,c,by simp +contextual (disch:=omega) only[go_sem],by simp +contextual (disch:=omega) only[go_sem],rfl,by omega,by omega,by omega,.inl rfl,.inl rfl,rfl⟩ ?_ ?_ (fun _ _ _ _ h=>h.elim)
     ·clear H
      rintro J Y W hJ hY hW k env h' τ H ⟨e0,e1,e2,e3,e4,e18,e19,e22,s,r,e20,e21,rfl,h1,h2,h3,p1,p2,rfl⟩
      rcases Nat.lt_or_ge s r with hl|hl
      ·have c0:decide ((s:Int)<r)=true:=by simp;omega
       obtain⟨u1,u2⟩:=half_ok (i:=s) (j:=r) (by omega)
       obtain⟨q,hq⟩:∃ q:Nat,q=(s+r) / 2:=⟨_,rfl⟩
       rw[← hq] at u2
       obtain⟨q2,hq2⟩:∃ q2:Nat,q2=n1 - q:=⟨_,rfl⟩
       have u3:(n1:Int) - q=q2:=by omega
       have hqL:q<L.length:=by omega
       have hq2L:q2<L.length:=by omega
       obtain⟨x1,x4⟩:=U_own H 0 rfl hqL
       obtain⟨y1,y4⟩:=U_own H 0 rfl hq2L
       have R1:=C _ _ _ H L[q2] (pres _ _) L[q] (pres _ _)
       have kl:=ltU_eq L[q2] L[q]
       simp +contextual (disch:=omega) only[go_sem,c0,e0,e1,e2,e3,e4,e18,e19,e22,e20,e21,u1,u2,u3,natOf_nat,x1,x4,y1,y4]
       refine by_r H R1 ?_
       cases hl:ltU L[q2] L[q] with
       |false=>
        simp +contextual (disch:=omega) only[go_sem,e0,e1,e2,e3,e4,e18,e19,e22,e20,e21,kl,hl]
        refine⟨r - (q+1),by omega,hJ _ _ _ _ H ⟨by simp +contextual (disch:=omega) only[go_sem,e0],by simp +contextual (disch:=omega) only[go_sem,e1],by simp +contextual (disch:=omega) only[go_sem,e2],by simp +contextual (disch:=omega) only[go_sem,e3],by simp +contextual (disch:=omega) only[go_sem,e4],by simp +contextual (disch:=omega) only[go_sem,e18],by simp +contextual (disch:=omega) only[go_sem,e19],by simp +contextual (disch:=omega) only[go_sem,e22],q+1,r,by simp +contextual (disch:=omega) only[go_sem],by simp +contextual (disch:=omega) only[go_sem,e21],rfl,by omega,by omega,h3,.inr fun x y hx hy=> ?_,p2,rfl⟩⟩
        rw[show q+1 - 1=q from rfl,ga_some hqL] at hx;cases hx
        rw[show n0 - (q+1)=q2 by omega,ga_some hq2L] at hy;cases hy
        exact hl
       |true=>
        simp +contextual (disch:=omega) only[go_sem,e0,e1,e2,e3,e4,e18,e19,e22,e20,e21,kl,hl]
        refine⟨q - s,by omega,hJ _ _ _ _ H ⟨by simp +contextual (disch:=omega) only[go_sem,e0],by simp +contextual (disch:=omega) only[go_sem,e1],by simp +contextual (disch:=omega) only[go_sem,e2],by simp +contextual (disch:=omega) only[go_sem,e3],by simp +contextual (disch:=omega) only[go_sem,e4],by simp +contextual (disch:=omega) only[go_sem,e18],by simp +contextual (disch:=omega) only[go_sem,e19],by simp +contextual (disch:=omega) only[go_sem,e22],s,q,by simp +contextual (disch:=omega) only[go_sem,e20],by simp +contextual (disch:=omega) only[go_sem],rfl,by omega,by omega,by omega,p1,.inr fun x y hx hy=> ?_,rfl⟩⟩
        rw[ga_some hqL] at hx;cases hx
        rw[show n0 - 1 - q=q2 by omega,ga_some hq2L] at hy;cases hy
        exact hl
      ·have c0:decide ((s:Int)<r)=false:=by simp;omega
       obtain rfl:s=r:=by omega
       simp +contextual (disch:=omega) only[go_sem,c0,e0,e1,e2,e3,e4,e18,e19,e22,e20,e21]
       exact hY _ _ _ H ⟨by simp +contextual (disch:=omega) only[go_sem,e0],by simp +contextual (disch:=omega) only[go_sem,e1],by simp +contextual (disch:=omega) only[go_sem,e2],by simp +contextual (disch:=omega) only[go_sem,e3],by simp +contextual (disch:=omega) only[go_sem,e4],by simp +contextual (disch:=omega) only[go_sem,e18],by simp +contextual (disch:=omega) only[go_sem,e19],s,by simp +contextual (disch:=omega) only[go_sem,e20],h1,h3,p1,p2,rfl⟩
     ·clear H
      rintro env h' τ H ⟨e0,e1,e2,e3,e4,e18,e19,s,e20,h1,h2,p1,p2,rfl⟩
      simp only[↓reduceIte]
      obtain⟨e,he⟩:∃ q:Nat,q=n0 - s:=⟨_,rfl⟩
      have t4:(n0:Int) - s=e:=by omega
      obtain⟨k1,k2⟩:=cut_ok ltU_swo (n:=n0) (s:=s) sa sb (fun t _ h=>⟨_,ga_some (by omega)⟩) (by omega) (by omega) (by omega) (by omega) (by omega) (fun h3 h4=>p2.resolve_left (by omega)) (fun h3 h4=>p1.resolve_left (by omega))
      obtain⟨k3,k4,k5,k6,k7⟩:=rot_parts ltU_swo (s:=s) (mid:=c) (e:=e) (by omega) (by omega) (by omega) (by omega) (by omega) sa sb (by rw[he];exact k1) (by rw[he];exact k2)
      refine sx_cut1 (fun env h τ=>env 0=v∧env 1=gi a∧env 2=gi m∧env 3=gi b∧env 4= .fn n_i_ByOrder_f1 []∧env 18=gi c∧env 20=gi s∧env 24=gi e∧h= .th (ow pU.kd v L)::R∧Hx σ0 τ h) ?_ ?_
      ·simp +contextual (disch:=omega) only[go_sem,e0,e1,e2,e3,e4,e18,e19,e20,t4]
       exact H
      clear H e0 e1 e2 e3 e4 e18 e19 e20
      rintro env h' τ ⟨e0,e1,e2,e3,e4,e18,e20,e24,rfl,H⟩
      refine sx_cut1 (fun env h τ=>env 0=v∧env 1=gi a∧env 3=gi b∧env 4= .fn n_i_ByOrder_f1 []∧env 18=gi c∧env 20=gi s∧env 24=gi e∧∃ M,M.length=L.length∧ga M=rotF (ga L) s m e∧h= .th (ow pU.kd v M)::R∧Hx σ0 τ h) ?_ ?_
      ·by_cases q1:s<m
       ·have d1:decide ((s:Int)<m)=true:=by simp;omega
        by_cases q2:m<e
        ·have d2:decide ((m:Int)<e)=true:=by simp;omega
         simp +contextual (disch:=omega) only[go_sem,e0,e1,e2,e3,e4,e18,e20,e24,d1,d2]
         obtain⟨_,τ1,R1,rfl,M,H1,hM,hE⟩:=rotU_ret (g:=.fn n_i_ByOrder_f1 []) H q1 q2 (by omega) hs
         refine by_m R1 H1 ?_
         simp +contextual (disch:=omega) only[go_sem,e0,e1,e3,e4,e18,e20,e24]
         exact⟨M,hM,hE,rfl,H1⟩
        ·have d2:decide ((m:Int)<e)=false:=by simp;omega
         simp +contextual (disch:=omega) only[go_sem,e0,e1,e2,e3,e4,e18,e20,e24,d1,d2]
         exact⟨L,rfl,by rw[show e=m by omega];exact(rot_id _).symm,rfl,H⟩
       ·have d1:decide ((s:Int)<m)=false:=by simp;omega
        simp +contextual (disch:=omega) only[go_sem,e0,e1,e2,e3,e4,e18,e20,e24,d1]
        exact⟨L,rfl,by rw[show s=m by omega];exact(rot_id2 _).symm,rfl,H⟩
      clear H e0 e1 e2 e3 e4 e18 e20 e24
      rintro env h' τ ⟨e0,e1,e3,e4,e18,e20,e24,M,hM,hE,rfl,H⟩
      rw[← hE] at k3 k4 k5 k6 k7
      have hSM:Sim ltU L M:=rot_sim ltU_swo (by omega) (by omega) (by omega) hE (by rw[he];exact k1)
      have hFM:Frm (ga L) (ga M) a b:=by rw[hE];exact(Frm.rot _ (by omega) (by omega)).wide (by omega) (by omega)
      have hmM:∀ x∈M,x∈L0:=fun x hx=>hm x ((Sim.perm ltU_swo hSM).mem_iff.2 hx)
      refine sx_cut1 (fun env h τ=>env 0=v∧env 3=gi b∧env 4= .fn n_i_ByOrder_f1 []∧env 18=gi c∧env 24=gi e∧∃ N,Outs ltU M N a c∧h= .th (ow pU.kd v N)::R∧Hx σ0 τ h) ?_ ?_
      ·by_cases q1:a<s
       ·have d1:decide ((a:Int)<s)=true:=by simp;omega
        by_cases q2:s<c
        ·have d2:decide ((s:Int)<c)=true:=by simp;omega
         simp +contextual (disch:=omega) only[go_sem,e0,e1,e3,e4,e18,e20,e24,d1,d2]
         obtain⟨_,τ1,R1,rfl,N,H1,hO⟩:=symU_ret C w a s c M τ (by omega) H hmM q1 q2 (by omega) (by omega) k3 k4
         refine by_m R1 H1 ?_
         simp +contextual (disch:=omega) only[go_sem,e0,e3,e4,e18,e24]
         exact⟨N,hO,rfl,H1⟩
        ·have d2:decide ((s:Int)<c)=false:=by simp;omega
         simp +contextual (disch:=omega) only[go_sem,e0,e1,e3,e4,e18,e20,e24,d1,d2]
         exact⟨M,⟨rfl,Sim.refl _,Frm.refl _ _ _,by rw[show c=s by omega];exact k3⟩,rfl,H⟩
       ·have d1:decide ((a:Int)<s)=false:=by simp;omega
        simp +contextual (disch:=omega) only[go_sem,e0,e1,e3,e4,e18,e20,e24,d1]
        exact⟨M,⟨rfl,Sim.refl _,Frm.refl _ _ _,by rw[show a=s by omega];exact k4⟩,rfl,H⟩
      clear H e0 e1 e3 e4 e18 e20 e24
      rintro env h' τ ⟨e0,e3,e4,e18,e24,N,hO,rfl,H⟩
      have hmN:∀ x∈N,x∈L0:=fun x hx=>hmM x ((Sim.perm ltU_swo hO.sim).mem_iff.2 hx)
      have j1:Srt ltU (ga N) c e:=k5.frm hO.frm (.inr (Nat.le_refl _))
      have j2:Srt ltU (ga N) e b:=k6.frm hO.frm (.inr (by omega))
      have j3:Crs ltU (ga N) a c b:=k7.frm (.inl hO.frm)
      have hNl:=hO.len
      have fin:∀ K,Outs ltU N K c b→Outs ltU L K a b:=fun K hK=>⟨by have:=hK.len;omega,(hSM.trans hO.sim).trans hK.sim,(hFM.trans (hO.frm.wide (Nat.le_refl _) (by omega))).trans (hK.frm.wide (by omega) (Nat.le_refl _)),(hO.srt.frm hK.frm (.inl (Nat.le_refl _))).join hK.srt (j3.frm (.inr hK.frm))⟩
      by_cases q1:c<e
      ·have d1:decide ((c:Int)<e)=true:=by simp;omega
       by_cases q2:e<b
       ·have d2:decide ((e:Int)<b)=true:=by simp;omega
        simp +contextual (disch:=omega) only[go_sem,e0,e3,e4,e18,e24,d1,d2]
        obtain⟨_,τ1,R1,rfl,K,H1,hK⟩:=symU_ret C w c e b N τ (by omega) H hmN q1 q2 (by omega) (by omega) j1 j2
        refine by_m R1 H1 ?_
        simp +contextual (disch:=omega) only[go_sem]
        exact fun _=>⟨_,rfl,rfl,K,H1,fin K hK⟩
       ·have d2:decide ((e:Int)<b)=false:=by simp;omega
        simp +contextual (disch:=omega) only[go_sem,e0,e3,e4,e18,e24,d1,d2]
        exact fun _=>⟨_,rfl,rfl,N,H,fin N ⟨rfl,Sim.refl _,Frm.refl _ _ _,by rw[show b=e by omega];exact j1⟩⟩
      ·have d1:decide ((c:Int)<e)=false:=by simp;omega
       simp +contextual (disch:=omega) only[go_sem,e0,e3,e4,e18,e24,d1]
       exact fun _=>⟨_,rfl,rfl,N,H,fin N ⟨rfl,Sim.refl _,Frm.refl _ _ _,by rw[show c=e by omega];exact j2⟩⟩
    ·have b3:decide ((c:Int)<m)=false:=by simp;omega
     have g:a≤a∧a≤m∧m≤m∧n0 - a≤b∧m≤n0 - m∧m≤n0∧(n0 - a=b∨a=a)∧(n0 - m=m∨m=m):=by omega
     simp +contextual (disch:=omega) only[go_sem,F_slices_symMergeCmpFunc_impl_Unit,s1,b1,s2,b2,v1,v2,t1,t2,b3]
     obtain⟨g1,g2,g3,g4,g5,g6,g7,g8⟩:=g
     refine sx_lop (m - a) 8 (fun k env h=>env 0=v∧env 1=gi a∧env 2=gi m∧env 3=gi b∧env 4= .fn n_i_ByOrder_f1 []∧env 18=gi c∧env 19=gi n0∧env 22=gi n1∧∃ s r:Nat,env 20=gi s∧env 21=gi r∧k=r - s∧a≤s∧s≤r∧r≤m∧(s=a∨∀ x y,ga L (s - 1)=some x→ga L (n0 - s)=some y→ltU y x=false)∧(r=m∨∀ x y,ga L r=some x→ga L (n0 - 1 - r)=some y→ltU y x=true)∧h= .th (ow pU.kd v L)::R) (fun env h=>env 0=v∧env 1=gi a∧env 2=gi m∧env 3=gi b∧env 4= .fn n_i_ByOrder_f1 []∧env 18=gi c∧env 19=gi n0∧∃ s:Nat,env 20=gi s∧a≤s∧s≤m∧(s=a∨∀ x y,ga L (s - 1)=some x→ga L (n0 - s)=some y→ltU y x=false)∧(s=m∨∀ x y,ga L s=some x→ga L (n0 - 1 - s)=some y→ltU y x=true)∧h= .th (ow pU.kd v L)::R) (fun _ _=>False) _ H ⟨by simp +contextual (disch:=omega) only[go_sem],by simp +contextual (disch:=omega) only[go_sem],by simp +contextual (disch:=omega) only[go_sem],by simp +contextual (disch:=omega) only[go_sem],by simp +contextual (disch:=omega) only[go_sem],by simp +contextual (disch:=omega) only[go_sem],by simp +contextual (disch:=omega) only[go_sem],by simp +contextual (disch:=omega) only[go_sem],a,m,by simp +contextual (disch:=omega) only[go_sem],by simp +contextual (disch:=omega) only[go_sem],rfl,by omega,by omega,by omega,.inl rfl,.inl rfl,rfl⟩ ?_ ?_ (fun _ _ _ _ h=>h.elim)
     ·clear H
      rintro J Y W hJ hY hW k env h' τ H ⟨e0,e1,e2,e3,e4,e18,e19,e22,s,r,e20,e21,rfl,h1,h2,h3,p1,p2,rfl⟩
      rcases Nat.lt_or_ge s r with hl|hl
      ·have c0:decide ((s:Int)<r)=true:=by simp;omega
       obtain⟨u1,u2⟩:=half_ok (i:=s) (j:=r) (by omega)
       obtain⟨q,hq⟩:∃ q:Nat,q=(s+r) / 2:=⟨_,rfl⟩
       rw[← hq] at u2
       obtain⟨q2,hq2⟩:∃ q2:Nat,q2=n1 - q:=⟨_,rfl⟩
       have u3:(n1:Int) - q=q2:=by omega
       have hqL:q<L.length:=by omega
       have hq2L:q2<L.length:=by omega
       obtain⟨x1,x4⟩:=U_own H 0 rfl hqL
       obtain⟨y1,y4⟩:=U_own H 0 rfl hq2L
       have R1:=C _ _ _ H L[q2] (pres _ _) L[q] (pres _ _)
       have kl:=ltU_eq L[q2] L[q]
       simp +contextual (disch:=omega) only[go_sem,c0,e0,e1,e2,e3,e4,e18,e19,e22,e20,e21,u1,u2,u3,natOf_nat,x1,x4,y1,y4]
       refine by_r H R1 ?_
       cases hl:ltU L[q2] L[q] with
       |false=>
        simp +contextual (disch:=omega) only[go_sem,e0,e1,e2,e3,e4,e18,e19,e22,e20,e21,kl,hl]
        refine⟨r - (q+1),by omega,hJ _ _ _ _ H ⟨by simp +contextual (disch:=omega) only[go_sem,e0],by simp +contextual (disch:=omega) only[go_sem,e1],by simp +contextual (disch:=omega) only[go_sem,e2],by simp +contextual (disch:=omega) only[go_sem,e3],by simp +contextual (disch:=omega) only[go_sem,e4],by simp +contextual (disch:=omega) only[go_sem,e18],by simp +contextual (disch:=omega) only[go_sem,e19],by simp +contextual (disch:=omega) only[go_sem,e22],q+1,r,by simp +contextual (disch:=omega) only[go_sem],by simp +contextual (disch:=omega) only[go_sem,e21],rfl,by omega,by omega,h3,.inr fun x y hx hy=> ?_,p2,rfl⟩⟩
        rw[show q+1 - 1=q from rfl,ga_some hqL] at hx;cases hx
        rw[show n0 - (q+1)=q2 by omega,ga_some hq2L] at hy;cases hy
        exact hl
       |true=>
        simp +contextual (disch:=omega) only[go_sem,e0,e1,e2,e3,e4,e18,e19,e22,e20,e21,kl,hl]
        refine⟨q - s,by omega,hJ _ _ _ _ H ⟨by simp +contextual (disch:=omega) only[go_sem,e0],by simp +contextual (disch:=omega) only[go_sem,e1],by simp +contextual (disch:=omega) only[go_sem,e2],by simp +contextual (disch:=omega) only[go_sem,e3],by simp +contextual (disch:=omega) only[go_sem,e4],by simp +contextual (disch:=omega) only[go_sem,e18],by simp +contextual (disch:=omega) only[go_sem,e19],by simp +contextual (disch:=omega) only[go_sem,e22],s,q,by simp +contextual (disch:=omega) only[go_sem,e20],by simp +contextual (disch:=omega) only[go_sem],rfl,by omega,by omega,by omega,p1,.inr fun x y hx hy=> ?_,rfl⟩⟩
        rw[ga_some hqL] at hx;cases hx
        rw[show n0 - 1 - q=q2 by omega,ga_some hq2L] at hy;cases hy
        exact hl
      ·have c0:decide ((s:Int)<r)=false:=by simp;omega
       obtain rfl:s=r:=by omega
       simp +contextual (disch:=omega) only[go_sem,c0,e0,e1,e2,e3,e4,e18,e19,e22,e20,e21]
       exact hY _ _ _ H ⟨by simp +contextual (disch:=omega) only[go_sem,e0],by simp +contextual (disch:=omega) only[go_sem,e1],by simp +contextual (disch:=omega) only[go_sem,e2],by simp +contextual (disch:=omega) only[go_sem,e3],by simp +contextual (disch:=omega) only[go_sem,e4],by simp +contextual (disch:=omega) only[go_sem,e18],by simp +contextual (disch:=omega) only[go_sem,e19],s,by simp +contextual (disch:=omega) only[go_sem,e20],h1,h3,p1,p2,rfl⟩
     ·clear H
      rintro env h' τ H ⟨e0,e1,e2,e3,e4,e18,e19,s,e20,h1,h2,p1,p2,rfl⟩
      simp only[↓reduceIte]
      obtain⟨e,he⟩:∃ q:Nat,q=n0 - s:=⟨_,rfl⟩
      have t4:(n0:Int) - s=e:=by omega
      obtain⟨k1,k2⟩:=cut_ok ltU_swo (n:=n0) (s:=s) sa sb (fun t _ h=>⟨_,ga_some (by omega)⟩) (by omega) (by omega) (by omega) (by omega) (by omega) (fun h3 h4=>p2.resolve_left (by omega)) (fun h3 h4=>p1.resolve_left (by omega))
      obtain⟨k3,k4,k5,k6,k7⟩:=rot_parts ltU_swo (s:=s) (mid:=c) (e:=e) (by omega) (by omega) (by omega) (by omega) (by omega) sa sb (by rw[he];exact k1) (by rw[he];exact k2)
      refine sx_cut1 (fun env h τ=>env 0=v∧env 1=gi a∧env 2=gi m∧env 3=gi b∧env 4= .fn n_i_ByOrder_f1 []∧env 18=gi c∧env 20=gi s∧env 24=gi e∧h= .th (ow pU.kd v L)::R∧Hx σ0 τ h) ?_ ?_
      ·simp +contextual (disch:=omega) only[go_sem,e0,e1,e2,e3,e4,e18,e19,e20,t4]
       exact H
      clear H e0 e1 e2 e3 e4 e18 e19 e20
      rintro env h' τ ⟨e0,e1,e2,e3,e4,e18,e20,e24,rfl,H⟩
      refine sx_cut1 (fun env h τ=>env 0=v∧env 1=gi a∧env 3=gi b∧env 4= .fn n_i_ByOrder_f1 []∧env 18=gi c∧env 20=gi s∧env 24=gi e∧∃ M,M.length=L.length∧ga M=rotF (ga L) s m e∧h= .th (ow pU.kd v M)::R∧Hx σ0 τ h) ?_ ?_
      ·by_cases q1:s<m
       ·have d1:decide ((s:Int)<m)=true:=by simp;omega
        by_cases q2:m<e
        ·have d2:decide ((m:Int)<e)=true:=by simp;omega
         simp +contextual (disch:=omega) only[go_sem,e0,e1,e2,e3,e4,e18,e20,e24,d1,d2]
         obtain⟨_,τ1,R1,rfl,M,H1,hM,hE⟩:=rotU_ret (g:=.fn n_i_ByOrder_f1 []) H q1 q2 (by omega) hs
         refine by_m R1 H1 ?_
         simp +contextual (disch:=omega) only[go_sem,e0,e1,e3,e4,e18,e20,e24]
         exact⟨M,hM,hE,rfl,H1⟩
        ·have d2:decide ((m:Int)<e)=false:=by simp;omega
         simp +contextual (disch:=omega) only[go_sem,e0,e1,e2,e3,e4,e18,e20,e24,d1,d2]
         exact⟨L,rfl,by rw[show e=m by omega];exact(rot_id _).symm,rfl,H⟩
       ·have d1:decide ((s:Int)<m)=false:=by simp;omega
        simp +contextual (disch:=omega) only[go_sem,e0,e1,e2,e3,e4,e18,e20,e24,d1]
        exact⟨L,rfl,by rw[show s=m by omega];exact(rot_id2 _).symm,rfl,H⟩
      clear H e0 e1 e2 e3 e4 e18 e20 e24
      rintro env h' τ ⟨e0,e1,e3,e4,e18,e20,e24,M,hM,hE,rfl,H⟩
      rw[← hE] at k3 k4 k5 k6 k7
      have hSM:Sim ltU L M:=rot_sim ltU_swo (by omega) (by omega) (by omega) hE (by rw[he];exact k1)
      have hFM:Frm (ga L) (ga M) a b:=by rw[hE];exact(Frm.rot _ (by omega) (by omega)).wide (by omega) (by omega)
      have hmM:∀ x∈M,x∈L0:=fun x hx=>hm x ((Sim.perm ltU_swo hSM).mem_iff.2 hx)
      refine sx_cut1 (fun env h τ=>env 0=v∧env 3=gi b∧env 4= .fn n_i_ByOrder_f1 []∧env 18=gi c∧env 24=gi e∧∃ N,Outs ltU M N a c∧h= .th (ow pU.kd v N)::R∧Hx σ0 τ h) ?_ ?_
      ·by_cases q1:a<s
       ·have d1:decide ((a:Int)<s)=true:=by simp;omega
        by_cases q2:s<c
        ·have d2:decide ((s:Int)<c)=true:=by simp;omega
         simp +contextual (disch:=omega) only[go_sem,e0,e1,e3,e4,e18,e20,e24,d1,d2]
         obtain⟨_,τ1,R1,rfl,N,H1,hO⟩:=symU_ret C w a s c M τ (by omega) H hmM q1 q2 (by omega) (by omega) k3 k4
         refine by_m R1 H1 ?_
         simp +contextual (disch:=omega) only[go_sem,e0,e3,e4,e18,e24]
         exact⟨N,hO,rfl,H1⟩
        ·have d2:decide ((s:Int)<c)=false:=by simp;omega
         simp +contextual (disch:=omega) only[go_sem,e0,e1,e3,e4,e18,e20,e24,d1,d2]
         exact⟨M,⟨rfl,Sim.refl _,Frm.refl _ _ _,by rw[show c=s by omega];exact k3⟩,rfl,H⟩
       ·have d1:decide ((a:Int)<s)=false:=by simp;omega
        simp +contextual (disch:=omega) only[go_sem,e0,e1,e3,e4,e18,e20,e24,d1]
        exact⟨M,⟨rfl,Sim.refl _,Frm.refl _ _ _,by rw[show a=s by omega];exact k4⟩,rfl,H⟩
      clear H e0 e1 e3 e4 e18 e20 e24
      rintro env h' τ ⟨e0,e3,e4,e18,e24,N,hO,rfl,H⟩
      have hmN:∀ x∈N,x∈L0:=fun x hx=>hmM x ((Sim.perm ltU_swo hO.sim).mem_iff.2 hx)
      have j1:Srt ltU (ga N) c e:=k5.frm hO.frm (.inr (Nat.le_refl _))
      have j2:Srt ltU (ga N) e b:=k6.frm hO.frm (.inr (by omega))
      have j3:Crs ltU (ga N) a c b:=k7.frm (.inl hO.frm)
      have hNl:=hO.len
      have fin:∀ K,Outs ltU N K c b→Outs ltU L K a b:=fun K hK=>⟨by have:=hK.len;omega,(hSM.trans hO.sim).trans hK.sim,(hFM.trans (hO.frm.wide (Nat.le_refl _) (by omega))).trans (hK.frm.wide (by omega) (Nat.le_refl _)),(hO.srt.frm hK.frm (.inl (Nat.le_refl _))).join hK.srt (j3.frm (.inr hK.frm))⟩
      by_cases q1:c<e
      ·have d1:decide ((c:Int)<e)=true:=by simp;omega
       by_cases q2:e<b
       ·have d2:decide ((e:Int)<b)=true:=by simp;omega
        simp +contextual (disch:=omega) only[go_sem,e0,e3,e4,e18,e24,d1,d2]
        obtain⟨_,τ1,R1,rfl,K,H1,hK⟩:=symU_ret C w c e b N τ (by omega) H hmN q1 q2 (by omega) (by omega) j1 j2
        refine by_m R1 H1 ?_
        simp +contextual (disch:=omega) only[go_sem]
        exact fun _=>⟨_,rfl,rfl,K,H1,fin K hK⟩
       ·have d2:decide ((e:Int)<b)=false:=by simp;omega
        simp +contextual (disch:=omega) only[go_sem,e0,e3,e4,e18,e24,d1,d2]
        exact fun _=>⟨_,rfl,rfl,N,H,fin N ⟨rfl,Sim.refl _,Frm.refl _ _ _,by rw[show b=e by omega];exact j1⟩⟩
      ·have d1:decide ((c:Int)<e)=false:=by simp;omega
       simp +contextual (disch:=omega) only[go_sem,e0,e3,e4,e18,e24,d1]
       exact fun _=>⟨_,rfl,rfl,N,H,fin N ⟨rfl,Sim.refl _,Frm.refl _ _ _,by rw[show c=e by omega];exact j2⟩⟩
end
end Go.Proofs.YtbeoiejnogdkpaaGreat.Sy
namespace Go.Proofs.YtbeoiejnogdkpaaGreat.Sy
open Go Go.RowKit Go.Sort
set_option linter.unusedSimpArgs false
set_option linter.unusedVariables false
set_option maxRecDepth 4000
abbrev n_slices_stableCmpFunc_impl_Unit:Nat:=229
def F_slices_stableCmpFunc_impl_Unit:Fn1:=⟨63,[],(.seq (.reg [o 6 (.mov (.k (.int .i64 20)))]) (.seq (.reg [o 10 (.mov (.t 6)),o 7 (.mov (.k (.int .i64 0))),o 8 (.mov (.t 10))]) (.seq (.blk 0 (.lop (.seq (.seq (.reg [o 11 (.mov (.t 8)),o 12 (.mov (.t 1)),o 13 (.bin .leq (.t 11) (.t 12))]) (.cnd (.t 13) .skip (.ext 0))) (.blk 1 (.seq (.reg [o 14 (.mov (.t 0)),o 15 (.mov (.t 7)),o 16 (.mov (.t 8)),o 17 (.mov (.t 2)),o 18 (.call 312 [(.t 14),(.t 15),(.t 16),(.t 17)])]) (.seq (.reg [o 19 (.mov (.t 8)),o 7 (.mov (.t 19))]) (.reg [o 20 (.mov (.t 8)),o 21 (.mov (.t 6)),o 22 (.bin .add (.t 20) (.t 21)),o 8 (.mov (.t 22))]))))))) (.seq (.reg [o 23 (.mov (.t 0)),o 24 (.mov (.t 7)),o 25 (.mov (.t 1)),o 26 (.mov (.t 2)),o 27 (.call 312 [(.t 23),(.t 24),(.t 25),(.t 26)])]) (.blk 2 (.lop (.seq (.seq (.reg [o 28 (.mov (.t 6)),o 29 (.mov (.t 1)),o 30 (.bin .lss (.t 28) (.t 29))]) (.cnd (.t 30) .skip (.ext 2))) (.blk 3 (.seq (.reg [o 31 (.mov (.t 6)),o 32 (.bin .mul (.k (.int .i64 2)) (.t 31)),o 7 (.mov (.k (.int .i64 0))),o 8 (.mov (.t 32))]) (.seq (.blk 4 (.lop (.seq (.seq (.reg [o 33 (.mov (.t 8)),o 34 (.mov (.t 1)),o 35 (.bin .leq (.t 33) (.t 34))]) (.cnd (.t 35) .skip (.ext 4))) (.blk 5 (.seq (.reg [o 36 (.mov (.t 0)),o 37 (.mov (.t 7)),o 38 (.mov (.t 7)),o 39 (.mov (.t 6)),o 40 (.bin .add (.t 38) (.t 39)),o 41 (.mov (.t 8)),o 42 (.mov (.t 2)),o 43 (.call 313 [(.t 36),(.t 37),(.t 40),(.t 41),(.t 42)])]) (.seq (.reg [o 44 (.mov (.t 8)),o 7 (.mov (.t 44))]) (.reg [o 45 (.mov (.t 8)),o 46 (.mov (.t 6)),o 47 (.bin .mul (.k (.int .i64 2)) (.t 46)),o 48 (.bin .add (.t 45) (.t 47)),o 8 (.mov (.t 48))]))))))) (.seq (.seq (.reg [o 49 (.mov (.t 7)),o 50 (.mov (.t 6)),o 51 (.bin .add (.t 49) (.t 50)),o 9 (.mov (.t 51))]) (.seq (.reg [o 52 (.mov (.t 9)),o 53 (.mov (.t 1)),o 54 (.bin .lss (.t 52) (.t 53))]) (.cnd (.t 54) (.reg [o 55 (.mov (.t 0)),o 56 (.mov (.t 7)),o 57 (.mov (.t 9)),o 58 (.mov (.t 1)),o 59 (.mov (.t 2)),o 60 (.call 313 [(.t 55),(.t 56),(.t 57),(.t 58),(.t 59)])]) .skip))) (.reg [o 61 (.mov (.t 6)),o 62 (.bin .mul (.t 61) (.k (.int .i64 2))),o 6 (.mov (.t 62))]))))))))))))⟩
theorem ir_slices_stableCmpFunc_impl_Unit:compFn Tryz.prog n_slices_stableCmpFunc_impl_Unit=some F_slices_stableCmpFunc_impl_Unit:=by kernel_rfl
abbrev n_slices_SortStableFunc_impl_Unit_impl_Unit:Nat:=103
def F_slices_SortStableFunc_impl_Unit_impl_Unit:Fn1:=⟨9,[],(.reg [o 4 (.mov (.t 0)),o 5 (.mov (.t 0)),o 6 (.len false (.t 5)),o 7 (.mov (.t 1)),o 8 (.call 229 [(.t 4),(.t 6),(.t 7)])])⟩
theorem ir_slices_SortStableFunc_impl_Unit_impl_Unit:compFn Tryz.prog n_slices_SortStableFunc_impl_Unit_impl_Unit=some F_slices_SortStableFunc_impl_Unit_impl_Unit:=by kernel_rfl
def Pcs (f:Nat→Option UC) (d n:Nat):Prop:=∀ a,d∣a→Srt ltU f a (min (a+d) n)
theorem dv_lt {d a b:Nat} (ha:d∣a) (hb:d∣b) (h:a<b):a+d≤b:=by
 obtain⟨x,rfl⟩:=ha
 obtain⟨y,rfl⟩:=hb
 have h1:x<y:=by
  rcases Nat.lt_or_ge x y with h2|h2
  ·exact h2
  ·exact absurd (Nat.mul_le_mul_left d h2) (by omega)
 have:=Nat.mul_le_mul_left d (show x+1≤y from h1)
 rw[Nat.mul_add,Nat.mul_one] at this
 exact this
theorem pcs_step {f g:Nat→Option UC} {a d n:Nat} (hd:0<d) (ha:d∣a) (hb:a+d≤n) (h:∀ p,d∣p→p<a→Srt ltU f p (min (p+d) n)) (hF:Frm f g a (a+d)) (hs:Srt ltU g a (a+d)):∀ p,d∣p→p<a+d→Srt ltU g p (min (p+d) n):=fun p hp hpa=>by
 rcases Nat.lt_trichotomy p a with h1|rfl|h1
 ·have:=dv_lt hp ha h1
  exact(h p hp h1).frm hF (.inl (by omega))
 ·rw[Nat.min_eq_left hb];exact hs
 ·have:=dv_lt ha hp h1
  omega
theorem pcs_end {f g:Nat→Option UC} {a d n:Nat} (ha:d∣a) (hb:n<a+d) (h:∀ p,d∣p→p<a→Srt ltU f p (min (p+d) n)) (hF:Frm f g a n) (hs:Srt ltU g a n):Pcs g d n:=fun p hp=>by
 rcases Nat.lt_trichotomy p a with h1|rfl|h1
 ·have:=dv_lt hp ha h1
  exact(h p hp h1).frm hF (.inl (by omega))
 ·rw[Nat.min_eq_right (by omega)];exact hs
 ·have:=dv_lt ha hp h1
  exact Srt.one (by omega)
section
variable {σ0 σ:St} {v:GV} {L L0:List UC} {R:List Item}
set_option maxHeartbeats 2000000 in
theorem stbU_ret (C:CallU σ0 R L0) (H:Hx σ0 σ (.th (ow pU.kd v L)::R)) (hm:∀ x∈L,x∈L0) (hs:L.length≤1099511627776):∃ q τ,Ret Tryz.prog n_slices_stableCmpFunc_impl_Unit [v,gi L.length,.fn n_i_ByOrder_f1 []] σ q τ∧q= .tup []∧Hx σ0 τ (.th (ow pU.kd v (insAll ltU L))::R):=by
 refine ret_x ir_slices_stableCmpFunc_impl_Unit (Nat.le_of_ble_eq_true rfl) H ?_
 obtain⟨n,hn⟩:∃ n,n=L.length:=⟨_,rfl⟩
 rw[← hn]
 have mem:∀ {M:List UC},Sim ltU L M→∀ x∈M,x∈L0:=fun hS x hx=>hm x ((Sim.perm ltU_swo hS).mem_iff.2 hx)
 simp +contextual (disch:=omega) only[go_sem,F_slices_stableCmpFunc_impl_Unit]
 refine sx_lop n 0 (fun k env h=>env 0=v∧env 1=gi n∧env 2= .fn n_i_ByOrder_f1 []∧env 6=gi 20∧∃(a:Nat) (M:List UC),env 7=gi a∧env 8=gi ((a:Int)+20)∧k=n - a∧a≤n∧20∣a∧M.length=n∧Sim ltU L M∧(∀ p,20∣p→p<a→Srt ltU (ga M) p (min (p+20) n))∧h= .th (ow pU.kd v M)::R) (fun env h=>env 0=v∧env 1=gi n∧env 2= .fn n_i_ByOrder_f1 []∧env 6=gi 20∧∃(a:Nat) (M:List UC),env 7=gi a∧a≤n∧n<a+20∧20∣a∧M.length=n∧Sim ltU L M∧(∀ p,20∣p→p<a→Srt ltU (ga M) p (min (p+20) n))∧h= .th (ow pU.kd v M)::R) (fun _ _=>False) _ H ⟨by simp +contextual (disch:=omega) only[go_sem],by simp +contextual (disch:=omega) only[go_sem],by simp +contextual (disch:=omega) only[go_sem],by simp +contextual (disch:=omega) only[go_sem],0,L,by simp +contextual (disch:=omega) only[go_sem],by simp +contextual (disch:=omega) only[go_sem,Int.zero_add],by omega,by omega,⟨0,rfl⟩,hn.symm,Sim.refl _,fun p _ h=>by omega,rfl⟩ ?_ ?_ (fun _ _ _ _ h=>h.elim)
 ·clear H
  rintro J Y W hJ hY hW k env h' τ H ⟨e0,e1,e2,e6,a,M,e7,e8,rfl,han,hda,hM,hS,hP,rfl⟩
  rcases Nat.lt_or_ge n (a+20) with hl|hl
  ·have c0:decide ((a:Int)+20≤n)=false:=by simp;omega
   simp +contextual (disch:=omega) only[go_sem,c0,e0,e1,e2,e6,e7,e8]
   exact hY _ _ _ H ⟨by simp +contextual (disch:=omega) only[go_sem,e0],by simp +contextual (disch:=omega) only[go_sem,e1],by simp +contextual (disch:=omega) only[go_sem,e2],by simp +contextual (disch:=omega) only[go_sem,e6],a,M,by simp +contextual (disch:=omega) only[go_sem,e7],han,hl,hda,hM,hS,hP,rfl⟩
  ·have c0:decide ((a:Int)+20≤n)=true:=by simp;omega
   obtain⟨b,hb⟩:∃ b:Nat,b=a+20:=⟨_,rfl⟩
   have hb':(a:Int)+20=b:=by omega
   rw[hb'] at c0 e8
   simp +contextual (disch:=omega) only[go_sem,c0,e0,e1,e2,e6,e7,e8]
   obtain⟨_,τ1,R1,rfl,N,H1,hO⟩:=insU_ret (a:=a) (b:=b) C H (mem hS) (by omega) (by omega) (by omega)
   refine by_m R1 H1 ?_
   simp +contextual (disch:=omega) only[go_sem,e0,e1,e2,e6,e7,e8]
   have hNl:=hO.len
   refine⟨n - b,by omega,hJ _ _ _ _ H1 ⟨by simp +contextual (disch:=omega) only[go_sem,e0],by simp +contextual (disch:=omega) only[go_sem,e1],by simp +contextual (disch:=omega) only[go_sem,e2],by simp +contextual (disch:=omega) only[go_sem,e6],b,N,by simp +contextual (disch:=omega) only[go_sem],by simp +contextual (disch:=omega) only[go_sem],rfl,by omega,by omega,by omega,hS.trans hO.sim,?_,rfl⟩⟩
   subst hb
   exact pcs_step (by omega) hda hl hP hO.frm hO.srt
 ·clear H
  rintro env h' τ H ⟨e0,e1,e2,e6,a,M,e7,han,hl,hda,hM,hS,hP,rfl⟩
  simp +contextual (disch:=omega) only[go_sem,e0,e1,e2,e6,e7]
  obtain⟨_,τ1,R1,rfl,N,H1,hO⟩:=insU_ret (a:=a) (b:=n) C H (mem hS) (by omega) (by omega) (by omega)
  refine by_m R1 H1 ?_
  simp +contextual (disch:=omega) only[go_sem,e0,e1,e2,e6,e7]
  have hNl:=hO.len
  have hPN:Pcs (ga N) 20 n:=pcs_end hda hl hP hO.frm hO.srt
  have hSN:=hS.trans hO.sim
  clear hP hO R1 H hS e7 han hl hda
  refine sx_lop (n - 20) 2 (fun k env h=>env 0=v∧env 1=gi n∧env 2= .fn n_i_ByOrder_f1 []∧∃(d:Nat) (M:List UC),env 6=gi d∧k=n - d∧0<d∧d≤2*n+20∧M.length=n∧Sim ltU L M∧Pcs (ga M) d n∧h= .th (ow pU.kd v M)::R) (fun env h=>h= .th (ow pU.kd v (insAll ltU L))::R) (fun _ _=>False) _ H1 ⟨by simp +contextual (disch:=omega) only[go_sem,e0],by simp +contextual (disch:=omega) only[go_sem,e1],by simp +contextual (disch:=omega) only[go_sem,e2],20,N,by simp +contextual (disch:=omega) only[go_sem,e6],rfl,by omega,by omega,by omega,hSN,hPN,rfl⟩ ?_ ?_ (fun _ _ _ _ h=>h.elim)
  ·clear H1 e0 e1 e2 e6 hPN hSN hNl N τ1
   rintro J Y W hJ hY hW k env h' τ H ⟨e0,e1,e2,d,M,e6,rfl,hd,hd2,hM,hS,hP,rfl⟩
   rcases Nat.lt_or_ge d n with hl|hl
   ·have c0:decide ((d:Int)<n)=true:=by simp;omega
    obtain⟨d2,hdd⟩:∃ q:Nat,q=2*d:=⟨_,rfl⟩
    have s1:2*(d:Int)=d2:=by omega
    have s2:(d:Int)*2=d2:=by omega
    simp +contextual (disch:=omega) only[go_sem,c0,e0,e1,e2,e6,s1]
    refine sx_lop n 4 (fun k env h=>env 0=v∧env 1=gi n∧env 2= .fn n_i_ByOrder_f1 []∧env 6=gi d∧∃(a:Nat) (M:List UC),env 7=gi a∧env 8=gi ((a:Int)+d2)∧k=n - a∧a≤n∧d2∣a∧M.length=n∧Sim ltU L M∧(∀ p,d2∣p→p<a→Srt ltU (ga M) p (min (p+d2) n))∧(∀ p,d∣p→a≤p→Srt ltU (ga M) p (min (p+d) n))∧h= .th (ow pU.kd v M)::R) (fun env h=>env 0=v∧env 1=gi n∧env 2= .fn n_i_ByOrder_f1 []∧env 6=gi d∧∃(a:Nat) (M:List UC),env 7=gi a∧a≤n∧n<a+d2∧d2∣a∧M.length=n∧Sim ltU L M∧(∀ p,d2∣p→p<a→Srt ltU (ga M) p (min (p+d2) n))∧(∀ p,d∣p→a≤p→Srt ltU (ga M) p (min (p+d) n))∧h= .th (ow pU.kd v M)::R) (fun _ _=>False) _ H ⟨by simp +contextual (disch:=omega) only[go_sem,e0],by simp +contextual (disch:=omega) only[go_sem,e1],by simp +contextual (disch:=omega) only[go_sem,e2],by simp +contextual (disch:=omega) only[go_sem,e6],0,M,by simp +contextual (disch:=omega) only[go_sem],by simp +contextual (disch:=omega) only[go_sem,Int.zero_add],by omega,by omega,⟨0,rfl⟩,hM,hS,fun p _ h=>by omega,fun p hp _=>hP p hp,rfl⟩ ?_ ?_ (fun _ _ _ _ h=>h.elim)
    ·clear H e0 e1 e2 e6 hP hS hM M hJ hY hW J Y W
     rintro J Y W hJ hY hW k env h' τ H ⟨e0,e1,e2,e6,a,M,e7,e8,rfl,han,hda,hM,hS,hP,hP2,rfl⟩
     have hda1:d∣a:=Nat.dvd_trans ⟨2,by omega⟩ hda
     rcases Nat.lt_or_ge n (a+d2) with hl|hl
     ·have c0:decide ((a:Int)+d2≤n)=false:=by simp;omega
      simp +contextual (disch:=omega) only[go_sem,c0,e0,e1,e2,e6,e7,e8]
      exact hY _ _ _ H ⟨by simp +contextual (disch:=omega) only[go_sem,e0],by simp +contextual (disch:=omega) only[go_sem,e1],by simp +contextual (disch:=omega) only[go_sem,e2],by simp +contextual (disch:=omega) only[go_sem,e6],a,M,by simp +contextual (disch:=omega) only[go_sem,e7],han,hl,hda,hM,hS,hP,hP2,rfl⟩
     ·obtain⟨b,hb⟩:∃ b:Nat,b=a+d2:=⟨_,rfl⟩
      have hb':(a:Int)+d2=b:=by omega
      obtain⟨m,hmm⟩:∃ m:Nat,m=a+d:=⟨_,rfl⟩
      have hm':(a:Int)+d=m:=by omega
      rw[hb'] at e8
      have c0:decide ((b:Int)≤n)=true:=by simp;omega
      simp +contextual (disch:=omega) only[go_sem,c0,e0,e1,e2,e6,e7,e8,hm',s1]
      have q1:Srt ltU (ga M) a m:=by have:=hP2 a hda1 (Nat.le_refl _);rw[Nat.min_eq_left (by omega)] at this;rw[hmm];exact this
      have q2:Srt ltU (ga M) m b:=by
       have:=hP2 m (by rw[hmm];exact Nat.dvd_add hda1 (Nat.dvd_refl _)) (by omega)
       rw[Nat.min_eq_left (by omega)] at this
       rw[show b=m+d by omega];exact this
      obtain⟨_,τ1,R1,rfl,N,H1,hO⟩:=symU_ret C (b - a) a m b M τ (Nat.le_refl _) H (mem hS) (by omega) (by omega) (by omega) (by omega) q1 q2
      refine by_m R1 H1 ?_
      simp +contextual (disch:=omega) only[go_sem,e0,e1,e2,e6,e7,e8,s1]
      have hNl:=hO.len
      refine⟨n - b,by omega,hJ _ _ _ _ H1 ⟨by simp +contextual (disch:=omega) only[go_sem,e0],by simp +contextual (disch:=omega) only[go_sem,e1],by simp +contextual (disch:=omega) only[go_sem,e2],by simp +contextual (disch:=omega) only[go_sem,e6],b,N,by simp +contextual (disch:=omega) only[go_sem],by simp +contextual (disch:=omega) only[go_sem],rfl,by omega,by rw[hb];exact Nat.dvd_add hda (Nat.dvd_refl _),by omega,hS.trans hO.sim,?_,fun p hp hbp=>(hP2 p hp (by omega)).frm hO.frm (.inr hbp),rfl⟩⟩
      subst hb
      exact pcs_step (by omega) hda hl hP hO.frm hO.srt
    ·clear H e0 e1 e2 e6 hP hS hM M
     rintro env h' τ H ⟨e0,e1,e2,e6,a,M,e7,han,hln,hda,hM,hS,hP,hP2,rfl⟩
     have hda1:d∣a:=Nat.dvd_trans ⟨2,by omega⟩ hda
     obtain⟨m,hmm⟩:∃ m:Nat,m=a+d:=⟨_,rfl⟩
     have hm':(a:Int)+d=m:=by omega
     rcases Nat.lt_or_ge m n with hmn|hmn
     ·have c1:decide ((m:Int)<n)=true:=by simp;omega
      simp +contextual (disch:=omega) only[go_sem,e0,e1,e2,e6,e7,hm',c1]
      have q1:Srt ltU (ga M) a m:=by have:=hP2 a hda1 (Nat.le_refl _);rw[Nat.min_eq_left (by omega)] at this;rw[hmm];exact this
      have q2:Srt ltU (ga M) m n:=by
       have:=hP2 m (by rw[hmm];exact Nat.dvd_add hda1 (Nat.dvd_refl _)) (by omega)
       rw[Nat.min_eq_right (by omega)] at this
       exact this
      obtain⟨_,τ1,R1,rfl,N,H1,hO⟩:=symU_ret C (n - a) a m n M τ (Nat.le_refl _) H (mem hS) (by omega) (by omega) (by omega) (by omega) q1 q2
      refine by_m R1 H1 ?_
      simp +contextual (disch:=omega) only[go_sem,e0,e1,e2,e6,e7,s2]
      have hNl:=hO.len
      exact⟨n - d2,by omega,hJ _ _ _ _ H1 ⟨by simp +contextual (disch:=omega) only[go_sem,e0],by simp +contextual (disch:=omega) only[go_sem,e1],by simp +contextual (disch:=omega) only[go_sem,e2],d2,N,by simp +contextual (disch:=omega) only[go_sem],rfl,by omega,by omega,by omega,hS.trans hO.sim,pcs_end hda hln hP hO.frm hO.srt,rfl⟩⟩
     ·have c1:decide ((m:Int)<n)=false:=by simp;omega
      simp +contextual (disch:=omega) only[go_sem,e0,e1,e2,e6,e7,hm',c1,s2]
      exact⟨n - d2,by omega,hJ _ _ _ _ H ⟨by simp +contextual (disch:=omega) only[go_sem,e0],by simp +contextual (disch:=omega) only[go_sem,e1],by simp +contextual (disch:=omega) only[go_sem,e2],d2,M,by simp +contextual (disch:=omega) only[go_sem],rfl,by omega,by omega,hM,hS,pcs_end hda hln hP (Frm.refl _ _ _) (by
       have:=hP2 a hda1 (Nat.le_refl _)
       rw[Nat.min_eq_right (by omega)] at this
       exact this),rfl⟩⟩
   ·have c0:decide ((d:Int)<n)=false:=by simp;omega
    simp +contextual (disch:=omega) only[go_sem,c0,e0,e1,e2,e6]
    refine hY _ _ _ H ?_
    have h0:=hP 0 ⟨0,rfl⟩
    rw[Nat.min_eq_right (by omega),←hM] at h0
    rw[stable_insAll ltU_swo hS (srt_up h0)]
  ·rintro env h' τ H rfl
   simp +contextual (disch:=omega) only[go_sem]
   exact fun _=>⟨_,rfl,rfl⟩
theorem srtU_ret (C:CallU σ0 R L0) (H:Hx σ0 σ (.th (ow pU.kd v L)::R)) (hm:∀ x∈L,x∈L0) (hs:L.length≤1099511627776):∃ q τ,Ret Tryz.prog n_slices_SortStableFunc_impl_Unit_impl_Unit [v,.fn n_i_ByOrder_f1 []] σ q τ∧q= .tup []∧Hx σ0 τ (.th (ow pU.kd v (insAll ltU L))::R):=by
 refine ret_x ir_slices_SortStableFunc_impl_Unit_impl_Unit (Nat.le_of_ble_eq_true rfl) H ?_
 have hl:lenG false v=some (L.length:Int):=(H.hp.sl 0 rfl).len
 simp +contextual (disch:=omega) only[go_sem,F_slices_SortStableFunc_impl_Unit_impl_Unit,hl]
 obtain⟨_,τ1,R1,rfl,H1⟩:=stbU_ret C H hm hs
 refine by_m R1 H1 ?_
 simp +contextual (disch:=omega) only[go_sem]
 exact fun _=>⟨_,rfl,rfl⟩
end
end Go.Proofs.YtbeoiejnogdkpaaGreat.Sy
namespace Go.Proofs.YtbeoiejnogdkpaaGreat.Sy
open Go Go.RowKit Go.Sort
set_option linter.unusedSimpArgs false
set_option linter.unusedVariables false
set_option maxRecDepth 4000
abbrev n_i_ByOrder:Nat:=14
def F_i_ByOrder:Fn1:=⟨26,[.t 2,.t 3],(.seq (.reg [o 2 (.mov (.k .nilS)),o 3 (.mov (.k (.bool false)))]) (.seq (.seq (.reg [o 7 (.mov (.t 0)),o 8 (.len false (.t 7)),o 9 (.mov (.k (.int .i64 0)))]) (.blk 0 (.lop (.seq (.reg [o 10 (.bin .lss (.t 9) (.t 8))]) (.seq (.cnd (.t 10) .skip (.ext 0)) (.seq (.blk 1 (.seq (.reg [o 11 (.iad 17 (.t 7) (.t 9)),o 12 (.ld true 17 (.t 11)),o 5 (.new [(.bool false),(.int .i64 0),(.int .i64 0),(.int .i64 0),.nilS,(.int .i64 0),(.str ⟨#[]⟩),(.str ⟨#[]⟩),(.int .i64 0),(.int .i64 0),(.int .i64 0),.nilS,.nilS,.nilS,.nilS,.nilS,.nilS]),on (.st 17 (.t 5) (.t 12))]) (.seq (.reg [o 13 (.fad 0 (.t 5)),o 14 (.ld false 1 (.t 13)),o 15 (.mov (.t 14)),og 16 15 false (.ld true 17 (.t 5)),og 17 15 false (.call 101 [(.t 16)]),og 18 15 false (.un .not (.t 17)),o 19 (.pick (.t 15) (.k (.bool true)) (.t 18))]) (.cnd (.t 19) (.seq (.reg [o 2 (.mov (.k .nilS)),o 3 (.mov (.k (.bool false)))]) .ret) .skip)))) (.reg [o 20 (.bin .add (.t 9) (.k (.int .i64 1))),o 9 (.mov (.t 20))]))))))) (.seq (.reg [o 21 (.mov (.t 0)),o 22 (.call 102 [(.t 21)]),o 6 (.mov (.t 22))]) (.seq (.reg [o 23 (.mov (.t 6)),o 24 (.call 103 [(.t 23),(.k (.fn 104 []))])]) (.seq (.reg [o 25 (.mov (.t 6)),o 2 (.mov (.t 25)),o 3 (.mov (.k (.bool true)))]) .ret)))))⟩
theorem ir_i_ByOrder:compFn Tryz.prog n_i_ByOrder=some F_i_ByOrder:=by kernel_rfl
def innP (ps:List UC) (τ:St) (fp:List Nat):Prop:=∃ fps,All3 (kUnit_.O τ) (ps.map fun x=>x.1.1) (ps.map fun x=>x.1.2) fps∧fp=fps.flatten
def inn (ps:List UC):Thg:=⟨innP ps,fun⟨fps,hA,e⟩ hf=>⟨fps,hA.imp fun a b c hc ho=>kUnit_.loc ho fun g hg=>hf g (by rw[e];exact List.mem_flatten.2 ⟨c,hc,hg⟩),e⟩⟩
section
variable {σ τ:St} {v:GV} {l:List Unit_} {ps qs:List UC} {rs:List Thg}
theorem inn_perm (h:ps.Perm qs):∀ fps,All3 (kUnit_.O τ) (ps.map fun x=>x.1.1) (ps.map fun x=>x.1.2) fps→∃ fps',All3 (kUnit_.O τ) (qs.map fun x=>x.1.1) (qs.map fun x=>x.1.2) fps'∧fps.flatten.Perm fps'.flatten:=by
 induction h with
 |nil=>exact fun fps h=>⟨fps,h,.refl _⟩
 |cons x _ ih=>
  intro fps h
  cases h with
  |cons hx hA=>
   obtain⟨f',h1,h2⟩:=ih _ hA
   exact⟨_::f',.cons hx h1,by rw[List.flatten_cons,List.flatten_cons];exact h2.append_left _⟩
 |swap x y l=>
  intro fps h
  cases h with
  |cons hx hA=>
   cases hA with
   |cons hy hA=>
    refine⟨_::_::_,.cons hy (.cons hx hA),?_⟩
    simp only[List.flatten_cons]
    rw[← List.append_assoc,←List.append_assoc]
    exact List.perm_append_comm.append_right _
 |trans _ _ ih1 ih2=>
  intro fps h
  obtain⟨f1,h1,h2⟩:=ih1 _ h
  obtain⟨f2,h3,h4⟩:=ih2 _ h1
  exact⟨f2,h3,h2.trans h4⟩
theorem all_uc:∀ {l:List Unit_} {css:List (List GV)} {fps:List (List Nat)},All3 (kUnit_.O τ) l css fps→∃ ps:List UC,(ps.map fun x=>x.1.1)=l∧(ps.map fun x=>x.1.2)=css
 |_,_,_,.nil=>⟨[],rfl,rfl⟩
 |_,_,_,.cons (a:=a) (b:=b) hx hA=>by
  obtain⟨ps,h1,h2⟩:=all_uc hA
  exact⟨⟨(a,b),kUnit_.len (kUnit_.rd hx)⟩::ps,congrArg (a::·) h1,congrArg (b::·) h2⟩
theorem uc_all:∀ ps:List UC,All3 (pU.kd.O τ) ps (ps.map fun x=>x.1.2) (ps.map fun _=>[])
 |[]=>.nil
 |x::ps=>.cons ⟨rfl,rfl⟩ (uc_all ps)
theorem uc_inv:∀ {ps:List UC} {css:List (List GV)} {fps:List (List Nat)},All3 (pU.kd.O τ) ps css fps→css=(ps.map fun x=>x.1.2)∧fps.flatten=[]
 |_,_,_,.nil=>⟨rfl,rfl⟩
 |_,_,_,.cons hx hA=>by
  obtain⟨h1,h2⟩:=uc_inv hA
  obtain⟨h3,h4⟩:=hx
  exact⟨by rw[h1,h3];rfl,by rw[List.flatten_cons,h2,h4];rfl⟩
theorem Hp.toUC (H:Hp σ τ (ow kUnit_ v l::rs)):∃ ps:List UC,(ps.map fun x=>x.1.1)=l∧Hp σ τ (ow pU.kd v ps::inn ps::rs):=by
 obtain⟨h,_,⟨a,b,hO,hs,rfl⟩,hn,hb⟩:=H
 rcases hO with⟨rfl,rfl,rfl⟩|⟨g,pre,css,post,fps,rfl,hB,hA,rfl⟩
 ·exact⟨[],rfl,h,_,⟨[],b,.inl ⟨rfl,rfl,rfl⟩,⟨[],b,⟨[],.nil,rfl⟩,hs,rfl⟩,rfl⟩,hn,hb⟩
 ·obtain⟨ps,rfl,rfl⟩:=all_uc hA
  refine⟨ps,rfl,h,_,⟨[g],fps.flatten++b,.inr ⟨g,pre,_,post,_,by rw[List.length_map],hB,uc_all ps,?_⟩,⟨fps.flatten,b,⟨fps,hA,rfl⟩,hs,rfl⟩,by simp⟩,hn,hb⟩
  rw[(uc_inv (uc_all (τ:=τ) ps)).2]
theorem Hp.ofUC (H:Hp σ τ (ow pU.kd v qs::inn ps::rs)) (hp:ps.Perm qs):Hp σ τ (ow kUnit_ v (qs.map fun x=>x.1.1)::rs):=by
 obtain⟨h,_,⟨a,_,hO,⟨_,b,⟨fps,hA,rfl⟩,hs,rfl⟩,rfl⟩,hn,hb⟩:=H
 obtain⟨f',hA',hP⟩:=inn_perm hp fps hA
 rcases hO with⟨rfl,rfl,rfl⟩|⟨g,pre,css,post,f0,rfl,hB,h3,rfl⟩
 ·cases hA'
  have e:fps.flatten=[]:=by simpa using hP
  rw[e] at hn hb
  exact⟨h,_,⟨[],b,.inl ⟨rfl,rfl,rfl⟩,hs,rfl⟩,hn,hb⟩
 ·obtain⟨rfl,e⟩:=uc_inv h3
  rw[e] at hn hb
  have hQ:([g]++(fps.flatten++b)).Perm ((g::f'.flatten)++b):=by
   rw[List.singleton_append,List.cons_append]
   exact(hP.append_right b).cons g
  exact⟨h,_,⟨g::f'.flatten,b,.inr ⟨g,pre,_,post,f',by rw[List.length_map],hB,hA',rfl⟩,hs,rfl⟩,hQ.nodup_iff.1 hn,fun x hx=>hb x (hQ.mem_iff.2 hx)⟩
theorem inn_rd (H:Hp σ τ rs) (i:Nat) (hi:rs[i]? =some (inn ps)) {x:UC} (hx:x∈ps):kUnit_.R τ x.1.1 x.1.2:=by
 obtain⟨_,_,⟨a,b,⟨fps,hA,_⟩,_,_⟩,_,_⟩:=H.pick i hi
 obtain⟨j,hj,rfl⟩:=List.getElem_of_mem hx
 obtain⟨cs,f,h1,_,h2⟩:=hA.get (j:=j) (a:=ps[j].1.1) (by simp[hj])
 have:cs=ps[j].1.2:=by simp[hj] at h1;exact h1.symm
 subst this
 exact kUnit_.rd h2
theorem insB_fst (x:UC):∀ l:List UC,((insB ltU x l).map fun x=>x.1.1)=insB lessU x.1.1 (l.map fun x=>x.1.1)
 |[]=>rfl
 |y::l=>by
  simp only[insB,List.map_cons]
  by_cases h:ltU x y=true
  ·rw[if_pos h,if_pos (show lessU x.1.1 y.1.1=true from h)];rfl
  ·rw[if_neg h,if_neg (show ¬ lessU x.1.1 y.1.1=true from h),List.map_cons,insB_fst x l]
theorem insAll_fst (l:List UC):((insAll ltU l).map fun x=>x.1.1)=insAll lessU (l.map fun x=>x.1.1):=by
 have key:∀(l acc:List UC),((l.foldl (fun acc x=>insB ltU x acc) acc).map fun x=>x.1.1)=(l.map fun x=>x.1.1).foldl (fun acc x=>insB lessU x acc) (acc.map fun x=>x.1.1):=by
  intro l
  induction l with
  |nil=>intro acc;rfl
  |cons x l ih=>intro acc;rw[List.foldl_cons,ih,insB_fst];rfl
 exact key l []
end
set_option maxHeartbeats 1000000 in
theorem i_ByOrder_x (σ:St) (v:GV) (l:List Unit_) (h:RS kUnit_ σ v l) (hl:l.length+sumL msUnit l≤1048576):∃ q τ,Ret Tryz.prog n_i_ByOrder [v] σ q τ∧∃ w,q= .tup [w,.bool (allFit l)]∧Hp σ τ [ow kUnit_ w (byOrder l)]:=by
 refine ret_x ir_i_ByOrder (Nat.le_of_ble_eq_true rfl) (Hx.refl σ) ?_
 simp +contextual (disch:=omega) only[go_sem,F_i_ByOrder,h.len]
 refine sx_for l.length 9 0 (fun i env h=>env 0=v∧env 7=v∧env 8=gi l.length∧(∀ j (hj:j<l.length),j<i→fitU l[j]=true)∧h=[]) (fun env h=>env 0=v∧allFit l=true∧h=[]) (fun env h=>allFit l=false∧env 2= .nilS∧env 3= .bool false∧h=[]) _ (Hx.refl σ) (by simp +contextual (disch:=omega) only[go_sem]) ⟨by simp +contextual (disch:=omega) only[go_sem],by simp +contextual (disch:=omega) only[go_sem],by simp +contextual (disch:=omega) only[go_sem],fun j hj hh=>by omega,rfl⟩ ?_ ?_ ?_ ?_
 ·rintro J Y W hJ hY hW i env h' τ hi ei c0 H ⟨e0,e7,e8,ha,rfl⟩
  obtain⟨kv,d0,d1,d2,d3,d4,d5,U,hU,hA,hD⟩:=unit_row h hi
  have hmu:msUnit l[i]≤sumL msUnit l:=sumL_mem (f:=msUnit) (List.getElem_mem hi)
  simp +contextual (disch:=omega) only[go_sem,c0,e0,e7,e8,ei,natOf_nat,U]
  intro n2 f2 τ2 _ τ3 H3
  cases hb:l[i].batch with
  |true=>
   have hf:fitU l[i]=false:=by simp[fitU,hb]
   simp +contextual (disch:=omega) only[go_sem,c0,e0,e7,e8,ei,hb]
   exact hW _ _ _ (H3.re [] (by decide)) ⟨fit_no hi hf,by simp +contextual (disch:=omega) only[go_sem],by simp +contextual (disch:=omega) only[go_sem],rfl⟩
  |false=>
   simp +contextual (disch:=omega) only[go_sem,c0,e0,e7,e8,ei,hb]
   simp only[unV,hb] at hU
   refine by_b H3 (i_unitOk_ret _ _ l[i] (kUnit_.pre hU H3.sub) (by omega)) (fun h1=> ?_) (fun h1=> ?_)
   ·have hf:fitU l[i]=true:=by simp[fitU,hb,h1]
    simp +contextual (disch:=omega) only[go_sem,c0,e0,e7,e8,ei]
    exact hJ _ _ _ _ (H3.re [] (by decide)) ⟨by simp +contextual (disch:=omega) only[go_sem,e0],by simp +contextual (disch:=omega) only[go_sem,e7],by simp +contextual (disch:=omega) only[go_sem,e8],fit_snoc hi ha hf,rfl⟩
   ·have hf:fitU l[i]=false:=by simp[fitU,hb,h1]
    simp +contextual (disch:=omega) only[go_sem,c0,e0,e7,e8,ei]
    exact hW _ _ _ (H3.re [] (by decide)) ⟨fit_no hi hf,by simp +contextual (disch:=omega) only[go_sem],by simp +contextual (disch:=omega) only[go_sem],rfl⟩
 ·rintro Y hY env h' τ ei c0 H ⟨e0,e7,e8,ha,rfl⟩
  simp +contextual (disch:=omega) only[go_sem,c0,e8,ei]
  exact hY _ _ _ H ⟨e0,fit_all ha,rfl⟩
 ·rintro env h' τ H ⟨e0,hf,rfl⟩
  have hb:byOrder l=insAll lessU l:=by unfold byOrder;rw[if_pos hf]
  simp +contextual (disch:=omega) only[go_sem,e0]
  obtain⟨w,τ1,R1,K1⟩:=i_copyUnits_ret τ v l (h.pre H.sub) hl
  refine by_c H R1 K1 fun H1=> ?_
  simp +contextual (disch:=omega) only[go_sem]
  obtain⟨ps,hps,K2⟩:=Hp.toUC H1.hp
  have H2:Hx σ τ1 [.th (ow pU.kd w ps),.th (inn ps)]:=K2
  have hpl:ps.length=l.length:=by rw[← hps,List.length_map]
  have C:CallU σ [.th (inn ps)] ps:=fun τ v L H x hx y hy=>by
   have bd:∀ z∈ps,z.1.1.act.knew.length≤1099511627776:=fun z hz=>by
    have h1:z.1.1∈l:=by rw[← hps];exact List.mem_map.2 ⟨z,hz,rfl⟩
    have h2:msUnit z.1.1≤sumL msUnit l:=sumL_mem (f:=msUnit) h1
    have h3:z.1.1.act.knew.length≤msUnit z.1.1:=by unfold msUnit msAct;omega
    omega
   exact i_cmpU_ret τ x.1.2 y.1.2 x.1.1 y.1.1 (inn_rd H.hp 1 rfl hx) (inn_rd H.hp 1 rfl hy) (bd x hx) (bd y hy)
  obtain⟨_,τ2,R2,rfl,H3⟩:=srtU_ret C H2 (fun x hx=>hx) (by omega)
  refine by_m R2 H3 ?_
  have nt:=RdN.notup (H3.hp.sl 0 rfl)
  have K4:=Hp.ofUC (v:=w) (qs:=insAll ltU ps) (ps:=ps) (rs:=[]) H3.hp (insAll_perm _ _).symm
  rw[insAll_fst,hps,←hb] at K4
  simp +contextual (disch:=omega) only[go_sem,hf,nt]
  exact fun _=>⟨_,rfl,w,rfl,K4⟩
 ·rintro env h' τ H ⟨hf,e2,e3,rfl⟩
  have hb:byOrder l=[]:=by unfold byOrder;rw[if_neg (by simp[hf])]
  simp +contextual (disch:=omega) only[go_sem,e2,e3,hf]
  exact fun _=>⟨_,rfl,_,rfl,by rw[hb];exact(H.nil kUnit_).hp⟩
end Go.Proofs.YtbeoiejnogdkpaaGreat.Sy
namespace Go.Proofs.YtbeoiejnogdkpaaGreat.Sy
open Go Go.RowKit
theorem s_ByOrder_ret (σ:St) (v:GV) (l:List Unit_) (h:RS kUnit_ σ v l) (hl:l.length+sumL msUnit l≤1048576):∃ w τ,Ret Tryz.prog n_s_ByOrder [v] σ (.tup [w,.bool (allFit l)]) τ∧Hp σ τ [ow kUnit_ w (byOrder l)]:=by
 obtain⟨_,τ,R,w,rfl,H⟩:=s_ByOrder_x σ v l h hl
 exact⟨w,τ,R,H⟩
theorem i_ByOrder_ret (σ:St) (v:GV) (l:List Unit_) (h:RS kUnit_ σ v l) (hl:l.length+sumL msUnit l≤1048576):∃ w τ,Ret Tryz.prog n_i_ByOrder [v] σ (.tup [w,.bool (allFit l)]) τ∧Hp σ τ [ow kUnit_ w (byOrder l)]:=by
 obtain⟨_,τ,R,w,rfl,H⟩:=i_ByOrder_x σ v l h hl
 exact⟨w,τ,R,H⟩
theorem byOrder_ms (l:List Unit_):(byOrder l).length+sumL msUnit (byOrder l)≤l.length+sumL msUnit l:=by
 unfold byOrder
 split
 ·rw[insAll_length,sumL_perm msUnit (insAll_perm _ _)];exact Nat.le_refl _
 ·simp[sumL]
theorem ctU_le:∀ l:List Unit_,sumL ctU l≤10*(l.length+sumL msUnit l)
 |[]=>by simp[sumL]
 |x::l=>by
  have h:=ctU_le l
  have h1:sumL ctU (x::l)=ctU x+sumL ctU l:=by simp[sumL]
  have h2:sumL msUnit (x::l)=msUnit x+sumL msUnit l:=by simp[sumL]
  have h3:ctU x≤10+10*msUnit x:=by
   have:=ctDelta_le x.delta
   unfold ctU ctE msUnit msAct;omega
  rw[h1,h2,List.length_cons];omega
theorem byOrder_ct (l:List Unit_):sumL ctU (byOrder l)≤10*(l.length+sumL msUnit l):=Nat.le_trans (ctU_le _) (Nat.mul_le_mul_left 10 (byOrder_ms l))
end Go.Proofs.YtbeoiejnogdkpaaGreat.Sy
namespace Go.Proofs.YtbeoiejnogdkpaaGreat.Sy
open Go Go.RowKit
theorem zTally_w {x:Tally} (h:zTally x):wTally x:=h.1
theorem zTallyS_w {x:List Tally} (h:((x).length≤9223372036854775807∧∀ y6∈x,zTally (y6))):x.length≤9223372036854775807∧∀ y∈x,wTally y:=⟨h.1,fun y hy=>zTally_w (h.2 y hy)⟩
theorem zLive_w {x:Live} (h:zLive x):wLive x:=⟨h.2.1,h.2.2.1⟩
theorem zLiveS_w {x:List Live} (h:((x).length≤9223372036854775807∧∀ y5∈x,zLive (y5))):x.length≤9223372036854775807∧∀ y∈x,wLive y:=⟨h.1,fun y hy=>zLive_w (h.2 y hy)⟩
theorem zCell_w {x:Cell} (h:zCell x):wCell x:=h.1
theorem zCellS_w {x:List Cell} (h:((x).length≤9223372036854775807∧∀ y5∈x,zCell (y5))):x.length≤9223372036854775807∧∀ y∈x,wCell y:=⟨h.1,fun y hy=>zCell_w (h.2 y hy)⟩
theorem zAct_w {x:Act} (h:zAct x):wAct x:=⟨h.2.2.1.1,h.2.2.2.2.1,h.2.2.2.2.2.1⟩
theorem zDelta_w {x:Delta} (h:zDelta x):wDelta x:=⟨h.1.1,h.2.1.1,zTallyS_w h.2.2.1,zLiveS_w h.2.2.2.1,h.2.2.2.2.1.1,zCellS_w h.2.2.2.2.2⟩
theorem zUnit__w {x:Unit_} (h:zUnit_ x):wUnit x:=⟨zAct_w h.2.1,zDelta_w h.2.2⟩
theorem zUnitS_w {x:List Unit_} (h:((x).length≤9223372036854775807∧∀ y6∈x,zUnit_ (y6))):x.length≤9223372036854775807∧∀ y∈x,wUnit y:=⟨h.1,fun y hy=>zUnit__w (h.2 y hy)⟩
end Go.Proofs.YtbeoiejnogdkpaaGreat.Sy
namespace Go.Proofs.YtbeoiejnogdkpaaGreat.Sy
open Go Go.RowKit
set_option linter.unusedSimpArgs false
set_option linter.unusedVariables false
set_option maxRecDepth 4000
abbrev n_l_FnExactByOrder:Nat:=3
def F_l_FnExactByOrder:Fn1:=⟨96,[.t 2],(.seq (.reg [o 2 (.mov (.k (.bool false)))]) (.seq (.reg [o 3 (.mov (.k (.int .i64 1048576)))]) (.seq (.reg [o 14 (.mov (.t 0)),o 15 (.mov (.t 3)),o 16 (.call 11 [(.t 14),(.t 15)]),o 3 (.mov (.t 16))]) (.seq (.seq (.reg [o 17 (.mov (.t 3)),o 18 (.bin .lss (.t 17) (.k (.int .i64 0)))]) (.cnd (.t 18) (.seq (.reg [o 2 (.mov (.k (.bool true)))]) .ret) .skip)) (.seq (.reg [o 20 (.mov (.t 0)),o 21 (.call 13 [(.t 20)]),o 22 (.call 12 [(.t 21)]),o 19 (.mov (.t 22)),o 23 (.ext 0 (.t 19)),o 24 (.ext 1 (.t 19)),o 4 (.mov (.t 23)),o 5 (.mov (.t 24))]) (.seq (.reg [o 25 (.mov (.t 0)),o 26 (.call 13 [(.t 25)]),o 6 (.mov (.t 26))]) (.seq (.reg [o 28 (.mov (.t 6)),o 29 (.call 14 [(.t 28)]),o 27 (.mov (.t 29)),o 30 (.ext 0 (.t 27)),o 31 (.ext 1 (.t 27)),o 7 (.mov (.t 30)),o 8 (.mov (.t 31))]) (.seq (.seq (.reg [o 32 (.mov (.t 7)),o 33 (.mov (.t 4)),o 34 (.call 15 [(.t 32),(.t 33)]),o 35 (.un .not (.t 34)),o 36 (.mov (.t 35)),og 37 36 false (.mov (.t 8)),og 38 36 false (.mov (.t 5)),og 39 36 false (.eqb true (.t 37) (.t 38)),o 40 (.pick (.t 36) (.k (.bool true)) (.t 39))]) (.cnd (.t 40) (.seq (.reg [o 2 (.mov (.k (.bool false)))]) .ret) .skip)) (.seq (.seq (.reg [o 41 (.mov (.t 6)),o 42 (.mov (.t 0)),o 43 (.call 13 [(.t 42)]),o 44 (.call 15 [(.t 41),(.t 43)]),o 45 (.un .not (.t 44))]) (.cnd (.t 45) (.seq (.reg [o 2 (.mov (.k (.bool false)))]) .ret) .skip)) (.seq (.reg [o 9 (.mov (.k (.int .i64 1)))]) (.seq (.reg [o 46 (.mov (.t 6)),o 47 (.mov (.t 9)),o 48 (.call 16 [(.t 46),(.t 47)]),o 9 (.mov (.t 48))]) (.seq (.seq (.reg [o 49 (.mov (.t 9)),o 50 (.bin .lss (.t 49) (.k (.int .i64 0))),o 51 (.mov (.t 50)),og 52 51 false (.mov (.t 7)),og 53 51 false (.mov (.t 4)),og 54 51 false (.call 15 [(.t 52),(.t 53)]),og 55 51 false (.un .not (.t 54)),o 56 (.pick (.t 51) (.k (.bool true)) (.t 55)),o 57 (.mov (.t 56)),og 58 57 false (.mov (.t 8)),og 59 57 false (.mov (.t 5)),og 60 57 false (.eqb true (.t 58) (.t 59)),o 61 (.pick (.t 57) (.k (.bool true)) (.t 60))]) (.cnd (.t 61) (.seq (.reg [o 2 (.mov (.k (.bool false)))]) .ret) .skip)) (.seq (.reg [o 10 (.mov (.k (.int .i64 1)))]) (.seq (.reg [o 62 (.mov (.t 7)),o 63 (.mov (.t 10)),o 64 (.call 16 [(.t 62),(.t 63)]),o 10 (.mov (.t 64))]) (.seq (.reg [o 11 (.mov (.k (.int .i64 1)))]) (.seq (.reg [o 65 (.mov (.t 7)),o 66 (.mov (.t 11)),o 67 (.call 17 [(.t 65),(.t 66)]),o 11 (.mov (.t 67))]) (.seq (.seq (.reg [o 68 (.mov (.t 11)),o 69 (.bin .lss (.t 68) (.k (.int .i64 0)))]) (.cnd (.t 69) (.seq (.reg [o 2 (.mov (.k (.bool false)))]) .ret) .skip)) (.seq (.seq (.reg [o 70 (.mov (.t 11)),o 71 (.mov (.t 10)),o 72 (.bin .neq (.t 70) (.t 71))]) (.cnd (.t 72) (.seq (.reg [o 2 (.mov (.k (.bool false)))]) .ret) .skip)) (.seq (.reg [o 74 (.mov (.t 0)),o 75 (.call 13 [(.t 74)]),o 76 (.call 14 [(.t 75)]),o 73 (.mov (.t 76)),o 77 (.ext 0 (.t 73)),o 78 (.ext 1 (.t 73)),o 12 (.mov (.t 77)),o 13 (.mov (.t 78))]) (.seq (.seq (.reg [o 79 (.mov (.t 12)),o 80 (.mov (.t 4)),o 81 (.call 15 [(.t 79),(.t 80)]),o 82 (.un .not (.t 81)),o 83 (.mov (.t 82)),og 84 83 false (.mov (.t 13)),og 85 83 false (.mov (.t 5)),og 86 83 false (.eqb true (.t 84) (.t 85)),o 87 (.pick (.t 83) (.k (.bool true)) (.t 86))]) (.cnd (.t 87) (.seq (.reg [o 2 (.mov (.k (.bool false)))]) .ret) .skip)) (.seq (.reg [o 11 (.mov (.k (.int .i64 1)))]) (.seq (.reg [o 88 (.mov (.t 7)),o 89 (.mov (.t 11)),o 90 (.call 17 [(.t 88),(.t 89)]),o 11 (.mov (.t 90))]) (.seq (.seq (.reg [o 91 (.mov (.t 11)),o 92 (.bin .lss (.t 91) (.k (.int .i64 0)))]) (.cnd (.t 92) (.seq (.reg [o 2 (.mov (.k (.bool false)))]) .ret) .skip)) (.seq (.seq (.reg [o 93 (.mov (.t 11)),o 94 (.mov (.t 10)),o 95 (.bin .neq (.t 93) (.t 94))]) (.cnd (.t 95) (.seq (.reg [o 2 (.mov (.k (.bool false)))]) .ret) .skip)) (.seq (.reg [o 2 (.mov (.k (.bool true)))]) .ret)))))))))))))))))))))))))⟩
theorem ir_l_FnExactByOrder:compFn Tryz.prog n_l_FnExactByOrder=some F_l_FnExactByOrder:=by kernel_rfl
theorem law_ByOrder (σ:St) (v0:GV) (x0:List Unit_) (hR0:Sl eUnit_ σ v0 x0) (hw0:((x0).length≤9223372036854775807∧∀ y6∈x0,zUnit_ (y6))):∃ r τ,Ret Tryz.prog n_l_FnExactByOrder [v0] σ r τ∧r= .bool true:=by
 have hR0:RS kUnit_ σ v0 x0:=hR0.rs rfl (brUnit_)
 have hw0:=zUnitS_w hw0
 refine ret_law ir_l_FnExactByOrder (Nat.le_of_ble_eq_true rfl) ?_
 have hB:σ <+: σ:=List.prefix_refl _
 simp +contextual (disch:=omega) only[go_sem,F_l_FnExactByOrder,F_l_FnExactByOrder]
 refine by_ret (l_szUnitS_ret _ v0 x0 (hR0.pre (hB.trans (List.prefix_refl _))) (1048576) hw0 (by omega) (by omega)) ?_
 have ge0:= @lf_ge (1048576) ((x0.length+sumL msUnit x0))
 have gm0:= @lf_le (1048576) ((x0.length+sumL msUnit x0)) (by omega)
 try simp +contextual (disch:=omega) only[go_sem,List.append_nil,ite_self,ne_eq,not_true_eq_false,bne_self_eq_false,beq_self_eq_true,hR0.len]
 intro hn
 have hn:=of_decide_eq_false hn
 have hf0:=lf_some hn
 try simp +contextual (disch:=omega) only[go_sem,List.append_nil,ite_self,ne_eq,not_true_eq_false,bne_self_eq_false,beq_self_eq_true,hR0.len]
 have H:=Hp.refl (σ)
 try simp +contextual (disch:=omega) only[go_sem,List.append_nil,ite_self,ne_eq,not_true_eq_false,bne_self_eq_false,beq_self_eq_true,hR0.len]
 obtain⟨u1,τ1,R1,K1⟩:=l_toUnitS_ret _ v0 x0 (hR0.pre (hB.trans H.sub)) (by omega)
 refine by_hp R1 K1 ?_
 have H:=H.add K1
 try simp only[List.cons_append,List.nil_append] at H
 try simp +contextual (disch:=omega) only[go_sem,List.append_nil,ite_self,ne_eq,not_true_eq_false,bne_self_eq_false,beq_self_eq_true,hR0.len]
 obtain⟨c2_0,τ2,R2,p2⟩:=s_ByOrder_ret _ u1 x0 (H.sl 0 rfl) (by omega)
 have q2_0:=p2.sl 0 rfl
 have p2:=p2.sub
 refine by_new R2 p2 ?_
 have hpw:=H.sub.trans p2
 have H:=Hp.refl τ2
 have nt2_0:=RdN.notup q2_0
 try simp +contextual (disch:=omega) only[go_sem,List.append_nil,ite_self,ne_eq,not_true_eq_false,bne_self_eq_false,beq_self_eq_true,hR0.len,ext_sl nt2_0]
 obtain⟨u3,τ3,R3,K3⟩:=l_toUnitS_ret _ v0 x0 (hR0.pre (hB.trans (hpw.trans H.sub))) (by omega)
 refine by_hp R3 K3 ?_
 have H:=H.add K3
 try simp only[List.cons_append,List.nil_append] at H
 try simp +contextual (disch:=omega) only[go_sem,List.append_nil,ite_self,ne_eq,not_true_eq_false,bne_self_eq_false,beq_self_eq_true,hR0.len,ext_sl nt2_0]
 obtain⟨c4_0,τ4,R4,K4⟩:=i_ByOrder_ret _ u3 x0 (H.sl 0 rfl) (by omega)
 refine by_hp R4 K4 ?_
 have H:=H.add K4
 try simp only[List.cons_append,List.nil_append] at H
 have nt4_0:=RdN.notup (K4.sl 0 rfl)
 try simp +contextual (disch:=omega) only[go_sem,List.append_nil,ite_self,ne_eq,not_true_eq_false,bne_self_eq_false,beq_self_eq_true,hR0.len,ext_sl nt2_0,ext_sl nt4_0]
 try simp +contextual (disch:=omega) only[go_sem,List.append_nil,ite_self,ne_eq,not_true_eq_false,bne_self_eq_false,beq_self_eq_true,hR0.len,ext_sl nt2_0,ext_sl nt4_0]
 refine by_ret (l_eqUnitS_ret _ _ _ _ _ (H.sl 0 rfl) (q2_0.pre H.sub) (by have:=byOrder_ms x0;omega)) ?_
 try simp +contextual (disch:=omega) only[go_sem,List.append_nil,ite_self,ne_eq,not_true_eq_false,bne_self_eq_false,beq_self_eq_true,hR0.len,ext_sl nt2_0,ext_sl nt4_0,decide_true,eq_self]
 try simp +contextual (disch:=omega) only[go_sem,List.append_nil,ite_self,ne_eq,not_true_eq_false,bne_self_eq_false,beq_self_eq_true,hR0.len,ext_sl nt2_0,ext_sl nt4_0]
 obtain⟨u5,τ5,R5,K5⟩:=l_toUnitS_ret _ v0 x0 (hR0.pre (hB.trans (hpw.trans H.sub))) (by omega)
 refine by_hp R5 K5 ?_
 have H:=H.add K5
 try simp only[List.cons_append,List.nil_append] at H
 try simp +contextual (disch:=omega) only[go_sem,List.append_nil,ite_self,ne_eq,not_true_eq_false,bne_self_eq_false,beq_self_eq_true,hR0.len,ext_sl nt2_0,ext_sl nt4_0]
 refine by_ret (l_eqUnitS_ret _ _ _ _ _ (H.sl 2 rfl) (H.sl 0 rfl) (by omega)) ?_
 try simp +contextual (disch:=omega) only[go_sem,List.append_nil,ite_self,ne_eq,not_true_eq_false,bne_self_eq_false,beq_self_eq_true,hR0.len,ext_sl nt2_0,ext_sl nt4_0,decide_true,eq_self]
 obtain⟨τ6,R6,H⟩:=l_markUnitS_ret 2 u3 x0 (1) H rfl (by omega) (by have:=ctU_le x0;omega)
 refine by_mut R6 ?_
 try simp only[List.set_cons_succ,List.set_cons_zero] at H
 try simp +contextual (disch:=omega) only[go_sem,List.append_nil,ite_self,ne_eq,not_true_eq_false,bne_self_eq_false,beq_self_eq_true,hR0.len,ext_sl nt2_0,ext_sl nt4_0]
 have hng:decide ((1:Int)+(sumL ctU x0:Nat)<0)=false:=decide_eq_false (by omega)
 try simp +contextual (disch:=omega) only[go_sem,List.append_nil,ite_self,ne_eq,not_true_eq_false,bne_self_eq_false,beq_self_eq_true,hR0.len,ext_sl nt2_0,ext_sl nt4_0,dneg1,dneg2,hng]
 refine by_ret (l_eqUnitS_ret _ _ _ _ _ (H.sl 1 rfl) (q2_0.pre H.sub) (by have:=byOrder_ms x0;omega)) ?_
 try simp +contextual (disch:=omega) only[go_sem,List.append_nil,ite_self,ne_eq,not_true_eq_false,bne_self_eq_false,beq_self_eq_true,hR0.len,ext_sl nt2_0,ext_sl nt4_0,decide_true,eq_self]
 obtain⟨τ7,R7,H⟩:=l_markUnitS_ret 1 c4_0 _ (1) H rfl (by omega) (by have:=byOrder_ct x0;omega)
 refine by_mut R7 ?_
 try simp only[List.set_cons_succ,List.set_cons_zero] at H
 try simp +contextual (disch:=omega) only[go_sem,List.append_nil,ite_self,ne_eq,not_true_eq_false,bne_self_eq_false,beq_self_eq_true,hR0.len,ext_sl nt2_0,ext_sl nt4_0]
 refine by_ret (l_heldUnitS_ret _ _ (byOrder x0) 1 (H.sl 1 rfl) (by omega) (by have:=byOrder_ct x0;omega)) ?_
 try simp +contextual (disch:=omega) only[go_sem,List.append_nil,ite_self,ne_eq,not_true_eq_false,bne_self_eq_false,beq_self_eq_true,hR0.len,ext_sl nt2_0,ext_sl nt4_0,dneg1,dneg2]
 try simp +contextual (disch:=omega) only[go_sem,List.append_nil,ite_self,ne_eq,not_true_eq_false,bne_self_eq_false,beq_self_eq_true,hR0.len,ext_sl nt2_0,ext_sl nt4_0,dneg1,dneg2]
 try simp +contextual (disch:=omega) only[go_sem,List.append_nil,ite_self,ne_eq,not_true_eq_false,bne_self_eq_false,beq_self_eq_true,hR0.len,ext_sl nt2_0,ext_sl nt4_0,dneg1,dneg2]
 obtain⟨u8,τ8,R8,K8⟩:=l_toUnitS_ret _ v0 x0 (hR0.pre (hB.trans (hpw.trans H.sub))) (by omega)
 refine by_hp R8 K8 ?_
 have H:=H.add K8
 try simp only[List.cons_append,List.nil_append] at H
 try simp +contextual (disch:=omega) only[go_sem,List.append_nil,ite_self,ne_eq,not_true_eq_false,bne_self_eq_false,beq_self_eq_true,hR0.len,ext_sl nt2_0,ext_sl nt4_0]
 obtain⟨c9_0,τ9,R9,K9⟩:=i_ByOrder_ret _ u8 x0 (H.sl 0 rfl) (by omega)
 refine by_hp R9 K9 ?_
 have H:=H.add K9
 try simp only[List.cons_append,List.nil_append] at H
 have nt9_0:=RdN.notup (K9.sl 0 rfl)
 try simp +contextual (disch:=omega) only[go_sem,List.append_nil,ite_self,ne_eq,not_true_eq_false,bne_self_eq_false,beq_self_eq_true,hR0.len,ext_sl nt2_0,ext_sl nt4_0,ext_sl nt9_0]
 try simp +contextual (disch:=omega) only[go_sem,List.append_nil,ite_self,ne_eq,not_true_eq_false,bne_self_eq_false,beq_self_eq_true,hR0.len,ext_sl nt2_0,ext_sl nt4_0,ext_sl nt9_0]
 refine by_ret (l_eqUnitS_ret _ _ _ _ _ (H.sl 0 rfl) (q2_0.pre H.sub) (by have:=byOrder_ms x0;omega)) ?_
 try simp +contextual (disch:=omega) only[go_sem,List.append_nil,ite_self,ne_eq,not_true_eq_false,bne_self_eq_false,beq_self_eq_true,hR0.len,ext_sl nt2_0,ext_sl nt4_0,ext_sl nt9_0,decide_true,eq_self]
 refine by_ret (l_heldUnitS_ret _ _ (byOrder x0) 1 (H.sl 3 rfl) (by omega) (by have:=byOrder_ct x0;omega)) ?_
 try simp +contextual (disch:=omega) only[go_sem,List.append_nil,ite_self,ne_eq,not_true_eq_false,bne_self_eq_false,beq_self_eq_true,hR0.len,ext_sl nt2_0,ext_sl nt4_0,ext_sl nt9_0,dneg1,dneg2]
 try simp +contextual (disch:=omega) only[go_sem,List.append_nil,ite_self,ne_eq,not_true_eq_false,bne_self_eq_false,beq_self_eq_true,hR0.len,ext_sl nt2_0,ext_sl nt4_0,ext_sl nt9_0,dneg1,dneg2]
 try simp +contextual (disch:=omega) only[go_sem,List.append_nil,ite_self,ne_eq,not_true_eq_false,bne_self_eq_false,beq_self_eq_true,hR0.len,ext_sl nt2_0,ext_sl nt4_0,ext_sl nt9_0,dneg1,dneg2]
 exact(hB.trans (hpw.trans H.sub)).length_le
end Go.Proofs.YtbeoiejnogdkpaaGreat.Sy
