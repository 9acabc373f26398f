/- Texts of this proof, one behind the other. -/
import Derived.Test.YtbeoiejnogdkpaaGreatBBackEdits3
import Derived.Sort.AssemblyPlain
import Derived.Test.YtbeoiejnogdkpaaGreatProg
import Derived.KernelRfl
set_option linter.unusedSimpArgs false
set_option linter.unusedVariables false
set_option maxRecDepth 4000
namespace Go.Proofs.YtbeoiejnogdkpaaGreat.Sy
namespace O
open Go Go.RowKit Go.Proofs.YtbeoiejnogdkpaaGreat.Sy Go.Sort
variable {α:Type} [Inhabited α] {lt:α→α→Bool} {σ0 σ:St} {rs:List Thg} {k g:Nat} {s:Int} {v:GV} {d:Array α}
theorem order2_ret (S:SrtO α lt) (H:Holds S.e σ0 σ (pt 1 g [gi s]::rs) (k+1) v d) {a b:Nat} (ha:a<d.size) (hb:b<d.size):∃(r1 r2:Nat) (s':Int) (τ:St),Ret Tryz.prog S.q.order2 [v,gi a,gi b,.ptr g 0] σ (.tup [gi r1,gi r2]) τ∧Holds S.e σ0 τ (pt 1 g [gi s']::rs) (k+1) v d∧((r1=a∧r2=b)∨(r1=b∧r2=a)):=by
 have key:∃ r τ,Ret Tryz.prog S.q.order2 [v,gi a,gi b,.ptr g 0] σ r τ∧∃(r1 r2:Nat) (s':Int),r= .tup [gi r1,gi r2]∧Holds S.e σ0 τ (pt 1 g [gi s']::rs) (k+1) v d∧((r1=a∧r2=b)∨(r1=b∧r2=a)):=by
  refine Ao S.h_order2 (Z0z rfl) ?_
  simp +contextual (disch:=omega) only[go_sem,Wt,A2,H.iad ha,H.ld ha,H.iad hb,H.ld hb]
  refine A7 (S.call _ _ _) ?_
  cases hl:lt d[b]! d[a]! with
  |true=>
   have l1:=A0 (a:=false) (n:=1) (off:=0) (H.2.pt 0 rfl)
   have l1:ldG false 1 σ (.ptr g 0)=some (gi s):=l1
   obtain⟨τ1,st1,H1,hl1⟩:=H.2.st 0 rfl 1 0 (gi (IntKind.i64.wrap (s+1))) rfl (by decide) (by simp)
   simp +contextual (disch:=omega) only[go_sem,hl,l1,st1]
   exact⟨_,rfl,by omega,b,a,IntKind.i64.wrap (s+1),rfl,⟨H.1,H1⟩,.inr ⟨rfl,rfl⟩⟩
  |false=>
   simp +contextual (disch:=omega) only[go_sem,hl]
   exact⟨_,rfl,a,b,s,rfl,H,.inl ⟨rfl,rfl⟩⟩
 obtain⟨r,τ,R,r1,r2,s',rfl,h1,h2⟩:=key
 exact⟨r1,r2,s',τ,R,h1,h2⟩
theorem median_ret (S:SrtO α lt) (H:Holds S.e σ0 σ (pt 1 g [gi s]::rs) (k+1) v d) {a b c:Nat} (ha:a<d.size) (hb:b<d.size) (hc:c<d.size):∃(r1:Nat) (s':Int) (τ:St),Ret Tryz.prog S.q.median [v,gi a,gi b,gi c,.ptr g 0] σ (gi r1) τ∧Holds S.e σ0 τ (pt 1 g [gi s']::rs) (k+1) v d∧(r1=a∨r1=b∨r1=c):=by
 have key:∃ r τ,Ret Tryz.prog S.q.median [v,gi a,gi b,gi c,.ptr g 0] σ r τ∧∃(r1:Nat) (s':Int),r=gi r1∧Holds S.e σ0 τ (pt 1 g [gi s']::rs) (k+1) v d∧(r1=a∨r1=b∨r1=c):=by
  refine Ao S.h_median (Z0z rfl) ?_
  simp +contextual (disch:=omega) only[go_sem,Wr]
  obtain⟨a1,b1,s1,τ1,R1,H1,h1⟩:=order2_ret S H ha hb
  refine Aj R1 ?_
  simp +contextual (disch:=omega) only[go_sem]
  obtain⟨b2,c2,s2,τ2,R2,H2,h2⟩:=order2_ret S H1 (a:=b1) (b:=c) (by omega) hc
  refine Aj R2 ?_
  simp +contextual (disch:=omega) only[go_sem]
  obtain⟨a3,b3,s3,τ3,R3,H3,h3⟩:=order2_ret S H2 (a:=a1) (b:=b2) (by omega) (by omega)
  refine Aj R3 ?_
  simp +contextual (disch:=omega) only[go_sem]
  have:=R1.2.1
  have:=R2.2.1
  have:=R3.2.1
  exact⟨_,rfl,by omega,b3,s3,rfl,H3,by omega⟩
 obtain⟨r,τ,R,r1,s',rfl,h1,h2⟩:=key
 exact⟨r1,s',τ,R,h1,h2⟩
theorem medAdj_ret (S:SrtO α lt) (H:Holds S.e σ0 σ (pt 1 g [gi s]::rs) (k+1) v d) {a:Nat} (h0:0<a) (ha:a+1<d.size) (hs:d.size≤1099511627776):∃(r1:Nat) (s':Int) (τ:St),Ret Tryz.prog S.q.medianAdjacent [v,gi a,.ptr g 0] σ (gi r1) τ∧Holds S.e σ0 τ (pt 1 g [gi s']::rs) (k+1) v d∧a≤r1+1∧r1≤a+1:=by
 have key:∃ r τ,Ret Tryz.prog S.q.medianAdjacent [v,gi a,.ptr g 0] σ r τ∧∃(r1:Nat) (s':Int),r=gi r1∧Holds S.e σ0 τ (pt 1 g [gi s']::rs) (k+1) v d∧a≤r1+1∧r1≤a+1:=by
  refine Ao S.h_medianAdjacent (Z0z rfl) ?_
  obtain⟨p,rfl⟩:∃ p,a=p+1:=⟨a - 1,by omega⟩
  have p1:(p:Int)+1 - 1=p:=by omega
  simp +contextual (disch:=omega) only[go_sem,Hw,p1]
  obtain⟨r1,s1,τ1,R1,H1,h1⟩:=median_ret S H (a:=p) (b:=p+1) (c:=p+1+1) (by omega) (by omega) (by omega)
  refine Aj R1 ?_
  simp +contextual (disch:=omega) only[go_sem]
  have:=R1.2.1
  exact⟨_,rfl,by omega,r1,s1,rfl,H1,by omega,by omega⟩
 obtain⟨r,τ,R,r1,s',rfl,h1,h2⟩:=key
 exact⟨r1,s',τ,R,h1,h2⟩
theorem choose_ret (S:SrtO α lt) (H:Holds S.e σ0 σ rs k v d) {a b:Nat} (hab:a<b) (hb:b≤d.size) (hs:d.size≤1099511627776):∃(p h:Nat) (τ:St),Ret Tryz.prog S.q.choosePivot [v,gi a,gi b] σ (.tup [gi p,gi h]) τ∧Holds S.e σ0 τ rs k v d∧a≤p∧p<b∧h≤2:=by
 have key:∃ r τ,Ret Tryz.prog S.q.choosePivot [v,gi a,gi b] σ r τ∧∃(p h:Nat),r= .tup [gi p,gi h]∧Holds S.e σ0 τ rs k v d∧a≤p∧p<b∧h≤2:=by
  refine Ao S.h_choosePivot (Z0z rfl) ?_
  obtain⟨l,hl⟩:∃ l,l=b - a:=⟨_,rfl⟩
  have hlI:(b:Int) - a=l:=by omega
  obtain⟨q,hq⟩:∃ q,q=l / 4:=⟨_,rfl⟩
  have hqI:(l:Int).tdiv 4=q:=by rw[hq];rfl
  obtain⟨i,hi⟩:∃ i,i=a+q*1:=⟨_,rfl⟩
  obtain⟨j,hj⟩:∃ i,i=a+q*2:=⟨_,rfl⟩
  obtain⟨m,hm⟩:∃ i,i=a+q*3:=⟨_,rfl⟩
  have hiI:(a:Int)+q*1=i:=by omega
  have hjI:(a:Int)+q*2=j:=by omega
  have hmI:(a:Int)+q*3=m:=by omega
  have H0:Holds S.e σ0 (σ++[some (.row 1 [gi 0])]) (pt 1 σ.length [gi 0]::rs) (k+1) v d:=⟨by simpa using H.1,H.2.new 1 [gi 0]⟩
  have L0:(σ++[some (Blk.row 1 [GV.int IntKind.i64 0])]).length=σ.length+1:=by simp
  have L1:(σ++[some (Blk.row 1 [gi 0])]).length=σ.length+1:=L0
  by_cases h8:8≤l
  ·have c8:decide ((8:Int)≤l)=true:=by simp;omega
   by_cases h50:50≤l
   ·have c50:decide ((50:Int)≤l)=true:=by simp;omega
    simp +contextual (disch:=omega) only[go_sem,F1,hlI,hqI,hiI,hjI,hmI,c8,c50]
    obtain⟨i1,s1,τ1,R1,H1,h1,h1'⟩:=medAdj_ret S H0 (a:=i) (by omega) (by omega) hs
    refine Aj R1 ?_
    simp +contextual (disch:=omega) only[go_sem]
    obtain⟨j1,s2,τ2,R2,H2,h2,h2'⟩:=medAdj_ret S H1 (a:=j) (by omega) (by omega) hs
    refine Aj R2 ?_
    simp +contextual (disch:=omega) only[go_sem]
    obtain⟨m1,s3,τ3,R3,H3,h3,h3'⟩:=medAdj_ret S H2 (a:=m) (by omega) (by omega) hs
    refine Aj R3 ?_
    simp +contextual (disch:=omega) only[go_sem]
    obtain⟨p,s4,τ4,R4,H4,h4⟩:=median_ret S H3 (a:=i1) (b:=j1) (c:=m1) (by omega) (by omega) (by omega)
    refine Aj R4 ?_
    have:=R1.2.1
    have:=R2.2.1
    have:=R3.2.1
    have:=R4.2.1
    have l1:ldG false 1 τ4 (.ptr σ.length 0)=some (gi s4):=A0 (a:=false) (n:=1) (off:=0) ((H4).2.pt 0 rfl)
    simp +contextual (disch:=omega) only[go_sem,l1]
    have hout:Holds S.e σ0 τ4 rs k v d:=⟨H.1,(H4).2.drop1⟩
    have key0:((s4:Int)==0)=decide ((s4:Int)=0):=rfl
    by_cases h0:(s4:Int)=0
    ·have c0:((s4:Int)==0)=true:=by simp[h0]
     simp +contextual (disch:=omega) only[go_sem,c0]
     exact⟨_,rfl,by omega,p,1,rfl,hout,by omega,by omega,by omega⟩
    ·have c0:((s4:Int)==0)=false:=by simp[h0]
     by_cases h12:(s4:Int)=12
     ·have c1:((s4:Int)==12)=true:=by simp[h12]
      simp +contextual (disch:=omega) only[go_sem,c0,c1]
      exact⟨_,rfl,by omega,p,2,rfl,hout,by omega,by omega,by omega⟩
     ·have c1:((s4:Int)==12)=false:=by simp[h12]
      simp +contextual (disch:=omega) only[go_sem,c0,c1]
      exact⟨_,rfl,by omega,p,0,rfl,hout,by omega,by omega,by omega⟩
   ·have c50:decide ((50:Int)≤l)=false:=by simp;omega
    simp +contextual (disch:=omega) only[go_sem,F1,hlI,hqI,hiI,hjI,hmI,c8,c50]
    obtain⟨p,s4,τ4,R4,H4,h4⟩:=median_ret S H0 (a:=i) (b:=j) (c:=m) (by omega) (by omega) (by omega)
    refine Aj R4 ?_
    have:=R4.2.1
    have l1:ldG false 1 τ4 (.ptr σ.length 0)=some (gi s4):=A0 (a:=false) (n:=1) (off:=0) ((H4).2.pt 0 rfl)
    simp +contextual (disch:=omega) only[go_sem,l1]
    have hout:Holds S.e σ0 τ4 rs k v d:=⟨H.1,(H4).2.drop1⟩
    have key0:((s4:Int)==0)=decide ((s4:Int)=0):=rfl
    by_cases h0:(s4:Int)=0
    ·have c0:((s4:Int)==0)=true:=by simp[h0]
     simp +contextual (disch:=omega) only[go_sem,c0]
     exact⟨_,rfl,by omega,p,1,rfl,hout,by omega,by omega,by omega⟩
    ·have c0:((s4:Int)==0)=false:=by simp[h0]
     by_cases h12:(s4:Int)=12
     ·have c1:((s4:Int)==12)=true:=by simp[h12]
      simp +contextual (disch:=omega) only[go_sem,c0,c1]
      exact⟨_,rfl,by omega,p,2,rfl,hout,by omega,by omega,by omega⟩
     ·have c1:((s4:Int)==12)=false:=by simp[h12]
      simp +contextual (disch:=omega) only[go_sem,c0,c1]
      exact⟨_,rfl,by omega,p,0,rfl,hout,by omega,by omega,by omega⟩
  ·have c8:decide ((8:Int)≤l)=false:=by simp;omega
   have l1:ldG false 1 (σ++[some (.row 1 [gi 0])]) (.ptr σ.length 0)=some (gi 0):=A0 (a:=false) (n:=1) (off:=0) (H0.2.pt 0 rfl)
   have c0:((0:Int)==0)=true:=rfl
   simp +contextual (disch:=omega) only[go_sem,F1,hlI,hqI,hiI,hjI,hmI,c8,l1,c0]
   exact⟨_,rfl,by omega,j,1,rfl,⟨H.1,H0.2.drop1⟩,by omega,by omega,by omega⟩
 obtain⟨r,τ,R,p,h,rfl,h1,h2⟩:=key
 exact⟨p,h,τ,R,h1,h2⟩
theorem break_ret (S:SrtO α lt) (H:Holds S.e σ0 σ rs k v d) {a b:Nat} (hab:a≤b) (hb:b≤d.size) (hs:d.size≤1099511627776):∃(d':Array α) (τ:St),Ret Tryz.prog S.q.breakPatterns [v,gi a,gi b] σ (.tup []) τ∧Holds S.e σ0 τ rs k v d'∧PermIn a b d d':=by
 have key:∃ r τ,Ret Tryz.prog S.q.breakPatterns [v,gi a,gi b] σ r τ∧∃(d':Array α),r= .tup []∧Holds S.e σ0 τ rs k v d'∧PermIn a b d d':=by
  refine Ao S.h_breakPatterns (Z0z rfl) ?_
  obtain⟨h,hh⟩:∃ l,l=b - a:=⟨_,rfl⟩
  have hhI:(b:Int) - a=h:=by omega
  by_cases h8:8≤h
  ·have c8:decide ((8:Int)≤h)=true:=by simp;omega
   have wu:IntKind.u64.wrap (h:Int)=h:=Ja (by omega) (by omega)
   obtain⟨q,hq⟩:∃ q,q=h / 4:=⟨_,rfl⟩
   have hqI:(h:Int).tdiv 4=q:=by rw[hq];rfl
   obtain⟨m,hm⟩:∃ i,i=a+q*2:=⟨_,rfl⟩
   have hmI:(a:Int)+q*2=m:=by omega
   have hmJ:(m:Int) - 1=((m - 1:Nat):Int):=by omega
   have H0:Holds S.e σ0 (σ++[some (.row 1 [.int .u64 h])]) (pt 1 σ.length [.int .u64 h]::rs) (k+1) v d:=⟨by simpa using H.1,H.2.new 1 [.int .u64 h]⟩
   have sp:Al [GV.int .u64 0] 0 [GV.int .u64 (h:Int)]=[.int .u64 h]:=rfl
   simp +contextual (disch:=omega) only[go_sem,Fo,hhI,c8,wu,GV.cells,sp,List.length_cons,List.length_nil,Nat.reduceAdd,Nat.le_refl,Nat.zero_lt_one,and_self,if_true]
   rw[S.hnp]
   have hbl:h≤1099511627776:=by omega
   refine A7 (A97 _ h hbl) ?_
   obtain⟨M,hM⟩:∃ M,M=2 ^ bitsLen h:=⟨_,rfl⟩
   have hM1:=Go.Sort.two_pow_bitsLen_le (n:=h) (by omega)
   have hM2:=Nat.two_pow_pos (bitsLen h)
   rw[← hM] at hM1 hM2
   rw[← hM]
   have M1:(M:Int) - 1=((M - 1:Nat):Int):=by omega
   have wM:IntKind.u64.wrap ((M - 1:Nat):Int)=((M - 1:Nat):Int):=Ja (by omega) (by omega)
   have L0:(σ++[some (Blk.row 1 [GV.int .u64 (h:Int)])]).length=σ.length+1:=by simp
   simp +contextual (disch:=omega) only[go_sem,hqI,hmI,hmJ]
   refine C5 (fun n env τ=>∃(x:Nat) (y:Int) (D:Array α),env 0=v∧env 1=gi a∧env 6=gi h∧env 7= .ptr σ.length 0∧env 8= .int .u64 (M:Nat)∧env 9=gi x∧m+2 - x=n∧m - 1≤x∧x≤m+2∧σ.length≤τ.length∧Holds S.e σ0 τ (pt 1 σ.length [.int .u64 y]::rs) (k+1) v D∧PermIn a b d D) (m+2 - (m - 1)) ⟨m - 1,h,d,rfl,rfl,rfl,rfl,rfl,rfl,rfl,Nat.le_refl _,by omega,by omega,H0,permIn_refl _ _ _⟩ ?_
   rintro J hJ n env τ ⟨x,y,D,e0,e1,e6,e7,e8,e9,hn,hx1,hx2,hle,hH,hP⟩
   have hD:D.size=d.size:=hP.1
   by_cases hx:x≤m+1
   ·have c0:decide ((x:Int)≤(m:Int)+1)=true:=by simp;omega
    simp +contextual (disch:=omega) only[go_sem,e0,e1,e6,e7,e8,e9,hqI,hmI,c0]
    rw[S.hxs]
    obtain⟨y',τ1,R1,H1⟩:=Abu hH.2 0 rfl
    have hle1:=R1.2.1
    have H1:Holds S.e σ0 τ1 (pt 1 σ.length [.int .u64 y']::rs) (k+1) v D:=⟨hH.1,H1⟩
    obtain⟨w,hw,hwE⟩:=andU (y:=y') (m:=M - 1) (by omega)
    have ww:IntKind.i64.wrap (w:Int)=w:=Bl (by omega) (by omega)
    refine Aj R1 ?_
    simp +contextual (disch:=omega) only[go_sem,e0,e1,e6,e7,e8,e9,M1,wM,hwE,ww]
    obtain⟨z,hz,hzI⟩:∃ z:Nat,z<h∧(z:Int)=if h≤w then(w:Int) - h else w:=by
     by_cases hc:h≤w
     ·exact⟨w - h,by omega,by rw[if_pos hc];omega⟩
     ·exact⟨w,by omega,by rw[if_neg hc]⟩
    have nz:Ax (some (.int .i64 ((a:Int)+z)))=some (a+z):=Bb (by simp)
    obtain⟨τ3,τ4,s3,s4,hH4,hl4⟩:=H1.sw (a:=x) (b:=a+z) (by omega) (by omega)
    have hP2:=permIn_trans _ _ _ _ _ hP (swp_permIn D a b x (a+z) (by omega) (by omega) (by omega) (by omega) (by omega))
    by_cases hc:h≤w
    ·rw[if_pos hc] at hzI
     have cc:decide ((h:Int)≤w)=true:=by simp;omega
     simp +contextual (disch:=omega) only[go_sem,e0,e1,e6,e7,e8,e9,cc,←hzI,nz,A2,H1.iad (j:=x) (by omega),H1.ld (j:=x) (by omega),H1.iad (j:=a+z) (by omega),H1.ld (j:=a+z) (by omega),s3,s4]
     refine⟨m+2 - (x+1),by omega,hJ _ _ _ ⟨x+1,y',_,?_,?_,?_,?_,?_,?_,rfl,by omega,by omega,by omega,hH4,hP2⟩⟩
     all_goals simp +contextual (disch:=omega) only[go_sem,e0,e1,e6,e7,e8,e9]
    ·rw[if_neg hc] at hzI
     have hzw:z=w:=by omega
     rw[hzw] at nz s3 s4 hH4 hP2 hz
     have cc:decide ((h:Int)≤w)=false:=by simp;omega
     simp +contextual (disch:=omega) only[go_sem,e0,e1,e6,e7,e8,e9,cc,nz,A2,H1.iad (j:=x) (by omega),H1.ld (j:=x) (by omega),H1.iad (j:=a+w) (by omega),H1.ld (j:=a+w) (by omega),s3,s4]
     refine⟨m+2 - (x+1),by omega,hJ _ _ _ ⟨x+1,y',_,?_,?_,?_,?_,?_,?_,rfl,by omega,by omega,by omega,hH4,hP2⟩⟩
     all_goals simp +contextual (disch:=omega) only[go_sem,e0,e1,e6,e7,e8,e9]
   ·have c0:decide ((x:Int)≤(m:Int)+1)=false:=by simp;omega
    simp +contextual (disch:=omega) only[go_sem,e0,e1,e6,e7,e8,e9,hqI,hmI,c0]
    exact⟨_,rfl,hle,D,rfl,⟨H.1,hH.2.drop1⟩,hP⟩
  ·have c8:decide ((8:Int)≤h)=false:=by simp;omega
   simp +contextual (disch:=omega) only[go_sem,Fo,hhI,c8]
   exact⟨_,rfl,d,rfl,H,permIn_refl _ _ _⟩
 obtain⟨r,τ,R,d',rfl,h⟩:=key
 exact⟨d',τ,R,h⟩
end O
namespace O
open Go Go.RowKit Go.Proofs.YtbeoiejnogdkpaaGreat.Sy Go.Sort
variable {α:Type} [Inhabited α] {lt:α→α→Bool} {σ0:St} {rs:List Thg} {k:Nat} {v:GV}
set_option maxHeartbeats 2000000 in
theorem pdq_ret (S:SrtO α lt) (hS:SWO lt):∀(n:Nat) (d:Array α) (a b l:Nat) (σ:St),b - a≤n→a≤b→b≤d.size→d.size≤1099511627776→l≤1099511627776→Below lt a b d→Holds S.e σ0 σ rs k v d→∃(d':Array α) (τ:St),Ret Tryz.prog S.q.pdqsort [v,gi a,gi b,gi l] σ (.tup []) τ∧Holds S.e σ0 τ rs k v d'∧PermIn a b d d'∧SortedIn lt a b d':=by
 intro n
 induction n with
 |zero=>
  intro d a b l σ hn hab hb hs hl hB H
  have key:∃ r τ,Ret Tryz.prog S.q.pdqsort [v,gi a,gi b,gi l] σ r τ∧r= .tup []∧Holds S.e σ0 τ rs k v (insertionSort lt d a b):=by
   refine Ao S.h_pdqsort (Z0z rfl) ?_
   obtain rfl:a=b:=by omega
   simp +contextual (disch:=omega) only[go_sem,Mb]
   refine Oz (fun n env τ=>env 0=v∧env 1=gi a∧env 2=gi a∧τ=σ) 0 ⟨rfl,rfl,rfl,rfl⟩ ?_
   rintro n env τ ⟨e0,e1,e2,rfl⟩
   have a0:(a:Int) - a=0:=by omega
   have c0:decide ((0:Int)≤12)=true:=rfl
   simp +contextual (disch:=omega) only[go_sem,e0,e1,e2,a0,c0]
   obtain⟨τ1,R,H1⟩:=ins_ret S H (a:=a) (b:=a) (Nat.le_refl _) hb hs
   refine Aj R ?_
   simp +contextual (disch:=omega) only[go_sem]
   exact⟨_,rfl,R.2.1,rfl,H1⟩
  obtain⟨r,τ,R,rfl,H1⟩:=key
  obtain⟨p1,p2⟩:=insertionSort_holds hS d a b hab hb
  exact⟨_,τ,R,H1,p1,p2⟩
 |succ N ih=>
  intro d a b l σ hn hab hb hs hl hB H
  have key:∃ r τ,Ret Tryz.prog S.q.pdqsort [v,gi a,gi b,gi l] σ r τ∧∃ d',r= .tup []∧Holds S.e σ0 τ rs k v d'∧PermIn a b d d'∧SortedIn lt a b d':=by
   refine Ao S.h_pdqsort (Z0z rfl) ?_
   simp +contextual (disch:=omega) only[go_sem,Mb]
   refine C5 (fun n env τ=>∃(x y l:Nat) (wb wp:Bool) (D:Array α),env 0=v∧env 1=gi x∧env 2=gi y∧env 3=gi l∧env 8= .bool wb∧env 9= .bool wp∧y - x=n∧l≤1099511627776∧a≤x∧x≤y∧y≤b∧D.size=d.size∧σ.length≤τ.length∧Holds S.e σ0 τ rs k v D∧Below lt x y D∧∀ R,PermIn x y D R→SortedIn lt x y R→PermIn a b d R∧SortedIn lt a b R) (b - a) ⟨a,b,l,true,true,d,rfl,rfl,rfl,rfl,rfl,rfl,rfl,hl,Nat.le_refl _,hab,Nat.le_refl _,rfl,Nat.le_refl _,H,hB,fun R h1 h2=>⟨h1,h2⟩⟩ ?_
   clear H hB hl
   rintro J hJ n env τ ⟨x,y,l,wb,wp,D,e0,e1,e2,e3,e8,e9,hn2,hl,hax,hxy,hyb,hD,hle,hH,hB,hfin⟩
   rw[Abl]
   obtain⟨h,hh⟩:∃ h,h=y - x:=⟨_,rfl⟩
   have hhI:(y:Int) - x=h:=by omega
   refine C7 (fun env τ'=>env 0=v∧env 1=gi x∧env 2=gi y∧env 3=gi l∧env 8= .bool wb∧env 9= .bool wp∧env 10=gi h∧τ=τ') (fun Y hY=>by
    simp +contextual (disch:=omega) only[go_sem,e0,e1,e2,e3,e8,e9,hhI]
    refine hY _ _ ⟨?_,?_,?_,?_,?_,?_,?_,rfl⟩
    all_goals simp +contextual (disch:=omega) only[go_sem,e0,e1,e2,e3,e8,e9,hhI]) ?_
   clear e0 e1 e2 e3 e8 e9
   rintro env τ' ⟨e0,e1,e2,e3,e8,e9,e10,rfl⟩
   refine C7 (fun env τ'=>env 0=v∧env 1=gi x∧env 2=gi y∧env 3=gi l∧env 8= .bool wb∧env 9= .bool wp∧env 10=gi h∧τ=τ'∧12<h) (fun Y hY=>by
    by_cases h12:h≤12
    ·have c0:decide ((h:Int)≤12)=true:=by simp;omega
     simp +contextual (disch:=omega) only[go_sem,e0,e1,e2,e3,e8,e9,e10,c0]
     obtain⟨τ1,R,H1⟩:=ins_ret S hH (a:=x) (b:=y) hxy (by omega) (by omega)
     refine Aj R ?_
     simp +contextual (disch:=omega) only[go_sem]
     obtain⟨p1,p2⟩:=insertionSort_holds hS D x y hxy (by omega)
     have:=R.2.1
     exact⟨_,rfl,by omega,_,rfl,H1,hfin _ p1 p2⟩
    ·have c0:decide ((h:Int)≤12)=false:=by simp;omega
     simp +contextual (disch:=omega) only[go_sem,e0,e1,e2,e3,e8,e9,e10,c0]
     refine hY _ _ ⟨?_,?_,?_,?_,?_,?_,?_,rfl,by omega⟩
     all_goals simp +contextual (disch:=omega) only[go_sem,e0,e1,e2,e3,e8,e9,e10]) ?_
   clear e0 e1 e2 e3 e8 e9 e10
   rintro env τ' ⟨e0,e1,e2,e3,e8,e9,e10,rfl,h12⟩
   refine C7 (fun env τ'=>env 0=v∧env 1=gi x∧env 2=gi y∧env 3=gi l∧env 8= .bool wb∧env 9= .bool wp∧env 10=gi h∧τ=τ'∧0<l) (fun Y hY=>by
    by_cases h0:l=0
    ·have c0:((l:Int)==0)=true:=by simp[h0]
     simp +contextual (disch:=omega) only[go_sem,e0,e1,e2,e3,e8,e9,e10,c0]
     obtain⟨τ1,R,H1⟩:=heap_ret S hH (a:=x) (b:=y) hxy (by omega) (by omega)
     refine Aj R ?_
     simp +contextual (disch:=omega) only[go_sem]
     obtain⟨p1,p2⟩:=heapSort_holds hS D x y hxy (by omega)
     have:=R.2.1
     exact⟨_,rfl,by omega,_,rfl,H1,hfin _ p1 p2⟩
    ·have c0:((l:Int)==0)=false:=by simp;omega
     simp +contextual (disch:=omega) only[go_sem,e0,e1,e2,e3,e8,e9,e10,c0]
     refine hY _ _ ⟨?_,?_,?_,?_,?_,?_,?_,rfl,by omega⟩
     all_goals simp +contextual (disch:=omega) only[go_sem,e0,e1,e2,e3,e8,e9,e10]) ?_
   clear e0 e1 e2 e3 e8 e9 e10
   rintro env τ' ⟨e0,e1,e2,e3,e8,e9,e10,rfl,h0⟩
   refine C7 (fun env τ'=>∃(l':Nat) (E:Array α),env 0=v∧env 1=gi x∧env 2=gi y∧env 3=gi l'∧env 8= .bool wb∧env 9= .bool wp∧env 10=gi h∧l'≤l∧τ.length≤τ'.length∧Holds S.e σ0 τ' rs k v E∧PermIn x y D E) (fun Y hY=>by
    cases hwb:wb with
    |true=>
     rw[hwb] at e8
     simp +contextual (disch:=omega) only[go_sem,e0,e1,e2,e3,e8,e9,e10]
     refine hY _ _ ⟨l,D,?_,?_,?_,?_,?_,?_,?_,Nat.le_refl _,Nat.le_refl _,hH,permIn_refl _ _ _⟩
     all_goals simp +contextual (disch:=omega) only[go_sem,e0,e1,e2,e3,e8,e9,e10,hwb]
    |false=>
     rw[hwb] at e8
     simp +contextual (disch:=omega) only[go_sem,e0,e1,e2,e3,e8,e9,e10]
     obtain⟨E,τ1,R,H1,p1⟩:=break_ret S hH (a:=x) (b:=y) hxy (by omega) (by omega)
     refine Aj R ?_
     have l1:(l:Int) - 1=((l - 1:Nat):Int):=by omega
     simp +contextual (disch:=omega) only[go_sem,e0,e1,e2,e3,e8,e9,e10]
     refine hY _ _ ⟨l - 1,E,?_,?_,?_,?_,?_,?_,?_,by omega,R.2.1,H1,p1⟩
     all_goals simp +contextual (disch:=omega) only[go_sem,e0,e1,e2,e3,e8,e9,e10,l1,hwb]) ?_
   clear e0 e1 e2 e3 e8 e9 e10
   rintro env τ1 ⟨l1,D1,e0,e1,e2,e3,e8,e9,e10,hl1,hle1,hH1,hP1⟩
   have hD1:D1.size=D.size:=hP1.1
   refine C7 (fun env τ'=>∃(p q:Nat),env 0=v∧env 1=gi x∧env 2=gi y∧env 3=gi l1∧env 8= .bool wb∧env 9= .bool wp∧env 10=gi h∧env 11=gi p∧env 12=gi q∧τ1.length≤τ'.length∧Holds S.e σ0 τ' rs k v D1∧x≤p∧p<y∧q≤2) (fun Y hY=>by
    simp +contextual (disch:=omega) only[go_sem,e0,e1,e2,e3,e8,e9,e10]
    obtain⟨p,q,τ2,R,H2,g1,g2,g3⟩:=choose_ret S hH1 (a:=x) (b:=y) (by omega) (by omega) (by omega)
    refine Aj R ?_
    simp +contextual (disch:=omega) only[go_sem,e0,e1,e2,e3,e8,e9,e10]
    refine hY _ _ ⟨p,q,?_,?_,?_,?_,?_,?_,?_,?_,?_,R.2.1,H2,g1,g2,g3⟩
    all_goals simp +contextual (disch:=omega) only[go_sem,e0,e1,e2,e3,e8,e9,e10]) ?_
   clear e0 e1 e2 e3 e8 e9 e10 hH hH1
   rintro env τ2 ⟨p0,q0,e0,e1,e2,e3,e8,e9,e10,e11,e12,hle2,hH2,g1,g2,g3⟩
   refine C7 (fun env τ'=>∃(p q:Nat) (E:Array α),env 0=v∧env 1=gi x∧env 2=gi y∧env 3=gi l1∧env 8= .bool wb∧env 9= .bool wp∧env 10=gi h∧env 11=gi p∧env 12=gi q∧τ2.length≤τ'.length∧Holds S.e σ0 τ' rs k v E∧x≤p∧p<y∧PermIn x y D1 E) (fun Y hY=>by
    by_cases hq:q0=2
    ·have c0:((q0:Int)==2)=true:=by simp[hq]
     simp +contextual (disch:=omega) only[go_sem,e0,e1,e2,e3,e8,e9,e10,e11,e12,c0]
     obtain⟨τ3,R,H3⟩:=rev_ret S hH2 (a:=x) (b:=y) (by omega) (by omega) (by omega)
     refine Aj R ?_
     have r1:(y:Int) - 1 - ((p0:Int) - x)=((y - 1 - (p0 - x):Nat):Int):=by omega
     simp +contextual (disch:=omega) only[go_sem,e0,e1,e2,e3,e8,e9,e10,e11,e12,r1]
     refine hY _ _ ⟨y - 1 - (p0 - x),1,_,?_,?_,?_,?_,?_,?_,?_,?_,?_,R.2.1,H3,by omega,by omega,reverseRange_holds D1 x y hxy (by omega)⟩
     all_goals simp +contextual (disch:=omega) only[go_sem,e0,e1,e2,e3,e8,e9,e10,e11,Int.natCast_one]
    ·have c0:((q0:Int)==2)=false:=by simp;omega
     simp +contextual (disch:=omega) only[go_sem,e0,e1,e2,e3,e8,e9,e10,e11,e12,c0]
     refine hY _ _ ⟨p0,q0,D1,?_,?_,?_,?_,?_,?_,?_,?_,?_,Nat.le_refl _,hH2,g1,g2,permIn_refl _ _ _⟩
     all_goals simp +contextual (disch:=omega) only[go_sem,e0,e1,e2,e3,e8,e9,e10,e11,e12]) ?_
   clear e0 e1 e2 e3 e8 e9 e10 e11 e12 hH2 g1 g2 g3
   rintro env τ3 ⟨p,q,D2,e0,e1,e2,e3,e8,e9,e10,e11,e12,hle3,hH3,g1,g2,hP2⟩
   have hD2:D2.size=D1.size:=hP2.1
   have hP02:=permIn_trans _ _ _ _ _ hP1 hP2
   have B2:Below lt x y D2:=hB.perm (by omega) hP02
   refine C7 (fun env τ'=>∃(E:Array α),env 0=v∧env 1=gi x∧env 2=gi y∧env 3=gi l1∧env 8= .bool wb∧env 9= .bool wp∧env 10=gi h∧env 11=gi p∧τ3.length≤τ'.length∧Holds S.e σ0 τ' rs k v E∧PermIn x y D2 E) (fun Y hY=>by
    have stay:∀ env',env' 0=v→env' 1=gi x→env' 2=gi y→env' 3=gi l1→env' 8= .bool wb→env' 9= .bool wp→env' 10=gi h→env' 11=gi p→Y env' τ3:=fun env' a0 a1 a2 a3 a8 a9 a10 a11=>hY _ _ ⟨D2,a0,a1,a2,a3,a8,a9,a10,a11,Nat.le_refl _,hH3,permIn_refl _ _ _⟩
    cases hwb:wb with
    |false=>
     rw[hwb] at e8
     simp +contextual (disch:=omega) only[go_sem,e0,e1,e2,e3,e8,e9,e10,e11,e12]
     refine stay _ ?_ ?_ ?_ ?_ ?_ ?_ ?_ ?_
     all_goals simp +contextual (disch:=omega) only[go_sem,e0,e1,e2,e3,e8,e9,e10,e11,e12,hwb]
    |true=>
     rw[hwb] at e8
     cases hwp:wp with
     |false=>
      rw[hwp] at e9
      simp +contextual (disch:=omega) only[go_sem,e0,e1,e2,e3,e8,e9,e10,e11,e12]
      refine stay _ ?_ ?_ ?_ ?_ ?_ ?_ ?_ ?_
      all_goals simp +contextual (disch:=omega) only[go_sem,e0,e1,e2,e3,e8,e9,e10,e11,e12,hwb,hwp]
     |true=>
      rw[hwp] at e9
      by_cases hq:q=1
      ·have c0:((q:Int)==1)=true:=by simp[hq]
       simp +contextual (disch:=omega) only[go_sem,e0,e1,e2,e3,e8,e9,e10,e11,e12,c0]
       obtain⟨τ4,R,H4⟩:=pis_ret S hH3 (a:=x) (b:=y) (by omega) (by omega) (by omega)
       obtain⟨p1,p2⟩:=partialInsertionSort_holds hS D2 x y (by omega) (by omega) B2
       have:=R.2.1
       refine Aj R ?_
       cases hr:(partialInsertionSort lt D2 x y).2 with
       |true=>
        simp +contextual (disch:=omega) only[go_sem]
        exact⟨_,rfl,by omega,_,rfl,H4,hfin _ (permIn_trans _ _ _ _ _ hP02 p1) (p2 hr)⟩
       |false=>
        simp +contextual (disch:=omega) only[go_sem,e0,e1,e2,e3,e8,e9,e10,e11,e12]
        refine hY _ _ ⟨_,?_,?_,?_,?_,?_,?_,?_,?_,R.2.1,H4,p1⟩
        all_goals simp +contextual (disch:=omega) only[go_sem,e0,e1,e2,e3,e8,e9,e10,e11,e12,hwb,hwp]
      ·have c0:((q:Int)==1)=false:=by simp;omega
       simp +contextual (disch:=omega) only[go_sem,e0,e1,e2,e3,e8,e9,e10,e11,e12,c0]
       refine stay _ ?_ ?_ ?_ ?_ ?_ ?_ ?_ ?_
       all_goals simp +contextual (disch:=omega) only[go_sem,e0,e1,e2,e3,e8,e9,e10,e11,e12,hwb,hwp]) ?_
   clear e0 e1 e2 e3 e8 e9 e10 e11 e12 hH3
   rintro env τ4 ⟨D3,e0,e1,e2,e3,e8,e9,e10,e11,hle4,hH4,hP3⟩
   have hD3:D3.size=D2.size:=hP3.1
   have hP03:=permIn_trans _ _ _ _ _ hP02 hP3
   have B3:Below lt x y D3:=B2.perm (by omega) hP3
   refine C7 (fun env τ'=>env 0=v∧env 1=gi x∧env 2=gi y∧env 3=gi l1∧env 8= .bool wb∧env 9= .bool wp∧env 10=gi h∧env 11=gi p∧τ4=τ') (fun Y hY=>by
    rcases Nat.eq_zero_or_pos x with hx|hx
    ·have c0:decide ((0:Int)<x)=false:=by simp;omega
     simp +contextual (disch:=omega) only[go_sem,e0,e1,e2,e3,e8,e9,e10,e11,c0]
     refine hY _ _ ⟨?_,?_,?_,?_,?_,?_,?_,?_,rfl⟩
     all_goals simp +contextual (disch:=omega) only[go_sem,e0,e1,e2,e3,e8,e9,e10,e11]
    ·have c0:decide ((0:Int)<x)=true:=by simp;omega
     have x1:(x:Int) - 1=((x - 1:Nat):Int):=by omega
     simp +contextual (disch:=omega) only[go_sem,e0,e1,e2,e3,e8,e9,e10,e11,c0,x1,A2,hH4.iad (j:=x - 1) (by omega),hH4.ld (j:=x - 1) (by omega),hH4.iad (j:=p) (by omega),hH4.ld (j:=p) (by omega)]
     refine A7 (S.call _ _ _) ?_
     cases hlt:lt D3[x - 1]! D3[p]! with
     |true=>
      simp +contextual (disch:=omega) only[go_sem,e0,e1,e2,e3,e8,e9,e10,e11,c0,hlt]
      refine hY _ _ ⟨?_,?_,?_,?_,?_,?_,?_,?_,rfl⟩
      all_goals simp +contextual (disch:=omega) only[go_sem,e0,e1,e2,e3,e8,e9,e10,e11]
     |false=>
      simp +contextual (disch:=omega) only[go_sem,e0,e1,e2,e3,e8,e9,e10,e11,c0,hlt]
      obtain⟨τ5,R,H5⟩:=pe_ret S hH4 (a:=x) (b:=y) (p:=p) (by omega) g2 (by omega) (by omega)
      have:=R.2.1
      refine Aj R ?_
      obtain⟨mid,D4,hX⟩:∃ m D4,partitionEqual lt D3 x y p=(m,D4):=⟨_,_,rfl⟩
      rw[hX] at H5
      rw[hX]
      obtain⟨k1,k2,k3,k4,k5⟩:=round_eq hS (partitionEqual_holds lt) hx g1 g2 (by omega) B3 hlt hX
      simp +contextual (disch:=omega) only[go_sem,e0,e1,e2,e3,e8,e9,e10,e11]
      refine⟨y - mid,by omega,hJ _ _ _ ⟨mid,y,l1,wb,wp,D4,?_,?_,?_,?_,?_,?_,rfl,by omega,by omega,k2,hyb,by omega,by omega,H5,k4,fun R h1 h2=> ?_⟩⟩
      all_goals first|(simp +contextual (disch:=omega) only[go_sem,e0,e1,e2,e3,e8,e9,e10,e11];done)|skip
      obtain⟨m1,m2⟩:=k5 R h1 h2
      exact hfin R (permIn_trans _ _ _ _ _ hP03 m1) m2) ?_
   clear e0 e1 e2 e3 e8 e9 e10 e11
   rintro env τ' ⟨e0,e1,e2,e3,e8,e9,e10,e11,rfl⟩
   obtain⟨τ5,R5,H5⟩:=part_ret S hH4 (a:=x) (b:=y) (p:=p) (by omega) g2 (by omega) (by omega)
   have hle5:=R5.2.1
   obtain⟨mid,ap,D4,hX⟩:∃ m ap D4,partition lt D3 x y p=(m,ap,D4):=⟨_,_,_,rfl⟩
   rw[hX] at H5 R5
   obtain⟨k1,k2,k3,k4,k5,k6,k7⟩:=round_part hS (partition_holds lt) g1 g2 (by omega) B3 hX
   simp +contextual (disch:=omega) only[go_sem,e0,e1,e2,e3,e8,e9,e10,e11]
   refine Aj R5 ?_
   obtain⟨q8,hq8⟩:∃ q,q=h / 8:=⟨_,rfl⟩
   have hqI:(h:Int).tdiv 8=q8:=by rw[hq8];rfl
   have m1:(mid:Int) - x=((mid - x:Nat):Int):=by omega
   have m2:(y:Int) - mid=((y - mid:Nat):Int):=by omega
   by_cases hlr:mid - x<y - mid
   ·have c0:decide (((mid - x:Nat):Int)<((y - mid:Nat):Int))=true:=by simp;omega
    simp +contextual (disch:=omega) only[go_sem,e0,e1,e2,e3,e8,e9,e10,e11,hqI,m1,m2,c0]
    obtain⟨L,τ6,R6,H6,p1,p2⟩:=ih D4 x mid l1 τ5 (by omega) k1 (by omega) (by omega) (by omega) k4 H5
    have hle6:=R6.2.1
    refine Aj R6 ?_
    obtain⟨k8,k9⟩:=k6 L p1 p2
    have hL:L.size=D4.size:=p1.1
    simp +contextual (disch:=omega) only[go_sem,e0,e1,e2,e3,e8,e9,e10,e11]
    refine⟨y - (mid+1),by omega,hJ _ _ _ ⟨mid+1,y,l1,decide ((q8:Int)≤((mid - x:Nat):Int)),ap,L,?_,?_,?_,?_,?_,?_,rfl,by omega,by omega,by omega,hyb,by omega,by omega,H6,k8,fun R h1 h2=> ?_⟩⟩
    all_goals first|(simp +contextual (disch:=omega) only[go_sem,e0,e1,e2,e3,e8,e9,e10,e11];done)|skip
    obtain⟨n1,n2⟩:=k9 R h1 h2
    exact hfin R (permIn_trans _ _ _ _ _ hP03 n1) n2
   ·have c0:decide (((mid - x:Nat):Int)<((y - mid:Nat):Int))=false:=by simp;omega
    simp +contextual (disch:=omega) only[go_sem,e0,e1,e2,e3,e8,e9,e10,e11,hqI,m1,m2,c0]
    obtain⟨L,τ6,R6,H6,p1,p2⟩:=ih D4 (mid+1) y l1 τ5 (by omega) (by omega) (by omega) (by omega) (by omega) k5 H5
    have hle6:=R6.2.1
    refine Aj R6 ?_
    obtain⟨k8,k9⟩:=k7 L p1 p2
    have hL:L.size=D4.size:=p1.1
    simp +contextual (disch:=omega) only[go_sem,e0,e1,e2,e3,e8,e9,e10,e11]
    refine⟨mid - x,by omega,hJ _ _ _ ⟨x,mid,l1,decide ((q8:Int)≤((y - mid:Nat):Int)),ap,L,?_,?_,?_,?_,?_,?_,rfl,by omega,by omega,by omega,by omega,by omega,by omega,H6,k8,fun R h1 h2=> ?_⟩⟩
    all_goals first|(simp +contextual (disch:=omega) only[go_sem,e0,e1,e2,e3,e8,e9,e10,e11];done)|skip
    obtain⟨n1,n2⟩:=k9 R h1 h2
    exact hfin R (permIn_trans _ _ _ _ _ hP03 n1) n2
  obtain⟨r,τ,R,d',rfl,h⟩:=key
  exact⟨d',τ,R,h⟩
end O
namespace O
open Go Go.RowKit Go.Proofs.YtbeoiejnogdkpaaGreat.Sy Go.Sort
variable {α:Type} [Inhabited α] {lt:α→α→Bool} {σ0 σ:St} {rs:List Thg} {v:GV}
theorem sorted_of {d d':Array α} (h:PermIn 0 d.size d d') (h4:SortedIn lt 0 d.size d'):d'.toList.Perm d.toList∧Up lt d'.toList:=by
 obtain⟨h1,h2,h3⟩:=h
 constructor
 ·have e1:d'.extract 0 d.size=d':=by rw[← h1];simp
  have e2:d.extract 0 d.size=d:=by simp
  rw[e1,e2] at h3
  exact h3
 ·rw[Up,List.pairwise_iff_getElem]
  intro i j hi hj hij
  simp only[Array.length_toList] at hi hj
  have:=h4 i j (Nat.zero_le _) hij (by omega)
  rw[getElem!_pos d' j hj,getElem!_pos d' i hi] at this
  simpa using this
theorem sort_ret (S:SrtO α lt) (hS:SWO lt) {l:List α} (H:Hp σ0 σ rs) (k:Nat) (hk:rs[k]? =some (ow S.e.p.kd v l)) (hl:l.length≤1099511627776) (htri:∀ x∈l,∀ y∈l,lt x y=false→lt y x=false→x=y):∃ τ,Ret Tryz.prog S.nS [v] σ (.tup []) τ∧Hp σ0 τ (rs.set k (ow S.e.p.kd v (C3 lt l))):=by
 have key:∃ r τ,Ret Tryz.prog S.nS [v] σ r τ∧r= .tup []∧Hp σ0 τ (rs.set k (ow S.e.p.kd v (C3 lt l))):=by
  refine Ao S.h_Sort (Z0z rfl) ?_
  have hlen:=(H.sl k hk).len
  have wu:IntKind.u64.wrap (l.length:Int)=l.length:=Ja (by omega) (by omega)
  simp +contextual (disch:=omega) only[go_sem,A65,hlen,wu]
  refine A7 (Mc σ l.length hl) ?_
  simp +contextual (disch:=omega) only[go_sem]
  have HH:Holds S.e σ0 σ rs k v l.toArray:=Holds.of H (by simpa using hk)
  have hb:=A4j hl
  obtain⟨d',τ,R,H1,p1,p2⟩:=pdq_ret S hS l.length l.toArray 0 l.length (bitsLen l.length) σ (by omega) (by omega) (by simp) (by simpa using hl) (by omega) (.inl rfl) HH
  have hz:((0:Nat):Int)=0:=rfl
  rw[hz] at R
  refine Aj R ?_
  simp +contextual (disch:=omega) only[go_sem]
  have hsz:l.length=l.toArray.size:=by simp
  rw[hsz] at p1 p2
  obtain⟨q1,q2⟩:=sorted_of p1 p2
  have hE:d'.toList=C3 lt l:=T0 hS htri (by simpa using q1) q2
  exact⟨_,rfl,R.2.1,rfl,by rw[← hE];exact H1.2⟩
 obtain⟨r,τ,R,rfl,h⟩:=key
 exact⟨τ,R,h⟩
end O
section
open Go Go.RowKit
abbrev I7:Nat:=355
def Lv:Fn1:=⟨17,[.t 4],(.seq (.reg [o 4 (.mov (.k (.bool false)))]) (.seq (.reg [o 5 (.mov (.t 0)),o 6 (.call 230 [(.t 5)]),o 7 (.mov (.t 6)),og 8 7 true (.mov (.t 1)),og 9 7 true (.call 230 [(.t 8)]),og 10 7 true (.un .not (.t 9)),o 11 (.pick (.t 7) (.t 10) (.k (.bool false))),o 12 (.mov (.t 11)),og 13 12 false (.mov (.t 0)),og 14 12 false (.mov (.t 1)),og 15 12 false (.bin .lss (.t 13) (.t 14)),o 16 (.pick (.t 12) (.k (.bool true)) (.t 15)),o 4 (.mov (.t 16))]) .ret))⟩
theorem Tl:A5 Tryz.prog I7=some Lv:=by kernel_rfl
abbrev Fy:Nat:=192
abbrev X1:Nat:=193
abbrev He:Nat:=283
abbrev F4:Nat:=349
abbrev Gm:Nat:=384
abbrev Gn:Nat:=350
abbrev F8:Nat:=353
abbrev Dg:Nat:=354
abbrev Er:Nat:=356
abbrev G3:Nat:=357
abbrev F5:Nat:=351
abbrev Hi:Nat:=404
abbrev Hj:Nat:=388
abbrev Es:Nat:=387
abbrev Fq:Nat:=352
def elI:El Int:=⟨pI,false,gi,fun _=>rfl,fun _=>rfl,by decide⟩
theorem Qk (σ:St) (a b:Int):Ret Tryz.prog I7 [gi a,gi b] σ (.bool (ltI a b)) σ:=by
 refine Af Tl (Z0z rfl) trivial ?_
 simp +contextual (disch:=omega) only[go_sem,Lv]
 refine A7 (Fk σ a) ?_
 simp +contextual (disch:=omega) only[go_sem,ltI]
def qI:SN:=⟨F4,Gm,Gn,F8,Dg,Er,G3,F5,Hi,Hj,Es,Fq,He,I7,Aq,Ap⟩
def srtI:SrtO Int ltI where
 e:=elI
 q:=qI
 call:=Qk
 h_insertionSort:=by kernel_rfl
 h_siftDown:=by kernel_rfl
 h_heapSort:=by kernel_rfl
 h_reverseRange:=by kernel_rfl
 h_partialInsertionSort:=by kernel_rfl
 h_partitionEqual:=by kernel_rfl
 h_partition:=by kernel_rfl
 h_breakPatterns:=by kernel_rfl
 h_order2:=by kernel_rfl
 h_median:=by kernel_rfl
 h_medianAdjacent:=by kernel_rfl
 h_choosePivot:=by kernel_rfl
 h_pdqsort:=by kernel_rfl
 nS:=Fy
 h_Sort:=by kernel_rfl
 hnp:=rfl
 hxs:=rfl
theorem Me {σ0 σ:St} {rs:List Thg} {v:GV} {l:List Int} (H:Hp σ0 σ rs) (k:Nat) (hk:rs[k]? =some (ow pI.kd v l)) (hl:l.length≤1099511627776):∃ τ,Ret Tryz.prog Fy [v] σ (.tup []) τ∧Hp σ0 τ (rs.set k (ow pI.kd v (C3 ltI l))):=
 O.sort_ret srtI Adp H k hk hl fun x _ y _=>Adr x y
end
section
open Go Go.RowKit
abbrev Tm:Nat:=207
def Tn:Fn1:=⟨46,[.t 8],(.seq (.reg [o 4 (.box (.t 0)),o 8 (.mov (.k .nilS))]) (.seq (.reg [o 12 (.lit 6 0 [] []),o 9 (.mov (.t 12))]) (.seq (.seq (.reg [o 10 (.mov (.k (.int .i64 0)))]) (.blk 0 (.lop (.seq (.seq (.reg [o 13 (.mov (.t 10)),o 14 (.fad 2 (.t 4)),o 15 (.ld false 1 (.t 14)),o 16 (.len false (.t 15)),o 17 (.bin .lss (.t 13) (.t 16))]) (.cnd (.t 17) .skip (.ext 0))) (.seq (.blk 1 (.seq (.reg [o 20 (.fad 2 (.t 4)),o 21 (.ld false 1 (.t 20)),o 22 (.mov (.t 10)),o 23 (.iad 6 (.t 21) (.t 22)),o 24 (.ld true 6 (.t 23)),o 11 (.new [(.bool false),(.str ⟨#[]⟩),(.str ⟨#[]⟩),(.int .i64 0),(.int .i64 0),(.int .i64 0)]),on (.st 6 (.t 11) (.t 24))]) (.seq (.reg [o 25 (.fad 0 (.t 11)),o 26 (.ld false 1 (.t 25)),o 27 (.mov (.t 1)),o 28 (.eqb false (.t 26) (.t 27)),o 29 (.mov (.t 28)),og 30 29 true (.fad 1 (.t 11)),og 31 29 true (.ld false 1 (.t 30)),og 32 29 true (.mov (.t 2)),og 33 29 true (.bin .eql (.t 31) (.t 32)),o 34 (.pick (.t 29) (.t 33) (.k (.bool false))),o 35 (.mov (.t 34)),og 36 35 true (.fad 2 (.t 11)),og 37 35 true (.ld false 1 (.t 36)),og 38 35 true (.mov (.t 3)),og 39 35 true (.bin .eql (.t 37) (.t 38)),o 40 (.pick (.t 35) (.t 39) (.k (.bool false)))]) (.cnd (.t 40) (.reg [o 41 (.mov (.t 9)),o 42 (.ld true 6 (.t 11)),o 43 (.lit 6 1 [(.bool false),(.str ⟨#[]⟩),(.str ⟨#[]⟩),(.int .i64 0),(.int .i64 0),(.int .i64 0)] [(0,6,(.t 42))]),o 44 (.app 6 64 [(.bool false),(.str ⟨#[]⟩),(.str ⟨#[]⟩),(.int .i64 0),(.int .i64 0),(.int .i64 0)] (.t 41) (.t 43)),o 9 (.mov (.t 44))]) .skip)))) (.reg [o 18 (.mov (.t 10)),o 19 (.bin .add (.t 18) (.k (.int .i64 1))),o 10 (.mov (.t 19))])))))) (.seq (.reg [o 45 (.mov (.t 9)),o 8 (.mov (.t 45))]) .ret))))⟩
theorem A1t:A5 Tryz.prog Tm=some Tn:=by kernel_rfl
abbrev To:Nat:=191
def Tp:Fn1:=⟨42,[.t 8],(.seq (.reg [o 4 (.box (.t 0)),o 8 (.mov (.k .nilS))]) (.seq (.reg [o 12 (.lit 6 0 [] []),o 9 (.mov (.t 12))]) (.seq (.seq (.reg [o 13 (.fad 2 (.t 4)),o 14 (.ld false 1 (.t 13)),o 15 (.len false (.t 14)),o 16 (.mov (.k (.int .i64 0)))]) (.blk 0 (.lop (.seq (.reg [o 17 (.bin .lss (.t 16) (.t 15))]) (.seq (.cnd (.t 17) .skip (.ext 0)) (.seq (.blk 1 (.seq (.reg [o 18 (.iad 6 (.t 14) (.t 16)),o 19 (.ld true 6 (.t 18)),o 11 (.new [(.bool false),(.str ⟨#[]⟩),(.str ⟨#[]⟩),(.int .i64 0),(.int .i64 0),(.int .i64 0)]),on (.st 6 (.t 11) (.t 19))]) (.seq (.reg [o 20 (.fad 0 (.t 11)),o 21 (.ld false 1 (.t 20)),o 22 (.mov (.t 1)),o 23 (.eqb false (.t 21) (.t 22)),o 24 (.mov (.t 23)),og 25 24 true (.fad 1 (.t 11)),og 26 24 true (.ld false 1 (.t 25)),og 27 24 true (.mov (.t 2)),og 28 24 true (.bin .eql (.t 26) (.t 27)),o 29 (.pick (.t 24) (.t 28) (.k (.bool false))),o 30 (.mov (.t 29)),og 31 30 true (.fad 2 (.t 11)),og 32 30 true (.ld false 1 (.t 31)),og 33 30 true (.mov (.t 3)),og 34 30 true (.bin .eql (.t 32) (.t 33)),o 35 (.pick (.t 30) (.t 34) (.k (.bool false)))]) (.cnd (.t 35) (.reg [o 36 (.mov (.t 9)),o 37 (.ld true 6 (.t 11)),o 38 (.lit 6 1 [(.bool false),(.str ⟨#[]⟩),(.str ⟨#[]⟩),(.int .i64 0),(.int .i64 0),(.int .i64 0)] [(0,6,(.t 37))]),o 39 (.app 6 64 [(.bool false),(.str ⟨#[]⟩),(.str ⟨#[]⟩),(.int .i64 0),(.int .i64 0),(.int .i64 0)] (.t 36) (.t 38)),o 9 (.mov (.t 39))]) .skip)))) (.reg [o 40 (.bin .add (.t 16) (.k (.int .i64 1))),o 16 (.mov (.t 40))]))))))) (.seq (.reg [o 41 (.mov (.t 9)),o 8 (.mov (.t 41))]) .ret))))⟩
theorem A1u:A5 Tryz.prog To=some Tp:=by kernel_rfl
theorem A1v {l:List Live} {m:Bool} {o k:ByteArray} {i:Nat} (hi:i<l.length):(l.take (i+1)).filter (Cn m o k)=if Cn m o k l[i] then(l.take i).filter (Cn m o k)++[l[i]] else(l.take i).filter (Cn m o k):=by
 rw[Do hi]
 split<;>simp
theorem Zb (σ:St) (cs:List GV) (s:State) (hR:A8.R σ s cs) (m:Bool) (o k:ByteArray) (hl:Ac s≤1099511627776):
  ∃ r τ,Ret Tryz.prog Tm [.agg cs,.bool m,.str o,.str k] σ r τ∧Hp σ τ [ow Ay.kd r (J7 s m o k)]:=by
 obtain⟨a,b,c,v,rfl,_,_,hv,_⟩:=hR
 obtain⟨l1,l2,l3,l4,_⟩:=Am hl
 refine Cv A1t (Z0z rfl) ?_
 have H:=((Hp.refl σ).new 1 [a,b,c,v]).nil_Live
 simp +contextual (disch:=omega) only[go_sem,Tn]
 generalize hb:σ.length=n1 at*
 refine Yh s.lives.length 10 (fun i env τ=>env 1= .bool m∧env 2= .str o∧env 3= .str k∧env 4= .ptr n1 0∧∃ w,env 9=w∧Hp σ τ [ow Ay.kd w ((s.lives.take i).filter (Cn m o k)),pt 1 n1 [a,b,c,v]]) rfl ⟨rfl,rfl,rfl,rfl,_,rfl,H⟩ ?_ ?_
 ·rintro J hJ i env τ hi e10 c0 ⟨e1,e2,e3,e4,w,e9,H⟩
  have hfl:=List.length_filter_le (Cn m o k) (s.lives.take i)
  rw[List.length_take] at hfl
  have C1:=A3 (hv.pre H.sub) hi
  have G:=H.grow (pre1 τ (some (Blk.row 1 [.bool s.lives[i].map,.str s.lives[i].obj,.str s.lives[i].key,gi s.lives[i].val,gi s.lives[i].dot.rep,gi s.lives[i].dot.seq])))
  have hfs:=A1v (m:=m) (o:=o) (k:=k) hi
  cases hm:(s.lives[i].map==m) with
  |false=>
   have hk0:Cn m o k s.lives[i]=false:=by simp[Cn,hm]
   rw[if_neg (by simp[hk0])] at hfs
   simp +contextual (disch:=omega) only[go_sem,c0,e1,e2,e3,e4,e9,e10,C1,A0 (H.pt 1 rfl),hv.len,hm,Bool.false_bne]
   refine hJ _ _ _ ⟨?_,?_,?_,?_,w,?_,by rw[hfs];exact G⟩
   all_goals simp +contextual (disch:=omega) only[go_sem,e1,e2,e3,e4,e9,e10]
  |true=>
   cases ho:decide (s.lives[i].obj=o) with
   |false=>
    have hk0:Cn m o k s.lives[i]=false:=by simp[Cn,hm,ho]
    rw[if_neg (by simp[hk0])] at hfs
    simp +contextual (disch:=omega) only[go_sem,c0,e1,e2,e3,e4,e9,e10,C1,A0 (H.pt 1 rfl),hv.len,hm,ho,Bool.false_bne]
    refine hJ _ _ _ ⟨?_,?_,?_,?_,w,?_,by rw[hfs];exact G⟩
    all_goals simp +contextual (disch:=omega) only[go_sem,e1,e2,e3,e4,e9,e10]
   |true=>
    cases hk:decide (s.lives[i].key=k) with
    |false=>
     have hk0:Cn m o k s.lives[i]=false:=by simp[Cn,hm,ho,hk]
     rw[if_neg (by simp[hk0])] at hfs
     simp +contextual (disch:=omega) only[go_sem,c0,e1,e2,e3,e4,e9,e10,C1,A0 (H.pt 1 rfl),hv.len,hm,ho,hk,Bool.false_bne]
     refine hJ _ _ _ ⟨?_,?_,?_,?_,w,?_,by rw[hfs];exact G⟩
     all_goals simp +contextual (disch:=omega) only[go_sem,e1,e2,e3,e4,e9,e10]
    |true=>
     have hk0:Cn m o k s.lives[i]=true:=by simp[Cn,hm,ho,hk]
     rw[if_pos hk0] at hfs
     obtain⟨w',τ3,e5,H3⟩:=G.app_Live 0 rfl s.lives[i] (by omega)
     simp +contextual (disch:=omega) only[go_sem,c0,e1,e2,e3,e4,e9,e10,C1,A0 (H.pt 1 rfl),hv.len,hm,ho,hk,Bool.false_bne,e5]
     refine hJ _ _ _ ⟨?_,?_,?_,?_,w',?_,by rw[hfs];exact H3⟩
     all_goals simp +contextual (disch:=omega) only[go_sem,e1,e2,e3,e4,e9,e10]
 ·rintro env τ e10 c0 ⟨e1,e2,e3,e4,w,e9,H⟩
  rw[List.take_length] at H
  simp +contextual (disch:=omega) only[go_sem,c0,e1,e2,e3,e4,e9,e10,A0 (H.pt 1 rfl),hv.len]
  exact⟨_,rfl,H.one⟩
theorem Zc (σ:St) (cs:List GV) (s:State) (hR:A8.R σ s cs) (m:Bool) (o k:ByteArray) (hl:Ac s≤1099511627776):
  ∃ r τ,Ret Tryz.prog To [.agg cs,.bool m,.str o,.str k] σ r τ∧Hp σ τ [ow Ay.kd r (J7 s m o k)]:=by
 obtain⟨a,b,c,v,rfl,_,_,hv,_⟩:=hR
 obtain⟨l1,l2,l3,l4,_⟩:=Am hl
 refine Cv A1u (Z0z rfl) ?_
 have H:=((Hp.refl σ).new 1 [a,b,c,v]).nil_Live
 simp +contextual (disch:=omega) only[go_sem,Tp,hv.len]
 generalize hb:σ.length=n1 at*
 refine Yh s.lives.length 16 (fun i env τ=>env 1= .bool m∧env 2= .str o∧env 3= .str k∧env 14=c∧env 15=gi s.lives.length∧∃ w,env 9=w∧Hp σ τ [ow Ay.kd w ((s.lives.take i).filter (Cn m o k)),pt 1 n1 [a,b,c,v]]) rfl ⟨rfl,rfl,rfl,rfl,rfl,_,rfl,H⟩ ?_ ?_
 ·rintro J hJ i env τ hi e10 c0 ⟨e1,e2,e3,e4,e15,w,e9,H⟩
  have hfl:=List.length_filter_le (Cn m o k) (s.lives.take i)
  rw[List.length_take] at hfl
  have C1:=A3 (hv.pre H.sub) hi
  have G:=H.grow (pre1 τ (some (Blk.row 1 [.bool s.lives[i].map,.str s.lives[i].obj,.str s.lives[i].key,gi s.lives[i].val,gi s.lives[i].dot.rep,gi s.lives[i].dot.seq])))
  have hfs:=A1v (m:=m) (o:=o) (k:=k) hi
  cases hm:(s.lives[i].map==m) with
  |false=>
   have hk0:Cn m o k s.lives[i]=false:=by simp[Cn,hm]
   rw[if_neg (by simp[hk0])] at hfs
   simp +contextual (disch:=omega) only[go_sem,c0,e1,e2,e3,e4,e15,e9,e10,C1,hm,Bool.false_bne]
   refine hJ _ _ _ ⟨?_,?_,?_,?_,?_,w,?_,by rw[hfs];exact G⟩
   all_goals simp +contextual (disch:=omega) only[go_sem,e1,e2,e3,e4,e15,e9,e10]
  |true=>
   cases ho:decide (s.lives[i].obj=o) with
   |false=>
    have hk0:Cn m o k s.lives[i]=false:=by simp[Cn,hm,ho]
    rw[if_neg (by simp[hk0])] at hfs
    simp +contextual (disch:=omega) only[go_sem,c0,e1,e2,e3,e4,e15,e9,e10,C1,hm,ho,Bool.false_bne]
    refine hJ _ _ _ ⟨?_,?_,?_,?_,?_,w,?_,by rw[hfs];exact G⟩
    all_goals simp +contextual (disch:=omega) only[go_sem,e1,e2,e3,e4,e15,e9,e10]
   |true=>
    cases hk:decide (s.lives[i].key=k) with
    |false=>
     have hk0:Cn m o k s.lives[i]=false:=by simp[Cn,hm,ho,hk]
     rw[if_neg (by simp[hk0])] at hfs
     simp +contextual (disch:=omega) only[go_sem,c0,e1,e2,e3,e4,e15,e9,e10,C1,hm,ho,hk,Bool.false_bne]
     refine hJ _ _ _ ⟨?_,?_,?_,?_,?_,w,?_,by rw[hfs];exact G⟩
     all_goals simp +contextual (disch:=omega) only[go_sem,e1,e2,e3,e4,e15,e9,e10]
    |true=>
     have hk0:Cn m o k s.lives[i]=true:=by simp[Cn,hm,ho,hk]
     rw[if_pos hk0] at hfs
     obtain⟨w',τ3,e5,H3⟩:=G.app_Live 0 rfl s.lives[i] (by omega)
     simp +contextual (disch:=omega) only[go_sem,c0,e1,e2,e3,e4,e15,e9,e10,C1,hm,ho,hk,Bool.false_bne,e5]
     refine hJ _ _ _ ⟨?_,?_,?_,?_,?_,w',?_,by rw[hfs];exact H3⟩
     all_goals simp +contextual (disch:=omega) only[go_sem,e1,e2,e3,e4,e15,e9,e10]
 ·rintro env τ e10 c0 ⟨e1,e2,e3,e4,e15,w,e9,H⟩
  rw[List.take_length] at H
  simp +contextual (disch:=omega) only[go_sem,c0,e1,e2,e3,e4,e15,e9,e10]
  exact⟨_,rfl,H.one⟩
end
section
open Go Go.RowKit
abbrev Fr:Nat:=399
def In:Fn1:=⟨17,[.t 4],(.seq (.reg [o 4 (.mov (.k (.bool false)))]) (.seq (.reg [o 5 (.mov (.t 0)),o 6 (.call 392 [(.t 5)]),o 7 (.mov (.t 6)),og 8 7 true (.mov (.t 1)),og 9 7 true (.call 392 [(.t 8)]),og 10 7 true (.un .not (.t 9)),o 11 (.pick (.t 7) (.t 10) (.k (.bool false))),o 12 (.mov (.t 11)),og 13 12 false (.mov (.t 0)),og 14 12 false (.mov (.t 1)),og 15 12 false (.bin .lss (.t 13) (.t 14)),o 16 (.pick (.t 12) (.k (.bool true)) (.t 15)),o 4 (.mov (.t 16))]) .ret))⟩
theorem Ni:A5 Tryz.prog Fr=some In:=by kernel_rfl
abbrev Dr:Nat:=325
abbrev Cw:Nat:=326
abbrev Fz:Nat:=377
abbrev E4:Nat:=393
abbrev Fs:Nat:=413
abbrev Ft:Nat:=394
abbrev Ee:Nat:=397
abbrev D6:Nat:=398
abbrev Dw:Nat:=400
abbrev F9:Nat:=401
abbrev E5:Nat:=395
abbrev G4:Nat:=435
abbrev G5:Nat:=415
abbrev Dx:Nat:=414
abbrev Et:Nat:=396
def elS:El ByteArray:=⟨pS,false,.str,fun _=>rfl,fun _=>rfl,by decide⟩
theorem Mf (σ:St) (a b:ByteArray):Ret Tryz.prog Fr [.str a,.str b] σ (.bool (txLt a b)) σ:=by
 refine Af Ni (Z0z rfl) trivial ?_
 simp +contextual (disch:=omega) only[go_sem,In]
 refine A7 (Du σ a) ?_
 simp +contextual (disch:=omega) only[go_sem,txLt]
def qS:SN:=⟨E4,Fs,Ft,Ee,D6,Dw,F9,E5,G4,G5,Dx,Et,Fz,Fr,Aq,Ap⟩
def srtS:SrtO ByteArray txLt where
 e:=elS
 q:=qS
 call:=Mf
 h_insertionSort:=by kernel_rfl
 h_siftDown:=by kernel_rfl
 h_heapSort:=by kernel_rfl
 h_reverseRange:=by kernel_rfl
 h_partialInsertionSort:=by kernel_rfl
 h_partitionEqual:=by kernel_rfl
 h_partition:=by kernel_rfl
 h_breakPatterns:=by kernel_rfl
 h_order2:=by kernel_rfl
 h_median:=by kernel_rfl
 h_medianAdjacent:=by kernel_rfl
 h_choosePivot:=by kernel_rfl
 h_pdqsort:=by kernel_rfl
 nS:=Dr
 h_Sort:=by kernel_rfl
 hnp:=rfl
 hxs:=rfl
theorem Ju {σ0 σ:St} {rs:List Thg} {v:GV} {l:List ByteArray} (H:Hp σ0 σ rs) (k:Nat) (hk:rs[k]? =some (ow pS.kd v l)) (hl:l.length≤1099511627776):∃ τ,Ret Tryz.prog Dr [v] σ (.tup []) τ∧Hp σ0 τ (rs.set k (ow pS.kd v (C3 txLt l))):=
 O.sort_ret srtS Ra H k hk hl fun x _ y _=>A62 x y
end
section
open Go Go.RowKit
abbrev Ae7:Nat:=70
def Ae8:Fn1:=⟨33,[.t 4],(.seq (.reg [o 2 (.box (.t 0)),o 4 (.mov (.k (.int .i64 0)))]) (.seq (.reg [o 5 (.mov (.k (.int .i64 0)))]) (.seq (.seq (.reg [o 6 (.mov (.k (.int .i64 0)))]) (.blk 0 (.lop (.seq (.seq (.reg [o 7 (.mov (.t 6)),o 8 (.fad 1 (.t 2)),o 9 (.ld false 1 (.t 8)),o 10 (.len false (.t 9)),o 11 (.bin .lss (.t 7) (.t 10))]) (.cnd (.t 11) .skip (.ext 0))) (.seq (.blk 1 (.seq (.reg [o 14 (.fad 1 (.t 2)),o 15 (.ld false 1 (.t 14)),o 16 (.mov (.t 6)),o 17 (.iad 3 (.t 15) (.t 16)),o 18 (.fad 0 (.t 17)),o 19 (.ld false 1 (.t 18)),o 20 (.mov (.t 1)),o 21 (.bin .eql (.t 19) (.t 20))]) (.cnd (.t 21) (.reg [o 22 (.mov (.t 5)),o 23 (.fad 1 (.t 2)),o 24 (.ld false 1 (.t 23)),o 25 (.mov (.t 6)),o 26 (.iad 3 (.t 24) (.t 25)),o 27 (.fad 2 (.t 26)),o 28 (.ld false 1 (.t 27)),o 29 (.bin .rem (.t 28) (.k (.int .i64 1000000))),o 30 (.bin .add (.t 22) (.t 29)),o 31 (.bin .rem (.t 30) (.k (.int .i64 1000000))),o 5 (.mov (.t 31))]) .skip))) (.reg [o 12 (.mov (.t 6)),o 13 (.bin .add (.t 12) (.k (.int .i64 1))),o 6 (.mov (.t 13))])))))) (.seq (.reg [o 32 (.mov (.t 5)),o 4 (.mov (.t 32))]) .ret))))⟩
abbrev Oo:Nat:=282
def X2:Fn1:=⟨50,[.t 4],(.seq (.reg [o 4 (.mov (.k .nilS))]) (.seq (.reg [o 8 (.lit 1 0 [] []),o 5 (.mov (.t 8))]) (.seq (.reg [o 6 (.mov (.k (.bool false)))]) (.seq (.seq (.reg [o 7 (.mov (.k (.int .i64 0)))]) (.blk 0 (.lop (.seq (.seq (.reg [o 9 (.mov (.t 7)),o 10 (.mov (.t 0)),o 11 (.len false (.t 10)),o 12 (.bin .lss (.t 9) (.t 11))]) (.cnd (.t 12) .skip (.ext 0))) (.seq (.blk 1 (.seq (.seq (.reg [o 15 (.mov (.t 0)),o 16 (.mov (.t 7)),o 17 (.iad 1 (.t 15) (.t 16)),o 18 (.ld false 1 (.t 17)),o 19 (.mov (.t 1)),o 20 (.bin .eql (.t 18) (.t 19))]) (.cnd (.t 20) (.seq (.reg [o 21 (.mov (.t 0)),o 4 (.mov (.t 21))]) .ret) .skip)) (.seq (.seq (.reg [o 22 (.mov (.t 6)),o 23 (.un .not (.t 22)),o 24 (.mov (.t 23)),og 25 24 true (.mov (.t 0)),og 26 24 true (.mov (.t 7)),og 27 24 true (.iad 1 (.t 25) (.t 26)),og 28 24 true (.ld false 1 (.t 27)),og 29 24 true (.mov (.t 1)),og 30 24 true (.bin .gtr (.t 28) (.t 29)),o 31 (.pick (.t 24) (.t 30) (.k (.bool false)))]) (.cnd (.t 31) (.seq (.reg [o 32 (.mov (.t 5)),o 33 (.mov (.t 1)),o 34 (.lit 1 1 [(.str ⟨#[]⟩)] [(0,1,(.t 33))]),o 35 (.app 1 16 [(.str ⟨#[]⟩)] (.t 32) (.t 34)),o 5 (.mov (.t 35))]) (.reg [o 6 (.mov (.k (.bool true)))])) .skip)) (.reg [o 36 (.mov (.t 5)),o 37 (.mov (.t 0)),o 38 (.mov (.t 7)),o 39 (.iad 1 (.t 37) (.t 38)),o 40 (.ld false 1 (.t 39)),o 41 (.lit 1 1 [(.str ⟨#[]⟩)] [(0,1,(.t 40))]),o 42 (.app 1 16 [(.str ⟨#[]⟩)] (.t 36) (.t 41)),o 5 (.mov (.t 42))])))) (.reg [o 13 (.mov (.t 7)),o 14 (.bin .add (.t 13) (.k (.int .i64 1))),o 7 (.mov (.t 14))])))))) (.seq (.seq (.reg [o 43 (.mov (.t 6)),o 44 (.un .not (.t 43))]) (.cnd (.t 44) (.reg [o 45 (.mov (.t 5)),o 46 (.mov (.t 1)),o 47 (.lit 1 1 [(.str ⟨#[]⟩)] [(0,1,(.t 46))]),o 48 (.app 1 16 [(.str ⟨#[]⟩)] (.t 45) (.t 47)),o 5 (.mov (.t 48))]) .skip)) (.seq (.reg [o 49 (.mov (.t 5)),o 4 (.mov (.t 49))]) .ret))))))⟩
theorem A4y:A5 Tryz.prog Oo=some X2:=by kernel_rfl
theorem A1w {σ0 σ:St} {rs:List Thg} {w:GV} {l:List ByteArray} (s:ByteArray) (H:Hp σ0 σ rs) (k:Nat) (hk:rs[k]? =some (ow pS.kd w l)) (hl:l.length≤1099511627776):∃ w' τ,Ret Tryz.prog Oo [w,.str s] σ w' τ∧Hp σ0 τ (rs.set k (ow pS.kd w' (putU txLt s l))):=by
 have key:∃ r τ,Ret Tryz.prog Oo [w,.str s] σ r τ∧Hp σ0 τ (rs.set k (ow pS.kd r (putU txLt s l))):=by
  have hkl:=(List.getElem?_eq_some_iff.1 hk).1
  have hset:rs.set k (ow pS.kd w l)=rs:=by rw[← (List.getElem?_eq_some_iff.1 hk).2,List.set_getElem_self]
  refine Cv A4y (Z0z rfl) ?_
  have H:=H.nil_str
  simp +contextual (disch:=omega) only[go_sem,X2]
  refine A9c l.length 7 0 (fun i env τ=>env 0=w∧env 1= .str s∧∃(u:GV) (put:Bool) (nxt:List ByteArray),env 5=u∧env 6= .bool put∧(∀ j (hj:j<i) (hl:j<l.length),l[j]≠s)∧insG txLt s l nxt i put∧Hp σ0 τ (ow pS.kd u nxt::rs)) (fun env τ=>env 1= .str s∧∃(u:GV) (put:Bool) (nxt:List ByteArray),env 5=u∧env 6= .bool put∧s∉l∧insG txLt s l nxt l.length put∧Hp σ0 τ (ow pS.kd u nxt::rs)) (fun env τ=>env 4=w∧s∈l∧Hp σ0 τ rs) rfl ⟨rfl,rfl,_,false,[],rfl,rfl,fun j hj=>by omega,Lj,H⟩ ?_ ?_ ?_ ?_
  ·clear H
   rintro J Y W hJ hY hW i env τ hi e7 c0 ⟨e0,e1,u,put,nxt,e5,e6,ha,hok,H⟩
   have hk1:(ow pS.kd u nxt::rs)[k+1]? =some (ow pS.kd w l):=hk
   have hnl:=C6 hok
   have i1:=A5t (H.sl (k+1) hk1) hi
   have hln:=(H.sl (k+1) hk1).len
   cases heq:decide (l[i]=s) with
   |true=>
    have hm:s∈l:=by
     have:l[i]=s:=by simpa using heq
     rw[← this];exact List.getElem_mem hi
    simp +contextual (disch:=omega) only[go_sem,c0,e0,e1,e5,e6,e7,i1,hln,heq]
    refine hW _ _ ⟨?_,hm,H.drop1⟩
    simp +contextual (disch:=omega) only[go_sem,e0]
   |false=>
    have hne:l[i]≠s:=by simpa using heq
    have ha2:∀ j (hj:j<i+1) (hl:j<l.length),l[j]≠s:=fun j hj hl=>by
     rcases Nat.lt_or_ge j i with h|h
     ·exact ha j h hl
     ·have:j=i:=by omega
      subst this;exact hne
    cases put with
    |true=>
     obtain⟨w',τ3,e8,H3⟩:=H.app_str 0 rfl l[i] (by omega)
     simp +contextual (disch:=omega) only[go_sem,c0,e0,e1,e5,e6,e7,i1,hln,heq,e8]
     refine hJ _ _ _ ⟨?_,?_,w',true,_,?_,?_,ha2,Co hok hi (.inl rfl),H3⟩
     all_goals simp +contextual (disch:=omega) only[go_sem,e0,e1,e6]
    |false=>
     cases hlt:txLt s l[i] with
     |false=>
      obtain⟨w',τ3,e8,H3⟩:=H.app_str 0 rfl l[i] (by omega)
      simp +contextual (disch:=omega) only[go_sem,c0,e0,e1,e5,e6,e7,i1,hln,heq,hlt,e8]
      refine hJ _ _ _ ⟨?_,?_,w',false,_,?_,?_,ha2,Co hok hi (.inr hlt),H3⟩
      all_goals simp +contextual (disch:=omega) only[go_sem,e0,e1,e6]
     |true=>
      obtain⟨w',τ3,e8,H3⟩:=H.app_str 0 rfl s (by omega)
      have H3:Hp σ0 τ3 (ow pS.kd w' (nxt++[s])::rs):=H3
      have hp:=J8 hok hi hlt
      have hnl2:=C6 hp
      simp only[List.length_append,List.length_cons,List.length_nil] at hnl2
      have i2:=A5t (H3.sl (k+1) hk) hi
      obtain⟨w2,τ4,e9,H4⟩:=H3.app_str 0 rfl l[i] (by simp;omega)
      simp +contextual (disch:=omega) only[go_sem,c0,e0,e1,e5,e6,e7,i1,hln,heq,hlt,e8,i2,e9]
      refine hJ _ _ _ ⟨?_,?_,w2,true,_,?_,?_,ha2,hp,H4⟩
      all_goals simp +contextual (disch:=omega) only[go_sem,e0,e1,e6]
  ·clear H
   rintro Y hY env τ e7 c0 ⟨e0,e1,u,put,nxt,e5,e6,ha,hok,H⟩
   have hk1:(ow pS.kd u nxt::rs)[k+1]? =some (ow pS.kd w l):=hk
   have hln:=(H.sl (k+1) hk1).len
   have hni:s∉l:=fun hm=>by
    obtain⟨j,hj,he⟩:=List.getElem_of_mem hm
    exact ha j hj hj he
   simp +contextual (disch:=omega) only[go_sem,c0,e0,e1,e5,e6,e7,hln]
   refine hY _ _ ⟨?_,u,put,nxt,?_,?_,hni,hok,H⟩
   all_goals simp +contextual (disch:=omega) only[go_sem,e1,e5,e6]
  ·clear H
   rintro env τ ⟨e1,u,put,nxt,e5,e6,hni,hok,H⟩
   have hnl:=C6 hok
   have hend:=Lk hok
   have hpu:putU txLt s l=insB txLt s l:=by rw[putU,if_neg hni]
   cases put with
   |true=>
    simp +contextual (disch:=omega) only[go_sem,e1,e5,e6]
    refine⟨_,rfl,?_⟩
    rw[hpu,←hend]
    exact(H.perm (List.Perm.refl _)).moveTo k hk
   |false=>
    obtain⟨w',τ3,e8,H3⟩:=H.app_str 0 rfl s (by omega)
    simp +contextual (disch:=omega) only[go_sem,e1,e5,e6,e8]
    refine⟨_,rfl,?_⟩
    rw[hpu,←hend]
    exact Hp.moveTo H3 k hk
  ·clear H
   rintro env τ ⟨e4,hm,H⟩
   have hpu:putU txLt s l=l:=by rw[putU,if_pos hm]
   simp +contextual (disch:=omega) only[go_sem,e4]
   exact⟨_,rfl,by rw[hpu,hset];exact H⟩
 obtain⟨r,τ,R,h⟩:=key
 exact⟨r,τ,R,h⟩
end
section
open Go Go.RowKit
abbrev Tq:Nat:=190
def Tr:Fn1:=⟨44,[.t 6],(.seq (.reg [o 3 (.box (.t 0)),o 6 (.mov (.k .nilS))]) (.seq (.reg [o 9 (.lit 1 0 [] []),o 7 (.mov (.t 9))]) (.seq (.seq (.reg [o 8 (.mov (.k (.int .i64 0)))]) (.blk 0 (.lop (.seq (.seq (.reg [o 10 (.mov (.t 8)),o 11 (.fad 2 (.t 3)),o 12 (.ld false 1 (.t 11)),o 13 (.len false (.t 12)),o 14 (.bin .lss (.t 10) (.t 13))]) (.cnd (.t 14) .skip (.ext 0))) (.seq (.blk 1 (.seq (.reg [o 17 (.fad 2 (.t 3)),o 18 (.ld false 1 (.t 17)),o 19 (.mov (.t 8)),o 20 (.iad 6 (.t 18) (.t 19)),o 21 (.fad 0 (.t 20)),o 22 (.ld false 1 (.t 21)),o 23 (.mov (.t 1)),o 24 (.eqb false (.t 22) (.t 23)),o 25 (.mov (.t 24)),og 26 25 true (.fad 2 (.t 3)),og 27 25 true (.ld false 1 (.t 26)),og 28 25 true (.mov (.t 8)),og 29 25 true (.iad 6 (.t 27) (.t 28)),og 30 25 true (.fad 1 (.t 29)),og 31 25 true (.ld false 1 (.t 30)),og 32 25 true (.mov (.t 2)),og 33 25 true (.bin .eql (.t 31) (.t 32)),o 34 (.pick (.t 25) (.t 33) (.k (.bool false)))]) (.cnd (.t 34) (.reg [o 35 (.mov (.t 7)),o 36 (.fad 2 (.t 3)),o 37 (.ld false 1 (.t 36)),o 38 (.mov (.t 8)),o 39 (.iad 6 (.t 37) (.t 38)),o 40 (.fad 2 (.t 39)),o 41 (.ld false 1 (.t 40)),o 42 (.call 282 [(.t 35),(.t 41)]),o 7 (.mov (.t 42))]) .skip))) (.reg [o 15 (.mov (.t 8)),o 16 (.bin .add (.t 15) (.k (.int .i64 1))),o 8 (.mov (.t 16))])))))) (.seq (.reg [o 43 (.mov (.t 7)),o 6 (.mov (.t 43))]) .ret))))⟩
theorem A1x:A5 Tryz.prog Tq=some Tr:=by kernel_rfl
abbrev X3:Nat:=262
def X4:Fn1:=⟨38,[.t 6],(.seq (.reg [o 3 (.box (.t 0)),o 6 (.mov (.k .nilS))]) (.seq (.reg [o 10 (.lit 1 0 [] []),o 7 (.mov (.t 10))]) (.seq (.seq (.reg [o 11 (.fad 2 (.t 3)),o 12 (.ld false 1 (.t 11)),o 13 (.len false (.t 12)),o 14 (.mov (.k (.int .i64 0)))]) (.blk 0 (.lop (.seq (.reg [o 15 (.bin .lss (.t 14) (.t 13))]) (.seq (.cnd (.t 15) .skip (.ext 0)) (.seq (.blk 1 (.seq (.reg [o 16 (.iad 6 (.t 12) (.t 14)),o 17 (.ld true 6 (.t 16)),o 9 (.new [(.bool false),(.str ⟨#[]⟩),(.str ⟨#[]⟩),(.int .i64 0),(.int .i64 0),(.int .i64 0)]),on (.st 6 (.t 9) (.t 17))]) (.seq (.reg [o 18 (.fad 0 (.t 9)),o 19 (.ld false 1 (.t 18)),o 20 (.mov (.t 1)),o 21 (.eqb false (.t 19) (.t 20)),o 22 (.mov (.t 21)),og 23 22 true (.fad 1 (.t 9)),og 24 22 true (.ld false 1 (.t 23)),og 25 22 true (.mov (.t 2)),og 26 22 true (.bin .eql (.t 24) (.t 25)),o 27 (.pick (.t 22) (.t 26) (.k (.bool false)))]) (.cnd (.t 27) (.reg [o 28 (.mov (.t 7)),o 29 (.fad 2 (.t 9)),o 30 (.ld false 1 (.t 29)),o 31 (.lit 1 1 [(.str ⟨#[]⟩)] [(0,1,(.t 30))]),o 32 (.app 1 16 [(.str ⟨#[]⟩)] (.t 28) (.t 31)),o 7 (.mov (.t 32))]) .skip)))) (.reg [o 33 (.bin .add (.t 14) (.k (.int .i64 1))),o 14 (.mov (.t 33))]))))))) (.seq (.reg [o 34 (.mov (.t 7)),o 35 (.call 325 [(.t 34)])]) (.seq (.reg [o 36 (.mov (.t 7)),o 37 (.call 326 [(.t 36)]),o 6 (.mov (.t 37))]) .ret)))))⟩
theorem A4z:A5 Tryz.prog X3=some X4:=by kernel_rfl
abbrev A1y:Nat:=66
def A1z:Fn1:=⟨8,[.t 4],(.seq (.reg [o 2 (.box (.t 0)),o 4 (.mov (.k .nilS))]) (.seq (.reg [o 5 (.ld true 4 (.t 2)),o 6 (.mov (.t 1)),o 7 (.call 190 [(.t 5),(.k (.bool false)),(.t 6)]),o 4 (.mov (.t 7))]) .ret))⟩
theorem A7m:A5 Tryz.prog A1y=some A1z:=by kernel_rfl
abbrev A20:Nat:=155
def A21:Fn1:=⟨8,[.t 4],(.seq (.reg [o 2 (.box (.t 0)),o 4 (.mov (.k .nilS))]) (.seq (.reg [o 5 (.ld true 4 (.t 2)),o 6 (.mov (.t 1)),o 7 (.call 262 [(.t 5),(.k (.bool false)),(.t 6)]),o 4 (.mov (.t 7))]) .ret))⟩
theorem A7n:A5 Tryz.prog A20=some A21:=by kernel_rfl
abbrev A22:Nat:=250
def A23:Fn1:=⟨72,[.t 6],(.seq (.reg [o 3 (.box (.t 0)),o 6 (.mov (.k .nilS))]) (.seq (.reg [o 13 (.lit 1 0 [] []),o 7 (.mov (.t 13))]) (.seq (.reg [o 14 (.ld true 4 (.t 3)),o 15 (.mov (.t 1)),o 16 (.mov (.t 2)),o 17 (.call 207 [(.t 14),(.k (.bool true)),(.t 15),(.t 16)]),o 8 (.mov (.t 17))]) (.seq (.seq (.reg [o 9 (.mov (.k (.int .i64 0)))]) (.blk 0 (.lop (.seq (.seq (.reg [o 18 (.mov (.t 9)),o 19 (.mov (.t 8)),o 20 (.len false (.t 19)),o 21 (.bin .lss (.t 18) (.t 20))]) (.cnd (.t 21) .skip (.ext 0))) (.seq (.blk 1 (.seq (.reg [o 24 (.lit 1 0 [] []),o 10 (.mov (.t 24))]) (.seq (.reg [o 11 (.mov (.k (.bool false)))]) (.seq (.seq (.reg [o 12 (.mov (.k (.int .i64 0)))]) (.blk 2 (.lop (.seq (.seq (.reg [o 25 (.mov (.t 12)),o 26 (.mov (.t 7)),o 27 (.len false (.t 26)),o 28 (.bin .lss (.t 25) (.t 27))]) (.cnd (.t 28) .skip (.ext 2))) (.seq (.blk 3 (.seq (.seq (.drw [o 31 (.mov (.t 11)),o 32 (.un .not (.t 31)),o 33 (.mov (.t 32)),og 34 33 true (.mov (.t 7)),og 35 33 true (.mov (.t 12)),og 36 33 true (.iad 1 (.t 34) (.t 35)),og 37 33 true (.ld false 1 (.t 36)),og 38 33 true (.mov (.t 8)),og 39 33 true (.mov (.t 9)),og 40 33 true (.iad 6 (.t 38) (.t 39)),og 41 33 true (.fad 3 (.t 40)),og 42 33 true (.ld false 1 (.t 41))] [og 43 33 true (.bin .gtr (.t 37) (.t 42)),o 44 (.pick (.t 33) (.t 43) (.k (.bool false)))]) (.cnd (.t 44) (.seq (.reg [o 45 (.mov (.t 10)),o 46 (.mov (.t 8)),o 47 (.mov (.t 9)),o 48 (.iad 6 (.t 46) (.t 47)),o 49 (.fad 3 (.t 48)),o 50 (.ld false 1 (.t 49)),o 51 (.lit 1 1 [(.int .i64 0)] [(0,1,(.t 50))]),o 52 (.app 1 8 [(.int .i64 0)] (.t 45) (.t 51)),o 10 (.mov (.t 52))]) (.reg [o 11 (.mov (.k (.bool true)))])) .skip)) (.reg [o 53 (.mov (.t 10)),o 54 (.mov (.t 7)),o 55 (.mov (.t 12)),o 56 (.iad 1 (.t 54) (.t 55)),o 57 (.ld false 1 (.t 56)),o 58 (.lit 1 1 [(.int .i64 0)] [(0,1,(.t 57))]),o 59 (.app 1 8 [(.int .i64 0)] (.t 53) (.t 58)),o 10 (.mov (.t 59))]))) (.reg [o 29 (.mov (.t 12)),o 30 (.bin .add (.t 29) (.k (.int .i64 1))),o 12 (.mov (.t 30))])))))) (.seq (.seq (.reg [o 60 (.mov (.t 11)),o 61 (.un .not (.t 60))]) (.cnd (.t 61) (.reg [o 62 (.mov (.t 10)),o 63 (.mov (.t 8)),o 64 (.mov (.t 9)),o 65 (.iad 6 (.t 63) (.t 64)),o 66 (.fad 3 (.t 65)),o 67 (.ld false 1 (.t 66)),o 68 (.lit 1 1 [(.int .i64 0)] [(0,1,(.t 67))]),o 69 (.app 1 8 [(.int .i64 0)] (.t 62) (.t 68)),o 10 (.mov (.t 69))]) .skip)) (.reg [o 70 (.mov (.t 10)),o 7 (.mov (.t 70))])))))) (.reg [o 22 (.mov (.t 9)),o 23 (.bin .add (.t 22) (.k (.int .i64 1))),o 9 (.mov (.t 23))])))))) (.seq (.reg [o 71 (.mov (.t 7)),o 6 (.mov (.t 71))]) .ret)))))⟩
theorem A7o:A5 Tryz.prog A22=some A23:=by kernel_rfl
abbrev A24:Nat:=153
def A25:Fn1:=⟨29,[.t 6],(.seq (.reg [o 3 (.box (.t 0)),o 6 (.mov (.k .nilS))]) (.seq (.reg [o 10 (.lit 1 0 [] []),o 7 (.mov (.t 10))]) (.seq (.seq (.reg [o 11 (.ld true 4 (.t 3)),o 12 (.mov (.t 1)),o 13 (.mov (.t 2)),o 14 (.call 191 [(.t 11),(.k (.bool true)),(.t 12),(.t 13)]),o 15 (.len false (.t 14)),o 16 (.mov (.k (.int .i64 0)))]) (.blk 0 (.lop (.seq (.reg [o 17 (.bin .lss (.t 16) (.t 15))]) (.seq (.cnd (.t 17) .skip (.ext 0)) (.seq (.blk 1 (.seq (.reg [o 18 (.iad 6 (.t 14) (.t 16)),o 19 (.ld true 6 (.t 18)),o 9 (.new [(.bool false),(.str ⟨#[]⟩),(.str ⟨#[]⟩),(.int .i64 0),(.int .i64 0),(.int .i64 0)]),on (.st 6 (.t 9) (.t 19))]) (.reg [o 20 (.mov (.t 7)),o 21 (.fad 3 (.t 9)),o 22 (.ld false 1 (.t 21)),o 23 (.lit 1 1 [(.int .i64 0)] [(0,1,(.t 22))]),o 24 (.app 1 8 [(.int .i64 0)] (.t 20) (.t 23)),o 7 (.mov (.t 24))]))) (.reg [o 25 (.bin .add (.t 16) (.k (.int .i64 1))),o 16 (.mov (.t 25))]))))))) (.seq (.reg [o 26 (.mov (.t 7)),o 27 (.call 192 [(.t 26)])]) (.seq (.reg [o 28 (.mov (.t 7)),o 6 (.mov (.t 28))]) .ret)))))⟩
theorem A7p:A5 Tryz.prog A24=some A25:=by kernel_rfl
abbrev n_s_RowOf:Nat:=72
def F_s_RowOf:Fn1:=⟨37,[.t 4],(.seq (.reg [o 2 (.box (.t 0)),o 4 (.mov (.k .nilS))]) (.seq (.reg [o 8 (.lit 1 0 [] []),o 5 (.mov (.t 8))]) (.seq (.seq (.reg [o 9 (.ld true 4 (.t 2)),o 10 (.call 199 [(.t 9)]),o 11 (.un .not (.t 10))]) (.cnd (.t 11) (.seq (.reg [o 12 (.mov (.t 5)),o 4 (.mov (.t 12))]) .ret) .skip)) (.seq (.reg [o 13 (.ld true 4 (.t 2)),o 14 (.mov (.t 1)),o 15 (.call 145 [(.t 13),(.t 14)]),o 6 (.mov (.t 15))]) (.seq (.seq (.reg [o 7 (.mov (.k (.int .i64 0)))]) (.blk 0 (.lop (.seq (.seq (.reg [o 16 (.mov (.t 7)),o 17 (.mov (.t 6)),o 18 (.len false (.t 17)),o 19 (.bin .lss (.t 16) (.t 18))]) (.cnd (.t 19) .skip (.ext 0))) (.seq (.blk 1 (.seq (.reg [o 22 (.mov (.t 6)),o 23 (.mov (.t 7)),o 24 (.iad 8 (.t 22) (.t 23)),o 25 (.fad 7 (.t 24)),o 26 (.ld false 1 (.t 25)),o 27 (.un .not (.t 26))]) (.cnd (.t 27) (.reg [o 28 (.mov (.t 5)),o 29 (.mov (.t 6)),o 30 (.mov (.t 7)),o 31 (.iad 8 (.t 29) (.t 30)),o 32 (.fad 6 (.t 31)),o 33 (.ld false 1 (.t 32)),o 34 (.lit 1 1 [(.int .i64 0)] [(0,1,(.t 33))]),o 35 (.app 1 8 [(.int .i64 0)] (.t 28) (.t 34)),o 5 (.mov (.t 35))]) .skip))) (.reg [o 20 (.mov (.t 7)),o 21 (.bin .add (.t 20) (.k (.int .i64 1))),o 7 (.mov (.t 21))])))))) (.seq (.reg [o 36 (.mov (.t 5)),o 4 (.mov (.t 36))]) .ret))))))⟩
def eqS:Eqs elS:=⟨fun x y=>by
 show binG .eql (.str x) (.str y)=_
 simp only[Aaf],fun x y=>by
 show binG .neq (.str x) (.str y)=_
 simp only[Aag],[.str ⟨#[]⟩],rfl⟩
theorem Io:A5 Tryz.prog Cw=some (Na elS.p.z elS.g eqS.ze):=by kernel_rfl
theorem I8 {σ0 σ:St} {rs:List Thg} {v:GV} {l:List ByteArray} (H:Hp σ0 σ rs) (k:Nat) (hk:rs[k]? =some (ow pS.kd v l)) (hl:l.length≤1099511627776):∃ v' τ,Ret Tryz.prog Cw [v] σ v' τ∧Hp σ0 τ (rs.set k (ow pS.kd v' (Bd l))):=
 A4n eqS Io H k hk hl
theorem A26 {l:List Live} {m:Bool} {o:ByteArray} {i:Nat} (hi:i<l.length):((l.take (i+1)).filter (Bo m o)).map (·.key)=if Bo m o l[i] then((l.take i).filter (Bo m o)).map (·.key)++[l[i].key] else((l.take i).filter (Bo m o)).map (·.key):=by
 rw[Do hi]
 split<;>simp
theorem Zd (σ:St) (cs:List GV) (s:State) (hR:A8.R σ s cs) (m:Bool) (o:ByteArray) (hl:Ac s≤1099511627776):∃ r τ,Ret Tryz.prog Tq [.agg cs,.bool m,.str o] σ r τ∧Hp σ τ [ow pS.kd r (Dn s m o)]:=by
 obtain⟨a,b,c,v,rfl,_,_,hv,_⟩:=hR
 obtain⟨l1,l2,l3,l4,_⟩:=Am hl
 refine Cv A1x (Z0z rfl) ?_
 have H:=((Hp.refl σ).new 1 [a,b,c,v]).nil_str
 simp +contextual (disch:=omega) only[go_sem,Tr]
 generalize hb:σ.length=n1 at*
 refine Fm s.lives.length 8 0 (fun i env τ=>env 1= .bool m∧env 2= .str o∧env 3= .ptr n1 0∧∃ w,env 7=w∧Hp σ τ [ow pS.kd w (Jk txLt (((s.lives.take i).filter (Bo m o)).map (·.key))),pt 1 n1 [a,b,c,v]]) (fun env τ=>∃ w,env 7=w∧Hp σ τ [ow pS.kd w (Dn s m o)]) rfl ⟨rfl,rfl,rfl,_,rfl,H⟩ ?_ ?_ ?_
 ·clear H
  rintro J Y hJ hY i env τ hi e8 c0 ⟨e1,e2,e3,w,e7,H⟩
  have hfl:=Cc s.lives (Bo m o) i
  have hpl:=N5 txLt (((s.lives.take i).filter (Bo m o)).map (·.key))
  rw[List.length_map] at hpl
  have C1:=A3 (hv.pre H.sub) hi
  have hln:=(hv.pre H.sub).len
  have hks:=A26 (m:=m) (o:=o) hi
  cases hm:(s.lives[i].map==m) with
  |false=>
   have hk0:Bo m o s.lives[i]=false:=by simp[Bo,hm]
   rw[hk0,if_neg (by simp)] at hks
   simp +contextual (disch:=omega) only[go_sem,c0,e1,e2,e3,e7,e8,C1,A0 (H.pt 1 rfl),hln,hm,Bool.false_bne]
   refine hJ _ _ _ ⟨?_,?_,?_,w,?_,by rw[hks];exact H⟩
   all_goals simp +contextual (disch:=omega) only[go_sem,e1,e2,e3,e7]
  |true=>
   cases ho:decide (s.lives[i].obj=o) with
   |false=>
    have hk0:Bo m o s.lives[i]=false:=by simp[Bo,hm,ho]
    rw[hk0,if_neg (by simp)] at hks
    simp +contextual (disch:=omega) only[go_sem,c0,e1,e2,e3,e7,e8,C1,A0 (H.pt 1 rfl),hln,hm,ho,Bool.false_bne]
    refine hJ _ _ _ ⟨?_,?_,?_,w,?_,by rw[hks];exact H⟩
    all_goals simp +contextual (disch:=omega) only[go_sem,e1,e2,e3,e7]
   |true=>
    have hk0:Bo m o s.lives[i]=true:=by simp[Bo,hm,ho]
    rw[hk0,if_pos rfl] at hks
    obtain⟨w',τ3,R3,H3⟩:=A1w s.lives[i].key H 0 rfl (by omega)
    simp +contextual (disch:=omega) only[go_sem,c0,e1,e2,e3,e7,e8,C1,A0 (H.pt 1 rfl),hln,hm,ho,Bool.false_bne]
    refine Aj R3 ?_
    simp +contextual (disch:=omega) only[go_sem,e1,e2,e3,e7,e8]
    refine hJ _ _ _ ⟨?_,?_,?_,w',?_,?_⟩
    all_goals first|(simp +contextual (disch:=omega) only[go_sem,e1,e2,e3,e7];done)|skip
    rw[hks,A4c]
    exact H3
 ·clear H
  rintro Y hY env τ e8 c0 ⟨e1,e2,e3,w,e7,H⟩
  rw[List.take_length] at H
  have hln:=(hv.pre H.sub).len
  simp +contextual (disch:=omega) only[go_sem,c0,e1,e2,e3,e7,e8,A0 (H.pt 1 rfl),hln]
  refine hY _ _ ⟨w,?_,H.one⟩
  simp +contextual (disch:=omega) only[go_sem,e7]
 ·clear H
  rintro env τ ⟨w,e7,H⟩
  simp +contextual (disch:=omega) only[go_sem,e7]
  exact⟨_,rfl,H⟩
theorem A27 (σ:St) (cs:List GV) (s:State) (hR:A8.R σ s cs) (m:Bool) (o:ByteArray) (hl:Ac s≤1099511627776):∃ r τ,Ret Tryz.prog X3 [.agg cs,.bool m,.str o] σ r τ∧Hp σ τ [ow pS.kd r (Dn s m o)]:=by
 obtain⟨a,b,c,v,rfl,_,_,hv,_⟩:=hR
 obtain⟨l1,l2,l3,l4,_⟩:=Am hl
 refine Cv A4z (Z0z rfl) ?_
 have H:=((Hp.refl σ).new 1 [a,b,c,v]).nil_str
 simp +contextual (disch:=omega) only[go_sem,X4,hv.len]
 generalize hb:σ.length=n1 at*
 refine Fm s.lives.length 14 0 (fun i env τ=>env 1= .bool m∧env 2= .str o∧env 12=c∧env 13=gi s.lives.length∧∃ w,env 7=w∧Hp σ τ [ow pS.kd w (((s.lives.take i).filter (Bo m o)).map (·.key)),pt 1 n1 [a,b,c,v]]) (fun env τ=>∃ w,env 7=w∧Hp σ τ [ow pS.kd w ((s.lives.filter (Bo m o)).map (·.key)),pt 1 n1 [a,b,c,v]]) rfl ⟨rfl,rfl,rfl,rfl,_,rfl,H⟩ ?_ ?_ ?_
 ·clear H
  rintro J Y hJ hY i env τ hi e14 c0 ⟨e1,e2,e12,e13,w,e7,H⟩
  have hfl:=Cc s.lives (Bo m o) i
  have C1:=A3 (hv.pre H.sub) hi
  have G:=H.grow (pre1 τ (some (Blk.row 1 [.bool s.lives[i].map,.str s.lives[i].obj,.str s.lives[i].key,gi s.lives[i].val,gi s.lives[i].dot.rep,gi s.lives[i].dot.seq])))
  have hks:=A26 (m:=m) (o:=o) hi
  cases hm:(s.lives[i].map==m) with
  |false=>
   have hk0:Bo m o s.lives[i]=false:=by simp[Bo,hm]
   rw[hk0,if_neg (by simp)] at hks
   simp +contextual (disch:=omega) only[go_sem,c0,e1,e2,e12,e13,e7,e14,C1,hm,Bool.false_bne]
   refine hJ _ _ _ ⟨?_,?_,?_,?_,w,?_,by rw[hks];exact G⟩
   all_goals simp +contextual (disch:=omega) only[go_sem,e1,e2,e12,e13,e7]
  |true=>
   cases ho:decide (s.lives[i].obj=o) with
   |false=>
    have hk0:Bo m o s.lives[i]=false:=by simp[Bo,hm,ho]
    rw[hk0,if_neg (by simp)] at hks
    simp +contextual (disch:=omega) only[go_sem,c0,e1,e2,e12,e13,e7,e14,C1,hm,ho,Bool.false_bne]
    refine hJ _ _ _ ⟨?_,?_,?_,?_,w,?_,by rw[hks];exact G⟩
    all_goals simp +contextual (disch:=omega) only[go_sem,e1,e2,e12,e13,e7]
   |true=>
    have hk0:Bo m o s.lives[i]=true:=by simp[Bo,hm,ho]
    rw[hk0,if_pos rfl] at hks
    obtain⟨w',τ3,e8,H3⟩:=G.app_str 0 rfl s.lives[i].key (by rw[List.length_map];omega)
    simp +contextual (disch:=omega) only[go_sem,c0,e1,e2,e12,e13,e7,e14,C1,hm,ho,Bool.false_bne,e8]
    refine hJ _ _ _ ⟨?_,?_,?_,?_,w',?_,?_⟩
    all_goals first|(simp +contextual (disch:=omega) only[go_sem,e1,e2,e12,e13,e7];done)|skip
    rw[hks]
    exact H3
 ·clear H
  rintro Y hY env τ e14 c0 ⟨e1,e2,e12,e13,w,e7,H⟩
  rw[List.take_length] at H
  simp +contextual (disch:=omega) only[go_sem,c0,e1,e2,e12,e13,e7,e14]
  refine hY _ _ ⟨w,?_,H⟩
  simp +contextual (disch:=omega) only[go_sem,e7]
 ·clear H
  rintro env τ ⟨w,e7,H⟩
  have hfl:=List.length_filter_le (Bo m o) s.lives
  generalize hK:(s.lives.filter (Bo m o)).map (·.key)=K at*
  have hKl:K.length≤1099511627776:=by rw[← hK,List.length_map];omega
  obtain⟨τ2,R2,H2⟩:=Ju H 0 rfl hKl
  simp +contextual (disch:=omega) only[go_sem,e7]
  refine Aj R2 ?_
  simp +contextual (disch:=omega) only[go_sem,e7]
  obtain⟨w3,τ3,R3,H3⟩:=I8 H2 0 rfl (by rw[Ew];exact hKl)
  refine Aj R3 ?_
  simp +contextual (disch:=omega) only[go_sem]
  refine⟨_,rfl,?_⟩
  have hE:Bd (C3 txLt K)=Dn s m o:=by
   rw[Dn,hK]
   exact Vb Ra A62 (D5 _ _) (N3 Ra _)
  rw[← hE]
  exact H3.one
theorem Mg (σ:St) (cs:List GV) (s:State) (hR:A8.R σ s cs) (o:ByteArray) (hl:Ac s≤1099511627776):∃ r τ,Ret Tryz.prog A1y [.agg cs,.str o] σ r τ∧Hp σ τ [ow pS.kd r (Dn s false o)]:=by
 have hlen:cs.length=4:=A8.len hR
 refine Cv A7m (Z0z rfl) ?_
 have H:=(Hp.refl σ).new 1 cs
 simp +contextual (disch:=omega) only[go_sem,A1z,A0j,A6 hlen]
 obtain⟨r,τ,R,K⟩:=Zd _ cs s (A8.pre hR H.sub) false o hl
 refine Da R K ?_
 have H:=H.add K
 simp +contextual (disch:=omega) only[go_sem]
 exact⟨_,rfl,H.one⟩
theorem Bk (σ:St) (cs:List GV) (s:State) (hR:A8.R σ s cs) (o:ByteArray) (hl:Ac s≤1099511627776):∃ r τ,Ret Tryz.prog A20 [.agg cs,.str o] σ r τ∧Hp σ τ [ow pS.kd r (Dn s false o)]:=by
 have hlen:cs.length=4:=A8.len hR
 refine Cv A7n (Z0z rfl) ?_
 have H:=(Hp.refl σ).new 1 cs
 simp +contextual (disch:=omega) only[go_sem,A21,A0j,A6 hlen]
 obtain⟨r,τ,R,K⟩:=A27 _ cs s (A8.pre hR H.sub) false o hl
 refine Da R K ?_
 have H:=H.add K
 simp +contextual (disch:=omega) only[go_sem]
 exact⟨_,rfl,H.one⟩
theorem A9p {l:List Live} {i:Nat} (hi:i<l.length):C3 ltI ((l.take (i+1)).map (·.val))=insB ltI l[i].val (C3 ltI ((l.take i).map (·.val))):=by
 rw[List.take_succ_eq_append_getElem hi,List.map_append,List.map_cons,List.map_nil,Su]
set_option maxHeartbeats 2000000 in
theorem Ts (σ:St) (cs:List GV) (s:State) (hR:A8.R σ s cs) (o k:ByteArray) (hl:Ac s≤1099511627776):∃ r τ,Ret Tryz.prog A22 [.agg cs,.str o,.str k] σ r τ∧Hp σ τ [ow pI.kd r (Ig s o k)]:=by
 have hR0:=hR
 obtain⟨a,b,c,v,rfl,_,_,hv,_⟩:=hR
 obtain⟨l1,l2,l3,l4,_⟩:=Am hl
 refine Cv A7o (Z0z rfl) ?_
 have H:=((Hp.refl σ).new 1 [a,b,c,v]).nil_int
 simp +contextual (disch:=omega) only[go_sem,A23,Rt,A6 (cs:=[a,b,c,v]) rfl]
 obtain⟨r1,τ1,R1,K1⟩:=Zb _ _ s (A8.pre hR0 H.sub) true o k hl
 refine Da R1 K1 ?_
 have H:=H.add K1
 simp only[List.cons_append,List.nil_append] at H
 generalize hL:J7 s true o k=L at*
 have hLl:L.length≤1099511627776:=by
  have:=List.length_filter_le (Cn true o k) s.lives
  rw[← hL];unfold J7;omega
 simp +contextual (disch:=omega) only[go_sem]
 refine Fm L.length 9 0 (fun i env τ=>env 8=r1∧∃ w n1,env 7=w∧Hp σ τ [ow pI.kd w (C3 ltI ((L.take i).map (·.val))),ow Ay.kd r1 L,pt 1 n1 [a,b,c,v]]) (fun env τ=>∃ w,env 7=w∧Hp σ τ [ow pI.kd w (C3 ltI (L.map (·.val)))]) rfl ⟨rfl,_,_,rfl,(H.pick 1 rfl)⟩ ?_ ?_ ?_
 ·clear H
  rintro J Y hJ hY i env τ hi e9 c0 ⟨e8,w,n1,e7,H⟩
  have hlen:=(H.sl 1 rfl).len
  have hal:=Ew ltI ((L.take i).map (·.val))
  rw[List.length_map,List.length_take] at hal
  have hsn:=A9p hi
  generalize hacc:C3 ltI ((L.take i).map (·.val))=acc at*
  have H1:=H.nil_int
  simp +contextual (disch:=omega) only[go_sem,c0,e7,e8,e9,hlen]
  refine Fm acc.length 12 2 (fun j env τ=>env 8=r1∧env 9=gi i∧env 7=w∧∃(u:GV) (put:Bool) (nxt:List Int),env 10=u∧env 11= .bool put∧insG ltI L[i].val acc nxt j put∧Hp σ τ [ow pI.kd u nxt,ow pI.kd w acc,ow Ay.kd r1 L,pt 1 n1 [a,b,c,v]]) (fun env τ=>env 8=r1∧env 9=gi i∧env 7=w∧∃(u:GV) (put:Bool) (nxt:List Int),env 10=u∧env 11= .bool put∧insG ltI L[i].val acc nxt acc.length put∧Hp σ τ [ow pI.kd u nxt,ow pI.kd w acc,ow Ay.kd r1 L,pt 1 n1 [a,b,c,v]]) rfl ⟨by simp +contextual (disch:=omega) only[go_sem,e8],by simp +contextual (disch:=omega) only[go_sem,e9],by simp +contextual (disch:=omega) only[go_sem,e7],_,false,[],by simp +contextual (disch:=omega) only[go_sem],by simp +contextual (disch:=omega) only[go_sem],Lj,H1⟩ ?_ ?_ ?_
  ·clear e7 e8 e9 H H1
   rintro J2 Y2 hJ2 hY2 j env τ hj e12 c1 ⟨e8,e9,e7,u,put,nxt,e10,e11,hok,H⟩
   have hnl:=C6 hok
   have i1:=Ef (H.sl 1 rfl) hj
   have hlen:=(H.sl 1 rfl).len
   have C1:=A3 (H.sl 2 rfl) hi
   cases put with
   |true=>
    obtain⟨w',τ3,e5,H3⟩:=H.app_int 0 rfl acc[j] (by omega)
    simp +contextual (disch:=omega) only[go_sem,c1,e7,e8,e9,e10,e11,e12,i1,hlen,e5]
    refine hJ2 _ _ _ ⟨?_,?_,?_,w',true,_,?_,?_,Co hok hj (.inl rfl),H3⟩
    all_goals simp +contextual (disch:=omega) only[go_sem,e7,e8,e9,e11]
   |false=>
    cases hlt:decide (L[i].val<acc[j]) with
    |false=>
     obtain⟨w',τ3,e5,H3⟩:=H.app_int 0 rfl acc[j] (by omega)
     simp +contextual (disch:=omega) only[go_sem,c1,e7,e8,e9,e10,e11,e12,i1,hlen,C1,hlt,e5]
     refine hJ2 _ _ _ ⟨?_,?_,?_,w',false,_,?_,?_,Co hok hj (.inr hlt),H3⟩
     all_goals simp +contextual (disch:=omega) only[go_sem,e7,e8,e9,e11]
    |true=>
     obtain⟨w',τ3,e5,H3⟩:=H.app_int 0 rfl L[i].val (by omega)
     have H3:Hp σ τ3 [ow pI.kd w' (nxt++[L[i].val]),ow pI.kd w acc,ow Ay.kd r1 L,pt 1 n1 [a,b,c,v]]:=H3
     have hp:=J8 hok hj hlt
     have hnl2:=C6 hp
     simp only[List.length_append,List.length_cons,List.length_nil] at hnl2
     have i2:=Ef (H3.sl 1 rfl) hj
     obtain⟨w2,τ4,e6,H4⟩:=H3.app_int 0 rfl acc[j] (by simp;omega)
     simp +contextual (disch:=omega) only[go_sem,c1,e7,e8,e9,e10,e11,e12,i1,hlen,C1,hlt,e5,i2,e6]
     refine hJ2 _ _ _ ⟨?_,?_,?_,w2,true,_,?_,?_,hp,H4⟩
     all_goals simp +contextual (disch:=omega) only[go_sem,e7,e8,e9,e11]
  ·clear e7 e8 e9 H H1
   rintro Y2 hY2 env τ e12 c1 ⟨e8,e9,e7,u,put,nxt,e10,e11,hok,H⟩
   have hlen:=(H.sl 1 rfl).len
   simp +contextual (disch:=omega) only[go_sem,c1,e7,e8,e9,e10,e11,e12,hlen]
   refine hY2 _ _ ⟨?_,?_,?_,u,put,nxt,?_,?_,hok,H⟩
   all_goals simp +contextual (disch:=omega) only[go_sem,e7,e8,e9,e10,e11]
  ·clear e7 e8 e9 H H1
   rintro env τ ⟨e8,e9,e7,u,put,nxt,e10,e11,hok,H⟩
   have hnl:=C6 hok
   have hend:=Lk hok
   have C1:=A3 (H.sl 2 rfl) hi
   cases put with
   |true=>
    simp +contextual (disch:=omega) only[go_sem,e7,e8,e9,e10,e11]
    refine hJ _ _ _ ⟨?_,u,n1,?_,?_⟩
    all_goals first|(simp +contextual (disch:=omega) only[go_sem,e7,e8,e9,e10,e11];done)|skip
    rw[hsn,←hend]
    exact(H.pick 1 rfl).drop1
   |false=>
    obtain⟨w',τ3,e5,H3⟩:=H.app_int 0 rfl L[i].val (by omega)
    simp +contextual (disch:=omega) only[go_sem,e7,e8,e9,e10,e11,C1,e5]
    refine hJ _ _ _ ⟨?_,w',n1,?_,?_⟩
    all_goals first|(simp +contextual (disch:=omega) only[go_sem,e7,e8,e9,e10,e11];done)|skip
    rw[hsn,←hend]
    exact(H3.pick 1 rfl).drop1
 ·clear H
  rintro Y hY env τ e9 c0 ⟨e8,w,n1,e7,H⟩
  rw[List.take_length] at H
  have hlen:=(H.sl 1 rfl).len
  simp +contextual (disch:=omega) only[go_sem,c0,e7,e8,e9,hlen]
  refine hY _ _ ⟨w,?_,H.one⟩
  simp +contextual (disch:=omega) only[go_sem,e7]
 ·clear H
  rintro env τ ⟨w,e7,H⟩
  simp +contextual (disch:=omega) only[go_sem,e7]
  exact⟨_,rfl,by rw[Ig,hL];exact H⟩
theorem Mh (σ:St) (cs:List GV) (s:State) (hR:A8.R σ s cs) (o k:ByteArray) (hl:Ac s≤1099511627776):∃ r τ,Ret Tryz.prog A24 [.agg cs,.str o,.str k] σ r τ∧Hp σ τ [ow pI.kd r (Ig s o k)]:=by
 have hR0:=hR
 obtain⟨a,b,c,v,rfl,_,_,hv,_⟩:=hR
 obtain⟨l1,l2,l3,l4,_⟩:=Am hl
 refine Cv A7p (Z0z rfl) ?_
 have H:=((Hp.refl σ).new 1 [a,b,c,v]).nil_int
 simp +contextual (disch:=omega) only[go_sem,A25,Rt,A6 (cs:=[a,b,c,v]) rfl]
 obtain⟨r1,τ1,R1,K1⟩:=Zc _ _ s (A8.pre hR0 H.sub) true o k hl
 refine Da R1 K1 ?_
 have H:=H.add K1
 simp only[List.cons_append,List.nil_append] at H
 generalize hL:J7 s true o k=L at*
 have hLl:L.length≤1099511627776:=by
  have:=List.length_filter_le (Cn true o k) s.lives
  rw[← hL];unfold J7;omega
 have hlen0:=(H.sl 0 rfl).len
 simp +contextual (disch:=omega) only[go_sem,hlen0]
 refine Fm L.length 16 0 (fun i env τ=>env 14=r1∧env 15=gi L.length∧∃ w n1,env 7=w∧Hp σ τ [ow pI.kd w ((L.take i).map (·.val)),ow Ay.kd r1 L,pt 1 n1 [a,b,c,v]]) (fun env τ=>∃ w,env 7=w∧Hp σ τ [ow pI.kd w (L.map (·.val))]) rfl ⟨rfl,rfl,_,_,rfl,(H.pick 1 rfl)⟩ ?_ ?_ ?_
 ·clear H
  rintro J Y hJ hY i env τ hi e16 c0 ⟨e14,e15,w,n1,e7,H⟩
  have C1:=A3 (H.sl 1 rfl) hi
  have G:=H.grow (pre1 τ (some (Blk.row 1 [.bool L[i].map,.str L[i].obj,.str L[i].key,gi L[i].val,gi L[i].dot.rep,gi L[i].dot.seq])))
  obtain⟨w',τ3,e5,H3⟩:=G.app_int 0 rfl L[i].val (by simp;omega)
  simp +contextual (disch:=omega) only[go_sem,c0,e7,e14,e15,e16,C1,e5]
  refine hJ _ _ _ ⟨?_,?_,w',n1,?_,?_⟩
  all_goals first|(simp +contextual (disch:=omega) only[go_sem,e7,e14,e15,e16];done)|skip
  rw[List.take_succ_eq_append_getElem hi,List.map_append,List.map_cons,List.map_nil]
  exact H3
 ·clear H
  rintro Y hY env τ e16 c0 ⟨e14,e15,w,n1,e7,H⟩
  rw[List.take_length] at H
  simp +contextual (disch:=omega) only[go_sem,c0,e7,e14,e15,e16]
  refine hY _ _ ⟨w,?_,H.one⟩
  simp +contextual (disch:=omega) only[go_sem,e7]
 ·clear H
  rintro env τ ⟨w,e7,H⟩
  obtain⟨τ2,R2,H2⟩:=Me H 0 rfl (by simp;omega)
  simp +contextual (disch:=omega) only[go_sem,e7]
  refine Aj R2 ?_
  simp +contextual (disch:=omega) only[go_sem,e7]
  exact⟨_,rfl,by rw[Ig,hL];exact H2⟩
end
section
open Go Go.RowKit
theorem Nj (s:State) (m:Bool) (o:ByteArray):(Dn s m o).length≤Ac s:=by
 have h1:=N5 txLt ((s.lives.filter (Bo m o)).map (·.key))
 rw[List.length_map] at h1
 have h2:(s.lives.filter (Bo m o)).length≤s.lives.length:=List.length_filter_le _ _
 have h3:s.lives.length≤Ac s:=by unfold Ac;omega
 unfold Dn;omega
theorem A69 (s:State) (o k:ByteArray):(Ig s o k).length≤Ac s:=by
 have h2:(J7 s true o k).length≤s.lives.length:=List.length_filter_le _ _
 have h3:s.lives.length≤Ac s:=by unfold Ac;omega
 rw[Ig,Ew,List.length_map];omega
def Ab5 (a b:State) (o:ByteArray) (ks:List ByteArray):Bool:=ks.all fun k=>decide (Ig a o k=Ig b o k)
def Ae9 (a b:State) (o:ByteArray):Bool:=decide (A95 a o=A95 b o)&&(decide (Dn a false o=Dn b false o)&&(decide (Dn a true o=Dn b true o)&&(decide (rowOf a o=rowOf b o)&&Ab5 a b o (Dn a true o))))
end
section
open Go Go.RowKit
inductive Item where
 |box (z n:Nat) (cs:List GV)
 |th (r:Thg)
def Item.t:Item→Thg
 | .box z n cs=>pt z n cs
 | .th r=>r
def Hx (σ τ:St) (h:List Item):Prop:=Hp σ τ (h.map Item.t)
def look:List Item→Nat→Option (List GV)
 |[],_=>none
 | .box _ m cs::h,n=>if m=n then some cs else look h n
 | .th _::h,n=>look h n
def upd:List Item→Nat→List GV→List Item
 |[],_,_=>[]
 | .box z m cs::h,n,ds=>if m=n then .box z m ds::h else .box z m cs::upd h n ds
 | .th r::h,n,ds=>.th r::upd h n ds
def frX (σ:St):List Item→Nat→Prop
 |[],n=>σ.length≤n
 | .box _ m _::h,n=>m<n∧frX σ h n
 | .th _::h,n=>frX σ h n
abbrev Kx:=GV→List Item→St→Prop
def E6 (v:Option GV) (k:Kx) (h:List Item) (τ:St):Prop:=match v with
 |some v=>k v h τ
 |none=>False
def orX (a b:Option GV):Option GV:=match a with
 |some x=>some x
 |none=>b
def Nk:List Item→Nat→Option (Nat×List GV)
 |[],_=>none
 | .box z m cs::h,n=>if m=n then some (z,cs) else Nk h n
 | .th _::h,n=>Nk h n
def blcX (h:List Item) (cs:List GV):GV→Prop
 | .ptr b 0=>Nk h b=some (1,cs)
 |_=>False
def ldB (c:Option (List GV)) (g:Bool) (n off:Nat) (e:Option GV):Option GV:=match c with
 |some cs=>(seg cs off n).bind (mkv g)
 |none=>e
def ldY (h:List Item) (τ:St) (g:Bool) (n:Nat):GV→Option GV
 | .ptr b off=>ldB (look h b) g n off (ldG g n τ (.ptr b off))
 |a=>ldG g n τ a
def ldX (σ:St) (h:List Item) (τ:St) (g:Bool) (n:Nat) (a:GV):Option GV:=orX (ldG g n σ a) (ldY h τ g n a)
def Jq (σ:St) (h:List Item) (z:Nat) (cs:List GV) (v:Nat→GV) (k:Kx):Prop:=∀ n,frX σ h n→∀ τ',Hx σ τ' (.box z n cs::h)→k (v n) (.box z n cs::h) τ'
def genX (σ:St) (D:Bool) (τ:St) (e:Option (GV×St)) (k:Kx):Prop:=∃ v τ' h',e=some (v,τ')∧(D=true→τ <+: τ')∧Hx σ τ' h'∧k v h' τ'
def stB (σ:St) (D:Bool) (h:List Item) (τ:St) (n:Nat) (k:Kx) (b off:Nat) (x:GV) (c:Option (List GV)):Prop:=match c with
 |some cs=>(D=false∧off+n≤cs.length∧0<n∧x.cells.length=n)∧∀ τ',Hx σ τ' (upd h b (Al cs off x.cells))→k (.tup []) (upd h b (Al cs off x.cells)) τ'
 |none=>genX σ D τ (stG n τ (.ptr b off) x) k
def stX (σ:St) (D:Bool) (h:List Item) (τ:St) (n:Nat) (k:Kx) (a x:GV):Prop:=match a with
 | .ptr b off=>stB σ D h τ n k b off x (look h b)
 |a=>genX σ D τ (stG n τ a x) k
def fnX (P:Program) (σ:St) (D:Bool) (τ:St) (args:List GV) (k:Kx):GV→Prop
 | .fn f caps=>∃ v τ' h',Ret P f (args++caps.map fun c=>.ptr c.1 c.2) τ v τ'∧(D=true→τ <+: τ')∧Hx σ τ' h'∧k v h' τ'
 |_=>False
def litX (σ:St) (h:List Item) (z len:Nat) (k:Kx):Option (List GV)→Prop
 |some cs=>Jq σ h z cs (fun n=>.sl n 0 len) k
 |none=>False
def A7q (P:Program) (σ:St) (D:Bool) (τ:St) (f:Nat) (args:List GV) (k:Kx):Prop:=∃ v τ' h',Ret P f args τ v τ'∧(D=true→τ <+: τ')∧Hx σ τ' h'∧k v h' τ'
def mksX (σ:St) (h:List Item) (z b:Nat) (ze:List GV) (k:Kx):Option Nat→Option Nat→Prop
 |some n,some c=>n=c∧n*b≤140737488355328∧Jq σ h z (reps n ze) (fun g=>.sl g 0 n) k
 |_,_=>False
def sxI (P:Program) (D:Bool) (σ:St) (env:Env) (h:List Item) (τ:St) (k:Kx):Ins→Prop
 | .new cs=>Jq σ h 1 cs (fun n=>.ptr n 0) k
 | .box x=>Bz (x.ev env)=true∧Jq σ h 1 (x.ev env).cells (fun n=>.ptr n 0) k
 | .lit z len zero parts=>litX σ h z len k (Gf zero (parts.map fun p=>(p.1,p.2.1,p.2.2.ev env)))
 | .mks z b ze n c=>mksX σ h z b ze k (Ax (some (n.ev env))) (Ax (some (c.ev env)))
 | .ld g n a=>E6 (ldX σ h τ g n (a.ev env)) k h τ
 | .st n a x=>stX σ D h τ n k (a.ev env) (x.ev env)
 | .call f xs=>A7q P σ D τ f (xs.map (·.ev env)) k
 | .callv x xs=>fnX P σ D τ (xs.map (·.ev env)) k (x.ev env)
 | .chk d (.ld g n (.t t))=>ldX σ h τ g n (env t)=some (env d)∧k (.tup []) h τ
 | .chk _ _=>False
 | .blc t cs=>blcX h cs (env t)∧k (.tup []) h τ
 | .mlk ks z ok m k'=>E6 (mlkG τ ks z ok (m.ev env) (k'.ev env)) k h τ
 | .bts x=>E6 ((elems τ 1 (x.ev env)).bind fun r=>(E8 r.2).map fun bs=>.str ⟨bs.toArray⟩) k h τ
 | .cut z x lo hi=>E6 (if zOk τ z (x.ev env) then cutG z (x.ev env) (lo.map (·.ev env)) (hi.map (·.ev env)) else none) k h τ
 | .app z b ze s x=>genX σ D τ (appV z b τ (s.ev env) (x.ev env)) k
 | .clr z ze x=>genX σ D τ (clrG z ze τ (x.ev env)) k
 | .mkm=>genX σ D τ (some (.mp τ.length,τ++[some (.map [])])) k
 | .mup ks m k' v=>genX σ D τ (mupG τ ks (m.ev env) (k'.ev env) (v.ev env)) k
 |i=>E6 ((exec env [] i).map (·.1)) k h τ
def gdX (c:Option (Option Bool×Bool)) (A B:Prop):Prop:=match c with
 |none=>A
 |some (some c,b)=>(c=b→A)∧(c= !b→B)
 |some (none,_)=>B
def sx (P:Program) (D:Bool) (σ:St):List Op1→(Env→List Item→St→Prop)→Env→List Item→St→Prop
 |[],K,env,h,τ=>K env h τ
 |o::r,K,env,h,τ=>gdX (o.g.map fun g=>((env g.1).bit,g.2)) (sxI P D σ env h τ (fun v h' τ'=>sx P D σ r K (upo env o.d v) h' τ') o.i) (sx P D σ r K (upo env o.d (.tup [])) h τ)
def ifX (c:Option Bool) (A B:Prop):Prop:=match c with
 |some c=>(c=true→A)∧(c=false→B)
 |none=>False
abbrev Qx:=Ex→Env→List Item→St→Prop
def sxc (P:Program) (σ:St):Cd→Qx→Env→List Item→St→Prop
 | .skip,Q=>Q .nxt
 | .reg ops,Q=>sx P false σ ops (Q .nxt)
 | .drw a1 bs,Q=>sx P true σ a1 (sx P false σ bs (Q .nxt))
 | .seq a b,Q=>sxc P σ a fun e=>match e with
  | .nxt=>sxc P σ b Q
  |e=>Q e
 | .cnd c a b,Q=>fun env h τ=>ifX (c.ev env).bit (sxc P σ a Q env h τ) (sxc P σ b Q env h τ)
 | .blk id a,Q=>sxc P σ a fun e=>match e with
  | .ext j=>if j=id then Q .nxt else Q (.ext j)
  |e=>Q e
 | .lop a,Q=>fun env h τ=>∃(I:Nat→Env→List Item→St→Prop) (n:Nat) (h0:List Item),Hx σ τ h0∧I n env h0 τ∧∀ k env h τ,Hx σ τ h→I k env h τ→sxc P σ a (fun e env' h' τ'=>match e with
  | .nxt=>∃ k' h1,k'<k∧Hx σ τ' h1∧I k' env' h1 τ'
  |e=>∃ h1,Hx σ τ' h1∧Q e env' h1 τ') env h τ
 | .ext id,Q=>Q (.ext id)
 | .ret,Q=>Q .ret
section sound
variable {P:Program} {σ:St} {D:Bool}
theorem Hx.hp {τ:St} {h:List Item} (H:Hx σ τ h):Hp σ τ (h.map Item.t):=H
theorem Hx.sub {τ:St} {h:List Item} (H:Hx σ τ h):σ <+: τ:=H.hp.sub
theorem Hx.refl (σ:St):Hx σ σ []:=Hp.refl σ
theorem Tt:∀ {h:List Item} {n:Nat} {cs:List GV},look h n=some cs→∃ z,∃ i:Nat,(h.map Item.t)[i]? =some (pt z n cs)∧∀ ds,(upd h n ds).map Item.t=(h.map Item.t).set i (pt z n ds)
 |[],_,_,e=>by cases e
 | .box z m cs'::h,n,cs,e=>by
  simp only[look] at e
  by_cases hm:m=n
  ·rw[if_pos hm] at e
   injection e with e;subst e hm
   exact⟨z,0,rfl,fun ds=>by simp[upd,Item.t]⟩
  ·rw[if_neg hm] at e
   obtain⟨z',i,h1,h2⟩:=Tt e
   exact⟨z',i+1,by simpa using h1,fun ds=>by simp[upd,hm,h2 ds]⟩
 | .th r::h,n,cs,e=>by
  obtain⟨z',i,h1,h2⟩:=Tt (h:=h) (by simpa [look] using e)
  exact⟨z',i+1,by simpa using h1,fun ds=>by simp[upd,h2 ds]⟩
theorem Ze:∀ {h:List Item} {n z:Nat} {cs:List GV},Nk h n=some (z,cs)→∃ i:Nat,(h.map Item.t)[i]? =some (pt z n cs)
 |[],_,_,_,e=>by cases e
 | .box z' m cs'::h,n,z,cs,e=>by
  simp only[Nk] at e
  by_cases hm:m=n
  ·rw[if_pos hm] at e
   simp only[Option.some.injEq,Prod.mk.injEq] at e
   obtain⟨rfl,rfl⟩:=e
   subst hm
   exact⟨0,rfl⟩
  ·rw[if_neg hm] at e
   obtain⟨i,h1⟩:=Ze e
   exact⟨i+1,by simpa using h1⟩
 | .th r::h,n,z,cs,e=>by
  obtain⟨i,h1⟩:=Ze (h:=h) (by simpa [Nk] using e)
  exact⟨i+1,by simpa using h1⟩
theorem A9q {τ:St} {g:Bool} {n:Nat} {a x:GV} (h:ldG g n σ a=some x) (hp:σ <+: τ):ldG g n τ a=some x:=by
 cases a with
 |ptr b off=>
  simp only[ldG] at h ⊢
  obtain⟨cs,h1,h2⟩:=Z1z.1 h
  rw[Ab hp h1];exact h2
 |_=>cases h
theorem Tu {h:List Item} {τ:St} (H:Hx σ τ h) {g:Bool} {n:Nat} {a x:GV} (e:ldX σ h τ g n a=some x):ldG g n τ a=some x:=by
 unfold ldX orX ldY at e
 split at e
 ·rename_i y hy
  injection e with e;subst e
  exact A9q hy H.sub
 ·cases a with
  |ptr b off=>
   simp only at e
   cases hl:look h b with
   |none=>rw[hl] at e;exact e
   |some cs=>
    rw[hl] at e
    obtain⟨z,i,h1,_⟩:=Tt hl
    have:=H.hp.pt i h1
    simp only[ldG,this,Option.bind_some]
    exact e
  |_=>exact e
theorem A9r {n:Nat}:∀ {h:List Item},σ.length≤n→(∀ z m cs,Item.box z m cs∈h→m<n)→frX σ h n
 |[],hl,_=>hl
 | .box z m cs::h,hl,hb=>⟨hb z m cs List.mem_cons_self,A9r (h:=h) hl fun z m cs hm=>hb z m cs (List.mem_cons_of_mem _ hm)⟩
 | .th r::h',hl,hb=>A9r (h:=h') hl fun z m cs hm=>hb z m cs (List.mem_cons_of_mem _ hm)
theorem box_lt {h:List Item} {τ:St} (H:Hx σ τ h) {z m:Nat} {cs:List GV} (hm:Item.box z m cs∈h):m<τ.length:=by
 obtain⟨i,hi,e⟩:=List.getElem_of_mem hm
 have h1:(h.map Item.t)[i]? =some (pt z m cs):=by
  rw[List.getElem?_map,List.getElem?_eq_getElem hi,e];rfl
 obtain⟨a,ha,_,hb⟩:=H.hp.see h1
 exact(hb m (by rw[ha.1];exact List.mem_cons_self)).2
theorem Jd {h:List Item} {τ:St} {z:Nat} {cs:List GV} {v:Nat→GV} {k:Kx} (H:Hx σ τ h) (e:Jq σ h z cs v k):∃ h',Hx σ (τ++[some (.row z cs)]) h'∧k (v τ.length) h' (τ++[some (.row z cs)]):=
 ⟨.box z τ.length cs::h,H.hp.new z cs,e τ.length (A9r (h:=h) H.sub.length_le (fun _ _ _ hm=>box_lt H hm)) _ (H.hp.new z cs)⟩
theorem Kz {τ:St} {e:Option (GV×St)} {k:Kx} (h:genX σ D τ e k):∃ v τ',e=some (v,τ')∧(D=true→τ <+: τ')∧∃ h',Hx σ τ' h'∧k v h' τ':=by
 obtain⟨v,τ',h',h1,h2,h3,h4⟩:=h
 exact⟨v,τ',h1,h2,h',h3,h4⟩
theorem A9s {env:Env} {h:List Item} {τ:St} {k:Kx} (H:Hx σ τ h):∀ {i:Ins},sxI P D σ env h τ k i→∃ v τ',Step P env τ i v τ'∧(D=true→τ <+: τ')∧∃ h',Hx σ τ' h'∧k v h' τ':=by
 intro i e
 have same:∀ {v:Option GV},E6 v k h τ→(∀ v',v=some v'→Step P env τ i v' τ)→∃ v τ',Step P env τ i v τ'∧(D=true→τ <+: τ')∧∃ h',Hx σ τ' h'∧k v h' τ':=by
  intro v hb hs
  cases v with
  |none=>exact hb.elim
  |some v=>exact⟨v,τ,hs v rfl,fun _=>List.prefix_refl _,h,H,hb⟩
 have pure:A6j i=true→E6 ((exec env [] i).map (·.1)) k h τ→i.isCall=false→(∀ v',exec env τ i=some (v',τ)→Step P env τ i v' τ)→∃ v τ',Step P env τ i v τ'∧(D=true→τ <+: τ')∧∃ h',Hx σ τ' h'∧k v h' τ':=by
  intro hp hb _ hs
  refine same hb fun v' hv=>hs v' ?_
  obtain⟨⟨w,s⟩,hw,rfl⟩:=Z2z.1 hv
  exact(A0b hp hw).2 τ
 cases i with
 |new cs=>
  obtain⟨h',h1,h2⟩:=Jd H e
  exact⟨_,_,rfl,fun _=>List.prefix_append _ _,h',h1,h2⟩
 |box x=>
  obtain⟨h0,e⟩:=e
  obtain⟨h',h1,h2⟩:=Jd H e
  exact⟨_,_,by show boxG τ _=_;unfold boxG;rw[if_pos h0],fun _=>List.prefix_append _ _,h',h1,h2⟩
 |lit z len zero parts=>
  simp only[sxI] at e
  unfold litX at e
  split at e
  ·rename_i cs hc
   obtain⟨h',h1,h2⟩:=Jd H e
   exact⟨_,_,by show exec env τ _=_;simp only[exec,hc];rfl,fun _=>List.prefix_append _ _,h',h1,h2⟩
  ·exact e.elim
 |mks z b ze n c=>
  simp only[sxI] at e
  unfold mksX at e
  split at e
  ·rename_i n' c' hn hc
   obtain⟨h0,h3,e⟩:=e
   obtain⟨h',h1,h2⟩:=Jd H e
   exact⟨_,_,by show exec env τ _=_;simp only[exec,hn,hc,Option.bind_some,if_pos (And.intro h0 h3)],fun _=>List.prefix_append _ _,h',h1,h2⟩
  ·exact e.elim
 |ld g n a=>
  refine same e fun v' hv=> ?_
  have:=Tu H hv
  show exec env τ _=_
  simp only[exec]
  revert this
  cases a.ev env with
  |ptr b off=>
   intro h1
   simp only[ldG] at h1
   simp only[ptrG,Option.bind_some]
   obtain⟨cs,h2,h3⟩:=Z1z.1 h1
   obtain⟨r,h4,h5⟩:=Z1z.1 h3
   simp only[h2,Option.bind_some,h4,h5,Option.map_some]
  |_=>intro h1;cases h1
 |st n a x=>
  simp only[sxI] at e
  have hst:∀ {y:GV} {τ'},stG n τ (a.ev env) (x.ev env)=some (y,τ')→Step P env τ (.st n a x) y τ':=by
   intro y τ' he
   show exec env τ _=_
   simp only[exec]
   revert he
   cases a.ev env<;>intro he<;>first|cases he;done|exact he
  have gen:genX σ D τ (stG n τ (a.ev env) (x.ev env)) k→∃ v τ',Step P env τ (.st n a x) v τ'∧(D=true→τ <+: τ')∧∃ h',Hx σ τ' h'∧k v h' τ':=fun hg=>by
   obtain⟨v,τ',h1,h2⟩:=Kz hg
   exact⟨v,τ',hst h1,h2⟩
  unfold stX at e
  split at e
  ·rename_i b off hb
   unfold stB at e
   split at e
   ·rename_i cs hl
    obtain⟨⟨h0,h1,h2,h3⟩,h4⟩:=e
    obtain⟨z,i,h5,h6⟩:=Tt hl
    obtain⟨τ',s1,s2,_⟩:=H.hp.st i h5 n off (x.ev env) h3 h2 h1
    have s3:Hx σ τ' (upd h b (Al cs off (x.ev env).cells)):=by unfold Hx;rw[h6];exact s2
    exact⟨_,τ',hst (by rw[hb];exact s1),(fun hd=>by rw[hd] at h0;cases h0),_,s3,h4 _ s3⟩
   ·rw[← hb] at e;exact gen e
  ·exact gen e
 |call f xs=>
  obtain⟨v,τ',h',h1,h2,h3,h4⟩:=e
  exact⟨v,τ',h1,h2,h',h3,h4⟩
 |callv x xs=>
  simp only[sxI] at e
  unfold fnX at e
  split at e
  ·rename_i f caps hf
   obtain⟨v,τ',h',h1,h2,h3,h4⟩:=e
   exact⟨v,τ',⟨f,caps,hf,h1⟩,h2,h',h3,h4⟩
  ·exact e.elim
 |chk d x=>
  cases x with
  |ld g n a=>cases a with
   |t t=>
    obtain⟨h1,h2⟩:=e
    refine⟨_,τ,⟨rfl,rfl,?_⟩,fun _=>List.prefix_refl _,h,H,h2⟩
    have h3:=Tu H h1
    simp only[exec,Opd.ev]
    revert h3
    cases env t with
    |ptr b off=>
     intro h1
     simp only[ldG] at h1
     simp only[ptrG,Option.bind_some]
     obtain⟨cs,h2,h3⟩:=Z1z.1 h1
     obtain⟨r,h4,h5⟩:=Z1z.1 h3
     simp only[h2,Option.bind_some,h4,h5,Option.map_some]
    |_=>intro h1;cases h1
   |k v=>exact e.elim
  |_=>exact e.elim
 |blc t cs=>
  obtain⟨h1,h2⟩:=e
  revert h1
  unfold blcX
  split
  ·rename_i b hb
   intro h1
   obtain⟨i,h3⟩:=Ze h1
   obtain⟨a,ha,_⟩:=H.hp.see h3
   exact⟨_,τ,⟨rfl,rfl,b,hb,Bc.1 ha.2⟩,fun _=>List.prefix_refl _,h,H,h2⟩
  ·exact fun h1=>h1.elim
 |mlk ks z ok m k'=>exact same e fun v' hv=>by show exec env τ _=_;simp only[exec,hv,Option.map_some]
 |bts x=>
  refine same e fun v' hv=> ?_
  show exec env τ _=_
  simp only[exec]
  obtain⟨r,h1,h2⟩:=Z1z.1 hv
  obtain⟨bs,h3,rfl⟩:=Z2z.1 h2
  rw[h1,Option.bind_some,h3];rfl
 |cut z x lo hi=>
  refine same e fun v' hv=> ?_
  show exec env τ _=_
  simp only[exec]
  split at hv
  ·rename_i hz
   rw[if_pos hz,hv];rfl
  ·cases hv
 |app z b ze s x=>exact Kz e
 |clr z ze x=>exact Kz e
 |mkm=>exact Kz e
 |mup ks m k' v=>exact Kz e
 |mkf f caps=>
  refine same e fun v' hv=> ?_
  show exec env τ _=_
  simp only[exec] at hv ⊢
  obtain⟨⟨w,s⟩,hw,rfl⟩:=Z2z.1 hv
  obtain⟨cs,h1,h2⟩:=Z2z.1 hw
  injection h2 with h2 h3;subst h2
  rw[h1];rfl
 |pan=>exact e.elim
 |_=>exact pure rfl e rfl fun _ h=>h
theorem Nl:∀ {os:List Op1} {K:Env→List Item→St→Prop} {env:Env} {h:List Item} {τ:St},Hx σ τ h→sx P D σ os K env h τ→Ad D P os (fun env' τ'=>τ.length≤τ'.length∧∃ h',Hx σ τ' h'∧K env' h' τ') env τ
 |[],K,env,h,τ,H,e=>⟨Nat.le_refl _,h,H,e⟩
 |o::r,K,env,h,τ,H,e=>by
  have yes:sxI P D σ env h τ (fun v h' τ'=>sx P D σ r K (upo env o.d v) h' τ') o.i→∃ v σ',Step P env τ o.i v σ'∧(D=true→τ <+: σ')∧Ad D P r (fun env' τ'=>τ.length≤τ'.length∧∃ h',Hx σ τ' h'∧K env' h' τ') (upo env o.d v) σ':=fun e=>by
   obtain⟨v,τ',h1,h2,h',h3,h4⟩:=A9s H e
   have hl:=Qr h1
   exact⟨v,τ',h1,h2,Br (Nl h3 h4) fun _ _ hk=>⟨Nat.le_trans hl hk.1,hk.2⟩⟩
  have no:sx P D σ r K (upo env o.d (.tup [])) h τ→Ad D P r (fun env' τ'=>τ.length≤τ'.length∧∃ h',Hx σ τ' h'∧K env' h' τ') (upo env o.d (.tup [])) τ:=fun e=>Nl H e
  simp only[Ad]
  simp only[sx] at e
  cases hg:o.g with
  |none=>
   rw[hg] at e
   rw[if_pos (by simp[Ah])]
   exact yes e
  |some q=>
   obtain⟨g,b⟩:=q
   rw[hg] at e
   simp only[Option.map_some] at e
   cases hc:(env g).bit with
   |none=>
    rw[hc] at e
    rw[if_neg (by simp[Ah,hc])]
    exact no e
   |some c=>
    rw[hc] at e
    by_cases hcb:c=b
    ·rw[if_pos (by simp[Ah,hc,hcb])]
     exact yes (e.1 hcb)
    ·rw[if_neg (by simp[Ah,hc,hcb])]
     exact no (e.2 (by cases c<;>cases b<;>simp_all))
theorem A28 {d:Cd}:∀ {Q:Qx} {env:Env} {h:List Item} {τ:St},Hx σ τ h→sxc P σ d Q env h τ→vc P d (fun e env' τ'=>τ.length≤τ'.length∧∃ h',Hx σ τ' h'∧Q e env' h' τ') env τ:=by
 induction d with
 |skip=>intro Q env h τ H e;exact⟨Nat.le_refl _,h,H,e⟩
 |reg ops=>intro Q env h τ H e;exact Nl H e
 |drw a1 bs=>
  intro Q env h τ H e
  show Ad true P a1 _ env τ
  refine Br (Nl H e) fun env' τ' hk=> ?_
  obtain⟨hl,h',H',hk⟩:=hk
  exact Br (Nl H' hk) fun _ _ hq=>⟨Nat.le_trans hl hq.1,hq.2⟩
 |seq a b iha ihb=>
  intro Q env h τ H e
  show vc P a _ env τ
  refine Av (iha H e) fun e env' τ' hk=> ?_
  obtain⟨hl,h',H',hk⟩:=hk
  cases e with
  |nxt=>exact Av (ihb H' hk) fun _ _ _ hq=>⟨Nat.le_trans hl hq.1,hq.2⟩
  |ext j=>exact⟨hl,h',H',hk⟩
  |ret=>exact⟨hl,h',H',hk⟩
 |cnd c a b iha ihb=>
  intro Q env h τ H e
  simp only[sxc] at e
  unfold ifX at e
  split at e
  ·rename_i t ht
   exact⟨t,ht,fun k=>iha H (e.1 k),fun k=>ihb H (e.2 k)⟩
  ·exact e.elim
 |blk id a ih=>
  intro Q env h τ H e
  show vc P a _ env τ
  refine Av (ih H e) fun e env' τ' hk=> ?_
  obtain⟨hl,h',H',hk⟩:=hk
  cases e with
  |nxt=>exact⟨hl,h',H',hk⟩
  |ext j=>
   simp only at hk ⊢
   split at hk
   ·rename_i hj;rw[if_pos hj];exact⟨hl,h',H',hk⟩
   ·rename_i hj;rw[if_neg hj];exact⟨hl,h',H',hk⟩
  |ret=>exact⟨hl,h',H',hk⟩
 |lop a ih=>
  intro Q env h τ H e
  obtain⟨I,n,h0,H0,hI,hs⟩:=e
  refine Oz (fun k env' τ'=>τ.length≤τ'.length∧∃ h,Hx σ τ' h∧I k env' h τ') n ⟨Nat.le_refl _,h0,H0,hI⟩ ?_
  rintro k env1 τ1 ⟨hl,h1,H1,hI1⟩
  refine Av (ih H1 (hs k env1 h1 τ1 H1 hI1)) fun e env' τ' hk=> ?_
  obtain⟨hl2,h',H',hk⟩:=hk
  cases e with
  |nxt=>
   obtain⟨k',h3,h4,h5,h6⟩:=hk
   exact⟨k',h4,Nat.le_trans hl hl2,h3,h5,h6⟩
  |ext j=>exact⟨Nat.le_trans hl hl2,hk⟩
  |ret=>exact⟨Nat.le_trans hl hl2,hk⟩
 |ext id=>intro Q env h τ H e;exact⟨Nat.le_refl _,h,H,e⟩
 |ret=>intro Q env h τ H e;exact⟨Nat.le_refl _,h,H,e⟩
def rsX (σ:St) (h:List Item) (τ:St) (env:Env):Rs→Option GV
 | .t n=>some (env n)
 | .c a g n=>ldX σ h τ g n (env a)
def resX (σ:St) (h:List Item) (τ:St) (env:Env):List Rs→Option GV
 |[r]=>rsX σ h τ env r
 |rs=>(B6 (rsX σ h τ env) rs).bind fun vs=>if vs.all Bz then some (.tup vs) else none
theorem A29 {h:List Item} {τ:St} (H:Hx σ τ h) {env:Env} {r:Rs} {v:GV} (e:rsX σ h τ env r=some v):r.ev env τ=some v:=by
 cases r with
 |t n=>exact e
 |c a g n=>rw[rs_c];exact Tu H e
theorem X5 {α β:Type} {f g:α→Option β} (h:∀ x y,f x=some y→g x=some y):∀ {l:List α} {r:List β},B6 f l=some r→B6 g l=some r
 |[],r,e=>e
 |x::l,r,e=>by
  simp only[B6,Z1z,Z2z] at e ⊢
  obtain⟨y,h1,ys,h2,rfl⟩:=e
  exact⟨y,h _ _ h1,ys,X5 h h2,rfl⟩
theorem X6 {h:List Item} {τ:St} (H:Hx σ τ h) {env:Env} {rs:List Rs} {v:GV} (e:resX σ h τ env rs=some v):resG env τ rs=some v:=by
 unfold resX at e
 unfold resG
 split at e
 ·exact A29 H e
 ·rename_i hne
  split
  ·exact absurd rfl (hne _)
  ·obtain⟨vs,h1,h2⟩:=Z1z.1 e
   rw[X5 (fun x y=>A29 H) h1];exact h2
theorem Ab6 {md:Bool} {f:Nat} {F:Fn1} {args:List GV} {σ1:St} {h0:List Item} {Post:GV→St→Prop} (hF:Fh md P f=some F) (hl:args.length≤F.n) (H:Hx σ σ1 h0)
  (hc:sxc P σ F.c (fun e env h τ=>Hx σ τ h→Rm e=true∧∃ r,resX σ h τ env F.rs=some r∧Post r τ) (env0 args) h0 σ1):∃ r τ,Ret P f args σ1 r τ∧Post r τ:=
 Ao hF hl (Av (A28 H hc) fun e env τ he=>by
  obtain⟨hl,h,H,hq⟩:=he
  obtain⟨ho,r,hr,hp⟩:=hq H
  exact⟨ho,r,X6 H hr,hl,hp⟩)
end sound
end
section
open Go Go.RowKit
def Aea (P:Program) (D:Bool) (σ:St) (r:List Op1) (K:Env→List Item→St→Prop) (env:Env) (d:Option Nat):Kx:=fun v h' τ'=>sx P D σ r K (upo env d v) h' τ'
def gdS (P:Program) (D:Bool) (σ:St) (env:Env) (h:List Item) (τ:St) (k:Kx) (i:Ins) (b:Bool) (c:Option Bool):Prop:=match c with
 |some c=>(c=b→sxI P D σ env h τ k i)∧(c= !b→k (.tup []) h τ)
 |none=>k (.tup []) h τ
def ifS (P:Program) (σ:St) (a b:Cd) (Q:Qx) (env:Env) (h:List Item) (τ:St) (c:Option Bool):Prop:=match c with
 |some c=>(c=true→sxc P σ a Q env h τ)∧(c=false→sxc P σ b Q env h τ)
 |none=>False
section words
variable {P:Program} {D:Bool} {σ τ:St} {env:Env} {h:List Item} {r:List Op1} {K:Env→List Item→St→Prop} {k:Kx} {d:Option Nat} {Q:Qx}
@[go_sem] theorem nextX_ap {v:GV}:Aea P D σ r K env d v h τ=sx P D σ r K (upo env d v) h τ:=(rfl)
@[go_sem] theorem sx_nil:sx P D σ [] K env h τ=K env h τ:=(rfl)
@[go_sem] theorem sx_one {i:Ins}:sx P D σ (⟨d,none,i⟩::r) K env h τ=sxI P D σ env h τ (Aea P D σ r K env d) i:=(rfl)
@[go_sem] theorem sx_grd {g:Nat} {b:Bool} {i:Ins}:sx P D σ (⟨d,some (g,b),i⟩::r) K env h τ=gdS P D σ env h τ (Aea P D σ r K env d) i b (env g).bit:=by
 show gdX (some ((env g).bit,b)) _ _=_
 cases(env g).bit<;>rfl
@[go_sem] theorem gdS_tt {b:Bool} {i:Ins}:gdS P D σ env h τ k i b (some b)=sxI P D σ env h τ k i:=by cases b<;>simp[gdS]
@[go_sem] theorem gdS_tf {i:Ins}:gdS P D σ env h τ k i false (some true)=k (.tup []) h τ:=by simp[gdS]
@[go_sem] theorem gdS_ft {i:Ins}:gdS P D σ env h τ k i true (some false)=k (.tup []) h τ:=by simp[gdS]
@[go_sem] theorem gdS_n {b:Bool} {i:Ins}:gdS P D σ env h τ k i b none=k (.tup []) h τ:=(rfl)
@[go_sem] theorem bindX_some {v:GV}:E6 (some v) k h τ=k v h τ:=(rfl)
@[go_sem] theorem ifS_t {a b:Cd}:ifS P σ a b Q env h τ (some true)=sxc P σ a Q env h τ:=by simp[ifS]
@[go_sem] theorem ifS_f {a b:Cd}:ifS P σ a b Q env h τ (some false)=sxc P σ b Q env h τ:=by simp[ifS]
theorem A2a {v:Option GV}:(Option.map (·.1) (v.map fun v=>(v,([]:St))))=v:=by cases v<;>rfl
@[go_sem] theorem xi_mov {x:Opd}:sxI P D σ env h τ k (.mov x)=k (x.ev env) h τ:=(rfl)
@[go_sem] theorem xi_pick {c a b:Opd}:sxI P D σ env h τ k (.pick c a b)=E6 ((c.ev env).bit.map fun t=>if t then a.ev env else b.ev env) k h τ:=by
 simp only[sxI,exec]
 cases(c.ev env).bit<;>rfl
@[go_sem] theorem xi_new {cs:List GV}:sxI P D σ env h τ k (.new cs)=Jq σ h 1 cs (fun n=>.ptr n 0) k:=(rfl)
@[go_sem] theorem xi_box {x:Opd}:sxI P D σ env h τ k (.box x)=(Bz (x.ev env)=true∧Jq σ h 1 (x.ev env).cells (fun n=>.ptr n 0) k):=(rfl)
@[go_sem] theorem xi_build {z:List GV} {ps:List (Nat×Nat×Opd)}:sxI P D σ env h τ k (.build z ps)=E6 ((Gf z (ps.map fun p=>(p.1,p.2.1,p.2.2.ev env))).map .agg) k h τ:=by
 simp only[sxI,exec]
 cases Gf z (ps.map fun p=>(p.1,p.2.1,p.2.2.ev env))<;>rfl
@[go_sem] theorem xi_lit {z l:Nat} {ze:List GV} {ps:List (Nat×Nat×Opd)}:sxI P D σ env h τ k (.lit z l ze ps)=litX σ h z l k (Gf ze (ps.map fun p=>(p.1,p.2.1,p.2.2.ev env))):=(rfl)
@[go_sem] theorem litX_some {z l:Nat} {cs:List GV}:litX σ h z l k (some cs)=Jq σ h z cs (fun n=>.sl n 0 l) k:=(rfl)
@[go_sem] theorem xi_mks {z b:Nat} {ze:List GV} {n c:Opd}:sxI P D σ env h τ k (.mks z b ze n c)=mksX σ h z b ze k (Ax (some (n.ev env))) (Ax (some (c.ev env))):=(rfl)
@[go_sem] theorem mksX_some {z b:Nat} {ze:List GV} {n c:Nat}:mksX σ h z b ze k (some n) (some c)=(n=c∧n*b≤140737488355328∧Jq σ h z (reps n ze) (fun g=>.sl g 0 n) k):=(rfl)
@[go_sem] theorem xi_ld {g:Bool} {n:Nat} {a:Opd}:sxI P D σ env h τ k (.ld g n a)=E6 (ldX σ h τ g n (a.ev env)) k h τ:=(rfl)
@[go_sem] theorem xi_st {n:Nat} {a x:Opd}:sxI P D σ env h τ k (.st n a x)=stX σ D h τ n k (a.ev env) (x.ev env):=(rfl)
@[go_sem] theorem stX_ptr {n b off:Nat} {x:GV}:stX σ D h τ n k (.ptr b off) x=stB σ D h τ n k b off x (look h b):=(rfl)
@[go_sem] theorem stB_some {n b off:Nat} {x:GV} {cs:List GV}:stB σ D h τ n k b off x (some cs)=((D=false∧off+n≤cs.length∧0<n∧x.cells.length=n)∧∀ τ',Hx σ τ' (upd h b (Al cs off x.cells))→k (.tup []) (upd h b (Al cs off x.cells)) τ'):=(rfl)
@[go_sem] theorem xi_nck {x:Opd}:sxI P D σ env h τ k (.nck x)=E6 (nckG (x.ev env)) k h τ:=by simp only[sxI,exec,A2a]
@[go_sem] theorem xi_bin {op:BinOp} {x y:Opd}:sxI P D σ env h τ k (.bin op x y)=E6 (binG op (x.ev env) (y.ev env)) k h τ:=by simp only[sxI,exec,A2a]
@[go_sem] theorem xi_eqb {n:Bool} {x y:Opd}:sxI P D σ env h τ k (.eqb n x y)=E6 (eqbG n (x.ev env) (y.ev env)) k h τ:=by
 simp only[sxI,exec,eqbG]
 cases(x.ev env).bit with
 |none=>rfl
 |some a=>cases(y.ev env).bit<;>rfl
@[go_sem] theorem xi_eqn {p n:Bool} {x y:Opd}:sxI P D σ env h τ k (.eqn p n x y)=E6 ((nilG p (x.ev env) (y.ev env)).map fun b=>.bool (n ^^ b)) k h τ:=by
 simp only[sxI,exec]
 cases nilG p (x.ev env) (y.ev env)<;>rfl
@[go_sem] theorem xi_eqs {n:Bool} {ks:List Sc} {x y:Opd}:sxI P D σ env h τ k (.eqs n ks x y)=E6 (eqsG n ks (x.ev env) (y.ev env)) k h τ:=by
 simp only[sxI,exec]
 cases x.ev env<;>first|rfl|skip
 cases y.ev env<;>first|rfl|skip
 simp only[eqsG]
 cases Ch ks _ _<;>rfl
@[go_sem] theorem xi_un {op:UnOp} {x:Opd}:sxI P D σ env h τ k (.un op x)=E6 (unG op (x.ev env)) k h τ:=by simp only[sxI,exec,A2a]
@[go_sem] theorem xi_cvi {kd:IntKind} {x:Opd}:sxI P D σ env h τ k (.cvi kd x)=E6 (cviG kd (x.ev env)) k h τ:=by
 simp only[sxI,exec]
 cases x.ev env<;>rfl
@[go_sem] theorem xi_bts {x:Opd}:sxI P D σ env h τ k (.bts x)=E6 ((elems τ 1 (x.ev env)).bind fun r=>(E8 r.2).map fun bs=>.str ⟨bs.toArray⟩) k h τ:=(rfl)
@[go_sem] theorem xi_mkf {f:Nat} {cs:List Opd}:sxI P D σ env h τ k (.mkf f cs)=E6 ((cs.mapM fun c=>Xx (c.ev env)).map fun cs=>.fn f cs) k h τ:=by
 simp only[sxI,exec]
 cases cs.mapM fun c=>Xx (c.ev env)<;>rfl
@[go_sem] theorem xi_cutS {x:Opd} {lo hi:Option Opd}:sxI P D σ env h τ k (.cutS x lo hi)=E6 (A6d (x.ev env) (lo.map (·.ev env)) (hi.map (·.ev env))) k h τ:=by simp only[sxI,exec,A2a]
@[go_sem] theorem xi_cut {z:Nat} {x:Opd} {lo hi:Option Opd}:sxI P D σ env h τ k (.cut z x lo hi)=E6 (if zOk τ z (x.ev env) then cutG z (x.ev env) (lo.map (·.ev env)) (hi.map (·.ev env)) else none) k h τ:=(rfl)
@[go_sem] theorem xi_fad {n:Nat} {a:Opd}:sxI P D σ env h τ k (.fad n a)=E6 (fadG n (a.ev env)) k h τ:=by
 simp only[sxI,exec]
 cases a.ev env<;>rfl
@[go_sem] theorem xi_part {g:Bool} {off n:Nat} {x:Opd}:sxI P D σ env h τ k (.part g off n x)=E6 (Aae g off n (x.ev env)) k h τ:=by
 simp only[sxI,exec]
 cases x.ev env with
 |agg cs=>
  simp only[Aae]
  cases seg cs off n with
  |none=>rfl
  |some q=>simp only[Option.bind_some,A2a]
 |_=>rfl
@[go_sem] theorem xi_iad {z:Nat} {x i:Opd}:sxI P D σ env h τ k (.iad z x i)=E6 (iadG z (x.ev env) (Ax (some (i.ev env)))) k h τ:=by
 simp only[sxI,exec]
 cases x.ev env with
 |sl g off len=>
  simp only
  cases Ax (some (i.ev env)) with
  |none=>rfl
  |some n=>
   simp only[Option.bind_some,iadG]
   split<;>rfl
 |_=>rfl
@[go_sem] theorem xi_idx {x i:Opd}:sxI P D σ env h τ k (.idx x i)=E6 (idxG (x.ev env) (Ax (some (i.ev env)))) k h τ:=by
 simp only[sxI,exec]
 cases x.ev env with
 |str s=>
  simp only
  cases Ax (some (i.ev env)) with
  |none=>rfl
  |some n=>
   simp only[Option.bind_some,idxG]
   cases s[n]? <;>rfl
 |_=>rfl
@[go_sem] theorem xi_ext {i:Nat} {x:Opd}:sxI P D σ env h τ k (.ext i x)=E6 (extG i (x.ev env)) k h τ:=by
 simp only[sxI,exec]
 cases x.ev env with
 |tup vs=>
  simp only[extG]
  cases vs[i]? with
  |none=>rfl
  |some v=>cases v<;>rfl
 |_=>rfl
@[go_sem] theorem xi_len {s:Bool} {x:Opd}:sxI P D σ env h τ k (.len s x)=E6 ((lenG s (x.ev env)).map fun n=>.int .i64 n) k h τ:=by
 simp only[sxI,exec]
 cases lenG s (x.ev env)<;>rfl
@[go_sem] theorem xi_app {z b:Nat} {ze:List GV} {s x:Opd}:sxI P D σ env h τ k (.app z b ze s x)=genX σ D τ (appV z b τ (s.ev env) (x.ev env)) k:=(rfl)
@[go_sem] theorem xi_mm {m:Bool} {x y:Opd}:sxI P D σ env h τ k (.mm m x y)=E6 (mmG m (x.ev env) (y.ev env)) k h τ:=by
 simp only[sxI,exec]
 cases x.ev env<;>first|rfl|skip
 cases y.ev env<;>rfl
@[go_sem] theorem xi_clr {z:Nat} {ze:List GV} {x:Opd}:sxI P D σ env h τ k (.clr z ze x)=genX σ D τ (clrG z ze τ (x.ev env)) k:=(rfl)
@[go_sem] theorem xi_pan:sxI P D σ env h τ k .pan=False:=(rfl)
@[go_sem] theorem xi_mkm:sxI P D σ env h τ k .mkm=genX σ D τ (some (.mp τ.length,τ++[some (.map [])])) k:=(rfl)
@[go_sem] theorem xi_mlk {ks:List Sc} {z:GV} {ok:Bool} {m k':Opd}:sxI P D σ env h τ k (.mlk ks z ok m k')=E6 (mlkG τ ks z ok (m.ev env) (k'.ev env)) k h τ:=(rfl)
@[go_sem] theorem xi_mup {ks:List Sc} {m k' v:Opd}:sxI P D σ env h τ k (.mup ks m k' v)=genX σ D τ (mupG τ ks (m.ev env) (k'.ev env) (v.ev env)) k:=(rfl)
@[go_sem] theorem xi_call {f:Nat} {xs:List Opd}:sxI P D σ env h τ k (.call f xs)=A7q P σ D τ f (xs.map (·.ev env)) k:=(rfl)
@[go_sem] theorem xi_callv {x:Opd} {xs:List Opd}:sxI P D σ env h τ k (.callv x xs)=fnX P σ D τ (xs.map (·.ev env)) k (x.ev env):=(rfl)
@[go_sem] theorem fnX_fn {f:Nat} {caps:List (Nat×Nat)} {args:List GV}:fnX P σ D τ args k (.fn f caps)=A7q P σ D τ f (args++caps.map fun c=>.ptr c.1 c.2) k:=(rfl)
@[go_sem] theorem xi_chk {d' n t:Nat} {g:Bool}:sxI P D σ env h τ k (.chk d' (.ld g n (.t t)))=(ldX σ h τ g n (env t)=some (env d')∧k (.tup []) h τ):=(rfl)
@[go_sem] theorem xi_blc {t:Nat} {cs:List GV}:sxI P D σ env h τ k (.blc t cs)=(blcX h cs (env t)∧k (.tup []) h τ):=(rfl)
@[go_sem] theorem blcX_ptr {b:Nat} {cs:List GV}:blcX h cs (.ptr b 0)=(Nk h b=some (1,cs)):=(rfl)
@[go_sem] theorem lookZ_eq {z n:Nat} {cs:List GV}:Nk (.box z n cs::h) n=some (z,cs):=by simp[Nk]
@[go_sem low] theorem lookZ_ne {z m n:Nat} {cs:List GV} (hn:m≠n):Nk (.box z m cs::h) n=Nk h n:=by simp[Nk,hn]
@[go_sem] theorem lookZ_th {n:Nat} {q:Thg}:Nk (.th q::h) n=Nk h n:=(rfl)
@[go_sem] theorem allocX_def {z:Nat} {cs:List GV} {v:Nat→GV}:Jq σ h z cs v k=∀ n,frX σ h n→∀ τ',Hx σ τ' (.box z n cs::h)→k (v n) (.box z n cs::h) τ':=(rfl)
@[go_sem] theorem frX_nil {n:Nat}:frX σ [] n=(σ.length≤n):=(rfl)
@[go_sem] theorem frX_box {z m n:Nat} {cs:List GV}:frX σ (.box z m cs::h) n=(m<n∧frX σ h n):=(rfl)
@[go_sem] theorem frX_th {n:Nat} {q:Thg}:frX σ (.th q::h) n=frX σ h n:=(rfl)
@[go_sem] theorem look_eq {z n:Nat} {cs:List GV}:look (.box z n cs::h) n=some cs:=by simp[look]
@[go_sem low] theorem look_ne {z m n:Nat} {cs:List GV} (hn:m≠n):look (.box z m cs::h) n=look h n:=by simp[look,hn]
@[go_sem] theorem look_th {n:Nat} {q:Thg}:look (.th q::h) n=look h n:=(rfl)
@[go_sem] theorem upd_eq {z n:Nat} {cs ds:List GV}:upd (.box z n cs::h) n ds= .box z n ds::h:=by simp[upd]
@[go_sem low] theorem upd_ne {z m n:Nat} {cs ds:List GV} (hn:m≠n):upd (.box z m cs::h) n ds= .box z m cs::upd h n ds:=by simp[upd,hn]
@[go_sem] theorem upd_th {n:Nat} {q:Thg} {ds:List GV}:upd (.th q::h) n ds= .th q::upd h n ds:=(rfl)
@[go_sem] theorem ldX_ptr {g:Bool} {n b off:Nat} (hb:σ.length≤b):ldX σ h τ g n (.ptr b off)=ldB (look h b) g n off (ldG g n τ (.ptr b off)):=by
 have:ldG g n σ (.ptr b off)=none:=by
  simp only[ldG,rdB]
  rw[List.getElem?_eq_none hb];rfl
 simp only[ldX,this,orX,ldY]
@[go_sem] theorem ldX_at {g:Bool} {n z i:Nat} {v:GV}:ldX σ h τ g n (atz z v i)=orX (ldG g n σ (atz z v i)) (ldY h τ g n (atz z v i)):=(rfl)
@[go_sem] theorem ldX_fld {g:Bool} {n z i m:Nat} {v:GV}:ldX σ h τ g n (fld m (atz z v i))=orX (ldG g n σ (fld m (atz z v i))) (ldY h τ g n (fld m (atz z v i))):=(rfl)
@[go_sem] theorem orX_some {x:GV} {b:Option GV}:orX (some x) b=some x:=(rfl)
@[go_sem] theorem orX_none {b:Option GV}:orX none b=b:=(rfl)
@[go_sem] theorem ldB_some {cs:List GV} {g:Bool} {n off:Nat} {e:Option GV}:ldB (some cs) g n off e=(seg cs off n).bind (mkv g):=(rfl)
@[go_sem] theorem cells_i {kd:IntKind} {n:Int}:(GV.int kd n).cells=[.int kd n]:=(rfl)
@[go_sem] theorem cells_s {s:ByteArray}:(GV.str s).cells=[.str s]:=(rfl)
@[go_sem] theorem cells_b {b:Bool}:(GV.bool b).cells=[.bool b]:=(rfl)
@[go_sem] theorem cells_p {n o:Nat}:(GV.ptr n o).cells=[.ptr n o]:=(rfl)
@[go_sem] theorem cells_l {n o l:Nat}:(GV.sl n o l).cells=[.sl n o l]:=(rfl)
@[go_sem] theorem cells_a {cs:List GV}:(GV.agg cs).cells=cs:=(rfl)
@[go_sem] theorem cells_n:(GV.nilS).cells=[.nilS]:=(rfl)
@[go_sem] theorem cells_m {n:Nat}:(GV.mp n).cells=[.mp n]:=(rfl)
@[go_sem] theorem cells_f {f:Nat} {c:List (Nat×Nat)}:(GV.fn f c).cells=[.fn f c]:=(rfl)
@[go_sem] theorem notTup_p {n o:Nat}:Bz (.ptr n o)=true:=(rfl)
@[go_sem] theorem notTup_m {n:Nat}:Bz (.mp n)=true:=(rfl)
@[go_sem] theorem notTup_f {f:Nat} {c:List (Nat×Nat)}:Bz (.fn f c)=true:=(rfl)
@[go_sem] theorem xc_skip:sxc P σ .skip Q env h τ=Q .nxt env h τ:=(rfl)
@[go_sem] theorem xc_reg {os:List Op1}:sxc P σ (.reg os) Q env h τ=sx P false σ os (Q .nxt) env h τ:=(rfl)
@[go_sem] theorem xc_drw {a1 bs:List Op1}:sxc P σ (.drw a1 bs) Q env h τ=sx P true σ a1 (sx P false σ bs (Q .nxt)) env h τ:=(rfl)
@[go_sem] theorem xc_seq {a b:Cd}:sxc P σ (.seq a b) Q env h τ=sxc P σ a (fun e=>match e with
  | .nxt=>sxc P σ b Q
  |e=>Q e) env h τ:=(rfl)
@[go_sem] theorem xc_cnd {c:Opd} {a b:Cd}:sxc P σ (.cnd c a b) Q env h τ=ifS P σ a b Q env h τ (c.ev env).bit:=by
 show ifX _ _ _=_
 cases(c.ev env).bit<;>rfl
@[go_sem] theorem xc_blk {id:Nat} {a:Cd}:sxc P σ (.blk id a) Q env h τ=sxc P σ a (fun e=>match e with
  | .ext j=>if j=id then Q .nxt else Q (.ext j)
  |e=>Q e) env h τ:=(rfl)
@[go_sem] theorem xc_ext {id:Nat}:sxc P σ (.ext id) Q env h τ=Q (.ext id) env h τ:=(rfl)
@[go_sem] theorem xc_ret:sxc P σ .ret Q env h τ=Q .ret env h τ:=(rfl)
@[go_sem] theorem rsX_t {n:Nat}:rsX σ h τ env (.t n)=some (env n):=(rfl)
@[go_sem] theorem rsX_c {a n:Nat} {g:Bool}:rsX σ h τ env (.c a g n)=ldX σ h τ g n (env a):=(rfl)
@[go_sem] theorem resX_1 {x:Rs}:resX σ h τ env [x]=rsX σ h τ env x:=(rfl)
@[go_sem] theorem resX_0:resX σ h τ env []=some (.tup []):=(rfl)
@[go_sem] theorem resX_2 {x y:Rs}:resX σ h τ env [x,y]=tup2 (rsX σ h τ env x) (rsX σ h τ env y):=by
 simp only[resX,B6,tup2]
 cases rsX σ h τ env x with
 |none=>rfl
 |some u=>cases rsX σ h τ env y<;>simp
@[go_sem] theorem resX_3 {x y z:Rs}:resX σ h τ env [x,y,z]=tup3 (rsX σ h τ env x) (rsX σ h τ env y) (rsX σ h τ env z):=by
 simp only[resX,B6,tup3]
 cases rsX σ h τ env x with
 |none=>rfl
 |some u=>cases rsX σ h τ env y with
  |none=>rfl
  |some v=>cases rsX σ h τ env z<;>simp
end words
end
section
open Go Go.RowKit
theorem A6a {τ:St}:∀ {rs:List Thg} {fp:List Nat},sat τ rs fp→fp.Nodup→∃ F:Nat→List Nat,(∀ (i:Nat) (r:Thg),rs[i]? =some r→r.P τ (F i))∧(∀ i,(F i).Nodup)∧(∀ i j,i≠j→∀ g∈F i,g∉F j)∧∀ i,∀ g∈F i,g∈fp
 |[],fp,h,hn=>⟨fun _=>[],by simp,by simp,by simp,by simp⟩
 |r::rs,_,⟨a,b,hr,hs,rfl⟩,hn=>by
  rw[List.nodup_append] at hn
  obtain⟨F,h1,h2,h3,h4⟩:=A6a hs hn.2.1
  refine⟨fun i=>match i with|0=>a|i+1=>F i,?_,?_,?_,?_⟩
  ·intro i s hi
   cases i with
   |zero=>simp at hi;subst hi;exact hr
   |succ i=>exact h1 i s (by simpa using hi)
  ·intro i;cases i with
   |zero=>exact hn.1
   |succ i=>exact h2 i
  ·intro i j hij g hg
   cases i with
   |zero=>cases j with
    |zero=>exact absurd rfl hij
    |succ j=>exact fun h=>hn.2.2 g hg g (h4 j g h) rfl
   |succ i=>cases j with
    |zero=>exact fun h=>hn.2.2 g h g (h4 i g hg) rfl
    |succ j=>exact h3 i j (by omega) g hg
  ·intro i g hg
   cases i with
   |zero=>exact List.mem_append_left _ hg
   |succ i=>exact List.mem_append_right _ (h4 i g hg)
theorem A9t {τ:St} {rs:List Thg} {F:Nat→List Nat} (h1:∀(i:Nat) (r:Thg),rs[i]? =some r→r.P τ (F i)) (h2:∀ i,(F i).Nodup) (h3:∀ i j,i≠j→∀ g∈F i,g∉F j):∀ {is:List Nat},is.Nodup→∃ fp,sat τ (is.filterMap (rs[·]?)) fp∧fp.Nodup∧∀ g∈fp,∃ i∈is,g∈F i
 |[],_=>⟨[],rfl,by simp,by simp⟩
 |i::is,hn=>by
  rw[List.nodup_cons] at hn
  obtain⟨fp,k1,k2,k3⟩:=A9t h1 h2 h3 hn.2
  cases hi:rs[i]? with
  |none=>exact⟨fp,by rw[List.filterMap_cons,hi];exact k1,k2,fun g hg=>by obtain⟨j,hj,h⟩:=k3 g hg;exact⟨j,List.mem_cons_of_mem _ hj,h⟩⟩
  |some r=>
   refine⟨F i++fp,by rw[List.filterMap_cons,hi];exact⟨F i,fp,h1 i r hi,k1,rfl⟩,List.nodup_append.2 ⟨h2 i,k2,fun x hx y hy e=> ?_⟩,fun g hg=> ?_⟩
   ·subst e
    obtain⟨j,hj,h⟩:=k3 x hy
    exact h3 i j (fun e=>hn.1 (by rw[e];exact hj)) x hx h
   ·rcases List.mem_append.1 hg with hg|hg
    ·exact⟨i,List.mem_cons_self,hg⟩
    ·obtain⟨j,hj,h⟩:=k3 g hg;exact⟨j,List.mem_cons_of_mem _ hj,h⟩
theorem Hp.sel {σ τ:St} {rs:List Thg} (H:Hp σ τ rs) (is:List Nat) (hn:is.Nodup):Hp σ τ (is.filterMap (rs[·]?)):=by
 obtain⟨h,fp,hs,hnd,hb⟩:=H
 obtain⟨F,h1,h2,h3,h4⟩:=A6a hs hnd
 obtain⟨fp',k1,k2,k3⟩:=A9t h1 h2 h3 hn
 exact⟨h,fp',k1,k2,fun g hg=>by obtain⟨i,_,hi⟩:=k3 g hg;exact hb g (h4 i g hi)⟩
theorem Hx.sel {σ τ:St} {h:List Item} (H:Hx σ τ h) (is:List Nat) (hn:is.Nodup):Hp σ τ (is.filterMap ((h.map Item.t)[·]?)):=Hp.sel H is hn
theorem Hx.re {σ τ:St} {h:List Item} (H:Hx σ τ h) (is:List Nat) (hn:is.Nodup):Hx σ τ (is.filterMap (h[·]?)):=by
 have e:(is.filterMap (h[·]?)).map Item.t=is.filterMap ((h.map Item.t)[·]?):=by
  induction is with
  |nil=>rfl
  |cons i is ih=>
   have ih:=ih (List.nodup_cons.1 hn).2
   rw[List.filterMap_cons,List.filterMap_cons,List.getElem?_map]
   cases h[i]? with
   |none=>exact ih
   |some x=>simp only[Option.map_some,List.map_cons,ih]
 unfold Hx
 rw[e]
 exact H.sel is hn
section os
variable {α:Type} {d:Kd α} {σ τ:St} {l:List α} {v:GV} {fp:List Nat}
end os
section rules
variable {P:Program} {D:Bool} {σ τ τ':St} {env:Env} {h:List Item} {k:Kx} {f:Nat} {args:List GV} {v:GV} {α:Type}
theorem Ac4 {rs:List Thg} {h:List Item}:(rs.map Item.th++h).map Item.t=rs++h.map Item.t:=by
 rw[List.map_append,List.map_map]
 congr 1
 exact List.map_id _
theorem by_cs {rs:List Thg} (H:Hx σ τ h) (R:Ret P f args τ v τ') (K:Hp τ τ' rs) (kk:Hx σ τ' (rs.map Item.th++h)→k v (rs.map Item.th++h) τ'):A7q P σ D τ f args k:=by
 have H':Hx σ τ' (rs.map Item.th++h):=by unfold Hx;rw[Ac4];exact H.hp.add K
 exact⟨v,τ',_,R,fun _=>K.sub,H',kk H'⟩
theorem by_c {r:Thg} (H:Hx σ τ h) (R:Ret P f args τ v τ') (K:Hp τ τ' [r]) (kk:Hx σ τ' (.th r::h)→k v (.th r::h) τ'):A7q P σ D τ f args k:=by_cs H R K kk
theorem by_r (H:Hx σ τ h) (R:Ret P f args τ v τ) (kk:k v h τ):A7q P σ D τ f args k:=⟨v,τ,h,R,fun _=>List.prefix_refl _,H,kk⟩
theorem at_t {h:List Item} {i:Nat} {r:Thg} (hi:h[i]? =some (.th r)):(h.map Item.t)[i]? =some r:=by rw[List.getElem?_map,hi];rfl
theorem Ip {e:Option (GV×St)} {k k':Kx} (hk:∀ v h τ,k v h τ→k' v h τ):genX σ D τ e k→genX σ D τ e k':=fun⟨v,τ',h',h1,h2,h3,h4⟩=>⟨v,τ',h',h1,h2,h3,hk _ _ _ h4⟩
theorem Lm {z:Nat} {cs:List GV} {w:Nat→GV} {k k':Kx} (hk:∀ v h τ,k v h τ→k' v h τ) (e:Jq σ h z cs w k):Jq σ h z cs w k':=fun n hf τ' H=>hk _ _ _ (e n hf τ' H)
theorem Ab7 {k k':Kx} (hk:∀ v h τ,k v h τ→k' v h τ):∀ {i:Ins},sxI P D σ env h τ k i→sxI P D σ env h τ k' i:=by
 have bm:∀ {v:Option GV},E6 v k h τ→E6 v k' h τ:=fun {v} e=>by
  cases v with
  |none=>exact e
  |some v=>exact hk _ _ _ e
 intro i e
 cases i with
 |new cs=>exact Lm hk e
 |box x=>exact⟨e.1,Lm hk e.2⟩
 |lit z len zero parts=>
  simp only[sxI] at e ⊢
  revert e
  cases Gf zero (parts.map fun p=>(p.1,p.2.1,p.2.2.ev env)) with
  |none=>exact id
  |some cs=>exact Lm hk
 |mks z b ze n c=>
  simp only[sxI] at e ⊢
  revert e
  cases Ax (some (n.ev env)) with
  |none=>exact id
  |some n=>cases Ax (some (c.ev env)) with
   |none=>exact id
   |some c=>exact fun e=>⟨e.1,e.2.1,Lm hk e.2.2⟩
 |st n a x=>
  simp only[sxI] at e ⊢
  revert e
  cases a.ev env with
  |ptr b off=>
   simp only[stX]
   unfold stB
   cases look h b with
   |none=>exact Ip hk
   |some cs=>exact fun e=>⟨e.1,fun τ' H=>hk _ _ _ (e.2 τ' H)⟩
  |_=>exact Ip hk
 |call f xs=>
  obtain⟨v,τ',h',h1,h2,h3,h4⟩:=e
  exact⟨v,τ',h',h1,h2,h3,hk _ _ _ h4⟩
 |callv x xs=>
  simp only[sxI] at e ⊢
  revert e
  cases x.ev env with
  |fn f caps=>exact fun⟨v,τ',h',h1,h2,h3,h4⟩=>⟨v,τ',h',h1,h2,h3,hk _ _ _ h4⟩
  |_=>exact id
 |chk d x=>
  cases x with
  |ld g n a=>cases a with
   |t t=>exact⟨e.1,hk _ _ _ e.2⟩
   |k v=>exact e
  |_=>exact e
 |blc t cs=>exact⟨e.1,hk _ _ _ e.2⟩
 |app z b ze s x=>exact Ip hk e
 |clr z ze x=>exact Ip hk e
 |mkm=>exact Ip hk e
 |mup ks m k2 v=>exact Ip hk e
 |mov x=>exact hk _ _ _ e
 |pan=>exact e
 |_=>exact bm e
theorem Tv:∀ {os:List Op1} {K K':Env→List Item→St→Prop} {env:Env} {h:List Item} {τ:St},(∀ env h τ,K env h τ→K' env h τ)→sx P D σ os K env h τ→sx P D σ os K' env h τ
 |[],K,K',env,h,τ,hk,e=>hk _ _ _ e
 |o::r,K,K',env,h,τ,hk,e=>by
  simp only[sx] at e ⊢
  have y:sxI P D σ env h τ (fun v h' τ'=>sx P D σ r K (upo env o.d v) h' τ') o.i→sxI P D σ env h τ (fun v h' τ'=>sx P D σ r K' (upo env o.d v) h' τ') o.i:=Ab7 fun v h τ=>Tv hk
  have n:sx P D σ r K (upo env o.d (.tup [])) h τ→sx P D σ r K' (upo env o.d (.tup [])) h τ:=Tv hk
  revert e
  cases o.g.map fun g=>((env g.1).bit,g.2) with
  |none=>exact y
  |some q=>
   obtain⟨c,b⟩:=q
   cases c with
   |none=>exact n
   |some c=>exact fun e=>⟨fun hc=>y (e.1 hc),fun hc=>n (e.2 hc)⟩
theorem Zf {d:Cd}:∀ {Q Q':Qx} {env:Env} {h:List Item} {τ:St},(∀ e env h τ,Q e env h τ→Q' e env h τ)→sxc P σ d Q env h τ→sxc P σ d Q' env h τ:=by
 induction d with
 |skip=>intro Q Q' env h τ hq e;exact hq _ _ _ _ e
 |reg ops=>intro Q Q' env h τ hq e;exact Tv (hq _) e
 |drw a1 bs=>intro Q Q' env h τ hq e;exact Tv (fun _ _ _=>Tv (hq _)) e
 |seq a b iha ihb=>
  intro Q Q' env h τ hq e
  refine iha (fun e env h τ he=> ?_) e
  cases e with
  |nxt=>exact ihb hq he
  |ext j=>exact hq _ _ _ _ he
  |ret=>exact hq _ _ _ _ he
 |cnd c a b iha ihb=>
  intro Q Q' env h τ hq e
  simp only[sxc] at e ⊢
  unfold ifX at e ⊢
  split
  ·rename_i hc;rw[hc] at e;exact⟨fun k=>iha hq (e.1 k),fun k=>ihb hq (e.2 k)⟩
  ·rename_i hc;rw[hc] at e;exact e
 |blk id a ih=>
  intro Q Q' env h τ hq e
  refine ih (fun e env h τ he=> ?_) e
  cases e with
  |nxt=>exact hq _ _ _ _ he
  |ext j=>
   simp only at he ⊢
   split at he
   ·rename_i hj;rw[if_pos hj];exact hq _ _ _ _ he
   ·rename_i hj;rw[if_neg hj];exact hq _ _ _ _ he
  |ret=>exact hq _ _ _ _ he
 |lop a ih=>
  intro Q Q' env h τ hq e
  obtain⟨I,n,h0,H0,hI,hs⟩:=e
  refine⟨I,n,h0,H0,hI,fun k env h τ H hi=>ih (fun e env' h' τ' he=> ?_) (hs k env h τ H hi)⟩
  cases e with
  |nxt=>exact he
  |ext j=>obtain⟨h1,H1,he⟩:=he;exact⟨h1,H1,hq _ _ _ _ he⟩
  |ret=>obtain⟨h1,H1,he⟩:=he;exact⟨h1,H1,hq _ _ _ _ he⟩
 |ext id=>intro Q Q' env h τ hq e;exact hq _ _ _ _ e
 |ret=>intro Q Q' env h τ hq e;exact hq _ _ _ _ e
variable {a b:Cd} {Q:Qx}
theorem sx_lop (n j0:Nat) (I:Nat→Env→List Item→Prop) (X Z:Env→List Item→Prop) (h0:List Item) (H0:Hx σ τ h0) (hI:I n env h0)
  (hs:∀(J:Nat→Env→St→Prop) (Y W:Env→St→Prop),(∀ i env h τ,Hx σ τ h→I i env h→J i env τ)→(∀ env h τ,Hx σ τ h→X env h→Y env τ)→(∀ env h τ,Hx σ τ h→Z env h→W env τ)→∀ i env h τ,Hx σ τ h→I i env h→sxc P σ a (fun e env' h' τ'=>match e with
   | .nxt=>∃ i',i'<i∧J i' env' τ'
   | .ext j=>j=j0∧Y env' τ'
   | .ret=>W env' τ') env h τ)
  (hx:∀ env h τ,Hx σ τ h→X env h→Q (.ext j0) env h τ) (hz:∀ env h τ,Hx σ τ h→Z env h→Q .ret env h τ):sxc P σ (.lop a) Q env h τ:=by
 refine⟨fun i env h τ=>I i env h,n,h0,H0,hI,fun i env h τ H hi=>Zf (fun e env' h' τ' he=> ?_) (hs (fun i env τ=>∃ h,Hx σ τ h∧I i env h) (fun env τ=>∃ h,Hx σ τ h∧X env h) (fun env τ=>∃ h,Hx σ τ h∧Z env h) (fun _ _ h _ H e=>⟨h,H,e⟩) (fun _ h _ H e=>⟨h,H,e⟩) (fun _ h _ H e=>⟨h,H,e⟩) i env h τ H hi)⟩
 cases e with
 |nxt=>obtain⟨i',h1,h2,h3,h4⟩:=he;exact⟨i',h2,h1,h3,h4⟩
 |ext j=>obtain⟨rfl,h2,h3,h4⟩:=he;exact⟨h2,h3,hx _ _ _ h3 h4⟩
 |ret=>obtain⟨h2,h3,h4⟩:=he;exact⟨h2,h3,hz _ _ _ h3 h4⟩
theorem A9u (n ri j0:Nat) (I:Nat→Env→List Item→Prop) (X Z:Env→List Item→Prop) (h0:List Item) (H0:Hx σ τ h0) (hr:env ri=gi 0) (hI:I 0 env h0)
  (hs:∀(J:Nat→Env→St→Prop) (Y W:Env→St→Prop),(∀ i env h τ,Hx σ τ h→I i env h→J i env τ)→(∀ env h τ,Hx σ τ h→X env h→Y env τ)→(∀ env h τ,Hx σ τ h→Z env h→W env τ)→∀ i env h τ,i<n→env ri=gi i→decide ((i:Int)<n)=true→Hx σ τ h→I i env h→sxc P σ a (fun e env' h' τ'=>match e with
   | .nxt=>env' ri=gi ((i:Int)+1)∧J (i+1) env' τ'
   | .ext j=>j=j0∧Y env' τ'
   | .ret=>W env' τ') env h τ)
  (he:∀(Y:Env→St→Prop),(∀ env h τ,Hx σ τ h→X env h→Y env τ)→∀ env h τ,env ri=gi n→decide ((n:Int)<n)=false→Hx σ τ h→I n env h→sxc P σ a (fun e env' h' τ'=>match e with
   | .nxt=>False
   | .ext j=>j=j0∧Y env' τ'
   | .ret=>False) env h τ)
  (hx:∀ env h τ,Hx σ τ h→X env h→Q (.ext j0) env h τ) (hz:∀ env h τ,Hx σ τ h→Z env h→Q .ret env h τ):sxc P σ (.lop a) Q env h τ:=by
 refine sx_lop n j0 (fun k env h=>∃ i:Nat,k=n - i∧i≤n∧env ri=gi i∧I i env h) X Z h0 H0 ⟨0,rfl,Nat.zero_le _,hr,hI⟩ (fun J Y W hJ hY hW k env h τ H hi=> ?_) hx hz
 obtain⟨i,rfl,h1,h2,h3⟩:=hi
 rcases Nat.lt_or_ge i n with hlt|hge
 ·refine Zf (fun e env' h' τ' q=> ?_) (hs (fun i' env τ=>i'≤n→env ri=gi i'→J (n - i') env τ) Y W (fun j env h τ H e hj hr=>hJ _ env h τ H ⟨j,rfl,hj,hr,e⟩) hY hW i env h τ hlt h2 (by simp;omega) H h3)
  cases e with
  |nxt=>exact⟨n - (i+1),by omega,q.2 (by omega) q.1⟩
  |ext j=>exact q
  |ret=>exact q
 ·obtain rfl:i=n:=by omega
  refine Zf (fun e env' h' τ' q=> ?_) (he Y hY env h τ h2 (by simp) H h3)
  cases e with
  |nxt=>exact q.elim
  |ext j=>exact q
  |ret=>exact q.elim
theorem A2b {md:Bool} {F:Fn1} {r:GV} (hF:Fh md P f=some F) (hl:args.length≤F.n) (hr:vLt σ.length r)
  (hc:sxc P σ F.c (fun e env h τ=>Hx σ τ h→Rm e=true∧resX σ h τ env F.rs=some r) (env0 args) [] σ):Ret P f args σ r σ:=
 Af hF hl hr (Av (A28 (Hx.refl σ) hc) fun e env τ he=>by
  obtain⟨_,h,H,hq⟩:=he
  exact⟨(hq H).1,X6 H (hq H).2,H.sub⟩)
end rules
end
section
open Go Go.RowKit
abbrev z4:List GV:=[GV.nilS,GV.nilS,GV.nilS,GV.nilS]
end
section
open Go Go.RowKit
theorem Aeb {σ τ:St} {h:List Item} (H:Hx σ τ h) {i:Nat} {cs:List GV} {s:State} (hi:h[i]? =some (.th (own A8 cs s))):zSt τ cs:=by
 obtain⟨v0,v1,v2,v3,rfl,H'⟩:=(H.hp.pick i (at_t hi)).splitState
 exact⟨v0,v1,v2,v3,rfl,H'.zok 1 rfl,H'.zok 2 rfl,H'.zok 3 rfl⟩
end
section
open Go Go.RowKit
abbrev X7:Nat:=141
def X8:Fn1:=⟨5,[.t 2],(.seq (.reg [o 1 (.box (.t 0)),o 2 (.mov (.k .nilS))]) (.seq (.reg [o 3 (.ld true 5 (.t 1)),o 4 (.lit 5 1 [(.int .i64 0),(.str ⟨#[]⟩),(.str ⟨#[]⟩),(.int .i64 0),(.int .i64 0)] [(0,5,(.t 3))]),o 2 (.mov (.t 4))]) .ret))⟩
theorem A50:A5 Tryz.prog X7=some X8:=by kernel_rfl
abbrev Q2:Nat:=144
def Q3:Fn1:=⟨28,[.t 4],(.seq (.reg [o 3 (.box (.t 1)),o 4 (.mov (.k (.int .i64 0)))]) (.seq (.reg [o 5 (.mov (.k (.int .i64 0)))]) (.seq (.seq (.reg [o 6 (.mov (.k (.int .i64 0)))]) (.blk 0 (.lop (.seq (.seq (.reg [o 7 (.mov (.t 6)),o 8 (.mov (.t 0)),o 9 (.len false (.t 8)),o 10 (.bin .lss (.t 7) (.t 9))]) (.cnd (.t 10) .skip (.ext 0))) (.seq (.blk 1 (.seq (.seq (.reg [o 13 (.mov (.t 0)),o 14 (.mov (.t 6)),o 15 (.iad 8 (.t 13) (.t 14)),o 16 (.fad 7 (.t 15)),o 17 (.ld false 1 (.t 16))]) (.cnd (.t 17) (.ext 1) .skip)) (.seq (.seq (.drw [] [o 18 (.mov (.t 0)),o 19 (.mov (.t 6)),o 20 (.iad 8 (.t 18) (.t 19)),o 21 (.fad 1 (.t 20)),o 22 (.ld true 2 (.t 21)),o 23 (.ld true 2 (.t 3)),o 24 (.eqs false [.i .i64,.i .i64] (.t 22) (.t 23))]) (.cnd (.t 24) (.seq (.reg [o 25 (.mov (.t 5)),o 4 (.mov (.t 25))]) .ret) .skip)) (.reg [o 26 (.mov (.t 5)),o 27 (.bin .add (.t 26) (.k (.int .i64 1))),o 5 (.mov (.t 27))])))) (.reg [o 11 (.mov (.t 6)),o 12 (.bin .add (.t 11) (.k (.int .i64 1))),o 6 (.mov (.t 12))])))))) (.seq (.reg [o 4 (.mov (.k (.int .i64 (-1))))]) .ret))))⟩
theorem Zg:Fh true Tryz.prog Q2=some Q3:=by kernel_rfl
abbrev Tw:Nat:=157
def Tx:Fn1:=⟨12,[.t 6],(.seq (.reg [o 3 (.box (.t 0)),o 5 (.box (.t 2)),o 6 (.mov (.k (.int .i64 0)))]) (.seq (.reg [o 7 (.ld true 4 (.t 3)),o 8 (.mov (.t 1)),o 9 (.call 198 [(.t 7),(.t 8)]),o 10 (.mkf 264 [(.t 5)]),o 11 (.call 263 [(.t 9),(.t 10)]),o 6 (.mov (.t 11))]) .ret))⟩
theorem A2c:A5 Tryz.prog Tw=some Tx:=by kernel_rfl
abbrev I9:Nat:=264
def Lw:Fn1:=⟨8,[.t 3],(.seq (.reg [o 2 (.box (.t 0)),o 3 (.mov (.k (.bool false)))]) (.seq (.reg [o 4 (.fad 1 (.t 2)),o 5 (.ld true 2 (.t 4)),o 6 (.ld true 2 (.t 1)),o 7 (.eqs false [.i .i64,.i .i64] (.t 5) (.t 6)),o 3 (.mov (.t 7))]) .ret))⟩
theorem Ty:A5 Tryz.prog I9=some Lw:=by kernel_rfl
abbrev X9:Nat:=142
def Xa:Fn1:=⟨18,[.t 4],(.seq (.reg [o 4 (.mov (.k (.bool false)))]) (.seq (.seq (.reg [o 5 (.mov (.k (.int .i64 0)))]) (.blk 0 (.lop (.seq (.seq (.reg [o 6 (.mov (.t 5)),o 7 (.mov (.t 0)),o 8 (.len false (.t 7)),o 9 (.bin .lss (.t 6) (.t 8))]) (.cnd (.t 9) .skip (.ext 0))) (.seq (.blk 1 (.seq (.reg [o 12 (.mov (.t 0)),o 13 (.mov (.t 5)),o 14 (.iad 1 (.t 12) (.t 13)),o 15 (.ld false 1 (.t 14)),o 16 (.mov (.t 1)),o 17 (.bin .eql (.t 15) (.t 16))]) (.cnd (.t 17) (.seq (.reg [o 4 (.mov (.k (.bool true)))]) .ret) .skip))) (.reg [o 10 (.mov (.t 5)),o 11 (.bin .add (.t 10) (.k (.int .i64 1))),o 5 (.mov (.t 11))])))))) (.seq (.reg [o 4 (.mov (.k (.bool false)))]) .ret)))⟩
theorem A51:A5 Tryz.prog X9=some Xa:=by kernel_rfl
abbrev Dc:Nat:=261
def Dd:Fn1:=⟨19,[.t 4],(.seq (.reg [o 4 (.mov (.k (.int .i64 0)))]) (.seq (.seq (.reg [o 6 (.mov (.t 0)),o 7 (.len false (.t 6)),o 8 (.mov (.k (.int .i64 0)))]) (.blk 0 (.lop (.seq (.reg [o 9 (.bin .lss (.t 8) (.t 7))]) (.seq (.cnd (.t 9) .skip (.ext 0)) (.seq (.blk 1 (.seq (.reg [o 10 (.mov (.t 8)),o 5 (.mov (.t 10))]) (.seq (.reg [o 11 (.mov (.t 1)),o 12 (.mov (.t 0)),o 13 (.mov (.t 5)),o 14 (.iad 1 (.t 12) (.t 13)),o 15 (.ld false 1 (.t 14)),o 16 (.bin .eql (.t 11) (.t 15))]) (.cnd (.t 16) (.seq (.reg [o 17 (.mov (.t 5)),o 4 (.mov (.t 17))]) .ret) .skip)))) (.reg [o 18 (.bin .add (.t 8) (.k (.int .i64 1))),o 8 (.mov (.t 18))]))))))) (.seq (.reg [o 4 (.mov (.k (.int .i64 (-1))))]) .ret)))⟩
theorem G6:A5 Tryz.prog Dc=some Dd:=by kernel_rfl
abbrev Cr:Nat:=154
def Cs:Fn1:=⟨9,[.t 4],(.seq (.reg [o 4 (.mov (.k (.bool false)))]) (.seq (.reg [o 5 (.mov (.t 0)),o 6 (.mov (.t 1)),o 7 (.call 261 [(.t 5),(.t 6)]),o 8 (.bin .geq (.t 7) (.k (.int .i64 0))),o 4 (.mov (.t 8))]) .ret))⟩
theorem Fa:A5 Tryz.prog Cr=some Cs:=by kernel_rfl
def ixS (l:List ByteArray) (k:ByteArray):Int:=match l.findIdx? fun x=>decide (x=k) with
 |some i=>i
 |none=> -1
theorem ixS_at {l:List ByteArray} {k:ByteArray} {i:Nat} (hi:i<l.length) (ha:∀ j (hj:j<l.length),j<i→l[j]≠k) (h:l[i]=k):ixS l k=i:=by
 have:l.findIdx? (fun x=>decide (x=k))=some i:=List.findIdx?_eq_some_iff_getElem.2 ⟨hi,by simp[h],fun j hj=>by simp[ha j (by omega) hj]⟩
 simp[ixS,this]
theorem Ac5 {l:List ByteArray} {k:ByteArray} (ha:∀ j (hj:j<l.length),l[j]≠k):ixS l k= -1:=by
 have:l.findIdx? (fun x=>decide (x=k))=none:=by
  rw[List.findIdx?_eq_none_iff]
  intro x hx
  obtain⟨j,hj,rfl⟩:=List.getElem_of_mem hx
  simpa using ha j hj
 simp[ixS,this]
theorem A9v {l:List ByteArray} {k:ByteArray} {i:Nat} (hi:i<l.length) (h:l[i]=k):hasK l k=true:=List.any_eq_true.2 ⟨_,List.getElem_mem hi,by simp[h]⟩
theorem A9w {l:List ByteArray} {k:ByteArray} (ha:∀ j (hj:j<l.length),l[j]≠k):hasK l k=false:=List.any_eq_false.2 fun x hx=>by
 obtain⟨j,hj,rfl⟩:=List.getElem_of_mem hx
 simpa using ha j hj
theorem ixS_ge (l:List ByteArray) (k:ByteArray):decide (0≤ixS l k)=hasK l k:=by
 by_cases h:∀ j (hj:j<l.length),l[j]≠k
 ·rw[Ac5 h,A9w h];rfl
 ·have:∃ j,∃ hj:j<l.length,l[j]=k:=by
   refine Classical.byContradiction fun h2=>h fun j hj e=>h2 ⟨j,hj,e⟩
  obtain⟨j,hj,e⟩:=this
  rw[A9v hj e]
  cases hx:l.findIdx? fun x=>decide (x=k) with
  |some i=>simp[ixS,hx]
  |none=>
   rw[List.findIdx?_eq_none_iff] at hx
   have:=hx _ (List.getElem_mem hj)
   simp[e] at this
theorem A6b {l:List ByteArray} {k:ByteArray} {i:Nat} (hi:i<l.length) (ha:∀ j (hj:j<l.length),j<i→l[j]≠k) (h:l[i]≠k):∀ j (hj:j<l.length),j<i+1→l[j]≠k:=fun j hj hji=>by
 rcases Nat.lt_or_ge j i with h1|h1
 ·exact ha j hj h1
 ·have:j=i:=by omega
  subst this;exact h
theorem L3 (σ:St) (v:GV) (l:List ByteArray) (h:RS pS.kd σ v l) (k:ByteArray) (hl:l.length≤1099511627776):Ret Tryz.prog X9 [v,.str k] σ (.bool (hasK l k)) σ:=by
 refine A2b A51 (Z0z rfl) trivial ?_
 simp +contextual (disch:=omega) only[go_sem,Xa]
 refine A9u l.length 5 0 (fun i env h=>env 0=v∧env 1= .str k∧(∀ j (hj:j<l.length),j<i→l[j]≠k)∧h=[]) (fun env h=>∀ j (hj:j<l.length),l[j]≠k) (fun env h=>env 4= .bool (hasK l k)) _ (Hx.refl σ) (by simp +contextual (disch:=omega) only[go_sem]) ⟨by simp +contextual (disch:=omega) only[go_sem],by simp +contextual (disch:=omega) only[go_sem],fun j hj hh=>by omega,rfl⟩ ?_ ?_ ?_ ?_
 ·rintro J Y W hJ hY hW i env h' τ hi ei c0 H ⟨e0,e1,ha,rfl⟩
  have L1:=A5t h hi
  by_cases hx:l[i]=k
  ·have b:decide (l[i]=k)=true:=decide_eq_true hx
   simp +contextual (disch:=omega) only[go_sem,c0,e0,e1,ei,A2,L1,h.len,b]
   exact hW _ _ _ H (by simp +contextual (disch:=omega) only[go_sem,A9v hi hx])
  ·have b:decide (l[i]=k)=false:=decide_eq_false hx
   simp +contextual (disch:=omega) only[go_sem,c0,e0,e1,ei,A2,L1,h.len,b]
   exact hJ _ _ _ _ H ⟨by simp +contextual (disch:=omega) only[go_sem,e0],by simp +contextual (disch:=omega) only[go_sem,e1],A6b hi ha hx,rfl⟩
 ·rintro Y hY env h' τ ei c0 H ⟨e0,e1,ha,rfl⟩
  simp +contextual (disch:=omega) only[go_sem,c0,e0,ei,h.len]
  exact hY _ _ _ H fun j hj=>ha j hj hj
 ·rintro env h' τ H ha
  simp +contextual (disch:=omega) only[go_sem,A9w ha]
 ·rintro env h' τ H e4
  simp +contextual (disch:=omega) only[go_sem,e4]
theorem Oq (σ:St) (v:GV) (l:List ByteArray) (h:RS pS.kd σ v l) (k:ByteArray) (hl:l.length≤1099511627776):Ret Tryz.prog Dc [v,.str k] σ (gi (ixS l k)) σ:=by
 refine A2b G6 (Z0z rfl) trivial ?_
 simp +contextual (disch:=omega) only[go_sem,Dd,h.len]
 refine A9u l.length 8 0 (fun i env h=>env 0=v∧env 1= .str k∧env 7=gi l.length∧(∀ j (hj:j<l.length),j<i→l[j]≠k)∧h=[]) (fun env h=>∀ j (hj:j<l.length),l[j]≠k) (fun env h=>env 4=gi (ixS l k)) _ (Hx.refl σ) (by simp +contextual (disch:=omega) only[go_sem]) ⟨by simp +contextual (disch:=omega) only[go_sem],by simp +contextual (disch:=omega) only[go_sem],by simp +contextual (disch:=omega) only[go_sem],fun j hj hh=>by omega,rfl⟩ ?_ ?_ ?_ ?_
 ·rintro J Y W hJ hY hW i env h' τ hi ei c0 H ⟨e0,e1,e7,ha,rfl⟩
  have L1:=A5t h hi
  by_cases hx:k=l[i]
  ·have b:decide (k=l[i])=true:=decide_eq_true hx
   simp +contextual (disch:=omega) only[go_sem,c0,e0,e1,e7,ei,A2,L1,h.len,b]
   exact hW _ _ _ H (by simp +contextual (disch:=omega) only[go_sem,ixS_at hi ha hx.symm])
  ·have b:decide (k=l[i])=false:=decide_eq_false hx
   simp +contextual (disch:=omega) only[go_sem,c0,e0,e1,e7,ei,A2,L1,h.len,b]
   exact hJ _ _ _ _ H ⟨by simp +contextual (disch:=omega) only[go_sem,e0],by simp +contextual (disch:=omega) only[go_sem,e1],by simp +contextual (disch:=omega) only[go_sem,e7],A6b hi ha (fun e=>hx e.symm),rfl⟩
 ·rintro Y hY env h' τ ei c0 H ⟨e0,e1,e7,ha,rfl⟩
  simp +contextual (disch:=omega) only[go_sem,c0,e7,ei,h.len]
  exact hY _ _ _ H fun j hj=>ha j hj hj
 ·rintro env h' τ H ha
  simp +contextual (disch:=omega) only[go_sem,Ac5 ha]
 ·rintro env h' τ H e4
  simp +contextual (disch:=omega) only[go_sem,e4]
theorem Ae (σ:St) (v:GV) (l:List ByteArray) (h:RS pS.kd σ v l) (k:ByteArray) (hl:l.length≤1099511627776):Ret Tryz.prog Cr [v,.str k] σ (.bool (hasK l k)) σ:=by
 refine A2b Fa (Z0z rfl) trivial ?_
 simp +contextual (disch:=omega) only[go_sem,Cs]
 refine by_r (Hx.refl σ) (Oq _ v l h k hl) ?_
 simp +contextual (disch:=omega) only[go_sem,ixS_ge]
theorem Lx (σ:St) (v:GV) (l:List Cell) (h:RS Ai.kd σ v l) (d:Dot) (hl:l.length≤1099511627776):Ret Tryz.prog Q2 [v,.agg [gi d.rep,gi d.seq]] σ (gi (plN d l 0)) σ:=by
 refine A2b Zg (Z0z rfl) trivial ?_
 simp +contextual (disch:=omega) only[go_sem,Q3]
 intro n f τ H
 refine A9u l.length 6 0 (fun i env h=>env 0=v∧env 3= .ptr n 0∧(∃ m:Nat,env 5=gi m∧m≤i∧plN d (l.drop i) m=plN d l 0)∧h=[.box 1 n [gi d.rep,gi d.seq]]) (fun env h=>plN d l 0= -1) (fun env h=>env 4=gi (plN d l 0)) _ H (by simp +contextual (disch:=omega) only[go_sem]) ⟨by simp +contextual (disch:=omega) only[go_sem],by simp +contextual (disch:=omega) only[go_sem],⟨0,by simp +contextual (disch:=omega) only[go_sem],Nat.le_refl _,by rw[List.drop_zero]⟩,rfl⟩ ?_ ?_ ?_ ?_
 ·rintro J Y W hJ hY hW i env h' τ hi ei c0 H ⟨e0,e3,⟨m,e5,hm,hE⟩,rfl⟩
  have L1:=A4 h hi
  rw[← List.getElem_cons_drop hi,plN] at hE
  cases hg:l[i].gone with
  |true=>
   rw[if_pos hg] at hE
   simp +contextual (disch:=omega) only[go_sem,c0,e0,e3,ei,A2,L1,h.len,hg]
   exact hJ _ _ _ _ H ⟨by simp +contextual (disch:=omega) only[go_sem,e0],by simp +contextual (disch:=omega) only[go_sem,e3],⟨m,by simp +contextual (disch:=omega) only[go_sem,e5],by omega,hE⟩,rfl⟩
  |false=>
   rw[if_neg (by simp[hg])] at hE
   by_cases hd:l[i].dot=d
   ·rw[if_pos hd] at hE
    have b:decide (l[i].dot=d)=true:=decide_eq_true hd
    simp +contextual (disch:=omega) only[go_sem,c0,e0,e3,e5,ei,A2,L1,h.len,hg,b]
    exact hW _ _ _ H (by simp +contextual (disch:=omega) only[go_sem,hE])
   ·rw[if_neg hd] at hE
    have b:decide (l[i].dot=d)=false:=decide_eq_false hd
    simp +contextual (disch:=omega) only[go_sem,c0,e0,e3,e5,ei,A2,L1,h.len,hg,b]
    exact hJ _ _ _ _ H ⟨by simp +contextual (disch:=omega) only[go_sem,e0],by simp +contextual (disch:=omega) only[go_sem,e3],⟨m+1,by simp +contextual (disch:=omega) only[go_sem],by omega,hE⟩,rfl⟩
 ·rintro Y hY env h' τ ei c0 H ⟨e0,e3,⟨m,e5,hm,hE⟩,rfl⟩
  rw[List.drop_length] at hE
  simp +contextual (disch:=omega) only[go_sem,c0,e0,ei,h.len]
  exact hY _ _ _ H hE.symm
 ·rintro env h' τ H hE
  simp +contextual (disch:=omega) only[go_sem,hE]
 ·rintro env h' τ H e4
  simp +contextual (disch:=omega) only[go_sem,e4]
theorem Ql (τ:St) (x:Cell) (g:Nat) (d:Dot) (hg:rdB τ g=some [gi d.rep,gi d.seq]):Ret Tryz.prog I9 [.agg (Ai.enc x),.ptr g 0] τ (.bool (decide (x.dot=d))) τ:=by
 refine Af Ty (Z0z rfl) trivial ?_
 simp +contextual (disch:=omega) only[go_sem,Lw,Yf,A0 (Ix hg _)]
theorem Nm (σ:St) (cs:List GV) (s:State) (hR:A8.R σ s cs) (o:ByteArray) (d:Dot) (hok:B7 s=true) (hl:Ac s≤1099511627776):Ret Tryz.prog Tw [.agg cs,.str o,.agg [gi d.rep,gi d.seq]] σ (gi (plN d (rowC s o) 0)) σ:=by
 have gl:cs.length=4:=A8.len hR
 refine A2b A2c (Z0z rfl) trivial ?_
 simp +contextual (disch:=omega) only[go_sem,Tx]
 intro n1 f1 τ1 _ n2 f2 τ H
 simp +contextual (disch:=omega) only[go_sem,A6 gl,gl]
 obtain⟨r,τ2,R2,K2⟩:=Vg τ cs s (A8.pre hR H.sub) o hl
 refine by_c H R2 K2 fun H2=> ?_
 have hb:rdB τ2 n2=some [gi d.rep,gi d.seq]:=H2.hp.pt 1 rfl
 have hm:∀(g:Opd→Option (Nat×Nat)) (c:Opd),[c].mapM g=(g c).map fun x=>[x]:=fun g c=>by
  cases h:g c<;>simp[List.mapM_cons,h]
 simp +contextual (disch:=omega) only[go_sem,hm,Xx,Option.map_some]
 refine by_r H2 (E3 τ2 r (rowL s o) (H2.hp.sl 0 rfl) (by have:=Aav s o;omega) I9 [(n2,0)] (fun c=>decide (c.dot=d)) (fun τ' x hp=>Ql τ' x n2 d (Ab hp hb))) ?_
 have e:=A9k d (rowC s o) 0
 have e2:rowL s o=(rowC s o).filter Cq:=by simp only[rowL,hok,if_true];rfl
 rw[e2]
 simp +contextual (disch:=omega) only[go_sem]
 simp only[Nat.zero_add] at e
 rw[e]
 exact fun _=>rfl
theorem Ds (σ:St) (e:Edit):∃ w τ,Ret Tryz.prog X7 [.agg (Ca.enc e)] σ w τ∧Hp σ τ [ow Ca.kd w [e]]:=by
 refine Ab6 A50 (Z0z rfl) (Hx.refl σ) ?_
 simp +contextual (disch:=omega) only[go_sem,X8,Aai]
 intro n1 f1 τ1 _ n2 f2 τ H
 exact⟨_,rfl,(Hp.toRow (p:=Ca) H.hp 0 rfl [e] rfl rfl _ rfl).one⟩
end
section
open Go Go.RowKit
attribute [go_sem] List.set_cons_zero List.set_cons_succ List.eraseIdx_cons_succ List.eraseIdx_cons_zero List.map_cons List.map_nil List.cons_append List.nil_append
section
variable {P:Program} {D:Bool} {σ τ:St} {env:Env} {h:List Item} {k:Kx} {v:GV} {α:Type} {l:List α}
theorem Hx.of {rs:List Thg} (H:Hp σ τ rs):Hx σ τ (rs.map Item.th):=by
 have e:(rs.map Item.th).map Item.t=rs:=by
  have:=Ac4 (rs:=rs) (h:=[])
  simpa using this
 unfold Hx
 rw[e];exact H
theorem Hx.nil (H:Hx σ τ h) (d:Kd α):Hx σ τ (.th (ow d .nilS ([]:List α))::h):=Hp.nilS H
theorem Hx.emp {z n:Nat} (H:Hx σ τ (.box z n []::h)) (d:Kd α) (hz:z=d.z):Hx σ τ (.th (ow d (.sl n 0 0) ([]:List α))::h):=H.hp.toNil 0 rfl hz
theorem Hx.mlk {m:GV} {ps:List (Dot×Int)} (H:Hx σ τ h) (i:Nat) (hi:h[i]? =some (.th (mpt m ps))) (d:Dot):mlkG τ [.i .i64,.i .i64] (gi 0) true m (.agg [gi d.rep,gi d.seq])=some (.tup [gi ((Jr ps d).getD 0),.bool (Jr ps d).isSome]):=H.hp.mlk i (at_t hi) d
theorem Aec (H:Hx σ τ h) {g:Bool} {n:Nat} {a x:GV} (e:ldG g n τ a=some x):ldX σ h τ g n a=some x:=by
 unfold ldX orX
 cases h1:ldG g n σ a with
 |some y=>have:=A9q h1 H.sub;rw[e] at this;exact this.symm
 |none=>
  show ldY h τ g n a=some x
  cases a with
  |ptr b off=>
   simp only[ldY]
   cases hl:look h b with
   |none=>exact e
   |some cs=>
    obtain⟨z,i,h2,_⟩:=Tt hl
    have:=H.hp.pt i h2
    simp only[ldG,this,Option.bind_some] at e
    exact e
  |_=>exact e
end
end
section
open Go Go.RowKit
section os
variable {α:Type} {d:Kd α} {σ τ:St} {l:List α} {v:GV} {fp:List Nat}
theorem OS.fresh {x0:α} {ze:List GV} {n len:Nat} (h0:∀ τ,d.O τ x0 ze []) (hB:bk τ n=some (.row d.z (reps len ze))):OS d τ (List.replicate len x0) (.sl n 0 len) [n]:=by
 refine .inr ⟨n,[],List.replicate len ze,[],List.replicate len [],by simp,by rw[hB];simp[reps],?_,?_⟩
 ·clear hB
  induction len with
  |zero=>exact .nil
  |succ k ih=>exact .cons (h0 τ) ih
 ·simp
end os
section rules
variable {P:Program} {D:Bool} {σ τ:St} {h:List Item} {k:Kx} {v:GV} {α:Type} {l:List α} {d:Kd α}
theorem Hx.mk {x0:α} {ze:List GV} {n len z:Nat} (H:Hx σ τ (.box z n (reps len ze)::h)) (d:Kd α) (hz:z=d.z) (h0:∀ τ,d.O τ x0 ze []):Hx σ τ (.th (ow d (.sl n 0 len) (List.replicate len x0))::h):=
 H.hp.conv fun fp hp=>by
  obtain⟨rfl,hB⟩:=hp
  exact OS.fresh h0 (hz ▸ hB)
end rules
end
section
open Go Go.RowKit
theorem All3.cut {α β γ:Type} {R:α→β→γ→Prop}:∀ {x y:List α} {bs:List β} {cs:List γ},All3 R (x++y) bs cs→∃ b1 b2 c1 c2,bs=b1++b2∧cs=c1++c2∧All3 R x b1 c1∧All3 R y b2 c2
 |[],y,bs,cs,h=>⟨[],bs,[],cs,rfl,rfl,.nil,h⟩
 |a::x,y,_,_,.cons h t=>by
  obtain⟨b1,b2,c1,c2,rfl,rfl,h1,h2⟩:=All3.cut t
  exact⟨_::b1,b2,_::c1,c2,rfl,rfl,.cons h h1,h2⟩
def holeP {α:Type} (d:Kd α) (v:GV) (l:List α) (j:Nat) (cs:List GV) (τ:St) (fp:List Nat):Prop:=
 ∃ g pre c1 c2 post f1 f2,v= .sl g pre.length l.length∧bk τ g=some (.row d.z (pre++(c1.flatten++(cs++c2.flatten))++post))∧cs.length=d.z∧All3 (d.O τ) (l.take j) c1 f1∧All3 (d.O τ) (l.drop (j+1)) c2 f2∧fp=g::(f1.flatten++f2.flatten)
def hole {α:Type} (d:Kd α) (v:GV) (l:List α) (j:Nat) (cs:List GV):Thg:=⟨holeP d v l j cs,fun {σ τ fp} h hf=>by
 obtain⟨g,pre,c1,c2,post,f1,f2,h1,h2,h3,h4,h5,rfl⟩:=h
 refine⟨g,pre,c1,c2,post,f1,f2,h1,by rw[hf g List.mem_cons_self];exact h2,h3,h4.imp fun a b c hc ho=>d.loc ho fun g' hg'=>hf g' ?_,h5.imp fun a b c hc ho=>d.loc ho fun g' hg'=>hf g' ?_,rfl⟩
 ·exact List.mem_cons_of_mem _ (List.mem_append_left _ (List.mem_flatten.2 ⟨c,hc,hg'⟩))
 ·exact List.mem_cons_of_mem _ (List.mem_append_right _ (List.mem_flatten.2 ⟨c,hc,hg'⟩))⟩
section
variable {σ τ:St} {rs:List Thg} {α:Type} {d:Kd α} {v:GV} {l:List α} {cs:List GV} {j:Nat}
end
section
variable {P:Program} {σ τ:St} {h:List Item} {K:Kx} {v:GV} {α:Type} {l:List α} {d:Kd α} {cs:List GV} {j:Nat}
end
end
section
open Go Go.RowKit
def restP {α:Type} (d:Kd α) (v:GV) (l:List α) (j:Nat) (τ:St) (fp:List Nat):Prop:=
 (l=[]∧v= .nilS∧fp=[])∨∃ g pre c1 c2 post f2,v= .sl g pre.length l.length∧bk τ g=some (.row d.z (pre++(c1++c2.flatten)++post))∧c1.length=j*d.z∧All3 (d.O τ) (l.drop j) c2 f2∧fp=g::f2.flatten
def rest {α:Type} (d:Kd α) (v:GV) (l:List α) (j:Nat):Thg:=⟨restP d v l j,fun {σ τ fp} h hf=>by
 rcases h with h|⟨g,pre,c1,c2,post,f2,h1,h2,h3,h4,rfl⟩
 ·exact .inl h
 refine .inr ⟨g,pre,c1,c2,post,f2,h1,by rw[hf g List.mem_cons_self];exact h2,h3,h4.imp fun a b c hc ho=>d.loc ho fun g' hg'=>hf g' ?_,rfl⟩
 exact List.mem_cons_of_mem _ (List.mem_flatten.2 ⟨c,hc,hg'⟩)⟩
section
variable {σ τ:St} {rs:List Thg} {α:Type} {d:Kd α} {v:GV} {l:List α} {j:Nat}
end
def rstP {α:Type} (d:Kd α) (v:GV) (l:List α) (j:Nat) (cs:List GV) (τ:St) (fp:List Nat):Prop:=
 ∃ g pre c1 c2 post f2,v= .sl g pre.length l.length∧bk τ g=some (.row d.z (pre++(c1++(cs++c2.flatten))++post))∧c1.length=j*d.z∧cs.length=d.z∧All3 (d.O τ) (l.drop (j+1)) c2 f2∧fp=g::f2.flatten
def rst {α:Type} (d:Kd α) (v:GV) (l:List α) (j:Nat) (cs:List GV):Thg:=⟨rstP d v l j cs,fun {σ τ fp} h hf=>by
 obtain⟨g,pre,c1,c2,post,f2,h1,h2,h3,h5,h4,rfl⟩:=h
 refine⟨g,pre,c1,c2,post,f2,h1,by rw[hf g List.mem_cons_self];exact h2,h3,h5,h4.imp fun a b c hc ho=>d.loc ho fun g' hg'=>hf g' ?_,rfl⟩
 exact List.mem_cons_of_mem _ (List.mem_flatten.2 ⟨c,hc,hg'⟩)⟩
section
variable {σ τ:St} {rs:List Thg} {α:Type} {d:Kd α} {v:GV} {l:List α} {cs:List GV} {j:Nat}
end
end
section
open Go Go.RowKit
abbrev Xb:Nat:=143
def Xc:Fn1:=⟨46,[.t 6,.t 7],(.seq (.reg [o 3 (.box (.t 0)),o 4 (.box (.t 1)),o 5 (.box (.t 2)),o 6 (.mov (.k .nilS)),o 7 (.mov (.k (.bool false)))]) (.seq (.reg [o 9 (.ld true 4 (.t 3)),o 10 (.fad 5 (.t 5)),o 11 (.ld false 1 (.t 10)),o 12 (.fad 6 (.t 5)),o 13 (.ld false 1 (.t 12)),o 14 (.call 250 [(.t 9),(.t 11),(.t 13)]),o 8 (.mov (.t 14))]) (.seq (.seq (.reg [o 15 (.mov (.t 8)),o 16 (.len false (.t 15)),o 17 (.bin .gtr (.t 16) (.k (.int .i64 1)))]) (.cnd (.t 17) (.seq (.reg [o 18 (.lit 5 0 [] []),o 6 (.mov (.t 18)),o 7 (.mov (.k (.bool false)))]) .ret) .skip)) (.seq (.seq (.reg [o 19 (.mov (.t 8)),o 20 (.ld true 4 (.t 4)),o 21 (.fad 5 (.t 5)),o 22 (.ld false 1 (.t 21)),o 23 (.fad 6 (.t 5)),o 24 (.ld false 1 (.t 23)),o 25 (.call 250 [(.t 20),(.t 22),(.t 24)]),o 26 (.call 171 [(.t 19),(.t 25)])]) (.cnd (.t 26) (.seq (.reg [o 27 (.lit 5 0 [] []),o 6 (.mov (.t 27)),o 7 (.mov (.k (.bool true)))]) .ret) .skip)) (.seq (.seq (.reg [o 28 (.mov (.t 8)),o 29 (.len false (.t 28)),o 30 (.bin .eql (.t 29) (.k (.int .i64 0)))]) (.cnd (.t 30) (.seq (.reg [o 31 (.fad 5 (.t 5)),o 32 (.ld false 1 (.t 31)),o 33 (.fad 6 (.t 5)),o 34 (.ld false 1 (.t 33)),o 35 (.build [(.int .i64 0),(.str ⟨#[]⟩),(.str ⟨#[]⟩),(.int .i64 0),(.int .i64 0)] [(0,1,(.k (.int .i64 5))),(1,1,(.t 32)),(2,1,(.t 34))]),o 36 (.call 141 [(.t 35)]),o 6 (.mov (.t 36)),o 7 (.mov (.k (.bool true)))]) .ret) .skip)) (.seq (.drw [] [o 37 (.fad 5 (.t 5)),o 38 (.ld false 1 (.t 37)),o 39 (.fad 6 (.t 5)),o 40 (.ld false 1 (.t 39)),o 41 (.mov (.t 8)),o 42 (.iad 1 (.t 41) (.k (.int .i64 0))),o 43 (.ld false 1 (.t 42)),o 44 (.build [(.int .i64 0),(.str ⟨#[]⟩),(.str ⟨#[]⟩),(.int .i64 0),(.int .i64 0)] [(0,1,(.k (.int .i64 4))),(1,1,(.t 38)),(2,1,(.t 40)),(3,1,(.t 43))]),o 45 (.call 141 [(.t 44)]),o 6 (.mov (.t 45)),o 7 (.mov (.k (.bool true)))]) .ret))))))⟩
theorem A52:Fh true Tryz.prog Xb=some Xc:=by kernel_rfl
abbrev Je:Nat:=29
def Nn:Fn1:=⟨121,[.t 4,.t 5],(.seq (.reg [o 2 (.box (.t 0)),o 3 (.box (.t 1)),o 4 (.mov (.k .nilS)),o 5 (.mov (.k (.bool false)))]) (.seq (.reg [o 10 (.lit 5 0 [] []),o 6 (.mov (.t 10))]) (.seq (.reg [o 12 (.ld true 4 (.t 2)),o 13 (.ld true 10 (.t 3)),o 14 (.call 140 [(.t 12),(.t 13)]),o 11 (.mov (.t 14)),o 15 (.ext 0 (.t 11)),o 16 (.ext 1 (.t 11)),o 7 (.new [.nilS,.nilS,.nilS,.nilS]),on (.st 4 (.t 7) (.t 15)),o 8 (.mov (.t 16))]) (.seq (.seq (.reg [o 17 (.mov (.t 8)),o 18 (.bin .neq (.t 17) (.k (.int .i64 0)))]) (.cnd (.t 18) (.seq (.reg [o 19 (.mov (.t 6)),o 4 (.mov (.t 19)),o 5 (.mov (.k (.bool false)))]) .ret) .skip)) (.seq (.seq (.reg [o 20 (.fad 4 (.t 3)),o 21 (.ld false 1 (.t 20))]) (.blk 0 (.seq (.reg [o 46 (.bin .eql (.t 21) (.k (.int .i64 1))),o 45 (.mov (.t 46))]) (.cnd (.t 45) (.seq (.reg [o 47 (.fad 7 (.t 3)),o 48 (.ld false 1 (.t 47)),o 49 (.bin .gtr (.t 48) (.k (.int .i64 0)))]) (.cnd (.t 49) (.seq (.reg [o 50 (.fad 5 (.t 3)),o 51 (.ld false 1 (.t 50)),o 52 (.fad 7 (.t 3)),o 53 (.ld false 1 (.t 52)),o 54 (.bin .sub (.k (.int .i64 1000000)) (.t 53)),o 55 (.build [(.int .i64 0),(.str ⟨#[]⟩),(.str ⟨#[]⟩),(.int .i64 0),(.int .i64 0)] [(0,1,(.k (.int .i64 1))),(1,1,(.t 51)),(3,1,(.t 54))]),o 56 (.call 141 [(.t 55)]),o 4 (.mov (.t 56)),o 5 (.mov (.k (.bool true)))]) .ret) .skip)) (.seq (.reg [o 58 (.bin .eql (.t 21) (.k (.int .i64 2))),o 57 (.mov (.t 58))]) (.cnd (.t 57) (.seq (.drw [o 59 (.ld true 4 (.t 2)),o 60 (.fad 5 (.t 3)),o 61 (.ld false 1 (.t 60)),o 62 (.call 66 [(.t 59),(.t 61)]),o 63 (.fad 6 (.t 3)),o 64 (.ld false 1 (.t 63))] [o 65 (.call 142 [(.t 62),(.t 64)]),o 66 (.un .not (.t 65))]) (.cnd (.t 66) (.seq (.reg [o 67 (.fad 5 (.t 3)),o 68 (.ld false 1 (.t 67)),o 69 (.fad 6 (.t 3)),o 70 (.ld false 1 (.t 69)),o 71 (.build [(.int .i64 0),(.str ⟨#[]⟩),(.str ⟨#[]⟩),(.int .i64 0),(.int .i64 0)] [(0,1,(.k (.int .i64 3))),(1,1,(.t 68)),(2,1,(.t 70))]),o 72 (.call 141 [(.t 71)]),o 4 (.mov (.t 72)),o 5 (.mov (.k (.bool true)))]) .ret) .skip)) (.seq (.reg [o 74 (.bin .eql (.t 21) (.k (.int .i64 3))),o 73 (.mov (.t 74))]) (.cnd (.t 73) (.seq (.drw [o 75 (.ld true 4 (.t 2)),o 76 (.fad 5 (.t 3)),o 77 (.ld false 1 (.t 76)),o 78 (.call 66 [(.t 75),(.t 77)]),o 79 (.fad 6 (.t 3)),o 80 (.ld false 1 (.t 79)),o 81 (.call 142 [(.t 78),(.t 80)]),o 82 (.mov (.t 81)),og 83 82 true (.ld true 4 (.t 7)),og 84 82 true (.fad 5 (.t 3)),og 85 82 true (.ld false 1 (.t 84)),og 86 82 true (.call 66 [(.t 83),(.t 85)]),og 87 82 true (.fad 6 (.t 3)),og 88 82 true (.ld false 1 (.t 87))] [og 89 82 true (.call 142 [(.t 86),(.t 88)]),og 90 82 true (.un .not (.t 89)),o 91 (.pick (.t 82) (.t 90) (.k (.bool false)))]) (.cnd (.t 91) (.seq (.reg [o 92 (.fad 5 (.t 3)),o 93 (.ld false 1 (.t 92)),o 94 (.fad 6 (.t 3)),o 95 (.ld false 1 (.t 94)),o 96 (.build [(.int .i64 0),(.str ⟨#[]⟩),(.str ⟨#[]⟩),(.int .i64 0),(.int .i64 0)] [(0,1,(.k (.int .i64 2))),(1,1,(.t 93)),(2,1,(.t 95))]),o 97 (.call 141 [(.t 96)]),o 4 (.mov (.t 97)),o 5 (.mov (.k (.bool true)))]) .ret) .skip)) (.seq (.seq (.reg [o 99 (.bin .eql (.t 21) (.k (.int .i64 4))),o 98 (.mov (.t 99))]) (.cnd (.t 98) .skip (.reg [o 100 (.bin .eql (.t 21) (.k (.int .i64 5))),o 98 (.mov (.t 100))]))) (.cnd (.t 98) (.seq (.reg [o 101 (.ld true 4 (.t 2)),o 102 (.ld true 4 (.t 7)),o 103 (.ld true 10 (.t 3)),o 104 (.call 143 [(.t 101),(.t 102),(.t 103)]),o 105 (.ext 0 (.t 104)),o 106 (.ext 1 (.t 104)),o 4 (.mov (.t 105)),o 5 (.mov (.t 106))]) .ret) (.seq (.reg [o 108 (.bin .eql (.t 21) (.k (.int .i64 6))),o 107 (.mov (.t 108))]) (.cnd (.t 107) (.seq (.drw [o 109 (.fad 5 (.t 3)),o 110 (.ld false 1 (.t 109)),o 111 (.ld true 4 (.t 7)),o 112 (.fad 5 (.t 3)),o 113 (.ld false 1 (.t 112)),o 114 (.call 145 [(.t 111),(.t 113)]),o 115 (.fad 0 (.t 3)),o 116 (.ld true 2 (.t 115)),o 117 (.call 144 [(.t 114),(.t 116)])] [o 118 (.build [(.int .i64 0),(.str ⟨#[]⟩),(.str ⟨#[]⟩),(.int .i64 0),(.int .i64 0)] [(0,1,(.k (.int .i64 7))),(1,1,(.t 110)),(4,1,(.t 117))]),o 119 (.call 141 [(.t 118)]),o 4 (.mov (.t 119)),o 5 (.mov (.k (.bool true)))]) .ret) (.seq (.drw [o 22 (.ld true 4 (.t 2)),o 23 (.fad 5 (.t 3)),o 24 (.ld false 1 (.t 23)),o 25 (.call 145 [(.t 22),(.t 24)]),o 26 (.fad 8 (.t 3)),o 27 (.ld true 2 (.t 26))] [o 28 (.call 144 [(.t 25),(.t 27)]),o 9 (.mov (.t 28))]) (.seq (.reg [o 29 (.mov (.t 9)),o 30 (.bin .geq (.t 29) (.k (.int .i64 0)))]) (.cnd (.t 30) (.seq (.drw [o 31 (.fad 5 (.t 3)),o 32 (.ld false 1 (.t 31)),o 33 (.fad 3 (.t 2)),o 34 (.ld false 1 (.t 33)),o 35 (.ld true 4 (.t 2)),o 36 (.fad 8 (.t 3)),o 37 (.ld true 2 (.t 36)),o 38 (.call 146 [(.t 35),(.t 37)]),o 39 (.iad 8 (.t 34) (.t 38)),o 40 (.fad 6 (.t 39)),o 41 (.ld false 1 (.t 40))] [o 42 (.mov (.t 9)),o 43 (.build [(.int .i64 0),(.str ⟨#[]⟩),(.str ⟨#[]⟩),(.int .i64 0),(.int .i64 0)] [(0,1,(.k (.int .i64 6))),(1,1,(.t 32)),(3,1,(.t 41)),(4,1,(.t 42))]),o 44 (.call 141 [(.t 43)]),o 4 (.mov (.t 44)),o 5 (.mov (.k (.bool true)))]) .ret) .skip))))))))))))))) (.seq (.reg [o 120 (.mov (.t 6)),o 4 (.mov (.t 120)),o 5 (.mov (.k (.bool true)))]) .ret))))))⟩
theorem Vh:A5 Tryz.prog Je=some Nn:=by kernel_rfl
theorem Tz {σ τ:St} {h:List Item} {v:GV} {l:List Int} (H:Hx σ τ h) (i:Nat) (hi:h[i]? =some (.th (ow pI.kd v l))) {j:Nat} (hj:j<l.length):iadG 1 v (some j)=some (atz 1 v j)∧ldX σ h τ false 1 (atz 1 v j)=some (gi l[j]):=by
 have L:=Ef (H.hp.sl i (at_t hi)) hj
 exact⟨L.1,Aec H L.2⟩
theorem A7r (σ:St) (cs ds:List GV) (s t:State) (hR:A8.R σ s cs) (hT:A8.R σ t ds) (as':List GV) (a:Act) (hS:kAct.R σ a as') (hl:Ac s≤1099511627776) (hl2:Ac t≤1099511627776):∃ q τ,Ret Tryz.prog Xb [.agg cs,.agg ds,.agg as'] σ q τ∧∃ w,q= .tup [w,.bool (Hd (Ig s a.obj a.key) (Ig t a.obj a.key) a).2]∧Hp σ τ [ow Ca.kd w (Hd (Ig s a.obj a.key) (Ig t a.obj a.key) a).1]:=by
 have gl:cs.length=4:=A8.len hR
 have gl2:ds.length=4:=A8.len hT
 obtain⟨kv,rfl,hkv⟩:=hS
 have hml:=A69 s a.obj a.key
 obtain⟨was,hwas⟩:∃ l,l=Ig s a.obj a.key:=⟨_,rfl⟩
 obtain⟨now,hnow⟩:∃ l,l=Ig t a.obj a.key:=⟨_,rfl⟩
 rw[← hwas,←hnow]
 rw[← hwas] at hml
 refine Ab6 A52 (Z0z rfl) (Hx.refl σ) ?_
 simp +contextual (disch:=omega) only[go_sem,Xc]
 intro n1 f1 τ1 _ n2 f2 τ2 _ n3 f3 τ3 H
 simp +contextual (disch:=omega) only[go_sem,A6 gl,gl]
 obtain⟨r,τ4,R4,K4⟩:=Ts τ3 cs s (A8.pre hR H.sub) a.obj a.key hl
 rw[← hwas] at K4
 refine by_c H R4 K4 fun H4=> ?_
 have ln:lenG false r=some (was.length:Int):=(H4.hp.sl 0 rfl).len
 by_cases h1:1<was.length
 ·have b:decide (1<(was.length:Int))=true:=by simp;omega
  have hE:Hd was now a=([],false):=by simp[Hd,h1]
  simp +contextual (disch:=omega) only[go_sem,ln,b]
  intro n5 f5 τ5 H5
  exact⟨_,rfl,_,by rw[hE],by rw[hE];exact((H5.emp Ca.kd rfl).re [0] (by decide)).hp⟩
 have b:decide (1<(was.length:Int))=false:=by simp;omega
 simp +contextual (disch:=omega) only[go_sem,ln,b,A6 gl2,gl2]
 obtain⟨r2,τ5,R5,K5⟩:=Ts τ4 ds t (A8.pre hT H4.sub) a.obj a.key hl2
 rw[← hnow] at K5
 refine by_c H4 R5 K5 fun H5=> ?_
 try simp +contextual (disch:=omega) only[go_sem]
 refine by_r H5 (A77 τ5 r r2 was now (H5.hp.sl 1 rfl) (H5.hp.sl 0 rfl) (by omega)) ?_
 by_cases h2:was=now
 ·have b2:decide (was=now)=true:=decide_eq_true h2
  have hE:Hd was now a=([],true):=by unfold Hd;rw[if_neg h1,if_pos h2]
  simp +contextual (disch:=omega) only[go_sem,b2]
  intro n6 f6 τ6 H6
  exact⟨_,rfl,_,by rw[hE],by rw[hE];exact((H6.emp Ca.kd rfl).re [0] (by decide)).hp⟩
 have b2:decide (was=now)=false:=decide_eq_false h2
 have ln5:lenG false r=some (was.length:Int):=(H5.hp.sl 1 rfl).len
 cases was with
 |nil=>
  have ln5:lenG false r=some 0:=ln5
  have b3:((0:Int)==0)=true:=rfl
  have hE:Hd [] now a=([⟨5,a.obj,a.key,0,0⟩],true):=by unfold Hd;rw[if_neg h1,if_neg h2]
  simp +contextual (disch:=omega) only[go_sem,b2,ln5,b3]
  obtain⟨u,τ6,R6,K6⟩:=Ds τ5 ⟨5,a.obj,a.key,0,0⟩
  refine by_c H5 R6 K6 fun H6=> ?_
  have nt:=RdN.notup (H6.hp.sl 0 rfl)
  simp +contextual (disch:=omega) only[go_sem,nt]
  exact fun _=>⟨_,rfl,u,by rw[hE],by rw[hE];exact(H6.re [0] (by decide)).hp⟩
 |cons x was=>
  have b3:((was.length:Int)+1==0)=false:=by rw[beq_eq_false_iff_ne];omega
  have hE:Hd (x::was) now a=([⟨4,a.obj,a.key,x,0⟩],true):=by unfold Hd;rw[if_neg h1,if_neg h2]
  have L:=Tz H5 1 rfl (j:=0) (by simp)
  have nz0:Ax (some (.int .i64 0))=some 0:=rfl
  simp +contextual (disch:=omega) only[go_sem,b2,ln5,b3,L,nz0,List.getElem_cons_zero]
  obtain⟨u,τ6,R6,K6⟩:=Ds τ5 ⟨4,a.obj,a.key,x,0⟩
  refine by_c H5 R6 K6 fun H6=> ?_
  have nt:=RdN.notup (H6.hp.sl 0 rfl)
  simp +contextual (disch:=omega) only[go_sem,nt]
  exact fun _=>⟨_,rfl,u,by rw[hE],by rw[hE];exact(H6.re [0] (by decide)).hp⟩
set_option maxHeartbeats 2000000 in
theorem Zh (σ:St) (cs:List GV) (s:State) (hR:A8.R σ s cs) (as':List GV) (a:Act) (hS:kAct.R σ a as') (hl:Ac s≤1048576) (hm:E9 a≤1048576):∃ q τ,Ret Tryz.prog Je [.agg cs,.agg as'] σ q τ∧∃ w,q= .tup [w,.bool (Im s a).2]∧Hp σ τ [ow Ca.kd w (Im s a).1]:=by
 have gl:cs.length=4:=A8.len hR
 have hR0:=hR
 have hS0:=hS
 obtain⟨a1,b1,c1,v1,rfl,_,_,_,hc⟩:=hR
 obtain⟨kv,rfl,hkv⟩:=hS
 refine Ab6 Vh (Z0z rfl) (Hx.refl σ) ?_
 simp +contextual (disch:=omega) only[go_sem,Nn]
 intro n1 f1 τ1 _ n2 f2 τ2 _ n3 f3 τ3 H
 try simp +contextual (disch:=omega) only[go_sem]
 obtain⟨ds,τ4,R4,K4⟩:=A4s τ3 _ s (A8.pre hR0 H.sub) _ a (kAct.pre hS0 H.sub) (by omega) (by omega)
 have gd:ds.length=4:=A8.len (K4.rd 0 rfl)
 refine by_c H R4 K4 fun H4=> ?_
 simp +contextual (disch:=omega) only[go_sem,Bg (cs:=[GV.nilS,GV.nilS,GV.nilS,GV.nilS]) gd rfl,gd]
 intro n5 f5 τ50 _ τ5 H5
 by_cases h0:(Be s a).2=0
 rotate_left
 ·have b:((Be s a).2 != 0)=true:=by simp[h0]
  have hE:Im s a=([],false):=by unfold Im;rw[if_pos h0]
  simp +contextual (disch:=omega) only[go_sem,b]
  exact fun _=>⟨_,rfl,_,by rw[hE],by rw[hE];exact((H5.re [2] (by decide)).emp Ca.kd rfl).hp⟩
 have b:((Be s a).2 != 0)=false:=by simp[h0]
 obtain⟨g1,g2,g3,g4⟩:=A68 h0
 obtain⟨t,ht⟩:∃ t,t=(Be s a).1:=⟨_,rfl⟩
 have hE0:Im s a=Bj s t a:=by unfold Im;rw[if_neg (by simp[h0]),ht]
 rw[hE0]
 rw[← ht] at g2 H5
 have hlt:=(Z9.1 g2).ms
 have hkk:=A9o g3
 have hvv:=Ac2 g3
 have hks:=Nj s false a.obj
 have hkt:=Nj t false a.obj
 have dn:∀ {w:GV} {τ:St} {h:List Item},Bj s t a=([],true)→Hx σ τ [.th (ow Ca.kd w ([]:List Edit))]→Hp σ τ [ow Ca.kd w (Bj s t a).1]:=fun e H=>by rw[e];exact H.hp
 have hT:∀ {τ:St},Hx σ τ [.box 1 n5 ds,.th (own A8 ds t),.box 5 n3 [],.box 1 n2 (actV a kv),.box 1 n1 [a1,b1,c1,v1]]→A8.R τ t ds:=fun H=>H.hp.rd 1 rfl
 have hk:a.kind=1∨a.kind=2∨a.kind=3∨(a.kind=4∨a.kind=5)∨a.kind=6∨a.kind=7:=by omega
 rcases hk with hk|hk|hk|hk|hk|hk
 ·skip
  have q1:(a.kind==1)=true:=by simp[hk]
  have q2:(a.kind==2)=false:=by simp[hk]
  have q3:(a.kind==3)=false:=by simp[hk]
  have q4:(a.kind==4)=false:=by simp[hk]
  have q5:(a.kind==5)=false:=by simp[hk]
  have q6:(a.kind==6)=false:=by simp[hk]
  have q7:(a.kind==7)=false:=by simp[hk]
  by_cases hv:0<a.val
  ·have bv:decide (0<a.val)=true:=decide_eq_true hv
   have hE:Bj s t a=([⟨1,a.obj,noS,1000000 - a.val,0⟩],true):=by unfold Bj;rw[if_pos hk,if_pos hv]
   simp +contextual (disch:=omega) only[go_sem,b,q1,q2,q3,q4,q5,q6,q7,bv]
   obtain⟨u,τ9,R9,K9⟩:=Ds τ5 ⟨1,a.obj,noS,1000000 - a.val,0⟩
   refine by_c H5 R9 K9 fun H9=> ?_
   have nt:=RdN.notup (H9.hp.sl 0 rfl)
   simp +contextual (disch:=omega) only[go_sem,nt]
   exact fun _=>⟨_,rfl,u,by rw[hE],by rw[hE];exact(H9.re [0] (by decide)).hp⟩
  ·have bv:decide (0<a.val)=false:=decide_eq_false hv
   have hE:Bj s t a=([],true):=by unfold Bj;rw[if_pos hk,if_neg hv]
   simp +contextual (disch:=omega) only[go_sem,b,q1,q2,q3,q4,q5,q6,q7,bv]
   exact fun _=>⟨_,rfl,_,by rw[hE],by rw[hE];exact((H5.re [2] (by decide)).emp Ca.kd rfl).hp⟩
 ·skip
  have q1:(a.kind==1)=false:=by simp[hk]
  have q2:(a.kind==2)=true:=by simp[hk]
  have q3:(a.kind==3)=false:=by simp[hk]
  have q4:(a.kind==4)=false:=by simp[hk]
  have q5:(a.kind==5)=false:=by simp[hk]
  have q6:(a.kind==6)=false:=by simp[hk]
  have q7:(a.kind==7)=false:=by simp[hk]
  simp +contextual (disch:=omega) only[go_sem,b,q1,q2,q3,q4,q5,q6,q7,A6 gl]
  obtain⟨r6,τ6,R6,K6⟩:=Mg τ5 _ s (A8.pre hR0 H5.sub) a.obj (by omega)
  refine by_c H5 R6 K6 fun H6=> ?_
  try simp +contextual (disch:=omega) only[go_sem]
  refine by_r H6 (L3 τ6 r6 _ (H6.hp.sl 0 rfl) a.key (by omega)) ?_
  cases hh:hasK (Dn s false a.obj) a.key with
  |false=>
   have hE:Bj s t a=([⟨3,a.obj,a.key,0,0⟩],true):=by simp[Bj,hk,hh]
   simp +contextual (disch:=omega) only[go_sem,hh]
   obtain⟨u,τ9,R9,K9⟩:=Ds τ6 ⟨3,a.obj,a.key,0,0⟩
   refine by_c H6 R9 K9 fun H9=> ?_
   have nt:=RdN.notup (H9.hp.sl 0 rfl)
   simp +contextual (disch:=omega) only[go_sem,nt]
   exact fun _=>⟨_,rfl,u,by rw[hE],by rw[hE];exact(H9.re [0] (by decide)).hp⟩
  |true=>
   have hE:Bj s t a=([],true):=by simp[Bj,hk,hh]
   simp +contextual (disch:=omega) only[go_sem,hh]
   exact fun _=>⟨_,rfl,_,by rw[hE],by rw[hE];exact((H6.re [3] (by decide)).emp Ca.kd rfl).hp⟩
 ·skip
  have q1:(a.kind==1)=false:=by simp[hk]
  have q2:(a.kind==2)=false:=by simp[hk]
  have q3:(a.kind==3)=true:=by simp[hk]
  have q4:(a.kind==4)=false:=by simp[hk]
  have q5:(a.kind==5)=false:=by simp[hk]
  have q6:(a.kind==6)=false:=by simp[hk]
  have q7:(a.kind==7)=false:=by simp[hk]
  simp +contextual (disch:=omega) only[go_sem,b,q1,q2,q3,q4,q5,q6,q7,A6 gl]
  obtain⟨r6,τ6,R6,K6⟩:=Mg τ5 _ s (A8.pre hR0 H5.sub) a.obj (by omega)
  refine by_c H5 R6 K6 fun H6=> ?_
  try simp +contextual (disch:=omega) only[go_sem]
  refine by_r H6 (L3 τ6 r6 _ (H6.hp.sl 0 rfl) a.key (by omega)) ?_
  cases hh:hasK (Dn s false a.obj) a.key with
  |false=>
   have hE:Bj s t a=([],true):=by simp[Bj,hk,hh]
   simp +contextual (disch:=omega) only[go_sem,hh]
   exact fun _=>⟨_,rfl,_,by rw[hE],by rw[hE];exact((H6.re [3] (by decide)).emp Ca.kd rfl).hp⟩
  |true=>
   simp +contextual (disch:=omega) only[go_sem,hh,A6 gd]
   obtain⟨r7,τ7,R7,K7⟩:=Mg τ6 ds t (H6.hp.rd 2 rfl) a.obj (by omega)
   refine by_c H6 R7 K7 fun H7=> ?_
   try simp +contextual (disch:=omega) only[go_sem]
   refine by_r H7 (L3 τ7 r7 _ (H7.hp.sl 0 rfl) a.key (by omega)) ?_
   cases hh2:hasK (Dn t false a.obj) a.key with
   |false=>
    have hE:Bj s t a=([⟨2,a.obj,a.key,0,0⟩],true):=by simp[Bj,hk,hh,hh2]
    simp +contextual (disch:=omega) only[go_sem,hh2]
    obtain⟨u,τ9,R9,K9⟩:=Ds τ7 ⟨2,a.obj,a.key,0,0⟩
    refine by_c H7 R9 K9 fun H9=> ?_
    have nt:=RdN.notup (H9.hp.sl 0 rfl)
    simp +contextual (disch:=omega) only[go_sem,nt]
    exact fun _=>⟨_,rfl,u,by rw[hE],by rw[hE];exact(H9.re [0] (by decide)).hp⟩
   |true=>
    have hE:Bj s t a=([],true):=by simp[Bj,hk,hh,hh2]
    simp +contextual (disch:=omega) only[go_sem,hh2]
    exact fun _=>⟨_,rfl,_,by rw[hE],by rw[hE];exact((H7.re [4] (by decide)).emp Ca.kd rfl).hp⟩
 ·have hE:Bj s t a=Hd (Ig s a.obj a.key) (Ig t a.obj a.key) a:=by unfold Bj;rw[if_neg (by omega),if_neg (by omega),if_neg (by omega),if_pos hk]
  have q1:(a.kind==1)=false:=by simp;omega
  have q2:(a.kind==2)=false:=by simp;omega
  have q3:(a.kind==3)=false:=by simp;omega
  obtain⟨_,τ6,R6,u,rfl,K6⟩:=A7r τ5 [a1,b1,c1,v1] ds s t (A8.pre hR0 H5.sub) (H5.hp.rd 1 rfl) _ a (kAct.pre hS0 H5.sub) (by omega) (by omega)
  have nt:=RdN.notup (K6.sl 0 rfl)
  rcases hk with hk|hk
  ·have q4:(a.kind==4)=true:=by simp[hk]
   simp +contextual (disch:=omega) only[go_sem,b,q1,q2,q3,q4,A6 gl,A6 gd]
   refine by_c H5 R6 K6 fun H6=> ?_
   simp +contextual (disch:=omega) only[go_sem,As nt,nt]
   exact fun _=>⟨_,rfl,u,by rw[hE],by rw[hE];exact(H6.re [0] (by decide)).hp⟩
  ·have q4:(a.kind==4)=false:=by simp[hk]
   have q5:(a.kind==5)=true:=by simp[hk]
   simp +contextual (disch:=omega) only[go_sem,b,q1,q2,q3,q4,q5,A6 gl,A6 gd]
   refine by_c H5 R6 K6 fun H6=> ?_
   simp +contextual (disch:=omega) only[go_sem,As nt,nt]
   exact fun _=>⟨_,rfl,u,by rw[hE],by rw[hE];exact(H6.re [0] (by decide)).hp⟩
 ·skip
  have q1:(a.kind==1)=false:=by simp[hk]
  have q2:(a.kind==2)=false:=by simp[hk]
  have q3:(a.kind==3)=false:=by simp[hk]
  have q4:(a.kind==4)=false:=by simp[hk]
  have q5:(a.kind==5)=false:=by simp[hk]
  have q6:(a.kind==6)=true:=by simp[hk]
  have q7:(a.kind==7)=false:=by simp[hk]
  have hE:Bj s t a=([⟨7,a.obj,noS,0,plN a.dot (rowC t a.obj) 0⟩],true):=by simp[Bj,hk]
  have hrl:=Li (Kp g2) a.obj
  simp +contextual (disch:=omega) only[go_sem,b,q1,q2,q3,q4,q5,q6,q7,A6 gd]
  obtain⟨r6,τ6,R6,K6⟩:=Pr τ5 ds t (H5.hp.rd 1 rfl) a.obj g2 (by omega)
  refine by_c H5 R6 K6 fun H6=> ?_
  try simp +contextual (disch:=omega) only[go_sem]
  refine by_r H6 (Lx τ6 r6 _ (H6.hp.sl 0 rfl) a.dot (by omega)) ?_
  try simp +contextual (disch:=omega) only[go_sem]
  obtain⟨u,τ9,R9,K9⟩:=Ds τ6 ⟨7,a.obj,noS,0,plN a.dot (rowC t a.obj) 0⟩
  refine by_c H6 R9 K9 fun H9=> ?_
  have nt:=RdN.notup (H9.hp.sl 0 rfl)
  simp +contextual (disch:=omega) only[go_sem,nt]
  exact fun _=>⟨_,rfl,u,by rw[hE],by rw[hE];exact(H9.re [0] (by decide)).hp⟩
 ·skip
  have q1:(a.kind==1)=false:=by simp[hk]
  have q2:(a.kind==2)=false:=by simp[hk]
  have q3:(a.kind==3)=false:=by simp[hk]
  have q4:(a.kind==4)=false:=by simp[hk]
  have q5:(a.kind==5)=false:=by simp[hk]
  have q6:(a.kind==6)=false:=by simp[hk]
  have q7:(a.kind==7)=true:=by simp[hk]
  have hrl:=Li (Kp g1) a.obj
  obtain⟨k,hkl,hix,hob⟩:=Ac3 g4 hk
  have hcut:=A9l g1 hix hkl hob
  have hcn:Bt s.cells a.ref=(k:Int):=by simp[Bt,hix]
  have hcv:A9m s a.ref=s.cells[k].val:=by simp[A9m,hix,hkl]
  have L:=A4 hc hkl
  simp +contextual (disch:=omega) only[go_sem,b,q1,q2,q3,q4,q5,q6,q7,A6 gl]
  obtain⟨r6,τ6,R6,K6⟩:=Pr τ5 _ s (A8.pre hR0 H5.sub) a.obj g1 (by omega)
  refine by_c H5 R6 K6 fun H6=> ?_
  try simp +contextual (disch:=omega) only[go_sem]
  refine by_r H6 (Lx τ6 r6 _ (H6.hp.sl 0 rfl) a.ref (by omega)) ?_
  by_cases hp:0≤plN a.ref (rowC s a.obj) 0
  ·have bp:decide (0≤plN a.ref (rowC s a.obj) 0)=true:=decide_eq_true hp
   have hE:Bj s t a=([⟨6,a.obj,noS,s.cells[k].val,plN a.ref (rowC s a.obj) 0⟩],true):=by simp[Bj,hk,hp,hcv]
   simp +contextual (disch:=omega) only[go_sem,bp,A6 gl]
   refine by_r H6 (Ko τ6 _ s (A8.pre hR0 H6.sub) a.ref (by omega)) ?_
   simp +contextual (disch:=omega) only[go_sem,hcn,A2,L]
   obtain⟨u,τ9,R9,K9⟩:=Ds τ6 ⟨6,a.obj,noS,s.cells[k].val,plN a.ref (rowC s a.obj) 0⟩
   refine by_c H6 R9 K9 fun H9=> ?_
   have nt:=RdN.notup (H9.hp.sl 0 rfl)
   simp +contextual (disch:=omega) only[go_sem,nt]
   exact fun _=>⟨_,rfl,u,by rw[hE],by rw[hE];exact(H9.re [0] (by decide)).hp⟩
  ·have bp:decide (0≤plN a.ref (rowC s a.obj) 0)=false:=decide_eq_false hp
   have hE:Bj s t a=([],true):=by simp[Bj,hk,hp]
   simp +contextual (disch:=omega) only[go_sem,bp]
   exact fun _=>⟨_,rfl,_,by rw[hE],by rw[hE];exact((H6.re [3] (by decide)).emp Ca.kd rfl).hp⟩
end
section
open Go Go.RowKit
abbrev Jf:Nat:=32
def No:Fn1:=⟨169,[.t 4,.t 5],(.seq (.reg [o 2 (.box (.t 0)),o 3 (.box (.t 1)),o 4 (.mov (.k .nilS)),o 5 (.mov (.k (.bool false)))]) (.seq (.reg [o 15 (.ld true 4 (.t 2)),o 16 (.ld true 10 (.t 3)),o 17 (.call 152 [(.t 15),(.t 16)]),o 14 (.mov (.t 17)),o 18 (.ext 0 (.t 14)),o 19 (.ext 1 (.t 14)),o 6 (.new [.nilS,.nilS,.nilS,.nilS]),on (.st 4 (.t 6) (.t 18)),o 7 (.mov (.t 19))]) (.seq (.reg [o 20 (.ld true 4 (.t 2)),o 21 (.fad 5 (.t 3)),o 22 (.ld false 1 (.t 21)),o 23 (.fad 6 (.t 3)),o 24 (.ld false 1 (.t 23)),o 25 (.call 153 [(.t 20),(.t 22),(.t 24)]),o 8 (.mov (.t 25))]) (.seq (.reg [o 26 (.fad 4 (.t 3)),o 27 (.ld false 1 (.t 26)),o 28 (.bin .eql (.t 27) (.k (.int .i64 4))),o 29 (.mov (.t 28)),og 30 29 false (.fad 4 (.t 3)),og 31 29 false (.ld false 1 (.t 30)),og 32 29 false (.bin .eql (.t 31) (.k (.int .i64 5))),o 33 (.pick (.t 29) (.k (.bool true)) (.t 32)),o 9 (.mov (.t 33))]) (.seq (.seq (.reg [o 34 (.mov (.t 7)),o 35 (.bin .neq (.t 34) (.k (.int .i64 0))),o 36 (.mov (.t 35)),og 37 36 false (.mov (.t 9)),og 38 36 false (.mov (.t 37)),og 39 38 true (.mov (.t 8)),og 40 38 true (.len false (.t 39)),og 41 38 true (.bin .gtr (.t 40) (.k (.int .i64 1))),og 42 36 false (.pick (.t 38) (.t 41) (.k (.bool false))),o 43 (.pick (.t 36) (.k (.bool true)) (.t 42))]) (.cnd (.t 43) (.seq (.reg [o 4 (.mov (.k .nilS)),o 5 (.mov (.k (.bool false)))]) .ret) .skip)) (.seq (.drw [o 44 (.ld true 4 (.t 2)),o 45 (.fad 5 (.t 3)),o 46 (.ld false 1 (.t 45)),o 47 (.call 155 [(.t 44),(.t 46)]),o 48 (.fad 6 (.t 3)),o 49 (.ld false 1 (.t 48))] [o 50 (.call 154 [(.t 47),(.t 49)]),o 10 (.mov (.t 50))]) (.seq (.drw [o 51 (.ld true 4 (.t 6)),o 52 (.fad 5 (.t 3)),o 53 (.ld false 1 (.t 52)),o 54 (.call 155 [(.t 51),(.t 53)]),o 55 (.fad 6 (.t 3)),o 56 (.ld false 1 (.t 55))] [o 57 (.call 154 [(.t 54),(.t 56)]),o 11 (.mov (.t 57))]) (.seq (.reg [o 58 (.fad 5 (.t 3)),o 59 (.ld false 1 (.t 58)),o 60 (.fad 6 (.t 3)),o 61 (.ld false 1 (.t 60)),o 62 (.build [(.int .i64 0),(.str ⟨#[]⟩),(.str ⟨#[]⟩),(.int .i64 0),(.int .i64 0)] [(1,1,(.t 59)),(2,1,(.t 61))]),o 12 (.new [(.int .i64 0),(.str ⟨#[]⟩),(.str ⟨#[]⟩),(.int .i64 0),(.int .i64 0)]),on (.st 5 (.t 12) (.t 62))]) (.seq (.blk 0 (.seq (.reg [o 64 (.fad 4 (.t 3)),o 65 (.ld false 1 (.t 64)),o 66 (.bin .eql (.t 65) (.k (.int .i64 1))),o 67 (.mov (.t 66)),og 68 67 true (.fad 7 (.t 3)),og 69 67 true (.ld false 1 (.t 68)),og 70 67 true (.bin .gtr (.t 69) (.k (.int .i64 0))),o 71 (.pick (.t 67) (.t 70) (.k (.bool false))),o 63 (.mov (.t 71))]) (.cnd (.t 63) (.drw [] [o 72 (.fad 7 (.t 3)),o 73 (.ld false 1 (.t 72)),o 74 (.bin .sub (.k (.int .i64 1000000)) (.t 73)),o 75 (.fad 0 (.t 12)),on (.st 1 (.t 75) (.k (.int .i64 1))),on (.chk 73 (.ld false 1 (.t 72))),o 76 (.fad 3 (.t 12)),on (.st 1 (.t 76) (.t 74))]) (.seq (.reg [o 78 (.fad 4 (.t 3)),o 79 (.ld false 1 (.t 78)),o 80 (.bin .eql (.t 79) (.k (.int .i64 2))),o 81 (.mov (.t 80)),og 82 81 true (.mov (.t 10)),og 83 81 true (.un .not (.t 82)),o 84 (.pick (.t 81) (.t 83) (.k (.bool false))),o 77 (.mov (.t 84))]) (.cnd (.t 77) (.reg [o 85 (.fad 0 (.t 12)),on (.st 1 (.t 85) (.k (.int .i64 3)))]) (.seq (.reg [o 87 (.fad 4 (.t 3)),o 88 (.ld false 1 (.t 87)),o 89 (.bin .eql (.t 88) (.k (.int .i64 3))),o 90 (.mov (.t 89)),og 91 90 true (.mov (.t 10)),o 92 (.pick (.t 90) (.t 91) (.k (.bool false))),o 93 (.mov (.t 92)),og 94 93 true (.mov (.t 11)),og 95 93 true (.un .not (.t 94)),o 96 (.pick (.t 93) (.t 95) (.k (.bool false))),o 86 (.mov (.t 96))]) (.cnd (.t 86) (.reg [o 97 (.fad 0 (.t 12)),on (.st 1 (.t 97) (.k (.int .i64 2)))]) (.seq (.reg [o 99 (.mov (.t 9)),o 100 (.mov (.t 99)),og 101 100 true (.mov (.t 8)),og 102 100 true (.ld true 4 (.t 6)),og 103 100 true (.fad 5 (.t 3)),og 104 100 true (.ld false 1 (.t 103)),og 105 100 true (.fad 6 (.t 3)),og 106 100 true (.ld false 1 (.t 105)),og 107 100 true (.call 153 [(.t 102),(.t 104),(.t 106)]),og 108 100 true (.call 156 [(.t 101),(.t 107)]),og 109 100 true (.un .not (.t 108)),o 110 (.pick (.t 100) (.t 109) (.k (.bool false))),o 98 (.mov (.t 110))]) (.cnd (.t 98) (.seq (.reg [o 111 (.fad 0 (.t 12)),on (.st 1 (.t 111) (.k (.int .i64 5)))]) (.seq (.reg [o 112 (.mov (.t 8)),o 113 (.len false (.t 112)),o 114 (.bin .eql (.t 113) (.k (.int .i64 1)))]) (.cnd (.t 114) (.drw [] [o 115 (.mov (.t 8)),o 116 (.iad 1 (.t 115) (.k (.int .i64 0))),o 117 (.ld false 1 (.t 116)),o 118 (.fad 0 (.t 12)),on (.st 1 (.t 118) (.k (.int .i64 4))),on (.chk 117 (.ld false 1 (.t 116))),o 119 (.fad 3 (.t 12)),on (.st 1 (.t 119) (.t 117))]) .skip))) (.seq (.reg [o 121 (.fad 4 (.t 3)),o 122 (.ld false 1 (.t 121)),o 123 (.bin .eql (.t 122) (.k (.int .i64 6))),o 120 (.mov (.t 123))]) (.cnd (.t 120) (.reg [o 124 (.ld true 4 (.t 6)),o 125 (.fad 5 (.t 3)),o 126 (.ld false 1 (.t 125)),o 127 (.fad 0 (.t 3)),o 128 (.ld true 2 (.t 127)),o 129 (.call 157 [(.t 124),(.t 126),(.t 128)]),o 130 (.fad 0 (.t 12)),on (.st 1 (.t 130) (.k (.int .i64 7))),o 131 (.fad 4 (.t 12)),on (.st 1 (.t 131) (.t 129))]) (.seq (.drw [o 133 (.fad 4 (.t 3)),o 134 (.ld false 1 (.t 133)),o 135 (.bin .eql (.t 134) (.k (.int .i64 7))),o 136 (.mov (.t 135)),og 137 136 true (.fad 3 (.t 2)),og 138 136 true (.ld false 1 (.t 137)),og 139 136 true (.ld true 4 (.t 2)),og 140 136 true (.fad 8 (.t 3)),og 141 136 true (.ld true 2 (.t 140)),og 142 136 true (.call 158 [(.t 139),(.t 141)])] [og 143 136 true (.iad 8 (.t 138) (.t 142)),og 144 136 true (.fad 7 (.t 143)),og 145 136 true (.ld false 1 (.t 144)),og 146 136 true (.un .not (.t 145)),o 147 (.pick (.t 136) (.t 146) (.k (.bool false))),o 132 (.mov (.t 147))]) (.cnd (.t 132) (.seq (.drw [o 148 (.fad 3 (.t 2)),o 149 (.ld false 1 (.t 148)),o 150 (.ld true 4 (.t 2)),o 151 (.fad 8 (.t 3)),o 152 (.ld true 2 (.t 151)),o 153 (.call 158 [(.t 150),(.t 152)]),o 154 (.iad 8 (.t 149) (.t 153)),o 155 (.ld true 8 (.t 154)),o 13 (.new [(.str ⟨#[]⟩),(.int .i64 0),(.int .i64 0),(.int .i64 0),(.int .i64 0),(.int .i64 0),(.int .i64 0),(.bool false)])] [on (.st 8 (.t 13) (.t 155))]) (.drw [] [o 156 (.fad 6 (.t 13)),o 157 (.ld false 1 (.t 156)),o 158 (.ld true 4 (.t 2)),o 159 (.fad 5 (.t 3)),o 160 (.ld false 1 (.t 159)),o 161 (.fad 8 (.t 3)),o 162 (.ld true 2 (.t 161)),o 163 (.call 157 [(.t 158),(.t 160),(.t 162)]),on (.chk 157 (.ld false 1 (.t 156))),o 164 (.fad 0 (.t 12)),on (.st 1 (.t 164) (.k (.int .i64 6))),on (.chk 157 (.ld false 1 (.t 156))),o 165 (.fad 3 (.t 12)),on (.st 1 (.t 165) (.t 157)),o 166 (.fad 4 (.t 12)),on (.st 1 (.t 166) (.t 163))])) (.seq (.reg [o 4 (.mov (.k .nilS)),o 5 (.mov (.k (.bool true)))]) .ret)))))))))))))) (.seq (.reg [o 167 (.ld true 5 (.t 12)),o 168 (.lit 5 1 [(.int .i64 0),(.str ⟨#[]⟩),(.str ⟨#[]⟩),(.int .i64 0),(.int .i64 0)] [(0,5,(.t 167))]),o 4 (.mov (.t 168)),o 5 (.mov (.k (.bool true)))]) .ret))))))))))⟩
theorem Vi:A5 Tryz.prog Jf=some No:=by kernel_rfl
theorem Aed {σ τ:St} {cs:List GV} (h:zSt σ cs) (hp:σ <+: τ):zSt τ cs:=by
 obtain⟨a,b,c,v,e,h1,h2,h3⟩:=h
 exact⟨a,b,c,v,e,Ed h1 hp,Ed h2 hp,Ed h3 hp⟩
set_option maxHeartbeats 4000000 in
theorem Zi (σ:St) (cs:List GV) (s:State) (hR:A8.R σ s cs) (as':List GV) (a:Act) (hS:kAct.R σ a as') (hl:Ac s≤1048576) (hm:E9 a≤1048576) (hz:zSt σ cs):∃ q τ,Ret Tryz.prog Jf [.agg cs,.agg as'] σ q τ∧∃ w,q= .tup [w,.bool (Im s a).2]∧Hp σ τ [ow Ca.kd w (Im s a).1]:=by
 have gl:cs.length=4:=A8.len hR
 have hR0:=hR
 have hS0:=hS
 obtain⟨a1,b1,c1,v1,rfl,_,_,_,hc⟩:=hR
 obtain⟨kv,rfl,hkv⟩:=hS
 refine Ab6 Vi (Z0z rfl) (Hx.refl σ) ?_
 simp +contextual (disch:=omega) only[go_sem,No]
 intro n1 f1 τ1 _ n2 f2 τ2 H
 try simp +contextual (disch:=omega) only[go_sem]
 obtain⟨ds,τ4,R4,K4⟩:=A4v τ2 _ s (A8.pre hR0 H.sub) (Aed hz H.sub) _ a (kAct.pre hS0 H.sub) (by omega) (by omega)
 have gd:ds.length=4:=A8.len (K4.rd 0 rfl)
 refine by_c H R4 K4 fun H4=> ?_
 simp +contextual (disch:=omega) only[go_sem,Bg (cs:=[GV.nilS,GV.nilS,GV.nilS,GV.nilS]) gd rfl,gd]
 intro n5 f5 τ50 _ τ5 H5
 try simp +contextual (disch:=omega) only[go_sem,A6 gl]
 have hml:=A69 s a.obj a.key
 obtain⟨was,hwas⟩:∃ l,l=Ig s a.obj a.key:=⟨_,rfl⟩
 obtain⟨r8,τ6,R6,K6⟩:=Mh τ5 _ s (A8.pre hR0 H5.sub) a.obj a.key (by omega)
 rw[← hwas] at K6 hml
 refine by_c H5 R6 K6 fun H6=> ?_
 have ln:lenG false r8=some (was.length:Int):=(H6.hp.sl 0 rfl).len
 by_cases h0:(Be s a).2=0
 rotate_left
 ·have b:((Be s a).2 != 0)=true:=by simp[h0]
  have hE:Im s a=([],false):=by unfold Im;rw[if_pos h0]
  by_cases hk:a.kind=4
  ·have q4:(a.kind==4)=true:=by simp[hk]
   simp +contextual (disch:=omega) only[go_sem,b,q4,ln]
   exact fun _=>⟨_,rfl,_,by rw[hE],by rw[hE];exact((H6.re [] (by decide)).nil Ca.kd).hp⟩
  ·have q4:(a.kind==4)=false:=by simp[hk]
   simp +contextual (disch:=omega) only[go_sem,b,q4,ln]
   exact fun _=>⟨_,rfl,_,by rw[hE],by rw[hE];exact((H6.re [] (by decide)).nil Ca.kd).hp⟩
 have b:((Be s a).2 != 0)=false:=by simp[h0]
 obtain⟨g1,g2,g3,g4⟩:=A68 h0
 obtain⟨t,ht⟩:∃ t,t=(Be s a).1:=⟨_,rfl⟩
 have hE0:Im s a=Bj s t a:=by unfold Im;rw[if_neg (by simp[h0]),ht]
 rw[hE0]
 rw[← ht] at g2 H6
 have hlt:=(Z9.1 g2).ms
 have hkk:=A9o g3
 have hvv:=Ac2 g3
 have hks:=Nj s false a.obj
 have hkt:=Nj t false a.obj
 have hk:a.kind=1∨a.kind=2∨a.kind=3∨(a.kind=4∨a.kind=5)∨a.kind=6∨a.kind=7:=by omega
 rcases hk with hk|hk|hk|hk|hk|hk
 ·skip
  have q1:(a.kind==1)=true:=by simp[hk]
  have q2:(a.kind==2)=false:=by simp[hk]
  have q3:(a.kind==3)=false:=by simp[hk]
  have q4:(a.kind==4)=false:=by simp[hk]
  have q5:(a.kind==5)=false:=by simp[hk]
  have q6:(a.kind==6)=false:=by simp[hk]
  have q7:(a.kind==7)=false:=by simp[hk]
  have hkey:a.key=noS:=A9n g3 (by omega)
  simp +contextual (disch:=omega) only[go_sem,b,q1,q2,q3,q4,q5,q6,q7,ln,A6 gl]
  obtain⟨r9,τ7,R7,K7⟩:=Bk τ6 _ s (A8.pre hR0 H6.sub) a.obj (by omega)
  refine by_c H6 R7 K7 fun H7=> ?_
  try simp +contextual (disch:=omega) only[go_sem]
  refine by_r H7 (Ae τ7 r9 _ (H7.hp.sl 0 rfl) a.key (by omega)) ?_
  simp +contextual (disch:=omega) only[go_sem,A6 gd]
  obtain⟨r10,τ8,R8,K8⟩:=Bk τ7 ds t (H7.hp.rd 3 rfl) a.obj (by omega)
  refine by_c H7 R8 K8 fun H8=> ?_
  try simp +contextual (disch:=omega) only[go_sem]
  refine by_r H8 (Ae τ8 r10 _ (H8.hp.sl 0 rfl) a.key (by omega)) ?_
  by_cases hv:0<a.val
  ·have bv:decide (0<a.val)=true:=decide_eq_true hv
   have hE:Bj s t a=([⟨1,a.obj,a.key,1000000 - a.val,0⟩],true):=by simp[Bj,hk,hv,hkey]
   simp +contextual (disch:=omega) only[go_sem,q1,q2,q3,q4,q5,q6,q7,bv]
   intro n12 f12 τ120 _ τ12 _ τ130 _ τ131 _ n15 f15 τ15 H15
   exact⟨_,rfl,_,by rw[hE],by rw[hE];exact(Hp.toRow (p:=Ca) H15.hp 0 rfl [⟨1,a.obj,a.key,1000000 - a.val,0⟩] rfl rfl _ rfl).one⟩
  ·have bv:decide (0<a.val)=false:=decide_eq_false hv
   have hE:Bj s t a=([],true):=by simp[Bj,hk,hv]
   simp +contextual (disch:=omega) only[go_sem,q1,q2,q3,q4,q5,q6,q7,bv]
   intro n12 f12 τ120 _ τ12 H12
   exact⟨_,rfl,_,by rw[hE],by rw[hE];exact((H12.re [] (by decide)).nil Ca.kd).hp⟩
 ·skip
  have q1:(a.kind==1)=false:=by simp[hk]
  have q2:(a.kind==2)=true:=by simp[hk]
  have q3:(a.kind==3)=false:=by simp[hk]
  have q4:(a.kind==4)=false:=by simp[hk]
  have q5:(a.kind==5)=false:=by simp[hk]
  have q6:(a.kind==6)=false:=by simp[hk]
  have q7:(a.kind==7)=false:=by simp[hk]
  simp +contextual (disch:=omega) only[go_sem,b,q1,q2,q3,q4,q5,q6,q7,ln,A6 gl]
  obtain⟨r9,τ7,R7,K7⟩:=Bk τ6 _ s (A8.pre hR0 H6.sub) a.obj (by omega)
  refine by_c H6 R7 K7 fun H7=> ?_
  try simp +contextual (disch:=omega) only[go_sem]
  refine by_r H7 (Ae τ7 r9 _ (H7.hp.sl 0 rfl) a.key (by omega)) ?_
  simp +contextual (disch:=omega) only[go_sem,A6 gd]
  obtain⟨r10,τ8,R8,K8⟩:=Bk τ7 ds t (H7.hp.rd 3 rfl) a.obj (by omega)
  refine by_c H7 R8 K8 fun H8=> ?_
  try simp +contextual (disch:=omega) only[go_sem]
  refine by_r H8 (Ae τ8 r10 _ (H8.hp.sl 0 rfl) a.key (by omega)) ?_
  cases hh:hasK (Dn s false a.obj) a.key with
  |false=>
   have hE:Bj s t a=([⟨3,a.obj,a.key,0,0⟩],true):=by simp[Bj,hk,hh]
   simp +contextual (disch:=omega) only[go_sem,q1,q2,q3,q4,q5,q6,q7,hh]
   intro n12 f12 τ120 _ τ12 _ τ130 _ n15 f15 τ15 H15
   exact⟨_,rfl,_,by rw[hE],by rw[hE];exact(Hp.toRow (p:=Ca) H15.hp 0 rfl [⟨3,a.obj,a.key,0,0⟩] rfl rfl _ rfl).one⟩
  |true=>
   have hE:Bj s t a=([],true):=by simp[Bj,hk,hh]
   simp +contextual (disch:=omega) only[go_sem,q1,q2,q3,q4,q5,q6,q7,hh]
   intro n12 f12 τ120 _ τ12 H12
   exact⟨_,rfl,_,by rw[hE],by rw[hE];exact((H12.re [] (by decide)).nil Ca.kd).hp⟩
 ·skip
  have q1:(a.kind==1)=false:=by simp[hk]
  have q2:(a.kind==2)=false:=by simp[hk]
  have q3:(a.kind==3)=true:=by simp[hk]
  have q4:(a.kind==4)=false:=by simp[hk]
  have q5:(a.kind==5)=false:=by simp[hk]
  have q6:(a.kind==6)=false:=by simp[hk]
  have q7:(a.kind==7)=false:=by simp[hk]
  simp +contextual (disch:=omega) only[go_sem,b,q1,q2,q3,q4,q5,q6,q7,ln,A6 gl]
  obtain⟨r9,τ7,R7,K7⟩:=Bk τ6 _ s (A8.pre hR0 H6.sub) a.obj (by omega)
  refine by_c H6 R7 K7 fun H7=> ?_
  try simp +contextual (disch:=omega) only[go_sem]
  refine by_r H7 (Ae τ7 r9 _ (H7.hp.sl 0 rfl) a.key (by omega)) ?_
  simp +contextual (disch:=omega) only[go_sem,A6 gd]
  obtain⟨r10,τ8,R8,K8⟩:=Bk τ7 ds t (H7.hp.rd 3 rfl) a.obj (by omega)
  refine by_c H7 R8 K8 fun H8=> ?_
  try simp +contextual (disch:=omega) only[go_sem]
  refine by_r H8 (Ae τ8 r10 _ (H8.hp.sl 0 rfl) a.key (by omega)) ?_
  cases hh:hasK (Dn s false a.obj) a.key with
  |false=>
   have hE:Bj s t a=([],true):=by simp[Bj,hk,hh]
   simp +contextual (disch:=omega) only[go_sem,q1,q2,q3,q4,q5,q6,q7,hh]
   intro n12 f12 τ120 _ τ12 H12
   exact⟨_,rfl,_,by rw[hE],by rw[hE];exact((H12.re [] (by decide)).nil Ca.kd).hp⟩
  |true=>
   cases hh2:hasK (Dn t false a.obj) a.key with
   |false=>
    have hE:Bj s t a=([⟨2,a.obj,a.key,0,0⟩],true):=by simp[Bj,hk,hh,hh2]
    simp +contextual (disch:=omega) only[go_sem,q1,q2,q3,q4,q5,q6,q7,hh,hh2]
    intro n12 f12 τ120 _ τ12 _ τ130 _ n15 f15 τ15 H15
    exact⟨_,rfl,_,by rw[hE],by rw[hE];exact(Hp.toRow (p:=Ca) H15.hp 0 rfl [⟨2,a.obj,a.key,0,0⟩] rfl rfl _ rfl).one⟩
   |true=>
    have hE:Bj s t a=([],true):=by simp[Bj,hk,hh,hh2]
    simp +contextual (disch:=omega) only[go_sem,q1,q2,q3,q4,q5,q6,q7,hh,hh2]
    intro n12 f12 τ120 _ τ12 H12
    exact⟨_,rfl,_,by rw[hE],by rw[hE];exact((H12.re [] (by decide)).nil Ca.kd).hp⟩
 ·obtain⟨now,hnow⟩:∃ l,l=Ig t a.obj a.key:=⟨_,rfl⟩
  have hE0:Bj s t a=Hd was now a:=by unfold Bj;rw[if_neg (by omega),if_neg (by omega),if_neg (by omega),if_pos hk,hwas,hnow]
  have hq:∃ x4 x5,(a.kind==4)=x4∧(a.kind==5)=x5∧(x4=true∨x4=false∧x5=true):=by
   rcases hk with hk|hk
   ·exact⟨_,_,rfl,rfl,.inl (by simp[hk])⟩
   ·exact⟨_,_,rfl,rfl,.inr ⟨by simp[hk],by simp[hk]⟩⟩
  obtain⟨x4,x5,q4,q5,hx⟩:=hq
  have q1:(a.kind==1)=false:=by simp;omega
  have q2:(a.kind==2)=false:=by simp;omega
  have q3:(a.kind==3)=false:=by simp;omega
  have q6:(a.kind==6)=false:=by simp;omega
  have q7:(a.kind==7)=false:=by simp;omega
  rcases hx with rfl|⟨rfl,rfl⟩
  ·skip
   by_cases h1:1<was.length
   ·have b1:decide (1<(was.length:Int))=true:=by simp;omega
    have hE:Bj s t a=([],false):=by rw[hE0];simp[Hd,h1]
    simp +contextual (disch:=omega) only[go_sem,b,q4,q5,ln,b1]
    exact fun _=>⟨_,rfl,_,by rw[hE],by rw[hE];exact((H6.re [] (by decide)).nil Ca.kd).hp⟩
   have b1:decide (1<(was.length:Int))=false:=by simp;omega
   simp +contextual (disch:=omega) only[go_sem,b,q4,q5,ln,b1,A6 gl]
   obtain⟨r9,τ7,R7,K7⟩:=Bk τ6 _ s (A8.pre hR0 H6.sub) a.obj (by omega)
   refine by_c H6 R7 K7 fun H7=> ?_
   try simp +contextual (disch:=omega) only[go_sem]
   refine by_r H7 (Ae τ7 r9 _ (H7.hp.sl 0 rfl) a.key (by omega)) ?_
   simp +contextual (disch:=omega) only[go_sem,A6 gd]
   obtain⟨r10,τ8,R8,K8⟩:=Bk τ7 ds t (H7.hp.rd 3 rfl) a.obj (by omega)
   refine by_c H7 R8 K8 fun H8=> ?_
   try simp +contextual (disch:=omega) only[go_sem]
   refine by_r H8 (Ae τ8 r10 _ (H8.hp.sl 0 rfl) a.key (by omega)) ?_
   simp +contextual (disch:=omega) only[go_sem,q1,q2,q3,q4,q5,q6,q7,A6 gd]
   intro n12 f12 τ120 _ τ12 H12
   try simp +contextual (disch:=omega) only[go_sem,A6 gd]
   obtain⟨r11,τ13,R13,K13⟩:=Mh τ12 ds t (H12.hp.rd 5 rfl) a.obj a.key (by omega)
   rw[← hnow] at K13
   refine by_c H12 R13 K13 fun H13=> ?_
   try simp +contextual (disch:=omega) only[go_sem]
   refine by_r H13 (Ga τ13 r8 r11 was now (H13.hp.sl 4 rfl) (H13.hp.sl 0 rfl) (by omega)) ?_
   by_cases h2:was=now
   ·have b2:decide (was=now)=true:=decide_eq_true h2
    have hE:Bj s t a=([],true):=by rw[hE0];unfold Hd;rw[if_neg h1,if_pos h2]
    simp +contextual (disch:=omega) only[go_sem,b2,q6,q7]
    exact fun _=>⟨_,rfl,_,by rw[hE],by rw[hE];exact((H13.re [] (by decide)).nil Ca.kd).hp⟩
   have b2:decide (was=now)=false:=decide_eq_false h2
   cases was with
   |nil=>
    have hE:Bj s t a=([⟨5,a.obj,a.key,0,0⟩],true):=by rw[hE0];unfold Hd;rw[if_neg h1,if_neg h2]
    have ln:lenG false r8=some 0:=ln
    have b3:((0:Int)==1)=false:=rfl
    simp +contextual (disch:=omega) only[go_sem,b2,ln,b3]
    intro τ14 _ n15 f15 τ15 H15
    exact⟨_,rfl,_,by rw[hE],by rw[hE];exact(Hp.toRow (p:=Ca) H15.hp 0 rfl [⟨5,a.obj,a.key,0,0⟩] rfl rfl _ rfl).one⟩
   |cons x was=>
    obtain rfl:was=[]:=by
     cases was with
     |nil=>rfl
     |cons y l=>exact absurd (show 1<(x::y::l).length by simp) h1
    have hE:Bj s t a=([⟨4,a.obj,a.key,x,0⟩],true):=by rw[hE0];unfold Hd;rw[if_neg h1,if_neg h2]
    have ln:lenG false r8=some 1:=ln
    have b3:((1:Int)==1)=true:=rfl
    have nz0:Ax (some (.int .i64 0))=some 0:=rfl
    simp +contextual (disch:=omega) only[go_sem,b2,ln,b3]
    intro τ14 H14
    have L:=Tz H14 4 rfl (j:=0) (by simp)
    simp +contextual (disch:=omega) only[go_sem,b2,ln,b3,L,nz0,List.getElem_cons_zero]
    intro τ16 H16
    have L2:=Tz H16 4 rfl (j:=0) (by simp)
    refine⟨L2.2,?_⟩
    intro τ17 _ n15 f15 τ15 H15
    exact⟨_,rfl,_,by rw[hE],by rw[hE];exact(Hp.toRow (p:=Ca) H15.hp 0 rfl [⟨4,a.obj,a.key,x,0⟩] rfl rfl _ rfl).one⟩
  ·skip
   by_cases h1:1<was.length
   ·have b1:decide (1<(was.length:Int))=true:=by simp;omega
    have hE:Bj s t a=([],false):=by rw[hE0];simp[Hd,h1]
    simp +contextual (disch:=omega) only[go_sem,b,q4,q5,ln,b1]
    exact fun _=>⟨_,rfl,_,by rw[hE],by rw[hE];exact((H6.re [] (by decide)).nil Ca.kd).hp⟩
   have b1:decide (1<(was.length:Int))=false:=by simp;omega
   simp +contextual (disch:=omega) only[go_sem,b,q4,q5,ln,b1,A6 gl]
   obtain⟨r9,τ7,R7,K7⟩:=Bk τ6 _ s (A8.pre hR0 H6.sub) a.obj (by omega)
   refine by_c H6 R7 K7 fun H7=> ?_
   try simp +contextual (disch:=omega) only[go_sem]
   refine by_r H7 (Ae τ7 r9 _ (H7.hp.sl 0 rfl) a.key (by omega)) ?_
   simp +contextual (disch:=omega) only[go_sem,A6 gd]
   obtain⟨r10,τ8,R8,K8⟩:=Bk τ7 ds t (H7.hp.rd 3 rfl) a.obj (by omega)
   refine by_c H7 R8 K8 fun H8=> ?_
   try simp +contextual (disch:=omega) only[go_sem]
   refine by_r H8 (Ae τ8 r10 _ (H8.hp.sl 0 rfl) a.key (by omega)) ?_
   simp +contextual (disch:=omega) only[go_sem,q1,q2,q3,q4,q5,q6,q7,A6 gd]
   intro n12 f12 τ120 _ τ12 H12
   try simp +contextual (disch:=omega) only[go_sem,A6 gd]
   obtain⟨r11,τ13,R13,K13⟩:=Mh τ12 ds t (H12.hp.rd 5 rfl) a.obj a.key (by omega)
   rw[← hnow] at K13
   refine by_c H12 R13 K13 fun H13=> ?_
   try simp +contextual (disch:=omega) only[go_sem]
   refine by_r H13 (Ga τ13 r8 r11 was now (H13.hp.sl 4 rfl) (H13.hp.sl 0 rfl) (by omega)) ?_
   by_cases h2:was=now
   ·have b2:decide (was=now)=true:=decide_eq_true h2
    have hE:Bj s t a=([],true):=by rw[hE0];unfold Hd;rw[if_neg h1,if_pos h2]
    simp +contextual (disch:=omega) only[go_sem,b2,q6,q7]
    exact fun _=>⟨_,rfl,_,by rw[hE],by rw[hE];exact((H13.re [] (by decide)).nil Ca.kd).hp⟩
   have b2:decide (was=now)=false:=decide_eq_false h2
   cases was with
   |nil=>
    have hE:Bj s t a=([⟨5,a.obj,a.key,0,0⟩],true):=by rw[hE0];unfold Hd;rw[if_neg h1,if_neg h2]
    have ln:lenG false r8=some 0:=ln
    have b3:((0:Int)==1)=false:=rfl
    simp +contextual (disch:=omega) only[go_sem,b2,ln,b3]
    intro τ14 _ n15 f15 τ15 H15
    exact⟨_,rfl,_,by rw[hE],by rw[hE];exact(Hp.toRow (p:=Ca) H15.hp 0 rfl [⟨5,a.obj,a.key,0,0⟩] rfl rfl _ rfl).one⟩
   |cons x was=>
    obtain rfl:was=[]:=by
     cases was with
     |nil=>rfl
     |cons y l=>exact absurd (show 1<(x::y::l).length by simp) h1
    have hE:Bj s t a=([⟨4,a.obj,a.key,x,0⟩],true):=by rw[hE0];unfold Hd;rw[if_neg h1,if_neg h2]
    have ln:lenG false r8=some 1:=ln
    have b3:((1:Int)==1)=true:=rfl
    have nz0:Ax (some (.int .i64 0))=some 0:=rfl
    simp +contextual (disch:=omega) only[go_sem,b2,ln,b3]
    intro τ14 H14
    have L:=Tz H14 4 rfl (j:=0) (by simp)
    simp +contextual (disch:=omega) only[go_sem,b2,ln,b3,L,nz0,List.getElem_cons_zero]
    intro τ16 H16
    have L2:=Tz H16 4 rfl (j:=0) (by simp)
    refine⟨L2.2,?_⟩
    intro τ17 _ n15 f15 τ15 H15
    exact⟨_,rfl,_,by rw[hE],by rw[hE];exact(Hp.toRow (p:=Ca) H15.hp 0 rfl [⟨4,a.obj,a.key,x,0⟩] rfl rfl _ rfl).one⟩
 ·skip
  have q1:(a.kind==1)=false:=by simp[hk]
  have q2:(a.kind==2)=false:=by simp[hk]
  have q3:(a.kind==3)=false:=by simp[hk]
  have q4:(a.kind==4)=false:=by simp[hk]
  have q5:(a.kind==5)=false:=by simp[hk]
  have q6:(a.kind==6)=true:=by simp[hk]
  have q7:(a.kind==7)=false:=by simp[hk]
  have hkey:a.key=noS:=A9n g3 (by omega)
  simp +contextual (disch:=omega) only[go_sem,b,q1,q2,q3,q4,q5,q6,q7,ln,A6 gl]
  obtain⟨r9,τ7,R7,K7⟩:=Bk τ6 _ s (A8.pre hR0 H6.sub) a.obj (by omega)
  refine by_c H6 R7 K7 fun H7=> ?_
  try simp +contextual (disch:=omega) only[go_sem]
  refine by_r H7 (Ae τ7 r9 _ (H7.hp.sl 0 rfl) a.key (by omega)) ?_
  simp +contextual (disch:=omega) only[go_sem,A6 gd]
  obtain⟨r10,τ8,R8,K8⟩:=Bk τ7 ds t (H7.hp.rd 3 rfl) a.obj (by omega)
  refine by_c H7 R8 K8 fun H8=> ?_
  try simp +contextual (disch:=omega) only[go_sem]
  refine by_r H8 (Ae τ8 r10 _ (H8.hp.sl 0 rfl) a.key (by omega)) ?_
  have hE:Bj s t a=([⟨7,a.obj,a.key,0,plN a.dot (rowC t a.obj) 0⟩],true):=by simp[Bj,hk,hkey]
  simp +contextual (disch:=omega) only[go_sem,q1,q2,q3,q4,q5,q6,q7,A6 gd]
  intro n12 f12 τ120 _ τ12 H12
  try simp +contextual (disch:=omega) only[go_sem,A6 gd]
  refine by_r H12 (Nm τ12 ds t (H12.hp.rd 5 rfl) a.obj a.dot g2 (by omega)) ?_
  simp +contextual (disch:=omega) only[go_sem]
  intro τ13 _ τ14 _ n15 f15 τ15 H15
  exact⟨_,rfl,_,by rw[hE],by rw[hE];exact(Hp.toRow (p:=Ca) H15.hp 0 rfl [⟨7,a.obj,a.key,0,plN a.dot (rowC t a.obj) 0⟩] rfl rfl _ rfl).one⟩
 ·skip
  have q1:(a.kind==1)=false:=by simp[hk]
  have q2:(a.kind==2)=false:=by simp[hk]
  have q3:(a.kind==3)=false:=by simp[hk]
  have q4:(a.kind==4)=false:=by simp[hk]
  have q5:(a.kind==5)=false:=by simp[hk]
  have q6:(a.kind==6)=false:=by simp[hk]
  have q7:(a.kind==7)=true:=by simp[hk]
  have hkey:a.key=noS:=A9n g3 (by omega)
  simp +contextual (disch:=omega) only[go_sem,b,q1,q2,q3,q4,q5,q6,q7,ln,A6 gl]
  obtain⟨r9,τ7,R7,K7⟩:=Bk τ6 _ s (A8.pre hR0 H6.sub) a.obj (by omega)
  refine by_c H6 R7 K7 fun H7=> ?_
  try simp +contextual (disch:=omega) only[go_sem]
  refine by_r H7 (Ae τ7 r9 _ (H7.hp.sl 0 rfl) a.key (by omega)) ?_
  simp +contextual (disch:=omega) only[go_sem,A6 gd]
  obtain⟨r10,τ8,R8,K8⟩:=Bk τ7 ds t (H7.hp.rd 3 rfl) a.obj (by omega)
  refine by_c H7 R8 K8 fun H8=> ?_
  try simp +contextual (disch:=omega) only[go_sem]
  refine by_r H8 (Ae τ8 r10 _ (H8.hp.sl 0 rfl) a.key (by omega)) ?_
  obtain⟨k,hkl,hix,hob⟩:=Ac3 g4 hk
  have hcut:=A9l g1 hix hkl hob
  have hcn:Bt s.cells a.ref=(k:Int):=by simp[Bt,hix]
  have hcv:A9m s a.ref=s.cells[k].val:=by simp[A9m,hix,hkl]
  have L:=A4 hc hkl
  simp +contextual (disch:=omega) only[go_sem,q1,q2,q3,q4,q5,q6,q7,A6 gl]
  intro n12 f12 τ120 _ τ12 H12
  try simp +contextual (disch:=omega) only[go_sem,A6 gl]
  refine by_r H12 (Hu τ12 _ s (A8.pre hR0 H12.sub) a.ref (by omega)) ?_
  cases hg:s.cells[k].gone with
  |false=>
   have hp:=hcut.2 hg
   have hE:Bj s t a=([⟨6,a.obj,a.key,s.cells[k].val,plN a.ref (rowC s a.obj) 0⟩],true):=by simp[Bj,hk,hp,hcv,hkey]
   simp +contextual (disch:=omega) only[go_sem,hcn,A2,L,hg,A6 gl]
   refine by_r H12 (Hu τ12 _ s (A8.pre hR0 H12.sub) a.ref (by omega)) ?_
   simp +contextual (disch:=omega) only[go_sem,hcn,A2,L,hg]
   intro n13 f13 τ130 _ τ13 H13
   try simp +contextual (disch:=omega) only[go_sem,A6 gl]
   refine by_r H13 (Nm τ13 _ s (A8.pre hR0 H13.sub) a.obj a.ref g1 (by omega)) ?_
   simp +contextual (disch:=omega) only[go_sem]
   intro τ14 _ τ16 _ τ17 _ n15 f15 τ15 H15
   exact⟨_,rfl,_,by rw[hE],by rw[hE];exact(Hp.toRow (p:=Ca) H15.hp 0 rfl [⟨6,a.obj,a.key,s.cells[k].val,plN a.ref (rowC s a.obj) 0⟩] rfl rfl _ rfl).one⟩
  |true=>
   have hp:¬ 0≤plN a.ref (rowC s a.obj) 0:=fun h=>by have:=hcut.1 h;rw[hg] at this;cases this
   have hE:Bj s t a=([],true):=by simp[Bj,hk,hp]
   simp +contextual (disch:=omega) only[go_sem,hcn,A2,L,hg]
   exact fun _=>⟨_,rfl,_,by rw[hE],by rw[hE];exact((H12.re [] (by decide)).nil Ca.kd).hp⟩
end
section
open Go Go.RowKit
theorem U0 (σ:St) (cs:List GV) (s:State) (hR:A8.R σ s cs) (as':List GV) (a:Act) (hS:kAct.R σ a as') (hl:Ac s≤1048576) (hm:E9 a≤1048576):∃ w τ,Ret Tryz.prog Je [.agg cs,.agg as'] σ (.tup [w,.bool (Im s a).2]) τ∧Hp σ τ [ow Ca.kd w (Im s a).1]:=by
 obtain⟨_,τ,R,w,rfl,H⟩:=Zh σ cs s hR as' a hS hl hm
 exact⟨w,τ,R,H⟩
theorem L4 (σ:St) (cs:List GV) (s:State) (hR:A8.R σ s cs) (as':List GV) (a:Act) (hS:kAct.R σ a as') (hl:Ac s≤1048576) (hm:E9 a≤1048576) (hz:zSt σ cs):∃ w τ,Ret Tryz.prog Jf [.agg cs,.agg as'] σ (.tup [w,.bool (Im s a).2]) τ∧Hp σ τ [ow Ca.kd w (Im s a).1]:=by
 obtain⟨_,τ,R,w,rfl,H⟩:=Zi σ cs s hR as' a hS hl hm hz
 exact⟨w,τ,R,H⟩
theorem A6c {σ τ:St} {rs:List Thg} (H:Hp σ τ rs) {i:Nat} {cs:List GV} {s:State} (hi:rs[i]? =some (own A8 cs s)):zSt τ cs:=Aeb (i:=i) (Hx.of H) (by rw[List.getElem?_map,hi];rfl)
theorem Iq (s:State) (a:Act):(Im s a).1.length≤1:=by
 unfold Im Bj Hd
 repeat' split
 all_goals simp
theorem Ln (s:State) (a:Act):sumL Vx (Im s a).1≤E9 a:=by
 have h0:noS.size=0:=rfl
 unfold Im Bj Hd
 repeat' split
 all_goals simp only[sumL,List.map_nil,List.map_cons,List.sum_cons,List.sum_nil,List.foldl_cons,List.foldl_nil,List.foldr_cons,List.foldr_nil]
 all_goals unfold E9
 all_goals (try unfold Vx)
 all_goals (try simp only[h0])
 all_goals omega
end
section
open Go Go.RowKit
abbrev A2d:Nat:=160
def A2e:Fn1:=⟨15,[.t 4],(.seq (.reg [o 2 (.box (.t 0)),o 3 (.box (.t 1)),o 4 (.mov (.k (.bool false)))]) (.seq (.seq (.reg [o 5 (.fad 0 (.t 2)),o 6 (.ld false 1 (.t 5)),o 7 (.fad 0 (.t 3)),o 8 (.ld false 1 (.t 7)),o 9 (.bin .neq (.t 6) (.t 8))]) (.cnd (.t 9) (.seq (.reg [o 4 (.mov (.k (.bool false)))]) .ret) .skip)) (.seq (.seq (.reg [o 10 (.fad 1 (.t 2)),o 11 (.ld false 1 (.t 10)),o 12 (.fad 1 (.t 3)),o 13 (.ld false 1 (.t 12)),o 14 (.bin .neq (.t 11) (.t 13))]) (.cnd (.t 14) (.seq (.reg [o 4 (.mov (.k (.bool false)))]) .ret) .skip)) (.seq (.reg [o 4 (.mov (.k (.bool true)))]) .ret))))⟩
theorem A7s:A5 Tryz.prog A2d=some A2e:=by kernel_rfl
theorem Hf (σ:St) (x y:Dot):Ret Tryz.prog A2d [.agg [.int .i64 x.rep,.int .i64 x.seq],.agg [.int .i64 y.rep,.int .i64 y.seq]] σ (.bool (decide (x=y))) σ:=by
 refine Af A7s (Z0z rfl) trivial ?_
 simp +contextual (disch:=omega) only[go_sem,A2e,List.append_nil]
 refine⟨fun hn=> ?_,fun hn=> ?_⟩
 ·simp only[Dot.eq_iff];simp at hn ⊢;simp[hn]
 have q0:x.rep=y.rep:=by simpa using hn
 refine⟨fun hn=> ?_,fun hn=> ?_⟩
 ·simp only[Dot.eq_iff];simp at hn ⊢;simp[hn]
 have q1:x.seq=y.seq:=by simpa using hn
 simp only[Dot.eq_iff,q0,q1,and_self,decide_true]
end
section
open Go Go.RowKit
abbrev Xd:Nat:=129
def Xe:Fn1:=⟨26,[.t 4],(.seq (.reg [o 4 (.mov (.k (.bool false)))]) (.seq (.seq (.reg [o 6 (.mov (.t 0)),o 7 (.len false (.t 6)),o 8 (.mov (.t 1)),o 9 (.len false (.t 8)),o 10 (.bin .neq (.t 7) (.t 9))]) (.cnd (.t 10) (.seq (.reg [o 4 (.mov (.k (.bool false)))]) .ret) .skip)) (.seq (.seq (.reg [o 5 (.mov (.k (.int .i64 0)))]) (.blk 0 (.lop (.seq (.seq (.reg [o 11 (.mov (.t 5)),o 12 (.mov (.t 0)),o 13 (.len false (.t 12)),o 14 (.bin .lss (.t 11) (.t 13))]) (.cnd (.t 14) .skip (.ext 0))) (.seq (.blk 1 (.seq (.drw [o 17 (.mov (.t 0)),o 18 (.mov (.t 5)),o 19 (.iad 1 (.t 17) (.t 18)),o 20 (.ld false 1 (.t 19)),o 21 (.mov (.t 1)),o 22 (.mov (.t 5)),o 23 (.iad 1 (.t 21) (.t 22)),o 24 (.ld false 1 (.t 23))] [o 25 (.bin .neq (.t 20) (.t 24))]) (.cnd (.t 25) (.seq (.reg [o 4 (.mov (.k (.bool false)))]) .ret) .skip))) (.reg [o 15 (.mov (.t 5)),o 16 (.bin .add (.t 15) (.k (.int .i64 1))),o 5 (.mov (.t 16))])))))) (.seq (.reg [o 4 (.mov (.k (.bool true)))]) .ret))))⟩
theorem A53:A5 Tryz.prog Xd=some Xe:=by kernel_rfl
theorem Q4 (σ:St) (v u:GV) (l m:List Int) (hv:RS pI.kd σ v l) (hu:RS pI.kd σ u m) (hl:l.length≤1099511627776):Ret Tryz.prog Xd [v,u] σ (.bool (decide (l=m))) σ:=by
 refine Af A53 (Z0z rfl) trivial ?_
 simp +contextual (disch:=omega) only[go_sem,Xe,hv.len,hu.len]
 refine⟨fun hn=> ?_,fun hn=> ?_⟩
 ·have:l≠m:=fun h=>by subst h;simp at hn
  simp[this]
 have hlm:l.length=m.length:=by
                    have h2:(l.length:Int)=m.length:=by simpa using hn
                    omega
 refine B8 l.length 5 (fun i env τ=>env 0=v∧env 1=u∧l.take i=m.take i∧σ <+: τ) rfl ⟨rfl,rfl,rfl,List.prefix_refl _⟩ ?_ ?_
 ·rintro i env τ hi e5 c0 ⟨e0,e1,he,hp⟩
  have hj:i<m.length:=by omega
  have h1:=hv.pre hp
  have h2:=hu.pre hp
  have hne:l[i]≠m[i]→l≠m:=fun h h'=>h (by subst h';rfl)
  have hst:l[i]=m[i]→l.take (i+1)=m.take (i+1):=fun h=>by rw[Bf hi,Bf hj,he,h]
  simp +contextual (disch:=omega) only[go_sem,c0,e0,e1,e5,hv.len,hu.len,Ef h1 hi,Ef h2 hj,hp]
  refine⟨fun h=> ?_,fun h=> ?_⟩
  ·simp[hne (by simpa using h)]
  ·simpa using hst (by simpa using h)
 ·rintro env τ e5 c0 ⟨e0,e1,he,hp⟩
  rw[List.take_length,hlm,List.take_length] at he
  simp +contextual (disch:=omega) only[go_sem,c0,e0,e1,e5,hv.len,hu.len,hp]
  simp[he]
end
section
open Go Go.RowKit
abbrev A2f:Nat:=35
def A2g:Fn1:=⟨48,[.t 4],(.seq (.reg [o 2 (.box (.t 0)),o 3 (.box (.t 1)),o 4 (.mov (.k (.bool false)))]) (.seq (.seq (.reg [o 5 (.fad 0 (.t 2)),o 6 (.ld true 2 (.t 5)),o 7 (.fad 0 (.t 3)),o 8 (.ld true 2 (.t 7)),o 9 (.call 160 [(.t 6),(.t 8)]),o 10 (.un .not (.t 9))]) (.cnd (.t 10) (.seq (.reg [o 4 (.mov (.k (.bool false)))]) .ret) .skip)) (.seq (.seq (.reg [o 11 (.fad 2 (.t 2)),o 12 (.ld false 1 (.t 11)),o 13 (.fad 2 (.t 3)),o 14 (.ld false 1 (.t 13)),o 15 (.bin .neq (.t 12) (.t 14))]) (.cnd (.t 15) (.seq (.reg [o 4 (.mov (.k (.bool false)))]) .ret) .skip)) (.seq (.seq (.reg [o 16 (.fad 3 (.t 2)),o 17 (.ld false 1 (.t 16)),o 18 (.fad 3 (.t 3)),o 19 (.ld false 1 (.t 18)),o 20 (.call 129 [(.t 17),(.t 19)]),o 21 (.un .not (.t 20))]) (.cnd (.t 21) (.seq (.reg [o 4 (.mov (.k (.bool false)))]) .ret) .skip)) (.seq (.seq (.reg [o 22 (.fad 4 (.t 2)),o 23 (.ld false 1 (.t 22)),o 24 (.fad 4 (.t 3)),o 25 (.ld false 1 (.t 24)),o 26 (.bin .neq (.t 23) (.t 25))]) (.cnd (.t 26) (.seq (.reg [o 4 (.mov (.k (.bool false)))]) .ret) .skip)) (.seq (.seq (.reg [o 27 (.fad 5 (.t 2)),o 28 (.ld false 1 (.t 27)),o 29 (.fad 5 (.t 3)),o 30 (.ld false 1 (.t 29)),o 31 (.bin .neq (.t 28) (.t 30))]) (.cnd (.t 31) (.seq (.reg [o 4 (.mov (.k (.bool false)))]) .ret) .skip)) (.seq (.seq (.reg [o 32 (.fad 6 (.t 2)),o 33 (.ld false 1 (.t 32)),o 34 (.fad 6 (.t 3)),o 35 (.ld false 1 (.t 34)),o 36 (.bin .neq (.t 33) (.t 35))]) (.cnd (.t 36) (.seq (.reg [o 4 (.mov (.k (.bool false)))]) .ret) .skip)) (.seq (.seq (.reg [o 37 (.fad 7 (.t 2)),o 38 (.ld false 1 (.t 37)),o 39 (.fad 7 (.t 3)),o 40 (.ld false 1 (.t 39)),o 41 (.bin .neq (.t 38) (.t 40))]) (.cnd (.t 41) (.seq (.reg [o 4 (.mov (.k (.bool false)))]) .ret) .skip)) (.seq (.seq (.reg [o 42 (.fad 8 (.t 2)),o 43 (.ld true 2 (.t 42)),o 44 (.fad 8 (.t 3)),o 45 (.ld true 2 (.t 44)),o 46 (.call 160 [(.t 43),(.t 45)]),o 47 (.un .not (.t 46))]) (.cnd (.t 47) (.seq (.reg [o 4 (.mov (.k (.bool false)))]) .ret) .skip)) (.seq (.reg [o 4 (.mov (.k (.bool true)))]) .ret))))))))))⟩
theorem A7t:A5 Tryz.prog A2f=some A2g:=by kernel_rfl
theorem A54 (σ:St) (cs ds:List GV) (x y:Act) (hx:kAct.R σ x cs) (hy:kAct.R σ y ds) (hl:E9 x≤1099511627776):Ret Tryz.prog A2f [.agg cs,.agg ds] σ (.bool (decide (x=y))) σ:=by
 obtain⟨v2,rfl,q2_⟩:=hx
 obtain⟨u2,rfl,p2_⟩:=hy
 unfold E9 at hl
 refine Af A7t (Z0z rfl) trivial ?_
 simp +contextual (disch:=omega) only[go_sem,A2g,List.append_nil]
 refine A7 (Hf _ x.dot y.dot) ?_
 simp +contextual (disch:=omega) only[go_sem,List.append_nil]
 refine⟨fun hn=> ?_,fun hn=> ?_⟩
 ·simp only[Act.eq_iff];simp at hn ⊢;simp[hn]
 have q0:x.dot=y.dot:=by simpa using hn
 refine⟨fun hn=> ?_,fun hn=> ?_⟩
 ·simp only[Act.eq_iff];simp at hn ⊢;simp[hn]
 have q1:x.time=y.time:=by simpa using hn
 refine A7 (Q4 _ v2 u2 x.knew y.knew (q2_.pre pre2) (p2_.pre pre2) (by omega)) ?_
 simp +contextual (disch:=omega) only[go_sem,List.append_nil]
 refine⟨fun hn=> ?_,fun hn=> ?_⟩
 ·simp only[Act.eq_iff];simp at hn ⊢;simp[hn]
 have q2:x.knew=y.knew:=by simpa using hn
 refine⟨fun hn=> ?_,fun hn=> ?_⟩
 ·simp only[Act.eq_iff];simp at hn ⊢;simp[hn]
 have q3:x.kind=y.kind:=by simpa using hn
 refine⟨fun hn=> ?_,fun hn=> ?_⟩
 ·simp only[Act.eq_iff];simp at hn ⊢;simp[hn]
 have q4:x.obj=y.obj:=by simpa using hn
 refine⟨fun hn=> ?_,fun hn=> ?_⟩
 ·simp only[Act.eq_iff];simp at hn ⊢;simp[hn]
 have q5:x.key=y.key:=by simpa using hn
 refine⟨fun hn=> ?_,fun hn=> ?_⟩
 ·simp only[Act.eq_iff];simp at hn ⊢;simp[hn]
 have q6:x.val=y.val:=by simpa using hn
 refine A7 (Hf _ x.ref y.ref) ?_
 simp +contextual (disch:=omega) only[go_sem,List.append_nil]
 refine⟨fun hn=> ?_,fun hn=> ?_⟩
 ·simp only[Act.eq_iff];simp at hn ⊢;simp[hn]
 have q7:x.ref=y.ref:=by simpa using hn
 simp only[Act.eq_iff,q0,q1,q2,q3,q4,q5,q6,q7,and_self,decide_true]
end
section
open Go Go.RowKit
abbrev Xf:Nat:=159
def Xg:Fn1:=⟨30,[.t 4],(.seq (.reg [o 2 (.box (.t 0)),o 3 (.box (.t 1)),o 4 (.mov (.k (.bool false)))]) (.seq (.seq (.reg [o 5 (.fad 0 (.t 2)),o 6 (.ld false 1 (.t 5)),o 7 (.fad 0 (.t 3)),o 8 (.ld false 1 (.t 7)),o 9 (.bin .neq (.t 6) (.t 8))]) (.cnd (.t 9) (.seq (.reg [o 4 (.mov (.k (.bool false)))]) .ret) .skip)) (.seq (.seq (.reg [o 10 (.fad 1 (.t 2)),o 11 (.ld false 1 (.t 10)),o 12 (.fad 1 (.t 3)),o 13 (.ld false 1 (.t 12)),o 14 (.bin .neq (.t 11) (.t 13))]) (.cnd (.t 14) (.seq (.reg [o 4 (.mov (.k (.bool false)))]) .ret) .skip)) (.seq (.seq (.reg [o 15 (.fad 2 (.t 2)),o 16 (.ld false 1 (.t 15)),o 17 (.fad 2 (.t 3)),o 18 (.ld false 1 (.t 17)),o 19 (.bin .neq (.t 16) (.t 18))]) (.cnd (.t 19) (.seq (.reg [o 4 (.mov (.k (.bool false)))]) .ret) .skip)) (.seq (.seq (.reg [o 20 (.fad 3 (.t 2)),o 21 (.ld false 1 (.t 20)),o 22 (.fad 3 (.t 3)),o 23 (.ld false 1 (.t 22)),o 24 (.bin .neq (.t 21) (.t 23))]) (.cnd (.t 24) (.seq (.reg [o 4 (.mov (.k (.bool false)))]) .ret) .skip)) (.seq (.seq (.reg [o 25 (.fad 4 (.t 2)),o 26 (.ld false 1 (.t 25)),o 27 (.fad 4 (.t 3)),o 28 (.ld false 1 (.t 27)),o 29 (.bin .neq (.t 26) (.t 28))]) (.cnd (.t 29) (.seq (.reg [o 4 (.mov (.k (.bool false)))]) .ret) .skip)) (.seq (.reg [o 4 (.mov (.k (.bool true)))]) .ret)))))))⟩
theorem A55:A5 Tryz.prog Xf=some Xg:=by kernel_rfl
theorem A2h (σ:St) (x y:Edit):Ret Tryz.prog Xf [.agg [.int .i64 x.kind,.str x.obj,.str x.key,.int .i64 x.val,.int .i64 x.place],.agg [.int .i64 y.kind,.str y.obj,.str y.key,.int .i64 y.val,.int .i64 y.place]] σ (.bool (decide (x=y))) σ:=by
 refine Af A55 (Z0z rfl) trivial ?_
 simp +contextual (disch:=omega) only[go_sem,Xg,List.append_nil]
 refine⟨fun hn=> ?_,fun hn=> ?_⟩
 ·simp only[Edit.eq_iff];simp at hn ⊢;simp[hn]
 have q0:x.kind=y.kind:=by simpa using hn
 refine⟨fun hn=> ?_,fun hn=> ?_⟩
 ·simp only[Edit.eq_iff];simp at hn ⊢;simp[hn]
 have q1:x.obj=y.obj:=by simpa using hn
 refine⟨fun hn=> ?_,fun hn=> ?_⟩
 ·simp only[Edit.eq_iff];simp at hn ⊢;simp[hn]
 have q2:x.key=y.key:=by simpa using hn
 refine⟨fun hn=> ?_,fun hn=> ?_⟩
 ·simp only[Edit.eq_iff];simp at hn ⊢;simp[hn]
 have q3:x.val=y.val:=by simpa using hn
 refine⟨fun hn=> ?_,fun hn=> ?_⟩
 ·simp only[Edit.eq_iff];simp at hn ⊢;simp[hn]
 have q4:x.place=y.place:=by simpa using hn
 simp only[Edit.eq_iff,q0,q1,q2,q3,q4,and_self,decide_true]
end
section
open Go Go.RowKit
abbrev U1:Nat:=33
def U2:Fn1:=⟨27,[.t 4],(.seq (.reg [o 4 (.mov (.k (.bool false)))]) (.seq (.seq (.reg [o 6 (.mov (.t 0)),o 7 (.len false (.t 6)),o 8 (.mov (.t 1)),o 9 (.len false (.t 8)),o 10 (.bin .neq (.t 7) (.t 9))]) (.cnd (.t 10) (.seq (.reg [o 4 (.mov (.k (.bool false)))]) .ret) .skip)) (.seq (.seq (.reg [o 5 (.mov (.k (.int .i64 0)))]) (.blk 0 (.lop (.seq (.seq (.reg [o 11 (.mov (.t 5)),o 12 (.mov (.t 0)),o 13 (.len false (.t 12)),o 14 (.bin .lss (.t 11) (.t 13))]) (.cnd (.t 14) .skip (.ext 0))) (.seq (.blk 1 (.seq (.drw [o 17 (.mov (.t 0)),o 18 (.mov (.t 5)),o 19 (.iad 5 (.t 17) (.t 18)),o 20 (.ld true 5 (.t 19)),o 21 (.mov (.t 1)),o 22 (.mov (.t 5)),o 23 (.iad 5 (.t 21) (.t 22)),o 24 (.ld true 5 (.t 23))] [o 25 (.call 159 [(.t 20),(.t 24)]),o 26 (.un .not (.t 25))]) (.cnd (.t 26) (.seq (.reg [o 4 (.mov (.k (.bool false)))]) .ret) .skip))) (.reg [o 15 (.mov (.t 5)),o 16 (.bin .add (.t 15) (.k (.int .i64 1))),o 5 (.mov (.t 16))])))))) (.seq (.reg [o 4 (.mov (.k (.bool true)))]) .ret))))⟩
theorem A2i:A5 Tryz.prog U1=some U2:=by kernel_rfl
theorem Jg (σ:St) (v u:GV) (l m:List Edit) (hv:RS Ca.kd σ v l) (hu:RS Ca.kd σ u m) (hl:(l.length+sumL Vx l)≤1099511627776):Ret Tryz.prog U1 [v,u] σ (.bool (decide (l=m))) σ:=by
 refine Af A2i (Z0z rfl) trivial ?_
 simp +contextual (disch:=omega) only[go_sem,U2,hv.len,hu.len]
 refine⟨fun hn=> ?_,fun hn=> ?_⟩
 ·have:l≠m:=fun h=>by subst h;simp at hn
  simp[this]
 have hlm:l.length=m.length:=by
                    have h2:(l.length:Int)=m.length:=by simpa using hn
                    omega
 refine B8 l.length 5 (fun i env τ=>env 0=v∧env 1=u∧l.take i=m.take i∧σ <+: τ) rfl ⟨rfl,rfl,rfl,List.prefix_refl _⟩ ?_ ?_
 ·rintro i env τ hi e5 c0 ⟨e0,e1,he,hp⟩
  have hj:i<m.length:=by omega
  have h1:=hv.pre hp
  have h2:=hu.pre hp
  have hne:l[i]≠m[i]→l≠m:=fun h h'=>h (by subst h';rfl)
  have hst:l[i]=m[i]→l.take (i+1)=m.take (i+1):=fun h=>by rw[Bf hi,Bf hj,he,h]
  have hms:Vx l[i]≤sumL Vx l:=Iy (List.getElem_mem hi)
  simp +contextual (disch:=omega) only[go_sem,c0,e0,e1,e5,hv.len,hu.len,Yg h1 hi,Yg h2 hj]
  refine A7 (A2h τ l[i] m[i]) ?_
  simp +contextual (disch:=omega) only[go_sem,e0,e1,e5,hp]
  refine⟨fun h=> ?_,fun h=> ?_⟩
  ·simp[hne (by simpa using h)]
  ·simpa using hst (by simpa using h)
 ·rintro env τ e5 c0 ⟨e0,e1,he,hp⟩
  rw[List.take_length,hlm,List.take_length] at he
  simp +contextual (disch:=omega) only[go_sem,c0,e0,e1,e5,hv.len,hu.len,hp]
  simp[he]
end
section
open Go Go.RowKit
abbrev Xh:Nat:=242
def Xi:Fn1:=⟨37,[.t 4],(.seq (.reg [o 2 (.box (.t 0)),o 3 (.box (.t 1)),o 4 (.mov (.k (.bool false)))]) (.seq (.seq (.reg [o 5 (.fad 0 (.t 2)),o 6 (.ld false 1 (.t 5)),o 7 (.fad 0 (.t 3)),o 8 (.ld false 1 (.t 7)),o 9 (.bin .neq (.t 6) (.t 8))]) (.cnd (.t 9) (.seq (.reg [o 4 (.mov (.k (.bool false)))]) .ret) .skip)) (.seq (.seq (.reg [o 10 (.fad 1 (.t 2)),o 11 (.ld true 2 (.t 10)),o 12 (.fad 1 (.t 3)),o 13 (.ld true 2 (.t 12)),o 14 (.call 160 [(.t 11),(.t 13)]),o 15 (.un .not (.t 14))]) (.cnd (.t 15) (.seq (.reg [o 4 (.mov (.k (.bool false)))]) .ret) .skip)) (.seq (.seq (.reg [o 16 (.fad 3 (.t 2)),o 17 (.ld false 1 (.t 16)),o 18 (.fad 3 (.t 3)),o 19 (.ld false 1 (.t 18)),o 20 (.bin .neq (.t 17) (.t 19))]) (.cnd (.t 20) (.seq (.reg [o 4 (.mov (.k (.bool false)))]) .ret) .skip)) (.seq (.seq (.reg [o 21 (.fad 4 (.t 2)),o 22 (.ld true 2 (.t 21)),o 23 (.fad 4 (.t 3)),o 24 (.ld true 2 (.t 23)),o 25 (.call 160 [(.t 22),(.t 24)]),o 26 (.un .not (.t 25))]) (.cnd (.t 26) (.seq (.reg [o 4 (.mov (.k (.bool false)))]) .ret) .skip)) (.seq (.seq (.reg [o 27 (.fad 6 (.t 2)),o 28 (.ld false 1 (.t 27)),o 29 (.fad 6 (.t 3)),o 30 (.ld false 1 (.t 29)),o 31 (.bin .neq (.t 28) (.t 30))]) (.cnd (.t 31) (.seq (.reg [o 4 (.mov (.k (.bool false)))]) .ret) .skip)) (.seq (.seq (.reg [o 32 (.fad 7 (.t 2)),o 33 (.ld false 1 (.t 32)),o 34 (.fad 7 (.t 3)),o 35 (.ld false 1 (.t 34)),o 36 (.eqb true (.t 33) (.t 35))]) (.cnd (.t 36) (.seq (.reg [o 4 (.mov (.k (.bool false)))]) .ret) .skip)) (.seq (.reg [o 4 (.mov (.k (.bool true)))]) .ret))))))))⟩
theorem A56:A5 Tryz.prog Xh=some Xi:=by kernel_rfl
theorem A2j (σ:St) (x y:Cell):Ret Tryz.prog Xh [.agg [.str x.obj,.int .i64 x.dot.rep,.int .i64 x.dot.seq,.int .i64 x.time,.int .i64 x.ref.rep,.int .i64 x.ref.seq,.int .i64 x.val,.bool x.gone],.agg [.str y.obj,.int .i64 y.dot.rep,.int .i64 y.dot.seq,.int .i64 y.time,.int .i64 y.ref.rep,.int .i64 y.ref.seq,.int .i64 y.val,.bool y.gone]] σ (.bool (decide (x=y))) σ:=by
 refine Af A56 (Z0z rfl) trivial ?_
 simp +contextual (disch:=omega) only[go_sem,Xi,List.append_nil]
 refine⟨fun hn=> ?_,fun hn=> ?_⟩
 ·simp only[Cell.eq_iff];simp at hn ⊢;simp[hn]
 have q0:x.obj=y.obj:=by simpa using hn
 refine A7 (Hf _ x.dot y.dot) ?_
 simp +contextual (disch:=omega) only[go_sem,List.append_nil]
 refine⟨fun hn=> ?_,fun hn=> ?_⟩
 ·simp only[Cell.eq_iff];simp at hn ⊢;simp[hn]
 have q1:x.dot=y.dot:=by simpa using hn
 refine⟨fun hn=> ?_,fun hn=> ?_⟩
 ·simp only[Cell.eq_iff];simp at hn ⊢;simp[hn]
 have q2:x.time=y.time:=by simpa using hn
 refine A7 (Hf _ x.ref y.ref) ?_
 simp +contextual (disch:=omega) only[go_sem,List.append_nil]
 refine⟨fun hn=> ?_,fun hn=> ?_⟩
 ·simp only[Cell.eq_iff];simp at hn ⊢;simp[hn]
 have q3:x.ref=y.ref:=by simpa using hn
 refine⟨fun hn=> ?_,fun hn=> ?_⟩
 ·simp only[Cell.eq_iff];simp at hn ⊢;simp[hn]
 have q4:x.val=y.val:=by simpa using hn
 refine⟨fun hn=> ?_,fun hn=> ?_⟩
 ·simp only[Cell.eq_iff];simp at hn ⊢;simp[hn]
 have q5:x.gone=y.gone:=by simpa using hn
 simp only[Cell.eq_iff,q0,q1,q2,q3,q4,q5,and_self,decide_true]
end
section
open Go Go.RowKit
abbrev U3:Nat:=133
def U4:Fn1:=⟨27,[.t 4],(.seq (.reg [o 4 (.mov (.k (.bool false)))]) (.seq (.seq (.reg [o 6 (.mov (.t 0)),o 7 (.len false (.t 6)),o 8 (.mov (.t 1)),o 9 (.len false (.t 8)),o 10 (.bin .neq (.t 7) (.t 9))]) (.cnd (.t 10) (.seq (.reg [o 4 (.mov (.k (.bool false)))]) .ret) .skip)) (.seq (.seq (.reg [o 5 (.mov (.k (.int .i64 0)))]) (.blk 0 (.lop (.seq (.seq (.reg [o 11 (.mov (.t 5)),o 12 (.mov (.t 0)),o 13 (.len false (.t 12)),o 14 (.bin .lss (.t 11) (.t 13))]) (.cnd (.t 14) .skip (.ext 0))) (.seq (.blk 1 (.seq (.drw [o 17 (.mov (.t 0)),o 18 (.mov (.t 5)),o 19 (.iad 8 (.t 17) (.t 18)),o 20 (.ld true 8 (.t 19)),o 21 (.mov (.t 1)),o 22 (.mov (.t 5)),o 23 (.iad 8 (.t 21) (.t 22)),o 24 (.ld true 8 (.t 23))] [o 25 (.call 242 [(.t 20),(.t 24)]),o 26 (.un .not (.t 25))]) (.cnd (.t 26) (.seq (.reg [o 4 (.mov (.k (.bool false)))]) .ret) .skip))) (.reg [o 15 (.mov (.t 5)),o 16 (.bin .add (.t 15) (.k (.int .i64 1))),o 5 (.mov (.t 16))])))))) (.seq (.reg [o 4 (.mov (.k (.bool true)))]) .ret))))⟩
theorem A2k:A5 Tryz.prog U3=some U4:=by kernel_rfl
theorem Zj (σ:St) (v u:GV) (l m:List Cell) (hv:RS Ai.kd σ v l) (hu:RS Ai.kd σ u m) (hl:(l.length+sumL E2 l)≤1099511627776):Ret Tryz.prog U3 [v,u] σ (.bool (decide (l=m))) σ:=by
 refine Af A2k (Z0z rfl) trivial ?_
 simp +contextual (disch:=omega) only[go_sem,U4,hv.len,hu.len]
 refine⟨fun hn=> ?_,fun hn=> ?_⟩
 ·have:l≠m:=fun h=>by subst h;simp at hn
  simp[this]
 have hlm:l.length=m.length:=by
                    have h2:(l.length:Int)=m.length:=by simpa using hn
                    omega
 refine B8 l.length 5 (fun i env τ=>env 0=v∧env 1=u∧l.take i=m.take i∧σ <+: τ) rfl ⟨rfl,rfl,rfl,List.prefix_refl _⟩ ?_ ?_
 ·rintro i env τ hi e5 c0 ⟨e0,e1,he,hp⟩
  have hj:i<m.length:=by omega
  have h1:=hv.pre hp
  have h2:=hu.pre hp
  have hne:l[i]≠m[i]→l≠m:=fun h h'=>h (by subst h';rfl)
  have hst:l[i]=m[i]→l.take (i+1)=m.take (i+1):=fun h=>by rw[Bf hi,Bf hj,he,h]
  have hms:E2 l[i]≤sumL E2 l:=Iy (List.getElem_mem hi)
  simp +contextual (disch:=omega) only[go_sem,c0,e0,e1,e5,hv.len,hu.len,A4 h1 hi,A4 h2 hj]
  refine A7 (A2j τ l[i] m[i]) ?_
  simp +contextual (disch:=omega) only[go_sem,e0,e1,e5,hp]
  refine⟨fun h=> ?_,fun h=> ?_⟩
  ·simp[hne (by simpa using h)]
  ·simpa using hst (by simpa using h)
 ·rintro env τ e5 c0 ⟨e0,e1,he,hp⟩
  rw[List.take_length,hlm,List.take_length] at he
  simp +contextual (disch:=omega) only[go_sem,c0,e0,e1,e5,hv.len,hu.len,hp]
  simp[he]
end
section
open Go Go.RowKit
abbrev Xj:Nat:=241
def Xk:Fn1:=⟨31,[.t 4],(.seq (.reg [o 2 (.box (.t 0)),o 3 (.box (.t 1)),o 4 (.mov (.k (.bool false)))]) (.seq (.seq (.reg [o 5 (.fad 0 (.t 2)),o 6 (.ld false 1 (.t 5)),o 7 (.fad 0 (.t 3)),o 8 (.ld false 1 (.t 7)),o 9 (.eqb true (.t 6) (.t 8))]) (.cnd (.t 9) (.seq (.reg [o 4 (.mov (.k (.bool false)))]) .ret) .skip)) (.seq (.seq (.reg [o 10 (.fad 1 (.t 2)),o 11 (.ld false 1 (.t 10)),o 12 (.fad 1 (.t 3)),o 13 (.ld false 1 (.t 12)),o 14 (.bin .neq (.t 11) (.t 13))]) (.cnd (.t 14) (.seq (.reg [o 4 (.mov (.k (.bool false)))]) .ret) .skip)) (.seq (.seq (.reg [o 15 (.fad 2 (.t 2)),o 16 (.ld false 1 (.t 15)),o 17 (.fad 2 (.t 3)),o 18 (.ld false 1 (.t 17)),o 19 (.bin .neq (.t 16) (.t 18))]) (.cnd (.t 19) (.seq (.reg [o 4 (.mov (.k (.bool false)))]) .ret) .skip)) (.seq (.seq (.reg [o 20 (.fad 3 (.t 2)),o 21 (.ld false 1 (.t 20)),o 22 (.fad 3 (.t 3)),o 23 (.ld false 1 (.t 22)),o 24 (.bin .neq (.t 21) (.t 23))]) (.cnd (.t 24) (.seq (.reg [o 4 (.mov (.k (.bool false)))]) .ret) .skip)) (.seq (.seq (.reg [o 25 (.fad 4 (.t 2)),o 26 (.ld true 2 (.t 25)),o 27 (.fad 4 (.t 3)),o 28 (.ld true 2 (.t 27)),o 29 (.call 160 [(.t 26),(.t 28)]),o 30 (.un .not (.t 29))]) (.cnd (.t 30) (.seq (.reg [o 4 (.mov (.k (.bool false)))]) .ret) .skip)) (.seq (.reg [o 4 (.mov (.k (.bool true)))]) .ret)))))))⟩
theorem A57:A5 Tryz.prog Xj=some Xk:=by kernel_rfl
theorem A2l (σ:St) (x y:Live):Ret Tryz.prog Xj [.agg [.bool x.map,.str x.obj,.str x.key,.int .i64 x.val,.int .i64 x.dot.rep,.int .i64 x.dot.seq],.agg [.bool y.map,.str y.obj,.str y.key,.int .i64 y.val,.int .i64 y.dot.rep,.int .i64 y.dot.seq]] σ (.bool (decide (x=y))) σ:=by
 refine Af A57 (Z0z rfl) trivial ?_
 simp +contextual (disch:=omega) only[go_sem,Xk,List.append_nil]
 refine⟨fun hn=> ?_,fun hn=> ?_⟩
 ·simp only[Live.eq_iff];simp at hn ⊢;simp[hn]
 have q0:x.map=y.map:=by simpa using hn
 refine⟨fun hn=> ?_,fun hn=> ?_⟩
 ·simp only[Live.eq_iff];simp at hn ⊢;simp[hn]
 have q1:x.obj=y.obj:=by simpa using hn
 refine⟨fun hn=> ?_,fun hn=> ?_⟩
 ·simp only[Live.eq_iff];simp at hn ⊢;simp[hn]
 have q2:x.key=y.key:=by simpa using hn
 refine⟨fun hn=> ?_,fun hn=> ?_⟩
 ·simp only[Live.eq_iff];simp at hn ⊢;simp[hn]
 have q3:x.val=y.val:=by simpa using hn
 refine A7 (Hf _ x.dot y.dot) ?_
 simp +contextual (disch:=omega) only[go_sem,List.append_nil]
 refine⟨fun hn=> ?_,fun hn=> ?_⟩
 ·simp only[Live.eq_iff];simp at hn ⊢;simp[hn]
 have q4:x.dot=y.dot:=by simpa using hn
 simp only[Live.eq_iff,q0,q1,q2,q3,q4,and_self,decide_true]
end
section
open Go Go.RowKit
abbrev U5:Nat:=131
def U6:Fn1:=⟨27,[.t 4],(.seq (.reg [o 4 (.mov (.k (.bool false)))]) (.seq (.seq (.reg [o 6 (.mov (.t 0)),o 7 (.len false (.t 6)),o 8 (.mov (.t 1)),o 9 (.len false (.t 8)),o 10 (.bin .neq (.t 7) (.t 9))]) (.cnd (.t 10) (.seq (.reg [o 4 (.mov (.k (.bool false)))]) .ret) .skip)) (.seq (.seq (.reg [o 5 (.mov (.k (.int .i64 0)))]) (.blk 0 (.lop (.seq (.seq (.reg [o 11 (.mov (.t 5)),o 12 (.mov (.t 0)),o 13 (.len false (.t 12)),o 14 (.bin .lss (.t 11) (.t 13))]) (.cnd (.t 14) .skip (.ext 0))) (.seq (.blk 1 (.seq (.drw [o 17 (.mov (.t 0)),o 18 (.mov (.t 5)),o 19 (.iad 6 (.t 17) (.t 18)),o 20 (.ld true 6 (.t 19)),o 21 (.mov (.t 1)),o 22 (.mov (.t 5)),o 23 (.iad 6 (.t 21) (.t 22)),o 24 (.ld true 6 (.t 23))] [o 25 (.call 241 [(.t 20),(.t 24)]),o 26 (.un .not (.t 25))]) (.cnd (.t 26) (.seq (.reg [o 4 (.mov (.k (.bool false)))]) .ret) .skip))) (.reg [o 15 (.mov (.t 5)),o 16 (.bin .add (.t 15) (.k (.int .i64 1))),o 5 (.mov (.t 16))])))))) (.seq (.reg [o 4 (.mov (.k (.bool true)))]) .ret))))⟩
theorem A2m:A5 Tryz.prog U5=some U6:=by kernel_rfl
theorem Zk (σ:St) (v u:GV) (l m:List Live) (hv:RS Ay.kd σ v l) (hu:RS Ay.kd σ u m) (hl:(l.length+sumL D7 l)≤1099511627776):Ret Tryz.prog U5 [v,u] σ (.bool (decide (l=m))) σ:=by
 refine Af A2m (Z0z rfl) trivial ?_
 simp +contextual (disch:=omega) only[go_sem,U6,hv.len,hu.len]
 refine⟨fun hn=> ?_,fun hn=> ?_⟩
 ·have:l≠m:=fun h=>by subst h;simp at hn
  simp[this]
 have hlm:l.length=m.length:=by
                    have h2:(l.length:Int)=m.length:=by simpa using hn
                    omega
 refine B8 l.length 5 (fun i env τ=>env 0=v∧env 1=u∧l.take i=m.take i∧σ <+: τ) rfl ⟨rfl,rfl,rfl,List.prefix_refl _⟩ ?_ ?_
 ·rintro i env τ hi e5 c0 ⟨e0,e1,he,hp⟩
  have hj:i<m.length:=by omega
  have h1:=hv.pre hp
  have h2:=hu.pre hp
  have hne:l[i]≠m[i]→l≠m:=fun h h'=>h (by subst h';rfl)
  have hst:l[i]=m[i]→l.take (i+1)=m.take (i+1):=fun h=>by rw[Bf hi,Bf hj,he,h]
  have hms:D7 l[i]≤sumL D7 l:=Iy (List.getElem_mem hi)
  simp +contextual (disch:=omega) only[go_sem,c0,e0,e1,e5,hv.len,hu.len,A3 h1 hi,A3 h2 hj]
  refine A7 (A2l τ l[i] m[i]) ?_
  simp +contextual (disch:=omega) only[go_sem,e0,e1,e5,hp]
  refine⟨fun h=> ?_,fun h=> ?_⟩
  ·simp[hne (by simpa using h)]
  ·simpa using hst (by simpa using h)
 ·rintro env τ e5 c0 ⟨e0,e1,he,hp⟩
  rw[List.take_length,hlm,List.take_length] at he
  simp +contextual (disch:=omega) only[go_sem,c0,e0,e1,e5,hv.len,hu.len,hp]
  simp[he]
end
section
open Go Go.RowKit
abbrev U7:Nat:=240
def U8:Fn1:=⟨20,[.t 4],(.seq (.reg [o 2 (.box (.t 0)),o 3 (.box (.t 1)),o 4 (.mov (.k (.bool false)))]) (.seq (.seq (.reg [o 5 (.fad 0 (.t 2)),o 6 (.ld false 1 (.t 5)),o 7 (.fad 0 (.t 3)),o 8 (.ld false 1 (.t 7)),o 9 (.bin .neq (.t 6) (.t 8))]) (.cnd (.t 9) (.seq (.reg [o 4 (.mov (.k (.bool false)))]) .ret) .skip)) (.seq (.seq (.reg [o 10 (.fad 1 (.t 2)),o 11 (.ld false 1 (.t 10)),o 12 (.fad 1 (.t 3)),o 13 (.ld false 1 (.t 12)),o 14 (.bin .neq (.t 11) (.t 13))]) (.cnd (.t 14) (.seq (.reg [o 4 (.mov (.k (.bool false)))]) .ret) .skip)) (.seq (.seq (.reg [o 15 (.fad 2 (.t 2)),o 16 (.ld false 1 (.t 15)),o 17 (.fad 2 (.t 3)),o 18 (.ld false 1 (.t 17)),o 19 (.bin .neq (.t 16) (.t 18))]) (.cnd (.t 19) (.seq (.reg [o 4 (.mov (.k (.bool false)))]) .ret) .skip)) (.seq (.reg [o 4 (.mov (.k (.bool true)))]) .ret)))))⟩
theorem A2n:A5 Tryz.prog U7=some U8:=by kernel_rfl
theorem Zl (σ:St) (x y:Tally):Ret Tryz.prog U7 [.agg [.str x.obj,.int .i64 x.rep,.int .i64 x.sum],.agg [.str y.obj,.int .i64 y.rep,.int .i64 y.sum]] σ (.bool (decide (x=y))) σ:=by
 refine Af A2n (Z0z rfl) trivial ?_
 simp +contextual (disch:=omega) only[go_sem,U8,List.append_nil]
 refine⟨fun hn=> ?_,fun hn=> ?_⟩
 ·simp only[Tally.eq_iff];simp at hn ⊢;simp[hn]
 have q0:x.obj=y.obj:=by simpa using hn
 refine⟨fun hn=> ?_,fun hn=> ?_⟩
 ·simp only[Tally.eq_iff];simp at hn ⊢;simp[hn]
 have q1:x.rep=y.rep:=by simpa using hn
 refine⟨fun hn=> ?_,fun hn=> ?_⟩
 ·simp only[Tally.eq_iff];simp at hn ⊢;simp[hn]
 have q2:x.sum=y.sum:=by simpa using hn
 simp only[Tally.eq_iff,q0,q1,q2,and_self,decide_true]
end
section
open Go Go.RowKit
abbrev Q5:Nat:=130
def Q6:Fn1:=⟨27,[.t 4],(.seq (.reg [o 4 (.mov (.k (.bool false)))]) (.seq (.seq (.reg [o 6 (.mov (.t 0)),o 7 (.len false (.t 6)),o 8 (.mov (.t 1)),o 9 (.len false (.t 8)),o 10 (.bin .neq (.t 7) (.t 9))]) (.cnd (.t 10) (.seq (.reg [o 4 (.mov (.k (.bool false)))]) .ret) .skip)) (.seq (.seq (.reg [o 5 (.mov (.k (.int .i64 0)))]) (.blk 0 (.lop (.seq (.seq (.reg [o 11 (.mov (.t 5)),o 12 (.mov (.t 0)),o 13 (.len false (.t 12)),o 14 (.bin .lss (.t 11) (.t 13))]) (.cnd (.t 14) .skip (.ext 0))) (.seq (.blk 1 (.seq (.drw [o 17 (.mov (.t 0)),o 18 (.mov (.t 5)),o 19 (.iad 3 (.t 17) (.t 18)),o 20 (.ld true 3 (.t 19)),o 21 (.mov (.t 1)),o 22 (.mov (.t 5)),o 23 (.iad 3 (.t 21) (.t 22)),o 24 (.ld true 3 (.t 23))] [o 25 (.call 240 [(.t 20),(.t 24)]),o 26 (.un .not (.t 25))]) (.cnd (.t 26) (.seq (.reg [o 4 (.mov (.k (.bool false)))]) .ret) .skip))) (.reg [o 15 (.mov (.t 5)),o 16 (.bin .add (.t 15) (.k (.int .i64 1))),o 5 (.mov (.t 16))])))))) (.seq (.reg [o 4 (.mov (.k (.bool true)))]) .ret))))⟩
theorem Zm:A5 Tryz.prog Q5=some Q6:=by kernel_rfl
theorem Vj (σ:St) (v u:GV) (l m:List Tally) (hv:RS Ar.kd σ v l) (hu:RS Ar.kd σ u m) (hl:(l.length+sumL By l)≤1099511627776):Ret Tryz.prog Q5 [v,u] σ (.bool (decide (l=m))) σ:=by
 refine Af Zm (Z0z rfl) trivial ?_
 simp +contextual (disch:=omega) only[go_sem,Q6,hv.len,hu.len]
 refine⟨fun hn=> ?_,fun hn=> ?_⟩
 ·have:l≠m:=fun h=>by subst h;simp at hn
  simp[this]
 have hlm:l.length=m.length:=by
                    have h2:(l.length:Int)=m.length:=by simpa using hn
                    omega
 refine B8 l.length 5 (fun i env τ=>env 0=v∧env 1=u∧l.take i=m.take i∧σ <+: τ) rfl ⟨rfl,rfl,rfl,List.prefix_refl _⟩ ?_ ?_
 ·rintro i env τ hi e5 c0 ⟨e0,e1,he,hp⟩
  have hj:i<m.length:=by omega
  have h1:=hv.pre hp
  have h2:=hu.pre hp
  have hne:l[i]≠m[i]→l≠m:=fun h h'=>h (by subst h';rfl)
  have hst:l[i]=m[i]→l.take (i+1)=m.take (i+1):=fun h=>by rw[Bf hi,Bf hj,he,h]
  have hms:By l[i]≤sumL By l:=Iy (List.getElem_mem hi)
  simp +contextual (disch:=omega) only[go_sem,c0,e0,e1,e5,hv.len,hu.len,Aa h1 hi,Aa h2 hj]
  refine A7 (Zl τ l[i] m[i]) ?_
  simp +contextual (disch:=omega) only[go_sem,e0,e1,e5,hp]
  refine⟨fun h=> ?_,fun h=> ?_⟩
  ·simp[hne (by simpa using h)]
  ·simpa using hst (by simpa using h)
 ·rintro env τ e5 c0 ⟨e0,e1,he,hp⟩
  rw[List.take_length,hlm,List.take_length] at he
  simp +contextual (disch:=omega) only[go_sem,c0,e0,e1,e5,hv.len,hu.len,hp]
  simp[he]
end
section
open Go Go.RowKit
abbrev U9:Nat:=34
def Ua:Fn1:=⟨29,[.t 4],(.seq (.reg [o 2 (.box (.t 0)),o 3 (.box (.t 1)),o 4 (.mov (.k (.bool false)))]) (.seq (.seq (.reg [o 5 (.fad 0 (.t 2)),o 6 (.ld false 1 (.t 5)),o 7 (.fad 0 (.t 3)),o 8 (.ld false 1 (.t 7)),o 9 (.call 129 [(.t 6),(.t 8)]),o 10 (.un .not (.t 9))]) (.cnd (.t 10) (.seq (.reg [o 4 (.mov (.k (.bool false)))]) .ret) .skip)) (.seq (.seq (.reg [o 11 (.fad 1 (.t 2)),o 12 (.ld false 1 (.t 11)),o 13 (.fad 1 (.t 3)),o 14 (.ld false 1 (.t 13)),o 15 (.call 130 [(.t 12),(.t 14)]),o 16 (.un .not (.t 15))]) (.cnd (.t 16) (.seq (.reg [o 4 (.mov (.k (.bool false)))]) .ret) .skip)) (.seq (.seq (.reg [o 17 (.fad 2 (.t 2)),o 18 (.ld false 1 (.t 17)),o 19 (.fad 2 (.t 3)),o 20 (.ld false 1 (.t 19)),o 21 (.call 131 [(.t 18),(.t 20)]),o 22 (.un .not (.t 21))]) (.cnd (.t 22) (.seq (.reg [o 4 (.mov (.k (.bool false)))]) .ret) .skip)) (.seq (.seq (.reg [o 23 (.fad 3 (.t 2)),o 24 (.ld false 1 (.t 23)),o 25 (.fad 3 (.t 3)),o 26 (.ld false 1 (.t 25)),o 27 (.call 133 [(.t 24),(.t 26)]),o 28 (.un .not (.t 27))]) (.cnd (.t 28) (.seq (.reg [o 4 (.mov (.k (.bool false)))]) .ret) .skip)) (.seq (.reg [o 4 (.mov (.k (.bool true)))]) .ret))))))⟩
theorem A2o:A5 Tryz.prog U9=some Ua:=by kernel_rfl
theorem Zn (σ:St) (cs ds:List GV) (x y:State) (hx:A8.R σ x cs) (hy:A8.R σ y ds) (hl:Ac x≤1099511627776):Ret Tryz.prog U9 [.agg cs,.agg ds] σ (.bool (decide (x=y))) σ:=by
 obtain⟨v0,v1,v2,v3,rfl,q0_,q1_,q2_,q3_⟩:=hx
 obtain⟨u0,u1,u2,u3,rfl,p0_,p1_,p2_,p3_⟩:=hy
 unfold Ac at hl
 refine Af A2o (Z0z rfl) trivial ?_
 simp +contextual (disch:=omega) only[go_sem,Ua,List.append_nil]
 refine A7 (Q4 _ v0 u0 x.know y.know (q0_.pre pre2) (p0_.pre pre2) (by omega)) ?_
 simp +contextual (disch:=omega) only[go_sem,List.append_nil]
 refine⟨fun hn=> ?_,fun hn=> ?_⟩
 ·simp only[State.eq_iff];simp at hn ⊢;simp[hn]
 have q0:x.know=y.know:=by simpa using hn
 refine A7 (Vj _ v1 u1 x.tallies y.tallies (q1_.pre pre2) (p1_.pre pre2) (by omega)) ?_
 simp +contextual (disch:=omega) only[go_sem,List.append_nil]
 refine⟨fun hn=> ?_,fun hn=> ?_⟩
 ·simp only[State.eq_iff];simp at hn ⊢;simp[hn]
 have q1:x.tallies=y.tallies:=by simpa using hn
 refine A7 (Zk _ v2 u2 x.lives y.lives (q2_.pre pre2) (p2_.pre pre2) (by omega)) ?_
 simp +contextual (disch:=omega) only[go_sem,List.append_nil]
 refine⟨fun hn=> ?_,fun hn=> ?_⟩
 ·simp only[State.eq_iff];simp at hn ⊢;simp[hn]
 have q2:x.lives=y.lives:=by simpa using hn
 refine A7 (Zj _ v3 u3 x.cells y.cells (q3_.pre pre2) (p3_.pre pre2) (by omega)) ?_
 simp +contextual (disch:=omega) only[go_sem,List.append_nil]
 refine⟨fun hn=> ?_,fun hn=> ?_⟩
 ·simp only[State.eq_iff];simp at hn ⊢;simp[hn]
 have q3:x.cells=y.cells:=by simpa using hn
 simp only[State.eq_iff,q0,q1,q2,q3,and_self,decide_true]
end
section
open Go Go.RowKit
def mInt (k:Int):Int:=k
def mString (k:Int):ByteArray:=mtx k
def mDot (k:Int):Dot:=⟨k,k+1⟩
def Np (k:Int):Tally:=⟨mtx (k),k+1,k+1+1⟩
def Zo (k:Int):Live:=⟨((k).tmod 3==0),mtx (k+1),mtx (k+1+1),k+1+1+1,⟨k+1+1+1+1,k+1+1+1+1+1⟩⟩
def Zp (k:Int):Cell:=⟨mtx (k),⟨k+1,k+1+1⟩,k+1+1+1,⟨k+1+1+1+1,k+1+1+1+1+1⟩,k+1+1+1+1+1+1,((k+1+1+1+1+1+1+1).tmod 3==0)⟩
def Vk (k:Int):Edit:=⟨k,mtx (k+1),mtx (k+1+1),k+1+1+1,k+1+1+1+1⟩
def mWatch (k:Int):Watch:=⟨k,mtx (k+1),mtx (k+1+1)⟩
def mClash (k:Int):Clash:=⟨mtx (k),mtx (k+1)⟩
def mFile (k:Int):File:=⟨mtx (k),k+1⟩
def mLetter (k:Int):Letter:=⟨k,mtx (k+1)⟩
def mEvent (k:Int):Event:=⟨k,k+1,k+1+1,⟨k+1+1+1,mtx (k+1+1+1+1),mtx (k+1+1+1+1+1),k+1+1+1+1+1+1,k+1+1+1+1+1+1+1⟩⟩
end
section
open Go Go.RowKit
abbrev Nq:Nat:=39
def Nr:Fn1:=⟨60,[.t 4],(.seq (.reg [o 4 (.mov (.k (.int .i64 0)))]) (.seq (.seq (.reg [o 5 (.mov (.k (.int .i64 0)))]) (.blk 0 (.lop (.seq (.seq (.reg [o 6 (.mov (.t 5)),o 7 (.mov (.t 0)),o 8 (.len false (.t 7)),o 9 (.bin .lss (.t 6) (.t 8))]) (.cnd (.t 9) .skip (.ext 0))) (.seq (.blk 1 (.seq (.seq (.reg [o 12 (.mov (.t 0)),o 13 (.mov (.t 5)),o 14 (.iad 5 (.t 12) (.t 13)),o 15 (.fad 0 (.t 14)),o 16 (.ld false 1 (.t 15)),o 17 (.mov (.t 1)),o 18 (.bin .neq (.t 16) (.t 17))]) (.cnd (.t 18) (.seq (.reg [o 4 (.mov (.k (.int .i64 (-1))))]) .ret) .skip)) (.seq (.reg [o 19 (.mov (.t 1)),o 20 (.bin .add (.t 19) (.k (.int .i64 1))),o 1 (.mov (.t 20))]) (.seq (.seq (.drw [o 21 (.mov (.t 0)),o 22 (.mov (.t 5)),o 23 (.iad 5 (.t 21) (.t 22)),o 24 (.fad 1 (.t 23)),o 25 (.ld false 1 (.t 24)),o 26 (.mov (.t 1)),o 27 (.call 110 [(.t 26)])] [o 28 (.bin .neq (.t 25) (.t 27))]) (.cnd (.t 28) (.seq (.reg [o 4 (.mov (.k (.int .i64 (-1))))]) .ret) .skip)) (.seq (.reg [o 29 (.mov (.t 1)),o 30 (.bin .add (.t 29) (.k (.int .i64 1))),o 1 (.mov (.t 30))]) (.seq (.seq (.drw [o 31 (.mov (.t 0)),o 32 (.mov (.t 5)),o 33 (.iad 5 (.t 31) (.t 32)),o 34 (.fad 2 (.t 33)),o 35 (.ld false 1 (.t 34)),o 36 (.mov (.t 1)),o 37 (.call 110 [(.t 36)])] [o 38 (.bin .neq (.t 35) (.t 37))]) (.cnd (.t 38) (.seq (.reg [o 4 (.mov (.k (.int .i64 (-1))))]) .ret) .skip)) (.seq (.reg [o 39 (.mov (.t 1)),o 40 (.bin .add (.t 39) (.k (.int .i64 1))),o 1 (.mov (.t 40))]) (.seq (.seq (.reg [o 41 (.mov (.t 0)),o 42 (.mov (.t 5)),o 43 (.iad 5 (.t 41) (.t 42)),o 44 (.fad 3 (.t 43)),o 45 (.ld false 1 (.t 44)),o 46 (.mov (.t 1)),o 47 (.bin .neq (.t 45) (.t 46))]) (.cnd (.t 47) (.seq (.reg [o 4 (.mov (.k (.int .i64 (-1))))]) .ret) .skip)) (.seq (.reg [o 48 (.mov (.t 1)),o 49 (.bin .add (.t 48) (.k (.int .i64 1))),o 1 (.mov (.t 49))]) (.seq (.seq (.reg [o 50 (.mov (.t 0)),o 51 (.mov (.t 5)),o 52 (.iad 5 (.t 50) (.t 51)),o 53 (.fad 4 (.t 52)),o 54 (.ld false 1 (.t 53)),o 55 (.mov (.t 1)),o 56 (.bin .neq (.t 54) (.t 55))]) (.cnd (.t 56) (.seq (.reg [o 4 (.mov (.k (.int .i64 (-1))))]) .ret) .skip)) (.reg [o 57 (.mov (.t 1)),o 58 (.bin .add (.t 57) (.k (.int .i64 1))),o 1 (.mov (.t 58))]))))))))))) (.reg [o 10 (.mov (.t 5)),o 11 (.bin .add (.t 10) (.k (.int .i64 1))),o 5 (.mov (.t 11))])))))) (.seq (.reg [o 59 (.mov (.t 1)),o 4 (.mov (.t 59))]) .ret)))⟩
theorem Vl:A5 Tryz.prog Nq=some Nr:=by kernel_rfl
theorem L5 (σ:St) (v:GV) (n:Nat) (k:Int) (hR:RS Ca.kd σ v (mkF Vk 5 k n)) (h0:0≤k) (hk:k+5*n≤4611686018427387904):Ret Tryz.prog Nq [v,gi k] σ (gi (k+5*n)) σ:=by
 refine Af Vl (Z0z rfl) trivial ?_
 have hln:=hR.len
 rw[Cg] at hln
 simp +contextual (disch:=omega) only[go_sem,Nr]
 refine B8 n 5 (fun i env τ=>env 0=v∧env 1=gi (k+5*(i:Int))∧σ <+: τ) rfl ⟨rfl,(by show gi k=gi (k+5*0);simp),List.prefix_refl _⟩ ?_ ?_
 ·rintro i env τ hi e5 c0 ⟨e0,e1,hp⟩
  have hj:i<(mkF Vk 5 k n).length:=by rw[Cg];exact hi
  have hat:=Yg (hR.pre hp) hj
  simp only[A8x,Vk] at hat
  simp +contextual (disch:=omega) only[go_sem,c0,e0,e1,e5,hln,hat,hp,bne_self_eq_false,beq_self_eq_true]
  refine A7 (C8 _ _ (by omega)) ?_
  simp +contextual (disch:=omega) only[go_sem,c0,e0,e1,e5,hln,hat,hp,bne_self_eq_false,beq_self_eq_true]
  refine A7 (C8 _ _ (by omega)) ?_
  simp +contextual (disch:=omega) only[go_sem,c0,e0,e1,e5,hln,hat,hp,bne_self_eq_false,beq_self_eq_true]
  omega
 ·rintro env τ e5 c0 ⟨e0,e1,hp⟩
  simp +contextual (disch:=omega) only[go_sem,c0,e0,e1,e5,hln,hp]
end
section
open Go Go.RowKit
def Jh (x:State):Nat:=1*x.know.length+3*x.tallies.length+6*x.lives.length+8*x.cells.length
def A58 (k:Int) (x:State):State:={x with know:=(mkF mInt 1 (k) x.know.length),tallies:=(mkF Np 3 (k+1*(x.know.length:Int)) x.tallies.length),lives:=(mkF Zo 6 (k+1*(x.know.length:Int)+3*(x.tallies.length:Int)) x.lives.length),cells:=(mkF Zp 8 (k+1*(x.know.length:Int)+3*(x.tallies.length:Int)+6*(x.lives.length:Int)) x.cells.length)}
theorem A7u (x:State):Jh x≤10*Ac x:=by
 unfold Jh Ac;omega
def A2p (x:Act):Nat:=1*x.knew.length
def Aek (k:Int) (x:Act):Act:={x with knew:=(mkF mInt 1 (k) x.knew.length)}
theorem Aba (x:Act):A2p x≤10*E9 x:=by
 unfold A2p E9;omega
def ctDelta (x:Delta):Nat:=1*x.base.length+1*x.know.length+3*x.tallies.length+6*x.lives.length+2*x.dead.length+8*x.cells.length
def mkDelta (k:Int) (x:Delta):Delta:={x with base:=(mkF mInt 1 (k) x.base.length),know:=(mkF mInt 1 (k+1*(x.base.length:Int)) x.know.length),tallies:=(mkF Np 3 (k+1*(x.base.length:Int)+1*(x.know.length:Int)) x.tallies.length),lives:=(mkF Zo 6 (k+1*(x.base.length:Int)+1*(x.know.length:Int)+3*(x.tallies.length:Int)) x.lives.length),dead:=(mkF mDot 2 (k+1*(x.base.length:Int)+1*(x.know.length:Int)+3*(x.tallies.length:Int)+6*(x.lives.length:Int)) x.dead.length),cells:=(mkF Zp 8 (k+1*(x.base.length:Int)+1*(x.know.length:Int)+3*(x.tallies.length:Int)+6*(x.lives.length:Int)+2*(x.dead.length:Int)) x.cells.length)}
end
end Go.Proofs.YtbeoiejnogdkpaaGreat.Sy
