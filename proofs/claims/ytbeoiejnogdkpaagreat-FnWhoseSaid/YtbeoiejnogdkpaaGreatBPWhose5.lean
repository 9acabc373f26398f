/- Texts of this proof, one behind the other. -/
import Derived.Test.YtbeoiejnogdkpaaGreatBPWhose4
import Derived.Sort.LotC
import Derived.Sort.AssemblyPlain
import Derived.Test.YtbeoiejnogdkpaaGreatProg
import Derived.KernelRfl
set_option linter.unusedSimpArgs false
set_option linter.unusedVariables false
set_option maxRecDepth 4000
set_option maxHeartbeats 4000000
open Nat renaming le_refl→Zaa,lt_or_ge→Zad,eq_zero_or_pos→Zar
open Int renaming tmod_eq_emod_of_nonneg→Zab,tmod_lt_of_pos→Zau
open List renaming getElem_mem→Zac,take_length→Zae,length_filter_le→Zag,getElem?_eq_getElem→Zai,length_map→Zak,mem_cons_of_mem→Zal,mem_cons_self→Zam,findIdx?_eq_some_iff_getElem→Zan,take_succ_eq_append_getElem→Zao,pairwise_iff_getElem→Zap,getElem?_eq_some_iff→Zaq,mem_singleton→Zat,length_cons→Zav,cons_append→Zaw,prefix_refl→Zax,length_nil→Zay,nil_append→Zaz,map_append→Za0,foldl_cons→Za1,mem_filter→Za2,append_nil→Za3,map_cons→Za4,mem_cons→Za5
open Bool renaming and_eq_true→Zaf,false_eq_true→Zah,false_bne→Zaj,not_true→Zas
namespace Go.Proofs.YtbeoiejnogdkpaaGreat.Sy
open Go Go.RowKit
namespace O
open Go Go.RowKit Go.Proofs.YtbeoiejnogdkpaaGreat.Sy Go.Sort
variable {α:Type} [Inhabited α] {lt:α->α->Bool} {σ0 σ:St} {rs:List Thg} {k:Nat} {v:GV} {d:Array α}
theorem ins_ret (S:SrtO α lt) (H:Holds S.e σ0 σ rs k v d) {a b:Nat} (hab:a<=b) (hb:b<=d.size) (hs:d.size<=1099511627776):∃ τ,Ret Tryz.prog S.q.insertionSort [v,gi a,gi b] σ (.tup []) τ/\Holds S.e σ0 τ rs k v (insertionSort lt d a b):=by
 have key:∃ r τ,Ret Tryz.prog S.q.insertionSort [v,gi a,gi b] σ r τ/\r= .tup []/\Holds S.e σ0 τ rs k v (insertionSort lt d a b):=by
  refine Ay S.h_insertionSort (Z0z rfl) ?_
  simp +contextual (disch:=omega) only[go_sem,Iu]
  refine C3 (fun n env τ=>∃(i:Nat) (D:Array α),env 0=v/\env 1=gi a/\env 2=gi b/\env 6=gi i/\b - i=n/\a<i/\D.size=d.size/\σ.length<=τ.length/\Holds S.e σ0 τ rs k v D/\insOuter lt a b i D=insertionSort lt d a b) (b - (a+1)) ⟨a+1,d,rfl,rfl,rfl,rfl,rfl,by omega,rfl,Zaa _,H,rfl⟩ ?_
  rintro J hJ n env τ ⟨i,D,e0,e1,e2,ei,hn,hai,hD,hle,hH,hE⟩
  rw[insOuter] at hE
  rcases Zad i b with hi|hi
  ·rw[if_pos hi] at hE
   have c0:decide ((i:Int)<b)=true:=by simp;omega
   simp +contextual (disch:=omega) only[go_sem,e0,e1,e2,ei,c0]
   refine C3 (fun n env τ=>∃(j:Nat) (E:Array α),env 0=v/\env 1=gi a/\env 2=gi b/\env 6=gi i/\env 7=gi j/\j=n/\j<=i/\E.size=d.size/\σ.length<=τ.length/\Holds S.e σ0 τ rs k v E/\insInner lt a j E=insInner lt a i D) i ⟨i,D,by simp +contextual (disch:=omega) only[go_sem,e0],by simp +contextual (disch:=omega) only[go_sem,e1],by simp +contextual (disch:=omega) only[go_sem,e2],by simp +contextual (disch:=omega) only[go_sem,ei],rfl,rfl,Zaa _,hD,hle,hH,rfl⟩ ?_
   clear hH hle e0 e1 e2 ei
   rintro J2 hJ2 n2 env τ ⟨j,E,e0,e1,e2,ei,ej,hnj,hji,hE2,hle,hH,hI⟩
   have fin:∀ env',env' 0=v->env' 1=gi a->env' 2=gi b->env' 6=gi ((i:Int)+1)->insInner lt a i D=E->∃ k',k'<n/\J k' env' τ:=fun env' h0 h1 h2 h6 hEq=>⟨b - (i+1),by omega,hJ _ _ _ ⟨i+1,E,h0,h1,h2,h6,rfl,by omega,hE2,hle,hH,by rw[<- hEq];exact hE⟩⟩
   have cj:decide ((a:Int)<j)=decide (a<j):=by simp
   by_cases hc:a<j
   ·obtain⟨m,rfl⟩:∃ m,j=m+1:=⟨j - 1,by omega⟩
    rw[decide_eq_true hc] at cj
    have cj:decide ((a:Int)<(m:Int)+1)=true:=cj
    have n1:Aw (some (.int .i64 ((m:Int)+1)))=some (m+1):=B9 (by simp)
    have m1:(m:Int)+1 - 1=m:=by omega
    obtain⟨τ1,τ2,s1,s2,hH2,hl2⟩:=hH.sw (a:=m+1) (b:=m) (by omega) (by omega)
    rw[insInner] at hI
    simp +contextual (disch:=omega) only[go_sem,e0,e1,e2,ei,ej,cj,n1,m1,A3,hH.iad (j:=m+1) (by omega),hH.ld (j:=m+1) (by omega),hH.iad (j:=m) (by omega),hH.ld (j:=m) (by omega)]
    refine Ad (S.call _ _ _) ?_
    cases hl:lt E[m+1]! E[m]! with
    |true=>
     rw[if_pos (by simp[hl];omega)] at hI
     simp +contextual (disch:=omega) only[go_sem,e0,e1,e2,ei,ej,cj,n1,m1,A3,hl,hH.iad (j:=m+1) (by omega),hH.ld (j:=m+1) (by omega),hH.iad (j:=m) (by omega),hH.ld (j:=m) (by omega),s1,s2]
     refine⟨m,by omega,hJ2 _ _ _ ⟨m,swp E (m+1) m,?_,?_,?_,?_,?_,rfl,by omega,by rw[Go.Sort.swp_size];exact hE2,by omega,hH2,hI⟩⟩
     all_goals simp +contextual (disch:=omega) only[go_sem,e0,e1,e2,ei,ej,m1]
    |false=>
     rw[if_neg (by simp[hl])] at hI
     simp +contextual (disch:=omega) only[go_sem,e0,e1,e2,ei,ej,cj,hl,]
     refine fin _ ?_ ?_ ?_ ?_ hI.symm
     all_goals simp +contextual (disch:=omega) only[go_sem,e0,e1,e2,ei]
   ·rw[decide_eq_false hc] at cj
    have hI:insInner lt a i D=E:=by
     rw[<- hI]
     cases j with
     |zero=>rfl
     |succ j=>rw[insInner,if_neg (by simp;intro h;omega)]
    simp +contextual (disch:=omega) only[go_sem,e0,e1,e2,ei,ej,cj]
    refine fin _ ?_ ?_ ?_ ?_ hI
    all_goals simp +contextual (disch:=omega) only[go_sem,e0,e1,e2,ei]
  ·rw[if_neg (by omega)] at hE
   have c0:decide ((i:Int)<b)=false:=by simp;omega
   simp +contextual (disch:=omega) only[go_sem,e0,e1,e2,ei,c0]
   exact⟨_,rfl,hle,rfl,by rw[<- hE];exact hH⟩
 obtain⟨r,τ,R,rfl,h⟩:=key
 exact⟨τ,R,h⟩
end O
namespace O
open Go Go.RowKit Go.Proofs.YtbeoiejnogdkpaaGreat.Sy Go.Sort
variable {α:Type} [Inhabited α] {lt:α->α->Bool} {σ0 σ:St} {rs:List Thg} {k:Nat} {v:GV} {d:Array α}
theorem siftDown_size (lt:α->α->Bool) (hi F:Nat):∀(n root:Nat) (d:Array α),hi - root<=n->(siftDown lt hi F root d).size=d.size
 |0,root,d,h=>by rw[siftDown,dif_pos (by omega)]
 |n+1,root,d,h=>by
  rw[siftDown]
  split
  ·rfl
  ·split
   ·split
    ·rfl
    ·split
     ·rw[siftDown_size lt hi F n _ _ (by omega),Go.Sort.swp_size]
     ·rfl
   ·split
    ·rfl
    ·rw[siftDown_size lt hi F n _ _ (by omega),Go.Sort.swp_size]
theorem sift_ret (S:SrtO α lt) (H:Holds S.e σ0 σ rs k v d) {lo hi F:Nat} (hb:F+hi<=d.size) (hlo:lo<=d.size) (hs:d.size<=1099511627776):∃ τ,Ret Tryz.prog S.q.siftDown [v,gi lo,gi hi,gi F] σ (.tup []) τ/\Holds S.e σ0 τ rs k v (siftDown lt hi F lo d):=by
 have key:∃ r τ,Ret Tryz.prog S.q.siftDown [v,gi lo,gi hi,gi F] σ r τ/\r= .tup []/\Holds S.e σ0 τ rs k v (siftDown lt hi F lo d):=by
  refine Ay S.h_siftDown (Z0z rfl) ?_
  simp +contextual (disch:=omega) only[go_sem,Re]
  refine C3 (fun n env τ=>∃(r:Nat) (D:Array α),env 0=v/\env 1=gi lo/\env 2=gi hi/\env 3=gi F/\env 8=gi r/\hi - r=n/\r<=d.size/\D.size=d.size/\σ.length<=τ.length/\Holds S.e σ0 τ rs k v D/\siftDown lt hi F r D=siftDown lt hi F lo d) (hi - lo) ⟨lo,d,rfl,rfl,rfl,rfl,rfl,rfl,hlo,rfl,Zaa _,H,rfl⟩ ?_
  rintro J hJ n env τ ⟨r,D,e0,e1,e2,e3,er,hn,hr,hD,hle,hH,hE⟩
  rw[siftDown] at hE
  have w2:IntKind.i64.wrap (2*(r:Int))=2*(r:Int):=Eb (by omega) (by omega)
  by_cases h1:2*r+1≥hi
  ·rw[dif_pos h1] at hE
   have c1:decide ((hi:Int)<=2*(r:Int)+1)=true:=by simp;omega
   simp +contextual (disch:=omega) only[go_sem,e0,e1,e2,e3,er,w2,c1]
   exact⟨_,rfl,hle,rfl,by rw[<- hE];exact hH⟩
  ·rw[dif_neg h1] at hE
   have c1:decide ((hi:Int)<=2*(r:Int)+1)=false:=by simp;omega
   have nr:Aw (some (.int .i64 ((F:Int)+r)))=some (F+r):=B9 (by simp)
   have ir:=hH.iad (j:=F+r) (by omega)
   have lr:=hH.ld (j:=F+r) (by omega)
   by_cases hA:2*r+2<hi
   ·have cA:decide (2*(r:Int)+1+1<hi)=true:=by simp;omega
    have nc:Aw (some (.int .i64 ((F:Int)+(2*(r:Int)+1))))=some (F+(2*r+1)):=B9 (by simp)
    have nc2:Aw (some (.int .i64 ((F:Int)+(2*(r:Int)+1)+1)))=some (F+(2*r+1)+1):=B9 (by simp)
    have ic:=hH.iad (j:=F+(2*r+1)) (by omega)
    have lc:=hH.ld (j:=F+(2*r+1)) (by omega)
    have ic2:=hH.iad (j:=F+(2*r+1)+1) (by omega)
    have lc2:=hH.ld (j:=F+(2*r+1)+1) (by omega)
    simp +contextual (disch:=omega) only[go_sem,e0,e1,e2,e3,er,w2,c1,cA,nc,nc2,ic,lc,ic2,lc2]
    refine Ad (S.call _ _ _) ?_
    cases hl1:lt D[F+(2*r+1)]! D[F+(2*r+1)+1]! with
    |true=>
     clear nc ic lc
     rw[if_pos (by simp[hl1];omega)] at hE
     rw[dif_pos hA] at hE
     obtain⟨c,hc⟩:∃ c,c=2*r+2:=⟨_,rfl⟩
     rw[<- hc] at hE
     have ncI:2*(r:Int)+1+1=c:=by omega
     have nc:Aw (some (.int .i64 ((F:Int)+c)))=some (F+c):=B9 (by simp)
     have ic:=hH.iad (j:=F+c) (by omega)
     have lc:=hH.ld (j:=F+c) (by omega)
     simp +contextual (disch:=omega) only[go_sem,e0,e1,e2,e3,er,w2,cA,nr,nc,ncI,hl1,ir,lr,ic,lc]
     obtain⟨τ1,τ2,s1,s2,hH2,hl2⟩:=hH.sw (a:=F+r) (b:=F+c) (by omega) (by omega)
     refine Ad (S.call _ _ _) ?_
     cases hl:lt D[F+r]! D[F+c]! with
     |true=>
      rw[if_neg (by simp[hl])] at hE
      simp +contextual (disch:=omega) only[go_sem,e0,e1,e2,e3,er,w2,c1,cA,nr,nc,ncI,hl,ir,lr,ic,lc,s1,s2]
      refine⟨hi - c,by omega,hJ _ _ _ ⟨c,swp D (F+r) (F+c),?_,?_,?_,?_,?_,rfl,by omega,by rw[Go.Sort.swp_size];exact hD,by omega,hH2,hE⟩⟩
      all_goals simp +contextual (disch:=omega) only[go_sem,e0,e1,e2,e3,er,ncI]
     |false=>
      rw[if_pos (by simp[hl])] at hE
      simp +contextual (disch:=omega) only[go_sem,e0,e1,e2,e3,er,hl]
      exact⟨_,rfl,hle,rfl,by rw[<- hE];exact hH⟩
    |false=>
     rw[if_neg (by simp[hl1])] at hE
     obtain⟨c,hc⟩:∃ c,c=2*r+1:=⟨_,rfl⟩
     rw[<- hc] at hE ic lc
     have ncI:2*(r:Int)+1=c:=by omega
     rw[<- hc,ncI] at nc
     simp +contextual (disch:=omega) only[go_sem,e0,e1,e2,e3,er,w2,cA,nr,nc,ncI,hl1,ir,lr,ic,lc]
     obtain⟨τ1,τ2,s1,s2,hH2,hl2⟩:=hH.sw (a:=F+r) (b:=F+c) (by omega) (by omega)
     refine Ad (S.call _ _ _) ?_
     cases hl:lt D[F+r]! D[F+c]! with
     |true=>
      rw[if_neg (by simp[hl])] at hE
      simp +contextual (disch:=omega) only[go_sem,e0,e1,e2,e3,er,w2,c1,cA,nr,nc,ncI,hl,ir,lr,ic,lc,s1,s2]
      refine⟨hi - c,by omega,hJ _ _ _ ⟨c,swp D (F+r) (F+c),?_,?_,?_,?_,?_,rfl,by omega,by rw[Go.Sort.swp_size];exact hD,by omega,hH2,hE⟩⟩
      all_goals simp +contextual (disch:=omega) only[go_sem,e0,e1,e2,e3,er,ncI]
     |false=>
      rw[if_pos (by simp[hl])] at hE
      simp +contextual (disch:=omega) only[go_sem,e0,e1,e2,e3,er,hl]
      exact⟨_,rfl,hle,rfl,by rw[<- hE];exact hH⟩
   ·have cA:decide (2*(r:Int)+1+1<hi)=false:=by simp;omega
    rw[if_neg (by simp;intro h;omega)] at hE
    obtain⟨c,hc⟩:∃ c,c=2*r+1:=⟨_,rfl⟩
    rw[<- hc] at hE
    have ncI:2*(r:Int)+1=c:=by omega
    have nc:Aw (some (.int .i64 ((F:Int)+c)))=some (F+c):=B9 (by simp)
    have ic:=hH.iad (j:=F+c) (by omega)
    have lc:=hH.ld (j:=F+c) (by omega)
    rw[ncI] at c1 cA
    simp +contextual (disch:=omega) only[go_sem,e0,e1,e2,e3,er,w2,c1,cA,nr,nc,ncI,ir,lr,ic,lc]
    obtain⟨τ1,τ2,s1,s2,hH2,hl2⟩:=hH.sw (a:=F+r) (b:=F+c) (by omega) (by omega)
    refine Ad (S.call _ _ _) ?_
    cases hl:lt D[F+r]! D[F+c]! with
    |true=>
     rw[if_neg (by simp[hl])] at hE
     simp +contextual (disch:=omega) only[go_sem,e0,e1,e2,e3,er,w2,c1,cA,nr,nc,ncI,hl,ir,lr,ic,lc,s1,s2]
     refine⟨hi - c,by omega,hJ _ _ _ ⟨c,swp D (F+r) (F+c),?_,?_,?_,?_,?_,rfl,by omega,by rw[Go.Sort.swp_size];exact hD,by omega,hH2,hE⟩⟩
     all_goals simp +contextual (disch:=omega) only[go_sem,e0,e1,e2,e3,er,ncI]
    |false=>
     rw[if_pos (by simp[hl])] at hE
     simp +contextual (disch:=omega) only[go_sem,e0,e1,e2,e3,er,hl]
     exact⟨_,rfl,hle,rfl,by rw[<- hE];exact hH⟩
 obtain⟨r,τ,R,rfl,h⟩:=key
 exact⟨τ,R,h⟩
theorem heap_ret (S:SrtO α lt) (H:Holds S.e σ0 σ rs k v d) {a b:Nat} (hab:a<=b) (hb:b<=d.size) (hs:d.size<=1099511627776):∃ τ,Ret Tryz.prog S.q.heapSort [v,gi a,gi b] σ (.tup []) τ/\Holds S.e σ0 τ rs k v (heapSort lt d a b):=by
 have key:∃ r τ,Ret Tryz.prog S.q.heapSort [v,gi a,gi b] σ r τ/\r= .tup []/\Holds S.e σ0 τ rs k v (heapSort lt d a b):=by
  refine Ay S.h_heapSort (Z0z rfl) ?_
  obtain⟨h,hh⟩:∃ h,h=b - a:=⟨_,rfl⟩
  have hI:(b:Int) - a=h:=by omega
  have hq:((h:Int) - 1).tdiv 2=(((h - 1) / 2+1:Nat):Int) - 1:=by
   rcases Zar h with rfl|hp
   ·rfl
   ·have:(h:Int) - 1=((h - 1:Nat):Int):=by omega
    rw[this]
    have h2:((h - 1:Nat):Int).tdiv 2=(((h - 1) / 2:Nat):Int):=rfl
    rw[h2];omega
  obtain⟨M,hM⟩:∃ M,M=(h - 1) / 2+1:=⟨_,rfl⟩
  rw[<- hM] at hq
  have hE:heapSort lt d a b=heapPop lt a h (heapBuild lt h a M d):=by rw[heapSort,hM,hh]
  rw[hE]
  simp +contextual (disch:=omega) only[go_sem,Rb,hI,hq]
  refine C3 (fun n env τ=>∃(m:Nat) (D:Array α),env 0=v/\env 1=gi a/\env 2=gi b/\env 6=gi a/\env 7=gi 0/\env 8=gi h/\env 9=gi ((m:Int) - 1)/\m=n/\m<=M/\D.size=d.size/\σ.length<=τ.length/\Holds S.e σ0 τ rs k v D/\heapBuild lt h a m D=heapBuild lt h a M d) M ⟨M,d,rfl,rfl,rfl,rfl,rfl,rfl,rfl,rfl,Zaa _,rfl,Zaa _,H,rfl⟩ ?_
  rintro J hJ n env τ ⟨m,D,e0,e1,e2,e6,e7,e8,e9,hn,hm,hD,hle,hH,hE⟩
  cases m with
  |succ j=>
   have e9:env 9=gi (j:Int):=by rw[e9];congr 1;omega
   have c0:decide ((0:Int)<=j)=true:=by simp
   rw[heapBuild] at hE
   simp +contextual (disch:=omega) only[go_sem,e0,e1,e2,e6,e7,e8,e9,c0]
   obtain⟨τ1,R,hH1⟩:=sift_ret S hH (lo:=j) (hi:=h) (F:=a) (by omega) (by omega) (by omega)
   have hl1:=R.2.1
   refine Ak R ?_
   simp +contextual (disch:=omega) only[go_sem,e0,e1,e2,e6,e7,e8,e9]
   refine⟨j,by omega,hJ _ _ _ ⟨j,_,?_,?_,?_,?_,?_,?_,?_,rfl,by omega,?_,by omega,hH1,hE⟩⟩
   all_goals first|(simp +contextual (disch:=omega) only[go_sem,e0,e1,e2,e6,e7,e8,e9];done)|(rw [siftDown_size lt h a _ _ _ (Zaa _)];exact hD)
  |zero=>
   have e9:env 9=gi (-1):=e9
   rw[heapBuild] at hE
   simp +contextual (disch:=omega) only[go_sem,e0,e1,e2,e6,e7,e8,e9]
   have c0:decide ((0:Int)<= -1)=false:=rfl
   simp +contextual (disch:=omega) only[go_sem,e0,e1,e2,e6,e7,e8,e9,c0]
   refine C3 (fun n env τ=>∃(m:Nat) (E:Array α),env 0=v/\env 1=gi a/\env 2=gi b/\env 6=gi a/\env 7=gi 0/\env 8=gi h/\env 10=gi ((m:Int) - 1)/\m=n/\m<=h/\E.size=d.size/\σ.length<=τ.length/\Holds S.e σ0 τ rs k v E/\heapPop lt a m E=heapPop lt a h (heapBuild lt h a M d)) h ⟨h,D,by simp +contextual (disch:=omega) only[go_sem,e0],by simp +contextual (disch:=omega) only[go_sem,e1],by simp +contextual (disch:=omega) only[go_sem,e2],by simp +contextual (disch:=omega) only[go_sem,e6],by simp +contextual (disch:=omega) only[go_sem,e7],by simp +contextual (disch:=omega) only[go_sem,e8],rfl,rfl,Zaa _,hD,hle,hH,by rw[hE]⟩ ?_
   clear hH hle e0 e1 e2 e6 e7 e8 e9
   rintro J2 hJ2 n2 env τ ⟨m,E,e0,e1,e2,e6,e7,e8,e9,hn2,hm,hE2,hle,hH,hP⟩
   cases m with
   |succ j=>
    have e9:env 10=gi (j:Int):=by rw[e9];congr 1;omega
    have c0:decide ((0:Int)<=j)=true:=by simp
    rw[heapPop] at hP
    have nr:Aw (some (.int .i64 ((a:Int)+j)))=some (a+j):=B9 (by simp)
    obtain⟨τ1,τ2,s1,s2,hH2,hl2⟩:=hH.sw (a:=a) (b:=a+j) (by omega) (by omega)
    obtain⟨τ3,R,hH3⟩:=sift_ret S hH2 (lo:=0) (hi:=j) (F:=a) (by rw[Go.Sort.swp_size];omega) (by omega) (by rw[Go.Sort.swp_size];omega)
    have hl3:=R.2.1
    simp +contextual (disch:=omega) only[go_sem,e0,e1,e2,e6,e7,e8,e9,c0,nr,A3,hH.iad (j:=a) (by omega),hH.ld (j:=a) (by omega),hH.iad (j:=a+j) (by omega),hH.ld (j:=a+j) (by omega),s1,s2]
    refine Ak R ?_
    simp +contextual (disch:=omega) only[go_sem,e0,e1,e2,e6,e7,e8,e9]
    refine⟨j,by omega,hJ2 _ _ _ ⟨j,_,?_,?_,?_,?_,?_,?_,?_,rfl,by omega,?_,by omega,hH3,hP⟩⟩
    all_goals first|(simp +contextual (disch:=omega) only[go_sem,e0,e1,e2,e6,e7,e8,e9];done)|(rw [siftDown_size lt _ a _ _ _ (Zaa _),Go.Sort.swp_size];exact hE2)
   |zero=>
    have e9:env 10=gi (-1):=e9
    rw[heapPop] at hP
    simp +contextual (disch:=omega) only[go_sem,e0,e1,e2,e6,e7,e8,e9,c0]
    exact⟨_,rfl,hle,rfl,by rw[<- hP];exact hH⟩
 obtain⟨r,τ,R,rfl,h⟩:=key
 exact⟨τ,R,h⟩
theorem rev_ret (S:SrtO α lt) (H:Holds S.e σ0 σ rs k v d) {a b:Nat} (hab:a<b) (hb:b<=d.size) (hs:d.size<=1099511627776):∃ τ,Ret Tryz.prog S.q.reverseRange [v,gi a,gi b] σ (.tup []) τ/\Holds S.e σ0 τ rs k v (reverseRange d a b):=by
 have key:∃ r τ,Ret Tryz.prog S.q.reverseRange [v,gi a,gi b] σ r τ/\r= .tup []/\Holds S.e σ0 τ rs k v (reverseRange d a b):=by
  refine Ay S.h_reverseRange (Z0z rfl) ?_
  have hbI:(b:Int) - 1=((b - 1:Nat):Int):=by omega
  obtain⟨h,hh⟩:∃ h,h=b - 1:=⟨_,rfl⟩
  have hE:reverseRange d a b=reverseLoop a h d:=by rw[reverseRange,hh]
  rw[hE]
  rw[<- hh] at hbI
  simp +contextual (disch:=omega) only[go_sem,Jw,hbI]
  refine C3 (fun n env τ=>∃(i j:Nat) (D:Array α),env 0=v/\env 6=gi i/\env 7=gi j/\j - i=n/\a<=i/\i<=d.size/\j<=h/\D.size=d.size/\σ.length<=τ.length/\Holds S.e σ0 τ rs k v D/\reverseLoop i j D=reverseLoop a h d) (h - a) ⟨a,h,d,rfl,rfl,rfl,rfl,Zaa _,by omega,Zaa _,rfl,Zaa _,H,rfl⟩ ?_
  rintro J hJ n env τ ⟨i,j,D,e0,e6,e7,hn,hi,hi2,hj,hD,hle,hH,hE⟩
  rw[reverseLoop] at hE
  rcases Zad i j with hlt|hge
  ·rw[if_pos hlt] at hE
   have c0:decide ((i:Int)<j)=true:=by simp;omega
   obtain⟨τ1,τ2,s1,s2,hH2,hl2⟩:=hH.sw (a:=i) (b:=j) (by omega) (by omega)
   have j1:(j:Int) - 1=((j - 1:Nat):Int):=by omega
   simp +contextual (disch:=omega) only[go_sem,e0,e6,e7,c0,A3,hH.iad (j:=i) (by omega),hH.ld (j:=i) (by omega),hH.iad (j:=j) (by omega),hH.ld (j:=j) (by omega),s1,s2]
   refine⟨(j - 1) - (i+1),by omega,hJ _ _ _ ⟨i+1,j - 1,swp D i j,?_,?_,?_,rfl,by omega,by omega,by omega,by rw[Go.Sort.swp_size];exact hD,by omega,hH2,hE⟩⟩
   all_goals simp +contextual (disch:=omega) only[go_sem,e0,e6,e7,j1]
  ·rw[if_neg (by omega)] at hE
   have c0:decide ((i:Int)<j)=false:=by simp;omega
   simp +contextual (disch:=omega) only[go_sem,e0,e6,e7,c0]
   exact⟨_,rfl,hle,rfl,by rw[<- hE];exact hH⟩
 obtain⟨r,τ,R,rfl,h⟩:=key
 exact⟨τ,R,h⟩
end O
namespace O
open Go Go.RowKit Go.Proofs.YtbeoiejnogdkpaaGreat.Sy Go.Sort
variable {α:Type} [Inhabited α] {lt:α->α->Bool} {σ0 σ:St} {rs:List Thg} {k:Nat} {v:GV} {d:Array α}
theorem pe_ret (S:SrtO α lt) (H:Holds S.e σ0 σ rs k v d) {a b p:Nat} (hab:a<b) (hp:p<b) (hb:b<=d.size) (hs:d.size<=1099511627776):∃ τ,Ret Tryz.prog S.q.partitionEqual [v,gi a,gi b,gi p] σ (gi (partitionEqual lt d a b p).1) τ/\Holds S.e σ0 τ rs k v (partitionEqual lt d a b p).2:=by
 have key:∃ r τ,Ret Tryz.prog S.q.partitionEqual [v,gi a,gi b,gi p] σ r τ/\r=gi (partitionEqual lt d a b p).1/\Holds S.e σ0 τ rs k v (partitionEqual lt d a b p).2:=by
  refine Ay S.h_partitionEqual (Z0z rfl) ?_
  obtain⟨τ1,τ2,s1,s2,hH,hl2⟩:=H.sw (a:=a) (b:=p) (by omega) (by omega)
  obtain⟨h,hh⟩:∃ h,h=b - 1:=⟨_,rfl⟩
  have hbI:(b:Int) - 1=h:=by omega
  have hsz:=Go.Sort.swp_size d a p
  rw[partitionEqual,<-hh]
  obtain⟨D0,hD0⟩:∃ D0,D0=swp d a p:=⟨_,rfl⟩
  rw[<- hD0] at hH hsz
  simp +contextual (disch:=omega) only[go_sem,I1,hbI,A3,H.iad (j:=a) (by omega),H.ld (j:=a) (by omega),H.iad (j:=p) (by omega),H.ld (j:=p) (by omega),s1,s2]
  rw[<- hD0]
  refine C3 (fun n env τ=>∃(i j:Nat) (D:Array α),env 0=v/\env 1=gi a/\env 9=gi i/\env 10=gi j/\j+1 - i=n/\1<=i/\i<=j+1/\j<b/\D.size=d.size/\σ.length<=τ.length/\Holds S.e σ0 τ rs k v D/\partEqLoop lt a i j D=partEqLoop lt a (a+1) h D0) (h+1 - (a+1)) ⟨a+1,h,D0,rfl,rfl,rfl,rfl,rfl,by omega,by omega,by omega,hsz,by omega,hH,rfl⟩ ?_
  clear hH
  rintro J hJ n env τ ⟨i,j,D,e0,e1,e9,e10,hn,hi,hij,hj,hD,hle,hH,hE⟩
  rw[partEqLoop_eq] at hE
  have ia:=hH.iad (j:=a) (by omega)
  have la:=hH.ld (j:=a) (by omega)
  simp +contextual (disch:=omega) only[go_sem]
  refine Cy (fun n env τ'=>∃(x:Nat),env 0=v/\env 1=gi a/\env 9=gi x/\env 10=gi j/\j+1 - x=n/\i<=x/\x<=j+1/\τ=τ'/\scanUp (fun x=> !lt D[a]! x) D j x=scanUp (fun x=> !lt D[a]! x) D j i) (j+1 - i) 2 (fun env τ'=>env 0=v/\env 1=gi a/\env 9=gi (scanUp (fun x=> !lt D[a]! x) D j i:Nat)/\env 10=gi j/\τ=τ') ⟨i,e0,e1,e9,e10,rfl,Zaa _,hij,rfl,rfl⟩ ?_ ?_
  ·clear e0 e1 e9 e10
   rintro J2 Y2 hJ2 hY2 n2 env τ' ⟨x,e0,e1,e9,e10,hn2,hx1,hx2,rfl,hU⟩
   rw[scanUp] at hU
   rcases Zad j x with hx|hx
   ·rw[if_neg (by simp;intro h;omega)] at hU
    have c0:decide ((x:Int)<=j)=false:=by simp;omega
    simp +contextual (disch:=omega) only[go_sem,e0,e1,e9,e10,c0]
    refine hY2 _ _ ⟨?_,?_,?_,?_,rfl⟩
    all_goals simp +contextual (disch:=omega) only[go_sem,e0,e1,e9,e10,hU]
   ·have c0:decide ((x:Int)<=j)=true:=by simp;omega
    simp +contextual (disch:=omega) only[go_sem,e0,e1,e9,e10,c0,A3,ia,la,hH.iad (j:=x) (by omega),hH.ld (j:=x) (by omega)]
    refine Ad (S.call _ _ _) ?_
    cases hl:lt D[a]! D[x]! with
    |true=>
     rw[if_neg (by simp[hl])] at hU
     simp +contextual (disch:=omega) only[go_sem,e0,e1,e9,e10,c0,hl]
     refine hY2 _ _ ⟨?_,?_,?_,?_,rfl⟩
     all_goals simp +contextual (disch:=omega) only[go_sem,e0,e1,e9,e10,hU]
    |false=>
     rw[if_pos (by simp[hl];omega)] at hU
     simp +contextual (disch:=omega) only[go_sem,e0,e1,e9,e10,c0,hl]
     refine⟨j+1 - (x+1),by omega,hJ2 _ _ _ ⟨x+1,?_,?_,?_,?_,rfl,by omega,by omega,rfl,hU⟩⟩
     all_goals simp +contextual (disch:=omega) only[go_sem,e0,e1,e9,e10]
  ·clear e0 e1 e9 e10
   rintro env τ' ⟨e0,e1,e9,e10,rfl⟩
   obtain⟨u1,u2,-,u4⟩:=scanUp_spec (fun x=> !lt D[a]! x) D j _ i rfl
   have u2:=u2 hij
   obtain⟨x,hx⟩:∃ x,x=scanUp (fun x=> !lt D[a]! x) D j i:=⟨_,rfl⟩
   rw[<- hx] at hE e9 u1 u2 u4
   simp +contextual (disch:=omega) only[go_sem]
   refine Cy (fun n env τ'=>∃(y:Nat),env 0=v/\env 1=gi a/\env 9=gi x/\env 10=gi y/\y+1=n/\y<=j/\x<=y+1/\τ=τ'/\scanDown (fun x=>lt D[a]! x) D x y=scanDown (fun x=>lt D[a]! x) D x j) (j+1) 4 (fun env τ'=>env 0=v/\env 1=gi a/\env 9=gi x/\env 10=gi (scanDown (fun x=>lt D[a]! x) D x j:Nat)/\τ=τ'/\x<=scanDown (fun x=>lt D[a]! x) D x j+1) ⟨j,e0,e1,e9,e10,rfl,Zaa _,u2,rfl,rfl⟩ ?_ ?_
   ·clear e0 e1 e9 e10
    rintro J2 Y2 hJ2 hY2 n2 env τ' ⟨y,e0,e1,e9,e10,hn2,hy1,hy2,rfl,hU⟩
    rcases Zad y x with hlt|hge
    ·have hU:scanDown (fun x=>lt D[a]! x) D x j=y:=by
      rw[<- hU]
      cases y with
      |zero=>rfl
      |succ y=>rw[scanDown,if_neg (by simp;intro h;omega)]
     have c0:decide ((x:Int)<=y)=false:=by simp;omega
     simp +contextual (disch:=omega) only[go_sem,e0,e1,e9,e10,c0]
     refine hY2 _ _ ⟨?_,?_,?_,?_,rfl,by omega⟩
     all_goals simp +contextual (disch:=omega) only[go_sem,e0,e1,e9,e10,hU]
    ·have c0:decide ((x:Int)<=y)=true:=by simp;omega
     obtain⟨z,rfl⟩:∃ z,y=z+1:=⟨y - 1,by omega⟩
     rw[scanDown] at hU
     have c0:decide ((x:Int)<=(z:Int)+1)=true:=c0
     have n1:Aw (some (.int .i64 ((z:Int)+1)))=some (z+1):=B9 (by simp)
     have z1:(z:Int)+1 - 1=z:=by omega
     simp +contextual (disch:=omega) only[go_sem,e0,e1,e9,e10,c0,A3,n1,ia,la,hH.iad (j:=z+1) (by omega),hH.ld (j:=z+1) (by omega)]
     refine Ad (S.call _ _ _) ?_
     cases hl:lt D[a]! D[z+1]! with
     |false=>
      rw[if_neg (by simp[hl])] at hU
      simp +contextual (disch:=omega) only[go_sem,e0,e1,e9,e10,c0,hl]
      refine hY2 _ _ ⟨?_,?_,?_,?_,rfl,by omega⟩
      all_goals simp +contextual (disch:=omega) only[go_sem,e0,e1,e9,e10,<-hU]
     |true=>
      rw[if_pos (by simp[hl];omega)] at hU
      simp +contextual (disch:=omega) only[go_sem,e0,e1,e9,e10,c0,z1,hl]
      refine⟨z+1,by omega,hJ2 _ _ _ ⟨z,?_,?_,?_,?_,rfl,by omega,by omega,rfl,hU⟩⟩
      all_goals simp +contextual (disch:=omega) only[go_sem,e0,e1,e9,e10]
   ·clear e0 e1 e9 e10
    rintro env τ' ⟨e0,e1,e9,e10,rfl,hxy⟩
    have w1:=scanDown_le (fun x=>lt D[a]! x) D x j
    have w4:=(scanDown_spec (fun x=>lt D[a]! x) D x j).2.2.2
    obtain⟨y,hy⟩:∃ y,y=scanDown (fun x=>lt D[a]! x) D x j:=⟨_,rfl⟩
    rw[<- hy] at hE e10 w1 w4 hxy
    rcases Zad y x with hlt|hge
    ·rw[if_pos hlt] at hE
     have c0:decide ((y:Int)<x)=true:=by simp;omega
     simp +contextual (disch:=omega) only[go_sem,e0,e1,e9,e10,c0]
     exact⟨_,rfl,hle,by rw[<- hE],by rw[<- hE];exact hH⟩
    ·rw[if_neg (by omega)] at hE
     have hne:x≠y:=by
      rintro rfl
      have q1:(!lt D[a]! D[x]!)=false:=u4 w1
      have q2:lt D[a]! D[x]! =false:=w4 (Zaa _) (by omega)
      rw[q2] at q1;cases q1
     have c0:decide ((y:Int)<x)=false:=by simp;omega
     have y1:(y:Int) - 1=((y - 1:Nat):Int):=by omega
     obtain⟨τ3,τ4,s3,s4,hH4,hl4⟩:=hH.sw (a:=x) (b:=y) (by omega) (by omega)
     simp +contextual (disch:=omega) only[go_sem,e0,e1,e9,e10,c0,A3,hH.iad (j:=x) (by omega),hH.ld (j:=x) (by omega),hH.iad (j:=y) (by omega),hH.ld (j:=y) (by omega),s3,s4]
     refine⟨y - 1+1 - (x+1),by omega,hJ _ _ _ ⟨x+1,y - 1,swp D x y,?_,?_,?_,?_,rfl,by omega,by omega,by omega,by rw[Go.Sort.swp_size];exact hD,by omega,hH4,hE⟩⟩
     all_goals simp +contextual (disch:=omega) only[go_sem,e0,e1,e9,e10,y1]
 obtain⟨r,τ,R,rfl,h⟩:=key
 exact⟨τ,R,h⟩
theorem part_ret (S:SrtO α lt) (H:Holds S.e σ0 σ rs k v d) {a b p:Nat} (hab:a<b) (hp:p<b) (hb:b<=d.size) (hs:d.size<=1099511627776):∃ τ,Ret Tryz.prog S.q.partition [v,gi a,gi b,gi p] σ (.tup [gi (partition lt d a b p).1,.bool (partition lt d a b p).2.1]) τ/\Holds S.e σ0 τ rs k v (partition lt d a b p).2.2:=by
 have key:∃ r τ,Ret Tryz.prog S.q.partition [v,gi a,gi b,gi p] σ r τ/\r= .tup [gi (partition lt d a b p).1,.bool (partition lt d a b p).2.1]/\Holds S.e σ0 τ rs k v (partition lt d a b p).2.2:=by
  refine Ay S.h_partition (Z0z rfl) ?_
  obtain⟨τ1,τ,s1,s2,hH,hl2⟩:=H.sw (a:=a) (b:=p) (by omega) (by omega)
  obtain⟨j,hh⟩:∃ h,h=b - 1:=⟨_,rfl⟩
  have hbI:(b:Int) - 1=j:=by omega
  have hD:=Go.Sort.swp_size d a p
  obtain⟨P0,hP0⟩:∃ P0,P0=partition lt d a b p:=⟨_,rfl⟩
  rw[<- hP0]
  have hE:=hP0.symm
  simp only[partition] at hE
  rw[<- hh] at hE
  obtain⟨D,hD0⟩:∃ D0,D0=swp d a p:=⟨_,rfl⟩
  rw[<- hD0] at hH hD hE
  simp +contextual (disch:=omega) only[go_sem,Oa,hbI,A3,H.iad (j:=a) (by omega),H.ld (j:=a) (by omega),H.iad (j:=p) (by omega),H.ld (j:=p) (by omega),s1,s2]
  have ia:=hH.iad (j:=a) (by omega)
  have la:=hH.ld (j:=a) (by omega)
  obtain⟨i,hi⟩:∃ i,i=a+1:=⟨_,rfl⟩
  rw[<- hi] at hE
  have hij:i<=j+1:=by omega
  refine Cy (fun n env τ'=>∃(x:Nat),env 0=v/\env 1=gi a/\env 10=gi x/\env 11=gi j/\j+1 - x=n/\i<=x/\x<=j+1/\τ=τ'/\scanUp (fun x=>lt x D[a]!) D j x=scanUp (fun x=>lt x D[a]!) D j i) (j+1 - i) 0 (fun env τ'=>env 0=v/\env 1=gi a/\env 10=gi (scanUp (fun x=>lt x D[a]!) D j i:Nat)/\env 11=gi j/\τ=τ') ⟨i,rfl,rfl,(by rw[hi];rfl),rfl,rfl,Zaa _,hij,rfl,rfl⟩ ?_ ?_
  ·skip
   rintro J2 Y2 hJ2 hY2 n2 env τ' ⟨x,e0,e1,e9,e10,hn2,hx1,hx2,rfl,hU⟩
   rw[scanUp] at hU
   rcases Zad j x with hx|hx
   ·rw[if_neg (by simp;intro h;omega)] at hU
    have c0:decide ((x:Int)<=j)=false:=by simp;omega
    simp +contextual (disch:=omega) only[go_sem,e0,e1,e9,e10,c0]
    refine hY2 _ _ ⟨?_,?_,?_,?_,rfl⟩
    all_goals simp +contextual (disch:=omega) only[go_sem,e0,e1,e9,e10,hU]
   ·have c0:decide ((x:Int)<=j)=true:=by simp;omega
    simp +contextual (disch:=omega) only[go_sem,e0,e1,e9,e10,c0,A3,ia,la,hH.iad (j:=x) (by omega),hH.ld (j:=x) (by omega)]
    refine Ad (S.call _ _ _) ?_
    cases hl:lt D[x]! D[a]! with
    |false=>
     rw[if_neg (by simp[hl])] at hU
     simp +contextual (disch:=omega) only[go_sem,e0,e1,e9,e10,c0,hl]
     refine hY2 _ _ ⟨?_,?_,?_,?_,rfl⟩
     all_goals simp +contextual (disch:=omega) only[go_sem,e0,e1,e9,e10,hU]
    |true=>
     rw[if_pos (by simp[hl];omega)] at hU
     simp +contextual (disch:=omega) only[go_sem,e0,e1,e9,e10,c0,hl]
     refine⟨j+1 - (x+1),by omega,hJ2 _ _ _ ⟨x+1,?_,?_,?_,?_,rfl,by omega,by omega,rfl,hU⟩⟩
     all_goals simp +contextual (disch:=omega) only[go_sem,e0,e1,e9,e10]
  skip
  rintro env τ' ⟨e0,e1,e9,e10,rfl⟩
  obtain⟨u1,u2,-,u4⟩:=scanUp_spec (fun x=>lt x D[a]!) D j _ i rfl
  have u2:=u2 hij
  obtain⟨x,hx⟩:∃ x,x=scanUp (fun x=>lt x D[a]!) D j i:=⟨_,rfl⟩
  rw[<- hx] at hE e9 u1 u2 u4
  simp +contextual (disch:=omega) only[go_sem]
  refine Cy (fun n env τ'=>∃(y:Nat),env 0=v/\env 1=gi a/\env 10=gi x/\env 11=gi y/\y+1=n/\y<=j/\x<=y+1/\τ=τ'/\scanDown (fun x=> !lt x D[a]!) D x y=scanDown (fun x=> !lt x D[a]!) D x j) (j+1) 2 (fun env τ'=>env 0=v/\env 1=gi a/\env 10=gi x/\env 11=gi (scanDown (fun x=> !lt x D[a]!) D x j:Nat)/\τ=τ'/\x<=scanDown (fun x=> !lt x D[a]!) D x j+1) ⟨j,e0,e1,e9,e10,rfl,Zaa _,u2,rfl,rfl⟩ ?_ ?_
  ·clear e0 e1 e9 e10
   rintro J2 Y2 hJ2 hY2 n2 env τ' ⟨y,e0,e1,e9,e10,hn2,hy1,hy2,rfl,hU⟩
   rcases Zad y x with hlt|hge
   ·have hU:scanDown (fun x=> !lt x D[a]!) D x j=y:=by
     rw[<- hU]
     cases y with
     |zero=>rfl
     |succ y=>rw[scanDown,if_neg (by simp;intro h;omega)]
    have c0:decide ((x:Int)<=y)=false:=by simp;omega
    simp +contextual (disch:=omega) only[go_sem,e0,e1,e9,e10,c0]
    refine hY2 _ _ ⟨?_,?_,?_,?_,rfl,by omega⟩
    all_goals simp +contextual (disch:=omega) only[go_sem,e0,e1,e9,e10,hU]
   ·obtain⟨z,rfl⟩:∃ z,y=z+1:=⟨y - 1,by omega⟩
    rw[scanDown] at hU
    have c0:decide ((x:Int)<=(z:Int)+1)=true:=by simp;omega
    have n1:Aw (some (.int .i64 ((z:Int)+1)))=some (z+1):=B9 (by simp)
    have z1:(z:Int)+1 - 1=z:=by omega
    simp +contextual (disch:=omega) only[go_sem,e0,e1,e9,e10,c0,A3,n1,ia,la,hH.iad (j:=z+1) (by omega),hH.ld (j:=z+1) (by omega)]
    refine Ad (S.call _ _ _) ?_
    cases hl:lt D[z+1]! D[a]! with
    |true=>
     rw[if_neg (by simp[hl])] at hU
     simp +contextual (disch:=omega) only[go_sem,e0,e1,e9,e10,c0,hl]
     refine hY2 _ _ ⟨?_,?_,?_,?_,rfl,by omega⟩
     all_goals simp +contextual (disch:=omega) only[go_sem,e0,e1,e9,e10,<-hU]
    |false=>
     rw[if_pos (by simp[hl];omega)] at hU
     simp +contextual (disch:=omega) only[go_sem,e0,e1,e9,e10,c0,z1,hl]
     refine⟨z+1,by omega,hJ2 _ _ _ ⟨z,?_,?_,?_,?_,rfl,by omega,by omega,rfl,hU⟩⟩
     all_goals simp +contextual (disch:=omega) only[go_sem,e0,e1,e9,e10]
  clear e0 e1 e9 e10
  rintro env τ' ⟨e0,e1,e9,e10,rfl,hxy⟩
  have w1:=scanDown_le (fun x=> !lt x D[a]!) D x j
  have w4:=(scanDown_spec (fun x=> !lt x D[a]!) D x j).2.2.2
  obtain⟨y,hy⟩:∃ y,y=scanDown (fun x=> !lt x D[a]!) D x j:=⟨_,rfl⟩
  rw[<- hy] at hE e10 w1 w4 hxy
  have hne:x≠y:=by
   rintro rfl
   have q1:lt D[x]! D[a]! =false:=u4 w1
   have q2:(!lt D[x]! D[a]!)=false:=w4 (Zaa _) (by omega)
   rw[q1] at q2;cases q2
  rcases Zad y x with hlt|hge
  ·rw[if_pos hlt] at hE
   subst hE
   have c0:decide ((y:Int)<x)=true:=by simp;omega
   obtain⟨τ3,τ4,s3,s4,hH4,hl4⟩:=hH.sw (a:=y) (b:=a) (by omega) (by omega)
   simp +contextual (disch:=omega) only[go_sem,e0,e1,e9,e10,c0,A3,hH.iad (j:=a) (by omega),hH.ld (j:=a) (by omega),hH.iad (j:=y) (by omega),hH.ld (j:=y) (by omega),s3,s4]
   exact⟨_,rfl,by omega,rfl,hH4⟩
  ·rw[if_neg (by omega)] at hE
   subst hE
   have c0:decide ((y:Int)<x)=false:=by simp;omega
   have y1:(y:Int) - 1=((y - 1:Nat):Int):=by omega
   obtain⟨τ3,τ4,s3,s4,hH4,hl4⟩:=hH.sw (a:=x) (b:=y) (by omega) (by omega)
   simp +contextual (disch:=omega) only[go_sem,e0,e1,e9,e10,c0,A3,hH.iad (j:=x) (by omega),hH.ld (j:=x) (by omega),hH.iad (j:=y) (by omega),hH.ld (j:=y) (by omega),s3,s4]
   obtain⟨x0,hx0⟩:∃ x0,x0=x+1:=⟨_,rfl⟩
   obtain⟨y0,hy0⟩:∃ y0,y0=y - 1:=⟨_,rfl⟩
   have hD4:(swp D x y).size=d.size:=by rw[Go.Sort.swp_size];exact hD
   obtain⟨D4,hD40⟩:∃ D4,D4=swp D x y:=⟨_,rfl⟩
   rw[<- hx0,<-hy0,<-hD40]
   rw[<- hD40] at hH4 hD4
   obtain⟨R,hR⟩:∃ R,R=partLoop lt a x0 y0 D4:=⟨_,rfl⟩
   rw[<- hR]
   refine C3 (fun n env τ=>∃(i j:Nat) (D:Array α),env 0=v/\env 1=gi a/\env 10=gi i/\env 11=gi j/\j+1 - i=n/\1<=i/\i<=j+1/\j<b/\D.size=d.size/\σ.length<=τ.length/\Holds S.e σ0 τ rs k v D/\partLoop lt a i j D=R) (y0+1 - x0) ⟨x0,y0,D4,by simp +contextual (disch:=omega) only[go_sem,e0],by simp +contextual (disch:=omega) only[go_sem,e1],by rw[hx0];simp +contextual (disch:=omega) only[go_sem,e9],by rw[hy0];simp +contextual (disch:=omega) only[go_sem,y1],rfl,by omega,by omega,by omega,hD4,by omega,hH4,hR.symm⟩ ?_
   clear hH hH4 hij ia la s1 s2 s3 s4 e0 e1 e9 e10 c0 y1 hi u1 u2 u4 w1 w4 hxy hne hge hx hy hx0 hy0 hD40 hD4 hD hD0 hl2 hl4
   rintro J hJ n env τ ⟨i,j,D,e0,e1,e9,e10,hn,hi,hij,hj,hD,hle,hH,hE⟩
   rw[partLoop_eq] at hE
   have ia:=hH.iad (j:=a) (by omega)
   have la:=hH.ld (j:=a) (by omega)
   simp +contextual (disch:=omega) only[go_sem]
   refine Cy (fun n env τ'=>∃(x:Nat),env 0=v/\env 1=gi a/\env 10=gi x/\env 11=gi j/\j+1 - x=n/\i<=x/\x<=j+1/\τ=τ'/\scanUp (fun x=>lt x D[a]!) D j x=scanUp (fun x=>lt x D[a]!) D j i) (j+1 - i) 6 (fun env τ'=>env 0=v/\env 1=gi a/\env 10=gi (scanUp (fun x=>lt x D[a]!) D j i:Nat)/\env 11=gi j/\τ=τ') ⟨i,e0,e1,e9,e10,rfl,Zaa _,hij,rfl,rfl⟩ ?_ ?_
   ·clear e0 e1 e9 e10
    rintro J2 Y2 hJ2 hY2 n2 env τ' ⟨x,e0,e1,e9,e10,hn2,hx1,hx2,rfl,hU⟩
    rw[scanUp] at hU
    rcases Zad j x with hx|hx
    ·rw[if_neg (by simp;intro h;omega)] at hU
     have c0:decide ((x:Int)<=j)=false:=by simp;omega
     simp +contextual (disch:=omega) only[go_sem,e0,e1,e9,e10,c0]
     refine hY2 _ _ ⟨?_,?_,?_,?_,rfl⟩
     all_goals simp +contextual (disch:=omega) only[go_sem,e0,e1,e9,e10,hU]
    ·have c0:decide ((x:Int)<=j)=true:=by simp;omega
     simp +contextual (disch:=omega) only[go_sem,e0,e1,e9,e10,c0,A3,ia,la,hH.iad (j:=x) (by omega),hH.ld (j:=x) (by omega)]
     refine Ad (S.call _ _ _) ?_
     cases hl:lt D[x]! D[a]! with
     |false=>
      rw[if_neg (by simp[hl])] at hU
      simp +contextual (disch:=omega) only[go_sem,e0,e1,e9,e10,c0,hl]
      refine hY2 _ _ ⟨?_,?_,?_,?_,rfl⟩
      all_goals simp +contextual (disch:=omega) only[go_sem,e0,e1,e9,e10,hU]
     |true=>
      rw[if_pos (by simp[hl];omega)] at hU
      simp +contextual (disch:=omega) only[go_sem,e0,e1,e9,e10,c0,hl]
      refine⟨j+1 - (x+1),by omega,hJ2 _ _ _ ⟨x+1,?_,?_,?_,?_,rfl,by omega,by omega,rfl,hU⟩⟩
      all_goals simp +contextual (disch:=omega) only[go_sem,e0,e1,e9,e10]
   clear e0 e1 e9 e10
   rintro env τ' ⟨e0,e1,e9,e10,rfl⟩
   obtain⟨u1,u2,-,u4⟩:=scanUp_spec (fun x=>lt x D[a]!) D j _ i rfl
   have u2:=u2 hij
   obtain⟨x,hx⟩:∃ x,x=scanUp (fun x=>lt x D[a]!) D j i:=⟨_,rfl⟩
   rw[<- hx] at hE e9 u1 u2 u4
   simp +contextual (disch:=omega) only[go_sem]
   refine Cy (fun n env τ'=>∃(y:Nat),env 0=v/\env 1=gi a/\env 10=gi x/\env 11=gi y/\y+1=n/\y<=j/\x<=y+1/\τ=τ'/\scanDown (fun x=> !lt x D[a]!) D x y=scanDown (fun x=> !lt x D[a]!) D x j) (j+1) 8 (fun env τ'=>env 0=v/\env 1=gi a/\env 10=gi x/\env 11=gi (scanDown (fun x=> !lt x D[a]!) D x j:Nat)/\τ=τ'/\x<=scanDown (fun x=> !lt x D[a]!) D x j+1) ⟨j,e0,e1,e9,e10,rfl,Zaa _,u2,rfl,rfl⟩ ?_ ?_
   ·clear e0 e1 e9 e10
    rintro J2 Y2 hJ2 hY2 n2 env τ' ⟨y,e0,e1,e9,e10,hn2,hy1,hy2,rfl,hU⟩
    rcases Zad y x with hlt|hge
    ·have hU:scanDown (fun x=> !lt x D[a]!) D x j=y:=by
      rw[<- hU]
      cases y with
      |zero=>rfl
      |succ y=>rw[scanDown,if_neg (by simp;intro h;omega)]
     have c0:decide ((x:Int)<=y)=false:=by simp;omega
     simp +contextual (disch:=omega) only[go_sem,e0,e1,e9,e10,c0]
     refine hY2 _ _ ⟨?_,?_,?_,?_,rfl,by omega⟩
     all_goals simp +contextual (disch:=omega) only[go_sem,e0,e1,e9,e10,hU]
    ·obtain⟨z,rfl⟩:∃ z,y=z+1:=⟨y - 1,by omega⟩
     rw[scanDown] at hU
     have c0:decide ((x:Int)<=(z:Int)+1)=true:=by simp;omega
     have n1:Aw (some (.int .i64 ((z:Int)+1)))=some (z+1):=B9 (by simp)
     have z1:(z:Int)+1 - 1=z:=by omega
     simp +contextual (disch:=omega) only[go_sem,e0,e1,e9,e10,c0,A3,n1,ia,la,hH.iad (j:=z+1) (by omega),hH.ld (j:=z+1) (by omega)]
     refine Ad (S.call _ _ _) ?_
     cases hl:lt D[z+1]! D[a]! with
     |true=>
      rw[if_neg (by simp[hl])] at hU
      simp +contextual (disch:=omega) only[go_sem,e0,e1,e9,e10,c0,hl]
      refine hY2 _ _ ⟨?_,?_,?_,?_,rfl,by omega⟩
      all_goals simp +contextual (disch:=omega) only[go_sem,e0,e1,e9,e10,<-hU]
     |false=>
      rw[if_pos (by simp[hl];omega)] at hU
      simp +contextual (disch:=omega) only[go_sem,e0,e1,e9,e10,c0,z1,hl]
      refine⟨z+1,by omega,hJ2 _ _ _ ⟨z,?_,?_,?_,?_,rfl,by omega,by omega,rfl,hU⟩⟩
      all_goals simp +contextual (disch:=omega) only[go_sem,e0,e1,e9,e10]
   clear e0 e1 e9 e10
   rintro env τ' ⟨e0,e1,e9,e10,rfl,hxy⟩
   have w1:=scanDown_le (fun x=> !lt x D[a]!) D x j
   have w4:=(scanDown_spec (fun x=> !lt x D[a]!) D x j).2.2.2
   obtain⟨y,hy⟩:∃ y,y=scanDown (fun x=> !lt x D[a]!) D x j:=⟨_,rfl⟩
   rw[<- hy] at hE e10 w1 w4 hxy
   have hne:x≠y:=by
    rintro rfl
    have q1:lt D[x]! D[a]! =false:=u4 w1
    have q2:(!lt D[x]! D[a]!)=false:=w4 (Zaa _) (by omega)
    rw[q1] at q2;cases q2
   rcases Zad y x with hlt|hge
   ·rw[if_pos hlt] at hE
    subst hE
    have c0:decide ((y:Int)<x)=true:=by simp;omega
    obtain⟨τ3,τ4,s3,s4,hH4,hl4⟩:=hH.sw (a:=y) (b:=a) (by omega) (by omega)
    simp +contextual (disch:=omega) only[go_sem,e0,e1,e9,e10,c0,A3,hH.iad (j:=a) (by omega),hH.ld (j:=a) (by omega),hH.iad (j:=y) (by omega),hH.ld (j:=y) (by omega),s3,s4]
    exact⟨_,rfl,by omega,rfl,hH4⟩
   ·rw[if_neg (by omega)] at hE
    have c0:decide ((y:Int)<x)=false:=by simp;omega
    have y1:(y:Int) - 1=((y - 1:Nat):Int):=by omega
    obtain⟨τ3,τ4,s3,s4,hH4,hl4⟩:=hH.sw (a:=x) (b:=y) (by omega) (by omega)
    simp +contextual (disch:=omega) only[go_sem,e0,e1,e9,e10,c0,A3,hH.iad (j:=x) (by omega),hH.ld (j:=x) (by omega),hH.iad (j:=y) (by omega),hH.ld (j:=y) (by omega),s3,s4]
    refine⟨y - 1+1 - (x+1),by omega,hJ _ _ _ ⟨x+1,y - 1,swp D x y,?_,?_,?_,?_,rfl,by omega,by omega,by omega,by rw[Go.Sort.swp_size];exact hD,by omega,hH4,hE⟩⟩
    all_goals simp +contextual (disch:=omega) only[go_sem,e0,e1,e9,e10,y1]
 obtain⟨r,τ,R,rfl,h⟩:=key
 exact⟨τ,R,h⟩
end O
namespace O
open Go Go.RowKit Go.Proofs.YtbeoiejnogdkpaaGreat.Sy Go.Sort
variable {α:Type} [Inhabited α] {lt:α->α->Bool} {σ0 σ:St} {rs:List Thg} {k:Nat} {v:GV} {d:Array α}
theorem scanSorted_ge (lt:α->α->Bool) (d:Array α) (b:Nat):∀(n i:Nat),b - i=n->i<=scanSorted lt d b i/\(i<=b->scanSorted lt d b i<=b):=by
 intro n
 induction n with
 |zero=>
  intro i hn
  rw[scanSorted,if_neg (by simp;intro h;omega)]
  exact⟨Zaa _,fun h=>h⟩
 |succ n ih=>
  intro i hn
  rw[scanSorted]
  split
  ·have:=ih (i+1) (by omega)
   exact⟨by omega,fun _=>this.2 (by omega)⟩
  ·exact⟨Zaa _,fun h=>h⟩
theorem shiftDown_size (lt:α->α->Bool):∀(j:Nat) (d:Array α),(shiftDown lt j d).size=d.size
 |0,_=>rfl
 |j+1,d=>by
  rw[shiftDown]
  split
  ·rfl
  ·rw[shiftDown_size lt j,Go.Sort.swp_size]
theorem shiftUp_size (lt:α->α->Bool) (b:Nat):∀(n j:Nat) (d:Array α),b - j=n->(shiftUp lt b j d).size=d.size:=by
 intro n
 induction n with
 |zero=>intro j d h;rw[shiftUp,if_neg (by omega)]
 |succ n ih=>
  intro j d h
  rw[shiftUp,if_pos (by omega)]
  split
  ·rfl
  ·rw[ih _ _ (by omega),Go.Sort.swp_size]
theorem pis_ret (S:SrtO α lt) (H:Holds S.e σ0 σ rs k v d) {a b:Nat} (hab:a<b) (hb:b<=d.size) (hs:d.size<=1099511627776):∃ τ,Ret Tryz.prog S.q.partialInsertionSort [v,gi a,gi b] σ (.bool (partialInsertionSort lt d a b).2) τ/\Holds S.e σ0 τ rs k v (partialInsertionSort lt d a b).1:=by
 have key:∃ r τ,Ret Tryz.prog S.q.partialInsertionSort [v,gi a,gi b] σ r τ/\r= .bool (partialInsertionSort lt d a b).2/\Holds S.e σ0 τ rs k v (partialInsertionSort lt d a b).1:=by
  refine Ay S.h_partialInsertionSort (Z0z rfl) ?_
  rw[partialInsertionSort]
  obtain⟨R,hR⟩:∃ R,R=partialIns lt a b 5 (a+1) d:=⟨_,rfl⟩
  rw[<- hR]
  simp +contextual (maxSteps:=600000) (disch:=omega) only[go_sem,Et]
  refine C3 (fun n env τ=>∃(s i:Nat) (D:Array α),env 0=v/\env 1=gi a/\env 2=gi b/\env 7=gi i/\env 8=gi s/\5 - s=n/\s<=5/\a<i/\i<=b/\D.size=d.size/\σ.length<=τ.length/\Holds S.e σ0 τ rs k v D/\partialIns lt a b (5 - s) i D=R) 5 ⟨0,a+1,d,rfl,rfl,rfl,rfl,rfl,rfl,by omega,by omega,by omega,rfl,Zaa _,H,hR.symm⟩ ?_
  rintro J hJ n env τ ⟨s,i0,D,e0,e1,e2,e7,e8,hn,hs5,hai,hib,hD,hle,hH,hE⟩
  rcases Zad s 5 with h5|h5
  ·have c0:decide ((s:Int)<5)=true:=by simp;omega
   obtain⟨m,hm⟩:∃ m,5 - s=m+1:=⟨4 - s,by omega⟩
   rw[hm,partialIns] at hE
   dsimp only at hE
   simp +contextual (maxSteps:=600000) (disch:=omega) only[go_sem,e0,e1,e2,e7,e8,c0]
   refine Cy (fun n env τ'=>∃(x:Nat),env 0=v/\env 1=gi a/\env 2=gi b/\env 7=gi x/\env 8=gi s/\b - x=n/\i0<=x/\x<=b/\τ=τ'/\scanSorted lt D b x=scanSorted lt D b i0) (b - i0) 2 (fun env τ'=>env 0=v/\env 1=gi a/\env 2=gi b/\env 7=gi (scanSorted lt D b i0:Nat)/\env 8=gi s/\τ=τ') ⟨i0,by simp +contextual (maxSteps:=600000) (disch:=omega) only[go_sem,e0],by simp +contextual (maxSteps:=600000) (disch:=omega) only[go_sem,e1],by simp +contextual (maxSteps:=600000) (disch:=omega) only[go_sem,e2],by simp +contextual (maxSteps:=600000) (disch:=omega) only[go_sem,e7],by simp +contextual (maxSteps:=600000) (disch:=omega) only[go_sem,e8],rfl,Zaa _,hib,rfl,rfl⟩ ?_ ?_
   ·clear e0 e1 e2 e7 e8
    rintro J2 Y2 hJ2 hY2 n2 env τ' ⟨x,e0,e1,e2,e7,e8,hn2,hx1,hx2,rfl,hU⟩
    rw[scanSorted] at hU
    rcases Zad x b with hx|hx
    ·have c1:decide ((x:Int)<b)=true:=by simp;omega
     have x1:(x:Int) - 1=((x - 1:Nat):Int):=by omega
     simp +contextual (maxSteps:=600000) (disch:=omega) only[go_sem,e0,e1,e2,e7,e8,c1,x1,A3,hH.iad (j:=x) (by omega),hH.ld (j:=x) (by omega),hH.iad (j:=x - 1) (by omega),hH.ld (j:=x - 1) (by omega)]
     refine Ad (S.call _ _ _) ?_
     cases hl:lt D[x]! D[x - 1]! with
     |true=>
      rw[if_neg (by simp[hl])] at hU
      simp +contextual (maxSteps:=600000) (disch:=omega) only[go_sem,e0,e1,e2,e7,e8,c1,hl]
      refine hY2 _ _ ⟨?_,?_,?_,?_,?_,rfl⟩
      all_goals simp +contextual (maxSteps:=600000) (disch:=omega) only[go_sem,e0,e1,e2,e7,e8,hU]
     |false=>
      rw[if_pos (by simp[hl];omega)] at hU
      simp +contextual (maxSteps:=600000) (disch:=omega) only[go_sem,e0,e1,e2,e7,e8,c1,hl]
      refine⟨b - (x+1),by omega,hJ2 _ _ _ ⟨x+1,?_,?_,?_,?_,?_,rfl,by omega,by omega,rfl,hU⟩⟩
      all_goals simp +contextual (maxSteps:=600000) (disch:=omega) only[go_sem,e0,e1,e2,e7,e8]
    ·rw[if_neg (by simp;intro h;omega)] at hU
     have c1:decide ((x:Int)<b)=false:=by simp;omega
     simp +contextual (maxSteps:=600000) (disch:=omega) only[go_sem,e0,e1,e2,e7,e8,c1]
     refine hY2 _ _ ⟨?_,?_,?_,?_,?_,rfl⟩
     all_goals simp +contextual (maxSteps:=600000) (disch:=omega) only[go_sem,e0,e1,e2,e7,e8,hU]
   clear e0 e1 e2 e7 e8
   rintro env τ' ⟨e0,e1,e2,e7,e8,rfl⟩
   obtain⟨g1,g2⟩:=scanSorted_ge lt D b _ i0 rfl
   have g2:=g2 hib
   obtain⟨i,hi⟩:∃ i,i=scanSorted lt D b i0:=⟨_,rfl⟩
   rw[<- hi] at hE e7 g1 g2
   by_cases h1:i=b
   ·rw[if_pos h1] at hE
    subst hE
    have c1:((b:Int)==b)=true:=by simp
    rw[h1] at e7
    simp +contextual (maxSteps:=600000) (disch:=omega) only[go_sem,e0,e1,e2,e7,e8,c1]
    exact⟨_,rfl,hle,rfl,hH⟩
   ·rw[if_neg h1] at hE
    have c1:((i:Int)==b)=false:=by simp;omega
    by_cases h50:b - a<50
    ·rw[if_pos h50] at hE
     subst hE
     have c2:decide ((b:Int) - a<50)=true:=by simp;omega
     simp +contextual (maxSteps:=600000) (disch:=omega) only[go_sem,e0,e1,e2,e7,e8,c1,c2]
     exact⟨_,rfl,hle,rfl,hH⟩
    ·rw[if_neg h50] at hE
     have c2:decide ((b:Int) - a<50)=false:=by simp;omega
     have i1:(i:Int) - 1=((i - 1:Nat):Int):=by omega
     obtain⟨τ1,τ2,s1,s2,hH1,hl1⟩:=hH.sw (a:=i) (b:=i - 1) (by omega) (by omega)
     simp +contextual (maxSteps:=600000) (disch:=omega) only[go_sem,e0,e1,e2,e7,e8,c1,c2,i1,A3,hH.iad (j:=i) (by omega),hH.ld (j:=i) (by omega),hH.iad (j:=i - 1) (by omega),hH.ld (j:=i - 1) (by omega),s1,s2]
     have hD1:(swp D i (i - 1)).size=d.size:=by rw[Go.Sort.swp_size];exact hD
     have hle1:σ.length<=τ2.length:=by omega
     obtain⟨D1,hD10⟩:∃ D1,D1=swp D i (i - 1):=⟨_,rfl⟩
     rw[<- hD10] at hE hD1 hH1
     clear hH hle s1 s2
     by_cases hA:i - a≥2
     ·rw[if_pos hA] at hE
      have cA:decide ((2:Int)<=(i:Int) - a)=true:=by simp;omega
      simp +contextual (maxSteps:=600000) (disch:=omega) only[go_sem,e0,e1,e2,e7,e8,cA]
      refine Cy (fun n env τ=>∃(j:Nat) (E:Array α),env 0=v/\env 1=gi a/\env 2=gi b/\env 7=gi i/\env 8=gi s/\env 9=gi j/\j=n/\j<b/\E.size=d.size/\σ.length<=τ.length/\Holds S.e σ0 τ rs k v E/\shiftDown lt j E=shiftDown lt (i - 1) D1) (i - 1) 4 (fun env τ=>env 0=v/\env 1=gi a/\env 2=gi b/\env 7=gi i/\env 8=gi s/\σ.length<=τ.length/\Holds S.e σ0 τ rs k v (shiftDown lt (i - 1) D1)) ⟨i - 1,D1,by simp +contextual (maxSteps:=600000) (disch:=omega) only[go_sem,e0],by simp +contextual (maxSteps:=600000) (disch:=omega) only[go_sem,e1],by simp +contextual (maxSteps:=600000) (disch:=omega) only[go_sem,e2],by simp +contextual (maxSteps:=600000) (disch:=omega) only[go_sem,e7],by simp +contextual (maxSteps:=600000) (disch:=omega) only[go_sem,e8],by simp +contextual (maxSteps:=600000) (disch:=omega) only[go_sem,i1],rfl,by omega,hD1,hle1,hH1,rfl⟩ ?_ ?_
      ·clear e0 e1 e2 e7 e8
       rintro J2 Y2 hJ2 hY2 n2 env τ ⟨j,E,e0,e1,e2,e7,e8,e9,hn2,hj,hE2,hle2,hH,hU⟩
       cases j with
       |zero=>
        have c5:decide ((1:Int)<=0)=false:=rfl
        simp +contextual (maxSteps:=600000) (disch:=omega) only[go_sem,e0,e1,e2,e7,e8,e9,c5,Int.natCast_zero]
        refine hY2 _ _ ⟨?_,?_,?_,?_,?_,hle2,by rw[<- hU];exact hH⟩
        all_goals simp +contextual (maxSteps:=600000) (disch:=omega) only[go_sem,e0,e1,e2,e7,e8]
       |succ m=>
        have c5:decide ((1:Int)<=(m:Int)+1)=true:=decide_eq_true (by omega)
        have n1:Aw (some (.int .i64 ((m:Int)+1)))=some (m+1):=B9 (by simp)
        have m1:(m:Int)+1 - 1=m:=by omega
        rw[shiftDown] at hU
        simp +contextual (maxSteps:=600000) (disch:=omega) only[go_sem,e0,e1,e2,e7,e8,e9,c5,n1,m1,A3,hH.iad (j:=m+1) (by omega),hH.ld (j:=m+1) (by omega),hH.iad (j:=m) (by omega),hH.ld (j:=m) (by omega)]
        refine Ad (S.call _ _ _) ?_
        cases hl:lt E[m+1]! E[m]! with
        |false=>
         rw[if_pos (by simp[hl])] at hU
         simp +contextual (maxSteps:=600000) (disch:=omega) only[go_sem,e0,e1,e2,e7,e8,e9,hl]
         refine hY2 _ _ ⟨?_,?_,?_,?_,?_,hle2,by rw[<- hU];exact hH⟩
         all_goals simp +contextual (maxSteps:=600000) (disch:=omega) only[go_sem,e0,e1,e2,e7,e8]
        |true=>
         rw[if_neg (by simp[hl])] at hU
         obtain⟨τ3,τ4,s3,s4,hH4,hl4⟩:=hH.sw (a:=m+1) (b:=m) (by omega) (by omega)
         simp +contextual (maxSteps:=600000) (disch:=omega) only[go_sem,e0,e1,e2,e7,e8,e9,n1,m1,A3,hl,hH.iad (j:=m+1) (by omega),hH.ld (j:=m+1) (by omega),hH.iad (j:=m) (by omega),hH.ld (j:=m) (by omega),s3,s4]
         refine⟨m,by omega,hJ2 _ _ _ ⟨m,swp E (m+1) m,?_,?_,?_,?_,?_,?_,rfl,by omega,by rw[Go.Sort.swp_size];exact hE2,by omega,hH4,hU⟩⟩
         all_goals simp +contextual (maxSteps:=600000) (disch:=omega) only[go_sem,e0,e1,e2,e7,e8,m1]
      clear e0 e1 e2 e7 e8 hH1 hle1
      rintro env τ ⟨e0,e1,e2,e7,e8,hle2,hH2⟩
      have hD2:=(shiftDown_size lt (i - 1) D1).trans hD1
      obtain⟨D2,hD20⟩:∃ D2,D2=shiftDown lt (i - 1) D1:=⟨_,rfl⟩
      rw[<- hD20] at hE hD2 hH2
      simp +contextual (maxSteps:=600000) (disch:=omega) only[go_sem]
      by_cases hB:b - i≥2
      ·rw[if_pos hB] at hE
       have cB:decide ((2:Int)<=(b:Int) - i)=true:=by simp;omega
       simp +contextual (maxSteps:=600000) (disch:=omega) only[go_sem,e0,e1,e2,e7,e8,cB,cA]
       refine Cy (fun n env τ=>∃(j:Nat) (E:Array α),env 0=v/\env 1=gi a/\env 2=gi b/\env 7=gi i/\env 8=gi s/\env 10=gi j/\b - j=n/\1<=j/\j<=b/\E.size=d.size/\σ.length<=τ.length/\Holds S.e σ0 τ rs k v E/\shiftUp lt b j E=shiftUp lt b (i+1) D2) (b - (i+1)) 6 (fun env τ=>env 0=v/\env 1=gi a/\env 2=gi b/\env 7=gi i/\env 8=gi s/\σ.length<=τ.length/\Holds S.e σ0 τ rs k v (shiftUp lt b (i+1) D2)) ⟨i+1,D2,by simp +contextual (maxSteps:=600000) (disch:=omega) only[go_sem,e0],by simp +contextual (maxSteps:=600000) (disch:=omega) only[go_sem,e1],by simp +contextual (maxSteps:=600000) (disch:=omega) only[go_sem,e2],by simp +contextual (maxSteps:=600000) (disch:=omega) only[go_sem,e7],by simp +contextual (maxSteps:=600000) (disch:=omega) only[go_sem,e8],by simp +contextual (maxSteps:=600000) (disch:=omega) only[go_sem,e7],rfl,by omega,by omega,hD2,hle2,hH2,rfl⟩ ?_ ?_
       ·clear e0 e1 e2 e7 e8
        rintro J2 Y2 hJ2 hY2 n2 env τ ⟨j,E,e0,e1,e2,e7,e8,e9,hn2,hj1,hj,hE2,hle3,hH,hU⟩
        rw[shiftUp] at hU
        rcases Zad j b with hjb|hjb
        ·rw[if_pos hjb] at hU
         have c5:decide ((j:Int)<b)=true:=by simp;omega
         have j1:(j:Int) - 1=((j - 1:Nat):Int):=by omega
         simp +contextual (maxSteps:=600000) (disch:=omega) only[go_sem,e0,e1,e2,e7,e8,e9,c5,j1,A3,hH.iad (j:=j) (by omega),hH.ld (j:=j) (by omega),hH.iad (j:=j - 1) (by omega),hH.ld (j:=j - 1) (by omega)]
         refine Ad (S.call _ _ _) ?_
         cases hl:lt E[j]! E[j - 1]! with
         |false=>
          rw[if_pos (by simp[hl])] at hU
          simp +contextual (maxSteps:=600000) (disch:=omega) only[go_sem,e0,e1,e2,e7,e8,e9,hl]
          refine hY2 _ _ ⟨?_,?_,?_,?_,?_,hle3,by rw[<- hU];exact hH⟩
          all_goals simp +contextual (maxSteps:=600000) (disch:=omega) only[go_sem,e0,e1,e2,e7,e8]
         |true=>
          rw[if_neg (by simp[hl])] at hU
          obtain⟨τ3,τ4,s3,s4,hH4,hl4⟩:=hH.sw (a:=j) (b:=j - 1) (by omega) (by omega)
          simp +contextual (maxSteps:=600000) (disch:=omega) only[go_sem,e0,e1,e2,e7,e8,e9,j1,A3,hl,hH.iad (j:=j) (by omega),hH.ld (j:=j) (by omega),hH.iad (j:=j - 1) (by omega),hH.ld (j:=j - 1) (by omega),s3,s4]
          refine⟨b - (j+1),by omega,hJ2 _ _ _ ⟨j+1,swp E j (j - 1),?_,?_,?_,?_,?_,?_,rfl,by omega,by omega,by rw[Go.Sort.swp_size];exact hE2,by omega,hH4,hU⟩⟩
          all_goals simp +contextual (maxSteps:=600000) (disch:=omega) only[go_sem,e0,e1,e2,e7,e8,e9]
        ·rw[if_neg (by omega)] at hU
         have c5:decide ((j:Int)<b)=false:=by simp;omega
         simp +contextual (maxSteps:=600000) (disch:=omega) only[go_sem,e0,e1,e2,e7,e8,e9,c5]
         refine hY2 _ _ ⟨?_,?_,?_,?_,?_,hle3,by rw[<- hU];exact hH⟩
         all_goals simp +contextual (maxSteps:=600000) (disch:=omega) only[go_sem,e0,e1,e2,e7,e8]
       clear e0 e1 e2 e7 e8 hH2 hle2
       rintro env τ ⟨e0,e1,e2,e7,e8,hle2,hH2⟩
       simp +contextual (maxSteps:=600000) (disch:=omega) only[go_sem,e0,e1,e2,e7,e8]
       refine⟨n - 1,by omega,hJ _ _ _ ⟨s+1,i,_,?_,?_,?_,?_,?_,by omega,by omega,by omega,by omega,(by rw[shiftUp_size lt b _ _ _ rfl];exact hD2),hle2,hH2,by rw[<- hE];congr 1;omega⟩⟩
       all_goals simp +contextual (maxSteps:=600000) (disch:=omega) only[go_sem,e0,e1,e2,e7,e8]
      ·rw[if_neg hB] at hE
       have cB:decide ((2:Int)<=(b:Int) - i)=false:=by simp;omega
       simp +contextual (maxSteps:=600000) (disch:=omega) only[go_sem,e0,e1,e2,e7,e8,cB,cA]
       refine⟨n - 1,by omega,hJ _ _ _ ⟨s+1,i,_,?_,?_,?_,?_,?_,by omega,by omega,by omega,by omega,hD2,hle2,hH2,by rw[<- hE];congr 1;omega⟩⟩
       all_goals simp +contextual (maxSteps:=600000) (disch:=omega) only[go_sem,e0,e1,e2,e7,e8]
     ·rw[if_neg hA] at hE
      have cA:decide ((2:Int)<=(i:Int) - a)=false:=by simp;omega
      obtain⟨D2,hD20⟩:∃ D2,D2=D1:=⟨_,rfl⟩
      have hD2:=hD1
      have hH2:=hH1
      have hle2:=hle1
      rw[<- hD20] at hE hD2 hH2
      by_cases hB:b - i≥2
      ·rw[if_pos hB] at hE
       have cB:decide ((2:Int)<=(b:Int) - i)=true:=by simp;omega
       simp +contextual (maxSteps:=600000) (disch:=omega) only[go_sem,e0,e1,e2,e7,e8,cB,cA]
       refine Cy (fun n env τ=>∃(j:Nat) (E:Array α),env 0=v/\env 1=gi a/\env 2=gi b/\env 7=gi i/\env 8=gi s/\env 10=gi j/\b - j=n/\1<=j/\j<=b/\E.size=d.size/\σ.length<=τ.length/\Holds S.e σ0 τ rs k v E/\shiftUp lt b j E=shiftUp lt b (i+1) D2) (b - (i+1)) 6 (fun env τ=>env 0=v/\env 1=gi a/\env 2=gi b/\env 7=gi i/\env 8=gi s/\σ.length<=τ.length/\Holds S.e σ0 τ rs k v (shiftUp lt b (i+1) D2)) ⟨i+1,D2,by simp +contextual (maxSteps:=600000) (disch:=omega) only[go_sem,e0],by simp +contextual (maxSteps:=600000) (disch:=omega) only[go_sem,e1],by simp +contextual (maxSteps:=600000) (disch:=omega) only[go_sem,e2],by simp +contextual (maxSteps:=600000) (disch:=omega) only[go_sem,e7],by simp +contextual (maxSteps:=600000) (disch:=omega) only[go_sem,e8],by simp +contextual (maxSteps:=600000) (disch:=omega) only[go_sem,e7],rfl,by omega,by omega,hD2,hle2,hH2,rfl⟩ ?_ ?_
       ·clear e0 e1 e2 e7 e8
        rintro J2 Y2 hJ2 hY2 n2 env τ ⟨j,E,e0,e1,e2,e7,e8,e9,hn2,hj1,hj,hE2,hle3,hH,hU⟩
        rw[shiftUp] at hU
        rcases Zad j b with hjb|hjb
        ·rw[if_pos hjb] at hU
         have c5:decide ((j:Int)<b)=true:=by simp;omega
         have j1:(j:Int) - 1=((j - 1:Nat):Int):=by omega
         simp +contextual (maxSteps:=600000) (disch:=omega) only[go_sem,e0,e1,e2,e7,e8,e9,c5,j1,A3,hH.iad (j:=j) (by omega),hH.ld (j:=j) (by omega),hH.iad (j:=j - 1) (by omega),hH.ld (j:=j - 1) (by omega)]
         refine Ad (S.call _ _ _) ?_
         cases hl:lt E[j]! E[j - 1]! with
         |false=>
          rw[if_pos (by simp[hl])] at hU
          simp +contextual (maxSteps:=600000) (disch:=omega) only[go_sem,e0,e1,e2,e7,e8,e9,hl]
          refine hY2 _ _ ⟨?_,?_,?_,?_,?_,hle3,by rw[<- hU];exact hH⟩
          all_goals simp +contextual (maxSteps:=600000) (disch:=omega) only[go_sem,e0,e1,e2,e7,e8]
         |true=>
          rw[if_neg (by simp[hl])] at hU
          obtain⟨τ3,τ4,s3,s4,hH4,hl4⟩:=hH.sw (a:=j) (b:=j - 1) (by omega) (by omega)
          simp +contextual (maxSteps:=600000) (disch:=omega) only[go_sem,e0,e1,e2,e7,e8,e9,j1,A3,hl,hH.iad (j:=j) (by omega),hH.ld (j:=j) (by omega),hH.iad (j:=j - 1) (by omega),hH.ld (j:=j - 1) (by omega),s3,s4]
          refine⟨b - (j+1),by omega,hJ2 _ _ _ ⟨j+1,swp E j (j - 1),?_,?_,?_,?_,?_,?_,rfl,by omega,by omega,by rw[Go.Sort.swp_size];exact hE2,by omega,hH4,hU⟩⟩
          all_goals simp +contextual (maxSteps:=600000) (disch:=omega) only[go_sem,e0,e1,e2,e7,e8,e9]
        ·rw[if_neg (by omega)] at hU
         have c5:decide ((j:Int)<b)=false:=by simp;omega
         simp +contextual (maxSteps:=600000) (disch:=omega) only[go_sem,e0,e1,e2,e7,e8,e9,c5]
         refine hY2 _ _ ⟨?_,?_,?_,?_,?_,hle3,by rw[<- hU];exact hH⟩
         all_goals simp +contextual (maxSteps:=600000) (disch:=omega) only[go_sem,e0,e1,e2,e7,e8]
       clear e0 e1 e2 e7 e8 hH2 hle2
       rintro env τ ⟨e0,e1,e2,e7,e8,hle2,hH2⟩
       simp +contextual (maxSteps:=600000) (disch:=omega) only[go_sem,e0,e1,e2,e7,e8]
       refine⟨n - 1,by omega,hJ _ _ _ ⟨s+1,i,_,?_,?_,?_,?_,?_,by omega,by omega,by omega,by omega,(by rw[shiftUp_size lt b _ _ _ rfl];exact hD2),hle2,hH2,by rw[<- hE];congr 1;omega⟩⟩
       all_goals simp +contextual (maxSteps:=600000) (disch:=omega) only[go_sem,e0,e1,e2,e7,e8]
      ·rw[if_neg hB] at hE
       have cB:decide ((2:Int)<=(b:Int) - i)=false:=by simp;omega
       simp +contextual (maxSteps:=600000) (disch:=omega) only[go_sem,e0,e1,e2,e7,e8,cB,cA]
       refine⟨n - 1,by omega,hJ _ _ _ ⟨s+1,i,_,?_,?_,?_,?_,?_,by omega,by omega,by omega,by omega,hD2,hle2,hH2,by rw[<- hE];congr 1;omega⟩⟩
       all_goals simp +contextual (maxSteps:=600000) (disch:=omega) only[go_sem,e0,e1,e2,e7,e8]
  ·have c0:decide ((s:Int)<5)=false:=by simp;omega
   have hm:5 - s=0:=by omega
   rw[hm,partialIns] at hE
   subst hE
   simp +contextual (maxSteps:=600000) (disch:=omega) only[go_sem,e0,e1,e2,e7,e8,c0]
   exact⟨_,rfl,hle,rfl,hH⟩
 obtain⟨r,τ,R,rfl,h⟩:=key
 exact⟨τ,R,h⟩
end O
namespace O
open Go Go.RowKit Go.Proofs.YtbeoiejnogdkpaaGreat.Sy Go.Sort
variable {α:Type} [Inhabited α] {lt:α->α->Bool} {σ0 σ:St} {rs:List Thg} {k g:Nat} {s:Int} {v:GV} {d:Array α}
theorem order2_ret (S:SrtO α lt) (H:Holds S.e σ0 σ (pt 1 g [gi s]::rs) (k+1) v d) {a b:Nat} (ha:a<d.size) (hb:b<d.size):∃(r1 r2:Nat) (s':Int) (τ:St),Ret Tryz.prog S.q.order2 [v,gi a,gi b,.ptr g 0] σ (.tup [gi r1,gi r2]) τ/\Holds S.e σ0 τ (pt 1 g [gi s']::rs) (k+1) v d/\((r1=a/\r2=b)∨(r1=b/\r2=a)):=by
 have key:∃ r τ,Ret Tryz.prog S.q.order2 [v,gi a,gi b,.ptr g 0] σ r τ/\∃(r1 r2:Nat) (s':Int),r= .tup [gi r1,gi r2]/\Holds S.e σ0 τ (pt 1 g [gi s']::rs) (k+1) v d/\((r1=a/\r2=b)∨(r1=b/\r2=a)):=by
  refine Ay S.h_order2 (Z0z rfl) ?_
  simp +contextual (disch:=omega) only[go_sem,Xw,A3,H.iad ha,H.ld ha,H.iad hb,H.ld hb]
  refine Ad (S.call _ _ _) ?_
  cases hl:lt d[b]! d[a]! with
  |true=>
   have l1:=A7 (a:=false) (n:=1) (off:=0) (H.2.pt 0 rfl)
   have l1:ldG false 1 σ (.ptr g 0)=some (gi s):=l1
   obtain⟨τ1,st1,H1,hl1⟩:=H.2.st 0 rfl 1 0 (gi (IntKind.i64.wrap (s+1))) rfl (by decide) (by simp)
   simp +contextual (disch:=omega) only[go_sem,hl,l1,st1]
   exact⟨_,rfl,by omega,b,a,IntKind.i64.wrap (s+1),rfl,⟨H.1,H1⟩,.inr ⟨rfl,rfl⟩⟩
  |false=>
   simp +contextual (disch:=omega) only[go_sem,hl]
   exact⟨_,rfl,a,b,s,rfl,H,.inl ⟨rfl,rfl⟩⟩
 obtain⟨r,τ,R,r1,r2,s',rfl,h1,h2⟩:=key
 exact⟨r1,r2,s',τ,R,h1,h2⟩
theorem median_ret (S:SrtO α lt) (H:Holds S.e σ0 σ (pt 1 g [gi s]::rs) (k+1) v d) {a b c:Nat} (ha:a<d.size) (hb:b<d.size) (hc:c<d.size):∃(r1:Nat) (s':Int) (τ:St),Ret Tryz.prog S.q.median [v,gi a,gi b,gi c,.ptr g 0] σ (gi r1) τ/\Holds S.e σ0 τ (pt 1 g [gi s']::rs) (k+1) v d/\(r1=a∨r1=b∨r1=c):=by
 have key:∃ r τ,Ret Tryz.prog S.q.median [v,gi a,gi b,gi c,.ptr g 0] σ r τ/\∃(r1:Nat) (s':Int),r=gi r1/\Holds S.e σ0 τ (pt 1 g [gi s']::rs) (k+1) v d/\(r1=a∨r1=b∨r1=c):=by
  refine Ay S.h_median (Z0z rfl) ?_
  simp +contextual (disch:=omega) only[go_sem,Xu]
  obtain⟨a1,b1,s1,τ1,R1,H1,h1⟩:=order2_ret S H ha hb
  refine Ak R1 ?_
  simp +contextual (disch:=omega) only[go_sem]
  obtain⟨b2,c2,s2,τ2,R2,H2,h2⟩:=order2_ret S H1 (a:=b1) (b:=c) (by omega) hc
  refine Ak R2 ?_
  simp +contextual (disch:=omega) only[go_sem]
  obtain⟨a3,b3,s3,τ3,R3,H3,h3⟩:=order2_ret S H2 (a:=a1) (b:=b2) (by omega) (by omega)
  refine Ak R3 ?_
  simp +contextual (disch:=omega) only[go_sem]
  have:=R1.2.1
  have:=R2.2.1
  have:=R3.2.1
  exact⟨_,rfl,by omega,b3,s3,rfl,H3,by omega⟩
 obtain⟨r,τ,R,r1,s',rfl,h1,h2⟩:=key
 exact⟨r1,s',τ,R,h1,h2⟩
theorem medAdj_ret (S:SrtO α lt) (H:Holds S.e σ0 σ (pt 1 g [gi s]::rs) (k+1) v d) {a:Nat} (h0:0<a) (ha:a+1<d.size) (hs:d.size<=1099511627776):∃(r1:Nat) (s':Int) (τ:St),Ret Tryz.prog S.q.medianAdjacent [v,gi a,.ptr g 0] σ (gi r1) τ/\Holds S.e σ0 τ (pt 1 g [gi s']::rs) (k+1) v d/\a<=r1+1/\r1<=a+1:=by
 have key:∃ r τ,Ret Tryz.prog S.q.medianAdjacent [v,gi a,.ptr g 0] σ r τ/\∃(r1:Nat) (s':Int),r=gi r1/\Holds S.e σ0 τ (pt 1 g [gi s']::rs) (k+1) v d/\a<=r1+1/\r1<=a+1:=by
  refine Ay S.h_medianAdjacent (Z0z rfl) ?_
  obtain⟨p,rfl⟩:∃ p,a=p+1:=⟨a - 1,by omega⟩
  have p1:(p:Int)+1 - 1=p:=by omega
  simp +contextual (disch:=omega) only[go_sem,Hz,p1]
  obtain⟨r1,s1,τ1,R1,H1,h1⟩:=median_ret S H (a:=p) (b:=p+1) (c:=p+1+1) (by omega) (by omega) (by omega)
  refine Ak R1 ?_
  simp +contextual (disch:=omega) only[go_sem]
  have:=R1.2.1
  exact⟨_,rfl,by omega,r1,s1,rfl,H1,by omega,by omega⟩
 obtain⟨r,τ,R,r1,s',rfl,h1,h2⟩:=key
 exact⟨r1,s',τ,R,h1,h2⟩
theorem choose_ret (S:SrtO α lt) (H:Holds S.e σ0 σ rs k v d) {a b:Nat} (hab:a<b) (hb:b<=d.size) (hs:d.size<=1099511627776):∃(p h:Nat) (τ:St),Ret Tryz.prog S.q.choosePivot [v,gi a,gi b] σ (.tup [gi p,gi h]) τ/\Holds S.e σ0 τ rs k v d/\a<=p/\p<b/\h<=2:=by
 have key:∃ r τ,Ret Tryz.prog S.q.choosePivot [v,gi a,gi b] σ r τ/\∃(p h:Nat),r= .tup [gi p,gi h]/\Holds S.e σ0 τ rs k v d/\a<=p/\p<b/\h<=2:=by
  refine Ay S.h_choosePivot (Z0z rfl) ?_
  obtain⟨l,hl⟩:∃ l,l=b - a:=⟨_,rfl⟩
  have hlI:(b:Int) - a=l:=by omega
  obtain⟨q,hq⟩:∃ q,q=l / 4:=⟨_,rfl⟩
  have hqI:(l:Int).tdiv 4=q:=by rw[hq];rfl
  obtain⟨i,hi⟩:∃ i,i=a+q*1:=⟨_,rfl⟩
  obtain⟨j,hj⟩:∃ i,i=a+q*2:=⟨_,rfl⟩
  obtain⟨m,hm⟩:∃ i,i=a+q*3:=⟨_,rfl⟩
  have hiI:(a:Int)+q*1=i:=by omega
  have hjI:(a:Int)+q*2=j:=by omega
  have hmI:(a:Int)+q*3=m:=by omega
  have H0:Holds S.e σ0 (σ++[some (.row 1 [gi 0])]) (pt 1 σ.length [gi 0]::rs) (k+1) v d:=⟨by simpa using H.1,H.2.new 1 [gi 0]⟩
  have L0:(σ++[some (Blk.row 1 [GV.int IntKind.i64 0])]).length=σ.length+1:=by simp
  have L1:(σ++[some (Blk.row 1 [gi 0])]).length=σ.length+1:=L0
  by_cases h8:8<=l
  ·have c8:decide ((8:Int)<=l)=true:=by simp;omega
   by_cases h50:50<=l
   ·have c50:decide ((50:Int)<=l)=true:=by simp;omega
    simp +contextual (disch:=omega) only[go_sem,F9,hlI,hqI,hiI,hjI,hmI,c8,c50]
    obtain⟨i1,s1,τ1,R1,H1,h1,h1'⟩:=medAdj_ret S H0 (a:=i) (by omega) (by omega) hs
    refine Ak R1 ?_
    simp +contextual (disch:=omega) only[go_sem]
    obtain⟨j1,s2,τ2,R2,H2,h2,h2'⟩:=medAdj_ret S H1 (a:=j) (by omega) (by omega) hs
    refine Ak R2 ?_
    simp +contextual (disch:=omega) only[go_sem]
    obtain⟨m1,s3,τ3,R3,H3,h3,h3'⟩:=medAdj_ret S H2 (a:=m) (by omega) (by omega) hs
    refine Ak R3 ?_
    simp +contextual (disch:=omega) only[go_sem]
    obtain⟨p,s4,τ4,R4,H4,h4⟩:=median_ret S H3 (a:=i1) (b:=j1) (c:=m1) (by omega) (by omega) (by omega)
    refine Ak R4 ?_
    have:=R1.2.1
    have:=R2.2.1
    have:=R3.2.1
    have:=R4.2.1
    have l1:ldG false 1 τ4 (.ptr σ.length 0)=some (gi s4):=A7 (a:=false) (n:=1) (off:=0) ((H4).2.pt 0 rfl)
    simp +contextual (disch:=omega) only[go_sem,l1]
    have hout:Holds S.e σ0 τ4 rs k v d:=⟨H.1,(H4).2.drop1⟩
    have key0:((s4:Int)==0)=decide ((s4:Int)=0):=rfl
    by_cases h0:(s4:Int)=0
    ·have c0:((s4:Int)==0)=true:=by simp[h0]
     simp +contextual (disch:=omega) only[go_sem,c0]
     exact⟨_,rfl,by omega,p,1,rfl,hout,by omega,by omega,by omega⟩
    ·have c0:((s4:Int)==0)=false:=by simp[h0]
     by_cases h12:(s4:Int)=12
     ·have c1:((s4:Int)==12)=true:=by simp[h12]
      simp +contextual (disch:=omega) only[go_sem,c0,c1]
      exact⟨_,rfl,by omega,p,2,rfl,hout,by omega,by omega,by omega⟩
     ·have c1:((s4:Int)==12)=false:=by simp[h12]
      simp +contextual (disch:=omega) only[go_sem,c0,c1]
      exact⟨_,rfl,by omega,p,0,rfl,hout,by omega,by omega,by omega⟩
   ·have c50:decide ((50:Int)<=l)=false:=by simp;omega
    simp +contextual (disch:=omega) only[go_sem,F9,hlI,hqI,hiI,hjI,hmI,c8,c50]
    obtain⟨p,s4,τ4,R4,H4,h4⟩:=median_ret S H0 (a:=i) (b:=j) (c:=m) (by omega) (by omega) (by omega)
    refine Ak R4 ?_
    have:=R4.2.1
    have l1:ldG false 1 τ4 (.ptr σ.length 0)=some (gi s4):=A7 (a:=false) (n:=1) (off:=0) ((H4).2.pt 0 rfl)
    simp +contextual (disch:=omega) only[go_sem,l1]
    have hout:Holds S.e σ0 τ4 rs k v d:=⟨H.1,(H4).2.drop1⟩
    have key0:((s4:Int)==0)=decide ((s4:Int)=0):=rfl
    by_cases h0:(s4:Int)=0
    ·have c0:((s4:Int)==0)=true:=by simp[h0]
     simp +contextual (disch:=omega) only[go_sem,c0]
     exact⟨_,rfl,by omega,p,1,rfl,hout,by omega,by omega,by omega⟩
    ·have c0:((s4:Int)==0)=false:=by simp[h0]
     by_cases h12:(s4:Int)=12
     ·have c1:((s4:Int)==12)=true:=by simp[h12]
      simp +contextual (disch:=omega) only[go_sem,c0,c1]
      exact⟨_,rfl,by omega,p,2,rfl,hout,by omega,by omega,by omega⟩
     ·have c1:((s4:Int)==12)=false:=by simp[h12]
      simp +contextual (disch:=omega) only[go_sem,c0,c1]
      exact⟨_,rfl,by omega,p,0,rfl,hout,by omega,by omega,by omega⟩
  ·have c8:decide ((8:Int)<=l)=false:=by simp;omega
   have l1:ldG false 1 (σ++[some (.row 1 [gi 0])]) (.ptr σ.length 0)=some (gi 0):=A7 (a:=false) (n:=1) (off:=0) (H0.2.pt 0 rfl)
   have c0:((0:Int)==0)=true:=rfl
   simp +contextual (disch:=omega) only[go_sem,F9,hlI,hqI,hiI,hjI,hmI,c8,l1,c0]
   exact⟨_,rfl,by omega,j,1,rfl,⟨H.1,H0.2.drop1⟩,by omega,by omega,by omega⟩
 obtain⟨r,τ,R,p,h,rfl,h1,h2⟩:=key
 exact⟨p,h,τ,R,h1,h2⟩
theorem break_ret (S:SrtO α lt) (H:Holds S.e σ0 σ rs k v d) {a b:Nat} (hab:a<=b) (hb:b<=d.size) (hs:d.size<=1099511627776):∃(d':Array α) (τ:St),Ret Tryz.prog S.q.breakPatterns [v,gi a,gi b] σ (.tup []) τ/\Holds S.e σ0 τ rs k v d'/\PermIn a b d d':=by
 have key:∃ r τ,Ret Tryz.prog S.q.breakPatterns [v,gi a,gi b] σ r τ/\∃(d':Array α),r= .tup []/\Holds S.e σ0 τ rs k v d'/\PermIn a b d d':=by
  refine Ay S.h_breakPatterns (Z0z rfl) ?_
  obtain⟨h,hh⟩:∃ l,l=b - a:=⟨_,rfl⟩
  have hhI:(b:Int) - a=h:=by omega
  by_cases h8:8<=h
  ·have c8:decide ((8:Int)<=h)=true:=by simp;omega
   have wu:IntKind.u64.wrap (h:Int)=h:=Ji (by omega) (by omega)
   obtain⟨q,hq⟩:∃ q,q=h / 4:=⟨_,rfl⟩
   have hqI:(h:Int).tdiv 4=q:=by rw[hq];rfl
   obtain⟨m,hm⟩:∃ i,i=a+q*2:=⟨_,rfl⟩
   have hmI:(a:Int)+q*2=m:=by omega
   have hmJ:(m:Int) - 1=((m - 1:Nat):Int):=by omega
   have H0:Holds S.e σ0 (σ++[some (.row 1 [.int .u64 h])]) (pt 1 σ.length [.int .u64 h]::rs) (k+1) v d:=⟨by simpa using H.1,H.2.new 1 [.int .u64 h]⟩
   have sp:Al [GV.int .u64 0] 0 [GV.int .u64 (h:Int)]=[.int .u64 h]:=rfl
   simp +contextual (disch:=omega) only[go_sem,G1,hhI,c8,wu,GV.cells,sp,Zav,Zay,Nat.reduceAdd,Zaa,Nat.zero_lt_one,and_self,if_true]
   rw[S.hnp]
   have hbl:h<=1099511627776:=by omega
   refine Ad (A9h _ h hbl) ?_
   obtain⟨M,hM⟩:∃ M,M=2 ^ bitsLen h:=⟨_,rfl⟩
   have hM1:=Go.Sort.two_pow_bitsLen_le (n:=h) (by omega)
   have hM2:=Nat.two_pow_pos (bitsLen h)
   rw[<- hM] at hM1 hM2
   rw[<- hM]
   have M1:(M:Int) - 1=((M - 1:Nat):Int):=by omega
   have wM:IntKind.u64.wrap ((M - 1:Nat):Int)=((M - 1:Nat):Int):=Ji (by omega) (by omega)
   have L0:(σ++[some (Blk.row 1 [GV.int .u64 (h:Int)])]).length=σ.length+1:=by simp
   simp +contextual (disch:=omega) only[go_sem,hqI,hmI,hmJ]
   refine C3 (fun n env τ=>∃(x:Nat) (y:Int) (D:Array α),env 0=v/\env 1=gi a/\env 6=gi h/\env 7= .ptr σ.length 0/\env 8= .int .u64 (M:Nat)/\env 9=gi x/\m+2 - x=n/\m - 1<=x/\x<=m+2/\σ.length<=τ.length/\Holds S.e σ0 τ (pt 1 σ.length [.int .u64 y]::rs) (k+1) v D/\PermIn a b d D) (m+2 - (m - 1)) ⟨m - 1,h,d,rfl,rfl,rfl,rfl,rfl,rfl,rfl,Zaa _,by omega,by omega,H0,permIn_refl _ _ _⟩ ?_
   rintro J hJ n env τ ⟨x,y,D,e0,e1,e6,e7,e8,e9,hn,hx1,hx2,hle,hH,hP⟩
   have hD:D.size=d.size:=hP.1
   by_cases hx:x<=m+1
   ·have c0:decide ((x:Int)<=(m:Int)+1)=true:=by simp;omega
    simp +contextual (disch:=omega) only[go_sem,e0,e1,e6,e7,e8,e9,hqI,hmI,c0]
    rw[S.hxs]
    obtain⟨y',τ1,R1,H1⟩:=Abu hH.2 0 rfl
    have hle1:=R1.2.1
    have H1:Holds S.e σ0 τ1 (pt 1 σ.length [.int .u64 y']::rs) (k+1) v D:=⟨hH.1,H1⟩
    obtain⟨w,hw,hwE⟩:=andU (y:=y') (m:=M - 1) (by omega)
    have ww:IntKind.i64.wrap (w:Int)=w:=Eb (by omega) (by omega)
    refine Ak R1 ?_
    simp +contextual (disch:=omega) only[go_sem,e0,e1,e6,e7,e8,e9,M1,wM,hwE,ww]
    obtain⟨z,hz,hzI⟩:∃ z:Nat,z<h/\(z:Int)=if h<=w then(w:Int) - h else w:=by
     by_cases hc:h<=w
     ·exact⟨w - h,by omega,by rw[if_pos hc];omega⟩
     ·exact⟨w,by omega,by rw[if_neg hc]⟩
    have nz:Aw (some (.int .i64 ((a:Int)+z)))=some (a+z):=B9 (by simp)
    obtain⟨τ3,τ4,s3,s4,hH4,hl4⟩:=H1.sw (a:=x) (b:=a+z) (by omega) (by omega)
    have hP2:=permIn_trans _ _ _ _ _ hP (swp_permIn D a b x (a+z) (by omega) (by omega) (by omega) (by omega) (by omega))
    by_cases hc:h<=w
    ·rw[if_pos hc] at hzI
     have cc:decide ((h:Int)<=w)=true:=by simp;omega
     simp +contextual (disch:=omega) only[go_sem,e0,e1,e6,e7,e8,e9,cc,<-hzI,nz,A3,H1.iad (j:=x) (by omega),H1.ld (j:=x) (by omega),H1.iad (j:=a+z) (by omega),H1.ld (j:=a+z) (by omega),s3,s4]
     refine⟨m+2 - (x+1),by omega,hJ _ _ _ ⟨x+1,y',_,?_,?_,?_,?_,?_,?_,rfl,by omega,by omega,by omega,hH4,hP2⟩⟩
     all_goals simp +contextual (disch:=omega) only[go_sem,e0,e1,e6,e7,e8,e9]
    ·rw[if_neg hc] at hzI
     have hzw:z=w:=by omega
     rw[hzw] at nz s3 s4 hH4 hP2 hz
     have cc:decide ((h:Int)<=w)=false:=by simp;omega
     simp +contextual (disch:=omega) only[go_sem,e0,e1,e6,e7,e8,e9,cc,nz,A3,H1.iad (j:=x) (by omega),H1.ld (j:=x) (by omega),H1.iad (j:=a+w) (by omega),H1.ld (j:=a+w) (by omega),s3,s4]
     refine⟨m+2 - (x+1),by omega,hJ _ _ _ ⟨x+1,y',_,?_,?_,?_,?_,?_,?_,rfl,by omega,by omega,by omega,hH4,hP2⟩⟩
     all_goals simp +contextual (disch:=omega) only[go_sem,e0,e1,e6,e7,e8,e9]
   ·have c0:decide ((x:Int)<=(m:Int)+1)=false:=by simp;omega
    simp +contextual (disch:=omega) only[go_sem,e0,e1,e6,e7,e8,e9,hqI,hmI,c0]
    exact⟨_,rfl,hle,D,rfl,⟨H.1,hH.2.drop1⟩,hP⟩
  ·have c8:decide ((8:Int)<=h)=false:=by simp;omega
   simp +contextual (disch:=omega) only[go_sem,G1,hhI,c8]
   exact⟨_,rfl,d,rfl,H,permIn_refl _ _ _⟩
 obtain⟨r,τ,R,d',rfl,h⟩:=key
 exact⟨d',τ,R,h⟩
end O
namespace O
open Go Go.RowKit Go.Proofs.YtbeoiejnogdkpaaGreat.Sy Go.Sort
variable {α:Type} [Inhabited α] {lt:α->α->Bool} {σ0:St} {rs:List Thg} {k:Nat} {v:GV}
theorem pdq_ret (S:SrtO α lt) (hS:SWO lt):∀(n:Nat) (d:Array α) (a b l:Nat) (σ:St),b - a<=n->a<=b->b<=d.size->d.size<=1099511627776->l<=1099511627776->Below lt a b d->Holds S.e σ0 σ rs k v d->∃(d':Array α) (τ:St),Ret Tryz.prog S.q.pdqsort [v,gi a,gi b,gi l] σ (.tup []) τ/\Holds S.e σ0 τ rs k v d'/\PermIn a b d d'/\SortedIn lt a b d':=by
 intro n
 induction n with
 |zero=>
  intro d a b l σ hn hab hb hs hl hB H
  have key:∃ r τ,Ret Tryz.prog S.q.pdqsort [v,gi a,gi b,gi l] σ r τ/\r= .tup []/\Holds S.e σ0 τ rs k v (insertionSort lt d a b):=by
   refine Ay S.h_pdqsort (Z0z rfl) ?_
   obtain rfl:a=b:=by omega
   simp +contextual (disch:=omega) only[go_sem,Mv]
   refine Qg (fun n env τ=>env 0=v/\env 1=gi a/\env 2=gi a/\τ=σ) 0 ⟨rfl,rfl,rfl,rfl⟩ ?_
   rintro n env τ ⟨e0,e1,e2,rfl⟩
   have a0:(a:Int) - a=0:=by omega
   have c0:decide ((0:Int)<=12)=true:=rfl
   simp +contextual (disch:=omega) only[go_sem,e0,e1,e2,a0,c0]
   obtain⟨τ1,R,H1⟩:=ins_ret S H (a:=a) (b:=a) (Zaa _) hb hs
   refine Ak R ?_
   simp +contextual (disch:=omega) only[go_sem]
   exact⟨_,rfl,R.2.1,rfl,H1⟩
  obtain⟨r,τ,R,rfl,H1⟩:=key
  obtain⟨p1,p2⟩:=insertionSort_holds hS d a b hab hb
  exact⟨_,τ,R,H1,p1,p2⟩
 |succ N ih=>
  intro d a b l σ hn hab hb hs hl hB H
  have key:∃ r τ,Ret Tryz.prog S.q.pdqsort [v,gi a,gi b,gi l] σ r τ/\∃ d',r= .tup []/\Holds S.e σ0 τ rs k v d'/\PermIn a b d d'/\SortedIn lt a b d':=by
   refine Ay S.h_pdqsort (Z0z rfl) ?_
   simp +contextual (disch:=omega) only[go_sem,Mv]
   refine C3 (fun n env τ=>∃(x y l:Nat) (wb wp:Bool) (D:Array α),env 0=v/\env 1=gi x/\env 2=gi y/\env 3=gi l/\env 8= .bool wb/\env 9= .bool wp/\y - x=n/\l<=1099511627776/\a<=x/\x<=y/\y<=b/\D.size=d.size/\σ.length<=τ.length/\Holds S.e σ0 τ rs k v D/\Below lt x y D/\∀ R,PermIn x y D R->SortedIn lt x y R->PermIn a b d R/\SortedIn lt a b R) (b - a) ⟨a,b,l,true,true,d,rfl,rfl,rfl,rfl,rfl,rfl,rfl,hl,Zaa _,hab,Zaa _,rfl,Zaa _,H,hB,fun R h1 h2=>⟨h1,h2⟩⟩ ?_
   clear H hB hl
   rintro J hJ n env τ ⟨x,y,l,wb,wp,D,e0,e1,e2,e3,e8,e9,hn2,hl,hax,hxy,hyb,hD,hle,hH,hB,hfin⟩
   rw[Abo]
   obtain⟨h,hh⟩:∃ h,h=y - x:=⟨_,rfl⟩
   have hhI:(y:Int) - x=h:=by omega
   refine Ci (fun env τ'=>env 0=v/\env 1=gi x/\env 2=gi y/\env 3=gi l/\env 8= .bool wb/\env 9= .bool wp/\env 10=gi h/\τ=τ') (fun Y hY=>by
    simp +contextual (disch:=omega) only[go_sem,e0,e1,e2,e3,e8,e9,hhI]
    refine hY _ _ ⟨?_,?_,?_,?_,?_,?_,?_,rfl⟩
    all_goals simp +contextual (disch:=omega) only[go_sem,e0,e1,e2,e3,e8,e9,hhI]) ?_
   clear e0 e1 e2 e3 e8 e9
   rintro env τ' ⟨e0,e1,e2,e3,e8,e9,e10,rfl⟩
   refine Ci (fun env τ'=>env 0=v/\env 1=gi x/\env 2=gi y/\env 3=gi l/\env 8= .bool wb/\env 9= .bool wp/\env 10=gi h/\τ=τ'/\12<h) (fun Y hY=>by
    by_cases h12:h<=12
    ·have c0:decide ((h:Int)<=12)=true:=by simp;omega
     simp +contextual (disch:=omega) only[go_sem,e0,e1,e2,e3,e8,e9,e10,c0]
     obtain⟨τ1,R,H1⟩:=ins_ret S hH (a:=x) (b:=y) hxy (by omega) (by omega)
     refine Ak R ?_
     simp +contextual (disch:=omega) only[go_sem]
     obtain⟨p1,p2⟩:=insertionSort_holds hS D x y hxy (by omega)
     have:=R.2.1
     exact⟨_,rfl,by omega,_,rfl,H1,hfin _ p1 p2⟩
    ·have c0:decide ((h:Int)<=12)=false:=by simp;omega
     simp +contextual (disch:=omega) only[go_sem,e0,e1,e2,e3,e8,e9,e10,c0]
     refine hY _ _ ⟨?_,?_,?_,?_,?_,?_,?_,rfl,by omega⟩
     all_goals simp +contextual (disch:=omega) only[go_sem,e0,e1,e2,e3,e8,e9,e10]) ?_
   clear e0 e1 e2 e3 e8 e9 e10
   rintro env τ' ⟨e0,e1,e2,e3,e8,e9,e10,rfl,h12⟩
   refine Ci (fun env τ'=>env 0=v/\env 1=gi x/\env 2=gi y/\env 3=gi l/\env 8= .bool wb/\env 9= .bool wp/\env 10=gi h/\τ=τ'/\0<l) (fun Y hY=>by
    by_cases h0:l=0
    ·have c0:((l:Int)==0)=true:=by simp[h0]
     simp +contextual (disch:=omega) only[go_sem,e0,e1,e2,e3,e8,e9,e10,c0]
     obtain⟨τ1,R,H1⟩:=heap_ret S hH (a:=x) (b:=y) hxy (by omega) (by omega)
     refine Ak R ?_
     simp +contextual (disch:=omega) only[go_sem]
     obtain⟨p1,p2⟩:=heapSort_holds hS D x y hxy (by omega)
     have:=R.2.1
     exact⟨_,rfl,by omega,_,rfl,H1,hfin _ p1 p2⟩
    ·have c0:((l:Int)==0)=false:=by simp;omega
     simp +contextual (disch:=omega) only[go_sem,e0,e1,e2,e3,e8,e9,e10,c0]
     refine hY _ _ ⟨?_,?_,?_,?_,?_,?_,?_,rfl,by omega⟩
     all_goals simp +contextual (disch:=omega) only[go_sem,e0,e1,e2,e3,e8,e9,e10]) ?_
   clear e0 e1 e2 e3 e8 e9 e10
   rintro env τ' ⟨e0,e1,e2,e3,e8,e9,e10,rfl,h0⟩
   refine Ci (fun env τ'=>∃(l':Nat) (E:Array α),env 0=v/\env 1=gi x/\env 2=gi y/\env 3=gi l'/\env 8= .bool wb/\env 9= .bool wp/\env 10=gi h/\l'<=l/\τ.length<=τ'.length/\Holds S.e σ0 τ' rs k v E/\PermIn x y D E) (fun Y hY=>by
    cases hwb:wb with
    |true=>
     rw[hwb] at e8
     simp +contextual (disch:=omega) only[go_sem,e0,e1,e2,e3,e8,e9,e10]
     refine hY _ _ ⟨l,D,?_,?_,?_,?_,?_,?_,?_,Zaa _,Zaa _,hH,permIn_refl _ _ _⟩
     all_goals simp +contextual (disch:=omega) only[go_sem,e0,e1,e2,e3,e8,e9,e10,hwb]
    |false=>
     rw[hwb] at e8
     simp +contextual (disch:=omega) only[go_sem,e0,e1,e2,e3,e8,e9,e10]
     obtain⟨E,τ1,R,H1,p1⟩:=break_ret S hH (a:=x) (b:=y) hxy (by omega) (by omega)
     refine Ak R ?_
     have l1:(l:Int) - 1=((l - 1:Nat):Int):=by omega
     simp +contextual (disch:=omega) only[go_sem,e0,e1,e2,e3,e8,e9,e10]
     refine hY _ _ ⟨l - 1,E,?_,?_,?_,?_,?_,?_,?_,by omega,R.2.1,H1,p1⟩
     all_goals simp +contextual (disch:=omega) only[go_sem,e0,e1,e2,e3,e8,e9,e10,l1,hwb]) ?_
   clear e0 e1 e2 e3 e8 e9 e10
   rintro env τ1 ⟨l1,D1,e0,e1,e2,e3,e8,e9,e10,hl1,hle1,hH1,hP1⟩
   have hD1:D1.size=D.size:=hP1.1
   refine Ci (fun env τ'=>∃(p q:Nat),env 0=v/\env 1=gi x/\env 2=gi y/\env 3=gi l1/\env 8= .bool wb/\env 9= .bool wp/\env 10=gi h/\env 11=gi p/\env 12=gi q/\τ1.length<=τ'.length/\Holds S.e σ0 τ' rs k v D1/\x<=p/\p<y/\q<=2) (fun Y hY=>by
    simp +contextual (disch:=omega) only[go_sem,e0,e1,e2,e3,e8,e9,e10]
    obtain⟨p,q,τ2,R,H2,g1,g2,g3⟩:=choose_ret S hH1 (a:=x) (b:=y) (by omega) (by omega) (by omega)
    refine Ak R ?_
    simp +contextual (disch:=omega) only[go_sem,e0,e1,e2,e3,e8,e9,e10]
    refine hY _ _ ⟨p,q,?_,?_,?_,?_,?_,?_,?_,?_,?_,R.2.1,H2,g1,g2,g3⟩
    all_goals simp +contextual (disch:=omega) only[go_sem,e0,e1,e2,e3,e8,e9,e10]) ?_
   clear e0 e1 e2 e3 e8 e9 e10 hH hH1
   rintro env τ2 ⟨p0,q0,e0,e1,e2,e3,e8,e9,e10,e11,e12,hle2,hH2,g1,g2,g3⟩
   refine Ci (fun env τ'=>∃(p q:Nat) (E:Array α),env 0=v/\env 1=gi x/\env 2=gi y/\env 3=gi l1/\env 8= .bool wb/\env 9= .bool wp/\env 10=gi h/\env 11=gi p/\env 12=gi q/\τ2.length<=τ'.length/\Holds S.e σ0 τ' rs k v E/\x<=p/\p<y/\PermIn x y D1 E) (fun Y hY=>by
    by_cases hq:q0=2
    ·have c0:((q0:Int)==2)=true:=by simp[hq]
     simp +contextual (disch:=omega) only[go_sem,e0,e1,e2,e3,e8,e9,e10,e11,e12,c0]
     obtain⟨τ3,R,H3⟩:=rev_ret S hH2 (a:=x) (b:=y) (by omega) (by omega) (by omega)
     refine Ak R ?_
     have r1:(y:Int) - 1 - ((p0:Int) - x)=((y - 1 - (p0 - x):Nat):Int):=by omega
     simp +contextual (disch:=omega) only[go_sem,e0,e1,e2,e3,e8,e9,e10,e11,e12,r1]
     refine hY _ _ ⟨y - 1 - (p0 - x),1,_,?_,?_,?_,?_,?_,?_,?_,?_,?_,R.2.1,H3,by omega,by omega,reverseRange_holds D1 x y hxy (by omega)⟩
     all_goals simp +contextual (disch:=omega) only[go_sem,e0,e1,e2,e3,e8,e9,e10,e11,Int.natCast_one]
    ·have c0:((q0:Int)==2)=false:=by simp;omega
     simp +contextual (disch:=omega) only[go_sem,e0,e1,e2,e3,e8,e9,e10,e11,e12,c0]
     refine hY _ _ ⟨p0,q0,D1,?_,?_,?_,?_,?_,?_,?_,?_,?_,Zaa _,hH2,g1,g2,permIn_refl _ _ _⟩
     all_goals simp +contextual (disch:=omega) only[go_sem,e0,e1,e2,e3,e8,e9,e10,e11,e12]) ?_
   clear e0 e1 e2 e3 e8 e9 e10 e11 e12 hH2 g1 g2 g3
   rintro env τ3 ⟨p,q,D2,e0,e1,e2,e3,e8,e9,e10,e11,e12,hle3,hH3,g1,g2,hP2⟩
   have hD2:D2.size=D1.size:=hP2.1
   have hP02:=permIn_trans _ _ _ _ _ hP1 hP2
   have B2:Below lt x y D2:=hB.perm (by omega) hP02
   refine Ci (fun env τ'=>∃(E:Array α),env 0=v/\env 1=gi x/\env 2=gi y/\env 3=gi l1/\env 8= .bool wb/\env 9= .bool wp/\env 10=gi h/\env 11=gi p/\τ3.length<=τ'.length/\Holds S.e σ0 τ' rs k v E/\PermIn x y D2 E) (fun Y hY=>by
    have stay:∀ env',env' 0=v->env' 1=gi x->env' 2=gi y->env' 3=gi l1->env' 8= .bool wb->env' 9= .bool wp->env' 10=gi h->env' 11=gi p->Y env' τ3:=fun env' a0 a1 a2 a3 a8 a9 a10 a11=>hY _ _ ⟨D2,a0,a1,a2,a3,a8,a9,a10,a11,Zaa _,hH3,permIn_refl _ _ _⟩
    cases hwb:wb with
    |false=>
     rw[hwb] at e8
     simp +contextual (disch:=omega) only[go_sem,e0,e1,e2,e3,e8,e9,e10,e11,e12]
     refine stay _ ?_ ?_ ?_ ?_ ?_ ?_ ?_ ?_
     all_goals simp +contextual (disch:=omega) only[go_sem,e0,e1,e2,e3,e8,e9,e10,e11,e12,hwb]
    |true=>
     rw[hwb] at e8
     cases hwp:wp with
     |false=>
      rw[hwp] at e9
      simp +contextual (disch:=omega) only[go_sem,e0,e1,e2,e3,e8,e9,e10,e11,e12]
      refine stay _ ?_ ?_ ?_ ?_ ?_ ?_ ?_ ?_
      all_goals simp +contextual (disch:=omega) only[go_sem,e0,e1,e2,e3,e8,e9,e10,e11,e12,hwb,hwp]
     |true=>
      rw[hwp] at e9
      by_cases hq:q=1
      ·have c0:((q:Int)==1)=true:=by simp[hq]
       simp +contextual (disch:=omega) only[go_sem,e0,e1,e2,e3,e8,e9,e10,e11,e12,c0]
       obtain⟨τ4,R,H4⟩:=pis_ret S hH3 (a:=x) (b:=y) (by omega) (by omega) (by omega)
       obtain⟨p1,p2⟩:=partialInsertionSort_holds hS D2 x y (by omega) (by omega) B2
       have:=R.2.1
       refine Ak R ?_
       cases hr:(partialInsertionSort lt D2 x y).2 with
       |true=>
        simp +contextual (disch:=omega) only[go_sem]
        exact⟨_,rfl,by omega,_,rfl,H4,hfin _ (permIn_trans _ _ _ _ _ hP02 p1) (p2 hr)⟩
       |false=>
        simp +contextual (disch:=omega) only[go_sem,e0,e1,e2,e3,e8,e9,e10,e11,e12]
        refine hY _ _ ⟨_,?_,?_,?_,?_,?_,?_,?_,?_,R.2.1,H4,p1⟩
        all_goals simp +contextual (disch:=omega) only[go_sem,e0,e1,e2,e3,e8,e9,e10,e11,e12,hwb,hwp]
      ·have c0:((q:Int)==1)=false:=by simp;omega
       simp +contextual (disch:=omega) only[go_sem,e0,e1,e2,e3,e8,e9,e10,e11,e12,c0]
       refine stay _ ?_ ?_ ?_ ?_ ?_ ?_ ?_ ?_
       all_goals simp +contextual (disch:=omega) only[go_sem,e0,e1,e2,e3,e8,e9,e10,e11,e12,hwb,hwp]) ?_
   clear e0 e1 e2 e3 e8 e9 e10 e11 e12 hH3
   rintro env τ4 ⟨D3,e0,e1,e2,e3,e8,e9,e10,e11,hle4,hH4,hP3⟩
   have hD3:D3.size=D2.size:=hP3.1
   have hP03:=permIn_trans _ _ _ _ _ hP02 hP3
   have B3:Below lt x y D3:=B2.perm (by omega) hP3
   refine Ci (fun env τ'=>env 0=v/\env 1=gi x/\env 2=gi y/\env 3=gi l1/\env 8= .bool wb/\env 9= .bool wp/\env 10=gi h/\env 11=gi p/\τ4=τ') (fun Y hY=>by
    rcases Zar x with hx|hx
    ·have c0:decide ((0:Int)<x)=false:=by simp;omega
     simp +contextual (disch:=omega) only[go_sem,e0,e1,e2,e3,e8,e9,e10,e11,c0]
     refine hY _ _ ⟨?_,?_,?_,?_,?_,?_,?_,?_,rfl⟩
     all_goals simp +contextual (disch:=omega) only[go_sem,e0,e1,e2,e3,e8,e9,e10,e11]
    ·have c0:decide ((0:Int)<x)=true:=by simp;omega
     have x1:(x:Int) - 1=((x - 1:Nat):Int):=by omega
     simp +contextual (disch:=omega) only[go_sem,e0,e1,e2,e3,e8,e9,e10,e11,c0,x1,A3,hH4.iad (j:=x - 1) (by omega),hH4.ld (j:=x - 1) (by omega),hH4.iad (j:=p) (by omega),hH4.ld (j:=p) (by omega)]
     refine Ad (S.call _ _ _) ?_
     cases hlt:lt D3[x - 1]! D3[p]! with
     |true=>
      simp +contextual (disch:=omega) only[go_sem,e0,e1,e2,e3,e8,e9,e10,e11,c0,hlt]
      refine hY _ _ ⟨?_,?_,?_,?_,?_,?_,?_,?_,rfl⟩
      all_goals simp +contextual (disch:=omega) only[go_sem,e0,e1,e2,e3,e8,e9,e10,e11]
     |false=>
      simp +contextual (disch:=omega) only[go_sem,e0,e1,e2,e3,e8,e9,e10,e11,c0,hlt]
      obtain⟨τ5,R,H5⟩:=pe_ret S hH4 (a:=x) (b:=y) (p:=p) (by omega) g2 (by omega) (by omega)
      have:=R.2.1
      refine Ak R ?_
      obtain⟨mid,D4,hX⟩:∃ m D4,partitionEqual lt D3 x y p=(m,D4):=⟨_,_,rfl⟩
      rw[hX] at H5
      rw[hX]
      obtain⟨k1,k2,k3,k4,k5⟩:=round_eq hS (partitionEqual_holds lt) hx g1 g2 (by omega) B3 hlt hX
      simp +contextual (disch:=omega) only[go_sem,e0,e1,e2,e3,e8,e9,e10,e11]
      refine⟨y - mid,by omega,hJ _ _ _ ⟨mid,y,l1,wb,wp,D4,?_,?_,?_,?_,?_,?_,rfl,by omega,by omega,k2,hyb,by omega,by omega,H5,k4,fun R h1 h2=> ?_⟩⟩
      all_goals first|(simp +contextual (disch:=omega) only[go_sem,e0,e1,e2,e3,e8,e9,e10,e11];done)|skip
      obtain⟨m1,m2⟩:=k5 R h1 h2
      exact hfin R (permIn_trans _ _ _ _ _ hP03 m1) m2) ?_
   clear e0 e1 e2 e3 e8 e9 e10 e11
   rintro env τ' ⟨e0,e1,e2,e3,e8,e9,e10,e11,rfl⟩
   obtain⟨τ5,R5,H5⟩:=part_ret S hH4 (a:=x) (b:=y) (p:=p) (by omega) g2 (by omega) (by omega)
   have hle5:=R5.2.1
   obtain⟨mid,ap,D4,hX⟩:∃ m ap D4,partition lt D3 x y p=(m,ap,D4):=⟨_,_,_,rfl⟩
   rw[hX] at H5 R5
   obtain⟨k1,k2,k3,k4,k5,k6,k7⟩:=round_part hS (partition_holds lt) g1 g2 (by omega) B3 hX
   simp +contextual (disch:=omega) only[go_sem,e0,e1,e2,e3,e8,e9,e10,e11]
   refine Ak R5 ?_
   obtain⟨q8,hq8⟩:∃ q,q=h / 8:=⟨_,rfl⟩
   have hqI:(h:Int).tdiv 8=q8:=by rw[hq8];rfl
   have m1:(mid:Int) - x=((mid - x:Nat):Int):=by omega
   have m2:(y:Int) - mid=((y - mid:Nat):Int):=by omega
   by_cases hlr:mid - x<y - mid
   ·have c0:decide (((mid - x:Nat):Int)<((y - mid:Nat):Int))=true:=by simp;omega
    simp +contextual (disch:=omega) only[go_sem,e0,e1,e2,e3,e8,e9,e10,e11,hqI,m1,m2,c0]
    obtain⟨L,τ6,R6,H6,p1,p2⟩:=ih D4 x mid l1 τ5 (by omega) k1 (by omega) (by omega) (by omega) k4 H5
    have hle6:=R6.2.1
    refine Ak R6 ?_
    obtain⟨k8,k9⟩:=k6 L p1 p2
    have hL:L.size=D4.size:=p1.1
    simp +contextual (disch:=omega) only[go_sem,e0,e1,e2,e3,e8,e9,e10,e11]
    refine⟨y - (mid+1),by omega,hJ _ _ _ ⟨mid+1,y,l1,decide ((q8:Int)<=((mid - x:Nat):Int)),ap,L,?_,?_,?_,?_,?_,?_,rfl,by omega,by omega,by omega,hyb,by omega,by omega,H6,k8,fun R h1 h2=> ?_⟩⟩
    all_goals first|(simp +contextual (disch:=omega) only[go_sem,e0,e1,e2,e3,e8,e9,e10,e11];done)|skip
    obtain⟨n1,n2⟩:=k9 R h1 h2
    exact hfin R (permIn_trans _ _ _ _ _ hP03 n1) n2
   ·have c0:decide (((mid - x:Nat):Int)<((y - mid:Nat):Int))=false:=by simp;omega
    simp +contextual (disch:=omega) only[go_sem,e0,e1,e2,e3,e8,e9,e10,e11,hqI,m1,m2,c0]
    obtain⟨L,τ6,R6,H6,p1,p2⟩:=ih D4 (mid+1) y l1 τ5 (by omega) (by omega) (by omega) (by omega) (by omega) k5 H5
    have hle6:=R6.2.1
    refine Ak R6 ?_
    obtain⟨k8,k9⟩:=k7 L p1 p2
    have hL:L.size=D4.size:=p1.1
    simp +contextual (disch:=omega) only[go_sem,e0,e1,e2,e3,e8,e9,e10,e11]
    refine⟨mid - x,by omega,hJ _ _ _ ⟨x,mid,l1,decide ((q8:Int)<=((y - mid:Nat):Int)),ap,L,?_,?_,?_,?_,?_,?_,rfl,by omega,by omega,by omega,by omega,by omega,by omega,H6,k8,fun R h1 h2=> ?_⟩⟩
    all_goals first|(simp +contextual (disch:=omega) only[go_sem,e0,e1,e2,e3,e8,e9,e10,e11];done)|skip
    obtain⟨n1,n2⟩:=k9 R h1 h2
    exact hfin R (permIn_trans _ _ _ _ _ hP03 n1) n2
  obtain⟨r,τ,R,d',rfl,h⟩:=key
  exact⟨d',τ,R,h⟩
end O
namespace O
open Go Go.RowKit Go.Proofs.YtbeoiejnogdkpaaGreat.Sy Go.Sort
variable {α:Type} [Inhabited α] {lt:α->α->Bool} {σ0 σ:St} {rs:List Thg} {v:GV}
theorem sorted_of {d d':Array α} (h:PermIn 0 d.size d d') (h4:SortedIn lt 0 d.size d'):d'.toList.Perm d.toList/\Up lt d'.toList:=by
 obtain⟨h1,h2,h3⟩:=h
 constructor
 ·have e1:d'.extract 0 d.size=d':=by rw[<- h1];simp
  have e2:d.extract 0 d.size=d:=by simp
  rw[e1,e2] at h3
  exact h3
 ·rw[Up,Zap]
  intro i j hi hj hij
  simp only[Array.length_toList] at hi hj
  have:=h4 i j (Nat.zero_le _) hij (by omega)
  rw[getElem!_pos d' j hj,getElem!_pos d' i hi] at this
  simpa using this
theorem sort_ret (S:SrtO α lt) (hS:SWO lt) {l:List α} (H:Hp σ0 σ rs) (k:Nat) (hk:rs[k]? =some (ow S.e.p.kd v l)) (hl:l.length<=1099511627776) (htri:∀ x∈l,∀ y∈l,lt x y=false->lt y x=false->x=y):∃ τ,Ret Tryz.prog S.nS [v] σ (.tup []) τ/\Hp σ0 τ (rs.set k (ow S.e.p.kd v (Ce lt l))):=by
 have key:∃ r τ,Ret Tryz.prog S.nS [v] σ r τ/\r= .tup []/\Hp σ0 τ (rs.set k (ow S.e.p.kd v (Ce lt l))):=by
  refine Ay S.h_Sort (Z0z rfl) ?_
  have hlen:=(H.sl k hk).len
  have wu:IntKind.u64.wrap (l.length:Int)=l.length:=Ji (by omega) (by omega)
  simp +contextual (disch:=omega) only[go_sem,A6m,hlen,wu]
  refine Ad (Mw σ l.length hl) ?_
  simp +contextual (disch:=omega) only[go_sem]
  have HH:Holds S.e σ0 σ rs k v l.toArray:=Holds.of H (by simpa using hk)
  have hb:=A51 hl
  obtain⟨d',τ,R,H1,p1,p2⟩:=pdq_ret S hS l.length l.toArray 0 l.length (bitsLen l.length) σ (by omega) (by omega) (by simp) (by simpa using hl) (by omega) (.inl rfl) HH
  have hz:((0:Nat):Int)=0:=rfl
  rw[hz] at R
  refine Ak R ?_
  simp +contextual (disch:=omega) only[go_sem]
  have hsz:l.length=l.toArray.size:=by simp
  rw[hsz] at p1 p2
  obtain⟨q1,q2⟩:=sorted_of p1 p2
  have hE:d'.toList=Ce lt l:=U5 hS htri (by simpa using q1) q2
  exact⟨_,rfl,R.2.1,rfl,by rw[<- hE];exact H1.2⟩
 obtain⟨r,τ,R,rfl,h⟩:=key
 exact⟨τ,R,h⟩
end O
abbrev Ih:Nat:=355
def Mg:Fn1:=⟨17,[.t 4],(rg [oV 4 kf] (rg [oM 5 0,oC 6 230 5,oM 7 6,jM 8 7 1,jC 9 7 230 8,jU 10 7 9,oQ 11 7 10,oM 12 11,vM 13 12 0,vM 14 12 1,vB 15 12 .lss 13 14,oP 16 12 15,oM 4 16] .ret))⟩
theorem Vw:A6 Tryz.prog Ih=some Mg:=by kernel_rfl
abbrev Gc:Nat:=192
abbrev Ev:Nat:=193
abbrev Hh:Nat:=283
abbrev Fe:Nat:=349
abbrev Gr:Nat:=384
abbrev Gs:Nat:=350
abbrev Fj:Nat:=353
abbrev Di:Nat:=354
abbrev Ez:Nat:=356
abbrev Gd:Nat:=357
abbrev Ff:Nat:=351
abbrev Hi:Nat:=404
abbrev Hj:Nat:=388
abbrev F0:Nat:=387
abbrev G6:Nat:=352
def elI:El Int:=⟨pI,false,gi,fun _=>rfl,fun _=>rfl,by decide⟩
theorem Sg (σ:St) (a b:Int):Ret Tryz.prog Ih [gi a,gi b] σ (.bool (ltI a b)) σ:=by
 refine Am Vw (Z0z rfl) trivial ?_
 simp +contextual (disch:=omega) only[go_sem,Mg]
 refine Ad (Fx σ a) ?_
 simp +contextual (disch:=omega) only[go_sem,ltI]
def qI:SN:=⟨Fe,Gr,Gs,Fj,Di,Ez,Gd,Ff,Hi,Hj,F0,G6,Hh,Ih,B4,Au⟩
def srtI:SrtO Int ltI where
 e:=elI
 q:=qI
 call:=Sg
 h_insertionSort:=by kernel_rfl
 h_siftDown:=by kernel_rfl
 h_heapSort:=by kernel_rfl
 h_reverseRange:=by kernel_rfl
 h_partialInsertionSort:=by kernel_rfl
 h_partitionEqual:=by kernel_rfl
 h_partition:=by kernel_rfl
 h_breakPatterns:=by kernel_rfl
 h_order2:=by kernel_rfl
 h_median:=by kernel_rfl
 h_medianAdjacent:=by kernel_rfl
 h_choosePivot:=by kernel_rfl
 h_pdqsort:=by kernel_rfl
 nS:=Gc
 h_Sort:=by kernel_rfl
 hnp:=rfl
 hxs:=rfl
theorem Nf {σ0 σ:St} {rs:List Thg} {v:GV} {l:List Int} (H:Hp σ0 σ rs) (k:Nat) (hk:rs[k]? =some (ow pI.kd v l)) (hl:l.length<=1099511627776):∃ τ,Ret Tryz.prog Gc [v] σ (.tup []) τ/\Hp σ0 τ (rs.set k (ow pI.kd v (Ce ltI l))):=
 O.sort_ret srtI A4v H k hk hl fun x _ y _=>A9a x y
abbrev Vx:Nat:=191
def Vy:Fn1:=⟨42,[.t 8],(rg [oX 4 0,o 8 (.mov (.k .nilS))] (rg [o 12 (.lit 6 0 [] []),oM 9 12] (.seq (rg [oF 13 2 4,oL 14 13,oN 15 14,oV 16 (ki 0)] (.blk 0 (.lop (rg [oB 17 .lss 16 15] (.seq (cn 17 .skip (.ext 0)) (.seq (.blk 1 (rg [oI 18 6 14 16,oW 19 6 18,o 11 (.new [(.bool false),s0,s0,z0,z0,z0]),oS 6 11 19] (rg [oF 20 0 11,oL 21 20,oM 22 1,o 23 (.eqb false (.t 21) (.t 22)),oM 24 23,jF 25 24 1 11,jL 26 24 25,jM 27 24 2,jB 28 24 .eql 26 27,oQ 29 24 28,oM 30 29,jF 31 30 2 11,jL 32 30 31,jM 33 30 3,jB 34 30 .eql 32 33,oQ 35 30 34] (cn 35 (.reg [oM 36 9,oW 37 6 11,o 38 (.lit 6 1 [(.bool false),s0,s0,z0,z0,z0] [(0,6,(.t 37))]),o 39 (.app 6 64 [(.bool false),s0,s0,z0,z0,z0] (.t 36) (.t 38)),oM 9 39]) .skip)))) (.reg [oZ 40 16 1,oM 16 40]))))))) (rg [oM 41 9,oM 8 41] .ret))))⟩
theorem A3f:A6 Tryz.prog Vx=some Vy:=by kernel_rfl
theorem Aa5 {l:List Live} {m:Bool} {o k:ByteArray} {i:Nat} (hi:i<l.length):(l.take (i+1)).filter (Gb m o k)=if Gb m o k l[i] then(l.take i).filter (Gb m o k)++[l[i]] else(l.take i).filter (Gb m o k):=by
 rw[Er hi]
 split<;>simp
theorem A0j (σ:St) (cs:List GV) (s:State) (hR:A8.R σ s cs) (m:Bool) (o k:ByteArray) (hl:Ah s<=1099511627776):
  ∃ r τ,Ret Tryz.prog Vx [.agg cs,.bool m,.str o,.str k] σ r τ/\Hp σ τ [ow Cl.kd r (Po s m o k)]:=by
 obtain⟨a,b,c,v,rfl,_,_,hv,_⟩:=hR
 obtain⟨l1,l2,l3,l4,_⟩:=Ao hl
 refine E8 A3f (Z0z rfl) ?_
 have H:=((Hp.refl σ).new 1 [a,b,c,v]).nil_Live
 simp +contextual (disch:=omega) only[go_sem,Vy,hv.len]
 generalize hb:σ.length=n1 at*
 refine Pe s.lives.length 16 (fun i env τ=>env 1= .bool m/\env 2= .str o/\env 3= .str k/\env 14=c/\env 15=gi s.lives.length/\∃ w,env 9=w/\Hp σ τ [ow Cl.kd w ((s.lives.take i).filter (Gb m o k)),pt 1 n1 [a,b,c,v]]) rfl ⟨rfl,rfl,rfl,rfl,rfl,_,rfl,H⟩ ?_ ?_
 ·rintro J hJ i env τ hi e10 c0 ⟨e1,e2,e3,e4,e15,w,e9,H⟩
  have hfl:=Zag (Gb m o k) (s.lives.take i)
  rw[List.length_take] at hfl
  have C1:=A5 (hv.pre H.sub) hi
  have G:=H.grow (pre1 τ (some (Blk.row 1 [.bool s.lives[i].map,.str s.lives[i].obj,.str s.lives[i].key,gi s.lives[i].val,gi s.lives[i].dot.rep,gi s.lives[i].dot.seq])))
  have hfs:=Aa5 (m:=m) (o:=o) (k:=k) hi
  cases hm:(s.lives[i].map==m) with
  |false=>
   have hk0:Gb m o k s.lives[i]=false:=by simp[Gb,hm]
   rw[if_neg (by simp[hk0])] at hfs
   simp +contextual (disch:=omega) only[go_sem,c0,e1,e2,e3,e4,e15,e9,e10,C1,hm,Zaj]
   refine hJ _ _ _ ⟨?_,?_,?_,?_,?_,w,?_,by rw[hfs];exact G⟩
   all_goals simp +contextual (disch:=omega) only[go_sem,e1,e2,e3,e4,e15,e9,e10]
  |true=>
   cases ho:decide (s.lives[i].obj=o) with
   |false=>
    have hk0:Gb m o k s.lives[i]=false:=by simp[Gb,hm,ho]
    rw[if_neg (by simp[hk0])] at hfs
    simp +contextual (disch:=omega) only[go_sem,c0,e1,e2,e3,e4,e15,e9,e10,C1,hm,ho,Zaj]
    refine hJ _ _ _ ⟨?_,?_,?_,?_,?_,w,?_,by rw[hfs];exact G⟩
    all_goals simp +contextual (disch:=omega) only[go_sem,e1,e2,e3,e4,e15,e9,e10]
   |true=>
    cases hk:decide (s.lives[i].key=k) with
    |false=>
     have hk0:Gb m o k s.lives[i]=false:=by simp[Gb,hm,ho,hk]
     rw[if_neg (by simp[hk0])] at hfs
     simp +contextual (disch:=omega) only[go_sem,c0,e1,e2,e3,e4,e15,e9,e10,C1,hm,ho,hk,Zaj]
     refine hJ _ _ _ ⟨?_,?_,?_,?_,?_,w,?_,by rw[hfs];exact G⟩
     all_goals simp +contextual (disch:=omega) only[go_sem,e1,e2,e3,e4,e15,e9,e10]
    |true=>
     have hk0:Gb m o k s.lives[i]=true:=by simp[Gb,hm,ho,hk]
     rw[if_pos hk0] at hfs
     obtain⟨w',τ3,e5,H3⟩:=G.app_Live 0 rfl s.lives[i] (by omega)
     simp +contextual (disch:=omega) only[go_sem,c0,e1,e2,e3,e4,e15,e9,e10,C1,hm,ho,hk,Zaj,e5]
     refine hJ _ _ _ ⟨?_,?_,?_,?_,?_,w',?_,by rw[hfs];exact H3⟩
     all_goals simp +contextual (disch:=omega) only[go_sem,e1,e2,e3,e4,e15,e9,e10]
 ·rintro env τ e10 c0 ⟨e1,e2,e3,e4,e15,w,e9,H⟩
  rw[Zae] at H
  simp +contextual (disch:=omega) only[go_sem,c0,e1,e2,e3,e4,e15,e9,e10]
  exact⟨_,rfl,H.one⟩
abbrev Mh:Nat:=67
def Mi:Fn1:=⟨34,[.t 8],(rg [oX 4 0,o 8 (.mov (.k .nilS))] (rg [o 12 (.lit 1 0 [] []),oM 9 12] (.seq (rg [oW 13 4 4,oM 14 1,oM 15 2,oM 16 3,o 17 (.call 191 [(.t 13),(.t 14),(.t 15),(.t 16)]),oN 18 17,oV 19 (ki 0)] (.blk 0 (.lop (rg [oB 20 .lss 19 18] (.seq (cn 20 .skip (.ext 0)) (.seq (.blk 1 (rg [oI 21 6 17 19,oW 22 6 21,o 11 (.new [(.bool false),s0,s0,z0,z0,z0]),oS 6 11 22] (.reg [oM 23 9,oF 24 4 11,oF 25 0 24,oL 26 25,o 27 (.lit 1 1 [z0] [(0,1,(.t 26))]),o 28 (.app 1 8 [z0] (.t 23) (.t 27)),oM 9 28]))) (.reg [oZ 29 19 1,oM 19 29]))))))) (rg [oM 30 9,oC 31 192 30] (rg [oM 32 9,oC 33 193 32,oM 8 33] .ret)))))⟩
theorem Vz:A6 Tryz.prog Mh=some Mi:=by kernel_rfl
def eqI:Eqs elI:=⟨fun x y=>by
 show binG .eql (gi x) (gi y)=_
 simp only[Acv]
 congr 2,fun x y=>by
 show binG .neq (gi x) (gi y)=_
 simp only[Acw]
 congr 2,[.int .i64 0],rfl⟩
theorem Lk:A6 Tryz.prog Ev=some (Ob elI.p.z elI.g eqI.ze):=by kernel_rfl
theorem Kb {σ0 σ:St} {rs:List Thg} {v:GV} {l:List Int} (H:Hp σ0 σ rs) (k:Nat) (hk:rs[k]? =some (ow pI.kd v l)) (hl:l.length<=1099511627776):∃ v' τ,Ret Tryz.prog Ev [v] σ v' τ/\Hp σ0 τ (rs.set k (ow pI.kd v' (Be l))):=
 A55 eqI Lk H k hk hl
theorem W0 (σ:St) (cs:List GV) (s:State) (hR:A8.R σ s cs) (m:Bool) (o k:ByteArray) (hl:Ah s<=1099511627776):
  ∃ r τ,Ret Tryz.prog Mh [.agg cs,.bool m,.str o,.str k] σ r τ/\Hp σ τ [ow pI.kd r (Fz s m o k)]:=by
 have hR0:=hR
 obtain⟨a,b,c,v,rfl,_,_,hv,_⟩:=hR
 obtain⟨l1,l2,l3,l4,_⟩:=Ao hl
 refine E8 Vz (Z0z rfl) ?_
 have H:=((Hp.refl σ).new 1 [a,b,c,v]).nil_int
 simp +contextual (disch:=omega) only[go_sem,Mi,Kk,A9 (cs:=[a,b,c,v]) rfl]
 obtain⟨r1,τ1,R1,K1⟩:=A0j _ _ s (A8.pre hR0 H.sub) m o k hl
 refine Pg R1 K1 ?_
 have H:=H.add K1
 simp only[Zaw,Zaz] at H
 generalize hL:Po s m o k=L at*
 have hLl:L.length<=1099511627776:=by
  have:=Zag (Gb m o k) s.lives
  rw[<- hL];unfold Po;omega
 have hlen0:=(H.sl 0 rfl).len
 simp +contextual (disch:=omega) only[go_sem,hlen0]
 refine Pe L.length 19 (fun i env τ=>env 17=r1/\env 18=gi L.length/\∃ w n1,env 9=w/\Hp σ τ [ow pI.kd w ((L.take i).map (·.dot.rep)),ow Cl.kd r1 L,pt 1 n1 [a,b,c,v]]) rfl ⟨rfl,rfl,_,_,rfl,(H.pick 1 rfl)⟩ ?_ ?_
 ·rintro J hJ i env τ hi e19 c0 ⟨e17,e18,w,n1,e9,H⟩
  have C1:=A5 (H.sl 1 rfl) hi
  have G:=H.grow (pre1 τ (some (Blk.row 1 [.bool L[i].map,.str L[i].obj,.str L[i].key,gi L[i].val,gi L[i].dot.rep,gi L[i].dot.seq])))
  obtain⟨w',τ3,e5,H3⟩:=G.app_int 0 rfl L[i].dot.rep (by simp;omega)
  simp +contextual (disch:=omega) only[go_sem,c0,e9,e17,e18,e19,C1,e5]
  refine hJ _ _ _ ⟨?_,?_,w',n1,?_,?_⟩
  all_goals first|(simp +contextual (disch:=omega) only[go_sem,e9,e17,e18,e19];done)|skip
  rw[Zao hi,Za0,Za4,List.map_nil]
  exact H3
 ·rintro env τ e19 c0 ⟨e17,e18,w,n1,e9,H⟩
  rw[Zae] at H
  obtain⟨τ2,R2,H2⟩:=Nf H 0 rfl (by simp;omega)
  simp +contextual (disch:=omega) only[go_sem,c0,e9,e17,e18,e19]
  refine Ak R2 ?_
  simp +contextual (disch:=omega) only[go_sem,e9,e17,e18,e19]
  have hsl:(Ce ltI (L.map (·.dot.rep))).length<=1099511627776:=by rw[Jc];simp;omega
  obtain⟨w3,τ3,R3,H3⟩:=Kb H2 0 rfl hsl
  refine Ak R3 ?_
  simp +contextual (disch:=omega) only[go_sem,e9,e17,e18,e19]
  refine⟨_,rfl,?_⟩
  have hE:Be (Ce ltI (L.map (·.dot.rep)))=Fz s m o k:=by
   rw[Fz,hL]
   exact Wh A4v A9a (Da _ _) (O1 A4v _)
  rw[<- hE]
  exact H3.one
def W1 (o:ByteArray):List Tally->Int
 |[]=>0
 |t::l=>(if t.obj=o then t.sum else 0)+W1 o l
theorem Ng (o:ByteArray):∀(l:List Tally) (n:Int),(∀ t∈l,0≤t.sum/\t.sum<=999999)->0<=n->n<1000000->l.foldl (Gh o) n=(n+W1 o l) % 1000000/\0<=W1 o l
 |[],n,_,h0,h1=>by simp only[List.foldl_nil,W1];omega
 |t::l,n,h,h0,h1=>by
  have ht:=h t Zam
  have hl:=fun x hx=>h x (Zal _ hx)
  rw[Za1,W1]
  unfold Gh
  by_cases ho:t.obj=o
  ·rw[if_pos ho,if_pos ho]
   have e1:t.sum.tmod 1000000=t.sum:=by rw[Zab ht.1];omega
   have e2:addM n (t.sum.tmod 1000000)=(n+t.sum) % 1000000:=by
    unfold addM
    rw[e1,Zab (by omega)]
   rw[e2]
   obtain⟨i1,i2⟩:=Ng o l ((n+t.sum) % 1000000) hl (by omega) (by omega)
   unfold Gh at i1
   rw[i1]
   omega
  ·rw[if_neg ho,if_neg ho]
   obtain⟨i1,i2⟩:=Ng o l n hl h0 h1
   unfold Gh at i1
   rw[i1]
   omega
theorem S3 {o:ByteArray} {r:Int}:∀ {l:List Tally},(∀ t∈l,¬ (t.obj=o/\t.rep=r))->Bk l o r=0
 |[],_=>rfl
 |t::l,h=>by
  have ht:=h t Zam
  have:(decide (t.obj=o)&&(t.rep==r))=false:=by
   by_cases h1:t.obj=o
   ·by_cases h2:t.rep=r
    ·exact absurd ⟨h1,h2⟩ ht
    ·simp[h2]
   ·simp[h1]
  unfold Bk
  rw[this]
  exact S3 fun x hx=>h x (Zal _ hx)
theorem Aby {o:ByteArray}:∀ {l:List Tally},l.Pairwise (fun a b=>Az a b=true)->(∀ t∈l,0≤t.rep/\t.rep<=2)->W1 o l=Bk l o 0+Bk l o 1+Bk l o 2
 |[],_,_=>rfl
 |t::l,hp,hr=>by
  obtain⟨p1,p2⟩:=List.pairwise_cons.1 hp
  have ih:=Aby (o:=o) p2 fun x hx=>hr x (Zal _ hx)
  have ht:=hr t Zam
  rw[W1]
  unfold Bk
  by_cases ho:t.obj=o
  ·have hn:Bk l o t.rep=0:=S3 fun x hx h=>by
    have:=p1 x hx
    rw[Qy (by rw[ho,h.1]) h.2.symm] at this
    cases this
   have hc:t.rep=0∨t.rep=1∨t.rep=2:=by omega
   rcases hc with h|h|h<;>rw[h] at hn<;>simp[ho,h,ih,hn]<;>omega
  ·simp[ho,ih]
theorem Ix {o:ByteArray} {r:Int}:∀ {l:List Tally},(∀ t∈l,0≤t.sum/\t.sum<=999999)->0<=Bk l o r/\Bk l o r<=999999
 |[],_=>by simp[Bk]
 |t::l,h=>by
  unfold Bk
  split
  ·exact h t Zam
  ·exact Ix fun x hx=>h x (Zal _ hx)
def Sh (l:List Int):Nat->Int
 |0=>0
 |i+1=>(Sh l i+l[i]?.getD 0).tmod 1000000
theorem A6t {s:State} (h:OkS s):∀ t∈s.tallies,(0<=t.rep/\t.rep<=2)/\0<=t.sum/\t.sum<=999999:=fun t ht=>by
 have:=h.t1 t ht
 simp only[tal1,Zaf] at this
 exact⟨Br.1 this.2.1,Br.1 this.2.2⟩
theorem sum_by {s:State} (h:OkS s) (o:ByteArray):Sh (Jr s.tallies o) 3=Eg s o:=by
 have hb:=A6t h
 have b0:=Ix (o:=o) (r:=0) fun t ht=>(hb t ht).2
 have b1:=Ix (o:=o) (r:=1) fun t ht=>(hb t ht).2
 have b2:=Ix (o:=o) (r:=2) fun t ht=>(hb t ht).2
 have h3:=Aby (o:=o) h.tl fun t ht=>(hb t ht).1
 obtain⟨c1,c2⟩:=Ng o s.tallies 0 (fun t ht=>(hb t ht).2) (by decide) (by decide)
 unfold Eg
 rw[c1,h3]
 show((((0:Int)+Bk s.tallies o 0).tmod 1000000+Bk s.tallies o 1).tmod 1000000+Bk s.tallies o 2).tmod 1000000=_
 rw[Zab (a:=0+Bk s.tallies o 0) (by omega),Zab (a:=(0+Bk s.tallies o 0) % 1000000+Bk s.tallies o 1) (by omega),Zab (by omega)]
 omega
theorem A6u (l:List Int) (h:∀ x∈l,0≤x/\x<=999999):∀ i,i≤l.length->0<=Sh l i/\Sh l i<=999999
 |0,_=>by simp[Sh]
 |i+1,hi=>by
  obtain⟨h1,h2⟩:=A6u l h i (by omega)
  have hx:=h l[i] (Zac (by omega))
  rw[Sh,Zai (by omega)]
  simp only[Option.getD_some]
  rw[Zab (by omega)]
  omega
theorem W3 {α:Type} [DecidableEq α] {lt:α->α->Bool} {x:α} (l:List α):x∈Hw lt l↔x∈l:=by
 have key:∀(l acc:List α),x∈l.foldl (fun acc x=>putU lt x acc) acc↔x∈l∨x∈acc:=by
  intro l
  induction l with
  |nil=>intro acc;simp
  |cons y l ih=>
   intro acc
   rw[Za1,ih,A6i,Za5]
   constructor
   ·rintro(h|h|h)
    ·exact .inl (.inr h)
    ·exact .inl (.inl h)
    ·exact .inr h
   ·rintro((h|h)|h)
    ·exact .inr (.inl h)
    ·exact .inl h
    ·exact .inr (.inr h)
 unfold Hw
 rw[key]
 simp
theorem lw_ne {s:State} {o k:ByteArray} (h:k∈Qz s false o):(Fz s false o k).length≠0:=by
 unfold Qz at h
 rw[W3] at h
 obtain⟨l,hl,rfl⟩:=List.mem_map.1 h
 obtain⟨h1,h2⟩:=Za2.1 hl
 have h3:l∈Po s false o l.key:=by
  unfold Po
  refine Za2.2 ⟨h1,?_⟩
  simp only[Dn,Zaf] at h2
  simp[Gb,h2.1]
  simpa using h2.2
 intro h0
 have h4:l.dot.rep∈Fz s false o l.key:=by
  unfold Fz
  rw[W3]
  exact List.mem_map.2 ⟨l,h3,rfl⟩
 rw[List.eq_nil_of_length_eq_zero h0] at h4
 cases h4
theorem Adp {s:State} {a:Act} (h:(Cw s a).2=0):(0<=a.dot.rep/\a.dot.rep<=2)/\okK s.know=true/\at0 s.know a.dot.rep<a.dot.seq/\(Cw s a).1.know=s.know.set a.dot.rep.toNat a.dot.seq/\okK (Cw s a).1.know=true:=by
 have hk:=Zr (s:=s) a
 unfold Cw at h hk ⊢
 by_cases h1:(B6 s&&De a)=true
 rotate_left
 ·simp[h1] at h
 simp only[h1,Zas,Zah,if_false] at h hk ⊢
 by_cases h2:Ap s.know a.dot=true
 ·simp[h2] at h
 simp only[h2,Zah,if_false] at h hk ⊢
 by_cases h3:Fn a.knew s.know=true
 rotate_left
 ·simp[h3] at h
 simp only[h3,Zas,Zah,if_false] at h hk ⊢
 by_cases h4:Pn s a=true
 rotate_left
 ·simp[h4] at h
 simp only[h4,Zas,Zah,if_false] at h hk ⊢
 by_cases h5:Fy (Jf s a)=true
 ·simp[h5] at h
 simp only[h5,Zah,if_false] at h hk ⊢
 simp only[Zaf] at h1
 have hs:=A5c.1 h1.1
 have ha:=h1.2
 simp only[De,Cq,Zaf] at ha
 have hd:=ha.1.1
 have hd2:=hd
 simp only[F4,Zaf] at hd2
 refine⟨Br.1 hd2.1,hs.kn,?_,?_,(hk hs).kn⟩
 ·have:¬ a.dot.seq<=at0 s.know a.dot.rep:=fun hle=>h2 (by simp[Ap,hs.kn,hd,hle])
  omega
 ·unfold Jf Fo
  repeat' split
  all_goals rfl
theorem Jt {l:List Unit_} {r:Int} {i:Nat} (hi:i<l.length) (hu:Cz l[i]=true) (hb:l[i].batch=false):Bt (l.take (i+1)) r=Bt (l.take i) r++(if l[i].act.dot.rep=r then[l[i].act] else[]):=by
 by_cases h:l[i].act.dot.rep=r
 ·rw[if_pos h];exact aby_t hi (by simp[Q0,hu,hb,h])
 ·rw[if_neg h,Za3];exact Ab9 hi (by simp[Q0,hu,hb,h])
theorem Aa6 {us:List Unit_} (hu:∀ u∈us,Cz u=true) (hb:∀ u∈us,u.batch=false):∀ i,i≤us.length->∀ s,runU us i=some s->okK s.know=true/\∀ r,0≤r->r<=2->(Bt (us.take i) r).Pairwise (fun a b=>a.dot.seq<b.dot.seq)/\∀ a∈Bt (us.take i) r,a.dot.seq<=at0 s.know r
 |0,_,s,h=>by
  injection h with h;subst h
  exact⟨by decide,fun r _ _=>⟨by simp[Bt],by simp[Bt]⟩⟩
 |i+1,hi,s',h=>by
  have hi':i<us.length:=hi
  rw[runU] at h
  obtain⟨s,h1,h2⟩:=Z1z.1 h
  rw[dif_pos hi'] at h2
  have hui:=hu us[i] (Zac hi')
  have hbi:=hb us[i] (Zac hi')
  have hdo:Bz s us[i]=Cw s us[i].act:=by unfold Bz;rw[hbi];rfl
  rw[hdo] at h2
  split at h2
  ·rename_i h0
   injection h2 with h2
   subst h2
   obtain⟨k1,k2⟩:=Aa6 hu hb i (by omega) s h1
   obtain⟨a1,a2,a3,a4,a5⟩:=Adp h0
   have hl:=D8 a2
   refine⟨a5,fun r hr0 hr2=> ?_⟩
   obtain⟨p1,p2⟩:=k2 r hr0 hr2
   rw[Jt hi' hui hbi,a4,A5d a1.1 hr0 (by omega)]
   by_cases hr:us[i].act.dot.rep=r
   ·rw[if_pos hr,if_pos hr.symm]
    have hlt:at0 s.know r<us[i].act.dot.seq:=by rw[<- hr];exact a3
    refine⟨List.pairwise_append.2 ⟨p1,List.pairwise_singleton _ _,fun x hx y hy=> ?_⟩,fun x hx=> ?_⟩
    ·rw[Zat.1 hy]
     have:=p2 x hx
     omega
    ·rcases List.mem_append.1 hx with h|h
     ·have:=p2 x h;omega
     ·rw[Zat.1 h];exact Int.le_refl _
   ·rw[if_neg hr,if_neg (fun e=>hr e.symm),Za3]
    exact⟨p1,p2⟩
  ·cases h2
theorem S4 {us:List Unit_} (hu:∀ u∈us,Cz u=true) (hb:∀ u∈us,u.batch=false):∀ i,i≤us.length->(Bt (us.take i) 0).length+(Bt (us.take i) 1).length+(Bt (us.take i) 2).length=i
 |0,_=>by simp[Bt]
 |i+1,hi=>by
  have hi':i<us.length:=hi
  have hui:=hu us[i] (Zac hi')
  have hbi:=hb us[i] (Zac hi')
  have ih:=S4 hu hb i (by omega)
  have ha:De us[i].act=true:=by
   unfold Cz at hui
   rw[hbi] at hui
   simp only[Zah,if_false,Zaf] at hui
   exact hui.1
  simp only[De,Cq,F4,Zaf] at ha
  have hr:=Br.1 ha.1.1.1
  rw[Jt hi' hui hbi,Jt hi' hui hbi,Jt hi' hui hbi]
  have hc:us[i].act.dot.rep=0∨us[i].act.dot.rep=1∨us[i].act.dot.rep=2:=by omega
  rcases hc with h|h|h<;>simp[h]<;>omega
theorem A6v {l:Log} (h:LogG l):(Bt l.units 0).length+(Bt l.units 1).length+(Bt l.units 2).length=l.units.length/\∀ r:Int,0≤r->r<=2->(Bt l.units r).Pairwise fun a b=>a.dot.seq<b.dot.seq:=by
 have h1:=S4 h.un h.ub l.units.length (Zaa _)
 rw[Zae] at h1
 obtain⟨_,h2⟩:=Aa6 h.un h.ub l.units.length (Zaa _) l.state h.run
 refine⟨h1,fun r hr0 hr2=> ?_⟩
 have:=(h2 r hr0 hr2).1
 rw[Zae] at this
 exact this
theorem Adr {s:State} (h:OkS s):∃ b:Nat,bust s=b/\b<3/\s.know.length=3/\∀ j (hj:j<s.know.length),s.know[j]<=s.know[b]?.getD 0:=by
 have hl:=D8 h.kn
 have hs:B6 s=true:=A5c.2 h
 obtain⟨x,y,z,e⟩:∃ x y z,s.know=[x,y,z]:=by
  match s.know,hl with
  |[x,y,z],_=>exact⟨x,y,z,rfl⟩
 have hbz:∃ b,busy s.know=some b:=by
  cases hb:busy s.know with
  |some b=>exact⟨b,rfl⟩
  |none=>
   exfalso
   unfold busy at hb
   rw[List.findIdx?_eq_none_iff] at hb
   rw[e] at hb
   have h1:=hb x (by simp)
   have h2:=hb y (by simp)
   have h3:=hb z (by simp)
   simp only[List.all_cons,List.all_nil,Bool.and_true,Bool.and_eq_false_iff,decide_eq_false_iff_not] at h1 h2 h3
   omega
 obtain⟨b,hb⟩:=hbz
 refine⟨b,by unfold bust;rw[if_pos hs,hb],?_,hl,fun j hj=> ?_⟩
 ·unfold busy at hb
  obtain⟨h1,_⟩:=Zan.1 hb
  omega
 ·unfold busy at hb
  obtain⟨h1,h2,_⟩:=Zan.1 hb
  rw[List.all_eq_true] at h2
  rw[Zai h1]
  simpa using h2 s.know[j] (Zac hj)
abbrev W4:Nat:=70
def W5:Fn1:=⟨33,[.t 4],(rg [oX 2 0,oV 4 (ki 0)] (rg [oV 5 (ki 0)] (.seq (rg [oV 6 (ki 0)] (.blk 0 (.lop (.seq (rg [oM 7 6,oF 8 1 2,oL 9 8,oN 10 9,oB 11 .lss 7 10] (cn 11 .skip (.ext 0))) (.seq (.blk 1 (rg [oF 14 1 2,oL 15 14,oM 16 6,oI 17 3 15 16,oF 18 0 17,oL 19 18,oM 20 1,oB 21 .eql 19 20] (cn 21 (.reg [oM 22 5,oF 23 1 2,oL 24 23,oM 25 6,oI 26 3 24 25,oF 27 2 26,oL 28 27,oE 29 .rem 28 1000000,oB 30 .add 22 29,oE 31 .rem 30 1000000,oM 5 31]) .skip))) (.reg [oM 12 6,oZ 13 12 1,oM 6 13])))))) (rg [oM 32 5,oM 4 32] .ret))))⟩
theorem A3g:A6 Tryz.prog W4=some W5:=by kernel_rfl
abbrev Q8:Nat:=282
def Yn:Fn1:=⟨50,[.t 4],(rg [o 4 (.mov (.k .nilS))] (rg [o 8 (.lit 1 0 [] []),oM 5 8] (rg [oV 6 kf] (.seq (rg [oV 7 (ki 0)] (.blk 0 (.lop (.seq (rg [oM 9 7,oM 10 0,oN 11 10,oB 12 .lss 9 11] (cn 12 .skip (.ext 0))) (.seq (.blk 1 (.seq (rg [oM 15 0,oM 16 7,oI 17 1 15 16,oL 18 17,oM 19 1,oB 20 .eql 18 19] (cn 20 (rg [oM 21 0,oM 4 21] .ret) .skip)) (.seq (rg [oM 22 6,oU 23 22,oM 24 23,jM 25 24 0,jM 26 24 7,jI 27 24 1 25 26,jL 28 24 27,jM 29 24 1,jB 30 24 .gtr 28 29,oQ 31 24 30] (cn 31 (rg [oM 32 5,oM 33 1,o 34 (.lit 1 1 [s0] [(0,1,(.t 33))]),o 35 (.app 1 16 [s0] (.t 32) (.t 34)),oM 5 35] (.reg [oV 6 kt])) .skip)) (.reg [oM 36 5,oM 37 0,oM 38 7,oI 39 1 37 38,oL 40 39,o 41 (.lit 1 1 [s0] [(0,1,(.t 40))]),o 42 (.app 1 16 [s0] (.t 36) (.t 41)),oM 5 42])))) (.reg [oM 13 7,oZ 14 13 1,oM 7 14])))))) (.seq (rg [oM 43 6,oU 44 43] (cn 44 (.reg [oM 45 5,oM 46 1,o 47 (.lit 1 1 [s0] [(0,1,(.t 46))]),o 48 (.app 1 16 [s0] (.t 45) (.t 47)),oM 5 48]) .skip)) (rg [oM 49 5,oM 4 49] .ret))))))⟩
theorem A5w:A6 Tryz.prog Q8=some Yn:=by kernel_rfl
theorem Ads (x:Int): -1000000<x.tmod 1000000/\x.tmod 1000000<1000000:=by
 have h1:=Zau x (b:=1000000) (by decide)
 have h2:=Zau (-x) (b:=1000000) (by decide)
 rw[Int.neg_tmod] at h2
 omega
theorem A84 {l:List Tally} {o:ByteArray} {i:Nat} (hi:i<l.length):(l.take (i+1)).foldl (Gh o) 0=if l[i].obj=o then addM ((l.take i).foldl (Gh o) 0) (l[i].sum.tmod 1000000) else(l.take i).foldl (Gh o) 0:=by
 rw[Zao hi,A4y];rfl
theorem A0k (σ:St) (cs:List GV) (s:State) (hR:A8.R σ s cs) (o:ByteArray) (hl:Ah s<=1099511627776):Ret Tryz.prog W4 [.agg cs,.str o] σ (gi (Eg s o)) σ:=by
 obtain⟨a,b,c,v,rfl,_,hb,_,_⟩:=hR
 obtain⟨l1,l2,l3,l4,_⟩:=Ao hl
 refine Am A3g (Z0z rfl) trivial ?_
 simp +contextual (disch:=omega) only[go_sem,W5]
 have hB:rdB (σ++[some (Blk.row 1 [a,b,c,v])]) σ.length=some [a,b,c,v]:=M3 (Zax _)
 generalize hn1:σ.length=n1 at*
 refine Jg s.tallies.length 6 0 (fun i env τ=>env 1= .str o/\env 2= .ptr n1 0/\env 5=gi ((s.tallies.take i).foldl (Gh o) 0)/\σ++[some (Blk.row 1 [a,b,c,v])] <+: τ) (fun env τ=>env 5=gi (Eg s o)/\σ++[some (Blk.row 1 [a,b,c,v])] <+: τ) rfl ⟨rfl,rfl,rfl,Zax _⟩ ?_ ?_ ?_
 ·rintro J Y hJ hY i env τ hi e6 c0 ⟨e1,e2,e5,hp⟩
  have T:=Ac (hb.pre ((pre1 _ _).trans hp)) hi
  have hln:=(hb.pre ((pre1 _ _).trans hp)).len
  have hbd:=A9f (l:=s.tallies.take i) (o:=o) (n:=0) (by decide)
  have htm:=Ads s.tallies[i].sum
  have hst:=A84 (o:=o) hi
  generalize(s.tallies.take i).foldl (Gh o) 0=n at*
  cases ho:decide (s.tallies[i].obj=o) with
  |false=>
   have ho2:¬ s.tallies[i].obj=o:=by simpa using ho
   rw[if_neg ho2] at hst
   simp +contextual (disch:=omega) only[go_sem,c0,e1,e2,e5,e6,A7 (J4 hp hB),T,hln,ho]
   refine hJ _ _ _ ⟨?_,?_,?_,hp⟩
   all_goals simp +contextual (disch:=omega) only[go_sem,e1,e2,e5,hst]
  |true=>
   have ho2:s.tallies[i].obj=o:=by simpa using ho
   rw[if_pos ho2] at hst
   have w1:IntKind.i64.wrap (n+s.tallies[i].sum.tmod 1000000)=n+s.tallies[i].sum.tmod 1000000:=Eb (by omega) (by omega)
   simp +contextual (disch:=omega) only[go_sem,c0,e1,e2,e5,e6,A7 (J4 hp hB),T,hln,ho,w1]
   refine hJ _ _ _ ⟨?_,?_,?_,hp⟩
   all_goals simp +contextual (disch:=omega) only[go_sem,e1,e2,e5,hst,addM]
 ·rintro Y hY env τ e6 c0 ⟨e1,e2,e5,hp⟩
  rw[Zae] at e5
  have hln:=(hb.pre ((pre1 _ _).trans hp)).len
  simp +contextual (disch:=omega) only[go_sem,c0,e1,e2,e5,e6,A7 (J4 hp hB),hln]
  refine hY _ _ ⟨?_,hp⟩
  simp +contextual (disch:=omega) only[go_sem,e5,Eg]
 ·rintro env τ ⟨e5,hp⟩
  simp +contextual (disch:=omega) only[go_sem,e5]
  exact(pre1 _ _).trans hp
theorem A3h {σ0 σ:St} {rs:List Thg} {w:GV} {l:List ByteArray} (s:ByteArray) (H:Hp σ0 σ rs) (k:Nat) (hk:rs[k]? =some (ow pS.kd w l)) (hl:l.length<=1099511627776):∃ w' τ,Ret Tryz.prog Q8 [w,.str s] σ w' τ/\Hp σ0 τ (rs.set k (ow pS.kd w' (putU txLt s l))):=by
 have key:∃ r τ,Ret Tryz.prog Q8 [w,.str s] σ r τ/\Hp σ0 τ (rs.set k (ow pS.kd r (putU txLt s l))):=by
  have hkl:=(Zaq.1 hk).1
  have hset:rs.set k (ow pS.kd w l)=rs:=by rw[<- (Zaq.1 hk).2,List.set_getElem_self]
  refine E8 A5w (Z0z rfl) ?_
  have H:=H.nil_str
  simp +contextual (disch:=omega) only[go_sem,Yn]
  refine A58 l.length 7 0 (fun i env τ=>env 0=w/\env 1= .str s/\∃(u:GV) (put:Bool) (nxt:List ByteArray),env 5=u/\env 6= .bool put/\(∀ j (hj:j<i) (hl:j<l.length),l[j]≠s)/\insG txLt s l nxt i put/\Hp σ0 τ (ow pS.kd u nxt::rs)) (fun env τ=>env 1= .str s/\∃(u:GV) (put:Bool) (nxt:List ByteArray),env 5=u/\env 6= .bool put/\s∉l/\insG txLt s l nxt l.length put/\Hp σ0 τ (ow pS.kd u nxt::rs)) (fun env τ=>env 4=w/\s∈l/\Hp σ0 τ rs) rfl ⟨rfl,rfl,_,false,[],rfl,rfl,fun j hj=>by omega,O6,H⟩ ?_ ?_ ?_ ?_
  ·clear H
   rintro J Y W hJ hY hW i env τ hi e7 c0 ⟨e0,e1,u,put,nxt,e5,e6,ha,hok,H⟩
   have hk1:(ow pS.kd u nxt::rs)[k+1]? =some (ow pS.kd w l):=hk
   have hnl:=Cu hok
   have i1:=A14 (H.sl (k+1) hk1) hi
   have hln:=(H.sl (k+1) hk1).len
   cases heq:decide (l[i]=s) with
   |true=>
    have hm:s∈l:=by
     have:l[i]=s:=by simpa using heq
     rw[<- this];exact Zac hi
    simp +contextual (disch:=omega) only[go_sem,c0,e0,e1,e5,e6,e7,i1,hln,heq]
    refine hW _ _ ⟨?_,hm,H.drop1⟩
    simp +contextual (disch:=omega) only[go_sem,e0]
   |false=>
    have hne:l[i]≠s:=by simpa using heq
    have ha2:∀ j (hj:j<i+1) (hl:j<l.length),l[j]≠s:=fun j hj hl=>by
     rcases Zad j i with h|h
     ·exact ha j h hl
     ·have:j=i:=by omega
      subst this;exact hne
    cases put with
    |true=>
     obtain⟨w',τ3,e8,H3⟩:=H.app_str 0 rfl l[i] (by omega)
     simp +contextual (disch:=omega) only[go_sem,c0,e0,e1,e5,e6,e7,i1,hln,heq,e8]
     refine hJ _ _ _ ⟨?_,?_,w',true,_,?_,?_,ha2,Do hok hi (.inl rfl),H3⟩
     all_goals simp +contextual (disch:=omega) only[go_sem,e0,e1,e6]
    |false=>
     cases hlt:txLt s l[i] with
     |false=>
      obtain⟨w',τ3,e8,H3⟩:=H.app_str 0 rfl l[i] (by omega)
      simp +contextual (disch:=omega) only[go_sem,c0,e0,e1,e5,e6,e7,i1,hln,heq,hlt,e8]
      refine hJ _ _ _ ⟨?_,?_,w',false,_,?_,?_,ha2,Do hok hi (.inr hlt),H3⟩
      all_goals simp +contextual (disch:=omega) only[go_sem,e0,e1,e6]
     |true=>
      obtain⟨w',τ3,e8,H3⟩:=H.app_str 0 rfl s (by omega)
      have H3:Hp σ0 τ3 (ow pS.kd w' (nxt++[s])::rs):=H3
      have hp:=Lv hok hi hlt
      have hnl2:=Cu hp
      simp only[List.length_append,Zav,Zay] at hnl2
      have i2:=A14 (H3.sl (k+1) hk) hi
      obtain⟨w2,τ4,e9,H4⟩:=H3.app_str 0 rfl l[i] (by simp;omega)
      simp +contextual (disch:=omega) only[go_sem,c0,e0,e1,e5,e6,e7,i1,hln,heq,hlt,e8,i2,e9]
      refine hJ _ _ _ ⟨?_,?_,w2,true,_,?_,?_,ha2,hp,H4⟩
      all_goals simp +contextual (disch:=omega) only[go_sem,e0,e1,e6]
  ·clear H
   rintro Y hY env τ e7 c0 ⟨e0,e1,u,put,nxt,e5,e6,ha,hok,H⟩
   have hk1:(ow pS.kd u nxt::rs)[k+1]? =some (ow pS.kd w l):=hk
   have hln:=(H.sl (k+1) hk1).len
   have hni:s∉l:=fun hm=>by
    obtain⟨j,hj,he⟩:=List.getElem_of_mem hm
    exact ha j hj hj he
   simp +contextual (disch:=omega) only[go_sem,c0,e0,e1,e5,e6,e7,hln]
   refine hY _ _ ⟨?_,u,put,nxt,?_,?_,hni,hok,H⟩
   all_goals simp +contextual (disch:=omega) only[go_sem,e1,e5,e6]
  ·clear H
   rintro env τ ⟨e1,u,put,nxt,e5,e6,hni,hok,H⟩
   have hnl:=Cu hok
   have hend:=O7 hok
   have hpu:putU txLt s l=insB txLt s l:=by rw[putU,if_neg hni]
   cases put with
   |true=>
    simp +contextual (disch:=omega) only[go_sem,e1,e5,e6]
    refine⟨_,rfl,?_⟩
    rw[hpu,<-hend]
    exact(H.perm (List.Perm.refl _)).moveTo k hk
   |false=>
    obtain⟨w',τ3,e8,H3⟩:=H.app_str 0 rfl s (by omega)
    simp +contextual (disch:=omega) only[go_sem,e1,e5,e6,e8]
    refine⟨_,rfl,?_⟩
    rw[hpu,<-hend]
    exact Hp.moveTo H3 k hk
  ·clear H
   rintro env τ ⟨e4,hm,H⟩
   have hpu:putU txLt s l=l:=by rw[putU,if_pos hm]
   simp +contextual (disch:=omega) only[go_sem,e4]
   exact⟨_,rfl,by rw[hpu,hset];exact H⟩
 obtain⟨r,τ,R,h⟩:=key
 exact⟨r,τ,R,h⟩
abbrev W6:Nat:=190
def W7:Fn1:=⟨44,[.t 6],(rg [oX 3 0,o 6 (.mov (.k .nilS))] (rg [o 9 (.lit 1 0 [] []),oM 7 9] (.seq (rg [oV 8 (ki 0)] (.blk 0 (.lop (.seq (rg [oM 10 8,oF 11 2 3,oL 12 11,oN 13 12,oB 14 .lss 10 13] (cn 14 .skip (.ext 0))) (.seq (.blk 1 (rg [oF 17 2 3,oL 18 17,oM 19 8,oI 20 6 18 19,oF 21 0 20,oL 22 21,oM 23 1,o 24 (.eqb false (.t 22) (.t 23)),oM 25 24,jF 26 25 2 3,jL 27 25 26,jM 28 25 8,jI 29 25 6 27 28,jF 30 25 1 29,jL 31 25 30,jM 32 25 2,jB 33 25 .eql 31 32,oQ 34 25 33] (cn 34 (.reg [oM 35 7,oF 36 2 3,oL 37 36,oM 38 8,oI 39 6 37 38,oF 40 2 39,oL 41 40,oD 42 282 35 41,oM 7 42]) .skip))) (.reg [oM 15 8,oZ 16 15 1,oM 8 16])))))) (rg [oM 43 7,oM 6 43] .ret))))⟩
theorem A3i:A6 Tryz.prog W6=some W7:=by kernel_rfl
abbrev A3j:Nat:=66
def A3k:Fn1:=⟨8,[.t 4],(rg [oX 2 0,o 4 (.mov (.k .nilS))] (rg [oW 5 4 2,oM 6 1,o 7 (.call 190 [(.t 5),kf,(.t 6)]),oM 4 7] .ret))⟩
theorem A85:A6 Tryz.prog A3j=some A3k:=by kernel_rfl
abbrev A3l:Nat:=72
def A3m:Fn1:=⟨37,[.t 4],(rg [oX 2 0,o 4 (.mov (.k .nilS))] (rg [o 8 (.lit 1 0 [] []),oM 5 8] (.seq (rg [oW 9 4 2,oC 10 199 9,oU 11 10] (cn 11 (rg [oM 12 5,oM 4 12] .ret) .skip)) (rg [oW 13 4 2,oM 14 1,oD 15 145 13 14,oM 6 15] (.seq (rg [oV 7 (ki 0)] (.blk 0 (.lop (.seq (rg [oM 16 7,oM 17 6,oN 18 17,oB 19 .lss 16 18] (cn 19 .skip (.ext 0))) (.seq (.blk 1 (rg [oM 22 6,oM 23 7,oI 24 8 22 23,oF 25 7 24,oL 26 25,oU 27 26] (cn 27 (.reg [oM 28 5,oM 29 6,oM 30 7,oI 31 8 29 30,oF 32 6 31,oL 33 32,o 34 (.lit 1 1 [z0] [(0,1,(.t 33))]),o 35 (.app 1 8 [z0] (.t 28) (.t 34)),oM 5 35]) .skip))) (.reg [oM 20 7,oZ 21 20 1,oM 7 21])))))) (rg [oM 36 5,oM 4 36] .ret))))))⟩
theorem A86:A6 Tryz.prog A3l=some A3m:=by kernel_rfl
theorem Aa7 {l:List Live} {m:Bool} {o:ByteArray} {i:Nat} (hi:i<l.length):((l.take (i+1)).filter (Dn m o)).map (·.key)=if Dn m o l[i] then((l.take i).filter (Dn m o)).map (·.key)++[l[i].key] else((l.take i).filter (Dn m o)).map (·.key):=by
 rw[Er hi]
 split<;>simp
theorem A0l (σ:St) (cs:List GV) (s:State) (hR:A8.R σ s cs) (m:Bool) (o:ByteArray) (hl:Ah s<=1099511627776):∃ r τ,Ret Tryz.prog W6 [.agg cs,.bool m,.str o] σ r τ/\Hp σ τ [ow pS.kd r (Qz s m o)]:=by
 obtain⟨a,b,c,v,rfl,_,_,hv,_⟩:=hR
 obtain⟨l1,l2,l3,l4,_⟩:=Ao hl
 refine E8 A3i (Z0z rfl) ?_
 have H:=((Hp.refl σ).new 1 [a,b,c,v]).nil_str
 simp +contextual (disch:=omega) only[go_sem,W7]
 generalize hb:σ.length=n1 at*
 refine Jg s.lives.length 8 0 (fun i env τ=>env 1= .bool m/\env 2= .str o/\env 3= .ptr n1 0/\∃ w,env 7=w/\Hp σ τ [ow pS.kd w (Hw txLt (((s.lives.take i).filter (Dn m o)).map (·.key))),pt 1 n1 [a,b,c,v]]) (fun env τ=>∃ w,env 7=w/\Hp σ τ [ow pS.kd w (Qz s m o)]) rfl ⟨rfl,rfl,rfl,_,rfl,H⟩ ?_ ?_ ?_
 ·clear H
  rintro J Y hJ hY i env τ hi e8 c0 ⟨e1,e2,e3,w,e7,H⟩
  have hfl:=Cx s.lives (Dn m o) i
  have hpl:=O3 txLt (((s.lives.take i).filter (Dn m o)).map (·.key))
  rw[Zak] at hpl
  have C1:=A5 (hv.pre H.sub) hi
  have hln:=(hv.pre H.sub).len
  have hks:=Aa7 (m:=m) (o:=o) hi
  cases hm:(s.lives[i].map==m) with
  |false=>
   have hk0:Dn m o s.lives[i]=false:=by simp[Dn,hm]
   rw[hk0,if_neg (by simp)] at hks
   simp +contextual (disch:=omega) only[go_sem,c0,e1,e2,e3,e7,e8,C1,A7 (H.pt 1 rfl),hln,hm,Zaj]
   refine hJ _ _ _ ⟨?_,?_,?_,w,?_,by rw[hks];exact H⟩
   all_goals simp +contextual (disch:=omega) only[go_sem,e1,e2,e3,e7]
  |true=>
   cases ho:decide (s.lives[i].obj=o) with
   |false=>
    have hk0:Dn m o s.lives[i]=false:=by simp[Dn,hm,ho]
    rw[hk0,if_neg (by simp)] at hks
    simp +contextual (disch:=omega) only[go_sem,c0,e1,e2,e3,e7,e8,C1,A7 (H.pt 1 rfl),hln,hm,ho,Zaj]
    refine hJ _ _ _ ⟨?_,?_,?_,w,?_,by rw[hks];exact H⟩
    all_goals simp +contextual (disch:=omega) only[go_sem,e1,e2,e3,e7]
   |true=>
    have hk0:Dn m o s.lives[i]=true:=by simp[Dn,hm,ho]
    rw[hk0,if_pos rfl] at hks
    obtain⟨w',τ3,R3,H3⟩:=A3h s.lives[i].key H 0 rfl (by omega)
    simp +contextual (disch:=omega) only[go_sem,c0,e1,e2,e3,e7,e8,C1,A7 (H.pt 1 rfl),hln,hm,ho,Zaj]
    refine Ak R3 ?_
    simp +contextual (disch:=omega) only[go_sem,e1,e2,e3,e7,e8]
    refine hJ _ _ _ ⟨?_,?_,?_,w',?_,?_⟩
    all_goals first|(simp +contextual (disch:=omega) only[go_sem,e1,e2,e3,e7];done)|skip
    rw[hks,A4r]
    exact H3
 ·clear H
  rintro Y hY env τ e8 c0 ⟨e1,e2,e3,w,e7,H⟩
  rw[Zae] at H
  have hln:=(hv.pre H.sub).len
  simp +contextual (disch:=omega) only[go_sem,c0,e1,e2,e3,e7,e8,A7 (H.pt 1 rfl),hln]
  refine hY _ _ ⟨w,?_,H.one⟩
  simp +contextual (disch:=omega) only[go_sem,e7]
 ·clear H
  rintro env τ ⟨w,e7,H⟩
  simp +contextual (disch:=omega) only[go_sem,e7]
  exact⟨_,rfl,H⟩
theorem A5x (σ:St) (cs:List GV) (s:State) (hR:A8.R σ s cs) (o:ByteArray) (hl:Ah s<=1099511627776):∃ r τ,Ret Tryz.prog A3j [.agg cs,.str o] σ r τ/\Hp σ τ [ow pS.kd r (Qz s false o)]:=by
 have hlen:cs.length=4:=A8.len hR
 refine E8 A85 (Z0z rfl) ?_
 have H:=(Hp.refl σ).new 1 cs
 simp +contextual (disch:=omega) only[go_sem,A3k,Tf,A9 hlen]
 obtain⟨r,τ,R,K⟩:=A0l _ cs s (A8.pre hR H.sub) false o hl
 refine Pg R K ?_
 have H:=H.add K
 simp +contextual (disch:=omega) only[go_sem]
 exact⟨_,rfl,H.one⟩
theorem A5y (σ:St) (cs:List GV) (s:State) (hR:A8.R σ s cs) (o:ByteArray) (hl:Ah s<=1099511627776):∃ r τ,Ret Tryz.prog A3l [.agg cs,.str o] σ r τ/\Hp σ τ [ow pI.kd r (A4z s o)]:=by
 have hlen:=A8.len hR
 have hlen:cs.length=4:=hlen
 refine E8 A86 (Z0z rfl) ?_
 have H:=((Hp.refl σ).new 1 cs).nil_int
 simp +contextual (disch:=omega) only[go_sem,A3m,Tf,Kk,A9 hlen]
 refine Aa (Gp _ _ s (A8.pre hR H.sub) hl) (fun hok=> ?_) (fun hok=> ?_)
 rotate_left
 ·have e:A4z s o=[]:=by simp[A4z,rowL,hok]
  simp +contextual (disch:=omega) only[go_sem]
  exact⟨_,rfl,by rw[e];exact H.one⟩
 have e:A4z s o=((rowC s o).filter Bb).map (·.val):=by simp only[A4z,rowL,hok,if_true];rfl
 rw[e]
 simp +contextual (disch:=omega) only[go_sem,Tf,Kk,A9 hlen]
 obtain⟨r1,τ1,R1,K1⟩:=Rh _ cs s (A8.pre hR H.sub) o hok hl
 refine Pg R1 K1 ?_
 have H:=H.add K1
 simp only[Zaw,Zaz] at H
 have hb:=Lu (Mr hok) o
 generalize rowC s o=T at*
 simp +contextual (disch:=omega) only[go_sem]
 generalize hn1:σ.length=n1 at*
 refine Pe T.length 7 (fun i env τ=>env 6=r1/\∃ u,env 5=u/\Hp σ τ [ow pI.kd u (((T.take i).filter Bb).map (·.val)),ow Aj.kd r1 T,pt 1 n1 cs]) rfl ⟨rfl,_,rfl,H.pick 1 rfl⟩ ?_ ?_
 ·clear H
  rintro J hJ i env τ hi e7 c0 ⟨e6,u,e5,H⟩
  have hfl:=Cx T Bb i
  have hsn:=Uj hi
  have C1:=A4 (H.sl 1 rfl) hi
  have hln:=(H.sl 1 rfl).len
  cases hg:T[i].gone with
  |true=>
   have hk0:Bb T[i]=false:=by simp[Bb,hg]
   rw[hk0,if_neg (by simp)] at hsn
   simp +contextual (disch:=omega) only[go_sem,c0,e5,e6,e7,hln,C1,hg]
   refine hJ _ _ _ ⟨?_,u,?_,by rw[hsn];exact H⟩
   all_goals simp +contextual (disch:=omega) only[go_sem,e5,e6,e7]
  |false=>
   have hk0:Bb T[i]=true:=by simp[Bb,hg]
   rw[hk0,if_pos rfl] at hsn
   obtain⟨w',τ3,e8,H3⟩:=H.app_int 0 rfl T[i].val (by simp;omega)
   simp +contextual (disch:=omega) only[go_sem,c0,e5,e6,e7,hln,C1,hg,e8]
   refine hJ _ _ _ ⟨?_,w',?_,?_⟩
   all_goals first|(simp +contextual (disch:=omega) only[go_sem,e5,e6,e7];done)|skip
   rw[hsn,Za0,Za4,List.map_nil]
   exact H3
 ·clear H
  rintro env τ e7 c0 ⟨e6,u,e5,H⟩
  rw[Zae] at H
  have hln:=(H.sl 1 rfl).len
  simp +contextual (disch:=omega) only[go_sem,c0,e5,e6,e7,hln]
  exact⟨_,rfl,H.one⟩
abbrev W8:Nat:=8
def W9:Fn1:=⟨154,[.t 2],(rg [oV 2 kf] (.seq (rg [oM 19 0,oC 20 40 19] (cn 20 (rg [oV 2 kt] .ret) .skip)) (rg [oM 21 0,oC 22 63 21,o 3 (.new [.nilS,.nilS,.nilS,.nilS]),oS 4 3 22] (rg [o 23 (.lit 1 3 [s0,s0,s0] [(0,1,(.k (.str ⟨#[97]⟩))),(1,1,(.k (.str ⟨#[98]⟩))),(2,1,(.k (.str ⟨#[116,97,108,108,121]⟩)))]),oM 4 23] (rg [oM 24 4,oM 25 0,oC 26 64 25,o 27 (.iad 1 (.t 26) (ki 0)),oL 28 27,oE 29 .rem 28 3,oI 30 1 24 29,oL 31 30,oM 5 31] (rg [oW 32 4 3,oM 33 5,oD 34 65 32 33,oM 6 34] (rg [oV 7 (ki 0)] (.seq (rg [oV 8 (ki 0)] (.blk 0 (.lop (.seq (rg [oM 35 8,oM 36 6,oN 37 36,oB 38 .lss 35 37] (cn 38 .skip (.ext 0))) (.seq (.blk 1 (.reg [oM 41 7,oM 42 6,oM 43 8,oI 44 1 42 43,oL 45 44,oB 46 .add 41 45,oE 47 .rem 46 1000000,oM 7 47])) (.reg [oM 39 8,oZ 40 39 1,oM 8 40])))))) (rg [oW 48 4 3,oM 49 5,oD 50 66 48 49,oM 9 50] (.seq (rg [oV 10 (ki 0)] (.blk 2 (.lop (.seq (rg [oM 51 10,oM 52 9,oN 53 52,oB 54 .lss 51 53] (cn 54 .skip (.ext 2))) (.seq (.blk 3 (dw [oW 57 4 3,oM 58 5,oM 59 9,oM 60 10,oI 61 1 59 60,oL 62 61] [o 63 (.call 67 [(.t 57),kf,(.t 58),(.t 62)]),oN 64 63,oE 65 .eql 64 0] (cn 65 (rg [oV 2 kf] .ret) .skip))) (.reg [oM 55 10,oZ 56 55 1,oM 10 56])))))) (rg [oM 66 0,oC 67 41 66,oM 11 67] (rg [oM 68 11,o 69 (.iad 8 (.t 68) (ki 0)),oW 70 8 69,o 12 (.new [z0,z0,.nilS,.nilS,.nilS,.nilS,.nilS,.nilS]),oS 8 12 70] (rg [oV 13 (ki 0)] (.seq (rg [oV 14 (ki 0)] (.blk 4 (.lop (.seq (rg [oM 71 14,oE 72 .lss 71 3] (cn 72 .skip (.ext 4))) (.seq (.blk 5 (rg [oF 75 6 12,oL 76 75,oM 77 14,oD 78 68 76 77,oM 15 78] (rg [oM 79 13,oM 80 15,oN 81 80,oB 82 .add 79 81,oM 13 82] (rg [oV 16 (ki 1)] (.blk 6 (.lop (.seq (rg [oM 83 16,oM 84 15,oN 85 84,oB 86 .lss 83 85] (cn 86 .skip (.ext 6))) (.seq (.blk 7 (dw [oM 89 15,oM 90 16,oE 91 .sub 90 1,oI 92 10 89 91,oF 93 0 92,oF 94 1 93,oL 95 94,oM 96 15,oM 97 16,oI 98 10 96 97,oF 99 0 98,oF 100 1 99,oL 101 100] [oB 102 .geq 95 101] (cn 102 (rg [oV 2 kf] .ret) .skip))) (.reg [oM 87 16,oZ 88 87 1,oM 16 88]))))))))) (.reg [oM 73 14,oZ 74 73 1,oM 14 74])))))) (rg [oW 103 4 3,oC 104 69 103,oM 17 104] (.seq (rg [oM 105 17,oE 106 .lss 105 0,oM 107 106,vM 108 107 17,vE 109 107 .geq 108 3,oP 110 107 109] (cn 110 (rg [oV 2 kf] .ret) .skip)) (.seq (rg [oV 18 (ki 0)] (.blk 8 (.lop (.seq (rg [oM 111 18,oE 112 .lss 111 3] (cn 112 .skip (.ext 8))) (.seq (.blk 9 (dw [oF 115 0 3,oL 116 115,oM 117 18,oI 118 1 116 117,oL 119 118,oF 120 0 3,oL 121 120,oM 122 17,oI 123 1 121 122,oL 124 123] [oB 125 .gtr 119 124] (cn 125 (rg [oV 2 kf] .ret) .skip))) (.reg [oM 113 18,oZ 114 113 1,oM 18 114])))))) (dw [oM 126 7,oW 127 4 3,oM 128 5,oD 129 70 127 128,oB 130 .eql 126 129,oM 131 130,jW 132 131 4 3,jM 133 131 5,jD 134 131 71 132 133,og 135 131 true (.len false (.t 134)),jW 136 131 4 3] [jM 137 131 5,jD 138 131 72 136 137,og 139 131 true (.len false (.t 138)),jB 140 131 .eql 135 139,oQ 141 131 140,oM 142 141,jM 143 142 13,jF 144 142 6 12,jL 145 142 144,og 146 142 true (.len false (.t 145)),jB 147 142 .eql 143 146,oQ 148 142 147,oM 149 148,jM 150 149 6,og 151 149 true (.len false (.t 150)),jE 152 149 .eql 151 3,oQ 153 149 152,oM 2 153] .ret))))))))))))))))))⟩
theorem A3n:A6 Tryz.prog W8=some W9:=by kernel_rfl
abbrev Ll:Nat:=41
def S5:Fn1:=⟨11,[.t 2],(rg [o 2 (.mov (.k .nilS))] (rg [oM 4 0,oC 5 161 4,oM 3 5] (rg [oM 6 3,oM 7 3,o 8 (.call 163 [(.t 7),(ki 8)]),o 9 (.bin .add (ki 5) (.t 8)),oD 10 162 6 9,oM 2 10] .ret)))⟩
theorem A0m:A6 Tryz.prog Ll=some S5:=by kernel_rfl
theorem A87 (s:State) (m:Bool) (o:ByteArray):(Qz s m o).length<=Ah s:=by
 have h1:=O3 txLt ((s.lives.filter (Dn m o)).map (·.key))
 rw[Zak] at h1
 have h2:(s.lives.filter (Dn m o)).length<=s.lives.length:=Zag _ _
 have h3:s.lives.length<=Ah s:=by unfold Ah;omega
 unfold Qz;omega
theorem Wu {σ0 σ:St} {h:List Item} {v:GV} {bs:List Int} (H:Hx σ0 σ h) (D:Dr σ0 v bs):∃(r:GV) (ls:List Log) (τ:St),Lgs ls/\Ret Tryz.prog Ll [v] σ r τ/\Hx σ0 τ (.th (ow kLog r ls)::h):=by
 have key:∃ w τ,Ret Tryz.prog Ll [v] σ w τ/\∃ ls,Lgs ls/\Hx σ0 τ (.th (ow kLog w ls)::h):=by
  refine Fi A0m (Z0z rfl) H ?_
  simp +contextual (disch:=omega) only[go_sem,S5]
  obtain⟨c,τ2,R2,H2⟩:=Adn H D
  refine by_k R2 H2 ?_
  simp +contextual (disch:=omega) only[go_sem]
  obtain⟨x,τ3,hx,R3,H3⟩:=Fd H2 0 rfl D 8 (by decide) (by decide)
  refine by_k R3 H3 ?_
  obtain⟨q,hq⟩:∃ q:Nat,q=5+x:=⟨_,rfl⟩
  have e:(5:Int)+x=(q:Int):=by omega
  simp +contextual (disch:=omega) only[go_sem,e]
  obtain⟨r,ls,τ4,hLg,R4,H4⟩:=A5v H3 0 rfl D q (by omega)
  refine by_k R4 H4 ?_
  simp +contextual (disch:=omega) only[go_sem]
  exact fun _=>⟨_,rfl,ls,hLg,H4.era 1⟩
 obtain⟨w,τ,R,ls,h1,H'⟩:=key
 exact⟨w,ls,τ,h1,R,H'⟩
def cntR (us:List Unit_):Nat->Nat
 |0=>0
 |i+1=>cntR us i+(Bt us (i:Nat)).length
theorem Aa8 (us:List Unit_):∀ i,cntR us i<=i*us.length
 |0=>Nat.zero_le _
 |i+1=>by
  have h1:=Aa8 us i
  have h2:(Bt us (i:Nat)).length<=us.length:=by
   unfold Bt;rw[Zak];exact Zag _ _
  rw[cntR,Nat.add_mul,Nat.one_mul];omega
theorem cntR_3 {l:Log} (h:LogG l):cntR l.units 3=l.units.length:=by
 have h1:=(A6v h).1
 show 0+(Bt l.units (0:Nat)).length+(Bt l.units (1:Nat)).length+(Bt l.units (2:Nat)).length=_
 rw[Nat.zero_add]
 exact h1
theorem law_Whose (σ:St) (v:GV) (bs:List Int) (hv:Sl (Ek.int .u8) σ v bs) (hw:bs.length<=9223372036854775807/\∀ y∈bs,(Lit.int .u8 y).wf=true):∃ r τ,Ret Tryz.prog W8 [v] σ r τ/\r= .bool true:=by
 have hv:RS pB.kd σ v bs:=hv.rs rfl (fun h=>h)
 refine Fi A3n (Z0z rfl) (Hx.refl σ) ?_
 simp +contextual (disch:=omega) only[go_sem,W9]
 refine by_b (Hx.refl σ) (Aa4 σ v bs hv) (fun h0=> ?_) (fun h0=> ?_)
 ·simp +contextual (disch:=omega) only[go_sem]
  try exact fun _=>⟨_,rfl,rfl⟩
 have h0:=of_decide_eq_false h0
 have D:Dr σ v bs:=⟨hv,by omega⟩
 simp +contextual (disch:=omega) only[go_sem]
 obtain⟨ds,s,τ1,hg,R1,H1⟩:=Vq (Hx.refl σ) D
 have hs:=hg.ok A6o
 have hms:=hs.ms
 have gl:ds.length=4:=A8.len (H1.hp.rd 0 rfl)
 refine by_k R1 H1 ?_
 simp +contextual (disch:=omega) only[go_sem,Ai (cs:=z4) gl rfl,gl,A9 gl]
 intro n3 f3 τ1b _ τ2 H2
 have g3:σ.length<=n3:=f3
 try simp +contextual (disch:=omega) only[go_sem]
 intro n4 f4 τ3 H3
 have g4:σ.length<=n4:=by omega
 have ne43:n3<n4:=f4.1
 obtain⟨r,pl,τ4,⟨hp12,hpb⟩,R4,H4⟩:=Se H3 D
 have hp0:0<pl.length:=by omega
 have hpb0:=hpb pl[0] (Zac hp0)
 have n0:Aw (some (GV.int .i64 0))=some 0:=rfl
 have L0:=E6 (H4.hp.sl 0 rfl) hp0
 have L02:=Dz H4 L0.2
 obtain⟨q3,hq3⟩:∃ q,q=pl[0].toNat % 3:=⟨_,rfl⟩
 have m3:¬ ((3:Int)=0):=by decide
 have t3:Aw (some (GV.int .i64 (pl[0].tmod 3)))=some q3:=B9 (by rw[Zab (by omega)];omega)
 have q3b:q3<Q4.length:=by show q3<3;omega
 have H4':Hx σ τ4 (.box 1 n4 (pS.cells Q4)::[.box 1 n3 ds,.th (own A8 ds s)]):=H4.tl
 have LL:=A14 (litS (l:=Q4) rfl (by decide) τ4 H4') (i:=q3) q3b
 have L1:iadG 1 (GV.sl n4 0 3) (some q3)=some (atz 1 (GV.sl n4 0 3) q3):=LL.1
 have L2:=Dz H4 LL.2
 have L2:ldX σ _ τ4 false 1 (atz 1 (GV.sl n4 0 3) q3)=some (.str Q4[q3]):=L2
 have hom:Q4[q3]∈Q4:=Zac q3b
 obtain⟨o,ho⟩:∃ o,o=Q4[q3]:=⟨_,rfl⟩
 rw[<- ho] at L2 hom
 have hosz:=(A5p hom).2
 refine by_k R4 H4 ?_
 simp +contextual (disch:=omega) only[go_sem,n0,L0.1,L02,m3,t3,L1,L2,A9 gl]
 obtain⟨y,τ5,R5,K5⟩:=A0i τ4 ds s (H4.hp.rd 3 rfl) o (by omega) (by omega)
 refine by_c H4 R5 K5 fun H5=> ?_
 obtain⟨cb,hcb⟩:∃ cb,cb=Jr s.tallies o:=⟨_,rfl⟩
 have hc3:cb.length=3:=by rw[hcb];rfl
 have hcbd:∀ x∈cb,0≤x/\x<=999999:=fun x hx=>by
  rw[hcb] at hx
  simp only[Jr,Za5,List.not_mem_nil,or_false] at hx
  rcases hx with rfl|rfl|rfl<;>exact Ix fun t ht=>(A6t hs t ht).2
 have hsum:Sh cb 3=Eg s o:=by rw[hcb];exact sum_by hs o
 have H6:Hx σ τ5 [.th (ow pI.kd y cb),.box 1 n3 ds,.th (own A8 ds s)]:=by rw[hcb];exact H5.re [0,3,4] (by decide)
 rw[<- hcb]
 clear K5 hcb
 simp +contextual (disch:=omega) only[go_sem]
 have m6:¬ ((1000000:Int)=0):=by decide
 refine Cf cb.length 8 0 (fun i env h=>env 0=v/\env 3= .ptr n3 0/\env 5= .str o/\env 6=y/\env 7=gi (Sh cb i)/\h=[.th (ow pI.kd y cb),.box 1 n3 ds,.th (own A8 ds s)]) (fun env h=>env 0=v/\env 3= .ptr n3 0/\env 5= .str o/\env 6=y/\env 7=gi (Eg s o)/\h=[.th (ow pI.kd y cb),.box 1 n3 ds,.th (own A8 ds s)]) (fun _ _=>False) _ H6 (by simp +contextual (disch:=omega) only[go_sem]) ⟨by simp +contextual (disch:=omega) only[go_sem],by simp +contextual (disch:=omega) only[go_sem],by simp +contextual (disch:=omega) only[go_sem],by simp +contextual (disch:=omega) only[go_sem],by simp +contextual (disch:=omega) only[go_sem];rfl,rfl⟩ ?_ ?_ ?_ (fun _ _ _ _ h=>h.elim)
 ·clear H1 H2 H3 H4 H4' H5 H6
  rintro J Y W hJ hY hW i env h' τ hi e8 c0 H ⟨e0,e3,e5,e6,e7,rfl⟩
  have hyl:=(H.hp.sl 0 rfl).len
  have L:=E6 (H.hp.sl 0 rfl) hi
  have L':=Dz H L.2
  have b1:=A6u cb hcbd i (by omega)
  have b2:=hcbd cb[i] (Zac hi)
  have hstep:Sh cb (i+1)=(Sh cb i+cb[i]).tmod 1000000:=by rw[Sh,Zai hi];rfl
  obtain⟨q,hq⟩:∃ q,q=Sh cb i:=⟨_,rfl⟩
  rw[<- hq] at b1 hstep e7
  obtain⟨x,hx⟩:∃ x,x=cb[i]:=⟨_,rfl⟩
  rw[<- hx] at b2 hstep L'
  simp +contextual (disch:=omega) only[go_sem,c0,e0,e3,e5,e6,e7,e8,A3,hyl,L.1,L',m6,Eb,<-hstep]
  exact hJ _ _ _ _ H ⟨by simp +contextual (disch:=omega) only[go_sem,e0],by simp +contextual (disch:=omega) only[go_sem,e3],by simp +contextual (disch:=omega) only[go_sem,e5],by simp +contextual (disch:=omega) only[go_sem,e6],by simp +contextual (disch:=omega) only[go_sem],rfl⟩
 ·clear H1 H2 H3 H4 H4' H5 H6
  rintro Y hY env h' τ e8 c0 H ⟨e0,e3,e5,e6,e7,rfl⟩
  have hyl:=(H.hp.sl 0 rfl).len
  simp +contextual (disch:=omega) only[go_sem,c0,e6,e8,hyl]
  exact hY _ _ _ H ⟨e0,e3,e5,e6,by simp +contextual (disch:=omega) only[go_sem,e7];rw[hc3,hsum],rfl⟩
 clear H1 H2 H3 H4 H4' H5 H6 L2
 rintro env h' τ H ⟨e0,e3,e5,e6,e7,rfl⟩
 simp +contextual (disch:=omega) only[go_sem,e3,e5,A9 gl]
 obtain⟨ks,τ7,R7,K7⟩:=A5x τ ds s (H.hp.rd 2 rfl) o (by omega)
 refine by_c H R7 K7 fun H7=> ?_
 simp +contextual (disch:=omega) only[go_sem]
 obtain⟨keys,hkeys⟩:∃ keys,keys=Qz s false o:=⟨_,rfl⟩
 have hkl:keys.length<=5000:=by rw[hkeys];exact Nat.le_trans (A87 s false o) hms
 rw[<- hkeys] at H7
 refine Cf keys.length 10 2 (fun i env h=>env 0=v/\env 3= .ptr n3 0/\env 5= .str o/\env 6=y/\env 7=gi (Eg s o)/\env 9=ks/\h=[.th (ow pS.kd ks keys),.th (ow pI.kd y cb),.box 1 n3 ds,.th (own A8 ds s)]) (fun env h=>env 0=v/\env 3= .ptr n3 0/\env 5= .str o/\env 6=y/\env 7=gi (Eg s o)/\h=[.th (ow pS.kd ks keys),.th (ow pI.kd y cb),.box 1 n3 ds,.th (own A8 ds s)]) (fun _ _=>False) _ H7 (by simp +contextual (disch:=omega) only[go_sem]) ⟨by simp +contextual (disch:=omega) only[go_sem,e0],by simp +contextual (disch:=omega) only[go_sem,e3],by simp +contextual (disch:=omega) only[go_sem,e5],by simp +contextual (disch:=omega) only[go_sem,e6],by simp +contextual (disch:=omega) only[go_sem,e7],by simp +contextual (disch:=omega) only[go_sem],rfl⟩ ?_ ?_ ?_ (fun _ _ _ _ h=>h.elim)
 ·clear H H7 K7 e0 e3 e5 e6 e7
  rintro J Y W hJ hY hW i env h' τ hi e10 c0 H ⟨e0,e3,e5,e6,e7,e9,rfl⟩
  have hyl:=(H.hp.sl 0 rfl).len
  have L:=A14 (H.hp.sl 0 rfl) hi
  have L':=Dz H L.2
  have hne:=lw_ne (s:=s) (o:=o) (k:=keys[i]) (by rw[<- hkeys];exact Zac hi)
  simp +contextual (disch:=omega) only[go_sem,c0,e0,e3,e5,e6,e7,e9,e10,A3,hyl,L.1,L',A9 gl]
  obtain⟨w,τ1,R1,K1⟩:=W0 τ ds s (H.hp.rd 3 rfl) false o keys[i] (by omega)
  refine by_c H R1 K1 fun H1=> ?_
  have hwl:=(H1.hp.sl 0 rfl).len
  have bz:(((Fz s false o keys[i]).length:Int)==0)=false:=by simpa using hne
  have hib:i<=1048576:=by omega
  simp +contextual (disch:=omega) only[go_sem,hwl,bz,e10]
  exact hJ _ _ _ _ (H1.re [1,2,3,4] (by decide)) ⟨by simp +contextual (disch:=omega) only[go_sem,e0],by simp +contextual (disch:=omega) only[go_sem,e3],by simp +contextual (disch:=omega) only[go_sem,e5],by simp +contextual (disch:=omega) only[go_sem,e6],by simp +contextual (disch:=omega) only[go_sem,e7],by simp +contextual (disch:=omega) only[go_sem,e9],rfl⟩
 ·clear H H7 K7 e0 e3 e5 e6 e7
  rintro Y hY env h' τ e10 c0 H ⟨e0,e3,e5,e6,e7,e9,rfl⟩
  have hyl:=(H.hp.sl 0 rfl).len
  simp +contextual (disch:=omega) only[go_sem,c0,e9,e10,hyl]
  exact hY _ _ _ H ⟨e0,e3,e5,e6,e7,rfl⟩
 clear H H7 K7 e0 e3 e5 e6 e7
 rintro env h' τ H ⟨e0,e3,e5,e6,e7,rfl⟩
 simp +contextual (disch:=omega) only[go_sem,e0]
 obtain⟨lr,ls,τ8,hLg,R8,H8⟩:=Wu H D
 have hl3:=hLg.len
 have hl0:0<ls.length:=by omega
 have hG:LogG ls[0]:=hLg.g _ (Zac hl0)
 obtain⟨l,hl⟩:∃ l,l=ls[0]:=⟨_,rfl⟩
 rw[<- hl] at hG
 obtain⟨cs,Z⟩:=Hp.zoom H8.hp hl0
 rw[<- hl] at Z
 have Z:Hx σ τ8 [.th (own kLog cs l),.th (hole kLog lr ls 0 cs),.th (ow pS.kd ks keys),.th (ow pI.kd y cb),.box 1 n3 ds,.th (own A8 ds s)]:=Z
 have gc:cs.length=8:=kLog.len (Z.hp.rd 0 rfl)
 obtain⟨z1,z2,z3,z5⟩:=Z.hole_rd 1 rfl hl0
 have z1:iadG 8 lr (some 0)=some (atz 8 lr 0):=z1
 have z4:ldG true 8 τ8 (atz 8 lr 0)=some (.agg cs):=by
  have h1:=z5 0 8 true (by decide)
  have h2:fld 0 (atz 8 lr 0)=atz 8 lr 0:=by cases lr<;>rfl
  have h1:ldG true 8 τ8 (fld 0 (atz 8 lr 0))=(seg cs 0 8).bind (mkv true):=h1
  rw[h2] at h1
  rw[h1]
  simp only[A9 gc,Option.bind_some]
  try rfl
 have z4:=Dz Z z4
 obtain⟨s0,s1,s2,s3,uu,ww,rfl,_,hU,hW⟩:=Hg (Z.hp.rd 0 rfl)
 have hul:=hU.len
 have hms2:=hG.ms
 have hnu:=hG.nu
 have hum:l.units.length+sumL Bq l.units<=400000:=by unfold A93 at hms2;omega
 refine by_k R8 Z ?_
 simp +contextual (disch:=omega) only[go_sem,n0,z1,z4]
 intro n12 f12 τ9 _ τ10 H10
 have ne123:n3<n12:=by have:=f12;(try simp only[Ade,frX_th] at this);omega
 have g12:σ.length<=n12:=by omega
 have H11:Hx σ τ10 [.box 1 n12 (logV l s0 s1 s2 s3 uu ww),.th (own kLog (logV l s0 s1 s2 s3 uu ww) l),.th (ow pI.kd y cb),.box 1 n3 ds,.th (own A8 ds s)]:=H10.re [0,1,4,5,6] (by decide)
 clear H10 Z H8 H z4 z5 hU hW
 try simp +contextual (disch:=omega) only[go_sem]
 refine Cf 3 14 4 (fun i env h=>env 3= .ptr n3 0/\env 5= .str o/\env 6=y/\env 7=gi (Eg s o)/\env 12= .ptr n12 0/\env 13=gi (cntR l.units i:Nat)/\h=[.box 1 n12 (logV l s0 s1 s2 s3 uu ww),.th (own kLog (logV l s0 s1 s2 s3 uu ww) l),.th (ow pI.kd y cb),.box 1 n3 ds,.th (own A8 ds s)]) (fun env h=>env 3= .ptr n3 0/\env 5= .str o/\env 6=y/\env 7=gi (Eg s o)/\env 12= .ptr n12 0/\env 13=gi (cntR l.units 3:Nat)/\h=[.box 1 n12 (logV l s0 s1 s2 s3 uu ww),.th (own kLog (logV l s0 s1 s2 s3 uu ww) l),.th (ow pI.kd y cb),.box 1 n3 ds,.th (own A8 ds s)]) (fun _ _=>False) _ H11 (by simp +contextual (disch:=omega) only[go_sem]) ⟨by simp +contextual (disch:=omega) only[go_sem,e3],by simp +contextual (disch:=omega) only[go_sem,e5],by simp +contextual (disch:=omega) only[go_sem,e6],by simp +contextual (disch:=omega) only[go_sem,e7],by simp +contextual (disch:=omega) only[go_sem],by simp +contextual (disch:=omega) only[go_sem];rfl,rfl⟩ ?_ ?_ ?_ (fun _ _ _ _ h=>h.elim)
 ·clear H11 e0 e3 e5 e6 e7
  rintro J Y W hJ hY hW i env h' τ hi e14 c0 H ⟨e3,e5,e6,e7,e12,e13,rfl⟩
  have c0:decide ((i:Int)<3)=true:=c0
  have hU:=(Adm (H.hp.rd 1 rfl)).2.1
  have hcr:=Aa8 l.units i
  have hcl:(Bt l.units (i:Nat)).length<=l.units.length:=by
   unfold Bt;rw[Zak];exact Zag _ _
  have hc1:cntR l.units i<=180:=by
   have:i*l.units.length<=3*60:=Nat.mul_le_mul (by omega) hnu
   omega
  have hpw:=(A6v hG).2 (i:Nat) (by omega) (by omega)
  simp +contextual (disch:=omega) only[go_sem,c0,e3,e5,e6,e7,e12,e13,e14]
  obtain⟨w,τ1,R1,K1⟩:=A2p τ uu l.units hU (i:Nat) (by omega)
  refine by_c H R1 K1 fun H1=> ?_
  have hwl:=(H1.hp.sl 0 rfl).len
  have hcn:cntR l.units (i+1)=cntR l.units i+(Bt l.units (i:Nat)).length:=rfl
  obtain⟨A,hA⟩:∃ A,A=Bt l.units (i:Nat):=⟨_,rfl⟩
  rw[<- hA] at H1 hwl hcn hcl hpw
  obtain⟨cn,hcn1⟩:∃ cn,cn=cntR l.units i:=⟨_,rfl⟩
  rw[<- hcn1] at hcn hc1 e13
  simp +contextual (disch:=omega) only[go_sem,hwl,e13,Eb]
  refine A9v A.length 6 (fun kk env h=>env 3= .ptr n3 0/\env 5= .str o/\env 6=y/\env 7=gi (Eg s o)/\env 12= .ptr n12 0/\env 13=gi ((cn:Int)+A.length)/\env 14=gi i/\env 15=w/\(∃ j:Nat,env 16=gi j/\kk=A.length+1 - j/\1<=j)/\h=[.th (ow kAct w A),.box 1 n12 (logV l s0 s1 s2 s3 uu ww),.th (own kLog (logV l s0 s1 s2 s3 uu ww) l),.th (ow pI.kd y cb),.box 1 n3 ds,.th (own A8 ds s)]) (fun env h=>env 3= .ptr n3 0/\env 5= .str o/\env 6=y/\env 7=gi (Eg s o)/\env 12= .ptr n12 0/\env 13=gi ((cn:Int)+A.length)/\env 14=gi i/\h=[.th (ow kAct w A),.box 1 n12 (logV l s0 s1 s2 s3 uu ww),.th (own kLog (logV l s0 s1 s2 s3 uu ww) l),.th (ow pI.kd y cb),.box 1 n3 ds,.th (own A8 ds s)]) (fun _ _=>False) _ H1 ⟨by simp +contextual (disch:=omega) only[go_sem,e3],by simp +contextual (disch:=omega) only[go_sem,e5],by simp +contextual (disch:=omega) only[go_sem,e6],by simp +contextual (disch:=omega) only[go_sem,e7],by simp +contextual (disch:=omega) only[go_sem,e12],by simp +contextual (disch:=omega) only[go_sem],by simp +contextual (disch:=omega) only[go_sem,e14],by simp +contextual (disch:=omega) only[go_sem],⟨1,by simp +contextual (disch:=omega) only[go_sem],by omega,Zaa _⟩,rfl⟩ ?_ ?_ (fun _ _ _ _ h=>h.elim)
  ·clear H H1 K1 e3 e5 e6 e7 e12 e13 e14 c0 hU
   rintro J2 Y2 W2 hJ2 hY2 hW2 kk env h' τ H ⟨e3,e5,e6,e7,e12,e13,e14,e15,⟨j,e16,rfl,hj1⟩,rfl⟩
   by_cases hj:j<A.length
   ·have b1:decide ((j:Int)<A.length)=true:=by simp;omega
    have hj0:j - 1<A.length:=by omega
    have np:Aw (some (GV.int .i64 ((j:Int) - 1)))=some (j - 1):=B9 (by omega)
    obtain⟨ca,⟨a1,a2,a3,_,a5⟩,hRa⟩:=RdN.cellsN (H.hp.sl 0 rfl) hj0
    obtain⟨cb',⟨b1',b2',b3',_,b5⟩,hRb⟩:=RdN.cellsN (H.hp.sl 0 rfl) hj
    obtain⟨ka,rfl,_⟩:=hRa
    obtain⟨kb,rfl,_⟩:=hRb
    have a1:iadG 10 w (some (j - 1))=some (atz 10 w (j - 1)):=a1
    have b1':iadG 10 w (some j)=some (atz 10 w j):=b1'
    have a6:=Dz H ((a5 1 1 false (by decide)).trans rfl)
    have b6:=Dz H ((b5 1 1 false (by decide)).trans rfl)
    have a6:ldX σ _ τ false 1 (fld 1 (atz 10 w (j - 1)))=some (gi A[j - 1].dot.seq):=a6
    have b6:ldX σ _ τ false 1 (fld 1 (atz 10 w j))=some (gi A[j].dot.seq):=b6
    have a2:∀ k,fadG k (atz 10 w (j - 1))=some (fld k (atz 10 w (j - 1))):=a2
    have a3:∀ k m,fadG k (fld m (atz 10 w (j - 1)))=some (fld (m+k) (atz 10 w (j - 1))):=a3
    have b2':∀ k,fadG k (atz 10 w j)=some (fld k (atz 10 w j)):=b2'
    have b3':∀ k m,fadG k (fld m (atz 10 w j))=some (fld (m+k) (atz 10 w j)):=b3'
    have hlt:=Zap.1 hpw (j - 1) j hj0 hj (by omega)
    have bq:decide (A[j].dot.seq<=A[j - 1].dot.seq)=false:=by simp;omega
    simp +contextual (disch:=omega) only[go_sem,b1,e3,e5,e6,e7,e12,e13,e14,e15,e16,hwl,np,A3,a1,a2,a3,a6,b1',b2',b3',b6,bq]
    exact⟨A.length+1 - (j+1),by omega,hJ2 _ _ _ _ H ⟨by simp +contextual (disch:=omega) only[go_sem,e3],by simp +contextual (disch:=omega) only[go_sem,e5],by simp +contextual (disch:=omega) only[go_sem,e6],by simp +contextual (disch:=omega) only[go_sem,e7],by simp +contextual (disch:=omega) only[go_sem,e12],by simp +contextual (disch:=omega) only[go_sem,e13],by simp +contextual (disch:=omega) only[go_sem,e14],by simp +contextual (disch:=omega) only[go_sem,e15],⟨j+1,by simp +contextual (disch:=omega) only[go_sem],rfl,by omega⟩,rfl⟩⟩
   ·have b1:decide ((j:Int)<A.length)=false:=by simp;omega
    simp +contextual (disch:=omega) only[go_sem,b1,e15,e16,hwl]
    exact hY2 _ _ _ H ⟨e3,e5,e6,e7,e12,e13,e14,rfl⟩
  ·clear H H1 K1 e3 e5 e6 e7 e12 e13 e14 c0 hU
   rintro env h' τ H ⟨e3,e5,e6,e7,e12,e13,e14,rfl⟩
   simp +contextual (disch:=omega) only[go_sem,e14]
   exact hJ _ _ _ _ (H.re [1,2,3,4,5] (by decide)) ⟨by simp +contextual (disch:=omega) only[go_sem,e3],by simp +contextual (disch:=omega) only[go_sem,e5],by simp +contextual (disch:=omega) only[go_sem,e6],by simp +contextual (disch:=omega) only[go_sem,e7],by simp +contextual (disch:=omega) only[go_sem,e12],by simp +contextual (disch:=omega) only[go_sem,e13];rw[hcn];rfl,rfl⟩
 ·clear H11 e0 e3 e5 e6 e7
  rintro Y hY env h' τ e14 c0 H ⟨e3,e5,e6,e7,e12,e13,rfl⟩
  have e14:env 14=gi 3:=e14
  have c3:decide ((3:Int)<3)=false:=rfl
  simp +contextual (disch:=omega) only[go_sem,e14,c3]
  exact hY _ _ _ H ⟨e3,e5,e6,e7,e12,e13,rfl⟩
 clear H11 e0 e3 e5 e6 e7
 rintro env h' τ H ⟨e3,e5,e6,e7,e12,e13,rfl⟩
 rw[cntR_3 hG] at e13
 obtain⟨b,hb1,hb2,hk3,hb3⟩:=Adr hs
 simp +contextual (disch:=omega) only[go_sem,e3,A9 gl]
 refine by_r H (Vv τ ds s (H.hp.rd 4 rfl) (by omega)) ?_
 rw[hb1]
 have c1:decide ((b:Int)<0)=false:=by simp
 have c2:decide ((3:Int)<=(b:Int))=false:=by simp;omega
 simp +contextual (disch:=omega) only[go_sem,c1,c2]
 obtain⟨v0,v1,v2,v3,rfl,hkn,_⟩:=H.hp.rd 4 rfl
 have hbl:b<s.know.length:=by omega
 refine Cf 3 18 8 (fun i env h=>env 3= .ptr n3 0/\env 5= .str o/\env 6=y/\env 7=gi (Eg s o)/\env 12= .ptr n12 0/\env 13=gi (l.units.length:Nat)/\env 17=gi b/\h=[.box 1 n12 (logV l s0 s1 s2 s3 uu ww),.th (own kLog (logV l s0 s1 s2 s3 uu ww) l),.th (ow pI.kd y cb),.box 1 n3 [v0,v1,v2,v3],.th (own A8 [v0,v1,v2,v3] s)]) (fun env h=>env 3= .ptr n3 0/\env 5= .str o/\env 6=y/\env 7=gi (Eg s o)/\env 12= .ptr n12 0/\env 13=gi (l.units.length:Nat)/\h=[.box 1 n12 (logV l s0 s1 s2 s3 uu ww),.th (own kLog (logV l s0 s1 s2 s3 uu ww) l),.th (ow pI.kd y cb),.box 1 n3 [v0,v1,v2,v3],.th (own A8 [v0,v1,v2,v3] s)]) (fun _ _=>False) _ H (by simp +contextual (disch:=omega) only[go_sem]) ⟨by simp +contextual (disch:=omega) only[go_sem,e3],by simp +contextual (disch:=omega) only[go_sem,e5],by simp +contextual (disch:=omega) only[go_sem,e6],by simp +contextual (disch:=omega) only[go_sem,e7],by simp +contextual (disch:=omega) only[go_sem,e12],by simp +contextual (disch:=omega) only[go_sem,e13],by simp +contextual (disch:=omega) only[go_sem],rfl⟩ ?_ ?_ ?_ (fun _ _ _ _ h=>h.elim)
 ·clear H e3 e5 e6 e7 e12 e13 hkn
  rintro J Y W hJ hY hW i env h' τ hi e18 c0 H ⟨e3,e5,e6,e7,e12,e13,e17,rfl⟩
  have c0:decide ((i:Int)<3)=true:=c0
  obtain⟨_,_,_,_,ee,hkn,_⟩:=H.hp.rd 4 rfl
  injection ee with ee1 _
  subst ee1
  have hil:i<s.know.length:=by omega
  have A1:=E6 hkn hil
  have A2:=Dz H A1.2
  have B1:=E6 hkn hbl
  have B2:=Dz H B1.2
  have hle:=hb3 i hil
  rw[Zai hbl] at hle
  have hle:s.know[i]<=s.know[b]:=hle
  have bq:decide (s.know[b]<s.know[i])=false:=by simp;omega
  simp +contextual (disch:=omega) only[go_sem,c0,e3,e5,e6,e7,e12,e13,e17,e18,A3,A1.1,A2,B1.1,B2,bq]
  exact hJ _ _ _ _ H ⟨by simp +contextual (disch:=omega) only[go_sem,e3],by simp +contextual (disch:=omega) only[go_sem,e5],by simp +contextual (disch:=omega) only[go_sem,e6],by simp +contextual (disch:=omega) only[go_sem,e7],by simp +contextual (disch:=omega) only[go_sem,e12],by simp +contextual (disch:=omega) only[go_sem,e13],by simp +contextual (disch:=omega) only[go_sem,e17],rfl⟩
 ·clear H e3 e5 e6 e7 e12 e13 hkn
  rintro Y hY env h' τ e18 c0 H ⟨e3,e5,e6,e7,e12,e13,e17,rfl⟩
  have e18:env 18=gi 3:=e18
  have c3:decide ((3:Int)<3)=false:=rfl
  simp +contextual (disch:=omega) only[go_sem,e18,c3]
  exact hY _ _ _ H ⟨e3,e5,e6,e7,e12,e13,rfl⟩
 clear H e3 e5 e6 e7 e12 e13 hkn
 rintro env h' τ H ⟨e3,e5,e6,e7,e12,e13,rfl⟩
 have hU:=(Adm (H.hp.rd 1 rfl)).2.1
 have hul:=hU.len
 simp +contextual (disch:=omega) only[go_sem,e3,e5,e7]
 refine by_r H (A0k τ _ s (H.hp.rd 4 rfl) o (by omega)) ?_
 simp +contextual (disch:=omega) only[go_sem,beq_self_eq_true,e3,e5]
 obtain⟨a1,τ20,R20,K20⟩:=Zo τ _ s (H.hp.rd 4 rfl) o (by omega)
 refine by_c H R20 K20 fun H20=> ?_
 have l1:=(H20.hp.sl 0 rfl).len
 simp +contextual (disch:=omega) only[go_sem,l1,e3,e5]
 obtain⟨a2,τ21,R21,K21⟩:=A5y τ20 _ s (H20.hp.rd 5 rfl) o (by omega)
 refine by_c H20 R21 K21 fun H21=> ?_
 have l2:=(H21.hp.sl 0 rfl).len
 have hyl:=(H21.hp.sl 4 rfl).len
 have hrl:(A4z s o).length=(Sz s o).length:=by unfold A4z Sz;rw[Zak,Zak]
 have q3':((cb.length:Int)==3)=true:=by simp[hc3]
 rw[hrl] at l2
 simp +contextual (disch:=omega) only[go_sem,l2,beq_self_eq_true,e12,e13,hul,e6,hyl,q3']
 exact fun _=>⟨_,rfl,rfl⟩
end Go.Proofs.YtbeoiejnogdkpaaGreat.Sy
