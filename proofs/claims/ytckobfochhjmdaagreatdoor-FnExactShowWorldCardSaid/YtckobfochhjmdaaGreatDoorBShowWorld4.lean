/- Texts of this proof, one behind the other. -/
import Derived.Test.YtckobfochhjmdaaGreatDoorBShowWorld3
import Derived.Sort.LotC
import Derived.Sort.AssemblyPlain
import Derived.Test.YtckobfochhjmdaaGreatDoorProg
import Derived.KernelRfl
set_option linter.unusedSimpArgs false
set_option linter.unusedVariables false
set_option maxRecDepth 4000
set_option maxHeartbeats 4000000
open Nat renaming le_refl→Zaa,lt_or_ge→Zaf,mul_le_mul_right→Za0,eq_zero_or_pos→Za3,mul_le_mul→Zbb
open List renaming take_length→Zab,length_map→Zac,length_filter_le→Zad,length_take→Zah,take_succ_eq_append_getElem→Zai,getElem_mem→Zaj,map_cons→Zak,length_cons→Zal,length_append→Zam,pairwise_iff_getElem→Zan,map_append→Zao,mem_map→Zap,getElem?_eq_some_iff→Zaq,cons_append→Zar,getElem_of_mem→Zas,length_nil→Zat,nil_append→Zau,mem_filter→Zav,map_nil→Zaw,all_eq_true→Zax,mem_cons_of_mem→Zay,mem_of_mem_take→Zaz,mem_cons_self→Za5,mem_singleton→Za6,append_assoc→Za7,prefix_refl→Za8,append_nil→Zba
open Bool renaming false_bne→Zae,and_eq_true→Zag,or_eq_true→Za9
open Int renaming ofNat_zero→Za1,tmod_lt_of_pos→Za4
open Array renaming length_toList→Za2
namespace Go.Proofs.YtckobfochhjmdaaGreatDoor.Sy
open Go Go.RowKit
namespace O
open Go Go.RowKit Go.Proofs.YtckobfochhjmdaaGreatDoor.Sy Go.Sort
variable {Y:Type} [Inhabited Y] {lt:Y->Y->Bool} {U0 U:St} {rs:List Thg} {k:Nat} {v:GV} {d:Array Y}
theorem siftDown_size (lt:Y->Y->Bool) (hi F:Nat):∀(n root:Nat) (d:Array Y),hi - root<=n->(siftDown lt hi F root d).size=d.size
 |0,root,d,h=>by rw[siftDown,dif_pos (by omega)]
 |n+1,root,d,h=>by
  rw[siftDown]
  split
  ·rfl
  ·split
   ·split
    ·rfl
    ·split
     ·rw[siftDown_size lt hi F n _ _ (by omega),Go.Sort.swp_size]
     ·rfl
   ·split
    ·rfl
    ·rw[siftDown_size lt hi F n _ _ (by omega),Go.Sort.swp_size]
theorem sift_ret (S:SrtO Y lt) (H:Holds S.e U0 U rs k v d) {lo hi F:Nat} (hb:F+hi<=d.size) (hlo:lo<=d.size) (hs:d.size<=1099511627776):∃ N,Ret Tryz.prog S.q.siftDown [v,gi lo,gi hi,gi F] U (.tup []) N/\Holds S.e U0 N rs k v (siftDown lt hi F lo d):=by
 have key:∃ r N,Ret Tryz.prog S.q.siftDown [v,gi lo,gi hi,gi F] U r N/\r= .tup []/\Holds S.e U0 N rs k v (siftDown lt hi F lo d):=by
  refine Au S.h_siftDown (Z0z rfl) ?_
  simp +contextual (disch:=omega) only[go_sem,S8]
  refine Br (fun n env N=>∃(r:Nat) (D:Array Y),env 0=v/\env 1=gi lo/\env 2=gi hi/\env 3=gi F/\env 8=gi r/\hi - r=n/\r<=d.size/\D.size=d.size/\U.length<=N.length/\Holds S.e U0 N rs k v D/\siftDown lt hi F r D=siftDown lt hi F lo d) (hi - lo) ⟨lo,d,rfl,rfl,rfl,rfl,rfl,rfl,hlo,rfl,Zaa _,H,rfl⟩ ?_
  rintro J hJ n env N ⟨r,D,e0,e1,e2,e3,er,hn,hr,hD,hle,hH,hE⟩
  rw[siftDown] at hE
  have w2:IntKind.i64.wrap (2*(r:Int))=2*(r:Int):=Ag (by omega) (by omega)
  by_cases h1:2*r+1≥hi
  ·rw[dif_pos h1] at hE
   have c1:decide ((hi:Int)<=2*(r:Int)+1)=true:=by simp;omega
   simp +contextual (disch:=omega) only[go_sem,e0,e1,e2,e3,er,w2,c1]
   exact⟨_,rfl,hle,rfl,by rw[<- hE];exact hH⟩
  ·rw[dif_neg h1] at hE
   have c1:decide ((hi:Int)<=2*(r:Int)+1)=false:=by simp;omega
   have nr:Bb (some (.int .i64 ((F:Int)+r)))=some (F+r):=B6 (by simp)
   have ir:=hH.iad (j:=F+r) (by omega)
   have lr:=hH.ld (j:=F+r) (by omega)
   by_cases hA:2*r+2<hi
   ·have cA:decide (2*(r:Int)+1+1<hi)=true:=by simp;omega
    have nc:Bb (some (.int .i64 ((F:Int)+(2*(r:Int)+1))))=some (F+(2*r+1)):=B6 (by simp)
    have nc2:Bb (some (.int .i64 ((F:Int)+(2*(r:Int)+1)+1)))=some (F+(2*r+1)+1):=B6 (by simp)
    have ic:=hH.iad (j:=F+(2*r+1)) (by omega)
    have lc:=hH.ld (j:=F+(2*r+1)) (by omega)
    have ic2:=hH.iad (j:=F+(2*r+1)+1) (by omega)
    have lc2:=hH.ld (j:=F+(2*r+1)+1) (by omega)
    simp +contextual (disch:=omega) only[go_sem,e0,e1,e2,e3,er,w2,c1,cA,nc,nc2,ic,lc,ic2,lc2]
    refine A5 (S.call _ _ _) ?_
    cases hl1:lt D[F+(2*r+1)]! D[F+(2*r+1)+1]! with
    |true=>
     clear nc ic lc
     rw[if_pos (by simp[hl1];omega)] at hE
     rw[dif_pos hA] at hE
     obtain⟨c,hc⟩:∃ c,c=2*r+2:=⟨_,rfl⟩
     rw[<- hc] at hE
     have ncI:2*(r:Int)+1+1=c:=by omega
     have nc:Bb (some (.int .i64 ((F:Int)+c)))=some (F+c):=B6 (by simp)
     have ic:=hH.iad (j:=F+c) (by omega)
     have lc:=hH.ld (j:=F+c) (by omega)
     simp +contextual (disch:=omega) only[go_sem,e0,e1,e2,e3,er,w2,cA,nr,nc,ncI,hl1,ir,lr,ic,lc]
     obtain⟨N1,N2,s1,s2,hH2,hl2⟩:=hH.sw (a:=F+r) (b:=F+c) (by omega) (by omega)
     refine A5 (S.call _ _ _) ?_
     cases hl:lt D[F+r]! D[F+c]! with
     |true=>
      rw[if_neg (by simp[hl])] at hE
      simp +contextual (disch:=omega) only[go_sem,e0,e1,e2,e3,er,w2,c1,cA,nr,nc,ncI,hl,ir,lr,ic,lc,s1,s2]
      refine⟨hi - c,by omega,hJ _ _ _ ⟨c,swp D (F+r) (F+c),?_,?_,?_,?_,?_,rfl,by omega,by rw[Go.Sort.swp_size];exact hD,by omega,hH2,hE⟩⟩
      all_goals simp +contextual (disch:=omega) only[go_sem,e0,e1,e2,e3,er,ncI]
     |false=>
      rw[if_pos (by simp[hl])] at hE
      simp +contextual (disch:=omega) only[go_sem,e0,e1,e2,e3,er,hl]
      exact⟨_,rfl,hle,rfl,by rw[<- hE];exact hH⟩
    |false=>
     rw[if_neg (by simp[hl1])] at hE
     obtain⟨c,hc⟩:∃ c,c=2*r+1:=⟨_,rfl⟩
     rw[<- hc] at hE ic lc
     have ncI:2*(r:Int)+1=c:=by omega
     rw[<- hc,ncI] at nc
     simp +contextual (disch:=omega) only[go_sem,e0,e1,e2,e3,er,w2,cA,nr,nc,ncI,hl1,ir,lr,ic,lc]
     obtain⟨N1,N2,s1,s2,hH2,hl2⟩:=hH.sw (a:=F+r) (b:=F+c) (by omega) (by omega)
     refine A5 (S.call _ _ _) ?_
     cases hl:lt D[F+r]! D[F+c]! with
     |true=>
      rw[if_neg (by simp[hl])] at hE
      simp +contextual (disch:=omega) only[go_sem,e0,e1,e2,e3,er,w2,c1,cA,nr,nc,ncI,hl,ir,lr,ic,lc,s1,s2]
      refine⟨hi - c,by omega,hJ _ _ _ ⟨c,swp D (F+r) (F+c),?_,?_,?_,?_,?_,rfl,by omega,by rw[Go.Sort.swp_size];exact hD,by omega,hH2,hE⟩⟩
      all_goals simp +contextual (disch:=omega) only[go_sem,e0,e1,e2,e3,er,ncI]
     |false=>
      rw[if_pos (by simp[hl])] at hE
      simp +contextual (disch:=omega) only[go_sem,e0,e1,e2,e3,er,hl]
      exact⟨_,rfl,hle,rfl,by rw[<- hE];exact hH⟩
   ·have cA:decide (2*(r:Int)+1+1<hi)=false:=by simp;omega
    rw[if_neg (by simp;intro h;omega)] at hE
    obtain⟨c,hc⟩:∃ c,c=2*r+1:=⟨_,rfl⟩
    rw[<- hc] at hE
    have ncI:2*(r:Int)+1=c:=by omega
    have nc:Bb (some (.int .i64 ((F:Int)+c)))=some (F+c):=B6 (by simp)
    have ic:=hH.iad (j:=F+c) (by omega)
    have lc:=hH.ld (j:=F+c) (by omega)
    rw[ncI] at c1 cA
    simp +contextual (disch:=omega) only[go_sem,e0,e1,e2,e3,er,w2,c1,cA,nr,nc,ncI,ir,lr,ic,lc]
    obtain⟨N1,N2,s1,s2,hH2,hl2⟩:=hH.sw (a:=F+r) (b:=F+c) (by omega) (by omega)
    refine A5 (S.call _ _ _) ?_
    cases hl:lt D[F+r]! D[F+c]! with
    |true=>
     rw[if_neg (by simp[hl])] at hE
     simp +contextual (disch:=omega) only[go_sem,e0,e1,e2,e3,er,w2,c1,cA,nr,nc,ncI,hl,ir,lr,ic,lc,s1,s2]
     refine⟨hi - c,by omega,hJ _ _ _ ⟨c,swp D (F+r) (F+c),?_,?_,?_,?_,?_,rfl,by omega,by rw[Go.Sort.swp_size];exact hD,by omega,hH2,hE⟩⟩
     all_goals simp +contextual (disch:=omega) only[go_sem,e0,e1,e2,e3,er,ncI]
    |false=>
     rw[if_pos (by simp[hl])] at hE
     simp +contextual (disch:=omega) only[go_sem,e0,e1,e2,e3,er,hl]
     exact⟨_,rfl,hle,rfl,by rw[<- hE];exact hH⟩
 obtain⟨r,N,R,rfl,h⟩:=key
 exact⟨N,R,h⟩
theorem heap_ret (S:SrtO Y lt) (H:Holds S.e U0 U rs k v d) {a b:Nat} (hab:a<=b) (hb:b<=d.size) (hs:d.size<=1099511627776):∃ N,Ret Tryz.prog S.q.heapSort [v,gi a,gi b] U (.tup []) N/\Holds S.e U0 N rs k v (heapSort lt d a b):=by
 have key:∃ r N,Ret Tryz.prog S.q.heapSort [v,gi a,gi b] U r N/\r= .tup []/\Holds S.e U0 N rs k v (heapSort lt d a b):=by
  refine Au S.h_heapSort (Z0z rfl) ?_
  obtain⟨h,hh⟩:∃ h,h=b - a:=⟨_,rfl⟩
  have hI:(b:Int) - a=h:=by omega
  have hq:((h:Int) - 1).tdiv 2=(((h - 1) / 2+1:Nat):Int) - 1:=by
   rcases Za3 h with rfl|hp
   ·rfl
   ·have:(h:Int) - 1=((h - 1:Nat):Int):=by omega
    rw[this]
    have h2:((h - 1:Nat):Int).tdiv 2=(((h - 1) / 2:Nat):Int):=rfl
    rw[h2];omega
  obtain⟨M,hM⟩:∃ M,M=(h - 1) / 2+1:=⟨_,rfl⟩
  rw[<- hM] at hq
  have hE:heapSort lt d a b=heapPop lt a h (heapBuild lt h a M d):=by rw[heapSort,hM,hh]
  rw[hE]
  simp +contextual (disch:=omega) only[go_sem,S6,hI,hq]
  refine Br (fun n env N=>∃(m:Nat) (D:Array Y),env 0=v/\env 1=gi a/\env 2=gi b/\env 6=gi a/\env 7=gi 0/\env 8=gi h/\env 9=gi ((m:Int) - 1)/\m=n/\m<=M/\D.size=d.size/\U.length<=N.length/\Holds S.e U0 N rs k v D/\heapBuild lt h a m D=heapBuild lt h a M d) M ⟨M,d,rfl,rfl,rfl,rfl,rfl,rfl,rfl,rfl,Zaa _,rfl,Zaa _,H,rfl⟩ ?_
  rintro J hJ n env N ⟨m,D,e0,e1,e2,e6,e7,e8,e9,hn,hm,hD,hle,hH,hE⟩
  cases m with
  |succ j=>
   have e9:env 9=gi (j:Int):=by rw[e9];congr 1;omega
   have c0:decide ((0:Int)<=j)=true:=by simp
   rw[heapBuild] at hE
   simp +contextual (disch:=omega) only[go_sem,e0,e1,e2,e6,e7,e8,e9,c0]
   obtain⟨N1,R,hH1⟩:=sift_ret S hH (lo:=j) (hi:=h) (F:=a) (by omega) (by omega) (by omega)
   have hl1:=R.2.1
   refine Ak R ?_
   simp +contextual (disch:=omega) only[go_sem,e0,e1,e2,e6,e7,e8,e9]
   refine⟨j,by omega,hJ _ _ _ ⟨j,_,?_,?_,?_,?_,?_,?_,?_,rfl,by omega,?_,by omega,hH1,hE⟩⟩
   all_goals first|(simp +contextual (disch:=omega) only[go_sem,e0,e1,e2,e6,e7,e8,e9];done)|(rw [siftDown_size lt h a _ _ _ (Zaa _)];exact hD)
  |zero=>
   have e9:env 9=gi (-1):=e9
   rw[heapBuild] at hE
   simp +contextual (disch:=omega) only[go_sem,e0,e1,e2,e6,e7,e8,e9]
   have c0:decide ((0:Int)<= -1)=false:=rfl
   simp +contextual (disch:=omega) only[go_sem,e0,e1,e2,e6,e7,e8,e9,c0]
   refine Br (fun n env N=>∃(m:Nat) (E:Array Y),env 0=v/\env 1=gi a/\env 2=gi b/\env 6=gi a/\env 7=gi 0/\env 8=gi h/\env 10=gi ((m:Int) - 1)/\m=n/\m<=h/\E.size=d.size/\U.length<=N.length/\Holds S.e U0 N rs k v E/\heapPop lt a m E=heapPop lt a h (heapBuild lt h a M d)) h ⟨h,D,by simp +contextual (disch:=omega) only[go_sem,e0],by simp +contextual (disch:=omega) only[go_sem,e1],by simp +contextual (disch:=omega) only[go_sem,e2],by simp +contextual (disch:=omega) only[go_sem,e6],by simp +contextual (disch:=omega) only[go_sem,e7],by simp +contextual (disch:=omega) only[go_sem,e8],rfl,rfl,Zaa _,hD,hle,hH,by rw[hE]⟩ ?_
   clear hH hle e0 e1 e2 e6 e7 e8 e9
   rintro J2 hJ2 n2 env N ⟨m,E,e0,e1,e2,e6,e7,e8,e9,hn2,hm,hE2,hle,hH,hP⟩
   cases m with
   |succ j=>
    have e9:env 10=gi (j:Int):=by rw[e9];congr 1;omega
    have c0:decide ((0:Int)<=j)=true:=by simp
    rw[heapPop] at hP
    have nr:Bb (some (.int .i64 ((a:Int)+j)))=some (a+j):=B6 (by simp)
    obtain⟨N1,N2,s1,s2,hH2,hl2⟩:=hH.sw (a:=a) (b:=a+j) (by omega) (by omega)
    obtain⟨N3,R,hH3⟩:=sift_ret S hH2 (lo:=0) (hi:=j) (F:=a) (by rw[Go.Sort.swp_size];omega) (by omega) (by rw[Go.Sort.swp_size];omega)
    have hl3:=R.2.1
    simp +contextual (disch:=omega) only[go_sem,e0,e1,e2,e6,e7,e8,e9,c0,nr,A1,hH.iad (j:=a) (by omega),hH.ld (j:=a) (by omega),hH.iad (j:=a+j) (by omega),hH.ld (j:=a+j) (by omega),s1,s2]
    refine Ak R ?_
    simp +contextual (disch:=omega) only[go_sem,e0,e1,e2,e6,e7,e8,e9]
    refine⟨j,by omega,hJ2 _ _ _ ⟨j,_,?_,?_,?_,?_,?_,?_,?_,rfl,by omega,?_,by omega,hH3,hP⟩⟩
    all_goals first|(simp +contextual (disch:=omega) only[go_sem,e0,e1,e2,e6,e7,e8,e9];done)|(rw [siftDown_size lt _ a _ _ _ (Zaa _),Go.Sort.swp_size];exact hE2)
   |zero=>
    have e9:env 10=gi (-1):=e9
    rw[heapPop] at hP
    simp +contextual (disch:=omega) only[go_sem,e0,e1,e2,e6,e7,e8,e9,c0]
    exact⟨_,rfl,hle,rfl,by rw[<- hP];exact hH⟩
 obtain⟨r,N,R,rfl,h⟩:=key
 exact⟨N,R,h⟩
theorem rev_ret (S:SrtO Y lt) (H:Holds S.e U0 U rs k v d) {a b:Nat} (hab:a<b) (hb:b<=d.size) (hs:d.size<=1099511627776):∃ N,Ret Tryz.prog S.q.reverseRange [v,gi a,gi b] U (.tup []) N/\Holds S.e U0 N rs k v (reverseRange d a b):=by
 have key:∃ r N,Ret Tryz.prog S.q.reverseRange [v,gi a,gi b] U r N/\r= .tup []/\Holds S.e U0 N rs k v (reverseRange d a b):=by
  refine Au S.h_reverseRange (Z0z rfl) ?_
  have hbI:(b:Int) - 1=((b - 1:Nat):Int):=by omega
  obtain⟨h,hh⟩:∃ h,h=b - 1:=⟨_,rfl⟩
  have hE:reverseRange d a b=reverseLoop a h d:=by rw[reverseRange,hh]
  rw[hE]
  rw[<- hh] at hbI
  simp +contextual (disch:=omega) only[go_sem,J9,hbI]
  refine Br (fun n env N=>∃(i j:Nat) (D:Array Y),env 0=v/\env 6=gi i/\env 7=gi j/\j - i=n/\a<=i/\i<=d.size/\j<=h/\D.size=d.size/\U.length<=N.length/\Holds S.e U0 N rs k v D/\reverseLoop i j D=reverseLoop a h d) (h - a) ⟨a,h,d,rfl,rfl,rfl,rfl,Zaa _,by omega,Zaa _,rfl,Zaa _,H,rfl⟩ ?_
  rintro J hJ n env N ⟨i,j,D,e0,e6,e7,hn,hi,hi2,hj,hD,hle,hH,hE⟩
  rw[reverseLoop] at hE
  rcases Zaf i j with hlt|hge
  ·rw[if_pos hlt] at hE
   have c0:decide ((i:Int)<j)=true:=by simp;omega
   obtain⟨N1,N2,s1,s2,hH2,hl2⟩:=hH.sw (a:=i) (b:=j) (by omega) (by omega)
   have j1:(j:Int) - 1=((j - 1:Nat):Int):=by omega
   simp +contextual (disch:=omega) only[go_sem,e0,e6,e7,c0,A1,hH.iad (j:=i) (by omega),hH.ld (j:=i) (by omega),hH.iad (j:=j) (by omega),hH.ld (j:=j) (by omega),s1,s2]
   refine⟨(j - 1) - (i+1),by omega,hJ _ _ _ ⟨i+1,j - 1,swp D i j,?_,?_,?_,rfl,by omega,by omega,by omega,by rw[Go.Sort.swp_size];exact hD,by omega,hH2,hE⟩⟩
   all_goals simp +contextual (disch:=omega) only[go_sem,e0,e6,e7,j1]
  ·rw[if_neg (by omega)] at hE
   have c0:decide ((i:Int)<j)=false:=by simp;omega
   simp +contextual (disch:=omega) only[go_sem,e0,e6,e7,c0]
   exact⟨_,rfl,hle,rfl,by rw[<- hE];exact hH⟩
 obtain⟨r,N,R,rfl,h⟩:=key
 exact⟨N,R,h⟩
end O
namespace O
open Go Go.RowKit Go.Proofs.YtckobfochhjmdaaGreatDoor.Sy Go.Sort
variable {Y:Type} [Inhabited Y] {lt:Y->Y->Bool} {U0 U:St} {rs:List Thg} {k:Nat} {v:GV} {d:Array Y}
theorem pe_ret (S:SrtO Y lt) (H:Holds S.e U0 U rs k v d) {a b p:Nat} (hab:a<b) (hp:p<b) (hb:b<=d.size) (hs:d.size<=1099511627776):∃ N,Ret Tryz.prog S.q.partitionEqual [v,gi a,gi b,gi p] U (gi (partitionEqual lt d a b p).1) N/\Holds S.e U0 N rs k v (partitionEqual lt d a b p).2:=by
 have key:∃ r N,Ret Tryz.prog S.q.partitionEqual [v,gi a,gi b,gi p] U r N/\r=gi (partitionEqual lt d a b p).1/\Holds S.e U0 N rs k v (partitionEqual lt d a b p).2:=by
  refine Au S.h_partitionEqual (Z0z rfl) ?_
  obtain⟨N1,N2,s1,s2,hH,hl2⟩:=H.sw (a:=a) (b:=p) (by omega) (by omega)
  obtain⟨h,hh⟩:∃ h,h=b - 1:=⟨_,rfl⟩
  have hbI:(b:Int) - 1=h:=by omega
  have hsz:=Go.Sort.swp_size d a p
  rw[partitionEqual,<-hh]
  obtain⟨D0,hD0⟩:∃ D0,D0=swp d a p:=⟨_,rfl⟩
  rw[<- hD0] at hH hsz
  simp +contextual (disch:=omega) only[go_sem,Hi,hbI,A1,H.iad (j:=a) (by omega),H.ld (j:=a) (by omega),H.iad (j:=p) (by omega),H.ld (j:=p) (by omega),s1,s2]
  rw[<- hD0]
  refine Br (fun n env N=>∃(i j:Nat) (D:Array Y),env 0=v/\env 1=gi a/\env 9=gi i/\env 10=gi j/\j+1 - i=n/\1<=i/\i<=j+1/\j<b/\D.size=d.size/\U.length<=N.length/\Holds S.e U0 N rs k v D/\partEqLoop lt a i j D=partEqLoop lt a (a+1) h D0) (h+1 - (a+1)) ⟨a+1,h,D0,rfl,rfl,rfl,rfl,rfl,by omega,by omega,by omega,hsz,by omega,hH,rfl⟩ ?_
  clear hH
  rintro J hJ n env N ⟨i,j,D,e0,e1,e9,e10,hn,hi,hij,hj,hD,hle,hH,hE⟩
  rw[partEqLoop_eq] at hE
  have ia:=hH.iad (j:=a) (by omega)
  have la:=hH.ld (j:=a) (by omega)
  simp +contextual (disch:=omega) only[go_sem]
  refine C8 (fun n env N'=>∃(x:Nat),env 0=v/\env 1=gi a/\env 9=gi x/\env 10=gi j/\j+1 - x=n/\i<=x/\x<=j+1/\N=N'/\scanUp (fun x=> !lt D[a]! x) D j x=scanUp (fun x=> !lt D[a]! x) D j i) (j+1 - i) 2 (fun env N'=>env 0=v/\env 1=gi a/\env 9=gi (scanUp (fun x=> !lt D[a]! x) D j i:Nat)/\env 10=gi j/\N=N') ⟨i,e0,e1,e9,e10,rfl,Zaa _,hij,rfl,rfl⟩ ?_ ?_
  ·clear e0 e1 e9 e10
   rintro J2 Yq2 hJ2 hY2 n2 env N' ⟨x,e0,e1,e9,e10,hn2,hx1,hx2,rfl,hU⟩
   rw[scanUp] at hU
   rcases Zaf j x with hx|hx
   ·rw[if_neg (by simp;intro h;omega)] at hU
    have c0:decide ((x:Int)<=j)=false:=by simp;omega
    simp +contextual (disch:=omega) only[go_sem,e0,e1,e9,e10,c0]
    refine hY2 _ _ ⟨?_,?_,?_,?_,rfl⟩
    all_goals simp +contextual (disch:=omega) only[go_sem,e0,e1,e9,e10,hU]
   ·have c0:decide ((x:Int)<=j)=true:=by simp;omega
    simp +contextual (disch:=omega) only[go_sem,e0,e1,e9,e10,c0,A1,ia,la,hH.iad (j:=x) (by omega),hH.ld (j:=x) (by omega)]
    refine A5 (S.call _ _ _) ?_
    cases hl:lt D[a]! D[x]! with
    |true=>
     rw[if_neg (by simp[hl])] at hU
     simp +contextual (disch:=omega) only[go_sem,e0,e1,e9,e10,c0,hl]
     refine hY2 _ _ ⟨?_,?_,?_,?_,rfl⟩
     all_goals simp +contextual (disch:=omega) only[go_sem,e0,e1,e9,e10,hU]
    |false=>
     rw[if_pos (by simp[hl];omega)] at hU
     simp +contextual (disch:=omega) only[go_sem,e0,e1,e9,e10,c0,hl]
     refine⟨j+1 - (x+1),by omega,hJ2 _ _ _ ⟨x+1,?_,?_,?_,?_,rfl,by omega,by omega,rfl,hU⟩⟩
     all_goals simp +contextual (disch:=omega) only[go_sem,e0,e1,e9,e10]
  ·clear e0 e1 e9 e10
   rintro env N' ⟨e0,e1,e9,e10,rfl⟩
   obtain⟨u1,u2,-,u4⟩:=scanUp_spec (fun x=> !lt D[a]! x) D j _ i rfl
   have u2:=u2 hij
   obtain⟨x,hx⟩:∃ x,x=scanUp (fun x=> !lt D[a]! x) D j i:=⟨_,rfl⟩
   rw[<- hx] at hE e9 u1 u2 u4
   simp +contextual (disch:=omega) only[go_sem]
   refine C8 (fun n env N'=>∃(y:Nat),env 0=v/\env 1=gi a/\env 9=gi x/\env 10=gi y/\y+1=n/\y<=j/\x<=y+1/\N=N'/\scanDown (fun x=>lt D[a]! x) D x y=scanDown (fun x=>lt D[a]! x) D x j) (j+1) 4 (fun env N'=>env 0=v/\env 1=gi a/\env 9=gi x/\env 10=gi (scanDown (fun x=>lt D[a]! x) D x j:Nat)/\N=N'/\x<=scanDown (fun x=>lt D[a]! x) D x j+1) ⟨j,e0,e1,e9,e10,rfl,Zaa _,u2,rfl,rfl⟩ ?_ ?_
   ·clear e0 e1 e9 e10
    rintro J2 Yq2 hJ2 hY2 n2 env N' ⟨y,e0,e1,e9,e10,hn2,hy1,hy2,rfl,hU⟩
    rcases Zaf y x with hlt|hge
    ·have hU:scanDown (fun x=>lt D[a]! x) D x j=y:=by
      rw[<- hU]
      cases y with
      |zero=>rfl
      |succ y=>rw[scanDown,if_neg (by simp;intro h;omega)]
     have c0:decide ((x:Int)<=y)=false:=by simp;omega
     simp +contextual (disch:=omega) only[go_sem,e0,e1,e9,e10,c0]
     refine hY2 _ _ ⟨?_,?_,?_,?_,rfl,by omega⟩
     all_goals simp +contextual (disch:=omega) only[go_sem,e0,e1,e9,e10,hU]
    ·have c0:decide ((x:Int)<=y)=true:=by simp;omega
     obtain⟨z,rfl⟩:∃ z,y=z+1:=⟨y - 1,by omega⟩
     rw[scanDown] at hU
     have c0:decide ((x:Int)<=(z:Int)+1)=true:=c0
     have n1:Bb (some (.int .i64 ((z:Int)+1)))=some (z+1):=B6 (by simp)
     have z1:(z:Int)+1 - 1=z:=by omega
     simp +contextual (disch:=omega) only[go_sem,e0,e1,e9,e10,c0,A1,n1,ia,la,hH.iad (j:=z+1) (by omega),hH.ld (j:=z+1) (by omega)]
     refine A5 (S.call _ _ _) ?_
     cases hl:lt D[a]! D[z+1]! with
     |false=>
      rw[if_neg (by simp[hl])] at hU
      simp +contextual (disch:=omega) only[go_sem,e0,e1,e9,e10,c0,hl]
      refine hY2 _ _ ⟨?_,?_,?_,?_,rfl,by omega⟩
      all_goals simp +contextual (disch:=omega) only[go_sem,e0,e1,e9,e10,<-hU]
     |true=>
      rw[if_pos (by simp[hl];omega)] at hU
      simp +contextual (disch:=omega) only[go_sem,e0,e1,e9,e10,c0,z1,hl]
      refine⟨z+1,by omega,hJ2 _ _ _ ⟨z,?_,?_,?_,?_,rfl,by omega,by omega,rfl,hU⟩⟩
      all_goals simp +contextual (disch:=omega) only[go_sem,e0,e1,e9,e10]
   ·clear e0 e1 e9 e10
    rintro env N' ⟨e0,e1,e9,e10,rfl,hxy⟩
    have w1:=scanDown_le (fun x=>lt D[a]! x) D x j
    have w4:=(scanDown_spec (fun x=>lt D[a]! x) D x j).2.2.2
    obtain⟨y,hy⟩:∃ y,y=scanDown (fun x=>lt D[a]! x) D x j:=⟨_,rfl⟩
    rw[<- hy] at hE e10 w1 w4 hxy
    rcases Zaf y x with hlt|hge
    ·rw[if_pos hlt] at hE
     have c0:decide ((y:Int)<x)=true:=by simp;omega
     simp +contextual (disch:=omega) only[go_sem,e0,e1,e9,e10,c0]
     exact⟨_,rfl,hle,by rw[<- hE],by rw[<- hE];exact hH⟩
    ·rw[if_neg (by omega)] at hE
     have hne:x≠y:=by
      rintro rfl
      have q1:(!lt D[a]! D[x]!)=false:=u4 w1
      have q2:lt D[a]! D[x]! =false:=w4 (Zaa _) (by omega)
      rw[q2] at q1;cases q1
     have c0:decide ((y:Int)<x)=false:=by simp;omega
     have y1:(y:Int) - 1=((y - 1:Nat):Int):=by omega
     obtain⟨N3,N4,s3,s4,hH4,hl4⟩:=hH.sw (a:=x) (b:=y) (by omega) (by omega)
     simp +contextual (disch:=omega) only[go_sem,e0,e1,e9,e10,c0,A1,hH.iad (j:=x) (by omega),hH.ld (j:=x) (by omega),hH.iad (j:=y) (by omega),hH.ld (j:=y) (by omega),s3,s4]
     refine⟨y - 1+1 - (x+1),by omega,hJ _ _ _ ⟨x+1,y - 1,swp D x y,?_,?_,?_,?_,rfl,by omega,by omega,by omega,by rw[Go.Sort.swp_size];exact hD,by omega,hH4,hE⟩⟩
     all_goals simp +contextual (disch:=omega) only[go_sem,e0,e1,e9,e10,y1]
 obtain⟨r,N,R,rfl,h⟩:=key
 exact⟨N,R,h⟩
theorem part_ret (S:SrtO Y lt) (H:Holds S.e U0 U rs k v d) {a b p:Nat} (hab:a<b) (hp:p<b) (hb:b<=d.size) (hs:d.size<=1099511627776):∃ N,Ret Tryz.prog S.q.partition [v,gi a,gi b,gi p] U (.tup [gi (partition lt d a b p).1,.bool (partition lt d a b p).2.1]) N/\Holds S.e U0 N rs k v (partition lt d a b p).2.2:=by
 have key:∃ r N,Ret Tryz.prog S.q.partition [v,gi a,gi b,gi p] U r N/\r= .tup [gi (partition lt d a b p).1,.bool (partition lt d a b p).2.1]/\Holds S.e U0 N rs k v (partition lt d a b p).2.2:=by
  refine Au S.h_partition (Z0z rfl) ?_
  obtain⟨N1,N,s1,s2,hH,hl2⟩:=H.sw (a:=a) (b:=p) (by omega) (by omega)
  obtain⟨j,hh⟩:∃ h,h=b - 1:=⟨_,rfl⟩
  have hbI:(b:Int) - 1=j:=by omega
  have hD:=Go.Sort.swp_size d a p
  obtain⟨P0,hP0⟩:∃ P0,P0=partition lt d a b p:=⟨_,rfl⟩
  rw[<- hP0]
  have hE:=hP0.symm
  simp only[partition] at hE
  rw[<- hh] at hE
  obtain⟨D,hD0⟩:∃ D0,D0=swp d a p:=⟨_,rfl⟩
  rw[<- hD0] at hH hD hE
  simp +contextual (disch:=omega) only[go_sem,Oz,hbI,A1,H.iad (j:=a) (by omega),H.ld (j:=a) (by omega),H.iad (j:=p) (by omega),H.ld (j:=p) (by omega),s1,s2]
  have ia:=hH.iad (j:=a) (by omega)
  have la:=hH.ld (j:=a) (by omega)
  obtain⟨i,hi⟩:∃ i,i=a+1:=⟨_,rfl⟩
  rw[<- hi] at hE
  have hij:i<=j+1:=by omega
  refine C8 (fun n env N'=>∃(x:Nat),env 0=v/\env 1=gi a/\env 10=gi x/\env 11=gi j/\j+1 - x=n/\i<=x/\x<=j+1/\N=N'/\scanUp (fun x=>lt x D[a]!) D j x=scanUp (fun x=>lt x D[a]!) D j i) (j+1 - i) 0 (fun env N'=>env 0=v/\env 1=gi a/\env 10=gi (scanUp (fun x=>lt x D[a]!) D j i:Nat)/\env 11=gi j/\N=N') ⟨i,rfl,rfl,(by rw[hi];rfl),rfl,rfl,Zaa _,hij,rfl,rfl⟩ ?_ ?_
  ·skip
   rintro J2 Yq2 hJ2 hY2 n2 env N' ⟨x,e0,e1,e9,e10,hn2,hx1,hx2,rfl,hU⟩
   rw[scanUp] at hU
   rcases Zaf j x with hx|hx
   ·rw[if_neg (by simp;intro h;omega)] at hU
    have c0:decide ((x:Int)<=j)=false:=by simp;omega
    simp +contextual (disch:=omega) only[go_sem,e0,e1,e9,e10,c0]
    refine hY2 _ _ ⟨?_,?_,?_,?_,rfl⟩
    all_goals simp +contextual (disch:=omega) only[go_sem,e0,e1,e9,e10,hU]
   ·have c0:decide ((x:Int)<=j)=true:=by simp;omega
    simp +contextual (disch:=omega) only[go_sem,e0,e1,e9,e10,c0,A1,ia,la,hH.iad (j:=x) (by omega),hH.ld (j:=x) (by omega)]
    refine A5 (S.call _ _ _) ?_
    cases hl:lt D[x]! D[a]! with
    |false=>
     rw[if_neg (by simp[hl])] at hU
     simp +contextual (disch:=omega) only[go_sem,e0,e1,e9,e10,c0,hl]
     refine hY2 _ _ ⟨?_,?_,?_,?_,rfl⟩
     all_goals simp +contextual (disch:=omega) only[go_sem,e0,e1,e9,e10,hU]
    |true=>
     rw[if_pos (by simp[hl];omega)] at hU
     simp +contextual (disch:=omega) only[go_sem,e0,e1,e9,e10,c0,hl]
     refine⟨j+1 - (x+1),by omega,hJ2 _ _ _ ⟨x+1,?_,?_,?_,?_,rfl,by omega,by omega,rfl,hU⟩⟩
     all_goals simp +contextual (disch:=omega) only[go_sem,e0,e1,e9,e10]
  skip
  rintro env N' ⟨e0,e1,e9,e10,rfl⟩
  obtain⟨u1,u2,-,u4⟩:=scanUp_spec (fun x=>lt x D[a]!) D j _ i rfl
  have u2:=u2 hij
  obtain⟨x,hx⟩:∃ x,x=scanUp (fun x=>lt x D[a]!) D j i:=⟨_,rfl⟩
  rw[<- hx] at hE e9 u1 u2 u4
  simp +contextual (disch:=omega) only[go_sem]
  refine C8 (fun n env N'=>∃(y:Nat),env 0=v/\env 1=gi a/\env 10=gi x/\env 11=gi y/\y+1=n/\y<=j/\x<=y+1/\N=N'/\scanDown (fun x=> !lt x D[a]!) D x y=scanDown (fun x=> !lt x D[a]!) D x j) (j+1) 2 (fun env N'=>env 0=v/\env 1=gi a/\env 10=gi x/\env 11=gi (scanDown (fun x=> !lt x D[a]!) D x j:Nat)/\N=N'/\x<=scanDown (fun x=> !lt x D[a]!) D x j+1) ⟨j,e0,e1,e9,e10,rfl,Zaa _,u2,rfl,rfl⟩ ?_ ?_
  ·clear e0 e1 e9 e10
   rintro J2 Yq2 hJ2 hY2 n2 env N' ⟨y,e0,e1,e9,e10,hn2,hy1,hy2,rfl,hU⟩
   rcases Zaf y x with hlt|hge
   ·have hU:scanDown (fun x=> !lt x D[a]!) D x j=y:=by
     rw[<- hU]
     cases y with
     |zero=>rfl
     |succ y=>rw[scanDown,if_neg (by simp;intro h;omega)]
    have c0:decide ((x:Int)<=y)=false:=by simp;omega
    simp +contextual (disch:=omega) only[go_sem,e0,e1,e9,e10,c0]
    refine hY2 _ _ ⟨?_,?_,?_,?_,rfl,by omega⟩
    all_goals simp +contextual (disch:=omega) only[go_sem,e0,e1,e9,e10,hU]
   ·obtain⟨z,rfl⟩:∃ z,y=z+1:=⟨y - 1,by omega⟩
    rw[scanDown] at hU
    have c0:decide ((x:Int)<=(z:Int)+1)=true:=by simp;omega
    have n1:Bb (some (.int .i64 ((z:Int)+1)))=some (z+1):=B6 (by simp)
    have z1:(z:Int)+1 - 1=z:=by omega
    simp +contextual (disch:=omega) only[go_sem,e0,e1,e9,e10,c0,A1,n1,ia,la,hH.iad (j:=z+1) (by omega),hH.ld (j:=z+1) (by omega)]
    refine A5 (S.call _ _ _) ?_
    cases hl:lt D[z+1]! D[a]! with
    |true=>
     rw[if_neg (by simp[hl])] at hU
     simp +contextual (disch:=omega) only[go_sem,e0,e1,e9,e10,c0,hl]
     refine hY2 _ _ ⟨?_,?_,?_,?_,rfl,by omega⟩
     all_goals simp +contextual (disch:=omega) only[go_sem,e0,e1,e9,e10,<-hU]
    |false=>
     rw[if_pos (by simp[hl];omega)] at hU
     simp +contextual (disch:=omega) only[go_sem,e0,e1,e9,e10,c0,z1,hl]
     refine⟨z+1,by omega,hJ2 _ _ _ ⟨z,?_,?_,?_,?_,rfl,by omega,by omega,rfl,hU⟩⟩
     all_goals simp +contextual (disch:=omega) only[go_sem,e0,e1,e9,e10]
  clear e0 e1 e9 e10
  rintro env N' ⟨e0,e1,e9,e10,rfl,hxy⟩
  have w1:=scanDown_le (fun x=> !lt x D[a]!) D x j
  have w4:=(scanDown_spec (fun x=> !lt x D[a]!) D x j).2.2.2
  obtain⟨y,hy⟩:∃ y,y=scanDown (fun x=> !lt x D[a]!) D x j:=⟨_,rfl⟩
  rw[<- hy] at hE e10 w1 w4 hxy
  have hne:x≠y:=by
   rintro rfl
   have q1:lt D[x]! D[a]! =false:=u4 w1
   have q2:(!lt D[x]! D[a]!)=false:=w4 (Zaa _) (by omega)
   rw[q1] at q2;cases q2
  rcases Zaf y x with hlt|hge
  ·rw[if_pos hlt] at hE
   subst hE
   have c0:decide ((y:Int)<x)=true:=by simp;omega
   obtain⟨N3,N4,s3,s4,hH4,hl4⟩:=hH.sw (a:=y) (b:=a) (by omega) (by omega)
   simp +contextual (disch:=omega) only[go_sem,e0,e1,e9,e10,c0,A1,hH.iad (j:=a) (by omega),hH.ld (j:=a) (by omega),hH.iad (j:=y) (by omega),hH.ld (j:=y) (by omega),s3,s4]
   exact⟨_,rfl,by omega,rfl,hH4⟩
  ·rw[if_neg (by omega)] at hE
   subst hE
   have c0:decide ((y:Int)<x)=false:=by simp;omega
   have y1:(y:Int) - 1=((y - 1:Nat):Int):=by omega
   obtain⟨N3,N4,s3,s4,hH4,hl4⟩:=hH.sw (a:=x) (b:=y) (by omega) (by omega)
   simp +contextual (disch:=omega) only[go_sem,e0,e1,e9,e10,c0,A1,hH.iad (j:=x) (by omega),hH.ld (j:=x) (by omega),hH.iad (j:=y) (by omega),hH.ld (j:=y) (by omega),s3,s4]
   obtain⟨x0,hx0⟩:∃ x0,x0=x+1:=⟨_,rfl⟩
   obtain⟨y0,hy0⟩:∃ y0,y0=y - 1:=⟨_,rfl⟩
   have hD4:(swp D x y).size=d.size:=by rw[Go.Sort.swp_size];exact hD
   obtain⟨D4,hD40⟩:∃ D4,D4=swp D x y:=⟨_,rfl⟩
   rw[<- hx0,<-hy0,<-hD40]
   rw[<- hD40] at hH4 hD4
   obtain⟨R,hR⟩:∃ R,R=partLoop lt a x0 y0 D4:=⟨_,rfl⟩
   rw[<- hR]
   refine Br (fun n env N=>∃(i j:Nat) (D:Array Y),env 0=v/\env 1=gi a/\env 10=gi i/\env 11=gi j/\j+1 - i=n/\1<=i/\i<=j+1/\j<b/\D.size=d.size/\U.length<=N.length/\Holds S.e U0 N rs k v D/\partLoop lt a i j D=R) (y0+1 - x0) ⟨x0,y0,D4,by simp +contextual (disch:=omega) only[go_sem,e0],by simp +contextual (disch:=omega) only[go_sem,e1],by rw[hx0];simp +contextual (disch:=omega) only[go_sem,e9],by rw[hy0];simp +contextual (disch:=omega) only[go_sem,y1],rfl,by omega,by omega,by omega,hD4,by omega,hH4,hR.symm⟩ ?_
   clear hH hH4 hij ia la s1 s2 s3 s4 e0 e1 e9 e10 c0 y1 hi u1 u2 u4 w1 w4 hxy hne hge hx hy hx0 hy0 hD40 hD4 hD hD0 hl2 hl4
   rintro J hJ n env N ⟨i,j,D,e0,e1,e9,e10,hn,hi,hij,hj,hD,hle,hH,hE⟩
   rw[partLoop_eq] at hE
   have ia:=hH.iad (j:=a) (by omega)
   have la:=hH.ld (j:=a) (by omega)
   simp +contextual (disch:=omega) only[go_sem]
   refine C8 (fun n env N'=>∃(x:Nat),env 0=v/\env 1=gi a/\env 10=gi x/\env 11=gi j/\j+1 - x=n/\i<=x/\x<=j+1/\N=N'/\scanUp (fun x=>lt x D[a]!) D j x=scanUp (fun x=>lt x D[a]!) D j i) (j+1 - i) 6 (fun env N'=>env 0=v/\env 1=gi a/\env 10=gi (scanUp (fun x=>lt x D[a]!) D j i:Nat)/\env 11=gi j/\N=N') ⟨i,e0,e1,e9,e10,rfl,Zaa _,hij,rfl,rfl⟩ ?_ ?_
   ·clear e0 e1 e9 e10
    rintro J2 Yq2 hJ2 hY2 n2 env N' ⟨x,e0,e1,e9,e10,hn2,hx1,hx2,rfl,hU⟩
    rw[scanUp] at hU
    rcases Zaf j x with hx|hx
    ·rw[if_neg (by simp;intro h;omega)] at hU
     have c0:decide ((x:Int)<=j)=false:=by simp;omega
     simp +contextual (disch:=omega) only[go_sem,e0,e1,e9,e10,c0]
     refine hY2 _ _ ⟨?_,?_,?_,?_,rfl⟩
     all_goals simp +contextual (disch:=omega) only[go_sem,e0,e1,e9,e10,hU]
    ·have c0:decide ((x:Int)<=j)=true:=by simp;omega
     simp +contextual (disch:=omega) only[go_sem,e0,e1,e9,e10,c0,A1,ia,la,hH.iad (j:=x) (by omega),hH.ld (j:=x) (by omega)]
     refine A5 (S.call _ _ _) ?_
     cases hl:lt D[x]! D[a]! with
     |false=>
      rw[if_neg (by simp[hl])] at hU
      simp +contextual (disch:=omega) only[go_sem,e0,e1,e9,e10,c0,hl]
      refine hY2 _ _ ⟨?_,?_,?_,?_,rfl⟩
      all_goals simp +contextual (disch:=omega) only[go_sem,e0,e1,e9,e10,hU]
     |true=>
      rw[if_pos (by simp[hl];omega)] at hU
      simp +contextual (disch:=omega) only[go_sem,e0,e1,e9,e10,c0,hl]
      refine⟨j+1 - (x+1),by omega,hJ2 _ _ _ ⟨x+1,?_,?_,?_,?_,rfl,by omega,by omega,rfl,hU⟩⟩
      all_goals simp +contextual (disch:=omega) only[go_sem,e0,e1,e9,e10]
   clear e0 e1 e9 e10
   rintro env N' ⟨e0,e1,e9,e10,rfl⟩
   obtain⟨u1,u2,-,u4⟩:=scanUp_spec (fun x=>lt x D[a]!) D j _ i rfl
   have u2:=u2 hij
   obtain⟨x,hx⟩:∃ x,x=scanUp (fun x=>lt x D[a]!) D j i:=⟨_,rfl⟩
   rw[<- hx] at hE e9 u1 u2 u4
   simp +contextual (disch:=omega) only[go_sem]
   refine C8 (fun n env N'=>∃(y:Nat),env 0=v/\env 1=gi a/\env 10=gi x/\env 11=gi y/\y+1=n/\y<=j/\x<=y+1/\N=N'/\scanDown (fun x=> !lt x D[a]!) D x y=scanDown (fun x=> !lt x D[a]!) D x j) (j+1) 8 (fun env N'=>env 0=v/\env 1=gi a/\env 10=gi x/\env 11=gi (scanDown (fun x=> !lt x D[a]!) D x j:Nat)/\N=N'/\x<=scanDown (fun x=> !lt x D[a]!) D x j+1) ⟨j,e0,e1,e9,e10,rfl,Zaa _,u2,rfl,rfl⟩ ?_ ?_
   ·clear e0 e1 e9 e10
    rintro J2 Yq2 hJ2 hY2 n2 env N' ⟨y,e0,e1,e9,e10,hn2,hy1,hy2,rfl,hU⟩
    rcases Zaf y x with hlt|hge
    ·have hU:scanDown (fun x=> !lt x D[a]!) D x j=y:=by
      rw[<- hU]
      cases y with
      |zero=>rfl
      |succ y=>rw[scanDown,if_neg (by simp;intro h;omega)]
     have c0:decide ((x:Int)<=y)=false:=by simp;omega
     simp +contextual (disch:=omega) only[go_sem,e0,e1,e9,e10,c0]
     refine hY2 _ _ ⟨?_,?_,?_,?_,rfl,by omega⟩
     all_goals simp +contextual (disch:=omega) only[go_sem,e0,e1,e9,e10,hU]
    ·obtain⟨z,rfl⟩:∃ z,y=z+1:=⟨y - 1,by omega⟩
     rw[scanDown] at hU
     have c0:decide ((x:Int)<=(z:Int)+1)=true:=by simp;omega
     have n1:Bb (some (.int .i64 ((z:Int)+1)))=some (z+1):=B6 (by simp)
     have z1:(z:Int)+1 - 1=z:=by omega
     simp +contextual (disch:=omega) only[go_sem,e0,e1,e9,e10,c0,A1,n1,ia,la,hH.iad (j:=z+1) (by omega),hH.ld (j:=z+1) (by omega)]
     refine A5 (S.call _ _ _) ?_
     cases hl:lt D[z+1]! D[a]! with
     |true=>
      rw[if_neg (by simp[hl])] at hU
      simp +contextual (disch:=omega) only[go_sem,e0,e1,e9,e10,c0,hl]
      refine hY2 _ _ ⟨?_,?_,?_,?_,rfl,by omega⟩
      all_goals simp +contextual (disch:=omega) only[go_sem,e0,e1,e9,e10,<-hU]
     |false=>
      rw[if_pos (by simp[hl];omega)] at hU
      simp +contextual (disch:=omega) only[go_sem,e0,e1,e9,e10,c0,z1,hl]
      refine⟨z+1,by omega,hJ2 _ _ _ ⟨z,?_,?_,?_,?_,rfl,by omega,by omega,rfl,hU⟩⟩
      all_goals simp +contextual (disch:=omega) only[go_sem,e0,e1,e9,e10]
   clear e0 e1 e9 e10
   rintro env N' ⟨e0,e1,e9,e10,rfl,hxy⟩
   have w1:=scanDown_le (fun x=> !lt x D[a]!) D x j
   have w4:=(scanDown_spec (fun x=> !lt x D[a]!) D x j).2.2.2
   obtain⟨y,hy⟩:∃ y,y=scanDown (fun x=> !lt x D[a]!) D x j:=⟨_,rfl⟩
   rw[<- hy] at hE e10 w1 w4 hxy
   have hne:x≠y:=by
    rintro rfl
    have q1:lt D[x]! D[a]! =false:=u4 w1
    have q2:(!lt D[x]! D[a]!)=false:=w4 (Zaa _) (by omega)
    rw[q1] at q2;cases q2
   rcases Zaf y x with hlt|hge
   ·rw[if_pos hlt] at hE
    subst hE
    have c0:decide ((y:Int)<x)=true:=by simp;omega
    obtain⟨N3,N4,s3,s4,hH4,hl4⟩:=hH.sw (a:=y) (b:=a) (by omega) (by omega)
    simp +contextual (disch:=omega) only[go_sem,e0,e1,e9,e10,c0,A1,hH.iad (j:=a) (by omega),hH.ld (j:=a) (by omega),hH.iad (j:=y) (by omega),hH.ld (j:=y) (by omega),s3,s4]
    exact⟨_,rfl,by omega,rfl,hH4⟩
   ·rw[if_neg (by omega)] at hE
    have c0:decide ((y:Int)<x)=false:=by simp;omega
    have y1:(y:Int) - 1=((y - 1:Nat):Int):=by omega
    obtain⟨N3,N4,s3,s4,hH4,hl4⟩:=hH.sw (a:=x) (b:=y) (by omega) (by omega)
    simp +contextual (disch:=omega) only[go_sem,e0,e1,e9,e10,c0,A1,hH.iad (j:=x) (by omega),hH.ld (j:=x) (by omega),hH.iad (j:=y) (by omega),hH.ld (j:=y) (by omega),s3,s4]
    refine⟨y - 1+1 - (x+1),by omega,hJ _ _ _ ⟨x+1,y - 1,swp D x y,?_,?_,?_,?_,rfl,by omega,by omega,by omega,by rw[Go.Sort.swp_size];exact hD,by omega,hH4,hE⟩⟩
    all_goals simp +contextual (disch:=omega) only[go_sem,e0,e1,e9,e10,y1]
 obtain⟨r,N,R,rfl,h⟩:=key
 exact⟨N,R,h⟩
end O
namespace O
open Go Go.RowKit Go.Proofs.YtckobfochhjmdaaGreatDoor.Sy Go.Sort
variable {Y:Type} [Inhabited Y] {lt:Y->Y->Bool} {U0 U:St} {rs:List Thg} {k:Nat} {v:GV} {d:Array Y}
theorem scanSorted_ge (lt:Y->Y->Bool) (d:Array Y) (b:Nat):∀(n i:Nat),b - i=n->i<=scanSorted lt d b i/\(i<=b->scanSorted lt d b i<=b):=by
 intro n
 induction n with
 |zero=>
  intro i hn
  rw[scanSorted,if_neg (by simp;intro h;omega)]
  exact⟨Zaa _,fun h=>h⟩
 |succ n ih=>
  intro i hn
  rw[scanSorted]
  split
  ·have:=ih (i+1) (by omega)
   exact⟨by omega,fun _=>this.2 (by omega)⟩
  ·exact⟨Zaa _,fun h=>h⟩
theorem shiftDown_size (lt:Y->Y->Bool):∀(j:Nat) (d:Array Y),(shiftDown lt j d).size=d.size
 |0,_=>rfl
 |j+1,d=>by
  rw[shiftDown]
  split
  ·rfl
  ·rw[shiftDown_size lt j,Go.Sort.swp_size]
theorem shiftUp_size (lt:Y->Y->Bool) (b:Nat):∀(n j:Nat) (d:Array Y),b - j=n->(shiftUp lt b j d).size=d.size:=by
 intro n
 induction n with
 |zero=>intro j d h;rw[shiftUp,if_neg (by omega)]
 |succ n ih=>
  intro j d h
  rw[shiftUp,if_pos (by omega)]
  split
  ·rfl
  ·rw[ih _ _ (by omega),Go.Sort.swp_size]
theorem pis_ret (S:SrtO Y lt) (H:Holds S.e U0 U rs k v d) {a b:Nat} (hab:a<b) (hb:b<=d.size) (hs:d.size<=1099511627776):∃ N,Ret Tryz.prog S.q.partialInsertionSort [v,gi a,gi b] U (.bool (partialInsertionSort lt d a b).2) N/\Holds S.e U0 N rs k v (partialInsertionSort lt d a b).1:=by
 have key:∃ r N,Ret Tryz.prog S.q.partialInsertionSort [v,gi a,gi b] U r N/\r= .bool (partialInsertionSort lt d a b).2/\Holds S.e U0 N rs k v (partialInsertionSort lt d a b).1:=by
  refine Au S.h_partialInsertionSort (Z0z rfl) ?_
  rw[partialInsertionSort]
  obtain⟨R,hR⟩:∃ R,R=partialIns lt a b 5 (a+1) d:=⟨_,rfl⟩
  rw[<- hR]
  simp +contextual (maxSteps:=600000) (disch:=omega) only[go_sem,Ea]
  refine Br (fun n env N=>∃(s i:Nat) (D:Array Y),env 0=v/\env 1=gi a/\env 2=gi b/\env 7=gi i/\env 8=gi s/\5 - s=n/\s<=5/\a<i/\i<=b/\D.size=d.size/\U.length<=N.length/\Holds S.e U0 N rs k v D/\partialIns lt a b (5 - s) i D=R) 5 ⟨0,a+1,d,rfl,rfl,rfl,rfl,rfl,rfl,by omega,by omega,by omega,rfl,Zaa _,H,hR.symm⟩ ?_
  rintro J hJ n env N ⟨s,i0,D,e0,e1,e2,e7,e8,hn,hs5,hai,hib,hD,hle,hH,hE⟩
  rcases Zaf s 5 with h5|h5
  ·have c0:decide ((s:Int)<5)=true:=by simp;omega
   obtain⟨m,hm⟩:∃ m,5 - s=m+1:=⟨4 - s,by omega⟩
   rw[hm,partialIns] at hE
   dsimp only at hE
   simp +contextual (maxSteps:=600000) (disch:=omega) only[go_sem,e0,e1,e2,e7,e8,c0]
   refine C8 (fun n env N'=>∃(x:Nat),env 0=v/\env 1=gi a/\env 2=gi b/\env 7=gi x/\env 8=gi s/\b - x=n/\i0<=x/\x<=b/\N=N'/\scanSorted lt D b x=scanSorted lt D b i0) (b - i0) 2 (fun env N'=>env 0=v/\env 1=gi a/\env 2=gi b/\env 7=gi (scanSorted lt D b i0:Nat)/\env 8=gi s/\N=N') ⟨i0,by simp +contextual (maxSteps:=600000) (disch:=omega) only[go_sem,e0],by simp +contextual (maxSteps:=600000) (disch:=omega) only[go_sem,e1],by simp +contextual (maxSteps:=600000) (disch:=omega) only[go_sem,e2],by simp +contextual (maxSteps:=600000) (disch:=omega) only[go_sem,e7],by simp +contextual (maxSteps:=600000) (disch:=omega) only[go_sem,e8],rfl,Zaa _,hib,rfl,rfl⟩ ?_ ?_
   ·clear e0 e1 e2 e7 e8
    rintro J2 Yq2 hJ2 hY2 n2 env N' ⟨x,e0,e1,e2,e7,e8,hn2,hx1,hx2,rfl,hU⟩
    rw[scanSorted] at hU
    rcases Zaf x b with hx|hx
    ·have c1:decide ((x:Int)<b)=true:=by simp;omega
     have x1:(x:Int) - 1=((x - 1:Nat):Int):=by omega
     simp +contextual (maxSteps:=600000) (disch:=omega) only[go_sem,e0,e1,e2,e7,e8,c1,x1,A1,hH.iad (j:=x) (by omega),hH.ld (j:=x) (by omega),hH.iad (j:=x - 1) (by omega),hH.ld (j:=x - 1) (by omega)]
     refine A5 (S.call _ _ _) ?_
     cases hl:lt D[x]! D[x - 1]! with
     |true=>
      rw[if_neg (by simp[hl])] at hU
      simp +contextual (maxSteps:=600000) (disch:=omega) only[go_sem,e0,e1,e2,e7,e8,c1,hl]
      refine hY2 _ _ ⟨?_,?_,?_,?_,?_,rfl⟩
      all_goals simp +contextual (maxSteps:=600000) (disch:=omega) only[go_sem,e0,e1,e2,e7,e8,hU]
     |false=>
      rw[if_pos (by simp[hl];omega)] at hU
      simp +contextual (maxSteps:=600000) (disch:=omega) only[go_sem,e0,e1,e2,e7,e8,c1,hl]
      refine⟨b - (x+1),by omega,hJ2 _ _ _ ⟨x+1,?_,?_,?_,?_,?_,rfl,by omega,by omega,rfl,hU⟩⟩
      all_goals simp +contextual (maxSteps:=600000) (disch:=omega) only[go_sem,e0,e1,e2,e7,e8]
    ·rw[if_neg (by simp;intro h;omega)] at hU
     have c1:decide ((x:Int)<b)=false:=by simp;omega
     simp +contextual (maxSteps:=600000) (disch:=omega) only[go_sem,e0,e1,e2,e7,e8,c1]
     refine hY2 _ _ ⟨?_,?_,?_,?_,?_,rfl⟩
     all_goals simp +contextual (maxSteps:=600000) (disch:=omega) only[go_sem,e0,e1,e2,e7,e8,hU]
   clear e0 e1 e2 e7 e8
   rintro env N' ⟨e0,e1,e2,e7,e8,rfl⟩
   obtain⟨g1,g2⟩:=scanSorted_ge lt D b _ i0 rfl
   have g2:=g2 hib
   obtain⟨i,hi⟩:∃ i,i=scanSorted lt D b i0:=⟨_,rfl⟩
   rw[<- hi] at hE e7 g1 g2
   by_cases h1:i=b
   ·rw[if_pos h1] at hE
    subst hE
    have c1:((b:Int)==b)=true:=by simp
    rw[h1] at e7
    simp +contextual (maxSteps:=600000) (disch:=omega) only[go_sem,e0,e1,e2,e7,e8,c1]
    exact⟨_,rfl,hle,rfl,hH⟩
   ·rw[if_neg h1] at hE
    have c1:((i:Int)==b)=false:=by simp;omega
    by_cases h50:b - a<50
    ·rw[if_pos h50] at hE
     subst hE
     have c2:decide ((b:Int) - a<50)=true:=by simp;omega
     simp +contextual (maxSteps:=600000) (disch:=omega) only[go_sem,e0,e1,e2,e7,e8,c1,c2]
     exact⟨_,rfl,hle,rfl,hH⟩
    ·rw[if_neg h50] at hE
     have c2:decide ((b:Int) - a<50)=false:=by simp;omega
     have i1:(i:Int) - 1=((i - 1:Nat):Int):=by omega
     obtain⟨N1,N2,s1,s2,hH1,hl1⟩:=hH.sw (a:=i) (b:=i - 1) (by omega) (by omega)
     simp +contextual (maxSteps:=600000) (disch:=omega) only[go_sem,e0,e1,e2,e7,e8,c1,c2,i1,A1,hH.iad (j:=i) (by omega),hH.ld (j:=i) (by omega),hH.iad (j:=i - 1) (by omega),hH.ld (j:=i - 1) (by omega),s1,s2]
     have hD1:(swp D i (i - 1)).size=d.size:=by rw[Go.Sort.swp_size];exact hD
     have hle1:U.length<=N2.length:=by omega
     obtain⟨D1,hD10⟩:∃ D1,D1=swp D i (i - 1):=⟨_,rfl⟩
     rw[<- hD10] at hE hD1 hH1
     clear hH hle s1 s2
     by_cases hA:i - a≥2
     ·rw[if_pos hA] at hE
      have cA:decide ((2:Int)<=(i:Int) - a)=true:=by simp;omega
      simp +contextual (maxSteps:=600000) (disch:=omega) only[go_sem,e0,e1,e2,e7,e8,cA]
      refine C8 (fun n env N=>∃(j:Nat) (E:Array Y),env 0=v/\env 1=gi a/\env 2=gi b/\env 7=gi i/\env 8=gi s/\env 9=gi j/\j=n/\j<b/\E.size=d.size/\U.length<=N.length/\Holds S.e U0 N rs k v E/\shiftDown lt j E=shiftDown lt (i - 1) D1) (i - 1) 4 (fun env N=>env 0=v/\env 1=gi a/\env 2=gi b/\env 7=gi i/\env 8=gi s/\U.length<=N.length/\Holds S.e U0 N rs k v (shiftDown lt (i - 1) D1)) ⟨i - 1,D1,by simp +contextual (maxSteps:=600000) (disch:=omega) only[go_sem,e0],by simp +contextual (maxSteps:=600000) (disch:=omega) only[go_sem,e1],by simp +contextual (maxSteps:=600000) (disch:=omega) only[go_sem,e2],by simp +contextual (maxSteps:=600000) (disch:=omega) only[go_sem,e7],by simp +contextual (maxSteps:=600000) (disch:=omega) only[go_sem,e8],by simp +contextual (maxSteps:=600000) (disch:=omega) only[go_sem,i1],rfl,by omega,hD1,hle1,hH1,rfl⟩ ?_ ?_
      ·clear e0 e1 e2 e7 e8
       rintro J2 Yq2 hJ2 hY2 n2 env N ⟨j,E,e0,e1,e2,e7,e8,e9,hn2,hj,hE2,hle2,hH,hU⟩
       cases j with
       |zero=>
        have c5:decide ((1:Int)<=0)=false:=rfl
        simp +contextual (maxSteps:=600000) (disch:=omega) only[go_sem,e0,e1,e2,e7,e8,e9,c5,Int.natCast_zero]
        refine hY2 _ _ ⟨?_,?_,?_,?_,?_,hle2,by rw[<- hU];exact hH⟩
        all_goals simp +contextual (maxSteps:=600000) (disch:=omega) only[go_sem,e0,e1,e2,e7,e8]
       |succ m=>
        have c5:decide ((1:Int)<=(m:Int)+1)=true:=decide_eq_true (by omega)
        have n1:Bb (some (.int .i64 ((m:Int)+1)))=some (m+1):=B6 (by simp)
        have m1:(m:Int)+1 - 1=m:=by omega
        rw[shiftDown] at hU
        simp +contextual (maxSteps:=600000) (disch:=omega) only[go_sem,e0,e1,e2,e7,e8,e9,c5,n1,m1,A1,hH.iad (j:=m+1) (by omega),hH.ld (j:=m+1) (by omega),hH.iad (j:=m) (by omega),hH.ld (j:=m) (by omega)]
        refine A5 (S.call _ _ _) ?_
        cases hl:lt E[m+1]! E[m]! with
        |false=>
         rw[if_pos (by simp[hl])] at hU
         simp +contextual (maxSteps:=600000) (disch:=omega) only[go_sem,e0,e1,e2,e7,e8,e9,hl]
         refine hY2 _ _ ⟨?_,?_,?_,?_,?_,hle2,by rw[<- hU];exact hH⟩
         all_goals simp +contextual (maxSteps:=600000) (disch:=omega) only[go_sem,e0,e1,e2,e7,e8]
        |true=>
         rw[if_neg (by simp[hl])] at hU
         obtain⟨N3,N4,s3,s4,hH4,hl4⟩:=hH.sw (a:=m+1) (b:=m) (by omega) (by omega)
         simp +contextual (maxSteps:=600000) (disch:=omega) only[go_sem,e0,e1,e2,e7,e8,e9,n1,m1,A1,hl,hH.iad (j:=m+1) (by omega),hH.ld (j:=m+1) (by omega),hH.iad (j:=m) (by omega),hH.ld (j:=m) (by omega),s3,s4]
         refine⟨m,by omega,hJ2 _ _ _ ⟨m,swp E (m+1) m,?_,?_,?_,?_,?_,?_,rfl,by omega,by rw[Go.Sort.swp_size];exact hE2,by omega,hH4,hU⟩⟩
         all_goals simp +contextual (maxSteps:=600000) (disch:=omega) only[go_sem,e0,e1,e2,e7,e8,m1]
      clear e0 e1 e2 e7 e8 hH1 hle1
      rintro env N ⟨e0,e1,e2,e7,e8,hle2,hH2⟩
      have hD2:=(shiftDown_size lt (i - 1) D1).trans hD1
      obtain⟨D2,hD20⟩:∃ D2,D2=shiftDown lt (i - 1) D1:=⟨_,rfl⟩
      rw[<- hD20] at hE hD2 hH2
      simp +contextual (maxSteps:=600000) (disch:=omega) only[go_sem]
      by_cases hB:b - i≥2
      ·rw[if_pos hB] at hE
       have cB:decide ((2:Int)<=(b:Int) - i)=true:=by simp;omega
       simp +contextual (maxSteps:=600000) (disch:=omega) only[go_sem,e0,e1,e2,e7,e8,cB,cA]
       refine C8 (fun n env N=>∃(j:Nat) (E:Array Y),env 0=v/\env 1=gi a/\env 2=gi b/\env 7=gi i/\env 8=gi s/\env 10=gi j/\b - j=n/\1<=j/\j<=b/\E.size=d.size/\U.length<=N.length/\Holds S.e U0 N rs k v E/\shiftUp lt b j E=shiftUp lt b (i+1) D2) (b - (i+1)) 6 (fun env N=>env 0=v/\env 1=gi a/\env 2=gi b/\env 7=gi i/\env 8=gi s/\U.length<=N.length/\Holds S.e U0 N rs k v (shiftUp lt b (i+1) D2)) ⟨i+1,D2,by simp +contextual (maxSteps:=600000) (disch:=omega) only[go_sem,e0],by simp +contextual (maxSteps:=600000) (disch:=omega) only[go_sem,e1],by simp +contextual (maxSteps:=600000) (disch:=omega) only[go_sem,e2],by simp +contextual (maxSteps:=600000) (disch:=omega) only[go_sem,e7],by simp +contextual (maxSteps:=600000) (disch:=omega) only[go_sem,e8],by simp +contextual (maxSteps:=600000) (disch:=omega) only[go_sem,e7],rfl,by omega,by omega,hD2,hle2,hH2,rfl⟩ ?_ ?_
       ·clear e0 e1 e2 e7 e8
        rintro J2 Yq2 hJ2 hY2 n2 env N ⟨j,E,e0,e1,e2,e7,e8,e9,hn2,hj1,hj,hE2,hle3,hH,hU⟩
        rw[shiftUp] at hU
        rcases Zaf j b with hjb|hjb
        ·rw[if_pos hjb] at hU
         have c5:decide ((j:Int)<b)=true:=by simp;omega
         have j1:(j:Int) - 1=((j - 1:Nat):Int):=by omega
         simp +contextual (maxSteps:=600000) (disch:=omega) only[go_sem,e0,e1,e2,e7,e8,e9,c5,j1,A1,hH.iad (j:=j) (by omega),hH.ld (j:=j) (by omega),hH.iad (j:=j - 1) (by omega),hH.ld (j:=j - 1) (by omega)]
         refine A5 (S.call _ _ _) ?_
         cases hl:lt E[j]! E[j - 1]! with
         |false=>
          rw[if_pos (by simp[hl])] at hU
          simp +contextual (maxSteps:=600000) (disch:=omega) only[go_sem,e0,e1,e2,e7,e8,e9,hl]
          refine hY2 _ _ ⟨?_,?_,?_,?_,?_,hle3,by rw[<- hU];exact hH⟩
          all_goals simp +contextual (maxSteps:=600000) (disch:=omega) only[go_sem,e0,e1,e2,e7,e8]
         |true=>
          rw[if_neg (by simp[hl])] at hU
          obtain⟨N3,N4,s3,s4,hH4,hl4⟩:=hH.sw (a:=j) (b:=j - 1) (by omega) (by omega)
          simp +contextual (maxSteps:=600000) (disch:=omega) only[go_sem,e0,e1,e2,e7,e8,e9,j1,A1,hl,hH.iad (j:=j) (by omega),hH.ld (j:=j) (by omega),hH.iad (j:=j - 1) (by omega),hH.ld (j:=j - 1) (by omega),s3,s4]
          refine⟨b - (j+1),by omega,hJ2 _ _ _ ⟨j+1,swp E j (j - 1),?_,?_,?_,?_,?_,?_,rfl,by omega,by omega,by rw[Go.Sort.swp_size];exact hE2,by omega,hH4,hU⟩⟩
          all_goals simp +contextual (maxSteps:=600000) (disch:=omega) only[go_sem,e0,e1,e2,e7,e8,e9]
        ·rw[if_neg (by omega)] at hU
         have c5:decide ((j:Int)<b)=false:=by simp;omega
         simp +contextual (maxSteps:=600000) (disch:=omega) only[go_sem,e0,e1,e2,e7,e8,e9,c5]
         refine hY2 _ _ ⟨?_,?_,?_,?_,?_,hle3,by rw[<- hU];exact hH⟩
         all_goals simp +contextual (maxSteps:=600000) (disch:=omega) only[go_sem,e0,e1,e2,e7,e8]
       clear e0 e1 e2 e7 e8 hH2 hle2
       rintro env N ⟨e0,e1,e2,e7,e8,hle2,hH2⟩
       simp +contextual (maxSteps:=600000) (disch:=omega) only[go_sem,e0,e1,e2,e7,e8]
       refine⟨n - 1,by omega,hJ _ _ _ ⟨s+1,i,_,?_,?_,?_,?_,?_,by omega,by omega,by omega,by omega,(by rw[shiftUp_size lt b _ _ _ rfl];exact hD2),hle2,hH2,by rw[<- hE];congr 1;omega⟩⟩
       all_goals simp +contextual (maxSteps:=600000) (disch:=omega) only[go_sem,e0,e1,e2,e7,e8]
      ·rw[if_neg hB] at hE
       have cB:decide ((2:Int)<=(b:Int) - i)=false:=by simp;omega
       simp +contextual (maxSteps:=600000) (disch:=omega) only[go_sem,e0,e1,e2,e7,e8,cB,cA]
       refine⟨n - 1,by omega,hJ _ _ _ ⟨s+1,i,_,?_,?_,?_,?_,?_,by omega,by omega,by omega,by omega,hD2,hle2,hH2,by rw[<- hE];congr 1;omega⟩⟩
       all_goals simp +contextual (maxSteps:=600000) (disch:=omega) only[go_sem,e0,e1,e2,e7,e8]
     ·rw[if_neg hA] at hE
      have cA:decide ((2:Int)<=(i:Int) - a)=false:=by simp;omega
      obtain⟨D2,hD20⟩:∃ D2,D2=D1:=⟨_,rfl⟩
      have hD2:=hD1
      have hH2:=hH1
      have hle2:=hle1
      rw[<- hD20] at hE hD2 hH2
      by_cases hB:b - i≥2
      ·rw[if_pos hB] at hE
       have cB:decide ((2:Int)<=(b:Int) - i)=true:=by simp;omega
       simp +contextual (maxSteps:=600000) (disch:=omega) only[go_sem,e0,e1,e2,e7,e8,cB,cA]
       refine C8 (fun n env N=>∃(j:Nat) (E:Array Y),env 0=v/\env 1=gi a/\env 2=gi b/\env 7=gi i/\env 8=gi s/\env 10=gi j/\b - j=n/\1<=j/\j<=b/\E.size=d.size/\U.length<=N.length/\Holds S.e U0 N rs k v E/\shiftUp lt b j E=shiftUp lt b (i+1) D2) (b - (i+1)) 6 (fun env N=>env 0=v/\env 1=gi a/\env 2=gi b/\env 7=gi i/\env 8=gi s/\U.length<=N.length/\Holds S.e U0 N rs k v (shiftUp lt b (i+1) D2)) ⟨i+1,D2,by simp +contextual (maxSteps:=600000) (disch:=omega) only[go_sem,e0],by simp +contextual (maxSteps:=600000) (disch:=omega) only[go_sem,e1],by simp +contextual (maxSteps:=600000) (disch:=omega) only[go_sem,e2],by simp +contextual (maxSteps:=600000) (disch:=omega) only[go_sem,e7],by simp +contextual (maxSteps:=600000) (disch:=omega) only[go_sem,e8],by simp +contextual (maxSteps:=600000) (disch:=omega) only[go_sem,e7],rfl,by omega,by omega,hD2,hle2,hH2,rfl⟩ ?_ ?_
       ·clear e0 e1 e2 e7 e8
        rintro J2 Yq2 hJ2 hY2 n2 env N ⟨j,E,e0,e1,e2,e7,e8,e9,hn2,hj1,hj,hE2,hle3,hH,hU⟩
        rw[shiftUp] at hU
        rcases Zaf j b with hjb|hjb
        ·rw[if_pos hjb] at hU
         have c5:decide ((j:Int)<b)=true:=by simp;omega
         have j1:(j:Int) - 1=((j - 1:Nat):Int):=by omega
         simp +contextual (maxSteps:=600000) (disch:=omega) only[go_sem,e0,e1,e2,e7,e8,e9,c5,j1,A1,hH.iad (j:=j) (by omega),hH.ld (j:=j) (by omega),hH.iad (j:=j - 1) (by omega),hH.ld (j:=j - 1) (by omega)]
         refine A5 (S.call _ _ _) ?_
         cases hl:lt E[j]! E[j - 1]! with
         |false=>
          rw[if_pos (by simp[hl])] at hU
          simp +contextual (maxSteps:=600000) (disch:=omega) only[go_sem,e0,e1,e2,e7,e8,e9,hl]
          refine hY2 _ _ ⟨?_,?_,?_,?_,?_,hle3,by rw[<- hU];exact hH⟩
          all_goals simp +contextual (maxSteps:=600000) (disch:=omega) only[go_sem,e0,e1,e2,e7,e8]
         |true=>
          rw[if_neg (by simp[hl])] at hU
          obtain⟨N3,N4,s3,s4,hH4,hl4⟩:=hH.sw (a:=j) (b:=j - 1) (by omega) (by omega)
          simp +contextual (maxSteps:=600000) (disch:=omega) only[go_sem,e0,e1,e2,e7,e8,e9,j1,A1,hl,hH.iad (j:=j) (by omega),hH.ld (j:=j) (by omega),hH.iad (j:=j - 1) (by omega),hH.ld (j:=j - 1) (by omega),s3,s4]
          refine⟨b - (j+1),by omega,hJ2 _ _ _ ⟨j+1,swp E j (j - 1),?_,?_,?_,?_,?_,?_,rfl,by omega,by omega,by rw[Go.Sort.swp_size];exact hE2,by omega,hH4,hU⟩⟩
          all_goals simp +contextual (maxSteps:=600000) (disch:=omega) only[go_sem,e0,e1,e2,e7,e8,e9]
        ·rw[if_neg (by omega)] at hU
         have c5:decide ((j:Int)<b)=false:=by simp;omega
         simp +contextual (maxSteps:=600000) (disch:=omega) only[go_sem,e0,e1,e2,e7,e8,e9,c5]
         refine hY2 _ _ ⟨?_,?_,?_,?_,?_,hle3,by rw[<- hU];exact hH⟩
         all_goals simp +contextual (maxSteps:=600000) (disch:=omega) only[go_sem,e0,e1,e2,e7,e8]
       clear e0 e1 e2 e7 e8 hH2 hle2
       rintro env N ⟨e0,e1,e2,e7,e8,hle2,hH2⟩
       simp +contextual (maxSteps:=600000) (disch:=omega) only[go_sem,e0,e1,e2,e7,e8]
       refine⟨n - 1,by omega,hJ _ _ _ ⟨s+1,i,_,?_,?_,?_,?_,?_,by omega,by omega,by omega,by omega,(by rw[shiftUp_size lt b _ _ _ rfl];exact hD2),hle2,hH2,by rw[<- hE];congr 1;omega⟩⟩
       all_goals simp +contextual (maxSteps:=600000) (disch:=omega) only[go_sem,e0,e1,e2,e7,e8]
      ·rw[if_neg hB] at hE
       have cB:decide ((2:Int)<=(b:Int) - i)=false:=by simp;omega
       simp +contextual (maxSteps:=600000) (disch:=omega) only[go_sem,e0,e1,e2,e7,e8,cB,cA]
       refine⟨n - 1,by omega,hJ _ _ _ ⟨s+1,i,_,?_,?_,?_,?_,?_,by omega,by omega,by omega,by omega,hD2,hle2,hH2,by rw[<- hE];congr 1;omega⟩⟩
       all_goals simp +contextual (maxSteps:=600000) (disch:=omega) only[go_sem,e0,e1,e2,e7,e8]
  ·have c0:decide ((s:Int)<5)=false:=by simp;omega
   have hm:5 - s=0:=by omega
   rw[hm,partialIns] at hE
   subst hE
   simp +contextual (maxSteps:=600000) (disch:=omega) only[go_sem,e0,e1,e2,e7,e8,c0]
   exact⟨_,rfl,hle,rfl,hH⟩
 obtain⟨r,N,R,rfl,h⟩:=key
 exact⟨N,R,h⟩
end O
namespace O
open Go Go.RowKit Go.Proofs.YtckobfochhjmdaaGreatDoor.Sy Go.Sort
variable {Y:Type} [Inhabited Y] {lt:Y->Y->Bool} {U0 U:St} {rs:List Thg} {k g:Nat} {s:Int} {v:GV} {d:Array Y}
theorem order2_ret (S:SrtO Y lt) (H:Holds S.e U0 U (pt 1 g [gi s]::rs) (k+1) v d) {a b:Nat} (ha:a<d.size) (hb:b<d.size):∃(r1 r2:Nat) (s':Int) (N:St),Ret Tryz.prog S.q.order2 [v,gi a,gi b,.ptr g 0] U (.tup [gi r1,gi r2]) N/\Holds S.e U0 N (pt 1 g [gi s']::rs) (k+1) v d/\((r1=a/\r2=b)∨(r1=b/\r2=a)):=by
 have key:∃ r N,Ret Tryz.prog S.q.order2 [v,gi a,gi b,.ptr g 0] U r N/\∃(r1 r2:Nat) (s':Int),r= .tup [gi r1,gi r2]/\Holds S.e U0 N (pt 1 g [gi s']::rs) (k+1) v d/\((r1=a/\r2=b)∨(r1=b/\r2=a)):=by
  refine Au S.h_order2 (Z0z rfl) ?_
  simp +contextual (disch:=omega) only[go_sem,A3h,A1,H.iad ha,H.ld ha,H.iad hb,H.ld hb]
  refine A5 (S.call _ _ _) ?_
  cases hl:lt d[b]! d[a]! with
  |true=>
   have l1:=A4 (a:=false) (n:=1) (off:=0) (H.2.pt 0 rfl)
   have l1:ldG false 1 U (.ptr g 0)=some (gi s):=l1
   obtain⟨N1,st1,H1,hl1⟩:=H.2.st 0 rfl 1 0 (gi (IntKind.i64.wrap (s+1))) rfl (by decide) (by simp)
   simp +contextual (disch:=omega) only[go_sem,hl,l1,st1]
   exact⟨_,rfl,by omega,b,a,IntKind.i64.wrap (s+1),rfl,⟨H.1,H1⟩,.inr ⟨rfl,rfl⟩⟩
  |false=>
   simp +contextual (disch:=omega) only[go_sem,hl]
   exact⟨_,rfl,a,b,s,rfl,H,.inl ⟨rfl,rfl⟩⟩
 obtain⟨r,N,R,r1,r2,s',rfl,h1,h2⟩:=key
 exact⟨r1,r2,s',N,R,h1,h2⟩
theorem median_ret (S:SrtO Y lt) (H:Holds S.e U0 U (pt 1 g [gi s]::rs) (k+1) v d) {a b c:Nat} (ha:a<d.size) (hb:b<d.size) (hc:c<d.size):∃(r1:Nat) (s':Int) (N:St),Ret Tryz.prog S.q.median [v,gi a,gi b,gi c,.ptr g 0] U (gi r1) N/\Holds S.e U0 N (pt 1 g [gi s']::rs) (k+1) v d/\(r1=a∨r1=b∨r1=c):=by
 have key:∃ r N,Ret Tryz.prog S.q.median [v,gi a,gi b,gi c,.ptr g 0] U r N/\∃(r1:Nat) (s':Int),r=gi r1/\Holds S.e U0 N (pt 1 g [gi s']::rs) (k+1) v d/\(r1=a∨r1=b∨r1=c):=by
  refine Au S.h_median (Z0z rfl) ?_
  simp +contextual (disch:=omega) only[go_sem,A3f]
  obtain⟨a1,b1,s1,N1,R1,H1,h1⟩:=order2_ret S H ha hb
  refine Ak R1 ?_
  simp +contextual (disch:=omega) only[go_sem]
  obtain⟨b2,c2,s2,N2,R2,H2,h2⟩:=order2_ret S H1 (a:=b1) (b:=c) (by omega) hc
  refine Ak R2 ?_
  simp +contextual (disch:=omega) only[go_sem]
  obtain⟨a3,b3,s3,N3,R3,H3,h3⟩:=order2_ret S H2 (a:=a1) (b:=b2) (by omega) (by omega)
  refine Ak R3 ?_
  simp +contextual (disch:=omega) only[go_sem]
  have:=R1.2.1
  have:=R2.2.1
  have:=R3.2.1
  exact⟨_,rfl,by omega,b3,s3,rfl,H3,by omega⟩
 obtain⟨r,N,R,r1,s',rfl,h1,h2⟩:=key
 exact⟨r1,s',N,R,h1,h2⟩
theorem medAdj_ret (S:SrtO Y lt) (H:Holds S.e U0 U (pt 1 g [gi s]::rs) (k+1) v d) {a:Nat} (h0:0<a) (ha:a+1<d.size) (hs:d.size<=1099511627776):∃(r1:Nat) (s':Int) (N:St),Ret Tryz.prog S.q.medianAdjacent [v,gi a,.ptr g 0] U (gi r1) N/\Holds S.e U0 N (pt 1 g [gi s']::rs) (k+1) v d/\a<=r1+1/\r1<=a+1:=by
 have key:∃ r N,Ret Tryz.prog S.q.medianAdjacent [v,gi a,.ptr g 0] U r N/\∃(r1:Nat) (s':Int),r=gi r1/\Holds S.e U0 N (pt 1 g [gi s']::rs) (k+1) v d/\a<=r1+1/\r1<=a+1:=by
  refine Au S.h_medianAdjacent (Z0z rfl) ?_
  obtain⟨p,rfl⟩:∃ p,a=p+1:=⟨a - 1,by omega⟩
  have p1:(p:Int)+1 - 1=p:=by omega
  simp +contextual (disch:=omega) only[go_sem,Hg,p1]
  obtain⟨r1,s1,N1,R1,H1,h1⟩:=median_ret S H (a:=p) (b:=p+1) (c:=p+1+1) (by omega) (by omega) (by omega)
  refine Ak R1 ?_
  simp +contextual (disch:=omega) only[go_sem]
  have:=R1.2.1
  exact⟨_,rfl,by omega,r1,s1,rfl,H1,by omega,by omega⟩
 obtain⟨r,N,R,r1,s',rfl,h1,h2⟩:=key
 exact⟨r1,s',N,R,h1,h2⟩
theorem choose_ret (S:SrtO Y lt) (H:Holds S.e U0 U rs k v d) {a b:Nat} (hab:a<b) (hb:b<=d.size) (hs:d.size<=1099511627776):∃(p h:Nat) (N:St),Ret Tryz.prog S.q.choosePivot [v,gi a,gi b] U (.tup [gi p,gi h]) N/\Holds S.e U0 N rs k v d/\a<=p/\p<b/\h<=2:=by
 have key:∃ r N,Ret Tryz.prog S.q.choosePivot [v,gi a,gi b] U r N/\∃(p h:Nat),r= .tup [gi p,gi h]/\Holds S.e U0 N rs k v d/\a<=p/\p<b/\h<=2:=by
  refine Au S.h_choosePivot (Z0z rfl) ?_
  obtain⟨l,hl⟩:∃ l,l=b - a:=⟨_,rfl⟩
  have hlI:(b:Int) - a=l:=by omega
  obtain⟨q,hq⟩:∃ q,q=l / 4:=⟨_,rfl⟩
  have hqI:(l:Int).tdiv 4=q:=by rw[hq];rfl
  obtain⟨i,hi⟩:∃ i,i=a+q*1:=⟨_,rfl⟩
  obtain⟨j,hj⟩:∃ i,i=a+q*2:=⟨_,rfl⟩
  obtain⟨m,hm⟩:∃ i,i=a+q*3:=⟨_,rfl⟩
  have hiI:(a:Int)+q*1=i:=by omega
  have hjI:(a:Int)+q*2=j:=by omega
  have hmI:(a:Int)+q*3=m:=by omega
  have H0:Holds S.e U0 (U++[some (.row 1 [gi 0])]) (pt 1 U.length [gi 0]::rs) (k+1) v d:=⟨by simpa using H.1,H.2.new 1 [gi 0]⟩
  have L0:(U++[some (Blk.row 1 [GV.int IntKind.i64 0])]).length=U.length+1:=by simp
  have L1:(U++[some (Blk.row 1 [gi 0])]).length=U.length+1:=L0
  by_cases h8:8<=l
  ·have c8:decide ((8:Int)<=l)=true:=by simp;omega
   by_cases h50:50<=l
   ·have c50:decide ((50:Int)<=l)=true:=by simp;omega
    simp +contextual (disch:=omega) only[go_sem,Et,hlI,hqI,hiI,hjI,hmI,c8,c50]
    obtain⟨i1,s1,N1,R1,H1,h1,h1'⟩:=medAdj_ret S H0 (a:=i) (by omega) (by omega) hs
    refine Ak R1 ?_
    simp +contextual (disch:=omega) only[go_sem]
    obtain⟨j1,s2,N2,R2,H2,h2,h2'⟩:=medAdj_ret S H1 (a:=j) (by omega) (by omega) hs
    refine Ak R2 ?_
    simp +contextual (disch:=omega) only[go_sem]
    obtain⟨m1,s3,N3,R3,H3,h3,h3'⟩:=medAdj_ret S H2 (a:=m) (by omega) (by omega) hs
    refine Ak R3 ?_
    simp +contextual (disch:=omega) only[go_sem]
    obtain⟨p,s4,N4,R4,H4,h4⟩:=median_ret S H3 (a:=i1) (b:=j1) (c:=m1) (by omega) (by omega) (by omega)
    refine Ak R4 ?_
    have:=R1.2.1
    have:=R2.2.1
    have:=R3.2.1
    have:=R4.2.1
    have l1:ldG false 1 N4 (.ptr U.length 0)=some (gi s4):=A4 (a:=false) (n:=1) (off:=0) ((H4).2.pt 0 rfl)
    simp +contextual (disch:=omega) only[go_sem,l1]
    have hout:Holds S.e U0 N4 rs k v d:=⟨H.1,(H4).2.drop1⟩
    have key0:((s4:Int)==0)=decide ((s4:Int)=0):=rfl
    by_cases h0:(s4:Int)=0
    ·have c0:((s4:Int)==0)=true:=by simp[h0]
     simp +contextual (disch:=omega) only[go_sem,c0]
     exact⟨_,rfl,by omega,p,1,rfl,hout,by omega,by omega,by omega⟩
    ·have c0:((s4:Int)==0)=false:=by simp[h0]
     by_cases h12:(s4:Int)=12
     ·have c1:((s4:Int)==12)=true:=by simp[h12]
      simp +contextual (disch:=omega) only[go_sem,c0,c1]
      exact⟨_,rfl,by omega,p,2,rfl,hout,by omega,by omega,by omega⟩
     ·have c1:((s4:Int)==12)=false:=by simp[h12]
      simp +contextual (disch:=omega) only[go_sem,c0,c1]
      exact⟨_,rfl,by omega,p,0,rfl,hout,by omega,by omega,by omega⟩
   ·have c50:decide ((50:Int)<=l)=false:=by simp;omega
    simp +contextual (disch:=omega) only[go_sem,Et,hlI,hqI,hiI,hjI,hmI,c8,c50]
    obtain⟨p,s4,N4,R4,H4,h4⟩:=median_ret S H0 (a:=i) (b:=j) (c:=m) (by omega) (by omega) (by omega)
    refine Ak R4 ?_
    have:=R4.2.1
    have l1:ldG false 1 N4 (.ptr U.length 0)=some (gi s4):=A4 (a:=false) (n:=1) (off:=0) ((H4).2.pt 0 rfl)
    simp +contextual (disch:=omega) only[go_sem,l1]
    have hout:Holds S.e U0 N4 rs k v d:=⟨H.1,(H4).2.drop1⟩
    have key0:((s4:Int)==0)=decide ((s4:Int)=0):=rfl
    by_cases h0:(s4:Int)=0
    ·have c0:((s4:Int)==0)=true:=by simp[h0]
     simp +contextual (disch:=omega) only[go_sem,c0]
     exact⟨_,rfl,by omega,p,1,rfl,hout,by omega,by omega,by omega⟩
    ·have c0:((s4:Int)==0)=false:=by simp[h0]
     by_cases h12:(s4:Int)=12
     ·have c1:((s4:Int)==12)=true:=by simp[h12]
      simp +contextual (disch:=omega) only[go_sem,c0,c1]
      exact⟨_,rfl,by omega,p,2,rfl,hout,by omega,by omega,by omega⟩
     ·have c1:((s4:Int)==12)=false:=by simp[h12]
      simp +contextual (disch:=omega) only[go_sem,c0,c1]
      exact⟨_,rfl,by omega,p,0,rfl,hout,by omega,by omega,by omega⟩
  ·have c8:decide ((8:Int)<=l)=false:=by simp;omega
   have l1:ldG false 1 (U++[some (.row 1 [gi 0])]) (.ptr U.length 0)=some (gi 0):=A4 (a:=false) (n:=1) (off:=0) (H0.2.pt 0 rfl)
   have c0:((0:Int)==0)=true:=rfl
   simp +contextual (disch:=omega) only[go_sem,Et,hlI,hqI,hiI,hjI,hmI,c8,l1,c0]
   exact⟨_,rfl,by omega,j,1,rfl,⟨H.1,H0.2.drop1⟩,by omega,by omega,by omega⟩
 obtain⟨r,N,R,p,h,rfl,h1,h2⟩:=key
 exact⟨p,h,N,R,h1,h2⟩
theorem break_ret (S:SrtO Y lt) (H:Holds S.e U0 U rs k v d) {a b:Nat} (hab:a<=b) (hb:b<=d.size) (hs:d.size<=1099511627776):∃(d':Array Y) (N:St),Ret Tryz.prog S.q.breakPatterns [v,gi a,gi b] U (.tup []) N/\Holds S.e U0 N rs k v d'/\PermIn a b d d':=by
 have key:∃ r N,Ret Tryz.prog S.q.breakPatterns [v,gi a,gi b] U r N/\∃(d':Array Y),r= .tup []/\Holds S.e U0 N rs k v d'/\PermIn a b d d':=by
  refine Au S.h_breakPatterns (Z0z rfl) ?_
  obtain⟨h,hh⟩:∃ l,l=b - a:=⟨_,rfl⟩
  have hhI:(b:Int) - a=h:=by omega
  by_cases h8:8<=h
  ·have c8:decide ((8:Int)<=h)=true:=by simp;omega
   have wu:IntKind.u64.wrap (h:Int)=h:=J4 (by omega) (by omega)
   obtain⟨q,hq⟩:∃ q,q=h / 4:=⟨_,rfl⟩
   have hqI:(h:Int).tdiv 4=q:=by rw[hq];rfl
   obtain⟨m,hm⟩:∃ i,i=a+q*2:=⟨_,rfl⟩
   have hmI:(a:Int)+q*2=m:=by omega
   have hmJ:(m:Int) - 1=((m - 1:Nat):Int):=by omega
   have H0:Holds S.e U0 (U++[some (.row 1 [.int .u64 h])]) (pt 1 U.length [.int .u64 h]::rs) (k+1) v d:=⟨by simpa using H.1,H.2.new 1 [.int .u64 h]⟩
   have sp:Ao [GV.int .u64 0] 0 [GV.int .u64 (h:Int)]=[.int .u64 h]:=rfl
   simp +contextual (disch:=omega) only[go_sem,Ff,hhI,c8,wu,GV.cells,sp,Zal,Zat,Nat.reduceAdd,Zaa,Nat.zero_lt_one,and_self,if_true]
   rw[S.hnp]
   have hbl:h<=1099511627776:=by omega
   refine A5 (Agg _ h hbl) ?_
   obtain⟨M,hM⟩:∃ M,M=2 ^ bitsLen h:=⟨_,rfl⟩
   have hM1:=Go.Sort.two_pow_bitsLen_le (n:=h) (by omega)
   have hM2:=Nat.two_pow_pos (bitsLen h)
   rw[<- hM] at hM1 hM2
   rw[<- hM]
   have M1:(M:Int) - 1=((M - 1:Nat):Int):=by omega
   have wM:IntKind.u64.wrap ((M - 1:Nat):Int)=((M - 1:Nat):Int):=J4 (by omega) (by omega)
   have L0:(U++[some (Blk.row 1 [GV.int .u64 (h:Int)])]).length=U.length+1:=by simp
   simp +contextual (disch:=omega) only[go_sem,hqI,hmI,hmJ]
   refine Br (fun n env N=>∃(x:Nat) (y:Int) (D:Array Y),env 0=v/\env 1=gi a/\env 6=gi h/\env 7= .ptr U.length 0/\env 8= .int .u64 (M:Nat)/\env 9=gi x/\m+2 - x=n/\m - 1<=x/\x<=m+2/\U.length<=N.length/\Holds S.e U0 N (pt 1 U.length [.int .u64 y]::rs) (k+1) v D/\PermIn a b d D) (m+2 - (m - 1)) ⟨m - 1,h,d,rfl,rfl,rfl,rfl,rfl,rfl,rfl,Zaa _,by omega,by omega,H0,permIn_refl _ _ _⟩ ?_
   rintro J hJ n env N ⟨x,y,D,e0,e1,e6,e7,e8,e9,hn,hx1,hx2,hle,hH,hP⟩
   have hD:D.size=d.size:=hP.1
   by_cases hx:x<=m+1
   ·have c0:decide ((x:Int)<=(m:Int)+1)=true:=by simp;omega
    simp +contextual (disch:=omega) only[go_sem,e0,e1,e6,e7,e8,e9,hqI,hmI,c0]
    rw[S.hxs]
    obtain⟨y',N1,R1,H1⟩:=Aif hH.2 0 rfl
    have hle1:=R1.2.1
    have H1:Holds S.e U0 N1 (pt 1 U.length [.int .u64 y']::rs) (k+1) v D:=⟨hH.1,H1⟩
    obtain⟨w,hw,hwE⟩:=andU (y:=y') (m:=M - 1) (by omega)
    have ww:IntKind.i64.wrap (w:Int)=w:=Ag (by omega) (by omega)
    refine Ak R1 ?_
    simp +contextual (disch:=omega) only[go_sem,e0,e1,e6,e7,e8,e9,M1,wM,hwE,ww]
    obtain⟨z,hz,hzI⟩:∃ z:Nat,z<h/\(z:Int)=if h<=w then(w:Int) - h else w:=by
     by_cases hc:h<=w
     ·exact⟨w - h,by omega,by rw[if_pos hc];omega⟩
     ·exact⟨w,by omega,by rw[if_neg hc]⟩
    have nz:Bb (some (.int .i64 ((a:Int)+z)))=some (a+z):=B6 (by simp)
    obtain⟨N3,N4,s3,s4,hH4,hl4⟩:=H1.sw (a:=x) (b:=a+z) (by omega) (by omega)
    have hP2:=permIn_trans _ _ _ _ _ hP (swp_permIn D a b x (a+z) (by omega) (by omega) (by omega) (by omega) (by omega))
    by_cases hc:h<=w
    ·rw[if_pos hc] at hzI
     have cc:decide ((h:Int)<=w)=true:=by simp;omega
     simp +contextual (disch:=omega) only[go_sem,e0,e1,e6,e7,e8,e9,cc,<-hzI,nz,A1,H1.iad (j:=x) (by omega),H1.ld (j:=x) (by omega),H1.iad (j:=a+z) (by omega),H1.ld (j:=a+z) (by omega),s3,s4]
     refine⟨m+2 - (x+1),by omega,hJ _ _ _ ⟨x+1,y',_,?_,?_,?_,?_,?_,?_,rfl,by omega,by omega,by omega,hH4,hP2⟩⟩
     all_goals simp +contextual (disch:=omega) only[go_sem,e0,e1,e6,e7,e8,e9]
    ·rw[if_neg hc] at hzI
     have hzw:z=w:=by omega
     rw[hzw] at nz s3 s4 hH4 hP2 hz
     have cc:decide ((h:Int)<=w)=false:=by simp;omega
     simp +contextual (disch:=omega) only[go_sem,e0,e1,e6,e7,e8,e9,cc,nz,A1,H1.iad (j:=x) (by omega),H1.ld (j:=x) (by omega),H1.iad (j:=a+w) (by omega),H1.ld (j:=a+w) (by omega),s3,s4]
     refine⟨m+2 - (x+1),by omega,hJ _ _ _ ⟨x+1,y',_,?_,?_,?_,?_,?_,?_,rfl,by omega,by omega,by omega,hH4,hP2⟩⟩
     all_goals simp +contextual (disch:=omega) only[go_sem,e0,e1,e6,e7,e8,e9]
   ·have c0:decide ((x:Int)<=(m:Int)+1)=false:=by simp;omega
    simp +contextual (disch:=omega) only[go_sem,e0,e1,e6,e7,e8,e9,hqI,hmI,c0]
    exact⟨_,rfl,hle,D,rfl,⟨H.1,hH.2.drop1⟩,hP⟩
  ·have c8:decide ((8:Int)<=h)=false:=by simp;omega
   simp +contextual (disch:=omega) only[go_sem,Ff,hhI,c8]
   exact⟨_,rfl,d,rfl,H,permIn_refl _ _ _⟩
 obtain⟨r,N,R,d',rfl,h⟩:=key
 exact⟨d',N,R,h⟩
end O
namespace O
open Go Go.RowKit Go.Proofs.YtckobfochhjmdaaGreatDoor.Sy Go.Sort
variable {Y:Type} [Inhabited Y] {lt:Y->Y->Bool} {U0:St} {rs:List Thg} {k:Nat} {v:GV}
theorem pdq_ret (S:SrtO Y lt) (hS:SWO lt):∀(n:Nat) (d:Array Y) (a b l:Nat) (U:St),b - a<=n->a<=b->b<=d.size->d.size<=1099511627776->l<=1099511627776->Below lt a b d->Holds S.e U0 U rs k v d->∃(d':Array Y) (N:St),Ret Tryz.prog S.q.pdqsort [v,gi a,gi b,gi l] U (.tup []) N/\Holds S.e U0 N rs k v d'/\PermIn a b d d'/\SortedIn lt a b d':=by
 intro n
 induction n with
 |zero=>
  intro d a b l U hn hab hb hs hl hB H
  have key:∃ r N,Ret Tryz.prog S.q.pdqsort [v,gi a,gi b,gi l] U r N/\r= .tup []/\Holds S.e U0 N rs k v (insertionSort lt d a b):=by
   refine Au S.h_pdqsort (Z0z rfl) ?_
   obtain rfl:a=b:=by omega
   simp +contextual (disch:=omega) only[go_sem,M6]
   refine Tm (fun n env N=>env 0=v/\env 1=gi a/\env 2=gi a/\N=U) 0 ⟨rfl,rfl,rfl,rfl⟩ ?_
   rintro n env N ⟨e0,e1,e2,rfl⟩
   have a0:(a:Int) - a=0:=by omega
   have c0:decide ((0:Int)<=12)=true:=rfl
   simp +contextual (disch:=omega) only[go_sem,e0,e1,e2,a0,c0]
   obtain⟨N1,R,H1⟩:=ins_ret S H (a:=a) (b:=a) (Zaa _) hb hs
   refine Ak R ?_
   simp +contextual (disch:=omega) only[go_sem]
   exact⟨_,rfl,R.2.1,rfl,H1⟩
  obtain⟨r,N,R,rfl,H1⟩:=key
  obtain⟨p1,p2⟩:=insertionSort_holds hS d a b hab hb
  exact⟨_,N,R,H1,p1,p2⟩
 |succ Nq ih=>
  intro d a b l U hn hab hb hs hl hB H
  have key:∃ r N,Ret Tryz.prog S.q.pdqsort [v,gi a,gi b,gi l] U r N/\∃ d',r= .tup []/\Holds S.e U0 N rs k v d'/\PermIn a b d d'/\SortedIn lt a b d':=by
   refine Au S.h_pdqsort (Z0z rfl) ?_
   simp +contextual (disch:=omega) only[go_sem,M6]
   refine Br (fun n env N=>∃(x y l:Nat) (wb wp:Bool) (D:Array Y),env 0=v/\env 1=gi x/\env 2=gi y/\env 3=gi l/\env 8= .bool wb/\env 9= .bool wp/\y - x=n/\l<=1099511627776/\a<=x/\x<=y/\y<=b/\D.size=d.size/\U.length<=N.length/\Holds S.e U0 N rs k v D/\Below lt x y D/\∀ R,PermIn x y D R->SortedIn lt x y R->PermIn a b d R/\SortedIn lt a b R) (b - a) ⟨a,b,l,true,true,d,rfl,rfl,rfl,rfl,rfl,rfl,rfl,hl,Zaa _,hab,Zaa _,rfl,Zaa _,H,hB,fun R h1 h2=>⟨h1,h2⟩⟩ ?_
   clear H hB hl
   rintro J hJ n env N ⟨x,y,l,wb,wp,D,e0,e1,e2,e3,e8,e9,hn2,hl,hax,hxy,hyb,hD,hle,hH,hB,hfin⟩
   rw[Ai7]
   obtain⟨h,hh⟩:∃ h,h=y - x:=⟨_,rfl⟩
   have hhI:(y:Int) - x=h:=by omega
   refine Dk (fun env N'=>env 0=v/\env 1=gi x/\env 2=gi y/\env 3=gi l/\env 8= .bool wb/\env 9= .bool wp/\env 10=gi h/\N=N') (fun Yq hY=>by
    simp +contextual (disch:=omega) only[go_sem,e0,e1,e2,e3,e8,e9,hhI]
    refine hY _ _ ⟨?_,?_,?_,?_,?_,?_,?_,rfl⟩
    all_goals simp +contextual (disch:=omega) only[go_sem,e0,e1,e2,e3,e8,e9,hhI]) ?_
   clear e0 e1 e2 e3 e8 e9
   rintro env N' ⟨e0,e1,e2,e3,e8,e9,e10,rfl⟩
   refine Dk (fun env N'=>env 0=v/\env 1=gi x/\env 2=gi y/\env 3=gi l/\env 8= .bool wb/\env 9= .bool wp/\env 10=gi h/\N=N'/\12<h) (fun Yq hY=>by
    by_cases h12:h<=12
    ·have c0:decide ((h:Int)<=12)=true:=by simp;omega
     simp +contextual (disch:=omega) only[go_sem,e0,e1,e2,e3,e8,e9,e10,c0]
     obtain⟨N1,R,H1⟩:=ins_ret S hH (a:=x) (b:=y) hxy (by omega) (by omega)
     refine Ak R ?_
     simp +contextual (disch:=omega) only[go_sem]
     obtain⟨p1,p2⟩:=insertionSort_holds hS D x y hxy (by omega)
     have:=R.2.1
     exact⟨_,rfl,by omega,_,rfl,H1,hfin _ p1 p2⟩
    ·have c0:decide ((h:Int)<=12)=false:=by simp;omega
     simp +contextual (disch:=omega) only[go_sem,e0,e1,e2,e3,e8,e9,e10,c0]
     refine hY _ _ ⟨?_,?_,?_,?_,?_,?_,?_,rfl,by omega⟩
     all_goals simp +contextual (disch:=omega) only[go_sem,e0,e1,e2,e3,e8,e9,e10]) ?_
   clear e0 e1 e2 e3 e8 e9 e10
   rintro env N' ⟨e0,e1,e2,e3,e8,e9,e10,rfl,h12⟩
   refine Dk (fun env N'=>env 0=v/\env 1=gi x/\env 2=gi y/\env 3=gi l/\env 8= .bool wb/\env 9= .bool wp/\env 10=gi h/\N=N'/\0<l) (fun Yq hY=>by
    by_cases h0:l=0
    ·have c0:((l:Int)==0)=true:=by simp[h0]
     simp +contextual (disch:=omega) only[go_sem,e0,e1,e2,e3,e8,e9,e10,c0]
     obtain⟨N1,R,H1⟩:=heap_ret S hH (a:=x) (b:=y) hxy (by omega) (by omega)
     refine Ak R ?_
     simp +contextual (disch:=omega) only[go_sem]
     obtain⟨p1,p2⟩:=heapSort_holds hS D x y hxy (by omega)
     have:=R.2.1
     exact⟨_,rfl,by omega,_,rfl,H1,hfin _ p1 p2⟩
    ·have c0:((l:Int)==0)=false:=by simp;omega
     simp +contextual (disch:=omega) only[go_sem,e0,e1,e2,e3,e8,e9,e10,c0]
     refine hY _ _ ⟨?_,?_,?_,?_,?_,?_,?_,rfl,by omega⟩
     all_goals simp +contextual (disch:=omega) only[go_sem,e0,e1,e2,e3,e8,e9,e10]) ?_
   clear e0 e1 e2 e3 e8 e9 e10
   rintro env N' ⟨e0,e1,e2,e3,e8,e9,e10,rfl,h0⟩
   refine Dk (fun env N'=>∃(l':Nat) (E:Array Y),env 0=v/\env 1=gi x/\env 2=gi y/\env 3=gi l'/\env 8= .bool wb/\env 9= .bool wp/\env 10=gi h/\l'<=l/\N.length<=N'.length/\Holds S.e U0 N' rs k v E/\PermIn x y D E) (fun Yq hY=>by
    cases hwb:wb with
    |true=>
     rw[hwb] at e8
     simp +contextual (disch:=omega) only[go_sem,e0,e1,e2,e3,e8,e9,e10]
     refine hY _ _ ⟨l,D,?_,?_,?_,?_,?_,?_,?_,Zaa _,Zaa _,hH,permIn_refl _ _ _⟩
     all_goals simp +contextual (disch:=omega) only[go_sem,e0,e1,e2,e3,e8,e9,e10,hwb]
    |false=>
     rw[hwb] at e8
     simp +contextual (disch:=omega) only[go_sem,e0,e1,e2,e3,e8,e9,e10]
     obtain⟨E,N1,R,H1,p1⟩:=break_ret S hH (a:=x) (b:=y) hxy (by omega) (by omega)
     refine Ak R ?_
     have l1:(l:Int) - 1=((l - 1:Nat):Int):=by omega
     simp +contextual (disch:=omega) only[go_sem,e0,e1,e2,e3,e8,e9,e10]
     refine hY _ _ ⟨l - 1,E,?_,?_,?_,?_,?_,?_,?_,by omega,R.2.1,H1,p1⟩
     all_goals simp +contextual (disch:=omega) only[go_sem,e0,e1,e2,e3,e8,e9,e10,l1,hwb]) ?_
   clear e0 e1 e2 e3 e8 e9 e10
   rintro env N1 ⟨l1,D1,e0,e1,e2,e3,e8,e9,e10,hl1,hle1,hH1,hP1⟩
   have hD1:D1.size=D.size:=hP1.1
   refine Dk (fun env N'=>∃(p q:Nat),env 0=v/\env 1=gi x/\env 2=gi y/\env 3=gi l1/\env 8= .bool wb/\env 9= .bool wp/\env 10=gi h/\env 11=gi p/\env 12=gi q/\N1.length<=N'.length/\Holds S.e U0 N' rs k v D1/\x<=p/\p<y/\q<=2) (fun Yq hY=>by
    simp +contextual (disch:=omega) only[go_sem,e0,e1,e2,e3,e8,e9,e10]
    obtain⟨p,q,N2,R,H2,g1,g2,g3⟩:=choose_ret S hH1 (a:=x) (b:=y) (by omega) (by omega) (by omega)
    refine Ak R ?_
    simp +contextual (disch:=omega) only[go_sem,e0,e1,e2,e3,e8,e9,e10]
    refine hY _ _ ⟨p,q,?_,?_,?_,?_,?_,?_,?_,?_,?_,R.2.1,H2,g1,g2,g3⟩
    all_goals simp +contextual (disch:=omega) only[go_sem,e0,e1,e2,e3,e8,e9,e10]) ?_
   clear e0 e1 e2 e3 e8 e9 e10 hH hH1
   rintro env N2 ⟨p0,q0,e0,e1,e2,e3,e8,e9,e10,e11,e12,hle2,hH2,g1,g2,g3⟩
   refine Dk (fun env N'=>∃(p q:Nat) (E:Array Y),env 0=v/\env 1=gi x/\env 2=gi y/\env 3=gi l1/\env 8= .bool wb/\env 9= .bool wp/\env 10=gi h/\env 11=gi p/\env 12=gi q/\N2.length<=N'.length/\Holds S.e U0 N' rs k v E/\x<=p/\p<y/\PermIn x y D1 E) (fun Yq hY=>by
    by_cases hq:q0=2
    ·have c0:((q0:Int)==2)=true:=by simp[hq]
     simp +contextual (disch:=omega) only[go_sem,e0,e1,e2,e3,e8,e9,e10,e11,e12,c0]
     obtain⟨N3,R,H3⟩:=rev_ret S hH2 (a:=x) (b:=y) (by omega) (by omega) (by omega)
     refine Ak R ?_
     have r1:(y:Int) - 1 - ((p0:Int) - x)=((y - 1 - (p0 - x):Nat):Int):=by omega
     simp +contextual (disch:=omega) only[go_sem,e0,e1,e2,e3,e8,e9,e10,e11,e12,r1]
     refine hY _ _ ⟨y - 1 - (p0 - x),1,_,?_,?_,?_,?_,?_,?_,?_,?_,?_,R.2.1,H3,by omega,by omega,reverseRange_holds D1 x y hxy (by omega)⟩
     all_goals simp +contextual (disch:=omega) only[go_sem,e0,e1,e2,e3,e8,e9,e10,e11,Int.natCast_one]
    ·have c0:((q0:Int)==2)=false:=by simp;omega
     simp +contextual (disch:=omega) only[go_sem,e0,e1,e2,e3,e8,e9,e10,e11,e12,c0]
     refine hY _ _ ⟨p0,q0,D1,?_,?_,?_,?_,?_,?_,?_,?_,?_,Zaa _,hH2,g1,g2,permIn_refl _ _ _⟩
     all_goals simp +contextual (disch:=omega) only[go_sem,e0,e1,e2,e3,e8,e9,e10,e11,e12]) ?_
   clear e0 e1 e2 e3 e8 e9 e10 e11 e12 hH2 g1 g2 g3
   rintro env N3 ⟨p,q,D2,e0,e1,e2,e3,e8,e9,e10,e11,e12,hle3,hH3,g1,g2,hP2⟩
   have hD2:D2.size=D1.size:=hP2.1
   have hP02:=permIn_trans _ _ _ _ _ hP1 hP2
   have B2:Below lt x y D2:=hB.perm (by omega) hP02
   refine Dk (fun env N'=>∃(E:Array Y),env 0=v/\env 1=gi x/\env 2=gi y/\env 3=gi l1/\env 8= .bool wb/\env 9= .bool wp/\env 10=gi h/\env 11=gi p/\N3.length<=N'.length/\Holds S.e U0 N' rs k v E/\PermIn x y D2 E) (fun Yq hY=>by
    have stay:∀ env',env' 0=v->env' 1=gi x->env' 2=gi y->env' 3=gi l1->env' 8= .bool wb->env' 9= .bool wp->env' 10=gi h->env' 11=gi p->Yq env' N3:=fun env' a0 a1 a2 a3 a8 a9 a10 a11=>hY _ _ ⟨D2,a0,a1,a2,a3,a8,a9,a10,a11,Zaa _,hH3,permIn_refl _ _ _⟩
    cases hwb:wb with
    |false=>
     rw[hwb] at e8
     simp +contextual (disch:=omega) only[go_sem,e0,e1,e2,e3,e8,e9,e10,e11,e12]
     refine stay _ ?_ ?_ ?_ ?_ ?_ ?_ ?_ ?_
     all_goals simp +contextual (disch:=omega) only[go_sem,e0,e1,e2,e3,e8,e9,e10,e11,e12,hwb]
    |true=>
     rw[hwb] at e8
     cases hwp:wp with
     |false=>
      rw[hwp] at e9
      simp +contextual (disch:=omega) only[go_sem,e0,e1,e2,e3,e8,e9,e10,e11,e12]
      refine stay _ ?_ ?_ ?_ ?_ ?_ ?_ ?_ ?_
      all_goals simp +contextual (disch:=omega) only[go_sem,e0,e1,e2,e3,e8,e9,e10,e11,e12,hwb,hwp]
     |true=>
      rw[hwp] at e9
      by_cases hq:q=1
      ·have c0:((q:Int)==1)=true:=by simp[hq]
       simp +contextual (disch:=omega) only[go_sem,e0,e1,e2,e3,e8,e9,e10,e11,e12,c0]
       obtain⟨N4,R,H4⟩:=pis_ret S hH3 (a:=x) (b:=y) (by omega) (by omega) (by omega)
       obtain⟨p1,p2⟩:=partialInsertionSort_holds hS D2 x y (by omega) (by omega) B2
       have:=R.2.1
       refine Ak R ?_
       cases hr:(partialInsertionSort lt D2 x y).2 with
       |true=>
        simp +contextual (disch:=omega) only[go_sem]
        exact⟨_,rfl,by omega,_,rfl,H4,hfin _ (permIn_trans _ _ _ _ _ hP02 p1) (p2 hr)⟩
       |false=>
        simp +contextual (disch:=omega) only[go_sem,e0,e1,e2,e3,e8,e9,e10,e11,e12]
        refine hY _ _ ⟨_,?_,?_,?_,?_,?_,?_,?_,?_,R.2.1,H4,p1⟩
        all_goals simp +contextual (disch:=omega) only[go_sem,e0,e1,e2,e3,e8,e9,e10,e11,e12,hwb,hwp]
      ·have c0:((q:Int)==1)=false:=by simp;omega
       simp +contextual (disch:=omega) only[go_sem,e0,e1,e2,e3,e8,e9,e10,e11,e12,c0]
       refine stay _ ?_ ?_ ?_ ?_ ?_ ?_ ?_ ?_
       all_goals simp +contextual (disch:=omega) only[go_sem,e0,e1,e2,e3,e8,e9,e10,e11,e12,hwb,hwp]) ?_
   clear e0 e1 e2 e3 e8 e9 e10 e11 e12 hH3
   rintro env N4 ⟨D3,e0,e1,e2,e3,e8,e9,e10,e11,hle4,hH4,hP3⟩
   have hD3:D3.size=D2.size:=hP3.1
   have hP03:=permIn_trans _ _ _ _ _ hP02 hP3
   have B3:Below lt x y D3:=B2.perm (by omega) hP3
   refine Dk (fun env N'=>env 0=v/\env 1=gi x/\env 2=gi y/\env 3=gi l1/\env 8= .bool wb/\env 9= .bool wp/\env 10=gi h/\env 11=gi p/\N4=N') (fun Yq hY=>by
    rcases Za3 x with hx|hx
    ·have c0:decide ((0:Int)<x)=false:=by simp;omega
     simp +contextual (disch:=omega) only[go_sem,e0,e1,e2,e3,e8,e9,e10,e11,c0]
     refine hY _ _ ⟨?_,?_,?_,?_,?_,?_,?_,?_,rfl⟩
     all_goals simp +contextual (disch:=omega) only[go_sem,e0,e1,e2,e3,e8,e9,e10,e11]
    ·have c0:decide ((0:Int)<x)=true:=by simp;omega
     have x1:(x:Int) - 1=((x - 1:Nat):Int):=by omega
     simp +contextual (disch:=omega) only[go_sem,e0,e1,e2,e3,e8,e9,e10,e11,c0,x1,A1,hH4.iad (j:=x - 1) (by omega),hH4.ld (j:=x - 1) (by omega),hH4.iad (j:=p) (by omega),hH4.ld (j:=p) (by omega)]
     refine A5 (S.call _ _ _) ?_
     cases hlt:lt D3[x - 1]! D3[p]! with
     |true=>
      simp +contextual (disch:=omega) only[go_sem,e0,e1,e2,e3,e8,e9,e10,e11,c0,hlt]
      refine hY _ _ ⟨?_,?_,?_,?_,?_,?_,?_,?_,rfl⟩
      all_goals simp +contextual (disch:=omega) only[go_sem,e0,e1,e2,e3,e8,e9,e10,e11]
     |false=>
      simp +contextual (disch:=omega) only[go_sem,e0,e1,e2,e3,e8,e9,e10,e11,c0,hlt]
      obtain⟨N5,R,H5⟩:=pe_ret S hH4 (a:=x) (b:=y) (p:=p) (by omega) g2 (by omega) (by omega)
      have:=R.2.1
      refine Ak R ?_
      obtain⟨mid,D4,hX⟩:∃ m D4,partitionEqual lt D3 x y p=(m,D4):=⟨_,_,rfl⟩
      rw[hX] at H5
      rw[hX]
      obtain⟨k1,k2,k3,k4,k5⟩:=round_eq hS (partitionEqual_holds lt) hx g1 g2 (by omega) B3 hlt hX
      simp +contextual (disch:=omega) only[go_sem,e0,e1,e2,e3,e8,e9,e10,e11]
      refine⟨y - mid,by omega,hJ _ _ _ ⟨mid,y,l1,wb,wp,D4,?_,?_,?_,?_,?_,?_,rfl,by omega,by omega,k2,hyb,by omega,by omega,H5,k4,fun R h1 h2=> ?_⟩⟩
      all_goals first|(simp +contextual (disch:=omega) only[go_sem,e0,e1,e2,e3,e8,e9,e10,e11];done)|skip
      obtain⟨m1,m2⟩:=k5 R h1 h2
      exact hfin R (permIn_trans _ _ _ _ _ hP03 m1) m2) ?_
   clear e0 e1 e2 e3 e8 e9 e10 e11
   rintro env N' ⟨e0,e1,e2,e3,e8,e9,e10,e11,rfl⟩
   obtain⟨N5,R5,H5⟩:=part_ret S hH4 (a:=x) (b:=y) (p:=p) (by omega) g2 (by omega) (by omega)
   have hle5:=R5.2.1
   obtain⟨mid,ap,D4,hX⟩:∃ m ap D4,partition lt D3 x y p=(m,ap,D4):=⟨_,_,_,rfl⟩
   rw[hX] at H5 R5
   obtain⟨k1,k2,k3,k4,k5,k6,k7⟩:=round_part hS (partition_holds lt) g1 g2 (by omega) B3 hX
   simp +contextual (disch:=omega) only[go_sem,e0,e1,e2,e3,e8,e9,e10,e11]
   refine Ak R5 ?_
   obtain⟨q8,hq8⟩:∃ q,q=h / 8:=⟨_,rfl⟩
   have hqI:(h:Int).tdiv 8=q8:=by rw[hq8];rfl
   have m1:(mid:Int) - x=((mid - x:Nat):Int):=by omega
   have m2:(y:Int) - mid=((y - mid:Nat):Int):=by omega
   by_cases hlr:mid - x<y - mid
   ·have c0:decide (((mid - x:Nat):Int)<((y - mid:Nat):Int))=true:=by simp;omega
    simp +contextual (disch:=omega) only[go_sem,e0,e1,e2,e3,e8,e9,e10,e11,hqI,m1,m2,c0]
    obtain⟨L,N6,R6,H6,p1,p2⟩:=ih D4 x mid l1 N5 (by omega) k1 (by omega) (by omega) (by omega) k4 H5
    have hle6:=R6.2.1
    refine Ak R6 ?_
    obtain⟨k8,k9⟩:=k6 L p1 p2
    have hL:L.size=D4.size:=p1.1
    simp +contextual (disch:=omega) only[go_sem,e0,e1,e2,e3,e8,e9,e10,e11]
    refine⟨y - (mid+1),by omega,hJ _ _ _ ⟨mid+1,y,l1,decide ((q8:Int)<=((mid - x:Nat):Int)),ap,L,?_,?_,?_,?_,?_,?_,rfl,by omega,by omega,by omega,hyb,by omega,by omega,H6,k8,fun R h1 h2=> ?_⟩⟩
    all_goals first|(simp +contextual (disch:=omega) only[go_sem,e0,e1,e2,e3,e8,e9,e10,e11];done)|skip
    obtain⟨n1,n2⟩:=k9 R h1 h2
    exact hfin R (permIn_trans _ _ _ _ _ hP03 n1) n2
   ·have c0:decide (((mid - x:Nat):Int)<((y - mid:Nat):Int))=false:=by simp;omega
    simp +contextual (disch:=omega) only[go_sem,e0,e1,e2,e3,e8,e9,e10,e11,hqI,m1,m2,c0]
    obtain⟨L,N6,R6,H6,p1,p2⟩:=ih D4 (mid+1) y l1 N5 (by omega) (by omega) (by omega) (by omega) (by omega) k5 H5
    have hle6:=R6.2.1
    refine Ak R6 ?_
    obtain⟨k8,k9⟩:=k7 L p1 p2
    have hL:L.size=D4.size:=p1.1
    simp +contextual (disch:=omega) only[go_sem,e0,e1,e2,e3,e8,e9,e10,e11]
    refine⟨mid - x,by omega,hJ _ _ _ ⟨x,mid,l1,decide ((q8:Int)<=((y - mid:Nat):Int)),ap,L,?_,?_,?_,?_,?_,?_,rfl,by omega,by omega,by omega,by omega,by omega,by omega,H6,k8,fun R h1 h2=> ?_⟩⟩
    all_goals first|(simp +contextual (disch:=omega) only[go_sem,e0,e1,e2,e3,e8,e9,e10,e11];done)|skip
    obtain⟨n1,n2⟩:=k9 R h1 h2
    exact hfin R (permIn_trans _ _ _ _ _ hP03 n1) n2
  obtain⟨r,N,R,d',rfl,h⟩:=key
  exact⟨d',N,R,h⟩
end O
namespace O
open Go Go.RowKit Go.Proofs.YtckobfochhjmdaaGreatDoor.Sy Go.Sort
variable {Y:Type} [Inhabited Y] {lt:Y->Y->Bool} {U0 U:St} {rs:List Thg} {v:GV}
theorem sorted_of {d d':Array Y} (h:PermIn 0 d.size d d') (h4:SortedIn lt 0 d.size d'):d'.toList.Perm d.toList/\Up lt d'.toList:=by
 obtain⟨h1,h2,h3⟩:=h
 constructor
 ·have e1:d'.extract 0 d.size=d':=by rw[<- h1];simp
  have e2:d.extract 0 d.size=d:=by simp
  rw[e1,e2] at h3
  exact h3
 ·rw[Up,Zan]
  intro i j hi hj hij
  simp only[Za2] at hi hj
  have:=h4 i j (Nat.zero_le _) hij (by omega)
  rw[getElem!_pos d' j hj,getElem!_pos d' i hi] at this
  simpa using this
theorem sort_ret (S:SrtO Y lt) (hS:SWO lt) {l:List Y} (H:Hp U0 U rs) (k:Nat) (hk:rs[k]? =some (ow S.e.p.kd v l)) (hl:l.length<=1099511627776) (htri:∀ x∈l,∀ y∈l,lt x y=false->lt y x=false->x=y):∃ N,Ret Tryz.prog S.nS [v] U (.tup []) N/\Hp U0 N (rs.set k (ow S.e.p.kd v (Bh lt l))):=by
 have key:∃ r N,Ret Tryz.prog S.nS [v] U r N/\r= .tup []/\Hp U0 N (rs.set k (ow S.e.p.kd v (Bh lt l))):=by
  refine Au S.h_Sort (Z0z rfl) ?_
  have hlen:=(H.sl k hk).len
  have wu:IntKind.u64.wrap (l.length:Int)=l.length:=J4 (by omega) (by omega)
  simp +contextual (disch:=omega) only[go_sem,Ad9,hlen,wu]
  refine A5 (M7 U l.length hl) ?_
  simp +contextual (disch:=omega) only[go_sem]
  have HH:Holds S.e U0 U rs k v l.toArray:=Holds.of H (by simpa using hk)
  have hb:=Abv hl
  obtain⟨d',N,R,H1,p1,p2⟩:=pdq_ret S hS l.length l.toArray 0 l.length (bitsLen l.length) U (by omega) (by omega) (by simp) (by simpa using hl) (by omega) (.inl rfl) HH
  have hz:((0:Nat):Int)=0:=rfl
  rw[hz] at R
  refine Ak R ?_
  simp +contextual (disch:=omega) only[go_sem]
  have hsz:l.length=l.toArray.size:=by simp
  rw[hsz] at p1 p2
  obtain⟨q1,q2⟩:=sorted_of p1 p2
  have hE:d'.toList=Bh lt l:=Zk hS htri (by simpa using q1) q2
  exact⟨_,rfl,R.2.1,rfl,by rw[<- hE];exact H1.2⟩
 obtain⟨r,N,R,rfl,h⟩:=key
 exact⟨N,R,h⟩
end O
def Lu:Fn1:=⟨17,[.t 4],(rg [oV 4 kf] (rg [oM 5 0,oC 6 255 5,oM 7 6,jM 8 7 1,jC 9 7 255 8,jU 10 7 9,oQ 11 7 10,oM 12 11,vM 13 12 0,vM 14 12 1,vB 15 12 .lss 13 14,oP 16 12 15,oM 4 16] .ret))⟩
theorem Zt:A2 Tryz.prog 193=some Lu:=by kernel_rfl
def elI:El Int:=⟨pI,false,gi,fun _=>rfl,fun _=>rfl,by decide⟩
theorem Sw (U:St) (a b:Int):Ret Tryz.prog 193 [gi a,gi b] U (.bool (ltI a b)) U:=by
 refine Ac Zt (Z0z rfl) trivial ?_
 simp +contextual (disch:=omega) only[go_sem,Lu]
 refine A5 (Fd U a) ?_
 simp +contextual (disch:=omega) only[go_sem,ltI]
def qI:SN:=⟨187,261,188,191,192,194,195,189,309,263,262,190,131,193,257,258⟩
def srtI:SrtO Int ltI where
 e:=elI
 q:=qI
 call:=Sw
 h_insertionSort:=by kernel_rfl
 h_siftDown:=by kernel_rfl
 h_heapSort:=by kernel_rfl
 h_reverseRange:=by kernel_rfl
 h_partialInsertionSort:=by kernel_rfl
 h_partitionEqual:=by kernel_rfl
 h_partition:=by kernel_rfl
 h_breakPatterns:=by kernel_rfl
 h_order2:=by kernel_rfl
 h_median:=by kernel_rfl
 h_medianAdjacent:=by kernel_rfl
 h_choosePivot:=by kernel_rfl
 h_pdqsort:=by kernel_rfl
 nS:=80
 h_Sort:=by kernel_rfl
 hnp:=rfl
 hxs:=rfl
theorem M8 {U0 U:St} {rs:List Thg} {v:GV} {l:List Int} (H:Hp U0 U rs) (k:Nat) (hk:rs[k]? =some (ow pI.kd v l)) (hl:l.length<=1099511627776):∃ N,Ret Tryz.prog 80 [v] U (.tup []) N/\Hp U0 N (rs.set k (ow pI.kd v (Bh ltI l))):=
 O.sort_ret srtI Ajv H k hk hl fun x _ y _=>Ajw x y
def Zv:Fn1:=⟨46,[.t 8],(rg [oX 4 0,o 8 (.mov (.k .nilS))] (rg [o 12 (.lit 6 0 [] []),oM 9 12] (.seq (rg [oV 10 (ki 0)] (oH 0 (.seq (rg [oM 13 10,oF 14 2 4,oL 15 14,oN 16 15,oB 17 .lss 13 16] (oJ 17 0)) (.seq (.blk 1 (rg [oF 20 2 4,oL 21 20,oM 22 10,oI 23 6 21 22,oW 24 6 23,o 11 (.new [(.bool false),s0,s0,z0,z0,z0]),oS 6 11 24] (rg [oF 25 0 11,oL 26 25,oM 27 1,o 28 (.eqb false (.t 26) (.t 27)),oM 29 28,jF 30 29 1 11,jL 31 29 30,jM 32 29 2,jB 33 29 .eql 31 32,oQ 34 29 33,oM 35 34,jF 36 35 2 11,jL 37 35 36,jM 38 35 3,jB 39 35 .eql 37 38,oQ 40 35 39] (oG 40 (.reg [oM 41 9,oW 42 6 11,o 43 (.lit 6 1 [(.bool false),s0,s0,z0,z0,z0] [(0,6,(.t 42))]),o 44 (.app 6 64 [(.bool false),s0,s0,z0,z0,z0] (.t 41) (.t 43)),oM 9 44]))))) (.reg [oM 18 10,oZ 19 18 1,oM 10 19]))))) (rg [oM 45 9,oM 8 45] .ret))))⟩
theorem A92:A2 Tryz.prog 96=some Zv:=by kernel_rfl
def Zx:Fn1:=⟨42,[.t 8],(rg [oX 4 0,o 8 (.mov (.k .nilS))] (rg [o 12 (.lit 6 0 [] []),oM 9 12] (.seq (rg [oF 13 2 4,oL 14 13,oN 15 14,oV 16 (ki 0)] (oH 0 (rg [oB 17 .lss 16 15] (.seq (oJ 17 0) (.seq (.blk 1 (rg [oI 18 6 14 16,oW 19 6 18,o 11 (.new [(.bool false),s0,s0,z0,z0,z0]),oS 6 11 19] (rg [oF 20 0 11,oL 21 20,oM 22 1,o 23 (.eqb false (.t 21) (.t 22)),oM 24 23,jF 25 24 1 11,jL 26 24 25,jM 27 24 2,jB 28 24 .eql 26 27,oQ 29 24 28,oM 30 29,jF 31 30 2 11,jL 32 30 31,jM 33 30 3,jB 34 30 .eql 32 33,oQ 35 30 34] (oG 35 (.reg [oM 36 9,oW 37 6 11,o 38 (.lit 6 1 [(.bool false),s0,s0,z0,z0,z0] [(0,6,(.t 37))]),o 39 (.app 6 64 [(.bool false),s0,s0,z0,z0,z0] (.t 36) (.t 38)),oM 9 39]))))) (.reg [oZ 40 16 1,oM 16 40])))))) (rg [oM 41 9,oM 8 41] .ret))))⟩
theorem A93:A2 Tryz.prog 79=some Zx:=by kernel_rfl
theorem A94 {l:List Live} {m:Bool} {o k:ByteArray} {i:Nat} (hi:i<l.length):(l.take (i+1)).filter (C6 m o k)=if C6 m o k l[i] then(l.take i).filter (C6 m o k)++[l[i]] else(l.take i).filter (C6 m o k):=by
 rw[Fq hi]
 split<;>simp
theorem A5r (U:St) (cs:List GV) (s:State) (hR:Ab.R U s cs) (m:Bool) (o k:ByteArray) (hl:A7 s<=1099511627776):
  ∃ r N,Ret Tryz.prog 96 [.agg cs,.bool m,.str o,.str k] U r N/\Hp U N [ow Dh.kd r (Jx s m o k)]:=by
 obtain⟨a,b,c,v,rfl,_,_,hv,_⟩:=hR
 obtain⟨l1,l2,l3,l4,_⟩:=Aq hl
 refine Fp A92 (Z0z rfl) ?_
 have H:=((Hp.refl U).new 1 [a,b,c,v]).nil_Live
 simp +contextual (disch:=omega) only[go_sem,Zv]
 generalize hb:U.length=n1 at*
 refine Q5 s.lives.length 10 (fun i env N=>env 1= .bool m/\env 2= .str o/\env 3= .str k/\env 4= .ptr n1 0/\∃ w,env 9=w/\Hp U N [ow Dh.kd w ((s.lives.take i).filter (C6 m o k)),pt 1 n1 [a,b,c,v]]) rfl ⟨rfl,rfl,rfl,rfl,_,rfl,H⟩ ?_ ?_
 ·rintro J hJ i env N hi e10 c0 ⟨e1,e2,e3,e4,w,e9,H⟩
  have hfl:=Zad (C6 m o k) (s.lives.take i)
  rw[Zah] at hfl
  have C1:=A3 (hv.pre H.sub) hi
  have G:=H.grow (pre1 N (some (Blk.row 1 [.bool s.lives[i].map,.str s.lives[i].obj,.str s.lives[i].key,gi s.lives[i].val,gi s.lives[i].dot.rep,gi s.lives[i].dot.seq])))
  have hfs:=A94 (m:=m) (o:=o) (k:=k) hi
  cases hm:(s.lives[i].map==m) with
  |false=>
   have hk0:C6 m o k s.lives[i]=false:=by simp[C6,hm]
   rw[if_neg (by simp[hk0])] at hfs
   simp +contextual (disch:=omega) only[go_sem,c0,e1,e2,e3,e4,e9,e10,C1,A4 (H.pt 1 rfl),hv.len,hm,Zae]
   refine hJ _ _ _ ⟨?_,?_,?_,?_,w,?_,by rw[hfs];exact G⟩
   all_goals simp +contextual (disch:=omega) only[go_sem,e1,e2,e3,e4,e9,e10]
  |true=>
   cases ho:decide (s.lives[i].obj=o) with
   |false=>
    have hk0:C6 m o k s.lives[i]=false:=by simp[C6,hm,ho]
    rw[if_neg (by simp[hk0])] at hfs
    simp +contextual (disch:=omega) only[go_sem,c0,e1,e2,e3,e4,e9,e10,C1,A4 (H.pt 1 rfl),hv.len,hm,ho,Zae]
    refine hJ _ _ _ ⟨?_,?_,?_,?_,w,?_,by rw[hfs];exact G⟩
    all_goals simp +contextual (disch:=omega) only[go_sem,e1,e2,e3,e4,e9,e10]
   |true=>
    cases hk:decide (s.lives[i].key=k) with
    |false=>
     have hk0:C6 m o k s.lives[i]=false:=by simp[C6,hm,ho,hk]
     rw[if_neg (by simp[hk0])] at hfs
     simp +contextual (disch:=omega) only[go_sem,c0,e1,e2,e3,e4,e9,e10,C1,A4 (H.pt 1 rfl),hv.len,hm,ho,hk,Zae]
     refine hJ _ _ _ ⟨?_,?_,?_,?_,w,?_,by rw[hfs];exact G⟩
     all_goals simp +contextual (disch:=omega) only[go_sem,e1,e2,e3,e4,e9,e10]
    |true=>
     have hk0:C6 m o k s.lives[i]=true:=by simp[C6,hm,ho,hk]
     rw[if_pos hk0] at hfs
     obtain⟨w',N3,e5,H3⟩:=G.app_Live 0 rfl s.lives[i] (by omega)
     simp +contextual (disch:=omega) only[go_sem,c0,e1,e2,e3,e4,e9,e10,C1,A4 (H.pt 1 rfl),hv.len,hm,ho,hk,Zae,e5]
     refine hJ _ _ _ ⟨?_,?_,?_,?_,w',?_,by rw[hfs];exact H3⟩
     all_goals simp +contextual (disch:=omega) only[go_sem,e1,e2,e3,e4,e9,e10]
 ·rintro env N e10 c0 ⟨e1,e2,e3,e4,w,e9,H⟩
  rw[Zab] at H
  simp +contextual (disch:=omega) only[go_sem,c0,e1,e2,e3,e4,e9,e10,A4 (H.pt 1 rfl),hv.len]
  exact⟨_,rfl,H.one⟩
theorem A5s (U:St) (cs:List GV) (s:State) (hR:Ab.R U s cs) (m:Bool) (o k:ByteArray) (hl:A7 s<=1099511627776):
  ∃ r N,Ret Tryz.prog 79 [.agg cs,.bool m,.str o,.str k] U r N/\Hp U N [ow Dh.kd r (Jx s m o k)]:=by
 obtain⟨a,b,c,v,rfl,_,_,hv,_⟩:=hR
 obtain⟨l1,l2,l3,l4,_⟩:=Aq hl
 refine Fp A93 (Z0z rfl) ?_
 have H:=((Hp.refl U).new 1 [a,b,c,v]).nil_Live
 simp +contextual (disch:=omega) only[go_sem,Zx,hv.len]
 generalize hb:U.length=n1 at*
 refine Q5 s.lives.length 16 (fun i env N=>env 1= .bool m/\env 2= .str o/\env 3= .str k/\env 14=c/\env 15=gi s.lives.length/\∃ w,env 9=w/\Hp U N [ow Dh.kd w ((s.lives.take i).filter (C6 m o k)),pt 1 n1 [a,b,c,v]]) rfl ⟨rfl,rfl,rfl,rfl,rfl,_,rfl,H⟩ ?_ ?_
 ·rintro J hJ i env N hi e10 c0 ⟨e1,e2,e3,e4,e15,w,e9,H⟩
  have hfl:=Zad (C6 m o k) (s.lives.take i)
  rw[Zah] at hfl
  have C1:=A3 (hv.pre H.sub) hi
  have G:=H.grow (pre1 N (some (Blk.row 1 [.bool s.lives[i].map,.str s.lives[i].obj,.str s.lives[i].key,gi s.lives[i].val,gi s.lives[i].dot.rep,gi s.lives[i].dot.seq])))
  have hfs:=A94 (m:=m) (o:=o) (k:=k) hi
  cases hm:(s.lives[i].map==m) with
  |false=>
   have hk0:C6 m o k s.lives[i]=false:=by simp[C6,hm]
   rw[if_neg (by simp[hk0])] at hfs
   simp +contextual (disch:=omega) only[go_sem,c0,e1,e2,e3,e4,e15,e9,e10,C1,hm,Zae]
   refine hJ _ _ _ ⟨?_,?_,?_,?_,?_,w,?_,by rw[hfs];exact G⟩
   all_goals simp +contextual (disch:=omega) only[go_sem,e1,e2,e3,e4,e15,e9,e10]
  |true=>
   cases ho:decide (s.lives[i].obj=o) with
   |false=>
    have hk0:C6 m o k s.lives[i]=false:=by simp[C6,hm,ho]
    rw[if_neg (by simp[hk0])] at hfs
    simp +contextual (disch:=omega) only[go_sem,c0,e1,e2,e3,e4,e15,e9,e10,C1,hm,ho,Zae]
    refine hJ _ _ _ ⟨?_,?_,?_,?_,?_,w,?_,by rw[hfs];exact G⟩
    all_goals simp +contextual (disch:=omega) only[go_sem,e1,e2,e3,e4,e15,e9,e10]
   |true=>
    cases hk:decide (s.lives[i].key=k) with
    |false=>
     have hk0:C6 m o k s.lives[i]=false:=by simp[C6,hm,ho,hk]
     rw[if_neg (by simp[hk0])] at hfs
     simp +contextual (disch:=omega) only[go_sem,c0,e1,e2,e3,e4,e15,e9,e10,C1,hm,ho,hk,Zae]
     refine hJ _ _ _ ⟨?_,?_,?_,?_,?_,w,?_,by rw[hfs];exact G⟩
     all_goals simp +contextual (disch:=omega) only[go_sem,e1,e2,e3,e4,e15,e9,e10]
    |true=>
     have hk0:C6 m o k s.lives[i]=true:=by simp[C6,hm,ho,hk]
     rw[if_pos hk0] at hfs
     obtain⟨w',N3,e5,H3⟩:=G.app_Live 0 rfl s.lives[i] (by omega)
     simp +contextual (disch:=omega) only[go_sem,c0,e1,e2,e3,e4,e15,e9,e10,C1,hm,ho,hk,Zae,e5]
     refine hJ _ _ _ ⟨?_,?_,?_,?_,?_,w',?_,by rw[hfs];exact H3⟩
     all_goals simp +contextual (disch:=omega) only[go_sem,e1,e2,e3,e4,e15,e9,e10]
 ·rintro env N e10 c0 ⟨e1,e2,e3,e4,e15,w,e9,H⟩
  rw[Zab] at H
  simp +contextual (disch:=omega) only[go_sem,c0,e1,e2,e3,e4,e15,e9,e10]
  exact⟨_,rfl,H.one⟩
def Ij:Fn1:=⟨17,[.t 4],(rg [oV 4 kf] (rg [oM 5 0,oC 6 254 5,oM 7 6,jM 8 7 1,jC 9 7 254 8,jU 10 7 9,oQ 11 7 10,oM 12 11,vM 13 12 0,vM 14 12 1,vB 15 12 .lss 13 14,oP 16 12 15,oM 4 16] .ret))⟩
theorem P4:A2 Tryz.prog 182=some Ij:=by kernel_rfl
def elS:El ByteArray:=⟨pS,false,.str,fun _=>rfl,fun _=>rfl,by decide⟩
theorem M9 (U:St) (a b:ByteArray):Ret Tryz.prog 182 [.str a,.str b] U (.bool (txLt a b)) U:=by
 refine Ac P4 (Z0z rfl) trivial ?_
 simp +contextual (disch:=omega) only[go_sem,Ij]
 refine A5 (Dj U a) ?_
 simp +contextual (disch:=omega) only[go_sem,txLt]
def qS:SN:=⟨176,256,177,180,181,183,184,178,308,260,259,179,129,182,257,258⟩
def srtS:SrtO ByteArray txLt where
 e:=elS
 q:=qS
 call:=M9
 h_insertionSort:=by kernel_rfl
 h_siftDown:=by kernel_rfl
 h_heapSort:=by kernel_rfl
 h_reverseRange:=by kernel_rfl
 h_partialInsertionSort:=by kernel_rfl
 h_partitionEqual:=by kernel_rfl
 h_partition:=by kernel_rfl
 h_breakPatterns:=by kernel_rfl
 h_order2:=by kernel_rfl
 h_median:=by kernel_rfl
 h_medianAdjacent:=by kernel_rfl
 h_choosePivot:=by kernel_rfl
 h_pdqsort:=by kernel_rfl
 nS:=76
 h_Sort:=by kernel_rfl
 hnp:=rfl
 hxs:=rfl
theorem Fa {U0 U:St} {rs:List Thg} {v:GV} {l:List ByteArray} (H:Hp U0 U rs) (k:Nat) (hk:rs[k]? =some (ow pS.kd v l)) (hl:l.length<=1099511627776):∃ N,Ret Tryz.prog 76 [v] U (.tup []) N/\Hp U0 N (rs.set k (ow pS.kd v (Bh txLt l))):=
 O.sort_ret srtS Kw H k hk hl fun x _ y _=>Ot x y
def Zz:Fn1:=⟨33,[.t 4],(rg [oX 2 0,oV 4 (ki 0)] (rg [oV 5 (ki 0)] (.seq (rg [oV 6 (ki 0)] (oH 0 (.seq (rg [oM 7 6,oF 8 1 2,oL 9 8,oN 10 9,oB 11 .lss 7 10] (oJ 11 0)) (.seq (.blk 1 (rg [oF 14 1 2,oL 15 14,oM 16 6,oI 17 3 15 16,oF 18 0 17,oL 19 18,oM 20 1,oB 21 .eql 19 20] (oG 21 (.reg [oM 22 5,oF 23 1 2,oL 24 23,oM 25 6,oI 26 3 24 25,oF 27 2 26,oL 28 27,oE 29 .rem 28 1000000,oB 30 .add 22 29,oE 31 .rem 30 1000000,oM 5 31])))) (.reg [oM 12 6,oZ 13 12 1,oM 6 13]))))) (rg [oM 32 5,oM 4 32] .ret))))⟩
theorem A95:A2 Tryz.prog 52=some Zz:=by kernel_rfl
def A01:Fn1:=⟨27,[.t 4],(rg [oX 2 0,oV 4 (ki 0)] (rg [oV 5 (ki 0)] (.seq (rg [oF 8 1 2,oL 9 8,oN 10 9,oV 11 (ki 0)] (oH 0 (rg [oB 12 .lss 11 10] (.seq (oJ 12 0) (.seq (.blk 1 (rg [oI 13 3 9 11,oW 14 3 13,o 7 (.new [s0,z0,z0]),oS 3 7 14] (rg [oF 15 0 7,oL 16 15,oM 17 1,oB 18 .eql 16 17] (oG 18 (.reg [oM 19 5,oF 20 2 7,oL 21 20,oE 22 .rem 21 1000000,oB 23 .add 19 22,oE 24 .rem 23 1000000,oM 5 24]))))) (.reg [oZ 25 11 1,oM 11 25])))))) (rg [oM 26 5,oM 4 26] .ret))))⟩
theorem A96:A2 Tryz.prog 41=some A01:=by kernel_rfl
def A3l:Fn1:=⟨50,[.t 4],(rg [o 4 (.mov (.k .nilS))] (rg [o 8 (.lit 1 0 [] []),oM 5 8] (rg [oV 6 kf] (.seq (rg [oV 7 (ki 0)] (oH 0 (.seq (rg [oM 9 7,oM 10 0,oN 11 10,oB 12 .lss 9 11] (oJ 12 0)) (.seq (.blk 1 (.seq (rg [oM 15 0,oM 16 7,oI 17 1 15 16,oL 18 17,oM 19 1,oB 20 .eql 18 19] (oG 20 (rg [oM 21 0,oM 4 21] .ret))) (.seq (rg [oM 22 6,oU 23 22,oM 24 23,jM 25 24 0,jM 26 24 7,jI 27 24 1 25 26,jL 28 24 27,jM 29 24 1,jB 30 24 .gtr 28 29,oQ 31 24 30] (oG 31 (rg [oM 32 5,oM 33 1,o 34 (.lit 1 1 [s0] [(0,1,(.t 33))]),o 35 (.app 1 16 [s0] (.t 32) (.t 34)),oM 5 35] (.reg [oV 6 kt])))) (.reg [oM 36 5,oM 37 0,oM 38 7,oI 39 1 37 38,oL 40 39,o 41 (.lit 1 1 [s0] [(0,1,(.t 40))]),o 42 (.app 1 16 [s0] (.t 36) (.t 41)),oM 5 42])))) (.reg [oM 13 7,oZ 14 13 1,oM 7 14]))))) (.seq (rg [oM 43 6,oU 44 43] (oG 44 (.reg [oM 45 5,oM 46 1,o 47 (.lit 1 1 [s0] [(0,1,(.t 46))]),o 48 (.app 1 16 [s0] (.t 45) (.t 47)),oM 5 48]))) (rg [oM 49 5,oM 4 49] .ret))))))⟩
theorem Ac1:A2 Tryz.prog 93=some A3l:=by kernel_rfl
theorem Agl (x:Int): -1000000<x.tmod 1000000/\x.tmod 1000000<1000000:=by
 have h1:=Za4 x (b:=1000000) (by decide)
 have h2:=Za4 (-x) (b:=1000000) (by decide)
 rw[Int.neg_tmod] at h2
 omega
theorem A3m {l:List Tally} {o:ByteArray} {i:Nat} (hi:i<l.length):(l.take (i+1)).foldl (G1 o) 0=if l[i].obj=o then addM ((l.take i).foldl (G1 o) 0) (l[i].sum.tmod 1000000) else(l.take i).foldl (G1 o) 0:=by
 rw[Zai hi,Abt];rfl
theorem A5t (U:St) (cs:List GV) (s:State) (hR:Ab.R U s cs) (o:ByteArray) (hl:A7 s<=1099511627776):Ret Tryz.prog 52 [.agg cs,.str o] U (gi (C5 s o)) U:=by
 obtain⟨a,b,c,v,rfl,_,hb,_,_⟩:=hR
 obtain⟨l1,l2,l3,l4,_⟩:=Aq hl
 refine Ac A95 (Z0z rfl) trivial ?_
 simp +contextual (disch:=omega) only[go_sem,Zz]
 have hB:rdB (U++[some (Blk.row 1 [a,b,c,v])]) U.length=some [a,b,c,v]:=Ld (Za8 _)
 generalize hn1:U.length=n1 at*
 refine Ht s.tallies.length 6 0 (fun i env N=>env 1= .str o/\env 2= .ptr n1 0/\env 5=gi ((s.tallies.take i).foldl (G1 o) 0)/\U++[some (Blk.row 1 [a,b,c,v])] <+: N) (fun env N=>env 5=gi (C5 s o)/\U++[some (Blk.row 1 [a,b,c,v])] <+: N) rfl ⟨rfl,rfl,rfl,Za8 _⟩ ?_ ?_ ?_
 ·rintro J Yq hJ hY i env N hi e6 c0 ⟨e1,e2,e5,hp⟩
  have T:=Aa (hb.pre ((pre1 _ _).trans hp)) hi
  have hln:=(hb.pre ((pre1 _ _).trans hp)).len
  have hbd:=Zo (l:=s.tallies.take i) (o:=o) (n:=0) (by decide)
  have htm:=Agl s.tallies[i].sum
  have hst:=A3m (o:=o) hi
  generalize(s.tallies.take i).foldl (G1 o) 0=n at*
  cases ho:decide (s.tallies[i].obj=o) with
  |false=>
   have ho2:¬ s.tallies[i].obj=o:=by simpa using ho
   rw[if_neg ho2] at hst
   simp +contextual (disch:=omega) only[go_sem,c0,e1,e2,e5,e6,A4 (Bw hp hB),T,hln,ho]
   refine hJ _ _ _ ⟨?_,?_,?_,hp⟩
   all_goals simp +contextual (disch:=omega) only[go_sem,e1,e2,e5,hst]
  |true=>
   have ho2:s.tallies[i].obj=o:=by simpa using ho
   rw[if_pos ho2] at hst
   have w1:IntKind.i64.wrap (n+s.tallies[i].sum.tmod 1000000)=n+s.tallies[i].sum.tmod 1000000:=Ag (by omega) (by omega)
   simp +contextual (disch:=omega) only[go_sem,c0,e1,e2,e5,e6,A4 (Bw hp hB),T,hln,ho,w1]
   refine hJ _ _ _ ⟨?_,?_,?_,hp⟩
   all_goals simp +contextual (disch:=omega) only[go_sem,e1,e2,e5,hst,addM]
 ·rintro Yq hY env N e6 c0 ⟨e1,e2,e5,hp⟩
  rw[Zab] at e5
  have hln:=(hb.pre ((pre1 _ _).trans hp)).len
  simp +contextual (disch:=omega) only[go_sem,c0,e1,e2,e5,e6,A4 (Bw hp hB),hln]
  refine hY _ _ ⟨?_,hp⟩
  simp +contextual (disch:=omega) only[go_sem,e5,C5]
 ·rintro env N ⟨e5,hp⟩
  simp +contextual (disch:=omega) only[go_sem,e5]
  exact(pre1 _ _).trans hp
theorem A5u (U:St) (cs:List GV) (s:State) (hR:Ab.R U s cs) (o:ByteArray) (hl:A7 s<=1099511627776):Ret Tryz.prog 41 [.agg cs,.str o] U (gi (C5 s o)) U:=by
 obtain⟨a,b,c,v,rfl,_,hb,_,_⟩:=hR
 obtain⟨l1,l2,l3,l4,_⟩:=Aq hl
 refine Ac A96 (Z0z rfl) trivial ?_
 simp +contextual (disch:=omega) only[go_sem,A01,hb.len]
 refine Ht s.tallies.length 11 0 (fun i env N=>env 1= .str o/\env 9=b/\env 10=gi s.tallies.length/\env 5=gi ((s.tallies.take i).foldl (G1 o) 0)/\U <+: N) (fun env N=>env 5=gi (C5 s o)/\U <+: N) rfl ⟨rfl,rfl,rfl,rfl,pre1 _ _⟩ ?_ ?_ ?_
 ·rintro J Yq hJ hY i env N hi e11 c0 ⟨e1,e9,e10,e5,hp⟩
  have T:=Aa (hb.pre hp) hi
  have hp2:=A0 hp [some (Blk.row 1 [.str s.tallies[i].obj,gi s.tallies[i].rep,gi s.tallies[i].sum])]
  have hbd:=Zo (l:=s.tallies.take i) (o:=o) (n:=0) (by decide)
  have htm:=Agl s.tallies[i].sum
  have hst:=A3m (o:=o) hi
  generalize(s.tallies.take i).foldl (G1 o) 0=n at*
  cases ho:decide (s.tallies[i].obj=o) with
  |false=>
   have ho2:¬ s.tallies[i].obj=o:=by simpa using ho
   rw[if_neg ho2] at hst
   simp +contextual (disch:=omega) only[go_sem,c0,e1,e9,e10,e5,e11,T,ho]
   refine hJ _ _ _ ⟨?_,?_,?_,?_,hp2⟩
   all_goals simp +contextual (disch:=omega) only[go_sem,e1,e9,e10,e5,hst]
  |true=>
   have ho2:s.tallies[i].obj=o:=by simpa using ho
   rw[if_pos ho2] at hst
   have w1:IntKind.i64.wrap (n+s.tallies[i].sum.tmod 1000000)=n+s.tallies[i].sum.tmod 1000000:=Ag (by omega) (by omega)
   simp +contextual (disch:=omega) only[go_sem,c0,e1,e9,e10,e5,e11,T,ho,w1]
   refine hJ _ _ _ ⟨?_,?_,?_,?_,hp2⟩
   all_goals simp +contextual (disch:=omega) only[go_sem,e1,e9,e10,e5,hst,addM]
 ·rintro Yq hY env N e11 c0 ⟨e1,e9,e10,e5,hp⟩
  rw[Zab] at e5
  simp +contextual (disch:=omega) only[go_sem,c0,e1,e9,e10,e5,e11]
  refine hY _ _ ⟨?_,hp⟩
  simp +contextual (disch:=omega) only[go_sem,e5,C5]
 ·rintro env N ⟨e5,hp⟩
  simp +contextual (disch:=omega) only[go_sem,e5,hp]
theorem Ft {U0 U:St} {rs:List Thg} {w:GV} {l:List ByteArray} (s:ByteArray) (H:Hp U0 U rs) (k:Nat) (hk:rs[k]? =some (ow pS.kd w l)) (hl:l.length<=1099511627776):∃ w' N,Ret Tryz.prog 93 [w,.str s] U w' N/\Hp U0 N (rs.set k (ow pS.kd w' (putU txLt s l))):=by
 have key:∃ r N,Ret Tryz.prog 93 [w,.str s] U r N/\Hp U0 N (rs.set k (ow pS.kd r (putU txLt s l))):=by
  have hkl:=(Zaq.1 hk).1
  have hset:rs.set k (ow pS.kd w l)=rs:=by rw[<- (Zaq.1 hk).2,List.set_getElem_self]
  refine Fp Ac1 (Z0z rfl) ?_
  have H:=H.nil_str
  simp +contextual (disch:=omega) only[go_sem,A3l]
  refine Ajm l.length 7 0 (fun i env N=>env 0=w/\env 1= .str s/\∃(u:GV) (put:Bool) (nxt:List ByteArray),env 5=u/\env 6= .bool put/\(∀ j (hj:j<i) (hl:j<l.length),l[j]≠s)/\insG txLt s l nxt i put/\Hp U0 N (ow pS.kd u nxt::rs)) (fun env N=>env 1= .str s/\∃(u:GV) (put:Bool) (nxt:List ByteArray),env 5=u/\env 6= .bool put/\s∉l/\insG txLt s l nxt l.length put/\Hp U0 N (ow pS.kd u nxt::rs)) (fun env N=>env 4=w/\s∈l/\Hp U0 N rs) rfl ⟨rfl,rfl,_,false,[],rfl,rfl,fun j hj=>by omega,A5j,H⟩ ?_ ?_ ?_ ?_
  ·clear H
   rintro J Yq Wq hJ hY hW i env N hi e7 c0 ⟨e0,e1,u,put,nxt,e5,e6,ha,hok,H⟩
   have hk1:(ow pS.kd u nxt::rs)[k+1]? =some (ow pS.kd w l):=hk
   have hnl:=G9 hok
   have i1:=Gu (H.sl (k+1) hk1) hi
   have hln:=(H.sl (k+1) hk1).len
   cases heq:decide (l[i]=s) with
   |true=>
    have hm:s∈l:=by
     have:l[i]=s:=by simpa using heq
     rw[<- this];exact Zaj hi
    simp +contextual (disch:=omega) only[go_sem,c0,e0,e1,e5,e6,e7,i1,hln,heq]
    refine hW _ _ ⟨?_,hm,H.drop1⟩
    simp +contextual (disch:=omega) only[go_sem,e0]
   |false=>
    have hne:l[i]≠s:=by simpa using heq
    have ha2:∀ j (hj:j<i+1) (hl:j<l.length),l[j]≠s:=fun j hj hl=>by
     rcases Zaf j i with h|h
     ·exact ha j h hl
     ·have:j=i:=by omega
      subst this;exact hne
    cases put with
    |true=>
     obtain⟨w',N3,e8,H3⟩:=H.app_str 0 rfl l[i] (by omega)
     simp +contextual (disch:=omega) only[go_sem,c0,e0,e1,e5,e6,e7,i1,hln,heq,e8]
     refine hJ _ _ _ ⟨?_,?_,w',true,_,?_,?_,ha2,Id hok hi (.inl rfl),H3⟩
     all_goals simp +contextual (disch:=omega) only[go_sem,e0,e1,e6]
    |false=>
     cases hlt:txLt s l[i] with
     |false=>
      obtain⟨w',N3,e8,H3⟩:=H.app_str 0 rfl l[i] (by omega)
      simp +contextual (disch:=omega) only[go_sem,c0,e0,e1,e5,e6,e7,i1,hln,heq,hlt,e8]
      refine hJ _ _ _ ⟨?_,?_,w',false,_,?_,?_,ha2,Id hok hi (.inr hlt),H3⟩
      all_goals simp +contextual (disch:=omega) only[go_sem,e0,e1,e6]
     |true=>
      obtain⟨w',N3,e8,H3⟩:=H.app_str 0 rfl s (by omega)
      have H3:Hp U0 N3 (ow pS.kd w' (nxt++[s])::rs):=H3
      have hp:=A5k hok hi hlt
      have hnl2:=G9 hp
      simp only[Zam,Zal,Zat] at hnl2
      have i2:=Gu (H3.sl (k+1) hk) hi
      obtain⟨w2,N4,e9,H4⟩:=H3.app_str 0 rfl l[i] (by simp;omega)
      simp +contextual (disch:=omega) only[go_sem,c0,e0,e1,e5,e6,e7,i1,hln,heq,hlt,e8,i2,e9]
      refine hJ _ _ _ ⟨?_,?_,w2,true,_,?_,?_,ha2,hp,H4⟩
      all_goals simp +contextual (disch:=omega) only[go_sem,e0,e1,e6]
  ·clear H
   rintro Yq hY env N e7 c0 ⟨e0,e1,u,put,nxt,e5,e6,ha,hok,H⟩
   have hk1:(ow pS.kd u nxt::rs)[k+1]? =some (ow pS.kd w l):=hk
   have hln:=(H.sl (k+1) hk1).len
   have hni:s∉l:=fun hm=>by
    obtain⟨j,hj,he⟩:=Zas hm
    exact ha j hj hj he
   simp +contextual (disch:=omega) only[go_sem,c0,e0,e1,e5,e6,e7,hln]
   refine hY _ _ ⟨?_,u,put,nxt,?_,?_,hni,hok,H⟩
   all_goals simp +contextual (disch:=omega) only[go_sem,e1,e5,e6]
  ·clear H
   rintro env N ⟨e1,u,put,nxt,e5,e6,hni,hok,H⟩
   have hnl:=G9 hok
   have hend:=A5l hok
   have hpu:putU txLt s l=insB txLt s l:=by rw[putU,if_neg hni]
   cases put with
   |true=>
    simp +contextual (disch:=omega) only[go_sem,e1,e5,e6]
    refine⟨_,rfl,?_⟩
    rw[hpu,<-hend]
    exact(H.perm (List.Perm.refl _)).moveTo k hk
   |false=>
    obtain⟨w',N3,e8,H3⟩:=H.app_str 0 rfl s (by omega)
    simp +contextual (disch:=omega) only[go_sem,e1,e5,e6,e8]
    refine⟨_,rfl,?_⟩
    rw[hpu,<-hend]
    exact Hp.moveTo H3 k hk
  ·clear H
   rintro env N ⟨e4,hm,H⟩
   have hpu:putU txLt s l=l:=by rw[putU,if_pos hm]
   simp +contextual (disch:=omega) only[go_sem,e4]
   exact⟨_,rfl,by rw[hpu,hset];exact H⟩
 obtain⟨r,N,R,h⟩:=key
 exact⟨r,N,R,h⟩
def A03:Fn1:=⟨44,[.t 6],(rg [oX 3 0,o 6 (.mov (.k .nilS))] (rg [o 9 (.lit 1 0 [] []),oM 7 9] (.seq (rg [oV 8 (ki 0)] (oH 0 (.seq (rg [oM 10 8,oF 11 2 3,oL 12 11,oN 13 12,oB 14 .lss 10 13] (oJ 14 0)) (.seq (.blk 1 (rg [oF 17 2 3,oL 18 17,oM 19 8,oI 20 6 18 19,oF 21 0 20,oL 22 21,oM 23 1,o 24 (.eqb false (.t 22) (.t 23)),oM 25 24,jF 26 25 2 3,jL 27 25 26,jM 28 25 8,jI 29 25 6 27 28,jF 30 25 1 29,jL 31 25 30,jM 32 25 2,jB 33 25 .eql 31 32,oQ 34 25 33] (oG 34 (.reg [oM 35 7,oF 36 2 3,oL 37 36,oM 38 8,oI 39 6 37 38,oF 40 2 39,oL 41 40,oD 42 93 35 41,oM 7 42])))) (.reg [oM 15 8,oZ 16 15 1,oM 8 16]))))) (rg [oM 43 7,oM 6 43] .ret))))⟩
theorem A97:A2 Tryz.prog 95=some A03:=by kernel_rfl
def A3o:Fn1:=⟨38,[.t 6],(rg [oX 3 0,o 6 (.mov (.k .nilS))] (rg [o 10 (.lit 1 0 [] []),oM 7 10] (.seq (rg [oF 11 2 3,oL 12 11,oN 13 12,oV 14 (ki 0)] (oH 0 (rg [oB 15 .lss 14 13] (.seq (oJ 15 0) (.seq (.blk 1 (rg [oI 16 6 12 14,oW 17 6 16,o 9 (.new [(.bool false),s0,s0,z0,z0,z0]),oS 6 9 17] (rg [oF 18 0 9,oL 19 18,oM 20 1,o 21 (.eqb false (.t 19) (.t 20)),oM 22 21,jF 23 22 1 9,jL 24 22 23,jM 25 22 2,jB 26 22 .eql 24 25,oQ 27 22 26] (oG 27 (.reg [oM 28 7,oF 29 2 9,oL 30 29,o 31 (.lit 1 1 [s0] [(0,1,(.t 30))]),o 32 (.app 1 16 [s0] (.t 28) (.t 31)),oM 7 32]))))) (.reg [oZ 33 14 1,oM 14 33])))))) (rg [oM 34 7,oC 35 76 34] (rg [oM 36 7,oC 37 77 36,oM 6 37] .ret)))))⟩
theorem Ac2:A2 Tryz.prog 78=some A3o:=by kernel_rfl
def A99:Fn1:=⟨8,[.t 4],(rg [oX 2 0,o 4 (.mov (.k .nilS))] (rg [oW 5 4 2,oM 6 1,o 7 (.call 95 [(.t 5),kf,(.t 6)]),oM 4 7] .ret))⟩
theorem Aep:A2 Tryz.prog 53=some A99:=by kernel_rfl
def A9b:Fn1:=⟨8,[.t 4],(rg [oX 2 0,o 4 (.mov (.k .nilS))] (rg [oW 5 4 2,oM 6 1,o 7 (.call 78 [(.t 5),kf,(.t 6)]),oM 4 7] .ret))⟩
theorem Aeq:A2 Tryz.prog 42=some A9b:=by kernel_rfl
def A3q:Fn1:=⟨8,[.t 4],(rg [oX 2 0,o 4 (.mov (.k .nilS))] (rg [oW 5 4 2,oM 6 1,o 7 (.call 95 [(.t 5),kt,(.t 6)]),oM 4 7] .ret))⟩
theorem Ac3:A2 Tryz.prog 54=some A3q:=by kernel_rfl
def A3s:Fn1:=⟨8,[.t 4],(rg [oX 2 0,o 4 (.mov (.k .nilS))] (rg [oW 5 4 2,oM 6 1,o 7 (.call 78 [(.t 5),kt,(.t 6)]),oM 4 7] .ret))⟩
theorem Ac4:A2 Tryz.prog 43=some A3s:=by kernel_rfl
def A9d:Fn1:=⟨72,[.t 6],(rg [oX 3 0,o 6 (.mov (.k .nilS))] (rg [o 13 (.lit 1 0 [] []),oM 7 13] (rg [oW 14 4 3,oM 15 1,oM 16 2,o 17 (.call 96 [(.t 14),kt,(.t 15),(.t 16)]),oM 8 17] (.seq (rg [oV 9 (ki 0)] (oH 0 (.seq (rg [oM 18 9,oM 19 8,oN 20 19,oB 21 .lss 18 20] (oJ 21 0)) (.seq (.blk 1 (rg [o 24 (.lit 1 0 [] []),oM 10 24] (rg [oV 11 kf] (.seq (rg [oV 12 (ki 0)] (oH 2 (.seq (rg [oM 25 12,oM 26 7,oN 27 26,oB 28 .lss 25 27] (oJ 28 2)) (.seq (.blk 3 (.seq (dw [oM 31 11,oU 32 31,oM 33 32,jM 34 33 7,jM 35 33 12,jI 36 33 1 34 35,jL 37 33 36,jM 38 33 8,jM 39 33 9,jI 40 33 6 38 39,jF 41 33 3 40,jL 42 33 41] [jB 43 33 .gtr 37 42,oQ 44 33 43] (oG 44 (rg [oM 45 10,oM 46 8,oM 47 9,oI 48 6 46 47,oF 49 3 48,oL 50 49,o 51 (.lit 1 1 [z0] [(0,1,(.t 50))]),o 52 (.app 1 8 [z0] (.t 45) (.t 51)),oM 10 52] (.reg [oV 11 kt])))) (.reg [oM 53 10,oM 54 7,oM 55 12,oI 56 1 54 55,oL 57 56,o 58 (.lit 1 1 [z0] [(0,1,(.t 57))]),o 59 (.app 1 8 [z0] (.t 53) (.t 58)),oM 10 59]))) (.reg [oM 29 12,oZ 30 29 1,oM 12 30]))))) (.seq (rg [oM 60 11,oU 61 60] (oG 61 (.reg [oM 62 10,oM 63 8,oM 64 9,oI 65 6 63 64,oF 66 3 65,oL 67 66,o 68 (.lit 1 1 [z0] [(0,1,(.t 67))]),o 69 (.app 1 8 [z0] (.t 62) (.t 68)),oM 10 69]))) (.reg [oM 70 10,oM 7 70])))))) (.reg [oM 22 9,oZ 23 22 1,oM 9 23]))))) (rg [oM 71 7,oM 6 71] .ret)))))⟩
theorem Aer:A2 Tryz.prog 55=some A9d:=by kernel_rfl
def A9f:Fn1:=⟨29,[.t 6],(rg [oX 3 0,o 6 (.mov (.k .nilS))] (rg [o 10 (.lit 1 0 [] []),oM 7 10] (.seq (rg [oW 11 4 3,oM 12 1,oM 13 2,o 14 (.call 79 [(.t 11),kt,(.t 12),(.t 13)]),oN 15 14,oV 16 (ki 0)] (oH 0 (rg [oB 17 .lss 16 15] (.seq (oJ 17 0) (.seq (.blk 1 (rg [oI 18 6 14 16,oW 19 6 18,o 9 (.new [(.bool false),s0,s0,z0,z0,z0]),oS 6 9 19] (.reg [oM 20 7,oF 21 3 9,oL 22 21,o 23 (.lit 1 1 [z0] [(0,1,(.t 22))]),o 24 (.app 1 8 [z0] (.t 20) (.t 23)),oM 7 24]))) (.reg [oZ 25 16 1,oM 16 25])))))) (rg [oM 26 7,oC 27 80 26] (rg [oM 28 7,oM 6 28] .ret)))))⟩
theorem Aes:A2 Tryz.prog 44=some A9f:=by kernel_rfl
def A9h:Fn1:=⟨37,[.t 4],(rg [oX 2 0,o 4 (.mov (.k .nilS))] (rg [o 8 (.lit 1 0 [] []),oM 5 8] (.seq (rg [oW 9 4 2,oC 10 48 9,oU 11 10] (oG 11 (rg [oM 12 5,oM 4 12] .ret))) (rg [oW 13 4 2,oM 14 1,oD 15 97 13 14,oM 6 15] (.seq (rg [oV 7 (ki 0)] (oH 0 (.seq (rg [oM 16 7,oM 17 6,oN 18 17,oB 19 .lss 16 18] (oJ 19 0)) (.seq (.blk 1 (rg [oM 22 6,oM 23 7,oI 24 8 22 23,oF 25 7 24,oL 26 25,oU 27 26] (oG 27 (.reg [oM 28 5,oM 29 6,oM 30 7,oI 31 8 29 30,oF 32 6 31,oL 33 32,o 34 (.lit 1 1 [z0] [(0,1,(.t 33))]),o 35 (.app 1 8 [z0] (.t 28) (.t 34)),oM 5 35])))) (.reg [oM 20 7,oZ 21 20 1,oM 7 21]))))) (rg [oM 36 5,oM 4 36] .ret))))))⟩
theorem Aet:A2 Tryz.prog 56=some A9h:=by kernel_rfl
def A9j:Fn1:=⟨24,[.t 4],(rg [oX 2 0,o 4 (.mov (.k .nilS))] (rg [o 8 (.lit 1 0 [] []),oM 5 8] (.seq (rg [oW 9 4 2,oM 10 1,oD 11 81 9 10,oN 12 11,oV 13 (ki 0)] (oH 0 (rg [oB 14 .lss 13 12] (.seq (oJ 14 0) (.seq (.blk 1 (rg [oI 15 8 11 13,oW 16 8 15,o 7 (.new [s0,z0,z0,z0,z0,z0,z0,(.bool false)]),oS 8 7 16] (.reg [oM 17 5,oF 18 6 7,oL 19 18,o 20 (.lit 1 1 [z0] [(0,1,(.t 19))]),o 21 (.app 1 8 [z0] (.t 17) (.t 20)),oM 5 21]))) (.reg [oZ 22 13 1,oM 13 22])))))) (rg [oM 23 5,oM 4 23] .ret))))⟩
theorem Aeu:A2 Tryz.prog 45=some A9j:=by kernel_rfl
def eqS:Eqs elS:=⟨fun x y=>by
 show binG .eql (.str x) (.str y)=_
 simp only[Ah8],fun x y=>by
 show binG .neq (.str x) (.str y)=_
 simp only[Ah9],[.str ⟨#[]⟩],rfl⟩
theorem Ik:A2 Tryz.prog 77=some (P1 elS.p.z elS.g eqS.ze):=by kernel_rfl
theorem Du {U0 U:St} {rs:List Thg} {v:GV} {l:List ByteArray} (H:Hp U0 U rs) (k:Nat) (hk:rs[k]? =some (ow pS.kd v l)) (hl:l.length<=1099511627776):∃ v' N,Ret Tryz.prog 77 [v] U v' N/\Hp U0 N (rs.set k (ow pS.kd v' (B5 l))):=
 Abz eqS Ik H k hk hl
theorem A9k {l:List Live} {m:Bool} {o:ByteArray} {i:Nat} (hi:i<l.length):((l.take (i+1)).filter (Bf m o)).map (·.key)=if Bf m o l[i] then((l.take i).filter (Bf m o)).map (·.key)++[l[i].key] else((l.take i).filter (Bf m o)).map (·.key):=by
 rw[Fq hi]
 split<;>simp
theorem P5 (U:St) (cs:List GV) (s:State) (hR:Ab.R U s cs) (m:Bool) (o:ByteArray) (hl:A7 s<=1099511627776):∃ r N,Ret Tryz.prog 95 [.agg cs,.bool m,.str o] U r N/\Hp U N [ow pS.kd r (Ba s m o)]:=by
 obtain⟨a,b,c,v,rfl,_,_,hv,_⟩:=hR
 obtain⟨l1,l2,l3,l4,_⟩:=Aq hl
 refine Fp A97 (Z0z rfl) ?_
 have H:=((Hp.refl U).new 1 [a,b,c,v]).nil_str
 simp +contextual (disch:=omega) only[go_sem,A03]
 generalize hb:U.length=n1 at*
 refine Ht s.lives.length 8 0 (fun i env N=>env 1= .bool m/\env 2= .str o/\env 3= .ptr n1 0/\∃ w,env 7=w/\Hp U N [ow pS.kd w (A9 txLt (((s.lives.take i).filter (Bf m o)).map (·.key))),pt 1 n1 [a,b,c,v]]) (fun env N=>∃ w,env 7=w/\Hp U N [ow pS.kd w (Ba s m o)]) rfl ⟨rfl,rfl,rfl,_,rfl,H⟩ ?_ ?_ ?_
 ·clear H
  rintro J Yq hJ hY i env N hi e8 c0 ⟨e1,e2,e3,w,e7,H⟩
  have hfl:=C7 s.lives (Bf m o) i
  have hpl:=Ch txLt (((s.lives.take i).filter (Bf m o)).map (·.key))
  rw[Zac] at hpl
  have C1:=A3 (hv.pre H.sub) hi
  have hln:=(hv.pre H.sub).len
  have hks:=A9k (m:=m) (o:=o) hi
  cases hm:(s.lives[i].map==m) with
  |false=>
   have hk0:Bf m o s.lives[i]=false:=by simp[Bf,hm]
   rw[hk0,if_neg (by simp)] at hks
   simp +contextual (disch:=omega) only[go_sem,c0,e1,e2,e3,e7,e8,C1,A4 (H.pt 1 rfl),hln,hm,Zae]
   refine hJ _ _ _ ⟨?_,?_,?_,w,?_,by rw[hks];exact H⟩
   all_goals simp +contextual (disch:=omega) only[go_sem,e1,e2,e3,e7]
  |true=>
   cases ho:decide (s.lives[i].obj=o) with
   |false=>
    have hk0:Bf m o s.lives[i]=false:=by simp[Bf,hm,ho]
    rw[hk0,if_neg (by simp)] at hks
    simp +contextual (disch:=omega) only[go_sem,c0,e1,e2,e3,e7,e8,C1,A4 (H.pt 1 rfl),hln,hm,ho,Zae]
    refine hJ _ _ _ ⟨?_,?_,?_,w,?_,by rw[hks];exact H⟩
    all_goals simp +contextual (disch:=omega) only[go_sem,e1,e2,e3,e7]
   |true=>
    have hk0:Bf m o s.lives[i]=true:=by simp[Bf,hm,ho]
    rw[hk0,if_pos rfl] at hks
    obtain⟨w',N3,R3,H3⟩:=Ft s.lives[i].key H 0 rfl (by omega)
    simp +contextual (disch:=omega) only[go_sem,c0,e1,e2,e3,e7,e8,C1,A4 (H.pt 1 rfl),hln,hm,ho,Zae]
    refine Ak R3 ?_
    simp +contextual (disch:=omega) only[go_sem,e1,e2,e3,e7,e8]
    refine hJ _ _ _ ⟨?_,?_,?_,w',?_,?_⟩
    all_goals first|(simp +contextual (disch:=omega) only[go_sem,e1,e2,e3,e7];done)|skip
    rw[hks,J0]
    exact H3
 ·clear H
  rintro Yq hY env N e8 c0 ⟨e1,e2,e3,w,e7,H⟩
  rw[Zab] at H
  have hln:=(hv.pre H.sub).len
  simp +contextual (disch:=omega) only[go_sem,c0,e1,e2,e3,e7,e8,A4 (H.pt 1 rfl),hln]
  refine hY _ _ ⟨w,?_,H.one⟩
  simp +contextual (disch:=omega) only[go_sem,e7]
 ·clear H
  rintro env N ⟨w,e7,H⟩
  simp +contextual (disch:=omega) only[go_sem,e7]
  exact⟨_,rfl,H⟩
theorem Sg (U:St) (cs:List GV) (s:State) (hR:Ab.R U s cs) (m:Bool) (o:ByteArray) (hl:A7 s<=1099511627776):∃ r N,Ret Tryz.prog 78 [.agg cs,.bool m,.str o] U r N/\Hp U N [ow pS.kd r (Ba s m o)]:=by
 obtain⟨a,b,c,v,rfl,_,_,hv,_⟩:=hR
 obtain⟨l1,l2,l3,l4,_⟩:=Aq hl
 refine Fp Ac2 (Z0z rfl) ?_
 have H:=((Hp.refl U).new 1 [a,b,c,v]).nil_str
 simp +contextual (disch:=omega) only[go_sem,A3o,hv.len]
 generalize hb:U.length=n1 at*
 refine Ht s.lives.length 14 0 (fun i env N=>env 1= .bool m/\env 2= .str o/\env 12=c/\env 13=gi s.lives.length/\∃ w,env 7=w/\Hp U N [ow pS.kd w (((s.lives.take i).filter (Bf m o)).map (·.key)),pt 1 n1 [a,b,c,v]]) (fun env N=>∃ w,env 7=w/\Hp U N [ow pS.kd w ((s.lives.filter (Bf m o)).map (·.key)),pt 1 n1 [a,b,c,v]]) rfl ⟨rfl,rfl,rfl,rfl,_,rfl,H⟩ ?_ ?_ ?_
 ·clear H
  rintro J Yq hJ hY i env N hi e14 c0 ⟨e1,e2,e12,e13,w,e7,H⟩
  have hfl:=C7 s.lives (Bf m o) i
  have C1:=A3 (hv.pre H.sub) hi
  have G:=H.grow (pre1 N (some (Blk.row 1 [.bool s.lives[i].map,.str s.lives[i].obj,.str s.lives[i].key,gi s.lives[i].val,gi s.lives[i].dot.rep,gi s.lives[i].dot.seq])))
  have hks:=A9k (m:=m) (o:=o) hi
  cases hm:(s.lives[i].map==m) with
  |false=>
   have hk0:Bf m o s.lives[i]=false:=by simp[Bf,hm]
   rw[hk0,if_neg (by simp)] at hks
   simp +contextual (disch:=omega) only[go_sem,c0,e1,e2,e12,e13,e7,e14,C1,hm,Zae]
   refine hJ _ _ _ ⟨?_,?_,?_,?_,w,?_,by rw[hks];exact G⟩
   all_goals simp +contextual (disch:=omega) only[go_sem,e1,e2,e12,e13,e7]
  |true=>
   cases ho:decide (s.lives[i].obj=o) with
   |false=>
    have hk0:Bf m o s.lives[i]=false:=by simp[Bf,hm,ho]
    rw[hk0,if_neg (by simp)] at hks
    simp +contextual (disch:=omega) only[go_sem,c0,e1,e2,e12,e13,e7,e14,C1,hm,ho,Zae]
    refine hJ _ _ _ ⟨?_,?_,?_,?_,w,?_,by rw[hks];exact G⟩
    all_goals simp +contextual (disch:=omega) only[go_sem,e1,e2,e12,e13,e7]
   |true=>
    have hk0:Bf m o s.lives[i]=true:=by simp[Bf,hm,ho]
    rw[hk0,if_pos rfl] at hks
    obtain⟨w',N3,e8,H3⟩:=G.app_str 0 rfl s.lives[i].key (by rw[Zac];omega)
    simp +contextual (disch:=omega) only[go_sem,c0,e1,e2,e12,e13,e7,e14,C1,hm,ho,Zae,e8]
    refine hJ _ _ _ ⟨?_,?_,?_,?_,w',?_,?_⟩
    all_goals first|(simp +contextual (disch:=omega) only[go_sem,e1,e2,e12,e13,e7];done)|skip
    rw[hks]
    exact H3
 ·clear H
  rintro Yq hY env N e14 c0 ⟨e1,e2,e12,e13,w,e7,H⟩
  rw[Zab] at H
  simp +contextual (disch:=omega) only[go_sem,c0,e1,e2,e12,e13,e7,e14]
  refine hY _ _ ⟨w,?_,H⟩
  simp +contextual (disch:=omega) only[go_sem,e7]
 ·clear H
  rintro env N ⟨w,e7,H⟩
  have hfl:=Zad (Bf m o) s.lives
  generalize hK:(s.lives.filter (Bf m o)).map (·.key)=K at*
  have hKl:K.length<=1099511627776:=by rw[<- hK,Zac];omega
  obtain⟨N2,R2,H2⟩:=Fa H 0 rfl hKl
  simp +contextual (disch:=omega) only[go_sem,e7]
  refine Ak R2 ?_
  simp +contextual (disch:=omega) only[go_sem,e7]
  obtain⟨w3,N3,R3,H3⟩:=Du H2 0 rfl (by rw[De];exact hKl)
  refine Ak R3 ?_
  simp +contextual (disch:=omega) only[go_sem]
  refine⟨_,rfl,?_⟩
  have hE:B5 (Bh txLt K)=Ba s m o:=by
   rw[Ba,hK]
   exact Lt Kw Ot (Bu _ _) (Jw Kw _)
  rw[<- hE]
  exact H3.one
theorem Ac5 (U:St) (cs:List GV) (s:State) (hR:Ab.R U s cs) (o:ByteArray) (hl:A7 s<=1099511627776):∃ r N,Ret Tryz.prog 53 [.agg cs,.str o] U r N/\Hp U N [ow pS.kd r (Ba s false o)]:=by
 have hlen:cs.length=4:=Ab.len hR
 refine Fp Aep (Z0z rfl) ?_
 have H:=(Hp.refl U).new 1 cs
 simp +contextual (disch:=omega) only[go_sem,A99,Lf,Bk hlen]
 obtain⟨r,N,R,K⟩:=P5 _ cs s (Ab.pre hR H.sub) false o hl
 refine Ez R K ?_
 have H:=H.add K
 simp +contextual (disch:=omega) only[go_sem]
 exact⟨_,rfl,H.one⟩
theorem A9l (U:St) (cs:List GV) (s:State) (hR:Ab.R U s cs) (o:ByteArray) (hl:A7 s<=1099511627776):∃ r N,Ret Tryz.prog 54 [.agg cs,.str o] U r N/\Hp U N [ow pS.kd r (Ba s true o)]:=by
 have hlen:cs.length=4:=Ab.len hR
 refine Fp Ac3 (Z0z rfl) ?_
 have H:=(Hp.refl U).new 1 cs
 simp +contextual (disch:=omega) only[go_sem,A3q,Lf,Bk hlen]
 obtain⟨r,N,R,K⟩:=P5 _ cs s (Ab.pre hR H.sub) true o hl
 refine Ez R K ?_
 have H:=H.add K
 simp +contextual (disch:=omega) only[go_sem]
 exact⟨_,rfl,H.one⟩
theorem Ac6 (U:St) (cs:List GV) (s:State) (hR:Ab.R U s cs) (o:ByteArray) (hl:A7 s<=1099511627776):∃ r N,Ret Tryz.prog 42 [.agg cs,.str o] U r N/\Hp U N [ow pS.kd r (Ba s false o)]:=by
 have hlen:cs.length=4:=Ab.len hR
 refine Fp Aeq (Z0z rfl) ?_
 have H:=(Hp.refl U).new 1 cs
 simp +contextual (disch:=omega) only[go_sem,A9b,Lf,Bk hlen]
 obtain⟨r,N,R,K⟩:=Sg _ cs s (Ab.pre hR H.sub) false o hl
 refine Ez R K ?_
 have H:=H.add K
 simp +contextual (disch:=omega) only[go_sem]
 exact⟨_,rfl,H.one⟩
theorem A9m (U:St) (cs:List GV) (s:State) (hR:Ab.R U s cs) (o:ByteArray) (hl:A7 s<=1099511627776):∃ r N,Ret Tryz.prog 43 [.agg cs,.str o] U r N/\Hp U N [ow pS.kd r (Ba s true o)]:=by
 have hlen:cs.length=4:=Ab.len hR
 refine Fp Ac4 (Z0z rfl) ?_
 have H:=(Hp.refl U).new 1 cs
 simp +contextual (disch:=omega) only[go_sem,A3s,Lf,Bk hlen]
 obtain⟨r,N,R,K⟩:=Sg _ cs s (Ab.pre hR H.sub) true o hl
 refine Ez R K ?_
 have H:=H.add K
 simp +contextual (disch:=omega) only[go_sem]
 exact⟨_,rfl,H.one⟩
theorem Agm {l:List Live} {i:Nat} (hi:i<l.length):Bh ltI ((l.take (i+1)).map (·.val))=insB ltI l[i].val (Bh ltI ((l.take i).map (·.val))):=by
 rw[Zai hi,Zao,Zak,Zaw,Zg]
theorem Ac7 (U:St) (cs:List GV) (s:State) (hR:Ab.R U s cs) (o k:ByteArray) (hl:A7 s<=1099511627776):∃ r N,Ret Tryz.prog 55 [.agg cs,.str o,.str k] U r N/\Hp U N [ow pI.kd r (Qh s o k)]:=by
 have hR0:=hR
 obtain⟨a,b,c,v,rfl,_,_,hv,_⟩:=hR
 obtain⟨l1,l2,l3,l4,_⟩:=Aq hl
 refine Fp Aer (Z0z rfl) ?_
 have H:=((Hp.refl U).new 1 [a,b,c,v]).nil_int
 simp +contextual (disch:=omega) only[go_sem,A9d,Ji,Bk (cs:=[a,b,c,v]) rfl]
 obtain⟨r1,N1,R1,K1⟩:=A5r _ _ s (Ab.pre hR0 H.sub) true o k hl
 refine Ez R1 K1 ?_
 have H:=H.add K1
 simp only[Zar,Zau] at H
 generalize hL:Jx s true o k=L at*
 have hLl:L.length<=1099511627776:=by
  have:=Zad (C6 true o k) s.lives
  rw[<- hL];unfold Jx;omega
 simp +contextual (disch:=omega) only[go_sem]
 refine Ht L.length 9 0 (fun i env N=>env 8=r1/\∃ w n1,env 7=w/\Hp U N [ow pI.kd w (Bh ltI ((L.take i).map (·.val))),ow Dh.kd r1 L,pt 1 n1 [a,b,c,v]]) (fun env N=>∃ w,env 7=w/\Hp U N [ow pI.kd w (Bh ltI (L.map (·.val)))]) rfl ⟨rfl,_,_,rfl,(H.pick 1 rfl)⟩ ?_ ?_ ?_
 ·clear H
  rintro J Yq hJ hY i env N hi e9 c0 ⟨e8,w,n1,e7,H⟩
  have hlen:=(H.sl 1 rfl).len
  have hal:=De ltI ((L.take i).map (·.val))
  rw[Zac,Zah] at hal
  have hsn:=Agm hi
  generalize hacc:Bh ltI ((L.take i).map (·.val))=acc at*
  have H1:=H.nil_int
  simp +contextual (disch:=omega) only[go_sem,c0,e7,e8,e9,hlen]
  refine Ht acc.length 12 2 (fun j env N=>env 8=r1/\env 9=gi i/\env 7=w/\∃(u:GV) (put:Bool) (nxt:List Int),env 10=u/\env 11= .bool put/\insG ltI L[i].val acc nxt j put/\Hp U N [ow pI.kd u nxt,ow pI.kd w acc,ow Dh.kd r1 L,pt 1 n1 [a,b,c,v]]) (fun env N=>env 8=r1/\env 9=gi i/\env 7=w/\∃(u:GV) (put:Bool) (nxt:List Int),env 10=u/\env 11= .bool put/\insG ltI L[i].val acc nxt acc.length put/\Hp U N [ow pI.kd u nxt,ow pI.kd w acc,ow Dh.kd r1 L,pt 1 n1 [a,b,c,v]]) rfl ⟨by simp +contextual (disch:=omega) only[go_sem,e8],by simp +contextual (disch:=omega) only[go_sem,e9],by simp +contextual (disch:=omega) only[go_sem,e7],_,false,[],by simp +contextual (disch:=omega) only[go_sem],by simp +contextual (disch:=omega) only[go_sem],A5j,H1⟩ ?_ ?_ ?_
  ·clear e7 e8 e9 H H1
   rintro J2 Yq2 hJ2 hY2 j env N hj e12 c1 ⟨e8,e9,e7,u,put,nxt,e10,e11,hok,H⟩
   have hnl:=G9 hok
   have i1:=I3 (H.sl 1 rfl) hj
   have hlen:=(H.sl 1 rfl).len
   have C1:=A3 (H.sl 2 rfl) hi
   cases put with
   |true=>
    obtain⟨w',N3,e5,H3⟩:=H.app_int 0 rfl acc[j] (by omega)
    simp +contextual (disch:=omega) only[go_sem,c1,e7,e8,e9,e10,e11,e12,i1,hlen,e5]
    refine hJ2 _ _ _ ⟨?_,?_,?_,w',true,_,?_,?_,Id hok hj (.inl rfl),H3⟩
    all_goals simp +contextual (disch:=omega) only[go_sem,e7,e8,e9,e11]
   |false=>
    cases hlt:decide (L[i].val<acc[j]) with
    |false=>
     obtain⟨w',N3,e5,H3⟩:=H.app_int 0 rfl acc[j] (by omega)
     simp +contextual (disch:=omega) only[go_sem,c1,e7,e8,e9,e10,e11,e12,i1,hlen,C1,hlt,e5]
     refine hJ2 _ _ _ ⟨?_,?_,?_,w',false,_,?_,?_,Id hok hj (.inr hlt),H3⟩
     all_goals simp +contextual (disch:=omega) only[go_sem,e7,e8,e9,e11]
    |true=>
     obtain⟨w',N3,e5,H3⟩:=H.app_int 0 rfl L[i].val (by omega)
     have H3:Hp U N3 [ow pI.kd w' (nxt++[L[i].val]),ow pI.kd w acc,ow Dh.kd r1 L,pt 1 n1 [a,b,c,v]]:=H3
     have hp:=A5k hok hj hlt
     have hnl2:=G9 hp
     simp only[Zam,Zal,Zat] at hnl2
     have i2:=I3 (H3.sl 1 rfl) hj
     obtain⟨w2,N4,e6,H4⟩:=H3.app_int 0 rfl acc[j] (by simp;omega)
     simp +contextual (disch:=omega) only[go_sem,c1,e7,e8,e9,e10,e11,e12,i1,hlen,C1,hlt,e5,i2,e6]
     refine hJ2 _ _ _ ⟨?_,?_,?_,w2,true,_,?_,?_,hp,H4⟩
     all_goals simp +contextual (disch:=omega) only[go_sem,e7,e8,e9,e11]
  ·clear e7 e8 e9 H H1
   rintro Yq2 hY2 env N e12 c1 ⟨e8,e9,e7,u,put,nxt,e10,e11,hok,H⟩
   have hlen:=(H.sl 1 rfl).len
   simp +contextual (disch:=omega) only[go_sem,c1,e7,e8,e9,e10,e11,e12,hlen]
   refine hY2 _ _ ⟨?_,?_,?_,u,put,nxt,?_,?_,hok,H⟩
   all_goals simp +contextual (disch:=omega) only[go_sem,e7,e8,e9,e10,e11]
  ·clear e7 e8 e9 H H1
   rintro env N ⟨e8,e9,e7,u,put,nxt,e10,e11,hok,H⟩
   have hnl:=G9 hok
   have hend:=A5l hok
   have C1:=A3 (H.sl 2 rfl) hi
   cases put with
   |true=>
    simp +contextual (disch:=omega) only[go_sem,e7,e8,e9,e10,e11]
    refine hJ _ _ _ ⟨?_,u,n1,?_,?_⟩
    all_goals first|(simp +contextual (disch:=omega) only[go_sem,e7,e8,e9,e10,e11];done)|skip
    rw[hsn,<-hend]
    exact(H.pick 1 rfl).drop1
   |false=>
    obtain⟨w',N3,e5,H3⟩:=H.app_int 0 rfl L[i].val (by omega)
    simp +contextual (disch:=omega) only[go_sem,e7,e8,e9,e10,e11,C1,e5]
    refine hJ _ _ _ ⟨?_,w',n1,?_,?_⟩
    all_goals first|(simp +contextual (disch:=omega) only[go_sem,e7,e8,e9,e10,e11];done)|skip
    rw[hsn,<-hend]
    exact(H3.pick 1 rfl).drop1
 ·clear H
  rintro Yq hY env N e9 c0 ⟨e8,w,n1,e7,H⟩
  rw[Zab] at H
  have hlen:=(H.sl 1 rfl).len
  simp +contextual (disch:=omega) only[go_sem,c0,e7,e8,e9,hlen]
  refine hY _ _ ⟨w,?_,H.one⟩
  simp +contextual (disch:=omega) only[go_sem,e7]
 ·clear H
  rintro env N ⟨w,e7,H⟩
  simp +contextual (disch:=omega) only[go_sem,e7]
  exact⟨_,rfl,by rw[Qh,hL];exact H⟩
theorem Ac8 (U:St) (cs:List GV) (s:State) (hR:Ab.R U s cs) (o k:ByteArray) (hl:A7 s<=1099511627776):∃ r N,Ret Tryz.prog 44 [.agg cs,.str o,.str k] U r N/\Hp U N [ow pI.kd r (Qh s o k)]:=by
 have hR0:=hR
 obtain⟨a,b,c,v,rfl,_,_,hv,_⟩:=hR
 obtain⟨l1,l2,l3,l4,_⟩:=Aq hl
 refine Fp Aes (Z0z rfl) ?_
 have H:=((Hp.refl U).new 1 [a,b,c,v]).nil_int
 simp +contextual (disch:=omega) only[go_sem,A9f,Ji,Bk (cs:=[a,b,c,v]) rfl]
 obtain⟨r1,N1,R1,K1⟩:=A5s _ _ s (Ab.pre hR0 H.sub) true o k hl
 refine Ez R1 K1 ?_
 have H:=H.add K1
 simp only[Zar,Zau] at H
 generalize hL:Jx s true o k=L at*
 have hLl:L.length<=1099511627776:=by
  have:=Zad (C6 true o k) s.lives
  rw[<- hL];unfold Jx;omega
 have hlen0:=(H.sl 0 rfl).len
 simp +contextual (disch:=omega) only[go_sem,hlen0]
 refine Ht L.length 16 0 (fun i env N=>env 14=r1/\env 15=gi L.length/\∃ w n1,env 7=w/\Hp U N [ow pI.kd w ((L.take i).map (·.val)),ow Dh.kd r1 L,pt 1 n1 [a,b,c,v]]) (fun env N=>∃ w,env 7=w/\Hp U N [ow pI.kd w (L.map (·.val))]) rfl ⟨rfl,rfl,_,_,rfl,(H.pick 1 rfl)⟩ ?_ ?_ ?_
 ·clear H
  rintro J Yq hJ hY i env N hi e16 c0 ⟨e14,e15,w,n1,e7,H⟩
  have C1:=A3 (H.sl 1 rfl) hi
  have G:=H.grow (pre1 N (some (Blk.row 1 [.bool L[i].map,.str L[i].obj,.str L[i].key,gi L[i].val,gi L[i].dot.rep,gi L[i].dot.seq])))
  obtain⟨w',N3,e5,H3⟩:=G.app_int 0 rfl L[i].val (by simp;omega)
  simp +contextual (disch:=omega) only[go_sem,c0,e7,e14,e15,e16,C1,e5]
  refine hJ _ _ _ ⟨?_,?_,w',n1,?_,?_⟩
  all_goals first|(simp +contextual (disch:=omega) only[go_sem,e7,e14,e15,e16];done)|skip
  rw[Zai hi,Zao,Zak,Zaw]
  exact H3
 ·clear H
  rintro Yq hY env N e16 c0 ⟨e14,e15,w,n1,e7,H⟩
  rw[Zab] at H
  simp +contextual (disch:=omega) only[go_sem,c0,e7,e14,e15,e16]
  refine hY _ _ ⟨w,?_,H.one⟩
  simp +contextual (disch:=omega) only[go_sem,e7]
 ·clear H
  rintro env N ⟨w,e7,H⟩
  obtain⟨N2,R2,H2⟩:=M8 H 0 rfl (by simp;omega)
  simp +contextual (disch:=omega) only[go_sem,e7]
  refine Ak R2 ?_
  simp +contextual (disch:=omega) only[go_sem,e7]
  exact⟨_,rfl,by rw[Qh,hL];exact H2⟩
theorem Ac9 (U:St) (cs:List GV) (s:State) (hR:Ab.R U s cs) (o:ByteArray) (hl:A7 s<=1099511627776):∃ r N,Ret Tryz.prog 45 [.agg cs,.str o] U r N/\Hp U N [ow pI.kd r (M4 s o)]:=by
 have hlen:=Ab.len hR
 have hlen:cs.length=4:=hlen
 refine Fp Aeu (Z0z rfl) ?_
 have H:=((Hp.refl U).new 1 cs).nil_int
 simp +contextual (disch:=omega) only[go_sem,A9j,Lf,Ji,Bk hlen]
 obtain⟨r1,N1,R1,K1⟩:=A1d _ cs s (Ab.pre hR H.sub) o hl
 have hb:=Ad8 s o
 rw[M4]
 generalize rowL s o=T at*
 refine Ez R1 K1 ?_
 have H:=H.add K1
 simp only[Zar,Zau] at H
 have hlen0:=(H.sl 0 rfl).len
 simp +contextual (disch:=omega) only[go_sem,hlen0]
 generalize hn1:U.length=n1 at*
 refine Q5 T.length 13 (fun i env N=>env 11=r1/\env 12=gi T.length/\∃ u,env 5=u/\Hp U N [ow pI.kd u ((T.take i).map (·.val)),ow Al.kd r1 T,pt 1 n1 cs]) rfl ⟨rfl,rfl,_,rfl,H.pick 1 rfl⟩ ?_ ?_
 ·clear H
  rintro J hJ i env N hi e13 c0 ⟨e11,e12,u,e5,H⟩
  have C1:=A6 (H.sl 1 rfl) hi
  have G:=H.grow (pre1 N (some (Blk.row 1 (A8x T[i]))))
  obtain⟨w',N3,e8,H3⟩:=G.app_int 0 rfl T[i].val (by simp;omega)
  simp +contextual (disch:=omega) only[go_sem,c0,e5,e11,e12,e13,C1,e8]
  refine hJ _ _ _ ⟨?_,?_,w',?_,?_⟩
  all_goals first|(simp +contextual (disch:=omega) only[go_sem,e5,e11,e12,e13];done)|skip
  rw[Zai hi,Zao,Zak,Zaw]
  exact H3
 ·clear H
  rintro env N e13 c0 ⟨e11,e12,u,e5,H⟩
  rw[Zab] at H
  simp +contextual (disch:=omega) only[go_sem,c0,e5,e11,e12,e13]
  exact⟨_,rfl,H.one⟩
theorem Aca (U:St) (cs:List GV) (s:State) (hR:Ab.R U s cs) (o:ByteArray) (hl:A7 s<=1099511627776):∃ r N,Ret Tryz.prog 56 [.agg cs,.str o] U r N/\Hp U N [ow pI.kd r (M4 s o)]:=by
 have hlen:=Ab.len hR
 have hlen:cs.length=4:=hlen
 refine Fp Aet (Z0z rfl) ?_
 have H:=((Hp.refl U).new 1 cs).nil_int
 simp +contextual (disch:=omega) only[go_sem,A9h,Lf,Ji,Bk hlen]
 refine Ah (Oq _ _ s (Ab.pre hR H.sub) hl) (fun hok=> ?_) (fun hok=> ?_)
 rotate_left
 ·have e:M4 s o=[]:=by simp[M4,rowL,hok]
  simp +contextual (disch:=omega) only[go_sem]
  exact⟨_,rfl,by rw[e];exact H.one⟩
 have e:M4 s o=((rowC s o).filter Cn).map (·.val):=by simp only[M4,rowL,hok,if_true];rfl
 rw[e]
 simp +contextual (disch:=omega) only[go_sem,Lf,Ji,Bk hlen]
 obtain⟨r1,N1,R1,K1⟩:=A8z _ cs s (Ab.pre hR H.sub) o hok hl
 refine Ez R1 K1 ?_
 have H:=H.add K1
 simp only[Zar,Zau] at H
 have hb:=Ow (Qg hok) o
 generalize rowC s o=T at*
 simp +contextual (disch:=omega) only[go_sem]
 generalize hn1:U.length=n1 at*
 refine Q5 T.length 7 (fun i env N=>env 6=r1/\∃ u,env 5=u/\Hp U N [ow pI.kd u (((T.take i).filter Cn).map (·.val)),ow Al.kd r1 T,pt 1 n1 cs]) rfl ⟨rfl,_,rfl,H.pick 1 rfl⟩ ?_ ?_
 ·clear H
  rintro J hJ i env N hi e7 c0 ⟨e6,u,e5,H⟩
  have hfl:=C7 T Cn i
  have hsn:=A91 hi
  have C1:=A6 (H.sl 1 rfl) hi
  have hln:=(H.sl 1 rfl).len
  cases hg:T[i].gone with
  |true=>
   have hk0:Cn T[i]=false:=by simp[Cn,hg]
   rw[hk0,if_neg (by simp)] at hsn
   simp +contextual (disch:=omega) only[go_sem,c0,e5,e6,e7,hln,C1,hg]
   refine hJ _ _ _ ⟨?_,u,?_,by rw[hsn];exact H⟩
   all_goals simp +contextual (disch:=omega) only[go_sem,e5,e6,e7]
  |false=>
   have hk0:Cn T[i]=true:=by simp[Cn,hg]
   rw[hk0,if_pos rfl] at hsn
   obtain⟨w',N3,e8,H3⟩:=H.app_int 0 rfl T[i].val (by simp;omega)
   simp +contextual (disch:=omega) only[go_sem,c0,e5,e6,e7,hln,C1,hg,e8]
   refine hJ _ _ _ ⟨?_,w',?_,?_⟩
   all_goals first|(simp +contextual (disch:=omega) only[go_sem,e5,e6,e7];done)|skip
   rw[hsn,Zao,Zak,Zaw]
   exact H3
 ·clear H
  rintro env N e7 c0 ⟨e6,u,e5,H⟩
  rw[Zab] at H
  have hln:=(H.sl 1 rfl).len
  simp +contextual (disch:=omega) only[go_sem,c0,e5,e6,e7,hln]
  exact⟨_,rfl,H.one⟩
theorem A5v (s:State) (o k:ByteArray):(Qh s o k).length<=A7 s:=by
 have h2:(Jx s true o k).length<=s.lives.length:=Zad _ _
 have h3:s.lives.length<=A7 s:=by unfold A7;omega
 rw[Qh,De,Zac];omega
theorem A5w (s:State) (o:ByteArray):(M4 s o).length<=1200120:=by
 rw[M4,Zac];exact Ad8 s o
def A05:Fn1:=⟨5,[.t 2],(rg [o 2 (.mov (.k s0))] (rg [oM 3 0,oC 4 68 3,oM 2 4] .ret))⟩
theorem A9n:A2 Tryz.prog 34=some A05:=by kernel_rfl
def Adc:Fn1:=⟨25,[.t 4],(rg [o 4 (.mov (.k s0))] (rg [o 8 (.lit 1 0 [] []),oM 5 8] (.seq (rg [oM 9 0,oN 10 9,oV 11 (ki 0)] (oH 0 (rg [oB 12 .lss 11 10] (.seq (oJ 12 0) (.seq (.blk 1 (rg [oI 13 1 9 11,oL 14 13,oM 7 14] (.reg [oM 15 5,oM 16 7,o 17 (.mm true (.t 16) (ki 0)),oC 18 34 17,o 19 (.lit 1 1 [s0] [(0,1,(.t 18))]),o 20 (.app 1 16 [s0] (.t 15) (.t 19)),oM 5 20]))) (.reg [oZ 21 11 1,oM 11 21])))))) (rg [oM 22 5,oM 23 1,oD 24 67 22 23,oM 4 24] .ret))))⟩
theorem Agn:A2 Tryz.prog 33=some Adc:=by kernel_rfl
def mx0 (n:Int):Int:=if(0:Int)>n then 0 else n
theorem A9o (n:Int):0<=mx0 n:=by unfold mx0;split<;>omega
theorem A9p {n m:Int} (h:n<=m) (h0:0<=m):mx0 n<=m:=by unfold mx0;split<;>omega
def B4 (l:List Int):List ByteArray:=l.map fun n=>itB (mx0 n)
def tolB (l:List Int) (sep:ByteArray):ByteArray:=joB (B4 l) sep
theorem Fu (b:ByteArray):b.data.toList.length=b.size:=by rw[Za2];rfl
theorem Dw {n:Int} (h0:0<=n) (h1:n<=9223372036854775807):(itB n).size<=21:=by
 have:=Lib.itoa_length_le n (by omega) h1
 have e:=Fu (itB n)
 have e2:(itB n).data.toList=Lib.itoa n:=by simp[itB]
 rw[e2] at e;omega
theorem Fk {l:List Int} (h:∀ x∈l,x≤9223372036854775807):∀ s∈B4 l,s.size<=21:=fun s hs=>by
 obtain⟨n,hn,rfl⟩:=Zap.1 hs
 exact Dw (A9o n) (A9p (h n hn) (by omega))
theorem Ak4 {l:List ByteArray} {b:Nat} (h:∀ x∈l,x.size<=b):Lib.lens (l.map (·.data.toList))<=l.length*b:=by
 induction l with
 |nil=>simp[Lib.lens]
 |cons x l ih=>
  have h1:=ih fun y hy=>h y (Zay _ hy)
  have h2:=h x Za5
  have e:=Fu x
  simp only[Lib.lens,Zak,List.sum_cons,Zal,Nat.add_mul,Nat.one_mul] at h1 ⊢
  omega
theorem Acb {l:List ByteArray} {sep:ByteArray} {b:Nat} (h:∀ x∈l,x.size<=b):(Lib.join (l.map (·.data.toList)) sep.data.toList).length<=l.length*(b+sep.size):=by
 cases l with
 |nil=>simp[Lib.join_nil]
 |cons x l=>
  have h1:=Ak4 (l:=l) fun y hy=>h y (Zay _ hy)
  have h2:=h x Za5
  have e:=Fu x
  have e2:=Fu sep
  rw[Zak,Lib.join_cons,Zam,Lib.joinTail_length,Zac,Zal,Nat.add_mul,Nat.mul_add,Nat.mul_comm sep.data.toList.length]
  rw[e2]
  omega
theorem P6 (l:List ByteArray) (sep:ByteArray):(joB l sep).data.toList=Lib.join (l.map (·.data.toList)) sep.data.toList:=by simp[joB]
theorem Aht {l:List ByteArray} {sep:ByteArray} {b:Nat} (h:∀ x∈l,x.size<=b):(joB l sep).size<=l.length*(b+sep.size):=by
 rw[<- Fu,P6];exact Acb h
theorem D9 {a b:ByteArray} (h:a.data.toList=b.data.toList):a=b:=ByteArray.ext (Array.ext' h)
theorem Fm (a b:ByteArray):(a++b).data.toList=a.data.toList++b.data.toList:=by rw[ByteArray.data_append,Array.toList_append]
theorem Qm (x sep:ByteArray):joB [x] sep=x:=D9 (by rw[P6];simp[Lib.join_one])
theorem A5x {l:List ByteArray} (hl:l≠[]) (x sep:ByteArray):joB (l++[x]) sep=joB l sep++sep++x:=by
 cases l with
 |nil=>exact absurd rfl hl
 |cons y l=>
  refine D9 ?_
  rw[Fm,Fm,P6,P6,Zar,Zak,Zak,Lib.join_cons,Lib.join_cons,Zao]
  simp[Lib.joinTail]
theorem Gc (U:St) (n:Int) (h0: -9223372036854775808<=n) (h1:n<=9223372036854775807):Ret Tryz.prog 34 [gi n] U (.str (itB n)) U:=by
 refine I6 A9n (Z0z rfl) trivial ?_
 simp +contextual (disch:=omega) only[go_sem,A05]
 refine by_r (Hx.refl U) (Ahk U n h0 h1) ?_
 simp +contextual (disch:=omega) only[go_sem]
theorem Ma {l:List Int} {i:Nat} (h:i<l.length):B4 (l.take (i+1))=B4 (l.take i)++[itB (mx0 l[i])]:=Og h
theorem A3t (U:St) (v:GV) (l:List Int) (hR:RS pI.kd U v l) (sep:ByteArray) (hs:sep.size<=8) (hI:∀ x∈l,x≤9223372036854775807) (hl:l.length<=1099511627776):Ret Tryz.prog 33 [v,.str sep] U (.str (tolB l sep)) U:=by
 refine I6 Agn (Z0z rfl) trivial ?_
 simp +contextual (disch:=omega) only[go_sem,Adc,hR.len]
 intro n f N H
 have H:=H.emp pS.kd rfl
 refine C3 l.length 11 0 (fun i env h=>env 1= .str sep/\env 9=v/\env 10=gi l.length/\∃ u,env 5=u/\h=[.th (ow pS.kd u (B4 (l.take i)))]) (fun env h=>env 1= .str sep/\∃ u,env 5=u/\h=[.th (ow pS.kd u (B4 l))]) (fun env h=>False) _ H (by simp +contextual (disch:=omega) only[go_sem]) ⟨by simp +contextual (disch:=omega) only[go_sem],by simp +contextual (disch:=omega) only[go_sem],by simp +contextual (disch:=omega) only[go_sem],_,by simp +contextual (disch:=omega) only[go_sem],rfl⟩ ?_ ?_ ?_ (fun _ _ _ _ h=>h.elim)
 ·rintro J Yq Wq hJ hY hW i env h N hi ei c0 H ⟨e1,e9,e10,u,e5,rfl⟩
  have L1:=I3 (hR.pre H.sub) hi
  have hx:=hI _ (Zaj hi)
  have hmx:(if (0:Int)>l[i] then 0 else l[i])=mx0 l[i]:=rfl
  simp +contextual (disch:=omega) only[go_sem,c0,e1,e9,e10,e5,ei,A1,Eo H L1.2,L1,hmx]
  have m0:=A9o l[i]
  have m1:=A9p hx (by omega)
  refine by_r H (Gc N (mx0 l[i]) (by omega) m1) ?_
  simp +contextual (disch:=omega) only[go_sem,e5]
  intro n f N2 H2
  refine Q9 (p:=pS) H2 1 rfl (itB (mx0 l[i])) Q8 (by decide) (by rw[B4,Zac,Zah];omega) fun w' N4 H4=> ?_
  simp +contextual (disch:=omega) only[go_sem,e1,e9,e10,ei]
  exact hJ _ _ _ _ (H4.re [1] (by decide)) ⟨by simp +contextual (disch:=omega) only[go_sem,e1],by simp +contextual (disch:=omega) only[go_sem,e9],by simp +contextual (disch:=omega) only[go_sem,e10],w',by simp +contextual (disch:=omega) only[go_sem],by rw[Ma hi];rfl⟩
 ·rintro Yq hY env h N ei c0 H ⟨e1,e9,e10,u,e5,rfl⟩
  rw[Zab] at H
  simp +contextual (disch:=omega) only[go_sem,c0,e10,ei]
  exact hY _ _ _ H ⟨by simp +contextual (disch:=omega) only[go_sem,e1],u,by simp +contextual (disch:=omega) only[go_sem,e5],rfl⟩
 ·rintro env h N H ⟨e1,u,e5,rfl⟩
  obtain⟨fp,ho,_⟩:=H.hp.see (i:=0) rfl
  simp +contextual (disch:=omega) only[go_sem,e1,e5]
  have hn:(B4 l).length=l.length:=by simp[B4]
  have hj:=Acb (l:=B4 l) (sep:=sep) (Fk hI)
  refine by_r H (Ad1 N u (B4 l) fp ho sep (by omega) (by
   have:(B4 l).length*(21+sep.size)<=1099511627776*29:=Zbb (by omega) (by omega)
   omega)) ?_
  simp +contextual (disch:=omega) only[go_sem]
  exact fun _=>rfl
def P8:Fn1:=⟨12,[.t 2],(rg [o 2 (.mov (.k (.int .u8 0)))] (.seq (rg [oM 3 0,oE 4 .lss 3 10] (oG 4 (rg [oM 5 0,o 6 (.bin .add (ki 48) (.t 5)),o 7 (.cvi .u8 (.t 6)),oM 2 7] .ret))) (rg [oM 8 0,o 9 (.bin .add (ki 97) (.t 8)),oE 10 .sub 9 10,o 11 (.cvi .u8 (.t 10)),oM 2 11] .ret)))⟩
theorem A1e:A2 Tryz.prog 94=some P8:=by kernel_rfl
def Mb:Fn1:=⟨30,[.t 2],(rg [o 2 (.mov (.k s0))] (.seq (rg [oM 6 0,oE 7 .eql 6 0] (oG 7 (rg [o 2 (.mov (.k (.str ⟨#[48]⟩)))] .ret))) (rg [oM 8 0,oE 9 .lss 8 0,oM 3 9] (rg [o 4 (.mov (.k s0))] (.seq (oH 0 (.seq (rg [oM 10 0,oE 11 .neq 10 0] (oJ 11 0)) (.blk 1 (rg [oM 12 0,oE 13 .rem 12 10,oM 5 13] (.seq (rg [oM 14 5,oE 15 .lss 14 0] (oG 15 (.reg [oM 16 5,o 17 (.un .neg (.t 16)),oM 5 17]))) (rg [oM 18 5,oC 19 94 18,o 20 (.lit 1 1 [(.int .u8 0)] [(0,1,(.t 19))]),o 21 (.bts (.t 20)),oM 22 4,oB 23 .add 21 22,oM 4 23] (.reg [oM 24 0,oE 25 .quo 24 10,oM 0 25]))))))) (.seq (rg [oM 26 3] (oG 26 (rg [oM 27 4,o 28 (.bin .add (.k (.str ⟨#[45]⟩)) (.t 27)),oM 2 28] .ret))) (rg [oM 29 4,oM 2 29] .ret)))))))⟩
theorem A9q:A2 Tryz.prog 51=some Mb:=by kernel_rfl
theorem A07 (U:St) (d:Nat) (hd:d<10):Ret Tryz.prog 94 [gi d] U (.int .u8 (48+d)) U:=by
 have c1:decide ((d:Int)<10)=true:=decide_eq_true (by omega)
 have hw:IntKind.u8.wrap (48+(d:Int))=48+(d:Int):=wrap8 (by omega) (by omega)
 refine I6 A1e (Z0z rfl) trivial ?_
 simp +contextual (disch:=omega) only[go_sem,P8,c1,hw]
def ddL (k:Nat):List UInt8:=if k=0 then[] else Lib.decDigits k
theorem Ahu {k:Nat} (h:k≠0):ddL k=ddL (k / 10)++[UInt8.ofNat (48+k % 10)]:=by
 unfold ddL
 rw[if_neg h,Lib.decDigits]
 by_cases h1:k<10
 ·rw[dif_pos h1,if_pos (by omega),Nat.mod_eq_of_lt h1];rfl
 ·rw[dif_neg h1,if_neg (by omega)]
theorem Add {Y:Type} {x y:Y}:(if (10:Int)=0 then x else y)=y:=by rw[if_neg (by omega)]
theorem tmod10 (k:Nat):(k:Int).tmod 10=((k % 10:Nat):Int):=by rw[Int.tmod_eq_emod_of_nonneg (by omega)];omega
theorem tdiv10 (k:Nat):(k:Int).tdiv 10=((k / 10:Nat):Int):=by rw[Int.tdiv_eq_ediv_of_nonneg (by omega)];omega
theorem Acc (u:Nat):(itB u).data.toList=Lib.decDigits u:=by simp[itB,Lib.itoa_nonneg]
theorem Ade:itB 0=⟨#[48]⟩:=D9 (by have:=Acc 0;rw[Za1] at this;rw[this,Lib.decDigits_one (by omega)];rfl)
theorem Ak5 (d:Nat):(txt [48+(d:Int)]).data.toList=[UInt8.ofNat (48+d)]:=by
 have:(48+(d:Int)).toNat=48+d:=by omega
 simp[txt,this]
theorem Ey (U:St) (u:Nat) (h1:u<=9223372036854775807):Ret Tryz.prog 51 [gi u] U (.str (itB u)) U:=by
 refine I6 A9q (Z0z rfl) trivial ?_
 by_cases h0:u=0
 ·subst h0
  simp +contextual (disch:=omega) only[go_sem,Mb,Za1,beq_self_eq_true]
  exact fun _=>Ade.symm
 have c0:((u:Int)==0)=false:=by simpa using h0
 have c1:decide ((u:Int)<0)=false:=decide_eq_false (by omega)
 have hd:(Lib.decDigits u).length<=21:=by
  have:=Dw (n:=u) (by omega) (by omega)
  rw[<- Fu,Acc] at this;exact this
 simp +contextual (disch:=omega) only[go_sem,Mb,c0,c1]
 refine V9 u 0 (fun k env h=>k<=u/\env 0=gi k/\env 3= .bool false/\(∃ t,env 4= .str t/\ddL k++t.data.toList=Lib.decDigits u)/\h=[]) (fun env h=>env 3= .bool false/\env 4= .str (itB u)) (fun env h=>False) _ (Hx.refl U) ⟨Zaa _,by simp +contextual (disch:=omega) only[go_sem],by simp +contextual (disch:=omega) only[go_sem],⟨⟨#[]⟩,by simp +contextual (disch:=omega) only[go_sem],by simp[ddL,h0]⟩,rfl⟩ ?_ ?_ (fun _ _ _ _ h=>h.elim)
 ·rintro J Yq Wq hJ hY hW k env h N H ⟨hk,e0,e3,⟨t,e4,ht⟩,rfl⟩
  have hts:t.size<=21:=by
   rw[<- Fu]
   have:=congrArg List.length ht
   rw[Zam] at this;omega
  by_cases hz:k=0
  ·subst hz
   simp +contextual (disch:=omega) only[go_sem,e0,Za1,bne_self_eq_false]
   refine hY _ _ _ H ⟨by simp +contextual (disch:=omega) only[go_sem,e3],?_⟩
   simp +contextual (disch:=omega) only[go_sem,e4]
   refine D9 ?_
   rw[Acc,<-ht];rfl
  ·have b1:((k:Int) != 0)=true:=by simpa using hz
   have b2:decide (((k % 10:Nat):Int)<0)=false:=decide_eq_false (by omega)
   simp +contextual (disch:=omega) only[go_sem,e0,b1,Add,tmod10,b2]
   refine by_r H (A07 N (k % 10) (by omega)) ?_
   simp +contextual (disch:=omega) only[go_sem]
   intro n f N2 H2
   have hu:=u8_at (A25 (p:=pB) (x:=48+((k % 10:Nat):Int)) (H2.hp.pt 0 rfl))
   have hsz:(txt [48+((k % 10:Nat):Int)]).size+t.size<=9223372036854775807:=by rw[Ahf];simp;omega
   simp +contextual (disch:=omega) only[go_sem,hu,e4,e0,hsz,Add,tdiv10]
   refine⟨k / 10,by omega,hJ _ _ _ _ (H2.re [] (by decide)) ⟨by omega,by simp +contextual (disch:=omega) only[go_sem],by simp +contextual (disch:=omega) only[go_sem,e3],⟨txt [48+((k % 10:Nat):Int)]++t,by simp +contextual (disch:=omega) only[go_sem],?_⟩,rfl⟩⟩
   rw[Fm,Ak5,<-Za7,<-Ahu hz];exact ht
 ·rintro env h N H ⟨e3,e4⟩
  simp +contextual (disch:=omega) only[go_sem,e3,e4]
theorem A08 (b:ByteArray):(⟨#[]⟩:ByteArray)++b=b:=D9 (by rw[Fm];rfl)
def stI (s:State):Prop:=(∀ x∈s.lives,x.val<=9223372036854775807)/\∀ x∈s.cells,x.val<=9223372036854775807
theorem A09 {s:State} (h:stI s) (o k:ByteArray):∀ x∈Qh s o k,x≤9223372036854775807:=fun x hx=>by
 unfold Qh at hx
 obtain⟨y,hy,rfl⟩:=Zap.1 ((Bu _ _).mem_iff.1 hx)
 exact h.1 y (Zav.1 hy).1
theorem A0a {s:State} (h:stI s) (o:ByteArray):∀ x∈M4 s o,x≤9223372036854775807:=fun x hx=>by
 obtain⟨c,hc,rfl⟩:=Zap.1 hx
 obtain⟨T,_,h2,_,h4⟩:=rowT s o
 rw[h2] at hc
 obtain⟨k,hk,_,e⟩:=h4 c (Zav.1 hc).1
 exact h.2 c (e ▸ Zaj hk)
theorem P9 (s:State) (o:ByteArray):∀ x∈[C5 s o],x≤9223372036854775807:=fun x hx=>by
 have:=Zo (l:=s.tallies) (o:=o) (n:=0) (by decide)
 rw[Za6] at hx
 subst hx
 unfold C5;omega
theorem Pa {s:State} {n:Nat} (h:A7 s<=n) (m:Bool) (o:ByteArray):∀ x∈Ba s m o,x.size<=n:=fun x hx=>by
 have:=((M3 (lt:=txLt) (fun x y z=>Ge) Ot _).2 x).1 hx
 obtain⟨l,hl,rfl⟩:=Zap.1 this
 have h6:l.obj.size+l.key.size<=sumL Bl s.lives:=B8 (f:=Bl) (Zav.1 hl).1
 unfold A7 at h;omega
theorem sz1 {a:UInt8}:(#[a]:Array UInt8).size=1:=rfl
section
variable {Y:Type} {d:En Y} {U N:St} {v:GV} {l:List Y}
end
def SPtr (U0 N:St) (g:Nat) (s:State) (rest:List Thg):Prop:=∃ v0 v1 v2 v3,Hp U0 N (ow pI.kd v0 s.know::ow E7.kd v1 s.tallies::ow Dh.kd v2 s.lives::ow Al.kd v3 s.cells::pt 1 g [v0,v1,v2,v3]::rest)
theorem SPtr.own {U N:St} {rs:List Thg} {x:State} {g:Nat} (H:SPtr U N g x rs):∃ v0 v1 v2 v3,rdB N g=some [v0,v1,v2,v3]/\lenG false v1=some (x.tallies.length:Int)/\lenG false v2=some (x.lives.length:Int)/\lenG false v3=some (x.cells.length:Int)/\Hp U N (own Ab [v0,v1,v2,v3] x::rs):=by
 obtain⟨v0,v1,v2,v3,H⟩:=H
 refine⟨v0,v1,v2,v3,H.pt 4 rfl,(H.sl 1 rfl).len,(H.sl 2 rfl).len,(H.sl 3 rfl).len,?_⟩
 exact Hp.ownState ((H.pick 4 rfl).drop1)
structure OkS (s:State):Prop where
 kn:okK s.know=true
 tl:s.tallies.Pairwise fun a b=>Di a b=true
 t1:∀ t∈s.tallies,tal1 t=true
 tn:s.tallies.length<=120
 ll:s.lives.Pairwise fun a b=>Cp a.dot b.dot=true
 l1:∀ x∈s.lives,Gm s.know x.dot=true/\liv1 x=true
 ln:s.lives.length<=120
 cl:s.cells.Pairwise fun a b=>Cp a.dot b.dot=true
 c1:∀ x∈s.cells,Gm s.know x.dot=true/\cel1 x=true
 cn:s.cells.length<=120
 rf:∀ c∈s.cells,c.ref=d0∨∃ y∈s.cells,y.dot=c.ref/\y.obj=c.obj/\y.time<c.time
theorem A5y {Y:Type} {lt:Y->Y->Bool} {l:List Y} (h:l.Pairwise fun a b=>lt a b=true) (i:Nat) (hi:i<l.length):upI lt l i=true:=by
 by_cases h0:i=0
 ·subst h0;rfl
 ·rw[Jp h0 hi (by omega)]
  exact Zan.1 h (i - 1) i (by omega) hi (by omega)
theorem Hv {Y:Type} {l:List Y} {p:Y->Bool}:(∀ i,i<l.length->onI l i p=true)↔∀ x∈l,p x=true:=by
 constructor
 ·intro h x hx
  obtain⟨i,hi,rfl⟩:=Zas hx
  have:=h i hi
  rwa [C4 hi] at this
 ·intro h i hi
  rw[C4 hi];exact h _ (Zaj hi)
theorem Ahv {l:List Cell} (h:l.Pairwise fun a b=>Cp a.dot b.dot=true) {x y:Cell} (hx:x∈l) (hy:y∈l) (e:x.dot=y.dot):x=y:=by
 obtain⟨i,hi,rfl⟩:=Zas hx
 obtain⟨j,hj,rfl⟩:=Zas hy
 rcases Nat.lt_trichotomy i j with h1|h1|h1
 ·have:=Zan.1 h i j hi hj h1
  rw[e,Jo] at this;cases this
 ·subst h1;rfl
 ·have:=Zan.1 h j i hj hi h1
  rw[e,Jo] at this;cases this
theorem Aev {l:List Cell} (h:l.Pairwise fun a b=>Cp a.dot b.dot=true) {y:Cell} (hy:y∈l):∃ k,F8 l y.dot=some k/\∃ hk:k<l.length,l[k]=y:=by
 cases hc:F8 l y.dot with
 |none=>
  exfalso
  have:=List.findIdx?_eq_none_iff.1 hc y hy
  simp at this
 |some k=>
  obtain⟨hk,e⟩:=E1 hc
  exact⟨k,rfl,hk,Ahv h (Zaj hk) hy e⟩
theorem Acd {s:State}:Cf s=true↔OkS s:=by
 unfold Cf
 simp only[Zag]
 constructor
 ·rintro⟨h1,h2,h3,h4,h5⟩
  have hc:=Abf h4
  have hl:=Ahm h3
  simp only[I7,Zag,Dc,talP,decide_eq_true_eq] at h2
  simp only[Lq,Zag,Dc,livP,decide_eq_true_eq] at h3
  simp only[Jq,Zag,Dc,celP,decide_eq_true_eq] at h4
  refine {kn:=h1,tl:=A5b (lt:=Di) (fun a b c=>Age.trans a b c) fun i hi=>(h2.1 i hi).2,t1:=Hv.1 fun i hi=>(h2.1 i hi).1,tn:=h2.2,ll:=hl,l1:=fun x hx=>⟨Hv.1 (fun i hi=>(h3.1 i hi).1) x hx,Hv.1 (fun i hi=>(h3.1 i hi).2.1) x hx⟩,ln:=h3.2,cl:=hc,c1:=fun x hx=>⟨Hv.1 (fun i hi=>(h4.1 i hi).1) x hx,Hv.1 (fun i hi=>(h4.1 i hi).2.1) x hx⟩,cn:=h4.2,rf:=fun c hcm=> ?_}
  have:=Zax.1 h5 c hcm
  unfold ref1 at this
  simp only[Za9,decide_eq_true_eq] at this
  refine this.imp (fun h=>h) fun h=> ?_
  split at h
  ·cases h
  ·rename_i k hk
   obtain⟨hkl,e⟩:=E1 hk
   rw[C4 hkl] at h
   simp only[Zag,decide_eq_true_eq] at h
   exact⟨_,Zaj hkl,e,h.1,h.2⟩
 ·intro h
  refine⟨h.kn,?_,?_,?_,?_⟩
  ·simp only[I7,Zag,Dc,talP,decide_eq_true_eq]
   exact⟨fun i hi=>⟨Hv.2 h.t1 i hi,A5y h.tl i hi⟩,h.tn⟩
  ·simp only[Lq,Zag,Dc,livP,decide_eq_true_eq]
   exact⟨fun i hi=>⟨Hv.2 (fun x hx=>(h.l1 x hx).1) i hi,Hv.2 (fun x hx=>(h.l1 x hx).2) i hi,A5y (lt:=Ha) h.ll i hi⟩,h.ln⟩
  ·simp only[Jq,Zag,Dc,celP,decide_eq_true_eq]
   exact⟨fun i hi=>⟨Hv.2 (fun x hx=>(h.c1 x hx).1) i hi,Hv.2 (fun x hx=>(h.c1 x hx).2) i hi,A5y (lt:=J7) h.cl i hi⟩,h.cn⟩
  ·refine Zax.2 fun c hc=> ?_
   unfold ref1
   simp only[Za9,decide_eq_true_eq]
   refine(h.rf c hc).imp (fun h=>h) fun⟨y,hy,e1,e2,e3⟩=> ?_
   obtain⟨k,hk,hkl,ek⟩:=Aev h.cl hy
   rw[<- e1,hk]
   simp only
   rw[C4 hkl,ek]
   simp[e2,e3]
structure Fits (s:State) (a:Act):Prop where
 dot:Ix a.dot=true
 seq:a.dot.seq=at0 s.know a.dot.rep+1
 new:Gm s.know a.dot=false
 kn:okK (s.know.set a.dot.rep.toNat a.dot.seq)=true
 mono:∀ d,Gm s.know d=true->Gm (s.know.set a.dot.rep.toNat a.dot.seq) d=true
 self:Gm (s.know.set a.dot.rep.toNat a.dot.seq) a.dot=true
theorem OkS.time {s:State} (h:OkS s):∀ c∈s.cells,1≤c.time/\c.time<=10000:=fun c hc=>by
 have:=(h.c1 c hc).2
 simp only[cel1,Zag,Xw] at this
 exact this.2.2
def Qn:Fn1:=⟨7,[.t 2],(rg [o 2 (.mov (.k s0))] (.seq (rg [oM 3 0,oE 4 .lss 3 0] (oG 4 (rg [o 2 (.mov (.k (.str ⟨#[48]⟩)))] .ret))) (rg [oM 5 0,oC 6 51 5,oM 2 6] .ret)))⟩
theorem Ace:A2 Tryz.prog 57=some Qn:=by kernel_rfl
def A0c:Fn1:=⟨21,[.t 2],(rg [o 2 (.mov (.k s0))] (rg [o 3 (.mov (.k s0))] (.seq (rg [oV 4 (ki 0)] (oH 0 (.seq (rg [oM 5 4,oM 6 0,oN 7 6,oB 8 .lss 5 7] (oJ 8 0)) (.seq (.blk 1 (.reg [oM 11 3,o 12 (.bin .add (.t 11) (.k (.str ⟨#[32]⟩))),oM 13 0,oM 14 4,oI 15 1 13 14,oL 16 15,oC 17 57 16,oB 18 .add 12 17,oM 3 18])) (.reg [oM 9 4,oZ 10 9 1,oM 4 10]))))) (rg [oM 19 3,o 20 (.bin .add (.t 19) (.k (.str ⟨#[10]⟩))),oM 2 20] .ret))))⟩
theorem A9r:A2 Tryz.prog 49=some A0c:=by kernel_rfl
def A3w:Fn1:=⟨6,[.t 2],(rg [o 2 (.mov (.k s0))] (rg [oM 3 0,o 4 (.call 67 [(.t 3),(.k (.str ⟨#[32]⟩))]),o 5 (.bin .add (.t 4) (.k (.str ⟨#[10]⟩))),oM 2 5] .ret))⟩
theorem Acf:A2 Tryz.prog 35=some A3w:=by kernel_rfl
def K8:Fn1:=⟨25,[.t 4],(rg [o 4 (.mov (.k .nilS))] (rg [o 8 (.lit 1 0 [] []),oM 9 1,o 10 (.app 1 16 [s0] (.t 8) (.t 9)),oM 5 10] (.seq (rg [oM 11 0,oN 12 11,oV 13 (ki 0)] (oH 0 (rg [oB 14 .lss 13 12] (.seq (oJ 14 0) (.seq (.blk 1 (rg [oI 15 1 11 13,oL 16 15,oM 7 16] (.reg [oM 17 5,oM 18 7,o 19 (.lit 1 1 [z0] [(0,1,(.t 18))]),o 20 (.call 33 [(.t 19),(.k s0)]),o 21 (.lit 1 1 [s0] [(0,1,(.t 20))]),o 22 (.app 1 16 [s0] (.t 17) (.t 21)),oM 5 22]))) (.reg [oZ 23 13 1,oM 13 23])))))) (rg [oM 24 5,oM 4 24] .ret))))⟩
theorem Sz:A2 Tryz.prog 39=some K8:=by kernel_rfl
def A0e:Fn1:=⟨7,[.t 2],(rg [o 2 (.mov (.k .nilS))] (rg [oM 3 0,oC 4 76 3] (rg [oM 5 0,oC 6 77 5,oM 2 6] .ret)))⟩
theorem A9s:A2 Tryz.prog 40=some A0e:=by kernel_rfl
def La (l:List Int):ByteArray:=catS ((B4 l).map fun x=>⟨#[32]⟩++x)++⟨#[10]⟩
def Pb (ws:List ByteArray):ByteArray:=joB ws ⟨#[32]⟩++⟨#[10]⟩
theorem A0f (b:ByteArray):b++(⟨#[]⟩:ByteArray)=b:=D9 (by rw[Fm];exact Zba _)
theorem Ago (b:List ByteArray):∀ x:ByteArray,b.foldl (· ++·) x=x++catS b:=by
 induction b with
 |nil=>intro x;exact(A0f x).symm
 |cons y b ih=>
  intro x
  have h2:=ih (⟨#[]⟩++y)
  rw[List.foldl_cons,ih]
  show x++y++catS b=x++b.foldl (· ++·) (⟨#[]⟩++y)
  rw[h2,A08,ByteArray.append_assoc]
theorem Pc (x:ByteArray) (l:List ByteArray):catS (x::l)=x++catS l:=by
 show l.foldl (· ++·) (⟨#[]⟩++x)=_
 rw[Ago,A08]
theorem Acg (l:List ByteArray) (sep:ByteArray):∀ {pre:List ByteArray},pre≠[]->joB (pre++l) sep=joB pre sep++catS (l.map fun x=>sep++x):=by
 induction l with
 |nil=>intro pre _;rw[Zba];exact(A0f _).symm
 |cons x l ih=>
  intro pre h
  have e:pre++x::l=(pre++[x])++l:=by simp
  rw[e,ih (by simp),A5x h,Zak,Pc,ByteArray.append_assoc,ByteArray.append_assoc,ByteArray.append_assoc]
theorem Pd {pre:List ByteArray} (h:pre≠[]) (l:List Int):Pb (pre++B4 l)=joB pre ⟨#[32]⟩++La l:=by
 rw[Pb,Acg _ _ h,La,ByteArray.append_assoc]
theorem Sh (U:St) (n:Int) (h1:n<=9223372036854775807):Ret Tryz.prog 57 [gi n] U (.str (itB (mx0 n))) U:=by
 refine I6 Ace (Z0z rfl) trivial ?_
 cases c:decide (n<0) with
 |true=>
  have h:=of_decide_eq_true c
  have hm:mx0 n=0:=by unfold mx0;rw[if_pos (by omega)]
  simp +contextual (disch:=omega) only[go_sem,Qn,c,hm,Ade]
 |false=>
  have h:=of_decide_eq_false c
  obtain⟨u,rfl⟩:∃ u:Nat,n=u:=⟨n.toNat,by omega⟩
  have hm:mx0 (u:Int)=u:=by unfold mx0;rw[if_neg (by omega)]
  simp +contextual (disch:=omega) only[go_sem,Qn,c,hm]
  refine by_r (Hx.refl U) (Ey U u (by omega)) ?_
  simp +contextual (disch:=omega) only[go_sem,hm]
theorem Ach (x:ByteArray):(⟨#[32]⟩++x:ByteArray).size=1+x.size:=by rw[ByteArray.size_append];rfl
theorem A5z {l:List Int} (hI:∀ x∈l,x≤9223372036854775807):(catS ((B4 l).map fun x=>⟨#[32]⟩++x)).size<=l.length*22:=by
 have:=A8k (l:=(B4 l).map fun x=>⟨#[32]⟩++x) (k:=22) fun s hs=>by
  obtain⟨x,hx,rfl⟩:=Zap.1 hs
  have:=Fk hI x hx
  rw[Ach];omega
 have e:((B4 l).map fun x=>⟨#[32]⟩++x).length=l.length:=by simp[B4]
 rw[e] at this;exact this
theorem Fl {l:List Int} (hI:∀ x∈l,x≤9223372036854775807):(La l).size<=l.length*22+1:=by
 have:=A5z hI
 have h2:(⟨#[10]⟩:ByteArray).size=1:=rfl
 rw[La,ByteArray.size_append];omega
theorem J5 (U:St) (v:GV) (l:List Int) (hR:RS pI.kd U v l) (hI:∀ x∈l,x≤9223372036854775807) (hl:l.length<=1099511627776):Ret Tryz.prog 49 [v] U (.str (La l)) U:=by
 refine I6 A9r (Z0z rfl) trivial ?_
 simp +contextual (disch:=omega) only[go_sem,A0c]
 refine C3 l.length 4 0 (fun i env h=>env 0=v/\env 3= .str (catS ((B4 (l.take i)).map fun x=>⟨#[32]⟩++x))/\h=[]) (fun env h=>env 3= .str (catS ((B4 l).map fun x=>⟨#[32]⟩++x))) (fun env h=>False) _ (Hx.refl U) (by simp +contextual (disch:=omega) only[go_sem]) ⟨by simp +contextual (disch:=omega) only[go_sem],by simp +contextual (disch:=omega) only[go_sem];rfl,rfl⟩ ?_ ?_ ?_ (fun _ _ _ _ h=>h.elim)
 ·rintro J Yq Wq hJ hY hW i env h N hi ei c0 H ⟨e0,e3,rfl⟩
  have L1:=I3 hR hi
  have hx:=hI _ (Zaj hi)
  have hT:=A5z (l:=l.take i) fun x hx=>hI x (Zaz hx)
  have hle:(l.take i).length<=l.length:=by rw[Zah];omega
  have hT2:(l.take i).length*22<=1099511627776*22:=Zbb (by omega) (by omega)
  have hn:catS ((B4 (l.take (i+1))).map fun x=>⟨#[32]⟩++x)=catS ((B4 (l.take i)).map fun x=>⟨#[32]⟩++x)++(⟨#[32]⟩++itB (mx0 l[i])):=by rw[Ma hi,Zao,Zak,Zaw,Xz]
  have hm:=Dw (A9o l[i]) (A9p hx (by omega))
  generalize catS ((B4 (l.take i)).map fun x=>⟨#[32]⟩++x)=T at*
  have b1:T.size+(#[32]:Array UInt8).size<=9223372036854775807:=by rw[sz1];omega
  have b2:T.size+(#[32]:Array UInt8).size+(itB (mx0 l[i])).size<=9223372036854775807:=by rw[sz1];omega
  simp +contextual (disch:=omega) only[go_sem,c0,e0,e3,ei,hR.len,A1,L1,b1]
  refine by_r H (Sh N l[i] hx) ?_
  simp +contextual (disch:=omega) only[go_sem,e0,e3,ei,ByteArray.size_append,b2]
  exact hJ _ _ _ _ H ⟨by simp +contextual (disch:=omega) only[go_sem,e0],by rw[hn];simp +contextual (disch:=omega) only[go_sem,ByteArray.append_assoc],rfl⟩
 ·rintro Yq hY env h N ei c0 H ⟨e0,e3,rfl⟩
  rw[Zab] at e3
  simp +contextual (disch:=omega) only[go_sem,c0,e0,ei,hR.len]
  exact hY _ _ _ H (by simp +contextual (disch:=omega) only[go_sem,e3])
 ·rintro env h N H e3
  have hT:=A5z hI
  have b1:(catS ((B4 l).map fun x=>⟨#[32]⟩++x)).size+(#[10]:Array UInt8).size<=9223372036854775807:=by rw[sz1];omega
  simp +contextual (disch:=omega) only[go_sem,e3,b1]
  exact fun _=>rfl
theorem Eb (U:St) (v:GV) (l:List ByteArray) (fp:List Nat) (hO:OS pS.kd U l v fp) (b:Nat) (hb:∀ x∈l,x.size<=b) (hj:l.length*(b+1)<=140737488355328) (hN:l.length<=1099511627776):Ret Tryz.prog 35 [v] U (.str (Pb l)) U:=by
 have h1:=Acb (sep:=⟨#[32]⟩) hb
 have e1:(⟨#[32]⟩:ByteArray).size=1:=rfl
 rw[e1] at h1
 refine I6 Acf (Z0z rfl) trivial ?_
 simp +contextual (disch:=omega) only[go_sem,A3w]
 refine by_r (Hx.refl U) (Ad1 U v l fp hO ⟨#[32]⟩ (by omega) (by omega)) ?_
 have b1:(joB l ⟨#[32]⟩).size+(#[10]:Array UInt8).size<=9223372036854775807:=by rw[sz1,<-Fu,P6];omega
 simp +contextual (disch:=omega) only[go_sem,b1]
 exact fun _=>rfl
theorem Dg (U:St) (v:GV) (l:List Int) (hR:RS pI.kd U v l) (u:GV) (pre:List ByteArray) (hU:RS pS.kd U u pre) (hI:∀ x∈l,x≤9223372036854775807) (hl:l.length<=1099511627776) (hp:pre.length<=1099511627776):∃ r N,Ret Tryz.prog 39 [v,u] U r N/\Hp U N [ow pS.kd r (pre++B4 l)]:=by
 refine Mt Sz (Z0z rfl) (Hx.refl U) ?_
 simp +contextual (disch:=omega) only[go_sem,K8]
 intro n f N H
 refine by_cp (p:=pS) H (hU.pre H.sub) (by decide) (by omega) fun w N2 H2=> ?_
 simp +contextual (disch:=omega) only[go_sem,(hR.pre H2.sub).len]
 refine C3 l.length 13 0 (fun i env h=>env 11=v/\env 12=gi l.length/\∃ w,env 5=w/\h=[.th (ow pS.kd w (pre++B4 (l.take i)))]) (fun env h=>∃ w,env 5=w/\h=[.th (ow pS.kd w (pre++B4 l))]) (fun env h=>False) _ H2 (by simp +contextual (disch:=omega) only[go_sem]) ⟨by simp +contextual (disch:=omega) only[go_sem],by simp +contextual (disch:=omega) only[go_sem],w,by simp +contextual (disch:=omega) only[go_sem],by simp[B4]⟩ ?_ ?_ ?_ (fun _ _ _ _ h=>h.elim)
 ·clear H H2
  rintro J Yq Wq hJ hY hW i env h N hi ei c0 H ⟨e11,e12,w,e5,rfl⟩
  have L1:=I3 (hR.pre H.sub) hi
  have hx:=hI _ (Zaj hi)
  simp +contextual (disch:=omega) only[go_sem,c0,e11,e12,e5,ei,A1,Eo H L1.2,L1]
  intro n3 f3 N3 H3
  refine by_r H3 (A3t N3 _ [l[i]] (A25 (p:=pI) (H3.hp.pt 0 rfl)) ⟨#[]⟩ (by decide) (fun x hx'=>by rw[Za6] at hx';subst hx';exact hx) (by simp)) ?_
  simp +contextual (disch:=omega) only[go_sem,e5]
  intro n4 f4 N4 H4
  have e1:tolB [l[i]] ⟨#[]⟩=itB (mx0 l[i]):=Qm _ _
  refine Q9 (p:=pS) H4 2 rfl (tolB [l[i]] ⟨#[]⟩) Q8 (by decide) (by rw[Zam,B4,Zac,Zah];omega) fun w' N5 H5=> ?_
  simp +contextual (disch:=omega) only[go_sem,e11,e12,ei]
  exact hJ _ _ _ _ (H5.re [2] (by decide)) ⟨by simp +contextual (disch:=omega) only[go_sem,e11],by simp +contextual (disch:=omega) only[go_sem,e12],w',by simp +contextual (disch:=omega) only[go_sem],by rw[Ma hi,<-Za7,<-e1];rfl⟩
 ·rintro Yq hY env h N ei c0 H ⟨e11,e12,w,e5,rfl⟩
  rw[Zab] at H
  simp +contextual (disch:=omega) only[go_sem,c0,e12,ei]
  exact hY _ _ _ H ⟨w,by simp +contextual (disch:=omega) only[go_sem,e5],rfl⟩
 ·rintro env h N H ⟨w,e5,rfl⟩
  simp +contextual (disch:=omega) only[go_sem,e5]
  exact fun H=>⟨w,rfl,H⟩
theorem Gd {U0 U:St} {h:List Item} {v:GV} {l:List ByteArray} (H:Hx U0 U h) (k:Nat) (hk:h[k]? =some (.th (ow pS.kd v l))) (hl:l.length<=1099511627776):∃ r N,Ret Tryz.prog 40 [v] U r N/\Hx U0 N (h.set k (.th (ow pS.kd r (A9 txLt l)))):=by
 refine Mt A9s (Z0z rfl) H ?_
 simp +contextual (disch:=omega) only[go_sem,A0e]
 obtain⟨N2,R2,H2⟩:=Fa H.hp k (at_t hk) hl
 rw[<- Ae2] at H2
 refine by_m R2 H2 ?_
 simp +contextual (disch:=omega) only[go_sem]
 have hk2:(h.set k (.th (ow pS.kd v (Bh txLt l))))[k]? =some (.th (ow pS.kd v (Bh txLt l))):=by rw[List.getElem?_set_self (Zaq.1 hk).1]
 obtain⟨w3,N3,R3,H3⟩:=Du H2 k (at_t hk2) (by rw[De];exact hl)
 rw[<- Ae2,List.set_set] at H3
 refine by_m R3 H3 ?_
 simp +contextual (disch:=omega) only[go_sem]
 have hE:B5 (Bh txLt l)=A9 txLt l:=Lt Kw Ot (Bu _ _) (Jw Kw _)
 rw[hE]
 exact fun H=>⟨_,rfl,H⟩
def Gq:Fn1:=⟨79,[.t 4],(rg [oX 2 0,o 4 (.mov (.k .nilS))] (rg [o 9 (.lit 1 0 [] []),oM 5 9] (.seq (rg [oM 10 1,oE 11 .eql 10 0] (oG 11 (rg [oV 6 (ki 0)] (oH 0 (.seq (rg [oM 12 6,oF 13 1 2,oL 14 13,oN 15 14,oB 16 .lss 12 15] (oJ 16 0)) (.seq (.blk 1 (.reg [oM 19 5,oF 20 1 2,oL 21 20,oM 22 6,oI 23 3 21 22,oF 24 0 23,oL 25 24,oD 26 93 19 25,oM 5 26])) (.reg [oM 17 6,oZ 18 17 1,oM 6 18]))))))) (.seq (rg [oV 7 (ki 0)] (oH 2 (.seq (rg [oM 27 7,oF 28 2 2,oL 29 28,oN 30 29,oB 31 .lss 27 30,oM 32 31,jM 33 32 1,jE 34 32 .eql 33 1,jM 35 32 34,vM 36 35 1,vE 37 35 .eql 36 2,og 38 32 true (.pick (.t 35) kt (.t 37)),oQ 39 32 38] (oJ 39 2)) (.seq (.blk 3 (rg [oF 42 2 2,oL 43 42,oM 44 7,oI 45 6 43 44,oF 46 0 45,oL 47 46,oM 48 1,oE 49 .eql 48 2,o 50 (.eqb false (.t 47) (.t 49))] (oG 50 (.reg [oM 51 5,oF 52 2 2,oL 53 52,oM 54 7,oI 55 6 53 54,oF 56 1 55,oL 57 56,oD 58 93 51 57,oM 5 58])))) (.reg [oM 40 7,oZ 41 40 1,oM 7 41]))))) (.seq (rg [oV 8 (ki 0)] (oH 4 (.seq (rg [oM 59 8,oF 60 3 2,oL 61 60,oN 62 61,oB 63 .lss 59 62,oM 64 63,jM 65 64 1,jE 66 64 .eql 65 3,oQ 67 64 66] (oJ 67 4)) (.seq (.blk 5 (.reg [oM 70 5,oF 71 3 2,oL 72 71,oM 73 8,oI 74 8 72 73,oF 75 0 74,oL 76 75,oD 77 93 70 76,oM 5 77])) (.reg [oM 68 8,oZ 69 68 1,oM 8 69]))))) (rg [oM 78 5,oM 4 78] .ret))))))⟩
theorem Hk:A2 Tryz.prog 50=some Gq:=by kernel_rfl
def E5 (s:State):List ByteArray:=s.tallies.map (·.obj)
def Bc (s:State) (m:Bool):List ByteArray:=(s.lives.filter fun x=>x.map==m).map (·.obj)
def E6 (s:State):List ByteArray:=s.cells.map (·.obj)
theorem Adf {Y:Type} {f:Y->ByteArray} {l:List Y} {i:Nat} (hi:i<l.length):A9 txLt ((l.take (i+1)).map f)=putU txLt (f l[i]) (A9 txLt ((l.take i).map f)):=by rw[Og hi,J0]
theorem Agp {Y:Type} {f:Y->ByteArray} {l:List Y} {i n:Nat} (hl:l.length<=n):(A9 txLt ((l.take i).map f)).length<=n:=by
 have:=Ch txLt ((l.take i).map f)
 rw[Zac,Zah] at this;omega
theorem A60 {s:State} {m:Bool} {i:Nat} (hi:i<s.lives.length) (h:(s.lives[i].map==m)=true):((s.lives.take (i+1)).filter fun x=>x.map==m).map (·.obj)=((s.lives.take i).filter fun x=>x.map==m).map (·.obj)++[s.lives[i].obj]:=by rw[flt_t hi h,Zao];rfl
theorem A61 {s:State} {m:Bool} {i:Nat} (hi:i<s.lives.length) (h:(s.lives[i].map==m)=false):((s.lives.take (i+1)).filter fun x=>x.map==m).map (·.obj)=((s.lives.take i).filter fun x=>x.map==m).map (·.obj):=by rw[flt_f hi h]
theorem A9t {s:State} {m:Bool} {i n:Nat} (hl:s.lives.length<=n):(A9 txLt (((s.lives.take i).filter fun x=>x.map==m).map (·.obj))).length<=n:=by
 have:=Ch txLt (((s.lives.take i).filter fun x=>x.map==m).map (·.obj))
 rw[Zac] at this
 have h2:=Zad (fun x:Live=>x.map==m) (s.lives.take i)
 rw[Zah] at h2;omega
theorem A1f (U:St) (cs:List GV) (s:State) (hR:Ab.R U s cs) (hl:A7 s<=1099511627776):∃ r N,Ret Tryz.prog 50 [.agg cs,gi 0] U r N/\Hp U N [ow pS.kd r (A9 txLt (E5 s))]:=by
 obtain⟨a,b,c,v,rfl,ha,hb,hc,hv⟩:=hR
 obtain⟨l1,l2,l3,l4,_⟩:=Aq hl
 refine Mt Hk (Z0z rfl) (Hx.refl U) ?_
 simp +contextual (disch:=omega) only[go_sem,Gq]
 intro n f N _ n2 f2 N2 H
 have H:=H.emp pS.kd rfl
 try simp +contextual (disch:=omega) only[go_sem,beq_self_eq_true,show((1:Int)==0)=false from rfl,show((2:Int)==0)=false from rfl,show((3:Int)==0)=false from rfl]
 refine C3 s.tallies.length 6 0 (fun i env h=>env 1=gi 0/\env 2= .ptr n 0/\∃ u,env 5=u/\h=[.th (ow pS.kd u (A9 txLt ((s.tallies.take i).map (·.obj)))),.box 1 n [a,b,c,v]]) (fun env h=>env 1=gi 0/\env 2= .ptr n 0/\∃ u,env 5=u/\h=[.th (ow pS.kd u (A9 txLt (E5 s))),.box 1 n [a,b,c,v]]) (fun env h=>False) _ H (by simp +contextual (disch:=omega) only[go_sem]) ⟨by simp +contextual (disch:=omega) only[go_sem],by simp +contextual (disch:=omega) only[go_sem],_,by simp +contextual (disch:=omega) only[go_sem],rfl⟩ ?_ ?_ ?_ (fun _ _ _ _ h=>h.elim)
 ·clear H
  rintro J Yq Wq hJ hY hW i env h N hi ei c0 H ⟨e1,e2,u,e5,rfl⟩
  have L1:=Aa hb hi
  have L2:=hb.len
  obtain⟨u',N3,R3,K3⟩:=Ft s.tallies[i].obj H.hp 0 rfl (Agp (by omega))
  simp +contextual (disch:=omega) only[go_sem,c0,e1,e2,e5,ei,A1,L2,L1,beq_self_eq_true,show(true==false)=false from rfl,show(false==true)=false from rfl,show(true==true)=true from rfl,show(false==false)=true from rfl,show(false ^^ true)=true from rfl,show(false ^^ false)=false from rfl,show((0:Int)==1)=false from rfl,show((0:Int)==2)=false from rfl,show((0:Int)==3)=false from rfl,beq_self_eq_true]
  refine A4p 0 R3 K3 fun H3=> ?_
  simp +contextual (disch:=omega) only[go_sem,e1,e2,ei]
  exact hJ _ _ _ _ H3 ⟨by simp +contextual (disch:=omega) only[go_sem,e1],by simp +contextual (disch:=omega) only[go_sem,e2],u',by simp +contextual (disch:=omega) only[go_sem],by rw[Adf hi];rfl⟩
 ·clear H
  rintro Yq hY env h N ei c0 H ⟨e1,e2,u,e5,rfl⟩
  have L2:=hb.len
  rw[Zab] at H
  simp +contextual (disch:=omega) only[go_sem,c0,e1,e2,e5,ei,L2]
  exact hY _ _ _ H ⟨by simp +contextual (disch:=omega) only[go_sem,e1],by simp +contextual (disch:=omega) only[go_sem,e2],u,by simp +contextual (disch:=omega) only[go_sem,e5],rfl⟩
 clear H
 rintro env h N H ⟨e1,e2,u,e5,rfl⟩
 simp +contextual (disch:=omega) only[go_sem,e1,e2,e5]
 refine V9 0 2 (fun _ env h=>env 1=gi 0/\env 2= .ptr n 0/\env 7=gi 0/\∃ u,env 5=u/\h=[.th (ow pS.kd u (A9 txLt (E5 s))),.box 1 n [a,b,c,v]]) (fun env h=>env 1=gi 0/\env 2= .ptr n 0/\∃ u,env 5=u/\h=[.th (ow pS.kd u (A9 txLt (E5 s))),.box 1 n [a,b,c,v]]) (fun env h=>False) _ H ⟨by simp +contextual (disch:=omega) only[go_sem,e1,e2,e5],by simp +contextual (disch:=omega) only[go_sem,e1,e2,e5],by simp +contextual (disch:=omega) only[go_sem,e1,e2,e5],_,by simp +contextual (disch:=omega) only[go_sem,e1,e2,e5],rfl⟩ ?_ ?_ (fun _ _ _ _ h=>h.elim)
 ·clear H
  rintro J Yq Wq hJ hY hW i env h N H ⟨e1,e2,e7,u,e5,rfl⟩
  have L2:=hc.len
  cases c0:decide ((0:Int)<s.lives.length) with
  |true=>
   simp +contextual (disch:=omega) only[go_sem,c0,e1,e2,e5,e7,L2,show(true==false)=false from rfl,show(false==true)=false from rfl,show(true==true)=true from rfl,show(false==false)=true from rfl,show(false ^^ true)=true from rfl,show(false ^^ false)=false from rfl,show((0:Int)==1)=false from rfl,show((0:Int)==2)=false from rfl,show((0:Int)==3)=false from rfl,beq_self_eq_true]
   exact hY _ _ _ H ⟨by simp +contextual (disch:=omega) only[go_sem,e1],by simp +contextual (disch:=omega) only[go_sem,e2],u,by simp +contextual (disch:=omega) only[go_sem,e5],rfl⟩
  |false=>
   simp +contextual (disch:=omega) only[go_sem,c0,e1,e2,e5,e7,L2,show(true==false)=false from rfl,show(false==true)=false from rfl,show(true==true)=true from rfl,show(false==false)=true from rfl,show(false ^^ true)=true from rfl,show(false ^^ false)=false from rfl,show((0:Int)==1)=false from rfl,show((0:Int)==2)=false from rfl,show((0:Int)==3)=false from rfl,beq_self_eq_true]
   exact hY _ _ _ H ⟨by simp +contextual (disch:=omega) only[go_sem,e1],by simp +contextual (disch:=omega) only[go_sem,e2],u,by simp +contextual (disch:=omega) only[go_sem,e5],rfl⟩
 clear H
 rintro env h N H ⟨e1,e2,u,e5,rfl⟩
 simp +contextual (disch:=omega) only[go_sem,e1,e2,e5]
 refine V9 0 4 (fun _ env h=>env 1=gi 0/\env 2= .ptr n 0/\env 8=gi 0/\∃ u,env 5=u/\h=[.th (ow pS.kd u (A9 txLt (E5 s))),.box 1 n [a,b,c,v]]) (fun env h=>env 1=gi 0/\env 2= .ptr n 0/\∃ u,env 5=u/\h=[.th (ow pS.kd u (A9 txLt (E5 s))),.box 1 n [a,b,c,v]]) (fun env h=>False) _ H ⟨by simp +contextual (disch:=omega) only[go_sem,e1,e2,e5],by simp +contextual (disch:=omega) only[go_sem,e1,e2,e5],by simp +contextual (disch:=omega) only[go_sem,e1,e2,e5],_,by simp +contextual (disch:=omega) only[go_sem,e1,e2,e5],rfl⟩ ?_ ?_ (fun _ _ _ _ h=>h.elim)
 ·clear H
  rintro J Yq Wq hJ hY hW i env h N H ⟨e1,e2,e8,u,e5,rfl⟩
  have L2:=hv.len
  cases c0:decide ((0:Int)<s.cells.length) with
  |true=>
   simp +contextual (disch:=omega) only[go_sem,c0,e1,e2,e5,e8,L2,show(true==false)=false from rfl,show(false==true)=false from rfl,show(true==true)=true from rfl,show(false==false)=true from rfl,show(false ^^ true)=true from rfl,show(false ^^ false)=false from rfl,show((0:Int)==1)=false from rfl,show((0:Int)==2)=false from rfl,show((0:Int)==3)=false from rfl,beq_self_eq_true]
   exact hY _ _ _ H ⟨by simp +contextual (disch:=omega) only[go_sem,e1],by simp +contextual (disch:=omega) only[go_sem,e2],u,by simp +contextual (disch:=omega) only[go_sem,e5],rfl⟩
  |false=>
   simp +contextual (disch:=omega) only[go_sem,c0,e1,e2,e5,e8,L2,show(true==false)=false from rfl,show(false==true)=false from rfl,show(true==true)=true from rfl,show(false==false)=true from rfl,show(false ^^ true)=true from rfl,show(false ^^ false)=false from rfl,show((0:Int)==1)=false from rfl,show((0:Int)==2)=false from rfl,show((0:Int)==3)=false from rfl,beq_self_eq_true]
   exact hY _ _ _ H ⟨by simp +contextual (disch:=omega) only[go_sem,e1],by simp +contextual (disch:=omega) only[go_sem,e2],u,by simp +contextual (disch:=omega) only[go_sem,e5],rfl⟩
 rintro env h N H ⟨e1,e2,u,e5,rfl⟩
 simp +contextual (disch:=omega) only[go_sem,e5]
 exact fun H=>⟨u,rfl,H.re [0] (by decide)⟩
theorem A1g (U:St) (cs:List GV) (s:State) (hR:Ab.R U s cs) (hl:A7 s<=1099511627776):∃ r N,Ret Tryz.prog 50 [.agg cs,gi 1] U r N/\Hp U N [ow pS.kd r (A9 txLt (Bc s false))]:=by
 obtain⟨a,b,c,v,rfl,ha,hb,hc,hv⟩:=hR
 obtain⟨l1,l2,l3,l4,_⟩:=Aq hl
 refine Mt Hk (Z0z rfl) (Hx.refl U) ?_
 simp +contextual (disch:=omega) only[go_sem,Gq]
 intro n f N _ n2 f2 N2 H
 have H:=H.emp pS.kd rfl
 try simp +contextual (disch:=omega) only[go_sem,beq_self_eq_true,show((1:Int)==0)=false from rfl,show((2:Int)==0)=false from rfl,show((3:Int)==0)=false from rfl]
 refine C3 s.lives.length 7 2 (fun i env h=>env 1=gi 1/\env 2= .ptr n 0/\∃ u,env 5=u/\h=[.th (ow pS.kd u (A9 txLt (((s.lives.take i).filter fun x=>x.map==false).map (·.obj)))),.box 1 n [a,b,c,v]]) (fun env h=>env 1=gi 1/\env 2= .ptr n 0/\∃ u,env 5=u/\h=[.th (ow pS.kd u (A9 txLt (Bc s false))),.box 1 n [a,b,c,v]]) (fun env h=>False) _ H (by simp +contextual (disch:=omega) only[go_sem]) ⟨by simp +contextual (disch:=omega) only[go_sem],by simp +contextual (disch:=omega) only[go_sem],_,by simp +contextual (disch:=omega) only[go_sem],rfl⟩ ?_ ?_ ?_ (fun _ _ _ _ h=>h.elim)
 ·clear H
  rintro J Yq Wq hJ hY hW i env h N hi ei c0 H ⟨e1,e2,u,e5,rfl⟩
  have L1:=A3 hc hi
  have L2:=hc.len
  cases hm:s.lives[i].map with
  |false=>
   obtain⟨u',N3,R3,K3⟩:=Ft s.lives[i].obj H.hp 0 rfl (A9t (by omega))
   simp +contextual (disch:=omega) only[go_sem,c0,e1,e2,e5,ei,A1,L2,L1,hm,show(true==false)=false from rfl,show(false==true)=false from rfl,show(true==true)=true from rfl,show(false==false)=true from rfl,show(false ^^ true)=true from rfl,show(false ^^ false)=false from rfl,show((1:Int)==0)=false from rfl,show((1:Int)==2)=false from rfl,show((1:Int)==3)=false from rfl,beq_self_eq_true]
   refine A4p 0 R3 K3 fun H3=> ?_
   simp +contextual (disch:=omega) only[go_sem,e1,e2,ei]
   exact hJ _ _ _ _ H3 ⟨by simp +contextual (disch:=omega) only[go_sem,e1],by simp +contextual (disch:=omega) only[go_sem,e2],u',by simp +contextual (disch:=omega) only[go_sem],by rw[A60 hi (by rw[hm];rfl),J0];rfl⟩
  |true=>
   simp +contextual (disch:=omega) only[go_sem,c0,e1,e2,e5,ei,A1,L2,L1,hm,show(true==false)=false from rfl,show(false==true)=false from rfl,show(true==true)=true from rfl,show(false==false)=true from rfl,show(false ^^ true)=true from rfl,show(false ^^ false)=false from rfl,show((1:Int)==0)=false from rfl,show((1:Int)==2)=false from rfl,show((1:Int)==3)=false from rfl,beq_self_eq_true]
   exact hJ _ _ _ _ H ⟨by simp +contextual (disch:=omega) only[go_sem,e1],by simp +contextual (disch:=omega) only[go_sem,e2],u,by simp +contextual (disch:=omega) only[go_sem,e5],by rw[A61 hi (by rw[hm];rfl)]⟩
 ·clear H
  rintro Yq hY env h N ei c0 H ⟨e1,e2,u,e5,rfl⟩
  have L2:=hc.len
  rw[Zab] at H
  simp +contextual (disch:=omega) only[go_sem,c0,e1,e2,e5,ei,L2]
  exact hY _ _ _ H ⟨by simp +contextual (disch:=omega) only[go_sem,e1],by simp +contextual (disch:=omega) only[go_sem,e2],u,by simp +contextual (disch:=omega) only[go_sem,e5],rfl⟩
 clear H
 rintro env h N H ⟨e1,e2,u,e5,rfl⟩
 simp +contextual (disch:=omega) only[go_sem,e1,e2,e5]
 refine V9 0 4 (fun _ env h=>env 1=gi 1/\env 2= .ptr n 0/\env 8=gi 0/\∃ u,env 5=u/\h=[.th (ow pS.kd u (A9 txLt (Bc s false))),.box 1 n [a,b,c,v]]) (fun env h=>env 1=gi 1/\env 2= .ptr n 0/\∃ u,env 5=u/\h=[.th (ow pS.kd u (A9 txLt (Bc s false))),.box 1 n [a,b,c,v]]) (fun env h=>False) _ H ⟨by simp +contextual (disch:=omega) only[go_sem,e1,e2,e5],by simp +contextual (disch:=omega) only[go_sem,e1,e2,e5],by simp +contextual (disch:=omega) only[go_sem,e1,e2,e5],_,by simp +contextual (disch:=omega) only[go_sem,e1,e2,e5],rfl⟩ ?_ ?_ (fun _ _ _ _ h=>h.elim)
 ·clear H
  rintro J Yq Wq hJ hY hW i env h N H ⟨e1,e2,e8,u,e5,rfl⟩
  have L2:=hv.len
  cases c0:decide ((0:Int)<s.cells.length) with
  |true=>
   simp +contextual (disch:=omega) only[go_sem,c0,e1,e2,e5,e8,L2,show(true==false)=false from rfl,show(false==true)=false from rfl,show(true==true)=true from rfl,show(false==false)=true from rfl,show(false ^^ true)=true from rfl,show(false ^^ false)=false from rfl,show((1:Int)==0)=false from rfl,show((1:Int)==2)=false from rfl,show((1:Int)==3)=false from rfl,beq_self_eq_true]
   exact hY _ _ _ H ⟨by simp +contextual (disch:=omega) only[go_sem,e1],by simp +contextual (disch:=omega) only[go_sem,e2],u,by simp +contextual (disch:=omega) only[go_sem,e5],rfl⟩
  |false=>
   simp +contextual (disch:=omega) only[go_sem,c0,e1,e2,e5,e8,L2,show(true==false)=false from rfl,show(false==true)=false from rfl,show(true==true)=true from rfl,show(false==false)=true from rfl,show(false ^^ true)=true from rfl,show(false ^^ false)=false from rfl,show((1:Int)==0)=false from rfl,show((1:Int)==2)=false from rfl,show((1:Int)==3)=false from rfl,beq_self_eq_true]
   exact hY _ _ _ H ⟨by simp +contextual (disch:=omega) only[go_sem,e1],by simp +contextual (disch:=omega) only[go_sem,e2],u,by simp +contextual (disch:=omega) only[go_sem,e5],rfl⟩
 rintro env h N H ⟨e1,e2,u,e5,rfl⟩
 simp +contextual (disch:=omega) only[go_sem,e5]
 exact fun H=>⟨u,rfl,H.re [0] (by decide)⟩
theorem A1h (U:St) (cs:List GV) (s:State) (hR:Ab.R U s cs) (hl:A7 s<=1099511627776):∃ r N,Ret Tryz.prog 50 [.agg cs,gi 2] U r N/\Hp U N [ow pS.kd r (A9 txLt (Bc s true))]:=by
 obtain⟨a,b,c,v,rfl,ha,hb,hc,hv⟩:=hR
 obtain⟨l1,l2,l3,l4,_⟩:=Aq hl
 refine Mt Hk (Z0z rfl) (Hx.refl U) ?_
 simp +contextual (disch:=omega) only[go_sem,Gq]
 intro n f N _ n2 f2 N2 H
 have H:=H.emp pS.kd rfl
 try simp +contextual (disch:=omega) only[go_sem,beq_self_eq_true,show((1:Int)==0)=false from rfl,show((2:Int)==0)=false from rfl,show((3:Int)==0)=false from rfl]
 refine C3 s.lives.length 7 2 (fun i env h=>env 1=gi 2/\env 2= .ptr n 0/\∃ u,env 5=u/\h=[.th (ow pS.kd u (A9 txLt (((s.lives.take i).filter fun x=>x.map==true).map (·.obj)))),.box 1 n [a,b,c,v]]) (fun env h=>env 1=gi 2/\env 2= .ptr n 0/\∃ u,env 5=u/\h=[.th (ow pS.kd u (A9 txLt (Bc s true))),.box 1 n [a,b,c,v]]) (fun env h=>False) _ H (by simp +contextual (disch:=omega) only[go_sem]) ⟨by simp +contextual (disch:=omega) only[go_sem],by simp +contextual (disch:=omega) only[go_sem],_,by simp +contextual (disch:=omega) only[go_sem],rfl⟩ ?_ ?_ ?_ (fun _ _ _ _ h=>h.elim)
 ·clear H
  rintro J Yq Wq hJ hY hW i env h N hi ei c0 H ⟨e1,e2,u,e5,rfl⟩
  have L1:=A3 hc hi
  have L2:=hc.len
  cases hm:s.lives[i].map with
  |true=>
   obtain⟨u',N3,R3,K3⟩:=Ft s.lives[i].obj H.hp 0 rfl (A9t (by omega))
   simp +contextual (disch:=omega) only[go_sem,c0,e1,e2,e5,ei,A1,L2,L1,hm,show(true==false)=false from rfl,show(false==true)=false from rfl,show(true==true)=true from rfl,show(false==false)=true from rfl,show(false ^^ true)=true from rfl,show(false ^^ false)=false from rfl,show((2:Int)==0)=false from rfl,show((2:Int)==1)=false from rfl,show((2:Int)==3)=false from rfl,beq_self_eq_true]
   refine A4p 0 R3 K3 fun H3=> ?_
   simp +contextual (disch:=omega) only[go_sem,e1,e2,ei]
   exact hJ _ _ _ _ H3 ⟨by simp +contextual (disch:=omega) only[go_sem,e1],by simp +contextual (disch:=omega) only[go_sem,e2],u',by simp +contextual (disch:=omega) only[go_sem],by rw[A60 hi (by rw[hm];rfl),J0];rfl⟩
  |false=>
   simp +contextual (disch:=omega) only[go_sem,c0,e1,e2,e5,ei,A1,L2,L1,hm,show(true==false)=false from rfl,show(false==true)=false from rfl,show(true==true)=true from rfl,show(false==false)=true from rfl,show(false ^^ true)=true from rfl,show(false ^^ false)=false from rfl,show((2:Int)==0)=false from rfl,show((2:Int)==1)=false from rfl,show((2:Int)==3)=false from rfl,beq_self_eq_true]
   exact hJ _ _ _ _ H ⟨by simp +contextual (disch:=omega) only[go_sem,e1],by simp +contextual (disch:=omega) only[go_sem,e2],u,by simp +contextual (disch:=omega) only[go_sem,e5],by rw[A61 hi (by rw[hm];rfl)]⟩
 ·clear H
  rintro Yq hY env h N ei c0 H ⟨e1,e2,u,e5,rfl⟩
  have L2:=hc.len
  rw[Zab] at H
  simp +contextual (disch:=omega) only[go_sem,c0,e1,e2,e5,ei,L2]
  exact hY _ _ _ H ⟨by simp +contextual (disch:=omega) only[go_sem,e1],by simp +contextual (disch:=omega) only[go_sem,e2],u,by simp +contextual (disch:=omega) only[go_sem,e5],rfl⟩
 clear H
 rintro env h N H ⟨e1,e2,u,e5,rfl⟩
 simp +contextual (disch:=omega) only[go_sem,e1,e2,e5]
 refine V9 0 4 (fun _ env h=>env 1=gi 2/\env 2= .ptr n 0/\env 8=gi 0/\∃ u,env 5=u/\h=[.th (ow pS.kd u (A9 txLt (Bc s true))),.box 1 n [a,b,c,v]]) (fun env h=>env 1=gi 2/\env 2= .ptr n 0/\∃ u,env 5=u/\h=[.th (ow pS.kd u (A9 txLt (Bc s true))),.box 1 n [a,b,c,v]]) (fun env h=>False) _ H ⟨by simp +contextual (disch:=omega) only[go_sem,e1,e2,e5],by simp +contextual (disch:=omega) only[go_sem,e1,e2,e5],by simp +contextual (disch:=omega) only[go_sem,e1,e2,e5],_,by simp +contextual (disch:=omega) only[go_sem,e1,e2,e5],rfl⟩ ?_ ?_ (fun _ _ _ _ h=>h.elim)
 ·clear H
  rintro J Yq Wq hJ hY hW i env h N H ⟨e1,e2,e8,u,e5,rfl⟩
  have L2:=hv.len
  cases c0:decide ((0:Int)<s.cells.length) with
  |true=>
   simp +contextual (disch:=omega) only[go_sem,c0,e1,e2,e5,e8,L2,show(true==false)=false from rfl,show(false==true)=false from rfl,show(true==true)=true from rfl,show(false==false)=true from rfl,show(false ^^ true)=true from rfl,show(false ^^ false)=false from rfl,show((2:Int)==0)=false from rfl,show((2:Int)==1)=false from rfl,show((2:Int)==3)=false from rfl,beq_self_eq_true]
   exact hY _ _ _ H ⟨by simp +contextual (disch:=omega) only[go_sem,e1],by simp +contextual (disch:=omega) only[go_sem,e2],u,by simp +contextual (disch:=omega) only[go_sem,e5],rfl⟩
  |false=>
   simp +contextual (disch:=omega) only[go_sem,c0,e1,e2,e5,e8,L2,show(true==false)=false from rfl,show(false==true)=false from rfl,show(true==true)=true from rfl,show(false==false)=true from rfl,show(false ^^ true)=true from rfl,show(false ^^ false)=false from rfl,show((2:Int)==0)=false from rfl,show((2:Int)==1)=false from rfl,show((2:Int)==3)=false from rfl,beq_self_eq_true]
   exact hY _ _ _ H ⟨by simp +contextual (disch:=omega) only[go_sem,e1],by simp +contextual (disch:=omega) only[go_sem,e2],u,by simp +contextual (disch:=omega) only[go_sem,e5],rfl⟩
 rintro env h N H ⟨e1,e2,u,e5,rfl⟩
 simp +contextual (disch:=omega) only[go_sem,e5]
 exact fun H=>⟨u,rfl,H.re [0] (by decide)⟩
theorem A1i (U:St) (cs:List GV) (s:State) (hR:Ab.R U s cs) (hl:A7 s<=1099511627776):∃ r N,Ret Tryz.prog 50 [.agg cs,gi 3] U r N/\Hp U N [ow pS.kd r (A9 txLt (E6 s))]:=by
 obtain⟨a,b,c,v,rfl,ha,hb,hc,hv⟩:=hR
 obtain⟨l1,l2,l3,l4,_⟩:=Aq hl
 refine Mt Hk (Z0z rfl) (Hx.refl U) ?_
 simp +contextual (disch:=omega) only[go_sem,Gq]
 intro n f N _ n2 f2 N2 H
 have H:=H.emp pS.kd rfl
 try simp +contextual (disch:=omega) only[go_sem,beq_self_eq_true,show((1:Int)==0)=false from rfl,show((2:Int)==0)=false from rfl,show((3:Int)==0)=false from rfl]
 refine V9 0 2 (fun _ env h=>env 1=gi 3/\env 2= .ptr n 0/\env 7=gi 0/\∃ u,env 5=u/\h=[.th (ow pS.kd u (A9 txLt [])),.box 1 n [a,b,c,v]]) (fun env h=>env 1=gi 3/\env 2= .ptr n 0/\∃ u,env 5=u/\h=[.th (ow pS.kd u (A9 txLt [])),.box 1 n [a,b,c,v]]) (fun env h=>False) _ H ⟨by simp +contextual (disch:=omega) only[go_sem],by simp +contextual (disch:=omega) only[go_sem],by simp +contextual (disch:=omega) only[go_sem],_,by simp +contextual (disch:=omega) only[go_sem],rfl⟩ ?_ ?_ (fun _ _ _ _ h=>h.elim)
 ·clear H
  rintro J Yq Wq hJ hY hW i env h N H ⟨e1,e2,e7,u,e5,rfl⟩
  have L2:=hc.len
  cases c0:decide ((0:Int)<s.lives.length) with
  |true=>
   simp +contextual (disch:=omega) only[go_sem,c0,e1,e2,e5,e7,L2,show(true==false)=false from rfl,show(false==true)=false from rfl,show(true==true)=true from rfl,show(false==false)=true from rfl,show(false ^^ true)=true from rfl,show(false ^^ false)=false from rfl,show((3:Int)==0)=false from rfl,show((3:Int)==1)=false from rfl,show((3:Int)==2)=false from rfl,beq_self_eq_true]
   exact hY _ _ _ H ⟨by simp +contextual (disch:=omega) only[go_sem,e1],by simp +contextual (disch:=omega) only[go_sem,e2],u,by simp +contextual (disch:=omega) only[go_sem,e5],rfl⟩
  |false=>
   simp +contextual (disch:=omega) only[go_sem,c0,e1,e2,e5,e7,L2,show(true==false)=false from rfl,show(false==true)=false from rfl,show(true==true)=true from rfl,show(false==false)=true from rfl,show(false ^^ true)=true from rfl,show(false ^^ false)=false from rfl,show((3:Int)==0)=false from rfl,show((3:Int)==1)=false from rfl,show((3:Int)==2)=false from rfl,beq_self_eq_true]
   exact hY _ _ _ H ⟨by simp +contextual (disch:=omega) only[go_sem,e1],by simp +contextual (disch:=omega) only[go_sem,e2],u,by simp +contextual (disch:=omega) only[go_sem,e5],rfl⟩
 clear H
 rintro env h N H ⟨e1,e2,u,e5,rfl⟩
 simp +contextual (disch:=omega) only[go_sem,e1,e2,e5]
 refine C3 s.cells.length 8 4 (fun i env h=>env 1=gi 3/\env 2= .ptr n 0/\∃ u,env 5=u/\h=[.th (ow pS.kd u (A9 txLt ((s.cells.take i).map (·.obj)))),.box 1 n [a,b,c,v]]) (fun env h=>env 1=gi 3/\env 2= .ptr n 0/\∃ u,env 5=u/\h=[.th (ow pS.kd u (A9 txLt (E6 s))),.box 1 n [a,b,c,v]]) (fun env h=>False) _ H (by simp +contextual (disch:=omega) only[go_sem,e1,e2,e5]) ⟨by simp +contextual (disch:=omega) only[go_sem,e1,e2,e5],by simp +contextual (disch:=omega) only[go_sem,e1,e2,e5],_,by simp +contextual (disch:=omega) only[go_sem,e1,e2,e5],rfl⟩ ?_ ?_ ?_ (fun _ _ _ _ h=>h.elim)
 ·clear H
  rintro J Yq Wq hJ hY hW i env h N hi ei c0 H ⟨e1,e2,u,e5,rfl⟩
  have L1:=A6 hv hi
  have L2:=hv.len
  obtain⟨u',N3,R3,K3⟩:=Ft s.cells[i].obj H.hp 0 rfl (Agp (by omega))
  simp +contextual (disch:=omega) only[go_sem,c0,e1,e2,e5,ei,A1,L2,L1,beq_self_eq_true,show(true==false)=false from rfl,show(false==true)=false from rfl,show(true==true)=true from rfl,show(false==false)=true from rfl,show(false ^^ true)=true from rfl,show(false ^^ false)=false from rfl,show((3:Int)==0)=false from rfl,show((3:Int)==1)=false from rfl,show((3:Int)==2)=false from rfl,beq_self_eq_true]
  refine A4p 0 R3 K3 fun H3=> ?_
  simp +contextual (disch:=omega) only[go_sem,e1,e2,ei]
  exact hJ _ _ _ _ H3 ⟨by simp +contextual (disch:=omega) only[go_sem,e1],by simp +contextual (disch:=omega) only[go_sem,e2],u',by simp +contextual (disch:=omega) only[go_sem],by rw[Adf hi];rfl⟩
 ·clear H
  rintro Yq hY env h N ei c0 H ⟨e1,e2,u,e5,rfl⟩
  have L2:=hv.len
  rw[Zab] at H
  simp +contextual (disch:=omega) only[go_sem,c0,e1,e2,e5,ei,L2]
  exact hY _ _ _ H ⟨by simp +contextual (disch:=omega) only[go_sem,e1],by simp +contextual (disch:=omega) only[go_sem,e2],u,by simp +contextual (disch:=omega) only[go_sem,e5],rfl⟩
 rintro env h N H ⟨e1,e2,u,e5,rfl⟩
 simp +contextual (disch:=omega) only[go_sem,e5]
 exact fun H=>⟨u,rfl,H.re [0] (by decide)⟩
def cntL (s:State) (o:ByteArray):ByteArray:=joB [⟨#[99,111,117,110,116]⟩,o] ⟨#[32]⟩++La [C5 s o]
def setL (s:State) (o:ByteArray):ByteArray:=Pb ([⟨#[115,101,116]⟩,o]++Ba s false o)
def mapL (s:State) (o k:ByteArray):ByteArray:=joB [⟨#[109,97,112]⟩,o,k] ⟨#[32]⟩++La (Qh s o k)
def Pe (s:State) (o:ByteArray):ByteArray:=catS ((Ba s true o).map (mapL s o))
def Lb (s:State) (o:ByteArray):ByteArray:=joB [⟨#[114,111,119]⟩,o] ⟨#[32]⟩++La (M4 s o)
def Mc (s:State):ByteArray:=joB [⟨#[107,110,111,119]⟩] ⟨#[32]⟩++La s.know
def shw0 (s:State):ByteArray:=Mc s++catS ((A9 txLt (E5 s)).map (cntL s))
def shw1 (s:State):ByteArray:=shw0 s++catS ((A9 txLt (Bc s false)).map (setL s))
def shw2 (s:State):ByteArray:=shw1 s++catS ((A9 txLt (Bc s true)).map (Pe s))
def shw3 (s:State):ByteArray:=shw2 s++catS ((A9 txLt (E6 s)).map (Lb s))
def Pf (s:State):ByteArray:=if Cf s then shw3 s else⟨#[]⟩
theorem Cl {ks:List ByteArray} {f:ByteArray->ByteArray} {B:ByteArray} {c:Nat} (hf:∀ o∈ks,(f o).size<=c) (hn:ks.length<=120) (i:Nat):(B++catS ((ks.take i).map f)).size<=B.size+120*c:=by
 have h1:=A8k (l:=(ks.take i).map f) (k:=c) fun s hs=>by
  obtain⟨o,ho,rfl⟩:=Zap.1 hs
  exact hf o (Zaz ho)
 have h2:((ks.take i).map f).length*c<=120*c:=Za0 _ (by rw[Zac,Zah];omega)
 rw[ByteArray.size_append];omega
theorem Ky {ks:List ByteArray} {f:ByteArray->ByteArray} {B:ByteArray} {c:Nat} (hf:∀ o∈ks,(f o).size<=c) (hn:ks.length<=120):(B++catS (ks.map f)).size<=B.size+120*c:=by
 have:=Cl (B:=B) hf hn ks.length
 rwa [Zab] at this
theorem Da {ks:List ByteArray} {f:ByteArray->ByteArray} {B:ByteArray} {i:Nat} (hi:i<ks.length):B++catS ((ks.take (i+1)).map f)=B++catS ((ks.take i).map f)++f ks[i]:=by rw[Og hi,Xz,ByteArray.append_assoc]
theorem Ka {ks:List ByteArray} {f:ByteArray->ByteArray} {B:ByteArray}:B++catS ((ks.take 0).map f)=B:=A0f B
theorem Qo (a b sep:ByteArray):joB [a,b] sep=a++sep++b:=by
 have:=A5x (l:=[a]) (by simp) b sep
 rw[Qm] at this;exact this
theorem A9u (a b c sep:ByteArray):joB [a,b,c] sep=a++sep++b++sep++c:=by
 have:=A5x (l:=[a,b]) (by simp) c sep
 rw[Qo] at this;exact this
theorem Kz {s:State} (hl:A7 s<=1048576):(∀ o∈A9 txLt (E5 s),o.size<=1048576)/\(∀ m,∀ o∈A9 txLt (Bc s m),o.size<=1048576)/\∀ o∈A9 txLt (E6 s),o.size<=1048576:=by
 have key:=fun l x=>((M3 (lt:=txLt) (fun x y z=>Ge) Ot l).2 x).1
 refine⟨fun o ho=> ?_,fun m o ho=> ?_,fun o ho=> ?_⟩
 ·obtain⟨x,hx,rfl⟩:=Zap.1 (key _ _ ho)
  have:x.obj.size<=sumL Av s.tallies:=B8 (f:=Av) hx
  unfold A7 at hl;omega
 ·obtain⟨x,hx,rfl⟩:=Zap.1 (key _ _ ho)
  have:x.obj.size+x.key.size<=sumL Bl s.lives:=B8 (f:=Bl) (Zav.1 hx).1
  unfold A7 at hl;omega
 ·obtain⟨x,hx,rfl⟩:=Zap.1 (key _ _ ho)
  have:x.obj.size<=sumL Cj s.cells:=B8 (f:=Cj) hx
  unfold A7 at hl;omega
theorem Qp {s:State} (h:OkS s):(A9 txLt (E5 s)).length<=120/\(∀ m,(A9 txLt (Bc s m)).length<=120)/\(A9 txLt (E6 s)).length<=120:=by
 refine⟨?_,fun m=> ?_,?_⟩
 ·have:=Ch txLt (E5 s)
  have h2:=h.tn
  simp only[E5,Zac] at *;omega
 ·have:=Ch txLt (Bc s m)
  have h2:=Zad (fun x:Live=>x.map==m) s.lives
  have h3:=h.ln
  simp only[Bc,Zac] at *;omega
 ·have:=Ch txLt (E6 s)
  have h2:=h.cn
  simp only[E6,Zac] at *;omega
theorem L4 {s:State} (h:OkS s) (m:Bool) (o:ByteArray):(Ba s m o).length<=120:=by
 have h1:=Ch txLt ((s.lives.filter (Bf m o)).map (·.key))
 rw[Zac] at h1
 have h2:=Zad (Bf m o) s.lives
 have h3:=h.ln
 unfold Ba;omega
theorem A9v {s:State} (h:OkS s):∀ x∈s.know,x≤9223372036854775807:=fun x hx=>by
 have:=h.kn
 simp only[okK,Zag,Zax] at this
 have h2:=Xw.1 (this.1 x hx)
 omega
theorem Pg {s:State} {o:ByteArray} (ho:o.size<=1048576):(cntL s o).size<=1048606:=by
 have h1:=Fl (P9 s o)
 have e1:(⟨#[99,111,117,110,116]⟩:ByteArray).size=5:=rfl
 have e2:(⟨#[32]⟩:ByteArray).size=1:=rfl
 simp only[Zal,Zat] at h1
 rw[cntL,Qo,ByteArray.size_append,ByteArray.size_append,ByteArray.size_append];omega
theorem A9w {s:State} (hl:A7 s<=1048576) {o:ByteArray} (ho:o.size<=1048576):∀ x∈[⟨#[115,101,116]⟩,o]++Ba s false o,x.size<=1048576:=fun x hx=>by
 rcases List.mem_append.1 hx with h|h
 ·simp only[List.mem_cons,List.mem_nil_iff,or_false] at h
  rcases h with rfl|rfl
  ·exact Z0z rfl
  ·exact ho
 ·exact Pa hl false o x h
theorem A3x {l:List ByteArray} {b:Nat} (h:∀ x∈l,x.size<=b):(Pb l).size<=l.length*(b+1)+1:=by
 have h1:=Aht (sep:=⟨#[32]⟩) h
 have e2:(⟨#[32]⟩:ByteArray).size=1:=rfl
 have e3:(⟨#[10]⟩:ByteArray).size=1:=rfl
 rw[e2] at h1
 rw[Pb,ByteArray.size_append];omega
theorem Ph {s:State} (h:OkS s) (hl:A7 s<=1048576) {o:ByteArray} (ho:o.size<=1048576):(setL s o).size<=127926395:=by
 have h1:=A3x (A9w hl ho)
 have h2:=L4 h false o
 have h3:([⟨#[115,101,116]⟩,o]++Ba s false o).length*(1048576+1)<=122*1048577:=Za0 _ (by simp only[Zam,Zal,Zat];omega)
 unfold setL;omega
theorem Pi {s:State} (hI:stI s) (hl:A7 s<=1048576) {o k:ByteArray} (ho:o.size<=1048576) (hk:k.size<=1048576):(mapL s o k).size<=25165830:=by
 have h1:=Fl (A09 hI o k)
 have h2:=A5v s o k
 have e1:(⟨#[109,97,112]⟩:ByteArray).size=3:=rfl
 have e2:(⟨#[32]⟩:ByteArray).size=1:=rfl
 rw[mapL,A9u,ByteArray.size_append,ByteArray.size_append,ByteArray.size_append,ByteArray.size_append,ByteArray.size_append];omega
theorem Qq {s:State} (h:OkS s) (hI:stI s) (hl:A7 s<=1048576) {o:ByteArray} (ho:o.size<=1048576):(Pe s o).size<=3019899600:=by
 have:=Ky (B:=⟨#[]⟩) (f:=mapL s o) (fun k hk=>Pi hI hl ho (Pa hl true o k hk)) (L4 h true o)
 rw[A08] at this
 have e:(⟨#[]⟩:ByteArray).size=0:=rfl
 unfold Pe;omega
theorem L5 {s:State} (hI:stI s) {o:ByteArray} (ho:o.size<=1048576):(Lb s o).size<=27451221:=by
 have h1:=Fl (A0a hI o)
 have h2:=A5w s o
 have e1:(⟨#[114,111,119]⟩:ByteArray).size=3:=rfl
 have e2:(⟨#[32]⟩:ByteArray).size=1:=rfl
 rw[Lb,Qo,ByteArray.size_append,ByteArray.size_append,ByteArray.size_append];omega
theorem Qr {s:State} (h:OkS s) (hl:A7 s<=1048576):(Mc s).size<=23068677:=by
 have h1:=Fl (A9v h)
 have h2:s.know.length<=A7 s:=by unfold A7;omega
 have e1:(⟨#[107,110,111,119]⟩:ByteArray).size=4:=rfl
 rw[Mc,Qm,ByteArray.size_append];omega
theorem A0g {s:State} (h:OkS s) (hl:A7 s<=1048576):(shw0 s).size<=148901397:=by
 have:=Ky (B:=Mc s) (f:=cntL s) (fun o ho=>Pg ((Kz hl).1 o ho)) (Qp h).1
 have h2:=Qr h hl
 unfold shw0;omega
theorem A0h {s:State} (h:OkS s) (hl:A7 s<=1048576):(shw1 s).size<=15500068797:=by
 have:=Ky (B:=shw0 s) (f:=setL s) (fun o ho=>Ph h hl ((Kz hl).2.1 _ o ho)) ((Qp h).2.1 false)
 have h2:=A0g h hl
 unfold shw1;omega
theorem A0i {s:State} (h:OkS s) (hI:stI s) (hl:A7 s<=1048576):(shw2 s).size<=377888020797:=by
 have:=Ky (B:=shw1 s) (f:=Pe s) (fun o ho=>Qq h hI hl ((Kz hl).2.1 _ o ho)) ((Qp h).2.1 true)
 have h2:=A0h h hl
 unfold shw2;omega
theorem Agq {s:State} (h:OkS s) (hI:stI s) (hl:A7 s<=1048576):(shw3 s).size<=381182167317:=by
 have:=Ky (B:=shw2 s) (f:=Lb s) (fun o ho=>L5 hI ((Kz hl).2.2 o ho)) (Qp h).2.2
 have h2:=A0i h hI hl
 unfold shw3;omega
theorem Qs {s:State} (hI:stI s) (hl:A7 s<=1048576):(Pf s).size<=381182167317:=by
 unfold Pf
 split
 ·rename_i h;exact Agq (Acd.1 h) hI hl
 ·exact Z0z rfl
theorem Hx.row {Y:Type} {p:Pl Y} {U N:St} {h:List Item} {n z:Nat} {cs:List GV} (H:Hx U N (.box z n cs::h)) (l:List Y) (hc:cs=p.cells l) (hz:z=p.z):Hx U N (.th (ow p.kd (.sl n 0 l.length) l)::h):=by
 subst hc hz
 exact H.hp.toRow 0 rfl l rfl rfl _ rfl
end Go.Proofs.YtckobfochhjmdaaGreatDoor.Sy
