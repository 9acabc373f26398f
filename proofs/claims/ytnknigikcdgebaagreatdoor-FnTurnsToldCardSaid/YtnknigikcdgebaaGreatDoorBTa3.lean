/- Texts of this proof, one behind the other. -/
import Derived.Test.YtnknigikcdgebaaGreatDoorBTa2
import Derived.Sort.AssemblyPlain
import Derived.Test.YtnknigikcdgebaaGreatDoorProg
import Derived.KernelRfl
import Derived.Sort.LotC
set_option linter.unusedSimpArgs false
set_option linter.unusedVariables false
set_option maxRecDepth 4000
set_option maxHeartbeats 4000000
open Nat renaming le_refl→Zaa,lt_or_ge→Zab,eq_zero_or_pos→Zas,min_eq_left→Zaw,zero_lt_one→Zbb,two_pow_pos→Zbc
open List renaming getElem?_set_self→Zac,getElem?_eq_some_iff→Zad,length_append→Zae,take_length→Zaf,take_succ_eq_append_getElem→Zag,length_filter_le→Zah,length_nil→Zaj,append_assoc→Zak,length_cons→Zal,length_take→Zam,set_set→Zan,set_getElem_self→Zao,length_map→Zar,pairwise_iff_getElem→Zat,drop_eq_getElem_cons→Zau,length_drop→Zav,take_append_drop→Zax,append_nil→Zay,mem_filter→Zaz,flatMap_append→Za1,length_reverse→Za2,mem_cons_self→Za4,reverse_cons→Za6,getElem_mem→Za8,drop_length→Za9,reverse_nil→Zba,nil_append→Zbe,filter_nil→Zbf,drop_zero→Zbh,map_cons→Zbi
open Bool renaming false_bne→Zai,false_eq_true→Za3,false_and→Zbg
open Option renaming map_none→Zap,map_some→Zaq
open Array renaming length_toList→Za0
open Int renaming toNat_natCast→Za5,natCast_zero→Za7,natCast_one→Zbd
namespace Go.Proofs.YtnknigikcdgebaaGreatDoor.Sy
open Go Go.RowKit
namespace C
open Go Go.RowKit Go.Proofs.YtnknigikcdgebaaGreatDoor.Sy Go.Sort
variable {Y:Type} [Inhabited Y] {lt:Y->Y->Bool} {U0 U:St} {rs:List Thg} {k:Nat} {v:GV} {d:Array Y}
theorem scanSorted_ge (lt:Y->Y->Bool) (d:Array Y) (b:Nat):∀(n i:Nat),b - i=n->i<=scanSorted lt d b i/\(i<=b->scanSorted lt d b i<=b):=by
 intro n
 induction n with
 |zero=>
  intro i hn
  rw[scanSorted,if_neg (by simp;intro h;omega)]
  exact⟨Zaa _,fun h=>h⟩
 |succ n ih=>
  intro i hn
  rw[scanSorted]
  split
  ·have:=ih (i+1) (by omega)
   exact⟨by omega,fun _=>this.2 (by omega)⟩
  ·exact⟨Zaa _,fun h=>h⟩
theorem shiftDown_size (lt:Y->Y->Bool):∀(j:Nat) (d:Array Y),(shiftDown lt j d).size=d.size
 |0,_=>rfl
 |j+1,d=>by
  rw[shiftDown]
  split
  ·rfl
  ·rw[shiftDown_size lt j,Go.Sort.swp_size]
theorem shiftUp_size (lt:Y->Y->Bool) (b:Nat):∀(n j:Nat) (d:Array Y),b - j=n->(shiftUp lt b j d).size=d.size:=by
 intro n
 induction n with
 |zero=>intro j d h;rw[shiftUp,if_neg (by omega)]
 |succ n ih=>
  intro j d h
  rw[shiftUp,if_pos (by omega)]
  split
  ·rfl
  ·rw[ih _ _ (by omega),Go.Sort.swp_size]
theorem pis_ret (S:SrtC Y lt) (H:Holds S.e U0 U rs k v d) {a b:Nat} (hab:a<b) (hb:b<=d.size) (hs:d.size<=1099511627776):∃ N,Ret Tryz.prog S.q.partialInsertionSort [v,gi a,gi b,.fn S.f []] U (.bool (partialInsertionSort lt d a b).2) N/\Holds S.e U0 N rs k v (partialInsertionSort lt d a b).1:=by
 have key:∃ r N,Ret Tryz.prog S.q.partialInsertionSort [v,gi a,gi b,.fn S.f []] U r N/\r= .bool (partialInsertionSort lt d a b).2/\Holds S.e U0 N rs k v (partialInsertionSort lt d a b).1:=by
  refine B8 S.h_partialInsertionSort (Z0z rfl) ?_
  rw[partialInsertionSort]
  obtain⟨R,hR⟩:∃ R,R=partialIns lt a b 5 (a+1) d:=⟨_,rfl⟩
  rw[<- hR]
  simp +contextual (maxSteps:=600000) (disch:=omega) only[go_sem,Ey]
  refine C4 (fun n env N=>∃(s i:Nat) (D:Array Y),env 0=v/\env 1=gi a/\env 2=gi b/\env 3= .fn S.f []/\env 9=gi i/\env 10=gi s/\5 - s=n/\s<=5/\a<i/\i<=b/\D.size=d.size/\U.length<=N.length/\Holds S.e U0 N rs k v D/\partialIns lt a b (5 - s) i D=R) 5 ⟨0,a+1,d,rfl,rfl,rfl,rfl,rfl,rfl,rfl,by omega,by omega,by omega,rfl,Zaa _,H,hR.symm⟩ ?_
  rintro J hJ n env N ⟨s,i0,D,e0,e1,e2,e3,e7,e8,hn,hs5,hai,hib,hD,hle,hH,hE⟩
  rcases Zab s 5 with h5|h5
  ·have c0:decide ((s:Int)<5)=true:=by simp;omega
   obtain⟨m,hm⟩:∃ m,5 - s=m+1:=⟨4 - s,by omega⟩
   rw[hm,partialIns] at hE
   dsimp only at hE
   simp +contextual (maxSteps:=600000) (disch:=omega) only[go_sem,e0,e1,e2,e3,e7,e8,c0]
   refine Cw (fun n env N'=>∃(x:Nat),env 0=v/\env 1=gi a/\env 2=gi b/\env 3= .fn S.f []/\env 9=gi x/\env 10=gi s/\b - x=n/\i0<=x/\x<=b/\N=N'/\scanSorted lt D b x=scanSorted lt D b i0) (b - i0) 2 (fun env N'=>env 0=v/\env 1=gi a/\env 2=gi b/\env 3= .fn S.f []/\env 9=gi (scanSorted lt D b i0:Nat)/\env 10=gi s/\N=N') ⟨i0,by simp +contextual (maxSteps:=600000) (disch:=omega) only[go_sem,e0],by simp +contextual (maxSteps:=600000) (disch:=omega) only[go_sem,e1],by simp +contextual (maxSteps:=600000) (disch:=omega) only[go_sem,e2],by simp +contextual (maxSteps:=600000) (disch:=omega) only[go_sem,e3],by simp +contextual (maxSteps:=600000) (disch:=omega) only[go_sem,e7],by simp +contextual (maxSteps:=600000) (disch:=omega) only[go_sem,e8],rfl,Zaa _,hib,rfl,rfl⟩ ?_ ?_
   ·clear e0 e1 e2 e3 e7 e8
    rintro J2 Yq2 hJ2 hY2 n2 env N' ⟨x,e0,e1,e2,e3,e7,e8,hn2,hx1,hx2,rfl,hU⟩
    rw[scanSorted] at hU
    rcases Zab x b with hx|hx
    ·have c1:decide ((x:Int)<b)=true:=by simp;omega
     have x1:(x:Int) - 1=((x - 1:Nat):Int):=by omega
     simp +contextual (maxSteps:=600000) (disch:=omega) only[go_sem,e0,e1,e2,e3,e7,e8,c1,x1,A5,hH.iad (j:=x) (by omega),hH.ld (j:=x) (by omega),hH.iad (j:=x - 1) (by omega),hH.ld (j:=x - 1) (by omega)]
     refine A9 (S.call _ _ _) ?_
     cases hl:lt D[x]! D[x - 1]! with
     |true=>
      rw[if_neg (by simp[hl])] at hU
      simp +contextual (maxSteps:=600000) (disch:=omega) only[go_sem,e0,e1,e2,e3,e7,e8,c1,hl,S.klt]
      refine hY2 _ _ ⟨?_,?_,?_,?_,?_,?_,rfl⟩
      all_goals simp +contextual (maxSteps:=600000) (disch:=omega) only[go_sem,e0,e1,e2,e3,e7,e8,hU]
     |false=>
      rw[if_pos (by simp[hl];omega)] at hU
      simp +contextual (maxSteps:=600000) (disch:=omega) only[go_sem,e0,e1,e2,e3,e7,e8,c1,hl,S.klt]
      refine⟨b - (x+1),by omega,hJ2 _ _ _ ⟨x+1,?_,?_,?_,?_,?_,?_,rfl,by omega,by omega,rfl,hU⟩⟩
      all_goals simp +contextual (maxSteps:=600000) (disch:=omega) only[go_sem,e0,e1,e2,e3,e7,e8]
    ·rw[if_neg (by simp;intro h;omega)] at hU
     have c1:decide ((x:Int)<b)=false:=by simp;omega
     simp +contextual (maxSteps:=600000) (disch:=omega) only[go_sem,e0,e1,e2,e3,e7,e8,c1]
     refine hY2 _ _ ⟨?_,?_,?_,?_,?_,?_,rfl⟩
     all_goals simp +contextual (maxSteps:=600000) (disch:=omega) only[go_sem,e0,e1,e2,e3,e7,e8,hU]
   clear e0 e1 e2 e3 e7 e8
   rintro env N' ⟨e0,e1,e2,e3,e7,e8,rfl⟩
   obtain⟨g1,g2⟩:=scanSorted_ge lt D b _ i0 rfl
   have g2:=g2 hib
   obtain⟨i,hi⟩:∃ i,i=scanSorted lt D b i0:=⟨_,rfl⟩
   rw[<- hi] at hE e7 g1 g2
   by_cases h1:i=b
   ·rw[if_pos h1] at hE
    subst hE
    have c1:((b:Int)==b)=true:=by simp
    rw[h1] at e7
    simp +contextual (maxSteps:=600000) (disch:=omega) only[go_sem,e0,e1,e2,e3,e7,e8,c1]
    exact⟨_,rfl,hle,rfl,hH⟩
   ·rw[if_neg h1] at hE
    have c1:((i:Int)==b)=false:=by simp;omega
    by_cases h50:b - a<50
    ·rw[if_pos h50] at hE
     subst hE
     have c2:decide ((b:Int) - a<50)=true:=by simp;omega
     simp +contextual (maxSteps:=600000) (disch:=omega) only[go_sem,e0,e1,e2,e3,e7,e8,c1,c2]
     exact⟨_,rfl,hle,rfl,hH⟩
    ·rw[if_neg h50] at hE
     have c2:decide ((b:Int) - a<50)=false:=by simp;omega
     have i1:(i:Int) - 1=((i - 1:Nat):Int):=by omega
     obtain⟨N1,N2,s1,s2,hH1,hl1⟩:=hH.sw (a:=i) (b:=i - 1) (by omega) (by omega)
     simp +contextual (maxSteps:=600000) (disch:=omega) only[go_sem,e0,e1,e2,e3,e7,e8,c1,c2,i1,A5,hH.iad (j:=i) (by omega),hH.ld (j:=i) (by omega),hH.iad (j:=i - 1) (by omega),hH.ld (j:=i - 1) (by omega),s1,s2]
     have hD1:(swp D i (i - 1)).size=d.size:=by rw[Go.Sort.swp_size];exact hD
     have hle1:U.length<=N2.length:=by omega
     obtain⟨D1,hD10⟩:∃ D1,D1=swp D i (i - 1):=⟨_,rfl⟩
     rw[<- hD10] at hE hD1 hH1
     clear hH hle s1 s2
     by_cases hA:i - a≥2
     ·rw[if_pos hA] at hE
      have cA:decide ((2:Int)<=(i:Int) - a)=true:=by simp;omega
      simp +contextual (maxSteps:=600000) (disch:=omega) only[go_sem,e0,e1,e2,e3,e7,e8,cA]
      refine Cw (fun n env N=>∃(j:Nat) (E:Array Y),env 0=v/\env 1=gi a/\env 2=gi b/\env 3= .fn S.f []/\env 9=gi i/\env 10=gi s/\env 11=gi j/\j=n/\j<b/\E.size=d.size/\U.length<=N.length/\Holds S.e U0 N rs k v E/\shiftDown lt j E=shiftDown lt (i - 1) D1) (i - 1) 4 (fun env N=>env 0=v/\env 1=gi a/\env 2=gi b/\env 3= .fn S.f []/\env 9=gi i/\env 10=gi s/\U.length<=N.length/\Holds S.e U0 N rs k v (shiftDown lt (i - 1) D1)) ⟨i - 1,D1,by simp +contextual (maxSteps:=600000) (disch:=omega) only[go_sem,e0],by simp +contextual (maxSteps:=600000) (disch:=omega) only[go_sem,e1],by simp +contextual (maxSteps:=600000) (disch:=omega) only[go_sem,e2],by simp +contextual (maxSteps:=600000) (disch:=omega) only[go_sem,e3],by simp +contextual (maxSteps:=600000) (disch:=omega) only[go_sem,e7],by simp +contextual (maxSteps:=600000) (disch:=omega) only[go_sem,e8],by simp +contextual (maxSteps:=600000) (disch:=omega) only[go_sem,i1],rfl,by omega,hD1,hle1,hH1,rfl⟩ ?_ ?_
      ·clear e0 e1 e2 e3 e7 e8
       rintro J2 Yq2 hJ2 hY2 n2 env N ⟨j,E,e0,e1,e2,e3,e7,e8,e9,hn2,hj,hE2,hle2,hH,hU⟩
       cases j with
       |zero=>
        have c5:decide ((1:Int)<=0)=false:=rfl
        simp +contextual (maxSteps:=600000) (disch:=omega) only[go_sem,e0,e1,e2,e3,e7,e8,e9,c5,Za7]
        refine hY2 _ _ ⟨?_,?_,?_,?_,?_,?_,hle2,by rw[<- hU];exact hH⟩
        all_goals simp +contextual (maxSteps:=600000) (disch:=omega) only[go_sem,e0,e1,e2,e3,e7,e8]
       |succ m=>
        have c5:decide ((1:Int)<=(m:Int)+1)=true:=decide_eq_true (by omega)
        have n1:B5 (some (.int .i64 ((m:Int)+1)))=some (m+1):=Bh (by simp)
        have m1:(m:Int)+1 - 1=m:=by omega
        rw[shiftDown] at hU
        simp +contextual (maxSteps:=600000) (disch:=omega) only[go_sem,e0,e1,e2,e3,e7,e8,e9,c5,n1,m1,A5,hH.iad (j:=m+1) (by omega),hH.ld (j:=m+1) (by omega),hH.iad (j:=m) (by omega),hH.ld (j:=m) (by omega)]
        refine A9 (S.call _ _ _) ?_
        cases hl:lt E[m+1]! E[m]! with
        |false=>
         rw[if_pos (by simp[hl])] at hU
         simp +contextual (maxSteps:=600000) (disch:=omega) only[go_sem,e0,e1,e2,e3,e7,e8,e9,hl,S.klt]
         refine hY2 _ _ ⟨?_,?_,?_,?_,?_,?_,hle2,by rw[<- hU];exact hH⟩
         all_goals simp +contextual (maxSteps:=600000) (disch:=omega) only[go_sem,e0,e1,e2,e3,e7,e8]
        |true=>
         rw[if_neg (by simp[hl])] at hU
         obtain⟨N3,N4,s3,s4,hH4,hl4⟩:=hH.sw (a:=m+1) (b:=m) (by omega) (by omega)
         simp +contextual (maxSteps:=600000) (disch:=omega) only[go_sem,e0,e1,e2,e3,e7,e8,e9,n1,m1,A5,hl,S.klt,hH.iad (j:=m+1) (by omega),hH.ld (j:=m+1) (by omega),hH.iad (j:=m) (by omega),hH.ld (j:=m) (by omega),s3,s4]
         refine⟨m,by omega,hJ2 _ _ _ ⟨m,swp E (m+1) m,?_,?_,?_,?_,?_,?_,?_,rfl,by omega,by rw[Go.Sort.swp_size];exact hE2,by omega,hH4,hU⟩⟩
         all_goals simp +contextual (maxSteps:=600000) (disch:=omega) only[go_sem,e0,e1,e2,e3,e7,e8,m1]
      clear e0 e1 e2 e3 e7 e8 hH1 hle1
      rintro env N ⟨e0,e1,e2,e3,e7,e8,hle2,hH2⟩
      have hD2:=(shiftDown_size lt (i - 1) D1).trans hD1
      obtain⟨D2,hD20⟩:∃ D2,D2=shiftDown lt (i - 1) D1:=⟨_,rfl⟩
      rw[<- hD20] at hE hD2 hH2
      simp +contextual (maxSteps:=600000) (disch:=omega) only[go_sem]
      by_cases hB:b - i≥2
      ·rw[if_pos hB] at hE
       have cB:decide ((2:Int)<=(b:Int) - i)=true:=by simp;omega
       simp +contextual (maxSteps:=600000) (disch:=omega) only[go_sem,e0,e1,e2,e3,e7,e8,cB,cA]
       refine Cw (fun n env N=>∃(j:Nat) (E:Array Y),env 0=v/\env 1=gi a/\env 2=gi b/\env 3= .fn S.f []/\env 9=gi i/\env 10=gi s/\env 12=gi j/\b - j=n/\1<=j/\j<=b/\E.size=d.size/\U.length<=N.length/\Holds S.e U0 N rs k v E/\shiftUp lt b j E=shiftUp lt b (i+1) D2) (b - (i+1)) 6 (fun env N=>env 0=v/\env 1=gi a/\env 2=gi b/\env 3= .fn S.f []/\env 9=gi i/\env 10=gi s/\U.length<=N.length/\Holds S.e U0 N rs k v (shiftUp lt b (i+1) D2)) ⟨i+1,D2,by simp +contextual (maxSteps:=600000) (disch:=omega) only[go_sem,e0],by simp +contextual (maxSteps:=600000) (disch:=omega) only[go_sem,e1],by simp +contextual (maxSteps:=600000) (disch:=omega) only[go_sem,e2],by simp +contextual (maxSteps:=600000) (disch:=omega) only[go_sem,e3],by simp +contextual (maxSteps:=600000) (disch:=omega) only[go_sem,e7],by simp +contextual (maxSteps:=600000) (disch:=omega) only[go_sem,e8],by simp +contextual (maxSteps:=600000) (disch:=omega) only[go_sem,e7],rfl,by omega,by omega,hD2,hle2,hH2,rfl⟩ ?_ ?_
       ·clear e0 e1 e2 e3 e7 e8
        rintro J2 Yq2 hJ2 hY2 n2 env N ⟨j,E,e0,e1,e2,e3,e7,e8,e9,hn2,hj1,hj,hE2,hle3,hH,hU⟩
        rw[shiftUp] at hU
        rcases Zab j b with hjb|hjb
        ·rw[if_pos hjb] at hU
         have c5:decide ((j:Int)<b)=true:=by simp;omega
         have j1:(j:Int) - 1=((j - 1:Nat):Int):=by omega
         simp +contextual (maxSteps:=600000) (disch:=omega) only[go_sem,e0,e1,e2,e3,e7,e8,e9,c5,j1,A5,hH.iad (j:=j) (by omega),hH.ld (j:=j) (by omega),hH.iad (j:=j - 1) (by omega),hH.ld (j:=j - 1) (by omega)]
         refine A9 (S.call _ _ _) ?_
         cases hl:lt E[j]! E[j - 1]! with
         |false=>
          rw[if_pos (by simp[hl])] at hU
          simp +contextual (maxSteps:=600000) (disch:=omega) only[go_sem,e0,e1,e2,e3,e7,e8,e9,hl,S.klt]
          refine hY2 _ _ ⟨?_,?_,?_,?_,?_,?_,hle3,by rw[<- hU];exact hH⟩
          all_goals simp +contextual (maxSteps:=600000) (disch:=omega) only[go_sem,e0,e1,e2,e3,e7,e8]
         |true=>
          rw[if_neg (by simp[hl])] at hU
          obtain⟨N3,N4,s3,s4,hH4,hl4⟩:=hH.sw (a:=j) (b:=j - 1) (by omega) (by omega)
          simp +contextual (maxSteps:=600000) (disch:=omega) only[go_sem,e0,e1,e2,e3,e7,e8,e9,j1,A5,hl,S.klt,hH.iad (j:=j) (by omega),hH.ld (j:=j) (by omega),hH.iad (j:=j - 1) (by omega),hH.ld (j:=j - 1) (by omega),s3,s4]
          refine⟨b - (j+1),by omega,hJ2 _ _ _ ⟨j+1,swp E j (j - 1),?_,?_,?_,?_,?_,?_,?_,rfl,by omega,by omega,by rw[Go.Sort.swp_size];exact hE2,by omega,hH4,hU⟩⟩
          all_goals simp +contextual (maxSteps:=600000) (disch:=omega) only[go_sem,e0,e1,e2,e3,e7,e8,e9]
        ·rw[if_neg (by omega)] at hU
         have c5:decide ((j:Int)<b)=false:=by simp;omega
         simp +contextual (maxSteps:=600000) (disch:=omega) only[go_sem,e0,e1,e2,e3,e7,e8,e9,c5]
         refine hY2 _ _ ⟨?_,?_,?_,?_,?_,?_,hle3,by rw[<- hU];exact hH⟩
         all_goals simp +contextual (maxSteps:=600000) (disch:=omega) only[go_sem,e0,e1,e2,e3,e7,e8]
       clear e0 e1 e2 e3 e7 e8 hH2 hle2
       rintro env N ⟨e0,e1,e2,e3,e7,e8,hle2,hH2⟩
       simp +contextual (maxSteps:=600000) (disch:=omega) only[go_sem,e0,e1,e2,e3,e7,e8]
       refine⟨n - 1,by omega,hJ _ _ _ ⟨s+1,i,_,?_,?_,?_,?_,?_,?_,by omega,by omega,by omega,by omega,(by rw[shiftUp_size lt b _ _ _ rfl];exact hD2),hle2,hH2,by rw[<- hE];congr 1;omega⟩⟩
       all_goals simp +contextual (maxSteps:=600000) (disch:=omega) only[go_sem,e0,e1,e2,e3,e7,e8]
      ·rw[if_neg hB] at hE
       have cB:decide ((2:Int)<=(b:Int) - i)=false:=by simp;omega
       simp +contextual (maxSteps:=600000) (disch:=omega) only[go_sem,e0,e1,e2,e3,e7,e8,cB,cA]
       refine⟨n - 1,by omega,hJ _ _ _ ⟨s+1,i,_,?_,?_,?_,?_,?_,?_,by omega,by omega,by omega,by omega,hD2,hle2,hH2,by rw[<- hE];congr 1;omega⟩⟩
       all_goals simp +contextual (maxSteps:=600000) (disch:=omega) only[go_sem,e0,e1,e2,e3,e7,e8]
     ·rw[if_neg hA] at hE
      have cA:decide ((2:Int)<=(i:Int) - a)=false:=by simp;omega
      obtain⟨D2,hD20⟩:∃ D2,D2=D1:=⟨_,rfl⟩
      have hD2:=hD1
      have hH2:=hH1
      have hle2:=hle1
      rw[<- hD20] at hE hD2 hH2
      by_cases hB:b - i≥2
      ·rw[if_pos hB] at hE
       have cB:decide ((2:Int)<=(b:Int) - i)=true:=by simp;omega
       simp +contextual (maxSteps:=600000) (disch:=omega) only[go_sem,e0,e1,e2,e3,e7,e8,cB,cA]
       refine Cw (fun n env N=>∃(j:Nat) (E:Array Y),env 0=v/\env 1=gi a/\env 2=gi b/\env 3= .fn S.f []/\env 9=gi i/\env 10=gi s/\env 12=gi j/\b - j=n/\1<=j/\j<=b/\E.size=d.size/\U.length<=N.length/\Holds S.e U0 N rs k v E/\shiftUp lt b j E=shiftUp lt b (i+1) D2) (b - (i+1)) 6 (fun env N=>env 0=v/\env 1=gi a/\env 2=gi b/\env 3= .fn S.f []/\env 9=gi i/\env 10=gi s/\U.length<=N.length/\Holds S.e U0 N rs k v (shiftUp lt b (i+1) D2)) ⟨i+1,D2,by simp +contextual (maxSteps:=600000) (disch:=omega) only[go_sem,e0],by simp +contextual (maxSteps:=600000) (disch:=omega) only[go_sem,e1],by simp +contextual (maxSteps:=600000) (disch:=omega) only[go_sem,e2],by simp +contextual (maxSteps:=600000) (disch:=omega) only[go_sem,e3],by simp +contextual (maxSteps:=600000) (disch:=omega) only[go_sem,e7],by simp +contextual (maxSteps:=600000) (disch:=omega) only[go_sem,e8],by simp +contextual (maxSteps:=600000) (disch:=omega) only[go_sem,e7],rfl,by omega,by omega,hD2,hle2,hH2,rfl⟩ ?_ ?_
       ·clear e0 e1 e2 e3 e7 e8
        rintro J2 Yq2 hJ2 hY2 n2 env N ⟨j,E,e0,e1,e2,e3,e7,e8,e9,hn2,hj1,hj,hE2,hle3,hH,hU⟩
        rw[shiftUp] at hU
        rcases Zab j b with hjb|hjb
        ·rw[if_pos hjb] at hU
         have c5:decide ((j:Int)<b)=true:=by simp;omega
         have j1:(j:Int) - 1=((j - 1:Nat):Int):=by omega
         simp +contextual (maxSteps:=600000) (disch:=omega) only[go_sem,e0,e1,e2,e3,e7,e8,e9,c5,j1,A5,hH.iad (j:=j) (by omega),hH.ld (j:=j) (by omega),hH.iad (j:=j - 1) (by omega),hH.ld (j:=j - 1) (by omega)]
         refine A9 (S.call _ _ _) ?_
         cases hl:lt E[j]! E[j - 1]! with
         |false=>
          rw[if_pos (by simp[hl])] at hU
          simp +contextual (maxSteps:=600000) (disch:=omega) only[go_sem,e0,e1,e2,e3,e7,e8,e9,hl,S.klt]
          refine hY2 _ _ ⟨?_,?_,?_,?_,?_,?_,hle3,by rw[<- hU];exact hH⟩
          all_goals simp +contextual (maxSteps:=600000) (disch:=omega) only[go_sem,e0,e1,e2,e3,e7,e8]
         |true=>
          rw[if_neg (by simp[hl])] at hU
          obtain⟨N3,N4,s3,s4,hH4,hl4⟩:=hH.sw (a:=j) (b:=j - 1) (by omega) (by omega)
          simp +contextual (maxSteps:=600000) (disch:=omega) only[go_sem,e0,e1,e2,e3,e7,e8,e9,j1,A5,hl,S.klt,hH.iad (j:=j) (by omega),hH.ld (j:=j) (by omega),hH.iad (j:=j - 1) (by omega),hH.ld (j:=j - 1) (by omega),s3,s4]
          refine⟨b - (j+1),by omega,hJ2 _ _ _ ⟨j+1,swp E j (j - 1),?_,?_,?_,?_,?_,?_,?_,rfl,by omega,by omega,by rw[Go.Sort.swp_size];exact hE2,by omega,hH4,hU⟩⟩
          all_goals simp +contextual (maxSteps:=600000) (disch:=omega) only[go_sem,e0,e1,e2,e3,e7,e8,e9]
        ·rw[if_neg (by omega)] at hU
         have c5:decide ((j:Int)<b)=false:=by simp;omega
         simp +contextual (maxSteps:=600000) (disch:=omega) only[go_sem,e0,e1,e2,e3,e7,e8,e9,c5]
         refine hY2 _ _ ⟨?_,?_,?_,?_,?_,?_,hle3,by rw[<- hU];exact hH⟩
         all_goals simp +contextual (maxSteps:=600000) (disch:=omega) only[go_sem,e0,e1,e2,e3,e7,e8]
       clear e0 e1 e2 e3 e7 e8 hH2 hle2
       rintro env N ⟨e0,e1,e2,e3,e7,e8,hle2,hH2⟩
       simp +contextual (maxSteps:=600000) (disch:=omega) only[go_sem,e0,e1,e2,e3,e7,e8]
       refine⟨n - 1,by omega,hJ _ _ _ ⟨s+1,i,_,?_,?_,?_,?_,?_,?_,by omega,by omega,by omega,by omega,(by rw[shiftUp_size lt b _ _ _ rfl];exact hD2),hle2,hH2,by rw[<- hE];congr 1;omega⟩⟩
       all_goals simp +contextual (maxSteps:=600000) (disch:=omega) only[go_sem,e0,e1,e2,e3,e7,e8]
      ·rw[if_neg hB] at hE
       have cB:decide ((2:Int)<=(b:Int) - i)=false:=by simp;omega
       simp +contextual (maxSteps:=600000) (disch:=omega) only[go_sem,e0,e1,e2,e3,e7,e8,cB,cA]
       refine⟨n - 1,by omega,hJ _ _ _ ⟨s+1,i,_,?_,?_,?_,?_,?_,?_,by omega,by omega,by omega,by omega,hD2,hle2,hH2,by rw[<- hE];congr 1;omega⟩⟩
       all_goals simp +contextual (maxSteps:=600000) (disch:=omega) only[go_sem,e0,e1,e2,e3,e7,e8]
  ·have c0:decide ((s:Int)<5)=false:=by simp;omega
   have hm:5 - s=0:=by omega
   rw[hm,partialIns] at hE
   subst hE
   simp +contextual (maxSteps:=600000) (disch:=omega) only[go_sem,e0,e1,e2,e3,e7,e8,c0]
   exact⟨_,rfl,hle,rfl,hH⟩
 obtain⟨r,N,R,rfl,h⟩:=key
 exact⟨N,R,h⟩
end C
section
open Go Go.RowKit Go.Sort
set_option maxRecDepth 10000
theorem L3 {m:Int} (h:0<=m) (h':m<=18446744073709551615):IntKind.u64.wrap m=m:=by
 show(if (false&&decide (m % 2 ^ 64≥2 ^ 63))=true then m % 2 ^ 64 - 2 ^ 64 else m % 2 ^ 64)=m
 simp only[Zbg,Za3,if_false]
 omega
theorem Amf {m:Int} (h:0<=m) (h':m<=255):IntKind.u8.wrap m=m:=by
 show(if (false&&decide (m % 2 ^ 8≥2 ^ 7))=true then m % 2 ^ 8 - 2 ^ 8 else m % 2 ^ 8)=m
 simp only[Zbg,Za3,if_false]
 omega
theorem shrU {x:Nat} {c:Nat} (hc:c<=64):E3 .shr .u64 (x:Int) (c:Int)=some (.int .u64 ((x / 2 ^ c:Nat):Int)):=by
 have h2:(2:Int) ^ c=((2 ^ c:Nat):Int):=by simp
 unfold E3
 rw[if_neg (by omega)]
 show some (GV.int .u64 (Int.fdiv (x:Int) (2 ^ min ((c:Int).toNat) 64)))=_
 rw[Za5,Zaw hc,h2,Int.ofNat_fdiv]
theorem Rr {x k:Nat} (h:2 ^ k<=x):bitsLen x=k+bitsLen (x / 2 ^ k):=by rw[Ahu h];omega
theorem A8s (U:St) (x:Nat) (hx:x<=1099511627776):Ret Tryz.prog 289 [.int .u64 x] U (gi (bitsLen x)) U:=by
 refine Ae Rn (Z0z rfl) trivial ?_
 have s32:E3 .shr .u64 (x:Int) 32=some (.int .u64 ((x / 4294967296:Nat):Int)):=shrU (c:=32) (by decide)
 have key2:∀ y:Nat,y<65536->IntKind.u8.wrap ((y / 256:Nat):Int)=((y / 256:Nat):Int):=fun y hy=>Amf (by omega) (by omega)
 have key3:∀ y:Nat,y<256->IntKind.u8.wrap (y:Int)=(y:Int):=fun y hy=>Amf (by omega) (by omega)
 have i64:∀ y:Nat,y<256->IntKind.i64.wrap ((bitsLen y:Nat):Int)=((bitsLen y:Nat):Int)/\bitsLen y<=8:=fun y hy=>by
  have:bitsLen y<=8:=(bitsLen_le_iff y 8).2 (by omega)
  exact⟨Bi (by omega) (by omega),this⟩
 by_cases h1:4294967296<=x
 ·have c1:decide ((4294967296:Int)<=x)=true:=by simp;omega
  have hE:=Rr (k:=32) (x:=x) h1
  obtain⟨y,hy⟩:∃ y,y=x / 4294967296:=⟨_,rfl⟩
  have hyl:y<=256:=by omega
  rw[show (2:Nat) ^ 32=4294967296 from rfl,<-hy] at hE
  rw[<- hy] at s32
  have c2:decide ((65536:Int)<=y)=false:=by simp;omega
  by_cases h3:256<=y
  ·have c3:decide ((256:Int)<=y)=true:=by simp;omega
   have s8:E3 .shr .u64 (y:Int) 8=some (.int .u64 ((y / 256:Nat):Int)):=shrU (c:=8) (by decide)
   have hE2:=Rr (k:=8) (x:=y) h3
   obtain⟨z,hz⟩:∃ z,z=y / 256:=⟨_,rfl⟩
   have hzl:z<256:=by omega
   rw[show (2:Nat) ^ 8=256 from rfl,<-hz] at hE2
   rw[<- hz] at s8
   rw[hE,hE2]
   obtain⟨w1,w2⟩:=i64 z hzl
   simp +contextual (disch:=omega) only[go_sem,Bv,c1,s32,c2,c3,s8,key3 z hzl,A5,(show idxG (GV.str Lib.len8tab) _=_ from Tq hzl),w1]
   simp<;>omega
  ·have c3:decide ((256:Int)<=y)=false:=by simp;omega
   have hzl:y<256:=by omega
   obtain⟨w1,w2⟩:=i64 y hzl
   rw[hE]
   simp +contextual (disch:=omega) only[go_sem,Bv,c1,s32,c2,c3,key3 y hzl,A5,(show idxG (GV.str Lib.len8tab) _=_ from Tq hzl),w1]
 ·have c1:decide ((4294967296:Int)<=x)=false:=by simp;omega
  by_cases h2:65536<=x
  ·have c2:decide ((65536:Int)<=x)=true:=by simp;omega
   have s16:E3 .shr .u64 (x:Int) 16=some (.int .u64 ((x / 65536:Nat):Int)):=shrU (c:=16) (by decide)
   have hE:=Rr (k:=16) (x:=x) h2
   obtain⟨y,hy⟩:∃ y,y=x / 65536:=⟨_,rfl⟩
   have hyl:y<65536:=by omega
   rw[show (2:Nat) ^ 16=65536 from rfl,<-hy] at hE
   rw[<- hy] at s16
   by_cases h3:256<=y
   ·have c3:decide ((256:Int)<=y)=true:=by simp;omega
    have s8:E3 .shr .u64 (y:Int) 8=some (.int .u64 ((y / 256:Nat):Int)):=shrU (c:=8) (by decide)
    have hE2:=Rr (k:=8) (x:=y) h3
    obtain⟨z,hz⟩:∃ z,z=y / 256:=⟨_,rfl⟩
    have hzl:z<256:=by omega
    rw[show (2:Nat) ^ 8=256 from rfl,<-hz] at hE2
    rw[<- hz] at s8
    rw[hE,hE2]
    obtain⟨w1,w2⟩:=i64 z hzl
    simp +contextual (disch:=omega) only[go_sem,Bv,c1,s16,c2,c3,s8,key3 z hzl,A5,(show idxG (GV.str Lib.len8tab) _=_ from Tq hzl),w1]
    simp<;>omega
   ·have c3:decide ((256:Int)<=y)=false:=by simp;omega
    have hzl:y<256:=by omega
    obtain⟨w1,w2⟩:=i64 y hzl
    rw[hE]
    simp +contextual (disch:=omega) only[go_sem,Bv,c1,s16,c2,c3,key3 y hzl,A5,(show idxG (GV.str Lib.len8tab) _=_ from Tq hzl),w1]
    simp<;>omega
  ·have c2:decide ((65536:Int)<=x)=false:=by simp;omega
   by_cases h3:256<=x
   ·have c3:decide ((256:Int)<=x)=true:=by simp;omega
    have s8:E3 .shr .u64 (x:Int) 8=some (.int .u64 ((x / 256:Nat):Int)):=shrU (c:=8) (by decide)
    have hE2:=Rr (k:=8) (x:=x) h3
    obtain⟨z,hz⟩:∃ z,z=x / 256:=⟨_,rfl⟩
    have hzl:z<256:=by omega
    rw[show (2:Nat) ^ 8=256 from rfl,<-hz] at hE2
    rw[<- hz] at s8
    rw[hE2]
    obtain⟨w1,w2⟩:=i64 z hzl
    simp +contextual (disch:=omega) only[go_sem,Bv,c1,c2,c3,s8,key3 z hzl,A5,(show idxG (GV.str Lib.len8tab) _=_ from Tq hzl),w1]
    simp<;>omega
   ·have c3:decide ((256:Int)<=x)=false:=by simp;omega
    have hzl:x<256:=by omega
    obtain⟨w1,w2⟩:=i64 x hzl
    simp +contextual (disch:=omega) only[go_sem,Bv,c1,c2,c3,key3 x hzl,A5,(show idxG (GV.str Lib.len8tab) _=_ from Tq hzl),w1]
    simp<;>omega
theorem Py (U:St) (x:Nat) (hx:x<=1099511627776):Ret Tryz.prog 257 [.int .u64 x] U (gi (bitsLen x)) U:=by
 refine Ae Z4 (Z0z rfl) trivial ?_
 simp +contextual (disch:=omega) only[go_sem,Mj]
 refine A9 (A8s U x hx) ?_
 simp +contextual (disch:=omega) only[go_sem]
theorem Ak0 (U:St) (x:Nat) (hx:x<=1099511627776):Ret Tryz.prog 311 [gi x] U (.int .u64 (2 ^ bitsLen x:Nat)) U:=by
 refine Ae Jr (Z0z rfl) trivial ?_
 have w1:IntKind.u64.wrap (x:Int)=x:=L3 (by omega) (by omega)
 have hb:=Af1 hx
 have hp:2 ^ bitsLen x<=2 ^ 41:=Nat.pow_le_pow_right (by omega) hb
 have s1:E3 .shl .u64 1 ((bitsLen x:Nat):Int)=some (.int .u64 (2 ^ bitsLen x:Nat)):=by
  unfold E3
  rw[if_neg (by omega)]
  show some (GV.int .u64 (IntKind.u64.wrap (1*2 ^ min (((bitsLen x:Nat):Int).toNat) 64)))=_
  rw[Za5,Zaw (by omega),Int.one_mul]
  have h2:(2:Int) ^ bitsLen x=((2 ^ bitsLen x:Nat):Int):=by simp
  obtain⟨q,hq⟩:∃ q,q=2 ^ bitsLen x:=⟨_,rfl⟩
  rw[<- hq] at hp
  rw[h2,<-hq,L3 (by omega) (by omega)]
 simp +contextual (disch:=omega) only[go_sem,Fa,w1]
 refine A9 (Py U x hx) ?_
 simp +contextual (disch:=omega) only[go_sem,s1]
theorem Ak1 (c:Int) (hc:0<=c):∃ f:Int->Int,∀ a,E3 .shl .u64 a c=some (.int .u64 (f a)):=⟨fun a=>IntKind.u64.wrap (a*2 ^ min c.toNat IntKind.u64.bits),fun a=>by unfold E3;rw[if_neg (by omega)]⟩
theorem Ao8 (c:Int) (hc:0<=c):∃ f:Int->Int,∀ a,E3 .shr .u64 a c=some (.int .u64 (f a)):=⟨fun a=>a.fdiv (2 ^ min c.toNat IntKind.u64.bits),fun a=>by unfold E3;rw[if_neg (by omega)]⟩
theorem Ao9:∃ f:Int->Int->Int,∀ a b,binG .xor (.int .u64 a) (.int .u64 b)=some (.int .u64 (f a b)):=⟨fun a b=>IntKind.u64.wrap (BitVec.ofInt IntKind.u64.bits a ^^^ BitVec.ofInt IntKind.u64.bits b).toNat,fun a b=>rfl⟩
theorem andU {y:Int} {m:Nat} (hm:m<2 ^ 62):∃ w:Nat,w≤m/\binG .and (.int .u64 y) (.int .u64 (m:Int))=some (.int .u64 (w:Int)):=by
 have h1:(BitVec.ofInt IntKind.u64.bits y &&& BitVec.ofInt IntKind.u64.bits (m:Int)).toNat<=m:=by
  rw[BitVec.toNat_and]
  refine Nat.le_trans Nat.and_le_right ?_
  rw[BitVec.toNat_ofInt]
  show((m:Int) % ((2 ^ 64:Nat):Int)).toNat<=m
  omega
 refine⟨_,h1,?_⟩
 show some (GV.int .u64 (IntKind.u64.wrap _))=_
 rw[L3 (by omega) (by omega)]
theorem Amg {U0 U:St} {rs:List Thg} {g:Nat} {y:Int} (H:Hp U0 U rs) (m:Nat) (hm:rs[m]? =some (pt 1 g [.int .u64 y])):∃(y':Int) (N:St),Ret Tryz.prog 312 [.ptr g 0] U (.int .u64 y') N/\Hp U0 N (rs.set m (pt 1 g [.int .u64 y'])):=by
 have key:∃ r N,Ret Tryz.prog 312 [.ptr g 0] U r N/\∃ y':Int,r= .int .u64 y'/\Hp U0 N (rs.set m (pt 1 g [.int .u64 y'])):=by
  refine B8 Kz (Z0z rfl) ?_
  obtain⟨f1,hf1⟩:=Ak1 13 (by decide)
  obtain⟨f2,hf2⟩:=Ao8 7 (by decide)
  obtain⟨f3,hf3⟩:=Ak1 17 (by decide)
  obtain⟨fb,hfb⟩:=Ao9
  have e1:∀ z:Int,∀ w:GV,Ar [w] 0 [GV.int .u64 z]=[.int .u64 z]:=fun z w=>rfl
  have sg:∀ z:Int,(seg [GV.int .u64 z] 0 1).bind (mkv false)=some (.int .u64 z):=fun z=>rfl
  have hml:=(Zad.1 hm).1
  have l1:=A3 (a:=false) (n:=1) (off:=0) (H.pt m hm)
  obtain⟨N1,st1,H1,hl1⟩:=H.st m hm 1 0 (.int .u64 (fb y (f1 y))) rfl (by decide) (by simp)
  simp only[GV.cells,e1] at H1
  obtain⟨y1,hy1⟩:∃ y1,y1=fb y (f1 y):=⟨_,rfl⟩
  rw[<- hy1] at st1 H1
  have l2:=A3 (a:=false) (n:=1) (off:=0) (H1.pt m (Zac hml))
  obtain⟨N2,st2,H2,hl2⟩:=H1.st m (Zac hml) 1 0 (.int .u64 (fb y1 (f2 y1))) rfl (by decide) (by simp)
  simp only[GV.cells,e1] at H2
  obtain⟨y2,hy2⟩:∃ y1',y1'=fb y1 (f2 y1):=⟨_,rfl⟩
  rw[<- hy2] at st2 H2
  rw[Zan] at H2
  have l3:=A3 (a:=false) (n:=1) (off:=0) (H2.pt m (Zac hml))
  obtain⟨N3,st3,H3,hl3⟩:=H2.st m (Zac hml) 1 0 (.int .u64 (fb y2 (f3 y2))) rfl (by decide) (by simp)
  simp only[GV.cells,e1] at H3
  obtain⟨y3,hy3⟩:∃ y1',y1'=fb y2 (f3 y2):=⟨_,rfl⟩
  rw[<- hy3] at st3 H3
  rw[Zan] at H3
  have l4:=A3 (a:=false) (n:=1) (off:=0) (H3.pt m (Zac hml))
  simp only[sg] at l1 l2 l3 l4
  simp +contextual (disch:=omega) only[go_sem,Fv,hf1,hf2,hf3,hfb,l1,<-hy1,st1,l2,<-hy2,st2,l3,<-hy3,st3,l4]
  exact⟨_,rfl,by omega,y3,rfl,H3⟩
 obtain⟨r,N,R,y',rfl,h⟩:=key
 exact⟨y',N,R,h⟩
end
namespace C
open Go Go.RowKit Go.Proofs.YtnknigikcdgebaaGreatDoor.Sy Go.Sort
variable {Y:Type} [Inhabited Y] {lt:Y->Y->Bool} {U0 U:St} {rs:List Thg} {k g:Nat} {s:Int} {v:GV} {d:Array Y}
theorem order2_ret (S:SrtC Y lt) (H:Holds S.e U0 U (pt 1 g [gi s]::rs) (k+1) v d) {a b:Nat} (ha:a<d.size) (hb:b<d.size):∃(r1 r2:Nat) (s':Int) (N:St),Ret Tryz.prog S.q.order2 [v,gi a,gi b,.ptr g 0,.fn S.f []] U (.tup [gi r1,gi r2]) N/\Holds S.e U0 N (pt 1 g [gi s']::rs) (k+1) v d/\((r1=a/\r2=b)∨(r1=b/\r2=a)):=by
 have key:∃ r N,Ret Tryz.prog S.q.order2 [v,gi a,gi b,.ptr g 0,.fn S.f []] U r N/\∃(r1 r2:Nat) (s':Int),r= .tup [gi r1,gi r2]/\Holds S.e U0 N (pt 1 g [gi s']::rs) (k+1) v d/\((r1=a/\r2=b)∨(r1=b/\r2=a)):=by
  refine B8 S.h_order2 (Z0z rfl) ?_
  simp +contextual (disch:=omega) only[go_sem,A6j,A5,H.iad ha,H.ld ha,H.iad hb,H.ld hb]
  refine A9 (S.call _ _ _) ?_
  cases hl:lt d[b]! d[a]! with
  |true=>
   have l1:=A3 (a:=false) (n:=1) (off:=0) (H.2.pt 0 rfl)
   have l1:ldG false 1 U (.ptr g 0)=some (gi s):=l1
   obtain⟨N1,st1,H1,hl1⟩:=H.2.st 0 rfl 1 0 (gi (IntKind.i64.wrap (s+1))) rfl (by decide) (by simp)
   simp +contextual (disch:=omega) only[go_sem,hl,S.klt,l1,st1]
   exact⟨_,rfl,by omega,b,a,IntKind.i64.wrap (s+1),rfl,⟨H.1,H1⟩,.inr ⟨rfl,rfl⟩⟩
  |false=>
   simp +contextual (disch:=omega) only[go_sem,hl,S.klt]
   exact⟨_,rfl,a,b,s,rfl,H,.inl ⟨rfl,rfl⟩⟩
 obtain⟨r,N,R,r1,r2,s',rfl,h1,h2⟩:=key
 exact⟨r1,r2,s',N,R,h1,h2⟩
theorem median_ret (S:SrtC Y lt) (H:Holds S.e U0 U (pt 1 g [gi s]::rs) (k+1) v d) {a b c:Nat} (ha:a<d.size) (hb:b<d.size) (hc:c<d.size):∃(r1:Nat) (s':Int) (N:St),Ret Tryz.prog S.q.median [v,gi a,gi b,gi c,.ptr g 0,.fn S.f []] U (gi r1) N/\Holds S.e U0 N (pt 1 g [gi s']::rs) (k+1) v d/\(r1=a∨r1=b∨r1=c):=by
 have key:∃ r N,Ret Tryz.prog S.q.median [v,gi a,gi b,gi c,.ptr g 0,.fn S.f []] U r N/\∃(r1:Nat) (s':Int),r=gi r1/\Holds S.e U0 N (pt 1 g [gi s']::rs) (k+1) v d/\(r1=a∨r1=b∨r1=c):=by
  refine B8 S.h_median (Z0z rfl) ?_
  simp +contextual (disch:=omega) only[go_sem,A6h]
  obtain⟨a1,b1,s1,N1,R1,H1,h1⟩:=order2_ret S H ha hb
  refine Am R1 ?_
  simp +contextual (disch:=omega) only[go_sem]
  obtain⟨b2,c2,s2,N2,R2,H2,h2⟩:=order2_ret S H1 (a:=b1) (b:=c) (by omega) hc
  refine Am R2 ?_
  simp +contextual (disch:=omega) only[go_sem]
  obtain⟨a3,b3,s3,N3,R3,H3,h3⟩:=order2_ret S H2 (a:=a1) (b:=b2) (by omega) (by omega)
  refine Am R3 ?_
  simp +contextual (disch:=omega) only[go_sem]
  have:=R1.2.1
  have:=R2.2.1
  have:=R3.2.1
  exact⟨_,rfl,by omega,b3,s3,rfl,H3,by omega⟩
 obtain⟨r,N,R,r1,s',rfl,h1,h2⟩:=key
 exact⟨r1,s',N,R,h1,h2⟩
theorem medAdj_ret (S:SrtC Y lt) (H:Holds S.e U0 U (pt 1 g [gi s]::rs) (k+1) v d) {a:Nat} (h0:0<a) (ha:a+1<d.size) (hs:d.size<=1099511627776):∃(r1:Nat) (s':Int) (N:St),Ret Tryz.prog S.q.medianAdjacent [v,gi a,.ptr g 0,.fn S.f []] U (gi r1) N/\Holds S.e U0 N (pt 1 g [gi s']::rs) (k+1) v d/\a<=r1+1/\r1<=a+1:=by
 have key:∃ r N,Ret Tryz.prog S.q.medianAdjacent [v,gi a,.ptr g 0,.fn S.f []] U r N/\∃(r1:Nat) (s':Int),r=gi r1/\Holds S.e U0 N (pt 1 g [gi s']::rs) (k+1) v d/\a<=r1+1/\r1<=a+1:=by
  refine B8 S.h_medianAdjacent (Z0z rfl) ?_
  obtain⟨p,rfl⟩:∃ p,a=p+1:=⟨a - 1,by omega⟩
  have p1:(p:Int)+1 - 1=p:=by omega
  simp +contextual (disch:=omega) only[go_sem,Iq,p1]
  obtain⟨r1,s1,N1,R1,H1,h1⟩:=median_ret S H (a:=p) (b:=p+1) (c:=p+1+1) (by omega) (by omega) (by omega)
  refine Am R1 ?_
  simp +contextual (disch:=omega) only[go_sem]
  have:=R1.2.1
  exact⟨_,rfl,by omega,r1,s1,rfl,H1,by omega,by omega⟩
 obtain⟨r,N,R,r1,s',rfl,h1,h2⟩:=key
 exact⟨r1,s',N,R,h1,h2⟩
theorem choose_ret (S:SrtC Y lt) (H:Holds S.e U0 U rs k v d) {a b:Nat} (hab:a<b) (hb:b<=d.size) (hs:d.size<=1099511627776):∃(p h:Nat) (N:St),Ret Tryz.prog S.q.choosePivot [v,gi a,gi b,.fn S.f []] U (.tup [gi p,gi h]) N/\Holds S.e U0 N rs k v d/\a<=p/\p<b/\h<=2:=by
 have key:∃ r N,Ret Tryz.prog S.q.choosePivot [v,gi a,gi b,.fn S.f []] U r N/\∃(p h:Nat),r= .tup [gi p,gi h]/\Holds S.e U0 N rs k v d/\a<=p/\p<b/\h<=2:=by
  refine B8 S.h_choosePivot (Z0z rfl) ?_
  obtain⟨l,hl⟩:∃ l,l=b - a:=⟨_,rfl⟩
  have hlI:(b:Int) - a=l:=by omega
  obtain⟨q,hq⟩:∃ q,q=l / 4:=⟨_,rfl⟩
  have hqI:(l:Int).tdiv 4=q:=by rw[hq];rfl
  obtain⟨i,hi⟩:∃ i,i=a+q*1:=⟨_,rfl⟩
  obtain⟨j,hj⟩:∃ i,i=a+q*2:=⟨_,rfl⟩
  obtain⟨m,hm⟩:∃ i,i=a+q*3:=⟨_,rfl⟩
  have hiI:(a:Int)+q*1=i:=by omega
  have hjI:(a:Int)+q*2=j:=by omega
  have hmI:(a:Int)+q*3=m:=by omega
  have H0:Holds S.e U0 (U++[some (.row 1 [gi 0])]) (pt 1 U.length [gi 0]::rs) (k+1) v d:=⟨by simpa using H.1,H.2.new 1 [gi 0]⟩
  have L0:(U++[some (Blk.row 1 [GV.int IntKind.i64 0])]).length=U.length+1:=by simp
  have L1:(U++[some (Blk.row 1 [gi 0])]).length=U.length+1:=L0
  by_cases h8:8<=l
  ·have c8:decide ((8:Int)<=l)=true:=by simp;omega
   by_cases h50:50<=l
   ·have c50:decide ((50:Int)<=l)=true:=by simp;omega
    simp +contextual (disch:=omega) only[go_sem,Fc,hlI,hqI,hiI,hjI,hmI,c8,c50]
    obtain⟨i1,s1,N1,R1,H1,h1,h1'⟩:=medAdj_ret S H0 (a:=i) (by omega) (by omega) hs
    refine Am R1 ?_
    simp +contextual (disch:=omega) only[go_sem]
    obtain⟨j1,s2,N2,R2,H2,h2,h2'⟩:=medAdj_ret S H1 (a:=j) (by omega) (by omega) hs
    refine Am R2 ?_
    simp +contextual (disch:=omega) only[go_sem]
    obtain⟨m1,s3,N3,R3,H3,h3,h3'⟩:=medAdj_ret S H2 (a:=m) (by omega) (by omega) hs
    refine Am R3 ?_
    simp +contextual (disch:=omega) only[go_sem]
    obtain⟨p,s4,N4,R4,H4,h4⟩:=median_ret S H3 (a:=i1) (b:=j1) (c:=m1) (by omega) (by omega) (by omega)
    refine Am R4 ?_
    have:=R1.2.1
    have:=R2.2.1
    have:=R3.2.1
    have:=R4.2.1
    have l1:ldG false 1 N4 (.ptr U.length 0)=some (gi s4):=A3 (a:=false) (n:=1) (off:=0) ((H4).2.pt 0 rfl)
    simp +contextual (disch:=omega) only[go_sem,l1]
    have hout:Holds S.e U0 N4 rs k v d:=⟨H.1,(H4).2.drop1⟩
    have key0:((s4:Int)==0)=decide ((s4:Int)=0):=rfl
    by_cases h0:(s4:Int)=0
    ·have c0:((s4:Int)==0)=true:=by simp[h0]
     simp +contextual (disch:=omega) only[go_sem,c0]
     exact⟨_,rfl,by omega,p,1,rfl,hout,by omega,by omega,by omega⟩
    ·have c0:((s4:Int)==0)=false:=by simp[h0]
     by_cases h12:(s4:Int)=12
     ·have c1:((s4:Int)==12)=true:=by simp[h12]
      simp +contextual (disch:=omega) only[go_sem,c0,c1]
      exact⟨_,rfl,by omega,p,2,rfl,hout,by omega,by omega,by omega⟩
     ·have c1:((s4:Int)==12)=false:=by simp[h12]
      simp +contextual (disch:=omega) only[go_sem,c0,c1]
      exact⟨_,rfl,by omega,p,0,rfl,hout,by omega,by omega,by omega⟩
   ·have c50:decide ((50:Int)<=l)=false:=by simp;omega
    simp +contextual (disch:=omega) only[go_sem,Fc,hlI,hqI,hiI,hjI,hmI,c8,c50]
    obtain⟨p,s4,N4,R4,H4,h4⟩:=median_ret S H0 (a:=i) (b:=j) (c:=m) (by omega) (by omega) (by omega)
    refine Am R4 ?_
    have:=R4.2.1
    have l1:ldG false 1 N4 (.ptr U.length 0)=some (gi s4):=A3 (a:=false) (n:=1) (off:=0) ((H4).2.pt 0 rfl)
    simp +contextual (disch:=omega) only[go_sem,l1]
    have hout:Holds S.e U0 N4 rs k v d:=⟨H.1,(H4).2.drop1⟩
    have key0:((s4:Int)==0)=decide ((s4:Int)=0):=rfl
    by_cases h0:(s4:Int)=0
    ·have c0:((s4:Int)==0)=true:=by simp[h0]
     simp +contextual (disch:=omega) only[go_sem,c0]
     exact⟨_,rfl,by omega,p,1,rfl,hout,by omega,by omega,by omega⟩
    ·have c0:((s4:Int)==0)=false:=by simp[h0]
     by_cases h12:(s4:Int)=12
     ·have c1:((s4:Int)==12)=true:=by simp[h12]
      simp +contextual (disch:=omega) only[go_sem,c0,c1]
      exact⟨_,rfl,by omega,p,2,rfl,hout,by omega,by omega,by omega⟩
     ·have c1:((s4:Int)==12)=false:=by simp[h12]
      simp +contextual (disch:=omega) only[go_sem,c0,c1]
      exact⟨_,rfl,by omega,p,0,rfl,hout,by omega,by omega,by omega⟩
  ·have c8:decide ((8:Int)<=l)=false:=by simp;omega
   have l1:ldG false 1 (U++[some (.row 1 [gi 0])]) (.ptr U.length 0)=some (gi 0):=A3 (a:=false) (n:=1) (off:=0) (H0.2.pt 0 rfl)
   have c0:((0:Int)==0)=true:=rfl
   simp +contextual (disch:=omega) only[go_sem,Fc,hlI,hqI,hiI,hjI,hmI,c8,l1,c0]
   exact⟨_,rfl,by omega,j,1,rfl,⟨H.1,H0.2.drop1⟩,by omega,by omega,by omega⟩
 obtain⟨r,N,R,p,h,rfl,h1,h2⟩:=key
 exact⟨p,h,N,R,h1,h2⟩
theorem break_ret (S:SrtC Y lt) (H:Holds S.e U0 U rs k v d) {a b:Nat} (hab:a<=b) (hb:b<=d.size) (hs:d.size<=1099511627776):∃(d':Array Y) (N:St),Ret Tryz.prog S.q.breakPatterns [v,gi a,gi b,.fn S.f []] U (.tup []) N/\Holds S.e U0 N rs k v d'/\PermIn a b d d':=by
 have key:∃ r N,Ret Tryz.prog S.q.breakPatterns [v,gi a,gi b,.fn S.f []] U r N/\∃(d':Array Y),r= .tup []/\Holds S.e U0 N rs k v d'/\PermIn a b d d':=by
  refine B8 S.h_breakPatterns (Z0z rfl) ?_
  obtain⟨h,hh⟩:∃ l,l=b - a:=⟨_,rfl⟩
  have hhI:(b:Int) - a=h:=by omega
  by_cases h8:8<=h
  ·have c8:decide ((8:Int)<=h)=true:=by simp;omega
   have wu:IntKind.u64.wrap (h:Int)=h:=L3 (by omega) (by omega)
   obtain⟨q,hq⟩:∃ q,q=h / 4:=⟨_,rfl⟩
   have hqI:(h:Int).tdiv 4=q:=by rw[hq];rfl
   obtain⟨m,hm⟩:∃ i,i=a+q*2:=⟨_,rfl⟩
   have hmI:(a:Int)+q*2=m:=by omega
   have hmJ:(m:Int) - 1=((m - 1:Nat):Int):=by omega
   have H0:Holds S.e U0 (U++[some (.row 1 [.int .u64 h])]) (pt 1 U.length [.int .u64 h]::rs) (k+1) v d:=⟨by simpa using H.1,H.2.new 1 [.int .u64 h]⟩
   have sp:Ar [GV.int .u64 0] 0 [GV.int .u64 (h:Int)]=[.int .u64 h]:=rfl
   simp +contextual (disch:=omega) only[go_sem,G3,hhI,c8,wu,GV.cells,sp,Zal,Zaj,Nat.reduceAdd,Zaa,Zbb,and_self,if_true]
   rw[S.hnp]
   have hbl:h<=1099511627776:=by omega
   refine A9 (Ak0 _ h hbl) ?_
   obtain⟨M,hM⟩:∃ M,M=2 ^ bitsLen h:=⟨_,rfl⟩
   have hM1:=Go.Sort.two_pow_bitsLen_le (n:=h) (by omega)
   have hM2:=Zbc (bitsLen h)
   rw[<- hM] at hM1 hM2
   rw[<- hM]
   have M1:(M:Int) - 1=((M - 1:Nat):Int):=by omega
   have wM:IntKind.u64.wrap ((M - 1:Nat):Int)=((M - 1:Nat):Int):=L3 (by omega) (by omega)
   have L0:(U++[some (Blk.row 1 [GV.int .u64 (h:Int)])]).length=U.length+1:=by simp
   simp +contextual (disch:=omega) only[go_sem,hqI,hmI,hmJ]
   refine C4 (fun n env N=>∃(x:Nat) (y:Int) (D:Array Y),env 0=v/\env 1=gi a/\env 8=gi h/\env 9= .ptr U.length 0/\env 10= .int .u64 (M:Nat)/\env 11=gi x/\m+2 - x=n/\m - 1<=x/\x<=m+2/\U.length<=N.length/\Holds S.e U0 N (pt 1 U.length [.int .u64 y]::rs) (k+1) v D/\PermIn a b d D) (m+2 - (m - 1)) ⟨m - 1,h,d,rfl,rfl,rfl,rfl,rfl,rfl,rfl,Zaa _,by omega,by omega,H0,permIn_refl _ _ _⟩ ?_
   rintro J hJ n env N ⟨x,y,D,e0,e1,e6,e7,e8,e9,hn,hx1,hx2,hle,hH,hP⟩
   have hD:D.size=d.size:=hP.1
   by_cases hx:x<=m+1
   ·have c0:decide ((x:Int)<=(m:Int)+1)=true:=by simp;omega
    simp +contextual (disch:=omega) only[go_sem,e0,e1,e6,e7,e8,e9,hqI,hmI,c0]
    rw[S.hxs]
    obtain⟨y',N1,R1,H1⟩:=Amg hH.2 0 rfl
    have hle1:=R1.2.1
    have H1:Holds S.e U0 N1 (pt 1 U.length [.int .u64 y']::rs) (k+1) v D:=⟨hH.1,H1⟩
    obtain⟨w,hw,hwE⟩:=andU (y:=y') (m:=M - 1) (by omega)
    have ww:IntKind.i64.wrap (w:Int)=w:=Bi (by omega) (by omega)
    refine Am R1 ?_
    simp +contextual (disch:=omega) only[go_sem,e0,e1,e6,e7,e8,e9,M1,wM,hwE,ww]
    obtain⟨z,hz,hzI⟩:∃ z:Nat,z<h/\(z:Int)=if h<=w then(w:Int) - h else w:=by
     by_cases hc:h<=w
     ·exact⟨w - h,by omega,by rw[if_pos hc];omega⟩
     ·exact⟨w,by omega,by rw[if_neg hc]⟩
    have nz:B5 (some (.int .i64 ((a:Int)+z)))=some (a+z):=Bh (by simp)
    obtain⟨N3,N4,s3,s4,hH4,hl4⟩:=H1.sw (a:=x) (b:=a+z) (by omega) (by omega)
    have hP2:=permIn_trans _ _ _ _ _ hP (swp_permIn D a b x (a+z) (by omega) (by omega) (by omega) (by omega) (by omega))
    by_cases hc:h<=w
    ·rw[if_pos hc] at hzI
     have cc:decide ((h:Int)<=w)=true:=by simp;omega
     simp +contextual (disch:=omega) only[go_sem,e0,e1,e6,e7,e8,e9,cc,<-hzI,nz,A5,H1.iad (j:=x) (by omega),H1.ld (j:=x) (by omega),H1.iad (j:=a+z) (by omega),H1.ld (j:=a+z) (by omega),s3,s4]
     refine⟨m+2 - (x+1),by omega,hJ _ _ _ ⟨x+1,y',_,?_,?_,?_,?_,?_,?_,rfl,by omega,by omega,by omega,hH4,hP2⟩⟩
     all_goals simp +contextual (disch:=omega) only[go_sem,e0,e1,e6,e7,e8,e9]
    ·rw[if_neg hc] at hzI
     have hzw:z=w:=by omega
     rw[hzw] at nz s3 s4 hH4 hP2 hz
     have cc:decide ((h:Int)<=w)=false:=by simp;omega
     simp +contextual (disch:=omega) only[go_sem,e0,e1,e6,e7,e8,e9,cc,nz,A5,H1.iad (j:=x) (by omega),H1.ld (j:=x) (by omega),H1.iad (j:=a+w) (by omega),H1.ld (j:=a+w) (by omega),s3,s4]
     refine⟨m+2 - (x+1),by omega,hJ _ _ _ ⟨x+1,y',_,?_,?_,?_,?_,?_,?_,rfl,by omega,by omega,by omega,hH4,hP2⟩⟩
     all_goals simp +contextual (disch:=omega) only[go_sem,e0,e1,e6,e7,e8,e9]
   ·have c0:decide ((x:Int)<=(m:Int)+1)=false:=by simp;omega
    simp +contextual (disch:=omega) only[go_sem,e0,e1,e6,e7,e8,e9,hqI,hmI,c0]
    exact⟨_,rfl,hle,D,rfl,⟨H.1,hH.2.drop1⟩,hP⟩
  ·have c8:decide ((8:Int)<=h)=false:=by simp;omega
   simp +contextual (disch:=omega) only[go_sem,G3,hhI,c8]
   exact⟨_,rfl,d,rfl,H,permIn_refl _ _ _⟩
 obtain⟨r,N,R,d',rfl,h⟩:=key
 exact⟨d',N,R,h⟩
end C
namespace C
open Go Go.RowKit Go.Proofs.YtnknigikcdgebaaGreatDoor.Sy Go.Sort
variable {Y:Type} [Inhabited Y] {lt:Y->Y->Bool} {U0:St} {rs:List Thg} {k:Nat} {v:GV}
theorem pdq_ret (S:SrtC Y lt) (hS:SWO lt):∀(n:Nat) (d:Array Y) (a b l:Nat) (U:St),b - a<=n->a<=b->b<=d.size->d.size<=1099511627776->l<=1099511627776->Below lt a b d->Holds S.e U0 U rs k v d->∃(d':Array Y) (N:St),Ret Tryz.prog S.q.pdqsort [v,gi a,gi b,gi l,.fn S.f []] U (.tup []) N/\Holds S.e U0 N rs k v d'/\PermIn a b d d'/\SortedIn lt a b d':=by
 intro n
 induction n with
 |zero=>
  intro d a b l U hn hab hb hs hl hB H
  have key:∃ r N,Ret Tryz.prog S.q.pdqsort [v,gi a,gi b,gi l,.fn S.f []] U r N/\r= .tup []/\Holds S.e U0 N rs k v (insertionSort lt d a b):=by
   refine B8 S.h_pdqsort (Z0z rfl) ?_
   obtain rfl:a=b:=by omega
   simp +contextual (disch:=omega) only[go_sem,Pw]
   refine Oy (fun n env N=>env 0=v/\env 1=gi a/\env 2=gi a/\env 4= .fn S.f []/\N=U) 0 ⟨rfl,rfl,rfl,rfl,rfl⟩ ?_
   rintro n env N ⟨e0,e1,e2,e4,rfl⟩
   have a0:(a:Int) - a=0:=by omega
   have c0:decide ((0:Int)<=12)=true:=rfl
   simp +contextual (disch:=omega) only[go_sem,e0,e1,e2,e4,a0,c0]
   obtain⟨N1,R,H1⟩:=ins_ret S H (a:=a) (b:=a) (Zaa _) hb hs
   refine Am R ?_
   simp +contextual (disch:=omega) only[go_sem]
   exact⟨_,rfl,R.2.1,rfl,H1⟩
  obtain⟨r,N,R,rfl,H1⟩:=key
  obtain⟨p1,p2⟩:=insertionSort_holds hS d a b hab hb
  exact⟨_,N,R,H1,p1,p2⟩
 |succ Nq ih=>
  intro d a b l U hn hab hb hs hl hB H
  have key:∃ r N,Ret Tryz.prog S.q.pdqsort [v,gi a,gi b,gi l,.fn S.f []] U r N/\∃ d',r= .tup []/\Holds S.e U0 N rs k v d'/\PermIn a b d d'/\SortedIn lt a b d':=by
   refine B8 S.h_pdqsort (Z0z rfl) ?_
   simp +contextual (disch:=omega) only[go_sem,Pw]
   refine C4 (fun n env N=>∃(x y l:Nat) (wb wp:Bool) (D:Array Y),env 0=v/\env 1=gi x/\env 2=gi y/\env 3=gi l/\env 4= .fn S.f []/\env 10= .bool wb/\env 11= .bool wp/\y - x=n/\l<=1099511627776/\a<=x/\x<=y/\y<=b/\D.size=d.size/\U.length<=N.length/\Holds S.e U0 N rs k v D/\Below lt x y D/\∀ R,PermIn x y D R->SortedIn lt x y R->PermIn a b d R/\SortedIn lt a b R) (b - a) ⟨a,b,l,true,true,d,rfl,rfl,rfl,rfl,rfl,rfl,rfl,rfl,hl,Zaa _,hab,Zaa _,rfl,Zaa _,H,hB,fun R h1 h2=>⟨h1,h2⟩⟩ ?_
   clear H hB hl
   rintro J hJ n env N ⟨x,y,l,wb,wp,D,e0,e1,e2,e3,e4,e8,e9,hn2,hl,hax,hxy,hyb,hD,hle,hH,hB,hfin⟩
   rw[Am5]
   obtain⟨h,hh⟩:∃ h,h=y - x:=⟨_,rfl⟩
   have hhI:(y:Int) - x=h:=by omega
   refine Cf (fun env N'=>env 0=v/\env 1=gi x/\env 2=gi y/\env 3=gi l/\env 4= .fn S.f []/\env 10= .bool wb/\env 11= .bool wp/\env 12=gi h/\N=N') (fun Yq hY=>by
    simp +contextual (disch:=omega) only[go_sem,e0,e1,e2,e3,e4,e8,e9,hhI]
    refine hY _ _ ⟨?_,?_,?_,?_,?_,?_,?_,?_,rfl⟩
    all_goals simp +contextual (disch:=omega) only[go_sem,e0,e1,e2,e3,e4,e8,e9,hhI]) ?_
   clear e0 e1 e2 e3 e4 e8 e9
   rintro env N' ⟨e0,e1,e2,e3,e4,e8,e9,e10,rfl⟩
   refine Cf (fun env N'=>env 0=v/\env 1=gi x/\env 2=gi y/\env 3=gi l/\env 4= .fn S.f []/\env 10= .bool wb/\env 11= .bool wp/\env 12=gi h/\N=N'/\12<h) (fun Yq hY=>by
    by_cases h12:h<=12
    ·have c0:decide ((h:Int)<=12)=true:=by simp;omega
     simp +contextual (disch:=omega) only[go_sem,e0,e1,e2,e3,e4,e8,e9,e10,c0]
     obtain⟨N1,R,H1⟩:=ins_ret S hH (a:=x) (b:=y) hxy (by omega) (by omega)
     refine Am R ?_
     simp +contextual (disch:=omega) only[go_sem]
     obtain⟨p1,p2⟩:=insertionSort_holds hS D x y hxy (by omega)
     have:=R.2.1
     exact⟨_,rfl,by omega,_,rfl,H1,hfin _ p1 p2⟩
    ·have c0:decide ((h:Int)<=12)=false:=by simp;omega
     simp +contextual (disch:=omega) only[go_sem,e0,e1,e2,e3,e4,e8,e9,e10,c0]
     refine hY _ _ ⟨?_,?_,?_,?_,?_,?_,?_,?_,rfl,by omega⟩
     all_goals simp +contextual (disch:=omega) only[go_sem,e0,e1,e2,e3,e4,e8,e9,e10]) ?_
   clear e0 e1 e2 e3 e4 e8 e9 e10
   rintro env N' ⟨e0,e1,e2,e3,e4,e8,e9,e10,rfl,h12⟩
   refine Cf (fun env N'=>env 0=v/\env 1=gi x/\env 2=gi y/\env 3=gi l/\env 4= .fn S.f []/\env 10= .bool wb/\env 11= .bool wp/\env 12=gi h/\N=N'/\0<l) (fun Yq hY=>by
    by_cases h0:l=0
    ·have c0:((l:Int)==0)=true:=by simp[h0]
     simp +contextual (disch:=omega) only[go_sem,e0,e1,e2,e3,e4,e8,e9,e10,c0]
     obtain⟨N1,R,H1⟩:=heap_ret S hH (a:=x) (b:=y) hxy (by omega) (by omega)
     refine Am R ?_
     simp +contextual (disch:=omega) only[go_sem]
     obtain⟨p1,p2⟩:=heapSort_holds hS D x y hxy (by omega)
     have:=R.2.1
     exact⟨_,rfl,by omega,_,rfl,H1,hfin _ p1 p2⟩
    ·have c0:((l:Int)==0)=false:=by simp;omega
     simp +contextual (disch:=omega) only[go_sem,e0,e1,e2,e3,e4,e8,e9,e10,c0]
     refine hY _ _ ⟨?_,?_,?_,?_,?_,?_,?_,?_,rfl,by omega⟩
     all_goals simp +contextual (disch:=omega) only[go_sem,e0,e1,e2,e3,e4,e8,e9,e10]) ?_
   clear e0 e1 e2 e3 e4 e8 e9 e10
   rintro env N' ⟨e0,e1,e2,e3,e4,e8,e9,e10,rfl,h0⟩
   refine Cf (fun env N'=>∃(l':Nat) (E:Array Y),env 0=v/\env 1=gi x/\env 2=gi y/\env 3=gi l'/\env 4= .fn S.f []/\env 10= .bool wb/\env 11= .bool wp/\env 12=gi h/\l'<=l/\N.length<=N'.length/\Holds S.e U0 N' rs k v E/\PermIn x y D E) (fun Yq hY=>by
    cases hwb:wb with
    |true=>
     rw[hwb] at e8
     simp +contextual (disch:=omega) only[go_sem,e0,e1,e2,e3,e4,e8,e9,e10]
     refine hY _ _ ⟨l,D,?_,?_,?_,?_,?_,?_,?_,?_,Zaa _,Zaa _,hH,permIn_refl _ _ _⟩
     all_goals simp +contextual (disch:=omega) only[go_sem,e0,e1,e2,e3,e4,e8,e9,e10,hwb]
    |false=>
     rw[hwb] at e8
     simp +contextual (disch:=omega) only[go_sem,e0,e1,e2,e3,e4,e8,e9,e10]
     obtain⟨E,N1,R,H1,p1⟩:=break_ret S hH (a:=x) (b:=y) hxy (by omega) (by omega)
     refine Am R ?_
     have l1:(l:Int) - 1=((l - 1:Nat):Int):=by omega
     simp +contextual (disch:=omega) only[go_sem,e0,e1,e2,e3,e4,e8,e9,e10]
     refine hY _ _ ⟨l - 1,E,?_,?_,?_,?_,?_,?_,?_,?_,by omega,R.2.1,H1,p1⟩
     all_goals simp +contextual (disch:=omega) only[go_sem,e0,e1,e2,e3,e4,e8,e9,e10,l1,hwb]) ?_
   clear e0 e1 e2 e3 e4 e8 e9 e10
   rintro env N1 ⟨l1,D1,e0,e1,e2,e3,e4,e8,e9,e10,hl1,hle1,hH1,hP1⟩
   have hD1:D1.size=D.size:=hP1.1
   refine Cf (fun env N'=>∃(p q:Nat),env 0=v/\env 1=gi x/\env 2=gi y/\env 3=gi l1/\env 4= .fn S.f []/\env 10= .bool wb/\env 11= .bool wp/\env 12=gi h/\env 13=gi p/\env 14=gi q/\N1.length<=N'.length/\Holds S.e U0 N' rs k v D1/\x<=p/\p<y/\q<=2) (fun Yq hY=>by
    simp +contextual (disch:=omega) only[go_sem,e0,e1,e2,e3,e4,e8,e9,e10]
    obtain⟨p,q,N2,R,H2,g1,g2,g3⟩:=choose_ret S hH1 (a:=x) (b:=y) (by omega) (by omega) (by omega)
    refine Am R ?_
    simp +contextual (disch:=omega) only[go_sem,e0,e1,e2,e3,e4,e8,e9,e10]
    refine hY _ _ ⟨p,q,?_,?_,?_,?_,?_,?_,?_,?_,?_,?_,R.2.1,H2,g1,g2,g3⟩
    all_goals simp +contextual (disch:=omega) only[go_sem,e0,e1,e2,e3,e4,e8,e9,e10]) ?_
   clear e0 e1 e2 e3 e4 e8 e9 e10 hH hH1
   rintro env N2 ⟨p0,q0,e0,e1,e2,e3,e4,e8,e9,e10,e11,e12,hle2,hH2,g1,g2,g3⟩
   refine Cf (fun env N'=>∃(p q:Nat) (E:Array Y),env 0=v/\env 1=gi x/\env 2=gi y/\env 3=gi l1/\env 4= .fn S.f []/\env 10= .bool wb/\env 11= .bool wp/\env 12=gi h/\env 13=gi p/\env 14=gi q/\N2.length<=N'.length/\Holds S.e U0 N' rs k v E/\x<=p/\p<y/\PermIn x y D1 E) (fun Yq hY=>by
    by_cases hq:q0=2
    ·have c0:((q0:Int)==2)=true:=by simp[hq]
     simp +contextual (disch:=omega) only[go_sem,e0,e1,e2,e3,e4,e8,e9,e10,e11,e12,c0]
     obtain⟨N3,R,H3⟩:=rev_ret S hH2 (a:=x) (b:=y) (by omega) (by omega) (by omega)
     refine Am R ?_
     have r1:(y:Int) - 1 - ((p0:Int) - x)=((y - 1 - (p0 - x):Nat):Int):=by omega
     simp +contextual (disch:=omega) only[go_sem,e0,e1,e2,e3,e4,e8,e9,e10,e11,e12,r1]
     refine hY _ _ ⟨y - 1 - (p0 - x),1,_,?_,?_,?_,?_,?_,?_,?_,?_,?_,?_,R.2.1,H3,by omega,by omega,reverseRange_holds D1 x y hxy (by omega)⟩
     all_goals simp +contextual (disch:=omega) only[go_sem,e0,e1,e2,e3,e4,e8,e9,e10,e11,Zbd]
    ·have c0:((q0:Int)==2)=false:=by simp;omega
     simp +contextual (disch:=omega) only[go_sem,e0,e1,e2,e3,e4,e8,e9,e10,e11,e12,c0]
     refine hY _ _ ⟨p0,q0,D1,?_,?_,?_,?_,?_,?_,?_,?_,?_,?_,Zaa _,hH2,g1,g2,permIn_refl _ _ _⟩
     all_goals simp +contextual (disch:=omega) only[go_sem,e0,e1,e2,e3,e4,e8,e9,e10,e11,e12]) ?_
   clear e0 e1 e2 e3 e4 e8 e9 e10 e11 e12 hH2 g1 g2 g3
   rintro env N3 ⟨p,q,D2,e0,e1,e2,e3,e4,e8,e9,e10,e11,e12,hle3,hH3,g1,g2,hP2⟩
   have hD2:D2.size=D1.size:=hP2.1
   have hP02:=permIn_trans _ _ _ _ _ hP1 hP2
   have B2:Below lt x y D2:=hB.perm (by omega) hP02
   refine Cf (fun env N'=>∃(E:Array Y),env 0=v/\env 1=gi x/\env 2=gi y/\env 3=gi l1/\env 4= .fn S.f []/\env 10= .bool wb/\env 11= .bool wp/\env 12=gi h/\env 13=gi p/\N3.length<=N'.length/\Holds S.e U0 N' rs k v E/\PermIn x y D2 E) (fun Yq hY=>by
    have stay:∀ env',env' 0=v->env' 1=gi x->env' 2=gi y->env' 3=gi l1->env' 4= .fn S.f []->env' 10= .bool wb->env' 11= .bool wp->env' 12=gi h->env' 13=gi p->Yq env' N3:=fun env' a0 a1 a2 a3 a4 a8 a9 a10 a11=>hY _ _ ⟨D2,a0,a1,a2,a3,a4,a8,a9,a10,a11,Zaa _,hH3,permIn_refl _ _ _⟩
    cases hwb:wb with
    |false=>
     rw[hwb] at e8
     simp +contextual (disch:=omega) only[go_sem,e0,e1,e2,e3,e4,e8,e9,e10,e11,e12]
     refine stay _ ?_ ?_ ?_ ?_ ?_ ?_ ?_ ?_ ?_
     all_goals simp +contextual (disch:=omega) only[go_sem,e0,e1,e2,e3,e4,e8,e9,e10,e11,e12,hwb]
    |true=>
     rw[hwb] at e8
     cases hwp:wp with
     |false=>
      rw[hwp] at e9
      simp +contextual (disch:=omega) only[go_sem,e0,e1,e2,e3,e4,e8,e9,e10,e11,e12]
      refine stay _ ?_ ?_ ?_ ?_ ?_ ?_ ?_ ?_ ?_
      all_goals simp +contextual (disch:=omega) only[go_sem,e0,e1,e2,e3,e4,e8,e9,e10,e11,e12,hwb,hwp]
     |true=>
      rw[hwp] at e9
      by_cases hq:q=1
      ·have c0:((q:Int)==1)=true:=by simp[hq]
       simp +contextual (disch:=omega) only[go_sem,e0,e1,e2,e3,e4,e8,e9,e10,e11,e12,c0]
       obtain⟨N4,R,H4⟩:=pis_ret S hH3 (a:=x) (b:=y) (by omega) (by omega) (by omega)
       obtain⟨p1,p2⟩:=partialInsertionSort_holds hS D2 x y (by omega) (by omega) B2
       have:=R.2.1
       refine Am R ?_
       cases hr:(partialInsertionSort lt D2 x y).2 with
       |true=>
        simp +contextual (disch:=omega) only[go_sem]
        exact⟨_,rfl,by omega,_,rfl,H4,hfin _ (permIn_trans _ _ _ _ _ hP02 p1) (p2 hr)⟩
       |false=>
        simp +contextual (disch:=omega) only[go_sem,e0,e1,e2,e3,e4,e8,e9,e10,e11,e12]
        refine hY _ _ ⟨_,?_,?_,?_,?_,?_,?_,?_,?_,?_,R.2.1,H4,p1⟩
        all_goals simp +contextual (disch:=omega) only[go_sem,e0,e1,e2,e3,e4,e8,e9,e10,e11,e12,hwb,hwp]
      ·have c0:((q:Int)==1)=false:=by simp;omega
       simp +contextual (disch:=omega) only[go_sem,e0,e1,e2,e3,e4,e8,e9,e10,e11,e12,c0]
       refine stay _ ?_ ?_ ?_ ?_ ?_ ?_ ?_ ?_ ?_
       all_goals simp +contextual (disch:=omega) only[go_sem,e0,e1,e2,e3,e4,e8,e9,e10,e11,e12,hwb,hwp]) ?_
   clear e0 e1 e2 e3 e4 e8 e9 e10 e11 e12 hH3
   rintro env N4 ⟨D3,e0,e1,e2,e3,e4,e8,e9,e10,e11,hle4,hH4,hP3⟩
   have hD3:D3.size=D2.size:=hP3.1
   have hP03:=permIn_trans _ _ _ _ _ hP02 hP3
   have B3:Below lt x y D3:=B2.perm (by omega) hP3
   refine Cf (fun env N'=>env 0=v/\env 1=gi x/\env 2=gi y/\env 3=gi l1/\env 4= .fn S.f []/\env 10= .bool wb/\env 11= .bool wp/\env 12=gi h/\env 13=gi p/\N4=N') (fun Yq hY=>by
    rcases Zas x with hx|hx
    ·have c0:decide ((0:Int)<x)=false:=by simp;omega
     simp +contextual (disch:=omega) only[go_sem,e0,e1,e2,e3,e4,e8,e9,e10,e11,c0]
     refine hY _ _ ⟨?_,?_,?_,?_,?_,?_,?_,?_,?_,rfl⟩
     all_goals simp +contextual (disch:=omega) only[go_sem,e0,e1,e2,e3,e4,e8,e9,e10,e11]
    ·have c0:decide ((0:Int)<x)=true:=by simp;omega
     have x1:(x:Int) - 1=((x - 1:Nat):Int):=by omega
     simp +contextual (disch:=omega) only[go_sem,e0,e1,e2,e3,e4,e8,e9,e10,e11,c0,x1,A5,hH4.iad (j:=x - 1) (by omega),hH4.ld (j:=x - 1) (by omega),hH4.iad (j:=p) (by omega),hH4.ld (j:=p) (by omega)]
     refine A9 (S.call _ _ _) ?_
     cases hlt:lt D3[x - 1]! D3[p]! with
     |true=>
      simp +contextual (disch:=omega) only[go_sem,e0,e1,e2,e3,e4,e8,e9,e10,e11,c0,hlt,S.klt]
      refine hY _ _ ⟨?_,?_,?_,?_,?_,?_,?_,?_,?_,rfl⟩
      all_goals simp +contextual (disch:=omega) only[go_sem,e0,e1,e2,e3,e4,e8,e9,e10,e11]
     |false=>
      simp +contextual (disch:=omega) only[go_sem,e0,e1,e2,e3,e4,e8,e9,e10,e11,c0,hlt,S.klt]
      obtain⟨N5,R,H5⟩:=pe_ret S hH4 (a:=x) (b:=y) (p:=p) (by omega) g2 (by omega) (by omega)
      have:=R.2.1
      refine Am R ?_
      obtain⟨mid,D4,hX⟩:∃ m D4,partitionEqual lt D3 x y p=(m,D4):=⟨_,_,rfl⟩
      rw[hX] at H5
      rw[hX]
      obtain⟨k1,k2,k3,k4,k5⟩:=round_eq hS (partitionEqual_holds lt) hx g1 g2 (by omega) B3 hlt hX
      simp +contextual (disch:=omega) only[go_sem,e0,e1,e2,e3,e4,e8,e9,e10,e11]
      refine⟨y - mid,by omega,hJ _ _ _ ⟨mid,y,l1,wb,wp,D4,?_,?_,?_,?_,?_,?_,?_,rfl,by omega,by omega,k2,hyb,by omega,by omega,H5,k4,fun R h1 h2=> ?_⟩⟩
      all_goals first|(simp +contextual (disch:=omega) only[go_sem,e0,e1,e2,e3,e4,e8,e9,e10,e11];done)|skip
      obtain⟨m1,m2⟩:=k5 R h1 h2
      exact hfin R (permIn_trans _ _ _ _ _ hP03 m1) m2) ?_
   clear e0 e1 e2 e3 e4 e8 e9 e10 e11
   rintro env N' ⟨e0,e1,e2,e3,e4,e8,e9,e10,e11,rfl⟩
   obtain⟨N5,R5,H5⟩:=part_ret S hH4 (a:=x) (b:=y) (p:=p) (by omega) g2 (by omega) (by omega)
   have hle5:=R5.2.1
   obtain⟨mid,ap,D4,hX⟩:∃ m ap D4,partition lt D3 x y p=(m,ap,D4):=⟨_,_,_,rfl⟩
   rw[hX] at H5 R5
   obtain⟨k1,k2,k3,k4,k5,k6,k7⟩:=round_part hS (partition_holds lt) g1 g2 (by omega) B3 hX
   simp +contextual (disch:=omega) only[go_sem,e0,e1,e2,e3,e4,e8,e9,e10,e11]
   refine Am R5 ?_
   obtain⟨q8,hq8⟩:∃ q,q=h / 8:=⟨_,rfl⟩
   have hqI:(h:Int).tdiv 8=q8:=by rw[hq8];rfl
   have m1:(mid:Int) - x=((mid - x:Nat):Int):=by omega
   have m2:(y:Int) - mid=((y - mid:Nat):Int):=by omega
   by_cases hlr:mid - x<y - mid
   ·have c0:decide (((mid - x:Nat):Int)<((y - mid:Nat):Int))=true:=by simp;omega
    simp +contextual (disch:=omega) only[go_sem,e0,e1,e2,e3,e4,e8,e9,e10,e11,hqI,m1,m2,c0]
    obtain⟨L,N6,R6,H6,p1,p2⟩:=ih D4 x mid l1 N5 (by omega) k1 (by omega) (by omega) (by omega) k4 H5
    have hle6:=R6.2.1
    refine Am R6 ?_
    obtain⟨k8,k9⟩:=k6 L p1 p2
    have hL:L.size=D4.size:=p1.1
    simp +contextual (disch:=omega) only[go_sem,e0,e1,e2,e3,e4,e8,e9,e10,e11]
    refine⟨y - (mid+1),by omega,hJ _ _ _ ⟨mid+1,y,l1,decide ((q8:Int)<=((mid - x:Nat):Int)),ap,L,?_,?_,?_,?_,?_,?_,?_,rfl,by omega,by omega,by omega,hyb,by omega,by omega,H6,k8,fun R h1 h2=> ?_⟩⟩
    all_goals first|(simp +contextual (disch:=omega) only[go_sem,e0,e1,e2,e3,e4,e8,e9,e10,e11];done)|skip
    obtain⟨n1,n2⟩:=k9 R h1 h2
    exact hfin R (permIn_trans _ _ _ _ _ hP03 n1) n2
   ·have c0:decide (((mid - x:Nat):Int)<((y - mid:Nat):Int))=false:=by simp;omega
    simp +contextual (disch:=omega) only[go_sem,e0,e1,e2,e3,e4,e8,e9,e10,e11,hqI,m1,m2,c0]
    obtain⟨L,N6,R6,H6,p1,p2⟩:=ih D4 (mid+1) y l1 N5 (by omega) (by omega) (by omega) (by omega) (by omega) k5 H5
    have hle6:=R6.2.1
    refine Am R6 ?_
    obtain⟨k8,k9⟩:=k7 L p1 p2
    have hL:L.size=D4.size:=p1.1
    simp +contextual (disch:=omega) only[go_sem,e0,e1,e2,e3,e4,e8,e9,e10,e11]
    refine⟨mid - x,by omega,hJ _ _ _ ⟨x,mid,l1,decide ((q8:Int)<=((y - mid:Nat):Int)),ap,L,?_,?_,?_,?_,?_,?_,?_,rfl,by omega,by omega,by omega,by omega,by omega,by omega,H6,k8,fun R h1 h2=> ?_⟩⟩
    all_goals first|(simp +contextual (disch:=omega) only[go_sem,e0,e1,e2,e3,e4,e8,e9,e10,e11];done)|skip
    obtain⟨n1,n2⟩:=k9 R h1 h2
    exact hfin R (permIn_trans _ _ _ _ _ hP03 n1) n2
  obtain⟨r,N,R,d',rfl,h⟩:=key
  exact⟨d',N,R,h⟩
end C
namespace C
open Go Go.RowKit Go.Proofs.YtnknigikcdgebaaGreatDoor.Sy Go.Sort
variable {Y:Type} [Inhabited Y] {lt:Y->Y->Bool} {U0 U:St} {rs:List Thg} {v:GV}
theorem sorted_of {d d':Array Y} (h:PermIn 0 d.size d d') (h4:SortedIn lt 0 d.size d'):d'.toList.Perm d.toList/\Up lt d'.toList:=by
 obtain⟨h1,h2,h3⟩:=h
 constructor
 ·have e1:d'.extract 0 d.size=d':=by rw[<- h1];simp
  have e2:d.extract 0 d.size=d:=by simp
  rw[e1,e2] at h3
  exact h3
 ·rw[Up,Zat]
  intro i j hi hj hij
  simp only[Za0] at hi hj
  have:=h4 i j (Nat.zero_le _) hij (by omega)
  rw[getElem!_pos d' j hj,getElem!_pos d' i hi] at this
  simpa using this
theorem sort_ret (S:SrtC Y lt) (hS:SWO lt) {l:List Y} (H:Hp U0 U rs) (k:Nat) (hk:rs[k]? =some (ow S.e.p.kd v l)) (hl:l.length<=1099511627776) (htri:∀ x∈l,∀ y∈l,lt x y=false->lt y x=false->x=y):∃ N,Ret Tryz.prog S.nS [v,.fn S.f []] U (.tup []) N/\Hp U0 N (rs.set k (ow S.e.p.kd v (Br lt l))):=by
 have key:∃ r N,Ret Tryz.prog S.nS [v,.fn S.f []] U r N/\r= .tup []/\Hp U0 N (rs.set k (ow S.e.p.kd v (Br lt l))):=by
  refine B8 S.h_Sort (Z0z rfl) ?_
  have hlen:=(H.sl k hk).len
  have wu:IntKind.u64.wrap (l.length:Int)=l.length:=L3 (by omega) (by omega)
  simp +contextual (disch:=omega) only[go_sem,Agj,hlen,wu]
  refine A9 (Py U l.length hl) ?_
  simp +contextual (disch:=omega) only[go_sem]
  have HH:Holds S.e U0 U rs k v l.toArray:=Holds.of H (by simpa using hk)
  have hb:=Af1 hl
  obtain⟨d',N,R,H1,p1,p2⟩:=pdq_ret S hS l.length l.toArray 0 l.length (bitsLen l.length) U (by omega) (by omega) (by simp) (by simpa using hl) (by omega) (.inl rfl) HH
  have hz:((0:Nat):Int)=0:=rfl
  rw[hz] at R
  refine Am R ?_
  simp +contextual (disch:=omega) only[go_sem]
  have hsz:l.length=l.toArray.size:=by simp
  rw[hsz] at p1 p2
  obtain⟨q1,q2⟩:=sorted_of p1 p2
  have hE:d'.toList=Br lt l:=A1z hS htri (by simpa using q1) q2
  exact⟨_,rfl,R.2.1,rfl,by rw[<- hE];exact H1.2⟩
 obtain⟨r,N,R,rfl,h⟩:=key
 exact⟨N,R,h⟩
end C
def Lt:Fn1:=⟨17,[.t 4],(rg [oX 2 0,oX 3 1,oV 4 (ki 0)] (dw [oF 5 3 3,oL 6 5,oF 7 3 2,oL 8 7,oD 9 296 6 8,oF 10 1 3,oW 11 2 10,oF 12 1 2,oW 13 2 12] [oD 14 263 11 13,o 15 (.lit 1 2 [z0,z0] [(0,1,(.t 9)),(1,1,(.t 14))]),oC 16 294 15,oM 4 16] .ret))⟩
theorem Tr:A6 Tryz.prog 291=some Lt:=by kernel_rfl
instance:Inhabited Cell:=⟨{obj:=.empty,dot:=⟨0,0⟩,time:=0,ref:=⟨0,0⟩,val:=0,gone:=false}⟩
def Ak2:El Cell:=⟨Ak,true,fun x=>.agg (Ak.enc x),fun _=>rfl,fun _=>rfl,by decide⟩
def Ts (a b:Cell):Int:=orI (cmpI b.time a.time) (A16 b.dot a.dot)
theorem Ahv (a b:Cell):decide (Ts a b<0)=Eo a b:=by
 have key:Ts a b<0↔Eo a b=true:=by
  have h:A16 b.dot a.dot<0↔C8 b.dot a.dot=true:=by
   have h:= @Abh b.dot a.dot
   rw[<- h];simp
  have h1:= @Agb b.time a.time
  have h2:= @Anz b.time a.time
  simp only[Eo,Bool.or_eq_true,Bool.and_eq_true,decide_eq_true_eq]
  unfold Ts orI
  by_cases hz:cmpI b.time a.time=0
  ·rw[if_pos hz,h]
   have:=h2.1 hz
   constructor
   ·intro h5;exact .inr ⟨this.symm,h5⟩
   ·rintro(h5|h5)
    ·omega
    ·exact h5.2
  ·rw[if_neg hz,h1]
   have:¬ b.time=a.time:=fun e=>hz (h2.2 e)
   constructor
   ·intro h5;exact .inl h5
   ·rintro(h5|h5)
    ·exact h5
    ·exact absurd h5.1.symm this
 rw[Bool.eq_iff_iff,decide_eq_true_eq]
 exact key
theorem Rt (U:St) (a b:Cell):Ret Tryz.prog 291 [Ak2.val a,Ak2.val b] U (gi (Ts a b)) U:=by
 show Ret Tryz.prog 291 [.agg (Ak.enc a),.agg (Ak.enc b)] U (gi (Ts a b)) U
 simp only[Ag9]
 refine Ae Tr (Z0z rfl) trivial ?_
 simp +contextual (disch:=omega) only[go_sem,Lt]
 refine A9 (D7 _ _ _) ?_
 simp +contextual (disch:=omega) only[go_sem]
 refine A9 (Dy _ _ _) ?_
 simp +contextual (disch:=omega) only[go_sem]
 refine A9 (J8 _ _ [cmpI b.time a.time,A16 b.dot a.dot] (Aa6 (p:=pI) _ _ rfl rfl rfl) (by simp)) ?_
 simp +contextual (disch:=omega) only[go_sem,Aen]
 rfl
def qCell:SN:=⟨326,339,327,330,331,332,333,328,344,341,340,329,316,0,311,312⟩
def Aoa:SrtC Cell Eo where
 e:=Ak2
 q:=qCell
 f:=291
 k:=Ts
 call:=Rt
 klt:=Ahv
 h_insertionSort:=by kernel_rfl
 h_siftDown:=by kernel_rfl
 h_heapSort:=by kernel_rfl
 h_reverseRange:=by kernel_rfl
 h_partialInsertionSort:=by kernel_rfl
 h_partitionEqual:=by kernel_rfl
 h_partition:=by kernel_rfl
 h_breakPatterns:=by kernel_rfl
 h_order2:=by kernel_rfl
 h_median:=by kernel_rfl
 h_medianAdjacent:=by kernel_rfl
 h_choosePivot:=by kernel_rfl
 h_pdqsort:=by kernel_rfl
 nS:=290
 h_Sort:=by kernel_rfl
 hnp:=rfl
 hxs:=rfl
theorem Jv {U0 U:St} {rs:List Thg} {v:GV} {l:List Cell} (H:Hp U0 U rs) (k:Nat) (hk:rs[k]? =some (ow Ak.kd v l)) (hl:l.length<=1099511627776) (hn:(l.map (·.dot)).Nodup):∃ N,Ret Tryz.prog 290 [v,.fn 291 []] U (.tup []) N/\Hp U0 N (rs.set k (ow Ak.kd v (Br Eo l))):=
 C.sort_ret Aoa A20 H k hk hl fun x hx y hy h1 h2=>A21 hn hx hy (Abs h1 h2)
def Iv:Fn1:=⟨36,[.t 4],(rg [oX 2 0,oX 3 1,oV 4 kf] (.seq (rg [oF 5 3 2,oL 6 5,oF 7 3 3,oL 8 7,oB 9 .neq 6 8] (oG 9 (rg [oF 10 3 2,oL 11 10,oF 12 3 3,oL 13 12,oB 14 .gtr 11 13,oM 4 14] .ret))) (.seq (rg [oF 15 1 2,oF 16 0 15,oL 17 16,oF 18 1 3,oF 19 0 18,oL 20 19,oB 21 .neq 17 20] (oG 21 (rg [oF 22 1 2,oF 23 0 22,oL 24 23,oF 25 1 3,oF 26 0 25,oL 27 26,oB 28 .gtr 24 27,oM 4 28] .ret))) (rg [oF 29 1 2,oF 30 1 29,oL 31 30,oF 32 1 3,oF 33 1 32,oL 34 33,oB 35 .gtr 31 34,oM 4 35] .ret))))⟩
theorem A8t:A6 Tryz.prog 259=some Iv:=by kernel_rfl
def X9:Fn1:=⟨97,[.t 8],(rg [oX 4 0,oX 6 2,o 8 (.mov (.k .nilS))] (rg [o 16 (.lit 8 0 [] []),oM 9 16] (.seq (rg [oV 10 (ki 0)] (oH 0 (.seq (rg [oM 17 10,oF 18 3 4,oL 19 18,oN 20 19,oB 21 .lss 17 20] (oJ 21 0)) (.seq (.blk 1 (rg [oF 24 3 4,oL 25 24,oM 26 10,oI 27 8 25 26,oW 28 8 27,o 11 (.new [s0,z0,z0,z0,z0,z0,z0,(.bool false)]),oS 8 11 28] (.seq (rg [oF 29 0 11,oL 30 29,oM 31 1,oB 32 .neq 30 31,oM 33 32,vF 34 33 4 11,vW 35 33 2 34,vW 36 33 2 6,og 37 33 false (.eqs true [.i .i64,.i .i64] (.t 35) (.t 36)),oP 38 33 37] (oG 38 (.ext 1))) (rg [o 39 (.lit 8 0 [] []),oM 12 39] (rg [oV 13 kf] (.seq (rg [oV 14 (ki 0)] (oH 2 (.seq (rg [oM 40 14,oM 41 9,oN 42 41,oB 43 .lss 40 42] (oJ 43 2)) (.seq (.blk 3 (.seq (dw [oM 46 13,oU 47 46,oM 48 47,jW 49 48 8 11,jM 50 48 9,jM 51 48 14,jI 52 48 8 50 51,jW 53 48 8 52] [jD 54 48 259 49 53,oQ 55 48 54] (oG 55 (rg [oM 56 12,oW 57 8 11,o 58 (.lit 8 1 [s0,z0,z0,z0,z0,z0,z0,(.bool false)] [(0,8,(.t 57))]),o 59 (.app 8 72 [s0,z0,z0,z0,z0,z0,z0,(.bool false)] (.t 56) (.t 58)),oM 12 59] (.reg [oV 13 kt])))) (.reg [oM 60 12,oM 61 9,oM 62 14,oI 63 8 61 62,oW 64 8 63,o 65 (.lit 8 1 [s0,z0,z0,z0,z0,z0,z0,(.bool false)] [(0,8,(.t 64))]),o 66 (.app 8 72 [s0,z0,z0,z0,z0,z0,z0,(.bool false)] (.t 60) (.t 65)),oM 12 66]))) (.reg [oM 44 14,oZ 45 44 1,oM 14 45]))))) (.seq (rg [oM 67 13,oU 68 67] (oG 68 (.reg [oM 69 12,oW 70 8 11,o 71 (.lit 8 1 [s0,z0,z0,z0,z0,z0,z0,(.bool false)] [(0,8,(.t 70))]),o 72 (.app 8 72 [s0,z0,z0,z0,z0,z0,z0,(.bool false)] (.t 69) (.t 71)),oM 12 72]))) (.reg [oM 73 12,oM 9 73])))))))) (.reg [oM 22 10,oZ 23 22 1,oM 10 23]))))) (.seq (rg [oV 15 (ki 0)] (oH 4 (.seq (rg [oM 74 15,oM 75 9,oN 76 75,oB 77 .lss 74 76] (oJ 77 4)) (.seq (.blk 5 (rg [oM 80 3,oM 81 9,oM 82 15,oI 83 8 81 82,oW 84 8 83,o 85 (.lit 8 1 [s0,z0,z0,z0,z0,z0,z0,(.bool false)] [(0,8,(.t 84))]),o 86 (.app 8 72 [s0,z0,z0,z0,z0,z0,z0,(.bool false)] (.t 80) (.t 85)),oM 3 86] (.drw [oW 87 4 4,oM 88 1,oM 89 9,oM 90 15,oI 91 8 89 90,oF 92 1 91,oW 93 2 92] [oM 94 3,o 95 (.call 214 (oT [87,88,93,94])),oM 3 95]))) (.reg [oM 78 15,oZ 79 78 1,oM 15 79]))))) (rg [oM 96 3,oM 8 96] .ret)))))⟩
theorem A8u:A6 Tryz.prog 214=some X9:=by kernel_rfl
def A6m:Fn1:=⟨10,[.t 4],(rg [oX 2 0,o 4 (.mov (.k .nilS))] (rg [oW 5 4 2,oM 6 1,o 7 (.build [z0,z0] []),o 8 (.lit 8 0 [] []),o 9 (.call 214 (oT [5,6,7,8])),oM 4 9] .ret))⟩
theorem Af2:A6 Tryz.prog 119=some A6m:=by kernel_rfl
abbrev Tt (x:Cell):List GV:=[.str x.obj,.int .i64 x.dot.rep,.int .i64 x.dot.seq,.int .i64 x.time,.int .i64 x.ref.rep,.int .i64 x.ref.seq,.int .i64 x.val,.bool x.gone]
theorem A4l (U:St) (a b:Cell):Ret Tryz.prog 259 [.agg (Tt a),.agg (Tt b)] U (.bool (Eo a b)) U:=by
 refine Ae A8t (Z0z rfl) trivial ?_
 by_cases h1:a.time=b.time
 ·have c1:(a.time != b.time)=false:=by simp[h1]
  by_cases h2:a.dot.rep=b.dot.rep
  ·have c2:(a.dot.rep != b.dot.rep)=false:=by simp[h2]
   simp +contextual (disch:=omega) only[go_sem,Iv,c1,c2]
   simp[Eo,C8,h1,h2]
  ·have c2:(a.dot.rep != b.dot.rep)=true:=by simp[h2]
   have h3:¬ b.dot.rep=a.dot.rep:=fun e=>h2 e.symm
   simp +contextual (disch:=omega) only[go_sem,Iv,c1,c2]
   simp[Eo,C8,h1,h2,h3]
 ·have c1:(a.time != b.time)=true:=by simp[h1]
  simp +contextual (disch:=omega) only[go_sem,Iv,c1]
  simp[Eo,h1]
def Af3 (s:State) (o:ByteArray) (d:Dot):Prop:=∀(U0 U:St) (cs:List GV) (rs:List Thg) (k:Nat) (w:GV) (out:List Cell),A4.R U0 s cs->Hp U0 U rs->rs[k]? =some (ow Ak.kd w out)->out.length+(rowA (objC s.cells o) d).length<=1099511627776->
 ∃ w' N,Ret Tryz.prog 214 [.agg cs,.str o,.agg [gi d.rep,gi d.seq],w] U w' N/\Hp U0 N (rs.set k (ow Ak.kd w' (out++rowA (objC s.cells o) d)))
def A25 (o:ByteArray) (d:Dot) (c:Cell):Bool:=Jo o c&&Ci d c
theorem Aob {Y β:Type} {f:Y->List β} {l:List Y} {i:Nat} (hi:i<l.length):((l.take i).flatMap f).length+(f l[i]).length<=(l.flatMap f).length:=by
 have h:l.flatMap f=(l.take i).flatMap f++(f l[i]++(l.drop (i+1)).flatMap f):=by
  rw[<- List.flatMap_cons,<-Zau hi,<-Za1,Zax]
 rw[h,Zae,Zae];omega
theorem Ak3 {Y β:Type} {f:Y->List β} {l:List Y} {i:Nat} (hi:i<l.length):(l.take (i+1)).flatMap f=(l.take i).flatMap f++f l[i]:=by
 rw[Zag hi,Za1,List.flatMap_singleton]
theorem A6n (s:State) (o:ByteArray) (d:Dot) (hn:(s.cells.map (·.dot)).Nodup) (hl:Aa s<=1099511627776) (hf:Adq (objC s.cells o) fuel d) (IH:∀ c∈(objC s.cells o).filter (Ci d),Af3 s o c.dot):Af3 s o d:=by
 intro U0 U cs rs k w out hR0 H hk hbd
 have key:∃ r N,Ret Tryz.prog 214 [.agg cs,.str o,.agg [gi d.rep,gi d.seq],w] U r N/\Hp U0 N (rs.set k (ow Ak.kd r (out++rowA (objC s.cells o) d))):=by
  have hR1:=hR0
  obtain⟨a,b,c,v,rfl,_,_,_,hc⟩:=hR1
  obtain⟨l1,l2,l3,l4,_⟩:=Aq hl
  have hkl:=(Zad.1 hk).1
  refine Ch A8u (Z0z rfl) ?_
  have H:=((H.new 1 [a,b,c,v]).new 1 [gi d.rep,gi d.seq]).nil_Cell
  simp +contextual (disch:=omega) only[go_sem,X9]
  generalize hn1:U.length=n1 at*
  generalize hn2:(U++[some (Blk.row 1 [a,b,c,v])]).length=n2 at*
  refine F9 s.cells.length 10 0 (fun i env N=>env 1= .str o/\env 3=w/\env 4= .ptr n1 0/\env 6= .ptr n2 0/\∃ u,env 9=u/\Hp U0 N (ow Ak.kd u (Br Eo ((s.cells.take i).filter (A25 o d)))::pt 1 n2 [gi d.rep,gi d.seq]::pt 1 n1 [a,b,c,v]::rs)) (fun env N=>env 1= .str o/\env 3=w/\env 4= .ptr n1 0/\env 6= .ptr n2 0/\∃ u,env 9=u/\Hp U0 N (ow Ak.kd u ((objC s.cells o).filter (Ci d))::pt 1 n2 [gi d.rep,gi d.seq]::pt 1 n1 [a,b,c,v]::rs)) rfl ⟨rfl,rfl,rfl,by simp +contextual (disch:=omega) only[go_sem,hn2],_,rfl,H⟩ ?_ ?_ ?_
  ·clear H
   rintro J Yq hJ hY i env N hi e10 c0 ⟨e1,e3,e4,e6,u,e9,H⟩
   have C1:=A8 (hc.pre H.sub) hi
   have hab:=Ajz (lt:=Eo) (l:=s.cells) (p:=A25 o d) (i:=i)
   have hsn:=Af0 (lt:=Eo) (p:=A25 o d) hi
   have G:=H.new 1 (Tt s.cells[i])
   generalize hacc:Br Eo ((s.cells.take i).filter (A25 o d))=acc at*
   cases ho:decide (s.cells[i].obj=o) with
   |false=>
    have hk0:A25 o d s.cells[i]=false:=by simp[A25,Jo,ho]
    rw[hk0,if_neg (by simp)] at hsn
    simp +contextual (disch:=omega) only[go_sem,c0,e1,e3,e4,e6,e9,e10,C1,A3 (H.pt 2 rfl),hc.len,ho,A3 (H.pt 1 rfl)]
    refine hJ _ _ _ ⟨?_,?_,?_,?_,u,?_,by rw[hsn];exact G.drop1⟩
    all_goals simp +contextual (disch:=omega) only[go_sem,e1,e3,e4,e6,e9,e10]
   |true=>
    cases hr:decide (s.cells[i].ref=d) with
    |false=>
     have hk0:A25 o d s.cells[i]=false:=by simp[A25,Ci,hr]
     rw[hk0,if_neg (by simp)] at hsn
     simp +contextual (disch:=omega) only[go_sem,c0,e1,e3,e4,e6,e9,e10,C1,A3 (H.pt 2 rfl),hc.len,ho,A3 (G.pt 2 rfl),hr]
     refine hJ _ _ _ ⟨?_,?_,?_,?_,u,?_,by rw[hsn];exact G.drop1⟩
     all_goals simp +contextual (disch:=omega) only[go_sem,e1,e3,e4,e6,e9,e10]
    |true=>
     have hk0:A25 o d s.cells[i]=true:=by simp[A25,Jo,Ci,ho,hr]
     rw[hk0,if_pos rfl] at hsn
     have H1:=G.nil_Cell
     simp +contextual (disch:=omega) only[go_sem,c0,e1,e3,e4,e6,e9,e10,C1,A3 (H.pt 2 rfl),hc.len,ho,A3 (G.pt 2 rfl),hr]
     generalize hnx:N.length=nx at*
     generalize hx:s.cells[i]=x at*
     refine F9 acc.length 14 2 (fun j env N=>env 1= .str o/\env 3=w/\env 4= .ptr n1 0/\env 6= .ptr n2 0/\env 10=gi i/\env 9=u/\env 11= .ptr nx 0/\∃(z:GV) (put:Bool) (nxt:List Cell),env 12=z/\env 13= .bool put/\insG Eo x acc nxt j put/\Hp U0 N (ow Ak.kd z nxt::pt 1 nx (Tt x)::ow Ak.kd u acc::pt 1 n2 [gi d.rep,gi d.seq]::pt 1 n1 [a,b,c,v]::rs)) (fun env N=>env 1= .str o/\env 3=w/\env 4= .ptr n1 0/\env 6= .ptr n2 0/\env 10=gi i/\env 9=u/\env 11= .ptr nx 0/\∃(z:GV) (put:Bool) (nxt:List Cell),env 12=z/\env 13= .bool put/\insG Eo x acc nxt acc.length put/\Hp U0 N (ow Ak.kd z nxt::pt 1 nx (Tt x)::ow Ak.kd u acc::pt 1 n2 [gi d.rep,gi d.seq]::pt 1 n1 [a,b,c,v]::rs)) rfl ⟨by simp +contextual (disch:=omega) only[go_sem,e1],by simp +contextual (disch:=omega) only[go_sem,e3],by simp +contextual (disch:=omega) only[go_sem,e4],by simp +contextual (disch:=omega) only[go_sem,e6],by simp +contextual (disch:=omega) only[go_sem,e10],by simp +contextual (disch:=omega) only[go_sem,e9],by simp +contextual (disch:=omega) only[go_sem,hnx],_,false,[],by simp +contextual (disch:=omega) only[go_sem],by simp +contextual (disch:=omega) only[go_sem],Om,H1⟩ ?_ ?_ ?_
     ·clear e1 e3 e4 e6 e9 e10 H H1 G
      rintro J2 Yq2 hJ2 hY2 j env N hj e14 c1 ⟨e1,e3,e4,e6,e10,e9,e11,z,put,nxt,e12,e13,hok,H⟩
      have hnl:=C9 hok
      have i1:=A8 (H.sl 2 rfl) hj
      have hlen:=(H.sl 2 rfl).len
      cases put with
      |true=>
       obtain⟨w',N3,e5,H3⟩:=H.app_Cell 0 rfl acc[j] (by omega)
       simp +contextual (disch:=omega) only[go_sem,c1,e1,e3,e4,e6,e9,e10,e11,e12,e13,e14,i1,hlen,e5]
       refine hJ2 _ _ _ ⟨?_,?_,?_,?_,?_,?_,?_,w',true,_,?_,?_,Cv hok hj (.inl rfl),H3⟩
       all_goals simp +contextual (disch:=omega) only[go_sem,e1,e3,e4,e6,e9,e10,e11,e13]
      |false=>
       have hl:=A4l N x acc[j]
       simp +contextual (disch:=omega) only[go_sem,c1,e1,e3,e4,e6,e9,e10,e11,e12,e13,e14,i1,hlen,A3 (H.pt 1 rfl)]
       refine A9 hl ?_
       cases hlt:Eo x acc[j] with
       |false=>
        obtain⟨w',N3,e5,H3⟩:=H.app_Cell 0 rfl acc[j] (by omega)
        simp +contextual (disch:=omega) only[go_sem,c1,e1,e3,e4,e6,e9,e10,e11,e12,e13,e14,i1,hlen,A3 (H.pt 1 rfl),e5]
        refine hJ2 _ _ _ ⟨?_,?_,?_,?_,?_,?_,?_,w',false,_,?_,?_,Cv hok hj (.inr hlt),H3⟩
        all_goals simp +contextual (disch:=omega) only[go_sem,e1,e3,e4,e6,e9,e10,e11,e13]
       |true=>
        obtain⟨w',N3,e5,H3⟩:=H.app_Cell 0 rfl x (by omega)
        have H3:Hp U0 N3 (ow Ak.kd w' (nxt++[x])::pt 1 nx (Tt x)::ow Ak.kd u acc::pt 1 n2 [gi d.rep,gi d.seq]::pt 1 n1 [a,b,c,v]::rs):=H3
        have hp:=Ky hok hj hlt
        have hnl2:=C9 hp
        simp only[Zae,Zal,Zaj] at hnl2
        have i2:=A8 (H3.sl 2 rfl) hj
        obtain⟨w2,N4,e7,H4⟩:=H3.app_Cell 0 rfl acc[j] (by simp;omega)
        simp +contextual (disch:=omega) only[go_sem,c1,e1,e3,e4,e6,e9,e10,e11,e12,e13,e14,i1,hlen,A3 (H.pt 1 rfl),e5,i2,e7]
        refine hJ2 _ _ _ ⟨?_,?_,?_,?_,?_,?_,?_,w2,true,_,?_,?_,hp,H4⟩
        all_goals simp +contextual (disch:=omega) only[go_sem,e1,e3,e4,e6,e9,e10,e11,e13]
     ·clear e1 e3 e4 e6 e9 e10 H H1 G
      rintro Yq2 hY2 env N e14 c1 ⟨e1,e3,e4,e6,e10,e9,e11,z,put,nxt,e12,e13,hok,H⟩
      have hlen:=(H.sl 2 rfl).len
      simp +contextual (disch:=omega) only[go_sem,c1,e1,e3,e4,e6,e9,e10,e11,e12,e13,e14,hlen]
      refine hY2 _ _ ⟨?_,?_,?_,?_,?_,?_,?_,z,put,nxt,?_,?_,hok,H⟩
      all_goals simp +contextual (disch:=omega) only[go_sem,e1,e3,e4,e6,e9,e10,e11,e12,e13]
     ·clear e1 e3 e4 e6 e9 e10 H H1 G
      rintro env N ⟨e1,e3,e4,e6,e10,e9,e11,z,put,nxt,e12,e13,hok,H⟩
      have hnl:=C9 hok
      have hend:=On hok
      cases put with
      |true=>
       simp +contextual (disch:=omega) only[go_sem,e1,e3,e4,e6,e9,e10,e11,e12,e13]
       refine hJ _ _ _ ⟨?_,?_,?_,?_,z,?_,?_⟩
       all_goals first|(simp +contextual (disch:=omega) only[go_sem,e1,e3,e4,e6,e9,e10,e11,e12,e13];done)|skip
       rw[hsn,<-hend]
       exact((H.pick 1 rfl).drop1.pick 1 rfl).drop1
      |false=>
       obtain⟨w',N3,e5,H3⟩:=H.app_Cell 0 rfl x (by omega)
       simp +contextual (disch:=omega) only[go_sem,e1,e3,e4,e6,e9,e10,e11,e12,e13,A3 (H.pt 1 rfl),e5]
       refine hJ _ _ _ ⟨?_,?_,?_,?_,w',?_,?_⟩
       all_goals first|(simp +contextual (disch:=omega) only[go_sem,e1,e3,e4,e6,e9,e10,e11,e12,e13];done)|skip
       rw[hsn,<-hend]
       exact((H3.pick 1 rfl).drop1.pick 1 rfl).drop1
  ·clear H
   rintro Yq hY env N e10 c0 ⟨e1,e3,e4,e6,u,e9,H⟩
   rw[Zaf] at H
   have hke:Br Eo (s.cells.filter (A25 o d))=(objC s.cells o).filter (Ci d):=Ao5 hn o d
   rw[hke] at H
   simp +contextual (disch:=omega) only[go_sem,c0,e1,e3,e4,e6,e9,e10,A3 (H.pt 2 rfl),hc.len]
   refine hY _ _ ⟨?_,?_,?_,?_,u,?_,H⟩
   all_goals simp +contextual (disch:=omega) only[go_sem,e1,e3,e4,e6,e9,e10]
  ·clear H
   rintro env N ⟨e1,e3,e4,e6,u,e9,H⟩
   rw[Aex hf] at hbd ⊢
   have hkb:((objC s.cells o).filter (Ci d)).length<=s.cells.length:=Nat.le_trans (Zah _ _) (A8r _ _)
   generalize hkid:(objC s.cells o).filter (Ci d)=kids at*
   generalize hg:(fun c:Cell=>c::rowA (objC s.cells o) c.dot)=g at*
   have hkl4:k+3<(ow Ak.kd u kids::pt 1 n2 [gi d.rep,gi d.seq]::pt 1 n1 [a,b,c,v]::rs).length:=by simp;omega
   have hkk:(ow Ak.kd u kids::pt 1 n2 [gi d.rep,gi d.seq]::pt 1 n1 [a,b,c,v]::rs)[k+3]? =some (ow Ak.kd w out):=hk
   simp +contextual (disch:=omega) only[go_sem,e1,e3,e4,e6,e9]
   refine Ti kids.length 15 (fun i env N=>env 1= .str o/\env 4= .ptr n1 0/\env 9=u/\∃ w',env 3=w'/\Hp U0 N (ow Ak.kd u kids::pt 1 n2 [gi d.rep,gi d.seq]::pt 1 n1 [a,b,c,v]::rs.set k (ow Ak.kd w' (out++(kids.take i).flatMap g)))) rfl ⟨by simp +contextual (disch:=omega) only[go_sem,e1],by simp +contextual (disch:=omega) only[go_sem,e4],by simp +contextual (disch:=omega) only[go_sem,e9],w,by simp +contextual (disch:=omega) only[go_sem,e3],?_⟩ ?_ ?_
   ·have:rs.set k (ow Ak.kd w (out++(kids.take 0).flatMap g))=rs:=by
     simp only[List.take_zero,List.flatMap_nil,Zay]
     rw[<- (Zad.1 hk).2,Zao]
    rw[this];exact H
   ·clear H e1 e3 e4 e6 e9
    rintro J hJ i env N hi e15 c0 ⟨e1,e4,e9,w1,e3,H⟩
    have hfb:=Aob (f:=g) hi
    have hgl:(g kids[i]).length=1+(rowA (objC s.cells o) kids[i].dot).length:=by rw[<- hg];simp;omega
    have hmem:kids[i]∈kids:=Za8 hi
    have C1:=A8 (H.sl 0 rfl) hi
    have hlen:=(H.sl 0 rfl).len
    have hsk:(ow Ak.kd u kids::pt 1 n2 [gi d.rep,gi d.seq]::pt 1 n1 [a,b,c,v]::rs.set k (ow Ak.kd w1 (out++(kids.take i).flatMap g)))[k+3]? =some (ow Ak.kd w1 (out++(kids.take i).flatMap g)):=by
     show(rs.set k _)[k]? =_
     rw[Zac hkl]
    obtain⟨w2,N3,e5,H3⟩:=H.app_Cell (k+3) hsk kids[i] (by simp only[Zae];omega)
    have H3:Hp U0 N3 (ow Ak.kd u kids::pt 1 n2 [gi d.rep,gi d.seq]::pt 1 n1 [a,b,c,v]::(rs.set k (ow Ak.kd w1 (out++(kids.take i).flatMap g))).set k (ow Ak.kd w2 (out++(kids.take i).flatMap g++[kids[i]]))):=H3
    rw[Zan] at H3
    have C2:=A8 (H3.sl 0 rfl) hi
    have hsk2:(ow Ak.kd u kids::pt 1 n2 [gi d.rep,gi d.seq]::pt 1 n1 [a,b,c,v]::rs.set k (ow Ak.kd w2 (out++(kids.take i).flatMap g++[kids[i]])))[k+3]? =some (ow Ak.kd w2 (out++(kids.take i).flatMap g++[kids[i]])):=by
     show(rs.set k _)[k]? =_
     rw[Zac hkl]
    obtain⟨w3,N4,R4,H4⟩:=IH kids[i] hmem U0 N3 [a,b,c,v] _ (k+3) w2 _ hR0 H3 hsk2 (by simp only[Zae,Zal,Zaj];omega)
    have H4:Hp U0 N4 (ow Ak.kd u kids::pt 1 n2 [gi d.rep,gi d.seq]::pt 1 n1 [a,b,c,v]::(rs.set k (ow Ak.kd w2 (out++(kids.take i).flatMap g++[kids[i]]))).set k (ow Ak.kd w3 (out++(kids.take i).flatMap g++[kids[i]]++rowA (objC s.cells o) kids[i].dot))):=H4
    rw[Zan] at H4
    simp +contextual (disch:=omega) only[go_sem,c0,e1,e3,e4,e9,e15,C1,hlen,e5,C2,A3 (H3.pt 2 rfl),A2 (cs:=[a,b,c,v]) rfl]
    refine Am R4 ?_
    simp +contextual (disch:=omega) only[go_sem,e1,e3,e4,e9,e15]
    refine hJ _ _ _ ⟨?_,?_,?_,w3,?_,?_⟩
    all_goals first|(simp +contextual (disch:=omega) only[go_sem,e1,e3,e4,e9,e15];done)|skip
    rw[Ak3 hi]
    have:g kids[i]=[kids[i]]++rowA (objC s.cells o) kids[i].dot:=by rw[<- hg];rfl
    rw[this,<-Zak,<-Zak]
    exact H4
   ·clear H e1 e3 e4 e6 e9
    rintro env N e15 c0 ⟨e1,e4,e9,w1,e3,H⟩
    rw[Zaf] at H
    have hlen:=(H.sl 0 rfl).len
    simp +contextual (disch:=omega) only[go_sem,c0,e1,e3,e4,e9,e15,hlen]
    exact⟨_,rfl,H.drop1.drop1.drop1⟩
 obtain⟨r,N,R,h⟩:=key
 exact⟨r,N,R,h⟩
theorem Abw (s:State) (o:ByteArray) (h:CelR s.cells) (hn:(s.cells.map (·.dot)).Nodup) (hl:Aa s<=1099511627776):∀(f:Nat) (d:Dot),f≤fuel->Adq (objC s.cells o) f d->Af3 s o d
 |0,d,hf,ha=>A6n s o d hn hl (ha.le hf) fun c hc=>by
  obtain⟨h1,h2⟩:=Zaz.1 hc
  exact absurd (by simpa [Ci] using h2) (ha c h1)
 |f+1,d,hf,ha=>A6n s o d hn hl (ha.le hf) fun c hc=>by
  obtain⟨h1,h2⟩:=Zaz.1 hc
  exact Abw s o h hn hl f c.dot (by omega) (ha c h1 (by simpa [Ci] using h2))
theorem Xa (U:St) (cs:List GV) (s:State) (hR:A4.R U s cs) (o:ByteArray) (hok:Bf s=true) (hl:Aa s<=1099511627776):∃ r N,Ret Tryz.prog 119 [.agg cs,.str o] U r N/\Hp U N [ow Ak.kd r (rowC s o)]:=by
 have hc:=Pt hok
 have hn:=hc.nd
 have hb:=Ol hc o
 have hlen:=A4.len hR
 have hlen:cs.length=4:=hlen
 refine Ch Af2 (Z0z rfl) ?_
 have H:=((Hp.refl U).new 1 cs).nil_Cell
 simp +contextual (disch:=omega) only[go_sem,A6m,Oz,I5,A2 hlen]
 obtain⟨w,N,R,H1⟩:=Abw s o hc hn hl fuel ⟨0,0⟩ (Zaa _) (Agg hc o).1 U _ cs _ 0 _ [] hR H rfl (by unfold rowC at hb;simp only[Zaj];omega)
 refine Am R ?_
 simp +contextual (disch:=omega) only[go_sem]
 exact⟨_,rfl,by rw[rowC];exact H1.one⟩
theorem Xb {Y:Type} [DecidableEq Y] (x:Y):∀(a:Y) (l:List Y),Bj (a::l++[x])=if(a::l).getLast (by simp)=x then Bj (a::l) else Bj (a::l)++[x]
 |a,[]=>by
  by_cases h:a=x
  ·simp[Bj,h]
  ·simp[Bj,h]
 |a,b::r=>by
  have ih:=Xb x b r
  have e:a::b::r++[x]=a::b::(r++[x]):=rfl
  have e2:b::r++[x]=b::(r++[x]):=rfl
  rw[e2] at ih
  rw[e]
  have hc:∀(u v:Y) (t:List Y),Bj (u::v::t)=if u=v then Bj (v::t) else u::Bj (v::t):=fun u v t=>rfl
  rw[hc a b (r++[x]),hc a b r,ih]
  rw[show (a::b::r).getLast (by simp)=(b::r).getLast (by simp) from rfl]
  by_cases h1:a=b
  ·simp[h1]
  ·rw[if_neg h1,if_neg h1]
   split<;>simp
theorem Xc {Y:Type} [DecidableEq Y] {l:List Y} {i:Nat} (h0:0<i) (hi:i<l.length):Bj (l.take (i+1))=if l[i - 1]=l[i] then Bj (l.take i) else Bj (l.take i)++[l[i]]:=by
 rw[Zag hi]
 cases l with
 |nil=>simp at hi
 |cons a t=>
  obtain⟨j,rfl⟩:∃ j,i=j+1:=⟨i - 1,by omega⟩
  rw[List.take_succ_cons,Xb]
  have:(a::t.take j).getLast (by simp)=(a::t)[j+1 - 1]:=by
   rw[List.getLast_eq_getElem]
   have hl:(a::t.take j).length - 1=j:=by simp at hi ⊢;omega
   simp only[hl,Nat.add_sub_cancel]
   cases j with
   |zero=>rfl
   |succ j=>simp
  rw[this]
structure Eqs {Y:Type} [Inhabited Y] [DecidableEq Y] (e:El Y) where
 eq:∀ x y,binG .eql (e.val x) (e.val y)=some (.bool (decide (x=y)))
 ne:∀ x y,binG .neq (e.val x) (e.val y)=some (.bool (!decide (x=y)))
 ze:List GV
 hze:ze.length=e.p.z
section
variable {Y:Type} [Inhabited Y] {e:El Y} {U0 U N:St} {rs:List Thg} {v:GV} {l:List Y}
theorem El.atL (e:El Y) (H:Hp U N rs) (k:Nat) (hk:rs[k]? =some (ow e.p.kd v l)) {j:Nat} (hj:j<l.length):iadG e.p.z v (some j)=some (atz e.p.z v j)/\ldG e.g e.p.z N (atz e.p.z v j)=some (e.val l[j]):=by
 have h:=e.at (d:=l.toArray) H k (by simpa using hk) (j:=j) (by simpa using hj)
 have e1:l.toArray[j]! =l[j]:=by rw[getElem!_pos l.toArray j (by simpa using hj)];simp
 rw[e1] at h
 exact h
theorem Af4 (H:Hp U N rs) (k:Nat) (hk:rs[k]? =some (ow e.p.kd v l)) (hl:l≠[]):∃ g off,v= .sl g off l.length/\zOk N e.p.z v=true:=by
 obtain⟨a,hO,-⟩:=H.see hk
 rcases OS.flat.1 hO with⟨h,_⟩|⟨g,pre,post,rfl,hB,rfl⟩
 ·exact absurd h hl
 ·refine⟨g,pre.length,rfl,?_⟩
  simp[zOk,C7.1 hB]
theorem clrRow (H:Hp U N rs) (k:Nat) {g off:Nat} (hk:rs[k]? =some (ow e.p.kd (.sl g off l.length) l)) (ze:List GV) (hze:ze.length=e.p.z) {m:Nat} (hm:m<=l.length) (hm0:0<m):
  ∃ N',clrG e.p.z ze N (.sl g (off+m*e.p.z) (l.length - m))=some (.tup [],N')/\N'.length=N.length/\Hp U N' (rs.set k (ow e.p.kd (.sl g off m) (l.take m))):=by
 obtain⟨a,hO,hnd,hbd,ht⟩:=(H.pick k hk).turn
 have hkl:=(Zad.1 hk).1
 rcases OS.flat.1 hO with⟨rfl,h2,_⟩|⟨g',pre,post,hv,hB,rfl⟩
 ·cases h2
 ·injection hv with hg ho _
  subst hg ho
  have hcl:e.p.cells l=e.p.cells (l.take m)++e.p.cells (l.drop m):=by
   rw[<- Pl.cells_append,Zax]
  by_cases h0:l.length - m=0
  ·refine⟨N,by show(if l.length - m=0 then _ else _)=_;rw[if_pos h0],rfl,?_⟩
   have hml:m=l.length:=by omega
   subst hml
   rw[Zaf]
   exact Hp.unpick (ht (a':=[g]) ⟨by simp,fun g' h=>.inl h,by simp,fun _ _ _=>rfl⟩ hO) hkl
  ·have hlt:=(hbd g Za4).2
   have hL1:(e.p.cells (l.take m)).length=m*e.p.z:=by rw[Pl.cells_length,Zam];congr 1;omega
   have hL2:(e.p.cells (l.drop m)).length=(l.length - m)*e.p.z:=by rw[Pl.cells_length,Zav]
   have hR:(reps (l.length - m) ze).length=(l.length - m)*e.p.z:=by rw[Ki,hze]
   have hsp:Ar (pre++e.p.cells l++post) (pre.length+m*e.p.z) (reps (l.length - m) ze)=pre++e.p.cells (l.take m)++(reps (l.length - m) ze++post):=by
    rw[hcl]
    unfold Ar
    have t1:(pre++(e.p.cells (l.take m)++e.p.cells (l.drop m))++post).take (pre.length+m*e.p.z)=pre++e.p.cells (l.take m):=by
     have:pre++(e.p.cells (l.take m)++e.p.cells (l.drop m))++post=(pre++e.p.cells (l.take m))++(e.p.cells (l.drop m)++post):=by simp
     rw[this]
     exact List.take_left' (by simp[hL1])
    have t2:(pre++(e.p.cells (l.take m)++e.p.cells (l.drop m))++post).drop (pre.length+m*e.p.z+(reps (l.length - m) ze).length)=post:=by
     exact List.drop_left' (by simp[hL1,hL2,hR];omega)
    rw[t1,t2];simp
   refine⟨N.set g (some (.row e.p.z (pre++e.p.cells (l.take m)++(reps (l.length - m) ze++post)))),?_,by simp,?_⟩
   ·show(if l.length - m=0 then _ else _)=_
    rw[if_neg h0,C7.1 hB]
    show(if _ then _ else _)=_
    rw[if_pos ⟨rfl,by simp[hcl,hL1,hL2,hR];omega⟩,hsp]
   ·refine Hp.unpick (ht (a':=[g]) ⟨by simp,fun g' h=>.inl h,by simp,fun g' h h'=>I3 fun e=>h' (by rw[e];exact Za4)⟩ (OS.flat.2 (.inr ⟨g,pre,_,?_,C7.2 (by rw[Zac hlt]),rfl⟩))) hkl
    rw[Zam,Zaw hm]
theorem cutLo {z g off n k:Nat} (h:k<=n):cutG z (.sl g off n) (some (gi (k:Nat))) none=some (.sl g (off+k*z) (n - k)):=by
 simp[cutG,bndG,A5,h]
theorem cutHi {z g off n k:Nat} (h:k<=n):cutG z (.sl g off n) none (some (gi (k:Nat)))=some (.sl g off k):=by
 simp[cutG,bndG,A5,h]
theorem Amh {z g off n k j:Nat} (h:k+j<n):iadG z (.sl g (off+k*z) (n - k)) (some j)=some (atz z (.sl g off n) (k+j)):=by
 have:j<n - k:=by omega
 simp only[iadG,atz,Nat.add_mul]
 simp[this,Nat.add_assoc]
theorem Af5 [DecidableEq Y] (E:Eqs e) {nC:Nat} (hC:A6 Tryz.prog nC=some (Rq e.p.z e.g E.ze)) (H:Hp U0 U rs) (k:Nat) (hk:rs[k]? =some (ow e.p.kd v l)) (hl:l.length<=1099511627776):∃ v' N,Ret Tryz.prog nC [v] U v' N/\Hp U0 N (rs.set k (ow e.p.kd v' (Bj l))):=by
 have key:∃ r N,Ret Tryz.prog nC [v] U r N/\Hp U0 N (rs.set k (ow e.p.kd r (Bj l))):=by
  refine B8 hC (Z0z rfl) ?_
  have hlen:=(H.sl k hk).len
  have hkl:=(Zad.1 hk).1
  rcases Zab l.length 2 with h2|h2
  ·have c0:decide ((l.length:Int)<2)=true:=by simp;omega
   simp +contextual (maxSteps:=600000) (disch:=omega) only[go_sem,Rq,hlen,c0]
   have hcl:Bj l=l:=by
    match l,h2 with
    |[],_=>rfl
    |[x],_=>rfl
   rw[hcl]
   exact⟨_,rfl,by rw[<- (Zad.1 hk).2,Zao];exact H⟩
  ·have c0:decide ((l.length:Int)<2)=false:=by simp;omega
   have hne:l≠[]:=fun h=>by rw[h] at h2;simp at h2
   obtain⟨g,off,rfl,hz0⟩:=Af4 H k hk hne
   simp +contextual (maxSteps:=600000) (disch:=omega) only[go_sem,Rq,hlen,c0]
   have Hs:Hp U0 U (rs.set k (ow e.p.kd (.sl g off l.length) l)):=by rw[<- (Zad.1 hk).2,Zao];exact H
   refine C4 (fun n env N=>∃ i:Nat,env 0= .sl g off l.length/\env 3=gi i/\l.length - i=n/\0<i/\i<=l.length/\U=N/\Bj (l.take i)=l.take i) (l.length - 1) ⟨1,rfl,rfl,rfl,by omega,by omega,rfl,by
    match l,h2 with
    |x::t,_=>simp[Bj]⟩ ?_
   rintro J hJ n env N ⟨i,e0,e3,hn,hi0,hi,rfl,hT⟩
   rcases Zab i l.length with hlt|hge
   ·have c1:decide ((i:Int)<l.length)=true:=by simp;omega
    have i1:(i:Int) - 1=((i - 1:Nat):Int):=by omega
    obtain⟨a1,b1⟩:=e.atL H k hk hlt
    obtain⟨a2,b2⟩:=e.atL H k hk (j:=i - 1) (by omega)
    have hS:=Xc hi0 hlt
    by_cases hE:l[i]=l[i - 1]
    ·rw[if_pos hE.symm] at hS
     have dE:decide (l[i]=l[i - 1])=true:=decide_eq_true hE
     simp +contextual (maxSteps:=600000) (disch:=omega) only[go_sem,e0,e3,hlen,c1,i1,A5,a1,b1,a2,b2,E.eq,dE,hz0,cutLo hi,Zap,Zaq]
     refine C4 (fun n env N=>∃(j m:Nat) (D:List Y),env 0= .sl g off l.length/\env 4= .sl g (off+i*e.p.z) (l.length - i)/\env 3=gi m/\env 5=gi j/\l.length - i - j=n/\0<j/\i+j<=l.length/\i<=m/\m+1<=i+j/\D.length=l.length/\(∀ q (h1:q<D.length) (h2:q<l.length),i+j<=q+1->D[q]=l[q])/\Bj (l.take (i+j))=D.take m/\U.length<=N.length/\Hp U0 N (rs.set k (ow e.p.kd (.sl g off l.length) D))) (l.length - i - 1) ⟨1,i,l,by simp +contextual (maxSteps:=600000) (disch:=omega) only[go_sem,e0],by simp +contextual (maxSteps:=600000) (disch:=omega) only[go_sem,e0],by simp +contextual (maxSteps:=600000) (disch:=omega) only[go_sem,e3],rfl,rfl,by omega,by omega,Zaa _,by omega,rfl,fun q h1 h2 _=>rfl,by rw[hS,hT],Zaa _,Hs⟩ ?_
     clear e0 e3
     rintro J2 hJ2 n2 env N ⟨j,m,D,e0,e4,e3,e5,hn2,hj0,hij,hm1,hm2,hD,hA,hT2,hle,hH⟩
     have hkk:(rs.set k (ow e.p.kd (.sl g off l.length) D))[k]? =some (ow e.p.kd (.sl g off l.length) D):=by rw[Zac hkl]
     have hlen2:=(hH.sl k hkk).len
     have hlen2:lenG false (.sl g off l.length)=some (l.length:Int):=hlen
     have hlen3:lenG false (.sl g (off+i*e.p.z) (l.length - i))=some ((l.length - i:Nat):Int):=rfl
     have hDne:D≠[]:=fun h=>by rw[h] at hD;simp at hD;omega
     have hz1:zOk N e.p.z (.sl g off l.length)=true:=by
      obtain⟨g',off',hv,hz⟩:=Af4 hH k hkk hDne
      exact hz
     rcases Zab (i+j) l.length with hlt2|hge2
     ·have c2:decide ((j:Int)<((l.length - i:Nat):Int))=true:=by simp;omega
      have j1:(j:Int) - 1=((j - 1:Nat):Int):=by omega
      have x1:=Amh (z:=e.p.z) (g:=g) (off:=off) (n:=l.length) (k:=i) (j:=j) hlt2
      have x2:=Amh (z:=e.p.z) (g:=g) (off:=off) (n:=l.length) (k:=i) (j:=j - 1) (by omega)
      obtain⟨-,b1⟩:=e.atL hH k hkk (j:=i+j) (by omega)
      obtain⟨-,b2⟩:=e.atL hH k hkk (j:=i+(j - 1)) (by omega)
      obtain⟨a3,-⟩:=e.atL hH k hkk (j:=m) (by omega)
      rw[hA (i+j) (by omega) hlt2 (by omega)] at b1
      rw[hA (i+(j - 1)) (by omega) (by omega) (by omega)] at b2
      have hS2:=Xc (l:=l) (i:=i+j) (by omega) hlt2
      have hix:i+j - 1=i+(j - 1):=by omega
      by_cases hE2:l[i+j]=l[i+(j - 1)]
      ·rw[if_pos (by simp only[hix];exact hE2.symm),hT2] at hS2
       have dE:decide (l[i+j]=l[i+(j - 1)])=true:=decide_eq_true hE2
       simp +contextual (maxSteps:=600000) (disch:=omega) only[go_sem,e0,e3,e4,e5,hlen3,c2,j1,A5,x1,x2,b1,b2,E.ne,dE]
       refine⟨l.length - i - (j+1),by omega,hJ2 _ _ _ ⟨j+1,m,D,?_,?_,?_,?_,rfl,by omega,by omega,hm1,by omega,hD,fun q h1 h2 h3=>hA q h1 h2 (by omega),hS2,hle,hH⟩⟩
       all_goals simp +contextual (maxSteps:=600000) (disch:=omega) only[go_sem,e0,e3,e4,e5]
      ·rw[if_neg (by simp only[hix];exact fun h=>hE2 h.symm),hT2] at hS2
       have dE:decide (l[i+j]=l[i+(j - 1)])=false:=decide_eq_false hE2
       obtain⟨N3,s3,H3⟩:=hH.stw k hkk (j:=m) (by omega) e.p.z (e.val l[i+j]) l[i+j] (e.hc _) rfl e.hz
       rw[Zan] at H3
       simp +contextual (maxSteps:=600000) (disch:=omega) only[go_sem,e0,e3,e4,e5,hlen3,c2,j1,A5,x1,x2,b1,b2,E.ne,dE,a3,s3]
       have:=Ady s3
       refine⟨l.length - i - (j+1),by omega,hJ2 _ _ _ ⟨j+1,m+1,D.set m l[i+j],?_,?_,?_,?_,rfl,by omega,by omega,by omega,by omega,by simpa using hD,fun q h1 h2 h3=> ?_,?_,by omega,H3⟩⟩
       all_goals first|(simp +contextual (maxSteps:=600000) (disch:=omega) only[go_sem,e0,e3,e4,e5];done)|skip
       ·rw[List.getElem_set_ne (by omega)]
        exact hA q (by simpa using h1) h2 (by omega)
       ·have e9:i+(j+1)=i+j+1:=by omega
        rw[e9,hS2,Zag (by simp;omega),List.getElem_set_self,List.take_set_of_le (Zaa _)]
     ·have c2:decide ((j:Int)<((l.length - i:Nat):Int))=false:=by simp;omega
      have hfull:i+j=l.length:=by omega
      rw[hfull,Zaf] at hT2
      rw[<- hD] at hkk
      obtain⟨N3,s3,hl3,H3⟩:=clrRow hH k (by rw[hD];rw[hD] at hkk;exact hkk) E.ze E.hze (m:=m) (by omega) (by omega)
      rw[hD] at s3
      rw[Zan,<-hT2] at H3
      have hcne:Bj l≠[]:=fun h=>by
       have h9:=congrArg List.length hT2
       rw[h,Zam] at h9
       simp at h9;omega
      have hz3:zOk N3 e.p.z (.sl g off l.length)=true:=by
       obtain⟨g',off',hv,hz⟩:=Af4 H3 k (by rw[Zac hkl]) hcne
       exact hz
      simp +contextual (maxSteps:=600000) (disch:=omega) only[go_sem,e0,e3,e4,e5,hlen3,c2,hz1,hz3,cutLo (show m<=l.length by omega),cutHi (show m<=l.length by omega),s3,Zap,Zaq]
      exact⟨_,rfl,by omega,H3⟩
    ·rw[if_neg (fun h=>hE h.symm),hT] at hS
     have dE:decide (l[i]=l[i - 1])=false:=decide_eq_false hE
     simp +contextual (maxSteps:=600000) (disch:=omega) only[go_sem,e0,e3,hlen,c1,i1,A5,a1,b1,a2,b2,E.eq,dE]
     refine⟨l.length - (i+1),by omega,hJ _ _ _ ⟨i+1,?_,?_,rfl,by omega,by omega,rfl,by rw[hS,Zag hlt]⟩⟩
     all_goals simp +contextual (maxSteps:=600000) (disch:=omega) only[go_sem,e0,e3]
   ·have c1:decide ((i:Int)<l.length)=false:=by simp;omega
    simp +contextual (maxSteps:=600000) (disch:=omega) only[go_sem,e0,e3,hlen,c1]
    have:i=l.length:=by omega
    rw[this,Zaf] at hT
    exact⟨_,rfl,by rw[hT];exact Hs⟩
 obtain⟨r,N,R,h⟩:=key
 exact⟨r,N,R,h⟩
end
def A27:Fn1:=⟨82,[.t 4],(rg [oX 2 0,o 4 (.mov (.k .nilS))] (rg [o 12 (.lit 2 0 [] []),oM 5 12] (.seq (rg [oW 13 4 2,oC 14 160 13,oU 15 14] (oG 15 (rg [oM 16 5,oM 4 16] .ret))) (rg [o 17 (.lit 8 0 [] []),oM 6 17] (.seq (rg [oF 18 3 2,oL 19 18,oN 20 19,oV 21 (ki 0)] (oH 0 (rg [oB 22 .lss 21 20] (.seq (oJ 22 0) (.seq (.blk 1 (rg [oI 23 8 19 21,oW 24 8 23,o 8 (.new [s0,z0,z0,z0,z0,z0,z0,(.bool false)]),oS 8 8 24] (rg [oF 25 0 8,oL 26 25,oM 27 1,oB 28 .eql 26 27] (oG 28 (.reg [oM 29 6,oW 30 8 8,o 31 (.lit 8 1 [s0,z0,z0,z0,z0,z0,z0,(.bool false)] [(0,8,(.t 30))]),o 32 (.app 8 72 [s0,z0,z0,z0,z0,z0,z0,(.bool false)] (.t 29) (.t 31)),oM 6 32]))))) (.reg [oZ 33 21 1,oM 21 33])))))) (rg [oM 34 6,o 35 (.call 290 [(.t 34),(.k (.fn 291 []))])] (rg [o 36 (.build [z0,z0] []),o 37 (.lit 2 1 [z0,z0] [(0,2,(.t 36))]),oM 9 37] (.seq (oH 2 (.seq (rg [oM 38 9,oN 39 38,oE 40 .gtr 39 0] (oJ 40 2)) (.blk 3 (rg [oM 41 9,oM 42 9,oN 43 42,oE 44 .sub 43 1,oI 45 2 41 44,oW 46 2 45,o 10 (.new [z0,z0]),oS 2 10 46] (rg [oM 47 9,oM 48 9,oN 49 48,oE 50 .sub 49 1,o 51 (.cut 2 (.t 47) none (some (.t 50))),oM 9 51] (.seq (rg [oW 52 2 10,o 53 (.build [z0,z0] []),o 54 (.eqs true [.i .i64,.i .i64] (.t 52) (.t 53))] (oG 54 (.reg [oM 55 5,oW 56 2 10,o 57 (.lit 2 1 [z0,z0] [(0,2,(.t 56))]),o 58 (.app 2 16 [z0,z0] (.t 55) (.t 57)),oM 5 58]))) (rg [oM 59 6,oN 60 59,oE 61 .sub 60 1,oM 11 61] (oH 4 (.seq (rg [oM 62 11,oE 63 .geq 62 0] (oJ 63 4)) (.seq (.blk 5 (dw [oM 66 6,oM 67 11,oI 68 8 66 67,oF 69 4 68,oW 70 2 69,oW 71 2 10] [o 72 (.eqs false [.i .i64,.i .i64] (.t 70) (.t 71))] (oG 72 (.reg [oM 73 9,oM 74 6,oM 75 11,oI 76 8 74 75,oF 77 1 76,oW 78 2 77,o 79 (.lit 2 1 [z0,z0] [(0,2,(.t 78))]),o 80 (.app 2 16 [z0,z0] (.t 73) (.t 79)),oM 9 80])))) (.reg [oM 64 11,oE 65 .sub 64 1,oM 11 65]))))))))))) (rg [oM 81 5,oM 4 81] .ret)))))))))⟩
theorem Abx:A6 Tryz.prog 258=some A27:=by kernel_rfl
theorem Alm {l:List Cell} {o:ByteArray} {i:Nat} (hi:i<l.length):(l.take (i+1)).filter (Jo o)=if Jo o l[i] then(l.take i).filter (Jo o)++[l[i]] else(l.take i).filter (Jo o):=by
 rw[Ew hi]
 split<;>simp
theorem Ak4 {l:List Cell} (d:Dot) {j:Nat} (hj:j<l.length):((l.drop j).filter (Ci d))=if Ci d l[j] then l[j]::(l.drop (j+1)).filter (Ci d) else(l.drop (j+1)).filter (Ci d):=by
 rw[Zau hj,List.filter_cons]
theorem Hp.popDot {U N:St} {rs:List Thg} {v:GV} {S:List Dot} {d:Dot} (H:Hp U N rs) (k:Nat) (hk:rs[k]? =some (ow pDot.kd v (S++[d]))):∃ g off,v= .sl g off (S.length+1)/\zOk N 2 v=true/\Hp U N (rs.set k (ow pDot.kd (.sl g off S.length) S)):=by
 obtain⟨a,hO,hnd,hbd,ht⟩:=(H.pick k hk).turn
 have hkl:=(Zad.1 hk).1
 rcases OS.flat.1 hO with⟨h,_⟩|⟨g,pre,post,rfl,hB,rfl⟩
 ·simp at h
 ·refine⟨g,pre.length,by simp,?_,?_⟩
  ·have:zOk N 2 (.sl g pre.length (S++[d]).length)=true:=by simp[zOk,C7.1 hB];rfl
   exact this
  ·refine Hp.unpick (ht (a':=[g]) ⟨by simp,fun g' h=>.inl h,by simp,fun _ _ _=>rfl⟩ (OS.flat.2 (.inr ⟨g,pre,pDot.cells [d]++post,rfl,?_,rfl⟩))) hkl
   rw[hB,Pl.cells_append];simp
theorem Af6 {P:Program} {a:Cd} {Q:Ex->Env->St->Prop} {env:Env} {U:St} (I:Nat->Env->St->Prop) (n j0:Nat) (X:Env->St->Prop) (h0:I n env U)
  (hs:∀(J:Nat->Env->St->Prop) (Yq:Env->St->Prop),(∀ k env U,I k env U->J k env U)->(∀ env U,X env U->Yq env U)->∀ k env U,I k env U->vc P a (fun e env' U'=>match e with| .nxt=>∃ k',k'<k/\J k' env' U'| .ext j=>j=j0/\Yq env' U'| .ret=>False) env U)
  (hx:∀ env U,X env U->Q (.ext j0) env U):vc P (.lop a) Q env U:=by
 refine Oy I n h0 fun k env U hI=>B7 (hs I X (fun _ _ _ h=>h) (fun _ _ h=>h) k env U hI) fun e env' U' he=> ?_
 cases e with
 |nxt=>exact he
 |ret=>exact he.elim
 |ext j=>obtain⟨rfl,he⟩:=he;exact hx _ _ he
theorem A8v (U:St) (cs:List GV) (s:State) (hR:A4.R U s cs) (o:ByteArray) (hl:Aa s<=1099511627776):∃ r N,Ret Tryz.prog 258 [.agg cs,.str o] U r N/\Hp U N [ow pDot.kd r (rowD s o)]:=by
 have hR0:=hR
 obtain⟨a,b,c,v,rfl,_,_,_,hc⟩:=hR
 obtain⟨l1,l2,l3,l4,_⟩:=Aq hl
 refine Ch Abx (Z0z rfl) ?_
 have H:=((Hp.refl U).new 1 [a,b,c,v]).nil_Dot
 simp +contextual (disch:=omega) only[go_sem,A27,Oz,I5,A2 (cs:=[a,b,c,v]) rfl]
 refine Ac (A8o _ _ s (A4.pre hR0 H.sub) hl) (fun hok=> ?_) (fun hok=> ?_)
 rotate_left
 ·have e:rowD s o=[]:=by simp[rowD,hok]
  simp +contextual (disch:=omega) only[go_sem]
  exact⟨_,rfl,by rw[e];exact H.one⟩
 have e:rowD s o=(rowC s o).map (·.dot):=by simp[rowD,hok]
 have hcr:=Pt hok
 have hbd:=Ol hcr o
 have hnd:=hcr.nd
 rw[e]
 have H:=H.nil_Cell
 simp +contextual (disch:=omega) only[go_sem,A3 (H.pt 2 rfl),hc.len]
 generalize hn1:U.length=n1 at*
 refine F9 s.cells.length 21 0 (fun i env N=>env 1= .str o/\env 19=v/\env 20=gi s.cells.length/\∃ u w,env 5=u/\env 6=w/\Hp U N [ow Ak.kd w ((s.cells.take i).filter (Jo o)),ow pDot.kd u [],pt 1 n1 [a,b,c,v]]) (fun env N=>∃ u w,env 5=u/\env 6=w/\Hp U N [ow Ak.kd w (s.cells.filter (Jo o)),ow pDot.kd u [],pt 1 n1 [a,b,c,v]]) rfl ⟨rfl,rfl,rfl,_,_,rfl,rfl,H⟩ ?_ ?_ ?_
 ·clear H
  rintro J Yq hJ hY i env N hi e21 c0 ⟨e1,e19,e20,u,w,e5,e6,H⟩
  have C1:=A8 (hc.pre H.sub) hi
  have hfl:=Cb s.cells (Jo o) i
  have hsn:=Alm (o:=o) hi
  have G:=H.grow (pre1 N (some (Blk.row 1 (Tt s.cells[i]))))
  cases ho:decide (s.cells[i].obj=o) with
  |false=>
   have hk0:Jo o s.cells[i]=false:=ho
   rw[hk0,if_neg (by simp)] at hsn
   simp +contextual (disch:=omega) only[go_sem,c0,e1,e5,e6,e19,e20,e21,C1,ho]
   refine hJ _ _ _ ⟨?_,?_,?_,u,w,?_,?_,by rw[hsn];exact G⟩
   all_goals simp +contextual (disch:=omega) only[go_sem,e1,e5,e6,e19,e20,e21]
  |true=>
   have hk0:Jo o s.cells[i]=true:=ho
   rw[hk0,if_pos rfl] at hsn
   obtain⟨w',N3,e8,H3⟩:=G.app_Cell 0 rfl s.cells[i] (by omega)
   simp +contextual (disch:=omega) only[go_sem,c0,e1,e5,e6,e19,e20,e21,C1,ho,e8]
   refine hJ _ _ _ ⟨?_,?_,?_,u,w',?_,?_,by rw[hsn];exact H3⟩
   all_goals simp +contextual (disch:=omega) only[go_sem,e1,e5,e6,e19,e20,e21]
 ·clear H
  rintro Yq hY env N e21 c0 ⟨e1,e19,e20,u,w,e5,e6,H⟩
  rw[Zaf] at H
  simp +contextual (disch:=omega) only[go_sem,c0,e1,e5,e6,e19,e20,e21]
  refine hY _ _ ⟨u,w,?_,?_,H⟩
  all_goals simp +contextual (disch:=omega) only[go_sem,e5,e6]
 clear H
 rintro env N ⟨u,w,e5,e6,H⟩
 have hfl:=Zah (Jo o) s.cells
 obtain⟨N1,R1,H⟩:=Jv H 0 rfl (by omega) (hnd.sublist ((List.filter_sublist).map _))
 simp +contextual (disch:=omega) only[go_sem,e5,e6]
 refine Am R1 ?_
 have H:Hp U N1 [ow Ak.kd w (objC s.cells o),ow pDot.kd u [],pt 1 n1 [a,b,c,v]]:=H
 have H:=(H.new 2 [gi 0,gi 0]).toRow (p:=pDot) 0 rfl [⟨0,0⟩] rfl rfl 1 rfl
 have H:Hp U _ [ow pDot.kd (.sl N1.length 0 1) [⟨0,0⟩],ow Ak.kd w (objC s.cells o),ow pDot.kd u [],pt 1 n1 [a,b,c,v]]:=H
 simp +contextual (disch:=omega) only[go_sem,e5,e6]
 obtain⟨hz1,hz2⟩:=Agg hcr o
 have hnz:∀ c∈objC s.cells o,c.dot≠⟨0,0⟩:=fun c hcm h0=>by
  have:=hcr.dot c (Rm.1 hcm).1
  rw[h0,A6f] at this;cases this
 have hscl:=A8r s.cells o
 have htot:A24 (objC s.cells o) [⟨0,0⟩]=(rowC s o).map (·.dot):=by
  simp[A24,Abv,isZ,rowC]
 have hM0:X3 (objC s.cells o) [⟨0,0⟩]=1+(rowC s o).length:=by simp[X3,rowC]
 generalize hT:rowC s o=T at*
 generalize hsc:objC s.cells o=sc at*
 refine Af6 (fun n env N=>∃(ws ud:GV) (S D:List Dot),env 5=ud/\env 6=w/\env 9=ws/\X3 sc S=n/\n<=1+T.length/\(∀ d∈S,Adq sc fuel d)/\D++A24 sc S=T.map (·.dot)/\Hp U N [ow pDot.kd ws S,ow Ak.kd w sc,ow pDot.kd ud D,pt 1 n1 [a,b,c,v]]) (1+T.length) 2 (fun env N=>∃ ud,env 5=ud/\Hp U N [ow pDot.kd ud (T.map (·.dot))]) ⟨_,u,[⟨0,0⟩],[],by simp +contextual (disch:=omega) only[go_sem,e5],by simp +contextual (disch:=omega) only[go_sem,e6],rfl,hM0,Zaa _,fun d hd=>by rw[List.mem_singleton.1 hd];exact hz1,by rw[htot];rfl,H⟩ ?_ ?_
 ·clear H e5 e6
  rintro J Yq hJ hY n env N ⟨ws,ud,S,D,e5,e6,e9,hn,hnT,hA,hE,H⟩
  have hSl:=A6g (sc:=sc) S
  have hDl:=congrArg List.length hE
  simp only[Zae,Zar] at hDl
  rcases List.eq_nil_or_concat S with rfl|⟨S0,d,rfl⟩
  ·have hlenS:lenG false ws=some 0:=(H.sl 0 rfl).len
   have c0:decide ((0:Int)<0)=false:=rfl
   simp +contextual (disch:=omega) only[go_sem,e5,e6,e9,hlenS,c0]
   refine hY _ _ ⟨ud,?_,?_⟩
   ·simp +contextual (disch:=omega) only[go_sem,e5]
   ·have:D=T.map (·.dot):=by rw[<- hE];simp[A24]
    rw[<- this]
    exact(H.pick 2 rfl).one
  ·rw[List.concat_eq_append] at*
   have hdA:=hA d (by simp)
   have hlenS:lenG false ws=some ((S0.length:Int)+1):=by
    have:=(H.sl 0 rfl).len
    rw[this];simp
   have c0:decide ((0:Int)<(S0.length:Int)+1)=true:=decide_eq_true (by omega)
   have hl1:(S0.length:Int)+1 - 1=(S0.length:Int):=by omega
   have hSl0:S0.length+1<=1+T.length:=by simp only[Zae,Zal,Zaj] at hSl;omega
   have C1:=Am7 (H.sl 0 rfl) (i:=S0.length) (by simp)
   have hgd:(S0++[d])[S0.length]'(by simp)=d:=by simp
   rw[hgd] at C1
   have hpop:=Ahs (S:=S0) hdA hnz
   have hmp:=Aht (S:=S0) hdA
   rw[hpop] at hE
   rw[hmp] at hn
   have hA2:∀ x∈S0++((sc.filter (Ci d)).map (·.dot)).reverse,Adq sc fuel x:=fun x hx=>by
    rcases List.mem_append.1 hx with h|h
    ·exact hA x (by simp[h])
    ·obtain⟨y,hy,rfl⟩:=List.mem_map.1 (List.mem_reverse.1 h)
     exact hz2 y (Zaz.1 hy).1
   obtain⟨g,off,rfl,hzk,HN⟩:=(H.new 1 [gi d.rep,gi d.seq]).popDot 1 rfl
   have HN:Hp U _ [pt 1 N.length [gi d.rep,gi d.seq],ow pDot.kd (.sl g off S0.length) S0,ow Ak.kd w sc,ow pDot.kd ud D,pt 1 n1 [a,b,c,v]]:=HN
   have hcut:=cutHi (z:=2) (g:=g) (off:=off) (n:=S0.length+1) (k:=S0.length) (by omega)
   have hlenC:=(HN.sl 2 rfl).len
   have hlD:=(HN.pt 0 rfl)
   cases hz:decide (d=⟨0,0⟩) with
   |true=>
    have hse:Abv d=[]:=by unfold Abv;rw[if_pos (show isZ d=true from hz)]
    rw[hse,Zbe] at hE
    simp +contextual (disch:=omega) only[go_sem,e5,e6,e9,hlenS,c0,hl1,A5,C1,hzk,hcut,A3 hlD,hz,hlenC,Zap,Zaq]
    generalize hnb:N.length=nb at*
    refine Af6 (fun n env N=>∃(m:Nat) (wz:GV),env 5=ud/\env 6=w/\env 9=wz/\env 10= .ptr nb 0/\env 11=gi ((m:Int) - 1)/\m=n/\m<=sc.length/\Hp U N [pt 1 nb [gi d.rep,gi d.seq],ow pDot.kd wz (S0++(((sc.drop m).filter (Ci d)).map (·.dot)).reverse),ow Ak.kd w sc,ow pDot.kd ud D,pt 1 n1 [a,b,c,v]]) sc.length 4 (fun env N=>∃(wz:GV),env 5=ud/\env 6=w/\env 9=wz/\Hp U N [pt 1 nb [gi d.rep,gi d.seq],ow pDot.kd wz (S0++((sc.filter (Ci d)).map (·.dot)).reverse),ow Ak.kd w sc,ow pDot.kd ud D,pt 1 n1 [a,b,c,v]]) ⟨sc.length,.sl g off S0.length,by simp +contextual (disch:=omega) only[go_sem,e5],by simp +contextual (disch:=omega) only[go_sem,e6],by simp +contextual (disch:=omega) only[go_sem],by simp +contextual (disch:=omega) only[go_sem],by simp +contextual (disch:=omega) only[go_sem],rfl,Zaa _,by simp only[Za9,Zbf,List.map_nil,Zba,Zay];exact HN⟩ ?_ ?_
    ·clear H HN e5 e6 e9 hlD hzk
     rintro J2 Yq2 hJ2 hY2 n2 env N ⟨m,wz,e5,e6,e9,e10,e11,hn2,hm,HN⟩
     have hfd:=Zah (Ci d) (sc.drop m)
     rw[Zav] at hfd
     cases m with
     |zero=>
      have e11:env 11=gi (-1):=e11
      have c1:decide ((0:Int)<= -1)=false:=rfl
      rw[Zbh] at HN
      simp +contextual (disch:=omega) only[go_sem,e5,e6,e9,e10,e11,c1]
      refine hY2 _ _ ⟨wz,?_,?_,?_,HN⟩
      all_goals simp +contextual (disch:=omega) only[go_sem,e5,e6,e9]
     |succ j=>
      have e11:env 11=gi (j:Int):=by rw[e11];congr 1;omega
      have c1:decide ((0:Int)<=j)=true:=by simp
      have C2:=A8 (HN.sl 2 rfl) (i:=j) (by omega)
      have hdr:=Ak4 d (l:=sc) (j:=j) (by omega)
      cases hr:decide (sc[j].ref=d) with
      |false=>
       have hk0:Ci d sc[j]=false:=hr
       rw[hk0,if_neg (by simp)] at hdr
       simp +contextual (disch:=omega) only[go_sem,e5,e6,e9,e10,e11,c1,A5,C2,A3 (HN.pt 0 rfl),hr]
       refine⟨j,by omega,hJ2 _ _ _ ⟨j,wz,?_,?_,?_,?_,?_,rfl,by omega,by rw[hdr];exact HN⟩⟩
       all_goals simp +contextual (disch:=omega) only[go_sem,e5,e6,e9,e10,e11]
      |true=>
       have hk0:Ci d sc[j]=true:=hr
       rw[hk0,if_pos rfl] at hdr
       obtain⟨w2,N4,e7,H4⟩:=HN.app_Dot 1 rfl sc[j].dot (by simp only[Zae,Za2,Zar];omega)
       simp +contextual (disch:=omega) only[go_sem,e5,e6,e9,e10,e11,c1,A5,C2,A3 (HN.pt 0 rfl),hr,e7]
       refine⟨j,by omega,hJ2 _ _ _ ⟨j,w2,?_,?_,?_,?_,?_,rfl,by omega,?_⟩⟩
       all_goals first|(simp +contextual (disch:=omega) only[go_sem,e5,e6,e9,e10,e11];done)|skip
       rw[hdr,Zbi,Za6,<-Zak]
       exact H4
    ·clear H HN e5 e6 e9 hlD hzk
     rintro env N ⟨wz,e5,e6,e9,HN⟩
     simp +contextual (disch:=omega) only[go_sem,e5,e6,e9]
     refine⟨n - 1,by omega,hJ _ _ _ ⟨wz,ud,_,D,?_,?_,?_,by omega,?_,hA2,hE,HN.drop1⟩⟩
     all_goals first|(simp +contextual (disch:=omega) only[go_sem,e5,e6,e9];done)|omega
   |false=>
    have hse:Abv d=[d]:=by unfold Abv;rw[if_neg (by rw[isZ,hz];simp)]
    rw[hse,<-Zak] at hE
    obtain⟨ud2,N3,e8,HN⟩:=HN.app_Dot 3 rfl d (by omega)
    have HN:Hp U N3 [pt 1 N.length [gi d.rep,gi d.seq],ow pDot.kd (.sl g off S0.length) S0,ow Ak.kd w sc,ow pDot.kd ud2 (D++[d]),pt 1 n1 [a,b,c,v]]:=HN
    generalize hDD:D++[d]=D2 at*
    simp +contextual (disch:=omega) only[go_sem,e5,e6,e9,hlenS,c0,hl1,A5,C1,hzk,hcut,A3 hlD,hz,hlenC,e8,Zap,Zaq]
    generalize hnb:N.length=nb at*
    refine Af6 (fun n env N=>∃(m:Nat) (wz:GV),env 5=ud2/\env 6=w/\env 9=wz/\env 10= .ptr nb 0/\env 11=gi ((m:Int) - 1)/\m=n/\m<=sc.length/\Hp U N [pt 1 nb [gi d.rep,gi d.seq],ow pDot.kd wz (S0++(((sc.drop m).filter (Ci d)).map (·.dot)).reverse),ow Ak.kd w sc,ow pDot.kd ud2 D2,pt 1 n1 [a,b,c,v]]) sc.length 4 (fun env N=>∃(wz:GV),env 5=ud2/\env 6=w/\env 9=wz/\Hp U N [pt 1 nb [gi d.rep,gi d.seq],ow pDot.kd wz (S0++((sc.filter (Ci d)).map (·.dot)).reverse),ow Ak.kd w sc,ow pDot.kd ud2 D2,pt 1 n1 [a,b,c,v]]) ⟨sc.length,.sl g off S0.length,by simp +contextual (disch:=omega) only[go_sem,e5],by simp +contextual (disch:=omega) only[go_sem,e6],by simp +contextual (disch:=omega) only[go_sem],by simp +contextual (disch:=omega) only[go_sem],by simp +contextual (disch:=omega) only[go_sem],rfl,Zaa _,by simp only[Za9,Zbf,List.map_nil,Zba,Zay];exact HN⟩ ?_ ?_
    ·clear H HN e5 e6 e9 hlD hzk
     rintro J2 Yq2 hJ2 hY2 n2 env N ⟨m,wz,e5,e6,e9,e10,e11,hn2,hm,HN⟩
     have hfd:=Zah (Ci d) (sc.drop m)
     rw[Zav] at hfd
     cases m with
     |zero=>
      have e11:env 11=gi (-1):=e11
      have c1:decide ((0:Int)<= -1)=false:=rfl
      rw[Zbh] at HN
      simp +contextual (disch:=omega) only[go_sem,e5,e6,e9,e10,e11,c1]
      refine hY2 _ _ ⟨wz,?_,?_,?_,HN⟩
      all_goals simp +contextual (disch:=omega) only[go_sem,e5,e6,e9]
     |succ j=>
      have e11:env 11=gi (j:Int):=by rw[e11];congr 1;omega
      have c1:decide ((0:Int)<=j)=true:=by simp
      have C2:=A8 (HN.sl 2 rfl) (i:=j) (by omega)
      have hdr:=Ak4 d (l:=sc) (j:=j) (by omega)
      cases hr:decide (sc[j].ref=d) with
      |false=>
       have hk0:Ci d sc[j]=false:=hr
       rw[hk0,if_neg (by simp)] at hdr
       simp +contextual (disch:=omega) only[go_sem,e5,e6,e9,e10,e11,c1,A5,C2,A3 (HN.pt 0 rfl),hr]
       refine⟨j,by omega,hJ2 _ _ _ ⟨j,wz,?_,?_,?_,?_,?_,rfl,by omega,by rw[hdr];exact HN⟩⟩
       all_goals simp +contextual (disch:=omega) only[go_sem,e5,e6,e9,e10,e11]
      |true=>
       have hk0:Ci d sc[j]=true:=hr
       rw[hk0,if_pos rfl] at hdr
       obtain⟨w2,N4,e7,H4⟩:=HN.app_Dot 1 rfl sc[j].dot (by simp only[Zae,Za2,Zar];omega)
       simp +contextual (disch:=omega) only[go_sem,e5,e6,e9,e10,e11,c1,A5,C2,A3 (HN.pt 0 rfl),hr,e7]
       refine⟨j,by omega,hJ2 _ _ _ ⟨j,w2,?_,?_,?_,?_,?_,rfl,by omega,?_⟩⟩
       all_goals first|(simp +contextual (disch:=omega) only[go_sem,e5,e6,e9,e10,e11];done)|skip
       rw[hdr,Zbi,Za6,<-Zak]
       exact H4
    ·clear H HN e5 e6 e9 hlD hzk
     rintro env N ⟨wz,e5,e6,e9,HN⟩
     simp +contextual (disch:=omega) only[go_sem,e5,e6,e9]
     refine⟨n - 1,by omega,hJ _ _ _ ⟨wz,ud2,_,D2,?_,?_,?_,by omega,?_,hA2,hE,HN.drop1⟩⟩
     all_goals first|(simp +contextual (disch:=omega) only[go_sem,e5,e6,e9];done)|omega
 ·clear H e5 e6
  rintro env N ⟨ud,e5,H⟩
  simp +contextual (disch:=omega) only[go_sem,e5]
  exact⟨_,rfl,H⟩
def Xe:Fn1:=⟨34,[.t 4],(rg [oX 2 0,o 4 (.mov (.k .nilS))] (rg [o 9 (.lit 8 0 [] []),oM 5 9] (.seq (rg [oW 10 4 2,oM 11 1,oD 12 258 10 11,oN 13 12,oV 14 (ki 0)] (oH 0 (rg [oB 15 .lss 14 13] (.seq (oJ 15 0) (.seq (.blk 1 (rg [oI 16 2 12 14,oW 17 2 16,o 7 (.new [z0,z0]),oS 2 7 17] (dw [oF 18 3 2,oL 19 18,oW 20 4 2,oW 21 2 7,oD 22 140 20 21,oI 23 8 19 22,oW 24 8 23,o 8 (.new [s0,z0,z0,z0,z0,z0,z0,(.bool false)])] [oS 8 8 24] (rg [oF 25 7 8,oL 26 25,oU 27 26] (oG 27 (.reg [oM 28 5,oW 29 8 8,o 30 (.lit 8 1 [s0,z0,z0,z0,z0,z0,z0,(.bool false)] [(0,8,(.t 29))]),o 31 (.app 8 72 [s0,z0,z0,z0,z0,z0,z0,(.bool false)] (.t 28) (.t 30)),oM 5 31])))))) (.reg [oZ 32 14 1,oM 14 32])))))) (rg [oM 33 5,oM 4 33] .ret))))⟩
theorem A8w:A6 Tryz.prog 208=some Xe:=by kernel_rfl
def Bg (c:Cell):Bool:= !c.gone
theorem rowT (s:State) (o:ByteArray):∃ T:List Cell,rowD s o=T.map (·.dot)/\rowL s o=T.filter Bg/\T.length<=1200120/\∀ c∈T,∃ k,∃ hk:k<s.cells.length,Ev s.cells c.dot=k/\s.cells[k]=c:=by
 cases h:Bf s with
 |true=>
  refine⟨rowC s o,by simp[rowD,h],by simp only[rowL,h,if_true];rfl,Ol (Pt h) o,fun c hc=> ?_⟩
  obtain⟨k,hk,h1,h2⟩:=Ajv h hc
  exact⟨k,hk,by simp[Ev,h1],h2⟩
 |false=>exact⟨[],by simp[rowD,h],by simp[rowL,h],by simp,fun c hc=>by simp at hc⟩
theorem A28 {l:List Cell} {i:Nat} (hi:i<l.length):(l.take (i+1)).filter Bg=if Bg l[i] then(l.take i).filter Bg++[l[i]] else(l.take i).filter Bg:=by
 rw[Ew hi]
 split<;>simp
theorem A4m (U:St) (cs:List GV) (s:State) (hR:A4.R U s cs) (o:ByteArray) (hl:Aa s<=1099511627776):∃ r N,Ret Tryz.prog 208 [.agg cs,.str o] U r N/\Hp U N [ow Ak.kd r (rowL s o)]:=by
 have hR0:=hR
 obtain⟨a,b,c,v,rfl,_,_,_,hc⟩:=hR
 obtain⟨l1,l2,l3,l4,_⟩:=Aq hl
 refine Ch A8w (Z0z rfl) ?_
 have H:=((Hp.refl U).new 1 [a,b,c,v]).nil_Cell
 simp +contextual (disch:=omega) only[go_sem,Xe,Oz,I5,A2 (cs:=[a,b,c,v]) rfl]
 obtain⟨r1,N1,R1,K1⟩:=A8v _ _ s (A4.pre hR0 H.sub) o hl
 obtain⟨T,hT1,hT2,hT3,hT4⟩:=rowT s o
 rw[hT1] at K1
 rw[hT2]
 refine Ck R1 K1 ?_
 have H:=H.add K1
 simp only[List.cons_append,Zbe] at H
 have hlen0:=(H.sl 0 rfl).len
 rw[Zar] at hlen0
 simp +contextual (disch:=omega) only[go_sem,hlen0]
 generalize hn1:U.length=n1 at*
 refine Ti T.length 14 (fun i env N=>env 2= .ptr n1 0/\env 12=r1/\env 13=gi T.length/\∃ u,env 5=u/\Hp U N [ow Ak.kd u ((T.take i).filter Bg),ow pDot.kd r1 (T.map fun x:Cell=>x.dot),pt 1 n1 [a,b,c,v]]) rfl ⟨rfl,rfl,rfl,_,rfl,H.pick 1 rfl⟩ ?_ ?_
 ·clear H
  rintro J hJ i env N hi e14 c0 ⟨e2,e12,e13,u,e5,H⟩
  have hfl:=Cb T Bg i
  have hsn:=A28 hi
  have C1:=Am7 (H.sl 1 rfl) (i:=i) (by simpa using hi)
  rw[List.getElem_map] at C1
  obtain⟨k,hk,hk1,hk2⟩:=hT4 T[i] (Za8 hi)
  have G:=H.grow (pre1 N (some (Blk.row 1 [gi T[i].dot.rep,gi T[i].dot.seq])))
  have CA:=Abr _ _ s (A4.pre hR0 G.sub) T[i].dot hl
  rw[hk1] at CA
  have C2:=A8 (hc.pre G.sub) hk
  rw[hk2] at C2
  simp +contextual (disch:=omega) only[go_sem,c0,e2,e5,e12,e13,e14,C1,A3 (G.pt 2 rfl),A2 (cs:=[a,b,c,v]) rfl]
  refine A9 CA ?_
  cases hg:T[i].gone with
  |true=>
   have hk0:Bg T[i]=false:=by simp[Bg,hg]
   rw[hk0,if_neg (by simp)] at hsn
   have G2:=G.grow (pre1 _ (some (Blk.row 1 [.str T[i].obj,gi T[i].dot.rep,gi T[i].dot.seq,gi T[i].time,gi T[i].ref.rep,gi T[i].ref.seq,gi T[i].val,.bool true])))
   simp +contextual (disch:=omega) only[go_sem,c0,e2,e5,e12,e13,e14,A5,C2,hg]
   refine hJ _ _ _ ⟨?_,?_,?_,u,?_,by rw[hsn];exact G2⟩
   all_goals simp +contextual (disch:=omega) only[go_sem,e2,e5,e12,e13,e14]
  |false=>
   have hk0:Bg T[i]=true:=by simp[Bg,hg]
   rw[hk0,if_pos rfl] at hsn
   have G2:=G.grow (pre1 _ (some (Blk.row 1 [.str T[i].obj,gi T[i].dot.rep,gi T[i].dot.seq,gi T[i].time,gi T[i].ref.rep,gi T[i].ref.seq,gi T[i].val,.bool false])))
   obtain⟨w',N3,e8,H3⟩:=G2.app_Cell 0 rfl T[i] (by omega)
   simp only[hg] at e8
   simp +contextual (disch:=omega) only[go_sem,c0,e2,e5,e12,e13,e14,A5,C2,hg,e8]
   refine hJ _ _ _ ⟨?_,?_,?_,w',?_,by rw[hsn];exact H3⟩
   all_goals simp +contextual (disch:=omega) only[go_sem,e2,e5,e12,e13,e14]
 ·clear H
  rintro env N e14 c0 ⟨e2,e12,e13,u,e5,H⟩
  rw[Zaf] at H
  simp +contextual (disch:=omega) only[go_sem,c0,e2,e5,e12,e13,e14]
  exact⟨_,rfl,H.one⟩
namespace O
open Go Go.RowKit Go.Proofs.YtnknigikcdgebaaGreatDoor.Sy Go.Sort
variable {Y:Type} [Inhabited Y] {lt:Y->Y->Bool} {U0 U:St} {rs:List Thg} {k:Nat} {v:GV} {d:Array Y}
theorem ins_ret (S:SrtO Y lt) (H:Holds S.e U0 U rs k v d) {a b:Nat} (hab:a<=b) (hb:b<=d.size) (hs:d.size<=1099511627776):∃ N,Ret Tryz.prog S.q.insertionSort [v,gi a,gi b] U (.tup []) N/\Holds S.e U0 N rs k v (insertionSort lt d a b):=by
 have key:∃ r N,Ret Tryz.prog S.q.insertionSort [v,gi a,gi b] U r N/\r= .tup []/\Holds S.e U0 N rs k v (insertionSort lt d a b):=by
  refine B8 S.h_insertionSort (Z0z rfl) ?_
  simp +contextual (disch:=omega) only[go_sem,Ju]
  refine C4 (fun n env N=>∃(i:Nat) (D:Array Y),env 0=v/\env 1=gi a/\env 2=gi b/\env 6=gi i/\b - i=n/\a<i/\D.size=d.size/\U.length<=N.length/\Holds S.e U0 N rs k v D/\insOuter lt a b i D=insertionSort lt d a b) (b - (a+1)) ⟨a+1,d,rfl,rfl,rfl,rfl,rfl,by omega,rfl,Zaa _,H,rfl⟩ ?_
  rintro J hJ n env N ⟨i,D,e0,e1,e2,ei,hn,hai,hD,hle,hH,hE⟩
  rw[insOuter] at hE
  rcases Zab i b with hi|hi
  ·rw[if_pos hi] at hE
   have c0:decide ((i:Int)<b)=true:=by simp;omega
   simp +contextual (disch:=omega) only[go_sem,e0,e1,e2,ei,c0]
   refine C4 (fun n env N=>∃(j:Nat) (E:Array Y),env 0=v/\env 1=gi a/\env 2=gi b/\env 6=gi i/\env 7=gi j/\j=n/\j<=i/\E.size=d.size/\U.length<=N.length/\Holds S.e U0 N rs k v E/\insInner lt a j E=insInner lt a i D) i ⟨i,D,by simp +contextual (disch:=omega) only[go_sem,e0],by simp +contextual (disch:=omega) only[go_sem,e1],by simp +contextual (disch:=omega) only[go_sem,e2],by simp +contextual (disch:=omega) only[go_sem,ei],rfl,rfl,Zaa _,hD,hle,hH,rfl⟩ ?_
   clear hH hle e0 e1 e2 ei
   rintro J2 hJ2 n2 env N ⟨j,E,e0,e1,e2,ei,ej,hnj,hji,hE2,hle,hH,hI⟩
   have fin:∀ env',env' 0=v->env' 1=gi a->env' 2=gi b->env' 6=gi ((i:Int)+1)->insInner lt a i D=E->∃ k',k'<n/\J k' env' N:=fun env' h0 h1 h2 h6 hEq=>⟨b - (i+1),by omega,hJ _ _ _ ⟨i+1,E,h0,h1,h2,h6,rfl,by omega,hE2,hle,hH,by rw[<- hEq];exact hE⟩⟩
   have cj:decide ((a:Int)<j)=decide (a<j):=by simp
   by_cases hc:a<j
   ·obtain⟨m,rfl⟩:∃ m,j=m+1:=⟨j - 1,by omega⟩
    rw[decide_eq_true hc] at cj
    have cj:decide ((a:Int)<(m:Int)+1)=true:=cj
    have n1:B5 (some (.int .i64 ((m:Int)+1)))=some (m+1):=Bh (by simp)
    have m1:(m:Int)+1 - 1=m:=by omega
    obtain⟨N1,N2,s1,s2,hH2,hl2⟩:=hH.sw (a:=m+1) (b:=m) (by omega) (by omega)
    rw[insInner] at hI
    simp +contextual (disch:=omega) only[go_sem,e0,e1,e2,ei,ej,cj,n1,m1,A5,hH.iad (j:=m+1) (by omega),hH.ld (j:=m+1) (by omega),hH.iad (j:=m) (by omega),hH.ld (j:=m) (by omega)]
    refine A9 (S.call _ _ _) ?_
    cases hl:lt E[m+1]! E[m]! with
    |true=>
     rw[if_pos (by simp[hl];omega)] at hI
     simp +contextual (disch:=omega) only[go_sem,e0,e1,e2,ei,ej,cj,n1,m1,A5,hl,hH.iad (j:=m+1) (by omega),hH.ld (j:=m+1) (by omega),hH.iad (j:=m) (by omega),hH.ld (j:=m) (by omega),s1,s2]
     refine⟨m,by omega,hJ2 _ _ _ ⟨m,swp E (m+1) m,?_,?_,?_,?_,?_,rfl,by omega,by rw[Go.Sort.swp_size];exact hE2,by omega,hH2,hI⟩⟩
     all_goals simp +contextual (disch:=omega) only[go_sem,e0,e1,e2,ei,ej,m1]
    |false=>
     rw[if_neg (by simp[hl])] at hI
     simp +contextual (disch:=omega) only[go_sem,e0,e1,e2,ei,ej,cj,hl,]
     refine fin _ ?_ ?_ ?_ ?_ hI.symm
     all_goals simp +contextual (disch:=omega) only[go_sem,e0,e1,e2,ei]
   ·rw[decide_eq_false hc] at cj
    have hI:insInner lt a i D=E:=by
     rw[<- hI]
     cases j with
     |zero=>rfl
     |succ j=>rw[insInner,if_neg (by simp;intro h;omega)]
    simp +contextual (disch:=omega) only[go_sem,e0,e1,e2,ei,ej,cj]
    refine fin _ ?_ ?_ ?_ ?_ hI
    all_goals simp +contextual (disch:=omega) only[go_sem,e0,e1,e2,ei]
  ·rw[if_neg (by omega)] at hE
   have c0:decide ((i:Int)<b)=false:=by simp;omega
   simp +contextual (disch:=omega) only[go_sem,e0,e1,e2,ei,c0]
   exact⟨_,rfl,hle,rfl,by rw[<- hE];exact hH⟩
 obtain⟨r,N,R,rfl,h⟩:=key
 exact⟨N,R,h⟩
end O
namespace O
open Go Go.RowKit Go.Proofs.YtnknigikcdgebaaGreatDoor.Sy Go.Sort
variable {Y:Type} [Inhabited Y] {lt:Y->Y->Bool} {U0 U:St} {rs:List Thg} {k:Nat} {v:GV} {d:Array Y}
theorem siftDown_size (lt:Y->Y->Bool) (hi F:Nat):∀(n root:Nat) (d:Array Y),hi - root<=n->(siftDown lt hi F root d).size=d.size
 |0,root,d,h=>by rw[siftDown,dif_pos (by omega)]
 |n+1,root,d,h=>by
  rw[siftDown]
  split
  ·rfl
  ·split
   ·split
    ·rfl
    ·split
     ·rw[siftDown_size lt hi F n _ _ (by omega),Go.Sort.swp_size]
     ·rfl
   ·split
    ·rfl
    ·rw[siftDown_size lt hi F n _ _ (by omega),Go.Sort.swp_size]
theorem sift_ret (S:SrtO Y lt) (H:Holds S.e U0 U rs k v d) {lo hi F:Nat} (hb:F+hi<=d.size) (hlo:lo<=d.size) (hs:d.size<=1099511627776):∃ N,Ret Tryz.prog S.q.siftDown [v,gi lo,gi hi,gi F] U (.tup []) N/\Holds S.e U0 N rs k v (siftDown lt hi F lo d):=by
 have key:∃ r N,Ret Tryz.prog S.q.siftDown [v,gi lo,gi hi,gi F] U r N/\r= .tup []/\Holds S.e U0 N rs k v (siftDown lt hi F lo d):=by
  refine B8 S.h_siftDown (Z0z rfl) ?_
  simp +contextual (disch:=omega) only[go_sem,X7]
  refine C4 (fun n env N=>∃(r:Nat) (D:Array Y),env 0=v/\env 1=gi lo/\env 2=gi hi/\env 3=gi F/\env 8=gi r/\hi - r=n/\r<=d.size/\D.size=d.size/\U.length<=N.length/\Holds S.e U0 N rs k v D/\siftDown lt hi F r D=siftDown lt hi F lo d) (hi - lo) ⟨lo,d,rfl,rfl,rfl,rfl,rfl,rfl,hlo,rfl,Zaa _,H,rfl⟩ ?_
  rintro J hJ n env N ⟨r,D,e0,e1,e2,e3,er,hn,hr,hD,hle,hH,hE⟩
  rw[siftDown] at hE
  have w2:IntKind.i64.wrap (2*(r:Int))=2*(r:Int):=Bi (by omega) (by omega)
  by_cases h1:2*r+1≥hi
  ·rw[dif_pos h1] at hE
   have c1:decide ((hi:Int)<=2*(r:Int)+1)=true:=by simp;omega
   simp +contextual (disch:=omega) only[go_sem,e0,e1,e2,e3,er,w2,c1]
   exact⟨_,rfl,hle,rfl,by rw[<- hE];exact hH⟩
  ·rw[dif_neg h1] at hE
   have c1:decide ((hi:Int)<=2*(r:Int)+1)=false:=by simp;omega
   have nr:B5 (some (.int .i64 ((F:Int)+r)))=some (F+r):=Bh (by simp)
   have ir:=hH.iad (j:=F+r) (by omega)
   have lr:=hH.ld (j:=F+r) (by omega)
   by_cases hA:2*r+2<hi
   ·have cA:decide (2*(r:Int)+1+1<hi)=true:=by simp;omega
    have nc:B5 (some (.int .i64 ((F:Int)+(2*(r:Int)+1))))=some (F+(2*r+1)):=Bh (by simp)
    have nc2:B5 (some (.int .i64 ((F:Int)+(2*(r:Int)+1)+1)))=some (F+(2*r+1)+1):=Bh (by simp)
    have ic:=hH.iad (j:=F+(2*r+1)) (by omega)
    have lc:=hH.ld (j:=F+(2*r+1)) (by omega)
    have ic2:=hH.iad (j:=F+(2*r+1)+1) (by omega)
    have lc2:=hH.ld (j:=F+(2*r+1)+1) (by omega)
    simp +contextual (disch:=omega) only[go_sem,e0,e1,e2,e3,er,w2,c1,cA,nc,nc2,ic,lc,ic2,lc2]
    refine A9 (S.call _ _ _) ?_
    cases hl1:lt D[F+(2*r+1)]! D[F+(2*r+1)+1]! with
    |true=>
     clear nc ic lc
     rw[if_pos (by simp[hl1];omega)] at hE
     rw[dif_pos hA] at hE
     obtain⟨c,hc⟩:∃ c,c=2*r+2:=⟨_,rfl⟩
     rw[<- hc] at hE
     have ncI:2*(r:Int)+1+1=c:=by omega
     have nc:B5 (some (.int .i64 ((F:Int)+c)))=some (F+c):=Bh (by simp)
     have ic:=hH.iad (j:=F+c) (by omega)
     have lc:=hH.ld (j:=F+c) (by omega)
     simp +contextual (disch:=omega) only[go_sem,e0,e1,e2,e3,er,w2,cA,nr,nc,ncI,hl1,ir,lr,ic,lc]
     obtain⟨N1,N2,s1,s2,hH2,hl2⟩:=hH.sw (a:=F+r) (b:=F+c) (by omega) (by omega)
     refine A9 (S.call _ _ _) ?_
     cases hl:lt D[F+r]! D[F+c]! with
     |true=>
      rw[if_neg (by simp[hl])] at hE
      simp +contextual (disch:=omega) only[go_sem,e0,e1,e2,e3,er,w2,c1,cA,nr,nc,ncI,hl,ir,lr,ic,lc,s1,s2]
      refine⟨hi - c,by omega,hJ _ _ _ ⟨c,swp D (F+r) (F+c),?_,?_,?_,?_,?_,rfl,by omega,by rw[Go.Sort.swp_size];exact hD,by omega,hH2,hE⟩⟩
      all_goals simp +contextual (disch:=omega) only[go_sem,e0,e1,e2,e3,er,ncI]
     |false=>
      rw[if_pos (by simp[hl])] at hE
      simp +contextual (disch:=omega) only[go_sem,e0,e1,e2,e3,er,hl]
      exact⟨_,rfl,hle,rfl,by rw[<- hE];exact hH⟩
    |false=>
     rw[if_neg (by simp[hl1])] at hE
     obtain⟨c,hc⟩:∃ c,c=2*r+1:=⟨_,rfl⟩
     rw[<- hc] at hE ic lc
     have ncI:2*(r:Int)+1=c:=by omega
     rw[<- hc,ncI] at nc
     simp +contextual (disch:=omega) only[go_sem,e0,e1,e2,e3,er,w2,cA,nr,nc,ncI,hl1,ir,lr,ic,lc]
     obtain⟨N1,N2,s1,s2,hH2,hl2⟩:=hH.sw (a:=F+r) (b:=F+c) (by omega) (by omega)
     refine A9 (S.call _ _ _) ?_
     cases hl:lt D[F+r]! D[F+c]! with
     |true=>
      rw[if_neg (by simp[hl])] at hE
      simp +contextual (disch:=omega) only[go_sem,e0,e1,e2,e3,er,w2,c1,cA,nr,nc,ncI,hl,ir,lr,ic,lc,s1,s2]
      refine⟨hi - c,by omega,hJ _ _ _ ⟨c,swp D (F+r) (F+c),?_,?_,?_,?_,?_,rfl,by omega,by rw[Go.Sort.swp_size];exact hD,by omega,hH2,hE⟩⟩
      all_goals simp +contextual (disch:=omega) only[go_sem,e0,e1,e2,e3,er,ncI]
     |false=>
      rw[if_pos (by simp[hl])] at hE
      simp +contextual (disch:=omega) only[go_sem,e0,e1,e2,e3,er,hl]
      exact⟨_,rfl,hle,rfl,by rw[<- hE];exact hH⟩
   ·have cA:decide (2*(r:Int)+1+1<hi)=false:=by simp;omega
    rw[if_neg (by simp;intro h;omega)] at hE
    obtain⟨c,hc⟩:∃ c,c=2*r+1:=⟨_,rfl⟩
    rw[<- hc] at hE
    have ncI:2*(r:Int)+1=c:=by omega
    have nc:B5 (some (.int .i64 ((F:Int)+c)))=some (F+c):=Bh (by simp)
    have ic:=hH.iad (j:=F+c) (by omega)
    have lc:=hH.ld (j:=F+c) (by omega)
    rw[ncI] at c1 cA
    simp +contextual (disch:=omega) only[go_sem,e0,e1,e2,e3,er,w2,c1,cA,nr,nc,ncI,ir,lr,ic,lc]
    obtain⟨N1,N2,s1,s2,hH2,hl2⟩:=hH.sw (a:=F+r) (b:=F+c) (by omega) (by omega)
    refine A9 (S.call _ _ _) ?_
    cases hl:lt D[F+r]! D[F+c]! with
    |true=>
     rw[if_neg (by simp[hl])] at hE
     simp +contextual (disch:=omega) only[go_sem,e0,e1,e2,e3,er,w2,c1,cA,nr,nc,ncI,hl,ir,lr,ic,lc,s1,s2]
     refine⟨hi - c,by omega,hJ _ _ _ ⟨c,swp D (F+r) (F+c),?_,?_,?_,?_,?_,rfl,by omega,by rw[Go.Sort.swp_size];exact hD,by omega,hH2,hE⟩⟩
     all_goals simp +contextual (disch:=omega) only[go_sem,e0,e1,e2,e3,er,ncI]
    |false=>
     rw[if_pos (by simp[hl])] at hE
     simp +contextual (disch:=omega) only[go_sem,e0,e1,e2,e3,er,hl]
     exact⟨_,rfl,hle,rfl,by rw[<- hE];exact hH⟩
 obtain⟨r,N,R,rfl,h⟩:=key
 exact⟨N,R,h⟩
theorem heap_ret (S:SrtO Y lt) (H:Holds S.e U0 U rs k v d) {a b:Nat} (hab:a<=b) (hb:b<=d.size) (hs:d.size<=1099511627776):∃ N,Ret Tryz.prog S.q.heapSort [v,gi a,gi b] U (.tup []) N/\Holds S.e U0 N rs k v (heapSort lt d a b):=by
 have key:∃ r N,Ret Tryz.prog S.q.heapSort [v,gi a,gi b] U r N/\r= .tup []/\Holds S.e U0 N rs k v (heapSort lt d a b):=by
  refine B8 S.h_heapSort (Z0z rfl) ?_
  obtain⟨h,hh⟩:∃ h,h=b - a:=⟨_,rfl⟩
  have hI:(b:Int) - a=h:=by omega
  have hq:((h:Int) - 1).tdiv 2=(((h - 1) / 2+1:Nat):Int) - 1:=by
   rcases Zas h with rfl|hp
   ·rfl
   ·have:(h:Int) - 1=((h - 1:Nat):Int):=by omega
    rw[this]
    have h2:((h - 1:Nat):Int).tdiv 2=(((h - 1) / 2:Nat):Int):=rfl
    rw[h2];omega
  obtain⟨M,hM⟩:∃ M,M=(h - 1) / 2+1:=⟨_,rfl⟩
  rw[<- hM] at hq
  have hE:heapSort lt d a b=heapPop lt a h (heapBuild lt h a M d):=by rw[heapSort,hM,hh]
  rw[hE]
  simp +contextual (disch:=omega) only[go_sem,X5,hI,hq]
  refine C4 (fun n env N=>∃(m:Nat) (D:Array Y),env 0=v/\env 1=gi a/\env 2=gi b/\env 6=gi a/\env 7=gi 0/\env 8=gi h/\env 9=gi ((m:Int) - 1)/\m=n/\m<=M/\D.size=d.size/\U.length<=N.length/\Holds S.e U0 N rs k v D/\heapBuild lt h a m D=heapBuild lt h a M d) M ⟨M,d,rfl,rfl,rfl,rfl,rfl,rfl,rfl,rfl,Zaa _,rfl,Zaa _,H,rfl⟩ ?_
  rintro J hJ n env N ⟨m,D,e0,e1,e2,e6,e7,e8,e9,hn,hm,hD,hle,hH,hE⟩
  cases m with
  |succ j=>
   have e9:env 9=gi (j:Int):=by rw[e9];congr 1;omega
   have c0:decide ((0:Int)<=j)=true:=by simp
   rw[heapBuild] at hE
   simp +contextual (disch:=omega) only[go_sem,e0,e1,e2,e6,e7,e8,e9,c0]
   obtain⟨N1,R,hH1⟩:=sift_ret S hH (lo:=j) (hi:=h) (F:=a) (by omega) (by omega) (by omega)
   have hl1:=R.2.1
   refine Am R ?_
   simp +contextual (disch:=omega) only[go_sem,e0,e1,e2,e6,e7,e8,e9]
   refine⟨j,by omega,hJ _ _ _ ⟨j,_,?_,?_,?_,?_,?_,?_,?_,rfl,by omega,?_,by omega,hH1,hE⟩⟩
   all_goals first|(simp +contextual (disch:=omega) only[go_sem,e0,e1,e2,e6,e7,e8,e9];done)|(rw [siftDown_size lt h a _ _ _ (Zaa _)];exact hD)
  |zero=>
   have e9:env 9=gi (-1):=e9
   rw[heapBuild] at hE
   simp +contextual (disch:=omega) only[go_sem,e0,e1,e2,e6,e7,e8,e9]
   have c0:decide ((0:Int)<= -1)=false:=rfl
   simp +contextual (disch:=omega) only[go_sem,e0,e1,e2,e6,e7,e8,e9,c0]
   refine C4 (fun n env N=>∃(m:Nat) (E:Array Y),env 0=v/\env 1=gi a/\env 2=gi b/\env 6=gi a/\env 7=gi 0/\env 8=gi h/\env 10=gi ((m:Int) - 1)/\m=n/\m<=h/\E.size=d.size/\U.length<=N.length/\Holds S.e U0 N rs k v E/\heapPop lt a m E=heapPop lt a h (heapBuild lt h a M d)) h ⟨h,D,by simp +contextual (disch:=omega) only[go_sem,e0],by simp +contextual (disch:=omega) only[go_sem,e1],by simp +contextual (disch:=omega) only[go_sem,e2],by simp +contextual (disch:=omega) only[go_sem,e6],by simp +contextual (disch:=omega) only[go_sem,e7],by simp +contextual (disch:=omega) only[go_sem,e8],rfl,rfl,Zaa _,hD,hle,hH,by rw[hE]⟩ ?_
   clear hH hle e0 e1 e2 e6 e7 e8 e9
   rintro J2 hJ2 n2 env N ⟨m,E,e0,e1,e2,e6,e7,e8,e9,hn2,hm,hE2,hle,hH,hP⟩
   cases m with
   |succ j=>
    have e9:env 10=gi (j:Int):=by rw[e9];congr 1;omega
    have c0:decide ((0:Int)<=j)=true:=by simp
    rw[heapPop] at hP
    have nr:B5 (some (.int .i64 ((a:Int)+j)))=some (a+j):=Bh (by simp)
    obtain⟨N1,N2,s1,s2,hH2,hl2⟩:=hH.sw (a:=a) (b:=a+j) (by omega) (by omega)
    obtain⟨N3,R,hH3⟩:=sift_ret S hH2 (lo:=0) (hi:=j) (F:=a) (by rw[Go.Sort.swp_size];omega) (by omega) (by rw[Go.Sort.swp_size];omega)
    have hl3:=R.2.1
    simp +contextual (disch:=omega) only[go_sem,e0,e1,e2,e6,e7,e8,e9,c0,nr,A5,hH.iad (j:=a) (by omega),hH.ld (j:=a) (by omega),hH.iad (j:=a+j) (by omega),hH.ld (j:=a+j) (by omega),s1,s2]
    refine Am R ?_
    simp +contextual (disch:=omega) only[go_sem,e0,e1,e2,e6,e7,e8,e9]
    refine⟨j,by omega,hJ2 _ _ _ ⟨j,_,?_,?_,?_,?_,?_,?_,?_,rfl,by omega,?_,by omega,hH3,hP⟩⟩
    all_goals first|(simp +contextual (disch:=omega) only[go_sem,e0,e1,e2,e6,e7,e8,e9];done)|(rw [siftDown_size lt _ a _ _ _ (Zaa _),Go.Sort.swp_size];exact hE2)
   |zero=>
    have e9:env 10=gi (-1):=e9
    rw[heapPop] at hP
    simp +contextual (disch:=omega) only[go_sem,e0,e1,e2,e6,e7,e8,e9,c0]
    exact⟨_,rfl,hle,rfl,by rw[<- hP];exact hH⟩
 obtain⟨r,N,R,rfl,h⟩:=key
 exact⟨N,R,h⟩
theorem rev_ret (S:SrtO Y lt) (H:Holds S.e U0 U rs k v d) {a b:Nat} (hab:a<b) (hb:b<=d.size) (hs:d.size<=1099511627776):∃ N,Ret Tryz.prog S.q.reverseRange [v,gi a,gi b] U (.tup []) N/\Holds S.e U0 N rs k v (reverseRange d a b):=by
 have key:∃ r N,Ret Tryz.prog S.q.reverseRange [v,gi a,gi b] U r N/\r= .tup []/\Holds S.e U0 N rs k v (reverseRange d a b):=by
  refine B8 S.h_reverseRange (Z0z rfl) ?_
  have hbI:(b:Int) - 1=((b - 1:Nat):Int):=by omega
  obtain⟨h,hh⟩:∃ h,h=b - 1:=⟨_,rfl⟩
  have hE:reverseRange d a b=reverseLoop a h d:=by rw[reverseRange,hh]
  rw[hE]
  rw[<- hh] at hbI
  simp +contextual (disch:=omega) only[go_sem,Ls,hbI]
  refine C4 (fun n env N=>∃(i j:Nat) (D:Array Y),env 0=v/\env 6=gi i/\env 7=gi j/\j - i=n/\a<=i/\i<=d.size/\j<=h/\D.size=d.size/\U.length<=N.length/\Holds S.e U0 N rs k v D/\reverseLoop i j D=reverseLoop a h d) (h - a) ⟨a,h,d,rfl,rfl,rfl,rfl,Zaa _,by omega,Zaa _,rfl,Zaa _,H,rfl⟩ ?_
  rintro J hJ n env N ⟨i,j,D,e0,e6,e7,hn,hi,hi2,hj,hD,hle,hH,hE⟩
  rw[reverseLoop] at hE
  rcases Zab i j with hlt|hge
  ·rw[if_pos hlt] at hE
   have c0:decide ((i:Int)<j)=true:=by simp;omega
   obtain⟨N1,N2,s1,s2,hH2,hl2⟩:=hH.sw (a:=i) (b:=j) (by omega) (by omega)
   have j1:(j:Int) - 1=((j - 1:Nat):Int):=by omega
   simp +contextual (disch:=omega) only[go_sem,e0,e6,e7,c0,A5,hH.iad (j:=i) (by omega),hH.ld (j:=i) (by omega),hH.iad (j:=j) (by omega),hH.ld (j:=j) (by omega),s1,s2]
   refine⟨(j - 1) - (i+1),by omega,hJ _ _ _ ⟨i+1,j - 1,swp D i j,?_,?_,?_,rfl,by omega,by omega,by omega,by rw[Go.Sort.swp_size];exact hD,by omega,hH2,hE⟩⟩
   all_goals simp +contextual (disch:=omega) only[go_sem,e0,e6,e7,j1]
  ·rw[if_neg (by omega)] at hE
   have c0:decide ((i:Int)<j)=false:=by simp;omega
   simp +contextual (disch:=omega) only[go_sem,e0,e6,e7,c0]
   exact⟨_,rfl,hle,rfl,by rw[<- hE];exact hH⟩
 obtain⟨r,N,R,rfl,h⟩:=key
 exact⟨N,R,h⟩
end O
namespace O
open Go Go.RowKit Go.Proofs.YtnknigikcdgebaaGreatDoor.Sy Go.Sort
variable {Y:Type} [Inhabited Y] {lt:Y->Y->Bool} {U0 U:St} {rs:List Thg} {k:Nat} {v:GV} {d:Array Y}
theorem pe_ret (S:SrtO Y lt) (H:Holds S.e U0 U rs k v d) {a b p:Nat} (hab:a<b) (hp:p<b) (hb:b<=d.size) (hs:d.size<=1099511627776):∃ N,Ret Tryz.prog S.q.partitionEqual [v,gi a,gi b,gi p] U (gi (partitionEqual lt d a b p).1) N/\Holds S.e U0 N rs k v (partitionEqual lt d a b p).2:=by
 have key:∃ r N,Ret Tryz.prog S.q.partitionEqual [v,gi a,gi b,gi p] U r N/\r=gi (partitionEqual lt d a b p).1/\Holds S.e U0 N rs k v (partitionEqual lt d a b p).2:=by
  refine B8 S.h_partitionEqual (Z0z rfl) ?_
  obtain⟨N1,N2,s1,s2,hH,hl2⟩:=H.sw (a:=a) (b:=p) (by omega) (by omega)
  obtain⟨h,hh⟩:∃ h,h=b - 1:=⟨_,rfl⟩
  have hbI:(b:Int) - 1=h:=by omega
  have hsz:=Go.Sort.swp_size d a p
  rw[partitionEqual,<-hh]
  obtain⟨D0,hD0⟩:∃ D0,D0=swp d a p:=⟨_,rfl⟩
  rw[<- hD0] at hH hsz
  simp +contextual (disch:=omega) only[go_sem,Iu,hbI,A5,H.iad (j:=a) (by omega),H.ld (j:=a) (by omega),H.iad (j:=p) (by omega),H.ld (j:=p) (by omega),s1,s2]
  rw[<- hD0]
  refine C4 (fun n env N=>∃(i j:Nat) (D:Array Y),env 0=v/\env 1=gi a/\env 9=gi i/\env 10=gi j/\j+1 - i=n/\1<=i/\i<=j+1/\j<b/\D.size=d.size/\U.length<=N.length/\Holds S.e U0 N rs k v D/\partEqLoop lt a i j D=partEqLoop lt a (a+1) h D0) (h+1 - (a+1)) ⟨a+1,h,D0,rfl,rfl,rfl,rfl,rfl,by omega,by omega,by omega,hsz,by omega,hH,rfl⟩ ?_
  clear hH
  rintro J hJ n env N ⟨i,j,D,e0,e1,e9,e10,hn,hi,hij,hj,hD,hle,hH,hE⟩
  rw[partEqLoop_eq] at hE
  have ia:=hH.iad (j:=a) (by omega)
  have la:=hH.ld (j:=a) (by omega)
  simp +contextual (disch:=omega) only[go_sem]
  refine Cw (fun n env N'=>∃(x:Nat),env 0=v/\env 1=gi a/\env 9=gi x/\env 10=gi j/\j+1 - x=n/\i<=x/\x<=j+1/\N=N'/\scanUp (fun x=> !lt D[a]! x) D j x=scanUp (fun x=> !lt D[a]! x) D j i) (j+1 - i) 2 (fun env N'=>env 0=v/\env 1=gi a/\env 9=gi (scanUp (fun x=> !lt D[a]! x) D j i:Nat)/\env 10=gi j/\N=N') ⟨i,e0,e1,e9,e10,rfl,Zaa _,hij,rfl,rfl⟩ ?_ ?_
  ·clear e0 e1 e9 e10
   rintro J2 Yq2 hJ2 hY2 n2 env N' ⟨x,e0,e1,e9,e10,hn2,hx1,hx2,rfl,hU⟩
   rw[scanUp] at hU
   rcases Zab j x with hx|hx
   ·rw[if_neg (by simp;intro h;omega)] at hU
    have c0:decide ((x:Int)<=j)=false:=by simp;omega
    simp +contextual (disch:=omega) only[go_sem,e0,e1,e9,e10,c0]
    refine hY2 _ _ ⟨?_,?_,?_,?_,rfl⟩
    all_goals simp +contextual (disch:=omega) only[go_sem,e0,e1,e9,e10,hU]
   ·have c0:decide ((x:Int)<=j)=true:=by simp;omega
    simp +contextual (disch:=omega) only[go_sem,e0,e1,e9,e10,c0,A5,ia,la,hH.iad (j:=x) (by omega),hH.ld (j:=x) (by omega)]
    refine A9 (S.call _ _ _) ?_
    cases hl:lt D[a]! D[x]! with
    |true=>
     rw[if_neg (by simp[hl])] at hU
     simp +contextual (disch:=omega) only[go_sem,e0,e1,e9,e10,c0,hl]
     refine hY2 _ _ ⟨?_,?_,?_,?_,rfl⟩
     all_goals simp +contextual (disch:=omega) only[go_sem,e0,e1,e9,e10,hU]
    |false=>
     rw[if_pos (by simp[hl];omega)] at hU
     simp +contextual (disch:=omega) only[go_sem,e0,e1,e9,e10,c0,hl]
     refine⟨j+1 - (x+1),by omega,hJ2 _ _ _ ⟨x+1,?_,?_,?_,?_,rfl,by omega,by omega,rfl,hU⟩⟩
     all_goals simp +contextual (disch:=omega) only[go_sem,e0,e1,e9,e10]
  ·clear e0 e1 e9 e10
   rintro env N' ⟨e0,e1,e9,e10,rfl⟩
   obtain⟨u1,u2,-,u4⟩:=scanUp_spec (fun x=> !lt D[a]! x) D j _ i rfl
   have u2:=u2 hij
   obtain⟨x,hx⟩:∃ x,x=scanUp (fun x=> !lt D[a]! x) D j i:=⟨_,rfl⟩
   rw[<- hx] at hE e9 u1 u2 u4
   simp +contextual (disch:=omega) only[go_sem]
   refine Cw (fun n env N'=>∃(y:Nat),env 0=v/\env 1=gi a/\env 9=gi x/\env 10=gi y/\y+1=n/\y<=j/\x<=y+1/\N=N'/\scanDown (fun x=>lt D[a]! x) D x y=scanDown (fun x=>lt D[a]! x) D x j) (j+1) 4 (fun env N'=>env 0=v/\env 1=gi a/\env 9=gi x/\env 10=gi (scanDown (fun x=>lt D[a]! x) D x j:Nat)/\N=N'/\x<=scanDown (fun x=>lt D[a]! x) D x j+1) ⟨j,e0,e1,e9,e10,rfl,Zaa _,u2,rfl,rfl⟩ ?_ ?_
   ·clear e0 e1 e9 e10
    rintro J2 Yq2 hJ2 hY2 n2 env N' ⟨y,e0,e1,e9,e10,hn2,hy1,hy2,rfl,hU⟩
    rcases Zab y x with hlt|hge
    ·have hU:scanDown (fun x=>lt D[a]! x) D x j=y:=by
      rw[<- hU]
      cases y with
      |zero=>rfl
      |succ y=>rw[scanDown,if_neg (by simp;intro h;omega)]
     have c0:decide ((x:Int)<=y)=false:=by simp;omega
     simp +contextual (disch:=omega) only[go_sem,e0,e1,e9,e10,c0]
     refine hY2 _ _ ⟨?_,?_,?_,?_,rfl,by omega⟩
     all_goals simp +contextual (disch:=omega) only[go_sem,e0,e1,e9,e10,hU]
    ·have c0:decide ((x:Int)<=y)=true:=by simp;omega
     obtain⟨z,rfl⟩:∃ z,y=z+1:=⟨y - 1,by omega⟩
     rw[scanDown] at hU
     have c0:decide ((x:Int)<=(z:Int)+1)=true:=c0
     have n1:B5 (some (.int .i64 ((z:Int)+1)))=some (z+1):=Bh (by simp)
     have z1:(z:Int)+1 - 1=z:=by omega
     simp +contextual (disch:=omega) only[go_sem,e0,e1,e9,e10,c0,A5,n1,ia,la,hH.iad (j:=z+1) (by omega),hH.ld (j:=z+1) (by omega)]
     refine A9 (S.call _ _ _) ?_
     cases hl:lt D[a]! D[z+1]! with
     |false=>
      rw[if_neg (by simp[hl])] at hU
      simp +contextual (disch:=omega) only[go_sem,e0,e1,e9,e10,c0,hl]
      refine hY2 _ _ ⟨?_,?_,?_,?_,rfl,by omega⟩
      all_goals simp +contextual (disch:=omega) only[go_sem,e0,e1,e9,e10,<-hU]
     |true=>
      rw[if_pos (by simp[hl];omega)] at hU
      simp +contextual (disch:=omega) only[go_sem,e0,e1,e9,e10,c0,z1,hl]
      refine⟨z+1,by omega,hJ2 _ _ _ ⟨z,?_,?_,?_,?_,rfl,by omega,by omega,rfl,hU⟩⟩
      all_goals simp +contextual (disch:=omega) only[go_sem,e0,e1,e9,e10]
   ·clear e0 e1 e9 e10
    rintro env N' ⟨e0,e1,e9,e10,rfl,hxy⟩
    have w1:=scanDown_le (fun x=>lt D[a]! x) D x j
    have w4:=(scanDown_spec (fun x=>lt D[a]! x) D x j).2.2.2
    obtain⟨y,hy⟩:∃ y,y=scanDown (fun x=>lt D[a]! x) D x j:=⟨_,rfl⟩
    rw[<- hy] at hE e10 w1 w4 hxy
    rcases Zab y x with hlt|hge
    ·rw[if_pos hlt] at hE
     have c0:decide ((y:Int)<x)=true:=by simp;omega
     simp +contextual (disch:=omega) only[go_sem,e0,e1,e9,e10,c0]
     exact⟨_,rfl,hle,by rw[<- hE],by rw[<- hE];exact hH⟩
    ·rw[if_neg (by omega)] at hE
     have hne:x≠y:=by
      rintro rfl
      have q1:(!lt D[a]! D[x]!)=false:=u4 w1
      have q2:lt D[a]! D[x]! =false:=w4 (Zaa _) (by omega)
      rw[q2] at q1;cases q1
     have c0:decide ((y:Int)<x)=false:=by simp;omega
     have y1:(y:Int) - 1=((y - 1:Nat):Int):=by omega
     obtain⟨N3,N4,s3,s4,hH4,hl4⟩:=hH.sw (a:=x) (b:=y) (by omega) (by omega)
     simp +contextual (disch:=omega) only[go_sem,e0,e1,e9,e10,c0,A5,hH.iad (j:=x) (by omega),hH.ld (j:=x) (by omega),hH.iad (j:=y) (by omega),hH.ld (j:=y) (by omega),s3,s4]
     refine⟨y - 1+1 - (x+1),by omega,hJ _ _ _ ⟨x+1,y - 1,swp D x y,?_,?_,?_,?_,rfl,by omega,by omega,by omega,by rw[Go.Sort.swp_size];exact hD,by omega,hH4,hE⟩⟩
     all_goals simp +contextual (disch:=omega) only[go_sem,e0,e1,e9,e10,y1]
 obtain⟨r,N,R,rfl,h⟩:=key
 exact⟨N,R,h⟩
theorem part_ret (S:SrtO Y lt) (H:Holds S.e U0 U rs k v d) {a b p:Nat} (hab:a<b) (hp:p<b) (hb:b<=d.size) (hs:d.size<=1099511627776):∃ N,Ret Tryz.prog S.q.partition [v,gi a,gi b,gi p] U (.tup [gi (partition lt d a b p).1,.bool (partition lt d a b p).2.1]) N/\Holds S.e U0 N rs k v (partition lt d a b p).2.2:=by
 have key:∃ r N,Ret Tryz.prog S.q.partition [v,gi a,gi b,gi p] U r N/\r= .tup [gi (partition lt d a b p).1,.bool (partition lt d a b p).2.1]/\Holds S.e U0 N rs k v (partition lt d a b p).2.2:=by
  refine B8 S.h_partition (Z0z rfl) ?_
  obtain⟨N1,N,s1,s2,hH,hl2⟩:=H.sw (a:=a) (b:=p) (by omega) (by omega)
  obtain⟨j,hh⟩:∃ h,h=b - 1:=⟨_,rfl⟩
  have hbI:(b:Int) - 1=j:=by omega
  have hD:=Go.Sort.swp_size d a p
  obtain⟨P0,hP0⟩:∃ P0,P0=partition lt d a b p:=⟨_,rfl⟩
  rw[<- hP0]
  have hE:=hP0.symm
  simp only[partition] at hE
  rw[<- hh] at hE
  obtain⟨D,hD0⟩:∃ D0,D0=swp d a p:=⟨_,rfl⟩
  rw[<- hD0] at hH hD hE
  simp +contextual (disch:=omega) only[go_sem,Rp,hbI,A5,H.iad (j:=a) (by omega),H.ld (j:=a) (by omega),H.iad (j:=p) (by omega),H.ld (j:=p) (by omega),s1,s2]
  have ia:=hH.iad (j:=a) (by omega)
  have la:=hH.ld (j:=a) (by omega)
  obtain⟨i,hi⟩:∃ i,i=a+1:=⟨_,rfl⟩
  rw[<- hi] at hE
  have hij:i<=j+1:=by omega
  refine Cw (fun n env N'=>∃(x:Nat),env 0=v/\env 1=gi a/\env 10=gi x/\env 11=gi j/\j+1 - x=n/\i<=x/\x<=j+1/\N=N'/\scanUp (fun x=>lt x D[a]!) D j x=scanUp (fun x=>lt x D[a]!) D j i) (j+1 - i) 0 (fun env N'=>env 0=v/\env 1=gi a/\env 10=gi (scanUp (fun x=>lt x D[a]!) D j i:Nat)/\env 11=gi j/\N=N') ⟨i,rfl,rfl,(by rw[hi];rfl),rfl,rfl,Zaa _,hij,rfl,rfl⟩ ?_ ?_
  ·skip
   rintro J2 Yq2 hJ2 hY2 n2 env N' ⟨x,e0,e1,e9,e10,hn2,hx1,hx2,rfl,hU⟩
   rw[scanUp] at hU
   rcases Zab j x with hx|hx
   ·rw[if_neg (by simp;intro h;omega)] at hU
    have c0:decide ((x:Int)<=j)=false:=by simp;omega
    simp +contextual (disch:=omega) only[go_sem,e0,e1,e9,e10,c0]
    refine hY2 _ _ ⟨?_,?_,?_,?_,rfl⟩
    all_goals simp +contextual (disch:=omega) only[go_sem,e0,e1,e9,e10,hU]
   ·have c0:decide ((x:Int)<=j)=true:=by simp;omega
    simp +contextual (disch:=omega) only[go_sem,e0,e1,e9,e10,c0,A5,ia,la,hH.iad (j:=x) (by omega),hH.ld (j:=x) (by omega)]
    refine A9 (S.call _ _ _) ?_
    cases hl:lt D[x]! D[a]! with
    |false=>
     rw[if_neg (by simp[hl])] at hU
     simp +contextual (disch:=omega) only[go_sem,e0,e1,e9,e10,c0,hl]
     refine hY2 _ _ ⟨?_,?_,?_,?_,rfl⟩
     all_goals simp +contextual (disch:=omega) only[go_sem,e0,e1,e9,e10,hU]
    |true=>
     rw[if_pos (by simp[hl];omega)] at hU
     simp +contextual (disch:=omega) only[go_sem,e0,e1,e9,e10,c0,hl]
     refine⟨j+1 - (x+1),by omega,hJ2 _ _ _ ⟨x+1,?_,?_,?_,?_,rfl,by omega,by omega,rfl,hU⟩⟩
     all_goals simp +contextual (disch:=omega) only[go_sem,e0,e1,e9,e10]
  skip
  rintro env N' ⟨e0,e1,e9,e10,rfl⟩
  obtain⟨u1,u2,-,u4⟩:=scanUp_spec (fun x=>lt x D[a]!) D j _ i rfl
  have u2:=u2 hij
  obtain⟨x,hx⟩:∃ x,x=scanUp (fun x=>lt x D[a]!) D j i:=⟨_,rfl⟩
  rw[<- hx] at hE e9 u1 u2 u4
  simp +contextual (disch:=omega) only[go_sem]
  refine Cw (fun n env N'=>∃(y:Nat),env 0=v/\env 1=gi a/\env 10=gi x/\env 11=gi y/\y+1=n/\y<=j/\x<=y+1/\N=N'/\scanDown (fun x=> !lt x D[a]!) D x y=scanDown (fun x=> !lt x D[a]!) D x j) (j+1) 2 (fun env N'=>env 0=v/\env 1=gi a/\env 10=gi x/\env 11=gi (scanDown (fun x=> !lt x D[a]!) D x j:Nat)/\N=N'/\x<=scanDown (fun x=> !lt x D[a]!) D x j+1) ⟨j,e0,e1,e9,e10,rfl,Zaa _,u2,rfl,rfl⟩ ?_ ?_
  ·clear e0 e1 e9 e10
   rintro J2 Yq2 hJ2 hY2 n2 env N' ⟨y,e0,e1,e9,e10,hn2,hy1,hy2,rfl,hU⟩
   rcases Zab y x with hlt|hge
   ·have hU:scanDown (fun x=> !lt x D[a]!) D x j=y:=by
     rw[<- hU]
     cases y with
     |zero=>rfl
     |succ y=>rw[scanDown,if_neg (by simp;intro h;omega)]
    have c0:decide ((x:Int)<=y)=false:=by simp;omega
    simp +contextual (disch:=omega) only[go_sem,e0,e1,e9,e10,c0]
    refine hY2 _ _ ⟨?_,?_,?_,?_,rfl,by omega⟩
    all_goals simp +contextual (disch:=omega) only[go_sem,e0,e1,e9,e10,hU]
   ·obtain⟨z,rfl⟩:∃ z,y=z+1:=⟨y - 1,by omega⟩
    rw[scanDown] at hU
    have c0:decide ((x:Int)<=(z:Int)+1)=true:=by simp;omega
    have n1:B5 (some (.int .i64 ((z:Int)+1)))=some (z+1):=Bh (by simp)
    have z1:(z:Int)+1 - 1=z:=by omega
    simp +contextual (disch:=omega) only[go_sem,e0,e1,e9,e10,c0,A5,n1,ia,la,hH.iad (j:=z+1) (by omega),hH.ld (j:=z+1) (by omega)]
    refine A9 (S.call _ _ _) ?_
    cases hl:lt D[z+1]! D[a]! with
    |true=>
     rw[if_neg (by simp[hl])] at hU
     simp +contextual (disch:=omega) only[go_sem,e0,e1,e9,e10,c0,hl]
     refine hY2 _ _ ⟨?_,?_,?_,?_,rfl,by omega⟩
     all_goals simp +contextual (disch:=omega) only[go_sem,e0,e1,e9,e10,<-hU]
    |false=>
     rw[if_pos (by simp[hl];omega)] at hU
     simp +contextual (disch:=omega) only[go_sem,e0,e1,e9,e10,c0,z1,hl]
     refine⟨z+1,by omega,hJ2 _ _ _ ⟨z,?_,?_,?_,?_,rfl,by omega,by omega,rfl,hU⟩⟩
     all_goals simp +contextual (disch:=omega) only[go_sem,e0,e1,e9,e10]
  clear e0 e1 e9 e10
  rintro env N' ⟨e0,e1,e9,e10,rfl,hxy⟩
  have w1:=scanDown_le (fun x=> !lt x D[a]!) D x j
  have w4:=(scanDown_spec (fun x=> !lt x D[a]!) D x j).2.2.2
  obtain⟨y,hy⟩:∃ y,y=scanDown (fun x=> !lt x D[a]!) D x j:=⟨_,rfl⟩
  rw[<- hy] at hE e10 w1 w4 hxy
  have hne:x≠y:=by
   rintro rfl
   have q1:lt D[x]! D[a]! =false:=u4 w1
   have q2:(!lt D[x]! D[a]!)=false:=w4 (Zaa _) (by omega)
   rw[q1] at q2;cases q2
  rcases Zab y x with hlt|hge
  ·rw[if_pos hlt] at hE
   subst hE
   have c0:decide ((y:Int)<x)=true:=by simp;omega
   obtain⟨N3,N4,s3,s4,hH4,hl4⟩:=hH.sw (a:=y) (b:=a) (by omega) (by omega)
   simp +contextual (disch:=omega) only[go_sem,e0,e1,e9,e10,c0,A5,hH.iad (j:=a) (by omega),hH.ld (j:=a) (by omega),hH.iad (j:=y) (by omega),hH.ld (j:=y) (by omega),s3,s4]
   exact⟨_,rfl,by omega,rfl,hH4⟩
  ·rw[if_neg (by omega)] at hE
   subst hE
   have c0:decide ((y:Int)<x)=false:=by simp;omega
   have y1:(y:Int) - 1=((y - 1:Nat):Int):=by omega
   obtain⟨N3,N4,s3,s4,hH4,hl4⟩:=hH.sw (a:=x) (b:=y) (by omega) (by omega)
   simp +contextual (disch:=omega) only[go_sem,e0,e1,e9,e10,c0,A5,hH.iad (j:=x) (by omega),hH.ld (j:=x) (by omega),hH.iad (j:=y) (by omega),hH.ld (j:=y) (by omega),s3,s4]
   obtain⟨x0,hx0⟩:∃ x0,x0=x+1:=⟨_,rfl⟩
   obtain⟨y0,hy0⟩:∃ y0,y0=y - 1:=⟨_,rfl⟩
   have hD4:(swp D x y).size=d.size:=by rw[Go.Sort.swp_size];exact hD
   obtain⟨D4,hD40⟩:∃ D4,D4=swp D x y:=⟨_,rfl⟩
   rw[<- hx0,<-hy0,<-hD40]
   rw[<- hD40] at hH4 hD4
   obtain⟨R,hR⟩:∃ R,R=partLoop lt a x0 y0 D4:=⟨_,rfl⟩
   rw[<- hR]
   refine C4 (fun n env N=>∃(i j:Nat) (D:Array Y),env 0=v/\env 1=gi a/\env 10=gi i/\env 11=gi j/\j+1 - i=n/\1<=i/\i<=j+1/\j<b/\D.size=d.size/\U.length<=N.length/\Holds S.e U0 N rs k v D/\partLoop lt a i j D=R) (y0+1 - x0) ⟨x0,y0,D4,by simp +contextual (disch:=omega) only[go_sem,e0],by simp +contextual (disch:=omega) only[go_sem,e1],by rw[hx0];simp +contextual (disch:=omega) only[go_sem,e9],by rw[hy0];simp +contextual (disch:=omega) only[go_sem,y1],rfl,by omega,by omega,by omega,hD4,by omega,hH4,hR.symm⟩ ?_
   clear hH hH4 hij ia la s1 s2 s3 s4 e0 e1 e9 e10 c0 y1 hi u1 u2 u4 w1 w4 hxy hne hge hx hy hx0 hy0 hD40 hD4 hD hD0 hl2 hl4
   rintro J hJ n env N ⟨i,j,D,e0,e1,e9,e10,hn,hi,hij,hj,hD,hle,hH,hE⟩
   rw[partLoop_eq] at hE
   have ia:=hH.iad (j:=a) (by omega)
   have la:=hH.ld (j:=a) (by omega)
   simp +contextual (disch:=omega) only[go_sem]
   refine Cw (fun n env N'=>∃(x:Nat),env 0=v/\env 1=gi a/\env 10=gi x/\env 11=gi j/\j+1 - x=n/\i<=x/\x<=j+1/\N=N'/\scanUp (fun x=>lt x D[a]!) D j x=scanUp (fun x=>lt x D[a]!) D j i) (j+1 - i) 6 (fun env N'=>env 0=v/\env 1=gi a/\env 10=gi (scanUp (fun x=>lt x D[a]!) D j i:Nat)/\env 11=gi j/\N=N') ⟨i,e0,e1,e9,e10,rfl,Zaa _,hij,rfl,rfl⟩ ?_ ?_
   ·clear e0 e1 e9 e10
    rintro J2 Yq2 hJ2 hY2 n2 env N' ⟨x,e0,e1,e9,e10,hn2,hx1,hx2,rfl,hU⟩
    rw[scanUp] at hU
    rcases Zab j x with hx|hx
    ·rw[if_neg (by simp;intro h;omega)] at hU
     have c0:decide ((x:Int)<=j)=false:=by simp;omega
     simp +contextual (disch:=omega) only[go_sem,e0,e1,e9,e10,c0]
     refine hY2 _ _ ⟨?_,?_,?_,?_,rfl⟩
     all_goals simp +contextual (disch:=omega) only[go_sem,e0,e1,e9,e10,hU]
    ·have c0:decide ((x:Int)<=j)=true:=by simp;omega
     simp +contextual (disch:=omega) only[go_sem,e0,e1,e9,e10,c0,A5,ia,la,hH.iad (j:=x) (by omega),hH.ld (j:=x) (by omega)]
     refine A9 (S.call _ _ _) ?_
     cases hl:lt D[x]! D[a]! with
     |false=>
      rw[if_neg (by simp[hl])] at hU
      simp +contextual (disch:=omega) only[go_sem,e0,e1,e9,e10,c0,hl]
      refine hY2 _ _ ⟨?_,?_,?_,?_,rfl⟩
      all_goals simp +contextual (disch:=omega) only[go_sem,e0,e1,e9,e10,hU]
     |true=>
      rw[if_pos (by simp[hl];omega)] at hU
      simp +contextual (disch:=omega) only[go_sem,e0,e1,e9,e10,c0,hl]
      refine⟨j+1 - (x+1),by omega,hJ2 _ _ _ ⟨x+1,?_,?_,?_,?_,rfl,by omega,by omega,rfl,hU⟩⟩
      all_goals simp +contextual (disch:=omega) only[go_sem,e0,e1,e9,e10]
   clear e0 e1 e9 e10
   rintro env N' ⟨e0,e1,e9,e10,rfl⟩
   obtain⟨u1,u2,-,u4⟩:=scanUp_spec (fun x=>lt x D[a]!) D j _ i rfl
   have u2:=u2 hij
   obtain⟨x,hx⟩:∃ x,x=scanUp (fun x=>lt x D[a]!) D j i:=⟨_,rfl⟩
   rw[<- hx] at hE e9 u1 u2 u4
   simp +contextual (disch:=omega) only[go_sem]
   refine Cw (fun n env N'=>∃(y:Nat),env 0=v/\env 1=gi a/\env 10=gi x/\env 11=gi y/\y+1=n/\y<=j/\x<=y+1/\N=N'/\scanDown (fun x=> !lt x D[a]!) D x y=scanDown (fun x=> !lt x D[a]!) D x j) (j+1) 8 (fun env N'=>env 0=v/\env 1=gi a/\env 10=gi x/\env 11=gi (scanDown (fun x=> !lt x D[a]!) D x j:Nat)/\N=N'/\x<=scanDown (fun x=> !lt x D[a]!) D x j+1) ⟨j,e0,e1,e9,e10,rfl,Zaa _,u2,rfl,rfl⟩ ?_ ?_
   ·clear e0 e1 e9 e10
    rintro J2 Yq2 hJ2 hY2 n2 env N' ⟨y,e0,e1,e9,e10,hn2,hy1,hy2,rfl,hU⟩
    rcases Zab y x with hlt|hge
    ·have hU:scanDown (fun x=> !lt x D[a]!) D x j=y:=by
      rw[<- hU]
      cases y with
      |zero=>rfl
      |succ y=>rw[scanDown,if_neg (by simp;intro h;omega)]
     have c0:decide ((x:Int)<=y)=false:=by simp;omega
     simp +contextual (disch:=omega) only[go_sem,e0,e1,e9,e10,c0]
     refine hY2 _ _ ⟨?_,?_,?_,?_,rfl,by omega⟩
     all_goals simp +contextual (disch:=omega) only[go_sem,e0,e1,e9,e10,hU]
    ·obtain⟨z,rfl⟩:∃ z,y=z+1:=⟨y - 1,by omega⟩
     rw[scanDown] at hU
     have c0:decide ((x:Int)<=(z:Int)+1)=true:=by simp;omega
     have n1:B5 (some (.int .i64 ((z:Int)+1)))=some (z+1):=Bh (by simp)
     have z1:(z:Int)+1 - 1=z:=by omega
     simp +contextual (disch:=omega) only[go_sem,e0,e1,e9,e10,c0,A5,n1,ia,la,hH.iad (j:=z+1) (by omega),hH.ld (j:=z+1) (by omega)]
     refine A9 (S.call _ _ _) ?_
     cases hl:lt D[z+1]! D[a]! with
     |true=>
      rw[if_neg (by simp[hl])] at hU
      simp +contextual (disch:=omega) only[go_sem,e0,e1,e9,e10,c0,hl]
      refine hY2 _ _ ⟨?_,?_,?_,?_,rfl,by omega⟩
      all_goals simp +contextual (disch:=omega) only[go_sem,e0,e1,e9,e10,<-hU]
     |false=>
      rw[if_pos (by simp[hl];omega)] at hU
      simp +contextual (disch:=omega) only[go_sem,e0,e1,e9,e10,c0,z1,hl]
      refine⟨z+1,by omega,hJ2 _ _ _ ⟨z,?_,?_,?_,?_,rfl,by omega,by omega,rfl,hU⟩⟩
      all_goals simp +contextual (disch:=omega) only[go_sem,e0,e1,e9,e10]
   clear e0 e1 e9 e10
   rintro env N' ⟨e0,e1,e9,e10,rfl,hxy⟩
   have w1:=scanDown_le (fun x=> !lt x D[a]!) D x j
   have w4:=(scanDown_spec (fun x=> !lt x D[a]!) D x j).2.2.2
   obtain⟨y,hy⟩:∃ y,y=scanDown (fun x=> !lt x D[a]!) D x j:=⟨_,rfl⟩
   rw[<- hy] at hE e10 w1 w4 hxy
   have hne:x≠y:=by
    rintro rfl
    have q1:lt D[x]! D[a]! =false:=u4 w1
    have q2:(!lt D[x]! D[a]!)=false:=w4 (Zaa _) (by omega)
    rw[q1] at q2;cases q2
   rcases Zab y x with hlt|hge
   ·rw[if_pos hlt] at hE
    subst hE
    have c0:decide ((y:Int)<x)=true:=by simp;omega
    obtain⟨N3,N4,s3,s4,hH4,hl4⟩:=hH.sw (a:=y) (b:=a) (by omega) (by omega)
    simp +contextual (disch:=omega) only[go_sem,e0,e1,e9,e10,c0,A5,hH.iad (j:=a) (by omega),hH.ld (j:=a) (by omega),hH.iad (j:=y) (by omega),hH.ld (j:=y) (by omega),s3,s4]
    exact⟨_,rfl,by omega,rfl,hH4⟩
   ·rw[if_neg (by omega)] at hE
    have c0:decide ((y:Int)<x)=false:=by simp;omega
    have y1:(y:Int) - 1=((y - 1:Nat):Int):=by omega
    obtain⟨N3,N4,s3,s4,hH4,hl4⟩:=hH.sw (a:=x) (b:=y) (by omega) (by omega)
    simp +contextual (disch:=omega) only[go_sem,e0,e1,e9,e10,c0,A5,hH.iad (j:=x) (by omega),hH.ld (j:=x) (by omega),hH.iad (j:=y) (by omega),hH.ld (j:=y) (by omega),s3,s4]
    refine⟨y - 1+1 - (x+1),by omega,hJ _ _ _ ⟨x+1,y - 1,swp D x y,?_,?_,?_,?_,rfl,by omega,by omega,by omega,by rw[Go.Sort.swp_size];exact hD,by omega,hH4,hE⟩⟩
    all_goals simp +contextual (disch:=omega) only[go_sem,e0,e1,e9,e10,y1]
 obtain⟨r,N,R,rfl,h⟩:=key
 exact⟨N,R,h⟩
end O
namespace O
open Go Go.RowKit Go.Proofs.YtnknigikcdgebaaGreatDoor.Sy Go.Sort
variable {Y:Type} [Inhabited Y] {lt:Y->Y->Bool} {U0 U:St} {rs:List Thg} {k:Nat} {v:GV} {d:Array Y}
theorem scanSorted_ge (lt:Y->Y->Bool) (d:Array Y) (b:Nat):∀(n i:Nat),b - i=n->i<=scanSorted lt d b i/\(i<=b->scanSorted lt d b i<=b):=by
 intro n
 induction n with
 |zero=>
  intro i hn
  rw[scanSorted,if_neg (by simp;intro h;omega)]
  exact⟨Zaa _,fun h=>h⟩
 |succ n ih=>
  intro i hn
  rw[scanSorted]
  split
  ·have:=ih (i+1) (by omega)
   exact⟨by omega,fun _=>this.2 (by omega)⟩
  ·exact⟨Zaa _,fun h=>h⟩
theorem shiftDown_size (lt:Y->Y->Bool):∀(j:Nat) (d:Array Y),(shiftDown lt j d).size=d.size
 |0,_=>rfl
 |j+1,d=>by
  rw[shiftDown]
  split
  ·rfl
  ·rw[shiftDown_size lt j,Go.Sort.swp_size]
theorem shiftUp_size (lt:Y->Y->Bool) (b:Nat):∀(n j:Nat) (d:Array Y),b - j=n->(shiftUp lt b j d).size=d.size:=by
 intro n
 induction n with
 |zero=>intro j d h;rw[shiftUp,if_neg (by omega)]
 |succ n ih=>
  intro j d h
  rw[shiftUp,if_pos (by omega)]
  split
  ·rfl
  ·rw[ih _ _ (by omega),Go.Sort.swp_size]
theorem pis_ret (S:SrtO Y lt) (H:Holds S.e U0 U rs k v d) {a b:Nat} (hab:a<b) (hb:b<=d.size) (hs:d.size<=1099511627776):∃ N,Ret Tryz.prog S.q.partialInsertionSort [v,gi a,gi b] U (.bool (partialInsertionSort lt d a b).2) N/\Holds S.e U0 N rs k v (partialInsertionSort lt d a b).1:=by
 have key:∃ r N,Ret Tryz.prog S.q.partialInsertionSort [v,gi a,gi b] U r N/\r= .bool (partialInsertionSort lt d a b).2/\Holds S.e U0 N rs k v (partialInsertionSort lt d a b).1:=by
  refine B8 S.h_partialInsertionSort (Z0z rfl) ?_
  rw[partialInsertionSort]
  obtain⟨R,hR⟩:∃ R,R=partialIns lt a b 5 (a+1) d:=⟨_,rfl⟩
  rw[<- hR]
  simp +contextual (maxSteps:=600000) (disch:=omega) only[go_sem,Ez]
  refine C4 (fun n env N=>∃(s i:Nat) (D:Array Y),env 0=v/\env 1=gi a/\env 2=gi b/\env 7=gi i/\env 8=gi s/\5 - s=n/\s<=5/\a<i/\i<=b/\D.size=d.size/\U.length<=N.length/\Holds S.e U0 N rs k v D/\partialIns lt a b (5 - s) i D=R) 5 ⟨0,a+1,d,rfl,rfl,rfl,rfl,rfl,rfl,by omega,by omega,by omega,rfl,Zaa _,H,hR.symm⟩ ?_
  rintro J hJ n env N ⟨s,i0,D,e0,e1,e2,e7,e8,hn,hs5,hai,hib,hD,hle,hH,hE⟩
  rcases Zab s 5 with h5|h5
  ·have c0:decide ((s:Int)<5)=true:=by simp;omega
   obtain⟨m,hm⟩:∃ m,5 - s=m+1:=⟨4 - s,by omega⟩
   rw[hm,partialIns] at hE
   dsimp only at hE
   simp +contextual (maxSteps:=600000) (disch:=omega) only[go_sem,e0,e1,e2,e7,e8,c0]
   refine Cw (fun n env N'=>∃(x:Nat),env 0=v/\env 1=gi a/\env 2=gi b/\env 7=gi x/\env 8=gi s/\b - x=n/\i0<=x/\x<=b/\N=N'/\scanSorted lt D b x=scanSorted lt D b i0) (b - i0) 2 (fun env N'=>env 0=v/\env 1=gi a/\env 2=gi b/\env 7=gi (scanSorted lt D b i0:Nat)/\env 8=gi s/\N=N') ⟨i0,by simp +contextual (maxSteps:=600000) (disch:=omega) only[go_sem,e0],by simp +contextual (maxSteps:=600000) (disch:=omega) only[go_sem,e1],by simp +contextual (maxSteps:=600000) (disch:=omega) only[go_sem,e2],by simp +contextual (maxSteps:=600000) (disch:=omega) only[go_sem,e7],by simp +contextual (maxSteps:=600000) (disch:=omega) only[go_sem,e8],rfl,Zaa _,hib,rfl,rfl⟩ ?_ ?_
   ·clear e0 e1 e2 e7 e8
    rintro J2 Yq2 hJ2 hY2 n2 env N' ⟨x,e0,e1,e2,e7,e8,hn2,hx1,hx2,rfl,hU⟩
    rw[scanSorted] at hU
    rcases Zab x b with hx|hx
    ·have c1:decide ((x:Int)<b)=true:=by simp;omega
     have x1:(x:Int) - 1=((x - 1:Nat):Int):=by omega
     simp +contextual (maxSteps:=600000) (disch:=omega) only[go_sem,e0,e1,e2,e7,e8,c1,x1,A5,hH.iad (j:=x) (by omega),hH.ld (j:=x) (by omega),hH.iad (j:=x - 1) (by omega),hH.ld (j:=x - 1) (by omega)]
     refine A9 (S.call _ _ _) ?_
     cases hl:lt D[x]! D[x - 1]! with
     |true=>
      rw[if_neg (by simp[hl])] at hU
      simp +contextual (maxSteps:=600000) (disch:=omega) only[go_sem,e0,e1,e2,e7,e8,c1,hl]
      refine hY2 _ _ ⟨?_,?_,?_,?_,?_,rfl⟩
      all_goals simp +contextual (maxSteps:=600000) (disch:=omega) only[go_sem,e0,e1,e2,e7,e8,hU]
     |false=>
      rw[if_pos (by simp[hl];omega)] at hU
      simp +contextual (maxSteps:=600000) (disch:=omega) only[go_sem,e0,e1,e2,e7,e8,c1,hl]
      refine⟨b - (x+1),by omega,hJ2 _ _ _ ⟨x+1,?_,?_,?_,?_,?_,rfl,by omega,by omega,rfl,hU⟩⟩
      all_goals simp +contextual (maxSteps:=600000) (disch:=omega) only[go_sem,e0,e1,e2,e7,e8]
    ·rw[if_neg (by simp;intro h;omega)] at hU
     have c1:decide ((x:Int)<b)=false:=by simp;omega
     simp +contextual (maxSteps:=600000) (disch:=omega) only[go_sem,e0,e1,e2,e7,e8,c1]
     refine hY2 _ _ ⟨?_,?_,?_,?_,?_,rfl⟩
     all_goals simp +contextual (maxSteps:=600000) (disch:=omega) only[go_sem,e0,e1,e2,e7,e8,hU]
   clear e0 e1 e2 e7 e8
   rintro env N' ⟨e0,e1,e2,e7,e8,rfl⟩
   obtain⟨g1,g2⟩:=scanSorted_ge lt D b _ i0 rfl
   have g2:=g2 hib
   obtain⟨i,hi⟩:∃ i,i=scanSorted lt D b i0:=⟨_,rfl⟩
   rw[<- hi] at hE e7 g1 g2
   by_cases h1:i=b
   ·rw[if_pos h1] at hE
    subst hE
    have c1:((b:Int)==b)=true:=by simp
    rw[h1] at e7
    simp +contextual (maxSteps:=600000) (disch:=omega) only[go_sem,e0,e1,e2,e7,e8,c1]
    exact⟨_,rfl,hle,rfl,hH⟩
   ·rw[if_neg h1] at hE
    have c1:((i:Int)==b)=false:=by simp;omega
    by_cases h50:b - a<50
    ·rw[if_pos h50] at hE
     subst hE
     have c2:decide ((b:Int) - a<50)=true:=by simp;omega
     simp +contextual (maxSteps:=600000) (disch:=omega) only[go_sem,e0,e1,e2,e7,e8,c1,c2]
     exact⟨_,rfl,hle,rfl,hH⟩
    ·rw[if_neg h50] at hE
     have c2:decide ((b:Int) - a<50)=false:=by simp;omega
     have i1:(i:Int) - 1=((i - 1:Nat):Int):=by omega
     obtain⟨N1,N2,s1,s2,hH1,hl1⟩:=hH.sw (a:=i) (b:=i - 1) (by omega) (by omega)
     simp +contextual (maxSteps:=600000) (disch:=omega) only[go_sem,e0,e1,e2,e7,e8,c1,c2,i1,A5,hH.iad (j:=i) (by omega),hH.ld (j:=i) (by omega),hH.iad (j:=i - 1) (by omega),hH.ld (j:=i - 1) (by omega),s1,s2]
     have hD1:(swp D i (i - 1)).size=d.size:=by rw[Go.Sort.swp_size];exact hD
     have hle1:U.length<=N2.length:=by omega
     obtain⟨D1,hD10⟩:∃ D1,D1=swp D i (i - 1):=⟨_,rfl⟩
     rw[<- hD10] at hE hD1 hH1
     clear hH hle s1 s2
     by_cases hA:i - a≥2
     ·rw[if_pos hA] at hE
      have cA:decide ((2:Int)<=(i:Int) - a)=true:=by simp;omega
      simp +contextual (maxSteps:=600000) (disch:=omega) only[go_sem,e0,e1,e2,e7,e8,cA]
      refine Cw (fun n env N=>∃(j:Nat) (E:Array Y),env 0=v/\env 1=gi a/\env 2=gi b/\env 7=gi i/\env 8=gi s/\env 9=gi j/\j=n/\j<b/\E.size=d.size/\U.length<=N.length/\Holds S.e U0 N rs k v E/\shiftDown lt j E=shiftDown lt (i - 1) D1) (i - 1) 4 (fun env N=>env 0=v/\env 1=gi a/\env 2=gi b/\env 7=gi i/\env 8=gi s/\U.length<=N.length/\Holds S.e U0 N rs k v (shiftDown lt (i - 1) D1)) ⟨i - 1,D1,by simp +contextual (maxSteps:=600000) (disch:=omega) only[go_sem,e0],by simp +contextual (maxSteps:=600000) (disch:=omega) only[go_sem,e1],by simp +contextual (maxSteps:=600000) (disch:=omega) only[go_sem,e2],by simp +contextual (maxSteps:=600000) (disch:=omega) only[go_sem,e7],by simp +contextual (maxSteps:=600000) (disch:=omega) only[go_sem,e8],by simp +contextual (maxSteps:=600000) (disch:=omega) only[go_sem,i1],rfl,by omega,hD1,hle1,hH1,rfl⟩ ?_ ?_
      ·clear e0 e1 e2 e7 e8
       rintro J2 Yq2 hJ2 hY2 n2 env N ⟨j,E,e0,e1,e2,e7,e8,e9,hn2,hj,hE2,hle2,hH,hU⟩
       cases j with
       |zero=>
        have c5:decide ((1:Int)<=0)=false:=rfl
        simp +contextual (maxSteps:=600000) (disch:=omega) only[go_sem,e0,e1,e2,e7,e8,e9,c5,Za7]
        refine hY2 _ _ ⟨?_,?_,?_,?_,?_,hle2,by rw[<- hU];exact hH⟩
        all_goals simp +contextual (maxSteps:=600000) (disch:=omega) only[go_sem,e0,e1,e2,e7,e8]
       |succ m=>
        have c5:decide ((1:Int)<=(m:Int)+1)=true:=decide_eq_true (by omega)
        have n1:B5 (some (.int .i64 ((m:Int)+1)))=some (m+1):=Bh (by simp)
        have m1:(m:Int)+1 - 1=m:=by omega
        rw[shiftDown] at hU
        simp +contextual (maxSteps:=600000) (disch:=omega) only[go_sem,e0,e1,e2,e7,e8,e9,c5,n1,m1,A5,hH.iad (j:=m+1) (by omega),hH.ld (j:=m+1) (by omega),hH.iad (j:=m) (by omega),hH.ld (j:=m) (by omega)]
        refine A9 (S.call _ _ _) ?_
        cases hl:lt E[m+1]! E[m]! with
        |false=>
         rw[if_pos (by simp[hl])] at hU
         simp +contextual (maxSteps:=600000) (disch:=omega) only[go_sem,e0,e1,e2,e7,e8,e9,hl]
         refine hY2 _ _ ⟨?_,?_,?_,?_,?_,hle2,by rw[<- hU];exact hH⟩
         all_goals simp +contextual (maxSteps:=600000) (disch:=omega) only[go_sem,e0,e1,e2,e7,e8]
        |true=>
         rw[if_neg (by simp[hl])] at hU
         obtain⟨N3,N4,s3,s4,hH4,hl4⟩:=hH.sw (a:=m+1) (b:=m) (by omega) (by omega)
         simp +contextual (maxSteps:=600000) (disch:=omega) only[go_sem,e0,e1,e2,e7,e8,e9,n1,m1,A5,hl,hH.iad (j:=m+1) (by omega),hH.ld (j:=m+1) (by omega),hH.iad (j:=m) (by omega),hH.ld (j:=m) (by omega),s3,s4]
         refine⟨m,by omega,hJ2 _ _ _ ⟨m,swp E (m+1) m,?_,?_,?_,?_,?_,?_,rfl,by omega,by rw[Go.Sort.swp_size];exact hE2,by omega,hH4,hU⟩⟩
         all_goals simp +contextual (maxSteps:=600000) (disch:=omega) only[go_sem,e0,e1,e2,e7,e8,m1]
      clear e0 e1 e2 e7 e8 hH1 hle1
      rintro env N ⟨e0,e1,e2,e7,e8,hle2,hH2⟩
      have hD2:=(shiftDown_size lt (i - 1) D1).trans hD1
      obtain⟨D2,hD20⟩:∃ D2,D2=shiftDown lt (i - 1) D1:=⟨_,rfl⟩
      rw[<- hD20] at hE hD2 hH2
      simp +contextual (maxSteps:=600000) (disch:=omega) only[go_sem]
      by_cases hB:b - i≥2
      ·rw[if_pos hB] at hE
       have cB:decide ((2:Int)<=(b:Int) - i)=true:=by simp;omega
       simp +contextual (maxSteps:=600000) (disch:=omega) only[go_sem,e0,e1,e2,e7,e8,cB,cA]
       refine Cw (fun n env N=>∃(j:Nat) (E:Array Y),env 0=v/\env 1=gi a/\env 2=gi b/\env 7=gi i/\env 8=gi s/\env 10=gi j/\b - j=n/\1<=j/\j<=b/\E.size=d.size/\U.length<=N.length/\Holds S.e U0 N rs k v E/\shiftUp lt b j E=shiftUp lt b (i+1) D2) (b - (i+1)) 6 (fun env N=>env 0=v/\env 1=gi a/\env 2=gi b/\env 7=gi i/\env 8=gi s/\U.length<=N.length/\Holds S.e U0 N rs k v (shiftUp lt b (i+1) D2)) ⟨i+1,D2,by simp +contextual (maxSteps:=600000) (disch:=omega) only[go_sem,e0],by simp +contextual (maxSteps:=600000) (disch:=omega) only[go_sem,e1],by simp +contextual (maxSteps:=600000) (disch:=omega) only[go_sem,e2],by simp +contextual (maxSteps:=600000) (disch:=omega) only[go_sem,e7],by simp +contextual (maxSteps:=600000) (disch:=omega) only[go_sem,e8],by simp +contextual (maxSteps:=600000) (disch:=omega) only[go_sem,e7],rfl,by omega,by omega,hD2,hle2,hH2,rfl⟩ ?_ ?_
       ·clear e0 e1 e2 e7 e8
        rintro J2 Yq2 hJ2 hY2 n2 env N ⟨j,E,e0,e1,e2,e7,e8,e9,hn2,hj1,hj,hE2,hle3,hH,hU⟩
        rw[shiftUp] at hU
        rcases Zab j b with hjb|hjb
        ·rw[if_pos hjb] at hU
         have c5:decide ((j:Int)<b)=true:=by simp;omega
         have j1:(j:Int) - 1=((j - 1:Nat):Int):=by omega
         simp +contextual (maxSteps:=600000) (disch:=omega) only[go_sem,e0,e1,e2,e7,e8,e9,c5,j1,A5,hH.iad (j:=j) (by omega),hH.ld (j:=j) (by omega),hH.iad (j:=j - 1) (by omega),hH.ld (j:=j - 1) (by omega)]
         refine A9 (S.call _ _ _) ?_
         cases hl:lt E[j]! E[j - 1]! with
         |false=>
          rw[if_pos (by simp[hl])] at hU
          simp +contextual (maxSteps:=600000) (disch:=omega) only[go_sem,e0,e1,e2,e7,e8,e9,hl]
          refine hY2 _ _ ⟨?_,?_,?_,?_,?_,hle3,by rw[<- hU];exact hH⟩
          all_goals simp +contextual (maxSteps:=600000) (disch:=omega) only[go_sem,e0,e1,e2,e7,e8]
         |true=>
          rw[if_neg (by simp[hl])] at hU
          obtain⟨N3,N4,s3,s4,hH4,hl4⟩:=hH.sw (a:=j) (b:=j - 1) (by omega) (by omega)
          simp +contextual (maxSteps:=600000) (disch:=omega) only[go_sem,e0,e1,e2,e7,e8,e9,j1,A5,hl,hH.iad (j:=j) (by omega),hH.ld (j:=j) (by omega),hH.iad (j:=j - 1) (by omega),hH.ld (j:=j - 1) (by omega),s3,s4]
          refine⟨b - (j+1),by omega,hJ2 _ _ _ ⟨j+1,swp E j (j - 1),?_,?_,?_,?_,?_,?_,rfl,by omega,by omega,by rw[Go.Sort.swp_size];exact hE2,by omega,hH4,hU⟩⟩
          all_goals simp +contextual (maxSteps:=600000) (disch:=omega) only[go_sem,e0,e1,e2,e7,e8,e9]
        ·rw[if_neg (by omega)] at hU
         have c5:decide ((j:Int)<b)=false:=by simp;omega
         simp +contextual (maxSteps:=600000) (disch:=omega) only[go_sem,e0,e1,e2,e7,e8,e9,c5]
         refine hY2 _ _ ⟨?_,?_,?_,?_,?_,hle3,by rw[<- hU];exact hH⟩
         all_goals simp +contextual (maxSteps:=600000) (disch:=omega) only[go_sem,e0,e1,e2,e7,e8]
       clear e0 e1 e2 e7 e8 hH2 hle2
       rintro env N ⟨e0,e1,e2,e7,e8,hle2,hH2⟩
       simp +contextual (maxSteps:=600000) (disch:=omega) only[go_sem,e0,e1,e2,e7,e8]
       refine⟨n - 1,by omega,hJ _ _ _ ⟨s+1,i,_,?_,?_,?_,?_,?_,by omega,by omega,by omega,by omega,(by rw[shiftUp_size lt b _ _ _ rfl];exact hD2),hle2,hH2,by rw[<- hE];congr 1;omega⟩⟩
       all_goals simp +contextual (maxSteps:=600000) (disch:=omega) only[go_sem,e0,e1,e2,e7,e8]
      ·rw[if_neg hB] at hE
       have cB:decide ((2:Int)<=(b:Int) - i)=false:=by simp;omega
       simp +contextual (maxSteps:=600000) (disch:=omega) only[go_sem,e0,e1,e2,e7,e8,cB,cA]
       refine⟨n - 1,by omega,hJ _ _ _ ⟨s+1,i,_,?_,?_,?_,?_,?_,by omega,by omega,by omega,by omega,hD2,hle2,hH2,by rw[<- hE];congr 1;omega⟩⟩
       all_goals simp +contextual (maxSteps:=600000) (disch:=omega) only[go_sem,e0,e1,e2,e7,e8]
     ·rw[if_neg hA] at hE
      have cA:decide ((2:Int)<=(i:Int) - a)=false:=by simp;omega
      obtain⟨D2,hD20⟩:∃ D2,D2=D1:=⟨_,rfl⟩
      have hD2:=hD1
      have hH2:=hH1
      have hle2:=hle1
      rw[<- hD20] at hE hD2 hH2
      by_cases hB:b - i≥2
      ·rw[if_pos hB] at hE
       have cB:decide ((2:Int)<=(b:Int) - i)=true:=by simp;omega
       simp +contextual (maxSteps:=600000) (disch:=omega) only[go_sem,e0,e1,e2,e7,e8,cB,cA]
       refine Cw (fun n env N=>∃(j:Nat) (E:Array Y),env 0=v/\env 1=gi a/\env 2=gi b/\env 7=gi i/\env 8=gi s/\env 10=gi j/\b - j=n/\1<=j/\j<=b/\E.size=d.size/\U.length<=N.length/\Holds S.e U0 N rs k v E/\shiftUp lt b j E=shiftUp lt b (i+1) D2) (b - (i+1)) 6 (fun env N=>env 0=v/\env 1=gi a/\env 2=gi b/\env 7=gi i/\env 8=gi s/\U.length<=N.length/\Holds S.e U0 N rs k v (shiftUp lt b (i+1) D2)) ⟨i+1,D2,by simp +contextual (maxSteps:=600000) (disch:=omega) only[go_sem,e0],by simp +contextual (maxSteps:=600000) (disch:=omega) only[go_sem,e1],by simp +contextual (maxSteps:=600000) (disch:=omega) only[go_sem,e2],by simp +contextual (maxSteps:=600000) (disch:=omega) only[go_sem,e7],by simp +contextual (maxSteps:=600000) (disch:=omega) only[go_sem,e8],by simp +contextual (maxSteps:=600000) (disch:=omega) only[go_sem,e7],rfl,by omega,by omega,hD2,hle2,hH2,rfl⟩ ?_ ?_
       ·clear e0 e1 e2 e7 e8
        rintro J2 Yq2 hJ2 hY2 n2 env N ⟨j,E,e0,e1,e2,e7,e8,e9,hn2,hj1,hj,hE2,hle3,hH,hU⟩
        rw[shiftUp] at hU
        rcases Zab j b with hjb|hjb
        ·rw[if_pos hjb] at hU
         have c5:decide ((j:Int)<b)=true:=by simp;omega
         have j1:(j:Int) - 1=((j - 1:Nat):Int):=by omega
         simp +contextual (maxSteps:=600000) (disch:=omega) only[go_sem,e0,e1,e2,e7,e8,e9,c5,j1,A5,hH.iad (j:=j) (by omega),hH.ld (j:=j) (by omega),hH.iad (j:=j - 1) (by omega),hH.ld (j:=j - 1) (by omega)]
         refine A9 (S.call _ _ _) ?_
         cases hl:lt E[j]! E[j - 1]! with
         |false=>
          rw[if_pos (by simp[hl])] at hU
          simp +contextual (maxSteps:=600000) (disch:=omega) only[go_sem,e0,e1,e2,e7,e8,e9,hl]
          refine hY2 _ _ ⟨?_,?_,?_,?_,?_,hle3,by rw[<- hU];exact hH⟩
          all_goals simp +contextual (maxSteps:=600000) (disch:=omega) only[go_sem,e0,e1,e2,e7,e8]
         |true=>
          rw[if_neg (by simp[hl])] at hU
          obtain⟨N3,N4,s3,s4,hH4,hl4⟩:=hH.sw (a:=j) (b:=j - 1) (by omega) (by omega)
          simp +contextual (maxSteps:=600000) (disch:=omega) only[go_sem,e0,e1,e2,e7,e8,e9,j1,A5,hl,hH.iad (j:=j) (by omega),hH.ld (j:=j) (by omega),hH.iad (j:=j - 1) (by omega),hH.ld (j:=j - 1) (by omega),s3,s4]
          refine⟨b - (j+1),by omega,hJ2 _ _ _ ⟨j+1,swp E j (j - 1),?_,?_,?_,?_,?_,?_,rfl,by omega,by omega,by rw[Go.Sort.swp_size];exact hE2,by omega,hH4,hU⟩⟩
          all_goals simp +contextual (maxSteps:=600000) (disch:=omega) only[go_sem,e0,e1,e2,e7,e8,e9]
        ·rw[if_neg (by omega)] at hU
         have c5:decide ((j:Int)<b)=false:=by simp;omega
         simp +contextual (maxSteps:=600000) (disch:=omega) only[go_sem,e0,e1,e2,e7,e8,e9,c5]
         refine hY2 _ _ ⟨?_,?_,?_,?_,?_,hle3,by rw[<- hU];exact hH⟩
         all_goals simp +contextual (maxSteps:=600000) (disch:=omega) only[go_sem,e0,e1,e2,e7,e8]
       clear e0 e1 e2 e7 e8 hH2 hle2
       rintro env N ⟨e0,e1,e2,e7,e8,hle2,hH2⟩
       simp +contextual (maxSteps:=600000) (disch:=omega) only[go_sem,e0,e1,e2,e7,e8]
       refine⟨n - 1,by omega,hJ _ _ _ ⟨s+1,i,_,?_,?_,?_,?_,?_,by omega,by omega,by omega,by omega,(by rw[shiftUp_size lt b _ _ _ rfl];exact hD2),hle2,hH2,by rw[<- hE];congr 1;omega⟩⟩
       all_goals simp +contextual (maxSteps:=600000) (disch:=omega) only[go_sem,e0,e1,e2,e7,e8]
      ·rw[if_neg hB] at hE
       have cB:decide ((2:Int)<=(b:Int) - i)=false:=by simp;omega
       simp +contextual (maxSteps:=600000) (disch:=omega) only[go_sem,e0,e1,e2,e7,e8,cB,cA]
       refine⟨n - 1,by omega,hJ _ _ _ ⟨s+1,i,_,?_,?_,?_,?_,?_,by omega,by omega,by omega,by omega,hD2,hle2,hH2,by rw[<- hE];congr 1;omega⟩⟩
       all_goals simp +contextual (maxSteps:=600000) (disch:=omega) only[go_sem,e0,e1,e2,e7,e8]
  ·have c0:decide ((s:Int)<5)=false:=by simp;omega
   have hm:5 - s=0:=by omega
   rw[hm,partialIns] at hE
   subst hE
   simp +contextual (maxSteps:=600000) (disch:=omega) only[go_sem,e0,e1,e2,e7,e8,c0]
   exact⟨_,rfl,hle,rfl,hH⟩
 obtain⟨r,N,R,rfl,h⟩:=key
 exact⟨N,R,h⟩
end O
namespace O
open Go Go.RowKit Go.Proofs.YtnknigikcdgebaaGreatDoor.Sy Go.Sort
variable {Y:Type} [Inhabited Y] {lt:Y->Y->Bool} {U0 U:St} {rs:List Thg} {k g:Nat} {s:Int} {v:GV} {d:Array Y}
theorem order2_ret (S:SrtO Y lt) (H:Holds S.e U0 U (pt 1 g [gi s]::rs) (k+1) v d) {a b:Nat} (ha:a<d.size) (hb:b<d.size):∃(r1 r2:Nat) (s':Int) (N:St),Ret Tryz.prog S.q.order2 [v,gi a,gi b,.ptr g 0] U (.tup [gi r1,gi r2]) N/\Holds S.e U0 N (pt 1 g [gi s']::rs) (k+1) v d/\((r1=a/\r2=b)∨(r1=b/\r2=a)):=by
 have key:∃ r N,Ret Tryz.prog S.q.order2 [v,gi a,gi b,.ptr g 0] U r N/\∃(r1 r2:Nat) (s':Int),r= .tup [gi r1,gi r2]/\Holds S.e U0 N (pt 1 g [gi s']::rs) (k+1) v d/\((r1=a/\r2=b)∨(r1=b/\r2=a)):=by
  refine B8 S.h_order2 (Z0z rfl) ?_
  simp +contextual (disch:=omega) only[go_sem,A6k,A5,H.iad ha,H.ld ha,H.iad hb,H.ld hb]
  refine A9 (S.call _ _ _) ?_
  cases hl:lt d[b]! d[a]! with
  |true=>
   have l1:=A3 (a:=false) (n:=1) (off:=0) (H.2.pt 0 rfl)
   have l1:ldG false 1 U (.ptr g 0)=some (gi s):=l1
   obtain⟨N1,st1,H1,hl1⟩:=H.2.st 0 rfl 1 0 (gi (IntKind.i64.wrap (s+1))) rfl (by decide) (by simp)
   simp +contextual (disch:=omega) only[go_sem,hl,l1,st1]
   exact⟨_,rfl,by omega,b,a,IntKind.i64.wrap (s+1),rfl,⟨H.1,H1⟩,.inr ⟨rfl,rfl⟩⟩
  |false=>
   simp +contextual (disch:=omega) only[go_sem,hl]
   exact⟨_,rfl,a,b,s,rfl,H,.inl ⟨rfl,rfl⟩⟩
 obtain⟨r,N,R,r1,r2,s',rfl,h1,h2⟩:=key
 exact⟨r1,r2,s',N,R,h1,h2⟩
theorem median_ret (S:SrtO Y lt) (H:Holds S.e U0 U (pt 1 g [gi s]::rs) (k+1) v d) {a b c:Nat} (ha:a<d.size) (hb:b<d.size) (hc:c<d.size):∃(r1:Nat) (s':Int) (N:St),Ret Tryz.prog S.q.median [v,gi a,gi b,gi c,.ptr g 0] U (gi r1) N/\Holds S.e U0 N (pt 1 g [gi s']::rs) (k+1) v d/\(r1=a∨r1=b∨r1=c):=by
 have key:∃ r N,Ret Tryz.prog S.q.median [v,gi a,gi b,gi c,.ptr g 0] U r N/\∃(r1:Nat) (s':Int),r=gi r1/\Holds S.e U0 N (pt 1 g [gi s']::rs) (k+1) v d/\(r1=a∨r1=b∨r1=c):=by
  refine B8 S.h_median (Z0z rfl) ?_
  simp +contextual (disch:=omega) only[go_sem,A6i]
  obtain⟨a1,b1,s1,N1,R1,H1,h1⟩:=order2_ret S H ha hb
  refine Am R1 ?_
  simp +contextual (disch:=omega) only[go_sem]
  obtain⟨b2,c2,s2,N2,R2,H2,h2⟩:=order2_ret S H1 (a:=b1) (b:=c) (by omega) hc
  refine Am R2 ?_
  simp +contextual (disch:=omega) only[go_sem]
  obtain⟨a3,b3,s3,N3,R3,H3,h3⟩:=order2_ret S H2 (a:=a1) (b:=b2) (by omega) (by omega)
  refine Am R3 ?_
  simp +contextual (disch:=omega) only[go_sem]
  have:=R1.2.1
  have:=R2.2.1
  have:=R3.2.1
  exact⟨_,rfl,by omega,b3,s3,rfl,H3,by omega⟩
 obtain⟨r,N,R,r1,s',rfl,h1,h2⟩:=key
 exact⟨r1,s',N,R,h1,h2⟩
theorem medAdj_ret (S:SrtO Y lt) (H:Holds S.e U0 U (pt 1 g [gi s]::rs) (k+1) v d) {a:Nat} (h0:0<a) (ha:a+1<d.size) (hs:d.size<=1099511627776):∃(r1:Nat) (s':Int) (N:St),Ret Tryz.prog S.q.medianAdjacent [v,gi a,.ptr g 0] U (gi r1) N/\Holds S.e U0 N (pt 1 g [gi s']::rs) (k+1) v d/\a<=r1+1/\r1<=a+1:=by
 have key:∃ r N,Ret Tryz.prog S.q.medianAdjacent [v,gi a,.ptr g 0] U r N/\∃(r1:Nat) (s':Int),r=gi r1/\Holds S.e U0 N (pt 1 g [gi s']::rs) (k+1) v d/\a<=r1+1/\r1<=a+1:=by
  refine B8 S.h_medianAdjacent (Z0z rfl) ?_
  obtain⟨p,rfl⟩:∃ p,a=p+1:=⟨a - 1,by omega⟩
  have p1:(p:Int)+1 - 1=p:=by omega
  simp +contextual (disch:=omega) only[go_sem,Ir,p1]
  obtain⟨r1,s1,N1,R1,H1,h1⟩:=median_ret S H (a:=p) (b:=p+1) (c:=p+1+1) (by omega) (by omega) (by omega)
  refine Am R1 ?_
  simp +contextual (disch:=omega) only[go_sem]
  have:=R1.2.1
  exact⟨_,rfl,by omega,r1,s1,rfl,H1,by omega,by omega⟩
 obtain⟨r,N,R,r1,s',rfl,h1,h2⟩:=key
 exact⟨r1,s',N,R,h1,h2⟩
theorem choose_ret (S:SrtO Y lt) (H:Holds S.e U0 U rs k v d) {a b:Nat} (hab:a<b) (hb:b<=d.size) (hs:d.size<=1099511627776):∃(p h:Nat) (N:St),Ret Tryz.prog S.q.choosePivot [v,gi a,gi b] U (.tup [gi p,gi h]) N/\Holds S.e U0 N rs k v d/\a<=p/\p<b/\h<=2:=by
 have key:∃ r N,Ret Tryz.prog S.q.choosePivot [v,gi a,gi b] U r N/\∃(p h:Nat),r= .tup [gi p,gi h]/\Holds S.e U0 N rs k v d/\a<=p/\p<b/\h<=2:=by
  refine B8 S.h_choosePivot (Z0z rfl) ?_
  obtain⟨l,hl⟩:∃ l,l=b - a:=⟨_,rfl⟩
  have hlI:(b:Int) - a=l:=by omega
  obtain⟨q,hq⟩:∃ q,q=l / 4:=⟨_,rfl⟩
  have hqI:(l:Int).tdiv 4=q:=by rw[hq];rfl
  obtain⟨i,hi⟩:∃ i,i=a+q*1:=⟨_,rfl⟩
  obtain⟨j,hj⟩:∃ i,i=a+q*2:=⟨_,rfl⟩
  obtain⟨m,hm⟩:∃ i,i=a+q*3:=⟨_,rfl⟩
  have hiI:(a:Int)+q*1=i:=by omega
  have hjI:(a:Int)+q*2=j:=by omega
  have hmI:(a:Int)+q*3=m:=by omega
  have H0:Holds S.e U0 (U++[some (.row 1 [gi 0])]) (pt 1 U.length [gi 0]::rs) (k+1) v d:=⟨by simpa using H.1,H.2.new 1 [gi 0]⟩
  have L0:(U++[some (Blk.row 1 [GV.int IntKind.i64 0])]).length=U.length+1:=by simp
  have L1:(U++[some (Blk.row 1 [gi 0])]).length=U.length+1:=L0
  by_cases h8:8<=l
  ·have c8:decide ((8:Int)<=l)=true:=by simp;omega
   by_cases h50:50<=l
   ·have c50:decide ((50:Int)<=l)=true:=by simp;omega
    simp +contextual (disch:=omega) only[go_sem,Fd,hlI,hqI,hiI,hjI,hmI,c8,c50]
    obtain⟨i1,s1,N1,R1,H1,h1,h1'⟩:=medAdj_ret S H0 (a:=i) (by omega) (by omega) hs
    refine Am R1 ?_
    simp +contextual (disch:=omega) only[go_sem]
    obtain⟨j1,s2,N2,R2,H2,h2,h2'⟩:=medAdj_ret S H1 (a:=j) (by omega) (by omega) hs
    refine Am R2 ?_
    simp +contextual (disch:=omega) only[go_sem]
    obtain⟨m1,s3,N3,R3,H3,h3,h3'⟩:=medAdj_ret S H2 (a:=m) (by omega) (by omega) hs
    refine Am R3 ?_
    simp +contextual (disch:=omega) only[go_sem]
    obtain⟨p,s4,N4,R4,H4,h4⟩:=median_ret S H3 (a:=i1) (b:=j1) (c:=m1) (by omega) (by omega) (by omega)
    refine Am R4 ?_
    have:=R1.2.1
    have:=R2.2.1
    have:=R3.2.1
    have:=R4.2.1
    have l1:ldG false 1 N4 (.ptr U.length 0)=some (gi s4):=A3 (a:=false) (n:=1) (off:=0) ((H4).2.pt 0 rfl)
    simp +contextual (disch:=omega) only[go_sem,l1]
    have hout:Holds S.e U0 N4 rs k v d:=⟨H.1,(H4).2.drop1⟩
    have key0:((s4:Int)==0)=decide ((s4:Int)=0):=rfl
    by_cases h0:(s4:Int)=0
    ·have c0:((s4:Int)==0)=true:=by simp[h0]
     simp +contextual (disch:=omega) only[go_sem,c0]
     exact⟨_,rfl,by omega,p,1,rfl,hout,by omega,by omega,by omega⟩
    ·have c0:((s4:Int)==0)=false:=by simp[h0]
     by_cases h12:(s4:Int)=12
     ·have c1:((s4:Int)==12)=true:=by simp[h12]
      simp +contextual (disch:=omega) only[go_sem,c0,c1]
      exact⟨_,rfl,by omega,p,2,rfl,hout,by omega,by omega,by omega⟩
     ·have c1:((s4:Int)==12)=false:=by simp[h12]
      simp +contextual (disch:=omega) only[go_sem,c0,c1]
      exact⟨_,rfl,by omega,p,0,rfl,hout,by omega,by omega,by omega⟩
   ·have c50:decide ((50:Int)<=l)=false:=by simp;omega
    simp +contextual (disch:=omega) only[go_sem,Fd,hlI,hqI,hiI,hjI,hmI,c8,c50]
    obtain⟨p,s4,N4,R4,H4,h4⟩:=median_ret S H0 (a:=i) (b:=j) (c:=m) (by omega) (by omega) (by omega)
    refine Am R4 ?_
    have:=R4.2.1
    have l1:ldG false 1 N4 (.ptr U.length 0)=some (gi s4):=A3 (a:=false) (n:=1) (off:=0) ((H4).2.pt 0 rfl)
    simp +contextual (disch:=omega) only[go_sem,l1]
    have hout:Holds S.e U0 N4 rs k v d:=⟨H.1,(H4).2.drop1⟩
    have key0:((s4:Int)==0)=decide ((s4:Int)=0):=rfl
    by_cases h0:(s4:Int)=0
    ·have c0:((s4:Int)==0)=true:=by simp[h0]
     simp +contextual (disch:=omega) only[go_sem,c0]
     exact⟨_,rfl,by omega,p,1,rfl,hout,by omega,by omega,by omega⟩
    ·have c0:((s4:Int)==0)=false:=by simp[h0]
     by_cases h12:(s4:Int)=12
     ·have c1:((s4:Int)==12)=true:=by simp[h12]
      simp +contextual (disch:=omega) only[go_sem,c0,c1]
      exact⟨_,rfl,by omega,p,2,rfl,hout,by omega,by omega,by omega⟩
     ·have c1:((s4:Int)==12)=false:=by simp[h12]
      simp +contextual (disch:=omega) only[go_sem,c0,c1]
      exact⟨_,rfl,by omega,p,0,rfl,hout,by omega,by omega,by omega⟩
  ·have c8:decide ((8:Int)<=l)=false:=by simp;omega
   have l1:ldG false 1 (U++[some (.row 1 [gi 0])]) (.ptr U.length 0)=some (gi 0):=A3 (a:=false) (n:=1) (off:=0) (H0.2.pt 0 rfl)
   have c0:((0:Int)==0)=true:=rfl
   simp +contextual (disch:=omega) only[go_sem,Fd,hlI,hqI,hiI,hjI,hmI,c8,l1,c0]
   exact⟨_,rfl,by omega,j,1,rfl,⟨H.1,H0.2.drop1⟩,by omega,by omega,by omega⟩
 obtain⟨r,N,R,p,h,rfl,h1,h2⟩:=key
 exact⟨p,h,N,R,h1,h2⟩
theorem break_ret (S:SrtO Y lt) (H:Holds S.e U0 U rs k v d) {a b:Nat} (hab:a<=b) (hb:b<=d.size) (hs:d.size<=1099511627776):∃(d':Array Y) (N:St),Ret Tryz.prog S.q.breakPatterns [v,gi a,gi b] U (.tup []) N/\Holds S.e U0 N rs k v d'/\PermIn a b d d':=by
 have key:∃ r N,Ret Tryz.prog S.q.breakPatterns [v,gi a,gi b] U r N/\∃(d':Array Y),r= .tup []/\Holds S.e U0 N rs k v d'/\PermIn a b d d':=by
  refine B8 S.h_breakPatterns (Z0z rfl) ?_
  obtain⟨h,hh⟩:∃ l,l=b - a:=⟨_,rfl⟩
  have hhI:(b:Int) - a=h:=by omega
  by_cases h8:8<=h
  ·have c8:decide ((8:Int)<=h)=true:=by simp;omega
   have wu:IntKind.u64.wrap (h:Int)=h:=L3 (by omega) (by omega)
   obtain⟨q,hq⟩:∃ q,q=h / 4:=⟨_,rfl⟩
   have hqI:(h:Int).tdiv 4=q:=by rw[hq];rfl
   obtain⟨m,hm⟩:∃ i,i=a+q*2:=⟨_,rfl⟩
   have hmI:(a:Int)+q*2=m:=by omega
   have hmJ:(m:Int) - 1=((m - 1:Nat):Int):=by omega
   have H0:Holds S.e U0 (U++[some (.row 1 [.int .u64 h])]) (pt 1 U.length [.int .u64 h]::rs) (k+1) v d:=⟨by simpa using H.1,H.2.new 1 [.int .u64 h]⟩
   have sp:Ar [GV.int .u64 0] 0 [GV.int .u64 (h:Int)]=[.int .u64 h]:=rfl
   simp +contextual (disch:=omega) only[go_sem,G4,hhI,c8,wu,GV.cells,sp,Zal,Zaj,Nat.reduceAdd,Zaa,Zbb,and_self,if_true]
   rw[S.hnp]
   have hbl:h<=1099511627776:=by omega
   refine A9 (Ak0 _ h hbl) ?_
   obtain⟨M,hM⟩:∃ M,M=2 ^ bitsLen h:=⟨_,rfl⟩
   have hM1:=Go.Sort.two_pow_bitsLen_le (n:=h) (by omega)
   have hM2:=Zbc (bitsLen h)
   rw[<- hM] at hM1 hM2
   rw[<- hM]
   have M1:(M:Int) - 1=((M - 1:Nat):Int):=by omega
   have wM:IntKind.u64.wrap ((M - 1:Nat):Int)=((M - 1:Nat):Int):=L3 (by omega) (by omega)
   have L0:(U++[some (Blk.row 1 [GV.int .u64 (h:Int)])]).length=U.length+1:=by simp
   simp +contextual (disch:=omega) only[go_sem,hqI,hmI,hmJ]
   refine C4 (fun n env N=>∃(x:Nat) (y:Int) (D:Array Y),env 0=v/\env 1=gi a/\env 6=gi h/\env 7= .ptr U.length 0/\env 8= .int .u64 (M:Nat)/\env 9=gi x/\m+2 - x=n/\m - 1<=x/\x<=m+2/\U.length<=N.length/\Holds S.e U0 N (pt 1 U.length [.int .u64 y]::rs) (k+1) v D/\PermIn a b d D) (m+2 - (m - 1)) ⟨m - 1,h,d,rfl,rfl,rfl,rfl,rfl,rfl,rfl,Zaa _,by omega,by omega,H0,permIn_refl _ _ _⟩ ?_
   rintro J hJ n env N ⟨x,y,D,e0,e1,e6,e7,e8,e9,hn,hx1,hx2,hle,hH,hP⟩
   have hD:D.size=d.size:=hP.1
   by_cases hx:x<=m+1
   ·have c0:decide ((x:Int)<=(m:Int)+1)=true:=by simp;omega
    simp +contextual (disch:=omega) only[go_sem,e0,e1,e6,e7,e8,e9,hqI,hmI,c0]
    rw[S.hxs]
    obtain⟨y',N1,R1,H1⟩:=Amg hH.2 0 rfl
    have hle1:=R1.2.1
    have H1:Holds S.e U0 N1 (pt 1 U.length [.int .u64 y']::rs) (k+1) v D:=⟨hH.1,H1⟩
    obtain⟨w,hw,hwE⟩:=andU (y:=y') (m:=M - 1) (by omega)
    have ww:IntKind.i64.wrap (w:Int)=w:=Bi (by omega) (by omega)
    refine Am R1 ?_
    simp +contextual (disch:=omega) only[go_sem,e0,e1,e6,e7,e8,e9,M1,wM,hwE,ww]
    obtain⟨z,hz,hzI⟩:∃ z:Nat,z<h/\(z:Int)=if h<=w then(w:Int) - h else w:=by
     by_cases hc:h<=w
     ·exact⟨w - h,by omega,by rw[if_pos hc];omega⟩
     ·exact⟨w,by omega,by rw[if_neg hc]⟩
    have nz:B5 (some (.int .i64 ((a:Int)+z)))=some (a+z):=Bh (by simp)
    obtain⟨N3,N4,s3,s4,hH4,hl4⟩:=H1.sw (a:=x) (b:=a+z) (by omega) (by omega)
    have hP2:=permIn_trans _ _ _ _ _ hP (swp_permIn D a b x (a+z) (by omega) (by omega) (by omega) (by omega) (by omega))
    by_cases hc:h<=w
    ·rw[if_pos hc] at hzI
     have cc:decide ((h:Int)<=w)=true:=by simp;omega
     simp +contextual (disch:=omega) only[go_sem,e0,e1,e6,e7,e8,e9,cc,<-hzI,nz,A5,H1.iad (j:=x) (by omega),H1.ld (j:=x) (by omega),H1.iad (j:=a+z) (by omega),H1.ld (j:=a+z) (by omega),s3,s4]
     refine⟨m+2 - (x+1),by omega,hJ _ _ _ ⟨x+1,y',_,?_,?_,?_,?_,?_,?_,rfl,by omega,by omega,by omega,hH4,hP2⟩⟩
     all_goals simp +contextual (disch:=omega) only[go_sem,e0,e1,e6,e7,e8,e9]
    ·rw[if_neg hc] at hzI
     have hzw:z=w:=by omega
     rw[hzw] at nz s3 s4 hH4 hP2 hz
     have cc:decide ((h:Int)<=w)=false:=by simp;omega
     simp +contextual (disch:=omega) only[go_sem,e0,e1,e6,e7,e8,e9,cc,nz,A5,H1.iad (j:=x) (by omega),H1.ld (j:=x) (by omega),H1.iad (j:=a+w) (by omega),H1.ld (j:=a+w) (by omega),s3,s4]
     refine⟨m+2 - (x+1),by omega,hJ _ _ _ ⟨x+1,y',_,?_,?_,?_,?_,?_,?_,rfl,by omega,by omega,by omega,hH4,hP2⟩⟩
     all_goals simp +contextual (disch:=omega) only[go_sem,e0,e1,e6,e7,e8,e9]
   ·have c0:decide ((x:Int)<=(m:Int)+1)=false:=by simp;omega
    simp +contextual (disch:=omega) only[go_sem,e0,e1,e6,e7,e8,e9,hqI,hmI,c0]
    exact⟨_,rfl,hle,D,rfl,⟨H.1,hH.2.drop1⟩,hP⟩
  ·have c8:decide ((8:Int)<=h)=false:=by simp;omega
   simp +contextual (disch:=omega) only[go_sem,G4,hhI,c8]
   exact⟨_,rfl,d,rfl,H,permIn_refl _ _ _⟩
 obtain⟨r,N,R,d',rfl,h⟩:=key
 exact⟨d',N,R,h⟩
end O
namespace O
open Go Go.RowKit Go.Proofs.YtnknigikcdgebaaGreatDoor.Sy Go.Sort
variable {Y:Type} [Inhabited Y] {lt:Y->Y->Bool} {U0:St} {rs:List Thg} {k:Nat} {v:GV}
theorem pdq_ret (S:SrtO Y lt) (hS:SWO lt):∀(n:Nat) (d:Array Y) (a b l:Nat) (U:St),b - a<=n->a<=b->b<=d.size->d.size<=1099511627776->l<=1099511627776->Below lt a b d->Holds S.e U0 U rs k v d->∃(d':Array Y) (N:St),Ret Tryz.prog S.q.pdqsort [v,gi a,gi b,gi l] U (.tup []) N/\Holds S.e U0 N rs k v d'/\PermIn a b d d'/\SortedIn lt a b d':=by
 intro n
 induction n with
 |zero=>
  intro d a b l U hn hab hb hs hl hB H
  have key:∃ r N,Ret Tryz.prog S.q.pdqsort [v,gi a,gi b,gi l] U r N/\r= .tup []/\Holds S.e U0 N rs k v (insertionSort lt d a b):=by
   refine B8 S.h_pdqsort (Z0z rfl) ?_
   obtain rfl:a=b:=by omega
   simp +contextual (disch:=omega) only[go_sem,Px]
   refine Oy (fun n env N=>env 0=v/\env 1=gi a/\env 2=gi a/\N=U) 0 ⟨rfl,rfl,rfl,rfl⟩ ?_
   rintro n env N ⟨e0,e1,e2,rfl⟩
   have a0:(a:Int) - a=0:=by omega
   have c0:decide ((0:Int)<=12)=true:=rfl
   simp +contextual (disch:=omega) only[go_sem,e0,e1,e2,a0,c0]
   obtain⟨N1,R,H1⟩:=ins_ret S H (a:=a) (b:=a) (Zaa _) hb hs
   refine Am R ?_
   simp +contextual (disch:=omega) only[go_sem]
   exact⟨_,rfl,R.2.1,rfl,H1⟩
  obtain⟨r,N,R,rfl,H1⟩:=key
  obtain⟨p1,p2⟩:=insertionSort_holds hS d a b hab hb
  exact⟨_,N,R,H1,p1,p2⟩
 |succ Nq ih=>
  intro d a b l U hn hab hb hs hl hB H
  have key:∃ r N,Ret Tryz.prog S.q.pdqsort [v,gi a,gi b,gi l] U r N/\∃ d',r= .tup []/\Holds S.e U0 N rs k v d'/\PermIn a b d d'/\SortedIn lt a b d':=by
   refine B8 S.h_pdqsort (Z0z rfl) ?_
   simp +contextual (disch:=omega) only[go_sem,Px]
   refine C4 (fun n env N=>∃(x y l:Nat) (wb wp:Bool) (D:Array Y),env 0=v/\env 1=gi x/\env 2=gi y/\env 3=gi l/\env 8= .bool wb/\env 9= .bool wp/\y - x=n/\l<=1099511627776/\a<=x/\x<=y/\y<=b/\D.size=d.size/\U.length<=N.length/\Holds S.e U0 N rs k v D/\Below lt x y D/\∀ R,PermIn x y D R->SortedIn lt x y R->PermIn a b d R/\SortedIn lt a b R) (b - a) ⟨a,b,l,true,true,d,rfl,rfl,rfl,rfl,rfl,rfl,rfl,hl,Zaa _,hab,Zaa _,rfl,Zaa _,H,hB,fun R h1 h2=>⟨h1,h2⟩⟩ ?_
   clear H hB hl
   rintro J hJ n env N ⟨x,y,l,wb,wp,D,e0,e1,e2,e3,e8,e9,hn2,hl,hax,hxy,hyb,hD,hle,hH,hB,hfin⟩
   rw[Am5]
   obtain⟨h,hh⟩:∃ h,h=y - x:=⟨_,rfl⟩
   have hhI:(y:Int) - x=h:=by omega
   refine Cf (fun env N'=>env 0=v/\env 1=gi x/\env 2=gi y/\env 3=gi l/\env 8= .bool wb/\env 9= .bool wp/\env 10=gi h/\N=N') (fun Yq hY=>by
    simp +contextual (disch:=omega) only[go_sem,e0,e1,e2,e3,e8,e9,hhI]
    refine hY _ _ ⟨?_,?_,?_,?_,?_,?_,?_,rfl⟩
    all_goals simp +contextual (disch:=omega) only[go_sem,e0,e1,e2,e3,e8,e9,hhI]) ?_
   clear e0 e1 e2 e3 e8 e9
   rintro env N' ⟨e0,e1,e2,e3,e8,e9,e10,rfl⟩
   refine Cf (fun env N'=>env 0=v/\env 1=gi x/\env 2=gi y/\env 3=gi l/\env 8= .bool wb/\env 9= .bool wp/\env 10=gi h/\N=N'/\12<h) (fun Yq hY=>by
    by_cases h12:h<=12
    ·have c0:decide ((h:Int)<=12)=true:=by simp;omega
     simp +contextual (disch:=omega) only[go_sem,e0,e1,e2,e3,e8,e9,e10,c0]
     obtain⟨N1,R,H1⟩:=ins_ret S hH (a:=x) (b:=y) hxy (by omega) (by omega)
     refine Am R ?_
     simp +contextual (disch:=omega) only[go_sem]
     obtain⟨p1,p2⟩:=insertionSort_holds hS D x y hxy (by omega)
     have:=R.2.1
     exact⟨_,rfl,by omega,_,rfl,H1,hfin _ p1 p2⟩
    ·have c0:decide ((h:Int)<=12)=false:=by simp;omega
     simp +contextual (disch:=omega) only[go_sem,e0,e1,e2,e3,e8,e9,e10,c0]
     refine hY _ _ ⟨?_,?_,?_,?_,?_,?_,?_,rfl,by omega⟩
     all_goals simp +contextual (disch:=omega) only[go_sem,e0,e1,e2,e3,e8,e9,e10]) ?_
   clear e0 e1 e2 e3 e8 e9 e10
   rintro env N' ⟨e0,e1,e2,e3,e8,e9,e10,rfl,h12⟩
   refine Cf (fun env N'=>env 0=v/\env 1=gi x/\env 2=gi y/\env 3=gi l/\env 8= .bool wb/\env 9= .bool wp/\env 10=gi h/\N=N'/\0<l) (fun Yq hY=>by
    by_cases h0:l=0
    ·have c0:((l:Int)==0)=true:=by simp[h0]
     simp +contextual (disch:=omega) only[go_sem,e0,e1,e2,e3,e8,e9,e10,c0]
     obtain⟨N1,R,H1⟩:=heap_ret S hH (a:=x) (b:=y) hxy (by omega) (by omega)
     refine Am R ?_
     simp +contextual (disch:=omega) only[go_sem]
     obtain⟨p1,p2⟩:=heapSort_holds hS D x y hxy (by omega)
     have:=R.2.1
     exact⟨_,rfl,by omega,_,rfl,H1,hfin _ p1 p2⟩
    ·have c0:((l:Int)==0)=false:=by simp;omega
     simp +contextual (disch:=omega) only[go_sem,e0,e1,e2,e3,e8,e9,e10,c0]
     refine hY _ _ ⟨?_,?_,?_,?_,?_,?_,?_,rfl,by omega⟩
     all_goals simp +contextual (disch:=omega) only[go_sem,e0,e1,e2,e3,e8,e9,e10]) ?_
   clear e0 e1 e2 e3 e8 e9 e10
   rintro env N' ⟨e0,e1,e2,e3,e8,e9,e10,rfl,h0⟩
   refine Cf (fun env N'=>∃(l':Nat) (E:Array Y),env 0=v/\env 1=gi x/\env 2=gi y/\env 3=gi l'/\env 8= .bool wb/\env 9= .bool wp/\env 10=gi h/\l'<=l/\N.length<=N'.length/\Holds S.e U0 N' rs k v E/\PermIn x y D E) (fun Yq hY=>by
    cases hwb:wb with
    |true=>
     rw[hwb] at e8
     simp +contextual (disch:=omega) only[go_sem,e0,e1,e2,e3,e8,e9,e10]
     refine hY _ _ ⟨l,D,?_,?_,?_,?_,?_,?_,?_,Zaa _,Zaa _,hH,permIn_refl _ _ _⟩
     all_goals simp +contextual (disch:=omega) only[go_sem,e0,e1,e2,e3,e8,e9,e10,hwb]
    |false=>
     rw[hwb] at e8
     simp +contextual (disch:=omega) only[go_sem,e0,e1,e2,e3,e8,e9,e10]
     obtain⟨E,N1,R,H1,p1⟩:=break_ret S hH (a:=x) (b:=y) hxy (by omega) (by omega)
     refine Am R ?_
     have l1:(l:Int) - 1=((l - 1:Nat):Int):=by omega
     simp +contextual (disch:=omega) only[go_sem,e0,e1,e2,e3,e8,e9,e10]
     refine hY _ _ ⟨l - 1,E,?_,?_,?_,?_,?_,?_,?_,by omega,R.2.1,H1,p1⟩
     all_goals simp +contextual (disch:=omega) only[go_sem,e0,e1,e2,e3,e8,e9,e10,l1,hwb]) ?_
   clear e0 e1 e2 e3 e8 e9 e10
   rintro env N1 ⟨l1,D1,e0,e1,e2,e3,e8,e9,e10,hl1,hle1,hH1,hP1⟩
   have hD1:D1.size=D.size:=hP1.1
   refine Cf (fun env N'=>∃(p q:Nat),env 0=v/\env 1=gi x/\env 2=gi y/\env 3=gi l1/\env 8= .bool wb/\env 9= .bool wp/\env 10=gi h/\env 11=gi p/\env 12=gi q/\N1.length<=N'.length/\Holds S.e U0 N' rs k v D1/\x<=p/\p<y/\q<=2) (fun Yq hY=>by
    simp +contextual (disch:=omega) only[go_sem,e0,e1,e2,e3,e8,e9,e10]
    obtain⟨p,q,N2,R,H2,g1,g2,g3⟩:=choose_ret S hH1 (a:=x) (b:=y) (by omega) (by omega) (by omega)
    refine Am R ?_
    simp +contextual (disch:=omega) only[go_sem,e0,e1,e2,e3,e8,e9,e10]
    refine hY _ _ ⟨p,q,?_,?_,?_,?_,?_,?_,?_,?_,?_,R.2.1,H2,g1,g2,g3⟩
    all_goals simp +contextual (disch:=omega) only[go_sem,e0,e1,e2,e3,e8,e9,e10]) ?_
   clear e0 e1 e2 e3 e8 e9 e10 hH hH1
   rintro env N2 ⟨p0,q0,e0,e1,e2,e3,e8,e9,e10,e11,e12,hle2,hH2,g1,g2,g3⟩
   refine Cf (fun env N'=>∃(p q:Nat) (E:Array Y),env 0=v/\env 1=gi x/\env 2=gi y/\env 3=gi l1/\env 8= .bool wb/\env 9= .bool wp/\env 10=gi h/\env 11=gi p/\env 12=gi q/\N2.length<=N'.length/\Holds S.e U0 N' rs k v E/\x<=p/\p<y/\PermIn x y D1 E) (fun Yq hY=>by
    by_cases hq:q0=2
    ·have c0:((q0:Int)==2)=true:=by simp[hq]
     simp +contextual (disch:=omega) only[go_sem,e0,e1,e2,e3,e8,e9,e10,e11,e12,c0]
     obtain⟨N3,R,H3⟩:=rev_ret S hH2 (a:=x) (b:=y) (by omega) (by omega) (by omega)
     refine Am R ?_
     have r1:(y:Int) - 1 - ((p0:Int) - x)=((y - 1 - (p0 - x):Nat):Int):=by omega
     simp +contextual (disch:=omega) only[go_sem,e0,e1,e2,e3,e8,e9,e10,e11,e12,r1]
     refine hY _ _ ⟨y - 1 - (p0 - x),1,_,?_,?_,?_,?_,?_,?_,?_,?_,?_,R.2.1,H3,by omega,by omega,reverseRange_holds D1 x y hxy (by omega)⟩
     all_goals simp +contextual (disch:=omega) only[go_sem,e0,e1,e2,e3,e8,e9,e10,e11,Zbd]
    ·have c0:((q0:Int)==2)=false:=by simp;omega
     simp +contextual (disch:=omega) only[go_sem,e0,e1,e2,e3,e8,e9,e10,e11,e12,c0]
     refine hY _ _ ⟨p0,q0,D1,?_,?_,?_,?_,?_,?_,?_,?_,?_,Zaa _,hH2,g1,g2,permIn_refl _ _ _⟩
     all_goals simp +contextual (disch:=omega) only[go_sem,e0,e1,e2,e3,e8,e9,e10,e11,e12]) ?_
   clear e0 e1 e2 e3 e8 e9 e10 e11 e12 hH2 g1 g2 g3
   rintro env N3 ⟨p,q,D2,e0,e1,e2,e3,e8,e9,e10,e11,e12,hle3,hH3,g1,g2,hP2⟩
   have hD2:D2.size=D1.size:=hP2.1
   have hP02:=permIn_trans _ _ _ _ _ hP1 hP2
   have B2:Below lt x y D2:=hB.perm (by omega) hP02
   refine Cf (fun env N'=>∃(E:Array Y),env 0=v/\env 1=gi x/\env 2=gi y/\env 3=gi l1/\env 8= .bool wb/\env 9= .bool wp/\env 10=gi h/\env 11=gi p/\N3.length<=N'.length/\Holds S.e U0 N' rs k v E/\PermIn x y D2 E) (fun Yq hY=>by
    have stay:∀ env',env' 0=v->env' 1=gi x->env' 2=gi y->env' 3=gi l1->env' 8= .bool wb->env' 9= .bool wp->env' 10=gi h->env' 11=gi p->Yq env' N3:=fun env' a0 a1 a2 a3 a8 a9 a10 a11=>hY _ _ ⟨D2,a0,a1,a2,a3,a8,a9,a10,a11,Zaa _,hH3,permIn_refl _ _ _⟩
    cases hwb:wb with
    |false=>
     rw[hwb] at e8
     simp +contextual (disch:=omega) only[go_sem,e0,e1,e2,e3,e8,e9,e10,e11,e12]
     refine stay _ ?_ ?_ ?_ ?_ ?_ ?_ ?_ ?_
     all_goals simp +contextual (disch:=omega) only[go_sem,e0,e1,e2,e3,e8,e9,e10,e11,e12,hwb]
    |true=>
     rw[hwb] at e8
     cases hwp:wp with
     |false=>
      rw[hwp] at e9
      simp +contextual (disch:=omega) only[go_sem,e0,e1,e2,e3,e8,e9,e10,e11,e12]
      refine stay _ ?_ ?_ ?_ ?_ ?_ ?_ ?_ ?_
      all_goals simp +contextual (disch:=omega) only[go_sem,e0,e1,e2,e3,e8,e9,e10,e11,e12,hwb,hwp]
     |true=>
      rw[hwp] at e9
      by_cases hq:q=1
      ·have c0:((q:Int)==1)=true:=by simp[hq]
       simp +contextual (disch:=omega) only[go_sem,e0,e1,e2,e3,e8,e9,e10,e11,e12,c0]
       obtain⟨N4,R,H4⟩:=pis_ret S hH3 (a:=x) (b:=y) (by omega) (by omega) (by omega)
       obtain⟨p1,p2⟩:=partialInsertionSort_holds hS D2 x y (by omega) (by omega) B2
       have:=R.2.1
       refine Am R ?_
       cases hr:(partialInsertionSort lt D2 x y).2 with
       |true=>
        simp +contextual (disch:=omega) only[go_sem]
        exact⟨_,rfl,by omega,_,rfl,H4,hfin _ (permIn_trans _ _ _ _ _ hP02 p1) (p2 hr)⟩
       |false=>
        simp +contextual (disch:=omega) only[go_sem,e0,e1,e2,e3,e8,e9,e10,e11,e12]
        refine hY _ _ ⟨_,?_,?_,?_,?_,?_,?_,?_,?_,R.2.1,H4,p1⟩
        all_goals simp +contextual (disch:=omega) only[go_sem,e0,e1,e2,e3,e8,e9,e10,e11,e12,hwb,hwp]
      ·have c0:((q:Int)==1)=false:=by simp;omega
       simp +contextual (disch:=omega) only[go_sem,e0,e1,e2,e3,e8,e9,e10,e11,e12,c0]
       refine stay _ ?_ ?_ ?_ ?_ ?_ ?_ ?_ ?_
       all_goals simp +contextual (disch:=omega) only[go_sem,e0,e1,e2,e3,e8,e9,e10,e11,e12,hwb,hwp]) ?_
   clear e0 e1 e2 e3 e8 e9 e10 e11 e12 hH3
   rintro env N4 ⟨D3,e0,e1,e2,e3,e8,e9,e10,e11,hle4,hH4,hP3⟩
   have hD3:D3.size=D2.size:=hP3.1
   have hP03:=permIn_trans _ _ _ _ _ hP02 hP3
   have B3:Below lt x y D3:=B2.perm (by omega) hP3
   refine Cf (fun env N'=>env 0=v/\env 1=gi x/\env 2=gi y/\env 3=gi l1/\env 8= .bool wb/\env 9= .bool wp/\env 10=gi h/\env 11=gi p/\N4=N') (fun Yq hY=>by
    rcases Zas x with hx|hx
    ·have c0:decide ((0:Int)<x)=false:=by simp;omega
     simp +contextual (disch:=omega) only[go_sem,e0,e1,e2,e3,e8,e9,e10,e11,c0]
     refine hY _ _ ⟨?_,?_,?_,?_,?_,?_,?_,?_,rfl⟩
     all_goals simp +contextual (disch:=omega) only[go_sem,e0,e1,e2,e3,e8,e9,e10,e11]
    ·have c0:decide ((0:Int)<x)=true:=by simp;omega
     have x1:(x:Int) - 1=((x - 1:Nat):Int):=by omega
     simp +contextual (disch:=omega) only[go_sem,e0,e1,e2,e3,e8,e9,e10,e11,c0,x1,A5,hH4.iad (j:=x - 1) (by omega),hH4.ld (j:=x - 1) (by omega),hH4.iad (j:=p) (by omega),hH4.ld (j:=p) (by omega)]
     refine A9 (S.call _ _ _) ?_
     cases hlt:lt D3[x - 1]! D3[p]! with
     |true=>
      simp +contextual (disch:=omega) only[go_sem,e0,e1,e2,e3,e8,e9,e10,e11,c0,hlt]
      refine hY _ _ ⟨?_,?_,?_,?_,?_,?_,?_,?_,rfl⟩
      all_goals simp +contextual (disch:=omega) only[go_sem,e0,e1,e2,e3,e8,e9,e10,e11]
     |false=>
      simp +contextual (disch:=omega) only[go_sem,e0,e1,e2,e3,e8,e9,e10,e11,c0,hlt]
      obtain⟨N5,R,H5⟩:=pe_ret S hH4 (a:=x) (b:=y) (p:=p) (by omega) g2 (by omega) (by omega)
      have:=R.2.1
      refine Am R ?_
      obtain⟨mid,D4,hX⟩:∃ m D4,partitionEqual lt D3 x y p=(m,D4):=⟨_,_,rfl⟩
      rw[hX] at H5
      rw[hX]
      obtain⟨k1,k2,k3,k4,k5⟩:=round_eq hS (partitionEqual_holds lt) hx g1 g2 (by omega) B3 hlt hX
      simp +contextual (disch:=omega) only[go_sem,e0,e1,e2,e3,e8,e9,e10,e11]
      refine⟨y - mid,by omega,hJ _ _ _ ⟨mid,y,l1,wb,wp,D4,?_,?_,?_,?_,?_,?_,rfl,by omega,by omega,k2,hyb,by omega,by omega,H5,k4,fun R h1 h2=> ?_⟩⟩
      all_goals first|(simp +contextual (disch:=omega) only[go_sem,e0,e1,e2,e3,e8,e9,e10,e11];done)|skip
      obtain⟨m1,m2⟩:=k5 R h1 h2
      exact hfin R (permIn_trans _ _ _ _ _ hP03 m1) m2) ?_
   clear e0 e1 e2 e3 e8 e9 e10 e11
   rintro env N' ⟨e0,e1,e2,e3,e8,e9,e10,e11,rfl⟩
   obtain⟨N5,R5,H5⟩:=part_ret S hH4 (a:=x) (b:=y) (p:=p) (by omega) g2 (by omega) (by omega)
   have hle5:=R5.2.1
   obtain⟨mid,ap,D4,hX⟩:∃ m ap D4,partition lt D3 x y p=(m,ap,D4):=⟨_,_,_,rfl⟩
   rw[hX] at H5 R5
   obtain⟨k1,k2,k3,k4,k5,k6,k7⟩:=round_part hS (partition_holds lt) g1 g2 (by omega) B3 hX
   simp +contextual (disch:=omega) only[go_sem,e0,e1,e2,e3,e8,e9,e10,e11]
   refine Am R5 ?_
   obtain⟨q8,hq8⟩:∃ q,q=h / 8:=⟨_,rfl⟩
   have hqI:(h:Int).tdiv 8=q8:=by rw[hq8];rfl
   have m1:(mid:Int) - x=((mid - x:Nat):Int):=by omega
   have m2:(y:Int) - mid=((y - mid:Nat):Int):=by omega
   by_cases hlr:mid - x<y - mid
   ·have c0:decide (((mid - x:Nat):Int)<((y - mid:Nat):Int))=true:=by simp;omega
    simp +contextual (disch:=omega) only[go_sem,e0,e1,e2,e3,e8,e9,e10,e11,hqI,m1,m2,c0]
    obtain⟨L,N6,R6,H6,p1,p2⟩:=ih D4 x mid l1 N5 (by omega) k1 (by omega) (by omega) (by omega) k4 H5
    have hle6:=R6.2.1
    refine Am R6 ?_
    obtain⟨k8,k9⟩:=k6 L p1 p2
    have hL:L.size=D4.size:=p1.1
    simp +contextual (disch:=omega) only[go_sem,e0,e1,e2,e3,e8,e9,e10,e11]
    refine⟨y - (mid+1),by omega,hJ _ _ _ ⟨mid+1,y,l1,decide ((q8:Int)<=((mid - x:Nat):Int)),ap,L,?_,?_,?_,?_,?_,?_,rfl,by omega,by omega,by omega,hyb,by omega,by omega,H6,k8,fun R h1 h2=> ?_⟩⟩
    all_goals first|(simp +contextual (disch:=omega) only[go_sem,e0,e1,e2,e3,e8,e9,e10,e11];done)|skip
    obtain⟨n1,n2⟩:=k9 R h1 h2
    exact hfin R (permIn_trans _ _ _ _ _ hP03 n1) n2
   ·have c0:decide (((mid - x:Nat):Int)<((y - mid:Nat):Int))=false:=by simp;omega
    simp +contextual (disch:=omega) only[go_sem,e0,e1,e2,e3,e8,e9,e10,e11,hqI,m1,m2,c0]
    obtain⟨L,N6,R6,H6,p1,p2⟩:=ih D4 (mid+1) y l1 N5 (by omega) (by omega) (by omega) (by omega) (by omega) k5 H5
    have hle6:=R6.2.1
    refine Am R6 ?_
    obtain⟨k8,k9⟩:=k7 L p1 p2
    have hL:L.size=D4.size:=p1.1
    simp +contextual (disch:=omega) only[go_sem,e0,e1,e2,e3,e8,e9,e10,e11]
    refine⟨mid - x,by omega,hJ _ _ _ ⟨x,mid,l1,decide ((q8:Int)<=((y - mid:Nat):Int)),ap,L,?_,?_,?_,?_,?_,?_,rfl,by omega,by omega,by omega,by omega,by omega,by omega,H6,k8,fun R h1 h2=> ?_⟩⟩
    all_goals first|(simp +contextual (disch:=omega) only[go_sem,e0,e1,e2,e3,e8,e9,e10,e11];done)|skip
    obtain⟨n1,n2⟩:=k9 R h1 h2
    exact hfin R (permIn_trans _ _ _ _ _ hP03 n1) n2
  obtain⟨r,N,R,d',rfl,h⟩:=key
  exact⟨d',N,R,h⟩
end O
namespace O
open Go Go.RowKit Go.Proofs.YtnknigikcdgebaaGreatDoor.Sy Go.Sort
variable {Y:Type} [Inhabited Y] {lt:Y->Y->Bool} {U0 U:St} {rs:List Thg} {v:GV}
theorem sorted_of {d d':Array Y} (h:PermIn 0 d.size d d') (h4:SortedIn lt 0 d.size d'):d'.toList.Perm d.toList/\Up lt d'.toList:=by
 obtain⟨h1,h2,h3⟩:=h
 constructor
 ·have e1:d'.extract 0 d.size=d':=by rw[<- h1];simp
  have e2:d.extract 0 d.size=d:=by simp
  rw[e1,e2] at h3
  exact h3
 ·rw[Up,Zat]
  intro i j hi hj hij
  simp only[Za0] at hi hj
  have:=h4 i j (Nat.zero_le _) hij (by omega)
  rw[getElem!_pos d' j hj,getElem!_pos d' i hi] at this
  simpa using this
theorem sort_ret (S:SrtO Y lt) (hS:SWO lt) {l:List Y} (H:Hp U0 U rs) (k:Nat) (hk:rs[k]? =some (ow S.e.p.kd v l)) (hl:l.length<=1099511627776) (htri:∀ x∈l,∀ y∈l,lt x y=false->lt y x=false->x=y):∃ N,Ret Tryz.prog S.nS [v] U (.tup []) N/\Hp U0 N (rs.set k (ow S.e.p.kd v (Br lt l))):=by
 have key:∃ r N,Ret Tryz.prog S.nS [v] U r N/\r= .tup []/\Hp U0 N (rs.set k (ow S.e.p.kd v (Br lt l))):=by
  refine B8 S.h_Sort (Z0z rfl) ?_
  have hlen:=(H.sl k hk).len
  have wu:IntKind.u64.wrap (l.length:Int)=l.length:=L3 (by omega) (by omega)
  simp +contextual (disch:=omega) only[go_sem,Agi,hlen,wu]
  refine A9 (Py U l.length hl) ?_
  simp +contextual (disch:=omega) only[go_sem]
  have HH:Holds S.e U0 U rs k v l.toArray:=Holds.of H (by simpa using hk)
  have hb:=Af1 hl
  obtain⟨d',N,R,H1,p1,p2⟩:=pdq_ret S hS l.length l.toArray 0 l.length (bitsLen l.length) U (by omega) (by omega) (by simp) (by simpa using hl) (by omega) (.inl rfl) HH
  have hz:((0:Nat):Int)=0:=rfl
  rw[hz] at R
  refine Am R ?_
  simp +contextual (disch:=omega) only[go_sem]
  have hsz:l.length=l.toArray.size:=by simp
  rw[hsz] at p1 p2
  obtain⟨q1,q2⟩:=sorted_of p1 p2
  have hE:d'.toList=Br lt l:=A1z hS htri (by simpa using q1) q2
  exact⟨_,rfl,R.2.1,rfl,by rw[<- hE];exact H1.2⟩
 obtain⟨r,N,R,rfl,h⟩:=key
 exact⟨N,R,h⟩
end O
def P8:Fn1:=⟨17,[.t 4],(rg [oV 4 kf] (rg [oM 5 0,oC 6 315 5,oM 7 6,jM 8 7 1,jC 9 7 315 8,jU 10 7 9,oQ 11 7 10,oM 12 11,vM 13 12 0,vM 14 12 1,vB 15 12 .lss 13 14,oP 16 12 15,oM 4 16] .ret))⟩
theorem A29:A6 Tryz.prog 285=some P8:=by kernel_rfl
def elI:El Int:=⟨pI,false,gi,fun _=>rfl,fun _=>rfl,by decide⟩
theorem Z5 (U:St) (a b:Int):Ret Tryz.prog 285 [gi a,gi b] U (.bool (ltI a b)) U:=by
 refine Ae A29 (Z0z rfl) trivial ?_
 simp +contextual (disch:=omega) only[go_sem,P8]
 refine A9 (G1 U a) ?_
 simp +contextual (disch:=omega) only[go_sem,ltI]
def qI:SN:=⟨279,310,280,283,284,286,287,281,325,314,313,282,256,285,311,312⟩
def srtI:SrtO Int ltI where
 e:=elI
 q:=qI
 call:=Z5
 h_insertionSort:=by kernel_rfl
 h_siftDown:=by kernel_rfl
 h_heapSort:=by kernel_rfl
 h_reverseRange:=by kernel_rfl
 h_partialInsertionSort:=by kernel_rfl
 h_partitionEqual:=by kernel_rfl
 h_partition:=by kernel_rfl
 h_breakPatterns:=by kernel_rfl
 h_order2:=by kernel_rfl
 h_median:=by kernel_rfl
 h_medianAdjacent:=by kernel_rfl
 h_choosePivot:=by kernel_rfl
 h_pdqsort:=by kernel_rfl
 nS:=207
 h_Sort:=by kernel_rfl
 hnp:=rfl
 hxs:=rfl
theorem Pz {U0 U:St} {rs:List Thg} {v:GV} {l:List Int} (H:Hp U0 U rs) (k:Nat) (hk:rs[k]? =some (ow pI.kd v l)) (hl:l.length<=1099511627776):∃ N,Ret Tryz.prog 207 [v] U (.tup []) N/\Hp U0 N (rs.set k (ow pI.kd v (Br ltI l))):=
 O.sort_ret srtI Ao3 H k hk hl fun x _ y _=>Ao4 x y
def A2b:Fn1:=⟨46,[.t 8],(rg [oX 4 0,o 8 (.mov (.k .nilS))] (rg [o 12 (.lit 6 0 [] []),oM 9 12] (.seq (rg [oV 10 (ki 0)] (oH 0 (.seq (rg [oM 13 10,oF 14 2 4,oL 15 14,oN 16 15,oB 17 .lss 13 16] (oJ 17 0)) (.seq (.blk 1 (rg [oF 20 2 4,oL 21 20,oM 22 10,oI 23 6 21 22,oW 24 6 23,o 11 (.new [(.bool false),s0,s0,z0,z0,z0]),oS 6 11 24] (rg [oF 25 0 11,oL 26 25,oM 27 1,o 28 (.eqb false (.t 26) (.t 27)),oM 29 28,jF 30 29 1 11,jL 31 29 30,jM 32 29 2,jB 33 29 .eql 31 32,oQ 34 29 33,oM 35 34,jF 36 35 2 11,jL 37 35 36,jM 38 35 3,jB 39 35 .eql 37 38,oQ 40 35 39] (oG 40 (.reg [oM 41 9,oW 42 6 11,o 43 (.lit 6 1 [(.bool false),s0,s0,z0,z0,z0] [(0,6,(.t 42))]),o 44 (.app 6 64 [(.bool false),s0,s0,z0,z0,z0] (.t 41) (.t 43)),oM 9 44]))))) (.reg [oM 18 10,oZ 19 18 1,oM 10 19]))))) (rg [oM 45 9,oM 8 45] .ret))))⟩
theorem Aby:A6 Tryz.prog 141=some A2b:=by kernel_rfl
def A2d:Fn1:=⟨42,[.t 8],(rg [oX 4 0,o 8 (.mov (.k .nilS))] (rg [o 12 (.lit 6 0 [] []),oM 9 12] (.seq (rg [oF 13 2 4,oL 14 13,oN 15 14,oV 16 (ki 0)] (oH 0 (rg [oB 17 .lss 16 15] (.seq (oJ 17 0) (.seq (.blk 1 (rg [oI 18 6 14 16,oW 19 6 18,o 11 (.new [(.bool false),s0,s0,z0,z0,z0]),oS 6 11 19] (rg [oF 20 0 11,oL 21 20,oM 22 1,o 23 (.eqb false (.t 21) (.t 22)),oM 24 23,jF 25 24 1 11,jL 26 24 25,jM 27 24 2,jB 28 24 .eql 26 27,oQ 29 24 28,oM 30 29,jF 31 30 2 11,jL 32 30 31,jM 33 30 3,jB 34 30 .eql 32 33,oQ 35 30 34] (oG 35 (.reg [oM 36 9,oW 37 6 11,o 38 (.lit 6 1 [(.bool false),s0,s0,z0,z0,z0] [(0,6,(.t 37))]),o 39 (.app 6 64 [(.bool false),s0,s0,z0,z0,z0] (.t 36) (.t 38)),oM 9 39]))))) (.reg [oZ 40 16 1,oM 16 40])))))) (rg [oM 41 9,oM 8 41] .ret))))⟩
theorem Abz:A6 Tryz.prog 206=some A2d:=by kernel_rfl
theorem Ac0 {l:List Live} {m:Bool} {o k:ByteArray} {i:Nat} (hi:i<l.length):(l.take (i+1)).filter (Cu m o k)=if Cu m o k l[i] then(l.take i).filter (Cu m o k)++[l[i]] else(l.take i).filter (Cu m o k):=by
 rw[Ew hi]
 split<;>simp
theorem A8x (U:St) (cs:List GV) (s:State) (hR:A4.R U s cs) (m:Bool) (o k:ByteArray) (hl:Aa s<=1099511627776):
  ∃ r N,Ret Tryz.prog 141 [.agg cs,.bool m,.str o,.str k] U r N/\Hp U N [ow Bp.kd r (Mi s m o k)]:=by
 obtain⟨a,b,c,v,rfl,_,_,hv,_⟩:=hR
 obtain⟨l1,l2,l3,l4,_⟩:=Aq hl
 refine Ch Aby (Z0z rfl) ?_
 have H:=((Hp.refl U).new 1 [a,b,c,v]).nil_Live
 simp +contextual (disch:=omega) only[go_sem,A2b]
 generalize hb:U.length=n1 at*
 refine Ti s.lives.length 10 (fun i env N=>env 1= .bool m/\env 2= .str o/\env 3= .str k/\env 4= .ptr n1 0/\∃ w,env 9=w/\Hp U N [ow Bp.kd w ((s.lives.take i).filter (Cu m o k)),pt 1 n1 [a,b,c,v]]) rfl ⟨rfl,rfl,rfl,rfl,_,rfl,H⟩ ?_ ?_
 ·rintro J hJ i env N hi e10 c0 ⟨e1,e2,e3,e4,w,e9,H⟩
  have hfl:=Zah (Cu m o k) (s.lives.take i)
  rw[Zam] at hfl
  have C1:=A7 (hv.pre H.sub) hi
  have G:=H.grow (pre1 N (some (Blk.row 1 [.bool s.lives[i].map,.str s.lives[i].obj,.str s.lives[i].key,gi s.lives[i].val,gi s.lives[i].dot.rep,gi s.lives[i].dot.seq])))
  have hfs:=Ac0 (m:=m) (o:=o) (k:=k) hi
  cases hm:(s.lives[i].map==m) with
  |false=>
   have hk0:Cu m o k s.lives[i]=false:=by simp[Cu,hm]
   rw[if_neg (by simp[hk0])] at hfs
   simp +contextual (disch:=omega) only[go_sem,c0,e1,e2,e3,e4,e9,e10,C1,A3 (H.pt 1 rfl),hv.len,hm,Zai]
   refine hJ _ _ _ ⟨?_,?_,?_,?_,w,?_,by rw[hfs];exact G⟩
   all_goals simp +contextual (disch:=omega) only[go_sem,e1,e2,e3,e4,e9,e10]
  |true=>
   cases ho:decide (s.lives[i].obj=o) with
   |false=>
    have hk0:Cu m o k s.lives[i]=false:=by simp[Cu,hm,ho]
    rw[if_neg (by simp[hk0])] at hfs
    simp +contextual (disch:=omega) only[go_sem,c0,e1,e2,e3,e4,e9,e10,C1,A3 (H.pt 1 rfl),hv.len,hm,ho,Zai]
    refine hJ _ _ _ ⟨?_,?_,?_,?_,w,?_,by rw[hfs];exact G⟩
    all_goals simp +contextual (disch:=omega) only[go_sem,e1,e2,e3,e4,e9,e10]
   |true=>
    cases hk:decide (s.lives[i].key=k) with
    |false=>
     have hk0:Cu m o k s.lives[i]=false:=by simp[Cu,hm,ho,hk]
     rw[if_neg (by simp[hk0])] at hfs
     simp +contextual (disch:=omega) only[go_sem,c0,e1,e2,e3,e4,e9,e10,C1,A3 (H.pt 1 rfl),hv.len,hm,ho,hk,Zai]
     refine hJ _ _ _ ⟨?_,?_,?_,?_,w,?_,by rw[hfs];exact G⟩
     all_goals simp +contextual (disch:=omega) only[go_sem,e1,e2,e3,e4,e9,e10]
    |true=>
     have hk0:Cu m o k s.lives[i]=true:=by simp[Cu,hm,ho,hk]
     rw[if_pos hk0] at hfs
     obtain⟨w',N3,e5,H3⟩:=G.app_Live 0 rfl s.lives[i] (by omega)
     simp +contextual (disch:=omega) only[go_sem,c0,e1,e2,e3,e4,e9,e10,C1,A3 (H.pt 1 rfl),hv.len,hm,ho,hk,Zai,e5]
     refine hJ _ _ _ ⟨?_,?_,?_,?_,w',?_,by rw[hfs];exact H3⟩
     all_goals simp +contextual (disch:=omega) only[go_sem,e1,e2,e3,e4,e9,e10]
 ·rintro env N e10 c0 ⟨e1,e2,e3,e4,w,e9,H⟩
  rw[Zaf] at H
  simp +contextual (disch:=omega) only[go_sem,c0,e1,e2,e3,e4,e9,e10,A3 (H.pt 1 rfl),hv.len]
  exact⟨_,rfl,H.one⟩
theorem A8y (U:St) (cs:List GV) (s:State) (hR:A4.R U s cs) (m:Bool) (o k:ByteArray) (hl:Aa s<=1099511627776):
  ∃ r N,Ret Tryz.prog 206 [.agg cs,.bool m,.str o,.str k] U r N/\Hp U N [ow Bp.kd r (Mi s m o k)]:=by
 obtain⟨a,b,c,v,rfl,_,_,hv,_⟩:=hR
 obtain⟨l1,l2,l3,l4,_⟩:=Aq hl
 refine Ch Abz (Z0z rfl) ?_
 have H:=((Hp.refl U).new 1 [a,b,c,v]).nil_Live
 simp +contextual (disch:=omega) only[go_sem,A2d,hv.len]
 generalize hb:U.length=n1 at*
 refine Ti s.lives.length 16 (fun i env N=>env 1= .bool m/\env 2= .str o/\env 3= .str k/\env 14=c/\env 15=gi s.lives.length/\∃ w,env 9=w/\Hp U N [ow Bp.kd w ((s.lives.take i).filter (Cu m o k)),pt 1 n1 [a,b,c,v]]) rfl ⟨rfl,rfl,rfl,rfl,rfl,_,rfl,H⟩ ?_ ?_
 ·rintro J hJ i env N hi e10 c0 ⟨e1,e2,e3,e4,e15,w,e9,H⟩
  have hfl:=Zah (Cu m o k) (s.lives.take i)
  rw[Zam] at hfl
  have C1:=A7 (hv.pre H.sub) hi
  have G:=H.grow (pre1 N (some (Blk.row 1 [.bool s.lives[i].map,.str s.lives[i].obj,.str s.lives[i].key,gi s.lives[i].val,gi s.lives[i].dot.rep,gi s.lives[i].dot.seq])))
  have hfs:=Ac0 (m:=m) (o:=o) (k:=k) hi
  cases hm:(s.lives[i].map==m) with
  |false=>
   have hk0:Cu m o k s.lives[i]=false:=by simp[Cu,hm]
   rw[if_neg (by simp[hk0])] at hfs
   simp +contextual (disch:=omega) only[go_sem,c0,e1,e2,e3,e4,e15,e9,e10,C1,hm,Zai]
   refine hJ _ _ _ ⟨?_,?_,?_,?_,?_,w,?_,by rw[hfs];exact G⟩
   all_goals simp +contextual (disch:=omega) only[go_sem,e1,e2,e3,e4,e15,e9,e10]
  |true=>
   cases ho:decide (s.lives[i].obj=o) with
   |false=>
    have hk0:Cu m o k s.lives[i]=false:=by simp[Cu,hm,ho]
    rw[if_neg (by simp[hk0])] at hfs
    simp +contextual (disch:=omega) only[go_sem,c0,e1,e2,e3,e4,e15,e9,e10,C1,hm,ho,Zai]
    refine hJ _ _ _ ⟨?_,?_,?_,?_,?_,w,?_,by rw[hfs];exact G⟩
    all_goals simp +contextual (disch:=omega) only[go_sem,e1,e2,e3,e4,e15,e9,e10]
   |true=>
    cases hk:decide (s.lives[i].key=k) with
    |false=>
     have hk0:Cu m o k s.lives[i]=false:=by simp[Cu,hm,ho,hk]
     rw[if_neg (by simp[hk0])] at hfs
     simp +contextual (disch:=omega) only[go_sem,c0,e1,e2,e3,e4,e15,e9,e10,C1,hm,ho,hk,Zai]
     refine hJ _ _ _ ⟨?_,?_,?_,?_,?_,w,?_,by rw[hfs];exact G⟩
     all_goals simp +contextual (disch:=omega) only[go_sem,e1,e2,e3,e4,e15,e9,e10]
    |true=>
     have hk0:Cu m o k s.lives[i]=true:=by simp[Cu,hm,ho,hk]
     rw[if_pos hk0] at hfs
     obtain⟨w',N3,e5,H3⟩:=G.app_Live 0 rfl s.lives[i] (by omega)
     simp +contextual (disch:=omega) only[go_sem,c0,e1,e2,e3,e4,e15,e9,e10,C1,hm,ho,hk,Zai,e5]
     refine hJ _ _ _ ⟨?_,?_,?_,?_,?_,w',?_,by rw[hfs];exact H3⟩
     all_goals simp +contextual (disch:=omega) only[go_sem,e1,e2,e3,e4,e15,e9,e10]
 ·rintro env N e10 c0 ⟨e1,e2,e3,e4,e15,w,e9,H⟩
  rw[Zaf] at H
  simp +contextual (disch:=omega) only[go_sem,c0,e1,e2,e3,e4,e15,e9,e10]
  exact⟨_,rfl,H.one⟩
def Jw:Fn1:=⟨17,[.t 4],(rg [oV 4 kf] (rg [oM 5 0,oC 6 317 5,oM 7 6,jM 8 7 1,jC 9 7 317 8,jU 10 7 9,oQ 11 7 10,oM 12 11,vM 13 12 0,vM 14 12 1,vB 15 12 .lss 13 14,oP 16 12 15,oM 4 16] .ret))⟩
theorem Ru:A6 Tryz.prog 303=some Jw:=by kernel_rfl
def elS:El ByteArray:=⟨pS,false,.str,fun _=>rfl,fun _=>rfl,by decide⟩
theorem Q0 (U:St) (a b:ByteArray):Ret Tryz.prog 303 [.str a,.str b] U (.bool (txLt a b)) U:=by
 refine Ae Ru (Z0z rfl) trivial ?_
 simp +contextual (disch:=omega) only[go_sem,Jw]
 refine A9 (E5 U a) ?_
 simp +contextual (disch:=omega) only[go_sem,txLt]
def qS:SN:=⟨297,318,298,301,302,304,305,299,334,320,319,300,266,303,311,312⟩
def srtS:SrtO ByteArray txLt where
 e:=elS
 q:=qS
 call:=Q0
 h_insertionSort:=by kernel_rfl
 h_siftDown:=by kernel_rfl
 h_heapSort:=by kernel_rfl
 h_reverseRange:=by kernel_rfl
 h_partialInsertionSort:=by kernel_rfl
 h_partitionEqual:=by kernel_rfl
 h_partition:=by kernel_rfl
 h_breakPatterns:=by kernel_rfl
 h_order2:=by kernel_rfl
 h_median:=by kernel_rfl
 h_medianAdjacent:=by kernel_rfl
 h_choosePivot:=by kernel_rfl
 h_pdqsort:=by kernel_rfl
 nS:=243
 h_Sort:=by kernel_rfl
 hnp:=rfl
 hxs:=rfl
theorem Lw {U0 U:St} {rs:List Thg} {v:GV} {l:List ByteArray} (H:Hp U0 U rs) (k:Nat) (hk:rs[k]? =some (ow pS.kd v l)) (hl:l.length<=1099511627776):∃ N,Ret Tryz.prog 243 [v] U (.tup []) N/\Hp U0 N (rs.set k (ow pS.kd v (Br txLt l))):=
 O.sort_ret srtS Zp H k hk hl fun x _ y _=>Zq x y
end Go.Proofs.YtnknigikcdgebaaGreatDoor.Sy
