/- Texts of this proof, one behind the other. -/
import Derived.Test.YtbeoiejnogdkpaaGreatBPWhoseTold5
import Derived.Sort.AssemblyPlain
import Derived.Test.YtbeoiejnogdkpaaGreatProg
import Derived.KernelRfl
set_option linter.unusedSimpArgs false
set_option linter.unusedVariables false
set_option maxRecDepth 4000
set_option maxHeartbeats 4000000
open Nat renaming le_refl→Zaa,lt_or_ge→Zag
open List renaming length_filter_le→Zab,drop_eq_getElem_cons→Zad,take_succ_eq_append_getElem→Zae,take_length→Zaf,length_take→Zah,length_map→Zai,map_cons→Zak,length_cons→Zal,getElem_mem→Zam,cons_append→Zan,length_nil→Zao,map_append→Zap,nil_append→Zaq
open Bool renaming false_bne→Zac,false_eq_true→Zaj
namespace Go.Proofs.YtbeoiejnogdkpaaGreat.Sy
open Go Go.RowKit
namespace O
open Go Go.RowKit Go.Proofs.YtbeoiejnogdkpaaGreat.Sy Go.Sort
variable {α:Type} [Inhabited α] {lt:α->α->Bool} {σ0 σ:St} {rs:List Thg} {k:Nat} {v:GV} {d:Array α}
theorem scanSorted_ge (lt:α->α->Bool) (d:Array α) (b:Nat):∀(n i:Nat),b - i=n->i<=scanSorted lt d b i/\(i<=b->scanSorted lt d b i<=b):=by
 intro n
 induction n with
 |zero=>
  intro i hn
  rw[scanSorted,if_neg (by simp;intro h;omega)]
  exact⟨Zaa _,fun h=>h⟩
 |succ n ih=>
  intro i hn
  rw[scanSorted]
  split
  ·have:=ih (i+1) (by omega)
   exact⟨by omega,fun _=>this.2 (by omega)⟩
  ·exact⟨Zaa _,fun h=>h⟩
theorem shiftDown_size (lt:α->α->Bool):∀(j:Nat) (d:Array α),(shiftDown lt j d).size=d.size
 |0,_=>rfl
 |j+1,d=>by
  rw[shiftDown]
  split
  ·rfl
  ·rw[shiftDown_size lt j,Go.Sort.swp_size]
theorem shiftUp_size (lt:α->α->Bool) (b:Nat):∀(n j:Nat) (d:Array α),b - j=n->(shiftUp lt b j d).size=d.size:=by
 intro n
 induction n with
 |zero=>intro j d h;rw[shiftUp,if_neg (by omega)]
 |succ n ih=>
  intro j d h
  rw[shiftUp,if_pos (by omega)]
  split
  ·rfl
  ·rw[ih _ _ (by omega),Go.Sort.swp_size]
theorem pis_ret (S:SrtO α lt) (H:Holds S.e σ0 σ rs k v d) {a b:Nat} (hab:a<b) (hb:b<=d.size) (hs:d.size<=1099511627776):∃ τ,Ret Tryz.prog S.q.partialInsertionSort [v,gi a,gi b] σ (.bool (partialInsertionSort lt d a b).2) τ/\Holds S.e σ0 τ rs k v (partialInsertionSort lt d a b).1:=by
 have key:∃ r τ,Ret Tryz.prog S.q.partialInsertionSort [v,gi a,gi b] σ r τ/\r= .bool (partialInsertionSort lt d a b).2/\Holds S.e σ0 τ rs k v (partialInsertionSort lt d a b).1:=by
  refine Bc S.h_partialInsertionSort (Z0z rfl) ?_
  rw[partialInsertionSort]
  obtain⟨R,hR⟩:∃ R,R=partialIns lt a b 5 (a+1) d:=⟨_,rfl⟩
  rw[<- hR]
  simp +contextual (maxSteps:=600000) (disch:=omega) only[go_sem,F4]
  refine Cj (fun n env τ=>∃(s i:Nat) (D:Array α),env 0=v/\env 1=gi a/\env 2=gi b/\env 7=gi i/\env 8=gi s/\5 - s=n/\s<=5/\a<i/\i<=b/\D.size=d.size/\σ.length<=τ.length/\Holds S.e σ0 τ rs k v D/\partialIns lt a b (5 - s) i D=R) 5 ⟨0,a+1,d,rfl,rfl,rfl,rfl,rfl,rfl,by omega,by omega,by omega,rfl,Zaa _,H,hR.symm⟩ ?_
  rintro J hJ n env τ ⟨s,i0,D,e0,e1,e2,e7,e8,hn,hs5,hai,hib,hD,hle,hH,hE⟩
  rcases Zag s 5 with h5|h5
  ·have c0:decide ((s:Int)<5)=true:=by simp;omega
   obtain⟨m,hm⟩:∃ m,5 - s=m+1:=⟨4 - s,by omega⟩
   rw[hm,partialIns] at hE
   dsimp only at hE
   simp +contextual (maxSteps:=600000) (disch:=omega) only[go_sem,e0,e1,e2,e7,e8,c0]
   refine Df (fun n env τ'=>∃(x:Nat),env 0=v/\env 1=gi a/\env 2=gi b/\env 7=gi x/\env 8=gi s/\b - x=n/\i0<=x/\x<=b/\τ=τ'/\scanSorted lt D b x=scanSorted lt D b i0) (b - i0) 2 (fun env τ'=>env 0=v/\env 1=gi a/\env 2=gi b/\env 7=gi (scanSorted lt D b i0:Nat)/\env 8=gi s/\τ=τ') ⟨i0,by simp +contextual (maxSteps:=600000) (disch:=omega) only[go_sem,e0],by simp +contextual (maxSteps:=600000) (disch:=omega) only[go_sem,e1],by simp +contextual (maxSteps:=600000) (disch:=omega) only[go_sem,e2],by simp +contextual (maxSteps:=600000) (disch:=omega) only[go_sem,e7],by simp +contextual (maxSteps:=600000) (disch:=omega) only[go_sem,e8],rfl,Zaa _,hib,rfl,rfl⟩ ?_ ?_
   ·clear e0 e1 e2 e7 e8
    rintro J2 Y2 hJ2 hY2 n2 env τ' ⟨x,e0,e1,e2,e7,e8,hn2,hx1,hx2,rfl,hU⟩
    rw[scanSorted] at hU
    rcases Zag x b with hx|hx
    ·have c1:decide ((x:Int)<b)=true:=by simp;omega
     have x1:(x:Int) - 1=((x - 1:Nat):Int):=by omega
     simp +contextual (maxSteps:=600000) (disch:=omega) only[go_sem,e0,e1,e2,e7,e8,c1,x1,A0,hH.iad (j:=x) (by omega),hH.ld (j:=x) (by omega),hH.iad (j:=x - 1) (by omega),hH.ld (j:=x - 1) (by omega)]
     refine Af (S.call _ _ _) ?_
     cases hl:lt D[x]! D[x - 1]! with
     |true=>
      rw[if_neg (by simp[hl])] at hU
      simp +contextual (maxSteps:=600000) (disch:=omega) only[go_sem,e0,e1,e2,e7,e8,c1,hl]
      refine hY2 _ _ ⟨?_,?_,?_,?_,?_,rfl⟩
      all_goals simp +contextual (maxSteps:=600000) (disch:=omega) only[go_sem,e0,e1,e2,e7,e8,hU]
     |false=>
      rw[if_pos (by simp[hl];omega)] at hU
      simp +contextual (maxSteps:=600000) (disch:=omega) only[go_sem,e0,e1,e2,e7,e8,c1,hl]
      refine⟨b - (x+1),by omega,hJ2 _ _ _ ⟨x+1,?_,?_,?_,?_,?_,rfl,by omega,by omega,rfl,hU⟩⟩
      all_goals simp +contextual (maxSteps:=600000) (disch:=omega) only[go_sem,e0,e1,e2,e7,e8]
    ·rw[if_neg (by simp;intro h;omega)] at hU
     have c1:decide ((x:Int)<b)=false:=by simp;omega
     simp +contextual (maxSteps:=600000) (disch:=omega) only[go_sem,e0,e1,e2,e7,e8,c1]
     refine hY2 _ _ ⟨?_,?_,?_,?_,?_,rfl⟩
     all_goals simp +contextual (maxSteps:=600000) (disch:=omega) only[go_sem,e0,e1,e2,e7,e8,hU]
   clear e0 e1 e2 e7 e8
   rintro env τ' ⟨e0,e1,e2,e7,e8,rfl⟩
   obtain⟨g1,g2⟩:=scanSorted_ge lt D b _ i0 rfl
   have g2:=g2 hib
   obtain⟨i,hi⟩:∃ i,i=scanSorted lt D b i0:=⟨_,rfl⟩
   rw[<- hi] at hE e7 g1 g2
   by_cases h1:i=b
   ·rw[if_pos h1] at hE
    subst hE
    have c1:((b:Int)==b)=true:=by simp
    rw[h1] at e7
    simp +contextual (maxSteps:=600000) (disch:=omega) only[go_sem,e0,e1,e2,e7,e8,c1]
    exact⟨_,rfl,hle,rfl,hH⟩
   ·rw[if_neg h1] at hE
    have c1:((i:Int)==b)=false:=by simp;omega
    by_cases h50:b - a<50
    ·rw[if_pos h50] at hE
     subst hE
     have c2:decide ((b:Int) - a<50)=true:=by simp;omega
     simp +contextual (maxSteps:=600000) (disch:=omega) only[go_sem,e0,e1,e2,e7,e8,c1,c2]
     exact⟨_,rfl,hle,rfl,hH⟩
    ·rw[if_neg h50] at hE
     have c2:decide ((b:Int) - a<50)=false:=by simp;omega
     have i1:(i:Int) - 1=((i - 1:Nat):Int):=by omega
     obtain⟨τ1,τ2,s1,s2,hH1,hl1⟩:=hH.sw (a:=i) (b:=i - 1) (by omega) (by omega)
     simp +contextual (maxSteps:=600000) (disch:=omega) only[go_sem,e0,e1,e2,e7,e8,c1,c2,i1,A0,hH.iad (j:=i) (by omega),hH.ld (j:=i) (by omega),hH.iad (j:=i - 1) (by omega),hH.ld (j:=i - 1) (by omega),s1,s2]
     have hD1:(swp D i (i - 1)).size=d.size:=by rw[Go.Sort.swp_size];exact hD
     have hle1:σ.length<=τ2.length:=by omega
     obtain⟨D1,hD10⟩:∃ D1,D1=swp D i (i - 1):=⟨_,rfl⟩
     rw[<- hD10] at hE hD1 hH1
     clear hH hle s1 s2
     by_cases hA:i - a≥2
     ·rw[if_pos hA] at hE
      have cA:decide ((2:Int)<=(i:Int) - a)=true:=by simp;omega
      simp +contextual (maxSteps:=600000) (disch:=omega) only[go_sem,e0,e1,e2,e7,e8,cA]
      refine Df (fun n env τ=>∃(j:Nat) (E:Array α),env 0=v/\env 1=gi a/\env 2=gi b/\env 7=gi i/\env 8=gi s/\env 9=gi j/\j=n/\j<b/\E.size=d.size/\σ.length<=τ.length/\Holds S.e σ0 τ rs k v E/\shiftDown lt j E=shiftDown lt (i - 1) D1) (i - 1) 4 (fun env τ=>env 0=v/\env 1=gi a/\env 2=gi b/\env 7=gi i/\env 8=gi s/\σ.length<=τ.length/\Holds S.e σ0 τ rs k v (shiftDown lt (i - 1) D1)) ⟨i - 1,D1,by simp +contextual (maxSteps:=600000) (disch:=omega) only[go_sem,e0],by simp +contextual (maxSteps:=600000) (disch:=omega) only[go_sem,e1],by simp +contextual (maxSteps:=600000) (disch:=omega) only[go_sem,e2],by simp +contextual (maxSteps:=600000) (disch:=omega) only[go_sem,e7],by simp +contextual (maxSteps:=600000) (disch:=omega) only[go_sem,e8],by simp +contextual (maxSteps:=600000) (disch:=omega) only[go_sem,i1],rfl,by omega,hD1,hle1,hH1,rfl⟩ ?_ ?_
      ·clear e0 e1 e2 e7 e8
       rintro J2 Y2 hJ2 hY2 n2 env τ ⟨j,E,e0,e1,e2,e7,e8,e9,hn2,hj,hE2,hle2,hH,hU⟩
       cases j with
       |zero=>
        have c5:decide ((1:Int)<=0)=false:=rfl
        simp +contextual (maxSteps:=600000) (disch:=omega) only[go_sem,e0,e1,e2,e7,e8,e9,c5,Int.natCast_zero]
        refine hY2 _ _ ⟨?_,?_,?_,?_,?_,hle2,by rw[<- hU];exact hH⟩
        all_goals simp +contextual (maxSteps:=600000) (disch:=omega) only[go_sem,e0,e1,e2,e7,e8]
       |succ m=>
        have c5:decide ((1:Int)<=(m:Int)+1)=true:=decide_eq_true (by omega)
        have n1:B8 (some (.int .i64 ((m:Int)+1)))=some (m+1):=Bd (by simp)
        have m1:(m:Int)+1 - 1=m:=by omega
        rw[shiftDown] at hU
        simp +contextual (maxSteps:=600000) (disch:=omega) only[go_sem,e0,e1,e2,e7,e8,e9,c5,n1,m1,A0,hH.iad (j:=m+1) (by omega),hH.ld (j:=m+1) (by omega),hH.iad (j:=m) (by omega),hH.ld (j:=m) (by omega)]
        refine Af (S.call _ _ _) ?_
        cases hl:lt E[m+1]! E[m]! with
        |false=>
         rw[if_pos (by simp[hl])] at hU
         simp +contextual (maxSteps:=600000) (disch:=omega) only[go_sem,e0,e1,e2,e7,e8,e9,hl]
         refine hY2 _ _ ⟨?_,?_,?_,?_,?_,hle2,by rw[<- hU];exact hH⟩
         all_goals simp +contextual (maxSteps:=600000) (disch:=omega) only[go_sem,e0,e1,e2,e7,e8]
        |true=>
         rw[if_neg (by simp[hl])] at hU
         obtain⟨τ3,τ4,s3,s4,hH4,hl4⟩:=hH.sw (a:=m+1) (b:=m) (by omega) (by omega)
         simp +contextual (maxSteps:=600000) (disch:=omega) only[go_sem,e0,e1,e2,e7,e8,e9,n1,m1,A0,hl,hH.iad (j:=m+1) (by omega),hH.ld (j:=m+1) (by omega),hH.iad (j:=m) (by omega),hH.ld (j:=m) (by omega),s3,s4]
         refine⟨m,by omega,hJ2 _ _ _ ⟨m,swp E (m+1) m,?_,?_,?_,?_,?_,?_,rfl,by omega,by rw[Go.Sort.swp_size];exact hE2,by omega,hH4,hU⟩⟩
         all_goals simp +contextual (maxSteps:=600000) (disch:=omega) only[go_sem,e0,e1,e2,e7,e8,m1]
      clear e0 e1 e2 e7 e8 hH1 hle1
      rintro env τ ⟨e0,e1,e2,e7,e8,hle2,hH2⟩
      have hD2:=(shiftDown_size lt (i - 1) D1).trans hD1
      obtain⟨D2,hD20⟩:∃ D2,D2=shiftDown lt (i - 1) D1:=⟨_,rfl⟩
      rw[<- hD20] at hE hD2 hH2
      simp +contextual (maxSteps:=600000) (disch:=omega) only[go_sem]
      by_cases hB:b - i≥2
      ·rw[if_pos hB] at hE
       have cB:decide ((2:Int)<=(b:Int) - i)=true:=by simp;omega
       simp +contextual (maxSteps:=600000) (disch:=omega) only[go_sem,e0,e1,e2,e7,e8,cB,cA]
       refine Df (fun n env τ=>∃(j:Nat) (E:Array α),env 0=v/\env 1=gi a/\env 2=gi b/\env 7=gi i/\env 8=gi s/\env 10=gi j/\b - j=n/\1<=j/\j<=b/\E.size=d.size/\σ.length<=τ.length/\Holds S.e σ0 τ rs k v E/\shiftUp lt b j E=shiftUp lt b (i+1) D2) (b - (i+1)) 6 (fun env τ=>env 0=v/\env 1=gi a/\env 2=gi b/\env 7=gi i/\env 8=gi s/\σ.length<=τ.length/\Holds S.e σ0 τ rs k v (shiftUp lt b (i+1) D2)) ⟨i+1,D2,by simp +contextual (maxSteps:=600000) (disch:=omega) only[go_sem,e0],by simp +contextual (maxSteps:=600000) (disch:=omega) only[go_sem,e1],by simp +contextual (maxSteps:=600000) (disch:=omega) only[go_sem,e2],by simp +contextual (maxSteps:=600000) (disch:=omega) only[go_sem,e7],by simp +contextual (maxSteps:=600000) (disch:=omega) only[go_sem,e8],by simp +contextual (maxSteps:=600000) (disch:=omega) only[go_sem,e7],rfl,by omega,by omega,hD2,hle2,hH2,rfl⟩ ?_ ?_
       ·clear e0 e1 e2 e7 e8
        rintro J2 Y2 hJ2 hY2 n2 env τ ⟨j,E,e0,e1,e2,e7,e8,e9,hn2,hj1,hj,hE2,hle3,hH,hU⟩
        rw[shiftUp] at hU
        rcases Zag j b with hjb|hjb
        ·rw[if_pos hjb] at hU
         have c5:decide ((j:Int)<b)=true:=by simp;omega
         have j1:(j:Int) - 1=((j - 1:Nat):Int):=by omega
         simp +contextual (maxSteps:=600000) (disch:=omega) only[go_sem,e0,e1,e2,e7,e8,e9,c5,j1,A0,hH.iad (j:=j) (by omega),hH.ld (j:=j) (by omega),hH.iad (j:=j - 1) (by omega),hH.ld (j:=j - 1) (by omega)]
         refine Af (S.call _ _ _) ?_
         cases hl:lt E[j]! E[j - 1]! with
         |false=>
          rw[if_pos (by simp[hl])] at hU
          simp +contextual (maxSteps:=600000) (disch:=omega) only[go_sem,e0,e1,e2,e7,e8,e9,hl]
          refine hY2 _ _ ⟨?_,?_,?_,?_,?_,hle3,by rw[<- hU];exact hH⟩
          all_goals simp +contextual (maxSteps:=600000) (disch:=omega) only[go_sem,e0,e1,e2,e7,e8]
         |true=>
          rw[if_neg (by simp[hl])] at hU
          obtain⟨τ3,τ4,s3,s4,hH4,hl4⟩:=hH.sw (a:=j) (b:=j - 1) (by omega) (by omega)
          simp +contextual (maxSteps:=600000) (disch:=omega) only[go_sem,e0,e1,e2,e7,e8,e9,j1,A0,hl,hH.iad (j:=j) (by omega),hH.ld (j:=j) (by omega),hH.iad (j:=j - 1) (by omega),hH.ld (j:=j - 1) (by omega),s3,s4]
          refine⟨b - (j+1),by omega,hJ2 _ _ _ ⟨j+1,swp E j (j - 1),?_,?_,?_,?_,?_,?_,rfl,by omega,by omega,by rw[Go.Sort.swp_size];exact hE2,by omega,hH4,hU⟩⟩
          all_goals simp +contextual (maxSteps:=600000) (disch:=omega) only[go_sem,e0,e1,e2,e7,e8,e9]
        ·rw[if_neg (by omega)] at hU
         have c5:decide ((j:Int)<b)=false:=by simp;omega
         simp +contextual (maxSteps:=600000) (disch:=omega) only[go_sem,e0,e1,e2,e7,e8,e9,c5]
         refine hY2 _ _ ⟨?_,?_,?_,?_,?_,hle3,by rw[<- hU];exact hH⟩
         all_goals simp +contextual (maxSteps:=600000) (disch:=omega) only[go_sem,e0,e1,e2,e7,e8]
       clear e0 e1 e2 e7 e8 hH2 hle2
       rintro env τ ⟨e0,e1,e2,e7,e8,hle2,hH2⟩
       simp +contextual (maxSteps:=600000) (disch:=omega) only[go_sem,e0,e1,e2,e7,e8]
       refine⟨n - 1,by omega,hJ _ _ _ ⟨s+1,i,_,?_,?_,?_,?_,?_,by omega,by omega,by omega,by omega,(by rw[shiftUp_size lt b _ _ _ rfl];exact hD2),hle2,hH2,by rw[<- hE];congr 1;omega⟩⟩
       all_goals simp +contextual (maxSteps:=600000) (disch:=omega) only[go_sem,e0,e1,e2,e7,e8]
      ·rw[if_neg hB] at hE
       have cB:decide ((2:Int)<=(b:Int) - i)=false:=by simp;omega
       simp +contextual (maxSteps:=600000) (disch:=omega) only[go_sem,e0,e1,e2,e7,e8,cB,cA]
       refine⟨n - 1,by omega,hJ _ _ _ ⟨s+1,i,_,?_,?_,?_,?_,?_,by omega,by omega,by omega,by omega,hD2,hle2,hH2,by rw[<- hE];congr 1;omega⟩⟩
       all_goals simp +contextual (maxSteps:=600000) (disch:=omega) only[go_sem,e0,e1,e2,e7,e8]
     ·rw[if_neg hA] at hE
      have cA:decide ((2:Int)<=(i:Int) - a)=false:=by simp;omega
      obtain⟨D2,hD20⟩:∃ D2,D2=D1:=⟨_,rfl⟩
      have hD2:=hD1
      have hH2:=hH1
      have hle2:=hle1
      rw[<- hD20] at hE hD2 hH2
      by_cases hB:b - i≥2
      ·rw[if_pos hB] at hE
       have cB:decide ((2:Int)<=(b:Int) - i)=true:=by simp;omega
       simp +contextual (maxSteps:=600000) (disch:=omega) only[go_sem,e0,e1,e2,e7,e8,cB,cA]
       refine Df (fun n env τ=>∃(j:Nat) (E:Array α),env 0=v/\env 1=gi a/\env 2=gi b/\env 7=gi i/\env 8=gi s/\env 10=gi j/\b - j=n/\1<=j/\j<=b/\E.size=d.size/\σ.length<=τ.length/\Holds S.e σ0 τ rs k v E/\shiftUp lt b j E=shiftUp lt b (i+1) D2) (b - (i+1)) 6 (fun env τ=>env 0=v/\env 1=gi a/\env 2=gi b/\env 7=gi i/\env 8=gi s/\σ.length<=τ.length/\Holds S.e σ0 τ rs k v (shiftUp lt b (i+1) D2)) ⟨i+1,D2,by simp +contextual (maxSteps:=600000) (disch:=omega) only[go_sem,e0],by simp +contextual (maxSteps:=600000) (disch:=omega) only[go_sem,e1],by simp +contextual (maxSteps:=600000) (disch:=omega) only[go_sem,e2],by simp +contextual (maxSteps:=600000) (disch:=omega) only[go_sem,e7],by simp +contextual (maxSteps:=600000) (disch:=omega) only[go_sem,e8],by simp +contextual (maxSteps:=600000) (disch:=omega) only[go_sem,e7],rfl,by omega,by omega,hD2,hle2,hH2,rfl⟩ ?_ ?_
       ·clear e0 e1 e2 e7 e8
        rintro J2 Y2 hJ2 hY2 n2 env τ ⟨j,E,e0,e1,e2,e7,e8,e9,hn2,hj1,hj,hE2,hle3,hH,hU⟩
        rw[shiftUp] at hU
        rcases Zag j b with hjb|hjb
        ·rw[if_pos hjb] at hU
         have c5:decide ((j:Int)<b)=true:=by simp;omega
         have j1:(j:Int) - 1=((j - 1:Nat):Int):=by omega
         simp +contextual (maxSteps:=600000) (disch:=omega) only[go_sem,e0,e1,e2,e7,e8,e9,c5,j1,A0,hH.iad (j:=j) (by omega),hH.ld (j:=j) (by omega),hH.iad (j:=j - 1) (by omega),hH.ld (j:=j - 1) (by omega)]
         refine Af (S.call _ _ _) ?_
         cases hl:lt E[j]! E[j - 1]! with
         |false=>
          rw[if_pos (by simp[hl])] at hU
          simp +contextual (maxSteps:=600000) (disch:=omega) only[go_sem,e0,e1,e2,e7,e8,e9,hl]
          refine hY2 _ _ ⟨?_,?_,?_,?_,?_,hle3,by rw[<- hU];exact hH⟩
          all_goals simp +contextual (maxSteps:=600000) (disch:=omega) only[go_sem,e0,e1,e2,e7,e8]
         |true=>
          rw[if_neg (by simp[hl])] at hU
          obtain⟨τ3,τ4,s3,s4,hH4,hl4⟩:=hH.sw (a:=j) (b:=j - 1) (by omega) (by omega)
          simp +contextual (maxSteps:=600000) (disch:=omega) only[go_sem,e0,e1,e2,e7,e8,e9,j1,A0,hl,hH.iad (j:=j) (by omega),hH.ld (j:=j) (by omega),hH.iad (j:=j - 1) (by omega),hH.ld (j:=j - 1) (by omega),s3,s4]
          refine⟨b - (j+1),by omega,hJ2 _ _ _ ⟨j+1,swp E j (j - 1),?_,?_,?_,?_,?_,?_,rfl,by omega,by omega,by rw[Go.Sort.swp_size];exact hE2,by omega,hH4,hU⟩⟩
          all_goals simp +contextual (maxSteps:=600000) (disch:=omega) only[go_sem,e0,e1,e2,e7,e8,e9]
        ·rw[if_neg (by omega)] at hU
         have c5:decide ((j:Int)<b)=false:=by simp;omega
         simp +contextual (maxSteps:=600000) (disch:=omega) only[go_sem,e0,e1,e2,e7,e8,e9,c5]
         refine hY2 _ _ ⟨?_,?_,?_,?_,?_,hle3,by rw[<- hU];exact hH⟩
         all_goals simp +contextual (maxSteps:=600000) (disch:=omega) only[go_sem,e0,e1,e2,e7,e8]
       clear e0 e1 e2 e7 e8 hH2 hle2
       rintro env τ ⟨e0,e1,e2,e7,e8,hle2,hH2⟩
       simp +contextual (maxSteps:=600000) (disch:=omega) only[go_sem,e0,e1,e2,e7,e8]
       refine⟨n - 1,by omega,hJ _ _ _ ⟨s+1,i,_,?_,?_,?_,?_,?_,by omega,by omega,by omega,by omega,(by rw[shiftUp_size lt b _ _ _ rfl];exact hD2),hle2,hH2,by rw[<- hE];congr 1;omega⟩⟩
       all_goals simp +contextual (maxSteps:=600000) (disch:=omega) only[go_sem,e0,e1,e2,e7,e8]
      ·rw[if_neg hB] at hE
       have cB:decide ((2:Int)<=(b:Int) - i)=false:=by simp;omega
       simp +contextual (maxSteps:=600000) (disch:=omega) only[go_sem,e0,e1,e2,e7,e8,cB,cA]
       refine⟨n - 1,by omega,hJ _ _ _ ⟨s+1,i,_,?_,?_,?_,?_,?_,by omega,by omega,by omega,by omega,hD2,hle2,hH2,by rw[<- hE];congr 1;omega⟩⟩
       all_goals simp +contextual (maxSteps:=600000) (disch:=omega) only[go_sem,e0,e1,e2,e7,e8]
  ·have c0:decide ((s:Int)<5)=false:=by simp;omega
   have hm:5 - s=0:=by omega
   rw[hm,partialIns] at hE
   subst hE
   simp +contextual (maxSteps:=600000) (disch:=omega) only[go_sem,e0,e1,e2,e7,e8,c0]
   exact⟨_,rfl,hle,rfl,hH⟩
 obtain⟨r,τ,R,rfl,h⟩:=key
 exact⟨τ,R,h⟩
end O
namespace O
open Go Go.RowKit Go.Proofs.YtbeoiejnogdkpaaGreat.Sy Go.Sort
variable {α:Type} [Inhabited α] {lt:α->α->Bool} {σ0 σ:St} {rs:List Thg} {k g:Nat} {s:Int} {v:GV} {d:Array α}
theorem order2_ret (S:SrtO α lt) (H:Holds S.e σ0 σ (pt 1 g [gi s]::rs) (k+1) v d) {a b:Nat} (ha:a<d.size) (hb:b<d.size):∃(r1 r2:Nat) (s':Int) (τ:St),Ret Tryz.prog S.q.order2 [v,gi a,gi b,.ptr g 0] σ (.tup [gi r1,gi r2]) τ/\Holds S.e σ0 τ (pt 1 g [gi s']::rs) (k+1) v d/\((r1=a/\r2=b)∨(r1=b/\r2=a)):=by
 have key:∃ r τ,Ret Tryz.prog S.q.order2 [v,gi a,gi b,.ptr g 0] σ r τ/\∃(r1 r2:Nat) (s':Int),r= .tup [gi r1,gi r2]/\Holds S.e σ0 τ (pt 1 g [gi s']::rs) (k+1) v d/\((r1=a/\r2=b)∨(r1=b/\r2=a)):=by
  refine Bc S.h_order2 (Z0z rfl) ?_
  simp +contextual (disch:=omega) only[go_sem,A0p,A0,H.iad ha,H.ld ha,H.iad hb,H.ld hb]
  refine Af (S.call _ _ _) ?_
  cases hl:lt d[b]! d[a]! with
  |true=>
   have l1:=A9 (a:=false) (n:=1) (off:=0) (H.2.pt 0 rfl)
   have l1:ldG false 1 σ (.ptr g 0)=some (gi s):=l1
   obtain⟨τ1,st1,H1,hl1⟩:=H.2.st 0 rfl 1 0 (gi (IntKind.i64.wrap (s+1))) rfl (by decide) (by simp)
   simp +contextual (disch:=omega) only[go_sem,hl,l1,st1]
   exact⟨_,rfl,by omega,b,a,IntKind.i64.wrap (s+1),rfl,⟨H.1,H1⟩,.inr ⟨rfl,rfl⟩⟩
  |false=>
   simp +contextual (disch:=omega) only[go_sem,hl]
   exact⟨_,rfl,a,b,s,rfl,H,.inl ⟨rfl,rfl⟩⟩
 obtain⟨r,τ,R,r1,r2,s',rfl,h1,h2⟩:=key
 exact⟨r1,r2,s',τ,R,h1,h2⟩
theorem median_ret (S:SrtO α lt) (H:Holds S.e σ0 σ (pt 1 g [gi s]::rs) (k+1) v d) {a b c:Nat} (ha:a<d.size) (hb:b<d.size) (hc:c<d.size):∃(r1:Nat) (s':Int) (τ:St),Ret Tryz.prog S.q.median [v,gi a,gi b,gi c,.ptr g 0] σ (gi r1) τ/\Holds S.e σ0 τ (pt 1 g [gi s']::rs) (k+1) v d/\(r1=a∨r1=b∨r1=c):=by
 have key:∃ r τ,Ret Tryz.prog S.q.median [v,gi a,gi b,gi c,.ptr g 0] σ r τ/\∃(r1:Nat) (s':Int),r=gi r1/\Holds S.e σ0 τ (pt 1 g [gi s']::rs) (k+1) v d/\(r1=a∨r1=b∨r1=c):=by
  refine Bc S.h_median (Z0z rfl) ?_
  simp +contextual (disch:=omega) only[go_sem,A0n]
  obtain⟨a1,b1,s1,τ1,R1,H1,h1⟩:=order2_ret S H ha hb
  refine Ao R1 ?_
  simp +contextual (disch:=omega) only[go_sem]
  obtain⟨b2,c2,s2,τ2,R2,H2,h2⟩:=order2_ret S H1 (a:=b1) (b:=c) (by omega) hc
  refine Ao R2 ?_
  simp +contextual (disch:=omega) only[go_sem]
  obtain⟨a3,b3,s3,τ3,R3,H3,h3⟩:=order2_ret S H2 (a:=a1) (b:=b2) (by omega) (by omega)
  refine Ao R3 ?_
  simp +contextual (disch:=omega) only[go_sem]
  have:=R1.2.1
  have:=R2.2.1
  have:=R3.2.1
  exact⟨_,rfl,by omega,b3,s3,rfl,H3,by omega⟩
 obtain⟨r,τ,R,r1,s',rfl,h1,h2⟩:=key
 exact⟨r1,s',τ,R,h1,h2⟩
theorem medAdj_ret (S:SrtO α lt) (H:Holds S.e σ0 σ (pt 1 g [gi s]::rs) (k+1) v d) {a:Nat} (h0:0<a) (ha:a+1<d.size) (hs:d.size<=1099511627776):∃(r1:Nat) (s':Int) (τ:St),Ret Tryz.prog S.q.medianAdjacent [v,gi a,.ptr g 0] σ (gi r1) τ/\Holds S.e σ0 τ (pt 1 g [gi s']::rs) (k+1) v d/\a<=r1+1/\r1<=a+1:=by
 have key:∃ r τ,Ret Tryz.prog S.q.medianAdjacent [v,gi a,.ptr g 0] σ r τ/\∃(r1:Nat) (s':Int),r=gi r1/\Holds S.e σ0 τ (pt 1 g [gi s']::rs) (k+1) v d/\a<=r1+1/\r1<=a+1:=by
  refine Bc S.h_medianAdjacent (Z0z rfl) ?_
  obtain⟨p,rfl⟩:∃ p,a=p+1:=⟨a - 1,by omega⟩
  have p1:(p:Int)+1 - 1=p:=by omega
  simp +contextual (disch:=omega) only[go_sem,Io,p1]
  obtain⟨r1,s1,τ1,R1,H1,h1⟩:=median_ret S H (a:=p) (b:=p+1) (c:=p+1+1) (by omega) (by omega) (by omega)
  refine Ao R1 ?_
  simp +contextual (disch:=omega) only[go_sem]
  have:=R1.2.1
  exact⟨_,rfl,by omega,r1,s1,rfl,H1,by omega,by omega⟩
 obtain⟨r,τ,R,r1,s',rfl,h1,h2⟩:=key
 exact⟨r1,s',τ,R,h1,h2⟩
theorem choose_ret (S:SrtO α lt) (H:Holds S.e σ0 σ rs k v d) {a b:Nat} (hab:a<b) (hb:b<=d.size) (hs:d.size<=1099511627776):∃(p h:Nat) (τ:St),Ret Tryz.prog S.q.choosePivot [v,gi a,gi b] σ (.tup [gi p,gi h]) τ/\Holds S.e σ0 τ rs k v d/\a<=p/\p<b/\h<=2:=by
 have key:∃ r τ,Ret Tryz.prog S.q.choosePivot [v,gi a,gi b] σ r τ/\∃(p h:Nat),r= .tup [gi p,gi h]/\Holds S.e σ0 τ rs k v d/\a<=p/\p<b/\h<=2:=by
  refine Bc S.h_choosePivot (Z0z rfl) ?_
  obtain⟨l,hl⟩:∃ l,l=b - a:=⟨_,rfl⟩
  have hlI:(b:Int) - a=l:=by omega
  obtain⟨q,hq⟩:∃ q,q=l / 4:=⟨_,rfl⟩
  have hqI:(l:Int).tdiv 4=q:=by rw[hq];rfl
  obtain⟨i,hi⟩:∃ i,i=a+q*1:=⟨_,rfl⟩
  obtain⟨j,hj⟩:∃ i,i=a+q*2:=⟨_,rfl⟩
  obtain⟨m,hm⟩:∃ i,i=a+q*3:=⟨_,rfl⟩
  have hiI:(a:Int)+q*1=i:=by omega
  have hjI:(a:Int)+q*2=j:=by omega
  have hmI:(a:Int)+q*3=m:=by omega
  have H0:Holds S.e σ0 (σ++[some (.row 1 [gi 0])]) (pt 1 σ.length [gi 0]::rs) (k+1) v d:=⟨by simpa using H.1,H.2.new 1 [gi 0]⟩
  have L0:(σ++[some (Blk.row 1 [GV.int IntKind.i64 0])]).length=σ.length+1:=by simp
  have L1:(σ++[some (Blk.row 1 [gi 0])]).length=σ.length+1:=L0
  by_cases h8:8<=l
  ·have c8:decide ((8:Int)<=l)=true:=by simp;omega
   by_cases h50:50<=l
   ·have c50:decide ((50:Int)<=l)=true:=by simp;omega
    simp +contextual (disch:=omega) only[go_sem,Fl,hlI,hqI,hiI,hjI,hmI,c8,c50]
    obtain⟨i1,s1,τ1,R1,H1,h1,h1'⟩:=medAdj_ret S H0 (a:=i) (by omega) (by omega) hs
    refine Ao R1 ?_
    simp +contextual (disch:=omega) only[go_sem]
    obtain⟨j1,s2,τ2,R2,H2,h2,h2'⟩:=medAdj_ret S H1 (a:=j) (by omega) (by omega) hs
    refine Ao R2 ?_
    simp +contextual (disch:=omega) only[go_sem]
    obtain⟨m1,s3,τ3,R3,H3,h3,h3'⟩:=medAdj_ret S H2 (a:=m) (by omega) (by omega) hs
    refine Ao R3 ?_
    simp +contextual (disch:=omega) only[go_sem]
    obtain⟨p,s4,τ4,R4,H4,h4⟩:=median_ret S H3 (a:=i1) (b:=j1) (c:=m1) (by omega) (by omega) (by omega)
    refine Ao R4 ?_
    have:=R1.2.1
    have:=R2.2.1
    have:=R3.2.1
    have:=R4.2.1
    have l1:ldG false 1 τ4 (.ptr σ.length 0)=some (gi s4):=A9 (a:=false) (n:=1) (off:=0) ((H4).2.pt 0 rfl)
    simp +contextual (disch:=omega) only[go_sem,l1]
    have hout:Holds S.e σ0 τ4 rs k v d:=⟨H.1,(H4).2.drop1⟩
    have key0:((s4:Int)==0)=decide ((s4:Int)=0):=rfl
    by_cases h0:(s4:Int)=0
    ·have c0:((s4:Int)==0)=true:=by simp[h0]
     simp +contextual (disch:=omega) only[go_sem,c0]
     exact⟨_,rfl,by omega,p,1,rfl,hout,by omega,by omega,by omega⟩
    ·have c0:((s4:Int)==0)=false:=by simp[h0]
     by_cases h12:(s4:Int)=12
     ·have c1:((s4:Int)==12)=true:=by simp[h12]
      simp +contextual (disch:=omega) only[go_sem,c0,c1]
      exact⟨_,rfl,by omega,p,2,rfl,hout,by omega,by omega,by omega⟩
     ·have c1:((s4:Int)==12)=false:=by simp[h12]
      simp +contextual (disch:=omega) only[go_sem,c0,c1]
      exact⟨_,rfl,by omega,p,0,rfl,hout,by omega,by omega,by omega⟩
   ·have c50:decide ((50:Int)<=l)=false:=by simp;omega
    simp +contextual (disch:=omega) only[go_sem,Fl,hlI,hqI,hiI,hjI,hmI,c8,c50]
    obtain⟨p,s4,τ4,R4,H4,h4⟩:=median_ret S H0 (a:=i) (b:=j) (c:=m) (by omega) (by omega) (by omega)
    refine Ao R4 ?_
    have:=R4.2.1
    have l1:ldG false 1 τ4 (.ptr σ.length 0)=some (gi s4):=A9 (a:=false) (n:=1) (off:=0) ((H4).2.pt 0 rfl)
    simp +contextual (disch:=omega) only[go_sem,l1]
    have hout:Holds S.e σ0 τ4 rs k v d:=⟨H.1,(H4).2.drop1⟩
    have key0:((s4:Int)==0)=decide ((s4:Int)=0):=rfl
    by_cases h0:(s4:Int)=0
    ·have c0:((s4:Int)==0)=true:=by simp[h0]
     simp +contextual (disch:=omega) only[go_sem,c0]
     exact⟨_,rfl,by omega,p,1,rfl,hout,by omega,by omega,by omega⟩
    ·have c0:((s4:Int)==0)=false:=by simp[h0]
     by_cases h12:(s4:Int)=12
     ·have c1:((s4:Int)==12)=true:=by simp[h12]
      simp +contextual (disch:=omega) only[go_sem,c0,c1]
      exact⟨_,rfl,by omega,p,2,rfl,hout,by omega,by omega,by omega⟩
     ·have c1:((s4:Int)==12)=false:=by simp[h12]
      simp +contextual (disch:=omega) only[go_sem,c0,c1]
      exact⟨_,rfl,by omega,p,0,rfl,hout,by omega,by omega,by omega⟩
  ·have c8:decide ((8:Int)<=l)=false:=by simp;omega
   have l1:ldG false 1 (σ++[some (.row 1 [gi 0])]) (.ptr σ.length 0)=some (gi 0):=A9 (a:=false) (n:=1) (off:=0) (H0.2.pt 0 rfl)
   have c0:((0:Int)==0)=true:=rfl
   simp +contextual (disch:=omega) only[go_sem,Fl,hlI,hqI,hiI,hjI,hmI,c8,l1,c0]
   exact⟨_,rfl,by omega,j,1,rfl,⟨H.1,H0.2.drop1⟩,by omega,by omega,by omega⟩
 obtain⟨r,τ,R,p,h,rfl,h1,h2⟩:=key
 exact⟨p,h,τ,R,h1,h2⟩
theorem break_ret (S:SrtO α lt) (H:Holds S.e σ0 σ rs k v d) {a b:Nat} (hab:a<=b) (hb:b<=d.size) (hs:d.size<=1099511627776):∃(d':Array α) (τ:St),Ret Tryz.prog S.q.breakPatterns [v,gi a,gi b] σ (.tup []) τ/\Holds S.e σ0 τ rs k v d'/\PermIn a b d d':=by
 have key:∃ r τ,Ret Tryz.prog S.q.breakPatterns [v,gi a,gi b] σ r τ/\∃(d':Array α),r= .tup []/\Holds S.e σ0 τ rs k v d'/\PermIn a b d d':=by
  refine Bc S.h_breakPatterns (Z0z rfl) ?_
  obtain⟨h,hh⟩:∃ l,l=b - a:=⟨_,rfl⟩
  have hhI:(b:Int) - a=h:=by omega
  by_cases h8:8<=h
  ·have c8:decide ((8:Int)<=h)=true:=by simp;omega
   have wu:IntKind.u64.wrap (h:Int)=h:=Kh (by omega) (by omega)
   obtain⟨q,hq⟩:∃ q,q=h / 4:=⟨_,rfl⟩
   have hqI:(h:Int).tdiv 4=q:=by rw[hq];rfl
   obtain⟨m,hm⟩:∃ i,i=a+q*2:=⟨_,rfl⟩
   have hmI:(a:Int)+q*2=m:=by omega
   have hmJ:(m:Int) - 1=((m - 1:Nat):Int):=by omega
   have H0:Holds S.e σ0 (σ++[some (.row 1 [.int .u64 h])]) (pt 1 σ.length [.int .u64 h]::rs) (k+1) v d:=⟨by simpa using H.1,H.2.new 1 [.int .u64 h]⟩
   have sp:Aq [GV.int .u64 0] 0 [GV.int .u64 (h:Int)]=[.int .u64 h]:=rfl
   simp +contextual (disch:=omega) only[go_sem,Gd,hhI,c8,wu,GV.cells,sp,Zal,Zao,Nat.reduceAdd,Zaa,Nat.zero_lt_one,and_self,if_true]
   rw[S.hnp]
   have hbl:h<=1099511627776:=by omega
   refine Af (Adh _ h hbl) ?_
   obtain⟨M,hM⟩:∃ M,M=2 ^ bitsLen h:=⟨_,rfl⟩
   have hM1:=Go.Sort.two_pow_bitsLen_le (n:=h) (by omega)
   have hM2:=Nat.two_pow_pos (bitsLen h)
   rw[<- hM] at hM1 hM2
   rw[<- hM]
   have M1:(M:Int) - 1=((M - 1:Nat):Int):=by omega
   have wM:IntKind.u64.wrap ((M - 1:Nat):Int)=((M - 1:Nat):Int):=Kh (by omega) (by omega)
   have L0:(σ++[some (Blk.row 1 [GV.int .u64 (h:Int)])]).length=σ.length+1:=by simp
   simp +contextual (disch:=omega) only[go_sem,hqI,hmI,hmJ]
   refine Cj (fun n env τ=>∃(x:Nat) (y:Int) (D:Array α),env 0=v/\env 1=gi a/\env 6=gi h/\env 7= .ptr σ.length 0/\env 8= .int .u64 (M:Nat)/\env 9=gi x/\m+2 - x=n/\m - 1<=x/\x<=m+2/\σ.length<=τ.length/\Holds S.e σ0 τ (pt 1 σ.length [.int .u64 y]::rs) (k+1) v D/\PermIn a b d D) (m+2 - (m - 1)) ⟨m - 1,h,d,rfl,rfl,rfl,rfl,rfl,rfl,rfl,Zaa _,by omega,by omega,H0,permIn_refl _ _ _⟩ ?_
   rintro J hJ n env τ ⟨x,y,D,e0,e1,e6,e7,e8,e9,hn,hx1,hx2,hle,hH,hP⟩
   have hD:D.size=d.size:=hP.1
   by_cases hx:x<=m+1
   ·have c0:decide ((x:Int)<=(m:Int)+1)=true:=by simp;omega
    simp +contextual (disch:=omega) only[go_sem,e0,e1,e6,e7,e8,e9,hqI,hmI,c0]
    rw[S.hxs]
    obtain⟨y',τ1,R1,H1⟩:=Agf hH.2 0 rfl
    have hle1:=R1.2.1
    have H1:Holds S.e σ0 τ1 (pt 1 σ.length [.int .u64 y']::rs) (k+1) v D:=⟨hH.1,H1⟩
    obtain⟨w,hw,hwE⟩:=andU (y:=y') (m:=M - 1) (by omega)
    have ww:IntKind.i64.wrap (w:Int)=w:=Ff (by omega) (by omega)
    refine Ao R1 ?_
    simp +contextual (disch:=omega) only[go_sem,e0,e1,e6,e7,e8,e9,M1,wM,hwE,ww]
    obtain⟨z,hz,hzI⟩:∃ z:Nat,z<h/\(z:Int)=if h<=w then(w:Int) - h else w:=by
     by_cases hc:h<=w
     ·exact⟨w - h,by omega,by rw[if_pos hc];omega⟩
     ·exact⟨w,by omega,by rw[if_neg hc]⟩
    have nz:B8 (some (.int .i64 ((a:Int)+z)))=some (a+z):=Bd (by simp)
    obtain⟨τ3,τ4,s3,s4,hH4,hl4⟩:=H1.sw (a:=x) (b:=a+z) (by omega) (by omega)
    have hP2:=permIn_trans _ _ _ _ _ hP (swp_permIn D a b x (a+z) (by omega) (by omega) (by omega) (by omega) (by omega))
    by_cases hc:h<=w
    ·rw[if_pos hc] at hzI
     have cc:decide ((h:Int)<=w)=true:=by simp;omega
     simp +contextual (disch:=omega) only[go_sem,e0,e1,e6,e7,e8,e9,cc,<-hzI,nz,A0,H1.iad (j:=x) (by omega),H1.ld (j:=x) (by omega),H1.iad (j:=a+z) (by omega),H1.ld (j:=a+z) (by omega),s3,s4]
     refine⟨m+2 - (x+1),by omega,hJ _ _ _ ⟨x+1,y',_,?_,?_,?_,?_,?_,?_,rfl,by omega,by omega,by omega,hH4,hP2⟩⟩
     all_goals simp +contextual (disch:=omega) only[go_sem,e0,e1,e6,e7,e8,e9]
    ·rw[if_neg hc] at hzI
     have hzw:z=w:=by omega
     rw[hzw] at nz s3 s4 hH4 hP2 hz
     have cc:decide ((h:Int)<=w)=false:=by simp;omega
     simp +contextual (disch:=omega) only[go_sem,e0,e1,e6,e7,e8,e9,cc,nz,A0,H1.iad (j:=x) (by omega),H1.ld (j:=x) (by omega),H1.iad (j:=a+w) (by omega),H1.ld (j:=a+w) (by omega),s3,s4]
     refine⟨m+2 - (x+1),by omega,hJ _ _ _ ⟨x+1,y',_,?_,?_,?_,?_,?_,?_,rfl,by omega,by omega,by omega,hH4,hP2⟩⟩
     all_goals simp +contextual (disch:=omega) only[go_sem,e0,e1,e6,e7,e8,e9]
   ·have c0:decide ((x:Int)<=(m:Int)+1)=false:=by simp;omega
    simp +contextual (disch:=omega) only[go_sem,e0,e1,e6,e7,e8,e9,hqI,hmI,c0]
    exact⟨_,rfl,hle,D,rfl,⟨H.1,hH.2.drop1⟩,hP⟩
  ·have c8:decide ((8:Int)<=h)=false:=by simp;omega
   simp +contextual (disch:=omega) only[go_sem,Gd,hhI,c8]
   exact⟨_,rfl,d,rfl,H,permIn_refl _ _ _⟩
 obtain⟨r,τ,R,d',rfl,h⟩:=key
 exact⟨d',τ,R,h⟩
end O
namespace O
open Go Go.RowKit Go.Proofs.YtbeoiejnogdkpaaGreat.Sy Go.Sort
variable {α:Type} [Inhabited α] {lt:α->α->Bool} {σ0:St} {rs:List Thg} {k:Nat} {v:GV}
theorem pdq_ret (S:SrtO α lt) (hS:SWO lt):∀(n:Nat) (d:Array α) (a b l:Nat) (σ:St),b - a<=n->a<=b->b<=d.size->d.size<=1099511627776->l<=1099511627776->Below lt a b d->Holds S.e σ0 σ rs k v d->∃(d':Array α) (τ:St),Ret Tryz.prog S.q.pdqsort [v,gi a,gi b,gi l] σ (.tup []) τ/\Holds S.e σ0 τ rs k v d'/\PermIn a b d d'/\SortedIn lt a b d':=by
 intro n
 induction n with
 |zero=>
  intro d a b l σ hn hab hb hs hl hB H
  have key:∃ r τ,Ret Tryz.prog S.q.pdqsort [v,gi a,gi b,gi l] σ r τ/\r= .tup []/\Holds S.e σ0 τ rs k v (insertionSort lt d a b):=by
   refine Bc S.h_pdqsort (Z0z rfl) ?_
   obtain rfl:a=b:=by omega
   simp +contextual (disch:=omega) only[go_sem,O6]
   refine Sm (fun n env τ=>env 0=v/\env 1=gi a/\env 2=gi a/\τ=σ) 0 ⟨rfl,rfl,rfl,rfl⟩ ?_
   rintro n env τ ⟨e0,e1,e2,rfl⟩
   have a0:(a:Int) - a=0:=by omega
   have c0:decide ((0:Int)<=12)=true:=rfl
   simp +contextual (disch:=omega) only[go_sem,e0,e1,e2,a0,c0]
   obtain⟨τ1,R,H1⟩:=ins_ret S H (a:=a) (b:=a) (Zaa _) hb hs
   refine Ao R ?_
   simp +contextual (disch:=omega) only[go_sem]
   exact⟨_,rfl,R.2.1,rfl,H1⟩
  obtain⟨r,τ,R,rfl,H1⟩:=key
  obtain⟨p1,p2⟩:=insertionSort_holds hS d a b hab hb
  exact⟨_,τ,R,H1,p1,p2⟩
 |succ N ih=>
  intro d a b l σ hn hab hb hs hl hB H
  have key:∃ r τ,Ret Tryz.prog S.q.pdqsort [v,gi a,gi b,gi l] σ r τ/\∃ d',r= .tup []/\Holds S.e σ0 τ rs k v d'/\PermIn a b d d'/\SortedIn lt a b d':=by
   refine Bc S.h_pdqsort (Z0z rfl) ?_
   simp +contextual (disch:=omega) only[go_sem,O6]
   refine Cj (fun n env τ=>∃(x y l:Nat) (wb wp:Bool) (D:Array α),env 0=v/\env 1=gi x/\env 2=gi y/\env 3=gi l/\env 8= .bool wb/\env 9= .bool wp/\y - x=n/\l<=1099511627776/\a<=x/\x<=y/\y<=b/\D.size=d.size/\σ.length<=τ.length/\Holds S.e σ0 τ rs k v D/\Below lt x y D/\∀ R,PermIn x y D R->SortedIn lt x y R->PermIn a b d R/\SortedIn lt a b R) (b - a) ⟨a,b,l,true,true,d,rfl,rfl,rfl,rfl,rfl,rfl,rfl,hl,Zaa _,hab,Zaa _,rfl,Zaa _,H,hB,fun R h1 h2=>⟨h1,h2⟩⟩ ?_
   clear H hB hl
   rintro J hJ n env τ ⟨x,y,l,wb,wp,D,e0,e1,e2,e3,e8,e9,hn2,hl,hax,hxy,hyb,hD,hle,hH,hB,hfin⟩
   rw[Ag8]
   obtain⟨h,hh⟩:∃ h,h=y - x:=⟨_,rfl⟩
   have hhI:(y:Int) - x=h:=by omega
   refine Cx (fun env τ'=>env 0=v/\env 1=gi x/\env 2=gi y/\env 3=gi l/\env 8= .bool wb/\env 9= .bool wp/\env 10=gi h/\τ=τ') (fun Y hY=>by
    simp +contextual (disch:=omega) only[go_sem,e0,e1,e2,e3,e8,e9,hhI]
    refine hY _ _ ⟨?_,?_,?_,?_,?_,?_,?_,rfl⟩
    all_goals simp +contextual (disch:=omega) only[go_sem,e0,e1,e2,e3,e8,e9,hhI]) ?_
   clear e0 e1 e2 e3 e8 e9
   rintro env τ' ⟨e0,e1,e2,e3,e8,e9,e10,rfl⟩
   refine Cx (fun env τ'=>env 0=v/\env 1=gi x/\env 2=gi y/\env 3=gi l/\env 8= .bool wb/\env 9= .bool wp/\env 10=gi h/\τ=τ'/\12<h) (fun Y hY=>by
    by_cases h12:h<=12
    ·have c0:decide ((h:Int)<=12)=true:=by simp;omega
     simp +contextual (disch:=omega) only[go_sem,e0,e1,e2,e3,e8,e9,e10,c0]
     obtain⟨τ1,R,H1⟩:=ins_ret S hH (a:=x) (b:=y) hxy (by omega) (by omega)
     refine Ao R ?_
     simp +contextual (disch:=omega) only[go_sem]
     obtain⟨p1,p2⟩:=insertionSort_holds hS D x y hxy (by omega)
     have:=R.2.1
     exact⟨_,rfl,by omega,_,rfl,H1,hfin _ p1 p2⟩
    ·have c0:decide ((h:Int)<=12)=false:=by simp;omega
     simp +contextual (disch:=omega) only[go_sem,e0,e1,e2,e3,e8,e9,e10,c0]
     refine hY _ _ ⟨?_,?_,?_,?_,?_,?_,?_,rfl,by omega⟩
     all_goals simp +contextual (disch:=omega) only[go_sem,e0,e1,e2,e3,e8,e9,e10]) ?_
   clear e0 e1 e2 e3 e8 e9 e10
   rintro env τ' ⟨e0,e1,e2,e3,e8,e9,e10,rfl,h12⟩
   refine Cx (fun env τ'=>env 0=v/\env 1=gi x/\env 2=gi y/\env 3=gi l/\env 8= .bool wb/\env 9= .bool wp/\env 10=gi h/\τ=τ'/\0<l) (fun Y hY=>by
    by_cases h0:l=0
    ·have c0:((l:Int)==0)=true:=by simp[h0]
     simp +contextual (disch:=omega) only[go_sem,e0,e1,e2,e3,e8,e9,e10,c0]
     obtain⟨τ1,R,H1⟩:=heap_ret S hH (a:=x) (b:=y) hxy (by omega) (by omega)
     refine Ao R ?_
     simp +contextual (disch:=omega) only[go_sem]
     obtain⟨p1,p2⟩:=heapSort_holds hS D x y hxy (by omega)
     have:=R.2.1
     exact⟨_,rfl,by omega,_,rfl,H1,hfin _ p1 p2⟩
    ·have c0:((l:Int)==0)=false:=by simp;omega
     simp +contextual (disch:=omega) only[go_sem,e0,e1,e2,e3,e8,e9,e10,c0]
     refine hY _ _ ⟨?_,?_,?_,?_,?_,?_,?_,rfl,by omega⟩
     all_goals simp +contextual (disch:=omega) only[go_sem,e0,e1,e2,e3,e8,e9,e10]) ?_
   clear e0 e1 e2 e3 e8 e9 e10
   rintro env τ' ⟨e0,e1,e2,e3,e8,e9,e10,rfl,h0⟩
   refine Cx (fun env τ'=>∃(l':Nat) (E:Array α),env 0=v/\env 1=gi x/\env 2=gi y/\env 3=gi l'/\env 8= .bool wb/\env 9= .bool wp/\env 10=gi h/\l'<=l/\τ.length<=τ'.length/\Holds S.e σ0 τ' rs k v E/\PermIn x y D E) (fun Y hY=>by
    cases hwb:wb with
    |true=>
     rw[hwb] at e8
     simp +contextual (disch:=omega) only[go_sem,e0,e1,e2,e3,e8,e9,e10]
     refine hY _ _ ⟨l,D,?_,?_,?_,?_,?_,?_,?_,Zaa _,Zaa _,hH,permIn_refl _ _ _⟩
     all_goals simp +contextual (disch:=omega) only[go_sem,e0,e1,e2,e3,e8,e9,e10,hwb]
    |false=>
     rw[hwb] at e8
     simp +contextual (disch:=omega) only[go_sem,e0,e1,e2,e3,e8,e9,e10]
     obtain⟨E,τ1,R,H1,p1⟩:=break_ret S hH (a:=x) (b:=y) hxy (by omega) (by omega)
     refine Ao R ?_
     have l1:(l:Int) - 1=((l - 1:Nat):Int):=by omega
     simp +contextual (disch:=omega) only[go_sem,e0,e1,e2,e3,e8,e9,e10]
     refine hY _ _ ⟨l - 1,E,?_,?_,?_,?_,?_,?_,?_,by omega,R.2.1,H1,p1⟩
     all_goals simp +contextual (disch:=omega) only[go_sem,e0,e1,e2,e3,e8,e9,e10,l1,hwb]) ?_
   clear e0 e1 e2 e3 e8 e9 e10
   rintro env τ1 ⟨l1,D1,e0,e1,e2,e3,e8,e9,e10,hl1,hle1,hH1,hP1⟩
   have hD1:D1.size=D.size:=hP1.1
   refine Cx (fun env τ'=>∃(p q:Nat),env 0=v/\env 1=gi x/\env 2=gi y/\env 3=gi l1/\env 8= .bool wb/\env 9= .bool wp/\env 10=gi h/\env 11=gi p/\env 12=gi q/\τ1.length<=τ'.length/\Holds S.e σ0 τ' rs k v D1/\x<=p/\p<y/\q<=2) (fun Y hY=>by
    simp +contextual (disch:=omega) only[go_sem,e0,e1,e2,e3,e8,e9,e10]
    obtain⟨p,q,τ2,R,H2,g1,g2,g3⟩:=choose_ret S hH1 (a:=x) (b:=y) (by omega) (by omega) (by omega)
    refine Ao R ?_
    simp +contextual (disch:=omega) only[go_sem,e0,e1,e2,e3,e8,e9,e10]
    refine hY _ _ ⟨p,q,?_,?_,?_,?_,?_,?_,?_,?_,?_,R.2.1,H2,g1,g2,g3⟩
    all_goals simp +contextual (disch:=omega) only[go_sem,e0,e1,e2,e3,e8,e9,e10]) ?_
   clear e0 e1 e2 e3 e8 e9 e10 hH hH1
   rintro env τ2 ⟨p0,q0,e0,e1,e2,e3,e8,e9,e10,e11,e12,hle2,hH2,g1,g2,g3⟩
   refine Cx (fun env τ'=>∃(p q:Nat) (E:Array α),env 0=v/\env 1=gi x/\env 2=gi y/\env 3=gi l1/\env 8= .bool wb/\env 9= .bool wp/\env 10=gi h/\env 11=gi p/\env 12=gi q/\τ2.length<=τ'.length/\Holds S.e σ0 τ' rs k v E/\x<=p/\p<y/\PermIn x y D1 E) (fun Y hY=>by
    by_cases hq:q0=2
    ·have c0:((q0:Int)==2)=true:=by simp[hq]
     simp +contextual (disch:=omega) only[go_sem,e0,e1,e2,e3,e8,e9,e10,e11,e12,c0]
     obtain⟨τ3,R,H3⟩:=rev_ret S hH2 (a:=x) (b:=y) (by omega) (by omega) (by omega)
     refine Ao R ?_
     have r1:(y:Int) - 1 - ((p0:Int) - x)=((y - 1 - (p0 - x):Nat):Int):=by omega
     simp +contextual (disch:=omega) only[go_sem,e0,e1,e2,e3,e8,e9,e10,e11,e12,r1]
     refine hY _ _ ⟨y - 1 - (p0 - x),1,_,?_,?_,?_,?_,?_,?_,?_,?_,?_,R.2.1,H3,by omega,by omega,reverseRange_holds D1 x y hxy (by omega)⟩
     all_goals simp +contextual (disch:=omega) only[go_sem,e0,e1,e2,e3,e8,e9,e10,e11,Int.natCast_one]
    ·have c0:((q0:Int)==2)=false:=by simp;omega
     simp +contextual (disch:=omega) only[go_sem,e0,e1,e2,e3,e8,e9,e10,e11,e12,c0]
     refine hY _ _ ⟨p0,q0,D1,?_,?_,?_,?_,?_,?_,?_,?_,?_,Zaa _,hH2,g1,g2,permIn_refl _ _ _⟩
     all_goals simp +contextual (disch:=omega) only[go_sem,e0,e1,e2,e3,e8,e9,e10,e11,e12]) ?_
   clear e0 e1 e2 e3 e8 e9 e10 e11 e12 hH2 g1 g2 g3
   rintro env τ3 ⟨p,q,D2,e0,e1,e2,e3,e8,e9,e10,e11,e12,hle3,hH3,g1,g2,hP2⟩
   have hD2:D2.size=D1.size:=hP2.1
   have hP02:=permIn_trans _ _ _ _ _ hP1 hP2
   have B2:Below lt x y D2:=hB.perm (by omega) hP02
   refine Cx (fun env τ'=>∃(E:Array α),env 0=v/\env 1=gi x/\env 2=gi y/\env 3=gi l1/\env 8= .bool wb/\env 9= .bool wp/\env 10=gi h/\env 11=gi p/\τ3.length<=τ'.length/\Holds S.e σ0 τ' rs k v E/\PermIn x y D2 E) (fun Y hY=>by
    have stay:∀ env',env' 0=v->env' 1=gi x->env' 2=gi y->env' 3=gi l1->env' 8= .bool wb->env' 9= .bool wp->env' 10=gi h->env' 11=gi p->Y env' τ3:=fun env' a0 a1 a2 a3 a8 a9 a10 a11=>hY _ _ ⟨D2,a0,a1,a2,a3,a8,a9,a10,a11,Zaa _,hH3,permIn_refl _ _ _⟩
    cases hwb:wb with
    |false=>
     rw[hwb] at e8
     simp +contextual (disch:=omega) only[go_sem,e0,e1,e2,e3,e8,e9,e10,e11,e12]
     refine stay _ ?_ ?_ ?_ ?_ ?_ ?_ ?_ ?_
     all_goals simp +contextual (disch:=omega) only[go_sem,e0,e1,e2,e3,e8,e9,e10,e11,e12,hwb]
    |true=>
     rw[hwb] at e8
     cases hwp:wp with
     |false=>
      rw[hwp] at e9
      simp +contextual (disch:=omega) only[go_sem,e0,e1,e2,e3,e8,e9,e10,e11,e12]
      refine stay _ ?_ ?_ ?_ ?_ ?_ ?_ ?_ ?_
      all_goals simp +contextual (disch:=omega) only[go_sem,e0,e1,e2,e3,e8,e9,e10,e11,e12,hwb,hwp]
     |true=>
      rw[hwp] at e9
      by_cases hq:q=1
      ·have c0:((q:Int)==1)=true:=by simp[hq]
       simp +contextual (disch:=omega) only[go_sem,e0,e1,e2,e3,e8,e9,e10,e11,e12,c0]
       obtain⟨τ4,R,H4⟩:=pis_ret S hH3 (a:=x) (b:=y) (by omega) (by omega) (by omega)
       obtain⟨p1,p2⟩:=partialInsertionSort_holds hS D2 x y (by omega) (by omega) B2
       have:=R.2.1
       refine Ao R ?_
       cases hr:(partialInsertionSort lt D2 x y).2 with
       |true=>
        simp +contextual (disch:=omega) only[go_sem]
        exact⟨_,rfl,by omega,_,rfl,H4,hfin _ (permIn_trans _ _ _ _ _ hP02 p1) (p2 hr)⟩
       |false=>
        simp +contextual (disch:=omega) only[go_sem,e0,e1,e2,e3,e8,e9,e10,e11,e12]
        refine hY _ _ ⟨_,?_,?_,?_,?_,?_,?_,?_,?_,R.2.1,H4,p1⟩
        all_goals simp +contextual (disch:=omega) only[go_sem,e0,e1,e2,e3,e8,e9,e10,e11,e12,hwb,hwp]
      ·have c0:((q:Int)==1)=false:=by simp;omega
       simp +contextual (disch:=omega) only[go_sem,e0,e1,e2,e3,e8,e9,e10,e11,e12,c0]
       refine stay _ ?_ ?_ ?_ ?_ ?_ ?_ ?_ ?_
       all_goals simp +contextual (disch:=omega) only[go_sem,e0,e1,e2,e3,e8,e9,e10,e11,e12,hwb,hwp]) ?_
   clear e0 e1 e2 e3 e8 e9 e10 e11 e12 hH3
   rintro env τ4 ⟨D3,e0,e1,e2,e3,e8,e9,e10,e11,hle4,hH4,hP3⟩
   have hD3:D3.size=D2.size:=hP3.1
   have hP03:=permIn_trans _ _ _ _ _ hP02 hP3
   have B3:Below lt x y D3:=B2.perm (by omega) hP3
   refine Cx (fun env τ'=>env 0=v/\env 1=gi x/\env 2=gi y/\env 3=gi l1/\env 8= .bool wb/\env 9= .bool wp/\env 10=gi h/\env 11=gi p/\τ4=τ') (fun Y hY=>by
    rcases Nat.eq_zero_or_pos x with hx|hx
    ·have c0:decide ((0:Int)<x)=false:=by simp;omega
     simp +contextual (disch:=omega) only[go_sem,e0,e1,e2,e3,e8,e9,e10,e11,c0]
     refine hY _ _ ⟨?_,?_,?_,?_,?_,?_,?_,?_,rfl⟩
     all_goals simp +contextual (disch:=omega) only[go_sem,e0,e1,e2,e3,e8,e9,e10,e11]
    ·have c0:decide ((0:Int)<x)=true:=by simp;omega
     have x1:(x:Int) - 1=((x - 1:Nat):Int):=by omega
     simp +contextual (disch:=omega) only[go_sem,e0,e1,e2,e3,e8,e9,e10,e11,c0,x1,A0,hH4.iad (j:=x - 1) (by omega),hH4.ld (j:=x - 1) (by omega),hH4.iad (j:=p) (by omega),hH4.ld (j:=p) (by omega)]
     refine Af (S.call _ _ _) ?_
     cases hlt:lt D3[x - 1]! D3[p]! with
     |true=>
      simp +contextual (disch:=omega) only[go_sem,e0,e1,e2,e3,e8,e9,e10,e11,c0,hlt]
      refine hY _ _ ⟨?_,?_,?_,?_,?_,?_,?_,?_,rfl⟩
      all_goals simp +contextual (disch:=omega) only[go_sem,e0,e1,e2,e3,e8,e9,e10,e11]
     |false=>
      simp +contextual (disch:=omega) only[go_sem,e0,e1,e2,e3,e8,e9,e10,e11,c0,hlt]
      obtain⟨τ5,R,H5⟩:=pe_ret S hH4 (a:=x) (b:=y) (p:=p) (by omega) g2 (by omega) (by omega)
      have:=R.2.1
      refine Ao R ?_
      obtain⟨mid,D4,hX⟩:∃ m D4,partitionEqual lt D3 x y p=(m,D4):=⟨_,_,rfl⟩
      rw[hX] at H5
      rw[hX]
      obtain⟨k1,k2,k3,k4,k5⟩:=round_eq hS (partitionEqual_holds lt) hx g1 g2 (by omega) B3 hlt hX
      simp +contextual (disch:=omega) only[go_sem,e0,e1,e2,e3,e8,e9,e10,e11]
      refine⟨y - mid,by omega,hJ _ _ _ ⟨mid,y,l1,wb,wp,D4,?_,?_,?_,?_,?_,?_,rfl,by omega,by omega,k2,hyb,by omega,by omega,H5,k4,fun R h1 h2=> ?_⟩⟩
      all_goals first|(simp +contextual (disch:=omega) only[go_sem,e0,e1,e2,e3,e8,e9,e10,e11];done)|skip
      obtain⟨m1,m2⟩:=k5 R h1 h2
      exact hfin R (permIn_trans _ _ _ _ _ hP03 m1) m2) ?_
   clear e0 e1 e2 e3 e8 e9 e10 e11
   rintro env τ' ⟨e0,e1,e2,e3,e8,e9,e10,e11,rfl⟩
   obtain⟨τ5,R5,H5⟩:=part_ret S hH4 (a:=x) (b:=y) (p:=p) (by omega) g2 (by omega) (by omega)
   have hle5:=R5.2.1
   obtain⟨mid,ap,D4,hX⟩:∃ m ap D4,partition lt D3 x y p=(m,ap,D4):=⟨_,_,_,rfl⟩
   rw[hX] at H5 R5
   obtain⟨k1,k2,k3,k4,k5,k6,k7⟩:=round_part hS (partition_holds lt) g1 g2 (by omega) B3 hX
   simp +contextual (disch:=omega) only[go_sem,e0,e1,e2,e3,e8,e9,e10,e11]
   refine Ao R5 ?_
   obtain⟨q8,hq8⟩:∃ q,q=h / 8:=⟨_,rfl⟩
   have hqI:(h:Int).tdiv 8=q8:=by rw[hq8];rfl
   have m1:(mid:Int) - x=((mid - x:Nat):Int):=by omega
   have m2:(y:Int) - mid=((y - mid:Nat):Int):=by omega
   by_cases hlr:mid - x<y - mid
   ·have c0:decide (((mid - x:Nat):Int)<((y - mid:Nat):Int))=true:=by simp;omega
    simp +contextual (disch:=omega) only[go_sem,e0,e1,e2,e3,e8,e9,e10,e11,hqI,m1,m2,c0]
    obtain⟨L,τ6,R6,H6,p1,p2⟩:=ih D4 x mid l1 τ5 (by omega) k1 (by omega) (by omega) (by omega) k4 H5
    have hle6:=R6.2.1
    refine Ao R6 ?_
    obtain⟨k8,k9⟩:=k6 L p1 p2
    have hL:L.size=D4.size:=p1.1
    simp +contextual (disch:=omega) only[go_sem,e0,e1,e2,e3,e8,e9,e10,e11]
    refine⟨y - (mid+1),by omega,hJ _ _ _ ⟨mid+1,y,l1,decide ((q8:Int)<=((mid - x:Nat):Int)),ap,L,?_,?_,?_,?_,?_,?_,rfl,by omega,by omega,by omega,hyb,by omega,by omega,H6,k8,fun R h1 h2=> ?_⟩⟩
    all_goals first|(simp +contextual (disch:=omega) only[go_sem,e0,e1,e2,e3,e8,e9,e10,e11];done)|skip
    obtain⟨n1,n2⟩:=k9 R h1 h2
    exact hfin R (permIn_trans _ _ _ _ _ hP03 n1) n2
   ·have c0:decide (((mid - x:Nat):Int)<((y - mid:Nat):Int))=false:=by simp;omega
    simp +contextual (disch:=omega) only[go_sem,e0,e1,e2,e3,e8,e9,e10,e11,hqI,m1,m2,c0]
    obtain⟨L,τ6,R6,H6,p1,p2⟩:=ih D4 (mid+1) y l1 τ5 (by omega) (by omega) (by omega) (by omega) (by omega) k5 H5
    have hle6:=R6.2.1
    refine Ao R6 ?_
    obtain⟨k8,k9⟩:=k7 L p1 p2
    have hL:L.size=D4.size:=p1.1
    simp +contextual (disch:=omega) only[go_sem,e0,e1,e2,e3,e8,e9,e10,e11]
    refine⟨mid - x,by omega,hJ _ _ _ ⟨x,mid,l1,decide ((q8:Int)<=((y - mid:Nat):Int)),ap,L,?_,?_,?_,?_,?_,?_,rfl,by omega,by omega,by omega,by omega,by omega,by omega,H6,k8,fun R h1 h2=> ?_⟩⟩
    all_goals first|(simp +contextual (disch:=omega) only[go_sem,e0,e1,e2,e3,e8,e9,e10,e11];done)|skip
    obtain⟨n1,n2⟩:=k9 R h1 h2
    exact hfin R (permIn_trans _ _ _ _ _ hP03 n1) n2
  obtain⟨r,τ,R,d',rfl,h⟩:=key
  exact⟨d',τ,R,h⟩
end O
namespace O
open Go Go.RowKit Go.Proofs.YtbeoiejnogdkpaaGreat.Sy Go.Sort
variable {α:Type} [Inhabited α] {lt:α->α->Bool} {σ0 σ:St} {rs:List Thg} {v:GV}
theorem sorted_of {d d':Array α} (h:PermIn 0 d.size d d') (h4:SortedIn lt 0 d.size d'):d'.toList.Perm d.toList/\Up lt d'.toList:=by
 obtain⟨h1,h2,h3⟩:=h
 constructor
 ·have e1:d'.extract 0 d.size=d':=by rw[<- h1];simp
  have e2:d.extract 0 d.size=d:=by simp
  rw[e1,e2] at h3
  exact h3
 ·rw[Up,List.pairwise_iff_getElem]
  intro i j hi hj hij
  simp only[Array.length_toList] at hi hj
  have:=h4 i j (Nat.zero_le _) hij (by omega)
  rw[getElem!_pos d' j hj,getElem!_pos d' i hi] at this
  simpa using this
theorem sort_ret (S:SrtO α lt) (hS:SWO lt) {l:List α} (H:Hp σ0 σ rs) (k:Nat) (hk:rs[k]? =some (ow S.e.p.kd v l)) (hl:l.length<=1099511627776) (htri:∀ x∈l,∀ y∈l,lt x y=false->lt y x=false->x=y):∃ τ,Ret Tryz.prog S.nS [v] σ (.tup []) τ/\Hp σ0 τ (rs.set k (ow S.e.p.kd v (Az lt l))):=by
 have key:∃ r τ,Ret Tryz.prog S.nS [v] σ r τ/\r= .tup []/\Hp σ0 τ (rs.set k (ow S.e.p.kd v (Az lt l))):=by
  refine Bc S.h_Sort (Z0z rfl) ?_
  have hlen:=(H.sl k hk).len
  have wu:IntKind.u64.wrap (l.length:Int)=l.length:=Kh (by omega) (by omega)
  simp +contextual (disch:=omega) only[go_sem,Aae,hlen,wu]
  refine Af (O7 σ l.length hl) ?_
  simp +contextual (disch:=omega) only[go_sem]
  have HH:Holds S.e σ0 σ rs k v l.toArray:=Holds.of H (by simpa using hk)
  have hb:=A8n hl
  obtain⟨d',τ,R,H1,p1,p2⟩:=pdq_ret S hS l.length l.toArray 0 l.length (bitsLen l.length) σ (by omega) (by omega) (by simp) (by simpa using hl) (by omega) (.inl rfl) HH
  have hz:((0:Nat):Int)=0:=rfl
  rw[hz] at R
  refine Ao R ?_
  simp +contextual (disch:=omega) only[go_sem]
  have hsz:l.length=l.toArray.size:=by simp
  rw[hsz] at p1 p2
  obtain⟨q1,q2⟩:=sorted_of p1 p2
  have hE:d'.toList=Az lt l:=O3 hS htri (by simpa using q1) q2
  exact⟨_,rfl,R.2.1,rfl,by rw[<- hE];exact H1.2⟩
 obtain⟨r,τ,R,rfl,h⟩:=key
 exact⟨τ,R,h⟩
end O
abbrev Jf:Nat:=355
def Nn:Fn1:=⟨17,[.t 4],(rg [oV 4 kf] (rg [oM 5 0,oC 6 230 5,oM 7 6,jM 8 7 1,jC 9 7 230 8,jU 10 7 9,oQ 11 7 10,oM 12 11,vM 13 12 0,vM 14 12 1,vB 15 12 .lss 13 14,oP 16 12 15,oM 4 16] .ret))⟩
theorem Yu:A6 Tryz.prog Jf=some Nn:=by kernel_rfl
abbrev Gr:Nat:=192
abbrev F7:Nat:=193
abbrev I8:Nat:=283
abbrev Fs:Nat:=349
abbrev Hi:Nat:=384
abbrev Hj:Nat:=350
abbrev Fw:Nat:=353
abbrev Du:Nat:=354
abbrev Fa:Nat:=356
abbrev Gt:Nat:=357
abbrev Ft:Nat:=351
abbrev I9:Nat:=404
abbrev Ia:Nat:=388
abbrev Fb:Nat:=387
abbrev Gi:Nat:=352
def elI:El Int:=⟨pI,false,gi,fun _=>rfl,fun _=>rfl,by decide⟩
theorem Us (σ:St) (a b:Int):Ret Tryz.prog Jf [gi a,gi b] σ (.bool (ltI a b)) σ:=by
 refine Ar Yu (Z0z rfl) trivial ?_
 simp +contextual (disch:=omega) only[go_sem,Nn]
 refine Af (Ga σ a) ?_
 simp +contextual (disch:=omega) only[go_sem,ltI]
def qI:SN:=⟨Fs,Hi,Hj,Fw,Du,Fa,Gt,Ft,I9,Ia,Fb,Gi,I8,Jf,Be,B7⟩
def srtI:SrtO Int ltI where
 e:=elI
 q:=qI
 call:=Us
 h_insertionSort:=by kernel_rfl
 h_siftDown:=by kernel_rfl
 h_heapSort:=by kernel_rfl
 h_reverseRange:=by kernel_rfl
 h_partialInsertionSort:=by kernel_rfl
 h_partitionEqual:=by kernel_rfl
 h_partition:=by kernel_rfl
 h_breakPatterns:=by kernel_rfl
 h_order2:=by kernel_rfl
 h_median:=by kernel_rfl
 h_medianAdjacent:=by kernel_rfl
 h_choosePivot:=by kernel_rfl
 h_pdqsort:=by kernel_rfl
 nS:=Gr
 h_Sort:=by kernel_rfl
 hnp:=rfl
 hxs:=rfl
theorem Ou {σ0 σ:St} {rs:List Thg} {v:GV} {l:List Int} (H:Hp σ0 σ rs) (k:Nat) (hk:rs[k]? =some (ow pI.kd v l)) (hl:l.length<=1099511627776):∃ τ,Ret Tryz.prog Gr [v] σ (.tup []) τ/\Hp σ0 τ (rs.set k (ow pI.kd v (Az ltI l))):=
 O.sort_ret srtI A8j H k hk hl fun x _ y _=>Adc x y
abbrev Yv:Nat:=207
def Yw:Fn1:=⟨46,[.t 8],(rg [oX 4 0,o 8 (.mov (.k .nilS))] (rg [o 12 (.lit 6 0 [] []),oM 9 12] (.seq (rg [oV 10 (ki 0)] (.blk 0 (.lop (.seq (rg [oM 13 10,oF 14 2 4,oL 15 14,oN 16 15,oB 17 .lss 13 16] (cn 17 .skip (.ext 0))) (.seq (.blk 1 (rg [oF 20 2 4,oL 21 20,oM 22 10,oI 23 6 21 22,oW 24 6 23,o 11 (.new [(.bool false),s0,s0,z0,z0,z0]),oS 6 11 24] (rg [oF 25 0 11,oL 26 25,oM 27 1,o 28 (.eqb false (.t 26) (.t 27)),oM 29 28,jF 30 29 1 11,jL 31 29 30,jM 32 29 2,jB 33 29 .eql 31 32,oQ 34 29 33,oM 35 34,jF 36 35 2 11,jL 37 35 36,jM 38 35 3,jB 39 35 .eql 37 38,oQ 40 35 39] (cn 40 (.reg [oM 41 9,oW 42 6 11,o 43 (.lit 6 1 [(.bool false),s0,s0,z0,z0,z0] [(0,6,(.t 42))]),o 44 (.app 6 64 [(.bool false),s0,s0,z0,z0,z0] (.t 41) (.t 43)),oM 9 44]) .skip)))) (.reg [oM 18 10,oZ 19 18 1,oM 10 19])))))) (rg [oM 45 9,oM 8 45] .ret))))⟩
theorem A78:A6 Tryz.prog Yv=some Yw:=by kernel_rfl
abbrev Yx:Nat:=191
def Yy:Fn1:=⟨42,[.t 8],(rg [oX 4 0,o 8 (.mov (.k .nilS))] (rg [o 12 (.lit 6 0 [] []),oM 9 12] (.seq (rg [oF 13 2 4,oL 14 13,oN 15 14,oV 16 (ki 0)] (.blk 0 (.lop (rg [oB 17 .lss 16 15] (.seq (cn 17 .skip (.ext 0)) (.seq (.blk 1 (rg [oI 18 6 14 16,oW 19 6 18,o 11 (.new [(.bool false),s0,s0,z0,z0,z0]),oS 6 11 19] (rg [oF 20 0 11,oL 21 20,oM 22 1,o 23 (.eqb false (.t 21) (.t 22)),oM 24 23,jF 25 24 1 11,jL 26 24 25,jM 27 24 2,jB 28 24 .eql 26 27,oQ 29 24 28,oM 30 29,jF 31 30 2 11,jL 32 30 31,jM 33 30 3,jB 34 30 .eql 32 33,oQ 35 30 34] (cn 35 (.reg [oM 36 9,oW 37 6 11,o 38 (.lit 6 1 [(.bool false),s0,s0,z0,z0,z0] [(0,6,(.t 37))]),o 39 (.app 6 64 [(.bool false),s0,s0,z0,z0,z0] (.t 36) (.t 38)),oM 9 39]) .skip)))) (.reg [oZ 40 16 1,oM 16 40]))))))) (rg [oM 41 9,oM 8 41] .ret))))⟩
theorem A79:A6 Tryz.prog Yx=some Yy:=by kernel_rfl
theorem A7a {l:List Live} {m:Bool} {o k:ByteArray} {i:Nat} (hi:i<l.length):(l.take (i+1)).filter (De m o k)=if De m o k l[i] then(l.take i).filter (De m o k)++[l[i]] else(l.take i).filter (De m o k):=by
 rw[Gq hi]
 split<;>simp
theorem A3x (σ:St) (cs:List GV) (s:State) (hR:A5.R σ s cs) (m:Bool) (o k:ByteArray) (hl:Aa s<=1099511627776):
  ∃ r τ,Ret Tryz.prog Yv [.agg cs,.bool m,.str o,.str k] σ r τ/\Hp σ τ [ow As.kd r (Kf s m o k)]:=by
 obtain⟨a,b,c,v,rfl,_,_,hv,_⟩:=hR
 obtain⟨l1,l2,l3,l4,_⟩:=Av hl
 refine Ea A78 (Z0z rfl) ?_
 have H:=((Hp.refl σ).new 1 [a,b,c,v]).nil_Live
 simp +contextual (disch:=omega) only[go_sem,Yw]
 generalize hb:σ.length=n1 at*
 refine Jx s.lives.length 10 (fun i env τ=>env 1= .bool m/\env 2= .str o/\env 3= .str k/\env 4= .ptr n1 0/\∃ w,env 9=w/\Hp σ τ [ow As.kd w ((s.lives.take i).filter (De m o k)),pt 1 n1 [a,b,c,v]]) rfl ⟨rfl,rfl,rfl,rfl,_,rfl,H⟩ ?_ ?_
 ·rintro J hJ i env τ hi e10 c0 ⟨e1,e2,e3,e4,w,e9,H⟩
  have hfl:=Zab (De m o k) (s.lives.take i)
  rw[Zah] at hfl
  have C1:=A7 (hv.pre H.sub) hi
  have G:=H.grow (pre1 τ (some (Blk.row 1 [.bool s.lives[i].map,.str s.lives[i].obj,.str s.lives[i].key,gi s.lives[i].val,gi s.lives[i].dot.rep,gi s.lives[i].dot.seq])))
  have hfs:=A7a (m:=m) (o:=o) (k:=k) hi
  cases hm:(s.lives[i].map==m) with
  |false=>
   have hk0:De m o k s.lives[i]=false:=by simp[De,hm]
   rw[if_neg (by simp[hk0])] at hfs
   simp +contextual (disch:=omega) only[go_sem,c0,e1,e2,e3,e4,e9,e10,C1,A9 (H.pt 1 rfl),hv.len,hm,Zac]
   refine hJ _ _ _ ⟨?_,?_,?_,?_,w,?_,by rw[hfs];exact G⟩
   all_goals simp +contextual (disch:=omega) only[go_sem,e1,e2,e3,e4,e9,e10]
  |true=>
   cases ho:decide (s.lives[i].obj=o) with
   |false=>
    have hk0:De m o k s.lives[i]=false:=by simp[De,hm,ho]
    rw[if_neg (by simp[hk0])] at hfs
    simp +contextual (disch:=omega) only[go_sem,c0,e1,e2,e3,e4,e9,e10,C1,A9 (H.pt 1 rfl),hv.len,hm,ho,Zac]
    refine hJ _ _ _ ⟨?_,?_,?_,?_,w,?_,by rw[hfs];exact G⟩
    all_goals simp +contextual (disch:=omega) only[go_sem,e1,e2,e3,e4,e9,e10]
   |true=>
    cases hk:decide (s.lives[i].key=k) with
    |false=>
     have hk0:De m o k s.lives[i]=false:=by simp[De,hm,ho,hk]
     rw[if_neg (by simp[hk0])] at hfs
     simp +contextual (disch:=omega) only[go_sem,c0,e1,e2,e3,e4,e9,e10,C1,A9 (H.pt 1 rfl),hv.len,hm,ho,hk,Zac]
     refine hJ _ _ _ ⟨?_,?_,?_,?_,w,?_,by rw[hfs];exact G⟩
     all_goals simp +contextual (disch:=omega) only[go_sem,e1,e2,e3,e4,e9,e10]
    |true=>
     have hk0:De m o k s.lives[i]=true:=by simp[De,hm,ho,hk]
     rw[if_pos hk0] at hfs
     obtain⟨w',τ3,e5,H3⟩:=G.app_Live 0 rfl s.lives[i] (by omega)
     simp +contextual (disch:=omega) only[go_sem,c0,e1,e2,e3,e4,e9,e10,C1,A9 (H.pt 1 rfl),hv.len,hm,ho,hk,Zac,e5]
     refine hJ _ _ _ ⟨?_,?_,?_,?_,w',?_,by rw[hfs];exact H3⟩
     all_goals simp +contextual (disch:=omega) only[go_sem,e1,e2,e3,e4,e9,e10]
 ·rintro env τ e10 c0 ⟨e1,e2,e3,e4,w,e9,H⟩
  rw[Zaf] at H
  simp +contextual (disch:=omega) only[go_sem,c0,e1,e2,e3,e4,e9,e10,A9 (H.pt 1 rfl),hv.len]
  exact⟨_,rfl,H.one⟩
theorem A3y (σ:St) (cs:List GV) (s:State) (hR:A5.R σ s cs) (m:Bool) (o k:ByteArray) (hl:Aa s<=1099511627776):
  ∃ r τ,Ret Tryz.prog Yx [.agg cs,.bool m,.str o,.str k] σ r τ/\Hp σ τ [ow As.kd r (Kf s m o k)]:=by
 obtain⟨a,b,c,v,rfl,_,_,hv,_⟩:=hR
 obtain⟨l1,l2,l3,l4,_⟩:=Av hl
 refine Ea A79 (Z0z rfl) ?_
 have H:=((Hp.refl σ).new 1 [a,b,c,v]).nil_Live
 simp +contextual (disch:=omega) only[go_sem,Yy,hv.len]
 generalize hb:σ.length=n1 at*
 refine Jx s.lives.length 16 (fun i env τ=>env 1= .bool m/\env 2= .str o/\env 3= .str k/\env 14=c/\env 15=gi s.lives.length/\∃ w,env 9=w/\Hp σ τ [ow As.kd w ((s.lives.take i).filter (De m o k)),pt 1 n1 [a,b,c,v]]) rfl ⟨rfl,rfl,rfl,rfl,rfl,_,rfl,H⟩ ?_ ?_
 ·rintro J hJ i env τ hi e10 c0 ⟨e1,e2,e3,e4,e15,w,e9,H⟩
  have hfl:=Zab (De m o k) (s.lives.take i)
  rw[Zah] at hfl
  have C1:=A7 (hv.pre H.sub) hi
  have G:=H.grow (pre1 τ (some (Blk.row 1 [.bool s.lives[i].map,.str s.lives[i].obj,.str s.lives[i].key,gi s.lives[i].val,gi s.lives[i].dot.rep,gi s.lives[i].dot.seq])))
  have hfs:=A7a (m:=m) (o:=o) (k:=k) hi
  cases hm:(s.lives[i].map==m) with
  |false=>
   have hk0:De m o k s.lives[i]=false:=by simp[De,hm]
   rw[if_neg (by simp[hk0])] at hfs
   simp +contextual (disch:=omega) only[go_sem,c0,e1,e2,e3,e4,e15,e9,e10,C1,hm,Zac]
   refine hJ _ _ _ ⟨?_,?_,?_,?_,?_,w,?_,by rw[hfs];exact G⟩
   all_goals simp +contextual (disch:=omega) only[go_sem,e1,e2,e3,e4,e15,e9,e10]
  |true=>
   cases ho:decide (s.lives[i].obj=o) with
   |false=>
    have hk0:De m o k s.lives[i]=false:=by simp[De,hm,ho]
    rw[if_neg (by simp[hk0])] at hfs
    simp +contextual (disch:=omega) only[go_sem,c0,e1,e2,e3,e4,e15,e9,e10,C1,hm,ho,Zac]
    refine hJ _ _ _ ⟨?_,?_,?_,?_,?_,w,?_,by rw[hfs];exact G⟩
    all_goals simp +contextual (disch:=omega) only[go_sem,e1,e2,e3,e4,e15,e9,e10]
   |true=>
    cases hk:decide (s.lives[i].key=k) with
    |false=>
     have hk0:De m o k s.lives[i]=false:=by simp[De,hm,ho,hk]
     rw[if_neg (by simp[hk0])] at hfs
     simp +contextual (disch:=omega) only[go_sem,c0,e1,e2,e3,e4,e15,e9,e10,C1,hm,ho,hk,Zac]
     refine hJ _ _ _ ⟨?_,?_,?_,?_,?_,w,?_,by rw[hfs];exact G⟩
     all_goals simp +contextual (disch:=omega) only[go_sem,e1,e2,e3,e4,e15,e9,e10]
    |true=>
     have hk0:De m o k s.lives[i]=true:=by simp[De,hm,ho,hk]
     rw[if_pos hk0] at hfs
     obtain⟨w',τ3,e5,H3⟩:=G.app_Live 0 rfl s.lives[i] (by omega)
     simp +contextual (disch:=omega) only[go_sem,c0,e1,e2,e3,e4,e15,e9,e10,C1,hm,ho,hk,Zac,e5]
     refine hJ _ _ _ ⟨?_,?_,?_,?_,?_,w',?_,by rw[hfs];exact H3⟩
     all_goals simp +contextual (disch:=omega) only[go_sem,e1,e2,e3,e4,e15,e9,e10]
 ·rintro env τ e10 c0 ⟨e1,e2,e3,e4,e15,w,e9,H⟩
  rw[Zaf] at H
  simp +contextual (disch:=omega) only[go_sem,c0,e1,e2,e3,e4,e15,e9,e10]
  exact⟨_,rfl,H.one⟩
abbrev No:Nat:=77
def Np:Fn1:=⟨73,[.t 8],(rg [oX 4 0,o 8 (.mov (.k .nilS))] (rg [o 16 (.lit 1 0 [] []),oM 9 16] (rg [oW 17 4 4,oM 18 1,oM 19 2,oM 20 3,o 21 (.call 207 [(.t 17),(.t 18),(.t 19),(.t 20)]),oM 10 21] (.seq (rg [oV 11 (ki 0)] (.blk 0 (.lop (.seq (rg [oM 22 11,oM 23 10,oN 24 23,oB 25 .lss 22 24] (cn 25 .skip (.ext 0))) (.seq (.blk 1 (rg [oM 28 10,oM 29 11,oI 30 6 28 29,oF 31 4 30,oF 32 0 31,oL 33 32,oM 12 33] (.seq (rg [oM 34 9,oM 35 12,oD 36 208 34 35] (cn 36 (.ext 1) .skip)) (rg [o 37 (.lit 1 0 [] []),oM 13 37] (rg [oV 14 kf] (.seq (rg [oV 15 (ki 0)] (.blk 2 (.lop (.seq (rg [oM 38 15,oM 39 9,oN 40 39,oB 41 .lss 38 40] (cn 41 .skip (.ext 2))) (.seq (.blk 3 (.seq (rg [oM 44 14,oU 45 44,oM 46 45,jM 47 46 12,jM 48 46 9,jM 49 46 15,jI 50 46 1 48 49,jL 51 46 50,jB 52 46 .lss 47 51,oQ 53 46 52] (cn 53 (rg [oM 54 13,oM 55 12,o 56 (.lit 1 1 [z0] [(0,1,(.t 55))]),o 57 (.app 1 8 [z0] (.t 54) (.t 56)),oM 13 57] (.reg [oV 14 kt])) .skip)) (.reg [oM 58 13,oM 59 9,oM 60 15,oI 61 1 59 60,oL 62 61,o 63 (.lit 1 1 [z0] [(0,1,(.t 62))]),o 64 (.app 1 8 [z0] (.t 58) (.t 63)),oM 13 64]))) (.reg [oM 42 15,oZ 43 42 1,oM 15 43])))))) (.seq (rg [oM 65 14,oU 66 65] (cn 66 (.reg [oM 67 13,oM 68 12,o 69 (.lit 1 1 [z0] [(0,1,(.t 68))]),o 70 (.app 1 8 [z0] (.t 67) (.t 69)),oM 13 70]) .skip)) (.reg [oM 71 13,oM 9 71])))))))) (.reg [oM 26 11,oZ 27 26 1,oM 11 27])))))) (rg [oM 72 9,oM 8 72] .ret)))))⟩
theorem Yz:A6 Tryz.prog No=some Np:=by kernel_rfl
abbrev Nq:Nat:=67
def Nr:Fn1:=⟨34,[.t 8],(rg [oX 4 0,o 8 (.mov (.k .nilS))] (rg [o 12 (.lit 1 0 [] []),oM 9 12] (.seq (rg [oW 13 4 4,oM 14 1,oM 15 2,oM 16 3,o 17 (.call 191 [(.t 13),(.t 14),(.t 15),(.t 16)]),oN 18 17,oV 19 (ki 0)] (.blk 0 (.lop (rg [oB 20 .lss 19 18] (.seq (cn 20 .skip (.ext 0)) (.seq (.blk 1 (rg [oI 21 6 17 19,oW 22 6 21,o 11 (.new [(.bool false),s0,s0,z0,z0,z0]),oS 6 11 22] (.reg [oM 23 9,oF 24 4 11,oF 25 0 24,oL 26 25,o 27 (.lit 1 1 [z0] [(0,1,(.t 26))]),o 28 (.app 1 8 [z0] (.t 23) (.t 27)),oM 9 28]))) (.reg [oZ 29 19 1,oM 19 29]))))))) (rg [oM 30 9,oC 31 192 30] (rg [oM 32 9,oC 33 193 32,oM 8 33] .ret)))))⟩
theorem Z1:A6 Tryz.prog Nq=some Nr:=by kernel_rfl
abbrev A7b:Nat:=208
def A7c:Fn1:=⟨18,[.t 4],(rg [oV 4 kf] (.seq (rg [oV 5 (ki 0)] (.blk 0 (.lop (.seq (rg [oM 6 5,oM 7 0,oN 8 7,oB 9 .lss 6 8] (cn 9 .skip (.ext 0))) (.seq (.blk 1 (rg [oM 12 0,oM 13 5,oI 14 1 12 13,oL 15 14,oM 16 1,oB 17 .eql 15 16] (cn 17 (rg [oV 4 kt] .ret) .skip))) (.reg [oM 10 5,oZ 11 10 1,oM 5 11])))))) (rg [oV 4 kf] .ret)))⟩
theorem Ac6:A6 Tryz.prog A7b=some A7c:=by kernel_rfl
def eqI:Eqs elI:=⟨fun x y=>by
 show binG .eql (gi x) (gi y)=_
 simp only[Ahi]
 congr 2,fun x y=>by
 show binG .neq (gi x) (gi y)=_
 simp only[Ahj]
 congr 2,[.int .i64 0],rfl⟩
theorem Mi:A6 Tryz.prog F7=some (Pr elI.p.z elI.g eqI.ze):=by kernel_rfl
theorem Lg {σ0 σ:St} {rs:List Thg} {v:GV} {l:List Int} (H:Hp σ0 σ rs) (k:Nat) (hk:rs[k]? =some (ow pI.kd v l)) (hl:l.length<=1099511627776):∃ v' τ,Ret Tryz.prog F7 [v] σ v' τ/\Hp σ0 τ (rs.set k (ow pI.kd v' (Bp l))):=
 A8r eqI Mi H k hk hl
theorem A9s (σ:St) (v:GV) (l:List Int) (h:RS pI.kd σ v l) (x:Int) (hl:l.length<=1099511627776):Ret Tryz.prog A7b [v,gi x] σ (.bool (decide (x∈l))) σ:=by
 refine Ar Ac6 (Z0z rfl) trivial ?_
 simp +contextual (disch:=omega) only[go_sem,A7c]
 refine Ce l.length 5 (fun i env τ=>env 0=v/\env 1=gi x/\(∀ j (hj:j<i) (hl:j<l.length),l[j]≠x)/\σ <+: τ) rfl ⟨rfl,rfl,fun j hj=>by omega,List.prefix_refl _⟩ ?_ ?_
 ·rintro i env τ hi e5 c0 ⟨e0,e1,ha,hp⟩
  simp +contextual (disch:=omega) only[go_sem,c0,e0,e1,e5,(h.pre hp).len,Cc (h.pre hp) hi,hp]
  refine⟨fun hx=> ?_,fun hx j hj hl=> ?_⟩
  ·have hx:l[i]=x:=by simpa using hx
   have:x∈l:=hx ▸ Zam hi
   simp[this]
  ·rcases Zag j i with h2|h2
   ·exact ha j h2 hl
   ·have:j=i:=by omega
    subst this
    simpa using hx
 ·rintro env τ e5 c0 ⟨e0,e1,ha,hp⟩
  have hn:¬ x∈l:=fun hm=>by
   obtain⟨j,hj,he⟩:=List.getElem_of_mem hm
   exact ha j hj hj he
  simp +contextual (disch:=omega) only[go_sem,c0,e0,e1,e5,(h.pre hp).len,hp]
  simp[hn]
def Qg (x:Int) (acc nxt:List Int) (j:Nat) (put:Bool):Prop:=if put then nxt++acc.drop j=insB ltI x acc else nxt++insB ltI x (acc.drop j)=insB ltI x acc
theorem Z2 {x:Int} {acc nxt:List Int} {j:Nat} {put:Bool} (h:Qg x acc nxt j put):nxt.length<=acc.length+1:=by
 unfold Qg at h
 have:(insB ltI x acc).length=acc.length+1:=O2 ltI x acc
 split at h
 ·rw[<- this,<-h];simp
 ·rw[<- this,<-h];simp
theorem Aeh {x:Int} {acc nxt:List Int} {j:Nat} (h:Qg x acc nxt j false) (hj:j<acc.length) (hl:x<acc[j]):Qg x acc (nxt++[x]++[acc[j]]) (j+1) true:=by
 simp only[Qg,Zaj,if_false,if_true] at*
 rw[Zad hj,insB,if_pos (by simp[ltI,hl])] at h
 rw[<- h];simp
theorem A1t {x:Int} {acc nxt:List Int} {j:Nat} {put:Bool} (h:Qg x acc nxt j put) (hj:j<acc.length) (hl:put=true∨¬ x<acc[j]):Qg x acc (nxt++[acc[j]]) (j+1) put:=by
 cases put with
 |true=>
  simp only[Qg,if_true] at*
  rw[Zad hj] at h
  rw[<- h];simp
 |false=>
  have hl:¬ x<acc[j]:=hl.resolve_left (by intro h;cases h)
  simp only[Qg,Zaj,if_false] at h ⊢
  rw[Zad hj,insB,if_neg (by simp only[ltI,decide_eq_true_eq];exact hl)] at h
  rw[<- h];simp
theorem Aei {x:Int} {acc nxt:List Int} {put:Bool} (h:Qg x acc nxt acc.length put):(if put then nxt else nxt++[x])=insB ltI x acc:=by
 unfold Qg at h
 split
 ·rename_i hp;rw[if_pos hp] at h;simpa using h
 ·rename_i hp;rw[if_neg hp] at h;simpa [insB] using h
theorem Aej {l:List Live} {i:Nat} (hi:i<l.length):Im ltI ((l.take (i+1)).map (·.dot.rep))=putU ltI l[i].dot.rep (Im ltI ((l.take i).map (·.dot.rep))):=by
 rw[Zae hi,Zap,Zak,List.map_nil,A8f]
theorem Z3 (σ:St) (cs:List GV) (s:State) (hR:A5.R σ s cs) (m:Bool) (o k:ByteArray) (hl:Aa s<=1099511627776):
  ∃ r τ,Ret Tryz.prog No [.agg cs,.bool m,.str o,.str k] σ r τ/\Hp σ τ [ow pI.kd r (Gb s m o k)]:=by
 have hR0:=hR
 obtain⟨a,b,c,v,rfl,_,_,hv,_⟩:=hR
 obtain⟨l1,l2,l3,l4,_⟩:=Av hl
 refine Ea Yz (Z0z rfl) ?_
 have H:=((Hp.refl σ).new 1 [a,b,c,v]).nil_int
 simp +contextual (disch:=omega) only[go_sem,Np,Ix,A4 (cs:=[a,b,c,v]) rfl]
 obtain⟨r1,τ1,R1,K1⟩:=A3x _ _ s (A5.pre hR0 H.sub) m o k hl
 refine P3 R1 K1 ?_
 have H:=H.add K1
 simp only[Zan,Zaq] at H
 generalize hL:Kf s m o k=L at*
 have hLl:L.length<=1099511627776:=by
  have:=Zab (De m o k) s.lives
  rw[<- hL];unfold Kf;omega
 simp +contextual (disch:=omega) only[go_sem]
 refine Jx L.length 11 (fun i env τ=>env 10=r1/\∃ w n1,env 9=w/\Hp σ τ [ow pI.kd w (Im ltI ((L.take i).map (·.dot.rep))),ow As.kd r1 L,pt 1 n1 [a,b,c,v]]) rfl ⟨rfl,_,_,rfl,(H.pick 1 rfl)⟩ ?_ ?_
 ·rintro J hJ i env τ hi e11 c0 ⟨e10,w,n1,e9,H⟩
  have C1:=A7 (H.sl 1 rfl) hi
  have hlen:=(H.sl 1 rfl).len
  have hal:=Pi ltI ((L.take i).map (·.dot.rep))
  rw[Zai,Zah] at hal
  have hsn:=Aej hi
  generalize hacc:Im ltI ((L.take i).map (·.dot.rep))=acc at*
  simp +contextual (disch:=omega) only[go_sem,c0,e9,e10,e11,C1,hlen]
  refine Ac (A9s _ w acc (H.sl 0 rfl) L[i].dot.rep (by omega)) (fun hm=> ?_) (fun hm=> ?_)
  ·have hm:L[i].dot.rep∈acc:=by simpa using hm
   rw[putU,if_pos hm] at hsn
   simp +contextual (disch:=omega) only[go_sem,e9,e10,e11]
   refine hJ _ _ _ ⟨?_,w,n1,?_,by rw[hsn];exact H⟩
   all_goals simp +contextual (disch:=omega) only[go_sem,e9,e10,e11]
  ·have hm:¬ L[i].dot.rep∈acc:=by simpa using hm
   rw[putU,if_neg hm] at hsn
   have H1:=H.nil_int
   simp +contextual (disch:=omega) only[go_sem,e9,e10,e11]
   generalize hx:L[i].dot.rep=x at*
   refine M0 acc.length 15 2 (fun j env τ=>env 10=r1/\env 11=gi i/\env 12=gi x/\env 9=w/\∃(u:GV) (put:Bool) (nxt:List Int),env 13=u/\env 14= .bool put/\Qg x acc nxt j put/\Hp σ τ [ow pI.kd u nxt,ow pI.kd w acc,ow As.kd r1 L,pt 1 n1 [a,b,c,v]]) (fun env τ=>env 10=r1/\env 11=gi i/\env 12=gi x/\env 9=w/\∃(u:GV) (put:Bool) (nxt:List Int),env 13=u/\env 14= .bool put/\Qg x acc nxt acc.length put/\Hp σ τ [ow pI.kd u nxt,ow pI.kd w acc,ow As.kd r1 L,pt 1 n1 [a,b,c,v]]) rfl ⟨by simp +contextual (disch:=omega) only[go_sem,e10],by simp +contextual (disch:=omega) only[go_sem,e11],by simp +contextual (disch:=omega) only[go_sem],by simp +contextual (disch:=omega) only[go_sem,e9],_,false,[],by simp +contextual (disch:=omega) only[go_sem],by simp +contextual (disch:=omega) only[go_sem],by simp[Qg],H1⟩ ?_ ?_ ?_
   ·clear e9 e10 e11 H H1
    rintro J2 Y2 hJ2 hY2 j env τ hj e15 c1 ⟨e10,e11,e12,e9,u,put,nxt,e13,e14,hok,H⟩
    have hnl:=Z2 hok
    have i1:=Cc (H.sl 1 rfl) hj
    have hlen:=(H.sl 1 rfl).len
    cases put with
    |true=>
     obtain⟨w',τ3,e5,H3⟩:=H.app_int 0 rfl acc[j] (by omega)
     simp +contextual (disch:=omega) only[go_sem,c1,e9,e10,e11,e12,e13,e14,e15,i1,hlen,e5]
     refine hJ2 _ _ _ ⟨?_,?_,?_,?_,w',true,_,?_,?_,A1t hok hj (.inl rfl),H3⟩
     all_goals simp +contextual (disch:=omega) only[go_sem,e9,e10,e11,e12,e14]
    |false=>
     cases hlt:decide (x<acc[j]) with
     |false=>
      obtain⟨w',τ3,e5,H3⟩:=H.app_int 0 rfl acc[j] (by omega)
      simp +contextual (disch:=omega) only[go_sem,c1,e9,e10,e11,e12,e13,e14,e15,i1,hlen,hlt,e5]
      refine hJ2 _ _ _ ⟨?_,?_,?_,?_,w',false,_,?_,?_,A1t hok hj (.inr (by simpa using hlt)),H3⟩
      all_goals simp +contextual (disch:=omega) only[go_sem,e9,e10,e11,e12,e14]
     |true=>
      obtain⟨w',τ3,e5,H3⟩:=H.app_int 0 rfl x (by omega)
      have H3:Hp σ τ3 [ow pI.kd w' (nxt++[x]),ow pI.kd w acc,ow As.kd r1 L,pt 1 n1 [a,b,c,v]]:=H3
      have hp:=Aeh hok hj (by simpa using hlt)
      have hnl2:=Z2 hp
      simp only[List.length_append,Zal,Zao] at hnl2
      have i2:=Cc (H3.sl 1 rfl) hj
      obtain⟨w2,τ4,e6,H4⟩:=H3.app_int 0 rfl acc[j] (by simp;omega)
      simp +contextual (disch:=omega) only[go_sem,c1,e9,e10,e11,e12,e13,e14,e15,i1,hlen,hlt,e5,i2,e6]
      refine hJ2 _ _ _ ⟨?_,?_,?_,?_,w2,true,_,?_,?_,hp,H4⟩
      all_goals simp +contextual (disch:=omega) only[go_sem,e9,e10,e11,e12,e14]
   ·clear e9 e10 e11 H H1
    rintro Y2 hY2 env τ e15 c1 ⟨e10,e11,e12,e9,u,put,nxt,e13,e14,hok,H⟩
    have hlen:=(H.sl 1 rfl).len
    simp +contextual (disch:=omega) only[go_sem,c1,e9,e10,e11,e12,e13,e14,e15,hlen]
    refine hY2 _ _ ⟨?_,?_,?_,?_,u,put,nxt,?_,?_,hok,H⟩
    all_goals simp +contextual (disch:=omega) only[go_sem,e9,e10,e11,e12,e13,e14]
   ·clear e9 e10 e11 H H1
    rintro env τ ⟨e10,e11,e12,e9,u,put,nxt,e13,e14,hok,H⟩
    have hnl:=Z2 hok
    have hend:=Aei hok
    cases put with
    |true=>
     simp +contextual (disch:=omega) only[go_sem,e9,e10,e11,e12,e13,e14]
     refine hJ _ _ _ ⟨?_,u,n1,?_,?_⟩
     all_goals first|(simp +contextual (disch:=omega) only[go_sem,e9,e10,e11,e12,e13,e14];done)|skip
     rw[hsn,<-hend]
     exact(H.pick 1 rfl).drop1
    |false=>
     obtain⟨w',τ3,e5,H3⟩:=H.app_int 0 rfl x (by omega)
     simp +contextual (disch:=omega) only[go_sem,e9,e10,e11,e12,e13,e14,e5]
     refine hJ _ _ _ ⟨?_,w',n1,?_,?_⟩
     all_goals first|(simp +contextual (disch:=omega) only[go_sem,e9,e10,e11,e12,e13,e14];done)|skip
     rw[hsn,<-hend]
     exact(H3.pick 1 rfl).drop1
 ·rintro env τ e11 c0 ⟨e10,w,n1,e9,H⟩
  rw[Zaf] at H
  have hlen:=(H.sl 1 rfl).len
  simp +contextual (disch:=omega) only[go_sem,c0,e9,e10,e11,hlen]
  exact⟨_,rfl,by rw[Gb,hL];exact H.one⟩
theorem Z4 (σ:St) (cs:List GV) (s:State) (hR:A5.R σ s cs) (m:Bool) (o k:ByteArray) (hl:Aa s<=1099511627776):
  ∃ r τ,Ret Tryz.prog Nq [.agg cs,.bool m,.str o,.str k] σ r τ/\Hp σ τ [ow pI.kd r (Gb s m o k)]:=by
 have hR0:=hR
 obtain⟨a,b,c,v,rfl,_,_,hv,_⟩:=hR
 obtain⟨l1,l2,l3,l4,_⟩:=Av hl
 refine Ea Z1 (Z0z rfl) ?_
 have H:=((Hp.refl σ).new 1 [a,b,c,v]).nil_int
 simp +contextual (disch:=omega) only[go_sem,Nr,Ix,A4 (cs:=[a,b,c,v]) rfl]
 obtain⟨r1,τ1,R1,K1⟩:=A3y _ _ s (A5.pre hR0 H.sub) m o k hl
 refine P3 R1 K1 ?_
 have H:=H.add K1
 simp only[Zan,Zaq] at H
 generalize hL:Kf s m o k=L at*
 have hLl:L.length<=1099511627776:=by
  have:=Zab (De m o k) s.lives
  rw[<- hL];unfold Kf;omega
 have hlen0:=(H.sl 0 rfl).len
 simp +contextual (disch:=omega) only[go_sem,hlen0]
 refine Jx L.length 19 (fun i env τ=>env 17=r1/\env 18=gi L.length/\∃ w n1,env 9=w/\Hp σ τ [ow pI.kd w ((L.take i).map (·.dot.rep)),ow As.kd r1 L,pt 1 n1 [a,b,c,v]]) rfl ⟨rfl,rfl,_,_,rfl,(H.pick 1 rfl)⟩ ?_ ?_
 ·rintro J hJ i env τ hi e19 c0 ⟨e17,e18,w,n1,e9,H⟩
  have C1:=A7 (H.sl 1 rfl) hi
  have G:=H.grow (pre1 τ (some (Blk.row 1 [.bool L[i].map,.str L[i].obj,.str L[i].key,gi L[i].val,gi L[i].dot.rep,gi L[i].dot.seq])))
  obtain⟨w',τ3,e5,H3⟩:=G.app_int 0 rfl L[i].dot.rep (by simp;omega)
  simp +contextual (disch:=omega) only[go_sem,c0,e9,e17,e18,e19,C1,e5]
  refine hJ _ _ _ ⟨?_,?_,w',n1,?_,?_⟩
  all_goals first|(simp +contextual (disch:=omega) only[go_sem,e9,e17,e18,e19];done)|skip
  rw[Zae hi,Zap,Zak,List.map_nil]
  exact H3
 ·rintro env τ e19 c0 ⟨e17,e18,w,n1,e9,H⟩
  rw[Zaf] at H
  obtain⟨τ2,R2,H2⟩:=Ou H 0 rfl (by simp;omega)
  simp +contextual (disch:=omega) only[go_sem,c0,e9,e17,e18,e19]
  refine Ao R2 ?_
  simp +contextual (disch:=omega) only[go_sem,e9,e17,e18,e19]
  have hsl:(Az ltI (L.map (·.dot.rep))).length<=1099511627776:=by rw[D6];simp;omega
  obtain⟨w3,τ3,R3,H3⟩:=Lg H2 0 rfl hsl
  refine Ao R3 ?_
  simp +contextual (disch:=omega) only[go_sem,e9,e17,e18,e19]
  refine⟨_,rfl,?_⟩
  have hE:Bp (Az ltI (L.map (·.dot.rep)))=Gb s m o k:=by
   rw[Gb,hL]
   exact Zb A8j Adc (Bb _ _) (Pg A8j _)
  rw[<- hE]
  exact H3.one
theorem A3z (s:State) (m:Bool) (o k:ByteArray):(Gb s m o k).length<=Aa s:=by
 have h1:=Pi ltI ((Kf s m o k).map (·.dot.rep))
 rw[Zai] at h1
 have h2:(Kf s m o k).length<=s.lives.length:=Zab _ _
 have h3:s.lives.length<=Aa s:=by unfold Aa;omega
 unfold Gb;omega
abbrev Mj:Nat:=9
def Mk:Fn1:=⟨75,[.t 2],(rg [oV 2 kf] (.seq (rg [oM 11 0,oC 12 40 11] (cn 12 (rg [oV 2 kt] .ret) .skip)) (rg [oM 14 0,oC 15 73 14,oM 13 15,o 16 (.ext 0 (.t 13)),o 17 (.ext 1 (.t 13)),o 3 (.new [.nilS,.nilS,.nilS,.nilS]),oS 4 3 16,oM 4 17] (rg [oM 19 0,oC 20 74 19,oM 18 20,o 21 (.ext 0 (.t 18)),o 22 (.ext 1 (.t 18)),o 23 (.ext 2 (.t 18)),o 24 (.ext 3 (.t 18)),o 5 (.new [.nilS,.nilS,.nilS,.nilS]),oS 4 5 21,oM 6 22,oM 7 23,oM 8 24] (rg [oM 26 0,oC 27 75 26,oM 25 27,o 28 (.ext 0 (.t 25)),o 29 (.ext 1 (.t 25)),oM 9 28,oM 10 29] (dw [oW 30 4 3,oM 31 4,oD 32 71 30 31,oW 33 4 3,oM 34 4,oD 35 76 33 34,oD 36 55 32 35,oM 37 36,jW 38 37 4 5,jM 39 37 6,jM 40 37 7,jM 41 37 8,og 42 37 true (.call 67 [(.t 38),(.t 39),(.t 40),(.t 41)]),jW 43 37 4 5,jM 44 37 6,jM 45 37 7,jM 46 37 8,og 47 37 true (.call 77 [(.t 43),(.t 44),(.t 45),(.t 46)]),jD 48 37 55 42 47,oQ 49 37 48,oM 50 49,jW 51 50 4 3,jM 52 50 4,jD 53 50 65 51 52,jW 54 50 4 3,jM 55 50 4,jD 56 50 78 54 55,jD 57 50 55 53 56,oQ 58 50 57,oM 59 58,jM 60 59 9,jM 61 59 10,jD 62 59 68 60 61,jM 63 59 9,jM 64 59 10,jD 65 59 80 63 64,jD 66 59 79 62 65,oQ 67 59 66,oM 68 67,jW 69 68 4 5,jC 70 68 69 69,jW 71 68 4 5] [jC 72 68 81 71,jB 73 68 .eql 70 72,oQ 74 68 73,oM 2 74] .ret))))))⟩
theorem Ut:A6 Tryz.prog Mj=some Mk:=by kernel_rfl
abbrev Uc:Nat:=79
def Ud:Fn1:=⟨27,[.t 4],(rg [oV 4 kf] (.seq (rg [oM 6 0,oN 7 6,oM 8 1,oN 9 8,oB 10 .neq 7 9] (cn 10 (rg [oV 4 kf] .ret) .skip)) (.seq (rg [oV 5 (ki 0)] (.blk 0 (.lop (.seq (rg [oM 11 5,oM 12 0,oN 13 12,oB 14 .lss 11 13] (cn 14 .skip (.ext 0))) (.seq (.blk 1 (dw [oM 17 0,oM 18 5,oI 19 10 17 18,oW 20 10 19,oM 21 1,oM 22 5,oI 23 10 21 22,oW 24 10 23] [oD 25 210 20 24,oU 26 25] (cn 26 (rg [oV 4 kf] .ret) .skip))) (.reg [oM 15 5,oZ 16 15 1,oM 5 16])))))) (rg [oV 4 kt] .ret))))⟩
theorem A40:A6 Tryz.prog Uc=some Ud:=by kernel_rfl
abbrev Gu:Nat:=73
def Lb:Fn1:=⟨8,[.c 2 true 4,.t 3],(rg [o 2 (.new [.nilS,.nilS,.nilS,.nilS]),o 3 (.mov (.k s0))] (rg [oM 4 0,oC 5 200 4,o 6 (.ext 0 (.t 5)),o 7 (.ext 1 (.t 5)),oS 4 2 6,oM 3 7] .ret))⟩
theorem S9:A6 Tryz.prog Gu=some Lb:=by kernel_rfl
theorem Qh {σ0 σ:St} {h:List Item} {v:GV} {bs:List Int} (H:Hx σ0 σ h) (D:Dr σ0 v bs):∃(ds:List GV) (s:State) (o:ByteArray) (τ:St),Aa s<=6000/\o∈Uk/\Ret Tryz.prog Gu [v] σ (.tup [.agg ds,.str o]) τ/\Hx σ0 τ (.th (own A5 ds s)::h):=by
 have key:∃ w τ,Ret Tryz.prog Gu [v] σ w τ/\∃ ds s o,w= .tup [.agg ds,.str o]/\Aa s<=6000/\o∈Uk/\Hx σ0 τ (.th (own A5 ds s)::h):=by
  refine D8 S9 (Z0z rfl) H ?_
  simp +contextual (disch:=omega) only[go_sem,Lb]
  intro n1 f1 τ1 H1
  have g1:=Al (h:=h) f1
  obtain⟨ds,s,o,τ4,hs,ho,R4,H4⟩:=Qb H1 D
  have gl:ds.length=4:=A5.len (H4.hp.rd 0 rfl)
  refine by_k R4 H4 ?_
  simp +contextual (disch:=omega) only[go_sem,Ab (cs:=z4) gl rfl,gl,A4 gl]
  intro τ5 H5
  exact⟨_,rfl,ds,s,o,rfl,hs,ho,H5.era 1⟩
 obtain⟨w,τ,R,ds,s,o,rfl,h1,h2,h3⟩:=key
 exact⟨ds,s,o,τ,h1,h2,R,h3⟩
theorem A41 (σ:St) (v u:GV) (l:List Act) (hv:RS kAct σ v l) (hu:RS kAct σ u l) (hl:sumL Dm l<=1048576) (hn:l.length<=1048576):Ret Tryz.prog Uc [v,u] σ (.bool true) σ:=by
 refine E5 A40 (Z0z rfl) trivial ?_
 have b:((l.length:Int) != (l.length:Int))=false:=by simp
 simp +contextual (disch:=omega) only[go_sem,Ud,hv.len,hu.len,b]
 refine Bu l.length 5 0 (fun i env h=>env 0=v/\env 1=u/\h=[]) (fun env h=>True) (fun env h=>False) _ (Hx.refl σ) (by simp +contextual (disch:=omega) only[go_sem]) ⟨by simp +contextual (disch:=omega) only[go_sem],by simp +contextual (disch:=omega) only[go_sem],rfl⟩ ?_ ?_ ?_ (fun _ _ _ _ h=>h.elim)
 ·rintro J Y W hJ hY hW i env h' τ hi ei c0 H ⟨e0,e1,rfl⟩
  obtain⟨cs,⟨c1,_,_,c4,_⟩,hR⟩:=RdN.cellsN hv hi
  obtain⟨ds,⟨d1,_,_,d4,_⟩,hS⟩:=RdN.cellsN hu hi
  have c1:iadG 10 v (some i)=some (atz 10 v i):=c1
  have d1:iadG 10 u (some i)=some (atz 10 u i):=d1
  have c4:ldX σ [] τ true 10 (atz 10 v i)=some (.agg cs):=Agi c4
  have d4:ldX σ [] τ true 10 (atz 10 u i)=some (.agg ds):=Agi d4
  have hm:Dm l[i]<=sumL Dm l:=Gj (f:=Dm) (Zam hi)
  have dd:decide (l[i]=l[i])=true:=decide_eq_true rfl
  have hk:l[i].knew.length<=Dm l[i]:=by unfold Dm;omega
  simp +contextual (disch:=omega) only[go_sem,c0,e0,e1,ei,A0,hv.len,c1,d1,c4,d4]
  refine by_r H (Q9 _ cs ds l[i] l[i] (kAct.pre hR H.sub) (kAct.pre hS H.sub) (by omega)) ?_
  simp +contextual (disch:=omega) only[go_sem,dd,e0,e1,ei]
  exact hJ _ _ _ _ H ⟨by first|exact e0|simp +contextual (disch:=omega) only[go_sem,e0],by first|exact e1|simp +contextual (disch:=omega) only[go_sem,e1],rfl⟩
 ·rintro Y hY env h' τ ei c0 H ⟨e0,e1,rfl⟩
  simp +contextual (disch:=omega) only[go_sem,c0,e0,e1,ei,hv.len]
  exact hY _ _ _ H trivial
 ·rintro env h' τ H _
  simp +contextual (disch:=omega) only[go_sem]
  try exact fun _=>rfl
theorem A1u:∀(l:List Unit_) (r:Int),sumL Dm (F6 l r)<=sumL Aw l
 |[],r=>by simp[F6,sumL]
 |x::l,r=>by
  have h:=A1u l r
  have h2:sumL Aw (x::l)=Aw x+sumL Aw l:=by simp[sumL]
  have h4:Dm x.act<=Aw x:=by unfold Aw;omega
  unfold F6 at h ⊢
  rw[List.filter_cons]
  split
  ·rw[Zak,h2]
   have h3:sumL Dm (x.act::(l.filter (J7 r)).map (·.act))=Dm x.act+sumL Dm ((l.filter (J7 r)).map (·.act)):=by simp[sumL]
   rw[h3];omega
  ·rw[h2];omega
theorem Ac7 (l:List Unit_) (r:Int):(F6 l r).length<=l.length:=by
 unfold F6
 rw[Zai]
 exact Zab _ _
theorem law_WhoseTold (σ:St) (v:GV) (bs:List Int) (hv:Sl (Ek.int .u8) σ v bs) (hw:bs.length<=9223372036854775807/\∀ y∈bs,(Lit.int .u8 y).wf=true):∃ r τ,Ret Tryz.prog Mj [v] σ r τ/\r= .bool true:=by
 have hv:RS pB.kd σ v bs:=hv.rs rfl (fun h=>h)
 refine D8 Ut (Z0z rfl) (Hx.refl σ) ?_
 simp +contextual (disch:=omega) only[go_sem,Mk]
 refine by_b (Hx.refl σ) (Aef σ v bs hv) (fun h0=> ?_) (fun h0=> ?_)
 ·simp +contextual (disch:=omega) only[go_sem]
  try exact fun _=>⟨_,rfl,rfl⟩
 have h0:=of_decide_eq_false h0
 have D:Dr σ v bs:=⟨hv,by omega⟩
 simp +contextual (disch:=omega) only[go_sem]
 obtain⟨d1,s1,o1,τ1,hs1,ho1,R1,H1⟩:=Qh (Hx.refl σ) D
 have gl1:d1.length=4:=A5.len (H1.hp.rd 0 rfl)
 refine by_k R1 H1 ?_
 simp +contextual (disch:=omega) only[go_sem,Ab (cs:=z4) gl1 rfl,gl1,A4 gl1]
 intro n3 f3 τ1b _ τ2 H2
 have g3:σ.length<=n3:=f3
 try simp +contextual (disch:=omega) only[go_sem]
 obtain⟨d2,s2,isM,o2,ky,τ3,hs2,ho2,hky,R3,H3⟩:=N4 H2 D
 have gl2:d2.length=4:=A5.len (H3.hp.rd 0 rfl)
 refine by_k R3 H3 ?_
 have x2:extG 2 (GV.tup [GV.agg d2,GV.bool isM,GV.str o2,GV.str ky])=some (.str o2):=rfl
 have x3:extG 3 (GV.tup [GV.agg d2,GV.bool isM,GV.str o2,GV.str ky])=some (.str ky):=rfl
 simp +contextual (disch:=omega) only[go_sem,x2,x3,Ab (cs:=z4) gl2 rfl,gl2,A4 gl2]
 intro n5 f5 τ4 _ τ5 H5
 have g5:σ.length<=n5:=by omega
 try simp +contextual (disch:=omega) only[go_sem]
 obtain⟨r,l,rep,τ6,⟨hl1,hl2⟩,hrep,R6,H6⟩:=Uq H5 D
 have nt6:=RdN.notup (H6.hp.sl 0 rfl)
 have x6:extG 0 (GV.tup [r,gi rep])=some r:=ext_at rfl nt6
 refine by_k R6 H6 ?_
 have z1:=(Xd ho1).2
 have z2:=(Xd ho2).2
 have z3:=(Xe hky).2
 have hb:=A1u l rep
 simp +contextual (disch:=omega) only[go_sem,x6,A4 gl1,A4 gl2]
 obtain⟨a1,τ7,R7,K7⟩:=A2z τ6 d1 s1 (H6.hp.rd 4 rfl) o1 (by omega)
 refine by_c H6 R7 K7 fun H7=> ?_
 simp +contextual (disch:=omega) only[go_sem,A4 gl1,A4 gl2]
 obtain⟨a2,τ8,R8,K8⟩:=A30 τ7 d1 s1 (H7.hp.rd 5 rfl) o1 (by omega)
 refine by_c H7 R8 K8 fun H8=> ?_
 simp +contextual (disch:=omega) only[go_sem,A4 gl1,A4 gl2]
 refine by_r H8 (Jd τ8 a1 a2 _ _ (H8.hp.sl 1 rfl) (H8.hp.sl 0 rfl) (by have:=A8x s1 o1;omega)) ?_
 simp +contextual (disch:=omega) only[go_sem,decide_true,A4 gl1,A4 gl2]
 obtain⟨b1,τ9,R9,K9⟩:=Z4 τ8 d2 s2 (H8.hp.rd 4 rfl) isM o2 ky (by omega)
 refine by_c H8 R9 K9 fun H9=> ?_
 simp +contextual (disch:=omega) only[go_sem,A4 gl1,A4 gl2]
 obtain⟨b2,τ10,R10,K10⟩:=Z3 τ9 d2 s2 (H9.hp.rd 5 rfl) isM o2 ky (by omega)
 refine by_c H9 R10 K10 fun H10=> ?_
 simp +contextual (disch:=omega) only[go_sem,A4 gl1,A4 gl2]
 refine by_r H10 (Jd τ10 b1 b2 _ _ (H10.hp.sl 1 rfl) (H10.hp.sl 0 rfl) (by have:=A3z s2 isM o2 ky;omega)) ?_
 simp +contextual (disch:=omega) only[go_sem,decide_true,A4 gl1,A4 gl2]
 obtain⟨e1,τ11,R11,K11⟩:=A3w τ10 d1 s1 (H10.hp.rd 8 rfl) o1 (by omega) (by omega)
 refine by_c H10 R11 K11 fun H11=> ?_
 simp +contextual (disch:=omega) only[go_sem,A4 gl1,A4 gl2]
 obtain⟨e2,τ12,R12,p12,q12⟩:=A3v τ11 d1 s1 (H11.hp.rd 9 rfl) o1 (by omega) (by omega)
 refine by_cs H11 R12 (Hp.nil p12) fun H12=> ?_
 simp +contextual (disch:=omega) only[go_sem,A4 gl1,A4 gl2]
 refine by_r H12 (Jd τ12 e1 e2 _ _ (H12.hp.sl 0 rfl) q12 (by simp[Je])) ?_
 simp +contextual (disch:=omega) only[go_sem,decide_true,A4 gl1,A4 gl2]
 obtain⟨c1,τ13,R13,K13⟩:=A6l τ12 r l (H12.hp.sl 5 rfl) rep (by omega)
 refine by_c H12 R13 K13 fun H13=> ?_
 simp +contextual (disch:=omega) only[go_sem,A4 gl1,A4 gl2]
 obtain⟨c2,τ14,R14,K14⟩:=A6k τ13 r l (H13.hp.sl 6 rfl) rep (by omega)
 refine by_c H13 R14 K14 fun H14=> ?_
 simp +contextual (disch:=omega) only[go_sem,A4 gl1,A4 gl2]
 refine by_r H14 (A41 τ14 c1 c2 (F6 l rep) (H14.hp.sl 1 rfl) (H14.hp.sl 0 rfl) (by omega) (by have:=Ac7 l rep;omega)) ?_
 simp +contextual (disch:=omega) only[go_sem,A4 gl1,A4 gl2]
 refine by_r H14 (Yt τ14 d2 s2 (H14.hp.rd 9 rfl) (by omega)) ?_
 simp +contextual (disch:=omega) only[go_sem,A4 gl1,A4 gl2]
 refine by_r H14 (Ys τ14 d2 s2 (H14.hp.rd 9 rfl) (by omega)) ?_
 simp +contextual (disch:=omega) only[go_sem,beq_self_eq_true]
 exact fun _=>⟨_,rfl,rfl⟩
end Go.Proofs.YtbeoiejnogdkpaaGreat.Sy
