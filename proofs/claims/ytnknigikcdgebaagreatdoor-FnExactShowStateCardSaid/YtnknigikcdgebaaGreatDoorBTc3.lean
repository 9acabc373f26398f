/- Texts of this proof, one behind the other. -/
import Derived.Test.YtnknigikcdgebaaGreatDoorBTc2
import Derived.Test.YtnknigikcdgebaaGreatDoorProg
import Derived.KernelRfl
import Derived.Sort.LotC
import Derived.Sort.AssemblyPlain
set_option linter.unusedSimpArgs false
set_option linter.unusedVariables false
set_option maxRecDepth 4000
set_option maxHeartbeats 4000000
open Nat renaming le_refl→Zaa,lt_or_ge→Zag,eq_zero_or_pos→Zbe,add_mul→Zbl
open List renaming take_length→Zab,take_succ_eq_append_getElem→Zac,getElem?_eq_some_iff→Zad,length_append→Zae,length_filter_le→Zaf,length_map→Zai,length_cons→Zak,getElem_mem→Zal,map_cons→Zam,getElem?_set_self→Zan,length_take→Zao,pairwise_iff_getElem→Zap,length_nil→Zaq,append_assoc→Zar,cons_append→Zas,set_getElem_self→Zat,mem_filter→Zau,nil_append→Zav,getElem_of_mem→Zaw,mem_cons_self→Zax,map_append→Zay,map_nil→Zaz,mem_map→Za2,drop_eq_getElem_cons→Za3,length_drop→Za4,take_append_drop→Za5,append_nil→Za6,set_set→Za7,mem_cons_of_mem→Za8,flatMap_append→Zba,length_reverse→Zbb,mem_singleton→Zbd,reverse_cons→Zbg,drop_length→Zbh,reverse_nil→Zbi,prefix_refl→Zbj,all_eq_true→Zbk,length→Zbm,filter_nil→Zbn,drop_zero→Zbp
open Bool renaming false_bne→Zah,and_eq_true→Zaj,or_eq_true→Zbo
open Option renaming map_none→Za0,map_some→Za1
open Int renaming ofNat_zero→Za9,tmod_lt_of_pos→Zbf
open Array renaming length_toList→Zbc
namespace Go.Proofs.YtnknigikcdgebaaGreatDoor.Sy
open Go Go.RowKit
def Hh:Fn1:=⟨36,[.t 4],(rg [oX 2 0,oX 3 1,oV 4 kf] (.seq (rg [oF 5 3 2,oL 6 5,oF 7 3 3,oL 8 7,oB 9 .neq 6 8] (oG 9 (rg [oF 10 3 2,oL 11 10,oF 12 3 3,oL 13 12,oB 14 .gtr 11 13,oM 4 14] .ret))) (.seq (rg [oF 15 1 2,oF 16 0 15,oL 17 16,oF 18 1 3,oF 19 0 18,oL 20 19,oB 21 .neq 17 20] (oG 21 (rg [oF 22 1 2,oF 23 0 22,oL 24 23,oF 25 1 3,oF 26 0 25,oL 27 26,oB 28 .gtr 24 27,oM 4 28] .ret))) (rg [oF 29 1 2,oF 30 1 29,oL 31 30,oF 32 1 3,oF 33 1 32,oL 34 33,oB 35 .gtr 31 34,oM 4 35] .ret))))⟩
theorem A35:A4 Tryz.prog 259=some Hh:=by kernel_rfl
def Qw:Fn1:=⟨97,[.t 8],(rg [oX 4 0,oX 6 2,o 8 (.mov (.k .nilS))] (rg [o 16 (.lit 8 0 [] []),oM 9 16] (.seq (rg [oV 10 (ki 0)] (oH 0 (.seq (rg [oM 17 10,oF 18 3 4,oL 19 18,oN 20 19,oB 21 .lss 17 20] (oJ 21 0)) (.seq (.blk 1 (rg [oF 24 3 4,oL 25 24,oM 26 10,oI 27 8 25 26,oW 28 8 27,o 11 (.new [s0,z0,z0,z0,z0,z0,z0,(.bool false)]),oS 8 11 28] (.seq (rg [oF 29 0 11,oL 30 29,oM 31 1,oB 32 .neq 30 31,oM 33 32,vF 34 33 4 11,vW 35 33 2 34,vW 36 33 2 6,og 37 33 false (.eqs true [.i .i64,.i .i64] (.t 35) (.t 36)),oP 38 33 37] (oG 38 (.ext 1))) (rg [o 39 (.lit 8 0 [] []),oM 12 39] (rg [oV 13 kf] (.seq (rg [oV 14 (ki 0)] (oH 2 (.seq (rg [oM 40 14,oM 41 9,oN 42 41,oB 43 .lss 40 42] (oJ 43 2)) (.seq (.blk 3 (.seq (dw [oM 46 13,oU 47 46,oM 48 47,jW 49 48 8 11,jM 50 48 9,jM 51 48 14,jI 52 48 8 50 51,jW 53 48 8 52] [jD 54 48 259 49 53,oQ 55 48 54] (oG 55 (rg [oM 56 12,oW 57 8 11,o 58 (.lit 8 1 [s0,z0,z0,z0,z0,z0,z0,(.bool false)] [(0,8,(.t 57))]),o 59 (.app 8 72 [s0,z0,z0,z0,z0,z0,z0,(.bool false)] (.t 56) (.t 58)),oM 12 59] (.reg [oV 13 kt])))) (.reg [oM 60 12,oM 61 9,oM 62 14,oI 63 8 61 62,oW 64 8 63,o 65 (.lit 8 1 [s0,z0,z0,z0,z0,z0,z0,(.bool false)] [(0,8,(.t 64))]),o 66 (.app 8 72 [s0,z0,z0,z0,z0,z0,z0,(.bool false)] (.t 60) (.t 65)),oM 12 66]))) (.reg [oM 44 14,oZ 45 44 1,oM 14 45]))))) (.seq (rg [oM 67 13,oU 68 67] (oG 68 (.reg [oM 69 12,oW 70 8 11,o 71 (.lit 8 1 [s0,z0,z0,z0,z0,z0,z0,(.bool false)] [(0,8,(.t 70))]),o 72 (.app 8 72 [s0,z0,z0,z0,z0,z0,z0,(.bool false)] (.t 69) (.t 71)),oM 12 72]))) (.reg [oM 73 12,oM 9 73])))))))) (.reg [oM 22 10,oZ 23 22 1,oM 10 23]))))) (.seq (rg [oV 15 (ki 0)] (oH 4 (.seq (rg [oM 74 15,oM 75 9,oN 76 75,oB 77 .lss 74 76] (oJ 77 4)) (.seq (.blk 5 (rg [oM 80 3,oM 81 9,oM 82 15,oI 83 8 81 82,oW 84 8 83,o 85 (.lit 8 1 [s0,z0,z0,z0,z0,z0,z0,(.bool false)] [(0,8,(.t 84))]),o 86 (.app 8 72 [s0,z0,z0,z0,z0,z0,z0,(.bool false)] (.t 80) (.t 85)),oM 3 86] (.drw [oW 87 4 4,oM 88 1,oM 89 9,oM 90 15,oI 91 8 89 90,oF 92 1 91,oW 93 2 92] [oM 94 3,o 95 (.call 214 (oT [87,88,93,94])),oM 3 95]))) (.reg [oM 78 15,oZ 79 78 1,oM 15 79]))))) (rg [oM 96 3,oM 8 96] .ret)))))⟩
theorem A36:A4 Tryz.prog 214=some Qw:=by kernel_rfl
def A14:Fn1:=⟨10,[.t 4],(rg [oX 2 0,o 4 (.mov (.k .nilS))] (rg [oW 5 4 2,oM 6 1,o 7 (.build [z0,z0] []),o 8 (.lit 8 0 [] []),o 9 (.call 214 (oT [5,6,7,8])),oM 4 9] .ret))⟩
theorem A96:A4 Tryz.prog 119=some A14:=by kernel_rfl
abbrev A5s (x:Cell):List GV:=[.str x.obj,.int .i64 x.dot.rep,.int .i64 x.dot.seq,.int .i64 x.time,.int .i64 x.ref.rep,.int .i64 x.ref.seq,.int .i64 x.val,.bool x.gone]
theorem Z8 (N:St) (a b:Cell):Ret Tryz.prog 259 [.agg (A5s a),.agg (A5s b)] N (.bool (Du a b)) N:=by
 refine Ab A35 (Z0z rfl) trivial ?_
 by_cases h1:a.time=b.time
 ·have c1:(a.time != b.time)=false:=by simp[h1]
  by_cases h2:a.dot.rep=b.dot.rep
  ·have c2:(a.dot.rep != b.dot.rep)=false:=by simp[h2]
   simp +contextual (disch:=omega) only[go_sem,Hh,c1,c2]
   simp[Du,Ck,h1,h2]
  ·have c2:(a.dot.rep != b.dot.rep)=true:=by simp[h2]
   have h3:¬ b.dot.rep=a.dot.rep:=fun e=>h2 e.symm
   simp +contextual (disch:=omega) only[go_sem,Hh,c1,c2]
   simp[Du,Ck,h1,h2,h3]
 ·have c1:(a.time != b.time)=true:=by simp[h1]
  simp +contextual (disch:=omega) only[go_sem,Hh,c1]
  simp[Du,h1]
def A97 (s:State) (o:ByteArray) (d:Dot):Prop:=∀(N0 N:St) (cs:List GV) (rs:List Thg) (k:Nat) (w:GV) (out:List Cell),A8.R N0 s cs->Hp N0 N rs->rs[k]? =some (ow Aj.kd w out)->out.length+(rowA (objC s.cells o) d).length<=1099511627776->
 ∃ w' U,Ret Tryz.prog 214 [.agg cs,.str o,.agg [gi d.rep,gi d.seq],w] N w' U/\Hp N0 U (rs.set k (ow Aj.kd w' (out++rowA (objC s.cells o) d)))
def Vi (o:ByteArray) (d:Dot) (c:Cell):Bool:=I6 o c&&Bu d c
theorem Ahi {Y β:Type} {f:Y->List β} {l:List Y} {i:Nat} (hi:i<l.length):((l.take i).flatMap f).length+(f l[i]).length<=(l.flatMap f).length:=by
 have h:l.flatMap f=(l.take i).flatMap f++(f l[i]++(l.drop (i+1)).flatMap f):=by
  rw[<- List.flatMap_cons,<-Za3 hi,<-Zba,Za5]
 rw[h,Zae,Zae];omega
theorem Ae5 {Y β:Type} {f:Y->List β} {l:List Y} {i:Nat} (hi:i<l.length):(l.take (i+1)).flatMap f=(l.take i).flatMap f++f l[i]:=by
 rw[Zac hi,Zba,List.flatMap_singleton]
theorem A15 (s:State) (o:ByteArray) (d:Dot) (hn:(s.cells.map (·.dot)).Nodup) (hl:A7 s<=1099511627776) (hf:Adq (objC s.cells o) fuel d) (IH:∀ c∈(objC s.cells o).filter (Bu d),A97 s o c.dot):A97 s o d:=by
 intro N0 N cs rs k w out hR0 H hk hbd
 have key:∃ r U,Ret Tryz.prog 214 [.agg cs,.str o,.agg [gi d.rep,gi d.seq],w] N r U/\Hp N0 U (rs.set k (ow Aj.kd r (out++rowA (objC s.cells o) d))):=by
  have hR1:=hR0
  obtain⟨a,b,c,v,rfl,_,_,_,hc⟩:=hR1
  obtain⟨l1,l2,l3,l4,_⟩:=Am hl
  have hkl:=(Zad.1 hk).1
  refine Fm A36 (Z0z rfl) ?_
  have H:=((H.new 1 [a,b,c,v]).new 1 [gi d.rep,gi d.seq]).nil_Cell
  simp +contextual (disch:=omega) only[go_sem,Qw]
  generalize hn1:N.length=n1 at*
  generalize hn2:(N++[some (Blk.row 1 [a,b,c,v])]).length=n2 at*
  refine Ho s.cells.length 10 0 (fun i env U=>env 1= .str o/\env 3=w/\env 4= .ptr n1 0/\env 6= .ptr n2 0/\∃ u,env 9=u/\Hp N0 U (ow Aj.kd u (Bh Du ((s.cells.take i).filter (Vi o d)))::pt 1 n2 [gi d.rep,gi d.seq]::pt 1 n1 [a,b,c,v]::rs)) (fun env U=>env 1= .str o/\env 3=w/\env 4= .ptr n1 0/\env 6= .ptr n2 0/\∃ u,env 9=u/\Hp N0 U (ow Aj.kd u ((objC s.cells o).filter (Bu d))::pt 1 n2 [gi d.rep,gi d.seq]::pt 1 n1 [a,b,c,v]::rs)) rfl ⟨rfl,rfl,rfl,by simp +contextual (disch:=omega) only[go_sem,hn2],_,rfl,H⟩ ?_ ?_ ?_
  ·clear H
   rintro J Yq hJ hY i env U hi e10 c0 ⟨e1,e3,e4,e6,u,e9,H⟩
   have C1:=A5 (hc.pre H.sub) hi
   have hab:=Ae1 (lt:=Du) (l:=s.cells) (p:=Vi o d) (i:=i)
   have hsn:=A94 (lt:=Du) (p:=Vi o d) hi
   have G:=H.new 1 (A5s s.cells[i])
   generalize hacc:Bh Du ((s.cells.take i).filter (Vi o d))=acc at*
   cases ho:decide (s.cells[i].obj=o) with
   |false=>
    have hk0:Vi o d s.cells[i]=false:=by simp[Vi,I6,ho]
    rw[hk0,if_neg (by simp)] at hsn
    simp +contextual (disch:=omega) only[go_sem,c0,e1,e3,e4,e6,e9,e10,C1,A2 (H.pt 2 rfl),hc.len,ho,A2 (H.pt 1 rfl)]
    refine hJ _ _ _ ⟨?_,?_,?_,?_,u,?_,by rw[hsn];exact G.drop1⟩
    all_goals simp +contextual (disch:=omega) only[go_sem,e1,e3,e4,e6,e9,e10]
   |true=>
    cases hr:decide (s.cells[i].ref=d) with
    |false=>
     have hk0:Vi o d s.cells[i]=false:=by simp[Vi,Bu,hr]
     rw[hk0,if_neg (by simp)] at hsn
     simp +contextual (disch:=omega) only[go_sem,c0,e1,e3,e4,e6,e9,e10,C1,A2 (H.pt 2 rfl),hc.len,ho,A2 (G.pt 2 rfl),hr]
     refine hJ _ _ _ ⟨?_,?_,?_,?_,u,?_,by rw[hsn];exact G.drop1⟩
     all_goals simp +contextual (disch:=omega) only[go_sem,e1,e3,e4,e6,e9,e10]
    |true=>
     have hk0:Vi o d s.cells[i]=true:=by simp[Vi,I6,Bu,ho,hr]
     rw[hk0,if_pos rfl] at hsn
     have H1:=G.nil_Cell
     simp +contextual (disch:=omega) only[go_sem,c0,e1,e3,e4,e6,e9,e10,C1,A2 (H.pt 2 rfl),hc.len,ho,A2 (G.pt 2 rfl),hr]
     generalize hnx:U.length=nx at*
     generalize hx:s.cells[i]=x at*
     refine Ho acc.length 14 2 (fun j env U=>env 1= .str o/\env 3=w/\env 4= .ptr n1 0/\env 6= .ptr n2 0/\env 10=gi i/\env 9=u/\env 11= .ptr nx 0/\∃(z:GV) (put:Bool) (nxt:List Cell),env 12=z/\env 13= .bool put/\insG Du x acc nxt j put/\Hp N0 U (ow Aj.kd z nxt::pt 1 nx (A5s x)::ow Aj.kd u acc::pt 1 n2 [gi d.rep,gi d.seq]::pt 1 n1 [a,b,c,v]::rs)) (fun env U=>env 1= .str o/\env 3=w/\env 4= .ptr n1 0/\env 6= .ptr n2 0/\env 10=gi i/\env 9=u/\env 11= .ptr nx 0/\∃(z:GV) (put:Bool) (nxt:List Cell),env 12=z/\env 13= .bool put/\insG Du x acc nxt acc.length put/\Hp N0 U (ow Aj.kd z nxt::pt 1 nx (A5s x)::ow Aj.kd u acc::pt 1 n2 [gi d.rep,gi d.seq]::pt 1 n1 [a,b,c,v]::rs)) rfl ⟨by simp +contextual (disch:=omega) only[go_sem,e1],by simp +contextual (disch:=omega) only[go_sem,e3],by simp +contextual (disch:=omega) only[go_sem,e4],by simp +contextual (disch:=omega) only[go_sem,e6],by simp +contextual (disch:=omega) only[go_sem,e10],by simp +contextual (disch:=omega) only[go_sem,e9],by simp +contextual (disch:=omega) only[go_sem,hnx],_,false,[],by simp +contextual (disch:=omega) only[go_sem],by simp +contextual (disch:=omega) only[go_sem],A31,H1⟩ ?_ ?_ ?_
     ·clear e1 e3 e4 e6 e9 e10 H H1 G
      rintro J2 Yq2 hJ2 hY2 j env U hj e14 c1 ⟨e1,e3,e4,e6,e10,e9,e11,z,put,nxt,e12,e13,hok,H⟩
      have hnl:=G5 hok
      have i1:=A5 (H.sl 2 rfl) hj
      have hlen:=(H.sl 2 rfl).len
      cases put with
      |true=>
       obtain⟨w',U3,e5,H3⟩:=H.app_Cell 0 rfl acc[j] (by omega)
       simp +contextual (disch:=omega) only[go_sem,c1,e1,e3,e4,e6,e9,e10,e11,e12,e13,e14,i1,hlen,e5]
       refine hJ2 _ _ _ ⟨?_,?_,?_,?_,?_,?_,?_,w',true,_,?_,?_,I7 hok hj (.inl rfl),H3⟩
       all_goals simp +contextual (disch:=omega) only[go_sem,e1,e3,e4,e6,e9,e10,e11,e13]
      |false=>
       have hl:=Z8 U x acc[j]
       simp +contextual (disch:=omega) only[go_sem,c1,e1,e3,e4,e6,e9,e10,e11,e12,e13,e14,i1,hlen,A2 (H.pt 1 rfl)]
       refine A6 hl ?_
       cases hlt:Du x acc[j] with
       |false=>
        obtain⟨w',U3,e5,H3⟩:=H.app_Cell 0 rfl acc[j] (by omega)
        simp +contextual (disch:=omega) only[go_sem,c1,e1,e3,e4,e6,e9,e10,e11,e12,e13,e14,i1,hlen,A2 (H.pt 1 rfl),e5]
        refine hJ2 _ _ _ ⟨?_,?_,?_,?_,?_,?_,?_,w',false,_,?_,?_,I7 hok hj (.inr hlt),H3⟩
        all_goals simp +contextual (disch:=omega) only[go_sem,e1,e3,e4,e6,e9,e10,e11,e13]
       |true=>
        obtain⟨w',U3,e5,H3⟩:=H.app_Cell 0 rfl x (by omega)
        have H3:Hp N0 U3 (ow Aj.kd w' (nxt++[x])::pt 1 nx (A5s x)::ow Aj.kd u acc::pt 1 n2 [gi d.rep,gi d.seq]::pt 1 n1 [a,b,c,v]::rs):=H3
        have hp:=A32 hok hj hlt
        have hnl2:=G5 hp
        simp only[Zae,Zak,Zaq] at hnl2
        have i2:=A5 (H3.sl 2 rfl) hj
        obtain⟨w2,U4,e7,H4⟩:=H3.app_Cell 0 rfl acc[j] (by simp;omega)
        simp +contextual (disch:=omega) only[go_sem,c1,e1,e3,e4,e6,e9,e10,e11,e12,e13,e14,i1,hlen,A2 (H.pt 1 rfl),e5,i2,e7]
        refine hJ2 _ _ _ ⟨?_,?_,?_,?_,?_,?_,?_,w2,true,_,?_,?_,hp,H4⟩
        all_goals simp +contextual (disch:=omega) only[go_sem,e1,e3,e4,e6,e9,e10,e11,e13]
     ·clear e1 e3 e4 e6 e9 e10 H H1 G
      rintro Yq2 hY2 env U e14 c1 ⟨e1,e3,e4,e6,e10,e9,e11,z,put,nxt,e12,e13,hok,H⟩
      have hlen:=(H.sl 2 rfl).len
      simp +contextual (disch:=omega) only[go_sem,c1,e1,e3,e4,e6,e9,e10,e11,e12,e13,e14,hlen]
      refine hY2 _ _ ⟨?_,?_,?_,?_,?_,?_,?_,z,put,nxt,?_,?_,hok,H⟩
      all_goals simp +contextual (disch:=omega) only[go_sem,e1,e3,e4,e6,e9,e10,e11,e12,e13]
     ·clear e1 e3 e4 e6 e9 e10 H H1 G
      rintro env U ⟨e1,e3,e4,e6,e10,e9,e11,z,put,nxt,e12,e13,hok,H⟩
      have hnl:=G5 hok
      have hend:=A33 hok
      cases put with
      |true=>
       simp +contextual (disch:=omega) only[go_sem,e1,e3,e4,e6,e9,e10,e11,e12,e13]
       refine hJ _ _ _ ⟨?_,?_,?_,?_,z,?_,?_⟩
       all_goals first|(simp +contextual (disch:=omega) only[go_sem,e1,e3,e4,e6,e9,e10,e11,e12,e13];done)|skip
       rw[hsn,<-hend]
       exact((H.pick 1 rfl).drop1.pick 1 rfl).drop1
      |false=>
       obtain⟨w',U3,e5,H3⟩:=H.app_Cell 0 rfl x (by omega)
       simp +contextual (disch:=omega) only[go_sem,e1,e3,e4,e6,e9,e10,e11,e12,e13,A2 (H.pt 1 rfl),e5]
       refine hJ _ _ _ ⟨?_,?_,?_,?_,w',?_,?_⟩
       all_goals first|(simp +contextual (disch:=omega) only[go_sem,e1,e3,e4,e6,e9,e10,e11,e12,e13];done)|skip
       rw[hsn,<-hend]
       exact((H3.pick 1 rfl).drop1.pick 1 rfl).drop1
  ·clear H
   rintro Yq hY env U e10 c0 ⟨e1,e3,e4,e6,u,e9,H⟩
   rw[Zab] at H
   have hke:Bh Du (s.cells.filter (Vi o d))=(objC s.cells o).filter (Bu d):=Ahc hn o d
   rw[hke] at H
   simp +contextual (disch:=omega) only[go_sem,c0,e1,e3,e4,e6,e9,e10,A2 (H.pt 2 rfl),hc.len]
   refine hY _ _ ⟨?_,?_,?_,?_,u,?_,H⟩
   all_goals simp +contextual (disch:=omega) only[go_sem,e1,e3,e4,e6,e9,e10]
  ·clear H
   rintro env U ⟨e1,e3,e4,e6,u,e9,H⟩
   rw[A91 hf] at hbd ⊢
   have hkb:((objC s.cells o).filter (Bu d)).length<=s.cells.length:=Nat.le_trans (Zaf _ _) (A30 _ _)
   generalize hkid:(objC s.cells o).filter (Bu d)=kids at*
   generalize hg:(fun c:Cell=>c::rowA (objC s.cells o) c.dot)=g at*
   have hkl4:k+3<(ow Aj.kd u kids::pt 1 n2 [gi d.rep,gi d.seq]::pt 1 n1 [a,b,c,v]::rs).length:=by simp;omega
   have hkk:(ow Aj.kd u kids::pt 1 n2 [gi d.rep,gi d.seq]::pt 1 n1 [a,b,c,v]::rs)[k+3]? =some (ow Aj.kd w out):=hk
   simp +contextual (disch:=omega) only[go_sem,e1,e3,e4,e6,e9]
   refine Pg kids.length 15 (fun i env U=>env 1= .str o/\env 4= .ptr n1 0/\env 9=u/\∃ w',env 3=w'/\Hp N0 U (ow Aj.kd u kids::pt 1 n2 [gi d.rep,gi d.seq]::pt 1 n1 [a,b,c,v]::rs.set k (ow Aj.kd w' (out++(kids.take i).flatMap g)))) rfl ⟨by simp +contextual (disch:=omega) only[go_sem,e1],by simp +contextual (disch:=omega) only[go_sem,e4],by simp +contextual (disch:=omega) only[go_sem,e9],w,by simp +contextual (disch:=omega) only[go_sem,e3],?_⟩ ?_ ?_
   ·have:rs.set k (ow Aj.kd w (out++(kids.take 0).flatMap g))=rs:=by
     simp only[List.take_zero,List.flatMap_nil,Za6]
     rw[<- (Zad.1 hk).2,Zat]
    rw[this];exact H
   ·clear H e1 e3 e4 e6 e9
    rintro J hJ i env U hi e15 c0 ⟨e1,e4,e9,w1,e3,H⟩
    have hfb:=Ahi (f:=g) hi
    have hgl:(g kids[i]).length=1+(rowA (objC s.cells o) kids[i].dot).length:=by rw[<- hg];simp;omega
    have hmem:kids[i]∈kids:=Zal hi
    have C1:=A5 (H.sl 0 rfl) hi
    have hlen:=(H.sl 0 rfl).len
    have hsk:(ow Aj.kd u kids::pt 1 n2 [gi d.rep,gi d.seq]::pt 1 n1 [a,b,c,v]::rs.set k (ow Aj.kd w1 (out++(kids.take i).flatMap g)))[k+3]? =some (ow Aj.kd w1 (out++(kids.take i).flatMap g)):=by
     show(rs.set k _)[k]? =_
     rw[Zan hkl]
    obtain⟨w2,U3,e5,H3⟩:=H.app_Cell (k+3) hsk kids[i] (by simp only[Zae];omega)
    have H3:Hp N0 U3 (ow Aj.kd u kids::pt 1 n2 [gi d.rep,gi d.seq]::pt 1 n1 [a,b,c,v]::(rs.set k (ow Aj.kd w1 (out++(kids.take i).flatMap g))).set k (ow Aj.kd w2 (out++(kids.take i).flatMap g++[kids[i]]))):=H3
    rw[Za7] at H3
    have C2:=A5 (H3.sl 0 rfl) hi
    have hsk2:(ow Aj.kd u kids::pt 1 n2 [gi d.rep,gi d.seq]::pt 1 n1 [a,b,c,v]::rs.set k (ow Aj.kd w2 (out++(kids.take i).flatMap g++[kids[i]])))[k+3]? =some (ow Aj.kd w2 (out++(kids.take i).flatMap g++[kids[i]])):=by
     show(rs.set k _)[k]? =_
     rw[Zan hkl]
    obtain⟨w3,U4,R4,H4⟩:=IH kids[i] hmem N0 U3 [a,b,c,v] _ (k+3) w2 _ hR0 H3 hsk2 (by simp only[Zae,Zak,Zaq];omega)
    have H4:Hp N0 U4 (ow Aj.kd u kids::pt 1 n2 [gi d.rep,gi d.seq]::pt 1 n1 [a,b,c,v]::(rs.set k (ow Aj.kd w2 (out++(kids.take i).flatMap g++[kids[i]]))).set k (ow Aj.kd w3 (out++(kids.take i).flatMap g++[kids[i]]++rowA (objC s.cells o) kids[i].dot))):=H4
    rw[Za7] at H4
    simp +contextual (disch:=omega) only[go_sem,c0,e1,e3,e4,e9,e15,C1,hlen,e5,C2,A2 (H3.pt 2 rfl),Bb (cs:=[a,b,c,v]) rfl]
    refine Ai R4 ?_
    simp +contextual (disch:=omega) only[go_sem,e1,e3,e4,e9,e15]
    refine hJ _ _ _ ⟨?_,?_,?_,w3,?_,?_⟩
    all_goals first|(simp +contextual (disch:=omega) only[go_sem,e1,e3,e4,e9,e15];done)|skip
    rw[Ae5 hi]
    have:g kids[i]=[kids[i]]++rowA (objC s.cells o) kids[i].dot:=by rw[<- hg];rfl
    rw[this,<-Zar,<-Zar]
    exact H4
   ·clear H e1 e3 e4 e6 e9
    rintro env U e15 c0 ⟨e1,e4,e9,w1,e3,H⟩
    rw[Zab] at H
    have hlen:=(H.sl 0 rfl).len
    simp +contextual (disch:=omega) only[go_sem,c0,e1,e3,e4,e9,e15,hlen]
    exact⟨_,rfl,H.drop1.drop1.drop1⟩
 obtain⟨r,U,R,h⟩:=key
 exact⟨r,U,R,h⟩
theorem A5t (s:State) (o:ByteArray) (h:CelR s.cells) (hn:(s.cells.map (·.dot)).Nodup) (hl:A7 s<=1099511627776):∀(f:Nat) (d:Dot),f≤fuel->Adq (objC s.cells o) f d->A97 s o d
 |0,d,hf,ha=>A15 s o d hn hl (ha.le hf) fun c hc=>by
  obtain⟨h1,h2⟩:=Zau.1 hc
  exact absurd (by simpa [Bu] using h2) (ha c h1)
 |f+1,d,hf,ha=>A15 s o d hn hl (ha.le hf) fun c hc=>by
  obtain⟨h1,h2⟩:=Zau.1 hc
  exact A5t s o h hn hl f c.dot (by omega) (ha c h1 (by simpa [Bu] using h2))
theorem A5u (N:St) (cs:List GV) (s:State) (hR:A8.R N s cs) (o:ByteArray) (hok:C9 s=true) (hl:A7 s<=1099511627776):∃ r U,Ret Tryz.prog 119 [.agg cs,.str o] N r U/\Hp N U [ow Aj.kd r (rowC s o)]:=by
 have hc:=Po hok
 have hn:=hc.nd
 have hb:=O0 hc o
 have hlen:=A8.len hR
 have hlen:cs.length=4:=hlen
 refine Fm A96 (Z0z rfl) ?_
 have H:=((Hp.refl N).new 1 cs).nil_Cell
 simp +contextual (disch:=omega) only[go_sem,A14,Lc,Jf,Bb hlen]
 obtain⟨w,U,R,H1⟩:=A5t s o hc hn hl fuel ⟨0,0⟩ (Zaa _) (Aav hc o).1 N _ cs _ 0 _ [] hR H rfl (by unfold rowC at hb;simp only[Zaq];omega)
 refine Ai R ?_
 simp +contextual (disch:=omega) only[go_sem]
 exact⟨_,rfl,by rw[rowC];exact H1.one⟩
theorem Qy {Y:Type} [DecidableEq Y] (x:Y):∀(a:Y) (l:List Y),Ay (a::l++[x])=if(a::l).getLast (by simp)=x then Ay (a::l) else Ay (a::l)++[x]
 |a,[]=>by
  by_cases h:a=x
  ·simp[Ay,h]
  ·simp[Ay,h]
 |a,b::r=>by
  have ih:=Qy x b r
  have e:a::b::r++[x]=a::b::(r++[x]):=rfl
  have e2:b::r++[x]=b::(r++[x]):=rfl
  rw[e2] at ih
  rw[e]
  have hc:∀(u v:Y) (t:List Y),Ay (u::v::t)=if u=v then Ay (v::t) else u::Ay (v::t):=fun u v t=>rfl
  rw[hc a b (r++[x]),hc a b r,ih]
  rw[show (a::b::r).getLast (by simp)=(b::r).getLast (by simp) from rfl]
  by_cases h1:a=b
  ·simp[h1]
  ·rw[if_neg h1,if_neg h1]
   split<;>simp
theorem Qz {Y:Type} [DecidableEq Y] {l:List Y} {i:Nat} (h0:0<i) (hi:i<l.length):Ay (l.take (i+1))=if l[i - 1]=l[i] then Ay (l.take i) else Ay (l.take i)++[l[i]]:=by
 rw[Zac hi]
 cases l with
 |nil=>simp at hi
 |cons a t=>
  obtain⟨j,rfl⟩:∃ j,i=j+1:=⟨i - 1,by omega⟩
  rw[List.take_succ_cons,Qy]
  have:(a::t.take j).getLast (by simp)=(a::t)[j+1 - 1]:=by
   rw[List.getLast_eq_getElem]
   have hl:(a::t.take j).length - 1=j:=by simp at hi ⊢;omega
   simp only[hl,Nat.add_sub_cancel]
   cases j with
   |zero=>rfl
   |succ j=>simp
  rw[this]
structure Eqs {Y:Type} [Inhabited Y] [DecidableEq Y] (e:El Y) where
 eq:∀ x y,binG .eql (e.val x) (e.val y)=some (.bool (decide (x=y)))
 ne:∀ x y,binG .neq (e.val x) (e.val y)=some (.bool (!decide (x=y)))
 ze:List GV
 hze:ze.length=e.p.z
section
variable {Y:Type} [Inhabited Y] {e:El Y} {N0 N U:St} {rs:List Thg} {v:GV} {l:List Y}
theorem El.atL (e:El Y) (H:Hp N U rs) (k:Nat) (hk:rs[k]? =some (ow e.p.kd v l)) {j:Nat} (hj:j<l.length):iadG e.p.z v (some j)=some (atz e.p.z v j)/\ldG e.g e.p.z U (atz e.p.z v j)=some (e.val l[j]):=by
 have h:=e.at (d:=l.toArray) H k (by simpa using hk) (j:=j) (by simpa using hj)
 have e1:l.toArray[j]! =l[j]:=by rw[getElem!_pos l.toArray j (by simpa using hj)];simp
 rw[e1] at h
 exact h
theorem A98 (H:Hp N U rs) (k:Nat) (hk:rs[k]? =some (ow e.p.kd v l)) (hl:l≠[]):∃ g off,v= .sl g off l.length/\zOk U e.p.z v=true:=by
 obtain⟨a,hO,-⟩:=H.see hk
 rcases OS.flat.1 hO with⟨h,_⟩|⟨g,pre,post,rfl,hB,rfl⟩
 ·exact absurd h hl
 ·refine⟨g,pre.length,rfl,?_⟩
  simp[zOk,Br.1 hB]
theorem clrRow (H:Hp N U rs) (k:Nat) {g off:Nat} (hk:rs[k]? =some (ow e.p.kd (.sl g off l.length) l)) (ze:List GV) (hze:ze.length=e.p.z) {m:Nat} (hm:m<=l.length) (hm0:0<m):
  ∃ U',clrG e.p.z ze U (.sl g (off+m*e.p.z) (l.length - m))=some (.tup [],U')/\U'.length=U.length/\Hp N U' (rs.set k (ow e.p.kd (.sl g off m) (l.take m))):=by
 obtain⟨a,hO,hnd,hbd,ht⟩:=(H.pick k hk).turn
 have hkl:=(Zad.1 hk).1
 rcases OS.flat.1 hO with⟨rfl,h2,_⟩|⟨g',pre,post,hv,hB,rfl⟩
 ·cases h2
 ·injection hv with hg ho _
  subst hg ho
  have hcl:e.p.cells l=e.p.cells (l.take m)++e.p.cells (l.drop m):=by
   rw[<- Pl.cells_append,Za5]
  by_cases h0:l.length - m=0
  ·refine⟨U,by show(if l.length - m=0 then _ else _)=_;rw[if_pos h0],rfl,?_⟩
   have hml:m=l.length:=by omega
   subst hml
   rw[Zab]
   exact Hp.unpick (ht (a':=[g]) ⟨by simp,fun g' h=>.inl h,by simp,fun _ _ _=>rfl⟩ hO) hkl
  ·have hlt:=(hbd g Zax).2
   have hL1:(e.p.cells (l.take m)).length=m*e.p.z:=by rw[Pl.cells_length,Zao];congr 1;omega
   have hL2:(e.p.cells (l.drop m)).length=(l.length - m)*e.p.z:=by rw[Pl.cells_length,Za4]
   have hR:(reps (l.length - m) ze).length=(l.length - m)*e.p.z:=by rw[Ih,hze]
   have hsp:Al (pre++e.p.cells l++post) (pre.length+m*e.p.z) (reps (l.length - m) ze)=pre++e.p.cells (l.take m)++(reps (l.length - m) ze++post):=by
    rw[hcl]
    unfold Al
    have t1:(pre++(e.p.cells (l.take m)++e.p.cells (l.drop m))++post).take (pre.length+m*e.p.z)=pre++e.p.cells (l.take m):=by
     have:pre++(e.p.cells (l.take m)++e.p.cells (l.drop m))++post=(pre++e.p.cells (l.take m))++(e.p.cells (l.drop m)++post):=by simp
     rw[this]
     exact List.take_left' (by simp[hL1])
    have t2:(pre++(e.p.cells (l.take m)++e.p.cells (l.drop m))++post).drop (pre.length+m*e.p.z+(reps (l.length - m) ze).length)=post:=by
     exact List.drop_left' (by simp[hL1,hL2,hR];omega)
    rw[t1,t2];simp
   refine⟨U.set g (some (.row e.p.z (pre++e.p.cells (l.take m)++(reps (l.length - m) ze++post)))),?_,by simp,?_⟩
   ·show(if l.length - m=0 then _ else _)=_
    rw[if_neg h0,Br.1 hB]
    show(if _ then _ else _)=_
    rw[if_pos ⟨rfl,by simp[hcl,hL1,hL2,hR];omega⟩,hsp]
   ·refine Hp.unpick (ht (a':=[g]) ⟨by simp,fun g' h=>.inl h,by simp,fun g' h h'=>Gh fun e=>h' (by rw[e];exact Zax)⟩ (OS.flat.2 (.inr ⟨g,pre,_,?_,Br.2 (by rw[Zan hlt]),rfl⟩))) hkl
    rw[Zao,Nat.min_eq_left hm]
theorem cutLo {z g off n k:Nat} (h:k<=n):cutG z (.sl g off n) (some (gi (k:Nat))) none=some (.sl g (off+k*z) (n - k)):=by
 simp[cutG,bndG,A1,h]
theorem cutHi {z g off n k:Nat} (h:k<=n):cutG z (.sl g off n) none (some (gi (k:Nat)))=some (.sl g off k):=by
 simp[cutG,bndG,A1,h]
theorem Afy {z g off n k j:Nat} (h:k+j<n):iadG z (.sl g (off+k*z) (n - k)) (some j)=some (atz z (.sl g off n) (k+j)):=by
 have:j<n - k:=by omega
 simp only[iadG,atz,Zbl]
 simp[this,Nat.add_assoc]
theorem A99 [DecidableEq Y] (E:Eqs e) {nC:Nat} (hC:A4 Tryz.prog nC=some (O4 e.p.z e.g E.ze)) (H:Hp N0 N rs) (k:Nat) (hk:rs[k]? =some (ow e.p.kd v l)) (hl:l.length<=1099511627776):∃ v' U,Ret Tryz.prog nC [v] N v' U/\Hp N0 U (rs.set k (ow e.p.kd v' (Ay l))):=by
 have key:∃ r U,Ret Tryz.prog nC [v] N r U/\Hp N0 U (rs.set k (ow e.p.kd r (Ay l))):=by
  refine Ap hC (Z0z rfl) ?_
  have hlen:=(H.sl k hk).len
  have hkl:=(Zad.1 hk).1
  rcases Zag l.length 2 with h2|h2
  ·have c0:decide ((l.length:Int)<2)=true:=by simp;omega
   simp +contextual (maxSteps:=600000) (disch:=omega) only[go_sem,O4,hlen,c0]
   have hcl:Ay l=l:=by
    match l,h2 with
    |[],_=>rfl
    |[x],_=>rfl
   rw[hcl]
   exact⟨_,rfl,by rw[<- (Zad.1 hk).2,Zat];exact H⟩
  ·have c0:decide ((l.length:Int)<2)=false:=by simp;omega
   have hne:l≠[]:=fun h=>by rw[h] at h2;simp at h2
   obtain⟨g,off,rfl,hz0⟩:=A98 H k hk hne
   simp +contextual (maxSteps:=600000) (disch:=omega) only[go_sem,O4,hlen,c0]
   have Hs:Hp N0 N (rs.set k (ow e.p.kd (.sl g off l.length) l)):=by rw[<- (Zad.1 hk).2,Zat];exact H
   refine Bp (fun n env U=>∃ i:Nat,env 0= .sl g off l.length/\env 3=gi i/\l.length - i=n/\0<i/\i<=l.length/\N=U/\Ay (l.take i)=l.take i) (l.length - 1) ⟨1,rfl,rfl,rfl,by omega,by omega,rfl,by
    match l,h2 with
    |x::t,_=>simp[Ay]⟩ ?_
   rintro J hJ n env U ⟨i,e0,e3,hn,hi0,hi,rfl,hT⟩
   rcases Zag i l.length with hlt|hge
   ·have c1:decide ((i:Int)<l.length)=true:=by simp;omega
    have i1:(i:Int) - 1=((i - 1:Nat):Int):=by omega
    obtain⟨a1,b1⟩:=e.atL H k hk hlt
    obtain⟨a2,b2⟩:=e.atL H k hk (j:=i - 1) (by omega)
    have hS:=Qz hi0 hlt
    by_cases hE:l[i]=l[i - 1]
    ·rw[if_pos hE.symm] at hS
     have dE:decide (l[i]=l[i - 1])=true:=decide_eq_true hE
     simp +contextual (maxSteps:=600000) (disch:=omega) only[go_sem,e0,e3,hlen,c1,i1,A1,a1,b1,a2,b2,E.eq,dE,hz0,cutLo hi,Za0,Za1]
     refine Bp (fun n env U=>∃(j m:Nat) (D:List Y),env 0= .sl g off l.length/\env 4= .sl g (off+i*e.p.z) (l.length - i)/\env 3=gi m/\env 5=gi j/\l.length - i - j=n/\0<j/\i+j<=l.length/\i<=m/\m+1<=i+j/\D.length=l.length/\(∀ q (h1:q<D.length) (h2:q<l.length),i+j<=q+1->D[q]=l[q])/\Ay (l.take (i+j))=D.take m/\N.length<=U.length/\Hp N0 U (rs.set k (ow e.p.kd (.sl g off l.length) D))) (l.length - i - 1) ⟨1,i,l,by simp +contextual (maxSteps:=600000) (disch:=omega) only[go_sem,e0],by simp +contextual (maxSteps:=600000) (disch:=omega) only[go_sem,e0],by simp +contextual (maxSteps:=600000) (disch:=omega) only[go_sem,e3],rfl,rfl,by omega,by omega,Zaa _,by omega,rfl,fun q h1 h2 _=>rfl,by rw[hS,hT],Zaa _,Hs⟩ ?_
     clear e0 e3
     rintro J2 hJ2 n2 env U ⟨j,m,D,e0,e4,e3,e5,hn2,hj0,hij,hm1,hm2,hD,hA,hT2,hle,hH⟩
     have hkk:(rs.set k (ow e.p.kd (.sl g off l.length) D))[k]? =some (ow e.p.kd (.sl g off l.length) D):=by rw[Zan hkl]
     have hlen2:=(hH.sl k hkk).len
     have hlen2:lenG false (.sl g off l.length)=some (l.length:Int):=hlen
     have hlen3:lenG false (.sl g (off+i*e.p.z) (l.length - i))=some ((l.length - i:Nat):Int):=rfl
     have hDne:D≠[]:=fun h=>by rw[h] at hD;simp at hD;omega
     have hz1:zOk U e.p.z (.sl g off l.length)=true:=by
      obtain⟨g',off',hv,hz⟩:=A98 hH k hkk hDne
      exact hz
     rcases Zag (i+j) l.length with hlt2|hge2
     ·have c2:decide ((j:Int)<((l.length - i:Nat):Int))=true:=by simp;omega
      have j1:(j:Int) - 1=((j - 1:Nat):Int):=by omega
      have x1:=Afy (z:=e.p.z) (g:=g) (off:=off) (n:=l.length) (k:=i) (j:=j) hlt2
      have x2:=Afy (z:=e.p.z) (g:=g) (off:=off) (n:=l.length) (k:=i) (j:=j - 1) (by omega)
      obtain⟨-,b1⟩:=e.atL hH k hkk (j:=i+j) (by omega)
      obtain⟨-,b2⟩:=e.atL hH k hkk (j:=i+(j - 1)) (by omega)
      obtain⟨a3,-⟩:=e.atL hH k hkk (j:=m) (by omega)
      rw[hA (i+j) (by omega) hlt2 (by omega)] at b1
      rw[hA (i+(j - 1)) (by omega) (by omega) (by omega)] at b2
      have hS2:=Qz (l:=l) (i:=i+j) (by omega) hlt2
      have hix:i+j - 1=i+(j - 1):=by omega
      by_cases hE2:l[i+j]=l[i+(j - 1)]
      ·rw[if_pos (by simp only[hix];exact hE2.symm),hT2] at hS2
       have dE:decide (l[i+j]=l[i+(j - 1)])=true:=decide_eq_true hE2
       simp +contextual (maxSteps:=600000) (disch:=omega) only[go_sem,e0,e3,e4,e5,hlen3,c2,j1,A1,x1,x2,b1,b2,E.ne,dE]
       refine⟨l.length - i - (j+1),by omega,hJ2 _ _ _ ⟨j+1,m,D,?_,?_,?_,?_,rfl,by omega,by omega,hm1,by omega,hD,fun q h1 h2 h3=>hA q h1 h2 (by omega),hS2,hle,hH⟩⟩
       all_goals simp +contextual (maxSteps:=600000) (disch:=omega) only[go_sem,e0,e3,e4,e5]
      ·rw[if_neg (by simp only[hix];exact fun h=>hE2 h.symm),hT2] at hS2
       have dE:decide (l[i+j]=l[i+(j - 1)])=false:=decide_eq_false hE2
       obtain⟨U3,s3,H3⟩:=hH.stw k hkk (j:=m) (by omega) e.p.z (e.val l[i+j]) l[i+j] (e.hc _) rfl e.hz
       rw[Za7] at H3
       simp +contextual (maxSteps:=600000) (disch:=omega) only[go_sem,e0,e3,e4,e5,hlen3,c2,j1,A1,x1,x2,b1,b2,E.ne,dE,a3,s3]
       have:=A7z s3
       refine⟨l.length - i - (j+1),by omega,hJ2 _ _ _ ⟨j+1,m+1,D.set m l[i+j],?_,?_,?_,?_,rfl,by omega,by omega,by omega,by omega,by simpa using hD,fun q h1 h2 h3=> ?_,?_,by omega,H3⟩⟩
       all_goals first|(simp +contextual (maxSteps:=600000) (disch:=omega) only[go_sem,e0,e3,e4,e5];done)|skip
       ·rw[List.getElem_set_ne (by omega)]
        exact hA q (by simpa using h1) h2 (by omega)
       ·have e9:i+(j+1)=i+j+1:=by omega
        rw[e9,hS2,Zac (by simp;omega),List.getElem_set_self,List.take_set_of_le (Zaa _)]
     ·have c2:decide ((j:Int)<((l.length - i:Nat):Int))=false:=by simp;omega
      have hfull:i+j=l.length:=by omega
      rw[hfull,Zab] at hT2
      rw[<- hD] at hkk
      obtain⟨U3,s3,hl3,H3⟩:=clrRow hH k (by rw[hD];rw[hD] at hkk;exact hkk) E.ze E.hze (m:=m) (by omega) (by omega)
      rw[hD] at s3
      rw[Za7,<-hT2] at H3
      have hcne:Ay l≠[]:=fun h=>by
       have h9:=congrArg Zbm hT2
       rw[h,Zao] at h9
       simp at h9;omega
      have hz3:zOk U3 e.p.z (.sl g off l.length)=true:=by
       obtain⟨g',off',hv,hz⟩:=A98 H3 k (by rw[Zan hkl]) hcne
       exact hz
      simp +contextual (maxSteps:=600000) (disch:=omega) only[go_sem,e0,e3,e4,e5,hlen3,c2,hz1,hz3,cutLo (show m<=l.length by omega),cutHi (show m<=l.length by omega),s3,Za0,Za1]
      exact⟨_,rfl,by omega,H3⟩
    ·rw[if_neg (fun h=>hE h.symm),hT] at hS
     have dE:decide (l[i]=l[i - 1])=false:=decide_eq_false hE
     simp +contextual (maxSteps:=600000) (disch:=omega) only[go_sem,e0,e3,hlen,c1,i1,A1,a1,b1,a2,b2,E.eq,dE]
     refine⟨l.length - (i+1),by omega,hJ _ _ _ ⟨i+1,?_,?_,rfl,by omega,by omega,rfl,by rw[hS,Zac hlt]⟩⟩
     all_goals simp +contextual (maxSteps:=600000) (disch:=omega) only[go_sem,e0,e3]
   ·have c1:decide ((i:Int)<l.length)=false:=by simp;omega
    simp +contextual (maxSteps:=600000) (disch:=omega) only[go_sem,e0,e3,hlen,c1]
    have:i=l.length:=by omega
    rw[this,Zab] at hT
    exact⟨_,rfl,by rw[hT];exact Hs⟩
 obtain⟨r,U,R,h⟩:=key
 exact⟨r,U,R,h⟩
end
def Vk:Fn1:=⟨82,[.t 4],(rg [oX 2 0,o 4 (.mov (.k .nilS))] (rg [o 12 (.lit 2 0 [] []),oM 5 12] (.seq (rg [oW 13 4 2,oC 14 160 13,oU 15 14] (oG 15 (rg [oM 16 5,oM 4 16] .ret))) (rg [o 17 (.lit 8 0 [] []),oM 6 17] (.seq (rg [oF 18 3 2,oL 19 18,oN 20 19,oV 21 (ki 0)] (oH 0 (rg [oB 22 .lss 21 20] (.seq (oJ 22 0) (.seq (.blk 1 (rg [oI 23 8 19 21,oW 24 8 23,o 8 (.new [s0,z0,z0,z0,z0,z0,z0,(.bool false)]),oS 8 8 24] (rg [oF 25 0 8,oL 26 25,oM 27 1,oB 28 .eql 26 27] (oG 28 (.reg [oM 29 6,oW 30 8 8,o 31 (.lit 8 1 [s0,z0,z0,z0,z0,z0,z0,(.bool false)] [(0,8,(.t 30))]),o 32 (.app 8 72 [s0,z0,z0,z0,z0,z0,z0,(.bool false)] (.t 29) (.t 31)),oM 6 32]))))) (.reg [oZ 33 21 1,oM 21 33])))))) (rg [oM 34 6,o 35 (.call 290 [(.t 34),(.k (.fn 291 []))])] (rg [o 36 (.build [z0,z0] []),o 37 (.lit 2 1 [z0,z0] [(0,2,(.t 36))]),oM 9 37] (.seq (oH 2 (.seq (rg [oM 38 9,oN 39 38,oE 40 .gtr 39 0] (oJ 40 2)) (.blk 3 (rg [oM 41 9,oM 42 9,oN 43 42,oE 44 .sub 43 1,oI 45 2 41 44,oW 46 2 45,o 10 (.new [z0,z0]),oS 2 10 46] (rg [oM 47 9,oM 48 9,oN 49 48,oE 50 .sub 49 1,o 51 (.cut 2 (.t 47) none (some (.t 50))),oM 9 51] (.seq (rg [oW 52 2 10,o 53 (.build [z0,z0] []),o 54 (.eqs true [.i .i64,.i .i64] (.t 52) (.t 53))] (oG 54 (.reg [oM 55 5,oW 56 2 10,o 57 (.lit 2 1 [z0,z0] [(0,2,(.t 56))]),o 58 (.app 2 16 [z0,z0] (.t 55) (.t 57)),oM 5 58]))) (rg [oM 59 6,oN 60 59,oE 61 .sub 60 1,oM 11 61] (oH 4 (.seq (rg [oM 62 11,oE 63 .geq 62 0] (oJ 63 4)) (.seq (.blk 5 (dw [oM 66 6,oM 67 11,oI 68 8 66 67,oF 69 4 68,oW 70 2 69,oW 71 2 10] [o 72 (.eqs false [.i .i64,.i .i64] (.t 70) (.t 71))] (oG 72 (.reg [oM 73 9,oM 74 6,oM 75 11,oI 76 8 74 75,oF 77 1 76,oW 78 2 77,o 79 (.lit 2 1 [z0,z0] [(0,2,(.t 78))]),o 80 (.app 2 16 [z0,z0] (.t 73) (.t 79)),oM 9 80])))) (.reg [oM 64 11,oE 65 .sub 64 1,oM 11 65]))))))))))) (rg [oM 81 5,oM 4 81] .ret)))))))))⟩
theorem A5v:A4 Tryz.prog 258=some Vk:=by kernel_rfl
theorem Afc {l:List Cell} {o:ByteArray} {i:Nat} (hi:i<l.length):(l.take (i+1)).filter (I6 o)=if I6 o l[i] then(l.take i).filter (I6 o)++[l[i]] else(l.take i).filter (I6 o):=by
 rw[Fn hi]
 split<;>simp
theorem Ae6 {l:List Cell} (d:Dot) {j:Nat} (hj:j<l.length):((l.drop j).filter (Bu d))=if Bu d l[j] then l[j]::(l.drop (j+1)).filter (Bu d) else(l.drop (j+1)).filter (Bu d):=by
 rw[Za3 hj,List.filter_cons]
theorem Hp.popDot {N U:St} {rs:List Thg} {v:GV} {S:List Dot} {d:Dot} (H:Hp N U rs) (k:Nat) (hk:rs[k]? =some (ow pDot.kd v (S++[d]))):∃ g off,v= .sl g off (S.length+1)/\zOk U 2 v=true/\Hp N U (rs.set k (ow pDot.kd (.sl g off S.length) S)):=by
 obtain⟨a,hO,hnd,hbd,ht⟩:=(H.pick k hk).turn
 have hkl:=(Zad.1 hk).1
 rcases OS.flat.1 hO with⟨h,_⟩|⟨g,pre,post,rfl,hB,rfl⟩
 ·simp at h
 ·refine⟨g,pre.length,by simp,?_,?_⟩
  ·have:zOk U 2 (.sl g pre.length (S++[d]).length)=true:=by simp[zOk,Br.1 hB];rfl
   exact this
  ·refine Hp.unpick (ht (a':=[g]) ⟨by simp,fun g' h=>.inl h,by simp,fun _ _ _=>rfl⟩ (OS.flat.2 (.inr ⟨g,pre,pDot.cells [d]++post,rfl,?_,rfl⟩))) hkl
   rw[hB,Pl.cells_append];simp
theorem A9a {P:Program} {a:Cd} {Q:Ex->Env->St->Prop} {env:Env} {N:St} (I:Nat->Env->St->Prop) (n j0:Nat) (X:Env->St->Prop) (h0:I n env N)
  (hs:∀(J:Nat->Env->St->Prop) (Yq:Env->St->Prop),(∀ k env N,I k env N->J k env N)->(∀ env N,X env N->Yq env N)->∀ k env N,I k env N->vc P a (fun e env' N'=>match e with| .nxt=>∃ k',k'<k/\J k' env' N'| .ext j=>j=j0/\Yq env' N'| .ret=>False) env N)
  (hx:∀ env N,X env N->Q (.ext j0) env N):vc P (.lop a) Q env N:=by
 refine Sd I n h0 fun k env N hI=>Ao (hs I X (fun _ _ _ h=>h) (fun _ _ h=>h) k env N hI) fun e env' N' he=> ?_
 cases e with
 |nxt=>exact he
 |ret=>exact he.elim
 |ext j=>obtain⟨rfl,he⟩:=he;exact hx _ _ he
theorem A37 (N:St) (cs:List GV) (s:State) (hR:A8.R N s cs) (o:ByteArray) (hl:A7 s<=1099511627776):∃ r U,Ret Tryz.prog 258 [.agg cs,.str o] N r U/\Hp N U [ow pDot.kd r (rowD s o)]:=by
 have hR0:=hR
 obtain⟨a,b,c,v,rfl,_,_,_,hc⟩:=hR
 obtain⟨l1,l2,l3,l4,_⟩:=Am hl
 refine Fm A5v (Z0z rfl) ?_
 have H:=((Hp.refl N).new 1 [a,b,c,v]).nil_Dot
 simp +contextual (disch:=omega) only[go_sem,Vk,Lc,Jf,Bb (cs:=[a,b,c,v]) rfl]
 refine Ag (Mu _ _ s (A8.pre hR0 H.sub) hl) (fun hok=> ?_) (fun hok=> ?_)
 rotate_left
 ·have e:rowD s o=[]:=by simp[rowD,hok]
  simp +contextual (disch:=omega) only[go_sem]
  exact⟨_,rfl,by rw[e];exact H.one⟩
 have e:rowD s o=(rowC s o).map (·.dot):=by simp[rowD,hok]
 have hcr:=Po hok
 have hbd:=O0 hcr o
 have hnd:=hcr.nd
 rw[e]
 have H:=H.nil_Cell
 simp +contextual (disch:=omega) only[go_sem,A2 (H.pt 2 rfl),hc.len]
 generalize hn1:N.length=n1 at*
 refine Ho s.cells.length 21 0 (fun i env U=>env 1= .str o/\env 19=v/\env 20=gi s.cells.length/\∃ u w,env 5=u/\env 6=w/\Hp N U [ow Aj.kd w ((s.cells.take i).filter (I6 o)),ow pDot.kd u [],pt 1 n1 [a,b,c,v]]) (fun env U=>∃ u w,env 5=u/\env 6=w/\Hp N U [ow Aj.kd w (s.cells.filter (I6 o)),ow pDot.kd u [],pt 1 n1 [a,b,c,v]]) rfl ⟨rfl,rfl,rfl,_,_,rfl,rfl,H⟩ ?_ ?_ ?_
 ·clear H
  rintro J Yq hJ hY i env U hi e21 c0 ⟨e1,e19,e20,u,w,e5,e6,H⟩
  have C1:=A5 (hc.pre H.sub) hi
  have hfl:=C3 s.cells (I6 o) i
  have hsn:=Afc (o:=o) hi
  have G:=H.grow (pre1 U (some (Blk.row 1 (A5s s.cells[i]))))
  cases ho:decide (s.cells[i].obj=o) with
  |false=>
   have hk0:I6 o s.cells[i]=false:=ho
   rw[hk0,if_neg (by simp)] at hsn
   simp +contextual (disch:=omega) only[go_sem,c0,e1,e5,e6,e19,e20,e21,C1,ho]
   refine hJ _ _ _ ⟨?_,?_,?_,u,w,?_,?_,by rw[hsn];exact G⟩
   all_goals simp +contextual (disch:=omega) only[go_sem,e1,e5,e6,e19,e20,e21]
  |true=>
   have hk0:I6 o s.cells[i]=true:=ho
   rw[hk0,if_pos rfl] at hsn
   obtain⟨w',U3,e8,H3⟩:=G.app_Cell 0 rfl s.cells[i] (by omega)
   simp +contextual (disch:=omega) only[go_sem,c0,e1,e5,e6,e19,e20,e21,C1,ho,e8]
   refine hJ _ _ _ ⟨?_,?_,?_,u,w',?_,?_,by rw[hsn];exact H3⟩
   all_goals simp +contextual (disch:=omega) only[go_sem,e1,e5,e6,e19,e20,e21]
 ·clear H
  rintro Yq hY env U e21 c0 ⟨e1,e19,e20,u,w,e5,e6,H⟩
  rw[Zab] at H
  simp +contextual (disch:=omega) only[go_sem,c0,e1,e5,e6,e19,e20,e21]
  refine hY _ _ ⟨u,w,?_,?_,H⟩
  all_goals simp +contextual (disch:=omega) only[go_sem,e5,e6]
 clear H
 rintro env U ⟨u,w,e5,e6,H⟩
 have hfl:=Zaf (I6 o) s.cells
 obtain⟨U1,R1,H⟩:=Ic H 0 rfl (by omega) (hnd.sublist ((List.filter_sublist).map _))
 simp +contextual (disch:=omega) only[go_sem,e5,e6]
 refine Ai R1 ?_
 have H:Hp N U1 [ow Aj.kd w (objC s.cells o),ow pDot.kd u [],pt 1 n1 [a,b,c,v]]:=H
 have H:=(H.new 2 [gi 0,gi 0]).toRow (p:=pDot) 0 rfl [⟨0,0⟩] rfl rfl 1 rfl
 have H:Hp N _ [ow pDot.kd (.sl U1.length 0 1) [⟨0,0⟩],ow Aj.kd w (objC s.cells o),ow pDot.kd u [],pt 1 n1 [a,b,c,v]]:=H
 simp +contextual (disch:=omega) only[go_sem,e5,e6]
 obtain⟨hz1,hz2⟩:=Aav hcr o
 have hnz:∀ c∈objC s.cells o,c.dot≠⟨0,0⟩:=fun c hcm h0=>by
  have:=hcr.dot c (Mz.1 hcm).1
  rw[h0,A0x] at this;cases this
 have hscl:=A30 s.cells o
 have htot:Vh (objC s.cells o) [⟨0,0⟩]=(rowC s o).map (·.dot):=by
  simp[Vh,A5r,isZ,rowC]
 have hM0:Qq (objC s.cells o) [⟨0,0⟩]=1+(rowC s o).length:=by simp[Qq,rowC]
 generalize hT:rowC s o=T at*
 generalize hsc:objC s.cells o=sc at*
 refine A9a (fun n env U=>∃(ws ud:GV) (S D:List Dot),env 5=ud/\env 6=w/\env 9=ws/\Qq sc S=n/\n<=1+T.length/\(∀ d∈S,Adq sc fuel d)/\D++Vh sc S=T.map (·.dot)/\Hp N U [ow pDot.kd ws S,ow Aj.kd w sc,ow pDot.kd ud D,pt 1 n1 [a,b,c,v]]) (1+T.length) 2 (fun env U=>∃ ud,env 5=ud/\Hp N U [ow pDot.kd ud (T.map (·.dot))]) ⟨_,u,[⟨0,0⟩],[],by simp +contextual (disch:=omega) only[go_sem,e5],by simp +contextual (disch:=omega) only[go_sem,e6],rfl,hM0,Zaa _,fun d hd=>by rw[Zbd.1 hd];exact hz1,by rw[htot];rfl,H⟩ ?_ ?_
 ·clear H e5 e6
  rintro J Yq hJ hY n env U ⟨ws,ud,S,D,e5,e6,e9,hn,hnT,hA,hE,H⟩
  have hSl:=A0y (sc:=sc) S
  have hDl:=congrArg Zbm hE
  simp only[Zae,Zai] at hDl
  rcases List.eq_nil_or_concat S with rfl|⟨S0,d,rfl⟩
  ·have hlenS:lenG false ws=some 0:=(H.sl 0 rfl).len
   have c0:decide ((0:Int)<0)=false:=rfl
   simp +contextual (disch:=omega) only[go_sem,e5,e6,e9,hlenS,c0]
   refine hY _ _ ⟨ud,?_,?_⟩
   ·simp +contextual (disch:=omega) only[go_sem,e5]
   ·have:D=T.map (·.dot):=by rw[<- hE];simp[Vh]
    rw[<- this]
    exact(H.pick 2 rfl).one
  ·rw[List.concat_eq_append] at*
   have hdA:=hA d (by simp)
   have hlenS:lenG false ws=some ((S0.length:Int)+1):=by
    have:=(H.sl 0 rfl).len
    rw[this];simp
   have c0:decide ((0:Int)<(S0.length:Int)+1)=true:=decide_eq_true (by omega)
   have hl1:(S0.length:Int)+1 - 1=(S0.length:Int):=by omega
   have hSl0:S0.length+1<=1+T.length:=by simp only[Zae,Zak,Zaq] at hSl;omega
   have C1:=Sh (H.sl 0 rfl) (i:=S0.length) (by simp)
   have hgd:(S0++[d])[S0.length]'(by simp)=d:=by simp
   rw[hgd] at C1
   have hpop:=Ac0 (S:=S0) hdA hnz
   have hmp:=Ac1 (S:=S0) hdA
   rw[hpop] at hE
   rw[hmp] at hn
   have hA2:∀ x∈S0++((sc.filter (Bu d)).map (·.dot)).reverse,Adq sc fuel x:=fun x hx=>by
    rcases List.mem_append.1 hx with h|h
    ·exact hA x (by simp[h])
    ·obtain⟨y,hy,rfl⟩:=Za2.1 (List.mem_reverse.1 h)
     exact hz2 y (Zau.1 hy).1
   obtain⟨g,off,rfl,hzk,HN⟩:=(H.new 1 [gi d.rep,gi d.seq]).popDot 1 rfl
   have HN:Hp N _ [pt 1 U.length [gi d.rep,gi d.seq],ow pDot.kd (.sl g off S0.length) S0,ow Aj.kd w sc,ow pDot.kd ud D,pt 1 n1 [a,b,c,v]]:=HN
   have hcut:=cutHi (z:=2) (g:=g) (off:=off) (n:=S0.length+1) (k:=S0.length) (by omega)
   have hlenC:=(HN.sl 2 rfl).len
   have hlD:=(HN.pt 0 rfl)
   cases hz:decide (d=⟨0,0⟩) with
   |true=>
    have hse:A5r d=[]:=by unfold A5r;rw[if_pos (show isZ d=true from hz)]
    rw[hse,Zav] at hE
    simp +contextual (disch:=omega) only[go_sem,e5,e6,e9,hlenS,c0,hl1,A1,C1,hzk,hcut,A2 hlD,hz,hlenC,Za0,Za1]
    generalize hnb:U.length=nb at*
    refine A9a (fun n env U=>∃(m:Nat) (wz:GV),env 5=ud/\env 6=w/\env 9=wz/\env 10= .ptr nb 0/\env 11=gi ((m:Int) - 1)/\m=n/\m<=sc.length/\Hp N U [pt 1 nb [gi d.rep,gi d.seq],ow pDot.kd wz (S0++(((sc.drop m).filter (Bu d)).map (·.dot)).reverse),ow Aj.kd w sc,ow pDot.kd ud D,pt 1 n1 [a,b,c,v]]) sc.length 4 (fun env U=>∃(wz:GV),env 5=ud/\env 6=w/\env 9=wz/\Hp N U [pt 1 nb [gi d.rep,gi d.seq],ow pDot.kd wz (S0++((sc.filter (Bu d)).map (·.dot)).reverse),ow Aj.kd w sc,ow pDot.kd ud D,pt 1 n1 [a,b,c,v]]) ⟨sc.length,.sl g off S0.length,by simp +contextual (disch:=omega) only[go_sem,e5],by simp +contextual (disch:=omega) only[go_sem,e6],by simp +contextual (disch:=omega) only[go_sem],by simp +contextual (disch:=omega) only[go_sem],by simp +contextual (disch:=omega) only[go_sem],rfl,Zaa _,by simp only[Zbh,Zbn,Zaz,Zbi,Za6];exact HN⟩ ?_ ?_
    ·clear H HN e5 e6 e9 hlD hzk
     rintro J2 Yq2 hJ2 hY2 n2 env U ⟨m,wz,e5,e6,e9,e10,e11,hn2,hm,HN⟩
     have hfd:=Zaf (Bu d) (sc.drop m)
     rw[Za4] at hfd
     cases m with
     |zero=>
      have e11:env 11=gi (-1):=e11
      have c1:decide ((0:Int)<= -1)=false:=rfl
      rw[Zbp] at HN
      simp +contextual (disch:=omega) only[go_sem,e5,e6,e9,e10,e11,c1]
      refine hY2 _ _ ⟨wz,?_,?_,?_,HN⟩
      all_goals simp +contextual (disch:=omega) only[go_sem,e5,e6,e9]
     |succ j=>
      have e11:env 11=gi (j:Int):=by rw[e11];congr 1;omega
      have c1:decide ((0:Int)<=j)=true:=by simp
      have C2:=A5 (HN.sl 2 rfl) (i:=j) (by omega)
      have hdr:=Ae6 d (l:=sc) (j:=j) (by omega)
      cases hr:decide (sc[j].ref=d) with
      |false=>
       have hk0:Bu d sc[j]=false:=hr
       rw[hk0,if_neg (by simp)] at hdr
       simp +contextual (disch:=omega) only[go_sem,e5,e6,e9,e10,e11,c1,A1,C2,A2 (HN.pt 0 rfl),hr]
       refine⟨j,by omega,hJ2 _ _ _ ⟨j,wz,?_,?_,?_,?_,?_,rfl,by omega,by rw[hdr];exact HN⟩⟩
       all_goals simp +contextual (disch:=omega) only[go_sem,e5,e6,e9,e10,e11]
      |true=>
       have hk0:Bu d sc[j]=true:=hr
       rw[hk0,if_pos rfl] at hdr
       obtain⟨w2,U4,e7,H4⟩:=HN.app_Dot 1 rfl sc[j].dot (by simp only[Zae,Zbb,Zai];omega)
       simp +contextual (disch:=omega) only[go_sem,e5,e6,e9,e10,e11,c1,A1,C2,A2 (HN.pt 0 rfl),hr,e7]
       refine⟨j,by omega,hJ2 _ _ _ ⟨j,w2,?_,?_,?_,?_,?_,rfl,by omega,?_⟩⟩
       all_goals first|(simp +contextual (disch:=omega) only[go_sem,e5,e6,e9,e10,e11];done)|skip
       rw[hdr,Zam,Zbg,<-Zar]
       exact H4
    ·clear H HN e5 e6 e9 hlD hzk
     rintro env U ⟨wz,e5,e6,e9,HN⟩
     simp +contextual (disch:=omega) only[go_sem,e5,e6,e9]
     refine⟨n - 1,by omega,hJ _ _ _ ⟨wz,ud,_,D,?_,?_,?_,by omega,?_,hA2,hE,HN.drop1⟩⟩
     all_goals first|(simp +contextual (disch:=omega) only[go_sem,e5,e6,e9];done)|omega
   |false=>
    have hse:A5r d=[d]:=by unfold A5r;rw[if_neg (by rw[isZ,hz];simp)]
    rw[hse,<-Zar] at hE
    obtain⟨ud2,U3,e8,HN⟩:=HN.app_Dot 3 rfl d (by omega)
    have HN:Hp N U3 [pt 1 U.length [gi d.rep,gi d.seq],ow pDot.kd (.sl g off S0.length) S0,ow Aj.kd w sc,ow pDot.kd ud2 (D++[d]),pt 1 n1 [a,b,c,v]]:=HN
    generalize hDD:D++[d]=D2 at*
    simp +contextual (disch:=omega) only[go_sem,e5,e6,e9,hlenS,c0,hl1,A1,C1,hzk,hcut,A2 hlD,hz,hlenC,e8,Za0,Za1]
    generalize hnb:U.length=nb at*
    refine A9a (fun n env U=>∃(m:Nat) (wz:GV),env 5=ud2/\env 6=w/\env 9=wz/\env 10= .ptr nb 0/\env 11=gi ((m:Int) - 1)/\m=n/\m<=sc.length/\Hp N U [pt 1 nb [gi d.rep,gi d.seq],ow pDot.kd wz (S0++(((sc.drop m).filter (Bu d)).map (·.dot)).reverse),ow Aj.kd w sc,ow pDot.kd ud2 D2,pt 1 n1 [a,b,c,v]]) sc.length 4 (fun env U=>∃(wz:GV),env 5=ud2/\env 6=w/\env 9=wz/\Hp N U [pt 1 nb [gi d.rep,gi d.seq],ow pDot.kd wz (S0++((sc.filter (Bu d)).map (·.dot)).reverse),ow Aj.kd w sc,ow pDot.kd ud2 D2,pt 1 n1 [a,b,c,v]]) ⟨sc.length,.sl g off S0.length,by simp +contextual (disch:=omega) only[go_sem,e5],by simp +contextual (disch:=omega) only[go_sem,e6],by simp +contextual (disch:=omega) only[go_sem],by simp +contextual (disch:=omega) only[go_sem],by simp +contextual (disch:=omega) only[go_sem],rfl,Zaa _,by simp only[Zbh,Zbn,Zaz,Zbi,Za6];exact HN⟩ ?_ ?_
    ·clear H HN e5 e6 e9 hlD hzk
     rintro J2 Yq2 hJ2 hY2 n2 env U ⟨m,wz,e5,e6,e9,e10,e11,hn2,hm,HN⟩
     have hfd:=Zaf (Bu d) (sc.drop m)
     rw[Za4] at hfd
     cases m with
     |zero=>
      have e11:env 11=gi (-1):=e11
      have c1:decide ((0:Int)<= -1)=false:=rfl
      rw[Zbp] at HN
      simp +contextual (disch:=omega) only[go_sem,e5,e6,e9,e10,e11,c1]
      refine hY2 _ _ ⟨wz,?_,?_,?_,HN⟩
      all_goals simp +contextual (disch:=omega) only[go_sem,e5,e6,e9]
     |succ j=>
      have e11:env 11=gi (j:Int):=by rw[e11];congr 1;omega
      have c1:decide ((0:Int)<=j)=true:=by simp
      have C2:=A5 (HN.sl 2 rfl) (i:=j) (by omega)
      have hdr:=Ae6 d (l:=sc) (j:=j) (by omega)
      cases hr:decide (sc[j].ref=d) with
      |false=>
       have hk0:Bu d sc[j]=false:=hr
       rw[hk0,if_neg (by simp)] at hdr
       simp +contextual (disch:=omega) only[go_sem,e5,e6,e9,e10,e11,c1,A1,C2,A2 (HN.pt 0 rfl),hr]
       refine⟨j,by omega,hJ2 _ _ _ ⟨j,wz,?_,?_,?_,?_,?_,rfl,by omega,by rw[hdr];exact HN⟩⟩
       all_goals simp +contextual (disch:=omega) only[go_sem,e5,e6,e9,e10,e11]
      |true=>
       have hk0:Bu d sc[j]=true:=hr
       rw[hk0,if_pos rfl] at hdr
       obtain⟨w2,U4,e7,H4⟩:=HN.app_Dot 1 rfl sc[j].dot (by simp only[Zae,Zbb,Zai];omega)
       simp +contextual (disch:=omega) only[go_sem,e5,e6,e9,e10,e11,c1,A1,C2,A2 (HN.pt 0 rfl),hr,e7]
       refine⟨j,by omega,hJ2 _ _ _ ⟨j,w2,?_,?_,?_,?_,?_,rfl,by omega,?_⟩⟩
       all_goals first|(simp +contextual (disch:=omega) only[go_sem,e5,e6,e9,e10,e11];done)|skip
       rw[hdr,Zam,Zbg,<-Zar]
       exact H4
    ·clear H HN e5 e6 e9 hlD hzk
     rintro env U ⟨wz,e5,e6,e9,HN⟩
     simp +contextual (disch:=omega) only[go_sem,e5,e6,e9]
     refine⟨n - 1,by omega,hJ _ _ _ ⟨wz,ud2,_,D2,?_,?_,?_,by omega,?_,hA2,hE,HN.drop1⟩⟩
     all_goals first|(simp +contextual (disch:=omega) only[go_sem,e5,e6,e9];done)|omega
 ·clear H e5 e6
  rintro env U ⟨ud,e5,H⟩
  simp +contextual (disch:=omega) only[go_sem,e5]
  exact⟨_,rfl,H⟩
def Ra:Fn1:=⟨34,[.t 4],(rg [oX 2 0,o 4 (.mov (.k .nilS))] (rg [o 9 (.lit 8 0 [] []),oM 5 9] (.seq (rg [oW 10 4 2,oM 11 1,oD 12 258 10 11,oN 13 12,oV 14 (ki 0)] (oH 0 (rg [oB 15 .lss 14 13] (.seq (oJ 15 0) (.seq (.blk 1 (rg [oI 16 2 12 14,oW 17 2 16,o 7 (.new [z0,z0]),oS 2 7 17] (dw [oF 18 3 2,oL 19 18,oW 20 4 2,oW 21 2 7,oD 22 140 20 21,oI 23 8 19 22,oW 24 8 23,o 8 (.new [s0,z0,z0,z0,z0,z0,z0,(.bool false)])] [oS 8 8 24] (rg [oF 25 7 8,oL 26 25,oU 27 26] (oG 27 (.reg [oM 28 5,oW 29 8 8,o 30 (.lit 8 1 [s0,z0,z0,z0,z0,z0,z0,(.bool false)] [(0,8,(.t 29))]),o 31 (.app 8 72 [s0,z0,z0,z0,z0,z0,z0,(.bool false)] (.t 28) (.t 30)),oM 5 31])))))) (.reg [oZ 32 14 1,oM 14 32])))))) (rg [oM 33 5,oM 4 33] .ret))))⟩
theorem A38:A4 Tryz.prog 208=some Ra:=by kernel_rfl
def Ci (c:Cell):Bool:= !c.gone
theorem rowT (s:State) (o:ByteArray):∃ T:List Cell,rowD s o=T.map (·.dot)/\rowL s o=T.filter Ci/\T.length<=1200120/\∀ c∈T,∃ k,∃ hk:k<s.cells.length,I2 s.cells c.dot=k/\s.cells[k]=c:=by
 cases h:C9 s with
 |true=>
  refine⟨rowC s o,by simp[rowD,h],by simp only[rowL,h,if_true];rfl,O0 (Po h) o,fun c hc=> ?_⟩
  obtain⟨k,hk,h1,h2⟩:=Adz h hc
  exact⟨k,hk,by simp[I2,h1],h2⟩
 |false=>exact⟨[],by simp[rowD,h],by simp[rowL,h],by simp,fun c hc=>by simp at hc⟩
theorem A5w {l:List Cell} {i:Nat} (hi:i<l.length):(l.take (i+1)).filter Ci=if Ci l[i] then(l.take i).filter Ci++[l[i]] else(l.take i).filter Ci:=by
 rw[Fn hi]
 split<;>simp
theorem Z9 (N:St) (cs:List GV) (s:State) (hR:A8.R N s cs) (o:ByteArray) (hl:A7 s<=1099511627776):∃ r U,Ret Tryz.prog 208 [.agg cs,.str o] N r U/\Hp N U [ow Aj.kd r (rowL s o)]:=by
 have hR0:=hR
 obtain⟨a,b,c,v,rfl,_,_,_,hc⟩:=hR
 obtain⟨l1,l2,l3,l4,_⟩:=Am hl
 refine Fm A38 (Z0z rfl) ?_
 have H:=((Hp.refl N).new 1 [a,b,c,v]).nil_Cell
 simp +contextual (disch:=omega) only[go_sem,Ra,Lc,Jf,Bb (cs:=[a,b,c,v]) rfl]
 obtain⟨r1,U1,R1,K1⟩:=A37 _ _ s (A8.pre hR0 H.sub) o hl
 obtain⟨T,hT1,hT2,hT3,hT4⟩:=rowT s o
 rw[hT1] at K1
 rw[hT2]
 refine F6 R1 K1 ?_
 have H:=H.add K1
 simp only[Zas,Zav] at H
 have hlen0:=(H.sl 0 rfl).len
 rw[Zai] at hlen0
 simp +contextual (disch:=omega) only[go_sem,hlen0]
 generalize hn1:N.length=n1 at*
 refine Pg T.length 14 (fun i env U=>env 2= .ptr n1 0/\env 12=r1/\env 13=gi T.length/\∃ u,env 5=u/\Hp N U [ow Aj.kd u ((T.take i).filter Ci),ow pDot.kd r1 (T.map fun x:Cell=>x.dot),pt 1 n1 [a,b,c,v]]) rfl ⟨rfl,rfl,rfl,_,rfl,H.pick 1 rfl⟩ ?_ ?_
 ·clear H
  rintro J hJ i env U hi e14 c0 ⟨e2,e12,e13,u,e5,H⟩
  have hfl:=C3 T Ci i
  have hsn:=A5w hi
  have C1:=Sh (H.sl 1 rfl) (i:=i) (by simpa using hi)
  rw[List.getElem_map] at C1
  obtain⟨k,hk,hk1,hk2⟩:=hT4 T[i] (Zal hi)
  have G:=H.grow (pre1 U (some (Blk.row 1 [gi T[i].dot.rep,gi T[i].dot.seq])))
  have CA:=A5n _ _ s (A8.pre hR0 G.sub) T[i].dot hl
  rw[hk1] at CA
  have C2:=A5 (hc.pre G.sub) hk
  rw[hk2] at C2
  simp +contextual (disch:=omega) only[go_sem,c0,e2,e5,e12,e13,e14,C1,A2 (G.pt 2 rfl),Bb (cs:=[a,b,c,v]) rfl]
  refine A6 CA ?_
  cases hg:T[i].gone with
  |true=>
   have hk0:Ci T[i]=false:=by simp[Ci,hg]
   rw[hk0,if_neg (by simp)] at hsn
   have G2:=G.grow (pre1 _ (some (Blk.row 1 [.str T[i].obj,gi T[i].dot.rep,gi T[i].dot.seq,gi T[i].time,gi T[i].ref.rep,gi T[i].ref.seq,gi T[i].val,.bool true])))
   simp +contextual (disch:=omega) only[go_sem,c0,e2,e5,e12,e13,e14,A1,C2,hg]
   refine hJ _ _ _ ⟨?_,?_,?_,u,?_,by rw[hsn];exact G2⟩
   all_goals simp +contextual (disch:=omega) only[go_sem,e2,e5,e12,e13,e14]
  |false=>
   have hk0:Ci T[i]=true:=by simp[Ci,hg]
   rw[hk0,if_pos rfl] at hsn
   have G2:=G.grow (pre1 _ (some (Blk.row 1 [.str T[i].obj,gi T[i].dot.rep,gi T[i].dot.seq,gi T[i].time,gi T[i].ref.rep,gi T[i].ref.seq,gi T[i].val,.bool false])))
   obtain⟨w',U3,e8,H3⟩:=G2.app_Cell 0 rfl T[i] (by omega)
   simp only[hg] at e8
   simp +contextual (disch:=omega) only[go_sem,c0,e2,e5,e12,e13,e14,A1,C2,hg,e8]
   refine hJ _ _ _ ⟨?_,?_,?_,w',?_,by rw[hsn];exact H3⟩
   all_goals simp +contextual (disch:=omega) only[go_sem,e2,e5,e12,e13,e14]
 ·clear H
  rintro env U e14 c0 ⟨e2,e12,e13,u,e5,H⟩
  rw[Zab] at H
  simp +contextual (disch:=omega) only[go_sem,c0,e2,e5,e12,e13,e14]
  exact⟨_,rfl,H.one⟩
namespace O
open Go Go.RowKit Go.Proofs.YtnknigikcdgebaaGreatDoor.Sy Go.Sort
variable {Y:Type} [Inhabited Y] {lt:Y->Y->Bool} {N0 N:St} {rs:List Thg} {k:Nat} {v:GV} {d:Array Y}
theorem ins_ret (S:SrtO Y lt) (H:Holds S.e N0 N rs k v d) {a b:Nat} (hab:a<=b) (hb:b<=d.size) (hs:d.size<=1099511627776):∃ U,Ret Tryz.prog S.q.insertionSort [v,gi a,gi b] N (.tup []) U/\Holds S.e N0 U rs k v (insertionSort lt d a b):=by
 have key:∃ r U,Ret Tryz.prog S.q.insertionSort [v,gi a,gi b] N r U/\r= .tup []/\Holds S.e N0 U rs k v (insertionSort lt d a b):=by
  refine Ap S.h_insertionSort (Z0z rfl) ?_
  simp +contextual (disch:=omega) only[go_sem,Ib]
  refine Bp (fun n env U=>∃(i:Nat) (D:Array Y),env 0=v/\env 1=gi a/\env 2=gi b/\env 6=gi i/\b - i=n/\a<i/\D.size=d.size/\N.length<=U.length/\Holds S.e N0 U rs k v D/\insOuter lt a b i D=insertionSort lt d a b) (b - (a+1)) ⟨a+1,d,rfl,rfl,rfl,rfl,rfl,by omega,rfl,Zaa _,H,rfl⟩ ?_
  rintro J hJ n env U ⟨i,D,e0,e1,e2,ei,hn,hai,hD,hle,hH,hE⟩
  rw[insOuter] at hE
  rcases Zag i b with hi|hi
  ·rw[if_pos hi] at hE
   have c0:decide ((i:Int)<b)=true:=by simp;omega
   simp +contextual (disch:=omega) only[go_sem,e0,e1,e2,ei,c0]
   refine Bp (fun n env U=>∃(j:Nat) (E:Array Y),env 0=v/\env 1=gi a/\env 2=gi b/\env 6=gi i/\env 7=gi j/\j=n/\j<=i/\E.size=d.size/\N.length<=U.length/\Holds S.e N0 U rs k v E/\insInner lt a j E=insInner lt a i D) i ⟨i,D,by simp +contextual (disch:=omega) only[go_sem,e0],by simp +contextual (disch:=omega) only[go_sem,e1],by simp +contextual (disch:=omega) only[go_sem,e2],by simp +contextual (disch:=omega) only[go_sem,ei],rfl,rfl,Zaa _,hD,hle,hH,rfl⟩ ?_
   clear hH hle e0 e1 e2 ei
   rintro J2 hJ2 n2 env U ⟨j,E,e0,e1,e2,ei,ej,hnj,hji,hE2,hle,hH,hI⟩
   have fin:∀ env',env' 0=v->env' 1=gi a->env' 2=gi b->env' 6=gi ((i:Int)+1)->insInner lt a i D=E->∃ k',k'<n/\J k' env' U:=fun env' h0 h1 h2 h6 hEq=>⟨b - (i+1),by omega,hJ _ _ _ ⟨i+1,E,h0,h1,h2,h6,rfl,by omega,hE2,hle,hH,by rw[<- hEq];exact hE⟩⟩
   have cj:decide ((a:Int)<j)=decide (a<j):=by simp
   by_cases hc:a<j
   ·obtain⟨m,rfl⟩:∃ m,j=m+1:=⟨j - 1,by omega⟩
    rw[decide_eq_true hc] at cj
    have cj:decide ((a:Int)<(m:Int)+1)=true:=cj
    have n1:B9 (some (.int .i64 ((m:Int)+1)))=some (m+1):=B4 (by simp)
    have m1:(m:Int)+1 - 1=m:=by omega
    obtain⟨U1,U2,s1,s2,hH2,hl2⟩:=hH.sw (a:=m+1) (b:=m) (by omega) (by omega)
    rw[insInner] at hI
    simp +contextual (disch:=omega) only[go_sem,e0,e1,e2,ei,ej,cj,n1,m1,A1,hH.iad (j:=m+1) (by omega),hH.ld (j:=m+1) (by omega),hH.iad (j:=m) (by omega),hH.ld (j:=m) (by omega)]
    refine A6 (S.call _ _ _) ?_
    cases hl:lt E[m+1]! E[m]! with
    |true=>
     rw[if_pos (by simp[hl];omega)] at hI
     simp +contextual (disch:=omega) only[go_sem,e0,e1,e2,ei,ej,cj,n1,m1,A1,hl,hH.iad (j:=m+1) (by omega),hH.ld (j:=m+1) (by omega),hH.iad (j:=m) (by omega),hH.ld (j:=m) (by omega),s1,s2]
     refine⟨m,by omega,hJ2 _ _ _ ⟨m,swp E (m+1) m,?_,?_,?_,?_,?_,rfl,by omega,by rw[Go.Sort.swp_size];exact hE2,by omega,hH2,hI⟩⟩
     all_goals simp +contextual (disch:=omega) only[go_sem,e0,e1,e2,ei,ej,m1]
    |false=>
     rw[if_neg (by simp[hl])] at hI
     simp +contextual (disch:=omega) only[go_sem,e0,e1,e2,ei,ej,cj,hl,]
     refine fin _ ?_ ?_ ?_ ?_ hI.symm
     all_goals simp +contextual (disch:=omega) only[go_sem,e0,e1,e2,ei]
   ·rw[decide_eq_false hc] at cj
    have hI:insInner lt a i D=E:=by
     rw[<- hI]
     cases j with
     |zero=>rfl
     |succ j=>rw[insInner,if_neg (by simp;intro h;omega)]
    simp +contextual (disch:=omega) only[go_sem,e0,e1,e2,ei,ej,cj]
    refine fin _ ?_ ?_ ?_ ?_ hI
    all_goals simp +contextual (disch:=omega) only[go_sem,e0,e1,e2,ei]
  ·rw[if_neg (by omega)] at hE
   have c0:decide ((i:Int)<b)=false:=by simp;omega
   simp +contextual (disch:=omega) only[go_sem,e0,e1,e2,ei,c0]
   exact⟨_,rfl,hle,rfl,by rw[<- hE];exact hH⟩
 obtain⟨r,U,R,rfl,h⟩:=key
 exact⟨U,R,h⟩
end O
namespace O
open Go Go.RowKit Go.Proofs.YtnknigikcdgebaaGreatDoor.Sy Go.Sort
variable {Y:Type} [Inhabited Y] {lt:Y->Y->Bool} {N0 N:St} {rs:List Thg} {k:Nat} {v:GV} {d:Array Y}
theorem siftDown_size (lt:Y->Y->Bool) (hi F:Nat):∀(n root:Nat) (d:Array Y),hi - root<=n->(siftDown lt hi F root d).size=d.size
 |0,root,d,h=>by rw[siftDown,dif_pos (by omega)]
 |n+1,root,d,h=>by
  rw[siftDown]
  split
  ·rfl
  ·split
   ·split
    ·rfl
    ·split
     ·rw[siftDown_size lt hi F n _ _ (by omega),Go.Sort.swp_size]
     ·rfl
   ·split
    ·rfl
    ·rw[siftDown_size lt hi F n _ _ (by omega),Go.Sort.swp_size]
theorem sift_ret (S:SrtO Y lt) (H:Holds S.e N0 N rs k v d) {lo hi F:Nat} (hb:F+hi<=d.size) (hlo:lo<=d.size) (hs:d.size<=1099511627776):∃ U,Ret Tryz.prog S.q.siftDown [v,gi lo,gi hi,gi F] N (.tup []) U/\Holds S.e N0 U rs k v (siftDown lt hi F lo d):=by
 have key:∃ r U,Ret Tryz.prog S.q.siftDown [v,gi lo,gi hi,gi F] N r U/\r= .tup []/\Holds S.e N0 U rs k v (siftDown lt hi F lo d):=by
  refine Ap S.h_siftDown (Z0z rfl) ?_
  simp +contextual (disch:=omega) only[go_sem,Qu]
  refine Bp (fun n env U=>∃(r:Nat) (D:Array Y),env 0=v/\env 1=gi lo/\env 2=gi hi/\env 3=gi F/\env 8=gi r/\hi - r=n/\r<=d.size/\D.size=d.size/\N.length<=U.length/\Holds S.e N0 U rs k v D/\siftDown lt hi F r D=siftDown lt hi F lo d) (hi - lo) ⟨lo,d,rfl,rfl,rfl,rfl,rfl,rfl,hlo,rfl,Zaa _,H,rfl⟩ ?_
  rintro J hJ n env U ⟨r,D,e0,e1,e2,e3,er,hn,hr,hD,hle,hH,hE⟩
  rw[siftDown] at hE
  have w2:IntKind.i64.wrap (2*(r:Int))=2*(r:Int):=Af (by omega) (by omega)
  by_cases h1:2*r+1≥hi
  ·rw[dif_pos h1] at hE
   have c1:decide ((hi:Int)<=2*(r:Int)+1)=true:=by simp;omega
   simp +contextual (disch:=omega) only[go_sem,e0,e1,e2,e3,er,w2,c1]
   exact⟨_,rfl,hle,rfl,by rw[<- hE];exact hH⟩
  ·rw[dif_neg h1] at hE
   have c1:decide ((hi:Int)<=2*(r:Int)+1)=false:=by simp;omega
   have nr:B9 (some (.int .i64 ((F:Int)+r)))=some (F+r):=B4 (by simp)
   have ir:=hH.iad (j:=F+r) (by omega)
   have lr:=hH.ld (j:=F+r) (by omega)
   by_cases hA:2*r+2<hi
   ·have cA:decide (2*(r:Int)+1+1<hi)=true:=by simp;omega
    have nc:B9 (some (.int .i64 ((F:Int)+(2*(r:Int)+1))))=some (F+(2*r+1)):=B4 (by simp)
    have nc2:B9 (some (.int .i64 ((F:Int)+(2*(r:Int)+1)+1)))=some (F+(2*r+1)+1):=B4 (by simp)
    have ic:=hH.iad (j:=F+(2*r+1)) (by omega)
    have lc:=hH.ld (j:=F+(2*r+1)) (by omega)
    have ic2:=hH.iad (j:=F+(2*r+1)+1) (by omega)
    have lc2:=hH.ld (j:=F+(2*r+1)+1) (by omega)
    simp +contextual (disch:=omega) only[go_sem,e0,e1,e2,e3,er,w2,c1,cA,nc,nc2,ic,lc,ic2,lc2]
    refine A6 (S.call _ _ _) ?_
    cases hl1:lt D[F+(2*r+1)]! D[F+(2*r+1)+1]! with
    |true=>
     clear nc ic lc
     rw[if_pos (by simp[hl1];omega)] at hE
     rw[dif_pos hA] at hE
     obtain⟨c,hc⟩:∃ c,c=2*r+2:=⟨_,rfl⟩
     rw[<- hc] at hE
     have ncI:2*(r:Int)+1+1=c:=by omega
     have nc:B9 (some (.int .i64 ((F:Int)+c)))=some (F+c):=B4 (by simp)
     have ic:=hH.iad (j:=F+c) (by omega)
     have lc:=hH.ld (j:=F+c) (by omega)
     simp +contextual (disch:=omega) only[go_sem,e0,e1,e2,e3,er,w2,cA,nr,nc,ncI,hl1,ir,lr,ic,lc]
     obtain⟨U1,U2,s1,s2,hH2,hl2⟩:=hH.sw (a:=F+r) (b:=F+c) (by omega) (by omega)
     refine A6 (S.call _ _ _) ?_
     cases hl:lt D[F+r]! D[F+c]! with
     |true=>
      rw[if_neg (by simp[hl])] at hE
      simp +contextual (disch:=omega) only[go_sem,e0,e1,e2,e3,er,w2,c1,cA,nr,nc,ncI,hl,ir,lr,ic,lc,s1,s2]
      refine⟨hi - c,by omega,hJ _ _ _ ⟨c,swp D (F+r) (F+c),?_,?_,?_,?_,?_,rfl,by omega,by rw[Go.Sort.swp_size];exact hD,by omega,hH2,hE⟩⟩
      all_goals simp +contextual (disch:=omega) only[go_sem,e0,e1,e2,e3,er,ncI]
     |false=>
      rw[if_pos (by simp[hl])] at hE
      simp +contextual (disch:=omega) only[go_sem,e0,e1,e2,e3,er,hl]
      exact⟨_,rfl,hle,rfl,by rw[<- hE];exact hH⟩
    |false=>
     rw[if_neg (by simp[hl1])] at hE
     obtain⟨c,hc⟩:∃ c,c=2*r+1:=⟨_,rfl⟩
     rw[<- hc] at hE ic lc
     have ncI:2*(r:Int)+1=c:=by omega
     rw[<- hc,ncI] at nc
     simp +contextual (disch:=omega) only[go_sem,e0,e1,e2,e3,er,w2,cA,nr,nc,ncI,hl1,ir,lr,ic,lc]
     obtain⟨U1,U2,s1,s2,hH2,hl2⟩:=hH.sw (a:=F+r) (b:=F+c) (by omega) (by omega)
     refine A6 (S.call _ _ _) ?_
     cases hl:lt D[F+r]! D[F+c]! with
     |true=>
      rw[if_neg (by simp[hl])] at hE
      simp +contextual (disch:=omega) only[go_sem,e0,e1,e2,e3,er,w2,c1,cA,nr,nc,ncI,hl,ir,lr,ic,lc,s1,s2]
      refine⟨hi - c,by omega,hJ _ _ _ ⟨c,swp D (F+r) (F+c),?_,?_,?_,?_,?_,rfl,by omega,by rw[Go.Sort.swp_size];exact hD,by omega,hH2,hE⟩⟩
      all_goals simp +contextual (disch:=omega) only[go_sem,e0,e1,e2,e3,er,ncI]
     |false=>
      rw[if_pos (by simp[hl])] at hE
      simp +contextual (disch:=omega) only[go_sem,e0,e1,e2,e3,er,hl]
      exact⟨_,rfl,hle,rfl,by rw[<- hE];exact hH⟩
   ·have cA:decide (2*(r:Int)+1+1<hi)=false:=by simp;omega
    rw[if_neg (by simp;intro h;omega)] at hE
    obtain⟨c,hc⟩:∃ c,c=2*r+1:=⟨_,rfl⟩
    rw[<- hc] at hE
    have ncI:2*(r:Int)+1=c:=by omega
    have nc:B9 (some (.int .i64 ((F:Int)+c)))=some (F+c):=B4 (by simp)
    have ic:=hH.iad (j:=F+c) (by omega)
    have lc:=hH.ld (j:=F+c) (by omega)
    rw[ncI] at c1 cA
    simp +contextual (disch:=omega) only[go_sem,e0,e1,e2,e3,er,w2,c1,cA,nr,nc,ncI,ir,lr,ic,lc]
    obtain⟨U1,U2,s1,s2,hH2,hl2⟩:=hH.sw (a:=F+r) (b:=F+c) (by omega) (by omega)
    refine A6 (S.call _ _ _) ?_
    cases hl:lt D[F+r]! D[F+c]! with
    |true=>
     rw[if_neg (by simp[hl])] at hE
     simp +contextual (disch:=omega) only[go_sem,e0,e1,e2,e3,er,w2,c1,cA,nr,nc,ncI,hl,ir,lr,ic,lc,s1,s2]
     refine⟨hi - c,by omega,hJ _ _ _ ⟨c,swp D (F+r) (F+c),?_,?_,?_,?_,?_,rfl,by omega,by rw[Go.Sort.swp_size];exact hD,by omega,hH2,hE⟩⟩
     all_goals simp +contextual (disch:=omega) only[go_sem,e0,e1,e2,e3,er,ncI]
    |false=>
     rw[if_pos (by simp[hl])] at hE
     simp +contextual (disch:=omega) only[go_sem,e0,e1,e2,e3,er,hl]
     exact⟨_,rfl,hle,rfl,by rw[<- hE];exact hH⟩
 obtain⟨r,U,R,rfl,h⟩:=key
 exact⟨U,R,h⟩
theorem heap_ret (S:SrtO Y lt) (H:Holds S.e N0 N rs k v d) {a b:Nat} (hab:a<=b) (hb:b<=d.size) (hs:d.size<=1099511627776):∃ U,Ret Tryz.prog S.q.heapSort [v,gi a,gi b] N (.tup []) U/\Holds S.e N0 U rs k v (heapSort lt d a b):=by
 have key:∃ r U,Ret Tryz.prog S.q.heapSort [v,gi a,gi b] N r U/\r= .tup []/\Holds S.e N0 U rs k v (heapSort lt d a b):=by
  refine Ap S.h_heapSort (Z0z rfl) ?_
  obtain⟨h,hh⟩:∃ h,h=b - a:=⟨_,rfl⟩
  have hI:(b:Int) - a=h:=by omega
  have hq:((h:Int) - 1).tdiv 2=(((h - 1) / 2+1:Nat):Int) - 1:=by
   rcases Zbe h with rfl|hp
   ·rfl
   ·have:(h:Int) - 1=((h - 1:Nat):Int):=by omega
    rw[this]
    have h2:((h - 1:Nat):Int).tdiv 2=(((h - 1) / 2:Nat):Int):=rfl
    rw[h2];omega
  obtain⟨M,hM⟩:∃ M,M=(h - 1) / 2+1:=⟨_,rfl⟩
  rw[<- hM] at hq
  have hE:heapSort lt d a b=heapPop lt a h (heapBuild lt h a M d):=by rw[heapSort,hM,hh]
  rw[hE]
  simp +contextual (disch:=omega) only[go_sem,Qs,hI,hq]
  refine Bp (fun n env U=>∃(m:Nat) (D:Array Y),env 0=v/\env 1=gi a/\env 2=gi b/\env 6=gi a/\env 7=gi 0/\env 8=gi h/\env 9=gi ((m:Int) - 1)/\m=n/\m<=M/\D.size=d.size/\N.length<=U.length/\Holds S.e N0 U rs k v D/\heapBuild lt h a m D=heapBuild lt h a M d) M ⟨M,d,rfl,rfl,rfl,rfl,rfl,rfl,rfl,rfl,Zaa _,rfl,Zaa _,H,rfl⟩ ?_
  rintro J hJ n env U ⟨m,D,e0,e1,e2,e6,e7,e8,e9,hn,hm,hD,hle,hH,hE⟩
  cases m with
  |succ j=>
   have e9:env 9=gi (j:Int):=by rw[e9];congr 1;omega
   have c0:decide ((0:Int)<=j)=true:=by simp
   rw[heapBuild] at hE
   simp +contextual (disch:=omega) only[go_sem,e0,e1,e2,e6,e7,e8,e9,c0]
   obtain⟨U1,R,hH1⟩:=sift_ret S hH (lo:=j) (hi:=h) (F:=a) (by omega) (by omega) (by omega)
   have hl1:=R.2.1
   refine Ai R ?_
   simp +contextual (disch:=omega) only[go_sem,e0,e1,e2,e6,e7,e8,e9]
   refine⟨j,by omega,hJ _ _ _ ⟨j,_,?_,?_,?_,?_,?_,?_,?_,rfl,by omega,?_,by omega,hH1,hE⟩⟩
   all_goals first|(simp +contextual (disch:=omega) only[go_sem,e0,e1,e2,e6,e7,e8,e9];done)|(rw [siftDown_size lt h a _ _ _ (Zaa _)];exact hD)
  |zero=>
   have e9:env 9=gi (-1):=e9
   rw[heapBuild] at hE
   simp +contextual (disch:=omega) only[go_sem,e0,e1,e2,e6,e7,e8,e9]
   have c0:decide ((0:Int)<= -1)=false:=rfl
   simp +contextual (disch:=omega) only[go_sem,e0,e1,e2,e6,e7,e8,e9,c0]
   refine Bp (fun n env U=>∃(m:Nat) (E:Array Y),env 0=v/\env 1=gi a/\env 2=gi b/\env 6=gi a/\env 7=gi 0/\env 8=gi h/\env 10=gi ((m:Int) - 1)/\m=n/\m<=h/\E.size=d.size/\N.length<=U.length/\Holds S.e N0 U rs k v E/\heapPop lt a m E=heapPop lt a h (heapBuild lt h a M d)) h ⟨h,D,by simp +contextual (disch:=omega) only[go_sem,e0],by simp +contextual (disch:=omega) only[go_sem,e1],by simp +contextual (disch:=omega) only[go_sem,e2],by simp +contextual (disch:=omega) only[go_sem,e6],by simp +contextual (disch:=omega) only[go_sem,e7],by simp +contextual (disch:=omega) only[go_sem,e8],rfl,rfl,Zaa _,hD,hle,hH,by rw[hE]⟩ ?_
   clear hH hle e0 e1 e2 e6 e7 e8 e9
   rintro J2 hJ2 n2 env U ⟨m,E,e0,e1,e2,e6,e7,e8,e9,hn2,hm,hE2,hle,hH,hP⟩
   cases m with
   |succ j=>
    have e9:env 10=gi (j:Int):=by rw[e9];congr 1;omega
    have c0:decide ((0:Int)<=j)=true:=by simp
    rw[heapPop] at hP
    have nr:B9 (some (.int .i64 ((a:Int)+j)))=some (a+j):=B4 (by simp)
    obtain⟨U1,U2,s1,s2,hH2,hl2⟩:=hH.sw (a:=a) (b:=a+j) (by omega) (by omega)
    obtain⟨U3,R,hH3⟩:=sift_ret S hH2 (lo:=0) (hi:=j) (F:=a) (by rw[Go.Sort.swp_size];omega) (by omega) (by rw[Go.Sort.swp_size];omega)
    have hl3:=R.2.1
    simp +contextual (disch:=omega) only[go_sem,e0,e1,e2,e6,e7,e8,e9,c0,nr,A1,hH.iad (j:=a) (by omega),hH.ld (j:=a) (by omega),hH.iad (j:=a+j) (by omega),hH.ld (j:=a+j) (by omega),s1,s2]
    refine Ai R ?_
    simp +contextual (disch:=omega) only[go_sem,e0,e1,e2,e6,e7,e8,e9]
    refine⟨j,by omega,hJ2 _ _ _ ⟨j,_,?_,?_,?_,?_,?_,?_,?_,rfl,by omega,?_,by omega,hH3,hP⟩⟩
    all_goals first|(simp +contextual (disch:=omega) only[go_sem,e0,e1,e2,e6,e7,e8,e9];done)|(rw [siftDown_size lt _ a _ _ _ (Zaa _),Go.Sort.swp_size];exact hE2)
   |zero=>
    have e9:env 10=gi (-1):=e9
    rw[heapPop] at hP
    simp +contextual (disch:=omega) only[go_sem,e0,e1,e2,e6,e7,e8,e9,c0]
    exact⟨_,rfl,hle,rfl,by rw[<- hP];exact hH⟩
 obtain⟨r,U,R,rfl,h⟩:=key
 exact⟨U,R,h⟩
theorem rev_ret (S:SrtO Y lt) (H:Holds S.e N0 N rs k v d) {a b:Nat} (hab:a<b) (hb:b<=d.size) (hs:d.size<=1099511627776):∃ U,Ret Tryz.prog S.q.reverseRange [v,gi a,gi b] N (.tup []) U/\Holds S.e N0 U rs k v (reverseRange d a b):=by
 have key:∃ r U,Ret Tryz.prog S.q.reverseRange [v,gi a,gi b] N r U/\r= .tup []/\Holds S.e N0 U rs k v (reverseRange d a b):=by
  refine Ap S.h_reverseRange (Z0z rfl) ?_
  have hbI:(b:Int) - 1=((b - 1:Nat):Int):=by omega
  obtain⟨h,hh⟩:∃ h,h=b - 1:=⟨_,rfl⟩
  have hE:reverseRange d a b=reverseLoop a h d:=by rw[reverseRange,hh]
  rw[hE]
  rw[<- hh] at hbI
  simp +contextual (disch:=omega) only[go_sem,J5,hbI]
  refine Bp (fun n env U=>∃(i j:Nat) (D:Array Y),env 0=v/\env 6=gi i/\env 7=gi j/\j - i=n/\a<=i/\i<=d.size/\j<=h/\D.size=d.size/\N.length<=U.length/\Holds S.e N0 U rs k v D/\reverseLoop i j D=reverseLoop a h d) (h - a) ⟨a,h,d,rfl,rfl,rfl,rfl,Zaa _,by omega,Zaa _,rfl,Zaa _,H,rfl⟩ ?_
  rintro J hJ n env U ⟨i,j,D,e0,e6,e7,hn,hi,hi2,hj,hD,hle,hH,hE⟩
  rw[reverseLoop] at hE
  rcases Zag i j with hlt|hge
  ·rw[if_pos hlt] at hE
   have c0:decide ((i:Int)<j)=true:=by simp;omega
   obtain⟨U1,U2,s1,s2,hH2,hl2⟩:=hH.sw (a:=i) (b:=j) (by omega) (by omega)
   have j1:(j:Int) - 1=((j - 1:Nat):Int):=by omega
   simp +contextual (disch:=omega) only[go_sem,e0,e6,e7,c0,A1,hH.iad (j:=i) (by omega),hH.ld (j:=i) (by omega),hH.iad (j:=j) (by omega),hH.ld (j:=j) (by omega),s1,s2]
   refine⟨(j - 1) - (i+1),by omega,hJ _ _ _ ⟨i+1,j - 1,swp D i j,?_,?_,?_,rfl,by omega,by omega,by omega,by rw[Go.Sort.swp_size];exact hD,by omega,hH2,hE⟩⟩
   all_goals simp +contextual (disch:=omega) only[go_sem,e0,e6,e7,j1]
  ·rw[if_neg (by omega)] at hE
   have c0:decide ((i:Int)<j)=false:=by simp;omega
   simp +contextual (disch:=omega) only[go_sem,e0,e6,e7,c0]
   exact⟨_,rfl,hle,rfl,by rw[<- hE];exact hH⟩
 obtain⟨r,U,R,rfl,h⟩:=key
 exact⟨U,R,h⟩
end O
namespace O
open Go Go.RowKit Go.Proofs.YtnknigikcdgebaaGreatDoor.Sy Go.Sort
variable {Y:Type} [Inhabited Y] {lt:Y->Y->Bool} {N0 N:St} {rs:List Thg} {k:Nat} {v:GV} {d:Array Y}
theorem pe_ret (S:SrtO Y lt) (H:Holds S.e N0 N rs k v d) {a b p:Nat} (hab:a<b) (hp:p<b) (hb:b<=d.size) (hs:d.size<=1099511627776):∃ U,Ret Tryz.prog S.q.partitionEqual [v,gi a,gi b,gi p] N (gi (partitionEqual lt d a b p).1) U/\Holds S.e N0 U rs k v (partitionEqual lt d a b p).2:=by
 have key:∃ r U,Ret Tryz.prog S.q.partitionEqual [v,gi a,gi b,gi p] N r U/\r=gi (partitionEqual lt d a b p).1/\Holds S.e N0 U rs k v (partitionEqual lt d a b p).2:=by
  refine Ap S.h_partitionEqual (Z0z rfl) ?_
  obtain⟨U1,U2,s1,s2,hH,hl2⟩:=H.sw (a:=a) (b:=p) (by omega) (by omega)
  obtain⟨h,hh⟩:∃ h,h=b - 1:=⟨_,rfl⟩
  have hbI:(b:Int) - 1=h:=by omega
  have hsz:=Go.Sort.swp_size d a p
  rw[partitionEqual,<-hh]
  obtain⟨D0,hD0⟩:∃ D0,D0=swp d a p:=⟨_,rfl⟩
  rw[<- hD0] at hH hsz
  simp +contextual (disch:=omega) only[go_sem,Hg,hbI,A1,H.iad (j:=a) (by omega),H.ld (j:=a) (by omega),H.iad (j:=p) (by omega),H.ld (j:=p) (by omega),s1,s2]
  rw[<- hD0]
  refine Bp (fun n env U=>∃(i j:Nat) (D:Array Y),env 0=v/\env 1=gi a/\env 9=gi i/\env 10=gi j/\j+1 - i=n/\1<=i/\i<=j+1/\j<b/\D.size=d.size/\N.length<=U.length/\Holds S.e N0 U rs k v D/\partEqLoop lt a i j D=partEqLoop lt a (a+1) h D0) (h+1 - (a+1)) ⟨a+1,h,D0,rfl,rfl,rfl,rfl,rfl,by omega,by omega,by omega,hsz,by omega,hH,rfl⟩ ?_
  clear hH
  rintro J hJ n env U ⟨i,j,D,e0,e1,e9,e10,hn,hi,hij,hj,hD,hle,hH,hE⟩
  rw[partEqLoop_eq] at hE
  have ia:=hH.iad (j:=a) (by omega)
  have la:=hH.ld (j:=a) (by omega)
  simp +contextual (disch:=omega) only[go_sem]
  refine C4 (fun n env U'=>∃(x:Nat),env 0=v/\env 1=gi a/\env 9=gi x/\env 10=gi j/\j+1 - x=n/\i<=x/\x<=j+1/\U=U'/\scanUp (fun x=> !lt D[a]! x) D j x=scanUp (fun x=> !lt D[a]! x) D j i) (j+1 - i) 2 (fun env U'=>env 0=v/\env 1=gi a/\env 9=gi (scanUp (fun x=> !lt D[a]! x) D j i:Nat)/\env 10=gi j/\U=U') ⟨i,e0,e1,e9,e10,rfl,Zaa _,hij,rfl,rfl⟩ ?_ ?_
  ·clear e0 e1 e9 e10
   rintro J2 Yq2 hJ2 hY2 n2 env U' ⟨x,e0,e1,e9,e10,hn2,hx1,hx2,rfl,hU⟩
   rw[scanUp] at hU
   rcases Zag j x with hx|hx
   ·rw[if_neg (by simp;intro h;omega)] at hU
    have c0:decide ((x:Int)<=j)=false:=by simp;omega
    simp +contextual (disch:=omega) only[go_sem,e0,e1,e9,e10,c0]
    refine hY2 _ _ ⟨?_,?_,?_,?_,rfl⟩
    all_goals simp +contextual (disch:=omega) only[go_sem,e0,e1,e9,e10,hU]
   ·have c0:decide ((x:Int)<=j)=true:=by simp;omega
    simp +contextual (disch:=omega) only[go_sem,e0,e1,e9,e10,c0,A1,ia,la,hH.iad (j:=x) (by omega),hH.ld (j:=x) (by omega)]
    refine A6 (S.call _ _ _) ?_
    cases hl:lt D[a]! D[x]! with
    |true=>
     rw[if_neg (by simp[hl])] at hU
     simp +contextual (disch:=omega) only[go_sem,e0,e1,e9,e10,c0,hl]
     refine hY2 _ _ ⟨?_,?_,?_,?_,rfl⟩
     all_goals simp +contextual (disch:=omega) only[go_sem,e0,e1,e9,e10,hU]
    |false=>
     rw[if_pos (by simp[hl];omega)] at hU
     simp +contextual (disch:=omega) only[go_sem,e0,e1,e9,e10,c0,hl]
     refine⟨j+1 - (x+1),by omega,hJ2 _ _ _ ⟨x+1,?_,?_,?_,?_,rfl,by omega,by omega,rfl,hU⟩⟩
     all_goals simp +contextual (disch:=omega) only[go_sem,e0,e1,e9,e10]
  ·clear e0 e1 e9 e10
   rintro env U' ⟨e0,e1,e9,e10,rfl⟩
   obtain⟨u1,u2,-,u4⟩:=scanUp_spec (fun x=> !lt D[a]! x) D j _ i rfl
   have u2:=u2 hij
   obtain⟨x,hx⟩:∃ x,x=scanUp (fun x=> !lt D[a]! x) D j i:=⟨_,rfl⟩
   rw[<- hx] at hE e9 u1 u2 u4
   simp +contextual (disch:=omega) only[go_sem]
   refine C4 (fun n env U'=>∃(y:Nat),env 0=v/\env 1=gi a/\env 9=gi x/\env 10=gi y/\y+1=n/\y<=j/\x<=y+1/\U=U'/\scanDown (fun x=>lt D[a]! x) D x y=scanDown (fun x=>lt D[a]! x) D x j) (j+1) 4 (fun env U'=>env 0=v/\env 1=gi a/\env 9=gi x/\env 10=gi (scanDown (fun x=>lt D[a]! x) D x j:Nat)/\U=U'/\x<=scanDown (fun x=>lt D[a]! x) D x j+1) ⟨j,e0,e1,e9,e10,rfl,Zaa _,u2,rfl,rfl⟩ ?_ ?_
   ·clear e0 e1 e9 e10
    rintro J2 Yq2 hJ2 hY2 n2 env U' ⟨y,e0,e1,e9,e10,hn2,hy1,hy2,rfl,hU⟩
    rcases Zag y x with hlt|hge
    ·have hU:scanDown (fun x=>lt D[a]! x) D x j=y:=by
      rw[<- hU]
      cases y with
      |zero=>rfl
      |succ y=>rw[scanDown,if_neg (by simp;intro h;omega)]
     have c0:decide ((x:Int)<=y)=false:=by simp;omega
     simp +contextual (disch:=omega) only[go_sem,e0,e1,e9,e10,c0]
     refine hY2 _ _ ⟨?_,?_,?_,?_,rfl,by omega⟩
     all_goals simp +contextual (disch:=omega) only[go_sem,e0,e1,e9,e10,hU]
    ·have c0:decide ((x:Int)<=y)=true:=by simp;omega
     obtain⟨z,rfl⟩:∃ z,y=z+1:=⟨y - 1,by omega⟩
     rw[scanDown] at hU
     have c0:decide ((x:Int)<=(z:Int)+1)=true:=c0
     have n1:B9 (some (.int .i64 ((z:Int)+1)))=some (z+1):=B4 (by simp)
     have z1:(z:Int)+1 - 1=z:=by omega
     simp +contextual (disch:=omega) only[go_sem,e0,e1,e9,e10,c0,A1,n1,ia,la,hH.iad (j:=z+1) (by omega),hH.ld (j:=z+1) (by omega)]
     refine A6 (S.call _ _ _) ?_
     cases hl:lt D[a]! D[z+1]! with
     |false=>
      rw[if_neg (by simp[hl])] at hU
      simp +contextual (disch:=omega) only[go_sem,e0,e1,e9,e10,c0,hl]
      refine hY2 _ _ ⟨?_,?_,?_,?_,rfl,by omega⟩
      all_goals simp +contextual (disch:=omega) only[go_sem,e0,e1,e9,e10,<-hU]
     |true=>
      rw[if_pos (by simp[hl];omega)] at hU
      simp +contextual (disch:=omega) only[go_sem,e0,e1,e9,e10,c0,z1,hl]
      refine⟨z+1,by omega,hJ2 _ _ _ ⟨z,?_,?_,?_,?_,rfl,by omega,by omega,rfl,hU⟩⟩
      all_goals simp +contextual (disch:=omega) only[go_sem,e0,e1,e9,e10]
   ·clear e0 e1 e9 e10
    rintro env U' ⟨e0,e1,e9,e10,rfl,hxy⟩
    have w1:=scanDown_le (fun x=>lt D[a]! x) D x j
    have w4:=(scanDown_spec (fun x=>lt D[a]! x) D x j).2.2.2
    obtain⟨y,hy⟩:∃ y,y=scanDown (fun x=>lt D[a]! x) D x j:=⟨_,rfl⟩
    rw[<- hy] at hE e10 w1 w4 hxy
    rcases Zag y x with hlt|hge
    ·rw[if_pos hlt] at hE
     have c0:decide ((y:Int)<x)=true:=by simp;omega
     simp +contextual (disch:=omega) only[go_sem,e0,e1,e9,e10,c0]
     exact⟨_,rfl,hle,by rw[<- hE],by rw[<- hE];exact hH⟩
    ·rw[if_neg (by omega)] at hE
     have hne:x≠y:=by
      rintro rfl
      have q1:(!lt D[a]! D[x]!)=false:=u4 w1
      have q2:lt D[a]! D[x]! =false:=w4 (Zaa _) (by omega)
      rw[q2] at q1;cases q1
     have c0:decide ((y:Int)<x)=false:=by simp;omega
     have y1:(y:Int) - 1=((y - 1:Nat):Int):=by omega
     obtain⟨U3,U4,s3,s4,hH4,hl4⟩:=hH.sw (a:=x) (b:=y) (by omega) (by omega)
     simp +contextual (disch:=omega) only[go_sem,e0,e1,e9,e10,c0,A1,hH.iad (j:=x) (by omega),hH.ld (j:=x) (by omega),hH.iad (j:=y) (by omega),hH.ld (j:=y) (by omega),s3,s4]
     refine⟨y - 1+1 - (x+1),by omega,hJ _ _ _ ⟨x+1,y - 1,swp D x y,?_,?_,?_,?_,rfl,by omega,by omega,by omega,by rw[Go.Sort.swp_size];exact hD,by omega,hH4,hE⟩⟩
     all_goals simp +contextual (disch:=omega) only[go_sem,e0,e1,e9,e10,y1]
 obtain⟨r,U,R,rfl,h⟩:=key
 exact⟨U,R,h⟩
theorem part_ret (S:SrtO Y lt) (H:Holds S.e N0 N rs k v d) {a b p:Nat} (hab:a<b) (hp:p<b) (hb:b<=d.size) (hs:d.size<=1099511627776):∃ U,Ret Tryz.prog S.q.partition [v,gi a,gi b,gi p] N (.tup [gi (partition lt d a b p).1,.bool (partition lt d a b p).2.1]) U/\Holds S.e N0 U rs k v (partition lt d a b p).2.2:=by
 have key:∃ r U,Ret Tryz.prog S.q.partition [v,gi a,gi b,gi p] N r U/\r= .tup [gi (partition lt d a b p).1,.bool (partition lt d a b p).2.1]/\Holds S.e N0 U rs k v (partition lt d a b p).2.2:=by
  refine Ap S.h_partition (Z0z rfl) ?_
  obtain⟨U1,U,s1,s2,hH,hl2⟩:=H.sw (a:=a) (b:=p) (by omega) (by omega)
  obtain⟨j,hh⟩:∃ h,h=b - 1:=⟨_,rfl⟩
  have hbI:(b:Int) - 1=j:=by omega
  have hD:=Go.Sort.swp_size d a p
  obtain⟨P0,hP0⟩:∃ P0,P0=partition lt d a b p:=⟨_,rfl⟩
  rw[<- hP0]
  have hE:=hP0.symm
  simp only[partition] at hE
  rw[<- hh] at hE
  obtain⟨D,hD0⟩:∃ D0,D0=swp d a p:=⟨_,rfl⟩
  rw[<- hD0] at hH hD hE
  simp +contextual (disch:=omega) only[go_sem,O3,hbI,A1,H.iad (j:=a) (by omega),H.ld (j:=a) (by omega),H.iad (j:=p) (by omega),H.ld (j:=p) (by omega),s1,s2]
  have ia:=hH.iad (j:=a) (by omega)
  have la:=hH.ld (j:=a) (by omega)
  obtain⟨i,hi⟩:∃ i,i=a+1:=⟨_,rfl⟩
  rw[<- hi] at hE
  have hij:i<=j+1:=by omega
  refine C4 (fun n env U'=>∃(x:Nat),env 0=v/\env 1=gi a/\env 10=gi x/\env 11=gi j/\j+1 - x=n/\i<=x/\x<=j+1/\U=U'/\scanUp (fun x=>lt x D[a]!) D j x=scanUp (fun x=>lt x D[a]!) D j i) (j+1 - i) 0 (fun env U'=>env 0=v/\env 1=gi a/\env 10=gi (scanUp (fun x=>lt x D[a]!) D j i:Nat)/\env 11=gi j/\U=U') ⟨i,rfl,rfl,(by rw[hi];rfl),rfl,rfl,Zaa _,hij,rfl,rfl⟩ ?_ ?_
  ·skip
   rintro J2 Yq2 hJ2 hY2 n2 env U' ⟨x,e0,e1,e9,e10,hn2,hx1,hx2,rfl,hU⟩
   rw[scanUp] at hU
   rcases Zag j x with hx|hx
   ·rw[if_neg (by simp;intro h;omega)] at hU
    have c0:decide ((x:Int)<=j)=false:=by simp;omega
    simp +contextual (disch:=omega) only[go_sem,e0,e1,e9,e10,c0]
    refine hY2 _ _ ⟨?_,?_,?_,?_,rfl⟩
    all_goals simp +contextual (disch:=omega) only[go_sem,e0,e1,e9,e10,hU]
   ·have c0:decide ((x:Int)<=j)=true:=by simp;omega
    simp +contextual (disch:=omega) only[go_sem,e0,e1,e9,e10,c0,A1,ia,la,hH.iad (j:=x) (by omega),hH.ld (j:=x) (by omega)]
    refine A6 (S.call _ _ _) ?_
    cases hl:lt D[x]! D[a]! with
    |false=>
     rw[if_neg (by simp[hl])] at hU
     simp +contextual (disch:=omega) only[go_sem,e0,e1,e9,e10,c0,hl]
     refine hY2 _ _ ⟨?_,?_,?_,?_,rfl⟩
     all_goals simp +contextual (disch:=omega) only[go_sem,e0,e1,e9,e10,hU]
    |true=>
     rw[if_pos (by simp[hl];omega)] at hU
     simp +contextual (disch:=omega) only[go_sem,e0,e1,e9,e10,c0,hl]
     refine⟨j+1 - (x+1),by omega,hJ2 _ _ _ ⟨x+1,?_,?_,?_,?_,rfl,by omega,by omega,rfl,hU⟩⟩
     all_goals simp +contextual (disch:=omega) only[go_sem,e0,e1,e9,e10]
  skip
  rintro env U' ⟨e0,e1,e9,e10,rfl⟩
  obtain⟨u1,u2,-,u4⟩:=scanUp_spec (fun x=>lt x D[a]!) D j _ i rfl
  have u2:=u2 hij
  obtain⟨x,hx⟩:∃ x,x=scanUp (fun x=>lt x D[a]!) D j i:=⟨_,rfl⟩
  rw[<- hx] at hE e9 u1 u2 u4
  simp +contextual (disch:=omega) only[go_sem]
  refine C4 (fun n env U'=>∃(y:Nat),env 0=v/\env 1=gi a/\env 10=gi x/\env 11=gi y/\y+1=n/\y<=j/\x<=y+1/\U=U'/\scanDown (fun x=> !lt x D[a]!) D x y=scanDown (fun x=> !lt x D[a]!) D x j) (j+1) 2 (fun env U'=>env 0=v/\env 1=gi a/\env 10=gi x/\env 11=gi (scanDown (fun x=> !lt x D[a]!) D x j:Nat)/\U=U'/\x<=scanDown (fun x=> !lt x D[a]!) D x j+1) ⟨j,e0,e1,e9,e10,rfl,Zaa _,u2,rfl,rfl⟩ ?_ ?_
  ·clear e0 e1 e9 e10
   rintro J2 Yq2 hJ2 hY2 n2 env U' ⟨y,e0,e1,e9,e10,hn2,hy1,hy2,rfl,hU⟩
   rcases Zag y x with hlt|hge
   ·have hU:scanDown (fun x=> !lt x D[a]!) D x j=y:=by
     rw[<- hU]
     cases y with
     |zero=>rfl
     |succ y=>rw[scanDown,if_neg (by simp;intro h;omega)]
    have c0:decide ((x:Int)<=y)=false:=by simp;omega
    simp +contextual (disch:=omega) only[go_sem,e0,e1,e9,e10,c0]
    refine hY2 _ _ ⟨?_,?_,?_,?_,rfl,by omega⟩
    all_goals simp +contextual (disch:=omega) only[go_sem,e0,e1,e9,e10,hU]
   ·obtain⟨z,rfl⟩:∃ z,y=z+1:=⟨y - 1,by omega⟩
    rw[scanDown] at hU
    have c0:decide ((x:Int)<=(z:Int)+1)=true:=by simp;omega
    have n1:B9 (some (.int .i64 ((z:Int)+1)))=some (z+1):=B4 (by simp)
    have z1:(z:Int)+1 - 1=z:=by omega
    simp +contextual (disch:=omega) only[go_sem,e0,e1,e9,e10,c0,A1,n1,ia,la,hH.iad (j:=z+1) (by omega),hH.ld (j:=z+1) (by omega)]
    refine A6 (S.call _ _ _) ?_
    cases hl:lt D[z+1]! D[a]! with
    |true=>
     rw[if_neg (by simp[hl])] at hU
     simp +contextual (disch:=omega) only[go_sem,e0,e1,e9,e10,c0,hl]
     refine hY2 _ _ ⟨?_,?_,?_,?_,rfl,by omega⟩
     all_goals simp +contextual (disch:=omega) only[go_sem,e0,e1,e9,e10,<-hU]
    |false=>
     rw[if_pos (by simp[hl];omega)] at hU
     simp +contextual (disch:=omega) only[go_sem,e0,e1,e9,e10,c0,z1,hl]
     refine⟨z+1,by omega,hJ2 _ _ _ ⟨z,?_,?_,?_,?_,rfl,by omega,by omega,rfl,hU⟩⟩
     all_goals simp +contextual (disch:=omega) only[go_sem,e0,e1,e9,e10]
  clear e0 e1 e9 e10
  rintro env U' ⟨e0,e1,e9,e10,rfl,hxy⟩
  have w1:=scanDown_le (fun x=> !lt x D[a]!) D x j
  have w4:=(scanDown_spec (fun x=> !lt x D[a]!) D x j).2.2.2
  obtain⟨y,hy⟩:∃ y,y=scanDown (fun x=> !lt x D[a]!) D x j:=⟨_,rfl⟩
  rw[<- hy] at hE e10 w1 w4 hxy
  have hne:x≠y:=by
   rintro rfl
   have q1:lt D[x]! D[a]! =false:=u4 w1
   have q2:(!lt D[x]! D[a]!)=false:=w4 (Zaa _) (by omega)
   rw[q1] at q2;cases q2
  rcases Zag y x with hlt|hge
  ·rw[if_pos hlt] at hE
   subst hE
   have c0:decide ((y:Int)<x)=true:=by simp;omega
   obtain⟨U3,U4,s3,s4,hH4,hl4⟩:=hH.sw (a:=y) (b:=a) (by omega) (by omega)
   simp +contextual (disch:=omega) only[go_sem,e0,e1,e9,e10,c0,A1,hH.iad (j:=a) (by omega),hH.ld (j:=a) (by omega),hH.iad (j:=y) (by omega),hH.ld (j:=y) (by omega),s3,s4]
   exact⟨_,rfl,by omega,rfl,hH4⟩
  ·rw[if_neg (by omega)] at hE
   subst hE
   have c0:decide ((y:Int)<x)=false:=by simp;omega
   have y1:(y:Int) - 1=((y - 1:Nat):Int):=by omega
   obtain⟨U3,U4,s3,s4,hH4,hl4⟩:=hH.sw (a:=x) (b:=y) (by omega) (by omega)
   simp +contextual (disch:=omega) only[go_sem,e0,e1,e9,e10,c0,A1,hH.iad (j:=x) (by omega),hH.ld (j:=x) (by omega),hH.iad (j:=y) (by omega),hH.ld (j:=y) (by omega),s3,s4]
   obtain⟨x0,hx0⟩:∃ x0,x0=x+1:=⟨_,rfl⟩
   obtain⟨y0,hy0⟩:∃ y0,y0=y - 1:=⟨_,rfl⟩
   have hD4:(swp D x y).size=d.size:=by rw[Go.Sort.swp_size];exact hD
   obtain⟨D4,hD40⟩:∃ D4,D4=swp D x y:=⟨_,rfl⟩
   rw[<- hx0,<-hy0,<-hD40]
   rw[<- hD40] at hH4 hD4
   obtain⟨R,hR⟩:∃ R,R=partLoop lt a x0 y0 D4:=⟨_,rfl⟩
   rw[<- hR]
   refine Bp (fun n env U=>∃(i j:Nat) (D:Array Y),env 0=v/\env 1=gi a/\env 10=gi i/\env 11=gi j/\j+1 - i=n/\1<=i/\i<=j+1/\j<b/\D.size=d.size/\N.length<=U.length/\Holds S.e N0 U rs k v D/\partLoop lt a i j D=R) (y0+1 - x0) ⟨x0,y0,D4,by simp +contextual (disch:=omega) only[go_sem,e0],by simp +contextual (disch:=omega) only[go_sem,e1],by rw[hx0];simp +contextual (disch:=omega) only[go_sem,e9],by rw[hy0];simp +contextual (disch:=omega) only[go_sem,y1],rfl,by omega,by omega,by omega,hD4,by omega,hH4,hR.symm⟩ ?_
   clear hH hH4 hij ia la s1 s2 s3 s4 e0 e1 e9 e10 c0 y1 hi u1 u2 u4 w1 w4 hxy hne hge hx hy hx0 hy0 hD40 hD4 hD hD0 hl2 hl4
   rintro J hJ n env U ⟨i,j,D,e0,e1,e9,e10,hn,hi,hij,hj,hD,hle,hH,hE⟩
   rw[partLoop_eq] at hE
   have ia:=hH.iad (j:=a) (by omega)
   have la:=hH.ld (j:=a) (by omega)
   simp +contextual (disch:=omega) only[go_sem]
   refine C4 (fun n env U'=>∃(x:Nat),env 0=v/\env 1=gi a/\env 10=gi x/\env 11=gi j/\j+1 - x=n/\i<=x/\x<=j+1/\U=U'/\scanUp (fun x=>lt x D[a]!) D j x=scanUp (fun x=>lt x D[a]!) D j i) (j+1 - i) 6 (fun env U'=>env 0=v/\env 1=gi a/\env 10=gi (scanUp (fun x=>lt x D[a]!) D j i:Nat)/\env 11=gi j/\U=U') ⟨i,e0,e1,e9,e10,rfl,Zaa _,hij,rfl,rfl⟩ ?_ ?_
   ·clear e0 e1 e9 e10
    rintro J2 Yq2 hJ2 hY2 n2 env U' ⟨x,e0,e1,e9,e10,hn2,hx1,hx2,rfl,hU⟩
    rw[scanUp] at hU
    rcases Zag j x with hx|hx
    ·rw[if_neg (by simp;intro h;omega)] at hU
     have c0:decide ((x:Int)<=j)=false:=by simp;omega
     simp +contextual (disch:=omega) only[go_sem,e0,e1,e9,e10,c0]
     refine hY2 _ _ ⟨?_,?_,?_,?_,rfl⟩
     all_goals simp +contextual (disch:=omega) only[go_sem,e0,e1,e9,e10,hU]
    ·have c0:decide ((x:Int)<=j)=true:=by simp;omega
     simp +contextual (disch:=omega) only[go_sem,e0,e1,e9,e10,c0,A1,ia,la,hH.iad (j:=x) (by omega),hH.ld (j:=x) (by omega)]
     refine A6 (S.call _ _ _) ?_
     cases hl:lt D[x]! D[a]! with
     |false=>
      rw[if_neg (by simp[hl])] at hU
      simp +contextual (disch:=omega) only[go_sem,e0,e1,e9,e10,c0,hl]
      refine hY2 _ _ ⟨?_,?_,?_,?_,rfl⟩
      all_goals simp +contextual (disch:=omega) only[go_sem,e0,e1,e9,e10,hU]
     |true=>
      rw[if_pos (by simp[hl];omega)] at hU
      simp +contextual (disch:=omega) only[go_sem,e0,e1,e9,e10,c0,hl]
      refine⟨j+1 - (x+1),by omega,hJ2 _ _ _ ⟨x+1,?_,?_,?_,?_,rfl,by omega,by omega,rfl,hU⟩⟩
      all_goals simp +contextual (disch:=omega) only[go_sem,e0,e1,e9,e10]
   clear e0 e1 e9 e10
   rintro env U' ⟨e0,e1,e9,e10,rfl⟩
   obtain⟨u1,u2,-,u4⟩:=scanUp_spec (fun x=>lt x D[a]!) D j _ i rfl
   have u2:=u2 hij
   obtain⟨x,hx⟩:∃ x,x=scanUp (fun x=>lt x D[a]!) D j i:=⟨_,rfl⟩
   rw[<- hx] at hE e9 u1 u2 u4
   simp +contextual (disch:=omega) only[go_sem]
   refine C4 (fun n env U'=>∃(y:Nat),env 0=v/\env 1=gi a/\env 10=gi x/\env 11=gi y/\y+1=n/\y<=j/\x<=y+1/\U=U'/\scanDown (fun x=> !lt x D[a]!) D x y=scanDown (fun x=> !lt x D[a]!) D x j) (j+1) 8 (fun env U'=>env 0=v/\env 1=gi a/\env 10=gi x/\env 11=gi (scanDown (fun x=> !lt x D[a]!) D x j:Nat)/\U=U'/\x<=scanDown (fun x=> !lt x D[a]!) D x j+1) ⟨j,e0,e1,e9,e10,rfl,Zaa _,u2,rfl,rfl⟩ ?_ ?_
   ·clear e0 e1 e9 e10
    rintro J2 Yq2 hJ2 hY2 n2 env U' ⟨y,e0,e1,e9,e10,hn2,hy1,hy2,rfl,hU⟩
    rcases Zag y x with hlt|hge
    ·have hU:scanDown (fun x=> !lt x D[a]!) D x j=y:=by
      rw[<- hU]
      cases y with
      |zero=>rfl
      |succ y=>rw[scanDown,if_neg (by simp;intro h;omega)]
     have c0:decide ((x:Int)<=y)=false:=by simp;omega
     simp +contextual (disch:=omega) only[go_sem,e0,e1,e9,e10,c0]
     refine hY2 _ _ ⟨?_,?_,?_,?_,rfl,by omega⟩
     all_goals simp +contextual (disch:=omega) only[go_sem,e0,e1,e9,e10,hU]
    ·obtain⟨z,rfl⟩:∃ z,y=z+1:=⟨y - 1,by omega⟩
     rw[scanDown] at hU
     have c0:decide ((x:Int)<=(z:Int)+1)=true:=by simp;omega
     have n1:B9 (some (.int .i64 ((z:Int)+1)))=some (z+1):=B4 (by simp)
     have z1:(z:Int)+1 - 1=z:=by omega
     simp +contextual (disch:=omega) only[go_sem,e0,e1,e9,e10,c0,A1,n1,ia,la,hH.iad (j:=z+1) (by omega),hH.ld (j:=z+1) (by omega)]
     refine A6 (S.call _ _ _) ?_
     cases hl:lt D[z+1]! D[a]! with
     |true=>
      rw[if_neg (by simp[hl])] at hU
      simp +contextual (disch:=omega) only[go_sem,e0,e1,e9,e10,c0,hl]
      refine hY2 _ _ ⟨?_,?_,?_,?_,rfl,by omega⟩
      all_goals simp +contextual (disch:=omega) only[go_sem,e0,e1,e9,e10,<-hU]
     |false=>
      rw[if_pos (by simp[hl];omega)] at hU
      simp +contextual (disch:=omega) only[go_sem,e0,e1,e9,e10,c0,z1,hl]
      refine⟨z+1,by omega,hJ2 _ _ _ ⟨z,?_,?_,?_,?_,rfl,by omega,by omega,rfl,hU⟩⟩
      all_goals simp +contextual (disch:=omega) only[go_sem,e0,e1,e9,e10]
   clear e0 e1 e9 e10
   rintro env U' ⟨e0,e1,e9,e10,rfl,hxy⟩
   have w1:=scanDown_le (fun x=> !lt x D[a]!) D x j
   have w4:=(scanDown_spec (fun x=> !lt x D[a]!) D x j).2.2.2
   obtain⟨y,hy⟩:∃ y,y=scanDown (fun x=> !lt x D[a]!) D x j:=⟨_,rfl⟩
   rw[<- hy] at hE e10 w1 w4 hxy
   have hne:x≠y:=by
    rintro rfl
    have q1:lt D[x]! D[a]! =false:=u4 w1
    have q2:(!lt D[x]! D[a]!)=false:=w4 (Zaa _) (by omega)
    rw[q1] at q2;cases q2
   rcases Zag y x with hlt|hge
   ·rw[if_pos hlt] at hE
    subst hE
    have c0:decide ((y:Int)<x)=true:=by simp;omega
    obtain⟨U3,U4,s3,s4,hH4,hl4⟩:=hH.sw (a:=y) (b:=a) (by omega) (by omega)
    simp +contextual (disch:=omega) only[go_sem,e0,e1,e9,e10,c0,A1,hH.iad (j:=a) (by omega),hH.ld (j:=a) (by omega),hH.iad (j:=y) (by omega),hH.ld (j:=y) (by omega),s3,s4]
    exact⟨_,rfl,by omega,rfl,hH4⟩
   ·rw[if_neg (by omega)] at hE
    have c0:decide ((y:Int)<x)=false:=by simp;omega
    have y1:(y:Int) - 1=((y - 1:Nat):Int):=by omega
    obtain⟨U3,U4,s3,s4,hH4,hl4⟩:=hH.sw (a:=x) (b:=y) (by omega) (by omega)
    simp +contextual (disch:=omega) only[go_sem,e0,e1,e9,e10,c0,A1,hH.iad (j:=x) (by omega),hH.ld (j:=x) (by omega),hH.iad (j:=y) (by omega),hH.ld (j:=y) (by omega),s3,s4]
    refine⟨y - 1+1 - (x+1),by omega,hJ _ _ _ ⟨x+1,y - 1,swp D x y,?_,?_,?_,?_,rfl,by omega,by omega,by omega,by rw[Go.Sort.swp_size];exact hD,by omega,hH4,hE⟩⟩
    all_goals simp +contextual (disch:=omega) only[go_sem,e0,e1,e9,e10,y1]
 obtain⟨r,U,R,rfl,h⟩:=key
 exact⟨U,R,h⟩
end O
namespace O
open Go Go.RowKit Go.Proofs.YtnknigikcdgebaaGreatDoor.Sy Go.Sort
variable {Y:Type} [Inhabited Y] {lt:Y->Y->Bool} {N0 N:St} {rs:List Thg} {k:Nat} {v:GV} {d:Array Y}
theorem scanSorted_ge (lt:Y->Y->Bool) (d:Array Y) (b:Nat):∀(n i:Nat),b - i=n->i<=scanSorted lt d b i/\(i<=b->scanSorted lt d b i<=b):=by
 intro n
 induction n with
 |zero=>
  intro i hn
  rw[scanSorted,if_neg (by simp;intro h;omega)]
  exact⟨Zaa _,fun h=>h⟩
 |succ n ih=>
  intro i hn
  rw[scanSorted]
  split
  ·have:=ih (i+1) (by omega)
   exact⟨by omega,fun _=>this.2 (by omega)⟩
  ·exact⟨Zaa _,fun h=>h⟩
theorem shiftDown_size (lt:Y->Y->Bool):∀(j:Nat) (d:Array Y),(shiftDown lt j d).size=d.size
 |0,_=>rfl
 |j+1,d=>by
  rw[shiftDown]
  split
  ·rfl
  ·rw[shiftDown_size lt j,Go.Sort.swp_size]
theorem shiftUp_size (lt:Y->Y->Bool) (b:Nat):∀(n j:Nat) (d:Array Y),b - j=n->(shiftUp lt b j d).size=d.size:=by
 intro n
 induction n with
 |zero=>intro j d h;rw[shiftUp,if_neg (by omega)]
 |succ n ih=>
  intro j d h
  rw[shiftUp,if_pos (by omega)]
  split
  ·rfl
  ·rw[ih _ _ (by omega),Go.Sort.swp_size]
theorem pis_ret (S:SrtO Y lt) (H:Holds S.e N0 N rs k v d) {a b:Nat} (hab:a<b) (hb:b<=d.size) (hs:d.size<=1099511627776):∃ U,Ret Tryz.prog S.q.partialInsertionSort [v,gi a,gi b] N (.bool (partialInsertionSort lt d a b).2) U/\Holds S.e N0 U rs k v (partialInsertionSort lt d a b).1:=by
 have key:∃ r U,Ret Tryz.prog S.q.partialInsertionSort [v,gi a,gi b] N r U/\r= .bool (partialInsertionSort lt d a b).2/\Holds S.e N0 U rs k v (partialInsertionSort lt d a b).1:=by
  refine Ap S.h_partialInsertionSort (Z0z rfl) ?_
  rw[partialInsertionSort]
  obtain⟨R,hR⟩:∃ R,R=partialIns lt a b 5 (a+1) d:=⟨_,rfl⟩
  rw[<- hR]
  simp +contextual (maxSteps:=600000) (disch:=omega) only[go_sem,E3]
  refine Bp (fun n env U=>∃(s i:Nat) (D:Array Y),env 0=v/\env 1=gi a/\env 2=gi b/\env 7=gi i/\env 8=gi s/\5 - s=n/\s<=5/\a<i/\i<=b/\D.size=d.size/\N.length<=U.length/\Holds S.e N0 U rs k v D/\partialIns lt a b (5 - s) i D=R) 5 ⟨0,a+1,d,rfl,rfl,rfl,rfl,rfl,rfl,by omega,by omega,by omega,rfl,Zaa _,H,hR.symm⟩ ?_
  rintro J hJ n env U ⟨s,i0,D,e0,e1,e2,e7,e8,hn,hs5,hai,hib,hD,hle,hH,hE⟩
  rcases Zag s 5 with h5|h5
  ·have c0:decide ((s:Int)<5)=true:=by simp;omega
   obtain⟨m,hm⟩:∃ m,5 - s=m+1:=⟨4 - s,by omega⟩
   rw[hm,partialIns] at hE
   dsimp only at hE
   simp +contextual (maxSteps:=600000) (disch:=omega) only[go_sem,e0,e1,e2,e7,e8,c0]
   refine C4 (fun n env U'=>∃(x:Nat),env 0=v/\env 1=gi a/\env 2=gi b/\env 7=gi x/\env 8=gi s/\b - x=n/\i0<=x/\x<=b/\U=U'/\scanSorted lt D b x=scanSorted lt D b i0) (b - i0) 2 (fun env U'=>env 0=v/\env 1=gi a/\env 2=gi b/\env 7=gi (scanSorted lt D b i0:Nat)/\env 8=gi s/\U=U') ⟨i0,by simp +contextual (maxSteps:=600000) (disch:=omega) only[go_sem,e0],by simp +contextual (maxSteps:=600000) (disch:=omega) only[go_sem,e1],by simp +contextual (maxSteps:=600000) (disch:=omega) only[go_sem,e2],by simp +contextual (maxSteps:=600000) (disch:=omega) only[go_sem,e7],by simp +contextual (maxSteps:=600000) (disch:=omega) only[go_sem,e8],rfl,Zaa _,hib,rfl,rfl⟩ ?_ ?_
   ·clear e0 e1 e2 e7 e8
    rintro J2 Yq2 hJ2 hY2 n2 env U' ⟨x,e0,e1,e2,e7,e8,hn2,hx1,hx2,rfl,hU⟩
    rw[scanSorted] at hU
    rcases Zag x b with hx|hx
    ·have c1:decide ((x:Int)<b)=true:=by simp;omega
     have x1:(x:Int) - 1=((x - 1:Nat):Int):=by omega
     simp +contextual (maxSteps:=600000) (disch:=omega) only[go_sem,e0,e1,e2,e7,e8,c1,x1,A1,hH.iad (j:=x) (by omega),hH.ld (j:=x) (by omega),hH.iad (j:=x - 1) (by omega),hH.ld (j:=x - 1) (by omega)]
     refine A6 (S.call _ _ _) ?_
     cases hl:lt D[x]! D[x - 1]! with
     |true=>
      rw[if_neg (by simp[hl])] at hU
      simp +contextual (maxSteps:=600000) (disch:=omega) only[go_sem,e0,e1,e2,e7,e8,c1,hl]
      refine hY2 _ _ ⟨?_,?_,?_,?_,?_,rfl⟩
      all_goals simp +contextual (maxSteps:=600000) (disch:=omega) only[go_sem,e0,e1,e2,e7,e8,hU]
     |false=>
      rw[if_pos (by simp[hl];omega)] at hU
      simp +contextual (maxSteps:=600000) (disch:=omega) only[go_sem,e0,e1,e2,e7,e8,c1,hl]
      refine⟨b - (x+1),by omega,hJ2 _ _ _ ⟨x+1,?_,?_,?_,?_,?_,rfl,by omega,by omega,rfl,hU⟩⟩
      all_goals simp +contextual (maxSteps:=600000) (disch:=omega) only[go_sem,e0,e1,e2,e7,e8]
    ·rw[if_neg (by simp;intro h;omega)] at hU
     have c1:decide ((x:Int)<b)=false:=by simp;omega
     simp +contextual (maxSteps:=600000) (disch:=omega) only[go_sem,e0,e1,e2,e7,e8,c1]
     refine hY2 _ _ ⟨?_,?_,?_,?_,?_,rfl⟩
     all_goals simp +contextual (maxSteps:=600000) (disch:=omega) only[go_sem,e0,e1,e2,e7,e8,hU]
   clear e0 e1 e2 e7 e8
   rintro env U' ⟨e0,e1,e2,e7,e8,rfl⟩
   obtain⟨g1,g2⟩:=scanSorted_ge lt D b _ i0 rfl
   have g2:=g2 hib
   obtain⟨i,hi⟩:∃ i,i=scanSorted lt D b i0:=⟨_,rfl⟩
   rw[<- hi] at hE e7 g1 g2
   by_cases h1:i=b
   ·rw[if_pos h1] at hE
    subst hE
    have c1:((b:Int)==b)=true:=by simp
    rw[h1] at e7
    simp +contextual (maxSteps:=600000) (disch:=omega) only[go_sem,e0,e1,e2,e7,e8,c1]
    exact⟨_,rfl,hle,rfl,hH⟩
   ·rw[if_neg h1] at hE
    have c1:((i:Int)==b)=false:=by simp;omega
    by_cases h50:b - a<50
    ·rw[if_pos h50] at hE
     subst hE
     have c2:decide ((b:Int) - a<50)=true:=by simp;omega
     simp +contextual (maxSteps:=600000) (disch:=omega) only[go_sem,e0,e1,e2,e7,e8,c1,c2]
     exact⟨_,rfl,hle,rfl,hH⟩
    ·rw[if_neg h50] at hE
     have c2:decide ((b:Int) - a<50)=false:=by simp;omega
     have i1:(i:Int) - 1=((i - 1:Nat):Int):=by omega
     obtain⟨U1,U2,s1,s2,hH1,hl1⟩:=hH.sw (a:=i) (b:=i - 1) (by omega) (by omega)
     simp +contextual (maxSteps:=600000) (disch:=omega) only[go_sem,e0,e1,e2,e7,e8,c1,c2,i1,A1,hH.iad (j:=i) (by omega),hH.ld (j:=i) (by omega),hH.iad (j:=i - 1) (by omega),hH.ld (j:=i - 1) (by omega),s1,s2]
     have hD1:(swp D i (i - 1)).size=d.size:=by rw[Go.Sort.swp_size];exact hD
     have hle1:N.length<=U2.length:=by omega
     obtain⟨D1,hD10⟩:∃ D1,D1=swp D i (i - 1):=⟨_,rfl⟩
     rw[<- hD10] at hE hD1 hH1
     clear hH hle s1 s2
     by_cases hA:i - a≥2
     ·rw[if_pos hA] at hE
      have cA:decide ((2:Int)<=(i:Int) - a)=true:=by simp;omega
      simp +contextual (maxSteps:=600000) (disch:=omega) only[go_sem,e0,e1,e2,e7,e8,cA]
      refine C4 (fun n env U=>∃(j:Nat) (E:Array Y),env 0=v/\env 1=gi a/\env 2=gi b/\env 7=gi i/\env 8=gi s/\env 9=gi j/\j=n/\j<b/\E.size=d.size/\N.length<=U.length/\Holds S.e N0 U rs k v E/\shiftDown lt j E=shiftDown lt (i - 1) D1) (i - 1) 4 (fun env U=>env 0=v/\env 1=gi a/\env 2=gi b/\env 7=gi i/\env 8=gi s/\N.length<=U.length/\Holds S.e N0 U rs k v (shiftDown lt (i - 1) D1)) ⟨i - 1,D1,by simp +contextual (maxSteps:=600000) (disch:=omega) only[go_sem,e0],by simp +contextual (maxSteps:=600000) (disch:=omega) only[go_sem,e1],by simp +contextual (maxSteps:=600000) (disch:=omega) only[go_sem,e2],by simp +contextual (maxSteps:=600000) (disch:=omega) only[go_sem,e7],by simp +contextual (maxSteps:=600000) (disch:=omega) only[go_sem,e8],by simp +contextual (maxSteps:=600000) (disch:=omega) only[go_sem,i1],rfl,by omega,hD1,hle1,hH1,rfl⟩ ?_ ?_
      ·clear e0 e1 e2 e7 e8
       rintro J2 Yq2 hJ2 hY2 n2 env U ⟨j,E,e0,e1,e2,e7,e8,e9,hn2,hj,hE2,hle2,hH,hU⟩
       cases j with
       |zero=>
        have c5:decide ((1:Int)<=0)=false:=rfl
        simp +contextual (maxSteps:=600000) (disch:=omega) only[go_sem,e0,e1,e2,e7,e8,e9,c5,Int.natCast_zero]
        refine hY2 _ _ ⟨?_,?_,?_,?_,?_,hle2,by rw[<- hU];exact hH⟩
        all_goals simp +contextual (maxSteps:=600000) (disch:=omega) only[go_sem,e0,e1,e2,e7,e8]
       |succ m=>
        have c5:decide ((1:Int)<=(m:Int)+1)=true:=decide_eq_true (by omega)
        have n1:B9 (some (.int .i64 ((m:Int)+1)))=some (m+1):=B4 (by simp)
        have m1:(m:Int)+1 - 1=m:=by omega
        rw[shiftDown] at hU
        simp +contextual (maxSteps:=600000) (disch:=omega) only[go_sem,e0,e1,e2,e7,e8,e9,c5,n1,m1,A1,hH.iad (j:=m+1) (by omega),hH.ld (j:=m+1) (by omega),hH.iad (j:=m) (by omega),hH.ld (j:=m) (by omega)]
        refine A6 (S.call _ _ _) ?_
        cases hl:lt E[m+1]! E[m]! with
        |false=>
         rw[if_pos (by simp[hl])] at hU
         simp +contextual (maxSteps:=600000) (disch:=omega) only[go_sem,e0,e1,e2,e7,e8,e9,hl]
         refine hY2 _ _ ⟨?_,?_,?_,?_,?_,hle2,by rw[<- hU];exact hH⟩
         all_goals simp +contextual (maxSteps:=600000) (disch:=omega) only[go_sem,e0,e1,e2,e7,e8]
        |true=>
         rw[if_neg (by simp[hl])] at hU
         obtain⟨U3,U4,s3,s4,hH4,hl4⟩:=hH.sw (a:=m+1) (b:=m) (by omega) (by omega)
         simp +contextual (maxSteps:=600000) (disch:=omega) only[go_sem,e0,e1,e2,e7,e8,e9,n1,m1,A1,hl,hH.iad (j:=m+1) (by omega),hH.ld (j:=m+1) (by omega),hH.iad (j:=m) (by omega),hH.ld (j:=m) (by omega),s3,s4]
         refine⟨m,by omega,hJ2 _ _ _ ⟨m,swp E (m+1) m,?_,?_,?_,?_,?_,?_,rfl,by omega,by rw[Go.Sort.swp_size];exact hE2,by omega,hH4,hU⟩⟩
         all_goals simp +contextual (maxSteps:=600000) (disch:=omega) only[go_sem,e0,e1,e2,e7,e8,m1]
      clear e0 e1 e2 e7 e8 hH1 hle1
      rintro env U ⟨e0,e1,e2,e7,e8,hle2,hH2⟩
      have hD2:=(shiftDown_size lt (i - 1) D1).trans hD1
      obtain⟨D2,hD20⟩:∃ D2,D2=shiftDown lt (i - 1) D1:=⟨_,rfl⟩
      rw[<- hD20] at hE hD2 hH2
      simp +contextual (maxSteps:=600000) (disch:=omega) only[go_sem]
      by_cases hB:b - i≥2
      ·rw[if_pos hB] at hE
       have cB:decide ((2:Int)<=(b:Int) - i)=true:=by simp;omega
       simp +contextual (maxSteps:=600000) (disch:=omega) only[go_sem,e0,e1,e2,e7,e8,cB,cA]
       refine C4 (fun n env U=>∃(j:Nat) (E:Array Y),env 0=v/\env 1=gi a/\env 2=gi b/\env 7=gi i/\env 8=gi s/\env 10=gi j/\b - j=n/\1<=j/\j<=b/\E.size=d.size/\N.length<=U.length/\Holds S.e N0 U rs k v E/\shiftUp lt b j E=shiftUp lt b (i+1) D2) (b - (i+1)) 6 (fun env U=>env 0=v/\env 1=gi a/\env 2=gi b/\env 7=gi i/\env 8=gi s/\N.length<=U.length/\Holds S.e N0 U rs k v (shiftUp lt b (i+1) D2)) ⟨i+1,D2,by simp +contextual (maxSteps:=600000) (disch:=omega) only[go_sem,e0],by simp +contextual (maxSteps:=600000) (disch:=omega) only[go_sem,e1],by simp +contextual (maxSteps:=600000) (disch:=omega) only[go_sem,e2],by simp +contextual (maxSteps:=600000) (disch:=omega) only[go_sem,e7],by simp +contextual (maxSteps:=600000) (disch:=omega) only[go_sem,e8],by simp +contextual (maxSteps:=600000) (disch:=omega) only[go_sem,e7],rfl,by omega,by omega,hD2,hle2,hH2,rfl⟩ ?_ ?_
       ·clear e0 e1 e2 e7 e8
        rintro J2 Yq2 hJ2 hY2 n2 env U ⟨j,E,e0,e1,e2,e7,e8,e9,hn2,hj1,hj,hE2,hle3,hH,hU⟩
        rw[shiftUp] at hU
        rcases Zag j b with hjb|hjb
        ·rw[if_pos hjb] at hU
         have c5:decide ((j:Int)<b)=true:=by simp;omega
         have j1:(j:Int) - 1=((j - 1:Nat):Int):=by omega
         simp +contextual (maxSteps:=600000) (disch:=omega) only[go_sem,e0,e1,e2,e7,e8,e9,c5,j1,A1,hH.iad (j:=j) (by omega),hH.ld (j:=j) (by omega),hH.iad (j:=j - 1) (by omega),hH.ld (j:=j - 1) (by omega)]
         refine A6 (S.call _ _ _) ?_
         cases hl:lt E[j]! E[j - 1]! with
         |false=>
          rw[if_pos (by simp[hl])] at hU
          simp +contextual (maxSteps:=600000) (disch:=omega) only[go_sem,e0,e1,e2,e7,e8,e9,hl]
          refine hY2 _ _ ⟨?_,?_,?_,?_,?_,hle3,by rw[<- hU];exact hH⟩
          all_goals simp +contextual (maxSteps:=600000) (disch:=omega) only[go_sem,e0,e1,e2,e7,e8]
         |true=>
          rw[if_neg (by simp[hl])] at hU
          obtain⟨U3,U4,s3,s4,hH4,hl4⟩:=hH.sw (a:=j) (b:=j - 1) (by omega) (by omega)
          simp +contextual (maxSteps:=600000) (disch:=omega) only[go_sem,e0,e1,e2,e7,e8,e9,j1,A1,hl,hH.iad (j:=j) (by omega),hH.ld (j:=j) (by omega),hH.iad (j:=j - 1) (by omega),hH.ld (j:=j - 1) (by omega),s3,s4]
          refine⟨b - (j+1),by omega,hJ2 _ _ _ ⟨j+1,swp E j (j - 1),?_,?_,?_,?_,?_,?_,rfl,by omega,by omega,by rw[Go.Sort.swp_size];exact hE2,by omega,hH4,hU⟩⟩
          all_goals simp +contextual (maxSteps:=600000) (disch:=omega) only[go_sem,e0,e1,e2,e7,e8,e9]
        ·rw[if_neg (by omega)] at hU
         have c5:decide ((j:Int)<b)=false:=by simp;omega
         simp +contextual (maxSteps:=600000) (disch:=omega) only[go_sem,e0,e1,e2,e7,e8,e9,c5]
         refine hY2 _ _ ⟨?_,?_,?_,?_,?_,hle3,by rw[<- hU];exact hH⟩
         all_goals simp +contextual (maxSteps:=600000) (disch:=omega) only[go_sem,e0,e1,e2,e7,e8]
       clear e0 e1 e2 e7 e8 hH2 hle2
       rintro env U ⟨e0,e1,e2,e7,e8,hle2,hH2⟩
       simp +contextual (maxSteps:=600000) (disch:=omega) only[go_sem,e0,e1,e2,e7,e8]
       refine⟨n - 1,by omega,hJ _ _ _ ⟨s+1,i,_,?_,?_,?_,?_,?_,by omega,by omega,by omega,by omega,(by rw[shiftUp_size lt b _ _ _ rfl];exact hD2),hle2,hH2,by rw[<- hE];congr 1;omega⟩⟩
       all_goals simp +contextual (maxSteps:=600000) (disch:=omega) only[go_sem,e0,e1,e2,e7,e8]
      ·rw[if_neg hB] at hE
       have cB:decide ((2:Int)<=(b:Int) - i)=false:=by simp;omega
       simp +contextual (maxSteps:=600000) (disch:=omega) only[go_sem,e0,e1,e2,e7,e8,cB,cA]
       refine⟨n - 1,by omega,hJ _ _ _ ⟨s+1,i,_,?_,?_,?_,?_,?_,by omega,by omega,by omega,by omega,hD2,hle2,hH2,by rw[<- hE];congr 1;omega⟩⟩
       all_goals simp +contextual (maxSteps:=600000) (disch:=omega) only[go_sem,e0,e1,e2,e7,e8]
     ·rw[if_neg hA] at hE
      have cA:decide ((2:Int)<=(i:Int) - a)=false:=by simp;omega
      obtain⟨D2,hD20⟩:∃ D2,D2=D1:=⟨_,rfl⟩
      have hD2:=hD1
      have hH2:=hH1
      have hle2:=hle1
      rw[<- hD20] at hE hD2 hH2
      by_cases hB:b - i≥2
      ·rw[if_pos hB] at hE
       have cB:decide ((2:Int)<=(b:Int) - i)=true:=by simp;omega
       simp +contextual (maxSteps:=600000) (disch:=omega) only[go_sem,e0,e1,e2,e7,e8,cB,cA]
       refine C4 (fun n env U=>∃(j:Nat) (E:Array Y),env 0=v/\env 1=gi a/\env 2=gi b/\env 7=gi i/\env 8=gi s/\env 10=gi j/\b - j=n/\1<=j/\j<=b/\E.size=d.size/\N.length<=U.length/\Holds S.e N0 U rs k v E/\shiftUp lt b j E=shiftUp lt b (i+1) D2) (b - (i+1)) 6 (fun env U=>env 0=v/\env 1=gi a/\env 2=gi b/\env 7=gi i/\env 8=gi s/\N.length<=U.length/\Holds S.e N0 U rs k v (shiftUp lt b (i+1) D2)) ⟨i+1,D2,by simp +contextual (maxSteps:=600000) (disch:=omega) only[go_sem,e0],by simp +contextual (maxSteps:=600000) (disch:=omega) only[go_sem,e1],by simp +contextual (maxSteps:=600000) (disch:=omega) only[go_sem,e2],by simp +contextual (maxSteps:=600000) (disch:=omega) only[go_sem,e7],by simp +contextual (maxSteps:=600000) (disch:=omega) only[go_sem,e8],by simp +contextual (maxSteps:=600000) (disch:=omega) only[go_sem,e7],rfl,by omega,by omega,hD2,hle2,hH2,rfl⟩ ?_ ?_
       ·clear e0 e1 e2 e7 e8
        rintro J2 Yq2 hJ2 hY2 n2 env U ⟨j,E,e0,e1,e2,e7,e8,e9,hn2,hj1,hj,hE2,hle3,hH,hU⟩
        rw[shiftUp] at hU
        rcases Zag j b with hjb|hjb
        ·rw[if_pos hjb] at hU
         have c5:decide ((j:Int)<b)=true:=by simp;omega
         have j1:(j:Int) - 1=((j - 1:Nat):Int):=by omega
         simp +contextual (maxSteps:=600000) (disch:=omega) only[go_sem,e0,e1,e2,e7,e8,e9,c5,j1,A1,hH.iad (j:=j) (by omega),hH.ld (j:=j) (by omega),hH.iad (j:=j - 1) (by omega),hH.ld (j:=j - 1) (by omega)]
         refine A6 (S.call _ _ _) ?_
         cases hl:lt E[j]! E[j - 1]! with
         |false=>
          rw[if_pos (by simp[hl])] at hU
          simp +contextual (maxSteps:=600000) (disch:=omega) only[go_sem,e0,e1,e2,e7,e8,e9,hl]
          refine hY2 _ _ ⟨?_,?_,?_,?_,?_,hle3,by rw[<- hU];exact hH⟩
          all_goals simp +contextual (maxSteps:=600000) (disch:=omega) only[go_sem,e0,e1,e2,e7,e8]
         |true=>
          rw[if_neg (by simp[hl])] at hU
          obtain⟨U3,U4,s3,s4,hH4,hl4⟩:=hH.sw (a:=j) (b:=j - 1) (by omega) (by omega)
          simp +contextual (maxSteps:=600000) (disch:=omega) only[go_sem,e0,e1,e2,e7,e8,e9,j1,A1,hl,hH.iad (j:=j) (by omega),hH.ld (j:=j) (by omega),hH.iad (j:=j - 1) (by omega),hH.ld (j:=j - 1) (by omega),s3,s4]
          refine⟨b - (j+1),by omega,hJ2 _ _ _ ⟨j+1,swp E j (j - 1),?_,?_,?_,?_,?_,?_,rfl,by omega,by omega,by rw[Go.Sort.swp_size];exact hE2,by omega,hH4,hU⟩⟩
          all_goals simp +contextual (maxSteps:=600000) (disch:=omega) only[go_sem,e0,e1,e2,e7,e8,e9]
        ·rw[if_neg (by omega)] at hU
         have c5:decide ((j:Int)<b)=false:=by simp;omega
         simp +contextual (maxSteps:=600000) (disch:=omega) only[go_sem,e0,e1,e2,e7,e8,e9,c5]
         refine hY2 _ _ ⟨?_,?_,?_,?_,?_,hle3,by rw[<- hU];exact hH⟩
         all_goals simp +contextual (maxSteps:=600000) (disch:=omega) only[go_sem,e0,e1,e2,e7,e8]
       clear e0 e1 e2 e7 e8 hH2 hle2
       rintro env U ⟨e0,e1,e2,e7,e8,hle2,hH2⟩
       simp +contextual (maxSteps:=600000) (disch:=omega) only[go_sem,e0,e1,e2,e7,e8]
       refine⟨n - 1,by omega,hJ _ _ _ ⟨s+1,i,_,?_,?_,?_,?_,?_,by omega,by omega,by omega,by omega,(by rw[shiftUp_size lt b _ _ _ rfl];exact hD2),hle2,hH2,by rw[<- hE];congr 1;omega⟩⟩
       all_goals simp +contextual (maxSteps:=600000) (disch:=omega) only[go_sem,e0,e1,e2,e7,e8]
      ·rw[if_neg hB] at hE
       have cB:decide ((2:Int)<=(b:Int) - i)=false:=by simp;omega
       simp +contextual (maxSteps:=600000) (disch:=omega) only[go_sem,e0,e1,e2,e7,e8,cB,cA]
       refine⟨n - 1,by omega,hJ _ _ _ ⟨s+1,i,_,?_,?_,?_,?_,?_,by omega,by omega,by omega,by omega,hD2,hle2,hH2,by rw[<- hE];congr 1;omega⟩⟩
       all_goals simp +contextual (maxSteps:=600000) (disch:=omega) only[go_sem,e0,e1,e2,e7,e8]
  ·have c0:decide ((s:Int)<5)=false:=by simp;omega
   have hm:5 - s=0:=by omega
   rw[hm,partialIns] at hE
   subst hE
   simp +contextual (maxSteps:=600000) (disch:=omega) only[go_sem,e0,e1,e2,e7,e8,c0]
   exact⟨_,rfl,hle,rfl,hH⟩
 obtain⟨r,U,R,rfl,h⟩:=key
 exact⟨U,R,h⟩
end O
namespace O
open Go Go.RowKit Go.Proofs.YtnknigikcdgebaaGreatDoor.Sy Go.Sort
variable {Y:Type} [Inhabited Y] {lt:Y->Y->Bool} {N0 N:St} {rs:List Thg} {k g:Nat} {s:Int} {v:GV} {d:Array Y}
theorem order2_ret (S:SrtO Y lt) (H:Holds S.e N0 N (pt 1 g [gi s]::rs) (k+1) v d) {a b:Nat} (ha:a<d.size) (hb:b<d.size):∃(r1 r2:Nat) (s':Int) (U:St),Ret Tryz.prog S.q.order2 [v,gi a,gi b,.ptr g 0] N (.tup [gi r1,gi r2]) U/\Holds S.e N0 U (pt 1 g [gi s']::rs) (k+1) v d/\((r1=a/\r2=b)∨(r1=b/\r2=a)):=by
 have key:∃ r U,Ret Tryz.prog S.q.order2 [v,gi a,gi b,.ptr g 0] N r U/\∃(r1 r2:Nat) (s':Int),r= .tup [gi r1,gi r2]/\Holds S.e N0 U (pt 1 g [gi s']::rs) (k+1) v d/\((r1=a/\r2=b)∨(r1=b/\r2=a)):=by
  refine Ap S.h_order2 (Z0z rfl) ?_
  simp +contextual (disch:=omega) only[go_sem,A12,A1,H.iad ha,H.ld ha,H.iad hb,H.ld hb]
  refine A6 (S.call _ _ _) ?_
  cases hl:lt d[b]! d[a]! with
  |true=>
   have l1:=A2 (a:=false) (n:=1) (off:=0) (H.2.pt 0 rfl)
   have l1:ldG false 1 N (.ptr g 0)=some (gi s):=l1
   obtain⟨U1,st1,H1,hl1⟩:=H.2.st 0 rfl 1 0 (gi (IntKind.i64.wrap (s+1))) rfl (by decide) (by simp)
   simp +contextual (disch:=omega) only[go_sem,hl,l1,st1]
   exact⟨_,rfl,by omega,b,a,IntKind.i64.wrap (s+1),rfl,⟨H.1,H1⟩,.inr ⟨rfl,rfl⟩⟩
  |false=>
   simp +contextual (disch:=omega) only[go_sem,hl]
   exact⟨_,rfl,a,b,s,rfl,H,.inl ⟨rfl,rfl⟩⟩
 obtain⟨r,U,R,r1,r2,s',rfl,h1,h2⟩:=key
 exact⟨r1,r2,s',U,R,h1,h2⟩
theorem median_ret (S:SrtO Y lt) (H:Holds S.e N0 N (pt 1 g [gi s]::rs) (k+1) v d) {a b c:Nat} (ha:a<d.size) (hb:b<d.size) (hc:c<d.size):∃(r1:Nat) (s':Int) (U:St),Ret Tryz.prog S.q.median [v,gi a,gi b,gi c,.ptr g 0] N (gi r1) U/\Holds S.e N0 U (pt 1 g [gi s']::rs) (k+1) v d/\(r1=a∨r1=b∨r1=c):=by
 have key:∃ r U,Ret Tryz.prog S.q.median [v,gi a,gi b,gi c,.ptr g 0] N r U/\∃(r1:Nat) (s':Int),r=gi r1/\Holds S.e N0 U (pt 1 g [gi s']::rs) (k+1) v d/\(r1=a∨r1=b∨r1=c):=by
  refine Ap S.h_median (Z0z rfl) ?_
  simp +contextual (disch:=omega) only[go_sem,A10]
  obtain⟨a1,b1,s1,U1,R1,H1,h1⟩:=order2_ret S H ha hb
  refine Ai R1 ?_
  simp +contextual (disch:=omega) only[go_sem]
  obtain⟨b2,c2,s2,U2,R2,H2,h2⟩:=order2_ret S H1 (a:=b1) (b:=c) (by omega) hc
  refine Ai R2 ?_
  simp +contextual (disch:=omega) only[go_sem]
  obtain⟨a3,b3,s3,U3,R3,H3,h3⟩:=order2_ret S H2 (a:=a1) (b:=b2) (by omega) (by omega)
  refine Ai R3 ?_
  simp +contextual (disch:=omega) only[go_sem]
  have:=R1.2.1
  have:=R2.2.1
  have:=R3.2.1
  exact⟨_,rfl,by omega,b3,s3,rfl,H3,by omega⟩
 obtain⟨r,U,R,r1,s',rfl,h1,h2⟩:=key
 exact⟨r1,s',U,R,h1,h2⟩
theorem medAdj_ret (S:SrtO Y lt) (H:Holds S.e N0 N (pt 1 g [gi s]::rs) (k+1) v d) {a:Nat} (h0:0<a) (ha:a+1<d.size) (hs:d.size<=1099511627776):∃(r1:Nat) (s':Int) (U:St),Ret Tryz.prog S.q.medianAdjacent [v,gi a,.ptr g 0] N (gi r1) U/\Holds S.e N0 U (pt 1 g [gi s']::rs) (k+1) v d/\a<=r1+1/\r1<=a+1:=by
 have key:∃ r U,Ret Tryz.prog S.q.medianAdjacent [v,gi a,.ptr g 0] N r U/\∃(r1:Nat) (s':Int),r=gi r1/\Holds S.e N0 U (pt 1 g [gi s']::rs) (k+1) v d/\a<=r1+1/\r1<=a+1:=by
  refine Ap S.h_medianAdjacent (Z0z rfl) ?_
  obtain⟨p,rfl⟩:∃ p,a=p+1:=⟨a - 1,by omega⟩
  have p1:(p:Int)+1 - 1=p:=by omega
  simp +contextual (disch:=omega) only[go_sem,He,p1]
  obtain⟨r1,s1,U1,R1,H1,h1⟩:=median_ret S H (a:=p) (b:=p+1) (c:=p+1+1) (by omega) (by omega) (by omega)
  refine Ai R1 ?_
  simp +contextual (disch:=omega) only[go_sem]
  have:=R1.2.1
  exact⟨_,rfl,by omega,r1,s1,rfl,H1,by omega,by omega⟩
 obtain⟨r,U,R,r1,s',rfl,h1,h2⟩:=key
 exact⟨r1,s',U,R,h1,h2⟩
theorem choose_ret (S:SrtO Y lt) (H:Holds S.e N0 N rs k v d) {a b:Nat} (hab:a<b) (hb:b<=d.size) (hs:d.size<=1099511627776):∃(p h:Nat) (U:St),Ret Tryz.prog S.q.choosePivot [v,gi a,gi b] N (.tup [gi p,gi h]) U/\Holds S.e N0 U rs k v d/\a<=p/\p<b/\h<=2:=by
 have key:∃ r U,Ret Tryz.prog S.q.choosePivot [v,gi a,gi b] N r U/\∃(p h:Nat),r= .tup [gi p,gi h]/\Holds S.e N0 U rs k v d/\a<=p/\p<b/\h<=2:=by
  refine Ap S.h_choosePivot (Z0z rfl) ?_
  obtain⟨l,hl⟩:∃ l,l=b - a:=⟨_,rfl⟩
  have hlI:(b:Int) - a=l:=by omega
  obtain⟨q,hq⟩:∃ q,q=l / 4:=⟨_,rfl⟩
  have hqI:(l:Int).tdiv 4=q:=by rw[hq];rfl
  obtain⟨i,hi⟩:∃ i,i=a+q*1:=⟨_,rfl⟩
  obtain⟨j,hj⟩:∃ i,i=a+q*2:=⟨_,rfl⟩
  obtain⟨m,hm⟩:∃ i,i=a+q*3:=⟨_,rfl⟩
  have hiI:(a:Int)+q*1=i:=by omega
  have hjI:(a:Int)+q*2=j:=by omega
  have hmI:(a:Int)+q*3=m:=by omega
  have H0:Holds S.e N0 (N++[some (.row 1 [gi 0])]) (pt 1 N.length [gi 0]::rs) (k+1) v d:=⟨by simpa using H.1,H.2.new 1 [gi 0]⟩
  have L0:(N++[some (Blk.row 1 [GV.int IntKind.i64 0])]).length=N.length+1:=by simp
  have L1:(N++[some (Blk.row 1 [gi 0])]).length=N.length+1:=L0
  by_cases h8:8<=l
  ·have c8:decide ((8:Int)<=l)=true:=by simp;omega
   by_cases h50:50<=l
   ·have c50:decide ((50:Int)<=l)=true:=by simp;omega
    simp +contextual (disch:=omega) only[go_sem,Ej,hlI,hqI,hiI,hjI,hmI,c8,c50]
    obtain⟨i1,s1,U1,R1,H1,h1,h1'⟩:=medAdj_ret S H0 (a:=i) (by omega) (by omega) hs
    refine Ai R1 ?_
    simp +contextual (disch:=omega) only[go_sem]
    obtain⟨j1,s2,U2,R2,H2,h2,h2'⟩:=medAdj_ret S H1 (a:=j) (by omega) (by omega) hs
    refine Ai R2 ?_
    simp +contextual (disch:=omega) only[go_sem]
    obtain⟨m1,s3,U3,R3,H3,h3,h3'⟩:=medAdj_ret S H2 (a:=m) (by omega) (by omega) hs
    refine Ai R3 ?_
    simp +contextual (disch:=omega) only[go_sem]
    obtain⟨p,s4,U4,R4,H4,h4⟩:=median_ret S H3 (a:=i1) (b:=j1) (c:=m1) (by omega) (by omega) (by omega)
    refine Ai R4 ?_
    have:=R1.2.1
    have:=R2.2.1
    have:=R3.2.1
    have:=R4.2.1
    have l1:ldG false 1 U4 (.ptr N.length 0)=some (gi s4):=A2 (a:=false) (n:=1) (off:=0) ((H4).2.pt 0 rfl)
    simp +contextual (disch:=omega) only[go_sem,l1]
    have hout:Holds S.e N0 U4 rs k v d:=⟨H.1,(H4).2.drop1⟩
    have key0:((s4:Int)==0)=decide ((s4:Int)=0):=rfl
    by_cases h0:(s4:Int)=0
    ·have c0:((s4:Int)==0)=true:=by simp[h0]
     simp +contextual (disch:=omega) only[go_sem,c0]
     exact⟨_,rfl,by omega,p,1,rfl,hout,by omega,by omega,by omega⟩
    ·have c0:((s4:Int)==0)=false:=by simp[h0]
     by_cases h12:(s4:Int)=12
     ·have c1:((s4:Int)==12)=true:=by simp[h12]
      simp +contextual (disch:=omega) only[go_sem,c0,c1]
      exact⟨_,rfl,by omega,p,2,rfl,hout,by omega,by omega,by omega⟩
     ·have c1:((s4:Int)==12)=false:=by simp[h12]
      simp +contextual (disch:=omega) only[go_sem,c0,c1]
      exact⟨_,rfl,by omega,p,0,rfl,hout,by omega,by omega,by omega⟩
   ·have c50:decide ((50:Int)<=l)=false:=by simp;omega
    simp +contextual (disch:=omega) only[go_sem,Ej,hlI,hqI,hiI,hjI,hmI,c8,c50]
    obtain⟨p,s4,U4,R4,H4,h4⟩:=median_ret S H0 (a:=i) (b:=j) (c:=m) (by omega) (by omega) (by omega)
    refine Ai R4 ?_
    have:=R4.2.1
    have l1:ldG false 1 U4 (.ptr N.length 0)=some (gi s4):=A2 (a:=false) (n:=1) (off:=0) ((H4).2.pt 0 rfl)
    simp +contextual (disch:=omega) only[go_sem,l1]
    have hout:Holds S.e N0 U4 rs k v d:=⟨H.1,(H4).2.drop1⟩
    have key0:((s4:Int)==0)=decide ((s4:Int)=0):=rfl
    by_cases h0:(s4:Int)=0
    ·have c0:((s4:Int)==0)=true:=by simp[h0]
     simp +contextual (disch:=omega) only[go_sem,c0]
     exact⟨_,rfl,by omega,p,1,rfl,hout,by omega,by omega,by omega⟩
    ·have c0:((s4:Int)==0)=false:=by simp[h0]
     by_cases h12:(s4:Int)=12
     ·have c1:((s4:Int)==12)=true:=by simp[h12]
      simp +contextual (disch:=omega) only[go_sem,c0,c1]
      exact⟨_,rfl,by omega,p,2,rfl,hout,by omega,by omega,by omega⟩
     ·have c1:((s4:Int)==12)=false:=by simp[h12]
      simp +contextual (disch:=omega) only[go_sem,c0,c1]
      exact⟨_,rfl,by omega,p,0,rfl,hout,by omega,by omega,by omega⟩
  ·have c8:decide ((8:Int)<=l)=false:=by simp;omega
   have l1:ldG false 1 (N++[some (.row 1 [gi 0])]) (.ptr N.length 0)=some (gi 0):=A2 (a:=false) (n:=1) (off:=0) (H0.2.pt 0 rfl)
   have c0:((0:Int)==0)=true:=rfl
   simp +contextual (disch:=omega) only[go_sem,Ej,hlI,hqI,hiI,hjI,hmI,c8,l1,c0]
   exact⟨_,rfl,by omega,j,1,rfl,⟨H.1,H0.2.drop1⟩,by omega,by omega,by omega⟩
 obtain⟨r,U,R,p,h,rfl,h1,h2⟩:=key
 exact⟨p,h,U,R,h1,h2⟩
theorem break_ret (S:SrtO Y lt) (H:Holds S.e N0 N rs k v d) {a b:Nat} (hab:a<=b) (hb:b<=d.size) (hs:d.size<=1099511627776):∃(d':Array Y) (U:St),Ret Tryz.prog S.q.breakPatterns [v,gi a,gi b] N (.tup []) U/\Holds S.e N0 U rs k v d'/\PermIn a b d d':=by
 have key:∃ r U,Ret Tryz.prog S.q.breakPatterns [v,gi a,gi b] N r U/\∃(d':Array Y),r= .tup []/\Holds S.e N0 U rs k v d'/\PermIn a b d d':=by
  refine Ap S.h_breakPatterns (Z0z rfl) ?_
  obtain⟨h,hh⟩:∃ l,l=b - a:=⟨_,rfl⟩
  have hhI:(b:Int) - a=h:=by omega
  by_cases h8:8<=h
  ·have c8:decide ((8:Int)<=h)=true:=by simp;omega
   have wu:IntKind.u64.wrap (h:Int)=h:=Iu (by omega) (by omega)
   obtain⟨q,hq⟩:∃ q,q=h / 4:=⟨_,rfl⟩
   have hqI:(h:Int).tdiv 4=q:=by rw[hq];rfl
   obtain⟨m,hm⟩:∃ i,i=a+q*2:=⟨_,rfl⟩
   have hmI:(a:Int)+q*2=m:=by omega
   have hmJ:(m:Int) - 1=((m - 1:Nat):Int):=by omega
   have H0:Holds S.e N0 (N++[some (.row 1 [.int .u64 h])]) (pt 1 N.length [.int .u64 h]::rs) (k+1) v d:=⟨by simpa using H.1,H.2.new 1 [.int .u64 h]⟩
   have sp:Al [GV.int .u64 0] 0 [GV.int .u64 (h:Int)]=[.int .u64 h]:=rfl
   simp +contextual (disch:=omega) only[go_sem,Fa,hhI,c8,wu,GV.cells,sp,Zak,Zaq,Nat.reduceAdd,Zaa,Nat.zero_lt_one,and_self,if_true]
   rw[S.hnp]
   have hbl:h<=1099511627776:=by omega
   refine A6 (Ae2 _ h hbl) ?_
   obtain⟨M,hM⟩:∃ M,M=2 ^ bitsLen h:=⟨_,rfl⟩
   have hM1:=Go.Sort.two_pow_bitsLen_le (n:=h) (by omega)
   have hM2:=Nat.two_pow_pos (bitsLen h)
   rw[<- hM] at hM1 hM2
   rw[<- hM]
   have M1:(M:Int) - 1=((M - 1:Nat):Int):=by omega
   have wM:IntKind.u64.wrap ((M - 1:Nat):Int)=((M - 1:Nat):Int):=Iu (by omega) (by omega)
   have L0:(N++[some (Blk.row 1 [GV.int .u64 (h:Int)])]).length=N.length+1:=by simp
   simp +contextual (disch:=omega) only[go_sem,hqI,hmI,hmJ]
   refine Bp (fun n env U=>∃(x:Nat) (y:Int) (D:Array Y),env 0=v/\env 1=gi a/\env 6=gi h/\env 7= .ptr N.length 0/\env 8= .int .u64 (M:Nat)/\env 9=gi x/\m+2 - x=n/\m - 1<=x/\x<=m+2/\N.length<=U.length/\Holds S.e N0 U (pt 1 N.length [.int .u64 y]::rs) (k+1) v D/\PermIn a b d D) (m+2 - (m - 1)) ⟨m - 1,h,d,rfl,rfl,rfl,rfl,rfl,rfl,rfl,Zaa _,by omega,by omega,H0,permIn_refl _ _ _⟩ ?_
   rintro J hJ n env U ⟨x,y,D,e0,e1,e6,e7,e8,e9,hn,hx1,hx2,hle,hH,hP⟩
   have hD:D.size=d.size:=hP.1
   by_cases hx:x<=m+1
   ·have c0:decide ((x:Int)<=(m:Int)+1)=true:=by simp;omega
    simp +contextual (disch:=omega) only[go_sem,e0,e1,e6,e7,e8,e9,hqI,hmI,c0]
    rw[S.hxs]
    obtain⟨y',U1,R1,H1⟩:=Afx hH.2 0 rfl
    have hle1:=R1.2.1
    have H1:Holds S.e N0 U1 (pt 1 N.length [.int .u64 y']::rs) (k+1) v D:=⟨hH.1,H1⟩
    obtain⟨w,hw,hwE⟩:=andU (y:=y') (m:=M - 1) (by omega)
    have ww:IntKind.i64.wrap (w:Int)=w:=Af (by omega) (by omega)
    refine Ai R1 ?_
    simp +contextual (disch:=omega) only[go_sem,e0,e1,e6,e7,e8,e9,M1,wM,hwE,ww]
    obtain⟨z,hz,hzI⟩:∃ z:Nat,z<h/\(z:Int)=if h<=w then(w:Int) - h else w:=by
     by_cases hc:h<=w
     ·exact⟨w - h,by omega,by rw[if_pos hc];omega⟩
     ·exact⟨w,by omega,by rw[if_neg hc]⟩
    have nz:B9 (some (.int .i64 ((a:Int)+z)))=some (a+z):=B4 (by simp)
    obtain⟨U3,U4,s3,s4,hH4,hl4⟩:=H1.sw (a:=x) (b:=a+z) (by omega) (by omega)
    have hP2:=permIn_trans _ _ _ _ _ hP (swp_permIn D a b x (a+z) (by omega) (by omega) (by omega) (by omega) (by omega))
    by_cases hc:h<=w
    ·rw[if_pos hc] at hzI
     have cc:decide ((h:Int)<=w)=true:=by simp;omega
     simp +contextual (disch:=omega) only[go_sem,e0,e1,e6,e7,e8,e9,cc,<-hzI,nz,A1,H1.iad (j:=x) (by omega),H1.ld (j:=x) (by omega),H1.iad (j:=a+z) (by omega),H1.ld (j:=a+z) (by omega),s3,s4]
     refine⟨m+2 - (x+1),by omega,hJ _ _ _ ⟨x+1,y',_,?_,?_,?_,?_,?_,?_,rfl,by omega,by omega,by omega,hH4,hP2⟩⟩
     all_goals simp +contextual (disch:=omega) only[go_sem,e0,e1,e6,e7,e8,e9]
    ·rw[if_neg hc] at hzI
     have hzw:z=w:=by omega
     rw[hzw] at nz s3 s4 hH4 hP2 hz
     have cc:decide ((h:Int)<=w)=false:=by simp;omega
     simp +contextual (disch:=omega) only[go_sem,e0,e1,e6,e7,e8,e9,cc,nz,A1,H1.iad (j:=x) (by omega),H1.ld (j:=x) (by omega),H1.iad (j:=a+w) (by omega),H1.ld (j:=a+w) (by omega),s3,s4]
     refine⟨m+2 - (x+1),by omega,hJ _ _ _ ⟨x+1,y',_,?_,?_,?_,?_,?_,?_,rfl,by omega,by omega,by omega,hH4,hP2⟩⟩
     all_goals simp +contextual (disch:=omega) only[go_sem,e0,e1,e6,e7,e8,e9]
   ·have c0:decide ((x:Int)<=(m:Int)+1)=false:=by simp;omega
    simp +contextual (disch:=omega) only[go_sem,e0,e1,e6,e7,e8,e9,hqI,hmI,c0]
    exact⟨_,rfl,hle,D,rfl,⟨H.1,hH.2.drop1⟩,hP⟩
  ·have c8:decide ((8:Int)<=h)=false:=by simp;omega
   simp +contextual (disch:=omega) only[go_sem,Fa,hhI,c8]
   exact⟨_,rfl,d,rfl,H,permIn_refl _ _ _⟩
 obtain⟨r,U,R,d',rfl,h⟩:=key
 exact⟨d',U,R,h⟩
end O
namespace O
open Go Go.RowKit Go.Proofs.YtnknigikcdgebaaGreatDoor.Sy Go.Sort
variable {Y:Type} [Inhabited Y] {lt:Y->Y->Bool} {N0:St} {rs:List Thg} {k:Nat} {v:GV}
theorem pdq_ret (S:SrtO Y lt) (hS:SWO lt):∀(n:Nat) (d:Array Y) (a b l:Nat) (N:St),b - a<=n->a<=b->b<=d.size->d.size<=1099511627776->l<=1099511627776->Below lt a b d->Holds S.e N0 N rs k v d->∃(d':Array Y) (U:St),Ret Tryz.prog S.q.pdqsort [v,gi a,gi b,gi l] N (.tup []) U/\Holds S.e N0 U rs k v d'/\PermIn a b d d'/\SortedIn lt a b d':=by
 intro n
 induction n with
 |zero=>
  intro d a b l N hn hab hb hs hl hB H
  have key:∃ r U,Ret Tryz.prog S.q.pdqsort [v,gi a,gi b,gi l] N r U/\r= .tup []/\Holds S.e N0 U rs k v (insertionSort lt d a b):=by
   refine Ap S.h_pdqsort (Z0z rfl) ?_
   obtain rfl:a=b:=by omega
   simp +contextual (disch:=omega) only[go_sem,Lw]
   refine Sd (fun n env U=>env 0=v/\env 1=gi a/\env 2=gi a/\U=N) 0 ⟨rfl,rfl,rfl,rfl⟩ ?_
   rintro n env U ⟨e0,e1,e2,rfl⟩
   have a0:(a:Int) - a=0:=by omega
   have c0:decide ((0:Int)<=12)=true:=rfl
   simp +contextual (disch:=omega) only[go_sem,e0,e1,e2,a0,c0]
   obtain⟨U1,R,H1⟩:=ins_ret S H (a:=a) (b:=a) (Zaa _) hb hs
   refine Ai R ?_
   simp +contextual (disch:=omega) only[go_sem]
   exact⟨_,rfl,R.2.1,rfl,H1⟩
  obtain⟨r,U,R,rfl,H1⟩:=key
  obtain⟨p1,p2⟩:=insertionSort_holds hS d a b hab hb
  exact⟨_,U,R,H1,p1,p2⟩
 |succ Nq ih=>
  intro d a b l N hn hab hb hs hl hB H
  have key:∃ r U,Ret Tryz.prog S.q.pdqsort [v,gi a,gi b,gi l] N r U/\∃ d',r= .tup []/\Holds S.e N0 U rs k v d'/\PermIn a b d d'/\SortedIn lt a b d':=by
   refine Ap S.h_pdqsort (Z0z rfl) ?_
   simp +contextual (disch:=omega) only[go_sem,Lw]
   refine Bp (fun n env U=>∃(x y l:Nat) (wb wp:Bool) (D:Array Y),env 0=v/\env 1=gi x/\env 2=gi y/\env 3=gi l/\env 8= .bool wb/\env 9= .bool wp/\y - x=n/\l<=1099511627776/\a<=x/\x<=y/\y<=b/\D.size=d.size/\N.length<=U.length/\Holds S.e N0 U rs k v D/\Below lt x y D/\∀ R,PermIn x y D R->SortedIn lt x y R->PermIn a b d R/\SortedIn lt a b R) (b - a) ⟨a,b,l,true,true,d,rfl,rfl,rfl,rfl,rfl,rfl,rfl,hl,Zaa _,hab,Zaa _,rfl,Zaa _,H,hB,fun R h1 h2=>⟨h1,h2⟩⟩ ?_
   clear H hB hl
   rintro J hJ n env U ⟨x,y,l,wb,wp,D,e0,e1,e2,e3,e8,e9,hn2,hl,hax,hxy,hyb,hD,hle,hH,hB,hfin⟩
   rw[Afr]
   obtain⟨h,hh⟩:∃ h,h=y - x:=⟨_,rfl⟩
   have hhI:(y:Int) - x=h:=by omega
   refine Dd (fun env U'=>env 0=v/\env 1=gi x/\env 2=gi y/\env 3=gi l/\env 8= .bool wb/\env 9= .bool wp/\env 10=gi h/\U=U') (fun Yq hY=>by
    simp +contextual (disch:=omega) only[go_sem,e0,e1,e2,e3,e8,e9,hhI]
    refine hY _ _ ⟨?_,?_,?_,?_,?_,?_,?_,rfl⟩
    all_goals simp +contextual (disch:=omega) only[go_sem,e0,e1,e2,e3,e8,e9,hhI]) ?_
   clear e0 e1 e2 e3 e8 e9
   rintro env U' ⟨e0,e1,e2,e3,e8,e9,e10,rfl⟩
   refine Dd (fun env U'=>env 0=v/\env 1=gi x/\env 2=gi y/\env 3=gi l/\env 8= .bool wb/\env 9= .bool wp/\env 10=gi h/\U=U'/\12<h) (fun Yq hY=>by
    by_cases h12:h<=12
    ·have c0:decide ((h:Int)<=12)=true:=by simp;omega
     simp +contextual (disch:=omega) only[go_sem,e0,e1,e2,e3,e8,e9,e10,c0]
     obtain⟨U1,R,H1⟩:=ins_ret S hH (a:=x) (b:=y) hxy (by omega) (by omega)
     refine Ai R ?_
     simp +contextual (disch:=omega) only[go_sem]
     obtain⟨p1,p2⟩:=insertionSort_holds hS D x y hxy (by omega)
     have:=R.2.1
     exact⟨_,rfl,by omega,_,rfl,H1,hfin _ p1 p2⟩
    ·have c0:decide ((h:Int)<=12)=false:=by simp;omega
     simp +contextual (disch:=omega) only[go_sem,e0,e1,e2,e3,e8,e9,e10,c0]
     refine hY _ _ ⟨?_,?_,?_,?_,?_,?_,?_,rfl,by omega⟩
     all_goals simp +contextual (disch:=omega) only[go_sem,e0,e1,e2,e3,e8,e9,e10]) ?_
   clear e0 e1 e2 e3 e8 e9 e10
   rintro env U' ⟨e0,e1,e2,e3,e8,e9,e10,rfl,h12⟩
   refine Dd (fun env U'=>env 0=v/\env 1=gi x/\env 2=gi y/\env 3=gi l/\env 8= .bool wb/\env 9= .bool wp/\env 10=gi h/\U=U'/\0<l) (fun Yq hY=>by
    by_cases h0:l=0
    ·have c0:((l:Int)==0)=true:=by simp[h0]
     simp +contextual (disch:=omega) only[go_sem,e0,e1,e2,e3,e8,e9,e10,c0]
     obtain⟨U1,R,H1⟩:=heap_ret S hH (a:=x) (b:=y) hxy (by omega) (by omega)
     refine Ai R ?_
     simp +contextual (disch:=omega) only[go_sem]
     obtain⟨p1,p2⟩:=heapSort_holds hS D x y hxy (by omega)
     have:=R.2.1
     exact⟨_,rfl,by omega,_,rfl,H1,hfin _ p1 p2⟩
    ·have c0:((l:Int)==0)=false:=by simp;omega
     simp +contextual (disch:=omega) only[go_sem,e0,e1,e2,e3,e8,e9,e10,c0]
     refine hY _ _ ⟨?_,?_,?_,?_,?_,?_,?_,rfl,by omega⟩
     all_goals simp +contextual (disch:=omega) only[go_sem,e0,e1,e2,e3,e8,e9,e10]) ?_
   clear e0 e1 e2 e3 e8 e9 e10
   rintro env U' ⟨e0,e1,e2,e3,e8,e9,e10,rfl,h0⟩
   refine Dd (fun env U'=>∃(l':Nat) (E:Array Y),env 0=v/\env 1=gi x/\env 2=gi y/\env 3=gi l'/\env 8= .bool wb/\env 9= .bool wp/\env 10=gi h/\l'<=l/\U.length<=U'.length/\Holds S.e N0 U' rs k v E/\PermIn x y D E) (fun Yq hY=>by
    cases hwb:wb with
    |true=>
     rw[hwb] at e8
     simp +contextual (disch:=omega) only[go_sem,e0,e1,e2,e3,e8,e9,e10]
     refine hY _ _ ⟨l,D,?_,?_,?_,?_,?_,?_,?_,Zaa _,Zaa _,hH,permIn_refl _ _ _⟩
     all_goals simp +contextual (disch:=omega) only[go_sem,e0,e1,e2,e3,e8,e9,e10,hwb]
    |false=>
     rw[hwb] at e8
     simp +contextual (disch:=omega) only[go_sem,e0,e1,e2,e3,e8,e9,e10]
     obtain⟨E,U1,R,H1,p1⟩:=break_ret S hH (a:=x) (b:=y) hxy (by omega) (by omega)
     refine Ai R ?_
     have l1:(l:Int) - 1=((l - 1:Nat):Int):=by omega
     simp +contextual (disch:=omega) only[go_sem,e0,e1,e2,e3,e8,e9,e10]
     refine hY _ _ ⟨l - 1,E,?_,?_,?_,?_,?_,?_,?_,by omega,R.2.1,H1,p1⟩
     all_goals simp +contextual (disch:=omega) only[go_sem,e0,e1,e2,e3,e8,e9,e10,l1,hwb]) ?_
   clear e0 e1 e2 e3 e8 e9 e10
   rintro env U1 ⟨l1,D1,e0,e1,e2,e3,e8,e9,e10,hl1,hle1,hH1,hP1⟩
   have hD1:D1.size=D.size:=hP1.1
   refine Dd (fun env U'=>∃(p q:Nat),env 0=v/\env 1=gi x/\env 2=gi y/\env 3=gi l1/\env 8= .bool wb/\env 9= .bool wp/\env 10=gi h/\env 11=gi p/\env 12=gi q/\U1.length<=U'.length/\Holds S.e N0 U' rs k v D1/\x<=p/\p<y/\q<=2) (fun Yq hY=>by
    simp +contextual (disch:=omega) only[go_sem,e0,e1,e2,e3,e8,e9,e10]
    obtain⟨p,q,U2,R,H2,g1,g2,g3⟩:=choose_ret S hH1 (a:=x) (b:=y) (by omega) (by omega) (by omega)
    refine Ai R ?_
    simp +contextual (disch:=omega) only[go_sem,e0,e1,e2,e3,e8,e9,e10]
    refine hY _ _ ⟨p,q,?_,?_,?_,?_,?_,?_,?_,?_,?_,R.2.1,H2,g1,g2,g3⟩
    all_goals simp +contextual (disch:=omega) only[go_sem,e0,e1,e2,e3,e8,e9,e10]) ?_
   clear e0 e1 e2 e3 e8 e9 e10 hH hH1
   rintro env U2 ⟨p0,q0,e0,e1,e2,e3,e8,e9,e10,e11,e12,hle2,hH2,g1,g2,g3⟩
   refine Dd (fun env U'=>∃(p q:Nat) (E:Array Y),env 0=v/\env 1=gi x/\env 2=gi y/\env 3=gi l1/\env 8= .bool wb/\env 9= .bool wp/\env 10=gi h/\env 11=gi p/\env 12=gi q/\U2.length<=U'.length/\Holds S.e N0 U' rs k v E/\x<=p/\p<y/\PermIn x y D1 E) (fun Yq hY=>by
    by_cases hq:q0=2
    ·have c0:((q0:Int)==2)=true:=by simp[hq]
     simp +contextual (disch:=omega) only[go_sem,e0,e1,e2,e3,e8,e9,e10,e11,e12,c0]
     obtain⟨U3,R,H3⟩:=rev_ret S hH2 (a:=x) (b:=y) (by omega) (by omega) (by omega)
     refine Ai R ?_
     have r1:(y:Int) - 1 - ((p0:Int) - x)=((y - 1 - (p0 - x):Nat):Int):=by omega
     simp +contextual (disch:=omega) only[go_sem,e0,e1,e2,e3,e8,e9,e10,e11,e12,r1]
     refine hY _ _ ⟨y - 1 - (p0 - x),1,_,?_,?_,?_,?_,?_,?_,?_,?_,?_,R.2.1,H3,by omega,by omega,reverseRange_holds D1 x y hxy (by omega)⟩
     all_goals simp +contextual (disch:=omega) only[go_sem,e0,e1,e2,e3,e8,e9,e10,e11,Int.natCast_one]
    ·have c0:((q0:Int)==2)=false:=by simp;omega
     simp +contextual (disch:=omega) only[go_sem,e0,e1,e2,e3,e8,e9,e10,e11,e12,c0]
     refine hY _ _ ⟨p0,q0,D1,?_,?_,?_,?_,?_,?_,?_,?_,?_,Zaa _,hH2,g1,g2,permIn_refl _ _ _⟩
     all_goals simp +contextual (disch:=omega) only[go_sem,e0,e1,e2,e3,e8,e9,e10,e11,e12]) ?_
   clear e0 e1 e2 e3 e8 e9 e10 e11 e12 hH2 g1 g2 g3
   rintro env U3 ⟨p,q,D2,e0,e1,e2,e3,e8,e9,e10,e11,e12,hle3,hH3,g1,g2,hP2⟩
   have hD2:D2.size=D1.size:=hP2.1
   have hP02:=permIn_trans _ _ _ _ _ hP1 hP2
   have B2:Below lt x y D2:=hB.perm (by omega) hP02
   refine Dd (fun env U'=>∃(E:Array Y),env 0=v/\env 1=gi x/\env 2=gi y/\env 3=gi l1/\env 8= .bool wb/\env 9= .bool wp/\env 10=gi h/\env 11=gi p/\U3.length<=U'.length/\Holds S.e N0 U' rs k v E/\PermIn x y D2 E) (fun Yq hY=>by
    have stay:∀ env',env' 0=v->env' 1=gi x->env' 2=gi y->env' 3=gi l1->env' 8= .bool wb->env' 9= .bool wp->env' 10=gi h->env' 11=gi p->Yq env' U3:=fun env' a0 a1 a2 a3 a8 a9 a10 a11=>hY _ _ ⟨D2,a0,a1,a2,a3,a8,a9,a10,a11,Zaa _,hH3,permIn_refl _ _ _⟩
    cases hwb:wb with
    |false=>
     rw[hwb] at e8
     simp +contextual (disch:=omega) only[go_sem,e0,e1,e2,e3,e8,e9,e10,e11,e12]
     refine stay _ ?_ ?_ ?_ ?_ ?_ ?_ ?_ ?_
     all_goals simp +contextual (disch:=omega) only[go_sem,e0,e1,e2,e3,e8,e9,e10,e11,e12,hwb]
    |true=>
     rw[hwb] at e8
     cases hwp:wp with
     |false=>
      rw[hwp] at e9
      simp +contextual (disch:=omega) only[go_sem,e0,e1,e2,e3,e8,e9,e10,e11,e12]
      refine stay _ ?_ ?_ ?_ ?_ ?_ ?_ ?_ ?_
      all_goals simp +contextual (disch:=omega) only[go_sem,e0,e1,e2,e3,e8,e9,e10,e11,e12,hwb,hwp]
     |true=>
      rw[hwp] at e9
      by_cases hq:q=1
      ·have c0:((q:Int)==1)=true:=by simp[hq]
       simp +contextual (disch:=omega) only[go_sem,e0,e1,e2,e3,e8,e9,e10,e11,e12,c0]
       obtain⟨U4,R,H4⟩:=pis_ret S hH3 (a:=x) (b:=y) (by omega) (by omega) (by omega)
       obtain⟨p1,p2⟩:=partialInsertionSort_holds hS D2 x y (by omega) (by omega) B2
       have:=R.2.1
       refine Ai R ?_
       cases hr:(partialInsertionSort lt D2 x y).2 with
       |true=>
        simp +contextual (disch:=omega) only[go_sem]
        exact⟨_,rfl,by omega,_,rfl,H4,hfin _ (permIn_trans _ _ _ _ _ hP02 p1) (p2 hr)⟩
       |false=>
        simp +contextual (disch:=omega) only[go_sem,e0,e1,e2,e3,e8,e9,e10,e11,e12]
        refine hY _ _ ⟨_,?_,?_,?_,?_,?_,?_,?_,?_,R.2.1,H4,p1⟩
        all_goals simp +contextual (disch:=omega) only[go_sem,e0,e1,e2,e3,e8,e9,e10,e11,e12,hwb,hwp]
      ·have c0:((q:Int)==1)=false:=by simp;omega
       simp +contextual (disch:=omega) only[go_sem,e0,e1,e2,e3,e8,e9,e10,e11,e12,c0]
       refine stay _ ?_ ?_ ?_ ?_ ?_ ?_ ?_ ?_
       all_goals simp +contextual (disch:=omega) only[go_sem,e0,e1,e2,e3,e8,e9,e10,e11,e12,hwb,hwp]) ?_
   clear e0 e1 e2 e3 e8 e9 e10 e11 e12 hH3
   rintro env U4 ⟨D3,e0,e1,e2,e3,e8,e9,e10,e11,hle4,hH4,hP3⟩
   have hD3:D3.size=D2.size:=hP3.1
   have hP03:=permIn_trans _ _ _ _ _ hP02 hP3
   have B3:Below lt x y D3:=B2.perm (by omega) hP3
   refine Dd (fun env U'=>env 0=v/\env 1=gi x/\env 2=gi y/\env 3=gi l1/\env 8= .bool wb/\env 9= .bool wp/\env 10=gi h/\env 11=gi p/\U4=U') (fun Yq hY=>by
    rcases Zbe x with hx|hx
    ·have c0:decide ((0:Int)<x)=false:=by simp;omega
     simp +contextual (disch:=omega) only[go_sem,e0,e1,e2,e3,e8,e9,e10,e11,c0]
     refine hY _ _ ⟨?_,?_,?_,?_,?_,?_,?_,?_,rfl⟩
     all_goals simp +contextual (disch:=omega) only[go_sem,e0,e1,e2,e3,e8,e9,e10,e11]
    ·have c0:decide ((0:Int)<x)=true:=by simp;omega
     have x1:(x:Int) - 1=((x - 1:Nat):Int):=by omega
     simp +contextual (disch:=omega) only[go_sem,e0,e1,e2,e3,e8,e9,e10,e11,c0,x1,A1,hH4.iad (j:=x - 1) (by omega),hH4.ld (j:=x - 1) (by omega),hH4.iad (j:=p) (by omega),hH4.ld (j:=p) (by omega)]
     refine A6 (S.call _ _ _) ?_
     cases hlt:lt D3[x - 1]! D3[p]! with
     |true=>
      simp +contextual (disch:=omega) only[go_sem,e0,e1,e2,e3,e8,e9,e10,e11,c0,hlt]
      refine hY _ _ ⟨?_,?_,?_,?_,?_,?_,?_,?_,rfl⟩
      all_goals simp +contextual (disch:=omega) only[go_sem,e0,e1,e2,e3,e8,e9,e10,e11]
     |false=>
      simp +contextual (disch:=omega) only[go_sem,e0,e1,e2,e3,e8,e9,e10,e11,c0,hlt]
      obtain⟨U5,R,H5⟩:=pe_ret S hH4 (a:=x) (b:=y) (p:=p) (by omega) g2 (by omega) (by omega)
      have:=R.2.1
      refine Ai R ?_
      obtain⟨mid,D4,hX⟩:∃ m D4,partitionEqual lt D3 x y p=(m,D4):=⟨_,_,rfl⟩
      rw[hX] at H5
      rw[hX]
      obtain⟨k1,k2,k3,k4,k5⟩:=round_eq hS (partitionEqual_holds lt) hx g1 g2 (by omega) B3 hlt hX
      simp +contextual (disch:=omega) only[go_sem,e0,e1,e2,e3,e8,e9,e10,e11]
      refine⟨y - mid,by omega,hJ _ _ _ ⟨mid,y,l1,wb,wp,D4,?_,?_,?_,?_,?_,?_,rfl,by omega,by omega,k2,hyb,by omega,by omega,H5,k4,fun R h1 h2=> ?_⟩⟩
      all_goals first|(simp +contextual (disch:=omega) only[go_sem,e0,e1,e2,e3,e8,e9,e10,e11];done)|skip
      obtain⟨m1,m2⟩:=k5 R h1 h2
      exact hfin R (permIn_trans _ _ _ _ _ hP03 m1) m2) ?_
   clear e0 e1 e2 e3 e8 e9 e10 e11
   rintro env U' ⟨e0,e1,e2,e3,e8,e9,e10,e11,rfl⟩
   obtain⟨U5,R5,H5⟩:=part_ret S hH4 (a:=x) (b:=y) (p:=p) (by omega) g2 (by omega) (by omega)
   have hle5:=R5.2.1
   obtain⟨mid,ap,D4,hX⟩:∃ m ap D4,partition lt D3 x y p=(m,ap,D4):=⟨_,_,_,rfl⟩
   rw[hX] at H5 R5
   obtain⟨k1,k2,k3,k4,k5,k6,k7⟩:=round_part hS (partition_holds lt) g1 g2 (by omega) B3 hX
   simp +contextual (disch:=omega) only[go_sem,e0,e1,e2,e3,e8,e9,e10,e11]
   refine Ai R5 ?_
   obtain⟨q8,hq8⟩:∃ q,q=h / 8:=⟨_,rfl⟩
   have hqI:(h:Int).tdiv 8=q8:=by rw[hq8];rfl
   have m1:(mid:Int) - x=((mid - x:Nat):Int):=by omega
   have m2:(y:Int) - mid=((y - mid:Nat):Int):=by omega
   by_cases hlr:mid - x<y - mid
   ·have c0:decide (((mid - x:Nat):Int)<((y - mid:Nat):Int))=true:=by simp;omega
    simp +contextual (disch:=omega) only[go_sem,e0,e1,e2,e3,e8,e9,e10,e11,hqI,m1,m2,c0]
    obtain⟨L,U6,R6,H6,p1,p2⟩:=ih D4 x mid l1 U5 (by omega) k1 (by omega) (by omega) (by omega) k4 H5
    have hle6:=R6.2.1
    refine Ai R6 ?_
    obtain⟨k8,k9⟩:=k6 L p1 p2
    have hL:L.size=D4.size:=p1.1
    simp +contextual (disch:=omega) only[go_sem,e0,e1,e2,e3,e8,e9,e10,e11]
    refine⟨y - (mid+1),by omega,hJ _ _ _ ⟨mid+1,y,l1,decide ((q8:Int)<=((mid - x:Nat):Int)),ap,L,?_,?_,?_,?_,?_,?_,rfl,by omega,by omega,by omega,hyb,by omega,by omega,H6,k8,fun R h1 h2=> ?_⟩⟩
    all_goals first|(simp +contextual (disch:=omega) only[go_sem,e0,e1,e2,e3,e8,e9,e10,e11];done)|skip
    obtain⟨n1,n2⟩:=k9 R h1 h2
    exact hfin R (permIn_trans _ _ _ _ _ hP03 n1) n2
   ·have c0:decide (((mid - x:Nat):Int)<((y - mid:Nat):Int))=false:=by simp;omega
    simp +contextual (disch:=omega) only[go_sem,e0,e1,e2,e3,e8,e9,e10,e11,hqI,m1,m2,c0]
    obtain⟨L,U6,R6,H6,p1,p2⟩:=ih D4 (mid+1) y l1 U5 (by omega) (by omega) (by omega) (by omega) (by omega) k5 H5
    have hle6:=R6.2.1
    refine Ai R6 ?_
    obtain⟨k8,k9⟩:=k7 L p1 p2
    have hL:L.size=D4.size:=p1.1
    simp +contextual (disch:=omega) only[go_sem,e0,e1,e2,e3,e8,e9,e10,e11]
    refine⟨mid - x,by omega,hJ _ _ _ ⟨x,mid,l1,decide ((q8:Int)<=((y - mid:Nat):Int)),ap,L,?_,?_,?_,?_,?_,?_,rfl,by omega,by omega,by omega,by omega,by omega,by omega,H6,k8,fun R h1 h2=> ?_⟩⟩
    all_goals first|(simp +contextual (disch:=omega) only[go_sem,e0,e1,e2,e3,e8,e9,e10,e11];done)|skip
    obtain⟨n1,n2⟩:=k9 R h1 h2
    exact hfin R (permIn_trans _ _ _ _ _ hP03 n1) n2
  obtain⟨r,U,R,d',rfl,h⟩:=key
  exact⟨d',U,R,h⟩
end O
namespace O
open Go Go.RowKit Go.Proofs.YtnknigikcdgebaaGreatDoor.Sy Go.Sort
variable {Y:Type} [Inhabited Y] {lt:Y->Y->Bool} {N0 N:St} {rs:List Thg} {v:GV}
theorem sorted_of {d d':Array Y} (h:PermIn 0 d.size d d') (h4:SortedIn lt 0 d.size d'):d'.toList.Perm d.toList/\Up lt d'.toList:=by
 obtain⟨h1,h2,h3⟩:=h
 constructor
 ·have e1:d'.extract 0 d.size=d':=by rw[<- h1];simp
  have e2:d.extract 0 d.size=d:=by simp
  rw[e1,e2] at h3
  exact h3
 ·rw[Up,Zap]
  intro i j hi hj hij
  simp only[Zbc] at hi hj
  have:=h4 i j (Nat.zero_le _) hij (by omega)
  rw[getElem!_pos d' j hj,getElem!_pos d' i hi] at this
  simpa using this
theorem sort_ret (S:SrtO Y lt) (hS:SWO lt) {l:List Y} (H:Hp N0 N rs) (k:Nat) (hk:rs[k]? =some (ow S.e.p.kd v l)) (hl:l.length<=1099511627776) (htri:∀ x∈l,∀ y∈l,lt x y=false->lt y x=false->x=y):∃ U,Ret Tryz.prog S.nS [v] N (.tup []) U/\Hp N0 U (rs.set k (ow S.e.p.kd v (Bh lt l))):=by
 have key:∃ r U,Ret Tryz.prog S.nS [v] N r U/\r= .tup []/\Hp N0 U (rs.set k (ow S.e.p.kd v (Bh lt l))):=by
  refine Ap S.h_Sort (Z0z rfl) ?_
  have hlen:=(H.sl k hk).len
  have wu:IntKind.u64.wrap (l.length:Int)=l.length:=Iu (by omega) (by omega)
  simp +contextual (disch:=omega) only[go_sem,Aax,hlen,wu]
  refine A6 (Lx N l.length hl) ?_
  simp +contextual (disch:=omega) only[go_sem]
  have HH:Holds S.e N0 N rs k v l.toArray:=Holds.of H (by simpa using hk)
  have hb:=A95 hl
  obtain⟨d',U,R,H1,p1,p2⟩:=pdq_ret S hS l.length l.toArray 0 l.length (bitsLen l.length) N (by omega) (by omega) (by simp) (by simpa using hl) (by omega) (.inl rfl) HH
  have hz:((0:Nat):Int)=0:=rfl
  rw[hz] at R
  refine Ai R ?_
  simp +contextual (disch:=omega) only[go_sem]
  have hsz:l.length=l.toArray.size:=by simp
  rw[hsz] at p1 p2
  obtain⟨q1,q2⟩:=sorted_of p1 p2
  have hE:d'.toList=Bh lt l:=Vc hS htri (by simpa using q1) q2
  exact⟨_,rfl,R.2.1,rfl,by rw[<- hE];exact H1.2⟩
 obtain⟨r,U,R,rfl,h⟩:=key
 exact⟨U,R,h⟩
end O
def Lm:Fn1:=⟨17,[.t 4],(rg [oV 4 kf] (rg [oM 5 0,oC 6 315 5,oM 7 6,jM 8 7 1,jC 9 7 315 8,jU 10 7 9,oQ 11 7 10,oM 12 11,vM 13 12 0,vM 14 12 1,vB 15 12 .lss 13 14,oP 16 12 15,oM 4 16] .ret))⟩
theorem Vl:A4 Tryz.prog 285=some Lm:=by kernel_rfl
def elI:El Int:=⟨pI,false,gi,fun _=>rfl,fun _=>rfl,by decide⟩
theorem Rn (N:St) (a b:Int):Ret Tryz.prog 285 [gi a,gi b] N (.bool (ltI a b)) N:=by
 refine Ab Vl (Z0z rfl) trivial ?_
 simp +contextual (disch:=omega) only[go_sem,Lm]
 refine A6 (F8 N a) ?_
 simp +contextual (disch:=omega) only[go_sem,ltI]
def qI:SN:=⟨279,310,280,283,284,286,287,281,325,314,313,282,256,285,311,312⟩
def srtI:SrtO Int ltI where
 e:=elI
 q:=qI
 call:=Rn
 h_insertionSort:=by kernel_rfl
 h_siftDown:=by kernel_rfl
 h_heapSort:=by kernel_rfl
 h_reverseRange:=by kernel_rfl
 h_partialInsertionSort:=by kernel_rfl
 h_partitionEqual:=by kernel_rfl
 h_partition:=by kernel_rfl
 h_breakPatterns:=by kernel_rfl
 h_order2:=by kernel_rfl
 h_median:=by kernel_rfl
 h_medianAdjacent:=by kernel_rfl
 h_choosePivot:=by kernel_rfl
 h_pdqsort:=by kernel_rfl
 nS:=207
 h_Sort:=by kernel_rfl
 hnp:=rfl
 hxs:=rfl
theorem Ly {N0 N:St} {rs:List Thg} {v:GV} {l:List Int} (H:Hp N0 N rs) (k:Nat) (hk:rs[k]? =some (ow pI.kd v l)) (hl:l.length<=1099511627776):∃ U,Ret Tryz.prog 207 [v] N (.tup []) U/\Hp N0 U (rs.set k (ow pI.kd v (Bh ltI l))):=
 O.sort_ret srtI Aha H k hk hl fun x _ y _=>Ahb x y
def Vn:Fn1:=⟨46,[.t 8],(rg [oX 4 0,o 8 (.mov (.k .nilS))] (rg [o 12 (.lit 6 0 [] []),oM 9 12] (.seq (rg [oV 10 (ki 0)] (oH 0 (.seq (rg [oM 13 10,oF 14 2 4,oL 15 14,oN 16 15,oB 17 .lss 13 16] (oJ 17 0)) (.seq (.blk 1 (rg [oF 20 2 4,oL 21 20,oM 22 10,oI 23 6 21 22,oW 24 6 23,o 11 (.new [(.bool false),s0,s0,z0,z0,z0]),oS 6 11 24] (rg [oF 25 0 11,oL 26 25,oM 27 1,o 28 (.eqb false (.t 26) (.t 27)),oM 29 28,jF 30 29 1 11,jL 31 29 30,jM 32 29 2,jB 33 29 .eql 31 32,oQ 34 29 33,oM 35 34,jF 36 35 2 11,jL 37 35 36,jM 38 35 3,jB 39 35 .eql 37 38,oQ 40 35 39] (oG 40 (.reg [oM 41 9,oW 42 6 11,o 43 (.lit 6 1 [(.bool false),s0,s0,z0,z0,z0] [(0,6,(.t 42))]),o 44 (.app 6 64 [(.bool false),s0,s0,z0,z0,z0] (.t 41) (.t 43)),oM 9 44]))))) (.reg [oM 18 10,oZ 19 18 1,oM 10 19]))))) (rg [oM 45 9,oM 8 45] .ret))))⟩
theorem A5x:A4 Tryz.prog 141=some Vn:=by kernel_rfl
def Vp:Fn1:=⟨42,[.t 8],(rg [oX 4 0,o 8 (.mov (.k .nilS))] (rg [o 12 (.lit 6 0 [] []),oM 9 12] (.seq (rg [oF 13 2 4,oL 14 13,oN 15 14,oV 16 (ki 0)] (oH 0 (rg [oB 17 .lss 16 15] (.seq (oJ 17 0) (.seq (.blk 1 (rg [oI 18 6 14 16,oW 19 6 18,o 11 (.new [(.bool false),s0,s0,z0,z0,z0]),oS 6 11 19] (rg [oF 20 0 11,oL 21 20,oM 22 1,o 23 (.eqb false (.t 21) (.t 22)),oM 24 23,jF 25 24 1 11,jL 26 24 25,jM 27 24 2,jB 28 24 .eql 26 27,oQ 29 24 28,oM 30 29,jF 31 30 2 11,jL 32 30 31,jM 33 30 3,jB 34 30 .eql 32 33,oQ 35 30 34] (oG 35 (.reg [oM 36 9,oW 37 6 11,o 38 (.lit 6 1 [(.bool false),s0,s0,z0,z0,z0] [(0,6,(.t 37))]),o 39 (.app 6 64 [(.bool false),s0,s0,z0,z0,z0] (.t 36) (.t 38)),oM 9 39]))))) (.reg [oZ 40 16 1,oM 16 40])))))) (rg [oM 41 9,oM 8 41] .ret))))⟩
theorem A5y:A4 Tryz.prog 206=some Vp:=by kernel_rfl
theorem A5z {l:List Live} {m:Bool} {o k:ByteArray} {i:Nat} (hi:i<l.length):(l.take (i+1)).filter (Bz m o k)=if Bz m o k l[i] then(l.take i).filter (Bz m o k)++[l[i]] else(l.take i).filter (Bz m o k):=by
 rw[Fn hi]
 split<;>simp
theorem A39 (N:St) (cs:List GV) (s:State) (hR:A8.R N s cs) (m:Bool) (o k:ByteArray) (hl:A7 s<=1099511627776):
  ∃ r U,Ret Tryz.prog 141 [.agg cs,.bool m,.str o,.str k] N r U/\Hp N U [ow Da.kd r (Ju s m o k)]:=by
 obtain⟨a,b,c,v,rfl,_,_,hv,_⟩:=hR
 obtain⟨l1,l2,l3,l4,_⟩:=Am hl
 refine Fm A5x (Z0z rfl) ?_
 have H:=((Hp.refl N).new 1 [a,b,c,v]).nil_Live
 simp +contextual (disch:=omega) only[go_sem,Vn]
 generalize hb:N.length=n1 at*
 refine Pg s.lives.length 10 (fun i env U=>env 1= .bool m/\env 2= .str o/\env 3= .str k/\env 4= .ptr n1 0/\∃ w,env 9=w/\Hp N U [ow Da.kd w ((s.lives.take i).filter (Bz m o k)),pt 1 n1 [a,b,c,v]]) rfl ⟨rfl,rfl,rfl,rfl,_,rfl,H⟩ ?_ ?_
 ·rintro J hJ i env U hi e10 c0 ⟨e1,e2,e3,e4,w,e9,H⟩
  have hfl:=Zaf (Bz m o k) (s.lives.take i)
  rw[Zao] at hfl
  have C1:=A3 (hv.pre H.sub) hi
  have G:=H.grow (pre1 U (some (Blk.row 1 [.bool s.lives[i].map,.str s.lives[i].obj,.str s.lives[i].key,gi s.lives[i].val,gi s.lives[i].dot.rep,gi s.lives[i].dot.seq])))
  have hfs:=A5z (m:=m) (o:=o) (k:=k) hi
  cases hm:(s.lives[i].map==m) with
  |false=>
   have hk0:Bz m o k s.lives[i]=false:=by simp[Bz,hm]
   rw[if_neg (by simp[hk0])] at hfs
   simp +contextual (disch:=omega) only[go_sem,c0,e1,e2,e3,e4,e9,e10,C1,A2 (H.pt 1 rfl),hv.len,hm,Zah]
   refine hJ _ _ _ ⟨?_,?_,?_,?_,w,?_,by rw[hfs];exact G⟩
   all_goals simp +contextual (disch:=omega) only[go_sem,e1,e2,e3,e4,e9,e10]
  |true=>
   cases ho:decide (s.lives[i].obj=o) with
   |false=>
    have hk0:Bz m o k s.lives[i]=false:=by simp[Bz,hm,ho]
    rw[if_neg (by simp[hk0])] at hfs
    simp +contextual (disch:=omega) only[go_sem,c0,e1,e2,e3,e4,e9,e10,C1,A2 (H.pt 1 rfl),hv.len,hm,ho,Zah]
    refine hJ _ _ _ ⟨?_,?_,?_,?_,w,?_,by rw[hfs];exact G⟩
    all_goals simp +contextual (disch:=omega) only[go_sem,e1,e2,e3,e4,e9,e10]
   |true=>
    cases hk:decide (s.lives[i].key=k) with
    |false=>
     have hk0:Bz m o k s.lives[i]=false:=by simp[Bz,hm,ho,hk]
     rw[if_neg (by simp[hk0])] at hfs
     simp +contextual (disch:=omega) only[go_sem,c0,e1,e2,e3,e4,e9,e10,C1,A2 (H.pt 1 rfl),hv.len,hm,ho,hk,Zah]
     refine hJ _ _ _ ⟨?_,?_,?_,?_,w,?_,by rw[hfs];exact G⟩
     all_goals simp +contextual (disch:=omega) only[go_sem,e1,e2,e3,e4,e9,e10]
    |true=>
     have hk0:Bz m o k s.lives[i]=true:=by simp[Bz,hm,ho,hk]
     rw[if_pos hk0] at hfs
     obtain⟨w',U3,e5,H3⟩:=G.app_Live 0 rfl s.lives[i] (by omega)
     simp +contextual (disch:=omega) only[go_sem,c0,e1,e2,e3,e4,e9,e10,C1,A2 (H.pt 1 rfl),hv.len,hm,ho,hk,Zah,e5]
     refine hJ _ _ _ ⟨?_,?_,?_,?_,w',?_,by rw[hfs];exact H3⟩
     all_goals simp +contextual (disch:=omega) only[go_sem,e1,e2,e3,e4,e9,e10]
 ·rintro env U e10 c0 ⟨e1,e2,e3,e4,w,e9,H⟩
  rw[Zab] at H
  simp +contextual (disch:=omega) only[go_sem,c0,e1,e2,e3,e4,e9,e10,A2 (H.pt 1 rfl),hv.len]
  exact⟨_,rfl,H.one⟩
theorem A3a (N:St) (cs:List GV) (s:State) (hR:A8.R N s cs) (m:Bool) (o k:ByteArray) (hl:A7 s<=1099511627776):
  ∃ r U,Ret Tryz.prog 206 [.agg cs,.bool m,.str o,.str k] N r U/\Hp N U [ow Da.kd r (Ju s m o k)]:=by
 obtain⟨a,b,c,v,rfl,_,_,hv,_⟩:=hR
 obtain⟨l1,l2,l3,l4,_⟩:=Am hl
 refine Fm A5y (Z0z rfl) ?_
 have H:=((Hp.refl N).new 1 [a,b,c,v]).nil_Live
 simp +contextual (disch:=omega) only[go_sem,Vp,hv.len]
 generalize hb:N.length=n1 at*
 refine Pg s.lives.length 16 (fun i env U=>env 1= .bool m/\env 2= .str o/\env 3= .str k/\env 14=c/\env 15=gi s.lives.length/\∃ w,env 9=w/\Hp N U [ow Da.kd w ((s.lives.take i).filter (Bz m o k)),pt 1 n1 [a,b,c,v]]) rfl ⟨rfl,rfl,rfl,rfl,rfl,_,rfl,H⟩ ?_ ?_
 ·rintro J hJ i env U hi e10 c0 ⟨e1,e2,e3,e4,e15,w,e9,H⟩
  have hfl:=Zaf (Bz m o k) (s.lives.take i)
  rw[Zao] at hfl
  have C1:=A3 (hv.pre H.sub) hi
  have G:=H.grow (pre1 U (some (Blk.row 1 [.bool s.lives[i].map,.str s.lives[i].obj,.str s.lives[i].key,gi s.lives[i].val,gi s.lives[i].dot.rep,gi s.lives[i].dot.seq])))
  have hfs:=A5z (m:=m) (o:=o) (k:=k) hi
  cases hm:(s.lives[i].map==m) with
  |false=>
   have hk0:Bz m o k s.lives[i]=false:=by simp[Bz,hm]
   rw[if_neg (by simp[hk0])] at hfs
   simp +contextual (disch:=omega) only[go_sem,c0,e1,e2,e3,e4,e15,e9,e10,C1,hm,Zah]
   refine hJ _ _ _ ⟨?_,?_,?_,?_,?_,w,?_,by rw[hfs];exact G⟩
   all_goals simp +contextual (disch:=omega) only[go_sem,e1,e2,e3,e4,e15,e9,e10]
  |true=>
   cases ho:decide (s.lives[i].obj=o) with
   |false=>
    have hk0:Bz m o k s.lives[i]=false:=by simp[Bz,hm,ho]
    rw[if_neg (by simp[hk0])] at hfs
    simp +contextual (disch:=omega) only[go_sem,c0,e1,e2,e3,e4,e15,e9,e10,C1,hm,ho,Zah]
    refine hJ _ _ _ ⟨?_,?_,?_,?_,?_,w,?_,by rw[hfs];exact G⟩
    all_goals simp +contextual (disch:=omega) only[go_sem,e1,e2,e3,e4,e15,e9,e10]
   |true=>
    cases hk:decide (s.lives[i].key=k) with
    |false=>
     have hk0:Bz m o k s.lives[i]=false:=by simp[Bz,hm,ho,hk]
     rw[if_neg (by simp[hk0])] at hfs
     simp +contextual (disch:=omega) only[go_sem,c0,e1,e2,e3,e4,e15,e9,e10,C1,hm,ho,hk,Zah]
     refine hJ _ _ _ ⟨?_,?_,?_,?_,?_,w,?_,by rw[hfs];exact G⟩
     all_goals simp +contextual (disch:=omega) only[go_sem,e1,e2,e3,e4,e15,e9,e10]
    |true=>
     have hk0:Bz m o k s.lives[i]=true:=by simp[Bz,hm,ho,hk]
     rw[if_pos hk0] at hfs
     obtain⟨w',U3,e5,H3⟩:=G.app_Live 0 rfl s.lives[i] (by omega)
     simp +contextual (disch:=omega) only[go_sem,c0,e1,e2,e3,e4,e15,e9,e10,C1,hm,ho,hk,Zah,e5]
     refine hJ _ _ _ ⟨?_,?_,?_,?_,?_,w',?_,by rw[hfs];exact H3⟩
     all_goals simp +contextual (disch:=omega) only[go_sem,e1,e2,e3,e4,e15,e9,e10]
 ·rintro env U e10 c0 ⟨e1,e2,e3,e4,e15,w,e9,H⟩
  rw[Zab] at H
  simp +contextual (disch:=omega) only[go_sem,c0,e1,e2,e3,e4,e15,e9,e10]
  exact⟨_,rfl,H.one⟩
def Id:Fn1:=⟨17,[.t 4],(rg [oV 4 kf] (rg [oM 5 0,oC 6 317 5,oM 7 6,jM 8 7 1,jC 9 7 317 8,jU 10 7 9,oQ 11 7 10,oM 12 11,vM 13 12 0,vM 14 12 1,vB 15 12 .lss 13 14,oP 16 12 15,oM 4 16] .ret))⟩
theorem O7:A4 Tryz.prog 303=some Id:=by kernel_rfl
def elS:El ByteArray:=⟨pS,false,.str,fun _=>rfl,fun _=>rfl,by decide⟩
theorem Lz (N:St) (a b:ByteArray):Ret Tryz.prog 303 [.str a,.str b] N (.bool (txLt a b)) N:=by
 refine Ab O7 (Z0z rfl) trivial ?_
 simp +contextual (disch:=omega) only[go_sem,Id]
 refine A6 (Dc N a) ?_
 simp +contextual (disch:=omega) only[go_sem,txLt]
def qS:SN:=⟨297,318,298,301,302,304,305,299,334,320,319,300,266,303,311,312⟩
def srtS:SrtO ByteArray txLt where
 e:=elS
 q:=qS
 call:=Lz
 h_insertionSort:=by kernel_rfl
 h_siftDown:=by kernel_rfl
 h_heapSort:=by kernel_rfl
 h_reverseRange:=by kernel_rfl
 h_partialInsertionSort:=by kernel_rfl
 h_partitionEqual:=by kernel_rfl
 h_partition:=by kernel_rfl
 h_breakPatterns:=by kernel_rfl
 h_order2:=by kernel_rfl
 h_median:=by kernel_rfl
 h_medianAdjacent:=by kernel_rfl
 h_choosePivot:=by kernel_rfl
 h_pdqsort:=by kernel_rfl
 nS:=243
 h_Sort:=by kernel_rfl
 hnp:=rfl
 hxs:=rfl
theorem F2 {N0 N:St} {rs:List Thg} {v:GV} {l:List ByteArray} (H:Hp N0 N rs) (k:Nat) (hk:rs[k]? =some (ow pS.kd v l)) (hl:l.length<=1099511627776):∃ U,Ret Tryz.prog 243 [v] N (.tup []) U/\Hp N0 U (rs.set k (ow pS.kd v (Bh txLt l))):=
 O.sort_ret srtS Ku H k hk hl fun x _ y _=>Mx x y
def Vr:Fn1:=⟨33,[.t 4],(rg [oX 2 0,oV 4 (ki 0)] (rg [oV 5 (ki 0)] (.seq (rg [oV 6 (ki 0)] (oH 0 (.seq (rg [oM 7 6,oF 8 1 2,oL 9 8,oN 10 9,oB 11 .lss 7 10] (oJ 11 0)) (.seq (.blk 1 (rg [oF 14 1 2,oL 15 14,oM 16 6,oI 17 3 15 16,oF 18 0 17,oL 19 18,oM 20 1,oB 21 .eql 19 20] (oG 21 (.reg [oM 22 5,oF 23 1 2,oL 24 23,oM 25 6,oI 26 3 24 25,oF 27 2 26,oL 28 27,oE 29 .rem 28 1000000,oB 30 .add 22 29,oE 31 .rem 30 1000000,oM 5 31])))) (.reg [oM 12 6,oZ 13 12 1,oM 6 13]))))) (rg [oM 32 5,oM 4 32] .ret))))⟩
theorem A60:A4 Tryz.prog 131=some Vr:=by kernel_rfl
def Vt:Fn1:=⟨27,[.t 4],(rg [oX 2 0,oV 4 (ki 0)] (rg [oV 5 (ki 0)] (.seq (rg [oF 8 1 2,oL 9 8,oN 10 9,oV 11 (ki 0)] (oH 0 (rg [oB 12 .lss 11 10] (.seq (oJ 12 0) (.seq (.blk 1 (rg [oI 13 3 9 11,oW 14 3 13,o 7 (.new [s0,z0,z0]),oS 3 7 14] (rg [oF 15 0 7,oL 16 15,oM 17 1,oB 18 .eql 16 17] (oG 18 (.reg [oM 19 5,oF 20 2 7,oL 21 20,oE 22 .rem 21 1000000,oB 23 .add 19 22,oE 24 .rem 23 1000000,oM 5 24]))))) (.reg [oZ 25 11 1,oM 11 25])))))) (rg [oM 26 5,oM 4 26] .ret))))⟩
theorem A61:A4 Tryz.prog 103=some Vt:=by kernel_rfl
def A16:Fn1:=⟨50,[.t 4],(rg [o 4 (.mov (.k .nilS))] (rg [o 8 (.lit 1 0 [] []),oM 5 8] (rg [oV 6 kf] (.seq (rg [oV 7 (ki 0)] (oH 0 (.seq (rg [oM 9 7,oM 10 0,oN 11 10,oB 12 .lss 9 11] (oJ 12 0)) (.seq (.blk 1 (.seq (rg [oM 15 0,oM 16 7,oI 17 1 15 16,oL 18 17,oM 19 1,oB 20 .eql 18 19] (oG 20 (rg [oM 21 0,oM 4 21] .ret))) (.seq (rg [oM 22 6,oU 23 22,oM 24 23,jM 25 24 0,jM 26 24 7,jI 27 24 1 25 26,jL 28 24 27,jM 29 24 1,jB 30 24 .gtr 28 29,oQ 31 24 30] (oG 31 (rg [oM 32 5,oM 33 1,o 34 (.lit 1 1 [s0] [(0,1,(.t 33))]),o 35 (.app 1 16 [s0] (.t 32) (.t 34)),oM 5 35] (.reg [oV 6 kt])))) (.reg [oM 36 5,oM 37 0,oM 38 7,oI 39 1 37 38,oL 40 39,o 41 (.lit 1 1 [s0] [(0,1,(.t 40))]),o 42 (.app 1 16 [s0] (.t 36) (.t 41)),oM 5 42])))) (.reg [oM 13 7,oZ 14 13 1,oM 7 14]))))) (.seq (rg [oM 43 6,oU 44 43] (oG 44 (.reg [oM 45 5,oM 46 1,o 47 (.lit 1 1 [s0] [(0,1,(.t 46))]),o 48 (.app 1 16 [s0] (.t 45) (.t 47)),oM 5 48]))) (rg [oM 49 5,oM 4 49] .ret))))))⟩
theorem A9b:A4 Tryz.prog 236=some A16:=by kernel_rfl
theorem Ae7 (x:Int): -1000000<x.tmod 1000000/\x.tmod 1000000<1000000:=by
 have h1:=Zbf x (b:=1000000) (by decide)
 have h2:=Zbf (-x) (b:=1000000) (by decide)
 rw[Int.neg_tmod] at h2
 omega
theorem A17 {l:List Tally} {o:ByteArray} {i:Nat} (hi:i<l.length):(l.take (i+1)).foldl (Fy o) 0=if l[i].obj=o then addM ((l.take i).foldl (Fy o) 0) (l[i].sum.tmod 1000000) else(l.take i).foldl (Fy o) 0:=by
 rw[Zac hi,A93];rfl
theorem A3b (N:St) (cs:List GV) (s:State) (hR:A8.R N s cs) (o:ByteArray) (hl:A7 s<=1099511627776):Ret Tryz.prog 131 [.agg cs,.str o] N (gi (By s o)) N:=by
 obtain⟨a,b,c,v,rfl,_,hb,_,_⟩:=hR
 obtain⟨l1,l2,l3,l4,_⟩:=Am hl
 refine Ab A60 (Z0z rfl) trivial ?_
 simp +contextual (disch:=omega) only[go_sem,Vr]
 have hB:rdB (N++[some (Blk.row 1 [a,b,c,v])]) N.length=some [a,b,c,v]:=Je (Zbj _)
 generalize hn1:N.length=n1 at*
 refine Ho s.tallies.length 6 0 (fun i env U=>env 1= .str o/\env 2= .ptr n1 0/\env 5=gi ((s.tallies.take i).foldl (Fy o) 0)/\N++[some (Blk.row 1 [a,b,c,v])] <+: U) (fun env U=>env 5=gi (By s o)/\N++[some (Blk.row 1 [a,b,c,v])] <+: U) rfl ⟨rfl,rfl,rfl,Zbj _⟩ ?_ ?_ ?_
 ·rintro J Yq hJ hY i env U hi e6 c0 ⟨e1,e2,e5,hp⟩
  have T:=Aa (hb.pre ((pre1 _ _).trans hp)) hi
  have hln:=(hb.pre ((pre1 _ _).trans hp)).len
  have hbd:=Vg (l:=s.tallies.take i) (o:=o) (n:=0) (by decide)
  have htm:=Ae7 s.tallies[i].sum
  have hst:=A17 (o:=o) hi
  generalize(s.tallies.take i).foldl (Fy o) 0=n at*
  cases ho:decide (s.tallies[i].obj=o) with
  |false=>
   have ho2:¬ s.tallies[i].obj=o:=by simpa using ho
   rw[if_neg ho2] at hst
   simp +contextual (disch:=omega) only[go_sem,c0,e1,e2,e5,e6,A2 (Aq hp hB),T,hln,ho]
   refine hJ _ _ _ ⟨?_,?_,?_,hp⟩
   all_goals simp +contextual (disch:=omega) only[go_sem,e1,e2,e5,hst]
  |true=>
   have ho2:s.tallies[i].obj=o:=by simpa using ho
   rw[if_pos ho2] at hst
   have w1:IntKind.i64.wrap (n+s.tallies[i].sum.tmod 1000000)=n+s.tallies[i].sum.tmod 1000000:=Af (by omega) (by omega)
   simp +contextual (disch:=omega) only[go_sem,c0,e1,e2,e5,e6,A2 (Aq hp hB),T,hln,ho,w1]
   refine hJ _ _ _ ⟨?_,?_,?_,hp⟩
   all_goals simp +contextual (disch:=omega) only[go_sem,e1,e2,e5,hst,addM]
 ·rintro Yq hY env U e6 c0 ⟨e1,e2,e5,hp⟩
  rw[Zab] at e5
  have hln:=(hb.pre ((pre1 _ _).trans hp)).len
  simp +contextual (disch:=omega) only[go_sem,c0,e1,e2,e5,e6,A2 (Aq hp hB),hln]
  refine hY _ _ ⟨?_,hp⟩
  simp +contextual (disch:=omega) only[go_sem,e5,By]
 ·rintro env U ⟨e5,hp⟩
  simp +contextual (disch:=omega) only[go_sem,e5]
  exact(pre1 _ _).trans hp
theorem A3c (N:St) (cs:List GV) (s:State) (hR:A8.R N s cs) (o:ByteArray) (hl:A7 s<=1099511627776):Ret Tryz.prog 103 [.agg cs,.str o] N (gi (By s o)) N:=by
 obtain⟨a,b,c,v,rfl,_,hb,_,_⟩:=hR
 obtain⟨l1,l2,l3,l4,_⟩:=Am hl
 refine Ab A61 (Z0z rfl) trivial ?_
 simp +contextual (disch:=omega) only[go_sem,Vt,hb.len]
 refine Ho s.tallies.length 11 0 (fun i env U=>env 1= .str o/\env 9=b/\env 10=gi s.tallies.length/\env 5=gi ((s.tallies.take i).foldl (Fy o) 0)/\N <+: U) (fun env U=>env 5=gi (By s o)/\N <+: U) rfl ⟨rfl,rfl,rfl,rfl,pre1 _ _⟩ ?_ ?_ ?_
 ·rintro J Yq hJ hY i env U hi e11 c0 ⟨e1,e9,e10,e5,hp⟩
  have T:=Aa (hb.pre hp) hi
  have hp2:=A0 hp [some (Blk.row 1 [.str s.tallies[i].obj,gi s.tallies[i].rep,gi s.tallies[i].sum])]
  have hbd:=Vg (l:=s.tallies.take i) (o:=o) (n:=0) (by decide)
  have htm:=Ae7 s.tallies[i].sum
  have hst:=A17 (o:=o) hi
  generalize(s.tallies.take i).foldl (Fy o) 0=n at*
  cases ho:decide (s.tallies[i].obj=o) with
  |false=>
   have ho2:¬ s.tallies[i].obj=o:=by simpa using ho
   rw[if_neg ho2] at hst
   simp +contextual (disch:=omega) only[go_sem,c0,e1,e9,e10,e5,e11,T,ho]
   refine hJ _ _ _ ⟨?_,?_,?_,?_,hp2⟩
   all_goals simp +contextual (disch:=omega) only[go_sem,e1,e9,e10,e5,hst]
  |true=>
   have ho2:s.tallies[i].obj=o:=by simpa using ho
   rw[if_pos ho2] at hst
   have w1:IntKind.i64.wrap (n+s.tallies[i].sum.tmod 1000000)=n+s.tallies[i].sum.tmod 1000000:=Af (by omega) (by omega)
   simp +contextual (disch:=omega) only[go_sem,c0,e1,e9,e10,e5,e11,T,ho,w1]
   refine hJ _ _ _ ⟨?_,?_,?_,?_,hp2⟩
   all_goals simp +contextual (disch:=omega) only[go_sem,e1,e9,e10,e5,hst,addM]
 ·rintro Yq hY env U e11 c0 ⟨e1,e9,e10,e5,hp⟩
  rw[Zab] at e5
  simp +contextual (disch:=omega) only[go_sem,c0,e1,e9,e10,e5,e11]
  refine hY _ _ ⟨?_,hp⟩
  simp +contextual (disch:=omega) only[go_sem,e5,By]
 ·rintro env U ⟨e5,hp⟩
  simp +contextual (disch:=omega) only[go_sem,e5,hp]
theorem Fq {N0 N:St} {rs:List Thg} {w:GV} {l:List ByteArray} (s:ByteArray) (H:Hp N0 N rs) (k:Nat) (hk:rs[k]? =some (ow pS.kd w l)) (hl:l.length<=1099511627776):∃ w' U,Ret Tryz.prog 236 [w,.str s] N w' U/\Hp N0 U (rs.set k (ow pS.kd w' (putU txLt s l))):=by
 have key:∃ r U,Ret Tryz.prog 236 [w,.str s] N r U/\Hp N0 U (rs.set k (ow pS.kd r (putU txLt s l))):=by
  have hkl:=(Zad.1 hk).1
  have hset:rs.set k (ow pS.kd w l)=rs:=by rw[<- (Zad.1 hk).2,Zat]
  refine Fm A9b (Z0z rfl) ?_
  have H:=H.nil_str
  simp +contextual (disch:=omega) only[go_sem,A16]
  refine Ah1 l.length 7 0 (fun i env U=>env 0=w/\env 1= .str s/\∃(u:GV) (put:Bool) (nxt:List ByteArray),env 5=u/\env 6= .bool put/\(∀ j (hj:j<i) (hl:j<l.length),l[j]≠s)/\insG txLt s l nxt i put/\Hp N0 U (ow pS.kd u nxt::rs)) (fun env U=>env 1= .str s/\∃(u:GV) (put:Bool) (nxt:List ByteArray),env 5=u/\env 6= .bool put/\s∉l/\insG txLt s l nxt l.length put/\Hp N0 U (ow pS.kd u nxt::rs)) (fun env U=>env 4=w/\s∈l/\Hp N0 U rs) rfl ⟨rfl,rfl,_,false,[],rfl,rfl,fun j hj=>by omega,A31,H⟩ ?_ ?_ ?_ ?_
  ·clear H
   rintro J Yq Wq hJ hY hW i env U hi e7 c0 ⟨e0,e1,u,put,nxt,e5,e6,ha,hok,H⟩
   have hk1:(ow pS.kd u nxt::rs)[k+1]? =some (ow pS.kd w l):=hk
   have hnl:=G5 hok
   have i1:=Gs (H.sl (k+1) hk1) hi
   have hln:=(H.sl (k+1) hk1).len
   cases heq:decide (l[i]=s) with
   |true=>
    have hm:s∈l:=by
     have:l[i]=s:=by simpa using heq
     rw[<- this];exact Zal hi
    simp +contextual (disch:=omega) only[go_sem,c0,e0,e1,e5,e6,e7,i1,hln,heq]
    refine hW _ _ ⟨?_,hm,H.drop1⟩
    simp +contextual (disch:=omega) only[go_sem,e0]
   |false=>
    have hne:l[i]≠s:=by simpa using heq
    have ha2:∀ j (hj:j<i+1) (hl:j<l.length),l[j]≠s:=fun j hj hl=>by
     rcases Zag j i with h|h
     ·exact ha j h hl
     ·have:j=i:=by omega
      subst this;exact hne
    cases put with
    |true=>
     obtain⟨w',U3,e8,H3⟩:=H.app_str 0 rfl l[i] (by omega)
     simp +contextual (disch:=omega) only[go_sem,c0,e0,e1,e5,e6,e7,i1,hln,heq,e8]
     refine hJ _ _ _ ⟨?_,?_,w',true,_,?_,?_,ha2,I7 hok hi (.inl rfl),H3⟩
     all_goals simp +contextual (disch:=omega) only[go_sem,e0,e1,e6]
    |false=>
     cases hlt:txLt s l[i] with
     |false=>
      obtain⟨w',U3,e8,H3⟩:=H.app_str 0 rfl l[i] (by omega)
      simp +contextual (disch:=omega) only[go_sem,c0,e0,e1,e5,e6,e7,i1,hln,heq,hlt,e8]
      refine hJ _ _ _ ⟨?_,?_,w',false,_,?_,?_,ha2,I7 hok hi (.inr hlt),H3⟩
      all_goals simp +contextual (disch:=omega) only[go_sem,e0,e1,e6]
     |true=>
      obtain⟨w',U3,e8,H3⟩:=H.app_str 0 rfl s (by omega)
      have H3:Hp N0 U3 (ow pS.kd w' (nxt++[s])::rs):=H3
      have hp:=A32 hok hi hlt
      have hnl2:=G5 hp
      simp only[Zae,Zak,Zaq] at hnl2
      have i2:=Gs (H3.sl (k+1) hk) hi
      obtain⟨w2,U4,e9,H4⟩:=H3.app_str 0 rfl l[i] (by simp;omega)
      simp +contextual (disch:=omega) only[go_sem,c0,e0,e1,e5,e6,e7,i1,hln,heq,hlt,e8,i2,e9]
      refine hJ _ _ _ ⟨?_,?_,w2,true,_,?_,?_,ha2,hp,H4⟩
      all_goals simp +contextual (disch:=omega) only[go_sem,e0,e1,e6]
  ·clear H
   rintro Yq hY env U e7 c0 ⟨e0,e1,u,put,nxt,e5,e6,ha,hok,H⟩
   have hk1:(ow pS.kd u nxt::rs)[k+1]? =some (ow pS.kd w l):=hk
   have hln:=(H.sl (k+1) hk1).len
   have hni:s∉l:=fun hm=>by
    obtain⟨j,hj,he⟩:=Zaw hm
    exact ha j hj hj he
   simp +contextual (disch:=omega) only[go_sem,c0,e0,e1,e5,e6,e7,hln]
   refine hY _ _ ⟨?_,u,put,nxt,?_,?_,hni,hok,H⟩
   all_goals simp +contextual (disch:=omega) only[go_sem,e1,e5,e6]
  ·clear H
   rintro env U ⟨e1,u,put,nxt,e5,e6,hni,hok,H⟩
   have hnl:=G5 hok
   have hend:=A33 hok
   have hpu:putU txLt s l=insB txLt s l:=by rw[putU,if_neg hni]
   cases put with
   |true=>
    simp +contextual (disch:=omega) only[go_sem,e1,e5,e6]
    refine⟨_,rfl,?_⟩
    rw[hpu,<-hend]
    exact(H.perm (List.Perm.refl _)).moveTo k hk
   |false=>
    obtain⟨w',U3,e8,H3⟩:=H.app_str 0 rfl s (by omega)
    simp +contextual (disch:=omega) only[go_sem,e1,e5,e6,e8]
    refine⟨_,rfl,?_⟩
    rw[hpu,<-hend]
    exact Hp.moveTo H3 k hk
  ·clear H
   rintro env U ⟨e4,hm,H⟩
   have hpu:putU txLt s l=l:=by rw[putU,if_pos hm]
   simp +contextual (disch:=omega) only[go_sem,e4]
   exact⟨_,rfl,by rw[hpu,hset];exact H⟩
 obtain⟨r,U,R,h⟩:=key
 exact⟨r,U,R,h⟩
def Vv:Fn1:=⟨44,[.t 6],(rg [oX 3 0,o 6 (.mov (.k .nilS))] (rg [o 9 (.lit 1 0 [] []),oM 7 9] (.seq (rg [oV 8 (ki 0)] (oH 0 (.seq (rg [oM 10 8,oF 11 2 3,oL 12 11,oN 13 12,oB 14 .lss 10 13] (oJ 14 0)) (.seq (.blk 1 (rg [oF 17 2 3,oL 18 17,oM 19 8,oI 20 6 18 19,oF 21 0 20,oL 22 21,oM 23 1,o 24 (.eqb false (.t 22) (.t 23)),oM 25 24,jF 26 25 2 3,jL 27 25 26,jM 28 25 8,jI 29 25 6 27 28,jF 30 25 1 29,jL 31 25 30,jM 32 25 2,jB 33 25 .eql 31 32,oQ 34 25 33] (oG 34 (.reg [oM 35 7,oF 36 2 3,oL 37 36,oM 38 8,oI 39 6 37 38,oF 40 2 39,oL 41 40,oD 42 236 35 41,oM 7 42])))) (.reg [oM 15 8,oZ 16 15 1,oM 8 16]))))) (rg [oM 43 7,oM 6 43] .ret))))⟩
theorem A62:A4 Tryz.prog 213=some Vv:=by kernel_rfl
def A19:Fn1:=⟨38,[.t 6],(rg [oX 3 0,o 6 (.mov (.k .nilS))] (rg [o 10 (.lit 1 0 [] []),oM 7 10] (.seq (rg [oF 11 2 3,oL 12 11,oN 13 12,oV 14 (ki 0)] (oH 0 (rg [oB 15 .lss 14 13] (.seq (oJ 15 0) (.seq (.blk 1 (rg [oI 16 6 12 14,oW 17 6 16,o 9 (.new [(.bool false),s0,s0,z0,z0,z0]),oS 6 9 17] (rg [oF 18 0 9,oL 19 18,oM 20 1,o 21 (.eqb false (.t 19) (.t 20)),oM 22 21,jF 23 22 1 9,jL 24 22 23,jM 25 22 2,jB 26 22 .eql 24 25,oQ 27 22 26] (oG 27 (.reg [oM 28 7,oF 29 2 9,oL 30 29,o 31 (.lit 1 1 [s0] [(0,1,(.t 30))]),o 32 (.app 1 16 [s0] (.t 28) (.t 31)),oM 7 32]))))) (.reg [oZ 33 14 1,oM 14 33])))))) (rg [oM 34 7,oC 35 243 34] (rg [oM 36 7,oC 37 244 36,oM 6 37] .ret)))))⟩
theorem A9c:A4 Tryz.prog 205=some A19:=by kernel_rfl
def A64:Fn1:=⟨8,[.t 4],(rg [oX 2 0,o 4 (.mov (.k .nilS))] (rg [oW 5 4 2,oM 6 1,o 7 (.call 213 [(.t 5),kf,(.t 6)]),oM 4 7] .ret))⟩
theorem Ac4:A4 Tryz.prog 116=some A64:=by kernel_rfl
def A66:Fn1:=⟨8,[.t 4],(rg [oX 2 0,o 4 (.mov (.k .nilS))] (rg [oW 5 4 2,oM 6 1,o 7 (.call 205 [(.t 5),kf,(.t 6)]),oM 4 7] .ret))⟩
theorem Ac5:A4 Tryz.prog 105=some A66:=by kernel_rfl
def A1b:Fn1:=⟨8,[.t 4],(rg [oX 2 0,o 4 (.mov (.k .nilS))] (rg [oW 5 4 2,oM 6 1,o 7 (.call 213 [(.t 5),kt,(.t 6)]),oM 4 7] .ret))⟩
theorem A9d:A4 Tryz.prog 151=some A1b:=by kernel_rfl
def A1d:Fn1:=⟨8,[.t 4],(rg [oX 2 0,o 4 (.mov (.k .nilS))] (rg [oW 5 4 2,oM 6 1,o 7 (.call 205 [(.t 5),kt,(.t 6)]),oM 4 7] .ret))⟩
theorem A9e:A4 Tryz.prog 144=some A1d:=by kernel_rfl
def A68:Fn1:=⟨72,[.t 6],(rg [oX 3 0,o 6 (.mov (.k .nilS))] (rg [o 13 (.lit 1 0 [] []),oM 7 13] (rg [oW 14 4 3,oM 15 1,oM 16 2,o 17 (.call 141 [(.t 14),kt,(.t 15),(.t 16)]),oM 8 17] (.seq (rg [oV 9 (ki 0)] (oH 0 (.seq (rg [oM 18 9,oM 19 8,oN 20 19,oB 21 .lss 18 20] (oJ 21 0)) (.seq (.blk 1 (rg [o 24 (.lit 1 0 [] []),oM 10 24] (rg [oV 11 kf] (.seq (rg [oV 12 (ki 0)] (oH 2 (.seq (rg [oM 25 12,oM 26 7,oN 27 26,oB 28 .lss 25 27] (oJ 28 2)) (.seq (.blk 3 (.seq (dw [oM 31 11,oU 32 31,oM 33 32,jM 34 33 7,jM 35 33 12,jI 36 33 1 34 35,jL 37 33 36,jM 38 33 8,jM 39 33 9,jI 40 33 6 38 39,jF 41 33 3 40,jL 42 33 41] [jB 43 33 .gtr 37 42,oQ 44 33 43] (oG 44 (rg [oM 45 10,oM 46 8,oM 47 9,oI 48 6 46 47,oF 49 3 48,oL 50 49,o 51 (.lit 1 1 [z0] [(0,1,(.t 50))]),o 52 (.app 1 8 [z0] (.t 45) (.t 51)),oM 10 52] (.reg [oV 11 kt])))) (.reg [oM 53 10,oM 54 7,oM 55 12,oI 56 1 54 55,oL 57 56,o 58 (.lit 1 1 [z0] [(0,1,(.t 57))]),o 59 (.app 1 8 [z0] (.t 53) (.t 58)),oM 10 59]))) (.reg [oM 29 12,oZ 30 29 1,oM 12 30]))))) (.seq (rg [oM 60 11,oU 61 60] (oG 61 (.reg [oM 62 10,oM 63 8,oM 64 9,oI 65 6 63 64,oF 66 3 65,oL 67 66,o 68 (.lit 1 1 [z0] [(0,1,(.t 67))]),o 69 (.app 1 8 [z0] (.t 62) (.t 68)),oM 10 69]))) (.reg [oM 70 10,oM 7 70])))))) (.reg [oM 22 9,oZ 23 22 1,oM 9 23]))))) (rg [oM 71 7,oM 6 71] .ret)))))⟩
theorem Ac6:A4 Tryz.prog 50=some A68:=by kernel_rfl
def A6a:Fn1:=⟨29,[.t 6],(rg [oX 3 0,o 6 (.mov (.k .nilS))] (rg [o 10 (.lit 1 0 [] []),oM 7 10] (.seq (rg [oW 11 4 3,oM 12 1,oM 13 2,o 14 (.call 206 [(.t 11),kt,(.t 12),(.t 13)]),oN 15 14,oV 16 (ki 0)] (oH 0 (rg [oB 17 .lss 16 15] (.seq (oJ 17 0) (.seq (.blk 1 (rg [oI 18 6 14 16,oW 19 6 18,o 9 (.new [(.bool false),s0,s0,z0,z0,z0]),oS 6 9 19] (.reg [oM 20 7,oF 21 3 9,oL 22 21,o 23 (.lit 1 1 [z0] [(0,1,(.t 22))]),o 24 (.app 1 8 [z0] (.t 20) (.t 23)),oM 7 24]))) (.reg [oZ 25 16 1,oM 16 25])))))) (rg [oM 26 7,oC 27 207 26] (rg [oM 28 7,oM 6 28] .ret)))))⟩
theorem Ac7:A4 Tryz.prog 106=some A6a:=by kernel_rfl
def A6c:Fn1:=⟨37,[.t 4],(rg [oX 2 0,o 4 (.mov (.k .nilS))] (rg [o 8 (.lit 1 0 [] []),oM 5 8] (.seq (rg [oW 9 4 2,oC 10 54 9,oU 11 10] (oG 11 (rg [oM 12 5,oM 4 12] .ret))) (rg [oW 13 4 2,oM 14 1,oD 15 119 13 14,oM 6 15] (.seq (rg [oV 7 (ki 0)] (oH 0 (.seq (rg [oM 16 7,oM 17 6,oN 18 17,oB 19 .lss 16 18] (oJ 19 0)) (.seq (.blk 1 (rg [oM 22 6,oM 23 7,oI 24 8 22 23,oF 25 7 24,oL 26 25,oU 27 26] (oG 27 (.reg [oM 28 5,oM 29 6,oM 30 7,oI 31 8 29 30,oF 32 6 31,oL 33 32,o 34 (.lit 1 1 [z0] [(0,1,(.t 33))]),o 35 (.app 1 8 [z0] (.t 28) (.t 34)),oM 5 35])))) (.reg [oM 20 7,oZ 21 20 1,oM 7 21]))))) (rg [oM 36 5,oM 4 36] .ret))))))⟩
theorem Ac8:A4 Tryz.prog 133=some A6c:=by kernel_rfl
def A6e:Fn1:=⟨24,[.t 4],(rg [oX 2 0,o 4 (.mov (.k .nilS))] (rg [o 8 (.lit 1 0 [] []),oM 5 8] (.seq (rg [oW 9 4 2,oM 10 1,oD 11 208 9 10,oN 12 11,oV 13 (ki 0)] (oH 0 (rg [oB 14 .lss 13 12] (.seq (oJ 14 0) (.seq (.blk 1 (rg [oI 15 8 11 13,oW 16 8 15,o 7 (.new [s0,z0,z0,z0,z0,z0,z0,(.bool false)]),oS 8 7 16] (.reg [oM 17 5,oF 18 6 7,oL 19 18,o 20 (.lit 1 1 [z0] [(0,1,(.t 19))]),o 21 (.app 1 8 [z0] (.t 17) (.t 20)),oM 5 21]))) (.reg [oZ 22 13 1,oM 13 22])))))) (rg [oM 23 5,oM 4 23] .ret))))⟩
theorem Ac9:A4 Tryz.prog 107=some A6e:=by kernel_rfl
def eqS:Eqs elS:=⟨fun x y=>by
 show binG .eql (.str x) (.str y)=_
 simp only[Aew],fun x y=>by
 show binG .neq (.str x) (.str y)=_
 simp only[Aex],[.str ⟨#[]⟩],rfl⟩
theorem Ie:A4 Tryz.prog 244=some (O4 elS.p.z elS.g eqS.ze):=by kernel_rfl
theorem Dn {N0 N:St} {rs:List Thg} {v:GV} {l:List ByteArray} (H:Hp N0 N rs) (k:Nat) (hk:rs[k]? =some (ow pS.kd v l)) (hl:l.length<=1099511627776):∃ v' U,Ret Tryz.prog 244 [v] N v' U/\Hp N0 U (rs.set k (ow pS.kd v' (Ay l))):=
 A99 eqS Ie H k hk hl
theorem A6f {l:List Live} {m:Bool} {o:ByteArray} {i:Nat} (hi:i<l.length):((l.take (i+1)).filter (Bf m o)).map (·.key)=if Bf m o l[i] then((l.take i).filter (Bf m o)).map (·.key)++[l[i].key] else((l.take i).filter (Bf m o)).map (·.key):=by
 rw[Fn hi]
 split<;>simp
theorem O8 (N:St) (cs:List GV) (s:State) (hR:A8.R N s cs) (m:Bool) (o:ByteArray) (hl:A7 s<=1099511627776):∃ r U,Ret Tryz.prog 213 [.agg cs,.bool m,.str o] N r U/\Hp N U [ow pS.kd r (B8 s m o)]:=by
 obtain⟨a,b,c,v,rfl,_,_,hv,_⟩:=hR
 obtain⟨l1,l2,l3,l4,_⟩:=Am hl
 refine Fm A62 (Z0z rfl) ?_
 have H:=((Hp.refl N).new 1 [a,b,c,v]).nil_str
 simp +contextual (disch:=omega) only[go_sem,Vv]
 generalize hb:N.length=n1 at*
 refine Ho s.lives.length 8 0 (fun i env U=>env 1= .bool m/\env 2= .str o/\env 3= .ptr n1 0/\∃ w,env 7=w/\Hp N U [ow pS.kd w (A9 txLt (((s.lives.take i).filter (Bf m o)).map (·.key))),pt 1 n1 [a,b,c,v]]) (fun env U=>∃ w,env 7=w/\Hp N U [ow pS.kd w (B8 s m o)]) rfl ⟨rfl,rfl,rfl,_,rfl,H⟩ ?_ ?_ ?_
 ·clear H
  rintro J Yq hJ hY i env U hi e8 c0 ⟨e1,e2,e3,w,e7,H⟩
  have hfl:=C3 s.lives (Bf m o) i
  have hpl:=Cb txLt (((s.lives.take i).filter (Bf m o)).map (·.key))
  rw[Zai] at hpl
  have C1:=A3 (hv.pre H.sub) hi
  have hln:=(hv.pre H.sub).len
  have hks:=A6f (m:=m) (o:=o) hi
  cases hm:(s.lives[i].map==m) with
  |false=>
   have hk0:Bf m o s.lives[i]=false:=by simp[Bf,hm]
   rw[hk0,if_neg (by simp)] at hks
   simp +contextual (disch:=omega) only[go_sem,c0,e1,e2,e3,e7,e8,C1,A2 (H.pt 1 rfl),hln,hm,Zah]
   refine hJ _ _ _ ⟨?_,?_,?_,w,?_,by rw[hks];exact H⟩
   all_goals simp +contextual (disch:=omega) only[go_sem,e1,e2,e3,e7]
  |true=>
   cases ho:decide (s.lives[i].obj=o) with
   |false=>
    have hk0:Bf m o s.lives[i]=false:=by simp[Bf,hm,ho]
    rw[hk0,if_neg (by simp)] at hks
    simp +contextual (disch:=omega) only[go_sem,c0,e1,e2,e3,e7,e8,C1,A2 (H.pt 1 rfl),hln,hm,ho,Zah]
    refine hJ _ _ _ ⟨?_,?_,?_,w,?_,by rw[hks];exact H⟩
    all_goals simp +contextual (disch:=omega) only[go_sem,e1,e2,e3,e7]
   |true=>
    have hk0:Bf m o s.lives[i]=true:=by simp[Bf,hm,ho]
    rw[hk0,if_pos rfl] at hks
    obtain⟨w',U3,R3,H3⟩:=Fq s.lives[i].key H 0 rfl (by omega)
    simp +contextual (disch:=omega) only[go_sem,c0,e1,e2,e3,e7,e8,C1,A2 (H.pt 1 rfl),hln,hm,ho,Zah]
    refine Ai R3 ?_
    simp +contextual (disch:=omega) only[go_sem,e1,e2,e3,e7,e8]
    refine hJ _ _ _ ⟨?_,?_,?_,w',?_,?_⟩
    all_goals first|(simp +contextual (disch:=omega) only[go_sem,e1,e2,e3,e7];done)|skip
    rw[hks,Iq]
    exact H3
 ·clear H
  rintro Yq hY env U e8 c0 ⟨e1,e2,e3,w,e7,H⟩
  rw[Zab] at H
  have hln:=(hv.pre H.sub).len
  simp +contextual (disch:=omega) only[go_sem,c0,e1,e2,e3,e7,e8,A2 (H.pt 1 rfl),hln]
  refine hY _ _ ⟨w,?_,H.one⟩
  simp +contextual (disch:=omega) only[go_sem,e7]
 ·clear H
  rintro env U ⟨w,e7,H⟩
  simp +contextual (disch:=omega) only[go_sem,e7]
  exact⟨_,rfl,H⟩
theorem Rb (N:St) (cs:List GV) (s:State) (hR:A8.R N s cs) (m:Bool) (o:ByteArray) (hl:A7 s<=1099511627776):∃ r U,Ret Tryz.prog 205 [.agg cs,.bool m,.str o] N r U/\Hp N U [ow pS.kd r (B8 s m o)]:=by
 obtain⟨a,b,c,v,rfl,_,_,hv,_⟩:=hR
 obtain⟨l1,l2,l3,l4,_⟩:=Am hl
 refine Fm A9c (Z0z rfl) ?_
 have H:=((Hp.refl N).new 1 [a,b,c,v]).nil_str
 simp +contextual (disch:=omega) only[go_sem,A19,hv.len]
 generalize hb:N.length=n1 at*
 refine Ho s.lives.length 14 0 (fun i env U=>env 1= .bool m/\env 2= .str o/\env 12=c/\env 13=gi s.lives.length/\∃ w,env 7=w/\Hp N U [ow pS.kd w (((s.lives.take i).filter (Bf m o)).map (·.key)),pt 1 n1 [a,b,c,v]]) (fun env U=>∃ w,env 7=w/\Hp N U [ow pS.kd w ((s.lives.filter (Bf m o)).map (·.key)),pt 1 n1 [a,b,c,v]]) rfl ⟨rfl,rfl,rfl,rfl,_,rfl,H⟩ ?_ ?_ ?_
 ·clear H
  rintro J Yq hJ hY i env U hi e14 c0 ⟨e1,e2,e12,e13,w,e7,H⟩
  have hfl:=C3 s.lives (Bf m o) i
  have C1:=A3 (hv.pre H.sub) hi
  have G:=H.grow (pre1 U (some (Blk.row 1 [.bool s.lives[i].map,.str s.lives[i].obj,.str s.lives[i].key,gi s.lives[i].val,gi s.lives[i].dot.rep,gi s.lives[i].dot.seq])))
  have hks:=A6f (m:=m) (o:=o) hi
  cases hm:(s.lives[i].map==m) with
  |false=>
   have hk0:Bf m o s.lives[i]=false:=by simp[Bf,hm]
   rw[hk0,if_neg (by simp)] at hks
   simp +contextual (disch:=omega) only[go_sem,c0,e1,e2,e12,e13,e7,e14,C1,hm,Zah]
   refine hJ _ _ _ ⟨?_,?_,?_,?_,w,?_,by rw[hks];exact G⟩
   all_goals simp +contextual (disch:=omega) only[go_sem,e1,e2,e12,e13,e7]
  |true=>
   cases ho:decide (s.lives[i].obj=o) with
   |false=>
    have hk0:Bf m o s.lives[i]=false:=by simp[Bf,hm,ho]
    rw[hk0,if_neg (by simp)] at hks
    simp +contextual (disch:=omega) only[go_sem,c0,e1,e2,e12,e13,e7,e14,C1,hm,ho,Zah]
    refine hJ _ _ _ ⟨?_,?_,?_,?_,w,?_,by rw[hks];exact G⟩
    all_goals simp +contextual (disch:=omega) only[go_sem,e1,e2,e12,e13,e7]
   |true=>
    have hk0:Bf m o s.lives[i]=true:=by simp[Bf,hm,ho]
    rw[hk0,if_pos rfl] at hks
    obtain⟨w',U3,e8,H3⟩:=G.app_str 0 rfl s.lives[i].key (by rw[Zai];omega)
    simp +contextual (disch:=omega) only[go_sem,c0,e1,e2,e12,e13,e7,e14,C1,hm,ho,Zah,e8]
    refine hJ _ _ _ ⟨?_,?_,?_,?_,w',?_,?_⟩
    all_goals first|(simp +contextual (disch:=omega) only[go_sem,e1,e2,e12,e13,e7];done)|skip
    rw[hks]
    exact H3
 ·clear H
  rintro Yq hY env U e14 c0 ⟨e1,e2,e12,e13,w,e7,H⟩
  rw[Zab] at H
  simp +contextual (disch:=omega) only[go_sem,c0,e1,e2,e12,e13,e7,e14]
  refine hY _ _ ⟨w,?_,H⟩
  simp +contextual (disch:=omega) only[go_sem,e7]
 ·clear H
  rintro env U ⟨w,e7,H⟩
  have hfl:=Zaf (Bf m o) s.lives
  generalize hK:(s.lives.filter (Bf m o)).map (·.key)=K at*
  have hKl:K.length<=1099511627776:=by rw[<- hK,Zai];omega
  obtain⟨U2,R2,H2⟩:=F2 H 0 rfl hKl
  simp +contextual (disch:=omega) only[go_sem,e7]
  refine Ai R2 ?_
  simp +contextual (disch:=omega) only[go_sem,e7]
  obtain⟨w3,U3,R3,H3⟩:=Dn H2 0 rfl (by rw[D7];exact hKl)
  refine Ai R3 ?_
  simp +contextual (disch:=omega) only[go_sem]
  refine⟨_,rfl,?_⟩
  have hE:Ay (Bh txLt K)=B8 s m o:=by
   rw[B8,hK]
   exact Ll Ku Mx (Bs _ _) (Jt Ku _)
  rw[<- hE]
  exact H3.one
theorem A9f (N:St) (cs:List GV) (s:State) (hR:A8.R N s cs) (o:ByteArray) (hl:A7 s<=1099511627776):∃ r U,Ret Tryz.prog 116 [.agg cs,.str o] N r U/\Hp N U [ow pS.kd r (B8 s false o)]:=by
 have hlen:cs.length=4:=A8.len hR
 refine Fm Ac4 (Z0z rfl) ?_
 have H:=(Hp.refl N).new 1 cs
 simp +contextual (disch:=omega) only[go_sem,A64,Lc,Bb hlen]
 obtain⟨r,U,R,K⟩:=O8 _ cs s (A8.pre hR H.sub) false o hl
 refine F6 R K ?_
 have H:=H.add K
 simp +contextual (disch:=omega) only[go_sem]
 exact⟨_,rfl,H.one⟩
theorem A6g (N:St) (cs:List GV) (s:State) (hR:A8.R N s cs) (o:ByteArray) (hl:A7 s<=1099511627776):∃ r U,Ret Tryz.prog 151 [.agg cs,.str o] N r U/\Hp N U [ow pS.kd r (B8 s true o)]:=by
 have hlen:cs.length=4:=A8.len hR
 refine Fm A9d (Z0z rfl) ?_
 have H:=(Hp.refl N).new 1 cs
 simp +contextual (disch:=omega) only[go_sem,A1b,Lc,Bb hlen]
 obtain⟨r,U,R,K⟩:=O8 _ cs s (A8.pre hR H.sub) true o hl
 refine F6 R K ?_
 have H:=H.add K
 simp +contextual (disch:=omega) only[go_sem]
 exact⟨_,rfl,H.one⟩
theorem A9g (N:St) (cs:List GV) (s:State) (hR:A8.R N s cs) (o:ByteArray) (hl:A7 s<=1099511627776):∃ r U,Ret Tryz.prog 105 [.agg cs,.str o] N r U/\Hp N U [ow pS.kd r (B8 s false o)]:=by
 have hlen:cs.length=4:=A8.len hR
 refine Fm Ac5 (Z0z rfl) ?_
 have H:=(Hp.refl N).new 1 cs
 simp +contextual (disch:=omega) only[go_sem,A66,Lc,Bb hlen]
 obtain⟨r,U,R,K⟩:=Rb _ cs s (A8.pre hR H.sub) false o hl
 refine F6 R K ?_
 have H:=H.add K
 simp +contextual (disch:=omega) only[go_sem]
 exact⟨_,rfl,H.one⟩
theorem A6h (N:St) (cs:List GV) (s:State) (hR:A8.R N s cs) (o:ByteArray) (hl:A7 s<=1099511627776):∃ r U,Ret Tryz.prog 144 [.agg cs,.str o] N r U/\Hp N U [ow pS.kd r (B8 s true o)]:=by
 have hlen:cs.length=4:=A8.len hR
 refine Fm A9e (Z0z rfl) ?_
 have H:=(Hp.refl N).new 1 cs
 simp +contextual (disch:=omega) only[go_sem,A1d,Lc,Bb hlen]
 obtain⟨r,U,R,K⟩:=Rb _ cs s (A8.pre hR H.sub) true o hl
 refine F6 R K ?_
 have H:=H.add K
 simp +contextual (disch:=omega) only[go_sem]
 exact⟨_,rfl,H.one⟩
theorem Ae8 {l:List Live} {i:Nat} (hi:i<l.length):Bh ltI ((l.take (i+1)).map (·.val))=insB ltI l[i].val (Bh ltI ((l.take i).map (·.val))):=by
 rw[Zac hi,Zay,Zam,Zaz,V8]
theorem A9h (N:St) (cs:List GV) (s:State) (hR:A8.R N s cs) (o k:ByteArray) (hl:A7 s<=1099511627776):∃ r U,Ret Tryz.prog 50 [.agg cs,.str o,.str k] N r U/\Hp N U [ow pI.kd r (Pp s o k)]:=by
 have hR0:=hR
 obtain⟨a,b,c,v,rfl,_,_,hv,_⟩:=hR
 obtain⟨l1,l2,l3,l4,_⟩:=Am hl
 refine Fm Ac6 (Z0z rfl) ?_
 have H:=((Hp.refl N).new 1 [a,b,c,v]).nil_int
 simp +contextual (disch:=omega) only[go_sem,A68,Jf,Bb (cs:=[a,b,c,v]) rfl]
 obtain⟨r1,U1,R1,K1⟩:=A39 _ _ s (A8.pre hR0 H.sub) true o k hl
 refine F6 R1 K1 ?_
 have H:=H.add K1
 simp only[Zas,Zav] at H
 generalize hL:Ju s true o k=L at*
 have hLl:L.length<=1099511627776:=by
  have:=Zaf (Bz true o k) s.lives
  rw[<- hL];unfold Ju;omega
 simp +contextual (disch:=omega) only[go_sem]
 refine Ho L.length 9 0 (fun i env U=>env 8=r1/\∃ w n1,env 7=w/\Hp N U [ow pI.kd w (Bh ltI ((L.take i).map (·.val))),ow Da.kd r1 L,pt 1 n1 [a,b,c,v]]) (fun env U=>∃ w,env 7=w/\Hp N U [ow pI.kd w (Bh ltI (L.map (·.val)))]) rfl ⟨rfl,_,_,rfl,(H.pick 1 rfl)⟩ ?_ ?_ ?_
 ·clear H
  rintro J Yq hJ hY i env U hi e9 c0 ⟨e8,w,n1,e7,H⟩
  have hlen:=(H.sl 1 rfl).len
  have hal:=D7 ltI ((L.take i).map (·.val))
  rw[Zai,Zao] at hal
  have hsn:=Ae8 hi
  generalize hacc:Bh ltI ((L.take i).map (·.val))=acc at*
  have H1:=H.nil_int
  simp +contextual (disch:=omega) only[go_sem,c0,e7,e8,e9,hlen]
  refine Ho acc.length 12 2 (fun j env U=>env 8=r1/\env 9=gi i/\env 7=w/\∃(u:GV) (put:Bool) (nxt:List Int),env 10=u/\env 11= .bool put/\insG ltI L[i].val acc nxt j put/\Hp N U [ow pI.kd u nxt,ow pI.kd w acc,ow Da.kd r1 L,pt 1 n1 [a,b,c,v]]) (fun env U=>env 8=r1/\env 9=gi i/\env 7=w/\∃(u:GV) (put:Bool) (nxt:List Int),env 10=u/\env 11= .bool put/\insG ltI L[i].val acc nxt acc.length put/\Hp N U [ow pI.kd u nxt,ow pI.kd w acc,ow Da.kd r1 L,pt 1 n1 [a,b,c,v]]) rfl ⟨by simp +contextual (disch:=omega) only[go_sem,e8],by simp +contextual (disch:=omega) only[go_sem,e9],by simp +contextual (disch:=omega) only[go_sem,e7],_,false,[],by simp +contextual (disch:=omega) only[go_sem],by simp +contextual (disch:=omega) only[go_sem],A31,H1⟩ ?_ ?_ ?_
  ·clear e7 e8 e9 H H1
   rintro J2 Yq2 hJ2 hY2 j env U hj e12 c1 ⟨e8,e9,e7,u,put,nxt,e10,e11,hok,H⟩
   have hnl:=G5 hok
   have i1:=Hz (H.sl 1 rfl) hj
   have hlen:=(H.sl 1 rfl).len
   have C1:=A3 (H.sl 2 rfl) hi
   cases put with
   |true=>
    obtain⟨w',U3,e5,H3⟩:=H.app_int 0 rfl acc[j] (by omega)
    simp +contextual (disch:=omega) only[go_sem,c1,e7,e8,e9,e10,e11,e12,i1,hlen,e5]
    refine hJ2 _ _ _ ⟨?_,?_,?_,w',true,_,?_,?_,I7 hok hj (.inl rfl),H3⟩
    all_goals simp +contextual (disch:=omega) only[go_sem,e7,e8,e9,e11]
   |false=>
    cases hlt:decide (L[i].val<acc[j]) with
    |false=>
     obtain⟨w',U3,e5,H3⟩:=H.app_int 0 rfl acc[j] (by omega)
     simp +contextual (disch:=omega) only[go_sem,c1,e7,e8,e9,e10,e11,e12,i1,hlen,C1,hlt,e5]
     refine hJ2 _ _ _ ⟨?_,?_,?_,w',false,_,?_,?_,I7 hok hj (.inr hlt),H3⟩
     all_goals simp +contextual (disch:=omega) only[go_sem,e7,e8,e9,e11]
    |true=>
     obtain⟨w',U3,e5,H3⟩:=H.app_int 0 rfl L[i].val (by omega)
     have H3:Hp N U3 [ow pI.kd w' (nxt++[L[i].val]),ow pI.kd w acc,ow Da.kd r1 L,pt 1 n1 [a,b,c,v]]:=H3
     have hp:=A32 hok hj hlt
     have hnl2:=G5 hp
     simp only[Zae,Zak,Zaq] at hnl2
     have i2:=Hz (H3.sl 1 rfl) hj
     obtain⟨w2,U4,e6,H4⟩:=H3.app_int 0 rfl acc[j] (by simp;omega)
     simp +contextual (disch:=omega) only[go_sem,c1,e7,e8,e9,e10,e11,e12,i1,hlen,C1,hlt,e5,i2,e6]
     refine hJ2 _ _ _ ⟨?_,?_,?_,w2,true,_,?_,?_,hp,H4⟩
     all_goals simp +contextual (disch:=omega) only[go_sem,e7,e8,e9,e11]
  ·clear e7 e8 e9 H H1
   rintro Yq2 hY2 env U e12 c1 ⟨e8,e9,e7,u,put,nxt,e10,e11,hok,H⟩
   have hlen:=(H.sl 1 rfl).len
   simp +contextual (disch:=omega) only[go_sem,c1,e7,e8,e9,e10,e11,e12,hlen]
   refine hY2 _ _ ⟨?_,?_,?_,u,put,nxt,?_,?_,hok,H⟩
   all_goals simp +contextual (disch:=omega) only[go_sem,e7,e8,e9,e10,e11]
  ·clear e7 e8 e9 H H1
   rintro env U ⟨e8,e9,e7,u,put,nxt,e10,e11,hok,H⟩
   have hnl:=G5 hok
   have hend:=A33 hok
   have C1:=A3 (H.sl 2 rfl) hi
   cases put with
   |true=>
    simp +contextual (disch:=omega) only[go_sem,e7,e8,e9,e10,e11]
    refine hJ _ _ _ ⟨?_,u,n1,?_,?_⟩
    all_goals first|(simp +contextual (disch:=omega) only[go_sem,e7,e8,e9,e10,e11];done)|skip
    rw[hsn,<-hend]
    exact(H.pick 1 rfl).drop1
   |false=>
    obtain⟨w',U3,e5,H3⟩:=H.app_int 0 rfl L[i].val (by omega)
    simp +contextual (disch:=omega) only[go_sem,e7,e8,e9,e10,e11,C1,e5]
    refine hJ _ _ _ ⟨?_,w',n1,?_,?_⟩
    all_goals first|(simp +contextual (disch:=omega) only[go_sem,e7,e8,e9,e10,e11];done)|skip
    rw[hsn,<-hend]
    exact(H3.pick 1 rfl).drop1
 ·clear H
  rintro Yq hY env U e9 c0 ⟨e8,w,n1,e7,H⟩
  rw[Zab] at H
  have hlen:=(H.sl 1 rfl).len
  simp +contextual (disch:=omega) only[go_sem,c0,e7,e8,e9,hlen]
  refine hY _ _ ⟨w,?_,H.one⟩
  simp +contextual (disch:=omega) only[go_sem,e7]
 ·clear H
  rintro env U ⟨w,e7,H⟩
  simp +contextual (disch:=omega) only[go_sem,e7]
  exact⟨_,rfl,by rw[Pp,hL];exact H⟩
theorem A9i (N:St) (cs:List GV) (s:State) (hR:A8.R N s cs) (o k:ByteArray) (hl:A7 s<=1099511627776):∃ r U,Ret Tryz.prog 106 [.agg cs,.str o,.str k] N r U/\Hp N U [ow pI.kd r (Pp s o k)]:=by
 have hR0:=hR
 obtain⟨a,b,c,v,rfl,_,_,hv,_⟩:=hR
 obtain⟨l1,l2,l3,l4,_⟩:=Am hl
 refine Fm Ac7 (Z0z rfl) ?_
 have H:=((Hp.refl N).new 1 [a,b,c,v]).nil_int
 simp +contextual (disch:=omega) only[go_sem,A6a,Jf,Bb (cs:=[a,b,c,v]) rfl]
 obtain⟨r1,U1,R1,K1⟩:=A3a _ _ s (A8.pre hR0 H.sub) true o k hl
 refine F6 R1 K1 ?_
 have H:=H.add K1
 simp only[Zas,Zav] at H
 generalize hL:Ju s true o k=L at*
 have hLl:L.length<=1099511627776:=by
  have:=Zaf (Bz true o k) s.lives
  rw[<- hL];unfold Ju;omega
 have hlen0:=(H.sl 0 rfl).len
 simp +contextual (disch:=omega) only[go_sem,hlen0]
 refine Ho L.length 16 0 (fun i env U=>env 14=r1/\env 15=gi L.length/\∃ w n1,env 7=w/\Hp N U [ow pI.kd w ((L.take i).map (·.val)),ow Da.kd r1 L,pt 1 n1 [a,b,c,v]]) (fun env U=>∃ w,env 7=w/\Hp N U [ow pI.kd w (L.map (·.val))]) rfl ⟨rfl,rfl,_,_,rfl,(H.pick 1 rfl)⟩ ?_ ?_ ?_
 ·clear H
  rintro J Yq hJ hY i env U hi e16 c0 ⟨e14,e15,w,n1,e7,H⟩
  have C1:=A3 (H.sl 1 rfl) hi
  have G:=H.grow (pre1 U (some (Blk.row 1 [.bool L[i].map,.str L[i].obj,.str L[i].key,gi L[i].val,gi L[i].dot.rep,gi L[i].dot.seq])))
  obtain⟨w',U3,e5,H3⟩:=G.app_int 0 rfl L[i].val (by simp;omega)
  simp +contextual (disch:=omega) only[go_sem,c0,e7,e14,e15,e16,C1,e5]
  refine hJ _ _ _ ⟨?_,?_,w',n1,?_,?_⟩
  all_goals first|(simp +contextual (disch:=omega) only[go_sem,e7,e14,e15,e16];done)|skip
  rw[Zac hi,Zay,Zam,Zaz]
  exact H3
 ·clear H
  rintro Yq hY env U e16 c0 ⟨e14,e15,w,n1,e7,H⟩
  rw[Zab] at H
  simp +contextual (disch:=omega) only[go_sem,c0,e7,e14,e15,e16]
  refine hY _ _ ⟨w,?_,H.one⟩
  simp +contextual (disch:=omega) only[go_sem,e7]
 ·clear H
  rintro env U ⟨w,e7,H⟩
  obtain⟨U2,R2,H2⟩:=Ly H 0 rfl (by simp;omega)
  simp +contextual (disch:=omega) only[go_sem,e7]
  refine Ai R2 ?_
  simp +contextual (disch:=omega) only[go_sem,e7]
  exact⟨_,rfl,by rw[Pp,hL];exact H2⟩
theorem A9j (N:St) (cs:List GV) (s:State) (hR:A8.R N s cs) (o:ByteArray) (hl:A7 s<=1099511627776):∃ r U,Ret Tryz.prog 107 [.agg cs,.str o] N r U/\Hp N U [ow pI.kd r (Lu s o)]:=by
 have hlen:=A8.len hR
 have hlen:cs.length=4:=hlen
 refine Fm Ac9 (Z0z rfl) ?_
 have H:=((Hp.refl N).new 1 cs).nil_int
 simp +contextual (disch:=omega) only[go_sem,A6e,Lc,Jf,Bb hlen]
 obtain⟨r1,U1,R1,K1⟩:=Z9 _ cs s (A8.pre hR H.sub) o hl
 have hb:=Aaw s o
 rw[Lu]
 generalize rowL s o=T at*
 refine F6 R1 K1 ?_
 have H:=H.add K1
 simp only[Zas,Zav] at H
 have hlen0:=(H.sl 0 rfl).len
 simp +contextual (disch:=omega) only[go_sem,hlen0]
 generalize hn1:N.length=n1 at*
 refine Pg T.length 13 (fun i env U=>env 11=r1/\env 12=gi T.length/\∃ u,env 5=u/\Hp N U [ow pI.kd u ((T.take i).map (·.val)),ow Aj.kd r1 T,pt 1 n1 cs]) rfl ⟨rfl,rfl,_,rfl,H.pick 1 rfl⟩ ?_ ?_
 ·clear H
  rintro J hJ i env U hi e13 c0 ⟨e11,e12,u,e5,H⟩
  have C1:=A5 (H.sl 1 rfl) hi
  have G:=H.grow (pre1 U (some (Blk.row 1 (A5s T[i]))))
  obtain⟨w',U3,e8,H3⟩:=G.app_int 0 rfl T[i].val (by simp;omega)
  simp +contextual (disch:=omega) only[go_sem,c0,e5,e11,e12,e13,C1,e8]
  refine hJ _ _ _ ⟨?_,?_,w',?_,?_⟩
  all_goals first|(simp +contextual (disch:=omega) only[go_sem,e5,e11,e12,e13];done)|skip
  rw[Zac hi,Zay,Zam,Zaz]
  exact H3
 ·clear H
  rintro env U e13 c0 ⟨e11,e12,u,e5,H⟩
  rw[Zab] at H
  simp +contextual (disch:=omega) only[go_sem,c0,e5,e11,e12,e13]
  exact⟨_,rfl,H.one⟩
theorem A9k (N:St) (cs:List GV) (s:State) (hR:A8.R N s cs) (o:ByteArray) (hl:A7 s<=1099511627776):∃ r U,Ret Tryz.prog 133 [.agg cs,.str o] N r U/\Hp N U [ow pI.kd r (Lu s o)]:=by
 have hlen:=A8.len hR
 have hlen:cs.length=4:=hlen
 refine Fm Ac8 (Z0z rfl) ?_
 have H:=((Hp.refl N).new 1 cs).nil_int
 simp +contextual (disch:=omega) only[go_sem,A6c,Lc,Jf,Bb hlen]
 refine Ag (Mv _ _ s (A8.pre hR H.sub) hl) (fun hok=> ?_) (fun hok=> ?_)
 rotate_left
 ·have e:Lu s o=[]:=by simp[Lu,rowL,hok]
  simp +contextual (disch:=omega) only[go_sem]
  exact⟨_,rfl,by rw[e];exact H.one⟩
 have e:Lu s o=((rowC s o).filter Ci).map (·.val):=by simp only[Lu,rowL,hok,if_true];rfl
 rw[e]
 simp +contextual (disch:=omega) only[go_sem,Lc,Jf,Bb hlen]
 obtain⟨r1,U1,R1,K1⟩:=A5u _ cs s (A8.pre hR H.sub) o hok hl
 refine F6 R1 K1 ?_
 have H:=H.add K1
 simp only[Zas,Zav] at H
 have hb:=O0 (Po hok) o
 generalize rowC s o=T at*
 simp +contextual (disch:=omega) only[go_sem]
 generalize hn1:N.length=n1 at*
 refine Pg T.length 7 (fun i env U=>env 6=r1/\∃ u,env 5=u/\Hp N U [ow pI.kd u (((T.take i).filter Ci).map (·.val)),ow Aj.kd r1 T,pt 1 n1 cs]) rfl ⟨rfl,_,rfl,H.pick 1 rfl⟩ ?_ ?_
 ·clear H
  rintro J hJ i env U hi e7 c0 ⟨e6,u,e5,H⟩
  have hfl:=C3 T Ci i
  have hsn:=A5w hi
  have C1:=A5 (H.sl 1 rfl) hi
  have hln:=(H.sl 1 rfl).len
  cases hg:T[i].gone with
  |true=>
   have hk0:Ci T[i]=false:=by simp[Ci,hg]
   rw[hk0,if_neg (by simp)] at hsn
   simp +contextual (disch:=omega) only[go_sem,c0,e5,e6,e7,hln,C1,hg]
   refine hJ _ _ _ ⟨?_,u,?_,by rw[hsn];exact H⟩
   all_goals simp +contextual (disch:=omega) only[go_sem,e5,e6,e7]
  |false=>
   have hk0:Ci T[i]=true:=by simp[Ci,hg]
   rw[hk0,if_pos rfl] at hsn
   obtain⟨w',U3,e8,H3⟩:=H.app_int 0 rfl T[i].val (by simp;omega)
   simp +contextual (disch:=omega) only[go_sem,c0,e5,e6,e7,hln,C1,hg,e8]
   refine hJ _ _ _ ⟨?_,w',?_,?_⟩
   all_goals first|(simp +contextual (disch:=omega) only[go_sem,e5,e6,e7];done)|skip
   rw[hsn,Zay,Zam,Zaz]
   exact H3
 ·clear H
  rintro env U e7 c0 ⟨e6,u,e5,H⟩
  rw[Zab] at H
  have hln:=(H.sl 1 rfl).len
  simp +contextual (disch:=omega) only[go_sem,c0,e5,e6,e7,hln]
  exact⟨_,rfl,H.one⟩
theorem A3d (s:State) (o k:ByteArray):(Pp s o k).length<=A7 s:=by
 have h2:(Ju s true o k).length<=s.lives.length:=Zaf _ _
 have h3:s.lives.length<=A7 s:=by unfold A7;omega
 rw[Pp,D7,Zai];omega
theorem A3e (s:State) (o:ByteArray):(Lu s o).length<=1200120:=by
 rw[Lu,Zai];exact Aaw s o
def Vx:Fn1:=⟨5,[.t 2],(rg [o 2 (.mov (.k s0))] (rg [oM 3 0,oC 4 249 3,oM 2 4] .ret))⟩
theorem A6i:A4 Tryz.prog 173=some Vx:=by kernel_rfl
def Ab0:Fn1:=⟨25,[.t 4],(rg [o 4 (.mov (.k s0))] (rg [o 8 (.lit 1 0 [] []),oM 5 8] (.seq (rg [oM 9 0,oN 10 9,oV 11 (ki 0)] (oH 0 (rg [oB 12 .lss 11 10] (.seq (oJ 12 0) (.seq (.blk 1 (rg [oI 13 1 9 11,oL 14 13,oM 7 14] (.reg [oM 15 5,oM 16 7,o 17 (.mm true (.t 16) (ki 0)),oC 18 173 17,o 19 (.lit 1 1 [s0] [(0,1,(.t 18))]),o 20 (.app 1 16 [s0] (.t 15) (.t 19)),oM 5 20]))) (.reg [oZ 21 11 1,oM 11 21])))))) (rg [oM 22 5,oM 23 1,oD 24 104 22 23,oM 4 24] .ret))))⟩
theorem Ae9:A4 Tryz.prog 102=some Ab0:=by kernel_rfl
def mx0 (n:Int):Int:=if(0:Int)>n then 0 else n
theorem A6j (n:Int):0<=mx0 n:=by unfold mx0;split<;>omega
theorem A6k {n m:Int} (h:n<=m) (h0:0<=m):mx0 n<=m:=by unfold mx0;split<;>omega
def Ax (l:List Int):List ByteArray:=l.map fun n=>itB (mx0 n)
def tolB (l:List Int) (sep:ByteArray):ByteArray:=joB (Ax l) sep
theorem Fr (b:ByteArray):b.data.toList.length=b.size:=by rw[Zbc];rfl
theorem Dp {n:Int} (h0:0<=n) (h1:n<=9223372036854775807):(itB n).size<=21:=by
 have:=Lib.itoa_length_le n (by omega) h1
 have e:=Fr (itB n)
 have e2:(itB n).data.toList=Lib.itoa n:=by simp[itB]
 rw[e2] at e;omega
theorem Ff {l:List Int} (h:∀ x∈l,x≤9223372036854775807):∀ s∈Ax l,s.size<=21:=fun s hs=>by
 obtain⟨n,hn,rfl⟩:=Za2.1 hs
 exact Dp (A6j n) (A6k (h n hn) (by omega))
theorem Ahj {l:List ByteArray} {b:Nat} (h:∀ x∈l,x.size<=b):Lib.lens (l.map (·.data.toList))<=l.length*b:=by
 induction l with
 |nil=>simp[Lib.lens]
 |cons x l ih=>
  have h1:=ih fun y hy=>h y (Za8 _ hy)
  have h2:=h x Zax
  have e:=Fr x
  simp only[Lib.lens,Zam,List.sum_cons,Zak,Zbl,Nat.one_mul] at h1 ⊢
  omega
theorem A9l {l:List ByteArray} {sep:ByteArray} {b:Nat} (h:∀ x∈l,x.size<=b):(Lib.join (l.map (·.data.toList)) sep.data.toList).length<=l.length*(b+sep.size):=by
 cases l with
 |nil=>simp[Lib.join_nil]
 |cons x l=>
  have h1:=Ahj (l:=l) fun y hy=>h y (Za8 _ hy)
  have h2:=h x Zax
  have e:=Fr x
  have e2:=Fr sep
  rw[Zam,Lib.join_cons,Zae,Lib.joinTail_length,Zai,Zak,Zbl,Nat.mul_add,Nat.mul_comm sep.data.toList.length]
  rw[e2]
  omega
theorem O9 (l:List ByteArray) (sep:ByteArray):(joB l sep).data.toList=Lib.join (l.map (·.data.toList)) sep.data.toList:=by simp[joB]
theorem Afd {l:List ByteArray} {sep:ByteArray} {b:Nat} (h:∀ x∈l,x.size<=b):(joB l sep).size<=l.length*(b+sep.size):=by
 rw[<- Fr,O9];exact A9l h
theorem Cx {a b:ByteArray} (h:a.data.toList=b.data.toList):a=b:=ByteArray.ext (Array.ext' h)
theorem Fh (a b:ByteArray):(a++b).data.toList=a.data.toList++b.data.toList:=by rw[ByteArray.data_append,Array.toList_append]
theorem Pu (x sep:ByteArray):joB [x] sep=x:=Cx (by rw[O9];simp[Lib.join_one])
theorem A3f {l:List ByteArray} (hl:l≠[]) (x sep:ByteArray):joB (l++[x]) sep=joB l sep++sep++x:=by
 cases l with
 |nil=>exact absurd rfl hl
 |cons y l=>
  refine Cx ?_
  rw[Fh,Fh,O9,O9,Zas,Zam,Zam,Lib.join_cons,Lib.join_cons,Zay]
  simp[Lib.joinTail]
theorem G8 (N:St) (n:Int) (h0: -9223372036854775808<=n) (h1:n<=9223372036854775807):Ret Tryz.prog 173 [gi n] N (.str (itB n)) N:=by
 refine Jj A6i (Z0z rfl) trivial ?_
 simp +contextual (disch:=omega) only[go_sem,Vx]
 refine by_r (Hx.refl N) (Af4 N n h0 h1) ?_
 simp +contextual (disch:=omega) only[go_sem]
theorem M0 {l:List Int} {i:Nat} (h:i<l.length):Ax (l.take (i+1))=Ax (l.take i)++[itB (mx0 l[i])]:=Mm h
theorem A1e (N:St) (v:GV) (l:List Int) (hR:RS pI.kd N v l) (sep:ByteArray) (hs:sep.size<=8) (hI:∀ x∈l,x≤9223372036854775807) (hl:l.length<=1099511627776):Ret Tryz.prog 102 [v,.str sep] N (.str (tolB l sep)) N:=by
 refine Jj Ae9 (Z0z rfl) trivial ?_
 simp +contextual (disch:=omega) only[go_sem,Ab0,hR.len]
 intro n f U H
 have H:=H.emp pS.kd rfl
 refine Cr l.length 11 0 (fun i env h=>env 1= .str sep/\env 9=v/\env 10=gi l.length/\∃ u,env 5=u/\h=[.th (ow pS.kd u (Ax (l.take i)))]) (fun env h=>env 1= .str sep/\∃ u,env 5=u/\h=[.th (ow pS.kd u (Ax l))]) (fun env h=>False) _ H (by simp +contextual (disch:=omega) only[go_sem]) ⟨by simp +contextual (disch:=omega) only[go_sem],by simp +contextual (disch:=omega) only[go_sem],by simp +contextual (disch:=omega) only[go_sem],_,by simp +contextual (disch:=omega) only[go_sem],rfl⟩ ?_ ?_ ?_ (fun _ _ _ _ h=>h.elim)
 ·rintro J Yq Wq hJ hY hW i env h U hi ei c0 H ⟨e1,e9,e10,u,e5,rfl⟩
  have L1:=Hz (hR.pre H.sub) hi
  have hx:=hI _ (Zal hi)
  have hmx:(if (0:Int)>l[i] then 0 else l[i])=mx0 l[i]:=rfl
  simp +contextual (disch:=omega) only[go_sem,c0,e1,e9,e10,e5,ei,A1,Ed H L1.2,L1,hmx]
  have m0:=A6j l[i]
  have m1:=A6k hx (by omega)
  refine by_r H (G8 U (mx0 l[i]) (by omega) m1) ?_
  simp +contextual (disch:=omega) only[go_sem,e5]
  intro n f U2 H2
  refine Pj (p:=pS) H2 1 rfl (itB (mx0 l[i])) Pi (by decide) (by rw[Ax,Zai,Zao];omega) fun w' U4 H4=> ?_
  simp +contextual (disch:=omega) only[go_sem,e1,e9,e10,ei]
  exact hJ _ _ _ _ (H4.re [1] (by decide)) ⟨by simp +contextual (disch:=omega) only[go_sem,e1],by simp +contextual (disch:=omega) only[go_sem,e9],by simp +contextual (disch:=omega) only[go_sem,e10],w',by simp +contextual (disch:=omega) only[go_sem],by rw[M0 hi];rfl⟩
 ·rintro Yq hY env h U ei c0 H ⟨e1,e9,e10,u,e5,rfl⟩
  rw[Zab] at H
  simp +contextual (disch:=omega) only[go_sem,c0,e10,ei]
  exact hY _ _ _ H ⟨by simp +contextual (disch:=omega) only[go_sem,e1],u,by simp +contextual (disch:=omega) only[go_sem,e5],rfl⟩
 ·rintro env h U H ⟨e1,u,e5,rfl⟩
  obtain⟨fp,ho,_⟩:=H.hp.see (i:=0) rfl
  simp +contextual (disch:=omega) only[go_sem,e1,e5]
  have hn:(Ax l).length=l.length:=by simp[Ax]
  have hj:=A9l (l:=Ax l) (sep:=sep) (Ff hI)
  refine by_r H (Aao U u (Ax l) fp ho sep (by omega) (by
   have:(Ax l).length*(21+sep.size)<=1099511627776*29:=Nat.mul_le_mul (by omega) (by omega)
   omega)) ?_
  simp +contextual (disch:=omega) only[go_sem]
  exact fun _=>rfl
def Ob:Fn1:=⟨12,[.t 2],(rg [o 2 (.mov (.k (.int .u8 0)))] (.seq (rg [oM 3 0,oE 4 .lss 3 10] (oG 4 (rg [oM 5 0,o 6 (.bin .add (ki 48) (.t 5)),o 7 (.cvi .u8 (.t 6)),oM 2 7] .ret))) (rg [oM 8 0,o 9 (.bin .add (ki 97) (.t 8)),oE 10 .sub 9 10,o 11 (.cvi .u8 (.t 10)),oM 2 11] .ret)))⟩
theorem Za:A4 Tryz.prog 237=some Ob:=by kernel_rfl
def M2:Fn1:=⟨30,[.t 2],(rg [o 2 (.mov (.k s0))] (.seq (rg [oM 6 0,oE 7 .eql 6 0] (oG 7 (rg [o 2 (.mov (.k (.str ⟨#[48]⟩)))] .ret))) (rg [oM 8 0,oE 9 .lss 8 0,oM 3 9] (rg [o 4 (.mov (.k s0))] (.seq (oH 0 (.seq (rg [oM 10 0,oE 11 .neq 10 0] (oJ 11 0)) (.blk 1 (rg [oM 12 0,oE 13 .rem 12 10,oM 5 13] (.seq (rg [oM 14 5,oE 15 .lss 14 0] (oG 15 (.reg [oM 16 5,o 17 (.un .neg (.t 16)),oM 5 17]))) (rg [oM 18 5,oC 19 237 18,o 20 (.lit 1 1 [(.int .u8 0)] [(0,1,(.t 19))]),o 21 (.bts (.t 20)),oM 22 4,oB 23 .add 21 22,oM 4 23] (.reg [oM 24 0,oE 25 .quo 24 10,oM 0 25]))))))) (.seq (rg [oM 26 3] (oG 26 (rg [oM 27 4,o 28 (.bin .add (.k (.str ⟨#[45]⟩)) (.t 27)),oM 2 28] .ret))) (rg [oM 29 4,oM 2 29] .ret)))))))⟩
theorem A6l:A4 Tryz.prog 159=some M2:=by kernel_rfl
theorem Vz (N:St) (d:Nat) (hd:d<10):Ret Tryz.prog 237 [gi d] N (.int .u8 (48+d)) N:=by
 have c1:decide ((d:Int)<10)=true:=decide_eq_true (by omega)
 have hw:IntKind.u8.wrap (48+(d:Int))=48+(d:Int):=wrap8 (by omega) (by omega)
 refine Jj Za (Z0z rfl) trivial ?_
 simp +contextual (disch:=omega) only[go_sem,Ob,c1,hw]
def ddL (k:Nat):List UInt8:=if k=0 then[] else Lib.decDigits k
theorem Afe {k:Nat} (h:k≠0):ddL k=ddL (k / 10)++[UInt8.ofNat (48+k % 10)]:=by
 unfold ddL
 rw[if_neg h,Lib.decDigits]
 by_cases h1:k<10
 ·rw[dif_pos h1,if_pos (by omega),Nat.mod_eq_of_lt h1];rfl
 ·rw[dif_neg h1,if_neg (by omega)]
theorem Ab1 {Y:Type} {x y:Y}:(if (10:Int)=0 then x else y)=y:=by rw[if_neg (by omega)]
theorem tmod10 (k:Nat):(k:Int).tmod 10=((k % 10:Nat):Int):=by rw[Int.tmod_eq_emod_of_nonneg (by omega)];omega
theorem tdiv10 (k:Nat):(k:Int).tdiv 10=((k / 10:Nat):Int):=by rw[Int.tdiv_eq_ediv_of_nonneg (by omega)];omega
theorem A9m (u:Nat):(itB u).data.toList=Lib.decDigits u:=by simp[itB,Lib.itoa_nonneg]
theorem Ab2:itB 0=⟨#[48]⟩:=Cx (by have:=A9m 0;rw[Za9] at this;rw[this,Lib.decDigits_one (by omega)];rfl)
theorem Ahk (d:Nat):(txt [48+(d:Int)]).data.toList=[UInt8.ofNat (48+d)]:=by
 have:(48+(d:Int)).toNat=48+d:=by omega
 simp[txt,this]
theorem Eq (N:St) (u:Nat) (h1:u<=9223372036854775807):Ret Tryz.prog 159 [gi u] N (.str (itB u)) N:=by
 refine Jj A6l (Z0z rfl) trivial ?_
 by_cases h0:u=0
 ·subst h0
  simp +contextual (disch:=omega) only[go_sem,M2,Za9,beq_self_eq_true]
  exact fun _=>Ab2.symm
 have c0:((u:Int)==0)=false:=by simpa using h0
 have c1:decide ((u:Int)<0)=false:=decide_eq_false (by omega)
 have hd:(Lib.decDigits u).length<=21:=by
  have:=Dp (n:=u) (by omega) (by omega)
  rw[<- Fr,A9m] at this;exact this
 simp +contextual (disch:=omega) only[go_sem,M2,c0,c1]
 refine Tm u 0 (fun k env h=>k<=u/\env 0=gi k/\env 3= .bool false/\(∃ t,env 4= .str t/\ddL k++t.data.toList=Lib.decDigits u)/\h=[]) (fun env h=>env 3= .bool false/\env 4= .str (itB u)) (fun env h=>False) _ (Hx.refl N) ⟨Zaa _,by simp +contextual (disch:=omega) only[go_sem],by simp +contextual (disch:=omega) only[go_sem],⟨⟨#[]⟩,by simp +contextual (disch:=omega) only[go_sem],by simp[ddL,h0]⟩,rfl⟩ ?_ ?_ (fun _ _ _ _ h=>h.elim)
 ·rintro J Yq Wq hJ hY hW k env h U H ⟨hk,e0,e3,⟨t,e4,ht⟩,rfl⟩
  have hts:t.size<=21:=by
   rw[<- Fr]
   have:=congrArg Zbm ht
   rw[Zae] at this;omega
  by_cases hz:k=0
  ·subst hz
   simp +contextual (disch:=omega) only[go_sem,e0,Za9,bne_self_eq_false]
   refine hY _ _ _ H ⟨by simp +contextual (disch:=omega) only[go_sem,e3],?_⟩
   simp +contextual (disch:=omega) only[go_sem,e4]
   refine Cx ?_
   rw[A9m,<-ht];rfl
  ·have b1:((k:Int) != 0)=true:=by simpa using hz
   have b2:decide (((k % 10:Nat):Int)<0)=false:=decide_eq_false (by omega)
   simp +contextual (disch:=omega) only[go_sem,e0,b1,Ab1,tmod10,b2]
   refine by_r H (Vz U (k % 10) (by omega)) ?_
   simp +contextual (disch:=omega) only[go_sem]
   intro n f U2 H2
   have hu:=u8_at (A0e (p:=pB) (x:=48+((k % 10:Nat):Int)) (H2.hp.pt 0 rfl))
   have hsz:(txt [48+((k % 10:Nat):Int)]).size+t.size<=9223372036854775807:=by rw[Af1];simp;omega
   simp +contextual (disch:=omega) only[go_sem,hu,e4,e0,hsz,Ab1,tdiv10]
   refine⟨k / 10,by omega,hJ _ _ _ _ (H2.re [] (by decide)) ⟨by omega,by simp +contextual (disch:=omega) only[go_sem],by simp +contextual (disch:=omega) only[go_sem,e3],⟨txt [48+((k % 10:Nat):Int)]++t,by simp +contextual (disch:=omega) only[go_sem],?_⟩,rfl⟩⟩
   rw[Fh,Ahk,<-Zar,<-Afe hz];exact ht
 ·rintro env h U H ⟨e3,e4⟩
  simp +contextual (disch:=omega) only[go_sem,e3,e4]
theorem X0 (b:ByteArray):(⟨#[]⟩:ByteArray)++b=b:=Cx (by rw[Fh];rfl)
def stI (s:State):Prop:=(∀ x∈s.lives,x.val<=9223372036854775807)/\∀ x∈s.cells,x.val<=9223372036854775807
theorem X1 {s:State} (h:stI s) (o k:ByteArray):∀ x∈Pp s o k,x≤9223372036854775807:=fun x hx=>by
 unfold Pp at hx
 obtain⟨y,hy,rfl⟩:=Za2.1 ((Bs _ _).mem_iff.1 hx)
 exact h.1 y (Zau.1 hy).1
theorem X2 {s:State} (h:stI s) (o:ByteArray):∀ x∈Lu s o,x≤9223372036854775807:=fun x hx=>by
 obtain⟨c,hc,rfl⟩:=Za2.1 hx
 obtain⟨T,_,h2,_,h4⟩:=rowT s o
 rw[h2] at hc
 obtain⟨k,hk,_,e⟩:=h4 c (Zau.1 hc).1
 exact h.2 c (e ▸ Zal hk)
theorem Oc (s:State) (o:ByteArray):∀ x∈[By s o],x≤9223372036854775807:=fun x hx=>by
 have:=Vg (l:=s.tallies) (o:=o) (n:=0) (by decide)
 rw[Zbd] at hx
 subst hx
 unfold By;omega
theorem Od {s:State} {n:Nat} (h:A7 s<=n) (m:Bool) (o:ByteArray):∀ x∈B8 s m o,x.size<=n:=fun x hx=>by
 have:=((Lt (lt:=txLt) (fun x y z=>Ga) Mx _).2 x).1 hx
 obtain⟨l,hl,rfl⟩:=Za2.1 this
 have h6:l.obj.size+l.key.size<=sumL Bk s.lives:=Cj (f:=Bk) (Zau.1 hl).1
 unfold A7 at h;omega
theorem sz1 {a:UInt8}:(#[a]:Array UInt8).size=1:=rfl
section
variable {Y:Type} {d:En Y} {N U:St} {v:GV} {l:List Y}
end
def SPtr (N0 U:St) (g:Nat) (s:State) (rest:List Thg):Prop:=∃ v0 v1 v2 v3,Hp N0 U (ow pI.kd v0 s.know::ow Dz.kd v1 s.tallies::ow Da.kd v2 s.lives::ow Aj.kd v3 s.cells::pt 1 g [v0,v1,v2,v3]::rest)
theorem SPtr.own {N U:St} {rs:List Thg} {x:State} {g:Nat} (H:SPtr N U g x rs):∃ v0 v1 v2 v3,rdB U g=some [v0,v1,v2,v3]/\lenG false v1=some (x.tallies.length:Int)/\lenG false v2=some (x.lives.length:Int)/\lenG false v3=some (x.cells.length:Int)/\Hp N U (own A8 [v0,v1,v2,v3] x::rs):=by
 obtain⟨v0,v1,v2,v3,H⟩:=H
 refine⟨v0,v1,v2,v3,H.pt 4 rfl,(H.sl 1 rfl).len,(H.sl 2 rfl).len,(H.sl 3 rfl).len,?_⟩
 exact Hp.ownState ((H.pick 4 rfl).drop1)
structure OkS (s:State):Prop where
 kn:okK s.know=true
 tl:s.tallies.Pairwise fun a b=>Db a b=true
 t1:∀ t∈s.tallies,tal1 t=true
 tn:s.tallies.length<=120
 ll:s.lives.Pairwise fun a b=>Ck a.dot b.dot=true
 l1:∀ x∈s.lives,Gj s.know x.dot=true/\liv1 x=true
 ln:s.lives.length<=120
 cl:s.cells.Pairwise fun a b=>Ck a.dot b.dot=true
 c1:∀ x∈s.cells,Gj s.know x.dot=true/\cel1 x=true
 cn:s.cells.length<=120
 rf:∀ c∈s.cells,c.ref=d0∨∃ y∈s.cells,y.dot=c.ref/\y.obj=c.obj/\y.time<c.time
theorem A3g {Y:Type} {lt:Y->Y->Bool} {l:List Y} (h:l.Pairwise fun a b=>lt a b=true) (i:Nat) (hi:i<l.length):upI lt l i=true:=by
 by_cases h0:i=0
 ·subst h0;rfl
 ·rw[Jm h0 hi (by omega)]
  exact Zap.1 h (i - 1) i (by omega) hi (by omega)
theorem Hr {Y:Type} {l:List Y} {p:Y->Bool}:(∀ i,i<l.length->onI l i p=true)↔∀ x∈l,p x=true:=by
 constructor
 ·intro h x hx
  obtain⟨i,hi,rfl⟩:=Zaw hx
  have:=h i hi
  rwa [Bx hi] at this
 ·intro h i hi
  rw[Bx hi];exact h _ (Zal hi)
theorem Aff {l:List Cell} (h:l.Pairwise fun a b=>Ck a.dot b.dot=true) {x y:Cell} (hx:x∈l) (hy:y∈l) (e:x.dot=y.dot):x=y:=by
 obtain⟨i,hi,rfl⟩:=Zaw hx
 obtain⟨j,hj,rfl⟩:=Zaw hy
 rcases Nat.lt_trichotomy i j with h1|h1|h1
 ·have:=Zap.1 h i j hi hj h1
  rw[e,Jl] at this;cases this
 ·subst h1;rfl
 ·have:=Zap.1 h j i hj hi h1
  rw[e,Jl] at this;cases this
theorem Aca {l:List Cell} (h:l.Pairwise fun a b=>Ck a.dot b.dot=true) {y:Cell} (hy:y∈l):∃ k,F0 l y.dot=some k/\∃ hk:k<l.length,l[k]=y:=by
 cases hc:F0 l y.dot with
 |none=>
  exfalso
  have:=List.findIdx?_eq_none_iff.1 hc y hy
  simp at this
 |some k=>
  obtain⟨hk,e⟩:=Dt hc
  exact⟨k,rfl,hk,Aff h (Zal hk) hy e⟩
theorem A9n {s:State}:C9 s=true↔OkS s:=by
 unfold C9
 simp only[Zaj]
 constructor
 ·rintro⟨h1,h2,h3,h4,h5⟩
  have hc:=A8p h4
  have hl:=Af6 h3
  simp only[I1,Zaj,D5,talP,decide_eq_true_eq] at h2
  simp only[Li,Zaj,D5,livP,decide_eq_true_eq] at h3
  simp only[Jn,Zaj,D5,celP,decide_eq_true_eq] at h4
  refine {kn:=h1,tl:=A2t (lt:=Db) (fun a b c=>Ae0.trans a b c) fun i hi=>(h2.1 i hi).2,t1:=Hr.1 fun i hi=>(h2.1 i hi).1,tn:=h2.2,ll:=hl,l1:=fun x hx=>⟨Hr.1 (fun i hi=>(h3.1 i hi).1) x hx,Hr.1 (fun i hi=>(h3.1 i hi).2.1) x hx⟩,ln:=h3.2,cl:=hc,c1:=fun x hx=>⟨Hr.1 (fun i hi=>(h4.1 i hi).1) x hx,Hr.1 (fun i hi=>(h4.1 i hi).2.1) x hx⟩,cn:=h4.2,rf:=fun c hcm=> ?_}
  have:=Zbk.1 h5 c hcm
  unfold ref1 at this
  simp only[Zbo,decide_eq_true_eq] at this
  refine this.imp (fun h=>h) fun h=> ?_
  split at h
  ·cases h
  ·rename_i k hk
   obtain⟨hkl,e⟩:=Dt hk
   rw[Bx hkl] at h
   simp only[Zaj,decide_eq_true_eq] at h
   exact⟨_,Zal hkl,e,h.1,h.2⟩
 ·intro h
  refine⟨h.kn,?_,?_,?_,?_⟩
  ·simp only[I1,Zaj,D5,talP,decide_eq_true_eq]
   exact⟨fun i hi=>⟨Hr.2 h.t1 i hi,A3g h.tl i hi⟩,h.tn⟩
  ·simp only[Li,Zaj,D5,livP,decide_eq_true_eq]
   exact⟨fun i hi=>⟨Hr.2 (fun x hx=>(h.l1 x hx).1) i hi,Hr.2 (fun x hx=>(h.l1 x hx).2) i hi,A3g (lt:=Gy) h.ll i hi⟩,h.ln⟩
  ·simp only[Jn,Zaj,D5,celP,decide_eq_true_eq]
   exact⟨fun i hi=>⟨Hr.2 (fun x hx=>(h.c1 x hx).1) i hi,Hr.2 (fun x hx=>(h.c1 x hx).2) i hi,A3g (lt:=J3) h.cl i hi⟩,h.cn⟩
  ·refine Zbk.2 fun c hc=> ?_
   unfold ref1
   simp only[Zbo,decide_eq_true_eq]
   refine(h.rf c hc).imp (fun h=>h) fun⟨y,hy,e1,e2,e3⟩=> ?_
   obtain⟨k,hk,hkl,ek⟩:=Aca h.cl hy
   rw[<- e1,hk]
   simp only
   rw[Bx hkl,ek]
   simp[e2,e3]
structure Fits (s:State) (a:Act):Prop where
 dot:In a.dot=true
 seq:a.dot.seq=at0 s.know a.dot.rep+1
 new:Gj s.know a.dot=false
 kn:okK (s.know.set a.dot.rep.toNat a.dot.seq)=true
 mono:∀ d,Gj s.know d=true->Gj (s.know.set a.dot.rep.toNat a.dot.seq) d=true
 self:Gj (s.know.set a.dot.rep.toNat a.dot.seq) a.dot=true
theorem OkS.time {s:State} (h:OkS s):∀ c∈s.cells,1≤c.time/\c.time<=10000:=fun c hc=>by
 have:=(h.c1 c hc).2
 simp only[cel1,Zaj,Tn] at this
 exact this.2.2
end Go.Proofs.YtnknigikcdgebaaGreatDoor.Sy
